/-
  Part 9 of what the law TopDesk reaches: the plain machine, contracts of the functions and plain laws; each lemma says its own condition.
-/
import Derived.Test.YtajdadcdcpnedaaGreatDoorTopDesk8
import Derived.Test.YtajdadcdcpnedaaGreatDoorTopDesk6
set_option linter.unusedVariables false
set_option linter.unusedSimpArgs false
namespace Go.Proofs.YtajdadcdcpnedaaGreatDoor.AM
open Go Go.RowKit
set_option maxRecDepth 100000
set_option maxHeartbeats 2000000
def lp(s:BS):er:=⟨iX s 0,iX s 1,(kY (nK s 2).1).1⟩
def sQ(s:BS):Bool:=(nK s 2).2&&(decide ((kY (nK s 2).1).2=0)&&decide (ir (lp s)=0))
def H3:AC:=qr [qo 1 (.box 9 1 (.t 0)),qo 2 (.alloc 96 Lb),qo 3 (.mov (.c (.bool false)))] (qr [qo 4 (.alloc 4 [(.bool false)]),⟨none,none,.store 1 (.t 4) (.c (.bool true))⟩] (qr [qa 8 253 [.t 1,.t 4],qa 9 253 [.t 1,.t 4],qo 10 (.build Lb [(0,1,(.t 8)),(1,1,(.t 9))]),qo 5 (.alloc 96 Lb),qs 3 5 10] (qr [ql 12 1,qa 13 254 [.t 12],qm 11 13,qx 14 0 11,qx 15 1 11,qm 6 14,qm 7 15] (qr [qm 16 6,qf 17 2 5,qs 1 17 16] (qq (.region true [qd 18 3 5,ql 19 4,qm 20 19,qg 21 20 true (.mov (.t 7)),qg 22 20 true (.bin .eql (.t 21) (qk 0)),qo 23 (.pick (.t 20) (.t 22) (.c (.bool false))),qm 24 23,qg 25 24 true (.loadn 3 (.t 5)),qg 26 24 true (.call 127 [.t 25]),qg 27 24 true (.bin .eql (.t 26) (qk 0)),qo 28 (.pick (.t 24) (.t 27) (.c (.bool false))),qs 3 2 18,qm 3 28]) .ret)))))
theorem P4:fF Tryz.prog 238 Tryz.f238 H3 [.cn 2 3,.t 3] 1 dS:=⟨Tryz.func238,by decide+kernel,by kernel_rfl,by kernel_rfl,by decide+kernel⟩
theorem P5(P:Prim)(hP:P=cp)(T F:cm)(s:BS)(hs:s.length<=maxLen)(j:TP T)(u:BS->List (List V))(v:BS->Int)
  (c:∀s,s.length<=maxLen->hJ T 254 [.str s] (.tup [.sl false 3 (u s),qI (v s)]))(x:Int->Int->BS->Int)(h:∀w q s,s.length<=maxLen->hJ F 127 [.agg [qI w,qI q,.sl false 3 (u s)]] (qI (x w q s)))
  (rw i:Int)(rd:List (List V))(ro:Bool)(y:rw=iX s 0)(z:i=iX s 1)(k:rd=u (nK s 2).1)(a:ro=((nK s 2).2&&(decide (v (nK s 2).1=0)&&decide (x rw i (nK s 2).1=0))))
  (R:S->Prop)(A:∀G s' w q d b,w=rw/\q=i/\d=rd/\b=ro->cd G s'->ia [.cn 2 3,.t 3] [.agg [qI w,qI q,.sl false 3 d],.bool b] s'->R G):gE P T F H3 (S0 [.str s] Hp.emp) R (λ_ _=>False) R:=by
 cbv;intro H;cbv;intro f;cbv;intro I;cbv
 repeat' first|(refine qA ?_;cbv)|(intro f;cbv)
 refine j _ _ _ _ s true _ _ hs rfl rfl rfl λs1 l v1 h1=>?_;obtain⟨m,n⟩:=h1;have e1:(s1,l)=nK s 1:=m;have l1:s1.length<=maxLen:=by have:=px s 1;rw[<-e1] at this;exact aV this hs
 cbv;refine j _ _ _ _ s1 l _ _ l1 rfl rfl rfl λs2 o v2 h2=>?_;obtain⟨p,r⟩:=h2;have B:(s2,o)=nK s 2:=by rw[p,e1];rfl
 have C:rw=v1:=by rw[n,y];rfl
 have D:i=v2:=by rw[r,z,e1];rfl
 have l2:s2.length<=maxLen:=by have:=px s 2;rw[<-B] at this;exact aV this hs
 rw[<-B] at k a;subst C D;have c1:=c s2 l2;have E:=h rw i s2 l2;rw[<-k] at c1 E;clear m n p r c h e1 l1 B;simp only[] at a
 generalize v s2=e at c1 a
 generalize x rw i s2=q0 at E a
 cbv;intro J;cbv
 repeat' first|(refine qA ?_;cbv)|(intro f;cbv)|(refine c1 _ _ ?_;cbv)|fail
 rcases o with _|_
 ·cbv;exact A _ _ _ _ _ _ ⟨rfl,rfl,rfl,a.symm⟩ (cd.refl _) ⟨rfl,rfl,ax 0,ak 3,rfl⟩
 ·cbv
  repeat' first|(refine qA ?_;cbv)|(intro f;cbv)
  refine a6 (λg=>?_) (λg=>?_)
  ·have he:=mz hP g;cbv
   repeat' first|(refine qA ?_;cbv)|(intro f;cbv)|(refine E _ _ ?_;cbv)|fail
   exact A _ _ _ _ _ _ ⟨rfl,rfl,rfl,by rw[a,he];subst hP;rfl⟩ (cd.refl _) ⟨rfl,rfl,ax 0,ak 3,rfl⟩
  ·have he:=mA hP g;cbv
   repeat' first|(refine qA ?_;cbv)|(intro f;cbv)
   exact A _ _ _ _ _ _ ⟨rfl,rfl,rfl,by rw[a,bS he];rfl⟩ (cd.refl _) ⟨rfl,rfl,ax 0,ak 3,rfl⟩
theorem Bu{d:List Part}(h:cR d=0):fV d:=by
 have a:maxLen=9223372036854775807:=by decide
 obtain⟨h1,h2,_⟩:=gw h;refine⟨qW,λp hp=>?_⟩;have:=gU (h2 p hp);exact⟨by unfold kA;omega,by unfold kA;omega,qW⟩
theorem uB(s:BS):fV (kY s).1:=by
 unfold kY
 split
 ·exact⟨bc _,by simp⟩
 ·split
  ·rename_i h;exact Bu h.2
  ·exact⟨bc _,by simp⟩
theorem P6(s:BS)(hs:s.length<=maxLen):Spec Tryz.prog 238 [.str s] Hp.emp (Is (.tup [.agg (bd (lp s)),.bool (sQ s)])):=
 ed hW P4 [.agg (bd (lp s)),.bool (sQ s)] (.tup _ (λv hv=>by
  rcases ah.1 hv with rfl|hv
  ·exact .agg _ (by intro v hv;simp[bd] at hv;rcases hv with rfl|rfl|rfl;exact .int _ _;exact .int _ _;exact .sl _ _ (fL _))
  ·rw[ag.1 hv];exact .bool _)) λR a=>P5 cp rfl _ _ s hs U5 (λs=>(kY s).1.map a7) (λs=>(kY s).2) (λs hs=>jP (Hl s hs) rfl rfl) (λw q s=>ir ⟨w,q,(kY s).1⟩)
   (λw q s hs=>yu (Bg ⟨w,q,(kY s).1⟩ (uB s)) (λh=>.cons (.same _) .nil) rfl) (iX s 0) (iX s 1) _ (sQ s) rfl rfl rfl rfl R
  λc s' w q d b h he hr=>by
   obtain⟨h1,h2,h3,h4⟩:=h;refine a c s' he ?_;rw[h1,h2,h3,h4] at hr;exact hr
def iQ(tb:Nat->Int)(w:Nat)(q n:Int):Nat->Int:=λj=>if j=2*w then q else if j=2*w+1 then n else tb j
def nQ(gn b:Int)(tx:BS)(fs tb:Nat->Int)(rv:V)(wh:Bool)(gd:Int):List V:=[.int .i64 gn,.int .i64 b,.str tx,.int .i64 (fs 0),.int .i64 (fs 1),.int .i64 (fs 2),.int .i64 (fs 3),.int .i64 (fs 4),.int .i64 (fs 5),.int .i64 (fs 6),.int .i64 (fs 7),.int .i64 (fs 8),.int .i64 (fs 9),.int .i64 (fs 10),.int .i64 (fs 11),.int .i64 (fs 12),.int .i64 (fs 13),.int .i64 (fs 14),.int .i64 (fs 15),.int .i64 (tb 0),.int .i64 (tb 1),.int .i64 (tb 2),.int .i64 (tb 3),.int .i64 (tb 4),.int .i64 (tb 5),.int .i64 (tb 6),.int .i64 (tb 7),.int .i64 (tb 8),.int .i64 (tb 9),.int .i64 (tb 10),.int .i64 (tb 11),.int .i64 (tb 12),.int .i64 (tb 13),.int .i64 (tb 14),.int .i64 (tb 15),rv,.bool wh,.int .i64 gd]
def FE(bl:Nat)(r:List V):Ob:=⟨some bl,100,38,[r]⟩
def il(ba:Option Nat)(rows:List (List V)):Ob:=⟨ba,96,3,rows⟩
def xC:AC:=qr [qo 3 (.box 96 3 (.t 1))] (qq (.region true [qm 4 0,qm 5 0,qn 6 5,qf 7 35 6,ql 8 7,qd 9 3 3,qo 10 (.bslice 96 3 [.t 9]),qo 11 (.append 96 3 40 (.t 8) (.t 10)),qn 12 4,qf 13 35 12,qs 1 13 11]) (.region true [qm 14 0,qf 15 0 3,ql 16 15,qf 17 1 3,ql 18 17,qm 19 0,qn 20 19,qf 21 1 20,ql 22 21,qm 23 0,qn 24 23,qf 25 35 24,ql 26 25,qo 27 (.len false (.t 26)),qb 28 .add 22 27,qo 29 (.build K1 [(0,1,(.t 18)),(1,1,(.t 28))]),qn 30 14,qf 31 19 30,qo 32 (.iarr 8 2 (.t 31) (.t 16)),qs 2 32 29]))
theorem CK:fF Tryz.prog 70 Tryz.f70 xC [] 2 dS:=⟨Tryz.func70,by decide+kernel,by kernel_rfl,by kernel_rfl,by decide+kernel⟩
theorem MB(P:Prim)(hP:P=cp)(T m:cm)(bl:Nat)(ba:Option Nat)(gn b gd:Int)(tx:BS)(fs tb:Nat->Int)(wh:Bool)(n:Nat)(rows:List (List V))(hn:n=rows.length)(o:n<=100)(w:Nat)(hw:w<8)(c q:Int)(k:c=(w:Int))(e:List (List V))(hb:0<=b/\b<=2147483647)
  (rows':List (List V))(f:rows'=rows++[[qI c,qI q,.sl false 3 e]])(n':Nat)(h:n'=n+1)(v:Int)(hv:v=b+(n:Int)+1)
  (R:S->Prop)(g:∀(l s':S)(i:Option Nat)(a:Nat->Int)(r2:List (List V))(n2:Nat),(∀j,a j=iQ tb w q v j)->r2=rows'->n2=n'->cd l s'->kH s' [] (λx=>kI x=.tup [])->
   eP [(0,⟨some bl,100,38,[[qI gn,qI b,.str tx,qI (fs 0),qI (fs 1),qI (fs 2),qI (fs 3),qI (fs 4),qI (fs 5),qI (fs 6),qI (fs 7),qI (fs 8),qI (fs 9),qI (fs 10),qI (fs 11),qI (fs 12),qI (fs 13),qI (fs 14),qI (fs 15),qI (a 0),qI (a 1),qI (a 2),qI (a 3),qI (a 4),qI (a 5),qI (a 6),qI (a 7),qI (a 8),qI (a 9),qI (a 10),qI (a 11),qI (a 12),qI (a 13),qI (a 14),qI (a 15),.own 1 i 3 n2,.bool wh,qI gd]]⟩),(1,⟨i,96,3,r2⟩)] s'->R l):
  gE P T m xC (S0 [.ptr 0 (some bl) 38 0 0,.agg [qI c,qI q,.sl false 3 e]] (a8 [(0,⟨some bl,100,38,[[qI gn,qI b,.str tx,qI (fs 0),qI (fs 1),qI (fs 2),qI (fs 3),qI (fs 4),qI (fs 5),qI (fs 6),qI (fs 7),qI (fs 8),qI (fs 9),qI (fs 10),qI (fs 11),qI (fs 12),qI (fs 13),qI (fs 14),qI (fs 15),qI (tb 0),qI (tb 1),qI (tb 2),qI (tb 3),qI (tb 4),qI (tb 5),qI (tb 6),qI (tb 7),qI (tb 8),qI (tb 9),qI (tb 10),qI (tb 11),qI (tb 12),qI (tb 13),qI (tb 14),qI (tb 15),.own 1 ba 3 n,.bool wh,qI gd]]⟩),(1,⟨ba,96,3,rows⟩)])) R (λ_ _=>False) R:=by
 have f4:P.rW rows n:=oC hP _ _ hn.symm;have f5:∀r,P.bytes (P.add (P.int n) (P.cF [r])) 40:=by intro r;subst hP;show((n:Int)+1)*40<=_;((try simp only[nc] at*);omega)
 have f6:∀r,P.rW [r] 1:=by intro r;subst hP;rfl
 have f7:P.n4 rows [[qI c,qI q,.sl false 3 e]]=rows':=by rw[f];subst hP;rfl
 have f8:∀r:List V,P.jg n (P.gH [r])=n':=by intro r;rw[h];subst hP;rfl
 have f9:∀r:List V,P.int (P.jg n (P.gH [r]))=(n:Int)+1:=by intro r;rw[f8,h,int_eq hP];((try simp only[nc] at*);omega)
 have g1:∀r:List V,P.add b (P.int (P.jg n (P.gH [r])))=v:=by intro r;rw[add_eq hP,f9,hv];omega
 have g2:∀r:List V,P.i64 (P.add b (P.int (P.jg n (P.gH [r])))):=by intro r;rw[g1,hv];exact fm hP qO
 have q1:P.fK 0 c:=iJ hP qW;have q2:P.iq c 8:=lk hP qW;have d:P.nat c=w:=by rw[k];subst hP;rfl
 cbv
 repeat' first|(refine And.intro (by first|assumption|decide|exact f6 _|exact f5 _|exact g2 _) ?_;cbv)|(intro p;cbv)
 have hc:w=0\/w=1\/w=2\/w=3\/w=4\/w=5\/w=6\/w=7:=by omega
 have g3:=g1 [qI c,qI q,.sl false 3 e];have g4:=f8 [qI c,qI q,.sl false 3 e]
 rcases hc with rfl|rfl|rfl|rfl|rfl|rfl|rfl|rfl
 ·refine⟨0,d,?_⟩;cbv;exact g _ _ _ (λj=>if j=0 then q else if j=1 then P.add b (P.int (P.jg n (P.gH [[qI c,qI q,.sl false 3 e]]))) else tb j) _ _ (λj=>by rw[g3];rfl) f7 g4 (cd.refl _) rfl ⟨rfl,rfl,trivial⟩
 ·refine⟨1,d,?_⟩;cbv;exact g _ _ _ (λj=>if j=2 then q else if j=3 then P.add b (P.int (P.jg n (P.gH [[qI c,qI q,.sl false 3 e]]))) else tb j) _ _ (λj=>by rw[g3];rfl) f7 g4 (cd.refl _) rfl ⟨rfl,rfl,trivial⟩
 ·refine⟨2,d,?_⟩;cbv;exact g _ _ _ (λj=>if j=4 then q else if j=5 then P.add b (P.int (P.jg n (P.gH [[qI c,qI q,.sl false 3 e]]))) else tb j) _ _ (λj=>by rw[g3];rfl) f7 g4 (cd.refl _) rfl ⟨rfl,rfl,trivial⟩
 ·refine⟨3,d,?_⟩;cbv;exact g _ _ _ (λj=>if j=6 then q else if j=7 then P.add b (P.int (P.jg n (P.gH [[qI c,qI q,.sl false 3 e]]))) else tb j) _ _ (λj=>by rw[g3];rfl) f7 g4 (cd.refl _) rfl ⟨rfl,rfl,trivial⟩
 ·refine⟨4,d,?_⟩;cbv;exact g _ _ _ (λj=>if j=8 then q else if j=9 then P.add b (P.int (P.jg n (P.gH [[qI c,qI q,.sl false 3 e]]))) else tb j) _ _ (λj=>by rw[g3];rfl) f7 g4 (cd.refl _) rfl ⟨rfl,rfl,trivial⟩
 ·refine⟨5,d,?_⟩;cbv;exact g _ _ _ (λj=>if j=10 then q else if j=11 then P.add b (P.int (P.jg n (P.gH [[qI c,qI q,.sl false 3 e]]))) else tb j) _ _ (λj=>by rw[g3];rfl) f7 g4 (cd.refl _) rfl ⟨rfl,rfl,trivial⟩
 ·refine⟨6,d,?_⟩;cbv;exact g _ _ _ (λj=>if j=12 then q else if j=13 then P.add b (P.int (P.jg n (P.gH [[qI c,qI q,.sl false 3 e]]))) else tb j) _ _ (λj=>by rw[g3];rfl) f7 g4 (cd.refl _) rfl ⟨rfl,rfl,trivial⟩
 ·refine⟨7,d,?_⟩;cbv;exact g _ _ _ (λj=>if j=14 then q else if j=15 then P.add b (P.int (P.jg n (P.gH [[qI c,qI q,.sl false 3 e]]))) else tb j) _ _ (λj=>by rw[g3];rfl) f7 g4 (cd.refl _) rfl ⟨rfl,rfl,trivial⟩
def V.Q0:V->Bool
 |.own _ _ _ _=>true
 |v=>V.S7 v
theorem xD:∀{l:List V},l.all V.Q0=true->∀v∈l,Fz v
 |[],_,v,h=>by cases h
 |a::l,h,v,hv=>by
  simp only[eX,aO] at h
  rcases ah.1 hv with rfl|hv
  ·have:=h.1;cases v<;>first|exact .int _ _|exact .str _|exact .bool _|exact .nilsl|exact .own _ _ _ _|(simp[V.Q0,V.S7] at this)
  ·exact xD h.2 v hv
theorem CL{gn b:Int}{tx:BS}{fs tb:Nat->Int}{k n:Nat}{ba:Option Nat}{wh:Bool}{gd:Int}(bl:Nat):(FE bl (nQ gn b tx fs tb (.own k ba 3 n) wh gd)).Fz:=by
 intro r hr;simp only[FE,ag] at hr;subst hr;refine xD ?_;rfl
theorem CM{gn b:Int}{tx:BS}{fs tb:Nat->Int}{k n:Nat}{ba:Option Nat}{wh:Bool}{gd:Int}(bl:Nat)(f:Nat->Nat):(FE bl (nQ gn b tx fs tb (.own k ba 3 n) wh gd)).gy f=FE bl (nQ gn b tx fs tb (.own (f k) ba 3 n) wh gd):=rfl
theorem gR(l:List er):∀r∈l.map bd,∀v∈r,Fz v:=by
 intro r hr v hv;obtain⟨x,_,rfl⟩:=aM.1 hr;simp[bd] at hv
 rcases hv with rfl|rfl|rfl
 ·exact .int _ _
 ·exact .int _ _
 ·exact .sl _ _ (fL _)
theorem Bv(l:List er):∀r∈l.map bd,r.length=3:=by
 intro r hr;obtain⟨p,_,rfl⟩:=aM.1 hr;rfl
theorem kp(ba:Option Nat)(l:List er)(f:Nat->Nat):(il ba (l.map bd)).gy f=il ba (l.map bd):=by
 simp[Ob.gy,il,eC,Function.comp_def,bd,gI,V.rl]
theorem MC(bl:Nat)(ba:Option Nat)(gn b gd:Int)(tx:BS)(fs tb:Nat->Int)(wh:Bool)(l:List er)(hl:l.length<=100)(r:er)(hw:0<=r.who/\r.who<=7)(hb:0<=b/\b<=2147483647):
  Spec Tryz.prog 70 [.ptr 0 (some bl) 38 0 0,.agg (bd r)] (a8 [(0,FE bl (nQ gn b tx fs tb (.own 1 ba 3 l.length) wh gd)),(1,il ba (l.map bd))])
  (λv h'=>∃L',(v=.tup []/\∃c,L'=[(0,FE bl (nQ gn b tx fs (iQ tb r.who.toNat r.seq (b+(l.length:Int)+1)) (.own 1 c 3 (l.length+1)) wh gd)),(1,il c ((l++[r]).map bd))])/\h'=a8 L'):=
 dE hW CK (L:=[(0,FE bl (nQ gn b tx fs tb (.own 1 ba 3 l.length) wh gd)),(1,il ba (l.map bd))])
  (λv L'=>v=.tup []/\∃c,L'=[(0,FE bl (nQ gn b tx fs (iQ tb r.who.toNat r.seq (b+(l.length:Int)+1)) (.own 1 c 3 (l.length+1)) wh gd)),(1,il c ((l++[r]).map bd))]) λR f=>
  MB cp rfl _ _ bl ba gn b gd tx fs tb wh l.length (l.map bd) (by simp) hl r.who.toNat qW r.who r.seq qW (r.delta.map a7) hb ((l++[r]).map bd) (by simp[bd,gI]) (l.length+1) rfl (b+(l.length:Int)+1) rfl R
   λg s' c h r2 n2 a d e he hr ha=>by
    rw[a 0,a 1,a 2,a 3,a 4,a 5,a 6,a 7,a 8,a 9,a 10,a 11,a 12,a 13,a 14,a 15,d,e] at ha;refine f g s' (.tup []) [(0,FE bl (nQ gn b tx fs (iQ tb r.who.toNat r.seq (b+(l.length:Int)+1)) (.own 1 c 3 (l.length+1)) wh gd)),(1,il c ((l++[r]).map bd))] he hr ha (.tup _ (λv hv=>by cases hv)) (λp hp=>?_) ⟨rfl,c,rfl⟩
    rcases ah.1 hp with rfl|hp
    ·exact CL bl
    ·rw[ag.1 hp];exact gR _
def RP(T:cm):Prop:=∀(k ka bl:Nat)(ba:Option Nat)(gn b gd:Int)(tx:BS)(fs tb:Nat->Int)(wh:Bool)(n:Nat)(rows:List (List V))(l:List er)(w q:Int)(d:List (List V))(r:er)(h:Hp)(K:V->Hp->Prop),rows=l.map bd->n=l.length->l.length<=100->(w=r.who/\q=r.seq/\d=r.delta.map a7)->0<=r.who/\r.who<=7->0<=b/\b<=2147483647->Nat.beq k ka=false->
 h k=some ⟨some bl,100,38,[[qI gn,qI b,.str tx,qI (fs 0),qI (fs 1),qI (fs 2),qI (fs 3),qI (fs 4),qI (fs 5),qI (fs 6),qI (fs 7),qI (fs 8),qI (fs 9),qI (fs 10),qI (fs 11),qI (fs 12),qI (fs 13),qI (fs 14),qI (fs 15),qI (tb 0),qI (tb 1),qI (tb 2),qI (tb 3),qI (tb 4),qI (tb 5),qI (tb 6),qI (tb 7),qI (tb 8),qI (tb 9),qI (tb 10),qI (tb 11),qI (tb 12),qI (tb 13),qI (tb 14),qI (tb 15),.own ka ba 3 n,.bool wh,qI gd]]⟩->h ka=some ⟨ba,96,3,rows⟩->
 (∀(c:Option Nat)(a:Nat->Int)(n':Nat)(rows':List (List V)),a=iQ tb r.who.toNat r.seq (b+(l.length:Int)+1)->n'=l.length+1->rows'=(l++[r]).map bd->K (.tup []) (Hp.put (Hp.put h k ⟨some bl,100,38,[[qI gn,qI b,.str tx,qI (fs 0),qI (fs 1),qI (fs 2),qI (fs 3),qI (fs 4),qI (fs 5),qI (fs 6),qI (fs 7),qI (fs 8),qI (fs 9),qI (fs 10),qI (fs 11),qI (fs 12),qI (fs 13),qI (fs 14),qI (fs 15),qI (a 0),qI (a 1),qI (a 2),qI (a 3),qI (a 4),qI (a 5),qI (a 6),qI (a 7),qI (a 8),qI (a 9),qI (a 10),qI (a 11),qI (a 12),qI (a 13),qI (a 14),qI (a 15),.own ka c 3 n',.bool wh,qI gd]]⟩) ka ⟨c,96,3,rows'⟩))->
 T 70 [.ptr k (some bl) 38 0 0,.agg [qI w,qI q,.sl false 3 d]] h K
theorem TR:RP (dF Tryz.prog):=by
 rintro k ka bl ba gn b gd tx fs tb wh n rows l w q s r h K rfl rfl hl ⟨rfl,rfl,rfl⟩ hw hb hne hk g hK;have c:k≠ka:=by intro e;subst e;rw[bY] at hne;cases hne
 have f:¬ka=k:=λe=>c e.symm;have d:gP [(0,k),(1,ka)] ka=1:=by simp[gP,f,c]
 have o:gD [(0,k),(1,ka)] 1=ka:=by simp[gD]
 refine oe (m:=[(0,k),(1,ka)]) (MC bl ba gn b gd tx fs tb wh l hl r hw hb) (.cons ?_ (.cons ?_ .nil)) (λj q hj=>?_) (λp hp=>?_) ?_
 ·have:=Arg.same (h:=h) (m:=[(0,k),(1,ka)]) (.ptr k (some bl) 38 0 0);simpa[V.gy,V.rl,gP] using this
 ·exact Arg.same (.agg (bd r))
 ·simp only[a8] at hj
  split at hj
  ·rename_i h0;exact⟨(0,k),by simp,h0.symm⟩
  ·split at hj
   ·rename_i h0;exact⟨(1,ka),by simp,h0.symm⟩
   ·cases hj
 ·simp only[ah,aq,aQ] at hp
  rcases hp with rfl|rfl
  ·refine⟨by simp[gD],by simp[gP],λx hx=>?_⟩;simp only[a8,↓reduceIte,aC] at hx;subst hx;refine⟨?_,CL bl⟩;rw[hk,aJ];have:=CM (gn:=gn) (b:=b) (tx:=tx) (fs:=fs) (tb:=tb) (k:=ka) (n:=l.length) (ba:=ba) (wh:=wh) (gd:=gd) bl (gP [(0,k),(1,ka)]);rw[d] at this;exact ay some this
  ·refine⟨by simp[gD],d,λx hx=>?_⟩;simp[a8] at hx;subst hx;refine⟨?_,gR _⟩;rw[g,aJ];exact ay some (kp ba l _)
 ·rintro v L' ⟨rfl,a,rfl⟩;have e:h.jh [(0,k),(1,ka)] (a8 [(0,FE bl (nQ gn b tx fs (iQ tb r.who.toNat r.seq (b+(l.length:Int)+1)) (.own 1 a 3 (l.length+1)) wh gd)),(1,il a ((l++[r]).map bd))])=
    Hp.put (Hp.put h k (FE bl (nQ gn b tx fs (iQ tb r.who.toNat r.seq (b+(l.length:Int)+1)) (.own ka a 3 (l.length+1)) wh gd))) ka (il a ((l++[r]).map bd)):=by
   funext i
   simp only[Hp.jh,Hp.put,bZ,cE,cw,bq,bM]
   by_cases h1:ka=i
   ·subst h1;rw[ab (.inr rfl),ab rfl,d];show(some (il a ((l++[r]).map bd))).map (Ob.gy (gD [(0,k),(1,ka)]))=_;rw[aJ,kp]
   ·by_cases h2:k=i
    ·subst h2;rw[ab (.inl rfl),aa (λe=>h1 e.symm),ab rfl];have Bj:gP [(0,k),(1,ka)] k=0:=by simp[gP]
     rw[Bj];show(some (FE bl (nQ gn b tx fs (iQ tb r.who.toNat r.seq (b+(l.length:Int)+1)) (.own 1 a 3 (l.length+1)) wh gd))).map (Ob.gy (gD [(0,k),(1,ka)]))=_;rw[aJ,CM,o]
    ·rw[aa (by rintro(h|h);exact h2 h;exact h1 h),aa (λe=>h1 e.symm),aa (λe=>h2 e.symm)]
  rw[e];exact hK a _ _ _ rfl rfl rfl
structure hM where
 gen:Int
 base:Int
 text:BS
 first:Nat->Int
 table:Nat->Int
 gq:List er
 whole:Bool
 fW:Int
def CN:hM:=⟨0,0,[],λ_=>0,λ_=>0,[],false,0⟩
def oI(l:hM)(now:BS)(f:Frame):Option (hM×BS):=
 if f.kind=3 then(if l.whole=true\/f.body≠[] then none else some (⟨l.gen,l.base,l.text,l.first,l.table,l.gq,true,l.fW+((f.body.length:Int)+7)⟩,now))
 else if f.kind=2 then
  (if sQ f.body=true/\gQ l.base l.table l.gq.length now.length (lp f.body)=0 then
   some (⟨l.gen,l.base,l.text,l.first,iQ l.table (lp f.body).who.toNat (lp f.body).seq (l.base+(l.gq.length:Int)+1),l.gq++[lp f.body],l.whole,l.fW+((f.body.length:Int)+7)⟩,(kB (lp f.body).delta now).1) else none)
 else none
def k8:List Frame->hM->BS->hM
 |[],l,_=>l
 |f::fs,l,now=>match oI l now f with
  |none=>l
  |some (l2,n2)=>k8 fs l2 n2
def uC(g b:Int)(tx:BS)(f:Nat->Int)(n:Int):hM:=⟨g,b,tx,f,f,[],false,n⟩
def mV(hg hb:BS->Int)(ht:BS->BS)(hf:BS->Nat->Int)(ho:BS->Bool)(fs:List Frame):hM×Int:=match fs with
 |[]=>(CN,7)
 |f::fs=>if f.kind≠1\/ho f.body=false then(CN,3) else(k8 fs (uC (hg f.body) (hb f.body) (ht f.body) (hf f.body) ((f.body.length:Int)+7)) (ht f.body),0)
def gS(fs:List Frame):hM×Int:=mV (λx=>iX x 0) (λx=>iX x 1) (λx=>(nK x 18).1) (λx j=>iX x (j+2)) mI fs
def TS(a:Nat)(h:Hp)(rows:List (List V))(v:V)(x:Int):Prop:=(v=.nilsl/\rows=[]/\x≠0)\/∃β n,v=.own a β 3 n/\h a=some ⟨β,96,3,rows⟩/\n=rows.length
theorem TS.fr{a:Nat}{h:Hp}{l:List er}{v:V}{x:Int}(hv:TS a h (l.map bd) v x):Fr h v (.sl false 3 (l.map bd)):=by
 rcases hv with⟨rfl,h0,_⟩|⟨β,n,rfl,h1,h2⟩
 ·rw[h0];exact .nilsl 3
 ·exact .rows h1 rfl rfl h2.symm (Bv _) (gR _)
def H4(rv:List RV)(a:Nat)(l:hM)(e:Int)(R:S->Prop):Prop:=
 ∀(s s':S)(gn b gd:Int)(tx:BS)(fs tb:Nat->Int)(wh:Bool)(v:V)(rows:List (List V))(x:Int),cd s s'->ia rv [.agg [.int .i64 gn,.int .i64 b,.str tx,.int .i64 (fs 0),.int .i64 (fs 1),.int .i64 (fs 2),.int .i64 (fs 3),.int .i64 (fs 4),.int .i64 (fs 5),.int .i64 (fs 6),.int .i64 (fs 7),.int .i64 (fs 8),.int .i64 (fs 9),.int .i64 (fs 10),.int .i64 (fs 11),.int .i64 (fs 12),.int .i64 (fs 13),.int .i64 (fs 14),.int .i64 (fs 15),.int .i64 (tb 0),.int .i64 (tb 1),.int .i64 (tb 2),.int .i64 (tb 3),.int .i64 (tb 4),.int .i64 (tb 5),.int .i64 (tb 6),.int .i64 (tb 7),.int .i64 (tb 8),.int .i64 (tb 9),.int .i64 (tb 10),.int .i64 (tb 11),.int .i64 (tb 12),.int .i64 (tb 13),.int .i64 (tb 14),.int .i64 (tb 15),v,.bool wh,.int .i64 gd],.int .i64 x] s'->TS a s'.h rows v x->
  gn=l.gen/\b=l.base/\gd=l.fW/\tx=l.text/\(∀j,j<16->fs j=l.first j)/\(∀j,j<16->tb j=l.table j)/\wh=l.whole/\rows=l.gq.map bd/\x=e->R s
theorem rj{h:Hp}{m:List (Nat×Nat)}:∀{l l':List V},lG h m l l'->l.length=l'.length/\∀(i:Nat)(v v':V),l[i]? =some v->l'[i]? =some v'->Arg h m v v'
 |_,_,.nil=>⟨rfl,λi v v' h1=>by cases h1⟩
 |_,_,.cons a b=>by
  obtain⟨h1,h2⟩:=rj b;refine⟨by simp[h1],λi v v' g1 g2=>?_⟩;cases i with
  |zero=>
   simp only[bR,aC] at g1 g2;subst g1 g2;exact a
  |succ i=>simp only[cS] at g1 g2;exact h2 i v v' g1 g2
def U6(T:cm)(f:Nat)(c:Int->(Nat->Int)->Nat->Int->er->Int):Prop:=∀(k:Nat)(ba:Option Nat)(n:Nat)(rows:List (List V))(gn b gd sz w q:Int)(tx:BS)(fs tb:Nat->Int)(wh:Bool)(l:List er)(a:List (List V))(r:er)(h:Hp)(K:V->Hp->Prop),
 rows=l.map bd->n=l.length->(w=r.who/\q=r.seq/\a=r.delta.map a7)->fV r.delta->0<=b/\b<=2147483647->h k=some ⟨ba,96,3,rows⟩->
 K (qI (c b tb l.length sz r)) h->T f [.agg [qI gn,qI b,.str tx,qI (fs 0),qI (fs 1),qI (fs 2),qI (fs 3),qI (fs 4),qI (fs 5),qI (fs 6),qI (fs 7),qI (fs 8),qI (fs 9),qI (fs 10),qI (fs 11),qI (fs 12),qI (fs 13),qI (fs 14),qI (fs 15),qI (tb 0),qI (tb 1),qI (tb 2),qI (tb 3),qI (tb 4),qI (tb 5),qI (tb 6),qI (tb 7),qI (tb 8),qI (tb 9),qI (tb 10),qI (tb 11),qI (tb 12),qI (tb 13),qI (tb 14),qI (tb 15),.own k ba 3 n,.bool wh,qI gd],qI sz,.agg [qI w,qI q,.sl false 3 a]] h K
theorem P7{f:Nat}(hs:∀(gn b:Int)(tx:BS)(fs tb:Nat->Int)(l:List er)(wh:Bool)(gd size:Int)(r:er),0<=b/\b<=2147483647->fV r.delta->Spec Tryz.prog f [PO gn b tx fs tb (l.map bd) wh gd,.int .i64 size,.agg (bd r)] Hp.emp (Is (.int .i64 (gQ b tb l.length size r)))):U6 (dF Tryz.prog) f gQ:=by
 rintro k ba n rows gn b gd sz w q tx fs tb wh l a r h K rfl rfl ⟨rfl,rfl,rfl⟩ hp hb hk hK;have hown:Arg h [] (.own k ba 3 l.length) (.sl true 3 (l.map bd)):=.own k ba 3 l.length _ (jU (by simp) hk) (by simp);obtain⟨a1,a2⟩:=rj (h:=h) (m:=[]) (l:=[.int .i64 gn,.int .i64 b,.str tx,.int .i64 (fs 0),.int .i64 (fs 1),.int .i64 (fs 2),.int .i64 (fs 3),.int .i64 (fs 4),.int .i64 (fs 5),.int .i64 (fs 6),.int .i64 (fs 7),.int .i64 (fs 8),.int .i64 (fs 9),.int .i64 (fs 10),.int .i64 (fs 11),.int .i64 (fs 12),.int .i64 (fs 13),.int .i64 (fs 14),.int .i64 (fs 15),.int .i64 (tb 0),.int .i64 (tb 1),.int .i64 (tb 2),.int .i64 (tb 3),.int .i64 (tb 4),.int .i64 (tb 5),.int .i64 (tb 6),.int .i64 (tb 7),.int .i64 (tb 8),.int .i64 (tb 9),.int .i64 (tb 10),.int .i64 (tb 11),.int .i64 (tb 12),.int .i64 (tb 13),.int .i64 (tb 14),.int .i64 (tb 15),.own k ba 3 l.length,.bool wh,.int .i64 gd]) (l':=[.int .i64 gn,.int .i64 b,.str tx,.int .i64 (fs 0),.int .i64 (fs 1),.int .i64 (fs 2),.int .i64 (fs 3),.int .i64 (fs 4),.int .i64 (fs 5),.int .i64 (fs 6),.int .i64 (fs 7),.int .i64 (fs 8),.int .i64 (fs 9),.int .i64 (fs 10),.int .i64 (fs 11),.int .i64 (fs 12),.int .i64 (fs 13),.int .i64 (fs 14),.int .i64 (fs 15),.int .i64 (tb 0),.int .i64 (tb 1),.int .i64 (tb 2),.int .i64 (tb 3),.int .i64 (tb 4),.int .i64 (tb 5),.int .i64 (tb 6),.int .i64 (tb 7),.int .i64 (tb 8),.int .i64 (tb 9),.int .i64 (tb 10),.int .i64 (tb 11),.int .i64 (tb 12),.int .i64 (tb 13),.int .i64 (tb 14),.int .i64 (tb 15),.sl true 3 (l.map bd),.bool wh,.int .i64 gd]) (.cons (.same _) (.cons (.same _) (.cons (.same _) (.cons (.same _) (.cons (.same _) (.cons (.same _) (.cons (.same _) (.cons (.same _) (.cons (.same _) (.cons (.same _) (.cons (.same _) (.cons (.same _) (.cons (.same _) (.cons (.same _) (.cons (.same _) (.cons (.same _) (.cons (.same _) (.cons (.same _) (.cons (.same _) (.cons (.same _) (.cons (.same _) (.cons (.same _) (.cons (.same _) (.cons (.same _) (.cons (.same _) (.cons (.same _) (.cons (.same _) (.cons (.same _) (.cons (.same _) (.cons (.same _) (.cons (.same _) (.cons (.same _) (.cons (.same _) (.cons (.same _) (.cons (.same _) (.cons hown (.cons (.same _) (.cons (.same _) .nil))))))))))))))))))))))))))))))))))))));exact⟨h,iY.refl h,lA (hs gn b tx fs tb l wh gd sz r hb hp) (.cons (.agg _ _ a1 a2) (.cons (.same _) (.cons (.same _) .nil))) hK⟩
def ze:AC:=qr [qo 2 (.alloc 100 Lc),qz 3 0] (qr [qm 14 0,qa 15 236 [.t 14],qm 13 15,qx 16 0 13,qx 17 1 13,qm 4 16,qm 5 17] (qq (qr [qm 18 4,qo 19 (.len false (.t 18)),qc 20 .eql 19 0] (qu 20 (qr [qo 21 (.build Lc []),qs 38 2 21,qz 3 7] .ret) .skip)) (qr [qm 23 4,qo 24 (.iaddr 2 (.t 23) (qk 0)),qf 25 1 24,ql 26 25,qa 27 237 [.t 26],qm 22 27,qx 28 0 22,qx 29 1 22,qo 6 (.alloc 100 Lc),qs 38 6 28,qm 7 29] (qq (qr [qm 30 4,qo 31 (.iaddr 2 (.t 30) (qk 0)),qf 32 0 31,ql 33 32,qc 34 .neq 33 1,qm 35 34,qg 36 35 false (.mov (.t 7)),qg 37 35 false (.not (.t 36)),qo 38 (.pick (.t 35) (.c (.bool true)) (.t 37))] (qu 38 (qr [qo 39 (.build Lc []),qs 38 2 39,qz 3 3] .ret) .skip)) (qr [qf 40 2 6,ql 41 40,qm 8 41] (qr [qm 42 4,qo 43 (.iaddr 2 (.t 42) (qk 0)),qf 44 1 43,ql 45 44,qo 46 (.len true (.t 45)),qc 47 .add 46 7,qf 48 37 6,qs 1 48 47] (qq (qr [qm 49 4,qo 50 (.slsl 2 (.t 49) (some (qk 1)) none),qo 51 (.len false (.t 50)),qz 52 0] (.block 0 (.loop (qr [qb 53 .lss 52 51] (qq (qu 53 .skip (.exit 0)) (qq (.block 1 (qr [qo 54 (.iaddr 2 (.t 50) (.t 52)),qd 55 2 54,qo 10 (.alloc 115 FI),qs 2 10 55] (qq (qr [qf 56 0 10,ql 57 56] (.block 2 (qr [qc 60 .eql 57 3,qm 59 60] (qu 59 (qq (qr [qf 61 36 6,ql 62 61,qm 63 62,qg 64 63 false (.faddr 1 (.t 10)),qg 65 63 false (.load1 (.t 64)),qg 66 63 false (.bin .neq (.t 65) (.c qe)),qo 67 (.pick (.t 63) (.c (.bool true)) (.t 66))] (qu 67 (qr [qd 68 38 6,qs 38 2 68,qz 3 0] .ret) .skip)) (qR [qf 69 36 6,⟨none,none,.store 1 (.t 69) (.c (.bool true))⟩])) (qr [qc 71 .eql 57 2,qm 70 71] (qu 70 (qr [qf 73 1 10,ql 74 73,qa 75 238 [.t 74],qm 72 75,qx 76 0 72,qx 77 1 72,qo 11 (.alloc 96 Lb),qs 3 11 76,qm 12 77] (qq (qr [qm 78 12,qo 79 (.not (.t 78)),qm 80 79,qg 81 80 false (.loadn 38 (.t 6)),qg 82 80 false (.mov (.t 8)),qg 83 80 false (.len true (.t 82)),qg 84 80 false (.loadn 3 (.t 11)),qg 85 80 false (.call 67 [.t 81,.t 83,.t 84]),qg 86 80 false (.bin .neq (.t 85) (qk 0)),qo 87 (.pick (.t 80) (.c (.bool true)) (.t 86))] (qu 87 (qr [qd 88 38 6,qs 38 2 88,qz 3 0] .ret) .skip)) (qr [qf 90 2 11,ql 91 90,qm 92 8,qa 93 69 [.t 91,.t 92],qm 89 93,qx 94 0 89,qx 95 1 89,qm 8 94] (qR [qd 96 3 11,qa 97 70 [.t 6,.t 96]])))) (qr [qd 58 38 6,qs 38 2 58,qz 3 0] .ret))))))) (qR [qf 98 37 6,ql 99 98,qf 100 1 10,ql 101 100,qo 102 (.len true (.t 101)),qc 103 .add 102 7,qb 104 .add 99 103,qf 105 37 6,qs 1 105 104])))) (qR [qc 106 .add 52 1,qm 52 106]))))))) (qr [qd 107 38 6,qs 38 2 107,qz 3 0] .ret))))))))
theorem H5:fF Tryz.prog 207 Tryz.f207 ze [.cn 2 38,.t 3] 1 dS:=⟨Tryz.func207,by decide+kernel,by kernel_rfl,by kernel_rfl,by decide+kernel⟩
theorem k9{b:Int}{tb:Nat->Int}{n:Nat}{sz:Int}{r:er}(h:gQ b tb n sz r=0):ir r=0/\n<64:=by
 unfold gQ at h
 by_cases h1:ir r≠0
 ·rw[ab h1] at h;exact absurd h h1
 ·rw[aa h1] at h;refine⟨aK h1,?_⟩
  split at h
  ·exact absurd h qD
  ·split at h
   ·exact absurd h qD
   ·omega
structure Wg(fs:List Frame)(L0:hM)(TT:BS) where
 k:Int
 pre:List Frame
 rest:List Frame
 L:hM
 now:BS
 ba:Option Nat
 n:Nat
 rows:List (List V)
 gn:Int
 b:Int
 gd:Int
 tx:BS
 uD:Nat->Int
 tb:Nat->Int
 wh:Bool
 hd:fs=pre++rest
 hk:k=(pre.length:Int)
 iF:k8 fs L0 TT=k8 rest L now
 hn:n=L.gq.length
 hrows:rows=L.gq.map bd
 Bj:L.base=L0.base
 hl:L.gq.length<=64
 hg:0<=L.fW/\L.fW<=4007*((pre.length:Int)+1)
 he:gn=L.gen/\b=L.base/\gd=L.fW/\tx=L.text/\(∀j,j<16->uD j=L.first j)/\tb=L.table/\wh=L.whole
theorem H6(P:Prim)(hP:P=cp)(T T1:cm)(s:BS)(FrS:List Frame)(I:∀f∈FrS,f.body.length<=4000)(Ri:FrS.length<=1048576)(l:List (List V))(v:l=jF FrS)(fn:Int)
  (h1:hJ T 236 [.str s] (.tup [.sl false 2 l,qI fn]))(hg hb:BS->Int)(ht:BS->BS)(hf:BS->Nat->Int)(ho:BS->Bool)
  (h2:∀x,x.length<=4000->hJ T 237 [.str x] (.tup [.agg [qI (hg x),qI (hb x),.str (ht x),qI (hf x 0),qI (hf x 1),qI (hf x 2),qI (hf x 3),qI (hf x 4),qI (hf x 5),qI (hf x 6),qI (hf x 7),qI (hf x 8),qI (hf x 9),qI (hf x 10),qI (hf x 11),qI (hf x 12),qI (hf x 13),qI (hf x 14),qI (hf x 15),qI (hf x 0),qI (hf x 1),qI (hf x 2),qI (hf x 3),qI (hf x 4),qI (hf x 5),qI (hf x 6),qI (hf x 7),qI (hf x 8),qI (hf x 9),qI (hf x 10),qI (hf x 11),qI (hf x 12),qI (hf x 13),qI (hf x 14),qI (hf x 15),.nilsl,.bool false,qI 0],.bool (ho x)]))(Wh:∀x,0<=hb x/\hb x<=2147483647)
  (rw rq:BS->Int)(rd:BS->List (List V))(ro:BS->Bool)(h3:∀x,x.length<=4000->hJ T 238 [.str x] (.tup [.agg [qI (rw x),qI (rq x),.sl false 3 (rd x)],.bool (ro x)]))
  (W:∀x,rw x=(lp x).who/\rq x=(lp x).seq/\rd x=(lp x).delta.map a7/\ro x=sQ x)
  (nx:Int->(Nat->Int)->Nat->Int->er->Int)(h4:U6 T 67 nx)(Wi:∀b tb n sz r,nx b tb n sz r=gQ b tb n sz r)
  (dt:BS->BS->BS)(de:BS->BS->Int)(h5:∀x now,hJ T 69 [.sl false 3 (rd x),.str now] (.tup [.str (dt x now),qI (de x now)]))(X:∀x now,dt x now=(kB (lp x).delta now).1)
  (h6:RP T)(rl:hM)(re:Int)(hr:mV hg hb ht hf ho FrS=(rl,re))
  (R:S->Prop)(C:H4 [.cn 2 38,.t 3] 1000999 rl re R):gE P T T1 ze (S0 [.str s] Hp.emp) R (λ_ _=>False) R:=by
 have w:P.cF l=(FrS.length:Int):=by rw[hX hP,v];simp[jF]
 have z0:P.fK 0 0:=iJ hP qD;cbv;intro Y;cbv;refine h1 _ _ ?_;cbv
 rcases FrS with _|⟨⟨k0,d⟩,fs⟩
 ·have Z:P.cF l=0:=by rw[w];rfl
  simp only[mV,aX] at hr;refine gj (p8 hP Z) ?_;cbv
  repeat' first|(refine qA ?_;cbv)|(intro a;cbv)
  exact C _ _ _ _ _ _ (λ_=>0) (λ_=>0) _ _ [] _ (cd.refl _) ⟨rfl,rfl,ax 0,ak 38,rfl⟩ (.inl ⟨rfl,rfl,qD⟩) ⟨by rw[<-hr.1];rfl,by rw[<-hr.1];rfl,by rw[<-hr.1];rfl,by rw[<-hr.1];rfl,λ_ _=>by rw[<-hr.1];rfl,λ_ _=>by rw[<-hr.1];rfl,by rw[<-hr.1];rfl,by rw[<-hr.1];rfl,hr.2⟩
 have Z:¬P.cF l=0:=by rw[w];simp only[ar];((try simp only[nc] at*);omega)
 have p:P.row l (P.nat 0) [qI k0,.str d]:=gz hP (i:=0) rfl (by rw[v];rfl);have c2:=h2 d (I ⟨k0,d⟩ (by simp));simp only[mV] at hr;obtain⟨L0,m⟩:∃L,L=uC (hg d) (hb d) (ht d) (hf d) ((d.length:Int)+7):=⟨_,rfl⟩;have Wj:hg d=L0.gen:=by rw[m];rfl
 have Wk:hb d=L0.base:=by rw[m];rfl
 have Wl:ht d=L0.text:=by rw[m];rfl
 have Wm:∀j,hf d j=L0.first j:=λj=>by rw[m];rfl
 have Wn:hf d=L0.table:=by rw[m];rfl
 have J:L0.gq=[]:=by rw[m];rfl
 have Wo:false=L0.whole:=by rw[m];rfl
 have K:L0.fW=(d.length:Int)+7:=by rw[m];rfl
 have Wp:0<=L0.base/\L0.base<=2147483647:=by rw[m];exact Wh d
 rw[<-m] at hr;clear m;refine eB (p9 hP Z) ?_;cbv
 repeat' first|(refine qA ?_;cbv)|(intro a;cbv)
 refine⟨_,p,?_⟩;cbv
 repeat' first|(refine qA ?_;cbv)|(intro a;cbv)
 refine c2 _ _ ?_;cbv;intro M;cbv
 repeat' first|(refine qA ?_;cbv)|(intro a;cbv)
 refine⟨_,p,?_⟩;cbv;clear c2 h2;have bad:(k0≠1\/ho d=false)->CN=rl/\3=re:=λh=>by
  rw[ab h] at hr;simpa using hr
 refine a6 (λg=>?_) (λg=>?_)
 ·obtain⟨r1,r2⟩:=bad (.inl (iG hP g));cbv
  repeat' first|(refine qA ?_;cbv)|(intro a;cbv)
  exact C _ _ _ _ _ _ (λ_=>0) (λ_=>0) _ _ [] _ (cd.refl _) ⟨rfl,rfl,ax 0,ak 38,rfl⟩ (.inl ⟨rfl,rfl,qD⟩) ⟨by rw[<-r1];rfl,by rw[<-r1];rfl,by rw[<-r1];rfl,by rw[<-r1];rfl,λ_ _=>by rw[<-r1];rfl,λ_ _=>by rw[<-r1];rfl,by rw[<-r1];rfl,by rw[<-r1];rfl,r2⟩
 have SY:k0=1:=iy hP g;cbv;refine a6 (λg=>?_) (λg=>?_)
 rotate_left
 ·obtain⟨r1,r2⟩:=bad (.inr g);cbv
  repeat' first|(refine qA ?_;cbv)|(intro a;cbv)
  exact C _ _ _ _ _ _ (λ_=>0) (λ_=>0) _ _ [] _ (cd.refl _) ⟨rfl,rfl,ax 0,ak 38,rfl⟩ (.inl ⟨rfl,rfl,qD⟩) ⟨by rw[<-r1];rfl,by rw[<-r1];rfl,by rw[<-r1];rfl,by rw[<-r1];rfl,λ_ _=>by rw[<-r1];rfl,λ_ _=>by rw[<-r1];rfl,by rw[<-r1];rfl,by rw[<-r1];rfl,r2⟩
 rw[aa (by rw[g];simp[SY])] at hr;simp only[aX] at hr;obtain⟨r8,TU⟩:=hr;have RQ:d.length<=4000:=I ⟨k0,d⟩ (by simp);have g1:P.add (P.b5 d) 7=(d.length:Int)+7:=by rw[add_eq hP,cA hP]
 have g2:P.i64 (P.add (P.b5 d) 7):=by rw[g1];exact fm hP qO
 have z1:P.fK 0 1:=iJ hP qD;have z2:P.fK 1 (P.cF l):=qy hP (by rw[w];simp only[ar];((try simp only[nc] at*);omega));have z3:P.fK (P.cF l) (P.cF l):=qy hP (bn _);have F:P.ta l 1 (P.cF l)=jF fs:=by
  rw[w,v];subst hP;show((jF (⟨k0,d⟩::fs)).take ((((⟨k0,d⟩:Frame)::fs).length:Int)).toNat).drop 1=_;rw[aG,bT (by simp[jF])];rfl
 obtain⟨o,z⟩:∃o,o=P.ta l 1 (P.cF l):=⟨_,rfl⟩;have Rs:P.cF o=(fs.length:Int):=by rw[hX hP,z,F];simp[jF]
 clear bad g;cbv
 repeat' first|(refine qA ?_;cbv)|(intro a;cbv)
 refine⟨_,p,?_⟩;cbv
 repeat' first|(refine qA ?_;cbv)|(intro a;cbv)
 clear p Z w z2 z3 g2 z1;rw[<-z];refine⟨Wg fs L0 (ht d),λy=>[(2,.ptr 2 (some Y) 38 0 0),(6,.ptr 6 (some M) 38 0 0),(8,.str y.now),(50,.sl false 2 o),(51,qI (P.cF o)),(52,qI y.k)],
  λy=>[(2,⟨some Y,100,38,[[qI 0,qI 0,.str [],qI 0,qI 0,qI 0,qI 0,qI 0,qI 0,qI 0,qI 0,qI 0,qI 0,qI 0,qI 0,qI 0,qI 0,qI 0,qI 0,qI 0,qI 0,qI 0,qI 0,qI 0,qI 0,qI 0,qI 0,qI 0,qI 0,qI 0,qI 0,qI 0,qI 0,qI 0,qI 0,.nilsl,.bool false,qI 0]]⟩),(6,⟨some M,100,38,[[qI y.gn,qI y.b,.str y.tx,qI (y.uD 0),qI (y.uD 1),qI (y.uD 2),qI (y.uD 3),qI (y.uD 4),qI (y.uD 5),qI (y.uD 6),qI (y.uD 7),qI (y.uD 8),qI (y.uD 9),qI (y.uD 10),qI (y.uD 11),qI (y.uD 12),qI (y.uD 13),qI (y.uD 14),qI (y.uD 15),qI (y.tb 0),qI (y.tb 1),qI (y.tb 2),qI (y.tb 3),qI (y.tb 4),qI (y.tb 5),qI (y.tb 6),qI (y.tb 7),qI (y.tb 8),qI (y.tb 9),qI (y.tb 10),qI (y.tb 11),qI (y.tb 12),qI (y.tb 13),qI (y.tb 14),qI (y.tb 15),.own 1000999 y.ba 3 y.n,.bool y.wh,qI y.gd]]⟩),(1000999,⟨y.ba,96,3,y.rows⟩)],λy=>y.rest.length,
  ⟨_,cd.kQ (k:=6) (k':=1000999) (ty:=96) (sz:=3) (r:=0) (c:=35) rfl rfl rfl rfl,⟨0,[],fs,L0,ht d,none,0,[],hg d,hb d,P.add (P.b5 d) 7,ht d,hf d,hf d,false,rfl,rfl,rfl,by rw[J];rfl,by rw[J];rfl,rfl,by rw[J];exact bc _,⟨by rw[K];exact Int.add_nonneg (bK _) qD,by rw[K];show(d.length:Int)+7<=4007*(0+1);((try simp only[nc] at*);omega)⟩,⟨Wj,Wk,by rw[g1,K],Wl,λj _=>Wm j,Wn,Wo⟩⟩,⟨rfl,rfl,rfl,rfl,rfl,rfl,trivial⟩,⟨rfl,rfl,rfl,trivial⟩⟩,?_⟩
 rintro⟨k,pre,rest,L,now,ba,n,rows,gn,b,gd,tx,uD,tb,wh,hd,hk,iF,hn,hrows,Bj,hlen,XR,he⟩;rw[r8] at iF
 replace hk:k=(pre.length:Int):=hk
 have TD:pre.length+rest.length=fs.length:=by rw[hd];simp
 simp only[ar] at Ri;obtain⟨N,q,U7,O,Q,D,E⟩:=he;have u:n=rows.length:=by rw[hn,hrows];simp
 have A:0<=b/\b<=2147483647:=by rw[q,Bj];exact Wp
 have fin:rl=L->gn=rl.gen/\b=rl.base/\gd=rl.fW/\tx=rl.text/\(∀j,j<16->uD j=rl.first j)/\(∀j,j<16->tb j=rl.table j)/\wh=rl.whole/\rows=rl.gq.map bd/\(0:Int)=re:=λh=>by
  rw[h];exact⟨N,q,U7,O,Q,λj _=>by rw[D],E,hrows,TU⟩
 cbv;refine a6 (λg=>?_) (λg=>?_)
 rotate_left
 ·have U:¬k<P.cF o:=gN hP g;rw[Rs] at U
  rcases rest with _|⟨y,rest⟩
  rotate_left
  ·exfalso;simp at TD;((try simp only[nc] at*);omega)
  cbv
  repeat' first|(refine qA ?_;cbv)|(intro a;cbv)
  exact C _ _ _ _ _ _ _ _ _ _ _ _ (cd.refl _) ⟨rfl,rfl,ax 0,ak 38,rfl⟩ (.inr ⟨ba,n,rfl,rfl,u⟩) (fin iF)
 have U:k<P.cF o:=gM hP g;rw[Rs] at U
 rcases rest with _|⟨⟨kd,e⟩,rest⟩
 ·exfalso;simp at TD;((try simp only[nc] at*);omega)
 have Wq:e.length<=4000:=I ⟨kd,e⟩ (by rw[hd];simp);have G:P.row o (P.nat k) [qI kd,.str e]:=gz hP hk (by rw[z,F,jF,aw,hd];simp[kW]);have q1:P.fK 0 k:=iJ hP qO;have q2:P.i64 (P.add k 1):=by rw[add_eq hP];exact fm hP qO
 have q3:P.add k 1=(((pre++[(⟨kd,e⟩:Frame)]).length:Nat):Int):=by rw[add_eq hP,hk];simp
 have d1:P.add (P.b5 e) 7=(e.length:Int)+7:=by rw[add_eq hP,cA hP]
 have d2:P.i64 (P.add (P.b5 e) 7):=by rw[d1];exact fm hP qO
 have d3:P.add gd (P.add (P.b5 e) 7)=L.fW+((e.length:Int)+7):=by rw[add_eq hP gd,d1,U7]
 have d4:P.i64 (P.add gd (P.add (P.b5 e) 7)):=by rw[d3];exact fm hP qO
 have d5:0<=L.fW+((e.length:Int)+7)/\L.fW+((e.length:Int)+7)<=4007*(((pre++[(⟨kd,e⟩:Frame)]).length:Int)+1):=by rw[ae];simp only[ar,aL];((try simp only[nc] at*);omega)
 rw[k8] at iF;unfold oI at iF;simp only[] at iF;clear g;cbv
 repeat' first|(refine qA ?_;cbv)|(intro a;cbv)
 refine⟨_,G,?_⟩;cbv;intro Wr;cbv
 repeat' first|(refine qA ?_;cbv)|(intro a;cbv)
 clear G;refine a6 (λg=>?_) (λg=>?_)
 ·have hk3:kd=3:=mz hP g;rw[ab hk3] at iF;cbv
  rcases wh with _|_
  rotate_left
  ·rw[ab (.inl E.symm)] at iF;cbv
   repeat' first|(refine qA ?_;cbv)|(intro a;cbv)
   exact C _ _ _ _ _ _ _ _ _ _ _ _ (cd.refl _) ⟨rfl,rfl,ax 0,ak 38,rfl⟩ (.inr ⟨ba,n,rfl,rfl,u⟩) (fin iF)
  ·cbv
   repeat' first|(refine qA ?_;cbv)|(intro a;cbv)
   refine a6 (λg=>?_) (λg=>?_)
   ·rw[ab (.inr (Cj hP g))] at iF;cbv
    repeat' first|(refine qA ?_;cbv)|(intro a;cbv)
    exact C _ _ _ _ _ _ _ _ _ _ _ _ (cd.refl _) ⟨rfl,rfl,ax 0,ak 38,rfl⟩ (.inr ⟨ba,n,rfl,rfl,u⟩) (fin iF)
   ·rw[aa (by rintro(h|h);rw[<-E] at h;cases h;exact h (Ck hP g))] at iF
    cbv
    repeat' first|(refine qA ?_;cbv)|(intro a;cbv)
    exact⟨_,cd.refl _,⟨_,pre++[⟨kd,e⟩],rest,⟨L.gen,L.base,L.text,L.first,L.table,L.gq,true,L.fW+((e.length:Int)+7)⟩,now,ba,n,rows,gn,b,P.add gd (P.add (P.b5 e) 7),tx,uD,tb,true,by simp[hd],q3,r8.trans iF,hn,hrows,Bj,hlen,d5,⟨N,q,d3,O,Q,D,rfl⟩⟩,⟨rfl,rfl,rfl,rfl,rfl,rfl,trivial⟩,⟨rfl,rfl,rfl,trivial⟩,by simp⟩
 have hk3:¬kd=3:=mA hP g;rw[aa hk3] at iF;cbv;refine a6 (λg=>?_) (λg=>?_)
 rotate_left
 ·have hk2:¬kd=2:=mA hP g;rw[aa hk2] at iF;cbv
  repeat' first|(refine qA ?_;cbv)|(intro a;cbv)
  exact C _ _ _ _ _ _ _ _ _ _ _ _ (cd.refl _) ⟨rfl,rfl,ax 0,ak 38,rfl⟩ (.inr ⟨ba,n,rfl,rfl,u⟩) (fin iF)
 have hk2:kd=2:=mz hP g;rw[ab hk2] at iF;obtain⟨rv,H⟩:∃rv,rv=lp e:=⟨_,rfl⟩;have c3:=h3 e Wq;obtain⟨w1,w2,w3,w4⟩:=W e;have w5:=X e now;have w6:=h5 e now;rw[<-H] at w1 w2 w3 w5 iF;rw[<-w4] at iF;rw[<-w5] at iF;have TV:fV rv.delta:=by rw[H];exact uB _
 have TW:ir rv=0->0<=rv.who/\rv.who<=7:=λh=>⟨(kR h).1,(kR h).2.1⟩;clear h3 W X h5 g
 generalize ro e=pM at c3 iF w4
 generalize rd e=dr at c3 w3 w6
 generalize rw e=wd at c3 w1
 generalize rq e=qd at c3 w2
 generalize dt e now=TX at w6 iF
 generalize de e now=e6 at w6
 cbv;refine c3 _ _ ?_;cbv;intro Ws;cbv
 repeat' first|(refine qA ?_;cbv)|(intro a;cbv)
 rcases pM with _|_
 ·rw[aa (by rintro⟨h,_⟩;cases h)] at iF;cbv
  repeat' first|(refine qA ?_;cbv)|(intro a;cbv)
  exact C _ _ _ _ _ _ _ _ _ _ _ _ (cd.refl _) ⟨rfl,rfl,ax 0,ak 38,rfl⟩ (.inr ⟨ba,n,rfl,rfl,u⟩) (fin iF)
 have B:nx b tb L.gq.length (P.b5 now) rv=gQ L.base L.table L.gq.length now.length rv:=by rw[Wi,q,D,cA hP]
 have d6:(e.length:Int)+7=(e.length:Int)+7:=rfl;cbv
 repeat' first|(refine qA ?_;cbv)|(intro a;cbv)
 refine h4 1000999 ba n rows gn b gd (P.b5 now) wd qd tx uD tb wh L.gq dr rv _ _ hrows hn ⟨w1,w2,w3⟩ TV A rfl ?_
 generalize nx b tb L.gq.length (P.b5 now) rv=Z at B⊢
 cbv
 repeat' first|(refine qA ?_;cbv)|(intro a;cbv)
 refine a6 (λg=>?_) (λg=>?_)
 ·have hx:=iG hP g;rw[B] at hx;rw[aa (by rintro⟨_,h⟩;exact hx h)] at iF;cbv
  repeat' first|(refine qA ?_;cbv)|(intro a;cbv)
  exact C _ _ _ _ _ _ _ _ _ _ _ _ (cd.refl _) ⟨rfl,rfl,ax 0,ak 38,rfl⟩ (.inr ⟨ba,n,rfl,rfl,u⟩) (fin iF)
 have hx:=iy hP g;rw[B] at hx;rw[ab ⟨rfl,hx⟩] at iF;obtain⟨x1,x2⟩:=k9 hx;cbv
 repeat' first|(refine qA ?_;cbv)|(intro a;cbv)|(refine w6 _ _ ?_;cbv)|fail
 refine h6 6 1000999 M ba gn b gd tx uD tb wh n rows L.gq wd qd dr rv _ _ hrows hn qW ⟨w1,w2,w3⟩ (TW x1) A rfl rfl rfl λAF Wt n' rows' t1 t2 t3=>?_;cbv
 repeat' first|(refine qA ?_;cbv)|(intro a;cbv)
 exact⟨_,cd.refl _,⟨_,pre++[⟨kd,e⟩],rest,⟨L.gen,L.base,L.text,L.first,iQ L.table rv.who.toNat rv.seq (L.base+(L.gq.length:Int)+1),L.gq++[rv],L.whole,L.fW+((e.length:Int)+7)⟩,TX,AF,n',rows',gn,b,P.add gd (P.add (P.b5 e) 7),tx,uD,Wt,wh,by simp[hd],q3,r8.trans iF,by rw[t2];simp,t3,Bj,by show(L.gq++[rv]).length<=64;simp;omega,d5,⟨N,q,d3,O,Q,by rw[t1,D,q],E⟩⟩,⟨rfl,rfl,rfl,rfl,rfl,rfl,trivial⟩,⟨rfl,rfl,rfl,trivial⟩,by simp⟩
structure SC where
 x1:BS
 x2:Int
 x3:BS
 x4:Int
 at':Int
 gn:Int
 b:Int
 tx:BS
 fs:Nat->Int
 tb:Nat->Int
 wh:Bool
 gd:Int
 now:BS
 sf:Int
 jE:Bool
def eM(d:SC)(rv mv:V):List V:=[.str d.x1,.int .i64 d.x2,.str d.x3,.int .i64 d.x4,.int .i64 d.at',.int .i64 d.gn,.int .i64 d.b,.str d.tx,.int .i64 (d.fs 0),.int .i64 (d.fs 1),.int .i64 (d.fs 2),.int .i64 (d.fs 3),.int .i64 (d.fs 4),.int .i64 (d.fs 5),.int .i64 (d.fs 6),.int .i64 (d.fs 7),.int .i64 (d.fs 8),.int .i64 (d.fs 9),.int .i64 (d.fs 10),.int .i64 (d.fs 11),.int .i64 (d.fs 12),.int .i64 (d.fs 13),.int .i64 (d.fs 14),.int .i64 (d.fs 15),.int .i64 (d.tb 0),.int .i64 (d.tb 1),.int .i64 (d.tb 2),.int .i64 (d.tb 3),.int .i64 (d.tb 4),.int .i64 (d.tb 5),.int .i64 (d.tb 6),.int .i64 (d.tb 7),.int .i64 (d.tb 8),.int .i64 (d.tb 9),.int .i64 (d.tb 10),.int .i64 (d.tb 11),.int .i64 (d.tb 12),.int .i64 (d.tb 13),.int .i64 (d.tb 14),.int .i64 (d.tb 15),rv,.bool d.wh,.int .i64 d.gd,.str d.now,.int .i64 d.sf,mv,.bool d.jE]
def eO(bl:Nat)(r:List V):Ob:=⟨some bl,103,47,[r]⟩
theorem iA(bl:Nat)(d:SC)(rv mv:V)(f:Nat->Nat):(eO bl (eM d rv mv)).gy f=eO bl (eM d (rv.rl f) (mv.rl f)):=rfl
theorem Fz.rl{v:V}(h:Fz v)(f:Nat->Nat):Fz (v.rl f):=by
 cases v<;>first|exact h|exact .own _ _ _ _|exact .ptr _ _ _ _ _|exact .win _ _ _ _ _
theorem iB{d:SC}{rv mv:V}(h1:Fz rv)(h2:Fz mv)(bl:Nat):(eO bl (eM d rv mv)).Fz:=by
 intro r hr v hv;simp only[eO,ag] at hr;subst hr;simp only[eM,ah,aq,aQ] at hv
 rcases hv with rfl|rfl|rfl|rfl|rfl|rfl|rfl|rfl|rfl|rfl|rfl|rfl|rfl|rfl|rfl|rfl|rfl|rfl|rfl|rfl|rfl|rfl|rfl|rfl|rfl|rfl|rfl|rfl|rfl|rfl|rfl|rfl|rfl|rfl|rfl|rfl|rfl|rfl|rfl|rfl|rfl|rfl|rfl|rfl|rfl|rfl|rfl
 all_goals first|exact .int _ _|exact .str _|exact .bool _|exact h1|exact h2
def sg(k:Nat):V->Bool
 |.own j _ _ _=> !(Nat.beq j 0)||Nat.beq k 0
 |.ptr j _ _ _ _=> !(Nat.beq j 0)||Nat.beq k 0
 |.win .. =>false
 |_=>true
theorem H7{k j:Nat}(h:(!(Nat.beq j 0)||Nat.beq k 0)=true):gD [(0,k)] (gP [(0,k)] j)=j:=by
 simp only[bq,dL] at h;unfold gP gP
 by_cases hj:j=k
 ·rw[ab hj];simp[gD,hj]
 ·rw[aa hj];unfold gD gD
  rcases h with h|h
  ·have:¬j=0:=λe=>by subst e;cases h
   rw[aa this]
  ·have:k=0:=bP h
   by_cases h0:j=0
   ·rw[ab h0];omega
   ·rw[aa h0]
theorem OU{k:Nat}{v:V}(h:sg k v=true):(v.rl (gP [(0,k)])).rl (gD [(0,k)])=v:=by
 cases v<;>first|rfl|(simp only[V.rl];rw[H7 h])|cases h
def WQ(rv mv:V):Prop:=(Fz rv/\V.one rv=true)/\Fz mv/\V.one mv=true
def OQ(ba:Option Nat)(n:Nat)(rv mv:V):Prop:=(∃j,rv=.own j ba 3 n)/\Fz mv/\V.one mv=true
theorem xE{v:V}(h:V.one v=true)(f:Nat->Nat):V.one (v.rl f)=true:=by cases v<;>first|exact h|rfl
theorem WQ.rl{rv mv:V}(h:WQ rv mv)(g:Nat->Nat):WQ (rv.rl g) (mv.rl g):=⟨⟨h.1.1.rl g,xE h.1.2 g⟩,h.2.1.rl g,xE h.2.2 g⟩
theorem OQ.rl{ba:Option Nat}{n:Nat}{rv mv:V}(h:OQ ba n rv mv)(g:Nat->Nat):OQ ba n (rv.rl g) (mv.rl g):=by
 obtain⟨⟨j,rfl⟩,h⟩:=h;exact⟨⟨g j,rfl⟩,h.1.rl g,xE h.2 g⟩
theorem OQ.wq{ba:Option Nat}{n:Nat}{rv mv:V}(h:OQ ba n rv mv):WQ rv mv:=by
 obtain⟨⟨j,rfl⟩,h⟩:=h;exact⟨⟨.own _ _ _ _,rfl⟩,h⟩
theorem CO{P:Program}{Q:V->V->Prop}{f k bl:Nat}{rest:List V}{d:SC}{rv mv v:V}{d':SC}(hQ:∀g,Q (rv.rl g) (mv.rl g))(hs:∀rv mv,Q rv mv->Spec P f (.ptr 0 (some bl) 47 0 0::rest) (a8 [(0,eO bl (eM d rv mv))]) λx h'=>∃L',(x=v/\L'=[(0,eO bl (eM d' rv mv))])/\h'=a8 L')
  (a:rest.all V.pl=true)(hv:∀g,v.gy g=v)(h1:Fz rv)(h2:Fz mv)(r1:sg k rv=true)(r2:sg k mv=true){h:Hp}{K:V->Hp->Prop}(hk:h k=some (eO bl (eM d rv mv)))(hK:K v (Hp.put h k (eO bl (eM d' rv mv)))):dF P f (.ptr k (some bl) 47 0 0::rest) h K:=by
 refine oe (m:=[(0,k)]) (hs (rv.rl (gP [(0,k)])) (mv.rl (gP [(0,k)])) (hQ _)) (.cons ?_ (fX a)) (λj q hj=>?_) (λp hp=>?_) ?_
 ·have:=Arg.same (h:=h) (m:=[(0,k)]) (.ptr k (some bl) 47 0 0);simpa[V.gy,V.rl,gP] using this
 ·simp only[a8] at hj
  split at hj
  ·rename_i h0;exact⟨(0,k),by simp,h0.symm⟩
  ·cases hj
 ·simp only[ag] at hp;subst hp;refine⟨by simp[gD],by simp[gP],λq hq=>?_⟩;simp only[a8,↓reduceIte,aC] at hq;subst hq;refine⟨?_,iB (h1.rl _) (h2.rl _) bl⟩;rw[hk,aJ];exact ay some (iA bl d rv mv _)
 ·rintro x L' ⟨rfl,rfl⟩;have e:h.jh [(0,k)] (a8 [(0,eO bl (eM d' (rv.rl (gP [(0,k)])) (mv.rl (gP [(0,k)]))))])=Hp.put h k (eO bl (eM d' rv mv)):=by
   funext i
   simp only[Hp.jh,Hp.put,bZ,cE,cw,bM]
   by_cases hi:k=i
   ·subst hi;have Bj:gP [(0,k)] k=0:=by simp[gP]
    rw[ab rfl,ab rfl,Bj];show(some (eO bl (eM d' (rv.rl (gP [(0,k)])) (mv.rl (gP [(0,k)]))))).map (Ob.gy (gD [(0,k)]))=_;rw[aJ,iA,OU r1,OU r2]
   ·rw[aa hi,aa λe=>hi e.symm]
  rw[e,hv];exact hK
theorem P8{P:Program}{Q:V->V->Prop}{f k bl:Nat}{rest:List V}{d:SC}{rv mv v:V}(hQ:∀g,Q (rv.rl g) (mv.rl g))(hs:∀rv mv,Q rv mv->Spec P f (.ptr 0 (some bl) 47 0 0::rest) (a8 [(0,eO bl (eM d rv mv))]) λx h'=>∃L',(x=v/\L'=[(0,eO bl (eM d rv mv))])/\h'=a8 L')
  (a:rest.all V.pl=true)(hv:∀g,v.gy g=v)(h1:Fz rv)(h2:Fz mv){h:Hp}{K:V->Hp->Prop}(hk:h k=some (eO bl (eM d rv mv)))(hK:K v h):fk P f (.ptr k (some bl) 47 0 0::rest) h K:=by
 have hs0:=hs (rv.rl (gP [(0,k)])) (mv.rl (gP [(0,k)])) (hQ _);refine⟨[(0,k)],_,a8 [(0,eO bl (eM d (rv.rl (gP [(0,k)])) (mv.rl (gP [(0,k)]))))],v,⟨hs0.fn,λC us a1 a2 a3 a4=>(hs0.run C us a1 a2 a3 a4).mono ?_⟩,.cons ?_ (fX a),λj q hj=>?_,λp hp=>?_,by rw[hv];exact hK⟩
 ·rintro e w' ⟨u,x,h',F',e1,b,c,L',⟨rfl,rfl⟩,rfl⟩;exact⟨u,_,_,F',e1,b,c,rfl,rfl⟩
 ·have:=Arg.same (h:=h) (m:=[(0,k)]) (.ptr k (some bl) 47 0 0);simpa[V.gy,V.rl,gP] using this
 ·simp only[a8] at hj
  split at hj
  ·rename_i h0;exact⟨(0,k),by simp,h0.symm⟩
  ·cases hj
 ·simp only[ag] at hp;subst hp;refine⟨by simp[gD],by simp[gP],_,by simp[a8];rfl,?_,iB (h1.rl _) (h2.rl _) bl⟩;rw[hk,aJ];exact ay some (iA bl d rv mv _)
def kL(d:SC)(i:Int)(t:BS):SC:= {d with x1:=(mB d.x1 d.x2 d.x3 d.x4 i t).x1,x2:=(mB d.x1 d.x2 d.x3 d.x4 i t).x2,x3:=(mB d.x1 d.x2 d.x3 d.x4 i t).x3,x4:=(mB d.x1 d.x2 d.x3 d.x4 i t).x4}
def CP:AC:=.region false [qm 7 0,qm 8 0,qn 9 8,qf 10 0 9,qd 11 4 10,qm 12 1,qm 13 2,qa 14 80 [.t 11,.t 12,.t 13],qm 6 14,qx 15 0 6,qx 16 1 6,qn 17 7,qf 18 0 17,qs 4 18 15]
theorem MD:fF Tryz.prog 42 Tryz.f42 CP [] 3 dS:=⟨Tryz.func42,by decide+kernel,by kernel_rfl,by kernel_rfl,by decide+kernel⟩
theorem ME(P:Prim)(hP:P=cp)(T c:cm)(bl:Nat)(d:SC)(rv mv:V)(f:V.one rv=true)(g:V.one mv=true)(i:Int)(t:BS)(y1:BS)(y2:Int)(a:BS)(b e:Int)(h1:hJ T 80 [.agg [.str d.x1,qI d.x2,.str d.x3,qI d.x4],qI i,.str t] (.tup [.agg [.str y1,qI y2,.str a,qI b],qI e]))
  (R:S->Prop)(h:∀s s',cd s s'->eP [(0,eO bl (eM {d with x1:=y1,x2:=y2,x3:=a,x4:=b} rv mv))] s'->R s):gE P T c CP (S0 [.ptr 0 (some bl) 47 0 0,qI i,.str t] (a8 [(0,eO bl (eM d rv mv))])) R (λ_ _=>False) R:=by
 cbv
 repeat' first|(refine qA ?_;cbv)|(intro j;cbv)|(refine h1 _ _ ?_;cbv)|fail
 exact h _ _ (cd.refl _) ⟨rfl,trivial⟩
theorem MF(bl:Nat)(d:SC)(i:Int)(t:BS)(ht:t.length<=140737488355328)(rv mv:V)(hq:WQ rv mv):Spec Tryz.prog 42 [.ptr 0 (some bl) 47 0 0,qI i,.str t] (a8 [(0,eO bl (eM d rv mv))]) λx h'=>∃L',(x=.tup []/\L'=[(0,eO bl (eM (kL d i t) rv mv))])/\h'=a8 L':=
 dE hW MD (L:=[(0,eO bl (eM d rv mv))]) (λx L'=>x=.tup []/\L'=[(0,eO bl (eM (kL d i t) rv mv))]) λR a=>
  ME cp rfl _ _ bl d rv mv hq.1.2 hq.2.2 i t _ _ _ _ _ (gK (PD d.x1 d.x2 d.x3 d.x4 i t ht) (λ_=>(.cons (.same _) (.cons (.same _) (.cons (.same _) .nil)))) rfl) R λs s' he ha=>a s s' (.tup []) [(0,eO bl (eM (kL d i t) rv mv))] he (by rfl) ha (.tup _ (λv hv=>by cases hv)) (λp hp=>by rw[ag.1 hp];exact iB hq.1.1 hq.2.1 bl) ⟨rfl,rfl⟩
def mJ(d:SC)(i:Int):SC:= {d with x1:=(mF d.x1 d.x2 d.x3 d.x4 i).x1,x2:=(mF d.x1 d.x2 d.x3 d.x4 i).x2,x3:=(mF d.x1 d.x2 d.x3 d.x4 i).x3,x4:=(mF d.x1 d.x2 d.x3 d.x4 i).x4}
def CQ:AC:=.region false [qm 5 0,qm 6 0,qn 7 6,qf 8 0 7,qd 9 4 8,qm 10 1,qa 11 81 [.t 9,.t 10],qm 4 11,qx 12 0 4,qx 13 1 4,qn 14 5,qf 15 0 14,qs 4 15 12]
theorem MG:fF Tryz.prog 44 Tryz.f44 CQ [] 2 dS:=⟨Tryz.func44,by decide+kernel,by kernel_rfl,by kernel_rfl,by decide+kernel⟩
theorem MH(P:Prim)(hP:P=cp)(T c:cm)(bl:Nat)(d:SC)(rv mv:V)(f:V.one rv=true)(g:V.one mv=true)(i:Int)(y1:BS)(y2:Int)(a:BS)(b e:Int)(h1:hJ T 81 [.agg [.str d.x1,qI d.x2,.str d.x3,qI d.x4],qI i] (.tup [.agg [.str y1,qI y2,.str a,qI b],qI e]))
  (R:S->Prop)(h:∀s s',cd s s'->eP [(0,eO bl (eM {d with x1:=y1,x2:=y2,x3:=a,x4:=b} rv mv))] s'->R s):gE P T c CQ (S0 [.ptr 0 (some bl) 47 0 0,qI i] (a8 [(0,eO bl (eM d rv mv))])) R (λ_ _=>False) R:=by
 cbv
 repeat' first|(refine qA ?_;cbv)|(intro j;cbv)|(refine h1 _ _ ?_;cbv)|fail
 exact h _ _ (cd.refl _) ⟨rfl,trivial⟩
theorem MI(bl:Nat)(d:SC)(i:Int)(rv mv:V)(hq:WQ rv mv):Spec Tryz.prog 44 [.ptr 0 (some bl) 47 0 0,qI i] (a8 [(0,eO bl (eM d rv mv))]) λx h'=>∃L',(x=.tup []/\L'=[(0,eO bl (eM (mJ d i) rv mv))])/\h'=a8 L':=
 dE hW MG (L:=[(0,eO bl (eM d rv mv))]) (λx L'=>x=.tup []/\L'=[(0,eO bl (eM (mJ d i) rv mv))]) λR a=>
  MH cp rfl _ _ bl d rv mv hq.1.2 hq.2.2 i _ _ _ _ _ (gK (PG d.x1 d.x2 d.x3 d.x4 i) (λ_=>(.cons (.same _) (.cons (.same _) .nil))) rfl) R λs s' he ha=>a s s' (.tup []) [(0,eO bl (eM (mJ d i) rv mv))] he (by rfl) ha (.tup _ (λv hv=>by cases hv)) (λp hp=>by rw[ag.1 hp];exact iB hq.1.1 hq.2.1 bl) ⟨rfl,rfl⟩
def lq(d:SC)(i n:Int):SC:= {d with x1:=(mG d.x1 d.x2 d.x3 d.x4 i n).x1,x2:=(mG d.x1 d.x2 d.x3 d.x4 i n).x2,x3:=(mG d.x1 d.x2 d.x3 d.x4 i n).x3,x4:=(mG d.x1 d.x2 d.x3 d.x4 i n).x4}
def CR:AC:=.region false [qm 7 0,qm 8 0,qn 9 8,qf 10 0 9,qd 11 4 10,qm 12 1,qm 13 2,qa 14 239 [.t 11,.t 12,.t 13],qm 6 14,qx 15 0 6,qx 16 1 6,qn 17 7,qf 18 0 17,qs 4 18 15]
theorem MJ:fF Tryz.prog 208 Tryz.f208 CR [] 3 dS:=⟨Tryz.func208,by decide+kernel,by kernel_rfl,by kernel_rfl,by decide+kernel⟩
theorem MK(P:Prim)(hP:P=cp)(T c:cm)(bl:Nat)(d:SC)(rv mv:V)(f:V.one rv=true)(g:V.one mv=true)(i n:Int)(y1:BS)(y2:Int)(a:BS)(b e:Int)(h1:hJ T 239 [.agg [.str d.x1,qI d.x2,.str d.x3,qI d.x4],qI i,qI n] (.tup [.agg [.str y1,qI y2,.str a,qI b],qI e]))
  (R:S->Prop)(h:∀s s',cd s s'->eP [(0,eO bl (eM {d with x1:=y1,x2:=y2,x3:=a,x4:=b} rv mv))] s'->R s):gE P T c CR (S0 [.ptr 0 (some bl) 47 0 0,qI i,qI n] (a8 [(0,eO bl (eM d rv mv))])) R (λ_ _=>False) R:=by
 cbv
 repeat' first|(refine qA ?_;cbv)|(intro j;cbv)|(refine h1 _ _ ?_;cbv)|fail
 exact h _ _ (cd.refl _) ⟨rfl,trivial⟩
theorem ML(bl:Nat)(d:SC)(i n:Int)(rv mv:V)(hq:WQ rv mv):Spec Tryz.prog 208 [.ptr 0 (some bl) 47 0 0,qI i,qI n] (a8 [(0,eO bl (eM d rv mv))]) λx h'=>∃L',(x=.tup []/\L'=[(0,eO bl (eM (lq d i n) rv mv))])/\h'=a8 L':=
 dE hW MJ (L:=[(0,eO bl (eM d rv mv))]) (λx L'=>x=.tup []/\L'=[(0,eO bl (eM (lq d i n) rv mv))]) λR a=>
  MK cp rfl _ _ bl d rv mv hq.1.2 hq.2.2 i n _ _ _ _ _ (gK (PJ d.x1 d.x2 d.x3 d.x4 i n) (λ_=>(.cons (.same _) (.cons (.same _) (.cons (.same _) .nil)))) rfl) R λs s' he ha=>a s s' (.tup []) [(0,eO bl (eM (lq d i n) rv mv))] he (by rfl) ha (.tup _ (λv hv=>by cases hv)) (λp hp=>by rw[ag.1 hp];exact iB hq.1.1 hq.2.1 bl) ⟨rfl,rfl⟩
def wc(T:cm):Prop:=∀(k bl:Nat)(d:SC)(rv mv:V)(i:Int)(t:BS)(h:Hp)(K:V->Hp->Prop),t.length<=140737488355328->WQ rv mv->sg k rv=true->sg k mv=true->h k=some (eO bl (eM d rv mv))->(∀d',d'=kL d i t->K (.tup []) (Hp.put h k (eO bl (eM d' rv mv))))->T 42 [.ptr k (some bl) 47 0 0,qI i,.str t] h K
theorem zf:wc (dF Tryz.prog):=λk bl d rv mv i t h K ht hq r1 r2 hk hK=>CO (v:=.tup []) (Q:=WQ) (λg=>hq.rl g) (λrv mv hq=>MF bl d i t ht rv mv hq) rfl (λ_=>rfl) hq.1.1 hq.2.1 r1 r2 hk (hK _ rfl)
def CS(T:cm):Prop:=∀(k bl:Nat)(d:SC)(rv mv:V)(i:Int)(h:Hp)(K:V->Hp->Prop),WQ rv mv->sg k rv=true->sg k mv=true->h k=some (eO bl (eM d rv mv))->(∀d',d'=mJ d i->K (.tup []) (Hp.put h k (eO bl (eM d' rv mv))))->T 44 [.ptr k (some bl) 47 0 0,qI i] h K
theorem H9:CS (dF Tryz.prog):=λk bl d rv mv i h K hq r1 r2 hk hK=>CO (v:=.tup []) (Q:=WQ) (λg=>hq.rl g) (λrv mv hq=>MI bl d i rv mv hq) rfl (λ_=>rfl) hq.1.1 hq.2.1 r1 r2 hk (hK _ rfl)
def OV(T:cm):Prop:=∀(k bl:Nat)(d:SC)(rv mv:V)(i n:Int)(h:Hp)(K:V->Hp->Prop),WQ rv mv->sg k rv=true->sg k mv=true->h k=some (eO bl (eM d rv mv))->(∀d',d'=lq d i n->K (.tup []) (Hp.put h k (eO bl (eM d' rv mv))))->T 208 [.ptr k (some bl) 47 0 0,qI i,qI n] h K
theorem RR:OV (dF Tryz.prog):=λk bl d rv mv i n h K hq r1 r2 hk hK=>CO (v:=.tup []) (Q:=WQ) (λg=>hq.rl g) (λrv mv hq=>ML bl d i n rv mv hq) rfl (λ_=>rfl) hq.1.1 hq.2.1 r1 r2 hk (hK _ rfl)
theorem Ia{h:Hp}{k:Nat}{o:Ob}(hk:h k=some o):Hp.put h k o=h:=by
 funext i
 unfold Hp.put
 by_cases hi:i=k
 ·rw[ab hi,hi,hk]
 ·rw[aa hi]
def S1(bl:Nat)(d:SC)(rv mv:V):List (Nat×Ob):=[(0,eO bl (eM d rv mv))]
theorem tu{f:Nat}{fn:Func}{ac:AC}{rv:List RV}{rest:List V}(ok:fF Tryz.prog f fn ac rv (rest.length+1) dS)(vs:List V)(v:V)(a:kI vs=v)(hv:Fz v)(bl:Nat)(d:SC)(r m:V)(hq:WQ r m)
  (h:∀R:S->Prop,(∀(s s':S),cd s s'->ia rv vs s'->eP (S1 bl d r m) s'->R s)->gE cp (dF Tryz.prog) (fk Tryz.prog) ac (S0 (.ptr 0 (some bl) 47 0 0::rest) (a8 (S1 bl d r m))) R (λ_ _=>False) R):
  Spec Tryz.prog f (.ptr 0 (some bl) 47 0 0::rest) (a8 (S1 bl d r m)) λx h'=>∃L',(x=v/\L'=S1 bl d r m)/\h'=a8 L':=
 dE hW ok (L:=S1 bl d r m) (λx L'=>x=v/\L'=S1 bl d r m) λR b=>h R λs s' he hr ha=>b s s' v _ he (da rv _ _ (λx hx=>by rw[hx];exact a) hr) ha hv (λp hp=>by rw[ag.1 hp];exact iB hq.1.1 hq.2.1 bl) ⟨rfl,rfl⟩
theorem TY{f k bl:Nat}{rest:List V}{d:SC}{rv mv v:V}{Q:V->V->Prop}(hQ:∀g,Q (rv.rl g) (mv.rl g))(hs:∀rv mv,Q rv mv->Spec Tryz.prog f (.ptr 0 (some bl) 47 0 0::rest) (a8 (S1 bl d rv mv)) λx h'=>∃L',(x=v/\L'=S1 bl d rv mv)/\h'=a8 L')
  (a:rest.all V.pl=true)(hv:∀g,v.gy g=v)(h1:Fz rv)(h2:Fz mv)(r1:sg k rv=true)(r2:sg k mv=true){h:Hp}{K:V->Hp->Prop}(hk:h k=some (eO bl (eM d rv mv)))(hK:K v h):dF Tryz.prog f (.ptr k (some bl) 47 0 0::rest) h K:=
 CO hQ hs a hv h1 h2 r1 r2 hk (by rw[Ia hk];exact hK)
def zg:AC:=qr [qz 2 0] (qq (.region true [qm 3 0,qn 4 3,qf 5 5 4,qf 6 1 5,ql 7 6,qm 8 0,qn 9 8,qf 10 5 9,qf 11 35 10,ql 12 11,qo 13 (.len false (.t 12)),qb 14 .add 7 13,qm 2 14]) .ret)
theorem Ib:fF Tryz.prog 71 Tryz.f71 zg [.t 2] 1 dS:=⟨Tryz.func71,by decide+kernel,by kernel_rfl,by kernel_rfl,by decide+kernel⟩
theorem Ic(P:Prim)(hP:P=cp)(T a:cm)(bl:Nat)(d:SC)(ka:Nat)(ba:Option Nat)(n:Nat)(mv:V)(c:V.one mv=true)(hb:P.i64 (P.add d.b (P.int n)))(r:Int)(hr:P.add d.b (P.int n)=r)
  (R:S->Prop)(e:∀s s' q,q=r->cd s s'->ia [.t 2] [qI q] s'->eP (S1 bl d (.own ka ba 3 n) mv) s'->R s):gE P T a zg (S0 [.ptr 0 (some bl) 47 0 0] (a8 (S1 bl d (.own ka ba 3 n) mv))) R (λ_ _=>False) R:=by
 cbv
 repeat' first|(refine qA ?_;cbv)|(intro f;cbv)
 exact e _ _ _ hr (cd.refl _) rfl ⟨rfl,trivial⟩
theorem Ie(bl:Nat)(d:SC)(ba:Option Nat)(n:Nat)(hb:0<=d.b/\d.b<=4294967295)(hn:n<=1000)(rv mv:V)(hq:OQ ba n rv mv):Spec Tryz.prog 71 [.ptr 0 (some bl) 47 0 0] (a8 (S1 bl d rv mv)) λx h'=>∃L',(x=qI (d.b+(n:Int))/\L'=S1 bl d rv mv)/\h'=a8 L':=by
 have hw:=hq.wq;obtain⟨⟨ka,rfl⟩,hm⟩:=hq;exact tu Ib [qI (d.b+(n:Int))] _ rfl (.int _ _) bl d _ mv hw λR a=>Ic cp rfl _ _ bl d ka ba n mv hm.2 (fm rfl (by rw[add_eq rfl,int_eq rfl];omega)) (d.b+(n:Int)) (by rw[add_eq rfl,int_eq rfl]) R λs s' q hq he hr ha=>a s s' he (by rw[<-hq];exact hr) ha
def nw(T:cm):Prop:=∀(k bl:Nat)(d:SC)(ka:Nat)(ba:Option Nat)(n:Nat)(mv:V)(h:Hp)(K:V->Hp->Prop),(0<=d.b/\d.b<=4294967295)->n<=1000->(Fz mv/\V.one mv=true)->sg k (.own ka ba 3 n)=true->sg k mv=true->h k=some (eO bl (eM d (.own ka ba 3 n) mv))->(∀q,q=d.b+(n:Int)->K (qI q) h)->T 71 [.ptr k (some bl) 47 0 0] h K
theorem oJ:nw (dF Tryz.prog):=λk bl d ka ba n mv h K hb hn hm r1 r2 hk hK=>TY (Q:=OQ ba n) (λg=>OQ.rl ⟨⟨ka,rfl⟩,hm⟩ g) (λrv mv hq=>Ie bl d ba n hb hn rv mv hq) rfl (λ_=>rfl) (.own _ _ _ _) hm.1 r1 r2 hk (hK _ rfl)
def iZ(b:Int)(n:Nat)(r:Int):Int:=if r<b then 9 else if b+(n:Int)<r then 8 else 0
def zh:AC:=qr [qz 4 0] (qq (qr [qm 5 1,qm 6 0,qn 7 6,qf 8 5 7,qf 9 1 8,ql 10 9,qb 11 .lss 5 10] (qu 11 (qr [qz 4 9] .ret) .skip)) (qq (qr [qm 12 1,qm 13 0,qa 14 71 [.t 13],qb 15 .gtr 12 14] (qu 15 (qr [qz 4 8] .ret) .skip)) (qr [qz 4 0] .ret)))
theorem Ig:fF Tryz.prog 72 Tryz.f72 zh [.t 4] 2 dS:=⟨Tryz.func72,by decide+kernel,by kernel_rfl,by kernel_rfl,by decide+kernel⟩
theorem Ih(P:Prim)(hP:P=cp)(T i:cm)(c:nw T)(bl:Nat)(d:SC)(ka:Nat)(ba:Option Nat)(n:Nat)(mv:V)(e:sg 0 (.own ka ba 3 n)=true)(f:sg 0 mv=true)(hm:Fz mv/\V.one mv=true)(hb:0<=d.b/\d.b<=4294967295)(hn:n<=1000)(j r:Int)(hr:iZ d.b n j=r)
  (R:S->Prop)(h:∀s s',cd s s'->ia [.t 4] [qI r] s'->eP (S1 bl d (.own ka ba 3 n) mv) s'->R s):gE P T i zh (S0 [.ptr 0 (some bl) 47 0 0,qI j] (a8 (S1 bl d (.own ka ba 3 n) mv))) R (λ_ _=>False) R:=by
 have k:=hm.2;unfold iZ at hr;cbv
 repeat' first|(refine qA ?_;cbv)|(intro a;cbv)
 refine a6 (λg=>?_) (λg=>?_)
 ·rw[ab (gM hP g)] at hr;cbv
  repeat' first|(refine qA ?_;cbv)|(intro a;cbv)
  subst hr;exact h _ _ (cd.refl _) rfl ⟨rfl,trivial⟩
 rw[aa (gN hP g)] at hr;cbv
 repeat' first|(refine qA ?_;cbv)|(intro a;cbv)|(refine c 0 bl d ka ba n mv _ _ hb hn hm e f rfl λq hq=>?_;cbv)|fail
 refine a6 (λg=>?_) (λg=>?_)
 ·have g1:q<j:=gM hP g;rw[hq] at g1;rw[ab g1] at hr;cbv
  repeat' first|(refine qA ?_;cbv)|(intro a;cbv)
  subst hr;exact h _ _ (cd.refl _) rfl ⟨rfl,trivial⟩
 ·have g1:¬q<j:=gN hP g;rw[hq] at g1;rw[aa g1] at hr;cbv
  repeat' first|(refine qA ?_;cbv)|(intro a;cbv)
  subst hr;exact h _ _ (cd.refl _) rfl ⟨rfl,trivial⟩
def MM:V->Bool
 |.win .. =>false
 |_=>true
theorem RS{v:V}(h:MM v=true):sg 0 v=true:=by
 cases v<;>first|rfl|(simp[sg];done)|cases h
theorem Ii{v:V}(h:MM v=true)(f:Nat->Nat):MM (v.rl f)=true:=by cases v<;>first|rfl|cases h
def TQ(ba:Option Nat)(n:Nat)(rv mv:V):Prop:=OQ ba n rv mv/\MM mv=true
theorem TQ.rl{ba:Option Nat}{n:Nat}{rv mv:V}(h:TQ ba n rv mv)(g:Nat->Nat):TQ ba n (rv.rl g) (mv.rl g):=⟨h.1.rl g,Ii h.2 g⟩
theorem Ij(bl:Nat)(d:SC)(ba:Option Nat)(n:Nat)(hb:0<=d.b/\d.b<=4294967295)(hn:n<=1000)(j:Int)(rv mv:V)(hq:TQ ba n rv mv):Spec Tryz.prog 72 [.ptr 0 (some bl) 47 0 0,qI j] (a8 (S1 bl d rv mv)) λx h'=>∃L',(x=qI (iZ d.b n j)/\L'=S1 bl d rv mv)/\h'=a8 L':=by
 have hw:=hq.1.wq;obtain⟨⟨⟨ka,rfl⟩,hm⟩,a⟩:=hq;exact tu Ig [qI (iZ d.b n j)] _ rfl (.int _ _) bl d _ mv hw λR c=>Ih cp rfl _ _ oJ bl d ka ba n mv (RS rfl) (RS a) hm hb hn j _ rfl R c
def xF(T:cm):Prop:=∀(k bl:Nat)(d:SC)(ka:Nat)(ba:Option Nat)(n:Nat)(mv:V)(j:Int)(h:Hp)(K:V->Hp->Prop),(0<=d.b/\d.b<=4294967295)->n<=1000->(Fz mv/\V.one mv=true)->MM mv=true->sg k (.own ka ba 3 n)=true->sg k mv=true->h k=some (eO bl (eM d (.own ka ba 3 n) mv))->(∀q,q=iZ d.b n j->K (qI q) h)->T 72 [.ptr k (some bl) 47 0 0,qI j] h K
theorem Ik:xF (dF Tryz.prog):=λk bl d ka ba n mv j h K hb hn hm hw r1 r2 hk hK=>TY (Q:=TQ ba n) (λg=>TQ.rl ⟨⟨⟨ka,rfl⟩,hm⟩,hw⟩ g) (λrv mv hq=>Ij bl d ba n hb hn j rv mv hq) rfl (λ_=>rfl) (.own _ _ _ _) hm.1 r1 r2 hk (hK _ rfl)
def S2(bl:Nat)(d:SC)(ba:Option Nat)(n:Nat)(rows:List (List V))(mv:V):List (Nat×Ob):=[(0,eO bl (eM d (.own 1000001 ba 3 n) mv)),(1000001,il ba rows)]
theorem Il{bl:Nat}{d:SC}{ba:Option Nat}{n:Nat}{l:List er}{mv:V}(hm:Fz mv):∀p∈S2 bl d ba n (l.map bd) mv,p.2.Fz:=by
 intro p hp
 rcases ah.1 hp with rfl|hp
 ·exact iB (.own _ _ _ _) hm bl
 ·rw[ag.1 hp];exact gR _
def zi(k ka:Nat):V->Bool
 |.own j _ _ _=>(!(Nat.beq j 0)&& !(Nat.beq j 1000001))||(Nat.beq k 0&&Nat.beq ka 1000001)
 |.ptr j _ _ _ _=>(!(Nat.beq j 0)&& !(Nat.beq j 1000001))||(Nat.beq k 0&&Nat.beq ka 1000001)
 |.win .. =>false
 |_=>true
theorem Im{k ka j:Nat}(hne:k≠ka)(h:((!(Nat.beq j 0)&& !(Nat.beq j 1000001))||(Nat.beq k 0&&Nat.beq ka 1000001))=true):gD [(0,k),(1000001,ka)] (gP [(0,k),(1000001,ka)] j)=j:=by
 simp only[bq,aO] at h
 by_cases h1:j=k
 ·subst h1;simp[gP,gD]
 ·by_cases h2:j=ka
  ·subst h2;simp[gP,gD,h1]
  ·have e:gP [(0,k),(1000001,ka)] j=j:=by simp[gP,h1,h2]
   rw[e]
   rcases h with h|⟨h,h'⟩
   ·have a:¬j=0:=λe=>by subst e;exact absurd h.1 (by simp)
    have b:¬j=1000001:=λe=>by subst e;exact absurd h.2 (by simp)
    simp[gD,a,b]
   ·have a:=bP h;have b:=bP h';have c:¬j=0:=by omega
    have d:¬j=1000001:=by omega
    simp[gD,c,d]
theorem Io{k ka:Nat}{v:V}(hne:k≠ka)(h:zi k ka v=true):(v.rl (gP [(0,k),(1000001,ka)])).rl (gD [(0,k),(1000001,ka)])=v:=by
 cases v<;>first|rfl|(simp only[V.rl];rw[Im hne h])|cases h
theorem Bw{k ka bl:Nat}{d:SC}{ba:Option Nat}{n:Nat}{rows:List (List V)}{mv:V}:∀j q,a8 (S2 bl d ba n rows mv) j=some q->∃p∈[(0,k),(1000001,ka)],p.1=j:=by
 intro j q hj;simp only[S2,a8] at hj
 split at hj
 ·rename_i h0;exact⟨(0,k),by simp,h0.symm⟩
 ·split at hj
  ·rename_i h0;exact⟨(1000001,ka),by simp,h0.symm⟩
  ·cases hj
theorem Bx{k ka bl:Nat}{d:SC}{ba:Option Nat}{n:Nat}{l:List er}{mv:V}{h:Hp}(hne:k≠ka)(hm:Fz mv)(hk:h k=some (eO bl (eM d (.own ka ba 3 n) mv)))(f:h ka=some (il ba (l.map bd))):∀p∈[(0,k),(1000001,ka)],gD [(0,k),(1000001,ka)] p.1=p.2/\gP [(0,k),(1000001,ka)] p.2=p.1/\
  ∃o,a8 (S2 bl d ba n (l.map bd) (mv.rl (gP [(0,k),(1000001,ka)]))) p.1=some o/\(h p.2).map (Ob.gy (gP [(0,k),(1000001,ka)]))=some o/\o.Fz:=by
 have a:¬ka=k:=λe=>hne e.symm;have b:gP [(0,k),(1000001,ka)] ka=1000001:=by simp[gP,a]
 have c:gP [(0,k),(1000001,ka)] k=0:=by simp[gP]
 intro p hp;simp only[ah,aq,aQ] at hp
 rcases hp with rfl|rfl
 ·refine⟨by simp[gD],c,_,rfl,?_,iB (.own _ _ _ _) (hm.rl _) bl⟩;rw[hk,aJ,iA];show some (eO bl (eM d (.own (gP [(0,k),(1000001,ka)] ka) ba 3 n) _))=_;rw[b]
 ·refine⟨by simp[gD],b,_,rfl,?_,gR _⟩;rw[f,aJ];exact ay some (kp ba l _)
theorem Ip{f k ka bl off:Nat}{rest:List V}{d d':SC}{ba:Option Nat}{n n':Nat}{l l':List er}{mv v:V}{Q:V->Prop}(hQ:∀g,Q (mv.rl g))(hs:∀mv,Q mv->Spec Tryz.prog f (.ptr 0 (some bl) 47 0 off::rest) (a8 (S2 bl d ba n (l.map bd) mv)) λx h'=>∃L',(x=v/\∃a,L'=S2 bl d' a n' (l'.map bd) mv)/\h'=a8 L')
  (c:∀h,lG h [(0,k),(1000001,ka)] rest rest)(hv:∀g,v.gy g=v)(hm:Fz mv)(hne:Nat.beq k ka=false)(r2:zi k ka mv=true){h:Hp}{K:V->Hp->Prop}(hk:h k=some (eO bl (eM d (.own ka ba 3 n) mv)))(s:h ka=some (il ba (l.map bd)))
  (hK:∀a,K v (Hp.put (Hp.put h k (eO bl (eM d' (.own ka a 3 n') mv))) ka (il a (l'.map bd)))):dF Tryz.prog f (.ptr k (some bl) 47 0 off::rest) h K:=by
 have b:k≠ka:=by intro e;subst e;rw[bY] at hne;cases hne
 have j:¬ka=k:=λe=>b e.symm;have t:gP [(0,k),(1000001,ka)] ka=1000001:=by simp[gP,j]
 have q:gP [(0,k),(1000001,ka)] k=0:=by simp[gP]
 have u:gD [(0,k),(1000001,ka)] 1000001=ka:=by simp[gD]
 refine oe (m:=[(0,k),(1000001,ka)]) (hs (mv.rl (gP [(0,k),(1000001,ka)])) (hQ _)) (.cons ?_ (c h)) Bw (λp hp=>?_) ?_
 ·have:=Arg.same (h:=h) (m:=[(0,k),(1000001,ka)]) (.ptr k (some bl) 47 0 off);simpa[V.gy,V.rl,gP] using this
 ·obtain⟨a1,a2,o,a3,a4,a5⟩:=Bx b hm hk s p hp;refine⟨a1,a2,λo' r=>?_⟩;rw[a3] at r;cases r;exact⟨a4,a5⟩
 ·rintro x L' ⟨rfl,a,rfl⟩;have e:h.jh [(0,k),(1000001,ka)] (a8 (S2 bl d' a n' (l'.map bd) (mv.rl (gP [(0,k),(1000001,ka)]))))=Hp.put (Hp.put h k (eO bl (eM d' (.own ka a 3 n') mv))) ka (il a (l'.map bd)):=by
   funext i
   simp only[Hp.jh,Hp.put,bZ,cE,cw,bq,bM]
   by_cases h1:ka=i
   ·subst h1;rw[ab (.inr rfl),ab rfl,t];show(some (il a (l'.map bd))).map (Ob.gy (gD [(0,k),(1000001,ka)]))=_;rw[aJ,kp]
   ·by_cases h2:k=i
    ·subst h2;rw[ab (.inl rfl),aa (λe=>h1 e.symm),ab rfl,q];show(some (eO bl (eM d' (.own 1000001 a 3 n') (mv.rl (gP [(0,k),(1000001,ka)]))))).map (Ob.gy (gD [(0,k),(1000001,ka)]))=_;rw[aJ,iA,Io b r2];show some (eO bl (eM d' (.own (gD [(0,k),(1000001,ka)] 1000001) a 3 n') mv))=_;rw[u]
    ·rw[aa (by rintro(h|h);exact h2 h;exact h1 h),aa (λe=>h1 e.symm),aa (λe=>h2 e.symm)]
  rw[e,hv];exact hK a
theorem RT{f k ka bl:Nat}{rest:List V}{d:SC}{ba:Option Nat}{n:Nat}{l:List er}{mv v:V}{Q:V->Prop}(hQ:∀g,Q (mv.rl g))(hs:∀mv,Q mv->Spec Tryz.prog f (.ptr 0 (some bl) 47 0 0::rest) (a8 (S2 bl d ba n (l.map bd) mv)) λx h'=>∃L',(x=v/\L'=S2 bl d ba n (l.map bd) mv)/\h'=a8 L')
  (b:rest.all V.pl=true)(hv:∀g,v.gy g=v)(hm:Fz mv)(hne:Nat.beq k ka=false)(r2:zi k ka mv=true){h:Hp}{K:V->Hp->Prop}(hk:h k=some (eO bl (eM d (.own ka ba 3 n) mv)))(c:h ka=some (il ba (l.map bd)))
  (hK:K v h):dF Tryz.prog f (.ptr k (some bl) 47 0 0::rest) h K:=by
 have a:k≠ka:=by intro e;subst e;rw[bY] at hne;cases hne
 have j:¬ka=k:=λe=>a e.symm;have s:gP [(0,k),(1000001,ka)] ka=1000001:=by simp[gP,j]
 have q:gP [(0,k),(1000001,ka)] k=0:=by simp[gP]
 have t:gD [(0,k),(1000001,ka)] 1000001=ka:=by simp[gD]
 refine oe (m:=[(0,k),(1000001,ka)]) (hs (mv.rl (gP [(0,k),(1000001,ka)])) (hQ _)) (.cons ?_ (fX b)) Bw (λp hp=>?_) ?_
 ·have:=Arg.same (h:=h) (m:=[(0,k),(1000001,ka)]) (.ptr k (some bl) 47 0 0);simpa[V.gy,V.rl,gP] using this
 ·obtain⟨a1,a2,o,a3,a4,a5⟩:=Bx a hm hk c p hp;refine⟨a1,a2,λo' r=>?_⟩;rw[a3] at r;cases r;exact⟨a4,a5⟩
 ·rintro x L' ⟨rfl,rfl⟩;have e:h.jh [(0,k),(1000001,ka)] (a8 (S2 bl d ba n (l.map bd) (mv.rl (gP [(0,k),(1000001,ka)]))))=h:=by
   funext i
   simp only[Hp.jh,bZ,cE,cw,bq,bM]
   by_cases h1:ka=i
   ·subst h1;rw[ab (.inr rfl),s,c];show(some (il ba (l.map bd))).map (Ob.gy (gD [(0,k),(1000001,ka)]))=_;rw[aJ,kp]
   ·by_cases h2:k=i
    ·subst h2;rw[ab (.inl rfl),q,hk];show(some (eO bl (eM d (.own 1000001 ba 3 n) (mv.rl (gP [(0,k),(1000001,ka)]))))).map (Ob.gy (gD [(0,k),(1000001,ka)]))=_;rw[aJ,iA,Io a r2];show some (eO bl (eM d (.own (gD [(0,k),(1000001,ka)] 1000001) ba 3 n) mv))=_;rw[t]
    ·rw[aa (by rintro(h|h);exact h2 h;exact h1 h)]
  rw[e,hv];exact hK
theorem RU{f k ka bl:Nat}{rest:List V}{d:SC}{ba:Option Nat}{n:Nat}{l:List er}{mv v:V}{Q:V->Prop}(hQ:∀g,Q (mv.rl g))(hs:∀mv,Q mv->Spec Tryz.prog f (.ptr 0 (some bl) 47 0 0::rest) (a8 (S2 bl d ba n (l.map bd) mv)) λx h'=>∃L',(x=v/\L'=S2 bl d ba n (l.map bd) mv)/\h'=a8 L')
  (a:rest.all V.pl=true)(hv:∀g,v.gy g=v)(hm:Fz mv)(hne:Nat.beq k ka=false){h:Hp}{K:V->Hp->Prop}(hk:h k=some (eO bl (eM d (.own ka ba 3 n) mv)))(c:h ka=some (il ba (l.map bd)))
  (hK:K v h):fk Tryz.prog f (.ptr k (some bl) 47 0 0::rest) h K:=by
 have b:k≠ka:=by intro e;subst e;rw[bY] at hne;cases hne
 have hs0:=hs (mv.rl (gP [(0,k),(1000001,ka)])) (hQ _);refine⟨[(0,k),(1000001,ka)],_,a8 (S2 bl d ba n (l.map bd) (mv.rl (gP [(0,k),(1000001,ka)]))),v,⟨hs0.fn,λC us a1 a2 a3 a4=>(hs0.run C us a1 a2 a3 a4).mono ?_⟩,.cons ?_ (fX a),Bw,Bx b hm hk c,by rw[hv];exact hK⟩
 ·rintro e w' ⟨u,x,h',F',e1,i,j,L',⟨rfl,rfl⟩,rfl⟩;exact⟨u,_,_,F',e1,i,j,rfl,rfl⟩
 ·have:=Arg.same (h:=h) (m:=[(0,k),(1000001,ka)]) (.ptr k (some bl) 47 0 0);simpa[V.gy,V.rl,gP] using this
def By(T:cm):Prop:=∀(ka:Nat)(ba:Option Nat)(n:Nat)(rows:List (List V))(l:List er)(base:BS)(j:Int)(h:Hp)(K:V->Hp->Prop),rows=l.map bd->n=l.length->mw l->h ka=some ⟨ba,96,3,rows⟩->(∀x y,x=(jy base l j).1->y=(jy base l j).2->K (.tup [.str x,qI y]) h)->T 73 [.str base,.own ka ba 3 n,qI j] h K
theorem Iq:By (fk Tryz.prog):=by
 rintro ka ba n rows l base j h K rfl rfl hl hk hK;exact nr (L1 base l j hl) (.cons (.same _) (.cons (.own ka ba 3 _ _ (jU (by simp) hk) (by simp)) (.cons (.same _) .nil))) (hK _ _ rfl rfl)
def iu(d:SC)(l:List er)(j:Int):BS×Int:=if iZ d.b l.length j≠0 then([],iZ d.b l.length j) else jy d.tx l (j-d.b)
def zj:AC:=qr [qo 4 (.mov (.c qe)),qz 5 0] (qq (qr [qm 7 0,qm 8 1,qa 9 72 [.t 7,.t 8],qm 6 9] (qr [qm 10 6,qc 11 .neq 10 0] (qu 11 (qr [qm 12 6,qo 4 (.mov (.c qe)),qm 5 12] .ret) .skip))) (qq (.region true [qm 13 0,qn 14 13,qf 15 5 14,qf 16 2 15,ql 17 16,qm 18 0,qn 19 18,qf 20 5 19,qf 21 35 20,ql 22 21,qm 23 1,qm 24 0,qn 25 24,qf 26 5 25,qf 27 1 26,ql 28 27,qb 29 .sub 23 28,qa 30 73 [.t 17,.t 22,.t 29],qx 31 0 30,qx 32 1 30,qm 4 31,qm 5 32]) .ret))
theorem Ir:fF Tryz.prog 38 Tryz.f38 zj [.t 4,.t 5] 2 dS:=⟨Tryz.func38,by decide+kernel,by kernel_rfl,by kernel_rfl,by decide+kernel⟩
theorem It(P:Prim)(hP:P=cp)(T i:cm)(c:xF T)(e:By i)(bl:Nat)(d:SC)(ba:Option Nat)(l:List er)(n:Nat)(hn:n=l.length)(rows:List (List V))(hrows:rows=l.map bd)(hl:mw l)(mv:V)(f:sg 0 mv=true)(hm:Fz mv/\V.one mv=true)(hw:MM mv=true)(hb:0<=d.b/\d.b<=4294967295)(h:n<=1000)(j:Int)(x:BS)(y:Int)(hr:iu d l j=(x,y))
  (R:S->Prop)(k:∀s s',cd s s'->ia [.t 4,.t 5] [.str x,qI y] s'->eP (S2 bl d ba n rows mv) s'->R s):gE P T i zj (S0 [.ptr 0 (some bl) 47 0 0,qI j] (a8 (S2 bl d ba n rows mv))) R (λ_ _=>False) R:=by
 have m:=hm.2;unfold iu at hr;rw[<-hn] at hr;cbv
 repeat' first|(refine qA ?_;cbv)|(intro a;cbv)
 refine c 0 bl d 1000001 ba n mv j _ _ hb h hm hw rfl f rfl λq hq=>?_;rw[<-hq] at hr;cbv
 repeat' first|(refine qA ?_;cbv)|(intro a;cbv)
 refine a6 (λg=>?_) (λg=>?_)
 ·have g1:q≠0:=iG hP g;rw[ab g1] at hr;cases hr;cbv
  repeat' first|(refine qA ?_;cbv)|(intro a;cbv)
  exact k _ _ (cd.refl _) rfl ⟨rfl,rfl,trivial⟩
 have g1:q=0:=iy hP g;rw[aa (λhh=>hh g1)] at hr;have hj:d.b<=j/\j<=d.b+(n:Int):=by
  rw[g1] at hq;unfold iZ at hq
  split at hq
  ·cases hq
  ·split at hq
   ·cases hq
   ·omega
 have m1:P.i64 (P.sub j d.b):=by rw[sub_eq hP];exact fm hP qW
 cbv
 repeat' first|(refine qA ?_;cbv)|(intro a;cbv)
 refine e 1000001 ba n rows l _ _ _ _ hrows hn hl rfl λo p hx hy=>?_;rw[sub_eq hP,hr] at hx hy;cbv
 repeat' first|(refine qA ?_;cbv)|(intro a;cbv)
 subst hx hy;exact k _ _ (cd.refl _) rfl ⟨rfl,rfl,trivial⟩
def MQ(mv:V):Prop:=(Fz mv/\V.one mv=true)/\MM mv=true
theorem MQ.rl{mv:V}(h:MQ mv)(g:Nat->Nat):MQ (mv.rl g):=⟨⟨h.1.1.rl g,xE h.1.2 g⟩,Ii h.2 g⟩
theorem zk(bl:Nat)(d:SC)(ba:Option Nat)(l:List er)(hl:mw l)(hb:0<=d.b/\d.b<=4294967295)(a:l.length<=1000)(j:Int)(mv:V)(hq:MQ mv):Spec Tryz.prog 38 [.ptr 0 (some bl) 47 0 0,qI j] (a8 (S2 bl d ba l.length (l.map bd) mv)) λx h'=>∃L',(x=.tup [.str (iu d l j).1,qI (iu d l j).2]/\L'=S2 bl d ba l.length (l.map bd) mv)/\h'=a8 L':=
 dE hW Ir (L:=S2 bl d ba l.length (l.map bd) mv) (λx L'=>x=.tup [.str (iu d l j).1,qI (iu d l j).2]/\L'=S2 bl d ba l.length (l.map bd) mv) λR c=>
  It cp rfl _ _ Ik Iq bl d ba l _ rfl _ rfl hl mv (RS hq.2) hq.1 hq.2 hb a j _ _ rfl R λs s' he hr ha=>c s s' _ _ he (da _ _ _ (λx hx=>by rw[hx];rfl) hr) ha (.tup _ (by simp;exact⟨.str _,.int _ _⟩)) (Il hq.1.1) ⟨rfl,rfl⟩
def uE(T:cm):Prop:=∀(k ka bl:Nat)(d:SC)(ba:Option Nat)(n:Nat)(rows:List (List V))(l:List er)(mv:V)(j:Int)(h:Hp)(K:V->Hp->Prop),rows=l.map bd->n=l.length->mw l->(0<=d.b/\d.b<=4294967295)->l.length<=1000->MQ mv->Nat.beq k ka=false->zi k ka mv=true->h k=some (eO bl (eM d (.own ka ba 3 n) mv))->h ka=some (il ba rows)->(∀x y,x=(iu d l j).1->y=(iu d l j).2->K (.tup [.str x,qI y]) h)->T 38 [.ptr k (some bl) 47 0 0,qI j] h K
theorem Iu:uE (dF Tryz.prog):=by
 rintro k ka bl d ba n rows l mv j h K rfl rfl hl hb hn hq hne hr hk a hK;exact RT (Q:=MQ) (λg=>hq.rl g) (λmv hq=>zk bl d ba l hl hb hn j mv hq) rfl (λ_=>rfl) hq.1.1 hne hr hk a (hK _ _ rfl rfl)
end Go.Proofs.YtajdadcdcpnedaaGreatDoor.AM
