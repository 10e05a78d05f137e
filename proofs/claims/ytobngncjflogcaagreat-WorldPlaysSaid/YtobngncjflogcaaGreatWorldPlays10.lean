/-
  Part 12 of what the law WorldPlays reaches: the plain machine, contracts of the functions and plain laws; each lemma says its own condition.
-/
import Derived.Test.YtobngncjflogcaaGreatWorldPlays6
import Derived.Test.YtobngncjflogcaaGreatWorldPlays9
import Derived.Test.YtobngncjflogcaaGreatWorldPlays8
set_option linter.unusedVariables false
set_option linter.unusedSimpArgs false
namespace Go.Proofs.YtobngncjflogcaaGreat.AM
open Go Go.RowKit
set_option maxRecDepth 100000
set_option maxHeartbeats 2000000
structure SC where
 x1:BS
 x2:Int
 x3:BS
 x4:Int
 gr:Int
 gn:Int
 b:Int
 tx:BS
 fs:Nat->Int
 tb:Nat->Int
 wh:Bool
 gd:Int
 now:BS
 sf:Int
 jq:Bool
def fJ(d:SC)(rv mv:V):List V:=[.str d.x1,.int .i64 d.x2,.str d.x3,.int .i64 d.x4,.int .i64 d.gr,.int .i64 d.gn,.int .i64 d.b,.str d.tx,.int .i64 (d.fs 0),.int .i64 (d.fs 1),.int .i64 (d.fs 2),.int .i64 (d.fs 3),.int .i64 (d.fs 4),.int .i64 (d.fs 5),.int .i64 (d.fs 6),.int .i64 (d.fs 7),.int .i64 (d.fs 8),.int .i64 (d.fs 9),.int .i64 (d.fs 10),.int .i64 (d.fs 11),.int .i64 (d.fs 12),.int .i64 (d.fs 13),.int .i64 (d.fs 14),.int .i64 (d.fs 15),.int .i64 (d.tb 0),.int .i64 (d.tb 1),.int .i64 (d.tb 2),.int .i64 (d.tb 3),.int .i64 (d.tb 4),.int .i64 (d.tb 5),.int .i64 (d.tb 6),.int .i64 (d.tb 7),.int .i64 (d.tb 8),.int .i64 (d.tb 9),.int .i64 (d.tb 10),.int .i64 (d.tb 11),.int .i64 (d.tb 12),.int .i64 (d.tb 13),.int .i64 (d.tb 14),.int .i64 (d.tb 15),rv,.bool d.wh,.int .i64 d.gd,.str d.now,.int .i64 d.sf,mv,.bool d.jq]
def fK(bl:Nat)(r:List V):Ob:=⟨some bl,75,47,[r]⟩
theorem jL(bl:Nat)(d:SC)(rv mv:V)(f:Nat->Nat):(fK bl (fJ d rv mv)).gA f=fK bl (fJ d (rv.rl f) (mv.rl f)):=rfl
theorem Fz.rl{v:V}(h:Fz v)(f:Nat->Nat):Fz (v.rl f):=by
 cases v<;>first|exact h|exact .own _ _ _ _|exact .ptr _ _ _ _ _|exact .win _ _ _ _ _
theorem jW{d:SC}{rv mv:V}(h1:Fz rv)(h2:Fz mv)(bl:Nat):(fK bl (fJ d rv mv)).Fz:=by
 intro r hr v hv;simp only[fK,aw] at hr;subst hr;simp only[fJ,ax,aF,bj] at hv
 rcases hv with rfl|rfl|rfl|rfl|rfl|rfl|rfl|rfl|rfl|rfl|rfl|rfl|rfl|rfl|rfl|rfl|rfl|rfl|rfl|rfl|rfl|rfl|rfl|rfl|rfl|rfl|rfl|rfl|rfl|rfl|rfl|rfl|rfl|rfl|rfl|rfl|rfl|rfl|rfl|rfl|rfl|rfl|rfl|rfl|rfl|rfl|rfl
 all_goals first|exact .int _ _|exact .str _|exact .bool _|exact h1|exact h2
def wk(k:Nat):V->Bool
 |.own j _ _ _=> !(Nat.beq j 0)||Nat.beq k 0
 |.ptr j _ _ _ _=> !(Nat.beq j 0)||Nat.beq k 0
 |.win .. =>false
 |_=>true
theorem IF{k j:Nat}(h:(!(Nat.beq j 0)||Nat.beq k 0)=true):gI [(0,k)] (gT [(0,k)] j)=j:=by
 simp only[bC,dz] at h;unfold gT gT
 by_cases hj:j=k
 ·rw[ae hj];simp[gI,hj]
 ·rw[aa hj];unfold gI gI
  rcases h with h|h
  ·have:¬j=0:=λe=>by subst e;cases h
   rw[aa this]
  ·have:k=0:=aY h
   by_cases h0:j=0
   ·rw[ae h0];omega
   ·rw[aa h0]
theorem O3{k:Nat}{v:V}(h:wk k v=true):(v.rl (gT [(0,k)])).rl (gI [(0,k)])=v:=by
 cases v<;>first|rfl|(simp only[V.rl];rw[IF h])|cases h
def WQ(rv mv:V):Prop:=(Fz rv/\V.one rv=true)/\Fz mv/\V.one mv=true
def OQ(ba:Option Nat)(n:Nat)(rv mv:V):Prop:=(∃j,rv=.own j ba 3 n)/\Fz mv/\V.one mv=true
theorem yc{v:V}(h:V.one v=true)(f:Nat->Nat):V.one (v.rl f)=true:=by cases v<;>first|exact h|rfl
theorem WQ.rl{rv mv:V}(h:WQ rv mv)(g:Nat->Nat):WQ (rv.rl g) (mv.rl g):=⟨⟨h.1.1.rl g,yc h.1.2 g⟩,h.2.1.rl g,yc h.2.2 g⟩
theorem OQ.rl{ba:Option Nat}{n:Nat}{rv mv:V}(h:OQ ba n rv mv)(g:Nat->Nat):OQ ba n (rv.rl g) (mv.rl g):=by
 obtain⟨⟨j,rfl⟩,h⟩:=h;exact⟨⟨g j,rfl⟩,h.1.rl g,yc h.2 g⟩
theorem OQ.wq{ba:Option Nat}{n:Nat}{rv mv:V}(h:OQ ba n rv mv):WQ rv mv:=by
 obtain⟨⟨j,rfl⟩,h⟩:=h;exact⟨⟨.own _ _ _ _,rfl⟩,h⟩
theorem IG{P:Program}{Q:V->V->Prop}{f k bl:Nat}{rest:List V}{d:SC}{rv mv v:V}{d':SC}(l:∀g,Q (rv.rl g) (mv.rl g))(hs:∀rv mv,Q rv mv->Spec P f (.ptr 0 (some bl) 47 0 0::rest) (b7 [(0,fK bl (fJ d rv mv))]) λx h'=>∃b,(x=v/\b=[(0,fK bl (fJ d' rv mv))])/\h'=b7 b)
  (a:rest.all V.pl=true)(hv:∀g,v.gA g=v)(h1:Fz rv)(h2:Fz mv)(r1:wk k rv=true)(r2:wk k mv=true){h:Hp}{K:V->Hp->Prop}(hk:h k=some (fK bl (fJ d rv mv)))(hK:K v (Hp.put h k (fK bl (fJ d' rv mv)))):fa P f (.ptr k (some bl) 47 0 0::rest) h K:=by
 refine oe (m:=[(0,k)]) (hs (rv.rl (gT [(0,k)])) (mv.rl (gT [(0,k)])) (l _)) (.cons ?_ (gf a)) (λj q hj=>?_) (λp hp=>?_) ?_
 ·have:=Arg.same (h:=h) (m:=[(0,k)]) (.ptr k (some bl) 47 0 0);simpa[V.gA,V.rl,gT] using this
 ·simp only[b7] at hj
  split at hj
  ·rename_i h0;exact⟨(0,k),by simp,h0.symm⟩
  ·cases hj
 ·simp only[aw] at hp;subst hp;refine⟨by simp[gI],by simp[gT],λq hq=>?_⟩;simp only[b7,↓reduceIte,aH] at hq;subst hq;refine⟨?_,jW (h1.rl _) (h2.rl _) bl⟩;rw[hk,aN];exact aR some (jL bl d rv mv _)
 ·rintro x b ⟨rfl,rfl⟩;have e:h.iX [(0,k)] (b7 [(0,fK bl (fJ d' (rv.rl (gT [(0,k)])) (mv.rl (gT [(0,k)]))))])=Hp.put h k (fK bl (fJ d' rv mv)):=by
   funext i
   simp only[Hp.iX,Hp.put,cC,cY,cN,bU]
   by_cases hi:k=i
   ·subst hi;have c:gT [(0,k)] k=0:=by simp[gT]
    rw[ae rfl,ae rfl,c];show(some (fK bl (fJ d' (rv.rl (gT [(0,k)])) (mv.rl (gT [(0,k)]))))).map (Ob.gA (gI [(0,k)]))=_;rw[aN,jL,O3 r1,O3 r2]
   ·rw[aa hi,aa λe=>hi e.symm]
  rw[e,hv];exact hK
theorem QP{P:Program}{Q:V->V->Prop}{f k bl:Nat}{rest:List V}{d:SC}{rv mv v:V}(c:∀g,Q (rv.rl g) (mv.rl g))(hs:∀rv mv,Q rv mv->Spec P f (.ptr 0 (some bl) 47 0 0::rest) (b7 [(0,fK bl (fJ d rv mv))]) λx h'=>∃b,(x=v/\b=[(0,fK bl (fJ d rv mv))])/\h'=b7 b)
  (a:rest.all V.pl=true)(hv:∀g,v.gA g=v)(h1:Fz rv)(h2:Fz mv){h:Hp}{K:V->Hp->Prop}(hk:h k=some (fK bl (fJ d rv mv)))(hK:K v h):fj P f (.ptr k (some bl) 47 0 0::rest) h K:=by
 have hs0:=hs (rv.rl (gT [(0,k)])) (mv.rl (gT [(0,k)])) (c _);refine⟨[(0,k)],_,b7 [(0,fK bl (fJ d (rv.rl (gT [(0,k)])) (mv.rl (gT [(0,k)]))))],v,⟨hs0.fn,λC us a1 a2 a3 a4=>(hs0.run C us a1 a2 a3 a4).mono ?_⟩,.cons ?_ (gf a),λj q hj=>?_,λp hp=>?_,by rw[hv];exact hK⟩
 ·rintro e w' ⟨u,x,h',F',e1,e2,e3,b,⟨rfl,rfl⟩,rfl⟩;exact⟨u,_,_,F',e1,e2,e3,rfl,rfl⟩
 ·have:=Arg.same (h:=h) (m:=[(0,k)]) (.ptr k (some bl) 47 0 0);simpa[V.gA,V.rl,gT] using this
 ·simp only[b7] at hj
  split at hj
  ·rename_i h0;exact⟨(0,k),by simp,h0.symm⟩
  ·cases hj
 ·simp only[aw] at hp;subst hp;refine⟨by simp[gI],by simp[gT],_,by simp[b7];rfl,?_,jW (h1.rl _) (h2.rl _) bl⟩;rw[hk,aN];exact aR some (jL bl d rv mv _)
def kT(d:SC)(i:Int)(t:BS):SC:= {d with x1:=(nf d.x1 d.x2 d.x3 d.x4 i t).x1,x2:=(nf d.x1 d.x2 d.x3 d.x4 i t).x2,x3:=(nf d.x1 d.x2 d.x3 d.x4 i t).x3,x4:=(nf d.x1 d.x2 d.x3 d.x4 i t).x4}
def Db:AC:=.region false [qm 7 0,qm 8 0,qn 9 8,qf 10 0 9,qd 11 4 10,qm 12 1,qm 13 2,qa 14 71 [.t 11,.t 12,.t 13],qm 6 14,qx 15 0 6,qx 16 1 6,qn 17 7,qf 18 0 17,qs 4 18 15]
theorem MX:fo Tryz.prog 26 Tryz.f26 Db [] 3 eV:=⟨Tryz.func26,by decide+kernel,by kernel_rfl,by kernel_rfl,by decide+kernel⟩
theorem MY(P:Prim)(hP:P=ca)(T g:cp)(bl:Nat)(d:SC)(rv mv:V)(h:V.one rv=true)(j:V.one mv=true)(i:Int)(t:BS)(a:BS)(b:Int)(c:BS)(f e:Int)(h1:fZ T 71 [.agg [.str d.x1,qI d.x2,.str d.x3,qI d.x4],qI i,.str t] (.tup [.agg [.str a,qI b,.str c,qI f],qI e]))
  (R:S->Prop)(k:∀s s',a7 s s'->fh [(0,fK bl (fJ {d with x1:=a,x2:=b,x3:=c,x4:=f} rv mv))] s'->R s):fX P T g Db (S0 [.ptr 0 (some bl) 47 0 0,qI i,.str t] (b7 [(0,fK bl (fJ d rv mv))])) R (λ_ _=>False) R:=by
 cbv
 repeat' first|(refine qA ?_;cbv)|(intro l;cbv)|(refine h1 _ _ ?_;cbv)|fail
 exact k _ _ (a7.refl _) ⟨rfl,trivial⟩
theorem MZ(bl:Nat)(d:SC)(i:Int)(t:BS)(ht:t.length<=140737488355328)(rv mv:V)(hq:WQ rv mv):Spec Tryz.prog 26 [.ptr 0 (some bl) 47 0 0,qI i,.str t] (b7 [(0,fK bl (fJ d rv mv))]) λx h'=>∃a,(x=.tup []/\a=[(0,fK bl (fJ (kT d i t) rv mv))])/\h'=b7 a:=
 fe gY MX (L:=[(0,fK bl (fJ d rv mv))]) (λx a=>x=.tup []/\a=[(0,fK bl (fJ (kT d i t) rv mv))]) λR b=>
  MY ca rfl _ _ bl d rv mv hq.1.2 hq.2.2 i t _ _ _ _ _ (fU (Qm d.x1 d.x2 d.x3 d.x4 i t ht) (λ_=>(.cons (.same _) (.cons (.same _) (.cons (.same _) .nil)))) rfl) R λs s' he ha=>b s s' (.tup []) [(0,fK bl (fJ (kT d i t) rv mv))] he (by rfl) ha (.tup _ (λv hv=>by cases hv)) (λp hp=>by rw[aw.1 hp];exact jW hq.1.1 hq.2.1 bl) ⟨rfl,rfl⟩
def pS(d:SC)(i:Int):SC:= {d with x1:=(ng d.x1 d.x2 d.x3 d.x4 i).x1,x2:=(ng d.x1 d.x2 d.x3 d.x4 i).x2,x3:=(ng d.x1 d.x2 d.x3 d.x4 i).x3,x4:=(ng d.x1 d.x2 d.x3 d.x4 i).x4}
def Dc:AC:=.region false [qm 5 0,qm 6 0,qn 7 6,qf 8 0 7,qd 9 4 8,qm 10 1,qa 11 72 [.t 9,.t 10],qm 4 11,qx 12 0 4,qx 13 1 4,qn 14 5,qf 15 0 14,qs 4 15 12]
theorem M1:fo Tryz.prog 28 Tryz.f28 Dc [] 2 eV:=⟨Tryz.func28,by decide+kernel,by kernel_rfl,by kernel_rfl,by decide+kernel⟩
theorem M3(P:Prim)(hP:P=ca)(T g:cp)(bl:Nat)(d:SC)(rv mv:V)(h:V.one rv=true)(j:V.one mv=true)(i:Int)(a:BS)(b:Int)(c:BS)(f e:Int)(h1:fZ T 72 [.agg [.str d.x1,qI d.x2,.str d.x3,qI d.x4],qI i] (.tup [.agg [.str a,qI b,.str c,qI f],qI e]))
  (R:S->Prop)(k:∀s s',a7 s s'->fh [(0,fK bl (fJ {d with x1:=a,x2:=b,x3:=c,x4:=f} rv mv))] s'->R s):fX P T g Dc (S0 [.ptr 0 (some bl) 47 0 0,qI i] (b7 [(0,fK bl (fJ d rv mv))])) R (λ_ _=>False) R:=by
 cbv
 repeat' first|(refine qA ?_;cbv)|(intro l;cbv)|(refine h1 _ _ ?_;cbv)|fail
 exact k _ _ (a7.refl _) ⟨rfl,trivial⟩
theorem M4(bl:Nat)(d:SC)(i:Int)(rv mv:V)(hq:WQ rv mv):Spec Tryz.prog 28 [.ptr 0 (some bl) 47 0 0,qI i] (b7 [(0,fK bl (fJ d rv mv))]) λx h'=>∃a,(x=.tup []/\a=[(0,fK bl (fJ (pS d i) rv mv))])/\h'=b7 a:=
 fe gY M1 (L:=[(0,fK bl (fJ d rv mv))]) (λx a=>x=.tup []/\a=[(0,fK bl (fJ (pS d i) rv mv))]) λR b=>
  M3 ca rfl _ _ bl d rv mv hq.1.2 hq.2.2 i _ _ _ _ _ (fU (Qp d.x1 d.x2 d.x3 d.x4 i) (λ_=>(.cons (.same _) (.cons (.same _) .nil))) rfl) R λs s' he ha=>b s s' (.tup []) [(0,fK bl (fJ (pS d i) rv mv))] he (by rfl) ha (.tup _ (λv hv=>by cases hv)) (λp hp=>by rw[aw.1 hp];exact jW hq.1.1 hq.2.1 bl) ⟨rfl,rfl⟩
def zR(T:cp):Prop:=∀(k bl:Nat)(d:SC)(rv mv:V)(i:Int)(t:BS)(h:Hp)(K:V->Hp->Prop),t.length<=140737488355328->WQ rv mv->wk k rv=true->wk k mv=true->h k=some (fK bl (fJ d rv mv))->(∀d',d'=kT d i t->K (.tup []) (Hp.put h k (fK bl (fJ d' rv mv))))->T 26 [.ptr k (some bl) 47 0 0,qI i,.str t] h K
theorem Dd:zR (fa Tryz.prog):=λk bl d rv mv i t h K ht hq r1 r2 hk hK=>IG (v:=.tup []) (Q:=WQ) (λg=>hq.rl g) (λrv mv hq=>MZ bl d i t ht rv mv hq) rfl (λ_=>rfl) hq.1.1 hq.2.1 r1 r2 hk (hK _ rfl)
def O4(T:cp):Prop:=∀(k bl:Nat)(d:SC)(rv mv:V)(i:Int)(h:Hp)(K:V->Hp->Prop),WQ rv mv->wk k rv=true->wk k mv=true->h k=some (fK bl (fJ d rv mv))->(∀d',d'=pS d i->K (.tup []) (Hp.put h k (fK bl (fJ d' rv mv))))->T 28 [.ptr k (some bl) 47 0 0,qI i] h K
theorem S7:O4 (fa Tryz.prog):=λk bl d rv mv i h K hq r1 r2 hk hK=>IG (v:=.tup []) (Q:=WQ) (λg=>hq.rl g) (λrv mv hq=>M4 bl d i rv mv hq) rfl (λ_=>rfl) hq.1.1 hq.2.1 r1 r2 hk (hK _ rfl)
theorem II{h:Hp}{k:Nat}{o:Ob}(hk:h k=some o):Hp.put h k o=h:=by
 funext i
 unfold Hp.put
 by_cases hi:i=k
 ·rw[ae hi,hi,hk]
 ·rw[aa hi]
def S1(bl:Nat)(d:SC)(rv mv:V):List (Nat×Ob):=[(0,fK bl (fJ d rv mv))]
theorem yd{f:Nat}{fn:Func}{ac:AC}{rv:List RV}{rest:List V}(ok:fo Tryz.prog f fn ac rv (rest.length+1) eV)(vs:List V)(v:V)(b:nx vs=v)(hv:Fz v)(bl:Nat)(d:SC)(r m:V)(hq:WQ r m)
  (h:∀R:S->Prop,(∀(s s':S),a7 s s'->hX rv vs s'->fh (S1 bl d r m) s'->R s)->fX ca (fa Tryz.prog) (fj Tryz.prog) ac (S0 (.ptr 0 (some bl) 47 0 0::rest) (b7 (S1 bl d r m))) R (λ_ _=>False) R):
  Spec Tryz.prog f (.ptr 0 (some bl) 47 0 0::rest) (b7 (S1 bl d r m)) λx h'=>∃a,(x=v/\a=S1 bl d r m)/\h'=b7 a:=
 fe gY ok (L:=S1 bl d r m) (λx a=>x=v/\a=S1 bl d r m) λR c=>h R λs s' he hr ha=>c s s' v _ he (eS rv _ _ (λx hx=>by rw[hx];exact b) hr) ha hv (λp hp=>by rw[aw.1 hp];exact jW hq.1.1 hq.2.1 bl) ⟨rfl,rfl⟩
theorem VB{f k bl:Nat}{rest:List V}{d:SC}{rv mv v:V}{Q:V->V->Prop}(c:∀g,Q (rv.rl g) (mv.rl g))(hs:∀rv mv,Q rv mv->Spec Tryz.prog f (.ptr 0 (some bl) 47 0 0::rest) (b7 (S1 bl d rv mv)) λx h'=>∃b,(x=v/\b=S1 bl d rv mv)/\h'=b7 b)
  (a:rest.all V.pl=true)(hv:∀g,v.gA g=v)(h1:Fz rv)(h2:Fz mv)(r1:wk k rv=true)(r2:wk k mv=true){h:Hp}{K:V->Hp->Prop}(hk:h k=some (fK bl (fJ d rv mv)))(hK:K v h):fa Tryz.prog f (.ptr k (some bl) 47 0 0::rest) h K:=
 IG c hs a hv h1 h2 r1 r2 hk (by rw[II hk];exact hK)
def zS:AC:=qr [qz 2 0] (qq (.region true [qm 3 0,qn 4 3,qf 5 5 4,qf 6 1 5,ql 7 6,qm 8 0,qn 9 8,qf 10 5 9,qf 11 35 10,ql 12 11,qo 13 (.len false (.t 12)),qb 14 .add 7 13,qm 2 14]) .ret)
theorem IJ:fo Tryz.prog 34 Tryz.f34 zS [.t 2] 1 eV:=⟨Tryz.func34,by decide+kernel,by kernel_rfl,by kernel_rfl,by decide+kernel⟩
theorem IK(P:Prim)(hP:P=ca)(T a:cp)(bl:Nat)(d:SC)(ka:Nat)(ba:Option Nat)(n:Nat)(mv:V)(c:V.one mv=true)(hb:P.i64 (P.add d.b (P.int n)))(r:Int)(hr:P.add d.b (P.int n)=r)
  (R:S->Prop)(e:∀s s' q,q=r->a7 s s'->hX [.t 2] [qI q] s'->fh (S1 bl d (.own ka ba 3 n) mv) s'->R s):fX P T a zS (S0 [.ptr 0 (some bl) 47 0 0] (b7 (S1 bl d (.own ka ba 3 n) mv))) R (λ_ _=>False) R:=by
 cbv
 repeat' first|(refine qA ?_;cbv)|(intro f;cbv)
 exact e _ _ _ hr (a7.refl _) rfl ⟨rfl,trivial⟩
theorem zT(bl:Nat)(d:SC)(ba:Option Nat)(n:Nat)(hb:0<=d.b/\d.b<=4294967295)(hn:n<=1000)(rv mv:V)(hq:OQ ba n rv mv):Spec Tryz.prog 34 [.ptr 0 (some bl) 47 0 0] (b7 (S1 bl d rv mv)) λx h'=>∃a,(x=qI (d.b+(n:Int))/\a=S1 bl d rv mv)/\h'=b7 a:=by
 have hw:=hq.wq;obtain⟨⟨ka,rfl⟩,hm⟩:=hq;exact yd IJ [qI (d.b+(n:Int))] _ rfl (.int _ _) bl d _ mv hw λR c=>IK ca rfl _ _ bl d ka ba n mv hm.2 (ft rfl (by rw[add_eq rfl,int_eq rfl];omega)) (d.b+(n:Int)) (by rw[add_eq rfl,int_eq rfl]) R λs s' q hq he hr ha=>c s s' he (by rw[<-hq];exact hr) ha
def oU(T:cp):Prop:=∀(k bl:Nat)(d:SC)(ka:Nat)(ba:Option Nat)(n:Nat)(mv:V)(h:Hp)(K:V->Hp->Prop),(0<=d.b/\d.b<=4294967295)->n<=1000->(Fz mv/\V.one mv=true)->wk k (.own ka ba 3 n)=true->wk k mv=true->h k=some (fK bl (fJ d (.own ka ba 3 n) mv))->(∀q,q=d.b+(n:Int)->K (qI q) h)->T 34 [.ptr k (some bl) 47 0 0] h K
theorem yf:oU (fa Tryz.prog):=λk bl d ka ba n mv h K hb hn hm r1 r2 hk hK=>VB (Q:=OQ ba n) (λg=>OQ.rl ⟨⟨ka,rfl⟩,hm⟩ g) (λrv mv hq=>zT bl d ba n hb hn rv mv hq) rfl (λ_=>rfl) (.own _ _ _ _) hm.1 r1 r2 hk (hK _ rfl)
theorem IL:oU (fj Tryz.prog):=λk bl d ka ba n mv h K hb hn hm r1 r2 hk hK=>QP (Q:=OQ ba n) (λg=>OQ.rl ⟨⟨ka,rfl⟩,hm⟩ g) (λrv mv hq=>zT bl d ba n hb hn rv mv hq) rfl (λ_=>rfl) (.own _ _ _ _) hm.1 hk (hK _ rfl)
def gl(b:Int)(n:Nat)(r:Int):Int:=if r<b then 9 else if b+(n:Int)<r then 8 else 0
def zU:AC:=qr [qz 4 0] (qq (qr [qm 5 1,qm 6 0,qn 7 6,qf 8 5 7,qf 9 1 8,ql 10 9,qb 11 .lss 5 10] (qu 11 (qr [qz 4 9] .ret) .skip)) (qq (qr [qm 12 1,qm 13 0,qa 14 34 [.t 13],qb 15 .gtr 12 14] (qu 15 (qr [qz 4 8] .ret) .skip)) (qr [qz 4 0] .ret)))
theorem IM:fo Tryz.prog 75 Tryz.f75 zU [.t 4] 2 eV:=⟨Tryz.func75,by decide+kernel,by kernel_rfl,by kernel_rfl,by decide+kernel⟩
theorem IN(P:Prim)(hP:P=ca)(T i:cp)(c:oU T)(bl:Nat)(d:SC)(ka:Nat)(ba:Option Nat)(n:Nat)(mv:V)(e:wk 0 (.own ka ba 3 n)=true)(f:wk 0 mv=true)(hm:Fz mv/\V.one mv=true)(hb:0<=d.b/\d.b<=4294967295)(hn:n<=1000)(j r:Int)(hr:gl d.b n j=r)
  (R:S->Prop)(h:∀s s',a7 s s'->hX [.t 4] [qI r] s'->fh (S1 bl d (.own ka ba 3 n) mv) s'->R s):fX P T i zU (S0 [.ptr 0 (some bl) 47 0 0,qI j] (b7 (S1 bl d (.own ka ba 3 n) mv))) R (λ_ _=>False) R:=by
 have k:=hm.2;unfold gl at hr;cbv
 repeat' first|(refine qA ?_;cbv)|(intro a;cbv)
 refine ab (λg=>?_) (λg=>?_)
 ·rw[ae (fA hP g)] at hr;cbv
  repeat' first|(refine qA ?_;cbv)|(intro a;cbv)
  subst hr;exact h _ _ (a7.refl _) rfl ⟨rfl,trivial⟩
 rw[aa (fg hP g)] at hr;cbv
 repeat' first|(refine qA ?_;cbv)|(intro a;cbv)|(refine c 0 bl d ka ba n mv _ _ hb hn hm e f rfl λq hq=>?_;cbv)|fail
 refine ab (λg=>?_) (λg=>?_)
 ·have g1:q<j:=fA hP g;rw[hq] at g1;rw[ae g1] at hr;cbv
  repeat' first|(refine qA ?_;cbv)|(intro a;cbv)
  subst hr;exact h _ _ (a7.refl _) rfl ⟨rfl,trivial⟩
 ·have g1:¬q<j:=fg hP g;rw[hq] at g1;rw[aa g1] at hr;cbv
  repeat' first|(refine qA ?_;cbv)|(intro a;cbv)
  subst hr;exact h _ _ (a7.refl _) rfl ⟨rfl,trivial⟩
def M5:V->Bool
 |.win .. =>false
 |_=>true
theorem S8{v:V}(h:M5 v=true):wk 0 v=true:=by
 cases v<;>first|rfl|(simp[wk];done)|cases h
theorem IP{v:V}(h:M5 v=true)(f:Nat->Nat):M5 (v.rl f)=true:=by cases v<;>first|rfl|cases h
def TQ(ba:Option Nat)(n:Nat)(rv mv:V):Prop:=OQ ba n rv mv/\M5 mv=true
theorem TQ.rl{ba:Option Nat}{n:Nat}{rv mv:V}(h:TQ ba n rv mv)(g:Nat->Nat):TQ ba n (rv.rl g) (mv.rl g):=⟨h.1.rl g,IP h.2 g⟩
theorem IQ(bl:Nat)(d:SC)(ba:Option Nat)(n:Nat)(hb:0<=d.b/\d.b<=4294967295)(hn:n<=1000)(j:Int)(rv mv:V)(hq:TQ ba n rv mv):Spec Tryz.prog 75 [.ptr 0 (some bl) 47 0 0,qI j] (b7 (S1 bl d rv mv)) λx h'=>∃c,(x=qI (gl d.b n j)/\c=S1 bl d rv mv)/\h'=b7 c:=by
 have hw:=hq.1.wq;obtain⟨⟨⟨ka,rfl⟩,hm⟩,a⟩:=hq;exact yd IM [qI (gl d.b n j)] _ rfl (.int _ _) bl d _ mv hw λR e=>IN ca rfl _ _ yf bl d ka ba n mv (S8 rfl) (S8 a) hm hb hn j _ rfl R e
def yg(T:cp):Prop:=∀(k bl:Nat)(d:SC)(ka:Nat)(ba:Option Nat)(n:Nat)(mv:V)(j:Int)(h:Hp)(K:V->Hp->Prop),(0<=d.b/\d.b<=4294967295)->n<=1000->(Fz mv/\V.one mv=true)->M5 mv=true->wk k (.own ka ba 3 n)=true->wk k mv=true->h k=some (fK bl (fJ d (.own ka ba 3 n) mv))->(∀q,q=gl d.b n j->K (qI q) h)->T 75 [.ptr k (some bl) 47 0 0,qI j] h K
theorem IS:yg (fa Tryz.prog):=λk bl d ka ba n mv j h K hb hn hm hw r1 r2 hk hK=>VB (Q:=TQ ba n) (λg=>TQ.rl ⟨⟨⟨ka,rfl⟩,hm⟩,hw⟩ g) (λrv mv hq=>IQ bl d ba n hb hn j rv mv hq) rfl (λ_=>rfl) (.own _ _ _ _) hm.1 r1 r2 hk (hK _ rfl)
def S2(bl:Nat)(d:SC)(ba:Option Nat)(n:Nat)(rows:List (List V))(mv:V):List (Nat×Ob):=[(0,fK bl (fJ d (.own 1000001 ba 3 n) mv)),(1000001,jv ba rows)]
theorem O5{bl:Nat}{d:SC}{ba:Option Nat}{n:Nat}{l:List eX}{mv:V}(hm:Fz mv):∀p∈S2 bl d ba n (l.map a8) mv,p.2.Fz:=by
 intro p hp
 rcases ax.1 hp with rfl|hp
 ·exact jW (.own _ _ _ _) hm bl
 ·rw[aw.1 hp];exact fW _
def B1(k ka:Nat):V->Bool
 |.own j _ _ _=>(!(Nat.beq j 0)&& !(Nat.beq j 1000001))||(Nat.beq k 0&&Nat.beq ka 1000001)
 |.ptr j _ _ _ _=>(!(Nat.beq j 0)&& !(Nat.beq j 1000001))||(Nat.beq k 0&&Nat.beq ka 1000001)
 |.win .. =>false
 |_=>true
theorem IT{k ka j:Nat}(hne:k≠ka)(h:((!(Nat.beq j 0)&& !(Nat.beq j 1000001))||(Nat.beq k 0&&Nat.beq ka 1000001))=true):gI [(0,k),(1000001,ka)] (gT [(0,k),(1000001,ka)] j)=j:=by
 simp only[bC,aO] at h
 by_cases h1:j=k
 ·subst h1;simp[gT,gI]
 ·by_cases h2:j=ka
  ·subst h2;simp[gT,gI,h1]
  ·have e:gT [(0,k),(1000001,ka)] j=j:=by simp[gT,h1,h2]
   rw[e]
   rcases h with h|⟨h,h'⟩
   ·have a:¬j=0:=λe=>by subst e;exact absurd h.1 (by simp)
    have b:¬j=1000001:=λe=>by subst e;exact absurd h.2 (by simp)
    simp[gI,a,b]
   ·have a:=aY h;have b:=aY h';have c:¬j=0:=by omega
    have d:¬j=1000001:=by omega
    simp[gI,c,d]
theorem IU{k ka:Nat}{v:V}(hne:k≠ka)(h:B1 k ka v=true):(v.rl (gT [(0,k),(1000001,ka)])).rl (gI [(0,k),(1000001,ka)])=v:=by
 cases v<;>first|rfl|(simp only[V.rl];rw[IT hne h])|cases h
theorem IV{k ka bl:Nat}{d:SC}{ba:Option Nat}{n:Nat}{rows:List (List V)}{mv:V}:∀j q,b7 (S2 bl d ba n rows mv) j=some q->∃p∈[(0,k),(1000001,ka)],p.1=j:=by
 intro j q hj;simp only[S2,b7] at hj
 split at hj
 ·rename_i h0;exact⟨(0,k),by simp,h0.symm⟩
 ·split at hj
  ·rename_i h0;exact⟨(1000001,ka),by simp,h0.symm⟩
  ·cases hj
theorem IW{k ka bl:Nat}{d:SC}{ba:Option Nat}{n:Nat}{l:List eX}{mv:V}{h:Hp}(hne:k≠ka)(hm:Fz mv)(hk:h k=some (fK bl (fJ d (.own ka ba 3 n) mv)))(f:h ka=some (jv ba (l.map a8))):∀p∈[(0,k),(1000001,ka)],gI [(0,k),(1000001,ka)] p.1=p.2/\gT [(0,k),(1000001,ka)] p.2=p.1/\
  ∃o,b7 (S2 bl d ba n (l.map a8) (mv.rl (gT [(0,k),(1000001,ka)]))) p.1=some o/\(h p.2).map (Ob.gA (gT [(0,k),(1000001,ka)]))=some o/\o.Fz:=by
 have a:¬ka=k:=λe=>hne e.symm;have b:gT [(0,k),(1000001,ka)] ka=1000001:=by simp[gT,a]
 have c:gT [(0,k),(1000001,ka)] k=0:=by simp[gT]
 intro p hp;simp only[ax,aF,bj] at hp
 rcases hp with rfl|rfl
 ·refine⟨by simp[gI],c,_,rfl,?_,jW (.own _ _ _ _) (hm.rl _) bl⟩;rw[hk,aN,jL];show some (fK bl (fJ d (.own (gT [(0,k),(1000001,ka)] ka) ba 3 n) _))=_;rw[b]
 ·refine⟨by simp[gI],b,_,rfl,?_,fW _⟩;rw[f,aN];exact aR some (mW ba l _)
theorem QQ{f k ka bl off:Nat}{rest:List V}{d d':SC}{ba:Option Nat}{n n':Nat}{l l':List eX}{mv v:V}{Q:V->Prop}(y:∀g,Q (mv.rl g))(hs:∀mv,Q mv->Spec Tryz.prog f (.ptr 0 (some bl) 47 0 off::rest) (b7 (S2 bl d ba n (l.map a8) mv)) λx h'=>∃s,(x=v/\∃a,s=S2 bl d' a n' (l'.map a8) mv)/\h'=b7 s)
  (c:∀h,k6 h [(0,k),(1000001,ka)] rest rest)(hv:∀g,v.gA g=v)(hm:Fz mv)(hne:Nat.beq k ka=false)(r2:B1 k ka mv=true){h:Hp}{K:V->Hp->Prop}(hk:h k=some (fK bl (fJ d (.own ka ba 3 n) mv)))(t:h ka=some (jv ba (l.map a8)))
  (hK:∀a,K v (Hp.put (Hp.put h k (fK bl (fJ d' (.own ka a 3 n') mv))) ka (jv a (l'.map a8)))):fa Tryz.prog f (.ptr k (some bl) 47 0 off::rest) h K:=by
 have b:k≠ka:=by intro e;subst e;rw[b9] at hne;cases hne
 have j:¬ka=k:=λe=>b e.symm;have u:gT [(0,k),(1000001,ka)] ka=1000001:=by simp[gT,j]
 have q:gT [(0,k),(1000001,ka)] k=0:=by simp[gT]
 have w:gI [(0,k),(1000001,ka)] 1000001=ka:=by simp[gI]
 refine oe (m:=[(0,k),(1000001,ka)]) (hs (mv.rl (gT [(0,k),(1000001,ka)])) (y _)) (.cons ?_ (c h)) IV (λp hp=>?_) ?_
 ·have:=Arg.same (h:=h) (m:=[(0,k),(1000001,ka)]) (.ptr k (some bl) 47 0 off);simpa[V.gA,V.rl,gT] using this
 ·obtain⟨a1,a2,o,a3,a4,a5⟩:=IW b hm hk t p hp;refine⟨a1,a2,λo' r=>?_⟩;rw[a3] at r;cases r;exact⟨a4,a5⟩
 ·rintro x s ⟨rfl,a,rfl⟩;have e:h.iX [(0,k),(1000001,ka)] (b7 (S2 bl d' a n' (l'.map a8) (mv.rl (gT [(0,k),(1000001,ka)]))))=Hp.put (Hp.put h k (fK bl (fJ d' (.own ka a 3 n') mv))) ka (jv a (l'.map a8)):=by
   funext i
   simp only[Hp.iX,Hp.put,cC,cY,cN,bC,bU]
   by_cases h1:ka=i
   ·subst h1;rw[ae (.inr rfl),ae rfl,u];show(some (jv a (l'.map a8))).map (Ob.gA (gI [(0,k),(1000001,ka)]))=_;rw[aN,mW]
   ·by_cases h2:k=i
    ·subst h2;rw[ae (.inl rfl),aa (λe=>h1 e.symm),ae rfl,q];show(some (fK bl (fJ d' (.own 1000001 a 3 n') (mv.rl (gT [(0,k),(1000001,ka)]))))).map (Ob.gA (gI [(0,k),(1000001,ka)]))=_;rw[aN,jL,IU b r2];show some (fK bl (fJ d' (.own (gI [(0,k),(1000001,ka)] 1000001) a 3 n') mv))=_;rw[w]
    ·rw[aa (by rintro(h|h);exact h2 h;exact h1 h),aa (λe=>h1 e.symm),aa (λe=>h2 e.symm)]
  rw[e,hv];exact hK a
theorem S9{f k ka bl:Nat}{rest:List V}{d:SC}{ba:Option Nat}{n:Nat}{l:List eX}{mv v:V}{Q:V->Prop}(w:∀g,Q (mv.rl g))(hs:∀mv,Q mv->Spec Tryz.prog f (.ptr 0 (some bl) 47 0 0::rest) (b7 (S2 bl d ba n (l.map a8) mv)) λx h'=>∃s,(x=v/\s=S2 bl d ba n (l.map a8) mv)/\h'=b7 s)
  (b:rest.all V.pl=true)(hv:∀g,v.gA g=v)(hm:Fz mv)(hne:Nat.beq k ka=false)(r2:B1 k ka mv=true){h:Hp}{K:V->Hp->Prop}(hk:h k=some (fK bl (fJ d (.own ka ba 3 n) mv)))(c:h ka=some (jv ba (l.map a8)))
  (hK:K v h):fa Tryz.prog f (.ptr k (some bl) 47 0 0::rest) h K:=by
 have a:k≠ka:=by intro e;subst e;rw[b9] at hne;cases hne
 have j:¬ka=k:=λe=>a e.symm;have t:gT [(0,k),(1000001,ka)] ka=1000001:=by simp[gT,j]
 have q:gT [(0,k),(1000001,ka)] k=0:=by simp[gT]
 have u:gI [(0,k),(1000001,ka)] 1000001=ka:=by simp[gI]
 refine oe (m:=[(0,k),(1000001,ka)]) (hs (mv.rl (gT [(0,k),(1000001,ka)])) (w _)) (.cons ?_ (gf b)) IV (λp hp=>?_) ?_
 ·have:=Arg.same (h:=h) (m:=[(0,k),(1000001,ka)]) (.ptr k (some bl) 47 0 0);simpa[V.gA,V.rl,gT] using this
 ·obtain⟨a1,a2,o,a3,a4,a5⟩:=IW a hm hk c p hp;refine⟨a1,a2,λo' r=>?_⟩;rw[a3] at r;cases r;exact⟨a4,a5⟩
 ·rintro x s ⟨rfl,rfl⟩;have e:h.iX [(0,k),(1000001,ka)] (b7 (S2 bl d ba n (l.map a8) (mv.rl (gT [(0,k),(1000001,ka)]))))=h:=by
   funext i
   simp only[Hp.iX,cC,cY,cN,bC,bU]
   by_cases h1:ka=i
   ·subst h1;rw[ae (.inr rfl),t,c];show(some (jv ba (l.map a8))).map (Ob.gA (gI [(0,k),(1000001,ka)]))=_;rw[aN,mW]
   ·by_cases h2:k=i
    ·subst h2;rw[ae (.inl rfl),q,hk];show(some (fK bl (fJ d (.own 1000001 ba 3 n) (mv.rl (gT [(0,k),(1000001,ka)]))))).map (Ob.gA (gI [(0,k),(1000001,ka)]))=_;rw[aN,jL,IU a r2];show some (fK bl (fJ d (.own (gI [(0,k),(1000001,ka)] 1000001) ba 3 n) mv))=_;rw[u]
    ·rw[aa (by rintro(h|h);exact h2 h;exact h1 h)]
  rw[e,hv];exact hK
def IX(T:cp):Prop:=∀(ka:Nat)(ba:Option Nat)(n:Nat)(rows:List (List V))(l:List eX)(base:BS)(j:Int)(h:Hp)(K:V->Hp->Prop),rows=l.map a8->n=l.length->mj l->h ka=some ⟨ba,91,3,rows⟩->(∀x y,x=(mU base l j).1->y=(mU base l j).2->K (.tup [.str x,qI y]) h)->T 76 [.str base,.own ka ba 3 n,qI j] h K
theorem QR:IX (fj Tryz.prog):=by
 rintro ka ba n rows l base j h K rfl rfl hl hk hK;exact qh (MA base l j hl) (.cons (.same _) (.cons (.own ka ba 3 _ _ (jm (by simp) hk) (by simp)) (.cons (.same _) .nil))) (hK _ _ rfl rfl)
def jM(d:SC)(l:List eX)(j:Int):BS×Int:=if gl d.b l.length j≠0 then([],gl d.b l.length j) else mU d.tx l (j-d.b)
def zV:AC:=qr [qo 4 (.mov (.c qe)),qz 5 0] (qq (qr [qm 7 0,qm 8 1,qa 9 75 [.t 7,.t 8],qm 6 9] (qr [qm 10 6,qc 11 .neq 10 0] (qu 11 (qr [qm 12 6,qo 4 (.mov (.c qe)),qm 5 12] .ret) .skip))) (qq (.region true [qm 13 0,qn 14 13,qf 15 5 14,qf 16 2 15,ql 17 16,qm 18 0,qn 19 18,qf 20 5 19,qf 21 35 20,ql 22 21,qm 23 1,qm 24 0,qn 25 24,qf 26 5 25,qf 27 1 26,ql 28 27,qb 29 .sub 23 28,qa 30 76 [.t 17,.t 22,.t 29],qx 31 0 30,qx 32 1 30,qm 4 31,qm 5 32]) .ret))
theorem IY:fo Tryz.prog 39 Tryz.f39 zV [.t 4,.t 5] 2 eV:=⟨Tryz.func39,by decide+kernel,by kernel_rfl,by kernel_rfl,by decide+kernel⟩
theorem IZ(P:Prim)(hP:P=ca)(T i:cp)(c:yg T)(e:IX i)(bl:Nat)(d:SC)(ba:Option Nat)(l:List eX)(n:Nat)(hn:n=l.length)(rows:List (List V))(dS:rows=l.map a8)(hl:mj l)(mv:V)(f:wk 0 mv=true)(hm:Fz mv/\V.one mv=true)(hw:M5 mv=true)(hb:0<=d.b/\d.b<=4294967295)(h:n<=1000)(j:Int)(x:BS)(y:Int)(hr:jM d l j=(x,y))
  (R:S->Prop)(k:∀s s',a7 s s'->hX [.t 4,.t 5] [.str x,qI y] s'->fh (S2 bl d ba n rows mv) s'->R s):fX P T i zV (S0 [.ptr 0 (some bl) 47 0 0,qI j] (b7 (S2 bl d ba n rows mv))) R (λ_ _=>False) R:=by
 have m:=hm.2;unfold jM at hr;rw[<-hn] at hr;cbv
 repeat' first|(refine qA ?_;cbv)|(intro a;cbv)
 refine c 0 bl d 1000001 ba n mv j _ _ hb h hm hw rfl f rfl λq hq=>?_;rw[<-hq] at hr;cbv
 repeat' first|(refine qA ?_;cbv)|(intro a;cbv)
 refine ab (λg=>?_) (λg=>?_)
 ·have g1:q≠0:=fE hP g;rw[ae g1] at hr;cases hr;cbv
  repeat' first|(refine qA ?_;cbv)|(intro a;cbv)
  exact k _ _ (a7.refl _) rfl ⟨rfl,rfl,trivial⟩
 have g1:q=0:=fD hP g;rw[aa (λhh=>hh g1)] at hr;have hj:d.b<=j/\j<=d.b+(n:Int):=by
  rw[g1] at hq;unfold gl at hq
  split at hq
  ·cases hq
  ·split at hq
   ·cases hq
   ·omega
 have m1:P.i64 (P.sub j d.b):=by rw[sub_eq hP];exact ft hP qW
 cbv
 repeat' first|(refine qA ?_;cbv)|(intro a;cbv)
 refine e 1000001 ba n rows l _ _ _ _ dS hn hl rfl λo p hx hy=>?_;rw[sub_eq hP,hr] at hx hy;cbv
 repeat' first|(refine qA ?_;cbv)|(intro a;cbv)
 subst hx hy;exact k _ _ (a7.refl _) rfl ⟨rfl,rfl,trivial⟩
def MQ(mv:V):Prop:=(Fz mv/\V.one mv=true)/\M5 mv=true
theorem MQ.rl{mv:V}(h:MQ mv)(g:Nat->Nat):MQ (mv.rl g):=⟨⟨h.1.1.rl g,yc h.1.2 g⟩,IP h.2 g⟩
theorem I0(bl:Nat)(d:SC)(ba:Option Nat)(l:List eX)(hl:mj l)(hb:0<=d.b/\d.b<=4294967295)(c:l.length<=1000)(j:Int)(mv:V)(hq:MQ mv):Spec Tryz.prog 39 [.ptr 0 (some bl) 47 0 0,qI j] (b7 (S2 bl d ba l.length (l.map a8) mv)) λx h'=>∃a,(x=.tup [.str (jM d l j).1,qI (jM d l j).2]/\a=S2 bl d ba l.length (l.map a8) mv)/\h'=b7 a:=
 fe gY IY (L:=S2 bl d ba l.length (l.map a8) mv) (λx a=>x=.tup [.str (jM d l j).1,qI (jM d l j).2]/\a=S2 bl d ba l.length (l.map a8) mv) λR e=>
  IZ ca rfl _ _ IS QR bl d ba l _ rfl _ rfl hl mv (S8 hq.2) hq.1 hq.2 hb c j _ _ rfl R λs s' he hr ha=>e s s' _ _ he (eS _ _ _ (λx hx=>by rw[hx];rfl) hr) ha (.tup _ (by simp;exact⟨.str _,.int _ _⟩)) (O5 hq.1.1) ⟨rfl,rfl⟩
def I1(T:cp):Prop:=∀(k ka bl:Nat)(d:SC)(ba:Option Nat)(n:Nat)(rows:List (List V))(l:List eX)(mv:V)(j:Int)(h:Hp)(K:V->Hp->Prop),rows=l.map a8->n=l.length->mj l->(0<=d.b/\d.b<=4294967295)->l.length<=1000->MQ mv->Nat.beq k ka=false->B1 k ka mv=true->h k=some (fK bl (fJ d (.own ka ba 3 n) mv))->h ka=some (jv ba rows)->(∀x y,x=(jM d l j).1->y=(jM d l j).2->K (.tup [.str x,qI y]) h)->T 39 [.ptr k (some bl) 47 0 0,qI j] h K
theorem QS:I1 (fa Tryz.prog):=by
 rintro k ka bl d ba n rows l mv j h K rfl rfl hl hb hn hq hne hr hk a hK;exact S9 (Q:=MQ) (λg=>hq.rl g) (λmv hq=>I0 bl d ba l hl hb hn j mv hq) rfl (λ_=>rfl) hq.1.1 hne hr hk a (hK _ _ rfl rfl)
def nX(n:Int):Prop:=0<=n/\n<=2147483647
instance(n:Int):Decidable (nX n):=inferInstanceAs (Decidable (_/\_))
def lQ(l:List Int):BS:=(l.map λn=>jg n.toNat).flatten
def mX(l:List Int):BS×Bool:=if∀n∈l,nX n then(lQ l,true) else([],false)
def jc(g b:Int)(t:Nat->Int):List Int:=[g,b,t 0,t 1,t 2,t 3,t 4,t 5,t 6,t 7,t 8,t 9,t 10,t 11,t 12,t 13,t 14,t 15]
def iu(g b:Int)(tx:BS)(t:Nat->Int):BS×Int:=
 if∀n∈jc g b t,nX n then(if 500<tx.length then([],2) else gC 1 (lQ (jc g b t)++tx)) else([],1)
def gN(r:eX):BS×Int:=if iH r≠0 then([],iH r) else gC 2 (jg r.who.toNat++jg r.seq.toNat++codeF r.delta)
theorem nF(l:List Int):(lQ l).length<=5*l.length:=by
 induction l with
 |nil=>simp[lQ]
 |cons a l ih=>
  have:=iR a.toNat;simp only[lQ,aL,bI,an,ar] at ih⊢;omega
theorem xl(a:List Int)(n:Int):lQ (a++[n])=lQ a++jg n.toNat:=by simp[lQ]
theorem nG(g b:Int)(t:Nat->Int):(jc g b t).length=18:=rfl
def De:AC:=qr [qo 2 (.mov (.c qe)),qo 3 (.mov (.c (.bool false)))] (qr [qo 4 (.mov (.c qe))] (qq (qr [qm 9 0,qo 10 (.len false (.t 9)),qz 11 0] (.block 0 (.loop (qr [qb 12 .lss 11 10] (qq (qu 12 .skip (.exit 0)) (qq (.block 1 (qr [qo 13 (.iaddr 1 (.t 9) (.t 11)),ql 14 13,qm 6 14] (qr [qm 16 6,qa 17 108 [.t 16],qm 15 17,qx 18 0 15,qx 19 1 15,qm 7 18,qm 8 19] (qq (qr [qm 20 8,qc 21 .neq 20 0] (qu 21 (qr [qo 2 (.mov (.c qe)),qo 3 (.mov (.c (.bool false)))] .ret) .skip)) (qR [qm 22 4,qm 23 7,qb 24 .add 22 23,qm 4 24]))))) (qR [qc 25 .add 11 1,qm 11 25]))))))) (qr [qm 26 4,qm 2 26,qo 3 (.mov (.c (.bool true)))] .ret)))
theorem M6:fo Tryz.prog 68 Tryz.f68 De [.t 2,.t 3] 1 eV:=⟨Tryz.func68,by decide+kernel,by kernel_rfl,by kernel_rfl,by decide+kernel⟩
structure WE(l:List Int) where
 k:Int
 pre:List Int
 rest:List Int
 o:BS
 hd:l=pre++rest
 hk:k=(pre.length:Int)
 ho:o=lQ pre
 jF:∀n∈pre,nX n
theorem M7(P:Prim)(hP:P=ca)(T q:cp)(l:List Int)(hl:l.length<=1000)(rows:List (List V))(dS:rows=iD l)(d:Int->BS)(f:Int->Int)
  (h1:∀n,fZ T 108 [qI n] (.tup [.str (d n),qI (f n)]))(i:∀n,f n=0->nX n/\d n=jg n.toNat)(j:∀n,f n≠0->¬nX n)
  (r:BS)(e:Bool)(hr:mX l=(r,e))
  (R:S->Prop)(m:∀p s' x y,x=r/\y=e->a7 p s'->hX [.t 2,.t 3] [.str x,.bool y] s'->R p):fX P T q De (S0 [.sl true 1 rows] Hp.emp) R (λ_ _=>False) R:=by
 have a:P.da rows=(l.length:Int):=by rw[gi hP,dS];simp[iD]
 cbv;refine⟨WE l,λy=>[(4,.str y.o),(9,.sl true 1 rows),(10,qI (P.da rows)),(11,qI y.k)],λy=>[],λy=>y.rest.length,
  ⟨_,a7.refl _,⟨0,[],l,[],rfl,rfl,rfl,by simp⟩,⟨rfl,rfl,rfl,rfl,trivial⟩,trivial⟩,?_⟩
 rintro⟨k,pre,rest,o,hd,hk,ho,jF⟩
 replace hk:k=(pre.length:Int):=hk
 have b:pre.length+rest.length=l.length:=by rw[hd];simp
 cbv;refine ab (λh=>?_) (λh=>?_)
 ·have h6:k<P.da rows:=fA hP h;rw[a] at h6
  rcases rest with _|⟨n,rest⟩
  ·exfalso;simp at b;((try simp only[nc] at*);omega)
  have c:P.row rows (P.nat k) [qI n]:=fL hP hk (by rw[dS,iD,av,hd];simp);have k1:P.fQ 0 k:=iQ hP qO;have k2:P.i64 (P.add k 1):=by rw[add_eq hP];exact ft hP qO
  have s:P.add k 1=(((pre++[n]).length:Nat):Int):=by rw[add_eq hP,hk];simp
  have c1:=h1 n;have o1:=nF pre;cbv;refine⟨k1,_,c,?_⟩;cbv;refine c1 _ _ ?_;cbv;refine ab (λh=>?_) (λh=>?_)
  ·have g:=j n (fE hP h);unfold mX at hr;rw[aa (λx=>g (x n (by rw[hd];simp)))] at hr;cbv;exact m _ _ _ _ (by simpa using hr) (a7.refl _) rfl
  have g:=i n (fD hP h);have o2:P.i64 (P.add (P.eP o) (P.eP (d n))):=by
   rw[add_eq hP,eF hP,eF hP,ho,g.2];have:=iR n.toNat;exact ft hP qO
  have o3:P.gV o (d n)=lQ (pre++[n]):=by rw[kt hP,xl,ho,g.2]
  have u:∀x∈pre++[n],nX x:=by
   intro x hx
   rcases aU.1 hx with hx|hx
   ·exact jF x hx
   ·rw[aw.1 hx];exact g.1
  cbv;refine⟨o2,?_⟩;cbv;refine⟨k2,?_⟩;exact⟨_,a7.refl _,⟨_,pre++[n],rest,_,by simp[hd],s,o3,u⟩,⟨rfl,rfl,rfl,rfl,trivial⟩,trivial,by simp⟩
 ·have h6:¬k<P.da rows:=fg hP h;rw[a] at h6
  rcases rest with _|⟨y,rest⟩
  rotate_left
  ·exfalso;simp at b;((try simp only[nc] at*);omega)
  rw[aJ] at hd;subst hd;unfold mX at hr;rw[ae jF,<-ho] at hr;cbv;exact m _ _ _ _ (by simpa using hr) (a7.refl _) rfl
theorem QT{n:Int}(h:(pR n).2=0):nX n/\(pR n).1=jg n.toNat:=by
 unfold pR at h⊢
 by_cases hn:n<0\/2147483647<n
 ·rw[ae hn] at h;exact absurd h qD
 ·rw[aa hn];exact⟨by unfold nX;omega,rfl⟩
theorem M8{n:Int}(h:(pR n).2≠0):¬nX n:=by
 unfold pR at h
 by_cases hn:n<0\/2147483647<n
 ·unfold nX;omega
 ·rw[aa hn] at h;exact absurd rfl h
theorem Df(l:List Int)(hl:l.length<=1000):Spec Tryz.prog 68 [.sl true 1 (iD l)] Hp.emp (Is (.tup [.str (mX l).1,.bool (mX l).2])):=
 eW gY M6 [.str (mX l).1,.bool (mX l).2] (.tup _ (by simp;exact⟨.str _,.bool _⟩)) λR a=>M7 ca rfl _ _ l hl _ rfl (λn=>(pR n).1) (λn=>(pR n).2)
  (λn=>lU (C5 n) rfl rfl) (λn=>QT) (λn=>M8) _ _ rfl R λb s' x y h he hr=>by obtain⟨rfl,rfl⟩:=h;exact a b s' he hr
def Dg:AC:=qr [qo 5 (.box 55 16 (.t 2)),qo 6 (.mov (.c (.slice none 0 0)))] (qr [qm 10 0,qm 11 1,qo 12 (.bslice 3 1 [.t 10,.t 11]),qm 7 12] (qq (qr [qd 13 16 5,qz 14 0] (.block 0 (.loop (qr [qc 15 .lss 14 8] (qq (qu 15 .skip (.exit 0)) (qq (.block 1 (qr [qo 16 (.ixa true 8 2 (.t 13) (.t 14)),qo 9 (.alloc 54 D7),qs 2 9 16] (qR [qm 17 7,qf 18 0 9,ql 19 18,qf 20 1 9,ql 21 20,qo 22 (.bslice 3 1 [.t 19,.t 21]),qo 23 (.append 3 1 8 (.t 17) (.t 22)),qm 7 23]))) (qR [qc 24 .add 14 1,qm 14 24]))))))) (qr [qm 25 7,qm 6 25] .ret)))
theorem M9:fo Tryz.prog 69 Tryz.f69 Dg [.t 6] 3 eV:=⟨Tryz.func69,by decide+kernel,by kernel_rfl,by kernel_rfl,by decide+kernel⟩
structure WH(L:List Int) where
 m:Nat
 k:Int
 b:Option Nat
 c:Nat
 rows:List (List V)
 hm:m<=8
 hk:k=(m:Int)
 dS:rows=iD (L.take (2+2*m))
 hc:c=2+2*m
theorem Na(P:Prim)(hP:P=ca)(T l:cp)(g b:Int)(t:Nat->Int)
  (R:S->Prop)(j:tI [.t 6] 1 (iD (jc g b t)) [] R):fX P T l Dg (S0 [qI g,qI b,.agg [qI (t 0),qI (t 1),qI (t 2),qI (t 3),qI (t 4),qI (t 5),qI (t 6),qI (t 7),qI (t 8),qI (t 9),qI (t 10),qI (t 11),qI (t 12),qI (t 13),qI (t 14),qI (t 15)]] Hp.emp) R (λ_ _=>False) R:=by
 have o:∀n:Nat,P.nat (n:Int)=n:=by intro n;subst hP;rfl
 cbv;intro β;cbv
 repeat' first|(refine qA ?_;cbv)|(intro p;cbv)
 refine⟨WH (jc g b t),λy=>[(7,.own 1000012 y.b 1 y.c),(13,.agg [qI (t 0),qI (t 1),qI (t 2),qI (t 3),qI (t 4),qI (t 5),qI (t 6),qI (t 7),qI (t 8),qI (t 9),qI (t 10),qI (t 11),qI (t 12),qI (t 13),qI (t 14),qI (t 15)]),(14,qI y.k)],λy=>[(1000012,⟨y.b,3,1,y.rows⟩)],λy=>8-y.m,
  ⟨_,a7.refl _,⟨0,0,_,_,_,qW,rfl,rfl,rfl⟩,⟨rfl,rfl,rfl,trivial⟩,⟨rfl,trivial⟩⟩,?_⟩
 rintro⟨m,k,bb,c,rows,hm,hk,dS,hc⟩;cbv;refine ab (λh=>?_) (λh=>?_)
 ·have h5:k<8:=fA hP h
  replace hm:m<8:=by((try simp only[nc] at*);omega)
  have a:P.fQ 0 k:=iQ hP qO;have k1:P.iw k 8:=kZ hP qO;have k2:P.i64 (P.add k 1):=by rw[add_eq hP];exact ft hP qO
  have d:P.add k 1=((m+1:Nat):Int):=by rw[add_eq hP,hk];((try simp only[nc] at*);omega)
  have e:P.nat k=m:=by rw[hk];exact o m
  have f4:P.oc rows c:=mB hP _ _ (by rw[dS,hc];simp[iD,nG];omega);have f5:∀r:List (List V),r.length=2->P.bytes (P.add (P.int c) (P.da r)) 8:=by intro r i;subst hP;show((c:Int)+(r.length:Int))*8<=_;rw[hc,i];((try simp only[nc] at*);omega)
  have f6:∀x y:List V,P.oc [x,y] 2:=λx y=>mB hP _ _ rfl;have f7:P.je rows [[qI (t (2*m))],[qI (t (2*m+1))]]=iD ((jc g b t).take (2+2*(m+1))):=by
   rw[dS];subst hP;have hc:m=0\/m=1\/m=2\/m=3\/m=4\/m=5\/m=6\/m=7:=by omega
   rcases hc with rfl|rfl|rfl|rfl|rfl|rfl|rfl|rfl<;>rfl
  have f8:∀x y:List V,P.jf c (P.gp [x,y])=2+2*(m+1):=by intro x y;subst hP;show c+2=_;omega
  clear j h5 h;have hc:m=0\/m=1\/m=2\/m=3\/m=4\/m=5\/m=6\/m=7:=by omega
  rcases hc with rfl|rfl|rfl|rfl|rfl|rfl|rfl|rfl
  ·cbv;refine⟨a,k1,0,e,?_⟩;cbv
   repeat' first|(refine And.intro (by first|assumption|decide|exact f6 _ _|exact f5 _ rfl) ?_;cbv)|(intro β;cbv)
   exact⟨_,a7.refl _,⟨0+1,_,_,_,_,qD,d,f7,f8 _ _⟩,⟨rfl,rfl,rfl,trivial⟩,⟨rfl,trivial⟩,by show 8-(0+1)<8-0;decide⟩
  ·cbv;refine⟨a,k1,1,e,?_⟩;cbv
   repeat' first|(refine And.intro (by first|assumption|decide|exact f6 _ _|exact f5 _ rfl) ?_;cbv)|(intro β;cbv)
   exact⟨_,a7.refl _,⟨1+1,_,_,_,_,qD,d,f7,f8 _ _⟩,⟨rfl,rfl,rfl,trivial⟩,⟨rfl,trivial⟩,by show 8-(1+1)<8-1;decide⟩
  ·cbv;refine⟨a,k1,2,e,?_⟩;cbv
   repeat' first|(refine And.intro (by first|assumption|decide|exact f6 _ _|exact f5 _ rfl) ?_;cbv)|(intro β;cbv)
   exact⟨_,a7.refl _,⟨2+1,_,_,_,_,qD,d,f7,f8 _ _⟩,⟨rfl,rfl,rfl,trivial⟩,⟨rfl,trivial⟩,by show 8-(2+1)<8-2;decide⟩
  ·cbv;refine⟨a,k1,3,e,?_⟩;cbv
   repeat' first|(refine And.intro (by first|assumption|decide|exact f6 _ _|exact f5 _ rfl) ?_;cbv)|(intro β;cbv)
   exact⟨_,a7.refl _,⟨3+1,_,_,_,_,qD,d,f7,f8 _ _⟩,⟨rfl,rfl,rfl,trivial⟩,⟨rfl,trivial⟩,by show 8-(3+1)<8-3;decide⟩
  ·cbv;refine⟨a,k1,4,e,?_⟩;cbv
   repeat' first|(refine And.intro (by first|assumption|decide|exact f6 _ _|exact f5 _ rfl) ?_;cbv)|(intro β;cbv)
   exact⟨_,a7.refl _,⟨4+1,_,_,_,_,qD,d,f7,f8 _ _⟩,⟨rfl,rfl,rfl,trivial⟩,⟨rfl,trivial⟩,by show 8-(4+1)<8-4;decide⟩
  ·cbv;refine⟨a,k1,5,e,?_⟩;cbv
   repeat' first|(refine And.intro (by first|assumption|decide|exact f6 _ _|exact f5 _ rfl) ?_;cbv)|(intro β;cbv)
   exact⟨_,a7.refl _,⟨5+1,_,_,_,_,qD,d,f7,f8 _ _⟩,⟨rfl,rfl,rfl,trivial⟩,⟨rfl,trivial⟩,by show 8-(5+1)<8-5;decide⟩
  ·cbv;refine⟨a,k1,6,e,?_⟩;cbv
   repeat' first|(refine And.intro (by first|assumption|decide|exact f6 _ _|exact f5 _ rfl) ?_;cbv)|(intro β;cbv)
   exact⟨_,a7.refl _,⟨6+1,_,_,_,_,qD,d,f7,f8 _ _⟩,⟨rfl,rfl,rfl,trivial⟩,⟨rfl,trivial⟩,by show 8-(6+1)<8-6;decide⟩
  ·cbv;refine⟨a,k1,7,e,?_⟩;cbv
   repeat' first|(refine And.intro (by first|assumption|decide|exact f6 _ _|exact f5 _ rfl) ?_;cbv)|(intro β;cbv)
   exact⟨_,a7.refl _,⟨7+1,_,_,_,_,qD,d,f7,f8 _ _⟩,⟨rfl,rfl,rfl,trivial⟩,⟨rfl,trivial⟩,by show 8-(7+1)<8-7;decide⟩
 ·have h5:¬k<8:=fg hP h;have f:m=8:=by((try simp only[nc] at*);omega)
  have e1:rows=iD (jc g b t):=by rw[dS,f];rfl
  cbv;exact j.2.1 _ _ _ _ _ _ _ (a7.refl _) rfl rfl ⟨by rw[hc,f];rfl,e1⟩
theorem Nb(g b:Int)(t:Nat->Int):Spec Tryz.prog 69 [.int .i64 g,.int .i64 b,lY t] Hp.emp (Is (.sl false 1 (iD (jc g b t)))):=
 hH gY M9 λR a=>Na ca rfl _ _ g b t R (mu (Hz _) (HA _) (by simp) a)
def zW:AC:=qr [qo 7 (.box 55 16 (.t 3)),qo 8 (.mov (.c qe)),qz 9 0] (qr [qm 13 0,qm 14 1,qd 15 16 7,qa 16 69 [.t 13,.t 14,.t 15],qa 17 68 [.t 16],qm 12 17,qx 18 0 12,qx 19 1 12,qm 10 18,qm 11 19] (qq (qr [qm 20 11,qo 21 (.not (.t 20))] (qu 21 (qr [qo 8 (.mov (.c qe)),qz 9 1] .ret) .skip)) (qq (qr [qm 22 2,qo 23 (.len true (.t 22)),qc 24 .gtr 23 500] (qu 24 (qr [qo 8 (.mov (.c qe)),qz 9 2] .ret) .skip)) (qr [qm 25 10,qm 26 2,qb 27 .add 25 26,qo 28 (.build [q0,qe] [(0,1,qk 1),(1,1,(.t 27))]),qa 29 70 [.t 28],qx 30 0 29,qx 31 1 29,qm 8 30,qm 9 31] .ret))))
theorem I2:fo Tryz.prog 25 Tryz.f25 zW [.t 8,.t 9] 4 eV:=⟨Tryz.func25,by decide+kernel,by kernel_rfl,by kernel_rfl,by decide+kernel⟩
theorem I3(P:Prim)(hP:P=ca)(T j:cp)(g b:Int)(tx:BS)(k:tx.length<=maxLen)(t:Nat->Int)(fr:List (List V))(o:BS)(ok:Bool)(ho:o.length<=100)
  (h1:fZ T 69 [qI g,qI b,.agg [qI (t 0),qI (t 1),qI (t 2),qI (t 3),qI (t 4),qI (t 5),qI (t 6),qI (t 7),qI (t 8),qI (t 9),qI (t 10),qI (t 11),qI (t 12),qI (t 13),qI (t 14),qI (t 15)]] (.sl false 1 fr))(h2:fZ T 68 [.sl false 1 fr] (.tup [.str o,.bool ok]))
  (d:BS->BS)(f:BS->Int)(h3:∀s,fZ T 70 [.agg [qI 1,.str s]] (.tup [.str (d s),qI (f s)]))
  (r:BS)(e:Int)(hr:(if ok then(if 500<tx.length then([],2) else(d (o++tx),f (o++tx))) else([],1))=(r,e))
  (R:S->Prop)(c:∀i s' x y,x=r/\y=e->a7 i s'->hX [.t 8,.t 9] [.str x,qI y] s'->R i):fX P T j zW (S0 [qI g,qI b,.str tx,.agg [qI (t 0),qI (t 1),qI (t 2),qI (t 3),qI (t 4),qI (t 5),qI (t 6),qI (t 7),qI (t 8),qI (t 9),qI (t 10),qI (t 11),qI (t 12),qI (t 13),qI (t 14),qI (t 15)]] Hp.emp) R (λ_ _=>False) R:=by
 have a:P.eP tx=(tx.length:Int):=eF hP tx;cbv;intro β;cbv
 repeat' first|(refine qA ?_;cbv)|(intro l;cbv)
 refine h1 _ _ ?_;cbv;refine h2 _ _ ?_;cbv;refine ab (λh=>?_) (λh=>?_)
 ·rw[ae h] at hr;cbv;refine ab (λh=>?_) (λh=>?_)
  ·have h6:500<P.eP tx:=fA hP h;rw[a] at h6;rw[ae qO] at hr;cbv;exact c _ _ _ _ (by simpa using hr) (a7.refl _) rfl
  ·have h6:¬500<P.eP tx:=fg hP h;rw[a] at h6;rw[aa qO] at hr;have o2:P.i64 (P.add (P.eP o) (P.eP tx)):=by rw[add_eq hP,eF hP,eF hP];exact ft hP qO
   have c3:=h3 (P.gV o tx);rw[<-kt hP o tx] at hr;cbv;refine⟨o2,?_⟩;cbv;refine c3 _ _ ?_;cbv;exact c _ _ _ _ (by simpa using hr) (a7.refl _) rfl
 ·rw[aa (by rw[h];decide)] at hr;cbv;exact c _ _ _ _ (by simpa using hr) (a7.refl _) rfl
theorem I4{g b:Int}{t:Nat->Int}:(mX (jc g b t)).1.length<=100:=by
 unfold mX
 split
 ·have:=nF (jc g b t);rw[nG] at this;simp only[];omega
 ·simp
theorem I5(g b:Int)(tx:BS)(a:tx.length<=maxLen)(t:Nat->Int):Spec Tryz.prog 25 [.int .i64 g,.int .i64 b,.str tx,lY t] Hp.emp (Is (.tup [.str (iu g b tx t).1,.int .i64 (iu g b tx t).2])):=
 eW gY I2 [.str (iu g b tx t).1,.int .i64 (iu g b tx t).2] (.tup _ (by simp;exact⟨.str _,.int _ _⟩)) λR c=>I3 ca rfl _ _ g b tx a t (iD (jc g b t)) (mX (jc g b t)).1 (mX (jc g b t)).2 I4
  (fU (Nb g b t) (λh=>.cons (.same _) (.cons (.same _) (.cons (.same _) .nil))) rfl) (HB (Df _ (by rw[nG];omega)) rfl rfl) (λs=>(gC 1 s).1) (λs=>(gC 1 s).2) (λs=>fU (ya ⟨1,s⟩) (λh=>.cons (.same _) .nil) rfl) (iu g b tx t).1 (iu g b tx t).2
  (by
   unfold iu mX
   by_cases h:∀n∈jc g b t,nX n
   ·rw[ae h,ae h];rfl
   ·rw[aa h,aa h];rfl) R λd s' x y h he hr=>by obtain⟨rfl,rfl⟩:=h;exact c d s' he hr
def Dh:AC:=qr [qo 1 (.box 91 3 (.t 0)),qo 2 (.mov (.c qe)),qz 3 0] (qq (qr [qd 9 3 1,qa 10 114 [.t 9],qm 4 10] (qr [qm 11 4,qc 12 .neq 11 0] (qu 12 (qr [qm 13 4,qo 2 (.mov (.c qe)),qm 3 13] .ret) .skip))) (qr [qf 15 0 1,ql 16 15,qf 17 1 1,ql 18 17,qo 19 (.bslice 3 1 [.t 16,.t 18]),qa 20 68 [.t 19],qm 14 20,qx 21 0 14,qx 22 1 14,qm 5 21,qm 6 22] (qr [qf 24 2 1,ql 25 24,qa 26 115 [.t 25],qm 23 26,qx 27 0 23,qx 28 1 23,qm 7 27,qm 8 28] (qr [qm 29 5,qm 30 7,qb 31 .add 29 30,qo 32 (.build [q0,qe] [(0,1,qk 2),(1,1,(.t 31))]),qa 33 70 [.t 32],qx 34 0 33,qx 35 1 33,qm 2 34,qm 3 35] .ret))))
theorem Nc:fo Tryz.prog 78 Tryz.f78 Dh [.t 2,.t 3] 1 eV:=⟨Tryz.func78,by decide+kernel,by kernel_rfl,by kernel_rfl,by decide+kernel⟩
theorem Nd(P:Prim)(hP:P=ca)(T l:cp)(a:Bool)(w q:Int)(dr:List (List V))(c:Int)(h1:fZ T 114 [.agg [qI w,qI q,.sl a 3 dr]] (qI c))(o cs:BS)(ho:o.length<=100)(m:cs.length<=10000000)
  (h2:c=0->∀(h:Hp)(K:V->Hp->Prop)(k:Nat)(b:Option Nat)(rs:List (List V)),rs=iD [w,q]->h k=some ⟨b,3,1,rs⟩->K (.tup [.str o,.bool true]) h->T 68 [.own k b 1 2] h K)
  (h3:c=0->fZ T 115 [.sl a 3 dr] (.tup [.str cs,qI 0]))
  (f:BS->BS)(g:BS->Int)(h4:∀s,fZ T 70 [.agg [qI 2,.str s]] (.tup [.str (f s),qI (g s)]))
  (r:BS)(e:Int)(hr:(if c≠0 then([],c) else(f (o++cs),g (o++cs)))=(r,e))
  (R:S->Prop)(i:∀j s' x y,x=r/\y=e->a7 j s'->hX [.t 2,.t 3] [.str x,qI y] s'->R j):fX P T l Dh (S0 [.agg [qI w,qI q,.sl a 3 dr]] Hp.emp) R (λ_ _=>False) R:=by
 cbv;intro β;cbv
 repeat' first|(refine qA ?_;cbv)|(intro d;cbv)
 refine h1 _ _ ?_;cbv;refine ab (λh=>?_) (λh=>?_)
 ·rw[ae (fE hP h)] at hr;cbv;exact i _ _ _ _ (by simpa using hr) (a7.refl _) rfl
 have h0:c=0:=fD hP h;rw[aa (λx=>x h0)] at hr;have f3:=h3 h0;have o2:P.i64 (P.add (P.eP o) (P.eP cs)):=by rw[add_eq hP,eF hP,eF hP];exact ft hP qO
 have c4:=h4 (P.gV o cs);rw[<-kt hP o cs] at hr;cbv;intro β;cbv;refine h2 h0 _ _ _ _ _ ?_ rfl ?_
 ·rfl
 cbv
 repeat' first|(refine qA ?_;cbv)|(intro d;cbv)
 refine f3 _ _ ?_;cbv;refine⟨o2,?_⟩;cbv;refine c4 _ _ ?_;cbv;exact i _ _ _ _ (by simpa using hr) (a7.refl _) rfl
theorem zX(d:List Part)(h:cF d=0):(codeF d).length<=1000000:=by
 have hc:=dv h;have:=iR d.length;have key:∀l:List Part,(∀p∈l,oq p)->((l.map om).flatten).length<=505*l.length:=by
  intro l
  induction l with
  |nil=>simp
  |cons p l ih=>
   intro hl;have:=ih λq hq=>hl q (by simp[hq]);have hp:=gu (hl p (by simp));have hn:=iR (4*(p.n+p.text.length)+p.kind).toNat;simp only[aL,bI,an,ar,om]
   ((try simp only[nc] at*);omega)
 have:=key d hc.2.1;have:=hc.1;unfold codeF;rw[an];omega
theorem E5{w q:Int}(h1:nX w)(h2:nX q):mX [w,q]=(jg w.toNat++jg q.toNat,true):=by
 unfold mX;rw[ae (by intro n hn;simp at hn;rcases hn with rfl|rfl<;>assumption)]
 simp[lQ]
theorem I6(r:eX)(hr:fw r.delta):Spec Tryz.prog 78 [.agg (xY r)] Hp.emp (Is (.tup [.str (gN r).1,.int .i64 (gN r).2])):=
 eW gY Nc [.str (gN r).1,.int .i64 (gN r).2] (.tup _ (by simp;exact⟨.str _,.int _ _⟩)) λR c=>Nd ca rfl _ _ true r.who r.seq (r.delta.map a6) (iH r) (fU (Mu r hr) (λh=>.cons (.same _) .nil) rfl) (jg r.who.toNat++jg r.seq.toNat) (if iH r=0 then codeF r.delta else[])
  (by have h1:=iR r.who.toNat;have h2:=iR r.seq.toNat;rw[an];omega)
  (by split;(·rename_i h;have:=zX r.delta (jT h).2.2.2.2;omega);(·simp))
  (λh0 h K k b rs a hk hK=>by
   obtain⟨g1,g2,g3,g4,g5⟩:=jT h0;have hs:=Df [r.who,r.seq] (by simp);rw[E5 ⟨g1,qW⟩ ⟨g3,g4⟩] at hs;exact Ml hs rfl h K k b 2 rs a (by rw[a];rfl) hk hK)
  (λh0=>by
   have g5:=(jT h0).2.2.2.2;have hs:=BT r.delta hr.1;rw[ae g5,g5] at hs;rw[ae h0];exact lU hs rfl rfl)
  (λs=>(gC 2 s).1) (λs=>(gC 2 s).2) (λs=>fU (ya ⟨2,s⟩) (λh=>.cons (.same _) .nil) rfl) (gN r).1 (gN r).2
  (by
   unfold gN
   by_cases h:iH r≠0
   ·rw[ae h,ae h]
   ·rw[aa h,aa h,ae (aG h)]) R λd s' x y h he hr=>by obtain⟨rfl,rfl⟩:=h;exact c d s' he hr
def zY:AC:=qr [qo 0 (.mov (.c qe))] (qr [qo 4 (.build [q0,qe] [(0,1,qk 3)]),qa 5 70 [.t 4],qm 3 5,qx 6 0 3,qx 7 1 3,qm 1 6,qm 2 7] (qr [qm 8 1,qm 0 8] .ret))
theorem I7:fo Tryz.prog 27 Tryz.f27 zY [.t 0] 0 eV:=⟨Tryz.func27,by decide+kernel,by kernel_rfl,by kernel_rfl,by decide+kernel⟩
theorem I8(P:Prim)(hP:P=ca)(T b:cp)(u:BS)(e:Int)(h1:fZ T 70 [.agg [qI 3,.str []]] (.tup [.str u,qI e]))
  (R:S->Prop)(c:∀a s' x,x=u->a7 a s'->hX [.t 0] [.str x] s'->R a):fX P T b zY (S0 [] Hp.emp) R (λ_ _=>False) R:=by
 cbv;refine h1 _ _ ?_;cbv;exact c _ _ _ rfl (a7.refl _) rfl
theorem I9:Spec Tryz.prog 27 [] Hp.emp (Is (.str (gC 3 []).1)):=
 eW gY I7 [.str (gC 3 []).1] (.str _) λR a=>I8 ca rfl _ _ _ (gC 3 []).2 (fU (ya ⟨3,[]⟩) (λh=>.cons (.same _) .nil) rfl) R λb s' x h he hr=>by subst h;exact a b s' he hr
def zZ:AC:=qr [qo 0 (.mov (.c qe))] (qr [qo 4 (.build [q0,qe] [(0,1,qk 3)]),qa 5 74 [.t 4],qm 3 5,qx 6 0 3,qx 7 1 3,qm 1 6,qm 2 7] (qr [qm 8 1,qm 0 8] .ret))
theorem Ja:fo Tryz.prog 31 Tryz.f31 zZ [.t 0] 0 eV:=⟨Tryz.func31,by decide+kernel,by kernel_rfl,by kernel_rfl,by decide+kernel⟩
theorem Jb(P:Prim)(hP:P=ca)(T b:cp)(u:BS)(e:Int)(h1:fZ T 74 [.agg [qI 3,.str []]] (.tup [.str u,qI e]))
  (R:S->Prop)(c:∀a s' x,x=u->a7 a s'->hX [.t 0] [.str x] s'->R a):fX P T b zZ (S0 [] Hp.emp) R (λ_ _=>False) R:=by
 cbv;refine h1 _ _ ?_;cbv;exact c _ _ _ rfl (a7.refl _) rfl
theorem Jc:Spec Tryz.prog 31 [] Hp.emp (Is (.str (gC 3 []).1)):=
 eW gY Ja [.str (gC 3 []).1] (.str _) λR a=>Jb ca rfl _ _ _ (gC 3 []).2 (fU (tc ⟨3,[]⟩) (λh=>.cons (.same _) .nil) rfl) R λb s' x h he hr=>by subst h;exact a b s' he hr
def Jd:AC:=qr [qo 1 (.box 91 3 (.t 0)),qo 2 (.mov (.c qe)),qz 3 0] (qq (qr [qd 5 3 1,qa 6 118 [.t 5],qm 4 6] (qr [qm 7 4,qc 8 .neq 7 0] (qu 8 (qr [qm 9 4,qo 2 (.mov (.c qe)),qm 3 9] .ret) .skip))) (qq (.region true [qf 10 0 1,ql 11 10,qa 12 73 [.t 11],qf 13 1 1,ql 14 13,qa 15 73 [.t 14],qb 16 .add 12 15,qf 17 2 1,ql 18 17,qa 19 119 [.t 18],qb 20 .add 16 19,qo 21 (.build [q0,qe] [(0,1,qk 2),(1,1,(.t 20))]),qa 22 74 [.t 21],qx 23 0 22,qx 24 1 22,qm 2 23,qm 3 24]) .ret))
theorem QU:fo Tryz.prog 82 Tryz.f82 Jd [.t 2,.t 3] 1 eV:=⟨Tryz.func82,by decide+kernel,by kernel_rfl,by kernel_rfl,by decide+kernel⟩
theorem QV(P:Prim)(hP:P=ca)(T d:cp)(w q:Int)(dr:List (List V))(c:Int)(h1:fZ T 118 [.agg [qI w,qI q,.sl false 3 dr]] (qI c))(a b cs:BS)(l:a.length<=5)(m:b.length<=5)(n:cs.length<=10000000)
  (h2:c=0->fZ d 73 [qI w] (.str a))(f:c=0->fZ d 73 [qI q] (.str b))
  (h3:c=0->fZ d 119 [.sl false 3 dr] (.str cs))
  (g:BS->BS)(i:BS->Int)(h4:∀s,fZ d 74 [.agg [qI 2,.str s]] (.tup [.str (g s),qI (i s)]))
  (r:BS)(e:Int)(hr:(if c≠0 then([],c) else(g (a++b++cs),i (a++b++cs)))=(r,e))
  (R:S->Prop)(j:∀k s' x y,x=r/\y=e->a7 k s'->hX [.t 2,.t 3] [.str x,qI y] s'->R k):fX P T d Jd (S0 [.agg [qI w,qI q,.sl false 3 dr]] Hp.emp) R (λ_ _=>False) R:=by
 cbv;intro β;cbv
 repeat' first|(refine qA ?_;cbv)|(intro o;cbv)
 refine h1 _ _ ?_;cbv;refine ab (λh=>?_) (λh=>?_)
 ·rw[ae (fE hP h)] at hr;cbv;exact j _ _ _ _ (by simpa using hr) (a7.refl _) rfl
 have h0:c=0:=fD hP h;rw[aa (λx=>x h0)] at hr;have f2:=h2 h0;have f22:=f h0;have f3:=h3 h0;have o1:P.i64 (P.add (P.eP a) (P.eP b)):=by rw[add_eq hP,eF hP,eF hP];exact ft hP qO
 have o2:P.i64 (P.add (P.eP (P.gV a b)) (P.eP cs)):=by rw[add_eq hP,eF hP,eF hP,kt hP,an];exact ft hP qO
 have c4:=h4 (P.gV (P.gV a b) cs);rw[<-kt hP a b,<-kt hP (P.gV a b) cs] at hr;cbv;refine f2 _ _ ?_;cbv;refine f22 _ _ ?_;cbv;refine⟨o1,?_⟩;cbv;refine f3 _ _ ?_;cbv;refine⟨o2,?_⟩;cbv;refine c4 _ _ ?_;cbv;exact j _ _ _ _ (by simpa using hr) (a7.refl _) rfl
theorem QW(r:eX)(hr:fw r.delta):Spec Tryz.prog 82 [.agg (a8 r)] Hp.emp (Is (.tup [.str (gN r).1,.int .i64 (gN r).2])):=
 eW gY QU [.str (gN r).1,.int .i64 (gN r).2] (.tup _ (by simp;exact⟨.str _,.int _ _⟩)) λR a=>QV ca rfl _ _ r.who r.seq (r.delta.map a6) (iH r) (fU (C0 r hr) (λh=>.cons (.same _) .nil) rfl) (jg r.who.toNat) (jg r.seq.toNat) (if iH r=0 then codeF r.delta else[])
  (iR _) (iR _)
  (by split;(·rename_i h;have:=zX r.delta (jT h).2.2.2.2;omega);(·simp))
  (λh0=>qi (rR _ (jT h0).1 (by have:=(jT h0).2.1;omega)) (λ_=>gf rfl) rfl) (λh0=>qi (rR _ (jT h0).2.2.1 (jT h0).2.2.2.1) (λ_=>gf rfl) rfl)
  (λh0=>by rw[ae h0];exact Hx (Ia r.delta (jT h0).2.2.2.2) rfl rfl)
  (λs=>(gC 2 s).1) (λs=>(gC 2 s).2) (λs=>qi (tc ⟨2,s⟩) (λh=>.cons (.same _) .nil) rfl) (gN r).1 (gN r).2
  (by
   unfold gN
   by_cases h:iH r≠0
   ·rw[ae h,ae h]
   ·rw[aa h,aa h,ae (aG h)]) R λb s' x y h he hr=>by obtain⟨rfl,rfl⟩:=h;exact a b s' he hr
def z1:AC:=qr [qo 7 (.box 55 16 (.t 3)),qo 8 (.mov (.c qe)),qz 9 0] (qr [qm 16 0,qm 17 1,qo 18 (.bslice 3 1 [.t 16,.t 17]),qm 10 18] (qq (qr [qd 19 16 7,qz 20 0] (.block 0 (.loop (qr [qc 21 .lss 20 8] (qq (qu 21 .skip (.exit 0)) (qq (.block 1 (qr [qo 22 (.ixa true 8 2 (.t 19) (.t 20)),qo 12 (.alloc 54 D7),qs 2 12 22] (qR [qm 23 10,qf 24 0 12,ql 25 24,qf 26 1 12,ql 27 26,qo 28 (.bslice 3 1 [.t 25,.t 27]),qo 29 (.append 3 1 8 (.t 23) (.t 28)),qm 10 29]))) (qR [qc 30 .add 20 1,qm 20 30]))))))) (qr [qo 13 (.mov (.c qe))] (qq (qr [qm 31 10,qo 32 (.len false (.t 31)),qz 33 0] (.block 2 (.loop (qr [qb 34 .lss 33 32] (qq (qu 34 .skip (.exit 2)) (qq (.block 3 (qr [qo 35 (.iaddr 1 (.t 31) (.t 33)),ql 36 35,qm 15 36] (qq (qr [qm 37 15,qc 38 .lss 37 0,qm 39 38,qg 40 39 false (.mov (.t 15)),qg 41 39 false (.bin .gtr (.t 40) (qk 2147483647)),qo 42 (.pick (.t 39) (.c (.bool true)) (.t 41))] (qu 42 (qr [qo 8 (.mov (.c qe)),qz 9 1] .ret) .skip)) (qR [qm 43 13,qm 44 15,qa 45 73 [.t 44],qb 46 .add 43 45,qm 13 46])))) (qR [qc 47 .add 33 1,qm 33 47]))))))) (qq (qr [qm 48 2,qo 49 (.len true (.t 48)),qc 50 .gtr 49 500] (qu 50 (qr [qo 8 (.mov (.c qe)),qz 9 2] .ret) .skip)) (qr [qm 51 13,qm 52 2,qb 53 .add 51 52,qo 54 (.build [q0,qe] [(0,1,qk 1),(1,1,(.t 53))]),qa 55 74 [.t 54],qx 56 0 55,qx 57 1 55,qm 8 56,qm 9 57] .ret))))))
theorem Je:fo Tryz.prog 29 Tryz.f29 z1 [.t 8,.t 9] 4 eV:=⟨Tryz.func29,by decide+kernel,by kernel_rfl,by kernel_rfl,by decide+kernel⟩
theorem Jf(P:Prim)(hP:P=ca)(T I:cp)(g b:Int)(tx:BS)(J:tx.length<=maxLen)(t:Nat->Int)(A:Int->BS)(l:∀n,nX n->A n=jg n.toNat)
  (h1:∀n,nX n->fZ T 73 [qI n] (.str (A n)))
  (D:BS->BS)(E:BS->Int)(h3:∀s,fZ T 74 [.agg [qI 1,.str s]] (.tup [.str (D s),qI (E s)]))
  (r:BS)(e:Int)(hr:(if∀n∈jc g b t,nX n then(if 500<tx.length then([],2) else(D (lQ (jc g b t)++tx),E (lQ (jc g b t)++tx))) else([],1))=(r,e))
  (R:S->Prop)(p:∀F s' x y,x=r/\y=e->a7 F s'->hX [.t 8,.t 9] [.str x,qI y] s'->R F):fX P T I z1 (S0 [qI g,qI b,.str tx,.agg [qI (t 0),qI (t 1),qI (t 2),qI (t 3),qI (t 4),qI (t 5),qI (t 6),qI (t 7),qI (t 8),qI (t 9),qI (t 10),qI (t 11),qI (t 12),qI (t 13),qI (t 14),qI (t 15)]] Hp.emp) R (λ_ _=>False) R:=by
 have G:∀n:Nat,P.nat (n:Int)=n:=by intro n;subst hP;rfl
 have q:P.eP tx=(tx.length:Int):=eF hP tx;cbv;intro β;cbv
 repeat' first|(refine qA ?_;cbv)|(intro K;cbv)
 refine⟨WH (jc g b t),λy=>[(2,.str tx),(10,.own 1000018 y.b 1 y.c),(19,.agg [qI (t 0),qI (t 1),qI (t 2),qI (t 3),qI (t 4),qI (t 5),qI (t 6),qI (t 7),qI (t 8),qI (t 9),qI (t 10),qI (t 11),qI (t 12),qI (t 13),qI (t 14),qI (t 15)]),(20,qI y.k)],λy=>[(1000018,⟨y.b,3,1,y.rows⟩)],λy=>8-y.m,
  ⟨_,a7.refl _,⟨0,0,_,_,_,qW,rfl,rfl,rfl⟩,⟨rfl,rfl,rfl,rfl,trivial⟩,⟨rfl,trivial⟩⟩,?_⟩
 rintro⟨m,k,bb,c,rows,hm,hk,dS,hc⟩;cbv;refine ab (λh=>?_) (λh=>?_)
 ·have h5:k<8:=fA hP h
  replace hm:m<8:=by((try simp only[nc] at*);omega)
  have f:P.fQ 0 k:=iQ hP qO;have k1:P.iw k 8:=kZ hP qO;have k2:P.i64 (P.add k 1):=by rw[add_eq hP];exact ft hP qO
  have a:P.add k 1=((m+1:Nat):Int):=by rw[add_eq hP,hk];((try simp only[nc] at*);omega)
  have d:P.nat k=m:=by rw[hk];exact G m
  have f4:P.oc rows c:=mB hP _ _ (by rw[dS,hc];simp[iD,nG];omega);have f5:∀r:List (List V),r.length=2->P.bytes (P.add (P.int c) (P.da r)) 8:=by intro r B;subst hP;show((c:Int)+(r.length:Int))*8<=_;rw[hc,B];((try simp only[nc] at*);omega)
  have f6:∀x y:List V,P.oc [x,y] 2:=λx y=>mB hP _ _ rfl;have f7:P.je rows [[qI (t (2*m))],[qI (t (2*m+1))]]=iD ((jc g b t).take (2+2*(m+1))):=by
   rw[dS];subst hP;have hc:m=0\/m=1\/m=2\/m=3\/m=4\/m=5\/m=6\/m=7:=by omega
   rcases hc with rfl|rfl|rfl|rfl|rfl|rfl|rfl|rfl<;>rfl
  have f8:∀x y:List V,P.jf c (P.gp [x,y])=2+2*(m+1):=by intro x y;subst hP;show c+2=_;omega
  clear p h5 h;have hc:m=0\/m=1\/m=2\/m=3\/m=4\/m=5\/m=6\/m=7:=by omega
  rcases hc with rfl|rfl|rfl|rfl|rfl|rfl|rfl|rfl
  ·cbv;refine⟨f,k1,0,d,?_⟩;cbv
   repeat' first|(refine And.intro (by first|assumption|decide|exact f6 _ _|exact f5 _ rfl) ?_;cbv)|(intro β;cbv)
   exact⟨_,a7.refl _,⟨0+1,_,_,_,_,qD,a,f7,f8 _ _⟩,⟨rfl,rfl,rfl,rfl,trivial⟩,⟨rfl,trivial⟩,by show 8-(0+1)<8-0;decide⟩
  ·cbv;refine⟨f,k1,1,d,?_⟩;cbv
   repeat' first|(refine And.intro (by first|assumption|decide|exact f6 _ _|exact f5 _ rfl) ?_;cbv)|(intro β;cbv)
   exact⟨_,a7.refl _,⟨1+1,_,_,_,_,qD,a,f7,f8 _ _⟩,⟨rfl,rfl,rfl,rfl,trivial⟩,⟨rfl,trivial⟩,by show 8-(1+1)<8-1;decide⟩
  ·cbv;refine⟨f,k1,2,d,?_⟩;cbv
   repeat' first|(refine And.intro (by first|assumption|decide|exact f6 _ _|exact f5 _ rfl) ?_;cbv)|(intro β;cbv)
   exact⟨_,a7.refl _,⟨2+1,_,_,_,_,qD,a,f7,f8 _ _⟩,⟨rfl,rfl,rfl,rfl,trivial⟩,⟨rfl,trivial⟩,by show 8-(2+1)<8-2;decide⟩
  ·cbv;refine⟨f,k1,3,d,?_⟩;cbv
   repeat' first|(refine And.intro (by first|assumption|decide|exact f6 _ _|exact f5 _ rfl) ?_;cbv)|(intro β;cbv)
   exact⟨_,a7.refl _,⟨3+1,_,_,_,_,qD,a,f7,f8 _ _⟩,⟨rfl,rfl,rfl,rfl,trivial⟩,⟨rfl,trivial⟩,by show 8-(3+1)<8-3;decide⟩
  ·cbv;refine⟨f,k1,4,d,?_⟩;cbv
   repeat' first|(refine And.intro (by first|assumption|decide|exact f6 _ _|exact f5 _ rfl) ?_;cbv)|(intro β;cbv)
   exact⟨_,a7.refl _,⟨4+1,_,_,_,_,qD,a,f7,f8 _ _⟩,⟨rfl,rfl,rfl,rfl,trivial⟩,⟨rfl,trivial⟩,by show 8-(4+1)<8-4;decide⟩
  ·cbv;refine⟨f,k1,5,d,?_⟩;cbv
   repeat' first|(refine And.intro (by first|assumption|decide|exact f6 _ _|exact f5 _ rfl) ?_;cbv)|(intro β;cbv)
   exact⟨_,a7.refl _,⟨5+1,_,_,_,_,qD,a,f7,f8 _ _⟩,⟨rfl,rfl,rfl,rfl,trivial⟩,⟨rfl,trivial⟩,by show 8-(5+1)<8-5;decide⟩
  ·cbv;refine⟨f,k1,6,d,?_⟩;cbv
   repeat' first|(refine And.intro (by first|assumption|decide|exact f6 _ _|exact f5 _ rfl) ?_;cbv)|(intro β;cbv)
   exact⟨_,a7.refl _,⟨6+1,_,_,_,_,qD,a,f7,f8 _ _⟩,⟨rfl,rfl,rfl,rfl,trivial⟩,⟨rfl,trivial⟩,by show 8-(6+1)<8-6;decide⟩
  ·cbv;refine⟨f,k1,7,d,?_⟩;cbv
   repeat' first|(refine And.intro (by first|assumption|decide|exact f6 _ _|exact f5 _ rfl) ?_;cbv)|(intro β;cbv)
   exact⟨_,a7.refl _,⟨7+1,_,_,_,_,qD,a,f7,f8 _ _⟩,⟨rfl,rfl,rfl,rfl,trivial⟩,⟨rfl,trivial⟩,by show 8-(7+1)<8-7;decide⟩
 have h5:¬k<8:=fg hP h;have i:m=8:=by((try simp only[nc] at*);omega)
 have u:rows=iD (jc g b t):=by rw[dS,i];rfl
 have C:c=18:=by rw[hc,i]
 have v:(jc g b t).length=18:=nG g b t;clear h5 h i G;obtain⟨L,H⟩:∃L,jc g b t=L:=⟨_,rfl⟩;rw[H] at hr u v;clear H;cbv;refine⟨WE L,λy=>[(2,.str tx),(13,.str y.o),(31,.own 1000018 bb 1 c),(32,qI (P.int c)),(33,qI y.k)],λy=>[(1000018,⟨bb,3,1,rows⟩)],λy=>y.rest.length,
  ⟨_,a7.refl _,⟨0,[],L,[],rfl,rfl,rfl,by simp⟩,⟨rfl,rfl,rfl,rfl,rfl,trivial⟩,⟨rfl,trivial⟩⟩,?_⟩
 rintro⟨k,pre,rest,o,hd,hk,ho,jF⟩
 replace hk:k=(pre.length:Int):=hk
 have w:pre.length+rest.length=18:=by rw[<-v,hd];simp
 have j:P.int c=18:=by rw[int_eq hP,C];rfl
 cbv;refine ab (λh=>?_) (λh=>?_)
 ·have h6:k<P.int c:=fA hP h;rw[j] at h6
  rcases rest with _|⟨n,rest⟩
  ·exfalso;simp at w;((try simp only[nc] at*);omega)
  have z:P.row rows (P.nat k) [qI n]:=fL hP hk (by rw[u,iD,av,hd];simp);have k1:P.fQ 0 k:=iQ hP qO;have d:P.iw k (P.int c):=kZ hP (by rw[j];exact h6);have k2:P.i64 (P.add k 1):=by rw[add_eq hP];exact ft hP qO
  have a:P.add k 1=(((pre++[n]).length:Nat):Int):=by rw[add_eq hP,hk];simp
  have o1:=nF pre;have bad:¬nX n->[]=r/\1=e:=λg=>by
   rw[aa (λx=>g (x n (by rw[hd];simp)))] at hr;simpa using hr
  cbv;refine⟨k1,d,_,z,?_⟩;cbv;refine ab (λh=>?_) (λh=>?_)
  ·have g:=fA hP h;cbv;exact p _ _ _ _ (bad (by unfold nX;omega)) (a7.refl _) rfl
  have g1:=fg hP h;cbv;refine ab (λh=>?_) (λh=>?_)
  ·have g:=fA hP h;cbv;exact p _ _ _ _ (bad (by unfold nX;omega)) (a7.refl _) rfl
  have g2:=fg hP h;have g:nX n:=by unfold nX;omega
  have c1:=h1 n g;have o2:P.i64 (P.add (P.eP o) (P.eP (A n))):=by
   rw[add_eq hP,eF hP,eF hP,ho,l n g];have:=iR n.toNat;exact ft hP qO
  have o3:P.gV o (A n)=lQ (pre++[n]):=by rw[kt hP,xl,ho,l n g]
  have M:∀x∈pre++[n],nX x:=by
   intro x hx
   rcases aU.1 hx with hx|hx
   ·exact jF x hx
   ·rw[aw.1 hx];exact g
  cbv;refine c1 _ _ ?_;cbv;refine⟨o2,?_⟩;cbv;refine⟨k2,?_⟩;exact⟨_,a7.refl _,⟨_,pre++[n],rest,_,by simp[hd],a,o3,M⟩,⟨rfl,rfl,rfl,rfl,rfl,trivial⟩,⟨rfl,trivial⟩,by simp⟩
 ·have h6:¬k<P.int c:=fg hP h;rw[j] at h6
  rcases rest with _|⟨y,rest⟩
  rotate_left
  ·exfalso;simp at w;((try simp only[nc] at*);omega)
  rw[aJ] at hd;rw[<-hd] at jF ho;have o1:=nF L;rw[ae jF,<-ho] at hr;rw[<-ho] at o1;cbv;refine ab (λh=>?_) (λh=>?_)
  ·have h6:500<P.eP tx:=fA hP h;rw[q] at h6;rw[ae qO] at hr;cbv;exact p _ _ _ _ (by simpa using hr) (a7.refl _) rfl
  ·have h6:¬500<P.eP tx:=fg hP h;rw[q] at h6;rw[aa qO] at hr;have o2:P.i64 (P.add (P.eP o) (P.eP tx)):=by rw[add_eq hP,eF hP,eF hP];exact ft hP qO
   have c3:=h3 (P.gV o tx);rw[<-kt hP o tx] at hr;cbv;refine⟨o2,?_⟩;cbv;refine c3 _ _ ?_;cbv;exact p _ _ _ _ (by simpa using hr) (a7.refl _) rfl
theorem Jg(g b:Int)(tx:BS)(a:tx.length<=maxLen)(t:Nat->Int):Spec Tryz.prog 29 [.int .i64 g,.int .i64 b,.str tx,lY t] Hp.emp (Is (.tup [.str (iu g b tx t).1,.int .i64 (iu g b tx t).2])):=
 eW gY Je [.str (iu g b tx t).1,.int .i64 (iu g b tx t).2] (.tup _ (by simp;exact⟨.str _,.int _ _⟩)) λR c=>Jf ca rfl _ _ g b tx a t (λn=>jg n.toNat) (λ_ _=>rfl)
  (λn h=>lU (rR n h.1 h.2) rfl rfl) (λs=>(gC 1 s).1) (λs=>(gC 1 s).2) (λs=>fU (tc ⟨1,s⟩) (λh=>.cons (.same _) .nil) rfl) (iu g b tx t).1 (iu g b tx t).2
  rfl R λd s' x y h he hr=>by obtain⟨rfl,rfl⟩:=h;exact c d s' he hr
theorem px(f:Nat)(vs:List V)(h h':Hp)(K:V->Hp->Prop)(he:jj h h')(hc:fa Tryz.prog f vs h' K):fa Tryz.prog f vs h K:=by
 obtain⟨h0,h1,h2⟩:=hc;exact⟨h0,jj.trans he h1,h2⟩
theorem E6(P:Prim)(hP:P=ca)(T m:cp)(bl:Nat)(ba:Option Nat)(d:SC)(mv:V)(o:V.one mv=true)(n:Nat)(rows:List (List V))(hn:n=rows.length)(p:n<=100)(w:Nat)(hw:w<8)(a q:Int)(i:a=(w:Int))(dr:List (List V))(hb:0<=d.b/\d.b<=4294967295)
  (rows':List (List V))(e:rows'=rows++[[qI a,qI q,.sl false 3 dr]])(n':Nat)(g:n'=n+1)(v:Int)(hv:v=d.b+(n:Int)+1)
  (R:S->Prop)(f:∀(l s':S)(k:Option Nat)(h:Nat->Int)(r2:List (List V))(n2:Nat),(∀j,h j=kG d.tb w q v j)->r2=rows'->n2=n'->a7 l s'->m6 s' [] (λx=>nx x=.tup [])->
   fh (S2 bl {d with tb:=h} k n2 r2 mv) s'->R l):
  fX P T m Da (S0 [.ptr 0 (some bl) 47 0 5,.agg [qI a,qI q,.sl false 3 dr]] (b7 (S2 bl d ba n rows mv))) R (λ_ _=>False) R:=by
 have f4:P.oc rows n:=mB hP _ _ hn.symm;have f5:∀r,P.bytes (P.add (P.int n) (P.da [r])) 40:=by intro r;subst hP;show((n:Int)+1)*40<=_;((try simp only[nc] at*);omega)
 have f6:∀r,P.oc [r] 1:=by intro r;subst hP;rfl
 have f7:P.je rows [[qI a,qI q,.sl false 3 dr]]=rows':=by rw[e];subst hP;rfl
 have f8:∀r:List V,P.jf n (P.gp [r])=n':=by intro r;rw[g];subst hP;rfl
 have f9:∀r:List V,P.int (P.jf n (P.gp [r]))=(n:Int)+1:=by intro r;rw[f8,g,int_eq hP];((try simp only[nc] at*);omega)
 have g1:∀r:List V,P.add d.b (P.int (P.jf n (P.gp [r])))=v:=by intro r;rw[add_eq hP,f9,hv];omega
 have g2:∀r:List V,P.i64 (P.add d.b (P.int (P.jf n (P.gp [r])))):=by intro r;rw[g1,hv];exact ft hP qO
 have q1:P.fQ 0 a:=iQ hP qW;have q2:P.iw a 8:=kZ hP qW;have c:P.nat a=w:=by rw[i];subst hP;rfl
 cbv
 repeat' first|(refine And.intro (by first|assumption|decide|exact f6 _|exact f5 _|exact g2 _) ?_;cbv)|(intro s;cbv)
 have hc:w=0\/w=1\/w=2\/w=3\/w=4\/w=5\/w=6\/w=7:=by omega
 have g3:=g1 [qI a,qI q,.sl false 3 dr];have g4:=f8 [qI a,qI q,.sl false 3 dr]
 rcases hc with rfl|rfl|rfl|rfl|rfl|rfl|rfl|rfl
 ·refine⟨0,c,?_⟩;cbv;exact f _ _ _ (λj=>if j=0 then q else if j=1 then P.add d.b (P.int (P.jf n (P.gp [[qI a,qI q,.sl false 3 dr]]))) else d.tb j) _ _ (λj=>by rw[g3];rfl) f7 g4 (a7.refl _) rfl ⟨rfl,rfl,trivial⟩
 ·refine⟨1,c,?_⟩;cbv;exact f _ _ _ (λj=>if j=2 then q else if j=3 then P.add d.b (P.int (P.jf n (P.gp [[qI a,qI q,.sl false 3 dr]]))) else d.tb j) _ _ (λj=>by rw[g3];rfl) f7 g4 (a7.refl _) rfl ⟨rfl,rfl,trivial⟩
 ·refine⟨2,c,?_⟩;cbv;exact f _ _ _ (λj=>if j=4 then q else if j=5 then P.add d.b (P.int (P.jf n (P.gp [[qI a,qI q,.sl false 3 dr]]))) else d.tb j) _ _ (λj=>by rw[g3];rfl) f7 g4 (a7.refl _) rfl ⟨rfl,rfl,trivial⟩
 ·refine⟨3,c,?_⟩;cbv;exact f _ _ _ (λj=>if j=6 then q else if j=7 then P.add d.b (P.int (P.jf n (P.gp [[qI a,qI q,.sl false 3 dr]]))) else d.tb j) _ _ (λj=>by rw[g3];rfl) f7 g4 (a7.refl _) rfl ⟨rfl,rfl,trivial⟩
 ·refine⟨4,c,?_⟩;cbv;exact f _ _ _ (λj=>if j=8 then q else if j=9 then P.add d.b (P.int (P.jf n (P.gp [[qI a,qI q,.sl false 3 dr]]))) else d.tb j) _ _ (λj=>by rw[g3];rfl) f7 g4 (a7.refl _) rfl ⟨rfl,rfl,trivial⟩
 ·refine⟨5,c,?_⟩;cbv;exact f _ _ _ (λj=>if j=10 then q else if j=11 then P.add d.b (P.int (P.jf n (P.gp [[qI a,qI q,.sl false 3 dr]]))) else d.tb j) _ _ (λj=>by rw[g3];rfl) f7 g4 (a7.refl _) rfl ⟨rfl,rfl,trivial⟩
 ·refine⟨6,c,?_⟩;cbv;exact f _ _ _ (λj=>if j=12 then q else if j=13 then P.add d.b (P.int (P.jf n (P.gp [[qI a,qI q,.sl false 3 dr]]))) else d.tb j) _ _ (λj=>by rw[g3];rfl) f7 g4 (a7.refl _) rfl ⟨rfl,rfl,trivial⟩
 ·refine⟨7,c,?_⟩;cbv;exact f _ _ _ (λj=>if j=14 then q else if j=15 then P.add d.b (P.int (P.jf n (P.gp [[qI a,qI q,.sl false 3 dr]]))) else d.tb j) _ _ (λj=>by rw[g3];rfl) f7 g4 (a7.refl _) rfl ⟨rfl,rfl,trivial⟩
def vI(d:SC)(l:List eX)(r:eX):SC:= {d with tb:=kG d.tb r.who.toNat r.seq (d.b+(l.length:Int)+1)}
theorem E7(bl:Nat)(ba:Option Nat)(d:SC)(l:List eX)(hl:l.length<=100)(r:eX)(hw:0<=r.who/\r.who<=7)(hb:0<=d.b/\d.b<=4294967295)(mv:V)(hq:MQ mv):
  Spec Tryz.prog 80 [.ptr 0 (some bl) 47 0 5,.agg (a8 r)] (b7 (S2 bl d ba l.length (l.map a8) mv)) λx h'=>∃c,(x=.tup []/\∃a,c=S2 bl (vI d l r) a (l.length+1) ((l++[r]).map a8) mv)/\h'=b7 c:=
 fe gY MW (L:=S2 bl d ba l.length (l.map a8) mv) (λx c=>x=.tup []/\∃a,c=S2 bl (vI d l r) a (l.length+1) ((l++[r]).map a8) mv) λR i=>
  E6 ca rfl _ _ bl ba d mv hq.1.2 l.length (l.map a8) (by simp) hl r.who.toNat qW r.who r.seq qW (r.delta.map a6) hb ((l++[r]).map a8) (by simp[a8,fc]) (l.length+1) rfl (d.b+(l.length:Int)+1) rfl R
   λj s' a f r2 n2 wm g h he hr ha=>by
    have e:f=kG d.tb r.who.toNat r.seq (d.b+(l.length:Int)+1):=funext wm;rw[e,g,h] at ha;exact i j s' (.tup []) (S2 bl (vI d l r) a (l.length+1) ((l++[r]).map a8) mv) he hr ha (.tup _ (λv hv=>by cases hv)) (O5 hq.1.1) ⟨rfl,a,rfl⟩
def Di(T:cp):Prop:=∀(k ka bl:Nat)(d:SC)(ba:Option Nat)(n:Nat)(rows:List (List V))(l:List eX)(mv:V)(w q:Int)(dr:List (List V))(r:eX)(h:Hp)(K:V->Hp->Prop),rows=l.map a8->n=l.length->l.length<=100->(w=r.who/\q=r.seq/\dr=r.delta.map a6)->(0<=r.who/\r.who<=7)->(0<=d.b/\d.b<=4294967295)->MQ mv->Nat.beq k ka=false->B1 k ka mv=true->
 h k=some (fK bl (fJ d (.own ka ba 3 n) mv))->h ka=some (jv ba rows)->(∀a d' n' rows',d'=vI d l r->n'=l.length+1->rows'=(l++[r]).map a8->K (.tup []) (Hp.put (Hp.put h k (fK bl (fJ d' (.own ka a 3 n') mv))) ka (jv a rows')))->T 80 [.ptr k (some bl) 47 0 5,.agg [qI w,qI q,.sl false 3 dr]] h K
theorem Jh:Di (fa Tryz.prog):=by
 rintro k ka bl d ba n rows l mv w q dr r h K rfl rfl hl ⟨rfl,rfl,rfl⟩ hw hb hq hne hr hk a hK;exact QQ (off:=5) (Q:=MQ) (rest:=[.agg (a8 r)]) (λg=>hq.rl g) (λmv hq=>E7 bl ba d l hl r hw hb mv hq) (λh=>.cons (.same _) .nil) (λ_=>rfl) hq.1.1 hne hr hk a λb=>hK b _ _ _ rfl rfl rfl
def Z0:SC:=⟨[],0,[],0,0,0,0,[],λ_=>0,λ_=>0,false,0,[],0,false⟩
def O6(t:BS):SC:= {pS (kT Z0 0 t) 0 with gn:=1,b:=0,tx:=[],fs:=λ_=>0,tb:=λ_=>0,wh:=true,gd:=0}
def Dj:AC:=qr [qo 0 (.mov (.c (.pointer none)))] (qr [qo 4 (.build [qe,q0,qe,q0,q0,q0,q0,qe,q0,q0,q0,q0,q0,q0,q0,q0,q0,q0,q0,q0,q0,q0,q0,q0,q0,q0,q0,q0,q0,q0,q0,q0,q0,q0,q0,q0,q0,q0,q0,q0,(.slice none 0 0),(.bool false),q0,qe,q0,(.pointer none),(.bool false)] []),qo 5 (.box 75 47 (.t 4)),qm 1 5] (qr [qm 7 1,qn 8 7,qf 9 5 8,qf 10 19 9,qd 11 16 10,qa 12 25 [qk 1,qk 0,(.c qe),.t 11],qm 6 12,qx 13 0 6,qx 14 1 6,qm 2 13,qm 3 14] (qr [qm 15 1,qm 16 2,qa 17 27 [],qb 18 .add 16 17,qa 19 26 [.t 15,qk 0,.t 18]] (qr [qm 20 1,qa 21 28 [.t 20,qk 0]] (qr [qm 22 1,qo 23 (.build Vj [(0,1,qk 1),(36,1,(.c (.bool true)))]),qn 24 22,qf 25 5 24,qs 38 25 23] (qr [qm 26 1,qm 0 26] .ret))))))
theorem Nf:fo Tryz.prog 5 Tryz.f5 Dj [.t 0] 0 eV:=⟨Tryz.func5,by decide+kernel,by kernel_rfl,by kernel_rfl,by decide+kernel⟩
theorem Ng(P:Prim)(hP:P=ca)(T i:cp)(a:zR T)(e:O4 T)(t1 t2:BS)(e1:Int)(h1:fZ T 25 [qI 1,qI 0,.str [],lY λ_=>0] (.tup [.str t1,qI e1]))(h2:fZ T 27 [] (.str t2))(hl:t1.length+t2.length<=100000)
  (R:S->Prop)(j:∀(s s':S)(β:Nat)(d:SC),d=O6 (t1++t2)->a7 s s'->hX [.t 0] [.ptr 5 (some β) 47 0 0] s'->fh [(5,fK β (fJ d (.own 6 none 3 0) .nil)),(6,jv none [])] s'->R s):fX P T i Dj (S0 [] Hp.emp) R (λ_ _=>False) R:=by
 have g1:P.i64 (P.add (P.eP t1) (P.eP t2)):=by rw[add_eq hP,eF hP,eF hP];exact ft hP qW
 have g2:P.gV t1 t2=t1++t2:=by subst hP;rfl
 cbv
 repeat' first|(refine qA ?_;cbv)|(intro f;cbv)|(refine h1 _ _ ?_;cbv)|(refine h2 _ _ ?_;cbv)|fail
 refine a 5 _ Z0 .nilsl .nil _ _ _ _ (by rw[g2,an];omega) ⟨⟨.nilsl,rfl⟩,.nil,rfl⟩ rfl rfl rfl λd1 g=>?_;cbv
 repeat' first|(refine qA ?_;cbv)|(intro f;cbv)|(refine e 5 _ d1 .nilsl .nil _ _ _ ⟨⟨.nilsl,rfl⟩,.nil,rfl⟩ rfl rfl rfl λd2 h=>?_;cbv)|fail
 exact j _ _ _ {d2 with gn:=1,b:=0,tx:=[],fs:=λ_=>0,tb:=λ_=>0,wh:=true,gd:=0} (by rw[h,g,g2];rfl) (a7.mT (k:=5) (k':=6) (ty:=91) (sz:=3) (r:=0) (c:=40) rfl rfl rfl rfl) rfl ⟨rfl,rfl,trivial⟩
def kL:SC:=O6 ((iu 1 0 [] λ_=>0).1++(gC 3 []).1)
end Go.Proofs.YtobngncjflogcaaGreat.AM
