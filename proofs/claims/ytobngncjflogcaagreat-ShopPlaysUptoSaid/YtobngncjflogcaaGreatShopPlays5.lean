/-
  Part 5 of what the law ShopPlays reaches: the plain machine, contracts of the functions and plain laws; each lemma says its own condition.
-/
import Derived.Test.YtobngncjflogcaaGreatShopPlays4
import Derived.Test.YtobngncjflogcaaGreatShopPlays3
import Derived.Below
set_option linter.unusedVariables false
set_option linter.unusedSimpArgs false
namespace Go.Proofs.YtobngncjflogcaaGreat.AM
open Go
inductive iY where
 |keep
 |put(b:UInt8)
 |cut
 deriving DecidableEq
def ji(p:Part):List iY:=if p.kind=2 then p.text.map .put else if p.kind=1 then List.replicate p.n.toNat .keep else List.replicate p.n.toNat .cut
def fb:List Part->List iY
 |[]=>[]
 |p::l=>ji p++fb l
theorem l7(a b:List Part):fb (a++b)=fb a++fb b:=by
 induction a with
 |nil=>rfl
 |cons p a ih=>simp[fb,ih]
def fy:List iY->List Bool
 |[]=>[]
 |.keep::ts=>true::fy ts
 |.cut::ts=>false::fy ts
 |.put _::ts=>fy ts
theorem sW(a b:List iY):fy (a++b)=fy a++fy b:=by
 induction a with
 |nil=>rfl
 |cons t a ih=>cases t<;>simp[fy,ih]
theorem sX(t:BS):fy (t.map .put)=[]:=by
 induction t with
 |nil=>rfl
 |cons b t ih=>simp[fy,ih]
def iJ(b:UInt8):List BS->List BS
 |[]=>[[b]]
 |p::r=>(b::p)::r
def fK:List iY->List BS
 |[]=>[[]]
 |.put b::ts=>iJ b (fK ts)
 |.keep::ts=>[]::fK ts
 |.cut::ts=>[]::fK ts
def nP(l:List BS)(t:BS):List BS:=l.dropLast++[l.getLastD []++t]
theorem oU(ts:List iY):∃p r,fK ts=p::r:=by
 induction ts with
 |nil=>exact⟨_,_,rfl⟩
 |cons t ts ih=>cases t<;>obtain⟨p,r,h⟩:=ih<;>simp[fK,h,iJ]
theorem nd(ts:List iY):(fK ts).length=(fy ts).length+1:=by
 induction ts with
 |nil=>rfl
 |cons t ts ih=>
  cases t
  ·simp[fK,fy,ih]
  ·obtain⟨p,r,h⟩:=oU ts;simp only[fK,fy,h,iJ,au] at*;exact ih
  ·simp[fK,fy,ih]
theorem rV(x:BS)(l:List BS)(t:BS)(h:l≠[]):nP (x::l) t=x::nP l t:=by
 cases l with
 |nil=>exact absurd rfl h
 |cons y l=>simp[nP]
theorem xX(ts:List iY)(t:BS):fK (ts++t.map .put)=nP (fK ts) t:=by
 induction ts with
 |nil=>
  simp only[cE,fK,nP];simp
  induction t with
  |nil=>rfl
  |cons b t ih=>simp[fK,ih,iJ]
 |cons a ts ih=>
  obtain⟨p,r,h⟩:=oU ts;cases a
  ·simp only[aK,fK,ih];rw[rV _ _ _ (by rw[h];simp)]
  ·simp only[aK,fK,ih];rw[h];cases r with
   |nil=>simp[nP,iJ]
   |cons y r=>simp[nP,iJ]
  ·simp only[aK,fK,ih];rw[rV _ _ _ (by rw[h];simp)]
theorem wg(ts:List iY)(x:iY)(hx:x=.keep\/x=.cut):fK (ts++[x])=fK ts++[[]]:=by
 induction ts with
 |nil=>rcases hx with rfl|rfl<;>rfl
 |cons a ts ih=>
  obtain⟨p,r,h⟩:=oU ts;cases a
  ·simp[fK,ih]
  ·simp only[aK,fK,ih,h,iJ]
  ·simp[fK,ih]
structure Mk where
 out:List Part
 put:BS
 cut:Int
def Mk.flush(m:Mk):List Part:=m.out++(if m.put=[] then[] else[⟨2,0,m.put⟩])++(if 0<m.cut then[⟨3,m.cut,[]⟩] else[])
def kk(o:List Part)(n:Int):List Part:=match o.getLast? with
 |some p=>if p.kind=1 then o.dropLast++[⟨1,p.n+n,p.text⟩] else o++[⟨1,n,[]⟩]
 |none=>[⟨1,n,[]⟩]
def Mk.gv(m:Mk)(n:Int):Mk:=if n=0 then m else⟨kk m.flush n,[],0⟩
def Mk.iK(m:Mk)(s:BS):Mk:=⟨m.out,m.put++s,m.cut⟩
def Mk.jE(m:Mk)(n:Int):Mk:=⟨m.out,m.put,m.cut+n⟩
def Mk.new:Mk:=⟨[],[],0⟩
def Mk.tok(m:Mk):iY->Mk
 |.keep=>m.gv 1
 |.put b=>m.iK [b]
 |.cut=>m.jE 1
def Mk.run(m:Mk)(ts:List iY):Mk:=ts.foldl Mk.tok m
theorem Mk.mJ(m:Mk)(a b:List iY):m.run (a++b)=(m.run a).run b:=by simp[Mk.run]
theorem Mk.xY(m:Mk)(s:BS):m.run (s.map .put)=m.iK s:=by
 induction s generalizing m with
 |nil=>simp[Mk.run,Mk.iK]
 |cons b s ih=>
  have:=ih (m.tok (.put b));simp only[Mk.run,aR,ef] at*;rw[this];simp[Mk.tok,Mk.iK]
theorem Mk.Dn(m:Mk)(n:Nat):m.run (List.replicate n .cut)=m.jE n:=by
 induction n generalizing m with
 |zero=>simp[Mk.run,Mk.jE]
 |succ n ih=>
  have:=ih (m.tok .cut);simp only[Mk.run,aX,ef] at*;rw[this];simp only[Mk.tok,Mk.jE]
  congr 1
  omega
theorem wi(o:List Part)(n k:Int):kk (kk o n) k=kk o (n+k):=by
 unfold kk;cases h:o.getLast? with
 |none=>simp
 |some p=>
  by_cases hk:p.kind=1
  ·simp[hk,Int.add_assoc]
  ·simp[hk]
theorem Mk.Hv(o:List Part):(Mk.mk o [] 0).flush=o:=by simp[Mk.flush]
theorem Mk.BX(m:Mk)(n k:Int)(hn:0<=n)(hk:0<=k):(m.gv n).gv k=m.gv (n+k):=by
 unfold Mk.gv
 by_cases h1:n=0
 ·subst h1;simp
 ·by_cases h2:k=0
  ·subst h2;simp[h1]
  ·rw[aa h2,aa h1,aa qW,Mk.Hv,wi]
theorem Mk.rW(m:Mk)(n:Nat):m.run (List.replicate n .keep)=m.gv n:=by
 induction n generalizing m with
 |zero=>simp[Mk.run,Mk.gv]
 |succ n ih=>
  have:=ih (m.tok .keep);simp only[Mk.run,aX,ef] at*;rw[this];simp only[Mk.tok];rw[Mk.BX _ _ _ qW qW]
  congr 1
  omega
def Qu(ts:List iY):List Part:=(Mk.new.run ts).flush
open Go.BigFrame
open Go.RowKit (Below)
inductive Fr(h:Hp):V->V->Prop
 |same (v:V) (hz:Fz v):Fr h v v
 |nilsl (sz:Nat):Fr h .nilsl (.sl false sz [])
 |own (k:Nat) (b:Option Nat) (sz n:Nat) (o:Ob) (rows:List (List V)) (hk:h k=some o) (hb:o.b=b) (hs:o.sz=sz) (hn:rows.length=n) (hw:∀r∈rows,r.length=sz) (hl:n<=o.rows.length) (mU:∀(i:Nat)(r r':List V),o.rows[i]? =some r->rows[i]? =some r'->r.length=r'.length)
   (hr:∀(i j:Nat)(r r':List V)(v v':V),o.rows[i]? =some r->rows[i]? =some r'->r[j]? =some v->r'[j]? =some v'->Fr h v v'):Fr h (.own k b sz n) (.sl false sz rows)
 |agg (cs pb:List V) (hl:cs.length=pb.length) (hr:∀(i:Nat)(v v':V),cs[i]? =some v->pb[i]? =some v'->Fr h v v'):Fr h (.agg cs) (.agg pb)
 |tup (cs pb:List V) (hl:cs.length=pb.length) (hr:∀(i:Nat)(v v':V),cs[i]? =some v->pb[i]? =some v'->Fr h v v'):Fr h (.tup cs) (.tup pb)
def Made(F:Nat->Prop)(h:Hp)(b:Nat):Prop:=F b\/∃k o,h k=some o/\o.b=some b
theorem Fr.rel{C:Ctx}{F:Nat->Prop}{h:Hp}{w:World}(hs:gN C F h w){v v':V}(hf:Fr h v v'):∀{u:Value},Rel F C.B w v u->Rel (Made F h) (λ_=>False) w v' u:=by
 induction hf with
 |same v hz=>exact λhr=>(hr.mono (F':=Made F h) (B':=C.B) (λb hb=>.inl hb) (λb hb=>.inr hb)).fz hz
 |nilsl sz=>intro u hr;cases hr;exact .slnil _ _
 |own k b sz n o rows hk hb hsz hn hw hl mU hr ih=>
  intro u hv;cases hv with
  |ownnil=>have:rows=[]:=ay hn;subst this;exact .slnil _ _
  |own _ b' _ n' cap c e fr d x hm p=>
   have ho:=hs.ob k o hk;unfold fU at ho;rw[hb] at ho;obtain⟨c',t,f,h1,h2,h3,h4,h5⟩:=ho;rw[d] at f;cases f;subst hn;refine .sl false sz rows b' 0 cap (λi j=>(c[i*sz+j]?).getD undef) (.inl (.inr ⟨k,o,hk,hb⟩)) p hw (λi j r v hi hj=>?_) (λi j r v hi hj=>?_)
   ·have q:=(aj.1 hi).1;have s:=(aj.1 hj).1;have a:o.rows[i]? =some (o.rows[i]'qW):=af qW;have hlen:=mU i _ r a hi;obtain⟨u,hu,g,l⟩:=h5 i j _ _ a (af qW);rw[hsz] at hu;rw[hu,cell_of_row w b' _ c o.ty (0,0) d];have:i*sz+j<c.size:=(aG.1 hu).1;refine⟨?_,g⟩;rw[bf];exact hu
   ·have q:=(aj.1 hi).1;have s:=(aj.1 hj).1;have a:o.rows[i]? =some (o.rows[i]'qW):=af qW;have hlen:=mU i _ r a hi;have m:(o.rows[i]'qW)[j]? =some ((o.rows[i]'qW)[j]'qW):=af qW;obtain⟨u,hu,g,l⟩:=h5 i j _ _ a m;rw[hsz] at hu;rw[hu];exact ih i j _ r _ v a hi m hj l
 |agg cs pb hl hr ih=>
  intro u hv;cases hv with
  |agg _ us hsz ku=>
   refine .agg pb us qW λi v u hv hu=>?_;have hi:i<cs.length:=by have:=(aj.1 hv).1;omega
   exact ih i cs[i] v (af hi) hv (ku i cs[i] u (af hi) hu)
 |tup cs pb hl hr ih=>
  intro u hv;cases hv with
  |tup _ us hsz ku=>
   refine .tup pb us qW λi v u hv hu=>?_;have hi:i<cs.length:=by have:=(aj.1 hv).1;omega
   exact ih i cs[i] v (af hi) hv (ku i cs[i] u (af hi) hu)
theorem Fr.rows{h:Hp}{k sz n:Nat}{b:Option Nat}{o:Ob}(hk:h k=some o)(hb:o.b=b)(hs:o.sz=sz)(hn:o.rows.length=n)(hw:∀r∈o.rows,r.length=sz)(hz:∀r∈o.rows,∀v∈r,Fz v):Fr h (.own k b sz n) (.sl false sz o.rows):=
 .own k b sz n o o.rows hk hb hs hn hw qW (λi r r' h1 h2=>by rw[h1] at h2;cases h2;rfl) λi j r r' v v' h1 h2 h3 h4=>by
  rw[h1] at h2;cases h2;rw[h3] at h4;cases h4;exact .same _ (hz r (ax h1) v (ax h3))
theorem Fr.Dp{h:Hp}:Fr h (.agg []) (.agg []):=.agg _ _ rfl (by simp)
theorem Fr.fD{h:Hp}{v v':V}{cs pb:List V}(h1:Fr h v v')(h2:Fr h (.agg cs) (.agg pb)):Fr h (.agg (v::cs)) (.agg (v'::pb)):=by
 have key:cs.length=pb.length/\∀(i:Nat)(v v':V),cs[i]? =some v->pb[i]? =some v'->Fr h v v':=by
  cases h2 with
  |same _ hz=>
   cases hz with
   |agg _ hz=>exact⟨rfl,λi v v' a b=>by rw[a] at b;cases b;exact .same _ (hz _ (ax a))⟩
  |agg _ _ hl hr=>exact⟨hl,hr⟩
 refine .agg _ _ (by simp[key.1]) λi v v' a b=>?_;cases i with
 |zero=>simp at a b;subst a b;exact h1
 |succ i=>exact key.2 i v v' (by simpa using a) (by simpa using b)
theorem Fr.uq{h:Hp}:Fr h (.tup []) (.tup []):=.tup _ _ rfl (by simp)
theorem Fr.jV{h:Hp}{v v':V}{cs pb:List V}(h1:Fr h v v')(h2:Fr h (.tup cs) (.tup pb)):Fr h (.tup (v::cs)) (.tup (v'::pb)):=by
 have key:cs.length=pb.length/\∀(i:Nat)(v v':V),cs[i]? =some v->pb[i]? =some v'->Fr h v v':=by
  cases h2 with
  |same _ hz=>
   cases hz with
   |tup _ hz=>exact⟨rfl,λi v v' a b=>by rw[a] at b;cases b;exact .same _ (hz _ (ax a))⟩
  |tup _ _ hl hr=>exact⟨hl,hr⟩
 refine .tup _ _ (by simp[key.1]) λi v v' a b=>?_;cases i with
 |zero=>simp at a b;subst a b;exact h1
 |succ i=>exact key.2 i v v' (by simpa using a) (by simpa using b)
def Fk(rv:List RV)(v':V)(s:S):Prop:=lM s rv λvs=>Fr s.h (l4 vs) v'
theorem jq{P:Program}{f:Nat}{fn:Func}{ac:AC}{rv:List RV}{args:List V}{v':V}{D:Array Oper->List AO->Bool}(z:mi P D)(ok:fF P f fn ac rv args.length D)
  (hK:∀R,(∀s s',c6 s s'->Fk rv v' s'->R s)->gj dn (fm P) (fX P) ac (S0 args Hp.emp) R (λ_ _=>False) R):Spec P f args Hp.emp (Is v'):=by
 obtain⟨c,hb,hc⟩:=bS.1 ok.body;refine⟨⟨fn,ok.func,ok.name,c,hb⟩,λw us m hl d _=>?_⟩
 let C:Ctx:=⟨w.w0,w.F0,w.B,λ_=>False⟩
 have y:C.Ok:=⟨λb hb=>⟨(m.F0 b hb).1,λh=>h⟩,λb hb=>⟨(m.B b hb).1,λh=>h⟩,λb hb=>hb.elim⟩;have l:∀(i:Nat)(v:V)(u:Value),args[i]? =some v->us[i]? =some u->Rel C.F0 C.B C.w0 v u:=d;refine calls_of_wp ok.func hb ?_;have hs0:gN C C.F0 Hp.emp C.w0:=⟨λk o hk=>by simp[Hp.emp] at hk,λk k' o o' b hk=>by simp[Hp.emp] at hk,λk o b hk=>by simp[Hp.emp] at hk,λb hb=>.inl hb,λb hb=>hb,λb hb=>(y.F0 b hb).1,Ev.refl _ _⟩;have n:Sat C fn.ntmps (S0 args Hp.emp) {tmps:=us++Array.replicate (fn.ntmps-us.size) undef,defers:=[]} C.w0:=by
  have hn:=ok.args;refine⟨⟨C.F0,hs0,λi=>?_⟩,rfl,by simp;omega⟩;simp only[S0,BQ]
  by_cases hi:i<args.length
  ·have hi':i<us.size:=by omega
   have h1:args[i]? =some (args.getD i .iC):=by rw[ar,af hi];rfl
   have h2:us[i]? =some ((us++Array.replicate (fn.ntmps-us.size) undef).getD i undef):=by
    simp[hi',cx]
   exact l i _ _ h1 h2
  ·have h1:args.getD i .iC=.iC:=by rw[ar,dK qW];rfl
   rw[h1];exact .iC _
 let fin:S->Prop:=λs=>∃s',c6 s s'/\Fk rv v' s'
 refine wp_mono (wP z y c ac _ _ _ fin (λ_ _=>False) fin hc n (hK fin λs s' he hr=>⟨s',he,hr⟩)) λe x w' hq=>?_;have last:(∃s,Sat C fn.ntmps s x w'/\fin s)->x.defers=[]/\∃v,(results fn x.tmps).run P w'=.ok v w'/\∃u p h' F',Ending.returned v=.returned u/\Rel F' (λ_=>False) w' p u/\gN w.nb F' h' w'/\Is v' p h':=by
  rintro⟨s1,hs1,s2,q,r⟩;have hs2:=q C _ x w' y hs1;obtain⟨F,g,hr⟩:=hs2.ex;obtain⟨vs,a,h1,h2,h3,h4⟩:=Dg g hr _ _ _ ok.res r;have t:Rel F C.B w' (l4 vs) (if h:a.toArray.size=1 then a.toArray[0] else .tuple a.toArray):=by
   match vs,a,h2,h3 with
   |[],[],_,_=>exact .tup _ _ rfl (by simp)
   |[v],[u],_,h3=>exact h3 0 v u rfl rfl
   |v1::v2::vs,A::E::a,h2,h3=>
    have hne:¬((A::E::a).toArray.size=1):=by simp
    rw[dif_neg hne];exact .tup _ _ (by simpa using h2) λi v u hv hu=>h3 i v u hv (by simpa using hu)
  refine⟨hs2.df,_,tI h1,_,v',Hp.emp,Made F s2.h,rfl,Fr.rel g h4 t,⟨λk o hk=>by simp[Hp.emp] at hk,λk k' o o' b hk=>by simp[Hp.emp] at hk,λk o b hk=>by simp[Hp.emp] at hk,λb hb=>?_,λb hb=>.inl (g.new b hb),λb hb=>?_,?_⟩,rfl,rfl⟩
  ·rcases hb with hb|⟨k,o,hk,hb⟩
   ·rcases g.gH b hb with h|h|h
    ·exact .inl h
    ·exact h.elim
    ·exact .inr (.inr h)
   ·rcases(g.live k o b hk hb).2 with h|h
    ·exact h.elim
    ·exact .inr (.inr h)
  ·rcases hb with hb|⟨k,o,hk,hb⟩
   ·exact g.lt b hb
   ·exact(g.ob k o hk).lt hb
  ·exact g.ev.mono λb _ h=>h.elim
 cases e with
 |normal=>exact last hq
 |ret=>exact last hq
 |exit j=>obtain⟨_,_,h⟩:=hq;exact h.elim
 |_=>exact hq.elim
theorem jY{P:Program}{f:Nat}{args:List V}{us0:Array Value}{v:V}{u0:Value}(hf:∃fn,P.funcs[f]? =some fn∧fn.name≠ "runtime.NumGoroutine" ∧∃c,fn.body=some c)
  (d:∀(F B:Nat->Prop)(w:World)(us:Array Value),us.size=args.length->(∀(i:Nat)(v:V)(u:Value),args[i]? =some v->us[i]? =some u->Rel F B w v u)->us=us0)
  (hv:∀(F B:Nat->Prop)(w:World),Rel F B w v u0)(h:∀w,Calls P f us0 w λe w'=>e=.returned u0/\Below w.heap.size w w'):Spec P f args Hp.emp (Is v):=by
 refine⟨hf,λC us g hl a _=>?_⟩;rw[d _ _ _ us hl a];refine(h C.w0).mono ?_;rintro e w' ⟨rfl,hb⟩;refine⟨u0,v,Hp.emp,C.F0,rfl,hv _ _ _,⟨λk o hk=>by simp[Hp.emp] at hk,λk k' o o' b hk=>by simp[Hp.emp] at hk,λk o b hk=>by simp[Hp.emp] at hk,λb hb=>.inl hb,λb hb=>hb,λb hb'=>bF (g.F0 b hb').1 hb.size,?_⟩,rfl,rfl⟩;exact⟨hb.os,hb.tape,hb.output,hb.size,λb hlt _=>hb.block b hlt,λb c e fr hc=>⟨c,fr,by rw[hb.block b (aG.1 hc).1];exact hc,rfl⟩⟩
theorem jU.refl(h:Hp):jU h h:=λ_ F _ _ hs=>⟨F,λ_ h=>h,hs⟩
theorem jU.trans{a b c:Hp}(h:jU a b)(h':jU b c):jU a c:=λC F w d hs=>by
 obtain⟨e,h1,hs1⟩:=h C F w d hs;obtain⟨f,h2,hs2⟩:=h' C e w d hs1;exact⟨f,λb hb=>h2 b (h1 b hb),hs2⟩
theorem jU.mK{h:Hp}{k k' ty sz r c:Nat}{o:Ob}{row:List V}(hk:h k=some o)(hr:o.rows[r]? =some row)(hc:row[c]? =some .nilsl)(s:h k'=none):
  jU h (Hp.put (Hp.put h k ⟨o.b,o.ty,o.sz,o.rows.set r (row.set c (.own k' none sz 0))⟩) k' ⟨none,ty,sz,[]⟩):=by
 intro C F w G hs;refine⟨F,λ_ h=>h,?_⟩;have hne:k≠k':=λe=>by rw[e,s] at hk;cases hk
 have look:∀j q,(Hp.put (Hp.put h k ⟨o.b,o.ty,o.sz,o.rows.set r (row.set c (.own k' none sz 0))⟩) k' ⟨none,ty,sz,[]⟩) j=some q->
   (j=k'/\q=⟨none,ty,sz,[]⟩)\/(j≠k'/\j=k/\q=⟨o.b,o.ty,o.sz,o.rows.set r (row.set c (.own k' none sz 0))⟩)\/(j≠k'/\j≠k/\h j=some q):=by
  intro j q hj;simp only[Hp.put] at hj
  by_cases h1:j=k'
  ·rw[ae h1] at hj;cases hj;exact .inl ⟨h1,rfl⟩
  ·rw[aa h1] at hj
   by_cases h2:j=k
   ·rw[ae h2] at hj;cases hj;exact .inr (.inl ⟨h1,h2,rfl⟩)
   ·rw[aa h2] at hj;exact .inr (.inr ⟨h1,h2,hj⟩)
 have a:∀j q b,(Hp.put (Hp.put h k ⟨o.b,o.ty,o.sz,o.rows.set r (row.set c (.own k' none sz 0))⟩) k' ⟨none,ty,sz,[]⟩) j=some q->q.b=some b->∃n,h j=some n/\n.b=some b:=by
  intro j q b hj hb
  rcases look j q hj with⟨_,rfl⟩|⟨_,rfl,rfl⟩|⟨_,_,hq⟩
  ·cases hb
  ·exact⟨o,hk,hb⟩
  ·exact⟨q,hq,hb⟩
 refine⟨λj q hj=>?_,λj D q n b hj t hb hb'=>?_,λj q b hj hb=>?_,hs.gH,hs.new,hs.lt,hs.ev⟩
 ·rcases look j q hj with⟨_,rfl⟩|⟨_,rfl,rfl⟩|⟨_,_,hq⟩
  ·exact(show fU F C.B w ⟨none,ty,sz,[]⟩ from rfl)
  ·have ho:=hs.ob j o hk;unfold fU at ho⊢;simp only;cases hb:o.b with
   |none=>
    rw[hb] at ho;simp only at ho⊢;rw[ho] at hr;simp at hr
   |some b=>
    rw[hb] at ho;obtain⟨cs,cap,h1,h2,h3,h4,h5,h6⟩:=ho;have mU:=(aj.1 hr).1;refine⟨cs,cap,h1,h2,h3,by simpa using h4,λr' x=>?_,λi l r' v hi hl=>?_⟩
    ·rcases eI x with h|h
     ·exact h5 r' h
     ·rw[h,List.length_set];exact h5 row (ax hr)
    ·rw[cX] at hi
     by_cases f:r=i
     ·subst f;rw[ae rfl,ae mU] at hi;cases hi;rw[cX] at hl
      by_cases g:c=l
      ·subst g;rw[ae rfl] at hl;obtain⟨u,hu,y,z⟩:=h6 r c row .nilsl hr hc
       split at hl
       ·cases hl;refine⟨u,hu,y,?_⟩;cases z;exact .ownnil _ _
       ·cases hl
      ·rw[aa g] at hl;exact h6 r l row v hr hl
     ·rw[aa f] at hi;exact h6 i l r' v hi hl
  ·exact hs.ob j q hq
 ·obtain⟨p,hp,d⟩:=a j q b hj hb;obtain⟨E,A,m⟩:=a D n b t hb';exact hs.inj j D p E b hp A d m
 ·obtain⟨p,hp,d⟩:=a j q b hj hb;exact hs.live j p b hp d
def V.pl:V->Bool
 |.own .. =>false
 |.win .. =>false
 |.ptr .. =>false
 |.agg _=>false
 |.tup _=>false
 |_=>true
theorem V.Hw{v:V}(h:v.pl=true)(f:Nat->Nat):v.gM f=v:=by cases v<;>first|rfl|cases h
theorem fO{h:Hp}{m:List (Nat×Nat)}:∀{l:List V},l.all V.pl=true->mH h m l l
 |[],_=>.nil
 |v::l,hl=>by
  simp only[eL,aW] at hl;refine .cons ?_ (fO hl.2);have:=Arg.same (h:=h) (m:=m) v
  rwa[V.Hw hl.1] at this
theorem Dq{P:Program}{f k sz:Nat}{b:Option Nat}{rest:List V}{o:Ob}{post:V->List (Nat×Ob)->Prop}(hs:Spec P f (.ptr 0 b sz 0 0::rest) (cp [(0,o)]) λv' h'=>∃d,post v' d/\h'=cp d)(a:∀v d,post v d->∃o',d=[(0,o')])
  (c:rest.all V.pl=true)(ho:∀g,o.gM g=o)(hz:o.Fz){h:Hp}{K:V->Hp->Prop}(hk:h k=some o)(hK:∀v o',post v [(0,o')]->K (v.gM (gD [(0,k)])) (h.put k (o'.gM (gD [(0,k)])))):fm P f (.ptr k b sz 0 0::rest) h K:=by
 refine⟨h,jU.refl h,[(0,k)],_,_,_,hs,.cons ?_ (fO c),λj q hj=>?_,λp hp=>?_,?_⟩
 ·have:=Arg.same (h:=h) (m:=[(0,k)]) (.ptr k b sz 0 0);simpa[V.gM,V.rl,gW] using this
 ·simp only[cp] at hj
  split at hj
  ·rename_i h0;exact⟨(0,k),by simp,h0.symm⟩
  ·cases hj
 ·simp only[aq] at hp;subst hp;refine⟨by simp[gD],by simp[gW],λq hq=>?_⟩;simp only[cp,↓reduceIte,aH] at hq;subst hq;exact⟨by rw[hk,aE,ho],hz⟩
 ·rintro v' h' ⟨d,hp,rfl⟩;obtain⟨o',rfl⟩:=a _ _ hp;have e:h.gy [(0,k)] (cp [(0,o')])=h.put k (o'.gM (gD [(0,k)])):=by
   funext i
   unfold Hp.gy Hp.put;simp only[bK,bP,bN,bc]
   by_cases hi:k=i
   ·rw[ae hi,ae hi.symm,<-hi];simp[gW,cp]
   ·rw[aa hi,aa (λe=>hi e.symm)]
  rw[e];exact hK v' o' hp
theorem eM{s:S}:∀(rv:List RV)(K K':List V->Prop),(∀x,K x->K' x)->lM s rv K->lM s rv K':=by
 intro rv
 induction rv with
 |nil=>intro K K' hK h;exact hK _ h
 |cons r rv ih=>
  intro K K' hK h;cases r with
  |t i=>exact ih _ _ (λx hx=>hK _ hx) h
  |c1 i=>
   simp only[lM] at h⊢;unfold pj at h⊢
   split at h
   ·unfold ue at h⊢
    split at h
    ·obtain⟨a1,a2,a3,a4,a5⟩:=h;exact⟨a1,a2,a3,a4,ih _ _ (λx hx=>hK _ hx) a5⟩
    ·exact h.elim
   ·exact⟨h.1,ih _ _ (λx hx=>hK _ hx) h.2⟩
   ·exact h.elim
  |cn i n=>
   simp only[lM] at h⊢;unfold pk at h⊢
   split at h
   ·unfold ue at h⊢
    split at h
    ·obtain⟨a1,a2,a3,a4,a5⟩:=h;exact⟨a1,a2,a3,a4,ih _ _ (λx hx=>hK _ hx) a5⟩
    ·exact h.elim
   ·exact⟨h.1,ih _ _ (λx hx=>hK _ hx) h.2⟩
   ·exact h.elim
theorem fu{P:Program}{f:Nat}{fn:Func}{ac:AC}{rv:List RV}{args:List V}{L:List (Nat×Ob)}{D:Array Oper->List AO->Bool}(e:mi P D)(ok:fF P f fn ac rv args.length D)(post:V->List (Nat×Ob)->Prop)
  (h:∀R:S->Prop,(∀(s s':S)(v:V)(a:List (Nat×Ob)),c6 s s'->lM s' rv (λx=>l4 x=v)->fG a s'->Fz v->(∀p∈a,p.2.Fz)->post v a->R s)->gj dn (fm P) (fX P) ac (S0 args (cp L)) R (λ_ _=>False) R):
  Spec P f args (cp L) (λv h'=>∃a,post v a/\h'=cp a):=by
 obtain⟨c,hc,b⟩:=bS.1 ok.body;refine Dh e ok.func ok.name hc b ok.res ok.args (h _ λs s' v a he hr ha hz d hp=>⟨s',he,?_⟩);refine eM rv _ _ (λx hx=>?_) hr;subst hx;refine⟨hz,cp a,λk o hk=>?_,a,hp,rfl⟩;refine⟨tG ha k o hk,?_⟩;have:∀(l:List (Nat×Ob)),(∀p∈l,p.2.Fz)->∀k o,cp l k=some o->o.Fz:=by
  intro l
  induction l with
  |nil=>intro _ k o hk;cases hk
  |cons p l ih=>
   intro hl k o hk;simp only[cp] at hk
   split at hk
   ·cases hk;exact hl p (by simp)
   ·exact ih (λq hq=>hl q (by simp[hq])) k o hk
 exact this a d k o hk
set_option maxRecDepth 100000
set_option maxHeartbeats 2000000
def GD(b ka:Nat)(ba:Option Nat)(n:Nat)(put:BS)(cut:Int):Ob:=⟨some b,182,3,[[.own ka ba 3 n,.str put,.int .i64 cut]]⟩
def Hx(ba:Option Nat)(rows:List (List V)):Ob:=⟨ba,115,3,rows⟩
def GF(b:Nat)(ba:Option Nat)(m:Mk):List (Nat×Ob):=[(0,GD b 1000000 ba m.out.length m.put m.cut),(1000000,Hx ba (m.out.map bd))]
theorem BY(p:Part):∀v∈bd p,Fz v:=by
 intro v hv;simp only[bd,aw,aD,bw] at hv
 rcases hv with rfl|rfl|rfl
 ·exact .int _ _
 ·exact .int _ _
 ·exact .str _
theorem gI(d:List Part):∀r∈d.map bd,∀v∈r,Fz v:=by
 intro r hr;obtain⟨p,_,rfl⟩:=aC.1 hr;exact BY p
theorem Hy{b ka n:Nat}{ba:Option Nat}{put:BS}{cut:Int}:(GD b ka ba n put cut).Fz:=by
 intro r hr v hv;simp only[GD,aq] at hr;subst hr;simp only[aw,aD,bw] at hv
 rcases hv with rfl|rfl|rfl
 ·exact .own _ _ _ _
 ·exact .str _
 ·exact .int _ _
theorem Hz{ba:Option Nat}{d:List Part}:(Hx ba (d.map bd)).Fz:=gI d
def nf(f:Nat)(args:List V)(m m':Mk)(r:Option Nat->V):Prop:=∀b ba,Spec Tryz.prog f (.ptr 0 (some b) 3 0 0::args) (cp (GF b ba m)) (λv h'=>∃c,(∃a,v=r a/\c=GF b a m')/\h'=cp c)
theorem Mw{f:Nat}{fn:Func}{ac:AC}{rv:List RV}{args:List V}{D:Array Oper->List AO->Bool}(d:mi Tryz.prog D)(ok:fF Tryz.prog f fn ac rv (args.length+1) D){m m':Mk}(r:Option Nat->V)(hr:∀ba,Fz (r ba))
  (h:∀(b:Nat)(ba:Option Nat)(R:S->Prop),(∀(s s':S)(a:Option Nat),c6 s s'->lM s' rv (λx=>l4 x=r a)->s'.h 0=some (GD b 1000000 a m'.out.length m'.put m'.cut)->s'.h 1000000=some (Hx a (m'.out.map bd))->R s)->
   gj dn (fm Tryz.prog) (fX Tryz.prog) ac (S0 (.ptr 0 (some b) 3 0 0::args) (cp (GF b ba m))) R (λ_ _=>False) R):nf f args m m' r:=λb ba=>
 fu d ok (λv e=>∃a,v=r a/\e=GF b a m') λR g=>h b ba R λs s' a he c h0 h1=>g s s' (r a) (GF b a m') he c ⟨h0,h1,trivial⟩ (hr a)
  (by intro p hp;simp only[GF,aw,aD,bw] at hp;rcases hp with rfl|rfl;exact Hy;exact Hz) ⟨a,rfl,rfl⟩
theorem kM:∀{L:List (Nat×Ob)}{k:Nat}{o:Ob},cp L k=some o->(k,o)∈L
 |[],_,_,h=>by cases h
 |(j,q)::L,k,o,h=>by
  simp only[cp] at h
  split at h
  ·rename_i hk;cases h;rw[hk];exact bQ
  ·exact bM _ (kM h)
theorem mA{P:Program}{f:Nat}{args args':List V}{L:List (Nat×Ob)}{m:List (Nat×Nat)}{post:V->List (Nat×Ob)->Prop}(hs:Spec P f args' (cp L) λv' h'=>∃a,post v' a/\h'=cp a){h:Hp}{K:V->Hp->Prop}(ha:mH h m args args')
  (b:∀k o,cp L k=some o->∃q∈m,q.1=k)(hm:∀q∈m,gD m q.1=q.2/\gW m q.2=q.1/\∀o,cp L q.1=some o->(h q.2).map (Ob.gM (gW m))=some o/\o.Fz)
  (hK:∀v a,post v a->K (v.gM (gD m)) (h.gy m (cp a))):fm P f args h K:=
 ⟨h,jU.refl h,m,args',cp L,_,hs,ha,b,hm,by rintro v h' ⟨a,hp,rfl⟩;exact hK v a hp⟩
theorem p7(d:List Part)(f:Nat->Nat):(d.map bd).map (·.map (V.rl f))=d.map bd:=by
 simp[fp,Function.comp_def,bd,V.rl]
theorem Mx(ba:Option Nat)(d:List Part)(f:Nat->Nat):(Hx ba (d.map bd)).gM f=Hx ba (d.map bd):=by
 simp only[Ob.gM,Hx,p7]
theorem My(b ka n:Nat)(ba:Option Nat)(put:BS)(cut:Int)(f:Nat->Nat):(GD b ka ba n put cut).gM f=GD b (f ka) ba n put cut:=by
 simp[Ob.gM,GD,V.rl]
theorem Mz{f:Nat}{args args':List V}{m m':Mk}{r:Option Nat->V}(hs:nf f args' m m' r){h:Hp}{K:V->Hp->Prop}{k ka b:Nat}{ba:Option Nat}(hne:k≠ka)(d:∀h,mH h [(0,k),(1000000,ka)] args args')
  (hk:h k=some (GD b ka ba m.out.length m.put m.cut))(g:h ka=some (Hx ba (m.out.map bd)))
  (hK:∀a,K ((r a).gM (gD [(0,k),(1000000,ka)])) (Hp.put (Hp.put h k (GD b ka a m'.out.length m'.put m'.cut)) ka (Hx a (m'.out.map bd)))):fm Tryz.prog f (.ptr k (some b) 3 0 0::args) h K:=by
 have c:¬ka=k:=λe=>hne e.symm;refine mA (hs b ba) (m:=[(0,k),(1000000,ka)]) (.cons ?_ (d h)) (λj o hj=>?_) (λq hq=>?_) ?_
 ·have:=Arg.same (h:=h) (m:=[(0,k),(1000000,ka)]) (.ptr k (some b) 3 0 0);simpa[V.gM,V.rl,gW] using this
 ·simp only[GF,cp] at hj
  split at hj
  ·rename_i h0;exact⟨(0,k),by simp,h0.symm⟩
  ·split at hj
   ·rename_i h0;exact⟨(1000000,ka),by simp,h0.symm⟩
   ·cases hj
 ·simp only[aw,aD,bw] at hq
  rcases hq with rfl|rfl
  ·refine⟨by simp[gD],by simp[gW],λo ho=>?_⟩;simp only[GF,cp,↓reduceIte,aH] at ho;subst ho;exact⟨by rw[hk];simp[Ob.gM,GD,V.rl,gW,c],Hy⟩
  ·refine⟨by simp[gD],by simp[gW,c],λo ho=>?_⟩;simp[GF,cp] at ho;subst ho;exact⟨by rw[g];simp only[aE,Ob.gM,Hx,p7],Hz⟩
 ·rintro v l ⟨a,rfl,rfl⟩;have e:h.gy [(0,k),(1000000,ka)] (cp (GF b a m'))=Hp.put (Hp.put h k (GD b ka a m'.out.length m'.put m'.cut)) ka (Hx a (m'.out.map bd)):=by
   funext i
   by_cases h1:ka=i
   ·subst h1;simp[Hp.gy,Hp.put,gW,GF,cp,c,Mx]
   ·by_cases h2:k=i
    ·subst h2;simp[Hp.gy,Hp.put,gW,GF,cp,h1,hne,My,gD]
    ·have h3:¬i=ka:=λe=>h1 e.symm;have h4:¬i=k:=λe=>h2 e.symm;simp[Hp.gy,Hp.put,h1,h2,h3,h4]
  rw[e];exact hK a
def vi(rv:List RV)(r:Option Nat->List V)(b n':Nat)(e:BS)(c':Int)(a:List (List V))(R:S->Prop):Prop:=
 ∀(s s':S)(c:Option Nat)(n2:Nat)(p2:BS)(d:Int)(ij:List (List V)),c6 s s'->s'.h 0=some ⟨some b,182,3,[[.own 1000000 c 3 n2,.str p2,.int .i64 d]]⟩->s'.h 1000000=some ⟨c,115,3,ij⟩->
  iH rv (r c) s'->n2=n'/\p2=e/\d=c'/\ij=a->R s
theorem HA{rv:List RV}{r:Option Nat->List V}{b:Nat}{m':Mk}{R:S->Prop}(c:∀(s s':S)(a:Option Nat),c6 s s'->lM s' rv (λx=>l4 x=l4 (r a))->s'.h 0=some (GD b 1000000 a m'.out.length m'.put m'.cut)->s'.h 1000000=some (Hx a (m'.out.map bd))->R s):
  vi rv r b m'.out.length m'.put m'.cut (m'.out.map bd) R:=by
 rintro s s' a n2 p2 d ij he h0 h1 hr ⟨rfl,rfl,rfl,rfl⟩;exact c s s' a he (eM rv _ _ (λx hx=>by rw[hx]) hr) h0 h1
def M0(b:Nat)(ba:Option Nat)(n:Nat)(put:BS)(cut:Int)(rows:List (List V)):List (Nat×Ob):=[(0,⟨some b,182,3,[[.own 1000000 ba 3 n,.str put,.int .i64 cut]]⟩),(1000000,⟨ba,115,3,rows⟩)]
theorem vj{f:Nat}{fn:Func}{ac:AC}{rv:List RV}{args:List V}{D:Array Oper->List AO->Bool}(a:mi Tryz.prog D)(ok:fF Tryz.prog f fn ac rv (args.length+1) D){m m':Mk}(r:Option Nat->List V)(hr:∀ba,Fz (l4 (r ba)))
  (h:∀(b:Nat)(ba:Option Nat)(R:S->Prop),vi rv r b m'.out.length m'.put m'.cut (m'.out.map bd) R->
   gj dn (fm Tryz.prog) (fX Tryz.prog) ac (S0 (.ptr 0 (some b) 3 0 0::args) (cp (M0 b ba m.out.length m.put m.cut (m.out.map bd)))) R (λ_ _=>False) R):nf f args m m' (λba=>l4 (r ba)):=
 Mw a ok (λba=>l4 (r ba)) hr λb ba R c=>h b ba R (HA c)
def zs:AC:=.seq (qr [qm 2 0,qn 3 2,qf 4 1 3,ql 5 4,qo 6 (.bin .neq (.t 5) (.c qe))] (qu 6 (.region true [qm 7 0,qm 8 0,qn 9 8,qf 10 0 9,ql 11 10,qm 12 0,qn 13 12,qf 14 1 13,ql 15 14,qo 16 (.build uk [(0,1,qk 2),(2,1,(.t 15))]),qo 17 (.bslice 115 3 [.t 16]),qo 18 (.append 115 3 32 (.t 11) (.t 17)),qn 19 7,qf 20 0 19,qs 1 20 18]) .skip)) (qq (qr [qm 21 0,qn 22 21,qf 23 2 22,ql 24 23,qc 25 .gtr 24 0] (qu 25 (.region true [qm 26 0,qm 27 0,qn 28 27,qf 29 0 28,ql 30 29,qm 31 0,qn 32 31,qf 33 2 32,ql 34 33,qo 35 (.build uk [(0,1,qk 3),(1,1,(.t 34))]),qo 36 (.bslice 115 3 [.t 35]),qo 37 (.append 115 3 32 (.t 30) (.t 36)),qn 38 26,qf 39 0 38,qs 1 39 37]) .skip)) (qR [qm 40 0,qm 41 0,qn 42 40,qf 43 1 42,⟨none,none,.store 1 (.t 43) (.c qe)⟩,qn 44 41,qf 45 2 44,⟨none,none,.store 1 (.t 45) (qk 0)⟩]))
theorem HB:fF Tryz.prog 148 Tryz.f148 zs [] 1 er:=⟨Tryz.func148,by decide+kernel,by kernel_rfl,by kernel_rfl,by decide+kernel⟩
theorem HJ(P:Prim)(hP:P=dn)(T i:c8)(b:Nat)(ba:Option Nat)(n:Nat)(put:BS)(cut:Int)(rows:List (List V))(m:Mk)(hn:n=m.out.length)(ds:rows=m.out.map bd)(d:put=m.put)(e:cut=m.cut)(rB:m.out.length<=100000000)(a:List (List V))(n':Nat)(f:n'=m.flush.length)(c:a=m.flush.map bd)
  (R:S->Prop)(g:vi [] (λ_=>[]) b n' [] 0 a R):gj P T i zs (S0 [.ptr 0 (some b) 3 0 0] (cp (M0 b ba n put cut rows))) R (λ_ _=>False) R:=by
 cbv
 repeat'(first|(intro β;cbv)|(refine And.intro (by assumption) ?_;cbv)|(refine ab (λh=>?_) (λh=>?_)<;>try cbv)|(refine Exists.intro _ (And.intro (by assumption) ?_);cbv)|(refine hc1 _ _ ?_;cbv)|(refine j _ _ ?_;cbv)|(refine k _ _ ?_;cbv)|(refine l _ _ ?_;cbv)|(refine o _ _ ?_;cbv)|(refine p _ _ ?_;cbv)|(refine And.intro (by(clear g;subst hP;simp[dn,jx,nc] at* <;>first|omega|grind)) ?_;cbv))
 all_goals
  refine g _ _ _ _ _ _ _ (c6.refl _) rfl rfl rfl ?_;cbv;clear g;subst hP;subst f c hn ds d e;simp[dn,nc,Mk.flush] at*
  try simp[*]
  try exact⟨rfl,rfl⟩
  try rfl
theorem zt(m:Mk)(rB:m.out.length<=100000000):nf 148 [] m ⟨m.flush,[],0⟩ (λ_=>.tup []):=
 vj iD HB (λ_=>[]) (λ_=>.tup _ (by simp)) λb ba R a=>HJ dn rfl _ _ b ba _ _ _ _ m rfl rfl rfl rfl rB _ _ rfl rfl R a
def Dr:AC:=.region false [qm 4 0,qn 5 4,qf 6 1 5,ql 7 6,qm 8 1,qb 9 .add 7 8,qn 10 4,qf 11 1 10,qs 1 11 9]
theorem MA:fF Tryz.prog 125 Tryz.f125 Dr [] 2 er:=⟨Tryz.func125,by decide+kernel,by kernel_rfl,by kernel_rfl,by decide+kernel⟩
theorem MB(P:Prim)(hP:P=dn)(T e:c8)(b:Nat)(ba:Option Nat)(n:Nat)(put s:BS)(cut:Int)(rows:List (List V))(rB:(put.length:Int)+s.length<=1000000000)(d:BS)(a:d=put++s)
  (R:S->Prop)(c:vi [] (λ_=>[]) b n d cut rows R):gj P T e Dr (S0 [.ptr 0 (some b) 3 0 0,.str s] (cp (M0 b ba n put cut rows))) R (λ_ _=>False) R:=by
 cbv
 repeat'(first|(intro β;cbv)|(refine And.intro (by assumption) ?_;cbv)|(refine ab (λh=>?_) (λh=>?_)<;>try cbv)|(refine Exists.intro _ (And.intro (by assumption) ?_);cbv)|(refine hc1 _ _ ?_;cbv)|(refine f _ _ ?_;cbv)|(refine g _ _ ?_;cbv)|(refine i _ _ ?_;cbv)|(refine j _ _ ?_;cbv)|(refine k _ _ ?_;cbv)|(refine And.intro (by(clear c;subst hP;simp[dn,jx,nc] at* <;>first|omega|grind)) ?_;cbv))
 all_goals
  refine c _ _ _ _ _ _ _ (c6.refl _) rfl rfl rfl ?_;cbv;clear c;subst hP;subst a;simp[dn]
theorem MC(m:Mk)(s:BS)(rB:(m.put.length:Int)+s.length<=1000000000):nf 125 [.str s] m (m.iK s) (λ_=>.tup []):=
 vj iD MA (λ_=>[]) (λ_=>.tup _ (by simp)) λb ba R a=>MB dn rfl _ _ b ba _ _ s _ _ rB _ rfl R a
def Ds:AC:=.region false [qm 4 0,qn 5 4,qf 6 2 5,ql 7 6,qm 8 1,qb 9 .add 7 8,qn 10 4,qf 11 2 10,qs 1 11 9]
theorem MD:fF Tryz.prog 127 Tryz.f127 Ds [] 2 er:=⟨Tryz.func127,by decide+kernel,by kernel_rfl,by kernel_rfl,by decide+kernel⟩
theorem ME(P:Prim)(hP:P=dn)(T d:c8)(b:Nat)(ba:Option Nat)(n:Nat)(put:BS)(cut k:Int)(rows:List (List V))(rB:jx (cut+k))(c':Int)(a:c'=cut+k)
  (R:S->Prop)(c:vi [] (λ_=>[]) b n put c' rows R):gj P T d Ds (S0 [.ptr 0 (some b) 3 0 0,qI k] (cp (M0 b ba n put cut rows))) R (λ_ _=>False) R:=by
 cbv
 repeat'(first|(intro β;cbv)|(refine And.intro (by assumption) ?_;cbv)|(refine ab (λh=>?_) (λh=>?_)<;>try cbv)|(refine Exists.intro _ (And.intro (by assumption) ?_);cbv)|(refine hc1 _ _ ?_;cbv)|(refine e _ _ ?_;cbv)|(refine f _ _ ?_;cbv)|(refine g _ _ ?_;cbv)|(refine i _ _ ?_;cbv)|(refine j _ _ ?_;cbv)|(refine And.intro (by(clear c;subst hP;simp[dn,jx,nc] at* <;>first|omega|grind)) ?_;cbv))
 all_goals
  refine c _ _ _ _ _ _ _ (c6.refl _) rfl rfl rfl ?_;cbv;clear c;subst hP;subst a;simp[dn]
theorem MF(m:Mk)(k:Int)(rB:jx (m.cut+k)):nf 127 [.int .i64 k] m (m.jE k) (λ_=>.tup []):=
 vj iD MD (λ_=>[]) (λ_=>.tup _ (by simp)) λb ba R a=>ME dn rfl _ _ b ba _ _ _ k _ rB _ rfl R a
theorem Po{f:Nat}{args:List V}{m m':Mk}{r:Option Nat->V}(hs:nf f args m m' r)(ha:args.all V.pl=true){k ka b:Nat}{ba:Option Nat}(hne:k≠ka){h:Hp}{K:V->Hp->Prop}
  (hk:h k=some ⟨some b,182,3,[[.own ka ba 3 m.out.length,.str m.put,.int .i64 m.cut]]⟩)(c:h ka=some ⟨ba,115,3,m.out.map bd⟩)
  (hK:∀a,K ((r a).gM (gD [(0,k),(1000000,ka)])) (Hp.put (Hp.put h k ⟨some b,182,3,[[.own ka a 3 m'.out.length,.str m'.put,.int .i64 m'.cut]]⟩) ka ⟨a,115,3,m'.out.map bd⟩)):fm Tryz.prog f (.ptr k (some b) 3 0 0::args) h K:=
 Mz hs hne (λh=>fO ha) hk c hK
def BZ(T:c8)(f:Nat)(k ka b:Nat)(ba:Option Nat)(args:List V)(n:Nat)(put:BS)(cut:Int)(rows:List (List V))(r:Option Nat->V)(n':Nat)(d:BS)(e:Int)(a:List (List V)):Prop:=
 ∀(h:Hp)(K:V->Hp->Prop),h k=some ⟨some b,182,3,[[.own ka ba 3 n,.str put,qI cut]]⟩->h ka=some ⟨ba,115,3,rows⟩->
  (∀c,K (r c) (Hp.put (Hp.put h k ⟨some b,182,3,[[.own ka c 3 n',.str d,qI e]]⟩) ka ⟨c,115,3,a⟩))->T f (.ptr k (some b) 3 0 0::args) h K
theorem HO{f:Nat}{args:List V}{m m':Mk}{r r':Option Nat->V}(hs:nf f args m m' r)(ha:args.all V.pl=true)(k ka b:Nat)(ba:Option Nat)(hne:k≠ka)(hr:∀a,(r a).gM (gD [(0,k),(1000000,ka)])=r' a):
  BZ (fm Tryz.prog) f k ka b ba args m.out.length m.put m.cut (m.out.map bd) r' m'.out.length m'.put m'.cut (m'.out.map bd):=λh K hk c hK=>Po hs ha hne hk c λa=>by rw[hr];exact hK a
def zu:AC:=.seq (qr [qm 5 1,qc 6 .eql 5 0] (qu 6 .ret .skip)) (qr [qm 7 0,qa 8 148 [.t 7]] (qq (qr [qm 9 0,qn 10 9,qf 11 0 10,ql 12 11,qo 13 (.len false (.t 12)),qc 14 .sub 13 1,qm 4 14] (qr [qm 15 4,qc 16 .geq 15 0,qm 17 16,qg 18 17 true (.mov (.t 0)),qg 19 17 true (.nilchk (.t 18)),qg 20 17 true (.faddr 0 (.t 19)),qg 21 17 true (.load1 (.t 20)),qg 22 17 true (.mov (.t 4)),qg 23 17 true (.iaddr 3 (.t 21) (.t 22)),qg 24 17 true (.faddr 0 (.t 23)),qg 25 17 true (.load1 (.t 24)),qg 26 17 true (.bin .eql (.t 25) (qk 1)),qo 27 (.pick (.t 17) (.t 26) (.c (.bool false)))] (qu 27 (qr [qm 28 0,qn 29 28,qf 30 0 29,ql 31 30,qm 32 4,qo 33 (.iaddr 3 (.t 31) (.t 32)),qf 34 1 33,ql 35 34,qm 36 1,qb 37 .add 35 36,qo 38 (.iaddr 3 (.t 31) (.t 32)),qf 39 1 38,qs 1 39 37] .ret) .skip))) (qR [qm 40 0,qm 41 0,qn 42 41,qf 43 0 42,ql 44 43,qm 45 1,qo 46 (.build uk [(0,1,qk 1),(1,1,(.t 45))]),qo 47 (.bslice 115 3 [.t 46]),qo 48 (.append 115 3 32 (.t 44) (.t 47)),qn 49 40,qf 50 0 49,qs 1 50 48])))
theorem HU:fF Tryz.prog 126 Tryz.f126 zu [] 2 er:=⟨Tryz.func126,by decide+kernel,by kernel_rfl,by kernel_rfl,by decide+kernel⟩
theorem HZ(P:Prim)(hP:P=dn)(T G:c8)(b:Nat)(ba:Option Nat)(n:Nat)(put:BS)(cut k:Int)(rows:List (List V))(m:Mk)(hn:n=m.out.length)(ds:rows=m.out.map bd)(g:put=m.put)(i:cut=m.cut)
  (l:Nat)(e:List (List V))(f:l=m.flush.length)(a:e=m.flush.map bd)(rB:m.flush.length<=100000000)(s:∀p∈m.flush,jx (p.n+k))
  (hc1:BZ T 148 0 1000000 b ba [] n put cut rows (λ_=>.tup []) l [] 0 e)
  (n':Nat)(E:BS)(c':Int)(j:List (List V))(o:n'=(m.gv k).out.length)(c:j=(m.gv k).out.map bd)(q:E=(m.gv k).put)(r:c'=(m.gv k).cut)
  (R:S->Prop)(d:vi [] (λ_=>[]) b n' E c' j R):gj P T G zu (S0 [.ptr 0 (some b) 3 0 0,qI k] (cp (M0 b ba n put cut rows))) R (λ_ _=>False) R:=by
 cbv;refine ab (λh=>?_) (λh=>?_)
 ·cbv;refine d _ _ _ _ _ _ _ (c6.refl _) rfl rfl rfl ?_;cbv;clear d hc1;subst hP;subst o c hn ds g i q r;simp[dn] at h;simp[Mk.gv,h]
 cbv;have t:k≠0:=by clear d hc1;subst hP;simpa[dn] using h
 refine hc1 _ _ rfl rfl λH=>?_;clear hc1;cbv;have u:P.i64 (P.sub (P.int l) 1):=by clear d;subst hP;simp only[dn,jx,f];omega
 refine⟨u,?_⟩
 rcases dL m.flush with hf|⟨pre,⟨qk,qn,F⟩,hf⟩
 ·refine ab (λh=>?_) (λh=>?_)
  ·exfalso;clear d;subst hP;rw[hf] at f;simp[dn,f] at h
  cbv
  repeat'(first|(intro β;cbv)|(refine And.intro (by assumption) ?_;cbv)|(refine ab (λh=>?_) (λh=>?_)<;>try cbv)|(refine Exists.intro _ (And.intro (by assumption) ?_);cbv)|(refine hc1 _ _ ?_;cbv)|(refine w _ _ ?_;cbv)|(refine x _ _ ?_;cbv)|(refine y _ _ ?_;cbv)|(refine z _ _ ?_;cbv)|(refine A _ _ ?_;cbv)|(refine And.intro (by(clear d;subst hP;simp[dn,jx,nc] at* <;>first|omega|grind)) ?_;cbv))
  all_goals
   refine d _ _ _ _ _ _ _ (c6.refl _) rfl rfl rfl ?_;cbv;clear d;subst hP;subst o c hn ds g i q r f a;simp[Mk.gv,t,hf,kk,dn,bd]
 ·rw[dM] at hf;have hq:=s ⟨qk,qn,F⟩ (by rw[hf];simp);simp only at hq;have v:P.row e (P.nat (P.sub (P.int l) 1)) [qI qk,qI qn,.str F]:=by
   clear d;subst hP;rw[a,f,hf];simp[dn,bd]
  have B0:l=pre.length+1:=by rw[f,hf];simp
  have B:P.fC 0 (P.sub (P.int l) 1):=by clear d;subst hP;simp only[dn,B0];omega
  have C:P.iO (P.sub (P.int l) 1) (P.int l):=by clear d;subst hP;simp only[dn,B0];omega
  have D:P.i64 (P.add qn k):=by clear d;subst hP;exact hq
  refine ab (λh=>?_) (λh=>?_)
  rotate_left
  ·exfalso;clear d;subst hP;simp[dn,B0] at h
  cbv
  repeat'(first|(intro β;cbv)|(refine And.intro (by assumption) ?_;cbv)|(refine ab (λh=>?_) (λh=>?_)<;>try cbv)|(refine Exists.intro _ (And.intro (by assumption) ?_);cbv)|(refine hc1 _ _ ?_;cbv)|(refine w _ _ ?_;cbv)|(refine x _ _ ?_;cbv)|(refine y _ _ ?_;cbv)|(refine z _ _ ?_;cbv)|(refine A _ _ ?_;cbv)|(refine And.intro (by(clear d;subst hP;simp[dn,jx,nc] at* <;>first|omega|grind)) ?_;cbv))
  all_goals
   refine d _ _ _ _ _ _ _ (c6.refl _) rfl rfl rfl ?_;cbv;clear d v u B C D s;subst hP;subst o c hn ds g i q r a;simp[dn] at*;simp[Mk.gv,t,hf,kk,bd, *]
theorem H0(m:Mk)(k:Int)(rB:m.flush.length<=100000000)(a:∀p∈m.flush,jx (p.n+k))(c:m.out.length<=100000000):nf 126 [.int .i64 k] m (m.gv k) (λ_=>.tup []):=
 vj iD HU (λ_=>[]) (λ_=>.tup _ (by simp)) λb ba R d=>HZ dn rfl _ _ b ba _ _ _ k _ m rfl rfl rfl rfl _ _ rfl rfl rB a (HO (zt m c) rfl 0 1000000 b ba qD (λ_=>rfl)) _ _ _ _ rfl rfl rfl rfl R d
def zw:AC:=qr [qo 2 (.mov (.c (.slice none 0 0)))] (qr [qm 3 0,qa 4 148 [.t 3]] (qr [qm 5 0,qn 6 5,qf 7 0 6,ql 8 7,qm 2 8] .ret))
theorem H3:fF Tryz.prog 128 Tryz.f128 zw [.t 2] 1 er:=⟨Tryz.func128,by decide+kernel,by kernel_rfl,by kernel_rfl,by decide+kernel⟩
theorem H4(P:Prim)(hP:P=dn)(T e:c8)(b:Nat)(ba:Option Nat)(n:Nat)(put:BS)(cut:Int)(rows:List (List V))(c:Nat)(a:List (List V))
  (hc1:BZ T 148 0 1000000 b ba [] n put cut rows (λ_=>.tup []) c [] 0 a)
  (R:S->Prop)(f:vi [.t 2] (λd=>[.own 1000000 d 3 c]) b c [] 0 a R):gj P T e zw (S0 [.ptr 0 (some b) 3 0 0] (cp (M0 b ba n put cut rows))) R (λ_ _=>False) R:=by
 cbv;refine hc1 _ _ rfl rfl λg=>?_;cbv;exact f _ _ _ _ _ _ _ (c6.refl _) rfl rfl rfl ⟨rfl,rfl,rfl,rfl⟩
theorem H5(m:Mk)(c:m.out.length<=100000000):nf 128 [] m ⟨m.flush,[],0⟩ (λa=>.own 1000000 a 3 m.flush.length):=
 vj iD H3 (λa=>[.own 1000000 a 3 m.flush.length]) (λ_=>.own _ _ _ _) λb ba R d=>H4 dn rfl _ _ b ba _ _ _ _ _ _ (HO (zt m c) rfl 0 1000000 b ba qD (λ_=>rfl)) R d
def o9:List iY->BS->BS
 |[],_=>[]
 |.put b::ts,s=>b::o9 ts s
 |.keep::ts,s=>s.take 1++o9 ts (s.drop 1)
 |.cut::ts,s=>o9 ts (s.drop 1)
def Fl:List BS->List Bool->BS->BS
 |p::ps,k::ks,s=>p++(if k then s.take 1 else[])++Fl ps ks (s.drop 1)
 |p::_,[],_=>p
 |[],_,_=>[]
theorem xZ(b:UInt8)(l:List BS)(ks:List Bool)(s:BS)(h:l≠[]):Fl (iJ b l) ks s=b::Fl l ks s:=by
 cases l with
 |nil=>exact absurd rfl h
 |cons p r=>cases ks<;>simp[iJ,Fl]
theorem mL(ts:List iY):fK ts≠[]:=by obtain⟨p,r,h⟩:=oU ts;rw[h];simp
theorem Qv(ts:List iY)(s:BS):Fl (fK ts) (fy ts) s=o9 ts s:=by
 induction ts generalizing s with
 |nil=>rfl
 |cons t ts ih=>
  cases t
  ·simp[fK,fy,Fl,o9,ih]
  ·simp only[fK,fy,o9];rw[xZ _ _ _ _ (mL ts),ih]
  ·simp[fK,fy,Fl,o9,ih]
def lH(ts:List iY):Nat:=(fy ts).length
def lf:List iY->Nat
 |[]=>0
 |.cut::ts=>lf ts
 |.keep::ts=>lf ts+1
 |.put _::ts=>lf ts+1
theorem H6(a b:List iY):lf (a++b)=lf a+lf b:=by
 induction a with
 |nil=>simp[lf]
 |cons t a ih=>cases t<;>simp[lf,ih]<;>omega
theorem oV(a b:List iY):lH (a++b)=lH a+lH b:=by simp[lH,sW]
theorem MG(ts:List iY)(s:BS)(h:s.length=lH ts):(o9 ts s).length=lf ts:=by
 induction ts generalizing s with
 |nil=>rfl
 |cons t ts ih=>
  cases t
  ·simp only[lH,fy,au] at h;simp only[o9,lf,ag,aI];rw[ih _ (by simp[lH];omega)];omega
  ·simp only[o9,lf,au];rw[ih _ h]
  ·simp only[lH,fy,au] at h;simp only[o9,lf];exact ih _ (by simp[lH];omega)
def Qw(p:Part):Prop:=(p.kind=2/\p.n=0/\p.text≠[])\/((p.kind=1\/p.kind=3)/\0<p.n/\p.text=[])
def n4:Int->List Part->Prop
 |_,[]=>True
 |last,p::l=>Qw p/\p.kind≠last/\¬(last=3/\p.kind=2)/\n4 p.kind l
def pB:Int->List Part->Int
 |k,[]=>k
 |_,p::l=>pB p.kind l
theorem lg(k:Int)(a b:List Part):n4 k (a++b)↔n4 k a/\n4 (pB k a) b:=by
 induction a generalizing k with
 |nil=>simp[n4,pB]
 |cons p a ih=>
  simp only[aK,n4,pB,ih]
  constructor
  ·rintro⟨a,b,c,d,e⟩;exact⟨⟨a,b,c,d⟩,e⟩
  ·rintro⟨⟨a,b,c,d⟩,e⟩;exact⟨a,b,c,d,e⟩
theorem p8(k:Int)(a b:List Part):pB k (a++b)=pB (pB k a) b:=by
 induction a generalizing k with
 |nil=>rfl
 |cons p a ih=>simp[pB,ih]
structure Mk.Ok(m:Mk):Prop where
 form:n4 0 m.out
 last:pB 0 m.out=1\/pB 0 m.out=0
 cut:0<=m.cut
theorem Mk.Ok.flush{m:Mk}(h:m.Ok):n4 0 m.flush:=by
 obtain⟨h1,h2,h3⟩:=h;unfold Mk.flush
 by_cases hp:m.put=[]
 ·rw[ae hp,aS,lg];refine⟨h1,?_⟩
  by_cases hc:0<m.cut
  ·rw[ae hc];exact⟨.inr ⟨.inr rfl,hc,rfl⟩,by show(3:Int)≠_;omega,by show¬(_/\(3:Int)=2);omega,trivial⟩
  ·rw[aa hc];trivial
 ·rw[aa hp,lg,lg,p8];refine⟨⟨h1,.inl ⟨rfl,rfl,hp⟩,by show(2:Int)≠_;omega,by show¬(_/\(2:Int)=2);omega,trivial⟩,?_⟩
  by_cases hc:0<m.cut
  ·rw[ae hc];exact⟨.inr ⟨.inr rfl,hc,rfl⟩,by show(3:Int)≠2;omega,by show¬(_/\(3:Int)=2);omega,trivial⟩
  ·rw[aa hc];trivial
theorem B1{o:List Part}{n:Int}(h:n4 0 o)(hn:0<n):n4 0 (kk o n)/\pB 0 (kk o n)=1:=by
 unfold kk;cases hl:o.getLast? with
 |none=>
  have:o=[]:=by simpa using hl
  subst this;exact⟨⟨.inr ⟨.inl rfl,hn,rfl⟩,by show(1:Int)≠0;omega,by show¬(_/\(1:Int)=2);omega,trivial⟩,rfl⟩
 |some p=>
  obtain⟨a,rfl⟩:∃a,o=a++[p]:=by
   have hne:o≠[]:=by intro h0;subst h0;simp at hl
   refine⟨o.dropLast,?_⟩;have:=eg hne;rw[List.getLast?_eq_some_getLast hne] at hl;cases hl;exact this.symm
  rw[lg] at h;obtain⟨h1,h2,h3,h4,_⟩:=h
  by_cases hk:p.kind=1
  ·simp only[hk,↓reduceIte,List.dropLast_concat];rw[lg,p8];refine⟨⟨h1,?_,?_,by show¬(_/\(1:Int)=2);omega,trivial⟩,rfl⟩
   ·rcases h2 with⟨h,_⟩|⟨_,h5,h6⟩
    ·omega
    ·exact .inr ⟨.inl rfl,by show 0<p.n+n;omega,h6⟩
   ·rw[hk] at h3;exact h3
  ·simp only[hk,↓reduceIte];rw[lg,p8,p8];refine⟨⟨(lg _ _ _).2 ⟨h1,h2,h3,h4,trivial⟩,.inr ⟨.inl rfl,hn,rfl⟩,?_,by show¬(_/\(1:Int)=2);omega,trivial⟩,rfl⟩;show(1:Int)≠p.kind;omega
theorem Mk.Ok.tok{m:Mk}(h:m.Ok)(t:iY):(m.tok t).Ok:=by
 cases t
 ·have:=B1 h.flush (n:=1) qW;simp only[Mk.tok,Mk.gv];rw[aa qW];exact⟨this.1,.inl this.2,aN _⟩
 ·exact⟨h.form,h.last,h.cut⟩
 ·exact⟨h.form,h.last,by show 0<=m.cut+1;have:=h.cut;omega⟩
theorem Mk.Ok.run{m:Mk}(h:m.Ok)(ts:List iY):(m.run ts).Ok:=by
 induction ts generalizing m with
 |nil=>exact h
 |cons t ts ih=>exact ih (h.tok t)
def l8(m:Mk):List BS->List Bool->Mk
 |p::ps,k::ks=>l8 (if k then(m.iK p).gv 1 else(m.iK p).jE 1) ps ks
 |p::_,[]=>m.iK p
 |[],_=>m
theorem vk(m:Mk)(b:UInt8)(l:List BS)(ks:List Bool)(h:l≠[]):l8 m (iJ b l) ks=l8 (m.iK [b]) l ks:=by
 cases l with
 |nil=>exact absurd rfl h
 |cons p r=>cases ks<;>simp[iJ,l8,Mk.iK]
theorem H7(m:Mk)(ts:List iY):l8 m (fK ts) (fy ts)=m.run ts:=by
 induction ts generalizing m with
 |nil=>simp[fK,fy,l8,Mk.run,Mk.iK]
 |cons t ts ih=>
  have hs:m.run (t::ts)=(m.tok t).run ts:=rfl;rw[hs,<-ih];cases t
  ·simp[fK,fy,l8,Mk.tok,Mk.iK]
  ·simp only[fK,fy,Mk.tok];exact vk _ _ _ _ (mL ts)
  ·simp[fK,fy,l8,Mk.tok,Mk.iK]
def c7(l:List BS):List (List V):=l.map λs=>[.str s]
def gP(l:List Bool):List (List V):=l.map λb=>[.bool b]
theorem vl(ts:List iY)(x:iY)(hx:x=.keep\/x=.cut)(n:Nat):fK (ts++List.replicate n x)=fK ts++List.replicate n []:=by
 induction n generalizing ts with
 |zero=>simp
 |succ n ih=>rw[aX,show ts++x::List.replicate n x=(ts++[x])++List.replicate n x by simp,ih,wg _ _ hx];simp[aX]
theorem lh(ts:List iY)(x:iY)(hx:x=.keep\/x=.cut)(n:Nat):fy (ts++List.replicate n x)=fy ts++List.replicate n (decide (x=.keep)):=by
 rw[sW]
 congr 1
 induction n with
 |zero=>rfl
 |succ n ih=>rcases hx with rfl|rfl<;>simp[aX,fy,ih]
theorem vm(ts:List iY):(fy ts).length<=ts.length:=by
 induction ts with
 |nil=>simp[fy]
 |cons t ts ih=>cases t<;>simp[fy]<;>omega
theorem Fm(p:Part)(h:0<=p.n/\p.n<=500/\p.text.length<=500):(ji p).length<=500:=by
 unfold ji
 split
 ·simp;omega
 ·split<;>simp<;>omega
theorem zx(l:List Part)(h:∀p∈l,0<=p.n/\p.n<=500/\p.text.length<=500):(fb l).length<=500*l.length:=by
 induction l with
 |nil=>simp[fb]
 |cons p l ih=>
  have h1:=Fm p (h p (by simp));have h2:=ih λq hq=>h q (by simp[hq]);simp only[fb,ag,au];omega
theorem MH(ts:List iY):∀s∈fK ts,s.length<=ts.length:=by
 induction ts with
 |nil=>simp[fK]
 |cons t ts ih=>
  intro s hs;cases t
  ·simp only[fK,aw] at hs
   rcases hs with rfl|hs
   ·simp
   ·have:=ih s hs;simp;omega
  ·simp only[fK] at hs;obtain⟨p,r,h⟩:=oU ts;rw[h] at hs ih;simp only[iJ,aw] at hs
   rcases hs with rfl|hs
   ·have:=ih p (by simp);simp;omega
   ·have:=ih s (by simp[hs]);simp;omega
  ·simp only[fK,aw] at hs
   rcases hs with rfl|hs
   ·simp
   ·have:=ih s hs;simp;omega
theorem Fo(ts:List iY)(t:BS):∃q,(fK ts)[(fy ts).length]? =some q/\q.length<=ts.length/\fK (ts++t.map .put)=(fK ts).set (fy ts).length (q++t):=by
 have hl:=nd ts;rw[xX];obtain⟨init,q,h⟩:∃init q,fK ts=init++[q]:=⟨(fK ts).dropLast,(fK ts).getLast (mL ts),(eg (mL ts)).symm⟩;have hi:(fy ts).length=init.length:=by rw[h] at hl;simp at hl;omega
 refine⟨q,by rw[h,hi];simp,MH ts q (by rw[h];simp),?_⟩;rw[h,hi];simp[nP]
def H9:AC:=qr [qo 2 (.alloc 139 Td)] (qr [qo 6 (.bslice 9 1 [(.c qe)]),qo 7 (.build Td [(0,1,(.t 6))]),qo 3 (.alloc 139 Td),qs 2 3 7] (qq (qr [qm 8 0,qo 9 (.len false (.t 8)),qz 10 0] (.block 0 (.loop (qr [qb 11 .lss 10 9] (qq (qu 11 .skip (.exit 0)) (qq (.block 1 (qr [qo 12 (.iaddr 3 (.t 8) (.t 10)),qd 13 3 12,qo 5 (.alloc 115 uk),qs 3 5 13] (qq (qr [qf 14 0 5,ql 15 14,qc 16 .eql 15 2] (qu 16 (qq (.region true [qf 17 0 3,ql 18 17,qf 19 0 3,ql 20 19,qo 21 (.len false (.t 20)),qc 22 .sub 21 1,qo 23 (.iaddr 1 (.t 18) (.t 22)),ql 24 23,qf 25 2 5,ql 26 25,qb 27 .add 24 26,qo 28 (.iaddr 1 (.t 18) (.t 22)),qs 1 28 27]) (.exit 1)) .skip)) (qr [qf 29 1 5,ql 30 29,qz 31 0] (.block 2 (.loop (qr [qb 32 .lss 31 30] (qq (qu 32 .skip (.exit 2)) (qq (.block 3 (qr [qf 33 1 3,ql 34 33,qf 35 0 5,ql 36 35,qc 37 .eql 36 1,qo 38 (.bslice 4 1 [.t 37]),qo 39 (.append 4 1 1 (.t 34) (.t 38)),qf 40 1 3,qs 1 40 39] (qR [qf 41 0 3,ql 42 41,qo 43 (.bslice 9 1 [(.c qe)]),qo 44 (.append 9 1 16 (.t 42) (.t 43)),qf 45 0 3,qs 1 45 44]))) (qR [qc 46 .add 31 1,qm 31 46])))))))))) (qR [qc 47 .add 10 1,qm 10 47]))))))) (qr [qd 48 2 3,qs 2 2 48] .ret)))
theorem Qx:fF Tryz.prog 83 Tryz.f83 H9 [.cn 2 2] 1 er:=⟨Tryz.func83,by decide+kernel,by kernel_rfl,by kernel_rfl,by decide+kernel⟩
structure YO(d:List Part) where
 k:Int
 pre:List Part
 rest:List Part
 pr:List (List V)
 kr:List (List V)
 np:Nat
 nk:Nat
 bp:Option Nat
 bk:Option Nat
 hd:d=pre++rest
 hk:k=pre.length
 Fp:pr=c7 (fK (fb pre))
 yK:kr=gP (fy (fb pre))
 Ia:np=pr.length
 Ib:nk=kr.length
structure VU(ts:List iY)(x:iY)(n:Int) where
 r:Int
 pr:List (List V)
 kr:List (List V)
 np:Nat
 nk:Nat
 bp:Option Nat
 bk:Option Nat
 h0:0<=r/\r<=n
 Fp:pr=c7 (fK (ts++List.replicate r.toNat x))
 yK:kr=gP (fy (ts++List.replicate r.toNat x))
 Ia:np=pr.length
 Ib:nk=kr.length
theorem c6.mK{s:S}{k k' ty sz r c:Nat}{o:Ob}{row:List V}(hk:s.h k=some o)(hr:o.rows[r]? =some row)(hc:row[c]? =some .nilsl)(d:s.h k'=none):
  c6 s ⟨s.t,Hp.put (Hp.put s.h k ⟨o.b,o.ty,o.sz,o.rows.set r (row.set c (.own k' none sz 0))⟩) k' ⟨none,ty,sz,[]⟩⟩:=by
 intro C n a w f hs;obtain⟨F,h1,h2⟩:=hs.ex;obtain⟨F',hF,e⟩:=jU.mK hk hr hc d C F w f h1;exact⟨⟨F',e,λi=>(h2 i).mono hF (λ_ h=>.inr h)⟩,hs.df,hs.sz⟩
theorem Qy(P:Prim)(hP:P=dn)(T X:c8)(d:List Part)(H:d.length<=1600)(I:∀p∈d,0<=p.n/\p.n<=500/\p.text.length<=500)(rows:List (List V))(ds:rows=d.map bd)
  (pr kr:List (List V))(Fp:pr=c7 (fK (fb d)))(yK:kr=gP (fy (fb d)))(R:S->Prop)
  (a:∀(s s':S)(np nk:Nat)(bp bk:Option Nat)(l m:List (List V)),c6 s s'->iH [.cn 2 2] [.agg [.own 1000006 bp 1 np,.own 1000039 bk 1 nk]] s'->s'.h 1000006=some ⟨bp,9,1,l⟩->s'.h 1000039=some ⟨bk,4,1,m⟩->
   l=pr/\m=kr/\np=pr.length/\nk=kr.length->R s):gj P T X H9 (S0 [.sl true 3 rows] Hp.emp) R (λ_ _=>False) R:=by
 cbv;intro o;cbv;intro Y;cbv;intro u;cbv;have hl:P.dv rows=d.length:=by subst hP;simp[dn,ds]
 refine⟨YO d,λy=>[(0,.sl true 3 rows),(2,.ptr 2 (some o) 2 0 0),(3,.ptr 3 (some u) 2 0 0),(8,.sl true 3 rows),(9,qI (P.dv rows)),(10,qI y.k)],
  λy=>[(2,⟨some o,139,2,[[.nilsl,.nilsl]]⟩),(3,⟨some u,139,2,[[.own 1000006 y.bp 1 y.np,.own 1000039 y.bk 1 y.nk]]⟩),(1000006,⟨y.bp,9,1,y.pr⟩),(1000039,⟨y.bk,4,1,y.kr⟩)],λy=>y.rest.length,
  ⟨_,c6.mK (k:=3) (k':=1000039) (ty:=4) (sz:=1) (r:=0) (c:=1) rfl rfl rfl rfl,⟨0,[],d,_,_,_,_,_,_,?_,?_,?_,?_,?_,?_⟩,⟨rfl,rfl,rfl,rfl,rfl,rfl,trivial⟩,⟨rfl,rfl,rfl,rfl,trivial⟩⟩,?_⟩
 ·rfl
 ·rfl
 ·rfl
 ·rfl
 ·rfl
 ·rfl
 rintro⟨k,pre,rest,z,J,np,nk,bp,bk,hd,hk,b,e,Ia,Ib⟩;cbv;have Z:P.dv rows=pre.length+rest.length:=by subst hP;simp[dn,ds,hd]
 have Xs:pre.length+rest.length<=1600:=by rw[hd] at H;simpa using H
 have YQ:=zx pre λp hp=>I p (by simp[hd,hp]);have Z9:(fy (fb pre)).length<=(fb pre).length:=vm _;have f:np=(fy (fb pre)).length+1:=by rw[Ia,b,c7,aF,nd]
 have w:nk=(fy (fb pre)).length:=by rw[Ib,e,gP,aF]
 refine ab (λh=>?_) (λh=>?_)
 ·rcases rest with _|⟨⟨kd,n,t⟩,rest⟩
  ·(exfalso;clear a;subst hP;simp[dn,nc] at*;first|omega|grind)
  have hb:=I ⟨kd,n,t⟩ (by simp[hd]);simp only at hb;have x:=pA ds hd hk P hP;cbv;refine⟨by subst hP;simp[dn,hk],_,x,?_⟩;clear x;cbv;intro K;cbv;refine ab (λh=>?_) (λh=>?_)
  ·
   have v:kd=2:=by clear a;subst hP;simpa[dn] using h
   obtain⟨q,hq,Qz,L⟩:=Fo (fb pre) t;have A:P.row z (P.nat (P.sub (P.int np) 1)) [.str q]:=by
    clear a;subst hP;rw[b,f];simp only[dn];rw[show(((fy (fb pre)).length+1:Nat):Int)-1=((fy (fb pre)).length:Int) by omega,aA];simp[c7,hq]
   have B:P.i64 (P.sub (P.int np) 1):=by clear a;subst hP;simp only[dn,jx];omega
   have C:P.fC 0 (P.sub (P.int np) 1):=by clear a;subst hP;simp only[dn];omega
   have D:P.iO (P.sub (P.int np) 1) (P.int np):=by clear a;subst hP;simp only[dn];omega
   have E:P.i64 (P.add (P.c9 q) (P.c9 t)):=by clear a;subst hP;simp only[dn,jx];omega
   have g:P.i64 (P.add k 1):=by clear a;subst hP;simp only[dn,jx];rw[hk];simp only[nc];omega
   cbv
   repeat'(first|(intro β;cbv)|(refine And.intro (by assumption) ?_;cbv)|(refine ab (λh=>?_) (λh=>?_)<;>try cbv)|(refine Exists.intro _ (And.intro (by assumption) ?_);cbv)|(refine hc1 _ _ ?_;cbv)|(refine M _ _ ?_;cbv)|(refine N _ _ ?_;cbv)|(refine O _ _ ?_;cbv)|(refine Q _ _ ?_;cbv)|(refine U _ _ ?_;cbv)|(refine And.intro (by(clear a;subst hP;simp[dn,jx,nc] at* <;>first|omega|grind)) ?_;cbv))
   all_goals
    refine⟨_,c6.refl _,⟨_,pre++[⟨kd,n,t⟩],rest,_,_,_,_,_,_,?_,?_,?_,?_,?_,?_⟩,⟨rfl,rfl,rfl,rfl,rfl,rfl,trivial⟩,⟨rfl,rfl,rfl,rfl,trivial⟩,by simp⟩
   all_goals(clear a A B C D E g;subst hP)
   ·simp[hd]
   ·simp[dn,hk]
   ·rw[l7,show fb [⟨kd,n,t⟩]=t.map .put by simp[fb,ji,v],L,b,f];simp only[dn];rw[show(((fy (fb pre)).length+1:Nat):Int)-1=((fy (fb pre)).length:Int) by omega,aA];simp[c7,List.map_set]
   ·rw[l7,show fb [⟨kd,n,t⟩]=t.map .put by simp[fb,ji,v],sW,sX,aS,e]
   ·simp[dn,Ia]
   ·exact Ib
  ·
   have v:kd≠2:=by clear a;subst hP;simpa[dn] using h
   have hx:(if kd=1 then iY.keep else iY.cut)=.keep\/(if kd=1 then iY.keep else iY.cut)=.cut:=by split<;>simp
   have W:ji ⟨kd,n,t⟩=List.replicate n.toNat (if kd=1 then iY.keep else iY.cut):=by simp only[ji,aa v];split<;>rfl
   cbv;refine⟨VU (fb pre) (if kd=1 then iY.keep else iY.cut) n,λy=>[(0,.sl true 3 rows),(2,.ptr 2 (some o) 2 0 0),(3,.ptr 3 (some u) 2 0 0),(5,.ptr 5 (some K) 3 0 0),(8,.sl true 3 rows),(9,qI (P.dv rows)),(10,qI k),(30,qI n),(31,qI y.r)],
    λy=>[(2,⟨some o,139,2,[[.nilsl,.nilsl]]⟩),(3,⟨some u,139,2,[[.own 1000006 y.bp 1 y.np,.own 1000039 y.bk 1 y.nk]]⟩),(5,⟨some K,115,3,[[qI kd,qI n,.str t]]⟩),(1000006,⟨y.bp,9,1,y.pr⟩),(1000039,⟨y.bk,4,1,y.kr⟩)],λy=>(n-y.r).toNat,
    ⟨_,c6.refl _,⟨0,z,J,np,nk,bp,bk,⟨aN _,hb.1⟩,by simpa using b,by simpa using e,Ia,Ib⟩,⟨rfl,rfl,rfl,rfl,rfl,rfl,rfl,rfl,rfl,trivial⟩,⟨rfl,rfl,rfl,rfl,rfl,trivial⟩⟩,?_⟩
   clear f w;rintro⟨r,l,m,np,nk,bp,bk,h0,i,j,Ia,Ib⟩;have w:nk=(fy (fb pre)).length+r.toNat:=by rw[Ib,j,gP,aF,lh _ _ hx];simp
   have f:np=(fy (fb pre)).length+r.toNat+1:=by rw[Ia,i,c7,aF,nd,lh _ _ hx];simp
   cbv;refine ab (λh=>?_) (λh=>?_)
   ·have F:r<n:=by clear a;subst hP;simpa[dn] using h
    have B:P.bytes (P.add (P.int nk) (P.dv [[.bool (P.eq kd 1)]])) 1:=by clear a;subst hP;simp[dn];omega
    have C:P.bytes (P.add (P.int np) (P.dv [[.str []]])) 16:=by clear a;subst hP;simp[dn];omega
    have D:P.nL m nk:=by clear a;subst hP;simp[dn,Ib]
    have E:P.nL l np:=by clear a;subst hP;simp[dn,Ia]
    have g:P.i64 (P.add r 1):=by clear a;subst hP;simp only[dn,jx];omega
    cbv
    repeat'(first|(intro β;cbv)|(refine And.intro (by assumption) ?_;cbv)|(refine ab (λh=>?_) (λh=>?_)<;>try cbv)|(refine Exists.intro _ (And.intro (by assumption) ?_);cbv)|(refine hc1 _ _ ?_;cbv)|(refine M _ _ ?_;cbv)|(refine N _ _ ?_;cbv)|(refine O _ _ ?_;cbv)|(refine Q _ _ ?_;cbv)|(refine U _ _ ?_;cbv)|(refine And.intro (by(clear a;subst hP;simp[dn,jx,nc] at* <;>first|omega|grind)) ?_;cbv))
    all_goals
     refine⟨_,c6.refl _,⟨_,_,_,_,_,_,_,?_,?_,?_,?_,?_⟩,⟨rfl,rfl,rfl,rfl,rfl,rfl,rfl,rfl,rfl,trivial⟩,⟨rfl,rfl,rfl,rfl,rfl,trivial⟩,?_⟩
    all_goals(clear a B C D E g;subst hP)
    ·simp only[dn];omega
    ·simp only[dn];rw[show(r+1).toNat=r.toNat+1 by omega,vl _ _ hx,i,vl _ _ hx];simp[c7,List.replicate_succ']
    ·simp only[dn];rw[show(r+1).toNat=r.toNat+1 by omega,lh _ _ hx,j,lh _ _ hx];simp only[gP,List.replicate_succ',dq,bh]
     congr 2
     by_cases h1:kd=1<;>simp[h1]
    ·simp[dn,Ia]
    ·simp[dn,Ib]
    ·simp only[dn];omega
   ·have F:r=n:=by clear a;subst hP;simp[dn] at h;omega
    have g:P.i64 (P.add k 1):=by clear a;subst hP;simp only[dn,jx];rw[hk];simp only[nc];omega
    cbv
    repeat'(first|(intro β;cbv)|(refine And.intro (by assumption) ?_;cbv)|(refine ab (λh=>?_) (λh=>?_)<;>try cbv)|(refine Exists.intro _ (And.intro (by assumption) ?_);cbv)|(refine hc1 _ _ ?_;cbv)|(refine M _ _ ?_;cbv)|(refine N _ _ ?_;cbv)|(refine O _ _ ?_;cbv)|(refine Q _ _ ?_;cbv)|(refine U _ _ ?_;cbv)|(refine And.intro (by(clear a;subst hP;simp[dn,jx,nc] at* <;>first|omega|grind)) ?_;cbv))
    all_goals
     refine⟨_,c6.refl _,⟨_,pre++[⟨kd,n,t⟩],rest,_,_,_,_,_,_,?_,?_,?_,?_,?_,?_⟩,⟨rfl,rfl,rfl,rfl,rfl,rfl,trivial⟩,⟨rfl,rfl,rfl,rfl,trivial⟩,by simp⟩
    all_goals(clear a g;subst hP)
    ·simp[hd]
    ·simp[dn,hk]
    ·rw[i,l7,show fb [⟨kd,n,t⟩]=ji ⟨kd,n,t⟩ by simp[fb],W,F]
    ·rw[j,l7,show fb [⟨kd,n,t⟩]=ji ⟨kd,n,t⟩ by simp[fb],W,F]
    ·exact Ia
    ·exact Ib
 ·have G:rest=[]:=by
   cases rest with
   |nil=>rfl
   |cons p rest=>(exfalso;clear a;subst hP;simp[dn,nc] at*;first|omega|grind)
  subst G;rw[aS] at hd;subst hd;cbv;exact a _ _ np nk bp bk z J (c6.refl _) ⟨rfl,rfl,Nat.zero_lt_one,ah _,rfl⟩ rfl rfl ⟨b.trans Fp.symm,e.trans yK.symm,by rw[Ia,b,Fp],by rw[Ib,e,yK]⟩
theorem gY(l:List BS):∀r∈c7 l,∀v∈r,Fz v:=by
 intro r hr v hv;obtain⟨s,_,rfl⟩:=aC.1 hr;simp only[aq] at hv;subst hv;exact .str _
theorem zy(l:List Bool):∀r∈gP l,∀v∈r,Fz v:=by
 intro r hr v hv;obtain⟨s,_,rfl⟩:=aC.1 hr;simp only[aq] at hv;subst hv;exact .bool _
theorem vn(l:List BS):∀r∈c7 l,r.length=1:=by
 intro r hr;obtain⟨s,_,rfl⟩:=aC.1 hr;rfl
theorem zz(l:List Bool):∀r∈gP l,r.length=1:=by
 intro r hr;obtain⟨s,_,rfl⟩:=aC.1 hr;rfl
def tJ(ps:List BS)(ks:List Bool):V:=.agg [.sl false 1 (c7 ps),.sl false 1 (gP ks)]
theorem sY(d:List Part)(a:d.length<=1600)(b:∀p∈d,0<=p.n/\p.n<=500/\p.text.length<=500):Spec Tryz.prog 83 [.sl true 3 (d.map bd)] Hp.emp (Is (tJ (fK (fb d)) (fy (fb d)))):=
 jq iD Qx λR c=>Qy dn rfl _ _ d a b _ rfl _ _ rfl rfl R λs s' np nk bp bk e f he hr h1 h2 h3=>c s s' he (by
  obtain⟨rfl,rfl,rfl,rfl⟩:=h3;refine eM _ _ _ (λx hx=>?_) hr;subst hx;exact .fD (.rows h1 rfl rfl rfl (vn _) (gY _)) (.fD (.rows h2 rfl rfl rfl (zz _) (zy _)) .Dp))
structure Mk.Bd(m:Mk)(j w:Nat):Prop where
 len:m.out.length<=3*j
 cut:0<=m.cut/\m.cut<=j
 ns:∀p∈m.out,0<=p.n/\p.n<=j
 put:m.put.length<=w
theorem Mk.x5:Mk.new.Bd 0 0:=⟨by simp[Mk.new],by simp[Mk.new],by simp[Mk.new],by simp[Mk.new]⟩
theorem Mk.Bd.iK{m:Mk}{j w:Nat}(h:m.Bd j w)(s:BS):(m.iK s).Bd j (w+s.length):=⟨h.len,h.cut,h.ns,by have:=h.put;simp[Mk.iK];omega⟩
theorem Mk.Bd.jE{m:Mk}{j w:Nat}(h:m.Bd j w)(n:Int)(hn:0<=n):(m.jE n).Bd (j+n.toNat) w:=
 ⟨by have:=h.len;simp only[Mk.jE];omega,by have:=h.cut;simp only[Mk.jE];omega,λp hp=>by have:=h.ns p hp;omega,h.put⟩
theorem Mk.Bd.flush{m:Mk}{j w:Nat}(h:m.Bd j w):m.flush.length<=3*j+2/\∀p∈m.flush,0<=p.n/\p.n<=j:=by
 have h1:=h.len;have h2:=h.cut;refine⟨?_,λp hp=>?_⟩
 ·unfold Mk.flush
  split<;>split<;>simp<;>omega
 ·unfold Mk.flush at hp;rw[bn,bn] at hp
  rcases hp with(hp|hp)|hp
  ·exact h.ns p hp
  ·split at hp
   ·cases hp
   ·simp at hp;subst hp;simp
  ·split at hp
   ·simp at hp;subst hp;exact h2
   ·cases hp
theorem Mk.Bd.gv{m:Mk}{j w:Nat}(h:m.Bd j w)(n:Int)(hn:0<=n):(m.gv n).Bd (j+n.toNat) w:=by
 unfold Mk.gv
 by_cases h0:n=0
 ·subst h0;simpa using h
 rw[aa h0];obtain⟨h1,h2⟩:=h.flush;refine⟨?_,by simp;omega,λp hp=>?_,by simp⟩
 ·simp only[kk]
  split
  ·split
   ·simp;omega
   ·simp;omega
  ·simp;omega
 ·simp only[kk] at hp
  split at hp
  ·rename_i q hq
   split at hp
   ·rcases bn.1 hp with hp|hp
    ·have:=h2 p ((List.dropLast_sublist _).mem hp);omega
    ·simp at hp;subst hp;have:=h2 q (List.mem_of_getLast? hq);simp only;omega
   ·rcases bn.1 hp with hp|hp
    ·have:=h2 p hp;omega
    ·simp at hp;subst hp;simp only;omega
  ·simp at hp;subst hp;simp only;omega
theorem Mk.Bd.mono{m:Mk}{j w a w':Nat}(h:m.Bd j w)(hj:j<=a)(hw:w<=w'):m.Bd a w':=
 ⟨by have:=h.len;omega,by have:=h.cut;omega,λp hp=>by have:=h.ns p hp;omega,by have:=h.put;omega⟩
def rX(b0 b1 b2:Nat)(ba:Option Nat)(n:Nat)(put:BS)(cut:Int)(rows:List (List V)):List (Nat×Ob):=
 [(0,⟨some b0,9,1,[[.str put]]⟩),(1,⟨some b1,30,1,[[.own 1000000 ba 3 n]]⟩),(2,⟨some b2,3,1,[[.int .i64 cut]]⟩),(1000000,⟨ba,115,3,rows⟩)]
def Ic:AC:=.seq (qr [ql 3 0,qo 4 (.bin .neq (.t 3) (.c qe))] (qu 4 (qR [ql 5 1,ql 6 0,qo 7 (.build uk [(0,1,qk 2),(2,1,(.t 6))]),qo 8 (.bslice 115 3 [.t 7]),qo 9 (.append 115 3 32 (.t 5) (.t 8)),qs 1 1 9]) .skip)) (qq (qr [ql 10 2,qc 11 .gtr 10 0] (qu 11 (qR [ql 12 1,ql 13 2,qo 14 (.build uk [(0,1,qk 3),(1,1,(.t 13))]),qo 15 (.bslice 115 3 [.t 14]),qo 16 (.append 115 3 32 (.t 12) (.t 15)),qs 1 1 16]) .skip)) (qR [⟨none,none,.store 1 (.t 0) (.c qe)⟩,⟨none,none,.store 1 (.t 2) (qk 0)⟩]))
theorem QA:fF Tryz.prog 149 Tryz.f149 Ic [] 3 er:=⟨Tryz.func149,by decide+kernel,by kernel_rfl,by kernel_rfl,by decide+kernel⟩
theorem QB(P:Prim)(hP:P=dn)(T e:c8)(b0 b1 b2:Nat)(ba:Option Nat)(n:Nat)(put:BS)(cut:Int)(rows:List (List V))(m:Mk)(hn:n=m.out.length)(ds:rows=m.out.map bd)(a:put=m.put)(b:cut=m.cut)(rB:m.out.length<=10000000)
  (R:S->Prop)(c:∀(s s':S)(d:Option Nat)(n2:Nat)(ij:List (List V)),c6 s s'->fG (rX b0 b1 b2 d n2 [] 0 ij) s'->n2=m.flush.length/\ij=m.flush.map bd->R s):
  gj P T e Ic (S0 [.ptr 0 (some b0) 1 0 0,.ptr 1 (some b1) 1 0 0,.ptr 2 (some b2) 1 0 0] (cp (rX b0 b1 b2 ba n put cut rows))) R (λ_ _=>False) R:=by
 cbv
 repeat'(first|(intro β;cbv)|(refine And.intro (by assumption) ?_;cbv)|(refine ab (λh=>?_) (λh=>?_)<;>try cbv)|(refine Exists.intro _ (And.intro (by assumption) ?_);cbv)|(refine hc1 _ _ ?_;cbv)|(refine f _ _ ?_;cbv)|(refine g _ _ ?_;cbv)|(refine i _ _ ?_;cbv)|(refine j _ _ ?_;cbv)|(refine k _ _ ?_;cbv)|(refine And.intro (by(clear c;subst hP;simp[dn,jx,nc] at* <;>first|omega|grind)) ?_;cbv))
 all_goals
  refine c _ _ _ _ _ (c6.refl _) ⟨rfl,rfl,rfl,rfl,trivial⟩ ?_;clear c;subst hP;subst hn ds a b;simp[dn,nc,Mk.flush] at*
  try simp[*]
  try exact⟨rfl,rfl⟩
  try rfl
theorem Dt{b0 b1 b2:Nat}{ba:Option Nat}{n:Nat}{put:BS}{cut:Int}{d:List Part}:∀p∈rX b0 b1 b2 ba n put cut (d.map bd),p.2.Fz:=by
 intro p hp;simp only[rX,aw,aD,bw] at hp
 rcases hp with rfl|rfl|rfl|rfl
 ·intro r hr v hv;simp at hr;subst hr;simp at hv;subst hv;exact .str _
 ·intro r hr v hv;simp at hr;subst hr;simp at hv;subst hv;exact .own _ _ _ _
 ·intro r hr v hv;simp at hr;subst hr;simp at hv;subst hv;exact .int _ _
 ·exact gI d
theorem QC(b0 b1 b2:Nat)(ba:Option Nat)(m:Mk)(rB:m.out.length<=10000000):
  Spec Tryz.prog 149 [.ptr 0 (some b0) 1 0 0,.ptr 1 (some b1) 1 0 0,.ptr 2 (some b2) 1 0 0] (cp (rX b0 b1 b2 ba m.out.length m.put m.cut (m.out.map bd)))
   (λv h'=>∃b,(v=.tup []/\∃a,b=rX b0 b1 b2 a m.flush.length [] 0 (m.flush.map bd))/\h'=cp b):=
 fu iD QA (λv b=>v=.tup []/\∃a,b=rX b0 b1 b2 a m.flush.length [] 0 (m.flush.map bd)) λR c=>QB dn rfl _ _ b0 b1 b2 ba _ _ _ _ m rfl rfl rfl rfl rB R λs s' a n2 ij he ha h2=>by
  obtain⟨rfl,rfl⟩:=h2;exact c s s' (.tup []) _ he rfl ha (.tup _ (by simp)) Dt ⟨rfl,a,rfl⟩
def Du(T:c8):Prop:=∀(b3 c d:Nat)(ba:Option Nat)(n:Nat)(put:BS)(cut:Int)(rows:List (List V))(m:Mk)(h:Hp)(K:V->Hp->Prop),n=m.out.length/\rows=m.out.map bd/\put=m.put/\cut=m.cut->m.out.length<=10000000->
 h 4=some ⟨some c,9,1,[[.str put]]⟩->h 3=some ⟨some b3,30,1,[[.own 1000057 ba 3 n]]⟩->h 5=some ⟨some d,3,1,[[qI cut]]⟩->h 1000057=some ⟨ba,115,3,rows⟩->
 (∀(b:Option Nat)(n':Nat)(a:List (List V)),n'=m.flush.length/\a=m.flush.map bd->K (.tup []) (Hp.put (Hp.put (Hp.put (Hp.put h 4 ⟨some c,9,1,[[.str []]]⟩) 3 ⟨some b3,30,1,[[.own 1000057 b 3 n']]⟩) 5 ⟨some d,3,1,[[qI 0]]⟩) 1000057 ⟨b,115,3,a⟩))->
 T 149 [.ptr 4 (some c) 1 0 0,.ptr 3 (some b3) 1 0 0,.ptr 5 (some d) 1 0 0] h K
theorem MI:Du (fm Tryz.prog):=by
 rintro b3 b c ba n put cut rows m h K ⟨rfl,rfl,rfl,rfl⟩ rB h4 h3 h5 ha hK;refine mA (QC b b3 c ba m rB) (m:=[(0,4),(1,3),(2,5),(1000000,1000057)]) (.cons (.same _) (.cons (.same _) (.cons (.same _) .nil))) (λj o hj=>?_) (λq hq=>?_) ?_
 ·simp only[rX,cp] at hj
  split at hj
  ·rename_i h0;exact⟨(0,4),by simp,h0.symm⟩
  split at hj
  ·rename_i h0;exact⟨(1,3),by simp,h0.symm⟩
  split at hj
  ·rename_i h0;exact⟨(2,5),by simp,h0.symm⟩
  split at hj
  ·rename_i h0;exact⟨(1000000,1000057),by simp,h0.symm⟩
  ·cases hj
 ·simp only[aw,aD,bw] at hq
  rcases hq with rfl|rfl|rfl|rfl
  all_goals refine⟨by simp[gD],by simp[gW],λo ho=>⟨?_,Dt (b0:=b) (b1:=b3) (b2:=c) (ba:=ba) (n:=m.out.length) (put:=m.put) (cut:=m.cut) (d:=m.out) (_,o) (kM ho)⟩⟩
  all_goals simp[rX,cp] at ho;subst ho
  ·rw[h4];rfl
  ·rw[h3];rfl
  ·rw[h5];rfl
  ·rw[ha];simp only[aE,Ob.gM,p7]
 ·rintro v f ⟨rfl,a,rfl⟩;have e:h.gy [(0,4),(1,3),(2,5),(1000000,1000057)] (cp (rX b b3 c a m.flush.length [] 0 (m.flush.map bd)))=Hp.put (Hp.put (Hp.put (Hp.put h 4 ⟨some b,9,1,[[.str []]]⟩) 3 ⟨some b3,30,1,[[.own 1000057 a 3 m.flush.length]]⟩) 5 ⟨some c,3,1,[[qI 0]]⟩) 1000057 ⟨a,115,3,m.flush.map bd⟩:=by
   funext i
   by_cases h1:i=1000057
   ·subst h1;simp[Hp.gy,Hp.put,gW,rX,cp];simp only[Ob.gM,p7]
   by_cases h2:i=5
   ·subst h2;simp[Hp.gy,Hp.put,gW,rX,cp,Ob.gM,V.rl]
   by_cases h3:i=3
   ·subst h3;simp[Hp.gy,Hp.put,gW,rX,cp,Ob.gM,V.rl,gD]
   by_cases h4:i=4
   ·subst h4;simp[Hp.gy,Hp.put,gW,rX,cp,Ob.gM,V.rl]
   have g1:¬1000057=i:=λe=>h1 e.symm;have g2:¬5=i:=λe=>h2 e.symm;have g3:¬3=i:=λe=>h3 e.symm;have g4:¬4=i:=λe=>h4 e.symm;simp[Hp.gy,Hp.put,h1,h2,h3,h4,g1,g2,g3,g4]
  rw[e];exact hK a _ _ ⟨rfl,rfl⟩
structure YR(ps:List BS)(ks:List Bool) where
 k:Int
 m:Mk
 n:Nat
 put:BS
 cut:Int
 rows:List (List V)
 ba:Option Nat
 ug:List BS
 qY:List BS
 B2:List Bool
 nQ:List Bool
 h1:ps=ug++qY
 h2:ks=B2++nQ
 hl:ug.length=B2.length
 hk:k=ug.length
 hm:n=m.out.length/\rows=m.out.map bd/\put=m.put/\cut=m.cut
 mF:l8 Mk.new ps ks=l8 m qY nQ
 rB:m.Bd ug.length ug.flatten.length
def Pp:AC:=qr [qo 1 (.box 139 2 (.t 0)),qo 2 (.mov (.c (.slice none 0 0)))] (qr [qo 3 (.alloc 30 [(.slice none 0 0)])] (qr [qo 4 (.alloc 9 [qe]),qo 5 (.alloc 3 [q0]),⟨none,none,.store 1 (.t 4) (.c qe)⟩,⟨none,none,.store 1 (.t 5) (qk 0)⟩] (qr [qo 10 (.mkfn 149 [.t 4,.t 3,.t 5]),qm 6 10] (qq (qr [qf 11 1 1,ql 12 11,qo 13 (.len false (.t 12)),qz 14 0] (.block 0 (.loop (qr [qb 15 .lss 14 13] (qq (qu 15 .skip (.exit 0)) (qq (.block 1 (qr [qm 16 14,qo 17 (.iaddr 1 (.t 12) (.t 14)),ql 18 17,qm 7 16,qm 8 18] (qq (.region true [ql 19 4,qf 20 0 1,ql 21 20,qm 22 7,qo 23 (.iaddr 1 (.t 21) (.t 22)),ql 24 23,qb 25 .add 19 24,qs 1 4 25]) (qq (qr [qm 26 8,qo 27 (.not (.t 26))] (qu 27 (qr [ql 28 5,qc 29 .add 28 1,qs 1 5 29] (.exit 1)) .skip)) (qr [qm 30 6,qo 31 (.callv (.t 30) [])] (qr [ql 32 3,qo 33 (.len false (.t 32)),qm 9 33] (qr [qm 34 9,qc 35 .gtr 34 0,qm 36 35,qg 37 36 true (.load1 (.t 3)),qg 38 36 true (.mov (.t 9)),qg 39 36 true (.bin .sub (.t 38) (qk 1)),qg 40 36 true (.iaddr 3 (.t 37) (.t 39)),qg 41 36 true (.faddr 0 (.t 40)),qg 42 36 true (.load1 (.t 41)),qg 43 36 true (.bin .eql (.t 42) (qk 1)),qo 44 (.pick (.t 36) (.t 43) (.c (.bool false)))] (qu 44 (qR [ql 45 3,qm 46 9,qc 47 .sub 46 1,qo 48 (.iaddr 3 (.t 45) (.t 47)),qf 49 1 48,ql 50 49,qc 51 .add 50 1,qo 52 (.iaddr 3 (.t 45) (.t 47)),qf 53 1 52,qs 1 53 51]) (qR [ql 54 3,qo 55 (.build uk [(0,1,qk 1),(1,1,qk 1)]),qo 56 (.bslice 115 3 [.t 55]),qo 57 (.append 115 3 32 (.t 54) (.t 56)),qs 1 3 57]))))))))) (qR [qc 58 .add 14 1,qm 14 58]))))))) (qq (.region true [ql 59 4,qf 60 0 1,ql 61 60,qf 62 1 1,ql 63 62,qo 64 (.len false (.t 63)),qo 65 (.iaddr 1 (.t 61) (.t 64)),ql 66 65,qb 67 .add 59 66,qs 1 4 67]) (qr [qm 68 6,qo 69 (.callv (.t 68) [])] (qr [ql 70 3,qm 2 70] .ret)))))))
theorem Ts:fF Tryz.prog 132 Tryz.f132 Pp [.t 2] 1 er:=⟨Tryz.func132,by decide+kernel,by kernel_rfl,by kernel_rfl,by decide+kernel⟩
theorem Tt(P:Prim)(hP:P=dn)(T T1:c8)(ps:List BS)(ks:List Bool)(hlen:ps.length=ks.length+1)(hb1:ks.length<=1000000)(hb2:ps.flatten.length<=1000000000)(pr kr:List (List V))(Fp:pr=c7 ps)(yK:kr=gP ks)(a:Du T)
  (R:S->Prop)(d:∀(s s':S)(v:Option Nat)(n2:Nat)(ij:List (List V)),c6 s s'->iH [.t 2] [.own 1000057 v 3 n2] s'->s'.h 1000057=some ⟨v,115,3,ij⟩->n2=(l8 Mk.new ps ks).flush.length/\ij=(l8 Mk.new ps ks).flush.map bd->R s):
  gj P T T1 Pp (S0 [.agg [.sl true 1 pr,.sl true 1 kr]] Hp.emp) R (λ_ _=>False) R:=by
 have z:P.dv kr=ks.length:=by subst hP;simp[dn,yK,gP]
 cbv;intro E;cbv;intro A;cbv;intro B;cbv;intro C;cbv;refine⟨YR ps ks,λy=>[(1,.ptr 1 (some E) 2 0 0),(3,.ptr 3 (some A) 1 0 0),(4,.ptr 4 (some B) 1 0 0),(5,.ptr 5 (some C) 1 0 0),(6,.fn 149 [.ptr 4 (some B) 1 0 0,.ptr 3 (some A) 1 0 0,.ptr 5 (some C) 1 0 0]),(12,.sl true 1 kr),(13,qI (P.dv kr)),(14,qI y.k)],
  λy=>[(1,⟨some E,139,2,[[.sl true 1 pr,.sl true 1 kr]]⟩),(4,⟨some B,9,1,[[.str y.put]]⟩),(3,⟨some A,30,1,[[.own 1000057 y.ba 3 y.n]]⟩),(5,⟨some C,3,1,[[qI y.cut]]⟩),(1000057,⟨y.ba,115,3,y.rows⟩)],λy=>y.nQ.length,
  ⟨_,c6.mK (k:=3) (k':=1000057) (ty:=115) (sz:=3) (r:=0) (c:=0) rfl rfl rfl rfl,⟨0,Mk.new,_,_,_,_,_,[],ps,[],ks,rfl,rfl,rfl,rfl,⟨rfl,rfl,rfl,rfl⟩,rfl,Mk.x5⟩,⟨rfl,rfl,rfl,rfl,rfl,rfl,rfl,rfl,trivial⟩,⟨rfl,rfl,rfl,rfl,rfl,trivial⟩⟩,?_⟩
 rintro⟨k,m,n,put,cut,rows,ba,ug,qY,B2,nQ,h1,h2,hl,hk,hm,mF,rB⟩;have mU:qY.length=nQ.length+1:=by rw[h1,h2] at hlen;simp at hlen;omega
 have hpl:ug.length+nQ.length<=1000000:=by rw[h2] at hb1;simp at hb1;omega
 rcases qY with _|⟨p,qY⟩
 ·simp at mU
 have Pn:ug.flatten.length+p.length<=1000000000:=by rw[h1] at hb2;simp at hb2⊢;omega
 have F:P.dv kr=B2.length+nQ.length:=by rw[z,h2];simp
 have b:P.row pr (P.nat k) [.str p]:=by subst hP;simp[dn,Fp,hk,c7,h1]
 have i:=(rB.iK p);have Q:=rB.put;obtain⟨zA,tD,w,x⟩:=hm;have l:P.i64 (P.add (P.c9 put) (P.c9 p)):=by clear d a;subst hP;simp only[dn,jx,w];omega
 have j:P.fC 0 k:=by clear d a;subst hP;simp only[dn];omega
 have u:P.i64 (P.add k 1):=by clear d a;subst hP;simp only[dn,jx];omega
 cbv;refine ab (λh=>?_) (λh=>?_)
 ·rcases nQ with _|⟨U,nQ⟩
  ·clear a;(exfalso;clear d;subst hP;simp[dn,nc] at*;first|omega|grind)
  have f:P.row kr (P.nat k) [.bool U]:=by subst hP;simp[dn,yK,hk,gP,h2,hl]
  cbv;refine⟨j,_,f,?_⟩;cbv;refine⟨j,_,b,?_⟩;cbv;refine⟨l,?_⟩;cases U
  ·
   have q:=i.jE 1 qW;have hcc:=rB.cut;have W:P.i64 (P.add cut 1):=by clear d a;subst hP;simp only[dn,jx,x];omega
   cbv
   repeat'(first|(intro β;cbv)|(refine And.intro (by assumption) ?_;cbv)|(refine ab (λh=>?_) (λh=>?_)<;>try cbv)|(refine Exists.intro _ (And.intro (by assumption) ?_);cbv)|(refine hc1 _ _ ?_;cbv)|(refine G _ _ ?_;cbv)|(refine H _ _ ?_;cbv)|(refine I _ _ ?_;cbv)|(refine J _ _ ?_;cbv)|(refine K _ _ ?_;cbv)|(refine And.intro (by(clear d;subst hP;simp[dn,jx,nc] at* <;>first|omega|grind)) ?_;cbv))
   all_goals
    refine⟨_,c6.refl _,⟨_,(m.iK p).jE 1,_,_,_,_,_,ug++[p],qY,B2++[false],nQ,by simp[h1],by simp[h2],by simp[hl],?_,?_,?_,?_⟩,⟨rfl,rfl,rfl,rfl,rfl,rfl,rfl,rfl,trivial⟩,⟨rfl,rfl,rfl,rfl,rfl,trivial⟩,by simp⟩
   all_goals(clear d a l j u W b f;subst hP)
   ·simp[dn,hk]
   ·exact⟨zA,tD,by simp[dn,Mk.jE,Mk.iK,w],by simp[dn,Mk.jE,Mk.iK,x]⟩
   ·rw[mF];simp[l8]
   ·simpa using q
  ·
   have q:=i.gv 1 qW;obtain⟨YS,X⟩:=i.flush;have D:=i.len;cbv;refine a _ _ _ _ _ _ _ _ (m.iK p) _ _ ⟨zA,tD,?_,x⟩ qW rfl rfl rfl rfl λv n' o g=>?_
   ·clear d a l j u b f;subst hP;simp[dn,Mk.iK,w]
   obtain⟨g,e⟩:=g;cbv;have L:P.bytes (P.add (P.int n') (P.dv [[qI 1,qI 1,.str []]])) 32:=by clear d a;subst hP;simp[dn];omega
   have M:P.nL o n':=by clear d a;subst hP;simp[dn,g,e]
   rcases dL (m.iK p).flush with hf|⟨pre,⟨qk,qn,qt⟩,hf⟩
   ·refine ab (λh=>?_) (λh=>?_)
    ·exfalso;clear d a;subst hP;rw[hf] at g;simp[dn,g] at h
    cbv
    repeat'(first|(intro β;cbv)|(refine And.intro (by assumption) ?_;cbv)|(refine ab (λh=>?_) (λh=>?_)<;>try cbv)|(refine Exists.intro _ (And.intro (by assumption) ?_);cbv)|(refine hc1 _ _ ?_;cbv)|(refine G _ _ ?_;cbv)|(refine H _ _ ?_;cbv)|(refine I _ _ ?_;cbv)|(refine J _ _ ?_;cbv)|(refine K _ _ ?_;cbv)|(refine And.intro (by(clear d;subst hP;simp[dn,jx,nc] at* <;>first|omega|grind)) ?_;cbv))
    all_goals
     refine⟨_,c6.refl _,⟨_,(m.iK p).gv 1,_,_,_,_,_,ug++[p],qY,B2++[true],nQ,by simp[h1],by simp[h2],by simp[hl],?_,?_,?_,?_⟩,⟨rfl,rfl,rfl,rfl,rfl,rfl,rfl,rfl,trivial⟩,⟨rfl,rfl,rfl,rfl,rfl,trivial⟩,by simp⟩
    all_goals(clear d a l j u b f L M;subst hP)
    ·simp[dn,hk]
    ·simp[dn,g,e,Mk.gv,hf,kk,bd]
    ·rw[mF];simp[l8]
    ·simpa using q
   ·rw[dM] at hf;have hq:=X ⟨qk,qn,qt⟩ (by rw[hf];simp);have Vf:qn<=(ug.length:Int):=hq.2;have YT:0<=qn:=hq.1;have B0:n'=pre.length+1:=by rw[g,hf];simp
    have N:P.row o (P.nat (P.sub (P.int n') 1)) [qI qk,qI qn,.str qt]:=by clear d a;subst hP;rw[e,B0,hf];simp[dn,bd]
    have Y:P.i64 (P.sub (P.int n') 1):=by clear d a;subst hP;simp only[dn,jx];omega
    have Z:P.fC 0 (P.sub (P.int n') 1):=by clear d a;subst hP;simp only[dn];omega
    have YU:P.iO (P.sub (P.int n') 1) (P.int n'):=by clear d a;subst hP;simp only[dn];omega
    have YV:P.i64 (P.add qn 1):=by clear d a;subst hP;simp only[dn,jx];omega
    refine ab (λh=>?_) (λh=>?_)
    rotate_left
    ·exfalso;clear d a;subst hP;simp[dn,B0] at h
    cbv
    repeat'(first|(intro β;cbv)|(refine And.intro (by assumption) ?_;cbv)|(refine ab (λh=>?_) (λh=>?_)<;>try cbv)|(refine Exists.intro _ (And.intro (by assumption) ?_);cbv)|(refine hc1 _ _ ?_;cbv)|(refine G _ _ ?_;cbv)|(refine H _ _ ?_;cbv)|(refine I _ _ ?_;cbv)|(refine J _ _ ?_;cbv)|(refine K _ _ ?_;cbv)|(refine And.intro (by(clear d;subst hP;simp[dn,jx,nc] at* <;>first|omega|grind)) ?_;cbv))
    all_goals
     refine⟨_,c6.refl _,⟨_,(m.iK p).gv 1,_,_,_,_,_,ug++[p],qY,B2++[true],nQ,by simp[h1],by simp[h2],by simp[hl],?_,?_,?_,?_⟩,⟨rfl,rfl,rfl,rfl,rfl,rfl,rfl,rfl,trivial⟩,⟨rfl,rfl,rfl,rfl,rfl,trivial⟩,by simp⟩
    all_goals(clear d a l j u b f L M Y Z YU YV N;subst hP)
    any_goals(simp[dn,hk];done)
    any_goals(rw[mF];simp[l8];done)
    any_goals(simpa using q)
    all_goals(simp[dn] at*;simp[g,e,B0,Mk.gv,hf,kk,bd, *])
 ·rcases nQ with _|⟨U,nQ⟩
  rotate_left
  ·clear a;(exfalso;clear d;subst hP;simp[dn,nc] at*;first|omega|grind)
  have MJ:qY=[]:=by simpa using mU
  subst MJ;have O:l8 Mk.new ps ks=m.iK p:=by rw[mF];rfl
  have hk2:k=P.dv kr:=by rw[F,hk,hl];simp
  subst hk2;have D:=i.len;cbv;refine⟨j,_,b,?_⟩;cbv;refine⟨l,?_⟩;refine a _ _ _ _ _ _ _ _ (m.iK p) _ _ ⟨zA,tD,?_,x⟩ qW rfl rfl rfl rfl λv n' o g=>?_
  ·clear d a l j u b;subst hP;simp[dn,Mk.iK,w]
  cbv;exact d _ _ _ _ _ (c6.refl _) rfl rfl (by rw[O];exact g)
def VV(ps:List BS)(ks:List Bool):List Part:=(l8 Mk.new ps ks).flush
theorem Tu(ps:List BS)(ks:List Bool)(hlen:ps.length=ks.length+1)(hb1:ks.length<=1000000)(hb2:ps.flatten.length<=1000000000):Spec Tryz.prog 132 [.agg [.sl true 1 (c7 ps),.sl true 1 (gP ks)]] Hp.emp (Is (gh (VV ps ks))):=
 jq iD Ts λR a=>Tt dn rfl _ _ ps ks hlen hb1 hb2 _ _ rfl rfl MI R λs s' b n2 ij he hr h1 h2=>a s s' he (by
  obtain⟨rfl,rfl⟩:=h2;refine eM _ _ _ (λx hx=>?_) hr;subst hx;exact .rows h1 rfl rfl (by simp) (λr hr=>by obtain⟨p,_,rfl⟩:=aC.1 hr;rfl) (gI _))
end Go.Proofs.YtobngncjflogcaaGreat.AM
