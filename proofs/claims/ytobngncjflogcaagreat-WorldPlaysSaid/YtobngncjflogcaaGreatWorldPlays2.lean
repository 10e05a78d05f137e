/-
  Part 2 of what the law WorldPlays reaches: the plain machine, contracts of the functions and plain laws; each lemma says its own condition.
-/
import Derived.Test.YtobngncjflogcaaGreatWorldPlays1
import Derived.ChangeKeysEq
import Derived.Laws.IdiomStrings
set_option linter.unusedVariables false
set_option linter.unusedSimpArgs false
namespace Go.Proofs.YtobngncjflogcaaGreat.AM
open Go
open Go.BigFrame
section
variable {P:Program} {C:Ctx} {F:Nat->Prop} {w w':World} {a:Act} {s:S} {h:Hp} {K:V->Hp->Prop} {Q:Exit->Act->World->Prop} {o:Oper}
theorem LP{e:TypeId}{i:TypeInfo}{z:List Value}(hi:P.info? e=some i)(hz:mc P e=some z):∃b:Value,i.zero=some b/\b.cells.toList=z:=by
 simp only[mc,hi,Option.bind_some,au] at hz;exact hz
theorem jr{T e ty:TypeId}{i:TypeInfo}(hd:P.underlying T=some (.slice e))(hi:P.info? e=some i)(b:Option Addr)(n cap:Nat)(q:Option Addr)(c:Nat)(hn:n<=cap):
  (Builtin.append_ #[T,T] ty #[.slice b n cap,.slice q 0 c]).run P w=.ok (.slice b n cap) w:=by
 have hf:(Builtin.firstCells i.size 0 (.slice q 0 c)).run P w=.ok #[] w:=by
  cases q<;>simp[Builtin.firstCells,Sem.run_pure,loadCells,loadCellsFrom]
 cases b<;>simp[Builtin.append_,Sem.run_bind,Sem.run_pure,run_underlying hd,sizeOf,typeInfo,hi,Builtin.lenOf,hn,hf,storeCells]
theorem kC{c:Call}{x y:Operand}{T:TypeId}{u:Value}(ho:o.op=.call c)(hb:c.callee=.builtin .append)(hx:c.args= #[x,y])(b:c.argTypes= #[T,T])
  (hr:∀ty,(Builtin.append_ #[T,T] ty #[a.eval x,a.eval y]).run P w=.ok u w'):(execOp a.eval o).run P w=.ok (.value u) w':=by
 obtain⟨callee,args,d⟩:=c;cases hb;cases hx;cases b;unfold execOp;rw[ho];simp only[resolve,Sem.run_bind,Sem.run_pure,Result.andThen_ok,invoke,builtin_append,ej,aL,cJ,hr]
theorem wT{m n b:Nat}(h:((m:Int)+n)*b<=140737488355328):(m+n)*b<=140737488355328:=by
 have e:(((m+n)*b:Nat):Int)=((m:Int)+n)*b:=by rw[eB,dN]
 omega
theorem LQ(z:Array Value)(n:Nat):(Builtin.zeroCells z n).size=n*z.size:=by simp[Builtin.zeroCells]
theorem Rel.Gk{F B:Nat->Prop}{w:World}{k b sz n:Nat}{u:Value}(h:Rel F B w (.own k (some b) sz n) u):Rel F B w (.win k (some b) sz 0 n) u:=by
 cases h with
 |own _ _ _ _ cap c e fr h hs hm hn=>
  have:=Rel.win (F:=F) (B:=B) (w:=w) k b sz cap 0 n c e fr h (by simpa using hs) (by simpa using hm) (by simpa using hn) (bf _) (aT _);simpa using this
theorem sW(t ty e:TypeId)(i:TypeInfo)(ht:P.underlying t=some (.slice e))(hi:P.info? e=some i)
  (g off b d:Nat)(cur:Array Value)(hg:w.heap[g]? =some (.cells cur e (0,0)))
  (a:Addr)(m c:Nat)(news:List Value)(hl:news.length=m*i.size)(f:∀j u,news[j]? =some u->w.cell? (a.add j)=some u)(h1:∀u∈news,u.oneCell'=true)
  (k:b+m<=d)(l:off+b*i.size+news.length<=cur.size):
  (Builtin.append_ #[t,t] ty #[.slice (some ⟨g,off,none⟩) b d,.slice (some a) m c]).run P w=
   .ok (.slice (some ⟨g,off,none⟩) (b+m) d) (w.setRow g (cur.toList.take (off+b*i.size)++news++cur.toList.drop (off+b*i.size+news.length)).toArray):=by
 have hf:=run_firstCells_some (P:=P) w i.size m a m c news hl f;have n:=run_storeCells_at P g (off+b*i.size) e news 0 cur w hg (by simpa using l) h1;simp only[bP] at n;simp[Builtin.append_,run_underlying ht,sizeOf,typeInfo,hi,Builtin.lenOf,k,hf,Addr.add_lit,n]
theorem Bk(Y:C.Ok){c:Call}{x y:Operand}{T e k:TypeId}{i:TypeInfo}{z:List Value}{vx vy:V}(ho:o.op=.call c)(hb:c.callee=.builtin .append)(hx:c.args= #[x,y])(hT:c.argTypes= #[T,T])
  (hd:P.underlying T=some (.slice e))(hi:P.info? e=some i)(hz:mc P e=some z)(hsz:i.size=z.length)(SB:0<z.length)(Vn:0<i.bytes)(hs:gg C F h w)
  (h1:Rel F C.B w vx (a.eval x))(h2:Rel F C.B w vy (a.eval y))(hK:qY h k e i.size i.bytes vx vy K):o.wp P a w (fO C F w a o.dst K) Q:=by
 obtain⟨zv,Z,Xi⟩:=LP hi hz;have Xj:zv.cells.size=i.size:=by rw[hsz,<-Xi];simp
 unfold qY at hK;cases PL:rowsOf h i.size vy with
 |none=>rw[PL] at hK;exact hK.elim
 |some news=>
  rw[PL] at hK;simp only[] at hK;have UK:=sV hs h2 PL
  generalize hex:a.eval x=ux at h1
  generalize M:a.eval y=uy at UK
  by_cases UL:news=[]
  ·subst UL;have Xk:∃q c,uy=.slice q 0 c:=by
    rcases UK with⟨_,rfl⟩|⟨ad,cap,us,rfl,_⟩
    ·exact⟨none,0,rfl⟩
    ·exact⟨some ad,cap,rfl⟩
   obtain⟨q,cq,rfl⟩:=Xk;cases h1 with
   |nilsl=>
    obtain⟨hk,_,hK⟩:=hK;refine kl Y (k:=k) (u:=.slice none 0 0) (w':=w) (L:=λ_=>False) hs (kC ho hb hx hT λty=>?_) (Ev.refl _ _) (λ_ _ h=>h.elim) (.ownnil k i.size) (show fy F C.B w ⟨none,e,i.size,[]⟩ from rfl) (λb hb=>by cases hb) (hK none);rw[hex,M];exact jr hd hi none 0 0 q cq (ag _)
   |ownnil j sz'=>
    simp only[] at hK;cases hj:h j with
    |none=>rw[hj] at hK;exact hK.elim
    |some ob=>
     rw[hj] at hK;obtain⟨e1,e2,e3,e4,e5,_,hK⟩:=hK;subst e3;have hK:=hK none;have ko:ob.rows=[]:=aq e5;rw[ko] at hK;refine kl Y (k:=j) (u:=.slice none 0 0) (w':=w) (L:=λ_=>False) hs (kC ho hb hx hT λty=>?_) (Ev.refl _ _) (λ_ _ h=>h.elim) (.ownnil j i.size) (show fy F C.B w ⟨none,e,i.size,[]⟩ from rfl) (λb hb=>by cases hb) hK;rw[hex,M];exact jr hd hi none 0 0 q cq (ag _)
   |own j b sz' n cap cc ee fr J N hm hn=>
    simp only[] at hK;cases hj:h j with
    |none=>rw[hj] at hK;exact hK.elim
    |some ob=>
     rw[hj] at hK;obtain⟨e1,e2,e3,e4,e5,_,hK⟩:=hK;subst e3;have hK:=hK (some b);simp only[aJ,aK,bP] at hK;have O:ob=⟨some b,e,i.size,ob.rows⟩:=by cases ob;simp at e1 e2 e4⊢;exact⟨e1,e4,e2⟩
     refine kl Y (k:=j) (u:=.slice (some ⟨b,0,none⟩) n cap) (w':=w) (L:=λ_=>False) hs (kC ho hb hx hT λty=>?_) (Ev.refl _ _) (λ_ _ h=>h.elim) (.own j b i.size n cap cc ee fr J N hm hn) (by rw[<-O];exact hs.ob j ob hj) (λb' A=>.inr ⟨ob,hj,by rw[e1];exact A⟩) hK;rw[hex,M];exact jr hd hi _ n cap q cq hn
   |winemp j b sz' lo ad=>
    simp only[] at hK;cases hj:h j with
    |none=>rw[hj] at hK;exact hK.elim
    |some ob=>
     rw[hj] at hK;obtain⟨e1,e2,e3,e4,_,e6,_,hK⟩:=hK;subst e3;have hK:=hK b ob.rows (.inl rfl);simp only[aJ,aK,Int.ofNat_zero,dy,e6] at hK;have O:ob=⟨b,e,i.size,ob.rows⟩:=by cases ob;simp at e1 e2 e4⊢;exact⟨e1,e4,e2⟩
     refine kl Y (k:=j) (u:=.slice ad 0 0) (w':=w) (L:=λ_=>False) hs (kC ho hb hx hT λty=>?_) (Ev.refl _ _) (λ_ _ h=>h.elim) (.winemp j b i.size lo ad) (by rw[<-O];exact hs.ob j ob hj) (λb' A=>.inr ⟨ob,hj,by rw[e1];exact A⟩) hK;rw[hex,M];exact jr hd hi _ 0 0 q cq (ag _)
   |win j b sz' cap lo hi' cc ee fr J N hm hn Wl OM=>
    simp only[] at hK;cases hj:h j with
    |none=>rw[hj] at hK;exact hK.elim
    |some ob=>
     rw[hj] at hK;obtain⟨e1,e2,e3,e4,e5,e6,_,hK⟩:=hK;subst e3 e5;have hK:=hK (some b) ob.rows (.inl rfl);simp only[aJ,aK,Int.ofNat_zero,dy,e6] at hK;have O:ob=⟨some b,e,i.size,ob.rows⟩:=by cases ob;simp at e1 e2 e4⊢;exact⟨e1,e4,e2⟩
     refine kl Y (k:=j) (u:=.slice (some ⟨b,lo.toNat*i.size,none⟩) (lo-lo).toNat cap) (w':=w) (L:=λ_=>False) hs (kC ho hb hx hT λty=>?_) (Ev.refl _ _) (λ_ _ h=>h.elim) (.win j b i.size cap lo lo cc ee fr J N hm hn Wl OM) (by rw[<-O];exact hs.ob j ob hj) (λb' A=>.inr ⟨ob,hj,by rw[e1];exact A⟩) hK;rw[hex,M];exact jr hd hi _ _ cap q cq hn
   |_=>exact hK.elim
  ·have Wm:0<news.length:=dQ.2 UL
   rcases UK with⟨h0,_⟩|⟨ad,t,us,rfl,d,D⟩
   ·exact absurd h0 UL
   have fresh:∀(vv:V)(j:Nat)(jq:List (List V))(p:List Value)(f:Nat),(∀F' w' u,Rel F' C.B w' (.own j (some w.heap.size) i.size (jq.length+news.length)) u->Rel F' C.B w' vv u)->Flat F C.B w i.size jq p->f<jq.length+news.length->((jq.length:Int)+news.length)*i.bytes<=140737488355328->
     (∀ty,(Builtin.append_ #[T,T] ty #[ux,.slice (some ad) news.length t]).run P w=.ok (.slice (some ⟨w.heap.size,0,none⟩) (jq.length+news.length) (grownCap w (jq.length+news.length) f e))
      (w.drew.alloc (.cells (p.toArray++us.toArray++Builtin.zeroCells zv.cells (grownCap w (jq.length+news.length) f e-(jq.length+news.length))) e)))->
     K vv (h.put j ⟨some w.heap.size,e,i.size,jq++news⟩)->o.wp P a w (fO C F w a o.dst K) Q:=by
    intro vv j jq p f Vo G hlt l jR hk;have W:=wT l
    have Xl:jq.length+news.length<=maxLen:=by
     have:=bG (dm (jq.length+news.length) Vn) W;simp only[maxLen];omega
    have Wn:=grownCap_ge w (jq.length+news.length) f e;have Wo:=grownCap_le_maxLen w (jq.length+news.length) f e Xl;have R:Ev (λ_=>False) w (w.drew.alloc (.cells (p.toArray++us.toArray++Builtin.zeroCells zv.cells (grownCap w (jq.length+news.length) f e-(jq.length+news.length))) e)):=(Ev.drew _ _).trans (Ev.alloc _ _ _);have U:=(G.append d).keep (λx y hr=>hs.keep Y R (λ_ _ h=>h.elim) hr);have r:(p.toArray++us.toArray++Builtin.zeroCells zv.cells (grownCap w (jq.length+news.length) f e-(jq.length+news.length))).size=grownCap w (jq.length+news.length) f e*i.size:=by
     simp only[Array.size_append,cQ,LQ,Xj,G.len,d.len,<-bN]
     congr 1
     omega
    have g:=heap_alloc_new w.drew (Obj.cells (p.toArray++us.toArray++Builtin.zeroCells zv.cells (grownCap w (jq.length+news.length) f e-(jq.length+news.length))) e);refine kl Y (k:=j) (L:=λ_=>False) hs (kC ho hb hx hT λty=>?_) R (λ_ _ h=>h.elim) (Vo _ _ _ (.own j w.heap.size i.size (jq.length+news.length) _ _ e (0,0) g r Wo Wn)) (fy.of_flat g r Wo (by rw[an];exact Wn) U λm u hu=>?_) (λb A=>.inl (by cases A;exact ag _)) hk
    ·rw[hex,M];exact jR ty
    ·have hlt:m<(p++us).length:=(ah.1 hu).1;rw[cl (by simpa using hlt)];simpa using hu
   have small:∀n:Nat,((n:Int)+news.length)*i.bytes<=140737488355328->((n+news.length:Nat):Int)<=9223372036854775807/\(n+news.length)*i.bytes<=140737488355328:=by
    intro n l
    have W:=wT l
    have:=bG (dm (n+news.length) Vn) W;exact⟨by clear l;omega,W⟩
   have SD:ux=.slice none 0 0->((0:Int)+news.length)*i.bytes<=140737488355328->∀j,K (.own j (some w.heap.size) i.size (0+news.length)) (h.put j ⟨some w.heap.size,e,i.size,[]++news⟩)->o.wp P a w (fO C F w a o.dst K) Q:=by
    intro hu l j hk;subst hu;obtain⟨s1,s2⟩:=small 0 (by simpa using l);refine fresh _ j [] [] 0 (λ_ _ _ h=>h) ⟨by simp,by simp,by simp,by simp⟩ (by simp only[aK];omega) l (λty=>?_) hk;have:=run_append_nil (P:=P) w T ty e i zv hd hi Z ad news.length t us d.len D Wm qW (by rw[aS] at s2;omega);simp only[aK,aS];simpa using this
   cases h1 with
   |nilsl=>
    obtain⟨hk,l,hK⟩:=hK;exact SD rfl (by simpa using l) k (by simpa using hK (some w.heap.size))
   |ownnil j sz'=>
    simp only[] at hK;cases hj:h j with
    |none=>rw[hj] at hK;exact hK.elim
    |some ob=>
     rw[hj] at hK;obtain⟨e1,e2,e3,e4,e5,l,hK⟩:=hK;subst e3;have ko:ob.rows=[]:=aq e5;have hK:=hK (some w.heap.size);rw[ko] at hK;exact SD rfl (by simpa using l) j hK
   |own j b sz' n cap cc ee fr J N hm hn=>
    simp only[] at hK;cases hj:h j with
    |none=>rw[hj] at hK;exact hK.elim
    |some ob=>
     rw[hj] at hK;obtain⟨e1,e2,e3,e4,e5,l,hK⟩:=hK;subst e3;obtain⟨s1,s2⟩:=small n l
     obtain⟨c',v,p,H,g1,g2,g3,G,I⟩:=Ct (C:=C) (hs.ob j ob hj) e1;rw[H] at J;cases J;rw[e2] at g1 G I;have lq:v=cap:=dW (by rw[hsz];exact SB) (g1.symm.trans N);subst lq;have PM:∀(m:Nat)(u:Value),p[m]? =some u->w.cell? ((⟨b,0,none⟩:Addr).add m)=some u:=by
      intro m u hu;rw[jB,aS,cell_of_row w b m cc ob.ty (0,0) H];rw[I,bn] at hu
      split at hu
      ·simpa using hu
      ·cases hu
     by_cases E:n+news.length<=v
     ·have X:n*i.size+us.length<=cc.size:=by rw[d.len,g1,<-bN];exact bh _ E
      have hr:=λty=>run_append_room (P:=P) w T ty e i hd hi b n v cc (by rw[H,e4]) ad news.length t us d.len D d.one E X;have r:((cc.toList.take (n*i.size)++us++cc.toList.drop (n*i.size+us.length)).toArray).size=cc.size:=by
       simp only[cQ,an,aZ,bA,bH];omega
      have R:Ev (λx=>x=b) w (w.setRow b (cc.toList.take (n*i.size)++us++cc.toList.drop (n*i.size+us.length)).toArray):=Ev.setRow rfl H r;have g:=setRow_heap w b cc (cc.toList.take (n*i.size)++us++cc.toList.drop (n*i.size+us.length)).toArray ob.ty (0,0) H;have U:=(G.append d).keep (λx y hr=>hs.keep Y R (λx _ hx=>⟨j,ob,hj,by rw[e1,hx]⟩) hr);rw[e4] at g;refine kl Y (k:=j) (L:=λx=>x=b) hs (kC ho hb hx hT λty=>?_) R (λx _ hx=>⟨ob,hj,by rw[e1,hx]⟩) (.own j b i.size (n+news.length) v _ e (0,0) g (by rw[r,g1]) g2 E)
       (fy.of_flat g (by rw[r,g1]) g2 (by rw[an,e5];exact E) U λm u hu=>?_) (λb' A=>.inr ⟨ob,hj,by rw[e1];exact A⟩) (hK (some b))
      ·rw[hex,M];exact hr ty
      ·have hlt:m<(p++us).length:=(ah.1 hu).1;have Vp:p=cc.toList.take (n*i.size):=by rw[I,e5]
       rw[Vp] at hu hlt;rw[eG,aW (by simpa using hlt)];exact hu
     ·refine fresh _ j ob.rows p v (λ_ _ _ h=>h) G qW (by rw[e5];exact l) (λty=>?_) (by rw[e5];exact hK (some w.heap.size));have:=run_append_grow (P:=P) w T ty e i zv hd hi Z ⟨b,0,none⟩ n v p (by rw[G.len,e5]) PM ad news.length t us d.len D qW qW (growslice_fits qW s2);rw[e5];exact this
   |winemp j b sz' lo Xm=>
    simp only[] at hK;cases hj:h j with
    |none=>rw[hj] at hK;exact hK.elim
    |some ob=>
     rw[hj] at hK;obtain⟨e1,e2,e3,e4,_,e6,l,hK⟩:=hK;subst e3;have hK:=hK (some w.heap.size) [] (.inr rfl);obtain⟨s1,s2⟩:=small 0 (by simpa using l);refine fresh (.win j (some w.heap.size) i.size ([]:List (List V)).length (([]:List (List V)).length+news.length)) j [] [] 0 (λF' w' u hr=>?_) ⟨by simp,by simp,by simp,by simp⟩ (by simp only[aK];omega) (by simpa using l) (λty=>?_) hK
     ·have:=hr.Gk;simpa using this
     ·cases Xm with
      |none=>
       have:=run_append_nil (P:=P) w T ty e i zv hd hi Z ad news.length t us d.len D Wm qW (by rw[aS] at s2;omega);simp only[aK,aS];simpa using this
      |some a0=>
       have:=run_append_grow (P:=P) w T ty e i zv hd hi Z a0 0 0 [] (by simp) (by simp) ad news.length t us d.len D qW qW (growslice_fits qW s2);simpa using this
   |win j b sz' cap lo hi' cc ee fr J N hm hn Wl OM=>
    simp only[] at hK;cases hj:h j with
    |none=>rw[hj] at hK;exact hK.elim
    |some ob=>
     rw[hj] at hK;obtain⟨e1,e2,e3,e4,e5,e6,l,hK⟩:=hK;subst e3 e5;obtain⟨s1,s2⟩:=small 0 (by simpa using l);obtain⟨c',v,p,H,g1,g2,g3,G,I⟩:=Ct (C:=C) (hs.ob j ob hj) e1;rw[H] at J;cases J;rw[e2] at g1 G I;have lq:v=cap+lo.toNat:=dW (by rw[hsz];exact SB) (g1.symm.trans N);have hlen:ob.rows.length=lo.toNat:=by omega
     have e0:(lo-lo).toNat=0:=by omega
     rw[e0] at hex hn
     by_cases E:news.length<=cap
     ·have X:lo.toNat*i.size+0*i.size+us.length<=cc.size:=by rw[d.len,g1,lq,dR,bP,<-bN];exact bh _ qW
      have hr:=λty=>sW (P:=P) (w:=w) T ty e i hd hi b (lo.toNat*i.size) 0 cap cc (by rw[H,e4]) ad news.length t us d.len D d.one qW X;rw[dR,bP,aS] at hr;rw[dR,bP] at X;have r:((cc.toList.take (lo.toNat*i.size)++us++cc.toList.drop (lo.toNat*i.size+us.length)).toArray).size=cc.size:=by
       simp only[cQ,an,aZ,bA,bH];omega
      have R:Ev (λx=>x=b) w (w.setRow b (cc.toList.take (lo.toNat*i.size)++us++cc.toList.drop (lo.toNat*i.size+us.length)).toArray):=Ev.setRow rfl H r;have g:=setRow_heap w b cc (cc.toList.take (lo.toNat*i.size)++us++cc.toList.drop (lo.toNat*i.size+us.length)).toArray ob.ty (0,0) H;have U:=(G.append d).keep (λx y hr=>hs.keep Y R (λx _ hx=>⟨j,ob,hj,by rw[e1,hx]⟩) hr);rw[e4] at g;have Xn:=hK (some b) ob.rows (.inl rfl);have hrel:Rel (λx=>F x) C.B (w.setRow b (cc.toList.take (lo.toNat*i.size)++us++cc.toList.drop (lo.toNat*i.size+us.length)).toArray) (.win j (some b) i.size ob.rows.length (ob.rows.length+news.length)) (.slice (some ⟨b,lo.toNat*i.size,none⟩) news.length cap):=by
       have:=Rel.win (F:=F) (B:=C.B) (w:=w.setRow b (cc.toList.take (lo.toNat*i.size)++us++cc.toList.drop (lo.toNat*i.size+us.length)).toArray) j b i.size cap (ob.rows.length:Int) ((ob.rows.length:Int)+news.length) _ e (0,0) g (by rw[r,N,e6]) (by rw[e6];exact hm) qW qW qW;have q1:((ob.rows.length:Int)+news.length-ob.rows.length).toNat=news.length:=by omega
       have q2:((ob.rows.length:Int)).toNat=lo.toNat:=by omega
       rw[q1,q2] at this;exact this
      refine kl Y (k:=j) (L:=λx=>x=b) hs (kC ho hb hx hT λty=>?_) R (λx _ hx=>⟨ob,hj,by rw[e1,hx]⟩) hrel
       (fy.of_flat g (by rw[r,g1]) g2 (by rw[an,lq];omega) U λm u hu=>?_) (λb' A=>.inr ⟨ob,hj,by rw[e1];exact A⟩) Xn
      ·rw[hex,M];exact hr ty
      ·have hlt:m<(p++us).length:=(ah.1 hu).1;have Vp:p=cc.toList.take (lo.toNat*i.size):=by rw[I,hlen]
       rw[Vp] at hu hlt;rw[eG,aW (by simpa using hlt)];exact hu
     ·have hK:=hK (some w.heap.size) [] (.inr rfl);refine fresh (.win j (some w.heap.size) i.size ([]:List (List V)).length (([]:List (List V)).length+news.length)) j [] [] cap (λF' w' u hr=>?_) ⟨by simp,by simp,by simp,by simp⟩ (by simp only[aK];omega) (by simpa using l) (λty=>?_) hK
      ·have:=hr.Gk;simpa using this
      ·have:=run_append_grow (P:=P) w T ty e i zv hd hi Z ⟨b,lo.toNat*i.size,none⟩ 0 cap [] (by simp) (by simp) ad news.length t us d.len D qW qW (growslice_fits qW s2);simpa using this
   |_=>exact hK.elim
end
theorem Bl(vs:List Value):∀(k off:Nat)(cells:Array Value),off+k+vs.length<=cells.size->
  ((vs.zipIdx k).foldl (λcs(x:Value×Nat)=>cs.setIfInBounds (off+x.2) x.1) cells).size=cells.size/\
  ∀m,((vs.zipIdx k).foldl (λcs(x:Value×Nat)=>cs.setIfInBounds (off+x.2) x.1) cells)[m]? =if m<off+k then cells[m]? else if m<off+k+vs.length then vs[m-(off+k)]? else cells[m]? :=by
 induction vs with
 |nil=>intro k off cells _;refine⟨rfl,λm=>?_⟩;simp only[List.zipIdx_nil,List.foldl_nil,aK,bP];by_cases hm:m<off+k<;>simp[hm]
 |cons v vs ih=>
  intro k off cells h;simp only[List.zipIdx_cons,dO];simp only[ar] at h;obtain⟨h1,h2⟩:=ih (k+1) off (cells.setIfInBounds (off+k) v) (by simp;omega);refine⟨by rw[h1];simp,λm=>?_⟩;rw[h2];simp only[bK,ar]
  by_cases h3:m<off+k
  ·rw[ae qW,aa qW,ae h3]
  ·by_cases h4:m=off+k
   ·subst h4;rw[ae qW,ae rfl,ae qW,aa qW,ae qW];simp
   ·rw[aa h3]
    by_cases h5:m<off+k+(vs.length+1)
    ·rw[aa qW,ae qW,ae h5,show m-(off+k)=(m-(off+(k+1)))+1 by omega,dp]
    ·rw[aa qW,aa qW,aa qW,aa h5]
theorem tD(v:Value)(off:Nat)(cells:Array Value)(h:off+v.cells.size<=cells.size):
  (v.cells.zipIdx.foldl (λcs(c,j)=>cs.setIfInBounds (off+j) c) cells).size=cells.size/\
  ∀m,(v.cells.zipIdx.foldl (λcs(c,j)=>cs.setIfInBounds (off+j) c) cells)[m]? =if m<off then cells[m]? else if m<off+v.cells.size then v.cells[m-off]? else cells[m]? :=by
 have:=Bl v.cells.toList 0 off cells (by simpa using h);rw[<-Array.foldl_toList,Array.toList_zipIdx];simpa using this
section
variable {P:Program} {C:Ctx} {F:Nat->Prop} {w w':World} {a:Act} {s:S} {h:Hp} {K:V->Hp->Prop} {Q:Exit->Act->World->Prop} {o:Oper}
theorem Gl{off:Nat->Option (Nat×Nat)}{n:Nat}:∀(parts:List (Nat×Operand))(ps:List (Nat×Nat×hJ))(r:List V)(c:Array Value),mO off n parts=some ps->(hr:∀i:Nat,Rel F C.B w (s.t i) (a.tmps.getD i undef))->
  (∀p∈ps,(p.2.2.ev s).fits p.2.1)->r.length=n->c.size=n->(∀(m:Nat)(v:V)(u:Value),r[m]? =some v->c[m]? =some u->Rel F C.B w v u)->
  ∃c',Instr.fill off c (parts.map λp=>(p.1,a.eval p.2))=some c'/\c'.size=n/\(wM r (ps.map λp=>(p.1,(p.2.2.ev s).cells))).length=n/\
   (∀(m:Nat)(v:V)(u:Value),(wM r (ps.map λp=>(p.1,(p.2.2.ev s).cells)))[m]? =some v->c'[m]? =some u->Rel F C.B w v u):=by
 intro parts
 induction parts with
 |nil=>
  intro ps r c ht hr hf hl hc hrel;simp only[mO,aH] at ht;subst ht;exact⟨c,rfl,hc,hl,hrel⟩
 |cons p parts ih=>
  intro ps r c ht hr hf hl hc hrel;obtain⟨j,x⟩:=p;simp only[mO] at ht;cases h1:off j with
  |none=>rw[h1] at ht;simp at ht
  |some os=>
   obtain⟨o,sz⟩:=os;cases h2:mN x with
   |none=>rw[h1,h2] at ht;simp at ht
   |some y=>
    cases h3:mO off n parts with
    |none=>rw[h1,h2,h3] at ht;simp at ht
    |some m=>
     rw[h1,h2,h3] at ht;simp only[] at ht
     split at ht
     ·rename_i hle;cases ht;have hy:=fb hr h2;have b:=hf _ (bS ..);obtain⟨hz,e⟩:=pd hy b;have f:(y.ev s).cells.length=sz:=b.1;obtain⟨g1,g2⟩:=tD (a.eval x) o c (by rw[hz,hc];exact hle);have g:(kP r o (y.ev s).cells).length=n:=by simp only[kP,an,aZ,bA];omega
      obtain⟨c',e1,e2,e3,e4⟩:=ih m (kP r o (y.ev s).cells) _ h3 hr (λp hp=>hf p (bM _ hp)) g (g1.trans hc) (λk v u hv hu=>by
       rw[g2] at hu;unfold kP at hv;rw[p6 r (y.ev s).cells o k qW] at hv;rw[hz] at hu;rw[f] at hv
       by_cases q1:k<o
       ·rw[ae q1] at hv hu;exact hrel k v u hv hu
       ·rw[aa q1] at hv hu
        by_cases q2:k<o+sz
        ·rw[ae q2] at hv hu;obtain⟨q,d,_,l⟩:=e (k-o) v hv;rw[hu] at d;cases d;exact l
        ·rw[aa q2] at hv hu;exact hrel k v u hv hu)
      refine⟨c',?_,e2,e3,e4⟩;simp only[aL,Instr.fill,h1];rw[aa (by simp[hz];omega)];exact e1
     ·cases ht
theorem wV{T:TypeId}{parts:Array (Nat×Operand)}{z:List Value}{ps:List (Nat×Nat×hJ)}{off:Nat->Option (Nat×Nat)}(ho:o.op=.build T parts)(hz:mc P T=some z)(ht:mO off z.length parts.toList=some ps)
  (d:(∃fs b,P.underlying T=some (.struct fs)/\fs.toList.mapM (λf=>(P.info? f.type).map λi=>(f.offset,i.size))=some b/\off=λj=>b.toArray[j]?)\/(∃k e n,P.underlying T=some (.array k e)/\qZ P e=some n/\off=λj=>some (j*n,n)))
  (hs:gg C F h w)(hr:∀i:Nat,Rel F C.B w (s.t i) (a.tmps.getD i undef))(hf:∀p∈ps,(p.2.2.ev s).fits p.2.1)(hK:K (.agg (wM (z.map yM) (ps.map λp=>(p.1,(p.2.2.ev s).cells)))) h):o.wp P a w (fO C F w a o.dst K) Q:=by
 have g:=hz;simp only[mc,au,bT] at g;obtain⟨E,⟨it,l,q⟩,r⟩:=g;obtain⟨c',e1,e2,e3,e4⟩:=Gl (F:=F) (C:=C) (w:=w) parts.toList ps (z.map yM) E.cells ht hr hf (by simp) (by rw[<-r];simp) (λm v u hv hu=>by
  simp only[av,au] at hv;obtain⟨G,y,rfl⟩:=hv;rw[<-r,bY,hu] at y;cases y;exact q6 _ _ _ _)
 refine wp_pure (u:=.agg c') hs ?_ (.agg _ _ (by rw[e2,e3]) e4) hK;have c:P.built T (parts.map λ(i,x)=>(i,a.eval x)).toList=some c':=by
  have A:(parts.map λ(i,x)=>(i,a.eval x)).toList=parts.toList.map λp=>(p.1,a.eval p.2):=by simp
  rw[A];unfold Program.built
  rcases d with⟨fs,b,hd,hp,rfl⟩|⟨k,e,n,hd,hn,rfl⟩
  ·simp only[l,hd,q,hp];exact e1
  ·simp only[qZ,au] at hn;obtain⟨H,D,rfl⟩:=hn;simp only[l,hd,q,D];exact e1
 unfold execOp;rw[ho];simp only[Sem.run_bind,run_build w T _ c' c,Result.andThen_ok,Sem.run_pure]
theorem LR{n sz:Nat}:∀(parts:List (Nat×Operand))(ps:List hJ)(i:Nat)(c:Array Value),uR i parts=some ps->(hr:∀i:Nat,Rel F C.B w (s.t i) (a.tmps.getD i undef))->
  (∀p∈ps,(p.ev s).fits sz)->c.size=n->(i+ps.length)*sz<=n->
  ∃c',Instr.fill (λj=>some (j*sz,sz)) c (parts.map λp=>(p.1,a.eval p.2))=some c'/\c'.size=n/\(∀m,m<i*sz->c'[m]? =c[m]?)/\
   (∀(k j:Nat)(p:hJ)(v:V),ps[k]? =some p->(p.ev s).cells[j]? =some v->∃u,c'[(i+k)*sz+j]? =some u/\u.oneCell'=true/\Rel F C.B w v u):=by
 intro parts
 induction parts with
 |nil=>
  intro ps i c ht hr hf hc hle;simp only[uR,aH] at ht;subst ht;exact⟨c,rfl,hc,λ_ _=>rfl,by simp⟩
 |cons p parts ih=>
  intro ps i c ht hr hf hc hle;obtain⟨j,x⟩:=p;simp only[uR] at ht;cases h2:mN x with
  |none=>rw[h2] at ht;simp at ht
  |some y=>
   cases h3:uR (i+1) parts with
   |none=>rw[h2,h3] at ht;simp at ht
   |some m=>
    rw[h2,h3] at ht;simp only[] at ht
    split at ht
    ·rename_i e;cases ht;subst e;have hy:=fb hr h2;have b:=hf _ (bS ..);obtain⟨hz,f⟩:=pd hy b;have l:(y.ev s).cells.length=sz:=b.1;simp only[ar] at hle;have d:(j+1)*sz<=n:=bG (bh _ qW) hle;rw[bN] at d;obtain⟨g1,g2⟩:=tD (a.eval x) (j*sz) c (by rw[hz,hc];omega);obtain⟨c',e1,e2,e3,e4⟩:=ih m (j+1) _ h3 hr (λp hp=>hf p (bM _ hp)) (g1.trans hc) (by rw[show j+1+m.length=j+(m.length+1) by omega];exact hle);have hmul:(j+1)*sz=j*sz+sz:=by rw[bN];omega
     refine⟨c',?_,e2,λq hq=>?_,λk q p v hk hv=>?_⟩
     ·simp only[aL,Instr.fill];rw[aa (by simp[hz];omega)];exact e1
     ·rw[e3 q qW,g2,ae hq]
     ·cases k with
      |zero=>
       simp at hk;subst hk;have hq:q<sz:=by have:=(ah.1 hv).1;omega
       obtain⟨u,hu,h1,g⟩:=f q v hv;refine⟨u,?_,h1,g⟩;rw[bP,e3 _ qW,g2,aa qW,ae (by rw[hz];omega),show j*sz+q-j*sz=q by omega];exact hu
      |succ k=>
       simp only[dp] at hk;have:=e4 k q p v hk hv
       rwa[show j+1+k=j+(k+1) by omega] at this
    ·cases ht
theorem Bm(D:C.Ok){T e:TypeId}{k len:Nat}{parts:Array (Nat×Operand)}{z:List Value}{ps:List hJ}{sz:Nat}(ho:o.op=.buildSlice T len parts)(hd:P.underlying T=some (.slice e))(hn:qZ P e=some sz)(hz:mc P e=some z)(ht:uR 0 parts.toList=some ps)
  (G:z.length=sz)(g:0<sz)(hle:len*sz<=16777216)(hlen:ps.length=len)(hs:gg C F h w)(hr:∀i:Nat,Rel F C.B w (s.t i) (a.tmps.getD i undef))(hf:∀p∈ps,(p.ev s).fits sz)
  (hK:∀β:Nat,K (.own k (some β) sz ps.length) (h.put k ⟨some β,e,sz,ps.map λp=>(p.ev s).cells⟩)):o.wp P a w (fO C F w a o.dst K) Q:=by
 obtain⟨E,H,q⟩:=uV (P:=P) (w:=w) hz;have l:len<=maxLen:=by
  have:len*1<=len*sz:=Nat.mul_le_mul_left _ g;simp only[maxLen];omega
 let zero:Array Value:=if len*sz=0 then #[] else E.cells
 obtain⟨c',e1,e2,e3,e4⟩:=LR (F:=F) (C:=C) (w:=w) (n:=len*sz) (sz:=sz) parts.toList ps 0 ((Array.range (len*sz)).map (zero[·%zero.size]!)) ht hr hf (by simp) (by rw[aS,hlen];exact ag _);have c:=heap_alloc_new w (Obj.cells c' e);have f:=λ{x:V}{y:Value}=>hs.keep D (x:=x) (y:=y) (Ev.alloc (λ_=>False) w (Obj.cells c' e)) (λ_ _ h=>h.elim);refine kl D (u:=.slice (some ⟨w.heap.size,0,none⟩) len len) (w':=w.alloc (.cells c' e)) (L:=λ_=>False) hs ?_ (Ev.alloc _ _ _) (λ_ _ h=>h.elim) (by rw[hlen];exact .own k w.heap.size sz len len c' e (0,0) c e2 l (ag _))
  (show fy F C.B (w.alloc (.cells c' e)) ⟨some w.heap.size,e,sz,ps.map λp=>(p.ev s).cells⟩ from⟨c',len,c,e2,l,by simp[hlen],λr m=>?_,λi j r v hi hj=>?_⟩) (λb hb=>.inl (by cases hb;exact ag _)) (hK w.heap.size)
 ·unfold execOp;rw[ho];have d:(parts.map λ(i,x)=>(i,a.eval x)).toList=parts.toList.map λp=>(p.1,a.eval p.2):=by simp
  simp only[Instr.buildSlice,Sem.run_bind,run_underlying hd,Result.andThen_ok,gb hn];rw[aa qW]
  by_cases h0:len*sz=0
  ·have hz0:zero= #[]:=by simp[zero,h0]
   rw[hz0,h0] at e1;simp only[h0,↓reduceIte,Sem.run_bind,Sem.run_pure,Result.andThen_ok,d,e1,newRow,newObj,Sem.run];rfl
  ·have hz0:zero=E.cells:=by simp[zero,h0]
   rw[hz0] at e1;simp only[h0,↓reduceIte,Sem.run_bind,Sem.run_pure,Result.andThen_ok,q,d,e1,newRow,newObj,Sem.run];rfl
 ·simp only[aC] at m;obtain⟨p,hp,rfl⟩:=m;exact(hf p hp).1
 ·simp only[av,au] at hi;obtain⟨p,hp,rfl⟩:=hi;obtain⟨u,hu,h1,A⟩:=e4 i j p v hp hj;rw[aS] at hu;exact⟨u,hu,h1,f A⟩
end
section
variable {P:Program} {C:Ctx} {F:Nat->Prop} {w w':World} {a:Act} {s:S} {h:Hp} {K:V->Hp->Prop} {Q:Exit->Act->World->Prop} {o:Oper}
theorem yS(W:C.Ok){T e:TypeId}{k:Nat}{x y:Operand}{i:TypeInfo}{z:List Value}{k1 k2:IntKind}{n:Int}(ho:o.op=.makeSlice T x y)(hd:P.underlying T=some (.slice e))(hi:P.info? e=some i)(hz:mc P e=some z)
  (hsz:i.size=z.length)(U:0<z.length)(hs:gg C F h w)(h1:Rel F C.B w (.int k1 n) (a.eval x))(h2:Rel F C.B w (.int k2 n) (a.eval y))(hn:0<=n)(l:z.all (λu=>u.oneCell')=true)
  (X:n*i.bytes<=140737488355328)(Y:n<=140737488355328)
  (hK:∀β:Nat,K (.own k (some β) i.size n.toNat) (h.put k ⟨some β,e,i.size,List.replicate n.toNat (z.map yM)⟩)):o.wp P a w (fO C F w a o.dst K) Q:=by
 obtain⟨m,rfl⟩:∃m:Nat,n=m:=⟨n.toNat,qW⟩;simp only[aM] at hK;obtain⟨I,p,J⟩:=uV (P:=P) (w:=w) hz;have M:I.cells.size=i.size:=by rw[hsz,<-p];simp
 generalize hex:a.eval x=ux at h1
 generalize N:a.eval y=uy at h2
 cases h1;cases h2;have hw:IntKind.i64.wrap (m:Int)=m:=wrap64 (by unfold iU;omega);have Z:m*i.bytes<=140737488355328:=by
  have e:((m*i.bytes:Nat):Int)=(m:Int)*i.bytes:=by rw[eB]
  omega
 let zero:Array Value:=if m*i.size=0 then #[] else I.cells
 let c':Array Value:=(Array.range (m*i.size)).map (zero[·%zero.size]!)
 have c:=heap_alloc_new w (Obj.cells c' e);have q:m<=maxLen:=by simp only[maxLen];omega
 have t:c'.size=m*i.size:=by simp[c']
 have A:(typeInfo e).run P w=.ok i w:=by simp[typeInfo,program,Sem.run_bind,Sem.run_pure,Sem.run,hi]
 have O:(sizeOf e).run P w=.ok i.size w:=by simp[sizeOf,A,Sem.run_bind,Sem.run_pure]
 refine kl W (u:=.slice (some ⟨w.heap.size,0,none⟩) m m) (w':=w.alloc (.cells c' e)) (L:=λ_=>False) hs ?_ (Ev.alloc _ _ _) (λ_ _ h=>h.elim) (.own k w.heap.size i.size m m c' e (0,0) c t q (ag _))
  (show fy F C.B (w.alloc (.cells c' e)) ⟨some w.heap.size,e,i.size,List.replicate m (z.map yM)⟩ from⟨c',m,c,t,q,by simp,λr R=>?_,λii j r v d hj=>?_⟩) (λb hb=>.inl (by cases hb;exact ag _)) (hK w.heap.size)
 ·have f:(askRoom (m*i.bytes)).run P w=.ok () w:=by
   unfold askRoom roomBytes;rw[aa qW];rfl
  have D:¬((i.bytes:Int)*(m:Int)>2^48):=by
   have e:((m*i.bytes:Nat):Int)=(i.bytes:Int)*(m:Int):=by rw[eB,Int.mul_comm]
   omega
  unfold execOp;rw[ho];simp only[Instr.makeSlice,Sem.run_bind,run_underlying hd,Result.andThen_ok,hex,N,asInt,asIntOf,Sem.run_pure,A,hw];have g:((((m:Int)<0||(i.bytes:Int)*(m:Int)>2^48)||(m:Int)<0||(m:Int)>m):Bool)=false:=by
   simp[D];omega
  rw[g,aa qD];simp only[aM,Sem.run_bind,f,Result.andThen_ok,O]
  by_cases h0:m*i.size=0
  ·have hz0:zero= #[]:=by simp[zero,h0]
   simp only[c',hz0,h0,↓reduceIte,Sem.run_bind,Sem.run_pure,Result.andThen_ok,newRow,newObj,Sem.run];rfl
  ·have hz0:zero=I.cells:=by simp[zero,h0]
   simp only[c',hz0,h0,↓reduceIte,Sem.run_bind,Sem.run_pure,Result.andThen_ok,J,newRow,newObj,Sem.run];rfl
 ·rw[List.eq_of_mem_replicate R];simp[hsz]
 ·rw[dq] at d
  split at d
  ·rename_i hlt;cases d;simp only[av,au] at hj;obtain⟨u,hu,rfl⟩:=hj;have E:j<i.size:=by have:=(ah.1 hu).1;omega
   have G:=Gi hlt E;refine⟨u,?_,aE.1 l u (az hu),q6 _ _ _ _⟩;have hz0:zero=I.cells:=by simp only[zero];rw[aa qW]
   have H:(ii*i.size+j)%i.size=j:=by rw[eN,Nat.mul_add_mod];exact cW E
   simp only[c',hz0,M,dh];rw[Array.getElem?_range,ae G];simp only[aN,H];rw[<-p,bY] at hu;simp[getElem!_def,hu]
  ·cases d
end
def V.rl(f:Nat->Nat):V->V
 |.own k b sz n=>.own (f k) b sz n
 |.win k b sz lo hi=>.win (f k) b sz lo hi
 |.ptr k b sz i off=>.ptr (f k) b sz i off
 |v=>v
def V.gA(f:Nat->Nat):V->V
 |.agg cs=>.agg (cs.map (V.rl f))
 |.tup vs=>.tup (vs.map λ|.agg cs=>.agg (cs.map (V.rl f))|v=>v.rl f)
 |v=>v.rl f
def Ob.gA(f:Nat->Nat)(o:Ob):Ob:= {o with rows:=o.rows.map (·.map (V.rl f))}
def gI(m:List (Nat×Nat))(k:Nat):Nat:=match m with
 |[]=>k
 |(a,b)::m=>if k=a then b else gI m k
def gT(m:List (Nat×Nat))(k:Nat):Nat:=match m with
 |[]=>k
 |(a,b)::m=>if k=b then a else gT m k
theorem Rel.rl{F B:Nat->Prop}{w:World}{v:V}{u:Value}(f:Nat->Nat)(h:Rel F B w v u):Rel F B w (v.rl f) u:=by
 cases h with
 |ownnil k sz=>exact .ownnil _ _
 |own k b sz n cap c e fr h hs hm hn=>exact .own _ b sz n cap c e fr h hs hm hn
 |winemp k b sz lo a=>exact .winemp _ _ sz lo a
 |win k b sz cap lo hi c e fr h hs hm hn h0 h1=>exact .win _ b sz cap lo hi c e fr h hs hm hn h0 h1
 |ptr k b sz i off=>exact .ptr _ b sz i off
 |int=>exact .int _ _
 |bool=>exact .bool _
 |str=>exact .str _
 |agg cs us hl h=>exact .agg cs us hl h
 |tup cs us hl h=>exact .tup cs us hl h
 |slnil t sz=>exact .slnil t sz
 |slemp t sz a cap=>exact .slemp t sz a cap
 |sl t sz rows b off cap us a1 a2 a3 a4 a5=>exact .sl t sz rows b off cap us a1 a2 a3 a4 a5
 |nilsl=>exact .nilsl
 |rp t b off cs us a1 a2 a3=>exact .rp t b off cs us a1 a2 a3
 |nil=>exact .nil
 |fn f caps us hl h=>exact .fn f caps us hl h
 |raw=>exact .raw _
 |nu=>exact .nu
 |gS=>exact .gS _
theorem Rel.Cu{F B:Nat->Prop}{w:World}{cs:List V}{u:Value}(f:Nat->Nat)(h:Rel F B w (.agg cs) u):Rel F B w (.agg (cs.map (V.rl f))) u:=by
 cases h with
 |agg _ us hl h=>
  refine .agg _ us (by simpa using hl) λi v u hv hu=>?_;simp only[av,au] at hv;obtain⟨v',a,rfl⟩:=hv;exact(h i v' u a hu).rl f
theorem Rel.gA{F B:Nat->Prop}{w:World}{v:V}{u:Value}(f:Nat->Nat)(h:Rel F B w v u):Rel F B w (v.gA f) u:=by
 cases v with
 |agg cs=>exact h.Cu f
 |tup vs=>
  cases h with
  |tup _ us hl h=>
   refine .tup _ us (by simpa using hl) λi v u hv hu=>?_;simp only[av,au] at hv;obtain⟨v',a,rfl⟩:=hv;have:=h i v' u a hu;cases v' with
   |agg cs=>exact this.Cu f
   |_=>exact this.rl f
 |_=>exact h.rl f
theorem fy.gA{F B:Nat->Prop}{w:World}{o:Ob}(f:Nat->Nat)(h:fy F B w o):fy F B w (o.gA f):=by
 unfold fy at h⊢;simp only[Ob.gA];cases hb:o.b with
 |none=>rw[hb] at h;simp only at h⊢;rw[h];rfl
 |some b=>
  rw[hb] at h;obtain⟨c,cap,hc,h1,h2,h3,h4,h5⟩:=h;refine⟨c,cap,hc,h1,h2,by simpa using h3,λr hr=>?_,λi j r v hi hj=>?_⟩
  ·simp only[aC] at hr;obtain⟨r',a,rfl⟩:=hr;simpa using h4 r' a
  ·simp only[av,au] at hi;obtain⟨r',a,rfl⟩:=hi;simp only[av,au] at hj;obtain⟨v',d,rfl⟩:=hj;obtain⟨u,hu,e,hr⟩:=h5 i j r' v' a d;exact⟨u,hu,e,hr.rl f⟩
inductive Fz:V->Prop
 |int (k n):Fz (.int k n)
 |bool (b):Fz (.bool b)
 |str (l):Fz (.str l)
 |agg (cs) (h:∀v∈cs,Fz v):Fz (.agg cs)
 |tup (cs) (h:∀v∈cs,Fz v):Fz (.tup cs)
 |sl (sz rows) (h:∀r∈rows,∀v∈r,Fz v):Fz (.sl false sz rows)
 |nilsl:Fz .nilsl
 |own (k b sz n):Fz (.own k b sz n)
 |win (k b sz lo hi):Fz (.win k b sz lo hi)
 |ptr (k b sz i off):Fz (.ptr k b sz i off)
 |rp (cs) (h:∀v∈cs,Fz v):Fz (.rp false cs)
 |nil:Fz .nil
 |fn (f caps) (h:∀v∈caps,Fz v):Fz (.fn f caps)
 |raw (v):Fz (.raw v)
 |nu:Fz .nu
 |gS:Fz .gS
theorem Rel.fz{F B B':Nat->Prop}{w:World}{v:V}{u:Value}(h:Rel F B w v u)(hz:Fz v):Rel F B' w v u:=by
 induction h with
 |int=>exact .int _ _
 |bool=>exact .bool _
 |str=>exact .str _
 |agg cs us hl h ih=>cases hz with|agg _ hz=>exact .agg cs us hl λi v u hv hu=>ih i v u hv hu (hz v (az hv))
 |tup cs us hl h ih=>cases hz with|tup _ hz=>exact .tup cs us hl λi v u hv hu=>ih i v u hv hu (hz v (az hv))
 |slnil t sz=>exact .slnil t sz
 |slemp t sz a cap=>exact .slemp t sz a cap
 |sl t sz rows b off cap us hF lq hsz hc hr ih=>
  cases hz with
  |sl _ _ hz=>
   refine .sl false sz rows b off cap us ?_ lq hsz hc λi j r v hi hj=>ih i j r v hi hj (hz r (az hi) v (az hj))
   rcases hF with h|⟨h,_⟩
   ·exact .inl h
   ·cases h
 |nilsl=>exact .nilsl
 |ownnil k sz=>exact .ownnil _ _
 |own k b sz n cap c e fr h hs hm hn=>exact .own _ b sz n cap c e fr h hs hm hn
 |winemp k b sz lo a=>exact .winemp _ _ sz lo a
 |win k b sz cap lo hi c e fr h hs hm hn h0 h1=>exact .win _ b sz cap lo hi c e fr h hs hm hn h0 h1
 |ptr k b sz i off=>exact .ptr _ b sz i off
 |rp t b off cs us hF hc hr ih=>
  cases hz with
  |rp _ hz=>
   refine .rp false b off cs us ?_ hc λj v hj=>ih j v hj (hz v (az hj))
   rcases hF with h|⟨h,_⟩
   ·exact .inl h
   ·cases h
 |nil=>exact .nil
 |fn f caps us hl h ih=>cases hz with|fn _ _ hz=>exact .fn f caps us hl λi v u hv hu=>ih i v u hv hu (hz v (az hv))
 |raw v=>exact .raw v
 |nu=>exact .nu
 |gS v=>exact .gS v
theorem Rel.mono{F B F' B':Nat->Prop}{w:World}{v:V}{u:Value}(h:Rel F B w v u)(hF:∀b,F b->F' b)(hB:∀b,B b->F' b\/B' b):Rel F' B' w v u:=by
 have side:∀(t:Bool) b,F b\/(t=true/\B b)->F' b\/(t=true/\B' b):=by
  intro t b hh
  rcases hh with h|⟨ht,h⟩
  ·exact .inl (hF b h)
  ·rcases hB b h with h|h
   ·exact .inl h
   ·exact .inr ⟨ht,h⟩
 induction h with
 |int=>exact .int _ _
 |bool=>exact .bool _
 |str=>exact .str _
 |agg cs us hl h ih=>exact .agg cs us hl ih
 |tup cs us hl h ih=>exact .tup cs us hl ih
 |slnil t sz=>exact .slnil t sz
 |slemp t sz a cap=>exact .slemp t sz a cap
 |sl t sz rows b off cap us d lq hsz hc hr ih=>exact .sl t sz rows b off cap us (side t b d) lq hsz hc ih
 |nilsl=>exact .nilsl
 |ownnil k sz=>exact .ownnil _ _
 |own k b sz n cap c e fr h hs hm hn=>exact .own _ b sz n cap c e fr h hs hm hn
 |winemp k b sz lo a=>exact .winemp _ _ sz lo a
 |win k b sz cap lo hi c e fr h hs hm hn h0 h1=>exact .win _ b sz cap lo hi c e fr h hs hm hn h0 h1
 |ptr k b sz i off=>exact .ptr _ b sz i off
 |rp t b off cs us d hc hr ih=>exact .rp t b off cs us (side t b d) hc ih
 |nil=>exact .nil
 |fn f caps us hl h ih=>exact .fn f caps us hl ih
 |raw v=>exact .raw v
 |nu=>exact .nu
 |gS v=>exact .gS v
def Ob.Fz(o:Ob):Prop:=∀r∈o.rows,∀v∈r,AM.Fz v
theorem fy.fz{F B B':Nat->Prop}{w:World}{o:Ob}(h:fy F B w o)(hz:o.Fz):fy F B' w o:=by
 unfold fy at h⊢;cases hb:o.b with
 |none=>rw[hb] at h;exact h
 |some b=>
  rw[hb] at h;obtain⟨c,cap,hc,h1,h2,h3,h4,h5⟩:=h;refine⟨c,cap,hc,h1,h2,h3,h4,λi j r v hi hj=>?_⟩;obtain⟨u,hu,a,hr⟩:=h5 i j r v hi hj;exact⟨u,hu,a,hr.fz (hz r (az hi) v (az hj))⟩
theorem fy.mono{F B F' B':Nat->Prop}{w:World}{o:Ob}(h:fy F B w o)(hF:∀b,F b->F' b)(hB:∀b,B b->F' b\/B' b):fy F' B' w o:=by
 unfold fy at h⊢;cases hb:o.b with
 |none=>rw[hb] at h;exact h
 |some b=>
  rw[hb] at h;obtain⟨c,cap,hc,h1,h2,h3,h4,h5⟩:=h;refine⟨c,cap,hc,h1,h2,h3,h4,λi j r v hi hj=>?_⟩;obtain⟨u,hu,a,hr⟩:=h5 i j r v hi hj;exact⟨u,hu,a,hr.mono hF hB⟩
def Ctx.nb(C:Ctx):Ctx:= {C with B:=λ_=>False}
structure Spec(P:Program)(f:Nat)(args:List V)(hp:Hp)(post:V->Hp->Prop):Prop where
 fn:∃fn,P.funcs[f]? =some fn∧fn.name≠ "runtime.NumGoroutine" ∧∃c,fn.body=some c
 run:∀(C:Ctx)(us:Array Value),C.Ok->us.size=args.length->(∀(i:Nat)(v:V)(u:Value),args[i]? =some v->us[i]? =some u->Rel C.F0 C.B C.w0 v u)->gg C.nb C.F0 hp C.w0->
  Calls P f us C.w0 λe w'=>∃u v h' F',e=.returned u/\Rel F' (λ_=>False) w' v u/\gg C.nb F' h' w'/\post v h'
inductive Arg(h:Hp)(m:List (Nat×Nat)):V->V->Prop
 |same (v:V):Arg h m v (v.gA (gT m))
 |own (k b sz n rows) (hr:rowsOf h sz (.own k b sz n)=some rows) (hm:∀p∈m,p.2≠k):Arg h m (.own k b sz n) (.sl true sz rows)
 |j8 (sz rows):Arg h m (.sl false sz rows) (.sl true sz rows)
 |nil (t sz):Arg h m .nilsl (.sl t sz [])
 |agg (cs kp:List V) (hl:cs.length=kp.length) (ha:∀(i:Nat)(v v':V),cs[i]? =some v->kp[i]? =some v'->Arg h m v v'):Arg h m (.agg cs) (.agg kp)
inductive k6(h:Hp)(m:List (Nat×Nat)):List V->List V->Prop
 |nil:k6 h m [] []
 |cons {v v' l l'} (a:Arg h m v v') (b:k6 h m l l'):k6 h m (v::l) (v'::l')
def Hp.iX(h:Hp)(m:List (Nat×Nat))(h':Hp):Hp:=match m with
 |[]=>h
 |m=>λi=>if m.any (λp=>p.2=i) then(h' (gT m i)).map (Ob.gA (gI m)) else h i
def Cv(P:Program):cp:=λf args h K=>
 ∃(m:List (Nat×Nat))(args':List V)(hp:Hp)(post:V->Hp->Prop),Spec P f args' hp post/\k6 h m args args'/\
  (∀k o,hp k=some o->∃p∈m,p.1=k)/\(∀p∈m,gI m p.1=p.2/\gT m p.2=p.1/\∀o,hp p.1=some o->(h p.2).map (Ob.gA (gT m))=some o/\o.Fz)/\
  ∀v h',post v h'->K (v.gA (gI m)) (h.iX m h')
section
variable {P:Program} {C:Ctx} {F:Nat->Prop} {w w':World} {a:Act} {s:S} {h:Hp} {K:V->Hp->Prop} {Q:Exit->Act->World->Prop} {o:Oper}
theorem LS{F' B':Nat->Prop}{m:List (Nat×Nat)}(hs:gg C F h w)(hF:∀b,F b->F' b)(hB:∀b,C.B b->F' b\/B' b)(g:∀k o b,h k=some o->o.b=some b->(∀p∈m,p.2≠k)->B' b)
  {v v':V}{u:Value}(ha:Arg h m v v')(hr:Rel F C.B w v u):Rel F' B' w v' u:=by
 induction ha generalizing u with
 |same v=>exact(hr.mono hF hB).gA _
 |own k b sz n rows d hm=>
  have hk:∃o,h k=some o/\o.b=b:=by
   simp only[rowsOf] at d;cases hk:h k with
   |none=>simp only[hk] at d;cases d
   |some o=>
    simp only[hk] at d
    split at d
    ·rename_i hc;exact⟨o,rfl,hc.1⟩
    ·cases d
  obtain⟨o,x,y⟩:=hk
  rcases sV hs hr d with⟨rfl,rfl⟩|⟨ad,cap,us,rfl,f,l⟩
  ·exact .slnil _ _
  ·cases hr with
   |own _ b' _ n' A c e fr D E G hn=>
    refine .sl true sz rows b' 0 cap (λi j=>(us[i*sz+j]?).getD undef) (.inr ⟨rfl,g k o b' x y hm⟩) hn f.all (λi j r v hi hj=>?_) (λi j r v hi hj=>?_)
    ·obtain⟨u,hu,q⟩:=f.rel i j r v hi hj;rw[hu];have:=l _ _ hu;rw[jB] at this;exact⟨this,f.one u (az hu)⟩
    ·obtain⟨u,hu,q⟩:=f.rel i j r v hi hj;rw[hu];exact q.mono hF hB
 |j8 sz rows=>
  have:=hr.mono hF hB;cases this with
  |slnil=>exact .slnil _ _
  |slemp=>exact .slemp _ _ _ _
  |sl _ _ _ b off cap us z a1 a2 a3 a4=>
   refine .sl true sz rows b off cap us ?_ a1 a2 a3 a4
   rcases z with h|⟨h,_⟩
   ·exact .inl h
   ·cases h
 |nil t sz=>cases hr;exact .slnil _ _
 |agg cs kp hl ha ih=>
  cases hr with
  |agg _ us hsz ko=>
   refine .agg kp us qW λi v u hv hu=>?_;have hi:i<cs.length:=by have:=(ah.1 hv).1;omega
   exact ih i cs[i] v (af hi) hv (ko i cs[i] u (af hi) hu)
theorem Gm{R:V->Value->Prop}{R':V->Value->Prop}{m:List (Nat×Nat)}(d:∀v v' u,Arg h m v v'->R v u->R' v' u):∀{l l':List V},k6 h m l l'->l.length=l'.length/\∀(us:List Value),(∀(i:Nat)(v:V)(u:Value),l[i]? =some v->us[i]? =some u->R v u)->us.length=l.length->
  ∀(i:Nat)(v:V)(u:Value),l'[i]? =some v->us[i]? =some u->R' v u:=by
 intro l l' ha
 induction ha with
 |nil=>exact⟨rfl,by simp⟩
 |cons a b ih=>
  refine⟨by simp[ih.1],λus c hl i v u hv hu=>?_⟩;cases us with
  |nil=>simp at hl
  |cons u0 us=>
   cases i with
   |zero=>
    simp at hv hu;subst hv hu;exact d _ _ _ a (c 0 _ _ rfl rfl)
   |succ i=>exact ih.2 us (λj v u hv hu=>c (j+1) v u hv hu) (by simpa using hl) i v u hv hu
theorem q8{m:List (Nat×Nat)}{h':Hp}{i:Nat}{ob:Ob}(hu:h.iX m h' i=some ob):(∃p∈m,p.2=i/\∃o,h' (gT m i)=some o/\ob=o.gA (gI m))\/((∀p∈m,p.2≠i)/\h i=some ob):=by
 unfold Hp.iX at hu;cases m with
 |nil=>exact .inr ⟨by simp,hu⟩
 |cons q m=>
  simp only[] at hu
  by_cases b:((q::m).any λp=>decide (p.2=i))=true
  ·rw[ae b] at hu;obtain⟨p,hp,c⟩:=cE.1 b;simp only[au] at hu;obtain⟨o,ho,rfl⟩:=hu;exact .inl ⟨p,hp,by simpa using c,o,ho,rfl⟩
  ·rw[aa b] at hu;refine .inr ⟨λp hp c=>b (cE.2 ⟨p,hp,by simpa using c⟩),hu⟩
theorem yT(hC:C.Ok){c:Call}{f:Nat}{caps:Array Value}{vs:List V}(ho:o.op=.call c)(hf:∃op,c.callee=.value op/\a.eval op=.func (.func f) #[] caps)(hs:gg C F h w)(hl:(c.args.map a.eval++caps).size=vs.length)
  (hr:∀(i:Nat)(v:V)(u:Value),vs[i]? =some v->(c.args.map a.eval++caps)[i]? =some u->Rel F C.B w v u)(hK:Cv P f vs h K):o.wp P a w (fO C F w a o.dst K) Q:=by
 obtain⟨m,args',hp,post,q,H,U,hm,I⟩:=hK;obtain⟨fn,Xo,Xp,cb,J⟩:=q.fn;have jR:(execOp a.eval o).run P w=.ok (.enter f (c.args.map a.eval++caps)) w:=by
  obtain⟨callee,args,YZ⟩:=c;obtain⟨op,hf,r⟩:=hf;cases hf;unfold execOp;rw[ho]
  generalize a.eval=ρ at*
  simp only[resolve,r,Deferred.ofValue,Sem.run_bind,Sem.run_pure,Result.andThen_ok,invoke];simp[callFunc,program,Sem.run_bind,Sem.run_pure,Sem.run,Xo,Xp,J]
 let pass:Nat->Prop:=λb=>∃p∈m,∃ob,h p.2=some ob/\ob.b=some b/\∃o',hp p.1=some o'
 let E:Ctx:=⟨w,F,λb=>b<w.heap.size/\¬pass b,pass⟩
 have Xq:E.Ok:=by
  refine⟨λb hb=>⟨hs.lt b hb,?_⟩,λb hb=>hb,?_⟩
  ·rintro⟨p,_,ob,hk,d,_⟩;exact(hs.live _ ob b hk d).1 hb
  ·rintro b ⟨p,_,ob,hk,d,_⟩;exact(hs.ob _ ob hk).lt d
 have z:∀k o',hp k=some o'->∃p∈m,p.1=k/\∃ob,h p.2=some ob/\o'=ob.gA (gT m)/\o'.Fz:=by
  intro k o' hk;obtain⟨p,j,W⟩:=U k o' hk;obtain⟨_,_,h3⟩:=hm p j;obtain⟨h4,h5⟩:=h3 o' (by rw[W];exact hk);simp only[au] at h4;obtain⟨ob,g,rfl⟩:=h4;exact⟨p,j,W,ob,g,rfl,h5⟩
 have hs':gg E.nb E.F0 hp w:=by
  refine⟨λk o' hk=>?_,λk1 k2 o1 o2 b h1 h2 e1 e2=>?_,λk o' b hk hb=>?_,λb hb=>.inl hb,λb hb=>hb,hs.lt,Ev.refl _ _⟩
  ·obtain⟨p,_,_,ob,g,rfl,hz⟩:=z k o' hk;exact((hs.ob _ ob g).gA _).fz hz
  ·obtain⟨p1,A,rfl,Xr,X,rfl,_⟩:=z k1 o1 h1;obtain⟨p2,L,rfl,t,l,rfl,_⟩:=z k2 o2 h2;have:=hs.inj p1.2 p2.2 Xr t b X l e1 e2;rw[<-(hm p1 A).2.1,<-(hm p2 L).2.1,this]
  ·obtain⟨p,j,rfl,ob,g,rfl,_⟩:=z k o' hk;exact⟨(hs.live _ ob b g hb).1,.inl ⟨p,j,ob,g,hb,_,hk⟩⟩
 have Xs:∀b,C.B b->E.F0 b\/E.B b:=λb hb=>by
  refine .inr ⟨bE (hC.B b hb).1 hs.ev.size,?_⟩;rintro⟨p,_,ob,hk,d,_⟩;exact hs.SA hC hk d hb
 obtain⟨hlen,D⟩:=Gm (R:=Rel F C.B w) (R':=Rel E.F0 E.B w) (λv v' u ha hr=>LS hs (λ_ h=>h) Xs (λk o b hk hb hne=>by
  refine⟨(hs.ob k o hk).lt hb,?_⟩;rintro⟨p,j,ob,g,d,_⟩;exact hne p j (hs.inj p.2 k ob o b g hk d hb)) ha hr) H
 have M:=q.run E (c.args.map a.eval++caps) Xq (by rw[hl,hlen]) (λi v u hv hu=>D (c.args.map a.eval++caps).toList (λi v u hv hu=>hr i v u hv (by rw[bY] at hu;exact hu)) (by rw[bH];exact hl) i v u hv (by rw[bY];exact hu)) hs';unfold Oper.wp;rw[jR];refine Calls.mono M ?_;rintro e w' ⟨u,v,h',F',rfl,hv,hs2,L⟩;have r:Ev pass w w':=hs2.ev;have N:∀b,F b->F' b:=hs2.new;have hold:∀b,F' b->F b\/pass b\/w.heap.size<=b:=hs2.jq;have hpl:∀b,b<w.heap.size->pass b->∃k ob,h k=some ob/\ob.b=some b:=by
  rintro b _ ⟨p,_,ob,g,d,_⟩;exact⟨p.2,ob,g,d⟩
 have O:∀{x y},Rel F C.B w x y->Rel F' C.B w' x y:=λhr=>(hs.keep hC r hpl hr).mono N (λ_ h=>.inr h);refine⟨u,v.gA (gI m),h.iX m h',F',rfl,(hv.mono (λ_ h=>h) (λ_ h=>h.elim)).gA _,?_,λx y hr=>O hr,I v h' L⟩;have n:∀b,(pass b\/w.heap.size<=b)->∀k ob,(∀p∈m,p.2≠k)->h k=some ob->ob.b≠some b:=by
  intro b hb k ob hne hk d
  rcases hb with⟨p,j,t,l,hb2,_⟩|Y
  ·exact hne p j (hs.inj p.2 k t ob b l hk hb2 d)
  ·have:=(hs.ob k ob hk).lt d;omega
 refine⟨λk ob hk=>?_,λk1 k2 o1 o2 b h1 h2 e1 e2=>?_,λk ob b hk hb=>?_,λb hb=>?_,λb hb=>N b (hs.new b hb),hs2.lt,?_⟩
 ·rcases q8 hk with⟨p,j,rfl,o',T,rfl⟩|⟨hne,hk⟩
  ·exact((hs2.ob _ o' T).mono (λ_ h=>h) (λ_ h=>h.elim)).gA _
  ·refine(fy.keep hC hs r hpl (hs.ob k ob hk) λb hb PN=>n b (.inl PN) k ob hne hk hb).mono N (λ_ h=>.inr h)
 ·rcases q8 h1 with⟨p1,A,rfl,Z,Wp,rfl⟩|⟨Vq,Wq⟩<;>rcases q8 h2 with⟨p2,G,rfl,UM,Vr,rfl⟩|⟨Vs,hk2⟩
  ·have:=hs2.inj _ _ Z UM b Wp Vr e1 e2;rw[(hm p1 A).2.1,(hm p2 G).2.1] at this;rw[<-(hm p1 A).1,<-(hm p2 G).1,this]
  ·exact absurd e2 (n b (hs2.live _ Z b Wp e1).2 k2 o2 Vs hk2)
  ·exact absurd e1 (n b (hs2.live _ UM b Vr e2).2 k1 o1 Vq Wq)
  ·exact hs.inj k1 k2 o1 o2 b Wq hk2 e1 e2
 ·rcases q8 hk with⟨p,j,rfl,o',T,rfl⟩|⟨hne,hk⟩
  ·obtain⟨g1,g2⟩:=hs2.live _ o' b T hb;refine⟨g1,?_⟩
   rcases g2 with⟨p2,_,t,l,hb2,_⟩|Y
   ·exact(hs.live _ t b l hb2).2
   ·exact .inr (bG hs.ev.size Y)
  ·obtain⟨g1,g2⟩:=hs.live k ob b hk hb;refine⟨λXt=>?_,g2⟩
   rcases hold b Xt with h|h|h
   ·exact g1 h
   ·exact n b (.inl h) k ob hne hk hb
   ·have:=(hs.ob k ob hk).lt hb;omega
 ·rcases hold b hb with h|h|h
  ·exact hs.jq b h
  ·obtain⟨p,_,ob,g,d,_⟩:=h;exact .inr (hs.live _ ob b g d).2
  ·exact .inr (.inr (bG hs.ev.size h))
 ·refine Ev.j8 hs.ev r ?_;rintro b hb ⟨p,_,ob,g,d,_⟩
  rcases(hs.live _ ob b g d).2 with h|h
  ·exact h
  ·omega
def sX(P:Program)(T:cp):Prop:=∀(C:Ctx)(F:Nat->Prop)(w:World)(a:Act)(h:Hp)(K:V->Hp->Prop)(Q:Exit->Act->World->Prop)(o:Oper)(c:Call)(f:Nat)(caps:Array Value)(vs:List V),C.Ok->o.op=.call c->(∃op,c.callee=.value op/\a.eval op=.func (.func f) #[] caps)->gg C F h w->(c.args.map a.eval++caps).size=vs.length->
  (∀(i:Nat)(v:V)(u:Value),vs[i]? =some v->(c.args.map a.eval++caps)[i]? =some u->Rel F C.B w v u)->T f vs h K->o.wp P a w (fO C F w a o.dst K) Q
def jj(h h0:Hp):Prop:=∀(C:Ctx)(F:Nat->Prop)(w:World),C.Ok->gg C F h w->∃F',(∀b,F b->F' b)/\gg C F' h0 w
def fa(P:Program):cp:=λf args h K=>∃h0,jj h h0/\Cv P f args h0 K
theorem u6:sX P (fa P):=λC F w a h K Q o c f caps vs e ho hf hs hl hr hK=>by
 obtain⟨h0,he,hK⟩:=hK;obtain⟨F',hF,hs'⟩:=he C F w e hs;refine Oper.wp_mono (λj w' b=>?_) (yT (K:=K) (Q:=Q) e ho hf hs' hl (λi v u hv hu=>(hr i v u hv hu).mono hF (λ_ h=>.inr h)) hK);obtain⟨u,v',h',g,e1,e2,e3,e4,e5⟩:=b;exact⟨u,v',h',g,e1,e2,e3,λx y d=>e4 x y (d.mono hF (λ_ h=>.inr h)),e5⟩
end
def fj(P:Program):cp:=λf args h K=>
 ∃(m:List (Nat×Nat))(args':List V)(hp:Hp)(v:V),Spec P f args' hp (λx h'=>x=v/\h'=hp)/\k6 h m args args'/\
  (∀k o,hp k=some o->∃p∈m,p.1=k)/\(∀p∈m,gI m p.1=p.2/\gT m p.2=p.1/\∃o,hp p.1=some o/\(h p.2).map (Ob.gA (gT m))=some o/\o.Fz)/\K (v.gA (gI m)) h
theorem Rel.SE{F B:Nat->Prop}{w:World}{v:V}{u:Value}(f:Nat->Nat)(h:Rel F B w (v.rl f) u):Rel F B w v u:=by
 cases v<;>try exact h
 case own k b sz n=>
  simp only[V.rl] at h;cases h with
  |ownnil=>exact .ownnil _ _
  |own _ b _ _ cap c e fr h hs hm hn=>exact .own _ b sz n cap c e fr h hs hm hn
 case win k b sz lo hi=>
  simp only[V.rl] at h;cases h with
  |winemp=>exact .winemp _ _ _ _ _
  |win _ b _ cap _ _ c e fr h hs hm hn h0 h1=>exact .win _ b _ cap _ _ c e fr h hs hm hn h0 h1
 case ptr k b sz i off=>
  simp only[V.rl] at h;cases h;exact .ptr _ _ _ _ _
theorem fy.Cw{F B:Nat->Prop}{w:World}{o:Ob}(f:Nat->Nat)(h:fy F B w (o.gA f)):fy F B w o:=by
 unfold fy at h⊢;simp only[Ob.gA] at h;cases hb:o.b with
 |none=>rw[hb] at h;simp only at h⊢;simpa using h
 |some b=>
  rw[hb] at h;obtain⟨c,cap,hc,h1,h2,h3,h4,h5⟩:=h;refine⟨c,cap,hc,h1,h2,by simpa using h3,λr hr=>?_,λi j r v hi hj=>?_⟩
  ·have:=h4 (r.map (V.rl f)) (aC.2 ⟨r,hr,rfl⟩);simpa using this
  ·obtain⟨u,hu,a,hr⟩:=h5 i j (r.map (V.rl f)) (v.rl f) (by simp[hi]) (by simp[hj]);exact⟨u,hu,a,hr.SE f⟩
theorem yU{P:Program}:sX P (fj P):=by
 intro C F w a h K Q o c f caps vs x ho hf hs hl hr hK;obtain⟨m,args',hp,v,h1,h2,h3,h4,h5⟩:=hK;have y:Cv P f vs h (λv' h'=>v'=v.gA (gI m)/\h'=h.iX m hp):=⟨m,args',hp,_,h1,h2,h3,λp n=>by
  obtain⟨a1,a2,o,a3,a4,a5⟩:=h4 p n;refine⟨a1,a2,λo' l=>?_⟩;rw[a3] at l;cases l;exact⟨a4,a5⟩,λv' h' hv=>by obtain⟨rfl,rfl⟩:=hv;exact⟨rfl,rfl⟩⟩
 refine Oper.wp_mono (λz w' j=>?_) (yT x ho hf hs hl hr y);obtain⟨u,v',h',F',e1,e2,e3,e4,rfl,rfl⟩:=j;have g:∀k ob,h k=some ob->∃d,h.iX m hp k=some d/\d.b=ob.b/\(fy F' C.B w' d->fy F' C.B w' ob):=by
  intro k ob hk;unfold Hp.iX;cases m with
  |nil=>exact⟨ob,hk,rfl,id⟩
  |cons q m=>
   simp only[]
   by_cases e:((q::m).any λp=>decide (p.2=k))=true
   ·rw[ae e];obtain⟨p,r,i⟩:=cE.1 e;have i:p.2=k:=by simpa using i
    obtain⟨a1,a2,o',a3,a4,a5⟩:=h4 p r;rw[i,hk] at a4;simp only[aN,aH] at a4;subst a4;rw[<-i,a2,a3];exact⟨_,rfl,rfl,λhh=>(hh.Cw _).Cw _⟩
   ·rw[aa e];exact⟨ob,hk,rfl,id⟩
 refine⟨u,_,h,F',e1,e2,⟨λk ob hk=>?_,λk k' ob d b hk s hb t=>?_,λk ob b hk hb=>?_,e3.jq,e3.new,e3.lt,e3.ev⟩,e4,h5⟩
 ·obtain⟨d,g1,g2,g3⟩:=g k ob hk;exact g3 (e3.ob k d g1)
 ·obtain⟨o1,g1,g2,_⟩:=g k ob hk;obtain⟨o2,g3,g4,_⟩:=g k' d s;exact e3.inj k k' o1 o2 b g1 g3 (g2.trans hb) (g4.trans t)
 ·obtain⟨o1,g1,g2,_⟩:=g k ob hk;exact e3.live k o1 b g1 (g2.trans hb)
theorem lu:∀{ts:List Nat}{cs c:List V}{r:Bool},gJ ts cs c=some r->cs.length=ts.length/\c.length=ts.length
 |[],[],[],_,_=>⟨rfl,rfl⟩
 |t::ts,a::l,b::m,r,h=>by
  simp only[gJ] at h
  split at h
  ·rename_i x y h1 h2;obtain⟨g1,g2⟩:=lu h2;simp[g1,g2]
  ·cases h
 |[],_::_,_,_,h=>by simp[gJ] at h
 |[],[],_::_,_,h=>by simp[gJ] at h
 |_::_,[],_,_,h=>by simp[gJ] at h
 |_::_,_::_,[],_,h=>by simp[gJ] at h
theorem oE:∀{t1 t2:List Nat}{cs c:List V}{r:Bool},gJ (t1++t2) cs c=some r->
  ∃r1 r2,gJ t1 (cs.take t1.length) (c.take t1.length)=some r1/\gJ t2 (cs.drop t1.length) (c.drop t1.length)=some r2/\r=(r1&&r2)
 |[],t2,cs,c,r,h=>⟨true,r,rfl,by simpa using h,by simp⟩
 |t::t1,t2,a::l,b::m,r,h=>by
  simp only[ay,gJ] at h
  split at h
  ·rename_i x y h1 h2;obtain⟨r1,r2,g1,g2,rfl⟩:=oE h2;cases h;exact⟨x&&r1,r2,by simp[gJ,h1,g1],by simpa using g2,by simp[Bool.and_assoc]⟩
  ·cases h
 |t::t1,t2,[],_,r,h=>by simp[gJ] at h
 |t::t1,t2,_::_,[],r,h=>by simp[gJ] at h
section
variable {P:Program}
def At(F B:Nat->Prop)(w:World)(cs:List V)(xs:Array Value)(off:Nat):Prop:=∀(i:Nat)(v:V),cs[i]? =some v->∃u,xs[off+i]? =some u/\Rel F B w v u
theorem At.take{F B:Nat->Prop}{w:World}{cs:List V}{xs:Array Value}{off:Nat}(h:At F B w cs xs off)(n:Nat):At F B w (cs.take n) xs off:=λi v hv=>by
 rw[bn] at hv
 split at hv
 ·exact h i v hv
 ·cases hv
theorem At.drop{F B:Nat->Prop}{w:World}{cs:List V}{xs:Array Value}{off:Nat}(h:At F B w cs xs off)(n:Nat):At F B w (cs.drop n) xs (off+n):=λi v hv=>by
 rw[bg] at hv;rw[cg];exact h _ v hv
def PO(P:Program)(dd:Nat)(t:TypeId)(ts:List Nat):Prop:=∀(F B:Nat->Prop)(w:World)(xs c:Array Value)(off:Nat)(cs d:List V)(r:Bool),At F B w cs xs off->At F B w d c off->gJ ts cs d=some r->
 ∃a b,(part t xs off).run P w=.ok a w/\(part t c off).run P w=.ok b w/\(Op.equalIn dd t a b).run P w=.ok r w
def UN(P:Program)(dd:Nat)(t:TypeId)(ts:List Nat):Prop:=∀(F B:Nat->Prop)(w:World)(xs a:Array Value)(cs b:List V)(r:Bool),At F B w cs xs 0->At F B w b a 0->gJ ts cs b=some r->
 (Op.equalIn dd t (.agg xs) (.agg a)).run P w=.ok r w
theorem u7{dd:Nat}{t:TypeId}{ts:List Nat}(b:(∃fs,P.underlying t=some (.struct fs))\/∃n e,P.underlying t=some (.array n e))(hsz:P.cellsOf t=ts.length)(h:UN P dd t ts):PO P dd t ts:=by
 intro F B w xs c off cs d r hx hy he;obtain⟨g1,g2⟩:=lu he;have a:∀xs:Array Value,(part t xs off).run P w=.ok (.agg (xs.extract off (off+P.cellsOf t))) w:=by
  intro xs
  rcases b with⟨fs,hu⟩|⟨n,e,hu⟩
  ·obtain⟨i,hi⟩:=info_of_underlying hu;simp[part,isAgg,run_underlying hu,run_sizeOf w hi]
  ·obtain⟨i,hi⟩:=info_of_underlying hu;simp[part,isAgg,run_underlying hu,run_sizeOf w hi]
 have sub:∀{cs:List V}{xs:Array Value},cs.length=ts.length->At F B w cs xs off->At F B w cs (xs.extract off (off+P.cellsOf t)) 0:=by
  intro cs xs hl ha i v hv;obtain⟨u,hu,hr⟩:=ha i v hv;have hi:i<cs.length:=(ah.1 hv).1;have hb:=(aD.1 hu).1;refine⟨u,?_,hr⟩;rw[aS,dt,ae qW];exact hu
 exact⟨_,_,a xs,a c,h F B w _ _ cs d r (sub g1 hx) (sub g2 hy) he⟩
theorem sY{dd:Nat}{t:TypeId}{ts:List Nat}(h:(P.underlying t=some .bool/\ts=[0])\/(∃k,P.underlying t=some (.int k)/\ts=[1])\/(P.underlying t=some .string/\ts=[2])):PO P (dd+1) t ts:=by
 intro F B w xs g off cs f r hx hy he;have one:∃m,ts=[m]:=by rcases h with⟨_,h⟩|⟨_,_,h⟩|⟨_,h⟩<;>exact⟨_,h⟩
 obtain⟨m,rfl⟩:=one;obtain⟨g1,g2⟩:=lu he
 match cs,f,g1,g2 with
 |[a],[b],_,_=>
  obtain⟨u,hu,c⟩:=hx 0 a rfl;obtain⟨v,hv,d⟩:=hy 0 b rfl;rw[bP] at hu hv;simp only[gJ] at he;cases hc:m5 m a b with
  |none=>rw[hc] at he;cases he
  |some q=>
   rw[hc] at he;simp only[Bool.and_true,aH] at he;subst he;have hp:P.plainKey t=true:=by
    unfold Program.plainKey
    rcases h with⟨h,_⟩|⟨k,h,_⟩|⟨h,_⟩<;>rw[h]
   refine⟨u,v,run_part_plain w hp hu,run_part_plain w hp hv,?_⟩
   rcases h with⟨e,hm⟩|⟨k,e,hm⟩|⟨e,hm⟩<;>simp only[bB,eO] at hm<;>subst hm
   ·cases a<;>simp only[m5] at hc<;>try(cases hc;done)
    cases b<;>simp only[m5] at hc<;>try(cases hc;done)
    cases c;cases d;cases hc;exact run_equalIn_bool w dd t _ _ e
   ·cases a<;>simp only[m5] at hc<;>try(cases hc;done)
    cases b<;>simp only[m5] at hc<;>try(cases hc;done)
    cases c;cases d
    split at hc
    ·rename_i hk;subst hk;cases hc;rw[run_equalIn_int w dd t _ _ _ _ e]
     congr 1
    ·cases hc
   ·cases a<;>simp only[m5] at hc<;>try(cases hc;done)
    cases b<;>simp only[m5] at hc<;>try(cases hc;done)
    cases c;cases d;cases hc;rw[run_equalIn_string w dd t _ _ e,toList_inj]
theorem re{dd:Nat}{g:TypeId->Option (List Nat)}(hg:∀t c,g t=some c->P.cellsOf t=c.length->PO P dd t c)(F B:Nat->Prop)(w:World)(xs h:Array Value):∀(fs:List Field)(off:Nat)(ts:List Nat)(cs e:List V)(r:Bool),wO P g fs off=some ts->
  At F B w cs xs off->At F B w e h off->gJ ts cs e=some r->(Op.eqFields dd xs h fs).run P w=.ok r w
 |[],off,ts,cs,e,r,hf,_,_,he=>by
  simp only[wO,aH] at hf;subst hf;obtain⟨g1,g2⟩:=lu he
  match cs,e,g1,g2 with
  |[],[],_,_=>simp only[gJ,aH] at he;subst he;simp[Op.eqFields]
 |f::fs,off,ts,cs,e,r,hf,hx,hy,he=>by
  simp only[wO] at hf
  split at hf
  ·rename_i c hc
   split at hf
   ·rename_i d;obtain⟨hn,ho,hs⟩:=d;simp only[au] at hf;obtain⟨i,hf,rfl⟩:=hf;obtain⟨r1,r2,e1,e2,rfl⟩:=oE he;obtain⟨a,b,p1,p2,j⟩:=hg _ _ hc hs F B w xs h off _ _ _ (hx.take _) (hy.take _) e1;have ih:=re hg F B w xs h fs (off+c.length) i _ _ r2 hf (hx.drop _) (hy.drop _) e2;rw[<-ho] at p1 p2;simp only[Op.eqFields,hn,ne_eq,not_false_eq_true,if_true,Sem.run_bind,p1,p2,j,Result.andThen_ok];cases r1
    ·simp
    ·simpa using ih
   ·cases hf
  ·cases hf
theorem tE{dd:Nat}{e:TypeId}{c:List Nat}(hg:PO P dd e c)(hs:P.cellsOf e=c.length)(F B:Nat->Prop)(w:World)(xs f:Array Value):∀(n s:Nat)(cs d:List V)(r:Bool),
  At F B w cs xs (s*c.length)->At F B w d f (s*c.length)->gJ (List.replicate n c).flatten cs d=some r->(Op.eqItems dd e (P.cellsOf e) xs f (List.range' s n)).run P w=.ok r w
 |0,s,cs,d,r,_,_,he=>by
  obtain⟨g1,g2⟩:=lu he;simp only[List.replicate_zero,cX,aK] at g1 g2
  match cs,d,g1,g2 with
  |[],[],_,_=>simp[gJ] at he;subst he;simp[Op.eqItems]
 |n+1,s,cs,d,r,hx,hy,he=>by
  rw[aB,bI] at he;obtain⟨r1,r2,e1,e2,rfl⟩:=oE he;obtain⟨a,b,p1,p2,g⟩:=hg F B w xs f _ _ _ _ (hx.take c.length) (hy.take c.length) e1;have hm:s*c.length+c.length=(s+1)*c.length:=by rw[bN];omega
  have ih:=tE hg hs F B w xs f n (s+1) _ _ r2 (by rw[<-hm];exact hx.drop _) (by rw[<-hm];exact hy.drop _) e2;rw[ek];rw[<-hs] at p1 p2;simp only[Op.eqItems,Sem.run_bind,p1,p2,g,Result.andThen_ok];cases r1
  ·simp
  ·simpa using ih
theorem Bn{dd:Nat}{t:TypeId}{fs:Array Field}{ts:List Nat}{g:TypeId->Option (List Nat)}(hu:P.underlying t=some (.struct fs))(hp:P.stoodInHeld t=false)(hg:∀t c,g t=some c->P.cellsOf t=c.length->PO P dd t c)(hf:wO P g fs.toList 0=some ts):UN P (dd+1) t ts:=by
 intro F B w xs b cs d r hx hy he;have a:P.fieldsOf t=fs:=by simp[Program.fieldsOf,hu]
 rw[run_equalIn_struct w dd t xs b (by rw[a];exact hu) hp,a];exact re hg F B w xs b _ 0 ts cs d r hf hx hy he
theorem Ei{dd n:Nat}{t e:TypeId}{c:List Nat}(hu:P.underlying t=some (.array n e))(hi:∃i,P.info? e=some i)(hg:PO P dd e c)(hs:P.cellsOf e=c.length):UN P (dd+1) t (List.replicate n c).flatten:=by
 intro F B w xs a cs b r hx hy he;obtain⟨i,hi⟩:=hi;rw[run_equalIn_array w dd xs a hu hi,List.range_eq_range'];exact tE hg hs F B w xs a n 0 cs b r (by rw[dR];exact hx) (by rw[dR];exact hy) he
theorem Bo:∀{m:Nat}{t:TypeId}{c:List Nat},tB P m t=some c->∃i,P.info? t=some i:=by
 intro m t c h;cases m with
 |zero=>cases h
 |succ m=>
  unfold tB at h;cases hu:P.underlying t with
  |none=>rw[hu] at h;cases h
  |some d=>exact info_of_underlying hu
theorem u9(d:Nat):∀(m:Nat)(t:TypeId)(c:List Nat),tB P m t=some c->(P.cellsOf t=c.length->PO P (d+m) t c)/\((∃fs,P.underlying t=some (.struct fs))\/(∃n e,P.underlying t=some (.array n e))->UN P (d+m) t c)
 |0,_,_,h=>by cases h
 |m+1,t,c,h=>by
  unfold tB at h;cases hu:P.underlying t with
  |none=>rw[hu] at h;cases h
  |some kd=>
   rw[hu] at h;cases kd<;>simp only[] at h<;>try(cases h;done)
   case bool=>cases h;exact⟨λ_=>sY (dd:=d+m) (.inl ⟨hu,rfl⟩),λhh=>by rcases hh with⟨_,h⟩|⟨_,_,h⟩<;>cases h⟩
   case int k=>cases h;exact⟨λ_=>sY (dd:=d+m) (.inr (.inl ⟨k,hu,rfl⟩)),λhh=>by rcases hh with⟨_,h⟩|⟨_,_,h⟩<;>cases h⟩
   case string=>cases h;exact⟨λ_=>sY (dd:=d+m) (.inr (.inr ⟨hu,rfl⟩)),λhh=>by rcases hh with⟨_,h⟩|⟨_,_,h⟩<;>cases h⟩
   case array n e=>
    split at h
    ·rename_i c' hc
     split at h
     ·rename_i hs;cases h;have:=Ei (dd:=d+m) hu (Bo hc) ((u9 d m e c' hc).1 hs) hs;exact⟨λhsz=>u7 (.inr ⟨_,_,hu⟩) hsz this,λ_=>this⟩
     ·cases h
    ·cases h
   case struct fs=>
    split at h
    ·cases h
    ·rename_i hp;have:=Bn (dd:=d+m) (ts:=c) hu (by simpa using hp) (λt c hc hs=>(u9 d m t c hc).1 hs) h;exact⟨λhsz=>u7 (.inl ⟨_,hu⟩) hsz this,λ_=>this⟩
end
section
variable {P:Program} {C:Ctx} {F:Nat->Prop} {w w':World} {a:Act} {s:S} {h:Hp} {K:V->Hp->Prop} {Q:Exit->Act->World->Prop} {o:Oper}
theorem Bp{src dst e:TypeId}{x:Operand}{i:V}{l:BS}(ho:o.op=.convert src dst x)(h1:P.underlying src=some (.slice e))(he:P.underlying e=some (.int .u8))(h2:P.underlying dst=some .string)(hs:gg C F h w)
  (hx:Rel F C.B w i (a.eval x))(hr:rowsOf h 1 i=some (l.map λb=>[V.int .u8 b.toNat]))(hK:K (.str l) h):o.wp P a w (fO C F w a o.dst K) Q:=by
 refine wp_pure (u:=.string ⟨l.toArray⟩) hs ?_ (.str l) hK;have jR:(convert src dst (a.eval x)).run P w=.ok (.string ⟨l.toArray⟩) w:=by
  rcases sV hs hx hr with⟨h0,hu⟩|⟨ad,cap,us,hu,f,c⟩
  ·have hl:l=[]:=by simpa using h0
   subst hl;rw[hu,run_convert_bytes_string w src dst e none 0 0 h1 he h2];rfl
  ·rw[hu];have:=run_convert_bytes_back w src dst e ad cap l h1 he h2 (λj hj=>?_)
   ·simpa using this
   ·obtain⟨u,d,g⟩:=f.rel j 0 [V.int .u8 (l[j].toNat:Nat)] (V.int .u8 (l[j].toNat:Nat)) (by simp[hj]) rfl;rw[Nat.mul_one,bP] at d;rw[c j u d];cases g;rfl
 unfold execOp;rw[ho]
 generalize a.eval=k at*
 simp only[Sem.run_bind,jR,Result.andThen_ok,Sem.run_pure]
theorem LU{T e:TypeId}{x y:Operand}{cs:List V}{k:IntKind}{i:Int}{g:Bool}{len sz:Nat}(ho:o.op=.index T x y)(hd:P.underlying T=some (.array len e))(hg:ku P e=some g)(hn:qZ P e=some sz)(hs:gg C F h w)
  (hx:Rel F C.B w (.agg cs) (a.eval x))(hy:Rel F C.B w (.int k i) (a.eval y))(h0:0<=i)(h1:i<len)(hl:len*sz<=cs.length)(hsz:0<sz)(hK:K (if g then .agg ((cs.drop (i.toNat*sz)).take sz) else cs.getD (i.toNat*sz) .gS) h):o.wp P a w (fO C F w a o.dst K) Q:=by
 generalize hex:a.eval x=l at hx
 generalize b:a.eval y=m at hy
 cases hy;cases hx with
 |agg _ us d hr=>
  have hle:i.toNat*sz+sz<=cs.length:=by
   have:(i.toNat+1)*sz<=len*sz:=bh _ qW;rw[bN,Nat.one_mul] at this;omega
  cases g with
  |true=>
   refine wp_pure (u:=.agg (us.extract (i.toNat*sz) (i.toNat*sz+sz))) hs ?_ (.agg _ _ (by simp;omega) λj v u hv hu=>?_) hK
   ·generalize a.eval=f at*
    simp[execOp,ho,hex,b,Sem.run_bind,Sem.run_pure,Instr.index,asIntOf,run_underlying hd,part,l6 hg,gb hn,h0,h1]
   ·simp only[bn,bg] at hv
    split at hv
    ·refine hr _ v u hv ?_;simp only[dt] at hu
     split at hu
     ·exact hu
     ·simp at hu
    ·simp at hv
  |false=>
   have c:i.toNat*sz<us.size:=by omega
   refine wp_pure (u:=us[i.toNat*sz]) hs ?_ (hr (i.toNat*sz) _ _ (by simp[aA,show i.toNat*sz<cs.length by omega]) (by simp[c])) hK
   generalize a.eval=f at*
   simp[execOp,ho,hex,b,Sem.run_bind,Sem.run_pure,Instr.index,asIntOf,run_underlying hd,part,l6 hg,gb hn,h0,h1,c]
end
end Go.Proofs.YtobngncjflogcaaGreat.AM
