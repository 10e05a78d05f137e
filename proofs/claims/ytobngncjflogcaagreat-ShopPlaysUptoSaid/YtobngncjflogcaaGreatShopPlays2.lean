/-
  Part 2 of what the law ShopPlays reaches: the plain machine, contracts of the functions and plain laws; each lemma says its own condition.
-/
import Derived.Test.YtobngncjflogcaaGreatShopPlays1
import Derived.ChangeKeysEq
import Derived.Laws.IdiomStrings
set_option linter.unusedVariables false
set_option linter.unusedSimpArgs false
namespace Go.Proofs.YtobngncjflogcaaGreat.AM
open Go
open Go.BigFrame
section
variable {P:Program} {C:Ctx} {F:Nat->Prop} {w w':World} {a:Act} {s:S} {h:Hp} {K:V->Hp->Prop} {Q:Exit->Act->World->Prop} {o:Oper}
theorem Mj{e:TypeId}{i:TypeInfo}{z:List Value}(hi:P.info? e=some i)(hz:mZ P e=some z):∃b:Value,i.zero=some b/\b.cells.toList=z:=by
 simp only[mZ,hi,Option.bind_some,ak] at hz;exact hz
theorem mg{T e ty:TypeId}{i:TypeInfo}(hd:P.underlying T=some (.slice e))(hi:P.info? e=some i)(b:Option Addr)(n cap:Nat)(q:Option Addr)(c:Nat)(hn:n<=cap):
  (Builtin.append_ #[T,T] ty #[.slice b n cap,.slice q 0 c]).run P w=.ok (.slice b n cap) w:=by
 have hf:(Builtin.firstCells i.size 0 (.slice q 0 c)).run P w=.ok #[] w:=by
  cases q<;>simp[Builtin.firstCells,Sem.run_pure,loadCells,loadCellsFrom]
 cases b<;>simp[Builtin.append_,Sem.run_bind,Sem.run_pure,run_underlying hd,sizeOf,typeInfo,hi,Builtin.lenOf,hn,hf,storeCells]
theorem og{c:Call}{x y:Operand}{T:TypeId}{u:Value}(ho:o.op=.call c)(hb:c.callee=.builtin .append)(hx:c.args= #[x,y])(b:c.argTypes= #[T,T])
  (hr:∀ty,(Builtin.append_ #[T,T] ty #[a.eval x,a.eval y]).run P w=.ok u w'):(execOp a.eval o).run P w=.ok (.value u) w':=by
 obtain⟨callee,args,d⟩:=c;cases hb;cases hx;cases b;unfold execOp;rw[ho];simp only[resolve,Sem.run_bind,Sem.run_pure,Result.andThen_ok,invoke,builtin_append,eN,aR,ej,hr]
theorem wL{m n b:Nat}(h:((m:Int)+n)*b<=140737488355328):(m+n)*b<=140737488355328:=by
 have e:(((m+n)*b:Nat):Int)=((m:Int)+n)*b:=by rw[ec,dp]
 omega
theorem Ml(z:Array Value)(n:Nat):(Builtin.zeroCells z n).size=n*z.size:=by simp[Builtin.zeroCells]
theorem Bw(Z:C.Ok){c:Call}{x y:Operand}{T e k:TypeId}{i:TypeInfo}{z:List Value}{vx vy:V}(ho:o.op=.call c)(hb:c.callee=.builtin .append)(hx:c.args= #[x,y])(hT:c.argTypes= #[T,T])
  (hd:P.underlying T=some (.slice e))(hi:P.info? e=some i)(hz:mZ P e=some z)(hsz:i.size=z.length)(VL:0<z.length)(Xh:0<i.bytes)(hs:gN C F h w)
  (h1:Rel F C.B w vx (a.eval x))(h2:Rel F C.B w vy (a.eval y))(hK:rM h k e i.size i.bytes vx vy K):o.wp P a w (gm C F w a o.dst K) Q:=by
 obtain⟨zv,Xi,Yr⟩:=Mj hi hz;have Ys:zv.cells.size=i.size:=by rw[hsz,<-Yr];simp
 unfold rM at hK;cases H:rowsOf h i.size vy with
 |none=>rw[H] at hK;exact hK.elim
 |some news=>
  rw[H] at hK;simp only[] at hK;have Pn:=sQ hs h2 H
  generalize hex:a.eval x=ux at h1
  generalize I:a.eval y=uy at Pn
  by_cases Mm:news=[]
  ·subst Mm;have Yt:∃q c,uy=.slice q 0 c:=by
    rcases Pn with⟨_,rfl⟩|⟨ad,cap,us,rfl,_⟩
    ·exact⟨none,0,rfl⟩
    ·exact⟨some ad,cap,rfl⟩
   obtain⟨q,cq,rfl⟩:=Yt;cases h1 with
   |nilsl=>
    obtain⟨hk,_,hK⟩:=hK;refine mG Z (k:=k) (u:=.slice none 0 0) (w':=w) (L:=λ_=>False) hs (og ho hb hx hT λty=>?_) (Ev.refl _ _) (λ_ _ h=>h.elim) (.ownnil k i.size) (show fU F C.B w ⟨none,e,i.size,[]⟩ from rfl) (λb hb=>by cases hb) (hK none);rw[hex,I];exact mg hd hi none 0 0 q cq (ah _)
   |ownnil j sz'=>
    simp only[] at hK;cases hj:h j with
    |none=>rw[hj] at hK;exact hK.elim
    |some ob=>
     rw[hj] at hK;obtain⟨e1,e2,e3,e4,J,_,hK⟩:=hK;subst e3;have hK:=hK none;have ku:ob.rows=[]:=ay J;rw[ku] at hK;refine mG Z (k:=j) (u:=.slice none 0 0) (w':=w) (L:=λ_=>False) hs (og ho hb hx hT λty=>?_) (Ev.refl _ _) (λ_ _ h=>h.elim) (.ownnil j i.size) (show fU F C.B w ⟨none,e,i.size,[]⟩ from rfl) (λb hb=>by cases hb) hK;rw[hex,I];exact mg hd hi none 0 0 q cq (ah _)
   |own j b sz' n cap D ee fr W Vb hm hn=>
    simp only[] at hK;cases hj:h j with
    |none=>rw[hj] at hK;exact hK.elim
    |some ob=>
     rw[hj] at hK;obtain⟨e1,e2,e3,e4,J,_,hK⟩:=hK;subst e3;have hK:=hK (some b);simp only[aS,aT,ct] at hK;have VM:ob=⟨some b,e,i.size,ob.rows⟩:=by cases ob;simp at e1 e2 e4⊢;exact⟨e1,e4,e2⟩
     refine mG Z (k:=j) (u:=.slice (some ⟨b,0,none⟩) n cap) (w':=w) (L:=λ_=>False) hs (og ho hb hx hT λty=>?_) (Ev.refl _ _) (λ_ _ h=>h.elim) (.own j b i.size n cap D ee fr W Vb hm hn) (by rw[<-VM];exact hs.ob j ob hj) (λb' hb'=>.inr ⟨ob,hj,by rw[e1];exact hb'⟩) hK;rw[hex,I];exact mg hd hi _ n cap q cq hn
   |_=>exact hK.elim
  ·have Yu:0<news.length:=eh.2 Mm
   rcases Pn with⟨h0,_⟩|⟨ad,E,us,rfl,f,M⟩
   ·exact absurd h0 Mm
   have fresh:∀(j:Nat)(gH:List (List V))(l:List Value)(d:Nat),Flat F C.B w i.size gH l->d<gH.length+news.length->((gH.length:Int)+news.length)*i.bytes<=140737488355328->
     (∀ty,(Builtin.append_ #[T,T] ty #[ux,.slice (some ad) news.length E]).run P w=.ok (.slice (some ⟨w.heap.size,0,none⟩) (gH.length+news.length) (grownCap w (gH.length+news.length) d e))
      (w.drew.alloc (.cells (l.toArray++us.toArray++Builtin.zeroCells zv.cells (grownCap w (gH.length+news.length) d e-(gH.length+news.length))) e)))->
     K (.own j (some w.heap.size) i.size (gH.length+news.length)) (h.put j ⟨some w.heap.size,e,i.size,gH++news⟩)->o.wp P a w (gm C F w a o.dst K) Q:=by
    intro j gH l d A hlt g mF hk;have G:=wL g
    have Yv:gH.length+news.length<=maxLen:=by
     have:=aV (dA (gH.length+news.length) Xh) G;simp only[maxLen];omega
    have Xj:=grownCap_ge w (gH.length+news.length) d e;have Xk:=grownCap_le_maxLen w (gH.length+news.length) d e Yv;have N:Ev (λ_=>False) w (w.drew.alloc (.cells (l.toArray++us.toArray++Builtin.zeroCells zv.cells (grownCap w (gH.length+news.length) d e-(gH.length+news.length))) e)):=(Ev.drew _ _).trans (Ev.alloc _ _ _);have O:=(A.append f).keep (λx y hr=>hs.keep Z N (λ_ _ h=>h.elim) hr);have r:(l.toArray++us.toArray++Builtin.zeroCells zv.cells (grownCap w (gH.length+news.length) d e-(gH.length+news.length))).size=grownCap w (gH.length+news.length) d e*i.size:=by
     simp only[Array.size_append,dI,Ml,Ys,A.len,f.len,<-bV]
     congr 1
     omega
    have p:=heap_alloc_new w.drew (Obj.cells (l.toArray++us.toArray++Builtin.zeroCells zv.cells (grownCap w (gH.length+news.length) d e-(gH.length+news.length))) e);refine mG Z (k:=j) (L:=λ_=>False) hs (og ho hb hx hT λty=>?_) N (λ_ _ h=>h.elim) (.own j w.heap.size i.size (gH.length+news.length) _ _ e (0,0) p r Xk Xj) (fU.of_flat p r Xk (by rw[ag];exact Xj) O λm u hu=>?_) (λb hb'=>.inl (by cases hb';exact ah _)) hk
    ·rw[hex,I];exact mF ty
    ·have hlt:m<(l++us).length:=(aj.1 hu).1;rw[cx (by simpa using hlt)];simpa using hu
   have small:∀n:Nat,((n:Int)+news.length)*i.bytes<=140737488355328->((n+news.length:Nat):Int)<=9223372036854775807/\(n+news.length)*i.bytes<=140737488355328:=by
    intro n g
    have G:=wL g
    have:=aV (dA (n+news.length) Xh) G;exact⟨by clear g;omega,G⟩
   have Y:ux=.slice none 0 0->((0:Int)+news.length)*i.bytes<=140737488355328->∀j,K (.own j (some w.heap.size) i.size (0+news.length)) (h.put j ⟨some w.heap.size,e,i.size,[]++news⟩)->o.wp P a w (gm C F w a o.dst K) Q:=by
    intro hu g j hk;subst hu;obtain⟨s1,s2⟩:=small 0 (by simpa using g);refine fresh j [] [] 0 ⟨by simp,by simp,by simp,by simp⟩ (by simp only[aT];omega) g (λty=>?_) hk;have:=run_append_nil (P:=P) w T ty e i zv hd hi Xi ad news.length E us f.len M Yu qW (by rw[bf] at s2;omega);simp only[aT,bf];simpa using this
   cases h1 with
   |nilsl=>
    obtain⟨hk,g,hK⟩:=hK;exact Y rfl (by simpa using g) k (by simpa using hK (some w.heap.size))
   |ownnil j sz'=>
    simp only[] at hK;cases hj:h j with
    |none=>rw[hj] at hK;exact hK.elim
    |some ob=>
     rw[hj] at hK;obtain⟨e1,e2,e3,e4,J,g,hK⟩:=hK;subst e3;have ku:ob.rows=[]:=ay J;have hK:=hK (some w.heap.size);rw[ku] at hK;exact Y rfl (by simpa using g) j hK
   |own j b sz' n cap D ee fr W Vb hm hn=>
    simp only[] at hK;cases hj:h j with
    |none=>rw[hj] at hK;exact hK.elim
    |some ob=>
     rw[hj] at hK;obtain⟨e1,e2,e3,e4,J,g,hK⟩:=hK;subst e3;obtain⟨s1,s2⟩:=small n g
     obtain⟨c',t,l,R,g1,g2,g3,A,U⟩:=Mi (C:=C) (hs.ob j ob hj) e1;rw[R] at W;cases W;rw[e2] at g1 A U;have n3:t=cap:=Nat.eq_of_mul_eq_mul_right (by rw[hsz];exact VL) (g1.symm.trans Vb);subst n3;have X:∀(m:Nat)(u:Value),l[m]? =some u->w.cell? ((⟨b,0,none⟩:Addr).add m)=some u:=by
      intro m u hu;rw[kL,bf,cell_of_row w b m D ob.ty (0,0) R];rw[U,bq] at hu
      split at hu
      ·simpa using hu
      ·cases hu
     by_cases v:n+news.length<=t
     ·have VN:n*i.size+us.length<=D.size:=by rw[f.len,g1,<-bV];exact bD _ v
      have hr:=λty=>run_append_room (P:=P) w T ty e i hd hi b n t D (by rw[R,e4]) ad news.length E us f.len M f.one v VN;have r:((D.toList.take (n*i.size)++us++D.toList.drop (n*i.size+us.length)).toArray).size=D.size:=by
       simp only[dI,ag,aI,aJ,bL];omega
      have N:Ev (λx=>x=b) w (w.setRow b (D.toList.take (n*i.size)++us++D.toList.drop (n*i.size+us.length)).toArray):=Ev.setRow rfl R r;have p:=setRow_heap w b D (D.toList.take (n*i.size)++us++D.toList.drop (n*i.size+us.length)).toArray ob.ty (0,0) R;have O:=(A.append f).keep (λx y hr=>hs.keep Z N (λx _ hx=>⟨j,ob,hj,by rw[e1,hx]⟩) hr);rw[e4] at p;refine mG Z (k:=j) (L:=λx=>x=b) hs (og ho hb hx hT λty=>?_) N (λx _ hx=>⟨ob,hj,by rw[e1,hx]⟩) (.own j b i.size (n+news.length) t _ e (0,0) p (by rw[r,g1]) g2 v)
       (fU.of_flat p (by rw[r,g1]) g2 (by rw[ag,J];exact v) O λm u hu=>?_) (λb' hb'=>.inr ⟨ob,hj,by rw[e1];exact hb'⟩) (hK (some b))
      ·rw[hex,I];exact hr ty
      ·have hlt:m<(l++us).length:=(aj.1 hu).1;have Yw:l=D.toList.take (n*i.size):=by rw[U,J]
       rw[Yw] at hu hlt;rw[List.getElem?_toArray,bg (by simpa using hlt)];exact hu
     ·refine fresh j ob.rows l t A qW (by rw[J];exact g) (λty=>?_) (by rw[J];exact hK (some w.heap.size));have:=run_append_grow (P:=P) w T ty e i zv hd hi Xi ⟨b,0,none⟩ n t l (by rw[A.len,J]) X ad news.length E us f.len M qW qW (growslice_fits qW s2);rw[J];exact this
   |_=>exact hK.elim
end
theorem Bx(vs:List Value):∀(k off:Nat)(cells:Array Value),off+k+vs.length<=cells.size->
  ((vs.zipIdx k).foldl (λcs(x:Value×Nat)=>cs.setIfInBounds (off+x.2) x.1) cells).size=cells.size/\
  ∀m,((vs.zipIdx k).foldl (λcs(x:Value×Nat)=>cs.setIfInBounds (off+x.2) x.1) cells)[m]? =if m<off+k then cells[m]? else if m<off+k+vs.length then vs[m-(off+k)]? else cells[m]? :=by
 induction vs with
 |nil=>intro k off cells _;refine⟨rfl,λm=>?_⟩;simp only[List.zipIdx_nil,List.foldl_nil,aT,ct];by_cases hm:m<off+k<;>simp[hm]
 |cons v vs ih=>
  intro k off cells h;simp only[List.zipIdx_cons,ef];simp only[au] at h;obtain⟨h1,h2⟩:=ih (k+1) off (cells.setIfInBounds (off+k) v) (by simp;omega);refine⟨by rw[h1];simp,λm=>?_⟩;rw[h2];simp only[bI,au]
  by_cases h3:m<off+k
  ·rw[ae qW,aa qW,ae h3]
  ·by_cases h4:m=off+k
   ·subst h4;rw[ae qW,ae rfl,ae qW,aa qW,ae qW];simp
   ·rw[aa h3]
    by_cases h5:m<off+k+(vs.length+1)
    ·rw[aa qW,ae qW,ae h5,show m-(off+k)=(m-(off+(k+1)))+1 by omega,cK]
    ·rw[aa qW,aa qW,aa qW,aa h5]
theorem tE(v:Value)(off:Nat)(cells:Array Value)(h:off+v.cells.size<=cells.size):
  (v.cells.zipIdx.foldl (λcs(c,j)=>cs.setIfInBounds (off+j) c) cells).size=cells.size/\
  ∀m,(v.cells.zipIdx.foldl (λcs(c,j)=>cs.setIfInBounds (off+j) c) cells)[m]? =if m<off then cells[m]? else if m<off+v.cells.size then v.cells[m-off]? else cells[m]? :=by
 have:=Bx v.cells.toList 0 off cells (by simpa using h);rw[<-Array.foldl_toList,Array.toList_zipIdx];simpa using this
section
variable {P:Program} {C:Ctx} {F:Nat->Prop} {w w':World} {a:Act} {s:S} {h:Hp} {K:V->Hp->Prop} {Q:Exit->Act->World->Prop} {o:Oper}
theorem G6{off:Nat->Option (Nat×Nat)}{n:Nat}:∀(parts:List (Nat×Operand))(ps:List (Nat×Nat×iI))(r:List V)(c:Array Value),nK off n parts=some ps->(hr:∀i:Nat,Rel F C.B w (s.t i) (a.tmps.getD i undef))->
  (∀p∈ps,(p.2.2.ev s).fits p.2.1)->r.length=n->c.size=n->(∀(m:Nat)(v:V)(u:Value),r[m]? =some v->c[m]? =some u->Rel F C.B w v u)->
  ∃c',Instr.fill off c (parts.map λp=>(p.1,a.eval p.2))=some c'/\c'.size=n/\(wF r (ps.map λp=>(p.1,(p.2.2.ev s).cells))).length=n/\
   (∀(m:Nat)(v:V)(u:Value),(wF r (ps.map λp=>(p.1,(p.2.2.ev s).cells)))[m]? =some v->c'[m]? =some u->Rel F C.B w v u):=by
 intro parts
 induction parts with
 |nil=>
  intro ps r c ht hr hf hl hc hrel;simp only[nK,aH] at ht;subst ht;exact⟨c,rfl,hc,hl,hrel⟩
 |cons p parts ih=>
  intro ps r c ht hr hf hl hc hrel;obtain⟨j,x⟩:=p;simp only[nK] at ht;cases h1:off j with
  |none=>rw[h1] at ht;simp at ht
  |some os=>
   obtain⟨o,sz⟩:=os;cases h2:nJ x with
   |none=>rw[h1,h2] at ht;simp at ht
   |some y=>
    cases h3:nK off n parts with
    |none=>rw[h1,h2,h3] at ht;simp at ht
    |some m=>
     rw[h1,h2,h3] at ht;simp only[] at ht
     split at ht
     ·rename_i hle;cases ht;have hy:=fv hr h2;have b:=hf _ (bQ ..);obtain⟨hz,e⟩:=p4 hy b;have f:(y.ev s).cells.length=sz:=b.1;obtain⟨g1,g2⟩:=tE (a.eval x) o c (by rw[hz,hc];exact hle);have g:(kf r o (y.ev s).cells).length=n:=by simp only[kf,ag,aI,aJ];omega
      obtain⟨c',e1,q,z,A⟩:=ih m (kf r o (y.ev s).cells) _ h3 hr (λp hp=>hf p (bM _ hp)) g (g1.trans hc) (λk v u hv hu=>by
       rw[g2] at hu;unfold kf at hv;rw[rj r (y.ev s).cells o k qW] at hv;rw[hz] at hu;rw[f] at hv
       by_cases q1:k<o
       ·rw[ae q1] at hv hu;exact hrel k v u hv hu
       ·rw[aa q1] at hv hu
        by_cases q2:k<o+sz
        ·rw[ae q2] at hv hu;obtain⟨D,d,_,l⟩:=e (k-o) v hv;rw[hu] at d;cases d;exact l
        ·rw[aa q2] at hv hu;exact hrel k v u hv hu)
      refine⟨c',?_,q,z,A⟩;simp only[aR,Instr.fill,h1];rw[aa (by simp[hz];omega)];exact e1
     ·cases ht
theorem wM{T:TypeId}{parts:Array (Nat×Operand)}{z:List Value}{ps:List (Nat×Nat×iI)}{off:Nat->Option (Nat×Nat)}(ho:o.op=.build T parts)(hz:mZ P T=some z)(ht:nK off z.length parts.toList=some ps)
  (d:(∃fs b,P.underlying T=some (.struct fs)/\fs.toList.mapM (λf=>(P.info? f.type).map λi=>(f.offset,i.size))=some b/\off=λj=>b.toArray[j]?)\/(∃k e n,P.underlying T=some (.array k e)/\sN P e=some n/\off=λj=>some (j*n,n)))
  (hs:gN C F h w)(hr:∀i:Nat,Rel F C.B w (s.t i) (a.tmps.getD i undef))(hf:∀p∈ps,(p.2.2.ev s).fits p.2.1)(hK:K (.agg (wF (z.map yM) (ps.map λp=>(p.1,(p.2.2.ev s).cells)))) h):o.wp P a w (gm C F w a o.dst K) Q:=by
 have g:=hz;simp only[mZ,ak,bS] at g;obtain⟨E,⟨it,l,q⟩,r⟩:=g;obtain⟨c',e1,G,H,I⟩:=G6 (F:=F) (C:=C) (w:=w) parts.toList ps (z.map yM) E.cells ht hr hf (by simp) (by rw[<-r];simp) (λm v u hv hu=>by
  simp only[av,ak] at hv;obtain⟨J,y,rfl⟩:=hv;rw[<-r,bX,hu] at y;cases y;exact rN _ _ _ _)
 refine wp_pure (u:=.agg c') hs ?_ (.agg _ _ (by rw[G,H]) I) hK;have c:P.built T (parts.map λ(i,x)=>(i,a.eval x)).toList=some c':=by
  have A:(parts.map λ(i,x)=>(i,a.eval x)).toList=parts.toList.map λp=>(p.1,a.eval p.2):=by simp
  rw[A];unfold Program.built
  rcases d with⟨fs,b,hd,hp,rfl⟩|⟨k,e,n,hd,hn,rfl⟩
  ·simp only[l,hd,q,hp];exact e1
  ·simp only[sN,ak] at hn;obtain⟨L,D,rfl⟩:=hn;simp only[l,hd,q,D];exact e1
 unfold execOp;rw[ho];simp only[Sem.run_bind,run_build w T _ c' c,Result.andThen_ok,Sem.run_pure]
theorem Mn{n sz:Nat}:∀(parts:List (Nat×Operand))(ps:List iI)(i:Nat)(c:Array Value),uR i parts=some ps->(hr:∀i:Nat,Rel F C.B w (s.t i) (a.tmps.getD i undef))->
  (∀p∈ps,(p.ev s).fits sz)->c.size=n->(i+ps.length)*sz<=n->
  ∃c',Instr.fill (λj=>some (j*sz,sz)) c (parts.map λp=>(p.1,a.eval p.2))=some c'/\c'.size=n/\(∀m,m<i*sz->c'[m]? =c[m]?)/\
   (∀(k j:Nat)(p:iI)(v:V),ps[k]? =some p->(p.ev s).cells[j]? =some v->∃u,c'[(i+k)*sz+j]? =some u/\u.oneCell'=true/\Rel F C.B w v u):=by
 intro parts
 induction parts with
 |nil=>
  intro ps i c ht hr hf hc hle;simp only[uR,aH] at ht;subst ht;exact⟨c,rfl,hc,λ_ _=>rfl,by simp⟩
 |cons p parts ih=>
  intro ps i c ht hr hf hc hle;obtain⟨j,x⟩:=p;simp only[uR] at ht;cases h2:nJ x with
  |none=>rw[h2] at ht;simp at ht
  |some y=>
   cases h3:uR (i+1) parts with
   |none=>rw[h2,h3] at ht;simp at ht
   |some m=>
    rw[h2,h3] at ht;simp only[] at ht
    split at ht
    ·rename_i e;cases ht;subst e;have hy:=fv hr h2;have b:=hf _ (bQ ..);obtain⟨hz,f⟩:=p4 hy b;have r:(y.ev s).cells.length=sz:=b.1;simp only[au] at hle;have d:(j+1)*sz<=n:=aV (bD _ qW) hle;rw[bV] at d;obtain⟨g1,g2⟩:=tE (a.eval x) (j*sz) c (by rw[hz,hc];omega);obtain⟨c',e1,z,l,A⟩:=ih m (j+1) _ h3 hr (λp hp=>hf p (bM _ hp)) (g1.trans hc) (by rw[show j+1+m.length=j+(m.length+1) by omega];exact hle);have hmul:(j+1)*sz=j*sz+sz:=by rw[bV];omega
     refine⟨c',?_,z,λq hq=>?_,λk q p v hk hv=>?_⟩
     ·simp only[aR,Instr.fill];rw[aa (by simp[hz];omega)];exact e1
     ·rw[l q qW,g2,ae hq]
     ·cases k with
      |zero=>
       simp at hk;subst hk;have hq:q<sz:=by have:=(aj.1 hv).1;omega
       obtain⟨u,hu,h1,g⟩:=f q v hv;refine⟨u,?_,h1,g⟩;rw[ct,l _ qW,g2,aa qW,ae (by rw[hz];omega),show j*sz+q-j*sz=q by omega];exact hu
      |succ k=>
       simp only[cK] at hk;have:=A k q p v hk hv
       rwa[show j+1+k=j+(k+1) by omega] at this
    ·cases ht
theorem By(D:C.Ok){T e:TypeId}{k len:Nat}{parts:Array (Nat×Operand)}{z:List Value}{ps:List iI}{sz:Nat}(ho:o.op=.buildSlice T len parts)(hd:P.underlying T=some (.slice e))(hn:sN P e=some sz)(hz:mZ P e=some z)(ht:uR 0 parts.toList=some ps)
  (H:z.length=sz)(g:0<sz)(hle:len*sz<=16777216)(hlen:ps.length=len)(hs:gN C F h w)(hr:∀i:Nat,Rel F C.B w (s.t i) (a.tmps.getD i undef))(hf:∀p∈ps,(p.ev s).fits sz)
  (hK:∀β:Nat,K (.own k (some β) sz ps.length) (h.put k ⟨some β,e,sz,ps.map λp=>(p.ev s).cells⟩)):o.wp P a w (gm C F w a o.dst K) Q:=by
 obtain⟨E,I,q⟩:=uV (P:=P) (w:=w) hz;have l:len<=maxLen:=by
  have:len*1<=len*sz:=Nat.mul_le_mul_left _ g;simp only[maxLen];omega
 let zero:Array Value:=if len*sz=0 then #[] else E.cells
 obtain⟨c',e1,G,M,J⟩:=Mn (F:=F) (C:=C) (w:=w) (n:=len*sz) (sz:=sz) parts.toList ps 0 ((Array.range (len*sz)).map (zero[·%zero.size]!)) ht hr hf (by simp) (by rw[bf,hlen];exact ah _);have c:=heap_alloc_new w (Obj.cells c' e);have f:=λ{x:V}{y:Value}=>hs.keep D (x:=x) (y:=y) (Ev.alloc (λ_=>False) w (Obj.cells c' e)) (λ_ _ h=>h.elim);refine mG D (u:=.slice (some ⟨w.heap.size,0,none⟩) len len) (w':=w.alloc (.cells c' e)) (L:=λ_=>False) hs ?_ (Ev.alloc _ _ _) (λ_ _ h=>h.elim) (by rw[hlen];exact .own k w.heap.size sz len len c' e (0,0) c G l (ah _))
  (show fU F C.B (w.alloc (.cells c' e)) ⟨some w.heap.size,e,sz,ps.map λp=>(p.ev s).cells⟩ from⟨c',len,c,G,l,by simp[hlen],λr m=>?_,λi j r v hi hj=>?_⟩) (λb hb=>.inl (by cases hb;exact ah _)) (hK w.heap.size)
 ·unfold execOp;rw[ho];have d:(parts.map λ(i,x)=>(i,a.eval x)).toList=parts.toList.map λp=>(p.1,a.eval p.2):=by simp
  simp only[Instr.buildSlice,Sem.run_bind,run_underlying hd,Result.andThen_ok,hS hn];rw[aa qW]
  by_cases h0:len*sz=0
  ·have hz0:zero= #[]:=by simp[zero,h0]
   rw[hz0,h0] at e1;simp only[h0,↓reduceIte,Sem.run_bind,Sem.run_pure,Result.andThen_ok,d,e1,newRow,newObj,Sem.run];rfl
  ·have hz0:zero=E.cells:=by simp[zero,h0]
   rw[hz0] at e1;simp only[h0,↓reduceIte,Sem.run_bind,Sem.run_pure,Result.andThen_ok,q,d,e1,newRow,newObj,Sem.run];rfl
 ·simp only[aC] at m;obtain⟨p,hp,rfl⟩:=m;exact(hf p hp).1
 ·simp only[av,ak] at hi;obtain⟨p,hp,rfl⟩:=hi;obtain⟨u,hu,h1,A⟩:=J i j p v hp hj;rw[bf] at hu;exact⟨u,hu,h1,f A⟩
end
section
variable {P:Program} {C:Ctx} {F:Nat->Prop} {w w':World} {a:Act} {s:S} {h:Hp} {K:V->Hp->Prop} {Q:Exit->Act->World->Prop} {o:Oper}
theorem yS(W:C.Ok){T e:TypeId}{k:Nat}{x y:Operand}{i:TypeInfo}{z:List Value}{k1 k2:IntKind}{n:Int}(ho:o.op=.makeSlice T x y)(hd:P.underlying T=some (.slice e))(hi:P.info? e=some i)(hz:mZ P e=some z)
  (hsz:i.size=z.length)(U:0<z.length)(hs:gN C F h w)(h1:Rel F C.B w (.int k1 n) (a.eval x))(h2:Rel F C.B w (.int k2 n) (a.eval y))(hn:0<=n)(l:z.all (λu=>u.oneCell')=true)
  (X:n*i.bytes<=140737488355328)(Y:n<=140737488355328)
  (hK:∀β:Nat,K (.own k (some β) i.size n.toNat) (h.put k ⟨some β,e,i.size,List.replicate n.toNat (z.map yM)⟩)):o.wp P a w (gm C F w a o.dst K) Q:=by
 obtain⟨m,rfl⟩:∃m:Nat,n=m:=⟨n.toNat,qW⟩;simp only[aA] at hK;obtain⟨I,p,J⟩:=uV (P:=P) (w:=w) hz;have M:I.cells.size=i.size:=by rw[hsz,<-p];simp
 generalize hex:a.eval x=ux at h1
 generalize N:a.eval y=uy at h2
 cases h1;cases h2;have hw:IntKind.i64.wrap (m:Int)=m:=wrap64 (by unfold jx;omega);have Z:m*i.bytes<=140737488355328:=by
  have e:((m*i.bytes:Nat):Int)=(m:Int)*i.bytes:=by rw[ec]
  omega
 let zero:Array Value:=if m*i.size=0 then #[] else I.cells
 let c':Array Value:=(Array.range (m*i.size)).map (zero[·%zero.size]!)
 have c:=heap_alloc_new w (Obj.cells c' e);have q:m<=maxLen:=by simp only[maxLen];omega
 have t:c'.size=m*i.size:=by simp[c']
 have A:(typeInfo e).run P w=.ok i w:=by simp[typeInfo,program,Sem.run_bind,Sem.run_pure,Sem.run,hi]
 have O:(sizeOf e).run P w=.ok i.size w:=by simp[sizeOf,A,Sem.run_bind,Sem.run_pure]
 refine mG W (u:=.slice (some ⟨w.heap.size,0,none⟩) m m) (w':=w.alloc (.cells c' e)) (L:=λ_=>False) hs ?_ (Ev.alloc _ _ _) (λ_ _ h=>h.elim) (.own k w.heap.size i.size m m c' e (0,0) c t q (ah _))
  (show fU F C.B (w.alloc (.cells c' e)) ⟨some w.heap.size,e,i.size,List.replicate m (z.map yM)⟩ from⟨c',m,c,t,q,by simp,λr R=>?_,λii j r v d hj=>?_⟩) (λb hb=>.inl (by cases hb;exact ah _)) (hK w.heap.size)
 ·have f:(askRoom (m*i.bytes)).run P w=.ok () w:=by
   unfold askRoom roomBytes;rw[aa qW];rfl
  have D:¬((i.bytes:Int)*(m:Int)>2^48):=by
   have e:((m*i.bytes:Nat):Int)=(i.bytes:Int)*(m:Int):=by rw[ec,Int.mul_comm]
   omega
  unfold execOp;rw[ho];simp only[Instr.makeSlice,Sem.run_bind,run_underlying hd,Result.andThen_ok,hex,N,asInt,asIntOf,Sem.run_pure,A,hw];have g:((((m:Int)<0||(i.bytes:Int)*(m:Int)>2^48)||(m:Int)<0||(m:Int)>m):Bool)=false:=by
   simp[D];omega
  rw[g,aa qD];simp only[aA,Sem.run_bind,f,Result.andThen_ok,O]
  by_cases h0:m*i.size=0
  ·have hz0:zero= #[]:=by simp[zero,h0]
   simp only[c',hz0,h0,↓reduceIte,Sem.run_bind,Sem.run_pure,Result.andThen_ok,newRow,newObj,Sem.run];rfl
  ·have hz0:zero=I.cells:=by simp[zero,h0]
   simp only[c',hz0,h0,↓reduceIte,Sem.run_bind,Sem.run_pure,Result.andThen_ok,J,newRow,newObj,Sem.run];rfl
 ·rw[List.eq_of_mem_replicate R];simp[hsz]
 ·rw[List.getElem?_replicate] at d
  split at d
  ·rename_i hlt;cases d;simp only[av,ak] at hj;obtain⟨u,hu,rfl⟩:=hj;have E:j<i.size:=by have:=(aj.1 hu).1;omega
   have G:=G4 hlt E;refine⟨u,?_,aQ.1 l u (ax hu),rN _ _ _ _⟩;have hz0:zero=I.cells:=by simp only[zero];rw[aa qW]
   have H:(ii*i.size+j)%i.size=j:=by rw[dJ,Nat.mul_add_mod];exact cv E
   simp only[c',hz0,M,dw];rw[Array.getElem?_range,ae G];simp only[aE,H];rw[<-p,bX] at hu;simp[getElem!_def,hu]
  ·cases d
end
def V.rl(f:Nat->Nat):V->V
 |.own k b sz n=>.own (f k) b sz n
 |.win k b sz lo hi=>.win (f k) b sz lo hi
 |.ptr k b sz i off=>.ptr (f k) b sz i off
 |v=>v
def V.gM(f:Nat->Nat):V->V
 |.agg cs=>.agg (cs.map (V.rl f))
 |.tup vs=>.tup (vs.map λ|.agg cs=>.agg (cs.map (V.rl f))|v=>v.rl f)
 |v=>v.rl f
def Ob.gM(f:Nat->Nat)(o:Ob):Ob:= {o with rows:=o.rows.map (·.map (V.rl f))}
def gD(m:List (Nat×Nat))(k:Nat):Nat:=match m with
 |[]=>k
 |(a,b)::m=>if k=a then b else gD m k
def gW(m:List (Nat×Nat))(k:Nat):Nat:=match m with
 |[]=>k
 |(a,b)::m=>if k=b then a else gW m k
theorem Rel.rl{F B:Nat->Prop}{w:World}{v:V}{u:Value}(f:Nat->Nat)(h:Rel F B w v u):Rel F B w (v.rl f) u:=by
 cases h with
 |ownnil k sz=>exact .ownnil _ _
 |own k b sz n cap c e fr h hs hm hn=>exact .own _ b sz n cap c e fr h hs hm hn
 |winemp k b sz lo cap a=>exact .winemp _ _ sz lo cap a
 |win k b sz cap lo hi c e fr h hs hm hn h0 h1=>exact .win _ b sz cap lo hi c e fr h hs hm hn h0 h1
 |ptr k b sz i off=>exact .ptr _ b sz i off
 |int=>exact .int _ _
 |bool=>exact .bool _
 |str=>exact .str _
 |agg cs us hl h=>exact .agg cs us hl h
 |tup cs us hl h=>exact .tup cs us hl h
 |slnil t sz=>exact .slnil t sz
 |slemp t sz a cap=>exact .slemp t sz a cap
 |sl t sz rows b off cap us a1 a2 a3 a4 a5=>exact .sl t sz rows b off cap us a1 a2 a3 a4 a5
 |nilsl=>exact .nilsl
 |rp t b off cs us a1 a2 a3=>exact .rp t b off cs us a1 a2 a3
 |nil=>exact .nil
 |fn f caps us hl h=>exact .fn f caps us hl h
 |raw=>exact .raw _
 |oN=>exact .oN
 |iC=>exact .iC _
theorem Rel.C9{F B:Nat->Prop}{w:World}{cs:List V}{u:Value}(f:Nat->Nat)(h:Rel F B w (.agg cs) u):Rel F B w (.agg (cs.map (V.rl f))) u:=by
 cases h with
 |agg _ us hl h=>
  refine .agg _ us (by simpa using hl) λi v u hv hu=>?_;simp only[av,ak] at hv;obtain⟨v',a,rfl⟩:=hv;exact(h i v' u a hu).rl f
theorem Rel.gM{F B:Nat->Prop}{w:World}{v:V}{u:Value}(f:Nat->Nat)(h:Rel F B w v u):Rel F B w (v.gM f) u:=by
 cases v with
 |agg cs=>exact h.C9 f
 |tup vs=>
  cases h with
  |tup _ us hl h=>
   refine .tup _ us (by simpa using hl) λi v u hv hu=>?_;simp only[av,ak] at hv;obtain⟨v',a,rfl⟩:=hv;have:=h i v' u a hu;cases v' with
   |agg cs=>exact this.C9 f
   |_=>exact this.rl f
 |_=>exact h.rl f
theorem fU.gM{F B:Nat->Prop}{w:World}{o:Ob}(f:Nat->Nat)(h:fU F B w o):fU F B w (o.gM f):=by
 unfold fU at h⊢;simp only[Ob.gM];cases hb:o.b with
 |none=>rw[hb] at h;simp only at h⊢;rw[h];rfl
 |some b=>
  rw[hb] at h;obtain⟨c,cap,hc,h1,h2,h3,h4,h5⟩:=h;refine⟨c,cap,hc,h1,h2,by simpa using h3,λr hr=>?_,λi j r v hi hj=>?_⟩
  ·simp only[aC] at hr;obtain⟨r',a,rfl⟩:=hr;simpa using h4 r' a
  ·simp only[av,ak] at hi;obtain⟨r',a,rfl⟩:=hi;simp only[av,ak] at hj;obtain⟨v',d,rfl⟩:=hj;obtain⟨u,hu,e,hr⟩:=h5 i j r' v' a d;exact⟨u,hu,e,hr.rl f⟩
inductive Fz:V->Prop
 |int (k n):Fz (.int k n)
 |bool (b):Fz (.bool b)
 |str (l):Fz (.str l)
 |agg (cs) (h:∀v∈cs,Fz v):Fz (.agg cs)
 |tup (cs) (h:∀v∈cs,Fz v):Fz (.tup cs)
 |sl (sz rows) (h:∀r∈rows,∀v∈r,Fz v):Fz (.sl false sz rows)
 |nilsl:Fz .nilsl
 |own (k b sz n):Fz (.own k b sz n)
 |win (k b sz lo hi):Fz (.win k b sz lo hi)
 |ptr (k b sz i off):Fz (.ptr k b sz i off)
 |rp (cs) (h:∀v∈cs,Fz v):Fz (.rp false cs)
 |nil:Fz .nil
 |fn (f caps) (h:∀v∈caps,Fz v):Fz (.fn f caps)
 |raw (v):Fz (.raw v)
 |oN:Fz .oN
 |iC:Fz .iC
theorem Rel.fz{F B B':Nat->Prop}{w:World}{v:V}{u:Value}(h:Rel F B w v u)(hz:Fz v):Rel F B' w v u:=by
 induction h with
 |int=>exact .int _ _
 |bool=>exact .bool _
 |str=>exact .str _
 |agg cs us hl h ih=>cases hz with|agg _ hz=>exact .agg cs us hl λi v u hv hu=>ih i v u hv hu (hz v (ax hv))
 |tup cs us hl h ih=>cases hz with|tup _ hz=>exact .tup cs us hl λi v u hv hu=>ih i v u hv hu (hz v (ax hv))
 |slnil t sz=>exact .slnil t sz
 |slemp t sz a cap=>exact .slemp t sz a cap
 |sl t sz rows b off cap us hF n3 hsz hc hr ih=>
  cases hz with
  |sl _ _ hz=>
   refine .sl false sz rows b off cap us ?_ n3 hsz hc λi j r v hi hj=>ih i j r v hi hj (hz r (ax hi) v (ax hj))
   rcases hF with h|⟨h,_⟩
   ·exact .inl h
   ·cases h
 |nilsl=>exact .nilsl
 |ownnil k sz=>exact .ownnil _ _
 |own k b sz n cap c e fr h hs hm hn=>exact .own _ b sz n cap c e fr h hs hm hn
 |winemp k b sz lo cap a=>exact .winemp _ _ sz lo cap a
 |win k b sz cap lo hi c e fr h hs hm hn h0 h1=>exact .win _ b sz cap lo hi c e fr h hs hm hn h0 h1
 |ptr k b sz i off=>exact .ptr _ b sz i off
 |rp t b off cs us hF hc hr ih=>
  cases hz with
  |rp _ hz=>
   refine .rp false b off cs us ?_ hc λj v hj=>ih j v hj (hz v (ax hj))
   rcases hF with h|⟨h,_⟩
   ·exact .inl h
   ·cases h
 |nil=>exact .nil
 |fn f caps us hl h ih=>cases hz with|fn _ _ hz=>exact .fn f caps us hl λi v u hv hu=>ih i v u hv hu (hz v (ax hv))
 |raw v=>exact .raw v
 |oN=>exact .oN
 |iC v=>exact .iC v
theorem Rel.mono{F B F' B':Nat->Prop}{w:World}{v:V}{u:Value}(h:Rel F B w v u)(hF:∀b,F b->F' b)(hB:∀b,B b->F' b\/B' b):Rel F' B' w v u:=by
 have side:∀(t:Bool) b,F b\/(t=true/\B b)->F' b\/(t=true/\B' b):=by
  intro t b g
  rcases g with h|⟨ht,h⟩
  ·exact .inl (hF b h)
  ·rcases hB b h with h|h
   ·exact .inl h
   ·exact .inr ⟨ht,h⟩
 induction h with
 |int=>exact .int _ _
 |bool=>exact .bool _
 |str=>exact .str _
 |agg cs us hl h ih=>exact .agg cs us hl ih
 |tup cs us hl h ih=>exact .tup cs us hl ih
 |slnil t sz=>exact .slnil t sz
 |slemp t sz a cap=>exact .slemp t sz a cap
 |sl t sz rows b off cap us d n3 hsz hc hr ih=>exact .sl t sz rows b off cap us (side t b d) n3 hsz hc ih
 |nilsl=>exact .nilsl
 |ownnil k sz=>exact .ownnil _ _
 |own k b sz n cap c e fr h hs hm hn=>exact .own _ b sz n cap c e fr h hs hm hn
 |winemp k b sz lo cap a=>exact .winemp _ _ sz lo cap a
 |win k b sz cap lo hi c e fr h hs hm hn h0 h1=>exact .win _ b sz cap lo hi c e fr h hs hm hn h0 h1
 |ptr k b sz i off=>exact .ptr _ b sz i off
 |rp t b off cs us d hc hr ih=>exact .rp t b off cs us (side t b d) hc ih
 |nil=>exact .nil
 |fn f caps us hl h ih=>exact .fn f caps us hl ih
 |raw v=>exact .raw v
 |oN=>exact .oN
 |iC v=>exact .iC v
def Ob.Fz(o:Ob):Prop:=∀r∈o.rows,∀v∈r,AM.Fz v
theorem fU.fz{F B B':Nat->Prop}{w:World}{o:Ob}(h:fU F B w o)(hz:o.Fz):fU F B' w o:=by
 unfold fU at h⊢;cases hb:o.b with
 |none=>rw[hb] at h;exact h
 |some b=>
  rw[hb] at h;obtain⟨c,cap,hc,h1,h2,h3,h4,h5⟩:=h;refine⟨c,cap,hc,h1,h2,h3,h4,λi j r v hi hj=>?_⟩;obtain⟨u,hu,a,hr⟩:=h5 i j r v hi hj;exact⟨u,hu,a,hr.fz (hz r (ax hi) v (ax hj))⟩
theorem fU.mono{F B F' B':Nat->Prop}{w:World}{o:Ob}(h:fU F B w o)(hF:∀b,F b->F' b)(hB:∀b,B b->F' b\/B' b):fU F' B' w o:=by
 unfold fU at h⊢;cases hb:o.b with
 |none=>rw[hb] at h;exact h
 |some b=>
  rw[hb] at h;obtain⟨c,cap,hc,h1,h2,h3,h4,h5⟩:=h;refine⟨c,cap,hc,h1,h2,h3,h4,λi j r v hi hj=>?_⟩;obtain⟨u,hu,a,hr⟩:=h5 i j r v hi hj;exact⟨u,hu,a,hr.mono hF hB⟩
def Ctx.nb(C:Ctx):Ctx:= {C with B:=λ_=>False}
structure Spec(P:Program)(f:Nat)(args:List V)(hp:Hp)(post:V->Hp->Prop):Prop where
 fn:∃fn,P.funcs[f]? =some fn∧fn.name≠ "runtime.NumGoroutine" ∧∃c,fn.body=some c
 run:∀(C:Ctx)(us:Array Value),C.Ok->us.size=args.length->(∀(i:Nat)(v:V)(u:Value),args[i]? =some v->us[i]? =some u->Rel C.F0 C.B C.w0 v u)->gN C.nb C.F0 hp C.w0->
  Calls P f us C.w0 λe w'=>∃u v h' F',e=.returned u/\Rel F' (λ_=>False) w' v u/\gN C.nb F' h' w'/\post v h'
inductive Arg(h:Hp)(m:List (Nat×Nat)):V->V->Prop
 |same (v:V):Arg h m v (v.gM (gW m))
 |own (k b sz n rows) (hr:rowsOf h sz (.own k b sz n)=some rows) (hm:∀p∈m,p.2≠k):Arg h m (.own k b sz n) (.sl true sz rows)
 |mY (sz rows):Arg h m (.sl false sz rows) (.sl true sz rows)
 |nil (t sz):Arg h m .nilsl (.sl t sz [])
 |agg (cs pb:List V) (hl:cs.length=pb.length) (ha:∀(i:Nat)(v v':V),cs[i]? =some v->pb[i]? =some v'->Arg h m v v'):Arg h m (.agg cs) (.agg pb)
inductive mH(h:Hp)(m:List (Nat×Nat)):List V->List V->Prop
 |nil:mH h m [] []
 |cons {v v' l l'} (a:Arg h m v v') (b:mH h m l l'):mH h m (v::l) (v'::l')
def Hp.gy(h:Hp)(m:List (Nat×Nat))(h':Hp):Hp:=match m with
 |[]=>h
 |m=>λi=>if m.any (λp=>p.2=i) then(h' (gW m i)).map (Ob.gM (gD m)) else h i
def Da(P:Program):c8:=λf args h K=>
 ∃(m:List (Nat×Nat))(args':List V)(hp:Hp)(post:V->Hp->Prop),Spec P f args' hp post/\mH h m args args'/\
  (∀k o,hp k=some o->∃p∈m,p.1=k)/\(∀p∈m,gD m p.1=p.2/\gW m p.2=p.1/\∀o,hp p.1=some o->(h p.2).map (Ob.gM (gW m))=some o/\o.Fz)/\
  ∀v h',post v h'->K (v.gM (gD m)) (h.gy m h')
section
variable {P:Program} {C:Ctx} {F:Nat->Prop} {w w':World} {a:Act} {s:S} {h:Hp} {K:V->Hp->Prop} {Q:Exit->Act->World->Prop} {o:Oper}
theorem Mo{F' B':Nat->Prop}{m:List (Nat×Nat)}(hs:gN C F h w)(hF:∀b,F b->F' b)(hB:∀b,C.B b->F' b\/B' b)(g:∀k o b,h k=some o->o.b=some b->(∀p∈m,p.2≠k)->B' b)
  {v v':V}{u:Value}(ha:Arg h m v v')(hr:Rel F C.B w v u):Rel F' B' w v' u:=by
 induction ha generalizing u with
 |same v=>exact(hr.mono hF hB).gM _
 |own k b sz n rows d hm=>
  have hk:∃o,h k=some o/\o.b=b:=by
   simp only[rowsOf] at d;cases hk:h k with
   |none=>simp only[hk] at d;cases d
   |some o=>
    simp only[hk] at d
    split at d
    ·rename_i hc;exact⟨o,rfl,hc.1⟩
    ·cases d
  obtain⟨o,x,y⟩:=hk
  rcases sQ hs hr d with⟨rfl,rfl⟩|⟨ad,cap,us,rfl,f,l⟩
  ·exact .slnil _ _
  ·cases hr with
   |own _ b' _ n' A c e fr D E G hn=>
    refine .sl true sz rows b' 0 cap (λi j=>(us[i*sz+j]?).getD undef) (.inr ⟨rfl,g k o b' x y hm⟩) hn f.all (λi j r v hi hj=>?_) (λi j r v hi hj=>?_)
    ·obtain⟨u,hu,q⟩:=f.rel i j r v hi hj;rw[hu];have:=l _ _ hu;rw[kL] at this;exact⟨this,f.one u (ax hu)⟩
    ·obtain⟨u,hu,q⟩:=f.rel i j r v hi hj;rw[hu];exact q.mono hF hB
 |mY sz rows=>
  have:=hr.mono hF hB;cases this with
  |slnil=>exact .slnil _ _
  |slemp=>exact .slemp _ _ _ _
  |sl _ _ _ b off cap us z a1 a2 a3 a4=>
   refine .sl true sz rows b off cap us ?_ a1 a2 a3 a4
   rcases z with h|⟨h,_⟩
   ·exact .inl h
   ·cases h
 |nil t sz=>cases hr;exact .slnil _ _
 |agg cs pb hl ha ih=>
  cases hr with
  |agg _ us hsz ku=>
   refine .agg pb us qW λi v u hv hu=>?_;have hi:i<cs.length:=by have:=(aj.1 hv).1;omega
   exact ih i cs[i] v (af hi) hv (ku i cs[i] u (af hi) hu)
theorem G7{R:V->Value->Prop}{R':V->Value->Prop}{m:List (Nat×Nat)}(d:∀v v' u,Arg h m v v'->R v u->R' v' u):∀{l l':List V},mH h m l l'->l.length=l'.length/\∀(us:List Value),(∀(i:Nat)(v:V)(u:Value),l[i]? =some v->us[i]? =some u->R v u)->us.length=l.length->
  ∀(i:Nat)(v:V)(u:Value),l'[i]? =some v->us[i]? =some u->R' v u:=by
 intro l l' ha
 induction ha with
 |nil=>exact⟨rfl,by simp⟩
 |cons a b ih=>
  refine⟨by simp[ih.1],λus c hl i v u hv hu=>?_⟩;cases us with
  |nil=>simp at hl
  |cons u0 us=>
   cases i with
   |zero=>
    simp at hv hu;subst hv hu;exact d _ _ _ a (c 0 _ _ rfl rfl)
   |succ i=>exact ih.2 us (λj v u hv hu=>c (j+1) v u hv hu) (by simpa using hl) i v u hv hu
theorem rO{m:List (Nat×Nat)}{h':Hp}{i:Nat}{ob:Ob}(hu:h.gy m h' i=some ob):(∃p∈m,p.2=i/\∃o,h' (gW m i)=some o/\ob=o.gM (gD m))\/((∀p∈m,p.2≠i)/\h i=some ob):=by
 unfold Hp.gy at hu;cases m with
 |nil=>exact .inr ⟨by simp,hu⟩
 |cons q m=>
  simp only[] at hu
  by_cases b:((q::m).any λp=>decide (p.2=i))=true
  ·rw[ae b] at hu;obtain⟨p,hp,c⟩:=dh.1 b;simp only[ak] at hu;obtain⟨o,ho,rfl⟩:=hu;exact .inl ⟨p,hp,by simpa using c,o,ho,rfl⟩
  ·rw[aa b] at hu;refine .inr ⟨λp hp c=>b (dh.2 ⟨p,hp,by simpa using c⟩),hu⟩
theorem yT(hC:C.Ok){c:Call}{f:Nat}{caps:Array Value}{vs:List V}(ho:o.op=.call c)(hf:∃op,c.callee=.value op/\a.eval op=.func (.func f) #[] caps)(hs:gN C F h w)(hl:(c.args.map a.eval++caps).size=vs.length)
  (hr:∀(i:Nat)(v:V)(u:Value),vs[i]? =some v->(c.args.map a.eval++caps)[i]? =some u->Rel F C.B w v u)(hK:Da P f vs h K):o.wp P a w (gm C F w a o.dst K) Q:=by
 obtain⟨m,args',hp,post,q,H,W,hm,I⟩:=hK;obtain⟨fn,Yx,Yy,cb,J⟩:=q.fn;have mF:(execOp a.eval o).run P w=.ok (.enter f (c.args.map a.eval++caps)) w:=by
  obtain⟨callee,args,Z8⟩:=c;obtain⟨op,hf,r⟩:=hf;cases hf;unfold execOp;rw[ho]
  generalize a.eval=ρ at*
  simp only[resolve,r,Deferred.ofValue,Sem.run_bind,Sem.run_pure,Result.andThen_ok,invoke];simp[callFunc,program,Sem.run_bind,Sem.run_pure,Sem.run,Yx,Yy,J]
 let pass:Nat->Prop:=λb=>∃p∈m,∃ob,h p.2=some ob/\ob.b=some b/\∃o',hp p.1=some o'
 let E:Ctx:=⟨w,F,λb=>b<w.heap.size/\¬pass b,pass⟩
 have Yz:E.Ok:=by
  refine⟨λb hb=>⟨hs.lt b hb,?_⟩,λb hb=>hb,?_⟩
  ·rintro⟨p,_,ob,hk,d,_⟩;exact(hs.live _ ob b hk d).1 hb
  ·rintro b ⟨p,_,ob,hk,d,_⟩;exact(hs.ob _ ob hk).lt d
 have z:∀k o',hp k=some o'->∃p∈m,p.1=k/\∃ob,h p.2=some ob/\o'=ob.gM (gW m)/\o'.Fz:=by
  intro k o' hk;obtain⟨p,j,X⟩:=W k o' hk;obtain⟨_,_,h3⟩:=hm p j;obtain⟨h4,h5⟩:=h3 o' (by rw[X];exact hk);simp only[ak] at h4;obtain⟨ob,g,rfl⟩:=h4;exact⟨p,j,X,ob,g,rfl,h5⟩
 have hs':gN E.nb E.F0 hp w:=by
  refine⟨λk o' hk=>?_,λk1 k2 o1 o2 b h1 h2 e1 U=>?_,λk o' b hk hb=>?_,λb hb=>.inl hb,λb hb=>hb,hs.lt,Ev.refl _ _⟩
  ·obtain⟨p,_,_,ob,g,rfl,hz⟩:=z k o' hk;exact((hs.ob _ ob g).gM _).fz hz
  ·obtain⟨p1,A,rfl,YA,Y,rfl,_⟩:=z k1 o1 h1;obtain⟨p2,L,rfl,t,l,rfl,_⟩:=z k2 o2 h2;have:=hs.inj p1.2 p2.2 YA t b Y l e1 U;rw[<-(hm p1 A).2.1,<-(hm p2 L).2.1,this]
  ·obtain⟨p,j,rfl,ob,g,rfl,_⟩:=z k o' hk;exact⟨(hs.live _ ob b g hb).1,.inl ⟨p,j,ob,g,hb,_,hk⟩⟩
 have YB:∀b,C.B b->E.F0 b\/E.B b:=λb hb=>by
  refine .inr ⟨bF (hC.B b hb).1 hs.ev.size,?_⟩;rintro⟨p,_,ob,hk,d,_⟩;exact hs.Ti hC hk d hb
 obtain⟨hlen,D⟩:=G7 (R:=Rel F C.B w) (R':=Rel E.F0 E.B w) (λv v' u ha hr=>Mo hs (λ_ h=>h) YB (λk o b hk hb hne=>by
  refine⟨(hs.ob k o hk).lt hb,?_⟩;rintro⟨p,j,ob,g,d,_⟩;exact hne p j (hs.inj p.2 k ob o b g hk d hb)) ha hr) H
 have M:=q.run E (c.args.map a.eval++caps) Yz (by rw[hl,hlen]) (λi v u hv hu=>D (c.args.map a.eval++caps).toList (λi v u hv hu=>hr i v u hv (by rw[bX] at hu;exact hu)) (by rw[bL];exact hl) i v u hv (by rw[bX];exact hu)) hs';unfold Oper.wp;rw[mF];refine Calls.mono M ?_;rintro e w' ⟨u,v,h',F',rfl,hv,hs2,L⟩;have r:Ev pass w w':=hs2.ev;have N:∀b,F b->F' b:=hs2.new;have hold:∀b,F' b->F b\/pass b\/w.heap.size<=b:=hs2.gH;have hpl:∀b,b<w.heap.size->pass b->∃k ob,h k=some ob/\ob.b=some b:=by
  rintro b _ ⟨p,_,ob,g,d,_⟩;exact⟨p.2,ob,g,d⟩
 have O:∀{x y},Rel F C.B w x y->Rel F' C.B w' x y:=λhr=>(hs.keep hC r hpl hr).mono N (λ_ h=>.inr h);refine⟨u,v.gM (gD m),h.gy m h',F',rfl,(hv.mono (λ_ h=>h) (λ_ h=>h.elim)).gM _,?_,λx y hr=>O hr,I v h' L⟩;have n:∀b,(pass b\/w.heap.size<=b)->∀k ob,(∀p∈m,p.2≠k)->h k=some ob->ob.b≠some b:=by
  intro b hb k ob hne hk d
  rcases hb with⟨p,j,t,l,hb2,_⟩|Z
  ·exact hne p j (hs.inj p.2 k t ob b l hk hb2 d)
  ·have:=(hs.ob k ob hk).lt d;omega
 refine⟨λk ob hk=>?_,λk1 k2 o1 o2 b h1 h2 e1 U=>?_,λk ob b hk hb=>?_,λb hb=>?_,λb hb=>N b (hs.new b hb),hs2.lt,?_⟩
 ·rcases rO hk with⟨p,j,rfl,o',T,rfl⟩|⟨hne,hk⟩
  ·exact((hs2.ob _ o' T).mono (λ_ h=>h) (λ_ h=>h.elim)).gM _
  ·refine(fU.keep hC hs r hpl (hs.ob k ob hk) λb hb Vc=>n b (.inl Vc) k ob hne hk hb).mono N (λ_ h=>.inr h)
 ·rcases rO h1 with⟨p1,A,rfl,Xl,Xm,rfl⟩|⟨VO,SZ⟩<;>rcases rO h2 with⟨p2,G,rfl,Xn,VP,rfl⟩|⟨VQ,hk2⟩
  ·have:=hs2.inj _ _ Xl Xn b Xm VP e1 U;rw[(hm p1 A).2.1,(hm p2 G).2.1] at this;rw[<-(hm p1 A).1,<-(hm p2 G).1,this]
  ·exact absurd U (n b (hs2.live _ Xl b Xm e1).2 k2 o2 VQ hk2)
  ·exact absurd e1 (n b (hs2.live _ Xn b VP U).2 k1 o1 VO SZ)
  ·exact hs.inj k1 k2 o1 o2 b SZ hk2 e1 U
 ·rcases rO hk with⟨p,j,rfl,o',T,rfl⟩|⟨hne,hk⟩
  ·obtain⟨g1,g2⟩:=hs2.live _ o' b T hb;refine⟨g1,?_⟩
   rcases g2 with⟨p2,_,t,l,hb2,_⟩|Z
   ·exact(hs.live _ t b l hb2).2
   ·exact .inr (aV hs.ev.size Z)
  ·obtain⟨g1,g2⟩:=hs.live k ob b hk hb;refine⟨λYC=>?_,g2⟩
   rcases hold b YC with h|h|h
   ·exact g1 h
   ·exact n b (.inl h) k ob hne hk hb
   ·have:=(hs.ob k ob hk).lt hb;omega
 ·rcases hold b hb with h|h|h
  ·exact hs.gH b h
  ·obtain⟨p,_,ob,g,d,_⟩:=h;exact .inr (hs.live _ ob b g d).2
  ·exact .inr (.inr (aV hs.ev.size h))
 ·refine Ev.mY hs.ev r ?_;rintro b hb ⟨p,_,ob,g,d,_⟩
  rcases(hs.live _ ob b g d).2 with h|h
  ·exact h
  ·omega
def sR(P:Program)(T:c8):Prop:=∀(C:Ctx)(F:Nat->Prop)(w:World)(a:Act)(h:Hp)(K:V->Hp->Prop)(Q:Exit->Act->World->Prop)(o:Oper)(c:Call)(f:Nat)(caps:Array Value)(vs:List V),C.Ok->o.op=.call c->(∃op,c.callee=.value op/\a.eval op=.func (.func f) #[] caps)->gN C F h w->(c.args.map a.eval++caps).size=vs.length->
  (∀(i:Nat)(v:V)(u:Value),vs[i]? =some v->(c.args.map a.eval++caps)[i]? =some u->Rel F C.B w v u)->T f vs h K->o.wp P a w (gm C F w a o.dst K) Q
def jU(h h0:Hp):Prop:=∀(C:Ctx)(F:Nat->Prop)(w:World),C.Ok->gN C F h w->∃F',(∀b,F b->F' b)/\gN C F' h0 w
def fm(P:Program):c8:=λf args h K=>∃h0,jU h h0/\Da P f args h0 K
theorem u3:sR P (fm P):=λC F w a h K Q o c f caps vs e ho hf hs hl hr hK=>by
 obtain⟨h0,he,hK⟩:=hK;obtain⟨F',hF,hs'⟩:=he C F w e hs;refine Oper.wp_mono (λn w' b=>?_) (yT (K:=K) (Q:=Q) e ho hf hs' hl (λi v u hv hu=>(hr i v u hv hu).mono hF (λ_ h=>.inr h)) hK);obtain⟨u,v',h',g,e1,j,k,l,m⟩:=b;exact⟨u,v',h',g,e1,j,k,λx y d=>l x y (d.mono hF (λ_ h=>.inr h)),m⟩
end
def fX(P:Program):c8:=λf args h K=>
 ∃(m:List (Nat×Nat))(args':List V)(hp:Hp)(v:V),Spec P f args' hp (λx h'=>x=v/\h'=hp)/\mH h m args args'/\
  (∀k o,hp k=some o->∃p∈m,p.1=k)/\(∀p∈m,gD m p.1=p.2/\gW m p.2=p.1/\∃o,hp p.1=some o/\(h p.2).map (Ob.gM (gW m))=some o/\o.Fz)/\K (v.gM (gD m)) h
theorem Rel.Tj{F B:Nat->Prop}{w:World}{v:V}{u:Value}(f:Nat->Nat)(h:Rel F B w (v.rl f) u):Rel F B w v u:=by
 cases v<;>try exact h
 case own k b sz n=>
  simp only[V.rl] at h;cases h with
  |ownnil=>exact .ownnil _ _
  |own _ b _ _ cap c e fr h hs hm hn=>exact .own _ b sz n cap c e fr h hs hm hn
 case win k b sz lo hi=>
  simp only[V.rl] at h;cases h with
  |winemp=>exact .winemp _ _ _ _ _ _
  |win _ b _ cap _ _ c e fr h hs hm hn h0 h1=>exact .win _ b _ cap _ _ c e fr h hs hm hn h0 h1
 case ptr k b sz i off=>
  simp only[V.rl] at h;cases h;exact .ptr _ _ _ _ _
theorem fU.Db{F B:Nat->Prop}{w:World}{o:Ob}(f:Nat->Nat)(h:fU F B w (o.gM f)):fU F B w o:=by
 unfold fU at h⊢;simp only[Ob.gM] at h;cases hb:o.b with
 |none=>rw[hb] at h;simp only at h⊢;simpa using h
 |some b=>
  rw[hb] at h;obtain⟨c,cap,hc,h1,h2,h3,h4,h5⟩:=h;refine⟨c,cap,hc,h1,h2,by simpa using h3,λr hr=>?_,λi j r v hi hj=>?_⟩
  ·have:=h4 (r.map (V.rl f)) (aC.2 ⟨r,hr,rfl⟩);simpa using this
  ·obtain⟨u,hu,a,hr⟩:=h5 i j (r.map (V.rl f)) (v.rl f) (by simp[hi]) (by simp[hj]);exact⟨u,hu,a,hr.Tj f⟩
theorem yU{P:Program}:sR P (fX P):=by
 intro C F w a h K Q o c f caps vs y ho hf hs hl hr hK;obtain⟨m,args',hp,v,h1,h2,h3,h4,h5⟩:=hK;have z:Da P f vs h (λv' h'=>v'=v.gM (gD m)/\h'=h.gy m hp):=⟨m,args',hp,_,h1,h2,h3,λp r=>by
  obtain⟨a1,a2,o,a3,a4,a5⟩:=h4 p r;refine⟨a1,a2,λo' n=>?_⟩;rw[a3] at n;cases n;exact⟨a4,a5⟩,λv' h' hv=>by obtain⟨rfl,rfl⟩:=hv;exact⟨rfl,rfl⟩⟩
 refine Oper.wp_mono (λH w' j=>?_) (yT y ho hf hs hl hr z);obtain⟨u,v',h',F',e1,A,l,D,rfl,rfl⟩:=j;have g:∀k ob,h k=some ob->∃d,h.gy m hp k=some d/\d.b=ob.b/\(fU F' C.B w' d->fU F' C.B w' ob):=by
  intro k ob hk;unfold Hp.gy;cases m with
  |nil=>exact⟨ob,hk,rfl,id⟩
  |cons q m=>
   simp only[]
   by_cases e:((q::m).any λp=>decide (p.2=k))=true
   ·rw[ae e];obtain⟨p,s,i⟩:=dh.1 e;have i:p.2=k:=by simpa using i
    obtain⟨a1,a2,o',a3,a4,a5⟩:=h4 p s;rw[i,hk] at a4;simp only[aE,aH] at a4;subst a4;rw[<-i,a2,a3];exact⟨_,rfl,rfl,λE=>(E.Db _).Db _⟩
   ·rw[aa e];exact⟨ob,hk,rfl,id⟩
 refine⟨u,_,h,F',e1,A,⟨λk ob hk=>?_,λk k' ob d b hk t hb hb'=>?_,λk ob b hk hb=>?_,l.gH,l.new,l.lt,l.ev⟩,D,h5⟩
 ·obtain⟨d,g1,g2,g3⟩:=g k ob hk;exact g3 (l.ob k d g1)
 ·obtain⟨x,g1,g2,_⟩:=g k ob hk;obtain⟨G,g3,g4,_⟩:=g k' d t;exact l.inj k k' x G b g1 g3 (g2.trans hb) (g4.trans hb')
 ·obtain⟨x,g1,g2,_⟩:=g k ob hk;exact l.live k x b g1 (g2.trans hb)
theorem lZ:∀{ts:List Nat}{cs c:List V}{r:Bool},ic ts cs c=some r->cs.length=ts.length/\c.length=ts.length
 |[],[],[],_,_=>⟨rfl,rfl⟩
 |t::ts,a::l,b::m,r,h=>by
  simp only[ic] at h
  split at h
  ·rename_i x y h1 h2;obtain⟨g1,g2⟩:=lZ h2;simp[g1,g2]
  ·cases h
 |[],_::_,_,_,h=>by simp[ic] at h
 |[],[],_::_,_,h=>by simp[ic] at h
 |_::_,[],_,_,h=>by simp[ic] at h
 |_::_,_::_,[],_,h=>by simp[ic] at h
theorem pn:∀{t1 t2:List Nat}{cs c:List V}{r:Bool},ic (t1++t2) cs c=some r->
  ∃r1 r2,ic t1 (cs.take t1.length) (c.take t1.length)=some r1/\ic t2 (cs.drop t1.length) (c.drop t1.length)=some r2/\r=(r1&&r2)
 |[],t2,cs,c,r,h=>⟨true,r,rfl,by simpa using h,by simp⟩
 |t::t1,t2,a::l,b::m,r,h=>by
  simp only[aK,ic] at h
  split at h
  ·rename_i x y h1 h2;obtain⟨r1,r2,g1,g2,rfl⟩:=pn h2;cases h;exact⟨x&&r1,r2,by simp[ic,h1,g1],by simpa using g2,by simp[Bool.and_assoc]⟩
  ·cases h
 |t::t1,t2,[],_,r,h=>by simp[ic] at h
 |t::t1,t2,_::_,[],r,h=>by simp[ic] at h
section
variable {P:Program}
def At(F B:Nat->Prop)(w:World)(cs:List V)(xs:Array Value)(off:Nat):Prop:=∀(i:Nat)(v:V),cs[i]? =some v->∃u,xs[off+i]? =some u/\Rel F B w v u
theorem At.take{F B:Nat->Prop}{w:World}{cs:List V}{xs:Array Value}{off:Nat}(h:At F B w cs xs off)(n:Nat):At F B w (cs.take n) xs off:=λi v hv=>by
 rw[bq] at hv
 split at hv
 ·exact h i v hv
 ·cases hv
theorem At.drop{F B:Nat->Prop}{w:World}{cs:List V}{xs:Array Value}{off:Nat}(h:At F B w cs xs off)(n:Nat):At F B w (cs.drop n) xs (off+n):=λi v hv=>by
 rw[bu] at hv;rw[cW];exact h _ v hv
def Qe(P:Program)(dd:Nat)(t:TypeId)(ts:List Nat):Prop:=∀(F B:Nat->Prop)(w:World)(xs c:Array Value)(off:Nat)(cs d:List V)(r:Bool),At F B w cs xs off->At F B w d c off->ic ts cs d=some r->
 ∃a b,(part t xs off).run P w=.ok a w/\(part t c off).run P w=.ok b w/\(Op.equalIn dd t a b).run P w=.ok r w
def Vd(P:Program)(dd:Nat)(t:TypeId)(ts:List Nat):Prop:=∀(F B:Nat->Prop)(w:World)(xs a:Array Value)(cs b:List V)(r:Bool),At F B w cs xs 0->At F B w b a 0->ic ts cs b=some r->
 (Op.equalIn dd t (.agg xs) (.agg a)).run P w=.ok r w
theorem u6{dd:Nat}{t:TypeId}{ts:List Nat}(b:(∃fs,P.underlying t=some (.struct fs))\/∃n e,P.underlying t=some (.array n e))(hsz:P.cellsOf t=ts.length)(h:Vd P dd t ts):Qe P dd t ts:=by
 intro F B w xs c off cs d r hx hy he;obtain⟨g1,g2⟩:=lZ he;have a:∀xs:Array Value,(part t xs off).run P w=.ok (.agg (xs.extract off (off+P.cellsOf t))) w:=by
  intro xs
  rcases b with⟨fs,hu⟩|⟨n,e,hu⟩
  ·obtain⟨i,hi⟩:=info_of_underlying hu;simp[part,isAgg,run_underlying hu,run_sizeOf w hi]
  ·obtain⟨i,hi⟩:=info_of_underlying hu;simp[part,isAgg,run_underlying hu,run_sizeOf w hi]
 have sub:∀{cs:List V}{xs:Array Value},cs.length=ts.length->At F B w cs xs off->At F B w cs (xs.extract off (off+P.cellsOf t)) 0:=by
  intro cs xs hl ha i v hv;obtain⟨u,hu,hr⟩:=ha i v hv;have hi:i<cs.length:=(aj.1 hv).1;have hb:=(aG.1 hu).1;refine⟨u,?_,hr⟩;rw[bf,dD,ae qW];exact hu
 exact⟨_,_,a xs,a c,h F B w _ _ cs d r (sub g1 hx) (sub g2 hy) he⟩
theorem sS{dd:Nat}{t:TypeId}{ts:List Nat}(h:(P.underlying t=some .bool/\ts=[0])\/(∃k,P.underlying t=some (.int k)/\ts=[1])\/(P.underlying t=some .string/\ts=[2])):Qe P (dd+1) t ts:=by
 intro F B w xs g off cs f r hx hy he;have one:∃m,ts=[m]:=by rcases h with⟨_,h⟩|⟨_,_,h⟩|⟨_,h⟩<;>exact⟨_,h⟩
 obtain⟨m,rfl⟩:=one;obtain⟨g1,g2⟩:=lZ he
 match cs,f,g1,g2 with
 |[a],[b],_,_=>
  obtain⟨u,hu,c⟩:=hx 0 a rfl;obtain⟨v,hv,d⟩:=hy 0 b rfl;rw[ct] at hu hv;simp only[ic] at he;cases hc:nZ m a b with
  |none=>rw[hc] at he;cases he
  |some q=>
   rw[hc] at he;simp only[Bool.and_true,aH] at he;subst he;have hp:P.plainKey t=true:=by
    unfold Program.plainKey
    rcases h with⟨h,_⟩|⟨k,h,_⟩|⟨h,_⟩<;>rw[h]
   refine⟨u,v,run_part_plain w hp hu,run_part_plain w hp hv,?_⟩
   rcases h with⟨e,hm⟩|⟨k,e,hm⟩|⟨e,hm⟩<;>simp only[cD,eQ] at hm<;>subst hm
   ·cases a<;>simp only[nZ] at hc<;>try(cases hc;done)
    cases b<;>simp only[nZ] at hc<;>try(cases hc;done)
    cases c;cases d;cases hc;exact run_equalIn_bool w dd t _ _ e
   ·cases a<;>simp only[nZ] at hc<;>try(cases hc;done)
    cases b<;>simp only[nZ] at hc<;>try(cases hc;done)
    cases c;cases d
    split at hc
    ·rename_i hk;subst hk;cases hc;rw[run_equalIn_int w dd t _ _ _ _ e]
     congr 1
    ·cases hc
   ·cases a<;>simp only[nZ] at hc<;>try(cases hc;done)
    cases b<;>simp only[nZ] at hc<;>try(cases hc;done)
    cases c;cases d;cases hc;rw[run_equalIn_string w dd t _ _ e,toList_inj]
theorem rP{dd:Nat}{g:TypeId->Option (List Nat)}(hg:∀t c,g t=some c->P.cellsOf t=c.length->Qe P dd t c)(F B:Nat->Prop)(w:World)(xs h:Array Value):∀(fs:List Field)(off:Nat)(ts:List Nat)(cs e:List V)(r:Bool),wH P g fs off=some ts->
  At F B w cs xs off->At F B w e h off->ic ts cs e=some r->(Op.eqFields dd xs h fs).run P w=.ok r w
 |[],off,ts,cs,e,r,hf,_,_,he=>by
  simp only[wH,aH] at hf;subst hf;obtain⟨g1,g2⟩:=lZ he
  match cs,e,g1,g2 with
  |[],[],_,_=>simp only[ic,aH] at he;subst he;simp[Op.eqFields]
 |f::fs,off,ts,cs,e,r,hf,hx,hy,he=>by
  simp only[wH] at hf
  split at hf
  ·rename_i c hc
   split at hf
   ·rename_i d;obtain⟨hn,ho,hs⟩:=d;simp only[ak] at hf;obtain⟨i,hf,rfl⟩:=hf;obtain⟨r1,r2,e1,j,rfl⟩:=pn he;obtain⟨a,b,p1,p2,k⟩:=hg _ _ hc hs F B w xs h off _ _ _ (hx.take _) (hy.take _) e1;have ih:=rP hg F B w xs h fs (off+c.length) i _ _ r2 hf (hx.drop _) (hy.drop _) j;rw[<-ho] at p1 p2;simp only[Op.eqFields,hn,ne_eq,not_false_eq_true,if_true,Sem.run_bind,p1,p2,k,Result.andThen_ok];cases r1
    ·simp
    ·simpa using ih
   ·cases hf
  ·cases hf
theorem tF{dd:Nat}{e:TypeId}{c:List Nat}(hg:Qe P dd e c)(hs:P.cellsOf e=c.length)(F B:Nat->Prop)(w:World)(xs f:Array Value):∀(n s:Nat)(cs d:List V)(r:Bool),
  At F B w cs xs (s*c.length)->At F B w d f (s*c.length)->ic (List.replicate n c).flatten cs d=some r->(Op.eqItems dd e (P.cellsOf e) xs f (List.range' s n)).run P w=.ok r w
 |0,s,cs,d,r,_,_,he=>by
  obtain⟨g1,g2⟩:=lZ he;simp only[List.replicate_zero,eS,aT] at g1 g2
  match cs,d,g1,g2 with
  |[],[],_,_=>simp[ic] at he;subst he;simp[Op.eqItems]
 |n+1,s,cs,d,r,hx,hy,he=>by
  rw[aX,bE] at he;obtain⟨r1,r2,e1,g,rfl⟩:=pn he;obtain⟨a,b,p1,p2,h⟩:=hg F B w xs f _ _ _ _ (hx.take c.length) (hy.take c.length) e1;have hm:s*c.length+c.length=(s+1)*c.length:=by rw[bV];omega
  have ih:=tF hg hs F B w xs f n (s+1) _ _ r2 (by rw[<-hm];exact hx.drop _) (by rw[<-hm];exact hy.drop _) g;rw[eT];rw[<-hs] at p1 p2;simp only[Op.eqItems,Sem.run_bind,p1,p2,h,Result.andThen_ok];cases r1
  ·simp
  ·simpa using ih
theorem Bz{dd:Nat}{t:TypeId}{fs:Array Field}{ts:List Nat}{g:TypeId->Option (List Nat)}(hu:P.underlying t=some (.struct fs))(hp:P.stoodInHeld t=false)(hg:∀t c,g t=some c->P.cellsOf t=c.length->Qe P dd t c)(hf:wH P g fs.toList 0=some ts):Vd P (dd+1) t ts:=by
 intro F B w xs b cs d r hx hy he;have a:P.fieldsOf t=fs:=by simp[Program.fieldsOf,hu]
 rw[run_equalIn_struct w dd t xs b (by rw[a];exact hu) hp,a];exact rP hg F B w xs b _ 0 ts cs d r hf hx hy he
theorem E5{dd n:Nat}{t e:TypeId}{c:List Nat}(hu:P.underlying t=some (.array n e))(hi:∃i,P.info? e=some i)(hg:Qe P dd e c)(hs:P.cellsOf e=c.length):Vd P (dd+1) t (List.replicate n c).flatten:=by
 intro F B w xs a cs b r hx hy he;obtain⟨i,hi⟩:=hi;rw[run_equalIn_array w dd xs a hu hi,List.range_eq_range'];exact tF hg hs F B w xs a n 0 cs b r (by rw[Nat.zero_mul];exact hx) (by rw[Nat.zero_mul];exact hy) he
theorem BA:∀{m:Nat}{t:TypeId}{c:List Nat},tB P m t=some c->∃i,P.info? t=some i:=by
 intro m t c h;cases m with
 |zero=>cases h
 |succ m=>
  unfold tB at h;cases hu:P.underlying t with
  |none=>rw[hu] at h;cases h
  |some d=>exact info_of_underlying hu
theorem u7(d:Nat):∀(m:Nat)(t:TypeId)(c:List Nat),tB P m t=some c->(P.cellsOf t=c.length->Qe P (d+m) t c)/\((∃fs,P.underlying t=some (.struct fs))\/(∃n e,P.underlying t=some (.array n e))->Vd P (d+m) t c)
 |0,_,_,h=>by cases h
 |m+1,t,c,h=>by
  unfold tB at h;cases hu:P.underlying t with
  |none=>rw[hu] at h;cases h
  |some kd=>
   rw[hu] at h;cases kd<;>simp only[] at h<;>try(cases h;done)
   case bool=>cases h;exact⟨λ_=>sS (dd:=d+m) (.inl ⟨hu,rfl⟩),λa=>by rcases a with⟨_,h⟩|⟨_,_,h⟩<;>cases h⟩
   case int k=>cases h;exact⟨λ_=>sS (dd:=d+m) (.inr (.inl ⟨k,hu,rfl⟩)),λa=>by rcases a with⟨_,h⟩|⟨_,_,h⟩<;>cases h⟩
   case string=>cases h;exact⟨λ_=>sS (dd:=d+m) (.inr (.inr ⟨hu,rfl⟩)),λa=>by rcases a with⟨_,h⟩|⟨_,_,h⟩<;>cases h⟩
   case array n e=>
    split at h
    ·rename_i c' hc
     split at h
     ·rename_i hs;cases h;have:=E5 (dd:=d+m) hu (BA hc) ((u7 d m e c' hc).1 hs) hs;exact⟨λhsz=>u6 (.inr ⟨_,_,hu⟩) hsz this,λ_=>this⟩
     ·cases h
    ·cases h
   case struct fs=>
    split at h
    ·cases h
    ·rename_i hp;have:=Bz (dd:=d+m) (ts:=c) hu (by simpa using hp) (λt c hc hs=>(u7 d m t c hc).1 hs) h;exact⟨λhsz=>u6 (.inl ⟨_,hu⟩) hsz this,λ_=>this⟩
end
section
variable {P:Program} {C:Ctx} {F:Nat->Prop} {w w':World} {a:Act} {s:S} {h:Hp} {K:V->Hp->Prop} {Q:Exit->Act->World->Prop} {o:Oper}
theorem BB{src dst e:TypeId}{x:Operand}{i:V}{l:BS}(ho:o.op=.convert src dst x)(h1:P.underlying src=some (.slice e))(he:P.underlying e=some (.int .u8))(h2:P.underlying dst=some .string)(hs:gN C F h w)
  (hx:Rel F C.B w i (a.eval x))(hr:rowsOf h 1 i=some (l.map λb=>[V.int .u8 b.toNat]))(hK:K (.str l) h):o.wp P a w (gm C F w a o.dst K) Q:=by
 refine wp_pure (u:=.string ⟨l.toArray⟩) hs ?_ (.str l) hK;have mF:(convert src dst (a.eval x)).run P w=.ok (.string ⟨l.toArray⟩) w:=by
  rcases sQ hs hx hr with⟨h0,hu⟩|⟨ad,cap,us,hu,f,c⟩
  ·have hl:l=[]:=by simpa using h0
   subst hl;rw[hu,run_convert_bytes_string w src dst e none 0 0 h1 he h2];rfl
  ·rw[hu];have:=run_convert_bytes_back w src dst e ad cap l h1 he h2 (λj hj=>?_)
   ·simpa using this
   ·obtain⟨u,d,g⟩:=f.rel j 0 [V.int .u8 (l[j].toNat:Nat)] (V.int .u8 (l[j].toNat:Nat)) (by simp[hj]) rfl;rw[Nat.mul_one,ct] at d;rw[c j u d];cases g;rfl
 unfold execOp;rw[ho]
 generalize a.eval=k at*
 simp only[Sem.run_bind,mF,Result.andThen_ok,Sem.run_pure]
theorem Mp{T e:TypeId}{x y:Operand}{cs:List V}{k:IntKind}{i:Int}{g:Bool}{len sz:Nat}(ho:o.op=.index T x y)(hd:P.underlying T=some (.array len e))(hg:k9 P e=some g)(hn:sN P e=some sz)(hs:gN C F h w)
  (hx:Rel F C.B w (.agg cs) (a.eval x))(hy:Rel F C.B w (.int k i) (a.eval y))(h0:0<=i)(h1:i<len)(hl:len*sz<=cs.length)(hsz:0<sz)(hK:K (if g then .agg ((cs.drop (i.toNat*sz)).take sz) else cs.getD (i.toNat*sz) .iC) h):o.wp P a w (gm C F w a o.dst K) Q:=by
 generalize hex:a.eval x=l at hx
 generalize b:a.eval y=m at hy
 cases hy;cases hx with
 |agg _ us d hr=>
  have hle:i.toNat*sz+sz<=cs.length:=by
   have:(i.toNat+1)*sz<=len*sz:=bD _ qW;rw[bV,Nat.one_mul] at this;omega
  cases g with
  |true=>
   refine wp_pure (u:=.agg (us.extract (i.toNat*sz) (i.toNat*sz+sz))) hs ?_ (.agg _ _ (by simp;omega) λj v u hv hu=>?_) hK
   ·generalize a.eval=f at*
    simp[execOp,ho,hex,b,Sem.run_bind,Sem.run_pure,Instr.index,asIntOf,run_underlying hd,part,mS hg,hS hn,h0,h1]
   ·simp only[bq,bu] at hv
    split at hv
    ·refine hr _ v u hv ?_;simp only[dD] at hu
     split at hu
     ·exact hu
     ·simp at hu
    ·simp at hv
  |false=>
   have c:i.toNat*sz<us.size:=by omega
   refine wp_pure (u:=us[i.toNat*sz]) hs ?_ (hr (i.toNat*sz) _ _ (by simp[ar,show i.toNat*sz<cs.length by omega]) (by simp[c])) hK
   generalize a.eval=f at*
   simp[execOp,ho,hex,b,Sem.run_bind,Sem.run_pure,Instr.index,asIntOf,run_underlying hd,part,mS hg,hS hn,h0,h1,c]
end
section
variable {P:Program} {C:Ctx} {F:Nat->Prop} {w w':World} {a:Act} {s:S} {h:Hp} {K:V->Hp->Prop} {Q:Exit->Act->World->Prop} {o:Oper}
theorem p5:∀{l:List Operand}{m:List iI},uQ l=some m->l.length=m.length/\∀(i:Nat)(x:Operand)(y:iI),l[i]? =some x->m[i]? =some y->nJ x=some y:=by
 intro l
 induction l with
 |nil=>intro m h;simp[uQ] at h;subst h;simp
 |cons x l ih=>
  intro m h;simp only[uQ] at h
  split at h
  ·rename_i y m' hx hm;cases h;obtain⟨h1,h2⟩:=ih hm;refine⟨by simp[h1],λi d e b c=>?_⟩;cases i with
   |zero=>simp at b c;subst b c;exact hx
   |succ i=>exact h2 i d e (by simpa using b) (by simpa using c)
  ·cases h
theorem yV{α:Type}{x:Array α}{l:List α}(h:x.toList=l):x=l.toArray:=by subst h;simp
theorem u9{c:Array Operand}{x y:iI}(h:uQ c.toList=some [x,y]):∃b d,c= #[b,d]/\nJ b=some x/\nJ d=some y:=by
 obtain⟨h1,h2⟩:=p5 h;obtain⟨l,rfl⟩:∃l:List Operand,c=l.toArray:=⟨c.toList,by simp⟩;simp only at h1 h2
 match l,h1 with
 |[b,d],_=>exact⟨b,d,rfl,h2 0 b x rfl rfl,h2 1 d y rfl rfl⟩
theorem yW{T:TypeId}(hd:P.underlying T=some .bool)(p q:Bool):(Op.equal T (.bool p) (.bool q)).run P w=.ok (p==q) w:=by
 unfold Op.equal Op.maxDepth;rw[show(10000:Nat)=9999+1 from rfl,Op.equalIn];simp only[Sem.run_bind,run_underlying hd,Result.andThen_ok];rfl
theorem BC{T e:TypeId}(hd:P.underlying T=some (.pointer e))(p q:Option Addr)(h:p=none\/q=none):(Op.equal T (.pointer p) (.pointer q)).run P w=.ok (p.isNone&&q.isNone) w:=by
 unfold Op.equal Op.maxDepth;rw[show(10000:Nat)=9999+1 from rfl,Op.equalIn];simp only[Sem.run_bind,run_underlying hd,Result.andThen_ok];cases p<;>cases q<;>first|rfl|simp at h
theorem lK{neg:Bool}{T U:TypeId}{x y:Operand}{c d:Value}{b:Bool}(ho:o.op=.binOp (if neg then .neq else .eql) T x y U)(hs:gN C F h w)(hx:a.eval x=c)(hy:a.eval y=d)
  (hg:∀op,(eqGuard op T x y c d).run P w=.ok () w)(h1:binOp .eql T c d=(do pure (.bool (←Op.equal T c d))))(h2:binOp .neq T c d=(do pure (.bool (!(←Op.equal T c d)))))(hr:(Op.equal T c d).run P w=.ok b w)
  (hK:K (.bool (if neg then !b else b)) h):o.wp P a w (gm C F w a o.dst K) Q:=by
 refine wp_pure hs ?_ (.bool _) hK;unfold execOp;rw[ho]
 generalize a.eval=e at*
 cases neg
 ·simp only[Bool.false_eq_true,↓reduceIte,Sem.run_bind,Sem.run_pure,hx,hy,hg,Result.andThen_ok,h1,hr]
 ·simp only[↓reduceIte,Sem.run_bind,Sem.run_pure,hx,hy,hg,Result.andThen_ok,h2,hr]
theorem xN{op:BinOp}{T:TypeId}{x y:Operand}{p q:Bool}:(eqGuard op T x y (.bool p) (.bool q)).run P w=.ok () w:=by
 unfold eqGuard;cases op<;>simp[go_sem]
theorem xO{op:BinOp}{T:TypeId}{x y:Operand}{p q:Option Addr}:(eqGuard op T x y (.pointer p) (.pointer q)).run P w=.ok () w:=by
 unfold eqGuard;cases op<;>simp[go_sem]
theorem Dc{neg:Bool}{T U:TypeId}{x y:Operand}{c d:V}(ho:o.op=.binOp (if neg then .neq else .eql) T x y U)(hd:P.underlying T=some .bool)(hs:gN C F h w)
  (hx:Rel F C.B w c (a.eval x))(hy:Rel F C.B w d (a.eval y))(hK:Bp neg c d λv=>K v h):o.wp P a w (gm C F w a o.dst K) Q:=by
 generalize hex:a.eval x=e at hx
 generalize b:a.eval y=f at hy
 cases hx<;>try(simp[Bp] at hK;done)
 cases hy<;>try(simp[Bp] at hK;done)
 exact lK ho hs hex b (λ_=>xN) rfl rfl (yW hd _ _) hK
theorem Dd{neg:Bool}{T U e:TypeId}{x y:Operand}{c d:V}(ho:o.op=.binOp (if neg then .neq else .eql) T x y U)(hd:P.underlying T=some (.pointer e))(hs:gN C F h w)
  (hx:Rel F C.B w c (a.eval x))(hy:Rel F C.B w d (a.eval y))(hK:yN neg c d λv=>K v h):o.wp P a w (gm C F w a o.dst K) Q:=by
 generalize hex:a.eval x=f at hx
 generalize b:a.eval y=g at hy
 cases hx<;>try(simp[yN,Tg] at hK;done)
 all_goals
  cases hy<;>try(simp[yN,Tg] at hK;done)
  all_goals
   simp only[yN,Tg] at hK;exact lK ho hs hex b (λ_=>xO) rfl rfl (BC hd _ _ (by simp)) hK
theorem mI{op:BinOp}{T:TypeId}{x y:Operand}{b b':Option Addr}{n m n' m':Nat}:(eqGuard op T x y (.slice b n m) (.slice b' n' m')).run P w=.ok () w:=by
 unfold eqGuard;cases op<;>simp[go_sem]
theorem p6{T e:TypeId}(hd:P.underlying T=some (.slice e))(p:Option Addr)(n m:Nat):(Op.equal T (.slice p n m) (.slice none 0 0)).run P w=.ok p.isNone w:=by
 unfold Op.equal Op.maxDepth;rw[show(10000:Nat)=9999+1 from rfl,Op.equalIn];simp only[Sem.run_bind,run_underlying hd,Result.andThen_ok];cases p<;>rfl
theorem De{neg:Bool}{T U e:TypeId}{x y:Operand}{b:V}(ho:o.op=.binOp (if neg then .neq else .eql) T x y U)(hy:a.eval y=.slice none 0 0)(hd:P.underlying T=some (.slice e))(hs:gN C F h w)
  (hx:Rel F C.B w b (a.eval x))(hK:Qc neg b λv=>K v h):o.wp P a w (gm C F w a o.dst K) Q:=by
 generalize hex:a.eval x=c at hx
 cases hx<;>try(exact hK.elim)
 case nilsl=>exact lK ho hs hex hy (λ_=>mI) rfl rfl (p6 hd _ _ _) (by cases neg<;>exact hK)
 case slnil=>exact lK ho hs hex hy (λ_=>mI) rfl rfl (p6 hd _ _ _) (by have:=hK.2 rfl;cases neg<;>exact this)
 case slemp=>exact lK ho hs hex hy (λ_=>mI) rfl rfl (p6 hd _ _ _) (by have:=hK.1;cases neg<;>exact this)
 case sl=>exact lK ho hs hex hy (λ_=>mI) rfl rfl (p6 hd _ _ _) (by have:=hK.1;cases neg<;>exact this)
theorem xP{op:BinOp}{T:TypeId}{x y:Operand}{p q:Array Value}(hg:P.eqGuardType P.depth T=false):(eqGuard op T x y (.agg p) (.agg q)).run P w=.ok () w:=by
 unfold eqGuard;cases op<;>simp[go_sem,hg]
theorem um{neg:Bool}{T U:TypeId}{ts:List Nat}{x y:Operand}{j k:V}(ho:o.op=.binOp (if neg then .neq else .eql) T x y U)(hd:(∃fs,P.underlying T=some (.struct fs))\/(∃n e,P.underlying T=some (.array n e)))(hf:tB P 8 T=some ts)(hg:¬P.eqGuardType P.depth T=true)(hs:gN C F h w)
  (hx:Rel F C.B w j (a.eval x))(hy:Rel F C.B w k (a.eval y))(hK:Bq neg ts j k λv=>K v h):o.wp P a w (gm C F w a o.dst K) Q:=by
 generalize hex:a.eval x=p at hx
 generalize c:a.eval y=q at hy
 cases hx<;>try(simp[Bq] at hK;done)
 cases hy<;>try(simp[Bq] at hK;done)
 rename_i cs us hl hr l vs m d;simp only[Bq] at hK
 split at hK
 ·rename_i b hb;have f:At F C.B w cs us 0:=λi v hv=>by
   have hi:i<us.size:=by have:=(aj.1 hv).1;omega
   exact⟨us[i],by rw[bf];exact aU hi,hr i v _ hv (aU hi)⟩
  have g:At F C.B w l vs 0:=λi v hv=>by
   have hi:i<vs.size:=by have:=(aj.1 hv).1;omega
   exact⟨vs[i],by rw[bf];exact aU hi,d i v _ hv (aU hi)⟩
  exact lK ho hs hex c (λ_=>xP (by simpa using hg)) rfl rfl ((u7 9992 8 T ts hf).2 hd F C.B w us vs cs l b f g hb) hK
 ·exact hK.elim
theorem E6{T:c8}(O:sR P T)(M:C.Ok){ao:rh}{k:Nat}(ht:Mc P o.op=some ao)(hs:gN C F h w)(hr:∀i:Nat,Rel F C.B w (s.t i) (a.tmps.getD i undef))(hK:ri T ao (iI.ev s) h k K):
  o.wp P a w (gm C F w a o.dst K) Q:=by
 cases d:o.op<;>rw[d] at ht<;>simp only[Mc] at ht
 case move x=>
  simp only[ak] at ht;obtain⟨y,hy,rfl⟩:=ht;exact C6 (.inl d) hs (fv hr hy) hK
 case assign x=>
  simp only[ak] at ht;obtain⟨y,hy,rfl⟩:=ht;exact C6 (.inr d) hs (fv hr hy) hK
 case pick c x y=>
  split at ht
  ·rename_i c' E H hc hx hy;cases ht;have R:=fv hr hc;simp only[ri] at hK
   split at hK
   ·rename_i t Z;rw[Z] at R;exact GR d hs R (fv hr hx) (fv hr hy) hK
   ·exact hK.elim
  ·cases ht
 case alloc T=>
  simp only[ak] at ht;obtain⟨z,hz,rfl⟩:=ht;obtain⟨_,h1,h2⟩:=hK;exact E0 M d hz hs h1 h2
 case box T x=>
  split at ht
  ·rename_i n y hn hy;cases ht;obtain⟨_,h1,h2⟩:=hK;exact Mh M d hs (fv hr hy) h1 h2
  ·cases ht
 case build T parts=>
  split at ht
  ·rename_i z fs hz hd
   split at ht
   ·rename_i I hp;simp only[ak] at ht;obtain⟨ps,G,rfl⟩:=ht;exact wM d hz G (.inl ⟨fs,I,hd,hp,rfl⟩) hs hr hK.1 hK.2
   ·cases ht
  ·rename_i z k e hz hd
   split at ht
   ·rename_i n hn;simp only[ak] at ht;obtain⟨ps,G,rfl⟩:=ht;exact wM d hz G (.inr ⟨k,e,n,hd,hn,rfl⟩) hs hr hK.1 hK.2
   ·cases ht
  ·cases ht
 case buildSlice T len parts=>
  split at ht
  ·rename_i e hd
   split at ht
   ·rename_i n z ps hn hz G
    split at ht
    ·rename_i hc;cases ht;obtain⟨_,h1,h2⟩:=hK;exact By M d hd hn hz G hc.1 hc.2.1 hc.2.2.1 hc.2.2.2 hs hr h1 h2
    ·cases ht
   ·cases ht
  ·cases ht
 case load T x=>
  split at ht
  ·rename_i n y hg hn hy;cases ht;exact E3 d hg hn hs (fv hr hy) hK
  ·rename_i y hg hy;cases ht;exact E2 d hg hs (fv hr hy) hK
  ·cases ht
 case store T x v=>
  split at ht
  ·rename_i n y u hn hy hu;cases ht;exact E4 M d hn hs (fv hr hy) (fv hr hu) hK
  ·cases ht
 case nilCheck x=>
  simp only[ak] at ht;obtain⟨y,hy,rfl⟩:=ht;have hrel:=fv hr hy;simp only[ri] at hK
  split at hK
  ·rename_i heq;exact uS d hs hrel (.inl ⟨_,_,_,_,_,heq⟩) hK
  ·rename_i heq;exact uS d hs hrel (.inr ⟨_,_,heq⟩) hK
  ·exact hK.elim
 case binOp op T x y U=>
  split at ht
  ·rename_i k E H hd hx hy;cases ht;exact C8 d hs (fv hr hx) (fv hr hy) hK
  ·rename_i E H hd hx hy;cases ht;exact C8 d hs (fv hr hx) (fv hr hy) hK
  ·rename_i E H hd hx hy
   split at ht
   ·cases ht;exact Dc (neg:=false) d hd hs (fv hr hx) (fv hr hy) hK
   ·cases ht;exact Dc (neg:=true) d hd hs (fv hr hx) (fv hr hy) hK
   ·cases ht
  ·rename_i e E H hd hx hy
   split at ht
   ·cases ht;exact Dd (neg:=false) d hd hs (fv hr hx) (fv hr hy) hK
   ·cases ht;exact Dd (neg:=true) d hd hs (fv hr hx) (fv hr hy) hK
   ·cases ht
  ·rename_i e E H hd hx hy
   split at ht
   ·rename_i hn
    split at ht
    ·cases ht;exact De (neg:=false) d (wG hy hn) hd hs (fv hr hx) hK
    ·cases ht;exact De (neg:=true) d (wG hy hn) hd hs (fv hr hx) hK
    ·cases ht
   ·cases ht
  ·rename_i fs E H hd hx hy
   split at ht
   ·rename_i ts hf
    split at ht
    ·cases ht
    ·rename_i hg
     split at ht
     ·cases ht;exact um (neg:=false) d (.inl ⟨_,hd⟩) hf hg hs (fv hr hx) (fv hr hy) hK
     ·cases ht;exact um (neg:=true) d (.inl ⟨_,hd⟩) hf hg hs (fv hr hx) (fv hr hy) hK
     ·cases ht
   ·cases ht
  ·rename_i n e E H hd hx hy
   split at ht
   ·rename_i ts hf
    split at ht
    ·cases ht
    ·rename_i hg
     split at ht
     ·cases ht;exact um (neg:=false) d (.inr ⟨_,_,hd⟩) hf hg hs (fv hr hx) (fv hr hy) hK
     ·cases ht;exact um (neg:=true) d (.inr ⟨_,_,hd⟩) hf hg hs (fv hr hx) (fv hr hy) hK
     ·cases ht
   ·cases ht
  ·cases ht
 case unOp op T x=>
  cases op<;>simp only[] at ht
  case not=>
   simp only[ak] at ht;obtain⟨y,hy,rfl⟩:=ht;have hrel:=fv hr hy;simp only[ri] at hK
   split at hK
   ·rename_i b heq;rw[heq] at hrel;exact Me d hs hrel hK
   ·exact hK.elim
  all_goals cases ht
 case convert src dst x=>
  split at ht
  ·rename_i k1 k2 y h1 h2 hy;cases ht;have hrel:=fv hr hy;simp only[ri] at hK
   split at hK
   ·rename_i kx n heq;rw[heq] at hrel;exact GS d h1 h2 hs hrel hK
   ·exact hK.elim
  ·rename_i e y h1 h2 hy
   split at ht
   ·rename_i he;cases ht;obtain⟨l,hl,hk⟩:=hK;exact BB d h1 he h2 hs (fv hr hy) hl hk
   ·cases ht
  ·cases ht
 case panic x=>cases ht;exact hK.elim
 case makeInterface T x=>cases ht;exact hK.elim
 case makeSlice T l c=>
  split at ht
  ·rename_i e hd
   split at ht
   ·rename_i i z l' c' hi hz hl hc
    split at ht
    ·rename_i W;cases ht;have h1:=fv hr hl;have h2:=fv hr hc;simp only[ri] at hK
     split at hK
     ·rename_i k1 n k2 m e1 A;obtain⟨_,hn,rfl,_,h3,h4,h5,h6⟩:=hK;rw[e1] at h1;rw[A] at h2;exact yS M d hd hi hz W.1 W.2.1 hs h1 h2 hn h3 h4 h5 h6
     ·exact hK.elim
    ·cases ht
   ·cases ht
  ·cases ht
 case slice T x lo hi mx=>
  cases mx with
  |some v=>simp only[] at ht;cases ht
  |none=>
   simp only[] at ht
   split at ht
   ·rename_i E YD hi' hd hx J L;cases ht;have hrel:=fv hr hx;simp only[ri] at hK
    split at hK
    ·rename_i l heq;rw[heq] at hrel;obtain⟨p,hK,hp⟩:=Bu (l:=0) J hr hK;obtain⟨q,hK,hq⟩:=Bv L hr hK;obtain⟨h0,h1,h2,h3⟩:=hK;exact EY d hd hs hrel hp hq h0 h1 h2 h3
    ·exact hK.elim
   ·rename_i e E YD hi' hd hx J L;simp only[ak] at ht;obtain⟨n,hn,rfl⟩:=ht;have hrel:=fv hr hx;simp only[ri] at hK
    split at hK
    ·rename_i t sz' rows heq;obtain⟨rfl,hK⟩:=hK;rw[heq] at hrel;obtain⟨p,hK,hp⟩:=Bu (l:=0) J hr hK;obtain⟨q,hK,hq⟩:=Bv L hr hK;obtain⟨h0,h1,h2,h3⟩:=hK;exact G3 d hd hn hs hrel hp hq h0 h1 h2 h3
    ·rename_i j bk sz' m heq;obtain⟨rfl,hK⟩:=hK;rw[heq] at hrel;obtain⟨p,hK,hp⟩:=Bu (l:=0) J hr hK;obtain⟨q,hK,hq⟩:=Bv L hr hK;obtain⟨h0,h1,h2,h3⟩:=hK;exact EZ d hd hn hs hrel hp hq h0 h1 h2 h3
    ·exact hK.elim
   ·cases ht
 case fieldAddr T x f=>
  split at ht
  ·rename_i fs y hd hy
   split at ht
   ·rename_i fl hf
    split at ht
    ·rename_i n hn
     split at ht
     ·cases ht
     ·rename_i X;cases ht;have hrel:=fv hr hy;simp only[ri] at hK
      split at hK
      ·rename_i j b sz i off heq;rw[heq] at hrel
       generalize hex:a.eval x=ux at hrel
       cases hrel;rename_i b;exact wI (u:=undef) d hd hf hn X hs hex (by rw[cW];exact .ptr _ _ _ _ _) hK
      ·rename_i t cs heq;rw[heq] at hrel
       generalize hex:a.eval x=ux at hrel
       cases hrel with
       |rp _ b off _ us hF hc ku=>
        refine wI (u:=undef) d hd hf hn X hs hex (.rp t b (off+fl.offset) _ (λj=>us (fl.offset+j)) hF (λj v hj=>?_) (λj v hj=>?_)) hK
        ·rw[bu] at hj;rw[cW];exact hc _ v hj
        ·rw[bu] at hj;exact ku _ v hj
      ·exact hK.elim
    ·cases ht
   ·cases ht
  ·cases ht
 case field T x f=>
  split at ht
  ·rename_i fs y hd hy
   split at ht
   ·rename_i fl hf
    split at ht
    ·rename_i n hg hn;cases ht;have hrel:=fv hr hy;simp only[ri] at hK
     split at hK
     ·rename_i cs heq;rw[heq] at hrel;exact G1 d hd hf hg hn hs hrel hK.1 hK.2
     ·exact hK.elim
    ·rename_i hg;cases ht;have hrel:=fv hr hy;simp only[ri] at hK
     split at hK
     ·rename_i cs heq;rw[heq] at hrel;exact G2 d hd hf hg hs hrel hK.1 hK.2
     ·exact hK.elim
    ·cases ht
   ·cases ht
  ·cases ht
 case indexAddr T x i=>
  split at ht
  ·rename_i e y j hd hy hj;simp only[ak] at ht;obtain⟨n,hn,rfl⟩:=ht;have h1:=fv hr hy;have h2:=fv hr hj
   generalize hex:a.eval x=ux at h1
   generalize D:a.eval i=ui at h2
   simp only[ri] at hK
   split at hK
   ·rename_i t sz' rows ki ii e1 A;obtain⟨rfl,h0,hl,hK⟩:=hK;rw[e1] at h1;rw[A] at h2;cases h2;cases h1 with
    |slnil=>simp at hl;omega
    |slemp=>simp at hl;omega
    |sl _ _ _ b off cap us hF n3 hsz hc ku=>
     have hlt:ii.toNat<rows.length:=by omega
     have N:rows[ii.toNat]? =some (rows.getD ii.toNat []):=by rw[ar,af hlt];rfl
     refine sP d hd hn hs hex D h0 hl (.rp t b _ _ (λq=>us ii.toNat q) hF (λq v hq=>?_) (λq v hq=>?_)) hK
     ·rw[cW];exact hc _ q _ v N hq
     ·exact ku _ q _ v N hq
   ·rename_i k b sz' m ki ii e1 A;obtain⟨rfl,h0,hl,hK⟩:=hK;rw[e1] at h1;rw[A] at h2;cases h2;cases h1 with
    |ownnil=>simp at hl;omega
    |own _ b _ _ cap c e fr hb Vb YE BD=>exact sP d hd hn hs hex D h0 hl (by rw[bf];exact .ptr k b _ ii.toNat 0) hK
   ·rename_i k b sz' lo hi ki ii e1 A;obtain⟨rfl,h0,hl,hK⟩:=hK;rw[e1] at h1;rw[A] at h2;cases h2;cases h1 with
    |winemp=>omega
    |win _ b _ cap _ _ c e fr _ _ _ _ g0 g1=>
     refine sP d hd hn hs hex D h0 qW ?_ hK;have e3:lo.toNat*sz'+ii.toNat*sz'=(lo+ii).toNat*sz'+0:=by rw[Int.toNat_add g0 h0,bV,ct]
     rw[e3];exact .ptr k b _ _ 0
   ·exact hK.elim
  ·rename_i len e y j hd hy hj;simp only[ak] at ht;obtain⟨n,hn,rfl⟩:=ht;have h1:=fv hr hy;have h2:=fv hr hj
   generalize hex:a.eval x=ux at h1
   generalize D:a.eval i=ui at h2
   simp only[ri] at hK
   split at hK
   ·rename_i k b sz' r off ki ii e1 A;obtain⟨h0,hl,hK⟩:=hK;rw[e1] at h1;rw[A] at h2;cases h2;cases h1;exact yR d hd hn hs hex D h0 hl (by rw[cW];exact .ptr _ _ _ _ _) hK
   ·rename_i t cs ki ii e1 A;obtain⟨h0,hl,hK⟩:=hK;rw[e1] at h1;rw[A] at h2;cases h2;cases h1 with
    |rp _ b off _ us hF hc ku=>
     refine yR d hd hn hs hex D h0 hl (.rp t b _ _ (λq=>us (ii.toNat*n+q)) hF (λq v hq=>?_) (λq v hq=>?_)) hK
     ·rw[bu] at hq;rw[cW];exact hc _ v hq
     ·rw[bu] at hq;exact ku _ v hq
   ·exact hK.elim
  ·cases ht
 case index T x i=>
  split at ht
  ·rename_i y j hd hy hj;cases ht;have h1:=fv hr hy;have h2:=fv hr hj;simp only[ri] at hK
   split at hK
   ·rename_i l ki ii e1 A;rw[e1] at h1;rw[A] at h2;exact Mg d hd hs h1 h2 hK.1 hK.2.1 hK.2.2
   ·exact hK.elim
  ·rename_i len e y j hd hy hj
   split at ht
   ·rename_i g n hg hn;cases ht;have h1:=fv hr hy;have h2:=fv hr hj;simp only[ri] at hK
    split at hK
    ·rename_i cs ki ii e1 A;rw[e1] at h1;rw[A] at h2;exact Mp d hd hg hn hs h1 h2 hK.1 hK.2.1 hK.2.2.1 hK.2.2.2.1 hK.2.2.2.2
    ·exact hK.elim
   ·cases ht
  ·cases ht
 case extract x i=>
  simp only[ak] at ht;obtain⟨y,hy,rfl⟩:=ht;have h1:=fv hr hy;simp only[ri] at hK
  split at hK
  ·rename_i vs e1;rw[e1] at h1;exact Mf d hs h1 hK.1 hK.2
  ·exact hK.elim
 case call c=>
  split at ht
  ·rename_i f hf;simp only[ak] at ht;obtain⟨m,hm,rfl⟩:=ht;obtain⟨h1,h2⟩:=p5 hm;simp only[ri] at hK;refine O C F w a h K Q o c f #[] _ M d ⟨_,hf,rfl⟩ hs (by simpa using h1) (λi v u hv hu=>?_) hK;rw[Array.append_empty] at hu;simp only[av,ak] at hv;obtain⟨y,hy,rfl⟩:=hv;simp only[dw,ak] at hu;obtain⟨x,hx,rfl⟩:=hu;exact fv hr (h2 i x y (by simpa using hx) hy)
  ·rename_i t hf;simp only[ak] at ht;obtain⟨m,hm,rfl⟩:=ht;obtain⟨h1,h2⟩:=p5 hm;simp only[ri] at hK
   split at hK
   ·rename_i f caps heq;have hrel:=hr t;have Y:s.t t=.fn f caps:=heq;rw[Y] at hrel
    generalize hu:a.tmps.getD t undef=u at hrel
    cases hrel with
    |fn _ _ us YF YG=>
     refine O C F w a h K Q o c f us _ M d ⟨_,hf,hu⟩ hs (by simp only[Array.size_append,Array.size_map,ag,aF,YF];have h3:c.args.toList.length=c.args.size:=bL;omega) (λi v u hv hu=>?_) hK;have hsz:(c.args.map a.eval).size=(m.map (iI.ev s)).length:=by simp[<-h1]
     by_cases hi:i<(m.map (iI.ev s)).length
     ·rw[bg hi] at hv;rw[cx qW] at hu;simp only[av,ak] at hv;obtain⟨y,hy,rfl⟩:=hv;simp only[dw,ak] at hu;obtain⟨x,hx,rfl⟩:=hu;exact fv hr (h2 i x y (by simpa using hx) hy)
     ·rw[bj qW] at hv;rw[Array.getElem?_append_right qW,hsz] at hu;exact YG _ v u hv hu
   ·exact hK.elim
  ·rename_i hf
   split at ht
   ·rename_i x T hx O
    split at ht
    ·rename_i hd;simp only[ak] at ht;obtain⟨y,hy,rfl⟩:=ht;exact GY d hf (yV hx) (yV O) hd hs (fv hr hy) hK
    ·rename_i e hd;simp only[ak] at ht;obtain⟨y,hy,rfl⟩:=ht;exact GZ d hf (yV hx) (yV O) hd hs (fv hr hy) hK
    ·cases ht
   ·cases ht
  ·rename_i hf
   split at ht
   ·rename_i x y hm;cases ht;obtain⟨E,H,hx,h1,h2⟩:=u9 hm;have r1:=fv hr h1;have r2:=fv hr h2;simp only[ri] at hK
    split at hK
    ·rename_i k1 m1 k2 m2 e1 A;obtain⟨rfl,hK⟩:=hK;rw[e1] at r1;rw[A] at r2;exact G0 (mx:=true) d hf hx hs r1 r2 hK
    ·exact hK.elim
   ·cases ht
  ·rename_i hf
   split at ht
   ·rename_i x y hm;cases ht;obtain⟨E,H,hx,h1,h2⟩:=u9 hm;have r1:=fv hr h1;have r2:=fv hr h2;simp only[ri] at hK
    split at hK
    ·rename_i k1 m1 k2 m2 e1 A;obtain⟨rfl,hK⟩:=hK;rw[e1] at r1;rw[A] at r2;exact G0 (mx:=false) d hf hx hs r1 r2 hK
    ·exact hK.elim
   ·cases ht
  ·rename_i hf
   split at ht
   ·rename_i x y T T' hm O
    split at ht
    ·rename_i e e' hd GC
     split at ht
     ·rename_i i z hi hz
      split at ht
      ·rename_i hc;cases ht;obtain⟨E,H,hx,h1,h2⟩:=u9 hm;obtain⟨c1,c2,c3,rfl⟩:=hc;exact Bw M d hf hx (yV O) hd hi hz c1 c2 c3 hs (fv hr h1) (fv hr h2) hK
      ·cases ht
     ·cases ht
    ·cases ht
   ·cases ht
  ·cases ht
 case makeFunc fn first caps=>
  cases fn<;>simp only[] at ht<;>try(cases ht;done)
  rename_i f
  split at ht
  ·rename_i hz;simp only[ak] at ht;obtain⟨m,hm,rfl⟩:=ht;obtain⟨h1,h2⟩:=p5 hm;have YH:first= #[]:=cJ hz
   subst YH;refine wp_pure (u:=.func (.func f) #[] (caps.map a.eval)) hs ?_ (.fn f _ _ (by simp[<-h1]) λi v u hv hu=>?_) hK
   ·unfold execOp;rw[d];simp[Instr.makeFunc,Sem.run_bind,Sem.run_pure]
   ·simp only[av,ak] at hv;obtain⟨y,hy,rfl⟩:=hv;simp only[dw,ak] at hu;obtain⟨x,hx,rfl⟩:=hu;exact fv hr (h2 i x y (by simpa using hx) hy)
  ·cases ht
 all_goals cases ht
end
end Go.Proofs.YtobngncjflogcaaGreat.AM
