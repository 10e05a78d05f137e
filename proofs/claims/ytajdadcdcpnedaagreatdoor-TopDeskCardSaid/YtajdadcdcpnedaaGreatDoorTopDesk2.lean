/-
  Part 2 of what the law TopDesk reaches: the plain machine, contracts of the functions and plain laws; each lemma says its own condition.
-/
import Derived.Test.YtajdadcdcpnedaaGreatDoorTopDesk1
import Derived.ChangeKeysEq
import Derived.Laws.IdiomStrings
set_option linter.unusedVariables false
set_option linter.unusedSimpArgs false
namespace Go.Proofs.YtajdadcdcpnedaaGreatDoor.AM
open Go
open Go.BigFrame
section
variable {P:Program} {C:Ctx} {F:Nat->Prop} {w w':World} {a:Act} {s:S} {h:Hp} {K:V->Hp->Prop} {Q:Exit->Act->World->Prop} {o:Oper}
structure Flat(F B:Nat->Prop)(w:World)(sz:Nat)(rows:List (List V))(us:List Value):Prop where
 len:us.length=rows.length*sz
 all:∀r∈rows,r.length=sz
 one:∀u∈us,u.oneCell'=true
 rel:∀(i j:Nat)(r:List V)(v:V),rows[i]? =some r->r[j]? =some v->∃u,us[i*sz+j]? =some u/\Rel F B w v u
theorem FX{i j sz n:Nat}(hi:i<n)(hj:j<sz):i*sz+j<n*sz:=by
 have:(i+1)*sz<=n*sz:=bD _ hi;rw[bU] at this;omega
theorem vO{m n sz:Nat}(h:m<n*sz):m/sz<n/\m%sz<sz/\m/sz*sz+m%sz=m:=by
 have hsz:0<sz:=by rcases Nat.eq_zero_or_pos sz with rfl|h'<;>simp_all
 exact⟨eg (by rw[dK];exact h),Nat.mod_lt _ hsz,by rw[dK];exact Nat.div_add_mod m sz⟩
theorem Flat.FY{F B:Nat->Prop}{sz:Nat}{rows:List (List V)}(f:Nat->Value)(hsz:∀r∈rows,r.length=sz)
  (h:∀(i j:Nat)(r:List V)(v:V),rows[i]? =some r->r[j]? =some v->(f (i*sz+j)).oneCell'=true/\Rel F B w v (f (i*sz+j))):
  Flat F B w sz rows ((List.range (rows.length*sz)).map f):=by
 refine⟨by simp,hsz,λu hu=>?_,λi j r v hi hj=>?_⟩
 ·simp only[aM,bI] at hu;obtain⟨m,hm,rfl⟩:=hu;obtain⟨h1,h2,h3⟩:=vO hm;have hr:rows[m/sz]? =some rows[m/sz]:=af h1;have hl:=hsz rows[m/sz] (dV h1);have:=(h (m/sz) (m%sz) _ (rows[m/sz])[m%sz] hr (af qW)).1
  rwa[h3] at this
 ·have h1:=(aj.1 hi).1;have hl:=hsz r (az hi);have h2:=(aj.1 hj).1;exact⟨f (i*sz+j),by simp[FX h1 (by omega:j<sz)],(h i j r v hi hj).2⟩
theorem rS(hs:fT C F h w){sz:Nat}{v:V}{u:Value}{rows:List (List V)}(hv:Rel F C.B w v u)(hr:rowsOf h sz v=some rows):
  (rows=[]/\u=.slice none 0 0)\/∃ad cap us,u=.slice (some ad) rows.length cap/\Flat F C.B w sz rows us/\∀(j:Nat)(x:Value),us[j]? =some x->w.cell? (ad.add j)=some x:=by
 cases hv with
 |slnil t sz'=>simp[rowsOf] at hr;exact .inl ⟨hr.2,rfl⟩
 |slemp t sz' ad cap=>simp[rowsOf] at hr;exact .inr ⟨ad,cap,[],by rw[hr.2];rfl,by rw[hr.2];exact⟨by simp,by simp,by simp,by simp⟩,by simp⟩
 |nilsl=>simp[rowsOf] at hr;exact .inl ⟨hr,rfl⟩
 |sl t sz' rows' b off cap us hF jD hsz hc l=>
  simp only[rowsOf] at hr
  by_cases d:sz'=sz
  ·rw[ab d] at hr;cases hr;subst d;refine .inr ⟨⟨b,off,none⟩,cap,(List.range (rows.length*sz')).map λm=>(w.cell? ⟨b,off+m,none⟩).getD undef,rfl,Flat.FY _ hsz λi j r v hi hj=>?_,λj x hj=>?_⟩
   ·have:=hc i j r v hi hj;rw[this.1];exact⟨this.2,l i j r v hi hj⟩
   ·simp only[aw,an] at hj;obtain⟨m,hm,rfl⟩:=hj;have f:=aj.1 hm;simp at f;obtain⟨hlt,rfl⟩:=f;obtain⟨h1,h2,h3⟩:=vO hlt;have hl:=hsz rows[j/sz'] (dV h1);have:=(hc (j/sz') (j%sz') _ (rows[j/sz'])[j%sz'] (af h1) (af qW)).1;rw[h3] at this;rw[jN,this];rfl
  ·rw[aa d] at hr;cases hr
 |ownnil k sz'=>
  simp only[rowsOf] at hr;cases hk:h k with
  |none=>simp only[hk] at hr;cases hr
  |some ob=>
   simp only[hk] at hr
   by_cases hc:ob.b=none/\ob.sz=sz/\sz'=sz/\0<=ob.rows.length
   ·rw[ab hc] at hr;cases hr;exact .inl ⟨by simp,rfl⟩
   ·rw[aa hc] at hr;cases hr
 |own k b sz' n cap c e fr hb hcs hm hn=>
  simp only[rowsOf] at hr;cases hk:h k with
  |none=>simp only[hk] at hr;cases hr
  |some ob=>
   simp only[hk] at hr
   by_cases hc:ob.b=some b/\ob.sz=sz/\sz'=sz/\n<=ob.rows.length
   ·rw[ab hc] at hr;obtain⟨e1,y,z,A⟩:=hc;cases hr;subst z;have ho:=hs.ob k ob hk;unfold fe at ho;rw[e1] at ho;obtain⟨c',cap',g,h1,h2,h3,h4,h5⟩:=ho;rw[hb] at g;cases g;subst y;have hlen:(ob.rows.take n).length=n:=by simp;omega
    refine .inr ⟨⟨b,0,none⟩,cap,(List.range ((ob.rows.take n).length*ob.sz)).map λm=>(c[m]?).getD undef,by rw[hlen],Flat.FY _ (λr hr=>h4 r (cM hr)) λi j r v hi hj=>?_,λj x hj=>?_⟩
    ·rw[aZ] at hi
     split at hi
     ·obtain⟨u,hu,p,q⟩:=h5 i j r v hi hj;rw[hu];exact⟨p,q⟩
     ·cases hi
    ·simp only[aw,an] at hj;obtain⟨m,f,rfl⟩:=hj;have pR:=aj.1 f;simp at pR;obtain⟨hlt,rfl⟩:=pR;rw[jN,aW,cell_of_row w b j c ob.ty (0,0) hb];have:j<c.size:=by
      rw[hcs];refine bE hlt ?_;exact bD _ qW
     simp[this]
   ·rw[aa hc] at hr;cases hr
 |_=>simp[rowsOf] at hr
theorem Flat.append{F B:Nat->Prop}{sz:Nat}{r1 r2:List (List V)}{b c:List Value}(h1:Flat F B w sz r1 b)(h2:Flat F B w sz r2 c):Flat F B w sz (r1++r2) (b++c):=by
 refine⟨by simp[h1.len,h2.len,bU],λr hr=>?_,λu hu=>?_,λi j r v hi hj=>?_⟩
 ·rcases bj.1 hr with h|h
  ·exact h1.all r h
  ·exact h2.all r h
 ·rcases bj.1 hu with h|h
  ·exact h1.one u h
  ·exact h2.one u h
 ·by_cases hl:i<r1.length
  ·rw[bu hl] at hi;obtain⟨u,hu,hr⟩:=h1.rel i j r v hi hj;exact⟨u,by rw[bu (aj.1 hu).1];exact hu,hr⟩
  ·rw[bB qW] at hi;obtain⟨u,hu,hr⟩:=h2.rel (i-r1.length) j r v hi hj;refine⟨u,?_,hr⟩;have:r1.length*sz<=i*sz:=bD _ qW;rw[bB (by rw[h1.len];omega),h1.len,show i*sz+j-r1.length*sz=(i-r1.length)*sz+j by rw[Nat.sub_mul];omega];exact hu
theorem Flat.keep{sz:Nat}{rows:List (List V)}{us:List Value}(h:Flat F C.B w sz rows us)(hk:∀x y,Rel F C.B w x y->Rel F C.B w' x y):Flat F C.B w' sz rows us:=
 ⟨h.len,h.all,h.one,λi j r v hi hj=>let⟨u,hu,hr⟩:=h.rel i j r v hi hj;⟨u,hu,hk _ _ hr⟩⟩
theorem fe.of_flat{B:Nat->Prop}{b e sz cap:Nat}{rows:List (List V)}{us:List Value}{c:Array Value}(hc:w.heap[b]? =some (.cells c e (0,0)))(hs:c.size=cap*sz)(hm:cap<=maxLen)(hl:rows.length<=cap)(hf:Flat F B w sz rows us)
  (ht:∀(m:Nat)(u:Value),us[m]? =some u->c[m]? =some u):fe F B w ⟨some b,e,sz,rows⟩:=
 ⟨c,cap,hc,hs,hm,hl,hf.all,λi j r v hi hj=>let⟨u,hu,hr⟩:=hf.rel i j r v hi hj;⟨u,ht _ _ hu,hf.one u (az hu),hr⟩⟩
theorem B5{ob:Ob}{b:Nat}(ho:fe F C.B w ob)(hb:ob.b=some b):∃c cap us,w.heap[b]? =some (.cells c ob.ty (0,0))/\c.size=cap*ob.sz/\cap<=maxLen/\ob.rows.length<=cap/\Flat F C.B w ob.sz ob.rows us/\us=c.toList.take (ob.rows.length*ob.sz):=by
 unfold fe at ho;rw[hb] at ho;obtain⟨c,cap,hc,h1,h2,h3,h4,h5⟩:=ho;have hle:ob.rows.length*ob.sz<=c.size:=by rw[h1];exact bD _ h3
 have d:=Flat.FY (F:=F) (B:=C.B) (w:=w) (λm=>(c[m]?).getD undef) h4 λi j r v hi hj=>by
  obtain⟨u,hu,e,f⟩:=h5 i j r v hi hj;rw[hu];exact⟨e,f⟩
 refine⟨c,cap,_,hc,h1,h2,h3,d,?_⟩;apply cN;intro m;rw[aZ]
 by_cases hm:m<ob.rows.length*ob.sz
 ·rw[ab hm];have g:m<c.size:=by omega
  simp[hm,g]
 ·rw[aa hm];simp;omega
end
section
variable {P:Program} {C:Ctx} {F:Nat->Prop} {w w':World} {a:Act} {s:S} {h:Hp} {K:V->Hp->Prop} {Q:Exit->Act->World->Prop} {o:Oper}
theorem Ll{e:TypeId}{i:TypeInfo}{z:List Value}(hi:P.info? e=some i)(hz:lF P e=some z):∃b:Value,i.zero=some b/\b.cells.toList=z:=by
 simp only[lF,hi,fa,an] at hz;exact hz
theorem iT{T e ty:TypeId}{i:TypeInfo}(hd:P.underlying T=some (.slice e))(hi:P.info? e=some i)(b:Option Addr)(n cap:Nat)(q:Option Addr)(c:Nat)(hn:n<=cap):
  (Builtin.append_ #[T,T] ty #[.slice b n cap,.slice q 0 c]).run P w=.ok (.slice b n cap) w:=by
 have hf:(Builtin.firstCells i.size 0 (.slice q 0 c)).run P w=.ok #[] w:=by
  cases q<;>simp[Builtin.firstCells,Sem.run_pure,loadCells,loadCellsFrom]
 cases b<;>simp[Builtin.append_,Sem.run_bind,Sem.run_pure,run_underlying hd,sizeOf,typeInfo,hi,Builtin.lenOf,hn,hf,storeCells]
theorem jZ{c:Call}{x y:Operand}{T:TypeId}{u:Value}(ho:o.op=.call c)(hb:c.callee=.builtin .append)(hx:c.args= #[x,y])(b:c.argTypes= #[T,T])
  (hr:∀ty,(Builtin.append_ #[T,T] ty #[a.eval x,a.eval y]).run P w=.ok u w'):(execOp a.eval o).run P w=.ok (.value u) w':=by
 obtain⟨callee,args,d⟩:=c;cases hb;cases hx;cases b;unfold execOp;rw[ho];simp only[resolve,Sem.run_bind,Sem.run_pure,Result.andThen_ok,invoke,builtin_append,dU,aI,cX,hr]
theorem vP{m n b:Nat}(h:((m:Int)+n)*b<=140737488355328):(m+n)*b<=140737488355328:=by
 have e:(((m+n)*b:Nat):Int)=((m:Int)+n)*b:=by rw[ej,dw]
 omega
theorem Lm(z:Array Value)(n:Nat):(Builtin.zeroCells z n).size=n*z.size:=by simp[Builtin.zeroCells]
theorem Rel.FZ{F B:Nat->Prop}{w:World}{k b sz n:Nat}{u:Value}(h:Rel F B w (.own k (some b) sz n) u):Rel F B w (.win k (some b) sz 0 n) u:=by
 cases h with
 |own _ _ _ _ cap c e fr h hs hm hn=>
  have:=Rel.win (F:=F) (B:=B) (w:=w) k b sz cap 0 n c e fr h (by simpa using hs) (by simpa using hm) (by simpa using hn) (bn _) (bK _);simpa using this
theorem rT(t ty e:TypeId)(i:TypeInfo)(ht:P.underlying t=some (.slice e))(hi:P.info? e=some i)
  (g off b d:Nat)(cur:Array Value)(hg:w.heap[g]? =some (.cells cur e (0,0)))
  (a:Addr)(m c:Nat)(news:List Value)(hl:news.length=m*i.size)(f:∀j u,news[j]? =some u->w.cell? (a.add j)=some u)(h1:∀u∈news,u.oneCell'=true)
  (k:b+m<=d)(l:off+b*i.size+news.length<=cur.size):
  (Builtin.append_ #[t,t] ty #[.slice (some ⟨g,off,none⟩) b d,.slice (some a) m c]).run P w=
   .ok (.slice (some ⟨g,off,none⟩) (b+m) d) (w.setRow g (cur.toList.take (off+b*i.size)++news++cur.toList.drop (off+b*i.size+news.length)).toArray):=by
 have hf:=run_firstCells_some (P:=P) w i.size m a m c news hl f;have n:=run_storeCells_at P g (off+b*i.size) e news 0 cur w hg (by simpa using l) h1;simp only[bQ] at n;simp[Builtin.append_,run_underlying ht,sizeOf,typeInfo,hi,Builtin.lenOf,k,hf,Addr.add_lit,n]
theorem AN(hC:C.Ok){c:Call}{x y:Operand}{T e k:TypeId}{i:TypeInfo}{z:List Value}{vx vy:V}(ho:o.op=.call c)(hb:c.callee=.builtin .append)(hx:c.args= #[x,y])(hT:c.argTypes= #[T,T])
  (hd:P.underlying T=some (.slice e))(hi:P.info? e=some i)(hz:lF P e=some z)(hsz:i.size=z.length)(Rg:0<z.length)(UP:0<i.bytes)(hs:fT C F h w)
  (h1:Rel F C.B w vx (a.eval x))(h2:Rel F C.B w vy (a.eval y))(hK:qB h k e i.size i.bytes vx vy K):o.wp P a w (fQ C F w a o.dst K) Q:=by
 obtain⟨zv,Rh,VA⟩:=Ll hi hz;have VB:zv.cells.size=i.size:=by rw[hsz,<-VA];simp
 unfold qB at hK;cases Pe:rowsOf h i.size vy with
 |none=>rw[Pe] at hK;exact hK.elim
 |some news=>
  rw[Pe] at hK;simp only[] at hK;have Ri:=rS hs h2 Pe
  generalize hex:a.eval x=ux at h1
  generalize M:a.eval y=uy at Ri
  by_cases SW:news=[]
  ·subst SW;have VC:∃q c,uy=.slice q 0 c:=by
    rcases Ri with⟨_,rfl⟩|⟨ad,cap,us,rfl,_⟩
    ·exact⟨none,0,rfl⟩
    ·exact⟨some ad,cap,rfl⟩
   obtain⟨q,cq,rfl⟩:=VC;cases h1 with
   |nilsl=>
    obtain⟨hk,_,hK⟩:=hK;refine jO hC (k:=k) (u:=.slice none 0 0) (w':=w) (L:=λ_=>False) hs (jZ ho hb hx hT λty=>?_) (Ev.refl _ _) (λ_ _ h=>h.elim) (.ownnil k i.size) (show fe F C.B w ⟨none,e,i.size,[]⟩ from rfl) (λb hb=>by cases hb) (hK none);rw[hex,M];exact iT hd hi none 0 0 q cq (ak _)
   |ownnil j sz'=>
    simp only[] at hK;cases hj:h j with
    |none=>rw[hj] at hK;exact hK.elim
    |some ob=>
     rw[hj] at hK;obtain⟨e1,W,X,N,Y,_,hK⟩:=hK;subst X;have hK:=hK none;have Tt:ob.rows=[]:=aB Y;rw[Tt] at hK;refine jO hC (k:=j) (u:=.slice none 0 0) (w':=w) (L:=λ_=>False) hs (jZ ho hb hx hT λty=>?_) (Ev.refl _ _) (λ_ _ h=>h.elim) (.ownnil j i.size) (show fe F C.B w ⟨none,e,i.size,[]⟩ from rfl) (λb hb=>by cases hb) hK;rw[hex,M];exact iT hd hi none 0 0 q cq (ak _)
   |own j b sz' n cap r ee fr J hcs hm hn=>
    simp only[] at hK;cases hj:h j with
    |none=>rw[hj] at hK;exact hK.elim
    |some ob=>
     rw[hj] at hK;obtain⟨e1,W,X,N,Y,_,hK⟩:=hK;subst X;have hK:=hK (some b);simp only[bg,aL,bQ] at hK;have O:ob=⟨some b,e,i.size,ob.rows⟩:=by cases ob;simp at e1 W N⊢;exact⟨e1,N,W⟩
     refine jO hC (k:=j) (u:=.slice (some ⟨b,0,none⟩) n cap) (w':=w) (L:=λ_=>False) hs (jZ ho hb hx hT λty=>?_) (Ev.refl _ _) (λ_ _ h=>h.elim) (.own j b i.size n cap r ee fr J hcs hm hn) (by rw[<-O];exact hs.ob j ob hj) (λb' A=>.inr ⟨ob,hj,by rw[e1];exact A⟩) hK;rw[hex,M];exact iT hd hi _ n cap q cq hn
   |winemp j b sz' lo ad=>
    simp only[] at hK;cases hj:h j with
    |none=>rw[hj] at hK;exact hK.elim
    |some ob=>
     rw[hj] at hK;obtain⟨e1,W,X,N,_,e6,_,hK⟩:=hK;subst X;have hK:=hK b ob.rows (.inl rfl);simp only[bg,aL,Int.ofNat_zero,fo,e6] at hK;have O:ob=⟨b,e,i.size,ob.rows⟩:=by cases ob;simp at e1 W N⊢;exact⟨e1,N,W⟩
     refine jO hC (k:=j) (u:=.slice ad 0 0) (w':=w) (L:=λ_=>False) hs (jZ ho hb hx hT λty=>?_) (Ev.refl _ _) (λ_ _ h=>h.elim) (.winemp j b i.size lo ad) (by rw[<-O];exact hs.ob j ob hj) (λb' A=>.inr ⟨ob,hj,by rw[e1];exact A⟩) hK;rw[hex,M];exact iT hd hi _ 0 0 q cq (ak _)
   |win j b sz' cap lo hi' r ee fr J hcs hm hn hl0 SX=>
    simp only[] at hK;cases hj:h j with
    |none=>rw[hj] at hK;exact hK.elim
    |some ob=>
     rw[hj] at hK;obtain⟨e1,W,X,N,Y,e6,_,hK⟩:=hK;subst X Y;have hK:=hK (some b) ob.rows (.inl rfl);simp only[bg,aL,Int.ofNat_zero,fo,e6] at hK;have O:ob=⟨some b,e,i.size,ob.rows⟩:=by cases ob;simp at e1 W N⊢;exact⟨e1,N,W⟩
     refine jO hC (k:=j) (u:=.slice (some ⟨b,lo.toNat*i.size,none⟩) (lo-lo).toNat cap) (w':=w) (L:=λ_=>False) hs (jZ ho hb hx hT λty=>?_) (Ev.refl _ _) (λ_ _ h=>h.elim) (.win j b i.size cap lo lo r ee fr J hcs hm hn hl0 SX) (by rw[<-O];exact hs.ob j ob hj) (λb' A=>.inr ⟨ob,hj,by rw[e1];exact A⟩) hK;rw[hex,M];exact iT hd hi _ _ cap q cq hn
   |_=>exact hK.elim
  ·have UQ:0<news.length:=du.2 SW
   rcases Ri with⟨h0,_⟩|⟨ad,v,us,rfl,d,D⟩
   ·exact absurd h0 SW
   have fresh:∀(vv:V)(j:Nat)(jE:List (List V))(p:List Value)(f:Nat),(∀F' w' u,Rel F' C.B w' (.own j (some w.heap.size) i.size (jE.length+news.length)) u->Rel F' C.B w' vv u)->Flat F C.B w i.size jE p->f<jE.length+news.length->((jE.length:Int)+news.length)*i.bytes<=140737488355328->
     (∀ty,(Builtin.append_ #[T,T] ty #[ux,.slice (some ad) news.length v]).run P w=.ok (.slice (some ⟨w.heap.size,0,none⟩) (jE.length+news.length) (grownCap w (jE.length+news.length) f e))
      (w.drew.alloc (.cells (p.toArray++us.toArray++Builtin.zeroCells zv.cells (grownCap w (jE.length+news.length) f e-(jE.length+news.length))) e)))->
     K vv (h.put j ⟨some w.heap.size,e,i.size,jE++news⟩)->o.wp P a w (fQ C F w a o.dst K) Q:=by
    intro vv j jE p f VD G hlt l im hk;have Z:=vP l
    have VE:jE.length+news.length<=maxLen:=by
     have:=aV (dD (jE.length+news.length) UP) Z;simp only[maxLen];omega
    have Rj:=grownCap_ge w (jE.length+news.length) f e;have hcm:=grownCap_le_maxLen w (jE.length+news.length) f e VE;have R:Ev (λ_=>False) w (w.drew.alloc (.cells (p.toArray++us.toArray++Builtin.zeroCells zv.cells (grownCap w (jE.length+news.length) f e-(jE.length+news.length))) e)):=(Ev.drew _ _).trans (Ev.alloc _ _ _);have U:=(G.append d).keep (λx y hr=>hs.keep hC R (λ_ _ h=>h.elim) hr);have t:(p.toArray++us.toArray++Builtin.zeroCells zv.cells (grownCap w (jE.length+news.length) f e-(jE.length+news.length))).size=grownCap w (jE.length+news.length) f e*i.size:=by
     simp only[Array.size_append,bH,Lm,VB,G.len,d.len,<-bU]
     congr 1
     omega
    have g:=heap_alloc_new w.drew (Obj.cells (p.toArray++us.toArray++Builtin.zeroCells zv.cells (grownCap w (jE.length+news.length) f e-(jE.length+news.length))) e);refine jO hC (k:=j) (L:=λ_=>False) hs (jZ ho hb hx hT λty=>?_) R (λ_ _ h=>h.elim) (VD _ _ _ (.own j w.heap.size i.size (jE.length+news.length) _ _ e (0,0) g t hcm Rj)) (fe.of_flat g t hcm (by rw[ae];exact Rj) U λm u hu=>?_) (λb A=>.inl (by cases A;exact ak _)) hk
    ·rw[hex,M];exact im ty
    ·have hlt:m<(p++us).length:=(aj.1 hu).1;rw[b6 (by simpa using hlt)];simpa using hu
   have small:∀n:Nat,((n:Int)+news.length)*i.bytes<=140737488355328->((n+news.length:Nat):Int)<=9223372036854775807/\(n+news.length)*i.bytes<=140737488355328:=by
    intro n l
    have Z:=vP l
    have:=aV (dD (n+news.length) UP) Z;exact⟨by clear l;omega,Z⟩
   have Rl:ux=.slice none 0 0->((0:Int)+news.length)*i.bytes<=140737488355328->∀j,K (.own j (some w.heap.size) i.size (0+news.length)) (h.put j ⟨some w.heap.size,e,i.size,[]++news⟩)->o.wp P a w (fQ C F w a o.dst K) Q:=by
    intro hu l j hk;subst hu;obtain⟨s1,s2⟩:=small 0 (by simpa using l);refine fresh _ j [] [] 0 (λ_ _ _ h=>h) ⟨by simp,by simp,by simp,by simp⟩ (by simp only[aL];omega) l (λty=>?_) hk;have:=run_append_nil (P:=P) w T ty e i zv hd hi Rh ad news.length v us d.len D UQ qW (by rw[aW] at s2;omega);simp only[aL,aW];simpa using this
   cases h1 with
   |nilsl=>
    obtain⟨hk,l,hK⟩:=hK;exact Rl rfl (by simpa using l) k (by simpa using hK (some w.heap.size))
   |ownnil j sz'=>
    simp only[] at hK;cases hj:h j with
    |none=>rw[hj] at hK;exact hK.elim
    |some ob=>
     rw[hj] at hK;obtain⟨e1,W,X,N,Y,l,hK⟩:=hK;subst X;have Tt:ob.rows=[]:=aB Y;have hK:=hK (some w.heap.size);rw[Tt] at hK;exact Rl rfl (by simpa using l) j hK
   |own j b sz' n cap r ee fr J hcs hm hn=>
    simp only[] at hK;cases hj:h j with
    |none=>rw[hj] at hK;exact hK.elim
    |some ob=>
     rw[hj] at hK;obtain⟨e1,W,X,N,Y,l,hK⟩:=hK;subst X;obtain⟨s1,s2⟩:=small n l
     obtain⟨c',cap',p,H,g1,g2,g3,G,I⟩:=B5 (C:=C) (hs.ob j ob hj) e1;rw[H] at J;cases J;rw[W] at g1 G I;have jD:cap'=cap:=eE (by rw[hsz];exact Rg) (g1.symm.trans hcs);subst jD;have Pf:∀(m:Nat)(u:Value),p[m]? =some u->w.cell? ((⟨b,0,none⟩:Addr).add m)=some u:=by
      intro m u hu;rw[jN,aW,cell_of_row w b m r ob.ty (0,0) H];rw[I,aZ] at hu
      split at hu
      ·simpa using hu
      ·cases hu
     by_cases E:n+news.length<=cap'
     ·have Ln:n*i.size+us.length<=r.size:=by rw[d.len,g1,<-bU];exact bD _ E
      have hr:=λty=>run_append_room (P:=P) w T ty e i hd hi b n cap' r (by rw[H,N]) ad news.length v us d.len D d.one E Ln;have t:((r.toList.take (n*i.size)++us++r.toList.drop (n*i.size+us.length)).toArray).size=r.size:=by
       simp only[bH,ae,aE,aP,bG];omega
      have R:Ev (λx=>x=b) w (w.setRow b (r.toList.take (n*i.size)++us++r.toList.drop (n*i.size+us.length)).toArray):=Ev.setRow rfl H t;have g:=setRow_heap w b r (r.toList.take (n*i.size)++us++r.toList.drop (n*i.size+us.length)).toArray ob.ty (0,0) H;have U:=(G.append d).keep (λx y hr=>hs.keep hC R (λx _ hx=>⟨j,ob,hj,by rw[e1,hx]⟩) hr);rw[N] at g;refine jO hC (k:=j) (L:=λx=>x=b) hs (jZ ho hb hx hT λty=>?_) R (λx _ hx=>⟨ob,hj,by rw[e1,hx]⟩) (.own j b i.size (n+news.length) cap' _ e (0,0) g (by rw[t,g1]) g2 E)
       (fe.of_flat g (by rw[t,g1]) g2 (by rw[ae,Y];exact E) U λm u hu=>?_) (λb' A=>.inr ⟨ob,hj,by rw[e1];exact A⟩) (hK (some b))
      ·rw[hex,M];exact hr ty
      ·have hlt:m<(p++us).length:=(aj.1 hu).1;have Tu:p=r.toList.take (n*i.size):=by rw[I,Y]
       rw[Tu] at hu hlt;rw[fy,bu (by simpa using hlt)];exact hu
     ·refine fresh _ j ob.rows p cap' (λ_ _ _ h=>h) G qW (by rw[Y];exact l) (λty=>?_) (by rw[Y];exact hK (some w.heap.size));have:=run_append_grow (P:=P) w T ty e i zv hd hi Rh ⟨b,0,none⟩ n cap' p (by rw[G.len,Y]) Pf ad news.length v us d.len D qW qW (growslice_fits qW s2);rw[Y];exact this
   |winemp j b sz' lo VF=>
    simp only[] at hK;cases hj:h j with
    |none=>rw[hj] at hK;exact hK.elim
    |some ob=>
     rw[hj] at hK;obtain⟨e1,W,X,N,_,e6,l,hK⟩:=hK;subst X;have hK:=hK (some w.heap.size) [] (.inr rfl);obtain⟨s1,s2⟩:=small 0 (by simpa using l);refine fresh (.win j (some w.heap.size) i.size ([]:List (List V)).length (([]:List (List V)).length+news.length)) j [] [] 0 (λF' w' u hr=>?_) ⟨by simp,by simp,by simp,by simp⟩ (by simp only[aL];omega) (by simpa using l) (λty=>?_) hK
     ·have:=hr.FZ;simpa using this
     ·cases VF with
      |none=>
       have:=run_append_nil (P:=P) w T ty e i zv hd hi Rh ad news.length v us d.len D UQ qW (by rw[aW] at s2;omega);simp only[aL,aW];simpa using this
      |some a0=>
       have:=run_append_grow (P:=P) w T ty e i zv hd hi Rh a0 0 0 [] (by simp) (by simp) ad news.length v us d.len D qW qW (growslice_fits qW s2);simpa using this
   |win j b sz' cap lo hi' r ee fr J hcs hm hn hl0 SX=>
    simp only[] at hK;cases hj:h j with
    |none=>rw[hj] at hK;exact hK.elim
    |some ob=>
     rw[hj] at hK;obtain⟨e1,W,X,N,Y,e6,l,hK⟩:=hK;subst X Y;obtain⟨s1,s2⟩:=small 0 (by simpa using l);obtain⟨c',cap',p,H,g1,g2,g3,G,I⟩:=B5 (C:=C) (hs.ob j ob hj) e1;rw[H] at J;cases J;rw[W] at g1 G I;have jD:cap'=cap+lo.toNat:=eE (by rw[hsz];exact Rg) (g1.symm.trans hcs);have hlen:ob.rows.length=lo.toNat:=by omega
     have e0:(lo-lo).toNat=0:=by omega
     rw[e0] at hex hn
     by_cases E:news.length<=cap
     ·have Ln:lo.toNat*i.size+0*i.size+us.length<=r.size:=by rw[d.len,g1,jD,ez,bQ,<-bU];exact bD _ qW
      have hr:=λty=>rT (P:=P) (w:=w) T ty e i hd hi b (lo.toNat*i.size) 0 cap r (by rw[H,N]) ad news.length v us d.len D d.one qW Ln;rw[ez,bQ,aW] at hr;rw[ez,bQ] at Ln;have t:((r.toList.take (lo.toNat*i.size)++us++r.toList.drop (lo.toNat*i.size+us.length)).toArray).size=r.size:=by
       simp only[bH,ae,aE,aP,bG];omega
      have R:Ev (λx=>x=b) w (w.setRow b (r.toList.take (lo.toNat*i.size)++us++r.toList.drop (lo.toNat*i.size+us.length)).toArray):=Ev.setRow rfl H t;have g:=setRow_heap w b r (r.toList.take (lo.toNat*i.size)++us++r.toList.drop (lo.toNat*i.size+us.length)).toArray ob.ty (0,0) H;have U:=(G.append d).keep (λx y hr=>hs.keep hC R (λx _ hx=>⟨j,ob,hj,by rw[e1,hx]⟩) hr);rw[N] at g;have VG:=hK (some b) ob.rows (.inl rfl);have hrel:Rel (λx=>F x) C.B (w.setRow b (r.toList.take (lo.toNat*i.size)++us++r.toList.drop (lo.toNat*i.size+us.length)).toArray) (.win j (some b) i.size ob.rows.length (ob.rows.length+news.length)) (.slice (some ⟨b,lo.toNat*i.size,none⟩) news.length cap):=by
       have:=Rel.win (F:=F) (B:=C.B) (w:=w.setRow b (r.toList.take (lo.toNat*i.size)++us++r.toList.drop (lo.toNat*i.size+us.length)).toArray) j b i.size cap (ob.rows.length:Int) ((ob.rows.length:Int)+news.length) _ e (0,0) g (by rw[t,hcs,e6]) (by rw[e6];exact hm) qW qW qW;have q1:((ob.rows.length:Int)+news.length-ob.rows.length).toNat=news.length:=by omega
       have q2:((ob.rows.length:Int)).toNat=lo.toNat:=by omega
       rw[q1,q2] at this;exact this
      refine jO hC (k:=j) (L:=λx=>x=b) hs (jZ ho hb hx hT λty=>?_) R (λx _ hx=>⟨ob,hj,by rw[e1,hx]⟩) hrel
       (fe.of_flat g (by rw[t,g1]) g2 (by rw[ae,jD];omega) U λm u hu=>?_) (λb' A=>.inr ⟨ob,hj,by rw[e1];exact A⟩) VG
      ·rw[hex,M];exact hr ty
      ·have hlt:m<(p++us).length:=(aj.1 hu).1;have Tu:p=r.toList.take (lo.toNat*i.size):=by rw[I,hlen]
       rw[Tu] at hu hlt;rw[fy,bu (by simpa using hlt)];exact hu
     ·have hK:=hK (some w.heap.size) [] (.inr rfl);refine fresh (.win j (some w.heap.size) i.size ([]:List (List V)).length (([]:List (List V)).length+news.length)) j [] [] cap (λF' w' u hr=>?_) ⟨by simp,by simp,by simp,by simp⟩ (by simp only[aL];omega) (by simpa using l) (λty=>?_) hK
      ·have:=hr.FZ;simpa using this
      ·have:=run_append_grow (P:=P) w T ty e i zv hd hi Rh ⟨b,lo.toNat*i.size,none⟩ 0 cap [] (by simp) (by simp) ad news.length v us d.len D qW qW (growslice_fits qW s2);simpa using this
   |_=>exact hK.elim
end
theorem AP(vs:List Value):∀(k off:Nat)(cells:Array Value),off+k+vs.length<=cells.size->
  ((vs.zipIdx k).foldl (λcs(x:Value×Nat)=>cs.setIfInBounds (off+x.2) x.1) cells).size=cells.size/\
  ∀m,((vs.zipIdx k).foldl (λcs(x:Value×Nat)=>cs.setIfInBounds (off+x.2) x.1) cells)[m]? =if m<off+k then cells[m]? else if m<off+k+vs.length then vs[m-(off+k)]? else cells[m]? :=by
 induction vs with
 |nil=>intro k off cells _;refine⟨rfl,λm=>?_⟩;simp only[List.zipIdx_nil,List.foldl_nil,aL,bQ];by_cases hm:m<off+k<;>simp[hm]
 |cons v vs ih=>
  intro k off cells h;simp only[List.zipIdx_cons,en];simp only[ar] at h;obtain⟨h1,h2⟩:=ih (k+1) off (cells.setIfInBounds (off+k) v) (by simp;omega);refine⟨by rw[h1];simp,λm=>?_⟩;rw[h2];simp only[bp,ar]
  by_cases h3:m<off+k
  ·rw[ab qW,aa qW,ab h3]
  ·by_cases h4:m=off+k
   ·subst h4;rw[ab qW,ab rfl,ab qW,aa qW,ab qW];simp
   ·rw[aa h3]
    by_cases h5:m<off+k+(vs.length+1)
    ·rw[aa qW,ab qW,ab h5,show m-(off+k)=(m-(off+(k+1)))+1 by omega,cS]
    ·rw[aa qW,aa qW,aa qW,aa h5]
theorem sI(v:Value)(off:Nat)(cells:Array Value)(h:off+v.cells.size<=cells.size):
  (v.cells.zipIdx.foldl (λcs(c,j)=>cs.setIfInBounds (off+j) c) cells).size=cells.size/\
  ∀m,(v.cells.zipIdx.foldl (λcs(c,j)=>cs.setIfInBounds (off+j) c) cells)[m]? =if m<off then cells[m]? else if m<off+v.cells.size then v.cells[m-off]? else cells[m]? :=by
 have:=AP v.cells.toList 0 off cells (by simpa using h);rw[<-Array.foldl_toList,Array.toList_zipIdx];simpa using this
section
variable {P:Program} {C:Ctx} {F:Nat->Prop} {w w':World} {a:Act} {s:S} {h:Hp} {K:V->Hp->Prop} {Q:Exit->Act->World->Prop} {o:Oper}
theorem F1{off:Nat->Option (Nat×Nat)}{n:Nat}:∀(parts:List (Nat×Operand))(ps:List (Nat×Nat×hS))(r:List V)(c:Array Value),mg off n parts=some ps->(hr:∀i:Nat,Rel F C.B w (s.t i) (a.tmps.getD i undef))->
  (∀p∈ps,(p.2.2.ev s).fits p.2.1)->r.length=n->c.size=n->(∀(m:Nat)(v:V)(u:Value),r[m]? =some v->c[m]? =some u->Rel F C.B w v u)->
  ∃c',Instr.fill off c (parts.map λp=>(p.1,a.eval p.2))=some c'/\c'.size=n/\(vJ r (ps.map λp=>(p.1,(p.2.2.ev s).cells))).length=n/\
   (∀(m:Nat)(v:V)(u:Value),(vJ r (ps.map λp=>(p.1,(p.2.2.ev s).cells)))[m]? =some v->c'[m]? =some u->Rel F C.B w v u):=by
 intro parts
 induction parts with
 |nil=>
  intro ps r c ht hr hf hl hc hrel;simp only[mg,aC] at ht;subst ht;exact⟨c,rfl,hc,hl,hrel⟩
 |cons p parts ih=>
  intro ps r c ht hr hf hl hc hrel;obtain⟨j,x⟩:=p;simp only[mg] at ht;cases h1:off j with
  |none=>rw[h1] at ht;simp at ht
  |some os=>
   obtain⟨o,sz⟩:=os;cases h2:mf x with
   |none=>rw[h1,h2] at ht;simp at ht
   |some y=>
    cases h3:mg off n parts with
    |none=>rw[h1,h2,h3] at ht;simp at ht
    |some m=>
     rw[h1,h2,h3] at ht;simp only[] at ht
     split at ht
     ·rename_i hle;cases ht;have hy:=ep hr h2;have b:=hf _ (aR ..);obtain⟨hz,e⟩:=o9 hy b;have f:(y.ev s).cells.length=sz:=b.1;obtain⟨g1,g2⟩:=sI (a.eval x) o c (by rw[hz,hc];exact hle);have g:(lE r o (y.ev s).cells).length=n:=by simp only[lE,ae,aE,aP];omega
      obtain⟨c',e1,q,z,A⟩:=ih m (lE r o (y.ev s).cells) _ h3 hr (λp hp=>hf p (aY _ hp)) g (g1.trans hc) (λk v u hv hu=>by
       rw[g2] at hu;unfold lE at hv;rw[pY r (y.ev s).cells o k qW] at hv;rw[hz] at hu;rw[f] at hv
       by_cases q1:k<o
       ·rw[ab q1] at hv hu;exact hrel k v u hv hu
       ·rw[aa q1] at hv hu
        by_cases q2:k<o+sz
        ·rw[ab q2] at hv hu;obtain⟨u',d,_,l⟩:=e (k-o) v hv;rw[hu] at d;cases d;exact l
        ·rw[aa q2] at hv hu;exact hrel k v u hv hu)
      refine⟨c',?_,q,z,A⟩;simp only[aI,Instr.fill,h1];rw[aa (by simp[hz];omega)];exact e1
     ·cases ht
theorem vQ{T:TypeId}{parts:Array (Nat×Operand)}{z:List Value}{ps:List (Nat×Nat×hS)}{off:Nat->Option (Nat×Nat)}(ho:o.op=.build T parts)(hz:lF P T=some z)(ht:mg off z.length parts.toList=some ps)
  (c:(∃fs places,P.underlying T=some (.struct fs)/\fs.toList.mapM (λf=>(P.info? f.type).map λi=>(f.offset,i.size))=some places/\off=λj=>places.toArray[j]?)\/(∃k e n,P.underlying T=some (.array k e)/\qF P e=some n/\off=λj=>some (j*n,n)))
  (hs:fT C F h w)(hr:∀i:Nat,Rel F C.B w (s.t i) (a.tmps.getD i undef))(hf:∀p∈ps,(p.2.2.ev s).fits p.2.1)(hK:K (.agg (vJ (z.map ya) (ps.map λp=>(p.1,(p.2.2.ev s).cells)))) h):o.wp P a w (fQ C F w a o.dst K) Q:=by
 have d:=hz;simp only[lF,an,cx] at d;obtain⟨A,⟨it,hit,g⟩,l⟩:=d;obtain⟨c',e1,D,E,G⟩:=F1 (F:=F) (C:=C) (w:=w) parts.toList ps (z.map ya) A.cells ht hr hf (by simp) (by rw[<-l];simp) (λm v u hv hu=>by
  simp only[aw,an] at hv;obtain⟨u',q,rfl⟩:=hv;rw[<-l,cl,hu] at q;cases q;exact qG _ _ _ _)
 refine wp_pure (u:=.agg c') hs ?_ (.agg _ _ (by rw[D,E]) G) hK;have b:P.built T (parts.map λ(i,x)=>(i,a.eval x)).toList=some c':=by
  have r:(parts.map λ(i,x)=>(i,a.eval x)).toList=parts.toList.map λp=>(p.1,a.eval p.2):=by simp
  rw[r];unfold Program.built
  rcases c with⟨fs,places,hd,hp,rfl⟩|⟨k,e,n,hd,hn,rfl⟩
  ·simp only[hit,hd,g,hp];exact e1
  ·simp only[qF,an] at hn;obtain⟨H,y,rfl⟩:=hn;simp only[hit,hd,g,y];exact e1
 unfold execOp;rw[ho];simp only[Sem.run_bind,run_build w T _ c' b,Result.andThen_ok,Sem.run_pure]
theorem Lo{n sz:Nat}:∀(parts:List (Nat×Operand))(ps:List hS)(i:Nat)(c:Array Value),tL i parts=some ps->(hr:∀i:Nat,Rel F C.B w (s.t i) (a.tmps.getD i undef))->
  (∀p∈ps,(p.ev s).fits sz)->c.size=n->(i+ps.length)*sz<=n->
  ∃c',Instr.fill (λj=>some (j*sz,sz)) c (parts.map λp=>(p.1,a.eval p.2))=some c'/\c'.size=n/\(∀m,m<i*sz->c'[m]? =c[m]?)/\
   (∀(k j:Nat)(p:hS)(v:V),ps[k]? =some p->(p.ev s).cells[j]? =some v->∃u,c'[(i+k)*sz+j]? =some u/\u.oneCell'=true/\Rel F C.B w v u):=by
 intro parts
 induction parts with
 |nil=>
  intro ps i c ht hr hf hc hle;simp only[tL,aC] at ht;subst ht;exact⟨c,rfl,hc,λ_ _=>rfl,by simp⟩
 |cons p parts ih=>
  intro ps i c ht hr hf hc hle;obtain⟨j,x⟩:=p;simp only[tL] at ht;cases h2:mf x with
  |none=>rw[h2] at ht;simp at ht
  |some y=>
   cases h3:tL (i+1) parts with
   |none=>rw[h2,h3] at ht;simp at ht
   |some m=>
    rw[h2,h3] at ht;simp only[] at ht
    split at ht
    ·rename_i e;cases ht;subst e;have hy:=ep hr h2;have b:=hf _ (aR ..);obtain⟨hz,f⟩:=o9 hy b;have r:(y.ev s).cells.length=sz:=b.1;simp only[ar] at hle;have d:(j+1)*sz<=n:=aV (bD _ qW) hle;rw[bU] at d;obtain⟨g1,g2⟩:=sI (a.eval x) (j*sz) c (by rw[hz,hc];omega);obtain⟨c',e1,z,l,A⟩:=ih m (j+1) _ h3 hr (λp hp=>hf p (aY _ hp)) (g1.trans hc) (by rw[show j+1+m.length=j+(m.length+1) by omega];exact hle);have hmul:(j+1)*sz=j*sz+sz:=by rw[bU];omega
     refine⟨c',?_,z,λq hq=>?_,λk q p v hk hv=>?_⟩
     ·simp only[aI,Instr.fill];rw[aa (by simp[hz];omega)];exact e1
     ·rw[l q qW,g2,ab hq]
     ·cases k with
      |zero=>
       simp at hk;subst hk;have hq:q<sz:=by have:=(aj.1 hv).1;omega
       obtain⟨u,hu,h1,g⟩:=f q v hv;refine⟨u,?_,h1,g⟩;rw[bQ,l _ qW,g2,aa qW,ab (by rw[hz];omega),show j*sz+q-j*sz=q by omega];exact hu
      |succ k=>
       simp only[cS] at hk;have:=A k q p v hk hv
       rwa[show j+1+k=j+(k+1) by omega] at this
    ·cases ht
theorem AQ(hC:C.Ok){T e:TypeId}{k len:Nat}{parts:Array (Nat×Operand)}{z:List Value}{ps:List hS}{sz:Nat}(ho:o.op=.buildSlice T len parts)(hd:P.underlying T=some (.slice e))(hn:qF P e=some sz)(hz:lF P e=some z)(ht:tL 0 parts.toList=some ps)
  (G:z.length=sz)(g:0<sz)(hle:len*sz<=16777216)(hlen:ps.length=len)(hs:fT C F h w)(hr:∀i:Nat,Rel F C.B w (s.t i) (a.tmps.getD i undef))(hf:∀p∈ps,(p.ev s).fits sz)
  (hK:∀β:Nat,K (.own k (some β) sz ps.length) (h.put k ⟨some β,e,sz,ps.map λp=>(p.ev s).cells⟩)):o.wp P a w (fQ C F w a o.dst K) Q:=by
 obtain⟨D,H,q⟩:=tP (P:=P) (w:=w) hz;have l:len<=maxLen:=by
  have:len*1<=len*sz:=Nat.mul_le_mul_left _ g;simp only[maxLen];omega
 let zero:Array Value:=if len*sz=0 then #[] else D.cells
 obtain⟨c',e1,E,J,I⟩:=Lo (F:=F) (C:=C) (w:=w) (n:=len*sz) (sz:=sz) parts.toList ps 0 ((Array.range (len*sz)).map (zero[·%zero.size]!)) ht hr hf (by simp) (by rw[aW,hlen];exact ak _);have c:=heap_alloc_new w (Obj.cells c' e);have f:=λ{x:V}{y:Value}=>hs.keep hC (x:=x) (y:=y) (Ev.alloc (λ_=>False) w (Obj.cells c' e)) (λ_ _ h=>h.elim);refine jO hC (u:=.slice (some ⟨w.heap.size,0,none⟩) len len) (w':=w.alloc (.cells c' e)) (L:=λ_=>False) hs ?_ (Ev.alloc _ _ _) (λ_ _ h=>h.elim) (by rw[hlen];exact .own k w.heap.size sz len len c' e (0,0) c E l (ak _))
  (show fe F C.B (w.alloc (.cells c' e)) ⟨some w.heap.size,e,sz,ps.map λp=>(p.ev s).cells⟩ from⟨c',len,c,E,l,by simp[hlen],λr m=>?_,λi j r v hi hj=>?_⟩) (λb hb=>.inl (by cases hb;exact ak _)) (hK w.heap.size)
 ·unfold execOp;rw[ho];have d:(parts.map λ(i,x)=>(i,a.eval x)).toList=parts.toList.map λp=>(p.1,a.eval p.2):=by simp
  simp only[Instr.buildSlice,Sem.run_bind,run_underlying hd,Result.andThen_ok,gh hn];rw[aa qW]
  by_cases h0:len*sz=0
  ·have hz0:zero= #[]:=by simp[zero,h0]
   rw[hz0,h0] at e1;simp only[h0,↓reduceIte,Sem.run_bind,Sem.run_pure,Result.andThen_ok,d,e1,newRow,newObj,Sem.run];rfl
  ·have hz0:zero=D.cells:=by simp[zero,h0]
   rw[hz0] at e1;simp only[h0,↓reduceIte,Sem.run_bind,Sem.run_pure,Result.andThen_ok,q,d,e1,newRow,newObj,Sem.run];rfl
 ·simp only[aM] at m;obtain⟨p,hp,rfl⟩:=m;exact(hf p hp).1
 ·simp only[aw,an] at hi;obtain⟨p,hp,rfl⟩:=hi;obtain⟨u,hu,h1,A⟩:=I i j p v hp hj;rw[aW] at hu;exact⟨u,hu,h1,f A⟩
end
section
variable {P:Program} {C:Ctx} {F:Nat->Prop} {w w':World} {a:Act} {s:S} {h:Hp} {K:V->Hp->Prop} {Q:Exit->Act->World->Prop} {o:Oper}
theorem yi(hC:C.Ok){T e:TypeId}{k:Nat}{x y:Operand}{i:TypeInfo}{z:List Value}{k1 W:IntKind}{n:Int}(ho:o.op=.makeSlice T x y)(hd:P.underlying T=some (.slice e))(hi:P.info? e=some i)(hz:lF P e=some z)
  (hsz:i.size=z.length)(U:0<z.length)(hs:fT C F h w)(h1:Rel F C.B w (.int k1 n) (a.eval x))(h2:Rel F C.B w (.int W n) (a.eval y))(hn:0<=n)(l:z.all (λu=>u.oneCell')=true)
  (X:n*i.bytes<=140737488355328)(Y:n<=140737488355328)
  (hK:∀β:Nat,K (.own k (some β) i.size n.toNat) (h.put k ⟨some β,e,i.size,List.replicate n.toNat (z.map ya)⟩)):o.wp P a w (fQ C F w a o.dst K) Q:=by
 obtain⟨m,rfl⟩:∃m:Nat,n=m:=⟨n.toNat,qW⟩;simp only[aG] at hK;obtain⟨I,p,J⟩:=tP (P:=P) (w:=w) hz;have M:I.cells.size=i.size:=by rw[hsz,<-p];simp
 generalize hex:a.eval x=ux at h1
 generalize N:a.eval y=uy at h2
 cases h1;cases h2;have hw:IntKind.i64.wrap (m:Int)=m:=wrap64 (by unfold kA;omega);have Z:m*i.bytes<=140737488355328:=by
  have e:((m*i.bytes:Nat):Int)=(m:Int)*i.bytes:=by rw[ej]
  omega
 let zero:Array Value:=if m*i.size=0 then #[] else I.cells
 let c':Array Value:=(Array.range (m*i.size)).map (zero[·%zero.size]!)
 have c:=heap_alloc_new w (Obj.cells c' e);have q:m<=maxLen:=by simp only[maxLen];omega
 have t:c'.size=m*i.size:=by simp[c']
 have A:(typeInfo e).run P w=.ok i w:=by simp[typeInfo,program,Sem.run_bind,Sem.run_pure,Sem.run,hi]
 have O:(sizeOf e).run P w=.ok i.size w:=by simp[sizeOf,A,Sem.run_bind,Sem.run_pure]
 refine jO hC (u:=.slice (some ⟨w.heap.size,0,none⟩) m m) (w':=w.alloc (.cells c' e)) (L:=λ_=>False) hs ?_ (Ev.alloc _ _ _) (λ_ _ h=>h.elim) (.own k w.heap.size i.size m m c' e (0,0) c t q (ak _))
  (show fe F C.B (w.alloc (.cells c' e)) ⟨some w.heap.size,e,i.size,List.replicate m (z.map ya)⟩ from⟨c',m,c,t,q,by simp,λr R=>?_,λii j r v d hj=>?_⟩) (λb hb=>.inl (by cases hb;exact ak _)) (hK w.heap.size)
 ·have f:(askRoom (m*i.bytes)).run P w=.ok () w:=by
   unfold askRoom roomBytes;rw[aa qW];rfl
  have D:¬((i.bytes:Int)*(m:Int)>2^48):=by
   have e:((m*i.bytes:Nat):Int)=(i.bytes:Int)*(m:Int):=by rw[ej,Int.mul_comm]
   omega
  unfold execOp;rw[ho];simp only[Instr.makeSlice,Sem.run_bind,run_underlying hd,Result.andThen_ok,hex,N,asInt,asIntOf,Sem.run_pure,A,hw];have g:((((m:Int)<0||(i.bytes:Int)*(m:Int)>2^48)||(m:Int)<0||(m:Int)>m):Bool)=false:=by
   simp[D];omega
  rw[g,aa qD];simp only[aG,Sem.run_bind,f,Result.andThen_ok,O]
  by_cases h0:m*i.size=0
  ·have hz0:zero= #[]:=by simp[zero,h0]
   simp only[c',hz0,h0,↓reduceIte,Sem.run_bind,Sem.run_pure,Result.andThen_ok,newRow,newObj,Sem.run];rfl
  ·have hz0:zero=I.cells:=by simp[zero,h0]
   simp only[c',hz0,h0,↓reduceIte,Sem.run_bind,Sem.run_pure,Result.andThen_ok,J,newRow,newObj,Sem.run];rfl
 ·rw[List.eq_of_mem_replicate R];simp[hsz]
 ·rw[dG] at d
  split at d
  ·rename_i hlt;cases d;simp only[aw,an] at hj;obtain⟨u,hu,rfl⟩:=hj;have E:j<i.size:=by have:=(aj.1 hu).1;omega
   have G:=FX hlt E;refine⟨u,?_,aF.1 l u (az hu),qG _ _ _ _⟩;have hz0:zero=I.cells:=by simp only[zero];rw[aa qW]
   have H:(ii*i.size+j)%i.size=j:=by rw[dK,Nat.mul_add_mod];exact cT E
   simp only[c',hz0,M,dz];rw[Array.getElem?_range,ab G];simp only[aJ,H];rw[<-p,cl] at hu;simp[getElem!_def,hu]
  ·cases d
end
def V.rl(f:Nat->Nat):V->V
 |.own k b sz n=>.own (f k) b sz n
 |.win k b sz lo hi=>.win (f k) b sz lo hi
 |.ptr k b sz i off=>.ptr (f k) b sz i off
 |v=>v
def V.gy(f:Nat->Nat):V->V
 |.agg cs=>.agg (cs.map (V.rl f))
 |.tup vs=>.tup (vs.map λ|.agg cs=>.agg (cs.map (V.rl f))|v=>v.rl f)
 |v=>v.rl f
def Ob.gy(f:Nat->Nat)(o:Ob):Ob:= {o with rows:=o.rows.map (·.map (V.rl f))}
def gD(m:List (Nat×Nat))(k:Nat):Nat:=match m with
 |[]=>k
 |(a,b)::m=>if k=a then b else gD m k
def gP(m:List (Nat×Nat))(k:Nat):Nat:=match m with
 |[]=>k
 |(a,b)::m=>if k=b then a else gP m k
theorem Rel.rl{F B:Nat->Prop}{w:World}{v:V}{u:Value}(f:Nat->Nat)(h:Rel F B w v u):Rel F B w (v.rl f) u:=by
 cases h with
 |ownnil k sz=>exact .ownnil _ _
 |own k b sz n cap c e fr h hs hm hn=>exact .own _ b sz n cap c e fr h hs hm hn
 |winemp k b sz lo a=>exact .winemp _ _ sz lo a
 |win k b sz cap lo hi c e fr h hs hm hn h0 h1=>exact .win _ b sz cap lo hi c e fr h hs hm hn h0 h1
 |ptr k b sz i off=>exact .ptr _ b sz i off
 |int=>exact .int _ _
 |bool=>exact .bool _
 |str=>exact .str _
 |agg cs us hl h=>exact .agg cs us hl h
 |tup cs us hl h=>exact .tup cs us hl h
 |slnil t sz=>exact .slnil t sz
 |slemp t sz a cap=>exact .slemp t sz a cap
 |sl t sz rows b off cap us a1 a2 a3 a4 a5=>exact .sl t sz rows b off cap us a1 a2 a3 a4 a5
 |nilsl=>exact .nilsl
 |rp t b off cs us a1 a2 a3=>exact .rp t b off cs us a1 a2 a3
 |nil=>exact .nil
 |fn f caps us hl h=>exact .fn f caps us hl h
 |raw=>exact .raw _
 |mN=>exact .mN
 |gC=>exact .gC _
theorem Rel.B6{F B:Nat->Prop}{w:World}{cs:List V}{u:Value}(f:Nat->Nat)(h:Rel F B w (.agg cs) u):Rel F B w (.agg (cs.map (V.rl f))) u:=by
 cases h with
 |agg _ us hl h=>
  refine .agg _ us (by simpa using hl) λi v u hv hu=>?_;simp only[aw,an] at hv;obtain⟨v',a,rfl⟩:=hv;exact(h i v' u a hu).rl f
theorem Rel.gy{F B:Nat->Prop}{w:World}{v:V}{u:Value}(f:Nat->Nat)(h:Rel F B w v u):Rel F B w (v.gy f) u:=by
 cases v with
 |agg cs=>exact h.B6 f
 |tup vs=>
  cases h with
  |tup _ us hl h=>
   refine .tup _ us (by simpa using hl) λi v u hv hu=>?_;simp only[aw,an] at hv;obtain⟨v',a,rfl⟩:=hv;have:=h i v' u a hu;cases v' with
   |agg cs=>exact this.B6 f
   |_=>exact this.rl f
 |_=>exact h.rl f
theorem fe.gy{F B:Nat->Prop}{w:World}{o:Ob}(f:Nat->Nat)(h:fe F B w o):fe F B w (o.gy f):=by
 unfold fe at h⊢;simp only[Ob.gy];cases hb:o.b with
 |none=>rw[hb] at h;simp only at h⊢;rw[h];rfl
 |some b=>
  rw[hb] at h;obtain⟨c,cap,hc,h1,h2,h3,h4,h5⟩:=h;refine⟨c,cap,hc,h1,h2,by simpa using h3,λr hr=>?_,λi j r v hi hj=>?_⟩
  ·simp only[aM] at hr;obtain⟨r',a,rfl⟩:=hr;simpa using h4 r' a
  ·simp only[aw,an] at hi;obtain⟨r',a,rfl⟩:=hi;simp only[aw,an] at hj;obtain⟨v',d,rfl⟩:=hj;obtain⟨u,hu,e,hr⟩:=h5 i j r' v' a d;exact⟨u,hu,e,hr.rl f⟩
inductive Fz:V->Prop
 |int (k n):Fz (.int k n)
 |bool (b):Fz (.bool b)
 |str (l):Fz (.str l)
 |agg (cs) (h:∀v∈cs,Fz v):Fz (.agg cs)
 |tup (cs) (h:∀v∈cs,Fz v):Fz (.tup cs)
 |sl (sz rows) (h:∀r∈rows,∀v∈r,Fz v):Fz (.sl false sz rows)
 |nilsl:Fz .nilsl
 |own (k b sz n):Fz (.own k b sz n)
 |win (k b sz lo hi):Fz (.win k b sz lo hi)
 |ptr (k b sz i off):Fz (.ptr k b sz i off)
 |rp (cs) (h:∀v∈cs,Fz v):Fz (.rp false cs)
 |nil:Fz .nil
 |fn (f caps) (h:∀v∈caps,Fz v):Fz (.fn f caps)
 |raw (v):Fz (.raw v)
 |mN:Fz .mN
 |gC:Fz .gC
theorem Rel.fz{F B B':Nat->Prop}{w:World}{v:V}{u:Value}(h:Rel F B w v u)(hz:Fz v):Rel F B' w v u:=by
 induction h with
 |int=>exact .int _ _
 |bool=>exact .bool _
 |str=>exact .str _
 |agg cs us hl h ih=>cases hz with|agg _ hz=>exact .agg cs us hl λi v u hv hu=>ih i v u hv hu (hz v (az hv))
 |tup cs us hl h ih=>cases hz with|tup _ hz=>exact .tup cs us hl λi v u hv hu=>ih i v u hv hu (hz v (az hv))
 |slnil t sz=>exact .slnil t sz
 |slemp t sz a cap=>exact .slemp t sz a cap
 |sl t sz rows b off cap us hF jD hsz hc hr ih=>
  cases hz with
  |sl _ _ hz=>
   refine .sl false sz rows b off cap us ?_ jD hsz hc λi j r v hi hj=>ih i j r v hi hj (hz r (az hi) v (az hj))
   rcases hF with h|⟨h,_⟩
   ·exact .inl h
   ·cases h
 |nilsl=>exact .nilsl
 |ownnil k sz=>exact .ownnil _ _
 |own k b sz n cap c e fr h hs hm hn=>exact .own _ b sz n cap c e fr h hs hm hn
 |winemp k b sz lo a=>exact .winemp _ _ sz lo a
 |win k b sz cap lo hi c e fr h hs hm hn h0 h1=>exact .win _ b sz cap lo hi c e fr h hs hm hn h0 h1
 |ptr k b sz i off=>exact .ptr _ b sz i off
 |rp t b off cs us hF hc hr ih=>
  cases hz with
  |rp _ hz=>
   refine .rp false b off cs us ?_ hc λj v hj=>ih j v hj (hz v (az hj))
   rcases hF with h|⟨h,_⟩
   ·exact .inl h
   ·cases h
 |nil=>exact .nil
 |fn f caps us hl h ih=>cases hz with|fn _ _ hz=>exact .fn f caps us hl λi v u hv hu=>ih i v u hv hu (hz v (az hv))
 |raw v=>exact .raw v
 |mN=>exact .mN
 |gC v=>exact .gC v
theorem Rel.mono{F B F' B':Nat->Prop}{w:World}{v:V}{u:Value}(h:Rel F B w v u)(hF:∀b,F b->F' b)(hB:∀b,B b->F' b\/B' b):Rel F' B' w v u:=by
 have side:∀(t:Bool) b,F b\/(t=true/\B b)->F' b\/(t=true/\B' b):=by
  intro t b hh
  rcases hh with h|⟨ht,h⟩
  ·exact .inl (hF b h)
  ·rcases hB b h with h|h
   ·exact .inl h
   ·exact .inr ⟨ht,h⟩
 induction h with
 |int=>exact .int _ _
 |bool=>exact .bool _
 |str=>exact .str _
 |agg cs us hl h ih=>exact .agg cs us hl ih
 |tup cs us hl h ih=>exact .tup cs us hl ih
 |slnil t sz=>exact .slnil t sz
 |slemp t sz a cap=>exact .slemp t sz a cap
 |sl t sz rows b off cap us d jD hsz hc hr ih=>exact .sl t sz rows b off cap us (side t b d) jD hsz hc ih
 |nilsl=>exact .nilsl
 |ownnil k sz=>exact .ownnil _ _
 |own k b sz n cap c e fr h hs hm hn=>exact .own _ b sz n cap c e fr h hs hm hn
 |winemp k b sz lo a=>exact .winemp _ _ sz lo a
 |win k b sz cap lo hi c e fr h hs hm hn h0 h1=>exact .win _ b sz cap lo hi c e fr h hs hm hn h0 h1
 |ptr k b sz i off=>exact .ptr _ b sz i off
 |rp t b off cs us d hc hr ih=>exact .rp t b off cs us (side t b d) hc ih
 |nil=>exact .nil
 |fn f caps us hl h ih=>exact .fn f caps us hl ih
 |raw v=>exact .raw v
 |mN=>exact .mN
 |gC v=>exact .gC v
def Ob.Fz(o:Ob):Prop:=∀r∈o.rows,∀v∈r,AM.Fz v
theorem fe.fz{F B B':Nat->Prop}{w:World}{o:Ob}(h:fe F B w o)(hz:o.Fz):fe F B' w o:=by
 unfold fe at h⊢;cases hb:o.b with
 |none=>rw[hb] at h;exact h
 |some b=>
  rw[hb] at h;obtain⟨c,cap,hc,h1,h2,h3,h4,h5⟩:=h;refine⟨c,cap,hc,h1,h2,h3,h4,λi j r v hi hj=>?_⟩;obtain⟨u,hu,a,hr⟩:=h5 i j r v hi hj;exact⟨u,hu,a,hr.fz (hz r (az hi) v (az hj))⟩
theorem fe.mono{F B F' B':Nat->Prop}{w:World}{o:Ob}(h:fe F B w o)(hF:∀b,F b->F' b)(hB:∀b,B b->F' b\/B' b):fe F' B' w o:=by
 unfold fe at h⊢;cases hb:o.b with
 |none=>rw[hb] at h;exact h
 |some b=>
  rw[hb] at h;obtain⟨c,cap,hc,h1,h2,h3,h4,h5⟩:=h;refine⟨c,cap,hc,h1,h2,h3,h4,λi j r v hi hj=>?_⟩;obtain⟨u,hu,a,hr⟩:=h5 i j r v hi hj;exact⟨u,hu,a,hr.mono hF hB⟩
def Ctx.nb(C:Ctx):Ctx:= {C with B:=λ_=>False}
structure Spec(P:Program)(f:Nat)(args:List V)(hp:Hp)(post:V->Hp->Prop):Prop where
 fn:∃fn,P.funcs[f]? =some fn∧fn.name≠ "runtime.NumGoroutine" ∧∃c,fn.body=some c
 run:∀(C:Ctx)(us:Array Value),C.Ok->us.size=args.length->(∀(i:Nat)(v:V)(u:Value),args[i]? =some v->us[i]? =some u->Rel C.F0 C.B C.w0 v u)->fT C.nb C.F0 hp C.w0->
  Calls P f us C.w0 λe w'=>∃u v h' F',e=.returned u/\Rel F' (λ_=>False) w' v u/\fT C.nb F' h' w'/\post v h'
inductive Arg(h:Hp)(m:List (Nat×Nat)):V->V->Prop
 |same (v:V):Arg h m v (v.gy (gP m))
 |own (k b sz n rows) (hr:rowsOf h sz (.own k b sz n)=some rows) (hm:∀p∈m,p.2≠k):Arg h m (.own k b sz n) (.sl true sz rows)
 |qE (sz rows):Arg h m (.sl false sz rows) (.sl true sz rows)
 |nil (t sz):Arg h m .nilsl (.sl t sz [])
 |agg (cs tf:List V) (hl:cs.length=tf.length) (ha:∀(i:Nat)(v v':V),cs[i]? =some v->tf[i]? =some v'->Arg h m v v'):Arg h m (.agg cs) (.agg tf)
inductive lG(h:Hp)(m:List (Nat×Nat)):List V->List V->Prop
 |nil:lG h m [] []
 |cons {v v' l l'} (a:Arg h m v v') (b:lG h m l l'):lG h m (v::l) (v'::l')
def Hp.jh(h:Hp)(m:List (Nat×Nat))(h':Hp):Hp:=match m with
 |[]=>h
 |m=>λi=>if m.any (λp=>p.2=i) then(h' (gP m i)).map (Ob.gy (gD m)) else h i
def B7(P:Program):cm:=λf args h K=>
 ∃(m:List (Nat×Nat))(a:List V)(hp:Hp)(post:V->Hp->Prop),Spec P f a hp post/\lG h m args a/\
  (∀k o,hp k=some o->∃p∈m,p.1=k)/\(∀p∈m,gD m p.1=p.2/\gP m p.2=p.1/\∀o,hp p.1=some o->(h p.2).map (Ob.gy (gP m))=some o/\o.Fz)/\
  ∀v h',post v h'->K (v.gy (gD m)) (h.jh m h')
section
variable {P:Program} {C:Ctx} {F:Nat->Prop} {w w':World} {a:Act} {s:S} {h:Hp} {K:V->Hp->Prop} {Q:Exit->Act->World->Prop} {o:Oper}
theorem Lp{F' B':Nat->Prop}{m:List (Nat×Nat)}(hs:fT C F h w)(hF:∀b,F b->F' b)(hB:∀b,C.B b->F' b\/B' b)(g:∀k o b,h k=some o->o.b=some b->(∀p∈m,p.2≠k)->B' b)
  {v v':V}{u:Value}(ha:Arg h m v v')(hr:Rel F C.B w v u):Rel F' B' w v' u:=by
 induction ha generalizing u with
 |same v=>exact(hr.mono hF hB).gy _
 |own k b sz n rows d hm=>
  have hk:∃o,h k=some o/\o.b=b:=by
   simp only[rowsOf] at d;cases hk:h k with
   |none=>simp only[hk] at d;cases d
   |some o=>
    simp only[hk] at d
    split at d
    ·rename_i hc;exact⟨o,rfl,hc.1⟩
    ·cases d
  obtain⟨o,x,y⟩:=hk
  rcases rS hs hr d with⟨rfl,rfl⟩|⟨ad,cap,us,rfl,f,l⟩
  ·exact .slnil _ _
  ·cases hr with
   |own _ b' _ n' cap' c e fr D hcs E hn=>
    refine .sl true sz rows b' 0 cap (λi j=>(us[i*sz+j]?).getD undef) (.inr ⟨rfl,g k o b' x y hm⟩) hn f.all (λi j r v hi hj=>?_) (λi j r v hi hj=>?_)
    ·obtain⟨u,hu,q⟩:=f.rel i j r v hi hj;rw[hu];have:=l _ _ hu;rw[jN] at this;exact⟨this,f.one u (az hu)⟩
    ·obtain⟨u,hu,q⟩:=f.rel i j r v hi hj;rw[hu];exact q.mono hF hB
 |qE sz rows=>
  have:=hr.mono hF hB;cases this with
  |slnil=>exact .slnil _ _
  |slemp=>exact .slemp _ _ _ _
  |sl _ _ _ b off cap us z a1 a2 a3 a4=>
   refine .sl true sz rows b off cap us ?_ a1 a2 a3 a4
   rcases z with h|⟨h,_⟩
   ·exact .inl h
   ·cases h
 |nil t sz=>cases hr;exact .slnil _ _
 |agg cs tf hl ha ih=>
  cases hr with
  |agg _ us hsz A=>
   refine .agg tf us qW λi v u hv hu=>?_;have hi:i<cs.length:=by have:=(aj.1 hv).1;omega
   exact ih i cs[i] v (af hi) hv (A i cs[i] u (af hi) hu)
theorem F2{R:V->Value->Prop}{R':V->Value->Prop}{m:List (Nat×Nat)}(d:∀v v' u,Arg h m v v'->R v u->R' v' u):∀{l l':List V},lG h m l l'->l.length=l'.length/\∀(us:List Value),(∀(i:Nat)(v:V)(u:Value),l[i]? =some v->us[i]? =some u->R v u)->us.length=l.length->
  ∀(i:Nat)(v:V)(u:Value),l'[i]? =some v->us[i]? =some u->R' v u:=by
 intro l l' ha
 induction ha with
 |nil=>exact⟨rfl,by simp⟩
 |cons a b ih=>
  refine⟨by simp[ih.1],λus c hl i v u hv hu=>?_⟩;cases us with
  |nil=>simp at hl
  |cons u0 us=>
   cases i with
   |zero=>
    simp at hv hu;subst hv hu;exact d _ _ _ a (c 0 _ _ rfl rfl)
   |succ i=>exact ih.2 us (λj v u hv hu=>c (j+1) v u hv hu) (by simpa using hl) i v u hv hu
theorem qH{m:List (Nat×Nat)}{h':Hp}{i:Nat}{ob:Ob}(hu:h.jh m h' i=some ob):(∃p∈m,p.2=i/\∃o,h' (gP m i)=some o/\ob=o.gy (gD m))\/((∀p∈m,p.2≠i)/\h i=some ob):=by
 unfold Hp.jh at hu;cases m with
 |nil=>exact .inr ⟨by simp,hu⟩
 |cons q m=>
  simp only[] at hu
  by_cases b:((q::m).any λp=>decide (p.2=i))=true
  ·rw[ab b] at hu;obtain⟨p,hp,c⟩:=cU.1 b;simp only[an] at hu;obtain⟨o,ho,rfl⟩:=hu;exact .inl ⟨p,hp,by simpa using c,o,ho,rfl⟩
  ·rw[aa b] at hu;refine .inr ⟨λp hp c=>b (cU.2 ⟨p,hp,by simpa using c⟩),hu⟩
theorem yj(hC:C.Ok){c:Call}{f:Nat}{caps:Array Value}{vs:List V}(ho:o.op=.call c)(hf:∃op,c.callee=.value op/\a.eval op=.func (.func f) #[] caps)(hs:fT C F h w)(hl:(c.args.map a.eval++caps).size=vs.length)
  (hr:∀(i:Nat)(v:V)(u:Value),vs[i]? =some v->(c.args.map a.eval++caps)[i]? =some u->Rel F C.B w v u)(hK:B7 P f vs h K):o.wp P a w (fQ C F w a o.dst K) Q:=by
 obtain⟨m,UR,hp,post,q,H,X,hm,I⟩:=hK;obtain⟨fn,VH,VI,cb,J⟩:=q.fn;have im:(execOp a.eval o).run P w=.ok (.enter f (c.args.map a.eval++caps)) w:=by
  obtain⟨callee,args,XC⟩:=c;obtain⟨op,hf,r⟩:=hf;cases hf;unfold execOp;rw[ho]
  generalize a.eval=ρ at*
  simp only[resolve,r,Deferred.ofValue,Sem.run_bind,Sem.run_pure,Result.andThen_ok,invoke];simp[callFunc,program,Sem.run_bind,Sem.run_pure,Sem.run,VH,VI,J]
 let pass:Nat->Prop:=λb=>∃p∈m,∃ob,h p.2=some ob/\ob.b=some b/\∃o',hp p.1=some o'
 let E:Ctx:=⟨w,F,λb=>b<w.heap.size/\¬pass b,pass,[]⟩
 have VJ:E.Ok:=by
  refine⟨λb hb=>⟨hs.lt b hb,?_⟩,λb hb=>hb,?_,hC.env.keep λb hb=>hs.ev.same b (hC.env.lt hb) λh=>hC.pg b h hb,?_⟩
  ·rintro⟨p,_,ob,hk,d,_⟩;exact(hs.live _ ob b hk d).1 hb
  ·rintro b ⟨p,_,ob,hk,d,_⟩;exact(hs.ob _ ob hk).lt d
  ·rintro b ⟨p,_,ob,hk,d,_⟩ hg
   rcases(hs.live _ ob b hk d).2 with h|h
   ·exact hC.pg b h hg
   ·exact absurd (hC.env.lt hg) (Nat.not_lt.2 h)
 have z:∀k o',hp k=some o'->∃p∈m,p.1=k/\∃ob,h p.2=some ob/\o'=ob.gy (gP m)/\o'.Fz:=by
  intro k o' hk;obtain⟨p,j,Y⟩:=X k o' hk;obtain⟨_,_,h3⟩:=hm p j;obtain⟨h4,h5⟩:=h3 o' (by rw[Y];exact hk);simp only[an] at h4;obtain⟨ob,g,rfl⟩:=h4;exact⟨p,j,Y,ob,g,rfl,h5⟩
 have hs':fT E.nb E.F0 hp w:=by
  refine⟨λk o' hk=>?_,λk1 k2 o1 o2 b h1 h2 e1 U=>?_,λk o' b hk hb=>?_,λb hb=>.inl hb,λb hb=>hb,hs.lt,Ev.refl _ _⟩
  ·obtain⟨p,_,_,ob,g,rfl,hz⟩:=z k o' hk;exact((hs.ob _ ob g).gy _).fz hz
  ·obtain⟨Z,A,rfl,VK,Tv,rfl,_⟩:=z k1 o1 h1;obtain⟨W,L,rfl,t,l,rfl,_⟩:=z k2 o2 h2;have:=hs.inj Z.2 W.2 VK t b Tv l e1 U;rw[<-(hm Z A).2.1,<-(hm W L).2.1,this]
  ·obtain⟨p,j,rfl,ob,g,rfl,_⟩:=z k o' hk;exact⟨(hs.live _ ob b g hb).1,.inl ⟨p,j,ob,g,hb,_,hk⟩⟩
 have VL:∀b,C.B b->E.F0 b\/E.B b:=λb hb=>by
  refine .inr ⟨bE (hC.B b hb).1 hs.ev.size,?_⟩;rintro⟨p,_,ob,hk,d,_⟩;exact hs.Rf hC hk d hb
 obtain⟨hlen,D⟩:=F2 (R:=Rel F C.B w) (R':=Rel E.F0 E.B w) (λv v' u ha hr=>Lp hs (λ_ h=>h) VL (λk o b hk hb hne=>by
  refine⟨(hs.ob k o hk).lt hb,?_⟩;rintro⟨p,j,ob,g,d,_⟩;exact hne p j (hs.inj p.2 k ob o b g hk d hb)) ha hr) H
 have M:=q.run E (c.args.map a.eval++caps) VJ (by rw[hl,hlen]) (λi v u hv hu=>D (c.args.map a.eval++caps).toList (λi v u hv hu=>hr i v u hv (by rw[cl] at hu;exact hu)) (by rw[bG];exact hl) i v u hv (by rw[cl];exact hu)) hs';unfold Oper.wp;rw[im];refine Calls.mono M ?_;rintro e w' ⟨u,v,h',F',rfl,hv,hs2,L⟩;have r:Ev pass w w':=hs2.ev;have N:∀b,F b->F' b:=hs2.new;have hold:∀b,F' b->F b\/pass b\/w.heap.size<=b:=hs2.jE;have hpl:∀b,b<w.heap.size->pass b->∃k ob,h k=some ob/\ob.b=some b:=by
  rintro b _ ⟨p,_,ob,g,d,_⟩;exact⟨p.2,ob,g,d⟩
 have O:∀{x y},Rel F C.B w x y->Rel F' C.B w' x y:=λhr=>(hs.keep hC r hpl hr).mono N (λ_ h=>.inr h);refine⟨u,v.gy (gD m),h.jh m h',F',rfl,(hv.mono (λ_ h=>h) (λ_ h=>h.elim)).gy _,?_,λx y hr=>O hr,I v h' L⟩;have n:∀b,(pass b\/w.heap.size<=b)->∀k ob,(∀p∈m,p.2≠k)->h k=some ob->ob.b≠some b:=by
  intro b hb k ob hne hk d
  rcases hb with⟨p,j,t,l,hb2,_⟩|Rj
  ·exact hne p j (hs.inj p.2 k t ob b l hk hb2 d)
  ·have:=(hs.ob k ob hk).lt d;omega
 refine⟨λk ob hk=>?_,λk1 k2 o1 o2 b h1 h2 e1 U=>?_,λk ob b hk hb=>?_,λb hb=>?_,λb hb=>N b (hs.new b hb),hs2.lt,?_⟩
 ·rcases qH hk with⟨p,j,rfl,o',T,rfl⟩|⟨hne,hk⟩
  ·exact((hs2.ob _ o' T).mono (λ_ h=>h) (λ_ h=>h.elim)).gy _
  ·refine(fe.keep hC hs r hpl (hs.ob k ob hk) λb hb Tw=>n b (.inl Tw) k ob hne hk hb).mono N (λ_ h=>.inr h)
 ·rcases qH h1 with⟨Z,A,rfl,US,UT,rfl⟩|⟨Tx,SY⟩<;>rcases qH h2 with⟨W,G,rfl,UU,Ty,rfl⟩|⟨Tz,hk2⟩
  ·have:=hs2.inj _ _ US UU b UT Ty e1 U;rw[(hm Z A).2.1,(hm W G).2.1] at this;rw[<-(hm Z A).1,<-(hm W G).1,this]
  ·exact absurd U (n b (hs2.live _ US b UT e1).2 k2 o2 Tz hk2)
  ·exact absurd e1 (n b (hs2.live _ UU b Ty U).2 k1 o1 Tx SY)
  ·exact hs.inj k1 k2 o1 o2 b SY hk2 e1 U
 ·rcases qH hk with⟨p,j,rfl,o',T,rfl⟩|⟨hne,hk⟩
  ·obtain⟨g1,g2⟩:=hs2.live _ o' b T hb;refine⟨g1,?_⟩
   rcases g2 with⟨W,_,t,l,hb2,_⟩|Rj
   ·exact(hs.live _ t b l hb2).2
   ·exact .inr (aV hs.ev.size Rj)
  ·obtain⟨g1,g2⟩:=hs.live k ob b hk hb;refine⟨λVM=>?_,g2⟩
   rcases hold b VM with h|h|h
   ·exact g1 h
   ·exact n b (.inl h) k ob hne hk hb
   ·have:=(hs.ob k ob hk).lt hb;omega
 ·rcases hold b hb with h|h|h
  ·exact hs.jE b h
  ·obtain⟨p,_,ob,g,d,_⟩:=h;exact .inr (hs.live _ ob b g d).2
  ·exact .inr (.inr (aV hs.ev.size h))
 ·refine Ev.qE hs.ev r ?_;rintro b hb ⟨p,_,ob,g,d,_⟩
  rcases(hs.live _ ob b g d).2 with h|h
  ·exact h
  ·omega
def rU(P:Program)(T:cm):Prop:=∀(C:Ctx)(F:Nat->Prop)(w:World)(a:Act)(h:Hp)(K:V->Hp->Prop)(Q:Exit->Act->World->Prop)(o:Oper)(c:Call)(f:Nat)(caps:Array Value)(vs:List V),C.Ok->o.op=.call c->(∃op,c.callee=.value op/\a.eval op=.func (.func f) #[] caps)->fT C F h w->(c.args.map a.eval++caps).size=vs.length->
  (∀(i:Nat)(v:V)(u:Value),vs[i]? =some v->(c.args.map a.eval++caps)[i]? =some u->Rel F C.B w v u)->T f vs h K->o.wp P a w (fQ C F w a o.dst K) Q
def iY(h h0:Hp):Prop:=∀(C:Ctx)(F:Nat->Prop)(w:World),C.Ok->fT C F h w->∃F',(∀b,F b->F' b)/\fT C F' h0 w
def dF(P:Program):cm:=λf args h K=>∃h0,iY h h0/\B7 P f args h0 K
theorem tU:rU P (dF P):=λC F w a h K Q o c f caps vs hC ho hf hs hl hr hK=>by
 obtain⟨h0,he,hK⟩:=hK;obtain⟨F',hF,hs'⟩:=he C F w hC hs;refine Oper.wp_mono (λm w' b=>?_) (yj (K:=K) (Q:=Q) hC ho hf hs' hl (λi v u hv hu=>(hr i v u hv hu).mono hF (λ_ h=>.inr h)) hK);obtain⟨u,v',h',e,e1,g,j,k,l⟩:=b;exact⟨u,v',h',e,e1,g,j,λx y d=>k x y (d.mono hF (λ_ h=>.inr h)),l⟩
end
def fk(P:Program):cm:=λf args h K=>
 ∃(m:List (Nat×Nat))(a:List V)(hp:Hp)(v:V),Spec P f a hp (λx h'=>x=v/\h'=hp)/\lG h m args a/\
  (∀k o,hp k=some o->∃p∈m,p.1=k)/\(∀p∈m,gD m p.1=p.2/\gP m p.2=p.1/\∃o,hp p.1=some o/\(h p.2).map (Ob.gy (gP m))=some o/\o.Fz)/\K (v.gy (gD m)) h
theorem Rel.Rm{F B:Nat->Prop}{w:World}{v:V}{u:Value}(f:Nat->Nat)(h:Rel F B w (v.rl f) u):Rel F B w v u:=by
 cases v<;>try exact h
 case own k b sz n=>
  simp only[V.rl] at h;cases h with
  |ownnil=>exact .ownnil _ _
  |own _ b _ _ cap c e fr h hs hm hn=>exact .own _ b sz n cap c e fr h hs hm hn
 case win k b sz lo hi=>
  simp only[V.rl] at h;cases h with
  |winemp=>exact .winemp _ _ _ _ _
  |win _ b _ cap _ _ c e fr h hs hm hn h0 h1=>exact .win _ b _ cap _ _ c e fr h hs hm hn h0 h1
 case ptr k b sz i off=>
  simp only[V.rl] at h;cases h;exact .ptr _ _ _ _ _
theorem fe.B8{F B:Nat->Prop}{w:World}{o:Ob}(f:Nat->Nat)(h:fe F B w (o.gy f)):fe F B w o:=by
 unfold fe at h⊢;simp only[Ob.gy] at h;cases hb:o.b with
 |none=>rw[hb] at h;simp only at h⊢;simpa using h
 |some b=>
  rw[hb] at h;obtain⟨c,cap,hc,h1,h2,h3,h4,h5⟩:=h;refine⟨c,cap,hc,h1,h2,by simpa using h3,λr hr=>?_,λi j r v hi hj=>?_⟩
  ·have:=h4 (r.map (V.rl f)) (aM.2 ⟨r,hr,rfl⟩);simpa using this
  ·obtain⟨u,hu,a,hr⟩:=h5 i j (r.map (V.rl f)) (v.rl f) (by simp[hi]) (by simp[hj]);exact⟨u,hu,a,hr.Rm f⟩
theorem yk{P:Program}:rU P (fk P):=by
 intro C F w a h K Q o c f caps vs hC ho hf hs hl hr hK;obtain⟨m,j,hp,v,h1,h2,h3,h4,h5⟩:=hK;have A:B7 P f vs h (λv' h'=>v'=v.gy (gD m)/\h'=h.jh m hp):=⟨m,j,hp,_,h1,h2,h3,λp s=>by
  obtain⟨a1,a2,o,a3,a4,a5⟩:=h4 p s;refine⟨a1,a2,λo' r=>?_⟩;rw[a3] at r;cases r;exact⟨a4,a5⟩,λv' h' hv=>by obtain⟨rfl,rfl⟩:=hv;exact⟨rfl,rfl⟩⟩
 refine Oper.wp_mono (λH w' l=>?_) (yj hC ho hf hs hl hr A);obtain⟨u,v',h',F',e1,D,n,E,rfl,rfl⟩:=l;have g:∀k ob,h k=some ob->∃d,h.jh m hp k=some d/\d.b=ob.b/\(fe F' C.B w' d->fe F' C.B w' ob):=by
  intro k ob hk;unfold Hp.jh;cases m with
  |nil=>exact⟨ob,hk,rfl,id⟩
  |cons q m=>
   simp only[]
   by_cases e:((q::m).any λp=>decide (p.2=k))=true
   ·rw[ab e];obtain⟨p,t,i⟩:=cU.1 e;have i:p.2=k:=by simpa using i
    obtain⟨a1,a2,o',a3,a4,a5⟩:=h4 p t;rw[i,hk] at a4;simp only[aJ,aC] at a4;subst a4;rw[<-i,a2,a3];exact⟨_,rfl,rfl,λhh=>(hh.B8 _).B8 _⟩
   ·rw[aa e];exact⟨ob,hk,rfl,id⟩
 refine⟨u,_,h,F',e1,D,⟨λk ob hk=>?_,λk k' ob d b hk x hb y=>?_,λk ob b hk hb=>?_,n.jE,n.new,n.lt,n.ev⟩,E,h5⟩
 ·obtain⟨d,g1,g2,g3⟩:=g k ob hk;exact g3 (n.ob k d g1)
 ·obtain⟨z,g1,g2,_⟩:=g k ob hk;obtain⟨G,g3,g4,_⟩:=g k' d x;exact n.inj k k' z G b g1 g3 (g2.trans hb) (g4.trans y)
 ·obtain⟨z,g1,g2,_⟩:=g k ob hk;exact n.live k z b g1 (g2.trans hb)
theorem kU:∀{ts:List Nat}{cs c:List V}{r:Bool},gJ ts cs c=some r->cs.length=ts.length/\c.length=ts.length
 |[],[],[],_,_=>⟨rfl,rfl⟩
 |t::ts,a::l,b::m,r,h=>by
  simp only[gJ] at h
  split at h
  ·rename_i x y h1 h2;obtain⟨g1,g2⟩:=kU h2;simp[g1,g2]
  ·cases h
 |[],_::_,_,_,h=>by simp[gJ] at h
 |[],[],_::_,_,h=>by simp[gJ] at h
 |_::_,[],_,_,h=>by simp[gJ] at h
 |_::_,_::_,[],_,h=>by simp[gJ] at h
theorem nZ:∀{t1 t2:List Nat}{cs c:List V}{r:Bool},gJ (t1++t2) cs c=some r->
  ∃r1 r2,gJ t1 (cs.take t1.length) (c.take t1.length)=some r1/\gJ t2 (cs.drop t1.length) (c.drop t1.length)=some r2/\r=(r1&&r2)
 |[],t2,cs,c,r,h=>⟨true,r,rfl,by simpa using h,by simp⟩
 |t::t1,t2,a::l,b::m,r,h=>by
  simp only[aD,gJ] at h
  split at h
  ·rename_i x y h1 h2;obtain⟨r1,r2,g1,g2,rfl⟩:=nZ h2;cases h;exact⟨x&&r1,r2,by simp[gJ,h1,g1],by simpa using g2,by simp[Bool.and_assoc]⟩
  ·cases h
 |t::t1,t2,[],_,r,h=>by simp[gJ] at h
 |t::t1,t2,_::_,[],r,h=>by simp[gJ] at h
section
variable {P:Program}
def At(F B:Nat->Prop)(w:World)(cs:List V)(xs:Array Value)(off:Nat):Prop:=∀(i:Nat)(v:V),cs[i]? =some v->∃u,xs[off+i]? =some u/\Rel F B w v u
theorem At.take{F B:Nat->Prop}{w:World}{cs:List V}{xs:Array Value}{off:Nat}(h:At F B w cs xs off)(n:Nat):At F B w (cs.take n) xs off:=λi v hv=>by
 rw[aZ] at hv
 split at hv
 ·exact h i v hv
 ·cases hv
theorem At.drop{F B:Nat->Prop}{w:World}{cs:List V}{xs:Array Value}{off:Nat}(h:At F B w cs xs off)(n:Nat):At F B w (cs.drop n) xs (off+n):=λi v hv=>by
 rw[bC] at hv;rw[c8];exact h _ v hv
def Pg(P:Program)(dd:Nat)(t:TypeId)(ts:List Nat):Prop:=∀(F B:Nat->Prop)(w:World)(xs c:Array Value)(off:Nat)(cs d:List V)(r:Bool),At F B w cs xs off->At F B w d c off->gJ ts cs d=some r->
 ∃a b,(part t xs off).run P w=.ok a w/\(part t c off).run P w=.ok b w/\(Op.equalIn dd t a b).run P w=.ok r w
def SZ(P:Program)(dd:Nat)(t:TypeId)(ts:List Nat):Prop:=∀(F B:Nat->Prop)(w:World)(xs a:Array Value)(cs b:List V)(r:Bool),At F B w cs xs 0->At F B w b a 0->gJ ts cs b=some r->
 (Op.equalIn dd t (.agg xs) (.agg a)).run P w=.ok r w
theorem tV{dd:Nat}{t:TypeId}{ts:List Nat}(b:(∃fs,P.underlying t=some (.struct fs))\/∃n e,P.underlying t=some (.array n e))(hsz:P.cellsOf t=ts.length)(h:SZ P dd t ts):Pg P dd t ts:=by
 intro F B w xs c off cs d r hx hy he;obtain⟨g1,g2⟩:=kU he;have a:∀xs:Array Value,(part t xs off).run P w=.ok (.agg (xs.extract off (off+P.cellsOf t))) w:=by
  intro xs
  rcases b with⟨fs,hu⟩|⟨n,e,hu⟩
  ·obtain⟨i,hi⟩:=info_of_underlying hu;simp[part,isAgg,run_underlying hu,run_sizeOf w hi]
  ·obtain⟨i,hi⟩:=info_of_underlying hu;simp[part,isAgg,run_underlying hu,run_sizeOf w hi]
 have sub:∀{cs:List V}{xs:Array Value},cs.length=ts.length->At F B w cs xs off->At F B w cs (xs.extract off (off+P.cellsOf t)) 0:=by
  intro cs xs hl ha i v hv;obtain⟨u,hu,hr⟩:=ha i v hv;have hi:i<cs.length:=(aj.1 hv).1;have hb:=(aA.1 hu).1;refine⟨u,?_,hr⟩;rw[aW,dH,ab qW];exact hu
 exact⟨_,_,a xs,a c,h F B w _ _ cs d r (sub g1 hx) (sub g2 hy) he⟩
theorem rV{dd:Nat}{t:TypeId}{ts:List Nat}(h:(P.underlying t=some .bool/\ts=[0])\/(∃k,P.underlying t=some (.int k)/\ts=[1])\/(P.underlying t=some .string/\ts=[2])):Pg P (dd+1) t ts:=by
 intro F B w xs g off cs f r hx hy he;have one:∃m,ts=[m]:=by rcases h with⟨_,h⟩|⟨_,_,h⟩|⟨_,h⟩<;>exact⟨_,h⟩
 obtain⟨m,rfl⟩:=one;obtain⟨g1,g2⟩:=kU he
 match cs,f,g1,g2 with
 |[a],[b],_,_=>
  obtain⟨u,hu,c⟩:=hx 0 a rfl;obtain⟨v,hv,d⟩:=hy 0 b rfl;rw[bQ] at hu hv;simp only[gJ] at he;cases hc:mu m a b with
  |none=>rw[hc] at he;cases he
  |some q=>
   rw[hc] at he;simp only[Bool.and_true,aC] at he;subst he;have hp:P.plainKey t=true:=by
    unfold Program.plainKey
    rcases h with⟨h,_⟩|⟨k,h,_⟩|⟨h,_⟩<;>rw[h]
   refine⟨u,v,run_part_plain w hp hu,run_part_plain w hp hv,?_⟩
   rcases h with⟨e,hm⟩|⟨k,e,hm⟩|⟨e,hm⟩<;>simp only[cy,fc] at hm<;>subst hm
   ·cases a<;>simp only[mu] at hc<;>try(cases hc;done)
    cases b<;>simp only[mu] at hc<;>try(cases hc;done)
    cases c;cases d;cases hc;exact run_equalIn_bool w dd t _ _ e
   ·cases a<;>simp only[mu] at hc<;>try(cases hc;done)
    cases b<;>simp only[mu] at hc<;>try(cases hc;done)
    cases c;cases d
    split at hc
    ·rename_i hk;subst hk;cases hc;rw[run_equalIn_int w dd t _ _ _ _ e]
     congr 1
    ·cases hc
   ·cases a<;>simp only[mu] at hc<;>try(cases hc;done)
    cases b<;>simp only[mu] at hc<;>try(cases hc;done)
    cases c;cases d;cases hc;rw[run_equalIn_string w dd t _ _ e,toList_inj]
theorem qJ{dd:Nat}{g:TypeId->Option (List Nat)}(hg:∀t c,g t=some c->P.cellsOf t=c.length->Pg P dd t c)(F B:Nat->Prop)(w:World)(xs h:Array Value):∀(fs:List Field)(off:Nat)(ts:List Nat)(cs e:List V)(r:Bool),vL P g fs off=some ts->
  At F B w cs xs off->At F B w e h off->gJ ts cs e=some r->(Op.eqFields dd xs h fs).run P w=.ok r w
 |[],off,ts,cs,e,r,hf,_,_,he=>by
  simp only[vL,aC] at hf;subst hf;obtain⟨g1,g2⟩:=kU he
  match cs,e,g1,g2 with
  |[],[],_,_=>simp only[gJ,aC] at he;subst he;simp[Op.eqFields]
 |f::fs,off,ts,cs,e,r,hf,hx,hy,he=>by
  simp only[vL] at hf
  split at hf
  ·rename_i c hc
   split at hf
   ·rename_i d;obtain⟨hn,ho,hs⟩:=d;simp only[an] at hf;obtain⟨i,hf,rfl⟩:=hf;obtain⟨r1,r2,e1,l,rfl⟩:=nZ he;obtain⟨a,b,j,k,m⟩:=hg _ _ hc hs F B w xs h off _ _ _ (hx.take _) (hy.take _) e1;have ih:=qJ hg F B w xs h fs (off+c.length) i _ _ r2 hf (hx.drop _) (hy.drop _) l;rw[<-ho] at j k;simp only[Op.eqFields,hn,ne_eq,not_false_eq_true,if_true,Sem.run_bind,j,k,m,Result.andThen_ok];cases r1
    ·simp
    ·simpa using ih
   ·cases hf
  ·cases hf
theorem sJ{dd:Nat}{e:TypeId}{c:List Nat}(hg:Pg P dd e c)(hs:P.cellsOf e=c.length)(F B:Nat->Prop)(w:World)(xs f:Array Value):∀(n s:Nat)(cs d:List V)(r:Bool),
  At F B w cs xs (s*c.length)->At F B w d f (s*c.length)->gJ (List.replicate n c).flatten cs d=some r->(Op.eqItems dd e (P.cellsOf e) xs f (List.range' s n)).run P w=.ok r w
 |0,s,cs,d,r,_,_,he=>by
  obtain⟨g1,g2⟩:=kU he;simp only[List.replicate_zero,List.flatten_nil,aL] at g1 g2
  match cs,d,g1,g2 with
  |[],[],_,_=>simp[gJ] at he;subst he;simp[Op.eqItems]
 |n+1,s,cs,d,r,hx,hy,he=>by
  rw[bf,c9] at he;obtain⟨r1,r2,e1,i,rfl⟩:=nZ he;obtain⟨a,b,g,h,j⟩:=hg F B w xs f _ _ _ _ (hx.take c.length) (hy.take c.length) e1;have hm:s*c.length+c.length=(s+1)*c.length:=by rw[bU];omega
  have ih:=sJ hg hs F B w xs f n (s+1) _ _ r2 (by rw[<-hm];exact hx.drop _) (by rw[<-hm];exact hy.drop _) i;rw[ff];rw[<-hs] at g h;simp only[Op.eqItems,Sem.run_bind,g,h,j,Result.andThen_ok];cases r1
  ·simp
  ·simpa using ih
theorem AR{dd:Nat}{t:TypeId}{fs:Array Field}{ts:List Nat}{g:TypeId->Option (List Nat)}(hu:P.underlying t=some (.struct fs))(hp:P.stoodInHeld t=false)(hg:∀t c,g t=some c->P.cellsOf t=c.length->Pg P dd t c)(hf:vL P g fs.toList 0=some ts):SZ P (dd+1) t ts:=by
 intro F B w xs b cs d r hx hy he;have a:P.fieldsOf t=fs:=by simp[Program.fieldsOf,hu]
 rw[run_equalIn_struct w dd t xs b (by rw[a];exact hu) hp,a];exact qJ hg F B w xs b _ 0 ts cs d r hf hx hy he
theorem D8{dd n:Nat}{t e:TypeId}{c:List Nat}(hu:P.underlying t=some (.array n e))(hi:∃i,P.info? e=some i)(hg:Pg P dd e c)(hs:P.cellsOf e=c.length):SZ P (dd+1) t (List.replicate n c).flatten:=by
 intro F B w xs a cs b r hx hy he;obtain⟨i,hi⟩:=hi;rw[run_equalIn_array w dd xs a hu hi,List.range_eq_range'];exact sJ hg hs F B w xs a n 0 cs b r (by rw[ez];exact hx) (by rw[ez];exact hy) he
theorem AS:∀{m:Nat}{t:TypeId}{c:List Nat},sG P m t=some c->∃i,P.info? t=some i:=by
 intro m t c h;cases m with
 |zero=>cases h
 |succ m=>
  unfold sG at h;cases hu:P.underlying t with
  |none=>rw[hu] at h;cases h
  |some d=>exact info_of_underlying hu
theorem tW(d:Nat):∀(m:Nat)(t:TypeId)(c:List Nat),sG P m t=some c->(P.cellsOf t=c.length->Pg P (d+m) t c)/\((∃fs,P.underlying t=some (.struct fs))\/(∃n e,P.underlying t=some (.array n e))->SZ P (d+m) t c)
 |0,_,_,h=>by cases h
 |m+1,t,c,h=>by
  unfold sG at h;cases hu:P.underlying t with
  |none=>rw[hu] at h;cases h
  |some kd=>
   rw[hu] at h;cases kd<;>simp only[] at h<;>try(cases h;done)
   case bool=>cases h;exact⟨λ_=>rV (dd:=d+m) (.inl ⟨hu,rfl⟩),λhh=>by rcases hh with⟨_,h⟩|⟨_,_,h⟩<;>cases h⟩
   case int k=>cases h;exact⟨λ_=>rV (dd:=d+m) (.inr (.inl ⟨k,hu,rfl⟩)),λhh=>by rcases hh with⟨_,h⟩|⟨_,_,h⟩<;>cases h⟩
   case string=>cases h;exact⟨λ_=>rV (dd:=d+m) (.inr (.inr ⟨hu,rfl⟩)),λhh=>by rcases hh with⟨_,h⟩|⟨_,_,h⟩<;>cases h⟩
   case array n e=>
    split at h
    ·rename_i c' hc
     split at h
     ·rename_i hs;cases h;have:=D8 (dd:=d+m) hu (AS hc) ((tW d m e c' hc).1 hs) hs;exact⟨λhsz=>tV (.inr ⟨_,_,hu⟩) hsz this,λ_=>this⟩
     ·cases h
    ·cases h
   case struct fs=>
    split at h
    ·cases h
    ·rename_i hp;have:=AR (dd:=d+m) (ts:=c) hu (by simpa using hp) (λt c hc hs=>(tW d m t c hc).1 hs) h;exact⟨λhsz=>tV (.inl ⟨_,hu⟩) hsz this,λ_=>this⟩
end
section
variable {P:Program} {C:Ctx} {F:Nat->Prop} {w w':World} {a:Act} {s:S} {h:Hp} {K:V->Hp->Prop} {Q:Exit->Act->World->Prop} {o:Oper}
theorem AT{src dst e:TypeId}{x:Operand}{i:V}{l:BS}(ho:o.op=.convert src dst x)(h1:P.underlying src=some (.slice e))(he:P.underlying e=some (.int .u8))(h2:P.underlying dst=some .string)(hs:fT C F h w)
  (hx:Rel F C.B w i (a.eval x))(hr:rowsOf h 1 i=some (l.map λb=>[V.int .u8 b.toNat]))(hK:K (.str l) h):o.wp P a w (fQ C F w a o.dst K) Q:=by
 refine wp_pure (u:=.string ⟨l.toArray⟩) hs ?_ (.str l) hK;have im:(convert src dst (a.eval x)).run P w=.ok (.string ⟨l.toArray⟩) w:=by
  rcases rS hs hx hr with⟨h0,hu⟩|⟨ad,cap,us,hu,f,c⟩
  ·have hl:l=[]:=by simpa using h0
   subst hl;rw[hu,run_convert_bytes_string w src dst e none 0 0 h1 he h2];rfl
  ·rw[hu];have:=run_convert_bytes_back w src dst e ad cap l h1 he h2 (λj hj=>?_)
   ·simpa using this
   ·obtain⟨u,d,g⟩:=f.rel j 0 [V.int .u8 (l[j].toNat:Nat)] (V.int .u8 (l[j].toNat:Nat)) (by simp[hj]) rfl;rw[Nat.mul_one,bQ] at d;rw[c j u d];cases g;rfl
 unfold execOp;rw[ho]
 generalize a.eval=k at*
 simp only[Sem.run_bind,im,Result.andThen_ok,Sem.run_pure]
theorem Lq{T e:TypeId}{x y:Operand}{cs:List V}{k:IntKind}{i:Int}{g:Bool}{len sz:Nat}(ho:o.op=.index T x y)(hd:P.underlying T=some (.array len e))(hg:jR P e=some g)(hn:qF P e=some sz)(hs:fT C F h w)
  (hx:Rel F C.B w (.agg cs) (a.eval x))(hy:Rel F C.B w (.int k i) (a.eval y))(h0:0<=i)(h1:i<len)(hl:len*sz<=cs.length)(hsz:0<sz)(hK:K (if g then .agg ((cs.drop (i.toNat*sz)).take sz) else cs.getD (i.toNat*sz) .gC) h):o.wp P a w (fQ C F w a o.dst K) Q:=by
 generalize hex:a.eval x=l at hx
 generalize b:a.eval y=m at hy
 cases hy;cases hx with
 |agg _ us d hr=>
  have hle:i.toNat*sz+sz<=cs.length:=by
   have:(i.toNat+1)*sz<=len*sz:=bD _ qW;rw[bU,Nat.one_mul] at this;omega
  cases g with
  |true=>
   refine wp_pure (u:=.agg (us.extract (i.toNat*sz) (i.toNat*sz+sz))) hs ?_ (.agg _ _ (by simp;omega) λj v u hv hu=>?_) hK
   ·generalize a.eval=f at*
    simp[execOp,ho,hex,b,Sem.run_bind,Sem.run_pure,Instr.index,asIntOf,run_underlying hd,part,lz hg,gh hn,h0,h1]
   ·simp only[aZ,bC] at hv
    split at hv
    ·refine hr _ v u hv ?_;simp only[dH] at hu
     split at hu
     ·exact hu
     ·simp at hu
    ·simp at hv
  |false=>
   have c:i.toNat*sz<us.size:=by omega
   refine wp_pure (u:=us[i.toNat*sz]) hs ?_ (hr (i.toNat*sz) _ _ (by simp[au,show i.toNat*sz<cs.length by omega]) (by simp[c])) hK
   generalize a.eval=f at*
   simp[execOp,ho,hex,b,Sem.run_bind,Sem.run_pure,Instr.index,asIntOf,run_underlying hd,part,lz hg,gh hn,h0,h1,c]
end
end Go.Proofs.YtajdadcdcpnedaaGreatDoor.AM
