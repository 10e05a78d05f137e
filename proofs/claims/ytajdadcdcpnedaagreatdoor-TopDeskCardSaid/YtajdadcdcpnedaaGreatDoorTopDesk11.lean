/-
  Part 11 of what the law TopDesk reaches: the plain machine, contracts of the functions and plain laws; each lemma says its own condition.
-/
import Derived.Test.YtajdadcdcpnedaaGreatDoorTopDesk6
import Derived.Test.YtajdadcdcpnedaaGreatDoorTopDesk5
import Derived.Test.YtajdadcdcpnedaaGreatDoorTopDesk7
import Derived.Test.YtajdadcdcpnedaaGreatDoorTopDesk10
import Derived.Test.YtajdadcdcpnedaaGreatDoorTopDesk9
set_option linter.unusedVariables false
set_option linter.unusedSimpArgs false
namespace Go.Proofs.YtajdadcdcpnedaaGreatDoor.AM
open Go
set_option maxRecDepth 100000
set_option maxHeartbeats 2000000
inductive Rk(k k':Nat):V->V->Prop
 |same (v):Rk k k' v v
 |own (b sz n):Rk k k' (.own k b sz n) (.own k' b sz n)
theorem Rk.rel{k k':Nat}{F B:Nat->Prop}{w:World}{v v':V}{u:Value}(h:Rk k k' v v')(hr:Rel F B w v u):Rel F B w v' u:=by
 cases h with
 |same=>exact hr
 |own b sz n=>
  cases hr with
  |ownnil=>exact .ownnil _ _
  |own _ b _ _ cap c e fr h hs hm hn=>exact .own _ b _ _ cap c e fr h hs hm hn
theorem cd.move{s:S}{k k' q:Nat}{o O:Ob}{rows':List (List V)}(hk:s.h k=some o)(x:s.h k'=none)(hq:s.h q=some O)(y:q≠k)
  (hl:rows'.length=O.rows.length)(hr:∀(i:Nat)(r r':List V),O.rows[i]? =some r->rows'[i]? =some r'->r'.length=r.length/\∀(l:Nat)(v v':V),r[l]? =some v->r'[l]? =some v'->Rk k k' v v'):
  cd s ⟨s.t,Hp.put (Hp.put (Hp.del s.h k) k' o) q ⟨O.b,O.ty,O.sz,rows'⟩⟩:=by
 intro C W a w hC hs0;obtain⟨F,hs,h2⟩:=hs0.ex;have d:q≠k':=λe=>by rw[e,x] at hq;cases hq
 have M:k≠k':=λe=>by rw[e,x] at hk;cases hk
 have look:∀j p,Hp.put (Hp.put (Hp.del s.h k) k' o) q ⟨O.b,O.ty,O.sz,rows'⟩ j=some p->
   (j=q/\p=⟨O.b,O.ty,O.sz,rows'⟩)\/(j=k'/\p=o)\/(j≠q/\j≠k'/\j≠k/\s.h j=some p):=by
  intro j p hj;simp only[Hp.put,Hp.del] at hj
  by_cases h1:j=q
  ·rw[ab h1] at hj;cases hj;exact .inl ⟨h1,rfl⟩
  ·rw[aa h1] at hj
   by_cases h3:j=k'
   ·rw[ab h3] at hj;cases hj;exact .inr (.inl ⟨h3,rfl⟩)
   ·rw[aa h3] at hj
    by_cases h4:j=k
    ·rw[ab h4] at hj;cases hj
    ·rw[aa h4] at hj;exact .inr (.inr ⟨h1,h3,h4,hj⟩)
 have jE:∀j p,Hp.put (Hp.put (Hp.del s.h k) k' o) q ⟨O.b,O.ty,O.sz,rows'⟩ j=some p->∃m,s.h (if j=k' then k else j)=some m/\m.b=p.b:=by
  intro j p hj
  rcases look j p hj with⟨rfl,rfl⟩|⟨rfl,rfl⟩|⟨_,h3,_,h4⟩
  ·rw[aa d];exact⟨O,hq,rfl⟩
  ·rw[ab rfl];exact⟨_,hk,rfl⟩
  ·rw[aa h3];exact⟨p,h4,rfl⟩
 refine⟨⟨F,⟨λj p hj=>?_,λj N p P b1 hj z hb1 hb2=>?_,λj p b1 hj hb1=>?_,hs.jE,hs.new,hs.lt,hs.ev⟩,h2⟩,hs0.df,hs0.sz⟩
 ·rcases look j p hj with⟨rfl,rfl⟩|⟨rfl,rfl⟩|⟨_,_,_,h4⟩
  ·have n:=hs.ob j O hq;unfold fe at n⊢;simp only;cases hb:O.b with
   |none=>
    rw[hb] at n;simp only at n⊢;rw[n] at hl;exact aB hl
   |some b1=>
    rw[hb] at n;obtain⟨c,cap,g1,g2,g3,g4,g5,g6⟩:=n;refine⟨c,cap,g1,g2,g3,qW,λr' D=>?_,λi l r' v' hi A=>?_⟩
    ·obtain⟨i,hi⟩:=dP.1 D;have E:=(aj.1 hi).1;have f:O.rows[i]? =some (O.rows[i]'qW):=af qW;rw[(hr i _ r' f hi).1];exact g5 _ (az f)
    ·have E:=(aj.1 hi).1;have f:O.rows[i]? =some (O.rows[i]'qW):=af qW;obtain⟨f1,f2⟩:=hr i _ r' f hi;have Q:=(aj.1 A).1;have B:(O.rows[i]'qW)[l]? =some ((O.rows[i]'qW)[l]'qW):=af qW;obtain⟨u,k1,R,T⟩:=g6 i l _ _ f B;exact⟨u,k1,R,(f2 l _ v' B A).rel T⟩
  ·exact hs.ob k _ hk
  ·exact hs.ob j p h4
 ·obtain⟨m,e1,G⟩:=jE j p hj;obtain⟨H,I,J⟩:=jE N P z;have:=hs.inj _ _ m H b1 e1 I (by rw[G];exact hb1) (by rw[J];exact hb2)
  rcases look j p hj with⟨rfl,rfl⟩|⟨rfl,rfl⟩|⟨h5,h6,h7,h4⟩<;>rcases look N P z with⟨rfl,rfl⟩|⟨rfl,rfl⟩|⟨K,g,L,U⟩
  ·rfl
  ·rw[aa d,ab rfl] at this;exact absurd this y
  ·rw[aa d,aa g] at this;exact absurd this.symm K
  ·rw[ab rfl,aa d] at this;exact absurd this.symm y
  ·rfl
  ·rw[ab rfl,aa g] at this;exact absurd this.symm L
  ·rw[aa h6,aa d] at this;exact absurd this h5
  ·rw[aa h6,ab rfl] at this;exact absurd this h7
  ·rw[aa h6,aa g] at this;exact this
 ·obtain⟨m,e1,G⟩:=jE j p hj;exact hs.live _ m b1 e1 (by rw[G];exact hb1)
theorem oL{P:Prim}{h:Hp}{k:Nat}{b:Option Nat}{sz i:Nat}{K:Ob->List V->Prop}{o:Ob}{r:List V}(hk:h k=some o)(a:1000000<=k)(hb:o.b=b)(hsz:o.sz=sz)(hr:P.row o.rows i r)(hK:K o r):nO P h k b sz i K:=by
 unfold nO;rw[hk];refine⟨hb,hsz,?_⟩;rw[bS qW];exact⟨r,hr,hK⟩
def eY(i:Nat):Nat:=2000000+i
def iv(N m w:Nat)(bs:Nat->Option Nat):List (List V):=(List.range N).map λi=>if i<m then[.own (eY i) (bs i) 1 w] else[.nilsl]
def wi(bb:Option Nat)(N m w:Nat)(bs:Nat->Option Nat)(tab:Nat->List Int):List (Nat×Ob):=
 (1000024,⟨bb,80,1,iv N m w bs⟩)::(List.range m).map λi=>(eY i,⟨bs i,3,1,gf (tab i)⟩)
theorem EO{f:Nat->Ob}:∀(m j:Nat),j<m->a8 ((List.range m).map λi=>(eY i,f i)) (eY j)=some (f j):=by
 intro m j h;have key:∀(l:List Nat),j∈l->a8 (l.map λi=>(eY i,f i)) (eY j)=some (f j):=by
  intro l
  induction l with
  |nil=>intro h;cases h
  |cons a l ih=>
   intro hj;simp only[aI,a8]
   by_cases b:j=a
   ·subst b;rw[ab rfl]
   ·rw[aa (by unfold eY;omega)];exact ih ((ah.1 hj).resolve_left b)
 exact key _ (bI.2 h)
theorem BB{f:Nat->Ob}:∀(m k:Nat),(∀j,j<m->k≠eY j)->a8 ((List.range m).map λi=>(eY i,f i)) k=none:=by
 intro m k h;have key:∀(l:List Nat),(∀j∈l,k≠eY j)->a8 (l.map λi=>(eY i,f i)) k=none:=by
  intro l
  induction l with
  |nil=>intro _;rfl
  |cons a l ih=>
   intro hj;simp only[aI,a8];rw[aa (hj a (by simp))];exact ih λj hm=>hj j (by simp[hm])
 exact key _ λj hj=>h j (bI.1 hj)
theorem pz(bb:Option Nat)(N m w:Nat)(bs:Nat->Option Nat)(tab:Nat->List Int):a8 (wi bb N m w bs tab) 1000024=some ⟨bb,80,1,iv N m w bs⟩:=by
 simp only[wi,a8];rw[ab trivial]
theorem mq{bb:Option Nat}{N m w:Nat}{bs:Nat->Option Nat}{tab:Nat->List Int}{j:Nat}(h:j<m):a8 (wi bb N m w bs tab) (eY j)=some ⟨bs j,3,1,gf (tab j)⟩:=by
 simp only[wi,a8];rw[aa (by unfold eY;omega)];exact EO (f:=λi=>⟨bs i,3,1,gf (tab i)⟩) m j h
theorem rn{bb:Option Nat}{N m w:Nat}{bs:Nat->Option Nat}{tab:Nat->List Int}{k:Nat}(h1:k≠1000024)(h:∀j,j<m->k≠eY j):a8 (wi bb N m w bs tab) k=none:=by
 simp only[wi,a8];rw[aa h1];exact BB m k h
theorem EP{L:List (Nat×Ob)}{s:S}(h:∀p∈L,s.h p.1=some p.2):eP L s:=by
 induction L with
 |nil=>trivial
 |cons p L ih=>exact⟨h p (by simp),ih λq hq=>h q (by simp[hq])⟩
theorem mW{bb:Option Nat}{N m w:Nat}{bs:Nat->Option Nat}{tab:Nat->List Int}{s:S}(h0:s.h 1000024=some ⟨bb,80,1,iv N m w bs⟩)(h:∀j,j<m->s.h (eY j)=some ⟨bs j,3,1,gf (tab j)⟩):eP (wi bb N m w bs tab) s:=by
 refine EP λp hp=>?_
 rcases ah.1 hp with rfl|hp
 ·exact h0
 ·obtain⟨j,hj,rfl⟩:=aM.1 hp;exact h j (bI.1 hj)
theorem iS(N m w:Nat)(bs:Nat->Option Nat):(iv N m w bs).length=N:=by simp[iv]
theorem jW{N m w:Nat}{bs:Nat->Option Nat}{i:Nat}(h:i<N):(iv N m w bs)[i]? =some (if i<m then[.own (eY i) (bs i) 1 w] else[.nilsl]):=by
 unfold iv;rw[aw,dv h];rfl
theorem zu{P:Prim}{k:Nat}{rows:List (List V)}{i:Nat}{r:List V}(h:1000000<=k):F5 P k rows i r=P.yn rows i r:=by
 unfold F5;rw[bS qW]
theorem BC{N m w:Nat}{bs:Nat->Option Nat}(hm:m<N)(b:Option Nat):(iv N m w bs).set m [.own (eY m) b 1 w]=iv N (m+1) w (λi=>if i=m then b else bs i):=by
 refine cN λi=>?_
 by_cases hi:i<N
 ·rw[jW hi]
  by_cases a:i=m
  ·subst a;rw[dN (by rw[iS];exact hi),ab qW,ab rfl]
  ·rw[ei (λe=>a e.symm),jW hi]
   by_cases h:i<m
   ·rw[ab h,ab qW];simp[a]
   ·rw[aa h,aa qW]
 ·rw[bh (by rw[dy,iS];omega),bh (by rw[iS];omega)]
theorem MZ{s:S}{heap:Hp}{bb:Option Nat}{N m w:Nat}{bs:Nat->Option Nat}{tab:Nat->List Int}(a:a8 (wi bb N m w bs tab)=heap)(hm:m<N){bi:Option Nat}{inner rows2:List (List V)}
  (hs:s.h=Hp.put (Hp.put heap 1000035 ⟨bi,3,1,inner⟩) 1000024 ⟨bb,80,1,rows2⟩)(hin:inner=gf (tab m))(hrows:rows2=(iv N m w bs).set m [.own 1000035 bi 1 w]):
  ∃s1,cd s s1/\s1.t=s.t/\eP (wi bb N (m+1) w (λi=>if i=m then bi else bs i) tab) s1:=by
 have hne:∀j,eY j≠1000024/\eY j≠1000035:=λj=>by unfold eY;omega
 have h0:heap (eY m)=none:=by rw[<-a];exact rn (hne m).1 (λj hj=>by unfold eY;omega)
 have he:=cd.move (s:=s) (k:=1000035) (k':=eY m) (q:=1000024) (o:=⟨bi,3,1,inner⟩) (O:=⟨bb,80,1,rows2⟩) (rows':=iv N (m+1) w (λi=>if i=m then bi else bs i))
  (by rw[hs];rfl) (by rw[hs];show(if eY m=1000024 then _ else if eY m=1000035 then _ else heap (eY m))=none;rw[aa (hne m).1,aa (hne m).2,h0]) (by rw[hs];rfl) qD
  (by rw[hrows,iS,dy,iS]) (λi r r' h1 h2=>by
   rw[<-BC hm bi] at h2;have hi:i<N:=by have:=(aj.1 h2).1;rwa[dy,iS] at this
   simp only at h1;rw[hrows] at h1
   by_cases b:i=m
   ·subst b;rw[dN (by rw[iS];exact hi)] at h1 h2;simp only[aC] at h1 h2;subst h1 h2;refine⟨rfl,λl v v' g1 g2=>?_⟩;cases l with
    |zero=>
     simp only[bR,aC] at g1 g2;subst g1 g2;exact .own _ _ _
    |succ l=>simp at g1
   ·rw[ei (λe=>b e.symm)] at h1 h2;rw[h1] at h2;cases h2;exact⟨rfl,λl v v' g1 g2=>by rw[g1] at g2;cases g2;exact .same _⟩)
 refine⟨_,he,rfl,mW rfl λj hj=>?_⟩;show(if eY j=1000024 then _ else if eY j=eY m then _ else if eY j=1000035 then _ else s.h (eY j))=_;rw[aa (hne j).1]
 by_cases c:j=m
 ·subst c;rw[ab rfl,hin];simp
 ·rw[aa (by unfold eY;omega),aa (hne j).2,hs];show(if eY j=1000024 then _ else if eY j=1000035 then _ else heap (eY j))=_;rw[aa (hne j).1,aa (hne j).2,<-a,mq qW];simp[c]
theorem IV{s:S}{heap:Hp}{bb:Option Nat}{N w:Nat}{bs:Nat->Option Nat}{tab tab':Nat->List Int}(a:a8 (wi bb N N w bs tab)=heap){i:Nat}(hi:i<N){b:Option Nat}{rows:List (List V)}
  (hs:s.h=Hp.put heap (eY i) ⟨b,3,1,rows⟩)(hb:b=bs i)(hrows:rows=gf (tab' i))(ht:∀j,j<N->j≠i->tab' j=tab j):eP (wi bb N N w bs tab') s:=by
 refine mW ?_ λj hj=>?_
 ·rw[hs];show(if 1000024=eY i then _ else heap 1000024)=_;rw[aa (by unfold eY;omega),<-a,pz]
 ·rw[hs];show(if eY j=eY i then _ else heap (eY j))=_
  by_cases c:j=i
  ·subst c;rw[ab rfl,hb,hrows]
  ·rw[aa (by unfold eY;omega),<-a,mq hj,ht j hj c]
def vE(N m w:Nat)(bs:Nat->Option Nat)(tab:Nat->List Int):List (List V):=(List.range N).map λi=>if i<m then[.sl false 1 (gf (tab i))] else[.own (eY i) (bs i) 1 w]
theorem oM(N m w:Nat)(bs:Nat->Option Nat)(tab:Nat->List Int):(vE N m w bs tab).length=N:=by simp[vE]
theorem zw{N m w:Nat}{bs:Nat->Option Nat}{tab:Nat->List Int}{i:Nat}(h:i<N):(vE N m w bs tab)[i]? =some (if i<m then[.sl false 1 (gf (tab i))] else[.own (eY i) (bs i) 1 w]):=by
 unfold vE;rw[aw,dv h];rfl
theorem ER(N w:Nat)(bs:Nat->Option Nat)(tab:Nat->List Int):vE N 0 w bs tab=iv N N w bs:=by
 refine cN λi=>?_
 by_cases hi:i<N
 ·rw[zw hi,jW hi,aa qW,ab hi]
 ·rw[bh (by rw[oM];omega),bh (by rw[iS];omega)]
theorem IW(bb:Option Nat)(N w:Nat)(bs:Nat->Option Nat)(tab:Nat->List Int)(hw:∀j,j<N->(tab j).length=w){s:S}(h0:s.h 1000024=some ⟨bb,80,1,iv N N w bs⟩)(hr:∀j,j<N->s.h (eY j)=some ⟨bs j,3,1,gf (tab j)⟩):
  ∀m,m<=N->∃s1,cd s s1/\s1.t=s.t/\s1.h 1000024=some ⟨bb,80,1,vE N m w bs tab⟩/\(∀j,m<=j->j<N->s1.h (eY j)=some ⟨bs j,3,1,gf (tab j)⟩)/\∀k,k≠1000024->k<2000000->s1.h k=s.h k
 |0,_=>⟨s,cd.refl _,rfl,by rw[ER];exact h0,λj _ hj=>hr j hj,λ_ _ _=>rfl⟩
 |m+1,hm=>by
  obtain⟨s1,e1,g,o,f,p⟩:=IW bb N w bs tab hw h0 hr m qW;have hne:∀j,eY j≠1000024:=λj=>by unfold eY;omega
  have hk:=f m (ak m) qW;refine⟨⟨s1.t,Hp.del (Hp.put s1.h 1000024 ⟨bb,80,1,vE N (m+1) w bs tab⟩) (eY m)⟩,e1.trans ?_,g,?_,λj h1 h2=>?_,λk h1 h2=>?_⟩
  ·refine cd.freeze (k:=eY m) (sz:=1) (n:=w) (b:=bs m) hk rfl rfl (by simp only[gf,aH];exact hw m qW) (uv _) (λi=>.inl rfl) (λj q hj=>?_);simp only[Hp.del] at hj
   by_cases a:j=eY m
   ·rw[ab a] at hj;cases hj
   ·rw[aa a] at hj;refine⟨a,?_⟩;simp only[Hp.put] at hj
    by_cases c:j=1000024
    ·rw[ab c] at hj;cases hj;refine⟨⟨bb,80,1,vE N m w bs tab⟩,by rw[c];exact o,rfl,rfl,rfl,by simp only[];rw[oM,oM],λi r r' g1 g2=>?_⟩;have hi:i<N:=by have:=(aj.1 g1).1;rwa[oM] at this
     simp only at g1 g2;rw[zw hi] at g1 g2;simp only[aC] at g1 g2;subst g1 g2
     by_cases d:i=m
     ·subst d;rw[ab (ct i),aa (Nat.lt_irrefl i)];refine⟨rfl,λl v v' g1 g2=>?_⟩;cases l with
      |zero=>
       simp only[bR,aC] at g1 g2;subst g1 g2;exact .inr ⟨rfl,rfl⟩
      |succ l=>simp at g1
     ·by_cases h:i<m
      ·rw[ab h,ab qW];exact⟨rfl,λl v v' g1 g2=>by rw[g1] at g2;cases g2;exact .inl rfl⟩
      ·rw[aa h,aa qW];exact⟨rfl,λl v v' g1 g2=>by rw[g1] at g2;cases g2;exact .inl rfl⟩
    ·rw[aa c] at hj;exact⟨q,hj,rfl,rfl,rfl,rfl,λi r r' h1 h2=>by rw[h1] at h2;cases h2;exact⟨rfl,λl v v' h3 h4=>by rw[h3] at h4;cases h4;exact .inl rfl⟩⟩
  ·show(if 1000024=eY m then none else if 1000024=1000024 then _ else _)=_;rw[aa (λe=>hne m e.symm),ab rfl]
  ·show(if eY j=eY m then none else if eY j=1000024 then _ else s1.h (eY j))=_;rw[aa (by unfold eY;omega),aa (hne j)];exact f j qW h2
  ·show(if k=eY m then none else if k=1000024 then _ else s1.h k)=_;rw[aa (by unfold eY;omega),aa h1];exact p k h1 h2
def Qe(N:Nat)(tab:Nat->List Int):List (List V):=(List.range N).map λi=>[.sl false 1 (gf (tab i))]
theorem zx(N w:Nat)(bs:Nat->Option Nat)(tab:Nat->List Int):vE N N w bs tab=Qe N tab:=by
 unfold vE Qe;refine bL λi hi=>?_;rw[ab (bI.1 hi)]
theorem Qf(N:Nat)(tab:Nat->List Int):∀r∈Qe N tab,∀v∈r,Fz v:=by
 intro r hr v hv;obtain⟨i,_,rfl⟩:=aM.1 hr;simp at hv;subst hv;exact .sl _ _ (uv _)
theorem ES{bb:Option Nat}{N w i0:Nat}{bs:Nat->Option Nat}{tab:Nat->List Int}(hw:∀j,j<N->(tab j).length=w){s:S}(hi:s.t i0=.own 1000024 bb 1 N)(h0:s.h 1000024=some ⟨bb,80,1,iv N N w bs⟩)
  (hr:∀j,j<N->s.h (eY j)=some ⟨bs j,3,1,gf (tab j)⟩):∃s1,cd s s1/\s1.t=jh s.t i0 (.sl false 1 (Qe N tab))/\∀k,k≠1000024->k<2000000->s1.h k=s.h k:=by
 obtain⟨s1,e1,a,c,_,d⟩:=IW bb N w bs tab hw h0 hr N (ak N);have h2:=cd.yY (s:=s1) (i:=i0) (k:=1000024) (sz:=1) (n:=N) (b:=bb) (by rw[a];exact hi) c rfl rfl (oM _ _ _ _ _) (by simp only[];rw[zx];exact Qf _ _);refine⟨_,e1.trans h2,?_,λk h1 h2=>?_⟩
 ·simp only[S.yY];rw[a,zx]
 ·show(if k=1000024 then none else s1.h k)=_;rw[aa h1];exact d k h1 h2
open Go.RowKit
def z0(_:Nat):Nat:=0
theorem cd.names{s s':S}(g:Nat->Nat)(ht:∀i,s'.t i=s.t i\/s'.t i=.gC)(hh:∀k o,s'.h k=some o->∃q,s.h (g k)=some q/\o.b=q.b/\o.gy z0=q.gy z0)(hg:∀k k' o o',s'.h k=some o->s'.h k'=some o'->g k=g k'->k=k'):cd s s':=by
 intro C n a w hC hs;obtain⟨F,h1,h2⟩:=hs.ex;refine⟨⟨F,⟨λk o hk=>?_,λk k' o o' b hk c hb d=>?_,λk o b hk hb=>?_,h1.jE,h1.new,h1.lt,h1.ev⟩,λi=>?_⟩,hs.df,hs.sz⟩
 ·obtain⟨q,q1,q2,e⟩:=hh k o hk;have:=(h1.ob (g k) q q1).gy z0;rw[<-e] at this;exact this.B8 z0
 ·obtain⟨q,q1,q2,e⟩:=hh k o hk;obtain⟨l,f,j,m⟩:=hh k' o' c;exact hg k k' o o' hk c (h1.inj _ _ q l b q1 f (q2.symm.trans hb) (j.symm.trans d))
 ·obtain⟨q,q1,q2,e⟩:=hh k o hk;exact h1.live (g k) q b q1 (q2.symm.trans hb)
 ·rcases ht i with h|h
  ·rw[h];exact h2 i
  ·rw[h];exact .gC _
def xG:List (Nat×Nat×Ob)->S->Prop
 |[],_=>True
 |(_,j,o)::l,s=>(∃q,s.h j=some q/\o.b=q.b/\o.gy z0=q.gy z0)/\xG l s
def M1(l:List (Nat×Nat×Ob)):List (Nat×Ob):=l.map λp=>(p.1,p.2.2)
def vF(l:List (Nat×Nat×Ob))(k:Nat):Nat:=match l with
 |[]=>k
 |p::l=>if k=p.1 then p.2.1 else vF l k
theorem lV:∀(l:List (Nat×Nat×Ob))(s:S)(k:Nat)(o:Ob),xG l s->a8 (M1 l) k=some o->(∃q,s.h (vF l k)=some q/\o.b=q.b/\o.gy z0=q.gy z0)/\∃p∈l,p.1=k/\p.2.1=vF l k
 |[],_,_,_,_,h=>by cases h
 |(k',j,o')::l,s,k,o,ha,h=>by
  simp only[M1,aI,a8] at h
  by_cases hk:k=k'
  ·rw[ab hk] at h;cases h;have e:vF ((k',j,o')::l) k=j:=by simp[vF,hk]
   rw[e];exact⟨ha.1,_,aR,hk.symm,rfl⟩
  ·rw[aa hk] at h;have e:vF ((k',j,o')::l) k=vF l k:=by simp[vF,hk]
   rw[e];obtain⟨h1,p,hp,h2⟩:=lV l s k o ha.2 h;exact⟨h1,p,aY _ hp,h2⟩
theorem sk:∀{l:List (Nat×Nat×Ob)},(l.map (·.2.1)).Nodup->∀p∈l,∀q∈l,p.2.1=q.2.1->p=q
 |[],_,p,hp,_,_,_=>by cases hp
 |x::l,h,p,hp,q,hq,e=>by
  rw[aI,et] at h
  rcases ah.1 hp with h1|h1<;>rcases ah.1 hq with h2|h2
  ·rw[h1,h2]
  ·rw[h1] at e;exact absurd (aM.2 ⟨q,h2,e.symm⟩) h.1
  ·rw[h2] at e;exact absurd (aM.2 ⟨p,h1,e⟩) h.1
  ·exact sk h.2 p h1 q h2 e
theorem uG:∀{L:List (Nat×Ob)}{k:Nat},k∈L.map (·.1)->∃o,a8 L k=some o
 |[],_,h=>by cases h
 |(j,o)::L,k,h=>by
  simp only[a8]
  by_cases he:k=j
  ·rw[ab he];exact⟨_,rfl⟩
  ·rw[aa he];rw[aI] at h
   rcases ah.1 h with h|h
   ·exact absurd h he
   ·exact uG h
theorem cd.M3{s:S}(l:List (Nat×Nat×Ob))(hn:(l.map (·.2.1)).Nodup)(ha:xG l s):cd s ⟨s.t,a8 (M1 l)⟩:=by
 refine cd.names (vF l) (λi=>.inl rfl) (λk o hk=>(lV l s k o ha hk).1) (λk k' o o' hk a e=>?_);obtain⟨_,p,hp,f,g⟩:=lV l s k o ha hk;obtain⟨_,h,b,c,d⟩:=lV l s k' o' ha a;have:=sk hn p hp h b (by rw[g,d,e]);rw[<-f,<-c,this]
theorem fe.take{F B:Nat->Prop}{w:World}{b:Option Nat}{ty sz:Nat}{rows:List (List V)}(h:fe F B w ⟨b,ty,sz,rows⟩)(n:Nat):fe F B w ⟨b,ty,sz,rows.take n⟩:=by
 unfold fe at h⊢;cases b with
 |none=>simp only at h⊢;rw[h];simp
 |some b=>
  obtain⟨c,cap,hc,h1,h2,h3,h4,h5⟩:=h;have h3:rows.length<=cap:=h3;refine⟨c,cap,hc,h1,h2,by show(rows.take n).length<=cap;rw[aE];omega,λr hr=>h4 r (cM hr),λi j r v hi hj=>?_⟩;refine h5 i j r v ?_ hj;have hi:(rows.take n)[i]? =some r:=hi;rw[aZ] at hi
  split at hi
  ·exact hi
  ·cases hi
theorem tw:∀{m:List (Nat×Nat)},(m.map (·.1)).Nodup->∀p∈m,gD m p.1=p.2
 |[],_,_,h=>by cases h
 |(a,b)::m,hn,p,hp=>by
  rw[aI,et] at hn
  rcases ah.1 hp with rfl|hp
  ·simp[gD]
  ·have:p.1≠a:=λe=>hn.1 (aM.2 ⟨p,hp,e⟩);simp only[gD];rw[aa this];exact tw hn.2 p hp
theorem ru:∀{m:List (Nat×Nat)},(m.map (·.2)).Nodup->∀p∈m,gP m p.2=p.1
 |[],_,_,h=>by cases h
 |(a,b)::m,hn,p,hp=>by
  rw[aI,et] at hn
  rcases ah.1 hp with rfl|hp
  ·simp[gP]
  ·have:p.2≠b:=λe=>hn.1 (aM.2 ⟨p,hp,e⟩);simp only[gP];rw[aa this];exact ru hn.2 p hp
def Hp.jl(h:Hp)(l:List (Nat×Ob))(i:Nat):Option Ob:=match a8 l i with
 |some o=>some o
 |none=>h i
def mX(m:List (Nat×Nat))(F:Ob->Ob)(L:List (Nat×Ob)):List (Nat×Ob):=List.zipWith (λp q=>(p.2,F q.2)) m L
theorem wj(F:Ob->Ob):∀(m:List (Nat×Nat))(L:List (Nat×Ob)),L.map (·.1)=m.map (·.1)->(m.map (·.1)).Nodup->(m.map (·.2)).Nodup->∀i,a8 (mX m F L) i=if m.any (λp=>decide (p.2=i)) then(a8 L (gP m i)).map F else none
 |[],[],_,_,_,i=>rfl
 |[],_::_,h,_,_,_=>by cases h
 |_::_,[],h,_,_,_=>by cases h
 |(a,b)::m,(c,o)::L,h,n1,n2,i=>by
  simp only[aI,cy] at h;obtain⟨h1,h2⟩:=h;subst h1;rw[aI,et] at n1 n2;have ih:=wj F m L h2 n1.2 n2.2 i;show(if i=b then some (F o) else a8 (mX m F L) i)=_
  by_cases hi:i=b
  ·subst hi;simp[gP,a8]
  ·have hi2:¬b=i:=λe=>hi e.symm;rw[aa hi,ih];simp only[bZ,hi2,decide_false,Bool.false_or,gP,aa hi]
   by_cases hm:(m.any λp=>decide (p.2=i))=true
   ·rw[ab hm,ab hm];obtain⟨p,hp,d⟩:=cU.1 hm;have d:p.2=i:=by simpa using d
    have hb:=ru n2.2 p hp;rw[d] at hb;rw[hb];have:p.1≠c:=λe=>n1.1 (aM.2 ⟨p,hp,e⟩);simp only[a8];rw[aa this]
   ·rw[aa hm,aa hm]
theorem zy(h:Hp)(m:List (Nat×Nat))(L:List (Nat×Ob))(h1:L.map (·.1)=m.map (·.1))(n1:(m.map (·.1)).Nodup)(n2:(m.map (·.2)).Nodup)(b:m≠[]):h.jh m (a8 L)=h.jl (mX m (Ob.gy (gD m)) L):=by
 have key:=wj (Ob.gy (gD m)) m L h1 n1 n2;cases m with
 |nil=>exact absurd rfl b
 |cons q m=>
  funext i
  show(if((q::m).any λp=>decide (p.2=i))=true then(a8 L (gP (q::m) i)).map (Ob.gy (gD (q::m))) else h i)=_;unfold Hp.jl;rw[key i]
  by_cases hm:((q::m).any λp=>decide (p.2=i))=true
  ·rw[ab hm,ab hm];obtain⟨p,hp,a⟩:=cU.1 hm;have a:p.2=i:=by simpa using a
   have hb:=ru n2 p hp;rw[a] at hb;rw[hb];have:∃o,a8 L p.1=some o:=uG (by rw[h1];exact aM.2 ⟨p,hp,rfl⟩);obtain⟨o,ho⟩:=this;rw[ho];rfl
  ·rw[aa hm,aa hm]
theorem uH{P:Program}{f:Nat}{args a:List V}{L:List (Nat×Ob)}(m:List (Nat×Nat)){post:V->List (Nat×Ob)->Prop}(hs:Spec P f a (a8 L) λv' h'=>∃L',post v' L'/\h'=a8 L'){h:Hp}{K:V->Hp->Prop}(ha:lG h m args a)
  (n1:(m.map (·.1)).Nodup)(n2:(m.map (·.2)).Nodup)(hne:m≠[])(b:∀p∈L,∃q∈m,q.1=p.1)(c:∀p∈L,((h (gD m p.1)).map (Ob.gy (gP m))=some p.2)/\p.2.Fz)
  (d:∀v L',post v L'->L'.map (·.1)=m.map (·.1))(hK:∀v L',post v L'->K (v.gy (gD m)) (h.jl (mX m (Ob.gy (gD m)) L'))):dF P f args h K:=by
 refine oe hs (m:=m) ha (λk o hk=>?_) (λq hq=>?_) (λv L' hp=>?_)
 ·obtain⟨q,hq,e⟩:=b _ (kf hk);exact⟨q,hq,e⟩
 ·refine⟨tw n1 q hq,ru n2 q hq,λo ho=>?_⟩;have:=c _ (kf ho);simp only[tw n1 q hq] at this;exact this
 ·rw[zy h m L' (d v L' hp) n1 n2 hne];exact hK v L' hp
theorem wk:∀(f n:Nat),n<128^(f+1)->Word (pJ (f+1) n)/\val (pJ (f+1) n)=n/\(0<n->(pJ (f+1) n).getLast? ≠some 0)
 |0,n,h=>by
  have h1:n<128:=by simpa using h
  rw[jm 0 n h1];have h2:=ov n qW;refine⟨.one _ qW,by simp[val];omega,λh0 h3=>?_⟩;simp only[fj,aC] at h3;rw[h3] at h2;simp at h2;omega
 |f+1,n,h=>by
  by_cases hn:n<128
  ·rw[jm _ n hn];have h2:=ov n qW;refine⟨.one _ qW,by simp[val];omega,λh0 h3=>?_⟩;simp only[fj,aC] at h3;rw[h3] at h2;simp at h2;omega
  ·rw[lP _ n hn];have hd:n/128<128^(f+1):=by
    rw[eD] at h;exact eg (by rw[dK];exact h)
   obtain⟨h1,h2,h3⟩:=wk f (n/128) hd;have hb:=ov (128+n%128) qW;refine⟨.more _ _ qW h1,by simp only[val,h2,hb];omega,λ_=>?_⟩;have hne:pJ (f+1) (n/128)≠[]:=by intro e;rw[e] at h1;cases h1
   rw[cC hne];exact h3 qW
theorem wm:∀{l:BS}(s:BS),Word l->lead (l++s)+1=l.length
 |_,s,.one b h=>by rw[dQ,lx b s h];rfl
 |_,s,.more b r h hr=>by
  rw[aD,kl b _ h,ar,<-wm s hr]
theorem wo:∀{l:BS}(s:BS),Word l->(l++s)[lead (l++s)]? =l.getLast?
 |_,s,.one b h=>by rw[dQ,lx b s h];rfl
 |_,s,.more b r h hr=>by
  have hne:r≠[]:=by cases hr<;>simp
  rw[aD,kl b _ h,cS,cC hne];exact wo s hr
theorem sq(n:Nat)(h:n<=2147483647)(s:BS):gX (ij n++s)=((n:Int),((ij n).length:Int),0):=by
 obtain⟨h1,h2,h3⟩:=wk 4 n (by(have:(128:Nat)^(4+1)=34359738368:=by decide);omega);have hw:Word (ij n):=h1;have h5:=qY 5 n;have hl:=wm s hw;have h6:(ij n).length<=5:=h5;have ht:(ij n++s).take (lead (ij n++s)+1)=ij n:=by rw[hl];simp
 have hv:val (ij n)=n:=h2;unfold gX;rw[aa qW,aa (by rw[ae];omega),ht,hv,aa]
 ·rw[<-hl];simp
 ·rintro(h7|⟨h7,h8⟩)
  ·omega
  ·rw[wo s hw] at h8;refine h3 ?_ h8
   by_cases hn:n<128
   ·have:ij n=[bt n]:=jm 4 n hn;have a:(ij n).length=1:=by rw[this];rfl
    omega
   ·omega
theorem zz(n:Nat)(h:n<16384):(ij n).length<=2:=by
 unfold ij
 by_cases hn:n<128
 ·rw[jm _ n hn];simp
 ·rw[lP _ n hn,jm _ (n/128) qW];simp
theorem M4{p:Part}(hp:nR p)(s:BS)(n:Nat)(out:List Part):Bm (n+1) (lR p++s) out=Bm n s (out++[p]):=by
 obtain⟨h1,h2,h3,h4⟩:=gU hp;have hk:1<=p.kind/\p.kind<=3:=by rcases h4 with⟨h,_⟩|⟨h|h,_⟩<;>omega
 have hv:((4*(p.n+p.text.length)+p.kind).toNat:Int)=4*(p.n+p.text.length)+p.kind:=by omega
 have hg:=sq (4*(p.n+p.text.length)+p.kind).toNat qW (p.text++s);rw[hv] at hg;have hd:(ij (4*(p.n+p.text.length)+p.kind).toNat++(p.text++s)).drop (ij (4*(p.n+p.text.length)+p.kind).toNat).length=p.text++s:=by simp
 have e:lR p++s=ij (4*(p.n+p.text.length)+p.kind).toNat++(p.text++s):=by simp[lR]
 rw[e,Bm,hg];simp only[aG,hd];rw[aa (λh=>h rfl)]
 rcases h4 with⟨g1,g2,g3⟩|⟨g1,g2,g3⟩
 ·rw[ab qW,aa (by rw[ae];omega)];have ht:((4*(p.n+(p.text.length:Int))+p.kind)/4).toNat=p.text.length:=by omega
  rw[ht,cI,eQ];have:p=⟨2,0,p.text⟩:=by cases p;simp only at g1 g2;subst g1 g2;rfl
  rw[<-this]
 ·have h0:p.text.length=0:=by rw[g3];rfl
  rw[aa qW,g3,cL];have a1:(4*(p.n+(([]:BS).length:Int))+p.kind)%4=p.kind:=by simp only[aL];omega
  have a2:(4*(p.n+(([]:BS).length:Int))+p.kind)/4=p.n:=by simp only[aL];omega
  rw[a1,a2];have:p=⟨p.kind,p.n,[]⟩:=by cases p;simp only at g3;subst g3;rfl
  rw[<-this]
theorem C2:∀(d:List Part)(s:BS)(out:List Part),(∀p∈d,nR p)->Bm d.length ((d.map lR).flatten++s) out=some (s,out++d)
 |[],s,out,_=>by simp[Bm]
 |p::d,s,out,h=>by
  rw[aI,c9,aU,ar,M4 (h p (by simp)),C2 d s _ λq hq=>h q (by simp[hq])];simp
theorem uI{d:List Part}(h:cR d=0):kY (codeF d)=(d,0):=by
 have h1:=gw h;have hg:=sq d.length qW ((d.map lR).flatten);have hp:oz (codeF d)=some ([],d):=by
  unfold oz codeF;rw[hg];simp only[aG,cI];rw[aa (λh=>h rfl)];have:=C2 d [] [] h1.2.1;simpa using this
 unfold kY;rw[hp];simp only;rw[ab ⟨trivial,h⟩]
theorem wu:∀(d:List Part),(∀p∈d,nR p)->(((d.map lR).flatten).length:Int)<=2*d.length+ig d/\(d.length:Int)<=lg d+ig d
 |[],_=>by simp[lg,ig]
 |p::d,h=>by
  obtain⟨h1,h2,h3,h4⟩:=gU (h p (by simp));obtain⟨i1,i2⟩:=wu d λq hq=>h q (by simp[hq]);have hk:1<=p.kind/\p.kind<=3:=by rcases h4 with⟨h,_⟩|⟨h|h,_⟩<;>omega
  have hl:(ij (4*(p.n+p.text.length)+p.kind).toNat).length<=2:=zz _ qW;simp only[aI,c9,ae,ar,lg,ig,lR]
  rcases h4 with⟨g1,g2,g3⟩|⟨g1,g2,g3⟩
  ·have:0<p.text.length:=du.2 g3;rw[aa qW,aa qW,aa qW];omega
  ·have h0:p.text.length=0:=by rw[g3];rfl
   rw[ab g1]
   split<;>(try split)<;>omega
theorem ET{d:List Part}(h:cR d=0):(codeF d).length<=2600:=by
 have h1:=gw h;obtain⟨i1,i2⟩:=wu d h1.2.1;have:=zz d.length qW;unfold codeF;rw[ae];omega
theorem C3{n:Int}(h:nT n)(s:BS)(b:Bool):tt (ij n.toNat++s,b)=((s,b),n):=by
 obtain⟨h1,h2⟩:=h;have hg:=sq n.toNat qW s;unfold tt;simp only;rw[hg,aa (λh=>h rfl)];simp only[aG,cI];rw[show((n.toNat:Nat):Int)=n by omega]
theorem uJ(a:Int)(l:List Int)(s:BS):jA (a::l)++s=ij a.toNat++(jA l++s):=by simp[jA]
theorem ry(l:List Int)(hl:∀n∈l,nT n)(s:BS):∀i,i<=l.length->nK (jA l++s) i=(jA (l.drop i)++s,true)
 |0,_=>rfl
 |i+1,h=>by
  rw[zd,ry l hl s i qW];have hi:i<l.length:=h;have e:l.drop i=l[i]::l.drop (i+1):=bw hi;rw[e];rw[uJ,C3 (hl _ (dV hi))]
theorem oN{l:List Int}(hl:∀n∈l,nT n)(s:BS){i:Nat}{n:Int}(h:l[i]? =some n):iX (jA l++s) i=n:=by
 obtain⟨hi,rfl⟩:=aj.1 h;unfold iX;rw[ry l hl s i qW];have e:l.drop i=l[i]::l.drop (i+1):=bw hi;rw[e];rw[uJ,C3 (hl _ (dV hi))]
def jc(r:er):BS:=ij r.who.toNat++ij r.seq.toNat++codeF r.delta
theorem mY{r:er}(h:ir r=0):(0<=r.who/\r.who<=7)/\(0<=r.seq/\r.seq<=2147483647)/\cR r.delta=0:=by
 unfold ir at h
 split at h
 ·exact absurd h qD
 ·exact⟨qW,qW,h⟩
theorem sR{r:er}(h:ir r=0):(jc r).length<=4000:=by
 obtain⟨_,_,h3⟩:=mY h;have:=ET h3;have:=qY 5 r.who.toNat;have:=qY 5 r.seq.toNat;unfold jc ij;simp only[ae];omega
theorem EU{r:er}(h:ir r=0):lp (jc r)=r/\sQ (jc r)=true:=by
 obtain⟨h1,h2,h3⟩:=mY h;have hl:∀n∈[r.who,r.seq],nT n:=by
  intro n hn;simp only[ah,aq,aQ] at hn
  rcases hn with rfl|rfl
  ·exact⟨h1.1,qW⟩
  ·exact h2
 have e:jc r=jA [r.who,r.seq]++codeF r.delta:=by simp[jc,jA]
 have a0:iX (jc r) 0=r.who:=by rw[e];exact oN hl _ rfl
 have a1:iX (jc r) 1=r.seq:=by rw[e];exact oN hl _ rfl
 have a2:nK (jc r) 2=(codeF r.delta,true):=by rw[e,ry _ hl _ 2 (by simp)];simp[jA]
 have hr:lp (jc r)=r:=by
  unfold lp;rw[a0,a1,a2,uI h3]
 refine⟨hr,?_⟩;unfold sQ;rw[hr,a2,uI h3,h];rfl
def gx(g b:Int)(tx:BS)(t:Nat->Int):BS:=jA (jq g b t)++tx
theorem rz{g b:Int}{tx:BS}{t:Nat->Int}(h:tx.length<=500):(gx g b tx t).length<=4000:=by
 have:=sh (jq g b t);rw[oK] at this;unfold gx;rw[ae];omega
structure mZ(g b:Int)(tx:BS)(t:Nat->Int):Prop where
 g:nT g
 b:nT b
 tx:tx.length<=500
 t:∀j,j<16->nT (t j)
theorem mZ.flat{g b:Int}{tx:BS}{t:Nat->Int}(h:mZ g b tx t):∀n∈jq g b t,nT n:=by
 intro n hn;simp only[jq,ah,aq,aQ] at hn
 rcases hn with rfl|rfl|rfl|rfl|rfl|rfl|rfl|rfl|rfl|rfl|rfl|rfl|rfl|rfl|rfl|rfl|rfl|rfl
 ·exact h.g
 ·exact h.b
 all_goals exact h.t _ qD
theorem EV{g b:Int}{tx:BS}{t:Nat->Int}(h:mZ g b tx t):mI (gx g b tx t)=true/\iX (gx g b tx t) 0=g/\iX (gx g b tx t) 1=b/\(nK (gx g b tx t) 18).1=tx/\∀j,j<16->iX (gx g b tx t) (j+2)=t j:=by
 have hs:nK (gx g b tx t) 18=(tx,true):=by
  unfold gx;rw[ry _ h.flat tx 18 (by rw[oK];exact ak _)];have:(jq g b t).drop 18=[]:=rfl;rw[this];rfl
 refine⟨?_,oN h.flat _ rfl,oN h.flat _ rfl,by rw[hs],λj hj=>oN h.flat _ ?_⟩
 ·unfold mI
  generalize nK (gx g b tx t) 18=q at hs
  subst hs;have:=h.tx;simpa using this
 ·match j,hj with
  |0,_=>rfl
  |1,_=>rfl
  |2,_=>rfl
  |3,_=>rfl
  |4,_=>rfl
  |5,_=>rfl
  |6,_=>rfl
  |7,_=>rfl
  |8,_=>rfl
  |9,_=>rfl
  |10,_=>rfl
  |11,_=>rfl
  |12,_=>rfl
  |13,_=>rfl
  |14,_=>rfl
  |15,_=>rfl
  |j+16,hj=>omega
def vG(f:Frame):Prop:=1<=f.kind/\f.kind<=255/\f.body.length<=4000
def kC(f:Frame):BS:=sc f.kind f.body
theorem ku(f:Frame):(kC f).length=f.body.length+7:=by simp[kC,sc,jb,kZ]
theorem sr{n:Int}(h:0<=n/\n<=255):((nP n).toNat:Int)=n:=by
 rw[nP,cK];omega
theorem IX{f:Frame}(h:vG f)(s:BS):oD (kC f++s)=f.body.length/\(((kC f++s).getD 0 0).toNat:Int)=f.kind:=by
 obtain⟨h1,h2,h3⟩:=h;have a:(kC f++s).getD 0 0=nP f.kind:=rfl;have e1:(kC f++s).getD 1 0=nP ((f.body.length:Int)/256):=rfl;have b:(kC f++s).getD 2 0=nP (f.body.length:Int):=rfl;refine⟨?_,by rw[a];exact sr qW⟩;unfold oD;rw[e1,b,<-Me (f.body.length:Int)];have a1:=sr (n:=(f.body.length:Int)/256) qW;have a2:=sr (n:=(f.body.length:Int)%256) qW;omega
theorem IY{f:Frame}(h:vG f)(s:BS):gl (kC f++s)=(f,(f.body.length:Int)+7,0):=by
 obtain⟨e1,e⟩:=IX h s;obtain⟨h1,h2,h3⟩:=h;have hl:(kC f++s).length=f.body.length+7+s.length:=by rw[ae,ku]
 have hh:(jb f.kind f.body).length=f.body.length+3:=by simp[jb]
 have a:kC f++s=jb f.kind f.body++(kZ (ll (jb f.kind f.body))++s):=by simp[kC,sc]
 have b:(kC f++s).take (f.body.length+3)=jb f.kind f.body:=by
  rw[a,<-hh];exact eQ
 have c:(kC f++s).take (f.body.length+7)=kC f:=by rw[<-ku f];exact eQ
 have d:(kC f).drop (f.body.length+3)=kZ (ll (jb f.kind f.body)):=by
  have:kC f=jb f.kind f.body++kZ (ll (jb f.kind f.body)):=rfl;rw[this,<-hh];exact cI
 unfold gl;rw[e1,b,c,d,e,aa qW,aa qW,aa qW,aa (λh=>h rfl)];have:(jb f.kind f.body).drop 3=f.body:=rfl;rw[this]
theorem getD_take{l:BS}{n i:Nat}(h:i<n):(l.take n).getD i 0=l.getD i 0:=by
 rw[au,au,aZ,ab h]
theorem EW{f:Frame}(h:vG f){n:Nat}(hn:n<f.body.length+7):(gl ((kC f).take n)).2.2≠0:=by
 have hl:((kC f).take n).length=n:=by rw[aE,ku];omega
 unfold gl;rw[hl]
 by_cases h7:n<7
 ·rw[ab h7];decide
 rw[aa h7];have e:oD ((kC f).take n)=f.body.length:=by
  have:=(IX h []).1;rw[bg] at this;unfold oD at this⊢;rw[getD_take qW,getD_take qW];exact this
 split
 ·decide
 ·rw[e,ab hn];decide
theorem EX:(gl []).2.2≠0:=by decide
theorem wv{s:BS}(h:(gl s).2.2≠0):fR s=([],0):=by
 unfold fR;rw[oE,ab h]
theorem BD{f:Frame}(h:vG f)(s:BS):fR (kC f++s)=(f::(fR s).1,(f.body.length:Int)+7+(fR s).2):=by
 have hg:=IY h s;have hd:(kC f++s).drop (((f.body.length:Int)+7).toNat)=s:=by
  have:((f.body.length:Int)+7).toNat=(kC f).length:=by rw[ku];omega
  rw[this];exact cI
 have hlt:s.length<(kC f++s).length:=by rw[ae,ku];omega
 have e:fR (kC f++s)=oE ((kC f++s).length+1) (kC f++s):=rfl;rw[e,oE,hg];simp only[hd];rw[aa (λh=>h rfl),oF _ s hlt]
def eF(l:List Frame):BS:=(l.map kC).flatten
theorem iH(f:Frame)(l:List Frame):eF (f::l)=kC f++eF l:=by simp[eF]
theorem pA(a b:List Frame):eF (a++b)=eF a++eF b:=by simp[eF]
theorem uK:∀(l:List Frame),(∀f∈l,vG f)->∀n:Nat,∃k,k<=l.length/\(fR ((eF l).take n)).1=l.take k/\(eF (l.take k)).length<=n/\∀j,j<=l.length->(eF (l.take j)).length<=n->j<=k
 |[],_,n=>⟨0,ak _,by
   have:(eF []).take n=[]:=by simp[eF]
   rw[this,wv EX];rfl,by simp[eF],λj hj _=>hj⟩
 |f::l,h,n=>by
  have hf:=h f (by simp);have hl:=ku f
  by_cases hn:n<(kC f).length
  ·refine⟨0,bc _,?_,by simp[eF],λj hj hlen=>?_⟩
   ·rw[iH,cW qW,wv (EW hf qW)];rfl
   ·cases j with
    |zero=>exact ak _
    |succ j=>rw[cP,iH,ae] at hlen;omega
  ·obtain⟨k,k1,a,c,b⟩:=uK l (λg hg=>h g (by simp[hg])) (n-(kC f).length);refine⟨k+1,by simpa using k1,?_,?_,λj hj hlen=>?_⟩
   ·have e:(eF (f::l)).take n=kC f++(eF l).take (n-(kC f).length):=by
     rw[iH,List.take_append,bT qW]
    rw[e,BD hf,a];rfl
   ·rw[cP,iH,ae];omega
   ·cases j with
    |zero=>exact bc _
    |succ j=>
     rw[cP,iH,ae] at hlen;have:=b j (by simpa using hj) qW;omega
theorem IZ{d:List Part}(h:cR d=0):∀p∈d,nR p:=(gw h).2.1
theorem RX{d:List Part}(h:cR d=0):(kE (fP d):Int)=lg d:=(ou _ (IZ h))
theorem Qg{d:List Part}(h:cR d=0):(iN (fP d):Int)=ig d:=(pj _ (IZ h))
theorem EY{d:List Part}{s:BS}(h:(kB d s).2=0):cR d=0/\kE (fP d)=s.length/\(kB d s).1.length=iN (fP d)/\s.length<=500:=by
 unfold kB at h⊢
 by_cases hf:kh d s.length=0
 ·obtain⟨h1,h2⟩:=yU hf;have h3:=RX h1;have h4:=gw h1;rw[ab hf];have h5:kE (fP d)=s.length:=by omega
  refine⟨h1,h5,?_,qW⟩;exact LK _ _ h5.symm
 ·rw[aa hf] at h;exact absurd h hf
def C4(cur:BS)(l:List er):BS:=(cur::(nS cur l).1).getD l.length []
theorem zA{cur:BS}{r:er}{l:List er}(h:(nS cur (r::l)).2=0):ir r=0/\(kB r.delta cur).2=0/\(nS (kB r.delta cur).1 l).2=0/\(nS cur (r::l)).1=(kB r.delta cur).1::(nS (kB r.delta cur).1 l).1:=by
 rw[nS] at h⊢
 by_cases h1:ir r≠0
 ·rw[ab h1] at h;exact absurd h h1
 rw[aa h1] at h⊢
 by_cases h2:(kB r.delta cur).2≠0
 ·rw[ab h2] at h;exact absurd h h2
 rw[aa h2] at h⊢;exact⟨aK h1,aK h2,h,rfl⟩
theorem BE{cur:BS}{r:er}{l:List er}(h:(nS cur (r::l)).2=0):C4 cur (r::l)=C4 (kB r.delta cur).1 l:=by
 unfold C4;rw[(zA h).2.2.2];rfl
def td(f g:Nat->Int):Prop:=∀j,j<16->f j=g j
theorem td.refl(f:Nat->Int):td f f:=λ_ _=>rfl
theorem td.symm{f g:Nat->Int}(h:td f g):td g f:=λj hj=>(h j hj).symm
theorem td.trans{f g k:Nat->Int}(h:td f g)(h':td g k):td f k:=λj hj=>(h j hj).trans (h' j hj)
theorem td.add{f g:Nat->Int}(h:td f g)(w:Nat)(q n:Int):td (iQ f w q n) (iQ g w q n):=λj hj=>by
 unfold iQ
 split
 ·rfl
 ·split
  ·rfl
  ·exact h j hj
def jr:(Nat->Int)->Int->List er->Nat->Int
 |fs,_,[]=>fs
 |fs,b,r::l=>jr (iQ fs r.who.toNat r.seq (b+1)) (b+1) l
theorem rA:∀(a c:List er)(fs:Nat->Int)(b:Int),jr fs b (a++c)=jr (jr fs b a) (b+a.length) c
 |[],c,fs,b=>by simp[jr]
 |r::a,c,fs,b=>by
  rw[aD,jr,jr,rA a c]
  congr 1
  simp only[ar];omega
theorem zB:∀(a:List er)(f g:Nat->Int)(b:Int),td f g->td (jr f b a) (jr g b a)
 |[],_,_,_,h=>h
 |r::a,_,_,_,h=>zB a _ _ _ (h.add _ _ _)
def fN(b:Int):(Nat->Int)->Nat->BS->List er->Prop
 |_,_,_,[]=>True
 |tb,i,now,r::l=>gQ b tb i now.length r=0/\fN b (iQ tb r.who.toNat r.seq (b+(i:Int)+1)) (i+1) (kB r.delta now).1 l
def lW(now:BS):List er->BS
 |[]=>now
 |r::l=>lW (kB r.delta now).1 l
theorem oO:∀(a c:List er)(now:BS),lW now (a++c)=lW (lW now a) c
 |[],_,_=>rfl
 |r::a,c,now=>oO a c _
theorem zC{b:Int}{f g:Nat->Int}(h:td f g)(i:Nat)(n:Int)(r:er):gQ b f i n r=gQ b g i n r:=by
 unfold gQ
 by_cases h1:ir r≠0
 ·rw[ab h1,ab h1]
 ·have:=mY (aK h1);rw[aa h1,aa h1,h (2*r.who.toNat) qW]
theorem pB{b:Int}:∀(l:List er)(f g:Nat->Int)(i:Nat)(now:BS),td f g->fN b f i now l->fN b g i now l
 |[],_,_,_,_,_,_=>trivial
 |r::l,f,g,i,now,h,hc=>⟨by rw[<-zC h];exact hc.1,pB l _ _ _ _ (h.add _ _ _) hc.2⟩
theorem lB{b:Int}:∀(a c:List er)(tb:Nat->Int)(i:Nat)(now:BS),fN b tb i now (a++c)↔fN b tb i now a/\fN b (jr tb (b+(i:Int)) a) (i+a.length) (lW now a) c
 |[],c,tb,i,now=>by simp[fN,jr,lW]
 |r::a,c,tb,i,now=>by
  rw[aD,fN,lB a c,fN,jr,lW,fD];have e1:b+((i+1:Nat):Int)=b+(i:Int)+1:=by omega
  have d:i+1+a.length=i+(r::a).length:=by simp only[ar];omega
  rw[e1,d]
theorem lX{b:Int}{tb:Nat->Int}{i:Nat}{n:Int}{r:er}(h:gQ b tb i n r=0):ir r=0/\kh r.delta n=0/\i<64/\b+(i:Int)<2147483647/\tb (2*r.who.toNat)<r.seq:=by
 unfold gQ at h
 by_cases h1:ir r≠0
 ·rw[ab h1] at h;exact absurd h h1
 rw[aa h1] at h
 by_cases h2:r.seq<=tb (2*r.who.toNat)
 ·rw[ab h2] at h;exact absurd h qD
 rw[aa h2] at h
 by_cases h3:64<=(i:Int)\/2147483647<=b+i
 ·rw[ab h3] at h;exact absurd h qD
 rw[aa h3] at h;exact⟨aK h1,h,qW,qW,qW⟩
theorem lC{b:Int}:∀(l:List er)(tb:Nat->Int)(i:Nat)(now:BS),fN b tb i now l->∀r∈l,ir r=0
 |[],_,_,_,_,_,h=>by cases h
 |r::l,_,_,_,hc,q,hq=>by
  rcases ah.1 hq with rfl|hq
  ·exact(lX hc.1).1
  ·exact lC l _ _ _ hc.2 q hq
theorem pC{b:Int}:∀(l:List er)(tb:Nat->Int)(i:Nat)(now:BS),fN b tb i now l->l=[]\/i+l.length<=64/\b+((i+l.length:Nat):Int)<=2147483647
 |[],_,_,_,_=>.inl rfl
 |r::l,_,i,_,hc=>by
  have h1:=lX hc.1
  right
  rcases pC l _ _ _ hc.2 with rfl|h
  ·simp only[ar,aL];omega
  ·simp only[ar];omega
theorem uL{b:Int}{tb:Nat->Int}{i:Nat}{now:BS}{r:er}(h:gQ b tb i now.length r=0):(kB r.delta now).2=0:=by
 have:=(lX h).2.1;unfold kB;rw[ab this]
theorem zD{b:Int}:∀(l:List er)(tb:Nat->Int)(i:Nat)(now:BS),fN b tb i now l->(nS now l).2=0/\C4 now l=lW now l
 |[],_,_,now,_=>⟨rfl,rfl⟩
 |r::l,tb,i,now,hc=>by
  obtain⟨h1,h2⟩:=zD l _ _ _ hc.2;have h3:=(lX hc.1).1;have h4:=uL hc.1;have e:(nS now (r::l)).2=0:=by rw[nS,aa (λx=>x h3),aa (λx=>x h4)];exact h1
  refine⟨e,?_⟩;rw[BE e,h2];rfl
theorem wy{b:Int}:∀(l:List er)(tb:Nat->Int)(i:Nat)(now:BS),fN b tb i now l->now.length<=500->(lW now l).length<=500
 |[],_,_,_,_,h=>h
 |r::l,tb,i,now,hc,h=>by
  refine wy l _ _ _ hc.2 ?_;obtain⟨c1,_,c3,_⟩:=EY (uL hc.1);have:=gw c1;have:=Qg c1;omega
theorem I0:∀(l:List er)(now:BS)(k:Nat),(nS now l).2=0->k<=l.length->(now::(nS now l).1).getD k []=lW now (l.take k)
 |_,_,0,_,_=>rfl
 |[],_,k+1,_,h=>absurd h (by simp)
 |r::l,now,k+1,h,hk=>by
  obtain⟨_,_,c3,c4⟩:=zA h;rw[c4,List.getD_cons_succ,cP,lW];exact I0 l _ k c3 (by simpa using hk)
theorem C5{b:Int}{fs:Nat->Int}{tx:BS}{l:List er}(hc:fN b fs 0 tx l)(a:tx.length<=500)(k:Nat)(hk:k<=l.length):jy tx l (k:Int)=(lW tx (l.take k),0):=by
 have hg:=(zD l _ _ _ hc).1;have c:l.length<=64:=by
  rcases pC l _ _ _ hc with rfl|h
  ·simp
  ·omega
 have ht:iO tx l=(tx::(nS tx l).1,0):=by
  unfold iO;rw[aa qW,aa (λx=>x hg)]
 unfold jy;rw[ht];rw[aa (λx=>x rfl),aa qW];simp only[aG];rw[I0 l tx k hg hk]
def fM(r:er):Frame:=⟨2,jc r⟩
def iw:Frame:=⟨3,[]⟩
def js(g b:Int)(tx:BS)(t:Nat->Int):Frame:=⟨1,gx g b tx t⟩
theorem uM{r:er}(h:ir r=0):vG (fM r):=⟨by show(1:Int)<=2;decide,by show(2:Int)<=255;decide,sR h⟩
theorem EZ:vG iw:=⟨qD,qD,qD⟩
theorem E0{g b:Int}{tx:BS}{t:Nat->Int}(h:tx.length<=500):vG (js g b tx t):=⟨by show(1:Int)<=1;decide,by show(1:Int)<=255;decide,rz h⟩
theorem M5{r:er}(h:ir r=0):jV r=(kC (fM r),0):=by
 have:=sR h;unfold jV;rw[aa (λx=>x h)];have e:ij r.who.toNat++ij r.seq.toNat++codeF r.delta=jc r:=rfl;rw[e];unfold jz;rw[aa qW,aa qW];rfl
theorem I1{g b:Int}{tx:BS}{t:Nat->Int}(h:mZ g b tx t):lU g b tx t=(kC (js g b tx t),0):=by
 have:=rz (g:=g) (b:=b) (t:=t) h.tx;have a:=h.tx;unfold lU;rw[ab h.flat,aa qW];have e:jA (jq g b t)++tx=gx g b tx t:=rfl;rw[e];unfold jz;rw[aa qW,aa qW];rfl
theorem xH{r:er}(h:ir r=0):r.Ok/\r.delta.length<=1000000000:=by
 obtain⟨h1,h2,h3⟩:=mY h;have h4:=gw h3;have hm:maxLen=9223372036854775807:=by decide
 refine⟨⟨⟨qW,qW⟩,⟨qW,qW⟩,qW,λp hp=>?_⟩,qW⟩;obtain⟨b1,b2,b3,b4⟩:=gU (h4.2.1 p hp);have hk:p.kind=1\/p.kind=2\/p.kind=3:=by rcases b4 with h|⟨h,_⟩<;>omega
 exact⟨⟨qW,qW⟩,⟨qW,qW⟩,qW⟩
theorem M6:(jz 3 []).1=kC iw:=rfl
def I2:List Frame->hM->BS->Option (hM×BS)
 |[],L,now=>some (L,now)
 |f::fs,L,now=>match oI L now f with
  |none=>none
  |some (a,n2)=>I2 fs a n2
theorem uN:∀(a c:List Frame)(L:hM)(now:BS)(q:hM×BS),I2 a L now=some q->k8 (a++c) L now=k8 c q.1 q.2
 |[],c,L,now,q,h=>by cases h;rfl
 |f::a,c,L,now,q,h=>by
  rw[aD,k8];rw[I2] at h;cases hs:oI L now f with
  |none=>rw[hs] at h;cases h
  |some p=>
   rw[hs] at h;exact uN a c _ _ q h
def hM.kz(L:hM)(l:List er):hM:=⟨L.gen,L.base,L.text,L.first,jr L.table (L.base+(L.gq.length:Int)) l,L.gq++l,L.whole,L.fW+((eF (l.map fM)).length:Int)⟩
theorem E1{L:hM}{now:BS}{r:er}(h:gQ L.base L.table L.gq.length now.length r=0):oI L now (fM r)=some (L.kz [r],(kB r.delta now).1):=by
 have h1:=(lX h).1;obtain⟨e1,a⟩:=EU h1;have hb:(fM r).body=jc r:=rfl;have hk:(fM r).kind=2:=rfl;unfold oI;rw[hk,hb,e1,a];rw[aa qD,ab rfl,ab ⟨rfl,h⟩];have b:((eF ([r].map fM)).length:Int)=((jc r).length:Int)+7:=by
  rw[aI,cX,iH,ae,ku];have:(eF []).length=0:=rfl;rw[this,hb];omega
 unfold hM.kz;rw[b];rfl
theorem zE(L:hM)(r:er)(l:List er):(L.kz [r]).kz l=L.kz (r::l):=by
 unfold hM.kz;simp only[aI,cX,iH,ae,ar,aL,jr];have e1:L.base+((L.gq.length+(0+1):Nat):Int)=L.base+(L.gq.length:Int)+1:=by omega
 have a:L.fW+(((kC (fM r)).length+(eF []).length:Nat):Int)+((eF (l.map fM)).length:Int)=L.fW+(((kC (fM r)).length+(eF (l.map fM)).length:Nat):Int):=by
  have:(eF []).length=0:=rfl;rw[this];omega
 rw[e1,a];simp
theorem BF(L:hM):L.kz []=L:=by
 unfold hM.kz;cases L;simp[jr,eF]
theorem uO:∀(l:List er)(L:hM)(now:BS),fN L.base L.table L.gq.length now l->I2 (l.map fM) L now=some (L.kz l,lW now l)
 |[],L,now,_=>by rw[BF];rfl
 |r::l,L,now,hc=>by
  rw[aI,I2,E1 hc.1];simp only;rw[uO l (L.kz [r]) _ ?_,zE]
  ·rfl
  ·have e:(L.kz [r]).gq.length=L.gq.length+1:=by simp[hM.kz]
   have a:(L.kz [r]).table=iQ L.table r.who.toNat r.seq (L.base+(L.gq.length:Int)+1):=rfl;rw[e,a];exact hc.2
def lY:Option (List er)->List Frame
 |none=>[]
 |some r2=>iw::r2.map fM
def gi(g b:Int)(tx:BS)(t:Nat->Int)(r1:List er)(o:Option (List er)):List Frame:=js g b tx t::(r1.map fM++lY o)
theorem BG{hg hb:BS->Int}{ht:BS->BS}{hf:BS->Nat->Int}{ho:BS->Bool}{B:BS}{g b:Int}{tx:BS}{F:Nat->Int}(h0:ho B=true)(h1:hg B=g)(h2:hb B=b)(h3:ht B=tx)(h4:hf B=F)(fs:List Frame):
  mV hg hb ht hf ho (⟨1,B⟩::fs)=(k8 fs (uC g b tx F ((B.length:Int)+7)) tx,0):=by
 subst h1 h2 h3 h4;show(if(1:Int)≠1\/ho B=false then _ else _)=_;rw[aa];rintro(h|h)
 ·exact h rfl
 ·rw[h0] at h;cases h
theorem BH{L:hM}{now:BS}(h:L.whole=false):oI L now iw=some (⟨L.gen,L.base,L.text,L.first,L.table,L.gq,true,L.fW+7⟩,now):=by
 unfold oI;have hk:iw.kind=3:=rfl;have hb:iw.body=[]:=rfl;rw[hk,hb,ab rfl,aa (by rw[h];simp)];rfl
theorem M7{g b:Int}{tx:BS}{F t1 t2:Nat->Int}{r1 r2:List er}{w:Bool}{n1 n2:Int}(ht:t1=t2)(hr:r1=r2)(hn:n1=n2):(⟨g,b,tx,F,t1,r1,w,n1⟩:hM)=⟨g,b,tx,F,t2,r2,w,n2⟩:=by
 subst ht hr hn;rfl
theorem ny{g b:Int}{tx:BS}{t:Nat->Int}(h:mZ g b tx t){r1:List er}{o:Option (List er)}(hc:fN b t 0 tx (r1++o.getD [])):
  ∃F,td F t/\gS (gi g b tx t r1 o)=(⟨g,b,tx,F,jr F b (r1++o.getD []),r1++o.getD [],o.isSome,((eF (gi g b tx t r1 o)).length:Int)⟩,0):=by
 obtain⟨h1,h2,h3,h4,h5⟩:=EV h;have d:gS (gi g b tx t r1 o)=mV (λx=>iX x 0) (λx=>iX x 1) (λx=>(nK x 18).1) (λx j=>iX x (j+2)) mI (js g b tx t::(r1.map fM++lY o)):=rfl;have e1:=BG (hg:=λx=>iX x 0) (hb:=λx=>iX x 1) (ht:=λx=>(nK x 18).1) (hf:=λx j=>iX x (j+2)) (F:=λj=>iX (gx g b tx t) (j+2)) h1 h2 h3 h4 rfl (r1.map fM++lY o);refine⟨λj=>iX (gx g b tx t) (j+2),h5,?_⟩;have hF:td (λj=>iX (gx g b tx t) (j+2)) t:=h5;rw[d];refine Eq.trans e1 ?_;clear d e1 h1 h2 h3 h4 h5
 generalize(λj=>iX (gx g b tx t) (j+2))=F at hF⊢
 obtain⟨c1,f⟩:=(lB r1 (o.getD []) t 0 tx).1 hc;have a:=uO r1 (uC g b tx F (((gx g b tx t).length:Int)+7)) tx (pB r1 t F 0 tx hF.symm c1);rw[uN _ _ _ _ _ a];have hl:((eF (gi g b tx t r1 o)).length:Int)=((gx g b tx t).length:Int)+7+((eF (r1.map fM)).length:Int)+((eF (lY o)).length:Int):=by
  unfold gi;rw[iH,pA,ae,ae,ku];have:(js g b tx t).body=gx g b tx t:=rfl;rw[this];omega
 rw[hl];cases o with
 |none=>
  have ht:(eF (lY none)).length=0:=rfl;rw[ht];simp[lY,k8,hM.kz,uC]
 |some r2=>
  have hd:(eF (lY (some r2))).length=7+(eF (r2.map fM)).length:=by
   show(eF (iw::r2.map fM)).length=_;rw[iH,ae,ku];rfl
  rw[hd];have i:∀(L:hM)(now:BS),L.whole=false->k8 (lY (some r2)) L now=k8 (r2.map fM) ⟨L.gen,L.base,L.text,L.first,L.table,L.gq,true,L.fW+7⟩ now:=by
   intro L now hw;show k8 (iw::r2.map fM) L now=_;rw[k8,BH hw]
  rw[i _ _ rfl];have c3:=pB r2 _ _ _ _ (zB r1 t F (b+((0:Nat):Int)) hF.symm) f;rw[aW] at c3;have c:=uO r2 ⟨g,b,tx,F,jr F (b+((0:Nat):Int)) r1,[]++r1,true,((gx g b tx t).length:Int)+7+((eF (r1.map fM)).length:Int)+7⟩ (lW tx r1) c3;have e:=uN _ [] _ _ _ c;rw[bg] at e;show(k8 (r2.map fM) ⟨g,b,tx,F,jr F (b+((0:Nat):Int)) r1,[]++r1,true,((gx g b tx t).length:Int)+7+((eF (r1.map fM)).length:Int)+7⟩ (lW tx r1),(0:Int))=_;rw[e];have k:jr F b (r1++r2)=jr (jr F (b+((0:Nat):Int)) r1) (b+(r1.length:Int)) r2:=by rw[rA,Int.natCast_zero,fo]
  refine ay (λx=>(x,(0:Int))) ?_;refine M7 k.symm rfl ?_;show((gx g b tx t).length:Int)+7+((eF (r1.map fM)).length:Int)+7+((eF (r2.map fM)).length:Int)=_;omega
theorem qh(g b:Int)(tx:BS)(t:Nat->Int)(r1 r2:List er)(j:Nat):(gi g b tx t r1 (some r2)).take (r1.length+2+j)=gi g b tx t r1 (some (r2.take j)):=by
 have e:r1.length+2+j=((r1.length+1)+j)+1:=by omega
 rw[e];show js g b tx t::(r1.map fM++iw::r2.map fM).take (r1.length+1+j)=_;have a:(r1.map fM++iw::r2.map fM).take (r1.length+1+j)=r1.map fM++iw::(r2.take j).map fM:=by
  have c:r1.length+1+j=(r1.map fM).length+(j+1):=by rw[aH];omega
  rw[c,db,cP,fE]
 rw[a];rfl
theorem oP(g b:Int)(tx:BS)(t:Nat->Int)(r1:List er)(o:Option (List er)):(gi g b tx t r1 o).length=r1.length+1+(match o with|none=>0|some r2=>r2.length+1):=by
 cases o<;>simp[gi,lY]
 omega
theorem E2(g b:Int)(tx:BS)(t:Nat->Int)(r1:List er)(o:Option (List er))(k:Nat)(hk:k<=(gi g b tx t r1 o).length):
  k=0\/(∃j,j<=r1.length/\k=j+1/\(gi g b tx t r1 o).take k=gi g b tx t (r1.take j) none)\/(∃r2 j,o=some r2/\j<=r2.length/\k=r1.length+2+j/\(gi g b tx t r1 o).take k=gi g b tx t r1 (some (r2.take j))):=by
 cases k with
 |zero=>exact .inl rfl
 |succ k=>
  right
  have e:(gi g b tx t r1 o).take (k+1)=js g b tx t::(r1.map fM++lY o).take k:=rfl
  by_cases hk2:k<=r1.length
  ·left
   refine⟨k,hk2,rfl,?_⟩;rw[e,cW (by rw[aH];exact hk2),<-fE];simp[gi,lY]
  ·right
   cases o with
   |none=>rw[oP] at hk;simp only at hk;omega
   |some r2=>
    rw[oP] at hk;simp only at hk;refine⟨r2,k+1-(r1.length+2),rfl,qW,qW,?_⟩;have:=qh g b tx t r1 r2 (k+1-(r1.length+2));rw[<-this]
    congr 1
    omega
theorem xI{g b:Int}{tx:BS}{t:Nat->Int}(h:tx.length<=500){r1:List er}{o:Option (List er)}(hc:∀r∈r1++o.getD [],ir r=0):∀f∈gi g b tx t r1 o,vG f:=by
 intro f hf;unfold gi at hf
 rcases ah.1 hf with rfl|hf
 ·exact E0 h
 ·rcases bj.1 hf with hf|hf
  ·obtain⟨r,hr,rfl⟩:=aM.1 hf;exact uM (hc r (dZ _ hr))
  ·cases o with
   |none=>cases hf
   |some r2=>
    rcases ah.1 hf with rfl|hf
    ·exact EZ
    ·obtain⟨r,hr,rfl⟩:=aM.1 hf;exact uM (hc r (bX _ hr))
theorem su{g b:Int}{tx:BS}{t:Nat->Int}(h:mZ g b tx t){r1:List er}{o:Option (List er)}(hc:fN b t 0 tx (r1++o.getD []))(n:Nat):
  (fR ((eF (gi g b tx t r1 o)).take n)).1=[]\/(∃j,j<=r1.length/\(fR ((eF (gi g b tx t r1 o)).take n)).1=gi g b tx t (r1.take j) none)\/
  (∃r2 j,o=some r2/\j<=r2.length/\(fR ((eF (gi g b tx t r1 o)).take n)).1=gi g b tx t r1 (some (r2.take j))/\(eF (gi g b tx t r1 (some (r2.take j)))).length<=n):=by
 obtain⟨k,k1,a,e,f⟩:=uK (gi g b tx t r1 o) (xI h.tx (lC _ _ _ _ hc)) n
 rcases E2 g b tx t r1 o k k1 with rfl|⟨j,c,rfl,d⟩|⟨r2,j,rfl,c,rfl,d⟩
 ·left;rw[a];rfl
 ·right;left;exact⟨j,c,by rw[a,d]⟩
 ·right;right
  rw[d] at a e;exact⟨r2,j,rfl,c,a,e⟩
theorem wz{g b:Int}{tx:BS}{t:Nat->Int}(h:mZ g b tx t){r1 r2:List er}(hc:fN b t 0 tx (r1++r2))(n a:Nat)(hj:a<=r2.length)(hn:(eF (gi g b tx t r1 (some (r2.take a)))).length<=n):
  ∃j,a<=j/\j<=r2.length/\(fR ((eF (gi g b tx t r1 (some r2))).take n)).1=gi g b tx t r1 (some (r2.take j))/\(eF (gi g b tx t r1 (some (r2.take j)))).length<=n:=by
 obtain⟨k,k1,c,d,f⟩:=uK (gi g b tx t r1 (some r2)) (xI h.tx (o:=some r2) (lC _ _ _ _ hc)) n;have hk:=f (r1.length+2+a) (by rw[oP];simp only;omega) (by rw[qh];exact hn);have e:=qh g b tx t r1 r2 (k-(r1.length+2));rw[show r1.length+2+(k-(r1.length+2))=k by omega] at e;rw[oP] at k1;simp only at k1;refine⟨k-(r1.length+2),qW,qW,by rw[c,e],by rw[<-e];exact d⟩
theorem zF{g b:Int}{tx:BS}{t:Nat->Int}{r1 r2:List er}(j:Nat)(hj:j<=r2.length):(eF (gi g b tx t r1 (some r2))).take (eF (gi g b tx t r1 (some (r2.take j)))).length=eF (gi g b tx t r1 (some (r2.take j))):=by
 have e:gi g b tx t r1 (some r2)=gi g b tx t r1 (some (r2.take j))++(r2.drop j).map fM:=by
  show js g b tx t::(r1.map fM++iw::r2.map fM)=(js g b tx t::(r1.map fM++iw::(r2.take j).map fM))++(r2.drop j).map fM;rw[aD,aU,aD,<-cj,bF]
 rw[e,pA];exact eQ
structure Mv where
 f:Int
 c:Int
 w:Bool
def jd(km bm:Nat):Option Mv->V
 |none=>.nil
 |some _=>.ptr km (some bm) 3 0 0
def gu(bm:Nat):Option Mv->Ob
 |none=>⟨none,131,3,[]⟩
 |some m=>⟨some bm,131,3,[[.int .i64 m.f,.int .i64 m.c,.bool m.w]]⟩
theorem sw(km bm:Nat)(m:Option Mv):Fz (jd km bm m):=by cases m<;>first|exact .nil|exact .ptr _ _ _ _ _
theorem M8(km bm:Nat)(m:Option Mv):V.one (jd km bm m)=true:=by cases m<;>rfl
theorem M9(km bm:Nat)(m:Option Mv):MM (jd km bm m)=true:=by cases m<;>rfl
theorem xJ(km bm:Nat)(m:Option Mv):MQ (jd km bm m):=⟨⟨sw _ _ _,M8 _ _ _⟩,M9 _ _ _⟩
theorem xK(km bm:Nat)(m:Option Mv)(g:Nat->Nat):(jd km bm m).rl g=jd (g km) bm m:=by cases m<;>rfl
theorem uP(bm:Nat)(m:Option Mv)(g:Nat->Nat):(gu bm m).gy g=gu bm m:=by cases m<;>rfl
theorem tz(bm:Nat)(m:Option Mv):(gu bm m).Fz:=by
 intro r hr v hv;cases m with
 |none=>cases hr
 |some m=>
  simp only[gu,ag] at hr;subst hr;simp only[ah,aq,aQ] at hv
  rcases hv with rfl|rfl|rfl
  ·exact .int _ _
  ·exact .int _ _
  ·exact .bool _
def S3(bl:Nat)(d:SC)(ba:Option Nat)(n:Nat)(rows:List (List V))(bm:Nat)(m:Option Mv):List (Nat×Ob):=[(0,eO bl (eM d (.own 1000001 ba 3 n) (jd 1 bm m))),(1000001,il ba rows),(1,gu bm m)]
theorem I3{bl:Nat}{d:SC}{ba:Option Nat}{n:Nat}{l:List er}{bm:Nat}{m:Option Mv}:∀p∈S3 bl d ba n (l.map bd) bm m,p.2.Fz:=by
 intro p hp;simp only[S3,ah,aq,aQ] at hp
 rcases hp with rfl|rfl|rfl
 ·exact iB (.own _ _ _ _) (sw _ _ _) bl
 ·exact gR _
 ·exact tz _ _
structure N3(k ka km:Nat):Prop where
 a:Nat.beq k ka=false
 b:Nat.beq k km=false
 c:Nat.beq ka km=false
theorem N3.ne{k ka km:Nat}(h:N3 k ka km):k≠ka/\k≠km/\ka≠km:=by
 refine⟨λe=>?_,λe=>?_,λe=>?_⟩<;>subst e
 ·have:=h.a;rw[bY] at this;cases this
 ·have:=h.b;rw[bY] at this;cases this
 ·have:=h.c;rw[bY] at this;cases this
theorem BI{f k ka km bl bm:Nat}{rest:List V}{d:SC}{ba:Option Nat}{n:Nat}{l:List er}{m:Option Mv}{post:V->SC->List er->Option Mv->Prop}(hs:Spec Tryz.prog f (.ptr 0 (some bl) 47 0 0::rest) (a8 (S3 bl d ba n (l.map bd) bm m)) λx h'=>∃L',(∃a b d' l' m',post x d' l' m'/\L'=S3 bl d' a l'.length (l'.map bd) b m')/\h'=a8 L')
  (c:∀h m,lG h m rest rest)(hv:∀x d' l' m' g,post x d' l' m'->x.gy g=x)(hN:N3 k ka km){h:Hp}{K:V->Hp->Prop}(hk:h k=some (eO bl (eM d (.own ka ba 3 n) (jd km bm m))))(i:h ka=some (il ba (l.map bd)))(j:h km=some (gu bm m))
  (hK:∀x a b d' l' m',post x d' l' m'->K x (h.jl [(k,eO bl (eM d' (.own ka a 3 l'.length) (jd km b m'))),(ka,il a (l'.map bd)),(km,gu b m')])):dF Tryz.prog f (.ptr k (some bl) 47 0 0::rest) h K:=by
 obtain⟨n1,n2,n3⟩:=hN.ne;have o:¬ka=k:=λe=>n1 e.symm;have q:¬km=k:=λe=>n2 e.symm;have r:¬km=ka:=λe=>n3 e.symm;have s:gP [(0,k),(1000001,ka),(1,km)] k=0:=by simp[gP]
 have b1:gP [(0,k),(1000001,ka),(1,km)] ka=1000001:=by simp[gP,o]
 have b2:gP [(0,k),(1000001,ka),(1,km)] km=1:=by simp[gP,q,r]
 have l0:gD [(0,k),(1000001,ka),(1,km)] 0=k:=by simp[gD]
 have l1:gD [(0,k),(1000001,ka),(1,km)] 1000001=ka:=by simp[gD]
 have l2:gD [(0,k),(1000001,ka),(1,km)] 1=km:=by simp[gD]
 refine uH [(0,k),(1000001,ka),(1,km)] hs (.cons ?_ (c h _)) (by simp) (by simp[n1,n2,n3]) (by simp) (λp hp=>?_) (λp hp=>?_) ?_ ?_
 ·have:=Arg.same (h:=h) (m:=[(0,k),(1000001,ka),(1,km)]) (.ptr k (some bl) 47 0 0);simpa[V.gy,V.rl,s] using this
 ·simp only[S3,ah,aq,aQ] at hp
  rcases hp with rfl|rfl|rfl<;>simp
 ·simp only[S3,ah,aq,aQ] at hp
  rcases hp with rfl|rfl|rfl
  ·refine⟨?_,iB (.own _ _ _ _) (sw _ _ _) bl⟩;show(h (gD _ 0)).map _=_;rw[l0,hk,aJ,iA,xK,b2];show some (eO bl (eM d (.own (gP _ ka) ba 3 n) _))=_;rw[b1]
  ·refine⟨?_,gR _⟩;show(h (gD _ 1000001)).map _=_;rw[l1,i,aJ,kp]
  ·refine⟨?_,tz _ _⟩;show(h (gD _ 1)).map _=_;rw[l2,j,aJ,uP]
 ·rintro v L' ⟨a,b,d',l',m',_,rfl⟩;rfl
 ·rintro v L' ⟨a,b,d',l',m',hp,rfl⟩;rw[hv v d' l' m' _ hp];have e:mX [(0,k),(1000001,ka),(1,km)] (Ob.gy (gD [(0,k),(1000001,ka),(1,km)])) (S3 bl d' a l'.length (l'.map bd) b m')=[(k,eO bl (eM d' (.own ka a 3 l'.length) (jd km b m'))),(ka,il a (l'.map bd)),(km,gu b m')]:=by
   simp only[mX,S3,cZ,dR,iA,kp,uP,xK,l2];show[(k,eO bl (eM d' (.own (gD _ 1000001) a 3 l'.length) _)),_,_]=_;rw[l1]
  rw[e];exact hK v a b d' l' m' hp
def pN(d:SC):Option Mv->SC
 |none=>d
 |some m=>if m.w=true then mJ d (1-d.at') else d
def iI(d:SC)(n:Nat)(m:Option Mv):SC:= {mJ (pN d m) (pN d m).at' with sf:=d.b+(n:Int)}
def zG:AC:=.seq (qr [qm 2 0,qn 3 2,qf 4 45 3,ql 5 4,qo 6 (.eqp true (.t 5) (.c (.pointer none))),qm 7 6,qg 8 7 true (.mov (.t 0)),qg 9 7 true (.nilchk (.t 8)),qg 10 7 true (.faddr 45 (.t 9)),qg 11 7 true (.load1 (.t 10)),qg 12 7 true (.nilchk (.t 11)),qg 13 7 true (.faddr 2 (.t 12)),qg 14 7 true (.load1 (.t 13)),qo 15 (.pick (.t 7) (.t 14) (.c (.bool false)))] (qu 15 (qR [qm 16 0,qm 17 0,qn 18 17,qf 19 4 18,ql 20 19,qo 21 (.bin .sub (qk 1) (.t 20)),qa 22 44 [.t 16,.t 21]]) .skip)) (qr [qm 23 0,qm 24 0,qn 25 24,qf 26 4 25,ql 27 26,qa 28 44 [.t 23,.t 27]] (qR [qm 29 0,qm 30 0,qa 31 71 [.t 30],qn 32 29,qf 33 44 32,qs 1 33 31]))
theorem I4:fF Tryz.prog 161 Tryz.f161 zG [] 1 dS:=⟨Tryz.func161,by decide+kernel,by kernel_rfl,by kernel_rfl,by decide+kernel⟩
theorem I5(P:Prim)(hP:P=cp)(T l:cm)(g:CS T)(h:nw T)(bl:Nat)(d:SC)(ba:Option Nat)(n:Nat)(rows:List (List V))(bm:Nat)(m:Option Mv)(hb:0<=d.b/\d.b<=4294967295)(i:n<=1000)(hat:d.at'=0\/d.at'=1)
  (R:S->Prop)(k:∀(s s':S)(d':SC),d'=iI d n m->cd s s'->ia [] [] s'->eP (S3 bl d' ba n rows bm m) s'->R s):gE P T l zG (S0 [.ptr 0 (some bl) 47 0 0] (a8 (S3 bl d ba n rows bm m))) R (λ_ _=>False) R:=by
 have m1:P.i64 (P.sub 1 d.at'):=by rw[sub_eq hP];exact fm hP qW
 have m2:P.sub 1 d.at'=1-d.at':=sub_eq hP _ _;obtain _|⟨f,c,w⟩:=m
 ·cbv
  repeat' first|(refine qA ?_;cbv)|(intro a;cbv)
  refine g 0 bl d (.own 1000001 ba 3 n) .nil _ _ _ ⟨⟨.own _ _ _ _,rfl⟩,.nil,rfl⟩ rfl rfl rfl λd2 e=>?_;have hb2:d2.b=d.b:=by rw[e];rfl
  cbv
  repeat' first|(refine qA ?_;cbv)|(intro a;cbv)
  refine h 0 bl d2 1000001 ba n .nil _ _ (by rw[hb2];omega) i ⟨.nil,rfl⟩ rfl rfl rfl λq hq=>?_;rw[hb2] at hq;cbv
  repeat' first|(refine qA ?_;cbv)|(intro a;cbv)
  exact k _ _ {d2 with sf:=q} (by rw[e,hq];rfl) (cd.refl _) rfl ⟨rfl,rfl,rfl,trivial⟩
 ·cbv
  repeat' first|(refine qA ?_;cbv)|(intro a;cbv)
  cases w
  ·cbv
   repeat' first|(refine qA ?_;cbv)|(intro a;cbv)
   refine g 0 bl d (.own 1000001 ba 3 n) (.ptr 1 (some bm) 3 0 0) _ _ _ ⟨⟨.own _ _ _ _,rfl⟩,.ptr _ _ _ _ _,rfl⟩ rfl rfl rfl λd2 e=>?_;have hb2:d2.b=d.b:=by rw[e];rfl
   cbv
   repeat' first|(refine qA ?_;cbv)|(intro a;cbv)
   refine h 0 bl d2 1000001 ba n (.ptr 1 (some bm) 3 0 0) _ _ (by rw[hb2];omega) i ⟨.ptr _ _ _ _ _,rfl⟩ rfl rfl rfl λq hq=>?_;rw[hb2] at hq;cbv
   repeat' first|(refine qA ?_;cbv)|(intro a;cbv)
   exact k _ _ {d2 with sf:=q} (by rw[e,hq];rfl) (cd.refl _) rfl ⟨rfl,rfl,rfl,trivial⟩
  ·cbv
   repeat' first|(refine qA ?_;cbv)|(intro a;cbv)
   refine g 0 bl d (.own 1000001 ba 3 n) (.ptr 1 (some bm) 3 0 0) _ _ _ ⟨⟨.own _ _ _ _,rfl⟩,.ptr _ _ _ _ _,rfl⟩ rfl rfl rfl λd1 j=>?_;rw[m2] at j;have hb1:d1.b=d.b:=by rw[j];rfl
   cbv
   repeat' first|(refine qA ?_;cbv)|(intro a;cbv)
   refine g 0 bl d1 (.own 1000001 ba 3 n) (.ptr 1 (some bm) 3 0 0) _ _ _ ⟨⟨.own _ _ _ _,rfl⟩,.ptr _ _ _ _ _,rfl⟩ rfl rfl rfl λd2 e=>?_;have hb2:d2.b=d.b:=by rw[e,<-hb1];rfl
   cbv
   repeat' first|(refine qA ?_;cbv)|(intro a;cbv)
   refine h 0 bl d2 1000001 ba n (.ptr 1 (some bm) 3 0 0) _ _ (by rw[hb2];omega) i ⟨.ptr _ _ _ _ _,rfl⟩ rfl rfl rfl λq hq=>?_;rw[hb2] at hq;cbv
   repeat' first|(refine qA ?_;cbv)|(intro a;cbv)
   exact k _ _ {d2 with sf:=q} (by rw[e,hq,j];rfl) (cd.refl _) rfl ⟨rfl,rfl,rfl,trivial⟩
theorem I6(bl:Nat)(d:SC)(ba:Option Nat)(l:List er)(bm:Nat)(m:Option Mv)(hb:0<=d.b/\d.b<=4294967295)(e:l.length<=1000)(hat:d.at'=0\/d.at'=1):Spec Tryz.prog 161 [.ptr 0 (some bl) 47 0 0] (a8 (S3 bl d ba l.length (l.map bd) bm m))
  λx h'=>∃L',(∃a c d' l' m',(x=.tup []/\d'=iI d l.length m/\l'=l/\m'=m)/\L'=S3 bl d' a l'.length (l'.map bd) c m')/\h'=a8 L':=
 dE hW I4 (L:=S3 bl d ba l.length (l.map bd) bm m) (λx L'=>∃a c d' l' m',(x=.tup []/\d'=iI d l.length m/\l'=l/\m'=m)/\L'=S3 bl d' a l'.length (l'.map bd) c m') λR f=>
  I5 cp rfl _ _ H9 oJ bl d ba l.length (l.map bd) bm m hb e hat R λs s' d' hd he hr ha=>f s s' _ _ he (da _ _ _ (λx hx=>by rw[hx];rfl) hr) ha (.tup _ (λv hv=>by cases hv)) I3 ⟨ba,bm,d',l,m,⟨rfl,hd,rfl,rfl⟩,rfl⟩
theorem fT.rB{C:Ctx}{F:Nat->Prop}{h:Hp}{w:World}(hs:fT C F h w)(k ty sz:Nat):fT C F (Hp.put h k ⟨none,ty,sz,[]⟩) w:=by
 have look:∀j q,Hp.put h k ⟨none,ty,sz,[]⟩ j=some q->q=⟨none,ty,sz,[]⟩\/h j=some q:=by
  intro j q hj;simp only[Hp.put] at hj
  by_cases h1:j=k
  ·rw[ab h1] at hj;cases hj;exact .inl rfl
  ·rw[aa h1] at hj;exact .inr hj
 refine⟨λj q hj=>?_,λj d q e b hj a hb c=>?_,λj q b hj hb=>?_,hs.jE,hs.new,hs.lt,hs.ev⟩
 ·rcases look j q hj with rfl|hj
  ·exact(show fe F C.B w ⟨none,ty,sz,[]⟩ from rfl)
  ·exact hs.ob j q hj
 ·rcases look j q hj with rfl|hj
  ·cases hb
  ·rcases look d e a with rfl|a
   ·cases c
   ·exact hs.inj j d q e b hj a hb c
 ·rcases look j q hj with rfl|hj
  ·cases hb
  ·exact hs.live j q b hj hb
theorem iY.rB(h:Hp)(k ty sz:Nat):iY h (Hp.put h k ⟨none,ty,sz,[]⟩):=λ_ F _ _ hs=>⟨F,λ_ h=>h,hs.rB k ty sz⟩
theorem cd.rB(s:S)(k ty sz:Nat):cd s ⟨s.t,Hp.put s.h k ⟨none,ty,sz,[]⟩⟩:=λC n a w hC hs=>by
 obtain⟨F,h1,h2⟩:=hs.ex;exact⟨⟨F,h1.rB k ty sz,h2⟩,hs.df,hs.sz⟩
def pT(l:hM)(v:V)(e:Int):V:=.tup [.agg (nQ l.gen l.base l.text l.first l.table v l.whole l.fW),.int .i64 e]
def I7(T:cm):Prop:=∀(a:Nat)(s:BS)(h:Hp)(K:V->Hp->Prop),s.length<=1048576->h a=none->(∀(l:hM)(e:Int)(ba:Option Nat)(n:Nat)(rows:List (List V)),(l,e)=gS (fR s).1->n=l.gq.length->rows=l.gq.map bd->(e=0->K (pT l (.own a ba 3 n) e) (Hp.put h a (il ba rows)))/\
 (e≠0->K (pT l .nilsl e) h)/\(e≠0->K (pT l (.own a ba 3 n) e) h))->T 207 [.str s] h K
theorem Qh:I7 (dF Tryz.prog):=by
 intro a s h K hs hk hK;have hl:gD [(1000999,a)] 1000999=a:=by simp[gD]
 have hb:gP [(1000999,a)] a=1000999:=by simp[gP]
 refine oe (m:=[(1000999,a)]) (EN s hs) (fX rfl) (λj o hj=>by cases hj) (λq hq=>?_) ?_
 ·rw[ag.1 hq];exact⟨hl,hb,λo ho=>by cases ho⟩
 ·have b:h.jh [(1000999,a)] (a8 [])=h:=by
   funext i
   simp only[Hp.jh,bZ,cE,cw,bM]
   by_cases hi:a=i
   ·rw[ab hi,<-hi,hk];rfl
   ·rw[aa hi]
  generalize c:gS (fR s).1=q at*
  obtain⟨l,e⟩:=q;have rl:∀v g,(pT l v e).gy g=pT l (v.rl g) e:=λv g=>rfl;rintro x L' (⟨he,ba,rfl,rfl⟩|⟨he,rfl,rfl⟩|⟨he,ba,rfl,rfl⟩)
  ·have e1:h.jh [(1000999,a)] (a8 [(1000999,il ba (l.gq.map bd))])=Hp.put h a (il ba (l.gq.map bd)):=by
    funext i
    simp only[Hp.jh,Hp.put,bZ,cE,cw,bM]
    by_cases hi:a=i
    ·rw[ab hi,ab hi.symm,<-hi,hb];show(some (il ba (l.gq.map bd))).map (Ob.gy (gD [(1000999,a)]))=_;rw[aJ,kp]
    ·rw[aa hi,aa λe=>hi e.symm]
   rw[e1];show K ((pT l (.own 1000999 ba 3 l.gq.length) e).gy _) _;rw[rl];show K (pT l (.own (gD [(1000999,a)] 1000999) ba 3 l.gq.length) e) _;rw[hl];exact(hK l e ba _ _ rfl rfl rfl).1 he
  ·rw[b];show K ((pT l .nilsl e).gy _) _;rw[rl];exact(hK l e none _ _ rfl rfl rfl).2.1 he
  ·rw[b];show K ((pT l (.own 1000999 ba 3 l.gq.length) e).gy _) _;rw[rl];show K (pT l (.own (gD [(1000999,a)] 1000999) ba 3 l.gq.length) e) _;rw[hl];exact(hK l e ba _ _ rfl rfl rfl).2.2 he
def fb(d:SC)(i:Int):BS:=if i=0 then d.x1 else d.x3
structure nz(d:SC)(l:List er):Prop where
 at':d.at'=0\/d.at'=1
 b:0<=d.b/\d.b<=2147483647
 gn:0<=d.gn/\d.gn<=4294967295
 len:l.length<=64
 rv:mw l
 who:∀r∈l,0<=r.who/\r.who<=7
 dl:∀r∈l,r.delta.length<=1000000000
end Go.Proofs.YtajdadcdcpnedaaGreatDoor.AM
