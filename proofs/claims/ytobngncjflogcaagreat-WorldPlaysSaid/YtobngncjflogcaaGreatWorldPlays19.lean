/-
  Part 19 of what the law WorldPlays reaches: the plain machine, contracts of the functions and plain laws; each lemma says its own condition.
-/
import Derived.Test.YtobngncjflogcaaGreatWorldPlays18
import Derived.Test.YtobngncjflogcaaGreatWorldPlays12
import Derived.Test.YtobngncjflogcaaGreatWorldPlays15
set_option linter.unusedVariables false
set_option linter.unusedSimpArgs false
namespace Go.Proofs.YtobngncjflogcaaGreat.AM
open Go Go.RowKit
set_option maxRecDepth 100000
set_option maxHeartbeats 2000000
structure CF(c:Client):Prop where
 who:0<=c.who/\c.who<=7
 rev:0<=c.rev/\c.rev<=2147483647
 seq:0<=c.seq/\c.seq<=2147483647
 tx:c.text.length<=500
 wf:c.waiting=true->c.eT=true
 fs:c.eT=false->c.eZ=[]
 wh:c.waiting=false->c.held=[]
 hs:c.eT=true->cF c.eZ=0/\fi (cm c.eZ)=if c.waiting then fH (cm c.held) else c.text.length
 hh:c.waiting=true->cF c.held=0/\fi (cm c.held)=c.text.length
theorem tq{d:List Part}(h:cF d=0):lO d=((fH (cm d):Int),(fi (cm d):Int),0):=by
 unfold lO;rw[ae h,tQ h,qC h]
theorem DR{c:Client}(h:jA c=0):CF c:=by
 obtain⟨a1,a2,a3,a4,a5⟩:=uE h;obtain⟨h1,h2,h3,h4,h5⟩:=sy h;unfold kj at h1;unfold ji at h3;have a:c.waiting=true->c.eT=true:=by
  intro hw;cases hf:c.eT with
  |true=>rfl
  |false=>exact absurd (.inr (.inr ⟨hw,hf⟩)) h3
 refine⟨qW,qW,qW,a5,a,a2,a4,λhf=>⟨a1 hf,?_⟩,λhw=>⟨a3 hw,?_⟩⟩
 ·have:=(h5 hf).2;rw[tq (a1 hf)] at this;cases hw:c.waiting with
  |true=>rw[hw,tq (a3 hw)] at this;simp at this⊢;omega
  |false=>rw[hw] at this;simp at this⊢;omega
 ·have:=(h4 hw).2;rw[tq (a3 hw)] at this;simp at this;omega
theorem sF{c:Client}(h:CF c):jA c=0:=by
 obtain⟨h1,h2,h3,h4,h5,h6,h7,h8,h9⟩:=h;unfold jA Fq;rw[aa (by unfold kj;omega),aa qW,aa]
 ·by_cases hw:c.waiting=true
  ·have hf:=h5 hw;obtain⟨g1,g2⟩:=h8 hf;obtain⟨g3,g4⟩:=h9 hw;rw[ae hw] at g2;rw[tq g1,tq g3,aa (λg=>g.2 rfl),aa (λg=>g.2 (by simp;omega)),aa (λg=>g.2 rfl),aa];rintro⟨_,g⟩;rw[ae hw] at g;simp at g;omega
  ·rw[aa (λg=>hw g.1),aa (λg=>hw g.1)]
   by_cases hf:c.eT=true
   ·obtain⟨g1,g2⟩:=h8 hf;rw[aa hw] at g2;rw[tq g1,aa (λg=>g.2 rfl),aa];rintro⟨_,g⟩;rw[aa hw] at g;simp at g;omega
   ·rw[aa (λg=>hf g.1),aa (λg=>hf g.1)]
 ·unfold ji;rintro(⟨g1,g2⟩|⟨g1,g2⟩|⟨g1,g2⟩)
  ·rw[h6 g1] at g2;simp at g2
  ·rw[h7 g1] at g2;simp at g2
  ·rw[h5 g1] at g2;cases g2
theorem yA{d:List Part}{s:BS}(h:cF d=0)(hi:fH (cm d)=s.length):(gP d s).2=0/\(gP d s).1.length=fi (cm d)/\fi (cm d)<=500:=by
 have h1:=tQ h;have h2:=qC h;have h3:=dv h;have hf:gO d s.length=0:=by
  unfold gO;rw[aa (λg=>g h),aa qW]
 unfold gP;rw[ae hf];exact⟨rfl,uk _ _ hi.symm,qW⟩
def Oi(c:Client):Nat:=if c.eT then fH (cm c.eZ) else c.text.length
def yL(c:Client):Nat:=pc c.eZ+pc c.held
def il(c:Client):od:=⟨c.rev,c.who,c.seq,c.eZ⟩
def Su(c:Client):Int:=if c.waiting then 1 else 0
inductive V8(l:List eX)(i:Nat)(c:Client)(u:List od)(r:Nat):Prop
 |none (hu:u=[]) (hn:KA i (l.drop r))
 |Ch (m:od) (b:Nat) (hf:c.eT=true) (hu:u=[m]) (hn:KA i (l.drop r)) (hw:m.who=(i:Int)) (hs:m.seq=c.seq) (hb:m.base=(b:Int)) (Pv:b<=r) (hc:cF m.delta=0) (hx:fS m.delta ((l.take r).drop b)=(c.eZ,0))
 |there (pre:List eX) (q:eX) (post:List eX) (hf:c.eT=true) (hu:u=[]) (hl:l.drop r=pre++q::post) (h1:KA i pre) (h2:KA i post) (hw:q.who=(i:Int)) (hs:q.seq=c.seq) (hx:fS c.eZ pre=(q.delta,0))
structure CI(l:List eX)(ed:Int)(acc i:Nat)(c:Client)(u:List od)(r:Nat):Prop where
 who:c.who=(i:Int)
 ck:jA c=0
 rev:c.rev=(r:Int)
 rl:r<=l.length
 sq:c.seq+Su c<=ed
 len:Oi c=(lK [] (l.take r)).length
 bt:cb i (l.take r)+yL c<=acc
 st:V8 l i c u r
theorem CI.YG{l:List eX}{ed:Int}{acc i:Nat}{c:Client}{u:List od}{r:Nat}(h:CI l ed acc i c u r):cb i l<=acc:=by
 have hb:=h.bt;have e:cb i l=cb i (l.take r)+cb i (l.drop r):=by rw[<-o4,bL]
 unfold yL at hb;cases h.st with
 |none hu hn=>rw[AT hn] at e;omega
 |Ch m b hf hu hn=>rw[AT hn] at e;omega
 |there pre q post hf hu hl h1 h2 hw hs hx=>
  rw[hl,o4,cb,AT h1,AT h2,ae hw,AS _ _ _ hx] at e;omega
theorem v7{i:Nat}{q:eX}{l:List eX}(h:KA i (q::l)):KA i l:=λx hx=>h x (by simp[hx])
theorem Ci{tb:Nat->Int}{l:List eX}{ed:Int}{acc i:Nat}{c:Client}{u:List od}{r:Nat}{q:eX}(hc:gj 0 tb 0 [] l)(w:l.length<=64)(hq:l[r]? =some q)(h:CI l ed acc i c u r)(hw:q.who≠(i:Int))(o:(lK [] (l.take (r+1))).length+yL c<=500):
  (gR c ⟨c.rev,q.who,q.seq,q.delta⟩).2=0/\CI l ed acc i (gR c ⟨c.rev,q.who,q.seq,q.delta⟩).1 u (r+1)/\(gR c ⟨c.rev,q.who,q.seq,q.delta⟩).1.eT=c.eT:=by
 obtain⟨t1,t2,t3,t4⟩:=vZ hc hq;have hlt:=(ah.1 hq).1;obtain⟨k1,k2,n,_⟩:=pC t1;rw[<-t2] at n;have a:=DR h.ck;have hlen:=h.len;rw[<-k2] at hlen;rw[n] at o;have x:=h.rev;have j:∀c',yL c'=yL c->cb i (l.take (r+1))+yL c'<=acc:=by
  intro c' e;have:=h.bt;rw[t3,o4,e,cb,aa hw];show cb i (l.take r)+(0+0)+yL c<=acc;omega
 have hm:¬(q.who=c.who/\q.seq=c.seq):=λg=>hw (by rw[g.1];exact h.who);have e1:¬c.rev=2147483647:=by omega
 have k:∀c':Client,c'.eT=c.eT->c'.seq=c.seq->(c.eT=true->fS c.eZ [q]=(c'.eZ,0))->V8 l i c' u (r+1):=by
  intro c' y es ex;cases h.st with
  |none hu hn=>rw[t4] at hn;exact .none hu (v7 hn)
  |Ch m b hf hu hn f hs hb Pv t hx=>
   rw[t4] at hn;refine .Ch m b (y.trans hf) hu (v7 hn) f (hs.trans es.symm) hb qW t ?_;rw[t3,bu (by rw[aZ];omega),pK _ _ _ _ hx];exact ex hf
  |there pre q0 post hf hu hl h1 h2 f hs hx=>
   rw[t4] at hl;cases pre with
   |nil=>
    simp only[bO,bB] at hl;rw[hl.1] at hw;exact absurd f hw
   |cons p pre=>
    simp only[ay,bB] at hl;obtain⟨rfl,hl⟩:=hl;refine .there pre q0 post (y.trans hf) hu hl (v7 h1) h2 f (hs.trans es.symm) ?_;have:=pK [q] pre c.eZ _ (ex hf);rw[<-this];exact hx
 by_cases hf:c.eT=true
 ·obtain⟨s1,s2⟩:=a.hs hf;have hi:fH (cm q.delta)=fH (cm c.eZ):=by rw[<-hlen];unfold Oi;rw[ae hf]
  unfold yL at o;obtain⟨m1,m2,z,A,B,C,I,v⟩:=AR k1 s1 hi qW;have mo:=tn (cm (er q.delta c.eZ).2.1);unfold pc at v o;have ex:fS c.eZ [q]=((er q.delta c.eZ).2.1,0):=by
   unfold fS;rw[aa (λg=>g m1)];rfl
  by_cases d:c.waiting=true
  ·obtain⟨g1,g2⟩:=a.hh d;rw[ae d] at s2;obtain⟨n1,n2,D,E,F,G,J,n8⟩:=AR m2 g1 (by rw[A,s2]) (by unfold pc;omega);obtain⟨o1,o2,o3⟩:=yA (s:=c.text) n2 (by rw[E,g2]);have e:gR c ⟨c.rev,q.who,q.seq,q.delta⟩=(⟨c.who,c.rev+1,c.seq,(gP (er (er q.delta c.eZ).1 c.held).1 c.text).1,c.eT,(er q.delta c.eZ).2.1,c.waiting,(er (er q.delta c.eZ).1 c.held).2.1⟩,0):=by
    unfold gR;rw[aa (λg=>g h.ck),aa (λg=>g k1),aa (λg=>g rfl),aa e1,ae hf,aa hm,aa (λg=>g m1),ae d,aa (λg=>g n1),aa (λg=>g o1)]
   rw[e];refine⟨rfl,⟨h.who,sF ⟨a.who,⟨by have:=a.rev;show 0<=c.rev+1;omega,by show c.rev+1<=_;omega⟩,a.seq,by show(gP _ _).1.length<=500;omega,a.wf,λg=>absurd hf (by rw[show c.eT=false from g];decide),λg=>absurd d (by rw[show c.waiting=false from g];decide),λ_=>⟨z,?_⟩,λ_=>⟨D,?_⟩⟩,by show c.rev+1=_;rw[h.rev];rfl,hlt,h.sq,?_,j _ ?_,k _ rfl rfl λ_=>ex⟩,rfl⟩
   ·show fi (cm (er q.delta c.eZ).2.1)=if c.waiting then fH (cm (er (er q.delta c.eZ).1 c.held).2.1) else _;rw[ae d,F,C]
   ·show fi (cm (er (er q.delta c.eZ).1 c.held).2.1)=(gP _ _).1.length;rw[o2,G]
   ·unfold Oi;show(if c.eT then fH (cm (er q.delta c.eZ).2.1) else _)=_;rw[ae hf,B,n]
   ·unfold yL pc;show jH (cm (er q.delta c.eZ).2.1)+jH (cm (er (er q.delta c.eZ).1 c.held).2.1)=_;unfold pc at n8;rw[v,n8]
  ·have hw2:c.waiting=false:=by cases hq:c.waiting<;>simp_all
   rw[aa d] at s2;obtain⟨o1,o2,o3⟩:=yA (s:=c.text) m2 (by rw[A,s2]);have e:gR c ⟨c.rev,q.who,q.seq,q.delta⟩=(⟨c.who,c.rev+1,c.seq,(gP (er q.delta c.eZ).1 c.text).1,c.eT,(er q.delta c.eZ).2.1,c.waiting,c.held⟩,0):=by
    unfold gR;rw[aa (λg=>g h.ck),aa (λg=>g k1),aa (λg=>g rfl),aa e1,ae hf,aa hm,aa (λg=>g m1),aa d,aa (λg=>g o1)]
   rw[e];refine⟨rfl,⟨h.who,sF ⟨a.who,⟨by have:=a.rev;show 0<=c.rev+1;omega,by show c.rev+1<=_;omega⟩,a.seq,by show(gP _ _).1.length<=500;omega,a.wf,λg=>absurd hf (by rw[show c.eT=false from g];decide),a.wh,λ_=>⟨z,?_⟩,λg=>absurd g d⟩,by show c.rev+1=_;rw[h.rev];rfl,hlt,h.sq,?_,j _ ?_,k _ rfl rfl λ_=>ex⟩,rfl⟩
   ·show fi (cm (er q.delta c.eZ).2.1)=if c.waiting then _ else(gP _ _).1.length;rw[aa d,o2,C]
   ·unfold Oi;show(if c.eT then fH (cm (er q.delta c.eZ).2.1) else _)=_;rw[ae hf,B,n]
   ·unfold yL pc;show jH (cm (er q.delta c.eZ).2.1)+jH (cm c.held)=_;rw[v]
 ·have H:c.eT=false:=by cases hq:c.eT<;>simp_all
  have d:¬c.waiting=true:=λg=>hf (a.wf g);unfold Oi at hlen;rw[aa hf] at hlen;obtain⟨o1,o2,o3⟩:=yA (s:=c.text) k1 hlen.symm;have e:gR c ⟨c.rev,q.who,q.seq,q.delta⟩=(⟨c.who,c.rev+1,c.seq,(gP q.delta c.text).1,c.eT,c.eZ,c.waiting,c.held⟩,0):=by
   unfold gR;rw[aa (λg=>g h.ck),aa (λg=>g k1),aa (λg=>g rfl),aa e1,aa hf,aa (λg=>g o1)]
  rw[e];refine⟨rfl,⟨h.who,sF ⟨a.who,⟨by have:=a.rev;show 0<=c.rev+1;omega,by show c.rev+1<=_;omega⟩,a.seq,by show(gP _ _).1.length<=500;omega,a.wf,a.fs,a.wh,λg=>absurd g hf,λg=>absurd g d⟩,by show c.rev+1=_;rw[h.rev];rfl,hlt,h.sq,?_,j _ rfl,k _ rfl rfl λg=>absurd g hf⟩,rfl⟩;unfold Oi;show(if c.eT then _ else(gP _ _).1.length)=_;rw[aa hf,o2,n]
theorem KC{tb:Nat->Int}{l:List eX}{ed:Int}{acc i:Nat}{c:Client}{u:List od}{r:Nat}{q:eX}(hc:gj 0 tb 0 [] l)(o:l.length<=64)(he:ed<=64)(hq:l[r]? =some q)(h:CI l ed acc i c u r)(hw:q.who=(i:Int)):
  c.eT=true/\q.seq=c.seq/\u=[]/\(gR c ⟨c.rev,q.who,q.seq,q.delta⟩).2=0/\CI l ed acc i (gR c ⟨c.rev,q.who,q.seq,q.delta⟩).1 (if(gR c ⟨c.rev,q.who,q.seq,q.delta⟩).1.eT then[il (gR c ⟨c.rev,q.who,q.seq,q.delta⟩).1] else[]) (r+1):=by
 obtain⟨t1,t2,t3,t4⟩:=vZ hc hq;have hlt:=(ah.1 hq).1;obtain⟨k1,k2,j,_⟩:=pC t1;rw[<-t2] at j;have a:=DR h.ck;have s:=h.rev;have key:c.eT=true/\q.seq=c.seq/\u=[]/\c.eZ=q.delta/\KA i (l.drop (r+1)):=by
  cases h.st with
  |none hu hn=>rw[t4] at hn;exact absurd hw (hn q (by simp))
  |Ch m b hf hu hn k hs hb Pv t hx=>rw[t4] at hn;exact absurd hw (hn q (by simp))
  |there pre q0 post hf hu hl h1 h2 k hs hx=>
   rw[t4] at hl;cases pre with
   |nil=>
    simp only[bO,bB] at hl;obtain⟨rfl,rfl⟩:=hl;exact⟨hf,hs,hu,(Prod.mk.inj hx).1,h2⟩
   |cons p pre=>
    simp only[ay,bB] at hl;rw[<-hl.1] at h1;exact absurd hw (h1 q (by simp))
 obtain⟨hf,hs,hu,hd,hn⟩:=key;refine⟨hf,hs,hu,?_⟩;obtain⟨s1,s2⟩:=a.hs hf;have e1:¬c.rev=2147483647:=by omega
 have hm:q.who=c.who/\q.seq=c.seq:=⟨by rw[hw,h.who],hs⟩;have f:=h.sq;have n:=h.bt;unfold Su at f;unfold yL at n
 by_cases d:c.waiting=true
 ·obtain⟨g1,g2⟩:=a.hh d;rw[ae d] at s2 f;have e:gR c ⟨c.rev,q.who,q.seq,q.delta⟩=(⟨c.who,c.rev+1,c.seq+1,c.text,true,c.held,false,[]⟩,0):=by
   unfold gR;rw[aa (λg=>g h.ck),aa (λg=>g k1),aa (λg=>g rfl),aa e1,ae hf,ae hm,ae d,aa qW]
  rw[e];refine⟨rfl,h.who,sF ⟨a.who,⟨by have:=a.rev;show 0<=c.rev+1;omega,by show c.rev+1<=_;omega⟩,⟨by have:=a.seq;show 0<=c.seq+1;omega,by show c.seq+1<=_;omega⟩,a.tx,(λg=>by cases g),(λg=>by cases g),λ_=>rfl,λ_=>⟨g1,g2⟩,(λg=>by cases g)⟩,by show c.rev+1=_;rw[h.rev];rfl,hlt,by show c.seq+1+0<=ed;omega,?_,?_,.Ch _ (r+1) rfl rfl hn h.who rfl (by show c.rev+1=_;rw[h.rev];rfl) (ag _) g1 ?_⟩
  ·show fH (cm c.held)=_;rw[j,<-hd,s2]
  ·rw[t3,o4,cb,ae hw];show _+(pc q.delta+0)+(pc c.held+0)<=acc;rw[<-hd];omega
  ·show fS c.held _=_;rw[eA (by rw[aZ];omega)];rfl
 ·rw[aa d] at s2;have hw2:c.waiting=false:=by cases hq:c.waiting<;>simp_all
  have e:gR c ⟨c.rev,q.who,q.seq,q.delta⟩=(⟨c.who,c.rev+1,c.seq,c.text,false,c.held,false,[]⟩,0):=by
   unfold gR;rw[aa (λg=>g h.ck),aa (λg=>g k1),aa (λg=>g rfl),aa e1,ae hf,ae hm,aa d]
  rw[e];refine⟨rfl,h.who,sF ⟨a.who,⟨by have:=a.rev;show 0<=c.rev+1;omega,by show c.rev+1<=_;omega⟩,a.seq,a.tx,(λg=>by cases g),λ_=>a.wh hw2,λ_=>rfl,(λg=>by cases g),(λg=>by cases g)⟩,by show c.rev+1=_;rw[h.rev];rfl,hlt,by show c.seq+0<=ed;rw[aa d] at f;omega,?_,?_,.none rfl hn⟩
  ·show c.text.length=_;rw[j,<-hd,s2]
  ·rw[t3,o4,cb,ae hw];show _+(pc q.delta+0)+(pc c.held+0)<=acc;rw[<-hd];omega
theorem Oj{l:List eX}{ed:Int}{acc i:Nat}{c:Client}{u:List od}{r:Nat}{d:List Part}(h:CI l ed acc i c u r)(he:ed<64)(hd:gO d c.text.length=0):
  (c.eT=false->u=[])/\(gD c d).2=0/\(gD c d).1.eT=true/\CI l (ed+1) (acc+pc d) i (gD c d).1 (if c.eT then u else[il (gD c d).1]) r:=by
 have a:=DR h.ck;obtain⟨d1,d2⟩:=lz hd;have d3:=tQ d1;obtain⟨o1,o2,o3⟩:=yA (s:=c.text) d1 qW;have k:=h.sq;have hlen:=h.len;have v:=h.bt;unfold Su at k;unfold Oi at hlen;unfold yL at v;have hu:c.eT=false->u=[]:=by
  intro hf;cases h.st with
  |none hu hn=>exact hu
  |Ch m b j=>rw[hf] at j;cases j
  |there pre q post j=>rw[hf] at j;cases j
 refine⟨hu,?_⟩
 by_cases hf:c.eT=true
 ·obtain⟨s1,s2⟩:=a.hs hf;have o:¬c.eT=false:=by rw[hf];decide
  have p:∀c':Client,c'.eT=c.eT->c'.seq=c.seq->c'.eZ=c.eZ->V8 l i c' u r:=by
   intro c' x es ex;cases h.st with
   |none hu hn=>exact .none hu hn
   |Ch m b hf hu hn n hs hb Pv w hx=>exact .Ch m b (x.trans hf) hu hn n (hs.trans es.symm) hb Pv w (by rw[ex];exact hx)
   |there pre q0 post hf hu hl h1 h2 n hs hx=>exact .there pre q0 post (x.trans hf) hu hl h1 h2 n (hs.trans es.symm) (by rw[ex];exact hx)
  rw[ae hf] at hlen⊢
  by_cases f:c.waiting=true
  ·obtain⟨g1,g2⟩:=a.hh f;rw[ae f] at s2 k;obtain⟨p1,p2,y,z,C⟩:=Kz g1 d1 qW;have hw2:¬c.waiting=false:=by rw[f];decide
   have e:gD c d=(⟨c.who,c.rev,c.seq,(gP d c.text).1,c.eT,c.eZ,c.waiting,(iT c.held d).1⟩,0):=by
    unfold gD;rw[aa (λg=>g h.ck),aa (λg=>g o1),aa o,aa hw2]
   rw[e];refine⟨rfl,hf,h.who,sF ⟨a.who,a.rev,a.seq,by show(gP _ _).1.length<=500;omega,a.wf,a.fs,λg=>absurd g hw2,λ_=>⟨s1,?_⟩,λ_=>⟨p2,?_⟩⟩,h.rev,h.rl,?_,?_,?_,p _ rfl rfl rfl⟩
   ·show _=if c.waiting then fH (cm (iT c.held d).1) else _;rw[ae f,y,s2]
   ·show fi (cm (iT c.held d).1)=(gP d c.text).1.length;rw[z,o2]
   ·unfold Su;show c.seq+(if c.waiting then 1 else 0)<=ed+1;rw[ae f];omega
   ·unfold Oi;show(if c.eT then fH (cm c.eZ) else _)=_;rw[ae hf];exact hlen
   ·unfold yL;show _+(pc c.eZ+pc (iT c.held d).1)<=acc+pc d;omega
  ·have hw2:c.waiting=false:=by cases hq:c.waiting<;>simp_all
   rw[aa f] at s2;have e:gD c d=(⟨c.who,c.rev,c.seq,(gP d c.text).1,c.eT,c.eZ,true,d⟩,0):=by
    unfold gD;rw[aa (λg=>g h.ck),aa (λg=>g o1),aa o,ae hw2]
   rw[aa f] at k;rw[e];refine⟨rfl,hf,h.who,sF ⟨a.who,a.rev,a.seq,by show(gP _ _).1.length<=500;omega,λ_=>hf,a.fs,(λg=>by cases g),λ_=>⟨s1,?_⟩,λ_=>⟨d1,o2.symm⟩⟩,h.rev,h.rl,?_,?_,?_,p _ rfl rfl rfl⟩
   ·show _=if true then fH (cm d) else _;rw[ae rfl,s2];omega
   ·unfold Su;show c.seq+(if true then 1 else 0)<=ed+1;rw[ae rfl];omega
   ·unfold Oi;show(if c.eT then fH (cm c.eZ) else _)=_;rw[ae hf];exact hlen
   ·unfold yL;show _+(pc c.eZ+pc d)<=acc+pc d;omega
 ·have t:c.eT=false:=by cases hq:c.eT<;>simp_all
  have f:¬c.waiting=true:=λg=>hf (a.wf g);have hw2:c.waiting=false:=by cases hq:c.waiting<;>simp_all
  rw[aa hf] at hlen⊢;rw[aa f] at k;have A:=a.fs t;have B:=a.wh hw2;have e:gD c d=(⟨c.who,c.rev,c.seq+1,(gP d c.text).1,true,d,c.waiting,c.held⟩,0):=by
   unfold gD;rw[aa (λg=>g h.ck),aa (λg=>g o1),ae t,aa qW]
  have hn:KA i (l.drop r):=by
   cases h.st with
   |none hu hn=>exact hn
   |Ch m b j=>exact absurd j hf
   |there pre q post j=>exact absurd j hf
  rw[e];refine⟨rfl,rfl,h.who,sF ⟨a.who,a.rev,⟨by have:=a.seq;show 0<=c.seq+1;omega,by show c.seq+1<=_;omega⟩,by show(gP _ _).1.length<=500;omega,λg=>absurd g f,(λg=>by cases g),a.wh,λ_=>⟨d1,?_⟩,λg=>absurd g f⟩,h.rev,h.rl,?_,?_,?_,.Ch _ r rfl rfl hn h.who rfl h.rev (ag _) d1 ?_⟩
  ·show _=if c.waiting then _ else(gP d c.text).1.length;rw[aa f,o2]
  ·unfold Su;show c.seq+1+(if c.waiting then 1 else 0)<=ed+1;rw[aa f];omega
  ·show fH (cm d)=_;rw[<-hlen];omega
  ·unfold yL;show _+(pc d+pc c.held)<=acc+pc d;omega
  ·show fS d _=_;rw[eA (by rw[aZ];omega)];rfl
theorem CI.more{l:List eX}{ed:Int}{acc i:Nat}{c:Client}{u:List od}{r:Nat}{q:eX}(h:CI l ed acc i c u r)(hw:q.who≠(i:Int)):CI (l++[q]) ed acc i c u r:=by
 have hr:=h.rl;have e1:(l++[q]).take r=l.take r:=cI hr;have e2:(l++[q]).drop r=l.drop r++[q]:=bu hr;have hn:∀{k:List eX},KA i k->KA i (k++[q]):=by
  intro k hk x hx
  rcases aU.1 hx with hx|hx
  ·exact hk x hx
  ·rw[aw.1 hx];exact hw
 refine⟨h.who,h.ck,h.rev,by rw[an];omega,h.sq,by rw[e1];exact h.len,by rw[e1];exact h.bt,?_⟩;cases h.st with
 |none hu g=>exact .none hu (by rw[e2];exact hn g)
 |Ch m b hf hu g a hs hb Pv d hx=>exact .Ch m b hf hu (by rw[e2];exact hn g) a hs hb Pv d (by rw[e1];exact hx)
 |there pre q0 post hf hu hl h1 h2 a hs hx=>exact .there pre q0 (post++[q]) hf hu (by rw[e2,hl];simp) h1 (hn h2) a hs hx
theorem CI.ed{l:List eX}{ed:Int}{acc i:Nat}{c:Client}{u:List od}{r:Nat}(h:CI l ed acc i c u r):CI l (ed+1) acc i c u r:=
 ⟨h.who,h.ck,h.rev,h.rl,by have:=h.sq;omega,h.len,h.bt,h.st⟩
theorem CI.gone{l:List eX}{ed:Int}{acc i:Nat}{c:Client}{m:od}{u:List od}{r:Nat}(h:CI l ed acc i c (m::u) r):u=[]/\m.who=(i:Int)/\cF m.delta=0/\CI l ed acc i c [] r/\
  ∀y,fS m.delta (l.drop m.base.toNat)=(y,0)->CI (l++[⟨m.who,m.seq,y⟩]) ed acc i c [] r:=by
 cases h.st with
 |none hu=>cases hu
 |there _ _ _ _ hu=>cases hu
 |Ch m' b hf hu hn hw hs hb Pv hc hx=>
  cases hu;have hr:=h.rl;have e1:∀q:eX,(l++[q]).take r=l.take r:=λq=>cI hr;have e2:∀q:eX,(l++[q]).drop r=l.drop r++[q]:=λq=>bu hr;refine⟨rfl,hw,hc,⟨h.who,h.ck,h.rev,h.rl,h.sq,h.len,h.bt,.none rfl hn⟩,λy hy=>?_⟩;refine⟨h.who,h.ck,h.rev,by rw[an];omega,h.sq,by rw[e1];exact h.len,by rw[e1];exact h.bt,.there (l.drop r) ⟨m.who,m.seq,y⟩ [] hf rfl (e2 _) hn (λx hx=>by cases hx) hw hs ?_⟩;rw[hb,aM] at hy;have e:l.drop b=(l.take r).drop b++l.drop r:=by
   have:=bL r l
   conv=>lhs;rw[<-this]
   rw[bu (by rw[aZ];omega)]
  rw[e,pK _ _ _ _ hx] at hy;exact hy
structure WS where
 c:Nat->Client
 u:Nat->List od
 pu:Int
 ed:Int
def fu{α:Type}(f:Nat->α)(i:Nat)(x:α)(j:Nat):α:=if j=i then x else f j
theorem gw{α:Type}(f:Nat->α)(i:Nat)(x:α):fu f i x i=x:=by unfold fu;rw[ae rfl]
theorem iF{α:Type}(f:Nat->α){i j:Nat}(x:α)(h:j≠i):fu f i x j=f j:=by unfold fu;rw[aa h]
structure jZ(n:Nat)(d:SC)(l:List eX)(dr:im)(tx:List BS)(w:WS):Prop where
 mp:MP d l none dr tx
 b0:d.b=0
 t0:d.tx=[]
 wh:∀q∈l,0<=q.who/\q.who<(n:Int)
 ed:0<=w.ed/\w.ed<=64
 pu:0<=w.pu/\w.pu<=500
 acc:∃acc:Nat->Nat,(nm acc n:Int)=w.pu/\∀i,i<n->∃r,CI l w.ed (acc i) i (w.c i) (w.u i) r
theorem jZ.ch{n:Nat}{d:SC}{l:List eX}{dr:im}{tx:List BS}{w:WS}(h:jZ n d l dr tx w):gj 0 d.fs 0 [] l/\l.length<=64:=by
 have hc:=h.mp.qL.ch;have hl:=h.mp.qL.len.1;rw[h.b0,h.t0] at hc;exact⟨hc,hl⟩
def sG(i:Nat):Client:=⟨(i:Int),0,0,[],false,[],false,[]⟩
def Ug:WS:=⟨sG,λ_=>[],0,0⟩
theorem KD{n:Nat}(hn:n<=4):jZ n kL [] vR [[]] Ug:=by
 have ha:=Dr;refine⟨RO,ha.2.1,ha.2.2.2.2,(λq hq=>by cases hq),⟨bf _,qD⟩,⟨bf _,qD⟩,λ_=>0,by rw[tp];rfl,λi hi=>⟨0,?_⟩⟩;refine⟨rfl,sF ⟨⟨aT _,by show(i:Int)<=7;omega⟩,⟨bf _,by show(0:Int)<=_;decide⟩,⟨bf _,by show(0:Int)<=_;decide⟩,bd _,(λh=>by cases h),λ_=>rfl,λ_=>rfl,(λh=>by cases h),(λh=>by cases h)⟩,rfl,ag _,bf _,rfl,ag _,.none rfl (λq hq=>by cases hq)⟩
theorem FC{f g:Nat->Nat}{n k p:Nat}(hk:k<n)(h:∀j,j<n->f j+(if k=j then p else 0)<=g j):nm f n+p<=nm g n:=by
 have h1:=DP h;rw[sD,sE,ae hk] at h1;exact h1
theorem Ol{f g:Nat->Nat}{n k p:Nat}(hk:k<n)(h:∀j,g j=f j+(if k=j then p else 0)):nm g n=nm f n+p:=by
 have:g=λj=>f j+(if k=j then p else 0):=funext h;rw[this,sD,sE,ae hk]
def hV:List Part->Int
 |[]=>0
 |p::d=>(p.text.length:Int)+hV d
theorem uG:∀a b:List fP,jH (a++b)=jH a+jH b
 |[],b=>by simp[jH]
 |.put _::a,b=>by simp only[ay,jH,uG a b];omega
 |.keep::a,b=>by simp only[ay,jH,uG a b]
 |.cut::a,b=>by simp only[ay,jH,uG a b]
theorem DS:∀t:BS,jH (t.map .put)=t.length
 |[]=>rfl
 |b::t=>by simp only[aL,jH,DS t,ar]
theorem AU:∀n:Nat,jH (List.replicate n .keep)=0
 |0=>rfl
 |n+1=>by simp only[aB,jH,AU n]
theorem DT:∀n:Nat,jH (List.replicate n .cut)=0
 |0=>rfl
 |n+1=>by simp only[aB,jH,DT n]
theorem v8:∀{d:List Part},(∀p∈d,oq p)->hV d=(pc d:Int)
 |[],_=>rfl
 |p::d,h=>by
  have ih:=v8 (d:=d) λq hq=>h q (by simp[hq]);obtain⟨_,_,_,hk⟩:=gu (h p (by simp));have e:cm (p::d)=gK p++cm d:=rfl;unfold pc at ih⊢;rw[e,uG,hV,ih];have:(jH (gK p):Int)=(p.text.length:Int):=by
   unfold gK
   rcases hk with⟨k1,_,_⟩|⟨k1,_,a⟩
   ·rw[ae k1,DS]
   ·rw[aa qW,a]
    split
    ·rw[AU];rfl
    ·rw[DT];rfl
  omega
theorem sH:∀d:List Part,0<=hV d
 |[]=>bf _
 |p::d=>by rw[hV];have:=sH d;omega
def nn(w:WS)(k:Nat)(d:List Part):WS:=⟨fu w.c k (gD (w.c k) d).1,fu w.u k (if(w.c k).eT then w.u k else[il (gD (w.c k) d).1]),w.pu+hV d,w.ed+1⟩
theorem tt{n:Nat}{d:SC}{l:List eX}{dr:im}{tx:List BS}{w:WS}(h:jZ n d l dr tx w){k:Nat}(hk:k<n){x:List Part}(hf:gO x (w.c k).text.length=0)(he:w.ed≠64)(hp:w.pu+hV x<=500):
  jZ n d l dr tx (nn w k x)/\(gD (w.c k) x).2=0/\jA (gD (w.c k) x).1=0/\(gD (w.c k) x).1.eT=true/\((w.c k).eT=false->w.u k=[]):=by
 obtain⟨acc,a1,a2⟩:=h.acc;obtain⟨r,hr⟩:=a2 k hk;have g:=h.ed;obtain⟨e1,e2,e3,e4⟩:=Oj hr qW hf;have hx:=(lz hf).1;have m:=v8 (dv hx).2.1;refine⟨⟨h.mp,h.b0,h.t0,h.wh,⟨by show 0<=w.ed+1;omega,by show w.ed+1<=64;omega⟩,⟨by have:=sH x;have:=h.pu;show 0<=w.pu+hV x;omega,hp⟩,λj=>acc j+(if k=j then pc x else 0),?_,λi hi=>?_⟩,e2,e4.ck,e3,e1⟩
 ·rw[Ol (f:=acc) hk (λj=>rfl)];show((nm acc n+pc x:Nat):Int)=w.pu+hV x;omega
 ·by_cases a:i=k
  ·subst a;refine⟨r,?_⟩;unfold nn;simp only[gw,if_true];exact e4
  ·obtain⟨r',b⟩:=a2 i hi;refine⟨r',?_⟩;unfold nn;simp only[iF _ _ a];rw[aa (λe=>a e.symm)];exact b.ed
def k7(w:WS)(k:Nat)(q:eX):Client:=(gR (w.c k) ⟨(w.c k).rev,q.who,q.seq,q.delta⟩).1
def iM(w:WS)(k:Nat)(q:eX):WS:=⟨fu w.c k (k7 w k q),fu w.u k (if q.who=(k:Int)/\(k7 w k q).eT=true then[il (k7 w k q)] else w.u k),w.pu,w.ed⟩
theorem tu{n:Nat}{d:SC}{l:List eX}{dr:im}{tx:List BS}{w:WS}(h:jZ n d l dr tx w){k:Nat}(hk:k<n){q:eX}(hq:l[(w.c k).rev.toNat]? =some q):
  jZ n d l dr tx (iM w k q)/\(gR (w.c k) ⟨(w.c k).rev,q.who,q.seq,q.delta⟩).2=0/\jA (k7 w k q)=0/\(k7 w k q).rev=(w.c k).rev+1/\(q.who=(k:Int)->(w.c k).eT=true/\q.seq=(w.c k).seq/\w.u k=[]):=by
 obtain⟨acc,a1,a2⟩:=h.acc;obtain⟨hc,hl⟩:=h.ch;have s:=h.ed;obtain⟨r,hr⟩:=a2 k hk;have t:=hr.rev;have v:(w.c k).rev.toNat=r:=by omega
 rw[v] at hq;have fin:∀f,f=(if q.who=(k:Int)/\(k7 w k q).eT=true then[il (k7 w k q)] else w.u k)->CI l w.ed (acc k) k (k7 w k q) f (r+1)->jZ n d l dr tx (iM w k q):=by
  intro f hu m;refine⟨h.mp,h.b0,h.t0,h.wh,h.ed,h.pu,acc,a1,λi hi=>?_⟩
  by_cases b:i=k
  ·subst b;refine⟨r+1,?_⟩;unfold iM;simp only[gw];rw[<-hu];exact m
  ·obtain⟨r',a⟩:=a2 i hi;refine⟨r',?_⟩;unfold iM;simp only[iF _ _ b];exact a
 by_cases hw:q.who=(k:Int)
 ·obtain⟨g1,g2,g3,g4,g5⟩:=KC hc hl qW hq hr hw;refine⟨fin _ ?_ g5,g4,g5.ck,by have:=g5.rev;unfold k7;omega,λ_=>⟨g1,g2,g3⟩⟩;show(if(k7 w k q).eT=true then _ else _)=_
  by_cases hf:(k7 w k q).eT=true
  ·rw[ae hf,ae ⟨hw,hf⟩];rfl
  ·rw[aa hf,aa (λg=>hf g.2),g3]
 ·have y:(lK [] (l.take (r+1))).length+yL (w.c k)<=500:=by
   have o:gj 0 d.fs 0 [] (l.take (r+1)):=by
    have:=hc;rw[<-bL (r+1) l] at this;exact((l9 _ _ _ _ _).1 this).1
   have h1:=KB _ _ _ _ o;have p:∀x∈l.take (r+1),0<=x.who/\x.who<(n:Int):=λx hx=>h.wh x (cS hx);rw[DQ n _ p] at h1;have h2:nm (λj=>cb j (l.take (r+1))) n+yL (w.c k)<=nm acc n:=by
    refine FC hk λj hj=>?_
    by_cases e:k=j
    ·subst e;rw[ae rfl];obtain⟨_,_,t3,_⟩:=vZ hc hq;have:=hr.bt;rw[t3,o4,cb,aa hw];show cb k (l.take r)+(0+0)+yL (w.c k)<=acc k;omega
    ·rw[aa e];obtain⟨r',a⟩:=a2 j hj;have h3:=a.YG;have h4:cb j l=cb j (l.take (r+1))+cb j (l.drop (r+1)):=by rw[<-o4,bL]
     omega
   have h5:=h.pu;simp only[aK] at h1;omega
  obtain⟨g1,g2,g3⟩:=Ci hc hl hq hr hw y;refine⟨fin _ ?_ g2,g1,g2.ck,by have:=g2.rev;unfold k7;omega,λg=>absurd g hw⟩;rw[aa (λg=>hw g.1)]
theorem Om(d:SC)(l:List eX)(r:eX):(fN d l none r).d.b=d.b/\(fN d l none r).d.tx=d.tx/\((fN d l none r).l=l\/(fN d l none r).l=l++[r]):=by
 unfold fN
 split
 ·exact⟨rfl,rfl,.inl rfl⟩
 ·split
  ·exact⟨rfl,rfl,.inl rfl⟩
  ·exact⟨rfl,rfl,.inr rfl⟩
theorem On(d:SC)(l:List eX)(base who seq:Int)(x:List Part):(lC d l none base who seq x).d.b=d.b/\(lC d l none base who seq x).d.tx=d.tx/\((lC d l none base who seq x).l=l\/∃y,fS x (l.drop (base-d.b).toNat)=(y,0)/\(lC d l none base who seq x).l=l++[⟨who,seq,y⟩]):=by
 unfold lC
 split
 ·exact⟨rfl,rfl,.inl rfl⟩
 ·split
  ·exact⟨rfl,rfl,.inl rfl⟩
  ·split
   ·exact⟨rfl,rfl,.inl rfl⟩
   ·split
    ·exact⟨rfl,rfl,.inl rfl⟩
    ·split
     ·exact⟨rfl,rfl,.inl rfl⟩
     ·rename_i ht
      split
      ·exact⟨rfl,rfl,.inl rfl⟩
      ·split
       ·exact⟨rfl,rfl,.inl rfl⟩
       ·rename_i hf;obtain⟨h1,h2,h3⟩:=Om d l ⟨who,seq,(fS x (gH d l base).1).1⟩;have a:gl d.b l.length base=0:=by
         have ht:=aG ht;unfold jM at ht
         split at ht
         ·rename_i hne;exact absurd ht hne
         ·rename_i hne;exact aG hne
        have c:(gH d l base).1=l.drop (base-d.b).toNat:=by
         unfold gH;rw[aa (λg=>g a)]
        refine⟨h1,h2,?_⟩
        rcases h3 with h3|h3
        ·exact .inl h3
        ·refine .inr ⟨(fS x (gH d l base).1).1,?_,h3⟩;rw[<-c];have:=aG hf;exact Prod.ext rfl this
def mI(w:WS)(k:Nat):WS:=⟨w.c,fu w.u k [],w.pu,w.ed⟩
theorem yB{n:Nat}{d:SC}{l:List eX}{dr:im}{tx:List BS}{w:WS}(h:jZ n d l dr tx w){k:Nat}(hk:k<n){m:od}{t:List od}(hu:w.u k=m::t):
  t=[]/\cF m.delta=0/\jZ n (lC d l none m.base m.who m.seq m.delta).d (lC d l none m.base m.who m.seq m.delta).l (lM dr tx l m.base m.who m.seq m.delta).d (lM dr tx l m.base m.who m.seq m.delta).tx (mI w k):=by
 obtain⟨acc,a1,a2⟩:=h.acc;obtain⟨r,hr⟩:=a2 k hk;rw[hu] at hr;obtain⟨g1,g2,g3,g4,g5⟩:=hr.gone;obtain⟨_,_,_,c⟩:=Ki h.mp m.base m.who m.seq m.delta;obtain⟨s1,s2,f⟩:=On d l m.base m.who m.seq m.delta;refine⟨g1,g3,c,s1.trans h.b0,s2.trans h.t0,?_,h.ed,h.pu,acc,a1,?_⟩
 ·rcases f with e|⟨y,hy,e⟩
  ·rw[e];exact h.wh
  ·rw[e];intro q hq
   rcases aU.1 hq with hq|hq
   ·exact h.wh q hq
   ·rw[aw.1 hq];show 0<=m.who/\m.who<(n:Int);omega
 ·intro i hi;unfold mI
  by_cases a:i=k
  ·subst a;refine⟨r,?_⟩;simp only[gw]
   rcases f with e|⟨y,hy,e⟩
   ·rw[e];exact g4
   ·rw[e];rw[h.b0,Int.sub_zero] at hy;exact g5 y hy
  ·obtain⟨r',b⟩:=a2 i hi;refine⟨r',?_⟩;simp only[iF _ _ a]
   rcases f with e|⟨y,hy,e⟩
   ·rw[e];exact b
   ·rw[e];exact b.more (by show m.who≠_;rw[g2];omega)
structure Uh(n:Nat)(l:List eX)(w:WS)(k:Nat):Prop where
 ck:jA (w.c k)=0
 who:(w.c k).who=(k:Int)
 rev:0<=(w.c k).rev/\(w.c k).rev<=(l.length:Int)
 tx:(w.c k).text.length<=500
 sn:(w.c k).eZ.length<=1600
 hl:(w.c k).held.length<=1600
 ul:(w.u k).length<=1
 um:∀m∈w.u k,cF m.delta=0
theorem jZ.fact{n:Nat}{d:SC}{l:List eX}{dr:im}{tx:List BS}{w:WS}(h:jZ n d l dr tx w){k:Nat}(hk:k<n):Uh n l w k:=by
 obtain⟨acc,a1,a2⟩:=h.acc;obtain⟨r,hr⟩:=a2 k hk;have h1:=hr.rev;have h2:=hr.rl;refine⟨hr.ck,hr.who,qW,(DR hr.ck).tx,oZ hr.ck,sB hr.ck,?_,?_⟩
 ·cases hr.st with
  |none hu=>rw[hu];exact bd _
  |Ch m b hf hu=>rw[hu];exact ag _
  |there _ _ _ _ hu=>rw[hu];exact bd _
 ·intro m hm;cases hr.st with
  |none hu=>rw[hu] at hm;cases hm
  |Ch m' b hf hu hn hw hs hb Pv hc hx=>rw[hu] at hm;rw[aw.1 hm];exact hc
  |there _ _ _ _ hu=>rw[hu] at hm;cases hm
def jt(T:cp):Prop:=∀(f:Nat)(vs:List V)(h:Hp)(K a:V->Hp->Prop),(∀v h,K v h->a v h)->T f vs h K->T f vs h a
theorem n7{P:Program}:jt (fa P):=λf vs h K a hK hh=>by
 obtain⟨h0,he,m,args',hp,post,h1,h2,h3,h4,h5⟩:=hh;exact⟨h0,he,m,args',hp,post,h1,h2,h3,h4,λv h' hp=>hK _ _ (h5 v h' hp)⟩
def AO.tw(o:AO):Bool:=match o.op with
 |.call .. =>false
 |.callv .. =>false
 |_=>true
def sI(a b:AO):Bool:=xK a b&&(a.op.oL||(a.tw&&b.tw&&nR a b))
section
variable {T:cp} {P:Program}
theorem DU{T T':cp}{op:pM}(h:(AO.mk none none op).tw=true){ev:hJ->V}{h0:Hp}{k:Nat}{K:V->Hp->Prop}:fC ca T op ev h0 k K=fC ca T' op ev h0 k K:=by
 cases op<;>first|rfl|(simp[AO.tw] at h)
theorem uH{T T':cp}{o:AO}(h:o.tw=true){s:S}{K:S->Prop}:fm ca T o s K=fm ca T' o s K:=by
 obtain⟨d,g,op⟩:=o;have e:∀s:S,iz ca T ⟨d,g,op⟩ s K=iz ca T' ⟨d,g,op⟩ s K:=λs=>DU (op:=op) h;unfold fm;simp only[e]
theorem wa(a:jt T){op:pM}{ev:hJ->V}{h:Hp}{k:Nat}{K b:V->Hp->Prop}(hK:∀v h,K v h->b v h)(hh:fC ca T op ev h k K):fC ca T op ev h k b:=by
 by_cases hn:(AO.mk none none op).tw=true
 ·rw[DU (T':=fj Tryz.prog) hn] at hh⊢;exact s7 hK hh
 ·cases op<;>try(exact absurd rfl hn)
  case call f args=>exact a _ _ _ _ _ hK hh
  case callv x args=>
   simp only[fC] at hh⊢
   split at hh
   ·exact a _ _ _ _ _ hK hh
   ·exact hh.elim
theorem jO(e:jt T){a:AO}{s:S}{K c:S->Prop}(hK:∀s,K s->c s)(hh:fm ca T a s K):fm ca T a s c:=by
 obtain⟨d,g,op⟩:=a;have plain:∀s:S,iz ca T ⟨d,g,op⟩ s K->iz ca T ⟨d,g,op⟩ s c:=λs h=>wa e (λv h' hk=>hK _ hk) h;unfold fm at hh⊢
 split at hh
 ·exact plain s hh
 ·split at hh
  ·rename_i b _;cases b
   ·exact hK _ hh
   ·exact plain _ hh
  ·exact hK _ hh
  ·exact hh.elim
 ·split at hh
  ·rename_i b _;cases b
   ·exact plain _ hh
   ·exact hK _ hh
  ·exact hK _ hh
  ·exact hh.elim
theorem AV(a:jt T){op:pM}{ev ev':hJ->V}{h:Hp}{k:Nat}{K K':V->Hp->Prop}(he:∀x∈op.s6,ev x=ev' x)(hK:∀v h,K v h->K' v h)(hh:fC ca T op ev h k K):fC ca T op ev' h k K':=by
 rw[nQ he] at hh;exact wa a hK hh
theorem FD(l:jt T){b:AO}{s:S}{d0:Option Nat}{u:V}{K c:S->Prop}(hl:∀e,d0=some e->e∉b.looks/\b.d≠some e)(hK:∀s1,(∀i,b.d≠some i->s1.t i=s.t i)->K (s1.put d0 u)->c s1)(hh:fm ca T b (s.put d0 u) K):fm ca T b s c:=by
 obtain⟨d,g,op⟩:=b;have m:∀(s:S)(v:V)(h:Hp),(((s.put d0 u).iq h).put d v)=(((s.iq h).put d v).put d0 u):=by
  intro s v h;have e1:(s.put d0 u).iq h=(s.iq h).put d0 u:=by cases d0<;>rfl
  rw[e1];exact put_comm λi hi=>(hl i hi).2
 have ts:∀(s:S)(i:Nat),(∀e,d0=some e->i≠e)->(s.put d0 u).t i=s.t i:=λs i hi=>j3 λe=>hi i e rfl;have plain:∀s':S,(∀i,s'.t i=s.t i)->iz ca T ⟨d,g,op⟩ (s'.put d0 u) K->iz ca T ⟨d,g,op⟩ s' c:=by
  intro s' hs' h;have h':fC ca T op (hJ.ev (s'.put d0 u)) s'.h (d.getD 0) (λv h=>K ((((s'.put d0 u).iq h)).put d v)):=by
   have:=h;unfold iz at this;rw[kE] at this;exact this
  refine AV l (K':=λv h=>c ((s'.iq h).put d v)) (lv λi hi=>ts s' i λe he f=>(hl e he).1 (by rw[<-f];unfold AO.looks;exact bR _ hi)) (λv n hk=>hK _ (λi hi=>?_) ?_) h'
  ·rw[j3 hi];exact hs' i
  ·rw[<-m];exact hk
 cases g with
 |none=>exact plain s (λ_=>rfl) hh
 |some o=>
  obtain⟨g,want⟩:=o;have j:∀e,d0=some e->g≠e:=λe he hg=>(hl e he).1 (by rw[<-hg];simp[AO.looks]);have a:(s.put d0 u).t g=s.t g:=ts s g j;have k:∀(s:S)(v:V),(s.put d0 u).put d v=(s.put d v).put d0 u:=λs v=>put_comm λi hi=>(hl i hi).2;cases hb:s.t g with
  |bool b=>
   have hb2:=a.trans hb;have e1:(s.put d0 u).set g (.bool b)=s.put d0 u:=ke hb2;have e2:s.set g (.bool b)=s:=ke hb;cases want<;>cases b<;>simp only[fm,hb,hb2,br,e1,e2] at hh⊢
   ·exact plain s (λ_=>rfl) hh
   ·exact hK _ (λi hi=>j3 hi) (by rw[<-k];exact hh)
   ·exact hK _ (λi hi=>j3 hi) (by rw[<-k];exact hh)
   ·exact plain s (λ_=>rfl) hh
  |nu=>
   have hb2:=a.trans hb;cases want<;>simp only[fm,hb,hb2] at hh⊢<;>exact hK _ (λi hi=>j3 hi) (by rw[<-k];exact hh)
  |_=>
   have hb2:=a.trans hb;cases want<;>simp only[fm,hb2] at hh
theorem Ui(j:jt T){a b:AO}(hp:sI a b=true){s:S}{K:S->Prop}(hh:fm ca T a s λs1=>fm ca T b s1 K):fm ca T b s λs1=>fm ca T a s1 K:=by
 unfold sI at hp;simp only[aO,bC] at hp;obtain⟨g,h|⟨⟨c,f⟩,iB⟩⟩:=hp
 ·obtain⟨h1,h2⟩:=apart_spec g;obtain⟨k,ha⟩:=pg h hh;have hb:=(ha s (λ_ _=>rfl) _).1 hh;exact FD j (d0:=a.d) (u:=k) (λe he=>h1 e he) (λs1 hs hk=>(ha s1 (λi hi=>hs i λhb=>h2 i hb hi) _).2 hk) hb
 ·have e1:(λs1=>fm ca T b s1 K)=λs1=>fm ca (fj Tryz.prog) b s1 K:=funext λs1=>uH f;have e2:(λs1=>fm ca T a s1 K)=λs1=>fm ca (fj Tryz.prog) a s1 K:=funext λs1=>uH c;rw[uH (T':=fj Tryz.prog) c,e1] at hh;rw[uH (T':=fj Tryz.prog) f,e2];exact swap iB hh
def tV(ops:List (AO×List Nat))(i:Nat):Nat->List Nat
 |0=>[]
 |m+1=>match ops[m]? with
  |some (_,ps)=>if ps.any (λp=>Nat.beq p i||(tV ops i m).contains p) then m::tV ops i m else tV ops i m
  |none=>tV ops i m
theorem o5{ops:List (AO×List Nat)}{done:List Nat}{i:Nat}(a:nj ops done)(hi:fG done i=false):∀m j,j∈tV ops i m->∃o ps p,ops[j]? =some (o,ps)/\p∈ps/\fG done p=false
 |0,j,h=>by cases h
 |m+1,j,h=>by
  unfold tV at h
  split at h
  ·rename_i o ps hm
   split at h
   ·rename_i b
    rcases ax.1 h with rfl|h
    ·obtain⟨p,hp,hb⟩:=cE.1 b;refine⟨o,ps,p,hm,hp,?_⟩;simp only[bC] at hb
     rcases hb with hb|hb
     ·rw[aY hb];exact hi
     ·obtain⟨o2,c,p2,q1,q2,d⟩:=o5 a hi _ p (by simpa using hb);cases hd:fG done p
      ·rfl
      ·have:=a p o2 c q1 hd p2 q2;rw[d] at this;cases this
    ·exact o5 a hi m j h
   ·exact o5 a hi m j h
  ·exact o5 a hi m j h
def KE(ops:List (AO×List Nat))(done:List Nat)(i:Nat)(b:AO):Prop:=∀(j:Nat)(a:AO)(ps:List Nat),ops[j]? =some (a,ps)->fG done j=false->j≠i->j∈tV ops i ops.length\/sI b a=true
def yC(ops:List (AO×List Nat))(done:List Nat)(i:Nat):Bool:=match ops[i]? with
 |some (a,ps)=> !(fG done i)&&ps.all (fG done)&&(List.range ops.length).all λj=>fG done j||Nat.beq j i||(tV ops i ops.length).contains j||(match ops[j]? with
  |some (b,_)=>sI a b
  |none=>true)
 |none=>false
theorem AW{ops:List (AO×List Nat)}{done:List Nat}{i:Nat}(h:yC ops done i=true):∃a ps,ops[i]? =some (a,ps)/\fG done i=false/\ps.all (fG done)=true/\KE ops done i a:=by
 unfold yC at h
 split at h
 ·rename_i a ps hi;simp only[aO,dz] at h;refine⟨a,ps,hi,h.1.1,h.1.2,λj b c hj hd hne=>?_⟩;have hlt:=(ah.1 hj).1;have:=aE.1 h.2 j (bJ.2 hlt);simp only[bC,hd,hj] at this
  rcases this with((g|g)|g)|g
  ·cases g
  ·exact absurd (aY g) hne
  ·exact .inl (by simpa using g)
  ·exact .inr g
 ·cases h
theorem sJ{d1 d2:List Nat}(h:fG d1=fG d2):∀(l:List (AO×List Nat))(m:Nat),jx d1 m l=jx d2 m l
 |[],m=>rfl
 |(o,ps)::l,m=>by simp only[jx,h,sJ h l]
theorem qP{ops:List (AO×List Nat)}{K:S->Prop}:∀(n:Nat)(d1 d2:List Nat)(s:S),fG d1=fG d2->lF ca T ops n d1 s K->lF ca T ops n d2 s K
 |0,_,_,_,_,h=>h
 |n+1,d1,d2,s,he,h=>by
  simp only[lF] at h⊢;rw[<-sJ he];have:(λi o=>fm ca T o s λs=>lF ca T ops n (i::d1) s K)=λi o=>fm ca T o s λs=>lF ca T ops n (i::d2) s K:=by
   funext i o
   congr 1
   funext s'
   refine propext ⟨qP n _ _ s' (by funext k;simp only[fG,he]),qP n _ _ s' (by funext k;simp only[fG,he])⟩
  rw[<-this];exact h
theorem AX{done:List Nat}{i:Nat}:fG done i=true↔i∈done:=by
 induction done with
 |nil=>simp[fG]
 |cons x l ih=>
  simp only[fG,bC,ax,ih]
  constructor
  ·rintro(h|h)
   ·exact .inl (aY h).symm
   ·exact .inr h
  ·rintro(h|h)
   ·subst h;exact .inl (b9 _)
   ·exact .inr h
theorem Oo{ops:List (AO×List Nat)}{K:S->Prop}{n:Nat}{done:List Nat}{s:S}{j:Nat}{a:AO}{ps:List Nat}(h:lF ca T ops (n+1) done s K)(hj:ops[j]? =some (a,ps))(hd:fG done j=false)(hp:ps.all (fG done)=true):fm ca T a s λs=>lF ca T ops n (j::done) s K:=by
 have hm:(0+j,a)∈jx done 0 ops:=p9 hj (by rw[aS];intro hm;rw[AX.2 hm] at hd;cases hd) (λq hq=>AX.1 (aE.1 hp q hq));rw[aS] at hm;exact vd (show xI (jx done 0 ops) (λi o=>fm ca T o s λs=>lF ca T ops n (i::done) s K) from h) hm
theorem o6{ops:List (AO×List Nat)}{done:List Nat}{j:Nat}{f:AO}{ps:List Nat}(b:nj ops done)(hj:ops[j]? =some (f,ps))(hp:ps.all (fG done)=true):nj ops (j::done):=by
 intro d o' c a hd k hk
 by_cases e:d=j
 ·subst e;rw[hj] at a;cases a;exact mb (aE.1 hp k hk)
 ·rw[hM e] at hd;exact mb (b d o' c a hd k hk)
theorem AY{done:List Nat}{j:Nat}{ps:List Nat}(h:ps.all (fG done)=true):ps.all (fG (j::done))=true:=
 aE.2 λk hk=>mb (aE.1 h k hk)
theorem wb(c:jt T){ops:List (AO×List Nat)}{K:S->Prop}{i:Nat}{m:AO}{pi:List Nat}(hi:ops[i]? =some (m,pi)):∀(n:Nat)(done:List Nat)(s:S),ou done ops.length=n+1->nj ops done->fG done i=false->pi.all (fG done)=true->KE ops done i m->
  fm ca T m s (λs=>lF ca T ops n (i::done) s K)->lF ca T ops (n+1) done s K
 |n,done,s,hc,d,b,o,he,h=>by
  show xI (jx done 0 ops) _;refine sg ops 0 λj r ps hj hf hp=>?_;rw[aS] at hf⊢
  by_cases a:j=i
  ·subst a;rw[hi] at hj;cases hj;exact h
  ·have hlt:j<ops.length:=(ah.1 hj).1;have f:i<ops.length:=(ah.1 hi).1;have iB:sI m r=true:=by
    rcases he j r ps hj hf a with hd|hd
    ·obtain⟨o2,u,p2,q1,q2,t⟩:=o5 d b _ j hd;rw[hj] at q1;cases q1;rw[aE.1 hp p2 q2] at t;cases t
    ·exact hd
   cases n with
   |zero=>
    have h1:=qF b ops.length f;have h2:=vO ops.length (done:=i::done) qW j hlt;rw[hM a,hf] at h2;cases h2
   |succ n=>
    have p:nj ops (j::done):=o6 d hj hp;have h1:=jO c (λs' hs'=>Oo hs' hj (by rw[hM a];exact hf) (AY hp)) h;have h2:=Ui c iB h1;refine jO c (λs' hs'=>?_) h2;refine wb c hi n (j::done) s' (by have:=qF hf ops.length hlt;omega) p (by rw[hM (λe=>a e.symm)];exact b) (AY o) (λk ok v hk g hne=>?_) ?_
    ·refine he k ok v hk ?_ hne;cases hx:fG done k
     ·rfl
     ·rw[mb hx] at g;cases g
    ·refine jO c (λq l=>qP n _ _ q ?_ l) hs'
     funext k
     simp only[fG];cases Nat.beq j k<;>cases Nat.beq i k<;>rfl
inductive yD where
 |nil
 |ex(i:Nat)(r:yD)
 |alt(i:Nat)(r more:yD)
def FZ(ops:List (AO×List Nat)):yD->List Nat->Bool->List Nat->Bool
 |.nil,done,false,_=>(List.range ops.length).all (fG done)
 |.nil,done,true,alts=>(List.range ops.length).all λj=>fG done j||fG alts j||(match ops[j]? with
  |some (_,ps)=> !(ps.all (fG done))
  |none=>true)
 |.ex i r,done,false,_=>yC ops done i&&FZ ops r (i::done) false []
 |.ex _ _,_,true,_=>false
 |.alt i r more,done,_,alts=>(match ops[i]? with
  |some (_,ps)=> !(fG done i)&&ps.all (fG done)
  |none=>false)&&FZ ops r (i::done) false []&&FZ ops more done true (i::alts)
def sK(p:Prim)(T:cp)(ops:List (AO×List Nat))(K:S->Prop):yD->Bool->S->Prop
 |.nil,false,s=>K s
 |.nil,true,_=>True
 |.ex i r,_,s=>match ops[i]? with
  |some (o,_)=>fm p T o s λs=>sK p T ops K r false s
  |none=>False
 |.alt i r more,_,s=>y3 (match ops[i]? with
  |some (o,_)=>fm p T o s λs=>sK p T ops K r false s
  |none=>False) (sK p T ops K more true s)
theorem DV{done:List Nat}:∀n,(∀i,i<n->fG done i=true)->ou done n=0
 |0,_=>rfl
 |n+1,h=>by simp only[ou];rw[DV n λi hi=>h i qW,h n qW];rfl
theorem uI(e:jt T){ops:List (AO×List Nat)}{K:S->Prop}:∀(c:yD)(done:List Nat)(s:S),nj ops done->
  (FZ ops c done false []=true->sK ca T ops K c false s->∀n,ou done ops.length=n->lF ca T ops n done s K)/\
  (∀alts,FZ ops c done true alts=true->sK ca T ops K c true s->∀n,ou done ops.length=n+1->∀(j:Nat)(d:AO)(ps:List Nat),ops[j]? =some (d,ps)->fG done j=false->ps.all (fG done)=true->fG alts j=false->fm ca T d s λs=>lF ca T ops n (j::done) s K)
 |.nil,done,s,a=>by
  refine⟨λh hr n hn=>?_,λalts h hr n hn j d ps hj hd hp ha=>?_⟩
  ·have h:(List.range ops.length).all (fG done)=true:=h;have:=DV ops.length λi hi=>aE.1 h i (bJ.2 hi);rw[this] at hn;subst hn;exact hr
  ·have h:(List.range ops.length).all (λj=>fG done j||fG alts j||(match ops[j]? with
    |some (_,ps)=> !(ps.all (fG done))
    |none=>true))=true:=h
   have:=aE.1 h j (bJ.2 (ah.1 hj).1);rw[hd,ha,hj] at this;simp only[hp] at this;cases this
 |.ex i r,done,s,a=>by
  refine⟨λh hr n hn=>?_,λalts h=>by cases h⟩;have h:(yC ops done i&&FZ ops r (i::done) false [])=true:=h;rw[aO] at h;obtain⟨g,pi,hi,hd,hp,he⟩:=AW h.1;have hlt:=(ah.1 hi).1;have hc:=qF hd ops.length hlt;obtain⟨m,rfl⟩:∃m,n=m+1:=⟨n-1,qW⟩;have hr:(match ops[i]? with
   |some (o,_)=>fm ca T o s λs=>sK ca T ops K r false s
   |none=>False):=hr
  rw[hi] at hr;refine wb e hi m done s hn a hd hp he (jO e (λs' hs'=>?_) hr);exact(uI e r (i::done) s' (o6 a hi hp)).1 h.2 hs' m qW
 |.alt i r more,done,s,a=>by
  have key:∀(b:Bool) alts,FZ ops (.alt i r more) done b alts=true->sK ca T ops K (.alt i r more) b s->∀n,ou done ops.length=n+1->∀(j:Nat)(d:AO)(ps:List Nat),ops[j]? =some (d,ps)->fG done j=false->ps.all (fG done)=true->fG alts j=false->fm ca T d s λs=>lF ca T ops n (j::done) s K:=by
   intro b alts h hr n hn j d ps hj hd hp ha;have h:((match ops[i]? with
    |some (_,ps)=> !(fG done i)&&ps.all (fG done)
    |none=>false)&&FZ ops r (i::done) false []&&FZ ops more done true (i::alts))=true:=by cases b<;>exact h
   have hr:y3 (match ops[i]? with
    |some (o,_)=>fm ca T o s λs=>sK ca T ops K r false s
    |none=>False) (sK ca T ops K more true s):=by cases b<;>exact hr
   simp only[aO] at h;obtain⟨⟨h1,h2⟩,h3⟩:=h;obtain⟨r1,r2⟩:=hr
   by_cases f:j=i
   ·subst f;rw[hj] at r1;have hlt:=(ah.1 hj).1;have hc:=qF hd ops.length hlt;exact jO e (λs' hs'=>(uI e r (j::done) s' (o6 a hj hp)).1 h2 hs' n qW) r1
   ·exact(uI e more done s a).2 (i::alts) h3 r2 n hn j d ps hj hd hp (by rw[hM f];exact ha)
  refine⟨λh hr n hn=>?_,λalts h hr=>key true alts h hr⟩;have hne:∃m,n=m+1:=by
   have h:((match ops[i]? with
    |some (_,ps)=> !(fG done i)&&ps.all (fG done)
    |none=>false)&&FZ ops r (i::done) false []&&FZ ops more done true [i])=true:=h
   simp only[aO] at h;cases hi:ops[i]? with
   |none=>rw[hi] at h;cases h.1.1
   |some q=>
    rw[hi] at h;have hd:fG done i=false:=by
     have:=h.1.1;simp only[aO,dz] at this;exact this.1
    have hc:=qF hd ops.length (ah.1 hi).1;exact⟨n-1,qW⟩
  obtain⟨m,rfl⟩:=hne;show xI (jx done 0 ops) _;refine sg ops 0 λj d ps hj hf hp=>?_;rw[aS] at hf⊢;exact key false [] h hr m hn j d ps hj hf hp rfl
def Uj:List (AO×List Nat)->Nat
 |(o,_)::_=>o.d.getD 0
 |[]=>0
def KF:List (Nat×yD)->Nat->Option yD
 |[],_=>none
 |(k,c)::l,i=>match Nat.beq i k with
  |true=>some c
  |false=>KF l i
def oz(a:List (Nat×yD)):AC->Bool
 |.seq x y=>oz a x&&oz a y
 |.cond _ x y=>oz a x&&oz a y
 |.block _ x=>oz a x
 |.loop x=>oz a x
 |.kO ops=>match KF a (Uj ops) with
  |some c=>FZ ops c [] false []
  |none=>false
 |_=>true
def wc(p:Prim)(T:cp)(a:cp)(b:List (Nat×yD)):AC->S->(S->Prop)->(Nat->S->Prop)->(S->Prop)->Prop
 |.skip,s,N,_,_=>N s
 |.region false ops,s,N,_,_=>oH p T ops s N
 |.region true ops,s,N,_,_=>oH p a ops s N
 |.seq x y,s,N,X,R=>wc p T a b x s (λs=>wc p T a b y s N X R) X R
 |.cond c x y,s,N,X,R=>match c.ev s with
  |.bool t=>br t (λ_=>wc p T a b x (Gu c s true) N X R) (λ_=>wc p T a b y (Gu c s false) N X R)
  |_=>False
 |.block id x,s,N,X,R=>wc p T a b x s N (λj s=>if j=id then N s else X j s) R
 |.loop x,s,_,X,R=>∃(Y:Type)(L:Y->List (Nat×V))(H:Y->List (Nat×Ob))(d:Y->Nat),(∃s1,a7 s s1/\∃y,agree (L y) s1/\fh (H y) s1)/\∀y,wc p T a b x (St (L y) (H y)) (Next L H d y) X R
 |.exit id,s,_,X,_=>X id s
 |.ret,s,_,_,R=>R s
 |.kO ops,s,N,_,_=>match KF b (Uj ops) with
  |some c=>sK p T ops N c false s
  |none=>False
theorem qQ(b:jt T):∀{l:List AO}{s:S}{K a:S->Prop},(∀s,K s->a s)->oH ca T l s K->oH ca T l s a
 |[],s,K,a,hK,h=>hK s h
 |o::l,s,K,a,hK,h=>jO b (λs' hs'=>qQ b hK hs') h
theorem pL(a:jt T){ops:List (AO×List Nat)}{K d:S->Prop}(hK:∀s,K s->d s):∀(c:yD)(b:Bool)(s:S),sK ca T ops K c b s->sK ca T ops d c b s
 |.nil,b,s,h=>by cases b;exact hK s h;trivial
 |.ex i r,b,s,h=>by
  simp only[sK] at h⊢
  split at h
  ·exact jO a (λs' hs'=>pL a hK r false s' hs') h
  ·exact h.elim
 |.alt i r more,b,s,h=>by
  simp only[sK] at h⊢;obtain⟨h1,h2⟩:=h;refine⟨?_,pL a hK more true s h2⟩
  split at h1
  ·exact jO a (λs' hs'=>pL a hK r false s' hs') h1
  ·exact h1.elim
theorem mJ{m:cp}(k:jt T)(f:jt m){l:List (Nat×yD)}:∀(ac:AC)(s:S)(N e:S->Prop)(X d:Nat->S->Prop)(R a:S->Prop),oz l ac=true->(∀s,N s->e s)->(∀j s,X j s->d j s)->(∀s,R s->a s)->wc ca T m l ac s N X R->fX ca T m ac s e d a
 |.skip,s,N,e,X,d,R,a,_,b,_,_,h=>b s h
 |.region false ops,s,N,e,X,d,R,a,_,b,_,_,h=>qQ k b h
 |.region true ops,s,N,e,X,d,R,a,_,b,_,_,h=>qQ f b h
 |.seq x y,s,N,e,X,d,R,a,hk,b,g,i,h=>by
  have hk:(oz l x&&oz l y)=true:=hk;rw[aO] at hk;exact mJ k f x s _ _ X d R a hk.1 (λs' hs'=>mJ k f y s' N e X d R a hk.2 b g i hs') g i h
 |.cond c x y,s,N,e,X,d,R,a,hk,b,g,i,h=>by
  have hk:(oz l x&&oz l y)=true:=hk;rw[aO] at hk;simp only[wc] at h;simp only[fX]
  split at h
  ·rename_i t ht;rw[ht];cases t
   ·exact mJ k f y _ N e X d R a hk.2 b g i h
   ·exact mJ k f x _ N e X d R a hk.1 b g i h
  ·exact h.elim
 |.block id x,s,N,e,X,d,R,a,hk,b,g,i,h=>mJ k f x s N e _ _ R a hk b (λj s' hs'=>by
   by_cases hj:j=id
   ·rw[ae hj] at hs'⊢;exact b _ hs'
   ·rw[aa hj] at hs'⊢;exact g _ _ hs') i h
 |.loop x,s,N,e,X,d,R,a,hk,b,g,i,h=>by
  obtain⟨Y,L,H,p,h1,h2⟩:=h;exact⟨Y,L,H,p,h1,λy=>mJ k f x _ _ _ X d R a hk (λ_ h=>h) g i (h2 y)⟩
 |.exit id,s,N,e,X,d,R,a,_,b,g,i,h=>g id s h
 |.ret,s,N,e,X,d,R,a,_,b,g,i,h=>i s h
 |.kO ops,s,N,e,X,d,R,a,hk,b,g,i,h=>by
  simp only[wc] at h;simp only[oz] at hk;simp only[fX]
  split at h
  ·rename_i c hc;rw[hc] at hk;have n:nj ops []:=λj o ps _ h=>by cases h
   exact(uI k c [] s n).1 hk (pL k b c false s h) ops.length (yr _)
  ·exact h.elim
end
theorem Oq{T a:cp}(d:jt T)(b:jt a)(c:List (Nat×yD)){ac:AC}{s:S}{N:S->Prop}{X:Nat->S->Prop}{R:S->Prop}(hk:oz c ac=true)(h:wc ca T a c ac s N X R):fX ca T a ac s N X R:=
 mJ d b ac s N N X X R R hk (λ_ h=>h) (λ_ _ h=>h) (λ_ h=>h) h
theorem mZ{P:Program}:jt (fj P):=λ_ _ _ _ _ hK hh=>BA hK hh
theorem a7.RW{s s':S}(g:Nat->Nat)(ht:∀i,(s'.t i).rl z0=(s.t i).rl z0\/s'.t i=.gS)(hh:∀k o,s'.h k=some o->∃q,s.h (g k)=some q/\o.b=q.b/\o.gA z0=q.gA z0)(hg:∀k k' o o',s'.h k=some o->s'.h k'=some o'->g k=g k'->k=k'):a7 s s':=by
 intro C n a w p hs;obtain⟨F,h1,h2⟩:=hs.ex;refine⟨⟨F,⟨λk o hk=>?_,λk k' o o' b hk c hb d=>?_,λk o b hk hb=>?_,h1.jq,h1.new,h1.lt,h1.ev⟩,λi=>?_⟩,hs.df,hs.sz⟩
 ·obtain⟨q,q1,q2,e⟩:=hh k o hk;have:=(h1.ob (g k) q q1).gA z0;rw[<-e] at this;exact this.Cw z0
 ·obtain⟨q,q1,q2,e⟩:=hh k o hk;obtain⟨l,f,j,m⟩:=hh k' o' c;exact hg k k' o o' hk c (h1.inj _ _ q l b q1 f (q2.symm.trans hb) (j.symm.trans d))
 ·obtain⟨q,q1,q2,e⟩:=hh k o hk;exact h1.live (g k) q b q1 (q2.symm.trans hb)
 ·rcases ht i with h|h
  ·have:=(h2 i).rl z0;rw[<-h] at this;exact this.SE z0
  ·rw[h];exact .gS _
theorem a7.Uk{s:S}(l:List (Nat×Nat×Ob))(t:Nat->V)(ht:∀i,(t i).rl z0=(s.t i).rl z0\/t i=.gS)(hn:(l.map (·.2.1)).Nodup)(ha:B3 l s):a7 s ⟨t,b7 (QZ l)⟩:=by
 refine a7.RW (yh l) ht (λk o hk=>(rZ l s k o ha hk).1) (λk k' o o' hk a e=>?_);obtain⟨_,p,hp,p1,p2⟩:=rZ l s k o ha hk;obtain⟨_,f,b,c,d⟩:=rZ l s k' o' ha a;have:=xm hn p hp f b (by rw[p2,d,e]);rw[<-p1,<-c,this]
def wK(l:List Nat):List (Nat×Nat):=l.map λk=>(k,k)
theorem n9:∀(l:List Nat),gI (wK l)=λk=>k
 |[]=>rfl
 |a::l=>by
  funext k
  show(if k=a then a else gI (wK l) k)=k;rw[n9 l]
  split
  ·rename_i h;exact h.symm
  ·rfl
theorem uJ:∀(l:List Nat),gT (wK l)=λk=>k
 |[]=>rfl
 |a::l=>by
  funext k
  show(if k=a then a else gT (wK l) k)=k;rw[uJ l]
  split
  ·rename_i h;exact h.symm
  ·rfl
theorem V.Ul(v:V):v.rl (λk=>k)=v:=by cases v<;>rfl
theorem Cj(l:List V):l.map (V.rl λk=>k)=l:=by
 induction l with
 |nil=>rfl
 |cons v l ih=>rw[aL,V.Ul,ih]
theorem V.mK(v:V):v.gA (λk=>k)=v:=by
 cases v<;>try rfl
 case agg cs=>exact aR V.agg (Cj cs)
 case tup vs=>
  refine aR V.tup ?_
  induction vs with
  |nil=>rfl
  |cons v l ih=>
   rw[aL,ih]
   congr 1
   cases v<;>try rfl
   case agg cs=>exact aR V.agg (Cj cs)
theorem Ob.mK(o:Ob):o.gA (λk=>k)=o:=by
 cases o;unfold Ob.gA;simp only[Ob.mk.injEq,eQ];rename_i rows
 induction rows with
 |nil=>rfl
 |cons r l ih=>rw[aL,Cj,ih]
theorem qS{h:Hp}{l:List Nat}(v:V):Arg h (wK l) v v:=by
 have:=Arg.same (h:=h) (m:=wK l) v;rw[uJ,V.mK] at this;exact this
theorem jE{h:Hp}{l:List Nat}:∀vs:List V,k6 h (wK l) vs vs
 |[]=>.nil
 |v::vs=>.cons (qS v) (jE vs)
theorem uK:∀{ks:List Nat}{L:List (Nat×Ob)},L.map (·.1)=ks->oo (wK ks) (λo=>o) L=L
 |[],[],_=>rfl
 |_::_,[],h=>by cases h
 |[],_::_,h=>by cases h
 |k::ks,(j,o)::L,h=>by
  simp only[aL,bB] at h;have:=uK h.2;unfold oo wK at this⊢;rw[aL,dB,this,h.1]
theorem m0(ks:List Nat):(wK ks).map (·.1)=ks:=by
 unfold wK;rw[ew];exact(bQ λ_ _=>rfl).trans (List.map_id ks)
theorem uL(ks:List Nat):(wK ks).map (·.2)=ks:=by
 unfold wK;rw[ew];exact(bQ λ_ _=>rfl).trans (List.map_id ks)
theorem sL{P:Program}{f:Nat}{args args':List V}{L:List (Nat×Ob)}(ks:List Nat){post:V->List (Nat×Ob)->Prop}(hs:Spec P f args' (b7 L) λv' h'=>∃a,post v' a/\h'=b7 a){h:Hp}{K:V->Hp->Prop}(ha:k6 h (wK ks) args args')
  (BB:L.map (·.1)=ks)(b:ks.Nodup)(hne:ks≠[])(c:∀p∈L,h p.1=some p.2/\p.2.Fz)(d:∀v a,post v a->a.map (·.1)=ks)(hK:∀v a,post v a->K v (h.e9 a)):fa P f args h K:=by
 refine vJ (wK ks) hs ha (by rw[m0];exact b) (by rw[uL];exact b) (by cases ks with|nil=>exact absurd rfl hne|cons _ _=>simp[wK]) (λp hp=>?_) (λp hp=>?_) (λv a hp=>by rw[m0];exact d v a hp) (λv a hp=>?_)
 ·have:p.1∈L.map (·.1):=aC.2 ⟨p,hp,rfl⟩;rw[BB] at this;exact⟨(p.1,p.1),aC.2 ⟨p.1,this,rfl⟩,rfl⟩
 ·rw[n9,uJ,(c p hp).1,aN,Ob.mK];exact⟨rfl,(c p hp).2⟩
 ·rw[n9,V.mK];have:(Ob.gA λk=>k)=λo=>o:=funext Ob.mK;rw[this,uK (d v a hp)];exact hK v a hp
theorem Ck{P:Program}{f:Nat}{args args':List V}{L:List (Nat×Ob)}(ks:List Nat){v:V}(hs:Spec P f args' (b7 L) λv' h'=>∃c,(v'=v/\c=L)/\h'=b7 c){h:Hp}{K:V->Hp->Prop}(ha:k6 h (wK ks) args args')
  (BB:L.map (·.1)=ks)(a:ks.Nodup)(b:∀p∈L,h p.1=some p.2/\p.2.Fz)(hK:K v h):fj P f args h K:=by
 refine Jq (wK ks) hs ha (by rw[m0];exact a) (by rw[uL];exact a) (by rw[m0];exact BB) (λp hp=>?_) (by rw[n9,V.mK];exact hK);rw[n9,uJ,(b p hp).1,aN,Ob.mK];exact⟨rfl,(b p hp).2⟩
theorem FE{h:Hp}{L:List (Nat×Ob)}(a:∀p∈L,h p.1=some p.2):h.e9 L=h:=by
 funext i
 unfold Hp.e9;cases hl:b7 L i with
 |none=>rfl
 |some o=>exact(a _ (jk hl)).symm
theorem KG{P:Program}{f:Nat}{args args':List V}{L:List (Nat×Ob)}(ks:List Nat){v:V}(hs:Spec P f args' (b7 L) λv' h'=>∃b,(v'=v/\b=L)/\h'=b7 b){h:Hp}{K:V->Hp->Prop}(ha:k6 h (wK ks) args args')
  (BB:L.map (·.1)=ks)(c:ks.Nodup)(hne:ks≠[])(a:∀p∈L,h p.1=some p.2/\p.2.Fz)(hK:K v h):fa P f args h K:=
 sL ks hs ha BB c hne a (λv' b hp=>by rw[hp.2];exact BB) λv' b hp=>by
  obtain⟨rfl,rfl⟩:=hp;rw[FE λp hp=>(a p hp).1];exact hK
def FF:List Nat->yD->yD
 |[],r=>r
 |i::l,r=>.ex i (FF l r)
theorem sM{P:Prim}(hP:P=ca){T a:cp}(d:jt T)(b:jt a)(c:List (Nat×yD)){ac:AC}{s:S}{N:S->Prop}{X:Nat->S->Prop}{R:S->Prop}(hk:oz c ac=true)(h:wc P T a c ac s N X R):fX P T a ac s N X R:=by
 subst hP;exact Oq d b c hk h
def pT(b:Option Nat)(rows:List (List V)):Ob:=⟨b,95,4,rows⟩
def FG(bw bl:Nat)(bs:Option Nat)(n:Nat)(pu ed:Int):Ob:=⟨some bw,107,4,[[.ptr 900 (some bl) 47 0 0,.own 1000960 bs 10 n,.int .i64 pu,.int .i64 ed]]⟩
def Cl(bs:Option Nat)(rows:List (List V)):Ob:=⟨bs,110,10,rows⟩
def DW(w r q:Int)(s:BS)(fl:Bool)(sr:List (List V))(wt:Bool)(hr:List (List V))(a:V)(b:Int):List V:=[.int .i64 w,.int .i64 r,.int .i64 q,.str s,.bool fl,.sl false 3 sr,.bool wt,.sl false 3 hr,a,.int .i64 b]
def qT(w r q:Int)(s:BS)(fl:Bool)(sr:List (List V))(wt:Bool)(hr:List (List V)):List V:=[.int .i64 w,.int .i64 r,.int .i64 q,.str s,.bool fl,.sl false 3 sr,.bool wt,.sl false 3 hr]
def kb(o1 o2 o3:Ob)(bw bl:Nat)(bs:Option Nat)(n:Nat)(pu ed:Int)(gW:List (List V))(Q:Nat->Ob):List (Nat×Ob):=
 [(900,o1),(1000900,o2),(901,o3),(960,FG bw bl bs n pu ed),(1000960,Cl bs gW),(1000970,Q 0),(1000971,Q 1),(1000972,Q 2),(1000973,Q 3)]
def yE:AC:=qr [qm 7 0,qn 8 7,qf 9 1 8,ql 10 9,qm 11 1,qo 12 (.iaddr 10 (.t 10) (.t 11)),qf 13 0 12,qd 14 8 13,qa 15 102 [.t 14],qm 6 15,qx 16 0 6,qx 17 1 6,qo 4 (.alloc 95 OL),qs 4 4 16,qm 5 17] (.kO [(qm 18 0,[]),(qn 19 18,[0]),(qf 20 1 19,[1]),(ql 21 20,[2]),(qm 22 1,[]),(qm 23 0,[]),(qn 24 23,[5]),(qf 25 1 24,[6]),(ql 26 25,[7]),(qm 27 1,[]),(qo 28 (.iaddr 10 (.t 26) (.t 27)),[8,9]),(qf 29 8 28,[10]),(ql 30 29,[11]),(qd 31 4 4,[]),(qo 32 (.bslice 95 4 [.t 31]),[13]),(qo 33 (.append 95 4 48 (.t 30) (.t 32)),[12,14]),(qo 34 (.iaddr 10 (.t 21) (.t 22)),[3,4,0,1,2,3,4,5,6,7,8,9,10,11,12,13,14,15]),(qf 35 8 34,[16,0,1,2,3,4,5,6,7,8,9,10,11,12,13,14,15]),(qs 1 35 33,[17,15,15,0,1,2,3,4,5,6,7,8,9,10,11,12,13,14,15])])
theorem Ot:fo Tryz.prog 59 Tryz.f59 yE [] 2 eV:=⟨Tryz.func59,by decide+kernel,by kernel_rfl,by kernel_rfl,by decide+kernel⟩
def DX:List (Nat×yD):=[(18,FF [0,1,2,4,5,6,7,8,9,10,11,12,13] (.alt 3 (FF [14,15,16,17,18] .nil) (.alt 14 (.alt 3 (FF [15,16,17,18] .nil) (.alt 15 (FF [3,16,17,18] .nil) .nil)) .nil)))]
theorem KH:oz DX yE=true:=by decide+kernel
theorem Ou(P:Prim)(hP:P=ca)(T g:cp)(j:jt T)(e:jt g)(o1 o2 o3:Ob)(bw bl:Nat)(bs:Option Nat)(n:Nat)(gW:List (List V))(pu ed:Int)(Q:Nat->Ob)(i:Nat)(hi:i<4)(k:Int)(b:Option Nat)(f:List (List V))(lo:Int)
  (w r q:Int)(tx:BS)(fl:Bool)(sr:List (List V))(wt:Bool)(hr:List (List V))(h:Int)(c:P.row gW (P.nat k) (DW w r q tx fl sr wt hr (.win (1000970+i) b 4 lo lo) h))
  (q1:P.fQ 0 k)(q2:P.iw k (P.int n))(l:P.da f=lo)(d mw mq m:Int)(md:List (List V))(hout:fZ T 102 [.agg (qT w r q tx fl sr wt hr)] (.tup [.agg [qI d,qI mw,qI mq,.sl false 3 md],qI m]))
  (R:S->Prop)(o:∀(s s':S)(β:Option Nat)(pre a:List (List V)),pre=f\/pre=[]->a=P.mf gW (P.nat k) (DW w r q tx fl sr wt hr (.win (1000970+i) β 4 (P.da pre) (P.add (P.da pre) (P.da [[qI d,qI mw,qI mq,.sl false 3 md]]))) h)->
   a7 s s'->hX [] [] s'->fh (kb o1 o2 o3 bw bl bs n pu ed a (fu Q i (pT β (P.je pre [[qI d,qI mw,qI mq,.sl false 3 md]])))) s'->R s):
  fX P T g yE (S0 [.ptr 960 (some bw) 4 0 0,qI k] (b7 (kb o1 o2 o3 bw bl bs n pu ed gW (fu Q i (pT b f))))) R (λ_ _=>False) R:=by
 have hb:P.bytes (P.da [[qI d,qI mw,qI mq,.sl false 3 md]]) 48:=by subst hP;show((1:Nat):Int)*48<=_;decide
 have hne:P.oc [[qI d,qI mw,qI mq,.sl false 3 md]] 1:=by subst hP;rfl
 refine sM hP j e DX KH ?_;obtain rfl|rfl|rfl|rfl:i=0\/i=1\/i=2\/i=3:=by omega
 all_goals
  cbv
  repeat'(first
  |(refine qA ?_;cbv)
  |(intro p;cbv)
  |(refine⟨_,c,?_⟩;cbv)
  |(refine hout _ _ ?_;cbv)
  |(refine y3.mk ?_ ?_;cbv)
  |exact trivial)
  all_goals exact o _ _ _ _ _ (by assumption) rfl (a7.refl _) rfl ⟨rfl,rfl,rfl,rfl,rfl,rfl,rfl,rfl,rfl,trivial⟩
def cR(c:Client)(a:V)(b:Int):List V:=DW c.who c.rev c.seq c.text c.eT (c.eZ.map a6) c.waiting (c.held.map a6) a b
def uM(qb:Nat->Option Nat)(qp:Nat->List (List V))(u:Nat->List od)(j:Nat):V:=.win (1000970+j) (qb j) 4 ((qp j).length:Int) (((qp j).length:Int)+((u j).length:Int))
def jQ(n:Nat)(c:Nat->Client)(qb:Nat->Option Nat)(qp:Nat->List (List V))(u:Nat->List od):List (List V):=(List.range n).map λj=>cR (c j) (uM qb qp u j) (c j).rev
def wQ(qb:Nat->Option Nat)(qp:Nat->List (List V))(u:Nat->List od)(j:Nat):Ob:=pT (qb j) (qp j++(u j).map fY)
def kI(qp:Nat->List (List V)):Prop:=∀j,∀r∈qp j,∀v∈r,Fz v
theorem FH{α:Type}(n k:Nat)(f g:Nat->α)(hk:k<n)(h:∀j,j≠k->g j=f j):((List.range n).map f).set k (g k)=(List.range n).map g:=by
 refine List.ext_getElem (by simp) λi h1 h2=>?_;rw[List.getElem_set];simp only[eC,aI,List.length_range] at h1
 split
 ·rename_i e;subst e;simp
 ·rename_i e;simp only[List.getElem_map,List.getElem_range];exact(h i (λh=>e h.symm)).symm
theorem hO{P:Prim}(hP:P=ca){n k:Nat}{kv:Int}(a:kv=(k:Int))(f:Nat->List V)(hk:k<n):P.row ((List.range n).map f) (P.nat kv) (f k):=by
 subst hP a;show((List.range n).map f)[((k:Int)).toNat]? =some (f k);simp[hk]
theorem jP{P:Prim}(hP:P=ca){n k:Nat}{kv:Int}(a:kv=(k:Int)){f g:Nat->List V}{r:List V}(hk:k<n)(hr:r=g k)(h:∀j,j≠k->g j=f j):P.mf ((List.range n).map f) (P.nat kv) r=(List.range n).map g:=by
 subst hP a hr;show((List.range n).map f).set ((k:Int)).toNat (g k)=_;rw[aM];exact FH n k f g hk h
theorem kJ{α:Type}(f:Nat->α)(k:Nat):fu f k (f k)=f:=by
 funext j
 unfold fu
 split
 ·rename_i e;rw[e]
 ·rfl
theorem tz(m:od):∀v∈fY m,Fz v:=by
 intro v hv;simp only[fY,ax,aF,bj] at hv
 rcases hv with rfl|rfl|rfl|rfl
 ·exact .int _ _
 ·exact .int _ _
 ·exact .int _ _
 ·exact .sl _ _ (ff _)
theorem Um{c:Client}{a:V}{b:Int}(h:Fz a):∀v∈cR c a b,Fz v:=by
 intro v hv;simp only[cR,DW,ax,aF,bj] at hv
 rcases hv with rfl|rfl|rfl|rfl|rfl|rfl|rfl|rfl|rfl|rfl
 ·exact .int _ _
 ·exact .int _ _
 ·exact .int _ _
 ·exact .str _
 ·exact .bool _
 ·exact .sl _ _ (ff _)
 ·exact .bool _
 ·exact .sl _ _ (ff _)
 ·exact h
 ·exact .int _ _
theorem RX{n:Nat}{c:Nat->Client}{bs:Option Nat}{qb:Nat->Option Nat}{qp:Nat->List (List V)}{u:Nat->List od}:(Cl bs (jQ n c qb qp u)).Fz:=by
 intro r hr v hv;obtain⟨j,_,rfl⟩:=aC.1 hr;exact Um (.win _ _ _ _ _) v hv
theorem Pw{qb:Nat->Option Nat}{qp:Nat->List (List V)}{u:Nat->List od}(h:kI qp)(j:Nat):(wQ qb qp u j).Fz:=by
 intro r hr v hv
 rcases aU.1 hr with hr|hr
 ·exact h j r hr v hv
 ·obtain⟨m,_,rfl⟩:=aC.1 hr;exact tz m v hv
theorem Ov{bw bl:Nat}{bs:Option Nat}{n:Nat}{pu ed:Int}:(FG bw bl bs n pu ed).Fz:=by
 intro r hr v hv;rw[aw.1 hr] at hv;simp only[ax,aF,bj] at hv
 rcases hv with rfl|rfl|rfl|rfl
 ·exact .ptr _ _ _ _ _
 ·exact .own _ _ _ _
 ·exact .int _ _
 ·exact .int _ _
structure KI(o1 o2 o3:Ob):Prop where
 a:o1.Fz
 b:o2.Fz
 c:o3.Fz
theorem jo{o1 o2 o3:Ob}(ho:KI o1 o2 o3){bw bl:Nat}{bs:Option Nat}{n:Nat}{pu ed:Int}{c:Nat->Client}{qb:Nat->Option Nat}{qp:Nat->List (List V)}{u:Nat->List od}(hq:kI qp):∀p∈kb o1 o2 o3 bw bl bs n pu ed (jQ n c qb qp u) (wQ qb qp u),p.2.Fz:=by
 intro p hp;simp only[kb,ax,aF,bj] at hp
 rcases hp with rfl|rfl|rfl|rfl|rfl|rfl|rfl|rfl|rfl
 ·exact ho.a
 ·exact ho.b
 ·exact ho.c
 ·exact Ov
 ·exact RX
 all_goals exact Pw hq _
def KJ:List Nat:=[900,1000900,901,960,1000960,1000970,1000971,1000972,1000973]
theorem nq:KJ.Nodup:=by decide
structure HW(h:Hp)(o1 o2 o3:Ob)(bw bl:Nat)(bs:Option Nat)(n:Nat)(pu ed:Int)(gW:List (List V))(Q:Nat->Ob):Prop where
 h1:h 900=some o1
 h2:h 1000900=some o2
 h3:h 901=some o3
 h4:h 960=some (FG bw bl bs n pu ed)
 h5:h 1000960=some (Cl bs gW)
 h6:h 1000970=some (Q 0)
 h7:h 1000971=some (Q 1)
 h8:h 1000972=some (Q 2)
 h9:h 1000973=some (Q 3)
theorem HW.all{h:Hp}{o1 o2 o3:Ob}{bw bl:Nat}{bs:Option Nat}{n:Nat}{pu ed:Int}{gW:List (List V)}{Q:Nat->Ob}(H:HW h o1 o2 o3 bw bl bs n pu ed gW Q):∀p∈kb o1 o2 o3 bw bl bs n pu ed gW Q,h p.1=some p.2:=by
 intro p hp;simp only[kb,ax,aF,bj] at hp
 rcases hp with rfl|rfl|rfl|rfl|rfl|rfl|rfl|rfl|rfl
 ·exact H.h1
 ·exact H.h2
 ·exact H.h3
 ·exact H.h4
 ·exact H.h5
 ·exact H.h6
 ·exact H.h7
 ·exact H.h8
 ·exact H.h9
theorem Ow{c:Client}(h:jA c=0)(hf:c.eT=true):ud c=(il c,0):=by
 unfold ud;rw[aa (λg=>g h),aa (by rw[hf];decide)];rfl
theorem Ox(o1 o2 o3:Ob)(ho:KI o1 o2 o3)(bw bl:Nat)(bs:Option Nat)(n:Nat)(pu ed:Int)(c:Nat->Client)(qb:Nat->Option Nat)(qp:Nat->List (List V))(u:Nat->List od)(hq:kI qp)(k:Nat)(hk:k<n)(hn:n<=4)(e:jA (c k)=0)(hf:(c k).eT=true)(hu:u k=[]):
  Spec Tryz.prog 59 [.ptr 960 (some bw) 4 0 0,qI (k:Int)] (b7 (kb o1 o2 o3 bw bl bs n pu ed (jQ n c qb qp u) (wQ qb qp u))) λv h'=>∃o,(∃b a,v=.tup []/\kI a/\o=kb o1 o2 o3 bw bl bs n pu ed (jQ n c b a (fu u k [il (c k)])) (wQ b a (fu u k [il (c k)])))/\h'=b7 o:=by
 have hs:=oZ e;have hh:=sB e;have t:maxLen=9223372036854775807:=by decide
 refine fe gY Ot (L:=kb o1 o2 o3 bw bl bs n pu ed (jQ n c qb qp u) (wQ qb qp u)) (λv o=>∃b a,v=.tup []/\kI a/\o=kb o1 o2 o3 bw bl bs n pu ed (jQ n c b a (fu u k [il (c k)])) (wQ b a (fu u k [il (c k)]))) λR w=>?_;have hout:=fU (args:=[.agg (ef (c k))]) (Od (c k) qW qW) (λh=>.cons (.same (.agg (ef (c k)))) .nil) rfl;rw[Ow e hf] at hout;have y:fu (wQ qb qp u) k (pT (qb k) (qp k))=wQ qb qp u:=by
  have:pT (qb k) (qp k)=wQ qb qp u k:=by unfold wQ;rw[hu,cJ,aJ]
  rw[this,kJ]
 rw[<-y];refine Ou ca rfl _ _ n7 mZ o1 o2 o3 bw bl bs n _ pu ed (wQ qb qp u) k qW k (qb k) (qp k) ((qp k).length:Int) _ _ _ _ _ _ _ _ (c k).rev ?_ (aT _) (by show(k:Int)<n;omega) rfl _ _ _ _ _ hout R ?_
 ·have:=hO (P:=ca) rfl (kv:=(k:Int)) rfl (λj=>cR (c j) (uM qb qp u j) (c j).rev) hk;simp only[cR,uM,hu,aK,Int.natCast_zero,dy] at this;exact this
 ·rintro s s' β pre d f i he hr ha;have p:fu (wQ qb qp u) k (pT β (ca.je pre [fY (il (c k))]))=wQ (fu qb k β) (fu qp k pre) (fu u k [il (c k)]):=by
   funext j
   unfold wQ fu
   by_cases hj:j=k
   ·simp only[ae hj];rfl
   ·simp only[aa hj]
  have q:d=jQ n c (fu qb k β) (fu qp k pre) (fu u k [il (c k)]):=by
   rw[i];refine jP (P:=ca) rfl (kv:=(k:Int)) rfl (g:=λj=>cR (c j) (uM (fu qb k β) (fu qp k pre) (fu u k [il (c k)]) j) (c j).rev) hk ?_ λj hj=>?_
   ·simp only[cR,uM,gw];rfl
   ·simp only[uM,iF _ _ hj]
  have l:kI (fu qp k pre):=by
   intro j r hr v hv;unfold fu at hr
   split at hr
   ·rcases f with rfl|rfl
    ·exact hq k r hr v hv
    ·cases hr
   ·exact hq j r hr v hv
  have m:fh (kb o1 o2 o3 bw bl bs n pu ed d (fu (wQ qb qp u) k (pT β (ca.je pre [fY (il (c k))])))) s':=ha;rw[p,q] at m;exact w s s' (.tup []) _ he (eS _ _ _ (λx hx=>by rw[hx];rfl) hr) m (.tup _ (λv hv=>by cases hv)) (jo ho l) ⟨_,_,rfl,l,rfl⟩
def RY(T:cp):Prop:=∀(o1 o2 o3:Ob)(bw bl:Nat)(bs:Option Nat)(n:Nat)(pu ed:Int)(gW:List (List V))(Q:Nat->Ob)(c:Nat->Client)(qb:Nat->Option Nat)(qp:Nat->List (List V))(u:Nat->List od)(k:Nat)(kv:Int)(h:Hp)(K:V->Hp->Prop),HW h o1 o2 o3 bw bl bs n pu ed gW Q->KI o1 o2 o3->
 gW=jQ n c qb qp u->Q=wQ qb qp u->kI qp->kv=(k:Int)->k<n->n<=4->jA (c k)=0->(c k).eT=true->u k=[]->
 (∀d b a e,kI b->a=jQ n c d b (fu u k [il (c k)])->e=wQ d b (fu u k [il (c k)])->K (.tup []) (h.e9 (kb o1 o2 o3 bw bl bs n pu ed a e)))->T 59 [.ptr 960 (some bw) 4 0 0,qI kv] h K
theorem Un:RY (fa Tryz.prog):=by
 rintro o1 o2 o3 bw bl bs n pu ed gW Q c qb qp u k kv h K hw ho rfl rfl hq rfl hk hn d hf hu hK;refine sL KJ (Ox o1 o2 o3 ho bw bl bs n pu ed c qb qp u hq k hk hn d hf hu) (jE _) rfl nq qD (λp hp=>⟨hw.all p hp,jo ho hq p hp⟩) ?_ ?_
 ·rintro v f ⟨a,b,rfl,_,rfl⟩;rfl
 ·rintro v f ⟨a,b,rfl,e,rfl⟩;exact hK a b _ _ e rfl rfl
theorem tA:∀a b:List Part,hV (a++b)=hV a+hV b
 |[],b=>by simp[hV]
 |p::a,b=>by rw[ay,hV,hV,tA a b];omega
theorem we:∀d:List Part,(∀p∈d,oq p)->0<=hV d/\hV d<=500*d.length
 |[],_=>⟨bf _,by simp[hV]⟩
 |p::d,h=>by
  have h1:=gu (h p (by simp));have h2:=we d λq hq=>h q (by simp[hq]);rw[hV,ar];omega
def AZ:AC:=qr [qz 2 0] (qr [qz 3 0] (qq (qr [qm 6 0,qo 7 (.len false (.t 6)),qz 8 0] (.block 0 (.loop (qr [qb 9 .lss 8 7] (qq (qu 9 .skip (.exit 0)) (qq (.block 1 (qr [qo 10 (.iaddr 3 (.t 6) (.t 8)),qd 11 3 10,qo 5 (.alloc 115 wj),qs 3 5 11] (qR [qm 12 3,qf 13 2 5,ql 14 13,qo 15 (.len true (.t 14)),qb 16 .add 12 15,qm 3 16]))) (qR [qc 17 .add 8 1,qm 8 17]))))))) (qr [qm 18 3,qm 2 18] .ret)))
theorem KK:fo Tryz.prog 57 Tryz.f57 AZ [.t 2] 1 eV:=⟨Tryz.func57,by decide+kernel,by kernel_rfl,by kernel_rfl,by decide+kernel⟩
theorem KL(P:Prim)(hP:P=ca)(T e:cp)(d:List Part)(f:d.length<=1600)(a:∀p∈d,oq p)(rows:List (List V))(dS:rows=d.map a6)(r1:Int)(hr1:hV d=r1)
  (R:S->Prop)(b:∀s s',a7 s s'->hX [.t 2] [qI r1] s'->R s):fX P T e AZ (S0 [.sl true 3 rows] Hp.emp) R (λ_ _=>False) R:=by
 cbv;refine⟨{y:Int×Int×List Part×List Part//d=y.2.2.1++y.2.2.2/\y.2.1=y.2.2.1.length/\y.1=hV y.2.2.1},λy=>[(3,qI y.1.1),(6,.sl true 3 rows),(7,qI (P.da rows)),(8,qI y.1.2.1)],λ_=>[],λy=>y.1.2.2.2.length,
  ⟨_,a7.refl _,⟨(0,0,[],d),rfl,rfl,rfl⟩,?_,?_⟩,?_⟩
 ·cbv
 ·cbv
 rintro⟨⟨i,k,pre,rest⟩,hd,hk,hi⟩
 dsimp only at hd hk hi
 cbv;have hl:P.da rows=pre.length+rest.length:=by subst hP;simp[ca,dS,hd]
 have g:d.length=pre.length+rest.length:=by rw[hd];simp
 refine ab (λh=>?_) (λh=>?_)
 ·rcases rest with _|⟨⟨kd,n,t⟩,rest⟩
  ·(exfalso;clear b;subst hP;simp[ca,nc] at*;first|omega|grind)
  cbv;have c:=m7 dS hd hk P hP;have hp:=gu (a ⟨kd,n,t⟩ (by simp[hd]));have hb1:=we pre (λp hp=>a p (by simp[hd,hp]))
  repeat'(first|(intro β;cbv)|(refine And.intro (by assumption) ?_;cbv)|(refine ab (λh=>?_) (λh=>?_)<;>try cbv)|(refine Exists.intro _ (And.intro (by assumption) ?_);cbv)|(refine hc1 _ _ ?_;cbv)|(refine j _ _ ?_;cbv)|(refine l _ _ ?_;cbv)|(refine m _ _ ?_;cbv)|(refine o _ _ ?_;cbv)|(refine q _ _ ?_;cbv)|(refine And.intro (by(clear b;subst hP;simp[ca,iU,nc] at* <;>first|omega|grind)) ?_;cbv))
  all_goals
   refine⟨_,a7.refl _,⟨(_,_,pre++[⟨kd,n,t⟩],rest),?_⟩,⟨rfl,rfl,rfl,rfl,trivial⟩,trivial,by simp⟩;clear b c;subst hP;simp[ca,nc,tA,hV] at*
   grind
 ·cbv;refine b _ _ (a7.refl _) ?_;have:rest=[]:=by
   cases rest with
   |nil=>rfl
   |cons p rest=>(exfalso;clear b;subst hP;simp[ca,nc] at*;first|omega|grind)
  subst this;simp only[aJ] at hd;cbv;rw[<-hr1,hd,<-hi]
theorem KM(d:List Part)(a:d.length<=1600)(b:∀p∈d,oq p):Spec Tryz.prog 57 [.sl true 3 (d.map a6)] Hp.emp (Is (.int .i64 (hV d))):=
 eW gY KK [.int .i64 (hV d)] (.int _ _) λR c=>KL ca rfl _ _ d a b _ rfl _ rfl R c
def gE(n:Nat)(w:WS)(kv:Int)(d:List Part):Int×WS:=
 if kv<0\/(n:Int)<=kv then(1,w) else if gO d (w.c kv.toNat).text.length≠0 then(gO d (w.c kv.toNat).text.length,w)
 else if w.ed=64 then(11,w) else if 500<w.pu+hV d then(2,w) else(0,nn w kv.toNat d)
theorem KN{c:Client}{d:List Part}(h:(gD c d).2=0):(gD c d).1.rev=c.rev:=by
 unfold gD at h⊢
 repeat' split at h<;>simp_all
def A0:AC:=qr [qz 6 0] (qq (qr [qm 11 1,qc 12 .lss 11 0,qm 13 12,qg 14 13 false (.mov (.t 1)),qg 15 13 false (.mov (.t 0)),qg 16 13 false (.nilchk (.t 15)),qg 17 13 false (.faddr 1 (.t 16)),qg 18 13 false (.load1 (.t 17)),qg 19 13 false (.len false (.t 18)),qg 20 13 false (.bin .geq (.t 14) (.t 19)),qo 21 (.pick (.t 13) (.c (.bool true)) (.t 20))] (qu 21 (qr [qz 6 1] .ret) .skip)) (qr [qm 22 0,qn 23 22,qf 24 1 23,ql 25 24,qm 26 1,qo 27 (.iaddr 10 (.t 25) (.t 26)),qf 28 0 27,qd 29 8 28,qo 7 (.alloc 64 iY),qs 8 7 29] (qq (qr [qm 30 2,qf 31 3 7,ql 32 31,qo 33 (.len true (.t 32)),qa 34 56 [.t 30,.t 33],qm 8 34] (qr [qm 35 8,qc 36 .neq 35 0] (qu 36 (qr [qm 37 8,qm 6 37] .ret) .skip))) (qq (qr [qm 38 0,qn 39 38,qf 40 3 39,ql 41 40,qc 42 .eql 41 64] (qu 42 (qr [qz 6 11] .ret) .skip)) (qq (qq (.region true [qm 43 0,qn 44 43,qf 45 2 44,ql 46 45,qm 47 2,qa 48 57 [.t 47],qb 49 .add 46 48,qc 50 .gtr 49 500]) (qu 50 (qr [qz 6 2] .ret) .skip)) (qr [qm 51 0,qn 52 51,qf 53 3 52,ql 54 53,qc 55 .add 54 1,qn 56 51,qf 57 3 56,qs 1 57 55] (qq (.region true [qm 58 0,qn 59 58,qf 60 2 59,ql 61 60,qm 62 2,qa 63 57 [.t 62],qb 64 .add 61 63,qn 65 58,qf 66 2 65,qs 1 66 64]) (qr [qd 68 8 7,qm 69 2,qa 70 58 [.t 68,.t 69],qm 67 70,qx 71 0 67,qx 72 1 67,qo 9 (.alloc 64 iY),qs 8 9 71,qm 10 72] (qq (.region true [qm 73 0,qn 74 73,qf 75 1 74,ql 76 75,qm 77 1,qd 78 8 9,qo 79 (.iaddr 10 (.t 76) (.t 77)),qf 80 0 79,qs 8 80 78]) (qq (qr [qf 81 4 7,ql 82 81,qo 83 (.not (.t 82))] (qu 83 (qR [qm 84 0,qm 85 1,qa 86 59 [.t 84,.t 85]]) .skip)) (qr [qz 6 0] .ret)))))))))))
theorem KO:fo Tryz.prog 12 Tryz.f12 A0 [.t 6] 3 eV:=⟨Tryz.func12,by decide+kernel,by kernel_rfl,by kernel_rfl,by decide+kernel⟩
theorem KP(P:Prim)(hP:P=ca)(T T1:cp)(N:RY T)(o1 o2 o3:Ob)(ho:KI o1 o2 o3)(bw bl:Nat)(bs:Option Nat)(n:Nat)(hn:n<=4)(w:WS)(pu ed:Int)(l:pu=w.pu)(m:ed=w.ed)(PN:0<=pu/\pu<=500)(YI:0<=ed/\ed<=64)(gW:List (List V))(Q:Nat->Ob)(qb:Nat->Option Nat)(qp:Nat->List (List V))(hq:kI qp)(f:gW=jQ n w.c qb qp w.u)(E:Q=wQ qb qp w.u)
  (kv:Int)(d:List Part)(dr:List (List V))(Ss:dr=d.map a6)(z:Int)(A:z=hV d)
  (O:∀(t:BS)(e:Int),e=gO d t.length->fZ T 56 [.sl false 3 dr,qI (P.eP t)] (qI e))(F:∀t:BS,gO d t.length=0->(0<=z/\z<=500)/\fZ T1 57 [.sl false 3 dr] (qI z))
  (U:∀k,k<n->∀(a b c:Int)(t:BS)(fl:Bool)(sr:List (List V))(wt:Bool)(hr:List (List V))(a' b' c':Int)(t':BS)(W:Bool)(X:List (List V))(Y:Bool)(Z:List (List V)),qT a b c t fl sr wt hr=ef (w.c k)->qT a' b' c' t' W X Y Z=ef (gD (w.c k) d).1->fZ T 58 [.agg (qT a b c t fl sr wt hr),.sl false 3 dr] (.tup [.agg (qT a' b' c' t' W X Y Z),qI (gD (w.c k) d).2]))
  (V9:∀k,k<n->gO d (w.c k).text.length=0->ed≠64->pu+z<=500->(gD (w.c k) d).2=0/\jA (gD (w.c k) d).1=0/\(gD (w.c k) d).1.eT=true/\((w.c k).eT=false->w.u k=[]))
  (R:S->Prop)(G:∀(s s':S)(v:Int)(w':WS)(Uo Up:Int)(B:Nat->Option Nat)(p:Nat->List (List V))(q:List (List V))(Q':Nat->Ob),(v,w')=gE n w kv d->Uo=w'.pu->Up=w'.ed->kI p->q=jQ n w'.c B p w'.u->Q'=wQ B p w'.u->a7 s s'->hX [.t 6] [qI v] s'->fh (kb o1 o2 o3 bw bl bs n Uo Up q Q') s'->R s):
  fX P T T1 A0 (S0 [.ptr 960 (some bw) 4 0 0,qI kv,.sl false 3 dr] (b7 (kb o1 o2 o3 bw bl bs n pu ed gW Q))) R (λ_ _=>False) R:=by
 have jF:P.int n=(n:Int):=by subst hP;rfl
 cbv;refine ab (λg=>?_) (λg=>?_)
 ·have g1:kv<0:=fA hP g;cbv;exact G _ _ 1 w pu ed qb qp gW Q (by unfold gE;rw[ae (.inl g1)]) l m hq f E (a7.refl _) rfl ⟨rfl,rfl,rfl,rfl,rfl,rfl,rfl,rfl,rfl,trivial⟩
 have g1:¬kv<0:=fg hP g;cbv;refine ab (λg=>?_) (λg=>?_)
 ·have g2:P.int n<=kv:=iG hP g;rw[jF] at g2;cbv;exact G _ _ 1 w pu ed qb qp gW Q (by unfold gE;rw[ae (.inr g2)]) l m hq f E (a7.refl _) rfl ⟨rfl,rfl,rfl,rfl,rfl,rfl,rfl,rfl,rfl,trivial⟩
 have g2:¬P.int n<=kv:=iA hP g;rw[jF] at g2;obtain⟨k,hk⟩:∃k:Nat,kv=(k:Int):=⟨kv.toNat,qO⟩;have r:k<n:=by((try simp only[nc] at*);omega)
 have Wa:kv.toNat=k:=by((try simp only[nc] at*);omega)
 have q1:P.fQ 0 kv:=iQ hP qO;have q2:P.iw kv (P.int n):=kZ hP (by rw[jF];((try simp only[nc] at*);omega));have i:P.row gW (P.nat kv) (cR (w.c k) (uM qb qp w.u k) (w.c k).rev):=by rw[f];exact hO hP hk _ r
 obtain⟨uv,H⟩:∃uv,uv=uM qb qp w.u k:=⟨_,rfl⟩;rw[<-H] at i;have YJ:V.one uv=true:=by rw[H];rfl
 obtain⟨c,hc⟩:∃c,c=w.c k:=⟨_,rfl⟩;obtain⟨x,hx⟩:∃x,x=(gD c d).1:=⟨_,rfl⟩;have L:=U k r;have hF:=V9 k r;rw[<-hc] at i L hF;rw[<-hx] at L hF;obtain⟨e2,Vf⟩:∃e2,e2=(gD c d).2:=⟨_,rfl⟩;rw[<-Vf] at L hF;have o:gE n w kv d=if gO d c.text.length≠0 then(gO d c.text.length,w) else if w.ed=64 then(11,w) else if 500<w.pu+hV d then(2,w) else(0,nn w k d):=by
  unfold gE;rw[aa qO,Wa,hc]
 have I:=KN (c:=c) (d:=d);rw[<-hx,<-Vf] at I;obtain⟨c1,c2,c3,c4,c5,c6,c7,c8⟩:=c;obtain⟨x1,x2,x3,x4,C,J,D,K⟩:=x;obtain⟨sr,Px⟩:∃sr,sr=c6.map a6:=⟨_,rfl⟩;obtain⟨hr,KQ⟩:∃hr,hr=c8.map a6:=⟨_,rfl⟩;obtain⟨sx,KR⟩:∃sr,sr=J.map a6:=⟨_,rfl⟩;obtain⟨Py,KS⟩:∃hr,hr=K.map a6:=⟨_,rfl⟩;simp only[cR] at i;rw[<-Px,<-KQ] at i;have L:=L c1 c2 c3 c4 c5 sr c7 hr x1 x2 x3 x4 C sx D Py (by rw[Px,KQ];rfl) (by rw[KR,KS];rfl);obtain⟨M,PQ⟩:∃M,M=gO d c4.length:=⟨_,rfl⟩;have Wb:=O c4 M PQ;have y:=F c4;simp only at o hF I;rw[<-PQ] at o hF y;cbv
 repeat'(first
  |(refine qA ?_;cbv)
  |(intro LI;cbv)
  |(refine⟨_,i,?_⟩;cbv)
  |(refine Wb _ _ ?_;cbv)
  |fail)
 refine ab (λg=>?_) (λg=>?_)
 ·have g3:M≠0:=fE hP g;rw[ae g3] at o;cbv;exact G _ _ M w pu ed qb qp gW Q o.symm l m hq f E (a7.refl _) rfl ⟨rfl,rfl,rfl,rfl,rfl,rfl,rfl,rfl,rfl,trivial⟩
 have g3:M=0:=fD hP g;rw[aa (λh=>h g3)] at o;cbv;refine ab (λg=>?_) (λg=>?_)
 ·have g4:ed=64:=na hP g;rw[ae (by rw[<-m];exact g4)] at o;cbv;exact G _ _ 11 w pu ed qb qp gW Q o.symm l m hq f E (a7.refl _) rfl ⟨rfl,rfl,rfl,rfl,rfl,rfl,rfl,rfl,rfl,trivial⟩
 have g4:¬ed=64:=nd hP g;rw[aa (by rw[<-m];exact g4)] at o;obtain⟨⟨p1,p2⟩,y⟩:=y g3;have i1:P.i64 (P.add pu z):=by rw[add_eq hP];exact ft hP qW
 have i2:P.i64 (P.add ed 1):=by rw[add_eq hP];exact ft hP qW
 cbv
 repeat'(first
  |(refine qA ?_;cbv)
  |(intro LI;cbv)
  |(refine y _ _ ?_;cbv)
  |fail)
 refine ab (λg=>?_) (λg=>?_)
 ·have g5:500<P.add pu z:=fA hP g;rw[add_eq hP] at g5;rw[ae (by rw[<-l,<-A];exact g5)] at o;cbv;exact G _ _ 2 w pu ed qb qp gW Q o.symm l m hq f E (a7.refl _) rfl ⟨rfl,rfl,rfl,rfl,rfl,rfl,rfl,rfl,rfl,trivial⟩
 have g5:¬500<P.add pu z:=fg hP g;rw[add_eq hP] at g5;rw[aa (by rw[<-l,<-A];exact g5)] at o;obtain⟨f1,f2,f3,f4⟩:=hF g3 g4 qW;cbv
 repeat'(first
  |(refine qA ?_;cbv)
  |(intro LI;cbv)
  |(refine⟨_,i,?_⟩;cbv)
  |(refine y _ _ ?_;cbv)
  |(refine L _ _ ?_;cbv)
  |fail)
 have Wc:x2=c2:=I f1;have hS:P.mf gW (P.nat kv) (DW x1 x2 x3 x4 C sx D Py uv c2)=jQ n (fu w.c k ⟨x1,x2,x3,x4,C,J,D,K⟩) qb qp w.u:=by
  rw[f];refine jP hP hk (g:=λj=>cR (fu w.c k ⟨x1,x2,x3,x4,C,J,D,K⟩ j) (uM qb qp w.u j) (fu w.c k ⟨x1,x2,x3,x4,C,J,D,K⟩ j).rev) r ?_ λj hj=>?_
  ·simp only[cR,gw];rw[<-KR,<-KS,H,Wc]
  ·simp only[iF _ _ hj]
 have hW:nn w k d=⟨fu w.c k ⟨x1,x2,x3,x4,C,J,D,K⟩,fu w.u k (if c5 then w.u k else[il ⟨x1,x2,x3,x4,C,J,D,K⟩]),w.pu+hV d,w.ed+1⟩:=by
  unfold nn;rw[<-hc,<-hx]
 rw[hW] at o;refine ab (λg=>?_) (λg=>?_)
 ·have g6:c5=true:=g;rw[g6,ae rfl,kJ] at o;cbv;exact G _ _ 0 _ _ _ qb qp _ Q o.symm ((add_eq hP pu z).trans (by rw[l,A])) ((add_eq hP ed 1).trans (by rw[m])) hq hS E (a7.refl _) rfl ⟨rfl,rfl,rfl,rfl,rfl,rfl,rfl,rfl,rfl,trivial⟩
 ·have g6:c5=false:=g;rw[g6,aa qD] at o;cbv;refine N o1 o2 o3 bw bl bs n _ _ _ Q (fu w.c k ⟨x1,x2,x3,x4,C,J,D,K⟩) qb qp w.u k kv _ _ ⟨rfl,rfl,rfl,rfl,rfl,rfl,rfl,rfl,rfl⟩ ho hS E hq hk r hn (by rw[gw];exact f2) (by rw[gw];exact f3) (f4 g6) λB p q Q' RZ hs' KT=>?_;rw[gw] at hs' KT;cbv;exact G _ _ 0 _ _ _ B p _ Q' o.symm ((add_eq hP pu z).trans (by rw[l,A])) ((add_eq hP ed 1).trans (by rw[m])) RZ hs' KT (a7.refl _) rfl ⟨rfl,rfl,rfl,rfl,rfl,rfl,rfl,rfl,rfl,trivial⟩
end Go.Proofs.YtobngncjflogcaaGreat.AM
