/-
  Part 16 of what the law ShopPlays reaches: the plain machine, contracts of the functions and plain laws; each lemma says its own condition.
-/
import Derived.Test.YtobngncjflogcaaGreatShopPlays15
import Derived.Test.YtobngncjflogcaaGreatShopPlays6
import Derived.Test.YtobngncjflogcaaGreatShopPlays7
set_option linter.unusedVariables false
set_option linter.unusedSimpArgs false
namespace Go.Proofs.YtobngncjflogcaaGreat.AM
open Go Go.RowKit
set_option maxRecDepth 100000
set_option maxHeartbeats 2000000
def lS(d:SC)(m:Option Mv)(t:BS):SC:=match m with
 |none=>jd d d.dE t
 |some m=>if m.w=true then jd (jd d d.dE t) (1-d.dE) t else jd d d.dE t
theorem KD(P:Prim)(hP:P=dn)(T G:c8)(y:∀f vs h h' K,jU h h'->T f vs h' K->T f vs h K)(z:vA T)(A:Ek T)(H:mu T)(bl bm:Nat)(d:SC)(ba:Option Nat)(l:List eP)(n:Nat)(hn:n=l.length)(rows:List (List V))(ds:rows=l.map ca)(hat:d.dE=0\/d.dE=1)
  (r:eP)(w q:Int)(dr:List (List V))(I:w=r.who/\q=r.seq/\dr=r.delta.map bd)(J:∀x∈dr,∀v∈x,Fz v)(hb:0<=d.b/\d.b<=2147483647)
  (e1:Int)(B:e1=0->dr.length<=1000000000)(h1:∀(h:Hp)(K:V->Hp->Prop),h 1000001=some ⟨ba,91,3,rows⟩->K (qI e1) h->G 77 [.agg [qI d.gn,qI d.b,.str d.tx,qI (d.fs 0),qI (d.fs 1),qI (d.fs 2),qI (d.fs 3),qI (d.fs 4),qI (d.fs 5),qI (d.fs 6),qI (d.fs 7),qI (d.fs 8),qI (d.fs 9),qI (d.fs 10),qI (d.fs 11),qI (d.fs 12),qI (d.fs 13),qI (d.fs 14),qI (d.fs 15),qI (d.tb 0),qI (d.tb 1),qI (d.tb 2),qI (d.tb 3),qI (d.tb 4),qI (d.tb 5),qI (d.tb 6),qI (d.tb 7),qI (d.tb 8),qI (d.tb 9),qI (d.tb 10),qI (d.tb 11),qI (d.tb 12),qI (d.tb 13),qI (d.tb 14),qI (d.tb 15),.own 1000001 ba 3 n,.bool d.wh,qI d.gd],qI (P.c9 d.now),.agg [qI w,qI q,.sl false 3 dr]] h K)
  (L:e1=0->(0<=r.who/\r.who<=7)/\l.length<64)(t:BS)(e:Int)(M:t.length<=140737488355328)
  (h2:e1=0->∀(k:Nat)(b:Option Nat)(n':Nat)(h:Hp)(K:V->Hp->Prop),n'=dr.length->h k=some ⟨b,115,3,dr⟩->K (.tup [.str t,qI e]) h->T 78 [.agg [qI w,qI q,.own k b 3 n']] h K)
  (u:BS)(f:Int)(h3:e1=0->gK G 79 [.sl false 3 dr,.str d.now] (.tup [.str u,qI f]))
  (Y:rD)(m:Y=(if e1≠0 then⟨d,l,0,e1⟩ else if e≠0 then⟨d,l,0,e⟩ else⟨vB {lS d (none:Option Mv) t with now:=u} l r,l++[r],d.b+(l.length+1:Nat),0⟩))
  (R:S->Prop)(N:∀s s' O n' i,n'=Y.l.length->i=Y.l.map ca->c6 s s'->iH [.t 4,.t 5] [qI Y.v,qI Y.e] s'->fG (S3 bl Y.d O n' i bm (none:Option Mv)) s'->R s):
  gj P T G uG (S0 [.ptr 0 (some bl) 47 0 0,.agg [qI w,qI q,.sl false 3 dr]] (cp (S3 bl d ba n rows bm (none:Option Mv)))) R (λ_ _=>False) R:=by
 have f2:dr.length=P.fQ dr:=by subst hP;rfl
 have m1:P.i64 (P.sub 1 d.dE):=by rw[sub_eq hP];exact eR hP qW
 have m2:P.sub 1 d.dE=1-d.dE:=sub_eq hP _ _;cbv
 repeat' first|(refine qA ?_;cbv)|(intro a;cbv)|(refine h1 _ _ rfl ?_;cbv)|fail
 refine ab (λg=>?_) (λg=>?_)
 ·have g1:e1≠0:=hH hP g;rw[ae g1] at m;cbv
  repeat' first|(refine qA ?_;cbv)|(intro a;cbv)
  subst m;exact N _ _ ba n rows hn ds (c6.refl _) rfl ⟨rfl,rfl,rfl,trivial⟩
 have g1:e1=0:=gZ hP g;rw[aa (λQ=>Q g1)] at m;obtain⟨hw,Ot⟩:=L g1;have B:=B g1;have f1:P.bytes (P.dv dr) 32:=by subst hP;show(dr.length:Int)*32<=_;((try simp only[nc] at*);omega)
 cbv
 repeat' first|(refine qA ?_;cbv)|(intro a;cbv)|(refine h2 g1 1000025 _ _ _ _ f2.symm rfl ?_;cbv)|fail
 refine ab (λg=>?_) (λg=>?_)
 ·have g2:e≠0:=hH hP g;rw[ae g2] at m;cbv
  repeat' first|(refine qA ?_;cbv)|(intro a;cbv)
  subst m;exact N _ _ ba n rows hn ds (c6.refl _) rfl ⟨rfl,rfl,rfl,trivial⟩
 have g2:e=0:=gZ hP g;rw[aa (λQ=>Q g2)] at m;cbv
 repeat' first|(refine qA ?_;cbv)|(intro a;cbv)
 refine y _ _ _ _ _ (jU.FA (k:=1000025) (q:=3) (c:=2) rfl rfl rfl rfl rfl rfl f2 J) ?_;refine z 0 bl d (.own 1000001 ba 3 n) .nil _ _ _ _ M ⟨⟨.own _ _ _ _,rfl⟩,.nil,rfl⟩ rfl rfl rfl λd0 U=>?_;obtain⟨d1,j⟩:∃d1,d1=d0:=⟨_,rfl⟩;rw[<-j];rw[U] at j;have hb1:d1.b=d.b:=by rw[j];rfl
 have p:d1.now=d.now:=by rw[j];rfl
 have W:gK G 79 [.sl false 3 dr,.str d1.now] (.tup [.str u,qI f]):=by rw[p];exact h3 g1
 cbv
 repeat' first|(refine qA ?_;cbv)|(intro a;cbv)|(refine W _ _ ?_;cbv)|fail
 refine A 0 1000001 bl {d1 with now:=u} ba n rows l .nil w q dr r _ _ ds hn qW I hw (by show 0<=d1.b/\d1.b<=_;rw[hb1];omega) ⟨⟨.nil,rfl⟩,rfl⟩ rfl rfl rfl rfl λC d2 n2 ij D E o=>?_
 have hb2:d2.b=d.b:=by rw[D];exact hb1
 cbv
 repeat' first|(refine qA ?_;cbv)|(intro a;cbv)
 refine H 0 bl d2 1000001 C n2 .nil _ _ (by rw[hb2];omega) qW ⟨.nil,rfl⟩ rfl rfl rfl λv hv=>?_;cbv
 repeat' first|(refine qA ?_;cbv)|(intro a;cbv)
 have X:v=Y.v:=by rw[m,hv,hb2,E]
 have Z:Y.d=d2:=by rw[m,D,j];rfl
 have F:Y.l=l++[r]:=by rw[m]
 have T9:Y.e=0:=by rw[m]
 subst X;refine N _ _ C n2 ij (by rw[F,E];simp) (by rw[F,o]) (c6.refl _) (by rw[T9];rfl) ?_;rw[Z];exact⟨rfl,rfl,rfl,trivial⟩
theorem KE(P:Prim)(hP:P=dn)(T G:c8)(y:∀f vs h h' K,jU h h'->T f vs h' K->T f vs h K)(z:vA T)(A:Ek T)(H:mu T)(bl bm:Nat)(I J:Int)(d:SC)(ba:Option Nat)(l:List eP)(n:Nat)(hn:n=l.length)(rows:List (List V))(ds:rows=l.map ca)(hat:d.dE=0\/d.dE=1)
  (r:eP)(w q:Int)(dr:List (List V))(L:w=r.who/\q=r.seq/\dr=r.delta.map bd)(M:∀x∈dr,∀v∈x,Fz v)(hb:0<=d.b/\d.b<=2147483647)
  (e1:Int)(B:e1=0->dr.length<=1000000000)(h1:∀(h:Hp)(K:V->Hp->Prop),h 1000001=some ⟨ba,91,3,rows⟩->K (qI e1) h->G 77 [.agg [qI d.gn,qI d.b,.str d.tx,qI (d.fs 0),qI (d.fs 1),qI (d.fs 2),qI (d.fs 3),qI (d.fs 4),qI (d.fs 5),qI (d.fs 6),qI (d.fs 7),qI (d.fs 8),qI (d.fs 9),qI (d.fs 10),qI (d.fs 11),qI (d.fs 12),qI (d.fs 13),qI (d.fs 14),qI (d.fs 15),qI (d.tb 0),qI (d.tb 1),qI (d.tb 2),qI (d.tb 3),qI (d.tb 4),qI (d.tb 5),qI (d.tb 6),qI (d.tb 7),qI (d.tb 8),qI (d.tb 9),qI (d.tb 10),qI (d.tb 11),qI (d.tb 12),qI (d.tb 13),qI (d.tb 14),qI (d.tb 15),.own 1000001 ba 3 n,.bool d.wh,qI d.gd],qI (P.c9 d.now),.agg [qI w,qI q,.sl false 3 dr]] h K)
  (N:e1=0->(0<=r.who/\r.who<=7)/\l.length<64)(t:BS)(e:Int)(O:t.length<=140737488355328)
  (h2:e1=0->∀(k:Nat)(b:Option Nat)(n':Nat)(h:Hp)(K:V->Hp->Prop),n'=dr.length->h k=some ⟨b,115,3,dr⟩->K (.tup [.str t,qI e]) h->T 78 [.agg [qI w,qI q,.own k b 3 n']] h K)
  (u:BS)(f:Int)(h3:e1=0->gK G 79 [.sl false 3 dr,.str d.now] (.tup [.str u,qI f]))
  (Y:rD)(m:Y=(if e1≠0 then⟨d,l,0,e1⟩ else if e≠0 then⟨d,l,0,e⟩ else⟨vB {lS d (some ⟨I,J,false⟩:Option Mv) t with now:=u} l r,l++[r],d.b+(l.length+1:Nat),0⟩))
  (R:S->Prop)(Q:∀s s' U n' i,n'=Y.l.length->i=Y.l.map ca->c6 s s'->iH [.t 4,.t 5] [qI Y.v,qI Y.e] s'->fG (S3 bl Y.d U n' i bm (some ⟨I,J,false⟩:Option Mv)) s'->R s):
  gj P T G uG (S0 [.ptr 0 (some bl) 47 0 0,.agg [qI w,qI q,.sl false 3 dr]] (cp (S3 bl d ba n rows bm (some ⟨I,J,false⟩:Option Mv)))) R (λ_ _=>False) R:=by
 have f2:dr.length=P.fQ dr:=by subst hP;rfl
 have m1:P.i64 (P.sub 1 d.dE):=by rw[sub_eq hP];exact eR hP qW
 have m2:P.sub 1 d.dE=1-d.dE:=sub_eq hP _ _;cbv
 repeat' first|(refine qA ?_;cbv)|(intro a;cbv)|(refine h1 _ _ rfl ?_;cbv)|fail
 refine ab (λg=>?_) (λg=>?_)
 ·have g1:e1≠0:=hH hP g;rw[ae g1] at m;cbv
  repeat' first|(refine qA ?_;cbv)|(intro a;cbv)
  subst m;exact Q _ _ ba n rows hn ds (c6.refl _) rfl ⟨rfl,rfl,rfl,trivial⟩
 have g1:e1=0:=gZ hP g;rw[aa (λW=>W g1)] at m;obtain⟨hw,Ot⟩:=N g1;have B:=B g1;have f1:P.bytes (P.dv dr) 32:=by subst hP;show(dr.length:Int)*32<=_;((try simp only[nc] at*);omega)
 cbv
 repeat' first|(refine qA ?_;cbv)|(intro a;cbv)|(refine h2 g1 1000025 _ _ _ _ f2.symm rfl ?_;cbv)|fail
 refine ab (λg=>?_) (λg=>?_)
 ·have g2:e≠0:=hH hP g;rw[ae g2] at m;cbv
  repeat' first|(refine qA ?_;cbv)|(intro a;cbv)
  subst m;exact Q _ _ ba n rows hn ds (c6.refl _) rfl ⟨rfl,rfl,rfl,trivial⟩
 have g2:e=0:=gZ hP g;rw[aa (λW=>W g2)] at m;cbv
 repeat' first|(refine qA ?_;cbv)|(intro a;cbv)
 refine y _ _ _ _ _ (jU.FA (k:=1000025) (q:=3) (c:=2) rfl rfl rfl rfl rfl rfl f2 M) ?_;refine z 0 bl d (.own 1000001 ba 3 n) (.ptr 1 (some bm) 3 0 0) _ _ _ _ O ⟨⟨.own _ _ _ _,rfl⟩,.ptr _ _ _ _ _,rfl⟩ rfl rfl rfl λd0 X=>?_;obtain⟨d1,j⟩:∃d1,d1=d0:=⟨_,rfl⟩;rw[<-j];rw[X] at j;have hb1:d1.b=d.b:=by rw[j];rfl
 have p:d1.now=d.now:=by rw[j];rfl
 have Z:gK G 79 [.sl false 3 dr,.str d1.now] (.tup [.str u,qI f]):=by rw[p];exact h3 g1
 cbv
 repeat' first|(refine qA ?_;cbv)|(intro a;cbv)|(refine Z _ _ ?_;cbv)|fail
 refine A 0 1000001 bl {d1 with now:=u} ba n rows l (.ptr 1 (some bm) 3 0 0) w q dr r _ _ ds hn qW L hw (by show 0<=d1.b/\d1.b<=_;rw[hb1];omega) ⟨⟨.ptr _ _ _ _ _,rfl⟩,rfl⟩ rfl rfl rfl rfl λC d2 n2 ij D E o=>?_
 have hb2:d2.b=d.b:=by rw[D];exact hb1
 cbv
 repeat' first|(refine qA ?_;cbv)|(intro a;cbv)
 refine H 0 bl d2 1000001 C n2 (.ptr 1 (some bm) 3 0 0) _ _ (by rw[hb2];omega) qW ⟨.ptr _ _ _ _ _,rfl⟩ rfl rfl rfl λv hv=>?_;cbv
 repeat' first|(refine qA ?_;cbv)|(intro a;cbv)
 have Ws:v=Y.v:=by rw[m,hv,hb2,E]
 have Wt:Y.d=d2:=by rw[m,D,j];rfl
 have F:Y.l=l++[r]:=by rw[m]
 have T9:Y.e=0:=by rw[m]
 subst Ws;refine Q _ _ C n2 ij (by rw[F,E];simp) (by rw[F,o]) (c6.refl _) (by rw[T9];rfl) ?_;rw[Wt];exact⟨rfl,rfl,rfl,trivial⟩
theorem KF(P:Prim)(hP:P=dn)(T J:c8)(A:∀f vs h h' K,jU h h'->T f vs h' K->T f vs h K)(p:vA T)(B:Ek T)(L:mu T)(bl bm:Nat)(M N:Int)(d:SC)(ba:Option Nat)(l:List eP)(n:Nat)(hn:n=l.length)(rows:List (List V))(ds:rows=l.map ca)(hat:d.dE=0\/d.dE=1)
  (r:eP)(w q:Int)(dr:List (List V))(O:w=r.who/\q=r.seq/\dr=r.delta.map bd)(Q:∀x∈dr,∀v∈x,Fz v)(hb:0<=d.b/\d.b<=2147483647)
  (e1:Int)(C:e1=0->dr.length<=1000000000)(h1:∀(h:Hp)(K:V->Hp->Prop),h 1000001=some ⟨ba,91,3,rows⟩->K (qI e1) h->J 77 [.agg [qI d.gn,qI d.b,.str d.tx,qI (d.fs 0),qI (d.fs 1),qI (d.fs 2),qI (d.fs 3),qI (d.fs 4),qI (d.fs 5),qI (d.fs 6),qI (d.fs 7),qI (d.fs 8),qI (d.fs 9),qI (d.fs 10),qI (d.fs 11),qI (d.fs 12),qI (d.fs 13),qI (d.fs 14),qI (d.fs 15),qI (d.tb 0),qI (d.tb 1),qI (d.tb 2),qI (d.tb 3),qI (d.tb 4),qI (d.tb 5),qI (d.tb 6),qI (d.tb 7),qI (d.tb 8),qI (d.tb 9),qI (d.tb 10),qI (d.tb 11),qI (d.tb 12),qI (d.tb 13),qI (d.tb 14),qI (d.tb 15),.own 1000001 ba 3 n,.bool d.wh,qI d.gd],qI (P.c9 d.now),.agg [qI w,qI q,.sl false 3 dr]] h K)
  (U:e1=0->(0<=r.who/\r.who<=7)/\l.length<64)(t:BS)(e:Int)(D:t.length<=140737488355328)
  (h2:e1=0->∀(k:Nat)(b:Option Nat)(n':Nat)(h:Hp)(K:V->Hp->Prop),n'=dr.length->h k=some ⟨b,115,3,dr⟩->K (.tup [.str t,qI e]) h->T 78 [.agg [qI w,qI q,.own k b 3 n']] h K)
  (u:BS)(f:Int)(h3:e1=0->gK J 79 [.sl false 3 dr,.str d.now] (.tup [.str u,qI f]))
  (Y:rD)(m:Y=(if e1≠0 then⟨d,l,0,e1⟩ else if e≠0 then⟨d,l,0,e⟩ else⟨vB {lS d (some ⟨M,N,true⟩:Option Mv) t with now:=u} l r,l++[r],d.b+(l.length+1:Nat),0⟩))
  (R:S->Prop)(W:∀s s' X n' j,n'=Y.l.length->j=Y.l.map ca->c6 s s'->iH [.t 4,.t 5] [qI Y.v,qI Y.e] s'->fG (S3 bl Y.d X n' j bm (some ⟨M,N,true⟩:Option Mv)) s'->R s):
  gj P T J uG (S0 [.ptr 0 (some bl) 47 0 0,.agg [qI w,qI q,.sl false 3 dr]] (cp (S3 bl d ba n rows bm (some ⟨M,N,true⟩:Option Mv)))) R (λ_ _=>False) R:=by
 have f2:dr.length=P.fQ dr:=by subst hP;rfl
 have m1:P.i64 (P.sub 1 d.dE):=by rw[sub_eq hP];exact eR hP qW
 have m2:P.sub 1 d.dE=1-d.dE:=sub_eq hP _ _;cbv
 repeat' first|(refine qA ?_;cbv)|(intro a;cbv)|(refine h1 _ _ rfl ?_;cbv)|fail
 refine ab (λg=>?_) (λg=>?_)
 ·have g1:e1≠0:=hH hP g;rw[ae g1] at m;cbv
  repeat' first|(refine qA ?_;cbv)|(intro a;cbv)
  subst m;exact W _ _ ba n rows hn ds (c6.refl _) rfl ⟨rfl,rfl,rfl,trivial⟩
 have g1:e1=0:=gZ hP g;rw[aa (λZ=>Z g1)] at m;obtain⟨hw,Ot⟩:=U g1;have C:=C g1;have f1:P.bytes (P.dv dr) 32:=by subst hP;show(dr.length:Int)*32<=_;((try simp only[nc] at*);omega)
 cbv
 repeat' first|(refine qA ?_;cbv)|(intro a;cbv)|(refine h2 g1 1000025 _ _ _ _ f2.symm rfl ?_;cbv)|fail
 refine ab (λg=>?_) (λg=>?_)
 ·have g2:e≠0:=hH hP g;rw[ae g2] at m;cbv
  repeat' first|(refine qA ?_;cbv)|(intro a;cbv)
  subst m;exact W _ _ ba n rows hn ds (c6.refl _) rfl ⟨rfl,rfl,rfl,trivial⟩
 have g2:e=0:=gZ hP g;rw[aa (λZ=>Z g2)] at m;cbv
 repeat' first|(refine qA ?_;cbv)|(intro a;cbv)
 refine A _ _ _ _ _ (jU.FA (k:=1000025) (q:=3) (c:=2) rfl rfl rfl rfl rfl rfl f2 Q) ?_;refine p 0 bl d (.own 1000001 ba 3 n) (.ptr 1 (some bm) 3 0 0) _ _ _ _ D ⟨⟨.own _ _ _ _,rfl⟩,.ptr _ _ _ _ _,rfl⟩ rfl rfl rfl λd0 E=>?_;have y:d0.dE=d.dE:=by rw[E];rfl
 have m3:P.i64 (P.sub 1 d0.dE):=by rw[y];exact m1
 cbv
 repeat' first|(refine qA ?_;cbv)|(intro a;cbv)
 refine p 0 bl d0 (.own 1000001 ba 3 n) (.ptr 1 (some bm) 3 0 0) _ _ _ _ D ⟨⟨.own _ _ _ _,rfl⟩,.ptr _ _ _ _ _,rfl⟩ rfl rfl rfl λd1 i=>?_;have i:d1=jd d0 (P.sub 1 d0.dE) t:=i;rw[y,m2,E] at i;have hb1:d1.b=d.b:=by rw[i];rfl
 have z:d1.now=d.now:=by rw[i];rfl
 have Zw:gK J 79 [.sl false 3 dr,.str d1.now] (.tup [.str u,qI f]):=by rw[z];exact h3 g1
 cbv
 repeat' first|(refine qA ?_;cbv)|(intro a;cbv)|(refine Zw _ _ ?_;cbv)|fail
 refine B 0 1000001 bl {d1 with now:=u} ba n rows l (.ptr 1 (some bm) 3 0 0) w q dr r _ _ ds hn qW O hw (by show 0<=d1.b/\d1.b<=_;rw[hb1];omega) ⟨⟨.ptr _ _ _ _ _,rfl⟩,rfl⟩ rfl rfl rfl rfl λF d2 n2 ij G H o=>?_
 have hb2:d2.b=d.b:=by rw[G];exact hb1
 cbv
 repeat' first|(refine qA ?_;cbv)|(intro a;cbv)
 refine L 0 bl d2 1000001 F n2 (.ptr 1 (some bm) 3 0 0) _ _ (by rw[hb2];omega) qW ⟨.ptr _ _ _ _ _,rfl⟩ rfl rfl rfl λv hv=>?_;cbv
 repeat' first|(refine qA ?_;cbv)|(intro a;cbv)
 have Ws:v=Y.v:=by rw[m,hv,hb2,H]
 have Wt:Y.d=d2:=by rw[m,G,i];rfl
 have I:Y.l=l++[r]:=by rw[m]
 have T9:Y.e=0:=by rw[m]
 subst Ws;refine W _ _ F n2 ij (by rw[I,H];simp) (by rw[I,o]) (c6.refl _) (by rw[T9];rfl) ?_;rw[Wt];exact⟨rfl,rfl,rfl,trivial⟩
def gz(d:SC)(l:List eP)(m:Option Mv)(r:eP):rD:=if gw d.b d.tb l.length d.now.length r≠0 then⟨d,l,0,gw d.b d.tb l.length d.now.length r⟩ else if(gQ r).2≠0 then⟨d,l,0,(gQ r).2⟩
 else⟨vB {lS d m (gQ r).1 with now:=(kl r.delta d.now).1} l r,l++[r],d.b+(l.length+1:Nat),0⟩
theorem KG(bl bm:Nat)(d:SC)(ba:Option Nat)(l:List eP)(m:Option Mv)(r:eP)(hr:fH r.delta)(hb:0<=d.b/\d.b<=2147483647)(hat:d.dE=0\/d.dE=1):Spec Tryz.prog 43 [.ptr 0 (some bl) 47 0 0,.agg (ca r)] (cp (S3 bl d ba l.length (l.map ca) bm m))
  λx h'=>∃o,(∃a g d' l' m',(∃v e,x=.tup [qI v,qI e]/\⟨d',l',v,e⟩=gz d l m r/\m'=m)/\o=S3 bl d' a l'.length (l'.map ca) g m')/\h'=cp o:=by
 refine fu iD Oa (L:=S3 bl d ba l.length (l.map ca) bm m) (λx o=>∃a g d' l' m',(∃v e,x=.tup [qI v,qI e]/\⟨d',l',v,e⟩=gz d l m r/\m'=m)/\o=S3 bl d' a l'.length (l'.map ca) g m') λR u=>?_;have h1:∀(h:Hp)(K:V->Hp->Prop),h 1000001=some ⟨ba,91,3,l.map ca⟩->K (qI (gw d.b d.tb l.length d.now.length r)) h->fX Tryz.prog 77 [.agg [qI d.gn,qI d.b,.str d.tx,qI (d.fs 0),qI (d.fs 1),qI (d.fs 2),qI (d.fs 3),qI (d.fs 4),qI (d.fs 5),qI (d.fs 6),qI (d.fs 7),qI (d.fs 8),qI (d.fs 9),qI (d.fs 10),qI (d.fs 11),qI (d.fs 12),qI (d.fs 13),qI (d.fs 14),qI (d.fs 15),qI (d.tb 0),qI (d.tb 1),qI (d.tb 2),qI (d.tb 3),qI (d.tb 4),qI (d.tb 5),qI (d.tb 6),qI (d.tb 7),qI (d.tb 8),qI (d.tb 9),qI (d.tb 10),qI (d.tb 11),qI (d.tb 12),qI (d.tb 13),qI (d.tb 14),qI (d.tb 15),.own 1000001 ba 3 l.length,.bool d.wh,qI d.gd],qI (dn.c9 d.now),.agg [qI r.who,qI r.seq,.sl false 3 (r.delta.map bd)]] h K:=
  λh K h1 hK=>oT (xd d.gn d.b d.tx d.fs d.tb l d.wh d.gd d.now.length r hb hr) (.cons (Od h1) (.cons (.same _) (.cons (.same _) .nil))) hK
 have i:gw d.b d.tb l.length d.now.length r=0->(0<=r.who/\r.who<=7)/\l.length<64:=λh=>⟨⟨(jg (ow h).1).1,(jg (ow h).1).2.1⟩,(ow h).2⟩;have j:gw d.b d.tb l.length d.now.length r=0->(r.delta.map bd).length<=1000000000:=λh=>by
  rw[aF];exact(yx (ow h).1).2
 have n:(gQ r).1.length<=140737488355328:=by have:=sm r;omega
 have h2:gw d.b d.tb l.length d.now.length r=0->∀(k:Nat)(b:Option Nat)(n':Nat)(h:Hp)(K:V->Hp->Prop),n'=(r.delta.map bd).length->h k=some ⟨b,115,3,r.delta.map bd⟩->K (.tup [.str (gQ r).1,qI (gQ r).2]) h->fm Tryz.prog 78 [.agg [qI r.who,qI r.seq,.own k b 3 n']] h K:=
  λ_ k b n' h K hn hk hK=>by
    subst hn;refine⟨h,jU.refl h,lN (Am r hr) (.cons ?_ .nil) hK⟩;obtain⟨a1,a2⟩:=sk (h:=h) (m:=[]) (l:=[qI r.who,qI r.seq,.own k b 3 (r.delta.map bd).length]) (l':=uw r) (.cons (.same _) (.cons (.same _) (.cons (.own k b 3 _ _ (jO rfl hk) (by simp)) .nil)));exact .agg _ _ a1 a2
 have h3:gw d.b d.tb l.length d.now.length r=0->gK (fX Tryz.prog) 79 [.sl false 3 (r.delta.map bd),.str d.now] (.tup [.str (kl r.delta d.now).1,qI (kl r.delta d.now).2]):=λ_=>DE (Iy r.delta hr.1 d.now) rfl rfl;have f:∀(s s':S)(a:Option Nat)(n':Nat)(c:List (List V)),n'=(gz d l m r).l.length->c=(gz d l m r).l.map ca->c6 s s'->iH [.t 4,.t 5] [qI (gz d l m r).v,qI (gz d l m r).e] s'->fG (S3 bl (gz d l m r).d a n' c bm m) s'->R s:=by
  intro s s' a n' c hn ds he hr ha;subst hn ds;exact u s s' _ _ he (eM _ _ _ (λx hx=>by rw[hx];rfl) hr) ha (.tup _ (by simp;exact⟨.int _ _,.int _ _⟩)) tS ⟨a,bm,_,_,m,⟨_,_,rfl,rfl,rfl⟩,rfl⟩
 obtain _|⟨p,q,w⟩:=m
 ·exact KD dn rfl _ _ qB xq Kc rC bl bm d ba l _ rfl _ rfl hat r r.who r.seq (r.delta.map bd) ⟨rfl,rfl,rfl⟩ (gI _) hb _ j h1 i (gQ r).1 (gQ r).2 n h2 (kl r.delta d.now).1 (kl r.delta d.now).2 h3 (gz d l none r) rfl R f
 ·cases w with
  |false=>exact KE dn rfl _ _ qB xq Kc rC bl bm p q d ba l _ rfl _ rfl hat r r.who r.seq (r.delta.map bd) ⟨rfl,rfl,rfl⟩ (gI _) hb _ j h1 i (gQ r).1 (gQ r).2 n h2 (kl r.delta d.now).1 (kl r.delta d.now).2 h3 (gz d l (some ⟨p,q,false⟩) r) rfl R f
  |true=>exact KF dn rfl _ _ qB xq Kc rC bl bm p q d ba l _ rfl _ rfl hat r r.who r.seq (r.delta.map bd) ⟨rfl,rfl,rfl⟩ (gI _) hb _ j h1 i (gQ r).1 (gQ r).2 n h2 (kl r.delta d.now).1 (kl r.delta d.now).2 h3 (gz d l (some ⟨p,q,true⟩) r) rfl R f
theorem KH{k ka km bm:Nat}{m:Option Mv}(h:(!(Nat.beq km 0)&& !(Nat.beq km 1000001))=true):ys k ka (kS km bm m)=true:=by
 cases m
 ·rfl
 ·show((!(Nat.beq km 0)&& !(Nat.beq km 1000001))||_)=true
  rw[h];rfl
theorem Ua{k km bm:Nat}{m:Option Mv}(h:(!(Nat.beq km 0))=true):qT k (kS km bm m)=true:=by
 cases m
 ·rfl
 ·show((!(Nat.beq km 0))||_)=true
  rw[h];rfl
structure Ub(h:Hp)(k ka km bl:Nat)(d:SC)(ba:Option Nat)(n:Nat)(rows:List (List V))(l:List eP)(mv:V)(mo:Ob)(bm:Nat)(m:Option Mv):Prop where
 h1:n=l.length
 h2:rows=l.map ca
 h3:mv=kS km bm m
 h4:mo=jk bm m
 h5:h k=some (fx bl (fw d (.own ka ba 3 n) mv))
 h6:h ka=some (iw ba rows)
 h7:h km=some mo
 h8:N3 k ka km
def KI(T:c8):Prop:=∀(k ka km bl:Nat)(d:SC)(ba:Option Nat)(n:Nat)(rows:List (List V))(l:List eP)(mv:V)(mo:Ob)(bm:Nat)(m:Option Mv)(r:eP)(w q:Int)(dr:List (List V))(h:Hp)(K:V->Hp->Prop),Ub h k ka km bl d ba n rows l mv mo bm m->(w=r.who/\q=r.seq/\dr=r.delta.map bd)->fH r.delta->(0<=d.b/\d.b<=2147483647)->(d.dE=0\/d.dE=1)->
 (∀v e c d' l' n' a f g i,⟨d',l',v,e⟩=gz d l m r->n'=l'.length->a=l'.map ca->g=kS km f m->i=jk f m->K (.tup [qI v,qI e]) (h.fK [(k,fx bl (fw d' (.own ka c 3 n') g)),(ka,iw c a),(km,i)]))->T 43 [.ptr k (some bl) 47 0 0,.agg [qI w,qI q,.sl false 3 dr]] h K
theorem PF:KI (fm Tryz.prog):=by
 rintro k ka km bl d ba n rows l mv mo bm m r w q dr h K ⟨rfl,rfl,rfl,rfl,hk,a,b,hN⟩ ⟨rfl,rfl,rfl⟩ hr hb hat hK;refine vL (rest:=[.agg (ca r)]) (post:=λx d' l' m'=>∃v e,x=.tup [.int .i64 v,.int .i64 e]/\⟨d',l',v,e⟩=gz d l m r/\m'=m) (KG bl bm d ba l m r hr hb hat) (λh m=>.cons (.same _) .nil) (λx d' l' m' g hp=>?_) hN hk a b ?_
 ·obtain⟨v,e,rfl,_⟩:=hp;rfl
 ·rintro x c f d' l' m' ⟨v,e,rfl,hp,rfl⟩;exact hK v e c d' l' _ _ f _ _ hp rfl rfl rfl rfl
def Eu(T:c8):Prop:=∀(k ka km bl:Nat)(d:SC)(ba:Option Nat)(n:Nat)(rows:List (List V))(l:List eP)(mv:V)(mo:Ob)(bm:Nat)(m:Option Mv)(h:Hp)(K:V->Hp->Prop),Ub h k ka km bl d ba n rows l mv mo bm m->(0<=d.b/\d.b<=4294967295)->l.length<=1000->(d.dE=0\/d.dE=1)->
 (∀c d' n' a e f g,d'=jR d l.length m->n'=l.length->a=l.map ca->f=kS km e m->g=jk e m->K (.tup []) (h.fK [(k,fx bl (fw d' (.own ka c 3 n') f)),(ka,iw c a),(km,g)]))->T 47 [.ptr k (some bl) 47 0 0] h K
theorem Ou:Eu (fm Tryz.prog):=by
 rintro k ka km bl d ba n rows l mv mo bm m h K ⟨rfl,rfl,rfl,rfl,hk,a,b,hN⟩ hb hn hat hK;refine vL (rest:=[]) (post:=λx d' l' m'=>x=.tup []/\d'=jR d l.length m/\l'=l/\m'=m) (Kv bl d ba l bm m hb hn hat) (λh m=>.nil) (λx d' l' m' g hp=>?_) hN hk a b ?_
 ·rw[hp.1];rfl
 ·rintro x c e d' l' m' ⟨rfl,hd,rfl,rfl⟩;exact hK c d' _ _ e _ _ hd rfl rfl rfl rfl
def Ew(T:c8):Prop:=∀(k ka km bl:Nat)(d:SC)(ba:Option Nat)(n:Nat)(rows:List (List V))(l:List eP)(mv:V)(mo:Ob)(bm:Nat)(m:Option Mv)(j:Int)(h:Hp)(K:V->Hp->Prop),Ub h k ka km bl d ba n rows l mv mo bm m->(0<=d.b/\d.b<=4294967295)->l.length<=1000->
 (∀e c n' a f m' g i,(m',e)=kh d l.length m j->n'=l.length->a=l.map ca->g=kS km f m'->i=jk f m'->K (qI e) (h.fK [(k,fx bl (fw d (.own ka c 3 n') g)),(ka,iw c a),(km,i)]))->T 49 [.ptr k (some bl) 47 0 0,qI j] h K
theorem Ov:Ew (fm Tryz.prog):=by
 rintro k ka km bl d ba n rows l mv mo bm m j h K ⟨rfl,rfl,rfl,rfl,hk,a,b,hN⟩ hb hn hK;refine vL (rest:=[.int .i64 j]) (post:=λx d' l' m'=>x=.int .i64 (kh d l.length m j).2/\d'=d/\l'=l/\m'=(kh d l.length m j).1) (Ky bl d ba l bm m hb hn j) (λh m=>.cons (.same _) .nil) (λx d' l' m' g hp=>?_) hN hk a b ?_
 ·rw[hp.1];rfl
 ·rintro x c e d' l' m' ⟨rfl,rfl,rfl,rfl⟩;exact hK _ c _ _ e _ _ _ rfl rfl rfl rfl rfl
def Ex(T:c8):Prop:=∀(k ka km bl:Nat)(d:SC)(ba:Option Nat)(n:Nat)(rows:List (List V))(l:List eP)(mv:V)(mo:Ob)(bm:Nat)(m:Option Mv)(h:Hp)(K:V->Hp->Prop),Ub h k ka km bl d ba n rows l mv mo bm m->CL d l m->d.tx.length<=maxLen->
 (∀v b d' l' m' n' a c e f,⟨d',l',m',v⟩=jl d l m->n'=l'.length->a=l'.map ca->e=kS km c m'->f=jk c m'->K (.bool v) (h.fK [(k,fx bl (fw d' (.own ka b 3 n') e)),(ka,iw b a),(km,f)]))->T 51 [.ptr k (some bl) 47 0 0] h K
theorem Ow:Ex (fm Tryz.prog):=by
 rintro k ka km bl d ba n rows l mv mo bm m h K ⟨rfl,rfl,rfl,rfl,hk,a,b,hN⟩ c e hK;refine vL (rest:=[]) (post:=λx d' l' m'=>∃v,x=.bool v/\⟨d',l',m',v⟩=jl d l m) (KC bl d ba l bm m c e) (λh m=>.nil) (λx d' l' m' g hp=>?_) hN hk a b ?_
 ·obtain⟨v,rfl,_⟩:=hp;rfl
 ·rintro x f i d' l' m' ⟨v,rfl,hp⟩;exact hK v f d' l' m' _ _ i _ _ hp rfl rfl rfl rfl
def PG(l:List Int)(i:Nat):Int:=if i<l.length then l.getD i 0 else 0
def KJ:AC:=qr [qz 4 0] (qq (qr [qm 5 1,qm 6 0,qo 7 (.len false (.t 6)),qb 8 .lss 5 7] (qu 8 (qr [qm 9 0,qm 10 1,qo 11 (.iaddr 1 (.t 9) (.t 10)),ql 12 11,qm 4 12] .ret) .skip)) (qr [qz 4 0] .ret))
theorem RS:fF Tryz.prog 11 Tryz.f11 KJ [.t 4] 2 er:=⟨Tryz.func11,by decide+kernel,by kernel_rfl,by kernel_rfl,by decide+kernel⟩
theorem RT(P:Prim)(hP:P=dn)(T d:c8)(l:List Int)(rows:List (List V))(ds:rows=gL l)(i:Nat)(k:Int)(hk:k=(i:Int))(r:Int)(hr:PG l i=r)
  (R:S->Prop)(c:∀s s' q,q=r->c6 s s'->iH [.t 4] [qI q] s'->R s):gj P T d KJ (S0 [.sl true 1 rows,qI k] Hp.emp) R (λ_ _=>False) R:=by
 have hl:P.dv rows=(l.length:Int):=by rw[gE hP,ds];simp[gL]
 unfold PG at hr;cbv
 repeat' first|(refine qA ?_;cbv)|(intro a;cbv)
 refine ab (λg=>?_) (λg=>?_)
 ·have g1:k<P.dv rows:=fJ hP g;rw[hl,hk] at g1;have g2:i<l.length:=by((try simp only[nc] at*);omega)
  rw[ae g2] at hr;have q1:P.fC 0 k:=iu hP (by rw[hk];exact aO _);have q2:P.iO k (P.dv rows):=kN hP (fJ hP g);have b:P.row rows (P.nat k) [qI r]:=ga hP hk (by rw[ds,gL,av,af g2,<-hr,ar,af g2];rfl);cbv
  repeat' first|(refine qA ?_;cbv)|(intro a;cbv)
  refine⟨_,b,?_⟩;cbv
  repeat' first|(refine qA ?_;cbv)|(intro a;cbv)
  exact c _ _ _ rfl (c6.refl _) rfl
 ·have g1:¬k<P.dv rows:=fM hP g;rw[hl,hk] at g1;rw[aa qO] at hr;cbv
  repeat' first|(refine qA ?_;cbv)|(intro a;cbv)
  exact c _ _ _ hr (c6.refl _) rfl
theorem yy(l:List Int)(i:Nat):Spec Tryz.prog 11 [.sl true 1 (gL l),.int .i64 (i:Int)] Hp.emp (Is (.int .i64 (PG l i))):=
 ep iD RS [.int .i64 (PG l i)] (.int _ _) λR a=>RT dn rfl _ _ l _ rfl i _ rfl _ rfl R λs s' q h he hr=>by subst h;exact a s s' he hr
def jS(x:BS)(s k:Int):Int:=s+max 0 (min k ((x.length:Int)-s))
inductive Zx where
 |y0
 |y1
 |y2
def KK:AC:=qr [qo 2 (.box 52 4 (.t 0)),qo 3 (.box 100 2 (.t 1)),qo 4 (.alloc 52 GA),qz 5 0] (qq (qr [qd 10 4 2,qa 11 95 [.t 10],qm 6 11] (qr [qm 12 6,qc 13 .neq 12 0] (qu 13 (qr [qo 14 (.build GA []),qm 15 6,qs 4 4 14,qm 5 15] .ret) .skip))) (qq (qr [qz 16 0] (.block 0 (.loop (qr [qc 17 .lss 16 2] (qq (qu 17 .skip (.exit 0)) (qq (.block 1 (qr [qm 18 16,qm 7 18] (qr [qm 19 7,qf 20 0 2,qo 21 (.iarr 2 2 (.t 20) (.t 19)),qm 8 21] (qq (.region true [qm 22 8,qn 23 22,qf 24 1 23,ql 25 24,qm 26 7,qo 27 (.iarr 2 1 (.t 3) (.t 26)),ql 28 27,qm 29 8,qn 30 29,qf 31 0 30,ql 32 31,qo 33 (.len true (.t 32)),qm 34 8,qn 35 34,qf 36 1 35,ql 37 36,qb 38 .sub 33 37,qo 39 (.mm false (.t 28) (.t 38)),qo 40 (.mm true (qk 0) (.t 39)),qb 41 .add 25 40,qm 9 41]) (qR [qm 42 8,qm 43 8,qm 44 8,qn 45 44,qf 46 0 45,ql 47 46,qm 48 9,qo 49 (.slstr (.t 47) none (some (.t 48))),qm 50 9,qn 51 42,qf 52 0 51,qs 1 52 49,qn 53 43,qf 54 1 53,qs 1 54 50]))))) (qR [qc 55 .add 16 1,qm 16 55]))))))) (qr [qd 56 4 2,qs 4 4 56,qz 5 0] .ret)))
theorem RU:fF Tryz.prog 53 Tryz.f53 KK [.cn 4 4,.t 5] 2 er:=⟨Tryz.func53,by decide+kernel,by kernel_rfl,by kernel_rfl,by decide+kernel⟩
theorem RW(P:Prim)(hP:P=dn)(T m:c8)(a1:BS)(a2:Int)(b1:BS)(b2 d k1:Int)(h1:gK T 95 [.agg [.str a1,qI a2,.str b1,qI b2]] (qI 0))(ha:gV a1 a2=0)(hb:gV b1 b2=0)
  (y1:BS)(y2:Int)(h:BS)(e:Int)(f:y2=jS a1 a2 d)(i:y1=a1.take y2.toNat)(g:e=jS b1 b2 k1)(j:h=b1.take e.toNat)
  (R:S->Prop)(n:∀l s' x1 x2 x3 x4,x1=y1->x2=y2->x3=h->x4=e->c6 l s'->iH [.cn 4 4,.t 5] [.agg [.str x1,qI x2,.str x3,qI x4],qI 0] s'->R l):gj P T m KK (S0 [.agg [.str a1,qI a2,.str b1,qI b2],.agg [qI d,qI k1]] Hp.emp) R (λ_ _=>False) R:=by
 have a0:P.fC 0 0:=iu hP qD;have o:P.fC 0 1:=iu hP qD;have z:P.iO 0 2:=kN hP qD;have A:P.iO 1 2:=kN hP qD;have p:P.nat 0=0:=by subst hP;rfl
 have n1:P.nat 1=1:=by subst hP;rfl
 obtain⟨q,r,s⟩:=lq ha;obtain⟨hb1,hb2,u⟩:=lq hb;have c1:P.i64 (P.add 0 1):=by rw[add_eq hP];exact eR hP qD
 have B:P.i64 (P.add 1 1):=by rw[add_eq hP];exact eR hP qD
 have c3:P.add 0 1=1:=by rw[add_eq hP];rfl
 have c4:P.add 1 1=2:=by rw[add_eq hP];rfl
 cbv
 repeat' first|(refine qA ?_;cbv)|(intro a;cbv)
 rename_i b c;refine h1 _ _ ?_;cbv
 repeat' first|(refine qA ?_;cbv)|(intro a;cbv)|(refine hJ (oq hP rfl) ?_;cbv)|fail
 refine⟨Zx,λy=>match y with
   |.y0=>[(2,.ptr 2 (some b) 4 0 0),(3,.ptr 3 (some c) 2 0 0),(4,.ptr 4 (some a) 4 0 0),(16,.int .i64 0)]
   |.y1=>[(2,.ptr 2 (some b) 4 0 0),(3,.ptr 3 (some c) 2 0 0),(4,.ptr 4 (some a) 4 0 0),(16,.int .i64 1)]
   |.y2=>[(2,.ptr 2 (some b) 4 0 0),(3,.ptr 3 (some c) 2 0 0),(4,.ptr 4 (some a) 4 0 0),(16,.int .i64 2)],
  λy=>match y with
   |.y0=>[(2,⟨some b,52,4,[[.str a1,.int .i64 a2,.str b1,.int .i64 b2]]⟩),(3,⟨some c,100,2,[[.int .i64 d,.int .i64 k1]]⟩),(4,⟨some a,52,4,[[.str [],.int .i64 0,.str [],.int .i64 0]]⟩)]
   |.y1=>[(2,⟨some b,52,4,[[.str y1,.int .i64 y2,.str b1,.int .i64 b2]]⟩),(3,⟨some c,100,2,[[.int .i64 d,.int .i64 k1]]⟩),(4,⟨some a,52,4,[[.str [],.int .i64 0,.str [],.int .i64 0]]⟩)]
   |.y2=>[(2,⟨some b,52,4,[[.str y1,.int .i64 y2,.str h,.int .i64 e]]⟩),(3,⟨some c,100,2,[[.int .i64 d,.int .i64 k1]]⟩),(4,⟨some a,52,4,[[.str [],.int .i64 0,.str [],.int .i64 0]]⟩)],
  λy=>match y with|.y0=>2|.y1=>1|.y2=>0,
  ⟨_,c6.refl _,.y0,⟨rfl,rfl,rfl,rfl,trivial⟩,⟨rfl,rfl,rfl,trivial⟩⟩,?_⟩
 rintro(_|_|_)
 ·have m1:P.i64 (P.sub (P.c9 a1) a2):=by rw[sub_eq hP,da hP];exact eR hP qO
  have hv:P.add a2 (P.mx 0 (P.mn d (P.sub (P.c9 a1) a2)))=y2:=by rw[f,add_eq hP,sub_eq hP,da hP];subst hP;rfl
  have m2:0<=y2/\y2<=(a1.length:Int):=by rw[f];unfold jS;((try simp only[nc] at*);omega)
  have v:P.i64 (P.add a2 (P.mx 0 (P.mn d (P.sub (P.c9 a1) a2)))):=by rw[hv];exact eR hP qO
  have w:P.fC 0 (P.add a2 (P.mx 0 (P.mn d (P.sub (P.c9 a1) a2)))):=iu hP (by rw[hv];exact m2.1);have x:P.fC (P.add a2 (P.mx 0 (P.mn d (P.sub (P.c9 a1) a2)))) (P.c9 a1):=lE hP (by rw[hv,da hP];exact m2.2);have e1:P.jy a1 0 y2=a1.take y2.toNat:=by subst hP;rfl
  cbv;refine iv (wj hP qD) ?_;cbv
  repeat' first|(refine qA ?_;cbv)|(refine⟨0,p,?_⟩;cbv)|(intro k;cbv)
  rw[hv,e1,<-i,c3];exact⟨_,c6.refl _,.y1,⟨rfl,rfl,rfl,rfl,trivial⟩,⟨rfl,rfl,rfl,trivial⟩,qD⟩
 ·have m1:P.i64 (P.sub (P.c9 b1) b2):=by rw[sub_eq hP,da hP];exact eR hP qO
  have hv:P.add b2 (P.mx 0 (P.mn k1 (P.sub (P.c9 b1) b2)))=e:=by rw[g,add_eq hP,sub_eq hP,da hP];subst hP;rfl
  have m2:0<=e/\e<=(b1.length:Int):=by rw[g];unfold jS;((try simp only[nc] at*);omega)
  have v:P.i64 (P.add b2 (P.mx 0 (P.mn k1 (P.sub (P.c9 b1) b2)))):=by rw[hv];exact eR hP qO
  have w:P.fC 0 (P.add b2 (P.mx 0 (P.mn k1 (P.sub (P.c9 b1) b2)))):=iu hP (by rw[hv];exact m2.1);have x:P.fC (P.add b2 (P.mx 0 (P.mn k1 (P.sub (P.c9 b1) b2)))) (P.c9 b1):=lE hP (by rw[hv,da hP];exact m2.2);have e1:P.jy b1 0 e=b1.take e.toNat:=by subst hP;rfl
  cbv;refine iv (wj hP qD) ?_;cbv
  repeat' first|(refine qA ?_;cbv)|(refine⟨1,n1,?_⟩;cbv)|(intro k;cbv)
  rw[hv,e1,<-j,c4];exact⟨_,c6.refl _,.y2,⟨rfl,rfl,rfl,rfl,trivial⟩,⟨rfl,rfl,rfl,trivial⟩,qD⟩
 ·cbv;refine hJ (uh hP qD) ?_;cbv
  repeat' first|(refine qA ?_;cbv)|(intro a;cbv)
  exact n _ _ _ _ _ _ rfl rfl rfl rfl (c6.refl _) ⟨rfl,rfl,an 0,ah 4,rfl⟩
theorem RX(a1:BS)(a2:Int)(b1:BS)(b2 a k1:Int)(hd:gS a1 a2 b1 b2=0):Spec Tryz.prog 53 [.agg [.str a1,qI a2,.str b1,qI b2],.agg [qI a,qI k1]] Hp.emp
  (Is (.tup [.agg [.str (a1.take (jS a1 a2 a).toNat),qI (jS a1 a2 a),.str (b1.take (jS b1 b2 k1).toNat),qI (jS b1 b2 k1)],qI 0])):=by
 obtain⟨ha,hb⟩:=p9 hd;refine ep iD RU [.agg [.str (a1.take (jS a1 a2 a).toNat),qI (jS a1 a2 a),.str (b1.take (jS b1 b2 k1).toNat),qI (jS b1 b2 k1)],qI 0] (.tup _ (by simp;exact⟨.agg _ (by simp;exact⟨.str _,.int _ _,.str _,.int _ _⟩),.int _ _⟩)) λR b=>
  RW dn rfl _ _ a1 a2 b1 b2 a k1 (by
   have:gK (fm Tryz.prog) 95 [.agg [.str a1,qI a2,.str b1,qI b2]] (qI (gS a1 a2 b1 b2)):=ia (B5 a1 a2 b1 b2) (λh=>.cons (.same _) .nil) rfl;rw[hd] at this;exact this) ha hb _ _ _ _ rfl rfl rfl rfl R λc s' x1 x2 x3 x4 e1 d e f he hr=>by subst e1 d e f;exact b c s' he hr
structure PH where
 d:SC
 l:List eP
 e:Int
def lI(a1:BS)(a2:Int)(b1:BS)(b2 i:Int)(L:hI):SC:=
 {jj (iF (iF ⟨a1,a2,b1,b2,i,L.gen,L.base,L.text,L.first,L.table,L.whole,L.eF,[],0,false⟩ i L.eF) (1-i) 0) i with now:=(kQ L.text L.e8 (L.e8.length:Int)).1,sf:=L.base+(L.e8.length:Int)}
def hG(q:hI×Int):Prop:=q.2=0/\q.1.whole=true
instance(q:hI×Int):Decidable (hG q):=inferInstanceAs (Decidable (_/\_))
def oH(A B:hI×Int)(a1:BS)(a2:Int)(b1:BS)(b2:Int):PH:=
 if hG A then(if hG B/\A.1.gen<B.1.gen then⟨lI a1 a2 b1 b2 1 B.1,B.1.e8,0⟩ else⟨lI a1 a2 b1 b2 0 A.1,A.1.e8,0⟩)
 else if hG B then⟨lI a1 a2 b1 b2 1 B.1,B.1.e8,0⟩ else⟨Z0,[],12⟩
def kR(a1:BS)(a2:Int)(b1:BS)(b2:Int):PH:=if gS a1 a2 b1 b2≠0 then⟨Z0,[],gS a1 a2 b1 b2⟩ else oH (fW (fk a1).1) (fW (fk b1).1) a1 a2 b1 b2
structure GL(L:hI) where
 ba:Option Nat
 n:Nat
 rows:List (List V)
 hn:n=L.e8.length
 ds:rows=L.e8.map ca
inductive Zy(gA gB:Prop)(LA LB:hI) where
 |y0
 |n1(h:¬gA)
 |s1(G:GL LA)(h:gA)
 |nn(h:¬gA)(h':¬gB)
 |ns(h:¬gA)(G:GL LB)(h':gB)
 |sn(G:GL LA)(h:gA)(h':¬gB)
 |ss(G:GL LA)(G':GL LB)(h:gA)(h':gB)(hg:¬LA.gen<LB.gen)
 |st(G:GL LA)(G':GL LB)(h:gA)(h':gB)(hg:LA.gen<LB.gen)
structure Ey(L:hI):Prop where
 b:0<=L.base/\L.base<=4294967295
 n:L.e8.length<=1000
 rv:lO L.e8
def AG:AC:=qr [qo 1 (.box 52 4 (.t 0)),qo 2 (.mov (.c (.pointer none))),qz 3 0] (qq (qr [qd 12 4 1,qa 13 95 [.t 12],qm 4 13] (qr [qm 14 4,qc 15 .neq 14 0] (qu 15 (qr [qm 16 4,qo 2 (.mov (.c (.pointer none))),qm 3 16] .ret) .skip))) (qr [qz 5 (-1)] (qr [qo 6 (.alloc 154 [q0,q0,qe,q0,q0,q0,q0,q0,q0,q0,q0,q0,q0,q0,q0,q0,q0,q0,q0,q0,q0,q0,q0,q0,q0,q0,q0,q0,q0,q0,q0,q0,q0,q0,q0,(.slice none 0 0),(.bool false),q0,q0,q0,qe,q0,q0,q0,q0,q0,q0,q0,q0,q0,q0,q0,q0,q0,q0,q0,q0,q0,q0,q0,q0,q0,q0,q0,q0,q0,q0,q0,q0,q0,q0,q0,q0,(.slice none 0 0),(.bool false),q0])] (qq (qr [qf 17 0 1,qd 18 4 17,qz 19 0] (.block 0 (.loop (qr [qc 20 .lss 19 2] (qq (qu 20 .skip (.exit 0)) (qq (.block 1 (qr [qm 21 19,qo 22 (.ixa true 2 2 (.t 18) (.t 19)),qo 8 (.alloc 49 Qb),qm 7 21,qs 2 8 22] (qr [qf 24 0 8,ql 25 24,qa 26 94 [.t 25],qm 23 26,qx 27 0 23,qx 28 1 23,qo 9 (.alloc 72 xJ),qs 38 9 27,qm 10 28] (qq (qr [qm 29 10,qc 30 .neq 29 0,qm 31 30,qg 32 31 false (.faddr 36 (.t 9)),qg 33 31 false (.load1 (.t 32)),qg 34 31 false (.not (.t 33)),qo 35 (.pick (.t 31) (.c (.bool true)) (.t 34))] (qu 35 (.exit 1) .skip)) (qr [qm 36 7,qd 37 38 9,qo 38 (.iarr 2 38 (.t 6) (.t 36)),qs 38 38 37] (qq (.region true [qm 39 5,qc 40 .lss 39 0,qm 41 40,qg 42 41 false (.faddr 0 (.t 9)),qg 43 41 false (.load1 (.t 42)),qg 44 41 false (.mov (.t 5)),qg 45 41 false (.iarr 2 38 (.t 6) (.t 44)),qg 46 41 false (.faddr 0 (.t 45)),qg 47 41 false (.load1 (.t 46)),qg 48 41 false (.bin .gtr (.t 43) (.t 47)),qo 49 (.pick (.t 41) (.c (.bool true)) (.t 48))]) (qu 49 (qR [qm 50 7,qm 5 50]) .skip))))))) (qR [qc 51 .add 19 1,qm 19 51]))))))) (qq (qr [qm 52 5,qc 53 .lss 52 0] (qu 53 (qr [qo 2 (.mov (.c (.pointer none))),qz 3 12] .ret) .skip)) (qq (.region true [qd 54 4 1,qm 55 5,qm 56 5,qo 57 (.iarr 2 38 (.t 6) (.t 56)),qd 58 38 57,qo 59 (.build Xg [(0,4,(.t 54)),(4,1,(.t 55)),(5,38,(.t 58))]),qo 60 (.box 75 47 (.t 59)),qm 11 60]) (qr [qm 61 11,qm 62 5,qm 63 11,qn 64 63,qf 65 5 64,qf 66 37 65,ql 67 66,qa 68 92 [.t 61,.t 62,.t 67]] (qr [qm 69 11,qm 70 5,qo 71 (.bin .sub (qk 1) (.t 70)),qa 72 92 [.t 69,.t 71,qk 0]] (qr [qm 73 11,qm 74 5,qa 75 28 [.t 73,.t 74]] (qq (.region true [qm 77 11,qm 78 11,qn 79 78,qf 80 5 79,qf 81 2 80,ql 82 81,qm 83 11,qn 84 83,qf 85 5 84,qf 86 35 85,ql 87 86,qm 88 11,qn 89 88,qf 90 5 89,qf 91 35 90,ql 92 91,qo 93 (.len false (.t 92)),qa 94 76 [.t 82,.t 87,.t 93],qm 76 94,qx 95 0 76,qx 96 1 76,qn 97 77,qf 98 43 97,qs 1 98 95]) (qr [qm 99 11,qm 100 11,qa 101 34 [.t 100],qn 102 99,qf 103 44 102,qs 1 103 101] (qr [qm 104 11,qm 2 104,qz 3 0] .ret))))))))))))
theorem KL:fF Tryz.prog 54 Tryz.f54 AG [.t 2,.t 3] 1 er:=⟨Tryz.func54,by decide+kernel,by kernel_rfl,by kernel_rfl,by decide+kernel⟩
theorem KM(P:Prim)(hP:P=dn)(T T1:c8)(W:CK T)(B:Ef T)(L:Ac T)(N:mu T)(O:Cx T1)(a1:BS)(a2:Int)(b1:BS)(b2:Int)(c:Int)(h1:gK T 95 [.agg [.str a1,qI a2,.str b1,qI b2]] (qI c))
  (X:c=0->a1.length<=1048576)(Q:c=0->b1.length<=1048576)(LA LB:hI)(eA eB:Int)(hA:fW (fk a1).1=(LA,eA))(hB:fW (fk b1).1=(LB,eB))(oA:eA=0->Ey LA)(oB:eB=0->Ey LB)
  (Y:PH)(U:Y=if c≠0 then⟨Z0,[],c⟩ else oH (LA,eA) (LB,eB) a1 a2 b1 b2)
  (R:S->Prop)(hE:∀(s s':S)(e:Int),e=Y.e->e≠0->c6 s s'->iH [.t 2,.t 3] [.nil,qI e] s'->R s)
  (hR:∀(s s':S)(bl:Nat)(ba:Option Nat)(n:Nat)(rows:List (List V))(d:SC),d=Y.d->Y.e=0->n=Y.l.length->rows=Y.l.map ca->c6 s s'->iH [.t 2,.t 3] [.ptr 60 (some bl) 47 0 0,qI 0] s'->
   fG [(60,fx bl (fw d (.own 1000200 ba 3 n) .nil)),(1000200,iw ba rows),(999,⟨none,133,3,[]⟩)] s'->R s):gj P T T1 AG (S0 [.agg [.str a1,qI a2,.str b1,qI b2]] Hp.emp) R (λ_ _=>False) R:=by
 have a0:P.fC 0 0:=iu hP qD;have a01:P.fC 0 1:=iu hP qD;have l0:P.iO 0 2:=kN hP qD;have l1:P.iO 1 2:=kN hP qD;have n0:P.nat 0=0:=by subst hP;rfl
 have n1:P.nat 1=1:=by subst hP;rfl
 have c1:P.i64 (P.add 0 1):=by rw[add_eq hP];exact eR hP qD
 have c2:P.i64 (P.add 1 1):=by rw[add_eq hP];exact eR hP qD
 have c3:P.add 0 1=1:=by rw[add_eq hP];rfl
 have c4:P.add 1 1=2:=by rw[add_eq hP];rfl
 cbv
 repeat' first|(refine qA ?_;cbv)|(intro p;cbv)|(refine h1 _ _ ?_;cbv)|fail
 refine ab (λg=>?_) (λg=>?_)
 ·have g1:c≠0:=hH hP g;rw[ae g1] at U;cbv
  repeat' first|(refine qA ?_;cbv)|(intro p;cbv)
  exact hE _ _ _ (by rw[U]) g1 (c6.refl _) rfl
 have g1:c=0:=gZ hP g;rw[aa (λh=>h g1)] at U;have X:=X g1;have Q:=Q g1;cbv
 repeat' first|(refine qA ?_;cbv)|(intro p;cbv)
 rename_i u;refine⟨Zy (hG (LA,eA)) (hG (LB,eB)) LA LB,λy=>match y with
   |.y0=>[(1,.ptr 1 (some u) 4 0 0),(5,.int .i64 (-1)),(6,.ptr 6 (some p) 76 0 0),(18,.agg [.str a1,.int .i64 a2,.str b1,.int .i64 b2]),(19,.int .i64 0)]
   |.n1 _=>[(1,.ptr 1 (some u) 4 0 0),(5,.int .i64 (-1)),(6,.ptr 6 (some p) 76 0 0),(18,.agg [.str a1,.int .i64 a2,.str b1,.int .i64 b2]),(19,.int .i64 1)]
   |.s1 r _=>[(1,.ptr 1 (some u) 4 0 0),(5,.int .i64 (0)),(6,.ptr 6 (some p) 76 0 0),(18,.agg [.str a1,.int .i64 a2,.str b1,.int .i64 b2]),(19,.int .i64 1)]
   |.nn _ _=>[(1,.ptr 1 (some u) 4 0 0),(5,.int .i64 (-1)),(6,.ptr 6 (some p) 76 0 0),(18,.agg [.str a1,.int .i64 a2,.str b1,.int .i64 b2]),(19,.int .i64 2)]
   |.ns _ H _=>[(1,.ptr 1 (some u) 4 0 0),(5,.int .i64 (1)),(6,.ptr 6 (some p) 76 0 0),(18,.agg [.str a1,.int .i64 a2,.str b1,.int .i64 b2]),(19,.int .i64 2)]
   |.sn r _ _=>[(1,.ptr 1 (some u) 4 0 0),(5,.int .i64 (0)),(6,.ptr 6 (some p) 76 0 0),(18,.agg [.str a1,.int .i64 a2,.str b1,.int .i64 b2]),(19,.int .i64 2)]
   |.ss r H _ _ _=>[(1,.ptr 1 (some u) 4 0 0),(5,.int .i64 (0)),(6,.ptr 6 (some p) 76 0 0),(18,.agg [.str a1,.int .i64 a2,.str b1,.int .i64 b2]),(19,.int .i64 2)]
   |.st r H _ _ _=>[(1,.ptr 1 (some u) 4 0 0),(5,.int .i64 (1)),(6,.ptr 6 (some p) 76 0 0),(18,.agg [.str a1,.int .i64 a2,.str b1,.int .i64 b2]),(19,.int .i64 2)],
  λy=>match y with
   |.y0=>[(1,⟨some u,52,4,[[.str a1,.int .i64 a2,.str b1,.int .i64 b2]]⟩),(6,⟨some p,154,76,[[.int .i64 0,.int .i64 0,.str [],.int .i64 0,.int .i64 0,.int .i64 0,.int .i64 0,.int .i64 0,.int .i64 0,.int .i64 0,.int .i64 0,.int .i64 0,.int .i64 0,.int .i64 0,.int .i64 0,.int .i64 0,.int .i64 0,.int .i64 0,.int .i64 0,.int .i64 0,.int .i64 0,.int .i64 0,.int .i64 0,.int .i64 0,.int .i64 0,.int .i64 0,.int .i64 0,.int .i64 0,.int .i64 0,.int .i64 0,.int .i64 0,.int .i64 0,.int .i64 0,.int .i64 0,.int .i64 0,.nilsl,.bool false,.int .i64 0,.int .i64 0,.int .i64 0,.str [],.int .i64 0,.int .i64 0,.int .i64 0,.int .i64 0,.int .i64 0,.int .i64 0,.int .i64 0,.int .i64 0,.int .i64 0,.int .i64 0,.int .i64 0,.int .i64 0,.int .i64 0,.int .i64 0,.int .i64 0,.int .i64 0,.int .i64 0,.int .i64 0,.int .i64 0,.int .i64 0,.int .i64 0,.int .i64 0,.int .i64 0,.int .i64 0,.int .i64 0,.int .i64 0,.int .i64 0,.int .i64 0,.int .i64 0,.int .i64 0,.int .i64 0,.int .i64 0,.nilsl,.bool false,.int .i64 0]]⟩)]
   |.n1 _=>[(1,⟨some u,52,4,[[.str a1,.int .i64 a2,.str b1,.int .i64 b2]]⟩),(6,⟨some p,154,76,[[.int .i64 0,.int .i64 0,.str [],.int .i64 0,.int .i64 0,.int .i64 0,.int .i64 0,.int .i64 0,.int .i64 0,.int .i64 0,.int .i64 0,.int .i64 0,.int .i64 0,.int .i64 0,.int .i64 0,.int .i64 0,.int .i64 0,.int .i64 0,.int .i64 0,.int .i64 0,.int .i64 0,.int .i64 0,.int .i64 0,.int .i64 0,.int .i64 0,.int .i64 0,.int .i64 0,.int .i64 0,.int .i64 0,.int .i64 0,.int .i64 0,.int .i64 0,.int .i64 0,.int .i64 0,.int .i64 0,.nilsl,.bool false,.int .i64 0,.int .i64 0,.int .i64 0,.str [],.int .i64 0,.int .i64 0,.int .i64 0,.int .i64 0,.int .i64 0,.int .i64 0,.int .i64 0,.int .i64 0,.int .i64 0,.int .i64 0,.int .i64 0,.int .i64 0,.int .i64 0,.int .i64 0,.int .i64 0,.int .i64 0,.int .i64 0,.int .i64 0,.int .i64 0,.int .i64 0,.int .i64 0,.int .i64 0,.int .i64 0,.int .i64 0,.int .i64 0,.int .i64 0,.int .i64 0,.int .i64 0,.int .i64 0,.int .i64 0,.int .i64 0,.int .i64 0,.nilsl,.bool false,.int .i64 0]]⟩)]
   |.s1 r _=>[(1,⟨some u,52,4,[[.str a1,.int .i64 a2,.str b1,.int .i64 b2]]⟩),(6,⟨some p,154,76,[[.int .i64 LA.gen,.int .i64 LA.base,.str LA.text,.int .i64 (LA.first 0),.int .i64 (LA.first 1),.int .i64 (LA.first 2),.int .i64 (LA.first 3),.int .i64 (LA.first 4),.int .i64 (LA.first 5),.int .i64 (LA.first 6),.int .i64 (LA.first 7),.int .i64 (LA.first 8),.int .i64 (LA.first 9),.int .i64 (LA.first 10),.int .i64 (LA.first 11),.int .i64 (LA.first 12),.int .i64 (LA.first 13),.int .i64 (LA.first 14),.int .i64 (LA.first 15),.int .i64 (LA.table 0),.int .i64 (LA.table 1),.int .i64 (LA.table 2),.int .i64 (LA.table 3),.int .i64 (LA.table 4),.int .i64 (LA.table 5),.int .i64 (LA.table 6),.int .i64 (LA.table 7),.int .i64 (LA.table 8),.int .i64 (LA.table 9),.int .i64 (LA.table 10),.int .i64 (LA.table 11),.int .i64 (LA.table 12),.int .i64 (LA.table 13),.int .i64 (LA.table 14),.int .i64 (LA.table 15),.own 1000200 r.ba 3 r.n,.bool LA.whole,.int .i64 LA.eF,.int .i64 0,.int .i64 0,.str [],.int .i64 0,.int .i64 0,.int .i64 0,.int .i64 0,.int .i64 0,.int .i64 0,.int .i64 0,.int .i64 0,.int .i64 0,.int .i64 0,.int .i64 0,.int .i64 0,.int .i64 0,.int .i64 0,.int .i64 0,.int .i64 0,.int .i64 0,.int .i64 0,.int .i64 0,.int .i64 0,.int .i64 0,.int .i64 0,.int .i64 0,.int .i64 0,.int .i64 0,.int .i64 0,.int .i64 0,.int .i64 0,.int .i64 0,.int .i64 0,.int .i64 0,.int .i64 0,.nilsl,.bool false,.int .i64 0]]⟩),(1000200,iw r.ba r.rows)]
   |.nn _ _=>[(1,⟨some u,52,4,[[.str a1,.int .i64 a2,.str b1,.int .i64 b2]]⟩),(6,⟨some p,154,76,[[.int .i64 0,.int .i64 0,.str [],.int .i64 0,.int .i64 0,.int .i64 0,.int .i64 0,.int .i64 0,.int .i64 0,.int .i64 0,.int .i64 0,.int .i64 0,.int .i64 0,.int .i64 0,.int .i64 0,.int .i64 0,.int .i64 0,.int .i64 0,.int .i64 0,.int .i64 0,.int .i64 0,.int .i64 0,.int .i64 0,.int .i64 0,.int .i64 0,.int .i64 0,.int .i64 0,.int .i64 0,.int .i64 0,.int .i64 0,.int .i64 0,.int .i64 0,.int .i64 0,.int .i64 0,.int .i64 0,.nilsl,.bool false,.int .i64 0,.int .i64 0,.int .i64 0,.str [],.int .i64 0,.int .i64 0,.int .i64 0,.int .i64 0,.int .i64 0,.int .i64 0,.int .i64 0,.int .i64 0,.int .i64 0,.int .i64 0,.int .i64 0,.int .i64 0,.int .i64 0,.int .i64 0,.int .i64 0,.int .i64 0,.int .i64 0,.int .i64 0,.int .i64 0,.int .i64 0,.int .i64 0,.int .i64 0,.int .i64 0,.int .i64 0,.int .i64 0,.int .i64 0,.int .i64 0,.int .i64 0,.int .i64 0,.int .i64 0,.int .i64 0,.int .i64 0,.nilsl,.bool false,.int .i64 0]]⟩)]
   |.ns _ H _=>[(1,⟨some u,52,4,[[.str a1,.int .i64 a2,.str b1,.int .i64 b2]]⟩),(6,⟨some p,154,76,[[.int .i64 0,.int .i64 0,.str [],.int .i64 0,.int .i64 0,.int .i64 0,.int .i64 0,.int .i64 0,.int .i64 0,.int .i64 0,.int .i64 0,.int .i64 0,.int .i64 0,.int .i64 0,.int .i64 0,.int .i64 0,.int .i64 0,.int .i64 0,.int .i64 0,.int .i64 0,.int .i64 0,.int .i64 0,.int .i64 0,.int .i64 0,.int .i64 0,.int .i64 0,.int .i64 0,.int .i64 0,.int .i64 0,.int .i64 0,.int .i64 0,.int .i64 0,.int .i64 0,.int .i64 0,.int .i64 0,.nilsl,.bool false,.int .i64 0,.int .i64 LB.gen,.int .i64 LB.base,.str LB.text,.int .i64 (LB.first 0),.int .i64 (LB.first 1),.int .i64 (LB.first 2),.int .i64 (LB.first 3),.int .i64 (LB.first 4),.int .i64 (LB.first 5),.int .i64 (LB.first 6),.int .i64 (LB.first 7),.int .i64 (LB.first 8),.int .i64 (LB.first 9),.int .i64 (LB.first 10),.int .i64 (LB.first 11),.int .i64 (LB.first 12),.int .i64 (LB.first 13),.int .i64 (LB.first 14),.int .i64 (LB.first 15),.int .i64 (LB.table 0),.int .i64 (LB.table 1),.int .i64 (LB.table 2),.int .i64 (LB.table 3),.int .i64 (LB.table 4),.int .i64 (LB.table 5),.int .i64 (LB.table 6),.int .i64 (LB.table 7),.int .i64 (LB.table 8),.int .i64 (LB.table 9),.int .i64 (LB.table 10),.int .i64 (LB.table 11),.int .i64 (LB.table 12),.int .i64 (LB.table 13),.int .i64 (LB.table 14),.int .i64 (LB.table 15),.own 1000201 H.ba 3 H.n,.bool LB.whole,.int .i64 LB.eF]]⟩),(1000201,iw H.ba H.rows)]
   |.sn r _ _=>[(1,⟨some u,52,4,[[.str a1,.int .i64 a2,.str b1,.int .i64 b2]]⟩),(6,⟨some p,154,76,[[.int .i64 LA.gen,.int .i64 LA.base,.str LA.text,.int .i64 (LA.first 0),.int .i64 (LA.first 1),.int .i64 (LA.first 2),.int .i64 (LA.first 3),.int .i64 (LA.first 4),.int .i64 (LA.first 5),.int .i64 (LA.first 6),.int .i64 (LA.first 7),.int .i64 (LA.first 8),.int .i64 (LA.first 9),.int .i64 (LA.first 10),.int .i64 (LA.first 11),.int .i64 (LA.first 12),.int .i64 (LA.first 13),.int .i64 (LA.first 14),.int .i64 (LA.first 15),.int .i64 (LA.table 0),.int .i64 (LA.table 1),.int .i64 (LA.table 2),.int .i64 (LA.table 3),.int .i64 (LA.table 4),.int .i64 (LA.table 5),.int .i64 (LA.table 6),.int .i64 (LA.table 7),.int .i64 (LA.table 8),.int .i64 (LA.table 9),.int .i64 (LA.table 10),.int .i64 (LA.table 11),.int .i64 (LA.table 12),.int .i64 (LA.table 13),.int .i64 (LA.table 14),.int .i64 (LA.table 15),.own 1000200 r.ba 3 r.n,.bool LA.whole,.int .i64 LA.eF,.int .i64 0,.int .i64 0,.str [],.int .i64 0,.int .i64 0,.int .i64 0,.int .i64 0,.int .i64 0,.int .i64 0,.int .i64 0,.int .i64 0,.int .i64 0,.int .i64 0,.int .i64 0,.int .i64 0,.int .i64 0,.int .i64 0,.int .i64 0,.int .i64 0,.int .i64 0,.int .i64 0,.int .i64 0,.int .i64 0,.int .i64 0,.int .i64 0,.int .i64 0,.int .i64 0,.int .i64 0,.int .i64 0,.int .i64 0,.int .i64 0,.int .i64 0,.int .i64 0,.int .i64 0,.int .i64 0,.nilsl,.bool false,.int .i64 0]]⟩),(1000200,iw r.ba r.rows)]
   |.ss r H _ _ _=>[(1,⟨some u,52,4,[[.str a1,.int .i64 a2,.str b1,.int .i64 b2]]⟩),(6,⟨some p,154,76,[[.int .i64 LA.gen,.int .i64 LA.base,.str LA.text,.int .i64 (LA.first 0),.int .i64 (LA.first 1),.int .i64 (LA.first 2),.int .i64 (LA.first 3),.int .i64 (LA.first 4),.int .i64 (LA.first 5),.int .i64 (LA.first 6),.int .i64 (LA.first 7),.int .i64 (LA.first 8),.int .i64 (LA.first 9),.int .i64 (LA.first 10),.int .i64 (LA.first 11),.int .i64 (LA.first 12),.int .i64 (LA.first 13),.int .i64 (LA.first 14),.int .i64 (LA.first 15),.int .i64 (LA.table 0),.int .i64 (LA.table 1),.int .i64 (LA.table 2),.int .i64 (LA.table 3),.int .i64 (LA.table 4),.int .i64 (LA.table 5),.int .i64 (LA.table 6),.int .i64 (LA.table 7),.int .i64 (LA.table 8),.int .i64 (LA.table 9),.int .i64 (LA.table 10),.int .i64 (LA.table 11),.int .i64 (LA.table 12),.int .i64 (LA.table 13),.int .i64 (LA.table 14),.int .i64 (LA.table 15),.own 1000200 r.ba 3 r.n,.bool LA.whole,.int .i64 LA.eF,.int .i64 LB.gen,.int .i64 LB.base,.str LB.text,.int .i64 (LB.first 0),.int .i64 (LB.first 1),.int .i64 (LB.first 2),.int .i64 (LB.first 3),.int .i64 (LB.first 4),.int .i64 (LB.first 5),.int .i64 (LB.first 6),.int .i64 (LB.first 7),.int .i64 (LB.first 8),.int .i64 (LB.first 9),.int .i64 (LB.first 10),.int .i64 (LB.first 11),.int .i64 (LB.first 12),.int .i64 (LB.first 13),.int .i64 (LB.first 14),.int .i64 (LB.first 15),.int .i64 (LB.table 0),.int .i64 (LB.table 1),.int .i64 (LB.table 2),.int .i64 (LB.table 3),.int .i64 (LB.table 4),.int .i64 (LB.table 5),.int .i64 (LB.table 6),.int .i64 (LB.table 7),.int .i64 (LB.table 8),.int .i64 (LB.table 9),.int .i64 (LB.table 10),.int .i64 (LB.table 11),.int .i64 (LB.table 12),.int .i64 (LB.table 13),.int .i64 (LB.table 14),.int .i64 (LB.table 15),.own 1000201 H.ba 3 H.n,.bool LB.whole,.int .i64 LB.eF]]⟩),(1000200,iw r.ba r.rows),(1000201,iw H.ba H.rows)]
   |.st r H _ _ _=>[(1,⟨some u,52,4,[[.str a1,.int .i64 a2,.str b1,.int .i64 b2]]⟩),(6,⟨some p,154,76,[[.int .i64 LA.gen,.int .i64 LA.base,.str LA.text,.int .i64 (LA.first 0),.int .i64 (LA.first 1),.int .i64 (LA.first 2),.int .i64 (LA.first 3),.int .i64 (LA.first 4),.int .i64 (LA.first 5),.int .i64 (LA.first 6),.int .i64 (LA.first 7),.int .i64 (LA.first 8),.int .i64 (LA.first 9),.int .i64 (LA.first 10),.int .i64 (LA.first 11),.int .i64 (LA.first 12),.int .i64 (LA.first 13),.int .i64 (LA.first 14),.int .i64 (LA.first 15),.int .i64 (LA.table 0),.int .i64 (LA.table 1),.int .i64 (LA.table 2),.int .i64 (LA.table 3),.int .i64 (LA.table 4),.int .i64 (LA.table 5),.int .i64 (LA.table 6),.int .i64 (LA.table 7),.int .i64 (LA.table 8),.int .i64 (LA.table 9),.int .i64 (LA.table 10),.int .i64 (LA.table 11),.int .i64 (LA.table 12),.int .i64 (LA.table 13),.int .i64 (LA.table 14),.int .i64 (LA.table 15),.own 1000200 r.ba 3 r.n,.bool LA.whole,.int .i64 LA.eF,.int .i64 LB.gen,.int .i64 LB.base,.str LB.text,.int .i64 (LB.first 0),.int .i64 (LB.first 1),.int .i64 (LB.first 2),.int .i64 (LB.first 3),.int .i64 (LB.first 4),.int .i64 (LB.first 5),.int .i64 (LB.first 6),.int .i64 (LB.first 7),.int .i64 (LB.first 8),.int .i64 (LB.first 9),.int .i64 (LB.first 10),.int .i64 (LB.first 11),.int .i64 (LB.first 12),.int .i64 (LB.first 13),.int .i64 (LB.first 14),.int .i64 (LB.first 15),.int .i64 (LB.table 0),.int .i64 (LB.table 1),.int .i64 (LB.table 2),.int .i64 (LB.table 3),.int .i64 (LB.table 4),.int .i64 (LB.table 5),.int .i64 (LB.table 6),.int .i64 (LB.table 7),.int .i64 (LB.table 8),.int .i64 (LB.table 9),.int .i64 (LB.table 10),.int .i64 (LB.table 11),.int .i64 (LB.table 12),.int .i64 (LB.table 13),.int .i64 (LB.table 14),.int .i64 (LB.table 15),.own 1000201 H.ba 3 H.n,.bool LB.whole,.int .i64 LB.eF]]⟩),(1000200,iw r.ba r.rows),(1000201,iw H.ba H.rows)],
  λy=>match y with|.y0=>2|.n1 _=>1|.s1 _ _=>1|_=>0,
  ⟨_,c6.refl _,.y0,⟨rfl,rfl,rfl,rfl,rfl,trivial⟩,⟨rfl,rfl,trivial⟩⟩,?_⟩
 rintro(_|J|⟨r,A⟩|⟨J,Z⟩|⟨J,H,M⟩|⟨r,A,Z⟩|⟨r,H,A,M,hlt⟩|⟨r,H,A,M,hlt⟩)
 ·cbv;refine iv (wj hP qD) ?_;cbv
  repeat' first|(refine qA ?_;cbv)|(refine⟨0,n0,?_⟩;cbv)|(intro a;cbv)
  refine W 1000200 _ _ _ X rfl λC K ba n rows D hn ds=>?_;rw[hA] at D;obtain⟨rfl,rfl⟩:C=LA/\K=eA:=⟨aB Prod.fst D,aB Prod.snd D⟩;refine⟨λhe=>?_,λhe=>?_,λhe=>?_⟩
  ·cbv
   repeat' first|(refine qA ?_;cbv)|(intro a;cbv)|(refine hJ (oq hP he) ?_;cbv)|fail
   refine ab (λg=>?_) (λg=>?_)
   ·have hw:C.whole=true:=g;have hg0:hG (C,K):=⟨he,hw⟩;cbv
    repeat' first|(refine qA ?_;cbv)|(refine⟨0,n0,?_⟩;cbv)|(intro a;cbv)
    refine iv (wj hP qD) ?_;cbv
    repeat' first|(refine qA ?_;cbv)|(intro a;cbv)
    rw[c3];exact⟨_,c6.refl _,.s1 ⟨ba,n,rows,hn,ds⟩ hg0,⟨rfl,rfl,rfl,rfl,rfl,trivial⟩,⟨rfl,rfl,rfl,trivial⟩,bJ 1⟩
   ·have hw:C.whole=false:=g;have hg0:¬hG (C,K):=λI=>by have:=I.2;rw[hw] at this;cases this
    cbv
    repeat' first|(refine qA ?_;cbv)|(intro a;cbv)
    rw[c3];exact⟨_,c6.refl _,.n1 hg0,⟨rfl,rfl,rfl,rfl,rfl,trivial⟩,⟨rfl,rfl,trivial⟩,bJ 1⟩
  ·have hg0:¬hG (C,K):=λI=>he I.1;cbv
   repeat' first|(refine qA ?_;cbv)|(intro a;cbv)|(refine iv (wm hP he) ?_;cbv)|fail
   rw[c3];exact⟨_,c6.refl _,.n1 hg0,⟨rfl,rfl,rfl,rfl,rfl,trivial⟩,⟨rfl,rfl,trivial⟩,bJ 1⟩
  ·have hg0:¬hG (C,K):=λI=>he I.1;cbv
   repeat' first|(refine qA ?_;cbv)|(intro a;cbv)|(refine iv (wm hP he) ?_;cbv)|fail
   rw[c3];exact⟨_,c6.refl _,.n1 hg0,⟨rfl,rfl,rfl,rfl,rfl,trivial⟩,⟨rfl,rfl,trivial⟩,bJ 1⟩
 ·cbv;refine iv (wj hP qD) ?_;cbv
  repeat' first|(refine qA ?_;cbv)|(refine⟨1,n1,?_⟩;cbv)|(intro a;cbv)
  refine W 1000201 _ _ _ Q rfl λC K ba n rows D hn ds=>?_;rw[hB] at D;obtain⟨rfl,rfl⟩:C=LB/\K=eB:=⟨aB Prod.fst D,aB Prod.snd D⟩;refine⟨λhe=>?_,λhe=>?_,λhe=>?_⟩
  ·cbv
   repeat' first|(refine qA ?_;cbv)|(intro a;cbv)|(refine hJ (oq hP he) ?_;cbv)|fail
   refine ab (λg=>?_) (λg=>?_)
   ·have hw:C.whole=true:=g;have hg0:hG (C,K):=⟨he,hw⟩;cbv
    repeat' first|(refine qA ?_;cbv)|(refine⟨1,n1,?_⟩;cbv)|(intro a;cbv)
    refine iv (wj hP qD) ?_;cbv
    repeat' first|(refine qA ?_;cbv)|(intro a;cbv)
    rw[c4];exact⟨_,c6.refl _,.ns J ⟨ba,n,rows,hn,ds⟩ hg0,⟨rfl,rfl,rfl,rfl,rfl,trivial⟩,⟨rfl,rfl,rfl,trivial⟩,bJ 0⟩
   ·have hw:C.whole=false:=g;have hg0:¬hG (C,K):=λI=>by have:=I.2;rw[hw] at this;cases this
    cbv
    repeat' first|(refine qA ?_;cbv)|(intro a;cbv)
    rw[c4];exact⟨_,c6.refl _,.nn J hg0,⟨rfl,rfl,rfl,rfl,rfl,trivial⟩,⟨rfl,rfl,trivial⟩,bJ 0⟩
  ·have hg0:¬hG (C,K):=λI=>he I.1;cbv
   repeat' first|(refine qA ?_;cbv)|(intro a;cbv)|(refine iv (wm hP he) ?_;cbv)|fail
   rw[c4];exact⟨_,c6.refl _,.nn J hg0,⟨rfl,rfl,rfl,rfl,rfl,trivial⟩,⟨rfl,rfl,trivial⟩,bJ 0⟩
  ·have hg0:¬hG (C,K):=λI=>he I.1;cbv
   repeat' first|(refine qA ?_;cbv)|(intro a;cbv)|(refine iv (wm hP he) ?_;cbv)|fail
   rw[c4];exact⟨_,c6.refl _,.nn J hg0,⟨rfl,rfl,rfl,rfl,rfl,trivial⟩,⟨rfl,rfl,trivial⟩,bJ 0⟩
 ·cbv;refine iv (wj hP qD) ?_;cbv
  repeat' first|(refine qA ?_;cbv)|(refine⟨1,n1,?_⟩;cbv)|(intro a;cbv)
  refine W 1000201 _ _ _ Q rfl λC K ba n rows D hn ds=>?_;rw[hB] at D;obtain⟨rfl,rfl⟩:C=LB/\K=eB:=⟨aB Prod.fst D,aB Prod.snd D⟩;refine⟨λhe=>?_,λhe=>?_,λhe=>?_⟩
  ·cbv
   repeat' first|(refine qA ?_;cbv)|(intro a;cbv)|(refine hJ (oq hP he) ?_;cbv)|fail
   refine ab (λg=>?_) (λg=>?_)
   ·have hw:C.whole=true:=g;have hg0:hG (C,K):=⟨he,hw⟩;cbv
    repeat' first|(refine qA ?_;cbv)|(refine⟨1,n1,?_⟩;cbv)|(intro a;cbv)
    refine hJ (uh hP qD) ?_;cbv
    repeat' first|(refine qA ?_;cbv)|(refine⟨0,n0,?_⟩;cbv)|(intro a;cbv)
    refine ab (λg=>?_) (λg=>?_)
    ·have hlt:LA.gen<C.gen:=fJ hP g;cbv
     repeat' first|(refine qA ?_;cbv)|(intro a;cbv)
     rw[c4];exact⟨_,c6.refl _,.st r ⟨ba,n,rows,hn,ds⟩ A hg0 hlt,⟨rfl,rfl,rfl,rfl,rfl,trivial⟩,⟨rfl,rfl,rfl,rfl,trivial⟩,bJ 0⟩
    ·have hlt:¬LA.gen<C.gen:=fM hP g;cbv
     repeat' first|(refine qA ?_;cbv)|(intro a;cbv)
     rw[c4];exact⟨_,c6.refl _,.ss r ⟨ba,n,rows,hn,ds⟩ A hg0 hlt,⟨rfl,rfl,rfl,rfl,rfl,trivial⟩,⟨rfl,rfl,rfl,rfl,trivial⟩,bJ 0⟩
   ·have hw:C.whole=false:=g;have hg0:¬hG (C,K):=λI=>by have:=I.2;rw[hw] at this;cases this
    cbv
    repeat' first|(refine qA ?_;cbv)|(intro a;cbv)
    rw[c4];exact⟨_,c6.refl _,.sn r A hg0,⟨rfl,rfl,rfl,rfl,rfl,trivial⟩,⟨rfl,rfl,rfl,trivial⟩,bJ 0⟩
  ·have hg0:¬hG (C,K):=λI=>he I.1;cbv
   repeat' first|(refine qA ?_;cbv)|(intro a;cbv)|(refine iv (wm hP he) ?_;cbv)|fail
   rw[c4];exact⟨_,c6.refl _,.sn r A hg0,⟨rfl,rfl,rfl,rfl,rfl,trivial⟩,⟨rfl,rfl,rfl,trivial⟩,bJ 0⟩
  ·have hg0:¬hG (C,K):=λI=>he I.1;cbv
   repeat' first|(refine qA ?_;cbv)|(intro a;cbv)|(refine iv (wm hP he) ?_;cbv)|fail
   rw[c4];exact⟨_,c6.refl _,.sn r A hg0,⟨rfl,rfl,rfl,rfl,rfl,trivial⟩,⟨rfl,rfl,rfl,trivial⟩,bJ 0⟩
 ·have o:Y=⟨Z0,[],12⟩:=by rw[U];unfold oH;rw[aa J,aa Z]
  cbv;refine hJ (uh hP qD) ?_;cbv
  repeat' first|(refine qA ?_;cbv)|(intro a;cbv)
  refine iv (wj hP qD) ?_;cbv
  repeat' first|(refine qA ?_;cbv)|(intro a;cbv)
  exact hE _ _ _ (by rw[o]) qD (c6.refl _) rfl
 ·have o:Y=⟨lI a1 a2 b1 b2 1 LB,LB.e8,0⟩:=by rw[U];unfold oH;rw[aa J,ae M]
  have v:=oB M.1;obtain⟨f,gn,i,m,j⟩:=H;have p1:P.i64 (P.sub 1 1):=by rw[sub_eq hP];exact eR hP qD
  have p2:P.sub 1 1=1-1:=sub_eq hP _ _;have E:gn<=1000:=by rw[m];exact v.n
  cbv;refine hJ (uh hP qD) ?_;cbv
  repeat' first|(refine qA ?_;cbv)|(intro a;cbv)
  refine hJ (uh hP qD) ?_;cbv
  repeat' first|(refine qA ?_;cbv)|(refine⟨1,n1,?_⟩;cbv)|(intro a;cbv)
  refine B 60 _ (⟨a1,a2,b1,b2,1,LB.gen,LB.base,LB.text,LB.first,LB.table,LB.whole,LB.eF,[],0,false⟩:SC) (.own 1000201 f 3 gn) .nil _ _ _ _ ⟨⟨.own _ _ _ _,rfl⟩,.nil,rfl⟩ rfl rfl rfl λd1 w=>?_;cbv
  repeat' first|(refine qA ?_;cbv)|(intro a;cbv)
  refine B 60 _ d1 (.own 1000201 f 3 gn) .nil _ _ _ _ ⟨⟨.own _ _ _ _,rfl⟩,.nil,rfl⟩ rfl rfl rfl λd2 k=>?_;have k:d2=iF d1 (P.sub 1 1) 0:=k;rw[p2] at k;cbv
  repeat' first|(refine qA ?_;cbv)|(intro a;cbv)
  refine L 60 _ d2 (.own 1000201 f 3 gn) .nil _ _ _ ⟨⟨.own _ _ _ _,rfl⟩,.nil,rfl⟩ rfl rfl rfl λd3 z=>?_;have F:d3.tx=LB.text:=by rw[z,k,w];rfl
  have G:d3.b=LB.base:=by rw[z,k,w];rfl
  cbv
  repeat' first|(refine qA ?_;cbv)|(intro a;cbv)
  refine O 1000201 f gn i LB.e8 _ _ _ _ j m v.rv rfl λx y hx hy=>?_;have hx:x=(kQ d3.tx LB.e8 (P.int gn)).1:=hx;rw[F,int_eq hP,m] at hx;cbv
  repeat' first|(refine qA ?_;cbv)|(intro a;cbv)
  refine N 60 _ {d3 with now:=x} 1000201 f gn .nil _ _ (by rw[show({d3 with now:=x}:SC).b=LB.base from G];exact v.b) E ⟨.nil,rfl⟩ rfl rfl rfl λq hq=>?_
  have hq:q=d3.b+(gn:Int):=hq;rw[G,m] at hq;cbv
  repeat' first|(refine qA ?_;cbv)|(intro a;cbv)
  refine hR _ _ _ f gn i {d3 with now:=x,sf:=q} (by rw[o,hq,hx,z,k,w];rfl) (by rw[o]) (by rw[o];exact m) (by rw[o];exact j)
   (c6.trans (c6.pR _ 999 133 3) (c6.CD [(60,60,fx _ (fw {d3 with now:=x,sf:=q} (.own 1000200 f 3 gn) .nil)),(1000200,1000201,iw f i),(999,999,⟨none,133,3,[]⟩)] (by show([60,1000201,999]:List Nat).Nodup;decide) ⟨⟨_,rfl,rfl,rfl⟩,⟨_,rfl,rfl,rfl⟩,⟨_,rfl,rfl,rfl⟩,trivial⟩)) rfl ⟨rfl,rfl,rfl,trivial⟩
 ·have o:Y=⟨lI a1 a2 b1 b2 0 LA,LA.e8,0⟩:=by rw[U];unfold oH;rw[ae A,aa (λI=>Z I.1)]
  have v:=oA A.1;obtain⟨f,gn,i,m,j⟩:=r;have p1:P.i64 (P.sub 1 0):=by rw[sub_eq hP];exact eR hP qD
  have p2:P.sub 1 0=1-0:=sub_eq hP _ _;have E:gn<=1000:=by rw[m];exact v.n
  cbv;refine hJ (uh hP qD) ?_;cbv
  repeat' first|(refine qA ?_;cbv)|(intro a;cbv)
  refine hJ (uh hP qD) ?_;cbv
  repeat' first|(refine qA ?_;cbv)|(refine⟨0,n0,?_⟩;cbv)|(intro a;cbv)
  refine B 60 _ (⟨a1,a2,b1,b2,0,LA.gen,LA.base,LA.text,LA.first,LA.table,LA.whole,LA.eF,[],0,false⟩:SC) (.own 1000200 f 3 gn) .nil _ _ _ _ ⟨⟨.own _ _ _ _,rfl⟩,.nil,rfl⟩ rfl rfl rfl λd1 w=>?_;cbv
  repeat' first|(refine qA ?_;cbv)|(intro a;cbv)
  refine B 60 _ d1 (.own 1000200 f 3 gn) .nil _ _ _ _ ⟨⟨.own _ _ _ _,rfl⟩,.nil,rfl⟩ rfl rfl rfl λd2 k=>?_;have k:d2=iF d1 (P.sub 1 0) 0:=k;rw[p2] at k;cbv
  repeat' first|(refine qA ?_;cbv)|(intro a;cbv)
  refine L 60 _ d2 (.own 1000200 f 3 gn) .nil _ _ _ ⟨⟨.own _ _ _ _,rfl⟩,.nil,rfl⟩ rfl rfl rfl λd3 z=>?_;have F:d3.tx=LA.text:=by rw[z,k,w];rfl
  have G:d3.b=LA.base:=by rw[z,k,w];rfl
  cbv
  repeat' first|(refine qA ?_;cbv)|(intro a;cbv)
  refine O 1000200 f gn i LA.e8 _ _ _ _ j m v.rv rfl λx y hx hy=>?_;have hx:x=(kQ d3.tx LA.e8 (P.int gn)).1:=hx;rw[F,int_eq hP,m] at hx;cbv
  repeat' first|(refine qA ?_;cbv)|(intro a;cbv)
  refine N 60 _ {d3 with now:=x} 1000200 f gn .nil _ _ (by rw[show({d3 with now:=x}:SC).b=LA.base from G];exact v.b) E ⟨.nil,rfl⟩ rfl rfl rfl λq hq=>?_
  have hq:q=d3.b+(gn:Int):=hq;rw[G,m] at hq;cbv
  repeat' first|(refine qA ?_;cbv)|(intro a;cbv)
  refine hR _ _ _ f gn i {d3 with now:=x,sf:=q} (by rw[o,hq,hx,z,k,w];rfl) (by rw[o]) (by rw[o];exact m) (by rw[o];exact j)
   (c6.trans (c6.pR _ 999 133 3) (c6.CD [(60,60,fx _ (fw {d3 with now:=x,sf:=q} (.own 1000200 f 3 gn) .nil)),(1000200,1000200,iw f i),(999,999,⟨none,133,3,[]⟩)] (by show([60,1000200,999]:List Nat).Nodup;decide) ⟨⟨_,rfl,rfl,rfl⟩,⟨_,rfl,rfl,rfl⟩,⟨_,rfl,rfl,rfl⟩,trivial⟩)) rfl ⟨rfl,rfl,rfl,trivial⟩
 ·have o:Y=⟨lI a1 a2 b1 b2 0 LA,LA.e8,0⟩:=by rw[U];unfold oH;rw[ae A,aa (λI=>hlt I.2)]
  have v:=oA A.1;obtain⟨f,gn,i,m,j⟩:=r;have p1:P.i64 (P.sub 1 0):=by rw[sub_eq hP];exact eR hP qD
  have p2:P.sub 1 0=1-0:=sub_eq hP _ _;have E:gn<=1000:=by rw[m];exact v.n
  cbv;refine hJ (uh hP qD) ?_;cbv
  repeat' first|(refine qA ?_;cbv)|(intro a;cbv)
  refine hJ (uh hP qD) ?_;cbv
  repeat' first|(refine qA ?_;cbv)|(refine⟨0,n0,?_⟩;cbv)|(intro a;cbv)
  refine B 60 _ (⟨a1,a2,b1,b2,0,LA.gen,LA.base,LA.text,LA.first,LA.table,LA.whole,LA.eF,[],0,false⟩:SC) (.own 1000200 f 3 gn) .nil _ _ _ _ ⟨⟨.own _ _ _ _,rfl⟩,.nil,rfl⟩ rfl rfl rfl λd1 w=>?_;cbv
  repeat' first|(refine qA ?_;cbv)|(intro a;cbv)
  refine B 60 _ d1 (.own 1000200 f 3 gn) .nil _ _ _ _ ⟨⟨.own _ _ _ _,rfl⟩,.nil,rfl⟩ rfl rfl rfl λd2 k=>?_;have k:d2=iF d1 (P.sub 1 0) 0:=k;rw[p2] at k;cbv
  repeat' first|(refine qA ?_;cbv)|(intro a;cbv)
  refine L 60 _ d2 (.own 1000200 f 3 gn) .nil _ _ _ ⟨⟨.own _ _ _ _,rfl⟩,.nil,rfl⟩ rfl rfl rfl λd3 z=>?_;have F:d3.tx=LA.text:=by rw[z,k,w];rfl
  have G:d3.b=LA.base:=by rw[z,k,w];rfl
  cbv
  repeat' first|(refine qA ?_;cbv)|(intro a;cbv)
  refine O 1000200 f gn i LA.e8 _ _ _ _ j m v.rv rfl λx y hx hy=>?_;have hx:x=(kQ d3.tx LA.e8 (P.int gn)).1:=hx;rw[F,int_eq hP,m] at hx;cbv
  repeat' first|(refine qA ?_;cbv)|(intro a;cbv)
  refine N 60 _ {d3 with now:=x} 1000200 f gn .nil _ _ (by rw[show({d3 with now:=x}:SC).b=LA.base from G];exact v.b) E ⟨.nil,rfl⟩ rfl rfl rfl λq hq=>?_
  have hq:q=d3.b+(gn:Int):=hq;rw[G,m] at hq;cbv
  repeat' first|(refine qA ?_;cbv)|(intro a;cbv)
  refine hR _ _ _ f gn i {d3 with now:=x,sf:=q} (by rw[o,hq,hx,z,k,w];rfl) (by rw[o]) (by rw[o];exact m) (by rw[o];exact j)
   (c6.trans (c6.pR _ 999 133 3) (c6.CD [(60,60,fx _ (fw {d3 with now:=x,sf:=q} (.own 1000200 f 3 gn) .nil)),(1000200,1000200,iw f i),(999,999,⟨none,133,3,[]⟩)] (by show([60,1000200,999]:List Nat).Nodup;decide) ⟨⟨_,rfl,rfl,rfl⟩,⟨_,rfl,rfl,rfl⟩,⟨_,rfl,rfl,rfl⟩,trivial⟩)) rfl ⟨rfl,rfl,rfl,trivial⟩
 ·have o:Y=⟨lI a1 a2 b1 b2 1 LB,LB.e8,0⟩:=by rw[U];unfold oH;rw[ae A,ae ⟨M,hlt⟩]
  have v:=oB M.1;obtain⟨f,gn,i,m,j⟩:=H;have p1:P.i64 (P.sub 1 1):=by rw[sub_eq hP];exact eR hP qD
  have p2:P.sub 1 1=1-1:=sub_eq hP _ _;have E:gn<=1000:=by rw[m];exact v.n
  cbv;refine hJ (uh hP qD) ?_;cbv
  repeat' first|(refine qA ?_;cbv)|(intro a;cbv)
  refine hJ (uh hP qD) ?_;cbv
  repeat' first|(refine qA ?_;cbv)|(refine⟨1,n1,?_⟩;cbv)|(intro a;cbv)
  refine B 60 _ (⟨a1,a2,b1,b2,1,LB.gen,LB.base,LB.text,LB.first,LB.table,LB.whole,LB.eF,[],0,false⟩:SC) (.own 1000201 f 3 gn) .nil _ _ _ _ ⟨⟨.own _ _ _ _,rfl⟩,.nil,rfl⟩ rfl rfl rfl λd1 w=>?_;cbv
  repeat' first|(refine qA ?_;cbv)|(intro a;cbv)
  refine B 60 _ d1 (.own 1000201 f 3 gn) .nil _ _ _ _ ⟨⟨.own _ _ _ _,rfl⟩,.nil,rfl⟩ rfl rfl rfl λd2 k=>?_;have k:d2=iF d1 (P.sub 1 1) 0:=k;rw[p2] at k;cbv
  repeat' first|(refine qA ?_;cbv)|(intro a;cbv)
  refine L 60 _ d2 (.own 1000201 f 3 gn) .nil _ _ _ ⟨⟨.own _ _ _ _,rfl⟩,.nil,rfl⟩ rfl rfl rfl λd3 z=>?_;have F:d3.tx=LB.text:=by rw[z,k,w];rfl
  have G:d3.b=LB.base:=by rw[z,k,w];rfl
  cbv
  repeat' first|(refine qA ?_;cbv)|(intro a;cbv)
  refine O 1000201 f gn i LB.e8 _ _ _ _ j m v.rv rfl λx y hx hy=>?_;have hx:x=(kQ d3.tx LB.e8 (P.int gn)).1:=hx;rw[F,int_eq hP,m] at hx;cbv
  repeat' first|(refine qA ?_;cbv)|(intro a;cbv)
  refine N 60 _ {d3 with now:=x} 1000201 f gn .nil _ _ (by rw[show({d3 with now:=x}:SC).b=LB.base from G];exact v.b) E ⟨.nil,rfl⟩ rfl rfl rfl λq hq=>?_
  have hq:q=d3.b+(gn:Int):=hq;rw[G,m] at hq;cbv
  repeat' first|(refine qA ?_;cbv)|(intro a;cbv)
  refine hR _ _ _ f gn i {d3 with now:=x,sf:=q} (by rw[o,hq,hx,z,k,w];rfl) (by rw[o]) (by rw[o];exact m) (by rw[o];exact j)
   (c6.trans (c6.pR _ 999 133 3) (c6.CD [(60,60,fx _ (fw {d3 with now:=x,sf:=q} (.own 1000200 f 3 gn) .nil)),(1000200,1000201,iw f i),(999,999,⟨none,133,3,[]⟩)] (by show([60,1000201,999]:List Nat).Nodup;decide) ⟨⟨_,rfl,rfl,rfl⟩,⟨_,rfl,rfl,rfl⟩,⟨_,rfl,rfl,rfl⟩,trivial⟩)) rfl ⟨rfl,rfl,rfl,trivial⟩
def fS(d:SC)(i:Int):Int:=if i=0 then d.x2 else d.x4
def mw(d:SC):Prop:=gS d.x1 d.x2 d.x3 d.x4=0
theorem iB{x:BS}{n:Int}:gV x n=0↔x.length<=1048576/\0<=n/\n<=(x.length:Int):=by
 constructor
 ·exact lq
 ·intro h;unfold gV;rw[aa qW,aa qW]
theorem nD{a1 b1:BS}{a2 b2:Int}:gS a1 a2 b1 b2=0↔gV a1 a2=0/\gV b1 b2=0:=by
 constructor
 ·exact p9
 ·rintro⟨h1,h2⟩;unfold gS;rw[aa (λh=>h h1)];exact h2
theorem mw.slot{d:SC}(h:mw d)(i:Int):(ek d i).length<=1048576/\0<=fS d i/\fS d i<=((ek d i).length:Int):=by
 obtain⟨h1,h2⟩:=nD.1 h;unfold ek fS
 split
 ·exact iB.1 h1
 ·exact iB.1 h2
theorem yz{d:SC}(h:mw d){i:Int}(hi:i=0\/i=1):nh d.x1 d.x2 d.x3 d.x4 i=0:=by
 unfold nh;rw[aa (λg=>g h),aa qW]
theorem k8{d:SC}{i:Int}{t:BS}(h:mw d)(hi:i=0\/i=1)(hl:(ek d i).length+t.length<=1048576):
  mw (jd d i t)/\ek (jd d i t) i=ek d i++t/\ek (jd d i t) (1-i)=ek d (1-i)/\∀j,fS (jd d i t) j=fS d j:=by
 have hk:=yz h hi;obtain⟨h1,h2⟩:=nD.1 h;have s1:=iB.1 h1;have s2:=iB.1 h2
 rcases hi with rfl|rfl
 ·have hl:d.x1.length+t.length<=1048576:=hl;have e:n5 d.x1 d.x2 d.x3 d.x4 0 t=⟨d.x1++t,d.x2,d.x3,d.x4,0⟩:=by
   unfold n5;rw[aa (λg=>g hk),ae rfl,aa qW]
  have a:jd d 0 t= {d with x1:=d.x1++t}:=by
   unfold jd;rw[e]
  rw[a];exact⟨nD.2 ⟨(iB (x:=d.x1++t) (n:=d.x2)).2 (by rw[ag];omega),h2⟩,rfl,rfl,λj=>rfl⟩
 ·have hl:d.x3.length+t.length<=1048576:=hl;have e:n5 d.x1 d.x2 d.x3 d.x4 1 t=⟨d.x1,d.x2,d.x3++t,d.x4,0⟩:=by
   unfold n5;rw[aa (λg=>g hk),aa qD,aa qW]
  have a:jd d 1 t= {d with x3:=d.x3++t}:=by
   unfold jd;rw[e]
  rw[a];exact⟨nD.2 ⟨h1,(iB (x:=d.x3++t) (n:=d.x4)).2 (by rw[ag];omega)⟩,rfl,rfl,λj=>rfl⟩
theorem lB{d:SC}{i:Int}(h:mw d)(hi:i=0\/i=1):
  mw (jj d i)/\(∀j,ek (jj d i) j=ek d j)/\fS (jj d i) i=((ek d i).length:Int)/\fS (jj d i) (1-i)=fS d (1-i):=by
 have hk:=yz h hi;obtain⟨h1,h2⟩:=nD.1 h;have s1:=iB.1 h1;have s2:=iB.1 h2
 rcases hi with rfl|rfl
 ·have e:n6 d.x1 d.x2 d.x3 d.x4 0=⟨d.x1,d.x1.length,d.x3,d.x4,0⟩:=by
   unfold n6;rw[aa (λg=>g hk),ae rfl]
  have a:jj d 0= {d with x2:=d.x1.length}:=by
   unfold jj;rw[e]
  rw[a];exact⟨nD.2 ⟨(iB (x:=d.x1) (n:=(d.x1.length:Int))).2 qW,h2⟩,λj=>rfl,rfl,rfl⟩
 ·have e:n6 d.x1 d.x2 d.x3 d.x4 1=⟨d.x1,d.x2,d.x3,d.x3.length,0⟩:=by
   unfold n6;rw[aa (λg=>g hk),aa qD]
  have a:jj d 1= {d with x4:=d.x3.length}:=by
   unfold jj;rw[e]
  rw[a];exact⟨nD.2 ⟨h1,(iB (x:=d.x3) (n:=(d.x3.length:Int))).2 qW⟩,λj=>rfl,rfl,rfl⟩
theorem oY{d:SC}{i:Int}{n:Nat}(h:mw d)(hi:i=0\/i=1)(hn:n<=(ek d i).length):
  mw (iF d i n)/\ek (iF d i n) i=(ek d i).take n/\ek (iF d i n) (1-i)=ek d (1-i)/\fS (iF d i n) i=min (fS d i) n/\fS (iF d i n) (1-i)=fS d (1-i):=by
 have hk:=yz h hi;obtain⟨h1,h2⟩:=nD.1 h;have s1:=iB.1 h1;have s2:=iB.1 h2
 rcases hi with rfl|rfl
 ·have hn:n<=d.x1.length:=hn;have e:n7 d.x1 d.x2 d.x3 d.x4 0 n=⟨d.x1.take n,min d.x2 n,d.x3,d.x4,0⟩:=by
   unfold n7;rw[aa (λg=>g hk),ae rfl,aa qW,aA]
  have a:iF d 0 n= {d with x1:=d.x1.take n,x2:=min d.x2 n}:=by
   unfold iF;rw[e]
  rw[a];exact⟨nD.2 ⟨(iB (x:=d.x1.take n) (n:=min d.x2 n)).2 (by rw[aI];omega),h2⟩,rfl,rfl,rfl,rfl⟩
 ·have hn:n<=d.x3.length:=hn;have e:n7 d.x1 d.x2 d.x3 d.x4 1 n=⟨d.x1,d.x2,d.x3.take n,min d.x4 n,0⟩:=by
   unfold n7;rw[aa (λg=>g hk),aa qD,aa qW,aA]
  have a:iF d 1 n= {d with x3:=d.x3.take n,x4:=min d.x4 n}:=by
   unfold iF;rw[e]
  rw[a];exact⟨nD.2 ⟨h1,(iB (x:=d.x3.take n) (n:=min d.x4 n)).2 (by rw[aI];omega)⟩,rfl,rfl,rfl,rfl⟩
theorem AH{g b:Int}{f k:Nat->Int}(h:rL f k):je g b f=je g b k:=by
 unfold je;rw[h 0 qD,h 1 qD,h 2 qD,h 3 qD,h 4 qD,h 5 qD,h 6 qD,h 7 qD,h 8 qD,h 9 qD,h 10 qD,h 11 qD,h 12 qD,h 13 qD,h 14 qD,h 15 qD]
theorem sC{g b:Int}{tx:BS}{f k:Nat->Int}(h:rL f k)(r1:List eP)(o:Option (List eP)):gi g b tx f r1 o=gi g b tx k r1 o:=by
 unfold gi iA gT;rw[AH h]
theorem oz.Wu{g b:Int}{tx:BS}{f k:Nat->Int}(h:oz g b tx f)(he:rL f k):oz g b tx k:=⟨h.g,h.b,h.tx,λj hj=>by rw[<-he j hj];exact h.t j hj⟩
theorem tU{b:Int}(i:Nat):∀(c:List eP)(tb:Nat->Int)(k:Nat)(now:BS),fN b tb (i+k) now c->fN (b+(i:Int)) tb k now c
 |[],_,_,_,_=>trivial
 |r::c,tb,k,now,h=>by
  refine⟨?_,?_⟩
  ·have h1:=h.1;unfold gw at h1⊢
   by_cases g1:iL r≠0
   ·rw[ae g1] at h1;exact absurd h1 g1
   rw[aa g1] at h1⊢
   by_cases g2:r.seq<=tb (2*r.who.toNat)
   ·rw[ae g2] at h1;exact absurd h1 qD
   rw[aa g2] at h1⊢
   by_cases g3:64<=((i+k:Nat):Int)\/2147483647<=b+((i+k:Nat):Int)
   ·rw[ae g3] at h1;exact absurd h1 qD
   rw[aa g3] at h1;rw[aa qW];exact h1
  ·have h2:=h.2;have e:b+(i:Int)+(k:Int)+1=b+((i+k:Nat):Int)+1:=by omega
   rw[e];exact tU i c _ (k+1) _ h2
theorem Gj{tb:Nat->Int}(h:∀j,j<16->mO (tb j)){w:Nat}{q n:Int}(hq:mO q)(hn:mO n):∀j,j<16->mO (gJ tb w q n j):=by
 intro j hj;unfold gJ
 split
 ·exact hq
 ·split
  ·exact hn
  ·exact h j hj
theorem Ez{b:Int}(hb:0<=b):∀(l:List eP)(tb:Nat->Int)(i:Nat)(now:BS),fN b tb i now l->(∀j,j<16->mO (tb j))->∀j,j<16->mO (gg tb (b+(i:Int)) l j)
 |[],_,_,_,_,h=>h
 |r::l,tb,i,now,hc,h=>by
  have h1:=lz hc.1;have h2:=nz h1.1;have:=Ez hb l _ (i+1) _ hc.2 (Gj h ⟨h2.2.1.1,h2.2.1.2⟩ ⟨qW,qW⟩);have e:b+((i+1:Nat):Int)=b+(i:Int)+1:=by omega
  rw[e] at this;exact this
theorem EA:∀(l:List Frame),(∀f∈l,vF f)->(fe l).length<=4007*l.length
 |[],_=>ah _
 |f::l,h=>by
  have h1:=(h f (by simp)).2.2;have h2:=EA l λg hg=>h g (by simp[hg]);rw[jv,ag,iz,au];omega
theorem qG{b:Int}{tb:Nat->Int}{i:Nat}{now:BS}{l:List eP}(hc:fN b tb i now l):lO l/\(∀r∈l,0<=r.who/\r.who<=7)/\(∀r∈l,r.delta.length<=1000000000)/\l.length<=64:=by
 have a:l.length<=64:=by
  rcases qE l _ _ _ hc with rfl|h
  ·simp
  ·omega
 have h1:=jb l _ _ _ hc;have hm:maxLen=9223372036854775807:=by decide
 exact⟨⟨qW,λr hr=>(yx (h1 r hr)).1⟩,λr hr=>(nz (h1 r hr)).1,λr hr=>(yx (h1 r hr)).2,a⟩
end Go.Proofs.YtobngncjflogcaaGreat.AM
