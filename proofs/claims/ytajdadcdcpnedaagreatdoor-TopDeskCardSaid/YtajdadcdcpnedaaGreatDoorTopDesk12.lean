/-
  Part 12 of what the law TopDesk reaches: the plain machine, contracts of the functions and plain laws; each lemma says its own condition.
-/
import Derived.Test.YtajdadcdcpnedaaGreatDoorTopDesk11
import Derived.Test.YtajdadcdcpnedaaGreatDoorTopDesk6
set_option linter.unusedVariables false
set_option linter.unusedSimpArgs false
namespace Go.Proofs.YtajdadcdcpnedaaGreatDoor.AM
open Go Go.RowKit
set_option maxRecDepth 100000
set_option maxHeartbeats 2000000
def pO(d:SC)(m:Option Mv)(t:BS):SC:=match m with
 |none=>kL d d.at' t
 |some m=>if m.w=true then kL (kL d d.at' t) (1-d.at') t else kL d d.at' t
theorem I8(P:Prim)(hP:P=cp)(T G:cm)(y:∀f vs h h' K,iY h h'->T f vs h' K->T f vs h K)(z:wc T)(A:zo T)(H:nw T)(bl bm:Nat)(d:SC)(ba:Option Nat)(l:List er)(n:Nat)(hn:n=l.length)(rows:List (List V))(hrows:rows=l.map bd)(hat:d.at'=0\/d.at'=1)
  (r:er)(w q:Int)(i:List (List V))(I:w=r.who/\q=r.seq/\i=r.delta.map a7)(J:∀x∈i,∀v∈x,Fz v)(hb:0<=d.b/\d.b<=2147483647)
  (e1:Int)(B:e1=0->i.length<=1000000000)(h1:∀(h:Hp)(K:V->Hp->Prop),h 1000001=some ⟨ba,96,3,rows⟩->K (qI e1) h->G 67 [.agg [qI d.gn,qI d.b,.str d.tx,qI (d.fs 0),qI (d.fs 1),qI (d.fs 2),qI (d.fs 3),qI (d.fs 4),qI (d.fs 5),qI (d.fs 6),qI (d.fs 7),qI (d.fs 8),qI (d.fs 9),qI (d.fs 10),qI (d.fs 11),qI (d.fs 12),qI (d.fs 13),qI (d.fs 14),qI (d.fs 15),qI (d.tb 0),qI (d.tb 1),qI (d.tb 2),qI (d.tb 3),qI (d.tb 4),qI (d.tb 5),qI (d.tb 6),qI (d.tb 7),qI (d.tb 8),qI (d.tb 9),qI (d.tb 10),qI (d.tb 11),qI (d.tb 12),qI (d.tb 13),qI (d.tb 14),qI (d.tb 15),.own 1000001 ba 3 n,.bool d.wh,qI d.gd],qI (P.b5 d.now),.agg [qI w,qI q,.sl false 3 i]] h K)
  (L:e1=0->(0<=r.who/\r.who<=7)/\l.length<64)(t:BS)(e:Int)(M:t.length<=140737488355328)
  (h2:e1=0->∀(k:Nat)(b:Option Nat)(n':Nat)(h:Hp)(K:V->Hp->Prop),n'=i.length->h k=some ⟨b,41,3,i⟩->K (.tup [.str t,qI e]) h->T 68 [.agg [qI w,qI q,.own k b 3 n']] h K)
  (u:BS)(f:Int)(h3:e1=0->hJ G 69 [.sl false 3 i,.str d.now] (.tup [.str u,qI f]))
  (Y:vD)(m:Y=(if e1≠0 then⟨d,l,0,e1⟩ else if e≠0 then⟨d,l,0,e⟩ else⟨rk {pO d (none:Option Mv) t with now:=u} l r,l++[r],d.b+(l.length+1:Nat),0⟩))
  (R:S->Prop)(N:∀s s' O n' rows',n'=Y.l.length->rows'=Y.l.map bd->cd s s'->ia [.t 4,.t 5] [qI Y.v,qI Y.e] s'->eP (S3 bl Y.d O n' rows' bm (none:Option Mv)) s'->R s):
  gE P T G rm (S0 [.ptr 0 (some bl) 47 0 0,.agg [qI w,qI q,.sl false 3 i]] (a8 (S3 bl d ba n rows bm (none:Option Mv)))) R (λ_ _=>False) R:=by
 have f2:i.length=P.gH i:=by subst hP;rfl
 have m1:P.i64 (P.sub 1 d.at'):=by rw[sub_eq hP];exact fm hP qW
 have m2:P.sub 1 d.at'=1-d.at':=sub_eq hP _ _;cbv
 repeat' first|(refine qA ?_;cbv)|(intro a;cbv)|(refine h1 _ _ rfl ?_;cbv)|fail
 refine a6 (λg=>?_) (λg=>?_)
 ·have g1:e1≠0:=iG hP g;rw[ab g1] at m;cbv
  repeat' first|(refine qA ?_;cbv)|(intro a;cbv)
  subst m;exact N _ _ ba n rows hn hrows (cd.refl _) rfl ⟨rfl,rfl,rfl,trivial⟩
 have g1:e1=0:=iy hP g;rw[aa (λhh=>hh g1)] at m;obtain⟨hw,RY⟩:=L g1;have B:=B g1;have f1:P.bytes (P.cF i) 32:=by subst hP;show(i.length:Int)*32<=_;((try simp only[nc] at*);omega)
 cbv
 repeat' first|(refine qA ?_;cbv)|(intro a;cbv)|(refine h2 g1 1000025 _ _ _ _ f2.symm rfl ?_;cbv)|fail
 refine a6 (λg=>?_) (λg=>?_)
 ·have g2:e≠0:=iG hP g;rw[ab g2] at m;cbv
  repeat' first|(refine qA ?_;cbv)|(intro a;cbv)
  subst m;exact N _ _ ba n rows hn hrows (cd.refl _) rfl ⟨rfl,rfl,rfl,trivial⟩
 have g2:e=0:=iy hP g;rw[aa (λhh=>hh g2)] at m;cbv
 repeat' first|(refine qA ?_;cbv)|(intro a;cbv)
 refine y _ _ _ _ _ (iY.L4 (k:=1000025) (q:=3) (c:=2) rfl rfl rfl rfl rfl rfl f2 J) ?_;refine z 0 bl d (.own 1000001 ba 3 n) .nil _ _ _ _ M ⟨⟨.own _ _ _ _,rfl⟩,.nil,rfl⟩ rfl rfl rfl λd0 Q=>?_;obtain⟨d1,j⟩:∃d1,d1=d0:=⟨_,rfl⟩;rw[<-j];rw[Q] at j;have hb1:d1.b=d.b:=by rw[j];rfl
 have p:d1.now=d.now:=by rw[j];rfl
 have U:hJ G 69 [.sl false 3 i,.str d1.now] (.tup [.str u,qI f]):=by rw[p];exact h3 g1
 cbv
 repeat' first|(refine qA ?_;cbv)|(intro a;cbv)|(refine U _ _ ?_;cbv)|fail
 refine A 0 1000001 bl {d1 with now:=u} ba n rows l .nil w q i r _ _ hrows hn qW I hw (by show 0<=d1.b/\d1.b<=_;rw[hb1];omega) ⟨⟨.nil,rfl⟩,rfl⟩ rfl rfl rfl rfl λC d2 n2 rows2 D E o=>?_
 have hb2:d2.b=d.b:=by rw[D];exact hb1
 cbv
 repeat' first|(refine qA ?_;cbv)|(intro a;cbv)
 refine H 0 bl d2 1000001 C n2 .nil _ _ (by rw[hb2];omega) qW ⟨.nil,rfl⟩ rfl rfl rfl λv hv=>?_;cbv
 repeat' first|(refine qA ?_;cbv)|(intro a;cbv)
 have W:v=Y.v:=by rw[m,hv,hb2,E]
 have X:Y.d=d2:=by rw[m,D,j];rfl
 have F:Y.l=l++[r]:=by rw[m]
 have Z:Y.e=0:=by rw[m]
 subst W;refine N _ _ C n2 rows2 (by rw[F,E];simp) (by rw[F,o]) (cd.refl _) (by rw[Z];rfl) ?_;rw[X];exact⟨rfl,rfl,rfl,trivial⟩
theorem I9(P:Prim)(hP:P=cp)(T G:cm)(y:∀f vs h h' K,iY h h'->T f vs h' K->T f vs h K)(z:wc T)(A:zo T)(H:nw T)(bl bm:Nat)(I J:Int)(d:SC)(ba:Option Nat)(l:List er)(n:Nat)(hn:n=l.length)(rows:List (List V))(hrows:rows=l.map bd)(hat:d.at'=0\/d.at'=1)
  (r:er)(w q:Int)(i:List (List V))(L:w=r.who/\q=r.seq/\i=r.delta.map a7)(M:∀x∈i,∀v∈x,Fz v)(hb:0<=d.b/\d.b<=2147483647)
  (e1:Int)(B:e1=0->i.length<=1000000000)(h1:∀(h:Hp)(K:V->Hp->Prop),h 1000001=some ⟨ba,96,3,rows⟩->K (qI e1) h->G 67 [.agg [qI d.gn,qI d.b,.str d.tx,qI (d.fs 0),qI (d.fs 1),qI (d.fs 2),qI (d.fs 3),qI (d.fs 4),qI (d.fs 5),qI (d.fs 6),qI (d.fs 7),qI (d.fs 8),qI (d.fs 9),qI (d.fs 10),qI (d.fs 11),qI (d.fs 12),qI (d.fs 13),qI (d.fs 14),qI (d.fs 15),qI (d.tb 0),qI (d.tb 1),qI (d.tb 2),qI (d.tb 3),qI (d.tb 4),qI (d.tb 5),qI (d.tb 6),qI (d.tb 7),qI (d.tb 8),qI (d.tb 9),qI (d.tb 10),qI (d.tb 11),qI (d.tb 12),qI (d.tb 13),qI (d.tb 14),qI (d.tb 15),.own 1000001 ba 3 n,.bool d.wh,qI d.gd],qI (P.b5 d.now),.agg [qI w,qI q,.sl false 3 i]] h K)
  (N:e1=0->(0<=r.who/\r.who<=7)/\l.length<64)(t:BS)(e:Int)(O:t.length<=140737488355328)
  (h2:e1=0->∀(k:Nat)(b:Option Nat)(n':Nat)(h:Hp)(K:V->Hp->Prop),n'=i.length->h k=some ⟨b,41,3,i⟩->K (.tup [.str t,qI e]) h->T 68 [.agg [qI w,qI q,.own k b 3 n']] h K)
  (u:BS)(f:Int)(h3:e1=0->hJ G 69 [.sl false 3 i,.str d.now] (.tup [.str u,qI f]))
  (Y:vD)(m:Y=(if e1≠0 then⟨d,l,0,e1⟩ else if e≠0 then⟨d,l,0,e⟩ else⟨rk {pO d (some ⟨I,J,false⟩:Option Mv) t with now:=u} l r,l++[r],d.b+(l.length+1:Nat),0⟩))
  (R:S->Prop)(Q:∀s s' U n' rows',n'=Y.l.length->rows'=Y.l.map bd->cd s s'->ia [.t 4,.t 5] [qI Y.v,qI Y.e] s'->eP (S3 bl Y.d U n' rows' bm (some ⟨I,J,false⟩:Option Mv)) s'->R s):
  gE P T G rm (S0 [.ptr 0 (some bl) 47 0 0,.agg [qI w,qI q,.sl false 3 i]] (a8 (S3 bl d ba n rows bm (some ⟨I,J,false⟩:Option Mv)))) R (λ_ _=>False) R:=by
 have f2:i.length=P.gH i:=by subst hP;rfl
 have m1:P.i64 (P.sub 1 d.at'):=by rw[sub_eq hP];exact fm hP qW
 have m2:P.sub 1 d.at'=1-d.at':=sub_eq hP _ _;cbv
 repeat' first|(refine qA ?_;cbv)|(intro a;cbv)|(refine h1 _ _ rfl ?_;cbv)|fail
 refine a6 (λg=>?_) (λg=>?_)
 ·have g1:e1≠0:=iG hP g;rw[ab g1] at m;cbv
  repeat' first|(refine qA ?_;cbv)|(intro a;cbv)
  subst m;exact Q _ _ ba n rows hn hrows (cd.refl _) rfl ⟨rfl,rfl,rfl,trivial⟩
 have g1:e1=0:=iy hP g;rw[aa (λhh=>hh g1)] at m;obtain⟨hw,RY⟩:=N g1;have B:=B g1;have f1:P.bytes (P.cF i) 32:=by subst hP;show(i.length:Int)*32<=_;((try simp only[nc] at*);omega)
 cbv
 repeat' first|(refine qA ?_;cbv)|(intro a;cbv)|(refine h2 g1 1000025 _ _ _ _ f2.symm rfl ?_;cbv)|fail
 refine a6 (λg=>?_) (λg=>?_)
 ·have g2:e≠0:=iG hP g;rw[ab g2] at m;cbv
  repeat' first|(refine qA ?_;cbv)|(intro a;cbv)
  subst m;exact Q _ _ ba n rows hn hrows (cd.refl _) rfl ⟨rfl,rfl,rfl,trivial⟩
 have g2:e=0:=iy hP g;rw[aa (λhh=>hh g2)] at m;cbv
 repeat' first|(refine qA ?_;cbv)|(intro a;cbv)
 refine y _ _ _ _ _ (iY.L4 (k:=1000025) (q:=3) (c:=2) rfl rfl rfl rfl rfl rfl f2 M) ?_;refine z 0 bl d (.own 1000001 ba 3 n) (.ptr 1 (some bm) 3 0 0) _ _ _ _ O ⟨⟨.own _ _ _ _,rfl⟩,.ptr _ _ _ _ _,rfl⟩ rfl rfl rfl λd0 W=>?_;obtain⟨d1,j⟩:∃d1,d1=d0:=⟨_,rfl⟩;rw[<-j];rw[W] at j;have hb1:d1.b=d.b:=by rw[j];rfl
 have p:d1.now=d.now:=by rw[j];rfl
 have X:hJ G 69 [.sl false 3 i,.str d1.now] (.tup [.str u,qI f]):=by rw[p];exact h3 g1
 cbv
 repeat' first|(refine qA ?_;cbv)|(intro a;cbv)|(refine X _ _ ?_;cbv)|fail
 refine A 0 1000001 bl {d1 with now:=u} ba n rows l (.ptr 1 (some bm) 3 0 0) w q i r _ _ hrows hn qW L hw (by show 0<=d1.b/\d1.b<=_;rw[hb1];omega) ⟨⟨.ptr _ _ _ _ _,rfl⟩,rfl⟩ rfl rfl rfl rfl λC d2 n2 rows2 D E o=>?_
 have hb2:d2.b=d.b:=by rw[D];exact hb1
 cbv
 repeat' first|(refine qA ?_;cbv)|(intro a;cbv)
 refine H 0 bl d2 1000001 C n2 (.ptr 1 (some bm) 3 0 0) _ _ (by rw[hb2];omega) qW ⟨.ptr _ _ _ _ _,rfl⟩ rfl rfl rfl λv hv=>?_;cbv
 repeat' first|(refine qA ?_;cbv)|(intro a;cbv)
 have Z:v=Y.v:=by rw[m,hv,hb2,E]
 have TZ:Y.d=d2:=by rw[m,D,j];rfl
 have F:Y.l=l++[r]:=by rw[m]
 have T0:Y.e=0:=by rw[m]
 subst Z;refine Q _ _ C n2 rows2 (by rw[F,E];simp) (by rw[F,o]) (cd.refl _) (by rw[T0];rfl) ?_;rw[TZ];exact⟨rfl,rfl,rfl,trivial⟩
theorem Ja(P:Prim)(hP:P=cp)(T J:cm)(A:∀f vs h h' K,iY h h'->T f vs h' K->T f vs h K)(p:wc T)(B:zo T)(L:nw T)(bl bm:Nat)(M N:Int)(d:SC)(ba:Option Nat)(l:List er)(n:Nat)(hn:n=l.length)(rows:List (List V))(hrows:rows=l.map bd)(hat:d.at'=0\/d.at'=1)
  (r:er)(w q:Int)(i:List (List V))(O:w=r.who/\q=r.seq/\i=r.delta.map a7)(Q:∀x∈i,∀v∈x,Fz v)(hb:0<=d.b/\d.b<=2147483647)
  (e1:Int)(C:e1=0->i.length<=1000000000)(h1:∀(h:Hp)(K:V->Hp->Prop),h 1000001=some ⟨ba,96,3,rows⟩->K (qI e1) h->J 67 [.agg [qI d.gn,qI d.b,.str d.tx,qI (d.fs 0),qI (d.fs 1),qI (d.fs 2),qI (d.fs 3),qI (d.fs 4),qI (d.fs 5),qI (d.fs 6),qI (d.fs 7),qI (d.fs 8),qI (d.fs 9),qI (d.fs 10),qI (d.fs 11),qI (d.fs 12),qI (d.fs 13),qI (d.fs 14),qI (d.fs 15),qI (d.tb 0),qI (d.tb 1),qI (d.tb 2),qI (d.tb 3),qI (d.tb 4),qI (d.tb 5),qI (d.tb 6),qI (d.tb 7),qI (d.tb 8),qI (d.tb 9),qI (d.tb 10),qI (d.tb 11),qI (d.tb 12),qI (d.tb 13),qI (d.tb 14),qI (d.tb 15),.own 1000001 ba 3 n,.bool d.wh,qI d.gd],qI (P.b5 d.now),.agg [qI w,qI q,.sl false 3 i]] h K)
  (U:e1=0->(0<=r.who/\r.who<=7)/\l.length<64)(t:BS)(e:Int)(D:t.length<=140737488355328)
  (h2:e1=0->∀(k:Nat)(b:Option Nat)(n':Nat)(h:Hp)(K:V->Hp->Prop),n'=i.length->h k=some ⟨b,41,3,i⟩->K (.tup [.str t,qI e]) h->T 68 [.agg [qI w,qI q,.own k b 3 n']] h K)
  (u:BS)(f:Int)(h3:e1=0->hJ J 69 [.sl false 3 i,.str d.now] (.tup [.str u,qI f]))
  (Y:vD)(m:Y=(if e1≠0 then⟨d,l,0,e1⟩ else if e≠0 then⟨d,l,0,e⟩ else⟨rk {pO d (some ⟨M,N,true⟩:Option Mv) t with now:=u} l r,l++[r],d.b+(l.length+1:Nat),0⟩))
  (R:S->Prop)(W:∀s s' X n' rows',n'=Y.l.length->rows'=Y.l.map bd->cd s s'->ia [.t 4,.t 5] [qI Y.v,qI Y.e] s'->eP (S3 bl Y.d X n' rows' bm (some ⟨M,N,true⟩:Option Mv)) s'->R s):
  gE P T J rm (S0 [.ptr 0 (some bl) 47 0 0,.agg [qI w,qI q,.sl false 3 i]] (a8 (S3 bl d ba n rows bm (some ⟨M,N,true⟩:Option Mv)))) R (λ_ _=>False) R:=by
 have f2:i.length=P.gH i:=by subst hP;rfl
 have m1:P.i64 (P.sub 1 d.at'):=by rw[sub_eq hP];exact fm hP qW
 have m2:P.sub 1 d.at'=1-d.at':=sub_eq hP _ _;cbv
 repeat' first|(refine qA ?_;cbv)|(intro a;cbv)|(refine h1 _ _ rfl ?_;cbv)|fail
 refine a6 (λg=>?_) (λg=>?_)
 ·have g1:e1≠0:=iG hP g;rw[ab g1] at m;cbv
  repeat' first|(refine qA ?_;cbv)|(intro a;cbv)
  subst m;exact W _ _ ba n rows hn hrows (cd.refl _) rfl ⟨rfl,rfl,rfl,trivial⟩
 have g1:e1=0:=iy hP g;rw[aa (λhh=>hh g1)] at m;obtain⟨hw,RY⟩:=U g1;have C:=C g1;have f1:P.bytes (P.cF i) 32:=by subst hP;show(i.length:Int)*32<=_;((try simp only[nc] at*);omega)
 cbv
 repeat' first|(refine qA ?_;cbv)|(intro a;cbv)|(refine h2 g1 1000025 _ _ _ _ f2.symm rfl ?_;cbv)|fail
 refine a6 (λg=>?_) (λg=>?_)
 ·have g2:e≠0:=iG hP g;rw[ab g2] at m;cbv
  repeat' first|(refine qA ?_;cbv)|(intro a;cbv)
  subst m;exact W _ _ ba n rows hn hrows (cd.refl _) rfl ⟨rfl,rfl,rfl,trivial⟩
 have g2:e=0:=iy hP g;rw[aa (λhh=>hh g2)] at m;cbv
 repeat' first|(refine qA ?_;cbv)|(intro a;cbv)
 refine A _ _ _ _ _ (iY.L4 (k:=1000025) (q:=3) (c:=2) rfl rfl rfl rfl rfl rfl f2 Q) ?_;refine p 0 bl d (.own 1000001 ba 3 n) (.ptr 1 (some bm) 3 0 0) _ _ _ _ D ⟨⟨.own _ _ _ _,rfl⟩,.ptr _ _ _ _ _,rfl⟩ rfl rfl rfl λd0 E=>?_;have y:d0.at'=d.at':=by rw[E];rfl
 have m3:P.i64 (P.sub 1 d0.at'):=by rw[y];exact m1
 cbv
 repeat' first|(refine qA ?_;cbv)|(intro a;cbv)
 refine p 0 bl d0 (.own 1000001 ba 3 n) (.ptr 1 (some bm) 3 0 0) _ _ _ _ D ⟨⟨.own _ _ _ _,rfl⟩,.ptr _ _ _ _ _,rfl⟩ rfl rfl rfl λd1 j=>?_;have j:d1=kL d0 (P.sub 1 d0.at') t:=j;rw[y,m2,E] at j;have hb1:d1.b=d.b:=by rw[j];rfl
 have z:d1.now=d.now:=by rw[j];rfl
 have Z:hJ J 69 [.sl false 3 i,.str d1.now] (.tup [.str u,qI f]):=by rw[z];exact h3 g1
 cbv
 repeat' first|(refine qA ?_;cbv)|(intro a;cbv)|(refine Z _ _ ?_;cbv)|fail
 refine B 0 1000001 bl {d1 with now:=u} ba n rows l (.ptr 1 (some bm) 3 0 0) w q i r _ _ hrows hn qW O hw (by show 0<=d1.b/\d1.b<=_;rw[hb1];omega) ⟨⟨.ptr _ _ _ _ _,rfl⟩,rfl⟩ rfl rfl rfl rfl λF d2 n2 rows2 G H o=>?_
 have hb2:d2.b=d.b:=by rw[G];exact hb1
 cbv
 repeat' first|(refine qA ?_;cbv)|(intro a;cbv)
 refine L 0 bl d2 1000001 F n2 (.ptr 1 (some bm) 3 0 0) _ _ (by rw[hb2];omega) qW ⟨.ptr _ _ _ _ _,rfl⟩ rfl rfl rfl λv hv=>?_;cbv
 repeat' first|(refine qA ?_;cbv)|(intro a;cbv)
 have Wx:v=Y.v:=by rw[m,hv,hb2,H]
 have TZ:Y.d=d2:=by rw[m,G,j];rfl
 have I:Y.l=l++[r]:=by rw[m]
 have T0:Y.e=0:=by rw[m]
 subst Wx;refine W _ _ F n2 rows2 (by rw[I,H];simp) (by rw[I,o]) (cd.refl _) (by rw[T0];rfl) ?_;rw[TZ];exact⟨rfl,rfl,rfl,trivial⟩
def gW(d:SC)(l:List er)(m:Option Mv)(r:er):vD:=if gQ d.b d.tb l.length d.now.length r≠0 then⟨d,l,0,gQ d.b d.tb l.length d.now.length r⟩ else if(jV r).2≠0 then⟨d,l,0,(jV r).2⟩
 else⟨rk {pO d m (jV r).1 with now:=(kB r.delta d.now).1} l r,l++[r],d.b+(l.length+1:Nat),0⟩
theorem Jb(bl bm:Nat)(d:SC)(ba:Option Nat)(l:List er)(m:Option Mv)(r:er)(hr:fV r.delta)(hb:0<=d.b/\d.b<=2147483647)(hat:d.at'=0\/d.at'=1):Spec Tryz.prog 36 [.ptr 0 (some bl) 47 0 0,.agg (bd r)] (a8 (S3 bl d ba l.length (l.map bd) bm m))
  λx h'=>∃L',(∃a f d' l' m',(∃v e,x=.tup [qI v,qI e]/\⟨d',l',v,e⟩=gW d l m r/\m'=m)/\L'=S3 bl d' a l'.length (l'.map bd) f m')/\h'=a8 L':=by
 refine dE hW CZ (L:=S3 bl d ba l.length (l.map bd) bm m) (λx L'=>∃a f d' l' m',(∃v e,x=.tup [qI v,qI e]/\⟨d',l',v,e⟩=gW d l m r/\m'=m)/\L'=S3 bl d' a l'.length (l'.map bd) f m') λR p=>?_;have h1:∀(h:Hp)(K:V->Hp->Prop),h 1000001=some ⟨ba,96,3,l.map bd⟩->K (qI (gQ d.b d.tb l.length d.now.length r)) h->fk Tryz.prog 67 [.agg [qI d.gn,qI d.b,.str d.tx,qI (d.fs 0),qI (d.fs 1),qI (d.fs 2),qI (d.fs 3),qI (d.fs 4),qI (d.fs 5),qI (d.fs 6),qI (d.fs 7),qI (d.fs 8),qI (d.fs 9),qI (d.fs 10),qI (d.fs 11),qI (d.fs 12),qI (d.fs 13),qI (d.fs 14),qI (d.fs 15),qI (d.tb 0),qI (d.tb 1),qI (d.tb 2),qI (d.tb 3),qI (d.tb 4),qI (d.tb 5),qI (d.tb 6),qI (d.tb 7),qI (d.tb 8),qI (d.tb 9),qI (d.tb 10),qI (d.tb 11),qI (d.tb 12),qI (d.tb 13),qI (d.tb 14),qI (d.tb 15),.own 1000001 ba 3 l.length,.bool d.wh,qI d.gd],qI (cp.b5 d.now),.agg [qI r.who,qI r.seq,.sl false 3 (r.delta.map a7)]] h K:=
  λh K h1 hK=>nr (r9 d.gn d.b d.tx d.fs d.tb l d.wh d.gd d.now.length r hb hr) (.cons (C1 h1) (.cons (.same _) (.cons (.same _) .nil))) hK
 have g:gQ d.b d.tb l.length d.now.length r=0->(0<=r.who/\r.who<=7)/\l.length<64:=λh=>⟨⟨(kR (k9 h).1).1,(kR (k9 h).1).2.1⟩,(k9 h).2⟩;have i:gQ d.b d.tb l.length d.now.length r=0->(r.delta.map a7).length<=1000000000:=λh=>by
  rw[aH];exact(xH (k9 h).1).2
 have j:(jV r).1.length<=140737488355328:=by have:=zp r;omega
 have h2:gQ d.b d.tb l.length d.now.length r=0->∀(k:Nat)(b:Option Nat)(n':Nat)(h:Hp)(K:V->Hp->Prop),n'=(r.delta.map a7).length->h k=some ⟨b,41,3,r.delta.map a7⟩->K (.tup [.str (jV r).1,qI (jV r).2]) h->dF Tryz.prog 68 [.agg [qI r.who,qI r.seq,.own k b 3 n']] h K:=
  λ_ k b n' h K hn hk hK=>by
    subst hn;refine⟨h,iY.refl h,lA (zm r hr) (.cons ?_ .nil) hK⟩;obtain⟨a1,a2⟩:=rj (h:=h) (m:=[]) (l:=[qI r.who,qI r.seq,.own k b 3 (r.delta.map a7).length]) (l':=tl r) (.cons (.same _) (.cons (.same _) (.cons (.own k b 3 _ _ (jU rfl hk) (by simp)) .nil)));exact .agg _ _ a1 a2
 have h3:gQ d.b d.tb l.length d.now.length r=0->hJ (fk Tryz.prog) 69 [.sl false 3 (r.delta.map a7),.str d.now] (.tup [.str (kB r.delta d.now).1,qI (kB r.delta d.now).2]):=λ_=>G4 (Cq r.delta hr.1 d.now) rfl rfl;have c:∀(s s':S)(a:Option Nat)(n':Nat)(rows':List (List V)),n'=(gW d l m r).l.length->rows'=(gW d l m r).l.map bd->cd s s'->ia [.t 4,.t 5] [qI (gW d l m r).v,qI (gW d l m r).e] s'->eP (S3 bl (gW d l m r).d a n' rows' bm m) s'->R s:=by
  intro s s' a n' rows' hn hrows he hr ha;subst hn hrows;exact p s s' _ _ he (da _ _ _ (λx hx=>by rw[hx];rfl) hr) ha (.tup _ (by simp;exact⟨.int _ _,.int _ _⟩)) I3 ⟨a,bm,_,_,m,⟨_,_,rfl,rfl,rfl⟩,rfl⟩
 obtain _|⟨n,o,w⟩:=m
 ·exact I8 cp rfl _ _ py zf CX oJ bl bm d ba l _ rfl _ rfl hat r r.who r.seq (r.delta.map a7) ⟨rfl,rfl,rfl⟩ (fL _) hb _ i h1 g (jV r).1 (jV r).2 j h2 (kB r.delta d.now).1 (kB r.delta d.now).2 h3 (gW d l none r) rfl R c
 ·cases w with
  |false=>exact I9 cp rfl _ _ py zf CX oJ bl bm n o d ba l _ rfl _ rfl hat r r.who r.seq (r.delta.map a7) ⟨rfl,rfl,rfl⟩ (fL _) hb _ i h1 g (jV r).1 (jV r).2 j h2 (kB r.delta d.now).1 (kB r.delta d.now).2 h3 (gW d l (some ⟨n,o,false⟩) r) rfl R c
  |true=>exact Ja cp rfl _ _ py zf CX oJ bl bm n o d ba l _ rfl _ rfl hat r r.who r.seq (r.delta.map a7) ⟨rfl,rfl,rfl⟩ (fL _) hb _ i h1 g (jV r).1 (jV r).2 j h2 (kB r.delta d.now).1 (kB r.delta d.now).2 h3 (gW d l (some ⟨n,o,true⟩) r) rfl R c
theorem Jc{k ka km bm:Nat}{m:Option Mv}(h:(!(Nat.beq km 0)&& !(Nat.beq km 1000001))=true):zi k ka (jd km bm m)=true:=by
 cases m
 ·rfl
 ·show((!(Nat.beq km 0)&& !(Nat.beq km 1000001))||_)=true
  rw[h];rfl
structure T2(h:Hp)(k ka km bl:Nat)(d:SC)(ba:Option Nat)(n:Nat)(rows:List (List V))(l:List er)(mv:V)(mo:Ob)(bm:Nat)(m:Option Mv):Prop where
 h1:n=l.length
 h2:rows=l.map bd
 h3:mv=jd km bm m
 h4:mo=gu bm m
 h5:h k=some (eO bl (eM d (.own ka ba 3 n) mv))
 h6:h ka=some (il ba rows)
 h7:h km=some mo
 h8:N3 k ka km
def OZ(T:cm):Prop:=∀(k ka km bl:Nat)(d:SC)(ba:Option Nat)(n:Nat)(rows:List (List V))(l:List er)(mv:V)(mo:Ob)(bm:Nat)(m:Option Mv)(r:er)(w q:Int)(i:List (List V))(h:Hp)(K:V->Hp->Prop),T2 h k ka km bl d ba n rows l mv mo bm m->(w=r.who/\q=r.seq/\i=r.delta.map a7)->fV r.delta->(0<=d.b/\d.b<=2147483647)->(d.at'=0\/d.at'=1)->
 (∀v e a d' l' n' rows' c f g,⟨d',l',v,e⟩=gW d l m r->n'=l'.length->rows'=l'.map bd->f=jd km c m->g=gu c m->K (.tup [qI v,qI e]) (h.jl [(k,eO bl (eM d' (.own ka a 3 n') f)),(ka,il a rows'),(km,g)]))->T 36 [.ptr k (some bl) 47 0 0,.agg [qI w,qI q,.sl false 3 i]] h K
theorem RZ:OZ (dF Tryz.prog):=by
 rintro k ka km bl d ba n rows l mv mo bm m r w q i h K ⟨rfl,rfl,rfl,rfl,hk,a,b,hN⟩ ⟨rfl,rfl,rfl⟩ hr hb hat hK;refine BI (rest:=[.agg (bd r)]) (post:=λx d' l' m'=>∃v e,x=.tup [.int .i64 v,.int .i64 e]/\⟨d',l',v,e⟩=gW d l m r/\m'=m) (Jb bl bm d ba l m r hr hb hat) (λh m=>.cons (.same _) .nil) (λx d' l' m' g hp=>?_) hN hk a b ?_
 ·obtain⟨v,e,rfl,_⟩:=hp;rfl
 ·rintro x c f d' l' m' ⟨v,e,rfl,hp,rfl⟩;exact hK v e c d' l' _ _ f _ _ hp rfl rfl rfl rfl
def C6(T:cm):Prop:=∀(k ka km bl:Nat)(d:SC)(ba:Option Nat)(n:Nat)(rows:List (List V))(l:List er)(mv:V)(mo:Ob)(bm:Nat)(m:Option Mv)(h:Hp)(K:V->Hp->Prop),T2 h k ka km bl d ba n rows l mv mo bm m->(0<=d.b/\d.b<=4294967295)->l.length<=1000->(d.at'=0\/d.at'=1)->
 (∀a d' n' rows' c e f,d'=iI d l.length m->n'=l.length->rows'=l.map bd->e=jd km c m->f=gu c m->K (.tup []) (h.jl [(k,eO bl (eM d' (.own ka a 3 n') e)),(ka,il a rows'),(km,f)]))->T 161 [.ptr k (some bl) 47 0 0] h K
theorem Na:C6 (dF Tryz.prog):=by
 rintro k ka km bl d ba n rows l mv mo bm m h K ⟨rfl,rfl,rfl,rfl,hk,a,b,hN⟩ hb hn hat hK;refine BI (rest:=[]) (post:=λx d' l' m'=>x=.tup []/\d'=iI d l.length m/\l'=l/\m'=m) (I6 bl d ba l bm m hb hn hat) (λh m=>.nil) (λx d' l' m' g hp=>?_) hN hk a b ?_
 ·rw[hp.1];rfl
 ·rintro x c e d' l' m' ⟨rfl,hd,rfl,rfl⟩;exact hK c d' _ _ e _ _ hd rfl rfl rfl rfl
def kM(x:BS)(s k:Int):Int:=s+max 0 (min k ((x.length:Int)-s))
inductive Wy where
 |y0
 |y1
 |y2
def Jd:AC:=qr [qo 2 (.box 71 4 (.t 0)),qo 3 (.box 151 2 (.t 1)),qo 4 (.alloc 71 Fw),qz 5 0] (qq (qr [qd 10 4 2,qa 11 192 [.t 10],qm 6 11] (qr [qm 12 6,qc 13 .neq 12 0] (qu 13 (qr [qo 14 (.build Fw []),qm 15 6,qs 4 4 14,qm 5 15] .ret) .skip))) (qq (qr [qz 16 0] (.block 0 (.loop (qr [qc 17 .lss 16 2] (qq (qu 17 .skip (.exit 0)) (qq (.block 1 (qr [qm 18 16,qm 7 18] (qr [qm 19 7,qf 20 0 2,qo 21 (.iarr 2 2 (.t 20) (.t 19)),qm 8 21] (qq (.region true [qm 22 8,qn 23 22,qf 24 1 23,ql 25 24,qm 26 7,qo 27 (.iarr 2 1 (.t 3) (.t 26)),ql 28 27,qm 29 8,qn 30 29,qf 31 0 30,ql 32 31,qo 33 (.len true (.t 32)),qm 34 8,qn 35 34,qf 36 1 35,ql 37 36,qb 38 .sub 33 37,qo 39 (.mm false (.t 28) (.t 38)),qo 40 (.mm true (qk 0) (.t 39)),qb 41 .add 25 40,qm 9 41]) (qR [qm 42 8,qm 43 8,qm 44 8,qn 45 44,qf 46 0 45,ql 47 46,qm 48 9,qo 49 (.slstr (.t 47) none (some (.t 48))),qm 50 9,qn 51 42,qf 52 0 51,qs 1 52 49,qn 53 43,qf 54 1 53,qs 1 54 50]))))) (qR [qc 55 .add 16 1,qm 16 55]))))))) (qr [qd 56 4 2,qs 4 4 56,qz 5 0] .ret)))
theorem Qi:fF Tryz.prog 157 Tryz.f157 Jd [.cn 4 4,.t 5] 2 dS:=⟨Tryz.func157,by decide+kernel,by kernel_rfl,by kernel_rfl,by decide+kernel⟩
theorem Qj(P:Prim)(hP:P=cp)(T l:cm)(a1:BS)(a2:Int)(b1:BS)(b2 k0 k1:Int)(h1:hJ T 192 [.agg [.str a1,qI a2,.str b1,qI b2]] (qI 0))(ha:hY a1 a2=0)(hb:hY b1 b2=0)
  (y1:BS)(y2:Int)(g:BS)(d:Int)(e:y2=kM a1 a2 k0)(h:y1=a1.take y2.toNat)(f:d=kM b1 b2 k1)(i:g=b1.take d.toNat)
  (R:S->Prop)(m:∀k s' x1 x2 x3 x4,x1=y1->x2=y2->x3=g->x4=d->cd k s'->ia [.cn 4 4,.t 5] [.agg [.str x1,qI x2,.str x3,qI x4],qI 0] s'->R k):gE P T l Jd (S0 [.agg [.str a1,qI a2,.str b1,qI b2],.agg [qI k0,qI k1]] Hp.emp) R (λ_ _=>False) R:=by
 have a0:P.fK 0 0:=iJ hP qD;have n:P.fK 0 1:=iJ hP qD;have l0:P.iq 0 2:=lk hP qD;have l1:P.iq 1 2:=lk hP qD;have o:P.nat 0=0:=by subst hP;rfl
 have n1:P.nat 1=1:=by subst hP;rfl
 obtain⟨p,q,r⟩:=kg ha;obtain⟨hb1,hb2,s⟩:=kg hb;have c1:P.i64 (P.add 0 1):=by rw[add_eq hP];exact fm hP qD
 have u:P.i64 (P.add 1 1):=by rw[add_eq hP];exact fm hP qD
 have c3:P.add 0 1=1:=by rw[add_eq hP];rfl
 have c4:P.add 1 1=2:=by rw[add_eq hP];rfl
 cbv
 repeat' first|(refine qA ?_;cbv)|(intro a;cbv)
 rename_i b c;refine h1 _ _ ?_;cbv
 repeat' first|(refine qA ?_;cbv)|(intro a;cbv)|(refine eB (xm hP rfl) ?_;cbv)|fail
 refine⟨Wy,λy=>match y with
   |.y0=>[(2,.ptr 2 (some b) 4 0 0),(3,.ptr 3 (some c) 2 0 0),(4,.ptr 4 (some a) 4 0 0),(16,.int .i64 0)]
   |.y1=>[(2,.ptr 2 (some b) 4 0 0),(3,.ptr 3 (some c) 2 0 0),(4,.ptr 4 (some a) 4 0 0),(16,.int .i64 1)]
   |.y2=>[(2,.ptr 2 (some b) 4 0 0),(3,.ptr 3 (some c) 2 0 0),(4,.ptr 4 (some a) 4 0 0),(16,.int .i64 2)],
  λy=>match y with
   |.y0=>[(2,⟨some b,71,4,[[.str a1,.int .i64 a2,.str b1,.int .i64 b2]]⟩),(3,⟨some c,151,2,[[.int .i64 k0,.int .i64 k1]]⟩),(4,⟨some a,71,4,[[.str [],.int .i64 0,.str [],.int .i64 0]]⟩)]
   |.y1=>[(2,⟨some b,71,4,[[.str y1,.int .i64 y2,.str b1,.int .i64 b2]]⟩),(3,⟨some c,151,2,[[.int .i64 k0,.int .i64 k1]]⟩),(4,⟨some a,71,4,[[.str [],.int .i64 0,.str [],.int .i64 0]]⟩)]
   |.y2=>[(2,⟨some b,71,4,[[.str y1,.int .i64 y2,.str g,.int .i64 d]]⟩),(3,⟨some c,151,2,[[.int .i64 k0,.int .i64 k1]]⟩),(4,⟨some a,71,4,[[.str [],.int .i64 0,.str [],.int .i64 0]]⟩)],
  λy=>match y with|.y0=>2|.y1=>1|.y2=>0,
  ⟨_,cd.refl _,.y0,⟨rfl,rfl,rfl,rfl,trivial⟩,⟨rfl,rfl,rfl,trivial⟩⟩,?_⟩
 rintro(_|_|_)
 ·have m1:P.i64 (P.sub (P.b5 a1) a2):=by rw[sub_eq hP,cA hP];exact fm hP qO
  have hv:P.add a2 (P.mx 0 (P.mn k0 (P.sub (P.b5 a1) a2)))=y2:=by rw[e,add_eq hP,sub_eq hP,cA hP];subst hP;rfl
  have m2:0<=y2/\y2<=(a1.length:Int):=by rw[e];unfold kM;((try simp only[nc] at*);omega)
  have m3:P.i64 (P.add a2 (P.mx 0 (P.mn k0 (P.sub (P.b5 a1) a2)))):=by rw[hv];exact fm hP qO
  have m4:P.fK 0 (P.add a2 (P.mx 0 (P.mn k0 (P.sub (P.b5 a1) a2)))):=iJ hP (by rw[hv];exact m2.1);have m5:P.fK (P.add a2 (P.mx 0 (P.mn k0 (P.sub (P.b5 a1) a2)))) (P.b5 a1):=qy hP (by rw[hv,cA hP];exact m2.2);have e1:P.gZ a1 0 y2=a1.take y2.toNat:=by subst hP;rfl
  cbv;refine gj (xl hP qD) ?_;cbv
  repeat' first|(refine qA ?_;cbv)|(refine⟨0,o,?_⟩;cbv)|(intro j;cbv)
  rw[hv,e1,<-h,c3];exact⟨_,cd.refl _,.y1,⟨rfl,rfl,rfl,rfl,trivial⟩,⟨rfl,rfl,rfl,trivial⟩,qD⟩
 ·have m1:P.i64 (P.sub (P.b5 b1) b2):=by rw[sub_eq hP,cA hP];exact fm hP qO
  have hv:P.add b2 (P.mx 0 (P.mn k1 (P.sub (P.b5 b1) b2)))=d:=by rw[f,add_eq hP,sub_eq hP,cA hP];subst hP;rfl
  have m2:0<=d/\d<=(b1.length:Int):=by rw[f];unfold kM;((try simp only[nc] at*);omega)
  have m3:P.i64 (P.add b2 (P.mx 0 (P.mn k1 (P.sub (P.b5 b1) b2)))):=by rw[hv];exact fm hP qO
  have m4:P.fK 0 (P.add b2 (P.mx 0 (P.mn k1 (P.sub (P.b5 b1) b2)))):=iJ hP (by rw[hv];exact m2.1);have m5:P.fK (P.add b2 (P.mx 0 (P.mn k1 (P.sub (P.b5 b1) b2)))) (P.b5 b1):=qy hP (by rw[hv,cA hP];exact m2.2);have e1:P.gZ b1 0 d=b1.take d.toNat:=by subst hP;rfl
  cbv;refine gj (xl hP qD) ?_;cbv
  repeat' first|(refine qA ?_;cbv)|(refine⟨1,n1,?_⟩;cbv)|(intro j;cbv)
  rw[hv,e1,<-i,c4];exact⟨_,cd.refl _,.y2,⟨rfl,rfl,rfl,rfl,trivial⟩,⟨rfl,rfl,rfl,trivial⟩,qD⟩
 ·cbv;refine eB (qT hP qD) ?_;cbv
  repeat' first|(refine qA ?_;cbv)|(intro a;cbv)
  exact m _ _ _ _ _ _ rfl rfl rfl rfl (cd.refl _) ⟨rfl,rfl,ax 0,ak 4,rfl⟩
theorem Qk(a1:BS)(a2:Int)(b1:BS)(b2 k0 k1:Int)(hd:iz a1 a2 b1 b2=0):Spec Tryz.prog 157 [.agg [.str a1,qI a2,.str b1,qI b2],.agg [qI k0,qI k1]] Hp.emp
  (Is (.tup [.agg [.str (a1.take (kM a1 a2 k0).toNat),qI (kM a1 a2 k0),.str (b1.take (kM b1 b2 k1).toNat),qI (kM b1 b2 k1)],qI 0])):=by
 obtain⟨ha,hb⟩:=pk hd;refine ed hW Qi [.agg [.str (a1.take (kM a1 a2 k0).toNat),qI (kM a1 a2 k0),.str (b1.take (kM b1 b2 k1).toNat),qI (kM b1 b2 k1)],qI 0] (.tup _ (by simp;exact⟨.agg _ (by simp;exact⟨.str _,.int _ _,.str _,.int _ _⟩),.int _ _⟩)) λR a=>
  Qj cp rfl _ _ a1 a2 b1 b2 k0 k1 (by
   have:hJ (dF Tryz.prog) 192 [.agg [.str a1,qI a2,.str b1,qI b2]] (qI (iz a1 a2 b1 b2)):=gK (Be a1 a2 b1 b2) (λh=>.cons (.same _) .nil) rfl;rw[hd] at this;exact this) ha hb _ _ _ _ rfl rfl rfl rfl R λb s' x1 x2 x3 x4 e1 c d e he hr=>by subst e1 c d e;exact a b s' he hr
structure O0 where
 d:SC
 l:List er
 e:Int
def oQ(a1:BS)(a2:Int)(b1:BS)(b2 i:Int)(L:hM):SC:=
 {mJ (lq (lq ⟨a1,a2,b1,b2,i,L.gen,L.base,L.text,L.first,L.table,L.whole,L.fW,[],0,false⟩ i L.fW) (1-i) 0) i with now:=(jy L.text L.gq (L.gq.length:Int)).1,sf:=L.base+(L.gq.length:Int)}
def iC(q:hM×Int):Prop:=q.2=0/\q.1.whole=true
instance(q:hM×Int):Decidable (iC q):=inferInstanceAs (Decidable (_/\_))
def oR(A B:hM×Int)(a1:BS)(a2:Int)(b1:BS)(b2:Int):O0:=
 if iC A then(if iC B/\A.1.gen<B.1.gen then⟨oQ a1 a2 b1 b2 1 B.1,B.1.gq,0⟩ else⟨oQ a1 a2 b1 b2 0 A.1,A.1.gq,0⟩)
 else if iC B then⟨oQ a1 a2 b1 b2 1 B.1,B.1.gq,0⟩ else⟨Z0,[],12⟩
def nL(a1:BS)(a2:Int)(b1:BS)(b2:Int):O0:=if iz a1 a2 b1 b2≠0 then⟨Z0,[],iz a1 a2 b1 b2⟩ else oR (gS (fR a1).1) (gS (fR b1).1) a1 a2 b1 b2
structure GL(L:hM) where
 ba:Option Nat
 n:Nat
 rows:List (List V)
 hn:n=L.gq.length
 hrows:rows=L.gq.map bd
inductive Wz(gA gB:Prop)(LA LB:hM) where
 |y0
 |n1(h:¬gA)
 |s1(G:GL LA)(h:gA)
 |nn(h:¬gA)(h':¬gB)
 |ns(h:¬gA)(G:GL LB)(h':gB)
 |sn(G:GL LA)(h:gA)(h':¬gB)
 |ss(G:GL LA)(G':GL LB)(h:gA)(h':gB)(hg:¬LA.gen<LB.gen)
 |st(G:GL LA)(G':GL LB)(h:gA)(h':gB)(hg:LA.gen<LB.gen)
structure C7(L:hM):Prop where
 b:0<=L.base/\L.base<=4294967295
 n:L.gq.length<=1000
 rv:mw L.gq
def zH:AC:=qr [qo 1 (.box 71 4 (.t 0)),qo 2 (.mov (.c (.pointer none))),qz 3 0] (qq (qr [qd 12 4 1,qa 13 192 [.t 12],qm 4 13] (qr [qm 14 4,qc 15 .neq 14 0] (qu 15 (qr [qm 16 4,qo 2 (.mov (.c (.pointer none))),qm 3 16] .ret) .skip))) (qr [qz 5 (-1)] (qr [qo 6 (.alloc 232 [q0,q0,qe,q0,q0,q0,q0,q0,q0,q0,q0,q0,q0,q0,q0,q0,q0,q0,q0,q0,q0,q0,q0,q0,q0,q0,q0,q0,q0,q0,q0,q0,q0,q0,q0,(.slice none 0 0),(.bool false),q0,q0,q0,qe,q0,q0,q0,q0,q0,q0,q0,q0,q0,q0,q0,q0,q0,q0,q0,q0,q0,q0,q0,q0,q0,q0,q0,q0,q0,q0,q0,q0,q0,q0,q0,q0,(.slice none 0 0),(.bool false),q0])] (qq (qr [qf 17 0 1,qd 18 4 17,qz 19 0] (.block 0 (.loop (qr [qc 20 .lss 19 2] (qq (qu 20 .skip (.exit 0)) (qq (.block 1 (qr [qm 21 19,qo 22 (.ixa true 2 2 (.t 18) (.t 19)),qo 8 (.alloc 68 [qe,q0]),qm 7 21,qs 2 8 22] (qr [qf 24 0 8,ql 25 24,qa 26 207 [.t 25],qm 23 26,qx 27 0 23,qx 28 1 23,qo 9 (.alloc 100 Lc),qs 38 9 27,qm 10 28] (qq (qr [qm 29 10,qc 30 .neq 29 0,qm 31 30,qg 32 31 false (.faddr 36 (.t 9)),qg 33 31 false (.load1 (.t 32)),qg 34 31 false (.not (.t 33)),qo 35 (.pick (.t 31) (.c (.bool true)) (.t 34))] (qu 35 (.exit 1) .skip)) (qr [qm 36 7,qd 37 38 9,qo 38 (.iarr 2 38 (.t 6) (.t 36)),qs 38 38 37] (qq (.region true [qm 39 5,qc 40 .lss 39 0,qm 41 40,qg 42 41 false (.faddr 0 (.t 9)),qg 43 41 false (.load1 (.t 42)),qg 44 41 false (.mov (.t 5)),qg 45 41 false (.iarr 2 38 (.t 6) (.t 44)),qg 46 41 false (.faddr 0 (.t 45)),qg 47 41 false (.load1 (.t 46)),qg 48 41 false (.bin .gtr (.t 43) (.t 47)),qo 49 (.pick (.t 41) (.c (.bool true)) (.t 48))]) (qu 49 (qR [qm 50 7,qm 5 50]) .skip))))))) (qR [qc 51 .add 19 1,qm 19 51]))))))) (qq (qr [qm 52 5,qc 53 .lss 52 0] (qu 53 (qr [qo 2 (.mov (.c (.pointer none))),qz 3 12] .ret) .skip)) (qq (.region true [qd 54 4 1,qm 55 5,qm 56 5,qo 57 (.iarr 2 38 (.t 6) (.t 56)),qd 58 38 57,qo 59 (.build UO [(0,4,(.t 54)),(4,1,(.t 55)),(5,38,(.t 58))]),qo 60 (.box 103 47 (.t 59)),qm 11 60]) (qr [qm 61 11,qm 62 5,qm 63 11,qn 64 63,qf 65 5 64,qf 66 37 65,ql 67 66,qa 68 208 [.t 61,.t 62,.t 67]] (qr [qm 69 11,qm 70 5,qo 71 (.bin .sub (qk 1) (.t 70)),qa 72 208 [.t 69,.t 71,qk 0]] (qr [qm 73 11,qm 74 5,qa 75 44 [.t 73,.t 74]] (qq (.region true [qm 77 11,qm 78 11,qn 79 78,qf 80 5 79,qf 81 2 80,ql 82 81,qm 83 11,qn 84 83,qf 85 5 84,qf 86 35 85,ql 87 86,qm 88 11,qn 89 88,qf 90 5 89,qf 91 35 90,ql 92 91,qo 93 (.len false (.t 92)),qa 94 73 [.t 82,.t 87,.t 93],qm 76 94,qx 95 0 76,qx 96 1 76,qn 97 77,qf 98 43 97,qs 1 98 95]) (qr [qm 99 11,qm 100 11,qa 101 71 [.t 100],qn 102 99,qf 103 44 102,qs 1 103 101] (qr [qm 104 11,qm 2 104,qz 3 0] .ret))))))))))))
theorem Je:fF Tryz.prog 159 Tryz.f159 zH [.t 2,.t 3] 1 dS:=⟨Tryz.func159,by decide+kernel,by kernel_rfl,by kernel_rfl,by decide+kernel⟩
theorem Jf(P:Prim)(hP:P=cp)(T T1:cm)(O:I7 T)(A:OV T)(I:CS T)(K:nw T)(L:By T1)(a1:BS)(a2:Int)(b1:BS)(b2:Int)(c:Int)(h1:hJ T 192 [.agg [.str a1,qI a2,.str b1,qI b2]] (qI c))
  (Q:c=0->a1.length<=1048576)(M:c=0->b1.length<=1048576)(LA LB:hM)(Z X:Int)(hA:gS (fR a1).1=(LA,Z))(hB:gS (fR b1).1=(LB,X))(oA:Z=0->C7 LA)(oB:X=0->C7 LB)
  (Y:O0)(N:Y=if c≠0 then⟨Z0,[],c⟩ else oR (LA,Z) (LB,X) a1 a2 b1 b2)
  (R:S->Prop)(hE:∀(s s':S)(e:Int),e=Y.e->e≠0->cd s s'->ia [.t 2,.t 3] [.nil,qI e] s'->R s)
  (hR:∀(s s':S)(bl:Nat)(ba:Option Nat)(n:Nat)(rows:List (List V))(d:SC),d=Y.d->Y.e=0->n=Y.l.length->rows=Y.l.map bd->cd s s'->ia [.t 2,.t 3] [.ptr 60 (some bl) 47 0 0,qI 0] s'->
   eP [(60,eO bl (eM d (.own 1000200 ba 3 n) .nil)),(1000200,il ba rows),(999,⟨none,131,3,[]⟩)] s'->R s):gE P T T1 zH (S0 [.agg [.str a1,qI a2,.str b1,qI b2]] Hp.emp) R (λ_ _=>False) R:=by
 have a0:P.fK 0 0:=iJ hP qD;have XS:P.fK 0 1:=iJ hP qD;have l0:P.iq 0 2:=lk hP qD;have l1:P.iq 1 2:=lk hP qD;have n0:P.nat 0=0:=by subst hP;rfl
 have n1:P.nat 1=1:=by subst hP;rfl
 have c1:P.i64 (P.add 0 1):=by rw[add_eq hP];exact fm hP qD
 have c2:P.i64 (P.add 1 1):=by rw[add_eq hP];exact fm hP qD
 have c3:P.add 0 1=1:=by rw[add_eq hP];rfl
 have c4:P.add 1 1=2:=by rw[add_eq hP];rfl
 cbv
 repeat' first|(refine qA ?_;cbv)|(intro p;cbv)|(refine h1 _ _ ?_;cbv)|fail
 refine a6 (λg=>?_) (λg=>?_)
 ·have g1:c≠0:=iG hP g;rw[ab g1] at N;cbv
  repeat' first|(refine qA ?_;cbv)|(intro p;cbv)
  exact hE _ _ _ (by rw[N]) g1 (cd.refl _) rfl
 have g1:c=0:=iy hP g;rw[aa (λh=>h g1)] at N;have Q:=Q g1;have M:=M g1;cbv
 repeat' first|(refine qA ?_;cbv)|(intro p;cbv)
 rename_i u;refine⟨Wz (iC (LA,Z)) (iC (LB,X)) LA LB,λy=>match y with
   |.y0=>[(1,.ptr 1 (some u) 4 0 0),(5,.int .i64 (-1)),(6,.ptr 6 (some p) 76 0 0),(18,.agg [.str a1,.int .i64 a2,.str b1,.int .i64 b2]),(19,.int .i64 0)]
   |.n1 _=>[(1,.ptr 1 (some u) 4 0 0),(5,.int .i64 (-1)),(6,.ptr 6 (some p) 76 0 0),(18,.agg [.str a1,.int .i64 a2,.str b1,.int .i64 b2]),(19,.int .i64 1)]
   |.s1 r _=>[(1,.ptr 1 (some u) 4 0 0),(5,.int .i64 (0)),(6,.ptr 6 (some p) 76 0 0),(18,.agg [.str a1,.int .i64 a2,.str b1,.int .i64 b2]),(19,.int .i64 1)]
   |.nn _ _=>[(1,.ptr 1 (some u) 4 0 0),(5,.int .i64 (-1)),(6,.ptr 6 (some p) 76 0 0),(18,.agg [.str a1,.int .i64 a2,.str b1,.int .i64 b2]),(19,.int .i64 2)]
   |.ns _ F _=>[(1,.ptr 1 (some u) 4 0 0),(5,.int .i64 (1)),(6,.ptr 6 (some p) 76 0 0),(18,.agg [.str a1,.int .i64 a2,.str b1,.int .i64 b2]),(19,.int .i64 2)]
   |.sn r _ _=>[(1,.ptr 1 (some u) 4 0 0),(5,.int .i64 (0)),(6,.ptr 6 (some p) 76 0 0),(18,.agg [.str a1,.int .i64 a2,.str b1,.int .i64 b2]),(19,.int .i64 2)]
   |.ss r F _ _ _=>[(1,.ptr 1 (some u) 4 0 0),(5,.int .i64 (0)),(6,.ptr 6 (some p) 76 0 0),(18,.agg [.str a1,.int .i64 a2,.str b1,.int .i64 b2]),(19,.int .i64 2)]
   |.st r F _ _ _=>[(1,.ptr 1 (some u) 4 0 0),(5,.int .i64 (1)),(6,.ptr 6 (some p) 76 0 0),(18,.agg [.str a1,.int .i64 a2,.str b1,.int .i64 b2]),(19,.int .i64 2)],
  λy=>match y with
   |.y0=>[(1,⟨some u,71,4,[[.str a1,.int .i64 a2,.str b1,.int .i64 b2]]⟩),(6,⟨some p,232,76,[[.int .i64 0,.int .i64 0,.str [],.int .i64 0,.int .i64 0,.int .i64 0,.int .i64 0,.int .i64 0,.int .i64 0,.int .i64 0,.int .i64 0,.int .i64 0,.int .i64 0,.int .i64 0,.int .i64 0,.int .i64 0,.int .i64 0,.int .i64 0,.int .i64 0,.int .i64 0,.int .i64 0,.int .i64 0,.int .i64 0,.int .i64 0,.int .i64 0,.int .i64 0,.int .i64 0,.int .i64 0,.int .i64 0,.int .i64 0,.int .i64 0,.int .i64 0,.int .i64 0,.int .i64 0,.int .i64 0,.nilsl,.bool false,.int .i64 0,.int .i64 0,.int .i64 0,.str [],.int .i64 0,.int .i64 0,.int .i64 0,.int .i64 0,.int .i64 0,.int .i64 0,.int .i64 0,.int .i64 0,.int .i64 0,.int .i64 0,.int .i64 0,.int .i64 0,.int .i64 0,.int .i64 0,.int .i64 0,.int .i64 0,.int .i64 0,.int .i64 0,.int .i64 0,.int .i64 0,.int .i64 0,.int .i64 0,.int .i64 0,.int .i64 0,.int .i64 0,.int .i64 0,.int .i64 0,.int .i64 0,.int .i64 0,.int .i64 0,.int .i64 0,.int .i64 0,.nilsl,.bool false,.int .i64 0]]⟩)]
   |.n1 _=>[(1,⟨some u,71,4,[[.str a1,.int .i64 a2,.str b1,.int .i64 b2]]⟩),(6,⟨some p,232,76,[[.int .i64 0,.int .i64 0,.str [],.int .i64 0,.int .i64 0,.int .i64 0,.int .i64 0,.int .i64 0,.int .i64 0,.int .i64 0,.int .i64 0,.int .i64 0,.int .i64 0,.int .i64 0,.int .i64 0,.int .i64 0,.int .i64 0,.int .i64 0,.int .i64 0,.int .i64 0,.int .i64 0,.int .i64 0,.int .i64 0,.int .i64 0,.int .i64 0,.int .i64 0,.int .i64 0,.int .i64 0,.int .i64 0,.int .i64 0,.int .i64 0,.int .i64 0,.int .i64 0,.int .i64 0,.int .i64 0,.nilsl,.bool false,.int .i64 0,.int .i64 0,.int .i64 0,.str [],.int .i64 0,.int .i64 0,.int .i64 0,.int .i64 0,.int .i64 0,.int .i64 0,.int .i64 0,.int .i64 0,.int .i64 0,.int .i64 0,.int .i64 0,.int .i64 0,.int .i64 0,.int .i64 0,.int .i64 0,.int .i64 0,.int .i64 0,.int .i64 0,.int .i64 0,.int .i64 0,.int .i64 0,.int .i64 0,.int .i64 0,.int .i64 0,.int .i64 0,.int .i64 0,.int .i64 0,.int .i64 0,.int .i64 0,.int .i64 0,.int .i64 0,.int .i64 0,.nilsl,.bool false,.int .i64 0]]⟩)]
   |.s1 r _=>[(1,⟨some u,71,4,[[.str a1,.int .i64 a2,.str b1,.int .i64 b2]]⟩),(6,⟨some p,232,76,[[.int .i64 LA.gen,.int .i64 LA.base,.str LA.text,.int .i64 (LA.first 0),.int .i64 (LA.first 1),.int .i64 (LA.first 2),.int .i64 (LA.first 3),.int .i64 (LA.first 4),.int .i64 (LA.first 5),.int .i64 (LA.first 6),.int .i64 (LA.first 7),.int .i64 (LA.first 8),.int .i64 (LA.first 9),.int .i64 (LA.first 10),.int .i64 (LA.first 11),.int .i64 (LA.first 12),.int .i64 (LA.first 13),.int .i64 (LA.first 14),.int .i64 (LA.first 15),.int .i64 (LA.table 0),.int .i64 (LA.table 1),.int .i64 (LA.table 2),.int .i64 (LA.table 3),.int .i64 (LA.table 4),.int .i64 (LA.table 5),.int .i64 (LA.table 6),.int .i64 (LA.table 7),.int .i64 (LA.table 8),.int .i64 (LA.table 9),.int .i64 (LA.table 10),.int .i64 (LA.table 11),.int .i64 (LA.table 12),.int .i64 (LA.table 13),.int .i64 (LA.table 14),.int .i64 (LA.table 15),.own 1000200 r.ba 3 r.n,.bool LA.whole,.int .i64 LA.fW,.int .i64 0,.int .i64 0,.str [],.int .i64 0,.int .i64 0,.int .i64 0,.int .i64 0,.int .i64 0,.int .i64 0,.int .i64 0,.int .i64 0,.int .i64 0,.int .i64 0,.int .i64 0,.int .i64 0,.int .i64 0,.int .i64 0,.int .i64 0,.int .i64 0,.int .i64 0,.int .i64 0,.int .i64 0,.int .i64 0,.int .i64 0,.int .i64 0,.int .i64 0,.int .i64 0,.int .i64 0,.int .i64 0,.int .i64 0,.int .i64 0,.int .i64 0,.int .i64 0,.int .i64 0,.int .i64 0,.nilsl,.bool false,.int .i64 0]]⟩),(1000200,il r.ba r.rows)]
   |.nn _ _=>[(1,⟨some u,71,4,[[.str a1,.int .i64 a2,.str b1,.int .i64 b2]]⟩),(6,⟨some p,232,76,[[.int .i64 0,.int .i64 0,.str [],.int .i64 0,.int .i64 0,.int .i64 0,.int .i64 0,.int .i64 0,.int .i64 0,.int .i64 0,.int .i64 0,.int .i64 0,.int .i64 0,.int .i64 0,.int .i64 0,.int .i64 0,.int .i64 0,.int .i64 0,.int .i64 0,.int .i64 0,.int .i64 0,.int .i64 0,.int .i64 0,.int .i64 0,.int .i64 0,.int .i64 0,.int .i64 0,.int .i64 0,.int .i64 0,.int .i64 0,.int .i64 0,.int .i64 0,.int .i64 0,.int .i64 0,.int .i64 0,.nilsl,.bool false,.int .i64 0,.int .i64 0,.int .i64 0,.str [],.int .i64 0,.int .i64 0,.int .i64 0,.int .i64 0,.int .i64 0,.int .i64 0,.int .i64 0,.int .i64 0,.int .i64 0,.int .i64 0,.int .i64 0,.int .i64 0,.int .i64 0,.int .i64 0,.int .i64 0,.int .i64 0,.int .i64 0,.int .i64 0,.int .i64 0,.int .i64 0,.int .i64 0,.int .i64 0,.int .i64 0,.int .i64 0,.int .i64 0,.int .i64 0,.int .i64 0,.int .i64 0,.int .i64 0,.int .i64 0,.int .i64 0,.int .i64 0,.nilsl,.bool false,.int .i64 0]]⟩)]
   |.ns _ F _=>[(1,⟨some u,71,4,[[.str a1,.int .i64 a2,.str b1,.int .i64 b2]]⟩),(6,⟨some p,232,76,[[.int .i64 0,.int .i64 0,.str [],.int .i64 0,.int .i64 0,.int .i64 0,.int .i64 0,.int .i64 0,.int .i64 0,.int .i64 0,.int .i64 0,.int .i64 0,.int .i64 0,.int .i64 0,.int .i64 0,.int .i64 0,.int .i64 0,.int .i64 0,.int .i64 0,.int .i64 0,.int .i64 0,.int .i64 0,.int .i64 0,.int .i64 0,.int .i64 0,.int .i64 0,.int .i64 0,.int .i64 0,.int .i64 0,.int .i64 0,.int .i64 0,.int .i64 0,.int .i64 0,.int .i64 0,.int .i64 0,.nilsl,.bool false,.int .i64 0,.int .i64 LB.gen,.int .i64 LB.base,.str LB.text,.int .i64 (LB.first 0),.int .i64 (LB.first 1),.int .i64 (LB.first 2),.int .i64 (LB.first 3),.int .i64 (LB.first 4),.int .i64 (LB.first 5),.int .i64 (LB.first 6),.int .i64 (LB.first 7),.int .i64 (LB.first 8),.int .i64 (LB.first 9),.int .i64 (LB.first 10),.int .i64 (LB.first 11),.int .i64 (LB.first 12),.int .i64 (LB.first 13),.int .i64 (LB.first 14),.int .i64 (LB.first 15),.int .i64 (LB.table 0),.int .i64 (LB.table 1),.int .i64 (LB.table 2),.int .i64 (LB.table 3),.int .i64 (LB.table 4),.int .i64 (LB.table 5),.int .i64 (LB.table 6),.int .i64 (LB.table 7),.int .i64 (LB.table 8),.int .i64 (LB.table 9),.int .i64 (LB.table 10),.int .i64 (LB.table 11),.int .i64 (LB.table 12),.int .i64 (LB.table 13),.int .i64 (LB.table 14),.int .i64 (LB.table 15),.own 1000201 F.ba 3 F.n,.bool LB.whole,.int .i64 LB.fW]]⟩),(1000201,il F.ba F.rows)]
   |.sn r _ _=>[(1,⟨some u,71,4,[[.str a1,.int .i64 a2,.str b1,.int .i64 b2]]⟩),(6,⟨some p,232,76,[[.int .i64 LA.gen,.int .i64 LA.base,.str LA.text,.int .i64 (LA.first 0),.int .i64 (LA.first 1),.int .i64 (LA.first 2),.int .i64 (LA.first 3),.int .i64 (LA.first 4),.int .i64 (LA.first 5),.int .i64 (LA.first 6),.int .i64 (LA.first 7),.int .i64 (LA.first 8),.int .i64 (LA.first 9),.int .i64 (LA.first 10),.int .i64 (LA.first 11),.int .i64 (LA.first 12),.int .i64 (LA.first 13),.int .i64 (LA.first 14),.int .i64 (LA.first 15),.int .i64 (LA.table 0),.int .i64 (LA.table 1),.int .i64 (LA.table 2),.int .i64 (LA.table 3),.int .i64 (LA.table 4),.int .i64 (LA.table 5),.int .i64 (LA.table 6),.int .i64 (LA.table 7),.int .i64 (LA.table 8),.int .i64 (LA.table 9),.int .i64 (LA.table 10),.int .i64 (LA.table 11),.int .i64 (LA.table 12),.int .i64 (LA.table 13),.int .i64 (LA.table 14),.int .i64 (LA.table 15),.own 1000200 r.ba 3 r.n,.bool LA.whole,.int .i64 LA.fW,.int .i64 0,.int .i64 0,.str [],.int .i64 0,.int .i64 0,.int .i64 0,.int .i64 0,.int .i64 0,.int .i64 0,.int .i64 0,.int .i64 0,.int .i64 0,.int .i64 0,.int .i64 0,.int .i64 0,.int .i64 0,.int .i64 0,.int .i64 0,.int .i64 0,.int .i64 0,.int .i64 0,.int .i64 0,.int .i64 0,.int .i64 0,.int .i64 0,.int .i64 0,.int .i64 0,.int .i64 0,.int .i64 0,.int .i64 0,.int .i64 0,.int .i64 0,.int .i64 0,.int .i64 0,.int .i64 0,.nilsl,.bool false,.int .i64 0]]⟩),(1000200,il r.ba r.rows)]
   |.ss r F _ _ _=>[(1,⟨some u,71,4,[[.str a1,.int .i64 a2,.str b1,.int .i64 b2]]⟩),(6,⟨some p,232,76,[[.int .i64 LA.gen,.int .i64 LA.base,.str LA.text,.int .i64 (LA.first 0),.int .i64 (LA.first 1),.int .i64 (LA.first 2),.int .i64 (LA.first 3),.int .i64 (LA.first 4),.int .i64 (LA.first 5),.int .i64 (LA.first 6),.int .i64 (LA.first 7),.int .i64 (LA.first 8),.int .i64 (LA.first 9),.int .i64 (LA.first 10),.int .i64 (LA.first 11),.int .i64 (LA.first 12),.int .i64 (LA.first 13),.int .i64 (LA.first 14),.int .i64 (LA.first 15),.int .i64 (LA.table 0),.int .i64 (LA.table 1),.int .i64 (LA.table 2),.int .i64 (LA.table 3),.int .i64 (LA.table 4),.int .i64 (LA.table 5),.int .i64 (LA.table 6),.int .i64 (LA.table 7),.int .i64 (LA.table 8),.int .i64 (LA.table 9),.int .i64 (LA.table 10),.int .i64 (LA.table 11),.int .i64 (LA.table 12),.int .i64 (LA.table 13),.int .i64 (LA.table 14),.int .i64 (LA.table 15),.own 1000200 r.ba 3 r.n,.bool LA.whole,.int .i64 LA.fW,.int .i64 LB.gen,.int .i64 LB.base,.str LB.text,.int .i64 (LB.first 0),.int .i64 (LB.first 1),.int .i64 (LB.first 2),.int .i64 (LB.first 3),.int .i64 (LB.first 4),.int .i64 (LB.first 5),.int .i64 (LB.first 6),.int .i64 (LB.first 7),.int .i64 (LB.first 8),.int .i64 (LB.first 9),.int .i64 (LB.first 10),.int .i64 (LB.first 11),.int .i64 (LB.first 12),.int .i64 (LB.first 13),.int .i64 (LB.first 14),.int .i64 (LB.first 15),.int .i64 (LB.table 0),.int .i64 (LB.table 1),.int .i64 (LB.table 2),.int .i64 (LB.table 3),.int .i64 (LB.table 4),.int .i64 (LB.table 5),.int .i64 (LB.table 6),.int .i64 (LB.table 7),.int .i64 (LB.table 8),.int .i64 (LB.table 9),.int .i64 (LB.table 10),.int .i64 (LB.table 11),.int .i64 (LB.table 12),.int .i64 (LB.table 13),.int .i64 (LB.table 14),.int .i64 (LB.table 15),.own 1000201 F.ba 3 F.n,.bool LB.whole,.int .i64 LB.fW]]⟩),(1000200,il r.ba r.rows),(1000201,il F.ba F.rows)]
   |.st r F _ _ _=>[(1,⟨some u,71,4,[[.str a1,.int .i64 a2,.str b1,.int .i64 b2]]⟩),(6,⟨some p,232,76,[[.int .i64 LA.gen,.int .i64 LA.base,.str LA.text,.int .i64 (LA.first 0),.int .i64 (LA.first 1),.int .i64 (LA.first 2),.int .i64 (LA.first 3),.int .i64 (LA.first 4),.int .i64 (LA.first 5),.int .i64 (LA.first 6),.int .i64 (LA.first 7),.int .i64 (LA.first 8),.int .i64 (LA.first 9),.int .i64 (LA.first 10),.int .i64 (LA.first 11),.int .i64 (LA.first 12),.int .i64 (LA.first 13),.int .i64 (LA.first 14),.int .i64 (LA.first 15),.int .i64 (LA.table 0),.int .i64 (LA.table 1),.int .i64 (LA.table 2),.int .i64 (LA.table 3),.int .i64 (LA.table 4),.int .i64 (LA.table 5),.int .i64 (LA.table 6),.int .i64 (LA.table 7),.int .i64 (LA.table 8),.int .i64 (LA.table 9),.int .i64 (LA.table 10),.int .i64 (LA.table 11),.int .i64 (LA.table 12),.int .i64 (LA.table 13),.int .i64 (LA.table 14),.int .i64 (LA.table 15),.own 1000200 r.ba 3 r.n,.bool LA.whole,.int .i64 LA.fW,.int .i64 LB.gen,.int .i64 LB.base,.str LB.text,.int .i64 (LB.first 0),.int .i64 (LB.first 1),.int .i64 (LB.first 2),.int .i64 (LB.first 3),.int .i64 (LB.first 4),.int .i64 (LB.first 5),.int .i64 (LB.first 6),.int .i64 (LB.first 7),.int .i64 (LB.first 8),.int .i64 (LB.first 9),.int .i64 (LB.first 10),.int .i64 (LB.first 11),.int .i64 (LB.first 12),.int .i64 (LB.first 13),.int .i64 (LB.first 14),.int .i64 (LB.first 15),.int .i64 (LB.table 0),.int .i64 (LB.table 1),.int .i64 (LB.table 2),.int .i64 (LB.table 3),.int .i64 (LB.table 4),.int .i64 (LB.table 5),.int .i64 (LB.table 6),.int .i64 (LB.table 7),.int .i64 (LB.table 8),.int .i64 (LB.table 9),.int .i64 (LB.table 10),.int .i64 (LB.table 11),.int .i64 (LB.table 12),.int .i64 (LB.table 13),.int .i64 (LB.table 14),.int .i64 (LB.table 15),.own 1000201 F.ba 3 F.n,.bool LB.whole,.int .i64 LB.fW]]⟩),(1000200,il r.ba r.rows),(1000201,il F.ba F.rows)],
  λy=>match y with|.y0=>2|.n1 _=>1|.s1 _ _=>1|_=>0,
  ⟨_,cd.refl _,.y0,⟨rfl,rfl,rfl,rfl,rfl,trivial⟩,⟨rfl,rfl,trivial⟩⟩,?_⟩
 rintro(_|G|⟨r,z⟩|⟨G,U⟩|⟨G,F,J⟩|⟨r,z,U⟩|⟨r,F,z,J,hlt⟩|⟨r,F,z,J,hlt⟩)
 ·cbv;refine gj (xl hP qD) ?_;cbv
  repeat' first|(refine qA ?_;cbv)|(refine⟨0,n0,?_⟩;cbv)|(intro a;cbv)
  refine O 1000200 _ _ _ Q rfl λL' H ba n rows B hn hrows=>?_;rw[hA] at B;obtain⟨rfl,rfl⟩:L'=LA/\H=Z:=⟨ay Prod.fst B,ay Prod.snd B⟩;refine⟨λhe=>?_,λhe=>?_,λhe=>?_⟩
  ·cbv
   repeat' first|(refine qA ?_;cbv)|(intro a;cbv)|(refine eB (xm hP he) ?_;cbv)|fail
   refine a6 (λg=>?_) (λg=>?_)
   ·have hw:L'.whole=true:=g;have hg0:iC (L',H):=⟨he,hw⟩;cbv
    repeat' first|(refine qA ?_;cbv)|(refine⟨0,n0,?_⟩;cbv)|(intro a;cbv)
    refine gj (xl hP qD) ?_;cbv
    repeat' first|(refine qA ?_;cbv)|(intro a;cbv)
    rw[c3];exact⟨_,cd.refl _,.s1 ⟨ba,n,rows,hn,hrows⟩ hg0,⟨rfl,rfl,rfl,rfl,rfl,trivial⟩,⟨rfl,rfl,rfl,trivial⟩,bO 1⟩
   ·have hw:L'.whole=false:=g;have hg0:¬iC (L',H):=λhh=>by have:=hh.2;rw[hw] at this;cases this
    cbv
    repeat' first|(refine qA ?_;cbv)|(intro a;cbv)
    rw[c3];exact⟨_,cd.refl _,.n1 hg0,⟨rfl,rfl,rfl,rfl,rfl,trivial⟩,⟨rfl,rfl,trivial⟩,bO 1⟩
  ·have hg0:¬iC (L',H):=λhh=>he hh.1;cbv
   repeat' first|(refine qA ?_;cbv)|(intro a;cbv)|(refine gj (yP hP he) ?_;cbv)|fail
   rw[c3];exact⟨_,cd.refl _,.n1 hg0,⟨rfl,rfl,rfl,rfl,rfl,trivial⟩,⟨rfl,rfl,trivial⟩,bO 1⟩
  ·have hg0:¬iC (L',H):=λhh=>he hh.1;cbv
   repeat' first|(refine qA ?_;cbv)|(intro a;cbv)|(refine gj (yP hP he) ?_;cbv)|fail
   rw[c3];exact⟨_,cd.refl _,.n1 hg0,⟨rfl,rfl,rfl,rfl,rfl,trivial⟩,⟨rfl,rfl,trivial⟩,bO 1⟩
 ·cbv;refine gj (xl hP qD) ?_;cbv
  repeat' first|(refine qA ?_;cbv)|(refine⟨1,n1,?_⟩;cbv)|(intro a;cbv)
  refine O 1000201 _ _ _ M rfl λL' H ba n rows B hn hrows=>?_;rw[hB] at B;obtain⟨rfl,rfl⟩:L'=LB/\H=X:=⟨ay Prod.fst B,ay Prod.snd B⟩;refine⟨λhe=>?_,λhe=>?_,λhe=>?_⟩
  ·cbv
   repeat' first|(refine qA ?_;cbv)|(intro a;cbv)|(refine eB (xm hP he) ?_;cbv)|fail
   refine a6 (λg=>?_) (λg=>?_)
   ·have hw:L'.whole=true:=g;have hg0:iC (L',H):=⟨he,hw⟩;cbv
    repeat' first|(refine qA ?_;cbv)|(refine⟨1,n1,?_⟩;cbv)|(intro a;cbv)
    refine gj (xl hP qD) ?_;cbv
    repeat' first|(refine qA ?_;cbv)|(intro a;cbv)
    rw[c4];exact⟨_,cd.refl _,.ns G ⟨ba,n,rows,hn,hrows⟩ hg0,⟨rfl,rfl,rfl,rfl,rfl,trivial⟩,⟨rfl,rfl,rfl,trivial⟩,bO 0⟩
   ·have hw:L'.whole=false:=g;have hg0:¬iC (L',H):=λhh=>by have:=hh.2;rw[hw] at this;cases this
    cbv
    repeat' first|(refine qA ?_;cbv)|(intro a;cbv)
    rw[c4];exact⟨_,cd.refl _,.nn G hg0,⟨rfl,rfl,rfl,rfl,rfl,trivial⟩,⟨rfl,rfl,trivial⟩,bO 0⟩
  ·have hg0:¬iC (L',H):=λhh=>he hh.1;cbv
   repeat' first|(refine qA ?_;cbv)|(intro a;cbv)|(refine gj (yP hP he) ?_;cbv)|fail
   rw[c4];exact⟨_,cd.refl _,.nn G hg0,⟨rfl,rfl,rfl,rfl,rfl,trivial⟩,⟨rfl,rfl,trivial⟩,bO 0⟩
  ·have hg0:¬iC (L',H):=λhh=>he hh.1;cbv
   repeat' first|(refine qA ?_;cbv)|(intro a;cbv)|(refine gj (yP hP he) ?_;cbv)|fail
   rw[c4];exact⟨_,cd.refl _,.nn G hg0,⟨rfl,rfl,rfl,rfl,rfl,trivial⟩,⟨rfl,rfl,trivial⟩,bO 0⟩
 ·cbv;refine gj (xl hP qD) ?_;cbv
  repeat' first|(refine qA ?_;cbv)|(refine⟨1,n1,?_⟩;cbv)|(intro a;cbv)
  refine O 1000201 _ _ _ M rfl λL' H ba n rows B hn hrows=>?_;rw[hB] at B;obtain⟨rfl,rfl⟩:L'=LB/\H=X:=⟨ay Prod.fst B,ay Prod.snd B⟩;refine⟨λhe=>?_,λhe=>?_,λhe=>?_⟩
  ·cbv
   repeat' first|(refine qA ?_;cbv)|(intro a;cbv)|(refine eB (xm hP he) ?_;cbv)|fail
   refine a6 (λg=>?_) (λg=>?_)
   ·have hw:L'.whole=true:=g;have hg0:iC (L',H):=⟨he,hw⟩;cbv
    repeat' first|(refine qA ?_;cbv)|(refine⟨1,n1,?_⟩;cbv)|(intro a;cbv)
    refine eB (qT hP qD) ?_;cbv
    repeat' first|(refine qA ?_;cbv)|(refine⟨0,n0,?_⟩;cbv)|(intro a;cbv)
    refine a6 (λg=>?_) (λg=>?_)
    ·have hlt:LA.gen<L'.gen:=gM hP g;cbv
     repeat' first|(refine qA ?_;cbv)|(intro a;cbv)
     rw[c4];exact⟨_,cd.refl _,.st r ⟨ba,n,rows,hn,hrows⟩ z hg0 hlt,⟨rfl,rfl,rfl,rfl,rfl,trivial⟩,⟨rfl,rfl,rfl,rfl,trivial⟩,bO 0⟩
    ·have hlt:¬LA.gen<L'.gen:=gN hP g;cbv
     repeat' first|(refine qA ?_;cbv)|(intro a;cbv)
     rw[c4];exact⟨_,cd.refl _,.ss r ⟨ba,n,rows,hn,hrows⟩ z hg0 hlt,⟨rfl,rfl,rfl,rfl,rfl,trivial⟩,⟨rfl,rfl,rfl,rfl,trivial⟩,bO 0⟩
   ·have hw:L'.whole=false:=g;have hg0:¬iC (L',H):=λhh=>by have:=hh.2;rw[hw] at this;cases this
    cbv
    repeat' first|(refine qA ?_;cbv)|(intro a;cbv)
    rw[c4];exact⟨_,cd.refl _,.sn r z hg0,⟨rfl,rfl,rfl,rfl,rfl,trivial⟩,⟨rfl,rfl,rfl,trivial⟩,bO 0⟩
  ·have hg0:¬iC (L',H):=λhh=>he hh.1;cbv
   repeat' first|(refine qA ?_;cbv)|(intro a;cbv)|(refine gj (yP hP he) ?_;cbv)|fail
   rw[c4];exact⟨_,cd.refl _,.sn r z hg0,⟨rfl,rfl,rfl,rfl,rfl,trivial⟩,⟨rfl,rfl,rfl,trivial⟩,bO 0⟩
  ·have hg0:¬iC (L',H):=λhh=>he hh.1;cbv
   repeat' first|(refine qA ?_;cbv)|(intro a;cbv)|(refine gj (yP hP he) ?_;cbv)|fail
   rw[c4];exact⟨_,cd.refl _,.sn r z hg0,⟨rfl,rfl,rfl,rfl,rfl,trivial⟩,⟨rfl,rfl,rfl,trivial⟩,bO 0⟩
 ·have o:Y=⟨Z0,[],12⟩:=by rw[N];unfold oR;rw[aa G,aa U]
  cbv;refine eB (qT hP qD) ?_;cbv
  repeat' first|(refine qA ?_;cbv)|(intro a;cbv)
  refine gj (xl hP qD) ?_;cbv
  repeat' first|(refine qA ?_;cbv)|(intro a;cbv)
  exact hE _ _ _ (by rw[o]) qD (cd.refl _) rfl
 ·have o:Y=⟨oQ a1 a2 b1 b2 1 LB,LB.gq,0⟩:=by rw[N];unfold oR;rw[aa G,ab J]
  have hZ:=oB J.1;obtain⟨f,gn,i,m,j⟩:=F;have p1:P.i64 (P.sub 1 1):=by rw[sub_eq hP];exact fm hP qD
  have W:P.sub 1 1=1-1:=sub_eq hP _ _;have C:gn<=1000:=by rw[m];exact hZ.n
  cbv;refine eB (qT hP qD) ?_;cbv
  repeat' first|(refine qA ?_;cbv)|(intro a;cbv)
  refine eB (qT hP qD) ?_;cbv
  repeat' first|(refine qA ?_;cbv)|(refine⟨1,n1,?_⟩;cbv)|(intro a;cbv)
  refine A 60 _ (⟨a1,a2,b1,b2,1,LB.gen,LB.base,LB.text,LB.first,LB.table,LB.whole,LB.fW,[],0,false⟩:SC) (.own 1000201 f 3 gn) .nil _ _ _ _ ⟨⟨.own _ _ _ _,rfl⟩,.nil,rfl⟩ rfl rfl rfl λd1 v=>?_;cbv
  repeat' first|(refine qA ?_;cbv)|(intro a;cbv)
  refine A 60 _ d1 (.own 1000201 f 3 gn) .nil _ _ _ _ ⟨⟨.own _ _ _ _,rfl⟩,.nil,rfl⟩ rfl rfl rfl λd2 k=>?_;have k:d2=lq d1 (P.sub 1 1) 0:=k;rw[W] at k;cbv
  repeat' first|(refine qA ?_;cbv)|(intro a;cbv)
  refine I 60 _ d2 (.own 1000201 f 3 gn) .nil _ _ _ ⟨⟨.own _ _ _ _,rfl⟩,.nil,rfl⟩ rfl rfl rfl λd3 w=>?_;have D:d3.tx=LB.text:=by rw[w,k,v];rfl
  have E:d3.b=LB.base:=by rw[w,k,v];rfl
  cbv
  repeat' first|(refine qA ?_;cbv)|(intro a;cbv)
  refine L 1000201 f gn i LB.gq _ _ _ _ j m hZ.rv rfl λx y hx hy=>?_;have hx:x=(jy d3.tx LB.gq (P.int gn)).1:=hx;rw[D,int_eq hP,m] at hx;cbv
  repeat' first|(refine qA ?_;cbv)|(intro a;cbv)
  refine K 60 _ {d3 with now:=x} 1000201 f gn .nil _ _ (by rw[show({d3 with now:=x}:SC).b=LB.base from E];exact hZ.b) C ⟨.nil,rfl⟩ rfl rfl rfl λq hq=>?_
  have hq:q=d3.b+(gn:Int):=hq;rw[E,m] at hq;cbv
  repeat' first|(refine qA ?_;cbv)|(intro a;cbv)
  refine hR _ _ _ f gn i {d3 with now:=x,sf:=q} (by rw[o,hq,hx,w,k,v];rfl) (by rw[o]) (by rw[o];exact m) (by rw[o];exact j)
   (cd.trans (cd.rB _ 999 131 3) (cd.M3 [(60,60,eO _ (eM {d3 with now:=x,sf:=q} (.own 1000200 f 3 gn) .nil)),(1000200,1000201,il f i),(999,999,⟨none,131,3,[]⟩)] (by show([60,1000201,999]:List Nat).Nodup;decide) ⟨⟨_,rfl,rfl,rfl⟩,⟨_,rfl,rfl,rfl⟩,⟨_,rfl,rfl,rfl⟩,trivial⟩)) rfl ⟨rfl,rfl,rfl,trivial⟩
 ·have o:Y=⟨oQ a1 a2 b1 b2 0 LA,LA.gq,0⟩:=by rw[N];unfold oR;rw[ab z,aa (λhh=>U hh.1)]
  have hZ:=oA z.1;obtain⟨f,gn,i,m,j⟩:=r;have p1:P.i64 (P.sub 1 0):=by rw[sub_eq hP];exact fm hP qD
  have W:P.sub 1 0=1-0:=sub_eq hP _ _;have C:gn<=1000:=by rw[m];exact hZ.n
  cbv;refine eB (qT hP qD) ?_;cbv
  repeat' first|(refine qA ?_;cbv)|(intro a;cbv)
  refine eB (qT hP qD) ?_;cbv
  repeat' first|(refine qA ?_;cbv)|(refine⟨0,n0,?_⟩;cbv)|(intro a;cbv)
  refine A 60 _ (⟨a1,a2,b1,b2,0,LA.gen,LA.base,LA.text,LA.first,LA.table,LA.whole,LA.fW,[],0,false⟩:SC) (.own 1000200 f 3 gn) .nil _ _ _ _ ⟨⟨.own _ _ _ _,rfl⟩,.nil,rfl⟩ rfl rfl rfl λd1 v=>?_;cbv
  repeat' first|(refine qA ?_;cbv)|(intro a;cbv)
  refine A 60 _ d1 (.own 1000200 f 3 gn) .nil _ _ _ _ ⟨⟨.own _ _ _ _,rfl⟩,.nil,rfl⟩ rfl rfl rfl λd2 k=>?_;have k:d2=lq d1 (P.sub 1 0) 0:=k;rw[W] at k;cbv
  repeat' first|(refine qA ?_;cbv)|(intro a;cbv)
  refine I 60 _ d2 (.own 1000200 f 3 gn) .nil _ _ _ ⟨⟨.own _ _ _ _,rfl⟩,.nil,rfl⟩ rfl rfl rfl λd3 w=>?_;have D:d3.tx=LA.text:=by rw[w,k,v];rfl
  have E:d3.b=LA.base:=by rw[w,k,v];rfl
  cbv
  repeat' first|(refine qA ?_;cbv)|(intro a;cbv)
  refine L 1000200 f gn i LA.gq _ _ _ _ j m hZ.rv rfl λx y hx hy=>?_;have hx:x=(jy d3.tx LA.gq (P.int gn)).1:=hx;rw[D,int_eq hP,m] at hx;cbv
  repeat' first|(refine qA ?_;cbv)|(intro a;cbv)
  refine K 60 _ {d3 with now:=x} 1000200 f gn .nil _ _ (by rw[show({d3 with now:=x}:SC).b=LA.base from E];exact hZ.b) C ⟨.nil,rfl⟩ rfl rfl rfl λq hq=>?_
  have hq:q=d3.b+(gn:Int):=hq;rw[E,m] at hq;cbv
  repeat' first|(refine qA ?_;cbv)|(intro a;cbv)
  refine hR _ _ _ f gn i {d3 with now:=x,sf:=q} (by rw[o,hq,hx,w,k,v];rfl) (by rw[o]) (by rw[o];exact m) (by rw[o];exact j)
   (cd.trans (cd.rB _ 999 131 3) (cd.M3 [(60,60,eO _ (eM {d3 with now:=x,sf:=q} (.own 1000200 f 3 gn) .nil)),(1000200,1000200,il f i),(999,999,⟨none,131,3,[]⟩)] (by show([60,1000200,999]:List Nat).Nodup;decide) ⟨⟨_,rfl,rfl,rfl⟩,⟨_,rfl,rfl,rfl⟩,⟨_,rfl,rfl,rfl⟩,trivial⟩)) rfl ⟨rfl,rfl,rfl,trivial⟩
 ·have o:Y=⟨oQ a1 a2 b1 b2 0 LA,LA.gq,0⟩:=by rw[N];unfold oR;rw[ab z,aa (λhh=>hlt hh.2)]
  have hZ:=oA z.1;obtain⟨f,gn,i,m,j⟩:=r;have p1:P.i64 (P.sub 1 0):=by rw[sub_eq hP];exact fm hP qD
  have W:P.sub 1 0=1-0:=sub_eq hP _ _;have C:gn<=1000:=by rw[m];exact hZ.n
  cbv;refine eB (qT hP qD) ?_;cbv
  repeat' first|(refine qA ?_;cbv)|(intro a;cbv)
  refine eB (qT hP qD) ?_;cbv
  repeat' first|(refine qA ?_;cbv)|(refine⟨0,n0,?_⟩;cbv)|(intro a;cbv)
  refine A 60 _ (⟨a1,a2,b1,b2,0,LA.gen,LA.base,LA.text,LA.first,LA.table,LA.whole,LA.fW,[],0,false⟩:SC) (.own 1000200 f 3 gn) .nil _ _ _ _ ⟨⟨.own _ _ _ _,rfl⟩,.nil,rfl⟩ rfl rfl rfl λd1 v=>?_;cbv
  repeat' first|(refine qA ?_;cbv)|(intro a;cbv)
  refine A 60 _ d1 (.own 1000200 f 3 gn) .nil _ _ _ _ ⟨⟨.own _ _ _ _,rfl⟩,.nil,rfl⟩ rfl rfl rfl λd2 k=>?_;have k:d2=lq d1 (P.sub 1 0) 0:=k;rw[W] at k;cbv
  repeat' first|(refine qA ?_;cbv)|(intro a;cbv)
  refine I 60 _ d2 (.own 1000200 f 3 gn) .nil _ _ _ ⟨⟨.own _ _ _ _,rfl⟩,.nil,rfl⟩ rfl rfl rfl λd3 w=>?_;have D:d3.tx=LA.text:=by rw[w,k,v];rfl
  have E:d3.b=LA.base:=by rw[w,k,v];rfl
  cbv
  repeat' first|(refine qA ?_;cbv)|(intro a;cbv)
  refine L 1000200 f gn i LA.gq _ _ _ _ j m hZ.rv rfl λx y hx hy=>?_;have hx:x=(jy d3.tx LA.gq (P.int gn)).1:=hx;rw[D,int_eq hP,m] at hx;cbv
  repeat' first|(refine qA ?_;cbv)|(intro a;cbv)
  refine K 60 _ {d3 with now:=x} 1000200 f gn .nil _ _ (by rw[show({d3 with now:=x}:SC).b=LA.base from E];exact hZ.b) C ⟨.nil,rfl⟩ rfl rfl rfl λq hq=>?_
  have hq:q=d3.b+(gn:Int):=hq;rw[E,m] at hq;cbv
  repeat' first|(refine qA ?_;cbv)|(intro a;cbv)
  refine hR _ _ _ f gn i {d3 with now:=x,sf:=q} (by rw[o,hq,hx,w,k,v];rfl) (by rw[o]) (by rw[o];exact m) (by rw[o];exact j)
   (cd.trans (cd.rB _ 999 131 3) (cd.M3 [(60,60,eO _ (eM {d3 with now:=x,sf:=q} (.own 1000200 f 3 gn) .nil)),(1000200,1000200,il f i),(999,999,⟨none,131,3,[]⟩)] (by show([60,1000200,999]:List Nat).Nodup;decide) ⟨⟨_,rfl,rfl,rfl⟩,⟨_,rfl,rfl,rfl⟩,⟨_,rfl,rfl,rfl⟩,trivial⟩)) rfl ⟨rfl,rfl,rfl,trivial⟩
 ·have o:Y=⟨oQ a1 a2 b1 b2 1 LB,LB.gq,0⟩:=by rw[N];unfold oR;rw[ab z,ab ⟨J,hlt⟩]
  have hZ:=oB J.1;obtain⟨f,gn,i,m,j⟩:=F;have p1:P.i64 (P.sub 1 1):=by rw[sub_eq hP];exact fm hP qD
  have W:P.sub 1 1=1-1:=sub_eq hP _ _;have C:gn<=1000:=by rw[m];exact hZ.n
  cbv;refine eB (qT hP qD) ?_;cbv
  repeat' first|(refine qA ?_;cbv)|(intro a;cbv)
  refine eB (qT hP qD) ?_;cbv
  repeat' first|(refine qA ?_;cbv)|(refine⟨1,n1,?_⟩;cbv)|(intro a;cbv)
  refine A 60 _ (⟨a1,a2,b1,b2,1,LB.gen,LB.base,LB.text,LB.first,LB.table,LB.whole,LB.fW,[],0,false⟩:SC) (.own 1000201 f 3 gn) .nil _ _ _ _ ⟨⟨.own _ _ _ _,rfl⟩,.nil,rfl⟩ rfl rfl rfl λd1 v=>?_;cbv
  repeat' first|(refine qA ?_;cbv)|(intro a;cbv)
  refine A 60 _ d1 (.own 1000201 f 3 gn) .nil _ _ _ _ ⟨⟨.own _ _ _ _,rfl⟩,.nil,rfl⟩ rfl rfl rfl λd2 k=>?_;have k:d2=lq d1 (P.sub 1 1) 0:=k;rw[W] at k;cbv
  repeat' first|(refine qA ?_;cbv)|(intro a;cbv)
  refine I 60 _ d2 (.own 1000201 f 3 gn) .nil _ _ _ ⟨⟨.own _ _ _ _,rfl⟩,.nil,rfl⟩ rfl rfl rfl λd3 w=>?_;have D:d3.tx=LB.text:=by rw[w,k,v];rfl
  have E:d3.b=LB.base:=by rw[w,k,v];rfl
  cbv
  repeat' first|(refine qA ?_;cbv)|(intro a;cbv)
  refine L 1000201 f gn i LB.gq _ _ _ _ j m hZ.rv rfl λx y hx hy=>?_;have hx:x=(jy d3.tx LB.gq (P.int gn)).1:=hx;rw[D,int_eq hP,m] at hx;cbv
  repeat' first|(refine qA ?_;cbv)|(intro a;cbv)
  refine K 60 _ {d3 with now:=x} 1000201 f gn .nil _ _ (by rw[show({d3 with now:=x}:SC).b=LB.base from E];exact hZ.b) C ⟨.nil,rfl⟩ rfl rfl rfl λq hq=>?_
  have hq:q=d3.b+(gn:Int):=hq;rw[E,m] at hq;cbv
  repeat' first|(refine qA ?_;cbv)|(intro a;cbv)
  refine hR _ _ _ f gn i {d3 with now:=x,sf:=q} (by rw[o,hq,hx,w,k,v];rfl) (by rw[o]) (by rw[o];exact m) (by rw[o];exact j)
   (cd.trans (cd.rB _ 999 131 3) (cd.M3 [(60,60,eO _ (eM {d3 with now:=x,sf:=q} (.own 1000200 f 3 gn) .nil)),(1000200,1000201,il f i),(999,999,⟨none,131,3,[]⟩)] (by show([60,1000201,999]:List Nat).Nodup;decide) ⟨⟨_,rfl,rfl,rfl⟩,⟨_,rfl,rfl,rfl⟩,⟨_,rfl,rfl,rfl⟩,trivial⟩)) rfl ⟨rfl,rfl,rfl,trivial⟩
def ie(d:SC)(i:Int):Int:=if i=0 then d.x2 else d.x4
def na(d:SC):Prop:=iz d.x1 d.x2 d.x3 d.x4=0
theorem gT{x:BS}{n:Int}:hY x n=0↔x.length<=1048576/\0<=n/\n<=(x.length:Int):=by
 constructor
 ·exact kg
 ·intro h;unfold hY;rw[aa qW,aa qW]
theorem lZ{a1 b1:BS}{a2 b2:Int}:iz a1 a2 b1 b2=0↔hY a1 a2=0/\hY b1 b2=0:=by
 constructor
 ·exact pk
 ·rintro⟨h1,h2⟩;unfold iz;rw[aa (λh=>h h1)];exact h2
theorem na.slot{d:SC}(h:na d)(i:Int):(fb d i).length<=1048576/\0<=ie d i/\ie d i<=((fb d i).length:Int):=by
 obtain⟨h1,h2⟩:=lZ.1 h;unfold fb ie
 split
 ·exact gT.1 h1
 ·exact gT.1 h2
theorem xL{d:SC}(h:na d){i:Int}(hi:i=0\/i=1):lO d.x1 d.x2 d.x3 d.x4 i=0:=by
 unfold lO;rw[aa (λg=>g h),aa qW]
theorem xM{d:SC}{i:Int}{t:BS}(h:na d)(hi:i=0\/i=1)(hl:(fb d i).length+t.length<=1048576):
  na (kL d i t)/\fb (kL d i t) i=fb d i++t/\fb (kL d i t) (1-i)=fb d (1-i)/\∀j,ie (kL d i t) j=ie d j:=by
 have hk:=xL h hi;obtain⟨h1,h2⟩:=lZ.1 h;have s1:=gT.1 h1;have s2:=gT.1 h2
 rcases hi with rfl|rfl
 ·have hl:d.x1.length+t.length<=1048576:=hl;have e:mB d.x1 d.x2 d.x3 d.x4 0 t=⟨d.x1++t,d.x2,d.x3,d.x4,0⟩:=by
   unfold mB;rw[aa (λg=>g hk),ab rfl,aa qW]
  have a:kL d 0 t= {d with x1:=d.x1++t}:=by
   unfold kL;rw[e]
  rw[a];exact⟨lZ.2 ⟨(gT (x:=d.x1++t) (n:=d.x2)).2 (by rw[ae];omega),h2⟩,rfl,rfl,λj=>rfl⟩
 ·have hl:d.x3.length+t.length<=1048576:=hl;have e:mB d.x1 d.x2 d.x3 d.x4 1 t=⟨d.x1,d.x2,d.x3++t,d.x4,0⟩:=by
   unfold mB;rw[aa (λg=>g hk),aa qD,aa qW]
  have a:kL d 1 t= {d with x3:=d.x3++t}:=by
   unfold kL;rw[e]
  rw[a];exact⟨lZ.2 ⟨h1,(gT (x:=d.x3++t) (n:=d.x4)).2 (by rw[ae];omega)⟩,rfl,rfl,λj=>rfl⟩
theorem tA{d:SC}{i:Int}(h:na d)(hi:i=0\/i=1):
  na (mJ d i)/\(∀j,fb (mJ d i) j=fb d j)/\ie (mJ d i) i=((fb d i).length:Int)/\ie (mJ d i) (1-i)=ie d (1-i):=by
 have hk:=xL h hi;obtain⟨h1,h2⟩:=lZ.1 h;have s1:=gT.1 h1;have s2:=gT.1 h2
 rcases hi with rfl|rfl
 ·have e:mF d.x1 d.x2 d.x3 d.x4 0=⟨d.x1,d.x1.length,d.x3,d.x4,0⟩:=by
   unfold mF;rw[aa (λg=>g hk),ab rfl]
  have a:mJ d 0= {d with x2:=d.x1.length}:=by
   unfold mJ;rw[e]
  rw[a];exact⟨lZ.2 ⟨(gT (x:=d.x1) (n:=(d.x1.length:Int))).2 qW,h2⟩,λj=>rfl,rfl,rfl⟩
 ·have e:mF d.x1 d.x2 d.x3 d.x4 1=⟨d.x1,d.x2,d.x3,d.x3.length,0⟩:=by
   unfold mF;rw[aa (λg=>g hk),aa qD]
  have a:mJ d 1= {d with x4:=d.x3.length}:=by
   unfold mJ;rw[e]
  rw[a];exact⟨lZ.2 ⟨h1,(gT (x:=d.x3) (n:=(d.x3.length:Int))).2 qW⟩,λj=>rfl,rfl,rfl⟩
theorem C8{d:SC}{i:Int}{n:Nat}(h:na d)(hi:i=0\/i=1)(hn:n<=(fb d i).length):
  na (lq d i n)/\fb (lq d i n) i=(fb d i).take n/\fb (lq d i n) (1-i)=fb d (1-i)/\ie (lq d i n) i=min (ie d i) n/\ie (lq d i n) (1-i)=ie d (1-i):=by
 have hk:=xL h hi;obtain⟨h1,h2⟩:=lZ.1 h;have s1:=gT.1 h1;have s2:=gT.1 h2
 rcases hi with rfl|rfl
 ·have hn:n<=d.x1.length:=hn;have e:mG d.x1 d.x2 d.x3 d.x4 0 n=⟨d.x1.take n,min d.x2 n,d.x3,d.x4,0⟩:=by
   unfold mG;rw[aa (λg=>g hk),ab rfl,aa qW,aG]
  have a:lq d 0 n= {d with x1:=d.x1.take n,x2:=min d.x2 n}:=by
   unfold lq;rw[e]
  rw[a];exact⟨lZ.2 ⟨(gT (x:=d.x1.take n) (n:=min d.x2 n)).2 (by rw[aE];omega),h2⟩,rfl,rfl,rfl,rfl⟩
 ·have hn:n<=d.x3.length:=hn;have e:mG d.x1 d.x2 d.x3 d.x4 1 n=⟨d.x1,d.x2,d.x3.take n,min d.x4 n,0⟩:=by
   unfold mG;rw[aa (λg=>g hk),aa qD,aa qW,aG]
  have a:lq d 1 n= {d with x3:=d.x3.take n,x4:=min d.x4 n}:=by
   unfold lq;rw[e]
  rw[a];exact⟨lZ.2 ⟨h1,(gT (x:=d.x3.take n) (n:=min d.x4 n)).2 (by rw[aE];omega)⟩,rfl,rfl,rfl,rfl⟩
theorem Jg{g b:Int}{f k:Nat->Int}(h:td f k):jq g b f=jq g b k:=by
 unfold jq;rw[h 0 qD,h 1 qD,h 2 qD,h 3 qD,h 4 qD,h 5 qD,h 6 qD,h 7 qD,h 8 qD,h 9 qD,h 10 qD,h 11 qD,h 12 qD,h 13 qD,h 14 qD,h 15 qD]
theorem zI{g b:Int}{tx:BS}{f k:Nat->Int}(h:td f k)(r1:List er)(o:Option (List er)):gi g b tx f r1 o=gi g b tx k r1 o:=by
 unfold gi js gx;rw[Jg h]
theorem mZ.WA{g b:Int}{tx:BS}{f k:Nat->Int}(h:mZ g b tx f)(he:td f k):mZ g b tx k:=⟨h.g,h.b,h.tx,λj hj=>by rw[<-he j hj];exact h.t j hj⟩
theorem sS{b:Int}(i:Nat):∀(c:List er)(tb:Nat->Int)(k:Nat)(now:BS),fN b tb (i+k) now c->fN (b+(i:Int)) tb k now c
 |[],_,_,_,_=>trivial
 |r::c,tb,k,now,h=>by
  refine⟨?_,?_⟩
  ·have h1:=h.1;unfold gQ at h1⊢
   by_cases g1:ir r≠0
   ·rw[ab g1] at h1;exact absurd h1 g1
   rw[aa g1] at h1⊢
   by_cases g2:r.seq<=tb (2*r.who.toNat)
   ·rw[ab g2] at h1;exact absurd h1 qD
   rw[aa g2] at h1⊢
   by_cases g3:64<=((i+k:Nat):Int)\/2147483647<=b+((i+k:Nat):Int)
   ·rw[ab g3] at h1;exact absurd h1 qD
   rw[aa g3] at h1;rw[aa qW];exact h1
  ·have h2:=h.2;have e:b+(i:Int)+(k:Int)+1=b+((i+k:Nat):Int)+1:=by omega
   rw[e];exact sS i c _ (k+1) _ h2
theorem E3{tb:Nat->Int}(h:∀j,j<16->nT (tb j)){w:Nat}{q n:Int}(hq:nT q)(hn:nT n):∀j,j<16->nT (iQ tb w q n j):=by
 intro j hj;unfold iQ
 split
 ·exact hq
 ·split
  ·exact hn
  ·exact h j hj
theorem C9{b:Int}(hb:0<=b):∀(l:List er)(tb:Nat->Int)(i:Nat)(now:BS),fN b tb i now l->(∀j,j<16->nT (tb j))->∀j,j<16->nT (jr tb (b+(i:Int)) l j)
 |[],_,_,_,_,h=>h
 |r::l,tb,i,now,hc,h=>by
  have h1:=lX hc.1;have h2:=mY h1.1;have:=C9 hb l _ (i+1) _ hc.2 (E3 h ⟨h2.2.1.1,h2.2.1.2⟩ ⟨qW,qW⟩);have e:b+((i+1:Nat):Int)=b+(i:Int)+1:=by omega
  rw[e] at this;exact this
theorem Da:∀(l:List Frame),(∀f∈l,vG f)->(eF l).length<=4007*l.length
 |[],_=>ak _
 |f::l,h=>by
  have h1:=(h f (by simp)).2.2;have h2:=Da l λg hg=>h g (by simp[hg]);rw[iH,ae,ku,ar];omega
theorem Db{b:Int}{tb:Nat->Int}{i:Nat}{now:BS}{l:List er}(hc:fN b tb i now l):mw l/\(∀r∈l,0<=r.who/\r.who<=7)/\(∀r∈l,r.delta.length<=1000000000)/\l.length<=64:=by
 have a:l.length<=64:=by
  rcases pC l _ _ _ hc with rfl|h
  ·simp
  ·omega
 have h1:=lC l _ _ _ hc;have hm:maxLen=9223372036854775807:=by decide
 exact⟨⟨qW,λr hr=>(xH (h1 r hr)).1⟩,λr hr=>(mY (h1 r hr)).1,λr hr=>(xH (h1 r hr)).2,a⟩
end Go.Proofs.YtajdadcdcpnedaaGreatDoor.AM
