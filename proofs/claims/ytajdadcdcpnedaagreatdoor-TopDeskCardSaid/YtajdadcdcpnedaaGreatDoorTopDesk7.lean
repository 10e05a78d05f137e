/-
  Part 7 of what the law TopDesk reaches: the plain machine, contracts of the functions and plain laws; each lemma says its own condition.
-/
import Derived.Test.YtajdadcdcpnedaaGreatDoorTopDesk6
import Derived.Test.YtajdadcdcpnedaaGreatDoorTopDesk5
import Derived.WalkKit
import Derived.Lib.Strings
import Derived.Laws.Bits128
import Derived.Laws.BitsAllLaws
import Derived.Test.YtajdadcdcpnedaaGreatDoorRows
import Derived.WalkSpells
import Derived.WalkLawsBesides
import Derived.Lib.Hide
import Derived.Laws.IdiomStrings
import Derived.Deep.RegionWith
import Derived.BigQuiet
import Derived.Test.YtajdadcdcpnedaaGreatDoorTopDesk4
namespace Go
def World.ob(w:World)(g:Nat)(T:TypeId)(cs:Array Value):World:= {w with heap:=w.heap.setIfInBounds g (.cells cs T (0,0))}
end Go
set_option linter.unusedVariables false
set_option linter.unusedSimpArgs false
namespace Go.Proofs.YtajdadcdcpnedaaGreatDoor.AM
open Go
set_option maxRecDepth 100000
set_option maxHeartbeats 2000000
def yX:AC:=qr [qo 3 (.box 100 38 (.t 0)),qo 5 (.box 96 3 (.t 2)),qz 6 0] (qq (qr [qd 8 3 5,qa 9 127 [.t 8],qm 7 9] (qr [qm 10 7,qc 11 .neq 10 0] (qu 11 (qr [qm 12 7,qm 6 12] .ret) .skip))) (qq (qq (.region true [qf 13 1 5,ql 14 13,qf 15 0 5,ql 16 15,qf 17 19 3,qo 18 (.iarr 8 2 (.t 17) (.t 16)),qf 19 0 18,ql 20 19,qb 21 .leq 14 20]) (qu 21 (qr [qz 6 10] .ret) .skip)) (qq (qr [qf 22 35 3,ql 23 22,qo 24 (.len false (.t 23)),qc 25 .geq 24 64,qm 26 25,qg 27 26 false (.faddr 1 (.t 3)),qg 28 26 false (.load1 (.t 27)),qg 29 26 false (.faddr 35 (.t 3)),qg 30 26 false (.load1 (.t 29)),qg 31 26 false (.len false (.t 30)),qg 32 26 false (.bin .add (.t 28) (.t 31)),qg 33 26 false (.bin .geq (.t 32) (qk 2147483647)),qo 34 (.pick (.t 26) (.c (.bool true)) (.t 33))] (qu 34 (qr [qz 6 11] .ret) .skip)) (qr [qf 35 2 5,ql 36 35,qm 37 1,qa 38 128 [.t 36,.t 37],qm 6 38] .ret))))
theorem G7:fF Tryz.prog 67 Tryz.f67 yX [.t 6] 3 dS:=⟨Tryz.func67,by decide+kernel,by kernel_rfl,by kernel_rfl,by decide+kernel⟩
theorem G8(P:Prim)(hP:P=cp)(T C:cm)(gn b gd w q sz o f n:Int)(tx:BS)(fs tb:Nat->Int)(rv m:List (List V))(wh D:Bool)(hn:P.cF rv=n)(hb:0<=b/\b<=2147483647)
  (k:hJ T 127 [.agg [qI w,qI q,.sl false 3 m]] (qI o))(hw:o=0->w=0\/w=1\/w=2\/w=3\/w=4\/w=5\/w=6\/w=7)(l:o=0->hJ T 128 [.sl false 3 m,qI sz] (qI f))
  (res:Int)(g1:o≠0->o=res)(g2:o=0->q<=tb (2*w.toNat)->10=res)(g3:o=0->¬q<=tb (2*w.toNat)->64<=n\/2147483647<=b+n->11=res)(g4:o=0->¬q<=tb (2*w.toNat)->¬(64<=n\/2147483647<=b+n)->f=res)(E:0<=n)
  (R:S->Prop)(d:∀s s' x,x=res->cd s s'->ia [.t 6] [qI x] s'->R s):gE P T C yX (S0 [.agg [qI gn,qI b,.str tx,qI (fs 0),qI (fs 1),qI (fs 2),qI (fs 3),qI (fs 4),qI (fs 5),qI (fs 6),qI (fs 7),qI (fs 8),qI (fs 9),qI (fs 10),qI (fs 11),qI (fs 12),qI (fs 13),qI (fs 14),qI (fs 15),qI (tb 0),qI (tb 1),qI (tb 2),qI (tb 3),qI (tb 4),qI (tb 5),qI (tb 6),qI (tb 7),qI (tb 8),qI (tb 9),qI (tb 10),qI (tb 11),qI (tb 12),qI (tb 13),qI (tb 14),qI (tb 15),.sl D 3 rv,.bool wh,qI gd],qI sz,.agg [qI w,qI q,.sl false 3 m]] Hp.emp) R (λ_ _=>False) R:=by
 have p:P.nat 0=0:=by subst hP;rfl
 have r:P.nat 1=1:=by subst hP;rfl
 have u:P.nat 2=2:=by subst hP;rfl
 have v:P.nat 3=3:=by subst hP;rfl
 have y:P.nat 4=4:=by subst hP;rfl
 have z:P.nat 5=5:=by subst hP;rfl
 have A:P.nat 6=6:=by subst hP;rfl
 have B:P.nat 7=7:=by subst hP;rfl
 have e:∀i:Nat,i<8->P.fK 0 (i:Int)/\P.iq (i:Int) 8:=λi hi=>⟨iJ hP qW,lk hP qW⟩;cbv;intro F;cbv;intro G;cbv;refine k _ _ ?_;clear k;cbv;refine a6 (λh=>?_) (λh=>?_)
 ·have hz:=iG hP h;cbv;exact d _ _ _ (g1 hz) (cd.refl _) rfl
 have hz:=iy hP h;have hw:=hw hz;have j:=l hz
 replace g2:=g2 hz
 replace g3:=g3 hz
 replace g4:=g4 hz
 clear g1 l h;cbv
 rcases hw with rfl|rfl|rfl|rfl|rfl|rfl|rfl|rfl
 ·have q1:P.fK 0 0:=(e 0 qD).1;have q2:P.iq 0 8:=(e 0 qD).2;refine⟨q1,q2,0,p,?_⟩;cbv;refine a6 (λh=>?_) (λh=>?_)
  ·have hq:=j6 hP h;cbv;exact d _ _ _ (g2 hq) (cd.refl _) rfl
  have hq:=j7 hP h
  replace g3:=g3 hq
  replace g4:=g4 hq
  cbv;refine a6 (λh=>?_) (λh=>?_)
  ·have a:64<=P.cF rv:=j6 hP h;rw[hn] at a;cbv;exact d _ _ _ (g3 (.inl qW)) (cd.refl _) rfl
  have a:¬64<=P.cF rv:=j7 hP h;rw[hn] at a;have g:P.i64 (P.add b (P.cF rv)):=by rw[add_eq hP,hn];exact fm hP qW
  cbv;refine⟨g,?_⟩;refine a6 (λh=>?_) (λh=>?_)
  ·have c:2147483647<=P.add b (P.cF rv):=j6 hP h;rw[add_eq hP,hn] at c;cbv;exact d _ _ _ (g3 (.inr qW)) (cd.refl _) rfl
  have c:¬2147483647<=P.add b (P.cF rv):=j7 hP h;rw[add_eq hP,hn] at c;cbv;refine j _ _ ?_;cbv;exact d _ _ _ (g4 qW) (cd.refl _) rfl
 ·have q1:P.fK 0 1:=(e 1 qD).1;have q2:P.iq 1 8:=(e 1 qD).2;refine⟨q1,q2,1,r,?_⟩;cbv;refine a6 (λh=>?_) (λh=>?_)
  ·have hq:=j6 hP h;cbv;exact d _ _ _ (g2 hq) (cd.refl _) rfl
  have hq:=j7 hP h
  replace g3:=g3 hq
  replace g4:=g4 hq
  cbv;refine a6 (λh=>?_) (λh=>?_)
  ·have a:64<=P.cF rv:=j6 hP h;rw[hn] at a;cbv;exact d _ _ _ (g3 (.inl qW)) (cd.refl _) rfl
  have a:¬64<=P.cF rv:=j7 hP h;rw[hn] at a;have g:P.i64 (P.add b (P.cF rv)):=by rw[add_eq hP,hn];exact fm hP qW
  cbv;refine⟨g,?_⟩;refine a6 (λh=>?_) (λh=>?_)
  ·have c:2147483647<=P.add b (P.cF rv):=j6 hP h;rw[add_eq hP,hn] at c;cbv;exact d _ _ _ (g3 (.inr qW)) (cd.refl _) rfl
  have c:¬2147483647<=P.add b (P.cF rv):=j7 hP h;rw[add_eq hP,hn] at c;cbv;refine j _ _ ?_;cbv;exact d _ _ _ (g4 qW) (cd.refl _) rfl
 ·have q1:P.fK 0 2:=(e 2 qD).1;have q2:P.iq 2 8:=(e 2 qD).2;refine⟨q1,q2,2,u,?_⟩;cbv;refine a6 (λh=>?_) (λh=>?_)
  ·have hq:=j6 hP h;cbv;exact d _ _ _ (g2 hq) (cd.refl _) rfl
  have hq:=j7 hP h
  replace g3:=g3 hq
  replace g4:=g4 hq
  cbv;refine a6 (λh=>?_) (λh=>?_)
  ·have a:64<=P.cF rv:=j6 hP h;rw[hn] at a;cbv;exact d _ _ _ (g3 (.inl qW)) (cd.refl _) rfl
  have a:¬64<=P.cF rv:=j7 hP h;rw[hn] at a;have g:P.i64 (P.add b (P.cF rv)):=by rw[add_eq hP,hn];exact fm hP qW
  cbv;refine⟨g,?_⟩;refine a6 (λh=>?_) (λh=>?_)
  ·have c:2147483647<=P.add b (P.cF rv):=j6 hP h;rw[add_eq hP,hn] at c;cbv;exact d _ _ _ (g3 (.inr qW)) (cd.refl _) rfl
  have c:¬2147483647<=P.add b (P.cF rv):=j7 hP h;rw[add_eq hP,hn] at c;cbv;refine j _ _ ?_;cbv;exact d _ _ _ (g4 qW) (cd.refl _) rfl
 ·have q1:P.fK 0 3:=(e 3 qD).1;have q2:P.iq 3 8:=(e 3 qD).2;refine⟨q1,q2,3,v,?_⟩;cbv;refine a6 (λh=>?_) (λh=>?_)
  ·have hq:=j6 hP h;cbv;exact d _ _ _ (g2 hq) (cd.refl _) rfl
  have hq:=j7 hP h
  replace g3:=g3 hq
  replace g4:=g4 hq
  cbv;refine a6 (λh=>?_) (λh=>?_)
  ·have a:64<=P.cF rv:=j6 hP h;rw[hn] at a;cbv;exact d _ _ _ (g3 (.inl qW)) (cd.refl _) rfl
  have a:¬64<=P.cF rv:=j7 hP h;rw[hn] at a;have g:P.i64 (P.add b (P.cF rv)):=by rw[add_eq hP,hn];exact fm hP qW
  cbv;refine⟨g,?_⟩;refine a6 (λh=>?_) (λh=>?_)
  ·have c:2147483647<=P.add b (P.cF rv):=j6 hP h;rw[add_eq hP,hn] at c;cbv;exact d _ _ _ (g3 (.inr qW)) (cd.refl _) rfl
  have c:¬2147483647<=P.add b (P.cF rv):=j7 hP h;rw[add_eq hP,hn] at c;cbv;refine j _ _ ?_;cbv;exact d _ _ _ (g4 qW) (cd.refl _) rfl
 ·have q1:P.fK 0 4:=(e 4 qD).1;have q2:P.iq 4 8:=(e 4 qD).2;refine⟨q1,q2,4,y,?_⟩;cbv;refine a6 (λh=>?_) (λh=>?_)
  ·have hq:=j6 hP h;cbv;exact d _ _ _ (g2 hq) (cd.refl _) rfl
  have hq:=j7 hP h
  replace g3:=g3 hq
  replace g4:=g4 hq
  cbv;refine a6 (λh=>?_) (λh=>?_)
  ·have a:64<=P.cF rv:=j6 hP h;rw[hn] at a;cbv;exact d _ _ _ (g3 (.inl qW)) (cd.refl _) rfl
  have a:¬64<=P.cF rv:=j7 hP h;rw[hn] at a;have g:P.i64 (P.add b (P.cF rv)):=by rw[add_eq hP,hn];exact fm hP qW
  cbv;refine⟨g,?_⟩;refine a6 (λh=>?_) (λh=>?_)
  ·have c:2147483647<=P.add b (P.cF rv):=j6 hP h;rw[add_eq hP,hn] at c;cbv;exact d _ _ _ (g3 (.inr qW)) (cd.refl _) rfl
  have c:¬2147483647<=P.add b (P.cF rv):=j7 hP h;rw[add_eq hP,hn] at c;cbv;refine j _ _ ?_;cbv;exact d _ _ _ (g4 qW) (cd.refl _) rfl
 ·have q1:P.fK 0 5:=(e 5 qD).1;have q2:P.iq 5 8:=(e 5 qD).2;refine⟨q1,q2,5,z,?_⟩;cbv;refine a6 (λh=>?_) (λh=>?_)
  ·have hq:=j6 hP h;cbv;exact d _ _ _ (g2 hq) (cd.refl _) rfl
  have hq:=j7 hP h
  replace g3:=g3 hq
  replace g4:=g4 hq
  cbv;refine a6 (λh=>?_) (λh=>?_)
  ·have a:64<=P.cF rv:=j6 hP h;rw[hn] at a;cbv;exact d _ _ _ (g3 (.inl qW)) (cd.refl _) rfl
  have a:¬64<=P.cF rv:=j7 hP h;rw[hn] at a;have g:P.i64 (P.add b (P.cF rv)):=by rw[add_eq hP,hn];exact fm hP qW
  cbv;refine⟨g,?_⟩;refine a6 (λh=>?_) (λh=>?_)
  ·have c:2147483647<=P.add b (P.cF rv):=j6 hP h;rw[add_eq hP,hn] at c;cbv;exact d _ _ _ (g3 (.inr qW)) (cd.refl _) rfl
  have c:¬2147483647<=P.add b (P.cF rv):=j7 hP h;rw[add_eq hP,hn] at c;cbv;refine j _ _ ?_;cbv;exact d _ _ _ (g4 qW) (cd.refl _) rfl
 ·have q1:P.fK 0 6:=(e 6 qD).1;have q2:P.iq 6 8:=(e 6 qD).2;refine⟨q1,q2,6,A,?_⟩;cbv;refine a6 (λh=>?_) (λh=>?_)
  ·have hq:=j6 hP h;cbv;exact d _ _ _ (g2 hq) (cd.refl _) rfl
  have hq:=j7 hP h
  replace g3:=g3 hq
  replace g4:=g4 hq
  cbv;refine a6 (λh=>?_) (λh=>?_)
  ·have a:64<=P.cF rv:=j6 hP h;rw[hn] at a;cbv;exact d _ _ _ (g3 (.inl qW)) (cd.refl _) rfl
  have a:¬64<=P.cF rv:=j7 hP h;rw[hn] at a;have g:P.i64 (P.add b (P.cF rv)):=by rw[add_eq hP,hn];exact fm hP qW
  cbv;refine⟨g,?_⟩;refine a6 (λh=>?_) (λh=>?_)
  ·have c:2147483647<=P.add b (P.cF rv):=j6 hP h;rw[add_eq hP,hn] at c;cbv;exact d _ _ _ (g3 (.inr qW)) (cd.refl _) rfl
  have c:¬2147483647<=P.add b (P.cF rv):=j7 hP h;rw[add_eq hP,hn] at c;cbv;refine j _ _ ?_;cbv;exact d _ _ _ (g4 qW) (cd.refl _) rfl
 ·have q1:P.fK 0 7:=(e 7 qD).1;have q2:P.iq 7 8:=(e 7 qD).2;refine⟨q1,q2,7,B,?_⟩;cbv;refine a6 (λh=>?_) (λh=>?_)
  ·have hq:=j6 hP h;cbv;exact d _ _ _ (g2 hq) (cd.refl _) rfl
  have hq:=j7 hP h
  replace g3:=g3 hq
  replace g4:=g4 hq
  cbv;refine a6 (λh=>?_) (λh=>?_)
  ·have a:64<=P.cF rv:=j6 hP h;rw[hn] at a;cbv;exact d _ _ _ (g3 (.inl qW)) (cd.refl _) rfl
  have a:¬64<=P.cF rv:=j7 hP h;rw[hn] at a;have g:P.i64 (P.add b (P.cF rv)):=by rw[add_eq hP,hn];exact fm hP qW
  cbv;refine⟨g,?_⟩;refine a6 (λh=>?_) (λh=>?_)
  ·have c:2147483647<=P.add b (P.cF rv):=j6 hP h;rw[add_eq hP,hn] at c;cbv;exact d _ _ _ (g3 (.inr qW)) (cd.refl _) rfl
  have c:¬2147483647<=P.add b (P.cF rv):=j7 hP h;rw[add_eq hP,hn] at c;cbv;refine j _ _ ?_;cbv;exact d _ _ _ (g4 qW) (cd.refl _) rfl
def PO(gn b:Int)(tx:BS)(fs tb:Nat->Int)(rv:List (List V))(wh:Bool)(gd:Int):V:=.agg [.int .i64 gn,.int .i64 b,.str tx,.int .i64 (fs 0),.int .i64 (fs 1),.int .i64 (fs 2),.int .i64 (fs 3),.int .i64 (fs 4),.int .i64 (fs 5),.int .i64 (fs 6),.int .i64 (fs 7),.int .i64 (fs 8),.int .i64 (fs 9),.int .i64 (fs 10),.int .i64 (fs 11),.int .i64 (fs 12),.int .i64 (fs 13),.int .i64 (fs 14),.int .i64 (fs 15),.int .i64 (tb 0),.int .i64 (tb 1),.int .i64 (tb 2),.int .i64 (tb 3),.int .i64 (tb 4),.int .i64 (tb 5),.int .i64 (tb 6),.int .i64 (tb 7),.int .i64 (tb 8),.int .i64 (tb 9),.int .i64 (tb 10),.int .i64 (tb 11),.int .i64 (tb 12),.int .i64 (tb 13),.int .i64 (tb 14),.int .i64 (tb 15),.sl true 3 rv,.bool wh,.int .i64 gd]
def gQ(b:Int)(tb:Nat->Int)(n:Nat)(size:Int)(r:er):Int:=if ir r≠0 then ir r else if r.seq<=tb (2*r.who.toNat) then 10 else if 64<=(n:Int)\/2147483647<=b+n then 11 else kh r.delta size
theorem kR{r:er}(h:ir r=0):0<=r.who/\r.who<=7/\0<=r.seq/\r.seq<=2147483647/\cR r.delta=0:=by
 unfold ir at h
 split at h
 ·contradiction
 ·omega
theorem r9(gn b:Int)(tx:BS)(fs tb:Nat->Int)(l:List er)(wh:Bool)(gd size:Int)(r:er)(hb:0<=b/\b<=2147483647)(hr:fV r.delta):Spec Tryz.prog 67 [PO gn b tx fs tb (l.map bd) wh gd,.int .i64 size,.agg (bd r)] Hp.emp (Is (.int .i64 (gQ b tb l.length size r))):=
 ed hW G7 [.int .i64 (gQ b tb l.length size r)] (.int _ _) λR a=>G8 cp rfl _ _ gn b gd r.who r.seq size (ir r) (kh r.delta size) l.length tx fs tb (l.map bd) (r.delta.map a7) wh true (by show((l.map bd).length:Int)=_;simp) hb
  (gK (Bg r hr) (λh=>.cons (.same _) .nil) rfl) (λh=>by have:=kR h;omega) (λ_=>yQ (Cm r.delta hr.1 size) rfl rfl) (gQ b tb l.length size r)
  (λh=>by unfold gQ;rw[ab h]) (λh h2=>by unfold gQ;rw[aa (λg=>g h),ab h2]) (λh h2 h3=>by unfold gQ;rw[aa (λg=>g h),aa h2,ab h3]) (λh h2 h3=>by unfold gQ;rw[aa (λg=>g h),aa h2,aa h3]) qW
  R λs s' x h he hq=>by subst h;exact a s s' he hq
def xq(f:Nat->Int):V:=.agg [.int .i64 (f 0),.int .i64 (f 1),.int .i64 (f 2),.int .i64 (f 3),.int .i64 (f 4),.int .i64 (f 5),.int .i64 (f 6),.int .i64 (f 7),.int .i64 (f 8),.int .i64 (f 9),.int .i64 (f 10),.int .i64 (f 11),.int .i64 (f 12),.int .i64 (f 13),.int .i64 (f 14),.int .i64 (f 15)]
def L2(k:Nat)(b:Option Nat)(sz n:Nat)(rows:List (List V))(v v':V):Prop:=v'=v\/(v=.own k b sz n/\v'=.sl false sz rows)
theorem L2.rel{C:Ctx}{F:Nat->Prop}{h:Hp}{w:World}(hs:fT C F h w){k sz n:Nat}{b:Option Nat}{o:Ob}(hk:h k=some o)(hb:o.b=b)(hsz:o.sz=sz)(hn:o.rows.length=n)(hz:∀r∈o.rows,∀v∈r,Fz v)
  {v v':V}(hv:L2 k b sz n o.rows v v'){u:Value}(hr:Rel F C.B w v u):Rel (λx=>F x\/o.b=some x) C.B w v' u:=by
 rcases hv with rfl|⟨rfl,rfl⟩
 ·exact hr.mono (λ_ h=>.inl h) (λ_ h=>.inr h)
 ·cases hr with
  |ownnil=>
   have:o.rows=[]:=aB hn;rw[this];exact .slnil _ _
  |own _ b' _ n' cap c e fr a hcs hm l=>
   have ho:=hs.ob k o hk;unfold fe at ho;rw[hb] at ho;obtain⟨c',cap',d,h1,h2,h3,h4,h5⟩:=ho;rw[a] at d;cases d;subst hn;have hw:∀r∈o.rows,r.length=sz:=λr hr=>by rw[<-hsz];exact h4 r hr
   refine .sl false sz o.rows b' 0 cap (λi j=>(c[i*sz+j]?).getD undef) (.inl (.inr hb)) l hw (λi j r v hi hj=>?_) (λi j r v hi hj=>?_)
   ·obtain⟨u,hu,f,g⟩:=h5 i j r v hi hj;rw[hsz] at hu;rw[hu,cell_of_row w b' _ c o.ty (0,0) a];have:i*sz+j<c.size:=(aA.1 hu).1;refine⟨?_,f⟩;rw[aW];exact hu
   ·obtain⟨u,hu,f,g⟩:=h5 i j r v hi hj;rw[hsz] at hu;rw[hu];exact g.mono (λ_ h=>.inl h) (λ_ h=>.inr h)
theorem cd.freeze{s s':S}{k sz n:Nat}{b:Option Nat}{o:Ob}(hk:s.h k=some o)(hb:o.b=b)(hsz:o.sz=sz)(hn:o.rows.length=n)(hz:∀r∈o.rows,∀v∈r,Fz v)
  (ht:∀i,L2 k b sz n o.rows (s.t i) (s'.t i))
  (hh:∀j e,s'.h j=some e->j≠k/\∃q,s.h j=some q/\e.b=q.b/\e.ty=q.ty/\e.sz=q.sz/\e.rows.length=q.rows.length/\
   ∀(i:Nat)(r r':List V),q.rows[i]? =some r->e.rows[i]? =some r'->r'.length=r.length/\∀(l:Nat)(v v':V),r[l]? =some v->r'[l]? =some v'->L2 k b sz n o.rows v v'):cd s s':=by
 intro C M a w hC hs0;obtain⟨F,hs,h2⟩:=hs0.ex;refine⟨⟨λx=>F x\/o.b=some x,⟨λj e hj=>?_,λj G q e b1 hj z hb1 hb2=>?_,λj e b1 hj hb1=>?_,λb1 hb1=>?_,λb1 hb1=>.inl (hs.new b1 hb1),λb1 hb1=>?_,hs.ev⟩,λi=>?_⟩,hs0.df,hs0.sz⟩
 ·obtain⟨_,q,hq,e1,A,B,H,I⟩:=hh j e hj;have d:=hs.ob j q hq;unfold fe at d⊢;rw[e1];cases p:q.b with
  |none=>
   rw[p] at d;simp only at d⊢;rw[d] at H;exact aB H
  |some b1=>
   rw[p] at d;obtain⟨c,cap,g1,g2,g3,g4,g5,g6⟩:=d;refine⟨c,cap,by rw[A];exact g1,by rw[B];exact g2,g3,qW,λr' D=>?_,λi l r' v' hi hl=>?_⟩
   ·obtain⟨i,hi⟩:=dP.1 D;have E:=(aj.1 hi).1;have f:q.rows[i]? =some (q.rows[i]'qW):=af qW;rw[B,(I i _ r' f hi).1];exact g5 _ (az f)
   ·have E:=(aj.1 hi).1;have f:q.rows[i]? =some (q.rows[i]'qW):=af qW;obtain⟨f1,f2⟩:=I i _ r' f hi;have J:=(aj.1 hl).1;have y:(q.rows[i]'qW)[l]? =some ((q.rows[i]'qW)[l]'qW):=af qW;obtain⟨u,k1,K,L⟩:=g6 i l _ _ f y;rw[B];exact⟨u,k1,K,L2.rel hs hk hb hsz hn hz (f2 l _ v' y hl) L⟩
 ·obtain⟨_,q1,m,e1,_⟩:=hh j q hj;obtain⟨_,q2,d,A,_⟩:=hh G e z;exact hs.inj j G q1 q2 b1 m d (by rw[<-e1];exact hb1) (by rw[<-A];exact hb2)
 ·obtain⟨hne,q1,m,e1,_⟩:=hh j e hj;obtain⟨g1,g2⟩:=hs.live j q1 b1 m (by rw[<-e1];exact hb1);refine⟨?_,g2⟩;rintro(g|g)
  ·exact g1 g
  ·exact hne (hs.inj j k q1 o b1 m hk (by rw[<-e1];exact hb1) g)
 ·rcases hb1 with g|g
  ·exact hs.jE b1 g
  ·exact .inr (hs.live k o b1 hk g).2
 ·rcases hb1 with g|g
  ·exact hs.lt b1 g
  ·exact(hs.ob k o hk).lt g
 ·exact L2.rel hs hk hb hsz hn hz (ht i) (h2 i)
theorem iY.freeze{h h':Hp}{k sz n:Nat}{b:Option Nat}{o:Ob}(hk:h k=some o)(hb:o.b=b)(hsz:o.sz=sz)(hn:o.rows.length=n)(hz:∀r∈o.rows,∀v∈r,Fz v)
  (hh:∀j d,h' j=some d->j≠k/\∃q,h j=some q/\d.b=q.b/\d.ty=q.ty/\d.sz=q.sz/\d.rows.length=q.rows.length/\
   ∀(i:Nat)(r r':List V),q.rows[i]? =some r->d.rows[i]? =some r'->r'.length=r.length/\∀(l:Nat)(v v':V),r[l]? =some v->r'[l]? =some v'->L2 k b sz n o.rows v v'):iY h h':=by
 intro C F w hC hs;refine⟨λx=>F x\/o.b=some x,λ_ h=>.inl h,⟨λj d hj=>?_,λj B q d b1 hj s hb1 hb2=>?_,λj d b1 hj hb1=>?_,λb1 hb1=>?_,λb1 hb1=>.inl (hs.new b1 hb1),λb1 hb1=>?_,hs.ev⟩⟩
 ·obtain⟨_,q,hq,e1,t,y,D,E⟩:=hh j d hj;have a:=hs.ob j q hq;unfold fe at a⊢;rw[e1];cases m:q.b with
  |none=>
   rw[m] at a;simp only at a⊢;rw[a] at D;exact aB D
  |some b1=>
   rw[m] at a;obtain⟨c,cap,g1,g2,g3,g4,g5,g6⟩:=a;refine⟨c,cap,by rw[t];exact g1,by rw[y];exact g2,g3,qW,λr' z=>?_,λi l r' v' hi hl=>?_⟩
   ·obtain⟨i,hi⟩:=dP.1 z;have A:=(aj.1 hi).1;have e:q.rows[i]? =some (q.rows[i]'qW):=af qW;rw[y,(E i _ r' e hi).1];exact g5 _ (az e)
   ·have A:=(aj.1 hi).1;have e:q.rows[i]? =some (q.rows[i]'qW):=af qW;obtain⟨f1,f2⟩:=E i _ r' e hi;have G:=(aj.1 hl).1;have p:(q.rows[i]'qW)[l]? =some ((q.rows[i]'qW)[l]'qW):=af qW;obtain⟨u,k1,H,I⟩:=g6 i l _ _ e p;rw[y];exact⟨u,k1,H,L2.rel hs hk hb hsz hn hz (f2 l _ v' p hl) I⟩
 ·obtain⟨_,q1,f,e1,_⟩:=hh j q hj;obtain⟨_,q2,a,t,_⟩:=hh B d s;exact hs.inj j B q1 q2 b1 f a (by rw[<-e1];exact hb1) (by rw[<-t];exact hb2)
 ·obtain⟨hne,q1,f,e1,_⟩:=hh j d hj;obtain⟨g1,g2⟩:=hs.live j q1 b1 f (by rw[<-e1];exact hb1);refine⟨?_,g2⟩;rintro(g|g)
  ·exact g1 g
  ·exact hne (hs.inj j k q1 o b1 f hk (by rw[<-e1];exact hb1) g)
 ·rcases hb1 with g|g
  ·exact hs.jE b1 g
  ·exact .inr (hs.live k o b1 hk g).2
 ·rcases hb1 with g|g
  ·exact hs.lt b1 g
  ·exact(hs.ob k o hk).lt g
theorem iY.L4{h:Hp}{k q sz n c:Nat}{b:Option Nat}{o O:Ob}{row:List V}(hk:h k=some o)(hq:h q=some O)(e:O.rows=[row])(hc:row[c]? =some (.own k b sz n))(hb:o.b=b)(hsz:o.sz=sz)(hn:o.rows.length=n)(hz:∀r∈o.rows,∀v∈r,Fz v):
  iY h (Hp.del (Hp.put h q ⟨O.b,O.ty,O.sz,[row.set c (.sl false sz o.rows)]⟩) k):=by
 refine iY.freeze hk hb hsz hn hz (λj g hj=>?_);simp only[Hp.del] at hj
 by_cases h1:j=k
 ·rw[ab h1] at hj;cases hj
 ·rw[aa h1] at hj;refine⟨h1,?_⟩;simp only[Hp.put] at hj
  by_cases h2:j=q
  ·rw[ab h2] at hj;cases hj;refine⟨O,by rw[h2];exact hq,rfl,rfl,rfl,by rw[e];simp,λi r r' e1 f=>?_⟩;rw[e] at e1;cases i with
   |zero=>
    simp only[bR,aC] at e1 f;subst e1 f;refine⟨by simp,λl v v' d a=>?_⟩;rw[dJ] at a
    by_cases hl:c=l
    ·subst hl;rw[ab rfl] at a;rw[hc] at d;cases d
     split at a
     ·cases a;exact .inr ⟨rfl,rfl⟩
     ·cases a
    ·rw[aa hl,d] at a;cases a;exact .inl rfl
   |succ i=>simp at e1
  ·rw[aa h2] at hj;exact⟨g,hj,rfl,rfl,rfl,rfl,λi r r' h1 h2=>by rw[h1] at h2;cases h2;exact⟨rfl,λl v v' h3 h4=>by rw[h3] at h4;cases h4;exact .inl rfl⟩⟩
def S.yY(s:S)(i k sz:Nat)(rows:List (List V)):S:=⟨jh s.t i (.sl false sz rows),Hp.del s.h k⟩
theorem cd.yY{s:S}{i k sz n:Nat}{b:Option Nat}{o:Ob}(hi:s.t i=.own k b sz n)(hk:s.h k=some o)(hb:o.b=b)(hsz:o.sz=sz)(hn:o.rows.length=n)(hz:∀r∈o.rows,∀v∈r,Fz v):cd s (s.yY i k sz o.rows):=by
 refine cd.freeze hk hb hsz hn hz (λj=>?_) (λj a hj=>?_)
 ·simp only[S.yY,jh]
  by_cases h:j=i
  ·rw[ab h,h];exact .inr ⟨hi,rfl⟩
  ·rw[aa h];exact .inl rfl
 ·simp only[S.yY,Hp.del] at hj
  by_cases h:j=k
  ·rw[ab h] at hj;cases hj
  ·rw[aa h] at hj;exact⟨h,a,hj,rfl,rfl,rfl,rfl,λi r r' h1 h2=>by rw[h1] at h2;cases h2;exact⟨rfl,λl v v' h3 h4=>by rw[h3] at h4;cases h4;exact .inl rfl⟩⟩
end Go.Proofs.YtajdadcdcpnedaaGreatDoor.AM
namespace Go.Proofs.YtajdadcdcpnedaaGreatDoor
open Go.RowKit
def bt(n:Nat):UInt8:=UInt8.ofNat n
theorem ov(n:Nat)(h:n<256):(bt n).toNat=n:=by
 unfold bt;rw[cK];omega
def pJ:Nat->Nat->BS
 |0,_=>[]
 |f+1,n=>if n<128 then[bt n] else bt (128+n%128)::pJ f (n/128)
def ij(n:Nat):BS:=pJ 5 n
theorem jm(f n:Nat)(h:n<128):pJ (f+1) n=[bt n]:=by simp[pJ,h]
theorem lP(f n:Nat)(h:¬n<128):pJ (f+1) n=bt (128+n%128)::pJ f (n/128):=by simp[pJ,h]
theorem qY(f n:Nat):(pJ f n).length<=f:=by
 induction f generalizing n with
 |zero=>simp[pJ]
 |succ f ih=>
  unfold pJ
  split
  ·simp
  ·have:=ih (n/128);simp;omega
def val:BS->Nat
 |[]=>0
 |b::r=>b.toNat%128+128*val r
def hi(b:UInt8):Bool:=128<=b.toNat
def lead(l:BS):Nat:=(l.takeWhile hi).length
theorem Ct(l:BS):lead l<=l.length:=(List.takeWhile_sublist _).length_le
theorem kl(b:UInt8)(r:BS)(h:128<=b.toNat):lead (b::r)=lead r+1:=by
 have:hi b=true:=by simp[hi,h]
 simp[lead,List.takeWhile_cons,this]
theorem lx(b:UInt8)(r:BS)(h:b.toNat<128):lead (b::r)=0:=by
 have:hi b=false:=by simp[hi];omega
 simp[lead,List.takeWhile_cons,this]
def gX(l:BS):Int×Int×Int:=
 if 5<=lead l then(0,0,3)
 else if lead l=l.length then(0,0,5)
 else if 2147483647<val (l.take (lead l+1))\/(0<lead l/\l[lead l]? =some 0) then(0,0,3)
 else(val (l.take (lead l+1)),lead l+1,0)
inductive Word:BS->Prop
 |one (b:UInt8):b.toNat<128->Word [b]
 |more (b:UInt8) (r:BS):128<=b.toNat->Word r->Word (b::r)
theorem v8:∀(l:BS),lead l<l.length->Word (l.take (lead l+1))
 |[],h=>by simp at h
 |b::r,h=>by
  by_cases hb:128<=b.toNat
  ·rw[kl b r hb] at h⊢;exact .more b _ hb (v8 r (by simp at h;omega))
  ·rw[lx b r qW];simpa using Word.one b qW
theorem tc{l:BS}(h:Word l)(hl:l.getLast? ≠some 0):0<val l:=by
 induction h with
 |one b hb=>
  have:b≠0:=λe=>hl (by simp[e]);have:b.toNat≠0:=λe=>this (fw.1 (by simpa using e));simp[val];omega
 |more b r hb hr ih=>
  have a:r≠[]:=by cases hr<;>simp
  have:=ih (by rwa[cC a] at hl);simp[val];omega
theorem yZ(f:Nat):∀{l:BS},Word l->l.length<=f->(pJ f (val l)=l↔(l.length=1\/l.getLast? ≠some 0)):=by
 induction f with
 |zero=>intro l h hl;cases h<;>simp at hl
 |succ f ih=>
  intro l h hl;cases h with
  |one b hb=>
   have:val [b]=b.toNat:=by simp[val];omega
   rw[this,jm f _ hb];simp[bt,eV]
  |more b r hb hr=>
   have a:r≠[]:=by cases hr<;>simp
   have hlen:1<=r.length:=by cases hr<;>simp
   have hb2:=b.toNat_lt;rw[cC a];simp at hl;have h1:val (b::r)/128=val r:=by simp[val];omega
   have h2:128+val (b::r)%128=b.toNat:=by simp[val];omega
   have d:bt (128+val (b::r)%128)=b:=by rw[h2];simp[bt,eV]
   constructor
   ·intro e
    right
    intro hz
    by_cases hs:val (b::r)<128
    ·rw[jm f _ hs] at e
     injection e with e1 g
     exact a g.symm
    ·rw[lP f _ hs,h1] at e
     injection e with e1 g
     rcases(ih hr hl).1 g with h3|h3
     ·match r,h3,hz with
      |[c],_,hz=>
       simp at hz;subst hz;simp[val] at hs;omega
     ·exact h3 hz
   ·rintro(h3|h3)
    ·simp at h3;exact absurd h3 a
    ·have hp:=tc hr h3;have hs:¬val (b::r)<128:=by have e:val (b::r)=b.toNat%128+128*val r:=rfl;omega
     rw[lP f _ hs,h1,d,(ih hr hl).2 (.inr h3)]
theorem G9(l:BS)(b:UInt8):val (l++[b])=val l+b.toNat%128*128^l.length:=by
 induction l with
 |nil=>simp[val]
 |cons c r ih=>
  simp only[aD,val,ih,ar,eD];rw[Nat.mul_add,dK (128^r.length) 128,<-Nat.mul_assoc,<-Nat.mul_assoc,dK 128 (b.toNat%128)];omega
theorem Bi(l:BS):val l<128^l.length:=by
 induction l with
 |nil=>simp[val]
 |cons c r ih=>simp only[val,ar,eD];omega
theorem L5(n x:Int)(i:Nat)(hi:i<=4)(b:0<=n)(c:n<128^i)(d:0<=x)(g:x<128):bits .or .i64 n (x*128^i)=n+x*128^i:=by
 have hc:bits .or .i64 n (x*128^i)=bits .or .i64 (x*128^i) n:=by simp only[bits,BitVec.or_comm]
 have e:(128:Int)^i=2^(7*i):=by rw[Int.pow_mul];rfl
 have a:∀n:Int,0<=n->n<2^62->IntKind.i64.wrap n=n:=λn h0 h1=>by rw[IntKind.wrap_i64];omega
 have hp:(128:Int)^i<=268435456:=by
  have h:128^i<=128^4:=cO qD hi;have h2:((128^i:Nat):Int)<=268435456:=by omega
  rwa[eo] at h2
 have j:(0:Int)<128^i:=Int.pow_pos qD;have hx:x*128^i<=127*128^i:=dW qW qW;have f:0<=x*128^i:=Int.mul_nonneg d qW;rw[hc,bits_join .i64 62 qD a (7*i) (x*128^i) n f (by rw[e];exact eU _ _) qW b (by rw[<-e];exact c) qW];omega
theorem En:∀a:Nat,a<256->a|||128=128+a%128:=by decide+kernel
theorem RA(m:Nat):bits .or .u8 ((m:Int)%256) 128=128+(m:Int)%128:=by
 have h1:((m:Int)%256)=((m%256:Nat):Int):=by omega
 have h2:=u8_or_nat (m%256) 128 qW qW;rw[h1];refine h2.trans ?_;rw[En _ qW];omega
def lQ(l:BS):List Value:=l.map (λb=>.int .u8 b.toNat)
theorem pS(l:BS)(b:UInt8):lQ (l++[b])=lQ l++[.int .u8 b.toNat]:=by simp[lQ]
theorem xr:∀(l:BS)(k:Nat),k<=l.length->(∀j(h:j<l.length),j<k->128<=l[j].toNat)->k<=lead l
 |_,0,_,_=>bc _
 |[],k+1,h,_=>by simp at h
 |b::r,k+1,h,H=>by
  have hb:128<=b.toNat:=H 0 (by simp) qW;rw[kl b r hb];have:=xr r k (by simpa using h) (λj hj a=>H (j+1) (by simp;omega) qW);omega
theorem qZ:∀(l:BS)(k:Nat)(h:k<l.length),(∀j(h:j<l.length),j<k->128<=l[j].toNat)->l[k].toNat<128->lead l=k
 |[],k,h,_,_=>by simp at h
 |b::r,0,_,_,hb=>lx b r (by simpa using hb)
 |b::r,k+1,h,H,hb=>by
  have Bj:128<=b.toNat:=H 0 (by simp) qW;rw[kl b r Bj,qZ r k (by simpa using h) (λj hj a=>H (j+1) (by simp;omega) qW) (by simpa using hb)]
def q7(s:ByteArray)(k:Nat):Prop:=∀j(h:j<s.size),j<k->128<=s[j].toNat
theorem q7.list{s:ByteArray}{k:Nat}(H:q7 s k):∀j(h:j<s.data.toList.length),j<k->128<=(s.data.toList)[j].toNat:=λj h hj=>by
 have:=H j (by simpa using h) hj;rw[Array.getElem_toList];exact this
theorem q7.snoc{s:ByteArray}{k:Nat}(H:q7 s k)(h:k<s.size)(hb:128<=s[k].toNat):q7 s (k+1):=λj hj a=>by
 by_cases e:j=k
 ·subst e;exact hb
 ·exact H j hj qW
theorem xt(s:ByteArray)(k:Nat)(h:k<s.size)(H:q7 s k)(hb:s[k].toNat<128):lead s.data.toList=k:=
 qZ _ k (by simpa using h) H.list (by rw[Array.getElem_toList];exact hb)
theorem ow(s:ByteArray):s.data.toList.length=s.size:=by simp
theorem Ha(s:ByteArray)(H:q7 s s.size):lead s.data.toList=s.size:=
 Nat.le_antisymm (by rw[<-ow];exact Ct _) (xr _ _ (by simp) H.list)
theorem Eo(s:ByteArray)(h:4<s.size)(H:q7 s 5):5<=lead s.data.toList:=xr _ _ (by simp;omega) H.list
theorem Cu(s:ByteArray)(k:Nat)(h:k<s.size):s.data.toList[k]? =some s[k]:=by
 rw[af (by simpa using h)];simp;rfl
theorem L6(s:ByteArray)(k:Nat)(h:k<s.size)(hk:k<=4)(H:q7 s k)(hb:s[k].toNat<128)(hz:s[k].toNat≠0\/k=0)(hv:val (s.data.toList.take (k+1))<=2147483647):
  gX s.data.toList=((val (s.data.toList.take (k+1)):Int),(k:Int)+1,0):=by
 unfold gX;rw[xt s k h H hb,ow,aa qW,aa qW,aa];rw[Cu s k h];rintro(h1|⟨h1,h2⟩)
 ·omega
 ·have:s[k].toNat=0:=by injection h2 with h2;rw[h2];rfl
  omega
theorem Ep(s:ByteArray)(k:Nat)(h:k<s.size)(hk:k<=4)(H:q7 s k)(hb:s[k].toNat=0)(hz:k≠0):gX s.data.toList=(0,0,3):=by
 unfold gX;rw[xt s k h H qW,ow,aa qW,aa qW,ab];rw[Cu s k h];exact .inr ⟨qW,ay some (fw.1 hb)⟩
theorem Hb(s:ByteArray)(k:Nat)(h:k<s.size)(hk:k<=4)(H:q7 s k)(hb:s[k].toNat<128)(hv:2147483647<val (s.data.toList.take (k+1))):gX s.data.toList=(0,0,3):=by
 unfold gX;rw[xt s k h H hb,ow,aa qW,aa qW,ab (.inl hv)]
theorem Er(s:ByteArray)(h:4<s.size)(H:q7 s 5):gX s.data.toList=(0,0,3):=by
 unfold gX;rw[ab (Eo s h H)]
theorem Bk(s:ByteArray)(h:s.size<=4)(H:q7 s s.size):gX s.data.toList=(0,0,5):=by
 unfold gX;rw[Ha s H,ow,aa qW,ab rfl]
theorem Hc(s:ByteArray)(k:Nat)(h:k<s.size)(hk:k<=4):
  bits .or .i64 (val (s.data.toList.take k):Int) (wrap64 ((s[k].toNat:Int)%128*2^(7*k)))=(val (s.data.toList.take (k+1)):Int):=by
 have hl:(s.data.toList.take k).length=k:=by simp;omega
 have e:s.data.toList.take (k+1)=s.data.toList.take k++[s[k]]:=by
  rw[cg (by simpa using h)];rfl
 have hv:=Bi (s.data.toList.take k);rw[hl] at hv;rw[e,G9,hl];have b:(2:Int)^(7*k)=128^k:=by rw[Int.pow_mul];rfl
 have hp:(128:Int)^k<=268435456:=by
  have h:128^k<=128^4:=cO qD hk;have h2:((128^k:Nat):Int)<=268435456:=by omega
  rwa[eo] at h2
 have c:(0:Int)<128^k:=Int.pow_pos qD;have hx:(s[k].toNat:Int)%128*128^k<=127*128^k:=dW qW qW;have d:0<=(s[k].toNat:Int)%128*128^k:=Int.mul_nonneg qW qW;have a:(val (s.data.toList.take k):Int)<128^k:=by
  have:((val (s.data.toList.take k):Nat):Int)<((128^k:Nat):Int):=by omega
  rwa[eo] at this
 rw[b,IntWalk.wrap64_in _ ⟨qW,qW⟩,L5 _ _ k hk qW a qW qW];rw[dw,ej,eo];rfl
def ja(l:BS):Int:=l.foldl (λh c=>(h*257+c.toNat+1)%2147483647) 0
theorem uw(l:BS)(c:UInt8):ja (l++[c])=(ja l*257+c.toNat+1)%2147483647:=by
 simp[ja]
theorem ox(l:BS):0<=ja l/\ja l<2147483647:=by
 rcases fA l with rfl|⟨r,c,rfl⟩
 ·exact⟨qD,qD⟩
 ·rw[fB,uw];omega
theorem kJ(s:ByteArray)(k:Nat)(h:k<s.size):s.data.toList.take (k+1)=s.data.toList.take k++[s[k]]:=by
 rw[cg (by simpa using h)];rfl
theorem L7{k:IntKind}{a b:Int}(h:a=b):Ending.returned (.int k a)=.returned (.int k b):=by rw[h]
theorem Tryz.Es:(Tryz.prog.info? 5).map (λi=>(i.zero,i.size,i.bytes))=some (some (.int .u8 0),1,1):=by kernel_rfl
structure xu(P:Program)(T e:TypeId)(z:Value)(size bytes:Nat):Prop where
 under:P.underlying T=some (.slice e)
 info:(P.info? e).map (λi=>(i.zero,i.size,i.bytes))=some (some z,size,bytes)
 cells:z.cells.size=size
 pos:0<size
 TL:0<bytes
section
variable {P:Program} {T e:TypeId} {z:Value} {size bytes:Nat}
theorem y3{w w':World}{base n:Nat}{v:Value}{xs:List Value}(hown:w.ownsRow base e size v n xs)(hg:w.grownBy w' v.ownBlock)(hb:base<=w.heap.size):Below base w w':=
 (Below.refl base w).grown hg hb (λk hk=>(hown.lt k hk).1)
theorem Bl(E:xu P T e z size bytes){w:World}{ops:Array Oper}{rest:List Oper}{o:Oper}{a:Act}{Q:Exit->Act->World->Prop}(g:o.guard=none)(s x:Operand)
  (ho:o.op=.call {callee:=.builtin .append,args:= #[s,x],argTypes:= #[T,T]})
  {base n:Nat}{v:Value}{xs:List Value}(hs:a.eval s=v)(hown:w.ownsRow base e size v n xs)
  {ad:Addr}{m c:Nat}{news:List Value}(hx:a.eval x=.slice (some ad) m c)(hl:news.length=m*size)(f:∀j u,news[j]? =some u->w.cell? (ad.add j)=some u)(h1:∀u∈news,u.oneCell'=true)
  (b:(n+m)*bytes<=140737488355328)(d:base<=w.heap.size)
  (h:∀v' w',w'.ownsRow base e size v' (n+m) (xs++news)->Below base w w'->w.grownBy w' v.ownBlock->wpList P ops Q rest (a.put o.dst v') w'):wpList P ops Q (o::rest) a w:=by
 obtain⟨i,hi,hz,hsz,k⟩:=info_parts E.info;have l:n+m<=maxLen:=by
  have:=aV (dD (n+m) E.TL) b;simp only[maxLen];omega
 exact wpList_append_own w g s x T ho base e i z size bytes E.under hi hz hsz k E.cells E.pos v n xs hs hown ad m c news hx hl f h1 l b d
  (λv' w' h2 h3 _=>h v' w' h2 (y3 hown h3 d) h3)
theorem sN(E:xu P T e z size bytes){w:World}{cs:Array Value}{ops:Array Oper}{rest:List Oper}{o:Oper}{a:Act}{Q:Exit->Act->World->Prop}(d:o.guard=none)(s x:Operand)
  (ho:o.op=.call {callee:=.builtin .append,args:= #[s,x],argTypes:= #[T,T]})
  {base n:Nat}{v:Value}{xs:List Value}(hs:a.eval s=v)(hown:w.ownsRow base e size v n xs)
  (hx:a.eval x=.slice (some ⟨w.heap.size,0,none⟩) 1 1)(hl:cs.size=size)(h1:cs.toList.all (·.oneCell')=true)
  (b:(n+1)*bytes<=140737488355328)(c:base<=w.heap.size)
  (h:∀v' w',w'.ownsRow base e size v' (n+1) (xs++cs.toList)->Below base w w'->w.grownBy w' v.ownBlock->wpList P ops Q rest (a.put o.dst v') w'):wpList P ops Q (o::rest) a (w.alloc (.cells cs e)):=by
 refine Bl E d s x ho hs (hown.alloc _) hx (news:=cs.toList) (by simp[hl]) (λj u hj=>?_) (λu hu=>?_) b (by simp;omega) (λv' w' h2 h3 h4=>?_)
 ·rw[Addr.add_lit,aW,World.cell?_alloc_new];simpa using hj
 ·exact(aF.1 h1) u hu
 ·exact h v' w' h2 (((Below.refl base w).alloc c _).trans h3) ⟨h4.os,h4.tape,h4.output,aV (by simp) h4.size,λk hk hne=>(h4.block k (by simp;omega) hne).trans (Below.heap_alloc w _ k hk)⟩
end
def BW(B:Nat)(w:World):Type:= {x:World//Below B w x}
def BW.val{B:Nat}{w:World}(x:BW B w):World:=Subtype.val x
theorem BW.below{B:Nat}{w:World}(x:BW B w):Below B w x.val:=Subtype.property x
theorem BW.ne(B:Nat)(w:World):Nonempty (BW B w):=⟨⟨w,Below.refl _ _⟩⟩
theorem BW.call{P:Program}{f:FuncId}{args:Array Value}{B:Nat}{w:World}{x:BW B w}{v:Value}(hB:B<=w.heap.size)
  (h:Calls P f args x.val λe w'=>e=.returned v/\Below x.val.heap.size x.val w'):Calls P f args x.val λe a=>e=.returned v/\∃y:BW B w,a=y.val:=
 h.mono λ_ w'⟨he,hb⟩=>⟨he,⟨w',x.below.trans (hb.mono (aV hB x.below.size))⟩,rfl⟩
section
variable {w:World} {g b o:Nat} {T:TypeId} {cs:Array Value} {s:Option Nat} {v:Value}
@[go_sem,simp] theorem S5:(w.ob g T cs).heap.size=w.heap.size:=by simp[World.ob]
theorem q8(h:g<w.heap.size):(w.ob g T cs).heap[g]? =some (.cells cs T (0,0)):=by simp[World.ob,h]
theorem mH(h:b≠g):(w.ob g T cs).heap[b]? =w.heap[b]? :=by
 simp only[World.ob,bp];rw[aa (λe=>h e.symm)]
@[go_sem] theorem K6 (h:g<w.heap.size):(w.ob g T cs).cell? ⟨g,o,none⟩=cs[o]? :=by
 simp[World.cell?,q8 h]
@[go_sem] theorem Hd {sp} (h:b≠g):(w.ob g T cs).cell? ⟨b,o,sp⟩=w.cell? ⟨b,o,sp⟩:=by
 simp[World.cell?,mH h]
@[go_sem] theorem FB {sp}:(w.ob g T cs).frozen? ⟨g,o,sp⟩=false:=by
 by_cases h:g<w.heap.size
 ·simp[World.frozen?,q8 h]
 ·have:(w.ob g T cs).heap[g]? =none:=by rw[cY];simp;omega
  simp[World.frozen?,this]
@[go_sem] theorem Et {sp} (h:b≠g):(w.ob g T cs).frozen? ⟨b,o,sp⟩=w.frozen? ⟨b,o,sp⟩:=by
 simp[World.frozen?,mH h]
@[go_sem] theorem FC:(w.ob g T cs).setCell ⟨g,o,none⟩ v=w.ob g T (cs.setIfInBounds o v):=by
 simp only[World.ob,World.setCell]
 congr 1
 apply eI;intro i;simp only[bA,bp,Array.size_setIfInBounds]
 by_cases h:g=i
 ·subst h
  by_cases hs:g<w.heap.size<;>simp[hs]
 ·simp[h]
@[go_sem] theorem Eu {sp} (h:b≠g):(w.ob g T cs).setCell ⟨b,o,sp⟩ v=(w.setCell ⟨b,o,sp⟩ v).ob g T cs:=by
 simp only[World.ob,World.setCell]
 congr 1
 apply eI;intro i;simp only[bA,bp,Array.size_modify]
 by_cases h1:g=i
 ·subst h1;simp[h]
 ·simp[h1]
@[go_sem] theorem S6:w.drew.ob g T cs=(w.ob g T cs).drew:=rfl
@[go_sem] theorem RB {n:Nat}:(w.drewN n).ob g T cs=(w.ob g T cs).drewN n:=rfl
@[go_sem] theorem K7 {n:Nat} {a:Addr}:(w.drewN n).setCell a v=(w.setCell a v).drewN n:=rfl
@[go_sem] theorem OR {n:Nat} {x:Obj}:(w.drewN n).alloc x=(w.alloc x).drewN n:=rfl
theorem L8(h:w.heap[g]? =some (.cells cs T (0,0))):w.ob g T cs=w:=by
 obtain⟨hlt,he⟩:=aA.1 h;have:w.heap.setIfInBounds g (.cells cs T (0,0))=w.heap:=by
  apply eI;intro i;rw[bp]
  by_cases e:g=i
  ·subst e;simp[hlt,he]
  ·rw[aa e]
 simp[World.ob,this]
end
theorem He{B:Nat}{a w:World}(h:Below B a w){g:Nat}(hg:B<=g)(T:TypeId)(cs:Array Value):Below B a (w.ob g T cs):=
 h.trans ⟨rfl,rfl,rfl,by simp,λk hk=>mH qW⟩
@[go_sem] theorem K8 {w:World} {x:Obj} {n:Nat} (h:n=w.heap.size):(w.alloc x).heap[n]? =some x:=by subst h;exact heap_alloc_new w x
@[go_sem] theorem FD {w:World} {x:Obj} {n:Nat} (h:n<w.heap.size):(w.alloc x).heap[n]? =w.heap[n]? :=Below.heap_alloc w x n h
theorem U0{B:Nat}{W w1:World}(hb:Below B W w1){g0:Nat}{a:TypeId}{b:Array Value}(h0:g0<B)(c:W.heap[g0]? =some (.cells b a (0,0))):
  ∃w2,w1=w2.ob g0 a b/\Below B W w2:=
 ⟨w1,(L8 ((hb.block _ h0).trans c)).symm,hb⟩
theorem L9(n:Int)(w:World)(h:n<0\/2147483647<n):
  Calls Tryz.prog 134 #[.int .i64 n] w λe w'=>e=.returned (.tuple #[.string ⟨#[]⟩,.int .i64 1])/\w=w':=by
 rcases(show n<0\/(0<=n/\2147483647<n) by omega) with h1|⟨h1,h2⟩
 all_goals
  clear h
  go_enter Tryz.func134,Tryz.ntmps134
  go_wp2_with fail
  go_ret2
  exact⟨rfl,rfl⟩
theorem Hf(w:World)(base:Nat)(v:Value)(l:BS)(h:w.ownsRow base 5 1 v l.length (lQ l))(hl:0<l.length):
  (convert 53 9 v).run Tryz.prog w=.ok (.string ⟨l.toArray⟩) w:=by
 obtain⟨h1,h2⟩:=h
 rcases h2 with⟨_,h0⟩|⟨g,cap,cur,rfl,hg,hh,hn,jD,hsz,a⟩
 ·omega
 ·refine run_convert_bytes_back (P:=Tryz.prog) w 53 9 5 ⟨g,0,none⟩ cap l Tryz.underlying53 Tryz.underlying5 Tryz.underlying9 (λj hj=>?_);have hc:=World.ownsRow.cells (w:=w) (base:=base) (e:=5) (size:=1) (v:=.slice (some ⟨g,0,none⟩) l.length cap) (n:=l.length) (xs:=lQ l) ⟨h1,.inr ⟨g,cap,cur,rfl,hg,hh,hn,jD,hsz,a⟩⟩ (g:=g) rfl j (.int .u8 (l[j].toNat:Int)) (by simp[lQ,hj]);exact hc
theorem Tryz.wa:xu Tryz.prog 53 5 (.int .u8 0) 1 1:=⟨Tryz.underlying53,Tryz.Es,rfl,qD,qD⟩
set_option maxRecDepth 100000 in
set_option maxHeartbeats 1000000 in
theorem PQ(n:Int)(w:World)(h0:0<=n)(h1:n<=2147483647):
  Calls Tryz.prog 134 #[.int .i64 n] w λe w'=>e=.returned (.tuple #[.string ⟨(ij n.toNat).toArray⟩,.int .i64 0])/\Below w.heap.size w w':=by
 go_enter Tryz.func134,Tryz.ntmps134
 go_wp2_with fail
 go_loopw [0,4] (λm v wr=>∃(k:Nat)(xs:BS)(g:Nat),(k:Int)<=2147483647/\m=.int .i64 k/\wr.ownsRow w.heap.size 5 1 v xs.length (lQ xs)/\Below w.heap.size w wr/\xs.length+g=4/\k<128^(g+1)/\Hid (ij n.toNat=xs++pJ (g+1) k)) (λm _ _=>(intOf m).toNat)
 case atStart=>exact⟨n.toNat,[],4,qW,by rw[Int.toNat_of_nonneg h0],World.ownsRow_nil _ _ _ _,Below.refl _ _,rfl,qW,rfl⟩
 case round=>
  obtain⟨k,xs,g,hk,rfl,hown,hb,hg,TM,HN⟩:=hrel;have XN:xs.length<=4:=by omega
  by_cases hlt:k<128
  ·have hs1:(k:Int)<128:=by omega
   have HF:=Lib.hid (jm g k hlt);have XO:=hb.size;clear TM
   go_wp2_with (at_builtin;go_must (refine sN Tryz.wa rfl (.tmp 21) (.tmp 24) rfl rfl hown rfl rfl rfl qW hb.size ?_);intro v1 w1 hown1 hb1 hg1;have hcv:=Hf w1 w.heap.size v1 (xs++[bt k]) (by simpa[pS,ov k qW] using hown1) (by simp))
   go_ret2
   exact⟨by rw[HN.out,HF.out];rfl,hb.trans hb1⟩
  ·have XP:=RA k;have HF:=Lib.hid (lP g k hlt);have hs1:(128:Int)<=k:=by omega
   have hg0:g≠0:=by
    rintro rfl;omega
   obtain⟨g',rfl⟩:∃g',g=g'+1:=⟨g-1,qW⟩;have HK:Hid (k/128<128^(g'+1)):=by
    show _<_;rw[eD] at TM;exact eg qW
   have HG:Hid (xs.length+(g'+1)=4):=hg;clear TM hg hg0
   go_wp2_with (at_builtin;refine sN Tryz.wa rfl (.tmp 13) (.tmp 17) rfl rfl hown rfl rfl rfl qW hb.size ?_;intro v1 w1 hown1 hb1 hg1)
   go_roundw
   case rel=>exact⟨k/128,xs++[bt (128+k%128)],g',qW,by go_num,by simpa[pS,ov (128+k%128) qW] using hown1,hb.trans hb1,by have:=HG.out;simp;omega,HK.out,by show _=_;rw[HN.out,HF.out];simp⟩
   case measure=>simp[intOf];omega
set_option maxRecDepth 100000 in
set_option maxHeartbeats 1000000 in
theorem Ma(s:ByteArray)(w:World)(hs:s.size<=maxLen):
  Calls Tryz.prog 261 #[.string s] w λe w'=>e=.returned (.tuple #[.int .i64 (gX s.data.toList).1,.int .i64 (gX s.data.toList).2.1,.int .i64 (gX s.data.toList).2.2])/\w=w':=by
 unfold maxLen at hs
 go_enter Tryz.func261,Tryz.ntmps261
 go_wp2
 go_loop [5,10] (λn i=>∃k:Nat,k<=s.size/\k<=4/\i=.int .i64 k/\n=.int .i64 (val (s.data.toList.take k))/\q7 s k) (λ_ i=>s.size-(intOf i).toNat)
 case atStart=>exact⟨0,bc _,qW,rfl,rfl,λj h hj=>by omega⟩
 case round=>
  obtain⟨k,hk,hk4,rfl,rfl,HH⟩:=hrel
  by_cases hlt:k<s.size
  ·have RC:s[k].toNat<256:=s[k].toNat_lt;have V1:=i64_and127 (s[k].toNat:Int);have hN:=Hc s k hlt hk4;have RD:val (s.data.toList.take (k+1))<34359738368:=by
    have h1:=Bi (s.data.toList.take (k+1));have h2:(s.data.toList.take (k+1)).length<=5:=by simp;omega
    have h3:=cO (show 0<128 by decide) h2;omega
   by_cases hb:s[k].toNat<128
   ·by_cases hz:s[k].toNat=0/\k≠0
    ·have HF:=Lib.hid (Ep s k hlt hk4 HH hz.1 hz.2);have t1:((s[k].toNat:Int)==0)=true:=by rw[dh];omega
     have t2:(0:Int)<k:=by omega
     clear hz
     generalize val (s.data.toList.take (k+1))=N at hN RD
     go_wp2
     go_ret3
     exact⟨by rw[HF.out];rfl,rfl⟩
    ·by_cases hv:val (s.data.toList.take (k+1))<=2147483647
     ·have HF:=Lib.hid (L6 s k hlt hk4 HH hb qW hv)
      generalize val (s.data.toList.take (k+1))=N at hN RD HF hv
      by_cases h0:s[k].toNat=0
      ·have U1:k=0:=by omega
       subst U1;have V2:Hid (gX s.data.toList=((N:Int),1,0)):=HF.out;have t1:((s[0].toNat:Int)==0)=true:=by rw[dh];omega
       have XQ:bits BinOp.or IntKind.i64 (val []:Int) ((s[0].toNat:Int)%128)=(N:Int):=by
        rw[<-hN];have e:((s[0].toNat:Int)%(128:Int)*(2:Int)^(7*0))=(s[0].toNat:Int)%(128:Int):=by simp
        rw[e,IntWalk.wrap64_in _ ⟨qW,qW⟩];rfl
       clear hz h0 HF hN
       go_wp2
       go_ret3
       exact⟨by rw[V2.out];rfl,rfl⟩
      ·have t1:((s[k].toNat:Int)==0)=false:=by rw[ew];omega
       clear hz h0
       go_wp2
       go_ret3
       exact⟨by rw[HF.out];rfl,rfl⟩
     ·have HF:=Lib.hid (Hb s k hlt hk4 HH hb qW)
      by_cases h0:s[k].toNat=0
      ·have U1:k=0:=by omega
       have h1:=Bi (s.data.toList.take (k+1));have h2:(s.data.toList.take (k+1)).length<=1:=by simp;omega
       have h3:=cO (show 0<128 by decide) h2;omega
      ·have t1:((s[k].toNat:Int)==0)=false:=by rw[ew];omega
       generalize val (s.data.toList.take (k+1))=N at hN RD HF hv
       clear hz h0
       go_wp2
       go_ret3
       exact⟨by rw[HF.out];rfl,rfl⟩
   ·have HS:=Lib.hid (HH.snoc hlt qW)
    by_cases h4:k=4
    ·have HF:=Lib.hid (Er s qW (by have:=HS.out;rwa[h4] at this));have t1:((k:Int)==4)=true:=by rw[dh];omega
     clear h4
     generalize val (s.data.toList.take (k+1))=N at hN RD
     go_wp2
     go_ret3
     exact⟨by rw[HF.out];rfl,rfl⟩
    ·have t1:((k:Int)==4)=false:=by rw[ew];omega
     have hk3:k<=3:=by omega
     clear h4
     generalize hV:val (s.data.toList.take (k+1))=N at hN RD
     have HV:=Lib.hid hV;clear hV
     go_wp2
     go_round
     case rel=>exact⟨k+1,qW,qW,by go_num,ay _ (ay _ HV.out.symm),HS.out⟩
     case measure=>simp[intOf];omega
  ·have HF:=Lib.hid (Bk s qW (λj hj _=>HH j hj qW))
   go_wp2
   go_ret3
   exact⟨by rw[HF.out];rfl,rfl⟩
end Go.Proofs.YtajdadcdcpnedaaGreatDoor
namespace Go.Proofs.YtajdadcdcpnedaaGreatDoor.AM
open Go Go.RowKit
theorem sa{f:Value->Prop}{F B:Nat->Prop}{w:World}{us:Array Value}{v:V}{u0:Value}(hl:us.size=[v].length)(hr:∀(i:Nat)(x:V)(u:Value),[v][i]? =some x->us[i]? =some u->Rel F B w x u)(h:∀u,Rel F B w v u->u=u0):us= #[u0]:=by
 match us,hl with
 |⟨[u]⟩,_=>
  have:=h u (hr 0 v u rfl rfl);rw[this]
theorem xv{F B:Nat->Prop}{w:World}{k:IntKind}{n:Int}{u:Value}(h:Rel F B w (.int k n) u):u=.int k n:=by cases h;rfl
theorem xw{F B:Nat->Prop}{w:World}{l:BS}{u:Value}(h:Rel F B w (.str l) u):u=.string ⟨l.toArray⟩:=by cases h;rfl
def pK(n:Int):BS×Int:=if n<0\/2147483647<n then([],1) else(ij n.toNat,0)
theorem po(w:World):Below w.heap.size w w:=by(repeat(first|(with_reducible exact Below.refl _ _)|(with_reducible assumption)|(with_reducible refine Below.drew ?_)|(with_reducible refine below_drewN ?_ _)|((with_reducible refine Below.alloc ?_ ?_ _);rotate_left;(focus(first|omega|(simp;done)|(simp;omega))))|((with_reducible refine Below.setCell ?_ ?_ _);rotate_left;(focus(first|omega|(simp;done)|(simp;omega))))|((with_reducible refine He ?_ ?_ _ _);rotate_left;(focus(first|omega|(simp;done)|(simp;omega))))))
theorem Cv(n:Int):Spec Tryz.prog 134 [.int .i64 n] Hp.emp (Is (.tup [.str (pK n).1,.int .i64 (pK n).2])):=
 jJ (us0:= #[.int .i64 n]) ⟨Tryz.f134,Tryz.func134,by decide+kernel,aS.1 (by decide+kernel)⟩
  (λF B w us hl hr=>sa (f:=λ_=>True) hl hr λu h=>xv h)
  (u0:=.tuple #[.string ⟨(pK n).1.toArray⟩,.int .i64 (pK n).2])
  (λF B w=>.tup _ _ rfl λi v u hv hu=>by
   match i with
   |0=>simp at hv hu;subst hv hu;exact .str _
   |1=>simp at hv hu;subst hv hu;exact .int _ _
   |i+2=>simp at hv)
  (λw=>by
   unfold pK
   split
   ·rename_i h;refine(L9 n w h).mono ?_;rintro e w' ⟨rfl,rfl⟩;exact⟨rfl,po _⟩
   ·rename_i h;exact PQ n w qW qW)
theorem Mb{F B:Nat->Prop}{w:World}(a b c:Int):Rel F B w (.tup [.int .i64 a,.int .i64 b,.int .i64 c]) (.tuple #[.int .i64 a,.int .i64 b,.int .i64 c]):=.tup _ _ rfl λi v u hv hu=>by
 match i with
 |0=>simp at hv hu;subst hv hu;exact .int _ _
 |1=>simp at hv hu;subst hv hu;exact .int _ _
 |2=>simp at hv hu;subst hv hu;exact .int _ _
 |i+3=>simp at hv
theorem Cw(s:BS)(hs:s.length<=maxLen):Spec Tryz.prog 261 [.str s] Hp.emp (Is (.tup [.int .i64 (gX s).1,.int .i64 (gX s).2.1,.int .i64 (gX s).2.2])):=
 jJ (us0:= #[.string ⟨s.toArray⟩]) ⟨Tryz.f261,Tryz.func261,by decide+kernel,aS.1 (by decide+kernel)⟩
  (λF B w us hl hr=>sa (f:=λ_=>True) hl hr λu h=>xw h) (λF B w=>Mb _ _ _)
  (λw=>by
   refine(Ma ⟨s.toArray⟩ w (by simpa[ByteArray.size] using hs)).mono ?_;rintro e w' ⟨rfl,rfl⟩;exact⟨rfl,po _⟩)
theorem ko(n:Nat):(ij n).length<=5:=qY 5 n
theorem oy{s:BS}(h:(gX s).2.2=0):∃k:Nat,(gX s).2.1=k/\0<k/\k<=s.length/\k<=5/\0<=(gX s).1/\(gX s).1<=2147483647/\ij (gX s).1.toNat=s.take k:=by
 unfold gX at h⊢
 by_cases h1:5<=lead s
 ·rw[ab h1] at h;exact absurd h qD
 rw[aa h1] at h⊢
 by_cases h2:lead s=s.length
 ·rw[ab h2] at h;exact absurd h qD
 rw[aa h2] at h⊢
 by_cases h3:2147483647<val (s.take (lead s+1))\/(0<lead s/\s[lead s]? =some 0)
 ·rw[ab h3] at h;exact absurd h qD
 rw[aa h3];have hle:=Ct s;have hlt:lead s<s.length:=by omega
 refine⟨lead s+1,by simp,qW,qW,qW,bK _,by simp only[];omega,?_⟩;have hw:=v8 s hlt;have hl:(s.take (lead s+1)).length=lead s+1:=by rw[aE];omega
 have hg:(s.take (lead s+1)).getLast? =s[lead s]? :=by
  rw[List.getLast?_eq_getElem?,hl,aZ,ab qW];rfl
 have:=(yZ 5 hw qW).2 (by
  rw[hl,hg]
  by_cases h0:lead s=0
  ·left;omega
  ·right;intro g;exact h3 (.inr ⟨qW,g⟩))
 simpa[ij] using this
set_option maxRecDepth 100000
set_option maxHeartbeats 2000000
def lR(p:Part):BS:=ij (4*(p.n+p.text.length)+p.kind).toNat++p.text
def codeF(d:List Part):BS:=ij d.length++(d.map lR).flatten
def Bm:Nat->BS->List Part->Option (BS×List Part)
 |0,s,out=>some (s,out)
 |n+1,s,out=>if(gX s).2.2≠0 then none
  else if(gX s).1%4=2 then(if((s.drop (gX s).2.1.toNat).length:Int)<(gX s).1/4 then none else Bm n ((s.drop (gX s).2.1.toNat).drop ((gX s).1/4).toNat) (out++[⟨2,0,(s.drop (gX s).2.1.toNat).take ((gX s).1/4).toNat⟩]))
  else Bm n (s.drop (gX s).2.1.toNat) (out++[⟨(gX s).1%4,(gX s).1/4,[]⟩])
def oz(s:BS):Option (BS×List Part):=if(gX s).2.2≠0 then none else Bm (gX s).1.toNat (s.drop (gX s).2.1.toNat) []
def kY(s:BS):List Part×Int:=match oz s with
 |none=>([],3)
 |some (r,d)=>if r=[]/\cR d=0 then(d,0) else([],3)
def Cx:AC:=qr [qo 2 (.mov (.c qe))] (qr [qm 6 0,qa 7 134 [.t 6],qm 5 7,qx 8 0 5,qx 9 1 5,qm 3 8,qm 4 9] (qr [qm 10 3,qm 2 10] .ret))
theorem Mc:fF Tryz.prog 189 Tryz.f189 Cx [.t 2] 1 dS:=⟨Tryz.func189,by decide+kernel,by kernel_rfl,by kernel_rfl,by decide+kernel⟩
theorem Md(P:Prim)(hP:P=cp)(T b:cm)(n e:Int)(s:BS)(h1:hJ T 134 [qI n] (.tup [.str s,qI e]))
  (R:S->Prop)(c:∀a s',cd a s'->ia [.t 2] [.str s] s'->R a):gE P T b Cx (S0 [qI n] Hp.emp) R (λ_ _=>False) R:=by
 cbv;refine h1 _ _ ?_;cbv;exact c _ _ (cd.refl _) rfl
theorem Cy(n:Int):Spec Tryz.prog 189 [.int .i64 n] Hp.emp (Is (.str (pK n).1)):=
 ed hW Mc [.str (pK n).1] (.str _) λR a=>Md cp rfl _ _ n _ _ (gK (Cv n) (λ_=>fX rfl) rfl) R a
def wb:AC:=qr [qo 2 (.mov (.c qe)),qz 3 0] (qq (qr [qm 8 0,qa 9 187 [.t 8],qm 4 9] (qr [qm 10 4,qc 11 .neq 10 0] (qu 11 (qr [qm 12 4,qo 2 (.mov (.c qe)),qm 3 12] .ret) .skip))) (qr [qm 13 0,qo 14 (.len false (.t 13)),qa 15 189 [.t 14],qm 5 15] (qq (qr [qm 16 0,qo 17 (.len false (.t 16)),qz 18 0] (.block 0 (.loop (qr [qb 19 .lss 18 17] (qq (qu 19 .skip (.exit 0)) (qq (.block 1 (qr [qo 20 (.iaddr 3 (.t 16) (.t 18)),qd 21 3 20,qo 7 (.alloc 41 yb),qs 3 7 21] (qr [qf 22 0 7,ql 23 22,qc 24 .eql 23 2] (qu 24 (.region true [qm 25 5,qf 26 2 7,ql 27 26,qo 28 (.len true (.t 27)),qo 29 (.bin .mul (qk 4) (.t 28)),qc 30 .add 29 2,qa 31 189 [.t 30],qf 32 2 7,ql 33 32,qb 34 .add 31 33,qb 35 .add 25 34,qm 5 35]) (qR [qm 36 5,qf 37 1 7,ql 38 37,qo 39 (.bin .mul (qk 4) (.t 38)),qf 40 0 7,ql 41 40,qb 42 .add 39 41,qa 43 189 [.t 42],qb 44 .add 36 43,qm 5 44]))))) (qR [qc 45 .add 18 1,qm 18 45]))))))) (qr [qm 46 5,qm 2 46,qz 3 0] .ret))))
theorem Ew:fF Tryz.prog 129 Tryz.f129 wb [.t 2,.t 3] 1 dS:=⟨Tryz.func129,by decide+kernel,by kernel_rfl,by kernel_rfl,by decide+kernel⟩
structure V3(d:List Part)(a:BS) where
 k:Int
 pre:List Part
 rest:List Part
 o:BS
 hd:d=pre++rest
 hk:k=(pre.length:Int)
 ho:o=a++(pre.map lR).flatten
 K5:o.length<=5+505*pre.length
theorem Ex(P:Prim)(hP:P=cp)(T L:cm)(B:Bool)(d:List Part)(rows:List (List V))(hrows:rows=d.map a7)(c:Int)(b:Int->BS)
  (h1:hJ T 187 [.sl B 3 rows] (qI c))(hc:c=0->d.length<=1600/\∀p∈d,nR p)
  (h2:∀n,0<=n->n<=100000->hJ T 189 [qI n] (.str (b n)))(h3:∀n,0<=n->n<=100000->hJ L 189 [qI n] (.str (b n)))
  (l:∀n,0<=n->n<=100000->b n=ij n.toNat)(r:BS)(C:Int)(g1:c≠0->[]=r/\c=C)(g2:c=0->codeF d=r/\0=C)
  (R:S->Prop)(M:∀N s' x y,x=r/\y=C->cd N s'->ia [.t 2,.t 3] [.str x,qI y] s'->R N):gE P T L wb (S0 [.sl B 3 rows] Hp.emp) R (λ_ _=>False) R:=by
 have e:P.cF rows=(d.length:Int):=by rw[hX hP,hrows];simp
 cbv;refine h1 _ _ ?_;clear h1;cbv;refine a6 (λh=>?_) (λh=>?_)
 ·have hx:=g1 (iG hP h);cbv;exact M _ _ _ _ hx (cd.refl _) rfl
 have hz:=iy hP h;obtain⟨O,q⟩:=hc hz;obtain⟨s,D⟩:=g2 hz;have f1:=h2 (P.cF rows) (by rw[e];exact bK _) (by rw[e];((try simp only[nc] at*);omega));have u:b (P.cF rows)=ij d.length:=by rw[l _ (by rw[e];exact bK _) (by rw[e];((try simp only[nc] at*);omega)),e];rfl
 clear g1 g2 h hc;cbv;refine f1 _ _ ?_;cbv;refine⟨V3 d (ij d.length),λy=>[(5,.str y.o),(16,.sl B 3 rows),(17,qI (P.cF rows)),(18,qI y.k)],λy=>[],λy=>y.rest.length,
  ⟨_,cd.refl _,⟨0,[],d,b (P.cF rows),rfl,rfl,by rw[u];simp,by rw[u];have:=ko d.length;simp;omega⟩,⟨rfl,rfl,rfl,rfl,trivial⟩,trivial⟩,?_⟩
 rintro⟨k,pre,rest,o,hd,hk,ho,K5⟩;have U:P.b5 o=(o.length:Int):=by subst hP;rfl
 replace hk:k=(pre.length:Int):=hk
 have m:pre.length+rest.length=d.length:=by rw[hd];simp
 cbv;refine a6 (λh=>?_) (λh=>?_)
 ·have h6:k<P.cF rows:=gM hP h;rw[e] at h6
  rcases rest with _|⟨⟨kd,a,tx⟩,rest⟩
  ·exfalso;simp at m;((try simp only[nc] at*);omega)
  have v:P.row rows (P.nat k) [qI kd,qI a,.str tx]:=gz hP hk (by rw[hrows,aw,hd];simp[a7]);have hp:=gU (q ⟨kd,a,tx⟩ (by rw[hd];simp));obtain⟨E,F,G,w⟩:=hp;simp only[] at E F G w;have k1:P.fK 0 k:=iJ hP qO;have X:P.i64 (P.add k 1):=by rw[add_eq hP];exact fm hP qO
  have Q:P.add k 1=(((pre++[(⟨kd,a,tx⟩:Part)]).length:Nat):Int):=by rw[add_eq hP,hk];simp
  have A:P.b5 tx=(tx.length:Int):=by subst hP;rfl
  cbv;refine⟨k1,_,v,?_⟩;cbv;intro β;cbv
  by_cases hk2:kd=2
  ·have e1:P.add (P.mul 4 (P.b5 tx)) 2=4*(tx.length:Int)+2:=by rw[add_eq hP,A];subst hP;rfl
   have i1:P.i64 (P.mul 4 (P.b5 tx)):=by rw[A];subst hP;show kA (4*(tx.length:Int));unfold kA;omega
   have i2:P.i64 (P.add (P.mul 4 (P.b5 tx)) 2):=by rw[e1];exact fm hP qW
   have f2:=h3 (P.add (P.mul 4 (P.b5 tx)) 2) (by rw[e1];omega) (by rw[e1];omega);have i:=l (P.add (P.mul 4 (P.b5 tx)) 2) (by rw[e1];omega) (by rw[e1];omega);have H:a=0:=by omega
   have hpl:(b (P.add (P.mul 4 (P.b5 tx)) 2)).length<=5:=by rw[i];exact ko _
   have f:∀x:BS,P.b5 x=(x.length:Int):=by intro x;subst hP;rfl
   have j:∀x y:BS,(P.iE x y).length=x.length+y.length:=by intro x y;subst hP;exact ae
   have Y:P.i64 (P.add (P.b5 (b (P.add (P.mul 4 (P.b5 tx)) 2))) (P.b5 tx)):=by have hq:=hpl;generalize b (P.add (P.mul 4 (P.b5 tx)) 2)=z at hq⊢;rw[add_eq hP,f z,f tx];exact fm hP qO
   have W:P.i64 (P.add (P.b5 o) (P.b5 (P.iE (b (P.add (P.mul 4 (P.b5 tx)) 2)) tx))):=by have hq:=hpl;generalize b (P.add (P.mul 4 (P.b5 tx)) 2)=z at hq⊢;rw[add_eq hP,f o,f,j];exact fm hP qO
   have I:(P.iE o (P.iE (b (P.add (P.mul 4 (P.b5 tx)) 2)) tx)).length<=5+505*(pre++[(⟨kd,a,tx⟩:Part)]).length:=by rw[j,j];simp;omega
   have J:P.iE o (P.iE (b (P.add (P.mul 4 (P.b5 tx)) 2)) tx)=ij d.length++((pre++[(⟨kd,a,tx⟩:Part)]).map lR).flatten:=by
    rw[i,e1,ho];subst hP;show(_++_)++(_++tx)=_;simp[lR,H,hk2]
   refine gj (p8 hP hk2) ?_;cbv
   repeat' first|(refine And.intro (by assumption) ?_;cbv)|(intro β;cbv)
   refine f2 _ _ ?_;cbv
   repeat' first|(refine And.intro (by assumption) ?_;cbv)|(intro β;cbv)
   exact⟨_,cd.refl _,⟨_,pre++[⟨kd,a,tx⟩],rest,_,by simp[hd],Q,J,I⟩,⟨rfl,rfl,rfl,rfl,trivial⟩,trivial,by simp⟩
  ·have K:tx=[]:=by rcases w with g|g;exact absurd g.1 hk2;exact g.2.2
   have e1:P.add (P.mul 4 a) kd=4*a+kd:=by rw[add_eq hP];subst hP;rfl
   have i1:P.i64 (P.mul 4 a):=by subst hP;show kA (4*a);unfold kA;omega
   have i2:P.i64 (P.add (P.mul 4 a) kd):=by rw[e1];exact fm hP qW
   have f2:=h2 (P.add (P.mul 4 a) kd) (by rw[e1];omega) (by rw[e1];omega);have i:=l (P.add (P.mul 4 a) kd) (by rw[e1];omega) (by rw[e1];omega);have hpl:(b (P.add (P.mul 4 a) kd)).length<=5:=by rw[i];exact ko _
   have f:∀x:BS,P.b5 x=(x.length:Int):=by intro x;subst hP;rfl
   have j:∀x y:BS,(P.iE x y).length=x.length+y.length:=by intro x y;subst hP;exact ae
   have W:P.i64 (P.add (P.b5 o) (P.b5 (b (P.add (P.mul 4 a) kd)))):=by rw[add_eq hP,f,f];exact fm hP qO
   have I:(P.iE o (b (P.add (P.mul 4 a) kd))).length<=5+505*(pre++[(⟨kd,a,tx⟩:Part)]).length:=by rw[j];simp;omega
   have J:P.iE o (b (P.add (P.mul 4 a) kd))=ij d.length++((pre++[(⟨kd,a,tx⟩:Part)]).map lR).flatten:=by
    rw[i,e1,ho];subst hP;show(_++_)++_=_;simp[lR,K]
   refine eB (p9 hP hk2) ?_;cbv
   repeat' first|(refine And.intro (by assumption) ?_;cbv)|(intro β;cbv)
   refine f2 _ _ ?_;cbv
   repeat' first|(refine And.intro (by assumption) ?_;cbv)|(intro β;cbv)
   exact⟨_,cd.refl _,⟨_,pre++[⟨kd,a,tx⟩],rest,_,by simp[hd],Q,J,I⟩,⟨rfl,rfl,rfl,rfl,trivial⟩,trivial,by simp⟩
 ·have h6:¬k<P.cF rows:=gN hP h;rw[e] at h6
  rcases rest with _|⟨y,rest⟩
  rotate_left
  ·exfalso;simp at m;((try simp only[nc] at*);omega)
  have:o=r:=by rw[ho,<-s,hd];simp[codeF,m]
  cbv;exact M _ _ _ _ ⟨this,D⟩ (cd.refl _) rfl
theorem Bn(d:List Part)(hd:d.length<=maxLen):Spec Tryz.prog 129 [.sl true 3 (d.map a7)] Hp.emp (Is (.tup [.str (if cR d=0 then codeF d else[]),.int .i64 (cR d)])):=
 ed hW Ew [.str (if cR d=0 then codeF d else[]),.int .i64 (cR d)] (.tup _ (by simp;exact⟨.str _,.int _ _⟩)) λR a=>Ex cp rfl _ _ true d _ rfl (cR d) (λn=>(pK n).1)
  (gK (lI d hd) (λ_=>.cons (.same _) .nil) rfl) (λh=>⟨(gw h).1,(gw h).2.1⟩) (λn _ _=>gK (Cy n) (λ_=>fX rfl) rfl) (λn _ _=>yu (Cy n) (λ_=>fX rfl) rfl)
  (λn h0 h1=>by unfold pK;rw[aa qW]) (if cR d=0 then codeF d else[]) (cR d) (λh=>by rw[aa h];exact⟨rfl,rfl⟩) (λh=>by rw[ab h];exact⟨rfl,h.symm⟩) R
  λb s' x y h he hr=>by obtain⟨rfl,rfl⟩:=h;exact a b s' he hr
def Ey(b:Nat)(s:BS)(bad:Bool):Ob:=⟨some b,287,2,[[.str s,.bool bad]]⟩
theorem xx(b:Nat)(s:BS)(bad:Bool):(Ey b s bad).Fz:=by
 intro r hr v hv;simp only[Ey,ag] at hr;subst hr;simp only[ah,aq,aQ] at hv
 rcases hv with rfl|rfl
 ·exact .str _
 ·exact .bool _
def iP(s:BS)(bad:Bool):BS×Bool×Int:=if(gX s).2.2≠0 then(s,true,0) else(s.drop (gX s).2.1.toNat,bad,(gX s).1)
def jn(s:BS)(bad:Bool)(n:Int):BS×Bool×BS:=if(s.length:Int)<n then(s,true,[]) else(s.drop n.toNat,bad,s.take n.toNat)
def Hg:AC:=qr [qz 2 0] (qr [qm 7 0,qn 8 7,qf 9 0 8,ql 10 9,qa 11 261 [.t 10],qm 6 11,qx 12 0 6,qx 13 1 6,qx 14 2 6,qm 3 12,qm 4 13,qm 5 14] (qq (qr [qm 15 5,qc 16 .neq 15 0] (qu 16 (qr [qm 17 0,qn 18 17,qf 19 1 18,⟨none,none,.store 1 (.t 19) (.c (.bool true))⟩] (qr [qz 2 0] .ret)) .skip)) (qr [qm 20 0,qm 21 0,qn 22 21,qf 23 0 22,ql 24 23,qm 25 4,qo 26 (.slstr (.t 24) (some (.t 25)) none),qn 27 20,qf 28 0 27,qs 1 28 26] (qr [qm 29 3,qm 2 29] .ret))))
theorem PR:fF Tryz.prog 262 Tryz.f262 Hg [.t 2] 1 dS:=⟨Tryz.func262,by decide+kernel,by kernel_rfl,by kernel_rfl,by decide+kernel⟩
theorem PS(P:Prim)(hP:P=cp)(T g:cm)(b:Nat)(s:BS)(bad:Bool)(n k e:Int)(h1:hJ T 261 [.str s] (.tup [qI n,qI k,qI e]))(hk:e=0->0<=k/\k<=s.length)
  (s2:BS)(a:Bool)(v:Int)(g1:e≠0->s=s2/\true=a/\0=v)(g2:e=0->s.drop k.toNat=s2/\bad=a/\n=v)
  (R:S->Prop)(d:∀f s' x y z,x=s2/\y=a/\z=v->cd f s'->kH s' [.t 2] (λq=>kI q=qI z)->eP [(0,⟨some b,287,2,[[.str x,.bool y]]⟩)] s'->R f):
  gE P T g Hg (S0 [.ptr 0 (some b) 2 0 0] (a8 [(0,⟨some b,287,2,[[.str s,.bool bad]]⟩)])) R (λ_ _=>False) R:=by
 have c:P.b5 s=(s.length:Int):=by subst hP;rfl
 cbv;refine h1 _ _ ?_;cbv;refine a6 (λh=>?_) (λh=>?_)
 ·have hx:=g1 (iG hP h);cbv
  repeat' first|(refine And.intro (by assumption) ?_;cbv)|(intro β;cbv)
  exact d _ _ _ _ _ hx (cd.refl _) rfl ⟨rfl,trivial⟩
 ·have he:=iy hP h;obtain⟨x1,x2,x3⟩:=g2 he;obtain⟨y1,y2⟩:=hk he;have l1:P.fK 0 k:=iJ hP y1;have l2:P.fK k (P.b5 s):=qy hP (by rw[c];exact y2);have i:P.fK (P.b5 s) (P.b5 s):=qy hP (bn _);have e1:P.gZ s k (P.b5 s)=s2:=by
   rw[c,<-x1];subst hP;show(s.take ((s.length:Int)).toNat).drop k.toNat=_;rw[aG,aN]
  cbv
  repeat' first|(refine And.intro (by assumption) ?_;cbv)|(intro β;cbv)
  exact d _ _ _ _ _ ⟨e1,x2,x3⟩ (cd.refl _) rfl ⟨rfl,trivial⟩
def Hh:AC:=qr [qo 4 (.mov (.c qe))] (qq (qr [qm 6 1,qm 7 0,qn 8 7,qf 9 0 8,ql 10 9,qo 11 (.len true (.t 10)),qb 12 .gtr 6 11] (qu 12 (qr [qm 13 0,qn 14 13,qf 15 1 14,⟨none,none,.store 1 (.t 15) (.c (.bool true))⟩] (qr [qo 4 (.mov (.c qe))] .ret)) .skip)) (qr [qm 16 0,qn 17 16,qf 18 0 17,ql 19 18,qm 20 1,qo 21 (.slstr (.t 19) none (some (.t 20))),qm 5 21] (qr [qm 22 0,qm 23 0,qn 24 23,qf 25 0 24,ql 26 25,qm 27 1,qo 28 (.slstr (.t 26) (some (.t 27)) none),qn 29 22,qf 30 0 29,qs 1 30 28] (qr [qm 31 5,qm 4 31] .ret))))
theorem PT:fF Tryz.prog 263 Tryz.f263 Hh [.t 4] 2 dS:=⟨Tryz.func263,by decide+kernel,by kernel_rfl,by kernel_rfl,by decide+kernel⟩
theorem PU(P:Prim)(hP:P=cp)(T f:cm)(b:Nat)(s:BS)(bad:Bool)(n:Int)(hn:0<=n)
  (s2:BS)(a:Bool)(v:BS)(g1:(s.length:Int)<n->s=s2/\true=a/\[]=v)(g2:n<=s.length->s.drop n.toNat=s2/\bad=a/\s.take n.toNat=v)
  (R:S->Prop)(d:∀e s' x y z,x=s2/\y=a/\z=v->cd e s'->kH s' [.t 4] (λq=>kI q=.str z)->eP [(0,⟨some b,287,2,[[.str x,.bool y]]⟩)] s'->R e):
  gE P T f Hh (S0 [.ptr 0 (some b) 2 0 0,qI n] (a8 [(0,⟨some b,287,2,[[.str s,.bool bad]]⟩)])) R (λ_ _=>False) R:=by
 have c:P.b5 s=(s.length:Int):=by subst hP;rfl
 cbv;refine a6 (λh=>?_) (λh=>?_)
 ·have hq:P.b5 s<n:=gM hP h;rw[c] at hq;have hx:=g1 hq;cbv
  repeat' first|(refine And.intro (by assumption) ?_;cbv)|(intro β;cbv)
  exact d _ _ _ _ _ hx (cd.refl _) rfl ⟨rfl,trivial⟩
 ·have hq:¬P.b5 s<n:=gN hP h;rw[c] at hq;obtain⟨x1,x2,x3⟩:=g2 qW;have l0:P.fK 0 0:=iJ hP (bn 0);have l1:P.fK 0 n:=iJ hP hn;have l2:P.fK n (P.b5 s):=qy hP (by rw[c];omega);have i:P.fK (P.b5 s) (P.b5 s):=qy hP (bn _);have e1:P.gZ s n (P.b5 s)=s2:=by
   rw[c,<-x1];subst hP;show(s.take ((s.length:Int)).toNat).drop n.toNat=_;rw[aG,aN]
  have g:P.gZ s 0 n=v:=by
   rw[<-x3];subst hP;show(s.take n.toNat).drop (0:Int).toNat=_;simp
  cbv
  repeat' first|(refine And.intro (by assumption) ?_;cbv)|(intro β;cbv)
  exact d _ _ _ _ _ ⟨e1,x2,g⟩ (cd.refl _) rfl ⟨rfl,trivial⟩
theorem Hi{s:BS}(h:(gX s).2.2=0):0<=(gX s).2.1/\(gX s).2.1<=s.length:=by
 obtain⟨k,g1,_,g3,_⟩:=oy h;omega
theorem PV(b:Nat)(s:BS)(bad:Bool)(hs:s.length<=maxLen):Spec Tryz.prog 262 [.ptr 0 (some b) 2 0 0] (a8 [(0,Ey b s bad)]) (λv h'=>∃L',(v=qI (iP s bad).2.2/\L'=[(0,Ey b (iP s bad).1 (iP s bad).2.1)])/\h'=a8 L'):=
 dE hW PR (L:=[(0,Ey b s bad)]) (λv L'=>v=qI (iP s bad).2.2/\L'=[(0,Ey b (iP s bad).1 (iP s bad).2.1)]) λR a=>
  PS cp rfl _ _ b s bad (gX s).1 (gX s).2.1 (gX s).2.2 (gK (Cw s hs) (λ_=>fX rfl) rfl) Hi (iP s bad).1 (iP s bad).2.1 (iP s bad).2.2
   (λh=>by unfold iP;rw[ab h];exact⟨rfl,rfl,rfl⟩) (λh=>by unfold iP;rw[aa (λg=>g h)];exact⟨rfl,rfl,rfl⟩) R
   λc s' x y z h he hr ha=>by
    obtain⟨rfl,rfl,rfl⟩:=h;exact a c s' _ [(0,_)] he hr ha (.int _ _) (by intro p hp;simp at hp;subst hp;exact xx _ _ _) ⟨rfl,rfl⟩
theorem PW(b:Nat)(s:BS)(bad:Bool)(n:Int)(hn:0<=n):Spec Tryz.prog 263 [.ptr 0 (some b) 2 0 0,qI n] (a8 [(0,Ey b s bad)]) (λv h'=>∃L',(v=.str (jn s bad n).2.2/\L'=[(0,Ey b (jn s bad n).1 (jn s bad n).2.1)])/\h'=a8 L'):=
 dE hW PT (L:=[(0,Ey b s bad)]) (λv L'=>v=.str (jn s bad n).2.2/\L'=[(0,Ey b (jn s bad n).1 (jn s bad n).2.1)]) λR a=>
  PU cp rfl _ _ b s bad n hn (jn s bad n).1 (jn s bad n).2.1 (jn s bad n).2.2
   (λh=>by unfold jn;rw[ab h];exact⟨rfl,rfl,rfl⟩) (λh=>by unfold jn;rw[aa qW];exact⟨rfl,rfl,rfl⟩) R
   λc s' x y z h he hr ha=>by
    obtain⟨rfl,rfl,rfl⟩:=h;exact a c s' _ [(0,_)] he hr ha (.str _) (by intro p hp;simp at hp;subst hp;exact xx _ _ _) ⟨rfl,rfl⟩
def U2(T:cm):Prop:=∀(k b:Nat)(s:BS)(bad:Bool)(h:Hp)(K:V->Hp->Prop),s.length<=maxLen->h k=some ⟨some b,287,2,[[.str s,.bool bad]]⟩->
 (∀(s2:BS)(a:Bool)(v:Int),s2=(iP s bad).1/\a=(iP s bad).2.1/\v=(iP s bad).2.2->K (qI v) (Hp.put h k ⟨some b,287,2,[[.str s2,.bool a]]⟩))->T 262 [.ptr k (some b) 2 0 0] h K
def U3(T:cm):Prop:=∀(k b:Nat)(s:BS)(bad:Bool)(n:Int)(h:Hp)(K:V->Hp->Prop),0<=n->h k=some ⟨some b,287,2,[[.str s,.bool bad]]⟩->
 (∀(s2:BS)(a:Bool)(v:BS),s2=(jn s bad n).1/\a=(jn s bad n).2.1/\v=(jn s bad n).2.2->K (.str v) (Hp.put h k ⟨some b,287,2,[[.str s2,.bool a]]⟩))->T 263 [.ptr k (some b) 2 0 0,qI n] h K
theorem tp(b:Nat)(s:BS)(bad:Bool)(f:Nat->Nat):(Ey b s bad).gy f=Ey b s bad:=by simp[Ob.gy,Ey,V.rl]
theorem V4:U2 (dF Tryz.prog):=by
 intro k b s bad h K hs hk hK;refine Ce (PV b s bad hs) (λv L' h=>⟨_,h.2⟩) rfl (tp _ _ _) (xx _ _ _) hk ?_;rintro v o' ⟨rfl,h2⟩;simp only[cy,aX,fc,eH] at h2;subst h2;rw[tp];exact hK _ _ _ ⟨rfl,rfl,rfl⟩
theorem V5:U3 (dF Tryz.prog):=by
 intro k b s bad n h K hn hk hK;refine Ce (PW b s bad n hn) (λv L' h=>⟨_,h.2⟩) rfl (tp _ _ _) (xx _ _ _) hk ?_;rintro v o' ⟨rfl,h2⟩;simp only[cy,aX,fc,eH] at h2;subst h2;rw[tp];exact hK _ _ _ ⟨rfl,rfl,rfl⟩
def y4:AC:=qr [qo 2 (.mov (.c (.slice none 0 0))),qz 3 0] (qr [qm 9 0,qo 10 (.build [qe,(.bool false)] [(0,1,(.t 9))]),qo 11 (.box 287 2 (.t 10)),qm 4 11] (qr [qo 5 (.mov (.c (.slice none 0 0)))] (qq (qr [qm 12 4,qa 13 262 [.t 12],qm 6 13] (.block 0 (.loop (qq (qr [qm 14 6,qc 15 .gtr 14 0,qm 16 15,qg 17 16 true (.mov (.t 4)),qg 18 16 true (.nilchk (.t 17)),qg 19 16 true (.faddr 1 (.t 18)),qg 20 16 true (.load1 (.t 19)),qg 21 16 true (.not (.t 20)),qo 22 (.pick (.t 16) (.t 21) (.c (.bool false)))] (qu 22 .skip (.exit 0))) (qq (.block 1 (qr [qm 25 4,qa 26 262 [.t 25],qm 7 26] (qr [qm 27 7,qc 28 .rem 27 4,qo 29 (.build yb [(0,1,(.t 28))]),qo 8 (.alloc 41 yb),qs 3 8 29] (qq (qr [qf 30 0 8,ql 31 30,qc 32 .eql 31 2] (qu 32 (qR [qm 33 4,qm 34 7,qc 35 .quo 34 4,qa 36 263 [.t 33,.t 35],qf 37 2 8,qs 1 37 36]) (qR [qm 38 7,qc 39 .quo 38 4,qf 40 1 8,qs 1 40 39]))) (qR [qm 41 5,qd 42 3 8,qo 43 (.bslice 41 3 [.t 42]),qo 44 (.append 41 3 32 (.t 41) (.t 43)),qm 5 44]))))) (qR [qm 23 6,qc 24 .sub 23 1,qm 6 24])))))) (qq (qr [qm 45 4,qn 46 45,qf 47 1 46,ql 48 47,qm 49 48,qg 50 49 false (.mov (.t 4)),qg 51 49 false (.nilchk (.t 50)),qg 52 49 false (.faddr 0 (.t 51)),qg 53 49 false (.load1 (.t 52)),qg 54 49 false (.bin .neq (.t 53) (.c qe)),qo 55 (.pick (.t 49) (.c (.bool true)) (.t 54)),qm 56 55,qg 57 56 false (.mov (.t 5)),qg 58 56 false (.call 187 [.t 57]),qg 59 56 false (.bin .neq (.t 58) (qk 0)),qo 60 (.pick (.t 56) (.c (.bool true)) (.t 59))] (qu 60 (qr [qo 2 (.mov (.c (.slice none 0 0))),qz 3 3] .ret) .skip)) (qr [qm 61 5,qm 2 61,qz 3 0] .ret)))))
theorem Hj:fF Tryz.prog 254 Tryz.f254 y4 [.t 2,.t 3] 1 dS:=⟨Tryz.func254,by decide+kernel,by kernel_rfl,by kernel_rfl,by decide+kernel⟩
structure V6(Q:BS) where
 n:Nat
 nn:Int
 s:BS
 bad:Bool
 out:List Part
 b:Option Nat
 c:Nat
 rows:List (List V)
 GB:nn=(n:Int)
 hs:s.length<=maxLen
 fW:bad=false->oz Q=Bm n s out
 RE:bad=true->oz Q=none
 Ez:out.length+n<=2147483647
 hrows:rows=out.map a7
 hc:c=out.length
theorem Hk(P:Prim)(hP:P=cp)(T N:cm)(Q:BS)(hQ:Q.length<=maxLen)(u:U2 T)(E:U3 T)
  (F:∀(d:List Part)(h:Hp)(K:V->Hp->Prop)(k:Nat)(b:Option Nat)(n:Nat)(rs:List (List V)),d.length<=maxLen->rs=d.map a7->n=rs.length->h k=some ⟨b,41,3,rs⟩->K (qI (cR d)) h->T 187 [.own k b 3 n] h K)
  (O:List Part->Int)(m:∀d,O d=cR d)
  (r:List Part)(e:Int)(hr:kY Q=(r,e))(rr:List (List V))(o:rr=r.map a7)
  (R:S->Prop)(J:∀L,L=e->qQ [.t 2,.t 3] 3 rr [qI L] R):gE P T N y4 (S0 [.str Q] Hp.emp) R (λ_ _=>False) R:=by
 have U:maxLen=9223372036854775807:=by decide
 have a:r=[]/\3=e->∀s s',cd s s'->ia [.t 2,.t 3] [.nilsl,qI 3] s'->R s:=λhx s s' he w=>(J _ hx.2).1 _ _ he w (by rw[o,hx.1];rfl);have z4:P.iq 0 4:=lk hP qD;cbv;intro β;cbv;refine u _ _ _ _ _ _ hQ rfl λs1 z v1 f=>?_;cbv;refine⟨V6 Q,λy=>[(4,.ptr 11 (some β) 2 0 0),(5,.own 1000044 y.b 3 y.c),(6,qI y.nn)],λy=>[(11,⟨some β,287,2,[[.str y.s,.bool y.bad]]⟩),(1000044,⟨y.b,41,3,y.rows⟩)],λy=>y.n,
  ⟨_,cd.nil (i:=5) (k:=1000044) (ty:=41) (sz:=3) rfl rfl,⟨v1.toNat,v1,s1,z,[],_,_,_,?_,?_,?_,?_,?_,rfl,rfl⟩,⟨rfl,rfl,rfl,trivial⟩,⟨rfl,rfl,trivial⟩⟩,?_⟩
 ·obtain⟨_,_,h3⟩:=f;have:0<=v1:=by
   rw[h3];unfold iP
   split
   ·exact bn 0
   ·rename_i hx;obtain⟨k,_,_,_,_,g4,_⟩:=oy (aK hx);exact g4
  ((try simp only[nc] at*);omega)
 ·obtain⟨h1,_,_⟩:=f;rw[h1];unfold iP
  split
  ·exact hQ
  ·simp only[aP];omega
 ·intro hb;obtain⟨h1,h2,h3⟩:=f;unfold iP at h1 h2 h3
  split at h2
  ·rw[h2] at hb;cases hb
  ·rename_i hx;rw[aa hx] at h1 h3
   dsimp only at h1 h3
   unfold oz;rw[aa hx,h1,h3]
 ·intro hb;obtain⟨h1,h2,h3⟩:=f;unfold iP at h2
  split at h2
  ·rename_i hx;unfold oz;rw[ab hx]
  ·rw[h2] at hb;cases hb
 ·obtain⟨_,_,h3⟩:=f;have:v1<=2147483647:=by
   rw[h3];unfold iP
   split
   ·exact(by decide:(0:Int)<=2147483647)
   ·rename_i hx;obtain⟨k,_,_,_,_,_,g5,_⟩:=oy (aK hx);exact g5
  simp only[aL];omega
 clear f;rintro⟨n,nn,s,bad,out,b,c,rows,GB,hs,fW,RE,Ez,hrows,hc⟩
 replace GB:nn=(n:Int):=GB
 cases bad with
 |true=>
  have hx:=RE rfl;have A:r=[]/\3=e:=by unfold kY at hr;rw[hx] at hr;simp only[aX] at hr;exact⟨hr.1.symm,hr.2⟩
  cbv;refine a6 (λh=>?_) (λh=>?_)
  ·cbv;exact a A _ _ (cd.refl _) rfl
  ·cbv;exact a A _ _ (cd.refl _) rfl
 |false=>
  have j:=fW rfl;cbv;refine a6 (λh=>?_) (λh=>?_)
  ·have h6:0<nn:=gM hP h;obtain⟨n,rfl⟩:∃n',n=n'+1:=⟨n-1,qO⟩;cbv;refine u _ _ _ _ _ _ hs rfl λs2 B x hx=>?_;obtain⟨x1,x2,x3⟩:=hx;have G:0<=x/\x<=2147483647:=by
    rw[x3];unfold iP
    split
    ·exact⟨(by decide:(0:Int)<=0),(by decide:(0:Int)<=2147483647)⟩
    ·rename_i hx;obtain⟨k,_,_,_,_,g4,g5,_⟩:=oy (aK hx);exact⟨g4,g5⟩
   have hs2:s2.length<=maxLen:=by
    rw[x1];unfold iP
    split
    ·exact hs
    ·simp only[aP];omega
   have a1:P.fK 0 x:=iJ hP G.1;have a2:P.div x 4=x/4:=by subst hP;rfl
   have a3:P.mod x 4=x%4:=by subst hP;rfl
   have a4:P.i64 (P.div x 4):=by rw[a2];exact fm hP qW
   have a5:P.i64 (P.sub nn 1):=by rw[sub_eq hP];exact fm hP qO
   have M:P.sub nn 1=(n:Int):=by rw[sub_eq hP];((try simp only[nc] at*);omega)
   have f4:P.rW rows c:=by subst hP;show rows.length=c;rw[hrows,hc];simp
   have f5:∀r,P.bytes (P.add (P.int c) (P.cF [r])) 32:=by intro r;subst hP;show((c:Int)+1)*32<=_;rw[hc];((try simp only[nc] at*);omega)
   have f6:∀r,P.rW [r] 1:=by intro r;subst hP;rfl
   have f7:∀p:Part,P.n4 rows [a7 p]=(out++[p]).map a7:=by intro p;rw[hrows];subst hP;simp[cp]
   have f8:∀(r:List V)(p:Part),P.jg c (P.gH [r])=(out++[p]).length:=by intro r p;rw[hc];subst hP;simp[cp]
   have f9:∀p:Part,(out++[p]).length+n<=2147483647:=by intro p;simp;omega
   cbv;refine⟨a1,z4,?_⟩;intro W;cbv;refine a6 (λh=>?_) (λh=>?_)
   ·have hk2:P.mod x 4=2:=mz hP h;cbv;refine⟨a1,z4,a4,?_⟩;refine E _ _ _ _ _ _ _ (by show 0<=P.div x 4;rw[a2];omega) rfl λs3 q v hv=>?_;obtain⟨w1,w2,D⟩:=hv;cbv
    repeat' first|(refine And.intro (by assumption) ?_;cbv)|(refine And.intro (f6 _) ?_;cbv)|(refine And.intro (f5 _) ?_;cbv)|(intro β;cbv)
    refine⟨_,cd.refl _,⟨n,_,s3,q,out++[⟨P.mod x 4,0,v⟩],_,_,_,M,?_,?_,?_,f9 _,f7 ⟨P.mod x 4,0,v⟩,f8 _ _⟩,⟨rfl,rfl,rfl,trivial⟩,⟨rfl,rfl,trivial⟩,ct n⟩
    ·rw[w1];unfold jn
     split
     ·exact hs2
     ·simp only[aP];omega
    ·intro hb;rw[j];unfold jn at w1 w2 D
     split at w2
     ·rw[w2] at hb;cases hb
     ·rename_i hl;rw[aa hl] at w1 D
      dsimp only at w1 D
      unfold iP at x1 x2 x3
      split at x2
      ·rename_i he;rw[ab he] at x3;rw[a3,x3] at hk2;exact absurd hk2 (by show¬(0:Int)%4=2;decide)
      ·rename_i he;rw[aa he] at x1 x3
       dsimp only at x1 x3
       rw[Bm,aa he,ab (by rw[<-x3,<-a3];exact hk2),aa (by rw[<-x1,<-x3,<-a2];exact hl),w1,D,hk2,a2,x1,x3]
    ·intro hb;rw[j];unfold jn at w2
     split at w2
     ·rename_i hl;unfold iP at x1 x2 x3
      split at x2
      ·rename_i he;rw[Bm,ab he]
      ·rename_i he;rw[aa he] at x1 x3
       dsimp only at x1 x3
       rw[Bm,aa he,ab (by rw[<-x3,<-a3];exact hk2),ab (by rw[<-x1,<-x3,<-a2];exact hl)]
     ·unfold iP at x2
      split at x2
      ·rename_i he;rw[Bm,ab he]
      ·rw[w2,x2] at hb;cases hb
   ·have hk2:¬P.mod x 4=2:=mA hP h;cbv;refine⟨a1,z4,a4,?_⟩
    repeat' first|(refine And.intro (by assumption) ?_;cbv)|(refine And.intro (f6 _) ?_;cbv)|(refine And.intro (f5 _) ?_;cbv)|(intro β;cbv)
    refine⟨_,cd.refl _,⟨n,_,s2,B,out++[⟨P.mod x 4,P.div x 4,[]⟩],_,_,_,M,hs2,?_,?_,f9 _,f7 ⟨P.mod x 4,P.div x 4,[]⟩,f8 _ _⟩,⟨rfl,rfl,rfl,trivial⟩,⟨rfl,rfl,trivial⟩,ct n⟩
    ·intro hb;rw[j];unfold iP at x1 x2 x3
     split at x2
     ·rw[x2] at hb;cases hb
     ·rename_i he;rw[aa he] at x1 x3
      dsimp only at x1 x3
      rw[Bm,aa he,aa (by rw[<-x3,<-a3];exact hk2),x1,a2,a3,x3]
    ·intro hb;rw[j];unfold iP at x2
     split at x2
     ·rename_i he;rw[Bm,ab he]
     ·rw[x2] at hb;cases hb
  ·have h6:¬0<nn:=gN hP h;have H:n=0:=by((try simp only[nc] at*);omega)
   subst H;have I:oz Q=some (s,out):=j;unfold kY at hr;rw[I] at hr;simp only[] at hr;have K5:out.length<=maxLen:=by omega
   have C:c=rows.length:=by rw[hc,hrows];simp
   cbv;refine a6 (λh=>?_) (λh=>?_)
   ·have hne:¬s=[]:=Cj hP h;rw[aa (λg=>hne g.1)] at hr;simp only[aX] at hr;cbv;exact a ⟨hr.1.symm,hr.2⟩ _ _ (cd.refl _) rfl
   ·have hne:s=[]:=Ck hP h;cbv;refine F out _ _ _ _ _ _ K5 hrows C rfl ?_;rw[<-m];cbv;refine a6 (λh=>?_) (λh=>?_)
    ·have l:=iG hP h;rw[m] at l;rw[aa (λg=>l g.2)] at hr;simp only[aX] at hr;cbv;exact a ⟨hr.1.symm,hr.2⟩ _ _ (cd.refl _) rfl
    ·have l:=iy hP h;rw[m] at l;rw[ab ⟨hne,l⟩] at hr;simp only[aX] at hr;cbv;exact(J _ hr.2).2.1 _ _ _ _ _ _ _ (cd.refl _) rfl rfl ⟨by rw[C,o,hrows,hr.1],by rw[o,hrows,hr.1]⟩
theorem Hl(Q:BS)(hQ:Q.length<=maxLen):Spec Tryz.prog 254 [.str Q] Hp.emp (Is (.tup [gI (kY Q).1,.int .i64 (kY Q).2])):=
 kX hW Hj λR c=>Hk cp rfl _ _ Q hQ V4 V5 (λd h K k b n rs hd a hn hk hK=>xk (lI d hd) rfl h K k b n rs a hn hk hK) cR (λ_=>rfl) (kY Q).1 (kY Q).2 rfl _ rfl R
  λx hx=>by subst hx;exact lN (mS _) (fL _) (ur _) c
end Go.Proofs.YtajdadcdcpnedaaGreatDoor.AM
