/-
  Part 20 of what the law ShopPlays reaches: the plain machine, contracts of the functions and plain laws; each lemma says its own condition.
-/
import Derived.Test.YtobngncjflogcaaGreatShopPlays19
import Derived.Test.YtobngncjflogcaaGreatShopPlays7
import Derived.Test.YtobngncjflogcaaGreatShopPlays6
import Derived.Test.YtobngncjflogcaaGreatShopPlays14
import Derived.Test.YtobngncjflogcaaGreatShopPlays5
set_option linter.unusedVariables false
set_option linter.unusedSimpArgs false
namespace Go.Proofs.YtobngncjflogcaaGreat.AM
open Go
set_option maxRecDepth 100000
set_option maxHeartbeats 2000000
def mt(xs a:List iY):List iY×List iY:=hW (xs.length+a.length) xs a
theorem o6:∀(f:Nat)(xs a:List iY),xs.length+a.length<=f->hW f xs a=mt xs a:=by
 have key:∀(f g:Nat)(xs a:List iY),xs.length+a.length<=f->xs.length+a.length<=g->hW f xs a=hW g xs a:=by
  intro f
  induction f with
  |zero=>
   intro g xs a h _;have h1:xs=[]:=ay qW;have h2:a=[]:=ay qW;subst h1 h2;cases g<;>rfl
  |succ f ih=>
   intro g xs a h1 h2;cases g with
   |zero=>
    have e1:xs=[]:=ay qW;have b:a=[]:=ay qW;subst e1 b;rfl
   |succ g=>
    rcases xs with _|⟨x,xs⟩
    ·rcases a with _|⟨y,a⟩
     ·rfl
     ·simp at h1 h2;cases y<;>simp only[hW]
      rw[ih g [] a (by simp;omega) (by simp;omega)]
    ·rcases a with _|⟨y,a⟩
     ·simp at h1 h2;cases x<;>simp only[hW]
      rw[ih g xs [] (by simp;omega) (by simp;omega)]
     ·simp at h1 h2;cases x<;>cases y<;>simp only[hW]
      all_goals(rw[ih g _ _ (by first|omega|(simp;omega)) (by first|omega|(simp;omega))])
 exact λf xs a h=>key _ _ xs a h (ah _)
theorem Ui(xs a:List iY)(b:UInt8):mt (.put b::xs) a=(.put b::(mt xs a).1,.keep::(mt xs a).2):=by
 unfold mt;rw[show(iY.put b::xs).length+a.length=(xs.length+a.length)+1 by simp;omega];rfl
theorem Uj(xs a:List iY)(b:UInt8)(h:∀c r,xs≠.put c::r):mt xs (.put b::a)=(.keep::(mt xs a).1,.put b::(mt xs a).2):=by
 unfold mt;rw[show xs.length+(iY.put b::a).length=(xs.length+a.length)+1 by simp;omega,hW];intro c r hr;exact h c r hr
theorem Uk(xs a:List iY):mt (.keep::xs) (.keep::a)=(.keep::(mt xs a).1,.keep::(mt xs a).2):=by
 conv=>lhs;unfold mt
 rw[show(iY.keep::xs).length+(iY.keep::a).length=(xs.length+a.length+1)+1 by simp;omega,hW,o6 _ _ _ qW]
theorem Ul(xs a:List iY):mt (.cut::xs) (.keep::a)=(.cut::(mt xs a).1,(mt xs a).2):=by
 conv=>lhs;unfold mt
 rw[show(iY.cut::xs).length+(iY.keep::a).length=(xs.length+a.length+1)+1 by simp;omega,hW,o6 _ _ _ qW]
theorem Um(xs a:List iY):mt (.keep::xs) (.cut::a)=((mt xs a).1,.cut::(mt xs a).2):=by
 conv=>lhs;unfold mt
 rw[show(iY.keep::xs).length+(iY.cut::a).length=(xs.length+a.length+1)+1 by simp;omega,hW,o6 _ _ _ qW]
theorem Un(xs a:List iY):mt (.cut::xs) (.cut::a)=mt xs a:=by
 conv=>lhs;unfold mt
 rw[show(iY.cut::xs).length+(iY.cut::a).length=(xs.length+a.length+1)+1 by simp;omega,hW,o6 _ _ _ qW]
theorem Sh(t:BS)(xs a:List iY):mt (t.map .put++xs) a=(t.map .put++(mt xs a).1,List.replicate t.length .keep++(mt xs a).2):=by
 induction t with
 |nil=>rfl
 |cons b t ih=>simp only[aR,aK,Ui,ih,au,aX]
theorem Si(t:BS)(xs a:List iY)(h:∀c r,xs≠.put c::r):mt xs (t.map .put++a)=(List.replicate t.length .keep++(mt xs a).1,t.map .put++(mt xs a).2):=by
 induction t with
 |nil=>rfl
 |cons b t ih=>simp only[aR,aK,Uj _ _ _ h,ih,au,aX]
theorem Sj(n:Nat)(xs a:List iY):mt (List.replicate n .keep++xs) (List.replicate n .keep++a)=(List.replicate n .keep++(mt xs a).1,List.replicate n .keep++(mt xs a).2):=by
 induction n with
 |zero=>rfl
 |succ n ih=>simp only[aX,aK,Uk,ih]
theorem Sk(n:Nat)(xs a:List iY):mt (List.replicate n .cut++xs) (List.replicate n .keep++a)=(List.replicate n .cut++(mt xs a).1,(mt xs a).2):=by
 induction n with
 |zero=>rfl
 |succ n ih=>simp only[aX,aK,Ul,ih]
theorem Sl(n:Nat)(xs a:List iY):mt (List.replicate n .keep++xs) (List.replicate n .cut++a)=((mt xs a).1,List.replicate n .cut++(mt xs a).2):=by
 induction n with
 |zero=>rfl
 |succ n ih=>simp only[aX,aK,Um,ih]
theorem Sm(n:Nat)(xs a:List iY):mt (List.replicate n .cut++xs) (List.replicate n .cut++a)=mt xs a:=by
 induction n with
 |zero=>rfl
 |succ n ih=>simp only[aX,aK,Un,ih]
def hY(m:Mk)(a b:Part)(n:Int):Mk:=if a.kind=1/\b.kind=1 then m.gv n else if a.kind=3/\b.kind=1 then m.jE n else m
def hZ(m:Mk)(a b:Part)(n:Int):Mk:=if a.kind=1/\b.kind=1 then m.gv n else if a.kind=1/\b.kind=3 then m.jE n else m
theorem OR{p:Part}{r:List Part}{u:Int}(ok:pH (p::r) u)(h2:p.kind≠2):∀c q,fY (p::r) u≠.put c::q:=by
 intro c q hq;have hu:=ok.2;simp only at hu;have hk:0<=eY p-u/\u+(eY p-u)<=eY p:=by omega
 have h1:=lR ok hk;obtain⟨n,hn⟩:∃n,(eY p-u).toNat=n+1:=⟨(eY p-u).toNat-1,qW⟩;have:chunk p u (eY p-u)=List.replicate (eY p-u).toNat (if p.kind=1 then iY.keep else iY.cut):=by unfold chunk;rw[aa h2]
 rw[h1,this,hn,aX] at hq;simp only[aK,cD] at hq;have:=hq.1
 split at this<;>cases this
theorem Li{p:Part}{r lb:List Part}{ua ub:Int}(ok:pH (p::r) ua)(h2:p.kind=2)(rK:lH (fY (p::r) ua)=lH (fY lb ub)):
  mt (fY (p::r) ua) (fY lb ub)=((ma (p::r) ua (eY p-ua)).map .put++(mt (fY (fA (p::r) ua (eY p-ua)).1 (fA (p::r) ua (eY p-ua)).2) (fY lb ub)).1,List.replicate (ma (p::r) ua (eY p-ua)).length .keep++(mt (fY (fA (p::r) ua (eY p-ua)).1 (fA (p::r) ua (eY p-ua)).2) (fY lb ub)).2)/\
   lH (fY (fA (p::r) ua (eY p-ua)).1 (fA (p::r) ua (eY p-ua)).2)=lH (fY lb ub)/\((fY (p::r) ua).length:Int)=(eY p-ua)+(fY (fA (p::r) ua (eY p-ua)).1 (fA (p::r) ua (eY p-ua)).2).length/\(ma (p::r) ua (eY p-ua)).length=(eY p-ua).toNat:=by
 have hu:=ok.2;simp only at hu;have hk:0<=eY p-ua/\ua+(eY p-ua)<=eY p:=by omega
 have h1:=lR ok hk;have h3:=qv ok hk;have hc:chunk p ua (eY p-ua)=(ma (p::r) ua (eY p-ua)).map .put:=by unfold chunk;rw[ae h2];simp[ma,h2]
 have ho:=mX p ua (eY p-ua) (ok.1 p (by simp));rw[ae h2] at ho;refine⟨?_,?_,?_,?_⟩
 ·rw[h1,hc,Sh]
 ·rw[h1,oV] at rK;omega
 ·rw[h1,ag,h3];omega
 ·rw[hc,aF] at h3;exact h3
theorem A1{q:Part}{s la:List Part}{ua ub:Int}(ok:pH (q::s) ub)(h2:q.kind=2)(a:∀c r,fY la ua≠.put c::r)(rK:lH (fY la ua)=lH (fY (q::s) ub)):
  mt (fY la ua) (fY (q::s) ub)=(List.replicate (ma (q::s) ub (eY q-ub)).length .keep++(mt (fY la ua) (fY (fA (q::s) ub (eY q-ub)).1 (fA (q::s) ub (eY q-ub)).2)).1,(ma (q::s) ub (eY q-ub)).map .put++(mt (fY la ua) (fY (fA (q::s) ub (eY q-ub)).1 (fA (q::s) ub (eY q-ub)).2)).2)/\
   lH (fY la ua)=lH (fY (fA (q::s) ub (eY q-ub)).1 (fA (q::s) ub (eY q-ub)).2)/\((fY (q::s) ub).length:Int)=(eY q-ub)+(fY (fA (q::s) ub (eY q-ub)).1 (fA (q::s) ub (eY q-ub)).2).length/\(ma (q::s) ub (eY q-ub)).length=(eY q-ub).toNat:=by
 have hu:=ok.2;simp only at hu;have hk:0<=eY q-ub/\ub+(eY q-ub)<=eY q:=by omega
 have h1:=lR ok hk;have h3:=qv ok hk;have hc:chunk q ub (eY q-ub)=(ma (q::s) ub (eY q-ub)).map .put:=by unfold chunk;rw[ae h2];simp[ma,h2]
 have ho:=mX q ub (eY q-ub) (ok.1 q (by simp));rw[ae h2] at ho;refine⟨?_,?_,?_,?_⟩
 ·rw[h1,hc,Si _ _ _ a]
 ·rw[h1,oV] at rK;omega
 ·rw[h1,ag,h3];omega
 ·rw[hc,aF] at h3;exact h3
theorem CT{p q:Part}{r s:List Part}{ua ub k:Int}{m1 m2:Mk}(tp:pH (p::r) ua)(qw:pH (q::s) ub)(h3:p.kind≠2)(h2:q.kind≠2)(hk:0<=k)(b:ua+k<=eY p)(c:ub+k<=eY q)(rK:lH (fY (p::r) ua)=lH (fY (q::s) ub)):
  m1.run (mt (fY (p::r) ua) (fY (q::s) ub)).1=(hY m1 p q k).run (mt (fY (fA (p::r) ua k).1 (fA (p::r) ua k).2) (fY (fA (q::s) ub k).1 (fA (q::s) ub k).2)).1/\
  m2.run (mt (fY (p::r) ua) (fY (q::s) ub)).2=(hZ m2 p q k).run (mt (fY (fA (p::r) ua k).1 (fA (p::r) ua k).2) (fY (fA (q::s) ub k).1 (fA (q::s) ub k).2)).2/\
   lH (fY (fA (p::r) ua k).1 (fA (p::r) ua k).2)=lH (fY (fA (q::s) ub k).1 (fA (q::s) ub k).2)/\((fY (p::r) ua).length:Int)=k+(fY (fA (p::r) ua k).1 (fA (p::r) ua k).2).length/\((fY (q::s) ub).length:Int)=k+(fY (fA (q::s) ub k).1 (fA (q::s) ub k).2).length:=by
 have g:=tp.2;have h:=qw.2;simp only at g h;have a1:=lR tp ⟨hk,b⟩;have a2:=qv tp ⟨hk,b⟩;have b1:=lR qw ⟨hk,c⟩;have b2:=qv qw ⟨hk,c⟩;have i:=iU (tp.1 p (by simp));have j:=iU (qw.1 q (by simp));have ho:=mX p ua k (tp.1 p (by simp));have hi:=mX q ub k (qw.1 q (by simp));rw[aa h3] at ho;rw[aa h2] at hi;have e:((k.toNat:Nat):Int)=k:=by omega
 have l:chunk p ua k=List.replicate k.toNat (if p.kind=1 then .keep else .cut):=by unfold chunk;rw[aa h3]
 have m:chunk q ub k=List.replicate k.toNat (if q.kind=1 then .keep else .cut):=by unfold chunk;rw[aa h2]
 have key:m1.run (mt (fY (p::r) ua) (fY (q::s) ub)).1=(hY m1 p q k).run (mt (fY (fA (p::r) ua k).1 (fA (p::r) ua k).2) (fY (fA (q::s) ub k).1 (fA (q::s) ub k).2)).1/\
  m2.run (mt (fY (p::r) ua) (fY (q::s) ub)).2=(hZ m2 p q k).run (mt (fY (fA (p::r) ua k).1 (fA (p::r) ua k).2) (fY (fA (q::s) ub k).1 (fA (q::s) ub k).2)).2:=by
  rw[a1,b1,l,m]
  by_cases p1:p.kind=1
  ·by_cases q1:q.kind=1
   ·have a:hY m1 p q k=m1.gv k:=by simp[hY,p1,q1]
    have z2:hZ m2 p q k=m2.gv k:=by simp[hZ,p1,q1]
    rw[ae p1,ae q1,a,z2,Sj];simp only[Mk.mJ,Mk.rW,e,and_self]
   ·have d:q.kind=3:=by omega
    have a:hY m1 p q k=m1:=by simp[hY,p1,d]
    have z2:hZ m2 p q k=m2.jE k:=by simp[hZ,p1,d]
    rw[ae p1,aa q1,a,z2,Sl];simp only[Mk.mJ,Mk.Dn,e,and_self]
  ·have f:p.kind=3:=by omega
   by_cases q1:q.kind=1
   ·have a:hY m1 p q k=m1.jE k:=by simp[hY,f,q1]
    have z2:hZ m2 p q k=m2:=by simp[hZ,f]
    rw[aa p1,ae q1,a,z2,Sk];simp only[Mk.mJ,Mk.Dn,e,and_self]
   ·have d:q.kind=3:=by omega
    have a:hY m1 p q k=m1:=by simp[hY,f,d]
    have z2:hZ m2 p q k=m2:=by simp[hZ,f]
    rw[aa p1,aa q1,a,z2,Sm];exact⟨rfl,rfl⟩
 refine⟨key.1,key.2,?_,?_,?_⟩
 ·rw[a1,b1,oV,oV] at rK;omega
 ·rw[a1,ag,a2];omega
 ·rw[b1,ag,b2];omega
def nY(a b:List Part):List Part:=Qu (mt (fb a) (fb b)).1
def oJ(a b:List Part):List Part:=Qu (mt (fb a) (fb b)).2
def oK(a b:List Part):Int:=if ed a≠0 then ed a else if ed b≠0 then ed b else if kU a≠kU b then 4 else if ed (nY a b)≠0 then ed (nY a b) else ed (oJ a b)
def iS(a b:List Part):List Part×List Part×Int:=if oK a b=0 then(nY a b,oJ a b,0) else([],[],oK a b)
theorem Gr:∀(f:Nat)(xs a:List iY),(hW f xs a).1.length<=xs.length+a.length/\(hW f xs a).2.length<=xs.length+a.length:=by
 intro f
 induction f with
 |zero=>intro xs a;simp[hW]
 |succ f ih=>
  intro xs a
  rcases xs with _|⟨x,xs⟩
  ·rcases a with _|⟨y,a⟩
   ·simp[hW]
   ·cases y<;>simp only[hW,au,aT]<;>(try omega)
    have:=ih [] a;simp at this;omega
  ·rcases a with _|⟨y,a⟩
   ·cases x<;>simp only[hW,au,aT]<;>(try omega)
    have:=ih xs [];simp at this;omega
   ·have h1:=ih xs a;have h2:=ih xs (y::a);have h3:=ih (x::xs) a;cases x<;>cases y<;>simp only[hW,au] at* <;>omega
def CU(rv:List RV)(r1 r2:List (List V))(e:Int)(R:S->Prop):Prop:=
 (∀(s s':S)(a:Int),c6 s s'->iH rv [.nilsl,.nilsl,.int .i64 a] s'->r1=[]/\r2=[]/\a=e->R s)/\
 (∀(s s':S)(k1 k2:Nat)(b1 b2:Option Nat)(t1 t2 n1 n2:Nat)(w1 w2:List (List V))(a:Int),c6 s s'->iH rv [.own k1 b1 3 n1,.own k2 b2 3 n2,.int .i64 a] s'->s'.h k1=some ⟨b1,t1,3,w1⟩->s'.h k2=some ⟨b2,t2,3,w2⟩->n1=r1.length/\n2=r2.length/\w1=r1/\w2=r2/\a=e->R s)/\
 (∀(s s':S)(w1 w2:List (List V))(a:Int),c6 s s'->iH rv [.sl false 3 w1,.sl false 3 w2,.int .i64 a] s'->w1=r1/\w2=r2/\a=e->R s)
theorem tq{rv:List RV}{a b:List Part}{e:Int}{R:S->Prop}(c:∀s s',c6 s s'->Fk rv (.tup [gh a,gh b,.int .i64 e]) s'->R s):CU rv (a.map bd) (b.map bd) e R:=by
 refine⟨?_,?_,?_⟩
 ·rintro s s' d he hr ⟨h1,h2,rfl⟩;refine c s s' he (eM _ _ _ (λx hx=>?_) hr);subst hx;unfold gh;rw[h1,h2];exact .jV (.nilsl 3) (.jV (.nilsl 3) (.jV (.same _ (.int _ _)) .uq))
 ·rintro s s' k1 k2 b1 b2 t1 t2 n1 n2 w1 w2 d he hr g1 g2 ⟨rfl,rfl,rfl,rfl,rfl⟩;refine c s s' he (eM _ _ _ (λx hx=>?_) hr);subst hx;exact .jV (.rows g1 rfl rfl rfl (rY _) (gI _)) (.jV (.rows g2 rfl rfl rfl (rY _) (gI _)) (.jV (.same _ (.int _ _)) .uq))
 ·rintro s s' w1 w2 d he hr ⟨rfl,rfl,rfl⟩;refine c s s' he (eM _ _ _ (λx hx=>?_) hr);subst hx;exact .jV (.same _ (.sl _ _ (gI _))) (.jV (.same _ (.sl _ _ (gI _))) (.jV (.same _ (.int _ _)) .uq))
def ER:AC:=qr [qo 4 (.mov (.c (.slice none 0 0))),qo 5 (.mov (.c (.slice none 0 0))),qz 6 0] (qr [qm 26 0,qa 27 87 [.t 26],qm 25 27,qx 28 0 25,qx 29 1 25,qx 30 2 25,qm 7 28,qm 8 29,qm 9 30] (qq (qr [qm 31 9,qc 32 .neq 31 0] (qu 32 (qr [qm 33 9,qo 4 (.mov (.c (.slice none 0 0))),qo 5 (.mov (.c (.slice none 0 0))),qm 6 33] .ret) .skip)) (qr [qm 35 1,qa 36 87 [.t 35],qm 34 36,qx 37 0 34,qx 38 1 34,qx 39 2 34,qm 10 37,qm 11 38,qm 9 39] (qq (qr [qm 40 9,qc 41 .neq 40 0] (qu 41 (qr [qm 42 9,qo 4 (.mov (.c (.slice none 0 0))),qo 5 (.mov (.c (.slice none 0 0))),qm 6 42] .ret) .skip)) (qq (qr [qm 43 7,qm 44 10,qb 45 .neq 43 44] (qu 45 (qr [qo 4 (.mov (.c (.slice none 0 0))),qo 5 (.mov (.c (.slice none 0 0))),qz 6 4] .ret) .skip)) (qr [qo 12 (.alloc 182 [(.slice none 0 0),qe,q0]),qo 13 (.alloc 182 [(.slice none 0 0),qe,q0])] (qr [qm 46 0,qa 47 121 [.t 46],qm 48 1,qa 49 121 [.t 48],qm 14 47,qm 15 49] (qq (.block 0 (.loop (qq (qr [qm 50 14,qa 51 122 [.t 50],qc 52 .neq 51 0,qm 53 52,qg 54 53 false (.mov (.t 15)),qg 55 53 false (.call 122 [.t 54]),qg 56 53 false (.bin .neq (.t 55) (qk 0)),qo 57 (.pick (.t 53) (.c (.bool true)) (.t 56))] (qu 57 .skip (.exit 0))) (.block 1 (.block 2 (qr [qm 103 14,qa 104 122 [.t 103],qc 105 .eql 104 2,qm 102 105] (qu 102 (qr [qm 106 14,qm 107 14,qa 108 124 [.t 107],qa 109 123 [.t 106,.t 108],qm 16 109] (qr [qm 110 16,qa 111 125 [.t 12,.t 110]] (qR [qm 112 16,qo 113 (.len true (.t 112)),qa 114 126 [.t 13,.t 113]]))) (qr [qm 116 15,qa 117 122 [.t 116],qc 118 .eql 117 2,qm 115 118] (qu 115 (qr [qm 119 15,qm 120 15,qa 121 124 [.t 120],qa 122 123 [.t 119,.t 121],qm 17 122] (qr [qm 123 17,qa 124 125 [.t 13,.t 123]] (qR [qm 125 17,qo 126 (.len true (.t 125)),qa 127 126 [.t 12,.t 126]]))) (qr [qm 58 14,qa 59 124 [.t 58],qm 60 15,qa 61 124 [.t 60],qo 62 (.mm false (.t 59) (.t 61)),qm 18 62] (qr [qm 63 14,qa 64 122 [.t 63],qc 65 .eql 64 3,qm 66 15,qa 67 122 [.t 66],qc 68 .eql 67 3,qm 19 65,qm 20 68] (qr [qm 69 14,qm 70 18,qa 71 123 [.t 69,.t 70]] (qr [qm 72 15,qm 73 18,qa 74 123 [.t 72,.t 73]] (.block 3 (qr [qm 76 19,qo 77 (.not (.t 76)),qm 78 77,qg 79 78 true (.mov (.t 20)),qg 80 78 true (.not (.t 79)),qo 81 (.pick (.t 78) (.t 80) (.c (.bool false))),qm 75 81] (qu 75 (qr [qm 82 18,qa 83 126 [.t 12,.t 82]] (qR [qm 84 18,qa 85 126 [.t 13,.t 84]])) (qr [qm 87 19,qm 88 87,qg 89 88 true (.mov (.t 20)),qg 90 88 true (.not (.t 89)),qo 91 (.pick (.t 88) (.t 90) (.c (.bool false))),qm 86 91] (qu 86 (qR [qm 92 18,qa 93 127 [.t 12,.t 92]]) (qr [qm 95 20,qm 96 95,qg 97 96 true (.mov (.t 19)),qg 98 96 true (.not (.t 97)),qo 99 (.pick (.t 96) (.t 98) (.c (.bool false))),qm 94 99] (qu 94 (qR [qm 100 18,qa 101 127 [.t 13,.t 100]]) .skip)))))))))))))))))))) (qr [qa 128 128 [.t 12],qa 129 128 [.t 13],qm 21 128,qm 22 129] (qq (qr [qm 130 21,qa 131 106 [.t 130],qm 23 131] (qr [qm 132 23,qc 133 .neq 132 0] (qu 133 (qr [qm 134 23,qo 4 (.mov (.c (.slice none 0 0))),qo 5 (.mov (.c (.slice none 0 0))),qm 6 134] .ret) .skip))) (qq (qr [qm 135 22,qa 136 106 [.t 135],qm 24 136] (qr [qm 137 24,qc 138 .neq 137 0] (qu 138 (qr [qm 139 24,qo 4 (.mov (.c (.slice none 0 0))),qo 5 (.mov (.c (.slice none 0 0))),qm 6 139] .ret) .skip))) (qr [qm 140 21,qm 141 22,qm 4 140,qm 5 141,qz 6 0] .ret))))))))))))
theorem OS:fF Tryz.prog 88 Tryz.f88 ER [.t 4,.t 5,.t 6] 2 er:=⟨Tryz.func88,by decide+kernel,by kernel_rfl,by kernel_rfl,by decide+kernel⟩
structure YM(t1 t2:List iY) where
 la:List Part
 ua:Int
 lb:List Part
 ub:Int
 ra:List (List V)
 rb:List (List V)
 m1:Mk
 n1:Nat
 Sn:BS
 So:Int
 Lj:List (List V)
 b1:Option Nat
 m2:Mk
 n2:Nat
 lS:BS
 Sp:Int
 ij:List (List V)
 b2:Option Nat
 j:Nat
 v8:ra=la.map bd
 Bl:rb=lb.map bd
 zA:n1=m1.out.length/\Lj=m1.out.map bd/\Sn=m1.put/\So=m1.cut
 tD:n2=m2.out.length/\ij=m2.out.map bd/\lS=m2.put/\Sp=m2.cut
 tp:pH la ua
 qw:pH lb ub
 sH:Mk.new.run t1=m1.run (mt (fY la ua) (fY lb ub)).1
 sI:Mk.new.run t2=m2.run (mt (fY la ua) (fY lb ub)).2
 rK:lH (fY la ua)=lH (fY lb ub)
 hb1:m1.Bd j j
 hb2:m2.Bd j j
 hj:j+(fY la ua).length+(fY lb ub).length<=10000
theorem OT(P:Prim)(hP:P=dn)(T T1:c8)(a b:List Part)(Vr Vs:List (List V))(Uo:Vr=a.map bd)(Up:Vs=b.map bd)
  (D:∀k:Int,0<=k/\k<=1000000->MK T 126 [qI k] (λm=>∃j w,m.Bd j w/\j<=2000000) (λm=>m.gv k) wX)
  (W:∀s:BS,s.length<=1000000000->MK T 125 [.str s] (λm=>m.put.length+s.length<=1000000000) (λm=>m.iK s) wX)
  (Uq:∀k:Int,0<=k/\k<=1000000->MK T 127 [qI k] (λm=>∃j w,m.Bd j w/\j<=2000000) (λm=>m.jE k) wX)
  (X:MK T 128 [] (λm=>m.out.length<=100000000) (λm=>⟨m.flush,[],0⟩) Ig)
  (N:Pw T)(i:Nx T 122 (λ_ _=>True) (λl _=>DY l) true)(v:Nx T 124 (λl u=>l≠[]/\pH l u) (λl u=>tQ l-u) true)(z:Pv T)
  (O:∀(d:List Part)(h:Hp)(K:V->Hp->Prop)(k:Nat)(b:Option Nat)(n:Nat)(rs:List (List V))(q:Int),d.length<=100000000->rs=d.map bd->n=rs.length->q=ed d->h k=some ⟨b,115,3,rs⟩->K (qI q) h->T 106 [.own k b 3 n] h K)
  (i1 o1 c1 i2 o2 c2:Int)(hs1:vZ a=(i1,o1,c1))(hs2:vZ b=(i2,o2,c2))
  (hc1:gK T 87 [.sl false 3 Vr] (.tup [qI i1,qI o1,qI c1]))(Vt:gK T 87 [.sl false 3 Vs] (.tup [qI i2,qI o2,qI c2]))
  (r1 r2:List Part)(e:Int)(hr:iS a b=(r1,r2,e))(Vu Vv:List (List V))(Y:Vu=r1.map bd)(Z:Vv=r2.map bd)
  (R:S->Prop)(hR:CU [.t 4,.t 5,.t 6] Vu Vv e R):gj P T T1 ER (S0 [.sl false 3 Vr,.sl false 3 Vs] Hp.emp) R (λ_ _=>False) R:=by
 have bad:∀x:Int,oK a b=x->x≠0->Vu=[]/\Vv=[]/\x=e:=by
  intro x hx h0;unfold iS at hr;rw[hx,aa h0] at hr;simp only[aL] at hr;refine⟨by rw[Y,<-hr.1];rfl,by rw[Z,<-hr.2.1];rfl,hr.2.2⟩
 have eF:oK a b=0->Vu=(nY a b).map bd/\Vv=(oJ a b).map bd/\0=e:=by
  intro hx;unfold iS at hr;rw[hx,ae rfl] at hr;simp only[aL] at hr;exact⟨by rw[Y,<-hr.1],by rw[Z,<-hr.2.1],hr.2.2⟩
 clear hr Y Z;have q1:c1=ed a/\(ed a=0->i1=kU a):=by
  unfold vZ at hs1
  by_cases h:ed a=0
  ·rw[ae h] at hs1;simp only[aL] at hs1;exact⟨qW,λ_=>hs1.1.symm⟩
  ·rw[aa h] at hs1;simp only[aL] at hs1;exact⟨hs1.2.2.symm,λhh=>absurd hh h⟩
 have q2:c2=ed b/\(ed b=0->i2=kU b):=by
  unfold vZ at hs2
  by_cases h:ed b=0
  ·rw[ae h] at hs2;simp only[aL] at hs2;exact⟨qW,λ_=>hs2.1.symm⟩
  ·rw[aa h] at hs2;simp only[aL] at hs2;exact⟨hs2.2.2.symm,λhh=>absurd hh h⟩
 clear hs1 hs2;unfold oK at bad eF;rw[<-q1.1,<-q2.1] at bad eF;cbv;refine hc1 _ _ ?_;clear hc1;cbv;refine ab (λh=>?_) (λh=>?_)
 ·have o:c1≠0:=hH hP h;rw[ae o] at bad;cbv;exact hR.1 _ _ _ (c6.refl _) rfl (bad _ rfl o)
 have hz1:c1=0:=gZ hP h;rw[aa (λh=>h hz1)] at bad eF;cbv;refine Vt _ _ ?_;clear Vt;cbv;refine ab (λh=>?_) (λh=>?_)
 ·have o:c2≠0:=hH hP h;rw[ae o] at bad;cbv;exact hR.1 _ _ _ (c6.refl _) rfl (bad _ rfl o)
 have hz2:c2=0:=gZ hP h;rw[aa (λh=>h hz2)] at bad eF;have za:ed a=0:=q1.1.symm.trans hz1;have zb:ed b=0:=q2.1.symm.trans hz2;rw[<-q1.2 za,<-q2.2 zb] at bad eF;cbv;refine ab (λh=>?_) (λh=>?_)
 ·have o:i1≠i2:=hH hP h;rw[ae o] at bad;cbv;exact hR.1 _ _ _ (c6.refl _) rfl (bad _ rfl qD)
 have XU:i1=i2:=gZ hP h;rw[aa (λh=>h XU)] at bad eF;rw[q1.2 za,q2.2 zb] at XU;obtain⟨Vw,Sq,ha1,ha2,_,_⟩:=fP za;obtain⟨Vx,Sr,hb1,hb2,_,_⟩:=fP zb;have hTa:=mV a Sq;have ZH:=l9 a Sq;have hTb:=l9 b Sr;have ZI:=mV b Sr;have hlen:∀ts:List iY,ts.length<=lH ts+lf ts:=by
  intro ts
  induction ts with
  |nil=>simp
  |cons t ts ih=>cases t<;>simp[lH,fy,lf] at* <;>omega
 have Vy:=hlen (fb a);have GK:=hlen (fb b);have XV:∀(l:List Part),(∀p∈l,rT p)->pH l 0:=by
  intro l hl;refine⟨hl,?_⟩;cases l with
  |nil=>rfl
  |cons p l=>exact⟨aN _,size_pos (hl p (by simp))⟩
 have F:∀l:List Part,fY l 0=fb l:=λl=>by simp[fY]
 clear h;cbv;intro Ur;cbv;intro Us;cbv;refine N 2000 a _ _ _ Uo rfl rfl λbx=>?_;cbv;refine N 2001 b _ _ _ Up rfl rfl λbz=>?_;clear N;cbv;refine⟨YM (mt (fb a) (fb b)).1 (mt (fb a) (fb b)).2,λy=>[(12,.ptr 12 (some Ur) 3 0 0),(13,.ptr 13 (some Us) 3 0 0),(14,.ptr 2000 (some bx) 2 0 0),(15,.ptr 2001 (some bz) 2 0 0)],
  λy=>[(12,⟨some Ur,182,3,[[.own 1000998 y.b1 3 y.n1,.str y.Sn,qI y.So]]⟩),(1000998,⟨y.b1,115,3,y.Lj⟩),(13,⟨some Us,182,3,[[.own 1000999 y.b2 3 y.n2,.str y.lS,qI y.Sp]]⟩),(1000999,⟨y.b2,115,3,y.ij⟩),(2000,⟨some bx,210,2,[[.sl false 3 y.ra,qI y.ua]]⟩),(2001,⟨some bz,210,2,[[.sl false 3 y.rb,qI y.ub]]⟩)],
  λy=>(fY y.la y.ua).length+(fY y.lb y.ub).length,
  ⟨_,c6.trans (c6.mK (k:=12) (k':=1000998) (ty:=115) (sz:=3) (r:=0) (c:=0) rfl rfl rfl rfl) (c6.mK (k:=13) (k':=1000999) (ty:=115) (sz:=3) (r:=0) (c:=0) rfl rfl rfl rfl),⟨a,0,b,0,Vr,Vs,Mk.new,_,_,_,_,_,Mk.new,_,_,_,_,_,0,Uo,Up,⟨rfl,rfl,rfl,rfl⟩,⟨rfl,rfl,rfl,rfl⟩,XV a Sq,XV b Sr,by rw[F,F],by rw[F,F],by rw[F,F];((try simp only[nc] at*);omega),Mk.x5,Mk.x5,by rw[F,F];((try simp only[nc] at*);omega)⟩,⟨rfl,rfl,rfl,rfl,trivial⟩,⟨rfl,rfl,rfl,rfl,rfl,rfl,trivial⟩⟩,?_⟩
 rintro⟨la,ua,lb,ub,ra,rb,m1,n1,Sn,So,mr1,bm1,m2,n2,lS,Sp,mr2,bm2,j,v8,Bl,zA,tD,tp,qw,sH,sI,rK,hb1,hb2,hj⟩;have ZJ:=hb1.put;have ZK:=hb1.len;have ZL:=hb2.put;have ZM:=hb2.len;cbv;refine i _ _ _ _ _ _ _ v8 trivial rfl λkx XW=>?_;cbv
 rcases la with _|⟨p,la⟩
 ·have Ss:kx=0:=XW;refine hJ (oq hP Ss) ?_;cbv;refine i _ _ _ _ _ _ _ Bl trivial rfl λky XX=>?_;cbv
  rcases lb with _|⟨q,lb⟩
  ·
   have ZN:ky=0:=XX;have hc:nY a b=m1.flush:=by show(Mk.new.run _).flush=_;rw[sH];simp[fY,fb,mt,hW,Mk.run]
   have hd:oJ a b=m2.flush:=by show(Mk.new.run _).flush=_;rw[sI];simp[fY,fb,mt,hW,Mk.run]
   have YS:=hb1.flush.1;have OA:=hb2.flush.1;refine hJ (oq hP ZN) ?_;cbv;refine X _ _ _ _ _ _ _ _ m1 _ _ zA qW rfl rfl rfl λb1' n1' Ut c1' w1 g=>?_;obtain⟨TC,g,_,_⟩:=g;simp only[] at TC g;cbv;refine X _ _ _ _ _ _ _ _ m2 _ _ tD qW rfl rfl rfl λb2' n2' p2' c2' w2 hw2=>?_;obtain⟨BD,hw2,_,_⟩:=hw2;simp only[] at BD hw2;obtain⟨x1,XY⟩:∃x,x=ed m1.flush:=⟨_,rfl⟩;obtain⟨x2,Vz⟩:∃x,x=ed m2.flush:=⟨_,rfl⟩;rw[hc,hd,<-XY,<-Vz] at bad eF;cbv;refine O m1.flush _ _ _ _ _ _ x1 qW g (by rw[TC,g];simp) XY rfl ?_;cbv;refine ab (λh=>?_) (λh=>?_)
   ·have o:x1≠0:=hH hP h;rw[ae o] at bad;cbv;exact hR.1 _ _ _ (c6.refl _) rfl (bad _ rfl o)
   have WD:x1=0:=gZ hP h;rw[aa (λh=>h WD)] at bad eF;cbv;refine O m2.flush _ _ _ _ _ _ x2 qW hw2 (by rw[BD,hw2];simp) Vz rfl ?_;cbv;refine ab (λh=>?_) (λh=>?_)
   ·have o:x2≠0:=hH hP h;cbv;exact hR.1 _ _ _ (c6.refl _) rfl (bad _ rfl o)
   have WD:x2=0:=gZ hP h;obtain⟨g1,g2,g3⟩:=eF WD;cbv;exact hR.2.1 _ _ _ _ _ _ _ _ _ _ _ _ _ (c6.refl _) rfl rfl rfl ⟨by rw[g1,TC];simp,by rw[g2,BD];simp,by rw[g1,g],by rw[g2,hw2],g3⟩
  ·have XZ:ky=q.kind:=XX;have WE:=iU (qw.1 q (by simp));have hu:=qw.2;simp only at hu;have hk:0<=eY q-ub/\ub+(eY q-ub)<=eY q:=by omega
   have U:q.kind=2:=by
    by_cases h2:q.kind=2
    ·exact h2
    ·exfalso
     rw[lR qw hk,oV,mX q ub _ (qw.1 q (by simp)),aa h2] at rK;simp[fY,fb,lH,fy] at rK;omega
   refine iv (wm hP qW) ?_;cbv;refine i _ _ _ _ _ _ _ v8 trivial rfl λWG Su=>?_;have Vz:WG=0:=Su;cbv;refine hJ (wk hP qW) ?_;cbv;obtain⟨s1,s2,s3,E⟩:=A1 qw U (la:=[]) (ua:=ua) (by intro c r hr;simp[fY,fb] at hr) rK;have hsz:=size_le (qw.1 q (by simp));refine i _ _ _ _ _ _ _ Bl trivial rfl λUu G=>?_;have X0:Uu=q.kind:=G;cbv;refine iv (pC hP qW) ?_;cbv;refine v _ _ _ _ _ _ _ Bl ⟨by simp,qw⟩ rfl λql Qz=>?_;have H:ql=eY q-ub:=Qz;cbv;refine z _ _ q lb ub ql _ _ _ Bl qw qW rfl λqs PQ u' e1 Q f=>?_;rw[H] at e1 Q f;have I:P.c9 qs=((eY q-ub).toNat:Int):=by rw[da hP,e1,E]
   cbv;have pc:=W qs (by rw[e1,E];omega);refine pc _ _ _ _ _ _ _ _ m2 _ _ tD (by rw[e1,E];omega) rfl rfl rfl λRF n' J L w1 g=>?_;cbv;have kc:=D (P.c9 qs) (by rw[I];((try simp only[nc] at*);omega));refine kc _ _ _ _ _ _ _ _ m1 _ _ zA ⟨_,_,hb1,qW⟩ rfl rfl rfl λUv WH WI WJ w2 hw2=>?_;rw[I] at hw2;cbv;refine⟨_,c6.refl _,⟨[],ua,(fA (q::lb) ub (eY q-ub)).1,_,_,_,m1.gv ((eY q-ub).toNat:Int),_,_,_,_,_,m2.iK qs,_,_,_,_,_,j+(eY q-ub).toNat,v8,Q,hw2,g,tp,by rw[f];exact kG qw hk,?_,?_,?_,?_,?_,?_⟩,⟨rfl,rfl,rfl,rfl,trivial⟩,⟨rfl,rfl,rfl,rfl,rfl,rfl,trivial⟩,?_⟩
   ·rw[sH,s1,f,Mk.mJ,Mk.rW,E]
   ·rw[sI,s1,e1,f,Mk.mJ,Mk.xY]
   ·rw[f];exact s2
   ·exact(hb1.gv _ qW).mono qW qW
   ·exact(hb2.iK qs).mono qW (by rw[e1,E];omega)
   ·rw[f];((try simp only[nc] at*);omega)
   ·show(fY [] ua).length+(fY (fA (q::lb) ub (eY q-ub)).1 u').length<(fY [] ua).length+(fY (q::lb) ub).length;rw[f];((try simp only[nc] at*);omega)
 ·have WK:kx=p.kind:=XW;have Vc:=iU (tp.1 p (by simp));have ZO:=tp.2;simp only at ZO;refine iv (wm hP qW) ?_;cbv;refine i _ _ _ _ _ _ _ v8 trivial rfl λWG Su=>?_;have Vz:WG=p.kind:=Su;cbv
  by_cases p2:p.kind=2
  ·
   obtain⟨s1,s2,s3,E⟩:=Li tp p2 rK;have hk:0<=eY p-ua/\ua+(eY p-ua)<=eY p:=by omega
   have hsz:=size_le (tp.1 p (by simp));refine iv (pC hP qW) ?_;cbv;refine v _ _ _ _ _ _ _ v8 ⟨by simp,tp⟩ rfl λql Qz=>?_;have H:ql=eY p-ua:=Qz;cbv;refine z _ _ p la ua ql _ _ _ v8 tp qW rfl λqs PQ u' e1 Q f=>?_;rw[H] at e1 Q f;have I:P.c9 qs=((eY p-ua).toNat:Int):=by rw[da hP,e1,E]
   cbv;have pc:=W qs (by rw[e1,E];omega);refine pc _ _ _ _ _ _ _ _ m1 _ _ zA (by rw[e1,E];omega) rfl rfl rfl λRF n' J L w1 g=>?_;cbv;have kc:=D (P.c9 qs) (by rw[I];((try simp only[nc] at*);omega));refine kc _ _ _ _ _ _ _ _ m2 _ _ tD ⟨_,_,hb2,qW⟩ rfl rfl rfl λUv WH WI WJ w2 hw2=>?_;rw[I] at hw2;cbv;refine⟨_,c6.refl _,⟨(fA (p::la) ua (eY p-ua)).1,_,lb,ub,_,_,m1.iK qs,_,_,_,_,_,m2.gv ((eY p-ua).toNat:Int),_,_,_,_,_,j+(eY p-ua).toNat,Q,Bl,g,hw2,by rw[f];exact kG tp hk,qw,?_,?_,?_,?_,?_,?_⟩,⟨rfl,rfl,rfl,rfl,trivial⟩,⟨rfl,rfl,rfl,rfl,rfl,rfl,trivial⟩,?_⟩
   ·rw[sH,s1,e1,f,Mk.mJ,Mk.xY]
   ·rw[sI,s1,f,Mk.mJ,Mk.rW,E]
   ·rw[f];exact s2
   ·exact(hb1.iK qs).mono qW (by rw[e1,E];omega)
   ·exact(hb2.gv _ qW).mono qW qW
   ·rw[f];((try simp only[nc] at*);omega)
   ·show(fY (fA (p::la) ua (eY p-ua)).1 u').length+(fY lb ub).length<(fY (p::la) ua).length+(fY lb ub).length;rw[f];((try simp only[nc] at*);omega)
  ·refine hJ (wk hP qW) ?_;cbv
   rcases lb with _|⟨q,lb⟩
   ·exfalso
    have hk:0<=eY p-ua/\ua+(eY p-ua)<=eY p:=by omega
    rw[lR tp hk,oV,mX p ua _ (tp.1 p (by simp)),aa p2] at rK;simp[fY,fb,lH,fy] at rK;omega
   have WE:=iU (qw.1 q (by simp));have X1:=qw.2;simp only at X1
   by_cases q2:q.kind=2
   ·have hu:=X1;have U:=q2;have hk:0<=eY q-ub/\ub+(eY q-ub)<=eY q:=by omega
    obtain⟨s1,s2,s3,E⟩:=A1 qw U (la:=(p::la)) (ua:=ua) (OR tp p2) rK;have hsz:=size_le (qw.1 q (by simp));refine i _ _ _ _ _ _ _ Bl trivial rfl λUu G=>?_;have X0:Uu=q.kind:=G;cbv;refine iv (pC hP qW) ?_;cbv;refine v _ _ _ _ _ _ _ Bl ⟨by simp,qw⟩ rfl λql Qz=>?_;have H:ql=eY q-ub:=Qz;cbv;refine z _ _ q lb ub ql _ _ _ Bl qw qW rfl λqs PQ u' e1 Q f=>?_;rw[H] at e1 Q f;have I:P.c9 qs=((eY q-ub).toNat:Int):=by rw[da hP,e1,E]
    cbv;have pc:=W qs (by rw[e1,E];omega);refine pc _ _ _ _ _ _ _ _ m2 _ _ tD (by rw[e1,E];omega) rfl rfl rfl λRF n' J L w1 g=>?_;cbv;have kc:=D (P.c9 qs) (by rw[I];((try simp only[nc] at*);omega));refine kc _ _ _ _ _ _ _ _ m1 _ _ zA ⟨_,_,hb1,qW⟩ rfl rfl rfl λUv WH WI WJ w2 hw2=>?_;rw[I] at hw2;cbv;refine⟨_,c6.refl _,⟨(p::la),ua,(fA (q::lb) ub (eY q-ub)).1,_,_,_,m1.gv ((eY q-ub).toNat:Int),_,_,_,_,_,m2.iK qs,_,_,_,_,_,j+(eY q-ub).toNat,v8,Q,hw2,g,tp,by rw[f];exact kG qw hk,?_,?_,?_,?_,?_,?_⟩,⟨rfl,rfl,rfl,rfl,trivial⟩,⟨rfl,rfl,rfl,rfl,rfl,rfl,trivial⟩,?_⟩
    ·rw[sH,s1,f,Mk.mJ,Mk.rW,E]
    ·rw[sI,s1,e1,f,Mk.mJ,Mk.xY]
    ·rw[f];exact s2
    ·exact(hb1.gv _ qW).mono qW qW
    ·exact(hb2.iK qs).mono qW (by rw[e1,E];omega)
    ·rw[f];((try simp only[nc] at*);omega)
    ·show(fY (p::la) ua).length+(fY (fA (q::lb) ub (eY q-ub)).1 u').length<(fY (p::la) ua).length+(fY (q::lb) ub).length;rw[f];((try simp only[nc] at*);omega)
   ·refine i _ _ _ _ _ _ _ Bl trivial rfl λUu G=>?_;have X0:Uu=q.kind:=G;cbv;refine hJ (wk hP qW) ?_;cbv;refine v _ _ _ _ _ _ _ v8 ⟨by simp,tp⟩ rfl λq1 Vf=>?_;have Vf:q1=eY p-ua:=Vf;cbv;refine v _ _ _ _ _ _ _ Bl ⟨by simp,qw⟩ rfl λM U=>?_;have U:M=eY q-ub:=U;cbv;refine i _ _ _ _ _ _ _ v8 trivial rfl λZP WL=>?_;have hx3:ZP=p.kind:=WL;cbv;refine i _ _ _ _ _ _ _ Bl trivial rfl λZQ WM=>?_;have hy3:ZQ=q.kind:=WM;cbv;obtain⟨k,hk⟩:∃k,P.mn q1 M=k:=⟨_,rfl⟩;have hkv:k=min q1 M:=by rw[<-hk,TA hP]
    have C:0<k/\ua+k<=eY p/\ub+k<=eY q:=by omega
    obtain⟨s1,VA,s2,s3,E⟩:=CT (m1:=m1) (m2:=m2) (k:=k) tp qw p2 q2 qW C.2.1 C.2.2 rK;have hsz:=size_le (tp.1 p (by simp));refine z _ _ p la ua (P.mn q1 M) _ _ _ v8 tp (by rw[hk];omega) rfl λqs1 Lj u1 e1 Q f=>?_;rw[hk] at e1 Q f;cbv;refine z _ _ q lb ub (P.mn q1 M) _ _ _ Bl qw (by rw[hk];omega) rfl λqs2 ij u2 f1 f2 f3=>?_;rw[hk] at f1 f2 f3;cbv
    by_cases p3:p.kind=3
    ·by_cases q3:q.kind=3
     ·have A:hY m1 p q k=m1:=by simp[hY,p3,q3]
      have B:hZ m2 p q k=m2:=by simp[hZ,p3,q3]
      repeat first|(refine iv (pC hP qW) ?_;cbv)|(refine hJ (wk hP qW) ?_;cbv)
      refine⟨_,c6.refl _,⟨(fA (p::la) ua k).1,_,(fA (q::lb) ub k).1,_,_,_,m1,_,_,_,_,_,m2,_,_,_,_,_,j+k.toNat,Q,f2,zA,tD,by rw[f];exact kG tp ⟨qW,C.2.1⟩,by rw[f3];exact kG qw ⟨qW,C.2.2⟩,by rw[sH,s1,f,f3,A],by rw[sI,VA,f,f3,B],by rw[f,f3];exact s2,hb1.mono qW qW,hb2.mono qW qW,by rw[f,f3];((try simp only[nc] at*);omega)⟩,⟨rfl,rfl,rfl,rfl,trivial⟩,⟨rfl,rfl,rfl,rfl,rfl,rfl,trivial⟩,?_⟩;show(fY (fA (p::la) ua k).1 u1).length+(fY (fA (q::lb) ub k).1 u2).length<(fY (p::la) ua).length+(fY (q::lb) ub).length;rw[f,f3];((try simp only[nc] at*);omega)
     ·have VB:q.kind=1:=by omega
      have A:hY m1 p q k=m1.jE k:=by simp[hY,p3,VB]
      have B:hZ m2 p q k=m2:=by simp[hZ,p3]
      repeat first|(refine iv (pC hP qW) ?_;cbv)|(refine hJ (wk hP qW) ?_;cbv)
      have cc:=Uq (P.mn q1 M) (by rw[hk];omega);refine cc _ _ _ _ _ _ _ _ m1 _ _ zA ⟨_,_,hb1,qW⟩ rfl rfl rfl λRF n' J L w1 g=>?_;rw[hk] at g;cbv;refine⟨_,c6.refl _,⟨(fA (p::la) ua k).1,_,(fA (q::lb) ub k).1,_,_,_,m1.jE k,_,_,_,_,_,m2,_,_,_,_,_,j+k.toNat,Q,f2,g,tD,by rw[f];exact kG tp ⟨qW,C.2.1⟩,by rw[f3];exact kG qw ⟨qW,C.2.2⟩,by rw[sH,s1,f,f3,A],by rw[sI,VA,f,f3,B],by rw[f,f3];exact s2,(hb1.jE _ qW).mono qW qW,hb2.mono qW qW,by rw[f,f3];((try simp only[nc] at*);omega)⟩,⟨rfl,rfl,rfl,rfl,trivial⟩,⟨rfl,rfl,rfl,rfl,rfl,rfl,trivial⟩,?_⟩;show(fY (fA (p::la) ua k).1 u1).length+(fY (fA (q::lb) ub k).1 u2).length<(fY (p::la) ua).length+(fY (q::lb) ub).length;rw[f,f3];((try simp only[nc] at*);omega)
    ·have Ut:p.kind=1:=by omega
     by_cases q3:q.kind=3
     ·have A:hY m1 p q k=m1:=by simp[hY,Ut,q3]
      have B:hZ m2 p q k=m2.jE k:=by simp[hZ,Ut,q3]
      repeat first|(refine iv (pC hP qW) ?_;cbv)|(refine hJ (wk hP qW) ?_;cbv)
      have cc:=Uq (P.mn q1 M) (by rw[hk];omega);refine cc _ _ _ _ _ _ _ _ m2 _ _ tD ⟨_,_,hb2,qW⟩ rfl rfl rfl λRF n' J L w1 g=>?_;rw[hk] at g;cbv;refine⟨_,c6.refl _,⟨(fA (p::la) ua k).1,_,(fA (q::lb) ub k).1,_,_,_,m1,_,_,_,_,_,m2.jE k,_,_,_,_,_,j+k.toNat,Q,f2,zA,g,by rw[f];exact kG tp ⟨qW,C.2.1⟩,by rw[f3];exact kG qw ⟨qW,C.2.2⟩,by rw[sH,s1,f,f3,A],by rw[sI,VA,f,f3,B],by rw[f,f3];exact s2,hb1.mono qW qW,(hb2.jE _ qW).mono qW qW,by rw[f,f3];((try simp only[nc] at*);omega)⟩,⟨rfl,rfl,rfl,rfl,trivial⟩,⟨rfl,rfl,rfl,rfl,rfl,rfl,trivial⟩,?_⟩;show(fY (fA (p::la) ua k).1 u1).length+(fY (fA (q::lb) ub k).1 u2).length<(fY (p::la) ua).length+(fY (q::lb) ub).length;rw[f,f3];((try simp only[nc] at*);omega)
     ·have VB:q.kind=1:=by omega
      have A:hY m1 p q k=m1.gv k:=by simp[hY,Ut,VB]
      have B:hZ m2 p q k=m2.gv k:=by simp[hZ,Ut,VB]
      repeat first|(refine iv (pC hP qW) ?_;cbv)|(refine hJ (wk hP qW) ?_;cbv)
      have cc:=D (P.mn q1 M) (by rw[hk];omega);refine cc _ _ _ _ _ _ _ _ m1 _ _ zA ⟨_,_,hb1,qW⟩ rfl rfl rfl λRF n' J L w1 g=>?_;rw[hk] at g;cbv;refine cc _ _ _ _ _ _ _ _ m2 _ _ tD ⟨_,_,hb2,qW⟩ rfl rfl rfl λUv WH WI WJ w2 hw2=>?_;rw[hk] at hw2;cbv;refine⟨_,c6.refl _,⟨(fA (p::la) ua k).1,_,(fA (q::lb) ub k).1,_,_,_,m1.gv k,_,_,_,_,_,m2.gv k,_,_,_,_,_,j+k.toNat,Q,f2,g,hw2,by rw[f];exact kG tp ⟨qW,C.2.1⟩,by rw[f3];exact kG qw ⟨qW,C.2.2⟩,by rw[sH,s1,f,f3,A],by rw[sI,VA,f,f3,B],by rw[f,f3];exact s2,(hb1.gv _ qW).mono qW qW,(hb2.gv _ qW).mono qW qW,by rw[f,f3];((try simp only[nc] at*);omega)⟩,⟨rfl,rfl,rfl,rfl,trivial⟩,⟨rfl,rfl,rfl,rfl,rfl,rfl,trivial⟩,?_⟩;show(fY (fA (p::la) ua k).1 u1).length+(fY (fA (q::lb) ub k).1 u2).length<(fY (p::la) ua).length+(fY (q::lb) ub).length;rw[f,f3];((try simp only[nc] at*);omega)
def Lk:AC:=qr [qz 2 0] (qq (qr [qm 3 0] (qu 3 (qr [qz 2 1] .ret) .skip)) (qr [qz 2 0] .ret))
theorem Sv:fF Tryz.prog 131 Tryz.f131 Lk [.t 2] 1 er:=⟨Tryz.func131,by decide+kernel,by kernel_rfl,by kernel_rfl,by decide+kernel⟩
def Gs(b:Bool):Int:=if b then 1 else 0
theorem Sw(P:Prim)(T a:c8)(b:Bool)(r:Int)(hr:Gs b=r)(R:S->Prop)(c:∀s s' q,q=r->c6 s s'->iH [.t 2] [qI q] s'->R s):gj P T a Lk (S0 [.bool b] Hp.emp) R (λ_ _=>False) R:=by
 cases b<;>(cbv;exact c _ _ _ (by rw[<-hr];rfl) (c6.refl _) rfl)
theorem Ll(b:Bool):Spec Tryz.prog 131 [.bool b] Hp.emp (Is (.int .i64 (Gs b))):=
 ep iD Sv [.int .i64 (Gs b)] (.int _ _) λR a=>Sw dn _ _ b _ rfl R λs s' q h he hr=>by subst h;exact a s s' he hr
def Tb(d:List Part):Prop:=d.length<=1600/\∀p∈d,0<=p.n/\p.n<=500/\p.text.length<=500
theorem vT(p q:BS):fb [⟨2,0,p⟩,⟨1,(q.length:Int),[]⟩]=p.map .put++List.replicate q.length .keep:=by simp[fb,ji]
theorem tY(p q:BS):fb [⟨1,(p.length:Int),[]⟩,⟨2,0,q⟩]=List.replicate p.length .keep++q.map .put:=by simp[fb,ji]
def pe(l:List Part)(p q:BS):List Part:=l++[⟨2,0,p⟩,⟨1,(q.length:Int),[]⟩]
def pf(l:List Part)(p q:BS):List Part:=l++[⟨1,(p.length:Int),[]⟩,⟨2,0,q⟩]
def pg(l:List Part)(m k:Bool):List Part:=if m then l++[⟨if k then 1 else 3,1,[]⟩] else l
theorem A2(ts:List iY):∀p∈fK ts,p.length<=lf ts:=by
 have key:(fK ts).flatten.length<=lf ts:=by
  induction ts with
  |nil=>simp[fK,lf]
  |cons t ts ih=>
   cases t
   ·simp[fK,lf] at*;omega
   ·obtain⟨p,r,h⟩:=oU ts;rw[h] at ih;simp[fK,h,iJ,lf] at*;omega
   ·simp[fK,lf] at*;omega
 intro p hp;have:p.length<=(fK ts).flatten.length:=by
  obtain⟨a,b,c⟩:=ew hp;rw[c];simp;omega
 omega
def A3:AC:=qr [qo 4 (.mov (.c (.slice none 0 0))),qo 5 (.mov (.c (.slice none 0 0))),qz 6 0] (qq (qr [qm 20 0,qm 21 1,qo 22 (.bslice 30 1 [.t 20,.t 21]),qo 23 (.len false (.t 22)),qz 24 0] (.block 0 (.loop (qr [qb 25 .lss 24 23] (qq (qu 25 .skip (.exit 0)) (qq (.block 1 (qr [qo 26 (.iaddr 1 (.t 22) (.t 24)),ql 27 26,qm 8 27] (qr [qm 28 8,qa 29 89 [.t 28],qm 9 29] (qr [qm 30 9,qc 31 .neq 30 0] (qu 31 (qr [qm 32 9,qo 4 (.mov (.c (.slice none 0 0))),qo 5 (.mov (.c (.slice none 0 0))),qm 6 32] .ret) .skip))))) (qR [qc 33 .add 24 1,qm 24 33]))))))) (qq (qr [qm 34 0,qa 35 90 [.t 34],qm 36 1,qa 37 90 [.t 36],qb 38 .neq 35 37] (qu 38 (qr [qo 4 (.mov (.c (.slice none 0 0))),qo 5 (.mov (.c (.slice none 0 0))),qz 6 4] .ret) .skip)) (qr [qm 39 0,qa 40 83 [.t 39],qm 41 1,qa 42 83 [.t 41],qo 10 (.alloc 139 Td),qo 11 (.alloc 139 Td),qs 2 10 40,qs 2 11 42] (qr [qo 12 (.mov (.c (.slice none 0 0))),qo 13 (.mov (.c (.slice none 0 0)))] (qq (qr [qf 43 0 10,ql 44 43,qo 45 (.len false (.t 44)),qz 46 0] (.block 2 (.loop (qr [qb 47 .lss 46 45] (qq (qu 47 .skip (.exit 2)) (qq (.block 3 (qr [qm 48 46,qm 14 48] (qq (.region true [qm 49 12,qf 50 0 10,ql 51 50,qm 52 14,qo 53 (.iaddr 1 (.t 51) (.t 52)),ql 54 53,qo 55 (.build uk [(0,1,qk 2),(2,1,(.t 54))]),qf 56 0 11,ql 57 56,qm 58 14,qo 59 (.iaddr 1 (.t 57) (.t 58)),ql 60 59,qo 61 (.len true (.t 60)),qo 62 (.build uk [(0,1,qk 1),(1,1,(.t 61))]),qo 63 (.bslice 115 3 [.t 55,.t 62]),qo 64 (.append 115 3 32 (.t 49) (.t 63)),qm 12 64]) (qq (.region true [qm 65 13,qf 66 0 10,ql 67 66,qm 68 14,qo 69 (.iaddr 1 (.t 67) (.t 68)),ql 70 69,qo 71 (.len true (.t 70)),qo 72 (.build uk [(0,1,qk 1),(1,1,(.t 71))]),qf 73 0 11,ql 74 73,qm 75 14,qo 76 (.iaddr 1 (.t 74) (.t 75)),ql 77 76,qo 78 (.build uk [(0,1,qk 2),(2,1,(.t 77))]),qo 79 (.bslice 115 3 [.t 72,.t 78]),qo 80 (.append 115 3 32 (.t 65) (.t 79)),qm 13 80]) (qq (qr [qm 81 14,qf 82 1 10,ql 83 82,qo 84 (.len false (.t 83)),qb 85 .eql 81 84] (qu 85 (.exit 2) .skip)) (qq (qr [qf 86 1 11,ql 87 86,qm 88 14,qo 89 (.iaddr 1 (.t 87) (.t 88)),ql 90 89] (qu 90 (qR [qm 91 12,qf 92 1 10,ql 93 92,qm 94 14,qo 95 (.iaddr 1 (.t 93) (.t 94)),ql 96 95,qa 97 131 [.t 96],qo 98 (.bin .mul (qk 2) (.t 97)),qo 99 (.bin .sub (qk 3) (.t 98)),qo 100 (.build uk [(0,1,(.t 99)),(1,1,qk 1)]),qo 101 (.bslice 115 3 [.t 100]),qo 102 (.append 115 3 32 (.t 91) (.t 101)),qm 12 102]) .skip)) (qr [qf 103 1 10,ql 104 103,qm 105 14,qo 106 (.iaddr 1 (.t 104) (.t 105)),ql 107 106] (qu 107 (qR [qm 108 13,qf 109 1 11,ql 110 109,qm 111 14,qo 112 (.iaddr 1 (.t 110) (.t 111)),ql 113 112,qa 114 131 [.t 113],qo 115 (.bin .mul (qk 2) (.t 114)),qo 116 (.bin .sub (qk 3) (.t 115)),qo 117 (.build uk [(0,1,(.t 116)),(1,1,qk 1)]),qo 118 (.bslice 115 3 [.t 117]),qo 119 (.append 115 3 32 (.t 108) (.t 118)),qm 13 119]) .skip)))))))) (qR [qc 120 .add 46 1,qm 46 120]))))))) (qr [qm 121 12,qa 122 83 [.t 121],qa 123 132 [.t 122],qm 124 13,qa 125 83 [.t 124],qa 126 132 [.t 125],qm 15 123,qm 16 126] (qq (qr [qm 127 15,qm 128 16,qo 129 (.bslice 30 1 [.t 127,.t 128]),qo 130 (.len false (.t 129)),qz 131 0] (.block 4 (.loop (qr [qb 132 .lss 131 130] (qq (qu 132 .skip (.exit 4)) (qq (.block 5 (qr [qo 133 (.iaddr 1 (.t 129) (.t 131)),ql 134 133,qm 18 134] (qr [qm 135 18,qa 136 89 [.t 135],qm 19 136] (qr [qm 137 19,qc 138 .neq 137 0] (qu 138 (qr [qm 139 19,qo 4 (.mov (.c (.slice none 0 0))),qo 5 (.mov (.c (.slice none 0 0))),qm 6 139] .ret) .skip))))) (qR [qc 140 .add 131 1,qm 131 140]))))))) (qr [qm 141 15,qm 142 16,qm 4 141,qm 5 142,qz 6 0] .ret))))))))
theorem A4:fF Tryz.prog 91 Tryz.f91 A3 [.t 4,.t 5,.t 6] 2 er:=⟨Tryz.func91,by decide+kernel,by kernel_rfl,by kernel_rfl,by decide+kernel⟩
structure X2 where
 k:Int
 h0:k=0\/k=1\/k=2
structure ZR(ps qs:List BS)(ks ms:List Bool) where
 i:Nat
 k:Int
 p1:List BS
 r1:List BS
 p2:List BS
 r2:List BS
 k1:List Bool
 s1:List Bool
 k2:List Bool
 s2:List Bool
 l:List Part
 r:List Part
 nl:Nat
 nr:Nat
 rl:List (List V)
 rr:List (List V)
 bl:Option Nat
 br:Option Nat
 h1:ps=p1++r1/\p1.length=i
 h2:qs=p2++r2/\p2.length=i
 h3:ks=k1++s1/\k1.length=i
 h4:ms=k2++s2/\k2.length=i
 hk:k=(i:Int)
 mU:rl=l.map bd/\nl=l.length
 ku:rr=r.map bd/\nr=r.length
 hl:l.length<=3*i/\∀p∈l,0<=p.n/\p.n<=500/\p.text.length<=500
 hr:r.length<=3*i/\∀p∈r,0<=p.n/\p.n<=500/\p.text.length<=500
 zA:(iP ps ks qs ms).1=fb l++(iP r1 s1 r2 s2).1
 tD:(iP ps ks qs ms).2=fb r++(iP r1 s1 r2 s2).2
theorem A5(P:Prim)(hP:P=dn)(T T1:c8)(ra rb:List (List V))(c1 u i1 i2 e3 e4:Int)(ps qs:List BS)(ks ms:List Bool)(X3:ps.length=ks.length+1)(X4:qs.length=ks.length+1)(X5:ms.length=ks.length)(hks:ks.length<=500)(Vc:∀p∈ps,p.length<=500)(WE:∀p∈qs,p.length<=500)
  (xp xk yp yk:List (List V))(VC:xp=c7 ps)(WK:xk=gP ks)(hyp:yp=c7 qs)(XZ:yk=gP ms)(pv:List Part->V)(rc rd:List (List V))
  (Uw:gK T 89 [.sl false 3 ra] (qI c1))(X6:gK T 89 [.sl false 3 rb] (qI u))
  (WN:c1=0->gK T 90 [.sl false 3 ra] (qI i1))(hi2:u=0->gK T 90 [.sl false 3 rb] (qI i2))
  (O:c1=0->u=0->i1=i2->gK T 83 [.sl false 3 ra] (.agg [.sl false 1 xp,.sl false 1 xk]))(Q:c1=0->u=0->i1=i2->gK T 83 [.sl false 3 rb] (.agg [.sl false 1 yp,.sl false 1 yk]))
  (fB:Bool->Int)(X7:∀k,fB k=Gs k)(v:∀k:Bool,gK T 131 [.bool k] (qI (fB k)))
  (U:∀(d:List Part)(h:Hp)(K:V->Hp->Prop)(k:Nat)(b:Option Nat)(n:Nat)(rs:List (List V)),Tb d->rs=d.map bd->n=rs.length->h k=some ⟨b,115,3,rs⟩->K (pv d) h->T 83 [.own k b 3 n] h K)
  (VD:∀(d:List Part),Tb d->∀r,(c1=0->u=0->i1=i2->(fb d=(iP ps ks qs ms).1/\r=rc)\/(fb d=(iP ps ks qs ms).2/\r=rd))->c1=0->u=0->i1=i2->gK T 132 [pv d] (.sl false 3 r))
  (Ux:c1=0->u=0->i1=i2->gK T 89 [.sl false 3 rc] (qI e3))(Uy:c1=0->u=0->i1=i2->gK T 89 [.sl false 3 rd] (qI e4))
  (G H:List (List V))(e:Int)(b1:c1≠0->G=[]/\H=[]/\c1=e)(b2:c1=0->u≠0->G=[]/\H=[]/\u=e)(b3:c1=0->u=0->i1≠i2->G=[]/\H=[]/\4=e)
  (b4:c1=0->u=0->i1=i2->e3≠0->G=[]/\H=[]/\e3=e)(b5:c1=0->u=0->i1=i2->e3=0->e4≠0->G=[]/\H=[]/\e4=e)(b6:c1=0->u=0->i1=i2->e3=0->e4=0->rc=G/\rd=H/\0=e)
  (R:S->Prop)(hR:CU [.t 4,.t 5,.t 6] G H e R):gj P T T1 A3 (S0 [.sl false 3 ra,.sl false 3 rb] Hp.emp) R (λ_ _=>False) R:=by
 have ZS:P.dv xp=(ps.length:Int):=by rw[gE hP,VC];simp[c7]
 have X8:P.dv xk=(ks.length:Int):=by rw[gE hP,WK];simp[gP]
 have j:P.int 2=2:=by rw[int_eq hP];rfl
 cbv;intro Uz;cbv;refine⟨{y:X2//(y.k≠0->c1=0)/\(y.k=2->u=0)},λy=>[(0,.sl false 3 ra),(1,.sl false 3 rb),(22,.own 1000022 (some Uz) 1 2),(23,qI (P.int 2)),(24,qI y.1.k)],
  λy=>[(1000022,⟨some Uz,30,1,[[.sl false 3 ra],[.sl false 3 rb]]⟩)],λy=>(2-y.1.k).toNat,
  ⟨_,c6.refl _,⟨⟨0,.inl rfl⟩,λh=>absurd rfl h,λh=>by cases h⟩,⟨rfl,rfl,rfl,rfl,rfl,trivial⟩,⟨rfl,trivial⟩⟩,?_⟩
 rintro⟨⟨k,hk⟩,I,hk2⟩;simp only[] at I hk2;have f:P.fC 0 k:=iu hP qW;cbv;refine ab (λh=>?_) (λh=>?_)
 ·have h2:k<P.int 2:=fJ hP h;rw[j] at h2;have w:P.iO k (P.int 2):=kN hP (by rw[j];exact h2);have W:P.i64 (P.add k 1):=by rw[add_eq hP];exact eR hP qW
  clear WN hi2 O Q U VD Ux Uy v
  by_cases J:k=0
  ·have g:P.row [[.sl false 3 ra],[.sl false 3 rb]] (P.nat k) [.sl false 3 ra]:=ga hP (i:=0) J rfl;cbv;refine⟨f,w,_,g,?_⟩;cbv;refine Uw _ _ ?_;cbv;refine ab (λh=>?_) (λh=>?_)
   ·have hc:c1≠0:=hH hP h;cbv;exact hR.1 _ _ _ (c6.refl _) rfl (b1 hc)
   ·have hc:c1=0:=gZ hP h;cbv;refine⟨W,?_⟩;have e1:P.add k 1=1:=by rw[add_eq hP,J];rfl
    refine⟨_,c6.refl _,⟨⟨_,.inr (.inl e1)⟩,λ_=>hc,λh=>?_⟩,⟨rfl,rfl,rfl,rfl,rfl,trivial⟩,⟨rfl,trivial⟩,?_⟩
    ·have h:P.add k 1=2:=h;omega
    ·show(2-P.add k 1).toNat<(2-k).toNat;omega
  ·have A:k=1:=by omega
   have hc1:=I J;have g:P.row [[.sl false 3 ra],[.sl false 3 rb]] (P.nat k) [.sl false 3 rb]:=ga hP (i:=1) A rfl;cbv;refine⟨f,w,_,g,?_⟩;cbv;refine X6 _ _ ?_;cbv;refine ab (λh=>?_) (λh=>?_)
   ·have hc:u≠0:=hH hP h;cbv;exact hR.1 _ _ _ (c6.refl _) rfl (b2 hc1 hc)
   ·have hc:u=0:=gZ hP h;cbv;refine⟨W,?_⟩;have e1:P.add k 1=2:=by rw[add_eq hP,A];rfl
    refine⟨_,c6.refl _,⟨⟨_,.inr (.inr e1)⟩,λ_=>hc1,λ_=>hc⟩,⟨rfl,rfl,rfl,rfl,rfl,trivial⟩,⟨rfl,trivial⟩,?_⟩;show(2-P.add k 1).toNat<(2-k).toNat;omega
 have h2:¬k<P.int 2:=fM hP h;rw[j] at h2;have X:k=2:=by omega
 have hc1:=I qW;have a:=hk2 X;have f1:=WN hc1;have f2:=hi2 a
 replace b3:=b3 hc1 a
 replace b4:=b4 hc1 a
 replace b5:=b5 hc1 a
 replace b6:=b6 hc1 a
 clear WN hi2 Uw X6 b1 b2 f h;cbv;refine f1 _ _ ?_;cbv;refine f2 _ _ ?_;clear f1 f2;cbv;refine ab (λh=>?_) (λh=>?_)
 ·have hc:i1≠i2:=hH hP h;cbv;exact hR.1 _ _ _ (c6.refl _) rfl (b3 hc)
 have s:i1=i2:=gZ hP h;clear b3 h
 replace b4:=b4 s
 replace b5:=b5 s
 replace b6:=b6 s
 have f1:=O hc1 a s;have f2:=Q hc1 a s;have f3:=Ux hc1 a s;have f4:=Uy hc1 a s;have Y:∀(d:List Part),Tb d->fb d=(iP ps ks qs ms).1->gK T 132 [pv d] (.sl false 3 rc):=λd hd ht=>VD d hd rc (λ_ _ _=>.inl ⟨ht,rfl⟩) hc1 a s;have Z:∀(d:List Part),Tb d->fb d=(iP ps ks qs ms).2->gK T 132 [pv d] (.sl false 3 rd):=λd hd ht=>VD d hd rd (λ_ _ _=>.inr ⟨ht,rfl⟩) hc1 a s;clear O Q Ux Uy VD;cbv;refine f1 _ _ ?_;cbv;refine f2 _ _ ?_;clear f1 f2;cbv;intro NM;cbv;intro RE;cbv;refine⟨ZR ps qs ks ms,λy=>[(10,.ptr 10 (some NM) 2 0 0),(11,.ptr 11 (some RE) 2 0 0),(12,.own 1000064 y.bl 3 y.nl),(13,.own 1000080 y.br 3 y.nr),(45,qI (P.dv xp)),(46,qI y.k)],
  λy=>[(10,⟨some NM,139,2,[[.sl false 1 xp,.sl false 1 xk]]⟩),(11,⟨some RE,139,2,[[.sl false 1 yp,.sl false 1 yk]]⟩),(1000064,⟨y.bl,115,3,y.rl⟩),(1000080,⟨y.br,115,3,y.rr⟩)],λy=>y.r1.length,
  ⟨_,c6.trans (c6.nil (i:=12) (k:=1000064) (ty:=115) (sz:=3) rfl rfl) (c6.nil (i:=13) (k:=1000080) (ty:=115) (sz:=3) rfl rfl),
   ⟨0,0,[],ps,[],qs,[],ks,[],ms,[],[],_,_,_,_,_,_,⟨rfl,rfl⟩,⟨rfl,rfl⟩,⟨rfl,rfl⟩,⟨rfl,rfl⟩,rfl,⟨rfl,rfl⟩,⟨rfl,rfl⟩,⟨by simp,by simp⟩,⟨by simp,by simp⟩,rfl,rfl⟩,⟨rfl,rfl,rfl,rfl,rfl,rfl,trivial⟩,⟨rfl,rfl,rfl,rfl,trivial⟩⟩,?_⟩
 rintro⟨i,k,p1,r1,p2,r2,k1,s1,VE,s2,l,r,nl,nr,rl,rr,bl,br_,⟨h1,UA⟩,⟨L,UB⟩,⟨h3,UC⟩,⟨h4,UD⟩,UE,⟨mU,WO⟩,⟨ku,PC⟩,⟨Vy,GK⟩,⟨hr1,Tc⟩,zA,tD⟩;have ZT:r1.length=s1.length+1:=by rw[h1,h3] at X3;simp at X3;omega
 have ZU:r2.length=s1.length+1:=by rw[L,h3] at X4;simp at X4;omega
 have ZV:s2.length=s1.length:=by rw[h3,h4] at X5;simp at X5;omega
 have ZW:i+s1.length=ks.length:=by rw[h3];simp;omega
 rcases r1 with _|⟨p,r1⟩
 ·simp at ZT
 rcases r2 with _|⟨q,r2⟩
 ·simp at ZU
 have hpl:p.length<=500:=Vc p (by rw[h1];simp);have Qz:q.length<=500:=WE q (by rw[L];simp);have X9:P.row xp (P.nat k) [.str p]:=ga hP UE (by rw[VC,c7,av,h1,<-UA];simp);have Ya:P.row yp (P.nat k) [.str q]:=ga hP UE (by rw[hyp,c7,av,L,<-UB];simp);have f:P.fC 0 k:=iu hP qW;have w:P.i64 (P.add k 1):=by rw[add_eq hP];exact eR hP qW
 have a1:P.nL rl nl:=by subst hP;show rl.length=nl;rw[mU,WO];simp
 have a2:P.nL rr nr:=by subst hP;show rr.length=nr;rw[ku,PC];simp
 have a3:∀x y,P.bytes (P.add (P.int nl) (P.dv [x,y])) 32:=by intro x y;subst hP;show((nl:Int)+2)*32<=_;omega
 have a4:∀x y,P.bytes (P.add (P.int nr) (P.dv [x,y])) 32:=by intro x y;subst hP;show((nr:Int)+2)*32<=_;omega
 have a5:∀x y,P.nL [x,y] 2:=by intro x y;subst hP;rfl
 have Sx:Tb (pe l p q):=by
  refine⟨by simp[pe];omega,λx hx=>?_⟩;simp only[pe,bn,aw,aD,bw] at hx
  rcases hx with hx|rfl|rfl
  ·exact GK x hx
  ·simp;omega
  ·simp;omega
 have Sy:Tb (pf r p q):=by
  refine⟨by simp[pf];omega,λx hx=>?_⟩;simp only[pf,bn,aw,aD,bw] at hx
  rcases hx with hx|rfl|rfl
  ·exact Tc x hx
  ·simp;omega
  ·simp;omega
 have N:P.kB rl [[qI 2,qI 0,.str p],[qI 1,qI (P.c9 q),.str []]]=(pe l p q).map bd:=by
  rw[mU];subst hP;simp[dn,pe,bd]
 have o:P.kB rr [[qI 1,qI (P.c9 p),.str []],[qI 2,qI 0,.str q]]=(pf r p q).map bd:=by
  rw[ku];subst hP;simp[dn,pf,bd]
 have UF:∀x y,P.hU nl (P.fQ [x,y])=(pe l p q).length:=by intro x y;subst hP;simp[dn,pe,WO]
 have UG:∀x y,P.hU nr (P.fQ [x,y])=(pf r p q).length:=by intro x y;subst hP;simp[dn,pf,PC]
 cbv;refine ab (λh=>?_) (λh=>?_)
 rotate_left
 ·exfalso
  have h5:¬k<P.dv xp:=fM hP h;rw[ZS] at h5;rw[h1] at h5;simp at h5
  ((try simp only[nc] at*);omega)
 cbv
 repeat' first|(refine And.intro (by assumption) ?_;cbv)|(refine And.intro (a5 _ _) ?_;cbv)|(refine And.intro (a3 _ _) ?_;cbv)|(refine And.intro (a4 _ _) ?_;cbv)|(intro β;cbv)|(refine Exists.intro _ (And.intro (by assumption) ?_);cbv)
 refine ab (λh=>?_) (λh=>?_)
 ·have h5:k=P.dv xk:=nG hP h;rw[X8] at h5;have hs1:s1=[]:=ay qO;have hs2:s2=[]:=ay qO;subst hs1 hs2;have t1:fb (pe l p q)=(iP ps ks qs ms).1:=by rw[zA,pe,l7,vT];simp[iP]
  have t2:fb (pf r p q)=(iP ps ks qs ms).2:=by rw[tD,pf,l7,tY];simp[iP]
  have g1:=Y _ Sx t1;have g2:=Z _ Sy t2;clear Y Z v;cbv;refine U (pe l p q) _ _ _ _ _ _ Sx N ((UF _ _).trans (by rw[N];simp)) rfl ?_;cbv;refine g1 _ _ ?_;cbv;refine U (pf r p q) _ _ _ _ _ _ Sy o ((UG _ _).trans (by rw[o];simp)) rfl ?_;cbv;refine g2 _ _ ?_;clear g1 g2 U N o UF UG a1 a2 a3 a4 a5;cbv;intro PR;cbv;refine⟨{y:X2//(y.k≠0->e3=0)/\(y.k=2->e4=0)},λy=>[(15,.sl false 3 rc),(16,.sl false 3 rd),(129,.own 1000129 (some PR) 1 2),(130,qI (P.int 2)),(131,qI y.1.k)],
   λy=>[(1000129,⟨some PR,30,1,[[.sl false 3 rc],[.sl false 3 rd]]⟩)],λy=>(2-y.1.k).toNat,
   ⟨_,c6.refl _,⟨⟨0,.inl rfl⟩,λh=>absurd rfl h,λh=>by cases h⟩,⟨rfl,rfl,rfl,rfl,rfl,trivial⟩,⟨rfl,trivial⟩⟩,?_⟩
  rintro⟨⟨k,hk⟩,I,hk2⟩;simp only[] at I hk2;have f:P.fC 0 k:=iu hP qW;cbv;refine ab (λh=>?_) (λh=>?_)
  ·have h2:k<P.int 2:=fJ hP h;rw[j] at h2;have w:P.iO k (P.int 2):=kN hP (by rw[j];exact h2);have W:P.i64 (P.add k 1):=by rw[add_eq hP];exact eR hP qW
   by_cases J:k=0
   ·have g:P.row [[.sl false 3 rc],[.sl false 3 rd]] (P.nat k) [.sl false 3 rc]:=ga hP (i:=0) J rfl;cbv;refine⟨f,w,_,g,?_⟩;cbv;refine f3 _ _ ?_;cbv;refine ab (λh=>?_) (λh=>?_)
    ·have hc:e3≠0:=hH hP h;cbv;exact hR.1 _ _ _ (c6.refl _) rfl (b4 hc)
    ·have hc:e3=0:=gZ hP h;cbv;refine⟨W,?_⟩;have e1:P.add k 1=1:=by rw[add_eq hP,J];rfl
     refine⟨_,c6.refl _,⟨⟨_,.inr (.inl e1)⟩,λ_=>hc,λh=>?_⟩,⟨rfl,rfl,rfl,rfl,rfl,trivial⟩,⟨rfl,trivial⟩,?_⟩
     ·have h:P.add k 1=2:=h;omega
     ·show(2-P.add k 1).toNat<(2-k).toNat;omega
   ·have A:k=1:=by omega
    have hc1:=I J;have g:P.row [[.sl false 3 rc],[.sl false 3 rd]] (P.nat k) [.sl false 3 rd]:=ga hP (i:=1) A rfl;cbv;refine⟨f,w,_,g,?_⟩;cbv;refine f4 _ _ ?_;cbv;refine ab (λh=>?_) (λh=>?_)
    ·have hc:e4≠0:=hH hP h;cbv;exact hR.1 _ _ _ (c6.refl _) rfl (b5 hc1 hc)
    ·have hc:e4=0:=gZ hP h;cbv;refine⟨W,?_⟩;have e1:P.add k 1=2:=by rw[add_eq hP,A];rfl
     refine⟨_,c6.refl _,⟨⟨_,.inr (.inr e1)⟩,λ_=>hc1,λ_=>hc⟩,⟨rfl,rfl,rfl,rfl,rfl,trivial⟩,⟨rfl,trivial⟩,?_⟩;show(2-P.add k 1).toNat<(2-k).toNat;omega
  have h2:¬k<P.int 2:=fM hP h;rw[j] at h2;have X:k=2:=by omega
  have hc1:=I qW;have a:=hk2 X;cbv;exact hR.2.2 _ _ _ _ _ (c6.refl _) rfl (b6 hc1 a)
 ·have h5:¬k=P.dv xk:=nH hP h;rw[X8] at h5
  rcases s1 with _|⟨x1,s1⟩
  ·exfalso;simp at ZW;((try simp only[nc] at*);omega)
  rcases s2 with _|⟨y1,s2⟩
  ·simp at ZV
  have PS:P.row xk (P.nat k) [.bool x1]:=ga hP UE (by rw[WK,gP,av,h3,<-UC];simp);have M:P.row yk (P.nat k) [.bool y1]:=ga hP UE (by rw[XZ,gP,av,h4,<-UD];simp);have B:(iP ps ks qs ms).1=fb (pg (pe l p q) y1 x1)++(iP r1 s1 r2 s2).1:=by
   rw[zA];cases x1<;>cases y1<;>simp[pg,pe,l7,vT,iP,tM,fb,ji]
  have C:(iP ps ks qs ms).2=fb (pg (pf r p q) x1 y1)++(iP r1 s1 r2 s2).2:=by
   rw[tD];cases x1<;>cases y1<;>simp[pg,pf,l7,tY,iP,tM,fb,ji]
  have Yb:∀(l:List Part)(m k:Bool),(∀p∈l,0<=p.n/\p.n<=500/\p.text.length<=500)->∀p∈pg l m k,0<=p.n/\p.n<=500/\p.text.length<=500:=by
   intro l m k hl x hx;unfold pg at hx
   split at hx
   ·simp only[bn,aw,aD,bw] at hx
    rcases hx with hx|rfl
    ·exact hl x hx
    ·simp
   ·exact hl x hx
  have UH:∀(l:List Part)(m k:Bool),(pg l m k).length<=l.length+1:=by
   intro l m k;unfold pg;split<;>simp
  have nl1:=UH (pe l p q) y1 x1;have nr1:=UH (pf r p q) x1 y1;have D:=Yb _ y1 x1 Sx.2;have E:=Yb _ x1 y1 Sy.2;have nl3:(pe l p q).length=l.length+2:=by simp[pe]
  have nr3:(pf r p q).length=r.length+2:=by simp[pf]
  have g1:∀x y,P.nL (P.kB rl [x,y]) (P.hU nl (P.fQ [x,y])):=by intro x y;subst hP;show(rl++[x,y]).length=nl+2;rw[mU,WO];simp
  have g2:∀x y,P.nL (P.kB rr [x,y]) (P.hU nr (P.fQ [x,y])):=by intro x y;subst hP;show(rr++[x,y]).length=nr+2;rw[ku,PC];simp
  have g3:∀x y z,P.bytes (P.add (P.int (P.hU nl (P.fQ [x,y]))) (P.dv [z])) 32:=by intro x y z;subst hP;show(((nl+2:Nat):Int)+1)*32<=_;omega
  have g4:∀x y z,P.bytes (P.add (P.int (P.hU nr (P.fQ [x,y]))) (P.dv [z])) 32:=by intro x y z;subst hP;show(((nr+2:Nat):Int)+1)*32<=_;omega
  have g5:∀z,P.nL [z] 1:=by intro z;subst hP;rfl
  have kv:∀x:Bool,P.sub 3 (P.mul 2 (fB x))=if x then 1 else 3:=by intro x;rw[X7];subst hP;cases x<;>rfl
  have j1:∀x:Bool,P.i64 (P.mul 2 (fB x)):=by intro x;rw[X7];subst hP;cases x<;>exact⟨qD,qD⟩
  have j2:∀x:Bool,P.i64 (P.sub 3 (P.mul 2 (fB x))):=by intro x;rw[kv];exact eR hP (by split<;>omega)
  have Yc:P.kB (P.kB rl [[qI 2,qI 0,.str p],[qI 1,qI (P.c9 q),.str []]]) [[qI (P.sub 3 (P.mul 2 (fB x1))),qI 1,.str []]]=(pg (pe l p q) true x1).map bd:=by
   rw[N,kv];subst hP;simp[dn,pg,bd]
  have Yd:P.kB (P.kB rr [[qI 1,qI (P.c9 p),.str []],[qI 2,qI 0,.str q]]) [[qI (P.sub 3 (P.mul 2 (fB y1))),qI 1,.str []]]=(pg (pf r p q) true y1).map bd:=by
   rw[o,kv];subst hP;simp[dn,pg,bd]
  have Ye:∀x y z,P.hU (P.hU nl (P.fQ [x,y])) (P.fQ [z])=(pg (pe l p q) true x1).length:=by intro x y z;rw[UF];subst hP;simp[dn,pg]
  have Yf:∀x y z,P.hU (P.hU nr (P.fQ [x,y])) (P.fQ [z])=(pg (pf r p q) true y1).length:=by intro x y z;rw[UG];subst hP;simp[dn,pg]
  have Vj:=v x1;have Yg:=v y1;have VF:P.add k 1=((i+1:Nat):Int):=by rw[add_eq hP,UE];((try simp only[nc] at*);omega)
  have F:(pg (pe l p q) y1 x1).length<=3*(i+1):=by omega
  have c:(pg (pf r p q) x1 y1).length<=3*(i+1):=by omega
  clear Y Z v U hR f3 f4 b4 b5 b6;cbv;refine⟨f,_,M,?_⟩;cbv;refine ab (λhy=>?_) (λhy=>?_)
  ·cbv;refine⟨f,_,PS,?_⟩;cbv;refine Vj _ _ ?_;cbv;refine⟨j1 _,j2 _,?_⟩
   try cbv
   repeat' first|(refine And.intro (by assumption) ?_;cbv)|(refine And.intro (g5 _) ?_;cbv)|(refine And.intro (g1 _ _) ?_;cbv)|(refine And.intro (g3 _ _ _) ?_;cbv)|(intro β;cbv)|(refine Exists.intro _ (And.intro (by assumption) ?_);cbv)
   refine ab (λhx=>?_) (λhx=>?_)
   ·cbv;refine⟨f,_,M,?_⟩;cbv;refine Yg _ _ ?_;cbv;refine⟨j1 _,j2 _,?_⟩
    try cbv
    repeat' first|(refine And.intro (by assumption) ?_;cbv)|(refine And.intro (g5 _) ?_;cbv)|(refine And.intro (g2 _ _) ?_;cbv)|(refine And.intro (g4 _ _ _) ?_;cbv)|(intro β;cbv)|(refine Exists.intro _ (And.intro (by assumption) ?_);cbv)
    rw[hy] at B F D;rw[hx] at C c E;refine⟨_,c6.refl _,⟨i+1,_,p1++[p],r1,p2++[q],r2,k1++[x1],s1,VE++[y1],s2,_,_,_,_,_,_,_,_,⟨by simp[h1],by simp[UA]⟩,⟨by simp[L],by simp[UB]⟩,⟨by simp[h3],by simp[UC]⟩,⟨by simp[h4],by simp[UD]⟩,VF,⟨Yc,Ye _ _ _⟩,⟨Yd,Yf _ _ _⟩,⟨F,D⟩,⟨c,E⟩,B,C⟩,⟨rfl,rfl,rfl,rfl,rfl,rfl,trivial⟩,⟨rfl,rfl,rfl,rfl,trivial⟩,by simp⟩
   ·cbv
    try refine⟨w,?_⟩
    rw[hy] at B F D;rw[hx] at C c E;refine⟨_,c6.refl _,⟨i+1,_,p1++[p],r1,p2++[q],r2,k1++[x1],s1,VE++[y1],s2,_,_,_,_,_,_,_,_,⟨by simp[h1],by simp[UA]⟩,⟨by simp[L],by simp[UB]⟩,⟨by simp[h3],by simp[UC]⟩,⟨by simp[h4],by simp[UD]⟩,VF,⟨Yc,Ye _ _ _⟩,⟨o,UG _ _⟩,⟨F,D⟩,⟨c,E⟩,B,C⟩,⟨rfl,rfl,rfl,rfl,rfl,rfl,trivial⟩,⟨rfl,rfl,rfl,rfl,trivial⟩,by simp⟩
  ·cbv;refine⟨f,_,PS,?_⟩;cbv;refine ab (λhx=>?_) (λhx=>?_)
   ·cbv;refine⟨f,_,M,?_⟩;cbv;refine Yg _ _ ?_;cbv;refine⟨j1 _,j2 _,?_⟩
    try cbv
    repeat' first|(refine And.intro (by assumption) ?_;cbv)|(refine And.intro (g5 _) ?_;cbv)|(refine And.intro (g2 _ _) ?_;cbv)|(refine And.intro (g4 _ _ _) ?_;cbv)|(intro β;cbv)|(refine Exists.intro _ (And.intro (by assumption) ?_);cbv)
    rw[hy] at B F D;rw[hx] at C c E;refine⟨_,c6.refl _,⟨i+1,_,p1++[p],r1,p2++[q],r2,k1++[x1],s1,VE++[y1],s2,_,_,_,_,_,_,_,_,⟨by simp[h1],by simp[UA]⟩,⟨by simp[L],by simp[UB]⟩,⟨by simp[h3],by simp[UC]⟩,⟨by simp[h4],by simp[UD]⟩,VF,⟨N,UF _ _⟩,⟨Yd,Yf _ _ _⟩,⟨F,D⟩,⟨c,E⟩,B,C⟩,⟨rfl,rfl,rfl,rfl,rfl,rfl,trivial⟩,⟨rfl,rfl,rfl,rfl,trivial⟩,by simp⟩
   ·cbv
    try refine⟨w,?_⟩
    rw[hy] at B F D;rw[hx] at C c E;refine⟨_,c6.refl _,⟨i+1,_,p1++[p],r1,p2++[q],r2,k1++[x1],s1,VE++[y1],s2,_,_,_,_,_,_,_,_,⟨by simp[h1],by simp[UA]⟩,⟨by simp[L],by simp[UB]⟩,⟨by simp[h3],by simp[UC]⟩,⟨by simp[h4],by simp[UD]⟩,VF,⟨N,UF _ _⟩,⟨o,UG _ _⟩,⟨F,D⟩,⟨c,E⟩,B,C⟩,⟨rfl,rfl,rfl,rfl,rfl,rfl,trivial⟩,⟨rfl,rfl,rfl,rfl,trivial⟩,by simp⟩
theorem A6(d:List Part)(h:ed d=0):(fb d).length<=1000:=by
 obtain⟨h1,h2,h3,h4,h5,h6⟩:=fP h;have e1:=l9 d h2;have a:=mV d h2;have:∀ts:List iY,ts.length<=lH ts+lf ts:=by
  intro ts
  induction ts with
  |nil=>simp
  |cons t ts ih=>cases t<;>simp[lH,fy,lf] at* <;>omega
 have:=this (fb d);omega
theorem Gt(a b:List Part)(ha:ed a=0)(hb:ed b=0):(nY a b).length<=10000000/\(oJ a b).length<=10000000:=by
 have h1:=A6 a ha;have h2:=A6 b hb;have h3:=Gr ((fb a).length+(fb b).length) (fb a) (fb b);exact⟨Dx _ (by show(hW _ _ _).1.length<=_;omega),Dx _ (by show(hW _ _ _).2.length<=_;omega)⟩
theorem pZ{a b:List Part}{e:Int}(h:oK a b=e)(h0:e≠0):iS a b=([],[],e):=by unfold iS;rw[h,aa h0]
theorem OU{a b:List Part}(h:oK a b=0):iS a b=(nY a b,oJ a b,0):=by unfold iS;rw[ae h]
theorem OV(a b:List Part)(ha:a.length<=maxLen)(hb:b.length<=maxLen):Spec Tryz.prog 88 [gh a,gh b] Hp.emp (Is (.tup [gh (iS a b).1,gh (iS a b).2.1,.int .i64 (iS a b).2.2])):=
 jq iD OS λR e=>OT dn rfl _ _ a b _ _ rfl rfl (λk hk=>Tv k hk) (λs hs=>VW s hs) (λk hk=>VX k hk) Tw TO Co Cp TN
  (λd h K k b n rs q hd c hn hq hk hK=>⟨h,jU.refl h,lN (oo d (by(have:maxLen=9223372036854775807:=by decide);omega)) (.cons (.own k b 3 n _ (by rw[jO hn hk,c]) (by simp)) .nil) (by rw[hq] at hK;exact hK)⟩)
  _ _ _ _ _ _ rfl rfl (oW (xW a ha) rfl) (oW (xW b hb) rfl) _ _ _ rfl _ _ rfl rfl R (tq e)
theorem Lm(a b:List Part)(h:lH (fb a)=lH (fb b)):iP (fK (fb a)) (fy (fb a)) (fK (fb b)) (fy (fb b))=mt (fb a) (fb b):=mM _ _ _ (ah _) h
theorem Ln(a b:List Part)(ha:a.length<=maxLen)(hb:b.length<=maxLen):Spec Tryz.prog 91 [gh a,gh b] Hp.emp (Is (.tup [gh (iS a b).1,gh (iS a b).2.1,.int .i64 (iS a b).2.2])):=by
 have v:maxLen=9223372036854775807:=by decide
 by_cases c:ed a=0/\ed b=0/\kU a=kU b
 ·obtain⟨s,t,m⟩:=c;obtain⟨o,f,w,x,_,_⟩:=fP s;obtain⟨q,i,hb1,hb2,_,_⟩:=fP t;have e1:=l9 a f;have y:=l9 b i;have A:=mV a f;have B:=mV b i;have rK:lH (fb a)=lH (fb b):=by omega
  obtain⟨C,D⟩:=Gt a b s t;have hm:=Lm a b rK;have k1:(fy (fb b)).length=(fy (fb a)).length:=rK.symm;have j:oK a b=if ed (nY a b)≠0 then ed (nY a b) else ed (oJ a b):=by
   unfold oK;rw[aa (λh=>h s),aa (λh=>h t),aa (λh=>h m)]
  exact jq iD A4 λR u=>A5 dn rfl _ _ (a.map bd) (b.map bd) (ed a) (ed b) (kU a) (kU b) (ed (nY a b)) (ed (oJ a b)) (fK (fb a)) (fK (fb b)) (fy (fb a)) (fy (fb b)) (nd _) (by rw[nd,k1]) k1 (by show lH (fb a)<=500;omega)
   (λp hp=>by have:=A2 _ p hp;omega) (λp hp=>by have:=A2 _ p hp;omega) _ _ _ _ rfl rfl rfl rfl (λd=>tJ (fK (fb d)) (fy (fb d))) ((nY a b).map bd) ((oJ a b).map bd)
   (oW (jZ a ha) rfl) (oW (jZ b hb) rfl) (λ_=>oW (rA a o f) rfl) (λ_=>oW (rA b q i) rfl) (λ_ _ _=>oW (sY a o (zG f)) rfl) (λ_ _ _=>oW (sY b q (zG i)) rfl)
   Gs (λ_=>rfl) (λk=>ia (Ll k) (λh=>.cons (.same _) .nil) rfl)
   (λd h K k b n rs hd l hn hk hK=>⟨h,jU.refl h,lN (sY d hd.1 hd.2) (.cons (.own k b 3 n _ (by rw[jO hn hk,l]) (by simp)) .nil) hK⟩)
   (λd hd r hr e z2 z3=>by
    have hl:=Dw d hd.1 hd.2;have h1:=ia (Tu (fK (fb d)) (fy (fb d)) (nd _) (by have:=vm (fb d);omega) (by have:=wY (fb d);omega)) (args':=_) (args:=[tJ (fK (fb d)) (fy (fb d))]) (λh=>.cons (B4 h _ _) .nil) rfl;have h2:VV (fK (fb d)) (fy (fb d))=Qu (fb d):=by unfold VV Qu;rw[H7]
    rcases hr e z2 z3 with⟨h3,rfl⟩|⟨h3,rfl⟩
    ·rw[h2,show Qu (fb d)=nY a b by rw[h3,hm];rfl] at h1;exact h1
    ·rw[h2,show Qu (fb d)=oJ a b by rw[h3,hm];rfl] at h1;exact h1)
   (λ_ _ _=>oW (jZ (nY a b) qW) rfl) (λ_ _ _=>oW (jZ (oJ a b) qW) rfl)
   ((iS a b).1.map bd) ((iS a b).2.1.map bd) (iS a b).2.2 (λh=>absurd s h) (λ_ h=>absurd t h) (λ_ _ h=>absurd m h)
   (λ_ _ _ h=>by rw[pZ (j.trans (ae h)) h];exact⟨rfl,rfl,rfl⟩)
   (λ_ _ _ h h'=>by rw[pZ (j.trans (aa (λg=>g h))) h'];exact⟨rfl,rfl,rfl⟩)
   (λ_ _ _ h h'=>by rw[OU ((j.trans (aa (λg=>g h))).trans h')];exact⟨rfl,rfl,rfl⟩) R (tq u)
 ·have j:oK a b=if ed a≠0 then ed a else if ed b≠0 then ed b else 4:=by
   unfold oK
   split
   ·rfl
   ·split
    ·rfl
    ·rw[ae (λh=>c ⟨az (by assumption),az (by assumption),h⟩)]
  exact jq iD A4 λR u=>A5 dn rfl _ _ (a.map bd) (b.map bd) (ed a) (ed b) (kU a) (kU b) 0 0 [[]] [[]] [] [] rfl rfl rfl (by simp) (by simp) (by simp) _ _ _ _ rfl rfl rfl rfl (λd=>tJ (fK (fb d)) (fy (fb d))) [] []
   (oW (jZ a ha) rfl) (oW (jZ b hb) rfl) (λz=>oW (rA a (fP z).1 (fP z).2.1) rfl) (λz=>oW (rA b (fP z).1 (fP z).2.1) rfl) (λe z2 z3=>absurd ⟨e,z2,z3⟩ c) (λe z2 z3=>absurd ⟨e,z2,z3⟩ c)
   Gs (λ_=>rfl) (λk=>ia (Ll k) (λh=>.cons (.same _) .nil) rfl)
   (λd h K k b n rs hd l hn hk hK=>⟨h,jU.refl h,lN (sY d hd.1 hd.2) (.cons (.own k b 3 n _ (by rw[jO hn hk,l]) (by simp)) .nil) hK⟩)
   (λd hd r hr e z2 z3=>absurd ⟨e,z2,z3⟩ c) (λe z2 z3=>absurd ⟨e,z2,z3⟩ c) (λe z2 z3=>absurd ⟨e,z2,z3⟩ c)
   ((iS a b).1.map bd) ((iS a b).2.1.map bd) (iS a b).2.2
   (λh=>by rw[pZ (j.trans (ae h)) h];exact⟨rfl,rfl,rfl⟩) (λz h=>by rw[pZ (j.trans ((aa (λg=>g z)).trans (ae h))) h];exact⟨rfl,rfl,rfl⟩)
   (λe z2 _=>by rw[pZ (j.trans ((aa (λg=>g e)).trans (aa (λg=>g z2)))) qD];exact⟨rfl,rfl,rfl⟩)
   (λe z2 z3 _=>absurd ⟨e,z2,z3⟩ c) (λe z2 z3 _ _=>absurd ⟨e,z2,z3⟩ c) (λe z2 z3 _ _=>absurd ⟨e,z2,z3⟩ c) R (tq u)
def il(x:List Part):List eP->List Part×Int
 |[]=>(x,0)
 |r::l=>if(iS r.delta x).2.2≠0 then([],(iS r.delta x).2.2) else il (iS r.delta x).2.1 l
theorem sJ{a b:List Part}(h:(iS a b).2.2=0):ed a=0/\ed b=0/\kU a=kU b/\ed (oJ a b)=0/\(iS a b).2.1=oJ a b:=by
 unfold iS at h⊢
 by_cases he:oK a b=0
 ·rw[ae he];unfold oK at he
  by_cases h1:ed a≠0
  ·rw[ae h1] at he;exact absurd he h1
  rw[aa h1] at he
  by_cases h2:ed b≠0
  ·rw[ae h2] at he;exact absurd he h2
  rw[aa h2] at he
  by_cases h3:kU a≠kU b
  ·rw[ae h3] at he;exact absurd he qD
  rw[aa h3] at he
  by_cases h4:ed (nY a b)≠0
  ·rw[ae h4] at he;exact absurd he h4
  rw[aa h4] at he;exact⟨az h1,az h2,az h3,he,rfl⟩
 ·rw[aa he] at h;exact absurd h he
open Go.RowKit
def A7:AC:=qr [qo 2 (.mov (.c (.slice none 0 0)))] (qq (qr [qm 3 0,qo 4 (.eqn false (.t 3))] (qu 4 (qr [qo 2 (.mov (.c (.slice none 0 0)))] .ret) .skip)) (qr [qo 5 (.bslice 91 3 []),qm 6 0,qo 7 (.append 91 3 40 (.t 5) (.t 6)),qm 2 7] .ret))
theorem Lo:fF Tryz.prog 86 Tryz.f86 A7 [.t 2] 1 er:=⟨Tryz.func86,by decide+kernel,by kernel_rfl,by kernel_rfl,by decide+kernel⟩
theorem Lp(P:Prim)(hP:P=dn)(T c:c8)(rows:List (List V))(hl:rows.length<=1000000)(R:S->Prop)
  (b:∀s s' ba n a,n=rows.length->a=rows->c6 s s'->iH [.t 2] [.own 1000005 ba 3 n] s'->fG [(1000005,iw ba a)] s'->R s):gj P T c A7 (S0 [.sl true 3 rows] Hp.emp) R (λ_ _=>False) R:=by
 have f1:P.bytes (P.add (P.int 0) (P.dv rows)) 40:=by subst hP;show(((0:Nat):Int)+(rows.length:Int))*40<=_;omega
 have f2:P.nL [] 0:=by subst hP;rfl
 have f3:P.hU 0 (P.fQ rows)=rows.length:=by subst hP;exact bf _
 have f4:P.kB [] rows=rows:=by subst hP;rfl
 cbv;refine⟨?_,λh0=>?_⟩
 ·cbv
  repeat' first|(refine qA ?_;cbv)|(intro d;cbv)
  exact b _ _ _ _ _ f3 f4 (c6.refl _) rfl ⟨rfl,trivial⟩
 ·have e:rows=[]:=ay (by rw[gE hP] at h0;omega);subst e;cbv;exact b _ _ none 0 [] rfl rfl (c6.nil (i:=2) (k:=1000005) (ty:=91) (sz:=3) rfl rfl) rfl ⟨rfl,trivial⟩
theorem Lq(l:List eP)(hl:l.length<=1000000):Spec Tryz.prog 86 [.sl true 3 (l.map ca)] (cp []) λx h'=>∃a,(∃ba,x=.own 1000005 ba 3 l.length/\a=[(1000005,iw ba (l.map ca))])/\h'=cp a:=
 fu iD Lo (L:=[]) (λx a=>∃ba,x=.own 1000005 ba 3 l.length/\a=[(1000005,iw ba (l.map ca))]) λR d=>
  Lp dn rfl _ _ (l.map ca) (by simpa using hl) R λs s' ba n b hn ds he hr ha=>by
   subst ds;have c:n=l.length:=by rw[hn];simp
   subst c;exact d s s' _ _ he (eM _ _ _ (λx hx=>by rw[hx];rfl) hr) ha (.own _ _ _ _) (λp hp=>by rw[aq.1 hp];exact fL _) ⟨ba,rfl,rfl⟩
def Lr(T:c8):Prop:=∀(k:Nat)(rows:List (List V))(l:List eP)(h:Hp)(K:V->Hp->Prop),rows=l.map ca->l.length<=1000000->h k=none->(∀ba n,n=l.length->K (.own k ba 3 n) (Hp.put h k (iw ba rows)))->T 86 [.sl false 3 rows] h K
theorem Sz:Lr (fm Tryz.prog):=by
 rintro k rows l h K rfl hl hk hK;refine mA (Lq l hl) (m:=[(1000005,k)]) (.cons (.mY _ _) .nil) (λj o hj=>by cases hj) (λq hq=>?_) ?_
 ·simp only[aq] at hq;subst hq;exact⟨by simp[gD],by simp[gW],λo ho=>by cases ho⟩
 ·rintro v a ⟨ba,rfl,rfl⟩;have e:h.gy [(1000005,k)] (cp [(1000005,iw ba (l.map ca))])=Hp.put h k (iw ba (l.map ca)):=by
   funext i
   by_cases h1:i=k
   ·subst h1;have hb:gW [(1000005,i)] i=1000005:=by simp[gW]
    simp only[Hp.gy,Hp.put,bK,bP,bN,decide_true,↓reduceIte,hb];show(some (iw ba (l.map ca))).map (Ob.gM (gD [(1000005,i)]))=_;rw[aE,jA]
   ·have h2:¬k=i:=λe=>h1 e.symm;simp[Hp.gy,Hp.put,h1,h2]
  rw[e];have:(V.own 1000005 ba 3 l.length).gM (gD [(1000005,k)])=.own k ba 3 l.length:=by
   show V.own (gD [(1000005,k)] 1000005) ba 3 l.length=_;simp[gD]
  rw[this];exact hK ba _ rfl
end Go.Proofs.YtobngncjflogcaaGreat.AM
