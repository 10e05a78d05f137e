/-
  Part 16 of what the law WorldPlays reaches: the plain machine, contracts of the functions and plain laws; each lemma says its own condition.
-/
import Derived.Test.YtobngncjflogcaaGreatWorldPlays14
import Derived.Test.YtobngncjflogcaaGreatWorldPlays12
set_option linter.unusedVariables false
set_option linter.unusedSimpArgs false
namespace Go.Proofs.YtobngncjflogcaaGreat.AM
open Go Go.RowKit
set_option maxRecDepth 100000
set_option maxHeartbeats 2000000
def DF(f:Nat):Array Oper->List AO->Bool:=λops al=>eV ops al&& !(al.any λo=>match o.op with|.call g _=>Nat.beq g f|_=>false)
theorem VV(f:Nat):lH Tryz.prog (DF f):=by
 have hd:∀ops al,DF f ops al=true->eV ops al=true:=λops al h=>by
  unfold DF at h;rw[aO] at h;exact h.1
 exact⟨gY.1,λC n id ops al s a w K Q h1 h2 h3=>gY.2.1 C n id ops al s a w K Q h1 h2 (hd _ _ h3),λC n id ops al s a w K Q h1 h2 h3=>gY.2.2 C n id ops al s a w K Q h1 h2 (hd _ _ h3)⟩
def Ka:AC:=qr [qo 2 (.mov (.c (.slice none 0 0)))] (qq (qr [qm 3 0,qo 4 (.eqn false (.t 3))] (qu 4 (qr [qo 2 (.mov (.c (.slice none 0 0)))] .ret) .skip)) (qr [qo 5 (.bslice 9 1 []),qm 6 0,qo 7 (.append 9 1 16 (.t 5) (.t 6)),qm 2 7] .ret))
theorem RB:fo Tryz.prog 85 Tryz.f85 Ka [.t 2] 1 eV:=⟨Tryz.func85,by decide+kernel,by kernel_rfl,by kernel_rfl,by decide+kernel⟩
def Bc(ba:Option Nat)(rows:List (List V)):Ob:=⟨ba,9,1,rows⟩
theorem RC(P:Prim)(hP:P=ca)(T b:cp)(rows:List (List V))(hl:rows.length<=1000000)(R:S->Prop)
  (a:∀s s' ba n rows',n=rows.length->rows'=rows->a7 s s'->hX [.t 2] [.own 1000005 ba 1 n] s'->fh [(1000005,Bc ba rows')] s'->R s):fX P T b Ka (S0 [.sl true 1 rows] Hp.emp) R (λ_ _=>False) R:=by
 have f1:P.bytes (P.add (P.int 0) (P.da rows)) 16:=by subst hP;show(((0:Nat):Int)+(rows.length:Int))*16<=_;omega
 have f2:P.oc [] 0:=by subst hP;rfl
 have f3:P.jf 0 (P.gp rows)=rows.length:=by subst hP;exact aS _
 have f4:P.je [] rows=rows:=by subst hP;rfl
 cbv;refine⟨?_,λh0=>?_⟩
 ·cbv
  repeat' first|(refine qA ?_;cbv)|(intro c;cbv)
  exact a _ _ _ _ _ f3 f4 (a7.refl _) rfl ⟨rfl,trivial⟩
 ·have d:rows=[]:=aq (by rw[gi hP] at h0;omega);subst d;cbv;exact a _ _ none 0 [] rfl rfl (a7.nil (i:=2) (k:=1000005) (ty:=9) (sz:=1) rfl rfl) rfl ⟨rfl,trivial⟩
theorem RD(l:List BS)(hl:l.length<=1000000):Spec Tryz.prog 85 [.sl true 1 (ds l)] (b7 []) λx h'=>∃a,(∃ba,x=.own 1000005 ba 1 l.length/\a=[(1000005,Bc ba (ds l))])/\h'=b7 a:=
 fe gY RB (L:=[]) (λx a=>∃ba,x=.own 1000005 ba 1 l.length/\a=[(1000005,Bc ba (ds l))]) λR c=>
  RC ca rfl _ _ (ds l) (by rw[ds,aI];exact hl) R λs s' ba n rows' hn dS he hr ha=>by
   subst dS;have b:n=l.length:=by rw[hn,ds,aI]
   subst b;exact c s s' _ _ he (eS _ _ _ (λx hx=>by rw[hx];rfl) hr) ha (.own _ _ _ _) (λp hp=>by rw[aw.1 hp];exact jl _) ⟨ba,rfl,rfl⟩
def TY(T:cp):Prop:=∀(k:Nat)(rows:List (List V))(l:List BS)(h:Hp)(K:V->Hp->Prop),rows=ds l->l.length<=1000000->h k=none->(∀ba n,n=l.length->K (.own k ba 1 n) (Hp.put h k (Bc ba rows)))->T 85 [.sl false 1 rows] h K
theorem VW:TY (fa Tryz.prog):=by
 rintro k rows l h K rfl hl hk hK;refine oe (RD l hl) (m:=[(1000005,k)]) (.cons (.j8 _ _) .nil) (λj o hj=>by cases hj) (λq hq=>?_) ?_
 ·simp only[aw] at hq;subst hq;exact⟨by simp[gI],by simp[gT],λo ho=>by cases ho⟩
 ·rintro v b ⟨ba,rfl,rfl⟩;have a:∀g,(Bc ba (ds l)).gA g=Bc ba (ds l):=λg=>by
   show Ob.mk ba _ 1 ((ds l).map (·.map (V.rl g)))=_;have:(ds l).map (·.map (V.rl g))=ds l:=by simp[ds,V.rl]
   rw[this];rfl
  have e:h.iX [(1000005,k)] (b7 [(1000005,Bc ba (ds l))])=Hp.put h k (Bc ba (ds l)):=by
   funext i
   by_cases h1:i=k
   ·subst h1;have hb:gT [(1000005,i)] i=1000005:=by simp[gT]
    simp only[Hp.iX,Hp.put,cC,cY,cN,decide_true,↓reduceIte,hb];show(some (Bc ba (ds l))).map (Ob.gA (gI [(1000005,i)]))=_;rw[aN,a]
   ·have h2:¬k=i:=λe=>h1 e.symm;simp[Hp.iX,Hp.put,h1,h2]
  rw[e];have:(V.own 1000005 ba 1 l.length).gA (gI [(1000005,k)])=.own k ba 1 l.length:=by
   show V.own (gI [(1000005,k)] 1000005) ba 1 l.length=_;simp[gI]
  rw[this];exact hK ba _ rfl
def lL(d:im)(i:Int)(t:BS):im:=if i=0 then {d with x1:=d.x1++t} else {d with x3:=d.x3++t}
def ic(d:im)(t:BS):im:=if d.mv=true/\d.wh=true then lL (lL d d.gr t) (1-d.gr) t else lL d d.gr t
def pG:AC:=qr [qo 3 (.box 91 3 (.t 1)),qz 4 0,qz 5 0] (qq (.region true [qm 12 0,qn 13 12,qf 14 6 13,ql 15 14,qm 16 0,qn 17 16,qf 18 24 17,ql 19 18,qm 20 0,qm 21 0,qa 22 35 [.t 21],qa 23 38 [.t 20,.t 22],qo 24 (.build Vj [(1,1,(.t 15)),(35,1,(.t 19)),(19,16,(.t 23))]),qo 6 (.alloc 72 Vj),qs 38 6 24]) (qq (.region true [qm 25 0,qn 26 25,qf 27 23 26,ql 28 27,qm 29 0,qn 30 29,qf 31 24 30,ql 32 31,qo 33 (.len false (.t 32)),qo 34 (.iaddr 1 (.t 28) (.t 33)),ql 35 34,qm 7 35]) (qq (qr [qd 36 38 6,qm 37 7,qo 38 (.len true (.t 37)),qd 39 3 3,qa 40 81 [.t 36,.t 38,.t 39],qm 8 40] (qr [qm 41 8,qc 42 .neq 41 0] (qu 42 (qr [qm 43 8,qz 4 0,qm 5 43] .ret) .skip))) (qr [qd 45 3 3,qa 46 82 [.t 45],qm 44 46,qx 47 0 44,qx 48 1 44,qm 9 47,qm 10 48] (qq (.region true [qm 49 0,qm 50 0,qn 51 50,qf 52 4 51,ql 53 52,qn 54 49,qf 55 0 54,qf 56 0 55,qo 57 (.iarr 2 2 (.t 56) (.t 53)),qf 58 0 57,ql 59 58,qm 60 9,qb 61 .add 59 60,qn 62 49,qf 63 0 62,qf 64 0 63,qo 65 (.iarr 2 2 (.t 64) (.t 53)),qf 66 0 65,qs 1 66 61]) (qq (qr [qm 67 0,qn 68 67,qf 69 26 68,ql 70 69,qm 71 70,qg 72 71 true (.mov (.t 0)),qg 73 71 true (.nilchk (.t 72)),qg 74 71 true (.faddr 29 (.t 73)),qg 75 71 true (.load1 (.t 74)),qo 76 (.pick (.t 71) (.t 75) (.c (.bool false)))] (qu 76 (.region true [qm 77 0,qm 78 0,qn 79 78,qf 80 4 79,ql 81 80,qo 82 (.bin .sub (qk 1) (.t 81)),qn 83 77,qf 84 0 83,qf 85 0 84,qo 86 (.iarr 2 2 (.t 85) (.t 82)),qf 87 0 86,ql 88 87,qm 89 9,qb 90 .add 88 89,qn 91 77,qf 92 0 91,qf 93 0 92,qo 94 (.iarr 2 2 (.t 93) (.t 82)),qf 95 0 94,qs 1 95 90]) .skip)) (qr [qf 96 2 3,ql 97 96,qa 98 83 [.t 97],qm 99 7,qa 100 84 [.t 98,.t 99],qm 11 100] (qr [qm 101 0,qm 102 0,qn 103 102,qf 104 23 103,ql 105 104,qa 106 85 [.t 105],qm 107 11,qo 108 (.bslice 9 1 [.t 107]),qo 109 (.append 9 1 16 (.t 106) (.t 108)),qn 110 101,qf 111 23 110,qs 1 111 109] (qq (.kO [(qm 112 0,[]),(qm 113 0,[]),(qn 114 113,[1]),(qf 115 24 114,[2]),(ql 116 115,[3]),(qa 117 86 [.t 116],[4]),(qd 118 3 3,[]),(qo 119 (.bslice 91 3 [.t 118]),[6]),(qo 120 (.append 91 3 40 (.t 117) (.t 119)),[5,7,5]),(qn 121 112,[0,0,1,2,3,4,5,6,7,8]),(qf 122 24 121,[9,0,1,2,3,4,5,6,7,8]),(qs 1 122 120,[10,8,8,0,1,2,3,4,5,6,7,8])]) (qr [qm 123 0,qa 124 35 [.t 123],qm 4 124,qz 5 0] .ret))))))))))
theorem NV:fo Tryz.prog 44 Tryz.f44 pG [.t 4,.t 5] 2 (DF 86):=⟨Tryz.func44,by decide+kernel,by kernel_rfl,by kernel_rfl,by decide+kernel⟩
def W3(bl:Nat)(d:im)(a lr:List (List V))(row:List V)(s:S):Prop:=∃b3 b:Nat,∃bt:Option Nat,b=a.length/\Dt [(0,.ptr 0 (some bl) 31 0 0),(3,.ptr 3 (some b3) 3 0 0)] s/\Du [(0,some (fV bl d (.own 1000106 bt 1 b) (.sl false 3 lr))),(1000106,some (Bc bt a)),(3,some ⟨some b3,91,3,[row]⟩),(1000300,none),(1000119,none)] s
theorem Kb(P:Prim)(hP:P=ca)(T Q:cp)(F:tj Q)(A:DA Q)(j:TY T)(bl:Nat)(d:im)(tx:List BS)(k:List (List V))(m:k=ds tx)(l:List eX)(lr:List (List V))(B:lr=l.map a8)(XD:tx.length=l.length+1)(hb:0<=d.b/\d.b<=2147483647)(hn:l.length<=500)(G:∀r∈l,0<=r.who/\r.who<=7)(hat:d.gr=0\/d.gr=1)(hx:d.x1.length<=1048576/\d.x3.length<=1048576)
  (w q:Int)(dr:List (List V))(O:BS)(U:tx[l.length]? =some O)(e1:Int)
  (C:∀tb,tb=iK d.fs d.b l->fZ T 81 [.agg [qI 0,qI d.b,.str [],qI 0,qI 0,qI 0,qI 0,qI 0,qI 0,qI 0,qI 0,qI 0,qI 0,qI 0,qI 0,qI 0,qI 0,qI 0,qI 0,qI (tb 0),qI (tb 1),qI (tb 2),qI (tb 3),qI (tb 4),qI (tb 5),qI (tb 6),qI (tb 7),qI (tb 8),qI (tb 9),qI (tb 10),qI (tb 11),qI (tb 12),qI (tb 13),qI (tb 14),qI (tb 15),.sl false 3 lr,.bool false,qI 0],qI (P.eP O),.agg [qI w,qI q,.sl false 3 dr]] (qI e1))
  (t:BS)(e2:Int)(W:t.length<=1000000)(H:fZ T 82 [.agg [qI w,qI q,.sl false 3 dr]] (.tup [.str t,qI e2]))(pr kr:List (List V))(u:BS)
  (o:e1=0->fZ T 83 [.sl false 3 dr] (.agg [.sl false 1 pr,.sl false 1 kr]))(p:e1=0->fZ T 84 [.agg [.sl false 1 pr,.sl false 1 kr],.str O] (.str u))
  (N R:S->Prop)(hE:∀(s s':S),e1≠0->a7 s s'->hX [.t 4,.t 5] [qI 0,qI e1] s'->fh [(0,fV bl d (.sl false 1 k) (.sl false 3 lr))] s'->R s)
  (y:e1=0->∀s,W3 bl (ic d t) (k++[[.str u]]) lr [qI w,qI q,.sl false 3 dr] s->N s):fX P T Q (p0 9 pG .skip) (S0 [.ptr 0 (some bl) 31 0 0,.agg [qI w,qI q,.sl false 3 dr]] (b7 [(0,fV bl d (.sl false 1 k) (.sl false 3 lr))])) N (λ_ _=>False) R:=by
 have I:0<=d.b/\d.b<=4294967295:=⟨hb.1,ez hb.2 qD⟩;have J:lr.length=l.length:=by rw[B,aI]
 have K:k.length=tx.length:=by rw[m,ds,aI]
 have ht:∀r∈k,∀v∈r,Fz v:=by rw[m];exact jl _
 have X:∀r∈lr,∀v∈r,Fz v:=by rw[B];exact fW _
 have n0:P.nat 0=0:=by subst hP;rfl
 have n1:P.nat 1=1:=by subst hP;rfl
 have z:P.da lr=(l.length:Int):=by rw[gi hP,J]
 have L:P.row k (P.nat (P.da lr)) [.str O]:=fL hP z (by rw[m,ds,av,U];rfl);have k0:P.fQ 0 (P.da lr):=by rw[z];exact iQ hP (aT _)
 have k1:P.i64 (P.sub 1 d.gr):=by rw[sub_eq hP];exact ft hP qW
 have k2:P.fQ 0 (P.sub 1 d.gr):=by rw[sub_eq hP];exact iQ hP qW
 have k3:P.iw (P.sub 1 d.gr) 2:=by rw[sub_eq hP];exact kZ hP qW
 have k4:P.fQ 0 d.gr:=iQ hP qW;have k5:P.iw d.gr 2:=kZ hP qW;have i1:P.i64 (P.add (P.eP d.x1) (P.eP t)):=by rw[add_eq hP,eF hP,eF hP];exact ft hP qW
 have i3:P.i64 (P.add (P.eP d.x3) (P.eP t)):=by rw[add_eq hP,eF hP,eF hP];exact ft hP qW
 have s1:P.gV d.x1 t=d.x1++t:=by subst hP;rfl
 have E:P.gV d.x3 t=d.x3++t:=by subst hP;rfl
 have f4:∀n,n=tx.length->P.oc k n:=λn h=>mB hP _ _ (by rw[K,h]);have f5:∀n r,n=tx.length->P.bytes (P.add (P.int n) (P.da [r])) 16:=by intro n r h;subst hP;show((n:Int)+1)*16<=_;omega
 have f6:∀r,P.oc [r] 1:=by intro r;subst hP;rfl
 have f7:∀r,P.je k [r]=k++[r]:=by intro r;subst hP;rfl
 have f8:∀n,∀r:List V,n=tx.length->P.jf n (P.gp [r])=(k++[[V.str u]]).length:=by intro n r h;subst hP;rw[an,K,h];rfl
 cbv
 repeat' first|(refine qA ?_;cbv)|(intro c;cbv)
 refine F 0 bl d k lr _ _ ht X I qO rfl λq1 Y=>?_;have D:q1=d.b+(l.length:Int):=by rw[Y,J]
 cbv
 repeat' first|(refine qA ?_;cbv)|(intro c;cbv)
 refine A 0 bl d k l lr q1 _ _ ht B I qO G ⟨by rw[D];((try simp only[nc] at*);omega),by rw[D];exact bf _⟩ rfl λtb wm=>?_;have wm:tb=iK d.fs d.b l:=by
  have e:(q1-d.b).toNat=l.length:=by rw[D];((try simp only[nc] at*);omega)
  rw[wm,e,cj]
 have Z:=C tb wm;cbv
 repeat' first|(refine qA ?_;cbv)|(intro c;cbv)
 refine⟨_,L,?_⟩;cbv
 repeat' first|(refine qA ?_;cbv)|(intro c;cbv)|(refine Z _ _ ?_;cbv)|fail
 refine ab (λg=>?_) (λg=>?_)
 ·have g1:e1≠0:=fE hP g;cbv
  repeat' first|(refine qA ?_;cbv)|(intro c;cbv)
  exact hE _ _ g1 (a7.refl _) rfl ⟨rfl,trivial⟩
 have g1:e1=0:=fD hP g;clear g;have o:=o g1;have p:=p g1;have y:=y g1;cbv
 repeat' first|(refine qA ?_;cbv)|(intro c;cbv)|(refine H _ _ ?_;cbv)|fail
 rcases hat with hat|hat
 ·have hat:d.gr=0:=hat;have M:P.nat d.gr=0:=by rw[hat];subst hP;rfl
  have nb:P.nat (P.sub 1 d.gr)=1:=by rw[sub_eq hP,hat];subst hP;rfl
  refine⟨0,M,?_⟩;cbv
  repeat' first|(refine qA ?_;cbv)|(refine⟨0,M,?_⟩;cbv)|(intro c;cbv)
  refine ab (λg=>?_) (λg=>?_)
  ·have g2:d.mv=true:=g;clear g;cbv
   repeat' first|(refine qA ?_;cbv)|(intro c;cbv)
   refine ab (λg=>?_) (λg=>?_)
   ·have g3:d.wh=true:=g;clear g;cbv
    repeat' first|(refine qA ?_;cbv)|(intro c;cbv)
    refine⟨1,nb,?_⟩;cbv
    repeat' first|(refine qA ?_;cbv)|(refine⟨1,nb,?_⟩;cbv)|(intro c;cbv)
    have f:ic d t=(⟨(P.gV d.x1 t),d.x2,(P.gV d.x3 t),d.x4,d.gr,d.gn,d.b,d.fs,d.sf,d.mv,d.to,d.pt,d.wh,d.jq⟩:im):=by unfold ic lL;rw[ae ⟨g2,g3⟩,hat];simp[s1,E]
    cbv
    repeat' first|(refine qA ?_;cbv)|(intro c;cbv)|(refine o _ _ ?_;cbv)|(refine p _ _ ?_;cbv)|fail
    refine j 1000106 k tx _ _ m qO rfl λbt x a=>?_;cbv
    repeat' first|(refine And.intro (by first|assumption|decide|exact f6 _|exact f5 _ _ a|exact f4 _ a) ?_;cbv)|(intro i;cbv)
    refine y _ ⟨_,_,i,(f8 x [V.str u] a),⟨rfl,rfl,trivial⟩,⟨?_,?_,rfl,rfl,rfl,trivial⟩⟩
    ·rw[f];rfl
    ·exact aR (λr=>some (Bc _ r)) (f7 _)
   have g3:d.wh=false:=g;clear g;have f:ic d t=(⟨(P.gV d.x1 t),d.x2,d.x3,d.x4,d.gr,d.gn,d.b,d.fs,d.sf,d.mv,d.to,d.pt,d.wh,d.jq⟩:im):=by unfold ic lL;rw[aa (by rw[g3];simp),hat];simp[s1,E]
   cbv
   repeat' first|(refine qA ?_;cbv)|(intro c;cbv)|(refine o _ _ ?_;cbv)|(refine p _ _ ?_;cbv)|fail
   refine j 1000106 k tx _ _ m qO rfl λbt x a=>?_;cbv
   repeat' first|(refine And.intro (by first|assumption|decide|exact f6 _|exact f5 _ _ a|exact f4 _ a) ?_;cbv)|(intro i;cbv)
   refine y _ ⟨_,_,i,(f8 x [V.str u] a),⟨rfl,rfl,trivial⟩,⟨?_,?_,rfl,rfl,rfl,trivial⟩⟩
   ·rw[f];rfl
   ·exact aR (λr=>some (Bc _ r)) (f7 _)
  have g2:d.mv=false:=g;clear g;have f:ic d t=(⟨(P.gV d.x1 t),d.x2,d.x3,d.x4,d.gr,d.gn,d.b,d.fs,d.sf,d.mv,d.to,d.pt,d.wh,d.jq⟩:im):=by unfold ic lL;rw[aa (by rw[g2];simp),hat];simp[s1,E]
  cbv
  repeat' first|(refine qA ?_;cbv)|(intro c;cbv)|(refine o _ _ ?_;cbv)|(refine p _ _ ?_;cbv)|fail
  refine j 1000106 k tx _ _ m qO rfl λbt x a=>?_;cbv
  repeat' first|(refine And.intro (by first|assumption|decide|exact f6 _|exact f5 _ _ a|exact f4 _ a) ?_;cbv)|(intro i;cbv)
  refine y _ ⟨_,_,i,(f8 x [V.str u] a),⟨rfl,rfl,trivial⟩,⟨?_,?_,rfl,rfl,rfl,trivial⟩⟩
  ·rw[f];rfl
  ·exact aR (λr=>some (Bc _ r)) (f7 _)
 ·have hat:d.gr=1:=hat;have M:P.nat d.gr=1:=by rw[hat];subst hP;rfl
  have nb:P.nat (P.sub 1 d.gr)=0:=by rw[sub_eq hP,hat];subst hP;rfl
  refine⟨1,M,?_⟩;cbv
  repeat' first|(refine qA ?_;cbv)|(refine⟨1,M,?_⟩;cbv)|(intro c;cbv)
  refine ab (λg=>?_) (λg=>?_)
  ·have g2:d.mv=true:=g;clear g;cbv
   repeat' first|(refine qA ?_;cbv)|(intro c;cbv)
   refine ab (λg=>?_) (λg=>?_)
   ·have g3:d.wh=true:=g;clear g;cbv
    repeat' first|(refine qA ?_;cbv)|(intro c;cbv)
    refine⟨0,nb,?_⟩;cbv
    repeat' first|(refine qA ?_;cbv)|(refine⟨0,nb,?_⟩;cbv)|(intro c;cbv)
    have f:ic d t=(⟨(P.gV d.x1 t),d.x2,(P.gV d.x3 t),d.x4,d.gr,d.gn,d.b,d.fs,d.sf,d.mv,d.to,d.pt,d.wh,d.jq⟩:im):=by unfold ic lL;rw[ae ⟨g2,g3⟩,hat];simp[s1,E]
    cbv
    repeat' first|(refine qA ?_;cbv)|(intro c;cbv)|(refine o _ _ ?_;cbv)|(refine p _ _ ?_;cbv)|fail
    refine j 1000106 k tx _ _ m qO rfl λbt x a=>?_;cbv
    repeat' first|(refine And.intro (by first|assumption|decide|exact f6 _|exact f5 _ _ a|exact f4 _ a) ?_;cbv)|(intro i;cbv)
    refine y _ ⟨_,_,i,(f8 x [V.str u] a),⟨rfl,rfl,trivial⟩,⟨?_,?_,rfl,rfl,rfl,trivial⟩⟩
    ·rw[f];rfl
    ·exact aR (λr=>some (Bc _ r)) (f7 _)
   have g3:d.wh=false:=g;clear g;have f:ic d t=(⟨d.x1,d.x2,(P.gV d.x3 t),d.x4,d.gr,d.gn,d.b,d.fs,d.sf,d.mv,d.to,d.pt,d.wh,d.jq⟩:im):=by unfold ic lL;rw[aa (by rw[g3];simp),hat];simp[s1,E]
   cbv
   repeat' first|(refine qA ?_;cbv)|(intro c;cbv)|(refine o _ _ ?_;cbv)|(refine p _ _ ?_;cbv)|fail
   refine j 1000106 k tx _ _ m qO rfl λbt x a=>?_;cbv
   repeat' first|(refine And.intro (by first|assumption|decide|exact f6 _|exact f5 _ _ a|exact f4 _ a) ?_;cbv)|(intro i;cbv)
   refine y _ ⟨_,_,i,(f8 x [V.str u] a),⟨rfl,rfl,trivial⟩,⟨?_,?_,rfl,rfl,rfl,trivial⟩⟩
   ·rw[f];rfl
   ·exact aR (λr=>some (Bc _ r)) (f7 _)
  have g2:d.mv=false:=g;clear g;have f:ic d t=(⟨d.x1,d.x2,(P.gV d.x3 t),d.x4,d.gr,d.gn,d.b,d.fs,d.sf,d.mv,d.to,d.pt,d.wh,d.jq⟩:im):=by unfold ic lL;rw[aa (by rw[g2];simp),hat];simp[s1,E]
  cbv
  repeat' first|(refine qA ?_;cbv)|(intro c;cbv)|(refine o _ _ ?_;cbv)|(refine p _ _ ?_;cbv)|fail
  refine j 1000106 k tx _ _ m qO rfl λbt x a=>?_;cbv
  repeat' first|(refine And.intro (by first|assumption|decide|exact f6 _|exact f5 _ _ a|exact f4 _ a) ?_;cbv)|(intro i;cbv)
  refine y _ ⟨_,_,i,(f8 x [V.str u] a),⟨rfl,rfl,trivial⟩,⟨?_,?_,rfl,rfl,rfl,trivial⟩⟩
  ·rw[f];rfl
  ·exact aR (λr=>some (Bc _ r)) (f7 _)
theorem Kc(P:Prim)(hP:P=ca)(T y:cp)(g:∀f vs h h' K,jj h h'->T f vs h' K->T f vs h K)(z:tj T)(e:J8 T)(bl:Nat)(d:im)(a:List (List V))(I:∀r∈a,∀v∈r,Fz v)(l:List eX)(lr:List (List V))(i:lr=l.map a8)(hb:0<=d.b/\d.b<=2147483647)(hn:l.length<=500)(w q:Int)(dr:List (List V))(A:∀x∈dr,∀v∈x,Fz v)
  (R:S->Prop)(J:∀(s s':S)(v:Int)(rows8:List (List V)),v=d.b+((l.length+1:Nat):Int)->rows8=lr++[[qI w,qI q,.sl false 3 dr]]->a7 s s'->hX [.t 4,.t 5] [qI v,qI 0] s'->fh [(0,fV bl d (.sl false 1 a) (.sl false 3 rows8))] s'->R s)
  (s:S)(hs:W3 bl d a lr [qI w,qI q,.sl false 3 dr] s):fX P T y (kW 9 pG) s R (λ_ _=>False) R:=by
 obtain⟨b3,L,bt,B,hs1,hs2⟩:=hs;refine pF (Q:=λs=>fX P T y (kW 9 pG) s R (λ_ _=>False) R) _ _ hs1 hs2 (λt h=>?_);show lF P T Pl 12 [] _ (λs=>fX P T y (kW 10 pG) s R (λ_ _=>False) R);have j:lr.length=l.length:=by rw[i,aI]
 have C:∀r∈lr,∀v∈r,Fz v:=by rw[i];exact fW _
 have r8:P.je lr [[qI w,qI q,.sl false 3 dr]]=lr++[[qI w,qI q,.sl false 3 dr]]:=by subst hP;rfl
 obtain⟨m,o⟩:∃n,n=lr.length:=⟨_,rfl⟩;have n8:P.jf m (P.gp [[qI w,qI q,.sl false 3 dr]])=lr.length+1:=by rw[o];subst hP;rfl
 have p:∀r∈P.je lr [[qI w,qI q,.sl false 3 dr]],∀v∈r,Fz v:=by
  rw[r8];intro r hr v hv
  rcases aU.1 hr with h|h
  ·exact C r h v hv
  ·rw[aw.1 h] at hv;simp only[ax,aF,bj] at hv
   rcases hv with rfl|rfl|rfl
   ·exact .int _ _
   ·exact .int _ _
   ·exact .sl _ _ A
 have D:(P.je lr [[qI w,qI q,.sl false 3 dr]]).length=P.jf m (P.gp [[qI w,qI q,.sl false 3 dr]]):=by rw[r8,n8,an];rfl
 have E:0<=d.b/\d.b<=4294967295:=⟨hb.1,ez hb.2 qD⟩;have F:(P.je lr [[qI w,qI q,.sl false 3 dr]]).length<=1000:=by rw[r8,an,j];show l.length+1<=_;omega
 have u:((P.je lr [[qI w,qI q,.sl false 3 dr]]).length:Int)=((l.length+1:Nat):Int):=by rw[r8,an,j];rfl
 refine RA hP (bl:=bl) (b3:=b3) (n:=m) (n8:=P.jf m (P.gp [[qI w,qI q,.sl false 3 dr]])) (d:=d) (tv:=.own 1000106 bt 1 L) (lr:=lr) (rows8:=P.je lr [[qI w,qI q,.sl false 3 dr]]) (row:=[qI w,qI q,.sl false 3 dr]) ⟨rfl,rfl⟩ o rfl rfl (by subst hP;show((m:Int)+1)*40<=_;omega) rfl rfl rfl rfl rfl rfl (λh K hk hK=>e 1000300 lr l h K i qW hk (λba n hn=>hK ba n (by rw[hn,j]))) λba β M=>?_;cbv
 repeat' first|(refine qA ?_;cbv)|(intro G;cbv)
 refine g _ _ _ _ _ (jj.EO (k:=1000106) (q:=0) (c:=23) rfl rfl rfl rfl rfl rfl B.symm I) ?_;refine g _ _ _ _ _ (jj.EO (k:=1000300) (q:=0) (c:=24) rfl rfl rfl rfl rfl rfl D p) ?_;refine z 0 bl d a (P.je lr [[qI w,qI q,.sl false 3 dr]]) _ _ I p E F rfl λv hv=>?_;have H:v=d.b+((l.length+1:Nat):Int):=hv.trans (aR (d.b+ ·) u);cbv
 repeat' first|(refine qA ?_;cbv)|(intro G;cbv)
 exact J _ _ v _ H r8 (a7.refl _) rfl ⟨rfl,trivial⟩
structure Fl where
 d:im
 tx:List BS
 l:List eX
 v:Int
 e:Int
def n6(d:im)(tx:List BS)(l:List eX)(r:eX):Fl:=
 if gL d.b (iK d.fs d.b l) l.length (tx.getD l.length []).length r≠0 then⟨d,tx,l,0,gL d.b (iK d.fs d.b l) l.length (tx.getD l.length []).length r⟩
 else⟨ic d (gN r).1,tx++[(gP r.delta (tx.getD l.length [])).1],l++[r],d.b+((l.length+1:Nat):Int),0⟩
theorem NW(d:im)(t:BS):(ic d t).b=d.b:=by
 have h:∀d i,(lL d i t).b=d.b:=λd i=>by unfold lL;split<;>rfl
 unfold ic
 split
 ·rw[h,h]
 ·rw[h]
theorem NX(bl:Nat)(d:im)(tx:List BS)(l:List eX)(iB:vS d tx l)(r:eX)(hr:fw r.delta):Spec Tryz.prog 44 [.ptr 0 (some bl) 31 0 0,.agg (a8 r)] (b7 (oV bl d tx l)) λx h'=>∃o,(∃d' iE l',(∃v e,x=.tup [qI v,qI e]/\⟨d',iE,l',v,e⟩=n6 d tx l r)/\o=oV bl d' iE l')/\h'=b7 o:=by
 refine fe (VV _) NV (L:=oV bl d tx l) (λx o=>∃d' iE l',(∃v e,x=.tup [qI v,qI e]/\⟨d',iE,l',v,e⟩=n6 d tx l r)/\o=oV bl d' iE l') λR u=>?_;have w:=iB.n;have p:=iB.Pe;obtain⟨a,j⟩:∃a,tx[l.length]? =some a:=⟨_,af qW⟩;have k:tx.getD l.length []=a:=by rw[aA,j];rfl
 obtain⟨e1,c⟩:∃e,gL d.b (iK d.fs d.b l) l.length a.length r=e:=⟨_,rfl⟩;have hlen:=z6 r;have m:e1=0->fZ (fa Tryz.prog) 83 [.sl false 3 (r.delta.map a6)] (.agg [.sl false 1 (ds (e9 (cm r.delta))),.sl false 1 (fp (dE (cm r.delta)))])/\fZ (fa Tryz.prog) 84 [.agg [.sl false 1 (ds (e9 (cm r.delta))),.sl false 1 (fp (dE (cm r.delta)))],.str a] (.str (gP r.delta a).1):=by
  intro h;rw[h] at c;have hz:=(lB c).2.1;obtain⟨z,jF⟩:=lz hz;obtain⟨h1,h2,h3,h4,_,_⟩:=dv z;have e1:=hZ r.delta h2;have e3:(gP r.delta a).1=kg (cm r.delta) a:=by unfold gP;rw[ae hz]
  rw[e3];exact⟨iV (m8 r.delta h1 (rC h2)) rfl,fU (vB (cm r.delta) (kS z) a qW) (λh=>.cons (m9 h _ _) (.cons (.same _) .nil)) rfl⟩
 have q:e1≠0->n6 d tx l r=⟨d,tx,l,0,e1⟩:=λh=>by unfold n6;rw[k,c,ae h]
 have t:e1=0->n6 d tx l r=⟨ic d (gN r).1,tx++[(gP r.delta a).1],l++[r],d.b+((l.length+1:Nat):Int),0⟩:=λh=>by unfold n6;rw[k,c,aa (λg=>g h)]
 refine sk 9 pG _ ?_;refine Kb ca rfl _ _ Q7 To VW bl d tx (ds tx) rfl l (l.map a8) rfl p iB.b qW iB.who iB.gr iB.x r.who r.seq (r.delta.map a6) a j e1
  (λtb wm=>by
   rw[wm,<-c];exact fU (H0 0 d.b [] (λ_=>0) (iK d.fs d.b l) l false 0 a.length r iB.b hr) (λ_=>.cons (.same _) (.cons (.same _) (.cons (.same _) .nil))) rfl)
  (gN r).1 (gN r).2 qW (fU (QW r hr) (λ_=>.cons (.same _) .nil) rfl) _ _ _ (λh=>(m h).1) (λh=>(m h).2) _ R (λs s' h he i ha=>?_) (λh s hs=>?_)
 ·exact u s s' (.tup [qI 0,qI e1]) (oV bl d tx l) he (eS _ _ _ (λx hx=>by rw[hx];rfl) i) ha (.tup _ (by simp;exact⟨.int _ _,.int _ _⟩)) uD ⟨d,tx,l,⟨0,e1,rfl,(q h).symm⟩,rfl⟩
 ·have uj:=NW d (gN r).1;have f:ds tx++[[.str (gP r.delta a).1]]=ds (tx++[(gP r.delta a).1]):=by simp[ds]
  refine Kc ca rfl _ _ px B8 Rz bl (ic d (gN r).1) (ds tx++[[.str (gP r.delta a).1]]) (by rw[f];exact jl _) l (l.map a8) rfl (by rw[uj];exact iB.b) qW r.who r.seq (r.delta.map a6) (ff _) R (λs s' v rows8 hv h8 he i ha=>?_) s hs;have e8:rows8=(l++[r]).map a8:=by rw[h8,bW];rfl
  rw[uj] at hv;rw[f,e8] at ha;exact u s s' (.tup [qI v,qI 0]) (oV bl (ic d (gN r).1) (tx++[(gP r.delta a).1]) (l++[r])) he (eS _ _ _ (λx hx=>by rw[hx];rfl) i) ha (.tup _ (by simp;exact⟨.int _ _,.int _ _⟩)) uD ⟨_,_,_,⟨v,0,rfl,by rw[t h,hv]⟩,rfl⟩
def Pm(T:cp):Prop:=∀(k bl:Nat)(d:im)(tx:List BS)(l:List eX)(c lr:List (List V))(r:eX)(w q:Int)(dr:List (List V))(h:Hp)(K:V->Hp->Prop),c=ds tx->lr=l.map a8->vS d tx l->(w=r.who/\q=r.seq/\dr=r.delta.map a6)->fw r.delta->h k=some (fV bl d (.sl false 1 c) (.sl false 3 lr))->
 (∀d' iE l' v e a b,⟨d',iE,l',v,e⟩=n6 d tx l r->a=ds iE->b=l'.map a8->K (.tup [qI v,qI e]) (h.e9 [(k,fV bl d' (.sl false 1 a) (.sl false 3 b))]))->T 44 [.ptr k (some bl) 31 0 0,.agg [qI w,qI q,.sl false 3 dr]] h K
theorem TZ:Pm (fa Tryz.prog):=by
 rintro k bl d tx l a lr r w q dr h K rfl rfl iB ⟨rfl,rfl,rfl⟩ hr hk hK;refine Tn (post:=λx d' iE l'=>∃v e,x=.tup [.int .i64 v,.int .i64 e]/\⟨d',iE,l',v,e⟩=n6 d tx l r) (NX bl d tx l iB r hr) (λ_ _=>.cons (.same _) .nil) (λx d' iE l' g hp=>by obtain⟨v,e,rfl,_⟩:=hp;rfl) hk ?_;rintro x d' iE l' ⟨v,e,rfl,hp⟩;exact hK d' iE l' v e _ _ hp rfl rfl
structure N4(k ka km kn:Nat):Prop where
 a:Nat.beq k ka=false
 b:Nat.beq k kn=false
 c:Nat.beq ka kn=false
 d:Nat.beq km 0=false
 e:Nat.beq km 1000001=false
 f:Nat.beq km 1000041=false
 g:Nat.beq km k=false
 h:Nat.beq km ka=false
 i:Nat.beq km kn=false
theorem NY{a b:Nat}(h:Nat.beq a b=false):a≠b:=by intro e;subst e;rw[b9] at h;cases h
def yz(T:cp):Prop:=∀(k ka km kn bl:Nat)(d:SC)(ba:Option Nat)(n:Nat)(rows:List (List V))(l:List eX)(mv:V)(bm:Nat)(m:Option Mv)(j:Int)(h:Hp)(K:V->Hp->Prop),N4 k ka km kn->rows=l.map a8->n=l.length->mv=sT km bm m->(∀r∈l,r.delta.length<=1000000000)->(0<=d.b/\d.b<=4294967295)->l.length<=1000->h k=some (fK bl (fJ d (.own ka ba 3 n) mv))->h ka=some (jv ba rows)->h kn=none->
 (∀x y,(x,y)=gH d l j->∀a n' rows',n'=x.length->rows'=x.map a8->K (.tup [.own kn a 3 n',qI y]) (h.e9 [(k,fK bl (fJ d (.own ka ba 3 n) mv)),(ka,jv ba rows),(kn,jv a rows')]))->T 40 [.ptr k (some bl) 47 0 0,qI j] h K
theorem Cd:yz (fa Tryz.prog):=by
 rintro k ka km kn bl d ba n rows l mv bm m j h K o rfl rfl rfl r hb hn hk s y hK;have n1:=NY o.a;have n2:=NY o.b;have w:=NY o.c;have t:¬ka=k:=λe=>n1 e.symm;have z:¬kn=k:=λe=>n2 e.symm;have A:¬kn=ka:=λe=>w e.symm;have m1:=NY o.d;have m2:=NY o.e;have B:=NY o.f;have C:=NY o.g;have D:=NY o.h;have E:=NY o.i;have b0:gT [(0,k),(1000001,ka),(1000041,kn)] k=0:=by simp[gT]
 have b1:gT [(0,k),(1000001,ka),(1000041,kn)] ka=1000001:=by simp[gT,t]
 have u:gT [(0,k),(1000001,ka),(1000041,kn)] km=km:=by simp[gT,C,D,E]
 have l0:gI [(0,k),(1000001,ka),(1000041,kn)] 0=k:=by simp[gI]
 have x:gI [(0,k),(1000001,ka),(1000041,kn)] 1000001=ka:=by simp[gI]
 have F:gI [(0,k),(1000001,ka),(1000041,kn)] 1000041=kn:=by simp[gI]
 have lm:gI [(0,k),(1000001,ka),(1000041,kn)] km=km:=by simp[gI,m1,m2,B]
 refine vJ [(0,k),(1000001,ka),(1000041,kn)] (Jp bl d ba l r hb hn j (sT km bm m) (Jx _ _ _)) (.cons ?_ (gf rfl)) (by show([0,1000001,1000041]:List Nat).Nodup;decide) (by simp[n1,n2,w]) (by simp) (λp hp=>?_) (λp hp=>?_) ?_ ?_
 ·have:=Arg.same (h:=h) (m:=[(0,k),(1000001,ka),(1000041,kn)]) (.ptr k (some bl) 47 0 0);simpa[V.gA,V.rl,b0] using this
 ·simp only[S2,ax,aF,bj] at hp
  rcases hp with rfl|rfl<;>simp
 ·simp only[S2,ax,aF,bj] at hp
  rcases hp with rfl|rfl
  ·refine⟨?_,jW (.own _ _ _ _) (vM _ _ _) bl⟩;show(h (gI _ 0)).map _=_;rw[l0,hk,aN,jL,ym,u];show some (fK bl (fJ d (.own (gT _ ka) ba 3 _) _))=_;rw[b1]
  ·refine⟨?_,fW _⟩;show(h (gI _ 1000001)).map _=_;rw[x,s,aN,mW]
 ·rintro v G ⟨q,_,rfl⟩;rfl
 ·rintro v G ⟨q,rfl,rfl⟩;have e:oo [(0,k),(1000001,ka),(1000041,kn)] (Ob.gA (gI [(0,k),(1000001,ka),(1000041,kn)])) [(0,fK bl (fJ d (.own 1000001 ba 3 l.length) (sT km bm m))),(1000001,jv ba (l.map a8)),(1000041,jv q ((gH d l j).1.map a8))]=[(k,fK bl (fJ d (.own ka ba 3 l.length) (sT km bm m))),(ka,jv ba (l.map a8)),(kn,jv q ((gH d l j).1.map a8))]:=by
   simp only[oo,dB,eJ,jL,mW,ym,lm];show[(k,fK bl (fJ d (.own (gI _ 1000001) ba 3 l.length) _)),_,_]=_;rw[x]
  rw[e];have e2:(V.tup [.own 1000041 q 3 (gH d l j).1.length,.int .i64 (gH d l j).2]).gA (gI [(0,k),(1000001,ka),(1000041,kn)])=.tup [.own kn q 3 (gH d l j).1.length,.int .i64 (gH d l j).2]:=by
   show V.tup [.own (gI _ 1000041) q 3 _,_]=_;rw[F];rfl
  rw[e2];exact hK _ _ rfl q _ _ rfl rfl
theorem nJ{d:List Part}(h:cF d=0):fw d:=by
 have:iH ⟨0,0,d⟩=0:=by
  unfold iH;rw[aa (by show¬((0:Int)<0\/(7:Int)<0\/(0:Int)<0\/(2147483647:Int)<0);decide)];exact h
 exact(yj this).1.2.2
def lC(d:SC)(l:List eX)(m:Option Mv)(base who seq:Int)(x:List Part):qy:=
 if(jz d.tb who).e≠0\/seq<0\/2147483647<seq then⟨d,l,0,1⟩
 else if(lO x).2.2≠0 then⟨d,l,0,(lO x).2.2⟩
 else if 0<seq/\seq=(jz d.tb who).a then⟨d,l,(jz d.tb who).b,0⟩
 else if seq<=(jz d.tb who).a then⟨d,l,0,10⟩
 else if(jM d l base).2≠0 then⟨d,l,0,(jM d l base).2⟩
 else if(lO x).1≠((jM d l base).1.length:Int) then⟨d,l,0,4⟩
 else if(fS x (gH d l base).1).2≠0 then⟨d,l,0,(fS x (gH d l base).1).2⟩
 else fN d l m ⟨who,seq,(fS x (gH d l base).1).1⟩
structure W4(x0:List Part)(l':List eX) where
 i:Nat
 k:Int
 x:List Part
 dx:List (List V)
 hi:i<=l'.length
 hk:k=(i:Int)
 wJ:dx=x.map a6
 hx:fw x
 hf:fS x (l'.drop i)=fS x0 l'
def DG:AC:=qr [qo 3 (.box 95 4 (.t 1)),qz 4 0,qz 5 0] (qr [qm 17 0,qf 18 1 3,ql 19 18,qa 20 37 [.t 17,.t 19],qm 16 20,qx 21 0 16,qx 22 1 16,qo 6 (.alloc 54 D7),qs 2 6 21,qm 7 22] (qq (qr [qm 23 7,qc 24 .neq 23 0,qm 25 24,qg 26 25 false (.faddr 2 (.t 3)),qg 27 25 false (.load1 (.t 26)),qg 28 25 false (.bin .lss (.t 27) (qk 0)),qo 29 (.pick (.t 25) (.c (.bool true)) (.t 28)),qm 30 29,qg 31 30 false (.faddr 2 (.t 3)),qg 32 30 false (.load1 (.t 31)),qg 33 30 false (.bin .gtr (.t 32) (qk 2147483647)),qo 34 (.pick (.t 30) (.c (.bool true)) (.t 33))] (qu 34 (qr [qz 4 0,qz 5 1] .ret) .skip)) (qr [qf 36 3 3,ql 37 36,qa 38 87 [.t 37],qm 35 38,qx 39 0 35,qx 40 1 35,qx 41 2 35,qm 8 39,qm 9 40,qm 7 41] (qq (qr [qm 42 7,qc 43 .neq 42 0] (qu 43 (qr [qm 44 7,qz 4 0,qm 5 44] .ret) .skip)) (qq (qr [qf 45 2 3,ql 46 45,qc 47 .gtr 46 0,qm 48 47,qg 49 48 true (.faddr 2 (.t 3)),qg 50 48 true (.load1 (.t 49)),qg 51 48 true (.faddr 0 (.t 6)),qg 52 48 true (.load1 (.t 51)),qg 53 48 true (.bin .eql (.t 50) (.t 52)),qo 54 (.pick (.t 48) (.t 53) (.c (.bool false)))] (qu 54 (qr [qf 55 1 6,ql 56 55,qm 4 56,qz 5 0] .ret) .skip)) (qq (qr [qf 57 2 3,ql 58 57,qf 59 0 6,ql 60 59,qb 61 .leq 58 60] (qu 61 (qr [qz 4 0,qz 5 10] .ret) .skip)) (qr [qm 63 0,qf 64 0 3,ql 65 64,qa 66 39 [.t 63,.t 65],qm 62 66,qx 67 0 62,qx 68 1 62,qm 10 67,qm 7 68] (qq (qr [qm 69 7,qc 70 .neq 69 0] (qu 70 (qr [qm 71 7,qz 4 0,qm 5 71] .ret) .skip)) (qq (qr [qm 72 8,qm 73 10,qo 74 (.len true (.t 73)),qb 75 .neq 72 74] (qu 75 (qr [qz 4 0,qz 5 4] .ret) .skip)) (qr [qm 77 0,qf 78 0 3,ql 79 78,qa 80 40 [.t 77,.t 79],qm 76 80,qx 81 0 76,qx 82 1 76,qm 11 81,qm 12 82] (qr [qf 83 3 3,ql 84 83,qm 13 84] (qq (qr [qm 85 11,qo 86 (.len false (.t 85)),qz 87 0] (.block 0 (.loop (qr [qb 88 .lss 87 86] (qq (qu 88 .skip (.exit 0)) (qq (.block 1 (qr [qo 89 (.iaddr 3 (.t 85) (.t 87)),qd 90 3 89,qo 15 (.alloc 91 F4),qs 3 15 90] (qr [qf 92 2 15,ql 93 92,qm 94 13,qa 95 88 [.t 93,.t 94],qm 91 95,qx 96 0 91,qx 97 1 91,qx 98 2 91,qm 13 97,qm 7 98] (qr [qm 99 7,qc 100 .neq 99 0] (qu 100 (qr [qm 101 7,qz 4 0,qm 5 101] .ret) .skip))))) (qR [qc 102 .add 87 1,qm 87 102]))))))) (qr [qm 103 0,qf 104 1 3,ql 105 104,qf 106 2 3,ql 107 106,qm 108 13,qo 109 (.build F4 [(0,1,(.t 105)),(1,1,(.t 107)),(2,1,(.t 108))]),qa 110 43 [.t 103,.t 109],qx 111 0 110,qx 112 1 110,qm 4 111,qm 5 112] .ret)))))))))))))
theorem NZ:fo Tryz.prog 45 Tryz.f45 DG [.t 4,.t 5] 2 eV:=⟨Tryz.func45,by decide+kernel,by kernel_rfl,by kernel_rfl,by decide+kernel⟩
theorem N0(P:Prim)(hP:P=ca)(T T1:cp)(T0:Jm T)(L:I1 T)(M:yz T)(ES:Pa T)(bl:Nat)(d:SC)(ba:Option Nat)(l:List eX)(n:Nat)(hn:n=l.length)(rows:List (List V))(dS:rows=l.map a8)(bm:Nat)(m:Option Mv)(mv:V)(mo:Ob)(j:mv=sT 1 bm m)(o:mo=iL bm m)(iB:Jz d l)
  (base who seq:Int)(x0:List Part)(NO:fw x0)(dr:List (List V))(Ss:dr=x0.map a6)(si so se:Int)(h1:fZ T 87 [.sl false 3 dr] (.tup [qI si,qI so,qI se]))(hsz:lO x0=(si,so,se))
  (mC mD:List Part->List Part->List Part)(mE:List Part->List Part->Int)(N1:∀a x,mD a x=(er a x).2.1)(N2:∀a x,mE a x=(er a x).2.2)
  (N:∀a x B dx dc dd,fw a->fw x->B=a.map a6->dx=x.map a6->dc=(mC a x).map a6->dd=(mD a x).map a6->fZ T 88 [.sl false 3 B,.sl false 3 dx] (.tup [.sl false 3 dc,.sl false 3 dd,qI (mE a x)]))
  (Y:qy)(f:Y=lC d l m base who seq x0)
  (R:S->Prop)(C:∀(s s':S)(H:Option Nat)(n':Nat)(rows':List (List V))(I:Nat)(J:V)(K:Ob)(d':SC)(l':List eX)(v e:Int),(⟨d',l',v,e⟩:qy)=Y->n'=l'.length->rows'=l'.map a8->J=sT 1 I m->K=iL I m->a7 s s'->hX [.t 4,.t 5] [qI v,qI e] s'->
   fh [(0,fK bl (fJ d' (.own 1000001 H 3 n') J)),(1000001,jv H rows'),(1,K)] s'->R s):fX P T T1 DG (S0 [.ptr 0 (some bl) 47 0 0,.agg [qI base,qI who,qI seq,.sl false 3 dr]] (b7 [(0,fK bl (fJ d (.own 1000001 ba 3 n) mv)),(1000001,jv ba rows),(1,mo)])) R (λ_ _=>False) R:=by
 have U9:0<=d.b/\d.b<=4294967295:=⟨iB.b.1,ez iB.b.2 qD⟩;have Va:MQ mv:=by rw[j];exact Jx _ _ _
 have hr1:wk 0 mv=true:=S8 Va.2;have Ph:B1 0 1000001 mv=true:=by rw[j];exact Q1 rfl
 have Vb:l.length<=1000:=bG iB.len qD;unfold lC at f;rw[hsz] at f;cbv
 repeat' first|(refine qA ?_;cbv)|(intro LI;cbv)
 refine T0 0 bl d (.own 1000001 ba 3 n) mv who _ _ ⟨⟨.own _ _ _ _,rfl⟩,Va.1⟩ rfl hr1 rfl λla lb le Sp Rd hle=>?_;rw[<-Sp,<-Rd,<-hle] at f;cbv
 repeat' first|(refine qA ?_;cbv)|(intro c;cbv)
 refine ab (λg=>?_) (λg=>?_)
 ·have g1:le≠0:=fE hP g;rw[ae (.inl g1)] at f;cbv
  repeat' first|(refine qA ?_;cbv)|(intro c;cbv)
  exact C _ _ ba n rows bm mv mo d l _ _ (by rw[f]) hn dS j o (a7.refl _) rfl ⟨rfl,rfl,rfl,trivial⟩
 have g1:le=0:=fD hP g;cbv
 repeat' first|(refine qA ?_;cbv)|(intro c;cbv)
 refine ab (λg=>?_) (λg=>?_)
 ·have g2:seq<0:=fA hP g;rw[ae (.inr (.inl g2))] at f;cbv
  repeat' first|(refine qA ?_;cbv)|(intro c;cbv)
  exact C _ _ ba n rows bm mv mo d l _ _ (by rw[f]) hn dS j o (a7.refl _) rfl ⟨rfl,rfl,rfl,trivial⟩
 have g2:¬seq<0:=fg hP g;cbv
 repeat' first|(refine qA ?_;cbv)|(intro c;cbv)
 refine ab (λg=>?_) (λg=>?_)
 ·have g3:2147483647<seq:=fA hP g;rw[ae (.inr (.inr g3))] at f;cbv
  repeat' first|(refine qA ?_;cbv)|(intro c;cbv)
  exact C _ _ ba n rows bm mv mo d l _ _ (by rw[f]) hn dS j o (a7.refl _) rfl ⟨rfl,rfl,rfl,trivial⟩
 have g3:¬2147483647<seq:=fg hP g;rw[aa (λh=>h.elim (λh=>h g1) (λh=>h.elim g2 g3))] at f;cbv
 repeat' first|(refine qA ?_;cbv)|(intro c;cbv)|(refine h1 _ _ ?_;cbv)|fail
 refine ab (λg=>?_) (λg=>?_)
 ·have g4:se≠0:=fE hP g;rw[ae g4] at f;cbv
  repeat' first|(refine qA ?_;cbv)|(intro c;cbv)
  exact C _ _ ba n rows bm mv mo d l _ _ (by rw[f]) hn dS j o (a7.refl _) rfl ⟨rfl,rfl,rfl,trivial⟩
 have g4:se=0:=fD hP g;rw[aa (λh=>h g4)] at f;cbv
 repeat' first|(refine qA ?_;cbv)|(intro c;cbv)
 refine ab (λg=>?_) (λg=>?_)
 ·have g5:0<seq:=fA hP g;cbv
  repeat' first|(refine qA ?_;cbv)|(intro c;cbv)
  refine ab (λg=>?_) (λg=>?_)
  ·have g6:seq=la:=na hP g;rw[ae ⟨g5,g6⟩] at f;cbv
   repeat' first|(refine qA ?_;cbv)|(intro c;cbv)
   exact C _ _ ba n rows bm mv mo d l _ _ (by rw[f]) hn dS j o (a7.refl _) rfl ⟨rfl,rfl,rfl,trivial⟩
  have g6:¬seq=la:=nd hP g;rw[aa (λh=>g6 h.2)] at f;clear g;cbv
  repeat' first|(refine qA ?_;cbv)|(intro c;cbv)
  refine ab (λg=>?_) (λg=>?_)
  ·have g7:seq<=la:=iG hP g;rw[ae g7] at f;cbv
   repeat' first|(refine qA ?_;cbv)|(intro c;cbv)
   exact C _ _ ba n rows bm mv mo d l _ _ (by rw[f]) hn dS j o (a7.refl _) rfl ⟨rfl,rfl,rfl,trivial⟩
  have g7:¬seq<=la:=iA hP g;rw[aa g7] at f;cbv
  repeat' first|(refine qA ?_;cbv)|(intro c;cbv)
  refine L 0 1000001 bl d ba n rows l mv base _ _ dS hn iB.rv U9 Vb Va rfl Ph rfl rfl λx y hx hy=>?_;rw[<-hx,<-hy] at f;cbv
  repeat' first|(refine qA ?_;cbv)|(intro c;cbv)
  refine ab (λg=>?_) (λg=>?_)
  ·have g8:y≠0:=fE hP g;rw[ae g8] at f;cbv
   repeat' first|(refine qA ?_;cbv)|(intro c;cbv)
   exact C _ _ ba n rows bm mv mo d l _ _ (by rw[f]) hn dS j o (a7.refl _) rfl ⟨rfl,rfl,rfl,trivial⟩
  have g8:y=0:=fD hP g;rw[aa (λh=>h g8)] at f;cbv
  repeat' first|(refine qA ?_;cbv)|(intro c;cbv)
  refine ab (λg=>?_) (λg=>?_)
  ·have g9:si≠P.eP x:=fE hP g;rw[eF hP] at g9;rw[ae g9] at f;cbv
   repeat' first|(refine qA ?_;cbv)|(intro c;cbv)
   exact C _ _ ba n rows bm mv mo d l _ _ (by rw[f]) hn dS j o (a7.refl _) rfl ⟨rfl,rfl,rfl,trivial⟩
  have g9:si=P.eP x:=fD hP g;rw[eF hP] at g9;rw[aa (λh=>h g9)] at f;cbv
  repeat' first|(refine qA ?_;cbv)|(intro c;cbv)
  refine M 0 1000001 1 1000300 bl d ba n rows l mv bm m base _ _ ⟨rfl,rfl,rfl,rfl,rfl,rfl,rfl,rfl,rfl⟩ dS hn j iB.dl U9 Vb rfl rfl rfl λl' y' VX bo n' rows' D z=>?_;have E:(gH d l base).1=l':=by rw[<-VX]
  rw[E] at f;have Ce:l'.length<=64:=by
   have:l'.length<=l.length:=by
    rw[<-E];unfold gH
    split
    ·exact bd _
    ·show(l.drop _).length<=_;rw[bA];exact Nat.sub_le _ _
   exact bG this iB.len
  have F:∀r∈l',r.Ok:=by
   intro r hr;rw[<-E] at hr;unfold gH at hr
   split at hr
   ·cases hr
   ·exact iB.rv.2 r (cy hr)
  cbv
  repeat' first|(refine qA ?_;cbv)|(intro c;cbv)
  refine⟨W4 x0 l',λy=>[(0,.ptr 0 (some bl) 47 0 0),(3,.ptr 3 (some LI) 4 0 0),(13,.sl false 3 y.dx),(85,.own 1000300 bo 3 n'),(86,qI (P.int n')),(87,qI y.k)],
   λy=>[(0,fK bl (fJ d (.own 1000001 ba 3 n) mv)),(1000001,jv ba rows),(1,mo),(1000300,jv bo rows'),(3,⟨some LI,95,4,[[qI base,qI who,qI seq,.sl false 3 dr]]⟩)],λy=>l'.length-y.i,
   ⟨_,a7.refl _,⟨0,0,x0,dr,bd _,rfl,Ss,NO,rfl⟩,⟨rfl,rfl,rfl,rfl,rfl,rfl,trivial⟩,⟨rfl,rfl,rfl,rfl,rfl,trivial⟩⟩,?_⟩
  rintro⟨i,k,p,dx,hi,hk,wJ,O,hf⟩;cbv;refine ab (λg=>?_) (λg=>?_)
  ·have k1:k<P.int n':=fA hP g;rw[int_eq hP,D] at k1;have q:i<l'.length:=by((try simp only[nc] at*);omega)
   obtain⟨r,ko⟩:∃r,l'[i]? =some r:=⟨_,af q⟩;have u:P.row rows' (P.nat k) [qI r.who,qI r.seq,.sl false 3 (r.delta.map a6)]:=fL hP hk (by rw[z,av,ko];rfl);have Q:=(F r (az ko)).2.2;have RE:fS p (l'.drop i)=if mE r.delta p≠0 then([],mE r.delta p) else fS (mD r.delta p) (l'.drop (i+1)):=by
    have e:l'.drop i=r::l'.drop (i+1):=by rw[bX q];congr 1;rw[af q] at ko;exact cL ko
    rw[e,fS,N2,N1]
   have G:mE r.delta p=0->fw (mD r.delta p):=by
    intro h0;rw[N2] at h0;rw[N1];obtain⟨_,_,_,u4,u5⟩:=oY h0;rw[u5];exact nJ u4
   rw[RE] at hf;obtain⟨VY,RF⟩:∃w,r.who=w:=⟨_,rfl⟩;obtain⟨rq,RG⟩:∃w,r.seq=w:=⟨_,rfl⟩;obtain⟨rd,U⟩:∃w,r.delta=w:=⟨_,rfl⟩;rw[RF,RG,U] at u;rw[U] at hf G Q;obtain⟨B,W⟩:∃B,B=rd.map a6:=⟨_,rfl⟩;rw[<-W] at u;obtain⟨dc,RH⟩:∃B,B=(mC rd p).map a6:=⟨_,rfl⟩;obtain⟨dd,X⟩:∃B,B=(mD rd p).map a6:=⟨_,rfl⟩;obtain⟨me,RI⟩:∃e,mE rd p=e:=⟨_,rfl⟩;have hm:=N rd p B dx dc dd Q O W wJ RH X;rw[RI] at hm hf G;have q1:P.fQ 0 k:=iQ hP (by rw[hk];exact aT _);have q2:P.iw k (P.int n'):=kZ hP (by rw[int_eq hP,D];exact k1);have q3:P.i64 (P.add k 1):=by rw[add_eq hP];exact ft hP qO
   have q4:P.add k 1=((i+1:Nat):Int):=by rw[add_eq hP,hk];simp
   cbv
   repeat' first|(refine qA ?_;cbv)|(intro c;cbv)
   refine⟨_,u,?_⟩;cbv
   repeat' first|(refine qA ?_;cbv)|(intro c;cbv)|(refine hm _ _ ?_;cbv)|fail
   refine ab (λg=>?_) (λg=>?_)
   ·have g10:me≠0:=fE hP g;rw[ae g10] at hf;have RJ:Y=⟨d,l,0,me⟩:=by rw[f,<-hf,ae g10]
    cbv
    repeat' first|(refine qA ?_;cbv)|(intro c;cbv)
    exact C _ _ ba n rows bm mv mo d l _ _ (by rw[RJ]) hn dS j o (a7.refl _) rfl ⟨rfl,rfl,rfl,trivial⟩
   have g10:me=0:=fD hP g;rw[aa (λh=>h g10)] at hf;cbv
   repeat' first|(refine qA ?_;cbv)|(intro c;cbv)
   refine⟨_,a7.refl _,⟨i+1,_,mD rd p,dd,q,q4,X,G g10,hf⟩,⟨rfl,rfl,rfl,rfl,rfl,rfl,trivial⟩,⟨rfl,rfl,rfl,rfl,rfl,trivial⟩,?_⟩;show l'.length-(i+1)<l'.length-i;omega
  have k1:¬k<P.int n':=fg hP g;rw[int_eq hP,D] at k1;have q:i=l'.length:=by((try simp only[nc] at*);omega)
  have Pf:fS x0 l'=(p,0):=by
   have hf:fS p (l'.drop i)=fS x0 l':=hf;rw[q,dJ] at hf;rw[<-hf];rfl
  rw[Pf,aa (λh=>h rfl)] at f;cbv
  repeat' first|(refine qA ?_;cbv)|(intro c;cbv)|(refine ES 0 1000001 1 bl d ba n rows l mv mo bm m ⟨who,seq,p⟩ who seq dx _ _ ⟨hn,dS,j,o,rfl,rfl,rfl,⟨rfl,rfl,rfl⟩⟩ ⟨rfl,rfl,wJ⟩ O iB.b iB.gr λv e H d' l2 n2 gB I J K hA ON A Z RK=>?_;cbv)|fail
  exact C _ _ H n2 gB I J K d' l2 v e (by rw[f,hA]) ON A Z RK (a7.refl _) rfl ⟨rfl,rfl,rfl,trivial⟩
 ·have g5:¬0<seq:=fg hP g;rw[aa (λh=>g5 h.1)] at f;clear g;cbv
  repeat' first|(refine qA ?_;cbv)|(intro c;cbv)
  refine ab (λg=>?_) (λg=>?_)
  ·have g7:seq<=la:=iG hP g;rw[ae g7] at f;cbv
   repeat' first|(refine qA ?_;cbv)|(intro c;cbv)
   exact C _ _ ba n rows bm mv mo d l _ _ (by rw[f]) hn dS j o (a7.refl _) rfl ⟨rfl,rfl,rfl,trivial⟩
  have g7:¬seq<=la:=iA hP g;rw[aa g7] at f;cbv
  repeat' first|(refine qA ?_;cbv)|(intro c;cbv)
  refine L 0 1000001 bl d ba n rows l mv base _ _ dS hn iB.rv U9 Vb Va rfl Ph rfl rfl λx y hx hy=>?_;rw[<-hx,<-hy] at f;cbv
  repeat' first|(refine qA ?_;cbv)|(intro c;cbv)
  refine ab (λg=>?_) (λg=>?_)
  ·have g8:y≠0:=fE hP g;rw[ae g8] at f;cbv
   repeat' first|(refine qA ?_;cbv)|(intro c;cbv)
   exact C _ _ ba n rows bm mv mo d l _ _ (by rw[f]) hn dS j o (a7.refl _) rfl ⟨rfl,rfl,rfl,trivial⟩
  have g8:y=0:=fD hP g;rw[aa (λh=>h g8)] at f;cbv
  repeat' first|(refine qA ?_;cbv)|(intro c;cbv)
  refine ab (λg=>?_) (λg=>?_)
  ·have g9:si≠P.eP x:=fE hP g;rw[eF hP] at g9;rw[ae g9] at f;cbv
   repeat' first|(refine qA ?_;cbv)|(intro c;cbv)
   exact C _ _ ba n rows bm mv mo d l _ _ (by rw[f]) hn dS j o (a7.refl _) rfl ⟨rfl,rfl,rfl,trivial⟩
  have g9:si=P.eP x:=fD hP g;rw[eF hP] at g9;rw[aa (λh=>h g9)] at f;cbv
  repeat' first|(refine qA ?_;cbv)|(intro c;cbv)
  refine M 0 1000001 1 1000300 bl d ba n rows l mv bm m base _ _ ⟨rfl,rfl,rfl,rfl,rfl,rfl,rfl,rfl,rfl⟩ dS hn j iB.dl U9 Vb rfl rfl rfl λl' y' VX bo n' rows' D z=>?_;have E:(gH d l base).1=l':=by rw[<-VX]
  rw[E] at f;have Ce:l'.length<=64:=by
   have:l'.length<=l.length:=by
    rw[<-E];unfold gH
    split
    ·exact bd _
    ·show(l.drop _).length<=_;rw[bA];exact Nat.sub_le _ _
   exact bG this iB.len
  have F:∀r∈l',r.Ok:=by
   intro r hr;rw[<-E] at hr;unfold gH at hr
   split at hr
   ·cases hr
   ·exact iB.rv.2 r (cy hr)
  cbv
  repeat' first|(refine qA ?_;cbv)|(intro c;cbv)
  refine⟨W4 x0 l',λy=>[(0,.ptr 0 (some bl) 47 0 0),(3,.ptr 3 (some LI) 4 0 0),(13,.sl false 3 y.dx),(85,.own 1000300 bo 3 n'),(86,qI (P.int n')),(87,qI y.k)],
   λy=>[(0,fK bl (fJ d (.own 1000001 ba 3 n) mv)),(1000001,jv ba rows),(1,mo),(1000300,jv bo rows'),(3,⟨some LI,95,4,[[qI base,qI who,qI seq,.sl false 3 dr]]⟩)],λy=>l'.length-y.i,
   ⟨_,a7.refl _,⟨0,0,x0,dr,bd _,rfl,Ss,NO,rfl⟩,⟨rfl,rfl,rfl,rfl,rfl,rfl,trivial⟩,⟨rfl,rfl,rfl,rfl,rfl,trivial⟩⟩,?_⟩
  rintro⟨i,k,p,dx,hi,hk,wJ,O,hf⟩;cbv;refine ab (λg=>?_) (λg=>?_)
  ·have k1:k<P.int n':=fA hP g;rw[int_eq hP,D] at k1;have q:i<l'.length:=by((try simp only[nc] at*);omega)
   obtain⟨r,ko⟩:∃r,l'[i]? =some r:=⟨_,af q⟩;have u:P.row rows' (P.nat k) [qI r.who,qI r.seq,.sl false 3 (r.delta.map a6)]:=fL hP hk (by rw[z,av,ko];rfl);have Q:=(F r (az ko)).2.2;have RE:fS p (l'.drop i)=if mE r.delta p≠0 then([],mE r.delta p) else fS (mD r.delta p) (l'.drop (i+1)):=by
    have e:l'.drop i=r::l'.drop (i+1):=by rw[bX q];congr 1;rw[af q] at ko;exact cL ko
    rw[e,fS,N2,N1]
   have G:mE r.delta p=0->fw (mD r.delta p):=by
    intro h0;rw[N2] at h0;rw[N1];obtain⟨_,_,_,u4,u5⟩:=oY h0;rw[u5];exact nJ u4
   rw[RE] at hf;obtain⟨VY,RF⟩:∃w,r.who=w:=⟨_,rfl⟩;obtain⟨rq,RG⟩:∃w,r.seq=w:=⟨_,rfl⟩;obtain⟨rd,U⟩:∃w,r.delta=w:=⟨_,rfl⟩;rw[RF,RG,U] at u;rw[U] at hf G Q;obtain⟨B,W⟩:∃B,B=rd.map a6:=⟨_,rfl⟩;rw[<-W] at u;obtain⟨dc,RH⟩:∃B,B=(mC rd p).map a6:=⟨_,rfl⟩;obtain⟨dd,X⟩:∃B,B=(mD rd p).map a6:=⟨_,rfl⟩;obtain⟨me,RI⟩:∃e,mE rd p=e:=⟨_,rfl⟩;have hm:=N rd p B dx dc dd Q O W wJ RH X;rw[RI] at hm hf G;have q1:P.fQ 0 k:=iQ hP (by rw[hk];exact aT _);have q2:P.iw k (P.int n'):=kZ hP (by rw[int_eq hP,D];exact k1);have q3:P.i64 (P.add k 1):=by rw[add_eq hP];exact ft hP qO
   have q4:P.add k 1=((i+1:Nat):Int):=by rw[add_eq hP,hk];simp
   cbv
   repeat' first|(refine qA ?_;cbv)|(intro c;cbv)
   refine⟨_,u,?_⟩;cbv
   repeat' first|(refine qA ?_;cbv)|(intro c;cbv)|(refine hm _ _ ?_;cbv)|fail
   refine ab (λg=>?_) (λg=>?_)
   ·have g10:me≠0:=fE hP g;rw[ae g10] at hf;have RJ:Y=⟨d,l,0,me⟩:=by rw[f,<-hf,ae g10]
    cbv
    repeat' first|(refine qA ?_;cbv)|(intro c;cbv)
    exact C _ _ ba n rows bm mv mo d l _ _ (by rw[RJ]) hn dS j o (a7.refl _) rfl ⟨rfl,rfl,rfl,trivial⟩
   have g10:me=0:=fD hP g;rw[aa (λh=>h g10)] at hf;cbv
   repeat' first|(refine qA ?_;cbv)|(intro c;cbv)
   refine⟨_,a7.refl _,⟨i+1,_,mD rd p,dd,q,q4,X,G g10,hf⟩,⟨rfl,rfl,rfl,rfl,rfl,rfl,trivial⟩,⟨rfl,rfl,rfl,rfl,rfl,trivial⟩,?_⟩;show l'.length-(i+1)<l'.length-i;omega
  have k1:¬k<P.int n':=fg hP g;rw[int_eq hP,D] at k1;have q:i=l'.length:=by((try simp only[nc] at*);omega)
  have Pf:fS x0 l'=(p,0):=by
   have hf:fS p (l'.drop i)=fS x0 l':=hf;rw[q,dJ] at hf;rw[<-hf];rfl
  rw[Pf,aa (λh=>h rfl)] at f;cbv
  repeat' first|(refine qA ?_;cbv)|(intro c;cbv)|(refine ES 0 1000001 1 bl d ba n rows l mv mo bm m ⟨who,seq,p⟩ who seq dx _ _ ⟨hn,dS,j,o,rfl,rfl,rfl,⟨rfl,rfl,rfl⟩⟩ ⟨rfl,rfl,wJ⟩ O iB.b iB.gr λv e H d' l2 n2 gB I J K hA ON A Z RK=>?_;cbv)|fail
  exact C _ _ H n2 gB I J K d' l2 v e (by rw[f,hA]) ON A Z RK (a7.refl _) rfl ⟨rfl,rfl,rfl,trivial⟩
theorem N5(bl bm:Nat)(d:SC)(ba:Option Nat)(l:List eX)(m:Option Mv)(base who seq:Int)(x:List Part)(hx:fw x)(iB:Jz d l):Spec Tryz.prog 45 [.ptr 0 (some bl) 47 0 0,.agg [qI base,qI who,qI seq,.sl false 3 (x.map a6)]] (b7 (S3 bl d ba l.length (l.map a8) bm m))
  λv h'=>∃f,(∃b c d' l' m',(∃n e,v=.tup [qI n,qI e]/\⟨d',l',n,e⟩=lC d l m base who seq x/\m'=m)/\f=S3 bl d' b l'.length (l'.map a8) c m')/\h'=b7 f:=by
 refine fe gY NZ (L:=S3 bl d ba l.length (l.map a8) bm m) (λv f=>∃b c d' l' m',(∃n e,v=.tup [qI n,qI e]/\⟨d',l',n,e⟩=lC d l m base who seq x/\m'=m)/\f=S3 bl d' b l'.length (l'.map a8) c m') λR g=>?_;refine N0 ca rfl _ _ QX QS Cd Tc bl d ba l _ rfl _ rfl bm m _ _ rfl rfl iB base who seq x hx _ rfl _ _ _ (iV (oM x hx.1) rfl) rfl (λa x=>(er a x).1) (λa x=>(er a x).2.1) (λa x=>(er a x).2.2) (λ_ _=>rfl) (λ_ _=>rfl) (λa x k dx o dd ha hx h1 h2 h3 h4=>by subst h1 h2 h3 h4;exact lU (yu a x ha.1 hx.1) rfl rfl) _ rfl R ?_;rintro s s' b n' rows' c h i d' l' v e j rfl rfl rfl rfl he hr ha;exact g s s' _ _ he (eS _ _ _ (λx hx=>by rw[hx];rfl) hr) ha (.tup _ (by simp;exact⟨.int _ _,.int _ _⟩)) O9 ⟨b,c,d',l',m,⟨v,e,rfl,j,rfl⟩,rfl⟩
def Pn(T:cp):Prop:=∀(k ka km bl:Nat)(d:SC)(ba:Option Nat)(n:Nat)(rows:List (List V))(l:List eX)(mv:V)(mo:Ob)(bm:Nat)(m:Option Mv)(base who seq:Int)(x:List Part)(dr:List (List V))(h:Hp)(K:V->Hp->Prop),WI h k ka km bl d ba n rows l mv mo bm m->dr=x.map a6->fw x->Jz d l->
 (∀v e a d' l' n' rows' b c f,⟨d',l',v,e⟩=lC d l m base who seq x->n'=l'.length->rows'=l'.map a8->c=sT km b m->f=iL b m->K (.tup [qI v,qI e]) (h.e9 [(k,fK bl (fJ d' (.own ka a 3 n') c)),(ka,jv a rows'),(km,f)]))->T 45 [.ptr k (some bl) 47 0 0,.agg [qI base,qI who,qI seq,.sl false 3 dr]] h K
theorem T2:Pn (fa Tryz.prog):=by
 rintro k ka km bl d ba n rows l mv mo bm m base who seq x dr h K ⟨rfl,rfl,rfl,rfl,hk,a,b,i⟩ rfl hx iB hK;refine Jy (rest:=[.agg [.int .i64 base,.int .i64 who,.int .i64 seq,.sl false 3 (x.map a6)]]) (post:=λv d' l' m'=>∃n e,v=.tup [.int .i64 n,.int .i64 e]/\⟨d',l',n,e⟩=lC d l m base who seq x/\m'=m) (N5 bl bm d ba l m base who seq x hx iB) (λh m=>.cons (.same _) .nil) (λx d' l' m' g hp=>?_) i hk a b ?_
 ·obtain⟨v,e,rfl,_⟩:=hp;rfl
 ·rintro x c f d' l' m' ⟨v,e,rfl,hp,rfl⟩;exact hK v e c d' l' _ _ f _ _ hp rfl rfl rfl rfl
section
variable {P:Prim} {T:cp} {s:S} {d x y:Nat} {K:S->Prop}
theorem Fm{f:Nat->Int}{i a b:Int}{n:Nat}(hx:s.t x=lY f)(hy:s.t y=.int .i64 i)(h0:P.fQ 0 i)(h8:P.iw i 8)(hn:P.nat i=n)(hc:((lY f).cells.drop (n*2)).take 2=[.int .i64 a,.int .i64 b])(hK:K ⟨iX s.t d (.agg [.int .i64 a,.int .i64 b]),s.h⟩):fm P T ⟨some d,none,.ixa true 8 2 (.t x) (.t y)⟩ s K:=by
 simp only[fm,iz,fC,hJ.ev,hx,hy,lY];refine⟨h0,h8,rfl,rfl,n,hn,?_⟩;simp only[lY,V.cells] at hc;rw[hc];exact hK
end
theorem Fo(f:Nat->Int)(n:Nat)(hn:n<8):((lY f).cells.drop (n*2)).take 2=[.int .i64 (f (2*n)),.int .i64 (f (2*n+1))]:=by
 have hc:n=0\/n=1\/n=2\/n=3\/n=4\/n=5\/n=6\/n=7:=by omega
 rcases hc with rfl|rfl|rfl|rfl|rfl|rfl|rfl|rfl<;>rfl
section
variable {la lb q w:Int} {tb:Nat->Int} {b2:Nat}
end
structure Yt(d:SC)(l:List eX)(dr:im)(tx:List BS):Prop where
 x1:d.x1=dr.x1
 x2:d.x2=dr.x2
 x3:d.x3=dr.x3
 x4:d.x4=dr.x4
 b:d.b=dr.b
 sf:d.sf=dr.sf
 bb:0<=d.b/\d.b<=2147483647
 len:l.length<=64
 rv:mj l
 who:∀r∈l,0<=r.who/\r.who<=7
 dl:∀r∈l,r.delta.length<=10000000
 tb:∀j,j<16->d.tb j=iK dr.fs dr.b l j
 tx:∀i:Nat,i<=l.length->∃s,tx[i]? =some s/\jM d l (d.b+(i:Int))=(s,0)
end Go.Proofs.YtobngncjflogcaaGreat.AM
