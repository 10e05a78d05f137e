/-
  Part 10 of what the law WorldPlays reaches: the plain machine, contracts of the functions and plain laws; each lemma says its own condition.
-/
import Derived.Test.YtobngncjflogcaaGreatWorldPlays9
import Derived.Test.YtobngncjflogcaaGreatWorldPlays7
import Derived.Test.YtobngncjflogcaaGreatWorldPlays6
set_option linter.unusedVariables false
set_option linter.unusedSimpArgs false
namespace Go.Proofs.YtobngncjflogcaaGreat.AM
open Go
set_option maxRecDepth 100000
set_option maxHeartbeats 2000000
def cmp(xs a:List fP):List fP:=gq (xs.length+a.length) xs a
theorem n4:∀(f:Nat)(xs a:List fP),xs.length+a.length<=f->gq f xs a=cmp xs a:=by
 have key:∀(f g:Nat)(xs a:List fP),xs.length+a.length<=f->xs.length+a.length<=g->gq f xs a=gq g xs a:=by
  intro f
  induction f with
  |zero=>
   intro g xs a h _;have h1:xs=[]:=aq qW;have h2:a=[]:=aq qW;subst h1 h2;cases g<;>rfl
  |succ f ih=>
   intro g xs a h1 h2;cases g with
   |zero=>
    have e1:xs=[]:=aq qW;have e2:a=[]:=aq qW;subst e1 e2;rfl
   |succ g=>
    rcases xs with _|⟨x,xs⟩
    ·rcases a with _|⟨y,a⟩
     ·rfl
     ·simp at h1 h2;cases y<;>simp only[gq]
      rw[ih g [] a (by simp;omega) (by simp;omega)]
    ·rcases a with _|⟨y,a⟩
     ·simp at h1 h2;cases x<;>simp only[gq]
      rw[ih g xs [] (by simp;omega) (by simp;omega)]
     ·simp at h1 h2;cases x<;>cases y<;>simp only[gq]
      all_goals(rw[ih g _ _ (by first|omega|(simp;omega)) (by first|omega|(simp;omega))])
 exact λf xs a h=>key _ _ xs a h (ag _)
theorem NF(xs a:List fP):cmp (.cut::xs) a=.cut::cmp xs a:=by
 unfold cmp;rw[show(fP.cut::xs).length+a.length=(xs.length+a.length)+1 by simp;omega];rfl
theorem NG(xs a:List fP)(b:UInt8)(h:∀r,xs≠.cut::r):cmp xs (.put b::a)=.put b::cmp xs a:=by
 unfold cmp;rw[show xs.length+(fP.put b::a).length=(xs.length+a.length)+1 by simp;omega,gq];intro r hr;exact h r hr
theorem Q9(xs a:List fP):cmp (.keep::xs) (.keep::a)=.keep::cmp xs a:=by
 conv=>lhs;unfold cmp
 rw[show(fP.keep::xs).length+(fP.keep::a).length=(xs.length+a.length+1)+1 by simp;omega,gq,n4 _ _ _ qW]
theorem Ra(xs a:List fP):cmp (.keep::xs) (.cut::a)=.cut::cmp xs a:=by
 conv=>lhs;unfold cmp
 rw[show(fP.keep::xs).length+(fP.cut::a).length=(xs.length+a.length+1)+1 by simp;omega,gq,n4 _ _ _ qW]
theorem Rb(xs a:List fP)(b:UInt8):cmp (.put b::xs) (.keep::a)=.put b::cmp xs a:=by
 conv=>lhs;unfold cmp
 rw[show(fP.put b::xs).length+(fP.keep::a).length=(xs.length+a.length+1)+1 by simp;omega,gq,n4 _ _ _ qW]
theorem Rc(xs a:List fP)(b:UInt8):cmp (.put b::xs) (.cut::a)=cmp xs a:=by
 conv=>lhs;unfold cmp
 rw[show(fP.put b::xs).length+(fP.cut::a).length=(xs.length+a.length+1)+1 by simp;omega,gq,n4 _ _ _ qW]
theorem JU(n:Nat)(xs a:List fP):cmp (List.replicate n .cut++xs) a=List.replicate n .cut++cmp xs a:=by
 induction n with
 |zero=>rfl
 |succ n ih=>rw[aB,ay,NF,ih];rfl
theorem JV(t:BS)(xs a:List fP)(h:∀r,xs≠.cut::r):cmp xs (t.map .put++a)=t.map .put++cmp xs a:=by
 induction t with
 |nil=>rfl
 |cons b t ih=>rw[aL,ay,NG _ _ _ h,ih];rfl
theorem NH(n:Nat)(xs a:List fP):cmp (List.replicate n .keep++xs) (List.replicate n .keep++a)=List.replicate n .keep++cmp xs a:=by
 induction n with
 |zero=>rfl
 |succ n ih=>simp only[aB,ay,Q9,ih]
theorem NI(n:Nat)(xs a:List fP):cmp (List.replicate n .keep++xs) (List.replicate n .cut++a)=List.replicate n .cut++cmp xs a:=by
 induction n with
 |zero=>rfl
 |succ n ih=>simp only[aB,ay,Ra,ih]
theorem NJ(t:BS)(xs a:List fP):cmp (t.map .put++xs) (List.replicate t.length .keep++a)=t.map .put++cmp xs a:=by
 induction t with
 |nil=>rfl
 |cons b t ih=>simp only[ar,aB,aL,ay,Rb,ih]
theorem NK(t:BS)(xs a:List fP):cmp (t.map .put++xs) (List.replicate t.length .cut++a)=cmp xs a:=by
 induction t with
 |nil=>rfl
 |cons b t ih=>simp only[ar,aB,aL,ay,Rc,ih]
theorem JW(t:BS)(n:Nat)(hn:t.length=n)(xs a:List fP):cmp (t.map .put++xs) (List.replicate n .keep++a)=t.map .put++cmp xs a:=by subst hn;exact NJ t xs a
theorem JX(t:BS)(n:Nat)(hn:t.length=n)(xs a:List fP):cmp (t.map .put++xs) (List.replicate n .cut++a)=cmp xs a:=by subst hn;exact NK t xs a
def ll(m:Mk)(a b:Part)(c n:Int):Mk:=if a.kind=1/\b.kind=3 then m.gZ n else if a.kind=1 then m.fF n else if b.kind≠3 then m.gm ((a.text.drop c.toNat).take n.toNat) else m
theorem qJ(p:Part)(u k:Int)(hp:oq p)(hk:0<=k/\u+k<=dn p)(hu:0<=u):fi (chunk p u k)=if p.kind=3 then 0 else k.toNat:=by
 have h1:=gu hp;unfold chunk
 split
 ·rename_i h2;rw[vu,aa qW];have:dn p=p.text.length:=by simp[dn,h2]
  simp;omega
 ·rw[vt]
  by_cases h3:p.kind=1
  ·simp[h3]
  ·have:p.kind=3:=by omega
   simp[this]
theorem jX(p:Part)(u k:Int)(hp:oq p):fH (chunk p u k)=if p.kind=2 then 0 else k.toNat:=by
 have h1:=gu hp;unfold chunk
 split
 ·unfold fH;rw[pj];rfl
 ·have:=jK [] (if p.kind=1 then fP.keep else fP.cut) (by split<;>simp) k.toNat
  simp only[bO,dE] at this;simp[fH,this]
theorem JY{p:Part}{r lb:List Part}{ua ub:Int}{m:Mk}(kN:lA (p::r) ua)(h3:p.kind=3)(lG:fi (eU (p::r) ua)=fH (eU lb ub)):
  m.run (cmp (eU (p::r) ua) (eU lb ub))=(m.gZ (dn p-ua)).run (cmp (eU (eR (p::r) ua (dn p-ua)).1 (eR (p::r) ua (dn p-ua)).2) (eU lb ub))/\fi (eU (eR (p::r) ua (dn p-ua)).1 (eR (p::r) ua (dn p-ua)).2)=fH (eU lb ub)/\
   ((eU (p::r) ua).length:Int)=(dn p-ua)+(eU (eR (p::r) ua (dn p-ua)).1 (eR (p::r) ua (dn p-ua)).2).length:=by
 have hu:=kN.2;simp only at hu;have hk:0<=dn p-ua/\ua+(dn p-ua)<=dn p:=by omega
 have h1:=ie kN hk;have h2:=jV kN hk;have hc:chunk p ua (dn p-ua)=List.replicate (dn p-ua).toNat .cut:=by unfold chunk;rw[aa qW,aa qW]
 have ho:=qJ p ua (dn p-ua) (kN.1 p (by simp)) hk hu.1;rw[ae h3] at ho;refine⟨?_,?_,?_⟩
 ·rw[h1,hc,JU,Mk.jC,Mk.uh];congr 2;omega
 ·rw[h1,nB] at lG;omega
 ·rw[h1,an,h2];omega
theorem NL{p:Part}{r:List Part}{u:Int}(ok:lA (p::r) u)(h3:p.kind≠3):∀q,eU (p::r) u≠.cut::q:=by
 intro q hq;have hu:=ok.2;simp only at hu;have hk:0<=dn p-u/\u+(dn p-u)<=dn p:=by omega
 have h1:=ie ok hk;have h2:=jV ok hk;have hb:=gu (ok.1 p (by simp));have hne:∃x xs,chunk p u (dn p-u)=x::xs/\x≠.cut:=by
  unfold chunk at h2⊢
  split
  ·rename_i k2;rw[ae k2] at h2;cases hd:(List.drop u.toNat p.text).take (dn p-u).toNat with
   |nil=>rw[hd] at h2;simp at h2;omega
   |cons x xs=>exact⟨_,_,rfl,by simp⟩
  ·rename_i k2;obtain⟨n,hn⟩:∃n,(dn p-u).toNat=n+1:=⟨(dn p-u).toNat-1,qW⟩;rw[hn,aB,ae qW];exact⟨_,_,rfl,by simp⟩
 obtain⟨x,xs,hx,hc⟩:=hne;rw[h1,hx] at hq;simp at hq;exact hc hq.1
theorem Ao{q:Part}{s la:List Part}{ua ub:Int}{m:Mk}(jY:lA (q::s) ub)(h2:q.kind=2)(a:∀r,eU la ua≠.cut::r)(lG:fi (eU la ua)=fH (eU (q::s) ub)):
  m.run (cmp (eU la ua) (eU (q::s) ub))=(m.gm (js (q::s) ub (dn q-ub))).run (cmp (eU la ua) (eU (eR (q::s) ub (dn q-ub)).1 (eR (q::s) ub (dn q-ub)).2))/\fi (eU la ua)=fH (eU (eR (q::s) ub (dn q-ub)).1 (eR (q::s) ub (dn q-ub)).2)/\
   ((eU (q::s) ub).length:Int)=(dn q-ub)+(eU (eR (q::s) ub (dn q-ub)).1 (eR (q::s) ub (dn q-ub)).2).length/\(js (q::s) ub (dn q-ub)).length=(dn q-ub).toNat:=by
 have hu:=jY.2;simp only at hu;have hk:0<=dn q-ub/\ub+(dn q-ub)<=dn q:=by omega
 have h1:=ie jY hk;have h3:=jV jY hk;have hc:chunk q ub (dn q-ub)=(js (q::s) ub (dn q-ub)).map .put:=by unfold chunk;rw[ae h2];simp[js,h2]
 have ho:=jX q ub (dn q-ub) (jY.1 q (by simp));rw[ae h2] at ho;refine⟨?_,?_,?_,?_⟩
 ·rw[h1,hc,JV _ _ _ a,Mk.jC,Mk.rn]
 ·rw[h1,kq] at lG;omega
 ·rw[h1,an,h3];omega
 ·rw[hc,aI] at h3;exact h3
theorem Ff{p q:Part}{r s:List Part}{ua ub k:Int}{m:Mk}(kN:lA (p::r) ua)(jY:lA (q::s) ub)(h3:p.kind≠3)(h2:q.kind≠2)(hk:0<=k)(a:ua+k<=dn p)(b:ub+k<=dn q)(lG:fi (eU (p::r) ua)=fH (eU (q::s) ub)):
  m.run (cmp (eU (p::r) ua) (eU (q::s) ub))=(ll m p q ua k).run (cmp (eU (eR (p::r) ua k).1 (eR (p::r) ua k).2) (eU (eR (q::s) ub k).1 (eR (q::s) ub k).2))/\
   fi (eU (eR (p::r) ua k).1 (eR (p::r) ua k).2)=fH (eU (eR (q::s) ub k).1 (eR (q::s) ub k).2)/\((eU (p::r) ua).length:Int)=k+(eU (eR (p::r) ua k).1 (eR (p::r) ua k).2).length/\((eU (q::s) ub).length:Int)=k+(eU (eR (q::s) ub k).1 (eR (q::s) ub k).2).length/\
   (js (p::r) ua k).length<=k.toNat:=by
 have c:=kN.2;have f:=jY.2;simp only at c f;have a1:=ie kN ⟨hk,a⟩;have a2:=jV kN ⟨hk,a⟩;have b1:=ie jY ⟨hk,b⟩;have b2:=jV jY ⟨hk,b⟩;have i:=gu (kN.1 p (by simp));have j:=gu (jY.1 q (by simp));have ho:=qJ p ua k (kN.1 p (by simp)) ⟨hk,a⟩ c.1;have hi:=jX q ub k (jY.1 q (by simp));rw[aa h3] at ho;rw[aa h2] at hi;have e:((k.toNat:Nat):Int)=k:=by omega
 refine⟨?_,?_,?_,?_,?_⟩
 ·rw[a1,b1];have cb:chunk q ub k=List.replicate k.toNat (if q.kind=1 then .keep else .cut):=by unfold chunk;rw[aa h2]
  rw[cb];unfold ll
  by_cases p1:p.kind=1
  ·have g:chunk p ua k=List.replicate k.toNat .keep:=by unfold chunk;rw[aa qW,ae p1]
   rw[g]
   by_cases d:q.kind=3
   ·rw[aa (by omega:¬q.kind=1),ae ⟨p1,d⟩,NI,Mk.jC,Mk.uh,e]
   ·rw[ae (by omega:q.kind=1),aa (λh=>d h.2),ae p1,NH,Mk.jC,Mk.oN,e]
  ·have p2:p.kind=2:=by omega
   have g:chunk p ua k=((p.text.drop ua.toNat).take k.toNat).map .put:=by unfold chunk;rw[ae p2]
   rw[g] at a2⊢;rw[aI] at a2
   by_cases d:q.kind=3
   ·rw[aa (by omega:¬q.kind=1),aa (λh=>p1 h.1),aa p1,aa (λh=>h d)];rw[JX _ _ a2]
   ·rw[ae (by omega:q.kind=1),aa (λh=>p1 h.1),aa p1,ae d];rw[JW _ _ a2,Mk.jC,Mk.rn]
 ·rw[a1,b1,nB,kq] at lG;omega
 ·rw[a1,an,a2];omega
 ·rw[b1,an,b2];omega
 ·simp only[js];split<;>simp;omega
def iT(a b:List Part):List Part×Int:=if cF a≠0 then([],cF a) else if cF b≠0 then([],cF b) else if gX a≠jy b then([],4) else(nT (cmp (cm a) (cm b)),0)
def DC:AC:=qr [qo 4 (.mov (.c (.slice none 0 0))),qz 5 0] (qr [qm 20 0,qa 21 87 [.t 20],qm 19 21,qx 22 0 19,qx 23 1 19,qx 24 2 19,qm 6 22,qm 7 23,qm 8 24] (qq (qr [qm 25 8,qc 26 .neq 25 0] (qu 26 (qr [qm 27 8,qo 4 (.mov (.c (.slice none 0 0))),qm 5 27] .ret) .skip)) (qr [qm 29 1,qa 30 87 [.t 29],qm 28 30,qx 31 0 28,qx 32 1 28,qx 33 2 28,qm 9 31,qm 10 32,qm 8 33] (qq (qr [qm 34 8,qc 35 .neq 34 0] (qu 35 (qr [qm 36 8,qo 4 (.mov (.c (.slice none 0 0))),qm 5 36] .ret) .skip)) (qq (qr [qm 37 7,qm 38 9,qb 39 .neq 37 38] (qu 39 (qr [qo 4 (.mov (.c (.slice none 0 0))),qz 5 4] .ret) .skip)) (qr [qo 11 (.alloc 182 Vl)] (qr [qm 40 0,qa 41 121 [.t 40],qm 42 1,qa 43 121 [.t 42],qm 12 41,qm 13 43] (qq (.block 0 (.loop (qq (qr [qm 44 12,qa 45 122 [.t 44],qc 46 .neq 45 0,qm 47 46,qg 48 47 false (.mov (.t 13)),qg 49 47 false (.call 122 [.t 48]),qg 50 47 false (.bin .neq (.t 49) (qk 0)),qo 51 (.pick (.t 47) (.c (.bool true)) (.t 50))] (qu 51 .skip (.exit 0))) (.block 1 (.block 2 (qr [qm 86 12,qa 87 122 [.t 86],qc 88 .eql 87 3,qm 85 88] (qu 85 (qr [qm 89 12,qa 90 124 [.t 89],qm 14 90] (qr [qm 91 12,qm 92 14,qa 93 123 [.t 91,.t 92]] (qR [qm 94 14,qa 95 127 [.t 11,.t 94]]))) (qr [qm 97 13,qa 98 122 [.t 97],qc 99 .eql 98 2,qm 96 99] (qu 96 (qR [qm 100 13,qm 101 13,qa 102 124 [.t 101],qa 103 123 [.t 100,.t 102],qa 104 125 [.t 11,.t 103]]) (qr [qm 52 12,qa 53 124 [.t 52],qm 54 13,qa 55 124 [.t 54],qo 56 (.mm false (.t 53) (.t 55)),qm 15 56] (qr [qm 57 12,qa 58 122 [.t 57],qc 59 .eql 58 1,qm 60 13,qa 61 122 [.t 60],qc 62 .eql 61 3,qm 16 59,qm 17 62] (qr [qm 63 12,qm 64 15,qa 65 123 [.t 63,.t 64],qm 18 65] (qr [qm 66 13,qm 67 15,qa 68 123 [.t 66,.t 67]] (.block 3 (qr [qm 70 16,qm 71 70,qg 72 71 true (.mov (.t 17)),qo 73 (.pick (.t 71) (.t 72) (.c (.bool false))),qm 69 73] (qu 69 (qR [qm 74 15,qa 75 127 [.t 11,.t 74]]) (qr [qm 77 16,qm 76 77] (qu 76 (qR [qm 78 15,qa 79 126 [.t 11,.t 78]]) (qr [qm 81 17,qo 82 (.not (.t 81)),qm 80 82] (qu 80 (qR [qm 83 18,qa 84 125 [.t 11,.t 83]]) .skip)))))))))))))))))))) (qr [qa 105 128 [.t 11],qm 4 105,qz 5 0] .ret)))))))))
theorem NM:fo Tryz.prog 101 Tryz.f101 DC [.t 4,.t 5] 2 eV:=⟨Tryz.func101,by decide+kernel,by kernel_rfl,by kernel_rfl,by decide+kernel⟩
structure YC(ts:List fP) where
 la:List Part
 ua:Int
 lb:List Part
 ub:Int
 ra:List (List V)
 rb:List (List V)
 m:Mk
 n:Nat
 put:BS
 cut:Int
 rows:List (List V)
 ba:Option Nat
 j:Nat
 sS:ra=la.map a6
 rB:rb=lb.map a6
 hm:n=m.out.length/\rows=m.out.map a6/\put=m.put/\cut=m.cut
 kN:lA la ua
 jY:lA lb ub
 jR:Mk.new.run ts=m.run (cmp (eU la ua) (eU lb ub))
 lG:fi (eU la ua)=fH (eU lb ub)
 hb:m.Bd j j
 hj:j+(eU la ua).length+(eU lb ub).length<=10000
theorem NN(P:Prim)(hP:P=ca)(T T1:cp)(a b:List Part)(M N:List (List V))(W:M=a.map a6)(X:N=b.map a6)
  (Tq:∀k:Int,0<=k/\k<=1000000->EE T 126 [qI k] (λm=>∃j w,m.Bd j w/\j<=2000000) (λm=>m.fF k) rA)
  (F:∀s:BS,s.length<=1000000000->EE T 125 [.str s] (λm=>m.put.length+s.length<=1000000000) (λm=>m.gm s) rA)
  (Y:∀k:Int,0<=k/\k<=1000000->EE T 127 [qI k] (λm=>∃j w,m.Bd j w/\j<=2000000) (λm=>m.gZ k) rA)
  (Tr:EE T 128 [] (λm=>m.out.length<=100000000) (λm=>⟨m.flush,[],0⟩) CM)
  (A:Iy T)(d:Iq T 122 (λ_ _=>True) (λl _=>zM l) true)(g:Iq T 124 (λl u=>l≠[]/\lA l u) (λl u=>rX l-u) true)(i:Ix T)
  (i1 o1 c1 i2 o2 c2:Int)(hs1:lO a=(i1,o1,c1))(hs2:lO b=(i2,o2,c2))
  (hc1:fZ T 87 [.sl false 3 M] (.tup [qI i1,qI o1,qI c1]))(Ts:fZ T 87 [.sl false 3 N] (.tup [qI i2,qI o2,qI c2]))
  (r:List Part)(e:Int)(hr:iT a b=(r,e))(rr:List (List V))(ko:rr=r.map a6)
  (R:S->Prop)(hR:∀e2,e2=e->tI [.t 4,.t 5] 3 rr [qI e2] R):fX P T T1 DC (S0 [.sl false 3 M,.sl false 3 N] Hp.emp) R (λ_ _=>False) R:=by
 have q1:c1=cF a/\(cF a=0->o1=gX a):=by
  unfold lO at hs1
  by_cases h:cF a=0
  ·rw[ae h] at hs1;simp only[aX] at hs1;exact⟨qW,λ_=>hs1.2.1.symm⟩
  ·rw[aa h] at hs1;simp only[aX] at hs1;exact⟨hs1.2.2.symm,λhh=>absurd hh h⟩
 have q2:c2=cF b/\(cF b=0->i2=jy b):=by
  unfold lO at hs2
  by_cases h:cF b=0
  ·rw[ae h] at hs2;simp only[aX] at hs2;exact⟨qW,λ_=>hs2.1.symm⟩
  ·rw[aa h] at hs2;simp only[aX] at hs2;exact⟨hs2.2.2.symm,λhh=>absurd hh h⟩
 clear hs1 hs2;unfold iT at hr;rw[<-q1.1,<-q2.1] at hr;cbv;refine hc1 _ _ ?_;clear hc1;cbv;refine ab (λh=>?_) (λh=>?_)
 ·have G:c1≠0:=fE hP h;rw[ae G] at hr;simp only[aX] at hr;cbv;exact(hR _ hr.2).1 _ _ (a7.refl _) rfl (by rw[ko,<-hr.1];rfl)
 have hz1:c1=0:=fD hP h;rw[aa (λh=>h hz1)] at hr;cbv;refine Ts _ _ ?_;clear Ts;cbv;refine ab (λh=>?_) (λh=>?_)
 ·have G:c2≠0:=fE hP h;rw[ae G] at hr;simp only[aX] at hr;cbv;exact(hR _ hr.2).1 _ _ (a7.refl _) rfl (by rw[ko,<-hr.1];rfl)
 have hz2:c2=0:=fD hP h;rw[aa (λh=>h hz2)] at hr;have za:cF a=0:=q1.1.symm.trans hz1;have zb:cF b=0:=q2.1.symm.trans hz2;rw[<-q1.2 za,<-q2.2 zb] at hr;cbv;refine ab (λh=>?_) (λh=>?_)
 ·have G:o1≠i2:=fE hP h;rw[ae G] at hr;simp only[aX] at hr;cbv;exact(hR _ hr.2).1 _ _ (a7.refl _) rfl (by rw[ko,<-hr.1];rfl)
 have Tt:o1=i2:=fD hP h;rw[aa (λh=>h Tt)] at hr;simp only[aX] at hr;rw[q1.2 za,q2.2 zb] at Tt;obtain⟨Sp,H,X9,Ya,_,_⟩:=dv za;obtain⟨Rd,I,hb1,hb2,_,_⟩:=dv zb;have Yb:=ja a H;have VD:=hZ a H;have Yc:=hZ b I;have VE:=ja b I;have hlen:∀ts:List fP,ts.length<=fH ts+fi ts:=by
  intro ts
  induction ts with
  |nil=>simp
  |cons t ts ih=>cases t<;>simp[fH,dE,fi] at* <;>omega
 have OM:=hlen (cm a);have Re:=hlen (cm b);have Tu:∀(l:List Part),(∀p∈l,oq p)->lA l 0:=by
  intro l hl;refine⟨hl,?_⟩;cases l with
  |nil=>rfl
  |cons p l=>exact⟨bf _,size_pos (hl p (by simp))⟩
 have D:∀l:List Part,eU l 0=cm l:=λl=>by simp[eU]
 clear h;cbv;intro Z;cbv;refine A 2000 a _ _ _ W rfl rfl λbx=>?_;cbv;refine A 2001 b _ _ _ X rfl rfl λbz=>?_;clear A;cbv;refine⟨YC (cmp (cm a) (cm b)),λy=>[(11,.ptr 11 (some Z) 3 0 0),(12,.ptr 2000 (some bx) 2 0 0),(13,.ptr 2001 (some bz) 2 0 0)],
  λy=>[(11,⟨some Z,182,3,[[.own 1000999 y.ba 3 y.n,.str y.put,qI y.cut]]⟩),(1000999,⟨y.ba,115,3,y.rows⟩),(2000,⟨some bx,210,2,[[.sl false 3 y.ra,qI y.ua]]⟩),(2001,⟨some bz,210,2,[[.sl false 3 y.rb,qI y.ub]]⟩)],
  λy=>(eU y.la y.ua).length+(eU y.lb y.ub).length,
  ⟨_,a7.mT (k:=11) (k':=1000999) (ty:=115) (sz:=3) (r:=0) (c:=0) rfl rfl rfl rfl,⟨a,0,b,0,M,N,Mk.new,_,_,_,_,_,0,W,X,⟨rfl,rfl,rfl,rfl⟩,Tu a H,Tu b I,by rw[D,D],by rw[D,D];((try simp only[nc] at*);omega),Mk.vq,by rw[D,D];((try simp only[nc] at*);omega)⟩,⟨rfl,rfl,rfl,trivial⟩,⟨rfl,rfl,rfl,rfl,trivial⟩⟩,?_⟩
 rintro⟨la,ua,lb,ub,ra,rb,m,n,put,cut,WJ,bm,j,sS,rB,hm,kN,jY,jR,lG,hb,hj⟩;have Vn:=hb.put;have hbl:=hb.len;cbv;refine d _ _ _ _ _ _ _ sS trivial rfl λkx Tv=>?_;cbv
 rcases la with _|⟨p,la⟩
 ·
  have NO:kx=0:=Tv;refine fv (EG hP NO) ?_;cbv;refine d _ _ _ _ _ _ _ rB trivial rfl λky Tw=>?_;cbv
  rcases lb with _|⟨q,lb⟩
  ·
   have VF:ky=0:=Tw;refine fv (EG hP VF) ?_;cbv;refine Tr _ _ _ _ _ _ _ _ m _ _ hm qW rfl rfl rfl λE n' v x rows' f=>?_;obtain⟨VG,O,_,_⟩:=f;have Tx:r=m.flush:=by
    rw[<-hr.1];show(Mk.new.run _).flush=_;rw[jR];simp[eU,cm,cmp,gq,Mk.run]
   cbv;exact(hR _ hr.2).2.1 _ _ _ _ _ _ _ (a7.refl _) rfl rfl ⟨by rw[ko,Tx,VG];simp,by rw[ko,Tx,O]⟩
  ·have VH:ky=q.kind:=Tw;have Q:q.kind=2:=by
    have Ty:=gu (jY.1 q (by simp))
    by_cases h2:q.kind=2
    ·exact h2
    ·exfalso
     have hu:=jY.2;simp only at hu;have hk:0<=dn q-ub/\ub+(dn q-ub)<=dn q:=by omega
     rw[ie jY hk,kq,jX q ub _ (jY.1 q (by simp)),aa h2] at lG;simp[eU,cm,fi] at lG;omega
   obtain⟨s1,s2,s3,s4⟩:=Ao (m:=m) jY Q (la:=[]) (ua:=ua) (by intro r hr;simp[eU,cm] at hr) lG;have hu:=jY.2;simp only at hu;have hk:0<=dn q-ub/\ub+(dn q-ub)<=dn q:=by omega
   have hsz:=size_le (jY.1 q (by simp));refine eY (EF hP qW) ?_;cbv;refine d _ _ _ _ _ _ _ sS trivial rfl λRf J=>?_;have Sq:Rf=0:=J;cbv;refine fv (oR hP qW) ?_;cbv;refine d _ _ _ _ _ _ _ rB trivial rfl λNP K=>?_;have UW:NP=q.kind:=K;cbv;refine eY (my hP qW) ?_;cbv;refine g _ _ _ _ _ _ _ rB ⟨by simp,jY⟩ rfl λql L=>?_;have z:ql=dn q-ub:=L;cbv;refine i _ _ q lb ub ql _ _ _ rB jY qW rfl λqs rows' u' e1 e2 e3=>?_;rw[z] at e1 e2 e3;cbv;have pc:=F qs (by rw[e1,s4];omega);refine pc _ _ _ _ _ _ _ _ m _ _ hm (by rw[e1,s4];omega) rfl rfl rfl λE n' v x gB f=>?_;cbv;refine⟨_,a7.refl _,⟨[],ua,(eR (q::lb) ub (dn q-ub)).1,_,_,_,m.gm qs,_,_,_,_,_,j+(dn q-ub).toNat,sS,e2,f,kN,by rw[e3];exact gy jY hk,?_,?_,?_,?_⟩,⟨rfl,rfl,rfl,trivial⟩,⟨rfl,rfl,rfl,rfl,trivial⟩,?_⟩
   ·rw[jR,s1,e1,e3]
   ·rw[e3];exact s2
   ·exact(hb.gm qs).mono qW (by rw[e1,s4];omega)
   ·rw[e3];((try simp only[nc] at*);omega)
   ·show(eU [] ua).length+(eU (eR (q::lb) ub (dn q-ub)).1 u').length<(eU [] ua).length+(eU (q::lb) ub).length;rw[e3];((try simp only[nc] at*);omega)
 ·have UX:kx=p.kind:=Tv;have PN:=gu (kN.1 p (by simp));have UY:=kN.2;simp only at UY;refine eY (EF hP qW) ?_;cbv;refine d _ _ _ _ _ _ _ sS trivial rfl λRf J=>?_;have Sq:Rf=p.kind:=J;cbv
  by_cases p3:p.kind=3
  ·
   obtain⟨s1,s2,s3⟩:=JY (m:=m) kN p3 lG;have hk:0<=dn p-ua/\ua+(dn p-ua)<=dn p:=by omega
   have hsz:=size_le (kN.1 p (by simp));refine eY (my hP qW) ?_;cbv;refine g _ _ _ _ _ _ _ sS ⟨by simp,kN⟩ rfl λql L=>?_;have z:ql=dn p-ua:=L;cbv;refine i _ _ p la ua ql _ _ _ sS kN qW rfl λqs rows' u' e1 e2 e3=>?_;rw[z] at e1 e2 e3;cbv;have pc:=Y ql qW;refine pc _ _ _ _ _ _ _ _ m _ _ hm ⟨_,_,hb,qW⟩ rfl rfl rfl λE n' v x gB f=>?_;rw[z] at f;cbv;refine⟨_,a7.refl _,⟨(eR (p::la) ua (dn p-ua)).1,_,lb,ub,_,_,m.gZ (dn p-ua),_,_,_,_,_,j+(dn p-ua).toNat,e2,rB,f,by rw[e3];exact gy kN hk,jY,?_,?_,?_,?_⟩,⟨rfl,rfl,rfl,trivial⟩,⟨rfl,rfl,rfl,rfl,trivial⟩,?_⟩
   ·rw[jR,s1,e3]
   ·rw[e3];exact s2
   ·exact(hb.gZ _ hk.1).mono qW qW
   ·rw[e3];((try simp only[nc] at*);omega)
   ·show(eU (eR (p::la) ua (dn p-ua)).1 u').length+(eU lb ub).length<(eU (p::la) ua).length+(eU lb ub).length;rw[e3];((try simp only[nc] at*);omega)
  ·refine fv (oR hP qW) ?_;cbv
   rcases lb with _|⟨q,lb⟩
   ·exfalso
    have hk:0<=dn p-ua/\ua+(dn p-ua)<=dn p:=by omega
    rw[ie kN hk,nB,qJ p ua _ (kN.1 p (by simp)) hk UY.1,aa p3] at lG;simp[eU,cm,fH,dE] at lG;omega
   refine d _ _ _ _ _ _ _ rB trivial rfl λNP K=>?_;have UW:NP=q.kind:=K;have Ty:=gu (jY.1 q (by simp));have UZ:=jY.2;simp only at UZ;cbv
   by_cases q2:q.kind=2
   ·obtain⟨s1,s2,s3,s4⟩:=Ao (m:=m) jY q2 (NL kN p3) lG;have hk:0<=dn q-ub/\ub+(dn q-ub)<=dn q:=by omega
    have hsz:=size_le (jY.1 q (by simp));refine eY (my hP qW) ?_;cbv;refine g _ _ _ _ _ _ _ rB ⟨by simp,jY⟩ rfl λql L=>?_;have z:ql=dn q-ub:=L;cbv;refine i _ _ q lb ub ql _ _ _ rB jY qW rfl λqs rows' u' e1 e2 e3=>?_;rw[z] at e1 e2 e3;cbv;have pc:=F qs (by rw[e1,s4];omega);refine pc _ _ _ _ _ _ _ _ m _ _ hm (by rw[e1,s4];omega) rfl rfl rfl λE n' v x gB f=>?_;cbv;refine⟨_,a7.refl _,⟨p::la,ua,(eR (q::lb) ub (dn q-ub)).1,_,_,_,m.gm qs,_,_,_,_,_,j+(dn q-ub).toNat,sS,e2,f,kN,by rw[e3];exact gy jY hk,?_,?_,?_,?_⟩,⟨rfl,rfl,rfl,trivial⟩,⟨rfl,rfl,rfl,rfl,trivial⟩,?_⟩
    ·rw[jR,s1,e1,e3]
    ·rw[e3];exact s2
    ·exact(hb.gm qs).mono qW (by rw[e1,s4];omega)
    ·rw[e3];((try simp only[nc] at*);omega)
    ·show(eU (p::la) ua).length+(eU (eR (q::lb) ub (dn q-ub)).1 u').length<(eU (p::la) ua).length+(eU (q::lb) ub).length;rw[e3];((try simp only[nc] at*);omega)
   ·refine fv (oR hP qW) ?_;cbv;refine g _ _ _ _ _ _ _ sS ⟨by simp,kN⟩ rfl λq1 P9=>?_;have P9:q1=dn p-ua:=P9;cbv;refine g _ _ _ _ _ _ _ rB ⟨by simp,jY⟩ rfl λB Q=>?_;have Q:B=dn q-ub:=Q;cbv;refine d _ _ _ _ _ _ _ sS trivial rfl λVI Rg=>?_;have Yd:VI=p.kind:=Rg;cbv;refine d _ _ _ _ _ _ _ rB trivial rfl λVJ Rh=>?_;have Ye:VJ=q.kind:=Rh;cbv;obtain⟨k,hk⟩:∃k,P.mn q1 B=k:=⟨_,rfl⟩;have Yf:k=min q1 B:=by rw[<-hk,CQ hP]
    have o:0<k/\ua+k<=dn p/\ub+k<=dn q:=by omega
    obtain⟨s1,s2,s3,s4,s5⟩:=Ff (m:=m) (k:=k) kN jY p3 q2 qW o.2.1 o.2.2 lG;have hsz:=size_le (kN.1 p (by simp));refine i _ _ p la ua (P.mn q1 B) _ _ _ sS kN (by rw[hk];omega) rfl λU DD u1 e1 e2 e3=>?_;rw[hk] at e1 e2 e3;cbv;refine i _ _ q lb ub (P.mn q1 B) _ _ _ rB jY (by rw[hk];omega) rfl λYg gB u2 f1 f2 f3=>?_;rw[hk] at f1 f2 f3;cbv
    by_cases p1:p.kind=1
    ·refine eY (my hP qW) ?_;cbv
     by_cases q3:q.kind=3
     ·have C:ll m p q ua k=m.gZ k:=by simp[ll,p1,q3]
      refine eY (my hP qW) ?_;cbv;have cc:=Y (P.mn q1 B) (by rw[hk];omega);refine cc _ _ _ _ _ _ _ _ m _ _ hm ⟨_,_,hb,qW⟩ rfl rfl rfl λE n' v x VK f=>?_;rw[hk] at f;cbv;refine⟨_,a7.refl _,⟨(eR (p::la) ua k).1,_,(eR (q::lb) ub k).1,_,_,_,m.gZ k,_,_,_,_,_,j+k.toNat,e2,f2,f,by rw[e3];exact gy kN ⟨qW,o.2.1⟩,by rw[f3];exact gy jY ⟨qW,o.2.2⟩,by rw[jR,s1,e3,f3,C],by rw[e3,f3];exact s2,?_,by rw[e3,f3];((try simp only[nc] at*);omega)⟩,⟨rfl,rfl,rfl,trivial⟩,⟨rfl,rfl,rfl,rfl,trivial⟩,?_⟩
      ·exact(hb.gZ _ qW).mono qW qW
      ·show(eU (eR (p::la) ua k).1 u1).length+(eU (eR (q::lb) ub k).1 u2).length<(eU (p::la) ua).length+(eU (q::lb) ub).length;rw[e3,f3];((try simp only[nc] at*);omega)
     ·have C:ll m p q ua k=m.fF k:=by simp[ll,p1,q3]
      refine fv (oR hP qW) ?_;cbv;refine eY (my hP qW) ?_;cbv;have cc:=Tq (P.mn q1 B) (by rw[hk];omega);refine cc _ _ _ _ _ _ _ _ m _ _ hm ⟨_,_,hb,qW⟩ rfl rfl rfl λE n' v x VK f=>?_;rw[hk] at f;cbv;refine⟨_,a7.refl _,⟨(eR (p::la) ua k).1,_,(eR (q::lb) ub k).1,_,_,_,m.fF k,_,_,_,_,_,j+k.toNat,e2,f2,f,by rw[e3];exact gy kN ⟨qW,o.2.1⟩,by rw[f3];exact gy jY ⟨qW,o.2.2⟩,by rw[jR,s1,e3,f3,C],by rw[e3,f3];exact s2,?_,by rw[e3,f3];((try simp only[nc] at*);omega)⟩,⟨rfl,rfl,rfl,trivial⟩,⟨rfl,rfl,rfl,rfl,trivial⟩,?_⟩
      ·exact(hb.fF _ qW).mono qW qW
      ·show(eU (eR (p::la) ua k).1 u1).length+(eU (eR (q::lb) ub k).1 u2).length<(eU (p::la) ua).length+(eU (q::lb) ub).length;rw[e3,f3];((try simp only[nc] at*);omega)
    ·refine fv (oR hP qW) ?_;cbv;refine fv (oR hP qW) ?_;cbv
     by_cases q3:q.kind=3
     ·have C:ll m p q ua k=m:=by simp[ll,p1,q3]
      refine eY (my hP qW) ?_;cbv;refine⟨_,a7.refl _,⟨(eR (p::la) ua k).1,_,(eR (q::lb) ub k).1,_,_,_,m,_,_,_,_,_,j+k.toNat,e2,f2,hm,by rw[e3];exact gy kN ⟨qW,o.2.1⟩,by rw[f3];exact gy jY ⟨qW,o.2.2⟩,by rw[jR,s1,e3,f3,C],by rw[e3,f3];exact s2,?_,by rw[e3,f3];((try simp only[nc] at*);omega)⟩,⟨rfl,rfl,rfl,trivial⟩,⟨rfl,rfl,rfl,rfl,trivial⟩,?_⟩
      ·exact hb.mono qW qW
      ·show(eU (eR (p::la) ua k).1 u1).length+(eU (eR (q::lb) ub k).1 u2).length<(eU (p::la) ua).length+(eU (q::lb) ub).length;rw[e3,f3];((try simp only[nc] at*);omega)
     ·have Yh:js (p::la) ua k=(p.text.drop ua.toNat).take k.toNat:=by simp only[js];rw[ae qW]
      have C:ll m p q ua k=m.gm U:=by rw[e1,Yh];simp[ll,p1,q3]
      refine fv (oR hP qW) ?_;cbv;have cc:=F U (by rw[e1];omega);refine cc _ _ _ _ _ _ _ _ m _ _ hm (by rw[e1];omega) rfl rfl rfl λE n' v x VK f=>?_;cbv;refine⟨_,a7.refl _,⟨(eR (p::la) ua k).1,_,(eR (q::lb) ub k).1,_,_,_,m.gm U,_,_,_,_,_,j+k.toNat,e2,f2,f,by rw[e3];exact gy kN ⟨qW,o.2.1⟩,by rw[f3];exact gy jY ⟨qW,o.2.2⟩,by rw[jR,s1,e3,f3,C],by rw[e3,f3];exact s2,?_,by rw[e3,f3];((try simp only[nc] at*);omega)⟩,⟨rfl,rfl,rfl,trivial⟩,⟨rfl,rfl,rfl,rfl,trivial⟩,?_⟩
      ·exact(hb.gm U).mono qW (by rw[e1];omega)
      ·show(eU (eR (p::la) ua k).1 u1).length+(eU (eR (q::lb) ub k).1 u2).length<(eU (p::la) ua).length+(eU (q::lb) ub).length;rw[e3,f3];((try simp only[nc] at*);omega)
theorem NQ(a b:List Part)(ha:a.length<=maxLen)(hb:b.length<=maxLen):Spec Tryz.prog 101 [fc a,fc b] Hp.emp (Is (.tup [fc (iT a b).1,.int .i64 (iT a b).2])):=
 hH gY NM λR c=>NN ca rfl _ _ a b _ _ rfl rfl (λk hk=>OU k hk) (λs hs=>SN s hs) (λk hk=>SO k hk) OV O2 vG vH O1 _ _ _ _ _ _ rfl rfl (iV (oM a ha) rfl) (iV (oM b hb) rfl) _ _ rfl _ rfl R λe2 he=>by
  subst he;exact mu (ly _) (ff _) (xS _) λs s' he hr=>c s s' he hr
def mt(xs a:List fP):List fP×List fP:=fI (xs.length+a.length) xs a
theorem n5:∀(f:Nat)(xs a:List fP),xs.length+a.length<=f->fI f xs a=mt xs a:=by
 have key:∀(f g:Nat)(xs a:List fP),xs.length+a.length<=f->xs.length+a.length<=g->fI f xs a=fI g xs a:=by
  intro f
  induction f with
  |zero=>
   intro g xs a h _;have h1:xs=[]:=aq qW;have h2:a=[]:=aq qW;subst h1 h2;cases g<;>rfl
  |succ f ih=>
   intro g xs a h1 h2;cases g with
   |zero=>
    have e1:xs=[]:=aq qW;have e2:a=[]:=aq qW;subst e1 e2;rfl
   |succ g=>
    rcases xs with _|⟨x,xs⟩
    ·rcases a with _|⟨y,a⟩
     ·rfl
     ·simp at h1 h2;cases y<;>simp only[fI]
      rw[ih g [] a (by simp;omega) (by simp;omega)]
    ·rcases a with _|⟨y,a⟩
     ·simp at h1 h2;cases x<;>simp only[fI]
      rw[ih g xs [] (by simp;omega) (by simp;omega)]
     ·simp at h1 h2;cases x<;>cases y<;>simp only[fI]
      all_goals(rw[ih g _ _ (by first|omega|(simp;omega)) (by first|omega|(simp;omega))])
 exact λf xs a h=>key _ _ xs a h (ag _)
theorem Tz(xs a:List fP)(b:UInt8):mt (.put b::xs) a=(.put b::(mt xs a).1,.keep::(mt xs a).2):=by
 unfold mt;rw[show(fP.put b::xs).length+a.length=(xs.length+a.length)+1 by simp;omega];rfl
theorem TA(xs a:List fP)(b:UInt8)(h:∀c r,xs≠.put c::r):mt xs (.put b::a)=(.keep::(mt xs a).1,.put b::(mt xs a).2):=by
 unfold mt;rw[show xs.length+(fP.put b::a).length=(xs.length+a.length)+1 by simp;omega,fI];intro c r hr;exact h c r hr
theorem TB(xs a:List fP):mt (.keep::xs) (.keep::a)=(.keep::(mt xs a).1,.keep::(mt xs a).2):=by
 conv=>lhs;unfold mt
 rw[show(fP.keep::xs).length+(fP.keep::a).length=(xs.length+a.length+1)+1 by simp;omega,fI,n5 _ _ _ qW]
theorem TC(xs a:List fP):mt (.cut::xs) (.keep::a)=(.cut::(mt xs a).1,(mt xs a).2):=by
 conv=>lhs;unfold mt
 rw[show(fP.cut::xs).length+(fP.keep::a).length=(xs.length+a.length+1)+1 by simp;omega,fI,n5 _ _ _ qW]
theorem TD(xs a:List fP):mt (.keep::xs) (.cut::a)=((mt xs a).1,.cut::(mt xs a).2):=by
 conv=>lhs;unfold mt
 rw[show(fP.keep::xs).length+(fP.cut::a).length=(xs.length+a.length+1)+1 by simp;omega,fI,n5 _ _ _ qW]
theorem TE(xs a:List fP):mt (.cut::xs) (.cut::a)=mt xs a:=by
 conv=>lhs;unfold mt
 rw[show(fP.cut::xs).length+(fP.cut::a).length=(xs.length+a.length+1)+1 by simp;omega,fI,n5 _ _ _ qW]
theorem Ri(t:BS)(xs a:List fP):mt (t.map .put++xs) a=(t.map .put++(mt xs a).1,List.replicate t.length .keep++(mt xs a).2):=by
 induction t with
 |nil=>rfl
 |cons b t ih=>simp only[aL,ay,Tz,ih,ar,aB]
theorem Rj(t:BS)(xs a:List fP)(h:∀c r,xs≠.put c::r):mt xs (t.map .put++a)=(List.replicate t.length .keep++(mt xs a).1,t.map .put++(mt xs a).2):=by
 induction t with
 |nil=>rfl
 |cons b t ih=>simp only[aL,ay,TA _ _ _ h,ih,ar,aB]
theorem Rl(n:Nat)(xs a:List fP):mt (List.replicate n .keep++xs) (List.replicate n .keep++a)=(List.replicate n .keep++(mt xs a).1,List.replicate n .keep++(mt xs a).2):=by
 induction n with
 |zero=>rfl
 |succ n ih=>simp only[aB,ay,TB,ih]
theorem Rm(n:Nat)(xs a:List fP):mt (List.replicate n .cut++xs) (List.replicate n .keep++a)=(List.replicate n .cut++(mt xs a).1,(mt xs a).2):=by
 induction n with
 |zero=>rfl
 |succ n ih=>simp only[aB,ay,TC,ih]
theorem Rn(n:Nat)(xs a:List fP):mt (List.replicate n .keep++xs) (List.replicate n .cut++a)=((mt xs a).1,List.replicate n .cut++(mt xs a).2):=by
 induction n with
 |zero=>rfl
 |succ n ih=>simp only[aB,ay,TD,ih]
theorem Ro(n:Nat)(xs a:List fP):mt (List.replicate n .cut++xs) (List.replicate n .cut++a)=mt xs a:=by
 induction n with
 |zero=>rfl
 |succ n ih=>simp only[aB,ay,TE,ih]
def gF(m:Mk)(a b:Part)(n:Int):Mk:=if a.kind=1/\b.kind=1 then m.fF n else if a.kind=3/\b.kind=1 then m.gZ n else m
def gG(m:Mk)(a b:Part)(n:Int):Mk:=if a.kind=1/\b.kind=1 then m.fF n else if a.kind=1/\b.kind=3 then m.gZ n else m
theorem NR{p:Part}{r:List Part}{u:Int}(ok:lA (p::r) u)(h2:p.kind≠2):∀c q,eU (p::r) u≠.put c::q:=by
 intro c q hq;have hu:=ok.2;simp only at hu;have hk:0<=dn p-u/\u+(dn p-u)<=dn p:=by omega
 have h1:=ie ok hk;obtain⟨n,hn⟩:∃n,(dn p-u).toNat=n+1:=⟨(dn p-u).toNat-1,qW⟩;have:chunk p u (dn p-u)=List.replicate (dn p-u).toNat (if p.kind=1 then fP.keep else fP.cut):=by unfold chunk;rw[aa h2]
 rw[h1,this,hn,aB] at hq;simp only[ay,bB] at hq;have:=hq.1
 split at this<;>cases this
theorem JZ{p:Part}{r lb:List Part}{ua ub:Int}(ok:lA (p::r) ua)(h2:p.kind=2)(lG:fH (eU (p::r) ua)=fH (eU lb ub)):
  mt (eU (p::r) ua) (eU lb ub)=((js (p::r) ua (dn p-ua)).map .put++(mt (eU (eR (p::r) ua (dn p-ua)).1 (eR (p::r) ua (dn p-ua)).2) (eU lb ub)).1,List.replicate (js (p::r) ua (dn p-ua)).length .keep++(mt (eU (eR (p::r) ua (dn p-ua)).1 (eR (p::r) ua (dn p-ua)).2) (eU lb ub)).2)/\
   fH (eU (eR (p::r) ua (dn p-ua)).1 (eR (p::r) ua (dn p-ua)).2)=fH (eU lb ub)/\((eU (p::r) ua).length:Int)=(dn p-ua)+(eU (eR (p::r) ua (dn p-ua)).1 (eR (p::r) ua (dn p-ua)).2).length/\(js (p::r) ua (dn p-ua)).length=(dn p-ua).toNat:=by
 have hu:=ok.2;simp only at hu;have hk:0<=dn p-ua/\ua+(dn p-ua)<=dn p:=by omega
 have h1:=ie ok hk;have h3:=jV ok hk;have hc:chunk p ua (dn p-ua)=(js (p::r) ua (dn p-ua)).map .put:=by unfold chunk;rw[ae h2];simp[js,h2]
 have ho:=jX p ua (dn p-ua) (ok.1 p (by simp));rw[ae h2] at ho;refine⟨?_,?_,?_,?_⟩
 ·rw[h1,hc,Ri]
 ·rw[h1,kq] at lG;omega
 ·rw[h1,an,h3];omega
 ·rw[hc,aI] at h3;exact h3
theorem Ap{q:Part}{s la:List Part}{ua ub:Int}(ok:lA (q::s) ub)(h2:q.kind=2)(a:∀c r,eU la ua≠.put c::r)(lG:fH (eU la ua)=fH (eU (q::s) ub)):
  mt (eU la ua) (eU (q::s) ub)=(List.replicate (js (q::s) ub (dn q-ub)).length .keep++(mt (eU la ua) (eU (eR (q::s) ub (dn q-ub)).1 (eR (q::s) ub (dn q-ub)).2)).1,(js (q::s) ub (dn q-ub)).map .put++(mt (eU la ua) (eU (eR (q::s) ub (dn q-ub)).1 (eR (q::s) ub (dn q-ub)).2)).2)/\
   fH (eU la ua)=fH (eU (eR (q::s) ub (dn q-ub)).1 (eR (q::s) ub (dn q-ub)).2)/\((eU (q::s) ub).length:Int)=(dn q-ub)+(eU (eR (q::s) ub (dn q-ub)).1 (eR (q::s) ub (dn q-ub)).2).length/\(js (q::s) ub (dn q-ub)).length=(dn q-ub).toNat:=by
 have hu:=ok.2;simp only at hu;have hk:0<=dn q-ub/\ub+(dn q-ub)<=dn q:=by omega
 have h1:=ie ok hk;have h3:=jV ok hk;have hc:chunk q ub (dn q-ub)=(js (q::s) ub (dn q-ub)).map .put:=by unfold chunk;rw[ae h2];simp[js,h2]
 have ho:=jX q ub (dn q-ub) (ok.1 q (by simp));rw[ae h2] at ho;refine⟨?_,?_,?_,?_⟩
 ·rw[h1,hc,Rj _ _ _ a]
 ·rw[h1,kq] at lG;omega
 ·rw[h1,an,h3];omega
 ·rw[hc,aI] at h3;exact h3
theorem B9{p q:Part}{r s:List Part}{ua ub k:Int}{m1 m2:Mk}(kN:lA (p::r) ua)(jY:lA (q::s) ub)(h3:p.kind≠2)(h2:q.kind≠2)(hk:0<=k)(b:ua+k<=dn p)(c:ub+k<=dn q)(lG:fH (eU (p::r) ua)=fH (eU (q::s) ub)):
  m1.run (mt (eU (p::r) ua) (eU (q::s) ub)).1=(gF m1 p q k).run (mt (eU (eR (p::r) ua k).1 (eR (p::r) ua k).2) (eU (eR (q::s) ub k).1 (eR (q::s) ub k).2)).1/\
  m2.run (mt (eU (p::r) ua) (eU (q::s) ub)).2=(gG m2 p q k).run (mt (eU (eR (p::r) ua k).1 (eR (p::r) ua k).2) (eU (eR (q::s) ub k).1 (eR (q::s) ub k).2)).2/\
   fH (eU (eR (p::r) ua k).1 (eR (p::r) ua k).2)=fH (eU (eR (q::s) ub k).1 (eR (q::s) ub k).2)/\((eU (p::r) ua).length:Int)=k+(eU (eR (p::r) ua k).1 (eR (p::r) ua k).2).length/\((eU (q::s) ub).length:Int)=k+(eU (eR (q::s) ub k).1 (eR (q::s) ub k).2).length:=by
 have g:=kN.2;have h:=jY.2;simp only at g h;have a1:=ie kN ⟨hk,b⟩;have a2:=jV kN ⟨hk,b⟩;have b1:=ie jY ⟨hk,c⟩;have b2:=jV jY ⟨hk,c⟩;have i:=gu (kN.1 p (by simp));have j:=gu (jY.1 q (by simp));have ho:=jX p ua k (kN.1 p (by simp));have hi:=jX q ub k (jY.1 q (by simp));rw[aa h3] at ho;rw[aa h2] at hi;have e:((k.toNat:Nat):Int)=k:=by omega
 have l:chunk p ua k=List.replicate k.toNat (if p.kind=1 then .keep else .cut):=by unfold chunk;rw[aa h3]
 have cb:chunk q ub k=List.replicate k.toNat (if q.kind=1 then .keep else .cut):=by unfold chunk;rw[aa h2]
 have key:m1.run (mt (eU (p::r) ua) (eU (q::s) ub)).1=(gF m1 p q k).run (mt (eU (eR (p::r) ua k).1 (eR (p::r) ua k).2) (eU (eR (q::s) ub k).1 (eR (q::s) ub k).2)).1/\
  m2.run (mt (eU (p::r) ua) (eU (q::s) ub)).2=(gG m2 p q k).run (mt (eU (eR (p::r) ua k).1 (eR (p::r) ua k).2) (eU (eR (q::s) ub k).1 (eR (q::s) ub k).2)).2:=by
  rw[a1,b1,l,cb]
  by_cases p1:p.kind=1
  ·by_cases q1:q.kind=1
   ·have a:gF m1 p q k=m1.fF k:=by simp[gF,p1,q1]
    have z2:gG m2 p q k=m2.fF k:=by simp[gG,p1,q1]
    rw[ae p1,ae q1,a,z2,Rl];simp only[Mk.jC,Mk.oN,e,and_self]
   ·have d:q.kind=3:=by omega
    have a:gF m1 p q k=m1:=by simp[gF,p1,d]
    have z2:gG m2 p q k=m2.gZ k:=by simp[gG,p1,d]
    rw[ae p1,aa q1,a,z2,Rn];simp only[Mk.jC,Mk.uh,e,and_self]
  ·have f:p.kind=3:=by omega
   by_cases q1:q.kind=1
   ·have a:gF m1 p q k=m1.gZ k:=by simp[gF,f,q1]
    have z2:gG m2 p q k=m2:=by simp[gG,f]
    rw[aa p1,ae q1,a,z2,Rm];simp only[Mk.jC,Mk.uh,e,and_self]
   ·have d:q.kind=3:=by omega
    have a:gF m1 p q k=m1:=by simp[gF,f,d]
    have z2:gG m2 p q k=m2:=by simp[gG,f]
    rw[aa p1,aa q1,a,z2,Ro];exact⟨rfl,rfl⟩
 refine⟨key.1,key.2,?_,?_,?_⟩
 ·rw[a1,b1,kq,kq] at lG;omega
 ·rw[a1,an,a2];omega
 ·rw[b1,an,b2];omega
def mH(a b:List Part):List Part:=nT (mt (cm a) (cm b)).1
def mY(a b:List Part):List Part:=nT (mt (cm a) (cm b)).2
def lR(a b:List Part):Int:=if cF a≠0 then cF a else if cF b≠0 then cF b else if jy a≠jy b then 4 else if cF (mH a b)≠0 then cF (mH a b) else cF (mY a b)
def er(a b:List Part):List Part×List Part×Int:=if lR a b=0 then(mH a b,mY a b,0) else([],[],lR a b)
theorem Fg:∀(f:Nat)(xs a:List fP),(fI f xs a).1.length<=xs.length+a.length/\(fI f xs a).2.length<=xs.length+a.length:=by
 intro f
 induction f with
 |zero=>intro xs a;simp[fI]
 |succ f ih=>
  intro xs a
  rcases xs with _|⟨x,xs⟩
  ·rcases a with _|⟨y,a⟩
   ·simp[fI]
   ·cases y<;>simp only[fI,ar,aK]<;>(try omega)
    have:=ih [] a;simp at this;omega
  ·rcases a with _|⟨y,a⟩
   ·cases x<;>simp only[fI,ar,aK]<;>(try omega)
    have:=ih xs [];simp at this;omega
   ·have h1:=ih xs a;have h2:=ih xs (y::a);have h3:=ih (x::xs) a;cases x<;>cases y<;>simp only[fI,ar] at* <;>omega
def Ca(rv:List RV)(r1 r2:List (List V))(e:Int)(R:S->Prop):Prop:=
 (∀(s s':S)(e2:Int),a7 s s'->hX rv [.nilsl,.nilsl,.int .i64 e2] s'->r1=[]/\r2=[]/\e2=e->R s)/\
 (∀(s s':S)(k1 k2:Nat)(b1 b2:Option Nat)(t1 t2 n1 n2:Nat)(w1 w2:List (List V))(e2:Int),a7 s s'->hX rv [.own k1 b1 3 n1,.own k2 b2 3 n2,.int .i64 e2] s'->s'.h k1=some ⟨b1,t1,3,w1⟩->s'.h k2=some ⟨b2,t2,3,w2⟩->n1=r1.length/\n2=r2.length/\w1=r1/\w2=r2/\e2=e->R s)/\
 (∀(s s':S)(w1 w2:List (List V))(e2:Int),a7 s s'->hX rv [.sl false 3 w1,.sl false 3 w2,.int .i64 e2] s'->w1=r1/\w2=r2/\e2=e->R s)
theorem tl{rv:List RV}{a b:List Part}{e:Int}{R:S->Prop}(c:∀s s',a7 s s'->zk rv (.tup [fc a,fc b,.int .i64 e]) s'->R s):Ca rv (a.map a6) (b.map a6) e R:=by
 refine⟨?_,?_,?_⟩
 ·rintro s s' e2 he hr ⟨h1,h2,rfl⟩;refine c s s' he (eS _ _ _ (λx hx=>?_) hr);subst hx;unfold fc;rw[h1,h2];exact .ir (.nilsl 3) (.ir (.nilsl 3) (.ir (.same _ (.int _ _)) .pk))
 ·rintro s s' k1 k2 b1 b2 t1 t2 n1 n2 w1 w2 e2 he hr g1 g2 ⟨rfl,rfl,rfl,rfl,rfl⟩;refine c s s' he (eS _ _ _ (λx hx=>?_) hr);subst hx;exact .ir (.rows g1 rfl rfl rfl (ly _) (ff _)) (.ir (.rows g2 rfl rfl rfl (ly _) (ff _)) (.ir (.same _ (.int _ _)) .pk))
 ·rintro s s' w1 w2 e2 he hr ⟨rfl,rfl,rfl⟩;refine c s s' he (eS _ _ _ (λx hx=>?_) hr);subst hx;exact .ir (.same _ (.sl _ _ (ff _))) (.ir (.same _ (.sl _ _ (ff _))) (.ir (.same _ (.int _ _)) .pk))
def DE:AC:=qr [qo 4 (.mov (.c (.slice none 0 0))),qo 5 (.mov (.c (.slice none 0 0))),qz 6 0] (qr [qm 26 0,qa 27 87 [.t 26],qm 25 27,qx 28 0 25,qx 29 1 25,qx 30 2 25,qm 7 28,qm 8 29,qm 9 30] (qq (qr [qm 31 9,qc 32 .neq 31 0] (qu 32 (qr [qm 33 9,qo 4 (.mov (.c (.slice none 0 0))),qo 5 (.mov (.c (.slice none 0 0))),qm 6 33] .ret) .skip)) (qr [qm 35 1,qa 36 87 [.t 35],qm 34 36,qx 37 0 34,qx 38 1 34,qx 39 2 34,qm 10 37,qm 11 38,qm 9 39] (qq (qr [qm 40 9,qc 41 .neq 40 0] (qu 41 (qr [qm 42 9,qo 4 (.mov (.c (.slice none 0 0))),qo 5 (.mov (.c (.slice none 0 0))),qm 6 42] .ret) .skip)) (qq (qr [qm 43 7,qm 44 10,qb 45 .neq 43 44] (qu 45 (qr [qo 4 (.mov (.c (.slice none 0 0))),qo 5 (.mov (.c (.slice none 0 0))),qz 6 4] .ret) .skip)) (qr [qo 12 (.alloc 182 Vl),qo 13 (.alloc 182 Vl)] (qr [qm 46 0,qa 47 121 [.t 46],qm 48 1,qa 49 121 [.t 48],qm 14 47,qm 15 49] (qq (.block 0 (.loop (qq (qr [qm 50 14,qa 51 122 [.t 50],qc 52 .neq 51 0,qm 53 52,qg 54 53 false (.mov (.t 15)),qg 55 53 false (.call 122 [.t 54]),qg 56 53 false (.bin .neq (.t 55) (qk 0)),qo 57 (.pick (.t 53) (.c (.bool true)) (.t 56))] (qu 57 .skip (.exit 0))) (.block 1 (.block 2 (qr [qm 103 14,qa 104 122 [.t 103],qc 105 .eql 104 2,qm 102 105] (qu 102 (qr [qm 106 14,qm 107 14,qa 108 124 [.t 107],qa 109 123 [.t 106,.t 108],qm 16 109] (qr [qm 110 16,qa 111 125 [.t 12,.t 110]] (qR [qm 112 16,qo 113 (.len true (.t 112)),qa 114 126 [.t 13,.t 113]]))) (qr [qm 116 15,qa 117 122 [.t 116],qc 118 .eql 117 2,qm 115 118] (qu 115 (qr [qm 119 15,qm 120 15,qa 121 124 [.t 120],qa 122 123 [.t 119,.t 121],qm 17 122] (qr [qm 123 17,qa 124 125 [.t 13,.t 123]] (qR [qm 125 17,qo 126 (.len true (.t 125)),qa 127 126 [.t 12,.t 126]]))) (qr [qm 58 14,qa 59 124 [.t 58],qm 60 15,qa 61 124 [.t 60],qo 62 (.mm false (.t 59) (.t 61)),qm 18 62] (qr [qm 63 14,qa 64 122 [.t 63],qc 65 .eql 64 3,qm 66 15,qa 67 122 [.t 66],qc 68 .eql 67 3,qm 19 65,qm 20 68] (qr [qm 69 14,qm 70 18,qa 71 123 [.t 69,.t 70]] (qr [qm 72 15,qm 73 18,qa 74 123 [.t 72,.t 73]] (.block 3 (qr [qm 76 19,qo 77 (.not (.t 76)),qm 78 77,qg 79 78 true (.mov (.t 20)),qg 80 78 true (.not (.t 79)),qo 81 (.pick (.t 78) (.t 80) (.c (.bool false))),qm 75 81] (qu 75 (qr [qm 82 18,qa 83 126 [.t 12,.t 82]] (qR [qm 84 18,qa 85 126 [.t 13,.t 84]])) (qr [qm 87 19,qm 88 87,qg 89 88 true (.mov (.t 20)),qg 90 88 true (.not (.t 89)),qo 91 (.pick (.t 88) (.t 90) (.c (.bool false))),qm 86 91] (qu 86 (qR [qm 92 18,qa 93 127 [.t 12,.t 92]]) (qr [qm 95 20,qm 96 95,qg 97 96 true (.mov (.t 19)),qg 98 96 true (.not (.t 97)),qo 99 (.pick (.t 96) (.t 98) (.c (.bool false))),qm 94 99] (qu 94 (qR [qm 100 18,qa 101 127 [.t 13,.t 100]]) .skip)))))))))))))))))))) (qr [qa 128 128 [.t 12],qa 129 128 [.t 13],qm 21 128,qm 22 129] (qq (qr [qm 130 21,qa 131 106 [.t 130],qm 23 131] (qr [qm 132 23,qc 133 .neq 132 0] (qu 133 (qr [qm 134 23,qo 4 (.mov (.c (.slice none 0 0))),qo 5 (.mov (.c (.slice none 0 0))),qm 6 134] .ret) .skip))) (qq (qr [qm 135 22,qa 136 106 [.t 135],qm 24 136] (qr [qm 137 24,qc 138 .neq 137 0] (qu 138 (qr [qm 139 24,qo 4 (.mov (.c (.slice none 0 0))),qo 5 (.mov (.c (.slice none 0 0))),qm 6 139] .ret) .skip))) (qr [qm 140 21,qm 141 22,qm 4 140,qm 5 141,qz 6 0] .ret))))))))))))
theorem NS:fo Tryz.prog 88 Tryz.f88 DE [.t 4,.t 5,.t 6] 2 eV:=⟨Tryz.func88,by decide+kernel,by kernel_rfl,by kernel_rfl,by decide+kernel⟩
structure YM(t1 t2:List fP) where
 la:List Part
 ua:Int
 lb:List Part
 ub:Int
 ra:List (List V)
 rb:List (List V)
 m1:Mk
 n1:Nat
 Rp:BS
 Rq:Int
 DD:List (List V)
 b1:Option Nat
 m2:Mk
 n2:Nat
 ld:BS
 Rr:Int
 gB:List (List V)
 b2:Option Nat
 j:Nat
 sS:ra=la.map a6
 rB:rb=lb.map a6
 zw:n1=m1.out.length/\DD=m1.out.map a6/\Rp=m1.put/\Rq=m1.cut
 q7:n2=m2.out.length/\gB=m2.out.map a6/\ld=m2.put/\Rr=m2.cut
 kN:lA la ua
 jY:lA lb ub
 sm:Mk.new.run t1=m1.run (mt (eU la ua) (eU lb ub)).1
 ss:Mk.new.run t2=m2.run (mt (eU la ua) (eU lb ub)).2
 lG:fH (eU la ua)=fH (eU lb ub)
 hb1:m1.Bd j j
 hb2:m2.Bd j j
 hj:j+(eU la ua).length+(eU lb ub).length<=10000
theorem NT(P:Prim)(hP:P=ca)(T T1:cp)(a b:List Part)(U0 U1:List (List V))(TF:U0=a.map a6)(TG:U1=b.map a6)
  (C:∀k:Int,0<=k/\k<=1000000->EE T 126 [qI k] (λm=>∃j w,m.Bd j w/\j<=2000000) (λm=>m.fF k) rA)
  (Q:∀s:BS,s.length<=1000000000->EE T 125 [.str s] (λm=>m.put.length+s.length<=1000000000) (λm=>m.gm s) rA)
  (TH:∀k:Int,0<=k/\k<=1000000->EE T 127 [qI k] (λm=>∃j w,m.Bd j w/\j<=2000000) (λm=>m.gZ k) rA)
  (U:EE T 128 [] (λm=>m.out.length<=100000000) (λm=>⟨m.flush,[],0⟩) CM)
  (M:Iy T)(g:Iq T 122 (λ_ _=>True) (λl _=>zM l) true)(o:Iq T 124 (λl u=>l≠[]/\lA l u) (λl u=>rX l-u) true)(v:Ix T)
  (N:∀(d:List Part)(h:Hp)(K:V->Hp->Prop)(k:Nat)(b:Option Nat)(n:Nat)(rs:List (List V))(q:Int),d.length<=100000000->rs=d.map a6->n=rs.length->q=cF d->h k=some ⟨b,115,3,rs⟩->K (qI q) h->T 106 [.own k b 3 n] h K)
  (i1 o1 c1 i2 o2 c2:Int)(hs1:lO a=(i1,o1,c1))(hs2:lO b=(i2,o2,c2))
  (hc1:fZ T 87 [.sl false 3 U0] (.tup [qI i1,qI o1,qI c1]))(Ts:fZ T 87 [.sl false 3 U1] (.tup [qI i2,qI o2,qI c2]))
  (r1 r2:List Part)(e:Int)(hr:er a b=(r1,r2,e))(U2 U3:List (List V))(W:U2=r1.map a6)(X:U3=r2.map a6)
  (R:S->Prop)(hR:Ca [.t 4,.t 5,.t 6] U2 U3 e R):fX P T T1 DE (S0 [.sl false 3 U0,.sl false 3 U1] Hp.emp) R (λ_ _=>False) R:=by
 have bad:∀x:Int,lR a b=x->x≠0->U2=[]/\U3=[]/\x=e:=by
  intro x hx h0;unfold er at hr;rw[hx,aa h0] at hr;simp only[aX] at hr;refine⟨by rw[W,<-hr.1];rfl,by rw[X,<-hr.2.1];rfl,hr.2.2⟩
 have wI:lR a b=0->U2=(mH a b).map a6/\U3=(mY a b).map a6/\0=e:=by
  intro hx;unfold er at hr;rw[hx,ae rfl] at hr;simp only[aX] at hr;exact⟨by rw[W,<-hr.1],by rw[X,<-hr.2.1],hr.2.2⟩
 clear hr W X;have q1:c1=cF a/\(cF a=0->i1=jy a):=by
  unfold lO at hs1
  by_cases h:cF a=0
  ·rw[ae h] at hs1;simp only[aX] at hs1;exact⟨qW,λ_=>hs1.1.symm⟩
  ·rw[aa h] at hs1;simp only[aX] at hs1;exact⟨hs1.2.2.symm,λhh=>absurd hh h⟩
 have q2:c2=cF b/\(cF b=0->i2=jy b):=by
  unfold lO at hs2
  by_cases h:cF b=0
  ·rw[ae h] at hs2;simp only[aX] at hs2;exact⟨qW,λ_=>hs2.1.symm⟩
  ·rw[aa h] at hs2;simp only[aX] at hs2;exact⟨hs2.2.2.symm,λhh=>absurd hh h⟩
 clear hs1 hs2;unfold lR at bad wI;rw[<-q1.1,<-q2.1] at bad wI;cbv;refine hc1 _ _ ?_;clear hc1;cbv;refine ab (λh=>?_) (λh=>?_)
 ·have i:c1≠0:=fE hP h;rw[ae i] at bad;cbv;exact hR.1 _ _ _ (a7.refl _) rfl (bad _ rfl i)
 have hz1:c1=0:=fD hP h;rw[aa (λh=>h hz1)] at bad wI;cbv;refine Ts _ _ ?_;clear Ts;cbv;refine ab (λh=>?_) (λh=>?_)
 ·have i:c2≠0:=fE hP h;rw[ae i] at bad;cbv;exact hR.1 _ _ _ (a7.refl _) rfl (bad _ rfl i)
 have hz2:c2=0:=fD hP h;rw[aa (λh=>h hz2)] at bad wI;have za:cF a=0:=q1.1.symm.trans hz1;have zb:cF b=0:=q2.1.symm.trans hz2;rw[<-q1.2 za,<-q2.2 zb] at bad wI;cbv;refine ab (λh=>?_) (λh=>?_)
 ·have i:i1≠i2:=fE hP h;rw[ae i] at bad;cbv;exact hR.1 _ _ _ (a7.refl _) rfl (bad _ rfl qD)
 have Tt:i1=i2:=fD hP h;rw[aa (λh=>h Tt)] at bad wI;rw[q1.2 za,q2.2 zb] at Tt;obtain⟨Sp,Y,X9,Ya,_,_⟩:=dv za;obtain⟨Rd,Z,hb1,hb2,_,_⟩:=dv zb;have Yb:=ja a Y;have VD:=hZ a Y;have Yc:=hZ b Z;have VE:=ja b Z;have hlen:∀ts:List fP,ts.length<=fH ts+fi ts:=by
  intro ts
  induction ts with
  |nil=>simp
  |cons t ts ih=>cases t<;>simp[fH,dE,fi] at* <;>omega
 have OM:=hlen (cm a);have Re:=hlen (cm b);have Tu:∀(l:List Part),(∀p∈l,oq p)->lA l 0:=by
  intro l hl;refine⟨hl,?_⟩;cases l with
  |nil=>rfl
  |cons p l=>exact⟨bf _,size_pos (hl p (by simp))⟩
 have E:∀l:List Part,eU l 0=cm l:=λl=>by simp[eU]
 clear h;cbv;intro TI;cbv;intro TJ;cbv;refine M 2000 a _ _ _ TF rfl rfl λbx=>?_;cbv;refine M 2001 b _ _ _ TG rfl rfl λbz=>?_;clear M;cbv;refine⟨YM (mt (cm a) (cm b)).1 (mt (cm a) (cm b)).2,λy=>[(12,.ptr 12 (some TI) 3 0 0),(13,.ptr 13 (some TJ) 3 0 0),(14,.ptr 2000 (some bx) 2 0 0),(15,.ptr 2001 (some bz) 2 0 0)],
  λy=>[(12,⟨some TI,182,3,[[.own 1000998 y.b1 3 y.n1,.str y.Rp,qI y.Rq]]⟩),(1000998,⟨y.b1,115,3,y.DD⟩),(13,⟨some TJ,182,3,[[.own 1000999 y.b2 3 y.n2,.str y.ld,qI y.Rr]]⟩),(1000999,⟨y.b2,115,3,y.gB⟩),(2000,⟨some bx,210,2,[[.sl false 3 y.ra,qI y.ua]]⟩),(2001,⟨some bz,210,2,[[.sl false 3 y.rb,qI y.ub]]⟩)],
  λy=>(eU y.la y.ua).length+(eU y.lb y.ub).length,
  ⟨_,a7.trans (a7.mT (k:=12) (k':=1000998) (ty:=115) (sz:=3) (r:=0) (c:=0) rfl rfl rfl rfl) (a7.mT (k:=13) (k':=1000999) (ty:=115) (sz:=3) (r:=0) (c:=0) rfl rfl rfl rfl),⟨a,0,b,0,U0,U1,Mk.new,_,_,_,_,_,Mk.new,_,_,_,_,_,0,TF,TG,⟨rfl,rfl,rfl,rfl⟩,⟨rfl,rfl,rfl,rfl⟩,Tu a Y,Tu b Z,by rw[E,E],by rw[E,E],by rw[E,E];((try simp only[nc] at*);omega),Mk.vq,Mk.vq,by rw[E,E];((try simp only[nc] at*);omega)⟩,⟨rfl,rfl,rfl,rfl,trivial⟩,⟨rfl,rfl,rfl,rfl,rfl,rfl,trivial⟩⟩,?_⟩
 rintro⟨la,ua,lb,ub,ra,rb,m1,n1,Rp,Rq,Zh,Zi,m2,n2,ld,Rr,VK,Zj,j,sS,rB,zw,q7,kN,jY,sm,ss,lG,hb1,hb2,hj⟩;have Yi:=hb1.put;have Yj:=hb1.len;have Yk:=hb2.put;have Yl:=hb2.len;cbv;refine g _ _ _ _ _ _ _ sS trivial rfl λkx Tv=>?_;cbv
 rcases la with _|⟨p,la⟩
 ·have NO:kx=0:=Tv;refine fv (EG hP NO) ?_;cbv;refine g _ _ _ _ _ _ _ rB trivial rfl λky Tw=>?_;cbv
  rcases lb with _|⟨q,lb⟩
  ·
   have VF:ky=0:=Tw;have hc:mH a b=m1.flush:=by show(Mk.new.run _).flush=_;rw[sm];simp[eU,cm,mt,fI,Mk.run]
   have hd:mY a b=m2.flush:=by show(Mk.new.run _).flush=_;rw[ss];simp[eU,cm,mt,fI,Mk.run]
   have XF:=hb1.flush.1;have Pf:=hb2.flush.1;refine fv (EG hP VF) ?_;cbv;refine U _ _ _ _ _ _ _ _ m1 _ _ zw qW rfl rfl rfl λZk Zl TK Zm w1 f=>?_;obtain⟨SS,f,_,_⟩:=f;simp only[] at SS f;cbv;refine U _ _ _ _ _ _ _ _ m2 _ _ q7 qW rfl rfl rfl λZn Zo Zp Zq w2 hw2=>?_;obtain⟨ON,hw2,_,_⟩:=hw2;simp only[] at ON hw2;obtain⟨x1,WK⟩:∃x,x=cF m1.flush:=⟨_,rfl⟩;obtain⟨x2,Sq⟩:∃x,x=cF m2.flush:=⟨_,rfl⟩;rw[hc,hd,<-WK,<-Sq] at bad wI;cbv;refine N m1.flush _ _ _ _ _ _ x1 qW f (by rw[SS,f];simp) WK rfl ?_;cbv;refine ab (λh=>?_) (λh=>?_)
   ·have i:x1≠0:=fE hP h;rw[ae i] at bad;cbv;exact hR.1 _ _ _ (a7.refl _) rfl (bad _ rfl i)
   have VL:x1=0:=fD hP h;rw[aa (λh=>h VL)] at bad wI;cbv;refine N m2.flush _ _ _ _ _ _ x2 qW hw2 (by rw[ON,hw2];simp) Sq rfl ?_;cbv;refine ab (λh=>?_) (λh=>?_)
   ·have i:x2≠0:=fE hP h;cbv;exact hR.1 _ _ _ (a7.refl _) rfl (bad _ rfl i)
   have VL:x2=0:=fD hP h;obtain⟨g1,g2,g3⟩:=wI VL;cbv;exact hR.2.1 _ _ _ _ _ _ _ _ _ _ _ _ _ (a7.refl _) rfl rfl rfl ⟨by rw[g1,SS];simp,by rw[g2,ON];simp,by rw[g1,f],by rw[g2,hw2],g3⟩
  ·have VH:ky=q.kind:=Tw;have Ty:=gu (jY.1 q (by simp));have hu:=jY.2;simp only at hu;have hk:0<=dn q-ub/\ub+(dn q-ub)<=dn q:=by omega
   have O:q.kind=2:=by
    by_cases h2:q.kind=2
    ·exact h2
    ·exfalso
     rw[ie jY hk,kq,jX q ub _ (jY.1 q (by simp)),aa h2] at lG;simp[eU,cm,fH,dE] at lG;omega
   refine eY (EF hP qW) ?_;cbv;refine g _ _ _ _ _ _ _ sS trivial rfl λRf Rs=>?_;have Sq:Rf=0:=Rs;cbv;refine fv (oR hP qW) ?_;cbv;obtain⟨s1,s2,s3,D⟩:=Ap jY O (la:=[]) (ua:=ua) (by intro c r hr;simp[eU,cm] at hr) lG;have hsz:=size_le (jY.1 q (by simp));refine g _ _ _ _ _ _ _ rB trivial rfl λNP F=>?_;have UW:NP=q.kind:=F;cbv;refine eY (my hP qW) ?_;cbv;refine o _ _ _ _ _ _ _ rB ⟨by simp,jY⟩ rfl λql G6=>?_;have G:ql=dn q-ub:=G6;cbv;refine v _ _ q lb ub ql _ _ _ rB jY qW rfl λqs rows' u' e1 e2 e3=>?_;rw[G] at e1 e2 e3;have H:P.eP qs=((dn q-ub).toNat:Int):=by rw[eF hP,e1,D]
   cbv;have pc:=Q qs (by rw[e1,D];omega);refine pc _ _ _ _ _ _ _ _ m2 _ _ q7 (by rw[e1,D];omega) rfl rfl rfl λRt n' I J w1 f=>?_;cbv;have kc:=C (P.eP qs) (by rw[H];((try simp only[nc] at*);omega));refine kc _ _ _ _ _ _ _ _ m1 _ _ zw ⟨_,_,hb1,qW⟩ rfl rfl rfl λVM VN VO VP w2 hw2=>?_;rw[H] at hw2;cbv;refine⟨_,a7.refl _,⟨[],ua,(eR (q::lb) ub (dn q-ub)).1,_,_,_,m1.fF ((dn q-ub).toNat:Int),_,_,_,_,_,m2.gm qs,_,_,_,_,_,j+(dn q-ub).toNat,sS,e2,hw2,f,kN,by rw[e3];exact gy jY hk,?_,?_,?_,?_,?_,?_⟩,⟨rfl,rfl,rfl,rfl,trivial⟩,⟨rfl,rfl,rfl,rfl,rfl,rfl,trivial⟩,?_⟩
   ·rw[sm,s1,e3,Mk.jC,Mk.oN,D]
   ·rw[ss,s1,e1,e3,Mk.jC,Mk.rn]
   ·rw[e3];exact s2
   ·exact(hb1.fF _ qW).mono qW qW
   ·exact(hb2.gm qs).mono qW (by rw[e1,D];omega)
   ·rw[e3];((try simp only[nc] at*);omega)
   ·show(eU [] ua).length+(eU (eR (q::lb) ub (dn q-ub)).1 u').length<(eU [] ua).length+(eU (q::lb) ub).length;rw[e3];((try simp only[nc] at*);omega)
 ·have UX:kx=p.kind:=Tv;have PN:=gu (kN.1 p (by simp));have UY:=kN.2;simp only at UY;refine eY (EF hP qW) ?_;cbv;refine g _ _ _ _ _ _ _ sS trivial rfl λRf Rs=>?_;have Sq:Rf=p.kind:=Rs;cbv
  by_cases p2:p.kind=2
  ·
   obtain⟨s1,s2,s3,D⟩:=JZ kN p2 lG;have hk:0<=dn p-ua/\ua+(dn p-ua)<=dn p:=by omega
   have hsz:=size_le (kN.1 p (by simp));refine eY (my hP qW) ?_;cbv;refine o _ _ _ _ _ _ _ sS ⟨by simp,kN⟩ rfl λql G6=>?_;have G:ql=dn p-ua:=G6;cbv;refine v _ _ p la ua ql _ _ _ sS kN qW rfl λqs rows' u' e1 e2 e3=>?_;rw[G] at e1 e2 e3;have H:P.eP qs=((dn p-ua).toNat:Int):=by rw[eF hP,e1,D]
   cbv;have pc:=Q qs (by rw[e1,D];omega);refine pc _ _ _ _ _ _ _ _ m1 _ _ zw (by rw[e1,D];omega) rfl rfl rfl λRt n' I J w1 f=>?_;cbv;have kc:=C (P.eP qs) (by rw[H];((try simp only[nc] at*);omega));refine kc _ _ _ _ _ _ _ _ m2 _ _ q7 ⟨_,_,hb2,qW⟩ rfl rfl rfl λVM VN VO VP w2 hw2=>?_;rw[H] at hw2;cbv;refine⟨_,a7.refl _,⟨(eR (p::la) ua (dn p-ua)).1,_,lb,ub,_,_,m1.gm qs,_,_,_,_,_,m2.fF ((dn p-ua).toNat:Int),_,_,_,_,_,j+(dn p-ua).toNat,e2,rB,f,hw2,by rw[e3];exact gy kN hk,jY,?_,?_,?_,?_,?_,?_⟩,⟨rfl,rfl,rfl,rfl,trivial⟩,⟨rfl,rfl,rfl,rfl,rfl,rfl,trivial⟩,?_⟩
   ·rw[sm,s1,e1,e3,Mk.jC,Mk.rn]
   ·rw[ss,s1,e3,Mk.jC,Mk.oN,D]
   ·rw[e3];exact s2
   ·exact(hb1.gm qs).mono qW (by rw[e1,D];omega)
   ·exact(hb2.fF _ qW).mono qW qW
   ·rw[e3];((try simp only[nc] at*);omega)
   ·show(eU (eR (p::la) ua (dn p-ua)).1 u').length+(eU lb ub).length<(eU (p::la) ua).length+(eU lb ub).length;rw[e3];((try simp only[nc] at*);omega)
  ·refine fv (oR hP qW) ?_;cbv
   rcases lb with _|⟨q,lb⟩
   ·exfalso
    have hk:0<=dn p-ua/\ua+(dn p-ua)<=dn p:=by omega
    rw[ie kN hk,kq,jX p ua _ (kN.1 p (by simp)),aa p2] at lG;simp[eU,cm,fH,dE] at lG;omega
   have Ty:=gu (jY.1 q (by simp));have UZ:=jY.2;simp only at UZ
   by_cases q2:q.kind=2
   ·have hu:=UZ;have O:=q2;have hk:0<=dn q-ub/\ub+(dn q-ub)<=dn q:=by omega
    obtain⟨s1,s2,s3,D⟩:=Ap jY O (la:=(p::la)) (ua:=ua) (NR kN p2) lG;have hsz:=size_le (jY.1 q (by simp));refine g _ _ _ _ _ _ _ rB trivial rfl λNP F=>?_;have UW:NP=q.kind:=F;cbv;refine eY (my hP qW) ?_;cbv;refine o _ _ _ _ _ _ _ rB ⟨by simp,jY⟩ rfl λql G6=>?_;have G:ql=dn q-ub:=G6;cbv;refine v _ _ q lb ub ql _ _ _ rB jY qW rfl λqs rows' u' e1 e2 e3=>?_;rw[G] at e1 e2 e3;have H:P.eP qs=((dn q-ub).toNat:Int):=by rw[eF hP,e1,D]
    cbv;have pc:=Q qs (by rw[e1,D];omega);refine pc _ _ _ _ _ _ _ _ m2 _ _ q7 (by rw[e1,D];omega) rfl rfl rfl λRt n' I J w1 f=>?_;cbv;have kc:=C (P.eP qs) (by rw[H];((try simp only[nc] at*);omega));refine kc _ _ _ _ _ _ _ _ m1 _ _ zw ⟨_,_,hb1,qW⟩ rfl rfl rfl λVM VN VO VP w2 hw2=>?_;rw[H] at hw2;cbv;refine⟨_,a7.refl _,⟨(p::la),ua,(eR (q::lb) ub (dn q-ub)).1,_,_,_,m1.fF ((dn q-ub).toNat:Int),_,_,_,_,_,m2.gm qs,_,_,_,_,_,j+(dn q-ub).toNat,sS,e2,hw2,f,kN,by rw[e3];exact gy jY hk,?_,?_,?_,?_,?_,?_⟩,⟨rfl,rfl,rfl,rfl,trivial⟩,⟨rfl,rfl,rfl,rfl,rfl,rfl,trivial⟩,?_⟩
    ·rw[sm,s1,e3,Mk.jC,Mk.oN,D]
    ·rw[ss,s1,e1,e3,Mk.jC,Mk.rn]
    ·rw[e3];exact s2
    ·exact(hb1.fF _ qW).mono qW qW
    ·exact(hb2.gm qs).mono qW (by rw[e1,D];omega)
    ·rw[e3];((try simp only[nc] at*);omega)
    ·show(eU (p::la) ua).length+(eU (eR (q::lb) ub (dn q-ub)).1 u').length<(eU (p::la) ua).length+(eU (q::lb) ub).length;rw[e3];((try simp only[nc] at*);omega)
   ·refine g _ _ _ _ _ _ _ rB trivial rfl λNP F=>?_;have UW:NP=q.kind:=F;cbv;refine fv (oR hP qW) ?_;cbv;refine o _ _ _ _ _ _ _ sS ⟨by simp,kN⟩ rfl λq1 P9=>?_;have P9:q1=dn p-ua:=P9;cbv;refine o _ _ _ _ _ _ _ rB ⟨by simp,jY⟩ rfl λL O=>?_;have O:L=dn q-ub:=O;cbv;refine g _ _ _ _ _ _ _ sS trivial rfl λVI Rg=>?_;have Yd:VI=p.kind:=Rg;cbv;refine g _ _ _ _ _ _ _ rB trivial rfl λVJ Rh=>?_;have Ye:VJ=q.kind:=Rh;cbv;obtain⟨k,hk⟩:∃k,P.mn q1 L=k:=⟨_,rfl⟩;have Yf:k=min q1 L:=by rw[<-hk,CQ hP]
    have B:0<k/\ua+k<=dn p/\ub+k<=dn q:=by omega
    obtain⟨s1,U4,s2,s3,D⟩:=B9 (m1:=m1) (m2:=m2) (k:=k) kN jY p2 q2 qW B.2.1 B.2.2 lG;have hsz:=size_le (kN.1 p (by simp));refine v _ _ p la ua (P.mn q1 L) _ _ _ sS kN (by rw[hk];omega) rfl λZr DD u1 e1 e2 e3=>?_;rw[hk] at e1 e2 e3;cbv;refine v _ _ q lb ub (P.mn q1 L) _ _ _ rB jY (by rw[hk];omega) rfl λYg gB u2 f1 f2 f3=>?_;rw[hk] at f1 f2 f3;cbv
    by_cases p3:p.kind=3
    ·by_cases q3:q.kind=3
     ·have z:gF m1 p q k=m1:=by simp[gF,p3,q3]
      have A:gG m2 p q k=m2:=by simp[gG,p3,q3]
      repeat first|(refine eY (my hP qW) ?_;cbv)|(refine fv (oR hP qW) ?_;cbv)
      refine⟨_,a7.refl _,⟨(eR (p::la) ua k).1,_,(eR (q::lb) ub k).1,_,_,_,m1,_,_,_,_,_,m2,_,_,_,_,_,j+k.toNat,e2,f2,zw,q7,by rw[e3];exact gy kN ⟨qW,B.2.1⟩,by rw[f3];exact gy jY ⟨qW,B.2.2⟩,by rw[sm,s1,e3,f3,z],by rw[ss,U4,e3,f3,A],by rw[e3,f3];exact s2,hb1.mono qW qW,hb2.mono qW qW,by rw[e3,f3];((try simp only[nc] at*);omega)⟩,⟨rfl,rfl,rfl,rfl,trivial⟩,⟨rfl,rfl,rfl,rfl,rfl,rfl,trivial⟩,?_⟩;show(eU (eR (p::la) ua k).1 u1).length+(eU (eR (q::lb) ub k).1 u2).length<(eU (p::la) ua).length+(eU (q::lb) ub).length;rw[e3,f3];((try simp only[nc] at*);omega)
     ·have U5:q.kind=1:=by omega
      have z:gF m1 p q k=m1.gZ k:=by simp[gF,p3,U5]
      have A:gG m2 p q k=m2:=by simp[gG,p3]
      repeat first|(refine eY (my hP qW) ?_;cbv)|(refine fv (oR hP qW) ?_;cbv)
      have cc:=TH (P.mn q1 L) (by rw[hk];omega);refine cc _ _ _ _ _ _ _ _ m1 _ _ zw ⟨_,_,hb1,qW⟩ rfl rfl rfl λRt n' I J w1 f=>?_;rw[hk] at f;cbv;refine⟨_,a7.refl _,⟨(eR (p::la) ua k).1,_,(eR (q::lb) ub k).1,_,_,_,m1.gZ k,_,_,_,_,_,m2,_,_,_,_,_,j+k.toNat,e2,f2,f,q7,by rw[e3];exact gy kN ⟨qW,B.2.1⟩,by rw[f3];exact gy jY ⟨qW,B.2.2⟩,by rw[sm,s1,e3,f3,z],by rw[ss,U4,e3,f3,A],by rw[e3,f3];exact s2,(hb1.gZ _ qW).mono qW qW,hb2.mono qW qW,by rw[e3,f3];((try simp only[nc] at*);omega)⟩,⟨rfl,rfl,rfl,rfl,trivial⟩,⟨rfl,rfl,rfl,rfl,rfl,rfl,trivial⟩,?_⟩;show(eU (eR (p::la) ua k).1 u1).length+(eU (eR (q::lb) ub k).1 u2).length<(eU (p::la) ua).length+(eU (q::lb) ub).length;rw[e3,f3];((try simp only[nc] at*);omega)
    ·have TK:p.kind=1:=by omega
     by_cases q3:q.kind=3
     ·have z:gF m1 p q k=m1:=by simp[gF,TK,q3]
      have A:gG m2 p q k=m2.gZ k:=by simp[gG,TK,q3]
      repeat first|(refine eY (my hP qW) ?_;cbv)|(refine fv (oR hP qW) ?_;cbv)
      have cc:=TH (P.mn q1 L) (by rw[hk];omega);refine cc _ _ _ _ _ _ _ _ m2 _ _ q7 ⟨_,_,hb2,qW⟩ rfl rfl rfl λRt n' I J w1 f=>?_;rw[hk] at f;cbv;refine⟨_,a7.refl _,⟨(eR (p::la) ua k).1,_,(eR (q::lb) ub k).1,_,_,_,m1,_,_,_,_,_,m2.gZ k,_,_,_,_,_,j+k.toNat,e2,f2,zw,f,by rw[e3];exact gy kN ⟨qW,B.2.1⟩,by rw[f3];exact gy jY ⟨qW,B.2.2⟩,by rw[sm,s1,e3,f3,z],by rw[ss,U4,e3,f3,A],by rw[e3,f3];exact s2,hb1.mono qW qW,(hb2.gZ _ qW).mono qW qW,by rw[e3,f3];((try simp only[nc] at*);omega)⟩,⟨rfl,rfl,rfl,rfl,trivial⟩,⟨rfl,rfl,rfl,rfl,rfl,rfl,trivial⟩,?_⟩;show(eU (eR (p::la) ua k).1 u1).length+(eU (eR (q::lb) ub k).1 u2).length<(eU (p::la) ua).length+(eU (q::lb) ub).length;rw[e3,f3];((try simp only[nc] at*);omega)
     ·have U5:q.kind=1:=by omega
      have z:gF m1 p q k=m1.fF k:=by simp[gF,TK,U5]
      have A:gG m2 p q k=m2.fF k:=by simp[gG,TK,U5]
      repeat first|(refine eY (my hP qW) ?_;cbv)|(refine fv (oR hP qW) ?_;cbv)
      have cc:=C (P.mn q1 L) (by rw[hk];omega);refine cc _ _ _ _ _ _ _ _ m1 _ _ zw ⟨_,_,hb1,qW⟩ rfl rfl rfl λRt n' I J w1 f=>?_;rw[hk] at f;cbv;refine cc _ _ _ _ _ _ _ _ m2 _ _ q7 ⟨_,_,hb2,qW⟩ rfl rfl rfl λVM VN VO VP w2 hw2=>?_;rw[hk] at hw2;cbv;refine⟨_,a7.refl _,⟨(eR (p::la) ua k).1,_,(eR (q::lb) ub k).1,_,_,_,m1.fF k,_,_,_,_,_,m2.fF k,_,_,_,_,_,j+k.toNat,e2,f2,f,hw2,by rw[e3];exact gy kN ⟨qW,B.2.1⟩,by rw[f3];exact gy jY ⟨qW,B.2.2⟩,by rw[sm,s1,e3,f3,z],by rw[ss,U4,e3,f3,A],by rw[e3,f3];exact s2,(hb1.fF _ qW).mono qW qW,(hb2.fF _ qW).mono qW qW,by rw[e3,f3];((try simp only[nc] at*);omega)⟩,⟨rfl,rfl,rfl,rfl,trivial⟩,⟨rfl,rfl,rfl,rfl,rfl,rfl,trivial⟩,?_⟩;show(eU (eR (p::la) ua k).1 u1).length+(eU (eR (q::lb) ub k).1 u2).length<(eU (p::la) ua).length+(eU (q::lb) ub).length;rw[e3,f3];((try simp only[nc] at*);omega)
def J0:AC:=qr [qz 2 0] (qq (qr [qm 3 0] (qu 3 (qr [qz 2 1] .ret) .skip)) (qr [qz 2 0] .ret))
theorem Ru:fo Tryz.prog 131 Tryz.f131 J0 [.t 2] 1 eV:=⟨Tryz.func131,by decide+kernel,by kernel_rfl,by kernel_rfl,by decide+kernel⟩
def Fh(b:Bool):Int:=if b then 1 else 0
theorem Rv(P:Prim)(T a:cp)(b:Bool)(r:Int)(hr:Fh b=r)(R:S->Prop)(c:∀s s' q,q=r->a7 s s'->hX [.t 2] [qI q] s'->R s):fX P T a J0 (S0 [.bool b] Hp.emp) R (λ_ _=>False) R:=by
 cases b<;>(cbv;exact c _ _ _ (by rw[<-hr];rfl) (a7.refl _) rfl)
theorem J1(b:Bool):Spec Tryz.prog 131 [.bool b] Hp.emp (Is (.int .i64 (Fh b))):=
 eW gY Ru [.int .i64 (Fh b)] (.int _ _) λR a=>Rv ca _ _ b _ rfl R λs s' q h he hr=>by subst h;exact a s s' he hr
end Go.Proofs.YtobngncjflogcaaGreat.AM
