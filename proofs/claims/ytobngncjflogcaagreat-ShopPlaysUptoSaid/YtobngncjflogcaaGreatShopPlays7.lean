/-
  Part 7 of what the law ShopPlays reaches: the plain machine, contracts of the functions and plain laws; each lemma says its own condition.
-/
import Derived.Test.YtobngncjflogcaaGreatShopPlays5
import Derived.Test.YtobngncjflogcaaGreatShopPlays6
set_option linter.unusedVariables false
set_option linter.unusedSimpArgs false
namespace Go.Proofs.YtobngncjflogcaaGreat.AM
open Go
def TD:List BS->List Bool->Nat->Int
 |p::ps,k::ks,n+1=>p.length+(if k then 1 else 0)+TD ps ks n
 |_,_,_=>0
def hW:Nat->List iY->List iY->List iY×List iY
 |0,_,_=>([],[])
 |f+1,.put b::xs,a=>(.put b::(hW f xs a).1,.keep::(hW f xs a).2)
 |f+1,xs,.put b::a=>(.keep::(hW f xs a).1,.put b::(hW f xs a).2)
 |f+1,.keep::xs,.keep::a=>(.keep::(hW f xs a).1,.keep::(hW f xs a).2)
 |f+1,.cut::xs,.keep::a=>(.cut::(hW f xs a).1,(hW f xs a).2)
 |f+1,.keep::xs,.cut::a=>((hW f xs a).1,.cut::(hW f xs a).2)
 |f+1,.cut::xs,.cut::a=>hW f xs a
 |_+1,_,_=>([],[])
def tM(k m:Bool):List iY×List iY:=(if m then[if k then .keep else .cut] else[],if k then[if m then .keep else .cut] else[])
def iP:List BS->List Bool->List BS->List Bool->List iY×List iY
 |p::ps,k::ks,q::qs,m::ms=>(p.map .put++List.replicate q.length .keep++(tM k m).1++(iP ps ks qs ms).1,List.replicate p.length .keep++q.map .put++(tM k m).2++(iP ps ks qs ms).2)
 |p::_,_,q::_,_=>(p.map .put++List.replicate q.length .keep,List.replicate p.length .keep++q.map .put)
 |_,_,_,_=>([],[])
theorem B8(b:UInt8)(l:List BS)(ks:List Bool)(r:List BS)(ms:List Bool)(hl:l≠[])(hr:r≠[]):iP (iJ b l) ks r ms=(.put b::(iP l ks r ms).1,.keep::(iP l ks r ms).2):=by
 cases l with
 |nil=>exact absurd rfl hl
 |cons p l=>
  cases r with
  |nil=>exact absurd rfl hr
  |cons q r=>cases ks<;>cases ms<;>simp[iJ,iP,aX]
theorem pD(b:UInt8)(l:List BS)(ks:List Bool)(r:List BS)(ms:List Bool)(hr:r≠[]):iP ([]::l) ks (iJ b r) ms=(.keep::(iP ([]::l) ks r ms).1,.put b::(iP ([]::l) ks r ms).2):=by
 cases r with
 |nil=>exact absurd rfl hr
 |cons q r=>cases ks<;>cases ms<;>simp[iJ,iP,aX]
theorem mM:∀(f:Nat)(xs a:List iY),xs.length+a.length<=f->lH xs=lH a->iP (fK xs) (fy xs) (fK a) (fy a)=hW f xs a
 |0,xs,a,hf,hi=>by
  have h1:xs=[]:=ay qW;have h2:a=[]:=ay qW;subst h1 h2;rfl
 |f+1,.put b::xs,a,hf,hi=>by
  simp only[au] at hf;simp only[fK,fy,hW];rw[B8 _ _ _ _ _ (mL xs) (mL a),mM f xs a qW hi]
 |f+1,[],.put b::a,hf,hi=>by
  simp only[au] at hf;rw[hW]
  ·have:=mM f [] a (by simp at hf⊢;omega) hi;simp only[fK,fy] at this⊢;rw[pD _ _ _ _ _ (mL a),this]
  ·intro _ _ h;cases h
 |f+1,.keep::xs,.put b::a,hf,hi=>by
  simp only[au] at hf;rw[hW]
  ·have:=mM f (.keep::xs) a (by simp;omega) hi;simp only[fK,fy] at this⊢;rw[pD _ _ _ _ _ (mL a),this]
  ·intro _ _ h;cases h
 |f+1,.cut::xs,.put b::a,hf,hi=>by
  simp only[au] at hf;rw[hW]
  ·have:=mM f (.cut::xs) a (by simp;omega) hi;simp only[fK,fy] at this⊢;rw[pD _ _ _ _ _ (mL a),this]
  ·intro _ _ h;cases h
 |f+1,.keep::xs,.keep::a,hf,hi=>by
  simp only[au] at hf;have:=mM f xs a qW (by simpa[lH,fy] using hi);simp[fK,fy,hW,iP,tM,this]
 |f+1,.cut::xs,.keep::a,hf,hi=>by
  simp only[au] at hf;have:=mM f xs a qW (by simpa[lH,fy] using hi);simp[fK,fy,hW,iP,tM,this]
 |f+1,.keep::xs,.cut::a,hf,hi=>by
  simp only[au] at hf;have:=mM f xs a qW (by simpa[lH,fy] using hi);simp[fK,fy,hW,iP,tM,this]
 |f+1,.cut::xs,.cut::a,hf,hi=>by
  simp only[au] at hf;have:=mM f xs a qW (by simpa[lH,fy] using hi);simp[fK,fy,hW,iP,tM,this]
 |f+1,[],[],hf,hi=>by simp[fK,fy,hW,iP]
 |f+1,[],.keep::a,hf,hi=>by simp[lH,fy] at hi
 |f+1,[],.cut::a,hf,hi=>by simp[lH,fy] at hi
 |f+1,.keep::xs,[],hf,hi=>by simp[lH,fy] at hi
 |f+1,.cut::xs,[],hf,hi=>by simp[lH,fy] at hi
set_option maxRecDepth 100000
set_option maxHeartbeats 2000000
def Iw:AC:=qr [qo 2 (.box 139 2 (.t 0)),qo 4 (.mov (.c qe))] (qr [qo 5 (.mov (.c qe))] (qq (qr [qf 8 1 2,ql 9 8,qo 10 (.len false (.t 9)),qz 11 0] (.block 0 (.loop (qr [qb 12 .lss 11 10] (qq (qu 12 .skip (.exit 0)) (qq (.block 1 (qr [qm 13 11,qo 14 (.iaddr 1 (.t 9) (.t 11)),ql 15 14,qm 6 13,qm 7 15] (qr [qm 16 5,qf 17 0 2,ql 18 17,qm 19 6,qo 20 (.iaddr 1 (.t 18) (.t 19)),ql 21 20,qb 22 .add 16 21,qm 5 22] (qr [qm 23 7] (qu 23 (qR [qm 24 5,qm 25 1,qm 26 6,qm 27 6,qc 28 .add 27 1,qo 29 (.slstr (.t 25) (some (.t 26)) (some (.t 28))),qb 30 .add 24 29,qm 5 30]) .skip))))) (qR [qc 31 .add 11 1,qm 11 31]))))))) (qr [qm 32 5,qf 33 0 2,ql 34 33,qf 35 1 2,ql 36 35,qo 37 (.len false (.t 36)),qo 38 (.iaddr 1 (.t 34) (.t 37)),ql 39 38,qb 40 .add 32 39,qm 4 40] .ret)))
theorem Q1:fF Tryz.prog 84 Tryz.f84 Iw [.t 4] 2 er:=⟨Tryz.func84,by decide+kernel,by kernel_rfl,by kernel_rfl,by decide+kernel⟩
structure Y0(ps:List BS)(ks:List Bool)(s:BS) where
 i:Nat
 k:Int
 out:BS
 p1:List BS
 r1:List BS
 p2:List Bool
 r2:List Bool
 h1:ps=p1++r1
 h2:ks=p2++r2
 hl:p1.length=i/\p2.length=i
 hk:k=(i:Int)
 ho:out.length<=p1.flatten.length+i
 hd:Fl ps ks s=out++Fl r1 r2 (s.drop i)
theorem Q2(P:Prim)(hP:P=dn)(T w:c8)(ps:List BS)(ks:List Bool)(s:BS)(hlen:ps.length=ks.length+1)(hs:s.length=ks.length)(hb1:ks.length<=1000000)(hb2:ps.flatten.length<=1000000000)(pr kr:List (List V))(Fp:pr=c7 ps)(yK:kr=gP ks)(r:BS)(hr:Fl ps ks s=r)
  (R:S->Prop)(x:∀s s' q,q=r->c6 s s'->iH [.t 4] [.str q] s'->R s):gj P T w Iw (S0 [.agg [.sl true 1 pr,.sl true 1 kr],.str s] Hp.emp) R (λ_ _=>False) R:=by
 have a:P.dv kr=(ks.length:Int):=by rw[gE hP,yK];simp[gP]
 cbv;intro l;cbv;refine⟨Y0 ps ks s,λy=>[(1,.str s),(2,.ptr 2 (some l) 2 0 0),(5,.str y.out),(9,.sl true 1 kr),(10,qI (P.dv kr)),(11,qI y.k)],
  λy=>[(2,⟨some l,139,2,[[.sl true 1 pr,.sl true 1 kr]]⟩)],λy=>y.r2.length,
  ⟨_,c6.refl _,⟨0,0,[],[],ps,[],ks,rfl,rfl,⟨rfl,rfl⟩,rfl,by simp,by simp⟩,⟨rfl,rfl,rfl,rfl,rfl,rfl,trivial⟩,⟨rfl,trivial⟩⟩,?_⟩
 rintro⟨i,k,out,p1,r1,p2,r2,h1,h2,⟨e,f⟩,hk,ho,hd⟩;have n:r1.length=r2.length+1:=by rw[h1,h2] at hlen;simp at hlen;omega
 have c:i+r2.length=ks.length:=by rw[h2];simp;omega
 rcases r1 with _|⟨p,r1⟩
 ·simp at n
 have z:p1.flatten.length+p.length<=1000000000:=by rw[h1] at hb2;simp at hb2⊢;omega
 have b:P.row pr (P.nat k) [.str p]:=ga hP hk (by rw[Fp,c7,av,h1,<-e];simp);have d:P.fC 0 k:=iu hP qW;have g:P.i64 (P.add k 1):=by rw[add_eq hP];exact eR hP qW
 have m:P.i64 (P.add (P.c9 out) (P.c9 p)):=by rw[add_eq hP,da hP,da hP];exact eR hP qW
 cbv;refine ab (λh=>?_) (λh=>?_)
 ·have h3:k<P.dv kr:=fJ hP h;rw[a] at h3
  rcases r2 with _|⟨q,r2⟩
  ·exfalso;simp at c;((try simp only[nc] at*);omega)
  have j:P.row kr (P.nat k) [.bool q]:=ga hP hk (by rw[yK,gP,av,h2,<-f];simp);cbv;refine⟨d,_,j,?_⟩;cbv;refine⟨d,_,b,?_⟩;cbv;refine⟨m,?_⟩;cases q
  ·cbv;refine⟨g,?_⟩;refine⟨_,c6.refl _,⟨i+1,_,_,p1++[p],r1,p2++[false],r2,by simp[h1],by simp[h2],by simp[e,f],?_,?_,?_⟩,⟨rfl,rfl,rfl,rfl,rfl,rfl,trivial⟩,⟨rfl,trivial⟩,by simp⟩
   ·show P.add k 1=_;rw[add_eq hP,hk];((try simp only[nc] at*);omega)
   ·show(P.h9 out p).length<=_;subst hP;simp only[dn,ag,List.flatten_append,bE,eS,aS];omega
   ·show _=P.h9 out p++_;rw[hd];subst hP;simp[Fl,dn,b7]
  ·have hx:(P.jy s k (P.add k 1))=(s.drop i).take 1:=by
    rw[add_eq hP,hk];subst hP;show(s.take ((i:Int)+1).toNat).drop ((i:Int)).toNat=_;rw[dH,aA,show((i:Int)+1).toNat-i=1 by omega]
   have o:P.fC k (P.add k 1):=lE hP (by rw[add_eq hP];omega);have u:P.fC (P.add k 1) (P.c9 s):=lE hP (by rw[add_eq hP,da hP];simp at c;((try simp only[nc] at*);omega));have v:P.i64 (P.add (P.c9 (P.h9 out p)) (P.c9 (P.jy s k (P.add k 1)))):=by
    rw[hx,add_eq hP,da hP,da hP];refine eR hP ?_;subst hP;simp only[dn,ag,aI];omega
   cbv;refine⟨g,d,o,u,v,g,?_⟩;refine⟨_,c6.refl _,⟨i+1,_,_,p1++[p],r1,p2++[true],r2,by simp[h1],by simp[h2],by simp[e,f],?_,?_,?_⟩,⟨rfl,rfl,rfl,rfl,rfl,rfl,trivial⟩,⟨rfl,trivial⟩,by simp⟩
   ·show P.add k 1=_;rw[add_eq hP,hk];((try simp only[nc] at*);omega)
   ·show(P.h9 (P.h9 out p) (P.jy s k (P.add k 1))).length<=_;rw[hx];subst hP;simp only[dn,ag,aI,List.flatten_append,bE,eS,aS];omega
   ·show _=P.h9 (P.h9 out p) (P.jy s k (P.add k 1))++_;rw[hd,hx];subst hP;simp[Fl,dn,b7]
 ·have h3:¬k<P.dv kr:=fM hP h;rw[a] at h3
  rcases r2 with _|⟨q,r2⟩
  rotate_left
  ·exfalso;simp at c;((try simp only[nc] at*);omega)
  have hk2:k=P.dv kr:=by rw[a];simp at c;((try simp only[nc] at*);omega)
  subst hk2;cbv;refine⟨d,_,b,?_⟩;cbv;refine⟨m,?_⟩;refine x _ _ _ ?_ (c6.refl _) rfl;show P.h9 out p=r;rw[<-hr,hd];subst hP;cases r1<;>simp[Fl,dn]
theorem Ix(ts:List iY)(h:ts.length<=1000000)(s:BS)(hs:s.length=lH ts):Spec Tryz.prog 84 [.agg [.sl true 1 (c7 (fK ts)),.sl true 1 (gP (fy ts))],.str s] Hp.emp (Is (.str (o9 ts s))):=
 ep iD Q1 [.str (o9 ts s)] (.str _) λR a=>Q2 dn rfl _ _ (fK ts) (fy ts) s (nd ts) hs (by have:=vm ts;omega) (by have:=wY ts;omega) _ _ rfl rfl _ (Qv ts s) R λs s' q h he hr=>by subst h;exact a s s' he hr
open Go.RowKit
theorem wo{f:Nat}{args:List V}{v:V}{us:Array Value}{W:World}(hs:Spec Tryz.prog f args Hp.emp (Is v))(hl:us.size=args.length)
  (hr:∀(i:Nat)(v:V)(u:Value),args[i]? =some v->us[i]? =some u->Rel (xT W) (λ_=>False) W v u):
  Calls Tryz.prog f us W λe w'=>(∃u F',e=.returned u/\Rel F' (λ_=>False) w' v u)/\Below W.heap.size W w':=by
 let C:Ctx:=⟨W,xT W,λ_=>False,λ_=>False⟩
 have c:C.Ok:=⟨λb hb=>⟨hb,λh=>h⟩,λb hb=>hb.elim,λb hb=>hb.elim⟩;refine(hs.run C us c hl hr ⟨λk o hk=>by simp[Hp.emp] at hk,λk k' o o' b hk=>by simp[Hp.emp] at hk,λk o b hk=>by simp[Hp.emp] at hk,λb hb=>.inl hb,λb hb=>hb,λb hb=>hb,Ev.refl _ _⟩).mono ?_;rintro e w' ⟨u,v',h',F',rfl,hv,hs2,rfl,rfl⟩;have a:Ev (λ_=>False) W w':=hs2.ev;exact⟨⟨u,F',rfl,hv⟩,a.os,a.tape,a.output,a.size,λk hk=>a.same k hk (λh=>h)⟩
theorem Fv{F B:Nat->Prop}{w:World}{t:Bool}{d:List Part}{u:Value}(h:Rel F B w (.sl t 3 (d.map bd)) u)(hlt:∀b,F b\/B b->b<w.heap.size):∃e c,u=.slice e d.length c/\S6.DB w e d:=by
 generalize ds:d.map bd=rows at h
 cases h with
 |slnil=>
  have:d=[]:=by simpa using ds
  subst this;exact⟨none,0,rfl,λi p hp=>by simp at hp⟩
 |slemp _ _ a cap=>
  have:d=[]:=by simpa using ds
  subst this;exact⟨some a,cap,rfl,λi p hp=>by simp at hp⟩
 |sl _ _ _ b off cap us hF n3 hsz hc hr=>
  subst ds;refine⟨some ⟨b,off,none⟩,cap,by rw[aF],λi p hp=>⟨b,off,rfl,hlt b (by rcases hF with h|⟨_,h⟩<;>simp[h]),?_,?_,?_⟩⟩
  all_goals have hi:(d.map bd)[i]? =some (bd p):=by rw[av,hp];rfl
  ·have h1:=(hc i 0 _ (.int .i64 p.kind) hi rfl).1;have h2:=hr i 0 _ (.int .i64 p.kind) hi rfl
   generalize us i 0=x at h1 h2
   cases h2;exact h1
  ·have h1:=(hc i 1 _ (.int .i64 p.n) hi rfl).1;have h2:=hr i 1 _ (.int .i64 p.n) hi rfl
   generalize us i 1=x at h1 h2
   cases h2;exact h1
  ·have h1:=(hc i 2 _ (.str p.text) hi rfl).1;have h2:=hr i 2 _ (.str p.text) hi rfl
   generalize us i 2=x at h1 h2
   cases h2;exact h1
def kl(d:List Part)(s:BS):BS×Int:=if kW d s.length=0 then(o9 (fb d) s,0) else([],kW d s.length)
theorem Iy(d:List Part)(hd:d.length<=maxLen)(s:BS):Spec Tryz.prog 79 [.sl true 3 (d.map bd),.str s] Hp.emp (Is (.tup [.str (kl d s).1,.int .i64 (kl d s).2])):=by
 refine⟨⟨Tryz.f79,Tryz.func79,by decide+kernel,bB.1 (by decide+kernel)⟩,λC us g hl a _=>?_⟩;have main:Calls Tryz.prog 79 us C.w0 λe w'=>e=.returned (.tuple #[.string ⟨(kl d s).1.toArray⟩,.int .i64 (kl d s).2])/\Below C.w0.heap.size C.w0 w':=by
  match us,hl,a with
  |⟨[x,y]⟩,_,a=>
   have a0:=a 0 _ x rfl rfl;have a1:=a 1 _ y rfl rfl;have j:=a0.mono (F':=xT C.w0) (B':=λ_=>False) (λb hb=>(g.F0 b hb).1) (λb hb=>.inl (g.B b hb).1);obtain⟨l,c,rfl,hat⟩:=Fv a0 λb hb=>hb.elim (λh=>(g.F0 b h).1) λh=>(g.B b h).1;cases a1;have hsz:(⟨s.toArray⟩:ByteArray).size=s.length:=by show s.toArray.size=_;simp
   have f:Calls Tryz.prog 56 #[.slice l d.length c,.int .i64 ((⟨s.toArray⟩:ByteArray).size:Int)] C.w0 λe w'=>e=.returned (.int .i64 (kW d s.length))/\Below C.w0.heap.size C.w0 w':=by
    rw[hsz];refine(wo (Dz d hd s.length) rfl (λi v u hv hu=>?_)).mono ?_
    ·match i with
     |0=>simp at hv hu;subst hv hu;exact j
     |1=>simp at hv hu;subst hv hu;exact .int _ _
     |i+2=>simp at hv
    ·rintro e w' ⟨⟨u,F',rfl,hu⟩,hb⟩;cases hu;exact⟨rfl,hb⟩
   unfold kl
   by_cases hf:kW d s.length=0
   ·rw[ae hf];rw[hf] at f;obtain⟨hz,pd⟩:=r6 hf;obtain⟨h1,h2,h3,h4,_,_⟩:=fP hz;exact S6.TB d c ⟨s.toArray⟩ l C.w0 h1 hat h2 (by rw[hsz];exact pd.symm) (by rw[hsz];omega) h4 f
   ·rw[aa hf];exact S6.QY d.length c ⟨s.toArray⟩ l C.w0 _ hf f
 refine main.mono ?_;rintro e w' ⟨rfl,hb⟩;refine⟨_,.tup [.str (kl d s).1,.int .i64 (kl d s).2],Hp.emp,C.F0,rfl,.tup _ _ rfl (λi v u hv hu=>?_),⟨λk o hk=>by simp[Hp.emp] at hk,λk k' o o' b hk=>by simp[Hp.emp] at hk,λk o b hk=>by simp[Hp.emp] at hk,λb hb=>.inl hb,λb hb=>hb,λb hb'=>bF (g.F0 b hb').1 hb.size,?_⟩,rfl,rfl⟩
 ·match i with
  |0=>simp at hv hu;subst hv hu;exact .str _
  |1=>simp at hv hu;subst hv hu;exact .int _ _
  |i+2=>simp at hv
 ·exact⟨hb.os,hb.tape,hb.output,hb.size,λb hlt _=>hb.block b hlt,λb c e fr hc=>⟨c,fr,by rw[hb.block b (aG.1 hc).1];exact hc,rfl⟩⟩
def Iz:AC:=qr [qo 4 (.mov (.c qe)),qz 5 0] (qq (qr [qm 7 0,qm 8 1,qo 9 (.len true (.t 8)),qa 10 60 [.t 7,.t 9],qm 6 10] (qr [qm 11 6,qc 12 .neq 11 0] (qu 12 (qr [qm 13 6,qo 4 (.mov (.c qe)),qm 5 13] .ret) .skip))) (qr [qm 14 0,qa 15 83 [.t 14],qm 16 1,qa 17 84 [.t 15,.t 16],qm 4 17,qz 5 0] .ret))
theorem Q3:fF Tryz.prog 104 Tryz.f104 Iz [.t 4,.t 5] 2 er:=⟨Tryz.func104,by decide+kernel,by kernel_rfl,by kernel_rfl,by decide+kernel⟩
theorem Q4(P:Prim)(hP:P=dn)(T f:c8)(rows:List (List V))(s r:BS)(c e:Int)(a:V)
  (hc1:gK T 60 [.sl true 3 rows,qI (P.c9 s)] (qI c))(ho:c=0->gK T 83 [.sl true 3 rows] a)(hd:c=0->gK T 84 [a,.str s] (.str r))
  (hr:(c≠0->r=[]/\c=e)/\(c=0->0=e))
  (R:S->Prop)(b:∀s s' r2 d,r2=r/\d=e->c6 s s'->iH [.t 4,.t 5] [.str r2,qI d] s'->R s):gj P T f Iz (S0 [.sl true 3 rows,.str s] Hp.emp) R (λ_ _=>False) R:=by
 cbv;refine hc1 _ _ ?_;cbv;refine ab (λh=>?_) (λh=>?_)
 ·have hc:=hH hP h;cbv;exact b _ _ _ _ ⟨(hr.1 hc).1.symm,(hr.1 hc).2⟩ (c6.refl _) rfl
 ·have hc:=gZ hP h;have f1:=ho hc;have f2:=hd hc;clear ho hd;cbv;refine f1 _ _ ?_;cbv;refine f2 _ _ ?_;cbv;exact b _ _ _ _ ⟨rfl,hr.2 hc⟩ (c6.refl _) rfl
theorem IA(d:List Part)(hd:d.length<=maxLen)(s:BS):Spec Tryz.prog 104 [.sl true 3 (d.map bd),.str s] Hp.emp (Is (.tup [.str (kl d s).1,.int .i64 (kl d s).2])):=by
 refine ep iD Q3 [.str (kl d s).1,.int .i64 (kl d s).2] (.tup _ (by simp;exact⟨.str _,.int _ _⟩)) λR a=>Q4 dn rfl _ _ _ s (kl d s).1 (kW d s.length) (kl d s).2 (tJ (fK (fb d)) (fy (fb d)))
  (ia (vp d hd s.length) (λh=>.cons (.same _) (.cons (.same _) .nil)) rfl) (λhz=>?_) (λhz=>?_) ⟨λh=>by unfold kl;rw[aa h];exact⟨rfl,rfl⟩,λh=>by unfold kl;rw[ae h]⟩ R λs s' r2 b h he hr=>by obtain⟨rfl,rfl⟩:=h;exact a s s' he hr
 all_goals
  obtain⟨z,pd⟩:=r6 hz;obtain⟨h1,h2,h3,h4,_,_⟩:=fP z;have e1:=l9 d h2
 ·exact ia (sY d h1 (zG h2)) (λh=>.cons (.same _) .nil) rfl
 ·have:(kl d s).1=o9 (fb d) s:=by unfold kl;rw[ae hz]
  rw[this];exact ia (Ix (fb d) (zH z) s qW) (λh=>.cons (B4 h _ _) (.cons (.same _) .nil)) rfl
def iL(r:eP):Int:=if r.who<0\/7<r.who\/r.seq<0\/2147483647<r.seq then 1 else ed r.delta
def mj(cur:BS):List eP->List BS×Int
 |[]=>([],0)
 |r::l=>if iL r≠0 then([],iL r) else if(kl r.delta cur).2≠0 then([],(kl r.delta cur).2) else((kl r.delta cur).1::(mj (kl r.delta cur).1 l).1,(mj (kl r.delta cur).1 l).2)
def gG(base:BS)(l:List eP):List BS×Int:=if 500<base.length\/64<l.length then([],2) else if(mj base l).2≠0 then([],(mj base l).2) else(base::(mj base l).1,0)
theorem uv:∀(l:List eP)(cur:BS),(mj cur l).2=0->(mj cur l).1.length=l.length
 |[],_,_=>rfl
 |r::l,cur,h=>by
  unfold mj at h⊢
  split at h
  ·contradiction
  ·rename_i h1;rw[aa h1]
   split at h
   ·contradiction
   ·rename_i h2;rw[aa h2];simp only[au];rw[uv l _ h]
theorem xa{base:BS}{l:List eP}(h:(gG base l).2=0):base.length<=500/\l.length<=64/\(mj base l).2=0/\(gG base l).1=base::(mj base l).1/\(gG base l).1.length=l.length+1:=by
 unfold gG at h⊢
 split at h
 ·contradiction
 ·rename_i h1;rw[aa h1]
  split at h
  ·contradiction
  ·rename_i h2;rw[aa h2];have h3:(mj base l).2=0:=az h2;exact⟨qW,qW,h3,rfl,by simp[uv l base h3]⟩
def IB:AC:=qr [qo 1 (.box 91 3 (.t 0)),qz 2 0] (qq (qr [qf 3 0 1,ql 4 3,qc 5 .lss 4 0,qm 6 5,qg 7 6 false (.faddr 0 (.t 1)),qg 8 6 false (.load1 (.t 7)),qg 9 6 false (.bin .gtr (.t 8) (qk 7)),qo 10 (.pick (.t 6) (.c (.bool true)) (.t 9)),qm 11 10,qg 12 11 false (.faddr 1 (.t 1)),qg 13 11 false (.load1 (.t 12)),qg 14 11 false (.bin .lss (.t 13) (qk 0)),qo 15 (.pick (.t 11) (.c (.bool true)) (.t 14)),qm 16 15,qg 17 16 false (.faddr 1 (.t 1)),qg 18 16 false (.load1 (.t 17)),qg 19 16 false (.bin .gtr (.t 18) (qk 2147483647)),qo 20 (.pick (.t 16) (.c (.bool true)) (.t 19))] (qu 20 (qr [qz 2 1] .ret) .skip)) (qr [qf 21 2 1,ql 22 21,qa 23 106 [.t 22],qm 2 23] .ret))
theorem ok_one:fF Tryz.prog 114 Tryz.f114 IB [.t 2] 1 er:=⟨Tryz.func114,by decide+kernel,by kernel_rfl,by kernel_rfl,by decide+kernel⟩
theorem IC(P:Prim)(hP:P=dn)(T d:c8)(b:Bool)(w q:Int)(dr:List (List V))(c r:Int)(hc1:gK T 106 [.sl b 3 dr] (qI c))(hr:(if w<0\/7<w\/q<0\/2147483647<q then 1 else c)=r)
  (R:S->Prop)(a:∀s s' x,x=r->c6 s s'->iH [.t 2] [qI x] s'->R s):gj P T d IB (S0 [.agg [qI w,qI q,.sl b 3 dr]] Hp.emp) R (λ_ _=>False) R:=by
 cbv
 repeat'(first|(intro β;cbv)|(refine And.intro (by assumption) ?_;cbv)|(refine ab (λh=>?_) (λh=>?_)<;>try cbv)|(refine Exists.intro _ (And.intro (by assumption) ?_);cbv)|(refine hc1 _ _ ?_;cbv)|(refine e _ _ ?_;cbv)|(refine f _ _ ?_;cbv)|(refine g _ _ ?_;cbv)|(refine i _ _ ?_;cbv)|(refine j _ _ ?_;cbv)|(refine And.intro (by(clear a;subst hP;simp[dn,jx,nc] at* <;>first|omega|grind)) ?_;cbv))
 all_goals
  refine a _ _ _ ?_ (c6.refl _) rfl;clear a hc1;subst hP;simp[dn] at*;first|omega|grind
theorem B9(r:eP)(hr:fH r.delta):Spec Tryz.prog 114 [.agg (ca r)] Hp.emp (Is (.int .i64 (iL r))):=
 ep iD ok_one [.int .i64 (iL r)] (.int _ _) λR a=>IC dn rfl _ _ false r.who r.seq (r.delta.map bd) (ed r.delta) (iL r) (oW (oo r.delta hr.1) rfl) rfl R λs s' x h he hq=>by subst h;exact a s s' he hq
def uw(r:eP):List V:=[.int .i64 r.who,.int .i64 r.seq,.sl true 3 (r.delta.map bd)]
theorem MV(r:eP)(hr:fH r.delta):Spec Tryz.prog 114 [.agg (uw r)] Hp.emp (Is (.int .i64 (iL r))):=
 ep iD ok_one [.int .i64 (iL r)] (.int _ _) λR a=>IC dn rfl _ _ true r.who r.seq (r.delta.map bd) (ed r.delta) (iL r) (ia (oo r.delta hr.1) (λ_=>.cons (.same _) .nil) rfl) rfl R λs s' x h he hq=>by subst h;exact a s s' he hq
def DD:AC:=qr [qo 1 (.box 91 3 (.t 0)),qz 2 0] (qq (qr [qf 3 0 1,ql 4 3,qc 5 .lss 4 0,qm 6 5,qg 7 6 false (.faddr 0 (.t 1)),qg 8 6 false (.load1 (.t 7)),qg 9 6 false (.bin .gtr (.t 8) (qk 7)),qo 10 (.pick (.t 6) (.c (.bool true)) (.t 9)),qm 11 10,qg 12 11 false (.faddr 1 (.t 1)),qg 13 11 false (.load1 (.t 12)),qg 14 11 false (.bin .lss (.t 13) (qk 0)),qo 15 (.pick (.t 11) (.c (.bool true)) (.t 14)),qm 16 15,qg 17 16 false (.faddr 1 (.t 1)),qg 18 16 false (.load1 (.t 17)),qg 19 16 false (.bin .gtr (.t 18) (qk 2147483647)),qo 20 (.pick (.t 16) (.c (.bool true)) (.t 19))] (qu 20 (qr [qz 2 1] .ret) .skip)) (qr [qf 21 2 1,ql 22 21,qa 23 89 [.t 22],qm 2 23] .ret))
theorem MW:fF Tryz.prog 118 Tryz.f118 DD [.t 2] 1 er:=⟨Tryz.func118,by decide+kernel,by kernel_rfl,by kernel_rfl,by decide+kernel⟩
theorem MX(P:Prim)(hP:P=dn)(T b:c8)(w q:Int)(dr:List (List V))(c r:Int)(hc1:gK T 89 [.sl false 3 dr] (qI c))(hr:(if w<0\/7<w\/q<0\/2147483647<q then 1 else c)=r)
  (R:S->Prop)(a:∀s s' x,x=r->c6 s s'->iH [.t 2] [qI x] s'->R s):gj P T b DD (S0 [.agg [qI w,qI q,.sl false 3 dr]] Hp.emp) R (λ_ _=>False) R:=by
 cbv
 repeat'(first|(intro β;cbv)|(refine And.intro (by assumption) ?_;cbv)|(refine ab (λh=>?_) (λh=>?_)<;>try cbv)|(refine Exists.intro _ (And.intro (by assumption) ?_);cbv)|(refine hc1 _ _ ?_;cbv)|(refine d _ _ ?_;cbv)|(refine e _ _ ?_;cbv)|(refine f _ _ ?_;cbv)|(refine g _ _ ?_;cbv)|(refine i _ _ ?_;cbv)|(refine And.intro (by(clear a;subst hP;simp[dn,jx,nc] at* <;>first|omega|grind)) ?_;cbv))
 all_goals
  refine a _ _ _ ?_ (c6.refl _) rfl;clear a hc1;subst hP;simp[dn] at*;first|omega|grind
theorem uz(r:eP)(hr:fH r.delta):Spec Tryz.prog 118 [.agg (ca r)] Hp.emp (Is (.int .i64 (iL r))):=
 ep iD MW [.int .i64 (iL r)] (.int _ _) λR a=>MX dn rfl _ _ r.who r.seq (r.delta.map bd) (ed r.delta) (iL r) (oW (jZ r.delta hr.1) rfl) rfl R λs s' x h he hq=>by subst h;exact a s s' he hq
structure Xv(base:BS)(l:List eP) where
 k:Int
 pre:List eP
 rest:List eP
 acc:List BS
 cur:BS
 n:Nat
 b:Option Nat
 rows:List (List V)
 hd:l=pre++rest
 hk:k=(pre.length:Int)
 ds:rows=c7 (acc++[cur])
 wu:acc.length=pre.length
 hn:n=pre.length+1
 h1:(acc++[cur])++(mj cur rest).1=base::(mj base l).1
 h2:(mj cur rest).2=(mj base l).2
def qi(a:List Part->List (List V))(l:List eP):List (List V):=l.map λr=>[.int .i64 r.who,.int .i64 r.seq,.sl false 3 (a r.delta)]
def zL:AC:=qr [qo 4 (.mov (.c (.slice none 0 0))),qz 5 0] (qq (qr [qm 12 0,qo 13 (.len true (.t 12)),qc 14 .gtr 13 500,qm 15 14,qg 16 15 false (.mov (.t 1)),qg 17 15 false (.len false (.t 16)),qg 18 15 false (.bin .gtr (.t 17) (qk 64)),qo 19 (.pick (.t 15) (.c (.bool true)) (.t 18))] (qu 19 (qr [qo 4 (.mov (.c (.slice none 0 0))),qz 5 2] .ret) .skip)) (qr [qm 20 0,qo 21 (.bslice 9 1 [.t 20]),qm 6 21] (qq (qr [qm 22 1,qo 23 (.len false (.t 22)),qz 24 0] (.block 0 (.loop (qr [qb 25 .lss 24 23] (qq (qu 25 .skip (.exit 0)) (qq (.block 1 (qr [qo 26 (.iaddr 3 (.t 22) (.t 24)),qd 27 3 26,qo 8 (.alloc 91 xI),qs 3 8 27] (qq (qr [qd 28 3 8,qa 29 114 [.t 28],qm 9 29] (qr [qm 30 9,qc 31 .neq 30 0] (qu 31 (qr [qm 32 9,qo 4 (.mov (.c (.slice none 0 0))),qm 5 32] .ret) .skip))) (qq (.region true [qf 34 2 8,ql 35 34,qm 36 6,qm 37 6,qo 38 (.len false (.t 37)),qc 39 .sub 38 1,qo 40 (.iaddr 1 (.t 36) (.t 39)),ql 41 40,qa 42 79 [.t 35,.t 41],qm 33 42,qx 43 0 33,qx 44 1 33,qm 10 43,qm 11 44]) (qq (qr [qm 45 11,qc 46 .neq 45 0] (qu 46 (qr [qm 47 11,qo 4 (.mov (.c (.slice none 0 0))),qm 5 47] .ret) .skip)) (qR [qm 48 6,qm 49 10,qo 50 (.bslice 9 1 [.t 49]),qo 51 (.append 9 1 16 (.t 48) (.t 50)),qm 6 51])))))) (qR [qc 52 .add 24 1,qm 24 52]))))))) (qr [qm 53 6,qm 4 53,qz 5 0] .ret))))
theorem ID:fF Tryz.prog 113 Tryz.f113 zL [.t 4,.t 5] 2 er:=⟨Tryz.func113,by decide+kernel,by kernel_rfl,by kernel_rfl,by decide+kernel⟩
theorem IE(P:Prim)(hP:P=dn)(T W:c8)(base:BS)(l:List eP)(G:List Part->List (List V))(rows:List (List V))(ds:rows=qi G l)
  (v:Int->Int->List Part->Int)(H:∀w q d,v w q d=iL ⟨w,q,d⟩)(p:List Part->BS->BS)(z:List Part->BS->Int)(I:∀d s,p d s=(kl d s).1)(J:∀d s,z d s=(kl d s).2)
  (m:∀w q d,⟨w,q,d⟩∈l->gK T 114 [.agg [qI w,qI q,.sl false 3 (G d)]] (qI (v w q d)))
  (A:∀w q d s,⟨w,q,d⟩∈l->gK W 79 [.sl false 3 (G d),.str s] (.tup [.str (p d s),qI (z d s)]))
  (t:List BS)(e:Int)(ht:gG base l=(t,e))
  (R:S->Prop)(B:∀x,x=e->qZ [.t 4,.t 5] 1 (c7 t) [qI x] R):gj P T W zL (S0 [.str base,.sl true 3 rows] Hp.emp) R (λ_ _=>False) R:=by
 have j:P.dv rows=(l.length:Int):=by rw[gE hP,ds];simp[qi]
 have hb1:P.c9 base=(base.length:Int):=da hP base;have f:500<base.length\/64<l.length->t=[]/\e=2:=by
  intro h;unfold gG at ht;rw[ae h] at ht;simp only[aL] at ht;exact⟨ht.1.symm,ht.2.symm⟩
 cbv;refine ab (λh=>?_) (λh=>?_)
 ·have h3:500<P.c9 base:=fJ hP h;rw[hb1] at h3;obtain⟨g1,g2⟩:=f (.inl qO);cbv;exact(B _ g2.symm).1 _ _ (c6.refl _) rfl (by rw[g1];rfl)
 have h3:¬500<P.c9 base:=fM hP h;rw[hb1] at h3;cbv;refine ab (λh=>?_) (λh=>?_)
 ·have h4:64<P.dv rows:=fJ hP h;rw[j] at h4;obtain⟨g1,g2⟩:=f (.inr qO);cbv;exact(B _ g2.symm).1 _ _ (c6.refl _) rfl (by rw[g1];rfl)
 have h4:¬64<P.dv rows:=fM hP h;rw[j] at h4;have X:l.length<=64:=by((try simp only[nc] at*);omega)
 have K:t=(if(mj base l).2≠0 then[] else base::(mj base l).1)/\e=(mj base l).2:=by
  unfold gG at ht;rw[aa qO] at ht
  split at ht
  ·rename_i h;simp only[aL] at ht;rw[ae h];exact⟨ht.1.symm,ht.2.symm⟩
  ·rename_i h;simp only[aL] at ht;rw[aa h];exact⟨ht.1.symm,qW⟩
 obtain⟨c,g⟩:=K;clear f ht h;cbv;intro Y;cbv;refine⟨Xv base l,λy=>[(6,.own 1000021 y.b 1 y.n),(22,.sl true 3 rows),(23,qI (P.dv rows)),(24,qI y.k)],
  λy=>[(1000021,⟨y.b,9,1,y.rows⟩)],λy=>y.rest.length,
  ⟨_,c6.refl _,⟨0,[],l,[],base,_,_,_,rfl,rfl,rfl,rfl,rfl,rfl,rfl⟩,⟨rfl,rfl,rfl,rfl,trivial⟩,⟨rfl,trivial⟩⟩,?_⟩
 rintro⟨k,pre,rest,acc,cur,n,b,ij,hd,hk,a,wu,hn,h1,h2⟩;have C:pre.length+rest.length=l.length:=by rw[hd];simp
 cbv;refine ab (λh=>?_) (λh=>?_)
 ·have h5:k<P.dv rows:=fJ hP h;rw[j] at h5
  rcases rest with _|⟨⟨w,q,d⟩,rest⟩
  ·exfalso;simp at C;((try simp only[nc] at*);omega)
  have o:(⟨w,q,d⟩:eP)∈l:=by rw[hd];simp
  have c1:=m w q d o;have Z:=A w q d cur o;have D:P.row rows (P.nat k) [qI w,qI q,.sl false 3 (G d)]:=ga hP hk (by rw[ds,qi,av,hd];simp);have L:P.fC 0 k:=iu hP qO;have VP:P.i64 (P.add k 1):=by rw[add_eq hP];exact eR hP qO
  have pd:P.sub (P.int n) 1=((pre.length:Nat):Int):=by rw[sub_eq hP,int_eq hP,hn];((try simp only[nc] at*);omega)
  have M:P.i64 (P.sub (P.int n) 1):=by rw[pd];exact eR hP qO
  have N:P.fC 0 (P.sub (P.int n) 1):=iu hP (by rw[pd];((try simp only[nc] at*);omega));have O:P.iO (P.sub (P.int n) 1) (P.int n):=kN hP (by rw[pd,int_eq hP,hn];((try simp only[nc] at*);omega));have u:P.row ij (P.nat (P.sub (P.int n) 1)) [.str cur]:=ga hP pd (by rw[a,c7,av,<-wu];simp);have ho6:P.nL ij n:=by subst hP;show ij.length=n;rw[a,hn];simp[c7,wu]
  have Q:∀r,P.bytes (P.add (P.int n) (P.dv [r])) 16:=by intro r;subst hP;show((n:Int)+1)*16<=_;((try simp only[nc] at*);omega)
  have U:∀r,P.nL [r] 1:=by intro r;subst hP;rfl
  have i:mj cur (⟨w,q,d⟩::rest)=if v w q d≠0 then([],v w q d) else if z d cur≠0 then([],z d cur) else(p d cur::(mj (p d cur) rest).1,(mj (p d cur) rest).2):=by rw[H,J,I];rfl
  rw[i] at h1 h2;clear m A i;cbv;refine⟨L,_,D,?_⟩;cbv;intro Y1;cbv;refine c1 _ _ ?_;cbv;refine ab (λh=>?_) (λh=>?_)
  ·have hz:v w q d≠0:=hH hP h;rw[ae hz] at h2;simp only[] at h2;rw[<-h2] at c g;rw[ae hz] at c;cbv;exact(B _ g.symm).1 _ _ (c6.refl _) rfl (by rw[c];rfl)
  have hz:v w q d=0:=gZ hP h;rw[aa (λh=>h hz)] at h1 h2;cbv;refine⟨M,N,O,_,u,?_⟩;cbv;refine Z _ _ ?_;cbv;refine ab (λh=>?_) (λh=>?_)
  ·have hy:z d cur≠0:=hH hP h;rw[ae hy] at h2;simp only[] at h2;rw[<-h2] at c g;rw[ae hy] at c;cbv;exact(B _ g.symm).1 _ _ (c6.refl _) rfl (by rw[c];rfl)
  have hy:z d cur=0:=gZ hP h;rw[aa (λh=>h hy)] at h1 h2;cbv
  repeat' first|(refine And.intro (by assumption) ?_;cbv)|(refine And.intro (U _) ?_;cbv)|(refine And.intro (Q _) ?_;cbv)|(intro β;cbv)
  refine⟨_,c6.refl _,⟨_,pre++[⟨w,q,d⟩],rest,acc++[cur],p d cur,_,_,_,by simp[hd],?_,?_,by simp[wu],?_,by rw[<-h1];simp,h2⟩,⟨rfl,rfl,rfl,rfl,trivial⟩,⟨rfl,trivial⟩,by simp⟩
  ·show P.add k 1=_;rw[add_eq hP,hk];simp
  ·show P.kB ij [[.str (p d cur)]]=_;rw[a];subst hP;simp[dn,c7]
  ·show P.hU n (P.fQ [_])=_;subst hP;simp[dn,hn]
 ·have h5:¬k<P.dv rows:=fM hP h;rw[j] at h5
  rcases rest with _|⟨r,rest⟩
  rotate_left
  ·exfalso;simp at C;((try simp only[nc] at*);omega)
  have E:(mj base l).2=0:=by rw[<-h2];rfl
  rw[E,aa qD] at c;rw[E] at g;have F:acc++[cur]=t:=by rw[c,<-h1];simp[mj]
  cbv;exact(B _ g.symm).2.1 _ _ _ _ _ _ _ (c6.refl _) rfl rfl ⟨by rw[<-F,hn];simp[c7,wu],by rw[<-F,a]⟩
theorem IF{rv:List RV}{t:List BS}{e:Int}{R:S->Prop}(a:∀s s',c6 s s'->Fk rv (.tup [.sl false 1 (c7 t),.int .i64 e]) s'->R s):∀x,x=e->qZ rv 1 (c7 t) [.int .i64 x] R:=λx hx=>by
 subst hx;exact ng (vn _) (gY _) (vo _) λs s' he hr=>a s s' he hr
theorem DE{f:Nat}{d:List Part}{vs:List V}{v:V}(h:Spec Tryz.prog f (.sl true 3 (d.map bd)::vs) Hp.emp (Is v))(hv:v.gM (gD [])=v)(a:vs.all V.pl=true):gK (fX Tryz.prog) f (gh d::vs) v:=oh h (λ_=>.cons (.mY _ _) (fO a)) hv
theorem IG(base:BS)(l:List eP)(hl:lO l):Spec Tryz.prog 113 [.str base,.sl true 3 (l.map ca)] Hp.emp (Is (.tup [.sl false 1 (c7 (gG base l).1),.int .i64 (gG base l).2])):=
 jq iD ID λR a=>IE dn rfl _ _ base l (λd=>d.map bd) _ rfl (λw q d=>iL ⟨w,q,d⟩) (λ_ _ _=>rfl) (λd s=>(kl d s).1) (λd s=>(kl d s).2) (λ_ _=>rfl) (λ_ _=>rfl)
  (λw q d hm=>ia (B9 ⟨w,q,d⟩ (hl.2 _ hm).2.2) (λh=>.cons (.same _) .nil) rfl)
  (λw q d s hm=>DE (Iy d (hl.2 _ hm).2.2.1 s) rfl rfl) _ _ rfl R (IF a)
def xb:AC:=qr [qo 4 (.mov (.c (.slice none 0 0))),qz 5 0] (qq (qr [qm 12 0,qo 13 (.len true (.t 12)),qc 14 .gtr 13 500,qm 15 14,qg 16 15 false (.mov (.t 1)),qg 17 15 false (.len false (.t 16)),qg 18 15 false (.bin .gtr (.t 17) (qk 64)),qo 19 (.pick (.t 15) (.c (.bool true)) (.t 18))] (qu 19 (qr [qo 4 (.mov (.c (.slice none 0 0))),qz 5 2] .ret) .skip)) (qr [qm 20 0,qo 21 (.bslice 9 1 [.t 20]),qm 6 21] (qq (qr [qm 22 1,qo 23 (.len false (.t 22)),qz 24 0] (.block 0 (.loop (qr [qb 25 .lss 24 23] (qq (qu 25 .skip (.exit 0)) (qq (.block 1 (qr [qm 26 24,qo 27 (.iaddr 3 (.t 22) (.t 24)),qd 28 3 27,qo 8 (.alloc 91 xI),qm 7 26,qs 3 8 28] (qq (qr [qd 29 3 8,qa 30 118 [.t 29],qm 9 30] (qr [qm 31 9,qc 32 .neq 31 0] (qu 32 (qr [qm 33 9,qo 4 (.mov (.c (.slice none 0 0))),qm 5 33] .ret) .skip))) (qq (.region true [qf 35 2 8,ql 36 35,qm 37 6,qm 38 7,qo 39 (.iaddr 1 (.t 37) (.t 38)),ql 40 39,qa 41 104 [.t 36,.t 40],qm 34 41,qx 42 0 34,qx 43 1 34,qm 10 42,qm 11 43]) (qq (qr [qm 44 11,qc 45 .neq 44 0] (qu 45 (qr [qm 46 11,qo 4 (.mov (.c (.slice none 0 0))),qm 5 46] .ret) .skip)) (qR [qm 47 6,qm 48 10,qo 49 (.bslice 9 1 [.t 48]),qo 50 (.append 9 1 16 (.t 47) (.t 49)),qm 6 50])))))) (qR [qc 51 .add 24 1,qm 24 51]))))))) (qr [qm 52 6,qm 4 52,qz 5 0] .ret))))
theorem Fw:fF Tryz.prog 98 Tryz.f98 xb [.t 4,.t 5] 2 er:=⟨Tryz.func98,by decide+kernel,by kernel_rfl,by kernel_rfl,by decide+kernel⟩
theorem Fx(P:Prim)(hP:P=dn)(T Q:c8)(base:BS)(l:List eP)(H:List Part->List (List V))(rows:List (List V))(ds:rows=qi H l)
  (v:Int->Int->List Part->Int)(I:∀w q d,v w q d=iL ⟨w,q,d⟩)(p:List Part->BS->BS)(z:List Part->BS->Int)(J:∀d s,p d s=(kl d s).1)(K:∀d s,z d s=(kl d s).2)
  (m:∀w q d,⟨w,q,d⟩∈l->gK T 118 [.agg [qI w,qI q,.sl false 3 (H d)]] (qI (v w q d)))
  (A:∀w q d s,⟨w,q,d⟩∈l->gK Q 104 [.sl false 3 (H d),.str s] (.tup [.str (p d s),qI (z d s)]))
  (t:List BS)(e:Int)(ht:gG base l=(t,e))
  (R:S->Prop)(B:∀x,x=e->qZ [.t 4,.t 5] 1 (c7 t) [qI x] R):gj P T Q xb (S0 [.str base,.sl true 3 rows] Hp.emp) R (λ_ _=>False) R:=by
 have j:P.dv rows=(l.length:Int):=by rw[gE hP,ds];simp[qi]
 have hb1:P.c9 base=(base.length:Int):=da hP base;have f:500<base.length\/64<l.length->t=[]/\e=2:=by
  intro h;unfold gG at ht;rw[ae h] at ht;simp only[aL] at ht;exact⟨ht.1.symm,ht.2.symm⟩
 cbv;refine ab (λh=>?_) (λh=>?_)
 ·have h3:500<P.c9 base:=fJ hP h;rw[hb1] at h3;obtain⟨g1,g2⟩:=f (.inl qO);cbv;exact(B _ g2.symm).1 _ _ (c6.refl _) rfl (by rw[g1];rfl)
 have h3:¬500<P.c9 base:=fM hP h;rw[hb1] at h3;cbv;refine ab (λh=>?_) (λh=>?_)
 ·have h4:64<P.dv rows:=fJ hP h;rw[j] at h4;obtain⟨g1,g2⟩:=f (.inr qO);cbv;exact(B _ g2.symm).1 _ _ (c6.refl _) rfl (by rw[g1];rfl)
 have h4:¬64<P.dv rows:=fM hP h;rw[j] at h4;have U:l.length<=64:=by((try simp only[nc] at*);omega)
 have L:t=(if(mj base l).2≠0 then[] else base::(mj base l).1)/\e=(mj base l).2:=by
  unfold gG at ht;rw[aa qO] at ht
  split at ht
  ·rename_i h;simp only[aL] at ht;rw[ae h];exact⟨ht.1.symm,ht.2.symm⟩
  ·rename_i h;simp only[aL] at ht;rw[aa h];exact⟨ht.1.symm,qW⟩
 obtain⟨c,g⟩:=L;clear f ht h;cbv;intro W;cbv;refine⟨Xv base l,λy=>[(6,.own 1000021 y.b 1 y.n),(22,.sl true 3 rows),(23,qI (P.dv rows)),(24,qI y.k)],
  λy=>[(1000021,⟨y.b,9,1,y.rows⟩)],λy=>y.rest.length,
  ⟨_,c6.refl _,⟨0,[],l,[],base,_,_,_,rfl,rfl,rfl,rfl,rfl,rfl,rfl⟩,⟨rfl,rfl,rfl,rfl,trivial⟩,⟨rfl,trivial⟩⟩,?_⟩
 rintro⟨k,pre,rest,acc,cur,n,b,ij,hd,hk,a,wu,hn,h1,h2⟩;have C:pre.length+rest.length=l.length:=by rw[hd];simp
 cbv;refine ab (λh=>?_) (λh=>?_)
 ·have h5:k<P.dv rows:=fJ hP h;rw[j] at h5
  rcases rest with _|⟨⟨w,q,d⟩,rest⟩
  ·exfalso;simp at C;((try simp only[nc] at*);omega)
  have o:(⟨w,q,d⟩:eP)∈l:=by rw[hd];simp
  have c1:=m w q d o;have X:=A w q d cur o;have D:P.row rows (P.nat k) [qI w,qI q,.sl false 3 (H d)]:=ga hP hk (by rw[ds,qi,av,hd];simp);have E:P.fC 0 k:=iu hP qO;have Y:P.i64 (P.add k 1):=by rw[add_eq hP];exact eR hP qO
  have M:P.iO k (P.int n):=kN hP (by rw[int_eq hP,hn];((try simp only[nc] at*);omega));have u:P.row ij (P.nat k) [.str cur]:=ga hP hk (by rw[a,c7,av,<-wu];simp);have Z:P.nL ij n:=by subst hP;show ij.length=n;rw[a,hn];simp[c7,wu]
  have N:∀r,P.bytes (P.add (P.int n) (P.dv [r])) 16:=by intro r;subst hP;show((n:Int)+1)*16<=_;((try simp only[nc] at*);omega)
  have O:∀r,P.nL [r] 1:=by intro r;subst hP;rfl
  have i:mj cur (⟨w,q,d⟩::rest)=if v w q d≠0 then([],v w q d) else if z d cur≠0 then([],z d cur) else(p d cur::(mj (p d cur) rest).1,(mj (p d cur) rest).2):=by rw[I,K,J];rfl
  rw[i] at h1 h2;clear m A i;cbv;refine⟨E,_,D,?_⟩;cbv;intro Y1;cbv;refine c1 _ _ ?_;cbv;refine ab (λh=>?_) (λh=>?_)
  ·have hz:v w q d≠0:=hH hP h;rw[ae hz] at h2;simp only[] at h2;rw[<-h2] at c g;rw[ae hz] at c;cbv;exact(B _ g.symm).1 _ _ (c6.refl _) rfl (by rw[c];rfl)
  have hz:v w q d=0:=gZ hP h;rw[aa (λh=>h hz)] at h1 h2;cbv;refine⟨E,M,_,u,?_⟩;cbv;refine X _ _ ?_;cbv;refine ab (λh=>?_) (λh=>?_)
  ·have hy:z d cur≠0:=hH hP h;rw[ae hy] at h2;simp only[] at h2;rw[<-h2] at c g;rw[ae hy] at c;cbv;exact(B _ g.symm).1 _ _ (c6.refl _) rfl (by rw[c];rfl)
  have hy:z d cur=0:=gZ hP h;rw[aa (λh=>h hy)] at h1 h2;cbv
  repeat' first|(refine And.intro (by assumption) ?_;cbv)|(refine And.intro (O _) ?_;cbv)|(refine And.intro (N _) ?_;cbv)|(intro β;cbv)
  refine⟨_,c6.refl _,⟨_,pre++[⟨w,q,d⟩],rest,acc++[cur],p d cur,_,_,_,by simp[hd],?_,?_,by simp[wu],?_,by rw[<-h1];simp,h2⟩,⟨rfl,rfl,rfl,rfl,trivial⟩,⟨rfl,trivial⟩,by simp⟩
  ·show P.add k 1=_;rw[add_eq hP,hk];simp
  ·show P.kB ij [[.str (p d cur)]]=_;rw[a];subst hP;simp[dn,c7]
  ·show P.hU n (P.fQ [_])=_;subst hP;simp[dn,hn]
 ·have h5:¬k<P.dv rows:=fM hP h;rw[j] at h5
  rcases rest with _|⟨r,rest⟩
  rotate_left
  ·exfalso;simp at C;((try simp only[nc] at*);omega)
  have F:(mj base l).2=0:=by rw[<-h2];rfl
  rw[F,aa qD] at c;rw[F] at g;have G:acc++[cur]=t:=by rw[c,<-h1];simp[mj]
  cbv;exact(B _ g.symm).2.1 _ _ _ _ _ _ _ (c6.refl _) rfl rfl ⟨by rw[<-G,hn];simp[c7,wu],by rw[<-G,a]⟩
theorem xc(base:BS)(l:List eP)(hl:lO l):Spec Tryz.prog 98 [.str base,.sl true 3 (l.map ca)] Hp.emp (Is (.tup [.sl false 1 (c7 (gG base l).1),.int .i64 (gG base l).2])):=
 jq iD Fw λR a=>Fx dn rfl _ _ base l (λd=>d.map bd) _ rfl (λw q d=>iL ⟨w,q,d⟩) (λ_ _ _=>rfl) (λd s=>(kl d s).1) (λd s=>(kl d s).2) (λ_ _=>rfl) (λ_ _=>rfl)
  (λw q d hm=>ia (uz ⟨w,q,d⟩ (hl.2 _ hm).2.2) (λh=>.cons (.same _) .nil) rfl)
  (λw q d s hm=>DE (IA d (hl.2 _ hm).2.2.1 s) rfl rfl) _ _ rfl R (IF a)
def kQ(base:BS)(l:List eP)(k:Int):BS×Int:=if(gG base l).2≠0 then([],(gG base l).2) else if k<0\/(l.length:Int)<k then([],1) else((gG base l).1.getD k.toNat [],0)
def DF:AC:=qr [qo 6 (.mov (.c qe)),qz 7 0] (qr [qm 11 0,qm 12 1,qa 13 113 [.t 11,.t 12],qm 10 13,qx 14 0 10,qx 15 1 10,qm 8 14,qm 9 15] (qq (qr [qm 16 9,qc 17 .neq 16 0] (qu 17 (qr [qm 18 9,qo 6 (.mov (.c qe)),qm 7 18] .ret) .skip)) (qq (qr [qm 19 2,qc 20 .lss 19 0,qm 21 20,qg 22 21 false (.mov (.t 2)),qg 23 21 false (.mov (.t 1)),qg 24 21 false (.len false (.t 23)),qg 25 21 false (.bin .gtr (.t 22) (.t 24)),qo 26 (.pick (.t 21) (.c (.bool true)) (.t 25))] (qu 26 (qr [qo 6 (.mov (.c qe)),qz 7 1] .ret) .skip)) (qr [qm 27 8,qm 28 2,qo 29 (.iaddr 1 (.t 27) (.t 28)),ql 30 29,qm 6 30,qz 7 0] .ret))))
theorem MY:fF Tryz.prog 76 Tryz.f76 DF [.t 6,.t 7] 3 er:=⟨Tryz.func76,by decide+kernel,by kernel_rfl,by kernel_rfl,by decide+kernel⟩
theorem MZ(P:Prim)(hP:P=dn)(T c:c8)(base:BS)(rows tr:List (List V))(e k n:Int)(s:BS)(hn:P.dv rows=n)(hc1:gK T 113 [.str base,.sl true 3 rows] (.tup [.sl false 1 tr,qI e]))
  (r:BS)(f:Int)(h1:e≠0->r=[]/\e=f)(h2:e=0->k<0\/n<k->r=[]/\1=f)(h3:e=0->0<=k->k<=n->P.row tr (P.nat k) [.str s]/\s=r/\0=f)
  (R:S->Prop)(a:∀s s' x y,x=r/\y=f->c6 s s'->iH [.t 6,.t 7] [.str x,qI y] s'->R s):gj P T c DF (S0 [.str base,.sl true 3 rows,qI k] Hp.emp) R (λ_ _=>False) R:=by
 cbv;refine hc1 _ _ ?_;cbv;refine ab (λh=>?_) (λh=>?_)
 ·have hz:=hH hP h;cbv;exact a _ _ _ _ ⟨(h1 hz).1.symm,(h1 hz).2⟩ (c6.refl _) rfl
 have hz:=gZ hP h;cbv;refine ab (λh=>?_) (λh=>?_)
 ·have hk:=fJ hP h;cbv;exact a _ _ _ _ ⟨(h2 hz (.inl hk)).1.symm,(h2 hz (.inl hk)).2⟩ (c6.refl _) rfl
 have hk:=fM hP h;cbv;refine ab (λh=>?_) (λh=>?_)
 ·have hk2:P.dv rows<k:=fJ hP h;rw[hn] at hk2;cbv;exact a _ _ _ _ ⟨(h2 hz (.inr hk2)).1.symm,(h2 hz (.inr hk2)).2⟩ (c6.refl _) rfl
 have hk2:¬P.dv rows<k:=fM hP h;rw[hn] at hk2;obtain⟨g1,g2,g3⟩:=h3 hz qW qW;have b:P.fC 0 k:=iu hP qW;cbv;refine⟨b,_,g1,?_⟩;cbv;exact a _ _ _ _ ⟨g2,g3⟩ (c6.refl _) rfl
theorem Ca{base:BS}{l:List eP}{k:Int}(he:(gG base l).2=0)(h0:0<=k)(h1:k<=l.length):(gG base l).1[k.toNat]? =some ((gG base l).1.getD k.toNat []):=by
 obtain⟨_,_,_,_,h⟩:=xa he;rw[ar,af qW];rfl
theorem M1(base:BS)(l:List eP)(k:Int)(hl:lO l):Spec Tryz.prog 76 [.str base,.sl true 3 (l.map ca),.int .i64 k] Hp.emp (Is (.tup [.str (kQ base l k).1,.int .i64 (kQ base l k).2])):=
 ep iD MY [.str (kQ base l k).1,.int .i64 (kQ base l k).2] (.tup _ (by simp;exact⟨.str _,.int _ _⟩)) λR a=>MZ dn rfl _ _ base _ (c7 (gG base l).1) (gG base l).2 k l.length ((gG base l).1.getD k.toNat []) (by show((l.map ca).length:Int)=_;simp)
  (ia (IG base l hl) (λh=>.cons (.same _) (.cons (.same _) .nil)) rfl) (kQ base l k).1 (kQ base l k).2 (λh=>by unfold kQ;rw[ae h];exact⟨rfl,rfl⟩) (λh h'=>by unfold kQ;rw[aa (λg=>g h),ae h'];exact⟨rfl,rfl⟩)
  (λh h0 h1=>by
   refine⟨ga rfl (i:=k.toNat) qW (by rw[c7,av,Ca h h0 h1];rfl),?_⟩;unfold kQ;rw[aa (λg=>g h),aa qW];exact⟨rfl,rfl⟩)
  R λs s' x y h he hr=>by obtain⟨rfl,rfl⟩:=h;exact a s s' he hr
theorem II{f:Nat}{s:BS}{rows:List (List V)}{sz:Nat}{vs:List V}{v:V}(h:Spec Tryz.prog f (.str s::.sl true sz rows::vs) Hp.emp (Is v))(hv:v.gM (gD [])=v)(a:vs.all V.pl=true):gK (fm Tryz.prog) f (.str s::.sl false sz rows::vs) v:=ia h (λ_=>.cons (.same _) (.cons (.mY _ _) (fO a))) hv
def gL(l:List Int):List (List V):=l.map λn=>[.int .i64 n]
theorem zM(l:List Int):∀r∈gL l,r.length=1:=by
 intro r hr;simp only[gL,aC] at hr;obtain⟨a,_,rfl⟩:=hr;rfl
theorem zN(l:List Int):∀r∈gL l,∀v∈r,Fz v:=by
 intro r hr;simp only[gL,aC] at hr;obtain⟨a,_,rfl⟩:=hr;intro v hv;simp only[aq] at hv;subst hv;exact .int _ _
theorem zO{f:Nat}{l:List Int}{vs:List V}{v:V}(h:Spec Tryz.prog f (.sl true 1 (gL l)::vs) Hp.emp (Is v))(hv:v.gM (gD [])=v)(a:vs.all V.pl=true):gK (fm Tryz.prog) f (.sl false 1 (gL l)::vs) v:=ia h (λ_=>.cons (.mY _ _) (fO a)) hv
def zP:AC:=qr [qo 3 (.box 72 38 (.t 0)),qo 5 (.box 91 3 (.t 2)),qz 6 0] (qq (qr [qd 8 3 5,qa 9 114 [.t 8],qm 7 9] (qr [qm 10 7,qc 11 .neq 10 0] (qu 11 (qr [qm 12 7,qm 6 12] .ret) .skip))) (qq (qq (.region true [qf 13 1 5,ql 14 13,qf 15 0 5,ql 16 15,qf 17 19 3,qo 18 (.iarr 8 2 (.t 17) (.t 16)),qf 19 0 18,ql 20 19,qb 21 .leq 14 20]) (qu 21 (qr [qz 6 10] .ret) .skip)) (qq (qr [qf 22 35 3,ql 23 22,qo 24 (.len false (.t 23)),qc 25 .geq 24 64,qm 26 25,qg 27 26 false (.faddr 1 (.t 3)),qg 28 26 false (.load1 (.t 27)),qg 29 26 false (.faddr 35 (.t 3)),qg 30 26 false (.load1 (.t 29)),qg 31 26 false (.len false (.t 30)),qg 32 26 false (.bin .add (.t 28) (.t 31)),qg 33 26 false (.bin .geq (.t 32) (qk 2147483647)),qo 34 (.pick (.t 26) (.c (.bool true)) (.t 33))] (qu 34 (qr [qz 6 11] .ret) .skip)) (qr [qf 35 2 5,ql 36 35,qm 37 1,qa 38 56 [.t 36,.t 37],qm 6 38] .ret))))
theorem IJ:fF Tryz.prog 77 Tryz.f77 zP [.t 6] 3 er:=⟨Tryz.func77,by decide+kernel,by kernel_rfl,by kernel_rfl,by decide+kernel⟩
theorem IK(P:Prim)(hP:P=dn)(T A:c8)(gn b gd w q sz o f n:Int)(tx:BS)(fs tb:Nat->Int)(rv dr:List (List V))(wh B:Bool)(hn:P.dv rv=n)(hb:0<=b/\b<=2147483647)
  (hc1:gK T 114 [.agg [qI w,qI q,.sl false 3 dr]] (qI o))(hw:o=0->w=0\/w=1\/w=2\/w=3\/w=4\/w=5\/w=6\/w=7)(k:o=0->gK T 56 [.sl false 3 dr,qI sz] (qI f))
  (res:Int)(g1:o≠0->o=res)(g2:o=0->q<=tb (2*w.toNat)->10=res)(g3:o=0->¬q<=tb (2*w.toNat)->64<=n\/2147483647<=b+n->11=res)(g4:o=0->¬q<=tb (2*w.toNat)->¬(64<=n\/2147483647<=b+n)->f=res)(C:0<=n)
  (R:S->Prop)(d:∀s s' x,x=res->c6 s s'->iH [.t 6] [qI x] s'->R s):gj P T A zP (S0 [.agg [qI gn,qI b,.str tx,qI (fs 0),qI (fs 1),qI (fs 2),qI (fs 3),qI (fs 4),qI (fs 5),qI (fs 6),qI (fs 7),qI (fs 8),qI (fs 9),qI (fs 10),qI (fs 11),qI (fs 12),qI (fs 13),qI (fs 14),qI (fs 15),qI (tb 0),qI (tb 1),qI (tb 2),qI (tb 3),qI (tb 4),qI (tb 5),qI (tb 6),qI (tb 7),qI (tb 8),qI (tb 9),qI (tb 10),qI (tb 11),qI (tb 12),qI (tb 13),qI (tb 14),qI (tb 15),.sl B 3 rv,.bool wh,qI gd],qI sz,.agg [qI w,qI q,.sl false 3 dr]] Hp.emp) R (λ_ _=>False) R:=by
 have l:P.nat 0=0:=by subst hP;rfl
 have m:P.nat 1=1:=by subst hP;rfl
 have p:P.nat 2=2:=by subst hP;rfl
 have r:P.nat 3=3:=by subst hP;rfl
 have u:P.nat 4=4:=by subst hP;rfl
 have v:P.nat 5=5:=by subst hP;rfl
 have y:P.nat 6=6:=by subst hP;rfl
 have z:P.nat 7=7:=by subst hP;rfl
 have e:∀i:Nat,i<8->P.fC 0 (i:Int)/\P.iO (i:Int) 8:=λi hi=>⟨iu hP qW,kN hP qW⟩;cbv;intro D;cbv;intro E;cbv;refine hc1 _ _ ?_;clear hc1;cbv;refine ab (λh=>?_) (λh=>?_)
 ·have hz:=hH hP h;cbv;exact d _ _ _ (g1 hz) (c6.refl _) rfl
 have hz:=gZ hP h;have hw:=hw hz;have j:=k hz
 replace g2:=g2 hz
 replace g3:=g3 hz
 replace g4:=g4 hz
 clear g1 k h;cbv
 rcases hw with rfl|rfl|rfl|rfl|rfl|rfl|rfl|rfl
 ·have q1:P.fC 0 0:=(e 0 qD).1;have q2:P.iO 0 8:=(e 0 qD).2;refine⟨q1,q2,0,l,?_⟩;cbv;refine ab (λh=>?_) (λh=>?_)
  ·have hq:=jP hP h;cbv;exact d _ _ _ (g2 hq) (c6.refl _) rfl
  have hq:=kg hP h
  replace g3:=g3 hq
  replace g4:=g4 hq
  cbv;refine ab (λh=>?_) (λh=>?_)
  ·have a:64<=P.dv rv:=jP hP h;rw[hn] at a;cbv;exact d _ _ _ (g3 (.inl qW)) (c6.refl _) rfl
  have a:¬64<=P.dv rv:=kg hP h;rw[hn] at a;have g:P.i64 (P.add b (P.dv rv)):=by rw[add_eq hP,hn];exact eR hP qW
  cbv;refine⟨g,?_⟩;refine ab (λh=>?_) (λh=>?_)
  ·have c:2147483647<=P.add b (P.dv rv):=jP hP h;rw[add_eq hP,hn] at c;cbv;exact d _ _ _ (g3 (.inr qW)) (c6.refl _) rfl
  have c:¬2147483647<=P.add b (P.dv rv):=kg hP h;rw[add_eq hP,hn] at c;cbv;refine j _ _ ?_;cbv;exact d _ _ _ (g4 qW) (c6.refl _) rfl
 ·have q1:P.fC 0 1:=(e 1 qD).1;have q2:P.iO 1 8:=(e 1 qD).2;refine⟨q1,q2,1,m,?_⟩;cbv;refine ab (λh=>?_) (λh=>?_)
  ·have hq:=jP hP h;cbv;exact d _ _ _ (g2 hq) (c6.refl _) rfl
  have hq:=kg hP h
  replace g3:=g3 hq
  replace g4:=g4 hq
  cbv;refine ab (λh=>?_) (λh=>?_)
  ·have a:64<=P.dv rv:=jP hP h;rw[hn] at a;cbv;exact d _ _ _ (g3 (.inl qW)) (c6.refl _) rfl
  have a:¬64<=P.dv rv:=kg hP h;rw[hn] at a;have g:P.i64 (P.add b (P.dv rv)):=by rw[add_eq hP,hn];exact eR hP qW
  cbv;refine⟨g,?_⟩;refine ab (λh=>?_) (λh=>?_)
  ·have c:2147483647<=P.add b (P.dv rv):=jP hP h;rw[add_eq hP,hn] at c;cbv;exact d _ _ _ (g3 (.inr qW)) (c6.refl _) rfl
  have c:¬2147483647<=P.add b (P.dv rv):=kg hP h;rw[add_eq hP,hn] at c;cbv;refine j _ _ ?_;cbv;exact d _ _ _ (g4 qW) (c6.refl _) rfl
 ·have q1:P.fC 0 2:=(e 2 qD).1;have q2:P.iO 2 8:=(e 2 qD).2;refine⟨q1,q2,2,p,?_⟩;cbv;refine ab (λh=>?_) (λh=>?_)
  ·have hq:=jP hP h;cbv;exact d _ _ _ (g2 hq) (c6.refl _) rfl
  have hq:=kg hP h
  replace g3:=g3 hq
  replace g4:=g4 hq
  cbv;refine ab (λh=>?_) (λh=>?_)
  ·have a:64<=P.dv rv:=jP hP h;rw[hn] at a;cbv;exact d _ _ _ (g3 (.inl qW)) (c6.refl _) rfl
  have a:¬64<=P.dv rv:=kg hP h;rw[hn] at a;have g:P.i64 (P.add b (P.dv rv)):=by rw[add_eq hP,hn];exact eR hP qW
  cbv;refine⟨g,?_⟩;refine ab (λh=>?_) (λh=>?_)
  ·have c:2147483647<=P.add b (P.dv rv):=jP hP h;rw[add_eq hP,hn] at c;cbv;exact d _ _ _ (g3 (.inr qW)) (c6.refl _) rfl
  have c:¬2147483647<=P.add b (P.dv rv):=kg hP h;rw[add_eq hP,hn] at c;cbv;refine j _ _ ?_;cbv;exact d _ _ _ (g4 qW) (c6.refl _) rfl
 ·have q1:P.fC 0 3:=(e 3 qD).1;have q2:P.iO 3 8:=(e 3 qD).2;refine⟨q1,q2,3,r,?_⟩;cbv;refine ab (λh=>?_) (λh=>?_)
  ·have hq:=jP hP h;cbv;exact d _ _ _ (g2 hq) (c6.refl _) rfl
  have hq:=kg hP h
  replace g3:=g3 hq
  replace g4:=g4 hq
  cbv;refine ab (λh=>?_) (λh=>?_)
  ·have a:64<=P.dv rv:=jP hP h;rw[hn] at a;cbv;exact d _ _ _ (g3 (.inl qW)) (c6.refl _) rfl
  have a:¬64<=P.dv rv:=kg hP h;rw[hn] at a;have g:P.i64 (P.add b (P.dv rv)):=by rw[add_eq hP,hn];exact eR hP qW
  cbv;refine⟨g,?_⟩;refine ab (λh=>?_) (λh=>?_)
  ·have c:2147483647<=P.add b (P.dv rv):=jP hP h;rw[add_eq hP,hn] at c;cbv;exact d _ _ _ (g3 (.inr qW)) (c6.refl _) rfl
  have c:¬2147483647<=P.add b (P.dv rv):=kg hP h;rw[add_eq hP,hn] at c;cbv;refine j _ _ ?_;cbv;exact d _ _ _ (g4 qW) (c6.refl _) rfl
 ·have q1:P.fC 0 4:=(e 4 qD).1;have q2:P.iO 4 8:=(e 4 qD).2;refine⟨q1,q2,4,u,?_⟩;cbv;refine ab (λh=>?_) (λh=>?_)
  ·have hq:=jP hP h;cbv;exact d _ _ _ (g2 hq) (c6.refl _) rfl
  have hq:=kg hP h
  replace g3:=g3 hq
  replace g4:=g4 hq
  cbv;refine ab (λh=>?_) (λh=>?_)
  ·have a:64<=P.dv rv:=jP hP h;rw[hn] at a;cbv;exact d _ _ _ (g3 (.inl qW)) (c6.refl _) rfl
  have a:¬64<=P.dv rv:=kg hP h;rw[hn] at a;have g:P.i64 (P.add b (P.dv rv)):=by rw[add_eq hP,hn];exact eR hP qW
  cbv;refine⟨g,?_⟩;refine ab (λh=>?_) (λh=>?_)
  ·have c:2147483647<=P.add b (P.dv rv):=jP hP h;rw[add_eq hP,hn] at c;cbv;exact d _ _ _ (g3 (.inr qW)) (c6.refl _) rfl
  have c:¬2147483647<=P.add b (P.dv rv):=kg hP h;rw[add_eq hP,hn] at c;cbv;refine j _ _ ?_;cbv;exact d _ _ _ (g4 qW) (c6.refl _) rfl
 ·have q1:P.fC 0 5:=(e 5 qD).1;have q2:P.iO 5 8:=(e 5 qD).2;refine⟨q1,q2,5,v,?_⟩;cbv;refine ab (λh=>?_) (λh=>?_)
  ·have hq:=jP hP h;cbv;exact d _ _ _ (g2 hq) (c6.refl _) rfl
  have hq:=kg hP h
  replace g3:=g3 hq
  replace g4:=g4 hq
  cbv;refine ab (λh=>?_) (λh=>?_)
  ·have a:64<=P.dv rv:=jP hP h;rw[hn] at a;cbv;exact d _ _ _ (g3 (.inl qW)) (c6.refl _) rfl
  have a:¬64<=P.dv rv:=kg hP h;rw[hn] at a;have g:P.i64 (P.add b (P.dv rv)):=by rw[add_eq hP,hn];exact eR hP qW
  cbv;refine⟨g,?_⟩;refine ab (λh=>?_) (λh=>?_)
  ·have c:2147483647<=P.add b (P.dv rv):=jP hP h;rw[add_eq hP,hn] at c;cbv;exact d _ _ _ (g3 (.inr qW)) (c6.refl _) rfl
  have c:¬2147483647<=P.add b (P.dv rv):=kg hP h;rw[add_eq hP,hn] at c;cbv;refine j _ _ ?_;cbv;exact d _ _ _ (g4 qW) (c6.refl _) rfl
 ·have q1:P.fC 0 6:=(e 6 qD).1;have q2:P.iO 6 8:=(e 6 qD).2;refine⟨q1,q2,6,y,?_⟩;cbv;refine ab (λh=>?_) (λh=>?_)
  ·have hq:=jP hP h;cbv;exact d _ _ _ (g2 hq) (c6.refl _) rfl
  have hq:=kg hP h
  replace g3:=g3 hq
  replace g4:=g4 hq
  cbv;refine ab (λh=>?_) (λh=>?_)
  ·have a:64<=P.dv rv:=jP hP h;rw[hn] at a;cbv;exact d _ _ _ (g3 (.inl qW)) (c6.refl _) rfl
  have a:¬64<=P.dv rv:=kg hP h;rw[hn] at a;have g:P.i64 (P.add b (P.dv rv)):=by rw[add_eq hP,hn];exact eR hP qW
  cbv;refine⟨g,?_⟩;refine ab (λh=>?_) (λh=>?_)
  ·have c:2147483647<=P.add b (P.dv rv):=jP hP h;rw[add_eq hP,hn] at c;cbv;exact d _ _ _ (g3 (.inr qW)) (c6.refl _) rfl
  have c:¬2147483647<=P.add b (P.dv rv):=kg hP h;rw[add_eq hP,hn] at c;cbv;refine j _ _ ?_;cbv;exact d _ _ _ (g4 qW) (c6.refl _) rfl
 ·have q1:P.fC 0 7:=(e 7 qD).1;have q2:P.iO 7 8:=(e 7 qD).2;refine⟨q1,q2,7,z,?_⟩;cbv;refine ab (λh=>?_) (λh=>?_)
  ·have hq:=jP hP h;cbv;exact d _ _ _ (g2 hq) (c6.refl _) rfl
  have hq:=kg hP h
  replace g3:=g3 hq
  replace g4:=g4 hq
  cbv;refine ab (λh=>?_) (λh=>?_)
  ·have a:64<=P.dv rv:=jP hP h;rw[hn] at a;cbv;exact d _ _ _ (g3 (.inl qW)) (c6.refl _) rfl
  have a:¬64<=P.dv rv:=kg hP h;rw[hn] at a;have g:P.i64 (P.add b (P.dv rv)):=by rw[add_eq hP,hn];exact eR hP qW
  cbv;refine⟨g,?_⟩;refine ab (λh=>?_) (λh=>?_)
  ·have c:2147483647<=P.add b (P.dv rv):=jP hP h;rw[add_eq hP,hn] at c;cbv;exact d _ _ _ (g3 (.inr qW)) (c6.refl _) rfl
  have c:¬2147483647<=P.add b (P.dv rv):=kg hP h;rw[add_eq hP,hn] at c;cbv;refine j _ _ ?_;cbv;exact d _ _ _ (g4 qW) (c6.refl _) rfl
def zQ:AC:=qr [qo 3 (.box 72 38 (.t 0)),qo 5 (.box 91 3 (.t 2)),qz 6 0] (qq (qr [qd 8 3 5,qa 9 118 [.t 8],qm 7 9] (qr [qm 10 7,qc 11 .neq 10 0] (qu 11 (qr [qm 12 7,qm 6 12] .ret) .skip))) (qq (qq (.region true [qf 13 0 5,ql 14 13,qf 15 19 3,qo 16 (.iarr 8 2 (.t 15) (.t 14)),qf 17 0 16,ql 18 17,qf 19 1 5,ql 20 19,qb 21 .geq 18 20]) (qu 21 (qr [qz 6 10] .ret) .skip)) (qq (qr [qf 22 35 3,ql 23 22,qo 24 (.len false (.t 23)),qc 25 .gtr 24 63,qm 26 25,qg 27 26 false (.faddr 1 (.t 3)),qg 28 26 false (.load1 (.t 27)),qg 29 26 false (.faddr 35 (.t 3)),qg 30 26 false (.load1 (.t 29)),qg 31 26 false (.len false (.t 30)),qg 32 26 false (.bin .sub (qk 2147483646) (.t 31)),qg 33 26 false (.bin .gtr (.t 28) (.t 32)),qo 34 (.pick (.t 26) (.c (.bool true)) (.t 33))] (qu 34 (qr [qz 6 11] .ret) .skip)) (qr [qf 35 2 5,ql 36 35,qm 37 1,qa 38 60 [.t 36,.t 37],qm 6 38] .ret))))
theorem zR:fF Tryz.prog 81 Tryz.f81 zQ [.t 6] 3 er:=⟨Tryz.func81,by decide+kernel,by kernel_rfl,by kernel_rfl,by decide+kernel⟩
theorem zS(P:Prim)(hP:P=dn)(T A:c8)(gn b gd w q sz o f n:Int)(tx:BS)(fs tb:Nat->Int)(rv dr:List (List V))(wh B:Bool)(hn:P.dv rv=n)(hb:0<=b/\b<=2147483647)
  (hc1:gK T 118 [.agg [qI w,qI q,.sl false 3 dr]] (qI o))(hw:o=0->w=0\/w=1\/w=2\/w=3\/w=4\/w=5\/w=6\/w=7)(k:o=0->gK T 60 [.sl false 3 dr,qI sz] (qI f))
  (res:Int)(g1:o≠0->o=res)(g2:o=0->q<=tb (2*w.toNat)->10=res)(g3:o=0->¬q<=tb (2*w.toNat)->64<=n\/2147483647<=b+n->11=res)(g4:o=0->¬q<=tb (2*w.toNat)->¬(64<=n\/2147483647<=b+n)->f=res)(C:0<=n)
  (R:S->Prop)(d:∀s s' x,x=res->c6 s s'->iH [.t 6] [qI x] s'->R s):gj P T A zQ (S0 [.agg [qI gn,qI b,.str tx,qI (fs 0),qI (fs 1),qI (fs 2),qI (fs 3),qI (fs 4),qI (fs 5),qI (fs 6),qI (fs 7),qI (fs 8),qI (fs 9),qI (fs 10),qI (fs 11),qI (fs 12),qI (fs 13),qI (fs 14),qI (fs 15),qI (tb 0),qI (tb 1),qI (tb 2),qI (tb 3),qI (tb 4),qI (tb 5),qI (tb 6),qI (tb 7),qI (tb 8),qI (tb 9),qI (tb 10),qI (tb 11),qI (tb 12),qI (tb 13),qI (tb 14),qI (tb 15),.sl B 3 rv,.bool wh,qI gd],qI sz,.agg [qI w,qI q,.sl false 3 dr]] Hp.emp) R (λ_ _=>False) R:=by
 have l:P.nat 0=0:=by subst hP;rfl
 have m:P.nat 1=1:=by subst hP;rfl
 have p:P.nat 2=2:=by subst hP;rfl
 have r:P.nat 3=3:=by subst hP;rfl
 have u:P.nat 4=4:=by subst hP;rfl
 have v:P.nat 5=5:=by subst hP;rfl
 have y:P.nat 6=6:=by subst hP;rfl
 have z:P.nat 7=7:=by subst hP;rfl
 have e:∀i:Nat,i<8->P.fC 0 (i:Int)/\P.iO (i:Int) 8:=λi hi=>⟨iu hP qW,kN hP qW⟩;cbv;intro D;cbv;intro E;cbv;refine hc1 _ _ ?_;clear hc1;cbv;refine ab (λh=>?_) (λh=>?_)
 ·have hz:=hH hP h;cbv;exact d _ _ _ (g1 hz) (c6.refl _) rfl
 have hz:=gZ hP h;have hw:=hw hz;have j:=k hz
 replace g2:=g2 hz
 replace g3:=g3 hz
 replace g4:=g4 hz
 clear g1 k h;cbv
 rcases hw with rfl|rfl|rfl|rfl|rfl|rfl|rfl|rfl
 ·have q1:P.fC 0 0:=(e 0 qD).1;have q2:P.iO 0 8:=(e 0 qD).2;refine⟨q1,q2,0,l,?_⟩;cbv;refine ab (λh=>?_) (λh=>?_)
  ·have hq:=jP hP h;cbv;exact d _ _ _ (g2 hq) (c6.refl _) rfl
  have hq:=kg hP h
  replace g3:=g3 hq
  replace g4:=g4 hq
  cbv;refine ab (λh=>?_) (λh=>?_)
  ·have a:63<P.dv rv:=fJ hP h;rw[hn] at a;cbv;exact d _ _ _ (g3 (.inl qW)) (c6.refl _) rfl
  have a:¬63<P.dv rv:=fM hP h;rw[hn] at a;have g:P.i64 (P.sub 2147483646 (P.dv rv)):=by rw[sub_eq hP,hn];exact eR hP qW
  cbv;refine⟨g,?_⟩;refine ab (λh=>?_) (λh=>?_)
  ·have c:P.sub 2147483646 (P.dv rv)<b:=fJ hP h;rw[sub_eq hP,hn] at c;cbv;exact d _ _ _ (g3 (.inr qW)) (c6.refl _) rfl
  have c:¬P.sub 2147483646 (P.dv rv)<b:=fM hP h;rw[sub_eq hP,hn] at c;cbv;refine j _ _ ?_;cbv;exact d _ _ _ (g4 qW) (c6.refl _) rfl
 ·have q1:P.fC 0 1:=(e 1 qD).1;have q2:P.iO 1 8:=(e 1 qD).2;refine⟨q1,q2,1,m,?_⟩;cbv;refine ab (λh=>?_) (λh=>?_)
  ·have hq:=jP hP h;cbv;exact d _ _ _ (g2 hq) (c6.refl _) rfl
  have hq:=kg hP h
  replace g3:=g3 hq
  replace g4:=g4 hq
  cbv;refine ab (λh=>?_) (λh=>?_)
  ·have a:63<P.dv rv:=fJ hP h;rw[hn] at a;cbv;exact d _ _ _ (g3 (.inl qW)) (c6.refl _) rfl
  have a:¬63<P.dv rv:=fM hP h;rw[hn] at a;have g:P.i64 (P.sub 2147483646 (P.dv rv)):=by rw[sub_eq hP,hn];exact eR hP qW
  cbv;refine⟨g,?_⟩;refine ab (λh=>?_) (λh=>?_)
  ·have c:P.sub 2147483646 (P.dv rv)<b:=fJ hP h;rw[sub_eq hP,hn] at c;cbv;exact d _ _ _ (g3 (.inr qW)) (c6.refl _) rfl
  have c:¬P.sub 2147483646 (P.dv rv)<b:=fM hP h;rw[sub_eq hP,hn] at c;cbv;refine j _ _ ?_;cbv;exact d _ _ _ (g4 qW) (c6.refl _) rfl
 ·have q1:P.fC 0 2:=(e 2 qD).1;have q2:P.iO 2 8:=(e 2 qD).2;refine⟨q1,q2,2,p,?_⟩;cbv;refine ab (λh=>?_) (λh=>?_)
  ·have hq:=jP hP h;cbv;exact d _ _ _ (g2 hq) (c6.refl _) rfl
  have hq:=kg hP h
  replace g3:=g3 hq
  replace g4:=g4 hq
  cbv;refine ab (λh=>?_) (λh=>?_)
  ·have a:63<P.dv rv:=fJ hP h;rw[hn] at a;cbv;exact d _ _ _ (g3 (.inl qW)) (c6.refl _) rfl
  have a:¬63<P.dv rv:=fM hP h;rw[hn] at a;have g:P.i64 (P.sub 2147483646 (P.dv rv)):=by rw[sub_eq hP,hn];exact eR hP qW
  cbv;refine⟨g,?_⟩;refine ab (λh=>?_) (λh=>?_)
  ·have c:P.sub 2147483646 (P.dv rv)<b:=fJ hP h;rw[sub_eq hP,hn] at c;cbv;exact d _ _ _ (g3 (.inr qW)) (c6.refl _) rfl
  have c:¬P.sub 2147483646 (P.dv rv)<b:=fM hP h;rw[sub_eq hP,hn] at c;cbv;refine j _ _ ?_;cbv;exact d _ _ _ (g4 qW) (c6.refl _) rfl
 ·have q1:P.fC 0 3:=(e 3 qD).1;have q2:P.iO 3 8:=(e 3 qD).2;refine⟨q1,q2,3,r,?_⟩;cbv;refine ab (λh=>?_) (λh=>?_)
  ·have hq:=jP hP h;cbv;exact d _ _ _ (g2 hq) (c6.refl _) rfl
  have hq:=kg hP h
  replace g3:=g3 hq
  replace g4:=g4 hq
  cbv;refine ab (λh=>?_) (λh=>?_)
  ·have a:63<P.dv rv:=fJ hP h;rw[hn] at a;cbv;exact d _ _ _ (g3 (.inl qW)) (c6.refl _) rfl
  have a:¬63<P.dv rv:=fM hP h;rw[hn] at a;have g:P.i64 (P.sub 2147483646 (P.dv rv)):=by rw[sub_eq hP,hn];exact eR hP qW
  cbv;refine⟨g,?_⟩;refine ab (λh=>?_) (λh=>?_)
  ·have c:P.sub 2147483646 (P.dv rv)<b:=fJ hP h;rw[sub_eq hP,hn] at c;cbv;exact d _ _ _ (g3 (.inr qW)) (c6.refl _) rfl
  have c:¬P.sub 2147483646 (P.dv rv)<b:=fM hP h;rw[sub_eq hP,hn] at c;cbv;refine j _ _ ?_;cbv;exact d _ _ _ (g4 qW) (c6.refl _) rfl
 ·have q1:P.fC 0 4:=(e 4 qD).1;have q2:P.iO 4 8:=(e 4 qD).2;refine⟨q1,q2,4,u,?_⟩;cbv;refine ab (λh=>?_) (λh=>?_)
  ·have hq:=jP hP h;cbv;exact d _ _ _ (g2 hq) (c6.refl _) rfl
  have hq:=kg hP h
  replace g3:=g3 hq
  replace g4:=g4 hq
  cbv;refine ab (λh=>?_) (λh=>?_)
  ·have a:63<P.dv rv:=fJ hP h;rw[hn] at a;cbv;exact d _ _ _ (g3 (.inl qW)) (c6.refl _) rfl
  have a:¬63<P.dv rv:=fM hP h;rw[hn] at a;have g:P.i64 (P.sub 2147483646 (P.dv rv)):=by rw[sub_eq hP,hn];exact eR hP qW
  cbv;refine⟨g,?_⟩;refine ab (λh=>?_) (λh=>?_)
  ·have c:P.sub 2147483646 (P.dv rv)<b:=fJ hP h;rw[sub_eq hP,hn] at c;cbv;exact d _ _ _ (g3 (.inr qW)) (c6.refl _) rfl
  have c:¬P.sub 2147483646 (P.dv rv)<b:=fM hP h;rw[sub_eq hP,hn] at c;cbv;refine j _ _ ?_;cbv;exact d _ _ _ (g4 qW) (c6.refl _) rfl
 ·have q1:P.fC 0 5:=(e 5 qD).1;have q2:P.iO 5 8:=(e 5 qD).2;refine⟨q1,q2,5,v,?_⟩;cbv;refine ab (λh=>?_) (λh=>?_)
  ·have hq:=jP hP h;cbv;exact d _ _ _ (g2 hq) (c6.refl _) rfl
  have hq:=kg hP h
  replace g3:=g3 hq
  replace g4:=g4 hq
  cbv;refine ab (λh=>?_) (λh=>?_)
  ·have a:63<P.dv rv:=fJ hP h;rw[hn] at a;cbv;exact d _ _ _ (g3 (.inl qW)) (c6.refl _) rfl
  have a:¬63<P.dv rv:=fM hP h;rw[hn] at a;have g:P.i64 (P.sub 2147483646 (P.dv rv)):=by rw[sub_eq hP,hn];exact eR hP qW
  cbv;refine⟨g,?_⟩;refine ab (λh=>?_) (λh=>?_)
  ·have c:P.sub 2147483646 (P.dv rv)<b:=fJ hP h;rw[sub_eq hP,hn] at c;cbv;exact d _ _ _ (g3 (.inr qW)) (c6.refl _) rfl
  have c:¬P.sub 2147483646 (P.dv rv)<b:=fM hP h;rw[sub_eq hP,hn] at c;cbv;refine j _ _ ?_;cbv;exact d _ _ _ (g4 qW) (c6.refl _) rfl
 ·have q1:P.fC 0 6:=(e 6 qD).1;have q2:P.iO 6 8:=(e 6 qD).2;refine⟨q1,q2,6,y,?_⟩;cbv;refine ab (λh=>?_) (λh=>?_)
  ·have hq:=jP hP h;cbv;exact d _ _ _ (g2 hq) (c6.refl _) rfl
  have hq:=kg hP h
  replace g3:=g3 hq
  replace g4:=g4 hq
  cbv;refine ab (λh=>?_) (λh=>?_)
  ·have a:63<P.dv rv:=fJ hP h;rw[hn] at a;cbv;exact d _ _ _ (g3 (.inl qW)) (c6.refl _) rfl
  have a:¬63<P.dv rv:=fM hP h;rw[hn] at a;have g:P.i64 (P.sub 2147483646 (P.dv rv)):=by rw[sub_eq hP,hn];exact eR hP qW
  cbv;refine⟨g,?_⟩;refine ab (λh=>?_) (λh=>?_)
  ·have c:P.sub 2147483646 (P.dv rv)<b:=fJ hP h;rw[sub_eq hP,hn] at c;cbv;exact d _ _ _ (g3 (.inr qW)) (c6.refl _) rfl
  have c:¬P.sub 2147483646 (P.dv rv)<b:=fM hP h;rw[sub_eq hP,hn] at c;cbv;refine j _ _ ?_;cbv;exact d _ _ _ (g4 qW) (c6.refl _) rfl
 ·have q1:P.fC 0 7:=(e 7 qD).1;have q2:P.iO 7 8:=(e 7 qD).2;refine⟨q1,q2,7,z,?_⟩;cbv;refine ab (λh=>?_) (λh=>?_)
  ·have hq:=jP hP h;cbv;exact d _ _ _ (g2 hq) (c6.refl _) rfl
  have hq:=kg hP h
  replace g3:=g3 hq
  replace g4:=g4 hq
  cbv;refine ab (λh=>?_) (λh=>?_)
  ·have a:63<P.dv rv:=fJ hP h;rw[hn] at a;cbv;exact d _ _ _ (g3 (.inl qW)) (c6.refl _) rfl
  have a:¬63<P.dv rv:=fM hP h;rw[hn] at a;have g:P.i64 (P.sub 2147483646 (P.dv rv)):=by rw[sub_eq hP,hn];exact eR hP qW
  cbv;refine⟨g,?_⟩;refine ab (λh=>?_) (λh=>?_)
  ·have c:P.sub 2147483646 (P.dv rv)<b:=fJ hP h;rw[sub_eq hP,hn] at c;cbv;exact d _ _ _ (g3 (.inr qW)) (c6.refl _) rfl
  have c:¬P.sub 2147483646 (P.dv rv)<b:=fM hP h;rw[sub_eq hP,hn] at c;cbv;refine j _ _ ?_;cbv;exact d _ _ _ (g4 qW) (c6.refl _) rfl
def TE(gn b:Int)(tx:BS)(fs tb:Nat->Int)(rv:List (List V))(wh:Bool)(gd:Int):V:=.agg [.int .i64 gn,.int .i64 b,.str tx,.int .i64 (fs 0),.int .i64 (fs 1),.int .i64 (fs 2),.int .i64 (fs 3),.int .i64 (fs 4),.int .i64 (fs 5),.int .i64 (fs 6),.int .i64 (fs 7),.int .i64 (fs 8),.int .i64 (fs 9),.int .i64 (fs 10),.int .i64 (fs 11),.int .i64 (fs 12),.int .i64 (fs 13),.int .i64 (fs 14),.int .i64 (fs 15),.int .i64 (tb 0),.int .i64 (tb 1),.int .i64 (tb 2),.int .i64 (tb 3),.int .i64 (tb 4),.int .i64 (tb 5),.int .i64 (tb 6),.int .i64 (tb 7),.int .i64 (tb 8),.int .i64 (tb 9),.int .i64 (tb 10),.int .i64 (tb 11),.int .i64 (tb 12),.int .i64 (tb 13),.int .i64 (tb 14),.int .i64 (tb 15),.sl false 3 rv,.bool wh,.int .i64 gd]
def M3(gn b:Int)(tx:BS)(fs tb:Nat->Int)(rv:List (List V))(wh:Bool)(gd:Int):V:=.agg [.int .i64 gn,.int .i64 b,.str tx,.int .i64 (fs 0),.int .i64 (fs 1),.int .i64 (fs 2),.int .i64 (fs 3),.int .i64 (fs 4),.int .i64 (fs 5),.int .i64 (fs 6),.int .i64 (fs 7),.int .i64 (fs 8),.int .i64 (fs 9),.int .i64 (fs 10),.int .i64 (fs 11),.int .i64 (fs 12),.int .i64 (fs 13),.int .i64 (fs 14),.int .i64 (fs 15),.int .i64 (tb 0),.int .i64 (tb 1),.int .i64 (tb 2),.int .i64 (tb 3),.int .i64 (tb 4),.int .i64 (tb 5),.int .i64 (tb 6),.int .i64 (tb 7),.int .i64 (tb 8),.int .i64 (tb 9),.int .i64 (tb 10),.int .i64 (tb 11),.int .i64 (tb 12),.int .i64 (tb 13),.int .i64 (tb 14),.int .i64 (tb 15),.sl true 3 rv,.bool wh,.int .i64 gd]
def gw(b:Int)(tb:Nat->Int)(n:Nat)(size:Int)(r:eP):Int:=if iL r≠0 then iL r else if r.seq<=tb (2*r.who.toNat) then 10 else if 64<=(n:Int)\/2147483647<=b+n then 11 else kW r.delta size
theorem jg{r:eP}(h:iL r=0):0<=r.who/\r.who<=7/\0<=r.seq/\r.seq<=2147483647/\ed r.delta=0:=by
 unfold iL at h
 split at h
 ·contradiction
 ·omega
theorem IL(gn b:Int)(tx:BS)(fs tb:Nat->Int)(l:List eP)(wh:Bool)(gd size:Int)(r:eP)(hb:0<=b/\b<=2147483647)(hr:fH r.delta):Spec Tryz.prog 81 [TE gn b tx fs tb (l.map ca) wh gd,.int .i64 size,.agg (ca r)] Hp.emp (Is (.int .i64 (gw b tb l.length size r))):=
 ep iD zR [.int .i64 (gw b tb l.length size r)] (.int _ _) λR a=>zS dn rfl _ _ gn b gd r.who r.seq size (iL r) (kW r.delta size) l.length tx fs tb (l.map ca) (r.delta.map bd) wh false (by show((l.map ca).length:Int)=_;simp) hb
  (ia (uz r hr) (λh=>.cons (.same _) .nil) rfl) (λh=>by have:=jg h;omega) (λ_=>zE (vp r.delta hr.1 size) rfl rfl) (gw b tb l.length size r)
  (λh=>by unfold gw;rw[ae h]) (λh h2=>by unfold gw;rw[aa (λg=>g h),ae h2]) (λh h2 h3=>by unfold gw;rw[aa (λg=>g h),aa h2,ae h3]) (λh h2 h3=>by unfold gw;rw[aa (λg=>g h),aa h2,aa h3]) qW
  R λs s' x h he hq=>by subst h;exact a s s' he hq
theorem xd(gn b:Int)(tx:BS)(fs tb:Nat->Int)(l:List eP)(wh:Bool)(gd size:Int)(r:eP)(hb:0<=b/\b<=2147483647)(hr:fH r.delta):Spec Tryz.prog 77 [M3 gn b tx fs tb (l.map ca) wh gd,.int .i64 size,.agg (ca r)] Hp.emp (Is (.int .i64 (gw b tb l.length size r))):=
 ep iD IJ [.int .i64 (gw b tb l.length size r)] (.int _ _) λR a=>IK dn rfl _ _ gn b gd r.who r.seq size (iL r) (kW r.delta size) l.length tx fs tb (l.map ca) (r.delta.map bd) wh true (by show((l.map ca).length:Int)=_;simp) hb
  (ia (B9 r hr) (λh=>.cons (.same _) .nil) rfl) (λh=>by have:=jg h;omega) (λ_=>zE (Dz r.delta hr.1 size) rfl rfl) (gw b tb l.length size r)
  (λh=>by unfold gw;rw[ae h]) (λh h2=>by unfold gw;rw[aa (λg=>g h),ae h2]) (λh h2 h3=>by unfold gw;rw[aa (λg=>g h),aa h2,ae h3]) (λh h2 h3=>by unfold gw;rw[aa (λg=>g h),aa h2,aa h3]) qW
  R λs s' x h he hq=>by subst h;exact a s s' he hq
theorem Fy(gn b:Int)(tx:BS)(fs tb:Nat->Int)(l:List eP)(wh:Bool)(gd size:Int)(r:eP)(hb:0<=b/\b<=2147483647)(hr:fH r.delta):Spec Tryz.prog 81 [M3 gn b tx fs tb (l.map ca) wh gd,.int .i64 size,.agg (ca r)] Hp.emp (Is (.int .i64 (gw b tb l.length size r))):=
 ep iD zR [.int .i64 (gw b tb l.length size r)] (.int _ _) λR a=>zS dn rfl _ _ gn b gd r.who r.seq size (iL r) (kW r.delta size) l.length tx fs tb (l.map ca) (r.delta.map bd) wh true (by show((l.map ca).length:Int)=_;simp) hb
  (ia (uz r hr) (λh=>.cons (.same _) .nil) rfl) (λh=>by have:=jg h;omega) (λ_=>zE (vp r.delta hr.1 size) rfl rfl) (gw b tb l.length size r)
  (λh=>by unfold gw;rw[ae h]) (λh h2=>by unfold gw;rw[aa (λg=>g h),ae h2]) (λh h2 h3=>by unfold gw;rw[aa (λg=>g h),aa h2,ae h3]) (λh h2 h3=>by unfold gw;rw[aa (λg=>g h),aa h2,aa h3]) qW
  R λs s' x h he hq=>by subst h;exact a s s' he hq
def kC(f:Nat->Int):V:=.agg [.int .i64 (f 0),.int .i64 (f 1),.int .i64 (f 2),.int .i64 (f 3),.int .i64 (f 4),.int .i64 (f 5),.int .i64 (f 6),.int .i64 (f 7),.int .i64 (f 8),.int .i64 (f 9),.int .i64 (f 10),.int .i64 (f 11),.int .i64 (f 12),.int .i64 (f 13),.int .i64 (f 14),.int .i64 (f 15)]
def M4(k:Nat)(b:Option Nat)(sz n:Nat)(rows:List (List V))(v v':V):Prop:=v'=v\/(v=.own k b sz n/\v'=.sl false sz rows)
theorem M4.rel{C:Ctx}{F:Nat->Prop}{h:Hp}{w:World}(hs:gN C F h w){k sz n:Nat}{b:Option Nat}{o:Ob}(hk:h k=some o)(hb:o.b=b)(hsz:o.sz=sz)(hn:o.rows.length=n)(hz:∀r∈o.rows,∀v∈r,Fz v)
  {v v':V}(hv:M4 k b sz n o.rows v v'){u:Value}(hr:Rel F C.B w v u):Rel (λx=>F x\/o.b=some x) C.B w v' u:=by
 rcases hv with rfl|⟨rfl,rfl⟩
 ·exact hr.mono (λ_ h=>.inl h) (λ_ h=>.inr h)
 ·cases hr with
  |ownnil=>
   have:o.rows=[]:=ay hn;rw[this];exact .slnil _ _
  |own _ b' _ n' cap c e fr a p hm l=>
   have ho:=hs.ob k o hk;unfold fU at ho;rw[hb] at ho;obtain⟨c',m,d,h1,h2,h3,h4,h5⟩:=ho;rw[a] at d;cases d;subst hn;have hw:∀r∈o.rows,r.length=sz:=λr hr=>by rw[<-hsz];exact h4 r hr
   refine .sl false sz o.rows b' 0 cap (λi j=>(c[i*sz+j]?).getD undef) (.inl (.inr hb)) l hw (λi j r v hi hj=>?_) (λi j r v hi hj=>?_)
   ·obtain⟨u,hu,f,g⟩:=h5 i j r v hi hj;rw[hsz] at hu;rw[hu,cell_of_row w b' _ c o.ty (0,0) a];have:i*sz+j<c.size:=(aG.1 hu).1;refine⟨?_,f⟩;rw[bf];exact hu
   ·obtain⟨u,hu,f,g⟩:=h5 i j r v hi hj;rw[hsz] at hu;rw[hu];exact g.mono (λ_ h=>.inl h) (λ_ h=>.inr h)
theorem c6.freeze{s s':S}{k sz n:Nat}{b:Option Nat}{o:Ob}(hk:s.h k=some o)(hb:o.b=b)(hsz:o.sz=sz)(hn:o.rows.length=n)(hz:∀r∈o.rows,∀v∈r,Fz v)
  (ht:∀i,M4 k b sz n o.rows (s.t i) (s'.t i))
  (y:∀j e,s'.h j=some e->j≠k/\∃q,s.h j=some q/\e.b=q.b/\e.ty=q.ty/\e.sz=q.sz/\e.rows.length=q.rows.length/\
   ∀(i:Nat)(r r':List V),q.rows[i]? =some r->e.rows[i]? =some r'->r'.length=r.length/\∀(l:Nat)(v v':V),r[l]? =some v->r'[l]? =some v'->M4 k b sz n o.rows v v'):c6 s s':=by
 intro C L a w M hs0;obtain⟨F,hs,h2⟩:=hs0.ex;refine⟨⟨λx=>F x\/o.b=some x,⟨λj e hj=>?_,λj G q e b1 hj z hb1 hb2=>?_,λj e b1 hj hb1=>?_,λb1 hb1=>?_,λb1 hb1=>.inl (hs.new b1 hb1),λb1 hb1=>?_,hs.ev⟩,λi=>?_⟩,hs0.df,hs0.sz⟩
 ·obtain⟨_,q,hq,e1,A,B,H,I⟩:=y j e hj;have d:=hs.ob j q hq;unfold fU at d⊢;rw[e1];cases p:q.b with
  |none=>
   rw[p] at d;simp only at d⊢;rw[d] at H;exact ay H
  |some b1=>
   rw[p] at d;obtain⟨c,cap,g1,g2,g3,g4,g5,g6⟩:=d;refine⟨c,cap,by rw[A];exact g1,by rw[B];exact g2,g3,qW,λr' D=>?_,λi l r' v' hi hl=>?_⟩
   ·obtain⟨i,hi⟩:=dO.1 D;have E:=(aj.1 hi).1;have f:q.rows[i]? =some (q.rows[i]'qW):=af qW;rw[B,(I i _ r' f hi).1];exact g5 _ (ax f)
   ·have E:=(aj.1 hi).1;have f:q.rows[i]? =some (q.rows[i]'qW):=af qW;obtain⟨f1,f2⟩:=I i _ r' f hi;have J:=(aj.1 hl).1;have jW:(q.rows[i]'qW)[l]? =some ((q.rows[i]'qW)[l]'qW):=af qW;obtain⟨u,k1,k2,K⟩:=g6 i l _ _ f jW;rw[B];exact⟨u,k1,k2,M4.rel hs hk hb hsz hn hz (f2 l _ v' jW hl) K⟩
 ·obtain⟨_,q1,m,e1,_⟩:=y j q hj;obtain⟨_,q2,d,A,_⟩:=y G e z;exact hs.inj j G q1 q2 b1 m d (by rw[<-e1];exact hb1) (by rw[<-A];exact hb2)
 ·obtain⟨hne,q1,m,e1,_⟩:=y j e hj;obtain⟨g1,g2⟩:=hs.live j q1 b1 m (by rw[<-e1];exact hb1);refine⟨?_,g2⟩;rintro(g|g)
  ·exact g1 g
  ·exact hne (hs.inj j k q1 o b1 m hk (by rw[<-e1];exact hb1) g)
 ·rcases hb1 with g|g
  ·exact hs.gH b1 g
  ·exact .inr (hs.live k o b1 hk g).2
 ·rcases hb1 with g|g
  ·exact hs.lt b1 g
  ·exact(hs.ob k o hk).lt g
 ·exact M4.rel hs hk hb hsz hn hz (ht i) (h2 i)
theorem jU.freeze{h h':Hp}{k sz n:Nat}{b:Option Nat}{o:Ob}(hk:h k=some o)(hb:o.b=b)(hsz:o.sz=sz)(hn:o.rows.length=n)(hz:∀r∈o.rows,∀v∈r,Fz v)
  (p:∀j d,h' j=some d->j≠k/\∃q,h j=some q/\d.b=q.b/\d.ty=q.ty/\d.sz=q.sz/\d.rows.length=q.rows.length/\
   ∀(i:Nat)(r r':List V),q.rows[i]? =some r->d.rows[i]? =some r'->r'.length=r.length/\∀(l:Nat)(v v':V),r[l]? =some v->r'[l]? =some v'->M4 k b sz n o.rows v v'):jU h h':=by
 intro C F w I hs;refine⟨λx=>F x\/o.b=some x,λ_ h=>.inl h,⟨λj d hj=>?_,λj B q d b1 hj s hb1 hb2=>?_,λj d b1 hj hb1=>?_,λb1 hb1=>?_,λb1 hb1=>.inl (hs.new b1 hb1),λb1 hb1=>?_,hs.ev⟩⟩
 ·obtain⟨_,q,hq,e1,t,y,D,E⟩:=p j d hj;have a:=hs.ob j q hq;unfold fU at a⊢;rw[e1];cases m:q.b with
  |none=>
   rw[m] at a;simp only at a⊢;rw[a] at D;exact ay D
  |some b1=>
   rw[m] at a;obtain⟨c,cap,g1,g2,g3,g4,g5,g6⟩:=a;refine⟨c,cap,by rw[t];exact g1,by rw[y];exact g2,g3,qW,λr' z=>?_,λi l r' v' hi hl=>?_⟩
   ·obtain⟨i,hi⟩:=dO.1 z;have A:=(aj.1 hi).1;have e:q.rows[i]? =some (q.rows[i]'qW):=af qW;rw[y,(E i _ r' e hi).1];exact g5 _ (ax e)
   ·have A:=(aj.1 hi).1;have e:q.rows[i]? =some (q.rows[i]'qW):=af qW;obtain⟨f1,f2⟩:=E i _ r' e hi;have G:=(aj.1 hl).1;have jW:(q.rows[i]'qW)[l]? =some ((q.rows[i]'qW)[l]'qW):=af qW;obtain⟨u,k1,k2,H⟩:=g6 i l _ _ e jW;rw[y];exact⟨u,k1,k2,M4.rel hs hk hb hsz hn hz (f2 l _ v' jW hl) H⟩
 ·obtain⟨_,q1,f,e1,_⟩:=p j q hj;obtain⟨_,q2,a,t,_⟩:=p B d s;exact hs.inj j B q1 q2 b1 f a (by rw[<-e1];exact hb1) (by rw[<-t];exact hb2)
 ·obtain⟨hne,q1,f,e1,_⟩:=p j d hj;obtain⟨g1,g2⟩:=hs.live j q1 b1 f (by rw[<-e1];exact hb1);refine⟨?_,g2⟩;rintro(g|g)
  ·exact g1 g
  ·exact hne (hs.inj j k q1 o b1 f hk (by rw[<-e1];exact hb1) g)
 ·rcases hb1 with g|g
  ·exact hs.gH b1 g
  ·exact .inr (hs.live k o b1 hk g).2
 ·rcases hb1 with g|g
  ·exact hs.lt b1 g
  ·exact(hs.ob k o hk).lt g
theorem jU.FA{h:Hp}{k q sz n c:Nat}{b:Option Nat}{o O:Ob}{row:List V}(hk:h k=some o)(hq:h q=some O)(e:O.rows=[row])(hc:row[c]? =some (.own k b sz n))(hb:o.b=b)(hsz:o.sz=sz)(hn:o.rows.length=n)(hz:∀r∈o.rows,∀v∈r,Fz v):
  jU h (Hp.del (Hp.put h q ⟨O.b,O.ty,O.sz,[row.set c (.sl false sz o.rows)]⟩) k):=by
 refine jU.freeze hk hb hsz hn hz (λj g hj=>?_);simp only[Hp.del] at hj
 by_cases h1:j=k
 ·rw[ae h1] at hj;cases hj
 ·rw[aa h1] at hj;refine⟨h1,?_⟩;simp only[Hp.put] at hj
  by_cases h2:j=q
  ·rw[ae h2] at hj;cases hj;refine⟨O,by rw[h2];exact hq,rfl,rfl,rfl,by rw[e];simp,λi r r' e1 f=>?_⟩;rw[e] at e1;cases i with
   |zero=>
    simp only[bT,aH] at e1 f;subst e1 f;refine⟨by simp,λl v v' d a=>?_⟩;rw[cX] at a
    by_cases hl:c=l
    ·subst hl;rw[ae rfl] at a;rw[hc] at d;cases d
     split at a
     ·cases a;exact .inr ⟨rfl,rfl⟩
     ·cases a
    ·rw[aa hl,d] at a;cases a;exact .inl rfl
   |succ i=>simp at e1
  ·rw[aa h2] at hj;exact⟨g,hj,rfl,rfl,rfl,rfl,λi r r' h1 h2=>by rw[h1] at h2;cases h2;exact⟨rfl,λl v v' h3 h4=>by rw[h3] at h4;cases h4;exact .inl rfl⟩⟩
end Go.Proofs.YtobngncjflogcaaGreat.AM
