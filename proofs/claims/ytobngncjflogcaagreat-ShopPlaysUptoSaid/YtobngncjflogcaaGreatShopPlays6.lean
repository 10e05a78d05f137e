/-
  Part 6 of what the law ShopPlays reaches: the plain machine, contracts of the functions and plain laws; each lemma says its own condition.
-/
import Derived.Test.YtobngncjflogcaaGreatShopPlays4
import Derived.Test.YtobngncjflogcaaGreatShopPlays5
import Derived.Shelf.Strings.Builder1
import Derived.Test.YtobngncjflogcaaGreatProg
import Derived.WalkKit
import Derived.WalkSpells
import Derived.WalkLawsBesides
import Derived.Lib.AppendStr
import Derived.BigQuiet
import Derived.Lib.Hide
set_option linter.unusedVariables false
set_option linter.unusedSimpArgs false
namespace Go.Proofs.YtobngncjflogcaaGreat.AM
open Go
set_option maxRecDepth 100000
set_option maxHeartbeats 2000000
def lk(pre:List Part):Int:=match pre.getLast? with
 |some p=>p.kind
 |none=>0
theorem Ie(pre:List Part)(p:Part):lk (pre++[p])=p.kind:=by simp[lk]
theorem zB(pre:List Part)(p:Part)(rest:List Part)(h:¬(pre≠[]/\(lk pre=p.kind\/lk pre=3/\p.kind=2)))(hf:nF p=0):qX (lk pre) (p::rest)=qX (lk (pre++[p])) rest:=by
 rw[Ie,qX]
 by_cases hp:pre=[]
 ·subst hp;have:lk []=0:=rfl;rw[this];unfold nF at hf
  grind [nF]
 ·grind
def wW:AC:=qr [qz 2 0] (qq (qr [qm 6 0,qo 7 (.len false (.t 6)),qc 8 .gtr 7 1600] (qu 8 (qr [qz 2 2] .ret) .skip)) (qq (qr [qm 9 0,qo 10 (.len false (.t 9)),qz 11 0] (.block 0 (.loop (qr [qb 12 .lss 11 10] (qq (qu 12 .skip (.exit 0)) (qq (.block 1 (qr [qm 13 11,qo 14 (.iaddr 3 (.t 9) (.t 11)),qd 15 3 14,qo 4 (.alloc 115 uk),qm 3 13,qs 3 4 15] (qq (qq (.region true [qm 16 3,qc 17 .gtr 16 0,qm 18 17,qg 19 18 true (.mov (.t 0)),qg 20 18 true (.mov (.t 3)),qg 21 18 true (.bin .sub (.t 20) (qk 1)),qg 22 18 true (.iaddr 3 (.t 19) (.t 21)),qg 23 18 true (.faddr 0 (.t 22)),qg 24 18 true (.load1 (.t 23)),qg 25 18 true (.faddr 0 (.t 4)),qg 26 18 true (.load1 (.t 25)),qg 27 18 true (.bin .eql (.t 24) (.t 26)),qg 28 18 true (.mov (.t 27)),qg 29 28 false (.mov (.t 0)),qg 30 28 false (.mov (.t 3)),qg 31 28 false (.bin .sub (.t 30) (qk 1)),qg 32 28 false (.iaddr 3 (.t 29) (.t 31)),qg 33 28 false (.faddr 0 (.t 32)),qg 34 28 false (.load1 (.t 33)),qg 35 28 false (.bin .eql (.t 34) (qk 3)),qg 36 28 false (.mov (.t 35)),qg 37 36 true (.faddr 0 (.t 4)),qg 38 36 true (.load1 (.t 37)),qg 39 36 true (.bin .eql (.t 38) (qk 2)),qg 40 28 false (.pick (.t 36) (.t 39) (.c (.bool false))),qg 41 18 true (.pick (.t 28) (.c (.bool true)) (.t 40)),qo 42 (.pick (.t 18) (.t 41) (.c (.bool false)))]) (qu 42 (qr [qz 2 3] .ret) .skip)) (qr [qd 43 3 4,qa 44 129 [.t 43],qm 5 44] (qr [qm 45 5,qc 46 .neq 45 0] (qu 46 (qr [qm 47 5,qm 2 47] .ret) .skip)))))) (qR [qc 48 .add 11 1,qm 11 48]))))))) (qq (qr [qm 49 0,qa 50 90 [.t 49],qc 51 .gtr 50 500,qm 52 51,qg 53 52 false (.mov (.t 0)),qg 54 52 false (.call 130 [.t 53]),qg 55 52 false (.bin .gtr (.t 54) (qk 500)),qo 56 (.pick (.t 52) (.c (.bool true)) (.t 55))] (qu 56 (qr [qz 2 2] .ret) .skip)) (qr [qz 2 0] .ret))))
theorem Fq:fF Tryz.prog 89 Tryz.f89 wW [.t 2] 1 er:=⟨Tryz.func89,by decide+kernel,by kernel_rfl,by kernel_rfl,by decide+kernel⟩
theorem Fs(P:Prim)(hP:P=dn)(T D:c8)(d:List Part)(E:d.length<=maxLen)(rows:List (List V))(ds:rows=d.map bd)(r:Int)(hr:ed d=r)
  (z:Int->Int->BS->Int)(j:∀k n t,z k n t=nF ⟨k,n,t⟩)(hc1:∀{k n t},gK T 129 [.agg [qI k,qI n,.str t]] (qI (z k n t)))
  (a b:Int)(ha:a=kU d)(hb:b=iV d)(c:d.length<=1600->qX 0 d=0->gK T 90 [.sl true 3 rows] (qI a))(e:d.length<=1600->qX 0 d=0->gK T 130 [.sl true 3 rows] (qI b))
  (R:S->Prop)(g:∀s s',c6 s s'->iH [.t 2] [qI r] s'->R s):gj P T D wW (S0 [.sl true 3 rows] Hp.emp) R (λ_ _=>False) R:=by
 cbv;have hl:P.dv rows=d.length:=by subst hP;simp[dn,ds]
 refine ab (λh=>?_) (λh=>?_)
 ·cbv;refine g _ _ (c6.refl _) ?_;cbv;clear g hc1 c e;subst hP;subst hr;simp[dn,nc] at*;grind [ed]
 cbv;have m:d.length<=1600:=by clear g hc1 c e;subst hP;simp[dn,nc] at*;omega
 refine⟨{y:Int×List Part×List Part//d=y.2.1++y.2.2/\y.1=y.2.1.length/\qX 0 d=qX (lk y.2.1) y.2.2},λy=>[(0,.sl true 3 rows),(9,.sl true 3 rows),(10,qI (P.dv rows)),(11,qI y.1.1)],λ_=>[],λy=>y.1.2.2.length,
  ⟨_,c6.refl _,⟨(0,[],d),rfl,rfl,rfl⟩,?_,?_⟩,?_⟩
 ·cbv
 ·cbv
 rintro⟨⟨k,pre,rest⟩,hd,hk,hc⟩
 dsimp only at hd hk hc
 cbv;have u:P.dv rows=pre.length+rest.length:=by subst hP;simp[dn,ds,hd]
 refine ab (λh=>?_) (λh=>?_)
 ·rcases rest with _|⟨⟨kd,n,t⟩,rest⟩
  ·clear hc1 c e;(exfalso;clear g;subst hP;simp[dn,nc] at*;first|omega|grind)
  cbv;have i:=pA ds hd hk P hP;have hpl:pre.length<=1600:=by rw[hd] at m;simp at m;omega
  refine⟨by clear hc1 c e;(clear g;subst hP;simp[dn,jx,nc] at* <;>first|omega|grind),_,i,?_⟩
  cbv;intro β;cbv;have hx:=j kd n t
  rcases dL pre with f|⟨A,⟨qk,qn,F⟩,f⟩
  ·refine ab (λh=>?_) (λh=>?_)
   ·exfalso;clear g hc1 c e;subst f;subst hP;simp[dn] at*;omega
   repeat'(first|(intro β;cbv)|(refine And.intro (by assumption) ?_;cbv)|(refine ab (λh=>?_) (λh=>?_)<;>try cbv)|(refine Exists.intro _ (And.intro (by assumption) ?_);cbv)|(refine hc1 _ _ ?_;cbv)|(refine c _ _ ?_;cbv)|(refine e _ _ ?_;cbv)|(refine o _ _ ?_;cbv)|(refine q _ _ ?_;cbv)|(refine v _ _ ?_;cbv)|(refine And.intro (by(clear g;subst hP;simp[dn,jx,nc] at* <;>first|omega|grind)) ?_;cbv))
   all_goals first
    |(refine g _ _ (c6.refl _) ?_
      cbv;clear g hc1 c e i j;subst hP;subst hr;subst f;simp[dn,nc,lk] at*;grind [ed,qX,nF])
    |(refine⟨_,c6.refl _,⟨(_,pre++[⟨kd,n,t⟩],rest),?_⟩,⟨rfl,rfl,rfl,rfl,trivial⟩,trivial,by simp⟩
      clear g i hc1 c e j;subst hP;refine⟨by simp[hd],by simp[dn,hk],?_⟩;rw[hc];exact zB _ _ _ (λh=>h.1 f) (by simp[dn] at*;omega))
  ·have l:P.row rows (P.nat (P.sub k 1)) (bd ⟨qk,qn,F⟩):=by
    subst hP;simp[dn,ds,hd,hk,f]
   have x:lk pre=qk:=by rw[f,dM,Ie]
   have G:0<pre.length:=by rw[f];simp
   have hk2:(k:Int)=(pre.length:Int):=hk;have B:(1:Int)<=k:=by rw[hk2];omega
   have C:k<=1600:=by rw[hk2];omega
   have H:P.i64 (P.sub k 1):=by clear g hc1 c e hl u hk hk2 h;subst hP;show jx (k-1);unfold jx;omega
   have I:P.fC 0 (P.sub k 1):=by clear g hc1 c e hl u hk hk2 h;subst hP;show 0<=k-1;omega
   refine ab (λh=>?_) (λh=>?_)
   rotate_left
   ·exfalso;clear g hc1 c e;subst hP;simp[dn] at*;omega
   repeat'(first|(intro β;cbv)|(refine And.intro (by assumption) ?_;cbv)|(refine ab (λh=>?_) (λh=>?_)<;>try cbv)|(refine Exists.intro _ (And.intro (by assumption) ?_);cbv)|(refine hc1 _ _ ?_;cbv)|(refine c _ _ ?_;cbv)|(refine e _ _ ?_;cbv)|(refine o _ _ ?_;cbv)|(refine q _ _ ?_;cbv)|(refine v _ _ ?_;cbv)|(refine And.intro (by(clear g;subst hP;simp[dn,jx,nc] at* <;>first|omega|grind)) ?_;cbv))
   all_goals first
    |(refine g _ _ (c6.refl _) ?_
      cbv;clear g hc1 c e i l j;subst hP;subst hr;simp[dn,nc] at*;grind [ed,qX,nF])
    |(refine⟨_,c6.refl _,⟨(_,pre++[⟨kd,n,t⟩],rest),?_⟩,⟨rfl,rfl,rfl,rfl,trivial⟩,trivial,by simp⟩
      clear g i l hc1 c e j;subst hP;refine⟨by simp[hd],by simp[dn,hk],?_⟩;rw[hc];refine zB _ _ _ ?_ (by simp[dn] at*;omega);simp[dn,x] at*
      grind)
 ·have:rest=[]:=by
   cases rest with
   |nil=>rfl
   |cons p rest=>clear hc1 c e;(exfalso;clear g;subst hP;simp[dn,nc] at*;first|omega|grind)
  subst this;have w:qX 0 d=0:=hc;have o:=c m w;have q:=e m w;clear c e;cbv
  repeat'(first|(intro β;cbv)|(refine And.intro (by assumption) ?_;cbv)|(refine ab (λh=>?_) (λh=>?_)<;>try cbv)|(refine Exists.intro _ (And.intro (by assumption) ?_);cbv)|(refine hc1 _ _ ?_;cbv)|(refine c _ _ ?_;cbv)|(refine e _ _ ?_;cbv)|(refine o _ _ ?_;cbv)|(refine q _ _ ?_;cbv)|(refine v _ _ ?_;cbv)|(refine And.intro (by(clear g;subst hP;simp[dn,jx,nc] at* <;>first|omega|grind)) ?_;cbv))
  all_goals
   refine g _ _ (c6.refl _) ?_;cbv;clear g hc1 o q;subst hP;subst hr;simp[dn,nc] at*;grind [ed]
theorem jZ(d:List Part)(a:d.length<=maxLen):Spec Tryz.prog 89 [.sl true 3 (d.map bd)] Hp.emp (Is (.int .i64 (ed d))):=
 ep iD Fq [.int .i64 (ed d)] (.int _ _) λR b=>Fs dn rfl _ _ d a _ rfl _ rfl (λk n t=>nF ⟨k,n,t⟩) (λ_ _ _=>rfl) (ia (Hl ⟨_,_,_⟩) (λh=>.cons (.same _) .nil) rfl) _ _ rfl rfl
  (λh1 h2=>ia (rA d h1 (rz 0 d h2)) (λh=>.cons (.same _) .nil) rfl) (λh1 h2=>ia (Mu d h1 (rz 0 d h2)) (λh=>.cons (.same _) .nil) rfl) R b
theorem oW{f:Nat}{d:List Part}{v:V}(h:Spec Tryz.prog f [.sl true 3 (d.map bd)] Hp.emp (Is v))(hv:v.gM (gD [])=v):gK (fm Tryz.prog) f [gh d] v:=ia h (λ_=>.cons (.mY _ _) .nil) hv
def MK(T:c8)(f:Nat)(args:List V)(pre:Mk->Prop)(g:Mk->Mk)(r:Nat->Option Nat->Nat->V):Prop:=
 ∀(k ka b:Nat)(ba:Option Nat)(n:Nat)(put:BS)(cut:Int)(rows:List (List V))(m:Mk)(h:Hp)(K:V->Hp->Prop),n=m.out.length/\rows=m.out.map bd/\put=m.put/\cut=m.cut->pre m->Nat.beq k ka=false->
  h k=some ⟨some b,182,3,[[.own ka ba 3 n,.str put,qI cut]]⟩->h ka=some ⟨ba,115,3,rows⟩->
  (∀(e:Option Nat)(n':Nat)(c:BS)(d:Int)(a:List (List V)),n'=(g m).out.length/\a=(g m).out.map bd/\c=(g m).put/\d=(g m).cut->
   K (r ka e n') (Hp.put (Hp.put h k ⟨some b,182,3,[[.own ka e 3 n',.str c,qI d]]⟩) ka ⟨e,115,3,a⟩))->T f (.ptr k (some b) 3 0 0::args) h K
theorem x6{f:Nat}{args:List V}{pre:Mk->Prop}{g:Mk->Mk}{r0:Mk->Option Nat->V}{r:Nat->Option Nat->Nat->V}(hs:∀m,pre m->nf f args m (g m) (r0 m))(ha:args.all V.pl=true)(hr:∀m k ka ba,(r0 m ba).gM (gD [(0,k),(1000000,ka)])=r ka ba (g m).out.length):MK (fm Tryz.prog) f args pre g r:=by
 rintro k ka b ba n put cut rows m h K ⟨rfl,rfl,rfl,rfl⟩ hp hne hk c hK;have a:k≠ka:=by intro e;subst e;rw[bO] at hne;cases hne
 exact Po (hs m hp) ha a hk c λd=>by rw[hr];exact hK d _ _ _ _ ⟨rfl,rfl,rfl,rfl⟩
def wX:Nat->Option Nat->Nat->V:=λ_ _ _=>.tup []
def Ig:Nat->Option Nat->Nat->V:=λka ba n=>.own ka ba 3 n
theorem Tv(k:Int)(hk:0<=k/\k<=1000000):MK (fm Tryz.prog) 126 [.int .i64 k] (λm=>∃j w,m.Bd j w/\j<=2000000) (λm=>m.gv k) wX:=
 x6 (λm⟨j,w,hb,hj⟩=>H0 m k (by have:=hb.flush.1;omega) (λp hp=>by have:=hb.flush.2 p hp;unfold jx;omega) (by have:=hb.len;omega)) rfl (λ_ _ _ _=>rfl)
theorem VW(s:BS)(hs:s.length<=1000000000):MK (fm Tryz.prog) 125 [.str s] (λm=>m.put.length+s.length<=1000000000) (λm=>m.iK s) wX:=
 x6 (λm h=>MC m s qW) rfl (λ_ _ _ _=>rfl)
theorem VX(k:Int)(hk:0<=k/\k<=1000000):MK (fm Tryz.prog) 127 [.int .i64 k] (λm=>∃j w,m.Bd j w/\j<=2000000) (λm=>m.jE k) wX:=
 x6 (λm⟨j,w,hb,hj⟩=>MF m k (by have:=hb.cut;unfold jx;omega)) rfl (λ_ _ _ _=>rfl)
theorem Tw:MK (fm Tryz.prog) 128 [] (λm=>m.out.length<=100000000) (λm=>⟨m.flush,[],0⟩) Ig:=
 x6 (r0:=λm a=>.own 1000000 a 3 m.flush.length) (λm h=>H5 m h) rfl (λm k ka ba=>by simp[V.gM,V.rl,gD,Ig])
def qZ(rv:List RV)(sz:Nat)(a:List (List V))(c:List V)(R:S->Prop):Prop:=
 (∀(s s':S),c6 s s'->iH rv (.nilsl::c) s'->a=[]->R s)/\
 (∀(s s':S)(k:Nat)(b:Option Nat)(ty n:Nat)(rows:List (List V)),c6 s s'->iH rv (.own k b sz n::c) s'->s'.h k=some ⟨b,ty,sz,rows⟩->n=a.length/\rows=a->R s)/\
 (∀(s s':S)(rows:List (List V)),c6 s s'->iH rv (.sl false sz rows::c) s'->rows=a->R s)
theorem QD{h:Hp}:∀{l:List V},(∀v∈l,Fz v)->Fr h (.tup l) (.tup l):=λhz=>.same _ (.tup _ hz)
theorem B3{h:Hp}{v v':V}{b:List V}(h1:Fr h v v')(hz:∀v∈b,Fz v):Fr h (l4 (v::b)) (l4 (v'::b)):=by
 cases b with
 |nil=>exact h1
 |cons a b=>exact .jV h1 (QD hz)
theorem ng{rv:List RV}{sz:Nat}{a:List (List V)}{d:List V}{R:S->Prop}(hsz:∀r∈a,r.length=sz)(hz:∀r∈a,∀v∈r,Fz v)(c:∀v∈d,Fz v)(e:∀s s',c6 s s'->Fk rv (l4 (.sl false sz a::d)) s'->R s):qZ rv sz a d R:=by
 refine⟨?_,?_,?_⟩
 ·rintro s s' he hr rfl;exact e s s' he (eM _ _ _ (λx hx=>by subst hx;exact B3 (.nilsl sz) c) hr)
 ·rintro s s' k b ty n rows he hr h1 ⟨rfl,rfl⟩;exact e s s' he (eM _ _ _ (λx hx=>by subst hx;exact B3 (.rows h1 rfl rfl rfl hsz hz) c) hr)
 ·rintro s s' rows he hr rfl;exact e s s' he (eM _ _ _ (λx hx=>by subst hx;exact B3 (.same _ (.sl _ _ hz)) c) hr)
theorem rY(d:List Part):∀r∈d.map bd,r.length=3:=by
 intro r hr;obtain⟨p,_,rfl⟩:=aC.1 hr;rfl
theorem vo(e:Int):∀v∈[V.int .i64 e],Fz v:=by intro v hv;simp at hv;subst hv;exact .int _ _
instance:DecidableEq Part:=λa b=>by
 cases a with
 |mk k n t=>cases b with
  |mk k' n' c=>exact decidable_of_iff (k=k'/\n=n'/\t=c) (by simp)
def Ih:AC:=qr [qo 4 (.mov (.c (.bool false)))] (qq (qr [qm 6 0,qo 7 (.len false (.t 6)),qm 8 1,qo 9 (.len false (.t 8)),qb 10 .neq 7 9] (qu 10 (qr [qo 4 (.mov (.c (.bool false)))] .ret) .skip)) (qq (qr [qm 11 0,qo 12 (.len false (.t 11)),qz 13 0] (.block 0 (.loop (qr [qb 14 .lss 13 12] (qq (qu 14 .skip (.exit 0)) (qq (.block 1 (qr [qm 15 13,qm 5 15] (qq (.region true [qm 16 0,qm 17 5,qo 18 (.iaddr 3 (.t 16) (.t 17)),qd 19 3 18,qm 20 1,qm 21 5,qo 22 (.iaddr 3 (.t 20) (.t 21)),qd 23 3 22,qo 24 (.eqs true [1,1,2] (.t 19) (.t 23))]) (qu 24 (qr [qo 4 (.mov (.c (.bool false)))] .ret) .skip)))) (qR [qc 25 .add 13 1,qm 13 25]))))))) (qr [qo 4 (.mov (.c (.bool true)))] .ret)))
theorem QE:fF Tryz.prog 107 Tryz.f107 Ih [.t 4] 2 er:=⟨Tryz.func107,by decide+kernel,by kernel_rfl,by kernel_rfl,by decide+kernel⟩
theorem QF(P:Prim)(hP:P=dn)(T m:c8)(a b:List Part)(o:a.length<=maxLen)(ra rb:List (List V))(v8:ra=a.map bd)(Bl:rb=b.map bd)(r:Bool)(hr:decide (a=b)=r)
  (R:S->Prop)(f:∀s s',c6 s s'->iH [.t 4] [.bool r] s'->R s):gj P T m Ih (S0 [.sl true 3 ra,.sl true 3 rb] Hp.emp) R (λ_ _=>False) R:=by
 have h1:P.dv ra=a.length:=by subst hP;simp[dn,v8]
 have h2:P.dv rb=b.length:=by subst hP;simp[dn,Bl]
 have hm:maxLen=9223372036854775807:=by decide
 cbv;refine ab (λh=>?_) (λh=>?_)
 ·cbv;refine f _ _ (c6.refl _) ?_;cbv;clear f;subst hP;have:a.length≠b.length:=by simp[dn,nc] at h h1 h2;omega
  have:r=false:=by rw[<-hr,eW];intro e;subst e;exact this rfl
  rw[this]
 have p:a.length=b.length:=by clear f;subst hP;simp[dn,nc] at h h1 h2;omega
 cbv;refine⟨{y:Int×List Part×List Part×List Part×List Part//a=y.2.1++y.2.2.1/\b=y.2.2.2.1++y.2.2.2.2/\y.1=y.2.1.length/\y.2.1=y.2.2.2.1},λy=>[(0,.sl true 3 ra),(1,.sl true 3 rb),(12,qI (P.dv ra)),(13,qI y.1.1)],λ_=>[],λy=>y.1.2.2.1.length,
  ⟨_,c6.refl _,⟨(0,[],a,[],b),rfl,rfl,rfl,rfl⟩,⟨rfl,rfl,rfl,rfl,trivial⟩,trivial⟩,?_⟩
 rintro⟨⟨k,p1,r1,p2,r2⟩,ha,hb,hk,hp⟩
 dsimp only at ha hb hk hp
 subst hp;have g:a.length=p1.length+r1.length:=by rw[ha];simp
 have j:b.length=p1.length+r2.length:=by rw[hb];simp
 cbv;refine ab (λh=>?_) (λh=>?_)
 ·rcases r1 with _|⟨⟨kd,n,t⟩,r1⟩
  ·exfalso;clear f;subst hP;simp[dn,nc] at h h1 hk g;omega
  rcases r2 with _|⟨⟨l,n',q⟩,r2⟩
  ·exfalso;simp at j g;omega
  have d:=pA v8 ha hk P hP;have c:=pA Bl hb hk P hP;have ho:P.fC 0 k:=by clear f;subst hP;simp[dn,nc] at*;omega
  have i:P.i64 (P.add k 1):=by clear f d c;subst hP;simp[dn,jx,nc] at*;omega
  cbv;refine⟨ho,_,d,?_⟩;cbv;refine⟨ho,_,c,?_⟩;cbv;refine ab (λh=>?_) (λh=>?_)
  ·cbv;refine⟨i,_,c6.refl _,⟨(_,p1++[⟨kd,n,t⟩],r1,p1++[⟨l,n',q⟩],r2),?_⟩,⟨rfl,rfl,rfl,rfl,trivial⟩,trivial,by simp⟩;clear f ho i d c;subst hP;simp[dn] at h;simp[ha,hb,hk,dn,h]
  ·cbv;refine f _ _ (c6.refl _) ?_;cbv;clear f ho i d c;subst hP;have:r=false:=by
    rw[<-hr,eW];intro e;rw[ha,hb] at e;simp at e;simp[dn,e] at h
   rw[this]
 ·cbv;refine f _ _ (c6.refl _) ?_;cbv;clear f;subst hP;have e1:r1=[]:=by simp[dn,nc] at h h1 hk;exact ay qW
  have u:r2=[]:=by subst e1;exact ay (by simp at g;omega)
  subst e1 u;have:r=true:=by rw[<-hr,bc,ha,hb]
  rw[this]
theorem QG(a b:List Part)(c:a.length<=maxLen):Spec Tryz.prog 107 [.sl true 3 (a.map bd),.sl true 3 (b.map bd)] Hp.emp (Is (.bool (decide (a=b)))):=
 ep iD QE [.bool (decide (a=b))] (.bool _) λR d=>QF dn rfl _ _ a b c _ _ rfl rfl _ rfl R d
def Dv:AC:=qr [qo 4 (.mov (.c (.bool false)))] (qr [qm 5 0,qm 6 1,qa 7 107 [.t 5,.t 6],qm 4 7] .ret)
theorem ML:fF Tryz.prog 67 Tryz.f67 Dv [.t 4] 2 er:=⟨Tryz.func67,by decide+kernel,by kernel_rfl,by kernel_rfl,by decide+kernel⟩
theorem MM(P:Prim)(hP:P=dn)(T a:c8)(ra rb:List (List V))(r:Bool)(hc1:gK T 107 [.sl true 3 ra,.sl true 3 rb] (.bool r))
  (R:S->Prop)(b:∀s s',c6 s s'->iH [.t 4] [.bool r] s'->R s):gj P T a Dv (S0 [.sl true 3 ra,.sl true 3 rb] Hp.emp) R (λ_ _=>False) R:=by
 cbv;refine hc1 _ _ ?_;cbv;exact b _ _ (c6.refl _) rfl
theorem MN(a b:List Part)(c:a.length<=maxLen):Spec Tryz.prog 67 [.sl true 3 (a.map bd),.sl true 3 (b.map bd)] Hp.emp (Is (.bool (decide (a=b)))):=
 ep iD ML [.bool (decide (a=b))] (.bool _) λR d=>MM dn rfl _ _ _ _ _ (ia (QG a b c) (λh=>.cons (.same _) (.cons (.same _) .nil)) rfl) R d
theorem jO{h:Hp}{k sz n ty:Nat}{b:Option Nat}{rs:List (List V)}(hn:n=rs.length)(hk:h k=some ⟨b,ty,sz,rs⟩):rowsOf h sz (.own k b sz n)=some rs:=by
 simp only[rowsOf,hk];rw[ae ⟨trivial,trivial,trivial,qW⟩,hn,aM]
theorem ur{f sz ty:Nat}{rows:List (List V)}{v:V}(hs:Spec Tryz.prog f [.sl true sz rows] Hp.emp (Is v))(hv:v.gM (gD [])=v)(h:Hp)(K:V->Hp->Prop)(k:Nat)(b:Option Nat)(n:Nat)(rs:List (List V))(a:rs=rows)(hn:n=rs.length)(hk:h k=some ⟨b,ty,sz,rs⟩)(hK:K v h):fm Tryz.prog f [.own k b sz n] h K:=
 ⟨h,jU.refl h,lN hs (.cons (.own k b sz n rows (by rw[jO hn hk,a]) (by simp)) .nil) (by rw[hv];exact hK)⟩
theorem wY(ts:List iY):(fK ts).flatten.length<=ts.length:=by
 induction ts with
 |nil=>simp[fK]
 |cons t ts ih=>
  cases t
  ·simp only[fK,bE,ag,aT,au];omega
  ·obtain⟨p,r,h⟩:=oU ts;simp only[fK,h,iJ,bE,ag,au] at*;omega
  ·simp only[fK,bE,ag,aT,au];omega
theorem B4(h:Hp)(ps:List BS)(ks:List Bool):Arg h [] (tJ ps ks) (.agg [.sl true 1 (c7 ps),.sl true 1 (gP ks)]):=
 .agg _ _ rfl λi v v' a b=>by
  match i with
  |0=>simp at a b;subst a b;exact .mY _ _
  |1=>simp at a b;subst a b;exact .mY _ _
  |i+2=>simp at a
theorem Hw(ps:List BS)(ks:List Bool):(tJ ps ks).gM (gD [])=tJ ps ks:=rfl
theorem Dw(l:List Part)(h1:l.length<=1600)(h2:∀p∈l,0<=p.n/\p.n<=500/\p.text.length<=500):(fb l).length<=1000000:=by have:=zx l h2;omega
theorem Dx(ts:List iY)(h:ts.length<=1000000):(Qu ts).length<=10000000:=by
 have:∀(ts:List iY){m:Mk}{j w:Nat},m.Bd j w->(m.run ts).Bd (j+ts.length) (w+ts.length):=by
  intro ts
  induction ts with
  |nil=>intro m j w h;exact h
  |cons t ts ih=>
   intro m j w h;have h1:(m.tok t).Bd (j+1) (w+1):=by
    cases t
    ·exact(h.gv 1 qW).mono (by simp) qW
    ·exact(h.iK [_]).mono qW (by simp)
    ·exact(h.jE 1 qW).mono (by simp) qW
   exact(ih h1).mono (by simp;omega) (by simp;omega)
 have:=(this ts Mk.x5).flush.1;show(Mk.run Mk.new ts).flush.length<=_;omega
theorem Tx{f:Nat}{d d2:List Part}{v:V}(h:Spec Tryz.prog f [.sl true 3 (d.map bd),.sl true 3 (d2.map bd)] Hp.emp (Is v))(hv:v.gM (gD [])=v):gK (fm Tryz.prog) f [gh d,gh d2] v:=ia h (λ_=>.cons (.mY _ _) (.cons (.mY _ _) .nil)) hv
theorem iv{t:Bool}{A B:Prop}(ht:t=true)(h:A):br.match_1 (λ_=>Prop) t (λ_=>A) (λ_=>B):=by subst ht;exact h
theorem hJ{t:Bool}{A B:Prop}(ht:t=false)(h:B):br.match_1 (λ_=>Prop) t (λ_=>A) (λ_=>B):=by subst ht;exact h
section
variable {P:Prim} (hP:P=dn)
include hP
theorem fJ{a b:Int}(h:P.lt a b=true):a<b:=by subst hP;exact bU h
theorem fM{a b:Int}(h:P.lt a b=false):¬a<b:=by subst hP;exact cz h
theorem jP{a b:Int}(h:P.le a b=true):a<=b:=by subst hP;exact bU h
theorem kg{a b:Int}(h:P.le a b=false):¬a<=b:=by subst hP;exact cz h
theorem nG{a b:Int}(h:P.eq a b=true):a=b:=by subst hP;exact bU h
theorem nH{a b:Int}(h:P.eq a b=false):¬a=b:=by subst hP;exact cz h
theorem hH{a b:Int}(h:P.ne a b=true):¬a=b:=by subst hP;exact bU h
theorem gZ{a b:Int}(h:P.ne a b=false):a=b:=by subst hP;exact az (cz h)
theorem Ty{a b:BS}(h:P.seq a b=true):a=b:=by subst hP;exact bU h
theorem Tz{a b:BS}(h:P.seq a b=false):¬a=b:=by subst hP;exact cz h
theorem zC{a b:BS}(h:P.Tm a b=true):¬a=b:=by subst hP;exact bU h
theorem zD{a b:BS}(h:P.Tm a b=false):a=b:=by subst hP;exact az (cz h)
theorem wj{a b:Int}(h:a<b):P.lt a b=true:=by subst hP;exact cA h
theorem uh{a b:Int}(h:¬a<b):P.lt a b=false:=by subst hP;exact cU h
theorem pC{a b:Int}(h:a=b):P.eq a b=true:=by subst hP;exact cA h
theorem wk{a b:Int}(h:¬a=b):P.eq a b=false:=by subst hP;exact cU h
theorem wm{a b:Int}(h:¬a=b):P.ne a b=true:=by subst hP;exact cA h
theorem oq{a b:Int}(h:a=b):P.ne a b=false:=by subst hP;exact cU (λc=>c h)
theorem Pq{a b:BS}(h:a=b):P.Tm a b=false:=by subst hP;exact cU (λc=>c h)
theorem TA(a b:Int):P.mn a b=min a b:=by subst hP;rfl
theorem gE(rows:List (List V)):P.dv rows=(rows.length:Int):=by subst hP;rfl
theorem da(s:BS):P.c9 s=(s.length:Int):=by subst hP;rfl
theorem add_eq(a b:Int):P.add a b=a+b:=by subst hP;rfl
theorem sub_eq(a b:Int):P.sub a b=a-b:=by subst hP;rfl
theorem int_eq(n:Nat):P.int n=(n:Int):=by subst hP;rfl
theorem iu{k:Int}(h:0<=k):P.fC 0 k:=by subst hP;exact h
theorem lE{a b:Int}(h:a<=b):P.fC a b:=by subst hP;exact h
theorem kN{a b:Int}(h:a<b):P.iO a b:=by subst hP;exact h
theorem eR{a:Int}(h: -9223372036854775808<=a/\a<=9223372036854775807):P.i64 a:=by subst hP;exact h
theorem ga{rows:List (List V)}{i:Nat}{r:List V}{k:Int}(hk:k=(i:Int))(h:rows[i]? =some r):P.row rows (P.nat k) r:=by
 subst hP;subst hk;show rows[((i:Nat):Int).toNat]? =some r;rw[aA];exact h
end
theorem zE{f:Nat}{d:List Part}{vs:List V}{v:V}(h:Spec Tryz.prog f (.sl true 3 (d.map bd)::vs) Hp.emp (Is v))(hv:v.gM (gD [])=v)(a:vs.all V.pl=true):gK (fm Tryz.prog) f (gh d::vs) v:=ia h (λ_=>.cons (.mY _ _) (fO a)) hv
theorem Ft(d:List Part)(h:d.length<=10000000):gK (fm Tryz.prog) 67 [gh d,gh d] (.bool true):=by
 have:=Tx (MN d d (by(have:maxLen=9223372036854775807:=by decide);omega)) rfl
 rwa[cA rfl] at this
theorem im{f:Nat}{vs:List V}{v:V}(h:Spec Tryz.prog f vs Hp.emp (Is v))(hv:v.gM (gD [])=v)(a:vs.all V.pl=true):gK (fm Tryz.prog) f vs v:=ia h (λ_=>fO a) hv
theorem l9(d:List Part)(h:∀p∈d,rT p):(lH (fb d):Int)=kU d:=by
 induction d with
 |nil=>rfl
 |cons p d ih=>
  have h1:=iU (h p (by simp));have h2:=ih λq hq=>h q (by simp[hq]);simp only[fb,oV,kU];have:(lH (ji p):Int)=if p.kind=1\/p.kind=3 then p.n else 0:=by
   unfold ji
   by_cases k2:p.kind=2
   ·rw[ae k2,aa qW];simp[lH,sX]
   ·rw[aa k2];have hr:∀(n:Nat)(x:iY),x=.keep\/x=.cut->lH (List.replicate n x)=n:=by
     intro n x hx;have:=lh [] x hx n;simp only[cE,fy] at this;simp[lH,this]
    have a:p.kind=1\/p.kind=3:=by omega
    rw[ae a]
    split
    ·rw[hr _ _ (.inl rfl)];omega
    ·rw[hr _ _ (.inr rfl)];omega
  rw[<-this,<-h2];omega
theorem zF(n:Nat)(x:iY):lf (List.replicate n x)=if x=.cut then 0 else n:=by
 induction n with
 |zero=>simp[lf]
 |succ n ih=>cases x<;>simp[aX,lf,ih]
theorem Ii(t:BS):lf (t.map .put)=t.length:=by
 induction t with
 |nil=>rfl
 |cons b t ih=>simp[lf,ih]
theorem mV(d:List Part)(h:∀p∈d,rT p):(lf (fb d):Int)=iV d:=by
 induction d with
 |nil=>rfl
 |cons p d ih=>
  have h1:=iU (h p (by simp));have h2:=ih λq hq=>h q (by simp[hq]);simp only[fb,H6,iV];have:(lf (ji p):Int)=if p.kind=1 then p.n else if p.kind=3 then 0 else p.text.length:=by
   unfold ji
   by_cases k2:p.kind=2
   ·rw[ae k2,Ii,aa qW,aa qW]
   ·rw[aa k2]
    split
    ·rw[zF,aa (by simp)];omega
    ·rw[zF,ae rfl,ae qW];rfl
  rw[<-this,<-h2];omega
theorem zG{d:List Part}(h:∀p∈d,rT p):∀p∈d,0<=p.n/\p.n<=500/\p.text.length<=500:=λp hp=>by have:=iU (h p hp);omega
theorem fP{d:List Part}(h:ed d=0):d.length<=1600/\(∀p∈d,rT p)/\kU d<=500/\iV d<=500/\0<=kU d/\0<=iV d:=by
 obtain⟨h1,h2,h3,h4⟩:=mT h;have h5:=rz 0 d h2;exact⟨h1,h5,h3,h4,(xV d h5).1,(rU d h5).1⟩
theorem zH{d:List Part}(h:ed d=0):(fb d).length<=1000000:=by
 obtain⟨h1,h2,_⟩:=fP h;exact Dw d h1 (zG h2)
open Go.RowKit
def gV(x:BS)(n:Int):Int:=if 1048576<x.length then 2 else if n<0\/(x.length:Int)<n then 3 else 0
def gS(a1:BS)(a2:Int)(b1:BS)(b2:Int):Int:=if gV a1 a2≠0 then gV a1 a2 else gV b1 b2
def nh(a1:BS)(a2:Int)(b1:BS)(b2:Int)(i:Int):Int:=if gS a1 a2 b1 b2≠0 then gS a1 a2 b1 b2 else if i<0\/2<=i then 1 else 0
structure D4 where
 x1:BS
 x2:Int
 x3:BS
 x4:Int
 e:Int
def QH(e:Int):D4:=⟨[],0,[],0,e⟩
def n5(a1:BS)(a2:Int)(b1:BS)(b2:Int)(i:Int)(s:BS):D4:=if nh a1 a2 b1 b2 i≠0 then QH (nh a1 a2 b1 b2 i)
 else if i=0 then(if 1048576<a1.length+s.length then QH 2 else⟨a1++s,a2,b1,b2,0⟩)
 else(if 1048576<b1.length+s.length then QH 2 else⟨a1,a2,b1++s,b2,0⟩)
def n6(a1:BS)(a2:Int)(b1:BS)(b2:Int)(i:Int):D4:=if nh a1 a2 b1 b2 i≠0 then QH (nh a1 a2 b1 b2 i)
 else if i=0 then⟨a1,a1.length,b1,b2,0⟩ else⟨a1,a2,b1,b1.length,0⟩
def n7(a1:BS)(a2:Int)(b1:BS)(b2:Int)(i n:Int):D4:=if nh a1 a2 b1 b2 i≠0 then QH (nh a1 a2 b1 b2 i)
 else if i=0 then(if n<0\/(a1.length:Int)<n then QH 1 else⟨a1.take n.toNat,min a2 n,b1,b2,0⟩)
 else(if n<0\/(b1.length:Int)<n then QH 1 else⟨a1,a2,b1.take n.toNat,min b2 n,0⟩)
theorem lq{x:BS}{n:Int}(h:gV x n=0):x.length<=1048576/\0<=n/\n<=(x.length:Int):=by
 unfold gV at h
 split at h
 ·exact absurd h qD
 ·split at h
  ·exact absurd h qD
  ·omega
theorem p9{a1 b1:BS}{a2 b2:Int}(h:gS a1 a2 b1 b2=0):gV a1 a2=0/\gV b1 b2=0:=by
 unfold gS at h
 by_cases g:gV a1 a2≠0
 ·rw[ae g] at h;exact absurd h g
 ·rw[aa g] at h;exact⟨az g,h⟩
theorem look_ok{a1 b1:BS}{a2 b2 i:Int}(h:nh a1 a2 b1 b2 i=0):gS a1 a2 b1 b2=0/\(i=0\/i=1):=by
 unfold nh at h
 by_cases g:gS a1 a2 b1 b2≠0
 ·rw[ae g] at h;exact absurd h g
 ·rw[aa g] at h;refine⟨az g,?_⟩
  split at h
  ·exact absurd h qD
  ·omega
structure Xt(a1:BS)(a2:Int)(b1:BS)(b2:Int) where
 m:Nat
 k:Int
 hm:m<=2
 hk:k=(m:Int)
 h0:0<m->gV a1 a2=0
 h1:1<m->gV b1 b2=0
def Ij:AC:=qr [qo 1 (.box 52 4 (.t 0)),qz 2 0] (qq (qr [qf 5 0 1,qd 6 4 5,qz 7 0] (.block 0 (.loop (qr [qc 8 .lss 7 2] (qq (qu 8 .skip (.exit 0)) (qq (.block 1 (qr [qo 9 (.ixa true 2 2 (.t 6) (.t 7)),qo 4 (.alloc 49 Qb),qs 2 4 9] (qq (qr [qf 10 0 4,ql 11 10,qo 12 (.len true (.t 11)),qc 13 .gtr 12 1048576] (qu 13 (qr [qz 2 2] .ret) .skip)) (qr [qf 14 1 4,ql 15 14,qc 16 .lss 15 0,qm 17 16,qg 18 17 false (.faddr 1 (.t 4)),qg 19 17 false (.load1 (.t 18)),qg 20 17 false (.faddr 0 (.t 4)),qg 21 17 false (.load1 (.t 20)),qg 22 17 false (.len true (.t 21)),qg 23 17 false (.bin .gtr (.t 19) (.t 22)),qo 24 (.pick (.t 17) (.c (.bool true)) (.t 23))] (qu 24 (qr [qz 2 3] .ret) .skip))))) (qR [qc 25 .add 7 1,qm 7 25]))))))) (qr [qz 2 0] .ret))
theorem QI:fF Tryz.prog 95 Tryz.f95 Ij [.t 2] 1 er:=⟨Tryz.func95,by decide+kernel,by kernel_rfl,by kernel_rfl,by decide+kernel⟩
theorem QJ(P:Prim)(hP:P=dn)(T j:c8)(a1:BS)(a2:Int)(b1:BS)(b2:Int)
  (R:S->Prop)(b:∀d s' x,x=gS a1 a2 b1 b2->c6 d s'->iH [.t 2] [qI x] s'->R d):gj P T j Ij (S0 [.agg [.str a1,qI a2,.str b1,qI b2]] Hp.emp) R (λ_ _=>False) R:=by
 cbv;intro β;cbv
 repeat' first|(refine qA ?_;cbv)|(intro a;cbv)
 refine⟨Xt a1 a2 b1 b2,λy=>[(6,.agg [.str a1,qI a2,.str b1,qI b2]),(7,qI y.k)],λy=>[],λy=>2-y.m,
  ⟨_,c6.refl _,⟨0,0,qD,rfl,λh=>absurd h qD,λh=>absurd h qD⟩,⟨rfl,rfl,trivial⟩,trivial⟩,?_⟩
 rintro⟨m,k,hm,hk,h0,h1⟩;cbv;refine ab (λg=>?_) (λg=>?_)
 ·have h5:k<2:=fJ hP g
  replace hm:m<2:=by((try simp only[nc] at*);omega)
  have f:P.fC 0 k:=iu hP qO;have k1:P.iO k 2:=kN hP qO;have k2:P.i64 (P.add k 1):=by rw[add_eq hP];exact eR hP qO
  have i:P.add k 1=((m+1:Nat):Int):=by rw[add_eq hP,hk];((try simp only[nc] at*);omega)
  have hc:m=0\/m=1:=by omega
  rcases hc with rfl|rfl
  ·cbv;have c:P.nat k=0:=by rw[hk];subst hP;rfl
   refine⟨f,k1,0,c,?_⟩;cbv
   repeat' first|(refine qA ?_;cbv)|(intro a;cbv)
   refine ab (λg=>?_) (λg=>?_)
   ·have g1:1048576<P.c9 a1:=fJ hP g;rw[da hP] at g1;have hx:gV a1 a2=2:=by unfold gV;rw[ae qO]
    cbv;exact b _ _ _ (by unfold gS;rw[ae (by rw[hx];decide),hx]) (c6.refl _) rfl
   have g1:¬1048576<P.c9 a1:=fM hP g;rw[da hP] at g1;cbv
   repeat' first|(refine qA ?_;cbv)|(intro a;cbv)
   refine ab (λg=>?_) (λg=>?_)
   ·have g2:a2<0:=fJ hP g;have hx:gV a1 a2=3:=by unfold gV;rw[aa qO,ae (.inl g2)]
    cbv;exact b _ _ _ (by unfold gS;rw[ae (by rw[hx];decide),hx]) (c6.refl _) rfl
   have g2:¬a2<0:=fM hP g;cbv
   repeat' first|(refine qA ?_;cbv)|(intro a;cbv)
   refine ab (λg=>?_) (λg=>?_)
   ·have g3:P.c9 a1<a2:=fJ hP g;rw[da hP] at g3;have hx:gV a1 a2=3:=by unfold gV;rw[aa qO,ae (.inr g3)]
    cbv;exact b _ _ _ (by unfold gS;rw[ae (by rw[hx];decide),hx]) (c6.refl _) rfl
   have g3:¬P.c9 a1<a2:=fM hP g;rw[da hP] at g3;have hx:gV a1 a2=0:=by unfold gV;rw[aa qO,aa qO]
   cbv
   repeat' first|(refine qA ?_;cbv)|(intro a;cbv)
   exact⟨_,c6.refl _,⟨1,_,qD,i,λ_=>hx,λh=>absurd h qD⟩,⟨rfl,rfl,trivial⟩,trivial,by show 2-(0+1)<2-0;decide⟩
  ·cbv;have c:P.nat k=1:=by rw[hk];subst hP;rfl
   refine⟨f,k1,1,c,?_⟩;cbv
   repeat' first|(refine qA ?_;cbv)|(intro a;cbv)
   refine ab (λg=>?_) (λg=>?_)
   ·have g1:1048576<P.c9 b1:=fJ hP g;rw[da hP] at g1;have hx:gV b1 b2=2:=by unfold gV;rw[ae qO]
    cbv;exact b _ _ _ (by unfold gS;rw[aa (λg=>g (h0 qD)),hx]) (c6.refl _) rfl
   have g1:¬1048576<P.c9 b1:=fM hP g;rw[da hP] at g1;cbv
   repeat' first|(refine qA ?_;cbv)|(intro a;cbv)
   refine ab (λg=>?_) (λg=>?_)
   ·have g2:b2<0:=fJ hP g;have hx:gV b1 b2=3:=by unfold gV;rw[aa qO,ae (.inl g2)]
    cbv;exact b _ _ _ (by unfold gS;rw[aa (λg=>g (h0 qD)),hx]) (c6.refl _) rfl
   have g2:¬b2<0:=fM hP g;cbv
   repeat' first|(refine qA ?_;cbv)|(intro a;cbv)
   refine ab (λg=>?_) (λg=>?_)
   ·have g3:P.c9 b1<b2:=fJ hP g;rw[da hP] at g3;have hx:gV b1 b2=3:=by unfold gV;rw[aa qO,ae (.inr g3)]
    cbv;exact b _ _ _ (by unfold gS;rw[aa (λg=>g (h0 qD)),hx]) (c6.refl _) rfl
   have g3:¬P.c9 b1<b2:=fM hP g;rw[da hP] at g3;have hx:gV b1 b2=0:=by unfold gV;rw[aa qO,aa qO]
   cbv
   repeat' first|(refine qA ?_;cbv)|(intro a;cbv)
   exact⟨_,c6.refl _,⟨2,_,qD,i,λ_=>h0 qD,λ_=>hx⟩,⟨rfl,rfl,trivial⟩,trivial,by show 2-(1+1)<2-1;decide⟩
 ·have h5:¬k<2:=fM hP g;have tD:m=2:=by((try simp only[nc] at*);omega)
  have e:gS a1 a2 b1 b2=0:=by unfold gS;rw[aa (λg=>g (h0 qW)),h1 qW]
  cbv;exact b _ _ _ e.symm (c6.refl _) rfl
theorem B5(a1:BS)(a2:Int)(b1:BS)(b2:Int):Spec Tryz.prog 95 [.agg [.str a1,.int .i64 a2,.str b1,.int .i64 b2]] Hp.emp (Is (.int .i64 (gS a1 a2 b1 b2))):=
 ep iD QI [.int .i64 (gS a1 a2 b1 b2)] (.int _ _) λR a=>QJ dn rfl _ _ a1 a2 b1 b2 R λs s' b h he hr=>by subst h;exact a s s' he hr
def Ik:AC:=qr [qo 1 (.box 52 4 (.t 0)),qz 2 0] (qq (qr [qf 5 0 1,qd 6 4 5,qz 7 0] (.block 0 (.loop (qr [qc 8 .lss 7 2] (qq (qu 8 .skip (.exit 0)) (qq (.block 1 (qr [qo 9 (.ixa true 2 2 (.t 6) (.t 7)),qo 4 (.alloc 49 Qb),qs 2 4 9] (qq (qr [qf 10 0 4,ql 11 10,qo 12 (.len true (.t 11)),qc 13 .gtr 12 1048576] (qu 13 (qr [qz 2 2] .ret) .skip)) (qr [qf 14 1 4,ql 15 14,qc 16 .lss 15 0,qm 17 16,qg 18 17 false (.faddr 1 (.t 4)),qg 19 17 false (.load1 (.t 18)),qg 20 17 false (.faddr 0 (.t 4)),qg 21 17 false (.load1 (.t 20)),qg 22 17 false (.len true (.t 21)),qg 23 17 false (.bin .gtr (.t 19) (.t 22)),qo 24 (.pick (.t 17) (.c (.bool true)) (.t 23))] (qu 24 (qr [qz 2 3] .ret) .skip))))) (qR [qc 25 .add 7 1,qm 7 25]))))))) (qr [qz 2 0] .ret))
theorem QK:fF Tryz.prog 96 Tryz.f96 Ik [.t 2] 1 er:=⟨Tryz.func96,by decide+kernel,by kernel_rfl,by kernel_rfl,by decide+kernel⟩
theorem QL(P:Prim)(hP:P=dn)(T j:c8)(a1:BS)(a2:Int)(b1:BS)(b2:Int)
  (R:S->Prop)(b:∀d s' x,x=gS a1 a2 b1 b2->c6 d s'->iH [.t 2] [qI x] s'->R d):gj P T j Ik (S0 [.agg [.str a1,qI a2,.str b1,qI b2]] Hp.emp) R (λ_ _=>False) R:=by
 cbv;intro β;cbv
 repeat' first|(refine qA ?_;cbv)|(intro a;cbv)
 refine⟨Xt a1 a2 b1 b2,λy=>[(6,.agg [.str a1,qI a2,.str b1,qI b2]),(7,qI y.k)],λy=>[],λy=>2-y.m,
  ⟨_,c6.refl _,⟨0,0,qD,rfl,λh=>absurd h qD,λh=>absurd h qD⟩,⟨rfl,rfl,trivial⟩,trivial⟩,?_⟩
 rintro⟨m,k,hm,hk,h0,h1⟩;cbv;refine ab (λg=>?_) (λg=>?_)
 ·have h5:k<2:=fJ hP g
  replace hm:m<2:=by((try simp only[nc] at*);omega)
  have f:P.fC 0 k:=iu hP qO;have k1:P.iO k 2:=kN hP qO;have k2:P.i64 (P.add k 1):=by rw[add_eq hP];exact eR hP qO
  have i:P.add k 1=((m+1:Nat):Int):=by rw[add_eq hP,hk];((try simp only[nc] at*);omega)
  have hc:m=0\/m=1:=by omega
  rcases hc with rfl|rfl
  ·cbv;have c:P.nat k=0:=by rw[hk];subst hP;rfl
   refine⟨f,k1,0,c,?_⟩;cbv
   repeat' first|(refine qA ?_;cbv)|(intro a;cbv)
   refine ab (λg=>?_) (λg=>?_)
   ·have g1:1048576<P.c9 a1:=fJ hP g;rw[da hP] at g1;have hx:gV a1 a2=2:=by unfold gV;rw[ae qO]
    cbv;exact b _ _ _ (by unfold gS;rw[ae (by rw[hx];decide),hx]) (c6.refl _) rfl
   have g1:¬1048576<P.c9 a1:=fM hP g;rw[da hP] at g1;cbv
   repeat' first|(refine qA ?_;cbv)|(intro a;cbv)
   refine ab (λg=>?_) (λg=>?_)
   ·have g2:a2<0:=fJ hP g;have hx:gV a1 a2=3:=by unfold gV;rw[aa qO,ae (.inl g2)]
    cbv;exact b _ _ _ (by unfold gS;rw[ae (by rw[hx];decide),hx]) (c6.refl _) rfl
   have g2:¬a2<0:=fM hP g;cbv
   repeat' first|(refine qA ?_;cbv)|(intro a;cbv)
   refine ab (λg=>?_) (λg=>?_)
   ·have g3:P.c9 a1<a2:=fJ hP g;rw[da hP] at g3;have hx:gV a1 a2=3:=by unfold gV;rw[aa qO,ae (.inr g3)]
    cbv;exact b _ _ _ (by unfold gS;rw[ae (by rw[hx];decide),hx]) (c6.refl _) rfl
   have g3:¬P.c9 a1<a2:=fM hP g;rw[da hP] at g3;have hx:gV a1 a2=0:=by unfold gV;rw[aa qO,aa qO]
   cbv
   repeat' first|(refine qA ?_;cbv)|(intro a;cbv)
   exact⟨_,c6.refl _,⟨1,_,qD,i,λ_=>hx,λh=>absurd h qD⟩,⟨rfl,rfl,trivial⟩,trivial,by show 2-(0+1)<2-0;decide⟩
  ·cbv;have c:P.nat k=1:=by rw[hk];subst hP;rfl
   refine⟨f,k1,1,c,?_⟩;cbv
   repeat' first|(refine qA ?_;cbv)|(intro a;cbv)
   refine ab (λg=>?_) (λg=>?_)
   ·have g1:1048576<P.c9 b1:=fJ hP g;rw[da hP] at g1;have hx:gV b1 b2=2:=by unfold gV;rw[ae qO]
    cbv;exact b _ _ _ (by unfold gS;rw[aa (λg=>g (h0 qD)),hx]) (c6.refl _) rfl
   have g1:¬1048576<P.c9 b1:=fM hP g;rw[da hP] at g1;cbv
   repeat' first|(refine qA ?_;cbv)|(intro a;cbv)
   refine ab (λg=>?_) (λg=>?_)
   ·have g2:b2<0:=fJ hP g;have hx:gV b1 b2=3:=by unfold gV;rw[aa qO,ae (.inl g2)]
    cbv;exact b _ _ _ (by unfold gS;rw[aa (λg=>g (h0 qD)),hx]) (c6.refl _) rfl
   have g2:¬b2<0:=fM hP g;cbv
   repeat' first|(refine qA ?_;cbv)|(intro a;cbv)
   refine ab (λg=>?_) (λg=>?_)
   ·have g3:P.c9 b1<b2:=fJ hP g;rw[da hP] at g3;have hx:gV b1 b2=3:=by unfold gV;rw[aa qO,ae (.inr g3)]
    cbv;exact b _ _ _ (by unfold gS;rw[aa (λg=>g (h0 qD)),hx]) (c6.refl _) rfl
   have g3:¬P.c9 b1<b2:=fM hP g;rw[da hP] at g3;have hx:gV b1 b2=0:=by unfold gV;rw[aa qO,aa qO]
   cbv
   repeat' first|(refine qA ?_;cbv)|(intro a;cbv)
   exact⟨_,c6.refl _,⟨2,_,qD,i,λ_=>h0 qD,λ_=>hx⟩,⟨rfl,rfl,trivial⟩,trivial,by show 2-(1+1)<2-1;decide⟩
 ·have h5:¬k<2:=fM hP g;have tD:m=2:=by((try simp only[nc] at*);omega)
  have e:gS a1 a2 b1 b2=0:=by unfold gS;rw[aa (λg=>g (h0 qW)),h1 qW]
  cbv;exact b _ _ _ e.symm (c6.refl _) rfl
theorem QM(a1:BS)(a2:Int)(b1:BS)(b2:Int):Spec Tryz.prog 96 [.agg [.str a1,.int .i64 a2,.str b1,.int .i64 b2]] Hp.emp (Is (.int .i64 (gS a1 a2 b1 b2))):=
 ep iD QK [.int .i64 (gS a1 a2 b1 b2)] (.int _ _) λR a=>QL dn rfl _ _ a1 a2 b1 b2 R λs s' b h he hr=>by subst h;exact a s s' he hr
def Il:AC:=qr [qo 2 (.box 52 4 (.t 0)),qz 4 0] (qq (qr [qd 6 4 2,qa 7 95 [.t 6],qm 5 7] (qr [qm 8 5,qc 9 .neq 8 0] (qu 9 (qr [qm 10 5,qm 4 10] .ret) .skip))) (qq (qr [qm 11 1,qc 12 .lss 11 0,qm 13 12,qg 14 13 false (.mov (.t 1)),qg 15 13 false (.bin .geq (.t 14) (qk 2)),qo 16 (.pick (.t 13) (.c (.bool true)) (.t 15))] (qu 16 (qr [qz 4 1] .ret) .skip)) (qr [qz 4 0] .ret)))
theorem QN:fF Tryz.prog 111 Tryz.f111 Il [.t 4] 2 er:=⟨Tryz.func111,by decide+kernel,by kernel_rfl,by kernel_rfl,by decide+kernel⟩
theorem QO(P:Prim)(hP:P=dn)(T d:c8)(a1:BS)(a2:Int)(b1:BS)(b2 i c:Int)(h1:gK T 95 [.agg [.str a1,qI a2,.str b1,qI b2]] (qI c))(r:Int)(hr:(if c≠0 then c else if i<0\/2<=i then 1 else 0)=r)
  (R:S->Prop)(a:∀b s' x,x=r->c6 b s'->iH [.t 4] [qI x] s'->R b):gj P T d Il (S0 [.agg [.str a1,qI a2,.str b1,qI b2],qI i] Hp.emp) R (λ_ _=>False) R:=by
 cbv;intro β;cbv
 repeat' first|(refine qA ?_;cbv)|(intro e;cbv)
 refine h1 _ _ ?_;cbv;refine ab (λg=>?_) (λg=>?_)
 ·rw[ae (hH hP g)] at hr;cbv;exact a _ _ _ hr (c6.refl _) rfl
 rw[aa (λx=>x (gZ hP g))] at hr;cbv;refine ab (λg=>?_) (λg=>?_)
 ·rw[ae (.inl (fJ hP g))] at hr;cbv;exact a _ _ _ hr (c6.refl _) rfl
 have g1:=fM hP g;cbv;refine ab (λg=>?_) (λg=>?_)
 ·rw[ae (.inr (jP hP g))] at hr;cbv;exact a _ _ _ hr (c6.refl _) rfl
 have g2:=kg hP g;rw[aa qW] at hr;cbv;exact a _ _ _ hr (c6.refl _) rfl
theorem B6(a1:BS)(a2:Int)(b1:BS)(b2 i:Int):Spec Tryz.prog 111 [.agg [.str a1,.int .i64 a2,.str b1,.int .i64 b2],.int .i64 i] Hp.emp (Is (.int .i64 (nh a1 a2 b1 b2 i))):=
 ep iD QN [.int .i64 (nh a1 a2 b1 b2 i)] (.int _ _) λR a=>QO dn rfl _ _ a1 a2 b1 b2 i _ (ia (B5 a1 a2 b1 b2) (λh=>.cons (.same _) .nil) rfl) _ rfl R λs s' b h he hr=>by subst h;exact a s s' he hr
def Im:AC:=qr [qo 3 (.box 52 4 (.t 0)),qo 6 (.alloc 52 GA),qz 7 0] (qq (qr [qd 9 4 3,qm 10 1,qa 11 111 [.t 9,.t 10],qm 8 11] (qr [qm 12 8,qc 13 .neq 12 0] (qu 13 (qr [qo 14 (.build GA []),qm 15 8,qs 4 6 14,qm 7 15] .ret) .skip))) (qq (qr [qm 16 1,qf 17 0 3,qo 18 (.iarr 2 2 (.t 17) (.t 16)),qf 19 0 18,ql 20 19,qo 21 (.len true (.t 20)),qm 22 2,qo 23 (.len true (.t 22)),qb 24 .add 21 23,qc 25 .gtr 24 1048576] (qu 25 (qr [qo 26 (.build GA []),qs 4 6 26,qz 7 2] .ret) .skip)) (qr [qm 27 1,qf 28 0 3,qo 29 (.iarr 2 2 (.t 28) (.t 27)),qf 30 0 29,ql 31 30,qm 32 2,qb 33 .add 31 32,qf 34 0 3,qo 35 (.iarr 2 2 (.t 34) (.t 27)),qf 36 0 35,qs 1 36 33] (qr [qd 37 4 3,qs 4 6 37,qz 7 0] .ret))))
theorem QP:fF Tryz.prog 71 Tryz.f71 Im [.cn 6 4,.t 7] 3 er:=⟨Tryz.func71,by decide+kernel,by kernel_rfl,by kernel_rfl,by decide+kernel⟩
theorem QQ(P:Prim)(hP:P=dn)(T h:c8)(a1:BS)(a2:Int)(b1:BS)(b2 i:Int)(s:BS)(hs:s.length<=140737488355328)(c:Int)(hc:c=nh a1 a2 b1 b2 i)(h1:gK T 111 [.agg [.str a1,qI a2,.str b1,qI b2],qI i] (qI c))(r:D4)(hr:n5 a1 a2 b1 b2 i s=r)
  (R:S->Prop)(b:∀f s' x1 x2 x3 x4 e,(⟨x1,x2,x3,x4,e⟩:D4)=r->c6 f s'->iH [.cn 6 4,.t 7] [.agg [.str x1,qI x2,.str x3,qI x4],qI e] s'->R f):gj P T h Im (S0 [.agg [.str a1,qI a2,.str b1,qI b2],qI i,.str s] Hp.emp) R (λ_ _=>False) R:=by
 have a0:P.fC 0 0:=iu hP qD;have j:P.fC 0 1:=iu hP qD;have o:P.iO 0 2:=kN hP qD;have p:P.iO 1 2:=kN hP qD;have d:P.nat 0=0:=by subst hP;rfl
 have n1:P.nat 1=1:=by subst hP;rfl
 unfold n5 at hr;cbv;intro β;cbv
 repeat' first|(refine qA ?_;cbv)|(intro a;cbv)
 refine h1 _ _ ?_;clear h1;cbv;refine ab (λg=>?_) (λg=>?_)
 ·rw[<-hc,ae (hH hP g)] at hr;cbv
  repeat' first|(refine qA ?_;cbv)|(intro a;cbv)
  exact b _ _ _ _ _ _ _ hr (c6.refl _) ⟨rfl,rfl,an 0,ah 4,rfl⟩
 have g0:c=0:=gZ hP g;rw[<-hc,aa (λx=>x g0)] at hr;obtain⟨hd,hi⟩:=look_ok (hc.symm.trans g0);obtain⟨ha,hb⟩:=p9 hd;obtain⟨k,l,m⟩:=lq ha;obtain⟨hb1,hb2,n⟩:=lq hb;clear hc g
 rcases hi with rfl|rfl
 ·rw[ae rfl] at hr;have i1:P.i64 (P.add (P.c9 a1) (P.c9 s)):=by rw[add_eq hP,da hP,da hP];exact eR hP qO
  cbv
  repeat' first|(refine qA ?_;cbv)|(refine⟨0,d,?_⟩;cbv)|(intro a;cbv)
  refine ab (λg=>?_) (λg=>?_)
  ·have g1:1048576<P.add (P.c9 a1) (P.c9 s):=fJ hP g;rw[add_eq hP,da hP,da hP] at g1;rw[ae qO] at hr;cbv
   repeat' first|(refine qA ?_;cbv)|(refine⟨0,d,?_⟩;cbv)|(intro a;cbv)
   exact b _ _ _ _ _ _ _ hr (c6.refl _) ⟨rfl,rfl,an 0,ah 4,rfl⟩
  ·have g1:¬1048576<P.add (P.c9 a1) (P.c9 s):=fM hP g;rw[add_eq hP,da hP,da hP] at g1;have e1:P.h9 a1 s=a1++s:=by subst hP;rfl
   rw[aa qO,<-e1] at hr;cbv
   repeat' first|(refine qA ?_;cbv)|(refine⟨0,d,?_⟩;cbv)|(intro a;cbv)
   exact b _ _ _ _ _ _ _ hr (c6.refl _) ⟨rfl,rfl,an 0,ah 4,rfl⟩
 ·rw[aa qD] at hr;have i1:P.i64 (P.add (P.c9 b1) (P.c9 s)):=by rw[add_eq hP,da hP,da hP];exact eR hP qO
  cbv
  repeat' first|(refine qA ?_;cbv)|(refine⟨1,n1,?_⟩;cbv)|(intro a;cbv)
  refine ab (λg=>?_) (λg=>?_)
  ·have g1:1048576<P.add (P.c9 b1) (P.c9 s):=fJ hP g;rw[add_eq hP,da hP,da hP] at g1;rw[ae qO] at hr;cbv
   repeat' first|(refine qA ?_;cbv)|(refine⟨1,n1,?_⟩;cbv)|(intro a;cbv)
   exact b _ _ _ _ _ _ _ hr (c6.refl _) ⟨rfl,rfl,an 0,ah 4,rfl⟩
  ·have g1:¬1048576<P.add (P.c9 b1) (P.c9 s):=fM hP g;rw[add_eq hP,da hP,da hP] at g1;have e1:P.h9 b1 s=b1++s:=by subst hP;rfl
   rw[aa qO,<-e1] at hr;cbv
   repeat' first|(refine qA ?_;cbv)|(refine⟨1,n1,?_⟩;cbv)|(intro a;cbv)
   exact b _ _ _ _ _ _ _ hr (c6.refl _) ⟨rfl,rfl,an 0,ah 4,rfl⟩
theorem QR(a1:BS)(a2:Int)(b1:BS)(b2 i:Int)(s:BS)(hs:s.length<=140737488355328):Spec Tryz.prog 71 [.agg [.str a1,.int .i64 a2,.str b1,.int .i64 b2],.int .i64 i,.str s] Hp.emp (Is (.tup [.agg [.str (n5 a1 a2 b1 b2 i s).x1,.int .i64 (n5 a1 a2 b1 b2 i s).x2,.str (n5 a1 a2 b1 b2 i s).x3,.int .i64 (n5 a1 a2 b1 b2 i s).x4],.int .i64 (n5 a1 a2 b1 b2 i s).e])):=
 ep iD QP [.agg [.str (n5 a1 a2 b1 b2 i s).x1,.int .i64 (n5 a1 a2 b1 b2 i s).x2,.str (n5 a1 a2 b1 b2 i s).x3,.int .i64 (n5 a1 a2 b1 b2 i s).x4],.int .i64 (n5 a1 a2 b1 b2 i s).e] (.tup _ (by simp;exact⟨.agg _ (by simp;exact⟨.str _,.int _ _,.str _,.int _ _⟩),.int _ _⟩)) λR a=>QQ dn rfl _ _ a1 a2 b1 b2 i s hs _ rfl (ia (B6 a1 a2 b1 b2 i) (λh=>.cons (.same _) (.cons (.same _) .nil)) rfl) (n5 a1 a2 b1 b2 i s) rfl R
  λs s' x1 x2 x3 x4 e h he hr=>a s s' he (by rw[<-h];exact hr)
def Io:AC:=qr [qo 2 (.box 52 4 (.t 0)),qo 4 (.alloc 52 GA),qz 5 0] (qq (qr [qd 7 4 2,qm 8 1,qa 9 111 [.t 7,.t 8],qm 6 9] (qr [qm 10 6,qc 11 .neq 10 0] (qu 11 (qr [qo 12 (.build GA []),qm 13 6,qs 4 4 12,qm 5 13] .ret) .skip))) (qr [qm 14 1,qm 15 1,qf 16 0 2,qo 17 (.iarr 2 2 (.t 16) (.t 15)),qf 18 0 17,ql 19 18,qo 20 (.len true (.t 19)),qf 21 0 2,qo 22 (.iarr 2 2 (.t 21) (.t 14)),qf 23 1 22,qs 1 23 20] (qr [qd 24 4 2,qs 4 4 24,qz 5 0] .ret)))
theorem QS:fF Tryz.prog 72 Tryz.f72 Io [.cn 4 4,.t 5] 2 er:=⟨Tryz.func72,by decide+kernel,by kernel_rfl,by kernel_rfl,by decide+kernel⟩
theorem QT(P:Prim)(hP:P=dn)(T f:c8)(a1:BS)(a2:Int)(b1:BS)(b2 i:Int)(c:Int)(hc:c=nh a1 a2 b1 b2 i)(h1:gK T 111 [.agg [.str a1,qI a2,.str b1,qI b2],qI i] (qI c))(r:D4)(hr:n6 a1 a2 b1 b2 i=r)
  (R:S->Prop)(b:∀d s' x1 x2 x3 x4 e,(⟨x1,x2,x3,x4,e⟩:D4)=r->c6 d s'->iH [.cn 4 4,.t 5] [.agg [.str x1,qI x2,.str x3,qI x4],qI e] s'->R d):gj P T f Io (S0 [.agg [.str a1,qI a2,.str b1,qI b2],qI i] Hp.emp) R (λ_ _=>False) R:=by
 have a0:P.fC 0 0:=iu hP qD;have h:P.fC 0 1:=iu hP qD;have o:P.iO 0 2:=kN hP qD;have p:P.iO 1 2:=kN hP qD;have j:P.nat 0=0:=by subst hP;rfl
 have n1:P.nat 1=1:=by subst hP;rfl
 unfold n6 at hr;cbv;intro β;cbv
 repeat' first|(refine qA ?_;cbv)|(intro a;cbv)
 refine h1 _ _ ?_;clear h1;cbv;refine ab (λg=>?_) (λg=>?_)
 ·rw[<-hc,ae (hH hP g)] at hr;cbv
  repeat' first|(refine qA ?_;cbv)|(intro a;cbv)
  exact b _ _ _ _ _ _ _ hr (c6.refl _) ⟨rfl,rfl,an 0,ah 4,rfl⟩
 have g0:c=0:=gZ hP g;rw[<-hc,aa (λx=>x g0)] at hr;obtain⟨hd,hi⟩:=look_ok (hc.symm.trans g0);obtain⟨ha,hb⟩:=p9 hd;obtain⟨k,l,m⟩:=lq ha;obtain⟨hb1,hb2,n⟩:=lq hb;clear hc g
 rcases hi with rfl|rfl
 ·have e1:P.c9 a1=(a1.length:Int):=da hP _;rw[ae rfl] at hr;cbv
  repeat' first|(refine qA ?_;cbv)|(refine⟨0,j,?_⟩;cbv)|(intro a;cbv)
  exact b _ _ _ _ _ _ _ ((aB (λx=>(⟨a1,x,b1,b2,0⟩:D4)) e1).trans hr) (c6.refl _) ⟨rfl,rfl,an 0,ah 4,rfl⟩
 ·have e1:P.c9 b1=(b1.length:Int):=da hP _;rw[aa qD] at hr;cbv
  repeat' first|(refine qA ?_;cbv)|(refine⟨1,n1,?_⟩;cbv)|(intro a;cbv)
  exact b _ _ _ _ _ _ _ ((aB (λx=>(⟨a1,a2,b1,x,0⟩:D4)) e1).trans hr) (c6.refl _) ⟨rfl,rfl,an 0,ah 4,rfl⟩
theorem QU(a1:BS)(a2:Int)(b1:BS)(b2 i:Int):Spec Tryz.prog 72 [.agg [.str a1,.int .i64 a2,.str b1,.int .i64 b2],.int .i64 i] Hp.emp (Is (.tup [.agg [.str (n6 a1 a2 b1 b2 i).x1,.int .i64 (n6 a1 a2 b1 b2 i).x2,.str (n6 a1 a2 b1 b2 i).x3,.int .i64 (n6 a1 a2 b1 b2 i).x4],.int .i64 (n6 a1 a2 b1 b2 i).e])):=
 ep iD QS [.agg [.str (n6 a1 a2 b1 b2 i).x1,.int .i64 (n6 a1 a2 b1 b2 i).x2,.str (n6 a1 a2 b1 b2 i).x3,.int .i64 (n6 a1 a2 b1 b2 i).x4],.int .i64 (n6 a1 a2 b1 b2 i).e] (.tup _ (by simp;exact⟨.agg _ (by simp;exact⟨.str _,.int _ _,.str _,.int _ _⟩),.int _ _⟩)) λR a=>QT dn rfl _ _ a1 a2 b1 b2 i _ rfl (ia (B6 a1 a2 b1 b2 i) (λh=>.cons (.same _) (.cons (.same _) .nil)) rfl) (n6 a1 a2 b1 b2 i) rfl R
  λs s' x1 x2 x3 x4 e h he hr=>a s s' he (by rw[<-h];exact hr)
def Ip:AC:=qr [qo 3 (.box 52 4 (.t 0)),qo 6 (.alloc 52 GA),qz 7 0] (qq (qr [qd 10 4 3,qm 11 1,qa 12 111 [.t 10,.t 11],qm 8 12] (qr [qm 13 8,qc 14 .neq 13 0] (qu 14 (qr [qo 15 (.build GA []),qm 16 8,qs 4 6 15,qm 7 16] .ret) .skip))) (qr [qm 17 1,qf 18 0 3,qo 19 (.iarr 2 2 (.t 18) (.t 17)),qm 9 19] (qq (qr [qm 20 2,qc 21 .lss 20 0,qm 22 21,qg 23 22 false (.mov (.t 2)),qg 24 22 false (.mov (.t 9)),qg 25 22 false (.nilchk (.t 24)),qg 26 22 false (.faddr 0 (.t 25)),qg 27 22 false (.load1 (.t 26)),qg 28 22 false (.len true (.t 27)),qg 29 22 false (.bin .gtr (.t 23) (.t 28)),qo 30 (.pick (.t 22) (.c (.bool true)) (.t 29))] (qu 30 (qr [qo 31 (.build GA []),qs 4 6 31,qz 7 1] .ret) .skip)) (qr [qm 32 9,qm 33 9,qn 34 33,qf 35 0 34,ql 36 35,qm 37 2,qo 38 (.slstr (.t 36) none (some (.t 37))),qn 39 32,qf 40 0 39,qs 1 40 38] (qr [qm 41 9,qm 42 9,qn 43 42,qf 44 1 43,ql 45 44,qm 46 2,qo 47 (.mm false (.t 45) (.t 46)),qn 48 41,qf 49 1 48,qs 1 49 47] (qr [qd 50 4 3,qs 4 6 50,qz 7 0] .ret))))))
theorem QV:fF Tryz.prog 133 Tryz.f133 Ip [.cn 6 4,.t 7] 3 er:=⟨Tryz.func133,by decide+kernel,by kernel_rfl,by kernel_rfl,by decide+kernel⟩
theorem QW(P:Prim)(hP:P=dn)(T j:c8)(a1:BS)(a2:Int)(b1:BS)(b2 i:Int)(n:Int)(c:Int)(hc:c=nh a1 a2 b1 b2 i)(h1:gK T 111 [.agg [.str a1,qI a2,.str b1,qI b2],qI i] (qI c))(r:D4)(hr:n7 a1 a2 b1 b2 i n=r)
  (R:S->Prop)(b:∀h s' x1 x2 x3 x4 e,(⟨x1,x2,x3,x4,e⟩:D4)=r->c6 h s'->iH [.cn 6 4,.t 7] [.agg [.str x1,qI x2,.str x3,qI x4],qI e] s'->R h):gj P T j Ip (S0 [.agg [.str a1,qI a2,.str b1,qI b2],qI i,qI n] Hp.emp) R (λ_ _=>False) R:=by
 have a0:P.fC 0 0:=iu hP qD;have k:P.fC 0 1:=iu hP qD;have q:P.iO 0 2:=kN hP qD;have s:P.iO 1 2:=kN hP qD;have d:P.nat 0=0:=by subst hP;rfl
 have n1:P.nat 1=1:=by subst hP;rfl
 unfold n7 at hr;cbv;intro β;cbv
 repeat' first|(refine qA ?_;cbv)|(intro a;cbv)
 refine h1 _ _ ?_;clear h1;cbv;refine ab (λg=>?_) (λg=>?_)
 ·rw[<-hc,ae (hH hP g)] at hr;cbv
  repeat' first|(refine qA ?_;cbv)|(intro a;cbv)
  exact b _ _ _ _ _ _ _ hr (c6.refl _) ⟨rfl,rfl,an 0,ah 4,rfl⟩
 have g0:c=0:=gZ hP g;rw[<-hc,aa (λx=>x g0)] at hr;obtain⟨hd,hi⟩:=look_ok (hc.symm.trans g0);obtain⟨ha,hb⟩:=p9 hd;obtain⟨l,m,o⟩:=lq ha;obtain⟨hb1,hb2,p⟩:=lq hb;clear hc g
 rcases hi with rfl|rfl
 ·rw[ae rfl] at hr;cbv
  repeat' first|(refine qA ?_;cbv)|(refine⟨0,d,?_⟩;cbv)|(intro a;cbv)
  refine ab (λg=>?_) (λg=>?_)
  ·rw[ae (.inl (fJ hP g))] at hr;cbv
   repeat' first|(refine qA ?_;cbv)|(refine⟨0,d,?_⟩;cbv)|(intro a;cbv)
   exact b _ _ _ _ _ _ _ hr (c6.refl _) ⟨rfl,rfl,an 0,ah 4,rfl⟩
  have g1:=fM hP g;cbv
  repeat' first|(refine qA ?_;cbv)|(refine⟨0,d,?_⟩;cbv)|(intro a;cbv)
  refine ab (λg=>?_) (λg=>?_)
  ·have g2:P.c9 a1<n:=fJ hP g;rw[da hP] at g2;rw[ae (.inr g2)] at hr;cbv
   repeat' first|(refine qA ?_;cbv)|(refine⟨0,d,?_⟩;cbv)|(intro a;cbv)
   exact b _ _ _ _ _ _ _ hr (c6.refl _) ⟨rfl,rfl,an 0,ah 4,rfl⟩
  have g2:¬P.c9 a1<n:=fM hP g;rw[da hP] at g2;have m1:P.fC 0 n:=iu hP qW;have m2:P.fC n (P.c9 a1):=lE hP (by rw[da hP];((try simp only[nc] at*);omega));have e1:P.jy a1 0 n=a1.take n.toNat:=by subst hP;rfl
  have f:P.mn a2 n=min a2 n:=by subst hP;rfl
  rw[aa qO,<-e1,<-f] at hr;cbv
  repeat' first|(refine qA ?_;cbv)|(refine⟨0,d,?_⟩;cbv)|(intro a;cbv)
  exact b _ _ _ _ _ _ _ hr (c6.refl _) ⟨rfl,rfl,an 0,ah 4,rfl⟩
 ·rw[aa qD] at hr;cbv
  repeat' first|(refine qA ?_;cbv)|(refine⟨1,n1,?_⟩;cbv)|(intro a;cbv)
  refine ab (λg=>?_) (λg=>?_)
  ·rw[ae (.inl (fJ hP g))] at hr;cbv
   repeat' first|(refine qA ?_;cbv)|(refine⟨1,n1,?_⟩;cbv)|(intro a;cbv)
   exact b _ _ _ _ _ _ _ hr (c6.refl _) ⟨rfl,rfl,an 0,ah 4,rfl⟩
  have g1:=fM hP g;cbv
  repeat' first|(refine qA ?_;cbv)|(refine⟨1,n1,?_⟩;cbv)|(intro a;cbv)
  refine ab (λg=>?_) (λg=>?_)
  ·have g2:P.c9 b1<n:=fJ hP g;rw[da hP] at g2;rw[ae (.inr g2)] at hr;cbv
   repeat' first|(refine qA ?_;cbv)|(refine⟨1,n1,?_⟩;cbv)|(intro a;cbv)
   exact b _ _ _ _ _ _ _ hr (c6.refl _) ⟨rfl,rfl,an 0,ah 4,rfl⟩
  have g2:¬P.c9 b1<n:=fM hP g;rw[da hP] at g2;have m1:P.fC 0 n:=iu hP qW;have m2:P.fC n (P.c9 b1):=lE hP (by rw[da hP];((try simp only[nc] at*);omega));have e1:P.jy b1 0 n=b1.take n.toNat:=by subst hP;rfl
  have f:P.mn b2 n=min b2 n:=by subst hP;rfl
  rw[aa qO,<-e1,<-f] at hr;cbv
  repeat' first|(refine qA ?_;cbv)|(refine⟨1,n1,?_⟩;cbv)|(intro a;cbv)
  exact b _ _ _ _ _ _ _ hr (c6.refl _) ⟨rfl,rfl,an 0,ah 4,rfl⟩
theorem QX(a1:BS)(a2:Int)(b1:BS)(b2 i:Int)(n:Int):Spec Tryz.prog 133 [.agg [.str a1,.int .i64 a2,.str b1,.int .i64 b2],.int .i64 i,.int .i64 n] Hp.emp (Is (.tup [.agg [.str (n7 a1 a2 b1 b2 i n).x1,.int .i64 (n7 a1 a2 b1 b2 i n).x2,.str (n7 a1 a2 b1 b2 i n).x3,.int .i64 (n7 a1 a2 b1 b2 i n).x4],.int .i64 (n7 a1 a2 b1 b2 i n).e])):=
 ep iD QV [.agg [.str (n7 a1 a2 b1 b2 i n).x1,.int .i64 (n7 a1 a2 b1 b2 i n).x2,.str (n7 a1 a2 b1 b2 i n).x3,.int .i64 (n7 a1 a2 b1 b2 i n).x4],.int .i64 (n7 a1 a2 b1 b2 i n).e] (.tup _ (by simp;exact⟨.agg _ (by simp;exact⟨.str _,.int _ _,.str _,.int _ _⟩),.int _ _⟩)) λR a=>QW dn rfl _ _ a1 a2 b1 b2 i n _ rfl (ia (B6 a1 a2 b1 b2 i) (λh=>.cons (.same _) (.cons (.same _) .nil)) rfl) (n7 a1 a2 b1 b2 i n) rfl R
  λs s' x1 x2 x3 x4 e h he hr=>a s s' he (by rw[<-h];exact hr)
end Go.Proofs.YtobngncjflogcaaGreat.AM
namespace Go.Proofs
open Go.Shelf Go.RowKit Go.Lib
def Tryz.tK:Go.Shelf.Ren:=⟨λ|169=>117|n=>n,λ|70=>171|9=>9|0=>0|72=>173|37=>164|127=>208|3=>3|5=>5|n=>n,λ|n=>n⟩
theorem Tryz.MO:Go.Proofs.Lays.n169 Tryz.prog Tryz.tK:= {
 mixed:=by kernel_rfl
 f169:=Tryz.func117.trans (aB some (by kernel_rfl))
 t0:=Tryz.underlying0
 a0:=Tryz.isAgg0
 z0:=Tryz.sizeOf0
 v0:=Tryz.zeroValue0
 t3:=Tryz.underlying3
 a3:=Tryz.isAgg3
 z3:=Tryz.sizeOf3
 v3:=Tryz.zeroValue3
 t9:=Tryz.underlying9
 a9:=Tryz.isAgg9
 z9:=Tryz.sizeOf9
 v9:=Tryz.zeroValue9
 t37:=Tryz.underlying164
 a37:=Tryz.isAgg164
 z37:=Tryz.sizeOf164
 v37:=Tryz.zeroValue164
 t70:=Tryz.underlying171
 a70:=Tryz.isAgg171
 z70:=Tryz.sizeOf171
 v70:=Tryz.zeroValue171
 t72:=Tryz.underlying173
 a72:=Tryz.isAgg173
 z72:=Tryz.sizeOf173
 v72:=Tryz.zeroValue173
 t127:=Tryz.underlying208
 a127:=Tryz.isAgg208
 z127:=Tryz.sizeOf208
 v127:=Tryz.zeroValue208}
theorem Tryz.rZ:Builder.Extra Tryz.prog Tryz.tK:= {
 sizeBuilder:=by kernel_rfl
 liesBuilder:=by kernel_rfl
 t5:=Tryz.underlying5
 a5:=Tryz.isAgg5
 z5:=Tryz.sizeOf5
 v5:=Tryz.zeroValue5
 infoByte:=by kernel_rfl
 cellsByte:=by kernel_rfl
 sizeByte:=by kernel_rfl
 neB5:=by decide}
theorem Tryz.Builder_String_any(B b:Nat)(l:BS)(w:World)(h:Lib.IsBuilder 173 5 B b (Lib.byteCells l) w)(a:B<=w.heap.size):
  Calls Tryz.prog 117 #[.pointer (some ⟨b,0,none⟩)] w λe w'=>e=.returned (.string ⟨l.toArray⟩)/\Below B w w':=Any.Builder_String_any Tryz.MO Tryz.rZ B b l w h a
end Go.Proofs
namespace Go.Proofs.YtobngncjflogcaaGreat.S6
open Go Go.RowKit
def T:TypeId:=173
def E:TypeId:=5
set_option maxRecDepth 100000 in
set_option maxHeartbeats 4000000 in
theorem B7(b:Nat)(w:World)(h0:w.cell? ⟨b,0,none⟩=some (.pointer (some ⟨b,0,none⟩))):
  Calls Tryz.prog 146 #[.pointer (some ⟨b,0,none⟩)] w λe w'=>e=.returned (.tuple #[])/\w'=w:=by
 obtain⟨j,hj⟩:∃j,Tryz.prog.info? 173=some j:=bB.1 (by kernel_rfl)
 go_enter Tryz.func146,Tryz.ntmps146
 go_wp2
 rw[Lib.run_neq_ptr_same w _ Tryz.underlying171 hj]
 go_wp2
 go_end0
 exact⟨rfl,rfl⟩
set_option maxRecDepth 100000 in
set_option maxHeartbeats 4000000 in
theorem zI(b:Nat)(w:World)(h0:w.cell? ⟨b,0,none⟩=some (.pointer none))(Xu:w.shape? b=some (173,2))(hfz:w.frozen? ⟨b,0,none⟩=false):
  Calls Tryz.prog 146 #[.pointer (some ⟨b,0,none⟩)] w λe w'=>e=.returned (.tuple #[])/\w'=w.setCell ⟨b,0,none⟩ (.pointer (some ⟨b,0,none⟩)):=by
 obtain⟨j,hj⟩:∃j,Tryz.prog.info? 173=some j:=bB.1 (by kernel_rfl);have YW:j.size=2:=by
  have h:(Tryz.prog.info? 173).map (·.size)=some 2:=by kernel_rfl
  rw[hj] at h;exact cT h
 go_enter Tryz.func146,Tryz.ntmps146
 go_wp2
 rw[Lib.run_to_unsafe w ⟨b,0,none⟩ Tryz.underlying171 Tryz.underlying221 hj (by rw[YW];decide) Xu (an 1)];simp only[Result.andThen];rw[Oper.upon_value]
 go_wp2
 rw[run_callFunc_extern Tryz.func159 (by kernel_rfl) (by kernel_rfl) (by kernel_rfl) (e:=Extern.AbiNoEscape.same) (by kernel_rfl)];rw[Lib.run_noEscape];simp only[Result.andThen];rw[Oper.upon_value]
 go_wp2
 rw[Lib.run_from_unsafe w ⟨b,0,none⟩ Tryz.underlying221 Tryz.underlying171 hj Xu (by kernel_rfl)];simp only[Result.andThen];rw[Oper.upon_value]
 go_wp2
 go_end0
 exact⟨rfl,rfl⟩
def r5(b:Nat)(w w':World):Prop:=∀(k:Nat)(cs:Array Value)(ty:TypeId)(fr:Nat×Nat),k≠b->ty≠E->w.heap[k]? =some (.cells cs ty fr)->w'.heap[k]? =some (.cells cs ty fr)
theorem r5.refl(b:Nat)(w:World):r5 b w w:=λ_ _ _ _ _ _ h=>h
theorem r5.trans{b:Nat}{w w1 w2:World}(h:r5 b w w1)(h':r5 b w1 w2):r5 b w w2:=λk cs ty fr h1 h2 h3=>h' k cs ty fr h1 h2 (h k cs ty fr h1 h2 h3)
theorem r5.set(b j:Nat)(v:Value)(w:World):r5 b w (w.setCell ⟨b,j,none⟩ v):=λk cs ty fr h1 h2 h3=>by
 rw[<-h3];simp[World.setCell,dN,Ne.symm h1]
theorem check(B b:Nat)(bs:List Value)(w:World)(h:Lib.IsBuilder T E B b bs w):
  Calls Tryz.prog 146 #[.pointer (some ⟨b,0,none⟩)] w λe w'=>e=.returned (.tuple #[])/\(Lib.BuilderAt T E B b (.pointer (some ⟨b,0,none⟩)) bs w'/\Below B w w'/\r5 b w w'):=by
 rcases h with h|h
 ·refine(zI b w h.cell0 h.shape h.frozen0).mono ?_;rintro e w' ⟨rfl,rfl⟩;exact⟨rfl,h.used _,(Below.refl B w).setCell (p:=⟨b,0,none⟩) h.1 _,r5.set _ _ _ _⟩
 ·refine(B7 b w h.cell0).mono ?_;rintro e w' ⟨rfl,rfl⟩;exact⟨rfl,h,Below.refl B _,r5.refl _ _⟩
set_option maxRecDepth 100000 in
set_option maxHeartbeats 4000000 in
theorem writeString(B b:Nat)(bs:List Value)(s:ByteArray)(w:World)(h:Lib.IsBuilder T E B b bs w)(hlen:bs.length+s.size<=140737488355328)(hBw:B<=w.heap.size):
  Calls Tryz.prog 116 #[.pointer (some ⟨b,0,none⟩),.string s] w λe w'=>e=.returned (.tuple #[.int .i64 s.size,.nilIface])/\(Lib.BuilderAt T E B b (.pointer (some ⟨b,0,none⟩)) (bs++Lib.strCells s) w'/\Below B w w'/\r5 b w w'):=by
 obtain⟨i0,hi,hz0,hz1,hz2⟩:=info_parts (show(Tryz.prog.info? 5).map (λi=>(i.zero,i.size,i.bytes))=some (some (.int .u8 0),1,1) by kernel_rfl);have YX:=check B b bs w h;unfold T E at*
 go_enter Tryz.func116,Tryz.ntmps116
 go_wp2_with fail
 refine YX.mono ?_;rintro e w1 ⟨rfl,h1,hb1,VY⟩;obtain⟨hB,v,Vg,hown,hne⟩:=h1;have c0:w1.cell? ⟨b,0,none⟩=some (.pointer (some ⟨b,0,none⟩)):=by rw[Lib.cell_of_heap Vg];rfl
 have c1:w1.cell? ⟨b,1,none⟩=some v:=by rw[Lib.cell_of_heap Vg];rfl
 go_wp2_with (at_builtin;refine Lib.wpList_append_own_string _ rfl _ _ 164 9 rfl B 5 i0 Tryz.underlying164 Tryz.underlying9 hi hz0 hz1 hz2 _ _ _ rfl hown s rfl ?c3 ?c4 ?c5 ?_)
 case c3=>unfold maxLen;omega
 case c4=>omega
 case c5=>have:=hb1.size;omega
 intro v' w2 hown' hgrow _;have hlt:b<w1.heap.size:=by
  rcases en b w1.heap.size with h'|h'
  ·exact h'
  ·simp[cQ h'] at Vg
 have hb2:w2.heap[b]? =some (.cells #[.pointer (some ⟨b,0,none⟩),v] 173 (0,0)):=by
  rw[hgrow.block b hlt (λe=>hne e.symm)];exact Vg
 have d0:w2.cell? ⟨b,0,none⟩=some (.pointer (some ⟨b,0,none⟩)):=by rw[Lib.cell_of_heap hb2];rfl
 have d1:w2.cell? ⟨b,1,none⟩=some v:=by rw[Lib.cell_of_heap hb2];rfl
 have f1:w2.frozen? ⟨b,1,none⟩=false:=Lib.frozen_of_heap hb2 1;have VZ:r5 b w1 w2:=λk cs ty fr h1 h2 h3=>by
  rw[hgrow.block k (aG.1 h3).1 (λe=>Lib.ownBlock_ne hown h3 h2 e.symm)];exact h3
 obtain⟨ao,n',cap,rfl⟩:∃ao n' cap,v'=.slice ao n' cap:=by
  rcases hown'.2 with⟨hv,_⟩|⟨g,cap,cur,hv,_⟩
  ·exact⟨_,_,_,hv⟩
  ·exact⟨_,_,_,hv⟩
 go_wp2
 go_ret2
 refine⟨rfl,?_,?_,(VY.trans VZ).trans (r5.set _ _ _ _)⟩
 ·exact Lib.BuilderAt.put (T:=173) (e:=5) hB hb2 (bs':=bs++Lib.strCells s) (by simpa[Lib.strCells_length] using hown') qD
 ·exact(hb1.grown hgrow (by have:=hb1.size;omega) (λk hk=>(hown.lt k hk).1)).setCell (p:=⟨b,1,none⟩) hB _
end Go.Proofs.YtobngncjflogcaaGreat.S6
namespace Go.Proofs.YtobngncjflogcaaGreat.AM
open Go
set_option maxRecDepth 100000
set_option maxHeartbeats 2000000
def kW(d:List Part)(n:Int):Int:=if ed d≠0 then ed d else if n≠kU d then 4 else 0
def Dy:AC:=qr [qz 4 0] (qr [qm 9 0,qa 10 87 [.t 9],qm 8 10,qx 11 0 8,qx 12 1 8,qx 13 2 8,qm 5 11,qm 6 12,qm 7 13] (qq (qr [qm 14 7,qc 15 .neq 14 0] (qu 15 (qr [qm 16 7,qm 4 16] .ret) .skip)) (qq (qr [qm 17 1,qm 18 5,qb 19 .neq 17 18] (qu 19 (qr [qz 4 4] .ret) .skip)) (qr [qz 4 0] .ret))))
theorem MR:fF Tryz.prog 56 Tryz.f56 Dy [.t 4] 2 er:=⟨Tryz.func56,by decide+kernel,by kernel_rfl,by kernel_rfl,by decide+kernel⟩
theorem MS(P:Prim)(hP:P=dn)(T b:c8)(rows:List (List V))(n i o c:Int)(hc1:gK T 87 [.sl true 3 rows] (.tup [qI i,qI o,qI c]))(r:Int)(hr:(if c≠0 then c else if n≠i then 4 else 0)=r)
  (R:S->Prop)(a:∀s s' q,q=r->c6 s s'->iH [.t 4] [qI q] s'->R s):gj P T b Dy (S0 [.sl true 3 rows,qI n] Hp.emp) R (λ_ _=>False) R:=by
 cbv
 repeat'(first|(intro β;cbv)|(refine And.intro (by assumption) ?_;cbv)|(refine ab (λh=>?_) (λh=>?_)<;>try cbv)|(refine Exists.intro _ (And.intro (by assumption) ?_);cbv)|(refine hc1 _ _ ?_;cbv)|(refine d _ _ ?_;cbv)|(refine e _ _ ?_;cbv)|(refine f _ _ ?_;cbv)|(refine g _ _ ?_;cbv)|(refine j _ _ ?_;cbv)|(refine And.intro (by(clear a;subst hP;simp[dn,jx,nc] at* <;>first|omega|grind)) ?_;cbv))
 all_goals
  refine a _ _ _ ?_ (c6.refl _) rfl;clear a hc1;subst hP;simp[dn] at*;grind
theorem Dz(d:List Part)(hd:d.length<=maxLen)(n:Int):Spec Tryz.prog 56 [.sl true 3 (d.map bd),.int .i64 n] Hp.emp (Is (.int .i64 (kW d n))):=
 ep iD MR [.int .i64 (kW d n)] (.int _ _) λR a=>MS dn rfl _ _ _ n _ _ _ (ia (xW d hd) (λh=>.cons (.same _) .nil) rfl) (kW d n) (by unfold vZ kW;by_cases h:ed d=0<;>simp[h]) R λs s' q h he hr=>by subst h;exact a s s' he hr
def zJ:AC:=qr [qz 4 0] (qq (qr [qm 6 0,qa 7 89 [.t 6],qm 5 7] (qr [qm 8 5,qc 9 .neq 8 0] (qu 9 (qr [qm 10 5,qm 4 10] .ret) .skip))) (qq (qr [qm 11 0,qa 12 90 [.t 11],qm 13 1,qb 14 .neq 12 13] (qu 14 (qr [qz 4 4] .ret) .skip)) (qr [qz 4 0] .ret)))
theorem Iq:fF Tryz.prog 60 Tryz.f60 zJ [.t 4] 2 er:=⟨Tryz.func60,by decide+kernel,by kernel_rfl,by kernel_rfl,by decide+kernel⟩
theorem Ir(P:Prim)(hP:P=dn)(T b:c8)(rows:List (List V))(n i c:Int)(hc1:gK T 89 [.sl true 3 rows] (qI c))(hi:c=0->gK T 90 [.sl true 3 rows] (qI i))(r:Int)(hr:(if c≠0 then c else if n≠i then 4 else 0)=r)
  (R:S->Prop)(a:∀s s' q,q=r->c6 s s'->iH [.t 4] [qI q] s'->R s):gj P T b zJ (S0 [.sl true 3 rows,qI n] Hp.emp) R (λ_ _=>False) R:=by
 cbv;refine hc1 _ _ ?_;clear hc1;cbv;refine ab (λh=>?_) (λh=>?_)
 ·cbv;refine a _ _ _ ?_ (c6.refl _) rfl;clear a hi;subst hP;simp[dn] at*;grind
 ·have hc1:=hi (gZ hP h);clear hi;cbv
  repeat'(first|(intro β;cbv)|(refine And.intro (by assumption) ?_;cbv)|(refine ab (λh=>?_) (λh=>?_)<;>try cbv)|(refine Exists.intro _ (And.intro (by assumption) ?_);cbv)|(refine hc1 _ _ ?_;cbv)|(refine d _ _ ?_;cbv)|(refine e _ _ ?_;cbv)|(refine f _ _ ?_;cbv)|(refine g _ _ ?_;cbv)|(refine j _ _ ?_;cbv)|(refine And.intro (by(clear a;subst hP;simp[dn,jx,nc] at* <;>first|omega|grind)) ?_;cbv))
  all_goals
   refine a _ _ _ ?_ (c6.refl _) rfl;clear a hc1;subst hP;simp[dn] at*;grind
theorem vp(d:List Part)(hd:d.length<=maxLen)(n:Int):Spec Tryz.prog 60 [.sl true 3 (d.map bd),.int .i64 n] Hp.emp (Is (.int .i64 (kW d n))):=
 ep iD Iq [.int .i64 (kW d n)] (.int _ _) λR a=>Ir dn rfl _ _ _ n _ _ (ia (jZ d hd) (λh=>.cons (.same _) .nil) rfl) (λh=>ia (rA d (mT h).1 (rz 0 d (mT h).2.1)) (λh=>.cons (.same _) .nil) rfl) (kW d n) (by unfold kW;rfl) R λs s' q h he hr=>by subst h;exact a s s' he hr
theorem r6{d:List Part}{n:Int}(h:kW d n=0):ed d=0/\n=kU d:=by
 unfold kW at h
 by_cases hc:ed d=0
 ·rw[aa (λh=>h hc)] at h;exact⟨hc,by by_cases hn:n=kU d;exact hn;rw[ae hn] at h;omega⟩
 ·rw[ae hc] at h;contradiction
end Go.Proofs.YtobngncjflogcaaGreat.AM
namespace Go.Proofs.YtobngncjflogcaaGreat.S6
open Go Go.RowKit AM
theorem Fu{w w':World}{base n B:Nat}{e:TypeId}{size:Nat}{v:Value}{xs:List Value}(h:w.ownsRow base e size v n xs)(hb:Below B w w')(hB:w.heap.size<=B):w'.ownsRow base e size v n xs:=by
 refine⟨h.1,?_⟩
 rcases h.2 with hn|⟨g,cap,cur,rfl,a,b,rest⟩
 ·exact .inl hn
 ·exact .inr ⟨g,cap,cur,rfl,a,(hb.block g (bF (aG.1 b).1 hB)).trans b,rest⟩
theorem DA{B b:Nat}{p:Value}{bs:List Value}{w w':World}(h:Lib.BuilderAt T E B b p bs w)(hb:Below w.heap.size w w'):Lib.BuilderAt T E B b p bs w':=by
 have hlt:=h.lt;obtain⟨hB,v,a,hown,hne⟩:=h;exact⟨hB,v,(hb.block b hlt).trans a,Fu hown hb (ah _),hne⟩
theorem x7{B b:Nat}{bs:List Value}{w w':World}(h:Lib.IsBuilder T E B b bs w)(hb:Below w.heap.size w w'):Lib.IsBuilder T E B b bs w':=
 h.elim (λh=>.inl (DA h hb)) λh=>.inr (DA h hb)
theorem is_lt{B b:Nat}{bs:List Value}{w:World}(h:Lib.IsBuilder T E B b bs w):b<w.heap.size:=h.elim (·.lt) (·.lt)
theorem It(n:Nat)(ts:List iY)(s:BS):o9 (List.replicate n .keep++ts) s=s.take n++o9 ts (s.drop n):=by
 induction n generalizing s with
 |zero=>simp
 |succ n ih=>
  simp only[aX,aK,o9,ih,b7];rw[<-bh,show n+1=1+n by omega,dU]
theorem MT(n:Nat)(ts:List iY)(s:BS):o9 (List.replicate n .cut++ts) s=o9 ts (s.drop n):=by
 induction n generalizing s with
 |zero=>simp
 |succ n ih=>simp only[aX,aK,o9,ih,b7];rw[show n+1=1+n by omega]
theorem MU(t:BS)(ts:List iY)(s:BS):o9 (t.map .put++ts) s=t++o9 ts s:=by
 induction t with
 |nil=>simp
 |cons b t ih=>simp[o9,ih]
theorem wZ(a:BS)(x:ByteArray):Lib.byteCells a++Lib.strCells x=Lib.byteCells (a++x.data.toList):=by simp[Lib.byteCells,Lib.strCells]
theorem x9(x:ByteArray)(a b:Nat):(x.extract a b).data.toList=(x.data.toList.take b).drop a:=by
 rw[dG,Array.toList_extract,List.extract_eq_take_drop,dH]
theorem uu(x:ByteArray)(a b:Nat):(x.extract a b).size=min b x.size-a:=by
 show(x.extract a b).data.size=_;rw[dG,Array.size_extract];rfl
def DB(w:World)(a:Option Addr)(d:List Part):Prop:=∀(i:Nat)(p:Part),d[i]? =some p->∃b off,a=some ⟨b,off,none⟩/\b<w.heap.size/\
 w.cell? ⟨b,off+(i*3),none⟩=some (.int .i64 p.kind)/\w.cell? ⟨b,off+(i*3+1),none⟩=some (.int .i64 p.n)/\w.cell? ⟨b,off+(i*3+2),none⟩=some (.string ⟨p.text.toArray⟩)
set_option maxRecDepth 100000 in
set_option maxHeartbeats 4000000 in
theorem QY(n c:Nat)(s:ByteArray)(oa:Option Addr)(W:World)(f:Int)(hf:f≠0)(DC:Calls Tryz.prog 56 #[.slice oa n c,.int .i64 s.size] W λe w'=>e=.returned (.int .i64 f)/\Below W.heap.size W w'):
  Calls Tryz.prog 79 #[.slice oa n c,.string s] W λe w'=>e=.returned (.tuple #[.string ⟨#[]⟩,.int .i64 f])/\Below W.heap.size W w':=by
 go_enter Tryz.func79,Tryz.ntmps79
 go_wp2_with fail
 refine DC.mono ?_;rintro e w1 ⟨rfl,hb1⟩
 go_wp2_with fail
 go_ret2
 exact⟨rfl,hb1⟩
set_option maxRecDepth 100000 in
set_option maxHeartbeats 4000000 in
theorem TB(d:List Part)(c:Nat)(s:ByteArray)(oa:Option Addr)(W:World)(hd:d.length<=1600)(hat:DB W oa d)(L2:∀p∈d,rT p)(pd:kU d=(s.size:Int))(hs:s.size<=500)(hout:iV d<=500)
  (DC:Calls Tryz.prog 56 #[.slice oa d.length c,.int .i64 s.size] W λe w'=>e=.returned (.int .i64 0)/\Below W.heap.size W w'):
  Calls Tryz.prog 79 #[.slice oa d.length c,.string s] W λe w'=>e=.returned (.tuple #[.string ⟨(o9 (fb d) s.data.toList).toArray⟩,.int .i64 0])/\Below W.heap.size W w':=by
 have HD:Hid (o9 (fb d) s.data.toList=[]++o9 (fb d) s.data.toList):=Lib.hid rfl
 go_enter Tryz.func79,Tryz.ntmps79
 go_wp2_with fail
 refine DC.mono ?_;rintro e w1 ⟨rfl,hb1⟩;clear DC
 go_wp2_with fail
 go_loopw [1,19] (λsv kv wr=>∃(pre rest:List Part)(s':ByteArray)(out:BS),sv=.string s'/\kv=.int .i64 pre.length/\d=pre++rest/\kU rest=s'.size/\s'.size<=500/\(out.length:Int)+iV rest=iV d/\Lib.IsBuilder T E W.heap.size w1.heap.size (Lib.byteCells out) wr/\Below W.heap.size W wr/\Hid (o9 (fb d) s.data.toList=out++o9 (fb rest) s'.data.toList)) (λ_ kv _=>d.length-(intOf kv).toNat)
 case atStart=>exact⟨[],d,s,[],rfl,rfl,rfl,pd,hs,by show((0:Nat):Int)+_=_;omega,.inl ⟨hb1.size,.slice none 0 0,heap_alloc_new w1 _,World.ownsRow_nil _ _ _ _,by simp[Value.ownBlock]⟩,hb1.alloc hb1.size _,HD⟩
 case round=>
  obtain⟨pre,rest,s',out,rfl,rfl,GC,zK,hs',tL,hib,hb,HN⟩:=hrel
  rcases rest with _|⟨p,rest⟩
  ·have hpl:pre.length=d.length:=by rw[GC];simp
   have V0:=Tryz.Builder_String_any W.heap.size w1.heap.size out wr hib hb.size;rw[hpl];have YY:Hid (o9 (fb d) s.data.toList=out):=by show _=_;rw[HN.out];simp[fb,o9]
   clear GC zK tL HN hat L2 pd hout HD hib
   go_wp2_with fail
   refine V0.mono ?_;rintro e w2 ⟨rfl,hb2⟩
   go_wp2_with fail
   go_ret2
   exact⟨by rw[YY.out];rfl,hb.trans hb2⟩
  ·have hpl:pre.length<d.length:=by rw[GC];simp
   obtain⟨b,off,rfl,QZ,q0,q1,q2⟩:=hat pre.length p (by rw[GC];simp);have r0:wr.cell? ⟨b,off+pre.length*3,none⟩=some (.int .i64 p.kind):=by rw[hb.cell (p:=⟨b,_,none⟩) QZ];exact q0
   have r1:wr.cell? ⟨b,off+pre.length*3+1,none⟩=some (.int .i64 p.n):=by rw[hb.cell (p:=⟨b,_,none⟩) QZ];exact q1
   have r2:wr.cell? ⟨b,off+pre.length*3+2,none⟩=some (.string ⟨p.text.toArray⟩):=by rw[hb.cell (p:=⟨b,_,none⟩) QZ];exact q2
   have hp:=iU (L2 p (by rw[GC];simp));have Q0:=L2 p (by rw[GC];simp);clear q0 q1 q2 hat;have Pr:=xV rest λq hq=>L2 q (by rw[GC];simp[hq]);have Iu:=rU rest λq hq=>L2 q (by rw[GC];simp[hq]);have S7:Hid (d=(pre++[p])++rest/\(pre++[p]).length=pre.length+1):=by show _/\_;rw[GC];simp
   have HR:Hid (0<=kU rest/\0<=iV rest):=⟨Pr.1,Iu.1⟩;have HL:Hid (out.length<=500):=by show _<=_;have h:=(rU (p::rest) λq hq=>L2 q (by rw[GC];exact bW _ hq)).1;omega
   clear GC L2 pd hout HD Pr Iu;obtain⟨kd,n,t⟩:=p;simp only[] at r0 r1 r2 hp;simp only[kU,iV] at zK tL;have hwr:W.heap.size<=wr.heap.size:=hb.size;have hbl:=is_lt hib
   rcases hp.2.2.2 with⟨rfl,rfl,hne⟩|⟨rfl|rfl,Mm,rfl⟩
   ·rw[aa qD] at zK;rw[aa qD,aa qD] at tL;have H1:Hid (kU rest=(s'.size:Int)/\(out.length:Int)+(t.length+iV rest)=iV d/\t.length<=500):=⟨qW,qW,hp.2.2.1⟩;have H2:Hid (o9 (fb d) s.data.toList=(out++t)++o9 (fb rest) s'.data.toList):=by
     show _=_;rw[HN.out,show fb (⟨2,0,t⟩::rest)=t.map .put++fb rest by simp[fb,ji],MU];simp
    clear zK tL hp HN Q0
    go_wp2_with fail
    refine(writeString W.heap.size w1.heap.size (Lib.byteCells out) ⟨t.toArray⟩ _ (x7 hib (Below.alloc (Below.refl _ _) (ah _) _)) (by rw[Lib.byteCells_length];have:=H1.out.2.2;have:=HL.out;show out.length+t.toArray.size<=_;rw[dI];omega) (by simp;omega)).mono ?_;rintro e w2 ⟨rfl,Iv,hb2,hk2⟩;have c1:=hb2.size
    go_wp2_with fail
    go_roundw
    case rel=>exact⟨pre++[⟨2,0,t⟩],rest,s',out++t,rfl,by rw[S7.out.2,dp];rfl,S7.out.1,H1.out.1,hs',by rw[ag];have:=H1.out;omega,.inr (by rw[wZ] at Iv;simpa using Iv),(hb.alloc hb.size _).trans hb2,H2⟩
    case measure=>simp[intOf];omega
   ·rw[ae qD] at zK;rw[ae rfl] at tL;have YZ:n<=s'.size:=by have:=HR.out;omega
    have TC:0<=n:=by omega
    have e1:(n.toNat:Int)=n:=by omega
    have H1:Hid (kU rest=((s'.extract n.toNat s'.size).size:Int)/\((out++(s'.extract 0 n.toNat).data.toList).length:Int)+iV rest=iV d/\(s'.extract n.toNat s'.size).size<=500/\(s'.extract 0 n.toNat).size<=500):=by
     show _/\_/\_/\_;have h1:((s'.extract 0 n.toNat).data.toList).length=n.toNat:=by rw[bL];show(s'.extract 0 n.toNat).size=_;rw[uu];omega
     rw[ag,h1,uu,uu];have:=HR.out;refine⟨qW,qW,qW,qW⟩
    have H2:Hid (o9 (fb d) s.data.toList=(out++(s'.extract 0 n.toNat).data.toList)++o9 (fb rest) (s'.extract n.toNat s'.size).data.toList):=by
     show _=_;rw[HN.out,x9,x9,show fb (⟨1,n,[]⟩::rest)=List.replicate n.toNat .keep++fb rest by simp[fb,ji],It];have:(s'.data.toList.take s'.size)=s'.data.toList:=aY (by rw[bL];exact ah _);rw[this];simp
    clear zK tL hp HN Q0
    go_wp2_with fail
    refine(writeString W.heap.size w1.heap.size (Lib.byteCells out) (s'.extract 0 n.toNat) _ (x7 hib (Below.alloc (Below.refl _ _) (ah _) _)) (by rw[Lib.byteCells_length];have:=H1.out;have:=HL.out;omega) (by simp;omega)).mono ?_;rintro e w2 ⟨rfl,Iv,hb2,hk2⟩;have q9:=hk2 wr.heap.size _ _ _ qW qD (heap_alloc_new wr _);have q91:w2.cell? ⟨wr.heap.size,1,none⟩=some (.int .i64 n):=by rw[Lib.cell_of_heap q9];rfl
    have c1:=hb2.size
    go_wp2_with fail
    go_roundw
    case rel=>exact⟨pre++[⟨1,n,[]⟩],rest,s'.extract n.toNat s'.size,out++(s'.extract 0 n.toNat).data.toList,rfl,by rw[S7.out.2,dp];rfl,S7.out.1,H1.out.1,H1.out.2.2.1,H1.out.2.1,.inr (by rw[wZ] at Iv;exact Iv),(hb.alloc hb.size _).trans hb2,H2⟩
    case measure=>simp[intOf];omega
   ·rw[ae qD] at zK;rw[aa qD,ae qD] at tL;have YZ:n<=s'.size:=by have:=HR.out;omega
    have TC:0<=n:=by omega
    have H1:Hid (kU rest=((s'.extract n.toNat s'.size).size:Int)/\(out.length:Int)+iV rest=iV d/\(s'.extract n.toNat s'.size).size<=500):=by
     show _/\_/\_;rw[uu];have:=HR.out;refine⟨qW,qW,qW⟩
    have H2:Hid (o9 (fb d) s.data.toList=out++o9 (fb rest) (s'.extract n.toNat s'.size).data.toList):=by
     show _=_;rw[HN.out,x9,show fb (⟨3,n,[]⟩::rest)=List.replicate n.toNat .cut++fb rest by simp[fb,ji],MT];have:(s'.data.toList.take s'.size)=s'.data.toList:=aY (by rw[bL];exact ah _);rw[this]
    clear zK tL hp HN Q0
    go_wp2_with fail
    go_roundw
    case rel=>exact⟨pre++[⟨3,n,[]⟩],rest,s'.extract n.toNat s'.size,out,rfl,by rw[S7.out.2,dp];rfl,S7.out.1,H1.out.1,H1.out.2.2,H1.out.2.1,x7 hib (Below.alloc (Below.refl _ _) (ah _) _),hb.alloc hb.size _,H2⟩
    case measure=>simp[intOf];omega
end Go.Proofs.YtobngncjflogcaaGreat.S6
