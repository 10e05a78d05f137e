/-
  Part 8 of what the law WorldPlays reaches: the plain machine, contracts of the functions and plain laws; each lemma says its own condition.
-/
import Derived.Test.YtobngncjflogcaaGreatWorldPlays7
import Derived.Test.YtobngncjflogcaaGreatWorldPlays6
import Derived.Test.YtobngncjflogcaaGreatWorldPlays5
import Derived.WalkKit
import Derived.Lib.Strings
import Derived.Laws.Bits128
import Derived.Laws.BitsAllLaws
import Derived.Test.YtobngncjflogcaaGreatRows
import Derived.WalkSpells
import Derived.WalkLawsBesides
import Derived.Lib.Hide
import Derived.Laws.IdiomStrings
import Derived.Deep.RegionWith
import Derived.BigQuiet
import Derived.Test.YtobngncjflogcaaGreatWorldPlays4
namespace Go
def World.ob(w:World)(g:Nat)(T:TypeId)(cs:Array Value):World:= {w with heap:=w.heap.setIfInBounds g (.cells cs T (0,0))}
end Go
set_option linter.unusedVariables false
set_option linter.unusedSimpArgs false
namespace Go.Proofs.YtobngncjflogcaaGreat.AM
open Go
set_option maxRecDepth 100000
set_option maxHeartbeats 2000000
def iH(r:eX):Int:=if r.who<0\/7<r.who\/r.seq<0\/2147483647<r.seq then 1 else cF r.delta
def oB(cur:BS):List eX->List BS×Int
 |[]=>([],0)
 |r::l=>if iH r≠0 then([],iH r) else if(gP r.delta cur).2≠0 then([],(gP r.delta cur).2) else((gP r.delta cur).1::(oB (gP r.delta cur).1 l).1,(oB (gP r.delta cur).1 l).2)
def jb(base:BS)(l:List eX):List BS×Int:=if 500<base.length\/64<l.length then([],2) else if(oB base l).2≠0 then([],(oB base l).2) else(base::(oB base l).1,0)
theorem CY:∀(l:List eX)(cur:BS),(oB cur l).2=0->(oB cur l).1.length=l.length
 |[],_,_=>rfl
 |r::l,cur,h=>by
  unfold oB at h⊢
  split at h
  ·contradiction
  ·rename_i h1;rw[aa h1]
   split at h
   ·contradiction
   ·rename_i h2;rw[aa h2];simp only[ar];rw[CY l _ h]
theorem EM{base:BS}{l:List eX}(h:(jb base l).2=0):base.length<=500/\l.length<=64/\(oB base l).2=0/\(jb base l).1=base::(oB base l).1/\(jb base l).1.length=l.length+1:=by
 unfold jb at h⊢
 split at h
 ·contradiction
 ·rename_i h1;rw[aa h1]
  split at h
  ·contradiction
  ·rename_i h2;rw[aa h2];have h3:(oB base l).2=0:=aG h2;exact⟨qW,qW,h3,rfl,by simp[CY l base h3]⟩
def Hr:AC:=qr [qo 1 (.box 91 3 (.t 0)),qz 2 0] (qq (qr [qf 3 0 1,ql 4 3,qc 5 .lss 4 0,qm 6 5,qg 7 6 false (.faddr 0 (.t 1)),qg 8 6 false (.load1 (.t 7)),qg 9 6 false (.bin .gtr (.t 8) (qk 7)),qo 10 (.pick (.t 6) (.c (.bool true)) (.t 9)),qm 11 10,qg 12 11 false (.faddr 1 (.t 1)),qg 13 11 false (.load1 (.t 12)),qg 14 11 false (.bin .lss (.t 13) (qk 0)),qo 15 (.pick (.t 11) (.c (.bool true)) (.t 14)),qm 16 15,qg 17 16 false (.faddr 1 (.t 1)),qg 18 16 false (.load1 (.t 17)),qg 19 16 false (.bin .gtr (.t 18) (qk 2147483647)),qo 20 (.pick (.t 16) (.c (.bool true)) (.t 19))] (qu 20 (qr [qz 2 1] .ret) .skip)) (qr [qf 21 2 1,ql 22 21,qa 23 106 [.t 22],qm 2 23] .ret))
theorem ok_one:fo Tryz.prog 114 Tryz.f114 Hr [.t 2] 1 eV:=⟨Tryz.func114,by decide+kernel,by kernel_rfl,by kernel_rfl,by decide+kernel⟩
theorem Hs(P:Prim)(hP:P=ca)(T d:cp)(b:Bool)(w q:Int)(dr:List (List V))(c r:Int)(hc1:fZ T 106 [.sl b 3 dr] (qI c))(hr:(if w<0\/7<w\/q<0\/2147483647<q then 1 else c)=r)
  (R:S->Prop)(a:∀s s' x,x=r->a7 s s'->hX [.t 2] [qI x] s'->R s):fX P T d Hr (S0 [.agg [qI w,qI q,.sl b 3 dr]] Hp.emp) R (λ_ _=>False) R:=by
 cbv
 repeat'(first|(intro β;cbv)|(refine And.intro (by assumption) ?_;cbv)|(refine ab (λh=>?_) (λh=>?_)<;>try cbv)|(refine Exists.intro _ (And.intro (by assumption) ?_);cbv)|(refine hc1 _ _ ?_;cbv)|(refine e _ _ ?_;cbv)|(refine f _ _ ?_;cbv)|(refine g _ _ ?_;cbv)|(refine i _ _ ?_;cbv)|(refine j _ _ ?_;cbv)|(refine And.intro (by(clear a;subst hP;simp[ca,iU,nc] at* <;>first|omega|grind)) ?_;cbv))
 all_goals
  refine a _ _ _ ?_ (a7.refl _) rfl;clear a hc1;subst hP;simp[ca] at*;first|omega|grind
theorem Ht(r:eX)(hr:fw r.delta):Spec Tryz.prog 114 [.agg (a8 r)] Hp.emp (Is (.int .i64 (iH r))):=
 eW gY ok_one [.int .i64 (iH r)] (.int _ _) λR a=>Hs ca rfl _ _ false r.who r.seq (r.delta.map a6) (cF r.delta) (iH r) (iV (nA r.delta hr.1) rfl) rfl R λs s' x h he hq=>by subst h;exact a s s' he hq
def xY(r:eX):List V:=[.int .i64 r.who,.int .i64 r.seq,.sl true 3 (r.delta.map a6)]
theorem Mu(r:eX)(hr:fw r.delta):Spec Tryz.prog 114 [.agg (xY r)] Hp.emp (Is (.int .i64 (iH r))):=
 eW gY ok_one [.int .i64 (iH r)] (.int _ _) λR a=>Hs ca rfl _ _ true r.who r.seq (r.delta.map a6) (cF r.delta) (iH r) (fU (nA r.delta hr.1) (λ_=>.cons (.same _) .nil) rfl) rfl R λs s' x h he hq=>by subst h;exact a s s' he hq
def CZ:AC:=qr [qo 1 (.box 91 3 (.t 0)),qz 2 0] (qq (qr [qf 3 0 1,ql 4 3,qc 5 .lss 4 0,qm 6 5,qg 7 6 false (.faddr 0 (.t 1)),qg 8 6 false (.load1 (.t 7)),qg 9 6 false (.bin .gtr (.t 8) (qk 7)),qo 10 (.pick (.t 6) (.c (.bool true)) (.t 9)),qm 11 10,qg 12 11 false (.faddr 1 (.t 1)),qg 13 11 false (.load1 (.t 12)),qg 14 11 false (.bin .lss (.t 13) (qk 0)),qo 15 (.pick (.t 11) (.c (.bool true)) (.t 14)),qm 16 15,qg 17 16 false (.faddr 1 (.t 1)),qg 18 16 false (.load1 (.t 17)),qg 19 16 false (.bin .gtr (.t 18) (qk 2147483647)),qo 20 (.pick (.t 16) (.c (.bool true)) (.t 19))] (qu 20 (qr [qz 2 1] .ret) .skip)) (qr [qf 21 2 1,ql 22 21,qa 23 89 [.t 22],qm 2 23] .ret))
theorem Mw:fo Tryz.prog 118 Tryz.f118 CZ [.t 2] 1 eV:=⟨Tryz.func118,by decide+kernel,by kernel_rfl,by kernel_rfl,by decide+kernel⟩
theorem Mx(P:Prim)(hP:P=ca)(T b:cp)(w q:Int)(dr:List (List V))(c r:Int)(hc1:fZ T 89 [.sl false 3 dr] (qI c))(hr:(if w<0\/7<w\/q<0\/2147483647<q then 1 else c)=r)
  (R:S->Prop)(a:∀s s' x,x=r->a7 s s'->hX [.t 2] [qI x] s'->R s):fX P T b CZ (S0 [.agg [qI w,qI q,.sl false 3 dr]] Hp.emp) R (λ_ _=>False) R:=by
 cbv
 repeat'(first|(intro β;cbv)|(refine And.intro (by assumption) ?_;cbv)|(refine ab (λh=>?_) (λh=>?_)<;>try cbv)|(refine Exists.intro _ (And.intro (by assumption) ?_);cbv)|(refine hc1 _ _ ?_;cbv)|(refine d _ _ ?_;cbv)|(refine e _ _ ?_;cbv)|(refine f _ _ ?_;cbv)|(refine g _ _ ?_;cbv)|(refine i _ _ ?_;cbv)|(refine And.intro (by(clear a;subst hP;simp[ca,iU,nc] at* <;>first|omega|grind)) ?_;cbv))
 all_goals
  refine a _ _ _ ?_ (a7.refl _) rfl;clear a hc1;subst hP;simp[ca] at*;first|omega|grind
theorem C0(r:eX)(hr:fw r.delta):Spec Tryz.prog 118 [.agg (a8 r)] Hp.emp (Is (.int .i64 (iH r))):=
 eW gY Mw [.int .i64 (iH r)] (.int _ _) λR a=>Mx ca rfl _ _ r.who r.seq (r.delta.map a6) (cF r.delta) (iH r) (iV (gU r.delta hr.1) rfl) rfl R λs s' x h he hq=>by subst h;exact a s s' he hq
structure XT(base:BS)(l:List eX) where
 k:Int
 pre:List eX
 rest:List eX
 acc:List BS
 cur:BS
 n:Nat
 b:Option Nat
 rows:List (List V)
 hd:l=pre++rest
 hk:k=(pre.length:Int)
 dS:rows=ds (acc++[cur])
 Hu:acc.length=pre.length
 hn:n=pre.length+1
 h1:(acc++[cur])++(oB cur rest).1=base::(oB base l).1
 h2:(oB cur rest).2=(oB base l).2
def xZ(a:List Part->List (List V))(l:List eX):List (List V):=l.map λr=>[.int .i64 r.who,.int .i64 r.seq,.sl false 3 (a r.delta)]
def zG:AC:=qr [qo 4 (.mov (.c (.slice none 0 0))),qz 5 0] (qq (qr [qm 12 0,qo 13 (.len true (.t 12)),qc 14 .gtr 13 500,qm 15 14,qg 16 15 false (.mov (.t 1)),qg 17 15 false (.len false (.t 16)),qg 18 15 false (.bin .gtr (.t 17) (qk 64)),qo 19 (.pick (.t 15) (.c (.bool true)) (.t 18))] (qu 19 (qr [qo 4 (.mov (.c (.slice none 0 0))),qz 5 2] .ret) .skip)) (qr [qm 20 0,qo 21 (.bslice 9 1 [.t 20]),qm 6 21] (qq (qr [qm 22 1,qo 23 (.len false (.t 22)),qz 24 0] (.block 0 (.loop (qr [qb 25 .lss 24 23] (qq (qu 25 .skip (.exit 0)) (qq (.block 1 (qr [qo 26 (.iaddr 3 (.t 22) (.t 24)),qd 27 3 26,qo 8 (.alloc 91 F4),qs 3 8 27] (qq (qr [qd 28 3 8,qa 29 114 [.t 28],qm 9 29] (qr [qm 30 9,qc 31 .neq 30 0] (qu 31 (qr [qm 32 9,qo 4 (.mov (.c (.slice none 0 0))),qm 5 32] .ret) .skip))) (qq (.region true [qf 34 2 8,ql 35 34,qm 36 6,qm 37 6,qo 38 (.len false (.t 37)),qc 39 .sub 38 1,qo 40 (.iaddr 1 (.t 36) (.t 39)),ql 41 40,qa 42 79 [.t 35,.t 41],qm 33 42,qx 43 0 33,qx 44 1 33,qm 10 43,qm 11 44]) (qq (qr [qm 45 11,qc 46 .neq 45 0] (qu 46 (qr [qm 47 11,qo 4 (.mov (.c (.slice none 0 0))),qm 5 47] .ret) .skip)) (qR [qm 48 6,qm 49 10,qo 50 (.bslice 9 1 [.t 49]),qo 51 (.append 9 1 16 (.t 48) (.t 50)),qm 6 51])))))) (qR [qc 52 .add 24 1,qm 24 52]))))))) (qr [qm 53 6,qm 4 53,qz 5 0] .ret))))
theorem Hv:fo Tryz.prog 113 Tryz.f113 zG [.t 4,.t 5] 2 eV:=⟨Tryz.func113,by decide+kernel,by kernel_rfl,by kernel_rfl,by decide+kernel⟩
theorem Hw(P:Prim)(hP:P=ca)(T W:cp)(base:BS)(l:List eX)(G:List Part->List (List V))(rows:List (List V))(dS:rows=xZ G l)
  (v:Int->Int->List Part->Int)(H:∀w q d,v w q d=iH ⟨w,q,d⟩)(p:List Part->BS->BS)(z:List Part->BS->Int)(I:∀d s,p d s=(gP d s).1)(J:∀d s,z d s=(gP d s).2)
  (m:∀w q d,⟨w,q,d⟩∈l->fZ T 114 [.agg [qI w,qI q,.sl false 3 (G d)]] (qI (v w q d)))
  (A:∀w q d s,⟨w,q,d⟩∈l->fZ W 79 [.sl false 3 (G d),.str s] (.tup [.str (p d s),qI (z d s)]))
  (t:List BS)(e:Int)(ht:jb base l=(t,e))
  (R:S->Prop)(B:∀x,x=e->tI [.t 4,.t 5] 1 (ds t) [qI x] R):fX P T W zG (S0 [.str base,.sl true 3 rows] Hp.emp) R (λ_ _=>False) R:=by
 have j:P.da rows=(l.length:Int):=by rw[gi hP,dS];simp[xZ]
 have hb1:P.eP base=(base.length:Int):=eF hP base;have f:500<base.length\/64<l.length->t=[]/\e=2:=by
  intro h;unfold jb at ht;rw[ae h] at ht;simp only[aX] at ht;exact⟨ht.1.symm,ht.2.symm⟩
 cbv;refine ab (λh=>?_) (λh=>?_)
 ·have h3:500<P.eP base:=fA hP h;rw[hb1] at h3;obtain⟨g1,g2⟩:=f (.inl qO);cbv;exact(B _ g2.symm).1 _ _ (a7.refl _) rfl (by rw[g1];rfl)
 have h3:¬500<P.eP base:=fg hP h;rw[hb1] at h3;cbv;refine ab (λh=>?_) (λh=>?_)
 ·have h4:64<P.da rows:=fA hP h;rw[j] at h4;obtain⟨g1,g2⟩:=f (.inr qO);cbv;exact(B _ g2.symm).1 _ _ (a7.refl _) rfl (by rw[g1];rfl)
 have h4:¬64<P.da rows:=fg hP h;rw[j] at h4;have X:l.length<=64:=by((try simp only[nc] at*);omega)
 have K:t=(if(oB base l).2≠0 then[] else base::(oB base l).1)/\e=(oB base l).2:=by
  unfold jb at ht;rw[aa qO] at ht
  split at ht
  ·rename_i h;simp only[aX] at ht;rw[ae h];exact⟨ht.1.symm,ht.2.symm⟩
  ·rename_i h;simp only[aX] at ht;rw[aa h];exact⟨ht.1.symm,qW⟩
 obtain⟨c,g⟩:=K;clear f ht h;cbv;intro Y;cbv;refine⟨XT base l,λy=>[(6,.own 1000021 y.b 1 y.n),(22,.sl true 3 rows),(23,qI (P.da rows)),(24,qI y.k)],
  λy=>[(1000021,⟨y.b,9,1,y.rows⟩)],λy=>y.rest.length,
  ⟨_,a7.refl _,⟨0,[],l,[],base,_,_,_,rfl,rfl,rfl,rfl,rfl,rfl,rfl⟩,⟨rfl,rfl,rfl,rfl,trivial⟩,⟨rfl,trivial⟩⟩,?_⟩
 rintro⟨k,pre,rest,acc,cur,n,b,gB,hd,hk,a,Hu,hn,h1,h2⟩;have C:pre.length+rest.length=l.length:=by rw[hd];simp
 cbv;refine ab (λh=>?_) (λh=>?_)
 ·have h5:k<P.da rows:=fA hP h;rw[j] at h5
  rcases rest with _|⟨⟨w,q,d⟩,rest⟩
  ·exfalso;simp at C;((try simp only[nc] at*);omega)
  have o:(⟨w,q,d⟩:eX)∈l:=by rw[hd];simp
  have c1:=m w q d o;have Z:=A w q d cur o;have D:P.row rows (P.nat k) [qI w,qI q,.sl false 3 (G d)]:=fL hP hk (by rw[dS,xZ,av,hd];simp);have L:P.fQ 0 k:=iQ hP qO;have Vr:P.i64 (P.add k 1):=by rw[add_eq hP];exact ft hP qO
  have jF:P.sub (P.int n) 1=((pre.length:Nat):Int):=by rw[sub_eq hP,int_eq hP,hn];((try simp only[nc] at*);omega)
  have M:P.i64 (P.sub (P.int n) 1):=by rw[jF];exact ft hP qO
  have N:P.fQ 0 (P.sub (P.int n) 1):=iQ hP (by rw[jF];((try simp only[nc] at*);omega));have O:P.iw (P.sub (P.int n) 1) (P.int n):=kZ hP (by rw[jF,int_eq hP,hn];((try simp only[nc] at*);omega));have u:P.row gB (P.nat (P.sub (P.int n) 1)) [.str cur]:=fL hP jF (by rw[a,ds,av,<-Hu];simp);have Wy:P.oc gB n:=by subst hP;show gB.length=n;rw[a,hn];simp[ds,Hu]
  have Q:∀r,P.bytes (P.add (P.int n) (P.da [r])) 16:=by intro r;subst hP;show((n:Int)+1)*16<=_;((try simp only[nc] at*);omega)
  have U:∀r,P.oc [r] 1:=by intro r;subst hP;rfl
  have i:oB cur (⟨w,q,d⟩::rest)=if v w q d≠0 then([],v w q d) else if z d cur≠0 then([],z d cur) else(p d cur::(oB (p d cur) rest).1,(oB (p d cur) rest).2):=by rw[H,J,I];rfl
  rw[i] at h1 h2;clear m A i;cbv;refine⟨L,_,D,?_⟩;cbv;intro Y8;cbv;refine c1 _ _ ?_;cbv;refine ab (λh=>?_) (λh=>?_)
  ·have hz:v w q d≠0:=fE hP h;rw[ae hz] at h2;simp only[] at h2;rw[<-h2] at c g;rw[ae hz] at c;cbv;exact(B _ g.symm).1 _ _ (a7.refl _) rfl (by rw[c];rfl)
  have hz:v w q d=0:=fD hP h;rw[aa (λh=>h hz)] at h1 h2;cbv;refine⟨M,N,O,_,u,?_⟩;cbv;refine Z _ _ ?_;cbv;refine ab (λh=>?_) (λh=>?_)
  ·have hy:z d cur≠0:=fE hP h;rw[ae hy] at h2;simp only[] at h2;rw[<-h2] at c g;rw[ae hy] at c;cbv;exact(B _ g.symm).1 _ _ (a7.refl _) rfl (by rw[c];rfl)
  have hy:z d cur=0:=fD hP h;rw[aa (λh=>h hy)] at h1 h2;cbv
  repeat' first|(refine And.intro (by assumption) ?_;cbv)|(refine And.intro (U _) ?_;cbv)|(refine And.intro (Q _) ?_;cbv)|(intro β;cbv)
  refine⟨_,a7.refl _,⟨_,pre++[⟨w,q,d⟩],rest,acc++[cur],p d cur,_,_,_,by simp[hd],?_,?_,by simp[Hu],?_,by rw[<-h1];simp,h2⟩,⟨rfl,rfl,rfl,rfl,trivial⟩,⟨rfl,trivial⟩,by simp⟩
  ·show P.add k 1=_;rw[add_eq hP,hk];simp
  ·show P.je gB [[.str (p d cur)]]=_;rw[a];subst hP;simp[ca,ds]
  ·show P.jf n (P.gp [_])=_;subst hP;simp[ca,hn]
 ·have h5:¬k<P.da rows:=fg hP h;rw[j] at h5
  rcases rest with _|⟨r,rest⟩
  rotate_left
  ·exfalso;simp at C;((try simp only[nc] at*);omega)
  have E:(oB base l).2=0:=by rw[<-h2];rfl
  rw[E,aa qD] at c;rw[E] at g;have F:acc++[cur]=t:=by rw[c,<-h1];simp[oB]
  cbv;exact(B _ g.symm).2.1 _ _ _ _ _ _ _ (a7.refl _) rfl rfl ⟨by rw[<-F,hn];simp[ds,Hu],by rw[<-F,a]⟩
theorem Qx{rv:List RV}{t:List BS}{e:Int}{R:S->Prop}(a:∀s s',a7 s s'->zk rv (.tup [.sl false 1 (ds t),.int .i64 e]) s'->R s):∀x,x=e->tI rv 1 (ds t) [.int .i64 x] R:=λx hx=>by
 subst hx;exact mu (vp _) (jl _) (xS _) λs s' he hr=>a s s' he hr
theorem Hx{f:Nat}{d:List Part}{vs:List V}{v:V}(h:Spec Tryz.prog f (.sl true 3 (d.map a6)::vs) Hp.emp (Is v))(hv:v.gA (gI [])=v)(a:vs.all V.pl=true):fZ (fj Tryz.prog) f (fc d::vs) v:=qi h (λ_=>.cons (.j8 _ _) (gf a)) hv
theorem Hy(base:BS)(l:List eX)(hl:mj l):Spec Tryz.prog 113 [.str base,.sl true 3 (l.map a8)] Hp.emp (Is (.tup [.sl false 1 (ds (jb base l).1),.int .i64 (jb base l).2])):=
 hH gY Hv λR a=>Hw ca rfl _ _ base l (λd=>d.map a6) _ rfl (λw q d=>iH ⟨w,q,d⟩) (λ_ _ _=>rfl) (λd s=>(gP d s).1) (λd s=>(gP d s).2) (λ_ _=>rfl) (λ_ _=>rfl)
  (λw q d hm=>fU (Ht ⟨w,q,d⟩ (hl.2 _ hm).2.2) (λh=>.cons (.same _) .nil) rfl)
  (λw q d s hm=>Hx (xe d (hl.2 _ hm).2.2.1 s) rfl rfl) _ _ rfl R (Qx a)
def mU(base:BS)(l:List eX)(k:Int):BS×Int:=if(jb base l).2≠0 then([],(jb base l).2) else if k<0\/(l.length:Int)<k then([],1) else((jb base l).1.getD k.toNat [],0)
def C1:AC:=qr [qo 6 (.mov (.c qe)),qz 7 0] (qr [qm 11 0,qm 12 1,qa 13 113 [.t 11,.t 12],qm 10 13,qx 14 0 10,qx 15 1 10,qm 8 14,qm 9 15] (qq (qr [qm 16 9,qc 17 .neq 16 0] (qu 17 (qr [qm 18 9,qo 6 (.mov (.c qe)),qm 7 18] .ret) .skip)) (qq (qr [qm 19 2,qc 20 .lss 19 0,qm 21 20,qg 22 21 false (.mov (.t 2)),qg 23 21 false (.mov (.t 1)),qg 24 21 false (.len false (.t 23)),qg 25 21 false (.bin .gtr (.t 22) (.t 24)),qo 26 (.pick (.t 21) (.c (.bool true)) (.t 25))] (qu 26 (qr [qo 6 (.mov (.c qe)),qz 7 1] .ret) .skip)) (qr [qm 27 8,qm 28 2,qo 29 (.iaddr 1 (.t 27) (.t 28)),ql 30 29,qm 6 30,qz 7 0] .ret))))
theorem My:fo Tryz.prog 76 Tryz.f76 C1 [.t 6,.t 7] 3 eV:=⟨Tryz.func76,by decide+kernel,by kernel_rfl,by kernel_rfl,by decide+kernel⟩
theorem Mz(P:Prim)(hP:P=ca)(T d:cp)(base:BS)(rows c:List (List V))(e k n:Int)(s:BS)(hn:P.da rows=n)(hc1:fZ T 113 [.str base,.sl true 3 rows] (.tup [.sl false 1 c,qI e]))
  (r:BS)(f:Int)(h1:e≠0->r=[]/\e=f)(h2:e=0->k<0\/n<k->r=[]/\1=f)(h3:e=0->0<=k->k<=n->P.row c (P.nat k) [.str s]/\s=r/\0=f)
  (R:S->Prop)(a:∀s s' x y,x=r/\y=f->a7 s s'->hX [.t 6,.t 7] [.str x,qI y] s'->R s):fX P T d C1 (S0 [.str base,.sl true 3 rows,qI k] Hp.emp) R (λ_ _=>False) R:=by
 cbv;refine hc1 _ _ ?_;cbv;refine ab (λh=>?_) (λh=>?_)
 ·have hz:=fE hP h;cbv;exact a _ _ _ _ ⟨(h1 hz).1.symm,(h1 hz).2⟩ (a7.refl _) rfl
 have hz:=fD hP h;cbv;refine ab (λh=>?_) (λh=>?_)
 ·have hk:=fA hP h;cbv;exact a _ _ _ _ ⟨(h2 hz (.inl hk)).1.symm,(h2 hz (.inl hk)).2⟩ (a7.refl _) rfl
 have hk:=fg hP h;cbv;refine ab (λh=>?_) (λh=>?_)
 ·have hk2:P.da rows<k:=fA hP h;rw[hn] at hk2;cbv;exact a _ _ _ _ ⟨(h2 hz (.inr hk2)).1.symm,(h2 hz (.inr hk2)).2⟩ (a7.refl _) rfl
 have hk2:¬P.da rows<k:=fg hP h;rw[hn] at hk2;obtain⟨g1,g2,g3⟩:=h3 hz qW qW;have b:P.fQ 0 k:=iQ hP qW;cbv;refine⟨b,_,g1,?_⟩;cbv;exact a _ _ _ _ ⟨g2,g3⟩ (a7.refl _) rfl
theorem BP{base:BS}{l:List eX}{k:Int}(he:(jb base l).2=0)(h0:0<=k)(h1:k<=l.length):(jb base l).1[k.toNat]? =some ((jb base l).1.getD k.toNat []):=by
 obtain⟨_,_,_,_,h⟩:=EM he;rw[aA,af qW];rfl
theorem MA(base:BS)(l:List eX)(k:Int)(hl:mj l):Spec Tryz.prog 76 [.str base,.sl true 3 (l.map a8),.int .i64 k] Hp.emp (Is (.tup [.str (mU base l k).1,.int .i64 (mU base l k).2])):=
 eW gY My [.str (mU base l k).1,.int .i64 (mU base l k).2] (.tup _ (by simp;exact⟨.str _,.int _ _⟩)) λR a=>Mz ca rfl _ _ base _ (ds (jb base l).1) (jb base l).2 k l.length ((jb base l).1.getD k.toNat []) (by show((l.map a8).length:Int)=_;simp)
  (fU (Hy base l hl) (λh=>.cons (.same _) (.cons (.same _) .nil)) rfl) (mU base l k).1 (mU base l k).2 (λh=>by unfold mU;rw[ae h];exact⟨rfl,rfl⟩) (λh h'=>by unfold mU;rw[aa (λg=>g h),ae h'];exact⟨rfl,rfl⟩)
  (λh h0 h1=>by
   refine⟨fL rfl (i:=k.toNat) qW (by rw[ds,av,BP h h0 h1];rfl),?_⟩;unfold mU;rw[aa (λg=>g h),aa qW];exact⟨rfl,rfl⟩)
  R λs s' x y h he hr=>by obtain⟨rfl,rfl⟩:=h;exact a s s' he hr
def iD(l:List Int):List (List V):=l.map λn=>[.int .i64 n]
theorem Hz(l:List Int):∀r∈iD l,r.length=1:=by
 intro r hr;simp only[iD,aC] at hr;obtain⟨a,_,rfl⟩:=hr;rfl
theorem HA(l:List Int):∀r∈iD l,∀v∈r,Fz v:=by
 intro r hr;simp only[iD,aC] at hr;obtain⟨a,_,rfl⟩:=hr;intro v hv;simp only[aw] at hv;subst hv;exact .int _ _
theorem HB{f:Nat}{l:List Int}{vs:List V}{v:V}(h:Spec Tryz.prog f (.sl true 1 (iD l)::vs) Hp.emp (Is v))(hv:v.gA (gI [])=v)(a:vs.all V.pl=true):fZ (fa Tryz.prog) f (.sl false 1 (iD l)::vs) v:=fU h (λ_=>.cons (.j8 _ _) (gf a)) hv
def zH:AC:=qr [qo 3 (.box 72 38 (.t 0)),qo 5 (.box 91 3 (.t 2)),qz 6 0] (qq (qr [qd 8 3 5,qa 9 114 [.t 8],qm 7 9] (qr [qm 10 7,qc 11 .neq 10 0] (qu 11 (qr [qm 12 7,qm 6 12] .ret) .skip))) (qq (qq (.region true [qf 13 1 5,ql 14 13,qf 15 0 5,ql 16 15,qf 17 19 3,qo 18 (.iarr 8 2 (.t 17) (.t 16)),qf 19 0 18,ql 20 19,qb 21 .leq 14 20]) (qu 21 (qr [qz 6 10] .ret) .skip)) (qq (qr [qf 22 35 3,ql 23 22,qo 24 (.len false (.t 23)),qc 25 .geq 24 64,qm 26 25,qg 27 26 false (.faddr 1 (.t 3)),qg 28 26 false (.load1 (.t 27)),qg 29 26 false (.faddr 35 (.t 3)),qg 30 26 false (.load1 (.t 29)),qg 31 26 false (.len false (.t 30)),qg 32 26 false (.bin .add (.t 28) (.t 31)),qg 33 26 false (.bin .geq (.t 32) (qk 2147483647)),qo 34 (.pick (.t 26) (.c (.bool true)) (.t 33))] (qu 34 (qr [qz 6 11] .ret) .skip)) (qr [qf 35 2 5,ql 36 35,qm 37 1,qa 38 56 [.t 36,.t 37],qm 6 38] .ret))))
theorem HJ:fo Tryz.prog 77 Tryz.f77 zH [.t 6] 3 eV:=⟨Tryz.func77,by decide+kernel,by kernel_rfl,by kernel_rfl,by decide+kernel⟩
theorem HO(P:Prim)(hP:P=ca)(T z:cp)(gn b gd w q sz o f n:Int)(tx:BS)(fs tb:Nat->Int)(rv dr:List (List V))(wh A:Bool)(hn:P.da rv=n)(hb:0<=b/\b<=2147483647)
  (hc1:fZ T 114 [.agg [qI w,qI q,.sl false 3 dr]] (qI o))(hw:o=0->w=0\/w=1\/w=2\/w=3\/w=4\/w=5\/w=6\/w=7)(j:o=0->fZ T 56 [.sl false 3 dr,qI sz] (qI f))
  (res:Int)(g1:o≠0->o=res)(g2:o=0->q<=tb (2*w.toNat)->10=res)(g3:o=0->¬q<=tb (2*w.toNat)->64<=n\/2147483647<=b+n->11=res)(g4:o=0->¬q<=tb (2*w.toNat)->¬(64<=n\/2147483647<=b+n)->f=res)(B:0<=n)
  (R:S->Prop)(d:∀s s' x,x=res->a7 s s'->hX [.t 6] [qI x] s'->R s):fX P T z zH (S0 [.agg [qI gn,qI b,.str tx,qI (fs 0),qI (fs 1),qI (fs 2),qI (fs 3),qI (fs 4),qI (fs 5),qI (fs 6),qI (fs 7),qI (fs 8),qI (fs 9),qI (fs 10),qI (fs 11),qI (fs 12),qI (fs 13),qI (fs 14),qI (fs 15),qI (tb 0),qI (tb 1),qI (tb 2),qI (tb 3),qI (tb 4),qI (tb 5),qI (tb 6),qI (tb 7),qI (tb 8),qI (tb 9),qI (tb 10),qI (tb 11),qI (tb 12),qI (tb 13),qI (tb 14),qI (tb 15),.sl A 3 rv,.bool wh,qI gd],qI sz,.agg [qI w,qI q,.sl false 3 dr]] Hp.emp) R (λ_ _=>False) R:=by
 have k:P.nat 0=0:=by subst hP;rfl
 have l:P.nat 1=1:=by subst hP;rfl
 have m:P.nat 2=2:=by subst hP;rfl
 have p:P.nat 3=3:=by subst hP;rfl
 have r:P.nat 4=4:=by subst hP;rfl
 have u:P.nat 5=5:=by subst hP;rfl
 have v:P.nat 6=6:=by subst hP;rfl
 have y:P.nat 7=7:=by subst hP;rfl
 have e:∀i:Nat,i<8->P.fQ 0 (i:Int)/\P.iw (i:Int) 8:=λi hi=>⟨iQ hP qW,kZ hP qW⟩;cbv;intro C;cbv;intro D;cbv;refine hc1 _ _ ?_;clear hc1;cbv;refine ab (λh=>?_) (λh=>?_)
 ·have hz:=fE hP h;cbv;exact d _ _ _ (g1 hz) (a7.refl _) rfl
 have hz:=fD hP h;have hw:=hw hz;have g:=j hz
 replace g2:=g2 hz
 replace g3:=g3 hz
 replace g4:=g4 hz
 clear g1 j h;cbv
 rcases hw with rfl|rfl|rfl|rfl|rfl|rfl|rfl|rfl
 ·have q1:P.fQ 0 0:=(e 0 qD).1;have q2:P.iw 0 8:=(e 0 qD).2;refine⟨q1,q2,0,k,?_⟩;cbv;refine ab (λh=>?_) (λh=>?_)
  ·have hq:=iG hP h;cbv;exact d _ _ _ (g2 hq) (a7.refl _) rfl
  have hq:=iA hP h
  replace g3:=g3 hq
  replace g4:=g4 hq
  cbv;refine ab (λh=>?_) (λh=>?_)
  ·have a:64<=P.da rv:=iG hP h;rw[hn] at a;cbv;exact d _ _ _ (g3 (.inl qW)) (a7.refl _) rfl
  have a:¬64<=P.da rv:=iA hP h;rw[hn] at a;have o1:P.i64 (P.add b (P.da rv)):=by rw[add_eq hP,hn];exact ft hP qW
  cbv;refine⟨o1,?_⟩;refine ab (λh=>?_) (λh=>?_)
  ·have c:2147483647<=P.add b (P.da rv):=iG hP h;rw[add_eq hP,hn] at c;cbv;exact d _ _ _ (g3 (.inr qW)) (a7.refl _) rfl
  have c:¬2147483647<=P.add b (P.da rv):=iA hP h;rw[add_eq hP,hn] at c;cbv;refine g _ _ ?_;cbv;exact d _ _ _ (g4 qW) (a7.refl _) rfl
 ·have q1:P.fQ 0 1:=(e 1 qD).1;have q2:P.iw 1 8:=(e 1 qD).2;refine⟨q1,q2,1,l,?_⟩;cbv;refine ab (λh=>?_) (λh=>?_)
  ·have hq:=iG hP h;cbv;exact d _ _ _ (g2 hq) (a7.refl _) rfl
  have hq:=iA hP h
  replace g3:=g3 hq
  replace g4:=g4 hq
  cbv;refine ab (λh=>?_) (λh=>?_)
  ·have a:64<=P.da rv:=iG hP h;rw[hn] at a;cbv;exact d _ _ _ (g3 (.inl qW)) (a7.refl _) rfl
  have a:¬64<=P.da rv:=iA hP h;rw[hn] at a;have o1:P.i64 (P.add b (P.da rv)):=by rw[add_eq hP,hn];exact ft hP qW
  cbv;refine⟨o1,?_⟩;refine ab (λh=>?_) (λh=>?_)
  ·have c:2147483647<=P.add b (P.da rv):=iG hP h;rw[add_eq hP,hn] at c;cbv;exact d _ _ _ (g3 (.inr qW)) (a7.refl _) rfl
  have c:¬2147483647<=P.add b (P.da rv):=iA hP h;rw[add_eq hP,hn] at c;cbv;refine g _ _ ?_;cbv;exact d _ _ _ (g4 qW) (a7.refl _) rfl
 ·have q1:P.fQ 0 2:=(e 2 qD).1;have q2:P.iw 2 8:=(e 2 qD).2;refine⟨q1,q2,2,m,?_⟩;cbv;refine ab (λh=>?_) (λh=>?_)
  ·have hq:=iG hP h;cbv;exact d _ _ _ (g2 hq) (a7.refl _) rfl
  have hq:=iA hP h
  replace g3:=g3 hq
  replace g4:=g4 hq
  cbv;refine ab (λh=>?_) (λh=>?_)
  ·have a:64<=P.da rv:=iG hP h;rw[hn] at a;cbv;exact d _ _ _ (g3 (.inl qW)) (a7.refl _) rfl
  have a:¬64<=P.da rv:=iA hP h;rw[hn] at a;have o1:P.i64 (P.add b (P.da rv)):=by rw[add_eq hP,hn];exact ft hP qW
  cbv;refine⟨o1,?_⟩;refine ab (λh=>?_) (λh=>?_)
  ·have c:2147483647<=P.add b (P.da rv):=iG hP h;rw[add_eq hP,hn] at c;cbv;exact d _ _ _ (g3 (.inr qW)) (a7.refl _) rfl
  have c:¬2147483647<=P.add b (P.da rv):=iA hP h;rw[add_eq hP,hn] at c;cbv;refine g _ _ ?_;cbv;exact d _ _ _ (g4 qW) (a7.refl _) rfl
 ·have q1:P.fQ 0 3:=(e 3 qD).1;have q2:P.iw 3 8:=(e 3 qD).2;refine⟨q1,q2,3,p,?_⟩;cbv;refine ab (λh=>?_) (λh=>?_)
  ·have hq:=iG hP h;cbv;exact d _ _ _ (g2 hq) (a7.refl _) rfl
  have hq:=iA hP h
  replace g3:=g3 hq
  replace g4:=g4 hq
  cbv;refine ab (λh=>?_) (λh=>?_)
  ·have a:64<=P.da rv:=iG hP h;rw[hn] at a;cbv;exact d _ _ _ (g3 (.inl qW)) (a7.refl _) rfl
  have a:¬64<=P.da rv:=iA hP h;rw[hn] at a;have o1:P.i64 (P.add b (P.da rv)):=by rw[add_eq hP,hn];exact ft hP qW
  cbv;refine⟨o1,?_⟩;refine ab (λh=>?_) (λh=>?_)
  ·have c:2147483647<=P.add b (P.da rv):=iG hP h;rw[add_eq hP,hn] at c;cbv;exact d _ _ _ (g3 (.inr qW)) (a7.refl _) rfl
  have c:¬2147483647<=P.add b (P.da rv):=iA hP h;rw[add_eq hP,hn] at c;cbv;refine g _ _ ?_;cbv;exact d _ _ _ (g4 qW) (a7.refl _) rfl
 ·have q1:P.fQ 0 4:=(e 4 qD).1;have q2:P.iw 4 8:=(e 4 qD).2;refine⟨q1,q2,4,r,?_⟩;cbv;refine ab (λh=>?_) (λh=>?_)
  ·have hq:=iG hP h;cbv;exact d _ _ _ (g2 hq) (a7.refl _) rfl
  have hq:=iA hP h
  replace g3:=g3 hq
  replace g4:=g4 hq
  cbv;refine ab (λh=>?_) (λh=>?_)
  ·have a:64<=P.da rv:=iG hP h;rw[hn] at a;cbv;exact d _ _ _ (g3 (.inl qW)) (a7.refl _) rfl
  have a:¬64<=P.da rv:=iA hP h;rw[hn] at a;have o1:P.i64 (P.add b (P.da rv)):=by rw[add_eq hP,hn];exact ft hP qW
  cbv;refine⟨o1,?_⟩;refine ab (λh=>?_) (λh=>?_)
  ·have c:2147483647<=P.add b (P.da rv):=iG hP h;rw[add_eq hP,hn] at c;cbv;exact d _ _ _ (g3 (.inr qW)) (a7.refl _) rfl
  have c:¬2147483647<=P.add b (P.da rv):=iA hP h;rw[add_eq hP,hn] at c;cbv;refine g _ _ ?_;cbv;exact d _ _ _ (g4 qW) (a7.refl _) rfl
 ·have q1:P.fQ 0 5:=(e 5 qD).1;have q2:P.iw 5 8:=(e 5 qD).2;refine⟨q1,q2,5,u,?_⟩;cbv;refine ab (λh=>?_) (λh=>?_)
  ·have hq:=iG hP h;cbv;exact d _ _ _ (g2 hq) (a7.refl _) rfl
  have hq:=iA hP h
  replace g3:=g3 hq
  replace g4:=g4 hq
  cbv;refine ab (λh=>?_) (λh=>?_)
  ·have a:64<=P.da rv:=iG hP h;rw[hn] at a;cbv;exact d _ _ _ (g3 (.inl qW)) (a7.refl _) rfl
  have a:¬64<=P.da rv:=iA hP h;rw[hn] at a;have o1:P.i64 (P.add b (P.da rv)):=by rw[add_eq hP,hn];exact ft hP qW
  cbv;refine⟨o1,?_⟩;refine ab (λh=>?_) (λh=>?_)
  ·have c:2147483647<=P.add b (P.da rv):=iG hP h;rw[add_eq hP,hn] at c;cbv;exact d _ _ _ (g3 (.inr qW)) (a7.refl _) rfl
  have c:¬2147483647<=P.add b (P.da rv):=iA hP h;rw[add_eq hP,hn] at c;cbv;refine g _ _ ?_;cbv;exact d _ _ _ (g4 qW) (a7.refl _) rfl
 ·have q1:P.fQ 0 6:=(e 6 qD).1;have q2:P.iw 6 8:=(e 6 qD).2;refine⟨q1,q2,6,v,?_⟩;cbv;refine ab (λh=>?_) (λh=>?_)
  ·have hq:=iG hP h;cbv;exact d _ _ _ (g2 hq) (a7.refl _) rfl
  have hq:=iA hP h
  replace g3:=g3 hq
  replace g4:=g4 hq
  cbv;refine ab (λh=>?_) (λh=>?_)
  ·have a:64<=P.da rv:=iG hP h;rw[hn] at a;cbv;exact d _ _ _ (g3 (.inl qW)) (a7.refl _) rfl
  have a:¬64<=P.da rv:=iA hP h;rw[hn] at a;have o1:P.i64 (P.add b (P.da rv)):=by rw[add_eq hP,hn];exact ft hP qW
  cbv;refine⟨o1,?_⟩;refine ab (λh=>?_) (λh=>?_)
  ·have c:2147483647<=P.add b (P.da rv):=iG hP h;rw[add_eq hP,hn] at c;cbv;exact d _ _ _ (g3 (.inr qW)) (a7.refl _) rfl
  have c:¬2147483647<=P.add b (P.da rv):=iA hP h;rw[add_eq hP,hn] at c;cbv;refine g _ _ ?_;cbv;exact d _ _ _ (g4 qW) (a7.refl _) rfl
 ·have q1:P.fQ 0 7:=(e 7 qD).1;have q2:P.iw 7 8:=(e 7 qD).2;refine⟨q1,q2,7,y,?_⟩;cbv;refine ab (λh=>?_) (λh=>?_)
  ·have hq:=iG hP h;cbv;exact d _ _ _ (g2 hq) (a7.refl _) rfl
  have hq:=iA hP h
  replace g3:=g3 hq
  replace g4:=g4 hq
  cbv;refine ab (λh=>?_) (λh=>?_)
  ·have a:64<=P.da rv:=iG hP h;rw[hn] at a;cbv;exact d _ _ _ (g3 (.inl qW)) (a7.refl _) rfl
  have a:¬64<=P.da rv:=iA hP h;rw[hn] at a;have o1:P.i64 (P.add b (P.da rv)):=by rw[add_eq hP,hn];exact ft hP qW
  cbv;refine⟨o1,?_⟩;refine ab (λh=>?_) (λh=>?_)
  ·have c:2147483647<=P.add b (P.da rv):=iG hP h;rw[add_eq hP,hn] at c;cbv;exact d _ _ _ (g3 (.inr qW)) (a7.refl _) rfl
  have c:¬2147483647<=P.add b (P.da rv):=iA hP h;rw[add_eq hP,hn] at c;cbv;refine g _ _ ?_;cbv;exact d _ _ _ (g4 qW) (a7.refl _) rfl
def zI:AC:=qr [qo 3 (.box 72 38 (.t 0)),qo 5 (.box 91 3 (.t 2)),qz 6 0] (qq (qr [qd 8 3 5,qa 9 118 [.t 8],qm 7 9] (qr [qm 10 7,qc 11 .neq 10 0] (qu 11 (qr [qm 12 7,qm 6 12] .ret) .skip))) (qq (qq (.region true [qf 13 0 5,ql 14 13,qf 15 19 3,qo 16 (.iarr 8 2 (.t 15) (.t 14)),qf 17 0 16,ql 18 17,qf 19 1 5,ql 20 19,qb 21 .geq 18 20]) (qu 21 (qr [qz 6 10] .ret) .skip)) (qq (qr [qf 22 35 3,ql 23 22,qo 24 (.len false (.t 23)),qc 25 .gtr 24 63,qm 26 25,qg 27 26 false (.faddr 1 (.t 3)),qg 28 26 false (.load1 (.t 27)),qg 29 26 false (.faddr 35 (.t 3)),qg 30 26 false (.load1 (.t 29)),qg 31 26 false (.len false (.t 30)),qg 32 26 false (.bin .sub (qk 2147483646) (.t 31)),qg 33 26 false (.bin .gtr (.t 28) (.t 32)),qo 34 (.pick (.t 26) (.c (.bool true)) (.t 33))] (qu 34 (qr [qz 6 11] .ret) .skip)) (qr [qf 35 2 5,ql 36 35,qm 37 1,qa 38 60 [.t 36,.t 37],qm 6 38] .ret))))
theorem HU:fo Tryz.prog 81 Tryz.f81 zI [.t 6] 3 eV:=⟨Tryz.func81,by decide+kernel,by kernel_rfl,by kernel_rfl,by decide+kernel⟩
theorem HZ(P:Prim)(hP:P=ca)(T z:cp)(gn b gd w q sz o f n:Int)(tx:BS)(fs tb:Nat->Int)(rv dr:List (List V))(wh A:Bool)(hn:P.da rv=n)(hb:0<=b/\b<=2147483647)
  (hc1:fZ T 118 [.agg [qI w,qI q,.sl false 3 dr]] (qI o))(hw:o=0->w=0\/w=1\/w=2\/w=3\/w=4\/w=5\/w=6\/w=7)(j:o=0->fZ T 60 [.sl false 3 dr,qI sz] (qI f))
  (res:Int)(g1:o≠0->o=res)(g2:o=0->q<=tb (2*w.toNat)->10=res)(g3:o=0->¬q<=tb (2*w.toNat)->64<=n\/2147483647<=b+n->11=res)(g4:o=0->¬q<=tb (2*w.toNat)->¬(64<=n\/2147483647<=b+n)->f=res)(B:0<=n)
  (R:S->Prop)(d:∀s s' x,x=res->a7 s s'->hX [.t 6] [qI x] s'->R s):fX P T z zI (S0 [.agg [qI gn,qI b,.str tx,qI (fs 0),qI (fs 1),qI (fs 2),qI (fs 3),qI (fs 4),qI (fs 5),qI (fs 6),qI (fs 7),qI (fs 8),qI (fs 9),qI (fs 10),qI (fs 11),qI (fs 12),qI (fs 13),qI (fs 14),qI (fs 15),qI (tb 0),qI (tb 1),qI (tb 2),qI (tb 3),qI (tb 4),qI (tb 5),qI (tb 6),qI (tb 7),qI (tb 8),qI (tb 9),qI (tb 10),qI (tb 11),qI (tb 12),qI (tb 13),qI (tb 14),qI (tb 15),.sl A 3 rv,.bool wh,qI gd],qI sz,.agg [qI w,qI q,.sl false 3 dr]] Hp.emp) R (λ_ _=>False) R:=by
 have k:P.nat 0=0:=by subst hP;rfl
 have l:P.nat 1=1:=by subst hP;rfl
 have m:P.nat 2=2:=by subst hP;rfl
 have p:P.nat 3=3:=by subst hP;rfl
 have r:P.nat 4=4:=by subst hP;rfl
 have u:P.nat 5=5:=by subst hP;rfl
 have v:P.nat 6=6:=by subst hP;rfl
 have y:P.nat 7=7:=by subst hP;rfl
 have e:∀i:Nat,i<8->P.fQ 0 (i:Int)/\P.iw (i:Int) 8:=λi hi=>⟨iQ hP qW,kZ hP qW⟩;cbv;intro C;cbv;intro D;cbv;refine hc1 _ _ ?_;clear hc1;cbv;refine ab (λh=>?_) (λh=>?_)
 ·have hz:=fE hP h;cbv;exact d _ _ _ (g1 hz) (a7.refl _) rfl
 have hz:=fD hP h;have hw:=hw hz;have g:=j hz
 replace g2:=g2 hz
 replace g3:=g3 hz
 replace g4:=g4 hz
 clear g1 j h;cbv
 rcases hw with rfl|rfl|rfl|rfl|rfl|rfl|rfl|rfl
 ·have q1:P.fQ 0 0:=(e 0 qD).1;have q2:P.iw 0 8:=(e 0 qD).2;refine⟨q1,q2,0,k,?_⟩;cbv;refine ab (λh=>?_) (λh=>?_)
  ·have hq:=iG hP h;cbv;exact d _ _ _ (g2 hq) (a7.refl _) rfl
  have hq:=iA hP h
  replace g3:=g3 hq
  replace g4:=g4 hq
  cbv;refine ab (λh=>?_) (λh=>?_)
  ·have a:63<P.da rv:=fA hP h;rw[hn] at a;cbv;exact d _ _ _ (g3 (.inl qW)) (a7.refl _) rfl
  have a:¬63<P.da rv:=fg hP h;rw[hn] at a;have o1:P.i64 (P.sub 2147483646 (P.da rv)):=by rw[sub_eq hP,hn];exact ft hP qW
  cbv;refine⟨o1,?_⟩;refine ab (λh=>?_) (λh=>?_)
  ·have c:P.sub 2147483646 (P.da rv)<b:=fA hP h;rw[sub_eq hP,hn] at c;cbv;exact d _ _ _ (g3 (.inr qW)) (a7.refl _) rfl
  have c:¬P.sub 2147483646 (P.da rv)<b:=fg hP h;rw[sub_eq hP,hn] at c;cbv;refine g _ _ ?_;cbv;exact d _ _ _ (g4 qW) (a7.refl _) rfl
 ·have q1:P.fQ 0 1:=(e 1 qD).1;have q2:P.iw 1 8:=(e 1 qD).2;refine⟨q1,q2,1,l,?_⟩;cbv;refine ab (λh=>?_) (λh=>?_)
  ·have hq:=iG hP h;cbv;exact d _ _ _ (g2 hq) (a7.refl _) rfl
  have hq:=iA hP h
  replace g3:=g3 hq
  replace g4:=g4 hq
  cbv;refine ab (λh=>?_) (λh=>?_)
  ·have a:63<P.da rv:=fA hP h;rw[hn] at a;cbv;exact d _ _ _ (g3 (.inl qW)) (a7.refl _) rfl
  have a:¬63<P.da rv:=fg hP h;rw[hn] at a;have o1:P.i64 (P.sub 2147483646 (P.da rv)):=by rw[sub_eq hP,hn];exact ft hP qW
  cbv;refine⟨o1,?_⟩;refine ab (λh=>?_) (λh=>?_)
  ·have c:P.sub 2147483646 (P.da rv)<b:=fA hP h;rw[sub_eq hP,hn] at c;cbv;exact d _ _ _ (g3 (.inr qW)) (a7.refl _) rfl
  have c:¬P.sub 2147483646 (P.da rv)<b:=fg hP h;rw[sub_eq hP,hn] at c;cbv;refine g _ _ ?_;cbv;exact d _ _ _ (g4 qW) (a7.refl _) rfl
 ·have q1:P.fQ 0 2:=(e 2 qD).1;have q2:P.iw 2 8:=(e 2 qD).2;refine⟨q1,q2,2,m,?_⟩;cbv;refine ab (λh=>?_) (λh=>?_)
  ·have hq:=iG hP h;cbv;exact d _ _ _ (g2 hq) (a7.refl _) rfl
  have hq:=iA hP h
  replace g3:=g3 hq
  replace g4:=g4 hq
  cbv;refine ab (λh=>?_) (λh=>?_)
  ·have a:63<P.da rv:=fA hP h;rw[hn] at a;cbv;exact d _ _ _ (g3 (.inl qW)) (a7.refl _) rfl
  have a:¬63<P.da rv:=fg hP h;rw[hn] at a;have o1:P.i64 (P.sub 2147483646 (P.da rv)):=by rw[sub_eq hP,hn];exact ft hP qW
  cbv;refine⟨o1,?_⟩;refine ab (λh=>?_) (λh=>?_)
  ·have c:P.sub 2147483646 (P.da rv)<b:=fA hP h;rw[sub_eq hP,hn] at c;cbv;exact d _ _ _ (g3 (.inr qW)) (a7.refl _) rfl
  have c:¬P.sub 2147483646 (P.da rv)<b:=fg hP h;rw[sub_eq hP,hn] at c;cbv;refine g _ _ ?_;cbv;exact d _ _ _ (g4 qW) (a7.refl _) rfl
 ·have q1:P.fQ 0 3:=(e 3 qD).1;have q2:P.iw 3 8:=(e 3 qD).2;refine⟨q1,q2,3,p,?_⟩;cbv;refine ab (λh=>?_) (λh=>?_)
  ·have hq:=iG hP h;cbv;exact d _ _ _ (g2 hq) (a7.refl _) rfl
  have hq:=iA hP h
  replace g3:=g3 hq
  replace g4:=g4 hq
  cbv;refine ab (λh=>?_) (λh=>?_)
  ·have a:63<P.da rv:=fA hP h;rw[hn] at a;cbv;exact d _ _ _ (g3 (.inl qW)) (a7.refl _) rfl
  have a:¬63<P.da rv:=fg hP h;rw[hn] at a;have o1:P.i64 (P.sub 2147483646 (P.da rv)):=by rw[sub_eq hP,hn];exact ft hP qW
  cbv;refine⟨o1,?_⟩;refine ab (λh=>?_) (λh=>?_)
  ·have c:P.sub 2147483646 (P.da rv)<b:=fA hP h;rw[sub_eq hP,hn] at c;cbv;exact d _ _ _ (g3 (.inr qW)) (a7.refl _) rfl
  have c:¬P.sub 2147483646 (P.da rv)<b:=fg hP h;rw[sub_eq hP,hn] at c;cbv;refine g _ _ ?_;cbv;exact d _ _ _ (g4 qW) (a7.refl _) rfl
 ·have q1:P.fQ 0 4:=(e 4 qD).1;have q2:P.iw 4 8:=(e 4 qD).2;refine⟨q1,q2,4,r,?_⟩;cbv;refine ab (λh=>?_) (λh=>?_)
  ·have hq:=iG hP h;cbv;exact d _ _ _ (g2 hq) (a7.refl _) rfl
  have hq:=iA hP h
  replace g3:=g3 hq
  replace g4:=g4 hq
  cbv;refine ab (λh=>?_) (λh=>?_)
  ·have a:63<P.da rv:=fA hP h;rw[hn] at a;cbv;exact d _ _ _ (g3 (.inl qW)) (a7.refl _) rfl
  have a:¬63<P.da rv:=fg hP h;rw[hn] at a;have o1:P.i64 (P.sub 2147483646 (P.da rv)):=by rw[sub_eq hP,hn];exact ft hP qW
  cbv;refine⟨o1,?_⟩;refine ab (λh=>?_) (λh=>?_)
  ·have c:P.sub 2147483646 (P.da rv)<b:=fA hP h;rw[sub_eq hP,hn] at c;cbv;exact d _ _ _ (g3 (.inr qW)) (a7.refl _) rfl
  have c:¬P.sub 2147483646 (P.da rv)<b:=fg hP h;rw[sub_eq hP,hn] at c;cbv;refine g _ _ ?_;cbv;exact d _ _ _ (g4 qW) (a7.refl _) rfl
 ·have q1:P.fQ 0 5:=(e 5 qD).1;have q2:P.iw 5 8:=(e 5 qD).2;refine⟨q1,q2,5,u,?_⟩;cbv;refine ab (λh=>?_) (λh=>?_)
  ·have hq:=iG hP h;cbv;exact d _ _ _ (g2 hq) (a7.refl _) rfl
  have hq:=iA hP h
  replace g3:=g3 hq
  replace g4:=g4 hq
  cbv;refine ab (λh=>?_) (λh=>?_)
  ·have a:63<P.da rv:=fA hP h;rw[hn] at a;cbv;exact d _ _ _ (g3 (.inl qW)) (a7.refl _) rfl
  have a:¬63<P.da rv:=fg hP h;rw[hn] at a;have o1:P.i64 (P.sub 2147483646 (P.da rv)):=by rw[sub_eq hP,hn];exact ft hP qW
  cbv;refine⟨o1,?_⟩;refine ab (λh=>?_) (λh=>?_)
  ·have c:P.sub 2147483646 (P.da rv)<b:=fA hP h;rw[sub_eq hP,hn] at c;cbv;exact d _ _ _ (g3 (.inr qW)) (a7.refl _) rfl
  have c:¬P.sub 2147483646 (P.da rv)<b:=fg hP h;rw[sub_eq hP,hn] at c;cbv;refine g _ _ ?_;cbv;exact d _ _ _ (g4 qW) (a7.refl _) rfl
 ·have q1:P.fQ 0 6:=(e 6 qD).1;have q2:P.iw 6 8:=(e 6 qD).2;refine⟨q1,q2,6,v,?_⟩;cbv;refine ab (λh=>?_) (λh=>?_)
  ·have hq:=iG hP h;cbv;exact d _ _ _ (g2 hq) (a7.refl _) rfl
  have hq:=iA hP h
  replace g3:=g3 hq
  replace g4:=g4 hq
  cbv;refine ab (λh=>?_) (λh=>?_)
  ·have a:63<P.da rv:=fA hP h;rw[hn] at a;cbv;exact d _ _ _ (g3 (.inl qW)) (a7.refl _) rfl
  have a:¬63<P.da rv:=fg hP h;rw[hn] at a;have o1:P.i64 (P.sub 2147483646 (P.da rv)):=by rw[sub_eq hP,hn];exact ft hP qW
  cbv;refine⟨o1,?_⟩;refine ab (λh=>?_) (λh=>?_)
  ·have c:P.sub 2147483646 (P.da rv)<b:=fA hP h;rw[sub_eq hP,hn] at c;cbv;exact d _ _ _ (g3 (.inr qW)) (a7.refl _) rfl
  have c:¬P.sub 2147483646 (P.da rv)<b:=fg hP h;rw[sub_eq hP,hn] at c;cbv;refine g _ _ ?_;cbv;exact d _ _ _ (g4 qW) (a7.refl _) rfl
 ·have q1:P.fQ 0 7:=(e 7 qD).1;have q2:P.iw 7 8:=(e 7 qD).2;refine⟨q1,q2,7,y,?_⟩;cbv;refine ab (λh=>?_) (λh=>?_)
  ·have hq:=iG hP h;cbv;exact d _ _ _ (g2 hq) (a7.refl _) rfl
  have hq:=iA hP h
  replace g3:=g3 hq
  replace g4:=g4 hq
  cbv;refine ab (λh=>?_) (λh=>?_)
  ·have a:63<P.da rv:=fA hP h;rw[hn] at a;cbv;exact d _ _ _ (g3 (.inl qW)) (a7.refl _) rfl
  have a:¬63<P.da rv:=fg hP h;rw[hn] at a;have o1:P.i64 (P.sub 2147483646 (P.da rv)):=by rw[sub_eq hP,hn];exact ft hP qW
  cbv;refine⟨o1,?_⟩;refine ab (λh=>?_) (λh=>?_)
  ·have c:P.sub 2147483646 (P.da rv)<b:=fA hP h;rw[sub_eq hP,hn] at c;cbv;exact d _ _ _ (g3 (.inr qW)) (a7.refl _) rfl
  have c:¬P.sub 2147483646 (P.da rv)<b:=fg hP h;rw[sub_eq hP,hn] at c;cbv;refine g _ _ ?_;cbv;exact d _ _ _ (g4 qW) (a7.refl _) rfl
def Vy(gn b:Int)(tx:BS)(fs tb:Nat->Int)(rv:List (List V))(wh:Bool)(gd:Int):V:=.agg [.int .i64 gn,.int .i64 b,.str tx,.int .i64 (fs 0),.int .i64 (fs 1),.int .i64 (fs 2),.int .i64 (fs 3),.int .i64 (fs 4),.int .i64 (fs 5),.int .i64 (fs 6),.int .i64 (fs 7),.int .i64 (fs 8),.int .i64 (fs 9),.int .i64 (fs 10),.int .i64 (fs 11),.int .i64 (fs 12),.int .i64 (fs 13),.int .i64 (fs 14),.int .i64 (fs 15),.int .i64 (tb 0),.int .i64 (tb 1),.int .i64 (tb 2),.int .i64 (tb 3),.int .i64 (tb 4),.int .i64 (tb 5),.int .i64 (tb 6),.int .i64 (tb 7),.int .i64 (tb 8),.int .i64 (tb 9),.int .i64 (tb 10),.int .i64 (tb 11),.int .i64 (tb 12),.int .i64 (tb 13),.int .i64 (tb 14),.int .i64 (tb 15),.sl false 3 rv,.bool wh,.int .i64 gd]
def SV(gn b:Int)(tx:BS)(fs tb:Nat->Int)(rv:List (List V))(wh:Bool)(gd:Int):V:=.agg [.int .i64 gn,.int .i64 b,.str tx,.int .i64 (fs 0),.int .i64 (fs 1),.int .i64 (fs 2),.int .i64 (fs 3),.int .i64 (fs 4),.int .i64 (fs 5),.int .i64 (fs 6),.int .i64 (fs 7),.int .i64 (fs 8),.int .i64 (fs 9),.int .i64 (fs 10),.int .i64 (fs 11),.int .i64 (fs 12),.int .i64 (fs 13),.int .i64 (fs 14),.int .i64 (fs 15),.int .i64 (tb 0),.int .i64 (tb 1),.int .i64 (tb 2),.int .i64 (tb 3),.int .i64 (tb 4),.int .i64 (tb 5),.int .i64 (tb 6),.int .i64 (tb 7),.int .i64 (tb 8),.int .i64 (tb 9),.int .i64 (tb 10),.int .i64 (tb 11),.int .i64 (tb 12),.int .i64 (tb 13),.int .i64 (tb 14),.int .i64 (tb 15),.sl true 3 rv,.bool wh,.int .i64 gd]
def gL(b:Int)(tb:Nat->Int)(n:Nat)(size:Int)(r:eX):Int:=if iH r≠0 then iH r else if r.seq<=tb (2*r.who.toNat) then 10 else if 64<=(n:Int)\/2147483647<=b+n then 11 else gO r.delta size
theorem jT{r:eX}(h:iH r=0):0<=r.who/\r.who<=7/\0<=r.seq/\r.seq<=2147483647/\cF r.delta=0:=by
 unfold iH at h
 split at h
 ·contradiction
 ·omega
theorem H0(gn b:Int)(tx:BS)(fs tb:Nat->Int)(l:List eX)(wh:Bool)(gd size:Int)(r:eX)(hb:0<=b/\b<=2147483647)(hr:fw r.delta):Spec Tryz.prog 81 [Vy gn b tx fs tb (l.map a8) wh gd,.int .i64 size,.agg (a8 r)] Hp.emp (Is (.int .i64 (gL b tb l.length size r))):=
 eW gY HU [.int .i64 (gL b tb l.length size r)] (.int _ _) λR a=>HZ ca rfl _ _ gn b gd r.who r.seq size (iH r) (gO r.delta size) l.length tx fs tb (l.map a8) (r.delta.map a6) wh false (by show((l.map a8).length:Int)=_;simp) hb
  (fU (C0 r hr) (λh=>.cons (.same _) .nil) rfl) (λh=>by have:=jT h;omega) (λ_=>CR (vw r.delta hr.1 size) rfl rfl) (gL b tb l.length size r)
  (λh=>by unfold gL;rw[ae h]) (λh h2=>by unfold gL;rw[aa (λg=>g h),ae h2]) (λh h2 h3=>by unfold gL;rw[aa (λg=>g h),aa h2,ae h3]) (λh h2 h3=>by unfold gL;rw[aa (λg=>g h),aa h2,aa h3]) qW
  R λs s' x h he hq=>by subst h;exact a s s' he hq
theorem EN(gn b:Int)(tx:BS)(fs tb:Nat->Int)(l:List eX)(wh:Bool)(gd size:Int)(r:eX)(hb:0<=b/\b<=2147483647)(hr:fw r.delta):Spec Tryz.prog 77 [SV gn b tx fs tb (l.map a8) wh gd,.int .i64 size,.agg (a8 r)] Hp.emp (Is (.int .i64 (gL b tb l.length size r))):=
 eW gY HJ [.int .i64 (gL b tb l.length size r)] (.int _ _) λR a=>HO ca rfl _ _ gn b gd r.who r.seq size (iH r) (gO r.delta size) l.length tx fs tb (l.map a8) (r.delta.map a6) wh true (by show((l.map a8).length:Int)=_;simp) hb
  (fU (Ht r hr) (λh=>.cons (.same _) .nil) rfl) (λh=>by have:=jT h;omega) (λ_=>CR (xU r.delta hr.1 size) rfl rfl) (gL b tb l.length size r)
  (λh=>by unfold gL;rw[ae h]) (λh h2=>by unfold gL;rw[aa (λg=>g h),ae h2]) (λh h2 h3=>by unfold gL;rw[aa (λg=>g h),aa h2,ae h3]) (λh h2 h3=>by unfold gL;rw[aa (λg=>g h),aa h2,aa h3]) qW
  R λs s' x h he hq=>by subst h;exact a s s' he hq
def lY(f:Nat->Int):V:=.agg [.int .i64 (f 0),.int .i64 (f 1),.int .i64 (f 2),.int .i64 (f 3),.int .i64 (f 4),.int .i64 (f 5),.int .i64 (f 6),.int .i64 (f 7),.int .i64 (f 8),.int .i64 (f 9),.int .i64 (f 10),.int .i64 (f 11),.int .i64 (f 12),.int .i64 (f 13),.int .i64 (f 14),.int .i64 (f 15)]
def MB(k:Nat)(b:Option Nat)(sz n:Nat)(rows:List (List V))(v v':V):Prop:=v'=v\/(v=.own k b sz n/\v'=.sl false sz rows)
theorem MB.rel{C:Ctx}{F:Nat->Prop}{h:Hp}{w:World}(hs:gg C F h w){k sz n:Nat}{b:Option Nat}{o:Ob}(hk:h k=some o)(hb:o.b=b)(hsz:o.sz=sz)(hn:o.rows.length=n)(hz:∀r∈o.rows,∀v∈r,Fz v)
  {v v':V}(hv:MB k b sz n o.rows v v'){u:Value}(hr:Rel F C.B w v u):Rel (λx=>F x\/o.b=some x) C.B w v' u:=by
 rcases hv with rfl|⟨rfl,rfl⟩
 ·exact hr.mono (λ_ h=>.inl h) (λ_ h=>.inr h)
 ·cases hr with
  |ownnil=>
   have:o.rows=[]:=aq hn;rw[this];exact .slnil _ _
  |own _ b' _ n' cap c e fr a p hm l=>
   have ho:=hs.ob k o hk;unfold fy at ho;rw[hb] at ho;obtain⟨c',m,d,h1,h2,h3,h4,h5⟩:=ho;rw[a] at d;cases d;subst hn;have hw:∀r∈o.rows,r.length=sz:=λr hr=>by rw[<-hsz];exact h4 r hr
   refine .sl false sz o.rows b' 0 cap (λi j=>(c[i*sz+j]?).getD undef) (.inl (.inr hb)) l hw (λi j r v hi hj=>?_) (λi j r v hi hj=>?_)
   ·obtain⟨u,hu,f,g⟩:=h5 i j r v hi hj;rw[hsz] at hu;rw[hu,cell_of_row w b' _ c o.ty (0,0) a];have:i*sz+j<c.size:=(aD.1 hu).1;refine⟨?_,f⟩;rw[aS];exact hu
   ·obtain⟨u,hu,f,g⟩:=h5 i j r v hi hj;rw[hsz] at hu;rw[hu];exact g.mono (λ_ h=>.inl h) (λ_ h=>.inr h)
theorem a7.freeze{s s':S}{k sz n:Nat}{b:Option Nat}{o:Ob}(hk:s.h k=some o)(hb:o.b=b)(hsz:o.sz=sz)(hn:o.rows.length=n)(hz:∀r∈o.rows,∀v∈r,Fz v)
  (ht:∀i,MB k b sz n o.rows (s.t i) (s'.t i))
  (hh:∀j e,s'.h j=some e->j≠k/\∃q,s.h j=some q/\e.b=q.b/\e.ty=q.ty/\e.sz=q.sz/\e.rows.length=q.rows.length/\
   ∀(i:Nat)(r r':List V),q.rows[i]? =some r->e.rows[i]? =some r'->r'.length=r.length/\∀(l:Nat)(v v':V),r[l]? =some v->r'[l]? =some v'->MB k b sz n o.rows v v'):a7 s s':=by
 intro C H a w I hs0;obtain⟨F,hs,h2⟩:=hs0.ex;refine⟨⟨λx=>F x\/o.b=some x,⟨λj e hj=>?_,λj D q e b1 hj z hb1 hb2=>?_,λj e b1 hj hb1=>?_,λb1 hb1=>?_,λb1 hb1=>.inl (hs.new b1 hb1),λb1 hb1=>?_,hs.ev⟩,λi=>?_⟩,hs0.df,hs0.sz⟩
 ·obtain⟨_,q,hq,e1,e2,e3,e4,e5⟩:=hh j e hj;have d:=hs.ob j q hq;unfold fy at d⊢;rw[e1];cases p:q.b with
  |none=>
   rw[p] at d;simp only at d⊢;rw[d] at e4;exact aq e4
  |some b1=>
   rw[p] at d;obtain⟨c,cap,g1,g2,g3,g4,g5,g6⟩:=d;refine⟨c,cap,by rw[e2];exact g1,by rw[e3];exact g2,g3,qW,λr' A=>?_,λi l r' v' hi hl=>?_⟩
   ·obtain⟨i,hi⟩:=cP.1 A;have B:=(ah.1 hi).1;have f:q.rows[i]? =some (q.rows[i]'qW):=af qW;rw[e3,(e5 i _ r' f hi).1];exact g5 _ (az f)
   ·have B:=(ah.1 hi).1;have f:q.rows[i]? =some (q.rows[i]'qW):=af qW;obtain⟨f1,f2⟩:=e5 i _ r' f hi;have E:=(ah.1 hl).1;have y:(q.rows[i]'qW)[l]? =some ((q.rows[i]'qW)[l]'qW):=af qW;obtain⟨u,k1,k2,G⟩:=g6 i l _ _ f y;rw[e3];exact⟨u,k1,k2,MB.rel hs hk hb hsz hn hz (f2 l _ v' y hl) G⟩
 ·obtain⟨_,q1,m,e1,_⟩:=hh j q hj;obtain⟨_,q2,d,e2,_⟩:=hh D e z;exact hs.inj j D q1 q2 b1 m d (by rw[<-e1];exact hb1) (by rw[<-e2];exact hb2)
 ·obtain⟨hne,q1,m,e1,_⟩:=hh j e hj;obtain⟨g1,g2⟩:=hs.live j q1 b1 m (by rw[<-e1];exact hb1);refine⟨?_,g2⟩;rintro(g|g)
  ·exact g1 g
  ·exact hne (hs.inj j k q1 o b1 m hk (by rw[<-e1];exact hb1) g)
 ·rcases hb1 with g|g
  ·exact hs.jq b1 g
  ·exact .inr (hs.live k o b1 hk g).2
 ·rcases hb1 with g|g
  ·exact hs.lt b1 g
  ·exact(hs.ob k o hk).lt g
 ·exact MB.rel hs hk hb hsz hn hz (ht i) (h2 i)
theorem jj.freeze{h h':Hp}{k sz n:Nat}{b:Option Nat}{o:Ob}(hk:h k=some o)(hb:o.b=b)(hsz:o.sz=sz)(hn:o.rows.length=n)(hz:∀r∈o.rows,∀v∈r,Fz v)
  (hh:∀j d,h' j=some d->j≠k/\∃q,h j=some q/\d.b=q.b/\d.ty=q.ty/\d.sz=q.sz/\d.rows.length=q.rows.length/\
   ∀(i:Nat)(r r':List V),q.rows[i]? =some r->d.rows[i]? =some r'->r'.length=r.length/\∀(l:Nat)(v v':V),r[l]? =some v->r'[l]? =some v'->MB k b sz n o.rows v v'):jj h h':=by
 intro C F w D hs;refine⟨λx=>F x\/o.b=some x,λ_ h=>.inl h,⟨λj d hj=>?_,λj z q d b1 hj s hb1 hb2=>?_,λj d b1 hj hb1=>?_,λb1 hb1=>?_,λb1 hb1=>.inl (hs.new b1 hb1),λb1 hb1=>?_,hs.ev⟩⟩
 ·obtain⟨_,q,hq,e1,e2,e3,e4,e5⟩:=hh j d hj;have a:=hs.ob j q hq;unfold fy at a⊢;rw[e1];cases m:q.b with
  |none=>
   rw[m] at a;simp only at a⊢;rw[a] at e4;exact aq e4
  |some b1=>
   rw[m] at a;obtain⟨c,cap,g1,g2,g3,g4,g5,g6⟩:=a;refine⟨c,cap,by rw[e2];exact g1,by rw[e3];exact g2,g3,qW,λr' t=>?_,λi l r' v' hi hl=>?_⟩
   ·obtain⟨i,hi⟩:=cP.1 t;have y:=(ah.1 hi).1;have e:q.rows[i]? =some (q.rows[i]'qW):=af qW;rw[e3,(e5 i _ r' e hi).1];exact g5 _ (az e)
   ·have y:=(ah.1 hi).1;have e:q.rows[i]? =some (q.rows[i]'qW):=af qW;obtain⟨f1,f2⟩:=e5 i _ r' e hi;have A:=(ah.1 hl).1;have p:(q.rows[i]'qW)[l]? =some ((q.rows[i]'qW)[l]'qW):=af qW;obtain⟨u,k1,k2,B⟩:=g6 i l _ _ e p;rw[e3];exact⟨u,k1,k2,MB.rel hs hk hb hsz hn hz (f2 l _ v' p hl) B⟩
 ·obtain⟨_,q1,f,e1,_⟩:=hh j q hj;obtain⟨_,q2,a,e2,_⟩:=hh z d s;exact hs.inj j z q1 q2 b1 f a (by rw[<-e1];exact hb1) (by rw[<-e2];exact hb2)
 ·obtain⟨hne,q1,f,e1,_⟩:=hh j d hj;obtain⟨g1,g2⟩:=hs.live j q1 b1 f (by rw[<-e1];exact hb1);refine⟨?_,g2⟩;rintro(g|g)
  ·exact g1 g
  ·exact hne (hs.inj j k q1 o b1 f hk (by rw[<-e1];exact hb1) g)
 ·rcases hb1 with g|g
  ·exact hs.jq b1 g
  ·exact .inr (hs.live k o b1 hk g).2
 ·rcases hb1 with g|g
  ·exact hs.lt b1 g
  ·exact(hs.ob k o hk).lt g
theorem jj.EO{h:Hp}{k q sz n c:Nat}{b:Option Nat}{o O:Ob}{row:List V}(hk:h k=some o)(hq:h q=some O)(a:O.rows=[row])(hc:row[c]? =some (.own k b sz n))(hb:o.b=b)(hsz:o.sz=sz)(hn:o.rows.length=n)(hz:∀r∈o.rows,∀v∈r,Fz v):
  jj h (Hp.del (Hp.put h q ⟨O.b,O.ty,O.sz,[row.set c (.sl false sz o.rows)]⟩) k):=by
 refine jj.freeze hk hb hsz hn hz (λj d hj=>?_);simp only[Hp.del] at hj
 by_cases h1:j=k
 ·rw[ae h1] at hj;cases hj
 ·rw[aa h1] at hj;refine⟨h1,?_⟩;simp only[Hp.put] at hj
  by_cases h2:j=q
  ·rw[ae h2] at hj;cases hj;refine⟨O,by rw[h2];exact hq,rfl,rfl,rfl,by rw[a];simp,λi r r' e1 e3=>?_⟩;rw[a] at e1;cases i with
   |zero=>
    simp only[bq,aH] at e1 e3;subst e1 e3;refine⟨by simp,λl v v' e4 e5=>?_⟩;rw[cz] at e5
    by_cases hl:c=l
    ·subst hl;rw[ae rfl] at e5;rw[hc] at e4;cases e4
     split at e5
     ·cases e5;exact .inr ⟨rfl,rfl⟩
     ·cases e5
    ·rw[aa hl,e4] at e5;cases e5;exact .inl rfl
   |succ i=>simp at e1
  ·rw[aa h2] at hj;exact⟨d,hj,rfl,rfl,rfl,rfl,λi r r' h1 h2=>by rw[h1] at h2;cases h2;exact⟨rfl,λl v v' h3 h4=>by rw[h3] at h4;cases h4;exact .inl rfl⟩⟩
def S.H3(s:S)(i k sz:Nat)(rows:List (List V)):S:=⟨iX s.t i (.sl false sz rows),Hp.del s.h k⟩
theorem a7.H3{s:S}{i k sz n:Nat}{b:Option Nat}{o:Ob}(hi:s.t i=.own k b sz n)(hk:s.h k=some o)(hb:o.b=b)(hsz:o.sz=sz)(hn:o.rows.length=n)(hz:∀r∈o.rows,∀v∈r,Fz v):a7 s (s.H3 i k sz o.rows):=by
 refine a7.freeze hk hb hsz hn hz (λj=>?_) (λj a hj=>?_)
 ·simp only[S.H3,iX]
  by_cases h:j=i
  ·rw[ae h,h];exact .inr ⟨hi,rfl⟩
  ·rw[aa h];exact .inl rfl
 ·simp only[S.H3,Hp.del] at hj
  by_cases h:j=k
  ·rw[ae h] at hj;cases hj
  ·rw[aa h] at hj;exact⟨h,a,hj,rfl,rfl,rfl,rfl,λi r r' h1 h2=>by rw[h1] at h2;cases h2;exact⟨rfl,λl v v' h3 h4=>by rw[h3] at h4;cases h4;exact .inl rfl⟩⟩
end Go.Proofs.YtobngncjflogcaaGreat.AM
namespace Go.Proofs.YtobngncjflogcaaGreat
open Go.RowKit
def bt(n:Nat):UInt8:=UInt8.ofNat n
theorem rM(n:Nat)(h:n<256):(bt n).toNat=n:=by
 unfold bt;rw[UInt8.toNat_ofNat'];omega
def pQ:Nat->Nat->BS
 |0,_=>[]
 |f+1,n=>if n<128 then[bt n] else bt (128+n%128)::pQ f (n/128)
def jg(n:Nat):BS:=pQ 5 n
theorem mz(f n:Nat)(h:n<128):pQ (f+1) n=[bt n]:=by simp[pQ,h]
theorem qw(f n:Nat)(h:¬n<128):pQ (f+1) n=bt (128+n%128)::pQ f (n/128):=by simp[pQ,h]
theorem rO(f n:Nat):(pQ f n).length<=f:=by
 induction f generalizing n with
 |zero=>simp[pQ]
 |succ f ih=>
  unfold pQ
  split
  ·simp
  ·have:=ih (n/128);simp;omega
def val:BS->Nat
 |[]=>0
 |b::r=>b.toNat%128+128*val r
def hi(b:UInt8):Bool:=128<=b.toNat
theorem EP:∀a:Nat,a<256->a|||128=128+a%128:=by decide+kernel
theorem SW(m:Nat):bits .or .u8 ((m:Int)%256) 128=128+(m:Int)%128:=by
 have h1:((m:Int)%256)=((m%256:Nat):Int):=by omega
 have h2:=u8_or_nat (m%256) 128 qW qW;rw[h1];refine h2.trans ?_;rw[EP _ qW];omega
def mA(l:BS):List Value:=l.map (λb=>.int .u8 b.toNat)
theorem pY(l:BS)(b:UInt8):mA (l++[b])=mA l++[.int .u8 b.toNat]:=by simp[mA]
theorem kF(s:ByteArray)(k:Nat)(h:k<s.size):s.data.toList.take (k+1)=s.data.toList.take k++[s[k]]:=by
 rw[List.take_succ_eq_append_getElem (by simpa using h)];rfl
theorem C2{k:IntKind}{a b:Int}(h:a=b):Ending.returned (.int k a)=.returned (.int k b):=by rw[h]
theorem MC{a b:ByteArray}(h:a=b):Ending.returned (.string a)=.returned (.string b):=by rw[h]
theorem Tryz.ER:(Tryz.prog.info? 5).map (λi=>(i.zero,i.size,i.bytes))=some (some (.int .u8 0),1,1):=by kernel_rfl
theorem rP(n:Int)(h0:0<=n)(h1:n<256)(w:World):
  (convert 164 9 (.slice (some ⟨w.heap.size,0,none⟩) 1 1)).run Tryz.prog (w.alloc (.cells #[.int .u8 n] 5))=.ok (.string ⟨[bt n.toNat].toArray⟩) (w.alloc (.cells #[.int .u8 n] 5)):=by
 have h:=run_convert_bytes_back (P:=Tryz.prog) (w.alloc (.cells #[.int .u8 n] 5)) 164 9 5 ⟨w.heap.size,0,none⟩ 1 [bt n.toNat] Tryz.underlying164 Tryz.underlying5 Tryz.underlying9 (λj hj=>by
  obtain rfl:j=0:=by simp at hj;omega
  show(w.alloc _).cell? ⟨w.heap.size,0,none⟩=_;rw[World.cell?_alloc_new];simp only[ey,rM n.toNat qW];simp;omega)
 exact h
theorem wF(n:Int)(h0:0<=n)(h1:n<256)(w:World):
  (convert 164 9 (.slice (some ⟨w.heap.size,0,none⟩) 1 1)).run Tryz.prog (w.alloc (.cells #[.int .u8 n] 5)).drew=.ok (.string ⟨[bt n.toNat].toArray⟩) (w.alloc (.cells #[.int .u8 n] 5)).drew:=
 rP n h0 h1 w.drew
theorem BQ(n:Int)(h0:0<=n)(h1:n<256)(w w1:World)(hb:Below (w.alloc (.cells #[.int .u8 n] 5)).drew.heap.size (w.alloc (.cells #[.int .u8 n] 5)).drew w1):
  (convert 164 9 (.slice (some ⟨w.heap.size,0,none⟩) 1 1)).run Tryz.prog w1=.ok (.string ⟨[bt n.toNat].toArray⟩) w1:=by
 have h:=run_convert_bytes_back (P:=Tryz.prog) w1 164 9 5 ⟨w.heap.size,0,none⟩ 1 [bt n.toNat] Tryz.underlying164 Tryz.underlying5 Tryz.underlying9 (λj hj=>by
  obtain rfl:j=0:=by simp at hj;omega
  show w1.cell? ⟨w.heap.size,0,none⟩=_;rw[hb.cell (by show w.heap.size<(w.alloc _).heap.size;simp)];show(w.alloc _).cell? _=_;rw[World.cell?_alloc_new];simp only[ey,rM n.toNat qW];simp;omega)
 exact h
set_option maxRecDepth 100000 in
set_option maxHeartbeats 400000 in
theorem MD(f:Nat):f<=4->∀(n:Int)(w:World),0<=n->n<128^(f+1)->n<=2147483647->
  Calls Tryz.prog 73 #[.int .i64 n] w λe w'=>e=.returned (.string ⟨(pQ (f+1) n.toNat).toArray⟩)/\Below w.heap.size w w':=by
 induction f with
 |zero=>
  intro hf n w h0 h1 h2;have h3:n<128:=by simpa using h1
  have hcv:=rP n h0 qW w;have HF:=Lib.hid (mz 0 n.toNat qW);clear h1
  go_enter Tryz.func73,Tryz.ntmps73
  go_wp2_with fail
  go_ret
  exact⟨by rw[HF.out];rfl,(Below.refl _ _).alloc (ag _) _⟩
 |succ f ih=>
  intro hf n w h0 h1 h2
  by_cases h3:n<128
  ·have hcv:=rP n h0 qW w;have HF:=Lib.hid (mz (f+1) n.toNat qW);clear h1 ih
   go_enter Tryz.func73,Tryz.ntmps73
   go_wp2_with fail
   go_ret
   exact⟨by rw[HF.out];rfl,(Below.refl _ _).alloc (ag _) _⟩
  ·have HF:=Lib.hid (qw (f+1) n.toNat qW);have h4:n/128<128^(f+1):=by
    rw[Int.pow_succ] at h1;exact Int.ediv_lt_of_lt_mul qD h1
   have IH:=Lib.hid (λw=>ih qW (n/128) w qW h4 qW);clear h1 ih h4;obtain⟨r,hr,Y9,hr1,HR⟩:∃r:Int,n.tmod 128=r/\0<=r/\r<128/\Hid (r=n%128):=⟨n%128,by rw[dV h0],qW,qW,rfl⟩;obtain⟨q,hq,XG,P9,HQ⟩:∃q:Int,n.tdiv 128=q/\0<=q/\q<=2147483647/\Hid (q=n/128):=⟨n/128,by rw[dU h0],qW,qW,rfl⟩;have Za:IntKind.i64.wrap (128+r)=128+r:=IntWalk.i64_in _ qW;have hw2:IntKind.u8.wrap (128+r)=128+r:=by rw[IntKind.wrap_u8];omega
   have hw3:IntKind.i64.wrap q=q:=IntWalk.i64_in _ qW;have hcv:=rP (128+r) qW qW;have hcw:=wF (128+r) qW qW;rw[<-HQ.out] at IH;have hl:(pQ (f+1) q.toNat).length<=5:=bG (rO _ _) qW;have ES:=λw=>run_string_add_sum (P:=Tryz.prog) w ⟨[bt (128+r).toNat].toArray⟩ ⟨(pQ (f+1) q.toNat).toArray⟩ (by simp[ByteArray.size];omega);have HE:Hid ((⟨#[bt (128+r).toNat]⟩:ByteArray)++⟨(pQ (f+1) q.toNat).toArray⟩=⟨(pQ (f+1+1) n.toNat).toArray⟩):=by
    show _=_;rw[HF.out,ByteArray.mk_append_mk,HQ.out,HR.out,show(128+n%128).toNat=128+n.toNat%128 by omega,show(n/128).toNat=n.toNat/128 by omega];simp
   go_enter Tryz.func73,Tryz.ntmps73
   go_wp2_with fail
   go_region_with (go_at_call 73;refine(IH.out _).mono ?_;rintro e w1 ⟨rfl,hb1⟩;(first|(have hc1:=BQ (128+r) qW qW w w1 hb1)|skip))
   all_goals go_wp2_with fail
   all_goals go_ret
   all_goals refine⟨MC HE.out,?_⟩
   all_goals first
    |exact((Below.refl _ _).drew.trans hb1).alloc hb1.size _
    |exact((Below.refl _ _).alloc (ag _) _).drew.trans (hb1.mono (by show w.heap.size<=(w.alloc _).heap.size;simp))
structure x5(P:Program)(T e:TypeId)(z:Value)(size bytes:Nat):Prop where
 under:P.underlying T=some (.slice e)
 info:(P.info? e).map (λi=>(i.zero,i.size,i.bytes))=some (some z,size,bytes)
 cells:z.cells.size=size
 pos:0<size
 Vz:0<bytes
section
variable {P:Program} {T e:TypeId} {z:Value} {size bytes:Nat}
theorem zJ{w w':World}{base n:Nat}{v:Value}{xs:List Value}(hown:w.ownsRow base e size v n xs)(hg:w.grownBy w' v.ownBlock)(hb:base<=w.heap.size):Below base w w':=
 (Below.refl base w).grown hg hb (λk hk=>(hown.lt k hk).1)
theorem BR(E:x5 P T e z size bytes){w:World}{ops:Array Oper}{rest:List Oper}{o:Oper}{a:Act}{Q:Exit->Act->World->Prop}(g:o.guard=none)(s x:Operand)
  (ho:o.op=.call {callee:=.builtin .append,args:= #[s,x],argTypes:= #[T,T]})
  {base n:Nat}{v:Value}{xs:List Value}(hs:a.eval s=v)(hown:w.ownsRow base e size v n xs)
  {ad:Addr}{m c:Nat}{news:List Value}(hx:a.eval x=.slice (some ad) m c)(hl:news.length=m*size)(f:∀j u,news[j]? =some u->w.cell? (ad.add j)=some u)(h1:∀u∈news,u.oneCell'=true)
  (b:(n+m)*bytes<=140737488355328)(d:base<=w.heap.size)
  (h:∀v' w',w'.ownsRow base e size v' (n+m) (xs++news)->Below base w w'->w.grownBy w' v.ownBlock->wpList P ops Q rest (a.put o.dst v') w'):wpList P ops Q (o::rest) a w:=by
 obtain⟨i,hi,hz,hsz,k⟩:=info_parts E.info;have l:n+m<=maxLen:=by
  have:=bG (dm (n+m) E.Vz) b;simp only[maxLen];omega
 exact wpList_append_own w g s x T ho base e i z size bytes E.under hi hz hsz k E.cells E.pos v n xs hs hown ad m c news hx hl f h1 l b d
  (λv' w' h2 h3 _=>h v' w' h2 (zJ hown h3 d) h3)
theorem tN(E:x5 P T e z size bytes){w:World}{cs:Array Value}{ops:Array Oper}{rest:List Oper}{o:Oper}{a:Act}{Q:Exit->Act->World->Prop}(d:o.guard=none)(s x:Operand)
  (ho:o.op=.call {callee:=.builtin .append,args:= #[s,x],argTypes:= #[T,T]})
  {base n:Nat}{v:Value}{xs:List Value}(hs:a.eval s=v)(hown:w.ownsRow base e size v n xs)
  (hx:a.eval x=.slice (some ⟨w.heap.size,0,none⟩) 1 1)(hl:cs.size=size)(h1:cs.toList.all (·.oneCell')=true)
  (b:(n+1)*bytes<=140737488355328)(c:base<=w.heap.size)
  (h:∀v' w',w'.ownsRow base e size v' (n+1) (xs++cs.toList)->Below base w w'->w.grownBy w' v.ownBlock->wpList P ops Q rest (a.put o.dst v') w'):wpList P ops Q (o::rest) a (w.alloc (.cells cs e)):=by
 refine BR E d s x ho hs (hown.alloc _) hx (news:=cs.toList) (by simp[hl]) (λj u hj=>?_) (λu hu=>?_) b (by simp;omega) (λv' w' h2 h3 h4=>?_)
 ·rw[Addr.add_lit,aS,World.cell?_alloc_new];simpa using hj
 ·exact(aE.1 h1) u hu
 ·exact h v' w' h2 (((Below.refl base w).alloc c _).trans h3) ⟨h4.os,h4.tape,h4.output,bG (by simp) h4.size,λk hk hne=>(h4.block k (by simp;omega) hne).trans (Below.heap_alloc w _ k hk)⟩
end
def BW(B:Nat)(w:World):Type:= {x:World//Below B w x}
def BW.val{B:Nat}{w:World}(x:BW B w):World:=Subtype.val x
theorem BW.below{B:Nat}{w:World}(x:BW B w):Below B w x.val:=Subtype.property x
theorem BW.ne(B:Nat)(w:World):Nonempty (BW B w):=⟨⟨w,Below.refl _ _⟩⟩
theorem BW.call{P:Program}{f:FuncId}{args:Array Value}{B:Nat}{w:World}{x:BW B w}{v:Value}(hB:B<=w.heap.size)
  (h:Calls P f args x.val λe w'=>e=.returned v/\Below x.val.heap.size x.val w'):Calls P f args x.val λe a=>e=.returned v/\∃y:BW B w,a=y.val:=
 h.mono λ_ w'⟨he,hb⟩=>⟨he,⟨w',x.below.trans (hb.mono (bG hB x.below.size))⟩,rfl⟩
section
variable {w:World} {g b o:Nat} {T:TypeId} {cs:Array Value} {s:Option Nat} {v:Value}
@[go_sem,simp] theorem US:(w.ob g T cs).heap.size=w.heap.size:=by simp[World.ob]
theorem rQ(h:g<w.heap.size):(w.ob g T cs).heap[g]? =some (.cells cs T (0,0)):=by simp[World.ob,h]
theorem ni(h:b≠g):(w.ob g T cs).heap[b]? =w.heap[b]? :=by
 simp only[World.ob,bK];rw[aa (λe=>h e.symm)]
@[go_sem] theorem LD (h:g<w.heap.size):(w.ob g T cs).cell? ⟨g,o,none⟩=cs[o]? :=by
 simp[World.cell?,rQ h]
@[go_sem] theorem H4 {sp} (h:b≠g):(w.ob g T cs).cell? ⟨b,o,sp⟩=w.cell? ⟨b,o,sp⟩:=by
 simp[World.cell?,ni h]
@[go_sem] theorem FW {sp}:(w.ob g T cs).frozen? ⟨g,o,sp⟩=false:=by
 by_cases h:g<w.heap.size
 ·simp[World.frozen?,rQ h]
 ·have:(w.ob g T cs).heap[g]? =none:=by rw[cK];simp;omega
  simp[World.frozen?,this]
@[go_sem] theorem ET {sp} (h:b≠g):(w.ob g T cs).frozen? ⟨b,o,sp⟩=w.frozen? ⟨b,o,sp⟩:=by
 simp[World.frozen?,ni h]
@[go_sem] theorem FX:(w.ob g T cs).setCell ⟨g,o,none⟩ v=w.ob g T (cs.setIfInBounds o v):=by
 simp only[World.ob,World.setCell]
 congr 1
 apply dY;intro i;simp only[dH,bK,Array.size_setIfInBounds]
 by_cases h:g=i
 ·subst h
  by_cases hs:g<w.heap.size<;>simp[hs]
 ·simp[h]
@[go_sem] theorem EU {sp} (h:b≠g):(w.ob g T cs).setCell ⟨b,o,sp⟩ v=(w.setCell ⟨b,o,sp⟩ v).ob g T cs:=by
 simp only[World.ob,World.setCell]
 congr 1
 apply dY;intro i;simp only[dH,bK,Array.size_modify]
 by_cases h1:g=i
 ·subst h1;simp[h]
 ·simp[h1]
@[go_sem] theorem UT:w.drew.ob g T cs=(w.ob g T cs).drew:=rfl
@[go_sem] theorem SX {n:Nat}:(w.drewN n).ob g T cs=(w.ob g T cs).drewN n:=rfl
@[go_sem] theorem LF {n:Nat} {a:Addr}:(w.drewN n).setCell a v=(w.setCell a v).drewN n:=rfl
@[go_sem] theorem OY {n:Nat} {x:Obj}:(w.drewN n).alloc x=(w.alloc x).drewN n:=rfl
theorem ME(h:w.heap[g]? =some (.cells cs T (0,0))):w.ob g T cs=w:=by
 obtain⟨hlt,he⟩:=aD.1 h;have:w.heap.setIfInBounds g (.cells cs T (0,0))=w.heap:=by
  apply dY;intro i;rw[bK]
  by_cases e:g=i
  ·subst e;simp[hlt,he]
  ·rw[aa e]
 simp[World.ob,this]
end
theorem H5{B:Nat}{a w:World}(h:Below B a w){g:Nat}(hg:B<=g)(T:TypeId)(cs:Array Value):Below B a (w.ob g T cs):=
 h.trans ⟨rfl,rfl,rfl,by simp,λk hk=>ni qW⟩
@[go_sem] theorem LG {w:World} {x:Obj} {n:Nat} (h:n=w.heap.size):(w.alloc x).heap[n]? =some x:=by subst h;exact heap_alloc_new w x
@[go_sem] theorem FY {w:World} {x:Obj} {n:Nat} (h:n<w.heap.size):(w.alloc x).heap[n]? =w.heap[n]? :=Below.heap_alloc w x n h
theorem Wz{B:Nat}{W w1:World}(hb:Below B W w1){g0:Nat}{a:TypeId}{b:Array Value}(h0:g0<B)(c:W.heap[g0]? =some (.cells b a (0,0))):
  ∃w2,w1=w2.ob g0 a b/\Below B W w2:=
 ⟨w1,(ME ((hb.block _ h0).trans c)).symm,hb⟩
theorem MF(n:Int)(w:World)(h:n<0\/2147483647<n):
  Calls Tryz.prog 108 #[.int .i64 n] w λe w'=>e=.returned (.tuple #[.string ⟨#[]⟩,.int .i64 1])/\w=w':=by
 rcases(show n<0\/(0<=n/\2147483647<n) by omega) with h1|⟨h1,h2⟩
 all_goals
  clear h
  go_enter Tryz.func108,Tryz.ntmps108
  go_wp2_with fail
  go_ret2
  exact⟨rfl,rfl⟩
theorem H6(w:World)(base:Nat)(v:Value)(l:BS)(h:w.ownsRow base 5 1 v l.length (mA l))(hl:0<l.length):
  (convert 164 9 v).run Tryz.prog w=.ok (.string ⟨l.toArray⟩) w:=by
 obtain⟨h1,h2⟩:=h
 rcases h2 with⟨_,h0⟩|⟨g,cap,cur,rfl,hg,hh,hn,lq,hsz,a⟩
 ·omega
 ·refine run_convert_bytes_back (P:=Tryz.prog) w 164 9 5 ⟨g,0,none⟩ cap l Tryz.underlying164 Tryz.underlying5 Tryz.underlying9 (λj hj=>?_);have hc:=World.ownsRow.cells (w:=w) (base:=base) (e:=5) (size:=1) (v:=.slice (some ⟨g,0,none⟩) l.length cap) (n:=l.length) (xs:=mA l) ⟨h1,.inr ⟨g,cap,cur,rfl,hg,hh,hn,lq,hsz,a⟩⟩ (g:=g) rfl j (.int .u8 (l[j].toNat:Int)) (by simp[mA,hj]);exact hc
theorem Tryz.xf:x5 Tryz.prog 164 5 (.int .u8 0) 1 1:=⟨Tryz.underlying164,Tryz.ER,rfl,qD,qD⟩
set_option maxRecDepth 100000 in
set_option maxHeartbeats 1000000 in
theorem Qy(n:Int)(w:World)(h0:0<=n)(h1:n<=2147483647):
  Calls Tryz.prog 108 #[.int .i64 n] w λe w'=>e=.returned (.tuple #[.string ⟨(jg n.toNat).toArray⟩,.int .i64 0])/\Below w.heap.size w w':=by
 go_enter Tryz.func108,Tryz.ntmps108
 go_wp2_with fail
 go_loopw [0,4] (λm v wr=>∃(k:Nat)(xs:BS)(g:Nat),(k:Int)<=2147483647/\m=.int .i64 k/\wr.ownsRow w.heap.size 5 1 v xs.length (mA xs)/\Below w.heap.size w wr/\xs.length+g=4/\k<128^(g+1)/\Hid (jg n.toNat=xs++pQ (g+1) k)) (λm _ _=>(intOf m).toNat)
 case atStart=>exact⟨n.toNat,[],4,qW,by rw[Int.toNat_of_nonneg h0],World.ownsRow_nil _ _ _ _,Below.refl _ _,rfl,qW,rfl⟩
 case round=>
  obtain⟨k,xs,g,hk,rfl,hown,hb,hg,VA,HN⟩:=hrel;have Zb:xs.length<=4:=by omega
  by_cases hlt:k<128
  ·have hs1:(k:Int)<128:=by omega
   have HF:=Lib.hid (mz g k hlt);have Zc:=hb.size;clear VA
   go_wp2_with (at_builtin;go_must (refine tN Tryz.xf rfl (.tmp 21) (.tmp 24) rfl rfl hown rfl rfl rfl qW hb.size ?_);intro v1 w1 hown1 hb1 hg1;have hcv:=H6 w1 w.heap.size v1 (xs++[bt k]) (by simpa[pY,rM k qW] using hown1) (by simp))
   go_ret2
   exact⟨by rw[HN.out,HF.out];rfl,hb.trans hb1⟩
  ·have Zd:=SW k;have HF:=Lib.hid (qw g k hlt);have hs1:(128:Int)<=k:=by omega
   have hg0:g≠0:=by
    rintro rfl;omega
   obtain⟨g',rfl⟩:∃g',g=g'+1:=⟨g-1,qW⟩;have HK:Hid (k/128<128^(g'+1)):=by
    show _<_;rw[Nat.pow_succ] at VA;exact Nat.div_lt_of_lt_mul qW
   have HG:Hid (xs.length+(g'+1)=4):=hg;clear VA hg hg0
   go_wp2_with (at_builtin;refine tN Tryz.xf rfl (.tmp 13) (.tmp 17) rfl rfl hown rfl rfl rfl qW hb.size ?_;intro v1 w1 hown1 hb1 hg1)
   go_roundw
   case rel=>exact⟨k/128,xs++[bt (128+k%128)],g',qW,by go_num,by simpa[pY,rM (128+k%128) qW] using hown1,hb.trans hb1,by have:=HG.out;simp;omega,HK.out,by show _=_;rw[HN.out,HF.out];simp⟩
   case measure=>simp[intOf];omega
end Go.Proofs.YtobngncjflogcaaGreat
namespace Go.Proofs.YtobngncjflogcaaGreat.AM
open Go Go.RowKit
theorem x6{f:Value->Prop}{F B:Nat->Prop}{w:World}{us:Array Value}{v:V}{u0:Value}(hl:us.size=[v].length)(hr:∀(i:Nat)(x:V)(u:Value),[v][i]? =some x->us[i]? =some u->Rel F B w x u)(h:∀u,Rel F B w v u->u=u0):us= #[u0]:=by
 match us,hl with
 |⟨[u]⟩,_=>
  have:=h u (hr 0 v u rfl rfl);rw[this]
theorem C3{F B:Nat->Prop}{w:World}{k:IntKind}{n:Int}{u:Value}(h:Rel F B w (.int k n) u):u=.int k n:=by cases h;rfl
theorem C4{F B:Nat->Prop}{w:World}{l:BS}{u:Value}(h:Rel F B w (.str l) u):u=.string ⟨l.toArray⟩:=by cases h;rfl
def pR(n:Int):BS×Int:=if n<0\/2147483647<n then([],1) else(jg n.toNat,0)
theorem xg(w:World):Below w.heap.size w w:=by(repeat(first|(with_reducible exact Below.refl _ _)|(with_reducible assumption)|(with_reducible refine Below.drew ?_)|(with_reducible refine below_drewN ?_ _)|((with_reducible refine Below.alloc ?_ ?_ _);rotate_left;(focus(first|omega|(simp;done)|(simp;omega))))|((with_reducible refine Below.setCell ?_ ?_ _);rotate_left;(focus(first|omega|(simp;done)|(simp;omega))))|((with_reducible refine H5 ?_ ?_ _ _);rotate_left;(focus(first|omega|(simp;done)|(simp;omega))))))
theorem C5(n:Int):Spec Tryz.prog 108 [.int .i64 n] Hp.emp (Is (.tup [.str (pR n).1,.int .i64 (pR n).2])):=
 kf (us0:= #[.int .i64 n]) ⟨Tryz.f108,Tryz.func108,by decide+kernel,bF.1 (by decide+kernel)⟩
  (λF B w us hl hr=>x6 (f:=λ_=>True) hl hr λu h=>C3 h)
  (u0:=.tuple #[.string ⟨(pR n).1.toArray⟩,.int .i64 (pR n).2])
  (λF B w=>.tup _ _ rfl λi v u hv hu=>by
   match i with
   |0=>simp at hv hu;subst hv hu;exact .str _
   |1=>simp at hv hu;subst hv hu;exact .int _ _
   |i+2=>simp at hv)
  (λw=>by
   unfold pR
   split
   ·rename_i h;refine(MF n w h).mono ?_;rintro e w' ⟨rfl,rfl⟩;exact⟨rfl,xg _⟩
   ·rename_i h;exact Qy n w qW qW)
theorem rR(n:Int)(h0:0<=n)(h1:n<=2147483647):Spec Tryz.prog 73 [.int .i64 n] Hp.emp (Is (.str (jg n.toNat))):=
 kf (us0:= #[.int .i64 n]) ⟨Tryz.f73,Tryz.func73,by decide+kernel,bF.1 (by decide+kernel)⟩
  (λF B w us hl hr=>x6 (f:=λ_=>True) hl hr λu h=>C3 h) (u0:=.string ⟨(jg n.toNat).toArray⟩) (λF B w=>.str _)
  (λw=>MD 4 (ag _) n w h0 (by(have:(128:Int)^(4+1)=34359738368:=by decide);omega) h1)
theorem iR(n:Nat):(jg n).length<=5:=rO 5 n
end Go.Proofs.YtobngncjflogcaaGreat.AM
