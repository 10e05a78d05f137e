/-
  Part 18 of what the law WorldPlays reaches: the plain machine, contracts of the functions and plain laws; each lemma says its own condition.
-/
import Derived.Test.YtobngncjflogcaaGreatWorldPlays17
import Derived.Test.YtobngncjflogcaaGreatWorldPlays7
import Derived.Test.YtobngncjflogcaaGreatWorldPlays14
import Derived.Test.YtobngncjflogcaaGreatWorldPlays16
set_option linter.unusedVariables false
set_option linter.unusedSimpArgs false
namespace Go.Proofs.YtobngncjflogcaaGreat.AM
open Go
set_option maxRecDepth 100000
set_option maxHeartbeats 2000000
structure CV where
 w:Int
 r:Int
 q:Int
 t:BS
 fl:Bool
 sr:List (List V)
 wt:Bool
 hr:List (List V)
def cv(c:Client):CV:=⟨c.who,c.rev,c.seq,c.text,c.eT,c.eZ.map a6,c.waiting,c.held.map a6⟩
def Ve(h:Hp)(rows:List (List V))(v:V):Prop:=v=.sl false 3 rows\/(v=.nilsl/\rows=[])\/∃k β t n,v=.own k β 3 n/\h k=some ⟨β,t,3,rows⟩/\n=rows.length
theorem Ve.fr{h:Hp}{d:List Part}{v:V}(hv:Ve h (d.map a6) v):Fr h v (fc d):=by
 rcases hv with rfl|⟨rfl,h0⟩|⟨k,β,t,n,rfl,h1,h2⟩
 ·exact .same _ (.sl _ _ (ff _))
 ·unfold fc;rw[h0];exact .nilsl 3
 ·exact .rows h1 rfl rfl h2.symm (ly _) (ff _)
def qN(rv:List RV)(a:List V)(c:CV)(R:S->Prop):Prop:=
 ∀(s s':S)(w r q:Int)(t:BS)(fl:Bool)(v1:V)(wt:Bool)(v2:V)(sr hr:List (List V)),a7 s s'->hX rv (.agg [.int .i64 w,.int .i64 r,.int .i64 q,.str t,.bool fl,v1,.bool wt,v2]::a) s'->Ve s'.h sr v1->Ve s'.h hr v2->(⟨w,r,q,t,fl,sr,wt,hr⟩:CV)=c->R s
theorem pI{rv:List RV}{c:Client}{e:Int}{R:S->Prop}(b:∀s s',a7 s s'->zk rv (.tup [.agg (ef c),.int .i64 e]) s'->R s):qN rv [.int .i64 e] (cv c) R:=by
 intro s s' w r q t fl v1 wt v2 sr hr he a h1 h2 h3;refine b s s' he (eS _ _ _ (λx hx=>?_) a);subst hx;unfold cv at h3
 injection h3 with a1 a2 a3 a4 a5 d f g
 subst a1 a2 a3 a4 a5 d f g;exact .ir (.ga (.same _ (.int _ _)) (.ga (.same _ (.int _ _)) (.ga (.same _ (.int _ _)) (.ga (.same _ (.str _)) (.ga (.same _ (.bool _)) (.ga h1.fr (.ga (.same _ (.bool _)) (.ga h2.fr .ry)))))))) (.ir (.same _ (.int _ _)) .pk)
theorem Cg{rv:List RV}{c:Client}{R:S->Prop}(b:∀s s',a7 s s'->zk rv (.agg (ef c)) s'->R s):qN rv [] (cv c) R:=by
 intro s s' w r q t fl v1 wt v2 sr hr he a h1 h2 h3;refine b s s' he (eS _ _ _ (λx hx=>?_) a);subst hx;unfold cv at h3
 injection h3 with a1 a2 a3 a4 a5 d e f
 subst a1 a2 a3 a4 a5 d e f;exact .ga (.same _ (.int _ _)) (.ga (.same _ (.int _ _)) (.ga (.same _ (.int _ _)) (.ga (.same _ (.str _)) (.ga (.same _ (.bool _)) (.ga h1.fr (.ga (.same _ (.bool _)) (.ga h2.fr .ry)))))))
def xx:AC:=qr [qo 1 (.box 64 8 (.t 0)),qo 2 (.alloc 64 iY)] (qr [qf 3 5 1,ql 4 3,qo 5 (.append 115 3 32 (.c (.slice none 0 0)) (.t 4)),qf 6 5 1,qs 1 6 5] (qr [qf 7 7 1,ql 8 7,qo 9 (.append 115 3 32 (.c (.slice none 0 0)) (.t 8)),qf 10 7 1,qs 1 10 9] (qr [qd 11 8 1,qs 8 2 11] .ret)))
theorem Fy:fo Tryz.prog 100 Tryz.f100 xx [.cn 2 8] 1 eV:=⟨Tryz.func100,by decide+kernel,by kernel_rfl,by kernel_rfl,by decide+kernel⟩
theorem FA(P:Prim)(hP:P=ca)(T a:cp)(w r q:Int)(s:BS)(fl wt:Bool)(sr hr:List (List V))(hs:sr.length<=100000)(hh:hr.length<=100000)
  (R:S->Prop)(b:qN [.cn 2 8] [] ⟨w,r,q,s,fl,sr,wt,hr⟩ R):fX P T a xx (S0 [.agg [qI w,qI r,qI q,.str s,.bool fl,.sl false 3 sr,.bool wt,.sl false 3 hr]] Hp.emp) R (λ_ _=>False) R:=by
 have o1:P.bytes (P.da sr) 32:=by subst hP;show(sr.length:Int)*32<=_;((try simp only[nc] at*);omega)
 have o2:P.bytes (P.da hr) 32:=by subst hP;show(hr.length:Int)*32<=_;((try simp only[nc] at*);omega)
 cbv
 repeat' first|(refine And.intro (by assumption) ?_;cbv)|(intro β;cbv)
 exact b _ _ _ _ _ _ _ _ _ _ _ _ (a7.refl _) ⟨rfl,rfl,aj 0,ag 8,rfl⟩ (.inr (.inr ⟨_,_,_,_,rfl,rfl,by subst hP;rfl⟩)) (.inr (.inr ⟨_,_,_,_,rfl,rfl,by subst hP;rfl⟩)) rfl
theorem xy(c:Client)(hs:c.eZ.length<=1600)(hh:c.held.length<=1600):Spec Tryz.prog 100 [.agg (ef c)] Hp.emp (Is (.agg (ef c))):=
 hH gY Fy λR a=>FA ca rfl _ _ c.who c.rev c.seq c.text c.eT c.waiting (c.eZ.map a6) (c.held.map a6) (by rw[aI];omega) (by rw[aI];omega) R (Cg a)
def FB:Client:=⟨0,0,0,[],false,[],false,[]⟩
def gD(c:Client)(d:List Part):Client×Int:=
 if jA c≠0 then(FB,jA c) else if(gP d c.text).2≠0 then(FB,(gP d c.text).2)
 else if c.eT=false then(if c.seq=2147483647 then(FB,11) else(⟨c.who,c.rev,c.seq+1,(gP d c.text).1,true,d,c.waiting,c.held⟩,0))
 else if c.waiting=false then(⟨c.who,c.rev,c.seq,(gP d c.text).1,c.eT,c.eZ,true,d⟩,0)
 else(⟨c.who,c.rev,c.seq,(gP d c.text).1,c.eT,c.eZ,c.waiting,(iT c.held d).1⟩,0)
structure V6(w r q c e:Int)(s t:BS)(fl wt:Bool)(sr hr dr mr:List (List V))(cc:CV)(x:Int):Prop where
 r1:c≠0->(⟨0,0,0,[],false,[],false,[]⟩:CV)=cc/\c=x
 r2:c=0->e≠0->(⟨0,0,0,[],false,[],false,[]⟩:CV)=cc/\e=x
 r3:c=0->e=0->fl=false->q=2147483647->(⟨0,0,0,[],false,[],false,[]⟩:CV)=cc/\11=x
 r4:c=0->e=0->fl=false->q≠2147483647->(⟨w,r,q+1,t,true,dr,wt,hr⟩:CV)=cc/\0=x
 r5:c=0->e=0->fl=true->wt=false->(⟨w,r,q,t,fl,sr,true,dr⟩:CV)=cc/\0=x
 r6:c=0->e=0->fl=true->wt=true->(⟨w,r,q,t,fl,sr,wt,mr⟩:CV)=cc/\0=x
theorem Pt(c:Client)(d:List Part):V6 c.who c.rev c.seq (jA c) (gP d c.text).2 c.text (gP d c.text).1 c.eT c.waiting (c.eZ.map a6) (c.held.map a6) (d.map a6) ((iT c.held d).1.map a6) (cv (gD c d).1) (gD c d).2:=by
 constructor
 ·intro h;unfold gD;rw[ae h];exact⟨rfl,rfl⟩
 ·intro h h2;unfold gD;rw[aa (λg=>g h),ae h2];exact⟨rfl,rfl⟩
 ·intro h h2 h3 h4;unfold gD;rw[aa (λg=>g h),aa (λg=>g h2),ae h3,ae h4];exact⟨rfl,rfl⟩
 ·intro h h2 h3 h4;unfold gD;rw[aa (λg=>g h),aa (λg=>g h2),ae h3,aa h4];exact⟨rfl,rfl⟩
 ·intro h h2 h3 h4;unfold gD;rw[aa (λg=>g h),aa (λg=>g h2),aa (by rw[h3];decide),ae h4];exact⟨rfl,rfl⟩
 ·intro h h2 h3 h4;unfold gD;rw[aa (λg=>g h),aa (λg=>g h2),aa (by rw[h3];decide),aa (by rw[h4];decide)];exact⟨rfl,rfl⟩
def AL:AC:=qr [qo 2 (.box 64 8 (.t 0)),qo 4 (.alloc 64 iY),qz 5 0] (qq (qr [qd 10 8 2,qa 11 99 [.t 10],qm 6 11] (qr [qm 12 6,qc 13 .neq 12 0] (qu 13 (qr [qo 14 (.build iY []),qm 15 6,qs 8 4 14,qm 5 15] .ret) .skip))) (qr [qm 17 1,qf 18 3 2,ql 19 18,qa 20 79 [.t 17,.t 19],qm 16 20,qx 21 0 16,qx 22 1 16,qm 7 21,qm 8 22] (qq (qr [qm 23 8,qc 24 .neq 23 0] (qu 24 (qr [qo 25 (.build iY []),qm 26 8,qs 8 4 25,qm 5 26] .ret) .skip)) (qr [qd 27 8 2,qa 28 100 [.t 27],qo 9 (.alloc 64 iY),qs 8 9 28] (qr [qm 29 7,qf 30 3 9,qs 1 30 29] (qq (.block 0 (qr [qf 40 4 2,ql 41 40,qo 42 (.not (.t 41)),qm 39 42] (qu 39 (qq (qr [qf 43 2 2,ql 44 43,qc 45 .eql 44 2147483647] (qu 45 (qr [qo 46 (.build iY []),qs 8 4 46,qz 5 11] .ret) .skip)) (qr [qm 47 1,qo 48 (.append 115 3 32 (.c (.slice none 0 0)) (.t 47)),qf 49 4 9,⟨none,none,.store 1 (.t 49) (.c (.bool true))⟩,qf 50 5 9,qs 1 50 48] (qR [qf 51 2 9,ql 52 51,qc 53 .add 52 1,qf 54 2 9,qs 1 54 53]))) (qr [qf 56 6 2,ql 57 56,qo 58 (.not (.t 57)),qm 55 58] (qu 55 (qR [qm 59 1,qo 60 (.append 115 3 32 (.c (.slice none 0 0)) (.t 59)),qf 61 6 9,⟨none,none,.store 1 (.t 61) (.c (.bool true))⟩,qf 62 7 9,qs 1 62 60]) (qR [qf 32 7 2,ql 33 32,qm 34 1,qa 35 101 [.t 33,.t 34],qm 31 35,qx 36 0 31,qx 37 1 31,qf 38 7 9,qs 1 38 36])))))) (qr [qd 63 8 9,qs 8 4 63,qz 5 0] .ret)))))))
theorem Km:fo Tryz.prog 58 Tryz.f58 AL [.cn 4 8,.t 5] 2 eV:=⟨Tryz.func58,by decide+kernel,by kernel_rfl,by kernel_rfl,by decide+kernel⟩
theorem Kn(P:Prim)(hP:P=ca)(T g:cp)(w r q c e e3:Int)(s t:BS)(fl wt:Bool)(sr hr dr mr:List (List V))(hl:e=0->dr.length<=100000)(hq:c=0->0<=q/\q<=2147483647)
  (h1:fZ T 99 [.agg [qI w,qI r,qI q,.str s,.bool fl,.sl false 3 sr,.bool wt,.sl false 3 hr]] (qI c))
  (h2:fZ T 79 [.sl false 3 dr,.str s] (.tup [.str t,qI e]))
  (h3:c=0->fZ T 100 [.agg [qI w,qI r,qI q,.str s,.bool fl,.sl false 3 sr,.bool wt,.sl false 3 hr]] (.agg [qI w,qI r,qI q,.str s,.bool fl,.sl false 3 sr,.bool wt,.sl false 3 hr]))
  (h4:fZ T 101 [.sl false 3 hr,.sl false 3 dr] (.tup [.sl false 3 mr,qI e3]))
  (cc:CV)(x:Int)(hx:V6 w r q c e s t fl wt sr hr dr mr cc x)
  (R:S->Prop)(d:∀x2,x2=x->qN [.cn 4 8,.t 5] [qI x2] cc R):fX P T g AL (S0 [.agg [qI w,qI r,qI q,.str s,.bool fl,.sl false 3 sr,.bool wt,.sl false 3 hr],.sl false 3 dr] Hp.emp) R (λ_ _=>False) R:=by
 obtain⟨r1,r2,r3,r4,r5,r6⟩:=hx;cbv;intro i;cbv;intro j;cbv;refine h1 _ _ ?_;clear h1;cbv;refine ab (λh=>?_) (λh=>?_)
 ·obtain⟨g1,g2⟩:=r1 (fE hP h);cbv;exact d _ g2 _ _ _ _ _ _ _ _ _ _ _ _ (a7.refl _) ⟨rfl,rfl,aj 0,ag 8,rfl⟩ (.inr (.inl ⟨rfl,rfl⟩)) (.inr (.inl ⟨rfl,rfl⟩)) g1
 have hc:=fD hP h;have f3:=h3 hc;have k:=hq hc;clear h3 r1;cbv;refine h2 _ _ ?_;clear h2;cbv;refine ab (λh=>?_) (λh=>?_)
 ·obtain⟨g1,g2⟩:=r2 hc (fE hP h);cbv;exact d _ g2 _ _ _ _ _ _ _ _ _ _ _ _ (a7.refl _) ⟨rfl,rfl,aj 0,ag 8,rfl⟩ (.inr (.inl ⟨rfl,rfl⟩)) (.inr (.inl ⟨rfl,rfl⟩)) g1
 have he:=fD hP h;have l:=hl he;have o1:P.bytes (P.da dr) 32:=by subst hP;show(dr.length:Int)*32<=_;((try simp only[nc] at*);omega)
 clear r2;cbv;refine f3 _ _ ?_;clear f3;cbv;intro m;cbv;refine ab (λa=>?_) (λa=>?_)
 ·cbv;refine ab (λb=>?_) (λb=>?_)
  ·obtain⟨g1,g2⟩:=r6 hc he a b;cbv;refine h4 _ _ ?_;cbv;exact d _ g2 _ _ _ _ _ _ _ _ _ _ _ _ (a7.refl _) ⟨rfl,rfl,aj 0,ag 8,rfl⟩ (.inl rfl) (.inl rfl) g1
  obtain⟨g1,g2⟩:=r5 hc he a b;cbv
  repeat' first|(refine And.intro (by assumption) ?_;cbv)|(intro β;cbv)
  exact d _ g2 _ _ _ _ _ _ _ _ _ _ _ _ (a7.refl _) ⟨rfl,rfl,aj 0,ag 8,rfl⟩ (.inl rfl) (.inr (.inr ⟨_,_,_,_,rfl,rfl,by subst hP;rfl⟩)) g1
 cbv;refine ab (λh=>?_) (λh=>?_)
 ·obtain⟨g1,g2⟩:=r3 hc he a (na hP h);cbv;exact d _ g2 _ _ _ _ _ _ _ _ _ _ _ _ (a7.refl _) ⟨rfl,rfl,aj 0,ag 8,rfl⟩ (.inr (.inl ⟨rfl,rfl⟩)) (.inr (.inl ⟨rfl,rfl⟩)) g1
 have f:=nd hP h;obtain⟨g1,g2⟩:=r4 hc he a f;have o2:P.i64 (P.add q 1):=by rw[add_eq hP];exact ft hP qW
 cbv
 repeat' first|(refine And.intro (by assumption) ?_;cbv)|(intro β;cbv)
 exact d _ g2 _ _ _ _ _ _ _ _ _ _ _ _ (a7.refl _) ⟨rfl,rfl,aj 0,ag 8,rfl⟩ (.inr (.inr ⟨_,_,_,_,rfl,rfl,by subst hP;rfl⟩)) (.inl rfl) (by rw[<-g1];subst hP;rfl)
theorem sB{c:Client}(h:jA c=0):c.held.length<=1600:=by
 obtain⟨_,_,h1,h2,_⟩:=uE h;cases hf:c.waiting with
 |true=>exact(dv (h1 hf)).1
 |false=>rw[h2 hf];simp
theorem pJ{c:Client}(h:jA c=0):0<=c.seq/\c.seq<=2147483647/\0<=c.rev/\c.rev<=2147483647:=by
 obtain⟨h1,_⟩:=sy h;unfold kj at h1;omega
theorem RR{d:List Part}{s:BS}(h:(gP d s).2=0):d.length<=1600:=by
 unfold gP at h
 by_cases hf:gO d s.length=0
 ·by_cases hd:cF d=0
  ·exact(dv hd).1
  ·unfold gO at hf;rw[ae hd] at hf;exact absurd hf hd
 ·rw[aa hf] at h;exact absurd h hf
theorem Ko(c:Client)(d:List Part)(hs:c.eZ.length<=maxLen)(hh:c.held.length<=maxLen)(hd:d.length<=maxLen):Spec Tryz.prog 58 [.agg (ef c),fc d] Hp.emp (Is (.tup [.agg (ef (gD c d).1),.int .i64 (gD c d).2])):=
 hH gY Km λR a=>Kn ca rfl _ _ c.who c.rev c.seq (jA c) (gP d c.text).2 (iT c.held d).2 c.text (gP d c.text).1 c.eT c.waiting (c.eZ.map a6) (c.held.map a6) (d.map a6) ((iT c.held d).1.map a6)
  (λh=>by rw[aI];have:=RR h;omega) (λh=>⟨(pJ h).1,(pJ h).2.1⟩)
  (fU (tm c hs hh) (λh=>.cons (.same _) .nil) rfl) (fU (xe d hd c.text) (λh=>.cons (.j8 _ _) (.cons (.same _) .nil)) rfl)
  (λh=>fU (xy c (oZ h) (sB h)) (λh=>.cons (.same _) .nil) rfl) (fU (NQ c.held d hh hd) (λh=>.cons (.same _) (.cons (.same _) .nil)) rfl)
  _ _ (Pt c d) R λx2 hx=>by subst hx;exact pI a
def AN:AC:=qr [qo 2 (.box 64 8 (.t 0)),qo 4 (.alloc 64 iY),qz 5 0] (qq (qr [qd 9 8 2,qa 10 103 [.t 9],qm 6 10] (qr [qm 11 6,qc 12 .neq 11 0] (qu 12 (qr [qo 13 (.build iY []),qm 14 6,qs 8 4 13,qm 5 14] .ret) .skip))) (qr [qm 16 1,qf 17 3 2,ql 18 17,qa 19 104 [.t 16,.t 18],qm 15 19,qx 20 0 15,qx 21 1 15,qm 7 20,qm 8 21] (qq (qr [qm 22 8,qc 23 .neq 22 0] (qu 23 (qr [qo 24 (.build iY []),qm 25 8,qs 8 4 24,qm 5 25] .ret) .skip)) (qr [qm 26 7,qf 27 3 2,qs 1 27 26] (qq (qr [qf 28 4 2,ql 29 28,qo 30 (.not (.t 29))] (qu 30 (qq (qr [qf 31 2 2,ql 32 31,qc 33 .geq 32 2147483647] (qu 33 (qr [qo 34 (.build iY []),qs 8 4 34,qz 5 11] .ret) .skip)) (qr [qm 35 1,qf 36 2 2,ql 37 36,qc 38 .add 37 1,qf 39 4 2,⟨none,none,.store 1 (.t 39) (.c (.bool true))⟩,qf 40 5 2,qs 1 40 35,qf 41 2 2,qs 1 41 38] (qr [qd 42 8 2,qs 8 4 42,qz 5 0] .ret))) .skip)) (qq (qr [qf 43 6 2,ql 44 43] (qu 44 (qR [qf 46 7 2,ql 47 46,qm 48 1,qa 49 105 [.t 47,.t 48],qm 45 49,qx 50 0 45,qx 51 1 45,qm 1 50]) .skip)) (qr [qm 52 1,qf 53 6 2,⟨none,none,.store 1 (.t 53) (.c (.bool true))⟩,qf 54 7 2,qs 1 54 52] (qr [qd 55 8 2,qs 8 4 55,qz 5 0] .ret))))))))
theorem Kp:fo Tryz.prog 61 Tryz.f61 AN [.cn 4 8,.t 5] 2 eV:=⟨Tryz.func61,by decide+kernel,by kernel_rfl,by kernel_rfl,by decide+kernel⟩
theorem Kq(P:Prim)(hP:P=ca)(T g:cp)(w r q c e e3:Int)(s t:BS)(fl wt:Bool)(sr hr dr mr:List (List V))(hq:c=0->0<=q/\q<=2147483647)
  (h1:fZ T 103 [.agg [qI w,qI r,qI q,.str s,.bool fl,.sl false 3 sr,.bool wt,.sl false 3 hr]] (qI c))
  (h2:fZ T 104 [.sl false 3 dr,.str s] (.tup [.str t,qI e]))
  (h4:fZ T 105 [.sl false 3 hr,.sl false 3 dr] (.tup [.sl false 3 mr,qI e3]))(i:c=0->wt=true->fl=true)
  (cc:CV)(x:Int)(hx:V6 w r q c e s t fl wt sr hr dr mr cc x)
  (R:S->Prop)(d:∀x2,x2=x->qN [.cn 4 8,.t 5] [qI x2] cc R):fX P T g AN (S0 [.agg [qI w,qI r,qI q,.str s,.bool fl,.sl false 3 sr,.bool wt,.sl false 3 hr],.sl false 3 dr] Hp.emp) R (λ_ _=>False) R:=by
 obtain⟨r1,r2,r3,r4,r5,r6⟩:=hx;cbv;intro j;cbv;intro k;cbv;refine h1 _ _ ?_;clear h1;cbv;refine ab (λh=>?_) (λh=>?_)
 ·obtain⟨g1,g2⟩:=r1 (fE hP h);cbv;exact d _ g2 _ _ _ _ _ _ _ _ _ _ _ _ (a7.refl _) ⟨rfl,rfl,aj 0,ag 8,rfl⟩ (.inr (.inl ⟨rfl,rfl⟩)) (.inr (.inl ⟨rfl,rfl⟩)) g1
 have hc:=fD hP h;have l:=hq hc;clear r1;cbv;refine h2 _ _ ?_;clear h2;cbv;refine ab (λh=>?_) (λh=>?_)
 ·obtain⟨g1,g2⟩:=r2 hc (fE hP h);cbv;exact d _ g2 _ _ _ _ _ _ _ _ _ _ _ _ (a7.refl _) ⟨rfl,rfl,aj 0,ag 8,rfl⟩ (.inr (.inl ⟨rfl,rfl⟩)) (.inr (.inl ⟨rfl,rfl⟩)) g1
 have he:=fD hP h;clear r2;cbv;refine ab (λa=>?_) (λa=>?_)
 ·cbv;refine ab (λb=>?_) (λb=>?_)
  ·obtain⟨g1,g2⟩:=r6 hc he a b;cbv;refine h4 _ _ ?_;cbv;exact d _ g2 _ _ _ _ _ _ _ _ _ _ _ _ (a7.refl _) ⟨rfl,rfl,aj 0,ag 8,rfl⟩ (.inl rfl) (.inl rfl) (by rw[<-g1,b])
  obtain⟨g1,g2⟩:=r5 hc he a b;cbv;exact d _ g2 _ _ _ _ _ _ _ _ _ _ _ _ (a7.refl _) ⟨rfl,rfl,aj 0,ag 8,rfl⟩ (.inl rfl) (.inl rfl) g1
 cbv;refine ab (λh=>?_) (λh=>?_)
 ·have f:2147483647<=q:=iG hP h;obtain⟨g1,g2⟩:=r3 hc he a qW;cbv;exact d _ g2 _ _ _ _ _ _ _ _ _ _ _ _ (a7.refl _) ⟨rfl,rfl,aj 0,ag 8,rfl⟩ (.inr (.inl ⟨rfl,rfl⟩)) (.inr (.inl ⟨rfl,rfl⟩)) g1
 have f:¬2147483647<=q:=iA hP h;obtain⟨g1,g2⟩:=r4 hc he a qW;have o2:P.i64 (P.add q 1):=by rw[add_eq hP];exact ft hP qW
 cbv
 repeat' first|(refine And.intro (by assumption) ?_;cbv)|(intro β;cbv)
 exact d _ g2 _ _ _ _ _ _ _ _ _ _ _ _ (a7.refl _) ⟨rfl,rfl,aj 0,ag 8,rfl⟩ (.inl rfl) (.inl rfl) (by rw[<-g1];subst hP;rfl)
theorem Kr(c:Client)(d:List Part)(hs:c.eZ.length<=maxLen)(hh:c.held.length<=maxLen)(hd:d.length<=maxLen):Spec Tryz.prog 61 [.agg (ef c),fc d] Hp.emp (Is (.tup [.agg (ef (gD c d).1),.int .i64 (gD c d).2])):=
 hH gY Kp λR a=>Kq ca rfl _ _ c.who c.rev c.seq (jA c) (gP d c.text).2 (iT c.held d).2 c.text (gP d c.text).1 c.eT c.waiting (c.eZ.map a6) (c.held.map a6) (d.map a6) ((iT c.held d).1.map a6)
  (λh=>⟨(pJ h).1,(pJ h).2.1⟩)
  (fU (DI c hs hh) (λh=>.cons (.same _) .nil) rfl) (fU (xX d hd c.text) (λh=>.cons (.j8 _ _) (.cons (.same _) .nil)) rfl)
  (fU (Kl c.held d hh hd) (λh=>.cons (.same _) (.cons (.same _) .nil)) rfl)
  (λh hw=>by
   obtain⟨_,_,h3,_⟩:=sy h;unfold ji at h3;cases hf:c.eT with
   |true=>rfl
   |false=>exact absurd (.inr (.inr ⟨hw,hf⟩)) h3)
  _ _ (Pt c d) R λx2 hx=>by subst hx;exact pI a
def DL:AC:=qr [qo 2 (.box 64 8 (.t 0)),qo 3 (.box 64 8 (.t 1)),qo 4 (.mov (.c (.bool false)))] (qr [qf 5 0 2,ql 6 5,qf 7 0 3,ql 8 7,qb 9 .eql 6 8,qm 10 9,qg 11 10 true (.faddr 1 (.t 2)),qg 12 10 true (.load1 (.t 11)),qg 13 10 true (.faddr 1 (.t 3)),qg 14 10 true (.load1 (.t 13)),qg 15 10 true (.bin .eql (.t 12) (.t 14)),qo 16 (.pick (.t 10) (.t 15) (.c (.bool false))),qm 17 16,qg 18 17 true (.faddr 2 (.t 2)),qg 19 17 true (.load1 (.t 18)),qg 20 17 true (.faddr 2 (.t 3)),qg 21 17 true (.load1 (.t 20)),qg 22 17 true (.bin .eql (.t 19) (.t 21)),qo 23 (.pick (.t 17) (.t 22) (.c (.bool false))),qm 24 23,qg 25 24 true (.faddr 3 (.t 2)),qg 26 24 true (.load1 (.t 25)),qg 27 24 true (.faddr 3 (.t 3)),qg 28 24 true (.load1 (.t 27)),qg 29 24 true (.bin .eql (.t 26) (.t 28)),qo 30 (.pick (.t 24) (.t 29) (.c (.bool false))),qm 31 30,qg 32 31 true (.faddr 4 (.t 2)),qg 33 31 true (.load1 (.t 32)),qg 34 31 true (.faddr 4 (.t 3)),qg 35 31 true (.load1 (.t 34)),qg 36 31 true (.eqb false (.t 33) (.t 35)),qo 37 (.pick (.t 31) (.t 36) (.c (.bool false))),qm 38 37,qg 39 38 true (.faddr 5 (.t 2)),qg 40 38 true (.load1 (.t 39)),qg 41 38 true (.faddr 5 (.t 3)),qg 42 38 true (.load1 (.t 41)),qg 43 38 true (.call 67 [.t 40,.t 42]),qo 44 (.pick (.t 38) (.t 43) (.c (.bool false))),qm 45 44,qg 46 45 true (.faddr 6 (.t 2)),qg 47 45 true (.load1 (.t 46)),qg 48 45 true (.faddr 6 (.t 3)),qg 49 45 true (.load1 (.t 48)),qg 50 45 true (.eqb false (.t 47) (.t 49)),qo 51 (.pick (.t 45) (.t 50) (.c (.bool false))),qm 52 51,qg 53 52 true (.faddr 7 (.t 2)),qg 54 52 true (.load1 (.t 53)),qg 55 52 true (.faddr 7 (.t 3)),qg 56 52 true (.load1 (.t 55)),qg 57 52 true (.call 67 [.t 54,.t 56]),qo 58 (.pick (.t 52) (.t 57) (.c (.bool false))),qm 4 58] .ret)
theorem Of:fo Tryz.prog 24 Tryz.f24 DL [.t 4] 2 eV:=⟨Tryz.func24,by decide+kernel,by kernel_rfl,by kernel_rfl,by decide+kernel⟩
theorem Og(P:Prim)(hP:P=ca)(T a:cp)(w r q:Int)(s:BS)(fl wt:Bool)(sr hr:List (List V))(h1:fZ T 67 [.sl false 3 sr,.sl false 3 sr] (.bool true))(h2:fZ T 67 [.sl false 3 hr,.sl false 3 hr] (.bool true))
  (R:S->Prop)(b:∀s s' x,x=true->a7 s s'->hX [.t 4] [.bool x] s'->R s):fX P T a DL (S0 [.agg [qI w,qI r,qI q,.str s,.bool fl,.sl false 3 sr,.bool wt,.sl false 3 hr],.agg [qI w,qI r,qI q,.str s,.bool fl,.sl false 3 sr,.bool wt,.sl false 3 hr]] Hp.emp) R (λ_ _=>False) R:=by
 cbv;intro c;cbv;intro d;cbv;refine eY (my hP rfl) ?_;cbv;refine eY (my hP rfl) ?_;cbv;refine eY (my hP rfl) ?_;cbv;refine eY (Ha hP rfl) ?_;cbv;refine h1 _ _ ?_;cbv;refine h2 _ _ ?_;cbv;exact b _ _ _ rfl (a7.refl _) rfl
theorem DM(c:Client)(h1:c.eZ.length<=10000000)(h2:c.held.length<=10000000):Spec Tryz.prog 24 [.agg (ef c),.agg (ef c)] Hp.emp (Is (.bool true)):=
 eW gY Of [.bool true] (.bool _) λR a=>Og ca rfl _ _ c.who c.rev c.seq c.text c.eT c.waiting (c.eZ.map a6) (c.held.map a6) (s8 _ h1) (s8 _ h2) R λs s' x h he hr=>by subst h;exact a s s' he hr
def gR(c:Client)(m:od):Client×Int:=
 if jA c≠0 then(FB,jA c) else if cF m.delta≠0 then(FB,cF m.delta) else if m.base≠c.rev then(FB,10) else if c.rev=2147483647 then(FB,11)
 else if c.eT=true then
  (if m.who=c.who/\m.seq=c.seq then
   (if c.waiting=true then(if c.seq=2147483647 then(FB,11) else(⟨c.who,c.rev+1,c.seq+1,c.text,true,c.held,false,[]⟩,0)) else(⟨c.who,c.rev+1,c.seq,c.text,false,c.held,false,[]⟩,0))
  else if(er m.delta c.eZ).2.2≠0 then(FB,(er m.delta c.eZ).2.2)
  else if c.waiting=true then
   (if(er (er m.delta c.eZ).1 c.held).2.2≠0 then(FB,(er (er m.delta c.eZ).1 c.held).2.2)
   else if(gP (er (er m.delta c.eZ).1 c.held).1 c.text).2≠0 then(FB,(gP (er (er m.delta c.eZ).1 c.held).1 c.text).2)
   else(⟨c.who,c.rev+1,c.seq,(gP (er (er m.delta c.eZ).1 c.held).1 c.text).1,c.eT,(er m.delta c.eZ).2.1,c.waiting,(er (er m.delta c.eZ).1 c.held).2.1⟩,0))
  else if(gP (er m.delta c.eZ).1 c.text).2≠0 then(FB,(gP (er m.delta c.eZ).1 c.text).2)
  else(⟨c.who,c.rev+1,c.seq,(gP (er m.delta c.eZ).1 c.text).1,c.eT,(er m.delta c.eZ).2.1,c.waiting,c.held⟩,0))
 else if(gP m.delta c.text).2≠0 then(FB,(gP m.delta c.text).2) else(⟨c.who,c.rev+1,c.seq,(gP m.delta c.text).1,c.eT,c.eZ,c.waiting,c.held⟩,0)
structure V7(w r q c ck b mw mq e1 e2 x0 x1 x2:Int)(s t0 t1 t2:BS)(fl wt:Bool)(sr hr s1 h2:List (List V))(cc:CV)(x:Int):Prop where
 r1:c≠0->(⟨0,0,0,[],false,[],false,[]⟩:CV)=cc/\c=x
 r2:c=0->ck≠0->(⟨0,0,0,[],false,[],false,[]⟩:CV)=cc/\ck=x
 r3:c=0->ck=0->b≠r->(⟨0,0,0,[],false,[],false,[]⟩:CV)=cc/\10=x
 r4:c=0->ck=0->b=r->r=2147483647->(⟨0,0,0,[],false,[],false,[]⟩:CV)=cc/\11=x
 r5:c=0->ck=0->b=r->r≠2147483647->fl=true->mw=w->mq=q->wt=true->q=2147483647->(⟨0,0,0,[],false,[],false,[]⟩:CV)=cc/\11=x
 r6:c=0->ck=0->b=r->r≠2147483647->fl=true->mw=w->mq=q->wt=true->q≠2147483647->(⟨w,r+1,q+1,s,true,hr,false,[]⟩:CV)=cc/\0=x
 r7:c=0->ck=0->b=r->r≠2147483647->fl=true->mw=w->mq=q->wt=false->(⟨w,r+1,q,s,false,hr,false,[]⟩:CV)=cc/\0=x
 r8:c=0->ck=0->b=r->r≠2147483647->fl=true->¬(mw=w/\mq=q)->e1≠0->(⟨0,0,0,[],false,[],false,[]⟩:CV)=cc/\e1=x
 r9:c=0->ck=0->b=r->r≠2147483647->fl=true->¬(mw=w/\mq=q)->e1=0->wt=true->e2≠0->(⟨0,0,0,[],false,[],false,[]⟩:CV)=cc/\e2=x
 uq:c=0->ck=0->b=r->r≠2147483647->fl=true->¬(mw=w/\mq=q)->e1=0->wt=true->e2=0->x2≠0->(⟨0,0,0,[],false,[],false,[]⟩:CV)=cc/\x2=x
 ur:c=0->ck=0->b=r->r≠2147483647->fl=true->¬(mw=w/\mq=q)->e1=0->wt=true->e2=0->x2=0->(⟨w,r+1,q,t2,fl,s1,wt,h2⟩:CV)=cc/\0=x
 uu:c=0->ck=0->b=r->r≠2147483647->fl=true->¬(mw=w/\mq=q)->e1=0->wt=false->x1≠0->(⟨0,0,0,[],false,[],false,[]⟩:CV)=cc/\x1=x
 uw:c=0->ck=0->b=r->r≠2147483647->fl=true->¬(mw=w/\mq=q)->e1=0->wt=false->x1=0->(⟨w,r+1,q,t1,fl,s1,wt,hr⟩:CV)=cc/\0=x
 DN:c=0->ck=0->b=r->r≠2147483647->fl=false->x0≠0->(⟨0,0,0,[],false,[],false,[]⟩:CV)=cc/\x0=x
 DO:c=0->ck=0->b=r->r≠2147483647->fl=false->x0=0->(⟨w,r+1,q,t0,fl,sr,wt,hr⟩:CV)=cc/\0=x
theorem Pu(c:Client)(m:od):V7 c.who c.rev c.seq (jA c) (cF m.delta) m.base m.who m.seq (er m.delta c.eZ).2.2 (er (er m.delta c.eZ).1 c.held).2.2 (gP m.delta c.text).2 (gP (er m.delta c.eZ).1 c.text).2 (gP (er (er m.delta c.eZ).1 c.held).1 c.text).2
  c.text (gP m.delta c.text).1 (gP (er m.delta c.eZ).1 c.text).1 (gP (er (er m.delta c.eZ).1 c.held).1 c.text).1 c.eT c.waiting (c.eZ.map a6) (c.held.map a6) ((er m.delta c.eZ).2.1.map a6) ((er (er m.delta c.eZ).1 c.held).2.1.map a6) (cv (gR c m).1) (gR c m).2:=by
 constructor
 ·intro a1;unfold gR;rw[ae a1];exact⟨rfl,rfl⟩
 ·intro a1 a2;unfold gR;rw[aa (λg=>g a1),ae a2];exact⟨rfl,rfl⟩
 ·intro a1 a2 a3;unfold gR;rw[aa (λg=>g a1),aa (λg=>g a2),ae a3];exact⟨rfl,rfl⟩
 ·intro a1 a2 a3 a4;unfold gR;rw[aa (λg=>g a1),aa (λg=>g a2),aa (λg=>g a3),ae a4];exact⟨rfl,rfl⟩
 ·intro a1 a2 a3 a4 a5 a b d a9;unfold gR;rw[aa (λg=>g a1),aa (λg=>g a2),aa (λg=>g a3),aa a4,ae a5,ae ⟨a,b⟩,ae d,ae a9];exact⟨rfl,rfl⟩
 ·intro a1 a2 a3 a4 a5 a b d a9;unfold gR;rw[aa (λg=>g a1),aa (λg=>g a2),aa (λg=>g a3),aa a4,ae a5,ae ⟨a,b⟩,ae d,aa a9];exact⟨rfl,rfl⟩
 ·intro a1 a2 a3 a4 a5 a b d;unfold gR;rw[aa (λg=>g a1),aa (λg=>g a2),aa (λg=>g a3),aa a4,ae a5,ae ⟨a,b⟩,aa (by rw[d];decide)];exact⟨rfl,rfl⟩
 ·intro a1 a2 a3 a4 a5 a b;unfold gR;rw[aa (λg=>g a1),aa (λg=>g a2),aa (λg=>g a3),aa a4,ae a5,aa a,ae b];exact⟨rfl,rfl⟩
 ·intro a1 a2 a3 a4 a5 a b d a9;unfold gR;rw[aa (λg=>g a1),aa (λg=>g a2),aa (λg=>g a3),aa a4,ae a5,aa a,aa (λg=>g b),ae d,ae a9];exact⟨rfl,rfl⟩
 ·intro a1 a2 a3 a4 a5 a b d a9 e;unfold gR;rw[aa (λg=>g a1),aa (λg=>g a2),aa (λg=>g a3),aa a4,ae a5,aa a,aa (λg=>g b),ae d,aa (λg=>g a9),ae e];exact⟨rfl,rfl⟩
 ·intro a1 a2 a3 a4 a5 a b d a9 e;unfold gR;rw[aa (λg=>g a1),aa (λg=>g a2),aa (λg=>g a3),aa a4,ae a5,aa a,aa (λg=>g b),ae d,aa (λg=>g a9),aa (λg=>g e)];exact⟨rfl,rfl⟩
 ·intro a1 a2 a3 a4 a5 a b d a9;unfold gR;rw[aa (λg=>g a1),aa (λg=>g a2),aa (λg=>g a3),aa a4,ae a5,aa a,aa (λg=>g b),aa (by rw[d];decide),ae a9];exact⟨rfl,rfl⟩
 ·intro a1 a2 a3 a4 a5 a b d a9;unfold gR;rw[aa (λg=>g a1),aa (λg=>g a2),aa (λg=>g a3),aa a4,ae a5,aa a,aa (λg=>g b),aa (by rw[d];decide),aa (λg=>g a9)];exact⟨rfl,rfl⟩
 ·intro a1 a2 a3 a4 a5 a;unfold gR;rw[aa (λg=>g a1),aa (λg=>g a2),aa (λg=>g a3),aa a4,aa (by rw[a5];decide),ae a];exact⟨rfl,rfl⟩
 ·intro a1 a2 a3 a4 a5 a;unfold gR;rw[aa (λg=>g a1),aa (λg=>g a2),aa (λg=>g a3),aa a4,aa (by rw[a5];decide),aa (λg=>g a)];exact⟨rfl,rfl⟩
def Ks:AC:=qr [qo 2 (.box 64 8 (.t 0)),qo 3 (.box 95 4 (.t 1)),qo 4 (.alloc 64 iY),qz 5 0] (qq (qr [qd 11 8 2,qa 12 99 [.t 11],qm 6 12] (qr [qm 13 6,qc 14 .neq 13 0] (qu 14 (qr [qo 15 (.build iY []),qm 16 6,qs 8 4 15,qm 5 16] .ret) .skip))) (qq (qr [qf 17 3 3,ql 18 17,qa 19 106 [.t 18],qm 7 19] (qr [qm 20 7,qc 21 .neq 20 0] (qu 21 (qr [qo 22 (.build iY []),qm 23 7,qs 8 4 22,qm 5 23] .ret) .skip))) (qq (qr [qf 24 0 3,ql 25 24,qf 26 1 2,ql 27 26,qb 28 .neq 25 27] (qu 28 (qr [qo 29 (.build iY []),qs 8 4 29,qz 5 10] .ret) .skip)) (qq (qr [qf 30 1 2,ql 31 30,qc 32 .eql 31 2147483647] (qu 32 (qr [qo 33 (.build iY []),qs 8 4 33,qz 5 11] .ret) .skip)) (qr [qd 34 8 2,qa 35 100 [.t 34],qo 8 (.alloc 64 iY),qs 8 8 35] (qr [qf 36 1 8,ql 37 36,qc 38 .add 37 1,qf 39 1 8,qs 1 39 38] (qq (qr [qf 40 4 2,ql 41 40,qm 42 41,qg 43 42 true (.faddr 1 (.t 3)),qg 44 42 true (.load1 (.t 43)),qg 45 42 true (.faddr 0 (.t 2)),qg 46 42 true (.load1 (.t 45)),qg 47 42 true (.bin .eql (.t 44) (.t 46)),qo 48 (.pick (.t 42) (.t 47) (.c (.bool false))),qm 49 48,qg 50 49 true (.faddr 2 (.t 3)),qg 51 49 true (.load1 (.t 50)),qg 52 49 true (.faddr 2 (.t 2)),qg 53 49 true (.load1 (.t 52)),qg 54 49 true (.bin .eql (.t 51) (.t 53)),qo 55 (.pick (.t 49) (.t 54) (.c (.bool false)))] (qu 55 (qq (qr [qf 56 6 2,ql 57 56,qm 58 57,qg 59 58 true (.faddr 2 (.t 2)),qg 60 58 true (.load1 (.t 59)),qg 61 58 true (.bin .eql (.t 60) (qk 2147483647)),qo 62 (.pick (.t 58) (.t 61) (.c (.bool false)))] (qu 62 (qr [qo 63 (.build iY []),qs 8 4 63,qz 5 11] .ret) .skip)) (qr [qf 64 6 2,ql 65 64,qf 66 7 8,ql 67 66,qf 68 4 8,qs 1 68 65,qf 69 5 8,qs 1 69 67] (qr [qf 70 6 8,⟨none,none,.store 1 (.t 70) (.c (.bool false))⟩,qf 71 7 8,⟨none,none,.store 1 (.t 71) (.c (.slice none 0 0))⟩] (qq (qr [qf 72 6 2,ql 73 72] (qu 73 (qR [qf 74 2 8,ql 75 74,qc 76 .add 75 1,qf 77 2 8,qs 1 77 76]) .skip)) (qr [qd 78 8 8,qs 8 4 78,qz 5 0] .ret))))) .skip)) (qr [qf 79 3 3,ql 80 79,qm 9 80] (qr [qz 10 0] (qq (qr [qf 81 4 2,ql 82 81] (qu 82 (qr [qm 84 9,qf 85 5 2,ql 86 85,qa 87 88 [.t 84,.t 86],qm 83 87,qx 88 0 83,qx 89 1 83,qx 90 2 83,qm 9 88,qf 91 5 8,qs 1 91 89,qm 10 90] (qr [qm 92 10,qc 93 .neq 92 0] (qu 93 (qr [qo 94 (.build iY []),qm 95 10,qs 8 4 94,qm 5 95] .ret) .skip))) .skip)) (qq (qr [qf 96 6 2,ql 97 96] (qu 97 (qr [qm 99 9,qf 100 7 2,ql 101 100,qa 102 88 [.t 99,.t 101],qm 98 102,qx 103 0 98,qx 104 1 98,qx 105 2 98,qm 9 103,qf 106 7 8,qs 1 106 104,qm 10 105] (qr [qm 107 10,qc 108 .neq 107 0] (qu 108 (qr [qo 109 (.build iY []),qm 110 10,qs 8 4 109,qm 5 110] .ret) .skip))) .skip)) (qq (qr [qm 112 9,qf 113 3 2,ql 114 113,qa 115 79 [.t 112,.t 114],qm 111 115,qx 116 0 111,qx 117 1 111,qf 118 3 8,qs 1 118 116,qm 10 117] (qr [qm 119 10,qc 120 .neq 119 0] (qu 120 (qr [qo 121 (.build iY []),qm 122 10,qs 8 4 121,qm 5 122] .ret) .skip))) (qr [qd 123 8 8,qs 8 4 123,qz 5 0] .ret)))))))))))))
theorem RS:fo Tryz.prog 63 Tryz.f63 Ks [.cn 4 8,.t 5] 2 eV:=⟨Tryz.func63,by decide+kernel,by kernel_rfl,by kernel_rfl,by decide+kernel⟩
theorem RT(P:Prim)(hP:P=ca)(T f:cp)(w r q c ck b mw mq e1 e2 x0 x1 x2:Int)(s t0 t1 t2:BS)(fl wt:Bool)(sr hr mr d1 s1 d2 h2:List (List V))(hq:c=0->0<=q/\q<=2147483647/\0<=r/\r<=2147483647)(d:c=0->wt=true->fl=true)
  (i1:fZ T 99 [.agg [qI w,qI r,qI q,.str s,.bool fl,.sl false 3 sr,.bool wt,.sl false 3 hr]] (qI c))
  (i2:fZ T 106 [.sl false 3 mr] (qI ck))
  (i3:c=0->fZ T 100 [.agg [qI w,qI r,qI q,.str s,.bool fl,.sl false 3 sr,.bool wt,.sl false 3 hr]] (.agg [qI w,qI r,qI q,.str s,.bool fl,.sl false 3 sr,.bool wt,.sl false 3 hr]))
  (i4:fZ T 88 [.sl false 3 mr,.sl false 3 sr] (.tup [.sl false 3 d1,.sl false 3 s1,qI e1]))
  (i5:fZ T 88 [.sl false 3 d1,.sl false 3 hr] (.tup [.sl false 3 d2,.sl false 3 h2,qI e2]))
  (i6:fZ T 79 [.sl false 3 mr,.str s] (.tup [.str t0,qI x0]))
  (i7:fZ T 79 [.sl false 3 d1,.str s] (.tup [.str t1,qI x1]))
  (i8:fZ T 79 [.sl false 3 d2,.str s] (.tup [.str t2,qI x2]))
  (cc:CV)(x:Int)(hx:V7 w r q c ck b mw mq e1 e2 x0 x1 x2 s t0 t1 t2 fl wt sr hr s1 h2 cc x)
  (R:S->Prop)(a:∀x2,x2=x->qN [.cn 4 8,.t 5] [qI x2] cc R):fX P T f Ks (S0 [.agg [qI w,qI r,qI q,.str s,.bool fl,.sl false 3 sr,.bool wt,.sl false 3 hr],.agg [qI b,qI mw,qI mq,.sl false 3 mr]] Hp.emp) R (λ_ _=>False) R:=by
 obtain⟨r1,r2,r3,r4,r5,r6,r7,r8,r9,uq,ur,uu,uw,DN,DO⟩:=hx;cbv;intro i;cbv;intro j;cbv;intro k;cbv;refine i1 _ _ ?_;clear i1;cbv;refine ab (λh=>?_) (λh=>?_)
 ·obtain⟨g1,g2⟩:=r1 (fE hP h);cbv;exact a _ g2 _ _ _ _ _ _ _ _ _ _ _ _ (a7.refl _) ⟨rfl,rfl,aj 0,ag 8,rfl⟩ (.inr (.inl ⟨rfl,rfl⟩)) (.inr (.inl ⟨rfl,rfl⟩)) g1
 have hc:=fD hP h;have f3:=i3 hc;have l:=hq hc;have e:=d hc;clear i3 r1 hq d h;cbv;refine i2 _ _ ?_;clear i2;cbv;refine ab (λh=>?_) (λh=>?_)
 ·obtain⟨g1,g2⟩:=r2 hc (fE hP h);cbv;exact a _ g2 _ _ _ _ _ _ _ _ _ _ _ _ (a7.refl _) ⟨rfl,rfl,aj 0,ag 8,rfl⟩ (.inr (.inl ⟨rfl,rfl⟩)) (.inr (.inl ⟨rfl,rfl⟩)) g1
 have hk:=fD hP h;clear r2 h;cbv;refine ab (λh=>?_) (λh=>?_)
 ·obtain⟨g1,g2⟩:=r3 hc hk (fE hP h);cbv;exact a _ g2 _ _ _ _ _ _ _ _ _ _ _ _ (a7.refl _) ⟨rfl,rfl,aj 0,ag 8,rfl⟩ (.inr (.inl ⟨rfl,rfl⟩)) (.inr (.inl ⟨rfl,rfl⟩)) g1
 have hb:=fD hP h;clear r3 h;cbv;refine ab (λh=>?_) (λh=>?_)
 ·obtain⟨g1,g2⟩:=r4 hc hk hb (na hP h);cbv;exact a _ g2 _ _ _ _ _ _ _ _ _ _ _ _ (a7.refl _) ⟨rfl,rfl,aj 0,ag 8,rfl⟩ (.inr (.inl ⟨rfl,rfl⟩)) (.inr (.inl ⟨rfl,rfl⟩)) g1
 have hr1:=nd hP h;clear r4 h
 replace r5:=r5 hc hk hb hr1
 replace r6:=r6 hc hk hb hr1
 replace r7:=r7 hc hk hb hr1
 replace r8:=r8 hc hk hb hr1
 replace r9:=r9 hc hk hb hr1
 replace uq:=uq hc hk hb hr1
 replace ur:=ur hc hk hb hr1
 replace uu:=uu hc hk hb hr1
 replace uw:=uw hc hk hb hr1
 replace DN:=DN hc hk hb hr1
 replace DO:=DO hc hk hb hr1
 have o2:P.i64 (P.add r 1):=by rw[add_eq hP];exact ft hP qW
 cbv;refine f3 _ _ ?_;clear f3;cbv;intro m;cbv;refine⟨o2,?_⟩;cbv;refine ab (λhf=>?_) (λhf=>?_)
 ·replace r5:=r5 hf
  replace r6:=r6 hf
  replace r7:=r7 hf
  replace r8:=r8 hf
  replace r9:=r9 hf
  replace uq:=uq hf
  replace ur:=ur hf
  replace uu:=uu hf
  replace uw:=uw hf
  clear DN DO;cbv;refine ab (λh=>?_) (λh=>?_)
  ·have m1:=na hP h;clear h;cbv;refine ab (λh=>?_) (λh=>?_)
   ·have m2:=na hP h;clear h r8 r9 uq ur uu uw i4 i5 i6 i7 i8;cbv;refine ab (λhw=>?_) (λhw=>?_)
    ·cbv;refine ab (λh=>?_) (λh=>?_)
     ·obtain⟨g1,g2⟩:=r5 m1 m2 hw (na hP h);cbv;exact a _ g2 _ _ _ _ _ _ _ _ _ _ _ _ (a7.refl _) ⟨rfl,rfl,aj 0,ag 8,rfl⟩ (.inr (.inl ⟨rfl,rfl⟩)) (.inr (.inl ⟨rfl,rfl⟩)) (g1)
     have h5:=nd hP h;obtain⟨g1,g2⟩:=r6 m1 m2 hw h5;have o3:P.i64 (P.add q 1):=by rw[add_eq hP];exact ft hP qW
     cbv;refine eY hw ?_;cbv;refine⟨o3,?_⟩;cbv;exact a _ g2 _ _ _ _ _ _ _ _ _ _ _ _ (a7.refl _) ⟨rfl,rfl,aj 0,ag 8,rfl⟩ (.inl rfl) (.inr (.inl ⟨rfl,rfl⟩)) (by rw[<-g1,hw];subst hP;rfl)
    ·obtain⟨g1,g2⟩:=r7 m1 m2 hw;cbv;refine fv hw ?_;cbv;exact a _ g2 _ _ _ _ _ _ _ _ _ _ _ _ (a7.refl _) ⟨rfl,rfl,aj 0,ag 8,rfl⟩ (.inl rfl) (.inr (.inl ⟨rfl,rfl⟩)) (by rw[<-g1,hw];subst hP;rfl)
   ·have oA:¬(mw=w/\mq=q):=λg=>nd hP h g.2;clear h r5 r6 r7;cbv;refine eY hf ?_;cbv;refine i4 _ _ ?_;clear i4;cbv;refine ab (λh=>?_) (λh=>?_)
    ·obtain⟨g1,g2⟩:=r8 oA (fE hP h);cbv;exact a _ g2 _ _ _ _ _ _ _ _ _ _ _ _ (a7.refl _) ⟨rfl,rfl,aj 0,ag 8,rfl⟩ (.inr (.inl ⟨rfl,rfl⟩)) (.inr (.inl ⟨rfl,rfl⟩)) (g1)
    have h1:=fD hP h;clear h;cbv;refine ab (λhw=>?_) (λhw=>?_)
    ·cbv;refine i5 _ _ ?_;clear i5;cbv;refine ab (λh=>?_) (λh=>?_)
     ·obtain⟨g1,g2⟩:=r9 oA h1 hw (fE hP h);cbv;exact a _ g2 _ _ _ _ _ _ _ _ _ _ _ _ (a7.refl _) ⟨rfl,rfl,aj 0,ag 8,rfl⟩ (.inr (.inl ⟨rfl,rfl⟩)) (.inr (.inl ⟨rfl,rfl⟩)) (g1)
     have h2:=fD hP h;clear h;cbv;refine i8 _ _ ?_;cbv;refine ab (λh=>?_) (λh=>?_)
     ·obtain⟨g1,g2⟩:=uq oA h1 hw h2 (fE hP h);cbv;exact a _ g2 _ _ _ _ _ _ _ _ _ _ _ _ (a7.refl _) ⟨rfl,rfl,aj 0,ag 8,rfl⟩ (.inr (.inl ⟨rfl,rfl⟩)) (.inr (.inl ⟨rfl,rfl⟩)) (g1)
     obtain⟨g1,g2⟩:=ur oA h1 hw h2 (fD hP h);cbv;exact a _ g2 _ _ _ _ _ _ _ _ _ _ _ _ (a7.refl _) ⟨rfl,rfl,aj 0,ag 8,rfl⟩ (.inl rfl) (.inl rfl) (by rw[<-g1];subst hP;rfl)
    ·cbv;refine i7 _ _ ?_;cbv;refine ab (λh=>?_) (λh=>?_)
     ·obtain⟨g1,g2⟩:=uu oA h1 hw (fE hP h);cbv;exact a _ g2 _ _ _ _ _ _ _ _ _ _ _ _ (a7.refl _) ⟨rfl,rfl,aj 0,ag 8,rfl⟩ (.inr (.inl ⟨rfl,rfl⟩)) (.inr (.inl ⟨rfl,rfl⟩)) (g1)
     obtain⟨g1,g2⟩:=uw oA h1 hw (fD hP h);cbv;exact a _ g2 _ _ _ _ _ _ _ _ _ _ _ _ (a7.refl _) ⟨rfl,rfl,aj 0,ag 8,rfl⟩ (.inl rfl) (.inl rfl) (by rw[<-g1];subst hP;rfl)
  ·have oA:¬(mw=w/\mq=q):=λg=>nd hP h g.1;clear h r5 r6 r7;cbv;refine eY hf ?_;cbv;refine i4 _ _ ?_;clear i4;cbv;refine ab (λh=>?_) (λh=>?_)
   ·obtain⟨g1,g2⟩:=r8 oA (fE hP h);cbv;exact a _ g2 _ _ _ _ _ _ _ _ _ _ _ _ (a7.refl _) ⟨rfl,rfl,aj 0,ag 8,rfl⟩ (.inr (.inl ⟨rfl,rfl⟩)) (.inr (.inl ⟨rfl,rfl⟩)) (g1)
   have h1:=fD hP h;clear h;cbv;refine ab (λhw=>?_) (λhw=>?_)
   ·cbv;refine i5 _ _ ?_;clear i5;cbv;refine ab (λh=>?_) (λh=>?_)
    ·obtain⟨g1,g2⟩:=r9 oA h1 hw (fE hP h);cbv;exact a _ g2 _ _ _ _ _ _ _ _ _ _ _ _ (a7.refl _) ⟨rfl,rfl,aj 0,ag 8,rfl⟩ (.inr (.inl ⟨rfl,rfl⟩)) (.inr (.inl ⟨rfl,rfl⟩)) (g1)
    have h2:=fD hP h;clear h;cbv;refine i8 _ _ ?_;cbv;refine ab (λh=>?_) (λh=>?_)
    ·obtain⟨g1,g2⟩:=uq oA h1 hw h2 (fE hP h);cbv;exact a _ g2 _ _ _ _ _ _ _ _ _ _ _ _ (a7.refl _) ⟨rfl,rfl,aj 0,ag 8,rfl⟩ (.inr (.inl ⟨rfl,rfl⟩)) (.inr (.inl ⟨rfl,rfl⟩)) (g1)
    obtain⟨g1,g2⟩:=ur oA h1 hw h2 (fD hP h);cbv;exact a _ g2 _ _ _ _ _ _ _ _ _ _ _ _ (a7.refl _) ⟨rfl,rfl,aj 0,ag 8,rfl⟩ (.inl rfl) (.inl rfl) (by rw[<-g1];subst hP;rfl)
   ·cbv;refine i7 _ _ ?_;cbv;refine ab (λh=>?_) (λh=>?_)
    ·obtain⟨g1,g2⟩:=uu oA h1 hw (fE hP h);cbv;exact a _ g2 _ _ _ _ _ _ _ _ _ _ _ _ (a7.refl _) ⟨rfl,rfl,aj 0,ag 8,rfl⟩ (.inr (.inl ⟨rfl,rfl⟩)) (.inr (.inl ⟨rfl,rfl⟩)) (g1)
    obtain⟨g1,g2⟩:=uw oA h1 hw (fD hP h);cbv;exact a _ g2 _ _ _ _ _ _ _ _ _ _ _ _ (a7.refl _) ⟨rfl,rfl,aj 0,ag 8,rfl⟩ (.inl rfl) (.inl rfl) (by rw[<-g1];subst hP;rfl)
 ·replace DN:=DN hf
  replace DO:=DO hf
  clear r5 r6 r7 r8 r9 uq ur uu uw;have hw:wt=false:=by
   cases wt with
   |false=>rfl
   |true=>rw[e rfl] at hf;cases hf
  cbv;refine fv hf ?_;cbv;refine fv hw ?_;cbv;refine i6 _ _ ?_;cbv;refine ab (λh=>?_) (λh=>?_)
  ·obtain⟨g1,g2⟩:=DN (fE hP h);cbv;exact a _ g2 _ _ _ _ _ _ _ _ _ _ _ _ (a7.refl _) ⟨rfl,rfl,aj 0,ag 8,rfl⟩ (.inr (.inl ⟨rfl,rfl⟩)) (.inr (.inl ⟨rfl,rfl⟩)) g1
  obtain⟨g1,g2⟩:=DO (fD hP h);cbv;exact a _ g2 _ _ _ _ _ _ _ _ _ _ _ _ (a7.refl _) ⟨rfl,rfl,aj 0,ag 8,rfl⟩ (.inl rfl) (.inl rfl) (by rw[<-g1];subst hP;rfl)
theorem nK(a b:List Part):(er a b).1.length<=maxLen:=by
 have:=(Fi a b).1;have h:maxLen=9223372036854775807:=by decide
 omega
theorem Kt{c:Client}(h:jA c=0)(hw:c.waiting=true):c.eT=true:=by
 obtain⟨_,_,h3,_⟩:=sy h;unfold ji at h3;cases hf:c.eT with
 |true=>rfl
 |false=>exact absurd (.inr (.inr ⟨hw,hf⟩)) h3
theorem RU(c:Client)(m:od)(hs:c.eZ.length<=maxLen)(hh:c.held.length<=maxLen)(hd:m.delta.length<=maxLen):Spec Tryz.prog 63 [.agg (ef c),.agg (fY m)] Hp.emp (Is (.tup [.agg (ef (gR c m).1),.int .i64 (gR c m).2])):=
 hH gY RS λR a=>RT ca rfl _ _ c.who c.rev c.seq (jA c) (cF m.delta) m.base m.who m.seq (er m.delta c.eZ).2.2 (er (er m.delta c.eZ).1 c.held).2.2 (gP m.delta c.text).2 (gP (er m.delta c.eZ).1 c.text).2 (gP (er (er m.delta c.eZ).1 c.held).1 c.text).2
  c.text (gP m.delta c.text).1 (gP (er m.delta c.eZ).1 c.text).1 (gP (er (er m.delta c.eZ).1 c.held).1 c.text).1 c.eT c.waiting (c.eZ.map a6) (c.held.map a6) (m.delta.map a6) ((er m.delta c.eZ).1.map a6) ((er m.delta c.eZ).2.1.map a6) ((er (er m.delta c.eZ).1 c.held).1.map a6) ((er (er m.delta c.eZ).1 c.held).2.1.map a6)
  pJ Kt
  (fU (tm c hs hh) (λh=>.cons (.same _) .nil) rfl) (fU (nA m.delta hd) (λh=>.cons (.j8 _ _) .nil) rfl)
  (λh=>fU (xy c (oZ h) (sB h)) (λh=>.cons (.same _) .nil) rfl)
  (fU (yu m.delta c.eZ hd hs) (λh=>.cons (.same _) (.cons (.same _) .nil)) rfl)
  (fU (yu (er m.delta c.eZ).1 c.held (nK _ _) hh) (λh=>.cons (.same _) (.cons (.same _) .nil)) rfl)
  (fU (xe m.delta hd c.text) (λh=>.cons (.j8 _ _) (.cons (.same _) .nil)) rfl)
  (fU (xe (er m.delta c.eZ).1 (nK _ _) c.text) (λh=>.cons (.j8 _ _) (.cons (.same _) .nil)) rfl)
  (fU (xe (er (er m.delta c.eZ).1 c.held).1 (nK _ _) c.text) (λh=>.cons (.j8 _ _) (.cons (.same _) .nil)) rfl)
  _ _ (Pu c m) R λx2 hx=>by subst hx;exact pI a
def AP:AC:=qr [qo 2 (.box 64 8 (.t 0)),qo 3 (.box 95 4 (.t 1)),qo 4 (.alloc 64 iY),qz 5 0] (qq (qr [qd 10 8 2,qa 11 103 [.t 10],qm 6 11] (qr [qm 12 6,qc 13 .neq 12 0] (qu 13 (qr [qo 14 (.build iY []),qm 15 6,qs 8 4 14,qm 5 15] .ret) .skip))) (qq (qr [qf 16 3 3,ql 17 16,qa 18 89 [.t 17],qm 7 18] (qr [qm 19 7,qc 20 .neq 19 0] (qu 20 (qr [qo 21 (.build iY []),qm 22 7,qs 8 4 21,qm 5 22] .ret) .skip))) (qq (qr [qf 23 0 3,ql 24 23,qf 25 1 2,ql 26 25,qb 27 .neq 24 26] (qu 27 (qr [qo 28 (.build iY []),qs 8 4 28,qz 5 10] .ret) .skip)) (qq (qr [qf 29 1 2,ql 30 29,qc 31 .gtr 30 2147483646] (qu 31 (qr [qo 32 (.build iY []),qs 8 4 32,qz 5 11] .ret) .skip)) (qr [qf 33 1 2,ql 34 33,qc 35 .add 34 1,qf 36 1 2,qs 1 36 35] (qq (qr [qf 37 4 2,ql 38 37,qm 39 38,qg 40 39 true (.faddr 0 (.t 2)),qg 41 39 true (.load1 (.t 40)),qg 42 39 true (.faddr 1 (.t 3)),qg 43 39 true (.load1 (.t 42)),qg 44 39 true (.bin .eql (.t 41) (.t 43)),qo 45 (.pick (.t 39) (.t 44) (.c (.bool false))),qm 46 45,qg 47 46 true (.faddr 2 (.t 2)),qg 48 46 true (.load1 (.t 47)),qg 49 46 true (.faddr 2 (.t 3)),qg 50 46 true (.load1 (.t 49)),qg 51 46 true (.bin .eql (.t 48) (.t 50)),qo 52 (.pick (.t 46) (.t 51) (.c (.bool false)))] (qu 52 (qq (qr [qf 53 6 2,ql 54 53,qo 55 (.not (.t 54))] (qu 55 (qr [qf 56 4 2,⟨none,none,.store 1 (.t 56) (.c (.bool false))⟩,qf 57 5 2,⟨none,none,.store 1 (.t 57) (.c (.slice none 0 0))⟩] (qr [qd 58 8 2,qs 8 4 58,qz 5 0] .ret)) .skip)) (qq (qr [qf 59 2 2,ql 60 59,qc 61 .gtr 60 2147483646] (qu 61 (qr [qo 62 (.build iY []),qs 8 4 62,qz 5 11] .ret) .skip)) (qr [qf 63 7 2,ql 64 63,qf 65 2 2,ql 66 65,qc 67 .add 66 1,qf 68 5 2,qs 1 68 64,qf 69 7 2,⟨none,none,.store 1 (.t 69) (.c (.slice none 0 0))⟩,qf 70 6 2,⟨none,none,.store 1 (.t 70) (.c (.bool false))⟩,qf 71 2 2,qs 1 71 67] (qr [qd 72 8 2,qs 8 4 72,qz 5 0] .ret)))) .skip)) (qr [qf 73 3 3,ql 74 73,qm 8 74,qz 9 0] (qq (qr [qf 75 4 2,ql 76 75] (qu 76 (qR [qm 78 8,qf 79 5 2,ql 80 79,qa 81 91 [.t 78,.t 80],qm 77 81,qx 82 0 77,qx 83 1 77,qx 84 2 77,qm 8 82,qf 85 5 2,qs 1 85 83,qm 9 84]) .skip)) (qq (qr [qf 86 6 2,ql 87 86,qm 88 87,qg 89 88 true (.mov (.t 9)),qg 90 88 true (.bin .eql (.t 89) (qk 0)),qo 91 (.pick (.t 88) (.t 90) (.c (.bool false)))] (qu 91 (qR [qm 93 8,qf 94 7 2,ql 95 94,qa 96 91 [.t 93,.t 95],qm 92 96,qx 97 0 92,qx 98 1 92,qx 99 2 92,qm 8 97,qf 100 7 2,qs 1 100 98,qm 9 99]) .skip)) (qq (qr [qm 101 9,qc 102 .neq 101 0] (qu 102 (qr [qo 103 (.build iY []),qm 104 9,qs 8 4 103,qm 5 104] .ret) .skip)) (qq (qr [qm 106 8,qf 107 3 2,ql 108 107,qa 109 104 [.t 106,.t 108],qm 105 109,qx 110 0 105,qx 111 1 105,qf 112 3 2,qs 1 112 110,qm 9 111] (qr [qm 113 9,qc 114 .neq 113 0] (qu 114 (qr [qo 115 (.build iY []),qm 116 9,qs 8 4 115,qm 5 116] .ret) .skip))) (qr [qd 117 8 2,qs 8 4 117,qz 5 0] .ret))))))))))))
theorem Ku:fo Tryz.prog 64 Tryz.f64 AP [.cn 4 8,.t 5] 2 eV:=⟨Tryz.func64,by decide+kernel,by kernel_rfl,by kernel_rfl,by decide+kernel⟩
theorem Kv(P:Prim)(hP:P=ca)(T k:cp)(w r q c ck b mw mq e1 e2 x0 x1 x2:Int)(s t0 t1 t2:BS)(fl wt:Bool)(sr hr mr d1 s1 d2 h2:List (List V))(hq:c=0->0<=q/\q<=2147483647/\0<=r/\r<=2147483647)(e:c=0->wt=true->fl=true)(f:c=0->wt=false->hr=[])
  (i1:fZ T 103 [.agg [qI w,qI r,qI q,.str s,.bool fl,.sl false 3 sr,.bool wt,.sl false 3 hr]] (qI c))
  (i2:fZ T 89 [.sl false 3 mr] (qI ck))
  (i4:fZ T 91 [.sl false 3 mr,.sl false 3 sr] (.tup [.sl false 3 d1,.sl false 3 s1,qI e1]))
  (i5:fZ T 91 [.sl false 3 d1,.sl false 3 hr] (.tup [.sl false 3 d2,.sl false 3 h2,qI e2]))
  (i6:fZ T 104 [.sl false 3 mr,.str s] (.tup [.str t0,qI x0]))
  (i7:fZ T 104 [.sl false 3 d1,.str s] (.tup [.str t1,qI x1]))
  (i8:fZ T 104 [.sl false 3 d2,.str s] (.tup [.str t2,qI x2]))
  (cc:CV)(x:Int)(hx:V7 w r q c ck b mw mq e1 e2 x0 x1 x2 s t0 t1 t2 fl wt sr hr s1 h2 cc x)
  (R:S->Prop)(a:∀x2,x2=x->qN [.cn 4 8,.t 5] [qI x2] cc R):fX P T k AP (S0 [.agg [qI w,qI r,qI q,.str s,.bool fl,.sl false 3 sr,.bool wt,.sl false 3 hr],.agg [qI b,qI mw,qI mq,.sl false 3 mr]] Hp.emp) R (λ_ _=>False) R:=by
 obtain⟨r1,r2,r3,r4,r5,r6,r7,r8,r9,uq,ur,uu,uw,DN,DO⟩:=hx;cbv;intro l;cbv;intro m;cbv;intro n;cbv;refine i1 _ _ ?_;clear i1;cbv;refine ab (λh=>?_) (λh=>?_)
 ·obtain⟨g1,g2⟩:=r1 (fE hP h);cbv;exact a _ g2 _ _ _ _ _ _ _ _ _ _ _ _ (a7.refl _) ⟨rfl,rfl,aj 0,ag 8,rfl⟩ (.inr (.inl ⟨rfl,rfl⟩)) (.inr (.inl ⟨rfl,rfl⟩)) g1
 have hc:=fD hP h;have o:=hq hc;have i:=e hc;have j:=f hc;clear r1 hq e h f;cbv;refine i2 _ _ ?_;clear i2;cbv;refine ab (λh=>?_) (λh=>?_)
 ·obtain⟨g1,g2⟩:=r2 hc (fE hP h);cbv;exact a _ g2 _ _ _ _ _ _ _ _ _ _ _ _ (a7.refl _) ⟨rfl,rfl,aj 0,ag 8,rfl⟩ (.inr (.inl ⟨rfl,rfl⟩)) (.inr (.inl ⟨rfl,rfl⟩)) g1
 have hk:=fD hP h;clear r2 h;cbv;refine ab (λh=>?_) (λh=>?_)
 ·obtain⟨g1,g2⟩:=r3 hc hk (fE hP h);cbv;exact a _ g2 _ _ _ _ _ _ _ _ _ _ _ _ (a7.refl _) ⟨rfl,rfl,aj 0,ag 8,rfl⟩ (.inr (.inl ⟨rfl,rfl⟩)) (.inr (.inl ⟨rfl,rfl⟩)) g1
 have hb:=fD hP h;clear r3 h;cbv;refine ab (λh=>?_) (λh=>?_)
 ·have hh:2147483646<r:=fA hP h;obtain⟨g1,g2⟩:=r4 hc hk hb qW;cbv;exact a _ g2 _ _ _ _ _ _ _ _ _ _ _ _ (a7.refl _) ⟨rfl,rfl,aj 0,ag 8,rfl⟩ (.inr (.inl ⟨rfl,rfl⟩)) (.inr (.inl ⟨rfl,rfl⟩)) g1
 have hr1:¬2147483646<r:=fg hP h;have d:r≠2147483647:=by omega
 clear r4 h
 replace r5:=r5 hc hk hb d
 replace r6:=r6 hc hk hb d
 replace r7:=r7 hc hk hb d
 replace r8:=r8 hc hk hb d
 replace r9:=r9 hc hk hb d
 replace uq:=uq hc hk hb d
 replace ur:=ur hc hk hb d
 replace uu:=uu hc hk hb d
 replace uw:=uw hc hk hb d
 replace DN:=DN hc hk hb d
 replace DO:=DO hc hk hb d
 have o2:P.i64 (P.add r 1):=by rw[add_eq hP];exact ft hP qW
 cbv;refine⟨o2,?_⟩;cbv;refine ab (λhf=>?_) (λhf=>?_)
 ·replace r5:=r5 hf
  replace r6:=r6 hf
  replace r7:=r7 hf
  replace r8:=r8 hf
  replace r9:=r9 hf
  replace uq:=uq hf
  replace ur:=ur hf
  replace uu:=uu hf
  replace uw:=uw hf
  clear DN DO;cbv;refine ab (λh=>?_) (λh=>?_)
  ·have m1:=(na hP h).symm;clear h;cbv;refine ab (λh=>?_) (λh=>?_)
   ·have m2:=(na hP h).symm;clear h r8 r9 uq ur uu uw i4 i5 i6 i7 i8;cbv;refine ab (λhw=>?_) (λhw=>?_)
    ·cbv;refine ab (λh=>?_) (λh=>?_)
     ·have hh:2147483646<q:=fA hP h;obtain⟨g1,g2⟩:=r5 m1 m2 hw qW;cbv;exact a _ g2 _ _ _ _ _ _ _ _ _ _ _ _ (a7.refl _) ⟨rfl,rfl,aj 0,ag 8,rfl⟩ (.inr (.inl ⟨rfl,rfl⟩)) (.inr (.inl ⟨rfl,rfl⟩)) g1
     have h5:¬2147483646<q:=fg hP h;obtain⟨g1,g2⟩:=r6 m1 m2 hw qW;have o3:P.i64 (P.add q 1):=by rw[add_eq hP];exact ft hP qW
     cbv;refine⟨o3,?_⟩;cbv;exact a _ g2 _ _ _ _ _ _ _ _ _ _ _ _ (a7.refl _) ⟨rfl,rfl,aj 0,ag 8,rfl⟩ (.inl rfl) (.inr (.inl ⟨rfl,rfl⟩)) (by rw[<-g1,hf];subst hP;rfl)
    ·obtain⟨g1,g2⟩:=r7 m1 m2 hw;cbv;exact a _ g2 _ _ _ _ _ _ _ _ _ _ _ _ (a7.refl _) ⟨rfl,rfl,aj 0,ag 8,rfl⟩ (.inr (.inl ⟨rfl,rfl⟩)) (.inl rfl) (by rw[<-g1,hw,j hw];subst hP;rfl)
   ·have oA:¬(mw=w/\mq=q):=λg=>nd hP h g.2.symm;clear h r5 r6 r7;cbv;refine eY hf ?_;cbv;refine i4 _ _ ?_;clear i4;cbv;refine ab (λhw=>?_) (λhw=>?_)
    ·cbv;refine ab (λh=>?_) (λh=>?_)
     ·have h1:=na hP h;cbv;refine i5 _ _ ?_;clear i5;cbv;refine ab (λh=>?_) (λh=>?_)
      ·obtain⟨g1,g2⟩:=r9 oA h1 hw (fE hP h);cbv;exact a _ g2 _ _ _ _ _ _ _ _ _ _ _ _ (a7.refl _) ⟨rfl,rfl,aj 0,ag 8,rfl⟩ (.inr (.inl ⟨rfl,rfl⟩)) (.inr (.inl ⟨rfl,rfl⟩)) g1
      have h2:=fD hP h;clear h;cbv;refine i8 _ _ ?_;cbv;refine ab (λh=>?_) (λh=>?_)
      ·obtain⟨g1,g2⟩:=uq oA h1 hw h2 (fE hP h);cbv;exact a _ g2 _ _ _ _ _ _ _ _ _ _ _ _ (a7.refl _) ⟨rfl,rfl,aj 0,ag 8,rfl⟩ (.inr (.inl ⟨rfl,rfl⟩)) (.inr (.inl ⟨rfl,rfl⟩)) g1
      obtain⟨g1,g2⟩:=ur oA h1 hw h2 (fD hP h);cbv;exact a _ g2 _ _ _ _ _ _ _ _ _ _ _ _ (a7.refl _) ⟨rfl,rfl,aj 0,ag 8,rfl⟩ (.inl rfl) (.inl rfl) (by rw[<-g1];subst hP;rfl)
     ·have h1:=nd hP h;cbv;refine eY (EF hP h1) ?_;obtain⟨g1,g2⟩:=r8 oA h1;cbv;exact a _ g2 _ _ _ _ _ _ _ _ _ _ _ _ (a7.refl _) ⟨rfl,rfl,aj 0,ag 8,rfl⟩ (.inr (.inl ⟨rfl,rfl⟩)) (.inr (.inl ⟨rfl,rfl⟩)) g1
    ·cbv;refine ab (λh=>?_) (λh=>?_)
     ·obtain⟨g1,g2⟩:=r8 oA (fE hP h);cbv;exact a _ g2 _ _ _ _ _ _ _ _ _ _ _ _ (a7.refl _) ⟨rfl,rfl,aj 0,ag 8,rfl⟩ (.inr (.inl ⟨rfl,rfl⟩)) (.inr (.inl ⟨rfl,rfl⟩)) g1
     have h1:=fD hP h;clear h;cbv;refine i7 _ _ ?_;cbv;refine ab (λh=>?_) (λh=>?_)
     ·obtain⟨g1,g2⟩:=uu oA h1 hw (fE hP h);cbv;exact a _ g2 _ _ _ _ _ _ _ _ _ _ _ _ (a7.refl _) ⟨rfl,rfl,aj 0,ag 8,rfl⟩ (.inr (.inl ⟨rfl,rfl⟩)) (.inr (.inl ⟨rfl,rfl⟩)) g1
     obtain⟨g1,g2⟩:=uw oA h1 hw (fD hP h);cbv;exact a _ g2 _ _ _ _ _ _ _ _ _ _ _ _ (a7.refl _) ⟨rfl,rfl,aj 0,ag 8,rfl⟩ (.inl rfl) (.inl rfl) (by rw[<-g1];subst hP;rfl)
  ·have oA:¬(mw=w/\mq=q):=λg=>nd hP h g.1.symm;clear h r5 r6 r7;cbv;refine eY hf ?_;cbv;refine i4 _ _ ?_;clear i4;cbv;refine ab (λhw=>?_) (λhw=>?_)
   ·cbv;refine ab (λh=>?_) (λh=>?_)
    ·have h1:=na hP h;cbv;refine i5 _ _ ?_;clear i5;cbv;refine ab (λh=>?_) (λh=>?_)
     ·obtain⟨g1,g2⟩:=r9 oA h1 hw (fE hP h);cbv;exact a _ g2 _ _ _ _ _ _ _ _ _ _ _ _ (a7.refl _) ⟨rfl,rfl,aj 0,ag 8,rfl⟩ (.inr (.inl ⟨rfl,rfl⟩)) (.inr (.inl ⟨rfl,rfl⟩)) g1
     have h2:=fD hP h;clear h;cbv;refine i8 _ _ ?_;cbv;refine ab (λh=>?_) (λh=>?_)
     ·obtain⟨g1,g2⟩:=uq oA h1 hw h2 (fE hP h);cbv;exact a _ g2 _ _ _ _ _ _ _ _ _ _ _ _ (a7.refl _) ⟨rfl,rfl,aj 0,ag 8,rfl⟩ (.inr (.inl ⟨rfl,rfl⟩)) (.inr (.inl ⟨rfl,rfl⟩)) g1
     obtain⟨g1,g2⟩:=ur oA h1 hw h2 (fD hP h);cbv;exact a _ g2 _ _ _ _ _ _ _ _ _ _ _ _ (a7.refl _) ⟨rfl,rfl,aj 0,ag 8,rfl⟩ (.inl rfl) (.inl rfl) (by rw[<-g1];subst hP;rfl)
    ·have h1:=nd hP h;cbv;refine eY (EF hP h1) ?_;obtain⟨g1,g2⟩:=r8 oA h1;cbv;exact a _ g2 _ _ _ _ _ _ _ _ _ _ _ _ (a7.refl _) ⟨rfl,rfl,aj 0,ag 8,rfl⟩ (.inr (.inl ⟨rfl,rfl⟩)) (.inr (.inl ⟨rfl,rfl⟩)) g1
   ·cbv;refine ab (λh=>?_) (λh=>?_)
    ·obtain⟨g1,g2⟩:=r8 oA (fE hP h);cbv;exact a _ g2 _ _ _ _ _ _ _ _ _ _ _ _ (a7.refl _) ⟨rfl,rfl,aj 0,ag 8,rfl⟩ (.inr (.inl ⟨rfl,rfl⟩)) (.inr (.inl ⟨rfl,rfl⟩)) g1
    have h1:=fD hP h;clear h;cbv;refine i7 _ _ ?_;cbv;refine ab (λh=>?_) (λh=>?_)
    ·obtain⟨g1,g2⟩:=uu oA h1 hw (fE hP h);cbv;exact a _ g2 _ _ _ _ _ _ _ _ _ _ _ _ (a7.refl _) ⟨rfl,rfl,aj 0,ag 8,rfl⟩ (.inr (.inl ⟨rfl,rfl⟩)) (.inr (.inl ⟨rfl,rfl⟩)) g1
    obtain⟨g1,g2⟩:=uw oA h1 hw (fD hP h);cbv;exact a _ g2 _ _ _ _ _ _ _ _ _ _ _ _ (a7.refl _) ⟨rfl,rfl,aj 0,ag 8,rfl⟩ (.inl rfl) (.inl rfl) (by rw[<-g1];subst hP;rfl)
 ·replace DN:=DN hf
  replace DO:=DO hf
  clear r5 r6 r7 r8 r9 uq ur uu uw;have hw:wt=false:=by
   cases wt with
   |false=>rfl
   |true=>rw[i rfl] at hf;cases hf
  cbv;refine fv hf ?_;cbv;refine fv hw ?_;cbv;refine fv (EG hP rfl) ?_;cbv;refine i6 _ _ ?_;cbv;refine ab (λh=>?_) (λh=>?_)
  ·obtain⟨g1,g2⟩:=DN (fE hP h);cbv;exact a _ g2 _ _ _ _ _ _ _ _ _ _ _ _ (a7.refl _) ⟨rfl,rfl,aj 0,ag 8,rfl⟩ (.inr (.inl ⟨rfl,rfl⟩)) (.inr (.inl ⟨rfl,rfl⟩)) g1
  obtain⟨g1,g2⟩:=DO (fD hP h);cbv;exact a _ g2 _ _ _ _ _ _ _ _ _ _ _ _ (a7.refl _) ⟨rfl,rfl,aj 0,ag 8,rfl⟩ (.inl rfl) (.inl rfl) (by rw[<-g1];subst hP;rfl)
theorem Kw(c:Client)(m:od)(hs:c.eZ.length<=maxLen)(hh:c.held.length<=maxLen)(hd:m.delta.length<=maxLen):Spec Tryz.prog 64 [.agg (ef c),.agg (fY m)] Hp.emp (Is (.tup [.agg (ef (gR c m).1),.int .i64 (gR c m).2])):=
 hH gY Ku λR a=>Kv ca rfl _ _ c.who c.rev c.seq (jA c) (cF m.delta) m.base m.who m.seq (er m.delta c.eZ).2.2 (er (er m.delta c.eZ).1 c.held).2.2 (gP m.delta c.text).2 (gP (er m.delta c.eZ).1 c.text).2 (gP (er (er m.delta c.eZ).1 c.held).1 c.text).2
  c.text (gP m.delta c.text).1 (gP (er m.delta c.eZ).1 c.text).1 (gP (er (er m.delta c.eZ).1 c.held).1 c.text).1 c.eT c.waiting (c.eZ.map a6) (c.held.map a6) (m.delta.map a6) ((er m.delta c.eZ).1.map a6) ((er m.delta c.eZ).2.1.map a6) ((er (er m.delta c.eZ).1 c.held).1.map a6) ((er (er m.delta c.eZ).1 c.held).2.1.map a6)
  pJ Kt (λh h2=>by obtain⟨_,_,_,g,_⟩:=uE h;rw[g h2];rfl)
  (fU (DI c hs hh) (λh=>.cons (.same _) .nil) rfl) (fU (gU m.delta hd) (λh=>.cons (.j8 _ _) .nil) rfl)
  (fU (vU m.delta c.eZ hd hs) (λh=>.cons (.same _) (.cons (.same _) .nil)) rfl)
  (fU (vU (er m.delta c.eZ).1 c.held (nK _ _) hh) (λh=>.cons (.same _) (.cons (.same _) .nil)) rfl)
  (fU (xX m.delta hd c.text) (λh=>.cons (.j8 _ _) (.cons (.same _) .nil)) rfl)
  (fU (xX (er m.delta c.eZ).1 (nK _ _) c.text) (λh=>.cons (.j8 _ _) (.cons (.same _) .nil)) rfl)
  (fU (xX (er (er m.delta c.eZ).1 c.held).1 (nK _ _) c.text) (λh=>.cons (.j8 _ _) (.cons (.same _) .nil)) rfl)
  _ _ (Pu c m) R λx2 hx=>by subst hx;exact pI a
open Go.RowKit
def jH:List fP->Nat
 |[]=>0
 |.put _::ts=>jH ts+1
 |.keep::ts=>jH ts
 |.cut::ts=>jH ts
def Kx:List (BS×Nat)->Nat
 |[]=>0
 |g::r=>g.1.length+Kx r
theorem AQ(ts:List fP):jH ts=Kx (gz ts):=by
 induction ts with
 |nil=>rfl
 |cons t ts ih=>
  obtain⟨⟨p,c⟩,r,h⟩:=lT ts;rw[h] at ih;cases t
  ·simp only[gz,h,Kx,jH,ih];simp
  ·simp only[gz,h,Kx,jH,ih,ar];omega
  ·simp only[gz,h,Kx,jH,ih]
theorem uF(ts:List fP):jH (cm (nT ts))=jH ts:=by rw[AQ,vX,<-AQ]
def pc(d:List Part):Nat:=jH (cm d)
theorem tn:∀ts:List fP,fi ts<=fH ts+jH ts
 |[]=>bd _
 |.put b::ts=>by rw[pB,Js,jH];have:=tn ts;omega
 |.keep::ts=>by rw[kU,iy,jH];have:=tn ts;omega
 |.cut::ts=>by rw[pA,kB,jH];have:=tn ts;omega
theorem lp:∀(f:Nat)(xs a:List fP),xs.length+a.length<=f->fH xs=fH a->fH (fI f xs a).1=fi a/\fi (fI f xs a).1=fi (fI f xs a).2/\jH (fI f xs a).1=jH xs/\jH (fI f xs a).2=jH a
 |0,xs,a,hf,_=>by
  have h1:xs=[]:=aq qW;have h2:a=[]:=aq qW;subst h1 h2;exact⟨rfl,rfl,rfl,rfl⟩
 |f+1,.put b::xs,a,hf,hi=>by
  obtain⟨h1,h2,h3,h4⟩:=lp f xs a (by simp at hf⊢;omega) hi;simp only[fI,Js,pB,kU,jH];exact⟨h1,qW,qW,h4⟩
 |f+1,[],.put b::a,hf,hi=>by
  obtain⟨h1,h2,h3,h4⟩:=lp f [] a (by simp at hf⊢;omega) hi;simp only[fI,iy,pB,kU,jH];exact⟨qW,qW,h3,qW⟩
 |f+1,.keep::xs,.put b::a,hf,hi=>by
  obtain⟨h1,h2,h3,h4⟩:=lp f (.keep::xs) a (by simp at hf⊢;omega) hi;simp only[fI,iy,pB,kU,jH];exact⟨qW,qW,h3,qW⟩
 |f+1,.cut::xs,.put b::a,hf,hi=>by
  obtain⟨h1,h2,h3,h4⟩:=lp f (.cut::xs) a (by simp at hf⊢;omega) hi;simp only[fI,iy,pB,kU,jH];exact⟨qW,qW,h3,qW⟩
 |f+1,.keep::xs,.keep::a,hf,hi=>by
  rw[iy,iy] at hi;obtain⟨h1,h2,h3,h4⟩:=lp f xs a (by simp at hf⊢;omega) qW;simp only[fI,iy,kU,jH];exact⟨qW,qW,h3,h4⟩
 |f+1,.cut::xs,.keep::a,hf,hi=>by
  rw[iy,kB] at hi;obtain⟨h1,h2,h3,h4⟩:=lp f xs a (by simp at hf⊢;omega) qW;simp only[fI,kB,pA,kU,jH];exact⟨qW,h2,h3,h4⟩
 |f+1,.keep::xs,.cut::a,hf,hi=>by
  rw[iy,kB] at hi;obtain⟨h1,h2,h3,h4⟩:=lp f xs a (by simp at hf⊢;omega) qW;simp only[fI,pA,jH];exact⟨h1,h2,h3,h4⟩
 |f+1,.cut::xs,.cut::a,hf,hi=>by
  rw[kB,kB] at hi;obtain⟨h1,h2,h3,h4⟩:=lp f xs a (by simp at hf⊢;omega) qW;simp only[fI,pA,jH];exact⟨h1,h2,h3,h4⟩
 |f+1,[],[],hf,hi=>⟨rfl,rfl,rfl,rfl⟩
 |f+1,[],.keep::a,hf,hi=>by rw[iy] at hi;exact absurd hi (by simp[fH,dE])
 |f+1,[],.cut::a,hf,hi=>by rw[kB] at hi;exact absurd hi (by simp[fH,dE])
 |f+1,.keep::xs,[],hf,hi=>by rw[iy] at hi;exact absurd hi (by simp[fH,dE])
 |f+1,.cut::xs,[],hf,hi=>by rw[kB] at hi;exact absurd hi (by simp[fH,dE])
theorem Ky{a b:List Part}(ha:cF a=0)(hb:cF b=0):fH (cm a)=fH (cm b)↔jy a=jy b:=by
 have h1:=tQ ha;have h2:=tQ hb;omega
theorem AR{a b:List Part}(ha:cF a=0)(hb:cF b=0)(hi:fH (cm a)=fH (cm b))(ho:fi (cm a)+pc b<=500):
  (er a b).2.2=0/\cF (er a b).1=0/\cF (er a b).2.1=0/\fH (cm (er a b).1)=fi (cm b)/\fH (cm (er a b).2.1)=fi (cm a)/\fi (cm (er a b).1)=fi (cm (er a b).2.1)/\pc (er a b).1=pc a/\pc (er a b).2.1=pc b:=by
 have hm:mt (cm a) (cm b)=fI ((cm a).length+(cm b).length) (cm a) (cm b):=rfl;obtain⟨h1,h2,h3,h4⟩:=lp _ (cm a) (cm b) (ag _) hi;have h5:=kX _ (cm a) (cm b) (ag _) hi;rw[<-hm] at h1 h2 h3 h4 h5;have h6:=tn (mt (cm a) (cm b)).2;have ob:=dv hb;have d:=qC hb;unfold pc at ho;have c1:cF (mH a b)=0:=qK _ qW qW;have c:cF (mY a b)=0:=qK _ qW qW;have he:lR a b=0:=by
  unfold lR;rw[aa (λg=>g ha),aa (λg=>g hb),aa (λg=>g ((Ky ha hb).1 hi)),aa (λg=>g c1),c]
 unfold er;rw[ae he];unfold pc;refine⟨rfl,c1,c,?_,?_,?_,?_,?_⟩
 ·show fH (cm (nT _))=_;rw[sw];exact h1
 ·show fH (cm (nT _))=_;rw[sw];exact h5
 ·show fi (cm (nT _))=fi (cm (nT _));rw[oX,oX];exact h2
 ·show jH (cm (nT _))=_;rw[uF];exact h3
 ·show jH (cm (nT _))=_;rw[uF];exact h4
theorem Oh{a b:List Part}(h:(er a b).2.2=0):pc (er a b).2.1=pc b:=by
 obtain⟨h1,h2,h3,h4,h5⟩:=oY h;rw[h5];unfold pc;show jH (cm (nT _))=_;rw[uF];exact(lp _ (cm a) (cm b) (ag _) ((Ky h1 h2).2 h3)).2.2.2
theorem pK:∀(l k:List eX)(x y:List Part),fS x l=(y,0)->fS x (l++k)=fS y k
 |[],k,x,y,h=>by cases h;rfl
 |r::l,k,x,y,h=>by
  rw[ay];unfold fS at h⊢
  split at h
  ·rename_i hn;have:(er r.delta x).2.2=0:=(Prod.mk.inj h).2;exact absurd this hn
  ·rename_i hn;rw[aa hn];exact(pK l k _ y h).trans (by cases k<;>rfl)
theorem AS:∀(l:List eX)(x y:List Part),fS x l=(y,0)->pc y=pc x
 |[],x,y,h=>by cases h;rfl
 |r::l,x,y,h=>by
  unfold fS at h
  split at h
  ·rename_i hn;exact absurd (Prod.mk.inj h).2 hn
  ·rename_i hn;rw[AS l _ y h,Oh (aG hn)]
theorem sC:∀(f:Nat)(xs a:List fP),jH (gq f xs a)<=jH xs+jH a
 |0,xs,a=>bd _
 |f+1,.cut::xs,a=>by simp only[gq,jH];exact sC f xs a
 |f+1,[],.put b::a=>by simp only[gq,jH];have:=sC f [] a;simp only[jH] at this;omega
 |f+1,.keep::xs,.put b::a=>by
  rw[gq]
  ·simp only[jH];have:=sC f (.keep::xs) a;simp only[jH] at this;omega
  ·intro _ h;cases h
 |f+1,.put c::xs,.put b::a=>by
  rw[gq]
  ·simp only[jH];have:=sC f (.put c::xs) a;simp only[jH] at this;omega
  ·intro _ h;cases h
 |f+1,.keep::xs,.keep::a=>by simp only[gq,jH];exact sC f xs a
 |f+1,.keep::xs,.cut::a=>by simp only[gq,jH];exact sC f xs a
 |f+1,.put b::xs,.keep::a=>by simp only[gq,jH];have:=sC f xs a;omega
 |f+1,.put b::xs,.cut::a=>by simp only[gq,jH];have:=sC f xs a;omega
 |f+1,[],[]=>by simp[gq,jH]
 |f+1,[],.keep::a=>by simp[gq,jH]
 |f+1,[],.cut::a=>by simp[gq,jH]
 |f+1,.keep::xs,[]=>by simp[gq,jH]
 |f+1,.put b::xs,[]=>by simp[gq,jH]
theorem Kz{a b:List Part}(ha:cF a=0)(hb:cF b=0)(hi:fi (cm a)=fH (cm b)):(iT a b).2=0/\cF (iT a b).1=0/\fH (cm (iT a b).1)=fH (cm a)/\fi (cm (iT a b).1)=fi (cm b)/\pc (iT a b).1<=pc a+pc b:=by
 have h1:=qC ha;have h2:=tQ hb;have h3:=dv ha;have h4:=dv hb;have h5:=tQ ha;have h6:=qC hb;obtain⟨g1,_,_,g4⟩:=iC _ (cm a) (cm b) (List.replicate (fH (cm a)) 0) 0 0 0 (ag _) hi (by simp);have e:iT a b=(nT (cmp (cm a) (cm b)),0):=by
  unfold iT;rw[aa (λg=>g ha),aa (λg=>g hb),aa qW]
 rw[e];have g1:fH (cmp (cm a) (cm b))=fH (cm a):=g1;have g4:fi (cmp (cm a) (cm b))=fi (cm b):=g4;have g5:jH (cmp (cm a) (cm b))<=jH (cm a)+jH (cm b):=sC _ _ _;unfold pc;refine⟨rfl,qK _ qW qW,?_,?_,?_⟩
 ·show fH (cm (nT _))=_;rw[sw,g1]
 ·show fi (cm (nT _))=_;rw[oX,g4]
 ·show jH (cm (nT _))<=_;rw[uF];exact g5
def cb(j:Nat):List eX->Nat
 |[]=>0
 |r::l=>(if r.who=(j:Int) then pc r.delta else 0)+cb j l
def Uf:List eX->Nat
 |[]=>0
 |r::l=>pc r.delta+Uf l
theorem o4(j:Nat):∀a c:List eX,cb j (a++c)=cb j a+cb j c
 |[],c=>by simp[cb]
 |r::a,c=>by rw[ay,cb,cb,o4 j a c];omega
def KA(j:Nat)(l:List eX):Prop:=∀q∈l,q.who≠(j:Int)
theorem AT{j:Nat}:∀{l:List eX},KA j l->cb j l=0
 |[],_=>rfl
 |r::l,h=>by rw[cb,aa (h r (by simp)),AT λq hq=>h q (by simp[hq])]
def nm(f:Nat->Nat):Nat->Nat
 |0=>0
 |n+1=>nm f n+f n
theorem DP{f g:Nat->Nat}:∀{n:Nat},(∀i,i<n->f i<=g i)->nm f n<=nm g n
 |0,_=>ag _
 |n+1,h=>Nat.add_le_add (DP λi hi=>h i qW) (h n qW)
theorem sD(f g:Nat->Nat):∀n:Nat,nm (λi=>f i+g i) n=nm f n+nm g n
 |0=>rfl
 |n+1=>by simp only[nm,sD f g n];omega
theorem tp:∀n:Nat,nm (λ_=>0) n=0
 |0=>rfl
 |n+1=>by simp only[nm,tp n]
theorem sE(k p:Nat):∀n:Nat,nm (λi=>if k=i then p else 0) n=if k<n then p else 0
 |0=>by simp[nm]
 |n+1=>by
  simp only[nm,sE k p n]
  by_cases h1:k<n
  ·rw[ae h1,aa qW,ae qW];rfl
  ·rw[aa h1]
   by_cases h2:k=n
   ·rw[ae h2,ae qW];omega
   ·rw[aa h2,aa qW]
theorem DQ(n:Nat):∀l:List eX,(∀q∈l,0<=q.who/\q.who<(n:Int))->Uf l=nm (λj=>cb j l) n
 |[],_=>(tp n).symm
 |r::l,h=>by
  obtain⟨h1,h2⟩:=h r (by simp);have e:(λj=>cb j (r::l))=λj=>(if r.who.toNat=j then pc r.delta else 0)+cb j l:=by
   funext j
   rw[cb]
   by_cases hj:r.who=(j:Int)
   ·rw[ae hj,ae qW]
   ·rw[aa hj,aa qW]
  rw[Uf,DQ n l λq hq=>h q (by simp[hq]),e,sD,sE,ae qW]
theorem KB{b:Int}:∀(l:List eX)(tb:Nat->Int)(i:Nat)(now:BS),gj b tb i now l->(lK now l).length<=now.length+Uf l
 |[],_,_,_,_=>Nat.le_add_right _ _
 |r::l,tb,i,now,hc=>by
  have h1:=KB l _ _ _ hc.2;obtain⟨c1,a,c3,_⟩:=pC (nZ hc.1);have h2:=tn (cm r.delta);rw[lK,Uf];unfold pc;omega
theorem vZ{b:Int}{tb:Nat->Int}{now:BS}{l:List eX}(hc:gj b tb 0 now l){r:Nat}{q:eX}(hq:l[r]? =some q):
  (gP q.delta (lK now (l.take r))).2=0/\lK now (l.take (r+1))=(gP q.delta (lK now (l.take r))).1/\l.take (r+1)=l.take r++[q]/\l.drop r=q::l.drop (r+1):=by
 have hlt:=(ah.1 hq).1;have he:=(ah.1 hq).2;have e1:l.take (r+1)=l.take r++[q]:=by rw[ei,hq];rfl
 have e2:l.drop r=q::l.drop (r+1):=by rw[bX hlt,he]
 have h:=hc;rw[<-bL r l,e2,l9] at h;have h3:=nZ h.2.1;exact⟨h3,by rw[e1,sc];rfl,e1,e2⟩
end Go.Proofs.YtobngncjflogcaaGreat.AM
