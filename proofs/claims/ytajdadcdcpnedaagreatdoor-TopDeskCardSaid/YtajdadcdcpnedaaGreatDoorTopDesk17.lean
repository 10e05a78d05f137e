/-
  Part 17 of what the law TopDesk reaches: the plain machine, contracts of the functions and plain laws; each lemma says its own condition.
-/
import Derived.Test.YtajdadcdcpnedaaGreatDoorTopDesk16
import Derived.Test.YtajdadcdcpnedaaGreatDoorTopDesk14
import Derived.Test.YtajdadcdcpnedaaGreatDoorTopDesk15
import Derived.Lib.UnsafeStr
import Derived.Shelf.RegionOpenPlain
import Derived.Test.YtajdadcdcpnedaaGreatDoorTopDesk6
import Derived.Test.YtajdadcdcpnedaaGreatDoorTopDesk1
set_option linter.unusedVariables false
set_option linter.unusedSimpArgs false
namespace Go.Proofs.YtajdadcdcpnedaaGreatDoor.AM
open Go Go.RowKit
set_option maxRecDepth 100000
set_option maxHeartbeats 2000000
def ve(fs:List Nat):Array Oper->List AO->Bool:=λops al=>dS ops al&& !(al.any λo=>match o.op with|.call g _=>fs.any (Nat.beq g)|_=>false)
theorem O4(fs:List Nat):lh Tryz.prog (ve fs):=by
 have hd:∀ops al,ve fs ops al=true->dS ops al=true:=λops al h=>by
  unfold ve at h;rw[aO] at h;exact h.1
 exact⟨hW.1,λC n id ops al s a w K Q h1 h2 h3=>hW.2.1 C n id ops al s a w K Q h1 h2 (hd _ _ h3),λC n id ops al s a w K Q h1 h2 h3=>hW.2.2 C n id ops al s a w K Q h1 h2 (hd _ _ h3)⟩
def Q5(bk bl:Nat):Ob:=⟨some bk,51,1,[[.ptr 900 (some bl) 47 0 0]]⟩
def nV(bk bl:Nat)(d:SC)(ba:Option Nat)(n:Nat)(rows:List (List V))(mv:V)(mo:Ob):List (Nat×Ob):=[(955,Q5 bk bl),(900,eO bl (eM d (.own 1000900 ba 3 n) mv)),(1000900,il ba rows),(901,mo)]
def vf:AC:=qr [qo 4 (.box 145 4 (.t 1)),qo 6 (.mov (.c qe))] (qr [qm 9 2,qa 10 142 [.t 9],qf 11 3 4,qs 1 11 10] (qq (.mc [(qm 13 0,[]),(qn 14 13,[0]),(qf 15 0 14,[1]),(ql 16 15,[2]),(qd 17 4 4,[]),(qa 18 143 [.t 16,.t 17],[3,4]),(qm 12 18,[5]),(qx 19 0 12,[6]),(qx 20 1 12,[6]),(qm 7 19,[7,5,0,1,2,3,4,5,6,7]),(qm 8 20,[8,9,0,1,2,3,4,5,6,7,8,9])]) (qr [qm 21 8,qa 22 92 [.t 21]] (qr [qm 23 7,qa 24 93 [.t 23],qm 6 24] .ret))))
theorem Kg:fF Tryz.prog 87 Tryz.f87 vf [.t 6] 3 (ve [143]):=⟨Tryz.func87,by decide+kernel,by kernel_rfl,by kernel_rfl,by decide+kernel⟩
def Ap:List (Nat×Ah):=[(13,SF [0,1,2,3,4,5,6,7,8,9,10] .nil)]
theorem Fm:pP Ap vf=true:=by decide+kernel
theorem Kh:N3 900 1000900 901:=⟨rfl,rfl,rfl⟩
theorem Ki(P:Prim)(hP:P=cp)(T r:cm)(w:jM T)(k:jM r)(i:O1 T)(f:hJ T 92 [qI 0] (.tup []))(bk bl bm:Nat)(d:SC)(ba:Option Nat)(n:Nat)(rows:List (List V))(l:List er)(mv:V)(mo:Ob)(hn:n=l.length)(hrows:rows=l.map bd)(l5:mv=jd 901 bm none)(oS:mo=gu bm none)(hZ:nz d l)
  (base who seq:Int)(x:List Part)(hx:fV x)(u m:List (List V))(o:m=x.map a7)(g:hJ T 142 [.sl false 3 u] (.sl false 3 m))(v:Int)(hv:(iD d l none base who seq x).v=v)(p:(iD d l none base who seq x).e=0)(t:BS)(q:hJ T 93 [qI v] (.str t))
  (R:S->Prop)(y:∀(s s':S)(h:Option Nat)(a:Nat)(d':SC)(l':List er)(n':Nat)(rows':List (List V))(b:V)(c:Ob),d'=(iD d l none base who seq x).d->l'=(iD d l none base who seq x).l->n'=l'.length->rows'=l'.map bd->b=jd 901 a none->c=gu a none->cd s s'->ia [.t 6] [.str t] s'->eP (nV bk bl d' h n' rows' b c) s'->R s):
  gE P T r vf (S0 [.ptr 955 (some bk) 1 0 0,.agg [qI base,qI who,qI seq,.nilsl],.sl false 3 u] (a8 (nV bk bl d ba n rows mv mo))) R (λ_ _=>False) R:=by
 have E:P.ne 0 0=false:=xm hP rfl;refine Ai hP w k Ap Fm ?_;cbv
 repeat'(first
  |(refine qA ?_;cbv)
  |(intro z;cbv)
  |(refine g _ _ ?_;cbv)
  |fail)
 refine i 900 1000900 901 bl d ba n rows l mv mo bm none base who seq x m _ _ ⟨hn,hrows,l5,oS,rfl,rfl,rfl,Kh⟩ o hx hZ λv' e h d' l' n' rows' a b c j k1 A B C=>?_;have e1:v'=v:=by rw[<-hv,<-j]
 have D:e=0:=by rw[<-p,<-j]
 subst e1 D;cbv
 repeat'(first
  |(refine qA ?_;cbv)
  |(refine f _ _ ?_;cbv)
  |(refine q _ _ ?_;cbv)
  |fail)
 exact y _ _ h a d' l' n' rows' b c (by rw[<-j]) (by rw[<-j]) k1 A B C (cd.refl _) rfl ⟨rfl,rfl,rfl,rfl,trivial⟩
theorem mL{bk bl:Nat}{d:SC}{ba:Option Nat}{n:Nat}{l:List er}{bm:Nat}:∀p∈nV bk bl d ba n (l.map bd) (jd 901 bm none) (gu bm none),p.2.Fz:=by
 intro p hp;simp only[nV,ah,aq,aQ] at hp
 rcases hp with rfl|rfl|rfl|rfl
 ·intro r hr v hv;rw[ag.1 hr] at hv;rw[ag.1 hv];exact .ptr _ _ _ _ _
 ·exact iB (.own _ _ _ _) (sw _ _ _) bl
 ·exact gR _
 ·exact tz _ _
theorem Kj(bk bl bm:Nat)(d:SC)(ba:Option Nat)(l:List er)(hZ:nz d l)(base who seq:Int)(pl:List Part)(hpl:pl.length<=maxLen)(hz:(fZ pl).2=0)(hx:fV (fZ pl).1)(v:Nat)(c:v<9223372036854775808)(hv:(iD d l none base who seq (fZ pl).1).v=(v:Int))(f:(iD d l none base who seq (fZ pl).1).e=0):
  Spec Tryz.prog 87 [.ptr 955 (some bk) 1 0 0,.agg [qI base,qI who,qI seq,.nilsl],.sl false 3 (pl.map a7)] (a8 (nV bk bl d ba l.length (l.map bd) (jd 901 bm none) (gu bm none))) λr h'=>∃L',(∃b a,r=.str (nh (v:Int))/\L'=nV bk bl (iD d l none base who seq (fZ pl).1).d b (iD d l none base who seq (fZ pl).1).l.length ((iD d l none base who seq (fZ pl).1).l.map bd) (jd 901 a none) (gu a none))/\h'=a8 L':=by
 refine dE (O4 _) Kg (L:=nV bk bl d ba l.length (l.map bd) (jd 901 bm none) (gu bm none)) (λr L'=>∃b a,r=.str (nh (v:Int))/\L'=nV bk bl (iD d l none base who seq (fZ pl).1).d b (iD d l none base who seq (fZ pl).1).l.length ((iD d l none base who seq (fZ pl).1).l.map bd) (jd 901 a none) (gu a none)) λR g=>?_;refine Ki cp rfl _ _ u9 sW Sp (gK o0 (λ_=>.cons (.same _) .nil) rfl) bk bl bm d ba _ _ l _ _ rfl rfl rfl rfl hZ base who seq (fZ pl).1 hx (pl.map a7) _ rfl (yQ (Kf pl hpl hz) rfl rfl) (v:Int) hv f (nh (v:Int)) (gK (xY v c) (λ_=>.cons (.same _) .nil) rfl) R ?_;rintro s s' b a d' l' n' rows' h i rfl rfl rfl rfl rfl rfl he hr hg;exact g s s' (.str (nh (v:Int))) _ he (da _ _ _ (λx hx=>by rw[hx];rfl) hr) hg (.str _) mL ⟨b,a,rfl,rfl⟩
def Ut:List Nat:=[955,900,1000900,901]
structure SG(h:Hp)(bk bl:Nat)(d:SC)(ba:Option Nat)(n:Nat)(rows:List (List V))(mv:V)(mo:Ob):Prop where
 h1:h 955=some (Q5 bk bl)
 h2:h 900=some (eO bl (eM d (.own 1000900 ba 3 n) mv))
 h3:h 1000900=some (il ba rows)
 h4:h 901=some mo
theorem SG.all{h:Hp}{bk bl:Nat}{d:SC}{ba:Option Nat}{n:Nat}{rows:List (List V)}{mv:V}{mo:Ob}(H:SG h bk bl d ba n rows mv mo):∀p∈nV bk bl d ba n rows mv mo,h p.1=some p.2:=by
 intro p hp;simp only[nV,ah,aq,aQ] at hp
 rcases hp with rfl|rfl|rfl|rfl
 ·exact H.h1
 ·exact H.h2
 ·exact H.h3
 ·exact H.h4
def Kk(T:cm):Prop:=∀(bk bl bm:Nat)(d:SC)(ba:Option Nat)(n:Nat)(rows:List (List V))(l:List er)(mv:V)(mo:Ob)(base who seq:Int)(pl:List Part)(g:List (List V))(v:Nat)(t:BS)(h:Hp)(K:V->Hp->Prop),SG h bk bl d ba n rows mv mo->n=l.length->rows=l.map bd->mv=jd 901 bm none->mo=gu bm none->nz d l->pl.length<=maxLen->(fZ pl).2=0->fV (fZ pl).1->g=pl.map a7->v<9223372036854775808->(iD d l none base who seq (fZ pl).1).v=(v:Int)->(iD d l none base who seq (fZ pl).1).e=0->t=nh (v:Int)->
 (∀(f:Option Nat)(a:Nat)(d':SC)(l':List er)(n':Nat)(rows':List (List V))(b:V)(c:Ob),d'=(iD d l none base who seq (fZ pl).1).d->l'=(iD d l none base who seq (fZ pl).1).l->n'=l'.length->rows'=l'.map bd->b=jd 901 a none->c=gu a none->K (.str t) (h.jl (nV bk bl d' f n' rows' b c)))->
 T 87 [.ptr 955 (some bk) 1 0 0,.agg [qI base,qI who,qI seq,.nilsl],.sl false 3 g] h K
theorem QO:Kk (dF Tryz.prog):=by
 rintro bk bl bm d ba n rows l mv mo base who seq pl e v t h K hw rfl rfl rfl rfl hZ hpl hz hx rfl c hv he rfl hK;refine l7 Ut (Kj bk bl bm d ba l hZ base who seq pl hpl hz hx v c hv he) (gY _) rfl qD qD (λp hp=>⟨hw.all p hp,mL p hp⟩) ?_ ?_
 ·rintro r L' ⟨a,b,rfl,rfl⟩;rfl
 ·rintro r L' ⟨a,b,rfl,rfl⟩;exact hK a b _ _ _ _ _ _ rfl rfl rfl rfl rfl rfl
def mM(b3 bk:Nat):Ob:=⟨some b3,47,1,[[.ptr 955 (some bk) 1 0 0]]⟩
def Q6(b7:Nat)(base who seq:Int):Ob:=⟨some b7,145,4,[[.int .i64 base,.int .i64 who,.int .i64 seq,.nilsl]]⟩
def Q7(b8:Nat)(a:List (List V)):Ob:=⟨some b8,35,1,[[.sl false 3 a]]⟩
def xZ(b3 b7 b8 bk bl:Nat)(base who seq:Int)(a:List (List V))(d:SC)(ba:Option Nat)(n:Nat)(rows:List (List V))(mv:V)(mo:Ob):List (Nat×Ob):=[(3,mM b3 bk),(7,Q6 b7 base who seq),(8,Q7 b8 a),(955,Q5 bk bl),(900,eO bl (eM d (.own 1000900 ba 3 n) mv)),(1000900,il ba rows),(901,mo)]
def Dy:AC:=qr [qo 3 (.mov (.c qe))] (qr [ql 4 0,qd 5 4 1,ql 6 2,qa 7 87 [.t 4,.t 5,.t 6],qm 3 7] .ret)
theorem NO:fF Tryz.prog 86 Tryz.f86 Dy [.t 3] 3 dS:=⟨Tryz.func86,by decide+kernel,by kernel_rfl,by kernel_rfl,by decide+kernel⟩
theorem NP(P:Prim)(hP:P=cp)(T m:cm)(g:Kk T)(b3 b7 b8 bk bl bm:Nat)(d:SC)(ba:Option Nat)(n:Nat)(rows:List (List V))(l:List er)(mv:V)(mo:Ob)(base who seq:Int)(pl:List Part)(h:List (List V))(v:Nat)(t:BS)(hn:n=l.length)(hrows:rows=l.map bd)(l5:mv=jd 901 bm none)(oS:mo=gu bm none)(hZ:nz d l)(hpl:pl.length<=maxLen)(hz:(fZ pl).2=0)(hx:fV (fZ pl).1)(i:h=pl.map a7)(j:v<9223372036854775808)(hv:(iD d l none base who seq (fZ pl).1).v=(v:Int))(k:(iD d l none base who seq (fZ pl).1).e=0)(ht:t=nh (v:Int))
  (R:S->Prop)(o:∀(s s':S)(f:Option Nat)(a:Nat)(d':SC)(l':List er)(n':Nat)(rows':List (List V))(b:V)(c:Ob),d'=(iD d l none base who seq (fZ pl).1).d->l'=(iD d l none base who seq (fZ pl).1).l->n'=l'.length->rows'=l'.map bd->b=jd 901 a none->c=gu a none->cd s s'->ia [.t 3] [.str t] s'->eP (xZ b3 b7 b8 bk bl base who seq h d' f n' rows' b c) s'->R s):
  gE P T m Dy (S0 [.ptr 3 (some b3) 1 0 0,.ptr 7 (some b7) 4 0 0,.ptr 8 (some b8) 1 0 0] (a8 (xZ b3 b7 b8 bk bl base who seq h d ba n rows mv mo))) R (λ_ _=>False) R:=by
 cbv
 repeat'(first
  |(refine qA ?_;cbv)
  |fail)
 refine g bk bl bm d ba n rows l mv mo base who seq pl h v t _ _ ⟨rfl,rfl,rfl,rfl⟩ hn hrows l5 oS hZ hpl hz hx i j hv k ht λf a d' l' n' rows' b c k1 p q r u w=>?_;cbv;exact o _ _ f a d' l' n' rows' b c k1 p q r u w (cd.refl _) rfl ⟨rfl,rfl,rfl,rfl,rfl,rfl,rfl,trivial⟩
theorem tG{b3 b7 b8 bk bl:Nat}{base who seq:Int}{pl:List Part}{d:SC}{ba:Option Nat}{n:Nat}{l:List er}{bm:Nat}:∀p∈xZ b3 b7 b8 bk bl base who seq (pl.map a7) d ba n (l.map bd) (jd 901 bm none) (gu bm none),p.2.Fz:=by
 intro p hp;have hp:p=(3,mM b3 bk)\/p=(7,Q6 b7 base who seq)\/p=(8,Q7 b8 (pl.map a7))\/p∈nV bk bl d ba n (l.map bd) (jd 901 bm none) (gu bm none):=by
  simp only[xZ,nV,ah,aq,aQ] at hp⊢;exact hp
 rcases hp with rfl|rfl|rfl|hp
 ·intro r hr v hv;rw[ag.1 hr] at hv;rw[ag.1 hv];exact .ptr _ _ _ _ _
 ·intro r hr v hv;rw[ag.1 hr] at hv;simp only[ah,aq,aQ] at hv
  rcases hv with rfl|rfl|rfl|rfl
  ·exact .int _ _
  ·exact .int _ _
  ·exact .int _ _
  ·exact .nilsl
 ·intro r hr v hv;rw[ag.1 hr] at hv;rw[ag.1 hv];exact .sl _ _ (fL _)
 ·exact mL p hp
theorem NQ(b3 b7 b8 bk bl bm:Nat)(d:SC)(ba:Option Nat)(l:List er)(hZ:nz d l)(base who seq:Int)(pl:List Part)(hpl:pl.length<=maxLen)(hz:(fZ pl).2=0)(hx:fV (fZ pl).1)(v:Nat)(c:v<9223372036854775808)(hv:(iD d l none base who seq (fZ pl).1).v=(v:Int))(f:(iD d l none base who seq (fZ pl).1).e=0):
  Spec Tryz.prog 86 [.ptr 3 (some b3) 1 0 0,.ptr 7 (some b7) 4 0 0,.ptr 8 (some b8) 1 0 0] (a8 (xZ b3 b7 b8 bk bl base who seq (pl.map a7) d ba l.length (l.map bd) (jd 901 bm none) (gu bm none))) λr h'=>∃L',(∃b a,r=.str (nh (v:Int))/\L'=xZ b3 b7 b8 bk bl base who seq (pl.map a7) (iD d l none base who seq (fZ pl).1).d b (iD d l none base who seq (fZ pl).1).l.length ((iD d l none base who seq (fZ pl).1).l.map bd) (jd 901 a none) (gu a none))/\h'=a8 L':=by
 refine dE hW NO (L:=xZ b3 b7 b8 bk bl base who seq (pl.map a7) d ba l.length (l.map bd) (jd 901 bm none) (gu bm none)) (λr L'=>∃b a,r=.str (nh (v:Int))/\L'=xZ b3 b7 b8 bk bl base who seq (pl.map a7) (iD d l none base who seq (fZ pl).1).d b (iD d l none base who seq (fZ pl).1).l.length ((iD d l none base who seq (fZ pl).1).l.map bd) (jd 901 a none) (gu a none)) λR g=>?_;refine NP cp rfl _ _ QO b3 b7 b8 bk bl bm d ba _ _ l _ _ base who seq pl _ v _ rfl rfl rfl rfl hZ hpl hz hx rfl c hv f rfl R ?_;rintro s s' b a d' l' n' rows' h i rfl rfl rfl rfl rfl rfl he hr hg;exact g s s' (.str (nh (v:Int))) _ he (da _ _ _ (λx hx=>by rw[hx];rfl) hr) hg (.str _) tG ⟨b,a,rfl,rfl⟩
def Dz:AC:=qr [qz 2 0] (qr [qm 3 0,qn 4 3,qf 5 44 4,ql 6 5,qm 2 6] .ret)
theorem NR:fF Tryz.prog 162 Tryz.f162 Dz [.t 2] 1 dS:=⟨Tryz.func162,by decide+kernel,by kernel_rfl,by kernel_rfl,by decide+kernel⟩
theorem NS(P:Prim)(hP:P=cp)(T a:cm)(bl:Nat)(d:SC)(rv mv:V)(R:S->Prop)(b:∀s s' q,q=d.sf->cd s s'->ia [.t 2] [qI q] s'->eP [(900,eO bl (eM d rv mv))] s'->R s):gE P T a Dz (S0 [.ptr 900 (some bl) 47 0 0] (a8 [(900,eO bl (eM d rv mv))])) R (λ_ _=>False) R:=by
 cbv
 repeat'(first
  |(refine qA ?_;cbv)
  |fail)
 exact b _ _ _ rfl (cd.refl _) rfl ⟨rfl,trivial⟩
theorem NT(bl:Nat)(d:SC)(rv mv:V)(h1:Fz rv)(h2:Fz mv):Spec Tryz.prog 162 [.ptr 900 (some bl) 47 0 0] (a8 [(900,eO bl (eM d rv mv))]) λv h'=>∃L',(v=qI d.sf/\L'=[(900,eO bl (eM d rv mv))])/\h'=a8 L':=by
 refine dE hW NR (L:=[(900,eO bl (eM d rv mv))]) (λv L'=>v=qI d.sf/\L'=[(900,eO bl (eM d rv mv))]) λR a=>?_;refine NS cp rfl _ _ bl d rv mv R ?_;rintro s s' q rfl he hr hg;exact a s s' (qI d.sf) _ he (da _ _ _ (λx hx=>by rw[hx];rfl) hr) hg (.int _ _) (λp hp=>by rw[ag.1 hp];exact iB h1 h2 bl) ⟨rfl,rfl⟩
def O5(T:cm):Prop:=∀(bl:Nat)(d:SC)(rv mv:V)(h:Hp)(K:V->Hp->Prop),h 900=some (eO bl (eM d rv mv))->Fz rv->Fz mv->K (qI d.sf) h->T 162 [.ptr 900 (some bl) 47 0 0] h K
theorem SH:O5 (dF Tryz.prog):=by
 rintro bl d rv mv h K hh h1 h2 hK;exact xW [900] (NT bl d rv mv h1 h2) (gY _) rfl qD qD (λp hp=>by rw[ag.1 hp];exact⟨hh,iB h1 h2 bl⟩) hK
def Aq(b2 bk bl:Nat)(d:SC)(ba:Option Nat)(n:Nat)(rows:List (List V))(mv:V)(mo:Ob):List (Nat×Ob):=(2,mM b2 bk)::nV bk bl d ba n rows mv mo
def DA:AC:=qr [qo 1 (.mov (.c qe))] (qr [ql 2 0,qn 3 2,qf 4 0 3,ql 5 4,qa 6 161 [.t 5]] (qr [ql 7 0,qn 8 7,qf 9 0 8,ql 10 9,qa 11 162 [.t 10],qa 12 93 [.t 11],qm 1 12] .ret))
theorem NU:fF Tryz.prog 160 Tryz.f160 DA [.t 1] 1 dS:=⟨Tryz.func160,by decide+kernel,by kernel_rfl,by kernel_rfl,by decide+kernel⟩
theorem NV(P:Prim)(hP:P=cp)(T m:cm)(h:C6 T)(i:O5 T)(b2 bk bl bm:Nat)(d:SC)(ba:Option Nat)(n:Nat)(rows:List (List V))(l:List er)(mv:V)(mo:Ob)(hn:n=l.length)(hrows:rows=l.map bd)(l5:mv=jd 901 bm none)(oS:mo=gu bm none)(hb:0<=d.b/\d.b<=4294967295)(hl:l.length<=1000)(hat:d.at'=0\/d.at'=1)(t:BS)(v:Int)(hv:v=(iI d l.length none).sf)(g:hJ T 93 [qI v] (.str t))
  (R:S->Prop)(o:∀(s s':S)(c:Option Nat)(e:Nat)(d':SC)(n':Nat)(rows':List (List V))(a:V)(f:Ob),d'=iI d l.length none->n'=l.length->rows'=l.map bd->a=jd 901 e none->f=gu e none->cd s s'->ia [.t 1] [.str t] s'->eP (Aq b2 bk bl d' c n' rows' a f) s'->R s):
  gE P T m DA (S0 [.ptr 2 (some b2) 1 0 0] (a8 (Aq b2 bk bl d ba n rows mv mo))) R (λ_ _=>False) R:=by
 cbv
 repeat'(first
  |(refine qA ?_;cbv)
  |fail)
 refine h 900 1000900 901 bl d ba n rows l mv mo bm none _ _ ⟨hn,hrows,l5,oS,rfl,rfl,rfl,Kh⟩ hb hl hat λc d' n' rows' e a f k1 p q k r=>?_;have j:d'.sf=v:=by rw[k1,hv]
 cbv
 repeat'(first
  |(refine qA ?_;cbv)
  |fail)
 refine i bl d' (.own 1000900 c 3 n') a _ _ rfl (.own _ _ _ _) (by rw[k];exact sw _ _ _) ?_;rw[<-j] at g;cbv;refine g _ _ ?_;cbv;exact o _ _ c e d' n' rows' a f k1 p q k r (cd.refl _) rfl ⟨rfl,rfl,rfl,rfl,rfl,trivial⟩
def vH(b:Nat)(s:BS):Ob:=⟨some b,9,1,[[.str s]]⟩
theorem qv(b:Nat)(s:BS):(vH b s).Fz:=by
 intro r hr v hv;rw[ag.1 hr] at hv;rw[ag.1 hv];exact .str _
def DB:AC:=qr [qo 1 (.mov (.c qe))] (qr [ql 2 0,qa 3 15 [.t 2],qa 4 47 [.t 3],qm 1 4] .ret)
theorem NW:fF Tryz.prog 95 Tryz.f95 DB [.t 1] 1 dS:=⟨Tryz.func95,by decide+kernel,by kernel_rfl,by kernel_rfl,by decide+kernel⟩
theorem NX(P:Prim)(hP:P=cp)(T a:cm)(b:Nat)(s t:BS)(x:Int)(h1:hJ T 15 [.str s] (qI x))(h2:hJ T 47 [qI x] (.str t))(R:S->Prop)(c:∀s1 s2,cd s1 s2->ia [.t 1] [.str t] s2->eP [(13,vH b s)] s2->R s1):gE P T a DB (S0 [.ptr 13 (some b) 1 0 0] (a8 [(13,vH b s)])) R (λ_ _=>False) R:=by
 cbv
 repeat'(first
  |(refine qA ?_;cbv)
  |fail)
 refine h1 _ _ ?_;cbv;refine h2 _ _ ?_;cbv;exact c _ _ (cd.refl _) rfl ⟨rfl,trivial⟩
theorem NY(b:Nat)(s:BS)(hs:s.length<=1048576):Spec Tryz.prog 95 [.ptr 13 (some b) 1 0 0] (a8 [(13,vH b s)]) λv h'=>∃L',(v=.str (Lib.itoa (ja s))/\L'=[(13,vH b s)])/\h'=a8 L':=by
 refine dE hW NW (L:=[(13,vH b s)]) (λv L'=>v=.str (Lib.itoa (ja s))/\L'=[(13,vH b s)]) λR a=>?_;have hb:=ox s;refine NX cp rfl _ _ b s _ _ (gK (JJ s hs) (λ_=>.cons (.same _) .nil) rfl) (gK (Dj (ja s) ⟨qW,qW⟩) (λ_=>.cons (.same _) .nil) rfl) R ?_;intro s1 s2 he hr hg;exact a s1 s2 (.str (Lib.itoa (ja s))) _ he (da _ _ _ (λx hx=>by rw[hx];rfl) hr) hg (.str _) (λp hp=>by rw[ag.1 hp];exact qv b s) ⟨rfl,rfl⟩
def x5(b1 b2:Nat)(s t:BS):List (Nat×Ob):=[(11,vH b1 s),(12,vH b2 t)]
theorem DC(b1 b2:Nat)(s t:BS):∀p∈x5 b1 b2 s t,p.2.Fz:=by
 intro p hp;simp only[x5,ah,aq,aQ] at hp
 rcases hp with rfl|rfl
 ·exact qv b1 s
 ·exact qv b2 t
def DD:AC:=qr [qo 2 (.mov (.c qe))] (qr [ql 6 0,ql 7 1,qa 8 10 [.t 6,.t 7],qm 5 8,qx 9 0 5,qx 10 1 5,qm 3 9,qm 4 10] (qr [qm 11 4,qa 12 92 [.t 11]] (qr [qm 13 3,qa 14 94 [.t 13],qa 15 93 [.t 14],qm 2 15] .ret)))
theorem NZ:fF Tryz.prog 91 Tryz.f91 DD [.t 2] 2 dS:=⟨Tryz.func91,by decide+kernel,by kernel_rfl,by kernel_rfl,by decide+kernel⟩
theorem N0(P:Prim)(hP:P=cp)(T b:cm)(b1 b2:Nat)(s t u:BS)(a:List (List V))(x:Int)(h1:hJ T 10 [.str s,.str t] (.tup [.sl false 3 a,qI 0]))(h2:hJ T 92 [qI 0] (.tup []))(h3:hJ T 94 [.sl false 3 a] (qI x))(h4:hJ T 93 [qI x] (.str u))
  (R:S->Prop)(c:∀s1 s2,cd s1 s2->ia [.t 2] [.str u] s2->eP (x5 b1 b2 s t) s2->R s1):gE P T b DD (S0 [.ptr 11 (some b1) 1 0 0,.ptr 12 (some b2) 1 0 0] (a8 (x5 b1 b2 s t))) R (λ_ _=>False) R:=by
 cbv
 repeat'(first
  |(refine qA ?_;cbv)
  |fail)
 refine h1 _ _ ?_;cbv
 repeat'(first
  |(refine qA ?_;cbv)
  |fail)
 refine h2 _ _ ?_;cbv;refine h3 _ _ ?_;cbv;refine h4 _ _ ?_;cbv;exact c _ _ (cd.refl _) rfl ⟨rfl,rfl,trivial⟩
theorem N1(b1 b2:Nat)(s t:BS)(he:(jf s t).2=0)(hc:∀p∈(jf s t).1,NN p)(hl:(jf s t).1.length<=1000000)(v:Nat)(hv:gr (jf s t).1=(v:Int))(a:v<9223372036854775808):Spec Tryz.prog 91 [.ptr 11 (some b1) 1 0 0,.ptr 12 (some b2) 1 0 0] (a8 (x5 b1 b2 s t)) λr h'=>∃L',(r=.str (nh (v:Int))/\L'=x5 b1 b2 s t)/\h'=a8 L':=by
 refine dE hW NZ (L:=x5 b1 b2 s t) (λr L'=>r=.str (nh (v:Int))/\L'=x5 b1 b2 s t) λR b=>?_;refine N0 cp rfl _ _ b1 b2 s t (nh (v:Int)) ((jf s t).1.map a7) (v:Int) (gK (by have:=Di s t;rw[he] at this;exact this) (λ_=>.cons (.same _) (.cons (.same _) .nil)) rfl) (gK o0 (λ_=>.cons (.same _) .nil) rfl) (yQ (by have:=J9 (jf s t).1 hc hl;rw[hv] at this;exact this) rfl rfl) (gK (xY v a) (λ_=>.cons (.same _) .nil) rfl) R ?_;intro s1 s2 he hr hg;exact b s1 s2 (.str (nh (v:Int))) _ he (da _ _ _ (λx hx=>by rw[hx];rfl) hr) hg (.str _) (DC _ _ _ _) ⟨rfl,rfl⟩
def nj:AC:=qr [qo 3 (.box 47 1 (.t 0)),qo 6 (.mov (.c .nilFunc))] (qq (qr [qm 17 1] (.block 0 (qr [⟨some 19,none,.bin .eql (.t 17) (.c (.string ⟨#[115,117,98,109,105,116]⟩))⟩,qm 18 19] (qu 18 (qr [qm 20 2,qa 21 84 [.t 20],qm 22 2,qa 23 84 [.t 22],qm 24 2,qa 25 84 [.t 24],qo 26 (.build SV [(1,1,(.t 21)),(2,1,(.t 23)),(0,1,(.t 25))]),qo 7 (.alloc 145 SV),qs 4 7 26] (qr [qm 27 2,qa 28 85 [.t 27],qo 8 (.alloc 35 Rc),qs 1 8 28] (qr [qo 29 (.mkfn 86 [.t 3,.t 7,.t 8]),qm 6 29] .ret))) (qr [⟨some 31,none,.bin .eql (.t 17) (.c (.string ⟨#[99,97,116,99,104]⟩))⟩,qm 30 31] (qu 30 (qr [qm 32 2,qa 33 84 [.t 32],qo 9 (.alloc 3 [q0]),qs 1 9 33] (qr [qm 34 2,qa 35 85 [.t 34],qo 10 (.alloc 35 Rc),qs 1 10 35] (qr [qo 36 (.mkfn 88 [.t 3,.t 9,.t 10]),qm 6 36] .ret))) (qr [⟨some 38,none,.bin .eql (.t 17) (.c (.string ⟨#[100,105,102,102]⟩))⟩,qm 37 38] (qu 37 (qr [qm 39 2,qa 40 90 [.t 39],qm 41 2,qa 42 90 [.t 41],qo 11 (.alloc 9 [qe]),qo 12 (.alloc 9 [qe]),qs 1 11 40,qs 1 12 42] (qr [qo 43 (.mkfn 91 [.t 11,.t 12]),qm 6 43] .ret)) (qr [⟨some 45,none,.bin .eql (.t 17) (.c (.string ⟨#[104,97,115,104]⟩))⟩,qm 44 45] (qu 44 (qr [qm 46 2,qa 47 90 [.t 46],qo 13 (.alloc 9 [qe]),qs 1 13 47] (qr [qo 48 (.mkfn 95 [.t 13]),qm 6 48] .ret)) (qr [⟨some 50,none,.bin .eql (.t 17) (.c (.string ⟨#[102,105,110,100]⟩))⟩,qm 49 50] (qu 49 (qr [qm 51 2,qa 52 90 [.t 51],qm 53 2,qa 54 90 [.t 53],qo 14 (.alloc 9 [qe]),qo 15 (.alloc 9 [qe]),qs 1 14 52,qs 1 15 54] (qr [qo 55 (.mkfn 96 [.t 14,.t 15]),qm 6 55] .ret)) (qq (qr [⟨some 57,none,.bin .eql (.t 17) (.c (.string ⟨#[116,101,120,116]⟩))⟩,qm 56 57] (qu 56 .skip (qr [⟨some 58,none,.bin .eql (.t 17) (.c (.string ⟨#[107,101,101,112]⟩))⟩,qm 56 58] (qu 56 .skip (qr [⟨some 59,none,.bin .eql (.t 17) (.c (.string ⟨#[117,110,100,111]⟩))⟩,qm 56 59] (qu 56 .skip (qR [⟨some 60,none,.bin .eql (.t 17) (.c (.string ⟨#[98,97,99,107]⟩))⟩,qm 56 60]))))))) (qu 56 (qq (.region true [ql 61 3,qm 62 1,qm 63 2,qa 64 84 [.t 63],qa 65 98 [.t 61,.t 62,.t 64],qm 6 65]) .ret) (qr [⟨some 67,none,.bin .eql (.t 17) (.c (.string ⟨#[99,114,97,115,104]⟩))⟩,qm 66 67] (qu 66 (qr [qm 68 2,qa 69 84 [.t 68],qm 70 2,qa 71 84 [.t 70],qo 72 (.build K1 [(0,1,(.t 69)),(1,1,(.t 71))]),qo 16 (.alloc 151 K1),qs 2 16 72] (qr [qo 73 (.mkfn 99 [.t 3,.t 16]),qm 6 73] .ret)) .skip)))))))))))))))) (qr [ql 74 3,qm 75 1,qa 76 101 [.t 74,.t 75],qm 6 76] .ret))
theorem o5:fF Tryz.prog 48 Tryz.f48 nj [.t 6] 3 dS:=⟨Tryz.func48,by decide+kernel,by kernel_rfl,by kernel_rfl,by decide+kernel⟩
def jQ:BS:=[115,117,98,109,105,116]
theorem Kl(P:Prim)(hP:P=cp)(T u:cm)(a:Dv T)(b:Dx T)(bk bl:Nat)(wr:List (List V))(ws:List BS)(hwr:wr=ca ws)(hn:ws.length<=1000000)(c e f:Nat)(h1:c<1000000000)(h2:e<1000000000)(h3:f<1000000000)(x1 x2 x3:Int)(h:x1=(c:Int))(i:x2=(e:Int))(j:x3=(f:Int))(w1:ws[1]? =some (Lib.itoa (c:Int)))(w2:ws[2]? =some (Lib.itoa (e:Int)))(v:ws[3]? =some (Lib.itoa (f:Int)))(d:List Part)(hd:∀p∈d,Pw p)(k:ws.drop 4=d.map pw)(hle:4<=ws.length)
  (R:S->Prop)(w:∀(s s':S)(b3 b7 b8:Nat)(r:Int)(g:List (List V)),r=(ws.length:Int)->g=d.map a7->cd s s'->ia [.t 6] [.fn 86 [.ptr 3 (some b3) 1 0 0,.ptr 7 (some b7) 4 0 0,.ptr 8 (some b8) 1 0 0]] s'->eP [(950,nU bl wr r),(3,mM b3 bk),(7,Q6 b7 x3 x1 x2),(8,Q7 b8 g)] s'->R s):
  gE P T u nj (S0 [.ptr 955 (some bk) 1 0 0,.str jQ,.ptr 950 (some bl) 2 0 0] (a8 (kT bl wr 1))) R (λ_ _=>False) R:=by
 have x:P.seq [115,117,98,109,105,116] [115,117,98,109,105,116]=true:=oq hP rfl;unfold jQ;cbv
 repeat'(first
  |(refine qA ?_;cbv)
  |fail)
 intro b3;cbv;refine gj x ?_;cbv;refine a bl wr 1 ws 1 c x1 _ _ rfl hwr hn rfl h1 h w1 λa1 l=>?_;cbv;refine a bl wr a1 ws 2 e x2 _ _ rfl hwr hn l h2 i w2 λa2 m=>?_;cbv;refine a bl wr a2 ws 3 f x3 _ _ rfl hwr hn m h3 j v λa3 n=>?_;cbv
 repeat'(first
  |(refine qA ?_;cbv)
  |fail)
 intro b7;cbv
 repeat'(first
  |(refine qA ?_;cbv)
  |fail)
 refine b bl wr a3 ws 4 d _ _ rfl hwr hn n hle hd k λa4 g o q=>?_;cbv
 repeat'(first
  |(refine qA ?_;cbv)
  |fail)
 intro b8;cbv
 repeat'(first
  |(refine qA ?_;cbv)
  |fail)
 exact w _ _ b3 b7 b8 a4 g o q (cd.refl _) rfl ⟨rfl,rfl,rfl,rfl,trivial⟩
def rO:BS:=[100,105,102,102]
def rP:BS:=[104,97,115,104]
theorem Km(P:Prim)(hP:P=cp)(T e:cm)(a:BU T)(bk bl:Nat)(wr:List (List V))(ws:List BS)(hwr:wr=ca ws)(hn:ws.length<=1000000)(s t:BS)(hs:s.length<=1000000)(ht:t.length<=1000000)(w1:ws[1]? =some (ga s))(w2:ws[2]? =some (ga t))
  (R:S->Prop)(f:∀(s1 s2:S)(b3 b1 b2:Nat)(d:Int),d=3->cd s1 s2->ia [.t 6] [.fn 91 [.ptr 11 (some b1) 1 0 0,.ptr 12 (some b2) 1 0 0]] s2->eP [(950,nU bl wr d),(3,mM b3 bk),(11,vH b1 s),(12,vH b2 t)] s2->R s1):
  gE P T e nj (S0 [.ptr 955 (some bk) 1 0 0,.str rO,.ptr 950 (some bl) 2 0 0] (a8 (kT bl wr 1))) R (λ_ _=>False) R:=by
 have g:P.seq [100,105,102,102] [115,117,98,109,105,116]=false:=ic hP qD;have z2:P.seq [100,105,102,102] [99,97,116,99,104]=false:=ic hP qD;have z3:P.seq [100,105,102,102] [100,105,102,102]=true:=oq hP rfl;unfold rO;cbv
 repeat'(first
  |(refine qA ?_;cbv)
  |fail)
 intro b3;cbv;refine eB g ?_;cbv;refine eB z2 ?_;cbv;refine gj z3 ?_;cbv;refine a bl wr 1 ws 1 s _ _ rfl hwr hn rfl hs w1 λa1 b=>?_;cbv;refine a bl wr a1 ws 2 t _ _ rfl hwr hn b ht w2 λa2 c=>?_;cbv
 repeat'(first
  |(refine qA ?_;cbv)
  |fail)
 intro b1;cbv
 repeat'(first
  |(refine qA ?_;cbv)
  |fail)
 intro b2;cbv
 repeat'(first
  |(refine qA ?_;cbv)
  |fail)
 exact f _ _ b3 b1 b2 a2 c (cd.refl _) rfl ⟨rfl,rfl,rfl,rfl,trivial⟩
theorem Kn(P:Prim)(hP:P=cp)(T d:cm)(a:BU T)(bk bl:Nat)(wr:List (List V))(ws:List BS)(hwr:wr=ca ws)(hn:ws.length<=1000000)(s:BS)(hs:s.length<=1000000)(w1:ws[1]? =some (ga s))
  (R:S->Prop)(e:∀(s1 s2:S)(b3 b1:Nat)(c:Int),c=2->cd s1 s2->ia [.t 6] [.fn 95 [.ptr 13 (some b1) 1 0 0]] s2->eP [(950,nU bl wr c),(3,mM b3 bk),(13,vH b1 s)] s2->R s1):
  gE P T d nj (S0 [.ptr 955 (some bk) 1 0 0,.str rP,.ptr 950 (some bl) 2 0 0] (a8 (kT bl wr 1))) R (λ_ _=>False) R:=by
 have f:P.seq [104,97,115,104] [115,117,98,109,105,116]=false:=ic hP qD;have z2:P.seq [104,97,115,104] [99,97,116,99,104]=false:=ic hP qD;have z3:P.seq [104,97,115,104] [100,105,102,102]=false:=ic hP qD;have z4:P.seq [104,97,115,104] [104,97,115,104]=true:=oq hP rfl;unfold rP;cbv
 repeat'(first
  |(refine qA ?_;cbv)
  |fail)
 intro b3;cbv;refine eB f ?_;cbv;refine eB z2 ?_;cbv;refine eB z3 ?_;cbv;refine gj z4 ?_;cbv;refine a bl wr 1 ws 1 s _ _ rfl hwr hn rfl hs w1 λa1 b=>?_;cbv
 repeat'(first
  |(refine qA ?_;cbv)
  |fail)
 intro b1;cbv
 repeat'(first
  |(refine qA ?_;cbv)
  |fail)
 exact e _ _ b3 b1 a1 b (cd.refl _) rfl ⟨rfl,rfl,rfl,trivial⟩
def nk:BS:=[115,121,110,99]
def wL:AC:=qr [qo 2 (.box 47 1 (.t 0)),qo 4 (.mov (.c .nilFunc))] (qq (qr [qm 5 1] (.block 0 (qr [⟨some 7,none,.bin .eql (.t 5) (.c (.string ⟨#[115,121,110,99]⟩))⟩,qm 6 7] (qu 6 (qr [qo 8 (.mkfn 160 [.t 2]),qm 4 8] .ret) (qr [⟨some 10,none,.bin .eql (.t 5) (.c (.string ⟨#[115,116,101,112]⟩))⟩,qm 9 10] (qu 9 (qr [qo 11 (.mkfn 163 [.t 2]),qm 4 11] .ret) (qr [⟨some 13,none,.bin .eql (.t 5) (.c (.string ⟨#[115,116,97,116,101]⟩))⟩,qm 12 13] (qu 12 (qr [qo 14 (.mkfn 165 [.t 2]),qm 4 14] .ret) (qr [⟨some 16,none,.bin .eql (.t 5) (.c (.string ⟨#[98,108,97,109,101]⟩))⟩,qm 15 16] (qu 15 (qr [qo 17 (.mkfn 166 [.t 2]),qm 4 17] .ret) .skip)))))))))) (qr [qa 18 102 [qk 14]] (qr [qo 4 (.mov (.c .nilFunc))] .ret)))
theorem Fo:fF Tryz.prog 101 Tryz.f101 wL [.t 4] 2 dS:=⟨Tryz.func101,by decide+kernel,by kernel_rfl,by kernel_rfl,by decide+kernel⟩
theorem Ko(P:Prim)(hP:P=cp)(T a:cm)(bk:Nat)(R:S->Prop)(b:∀(s1 s2:S)(b2:Nat),cd s1 s2->ia [.t 4] [.fn 160 [.ptr 2 (some b2) 1 0 0]] s2->eP [(2,mM b2 bk)] s2->R s1):gE P T a wL (S0 [.ptr 955 (some bk) 1 0 0,.str nk] Hp.emp) R (λ_ _=>False) R:=by
 have c:P.seq [115,121,110,99] [115,121,110,99]=true:=oq hP rfl;unfold nk;cbv
 repeat'(first
  |(refine qA ?_;cbv)
  |fail)
 intro b2;cbv;refine gj c ?_;cbv;exact b _ _ b2 (cd.refl _) rfl ⟨rfl,trivial⟩
theorem Kp(bk:Nat):Spec Tryz.prog 101 [.ptr 955 (some bk) 1 0 0,.str nk] (a8 []) λv h'=>∃L',(∃b2,v=.fn 160 [.ptr 2 (some b2) 1 0 0]/\L'=[(2,mM b2 bk)])/\h'=a8 L':=by
 refine dE hW Fo (L:=[]) (λv L'=>∃b2,v=.fn 160 [.ptr 2 (some b2) 1 0 0]/\L'=[(2,mM b2 bk)]) λR a=>?_;refine Ko cp rfl _ _ bk R ?_;intro s1 s2 b2 he hr hg;refine a s1 s2 (.fn _ [.ptr 2 (some b2) 1 0 0]) _ he (da _ _ _ (λx hx=>by rw[hx];rfl) hr) hg (.fn _ _ λv hv=>?_) (λp hp=>?_) ⟨b2,rfl,rfl⟩
 ·rw[ag.1 hv];exact .ptr _ _ _ _ _
 ·rw[ag.1 hp];intro r hr v hv;rw[ag.1 hr] at hv;rw[ag.1 hv];exact .ptr _ _ _ _ _
def DE(T:cm):Prop:=∀(bk:Nat)(h:Hp)(K:V->Hp->Prop),(∀b2,K (.fn 160 [.ptr 2 (some b2) 1 0 0]) (h.jl [(2,mM b2 bk)]))->T 101 [.ptr 955 (some bk) 1 0 0,.str [115,121,110,99]] h K
theorem N2:DE (dF Tryz.prog):=by
 rintro bk h K hK;refine uH (rQ [2]) (L:=[]) (Kp bk) (gY _) qD qD qD (λp hp=>by cases hp) (λp hp=>by cases hp) ?_ ?_
 ·rintro v L' ⟨b2,rfl,rfl⟩;rfl
 ·rintro v L' ⟨b2,rfl,rfl⟩;rw[rN,V.nE];have:(Ob.gy λk=>k)=λo=>o:=funext Ob.nE;rw[this,tF (ks:=[2]) rfl];exact hK b2
theorem Kq(P:Prim)(hP:P=cp)(T b:cm)(hpl:DE T)(bk bl:Nat)(wr:List (List V))
  (R:S->Prop)(c:∀(s1 s2:S)(b3 b2:Nat),cd s1 s2->ia [.t 6] [.fn 160 [.ptr 2 (some b2) 1 0 0]] s2->eP [(950,nU bl wr 1),(3,mM b3 bk),(2,mM b2 bk)] s2->R s1):
  gE P T b nj (S0 [.ptr 955 (some bk) 1 0 0,.str nk,.ptr 950 (some bl) 2 0 0] (a8 (kT bl wr 1))) R (λ_ _=>False) R:=by
 have d:P.seq [115,121,110,99] [115,117,98,109,105,116]=false:=ic hP qD;have z2:P.seq [115,121,110,99] [99,97,116,99,104]=false:=ic hP qD;have z3:P.seq [115,121,110,99] [100,105,102,102]=false:=ic hP qD;have z4:P.seq [115,121,110,99] [104,97,115,104]=false:=ic hP qD;have z5:P.seq [115,121,110,99] [102,105,110,100]=false:=ic hP qD;have e:P.seq [115,121,110,99] [116,101,120,116]=false:=ic hP qD;have f:P.seq [115,121,110,99] [107,101,101,112]=false:=ic hP qD;have g:P.seq [115,121,110,99] [117,110,100,111]=false:=ic hP qD;have z9:P.seq [115,121,110,99] [98,97,99,107]=false:=ic hP qD;have a:P.seq [115,121,110,99] [99,114,97,115,104]=false:=ic hP qD;unfold nk;cbv
 repeat'(first
  |(refine qA ?_;cbv)
  |fail)
 intro b3;cbv;refine eB d ?_;cbv;refine eB z2 ?_;cbv;refine eB z3 ?_;cbv;refine eB z4 ?_;cbv;refine eB z5 ?_;cbv
 repeat'(first
  |(refine eB e ?_;cbv)
  |(refine eB f ?_;cbv)
  |(refine eB g ?_;cbv)
  |(refine eB z9 ?_;cbv)
  |(refine eB a ?_;cbv)
  |(refine qA ?_;cbv)
  |fail)
 refine hpl bk _ _ λb2=>?_;cbv;exact c _ _ b3 b2 (cd.refl _) rfl ⟨rfl,rfl,rfl,trivial⟩
def nF:BS:=[99,114,97,115,104]
def Fp(b:Nat)(k0 k1:Int):Ob:=⟨some b,151,2,[[.int .i64 k0,.int .i64 k1]]⟩
theorem Kr(P:Prim)(hP:P=cp)(T k:cm)(b:Dv T)(bk bl:Nat)(wr:List (List V))(ws:List BS)(hwr:wr=ca ws)(hn:ws.length<=1000000)(c d:Nat)(h1:c<1000000000)(h2:d<1000000000)(x1 x2:Int)(e:x1=(c:Int))(f:x2=(d:Int))(w1:ws[1]? =some (Lib.itoa (c:Int)))(w2:ws[2]? =some (Lib.itoa (d:Int)))
  (R:S->Prop)(l:∀(s1 s2:S)(b3 a:Nat)(j:Int),j=3->cd s1 s2->ia [.t 6] [.fn 99 [.ptr 3 (some b3) 1 0 0,.ptr 16 (some a) 2 0 0]] s2->eP [(950,nU bl wr j),(3,mM b3 bk),(16,Fp a x1 x2)] s2->R s1):
  gE P T k nj (S0 [.ptr 955 (some bk) 1 0 0,.str nF,.ptr 950 (some bl) 2 0 0] (a8 (kT bl wr 1))) R (λ_ _=>False) R:=by
 have m:P.seq [99,114,97,115,104] [115,117,98,109,105,116]=false:=ic hP qD;have z2:P.seq [99,114,97,115,104] [99,97,116,99,104]=false:=ic hP qD;have z3:P.seq [99,114,97,115,104] [100,105,102,102]=false:=ic hP qD;have z4:P.seq [99,114,97,115,104] [104,97,115,104]=false:=ic hP qD;have z5:P.seq [99,114,97,115,104] [102,105,110,100]=false:=ic hP qD;have n:P.seq [99,114,97,115,104] [116,101,120,116]=false:=ic hP qD;have o:P.seq [99,114,97,115,104] [107,101,101,112]=false:=ic hP qD;have p:P.seq [99,114,97,115,104] [117,110,100,111]=false:=ic hP qD;have z9:P.seq [99,114,97,115,104] [98,97,99,107]=false:=ic hP qD;have g:P.seq [99,114,97,115,104] [99,114,97,115,104]=true:=oq hP rfl;unfold nF;cbv
 repeat'(first
  |(refine qA ?_;cbv)
  |fail)
 intro b3;cbv;refine eB m ?_;cbv;refine eB z2 ?_;cbv;refine eB z3 ?_;cbv;refine eB z4 ?_;cbv;refine eB z5 ?_;cbv
 repeat'(first
  |(refine eB n ?_;cbv)
  |(refine eB o ?_;cbv)
  |(refine eB p ?_;cbv)
  |(refine eB z9 ?_;cbv)
  |(refine gj g ?_;cbv)
  |(refine qA ?_;cbv)
  |fail)
 refine b bl wr 1 ws 1 c x1 _ _ rfl hwr hn rfl h1 e w1 λa1 h=>?_;cbv;refine b bl wr a1 ws 2 d x2 _ _ rfl hwr hn h h2 f w2 λa2 i=>?_;cbv
 repeat'(first
  |(refine qA ?_;cbv)
  |fail)
 intro a;cbv
 repeat'(first
  |(refine qA ?_;cbv)
  |fail)
 exact l _ _ b3 a a2 i (cd.refl _) rfl ⟨rfl,rfl,rfl,trivial⟩
theorem l9(b k:Nat):(mM b k).Fz:=by
 intro r hr v hv;rw[ag.1 hr] at hv;rw[ag.1 hv];exact .ptr _ _ _ _ _
theorem DF{b2 bk bl:Nat}{d:SC}{ba:Option Nat}{n:Nat}{l:List er}{bm:Nat}:∀p∈Aq b2 bk bl d ba n (l.map bd) (jd 901 bm none) (gu bm none),p.2.Fz:=by
 intro p hp
 rcases ah.1 (show p∈(2,mM b2 bk)::nV bk bl d ba n (l.map bd) (jd 901 bm none) (gu bm none) from hp) with rfl|hp
 ·exact l9 b2 bk
 ·exact mL p hp
theorem N5(b2 bk bl bm:Nat)(d:SC)(ba:Option Nat)(l:List er)(hb:0<=d.b/\d.b<=4294967295)(hl:l.length<=1000)(hat:d.at'=0\/d.at'=1)(v:Nat)(hv:(v:Int)=(iI d l.length none).sf)(e:v<9223372036854775808):
  Spec Tryz.prog 160 [.ptr 2 (some b2) 1 0 0] (a8 (Aq b2 bk bl d ba l.length (l.map bd) (jd 901 bm none) (gu bm none))) λr h'=>∃L',(∃c a,r=.str (nh (v:Int))/\L'=Aq b2 bk bl (iI d l.length none) c l.length (l.map bd) (jd 901 a none) (gu a none))/\h'=a8 L':=by
 refine dE hW NU (L:=Aq b2 bk bl d ba l.length (l.map bd) (jd 901 bm none) (gu bm none)) (λr L'=>∃c a,r=.str (nh (v:Int))/\L'=Aq b2 bk bl (iI d l.length none) c l.length (l.map bd) (jd 901 a none) (gu a none)) λR f=>?_;refine NV cp rfl _ _ Na SH b2 bk bl bm d ba _ _ l _ _ rfl rfl rfl rfl hb hl hat (nh (v:Int)) (v:Int) hv (gK (xY v e) (λ_=>.cons (.same _) .nil) rfl) R ?_;rintro s s' c a d' n' rows' g h rfl rfl rfl rfl rfl he hr hg;exact f s s' (.str (nh (v:Int))) _ he (da _ _ _ (λx hx=>by rw[hx];rfl) hr) hg (.str _) DF ⟨c,a,rfl,rfl⟩
theorem Ks(bk bl:Nat)(ws:List BS)(hn:ws.length<=1000000)(a b c:Nat)(h1:a<1000000000)(h2:b<1000000000)(h3:c<1000000000)(w1:ws[1]? =some (Lib.itoa (a:Int)))(w2:ws[2]? =some (Lib.itoa (b:Int)))(f:ws[3]? =some (Lib.itoa (c:Int)))(d:List Part)(hd:∀p∈d,Pw p)(e:ws.drop 4=d.map pw)(hle:4<=ws.length):
  Spec Tryz.prog 48 [.ptr 955 (some bk) 1 0 0,.str jQ,.ptr 950 (some bl) 2 0 0] (a8 (kT bl (ca ws) 1)) λv h'=>∃L',(∃b3 b7 b8,v=.fn 86 [.ptr 3 (some b3) 1 0 0,.ptr 7 (some b7) 4 0 0,.ptr 8 (some b8) 1 0 0]/\L'=[(950,nU bl (ca ws) (ws.length:Int)),(3,mM b3 bk),(7,Q6 b7 (c:Int) (a:Int) (b:Int)),(8,Q7 b8 (d.map a7))])/\h'=a8 L':=by
 refine dE hW o5 (L:=kT bl (ca ws) 1) (λv L'=>∃b3 b7 b8,v=.fn 86 [.ptr 3 (some b3) 1 0 0,.ptr 7 (some b7) 4 0 0,.ptr 8 (some b8) 1 0 0]/\L'=[(950,nU bl (ca ws) (ws.length:Int)),(3,mM b3 bk),(7,Q6 b7 (c:Int) (a:Int) (b:Int)),(8,Q7 b8 (d.map a7))]) λR g=>?_;refine Kl cp rfl _ _ J2 NM bk bl _ ws rfl hn a b c h1 h2 h3 _ _ _ rfl rfl rfl w1 w2 f d hd e hle R ?_;rintro s s' b3 b7 b8 h i rfl rfl he hr hg;refine g s s' (.fn _ [.ptr 3 (some b3) 1 0 0,.ptr 7 (some b7) 4 0 0,.ptr 8 (some b8) 1 0 0]) _ he (da _ _ _ (λx hx=>by rw[hx];rfl) hr) hg (.fn _ _ λv hv=>?_) (λp hp=>?_) ⟨b3,b7,b8,rfl,rfl⟩
 ·simp only[ah,aq,aQ] at hv
  rcases hv with rfl|rfl|rfl<;>exact .ptr _ _ _ _ _
 ·simp only[ah,aq,aQ] at hp
  rcases hp with rfl|rfl|rfl|rfl
  ·exact kO _ _ _
  ·exact l9 _ _
  ·exact tG (b3:=b3) (b7:=b7) (b8:=b8) (bk:=bk) (bl:=bl) (base:=(c:Int)) (who:=(a:Int)) (seq:=(b:Int)) (pl:=d) (d:=ik) (ba:=none) (n:=0) (l:=[]) (bm:=0) _ (qM 1 rfl)
  ·exact tG (b3:=b3) (b7:=b7) (b8:=b8) (bk:=bk) (bl:=bl) (base:=(c:Int)) (who:=(a:Int)) (seq:=(b:Int)) (pl:=d) (d:=ik) (ba:=none) (n:=0) (l:=[]) (bm:=0) _ (qM 2 rfl)
end Go.Proofs.YtajdadcdcpnedaaGreatDoor.AM
namespace Go.Proofs.YtajdadcdcpnedaaGreatDoor.vz
open Go Go.RowKit Go.Proofs.YtajdadcdcpnedaaGreatDoor.AM
theorem Kt{L:Nat->Prop}{b j:Nat}{q:Value}{w:World}(a:L b):Ev L w (w.setCell ⟨b,j,none⟩ q):=by
 refine⟨rfl,rfl,rfl,by simp[World.setCell],λk _ hn=>?_,λk c e fr h=>?_⟩
 ·have:b≠k:=λe=>hn (e▸a);simp[World.setCell,bA,this]
 ·by_cases hk:b=k
  ·subst hk;exact⟨c.setIfInBounds j q,fr,by simp[World.setCell,bA,h],by simp⟩
  ·exact⟨c,fr,by simp[World.setCell,bA,hk,h],rfl⟩
def B2(b cap:Nat)(p v:Value)(w:World):Prop:=∃c:Array Value,w.heap[b]? =some (.cells c T (0,0))/\c.size=(cap+1)*2/\c[0]? =some p/\c[1]? =some v
section
variable {b cap:Nat} {p v q:Value} {w:World}
theorem B2.cell0(h:B2 b cap p v w):w.cell? ⟨b,0,none⟩=some p:=by
 obtain⟨c,h1,_,h2,_⟩:=h;rw[cell_of_row w b 0 c T (0,0) h1];exact h2
theorem B2.cell1(h:B2 b cap p v w):w.cell? ⟨b,1,none⟩=some v:=by
 obtain⟨c,h1,_,_,h2⟩:=h;rw[cell_of_row w b 1 c T (0,0) h1];exact h2
theorem B2.shape(h:B2 b cap p v w):w.shape? b=some (T,(cap+1)*2):=by
 obtain⟨c,h1,h2,_⟩:=h;simp[World.shape?,h1,h2]
theorem B2.frozen(h:B2 b cap p v w)(j:Nat):w.frozen? ⟨b,j,none⟩=false:=by
 obtain⟨c,h1,_⟩:=h;exact Lib.frozen_of_heap h1 j
theorem B2.lt(h:B2 b cap p v w):b<w.heap.size:=by
 obtain⟨c,h1,_⟩:=h;exact(aA.1 h1).1
theorem B2.Uu(h:B2 b cap p v w)(q:Value):B2 b cap q v (w.setCell ⟨b,0,none⟩ q):=by
 obtain⟨c,h1,h2,h3,h4⟩:=h;refine⟨c.setIfInBounds 0 q,by simp[World.setCell,bA,h1],by simpa using h2,?_,?_⟩
 ·have:0<c.size:=by omega
  simp[this]
 ·rw[bp,aa qD];exact h4
theorem B2.Uv(h:B2 b cap p v w)(q:Value):B2 b cap p q (w.setCell ⟨b,1,none⟩ q):=by
 obtain⟨c,h1,h2,h3,h4⟩:=h;refine⟨c.setIfInBounds 1 q,by simp[World.setCell,bA,h1],by simpa using h2,?_,?_⟩
 ·rw[bp,aa qD];exact h3
 ·have:1<c.size:=by omega
  simp[this]
theorem B2.keep{w':World}(h:B2 b cap p v w)(hb:w'.heap[b]? =w.heap[b]?):B2 b cap p v w':=by
 obtain⟨c,h1,h2⟩:=h;exact⟨c,hb.trans h1,h2⟩
end
theorem SI{P:Program}{e:TypeId}(hc:P.cellsOf e=2)(count:Nat):liesAt P P.depth e (count+1) 0 e 1=true:=by
 have hd:P.depth=(2*(P.types.size+Made.depth)+1)+1:=rfl;rw[hd];simp only[liesAt,bq]
 left
 rw[hd];simp[rowAt,hc,sameLayout]
set_option maxRecDepth 100000 in
set_option maxHeartbeats 4000000 in
theorem cR(b cap:Nat)(v:Value)(w:World)(h:B2 b cap (.pointer none) v w):
  Calls Tryz.prog 45 #[.pointer (some ⟨b,0,none⟩)] w λe w'=>e=.returned (.tuple #[])/\w'=w.setCell ⟨b,0,none⟩ (.pointer (some ⟨b,0,none⟩)):=by
 have h0:=h.cell0;have QY:=h.shape;have VX:=h.frozen 0;have hl:liesAt Tryz.prog Tryz.prog.depth 55 ((cap+1)*2/Tryz.prog.cellsOf 55) 0 55 1=true:=by
  have hc:Tryz.prog.cellsOf 55=2:=by kernel_rfl
  rw[hc,Nat.mul_div_cancel _ qD];exact SI hc cap
 obtain⟨j,hj⟩:∃j,Tryz.prog.info? 55=some j:=aS.1 (by kernel_rfl);have TG:j.size=2:=by
  have h:(Tryz.prog.info? 55).map (·.size)=some 2:=by kernel_rfl
  rw[hj] at h;exact bN h
 unfold T at QY
 go_enter Tryz.func45,Tryz.ntmps45
 go_wp2
 rw[Lib.run_to_unsafe w ⟨b,0,none⟩ Tryz.underlying52 Tryz.underlying142 hj (by rw[TG];decide) QY (show 0<(cap+1)*2 by omega)];simp only[Result.andThen];rw[Oper.upon_value]
 go_wp2
 rw[run_callFunc_extern Tryz.func82 (by kernel_rfl) (by kernel_rfl) (by kernel_rfl) (e:=Extern.AbiNoEscape.same) (by kernel_rfl)];rw[Lib.run_noEscape];simp only[Result.andThen];rw[Oper.upon_value]
 go_wp2
 rw[Lib.run_from_unsafe w ⟨b,0,none⟩ Tryz.underlying142 Tryz.underlying52 hj QY hl];simp only[Result.andThen];rw[Oper.upon_value]
 go_wp2
 go_end0
 exact⟨rfl,rfl⟩
theorem Ku(b cap:Nat)(p v:Value)(w:World)(hp:p=.pointer none\/p=.pointer (some ⟨b,0,none⟩))(h:B2 b cap p v w):
  Calls Tryz.prog 45 #[.pointer (some ⟨b,0,none⟩)] w λe w'=>e=.returned (.tuple #[])/\B2 b cap (.pointer (some ⟨b,0,none⟩)) v w'/\Ev (λk=>k=b) w w'/\w'.heap.size=w.heap.size:=by
 rcases hp with rfl|rfl
 ·refine(cR b cap v w h).mono ?_;rintro e w' ⟨rfl,rfl⟩;exact⟨rfl,h.Uu _,Kt rfl,by simp[World.setCell]⟩
 ·refine(uu b w h.cell0).mono ?_;rintro e w' ⟨rfl,rfl⟩;exact⟨rfl,h,Ev.refl _ _,rfl⟩
theorem N6{P:Program}(w:World)(t u ty e:TypeId)(i:TypeInfo)(ht:P.underlying t=some (.slice e))(hu:P.underlying u=some .string)(hi:P.info? e=some i)(hz:i.zero=some (.int .u8 0))(b:i.size=1)(d:i.bytes=1)
  (v:Value)(n:Nat)(xs:List Value)(hown:w.ownsRow 0 e 1 v n xs)(s:ByteArray)(h0:0<s.size)(f:n+s.size<=maxLen)(c:n+s.size<=140737488355328):
  ∃v' w',(Builtin.append_ #[t,u] ty #[v,.string s]).run P w=.ok v' w'/\w'.ownsRow 0 e 1 v' (n+s.size) (xs++Lib.strCells s)/\Ev (λk=>v.ownBlock=some k) w w'/\(∀g,v'.ownBlock=some g->v.ownBlock=some g\/w.heap.size<=g):=by
 obtain⟨v',w',hr,h2,h3,h4⟩:=Lib.run_append_own_string (P:=P) w 0 t u ty e i ht hu hi hz b d v n xs hown s f c (bc _);refine⟨v',w',hr,h2,?_⟩;have m:xs.length=n:=by simpa using hown.1
 rcases hown.2 with⟨rfl,rfl⟩|⟨g0,cap,cur,rfl,_,hg0,p,hcm,hcs,o⟩
 ·have a:=run_append_nil_string (P:=P) w t u ty e i (.int .u8 0) ht hu hi hz s h0 (by unfold maxLen at f;omega) (by rw[d];omega);rw[hr] at a
  injection a with e1 l
  subst e1 l;exact⟨(Ev.drew _ _).trans (Ev.alloc _ _ _),λg hg=>by cases hg;exact .inr (ak _)⟩
 ·by_cases h:n+s.size<=cap
  ·have a:=Lib.run_append_room_string (P:=P) w t u ty e i ht hu hi b g0 n cap cur hg0 s h qW;rw[hr] at a
   injection a with e1 l
   subst e1 l;refine⟨Ev.setRow rfl hg0 ?_,λg hg=>.inl hg⟩;simp only[bH,ae,aE,aP,bG,Lib.strCells_length];omega
  ·have holds:∀j u,xs[j]? =some u->w.cell? ((⟨g0,0,none⟩:Addr).add j)=some u:=hown.cells (g:=g0) rfl;have a:=Lib.run_append_grow_string (P:=P) w t u ty e i (.int .u8 0) ht hu hi hz ⟨g0,0,none⟩ n cap xs (by rw[b];simpa using m) holds s qW (by unfold maxLen at f;omega) (by rw[d];exact growslice_fits qW qW);rw[hr] at a
   injection a with e1 l
   subst e1 l;exact⟨(Ev.drew _ _).trans (Ev.alloc _ _ _),λg hg=>by cases hg;exact .inr (ak _)⟩
theorem vg{P:Program}{ops:Array Oper}{rest:List Oper}{o:Oper}{a:Act}{w:World}{Q:Exit->Act->World->Prop}(d:o.guard=none)(sl x:Operand)(t u:TypeId)(ho:o.op=.call {callee:=.builtin .append,args:= #[sl,x],argTypes:= #[t,u]})
  (e:TypeId)(i:TypeInfo)(ht:P.underlying t=some (.slice e))(hu:P.underlying u=some .string)(hi:P.info? e=some i)(hz:i.zero=some (.int .u8 0))(c:i.size=1)(f:i.bytes=1)
  (v:Value)(n:Nat)(xs:List Value)(hs:a.eval sl=v)(hown:w.ownsRow 0 e 1 v n xs)(s:ByteArray)(hx:a.eval x=.string s)(h0:0<s.size)(j:n+s.size<=maxLen)(b:n+s.size<=140737488355328)
  (h:∀v' w',w'.ownsRow 0 e 1 v' (n+s.size) (xs++Lib.strCells s)->Ev (λk=>v.ownBlock=some k) w w'->(∀g,v'.ownBlock=some g->v.ownBlock=some g\/w.heap.size<=g)->wpList P ops Q rest (a.put o.dst v') w'):wpList P ops Q (o::rest) a w:=by
 refine wpList_plain d λK hK=>?_;obtain⟨v',w',hr,h2,h3,h4⟩:=N6 (P:=P) w t u o.type e i ht hu hi hz c f v n xs hown s h0 j b;unfold Oper.wp execOp;simp only[ho,resolve,invoke,builtin,Sem.run_bind,Sem.run_pure,Result.andThen_ok,dU,aI,cX,hs,hx,hr];exact hK _ _ (h v' w' h2 h3 h4)
theorem nG{w w':World}{v:Value}{n:Nat}{xs:List Value}(h:w.ownsRow 0 E 1 v n xs)(hb:∀g,v.ownBlock=some g->w'.heap[g]? =w.heap[g]?):w'.ownsRow 0 E 1 v n xs:=by
 refine⟨h.1,?_⟩
 rcases h.2 with h|⟨g,cap,cur,rfl,k1,a,b⟩
 ·exact .inl h
 ·exact .inr ⟨g,cap,cur,rfl,k1,(hb g rfl).trans a,b⟩
theorem sY{w:World}{v:Value}{n g:Nat}{xs:List Value}(h:w.ownsRow 0 E 1 v n xs)(hg:v.ownBlock=some g):g<w.heap.size:=by
 rcases h.2 with⟨rfl,_⟩|⟨g',cap,cur,rfl,k1,a,b⟩
 ·cases hg
 ·cases hg;exact(aA.1 a).1
set_option maxRecDepth 100000 in
set_option maxHeartbeats 4000000 in
theorem x6(b cap:Nat)(p v:Value)(bs:List Value)(s:ByteArray)(w:World)(hp:p=.pointer none\/p=.pointer (some ⟨b,0,none⟩))(OO:B2 b cap p v w)(hown:w.ownsRow 0 E 1 v bs.length bs)(hne:v.ownBlock≠some b)(h0:0<s.size)(hlen:bs.length+s.size<=140737488355328):
  Calls Tryz.prog 18 #[.pointer (some ⟨b,0,none⟩),.string s] w λe w'=>e=.returned (.tuple #[.int .i64 s.size,.nilIface])/\∃v',B2 b cap (.pointer (some ⟨b,0,none⟩)) v' w'/\w'.ownsRow 0 E 1 v' (bs.length+s.size) (bs++Lib.strCells s)/\Ev (λk=>k=b\/v.ownBlock=some k) w w'/\(∀g,v'.ownBlock=some g->v.ownBlock=some g\/w.heap.size<=g):=by
 obtain⟨i0,hi,hz0,hz1,hz2⟩:=info_parts (show(Tryz.prog.info? 5).map (λi=>(i.zero,i.size,i.bytes))=some (some (.int .u8 0),1,1) by kernel_rfl);have TH:=Ku b cap p v w hp OO;have hown1:=λ(w1:World)(h:Ev (λk=>k=b) w w1)=>nG hown λg hg=>h.same g (sY hown hg) (λe=>hne (by rw[hg,e]));have Uw:=λ(w2:World)(q x:Value)(h:B2 b cap q x w2)(y:Value)=>h.Uv y;unfold E at*
 go_enter Tryz.func18,Tryz.ntmps18
 go_wp2_with fail
 refine TH.mono ?_;rintro e w1 ⟨rfl,Kv,hb1,Xb⟩;have hown1:=hown1 w1 hb1;have c0:=Kv.cell0;have c1:=Kv.cell1
 go_wp2_with (at_builtin;refine vg rfl _ _ 53 9 rfl 5 i0 Tryz.underlying53 Tryz.underlying9 hi hz0 hz1 hz2 _ _ _ rfl hown1 s rfl h0 ?c3 ?c4 ?_)
 case c3=>unfold maxLen;omega
 case c4=>omega
 intro v' w2 hown' hgrow hold;have hb2:B2 b cap (.pointer (some ⟨b,0,none⟩)) v w2:=Kv.keep (hgrow.same b Kv.lt hne);have d0:=hb2.cell0;have d1:=hb2.cell1;have f1:=hb2.frozen 1;have Ux:v'.ownBlock≠some b:=λe=>by
  rcases hold b e with h|h
  ·exact hne h
  ·have:=Kv.lt;omega
 obtain⟨ao,n',cap',rfl⟩:∃ao n' cap,v'=.slice ao n' cap:=by
  rcases hown'.2 with⟨hv,_⟩|⟨g,cap,cur,hv,_⟩
  ·exact⟨_,_,_,hv⟩
  ·exact⟨_,_,_,hv⟩
 go_wp2
 go_ret2
 refine⟨rfl,_,Uw _ _ _ hb2 _,?_,?_,λg hg=>(hold g hg).imp id (λh=>by omega)⟩
 ·refine nG hown' λg hg=>?_;have:b≠g:=λe=>Ux (by rw[hg,e]);simp[World.setCell,bA,this]
 ·exact((hb1.mono λ_ _ h=>.inl h).trans (hgrow.mono λ_ _ h=>.inr h)).trans (Kt (.inl rfl))
set_option maxRecDepth 100000 in
set_option maxHeartbeats 4000000 in
theorem N7(b c0 g cap:Nat)(p:Value)(cur:Array Value)(l:BS)(w:World)(h0:l≠[])(OO:B2 b c0 p (.slice (some ⟨g,0,none⟩) l.length cap) w)(hg:w.heap[g]? =some (.cells cur E (0,0)))(Yx:l.length<=cap)(hcm:cap<=maxLen)(hcs:cur.size=cap)(hcell:∀(j:Nat)(x:UInt8),l[j]? =some x->cur[j]? =some (.int .u8 x.toNat)):
  Calls Tryz.prog 21 #[.pointer (some ⟨b,0,none⟩)] w λe w'=>e=.returned (.string ⟨l.toArray⟩)/\w'=w.drew.freeze ⟨g,0,none⟩ l.length:=by
 have hl0:l.length≠0:=by simpa using h0
 have c1:w.drew.cell? ⟨b,1,none⟩=some (.slice (some ⟨g,0,none⟩) l.length cap):=(OO.keep (w':=w.drew) rfl).cell1;have Yy:(Builtin.unsafeSliceData_ #[53] 112 #[.slice (some ⟨g,0,none⟩) l.length cap]).run Tryz.prog w.drew=.ok (.pointer (some ⟨g,0,none⟩)) w.drew:=
  Lib.run_unsafeSliceData_row _ _ _ _ _ _ qW
 have Uy:w.drew.heap[g]? =some (.cells cur E (0,0)):=hg;have Yz:(Builtin.unsafeString_ #[112,3] 9 #[.pointer (some ⟨g,0,none⟩),.int .i64 l.length]).run Tryz.prog w.drew=.ok (.string ⟨l.toArray⟩) (w.drew.freeze ⟨g,0,none⟩ l.length):=by
  refine Lib.run_unsafeString_row w.drew 112 3 9 5 Tryz.underlying112 (by kernel_rfl) g cur.size (by simp[World.shape?,Uy];rfl) l h0 qW (by unfold maxLen at hcm;omega) ?_;intro j x hx;rw[Addr.add_lit,cell_of_row w.drew g _ cur E (0,0) Uy,aW];exact hcell j x hx
 clear hcell hg Uy;have mixed:Tryz.prog.follows .mixedOrders=true:=by kernel_rfl
 go_enter Tryz.func21,Tryz.ntmps21
 go_wp2
 go_region_o
 all_goals(go_wp2;go_ret;exact⟨rfl,rfl⟩)
end Go.Proofs.YtajdadcdcpnedaaGreatDoor.vz
namespace Go.Proofs.YtajdadcdcpnedaaGreatDoor.AM
open Go Go.RowKit Go.BigFrame
set_option maxRecDepth 100000
set_option maxHeartbeats 2000000
theorem fT.two{C:Ctx}{F L:Nat->Prop}{w w':World}{k c:Nat}{o d o' a:Ob}(hs:fT C F (a8 [(k,o),(c,d)]) w)(hne:¬c=k)(he:Ev L w w')(g:∀x,L x->o.b=some x\/d.b=some x)(ho:fe F C.B w' o')(i:fe F C.B w' a)(hb:o'.b=o.b)(hb2:∀x,a.b=some x->d.b=some x\/w.heap.size<=x):fT C F (a8 [(k,o'),(c,a)]) w':=by
 have q1:a8 [(k,o),(c,d)] k=some o:=by simp[a8]
 have q2:a8 [(k,o),(c,d)] c=some d:=by simp[a8,hne]
 have look:∀j q,a8 [(k,o'),(c,a)] j=some q->(j=k/\q=o')\/(j=c/\q=a):=by
  intro j q hj;simp only[a8] at hj
  split at hj
  ·cases hj;exact .inl ⟨‹_›,rfl⟩
  ·split at hj
   ·cases hj;exact .inr ⟨‹_›,rfl⟩
   ·cases hj
 have mix:∀x,o'.b=some x->a.b=some x->False:=by
  intro x h1 h2
  rcases hb2 x h2 with h|h
  ·exact hne (hs.inj c k d o x q2 q1 h (hb▸h1))
  ·have:=(hs.ob k o q1).lt (hb▸h1);omega
 refine⟨λj q hj=>?_,λj l q m x hj f hx e=>?_,λj q x hj hx=>?_,hs.jE,hs.new,λx hx=>bE (hs.lt x hx) he.size,hs.ev.qE he λx hx hl=>?_⟩
 ·rcases look j q hj with⟨_,rfl⟩|⟨_,rfl⟩<;>assumption
 ·rcases look j q hj with⟨rfl,rfl⟩|⟨rfl,rfl⟩<;>rcases look l m f with⟨rfl,rfl⟩|⟨rfl,rfl⟩
  ·rfl
  ·exact(mix x hx e).elim
  ·exact(mix x e hx).elim
  ·rfl
 ·rcases look j q hj with⟨rfl,rfl⟩|⟨rfl,rfl⟩
  ·exact hs.live _ o x q1 (hb▸hx)
  ·rcases hb2 x hx with h|h
   ·exact hs.live _ d x q2 h
   ·exact⟨λhf=>by have:=hs.lt x hf;omega,.inr (aV hs.ev.size h)⟩
 ·rcases g x hl with h|h
  ·rcases(hs.live k o x q1 h).2 with h|h
   ·exact h
   ·omega
  ·rcases(hs.live c d x q2 h).2 with h|h
   ·exact h
   ·omega
def Kw(b:Nat)(p:V)(β:Option Nat)(n:Nat):Ob:=⟨some b,55,2,[[p,.own 1000960 β 1 n]]⟩
def Q8(β:Option Nat)(s:BS):Ob:=⟨β,5,1,rJ s⟩
def x9(b:Nat)(p:V):Prop:=p=.nil\/p=.ptr 960 (some b) 2 0 0
def vr(b:Nat)(p:V)(β:Option Nat)(n:Nat)(s:BS):List (Nat×Ob):=[(960,Kw b p β n),(1000960,Q8 β s)]
theorem QP{b:Nat}{p:V}(h:x9 b p):Fz p:=by
 rcases h with rfl|rfl
 ·exact .nil
 ·exact .ptr _ _ _ _ _
theorem vh{b:Nat}{p:V}{β:Option Nat}{n:Nat}{s:BS}(h:x9 b p):∀q∈vr b p β n s,q.2.Fz:=by
 intro q hq;simp only[vr,ah,aq,aQ] at hq
 rcases hq with rfl|rfl
 ·intro r hr v hv;rw[ag.1 hr] at hv;simp only[ah,aq,aQ] at hv
  rcases hv with rfl|rfl
  ·exact QP h
  ·exact .own _ _ _ _
 ·intro r hr v hv;obtain⟨x,_,rfl⟩:=aM.1 hr;rw[ag.1 hv];exact .int _ _
theorem N8{s:BS}{i j:Nat}{r:List V}{v:V}(hi:(rJ s)[i]? =some r)(hj:r[j]? =some v):∃x,s[i]? =some x/\j=0/\v=.int .u8 (x.toNat:Int):=by
 rw[rJ,aw] at hi;cases hx:s[i]? with
 |none=>rw[hx] at hi;cases hi
 |some x=>
  rw[hx] at hi;cases hi;cases j with
  |zero=>cases hj;exact⟨x,rfl,rfl,rfl⟩
  |succ j=>simp at hj
theorem N9{s:BS}(x:ByteArray)(hx:x=⟨s.toArray⟩):Lib.strCells x=s.map λb=>Value.int .u8 b.toNat:=by
 subst hx;simp[Lib.strCells]
theorem Oa{w:World}{v:Value}{s:BS}(h:w.ownsRow 0 vz.E 1 v s.length (s.map λb=>Value.int .u8 b.toNat)):(∀(F B:Nat->Prop)(k:Nat),Rel F B w (.own k v.ownBlock 1 s.length) v)/\(∀(F B:Nat->Prop),fe F B w (Q8 v.ownBlock s))/\v.oneCell'=true:=by
 rcases h.2 with⟨rfl,h0⟩|⟨g,cap,cur,rfl,_,a,c,d,e,f⟩
 ·refine⟨λF B k=>?_,λF B=>?_,rfl⟩
  ·rw[h0];exact .ownnil _ _
  ·rw[aB h0];exact(rfl:([]:List (List V))=[])
 ·refine⟨λF B k=>.own k g 1 s.length cap cur vz.E (0,0) a e d c,λF B=>⟨cur,cap,a,e,d,by rw[Q8,rJ,aH];exact c,λr hr=>?_,λi j r v hi hj=>?_⟩,rfl⟩
  ·obtain⟨x,_,rfl⟩:=aM.1 hr;rfl
  ·obtain⟨x,hx,rfl,rfl⟩:=N8 hi hj;refine⟨.int .u8 x.toNat,?_,rfl,.int _ _⟩;have hl:=(aj.1 hx).1;have:(cur.toList.take (s.length*1))[i]? =some (.int .u8 x.toNat):=by rw[f,aw,hx];rfl
   rw[aZ,ab qW] at this;show cur[i*1+0]? =_;rw[Nat.mul_one];simpa using this
theorem Kx{C:Ctx}{F:Nat->Prop}{w:World}{b:Nat}{p:V}{β:Option Nat}{s:BS}(hp:x9 b p)(hs:fT C F (a8 (vr b p β s.length s)) w):
  ∃cap a v,(a=.pointer none\/a=.pointer (some ⟨b,0,none⟩))/\cap+1<=maxLen/\vz.B2 b cap a v w/\w.ownsRow 0 vz.E 1 v s.length (s.map λb=>Value.int .u8 b.toNat)/\v.ownBlock=β/\v.ownBlock≠some b:=by
 have q1:a8 (vr b p β s.length s) 960=some (Kw b p β s.length):=rfl;have q2:a8 (vr b p β s.length s) 1000960=some (Q8 β s):=rfl;obtain⟨c,cap,h1,h2,h3,h4,_,h5⟩:=hs.ob _ _ q1;have h4:1<=cap:=h4;obtain⟨a,l,_,j⟩:=h5 0 0 _ p rfl rfl;obtain⟨v,v1,_,v2⟩:=h5 0 1 _ (.own 1000960 β 1 s.length) rfl rfl;have f:a=.pointer none\/a=.pointer (some ⟨b,0,none⟩):=by
  rcases hp with rfl|rfl
  ·cases j;exact .inl rfl
  ·cases j;exact .inr rfl
 have ho:=hs.ob _ _ q2;have d:∀g,β=some g->g≠b:=by
  rintro g hg rfl;have:=hs.inj 960 1000960 _ _ g q1 q2 rfl hg;cases this
 refine⟨cap-1,a,v,f,qW,⟨c,h1,by rw[show cap-1+1=cap by omega];exact h2,l,v1⟩,?_⟩;cases β with
 |none=>
  generalize hn:s.length=n at v2
  cases v2;have h:s=[]:=aB hn;subst h;exact⟨World.ownsRow_nil w 0 vz.E 1,rfl,by simp[Value.ownBlock]⟩
 |some g=>
  cases v2 with
  |own _ _ _ _ cap' c' e fr k1 m o q=>
   obtain⟨r,k,m1,m2,m3,m4,_,m5⟩:=ho;rw[k1] at m1;cases m1;refine⟨⟨by simp,.inr ⟨g,cap',c',rfl,bc _,k1,q,o,m,?_⟩⟩,rfl,λe=>d g rfl (bN e)⟩;have hle:s.length<=c'.size:=by omega
   apply cN;intro i;rw[aZ,aw]
   by_cases hi:i<s.length
   ·rw[ab qW];obtain⟨x,hx⟩:∃x,s[i]? =some x:=⟨_,af hi⟩;obtain⟨u,hu,_,hr⟩:=m5 i 0 [.int .u8 (x.toNat:Int)] _ (by rw[Q8,rJ,aw,hx];rfl) rfl;cases hr;rw[hx];have hu:c'[i*1+0]? =some (.int .u8 x.toNat):=hu;rw[Nat.mul_one,bQ] at hu;simpa using hu
   ·rw[aa qW,bh qW];rfl
theorem Ky{C:Ctx}{F:Nat->Prop}{w w':World}{b:Nat}{p e:V}{β:Option Nat}{s s':BS}{cap:Nat}{a v':Value}(hs:fT C F (a8 (vr b p β s.length s)) w)(jD:cap+1<=maxLen)(hb:vz.B2 b cap a v' w')(hp:Rel F C.B w' e a)(d:a.oneCell'=true)(ho:w'.ownsRow 0 vz.E 1 v' s'.length (s'.map λb=>Value.int .u8 b.toNat))(he:Ev (λk=>k=b\/β=some k) w w')(hold:∀g,v'.ownBlock=some g->β=some g\/w.heap.size<=g):
  fT C F (a8 (vr b e v'.ownBlock s'.length s')) w':=by
 obtain⟨f,l,m⟩:=Oa ho;refine hs.two qD he (λx hx=>?_) ?_ (l F C.B) rfl hold
 ·rcases hx with rfl|h
  ·exact .inl rfl
  ·exact .inr h
 ·obtain⟨c,h1,h2,h3,h4⟩:=hb;refine⟨c,cap+1,h1,h2,jD,Nat.succ_le_succ (bc _),λr hr=>?_,λi j r v hi hj=>?_⟩
  ·rw[ag.1 hr];rfl
  ·cases i with
   |succ i=>simp[Kw] at hi
   |zero=>
    cases hi
    match j,hj with
    |0,hj=>cases hj;exact⟨a,h3,d,hp⟩
    |1,hj=>cases hj;exact⟨v',h4,m,f F C.B _⟩
    |j+2,hj=>simp at hj
theorem x7{F B:Nat->Prop}{w:World}{b:Nat}{u:Value}(h:Rel F B w (.ptr 960 (some b) 2 0 0) u):u=.pointer (some ⟨b,0,none⟩):=by cases h;rfl
theorem Oc(b:Nat)(p:V)(β:Option Nat)(s x:BS)(hp:x9 b p)(hx:x≠[])(hl:s.length+x.length<=1000000000):Spec Tryz.prog 18 [.ptr 960 (some b) 2 0 0,.str x] (a8 (vr b p β s.length s)) λr h'=>∃L',(∃f,r=.tup [qI (x.length:Int),.raw .nilIface]/\L'=vr b (.ptr 960 (some b) 2 0 0) f (s++x).length (s++x))/\h'=a8 L':=by
 refine⟨⟨Tryz.f18,Tryz.func18,by decide+kernel,aS.1 (by decide+kernel)⟩,λC us hC hlen c hs=>?_⟩;have g:us= #[.pointer (some ⟨b,0,none⟩),.string ⟨x.toArray⟩]:=by
  match us,hlen,c with
  |⟨[u0,n]⟩,_,h=>
   have a0:=x7 (h 0 _ u0 rfl rfl);have a1:=h 1 _ n rfl rfl;cases a1;rw[a0]
 subst g;obtain⟨cap,o,v,j,jD,hB,hown,k,hne⟩:=Kx hp hs;have l:0<x.length:=du.2 hx;have hown':C.w0.ownsRow 0 vz.E 1 v (s.map λb=>Value.int .u8 b.toNat).length (s.map λb=>Value.int .u8 b.toNat):=by rw[aH];exact hown
 refine(vz.x6 b cap o v _ ⟨x.toArray⟩ C.w0 j hB hown' hne (by show 0<x.toArray.size;rw[bH];exact l) (by show _+x.toArray.size<=_;rw[bH,aH];omega)).mono ?_;rintro e w' ⟨rfl,v',m,a,d,hold⟩;have e1:(s.map λb=>Value.int .u8 b.toNat).length+(⟨x.toArray⟩:ByteArray).size=(s++x).length:=by
  show _+x.toArray.size=_;rw[bH,aH,ae]
 have q:(s.map λb=>Value.int .u8 b.toNat)++Lib.strCells ⟨x.toArray⟩=(s++x).map λb=>Value.int .u8 b.toNat:=by rw[N9 _ rfl,cj]
 rw[e1,q] at a;rw[k] at d hold;refine⟨_,_,_,C.F0,rfl,?_,Ky hs jD m (.ptr 960 b 2 0 0) rfl a d hold,_,⟨_,rfl,rfl⟩,rfl⟩;refine .tup _ _ rfl λi v u hv hu=>?_
 match i,hv,hu with
 |0,hv,hu=>
  cases hv;cases hu;have:(((⟨x.toArray⟩:ByteArray).size:Nat):Int)=(x.length:Int):=by show((x.toArray.size:Nat):Int)=_;rw[bH]
  rw[this];exact .int _ _
 |1,hv,hu=>cases hv;cases hu;exact .raw _
 |i+2,hv,_=>simp at hv
def FG(b:Nat)(p:V)(β:Option Nat)(n:Nat)(rows:List (List V)):List (Nat×Ob):=[(960,Kw b p β n),(1000960,⟨β,5,1,rows⟩)]
def Uz(T:cm):Prop:=∀(b:Nat)(p:V)(β:Option Nat)(n:Nat)(rows:List (List V))(s x:BS)(h:Hp)(K:V->Hp->Prop),h 960=some (Kw b p β n)->h 1000960=some ⟨β,5,1,rows⟩->rows=rJ s->n=s.length->x9 b p->x≠[]->s.length+x.length<=1000000000->(∀v c a n' rows',x9 b c->n'=(s++x).length->rows'=rJ (s++x)->K v (h.jl (FG b c a n' rows')))->T 18 [.ptr 960 (some b) 2 0 0,.str x] h K
def Tq:List Nat:=[960,1000960]
theorem Vq:Uz (dF Tryz.prog):=by
 rintro b p β n rows s x h K h1 h2 rfl rfl hp hx hl hK;refine l7 Tq (Oc b p β s x hp hx hl) (gY _) rfl qD qD (λq hq=>⟨?_,vh hp q hq⟩) ?_ ?_
 ·simp only[vr,ah,aq,aQ] at hq
  rcases hq with rfl|rfl
  ·exact h1
  ·exact h2
 ·rintro v L' ⟨a,rfl,rfl⟩;rfl
 ·rintro v L' ⟨a,rfl,rfl⟩;exact hK _ _ a _ _ (.inr rfl) rfl rfl
theorem Od(b:Nat)(p:V)(β:Option Nat)(s:BS)(hp:x9 b p):Spec Tryz.prog 45 [.ptr 960 (some b) 2 0 0] (a8 (vr b p β s.length s)) λr h'=>∃L',(r=.tup []/\L'=vr b (.ptr 960 (some b) 2 0 0) β s.length s)/\h'=a8 L':=by
 refine⟨⟨Tryz.f45,Tryz.func45,by decide+kernel,aS.1 (by decide+kernel)⟩,λC us hC hlen a hs=>?_⟩;have f:us= #[.pointer (some ⟨b,0,none⟩)]:=by
  match us,hlen,a with
  |⟨[u0]⟩,_,h=>rw[x7 (h 0 _ u0 rfl rfl)]
 subst f;obtain⟨cap,m,v,j,jD,hB,hown,k,hne⟩:=Kx hp hs;refine(vz.Ku b cap m v C.w0 j hB).mono ?_;rintro e w' ⟨rfl,l,d,hsz⟩;subst k;have c:=vz.nG (w':=w') hown λg hg=>d.same g (vz.sY hown hg) (λe=>hne (by rw[hg,e]));exact⟨_,_,_,C.F0,rfl,.tup _ _ rfl (λi v u hv _=>by simp at hv),Ky hs jD l (.ptr 960 b 2 0 0) rfl c (d.mono λ_ _ h=>.inl h) (λg hg=>.inl hg),_,⟨rfl,rfl⟩,rfl⟩
def O6(T:cm):Prop:=∀(b:Nat)(p:V)(β:Option Nat)(n:Nat)(rows:List (List V))(s:BS)(h:Hp)(K:V->Hp->Prop),h 960=some (Kw b p β n)->h 1000960=some ⟨β,5,1,rows⟩->rows=rJ s->n=s.length->x9 b p->K (.tup []) (h.jl (FG b (.ptr 960 (some b) 2 0 0) β n rows))->T 45 [.ptr 960 (some b) 2 0 0] h K
theorem SJ:O6 (dF Tryz.prog):=by
 rintro b p β n rows s h K h1 h2 rfl rfl hp hK;refine l7 Tq (Od b p β s hp) (gY _) rfl qD qD (λq hq=>⟨?_,vh hp q hq⟩) ?_ ?_
 ·simp only[vr,ah,aq,aQ] at hq
  rcases hq with rfl|rfl
  ·exact h1
  ·exact h2
 ·rintro v L' ⟨rfl,rfl⟩;rfl
 ·rintro v L' ⟨rfl,rfl⟩;exact hK
def Ar:AC:=qr [qo 4 (.mov (.c .nilIface))] (qr [qm 5 0,qa 6 45 [.t 5]] (qr [qm 7 0,qm 8 0,qn 9 8,qf 10 1 9,ql 11 10,qm 12 1,qo 13 (.bslice 5 1 [.t 12]),qo 14 (.append 5 1 1 (.t 11) (.t 13)),qn 15 7,qf 16 1 15,qs 1 16 14] (qr [qo 4 (.mov (.c .nilIface))] .ret)))
theorem Kz:fF Tryz.prog 20 Tryz.f20 Ar [.t 4] 2 dS:=⟨Tryz.func20,by decide+kernel,by kernel_rfl,by kernel_rfl,by decide+kernel⟩
theorem KA(P:Prim)(hP:P=cp)(T g:cm)(d:O6 T)(b:Nat)(p:V)(β:Option Nat)(n:Nat)(rows:List (List V))(s:BS)(hr:rows=rJ s)(hn:n=s.length)(hp:x9 b p)(hl:s.length<=1000000000)(c:UInt8)(a:Int)(hc:a=(c.toNat:Int))
  (R:S->Prop)(h:∀s1 s2 e n' rows',n'=(s++[c]).length->rows'=rJ (s++[c])->cd s1 s2->ia [.t 4] [.raw .nilIface] s2->eP (FG b (.ptr 960 (some b) 2 0 0) e n' rows') s2->R s1):gE P T g Ar (S0 [.ptr 960 (some b) 2 0 0,.int .u8 a] (a8 (FG b p β n rows))) R (λ_ _=>False) R:=by
 have r8:rows.length=n:=by rw[hr,hn,rJ,aH]
 have hne:P.rW rows n:=by subst hP;exact r8
 have i:P.rW [[.int .u8 a]] 1:=by subst hP;rfl
 have j:P.bytes (P.add (P.int n) (P.cF [[.int .u8 a]])) 1:=by subst hP;show((n:Int)+1)*1<=_;omega
 have pR:P.jg n (P.gH [[.int .u8 a]])=(s++[c]).length:=by subst hP;show n+1=_;rw[ae,hn];rfl
 have f:P.n4 rows [[.int .u8 a]]=rJ (s++[c]):=by
  subst hP;show rows++[_]=_;rw[hr,hc,rJ,rJ,cj];rfl
 cbv;refine d b p β n rows s _ _ rfl rfl hr hn hp ?_;cbv
 repeat'(first
  |(refine qA ?_;cbv)
  |(intro k;cbv)
  |fail)
 exact h _ _ _ _ _ pR f (cd.refl _) rfl ⟨rfl,rfl,trivial⟩
theorem KB(b:Nat)(p:V)(β:Option Nat)(s:BS)(c:UInt8)(hp:x9 b p)(hl:s.length<=1000000000):Spec Tryz.prog 20 [.ptr 960 (some b) 2 0 0,.int .u8 (c.toNat:Int)] (a8 (vr b p β s.length s)) λr h'=>∃L',(∃a,r=.raw .nilIface/\L'=vr b (.ptr 960 (some b) 2 0 0) a (s++[c]).length (s++[c]))/\h'=a8 L':=by
 refine dE hW Kz (L:=vr b p β s.length s) (λr L'=>∃a,r=.raw .nilIface/\L'=vr b (.ptr 960 (some b) 2 0 0) a (s++[c]).length (s++[c])) λR d=>?_;refine KA cp rfl _ _ SJ b p β _ _ s rfl rfl hp hl c _ rfl R ?_;rintro s1 s2 a n' rows' rfl rfl he hr hg;exact d s1 s2 (.raw .nilIface) _ he (da _ _ _ (λx hx=>by rw[hx];rfl) hr) hg (.raw _) (vh (.inr rfl)) ⟨a,rfl,rfl⟩
def UA(T:cm):Prop:=∀(b:Nat)(p:V)(β:Option Nat)(n:Nat)(rows:List (List V))(s:BS)(c:UInt8)(d:Int)(h:Hp)(K:V->Hp->Prop),h 960=some (Kw b p β n)->h 1000960=some ⟨β,5,1,rows⟩->rows=rJ s->n=s.length->x9 b p->s.length<=1000000000->d=(c.toNat:Int)->(∀v e a n' rows',x9 b e->n'=(s++[c]).length->rows'=rJ (s++[c])->K v (h.jl (FG b e a n' rows')))->T 20 [.ptr 960 (some b) 2 0 0,.int .u8 d] h K
theorem Vr:UA (dF Tryz.prog):=by
 rintro b p β n rows s c d h K h1 h2 rfl rfl hp hl rfl hK;refine l7 Tq (KB b p β s c hp hl) (gY _) rfl qD qD (λq hq=>⟨?_,vh hp q hq⟩) ?_ ?_
 ·simp only[vr,ah,aq,aQ] at hq
  rcases hq with rfl|rfl
  ·exact h1
  ·exact h2
 ·rintro v L' ⟨a,rfl,rfl⟩;rfl
 ·rintro v L' ⟨a,rfl,rfl⟩;exact hK _ _ a _ _ (.inr rfl) rfl rfl
theorem Fq{L:Nat->Prop}{g n:Nat}{w:World}(a:L g):Ev L w (w.freeze ⟨g,0,none⟩ n):=by
 unfold World.freeze
 split
 ·exact Ev.refl _ _
 ·refine⟨rfl,rfl,rfl,by simp,λk _ hn=>?_,λk c e fr h=>?_⟩
  ·have:g≠k:=λe=>hn (e▸a);simp[bA,this]
  ·by_cases hk:g=k
   ·subst hk;simp only[bA,ab,h,aJ];exact⟨c,_,rfl,rfl⟩
   ·exact⟨c,fr,by simp[bA,hk,h],rfl⟩
theorem Ctx.Ok.nb{C:Ctx}(h:C.Ok):C.nb.Ok:=⟨h.F0,λ_ h=>h.elim,h.pass,h.env,h.pg⟩
theorem Oe(b:Nat)(p:V)(β:Option Nat)(s:BS)(hp:x9 b p)(h0:s≠[]):Spec Tryz.prog 21 [.ptr 960 (some b) 2 0 0] (a8 (vr b p β s.length s)) λr h'=>∃L',(r=.str s/\L'=[(960,Kw b p β s.length),(1000960,⟨none,5,1,[]⟩)])/\h'=a8 L':=by
 refine⟨⟨Tryz.f21,Tryz.func21,by decide+kernel,aS.1 (by decide+kernel)⟩,λC us hC hlen c hs=>?_⟩;have i:us= #[.pointer (some ⟨b,0,none⟩)]:=by
  match us,hlen,c with
  |⟨[u0]⟩,_,h=>rw[x7 (h 0 _ u0 rfl rfl)]
 subst i;obtain⟨cap,m,v,n,jD,hB,hown,a,hne⟩:=Kx hp hs;have hl0:s.length≠0:=by simpa using h0
 rcases hown.2 with⟨_,hz⟩|⟨g,cap',cur,rfl,_,o,q,t,w,u⟩
 ·exact absurd hz hl0
 have l:¬g=b:=λe=>hne (by rw[<-e];rfl);refine(vz.N7 b cap g cap' m cur s C.w0 h0 hB o q t qW (λj x hx=>?_)).mono ?_
 ·have hj:=(aj.1 hx).1;have:(cur.toList.take (s.length*1))[j]? =some (.int .u8 x.toNat):=by rw[u,aw,hx];rfl
  rw[aZ,ab qW] at this;simpa using this
 ·rintro e w' ⟨rfl,rfl⟩;have a:some g=β:=a;have d:Ev (λk=>β=some k) C.w0 (C.w0.drew.freeze ⟨g,0,none⟩ s.length):=(Ev.drew _ _).trans (Fq a.symm);have q1:a8 (vr b p β s.length s) 960=some (Kw b p β s.length):=rfl;have q2:a8 (vr b p β s.length s) 1000960=some (Q8 β s):=rfl;refine⟨_,_,_,C.F0,rfl,.str s,hs.two qD d (λx hx=>.inr hx) ?_ (show fe _ _ _ ⟨none,5,1,[]⟩ from rfl) rfl (λx hx=>by cases hx),_,⟨rfl,rfl⟩,rfl⟩;refine fe.keep hC.nb hs d (λx _ hx=>⟨_,_,q2,hx⟩) (hs.ob _ _ q1) λx hx f=>?_;cases hx;rw[<-a] at f;exact l (bN f)
def UB(T:cm):Prop:=∀(b:Nat)(p:V)(β:Option Nat)(n:Nat)(rows:List (List V))(s:BS)(h:Hp)(K:V->Hp->Prop),h 960=some (Kw b p β n)->h 1000960=some ⟨β,5,1,rows⟩->rows=rJ s->n=s.length->x9 b p->s≠[]->(∀h',K (.str s) h')->T 21 [.ptr 960 (some b) 2 0 0] h K
theorem Vs:UB (dF Tryz.prog):=by
 rintro b p β n rows s h K h1 h2 rfl rfl hp h0 hK;refine l7 Tq (Oe b p β s hp h0) (gY _) rfl qD qD (λq hq=>⟨?_,vh hp q hq⟩) ?_ ?_
 ·simp only[vr,ah,aq,aQ] at hq
  rcases hq with rfl|rfl
  ·exact h1
  ·exact h2
 ·rintro v L' ⟨rfl,rfl⟩;rfl
 ·rintro v L' ⟨rfl,rfl⟩;exact hK _
end Go.Proofs.YtajdadcdcpnedaaGreatDoor.AM
