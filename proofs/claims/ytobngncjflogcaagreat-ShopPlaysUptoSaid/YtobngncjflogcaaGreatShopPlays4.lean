/-
  Part 4 of what the law ShopPlays reaches: the plain machine, contracts of the functions and plain laws; each lemma says its own condition.
-/
import Derived.Test.YtobngncjflogcaaGreatShopPlays3
import Derived.Test.YtobngncjflogcaaGreatShopPlays1
import Derived.KernelRfl
import Derived.OpenShut
import Derived.Test.YtobngncjflogcaaGreatRows
set_option linter.unusedVariables false
set_option linter.unusedSimpArgs false
namespace Go.Proofs.YtobngncjflogcaaGreat.AM
open Go
def slotsOf:List iI->List Nat
 |[]=>[]
 |.t i::l=>i::slotsOf l
 |.c _::l=>slotsOf l
theorem na{s s2:S}:∀{l:List iI},(∀i∈slotsOf l,s2.t i=s.t i)->∀x∈l,iI.ev s2 x=iI.ev s x
 |[],_,x,hx=>by cases hx
 |.t i::l,h,x,hx=>by
  rcases aw.1 hx with rfl|hx
  ·exact h i (by simp[slotsOf])
  ·exact na (λj hj=>h j (by simp[slotsOf,hj])) x hx
 |.c v::l,h,x,hx=>by
  rcases aw.1 hx with rfl|hx
  ·rfl
  ·exact na (λj hj=>h j (by simpa[slotsOf] using hj)) x hx
def AO.looks(o:AO):List Nat:=(match o.g with|some (g,_)=>[g]|none=>[])++slotsOf o.op.uf
def AO.isFun(o:AO):Bool:=o.op.ru||o.op.He||(match o.op with|.call .. =>true|.callv .. =>true|_=>false)
def BR(a b:AO):Bool:=
 (match a.d with|some d=> !(b.looks.contains d)&&(b.d !=some d)|none=>true)&&(match b.d with|some d=> !(a.looks.contains d)|none=>true)
def AO.zg(o:AO):Bool:=(match o.g,o.d with|none,some _=>true|_,_=>false)&&(match o.op with|.alloc .. |.box .. |.bslice .. |.mkslice .. =>true|_=>false)
def AO.key(o:AO):Nat:=match o.op with
 |.bslice .. |.mkslice .. =>arr+o.d.getD 0
 |_=>o.d.getD 0
def AO.isApp(o:AO):Bool:=(match o.g,o.d with|none,some _=>true|_,_=>false)&&(match o.op with|.append _ _ _ (.c (.slice none 0 0)) _=>true|_=>false)
def pz(a b:AO):Bool:=BR a b&&(a.op.ru||(a.isFun&&(b.isFun||b.zg||b.isApp))||(a.zg&&(b.op.ru||(b.zg&&a.key !=b.key)))||(a.isApp&&b.op.ru))
theorem l5{s:S}{g:Nat}{v:V}(h:s.t g=v):s.set g v=s:=by
 subst h;cases s with
 |mk t h=>
  simp only[S.set,S.mk.injEq,eQ]
  funext i
  simp only[gy]
  split<;>simp_all
theorem ve{P:Program}{o:AO}(h:o.isFun=true):Xp (fX P) o.op:=by
 refine Ql ?_;unfold AO.isFun at h;simp only[bG] at h
 rcases h with(h|h)|h
 ·exact .inl h
 ·exact .inr (.inl h)
 ·right;right
  cases a:o.op<;>rw[a] at h<;>try(simp at h;done)
  ·exact .inl ⟨_,_,rfl⟩
  ·exact .inr ⟨_,_,rfl⟩
section
variable {P:Program}
theorem wQ{o:AO}(hf:o.isFun=true){s:S}{K:S->Prop}(b:jh dn (fX P) o s K):
  ∃v,K (s.put o.d v)/\∀(s2:S),(∀i∈slotsOf o.op.uf,s2.t i=s.t i)->s.h.le s2.h->∀a:S->Prop,a (s2.put o.d v)->jh dn (fX P) o s2 a:=by
 obtain⟨v,h1,h2⟩:=ve hf _ _ _ _ b;refine⟨v,h1,λs2 hs hl a hk=>?_⟩;unfold jh;rw[rn (ev':=iI.ev s) (na hs)];exact h2 s2.h _ _ hl hk
theorem rR{o:AO}(hf:o.isFun=true){s:S}{K:S->Prop}(f:eH dn (fX P) o s K):
  ∃v,K (s.put o.d v)/\∀(s2:S),(∀i∈o.looks,s2.t i=s.t i)->s.h.le s2.h->∀c:S->Prop,c (s2.put o.d v)->eH dn (fX P) o s2 c:=by
 obtain⟨d,g,op⟩:=o;cases g with
 |none=>
  obtain⟨v,h1,h2⟩:=wQ hf (show jh dn (fX P) ⟨d,none,op⟩ s K from f);exact⟨v,h1,λs2 hs hl c hk=>h2 s2 (λi hi=>hs i (by simpa[AO.looks] using hi)) hl c hk⟩
 |some j=>
  obtain⟨g,want⟩:=j;have key:∀b,s.t g=.bool b->(if b=want then jh dn (fX P) ⟨d,some (g,want),op⟩ s K else K (s.put d .oN))->
    ∃v,K (s.put d v)/\∀(s2:S),(∀i∈(AO.mk d (some (g,want)) op).looks,s2.t i=s.t i)->s.h.le s2.h->∀c:S->Prop,c (s2.put d v)->eH dn (fX P) ⟨d,some (g,want),op⟩ s2 c:=by
   intro b hb hK
   by_cases e:b=want
   ·subst e;rw[ae rfl] at hK;obtain⟨v,h1,h2⟩:=wQ hf hK;refine⟨v,h1,λs2 hs hl c hk=>?_⟩;have a:s2.t g=.bool b:=(hs g (by simp[AO.looks])).trans hb;have:=h2 s2 (λi hi=>hs i (by simp only[AO.looks];exact bW _ hi)) hl c hk;cases b<;>simp only[eH,a,br,l5 a]<;>exact this
   ·rw[aa e] at hK;refine⟨.oN,hK,λs2 hs hl c hk=>?_⟩;have a:s2.t g=.bool b:=(hs g (by simp[AO.looks])).trans hb;cases b<;>cases want<;>first|(exact absurd rfl e)|(simp only[eH,a,br,l5 a];exact hk)
  cases hb:s.t g with
  |bool b=>
   refine key b hb ?_;cases b<;>cases want<;>simp only[eH,hb,br,l5 hb] at f<;>simpa using f
  |oN=>
   have hu:K (s.put d .oN):=by cases want<;>simp only[eH,hb] at f<;>exact f
   refine⟨.oN,hu,λs2 hs hl c hk=>?_⟩;have a:s2.t g=.oN:=(hs g (by simp[AO.looks])).trans hb;cases want<;>simp only[eH,a]<;>exact hk
  |_=>cases want<;>simp only[eH,hb] at f
theorem l6{s:S}{d:Option Nat}{v:V}{i:Nat}(h:d≠some i):(s.put d v).t i=s.t i:=by
 cases d with
 |none=>rfl
 |some d=>
  simp only[S.put,S.set,gy];rw[aa (λe=>h (by rw[e]))]
theorem lp{s:S}{d:Option Nat}{v:V}:(s.put d v).h=s.h:=by cases d<;>rfl
theorem put_comm{s:S}{d e:Option Nat}{v u:V}(h:∀i,d=some i->e≠some i):(s.put d v).put e u=(s.put e u).put d v:=by
 cases d with
 |none=>rfl
 |some d=>
  cases e with
  |none=>rfl
  |some e=>
   have hne:d≠e:=λhe=>h d rfl (by rw[he]);simp only[S.put,S.set,S.mk.injEq,eQ]
   funext i
   simp only[gy]
   by_cases h1:i=d
   ·subst h1;rw[aa hne];simp[hne]
   ·by_cases h2:i=e
    ·subst h2;simp[h1]
    ·simp[h1,h2]
theorem apart_spec{a b:AO}(h:BR a b=true):(∀i,a.d=some i->i∉b.looks/\b.d≠some i)/\(∀i,b.d=some i->i∉a.looks):=by
 unfold BR at h;simp only[aW] at h;refine⟨λi hi=>?_,λi hi=>?_⟩
 ·have h1:=h.1;rw[hi] at h1;simp only[aW,Bool.not_eq_true',bne_iff_ne] at h1;exact⟨by simpa using h1.1,h1.2⟩
 ·have h2:=h.2;rw[hi] at h2;simpa using h2
theorem sV{T:c8}{o:AO}(hp:o.op.ru=true){s:S}{K:S->Prop}(f:eH dn T o s K):
  ∃v,∀(s2:S),(∀i∈o.looks,s2.t i=s.t i)->∀a:S->Prop,(eH dn T o s2 a↔a (s2.put o.d v)):=by
 obtain⟨d,g,op⟩:=o;have plain:∀(s:S)(K:S->Prop),jh dn T ⟨d,none,op⟩ s K->∃v,∀(s2:S),(∀i∈slotsOf op.uf,s2.t i=s.t i)->∀a:S->Prop,(fV dn T op (iI.ev s2) s2.h (d.getD 0) (λv h=>a ((s2.jm h).put d v))↔a (s2.put d v)):=by
  intro s K f;obtain⟨v,_,h2⟩:=ze hp f;refine⟨v,λs2 hs a=>?_⟩;rw[rn (ev':=iI.ev s) (na hs)];exact h2 s2.h (d.getD 0) λv h=>a ((s2.jm h).put d v)
 cases g with
 |none=>
  obtain⟨v,h⟩:=plain s K f;exact⟨v,λs2 hs a=>h s2 (λi hi=>hs i (by simpa[AO.looks] using hi)) a⟩
 |some j=>
  obtain⟨g,want⟩:=j;have key:∀b,s.t g=.bool b->(b=want->jh dn T ⟨d,none,op⟩ s K)->
    ∃v,∀(s2:S),(∀i∈(AO.mk d (some (g,want)) op).looks,s2.t i=s.t i)->∀a:S->Prop,(eH dn T ⟨d,some (g,want),op⟩ s2 a↔a (s2.put d v)):=by
   intro b hb hK
   by_cases e:b=want
   ·subst e;obtain⟨v,h⟩:=plain s K (hK rfl);refine⟨v,λs2 hs a=>?_⟩;have c:s2.t g=.bool b:=(hs g (by simp[AO.looks])).trans hb;have:=h s2 (λi hi=>hs i (by simp only[AO.looks];exact bW _ hi)) a;cases b<;>simp only[eH,c,br,l5 c,jh]<;>exact this
   ·refine⟨.oN,λs2 hs a=>?_⟩;have c:s2.t g=.bool b:=(hs g (by simp[AO.looks])).trans hb;cases b<;>cases want<;>first|(exact absurd rfl e)|(simp only[eH,c,br,l5 c])
  cases hb:s.t g with
  |bool b=>
   refine key b hb λe=>?_;subst e;cases b<;>simp only[eH,hb,br,l5 hb] at f<;>exact f
  |oN=>
   refine⟨.oN,λs2 hs a=>?_⟩;have c:s2.t g=.oN:=(hs g (by simp[AO.looks])).trans hb;cases want<;>simp only[eH,c]
  |_=>cases want<;>simp only[eH,hb] at f
theorem rS{T:c8}{o:AO}(hn:o.zg=true){s:S}{K:S->Prop}(p:eH dn T o s K):
  ∃(v:Nat->V)(ob:Nat->Ob),∀(s2:S),(∀i∈o.looks,s2.t i=s.t i)->∀e:S->Prop,(eH dn T o s2 e↔s2.h o.key=none/\∀β:Nat,e ((s2.jm (s2.h.put o.key (ob β))).put o.d (v β))):=by
 obtain⟨d,g,op⟩:=o;unfold AO.zg at hn;simp only[aW] at hn;obtain⟨j,k⟩:=hn;cases g with
 |some _=>simp at j
 |none=>
  cases d with
  |none=>simp at j
  |some d=>
   have hl:∀s2:S,(∀i∈(AO.mk (some d) none op).looks,s2.t i=s.t i)->∀x∈op.uf,iI.ev s2 x=iI.ev s x:=λs2 hs=>na λi hi=>hs i (by simpa[AO.looks] using hi);cases op<;>simp only[] at k<;>try(cases k;done)
   case alloc ty z=>
    obtain⟨_,hz,_⟩:=(show fV dn T (.alloc ty z) (iI.ev s) s.h d (λv h=>K ((s.jm h).put (some d) v)) from p);exact⟨λβ=>.ptr d (some β) z.length 0 0,λβ=>⟨some β,ty,z.length,[z.map yM]⟩,λs2 hs e=>⟨λ⟨a,_,b⟩=>⟨a,b⟩,λ⟨a,b⟩=>⟨a,hz,b⟩⟩⟩
   case box ty n x=>
    obtain⟨_,hz,_⟩:=(show fV dn T (.box ty n x) (iI.ev s) s.h d (λv h=>K ((s.jm h).put (some d) v)) from p);refine⟨λβ=>.ptr d (some β) n 0 0,λβ=>⟨some β,ty,n,[(x.ev s).cells]⟩,λs2 hs e=>?_⟩;have he:=hl s2 hs x (by simp[rh.uf]);show(s2.h d=none/\(x.ev s2).fits n/\∀β:Nat,e ((s2.jm (s2.h.put d ⟨some β,ty,n,[(x.ev s2).cells]⟩)).put (some d) (.ptr d (some β) n 0 0)))↔_;rw[he];exact⟨λ⟨a,_,b⟩=>⟨a,b⟩,λ⟨a,b⟩=>⟨a,hz,b⟩⟩
   case bslice ty sz ps=>
    obtain⟨_,hz,_⟩:=(show fV dn T (.bslice ty sz ps) (iI.ev s) s.h d (λv h=>K ((s.jm h).put (some d) v)) from p);refine⟨λβ=>.own (arr+d) (some β) sz ps.length,λβ=>⟨some β,ty,sz,ps.map λq=>(q.ev s).cells⟩,λs2 hs e=>?_⟩;have he:=hl s2 hs;have e1:(ps.all λq=>nM sz (q.ev s2))=ps.all λq=>nM sz (q.ev s):=by
     rw[cf,aQ,aQ];exact⟨λh q hq=>by rw[<-he q hq];exact h q hq,λh q hq=>by rw[he q hq];exact h q hq⟩
    have r:(ps.map λq=>(q.ev s2).cells)=ps.map λq=>(q.ev s).cells:=cl λq hq=>by rw[he q hq]
    show(s2.h (arr+d)=none/\(ps.all λq=>nM sz (q.ev s2))=true/\∀β:Nat,e ((s2.jm (s2.h.put (arr+d) ⟨some β,ty,sz,ps.map λq=>(q.ev s2).cells⟩)).put (some d) (.own (arr+d) (some β) sz ps.length)))↔_;rw[e1,r];exact⟨λ⟨a,_,b⟩=>⟨a,b⟩,λ⟨a,b⟩=>⟨a,hz,b⟩⟩
   case mkslice ty sz bytes z l c=>
    have f:=(show fV dn T (.mkslice ty sz bytes z l c) (iI.ev s) s.h d (λv h=>K ((s.jm h).put (some d) v)) from p);cases h1:l.ev s<;>try(simp only[fV,h1] at f;done)
    rename_i k1 n;cases h2:c.ev s<;>try(simp only[fV,h1,h2] at f;done)
    rename_i k2 m;simp only[fV,h1,h2] at f;obtain⟨_,a1,a2,a3,a4,a5,u,_⟩:=f;refine⟨λβ=>.own (arr+d) (some β) sz (dn.nat n),λβ=>⟨some β,ty,sz,dn.Qf n (z.map yM)⟩,λs2 hs e=>?_⟩;have e1:=(hl s2 hs l (by simp[rh.uf])).trans h1;have r:=(hl s2 hs c (by simp[rh.uf])).trans h2;show fV dn T (.mkslice ty sz bytes z l c) (iI.ev s2) s2.h d (λv h=>e ((s2.jm h).put (some d) v))↔_;simp only[fV,e1,r];exact⟨λ⟨a,_,_,_,_,_,_,b⟩=>⟨a,b⟩,λ⟨a,b⟩=>⟨a,a1,a2,a3,a4,a5,u,b⟩⟩
theorem zh{T:c8}{o:AO}(hn:o.isApp=true){s:S}{K:S->Prop}(p:eH dn T o s K):
  ∃(k:Nat)(v:Option Nat->V)(ob:Option Nat->Ob),∀(s2:S),(∀i∈o.looks,s2.t i=s.t i)->s2.h=s.h->∀f:S->Prop,(eH dn T o s2 f↔s2.h k=none/\∀β:Option Nat,f ((s2.jm (s2.h.put k (ob β))).put o.d (v β))):=by
 obtain⟨d,g,op⟩:=o;unfold AO.isApp at hn;simp only[aW] at hn;obtain⟨l,j⟩:=hn;cases g with
 |some _=>simp at l
 |none=>
  cases d with
  |none=>simp at l
  |some d=>
   have hl:∀s2:S,(∀i∈(AO.mk (some d) none op).looks,s2.t i=s.t i)->∀x∈op.uf,iI.ev s2 x=iI.ev s x:=λs2 hs=>na λi hi=>hs i (by simpa[AO.looks] using hi);cases op<;>try(cases j;done)
   rename_i ty sz bytes x y
   split at j
   ·rename_i heq;cases heq;have e:=(show ln dn s.h (arr+d) ty sz bytes .nilsl (y.ev s) (λv h=>K ((s.jm h).put (some d) v)) from p);have fin:∀news:List (List V),(∀Q:List (List V)->Prop,m0 dn s.h sz (y.ev s) Q↔Q news)->∃(k:Nat)(v:Option Nat->V)(ob:Option Nat->Ob),∀(s2:S),(∀i∈(AO.mk (some d) none (.append ty sz bytes (.c (.slice none 0 0)) y)).looks,s2.t i=s.t i)->s2.h=s.h->∀f:S->Prop,(eH dn T ⟨some d,none,.append ty sz bytes (.c (.slice none 0 0)) y⟩ s2 f↔s2.h k=none/\∀β:Option Nat,f ((s2.jm (s2.h.put k (ob β))).put (some d) (v β))):=by
     intro news hr;have hb:=(hr _).1 e;refine⟨arr+d,λβ=>.own (arr+d) β sz (dn.fQ news),λβ=>⟨β,ty,sz,news⟩,λs2 hs m f=>?_⟩;have he:=hl s2 hs y (by simp[rh.uf]);show ln dn s2.h (arr+d) ty sz bytes .nilsl (y.ev s2) (λv h=>f ((s2.jm h).put (some d) v))↔_;rw[he];unfold ln;rw[m];exact(hr _).trans ⟨λ⟨a,_,b⟩=>⟨a,b⟩,λ⟨a,b⟩=>⟨a,hb.2.1,b⟩⟩
    unfold ln m0 at e
    split at e
    ·rename_i t sz' rows heq;refine fin rows λQ=>?_;rw[heq];unfold m0;exact⟨λh=>h.2,λh=>⟨e.1,h⟩⟩
    ·rename_i heq;refine fin [] λQ=>?_;rw[heq];exact Iff.rfl
    ·rename_i k b sz' n heq
     split at e
     ·rename_i o hk;refine fin o.rows λQ=>?_;rw[heq];unfold m0;simp only[hk];exact⟨λh=>h.2.2.2.2,λh=>⟨e.1,e.2.1,e.2.2.1,e.2.2.2.1,h⟩⟩
     ·exact e.elim
    ·exact e.elim
   ·cases j
theorem Fa{h:Hp}{k sz i:Nat}{b:Option Nat}{K a:Ob->List V->Prop}(hK:∀o r,K o r->a o r)(c:oQ dn h k b sz i K):oQ dn h k b sz i a:=Mr (Hp.le_refl h) c hK
theorem vf{h:Hp}{sz:Nat}{v:V}{K c:List (List V)->Prop}(hK:∀rows,K rows->c rows)(a:m0 dn h sz v K):m0 dn h sz v c:=by
 unfold m0 at a⊢;cases v<;>try(exact a.elim)
 case sl=>exact⟨a.1,hK _ a.2⟩
 case nilsl=>exact hK _ a
 case own j b sz' n=>
  simp only[] at a⊢;cases hj:h j with
  |none=>rw[hj] at a;exact a.elim
  |some o=>rw[hj] at a;exact⟨a.1,a.2.1,a.2.2.1,a.2.2.2.1,hK _ a.2.2.2.2⟩
theorem wR{op:rh}{ev:iI->V}{h:Hp}{k:Nat}{K d:V->Hp->Prop}(hK:∀v h,K v h->d v h)(a:fV dn (fX P) op ev h k K):fV dn (fX P) op ev h k d:=by
 by_cases hf:(AO.mk none none op).isFun=true
 ·obtain⟨v,h1,h2⟩:=ve hf ev h k K a;exact h2 h k d (Hp.le_refl h) (hK _ _ h1)
 ·cases op<;>try(exact absurd rfl hf)
  case alloc ty z=>exact⟨a.1,a.2.1,λβ=>hK _ _ (a.2.2 β)⟩
  case box ty n x=>exact⟨a.1,a.2.1,λβ=>hK _ _ (a.2.2 β)⟩
  case bslice ty sz ps=>exact⟨a.1,a.2.1,λβ=>hK _ _ (a.2.2 β)⟩
  case store n x v=>
   have a:rm dn h n (ev x) (ev v) (λh=>K .iC h):=a;show rm dn h n (ev x) (ev v) (λh=>d .iC h);unfold rm at a⊢
   split at a
   ·rename_i heq;refine Fa (λo r hr=>⟨hr.1,hr.2.1,hK _ _ hr.2.2⟩) a
   ·exact a.elim
  case mkslice ty sz bytes z l c=>
   simp only[fV] at a⊢
   split at a
   ·rename_i e1 f;exact⟨a.1,a.2.1,a.2.2.1,a.2.2.2.1,a.2.2.2.2.1,a.2.2.2.2.2.1,a.2.2.2.2.2.2.1,λβ=>hK _ _ (a.2.2.2.2.2.2.2 β)⟩
   ·exact a.elim
  case append ty sz bytes x y=>
   have a:ln dn h (arr+k) ty sz bytes (ev x) (ev y) K:=a;show ln dn h (arr+k) ty sz bytes (ev x) (ev y) d;unfold ln at a⊢;refine vf (λnews hn=>?_) a
   generalize ev x=e at hn⊢
   cases e<;>try(exact hn.elim)
   case nilsl=>exact⟨hn.1,hn.2.1,λβ=>hK _ _ (hn.2.2 β)⟩
   case own j b sz' n=>
    simp only[] at hn⊢;cases hj:h j with
    |none=>rw[hj] at hn;exact hn.elim
    |some o=>rw[hj] at hn;exact⟨hn.1,hn.2.1,hn.2.2.1,hn.2.2.2.1,hn.2.2.2.2.1,hn.2.2.2.2.2.1,λβ=>hK _ _ (hn.2.2.2.2.2.2 β)⟩
  case convbs x=>
   have a:m0 dn h 1 (ev x) (λrows=>∃l,dn.yX rows l/\K (.str l) h):=a;show m0 dn h 1 (ev x) (λrows=>∃l,dn.yX rows l/\d (.str l) h);exact vf (λrows hn=>hn.imp λl hl=>⟨hl.1,hK _ _ hl.2⟩) a
  case dead=>exact a
  case eqn neg x=>
   have a:G8 dn neg (ev x) (λv=>K v h):=a;show G8 dn neg (ev x) (λv=>d v h);unfold G8 at a⊢
   generalize ev x=e at a⊢
   cases e<;>try(exact a.elim)
   case nilsl=>exact hK _ _ a
   case sl=>exact⟨hK _ _ a.1,λh0=>hK _ _ (a.2 h0)⟩
  case ixa g len sz x i=>
   simp only[fV] at a⊢
   split at a
   ·rename_i e1 f;obtain⟨a1,a2,a3,a4,n,a5,m⟩:=a;refine⟨a1,a2,a3,a4,n,a5,?_⟩;cases g<;>exact hK _ _ m
   ·exact a.elim
theorem Fb{a:AO}{s:S}{K e:S->Prop}(hK:∀s,K s->e s)(c:eH dn (fX P) a s K):eH dn (fX P) a s e:=by
 obtain⟨d,g,op⟩:=a;have plain:∀s:S,jh dn (fX P) ⟨d,g,op⟩ s K->jh dn (fX P) ⟨d,g,op⟩ s e:=λs h=>wR (λv h' hk=>hK _ hk) h;unfold eH at c⊢
 split at c
 ·exact plain s c
 ·split at c
  ·rename_i b _;cases b
   ·exact hK _ c
   ·exact plain _ c
  ·exact hK _ c
  ·exact c.elim
 ·split at c
  ·rename_i b _;cases b
   ·exact plain _ c
   ·exact hK _ c
  ·exact hK _ c
  ·exact c.elim
theorem vg{op:rh}{ev ev':iI->V}{h:Hp}{k:Nat}{K K':V->Hp->Prop}(he:∀x∈op.uf,ev x=ev' x)(hK:∀v h,K v h->K' v h)(a:fV dn (fX P) op ev h k K):fV dn (fX P) op ev' h k K':=by
 rw[rn he] at a;exact wR hK a
theorem Hf{b:AO}{s:S}{d0:Option Nat}{u:V}{K f:S->Prop}(hl:∀e,d0=some e->e∉b.looks/\b.d≠some e)(hK:∀s1,(∀i,b.d≠some i->s1.t i=s.t i)->K (s1.put d0 u)->f s1)(a:eH dn (fX P) b (s.put d0 u) K):eH dn (fX P) b s f:=by
 obtain⟨d,g,op⟩:=b;have m:∀(s:S)(v:V)(h:Hp),(((s.put d0 u).jm h).put d v)=(((s.jm h).put d v).put d0 u):=by
  intro s v h;have e1:(s.put d0 u).jm h=(s.jm h).put d0 u:=by cases d0<;>rfl
  rw[e1];exact put_comm λi hi=>(hl i hi).2
 have ts:∀(s:S)(i:Nat),(∀e,d0=some e->i≠e)->(s.put d0 u).t i=s.t i:=λs i hi=>l6 λe=>hi i e rfl;have plain:∀s':S,(∀i,s'.t i=s.t i)->jh dn (fX P) ⟨d,g,op⟩ (s'.put d0 u) K->jh dn (fX P) ⟨d,g,op⟩ s' f:=by
  intro s' hs' h;have h':fV dn (fX P) op (iI.ev (s'.put d0 u)) s'.h (d.getD 0) (λv h=>K ((((s'.put d0 u).jm h)).put d v)):=by
   have:=h;unfold jh at this;rw[lp] at this;exact this
  refine vg (K':=λv h=>f ((s'.jm h).put d v)) (na λi hi=>ts s' i λe he j=>(hl e he).1 (by rw[<-j];unfold AO.looks;exact bW _ hi)) (λv n hk=>hK _ (λi hi=>?_) ?_) h'
  ·rw[l6 hi];exact hs' i
  ·rw[<-m];exact hk
 cases g with
 |none=>exact plain s (λ_=>rfl) a
 |some o=>
  obtain⟨g,want⟩:=o;have k:∀e,d0=some e->g≠e:=λe he hg=>(hl e he).1 (by rw[<-hg];simp[AO.looks]);have c:(s.put d0 u).t g=s.t g:=ts s g k;have l:∀(s:S)(v:V),(s.put d0 u).put d v=(s.put d v).put d0 u:=λs v=>put_comm λi hi=>(hl i hi).2;cases hb:s.t g with
  |bool b=>
   have hb2:=c.trans hb;have e1:(s.put d0 u).set g (.bool b)=s.put d0 u:=l5 hb2;have p:s.set g (.bool b)=s:=l5 hb;cases want<;>cases b<;>simp only[eH,hb,hb2,br,e1,p] at a⊢
   ·exact plain s (λ_=>rfl) a
   ·exact hK _ (λi hi=>l6 hi) (by rw[<-l];exact a)
   ·exact hK _ (λi hi=>l6 hi) (by rw[<-l];exact a)
   ·exact plain s (λ_=>rfl) a
  |oN=>
   have hb2:=c.trans hb;cases want<;>simp only[eH,hb,hb2] at a⊢<;>exact hK _ (λi hi=>l6 hi) (by rw[<-l];exact a)
  |_=>
   have hb2:=c.trans hb;cases want<;>simp only[eH,hb2] at a
theorem oi{s:S}{h:Hp}{d:Option Nat}{v:V}:(s.put d v).jm h=(s.jm h).put d v:=by cases d<;>rfl
theorem xS{s:S}{h:Hp}:(s.jm h).h=h:=rfl
theorem wS{s:S}{h h':Hp}:(s.jm h).jm h'=s.jm h':=rfl
theorem zi{h:Hp}{a b:Nat}{o q:Ob}(hne:a≠b):Hp.put (Hp.put h a o) b q=Hp.put (Hp.put h b q) a o:=by
 funext i
 simp only[Hp.put]
 by_cases h1:i=a
 ·subst h1;simp[hne]
 ·simp[h1]
theorem Hp.Hg{h:Hp}{k:Nat}{o:Ob}(hk:h k=none):h.le (h.put k o):=by
 intro j q hj;simp only[Hp.put];rw[aa (λe=>by rw[e,hk] at hj;cases hj)];exact hj
theorem swap{a b:AO}(hp:pz a b=true){s:S}{K:S->Prop}(j:eH dn (fX P) a s λs1=>eH dn (fX P) b s1 K):eH dn (fX P) b s λs1=>eH dn (fX P) a s1 K:=by
 unfold pz at hp;simp only[aW,bG,bne_iff_ne] at hp;obtain⟨A,q⟩:=hp;obtain⟨h1,h2⟩:=apart_spec A;have r:∀i,a.d=some i->b.d≠some i:=λi he=>(h1 i he).2;have k:∀i,b.d=some i->a.d≠some i:=λi he ha=>(h1 i ha).2 he
 rcases q with((B|⟨v,(C|w)|D⟩)|⟨y,x|⟨w,l⟩⟩)|⟨E,x⟩
 ·
  obtain⟨f,ha⟩:=sV B j;have hb:=(ha s (λ_ _=>rfl) _).1 j;exact Hf (d0:=a.d) (u:=f) (λe he=>h1 e he) (λs1 hs hk=>(ha s1 (λi hi=>hs i λhb=>h2 i hb hi) _).2 hk) hb
 ·
  obtain⟨f,g,m⟩:=rR v j;obtain⟨p,hb1,hb2⟩:=rR C g;have e1:∀i∈b.looks,s.t i=(s.put a.d f).t i:=λi hi=>(l6 λhe=>(h1 i he).1 hi).symm;refine hb2 s e1 (by rw[lp];exact Hp.le_refl _) _ (m _ (λi hi=>l6 λhe=>h2 i he hi) (by rw[lp];exact Hp.le_refl _) _ ?_);rw[put_comm k];exact hb1
 ·
  obtain⟨f,g,m⟩:=rR v j;obtain⟨p,ob,hb⟩:=rS w g;obtain⟨hk,c⟩:=(hb _ (λ_ _=>rfl) _).1 g;rw[lp] at hk;have e1:∀i∈b.looks,s.t i=(s.put a.d f).t i:=λi hi=>(l6 λhe=>(h1 i he).1 hi).symm;refine(hb s e1 _).2 ⟨hk,λβ=>m ((s.jm (s.h.put b.key (ob β))).put b.d (p β)) (λi hi=>l6 (s:=s.jm (s.h.put b.key (ob β))) λhe=>h2 i he hi) (by rw[lp];exact Hp.Hg hk) _ ?_⟩;have:=c β;rw[lp,oi,put_comm r] at this;exact this
 ·
  obtain⟨f,g,m⟩:=rR v j;obtain⟨G,p,ob,hb⟩:=zh D g;obtain⟨hk,c⟩:=(hb _ (λ_ _=>rfl) rfl _).1 g;rw[lp] at hk;have e1:∀i∈b.looks,s.t i=(s.put a.d f).t i:=λi hi=>(l6 λhe=>(h1 i he).1 hi).symm;refine(hb s e1 lp.symm _).2 ⟨hk,λβ=>m ((s.jm (s.h.put G (ob β))).put b.d (p β)) (λi hi=>l6 (s:=s.jm (s.h.put G (ob β))) λhe=>h2 i he hi) (by rw[lp];exact Hp.Hg hk) _ ?_⟩;have:=c β;rw[lp,oi,put_comm r] at this;exact this
 ·
  obtain⟨f,n,ha⟩:=rS y j;obtain⟨hk,c⟩:=(ha _ (λ_ _=>rfl) _).1 j;obtain⟨p,hb⟩:=sV x (c 0);have o:∀(β:Nat),∀i∈b.looks,((s.jm (s.h.put a.key (n β))).put a.d (f β)).t i=s.t i:=λβ i hi=>l6 λhe=>(h1 i he).1 hi;have eq:∀(β:Nat),∀i∈b.looks,((s.jm (s.h.put a.key (n β))).put a.d (f β)).t i=((s.jm (s.h.put a.key (n 0))).put a.d (f 0)).t i:=λβ i hi=>(o β i hi).trans (o 0 i hi).symm;refine(hb s (λi hi=>(o 0 i hi).symm) _).2 ((ha _ (λi hi=>l6 λhe=>h2 i he hi) _).2 ⟨by rw[lp];exact hk,λβ=>?_⟩);have:=(hb _ (eq β) _).1 (c β);rw[lp,oi,put_comm k];exact this
 ·
  obtain⟨f,n,ha⟩:=rS y j;obtain⟨hk,c⟩:=(ha _ (λ_ _=>rfl) _).1 j;obtain⟨p,ob,hb⟩:=rS w (c 0);have o:∀(β:Nat),∀i∈b.looks,((s.jm (s.h.put a.key (n β))).put a.d (f β)).t i=s.t i:=λβ i hi=>l6 λhe=>(h1 i he).1 hi;have eq:∀(β:Nat),∀i∈b.looks,((s.jm (s.h.put a.key (n β))).put a.d (f β)).t i=((s.jm (s.h.put a.key (n 0))).put a.d (f 0)).t i:=λβ i hi=>(o β i hi).trans (o 0 i hi).symm;have F:s.h b.key=none:=by
   have:=((hb _ (eq 0) _).1 (c 0)).1;rw[lp,xS] at this;simp only[Hp.put] at this;rw[aa (λe=>l e.symm)] at this;exact this
  refine(hb s (λi hi=>(o 0 i hi).symm) _).2 ⟨F,λz=>(ha ((s.jm (s.h.put b.key (ob z))).put b.d (p z)) (λi hi=>l6 (s:=s.jm (s.h.put b.key (ob z))) λhe=>h2 i he hi) _).2 ⟨?_,λβ=>?_⟩⟩
  ·rw[lp,xS];simp only[Hp.put];rw[aa l];exact hk
  ·have:=((hb _ (eq β) _).1 (c β)).2 z;rw[lp,xS,oi,wS,put_comm r,zi l] at this;rw[lp,xS,oi,wS];exact this
 ·
  obtain⟨ka,f,n,ha⟩:=zh E j;obtain⟨hk,c⟩:=(ha _ (λ_ _=>rfl) rfl _).1 j;obtain⟨p,hb⟩:=sV x (c none);have o:∀(β:Option Nat),∀i∈b.looks,((s.jm (s.h.put ka (n β))).put a.d (f β)).t i=s.t i:=λβ i hi=>l6 λhe=>(h1 i he).1 hi;have eq:∀(β:Option Nat),∀i∈b.looks,((s.jm (s.h.put ka (n β))).put a.d (f β)).t i=((s.jm (s.h.put ka (n none))).put a.d (f none)).t i:=λβ i hi=>(o β i hi).trans (o none i hi).symm;refine(hb s (λi hi=>(o none i hi).symm) _).2 ((ha _ (λi hi=>l6 λhe=>h2 i he hi) lp _).2 ⟨by rw[lp];exact hk,λβ=>?_⟩);have:=(hb _ (eq β) _).1 (c β);rw[lp,oi,put_comm k];exact this
def nN(T:c8)(al:List AO):List Nat->S->(S->Prop)->Prop
 |[],s,K=>K s
 |i::R,s,K=>match al[i]? with
  |some o=>eH dn T o s λs=>nN T al R s K
  |none=>False
theorem wT{T:c8}{al:List AO}:∀(l pre:List AO),al=pre++l->∀s K,nN T al (List.range' pre.length l.length) s K=sT dn T l s K
 |[],pre,_,s,K=>rfl
 |o::l,pre,he,s,K=>by
  rw[au,eT];simp only[nN];have:al[pre.length]? =some o:=by rw[he];simp
  rw[this];have ih:=wT (T:=T) (al:=al) l (pre++[o]) (by rw[he];simp);simp only[ag,au,aT,bf] at ih;have e:(λs=>nN T al (List.range' (pre.length+1) l.length) s K)=λs=>sT dn T l s K:=funext λs=>ih s K;simp only[e];rfl
theorem wU{T:c8}{al:List AO}:∀(l pre rest:List AO),al=pre++(l++rest)->∀s K,nN T al (List.range' pre.length l.length) s K=sT dn T l s K
 |[],pre,rest,_,s,K=>rfl
 |o::l,pre,rest,he,s,K=>by
  rw[au,eT];simp only[nN];have:al[pre.length]? =some o:=by rw[he];simp
  rw[this];have ih:=wU (T:=T) (al:=al) l (pre++[o]) rest (by rw[he];simp);simp only[ag,au,aT,bf] at ih;have e:(λs=>nN T al (List.range' (pre.length+1) l.length) s K)=λs=>sT dn T l s K:=funext λs=>ih s K;simp only[e];rfl
theorem vh{al:List AO}{i:Nat}{c:AO}(hi:al[i]? =some c):∀(a b:List Nat)(s:S)(K:S->Prop),(∀j∈a,∃d,al[j]? =some d/\pz d c=true)->nN (fX P) al (a++i::b) s K->
  eH dn (fX P) c s λs=>nN (fX P) al (a++b) s K
 |[],b,s,K,_,h=>by
  simp only[cE,nN,hi] at h;exact h
 |j::a,b,s,K,e,h=>by
  obtain⟨d,hj,hp⟩:=e j (by simp);simp only[aK,nN,hj] at h;have h':=Fb (λs1 hs1=>vh hi a b s1 K (λk hk=>e k (by simp[hk])) hs1) h;have:=swap hp h';simpa only[aK,nN,hj] using this
def er(ops:Array Oper)(al:List AO):Bool:=
 let t:=px ops ops.size
 (List.range ops.size).all λi=>(gl ops i).all (λj=>decide (j<i))&&
  (List.range i).all λj=>((t.getD i []).contains j)||(match al[j]?,al[i]? with
   |some a,some b=>pz a b
   |_,_=>false)
theorem om{P:Program}{n:Nat}{ops:Array Oper}:∀{l:List Oper}{al:List AO},qN P n ops l=some al->l.length=al.length/\∀(i:Nat)(o:Oper),l[i]? =some o->∃a,al[i]? =some a/\Tp P n ops o=some a
 |[],al,h=>by simp[qN] at h;subst h;simp
 |o::l,al,h=>by
  simp only[qN] at h
  split at h
  ·rename_i a m ha hm;cases h;obtain⟨h1,h2⟩:=om hm;refine⟨by simp[h1],λi o' ho=>?_⟩;cases i with
   |zero=>simp at ho;subst ho;exact⟨a,rfl,ha⟩
   |succ i=>exact h2 i o' (by simpa using ho)
  ·cases h
theorem Fc{C:Ctx}{n:Nat}{ops:Array Oper}{al:List AO}{Q:Exit->Act->World->Prop}(hC:C.Ok)(G:qN P n ops ops.toList=some al)(Z:er ops al=true){K:S->Prop}(hQ:∀s' E w',Sat C n s' E w'->K s'->Q .normal E w'):
  ∀(R:List Nat)(c:Array Bool)(s:S)(a:Act)(w:World),c.size=ops.size->(∀i,i∈R↔i<ops.size/\c.getD i true=false)->R.Pairwise (·< ·)->(∀i,i<ops.size->c.getD i false=true->∀j∈gl ops i,c.getD j false=true)->
   Sat C n s a w->nN (fX P) al R s K->wpAny P .any ops Q R.length c a w:=by
 have g:∀(c:Array Bool),(∀i,i<ops.size->c.getD i false=true->∀j∈gl ops i,c.getD j false=true)->∀j i,L1 ops j i->(∀k∈gl ops i,c.getD k false=true)->c.getD j false=true:=by
  intro c p j i ha
  induction ha with
  |base h=>exact λhp=>hp _ h
  | @step k i h h' ih=>
   intro hp;have hk:=hp k h;have H:k<ops.size:=by
    rcases en k ops.size with h1|h1
    ·exact h1
    ·exfalso
     have:gl ops k=[]:=by unfold gl;rw[cQ h1]
     cases h' with
     |base h2=>rw[this] at h2;cases h2
     |step h2 _=>rw[this] at h2;cases h2
   exact ih (p k H hk)
 have qX:∀i,i<ops.size->(∀j∈gl ops i,j<i)/\∀j,j<i->L1 ops j i\/∃a b,al[j]? =some a/\al[i]? =some b/\pz a b=true:=by
  intro i hi;unfold er at Z;have h1:=aQ.1 Z i (cw.2 hi);simp only[aW] at h1;refine⟨λj hj=>by simpa using aQ.1 h1.1 j hj,λj hj=>?_⟩;have h2:=aQ.1 h1.2 j (cw.2 hj);simp only[bG] at h2
  rcases h2 with h2|h2
  ·exact .inl (oS ops ops.size i j (by simpa using h2))
  ·right
   cases ha:al[j]? with
   |none=>rw[ha] at h2;simp at h2
   |some x=>
    cases hb:al[i]? with
    |none=>rw[ha,hb] at h2;simp at h2
    |some y=>rw[ha,hb] at h2;exact⟨x,y,rfl,rfl,h2⟩
 have t:∀(c:Array Bool)(i:Nat),c.size=ops.size->i<ops.size->(c.getD i true=false↔¬c.getD i false=true):=by
  intro c i hs hi;have:i<c.size:=by omega
  simp[this]
 intro R
 generalize hk:R.length=k
 induction k generalizing R with
 |zero=>
  intro c s a w hsz f _ _ hs hK;have hR:R=[]:=ay hk;subst hR;refine⟨cL.2 λj hj=>?_,hQ s a w hs hK⟩;obtain⟨h1,o,ho,_⟩:=mem_ready.1 hj;have:=(f j).2 ⟨(aG.1 ho).1,h1⟩;cases this
 |succ k ih=>
  intro c s a w hsz f m p hs hK;refine⟨λhr=>?_,λi hi=>?_⟩
  ·exfalso
   cases R with
   |nil=>cases hk
   |cons i0 R=>
    obtain⟨v,I⟩:=(f i0).1 (by simp);have:i0∈Region.ready .any ops c:=by
     refine mem_ready.2 ⟨I,ops[i0],aU v,λe he hb=>?_⟩;have hp:e.on∈gl ops i0:=by
      unfold gl;rw[aU v];exact aC.2 ⟨e,cg.2 ⟨by simpa using he,hb⟩,rfl⟩
     have hlt:=(qX i0 v).1 _ hp
     by_cases hl:c.getD e.on false=true
     ·exact hl
     ·exfalso
      have pd:=(f e.on).2 ⟨qW,(t c e.on hsz qW).2 hl⟩
      rcases aw.1 pd with h|h
      ·omega
      ·have:=(cy.1 m).1 _ h;omega
    rw[hr] at this;cases this
  ·obtain⟨hl,o,ho,gf⟩:=mem_ready.1 hi;have rK:i<ops.size:=(aG.1 ho).1;have J:i∈R:=(f i).2 ⟨rK,hl⟩;obtain⟨F,L,rfl⟩:=ew J;have u:∀k∈gl ops i,c.getD k false=true:=by
    intro k z;unfold gl at z;rw[ho] at z;obtain⟨e,he,rfl⟩:=aC.1 z;obtain⟨M,N⟩:=cg.1 he;exact gf e (by simpa using M) N
   obtain⟨_,A⟩:=om G;obtain⟨ai,B,ld⟩:=A i o (by simpa using ho);have d:=cZ.1 m;have O:∀j∈F,∃oj,al[j]? =some oj/\pz oj ai=true:=by
    intro j hj;have T:j<i:=d.2.2 j hj i (by simp);obtain⟨U,V⟩:=(f j).1 (by simp[hj])
    rcases(qX i rK).2 j T with h|⟨x,y,hx,hy,W⟩
    ·exact absurd (g c p j i h u) ((t c j hsz U).1 V)
    ·rw[B] at hy;cases hy;exact⟨x,hx,W⟩
   have r:=vh B F L s K O hK;have X:i∉F++L:=by
    intro h
    rcases bn.1 h with h|h
    ·have:=d.2.2 i h i (by simp);omega
    ·have:=(cy.1 d.2.1).1 i h;omega
   unfold wpOp;rw[ho];refine m9 yU hC ld hs r λs' E w' hs' Y=>ih (F++L) ?_ (c.setIfInBounds i true) s' E w' (by simp[hsz]) (λj=>?_) ?_ (λj hj D q hq=>?_) hs' Y
   ·simp at hk⊢;omega
   ·by_cases l:i=j
    ·subst l;have h1:(c.setIfInBounds i true).getD i true=true:=by
      have:i<c.size:=by omega
      simp[this]
     rw[h1];exact⟨λh=>absurd h X,λh=>by simp at h⟩
    ·rw[getD_set_ne true l,<-f j];simp only[bn,aw]
     constructor
     ·rintro(h|h)
      ·exact .inl h
      ·exact .inr (.inr h)
     ·rintro(h|h|h)
      ·exact .inl h
      ·exact absurd h.symm l
      ·exact .inr h
   ·refine cZ.2 ⟨d.1,(cy.1 d.2.1).2,λx hx y hy=>d.2.2 x hx y (by simp[hy])⟩
   ·by_cases l:i=j
    ·subst l;exact getD_set_true (u q hq)
    ·rw[getD_set_ne false l] at D;exact getD_set_true (p j hj D q hq)
theorem BT{C:Ctx}{n:Nat}{ops:Array Oper}{al:List AO}{ol:AO}{m:Nat}{Q:Exit->Act->World->Prop}(hC:C.Ok)(O:qN P n ops ops.toList=some al)(hD:er ops al=true)(hm:ops.size=m+1)(Di:al[m]? =some ol)(E:∀j,j<m->L1 ops j m){K:S->Prop}(hQ:∀s' N w',Sat C n s' N w'->K s'->Q .normal N w'):
  ∀(R:List Nat)(c:Array Bool)(s:S)(a:Act)(w:World),c.size=ops.size->(∀i,i∈R↔i<m/\c.getD i true=false)->c.getD m true=false->R.Pairwise (·< ·)->(∀i,i<ops.size->c.getD i false=true->∀j∈gl ops i,c.getD j false=true)->
   Sat C n s a w->nN (fX P) al R s (λs'=>eH dn (fm P) ol s' K)->wpAny P .any ops Q (R.length+1) c a w:=by
 have f:∀(c:Array Bool),(∀i,i<ops.size->c.getD i false=true->∀j∈gl ops i,c.getD j false=true)->∀j i,L1 ops j i->(∀k∈gl ops i,c.getD k false=true)->c.getD j false=true:=by
  intro c u j i ha
  induction ha with
  |base h=>exact λhp=>hp _ h
  | @step k i h h' ih=>
   intro hp;have hk:=hp k h;have X:k<ops.size:=by
    rcases en k ops.size with h1|h1
    ·exact h1
    ·exfalso
     have:gl ops k=[]:=by unfold gl;rw[cQ h1]
     cases h' with
     |base h2=>rw[this] at h2;cases h2
     |step h2 _=>rw[this] at h2;cases h2
   exact ih (u k X hk)
 have qX:∀i,i<ops.size->(∀j∈gl ops i,j<i)/\∀j,j<i->L1 ops j i\/∃a b,al[j]? =some a/\al[i]? =some b/\pz a b=true:=by
  intro i hi;unfold er at hD;have h1:=aQ.1 hD i (cw.2 hi);simp only[aW] at h1;refine⟨λj hj=>by simpa using aQ.1 h1.1 j hj,λj hj=>?_⟩;have h2:=aQ.1 h1.2 j (cw.2 hj);simp only[bG] at h2
  rcases h2 with h2|h2
  ·exact .inl (oS ops ops.size i j (by simpa using h2))
  ·right
   cases ha:al[j]? with
   |none=>rw[ha] at h2;simp at h2
   |some x=>
    cases hb:al[i]? with
    |none=>rw[ha,hb] at h2;simp at h2
    |some y=>rw[ha,hb] at h2;exact⟨x,y,rfl,rfl,h2⟩
 have l:∀(c:Array Bool)(i:Nat),c.size=ops.size->i<ops.size->(c.getD i true=false↔¬c.getD i false=true):=by
  intro c i hs hi;have:i<c.size:=by omega
  simp[this]
 have F:∀(c:Array Bool)(i:Nat)(o:Oper),ops[i]? =some o->(∀e,e∈o.after->Region.binds .any e=true->c.getD e.on false=true)->∀k∈gl ops i,c.getD k false=true:=by
  intro c i o ho gf k r;unfold gl at r;rw[ho] at r;obtain⟨e,he,rfl⟩:=aC.1 r;obtain⟨G,H⟩:=cg.1 he;exact gf e (by simpa using G) H
 intro R
 generalize hk:R.length=k
 induction k generalizing R with
 |zero=>
  intro c s a w hsz g I _ u hs hK;have hR:R=[]:=ay hk;subst hR;have t:∀j,j<m->c.getD j false=true:=by
   intro j hj;cases hb:c.getD j false with
   |true=>rfl
   |false=>
    have:=(g j).2 ⟨hj,(l c j hsz qW).2 (by rw[hb];simp)⟩;cases this
  refine⟨λhr=>?_,λi hi=>?_⟩
  ·exfalso
   have:m∈Region.ready .any ops c:=by
    refine mem_ready.2 ⟨I,ops[m],aU qW,λe he hb=>t _ ?_⟩;have hp:e.on∈gl ops m:=by
     unfold gl;rw[aU qW];exact aC.2 ⟨e,cg.2 ⟨by simpa using he,hb⟩,rfl⟩
    exact(qX m qW).1 _ hp
   rw[hr] at this;cases this
  ·obtain⟨hl,o,ho,gf⟩:=mem_ready.1 hi;have rK:i<ops.size:=(aG.1 ho).1;have J:i=m:=by
    rcases en i m with h|h
    ·exfalso;exact(l c i hsz rK).1 hl (t i h)
    ·omega
   subst J;obtain⟨_,v⟩:=om O;obtain⟨ai,z,ld⟩:=v i o (by simpa using ho);rw[Di] at z;cases z;unfold wpOp;rw[ho];refine m9 u3 hC ld hs hK λs' N w' hs' L=>⟨?_,hQ s' N w' hs' L⟩;refine cL.2 λj hj=>?_;obtain⟨h1,o',Y,_⟩:=mem_ready.1 hj;have T:j<ops.size:=(aG.1 Y).1
   by_cases p:i=j
   ·subst p;have:i<c.size:=by omega
    simp[this] at h1
   ·rw[getD_set_ne true p] at h1;exact(l c j hsz T).1 h1 (t j qW)
 |succ k ih=>
  intro c s a w hsz g I A u hs hK;refine⟨λhr=>?_,λi hi=>?_⟩
  ·exfalso
   cases R with
   |nil=>cases hk
   |cons i0 R=>
    obtain⟨U,M⟩:=(g i0).1 (by simp);have:i0∈Region.ready .any ops c:=by
     refine mem_ready.2 ⟨M,ops[i0],aU qW,λe he hb=>?_⟩;have hp:e.on∈gl ops i0:=by
      unfold gl;rw[aU qW];exact aC.2 ⟨e,cg.2 ⟨by simpa using he,hb⟩,rfl⟩
     have hlt:=(qX i0 qW).1 _ hp
     by_cases hl:c.getD e.on false=true
     ·exact hl
     ·exfalso
      have pd:=(g e.on).2 ⟨qW,(l c e.on hsz qW).2 hl⟩
      rcases aw.1 pd with h|h
      ·omega
      ·have:=(cy.1 A).1 _ h;omega
    rw[hr] at this;cases this
  ·obtain⟨hl,o,ho,gf⟩:=mem_ready.1 hi;have rK:i<ops.size:=(aG.1 ho).1;have B:∀k∈gl ops i,c.getD k false=true:=by
    intro k r;unfold gl at r;rw[ho] at r;obtain⟨e,he,rfl⟩:=aC.1 r;obtain⟨G,H⟩:=cg.1 he;exact gf e (by simpa using G) H
   have J:i<m:=by
    rcases en i m with h|h
    ·exact h
    ·exfalso
     have:i=m:=by omega
     subst this;cases R with
     |nil=>cases hk
     |cons i0 R=>
      obtain⟨U,M⟩:=(g i0).1 (by simp);exact(l c i0 hsz qW).1 M (f c u i0 i (E i0 U) B)
   have Z:i∈R:=(g i).2 ⟨J,hl⟩;obtain⟨W,R2,rfl⟩:=ew Z;obtain⟨_,v⟩:=om O;obtain⟨ai,z,ld⟩:=v i o (by simpa using ho);have d:=cZ.1 A;have YI:∀j∈W,∃oj,al[j]? =some oj/\pz oj ai=true:=by
    intro j hj;have YJ:j<i:=d.2.2 j hj i (by simp);obtain⟨T,YK⟩:=(g j).1 (by simp[hj])
    rcases(qX i rK).2 j YJ with h|⟨x,y,hx,hy,YL⟩
    ·exact absurd (f c u j i h B) ((l c j hsz qW).1 YK)
    ·rw[z] at hy;cases hy;exact⟨x,hx,YL⟩
   have D:=vh z W R2 s _ YI hK;have YN:i∉W++R2:=by
    intro h
    rcases bn.1 h with h|h
    ·have:=d.2.2 i h i (by simp);omega
    ·have:=(cy.1 d.2.1).1 i h;omega
   unfold wpOp;rw[ho];refine m9 yU hC ld hs D λs' N w' hs' L=>ih (W++R2) ?_ (c.setIfInBounds i true) s' N w' (by simp[hsz]) (λj=>?_) ?_ ?_ (λj hj V q hq=>?_) hs' L
   ·simp at hk⊢;omega
   ·by_cases p:i=j
    ·subst p;have h1:(c.setIfInBounds i true).getD i true=true:=by
      have:i<c.size:=by omega
      simp[this]
     rw[h1];exact⟨λh=>absurd h YN,λh=>by simp at h⟩
    ·rw[getD_set_ne true p,<-g j];simp only[bn,aw]
     constructor
     ·rintro(h|h)
      ·exact .inl h
      ·exact .inr (.inr h)
     ·rintro(h|h|h)
      ·exact .inl h
      ·exact absurd h.symm p
      ·exact .inr h
   ·rw[getD_set_ne true qW];exact I
   ·refine cZ.2 ⟨d.1,(cy.1 d.2.1).2,λx hx y hy=>d.2.2 x hx y (by simp[hy])⟩
   ·by_cases p:i=j
    ·subst p;exact getD_set_true (B q hq)
    ·rw[getD_set_ne false p] at V;exact getD_set_true (u j hj V q hq)
theorem Hh(hm:P.follows .mixedOrders=true):mi P er:=by
 refine⟨hm,?_,?_⟩
 rotate_left
 ·intro C n id ops al s a w K Q g e r hl hs hK t;refine wp_region_any hm ?_;have hs2:Sat C n s a {w with drawn:=w.drawn+1}:=by
   obtain⟨F,c,hr⟩:=hs.ex;have d:Ev (λ_=>False) w {w with drawn:=w.drawn+1}:=Ev.drew _ w
   refine⟨⟨F,⟨λk o hk=>fU.keep g c d (λ_ _ h=>h.elim) (c.ob k o hk) (λ_ _ h=>h.elim),c.inj,c.live,c.gH,c.new,c.lt,Ev.mY c.ev d λ_ _ h=>h.elim⟩,λi=>c.keep g d (λ_ _ h=>h.elim) (hr i)⟩,hs.df,hs.sz⟩
  have hlen:=(om e).1;have p:al.length=ops.size:=by rw[<-hlen];simp
  obtain⟨b,ol,rfl⟩:∃b ol,al=b++[ol]:=by
   cases hq:al.reverse with
   |nil=>
    have:al=[]:=by simpa using hq
    subst this;simp[Df] at hl
   |cons x l=>exact⟨l.reverse,x,by rw[<-List.reverse_reverse al,hq];simp⟩
  have hsz:ops.size=b.length+1:=by rw[<-p];simp
  simp only[List.dropLast_concat,ag,au,aT,bf,Nat.add_sub_cancel] at hK;rw[db] at hK;have q:∀j,j<b.length->L1 ops j b.length:=by
   intro j hj;unfold Df at hl;rw[List.getLast?_concat] at hl;simp only[aW] at hl;have:=aQ.1 hl.2 j (cw.2 qW);rw[hsz] at this;exact oS ops (b.length+1) b.length j (by simpa using this)
  have gf:=wU (T:=fX P) (al:=b++[ol]) b [] [ol] rfl s λs'=>eH dn (fm P) ol s' K;have:=BT (m:=b.length) (ol:=ol) g e r hsz (by simp) q t (List.range' 0 b.length) (Array.replicate ops.size false) s a {w with drawn:=w.drawn+1} (by simp) (λi=>?_) (by rw[hsz];simp) ?_ (λi hi hl=>?_) hs2 (by
   rw[show(0:Nat)=([]:List AO).length from rfl,gf];exact hK)
  ·rw[List.length_range',<-hsz] at this;exact this
  ·simp only[List.mem_range'_1,aP,bf,eU];exact⟨λh=>⟨h,by(have:i<ops.size:=by omega);simp[this]⟩,λh=>h.1⟩
  ·exact eV
  ·simp[hi] at hl
 intro C n id ops al s a w K Q g e r hs hK t;refine wp_region_any hm ?_;have hs2:Sat C n s a {w with drawn:=w.drawn+1}:=by
  obtain⟨F,c,hr⟩:=hs.ex;have d:Ev (λ_=>False) w {w with drawn:=w.drawn+1}:=Ev.drew _ w
  refine⟨⟨F,⟨λk o hk=>fU.keep g c d (λ_ _ h=>h.elim) (c.ob k o hk) (λ_ _ h=>h.elim),c.inj,c.live,c.gH,c.new,c.lt,Ev.mY c.ev d λ_ _ h=>h.elim⟩,λi=>c.keep g d (λ_ _ h=>h.elim) (hr i)⟩,hs.df,hs.sz⟩
 have hlen:=(om e).1;have gf:=wT (T:=fX P) (al:=al) al [] rfl s K;have f:(List.range' 0 al.length).length=ops.size:=by simp[<-hlen]
 have:=Fc g e r t (List.range' 0 al.length) (Array.replicate ops.size false) s a {w with drawn:=w.drawn+1} (by simp) (λi=>?_) ?_ (λi hi hl=>?_) hs2 (by rw[show(0:Nat)=([]:List AO).length from rfl,gf];exact hK)
 ·rw[f] at this;exact this
 ·have he:al.length=ops.size:=by rw[<-hlen];simp
  rw[he];simp only[List.mem_range'_1,aP,bf,eU];exact⟨λh=>⟨h,by simp[h]⟩,λh=>h.1⟩
 ·exact eV
 ·simp[hi] at hl
end
open Go.ChangeShapes Go.WideShapes Go.ChangeAt Go.RowKit
theorem nc(n:Nat):(NatCast.natCast n:Int)=(n:Int):=rfl
theorem qO{p:Prop}(h:p:=by((try simp only[nc] at*);omega)):p:=h
theorem iD:mi Tryz.prog er:=Hh (by kernel_rfl)
def xT(w:World):Nat->Prop:=λb=>b<w.heap.size
structure jz(w:World)(vs:List V)(cs:List Value):Prop where
 len:vs.length=cs.length
 rel:∀(i:Nat)(v:V)(u:Value),vs[i]? =some v->cs[i]? =some u->Rel (xT w) (λ_=>False) w v u/\u.oneCell'=true
theorem jz.nil(w:World):jz w [] []:=⟨rfl,by simp⟩
theorem jz.app{w:World}{a c:List V}{b d:List Value}(h1:jz w a b)(h2:jz w c d):jz w (a++c) (b++d):=by
 refine⟨by simp[h1.len,h2.len],λi v u hv hu=>?_⟩
 by_cases hi:i<a.length
 ·rw[bg hi] at hv;rw[bg (by rw[<-h1.len];exact hi)] at hu;exact h1.rel i v u hv hu
 ·rw[bj qW] at hv;rw[bj (by rw[<-h1.len];omega),<-h1.len] at hu;exact h2.rel _ v u hv hu
theorem jz.one{w:World}{v:V}{u:Value}(h:Rel (xT w) (λ_=>False) w v u)(h1:u.oneCell'=true):jz w [v] [u]:=by
 refine⟨rfl,λi v' a hv hu=>?_⟩;cases i with
 |zero=>simp at hv hu;subst hv hu;exact⟨h,h1⟩
 |succ i=>simp at hv
def jo(T:TypeId)(α:Type)(enc:α->List V)(ok:α->Prop):Prop:=
 ∀(H:Type)(e:TypeId×Value->H)(w:World)(base:Nat)(spare:Nat->Bool)(held:Bool)(fuel:Nat)(cs:List Value)(x:DataW H×List MemPlace),
  DataW.trod e Tryz.prog w base spare held fuel T cs=some x->∃a:α,ok a/\jz w (enc a) cs
theorem Fe{T:TypeId}(a:Tryz.prog.underlying T=some (.int .i64)):jo T Int (λn=>[.int .i64 n]) jx:=by
 intro H e w base spare held fuel cs x h;obtain⟨n,rfl,_,hn⟩:=DataW.trod_int a h;refine⟨n,?_,jz.one (.int _ _) rfl⟩;have h1:IntKind.i64.min= -9223372036854775808:=rfl;have h2:IntKind.i64.max=9223372036854775807:=rfl;simp only[Lit.wf,aW,bc] at hn;unfold jx;omega
theorem Ff{T:TypeId}(a:Tryz.prog.underlying T=some .string):jo T BS (λs=>[.str s]) (λs=>s.length<=maxLen):=by
 intro H e w base spare held fuel cs x h;obtain⟨s,rfl,_,hs⟩:=DataW.trod_string a h;exact⟨s.data.toList,by show s.data.toList.length<=maxLen;rw[bL];exact hs,jz.one (.str _) rfl⟩
theorem Dj{α:Type}{Q:Nat->α->Prop}:∀n:Nat,(∀i,i<n->∃a,Q i a)->∃l:List α,l.length=n/\∀(i:Nat)(a:α),l[i]? =some a->Q i a
 |0,_=>⟨[],rfl,by simp⟩
 |n+1,h=>by
  obtain⟨l,hl,hq⟩:=Dj n λi hi=>h i qW;obtain⟨a,ha⟩:=h n qW;refine⟨l++[a],by simp[hl],λi b hb=>?_⟩
  by_cases hi:i<l.length
  ·rw[bg hi] at hb;exact hq i b hb
  ·rw[bj qW] at hb;cases hk:i-l.length with
   |zero=>rw[hk] at hb;simp at hb;subst hb;rw[show i=n by omega];exact ha
   |succ k=>rw[hk] at hb;simp at hb
theorem nO{T E:TypeId}{α:Type}{enc:α->List V}{ok:α->Prop}{sz:Nat}(t:Tryz.prog.underlying T=some (.slice E))(y:jo E α enc ok)(hsz:Tryz.prog.cellsOf E=sz)(f:∀a,(enc a).length=sz)(g:0<sz):
  jo T (List α) (λl=>[.sl false sz (l.map enc)]) (λl=>l.length<=maxLen/\∀a∈l,ok a):=by
 intro H e w base spare held fuel cs x h
 rcases DataW.trod_slice t h with⟨rfl,_⟩|⟨a,len,cap,elems,rest,n,_,rfl,_,_,z,A,B,k,_⟩
 ·exact⟨[],by simp,jz.one (.slnil _ _) rfl⟩
 ·rw[hsz] at k;have hi:∀i,i<len->∃b:α,ok b/\∃pb,w.cells? base (a.add (i*sz)) sz=some pb/\jz w (enc b) pb:=by
   intro i hi;have h1:=k i hi;have h2:elems[i]? =some (elems[i]'qW):=af qW;rw[h2] at h1;obtain⟨pb,hc,ht⟩:=bS.1 h1;obtain⟨b,hb,c⟩:=y _ _ _ _ _ _ _ _ _ ht;exact⟨b,hb,pb,hc,c⟩
  obtain⟨l,hl,hq⟩:=Dj len hi;refine⟨l,⟨qW,λb hb=>?_⟩,jz.one ?_ rfl⟩
  ·obtain⟨i,hi'⟩:=dW hb;exact(hq i b hi').1
  ·by_cases h0:len=0
   ·have:l=[]:=ay qW;subst this;subst h0;exact .slemp _ _ _ _
   ·have cell:∀(i j:Nat)(b:α)(v:V),l[i]? =some b->(enc b)[j]? =some v->∃u,w.cell? (a.add (i*sz+j))=some u/\Rel (xT w) (λ_=>False) w v u/\u.oneCell'=true:=by
     intro i j b v hb hv;obtain⟨_,pb,hc,c⟩:=hq i b hb;obtain⟨_,C,hat⟩:=World.cells?_some hc;have hj:j<sz:=by have:=(aj.1 hv).1;rw[f] at this;exact this
     have h1:=hat j hj;have h2:pb[j]? =some (pb[j]'qW):=af qW;rw[h2] at h1;have o:(a.add (i*sz)).add j=a.add (i*sz+j):=by
      unfold Addr.add
      by_cases D:i*sz=0<;>by_cases z2:j=0<;>simp[D,z2,cW]
     rw[o] at h1;exact⟨_,h1,c.rel j v _ hv h2⟩
    have s:0<l.length:=by omega
    obtain⟨u0,d,_⟩:=cell 0 0 l[0] ((enc l[0])[0]'(by rw[f];exact g)) (af s) (af (by rw[f];exact g));have p:a.spot=none:=by
     have m:a.add (0*sz+0)=a:=by simp[Addr.add]
     rw[m] at d;unfold World.cell? at d
     split at d
     ·split at d
      ·cases d
      ·rename_i hs;simpa using hs
     ·cases d
    obtain⟨q,ao,F⟩:=a;simp only at p;subst p;have hb:q<w.heap.size:=by
     have m:(⟨q,ao,none⟩:Addr).add (0*sz+0)=⟨q,ao,none⟩:=by simp[Addr.add]
     rw[m] at d;exact World.block_lt_of_cell? w _ d
    rw[show len=(l.map enc).length by simp[hl]];refine .sl false sz (l.map enc) q ao cap (λi j=>(w.cell? ⟨q,ao+(i*sz+j),none⟩).getD undef) (.inl hb) (by simp[hl];omega) (λr hr=>?_) (λi j r v hi hj=>?_) (λi j r v hi hj=>?_)
    ·simp only[aC] at hr;obtain⟨b,_,rfl⟩:=hr;exact f b
    ·simp only[av,ak] at hi;obtain⟨b,hb',rfl⟩:=hi;obtain⟨u,hu,_,h1⟩:=cell i j b v hb' hj;rw[kL] at hu;rw[hu];exact⟨rfl,h1⟩
    ·simp only[av,ak] at hi;obtain⟨b,hb',rfl⟩:=hi;obtain⟨u,hu,hr,_⟩:=cell i j b v hb' hj;rw[kL] at hu;rw[hu];exact hr
theorem Fg{f:Nat}{args:List V}{us:Array Value}{W:World}(hs:Spec Tryz.prog f args Hp.emp (Is (.bool true)))(hl:us.size=args.length)
  (hr:∀(i:Nat)(v:V)(u:Value),args[i]? =some v->us[i]? =some u->Rel (xT W) (λ_=>False) W v u):
  Calls Tryz.prog f us W λe w'=>e=.returned (.bool true)/\Below W.heap.size W w':=by
 let C:Ctx:=⟨W,xT W,λ_=>False,λ_=>False⟩
 have c:C.Ok:=⟨λb hb=>⟨hb,λh=>h⟩,λb hb=>hb.elim,λb hb=>hb.elim⟩;refine(hs.run C us c hl hr ⟨λk o hk=>by simp[Hp.emp] at hk,λk k' o o' b hk=>by simp[Hp.emp] at hk,λk o b hk=>by simp[Hp.emp] at hk,λb hb=>.inl hb,λb hb=>hb,λb hb=>hb,Ev.refl _ _⟩).mono ?_;rintro e w' ⟨u,v,h',F',rfl,hv,hs2,rfl,rfl⟩;cases hv;have a:Ev (λ_=>False) W w':=hs2.ev;exact⟨rfl,a.os,a.tape,a.output,a.size,λk hk=>a.same k hk (λh=>h)⟩
set_option maxRecDepth 100000
set_option maxHeartbeats 2000000
def uo(fs:List Field)(off b:Nat)(α:Type)(enc:α->List V)(ok:α->Prop):Prop:=
 ∀(H:Type)(e:TypeId×Value->H)(w:World)(base:Nat)(spare:Nat->Bool)(held:Bool)(n:Nat)(cs:List Value),
  (∀(i:Nat)(f:Field),fs[i]? =some f->∃y:DataW H×List MemPlace,DataW.trod e Tryz.prog w base spare held n f.type ((cs.drop f.offset).take (Tryz.prog.cellsOf f.type))=some y)->
  ∃a:α,ok a/\jz w (enc a) ((cs.drop off).take b)
theorem Fh(off:Nat):uo [] off 0 Unit (λ_=>[]) (λ_=>True):=λH e w base spare held n cs _=>⟨(),trivial,by simpa using jz.nil w⟩
theorem ry{f:Field}{fs:List Field}{off k c:Nat}{α β:Type}{e1:α->List V}{l:β->List V}{d:α->Prop}{j:β->Prop}(h1:jo f.type α e1 d)(ho:f.offset=off)(hk:Tryz.prog.cellsOf f.type=k)
  (h2:uo fs (off+k) c β l j):uo (f::fs) off (k+c) (α×β) (λp=>e1 p.1++l p.2) (λp=>d p.1/\j p.2):=by
 intro H e w base spare held n cs h;obtain⟨y,hy⟩:=h 0 f rfl;obtain⟨a,ha,hc⟩:=h1 _ _ _ _ _ _ _ _ _ hy;obtain⟨b,hb,hd⟩:=h2 H e w base spare held n cs λi g hg=>h (i+1) g (by simpa using hg);refine⟨(a,b),⟨ha,hb⟩,?_⟩;rw[dU,b7];rw[ho,hk] at hc;exact hc.app hd
theorem xU{T:TypeId}{fs:Array Field}{b:Nat}{α:Type}{enc:α->List V}{ok:α->Prop}(c:Tryz.prog.underlying T=some (.struct fs))(hf:uo fs.toList 0 b α enc ok)(hk:Tryz.prog.cellsOf T=b):jo T α enc ok:=by
 intro H e w base spare held fuel cs x h;obtain⟨xs,n,_,hx,hl,hlen,hg⟩:=DataW.trod_struct c h;obtain⟨a,ha,hc⟩:=hf H e w base spare held n cs λi f hi=>by
  have hi':fs[i]? =some f:=by simpa using hi
  have hlt:i<xs.length:=by rw[hlen];exact(aG.1 hi').1
  exact⟨xs[i],by rw[hg i f hi',af hlt]⟩
 refine⟨a,ha,?_⟩;rw[fh,aY qW] at hc;exact hc
theorem Fi{T:TypeId}{α β:Type}{e1:α->List V}{b:α->Prop}{d:β->List V}{c:β->Prop}(h:jo T α e1 b)(g:α->β)(he:∀a,d (g a)=e1 a)(ho:∀a,b a->c (g a)):jo T β d c:=by
 intro H e w base spare held fuel cs x f;obtain⟨a,ha,hc⟩:=h _ _ _ _ _ _ _ _ _ f;exact⟨g a,ho a ha,by rw[he];exact hc⟩
section
variable {H:Type} {enc:TypeId×Value->H} {w:World} {base:Nat} {spare:Nat->Bool} {held:Bool}
theorem zj{T:TypeId}{α:Type}{f:α->V}{ok:α->Prop}{v:Value}{d:DataW H}{p:List MemPlace}(hr:jo T α (λa=>[f a]) ok)(hv:v.oneCell'=true)(h:DataW.Trod enc Tryz.prog w base spare held T v d p):
  ∃a:α,ok a/\Rel (xT w) (λ_=>False) w (f a) v:=by
 obtain⟨fuel,h⟩:=h;obtain⟨a,ha,hc⟩:=hr _ _ _ _ _ _ _ _ _ h;refine⟨a,ha,(hc.rel 0 (f a) v rfl ?_).1⟩;cases v<;>first|rfl|cases hv
end
theorem wV{T E:TypeId}{w:World}{r:Reach}{base:Nat}{v:Value}(a:Tryz.prog.underlying T=some (.slice E))(h:Value.okWide Tryz.prog w r base T v):v.oneCell'=true:=by
 simp only[Value.okWide,a] at h;cases v<;>first|rfl|(unfold Cell.okWide at h;simp only[a] at h;unfold Cell.ok at h;simp[a] at h)
structure Part where
 kind:Int
 n:Int
 text:BS
def bd(p:Part):List V:=[.int .i64 p.kind,.int .i64 p.n,.str p.text]
def Part.Ok(p:Part):Prop:=jx p.kind/\jx p.n/\p.text.length<=maxLen
def nF(p:Part):Int:=
 if p.kind=1\/p.kind=3 then(if p.n<1\/p.text≠[] then 3 else if p.n>500\/(p.text.length:Int)>500 then 2 else 0)
 else if p.kind=2 then(if p.n≠0\/p.text=[] then 3 else if p.n>500\/(p.text.length:Int)>500 then 2 else 0)
 else 3
def Hi:AC:=qr [qo 1 (.box 115 3 (.t 0)),qz 2 0] (qq (qr [qf 3 0 1,ql 4 3] (.block 0 (qq (qr [qc 6 .eql 4 1,qm 5 6] (qu 5 .skip (qR [qc 7 .eql 4 3,qm 5 7]))) (qu 5 (qr [qf 8 1 1,ql 9 8,qc 10 .lss 9 1,qm 11 10,qg 12 11 false (.faddr 2 (.t 1)),qg 13 11 false (.load1 (.t 12)),qg 14 11 false (.bin .neq (.t 13) (.c qe)),qo 15 (.pick (.t 11) (.c (.bool true)) (.t 14))] (qu 15 (qr [qz 2 3] .ret) .skip)) (qr [qc 17 .eql 4 2,qm 16 17] (qu 16 (qr [qf 18 1 1,ql 19 18,qc 20 .neq 19 0,qm 21 20,qg 22 21 false (.faddr 2 (.t 1)),qg 23 21 false (.load1 (.t 22)),qg 24 21 false (.bin .eql (.t 23) (.c qe)),qo 25 (.pick (.t 21) (.c (.bool true)) (.t 24))] (qu 25 (qr [qz 2 3] .ret) .skip)) (qr [qz 2 3] .ret))))))) (qq (qr [qf 26 1 1,ql 27 26,qc 28 .gtr 27 500,qm 29 28,qg 30 29 false (.faddr 2 (.t 1)),qg 31 29 false (.load1 (.t 30)),qg 32 29 false (.len true (.t 31)),qg 33 29 false (.bin .gtr (.t 32) (qk 500)),qo 34 (.pick (.t 29) (.c (.bool true)) (.t 33))] (qu 34 (qr [qz 2 2] .ret) .skip)) (qr [qz 2 0] .ret)))
theorem Qm:fF Tryz.prog 143 Tryz.f143 Hi [.t 2] 1 er:=⟨Tryz.func143,by decide+kernel,by kernel_rfl,by kernel_rfl,by decide+kernel⟩
theorem Qn(P:Prim)(hP:P=dn)(T b:c8)(k n:Int)(t:BS)(r:Int)(hr:nF ⟨k,n,t⟩=r)(R:S->Prop)(a:∀s s',c6 s s'->iH [.t 2] [qI r] s'->R s):
  gj P T b Hi (S0 [.agg [qI k,qI n,.str t]] Hp.emp) R (λ_ _=>False) R:=by
 cbv
 repeat'(first|(intro β;cbv)|(refine And.intro (by assumption) ?_;cbv)|(refine ab (λh=>?_) (λh=>?_)<;>try cbv))
 all_goals
  refine a _ _ (c6.refl _) ?_;cbv
 all_goals
  subst hP;subst hr;simp[dn] at*;clear a
  grind [nF]
theorem Qo(p:Part):Spec Tryz.prog 143 [.agg (bd p)] Hp.emp (Is (.int .i64 (nF p))):=
 ep iD Qm [.int .i64 (nF p)] (.int _ _) λR a=>Qn dn rfl _ _ p.kind p.n p.text _ rfl R a
def zk:AC:=qr [qo 1 (.box 115 3 (.t 0)),qz 2 0] (qr [qf 4 0 1,ql 5 4,qc 6 .eql 5 2,qm 7 6,qg 8 7 true (.faddr 1 (.t 1)),qg 9 7 true (.load1 (.t 8)),qg 10 7 true (.bin .eql (.t 9) (qk 0)),qo 11 (.pick (.t 7) (.t 10) (.c (.bool false))),qm 12 11,qg 13 12 true (.faddr 2 (.t 1)),qg 14 12 true (.load1 (.t 13)),qg 15 12 true (.bin .neq (.t 14) (.c qe)),qo 16 (.pick (.t 12) (.t 15) (.c (.bool false))),qm 17 16,qg 18 17 false (.faddr 0 (.t 1)),qg 19 17 false (.load1 (.t 18)),qg 20 17 false (.bin .eql (.t 19) (qk 1)),qg 21 17 false (.mov (.t 20)),qg 22 21 false (.faddr 0 (.t 1)),qg 23 21 false (.load1 (.t 22)),qg 24 21 false (.bin .eql (.t 23) (qk 3)),qg 25 17 false (.pick (.t 21) (.c (.bool true)) (.t 24)),qg 26 17 false (.mov (.t 25)),qg 27 26 true (.faddr 1 (.t 1)),qg 28 26 true (.load1 (.t 27)),qg 29 26 true (.bin .gtr (.t 28) (qk 0)),qg 30 17 false (.pick (.t 26) (.t 29) (.c (.bool false))),qg 31 17 false (.mov (.t 30)),qg 32 31 true (.faddr 2 (.t 1)),qg 33 31 true (.load1 (.t 32)),qg 34 31 true (.bin .eql (.t 33) (.c qe)),qg 35 17 false (.pick (.t 31) (.t 34) (.c (.bool false))),qo 36 (.pick (.t 17) (.c (.bool true)) (.t 35)),qm 3 36] (qq (qr [qm 37 3,qo 38 (.not (.t 37))] (qu 38 (qr [qz 2 3] .ret) .skip)) (qq (qr [qf 39 1 1,ql 40 39,qc 41 .gtr 40 500,qm 42 41,qg 43 42 false (.faddr 2 (.t 1)),qg 44 42 false (.load1 (.t 43)),qg 45 42 false (.len true (.t 44)),qg 46 42 false (.bin .gtr (.t 45) (qk 500)),qo 47 (.pick (.t 42) (.c (.bool true)) (.t 46))] (qu 47 (qr [qz 2 2] .ret) .skip)) (qr [qz 2 0] .ret))))
theorem Hj:fF Tryz.prog 129 Tryz.f129 zk [.t 2] 1 er:=⟨Tryz.func129,by decide+kernel,by kernel_rfl,by kernel_rfl,by decide+kernel⟩
theorem Hk(P:Prim)(hP:P=dn)(T b:c8)(k n:Int)(t:BS)(r:Int)(hr:nF ⟨k,n,t⟩=r)(R:S->Prop)(a:∀s s',c6 s s'->iH [.t 2] [qI r] s'->R s):
  gj P T b zk (S0 [.agg [qI k,qI n,.str t]] Hp.emp) R (λ_ _=>False) R:=by
 cbv
 repeat'(first|(intro β;cbv)|(refine And.intro (by assumption) ?_;cbv)|(refine ab (λh=>?_) (λh=>?_)<;>try cbv))
 all_goals
  refine a _ _ (c6.refl _) ?_;cbv
 all_goals
  subst hP;subst hr;simp[dn] at*;clear a
  grind [nF]
theorem Hl(p:Part):Spec Tryz.prog 129 [.agg (bd p)] Hp.emp (Is (.int .i64 (nF p))):=
 ep iD Hj [.int .i64 (nF p)] (.int _ _) λR a=>Hk dn rfl _ _ p.kind p.n p.text _ rfl R a
theorem Hm:jo 3 Int (λn=>[.int .i64 n]) jx:=Fe Tryz.underlying3
theorem Tq:jo 9 BS (λs=>[.str s]) (λs=>s.length<=maxLen):=Ff Tryz.underlying9
theorem Qp:jo 29 (List Int) (λl=>[.sl false 1 (l.map λn=>[.int .i64 n])]) (λl=>l.length<=maxLen/\∀a∈l,jx a):=nO Tryz.underlying29 Hm (by kernel_rfl) (λ_=>rfl) qD
theorem BU:jo 115 Part bd Part.Ok:=
 Fi (xU Tryz.underlying115 (ry (k:=1) Hm rfl (by kernel_rfl) (ry (k:=1) Hm rfl (by kernel_rfl) (ry (k:=1) Tq rfl (by kernel_rfl) (Fh _)))) (by kernel_rfl))
  (λp=>⟨p.1,p.2.1,p.2.2.1⟩) (λ_=>rfl) (λp h=>⟨h.1,h.2.1,h.2.2.1⟩)
def gh(d:List Part):V:=.sl false 3 (d.map bd)
def fH(d:List Part):Prop:=d.length<=maxLen/\∀p∈d,p.Ok
theorem zl:jo 30 (List Part) (λd=>[gh d]) fH:=nO Tryz.underlying30 BU (by kernel_rfl) (λ_=>rfl) qD
theorem BV:jo 29 (List Int) (λl=>[.sl false 1 (l.map λn=>[.int .i64 n])]) (λl=>l.length<=maxLen/\∀a∈l,jx a):=Qp
structure eP where
 who:Int
 seq:Int
 delta:List Part
def ca(r:eP):List V:=[.int .i64 r.who,.int .i64 r.seq,gh r.delta]
def eP.Ok(r:eP):Prop:=jx r.who/\jx r.seq/\fH r.delta
def lO(l:List eP):Prop:=l.length<=maxLen/\∀r∈l,r.Ok
structure Xq where
 last:Int
 every:Int
 pins:List Int
def Xq.Ok(p:Xq):Prop:=jx p.last/\jx p.every/\p.pins.length<=maxLen/\∀a∈p.pins,jx a
structure Slot where
 data:BS
 safe:Int
def Slot.Ok(s:Slot):Prop:=s.data.length<=maxLen/\jx s.safe
structure Tr where
 a:Slot
 b:Slot
def Tr.Ok(d:Tr):Prop:=d.a.Ok/\d.b.Ok
structure Frame where
 kind:Int
 body:BS
def jD(f:Frame):List V:=[.int .i64 f.kind,.str f.body]
def Frame.Ok(f:Frame):Prop:=jx f.kind/\f.body.length<=maxLen
structure Client where
 who:Int
 rev:Int
 seq:Int
 text:BS
 VS:Bool
 VT:List Part
 waiting:Bool
 held:List Part
def Client.Ok(c:Client):Prop:=jx c.who/\jx c.rev/\jx c.seq/\c.text.length<=maxLen/\fH c.VT/\fH c.held
structure Xr where
 base:Int
 who:Int
 seq:Int
 delta:List Part
def Xr.Ok(m:Xr):Prop:=jx m.base/\jx m.who/\jx m.seq/\fH m.delta
theorem zm:jo 22 (List (List Int)) (λl=>[.sl false 1 (l.map λc=>[.sl false 1 (c.map λn=>[.int .i64 n])])]) (λl=>l.length<=maxLen/\∀c∈l,c.length<=maxLen/\∀a∈c,jx a):=nO Tryz.underlying22 BV (by kernel_rfl) (λ_=>rfl) qD
theorem Fj:jo 23 (List (List Part)) (λr=>[.sl false 1 (r.map λd=>[gh d])]) (λr=>r.length<=maxLen/\∀d∈r,fH d):=nO Tryz.underlying23 zl (by kernel_rfl) (λ_=>rfl) qD
theorem Hn{H:Type}(d:DataW H):1<=Rows.uptoBulk d:=by
 cases d with
 |lit l=>cases l<;>simp[Rows.uptoBulk]
 |_=>simp[Rows.uptoBulk]
theorem zn{H:Type}:∀l:List (DataW H),l.length<=Rows.uptoBulkAll l
 |[]=>aP _
 |x::r=>by
  have h1:=Hn x;have h2:=zn r;simp only[Rows.uptoBulkAll,au];omega
theorem Dk{H:Type}{enc:TypeId×Value->H}{w:World}{base:Nat}{spare:Nat->Bool}{held:Bool}{T E:TypeId}(c:Tryz.prog.underlying T=some (.slice E)){v:Value}{d:DataW H}{p:List MemPlace}(h:DataW.Trod enc Tryz.prog w base spare held T v d p){F B:Nat->Prop}{t:Bool}{sz:Nat}{rows:List (List V)}(hr:Rel F B w (.sl t sz rows) v):rows.length<=Rows.uptoBulk d:=by
 obtain⟨fuel,h⟩:=h
 rcases DataW.trod_slice c h with⟨hc,hx⟩|⟨a,len,cap,elems,rest,n,_,hc,hx,_,_,_,b,_,_,_⟩
 ·cases hr with
  |slnil=>exact aP _
  |slemp=>exact aP _
  |sl=>cases hc
 ·cases hr with
  |slnil=>exact aP _
  |slemp=>exact aP _
  |sl=>
   obtain rfl:d=.slice (elems.map (·.1)) (rest.map (·.1)):=aB Prod.fst hx;have h1:=zn (elems.map (·.1));rw[aF,b] at h1;have h2:len=rows.length:=by cases hc;rfl
   simp only[Rows.uptoBulk];omega
def kU:List Part->Int
 |[]=>0
 |p::l=>(if p.kind=1\/p.kind=3 then p.n else 0)+kU l
def iV:List Part->Int
 |[]=>0
 |p::l=>(if p.kind=1 then p.n else if p.kind=3 then 0 else p.text.length)+iV l
theorem Dl(a b:List Part):kU (a++b)=kU a+kU b:=by induction a with
 |nil=>simp[kU]
 |cons p a ih=>simp only[aK,kU,ih];omega
theorem zo(a b:List Part):iV (a++b)=iV a+iV b:=by induction a with
 |nil=>simp[iV]
 |cons p a ih=>simp only[aK,iV,ih];omega
def rT(p:Part):Prop:=nF p=0
theorem iU{p:Part}(h:rT p):0<=p.n/\p.n<=500/\p.text.length<=500/\((p.kind=2/\p.n=0/\p.text≠[])\/((p.kind=1\/p.kind=3)/\0<p.n/\p.text=[])):=by
 unfold rT nF at h
 grind
theorem xV(l:List Part)(h:∀p∈l,rT p):0<=kU l/\kU l<=500*l.length:=by induction l with
 |nil=>simp[kU]
 |cons p l ih=>
  have h1:=iU (h p (by simp));have h2:=ih λq hq=>h q (by simp[hq]);simp only[kU,au]
  split<;>omega
theorem rU(l:List Part)(h:∀p∈l,rT p):0<=iV l/\iV l<=500*l.length:=by induction l with
 |nil=>simp[iV]
 |cons p l ih=>
  have h1:=iU (h p (by simp));have h2:=ih λq hq=>h q (by simp[hq]);simp only[iV,au]
  split
  ·omega
  ·split<;>omega
def qX:Int->List Part->Int
 |_,[]=>0
 |last,p::l=>if p.kind=last\/last=3/\p.kind=2 then 3 else if nF p≠0 then nF p else qX p.kind l
theorem rz:∀(last:Int)(l:List Part),qX last l=0->∀p∈l,rT p
 |_,[],_=>by simp
 |last,p::l,h=>by
  unfold qX at h
  split at h
  ·omega
  ·split at h
   ·contradiction
   ·rename_i h2;intro q hq
    rcases aw.1 hq with rfl|hq
    ·exact az (p:=nF q=0) h2
    ·exact rz _ l h q hq
def ed(d:List Part):Int:=if 1600<d.length then 2 else if qX 0 d≠0 then qX 0 d else if 500<kU d\/500<iV d then 2 else 0
theorem pA{d:List Part}{rows:List (List V)}{p:Part}{pre rest:List Part}{k:Int}(ds:rows=d.map bd)(hd:d=pre++p::rest)(hk:k=pre.length)(P:Prim)(hP:P=dn):P.row rows (P.nat k) (bd p):=by
 subst hP;simp[dn,ds,hd,hk]
def zp:AC:=qr [qz 2 0,qz 3 0] (qq (qr [qm 6 0,qo 7 (.len false (.t 6)),qz 8 0] (.block 0 (.loop (qr [qb 9 .lss 8 7] (qq (qu 9 .skip (.exit 0)) (qq (.block 1 (qr [qo 10 (.iaddr 3 (.t 6) (.t 8)),qd 11 3 10,qo 5 (.alloc 115 uk),qs 3 5 11] (qr [qf 12 0 5,ql 13 12] (.block 2 (qr [qc 20 .eql 13 1,qm 19 20] (qu 19 (qr [qm 21 2,qf 22 1 5,ql 23 22,qb 24 .add 21 23,qm 2 24] (qR [qm 25 3,qf 26 1 5,ql 27 26,qb 28 .add 25 27,qm 3 28])) (qr [qc 30 .eql 13 3,qm 29 30] (qu 29 (qR [qm 31 2,qf 32 1 5,ql 33 32,qb 34 .add 31 33,qm 2 34]) (qR [qm 14 3,qf 15 2 5,ql 16 15,qo 17 (.len true (.t 16)),qb 18 .add 14 17,qm 3 18]))))))))) (qR [qc 35 .add 8 1,qm 8 35]))))))) (qr [qm 36 2,qm 37 3,qm 2 36,qm 3 37] .ret))
theorem Ho:fF Tryz.prog 120 Tryz.f120 zp [.t 2,.t 3] 1 er:=⟨Tryz.func120,by decide+kernel,by kernel_rfl,by kernel_rfl,by decide+kernel⟩
theorem Hq(P:Prim)(hP:P=dn)(T f:c8)(d:List Part)(g:d.length<=1600)(a:∀p∈d,rT p)(rows:List (List V))(ds:rows=d.map bd)(r1 r2:Int)(hr1:kU d=r1)(e:iV d=r2)
  (R:S->Prop)(b:∀s s',c6 s s'->iH [.t 2,.t 3] [qI r1,qI r2] s'->R s):gj P T f zp (S0 [.sl true 3 rows] Hp.emp) R (λ_ _=>False) R:=by
 cbv;refine⟨{y:Int×Int×Int×List Part×List Part//d=y.2.2.2.1++y.2.2.2.2/\y.2.2.1=y.2.2.2.1.length/\y.1=kU y.2.2.2.1/\y.2.1=iV y.2.2.2.1},λy=>[(2,qI y.1.1),(3,qI y.1.2.1),(6,.sl true 3 rows),(7,qI (P.dv rows)),(8,qI y.1.2.2.1)],λ_=>[],λy=>y.1.2.2.2.2.length,
  ⟨_,c6.refl _,⟨(0,0,0,[],d),rfl,rfl,rfl,rfl⟩,?_,?_⟩,?_⟩
 ·cbv
 ·cbv
 rintro⟨⟨i,o,k,pre,rest⟩,hd,hk,hi,ho⟩
 dsimp only at hd hk hi ho
 cbv;have hl:P.dv rows=pre.length+rest.length:=by subst hP;simp[dn,ds,hd]
 have j:d.length=pre.length+rest.length:=by rw[hd];simp
 refine ab (λh=>?_) (λh=>?_)
 ·rcases rest with _|⟨⟨kd,n,t⟩,rest⟩
  ·(exfalso;clear b;subst hP;simp[dn,nc] at*;first|omega|grind)
  cbv;have c:=pA ds hd hk P hP;have hp:=iU (a ⟨kd,n,t⟩ (by simp[hd]));have hb1:=xV pre (λp hp=>a p (by simp[hd,hp]));have hb2:=rU pre (λp hp=>a p (by simp[hd,hp]))
  repeat'(first|(intro β;cbv)|(refine And.intro (by assumption) ?_;cbv)|(refine ab (λh=>?_) (λh=>?_)<;>try cbv)|(refine Exists.intro _ (And.intro (by assumption) ?_);cbv)|(refine hc1 _ _ ?_;cbv)|(refine l _ _ ?_;cbv)|(refine m _ _ ?_;cbv)|(refine q _ _ ?_;cbv)|(refine r _ _ ?_;cbv)|(refine u _ _ ?_;cbv)|(refine And.intro (by(clear b;subst hP;simp[dn,jx,nc] at* <;>first|omega|grind)) ?_;cbv))
  all_goals
   refine⟨_,c6.refl _,⟨(_,_,_,pre++[⟨kd,n,t⟩],rest),?_⟩,⟨rfl,rfl,rfl,rfl,rfl,trivial⟩,trivial,by simp⟩;clear b c;subst hP;simp[dn,nc,Dl,zo,kU,iV] at*
   grind
 ·cbv;refine b _ _ (c6.refl _) ?_;have:rest=[]:=by
   cases rest with
   |nil=>rfl
   |cons p rest=>(exfalso;clear b;subst hP;simp[dn,nc] at*;first|omega|grind)
  subst this;simp only[aS] at hd;cbv;rw[<-hr1,<-e,hd,<-hi,<-ho]
theorem zq(d:List Part)(a:d.length<=1600)(b:∀p∈d,rT p):Spec Tryz.prog 120 [.sl true 3 (d.map bd)] Hp.emp (Is (.tup [.int .i64 (kU d),.int .i64 (iV d)])):=
 ep iD Ho [.int .i64 (kU d),.int .i64 (iV d)] (.tup _ (by simp;exact⟨.int _ _,.int _ _⟩)) λR c=>Hq dn rfl _ _ d a b _ rfl _ _ rfl rfl R c
def zr:AC:=qr [qz 2 0] (qq (qr [qm 9 0,qo 10 (.len false (.t 9)),qc 11 .gtr 10 1600] (qu 11 (qr [qz 2 2] .ret) .skip)) (qr [qz 3 0] (qq (qr [qm 12 0,qo 13 (.len false (.t 12)),qz 14 0] (.block 0 (.loop (qr [qb 15 .lss 14 13] (qq (qu 15 .skip (.exit 0)) (qq (.block 1 (qr [qo 16 (.iaddr 3 (.t 12) (.t 14)),qd 17 3 16,qo 5 (.alloc 115 uk),qs 3 5 17] (qq (qr [qf 18 0 5,ql 19 18,qm 20 3,qb 21 .eql 19 20,qm 22 21,qg 23 22 false (.mov (.t 3)),qg 24 22 false (.bin .eql (.t 23) (qk 3)),qg 25 22 false (.mov (.t 24)),qg 26 25 true (.faddr 0 (.t 5)),qg 27 25 true (.load1 (.t 26)),qg 28 25 true (.bin .eql (.t 27) (qk 2)),qg 29 22 false (.pick (.t 25) (.t 28) (.c (.bool false))),qo 30 (.pick (.t 22) (.c (.bool true)) (.t 29))] (qu 30 (qr [qz 2 3] .ret) .skip)) (qq (qr [qd 31 3 5,qa 32 143 [.t 31],qm 6 32] (qr [qm 33 6,qc 34 .neq 33 0] (qu 34 (qr [qm 35 6,qm 2 35] .ret) .skip))) (qR [qf 36 0 5,ql 37 36,qm 3 37]))))) (qR [qc 38 .add 14 1,qm 14 38]))))))) (qq (qr [qm 40 0,qa 41 120 [.t 40],qm 39 41,qx 42 0 39,qx 43 1 39,qm 7 42,qm 8 43] (qr [qm 44 7,qm 45 8,qo 46 (.mm true (.t 44) (.t 45)),qc 47 .gtr 46 500] (qu 47 (qr [qz 2 2] .ret) .skip))) (qr [qz 2 0] .ret)))))
theorem Hr:fF Tryz.prog 106 Tryz.f106 zr [.t 2] 1 er:=⟨Tryz.func106,by decide+kernel,by kernel_rfl,by kernel_rfl,by decide+kernel⟩
theorem Hs(P:Prim)(hP:P=dn)(T v:c8)(d:List Part)(w:d.length<=maxLen)(rows:List (List V))(ds:rows=d.map bd)(r:Int)(hr:ed d=r)
  (u:Int->Int->BS->Int)(g:∀k n t,u k n t=nF ⟨k,n,t⟩)(hc1:∀{k n t},gK T 143 [.agg [qI k,qI n,.str t]] (qI (u k n t)))
  (a b:Int)(ha:a=kU d)(hb:b=iV d)(c:d.length<=1600->qX 0 d=0->gK T 120 [.sl true 3 rows] (.tup [qI a,qI b]))
  (R:S->Prop)(e:∀s s',c6 s s'->iH [.t 2] [qI r] s'->R s):gj P T v zr (S0 [.sl true 3 rows] Hp.emp) R (λ_ _=>False) R:=by
 cbv;have hl:P.dv rows=d.length:=by subst hP;simp[dn,ds]
 refine ab (λh=>?_) (λh=>?_)
 ·cbv;refine e _ _ (c6.refl _) ?_;cbv;clear e hc1 c;subst hP;subst hr;simp[dn,nc] at*;grind [ed]
 cbv;have i:d.length<=1600:=by clear e hc1 c;subst hP;simp[dn,nc] at*;omega
 refine⟨{y:Int×Int×List Part×List Part//d=y.2.2.1++y.2.2.2/\y.2.1=y.2.2.1.length/\qX 0 d=qX y.1 y.2.2.2},λy=>[(0,.sl true 3 rows),(3,qI y.1.1),(12,.sl true 3 rows),(13,qI (P.dv rows)),(14,qI y.1.2.1)],λ_=>[],λy=>y.1.2.2.2.length,
  ⟨_,c6.refl _,⟨(0,0,[],d),rfl,rfl,rfl⟩,?_,?_⟩,?_⟩
 ·cbv
 ·cbv
 rintro⟨⟨last,k,pre,rest⟩,hd,hk,hc⟩
 dsimp only at hd hk hc
 cbv;have x:P.dv rows=pre.length+rest.length:=by subst hP;simp[dn,ds,hd]
 refine ab (λh=>?_) (λh=>?_)
 ·rcases rest with _|⟨⟨kd,n,t⟩,rest⟩
  ·clear hc1 c;(exfalso;clear e;subst hP;simp[dn,nc] at*;first|omega|grind)
  cbv;have f:=pA ds hd hk P hP;have hpl:pre.length<=1600:=by rw[hd] at i;simp at i;omega
  refine⟨by clear hc1 c;(clear e;subst hP;simp[dn,jx,nc] at* <;>first|omega|grind),_,f,?_⟩
  cbv;intro β;cbv;have hx:=g kd n t
  repeat'(first|(intro β;cbv)|(refine And.intro (by assumption) ?_;cbv)|(refine ab (λh=>?_) (λh=>?_)<;>try cbv)|(refine Exists.intro _ (And.intro (by assumption) ?_);cbv)|(refine hc1 _ _ ?_;cbv)|(refine c _ _ ?_;cbv)|(refine j _ _ ?_;cbv)|(refine l _ _ ?_;cbv)|(refine m _ _ ?_;cbv)|(refine o _ _ ?_;cbv)|(refine And.intro (by(clear e;subst hP;simp[dn,jx,nc] at* <;>first|omega|grind)) ?_;cbv))
  all_goals first
   |(refine e _ _ (c6.refl _) ?_
     cbv;clear e hc1 c f g;subst hP;subst hr;simp[dn,nc,qX] at*;grind [ed])
   |(refine⟨_,c6.refl _,⟨(_,_,pre++[⟨kd,n,t⟩],rest),?_⟩,⟨rfl,rfl,rfl,rfl,rfl,trivial⟩,trivial,by simp⟩
     clear e f hc1 c g;subst hP;simp[dn,nc,qX] at*
     grind)
 ·have:rest=[]:=by
   cases rest with
   |nil=>rfl
   |cons p rest=>clear hc1 c;(exfalso;clear e;subst hP;simp[dn,nc] at*;first|omega|grind)
  subst this;have q:qX 0 d=0:=hc;have j:=c i q;clear c;cbv
  repeat'(first|(intro β;cbv)|(refine And.intro (by assumption) ?_;cbv)|(refine ab (λh=>?_) (λh=>?_)<;>try cbv)|(refine Exists.intro _ (And.intro (by assumption) ?_);cbv)|(refine hc1 _ _ ?_;cbv)|(refine c _ _ ?_;cbv)|(refine j _ _ ?_;cbv)|(refine l _ _ ?_;cbv)|(refine m _ _ ?_;cbv)|(refine o _ _ ?_;cbv)|(refine And.intro (by(clear e;subst hP;simp[dn,jx,nc] at* <;>first|omega|grind)) ?_;cbv))
  all_goals
   refine e _ _ (c6.refl _) ?_;cbv;clear e hc1 j;subst hP;subst hr;simp[dn,nc] at*;grind [ed]
theorem oo(d:List Part)(a:d.length<=maxLen):Spec Tryz.prog 106 [.sl true 3 (d.map bd)] Hp.emp (Is (.int .i64 (ed d))):=
 ep iD Hr [.int .i64 (ed d)] (.int _ _) λR b=>Hs dn rfl _ _ d a _ rfl _ rfl (λk n t=>nF ⟨k,n,t⟩) (λ_ _ _=>rfl) (ia (Qo ⟨_,_,_⟩) (λh=>.cons (.same _) .nil) rfl) _ _ rfl rfl
  (λh1 h2=>ia (zq d h1 (rz 0 d h2)) (λh=>.cons (.same _) .nil) rfl) R b
def Ht:AC:=qr [qz 2 0,qz 3 0,qz 4 0] (qq (qr [qm 8 0,qa 9 106 [.t 8],qm 5 9] (qr [qm 10 5,qc 11 .neq 10 0] (qu 11 (qr [qm 12 5,qz 2 0,qz 3 0,qm 4 12] .ret) .skip))) (qr [qm 14 0,qa 15 120 [.t 14],qm 13 15,qx 16 0 13,qx 17 1 13,qm 6 16,qm 7 17] (qr [qm 18 6,qm 19 7,qm 2 18,qm 3 19,qz 4 0] .ret)))
theorem Qq:fF Tryz.prog 87 Tryz.f87 Ht [.t 2,.t 3,.t 4] 1 er:=⟨Tryz.func87,by decide+kernel,by kernel_rfl,by kernel_rfl,by decide+kernel⟩
def vZ(d:List Part):Int×Int×Int:=if ed d=0 then(kU d,iV d,0) else(0,0,ed d)
theorem mT{d:List Part}(h:ed d=0):d.length<=1600/\qX 0 d=0/\kU d<=500/\iV d<=500:=by
 unfold ed at h
 grind
theorem Qr(P:Prim)(hP:P=dn)(T n:c8)(d:List Part)(rows:List (List V))(r1 r2 m:Int)(hr:vZ d=(r1,r2,m))
  (c:Int)(hc:ed d=c)(hc1:gK T 106 [.sl true 3 rows] (qI c))
  (a b:Int)(ha:a=kU d)(hb:b=iV d)(e:c=0->gK T 120 [.sl true 3 rows] (.tup [qI a,qI b]))
  (R:S->Prop)(f:∀s s',c6 s s'->iH [.t 2,.t 3,.t 4] [qI r1,qI r2,qI m] s'->R s):gj P T n Ht (S0 [.sl true 3 rows] Hp.emp) R (λ_ _=>False) R:=by
 cbv;refine hc1 _ _ ?_;cbv;refine ab (λh=>?_) (λh=>?_)
 ·repeat'(first|(intro β;cbv)|(refine And.intro (by assumption) ?_;cbv)|(refine ab (λh=>?_) (λh=>?_)<;>try cbv)|(refine Exists.intro _ (And.intro (by assumption) ?_);cbv)|(refine hc1 _ _ ?_;cbv)|(refine e _ _ ?_;cbv)|(refine g _ _ ?_;cbv)|(refine i _ _ ?_;cbv)|(refine j _ _ ?_;cbv)|(refine k _ _ ?_;cbv)|(refine And.intro (by(clear f;subst hP;simp[dn,jx,nc] at* <;>first|omega|grind)) ?_;cbv))
  all_goals
   refine f _ _ (c6.refl _) ?_;cbv;clear f hc1 e;subst hP;simp[dn,nc] at*;grind [vZ]
 ·have l:c=0:=by clear f hc1 e;subst hP;simp[dn,nc] at*;omega
  have g:=e l
  repeat'(first|(intro β;cbv)|(refine And.intro (by assumption) ?_;cbv)|(refine ab (λh=>?_) (λh=>?_)<;>try cbv)|(refine Exists.intro _ (And.intro (by assumption) ?_);cbv)|(refine hc1 _ _ ?_;cbv)|(refine e _ _ ?_;cbv)|(refine g _ _ ?_;cbv)|(refine i _ _ ?_;cbv)|(refine j _ _ ?_;cbv)|(refine k _ _ ?_;cbv)|(refine And.intro (by(clear f;subst hP;simp[dn,jx,nc] at* <;>first|omega|grind)) ?_;cbv))
  all_goals
   refine f _ _ (c6.refl _) ?_;cbv;clear f hc1 e g;subst hP;simp[dn,nc] at*;grind [vZ]
theorem xW(d:List Part)(a:d.length<=maxLen):Spec Tryz.prog 87 [.sl true 3 (d.map bd)] Hp.emp (Is (.tup [.int .i64 (vZ d).1,.int .i64 (vZ d).2.1,.int .i64 (vZ d).2.2])):=
 ep iD Qq [.int .i64 (vZ d).1,.int .i64 (vZ d).2.1,.int .i64 (vZ d).2.2] (.tup _ (by simp;exact⟨.int _ _,.int _ _,.int _ _⟩)) λR b=>Qr dn rfl _ _ d _ _ _ _ rfl _ rfl (ia (oo d a) (λh=>.cons (.same _) .nil) rfl) _ _ rfl rfl
  (λh1=>ia (zq d (mT h1).1 (rz 0 d (mT h1).2.1)) (λh=>.cons (.same _) .nil) rfl) R b
def Hu:AC:=qr [qz 2 0] (qr [qz 3 0] (qq (qr [qm 6 0,qo 7 (.len false (.t 6)),qz 8 0] (.block 0 (.loop (qr [qb 9 .lss 8 7] (qq (qu 9 .skip (.exit 0)) (qq (.block 1 (qr [qo 10 (.iaddr 3 (.t 6) (.t 8)),qd 11 3 10,qo 5 (.alloc 115 uk),qs 3 5 11] (qR [qm 12 3,qf 13 1 5,ql 14 13,qb 15 .add 12 14,qm 3 15]))) (qR [qc 16 .add 8 1,qm 8 16]))))))) (qr [qm 17 3,qm 2 17] .ret)))
theorem Qs:fF Tryz.prog 90 Tryz.f90 Hu [.t 2] 1 er:=⟨Tryz.func90,by decide+kernel,by kernel_rfl,by kernel_rfl,by decide+kernel⟩
theorem Qt(P:Prim)(hP:P=dn)(T e:c8)(d:List Part)(f:d.length<=1600)(a:∀p∈d,rT p)(rows:List (List V))(ds:rows=d.map bd)(r1:Int)(hr1:kU d=r1)
  (R:S->Prop)(b:∀s s',c6 s s'->iH [.t 2] [qI r1] s'->R s):gj P T e Hu (S0 [.sl true 3 rows] Hp.emp) R (λ_ _=>False) R:=by
 cbv;refine⟨{y:Int×Int×List Part×List Part//d=y.2.2.1++y.2.2.2/\y.2.1=y.2.2.1.length/\y.1=kU y.2.2.1},λy=>[(3,qI y.1.1),(6,.sl true 3 rows),(7,qI (P.dv rows)),(8,qI y.1.2.1)],λ_=>[],λy=>y.1.2.2.2.length,
  ⟨_,c6.refl _,⟨(0,0,[],d),rfl,rfl,rfl⟩,?_,?_⟩,?_⟩
 ·cbv
 ·cbv
 rintro⟨⟨i,k,pre,rest⟩,hd,hk,hi⟩
 dsimp only at hd hk hi
 cbv;have hl:P.dv rows=pre.length+rest.length:=by subst hP;simp[dn,ds,hd]
 have g:d.length=pre.length+rest.length:=by rw[hd];simp
 refine ab (λh=>?_) (λh=>?_)
 ·rcases rest with _|⟨⟨kd,n,t⟩,rest⟩
  ·(exfalso;clear b;subst hP;simp[dn,nc] at*;first|omega|grind)
  cbv;have c:=pA ds hd hk P hP;have hp:=iU (a ⟨kd,n,t⟩ (by simp[hd]));have hb1:=xV pre (λp hp=>a p (by simp[hd,hp]))
  repeat'(first|(intro β;cbv)|(refine And.intro (by assumption) ?_;cbv)|(refine ab (λh=>?_) (λh=>?_)<;>try cbv)|(refine Exists.intro _ (And.intro (by assumption) ?_);cbv)|(refine hc1 _ _ ?_;cbv)|(refine j _ _ ?_;cbv)|(refine l _ _ ?_;cbv)|(refine m _ _ ?_;cbv)|(refine o _ _ ?_;cbv)|(refine q _ _ ?_;cbv)|(refine And.intro (by(clear b;subst hP;simp[dn,jx,nc] at* <;>first|omega|grind)) ?_;cbv))
  all_goals
   refine⟨_,c6.refl _,⟨(_,_,pre++[⟨kd,n,t⟩],rest),?_⟩,⟨rfl,rfl,rfl,rfl,trivial⟩,trivial,by simp⟩;clear b c;subst hP;simp[dn,nc,Dl,kU] at*
   grind
 ·cbv;refine b _ _ (c6.refl _) ?_;have:rest=[]:=by
   cases rest with
   |nil=>rfl
   |cons p rest=>(exfalso;clear b;subst hP;simp[dn,nc] at*;first|omega|grind)
  subst this;simp only[aS] at hd;cbv;rw[<-hr1,hd,<-hi]
theorem rA(d:List Part)(a:d.length<=1600)(b:∀p∈d,rT p):Spec Tryz.prog 90 [.sl true 3 (d.map bd)] Hp.emp (Is (.int .i64 (kU d))):=
 ep iD Qs [.int .i64 (kU d)] (.int _ _) λR c=>Qt dn rfl _ _ d a b _ rfl _ rfl R c
def Dm:AC:=qr [qz 2 0] (qr [qz 3 0] (qq (qr [qm 6 0,qo 7 (.len false (.t 6)),qz 8 0] (.block 0 (.loop (qr [qb 9 .lss 8 7] (qq (qu 9 .skip (.exit 0)) (qq (.block 1 (qr [qo 10 (.iaddr 3 (.t 6) (.t 8)),qd 11 3 10,qo 5 (.alloc 115 uk),qs 3 5 11] (qr [qf 12 0 5,ql 13 12,qc 14 .neq 13 3] (qu 14 (qR [qm 15 3,qf 16 1 5,ql 17 16,qf 18 2 5,ql 19 18,qo 20 (.len true (.t 19)),qb 21 .add 17 20,qb 22 .add 15 21,qm 3 22]) .skip)))) (qR [qc 23 .add 8 1,qm 8 23]))))))) (qr [qm 24 3,qm 2 24] .ret)))
theorem Ms:fF Tryz.prog 130 Tryz.f130 Dm [.t 2] 1 er:=⟨Tryz.func130,by decide+kernel,by kernel_rfl,by kernel_rfl,by decide+kernel⟩
theorem Mt(P:Prim)(hP:P=dn)(T e:c8)(d:List Part)(f:d.length<=1600)(a:∀p∈d,rT p)(rows:List (List V))(ds:rows=d.map bd)(r1:Int)(hr1:iV d=r1)
  (R:S->Prop)(b:∀s s',c6 s s'->iH [.t 2] [qI r1] s'->R s):gj P T e Dm (S0 [.sl true 3 rows] Hp.emp) R (λ_ _=>False) R:=by
 cbv;refine⟨{y:Int×Int×List Part×List Part//d=y.2.2.1++y.2.2.2/\y.2.1=y.2.2.1.length/\y.1=iV y.2.2.1},λy=>[(3,qI y.1.1),(6,.sl true 3 rows),(7,qI (P.dv rows)),(8,qI y.1.2.1)],λ_=>[],λy=>y.1.2.2.2.length,
  ⟨_,c6.refl _,⟨(0,0,[],d),rfl,rfl,rfl⟩,?_,?_⟩,?_⟩
 ·cbv
 ·cbv
 rintro⟨⟨i,k,pre,rest⟩,hd,hk,hi⟩
 dsimp only at hd hk hi
 cbv;have hl:P.dv rows=pre.length+rest.length:=by subst hP;simp[dn,ds,hd]
 have g:d.length=pre.length+rest.length:=by rw[hd];simp
 refine ab (λh=>?_) (λh=>?_)
 ·rcases rest with _|⟨⟨kd,n,t⟩,rest⟩
  ·(exfalso;clear b;subst hP;simp[dn,nc] at*;first|omega|grind)
  cbv;have c:=pA ds hd hk P hP;have hp:=iU (a ⟨kd,n,t⟩ (by simp[hd]));have hb1:=rU pre (λp hp=>a p (by simp[hd,hp]))
  repeat'(first|(intro β;cbv)|(refine And.intro (by assumption) ?_;cbv)|(refine ab (λh=>?_) (λh=>?_)<;>try cbv)|(refine Exists.intro _ (And.intro (by assumption) ?_);cbv)|(refine hc1 _ _ ?_;cbv)|(refine j _ _ ?_;cbv)|(refine l _ _ ?_;cbv)|(refine m _ _ ?_;cbv)|(refine o _ _ ?_;cbv)|(refine q _ _ ?_;cbv)|(refine And.intro (by(clear b;subst hP;simp[dn,jx,nc] at* <;>first|omega|grind)) ?_;cbv))
  all_goals
   refine⟨_,c6.refl _,⟨(_,_,pre++[⟨kd,n,t⟩],rest),?_⟩,⟨rfl,rfl,rfl,rfl,trivial⟩,trivial,by simp⟩;clear b c;subst hP;simp[dn,nc,zo,iV] at*
   grind
 ·cbv;refine b _ _ (c6.refl _) ?_;have:rest=[]:=by
   cases rest with
   |nil=>rfl
   |cons p rest=>(exfalso;clear b;subst hP;simp[dn,nc] at*;first|omega|grind)
  subst this;simp only[aS] at hd;cbv;rw[<-hr1,hd,<-hi]
theorem Mu(d:List Part)(a:d.length<=1600)(b:∀p∈d,rT p):Spec Tryz.prog 130 [.sl true 3 (d.map bd)] Hp.emp (Is (.int .i64 (iV d))):=
 ep iD Ms [.int .i64 (iV d)] (.int _ _) λR c=>Mt dn rfl _ _ d a b _ rfl _ rfl R c
end Go.Proofs.YtobngncjflogcaaGreat.AM
