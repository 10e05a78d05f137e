/-
  Part 3 of what the law TopDesk reaches: the plain machine, contracts of the functions and plain laws; each lemma says its own condition.
-/
import Derived.Test.YtajdadcdcpnedaaGreatDoorTopDesk2
import Derived.Scope
import Derived.Deep.LoopGhost
import Derived.Orders
set_option linter.unusedVariables false
set_option linter.unusedSimpArgs false
namespace Go.Proofs.YtajdadcdcpnedaaGreatDoor.AM
open Go
open Go.BigFrame
section
variable {P:Program} {C:Ctx} {F:Nat->Prop} {w w':World} {a:Act} {s:S} {h:Hp} {K:V->Hp->Prop} {Q:Exit->Act->World->Prop} {o:Oper}
theorem pa:∀{l:List Operand}{m:List hS},tK l=some m->l.length=m.length/\∀(i:Nat)(x:Operand)(y:hS),l[i]? =some x->m[i]? =some y->mf x=some y:=by
 intro l
 induction l with
 |nil=>intro m h;simp[tK] at h;subst h;simp
 |cons x l ih=>
  intro m h;simp only[tK] at h
  split at h
  ·rename_i y m' hx hm;cases h;obtain⟨h1,h2⟩:=ih hm;refine⟨by simp[h1],λi d e b c=>?_⟩;cases i with
   |zero=>simp at b c;subst b c;exact hx
   |succ i=>exact h2 i d e (by simpa using b) (by simpa using c)
  ·cases h
theorem yl{α:Type}{x:Array α}{l:List α}(h:x.toList=l):x=l.toArray:=by subst h;simp
theorem tX{c:Array Operand}{x y:hS}(h:tK c.toList=some [x,y]):∃b d,c= #[b,d]/\mf b=some x/\mf d=some y:=by
 obtain⟨h1,h2⟩:=pa h;obtain⟨l,rfl⟩:∃l:List Operand,c=l.toArray:=⟨c.toList,by simp⟩;simp only at h1 h2
 match l,h1 with
 |[b,d],_=>exact⟨b,d,rfl,h2 0 b x rfl rfl,h2 1 d y rfl rfl⟩
theorem ym{T:TypeId}(hd:P.underlying T=some .bool)(p q:Bool):(Op.equal T (.bool p) (.bool q)).run P w=.ok (p==q) w:=by
 unfold Op.equal Op.maxDepth;rw[show(10000:Nat)=9999+1 from rfl,Op.equalIn];simp only[Sem.run_bind,run_underlying hd,Result.andThen_ok];rfl
theorem AU{T e:TypeId}(hd:P.underlying T=some (.pointer e))(p q:Option Addr)(h:p=none\/q=none):(Op.equal T (.pointer p) (.pointer q)).run P w=.ok (p.isNone&&q.isNone) w:=by
 unfold Op.equal Op.maxDepth;rw[show(10000:Nat)=9999+1 from rfl,Op.equalIn];simp only[Sem.run_bind,run_underlying hd,Result.andThen_ok];cases p<;>cases q<;>first|rfl|simp at h
theorem kG{neg:Bool}{T U:TypeId}{x y:Operand}{c d:Value}{b:Bool}(ho:o.op=.binOp (if neg then .neq else .eql) T x y U)(hs:fT C F h w)(hx:a.eval x=c)(hy:a.eval y=d)
  (hg:∀op,(eqGuard op T x y c d).run P w=.ok () w)(h1:binOp .eql T c d=(do pure (.bool (←Op.equal T c d))))(h2:binOp .neq T c d=(do pure (.bool (!(←Op.equal T c d)))))(hr:(Op.equal T c d).run P w=.ok b w)
  (hK:K (.bool (if neg then !b else b)) h):o.wp P a w (fQ C F w a o.dst K) Q:=by
 refine wp_pure hs ?_ (.bool _) hK;unfold execOp;rw[ho]
 generalize a.eval=e at*
 cases neg
 ·simp only[dA,↓reduceIte,Sem.run_bind,Sem.run_pure,hx,hy,hg,Result.andThen_ok,h1,hr]
 ·simp only[↓reduceIte,Sem.run_bind,Sem.run_pure,hx,hy,hg,Result.andThen_ok,h2,hr]
theorem wW{op:BinOp}{T:TypeId}{x y:Operand}{p q:Bool}:(eqGuard op T x y (.bool p) (.bool q)).run P w=.ok () w:=by
 unfold eqGuard;cases op<;>simp[go_sem]
theorem wX{op:BinOp}{T:TypeId}{x y:Operand}{p q:Option Addr}:(eqGuard op T x y (.pointer p) (.pointer q)).run P w=.ok () w:=by
 unfold eqGuard;cases op<;>simp[go_sem]
theorem B9{neg:Bool}{T U:TypeId}{x y:Operand}{c d:V}(ho:o.op=.binOp (if neg then .neq else .eql) T x y U)(hd:P.underlying T=some .bool)(hs:fT C F h w)
  (hx:Rel F C.B w c (a.eval x))(hy:Rel F C.B w d (a.eval y))(hK:DX neg c d λv=>K v h):o.wp P a w (fQ C F w a o.dst K) Q:=by
 generalize hex:a.eval x=e at hx
 generalize b:a.eval y=f at hy
 cases hx<;>try(simp[DX] at hK;done)
 cases hy<;>try(simp[DX] at hK;done)
 exact kG ho hs hex b (λ_=>wW) rfl rfl (ym hd _ _) hK
theorem Ca{neg:Bool}{T U e:TypeId}{x y:Operand}{c d:V}(ho:o.op=.binOp (if neg then .neq else .eql) T x y U)(hd:P.underlying T=some (.pointer e))(hs:fT C F h w)
  (hx:Rel F C.B w c (a.eval x))(hy:Rel F C.B w d (a.eval y))(hK:yc neg c d λv=>K v h):o.wp P a w (fQ C F w a o.dst K) Q:=by
 generalize hex:a.eval x=f at hx
 generalize b:a.eval y=g at hy
 cases hx<;>try(simp[yc,Rd] at hK;done)
 all_goals
  cases hy<;>try(simp[yc,Rd] at hK;done)
  all_goals
   simp only[yc,Rd] at hK;exact kG ho hs hex b (λ_=>wX) rfl rfl (AU hd _ _ (by simp)) hK
theorem lu{op:BinOp}{T:TypeId}{x y:Operand}{b b':Option Addr}{n m n' m':Nat}:(eqGuard op T x y (.slice b n m) (.slice b' n' m')).run P w=.ok () w:=by
 unfold eqGuard;cases op<;>simp[go_sem]
theorem pb{T e:TypeId}(hd:P.underlying T=some (.slice e))(p:Option Addr)(n m:Nat):(Op.equal T (.slice p n m) (.slice none 0 0)).run P w=.ok p.isNone w:=by
 unfold Op.equal Op.maxDepth;rw[show(10000:Nat)=9999+1 from rfl,Op.equalIn];simp only[Sem.run_bind,run_underlying hd,Result.andThen_ok];cases p<;>rfl
theorem Cb{neg:Bool}{T U e:TypeId}{x y:Operand}{b:V}(ho:o.op=.binOp (if neg then .neq else .eql) T x y U)(hy:a.eval y=.slice none 0 0)(hd:P.underlying T=some (.slice e))(hs:fT C F h w)
  (hx:Rel F C.B w b (a.eval x))(hK:Pb neg b λv=>K v h):o.wp P a w (fQ C F w a o.dst K) Q:=by
 generalize hex:a.eval x=c at hx
 cases hx<;>try(exact hK.elim)
 case nilsl=>exact kG ho hs hex hy (λ_=>lu) rfl rfl (pb hd _ _ _) (by cases neg<;>exact hK)
 case slnil=>exact kG ho hs hex hy (λ_=>lu) rfl rfl (pb hd _ _ _) (by have:=hK.2 rfl;cases neg<;>exact this)
 case slemp=>exact kG ho hs hex hy (λ_=>lu) rfl rfl (pb hd _ _ _) (by have:=hK.1;cases neg<;>exact this)
 case sl=>exact kG ho hs hex hy (λ_=>lu) rfl rfl (pb hd _ _ _) (by have:=hK.1;cases neg<;>exact this)
theorem wY{op:BinOp}{T:TypeId}{x y:Operand}{p q:Array Value}(hg:P.eqGuardType P.depth T=false):(eqGuard op T x y (.agg p) (.agg q)).run P w=.ok () w:=by
 unfold eqGuard;cases op<;>simp[go_sem,hg]
theorem tg{neg:Bool}{T U:TypeId}{ts:List Nat}{x y:Operand}{j k:V}(ho:o.op=.binOp (if neg then .neq else .eql) T x y U)(hd:(∃fs,P.underlying T=some (.struct fs))\/(∃n e,P.underlying T=some (.array n e)))(hf:sG P 8 T=some ts)(hg:¬P.eqGuardType P.depth T=true)(hs:fT C F h w)
  (hx:Rel F C.B w j (a.eval x))(hy:Rel F C.B w k (a.eval y))(hK:AH neg ts j k λv=>K v h):o.wp P a w (fQ C F w a o.dst K) Q:=by
 generalize hex:a.eval x=p at hx
 generalize c:a.eval y=q at hy
 cases hx<;>try(simp[AH] at hK;done)
 cases hy<;>try(simp[AH] at hK;done)
 rename_i cs us hl hr l vs m d;simp only[AH] at hK
 split at hK
 ·rename_i b hb;have f:At F C.B w cs us 0:=λi v hv=>by
   have hi:i<us.size:=by have:=(aj.1 hv).1;omega
   exact⟨us[i],by rw[aW];exact aT hi,hr i v _ hv (aT hi)⟩
  have g:At F C.B w l vs 0:=λi v hv=>by
   have hi:i<vs.size:=by have:=(aj.1 hv).1;omega
   exact⟨vs[i],by rw[aW];exact aT hi,d i v _ hv (aT hi)⟩
  exact kG ho hs hex c (λ_=>wY (by simpa using hg)) rfl rfl ((tW 9992 8 T ts hf).2 hd F C.B w us vs cs l b f g hb) hK
 ·exact hK.elim
theorem D9{T:cm}(N:rU P T)(hC:C.Ok){ao:pG}{k:Nat}(ht:Lf P o.op=some ao)(hs:fT C F h w)(hr:∀i:Nat,Rel F C.B w (s.t i) (a.tmps.getD i undef))(hK:pW T ao (hS.ev s) h k K):
  o.wp P a w (fQ C F w a o.dst K) Q:=by
 cases d:o.op<;>rw[d] at ht<;>simp only[Lf] at ht
 case move x=>
  simp only[an] at ht;obtain⟨y,hy,rfl⟩:=ht;exact B3 (.inl d) hs (ep hr hy) hK
 case assign x=>
  simp only[an] at ht;obtain⟨y,hy,rfl⟩:=ht;exact B3 (.inr d) hs (ep hr hy) hK
 case pick c x y=>
  split at ht
  ·rename_i c' E L hc hx hy;cases ht;have O:=ep hr hc;simp only[pW] at hK
   split at hK
   ·rename_i t Y;rw[Y] at O;exact FK d hs O (ep hr hx) (ep hr hy) hK
   ·exact hK.elim
  ·cases ht
 case alloc T=>
  simp only[an] at ht;obtain⟨z,hz,rfl⟩:=ht;obtain⟨_,h1,h2⟩:=hK;exact D2 hC d hz hs h1 h2
 case box T x=>
  split at ht
  ·rename_i n y hn hy;cases ht;obtain⟨_,h1,h2⟩:=hK;exact Lk hC d hs (ep hr hy) h1 h2
  ·cases ht
 case build T parts=>
  split at ht
  ·rename_i z fs hz hd
   split at ht
   ·rename_i places hp;simp only[an] at ht;obtain⟨ps,G,rfl⟩:=ht;exact vQ d hz G (.inl ⟨fs,places,hd,hp,rfl⟩) hs hr hK.1 hK.2
   ·cases ht
  ·rename_i z k e hz hd
   split at ht
   ·rename_i n hn;simp only[an] at ht;obtain⟨ps,G,rfl⟩:=ht;exact vQ d hz G (.inr ⟨k,e,n,hd,hn,rfl⟩) hs hr hK.1 hK.2
   ·cases ht
  ·cases ht
 case buildSlice T len parts=>
  split at ht
  ·rename_i e hd
   split at ht
   ·rename_i n z ps hn hz G
    split at ht
    ·rename_i hc;cases ht;obtain⟨_,h1,h2⟩:=hK;exact AQ hC d hd hn hz G hc.1 hc.2.1 hc.2.2.1 hc.2.2.2 hs hr h1 h2
    ·cases ht
   ·cases ht
  ·cases ht
 case load T x=>
  split at ht
  ·rename_i n y hg hn hy;cases ht;exact D6 d hg hn hs (ep hr hy) hK
  ·rename_i y hg hy;cases ht;exact D5 d hg hs (ep hr hy) hK
  ·cases ht
 case store T x v=>
  split at ht
  ·rename_i n y u hn hy hu;cases ht;exact D7 hC d hn hs (ep hr hy) (ep hr hu) hK
  ·cases ht
 case nilCheck x=>
  simp only[an] at ht;obtain⟨y,hy,rfl⟩:=ht;have hrel:=ep hr hy;simp only[pW] at hK
  split at hK
  ·rename_i heq;exact tM d hs hrel (.inl ⟨_,_,_,_,_,heq⟩) hK
  ·rename_i heq;exact tM d hs hrel (.inr ⟨_,_,heq⟩) hK
  ·exact hK.elim
 case binOp op T x y U=>
  split at ht
  ·rename_i k E L hd hx hy;cases ht;exact B4 d hs (ep hr hx) (ep hr hy) hK
  ·rename_i E L hd hx hy;cases ht;exact B4 d hs (ep hr hx) (ep hr hy) hK
  ·rename_i E L hd hx hy
   split at ht
   ·cases ht;exact B9 (neg:=false) d hd hs (ep hr hx) (ep hr hy) hK
   ·cases ht;exact B9 (neg:=true) d hd hs (ep hr hx) (ep hr hy) hK
   ·cases ht
  ·rename_i e E L hd hx hy
   split at ht
   ·cases ht;exact Ca (neg:=false) d hd hs (ep hr hx) (ep hr hy) hK
   ·cases ht;exact Ca (neg:=true) d hd hs (ep hr hx) (ep hr hy) hK
   ·cases ht
  ·rename_i e E L hd hx hy
   split at ht
   ·rename_i hn
    split at ht
    ·cases ht;exact Cb (neg:=false) d (vK hy hn) hd hs (ep hr hx) hK
    ·cases ht;exact Cb (neg:=true) d (vK hy hn) hd hs (ep hr hx) hK
    ·cases ht
   ·cases ht
  ·rename_i fs E L hd hx hy
   split at ht
   ·rename_i ts hf
    split at ht
    ·cases ht
    ·rename_i hg
     split at ht
     ·cases ht;exact tg (neg:=false) d (.inl ⟨_,hd⟩) hf hg hs (ep hr hx) (ep hr hy) hK
     ·cases ht;exact tg (neg:=true) d (.inl ⟨_,hd⟩) hf hg hs (ep hr hx) (ep hr hy) hK
     ·cases ht
   ·cases ht
  ·rename_i n e E L hd hx hy
   split at ht
   ·rename_i ts hf
    split at ht
    ·cases ht
    ·rename_i hg
     split at ht
     ·cases ht;exact tg (neg:=false) d (.inr ⟨_,_,hd⟩) hf hg hs (ep hr hx) (ep hr hy) hK
     ·cases ht;exact tg (neg:=true) d (.inr ⟨_,_,hd⟩) hf hg hs (ep hr hx) (ep hr hy) hK
     ·cases ht
   ·cases ht
  ·cases ht
 case unOp op T x=>
  cases op<;>simp only[] at ht
  case not=>
   simp only[an] at ht;obtain⟨y,hy,rfl⟩:=ht;have hrel:=ep hr hy;simp only[pW] at hK
   split at hK
   ·rename_i b heq;rw[heq] at hrel;exact Lh d hs hrel hK
   ·exact hK.elim
  all_goals cases ht
 case convert src dst x=>
  split at ht
  ·rename_i k1 Z y h1 h2 hy;cases ht;have hrel:=ep hr hy;simp only[pW] at hK
   split at hK
   ·rename_i kx n heq;rw[heq] at hrel;exact FL d h1 h2 hs hrel hK
   ·exact hK.elim
  ·rename_i e y h1 h2 hy
   split at ht
   ·rename_i he;cases ht;obtain⟨l,hl,hk⟩:=hK;exact AT d h1 he h2 hs (ep hr hy) hl hk
   ·cases ht
  ·cases ht
 case panic x=>cases ht;exact hK.elim
 case makeInterface T x=>cases ht;exact hK.elim
 case makeSlice T l c=>
  split at ht
  ·rename_i e hd
   split at ht
   ·rename_i i z l' c' hi hz hl hc
    split at ht
    ·rename_i R;cases ht;have h1:=ep hr hl;have h2:=ep hr hc;simp only[pW] at hK
     split at hK
     ·rename_i k1 n Z m e1 A;obtain⟨_,hn,rfl,_,h3,h4,h5,h6⟩:=hK;rw[e1] at h1;rw[A] at h2;exact yi hC d hd hi hz R.1 R.2.1 hs h1 h2 hn h3 h4 h5 h6
     ·exact hK.elim
    ·cases ht
   ·cases ht
  ·cases ht
 case slice T x lo hi mx=>
  cases mx with
  |some v=>simp only[] at ht;cases ht
  |none=>
   simp only[] at ht
   split at ht
   ·rename_i E VN hi' hd hx H I;cases ht;have hrel:=ep hr hx;simp only[pW] at hK
    split at hK
    ·rename_i l heq;rw[heq] at hrel;obtain⟨p,hK,hp⟩:=wU (l:=0) H hr hK;obtain⟨q,hK,hq⟩:=wV I hr hK;obtain⟨h0,h1,h2,h3⟩:=hK;exact DZ d hd hs hrel hp hq h0 h1 h2 h3
    ·exact hK.elim
   ·rename_i e E VN hi' hd hx H I;simp only[an] at ht;obtain⟨n,hn,rfl⟩:=ht;have hrel:=ep hr hx;simp only[pW] at hK
    split at hK
    ·rename_i t sz' rows heq;obtain⟨rfl,hK⟩:=hK;rw[heq] at hrel;obtain⟨p,hK,hp⟩:=wU (l:=0) H hr hK;obtain⟨q,hK,hq⟩:=wV I hr hK;obtain⟨h0,h1,h2,h3⟩:=hK;exact FW d hd hn hs hrel hp hq h0 h1 h2 h3
    ·rename_i j bk sz' m heq;obtain⟨rfl,hK⟩:=hK;rw[heq] at hrel;obtain⟨p,hK,hp⟩:=wU (l:=0) H hr hK;obtain⟨q,hK,hq⟩:=wV I hr hK;obtain⟨h0,h1,h2,h3⟩:=hK;exact D0 d hd hn hs hrel hp hq h0 h1 h2 h3
    ·rename_i j bk sz' l0 g0 heq;obtain⟨rfl,hK⟩:=hK;rw[heq] at hrel;obtain⟨p,hK,hp⟩:=wU (l:=0) H hr hK;obtain⟨q,hK,hq⟩:=wV I hr hK;obtain⟨h0,h1,h2,h3⟩:=hK;exact D1 d hd hn hs hrel hp hq h0 h1 h2 h3
    ·exact hK.elim
   ·cases ht
 case fieldAddr T x f=>
  split at ht
  ·rename_i fs y hd hy
   split at ht
   ·rename_i fl hf
    split at ht
    ·rename_i n hn
     split at ht
     ·cases ht
     ·rename_i W;cases ht;have hrel:=ep hr hy;simp only[pW] at hK
      split at hK
      ·rename_i j b sz i off heq;rw[heq] at hrel
       generalize hex:a.eval x=ux at hrel
       cases hrel;rename_i b;exact vM (u:=undef) d hd hf hn W hs hex (by rw[c8];exact .ptr _ _ _ _ _) hK
      ·rename_i t cs heq;rw[heq] at hrel
       generalize hex:a.eval x=ux at hrel
       cases hrel with
       |rp _ b off _ us hF hc J=>
        refine vM (u:=undef) d hd hf hn W hs hex (.rp t b (off+fl.offset) _ (λj=>us (fl.offset+j)) hF (λj v hj=>?_) (λj v hj=>?_)) hK
        ·rw[bC] at hj;rw[c8];exact hc _ v hj
        ·rw[bC] at hj;exact J _ v hj
      ·exact hK.elim
    ·cases ht
   ·cases ht
  ·cases ht
 case field T x f=>
  split at ht
  ·rename_i fs y hd hy
   split at ht
   ·rename_i fl hf
    split at ht
    ·rename_i n hg hn;cases ht;have hrel:=ep hr hy;simp only[pW] at hK
     split at hK
     ·rename_i cs heq;rw[heq] at hrel;exact FU d hd hf hg hn hs hrel hK.1 hK.2
     ·exact hK.elim
    ·rename_i hg;cases ht;have hrel:=ep hr hy;simp only[pW] at hK
     split at hK
     ·rename_i cs heq;rw[heq] at hrel;exact FV d hd hf hg hs hrel hK.1 hK.2
     ·exact hK.elim
    ·cases ht
   ·cases ht
  ·cases ht
 case indexAddr T x i=>
  split at ht
  ·rename_i e y j hd hy hj;simp only[an] at ht;obtain⟨n,hn,rfl⟩:=ht;have h1:=ep hr hy;have h2:=ep hr hj
   generalize hex:a.eval x=ux at h1
   generalize D:a.eval i=ui at h2
   simp only[pW] at hK
   split at hK
   ·rename_i t sz' rows ki ii e1 A;obtain⟨rfl,h0,hl,hK⟩:=hK;rw[e1] at h1;rw[A] at h2;cases h2;cases h1 with
    |slnil=>simp at hl;omega
    |slemp=>simp at hl;omega
    |sl _ _ _ b off cap us hF jD hsz hc J=>
     have hlt:ii.toNat<rows.length:=by omega
     have M:rows[ii.toNat]? =some (rows.getD ii.toNat []):=by rw[au,af hlt];rfl
     refine rR d hd hn hs hex D h0 hl (.rp t b _ _ (λq=>us ii.toNat q) hF (λq v hq=>?_) (λq v hq=>?_)) hK
     ·rw[c8];exact hc _ q _ v M hq
     ·exact J _ q _ v M hq
   ·rename_i k b sz' m ki ii e1 A;obtain⟨rfl,h0,hl,hK⟩:=hK;rw[e1] at h1;rw[A] at h2;cases h2;cases h1 with
    |ownnil=>simp at hl;omega
    |own _ b _ _ cap c e fr hb hcs XD K3=>exact rR d hd hn hs hex D h0 hl (by rw[aW];exact .ptr k b _ ii.toNat 0) hK
   ·rename_i k b sz' lo hi ki ii e1 A;obtain⟨rfl,h0,hl,hK⟩:=hK;rw[e1] at h1;rw[A] at h2;cases h2;cases h1 with
    |winemp=>omega
    |win _ b _ cap _ _ c e fr _ _ _ _ g0 g1=>
     refine rR d hd hn hs hex D h0 qW ?_ hK;have e3:lo.toNat*sz'+ii.toNat*sz'=(lo+ii).toNat*sz'+0:=by rw[Int.toNat_add g0 h0,bU,bQ]
     rw[e3];exact .ptr k b _ _ 0
   ·exact hK.elim
  ·rename_i len e y j hd hy hj;simp only[an] at ht;obtain⟨n,hn,rfl⟩:=ht;have h1:=ep hr hy;have h2:=ep hr hj
   generalize hex:a.eval x=ux at h1
   generalize D:a.eval i=ui at h2
   simp only[pW] at hK
   split at hK
   ·rename_i k b sz' r off ki ii e1 A;obtain⟨h0,hl,hK⟩:=hK;rw[e1] at h1;rw[A] at h2;cases h2;cases h1;exact yh d hd hn hs hex D h0 hl (by rw[c8];exact .ptr _ _ _ _ _) hK
   ·rename_i t cs ki ii e1 A;obtain⟨h0,hl,hK⟩:=hK;rw[e1] at h1;rw[A] at h2;cases h2;cases h1 with
    |rp _ b off _ us hF hc J=>
     refine yh d hd hn hs hex D h0 hl (.rp t b _ _ (λq=>us (ii.toNat*n+q)) hF (λq v hq=>?_) (λq v hq=>?_)) hK
     ·rw[bC] at hq;rw[c8];exact hc _ v hq
     ·rw[bC] at hq;exact J _ v hq
   ·exact hK.elim
  ·cases ht
 case index T x i=>
  split at ht
  ·rename_i y j hd hy hj;cases ht;have h1:=ep hr hy;have h2:=ep hr hj;simp only[pW] at hK
   split at hK
   ·rename_i l ki ii e1 A;rw[e1] at h1;rw[A] at h2;exact Lj d hd hs h1 h2 hK.1 hK.2.1 hK.2.2
   ·exact hK.elim
  ·rename_i len e y j hd hy hj
   split at ht
   ·rename_i g n hg hn;cases ht;have h1:=ep hr hy;have h2:=ep hr hj;simp only[pW] at hK
    split at hK
    ·rename_i cs ki ii e1 A;rw[e1] at h1;rw[A] at h2;exact Lq d hd hg hn hs h1 h2 hK.1 hK.2.1 hK.2.2.1 hK.2.2.2.1 hK.2.2.2.2
    ·exact hK.elim
   ·cases ht
  ·cases ht
 case extract x i=>
  simp only[an] at ht;obtain⟨y,hy,rfl⟩:=ht;have h1:=ep hr hy;simp only[pW] at hK
  split at hK
  ·rename_i vs e1;rw[e1] at h1;exact Li d hs h1 hK.1 hK.2
  ·exact hK.elim
 case call c=>
  split at ht
  ·rename_i f hf;simp only[an] at ht;obtain⟨m,hm,rfl⟩:=ht;obtain⟨h1,h2⟩:=pa hm;simp only[pW] at hK;refine N C F w a h K Q o c f #[] _ hC d ⟨_,hf,rfl⟩ hs (by simpa using h1) (λi v u hv hu=>?_) hK;rw[Array.append_empty] at hu;simp only[aw,an] at hv;obtain⟨y,hy,rfl⟩:=hv;simp only[dz,an] at hu;obtain⟨x,hx,rfl⟩:=hu;exact ep hr (h2 i x y (by simpa using hx) hy)
  ·rename_i t hf;simp only[an] at ht;obtain⟨m,hm,rfl⟩:=ht;obtain⟨h1,h2⟩:=pa hm;simp only[pW] at hK
   split at hK
   ·rename_i f caps heq;have hrel:=hr t;have X:s.t t=.fn f caps:=heq;rw[X] at hrel
    generalize hu:a.tmps.getD t undef=u at hrel
    cases hrel with
    |fn _ _ us VO VP=>
     refine N C F w a h K Q o c f us _ hC d ⟨_,hf,hu⟩ hs (by simp only[Array.size_append,Array.size_map,ae,aH,VO];have h3:c.args.toList.length=c.args.size:=bG;omega) (λi v u hv hu=>?_) hK;have hsz:(c.args.map a.eval).size=(m.map (hS.ev s)).length:=by simp[<-h1]
     by_cases hi:i<(m.map (hS.ev s)).length
     ·rw[bu hi] at hv;rw[b6 qW] at hu;simp only[aw,an] at hv;obtain⟨y,hy,rfl⟩:=hv;simp only[dz,an] at hu;obtain⟨x,hx,rfl⟩:=hu;exact ep hr (h2 i x y (by simpa using hx) hy)
     ·rw[bB qW] at hv;rw[Array.getElem?_append_right qW,hsz] at hu;exact VP _ v u hv hu
   ·exact hK.elim
  ·rename_i hf
   split at ht
   ·rename_i x T hx N
    split at ht
    ·rename_i hd;simp only[an] at ht;obtain⟨y,hy,rfl⟩:=ht;exact FQ d hf (yl hx) (yl N) hd hs (ep hr hy) hK
    ·rename_i e hd;simp only[an] at ht;obtain⟨y,hy,rfl⟩:=ht;exact FR d hf (yl hx) (yl N) hd hs (ep hr hy) hK
    ·cases ht
   ·cases ht
  ·rename_i hf
   split at ht
   ·rename_i x y hm;cases ht;obtain⟨E,L,hx,h1,h2⟩:=tX hm;have r1:=ep hr h1;have r2:=ep hr h2;simp only[pW] at hK
    split at hK
    ·rename_i k1 m1 Z m2 e1 A;obtain⟨rfl,hK⟩:=hK;rw[e1] at r1;rw[A] at r2;exact FT (mx:=true) d hf hx hs r1 r2 hK
    ·exact hK.elim
   ·cases ht
  ·rename_i hf
   split at ht
   ·rename_i x y hm;cases ht;obtain⟨E,L,hx,h1,h2⟩:=tX hm;have r1:=ep hr h1;have r2:=ep hr h2;simp only[pW] at hK
    split at hK
    ·rename_i k1 m1 Z m2 e1 A;obtain⟨rfl,hK⟩:=hK;rw[e1] at r1;rw[A] at r2;exact FT (mx:=false) d hf hx hs r1 r2 hK
    ·exact hK.elim
   ·cases ht
  ·rename_i hf
   split at ht
   ·rename_i x y T T' hm N
    split at ht
    ·rename_i e e' hd Fx
     split at ht
     ·rename_i i z hi hz
      split at ht
      ·rename_i hc;cases ht;obtain⟨E,L,hx,h1,h2⟩:=tX hm;obtain⟨c1,c2,c3,rfl⟩:=hc;exact AN hC d hf hx (yl N) hd hi hz c1 c2 c3 hs (ep hr h1) (ep hr h2) hK
      ·cases ht
     ·cases ht
    ·cases ht
   ·cases ht
  ·cases ht
 case makeFunc fn first caps=>
  cases fn<;>simp only[] at ht<;>try(cases ht;done)
  rename_i f
  split at ht
  ·rename_i hz;simp only[an] at ht;obtain⟨m,hm,rfl⟩:=ht;obtain⟨h1,h2⟩:=pa hm;have VQ:first= #[]:=cQ hz
   subst VQ;refine wp_pure (u:=.func (.func f) #[] (caps.map a.eval)) hs ?_ (.fn f _ _ (by simp[<-h1]) λi v u hv hu=>?_) hK
   ·unfold execOp;rw[d];simp[Instr.makeFunc,Sem.run_bind,Sem.run_pure]
   ·simp only[aw,an] at hv;obtain⟨y,hy,rfl⟩:=hv;simp only[dz,an] at hu;obtain⟨x,hx,rfl⟩:=hu;exact ep hr (h2 i x y (by simpa using hx) hy)
  ·cases ht
 all_goals cases ht
end
structure Prim where
 add:Int->Int->Int
 sub:Int->Int->Int
 mul:Int->Int->Int
 div:Int->Int->Int
 mod:Int->Int->Int
 shl:Int->Int->Int
 shr:Int->Int->Int
 tY:IntKind->Int->Int->Int
 Lr:IntKind->Int->Int->Int
 Rn:IntKind->Int->Int->Int
 wrap:IntKind->Int->Int
 mx:Int->Int->Int
 mn:Int->Int->Int
 lt:Int->Int->Bool
 le:Int->Int->Bool
 eq:Int->Int->Bool
 ne:Int->Int->Bool
 QW:BS->BS->Bool
 i64:Int->Prop
 fK:Int->Int->Prop
 iq:Int->Int->Prop
 bits:IntKind->Int
 nat:Int->Nat
 int:Nat->Int
 b5:BS->Int
 seq:BS->BS->Bool
 iE:BS->BS->BS
 gZ:BS->Int->Int->BS
 sat:BS->Int->Int
 cF:List (List V)->Int
 ta:List (List V)->Int->Int->List (List V)
 n4:List (List V)->List (List V)->List (List V)
 Ro:List (List V)->Nat->List (List V)
 yn:List (List V)->Nat->List V->List (List V)
 Ea:Int->List V->List (List V)
 gH:List (List V)->Nat
 jg:Nat->Nat->Nat
 cond:Bool->V->V->V
 and:Bool->Bool->Bool
 beq:Bool->Bool->Bool
 bytes:Int->Int->Prop
 rW:List (List V)->Nat->Prop
 row:List (List V)->Nat->List V->Prop
 wZ:List (List V)->BS->Prop
def cp:Prim where
 add a b:=a+b
 sub a b:=a-b
 mul a b:=a*b
 div a b:=a/b
 mod a b:=a%b
 shl a b:=a*2^b.toNat
 shr a b:=a/2^b.toNat
 tY k a b:=k.wrap (BitVec.ofInt k.bits a&&&BitVec.ofInt k.bits b).toNat
 Lr k a b:=k.wrap (BitVec.ofInt k.bits a|||BitVec.ofInt k.bits b).toNat
 Rn k a b:=k.wrap (BitVec.ofInt k.bits a^^^BitVec.ofInt k.bits b).toNat
 wrap k a:=k.wrap a
 mx a b:=max a b
 mn a b:=min a b
 lt a b:=decide (a<b)
 le a b:=decide (a<=b)
 eq a b:=decide (a=b)
 ne a b:=decide (a≠b)
 QW a b:=decide (a≠b)
 i64 a:=kA a
 fK a b:=a<=b
 iq a b:=a<b
 bits k:=k.bits
 nat a:=a.toNat
 int a:=a
 b5 l:=l.length
 seq a b:=decide (a=b)
 iE a b:=a++b
 gZ l a b:=(l.take b.toNat).drop a.toNat
 sat l i:=(l.getD i.toNat 0).toNat
 cF l:=l.length
 ta l a b:=(l.take b.toNat).drop a.toNat
 n4 a b:=a++b
 Ro l n:=l.take n
 yn l i r:=l.set i r
 Ea n r:=List.replicate n.toNat r
 gH l:=l.length
 jg a b:=a+b
 cond t a b:=if t then a else b
 and a b:=a&&b
 beq a b:=a==b
 bytes n b:=n*b<=140737488355328
 rW l n:=l.length=n
 row l i r:=l[i]? =some r
 wZ rows l:=rows=l.map λb=>[V.int .u8 b.toNat]
def pZ(p:Prim)(k:IntKind)(n:Int)(K:V->Prop):Prop:=
 match k with
 |.i64=>p.i64 n/\K (.int .i64 n)
 |k=>K (.int k (p.wrap k n))
def F3(p:Prim)(op:BinOp)(x y:V)(K:V->Prop):Prop:=
 match op,x,y with
 |.add,.int k a,.int k' b=>k=k'/\pZ p k (p.add a b) K
 |.sub,.int k a,.int k' b=>k=k'/\pZ p k (p.sub a b) K
 |.mul,.int k a,.int k' b=>k=k'/\pZ p k (p.mul a b) K
 |.quo,.int k a,.int k' b=>k=k'/\p.fK 0 a/\p.iq 0 b/\pZ p k (p.div a b) K
 |.rem,.int k a,.int k' b=>k=k'/\p.fK 0 a/\p.iq 0 b/\K (.int k (p.mod a b))
 |.shl,.int k a,.int _ b=>p.fK 0 b/\p.iq b 64/\pZ p k (p.shl a b) K
 |.shr,.int k a,.int _ b=>p.fK 0 b/\p.iq b (p.bits k)/\K (.int k (p.shr a b))
 |.and,.int k a,.int k' b=>k=k'/\K (.int k (p.tY k a b))
 |.or,.int k a,.int k' b=>k=k'/\K (.int k (p.Lr k a b))
 |.xor,.int k a,.int k' b=>k=k'/\K (.int k (p.Rn k a b))
 |.lss,.int k a,.int k' b=>k=k'/\K (.bool (p.lt a b))
 |.leq,.int k a,.int k' b=>k=k'/\K (.bool (p.le a b))
 |.gtr,.int k a,.int k' b=>k=k'/\K (.bool (p.lt b a))
 |.geq,.int k a,.int k' b=>k=k'/\K (.bool (p.le b a))
 |.eql,.int k a,.int k' b=>k=k'/\K (.bool (p.eq a b))
 |.neq,.int k a,.int k' b=>k=k'/\K (.bool (p.ne a b))
 |.add,.str a,.str b=>p.i64 (p.add (p.b5 a) (p.b5 b))/\K (.str (p.iE a b))
 |.eql,.str a,.str b=>K (.bool (p.seq a b))
 |.neq,.str a,.str b=>K (.bool (p.QW a b))
 |_,_,_=>False
def mh(p:Prim)(h:Hp)(sz:Nat)(v:V)(K:List (List V)->Prop):Prop:=
 match v with
 |.sl _ sz' rows=>sz'=sz/\K rows
 |.nilsl=>K []
 |.own k b sz' n=>match h k with
  |some o=>o.b=b/\o.sz=sz/\sz'=sz/\p.rW o.rows n/\K o.rows
  |none=>False
 |_=>False
def Ph(p:Prim)(str:Bool)(x:V)(K:V->Prop):Prop:=
 match str,x with
 |true,.str l=>K (.int .i64 (p.b5 l))
 |false,.sl _ _ rows=>K (.int .i64 (p.cF rows))
 |false,.nilsl=>K (.int .i64 0)
 |false,.own _ _ _ n=>K (.int .i64 (p.int n))
 |false,.win _ _ _ lo hi=>K (.int .i64 (p.sub hi lo))
 |_,_=>False
def F4(p:Prim)(neg:Bool)(x:V)(K:V->Prop):Prop:=match x with
 |.nilsl=>K (.bool (if neg then false else true))
 |.sl _ _ rows=>K (.bool (if neg then true else false))/\(p.cF rows=0->K (.bool (if neg then false else true)))
 |_=>False
def Ls(p:Prim)(hi:Option V)(n:Int)(K:Int->Prop):Prop:=
 match hi with
 |some (.int _ n)=>K n
 |none=>K n
 |_=>False
def arr:Nat:=1000000
def nO(p:Prim)(h:Hp)(k:Nat)(b:Option Nat)(sz i:Nat)(K:Ob->List V->Prop):Prop:=
 match h k with
 |some o=>o.b=b/\o.sz=sz/\(match decide (k<1000000) with
  |true=>match o.rows,i with
   |[r],0=>K o r
   |_,_=>False
  |false=>∃r,p.row o.rows i r/\K o r)
 |none=>False
def F5(p:Prim)(k:Nat)(rows:List (List V))(i:Nat)(r:List V):List (List V):=match decide (k<1000000) with
 |true=>[r]
 |false=>p.yn rows i r
def p0(p:Prim)(h:Hp)(x:V)(K:V->Prop):Prop:=
 match x with
 |.ptr j b sz i off=>nO p h j b sz i λ_ r=>yd r off K
 |.rp _ cs=>yd cs 0 K
 |_=>False
def p5(p:Prim)(h:Hp)(n:Nat)(x:V)(K:V->Prop):Prop:=
 match x with
 |.ptr j b sz i off=>nO p h j b sz i λ_ r=>off+n<=r.length/\K (.agg ((r.drop off).take n))
 |.rp _ cs=>n<=cs.length/\K (.agg (cs.take n))
 |_=>False
def rX(p:Prim)(h:Hp)(n:Nat)(x v:V)(K:Hp->Prop):Prop:=
 match x with
 |.ptr j b sz i off=>nO p h j b sz i λo r=>off+n<=r.length/\v.fits n/\K (h.put j ⟨o.b,o.ty,o.sz,F5 p j o.rows i (lE r off v.cells)⟩)
 |_=>False
def kP(p:Prim)(h:Hp)(k ty sz bytes:Nat)(x y:V)(K:V->Hp->Prop):Prop:=
 mh p h sz y λnews=>match x with
  |.nilsl=>h k=none/\p.bytes (p.cF news) bytes/\∀β:Option Nat,K (.own k β sz (p.gH news)) (h.put k ⟨β,ty,sz,news⟩)
  |.own j b sz' n=>match h j with
   |some o=>o.b=b/\o.sz=sz/\sz'=sz/\o.ty=ty/\p.rW o.rows n/\p.bytes (p.add (p.int n) (p.cF news)) bytes/\∀β:Option Nat,K (.own j β sz (p.jg n (p.gH news))) (h.put j ⟨β,ty,sz,p.n4 o.rows news⟩)
   |none=>False
  |.win j b sz' lo hi=>match h j with
   |some o=>o.b=b/\o.sz=sz/\sz'=sz/\o.ty=ty/\lo=hi/\p.cF o.rows=lo/\p.bytes (p.cF news) bytes/\∀(β:Option Nat)(pre:List (List V)),pre=o.rows\/pre=[]->K (.win j β sz (p.cF pre) (p.add (p.cF pre) (p.cF news))) (h.put j ⟨β,ty,sz,p.n4 pre news⟩)
   |none=>False
  |_=>False
def Eb(p:Prim)(t:Nat)(x y:V)(K:Bool->Prop):Prop:=
 match t,x,y with
 |0,.bool a,.bool b=>K (p.beq a b)
 |1,.int k a,.int k' b=>k=k'/\K (p.eq a b)
 |2,.str a,.str b=>K (p.seq a b)
 |_,_,_=>False
def pH(p:Prim):List Nat->List V->List V->(Bool->Prop)->Prop
 |[],[],[],K=>K true
 |[t],[a],[b],K=>Eb p t a b K
 |t::ts,a::l,b::m,K=>Eb p t a b λx=>pH p ts l m λy=>K (p.and x y)
 |_,_,_,_=>False
def Lt(p:Prim)(neg:Bool)(ts:List Nat)(x y:V)(K:V->Prop):Prop:=
 match x,y with
 |.agg cs,.agg a=>pH p ts cs a λb=>match neg with
  |true=>br b (λ_=>K (.bool false)) (λ_=>K (.bool true))
  |false=>K (.bool b)
 |_,_=>False
theorem qK{t:Nat}{x y:V}{K:Bool->Prop}(h:Eb cp t x y K):∃b,mu t x y=some b/\K b:=by
 unfold Eb at h
 split at h
 ·exact⟨_,rfl,h⟩
 ·obtain⟨rfl,h⟩:=h;exact⟨_,by simp[mu];rfl,h⟩
 ·exact⟨_,rfl,h⟩
 ·exact h.elim
theorem yo:∀{ts:List Nat}{cs c:List V}{K:Bool->Prop},pH cp ts cs c K->∃b,gJ ts cs c=some b/\K b
 |[],[],[],K,h=>⟨true,rfl,h⟩
 |[t],[a],[b],K,h=>by
  simp only[pH] at h;obtain⟨x,h1,h2⟩:=qK h;exact⟨x,by simp[gJ,h1],h2⟩
 |t::t2::ts,a::l,b::m,K,h=>by
  simp only[pH] at h;obtain⟨x,h1,h2⟩:=qK h;obtain⟨y,h3,h4⟩:=yo h2;exact⟨x&&y,by simp only[gJ,h1];rw[h3],h4⟩
 |[t],a::a2::l,b::m,K,h=>by
  simp only[pH] at h;obtain⟨x,h1,h2⟩:=qK h;exact h2.elim
 |[t],[a],b::b2::m,K,h=>by
  simp only[pH] at h;obtain⟨x,h1,h2⟩:=qK h;exact h2.elim
 |[],_::_,_,_,h=>by simp[pH] at h
 |[],[],_::_,_,h=>by simp[pH] at h
 |_::_,[],_,_,h=>by simp[pH] at h
 |_::_,_::_,[],_,h=>by simp[pH] at h
theorem F6{neg:Bool}{ts:List Nat}{x y:V}{K:V->Prop}(h:Lt cp neg ts x y K):AH neg ts x y K:=by
 unfold Lt at h;unfold AH
 split at h
 ·obtain⟨b,h1,h2⟩:=yo h;simp only[h1];cases neg
  ·exact h2
  ·cases b<;>exact h2
 ·exact h.elim
def nH(n:Nat)(v:V):Bool:=v.cells.length==n&&v.cells.all V.one
def fJ(p:Prim)(C:cm)(op:pG)(ev:hS->V)(h:Hp)(k:Nat)(K:V->Hp->Prop):Prop:=
 match op with
 |.mov x=>K (ev x) h
 |.pick c a b=>match ev c with
  |.bool true=>K (ev a) h
  |.bool false=>K (ev b) h
  |_=>False
 |.alloc ty z=>h k=none/\z.all (λu=>u.oneCell')=true/\∀β:Nat,K (.ptr k (some β) z.length 0 0) (h.put k ⟨some β,ty,z.length,[z.map ya]⟩)
 |.box ty n x=>h k=none/\(ev x).fits n/\∀β:Nat,K (.ptr k (some β) n 0 0) (h.put k ⟨some β,ty,n,[(ev x).cells]⟩)
 |.build z parts=>(parts.all λq=>nH q.2.1 (ev q.2.2))=true/\K (.agg (vJ (z.map ya) (parts.map λq=>(q.1,(ev q.2.2).cells)))) h
 |.bslice ty sz parts=>h (arr+k)=none/\(parts.all λq=>nH sz (ev q))=true/\∀β:Nat,K (.own (arr+k) (some β) sz parts.length) (h.put (arr+k) ⟨some β,ty,sz,parts.map λq=>(ev q).cells⟩)
 |.load1 x=>p0 p h (ev x) λv=>K v h
 |.loadn n x=>p5 p h n (ev x) λv=>K v h
 |.store n x v=>rX p h n (ev x) (ev v) λh=>K .gC h
 |.nilchk x=>match ev x with
  |.ptr .. |.rp .. =>K (ev x) h
  |_=>False
 |.bin op x y=>F3 p op (ev x) (ev y) λv=>K v h
 |.eqb neg x y=>DX neg (ev x) (ev y) λv=>K v h
 |.eqp neg x y=>yc neg (ev x) (ev y) λv=>K v h
 |.eqn neg x=>F4 p neg (ev x) λv=>K v h
 |.eqs neg ts x y=>Lt p neg ts (ev x) (ev y) λv=>K v h
 |.not x=>match ev x with
  |.bool b=>br b (λ_=>K (.bool false) h) (λ_=>K (.bool true) h)
  |_=>False
 |.conv kd x=>match ev x with
  |.int _ n=>K (.int kd (p.wrap kd n)) h
  |_=>False
 |.mkslice ty sz bytes z l c=>match ev l,ev c with
  |.int _ n,.int _ m=>h (arr+k)=none/\p.fK 0 n/\m=n/\z.length=sz/\z.all (λu=>u.oneCell')=true/\p.bytes n bytes/\p.fK n 140737488355328/\∀β:Nat,K (.own (arr+k) (some β) sz (p.nat n)) (h.put (arr+k) ⟨some β,ty,sz,p.Ea n (z.map ya)⟩)
  |_,_=>False
 |.slstr x lo hi=>match ev x with
  |.str l=>AI (lo.map ev) λa=>Ls p (hi.map ev) (p.b5 l) λb=>p.fK 0 a/\p.fK a b/\p.fK b (p.b5 l)/\K (.str (p.gZ l a b)) h
  |_=>False
 |.slsl sz x lo hi=>match ev x with
  |.sl t sz' rows=>sz'=sz/\AI (lo.map ev) λa=>Ls p (hi.map ev) (p.cF rows) λb=>p.fK 0 a/\p.fK a b/\p.fK b (p.cF rows)/\K (.sl t sz (p.ta rows a b)) h
  |.own j bk sz' n=>sz'=sz/\AI (lo.map ev) λa=>Ls p (hi.map ev) (p.int n) λb=>p.fK 0 a/\p.fK a b/\p.fK b (p.int n)/\K (.win j bk sz a b) h
  |.win j bk sz' l0 h0=>sz'=sz/\AI (lo.map ev) λa=>Ls p (hi.map ev) (p.int (p.nat (p.sub h0 l0))) λb=>p.fK 0 a/\p.fK a b/\p.fK b (p.int (p.nat (p.sub h0 l0)))/\K (.win j bk sz (p.add l0 a) (p.add l0 b)) h
  |_=>False
 |.faddr off x=>match ev x with
  |.ptr j b sz i o=>K (.ptr j b sz i (o+off)) h
  |.rp t cs=>K (.rp t (cs.drop off)) h
  |_=>False
 |.fld1 off x=>match ev x with
  |.agg cs=>yd cs off λv=>K v h
  |_=>False
 |.fldn off n x=>match ev x with
  |.agg cs=>off+n<=cs.length/\K (.agg ((cs.drop off).take n)) h
  |_=>False
 |.iaddr sz x i=>match ev x,ev i with
  |.sl t sz' rows,.int _ i=>sz'=sz/\p.fK 0 i/\∃r,p.row rows (p.nat i) r/\K (.rp t r) h
  |.own j b sz' n,.int _ i=>sz'=sz/\p.fK 0 i/\p.iq i (p.int n)/\K (.ptr j b sz (p.nat i) 0) h
  |.win j b sz' lo hi,.int _ i=>sz'=sz/\p.fK 0 i/\p.iq i (p.sub hi lo)/\K (.ptr j b sz (p.nat (p.add lo i)) 0) h
  |_,_=>False
 |.iarr len sz x i=>match ev x,ev i with
  |.ptr j b sz' r off,.int _ i=>p.fK 0 i/\p.iq i len/\∃n:Nat,p.nat i=n/\K (.ptr j b sz' r (off+n*sz)) h
  |.rp t cs,.int _ i=>p.fK 0 i/\p.iq i len/\∃n:Nat,p.nat i=n/\K (.rp t (cs.drop (n*sz))) h
  |_,_=>False
 |.ixs x i=>match ev x,ev i with
  |.str l,.int _ i=>p.fK 0 i/\p.iq i (p.b5 l)/\K (.int .u8 (p.sat l i)) h
  |_,_=>False
 |.ext i x=>match ev x with
  |.tup vs=>i<vs.length/\K (vs.getD i .gC) h
  |_=>False
 |.len str x=>Ph p str (ev x) λv=>K v h
 |.mm mx x y=>match mx,ev x,ev y with
  |true,.int k a,.int k' b=>k=k'/\K (.int k (p.mx a b)) h
  |false,.int k a,.int k' b=>k=k'/\K (.int k (p.mn a b)) h
  |_,_,_=>False
 |.append ty sz bytes x y=>kP p h (arr+k) ty sz bytes (ev x) (ev y) K
 |.call f args=>C f (args.map ev) h K
 |.callv x args=>match ev x with
  |.fn f caps=>C f (args.map ev++caps) h K
  |_=>False
 |.mkfn f caps=>K (.fn f (caps.map ev)) h
 |.convbs x=>mh p h 1 (ev x) λrows=>∃l,p.wZ rows l/\K (.str l) h
 |.dead=>False
 |.ixa g len sz x i=>match ev x,ev i with
  |.agg cs,.int _ i=>p.fK 0 i/\p.iq i len/\Nat.ble (len*sz) cs.length=true/\Nat.ble 1 sz=true/\∃n:Nat,p.nat i=n/\(match g with
   |true=>K (.agg ((cs.drop (n*sz)).take sz)) h
   |false=>K (cs.getD (n*sz) .gC) h)
  |_,_=>False
def keyOf(op:pG)(k:Nat):Nat:=match op with
 |.bslice .. |.mkslice .. |.append .. =>arr+k
 |_=>k
theorem AV{k:IntKind}{n:Int}{K:V->Prop}:pZ cp k n K=arith k n K:=by cases k<;>rfl
theorem F7{op:BinOp}{x y:V}{K:V->Prop}(h:F3 cp op x y K):s8 op x y K:=by
 cases x<;>cases y<;>try(cases op<;>exact h.elim)
 case int.int k a k' b=>
  cases op<;>simp only[F3,s8,AV] at h⊢<;>exact h
 case str.str a b=>
  cases op<;>simp only[F3,s8] at h⊢<;>exact h
theorem w8{rows:List (List V)}{i:Nat}{r:List V}(h:rows[i]? =some r):i<rows.length/\rows.getD i []=r:=by
 obtain⟨h1,h2⟩:=aj.1 h;exact⟨h1,by rw[au,h];rfl⟩
theorem yp{h:Hp}{k sz i:Nat}{b:Option Nat}{K:Ob->List V->Prop}(hh:nO cp h k b sz i K):s9 h k b sz i K:=by
 unfold nO at hh;unfold s9;cases hk:h k with
 |none=>rw[hk] at hh;exact hh.elim
 |some o=>
  rw[hk] at hh;obtain⟨h1,h2,h3⟩:=hh;refine⟨h1,h2,?_⟩
  split at h3
  ·split at h3
   ·rename_i r heq;rw[heq];exact⟨by simp,by simpa using h3⟩
   ·exact h3.elim
  ·obtain⟨r,hr,h4⟩:=h3;obtain⟨g1,g2⟩:=w8 hr;exact⟨g1,by rw[g2];exact h4⟩
theorem AW{h:Hp}{x:V}{K:V->Prop}(hh:p0 cp h x K):nW h x K:=by
 cases x<;>first|exact hh|exact yp hh
theorem AX{h:Hp}{n:Nat}{x:V}{K:V->Prop}(hh:p5 cp h n x K):nX h n x K:=by
 cases x<;>first|exact hh|exact yp hh
theorem AY{h:Hp}{n:Nat}{x v:V}{K:Hp->Prop}(hh:rX cp h n x v K):tI h n x v K:=by
 cases x<;>try exact hh
 rename_i j b sz i off;unfold rX at hh;unfold tI;simp only[] at hh⊢;unfold nO at hh;unfold s9;cases hk:h j with
 |none=>rw[hk] at hh;exact hh.elim
 |some o=>
  rw[hk] at hh;obtain⟨h1,h2,h3⟩:=hh;refine⟨h1,h2,?_⟩
  split at h3
  ·rename_i hb
   split at h3
   ·rename_i r heq;obtain⟨a1,a2,a3⟩:=h3;rw[heq];refine⟨by simp,by simpa using a1,a2,?_⟩;simp only[F5,hb] at a3;simpa[heq] using a3
   ·exact h3.elim
  ·rename_i hb;obtain⟨r,hr,a1,a2,a3⟩:=h3;obtain⟨g1,g2⟩:=w8 hr;refine⟨g1,by rw[g2];exact a1,a2,?_⟩;rw[g2];simp only[F5,hb] at a3;exact a3
theorem vR{h:Hp}{sz:Nat}{v:V}{K:List (List V)->Prop}(hh:mh cp h sz v K):∃rows,rowsOf h sz v=some rows/\K rows:=by
 cases v<;>try exact hh.elim
 case sl t sz' rows=>exact⟨rows,by simp[rowsOf,hh.1],hh.2⟩
 case nilsl=>exact⟨[],rfl,hh⟩
 case own k b sz' n=>
  unfold mh at hh;simp only[] at hh;cases hk:h k with
  |none=>rw[hk] at hh;exact hh.elim
  |some o=>
   rw[hk] at hh;obtain⟨h1,h2,h3,h4,h5⟩:=hh;have h4:o.rows.length=n:=h4;refine⟨o.rows,?_,h5⟩;simp only[rowsOf,hk];rw[ab ⟨h1,h2,h3,qW⟩,<-h4,aN]
theorem yq{h:Hp}{k ty sz bytes:Nat}{x y:V}{K:V->Hp->Prop}(hh:kP cp h k ty sz bytes x y K):qB h k ty sz bytes x y K:=by
 unfold kP at hh;obtain⟨rows,h1,h2⟩:=vR hh;unfold qB;rw[h1];exact h2
theorem F8{sz:Nat}{ev:hS->V}{l:List hS}(h:(l.all λq=>nH sz (ev q))=true):∀p∈l,(ev p).fits sz:=by
 intro p hp;have:=aF.1 h p hp;simp only[nH,aO,dh] at this;exact this
theorem F9{T:cm}{op:pG}{ev:hS->V}{h:Hp}{k:Nat}{K:V->Hp->Prop}(hh:fJ cp T op ev h k K):pW T op ev h (keyOf op k) K:=by
 cases op
 case load1=>exact AW hh
 case loadn n x=>exact AX (n:=n) (x:=ev x) (K:=λv=>K v h) hh
 case store=>exact AY hh
 case bin=>exact F7 hh
 case eqs neg ts x y=>exact F6 (K:=λv=>K v h) hh
 case append=>exact yq hh
 case convbs x=>
  obtain⟨rows,h1,l,h2,h3⟩:=vR (show mh cp h 1 (ev x) λrows=>∃l,cp.wZ rows l/\K (.str l) h from hh);exact⟨l,by rw[h1];exact ay some h2,h3⟩
 case not x=>
  simp only[fJ] at hh;simp only[pW]
  split at hh
  ·rename_i b heq;rw[heq];cases b<;>exact hh
  ·exact hh.elim
 case pick c a b=>
  simp only[fJ] at hh;simp only[pW]
  split at hh
  ·rename_i heq;rw[heq];exact hh
  ·rename_i heq;rw[heq];exact hh
  ·exact hh.elim
 case build z parts=>
  refine⟨λq hq=>?_,hh.2⟩;have:=aF.1 hh.1 q hq;simp only[nH,aO,dh] at this;exact this
 case bslice ty sz parts=>exact⟨hh.1,F8 hh.2.1,hh.2.2⟩
 case slsl sz x lo hi=>
  simp only[fJ] at hh;simp only[pW]
  split at hh
  ·rename_i heq;rw[heq];obtain⟨h1,h2⟩:=hh;refine⟨h1,?_⟩;unfold AI Ls at*;unfold K2;exact h2
  ·rename_i heq;rw[heq];obtain⟨h1,h2⟩:=hh;refine⟨h1,?_⟩;unfold AI Ls at*;unfold K2;exact h2
  ·rename_i heq;rw[heq];obtain⟨h1,h2⟩:=hh;refine⟨h1,?_⟩;unfold AI Ls at*;unfold K2;exact h2
  ·exact hh.elim
 case slstr x lo hi=>
  simp only[fJ] at hh;simp only[pW]
  split at hh
  ·rename_i heq;rw[heq];unfold AI Ls at*;unfold K2;exact hh
  ·exact hh.elim
 case iaddr sz x i=>
  simp only[fJ] at hh;simp only[pW]
  split at hh
  ·rename_i t sz' rows ki ii e1 d;rw[e1,d];obtain⟨h1,h2,r,h3,h4⟩:=hh;obtain⟨g1,g2⟩:=w8 h3;have f:0<=ii:=h2;have j:ii.toNat<rows.length:=g1;have e:rows.getD ii.toNat []=r:=g2;exact⟨h1,h2,qW,by rw[e];exact h4⟩
  ·rename_i e1 d;rw[e1,d];exact hh
  ·rename_i e1 d;rw[e1,d];exact hh
  ·exact hh.elim
 case iarr len sz x i=>
  simp only[fJ] at hh;simp only[pW]
  split at hh
  ·rename_i e1 d;rw[e1,d];obtain⟨h1,h2,n,rfl,h3⟩:=hh;exact⟨h1,h2,h3⟩
  ·rename_i e1 d;rw[e1,d];obtain⟨h1,h2,n,rfl,h3⟩:=hh;exact⟨h1,h2,h3⟩
  ·exact hh.elim
 case ixa g len sz x i=>
  simp only[fJ] at hh;simp only[pW]
  split at hh
  ·rename_i e1 d;rw[e1,d];obtain⟨h1,h2,h3,h4,n,rfl,h5⟩:=hh;refine⟨h1,h2,by simpa using h3,Nat.le_of_ble_eq_true h4,?_⟩;cases g<;>exact h5
  ·exact hh.elim
 case len str x=>
  simp only[fJ,pW] at*;unfold Ph at hh;unfold DY;exact hh
 case eqn neg x=>
  simp only[fJ,pW] at*;unfold F4 at hh;unfold Pb;exact hh
 case mm mx x y=>
  simp only[fJ] at hh;simp only[pW]
  split at hh
  ·rename_i e1 d;rw[e1,d];exact hh
  ·rename_i e1 d;rw[e1,d];exact hh
  ·exact hh.elim
 all_goals exact hh
def S4(n:Nat)(d:Option Tmp):Bool:=match d with
 |some d=>decide (d<n)
 |none=>true
def Rp(P:Program)(n:Nat)(ops:Array Oper)(o:Oper):Option AO:=
 match Lf P o.op with
 |some ao=>
  if S4 n o.dst then
   match o.guard with
   |none=>some ⟨o.dst,none,ao⟩
   |some (j,want)=>match(ops[j]?).bind (·.dst) with
    |some t=>if t<n then some ⟨o.dst,some (t,want),ao⟩ else none
    |none=>none
  else none
 |none=>none
def pI(P:Program)(n:Nat)(ops:Array Oper):List Oper->Option (List AO)
 |[]=>some []
 |o::l=>match Rp P n ops o,pI P n ops l with
  |some a,some m=>some (a::m)
  |_,_=>none
def iU(p:Prim)(C:cm)(o:AO)(s:S)(K:S->Prop):Prop:=fJ p C o.op (hS.ev s) s.h (o.d.getD 0) λv h=>K ((s.hU h).put o.d v)
def gm(p:Prim)(C:cm)(o:AO)(s:S)(K:S->Prop):Prop:=match o.g with
 |none=>iU p C o s K
 |some (g,true)=>match s.t g with
  |.bool b=>br b (λ_=>iU p C o (s.set g (.bool true)) K) (λ_=>K ((s.set g (.bool false)).put o.d .mN))
  |.mN=>K (s.put o.d .mN)
  |_=>False
 |some (g,false)=>match s.t g with
  |.bool b=>br b (λ_=>K ((s.set g (.bool true)).put o.d .mN)) (λ_=>iU p C o (s.set g (.bool false)) K)
  |.mN=>K (s.put o.d .mN)
  |_=>False
def n5(p:Prim)(C:cm):List AO->S->(S->Prop)->Prop
 |[],s,K=>K s
 |o::l,s,K=>gm p C o s λs=>n5 p C l s K
def cd(s s':S):Prop:=∀C n a w,Ctx.Ok C->Sat C n s a w->Sat C n s' a w
def look:List (Nat×V)->Nat->V
 |[],_=>.gC
 |(k,v)::l,i=>if i=k then v else look l i
def a8:List (Nat×Ob)->Nat->Option Ob
 |[],_=>none
 |(k,o)::l,i=>if i=k then some o else a8 l i
def St(l:List (Nat×V))(h:List (Nat×Ob)):S:=⟨look l,a8 h⟩
def agree:List (Nat×V)->S->Prop
 |[],_=>True
 |(k,v)::l,s=>s.t k=v/\agree l s
def eP:List (Nat×Ob)->S->Prop
 |[],_=>True
 |(k,o)::l,s=>s.h k=some o/\eP l s
theorem cd.refl(s:S):cd s s:=λ_ _ _ _ _ h=>h
theorem cd.trans{a b c:S}(h:cd a b)(h':cd b c):cd a c:=λC n x w hC hs=>h' C n x w hC (h C n x w hC hs)
theorem fT.sub{C:Ctx}{F:Nat->Prop}{h h':Hp}{w:World}(hs:fT C F h w)(hh:∀k o,h' k=some o->h k=some o):fT C F h' w:=
 ⟨λk o hk=>hs.ob k o (hh k o hk),λk k' o o' b hk a=>hs.inj k k' o o' b (hh k o hk) (hh k' o' a),λk o b hk=>hs.live k o b (hh k o hk),hs.jE,hs.new,hs.lt,hs.ev⟩
theorem cd.of{s s':S}(ht:∀i,s'.t i=s.t i\/s'.t i=.gC)(hh:∀k o,s'.h k=some o->s.h k=some o):cd s s':=by
 intro C n a w hC hs;obtain⟨F,h1,h2⟩:=hs.ex;refine⟨⟨F,h1.sub hh,λi=>?_⟩,hs.df,hs.sz⟩
 rcases ht i with h|h
 ·rw[h];exact h2 i
 ·rw[h];exact .gC _
theorem AZ{l:List (Nat×V)}{s:S}(h:agree l s)(i:Nat):look l i=s.t i\/look l i=.gC:=by
 induction l with
 |nil=>exact .inr rfl
 |cons p l ih=>
  obtain⟨k,v⟩:=p;obtain⟨h1,h2⟩:=h;simp only[look]
  by_cases hi:i=k
  ·rw[ab hi,hi];exact .inl h1.symm
  ·rw[aa hi];exact ih h2
theorem n6{l:List (Nat×Ob)}{s:S}(h:eP l s)(k:Nat)(o:Ob)(hk:a8 l k=some o):s.h k=some o:=by
 induction l with
 |nil=>cases hk
 |cons p l ih=>
  obtain⟨k',o'⟩:=p;obtain⟨h1,h2⟩:=h;simp only[a8] at hk
  by_cases hi:k=k'
  ·rw[ab hi] at hk;cases hk;rw[hi];exact h1
  ·rw[aa hi] at hk;exact ih h2 hk
theorem cd.st{s:S}{l:List (Nat×V)}{h:List (Nat×Ob)}(h1:agree l s)(h2:eP h s):cd s (St l h):=cd.of (AZ h1) (n6 h2)
def Next{Y:Type}(L:Y->List (Nat×V))(H:Y->List (Nat×Ob))(b:Y->Nat)(y:Y)(s:S):Prop:=∃s1,cd s s1/\∃a,agree (L a) s1/\eP (H a) s1/\b a<b y
inductive yr(A B:Prop):Prop
 |mk (a:A) (b:B):yr A B
def gp:List Nat->Nat->Bool
 |[],_=>false
 |x::l,i=>Nat.beq x i||gp l i
def jk(done:List Nat):Nat->List (AO×List Nat)->List (Nat×AO)
 |_,[]=>[]
 |i,(o,ps)::l=>match !(gp done i)&&ps.all (gp done) with
  |true=>(i,o)::jk done (i+1) l
  |false=>jk done (i+1) l
def ys:List (Nat×AO)->(Nat->AO->Prop)->Prop
 |[],_=>True
 |[(i,o)],f=>f i o
 |(i,o)::x::l,f=>yr (f i o) (ys (x::l) f)
def nm(p:Prim)(T:cm)(ops:List (AO×List Nat)):Nat->List Nat->S->(S->Prop)->Prop
 |0,_,s,K=>K s
 |n+1,done,s,K=>ys (jk done 0 ops) λi o=>gm p T o s λs=>nm p T ops n (i::done) s K
def Ga(c:hS)(s:S)(b:Bool):S:=match c with
 |.t i=>s.set i (.bool b)
 |_=>s
def gE(p:Prim)(T:cm)(a:cm):AC->S->(S->Prop)->(Nat->S->Prop)->(S->Prop)->Prop
 |.skip,s,N,_,_=>N s
 |.region false ops,s,N,_,_=>n5 p T ops s N
 |.region true ops,s,N,_,_=>n5 p a ops s N
 |.seq x y,s,N,X,R=>gE p T a x s (λs=>gE p T a y s N X R) X R
 |.cond c x y,s,N,X,R=>match c.ev s with
  |.bool t=>br t (λ_=>gE p T a x (Ga c s true) N X R) (λ_=>gE p T a y (Ga c s false) N X R)
  |_=>False
 |.block id x,s,N,X,R=>gE p T a x s N (λj s=>if j=id then N s else X j s) R
 |.loop x,s,_,X,R=>∃(Y:Type)(L:Y->List (Nat×V))(H:Y->List (Nat×Ob))(b:Y->Nat),(∃s1,cd s s1/\∃y,agree (L y) s1/\eP (H y) s1)/\∀y,gE p T a x (St (L y) (H y)) (Next L H b y) X R
 |.exit id,s,_,X,_=>X id s
 |.ret,s,_,_,R=>R s
 |.mc ops,s,N,_,_=>nm p T ops ops.length [] s N
section
variable {P:Program} {C:Ctx} {n:Nat} {w:World} {a:Act} {s:S}
theorem vt{a:Act}{d:Nat}{u:Value}(h:d<a.tmps.size):(a.put (some d) u).tmps.getD d undef=u:=by
 simp[Act.put,h]
theorem tZ{a:Act}{d i:Nat}{u:Value}(h:i≠d):(a.put (some d) u).tmps.getD i undef=a.tmps.getD i undef:=by
 simp[Act.put,bp,Ne.symm h]
theorem Sat.put(hs:Sat C n s a w){w':World}{F':Nat->Prop}{h':Hp}{v:V}{u:Value}{d:Option Tmp}(hd:S4 n d=true)(hh:fT C F' h' w')(hv:Rel F' C.B w' v u)
  (hk:∀i:Nat,Rel F' C.B w' (s.t i) (a.tmps.getD i undef)):Sat C n ((s.hU h').put d v) (a.put d u) w':=by
 cases d with
 |none=>exact⟨⟨F',hh,hk⟩,hs.df,hs.sz⟩
 |some d=>
  have b:d<a.tmps.size:=by rw[hs.sz];simpa[S4] using hd
  refine⟨⟨F',hh,λi=>?_⟩,hs.df,by simp[Act.put,hs.sz]⟩;simp only[S.put,S.set,S.hU,jh]
  by_cases hi:i=d
  ·subst hi;rw[ab rfl,vt b];exact hv
  ·rw[aa hi,tZ hi];exact hk i
theorem Sat.Pj(hs:Sat C n s a w){g:Nat}{b:Bool}(hg:s.t g=.bool b):Sat C n (s.set g (.bool b)) a w:=by
 obtain⟨F,hh,hr⟩:=hs.ex;refine⟨⟨F,hh,λi=>?_⟩,hs.df,hs.sz⟩;simp only[S.set,jh]
 by_cases hi:i=g
 ·subst hi;rw[ab rfl,<-hg];exact hr i
 ·rw[aa hi];exact hr i
theorem ud(hs:Sat C n s a w){ops:Array Oper}{j t:Nat}{b:Bool}(hj:(ops[j]?).bind (·.dst)=some t)(ht:t<n)(hb:s.t t=.bool b):yielded ops a.tmps j=some b:=by
 obtain⟨F,hh,hr⟩:=hs.ex;have:=hr t;rw[hb] at this;have hlt:t<a.tmps.size:=by rw[hs.sz];exact ht
 have hg:a.tmps.getD t undef=a.tmps[t]:=by simp[hlt]
 rw[hg] at this
 generalize hu:a.tmps[t]=u at this
 cases this;unfold yielded;rw[hj];simp[hlt,hu]
theorem Ec{p:Prim}{T:cm}{o:AO}{l:List AO}{K:S->Prop}:n5 p T (o::l) s K=gm p T o s λs=>n5 p T l s K:=rfl
theorem sK{T:cm}(h:rU P T)(hC:C.Ok){ops:Array Oper}{o:Oper}{ao:AO}{op:pG}{K:S->Prop}{Q:Exit->Act->World->Prop}(ht:Lf P o.op=some op)(b:ao.op=op)(hd:S4 n o.dst=true)(c:ao.d=o.dst)(hs:Sat C n s a w)
  (hK:iU cp T ao s K):o.wp P a w (λg w'=>∃s',Sat C n s' g w'/\K s') Q:=by
 obtain⟨F,hh,hr⟩:=hs.ex;subst b;refine Oper.wp_mono (λg w' hp=>?_) (D9 h hC ht hh hr (F9 hK));obtain⟨u,v,h',F',rfl,hv,e,hk,f⟩:=hp;exact⟨_,by rw[c];exact Sat.put hs hd e hv λi=>hk _ _ (hr i),f⟩
theorem lH{T:cm}(l:rU P T)(hC:C.Ok){ops:Array Oper}{o:Oper}{ao:AO}{K:S->Prop}{Q:Exit->Act->World->Prop}{J:Act->World->Prop}(ht:Rp P n ops o=some ao)(hs:Sat C n s a w)(hK:gm cp T ao s K)
  (i:∀s' e w',Sat C n s' e w'->K s'->J e w'):if Region.wanted o (yielded ops a.tmps) then o.wp P a w J Q\/(o.asks P a w/\LetsOut Q) else J (a.put o.dst undef) w:=by
 unfold Rp at ht
 split at ht
 ·rename_i op f
  split at ht
  ·rename_i hd
   split at ht
   ·rename_i hg;cases ht;have hw:Region.wanted o (yielded ops a.tmps)=true:=by simp[Region.wanted,hg]
    rw[ab hw];refine .inl (Oper.wp_mono (λe w'⟨s',h1,h2⟩=>i s' e w' h1 h2) (sK l hC (ops:=ops) (ao:=⟨o.dst,none,op⟩) f rfl hd rfl hs hK))
   ·rename_i j want hg
    split at ht
    ·rename_i t hj
     split at ht
     ·rename_i d;cases ht;have mN:s.t t=.mN->(if Region.wanted o (yielded ops a.tmps) then o.wp P a w J Q\/(o.asks P a w/\LetsOut Q) else J (a.put o.dst undef) w)\/¬K (s.put o.dst .mN):=by
       intro hu
       by_cases g:K (s.put o.dst .mN)
       ·left
        obtain⟨F,hh,hr⟩:=hs.ex;have hlt:t<a.tmps.size:=by rw[hs.sz];exact d
        have c:=hr t;rw[hu] at c;have k:a.tmps.getD t undef=a.tmps[t]:=by simp[hlt]
        rw[k] at c
        generalize hv:a.tmps[t]=v at c
        cases c;have hy:yielded ops a.tmps j=none:=by unfold yielded;rw[hj];simp[hlt,hv,undef]
        have hw:¬Region.wanted o (yielded ops a.tmps)=true:=by simp[Region.wanted,hg,hy]
        rw[aa hw];exact i _ _ _ (Sat.put hs hd hh .mN hr) g
       ·exact .inr g
      have yes:s.t t=.bool want->iU cp T ⟨o.dst,some (t,want),op⟩ (s.set t (.bool want)) K->(if Region.wanted o (yielded ops a.tmps) then o.wp P a w J Q\/(o.asks P a w/\LetsOut Q) else J (a.put o.dst undef) w):=by
       intro hb hK;have hy:=ud hs hj d hb;have hw:Region.wanted o (yielded ops a.tmps)=true:=by simp[Region.wanted,hg,hy]
       rw[ab hw];exact .inl (Oper.wp_mono (λe w'⟨s',h1,h2⟩=>i s' e w' h1 h2) (sK l hC (ops:=ops) (ao:=⟨o.dst,some (t,want),op⟩) f rfl hd rfl (hs.Pj hb) hK))
      have no:∀b,b≠want->s.t t=.bool b->K ((s.set t (.bool b)).put o.dst .mN)->(if Region.wanted o (yielded ops a.tmps) then o.wp P a w J Q\/(o.asks P a w/\LetsOut Q) else J (a.put o.dst undef) w):=by
       intro b hne hb hK;have hy:=ud hs hj d hb;have hw:¬Region.wanted o (yielded ops a.tmps)=true:=by simp[Region.wanted,hg,hy,hne]
       rw[aa hw];have hs2:=hs.Pj hb;obtain⟨F,hh,hr⟩:=hs2.ex;exact i _ _ _ (Sat.put hs2 hd hh .mN hr) hK
      cases want with
      |true=>
       simp only[gm] at hK
       split at hK
       ·rename_i b hb;cases b with
        |true=>exact yes hb hK
        |false=>exact no false qD hb hK
       ·rename_i hu;exact(mN hu).resolve_right (λh=>h hK)
       ·exact hK.elim
      |false=>
       simp only[gm] at hK
       split at hK
       ·rename_i b hb;cases b with
        |true=>exact no true qD hb hK
        |false=>exact yes hb hK
       ·rename_i hu;exact(mN hu).resolve_right (λh=>h hK)
       ·exact hK.elim
     ·cases ht
    ·cases ht
  ·cases ht
 ·cases ht
theorem A0{T:cm}(c:rU P T)(hC:C.Ok){ops:Array Oper}{Q:Exit->Act->World->Prop}:∀(l:List Oper)(al:List AO)(s:S)(a:Act)(w:World)(K:S->Prop),pI P n ops l=some al->Sat C n s a w->n5 cp T al s K->
  (∀s' b w',Sat C n s' b w'->K s'->Q .normal b w')->wpList P ops Q l a w:=by
 intro l
 induction l with
 |nil=>
  intro al s a w K ht hs hK hQ;simp only[pI,aC] at ht;subst ht;exact hQ s a w hs hK
 |cons o l ih=>
  intro al s a w K ht hs hK hQ;simp only[pI] at ht
  split at ht
  ·rename_i ao m ho hm;cases ht;rw[Ec] at hK;exact lH c hC ho hs hK λs' b w' h1 h2=>ih m s' b w' K hm h1 h2 hQ
  ·cases ht
end
def fS(ops:Array Oper)(i:Nat):List Nat:=match ops[i]? with
 |some o=>(o.after.toList.filter (Region.binds .any)).map (·.on)
 |none=>[]
theorem yt{l:List Nat}{i:Nat}:gp l i=true↔i∈l:=by
 induction l with
 |nil=>simp[gp]
 |cons x l ih=>
  rw[gp,bq,ih,ah];exact⟨λh=>h.imp (λe=>(bP e).symm) id,λh=>h.imp (λe=>by rw[e];exact bY x) id⟩
theorem ue{f:Nat->AO->Prop}:∀{l:List (Nat×AO)},ys l f->∀{i o},(i,o)∈l->f i o
 |[],_,i,o,h=>by cases h
 |[(j,q)],h,i,o,hm=>by simp at hm;obtain⟨rfl,rfl⟩:=hm;exact h
 |(j,q)::x::l,h,i,o,hm=>by
  obtain⟨h1,h2⟩:=h
  rcases ah.1 hm with hm|hm
  ·cases hm;exact h1
  ·exact ue h2 hm
theorem p6{done:List Nat}:∀{l:List (AO×List Nat)}{m j:Nat}{o:AO}{ps:List Nat},l[j]? =some (o,ps)->(m+j)∉done->(∀q∈ps,q∈done)->(m+j,o)∈jk done m l
 |[],m,j,o,ps,h,_,_=>by simp at h
 |(o',a)::l,m,0,o,ps,h,h1,h2=>by
  simp only[bR,aC,aX] at h;obtain⟨rfl,rfl⟩:=h;have e:(!(gp done m)&&a.all (gp done))=true:=by
   rw[aO,aF];refine⟨?_,λq hq=>yt.2 (h2 q hq)⟩;cases hh:gp done m
   ·rfl
   ·exact absurd (yt.1 hh) h1
  simp only[jk,e,bQ];exact aR
 |(o',a)::l,m,j+1,o,ps,h,h1,h2=>by
  have:=p6 (done:=done) (l:=l) (m:=m+1) (j:=j) (by simpa using h) (by rw[show m+1+j=m+(j+1) by omega];exact h1) h2;rw[show m+1+j=m+(j+1) by omega] at this;simp only[jk]
  split
  ·exact aY _ this
  ·exact this
def w9(ops:Array Oper):Bool:=(List.range ops.size).all λi=>(fS ops i).all λj=>decide (j<i)
def iK(ops:Array Oper)(al:List AO):List (AO×List Nat):=al.zip ((List.range ops.size).map (fS ops))
theorem rY{P:Program}{n:Nat}{ops:Array Oper}:∀{l:List Oper}{al:List AO},pI P n ops l=some al->l.length=al.length/\∀(i:Nat)(o:Oper),l[i]? =some o->∃a,al[i]? =some a/\Rp P n ops o=some a
 |[],al,h=>by simp[pI] at h;subst h;simp
 |o::l,al,h=>by
  simp only[pI] at h
  split at h
  ·rename_i a m ha hm;cases h;obtain⟨h1,h2⟩:=rY hm;refine⟨by simp[h1],λi o' ho=>?_⟩;cases i with
   |zero=>simp at ho;subst ho;exact⟨a,rfl,ha⟩
   |succ i=>exact h2 i o' (by simpa using ho)
  ·cases h
theorem uf:∀(l:List Nat),l≠[]->∃i∈l,∀j∈l,i<=j
 |[],h=>absurd rfl h
 |[x],_=>⟨x,by simp,by simp⟩
 |x::y::l,_=>by
  obtain⟨i,hi,hm⟩:=uf (y::l) (by simp)
  by_cases hx:x<=i
  ·exact⟨x,by simp,λj hj=>by rcases ah.1 hj with rfl|hj;exact ak _;have:=hm j hj;omega⟩
  ·exact⟨i,aY _ hi,λj hj=>by rcases ah.1 hj with rfl|hj;omega;exact hm j hj⟩
section
variable {P:Program}
theorem A1{C:Ctx}{n:Nat}{ops:Array Oper}{al:List AO}{Q:Exit->Act->World->Prop}(hC:C.Ok)(y:pI P n ops ops.toList=some al)(H:w9 ops=true){K:S->Prop}(hQ:∀s' x w',Sat C n s' x w'->K s'->Q .normal x w'):
  ∀(k:Nat)(R:List Nat)(listed:Array Bool)(done:List Nat)(s:S)(a:Act)(w:World),R.length=k->R.Nodup->listed.size=ops.size->(∀i,i∈R↔i<ops.size/\listed.getD i true=false)->(∀i,i<ops.size->(i∈done↔listed.getD i true=true))->
   Sat C n s a w->nm cp (dF P) (iK ops al) k done s K->wpAny P .any ops Q k listed a w:=by
 have f:∀(listed:Array Bool)(i:Nat),listed.size=ops.size->i<ops.size->listed.getD i true=listed.getD i false:=by
  intro listed i hs hi;have:i<listed.size:=by omega
  simp[this]
 have qw:∀i,i<ops.size->∀j∈fS ops i,j<i:=by
  intro i hi j hj;unfold w9 at H;have h1:=aF.1 H i (bI.2 hi);simpa using aF.1 h1 j hj
 obtain⟨hlen,l⟩:=rY y;intro k
 induction k with
 |zero=>
  intro R listed done s a w hk _ hsz b _ hs hK;have I:R=[]:=aB hk;subst I;refine⟨cV.2 λj hj=>?_,hQ s a w hs hK⟩;obtain⟨h1,o,ho,_⟩:=mem_ready.1 hj;have:=(b j).2 ⟨(aA.1 ho).1,h1⟩;cases this
 |succ k ih=>
  intro R listed done s a w hk p hsz b c hs hK;refine⟨λhr=>?_,λi hi=>?_⟩
  ·exfalso
   obtain⟨i0,r,t⟩:=uf R (by intro h;subst h;cases hk);obtain⟨g,hl0⟩:=(b i0).1 r;have:i0∈Region.ready .any ops listed:=by
    refine mem_ready.2 ⟨hl0,ops[i0],aT g,λe he hb=>?_⟩;have hp:e.on∈fS ops i0:=by
     unfold fS;rw[aT g];exact aM.2 ⟨e,cB.2 ⟨by simpa using he,hb⟩,rfl⟩
    have hlt:=qw i0 g _ hp
    by_cases hl:listed.getD e.on false=true
    ·exact hl
    ·exfalso
     have h3:listed.getD e.on true=false:=by rw[f listed e.on hsz qW];simpa using hl
     have:=t e.on ((b e.on).2 ⟨qW,h3⟩);omega
   rw[hr] at this;cases this
  ·obtain⟨hl,o,ho,iF⟩:=mem_ready.1 hi;have rZ:i<ops.size:=(aA.1 ho).1;have z:i∈R:=(b i).2 ⟨rZ,hl⟩;obtain⟨J,A,B⟩:=l i o (by simpa using ho);have u:i∉done:=λh=>by have:=(c i rZ).1 h;rw[hl] at this;cases this
   have hz:(iK ops al)[i]? =some (J,fS ops i):=by
    unfold iK;rw[List.getElem?_zip_eq_some];exact⟨A,by simp[rZ]⟩
   have hr:=p6 (done:=done) (m:=0) (j:=i) hz (by simpa using u) (λq hq=>by
    have D:=hq;unfold fS at hq;rw[ho] at hq;obtain⟨e,he,rfl⟩:=aM.1 hq;obtain⟨E,F⟩:=cB.1 he;have h4:=iF e (by simpa using E) F;have hlt:e.on<ops.size:=by have:=qw i rZ _ D;omega
    exact(c e.on hlt).2 (by rw[f listed e.on hsz hlt];exact h4))
   rw[aW] at hr;have v:=ue (show ys (jk done 0 (iK ops al)) (λi o=>gm cp (dF P) o s λs=>nm cp (dF P) (iK ops al) k (i::done) s K) from hK) hr;unfold wpOp;rw[ho];refine lH tU hC B hs v λs' x w' hs' G=>ih (R.erase i) (listed.setIfInBounds i true) (i::done) s' x w' ?_ (p.erase i) (by simp[hsz]) (λj=>?_) (λj hj=>?_) hs' G
   ·rw[List.length_erase_of_mem z];omega
   ·rw[p.mem_erase_iff,b j]
    by_cases d:i=j
    ·subst d;have h1:(listed.setIfInBounds i true).getD i true=true:=by
      have:i<listed.size:=by omega
      simp[this]
     rw[h1];simp
    ·rw[getD_set_ne true d];exact⟨λh=>h.2,λh=>⟨λe=>d e.symm,h⟩⟩
   ·by_cases d:i=j
    ·subst d;have h1:(listed.setIfInBounds i true).getD i true=true:=by
      have:i<listed.size:=by omega
      simp[this]
     rw[h1];simp
    ·rw[getD_set_ne true d,<-c j hj,ah];exact⟨λh=>h.resolve_left λe=>d e.symm,.inr⟩
end
inductive K4(ops:Array Oper):Nat->Nat->Prop
 |base {j i} (h:j∈fS ops i):K4 ops j i
 |step {j k i} (h:k∈fS ops i) (h':K4 ops j k):K4 ops j i
def n7(ops:Array Oper):Nat->List (List Nat)
 |0=>[]
 |n+1=>
  let t:=n7 ops n
  t++[(fS ops n++(fS ops n).flatMap λk=>t.getD k []).eraseDups]
theorem np(ops:Array Oper)(n:Nat):(n7 ops n).length=n:=by
 induction n with
 |zero=>rfl
 |succ n ih=>simp[n7,ih]
theorem nq(ops:Array Oper):∀(n i j:Nat),j∈(n7 ops n).getD i []->K4 ops j i:=by
 intro n
 induction n with
 |zero=>intro i j h;simp[n7] at h
 |succ n ih=>
  intro i j h;simp only[n7] at h;rw[au] at h
  by_cases hi:i<n
  ·rw[bu (by rw[np];exact hi),<-au] at h;exact ih i j h
  ·by_cases hin:i=n
   ·subst hin;rw[bB (by rw[np];exact ak _),np] at h;simp only[Nat.sub_self,bR,Option.getD_some,List.mem_eraseDups,bj,List.mem_flatMap] at h
    rcases h with h|⟨k,hk,h⟩
    ·exact .base h
    ·exact .step hk (ih k j h)
   ·rw[bh (by simp[np];omega)] at h;simp at h
def pG.Pk:pG->Bool
 |.call .. =>true
 |_=>false
def Cc(ops:Array Oper)(al:List AO):Bool:=match al.getLast? with
 |some o=>o.op.Pk&&(List.range (ops.size-1)).all λj=>((n7 ops ops.size).getD (ops.size-1) []).contains j
 |none=>false
def vp(P:Program)(n:Nat)(D:Array Oper->List AO->Bool):Code->Option AC
 |.skip=>some .skip
 |.region _ ops a=>match pI P n ops ops.toList with
  |some al=>if a then(if D ops al then(if Cc ops al then some (.seq (.region true al.dropLast) (.region false (al.drop (al.length-1)))) else some (.region true al)) else if w9 ops then some (.mc (iK ops al)) else none) else some (.region false al)
  |none=>none
 |.seq x y=>match vp P n D x,vp P n D y with
  |some x,some y=>some (.seq x y)
  |_,_=>none
 |.cond c x y=>match mf c,vp P n D x,vp P n D y with
  |some c,some x,some y=>some (.cond c x y)
  |_,_,_=>none
 |.block id x=>(vp P n D x).map (.block id)
 |.loop x=>(vp P n D x).map .loop
 |.exit id=>some (.exit id)
 |.ret=>some .ret
 |.scope x=>vp P n D x
 |_=>none
def UW(C:Ctx)(n:Nat)(N:S->Prop)(X:Nat->S->Prop)(R:S->Prop):Exit->Act->World->Prop
 |.normal,a,w=>∃s,Sat C n s a w/\N s
 |.exit j,a,w=>∃s,Sat C n s a w/\X j s
 |.ret,a,w=>∃s,Sat C n s a w/\R s
 |_,_,_=>False
def lh(P:Program)(D:Array Oper->List AO->Bool):Prop:=P.follows .mixedOrders=true/\
 (∀(C:Ctx)(n id:Nat)(ops:Array Oper)(al:List AO)(s:S)(a:Act)(w:World)(K:S->Prop)(Q:Exit->Act->World->Prop),C.Ok->pI P n ops ops.toList=some al->D ops al=true->Sat C n s a w->n5 cp (fk P) al s K->
  (∀s' b w',Sat C n s' b w'->K s'->Q .normal b w')->(Code.region id ops true).wp P Q a w)/\
 (∀(C:Ctx)(n id:Nat)(ops:Array Oper)(al:List AO)(s:S)(a:Act)(w:World)(K:S->Prop)(Q:Exit->Act->World->Prop),C.Ok->pI P n ops ops.toList=some al->D ops al=true->Cc ops al=true->Sat C n s a w->n5 cp (fk P) al.dropLast s (λs'=>n5 cp (dF P) (al.drop (al.length-1)) s' K)->
  (∀s' b w',Sat C n s' b w'->K s'->Q .normal b w')->(Code.region id ops true).wp P Q a w)
theorem pd{P:Program}{C:Ctx}{n:Nat}{D:Array Oper->List AO->Bool}(B:lh P D)(hC:C.Ok):∀(c:Code)(ac:AC)(s:S)(a:Act)(w:World)(N:S->Prop)(X:Nat->S->Prop)(R:S->Prop),vp P n D c=some ac->Sat C n s a w->gE cp (dF P) (fk P) ac s N X R->
  c.wp P (UW C n N X R) a w:=by
 intro c
 induction c with
 |skip=>
  intro ac s a w N X R ht hs hK;simp only[vp,aC] at ht;subst ht;exact wp_skip ⟨s,hs,hK⟩
 |region id ops K=>
  intro ac s a w N X R ht hs hK;simp only[vp] at ht
  split at ht
  ·rename_i al d;cases K with
   |false=>
    simp only[dA,↓reduceIte,aC] at ht;subst ht;exact wp_region_list (A0 tU hC _ _ _ _ _ _ d hs hK λs' f w' h1 h2=>⟨s',h1,h2⟩)
   |true=>
    simp only[↓reduceIte] at ht
    split at ht
    ·rename_i hd
     split at ht
     ·rename_i hl;cases ht;exact B.2.2 C n id ops al s a w N _ hC d hd hl hs hK λs' f w' h1 h2=>⟨s',h1,h2⟩
     ·cases ht;exact B.2.1 C n id ops al s a w N _ hC d hd hs hK λs' f w' h1 h2=>⟨s',h1,h2⟩
    ·split at ht
     ·rename_i hp;cases ht;refine wp_region_any B.1 ?_;have hs2:Sat C n s a {w with drawn:=w.drawn+1}:=by
       obtain⟨F,hh,hr⟩:=hs.ex;have m:Ev (λ_=>False) w {w with drawn:=w.drawn+1}:=Ev.drew _ w
       refine⟨⟨F,⟨λk o hk=>fe.keep hC hh m (λ_ _ h=>h.elim) (hh.ob k o hk) (λ_ _ h=>h.elim),hh.inj,hh.live,hh.jE,hh.new,hh.lt,Ev.qE hh.ev m λ_ _ h=>h.elim⟩,λi=>hh.keep hC m (λ_ _ h=>h.elim) (hr i)⟩,hs.df,hs.sz⟩
      have hlen:=(rY d).1;have r:(iK ops al).length=ops.size:=by simp[iK,<-hlen]
      have E:nm cp (dF P) (iK ops al) ops.size [] s N:=by
       have u:nm cp (dF P) (iK ops al) (iK ops al).length [] s N:=hK;rw[r] at u;exact u
      refine A1 (Q:=UW C n N X R) hC d hp (λs' f w' h1 h2=>⟨s',h1,h2⟩) ops.size (List.range ops.size) (Array.replicate ops.size false) [] s a _ (by simp) List.nodup_range (by simp) (λi=>?_) (λi hi=>by simp[hi]) hs2 E;rw[bI];exact⟨λh=>⟨h,by simp[h]⟩,λh=>h.1⟩
     ·cases ht
  ·cases ht
 |seq x y p q=>
  intro ac s a w N X R ht hs hK;simp only[vp] at ht
  split at ht
  ·rename_i G A hx hy;cases ht;refine wp_seq (wp_mono (p _ _ _ _ _ _ _ hx hs hK) λe f w' hq=>?_);cases e with
   |normal=>obtain⟨s',h1,h2⟩:=hq;exact q _ _ _ _ _ _ _ hy h1 h2
   |exit j=>exact hq
   |ret=>exact hq
   |_=>exact hq.elim
  ·cases ht
 |cond c x y p q=>
  intro ac s a w N X R ht hs hK;simp only[vp] at ht
  split at ht
  ·rename_i c' G A hc hx hy;cases ht;obtain⟨F,hh,hr⟩:=hs.ex;have hrel:=ep hr hc;simp only[gE] at hK
   split at hK
   ·rename_i t heq;rw[heq] at hrel
    generalize I:a.eval c=uc at hrel
    cases hrel;have l:∀b,t=b->Sat C n (Ga c' s b) a w:=by
     rintro b rfl;cases c' with
     |t i=>exact hs.Pj heq
     |c v=>exact hs
    exact wp_cond_split I (λht=>p _ _ _ _ _ _ _ hx (l _ ht) (by rw[ht] at hK;exact hK)) (λht=>q _ _ _ _ _ _ _ hy (l _ ht) (by rw[ht] at hK;exact hK))
   ·exact hK.elim
  ·cases ht
 |block id x ih=>
  intro ac s a w N X R ht hs hK;simp only[vp,an] at ht;obtain⟨G,hx,rfl⟩:=ht;refine wp_block (wp_mono (ih _ _ _ _ _ _ _ hx hs hK) λe f w' hq=>?_);cases e with
  |normal=>exact hq
  |exit j=>
   obtain⟨s',h1,h2⟩:=hq;simp only[Exit.inBlock]
   by_cases hj:j=id
   ·rw[ab hj] at h2⊢;exact⟨s',h1,h2⟩
   ·rw[aa hj] at h2⊢;exact⟨s',h1,h2⟩
  |ret=>exact hq
  |_=>exact hq.elim
 |loop x ih=>
  intro ac s a w N X R ht hs hK;simp only[vp,an] at ht;obtain⟨G,hx,rfl⟩:=ht;obtain⟨Y,L,H,J,⟨s1,h0,y0,h1,h2⟩,g⟩:=hK;refine wp_loop_ghost (λk a w=>∃y,J y=k/\Sat C n (St (L y) (H y)) a w) (J y0) ⟨y0,rfl,cd.st h1 h2 C n a w hC (h0 C n a w hC hs)⟩ ?_;rintro k a1 w1 ⟨y,rfl,z⟩;refine wp_mono (ih _ _ _ _ _ _ _ hx z (g y)) λe f w' hq=>?_;cases e with
  |normal=>
   obtain⟨s',h1,s2,h2,A,h3,h4,h5⟩:=hq;exact⟨J A,h5,A,rfl,cd.st h3 h4 C n f w' hC (h2 C n f w' hC h1)⟩
  |exit j=>exact hq
  |ret=>exact hq
  |_=>exact hq.elim
 |exit id=>
  intro ac s a w N X R ht hs hK;simp only[vp,aC] at ht;subst ht;exact wp_exit ⟨s,hs,hK⟩
 |ret=>
  intro ac s a w N X R ht hs hK;simp only[vp,aC] at ht;subst ht;exact wp_ret ⟨s,hs,hK⟩
 |scope x ih=>
  intro ac s a w N X R ht hs hK;simp only[vp] at ht;refine wp_scope_straight (wp_mono (ih _ _ _ _ _ _ _ ht hs hK) λe f w' hq=>?_);cases e with
  |normal=>exact hq
  |exit j=>exact hq
  |ret=>exact hq
  |_=>exact hq.elim
 |_=>intro ac s a w N X R ht;simp[vp] at ht
inductive RV where
 |t(i:Nat)
 |c1(i:Nat)
 |cn(i n:Nat)
def TA(P:Program):ResultVar->Option RV
 |.tmp t=>some (.t t)
 |.cell a T=>match jR P T,qF P T with
  |some true,some n=>some (.cn a n)
  |some false,_=>some (.c1 a)
  |_,_=>none
def A2(P:Program):List ResultVar->Option (List RV)
 |[]=>some []
 |r::l=>match TA P r,A2 P l with
  |some a,some m=>some (a::m)
  |_,_=>none
def kH(s:S):List RV->(List V->Prop)->Prop
 |[],K=>K []
 |.t i::l,K=>kH s l λvs=>K (s.t i::vs)
 |.c1 i::l,K=>nW s.h (s.t i) λv=>kH s l λvs=>K (v::vs)
 |.cn i n::l,K=>nX s.h n (s.t i) λv=>kH s l λvs=>K (v::vs)
def kI:List V->V
 |[v]=>v
 |vs=>.tup vs
def fin(rv:List RV)(post:V->Hp->Prop)(s:S):Prop:=
 ∃s',cd s s'/\kH s' rv λvs=>Fz (kI vs)/\∃h',(∀k o,h' k=some o->s'.h k=some o/\o.Fz)/\post (kI vs) h'
section
variable {P:Program} {C:Ctx} {F:Nat->Prop} {n:Nat} {w:World} {a:Act} {s:S}
def n8(tmps:Array Value)(r:ResultVar):Sem Value:=match r with
 |.tmp t=>pure (tmps.getD t undef)
 |.cell a t=>do loadVar t (←asAddr (tmps.getD a undef))
theorem xa(hh:fT C F s.h w)(hr:∀i:Nat,Rel F C.B w (s.t i) (a.tmps.getD i undef)):∀(rs:List ResultVar)(rv:List RV)(K:List V->Prop),A2 P rs=some rv->kH s rv K->
  ∃vs us,(rs.mapM (n8 a.tmps)).run P w=.ok us w/\us.length=vs.length/\(∀(i:Nat)(v:V)(u:Value),vs[i]? =some v->us[i]? =some u->Rel F C.B w v u)/\K vs:=by
 intro rs
 induction rs with
 |nil=>
  intro rv K ht hK;simp only[A2,aC] at ht;subst ht;exact⟨[],[],by simp[Sem.run_pure],rfl,by simp,hK⟩
 |cons r rs ih=>
  intro rv K ht hK;simp only[A2] at ht
  split at ht
  ·rename_i x m hx hm;cases ht;have cons:∀(v:V)(u:Value),(n8 a.tmps r).run P w=.ok u w->Rel F C.B w v u->kH s m (λvs=>K (v::vs))->
     ∃vs us,((r::rs).mapM (n8 a.tmps)).run P w=.ok us w/\us.length=vs.length/\(∀(i:Nat)(v:V)(u:Value),vs[i]? =some v->us[i]? =some u->Rel F C.B w v u)/\K vs:=by
    intro v u hu hv hk;obtain⟨vs,us,h1,h2,h3,h4⟩:=ih m _ hm hk;refine⟨v::vs,u::us,?_,by simp[h2],λi v' u' b c=>?_,h4⟩
    ·rw[List.mapM_cons];simp only[Sem.run_bind,hu,Result.andThen_ok,h1,Sem.run_pure]
    ·cases i with
     |zero=>simp at b c;subst b c;exact hv
     |succ i=>exact h3 i v' u' (by simpa using b) (by simpa using c)
   cases r with
   |tmp t=>
    simp only[TA,aC] at hx;subst hx;exact cons (s.t t) (a.tmps.getD t undef) (by simp only[n8,Sem.run_pure]) (hr t) hK
   |cell ad T=>
    simp only[TA] at hx
    split at hx
    ·rename_i n hg hn;cases hx;obtain⟨d,v,u,hu,im,hv,hk⟩:=tT (T:=T) hg hn hh (hr ad) hK;exact cons v u (by simp only[n8,hu,asAddr,Sem.run_bind,Sem.run_pure,Result.andThen_ok,im]) hv hk
    ·rename_i hg;cases hx;obtain⟨d,v,u,hu,im,hv,hk⟩:=tS (T:=T) hg hh (hr ad) hK;exact cons v u (by simp only[n8,hu,asAddr,Sem.run_bind,Sem.run_pure,Result.andThen_ok,im]) hv hk
    ·cases hx
  ·cases ht
theorem A3(fn:Func)(tmps:Array Value):results fn tmps=(do let vs←fn.results.mapM (n8 tmps);pure (if h:vs.size=1 then vs[0] else .tuple vs)):=rfl
theorem n9{fn:Func}{us:List Value}(h:(fn.results.toList.mapM (n8 a.tmps)).run P w=.ok us w):(results fn a.tmps).run P w=.ok (if h:us.toArray.size=1 then us.toArray[0] else .tuple us.toArray) w:=by
 rw[A3,Array.mapM_eq_mapM_toList];simp only[Sem.run_bind,Sem.run_map,h,Result.andThen_ok,Sem.run_pure]
def Pl:List V->Nat->V
 |[],_=>.gC
 |v::_,0=>v
 |_::l,i+1=>Pl l i
theorem xb:∀(l:List V)(i:Nat),Pl l i=l.getD i .gC
 |[],_=>by simp[Pl]
 |v::l,0=>by simp[Pl]
 |v::l,i+1=>by rw[Pl,xb l i];simp
def S0(args:List V)(hp:Hp):S:=⟨Pl args,hp⟩
theorem Cd{f:Nat}{fn:Func}{c:Code}{ac:AC}{rv:List RV}{args:List V}{hp:Hp}{post:V→Hp→Prop}{D:Array Oper→List AO→Bool}(E:lh P D)(hf:P.funcs[f]? =some fn)(m:fn.name≠ "runtime.NumGoroutine")(hb:fn.body=some c)(hc:vp P fn.ntmps D c=some ac)(z:A2 P fn.results.toList=some rv)
  (hn:args.length<=fn.ntmps)(hK:gE cp (dF P) (fk P) ac (S0 args hp) (fin rv post) (λ_ _=>False) (fin rv post)):Spec P f args hp post:=by
 refine⟨⟨fn,hf,m,c,hb⟩,λG us l hl g d=>?_⟩;obtain⟨w0,F0,B,pass,df⟩:=G
 let C:Ctx:=⟨w0,F0,B,pass,[]⟩
 have hC:C.Ok:=⟨l.F0,l.B,l.pass,l.env,l.pg⟩;have g:∀(i:Nat)(v:V)(u:Value),args[i]? =some v->us[i]? =some u->Rel C.F0 C.B C.w0 v u:=g;have d:fT C.nb C.F0 hp C.w0:=⟨d.ob,d.inj,d.live,d.jE,d.new,d.lt,d.ev⟩;show Calls P f us C.w0 _;refine calls_of_wp hf hb ?_;have hs0:fT C C.F0 hp C.w0:=⟨λk o hk=>(d.ob k o hk).mono (λ_ h=>h) (λ_ h=>h.elim),d.inj,d.live,d.jE,d.new,d.lt,d.ev⟩;have q:Sat C fn.ntmps (S0 args hp) {tmps:=us++Array.replicate (fn.ntmps-us.size) undef,defers:=[]} C.w0:=by
  refine⟨⟨C.F0,hs0,λi=>?_⟩,rfl,by simp;omega⟩;simp only[S0,xb]
  by_cases hi:i<args.length
  ·have hi':i<us.size:=by omega
   have h1:args[i]? =some (args.getD i .gC):=by rw[au,af hi];rfl
   have h2:us[i]? =some ((us++Array.replicate (fn.ntmps-us.size) undef).getD i undef):=by
    simp[hi',b6]
   exact g i _ _ h1 h2
  ·have h1:args.getD i .gC=.gC:=by rw[au,bh qW];rfl
   rw[h1];exact .gC _
 refine wp_mono (pd E hC c ac _ _ _ _ _ _ hc q hK) λe y w' hq=>?_;have last:(∃s,Sat C fn.ntmps s y w'/\fin rv post s)->y.defers=[]/\∃v,(results fn y.tmps).run P w'=.ok v w'/\∃u r h' F',Ending.returned v=.returned u/\Rel F' (λ_=>False) w' r u/\fT (Ctx.nb ⟨w0,F0,B,pass,df⟩) F' h' w'/\post r h':=by
  rintro⟨s1,hs1,s2,t,x⟩;have hs2:=t C _ y w' hC hs1;obtain⟨F,hh,hr⟩:=hs2.ex;obtain⟨vs,p,h1,h2,h3,h4,h',h5,h6⟩:=xa hh hr _ _ _ z x;refine⟨hs2.df,_,n9 h1,_,kI vs,h',F,rfl,?_,⟨λk o hk=>?_,λk k' o o' b hk A=>hh.inj k k' o o' b (h5 k o hk).1 (h5 k' o' A).1,λk o b hk=>hh.live k o b (h5 k o hk).1,hh.jE,hh.new,hh.lt,hh.ev⟩,h6⟩
  ·refine Rel.fz (B:=C.B) ?_ h4
   match vs,p,h2,h3 with
   |[],[],_,_=>exact .tup _ _ rfl (by simp)
   |[v],[u],_,h3=>exact h3 0 v u rfl rfl
   |v1::v2::vs,H::I::p,h2,h3=>
    have hne:¬((H::I::p).toArray.size=1):=by simp
    rw[dif_neg hne];exact .tup _ _ (by simpa using h2) λi v u hv hu=>h3 i v u hv (by simpa using hu)
  ·exact(hh.ob k o (h5 k o hk).1).fz (h5 k o hk).2
 cases e with
 |normal=>exact last hq
 |ret=>exact last hq
 |exit j=>obtain⟨_,_,h⟩:=hq;exact h.elim
 |_=>exact hq.elim
end
def S.nil(s:S)(i k ty sz:Nat):S:=⟨jh s.t i (.own k none sz 0),s.h.put k ⟨none,ty,sz,[]⟩⟩
theorem cd.nil{s:S}{i k ty sz:Nat}(hi:s.t i=.nilsl)(hk:s.h k=none):cd s (s.nil i k ty sz):=by
 intro C n a w hC hs;obtain⟨F,h1,h2⟩:=hs.ex;refine⟨⟨F,h1.step hC (L:=λ_=>False) (Ev.refl _ _) (λ_ _ h=>h.elim) (show fe F C.B w ⟨none,ty,sz,[]⟩ from rfl) (λb hb=>by cases hb),λj=>?_⟩,hs.df,hs.sz⟩;simp only[S.nil,jh]
 by_cases hj:j=i
 ·rw[ab hj];have:=h2 i;rw[hi] at this;rw[hj]
  generalize a.tmps.getD i undef=u at this
  cases this;exact .ownnil _ _
 ·rw[aa hj];exact h2 j
theorem Next.intro{Y:Type}{L:Y->List (Nat×V)}{H:Y->List (Nat×Ob)}{b:Y->Nat}{y:Y}{s:S}(a:Y)(hl:agree (L a) s)(hh:eP (H a) s)(hm:b a<b y):Next L H b y s:=⟨s,cd.refl s,a,hl,hh,hm⟩
structure fF(P:Program)(f:Nat)(fn:Func)(ac:AC)(rv:List RV)(n:Nat)(D:Array Oper->List AO->Bool):Prop where
 func:P.funcs[f]? =some fn
 name:fn.name≠ "runtime.NumGoroutine"
 body:fn.body.bind (vp P fn.ntmps D)=some ac
 res:A2 P fn.results.toList=some rv
 args:n<=fn.ntmps
def ia(rv:List RV)(vs:List V)(s:S):Prop:=kH s rv λx=>x=vs
def Is(v:V):V->Hp->Prop:=λx h=>x=v/\h=Hp.emp
theorem ed{P:Program}{f:Nat}{fn:Func}{ac:AC}{rv:List RV}{args:List V}{D:Array Oper->List AO->Bool}(b:lh P D)(ok:fF P f fn ac rv args.length D)(vs:List V)(hz:Fz (kI vs))
  (h:∀R,(∀s s',cd s s'->ia rv vs s'->R s)->gE cp (dF P) (fk P) ac (S0 args Hp.emp) R (λ_ _=>False) R):Spec P f args Hp.emp (Is (kI vs)):=by
 obtain⟨c,hc,a⟩:=cx.1 ok.body;refine Cd b ok.func ok.name hc a ok.res ok.args (h _ λs s' he hr=>⟨s',he,?_⟩);unfold ia at hr;have mono:∀(rv:List RV)(K K':List V->Prop),(∀x,K x->K' x)->kH s' rv K->kH s' rv K':=by
  intro rv
  induction rv with
  |nil=>intro K K' hK h;exact hK _ h
  |cons r rv ih=>
   intro K K' hK h;cases r with
   |t i=>exact ih _ _ (λx hx=>hK _ hx) h
   |c1 i=>
    simp only[kH] at h⊢;unfold nW at h⊢
    split at h
    ·unfold s9 at h⊢
     split at h
     ·obtain⟨a1,a2,a3,a4,a5⟩:=h;exact⟨a1,a2,a3,a4,ih _ _ (λx hx=>hK _ hx) a5⟩
     ·exact h.elim
    ·exact⟨h.1,ih _ _ (λx hx=>hK _ hx) h.2⟩
    ·exact h.elim
   |cn i n=>
    simp only[kH] at h⊢;unfold nX at h⊢
    split at h
    ·unfold s9 at h⊢
     split at h
     ·obtain⟨a1,a2,a3,a4,a5⟩:=h;exact⟨a1,a2,a3,a4,ih _ _ (λx hx=>hK _ hx) a5⟩
     ·exact h.elim
    ·exact⟨h.1,ih _ _ (λx hx=>hK _ hx) h.2⟩
    ·exact h.elim
 exact mono rv _ _ (λx hx=>by subst hx;exact⟨hz,Hp.emp,by simp[Hp.emp],rfl,rfl⟩) hr
theorem lA{P:Program}{f:Nat}{args a:List V}{v:V}{h:Hp}{K:V->Hp->Prop}(hs:Spec P f a Hp.emp (Is v))(ha:lG h [] args a)(hK:K (v.gy (gD [])) h):B7 P f args h K:=
 ⟨[],a,Hp.emp,Is v,hs,ha,by simp[Hp.emp],by simp,by rintro v' h' ⟨rfl,rfl⟩;exact hK⟩
theorem nr{P:Program}{f:Nat}{args g:List V}{v:V}{h:Hp}{K:V->Hp->Prop}(hs:Spec P f g Hp.emp (Is v))(ha:lG h [] args g)(hK:K (v.gy (gD [])) h):fk P f args h K:=
 ⟨[],g,Hp.emp,v,⟨hs.fn,λC us a b c d=>(hs.run C us a b c d).mono (by rintro e w' ⟨u,v',h',F',e1,i,j,rfl,rfl⟩;exact⟨u,v',_,F',e1,i,j,rfl,rfl⟩)⟩,ha,by simp[Hp.emp],by simp,hK⟩
def hJ(T:cm)(f:Nat)(args:List V)(v:V):Prop:=∀(h:Hp)(K:V->Hp->Prop),K v h->T f args h K
theorem gK{P:Program}{f:Nat}{args a:List V}{v:V}(hs:Spec P f a Hp.emp (Is v))(ha:∀h,lG h [] args a)(hv:v.gy (gD [])=v):hJ (dF P) f args v:=λh K hK=>⟨h,λ_ F _ _ hs=>⟨F,λ_ h=>h,hs⟩,lA hs (ha h) (by rw[hv];exact hK)⟩
theorem yu{P:Program}{f:Nat}{args a:List V}{v:V}(hs:Spec P f a Hp.emp (Is v))(ha:∀h,lG h [] args a)(hv:v.gy (gD [])=v):hJ (fk P) f args v:=λh K hK=>nr hs (ha h) (by rw[hv];exact hK)
end Go.Proofs.YtajdadcdcpnedaaGreatDoor.AM
