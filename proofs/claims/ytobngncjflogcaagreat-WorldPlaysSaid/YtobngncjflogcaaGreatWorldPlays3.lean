/-
  Part 3 of what the law WorldPlays reaches: the plain machine, contracts of the functions and plain laws; each lemma says its own condition.
-/
import Derived.Test.YtobngncjflogcaaGreatWorldPlays2
import Derived.Scope
import Derived.Deep.LoopGhost
import Derived.Orders
set_option linter.unusedVariables false
set_option linter.unusedSimpArgs false
namespace Go.Proofs.YtobngncjflogcaaGreat.AM
open Go
open Go.BigFrame
section
variable {P:Program} {C:Ctx} {F:Nat->Prop} {w w':World} {a:Act} {s:S} {h:Hp} {K:V->Hp->Prop} {Q:Exit->Act->World->Prop} {o:Oper}
theorem pe:∀{l:List Operand}{m:List hJ},uQ l=some m->l.length=m.length/\∀(i:Nat)(x:Operand)(y:hJ),l[i]? =some x->m[i]? =some y->mN x=some y:=by
 intro l
 induction l with
 |nil=>intro m h;simp[uQ] at h;subst h;simp
 |cons x l ih=>
  intro m h;simp only[uQ] at h
  split at h
  ·rename_i y m' hx hm;cases h;obtain⟨h1,h2⟩:=ih hm;refine⟨by simp[h1],λi d e b c=>?_⟩;cases i with
   |zero=>simp at b c;subst b c;exact hx
   |succ i=>exact h2 i d e (by simpa using b) (by simpa using c)
  ·cases h
theorem yV{α:Type}{x:Array α}{l:List α}(h:x.toList=l):x=l.toArray:=by subst h;simp
theorem va{c:Array Operand}{x y:hJ}(h:uQ c.toList=some [x,y]):∃b d,c= #[b,d]/\mN b=some x/\mN d=some y:=by
 obtain⟨h1,h2⟩:=pe h;obtain⟨l,rfl⟩:∃l:List Operand,c=l.toArray:=⟨c.toList,by simp⟩;simp only at h1 h2
 match l,h1 with
 |[b,d],_=>exact⟨b,d,rfl,h2 0 b x rfl rfl,h2 1 d y rfl rfl⟩
theorem yW{T:TypeId}(hd:P.underlying T=some .bool)(p q:Bool):(Op.equal T (.bool p) (.bool q)).run P w=.ok (p==q) w:=by
 unfold Op.equal Op.maxDepth;rw[show(10000:Nat)=9999+1 from rfl,Op.equalIn];simp only[Sem.run_bind,run_underlying hd,Result.andThen_ok];rfl
theorem Bq{T e:TypeId}(hd:P.underlying T=some (.pointer e))(p q:Option Addr)(h:p=none\/q=none):(Op.equal T (.pointer p) (.pointer q)).run P w=.ok (p.isNone&&q.isNone) w:=by
 unfold Op.equal Op.maxDepth;rw[show(10000:Nat)=9999+1 from rfl,Op.equalIn];simp only[Sem.run_bind,run_underlying hd,Result.andThen_ok];cases p<;>cases q<;>first|rfl|simp at h
theorem k8{neg:Bool}{T U:TypeId}{x y:Operand}{c d:Value}{b:Bool}(ho:o.op=.binOp (if neg then .neq else .eql) T x y U)(hs:gg C F h w)(hx:a.eval x=c)(hy:a.eval y=d)
  (hg:∀op,(eqGuard op T x y c d).run P w=.ok () w)(h1:binOp .eql T c d=(do pure (.bool (←Op.equal T c d))))(h2:binOp .neq T c d=(do pure (.bool (!(←Op.equal T c d)))))(hr:(Op.equal T c d).run P w=.ok b w)
  (hK:K (.bool (if neg then !b else b)) h):o.wp P a w (fO C F w a o.dst K) Q:=by
 refine wp_pure hs ?_ (.bool _) hK;unfold execOp;rw[ho]
 generalize a.eval=e at*
 cases neg
 ·simp only[Bool.false_eq_true,↓reduceIte,Sem.run_bind,Sem.run_pure,hx,hy,hg,Result.andThen_ok,h1,hr]
 ·simp only[↓reduceIte,Sem.run_bind,Sem.run_pure,hx,hy,hg,Result.andThen_ok,h2,hr]
theorem xE{op:BinOp}{T:TypeId}{x y:Operand}{p q:Bool}:(eqGuard op T x y (.bool p) (.bool q)).run P w=.ok () w:=by
 unfold eqGuard;cases op<;>simp[go_sem]
theorem xF{op:BinOp}{T:TypeId}{x y:Operand}{p q:Option Addr}:(eqGuard op T x y (.pointer p) (.pointer q)).run P w=.ok () w:=by
 unfold eqGuard;cases op<;>simp[go_sem]
theorem Cx{neg:Bool}{T U:TypeId}{x y:Operand}{c d:V}(ho:o.op=.binOp (if neg then .neq else .eql) T x y U)(hd:P.underlying T=some .bool)(hs:gg C F h w)
  (hx:Rel F C.B w c (a.eval x))(hy:Rel F C.B w d (a.eval y))(hK:D8 neg c d λv=>K v h):o.wp P a w (fO C F w a o.dst K) Q:=by
 generalize hex:a.eval x=e at hx
 generalize b:a.eval y=f at hy
 cases hx<;>try(simp[D8] at hK;done)
 cases hy<;>try(simp[D8] at hK;done)
 exact k8 ho hs hex b (λ_=>xE) rfl rfl (yW hd _ _) hK
theorem Cy{neg:Bool}{T U e:TypeId}{x y:Operand}{c d:V}(ho:o.op=.binOp (if neg then .neq else .eql) T x y U)(hd:P.underlying T=some (.pointer e))(hs:gg C F h w)
  (hx:Rel F C.B w c (a.eval x))(hy:Rel F C.B w d (a.eval y))(hK:yN neg c d λv=>K v h):o.wp P a w (fO C F w a o.dst K) Q:=by
 generalize hex:a.eval x=f at hx
 generalize b:a.eval y=g at hy
 cases hx<;>try(simp[yN,Sy] at hK;done)
 all_goals
  cases hy<;>try(simp[yN,Sy] at hK;done)
  all_goals
   simp only[yN,Sy] at hK;exact k8 ho hs hex b (λ_=>xF) rfl rfl (Bq hd _ _ (by simp)) hK
theorem lS{op:BinOp}{T:TypeId}{x y:Operand}{b b':Option Addr}{n m n' m':Nat}:(eqGuard op T x y (.slice b n m) (.slice b' n' m')).run P w=.ok () w:=by
 unfold eqGuard;cases op<;>simp[go_sem]
theorem pf{T e:TypeId}(hd:P.underlying T=some (.slice e))(p:Option Addr)(n m:Nat):(Op.equal T (.slice p n m) (.slice none 0 0)).run P w=.ok p.isNone w:=by
 unfold Op.equal Op.maxDepth;rw[show(10000:Nat)=9999+1 from rfl,Op.equalIn];simp only[Sem.run_bind,run_underlying hd,Result.andThen_ok];cases p<;>rfl
theorem Cz{neg:Bool}{T U e:TypeId}{x y:Operand}{b:V}(ho:o.op=.binOp (if neg then .neq else .eql) T x y U)(hy:a.eval y=.slice none 0 0)(hd:P.underlying T=some (.slice e))(hs:gg C F h w)
  (hx:Rel F C.B w b (a.eval x))(hK:PJ neg b λv=>K v h):o.wp P a w (fO C F w a o.dst K) Q:=by
 generalize hex:a.eval x=c at hx
 cases hx<;>try(exact hK.elim)
 case nilsl=>exact k8 ho hs hex hy (λ_=>lS) rfl rfl (pf hd _ _ _) (by cases neg<;>exact hK)
 case slnil=>exact k8 ho hs hex hy (λ_=>lS) rfl rfl (pf hd _ _ _) (by have:=hK.2 rfl;cases neg<;>exact this)
 case slemp=>exact k8 ho hs hex hy (λ_=>lS) rfl rfl (pf hd _ _ _) (by have:=hK.1;cases neg<;>exact this)
 case sl=>exact k8 ho hs hex hy (λ_=>lS) rfl rfl (pf hd _ _ _) (by have:=hK.1;cases neg<;>exact this)
theorem xG{op:BinOp}{T:TypeId}{x y:Operand}{p q:Array Value}(hg:P.eqGuardType P.depth T=false):(eqGuard op T x y (.agg p) (.agg q)).run P w=.ok () w:=by
 unfold eqGuard;cases op<;>simp[go_sem,hg]
theorem uf{neg:Bool}{T U:TypeId}{ts:List Nat}{x y:Operand}{j k:V}(ho:o.op=.binOp (if neg then .neq else .eql) T x y U)(hd:(∃fs,P.underlying T=some (.struct fs))\/(∃n e,P.underlying T=some (.array n e)))(hf:tB P 8 T=some ts)(hg:¬P.eqGuardType P.depth T=true)(hs:gg C F h w)
  (hx:Rel F C.B w j (a.eval x))(hy:Rel F C.B w k (a.eval y))(hK:Bf neg ts j k λv=>K v h):o.wp P a w (fO C F w a o.dst K) Q:=by
 generalize hex:a.eval x=p at hx
 generalize c:a.eval y=q at hy
 cases hx<;>try(simp[Bf] at hK;done)
 cases hy<;>try(simp[Bf] at hK;done)
 rename_i cs us hl hr l vs m d;simp only[Bf] at hK
 split at hK
 ·rename_i b hb;have f:At F C.B w cs us 0:=λi v hv=>by
   have hi:i<us.size:=by have:=(ah.1 hv).1;omega
   exact⟨us[i],by rw[aS];exact aQ hi,hr i v _ hv (aQ hi)⟩
  have g:At F C.B w l vs 0:=λi v hv=>by
   have hi:i<vs.size:=by have:=(ah.1 hv).1;omega
   exact⟨vs[i],by rw[aS];exact aQ hi,d i v _ hv (aQ hi)⟩
  exact k8 ho hs hex c (λ_=>xG (by simpa using hg)) rfl rfl ((u9 9992 8 T ts hf).2 hd F C.B w us vs cs l b f g hb) hK
 ·exact hK.elim
theorem Ej{T:cp}(M:sX P T)(J:C.Ok){ao:pM}{k:Nat}(ht:LJ P o.op=some ao)(hs:gg C F h w)(hr:∀i:Nat,Rel F C.B w (s.t i) (a.tmps.getD i undef))(hK:p5 T ao (hJ.ev s) h k K):
  o.wp P a w (fO C F w a o.dst K) Q:=by
 cases d:o.op<;>rw[d] at ht<;>simp only[LJ] at ht
 case move x=>
  simp only[au] at ht;obtain⟨y,hy,rfl⟩:=ht;exact Cr (.inl d) hs (fb hr hy) hK
 case assign x=>
  simp only[au] at ht;obtain⟨y,hy,rfl⟩:=ht;exact Cr (.inr d) hs (fb hr hy) hK
 case pick c x y=>
  split at ht
  ·rename_i c' D H hc hx hy;cases ht;have N:=fb hr hc;simp only[p5] at hK
   split at hK
   ·rename_i t X;rw[X] at N;exact F6 d hs N (fb hr hx) (fb hr hy) hK
   ·exact hK.elim
  ·cases ht
 case alloc T=>
  simp only[au] at ht;obtain⟨z,hz,rfl⟩:=ht;obtain⟨_,h1,h2⟩:=hK;exact Ed J d hz hs h1 h2
 case box T x=>
  split at ht
  ·rename_i n y hn hy;cases ht;obtain⟨_,h1,h2⟩:=hK;exact LO J d hs (fb hr hy) h1 h2
  ·cases ht
 case build T parts=>
  split at ht
  ·rename_i z fs hz hd
   split at ht
   ·rename_i I hp;simp only[au] at ht;obtain⟨ps,FP,rfl⟩:=ht;exact wV d hz FP (.inl ⟨fs,I,hd,hp,rfl⟩) hs hr hK.1 hK.2
   ·cases ht
  ·rename_i z k e hz hd
   split at ht
   ·rename_i n hn;simp only[au] at ht;obtain⟨ps,FP,rfl⟩:=ht;exact wV d hz FP (.inr ⟨k,e,n,hd,hn,rfl⟩) hs hr hK.1 hK.2
   ·cases ht
  ·cases ht
 case buildSlice T len parts=>
  split at ht
  ·rename_i e hd
   split at ht
   ·rename_i n z ps hn hz FP
    split at ht
    ·rename_i hc;cases ht;obtain⟨_,h1,h2⟩:=hK;exact Bm J d hd hn hz FP hc.1 hc.2.1 hc.2.2.1 hc.2.2.2 hs hr h1 h2
    ·cases ht
   ·cases ht
  ·cases ht
 case load T x=>
  split at ht
  ·rename_i n y hg hn hy;cases ht;exact Eg d hg hn hs (fb hr hy) hK
  ·rename_i y hg hy;cases ht;exact Ef d hg hs (fb hr hy) hK
  ·cases ht
 case store T x v=>
  split at ht
  ·rename_i n y u hn hy hu;cases ht;exact Eh J d hn hs (fb hr hy) (fb hr hu) hK
  ·cases ht
 case nilCheck x=>
  simp only[au] at ht;obtain⟨y,hy,rfl⟩:=ht;have hrel:=fb hr hy;simp only[p5] at hK
  split at hK
  ·rename_i heq;exact uS d hs hrel (.inl ⟨_,_,_,_,_,heq⟩) hK
  ·rename_i heq;exact uS d hs hrel (.inr ⟨_,_,heq⟩) hK
  ·exact hK.elim
 case binOp op T x y U=>
  split at ht
  ·rename_i k D H hd hx hy;cases ht;exact Cs d hs (fb hr hx) (fb hr hy) hK
  ·rename_i D H hd hx hy;cases ht;exact Cs d hs (fb hr hx) (fb hr hy) hK
  ·rename_i D H hd hx hy
   split at ht
   ·cases ht;exact Cx (neg:=false) d hd hs (fb hr hx) (fb hr hy) hK
   ·cases ht;exact Cx (neg:=true) d hd hs (fb hr hx) (fb hr hy) hK
   ·cases ht
  ·rename_i e D H hd hx hy
   split at ht
   ·cases ht;exact Cy (neg:=false) d hd hs (fb hr hx) (fb hr hy) hK
   ·cases ht;exact Cy (neg:=true) d hd hs (fb hr hx) (fb hr hy) hK
   ·cases ht
  ·rename_i e D H hd hx hy
   split at ht
   ·rename_i hn
    split at ht
    ·cases ht;exact Cz (neg:=false) d (wN hy hn) hd hs (fb hr hx) hK
    ·cases ht;exact Cz (neg:=true) d (wN hy hn) hd hs (fb hr hx) hK
    ·cases ht
   ·cases ht
  ·rename_i fs D H hd hx hy
   split at ht
   ·rename_i ts hf
    split at ht
    ·cases ht
    ·rename_i hg
     split at ht
     ·cases ht;exact uf (neg:=false) d (.inl ⟨_,hd⟩) hf hg hs (fb hr hx) (fb hr hy) hK
     ·cases ht;exact uf (neg:=true) d (.inl ⟨_,hd⟩) hf hg hs (fb hr hx) (fb hr hy) hK
     ·cases ht
   ·cases ht
  ·rename_i n e D H hd hx hy
   split at ht
   ·rename_i ts hf
    split at ht
    ·cases ht
    ·rename_i hg
     split at ht
     ·cases ht;exact uf (neg:=false) d (.inr ⟨_,_,hd⟩) hf hg hs (fb hr hx) (fb hr hy) hK
     ·cases ht;exact uf (neg:=true) d (.inr ⟨_,_,hd⟩) hf hg hs (fb hr hx) (fb hr hy) hK
     ·cases ht
   ·cases ht
  ·cases ht
 case unOp op T x=>
  cases op<;>simp only[] at ht
  case not=>
   simp only[au] at ht;obtain⟨y,hy,rfl⟩:=ht;have hrel:=fb hr hy;simp only[p5] at hK
   split at hK
   ·rename_i b heq;rw[heq] at hrel;exact LL d hs hrel hK
   ·exact hK.elim
  all_goals cases ht
 case convert src dst x=>
  split at ht
  ·rename_i k1 k2 y h1 h2 hy;cases ht;have hrel:=fb hr hy;simp only[p5] at hK
   split at hK
   ·rename_i kx n heq;rw[heq] at hrel;exact F7 d h1 h2 hs hrel hK
   ·exact hK.elim
  ·rename_i e y h1 h2 hy
   split at ht
   ·rename_i he;cases ht;obtain⟨l,hl,hk⟩:=hK;exact Bp d h1 he h2 hs (fb hr hy) hl hk
   ·cases ht
  ·cases ht
 case panic x=>cases ht;exact hK.elim
 case makeInterface T x=>cases ht;exact hK.elim
 case makeSlice T l c=>
  split at ht
  ·rename_i e hd
   split at ht
   ·rename_i i z l' c' hi hz hl hc
    split at ht
    ·rename_i O;cases ht;have h1:=fb hr hl;have h2:=fb hr hc;simp only[p5] at hK
     split at hK
     ·rename_i k1 n k2 m e1 e2;obtain⟨_,hn,rfl,_,h3,h4,h5,h6⟩:=hK;rw[e1] at h1;rw[e2] at h2;exact yS J d hd hi hz O.1 O.2.1 hs h1 h2 hn h3 h4 h5 h6
     ·exact hK.elim
    ·cases ht
   ·cases ht
  ·cases ht
 case slice T x lo hi mx=>
  cases mx with
  |some v=>simp only[] at ht;cases ht
  |none=>
   simp only[] at ht
   split at ht
   ·rename_i D Y hi' hd hx E G;cases ht;have hrel:=fb hr hx;simp only[p5] at hK
    split at hK
    ·rename_i l heq;rw[heq] at hrel;obtain⟨p,hK,hp⟩:=xC (l:=0) E hr hK;obtain⟨q,hK,hq⟩:=xD G hr hK;obtain⟨h0,h1,h2,h3⟩:=hK;exact Ea d hd hs hrel hp hq h0 h1 h2 h3
    ·exact hK.elim
   ·rename_i e D Y hi' hd hx E G;simp only[au] at ht;obtain⟨n,hn,rfl⟩:=ht;have hrel:=fb hr hx;simp only[p5] at hK
    split at hK
    ·rename_i t sz' rows heq;obtain⟨rfl,hK⟩:=hK;rw[heq] at hrel;obtain⟨p,hK,hp⟩:=xC (l:=0) E hr hK;obtain⟨q,hK,hq⟩:=xD G hr hK;obtain⟨h0,h1,h2,h3⟩:=hK;exact Gh d hd hn hs hrel hp hq h0 h1 h2 h3
    ·rename_i j bk sz' m heq;obtain⟨rfl,hK⟩:=hK;rw[heq] at hrel;obtain⟨p,hK,hp⟩:=xC (l:=0) E hr hK;obtain⟨q,hK,hq⟩:=xD G hr hK;obtain⟨h0,h1,h2,h3⟩:=hK;exact Eb d hd hn hs hrel hp hq h0 h1 h2 h3
    ·rename_i j bk sz' l0 g0 heq;obtain⟨rfl,hK⟩:=hK;rw[heq] at hrel;obtain⟨p,hK,hp⟩:=xC (l:=0) E hr hK;obtain⟨q,hK,hq⟩:=xD G hr hK;obtain⟨h0,h1,h2,h3⟩:=hK;exact Ec d hd hn hs hrel hp hq h0 h1 h2 h3
    ·exact hK.elim
   ·cases ht
 case fieldAddr T x f=>
  split at ht
  ·rename_i fs y hd hy
   split at ht
   ·rename_i fl hf
    split at ht
    ·rename_i n hn
     split at ht
     ·cases ht
     ·rename_i R;cases ht;have hrel:=fb hr hy;simp only[p5] at hK
      split at hK
      ·rename_i j b sz i off heq;rw[heq] at hrel
       generalize hex:a.eval x=Z at hrel
       cases hrel;rename_i b;exact wP (u:=undef) d hd hf hn R hs hex (by rw[cg];exact .ptr _ _ _ _ _) hK
      ·rename_i t cs heq;rw[heq] at hrel
       generalize hex:a.eval x=Z at hrel
       cases hrel with
       |rp _ b off _ us hF hc ko=>
        refine wP (u:=undef) d hd hf hn R hs hex (.rp t b (off+fl.offset) _ (λj=>us (fl.offset+j)) hF (λj v hj=>?_) (λj v hj=>?_)) hK
        ·rw[bg] at hj;rw[cg];exact hc _ v hj
        ·rw[bg] at hj;exact ko _ v hj
      ·exact hK.elim
    ·cases ht
   ·cases ht
  ·cases ht
 case field T x f=>
  split at ht
  ·rename_i fs y hd hy
   split at ht
   ·rename_i fl hf
    split at ht
    ·rename_i n hg hn;cases ht;have hrel:=fb hr hy;simp only[p5] at hK
     split at hK
     ·rename_i cs heq;rw[heq] at hrel;exact Gf d hd hf hg hn hs hrel hK.1 hK.2
     ·exact hK.elim
    ·rename_i hg;cases ht;have hrel:=fb hr hy;simp only[p5] at hK
     split at hK
     ·rename_i cs heq;rw[heq] at hrel;exact Gg d hd hf hg hs hrel hK.1 hK.2
     ·exact hK.elim
    ·cases ht
   ·cases ht
  ·cases ht
 case indexAddr T x i=>
  split at ht
  ·rename_i e y j hd hy hj;simp only[au] at ht;obtain⟨n,hn,rfl⟩:=ht;have h1:=fb hr hy;have h2:=fb hr hj
   generalize hex:a.eval x=Z at h1
   generalize A:a.eval i=ui at h2
   simp only[p5] at hK
   split at hK
   ·rename_i t sz' rows ki ii e1 e2;obtain⟨rfl,h0,hl,hK⟩:=hK;rw[e1] at h1;rw[e2] at h2;cases h2;cases h1 with
    |slnil=>simp at hl;omega
    |slemp=>simp at hl;omega
    |sl _ _ _ b off cap us hF lq hsz hc ko=>
     have hlt:ii.toNat<rows.length:=by omega
     have L:rows[ii.toNat]? =some (rows.getD ii.toNat []):=by rw[aA,af hlt];rfl
     refine sU d hd hn hs hex A h0 hl (.rp t b _ _ (λq=>us ii.toNat q) hF (λq v hq=>?_) (λq v hq=>?_)) hK
     ·rw[cg];exact hc _ q _ v L hq
     ·exact ko _ q _ v L hq
   ·rename_i k b sz' m ki ii e1 e2;obtain⟨rfl,h0,hl,hK⟩:=hK;rw[e1] at h1;rw[e2] at h2;cases h2;cases h1 with
    |ownnil=>simp at hl;omega
    |own _ b _ _ cap c e fr hb Y0 Y1 ON=>exact sU d hd hn hs hex A h0 hl (by rw[aS];exact .ptr k b _ ii.toNat 0) hK
   ·rename_i k b sz' lo hi ki ii e1 e2;obtain⟨rfl,h0,hl,hK⟩:=hK;rw[e1] at h1;rw[e2] at h2;cases h2;cases h1 with
    |winemp=>omega
    |win _ b _ cap _ _ c e fr _ _ _ _ g0 g1=>
     refine sU d hd hn hs hex A h0 qW ?_ hK;have e3:lo.toNat*sz'+ii.toNat*sz'=(lo+ii).toNat*sz'+0:=by rw[Int.toNat_add g0 h0,bN,bP]
     rw[e3];exact .ptr k b _ _ 0
   ·exact hK.elim
  ·rename_i len e y j hd hy hj;simp only[au] at ht;obtain⟨n,hn,rfl⟩:=ht;have h1:=fb hr hy;have h2:=fb hr hj
   generalize hex:a.eval x=Z at h1
   generalize A:a.eval i=ui at h2
   simp only[p5] at hK
   split at hK
   ·rename_i k b sz' r off ki ii e1 e2;obtain⟨h0,hl,hK⟩:=hK;rw[e1] at h1;rw[e2] at h2;cases h2;cases h1;exact yR d hd hn hs hex A h0 hl (by rw[cg];exact .ptr _ _ _ _ _) hK
   ·rename_i t cs ki ii e1 e2;obtain⟨h0,hl,hK⟩:=hK;rw[e1] at h1;rw[e2] at h2;cases h2;cases h1 with
    |rp _ b off _ us hF hc ko=>
     refine yR d hd hn hs hex A h0 hl (.rp t b _ _ (λq=>us (ii.toNat*n+q)) hF (λq v hq=>?_) (λq v hq=>?_)) hK
     ·rw[bg] at hq;rw[cg];exact hc _ v hq
     ·rw[bg] at hq;exact ko _ v hq
   ·exact hK.elim
  ·cases ht
 case index T x i=>
  split at ht
  ·rename_i y j hd hy hj;cases ht;have h1:=fb hr hy;have h2:=fb hr hj;simp only[p5] at hK
   split at hK
   ·rename_i l ki ii e1 e2;rw[e1] at h1;rw[e2] at h2;exact LN d hd hs h1 h2 hK.1 hK.2.1 hK.2.2
   ·exact hK.elim
  ·rename_i len e y j hd hy hj
   split at ht
   ·rename_i g n hg hn;cases ht;have h1:=fb hr hy;have h2:=fb hr hj;simp only[p5] at hK
    split at hK
    ·rename_i cs ki ii e1 e2;rw[e1] at h1;rw[e2] at h2;exact LU d hd hg hn hs h1 h2 hK.1 hK.2.1 hK.2.2.1 hK.2.2.2.1 hK.2.2.2.2
    ·exact hK.elim
   ·cases ht
  ·cases ht
 case extract x i=>
  simp only[au] at ht;obtain⟨y,hy,rfl⟩:=ht;have h1:=fb hr hy;simp only[p5] at hK
  split at hK
  ·rename_i vs e1;rw[e1] at h1;exact LM d hs h1 hK.1 hK.2
  ·exact hK.elim
 case call c=>
  split at ht
  ·rename_i f hf;simp only[au] at ht;obtain⟨m,hm,rfl⟩:=ht;obtain⟨h1,h2⟩:=pe hm;simp only[p5] at hK;refine M C F w a h K Q o c f #[] _ J d ⟨_,hf,rfl⟩ hs (by simpa using h1) (λi v u hv hu=>?_) hK;rw[Array.append_empty] at hu;simp only[av,au] at hv;obtain⟨y,hy,rfl⟩:=hv;simp only[dh,au] at hu;obtain⟨x,hx,rfl⟩:=hu;exact fb hr (h2 i x y (by simpa using hx) hy)
  ·rename_i t hf;simp only[au] at ht;obtain⟨m,hm,rfl⟩:=ht;obtain⟨h1,h2⟩:=pe hm;simp only[p5] at hK
   split at hK
   ·rename_i f caps heq;have hrel:=hr t;have W:s.t t=.fn f caps:=heq;rw[W] at hrel
    generalize hu:a.tmps.getD t undef=u at hrel
    cases hrel with
    |fn _ _ us Xu Xv=>
     refine M C F w a h K Q o c f us _ J d ⟨_,hf,hu⟩ hs (by simp only[Array.size_append,Array.size_map,an,aI,Xu];have h3:c.args.toList.length=c.args.size:=bH;omega) (λi v u hv hu=>?_) hK;have hsz:(c.args.map a.eval).size=(m.map (hJ.ev s)).length:=by simp[<-h1]
     by_cases hi:i<(m.map (hJ.ev s)).length
     ·rw[aW hi] at hv;rw[cl qW] at hu;simp only[av,au] at hv;obtain⟨y,hy,rfl⟩:=hv;simp only[dh,au] at hu;obtain⟨x,hx,rfl⟩:=hu;exact fb hr (h2 i x y (by simpa using hx) hy)
     ·rw[aV qW] at hv;rw[Array.getElem?_append_right qW,hsz] at hu;exact Xv _ v u hv hu
   ·exact hK.elim
  ·rename_i hf
   split at ht
   ·rename_i x T hx M
    split at ht
    ·rename_i hd;simp only[au] at ht;obtain⟨y,hy,rfl⟩:=ht;exact Gc d hf (yV hx) (yV M) hd hs (fb hr hy) hK
    ·rename_i e hd;simp only[au] at ht;obtain⟨y,hy,rfl⟩:=ht;exact Gd d hf (yV hx) (yV M) hd hs (fb hr hy) hK
    ·cases ht
   ·cases ht
  ·rename_i hf
   split at ht
   ·rename_i x y hm;cases ht;obtain⟨D,H,hx,h1,h2⟩:=va hm;have r1:=fb hr h1;have r2:=fb hr h2;simp only[p5] at hK
    split at hK
    ·rename_i k1 m1 k2 m2 e1 e2;obtain⟨rfl,hK⟩:=hK;rw[e1] at r1;rw[e2] at r2;exact Ge (mx:=true) d hf hx hs r1 r2 hK
    ·exact hK.elim
   ·cases ht
  ·rename_i hf
   split at ht
   ·rename_i x y hm;cases ht;obtain⟨D,H,hx,h1,h2⟩:=va hm;have r1:=fb hr h1;have r2:=fb hr h2;simp only[p5] at hK
    split at hK
    ·rename_i k1 m1 k2 m2 e1 e2;obtain⟨rfl,hK⟩:=hK;rw[e1] at r1;rw[e2] at r2;exact Ge (mx:=false) d hf hx hs r1 r2 hK
    ·exact hK.elim
   ·cases ht
  ·rename_i hf
   split at ht
   ·rename_i x y T T' hm M
    split at ht
    ·rename_i e e' hd FQ
     split at ht
     ·rename_i i z hi hz
      split at ht
      ·rename_i hc;cases ht;obtain⟨D,H,hx,h1,h2⟩:=va hm;obtain⟨c1,c2,c3,rfl⟩:=hc;exact Bk J d hf hx (yV M) hd hi hz c1 c2 c3 hs (fb hr h1) (fb hr h2) hK
      ·cases ht
     ·cases ht
    ·cases ht
   ·cases ht
  ·cases ht
 case makeFunc fn first caps=>
  cases fn<;>simp only[] at ht<;>try(cases ht;done)
  rename_i f
  split at ht
  ·rename_i hz;simp only[au] at ht;obtain⟨m,hm,rfl⟩:=ht;obtain⟨h1,h2⟩:=pe hm;have PQ:first= #[]:=cD hz
   subst PQ;refine wp_pure (u:=.func (.func f) #[] (caps.map a.eval)) hs ?_ (.fn f _ _ (by simp[<-h1]) λi v u hv hu=>?_) hK
   ·unfold execOp;rw[d];simp[Instr.makeFunc,Sem.run_bind,Sem.run_pure]
   ·simp only[av,au] at hv;obtain⟨y,hy,rfl⟩:=hv;simp only[dh,au] at hu;obtain⟨x,hx,rfl⟩:=hu;exact fb hr (h2 i x y (by simpa using hx) hy)
  ·cases ht
 all_goals cases ht
end
structure Prim where
 add:Int->Int->Int
 sub:Int->Int->Int
 mul:Int->Int->Int
 div:Int->Int->Int
 mod:Int->Int->Int
 shl:Int->Int->Int
 shr:Int->Int->Int
 SF:IntKind->Int->Int->Int
 Wr:IntKind->Int->Int->Int
 SG:IntKind->Int->Int->Int
 wrap:IntKind->Int->Int
 mx:Int->Int->Int
 mn:Int->Int->Int
 lt:Int->Int->Bool
 le:Int->Int->Bool
 eq:Int->Int->Bool
 ne:Int->Int->Bool
 Ws:BS->BS->Bool
 i64:Int->Prop
 fQ:Int->Int->Prop
 iw:Int->Int->Prop
 bits:IntKind->Int
 nat:Int->Nat
 int:Nat->Int
 eP:BS->Int
 seq:BS->BS->Bool
 gV:BS->BS->BS
 sZ:BS->Int->Int->BS
 sat:BS->Int->Int
 da:List (List V)->Int
 pN:List (List V)->Int->Int->List (List V)
 je:List (List V)->List (List V)->List (List V)
 SH:List (List V)->Nat->List (List V)
 mf:List (List V)->Nat->List V->List (List V)
 wu:Int->List V->List (List V)
 gp:List (List V)->Nat
 jf:Nat->Nat->Nat
 cond:Bool->V->V->V
 and:Bool->Bool->Bool
 beq:Bool->Bool->Bool
 bytes:Int->Int->Prop
 oc:List (List V)->Nat->Prop
 row:List (List V)->Nat->List V->Prop
 yX:List (List V)->BS->Prop
def ca:Prim where
 add a b:=a+b
 sub a b:=a-b
 mul a b:=a*b
 div a b:=a/b
 mod a b:=a%b
 shl a b:=a*2^b.toNat
 shr a b:=a/2^b.toNat
 SF k a b:=k.wrap (BitVec.ofInt k.bits a&&&BitVec.ofInt k.bits b).toNat
 Wr k a b:=k.wrap (BitVec.ofInt k.bits a|||BitVec.ofInt k.bits b).toNat
 SG k a b:=k.wrap (BitVec.ofInt k.bits a^^^BitVec.ofInt k.bits b).toNat
 wrap k a:=k.wrap a
 mx a b:=max a b
 mn a b:=min a b
 lt a b:=decide (a<b)
 le a b:=decide (a<=b)
 eq a b:=decide (a=b)
 ne a b:=decide (a≠b)
 Ws a b:=decide (a≠b)
 i64 a:=iU a
 fQ a b:=a<=b
 iw a b:=a<b
 bits k:=k.bits
 nat a:=a.toNat
 int a:=a
 eP l:=l.length
 seq a b:=decide (a=b)
 gV a b:=a++b
 sZ l a b:=(l.take b.toNat).drop a.toNat
 sat l i:=(l.getD i.toNat 0).toNat
 da l:=l.length
 pN l a b:=(l.take b.toNat).drop a.toNat
 je a b:=a++b
 SH l n:=l.take n
 mf l i r:=l.set i r
 wu n r:=List.replicate n.toNat r
 gp l:=l.length
 jf a b:=a+b
 cond t a b:=if t then a else b
 and a b:=a&&b
 beq a b:=a==b
 bytes n b:=n*b<=140737488355328
 oc l n:=l.length=n
 row l i r:=l[i]? =some r
 yX rows l:=rows=l.map λb=>[V.int .u8 b.toNat]
def p7(p:Prim)(k:IntKind)(n:Int)(K:V->Prop):Prop:=
 match k with
 |.i64=>p.i64 n/\K (.int .i64 n)
 |k=>K (.int k (p.wrap k n))
def Gn(p:Prim)(op:BinOp)(x y:V)(K:V->Prop):Prop:=
 match op,x,y with
 |.add,.int k a,.int k' b=>k=k'/\p7 p k (p.add a b) K
 |.sub,.int k a,.int k' b=>k=k'/\p7 p k (p.sub a b) K
 |.mul,.int k a,.int k' b=>k=k'/\p7 p k (p.mul a b) K
 |.quo,.int k a,.int k' b=>k=k'/\p.fQ 0 a/\p.iw 0 b/\p7 p k (p.div a b) K
 |.rem,.int k a,.int k' b=>k=k'/\p.fQ 0 a/\p.iw 0 b/\K (.int k (p.mod a b))
 |.shl,.int k a,.int _ b=>p.fQ 0 b/\p.iw b 64/\p7 p k (p.shl a b) K
 |.shr,.int k a,.int _ b=>p.fQ 0 b/\p.iw b (p.bits k)/\K (.int k (p.shr a b))
 |.and,.int k a,.int k' b=>k=k'/\K (.int k (p.SF k a b))
 |.or,.int k a,.int k' b=>k=k'/\K (.int k (p.Wr k a b))
 |.xor,.int k a,.int k' b=>k=k'/\K (.int k (p.SG k a b))
 |.lss,.int k a,.int k' b=>k=k'/\K (.bool (p.lt a b))
 |.leq,.int k a,.int k' b=>k=k'/\K (.bool (p.le a b))
 |.gtr,.int k a,.int k' b=>k=k'/\K (.bool (p.lt b a))
 |.geq,.int k a,.int k' b=>k=k'/\K (.bool (p.le b a))
 |.eql,.int k a,.int k' b=>k=k'/\K (.bool (p.eq a b))
 |.neq,.int k a,.int k' b=>k=k'/\K (.bool (p.ne a b))
 |.add,.str a,.str b=>p.i64 (p.add (p.eP a) (p.eP b))/\K (.str (p.gV a b))
 |.eql,.str a,.str b=>K (.bool (p.seq a b))
 |.neq,.str a,.str b=>K (.bool (p.Ws a b))
 |_,_,_=>False
def mg(p:Prim)(h:Hp)(sz:Nat)(v:V)(K:List (List V)->Prop):Prop:=
 match v with
 |.sl _ sz' rows=>sz'=sz/\K rows
 |.nilsl=>K []
 |.own k b sz' n=>match h k with
  |some o=>o.b=b/\o.sz=sz/\sz'=sz/\p.oc o.rows n/\K o.rows
  |none=>False
 |_=>False
def PR(p:Prim)(str:Bool)(x:V)(K:V->Prop):Prop:=
 match str,x with
 |true,.str l=>K (.int .i64 (p.eP l))
 |false,.sl _ _ rows=>K (.int .i64 (p.da rows))
 |false,.nilsl=>K (.int .i64 0)
 |false,.own _ _ _ n=>K (.int .i64 (p.int n))
 |false,.win _ _ _ lo hi=>K (.int .i64 (p.sub hi lo))
 |_,_=>False
def Gp(p:Prim)(neg:Bool)(x:V)(K:V->Prop):Prop:=match x with
 |.nilsl=>K (.bool (if neg then false else true))
 |.sl _ _ rows=>K (.bool (if neg then true else false))/\(p.da rows=0->K (.bool (if neg then false else true)))
 |_=>False
def LV(p:Prim)(hi:Option V)(n:Int)(K:Int->Prop):Prop:=
 match hi with
 |some (.int _ n)=>K n
 |none=>K n
 |_=>False
def arr:Nat:=1000000
def nN(p:Prim)(h:Hp)(k:Nat)(b:Option Nat)(sz i:Nat)(K:Ob->List V->Prop):Prop:=
 match h k with
 |some o=>o.b=b/\o.sz=sz/\(match decide (k<1000000) with
  |true=>match o.rows,i with
   |[r],0=>K o r
   |_,_=>False
  |false=>∃r,p.row o.rows i r/\K o r)
 |none=>False
def LW(p:Prim)(k:Nat)(rows:List (List V))(i:Nat)(r:List V):List (List V):=match decide (k<1000000) with
 |true=>[r]
 |false=>p.mf rows i r
def oF(p:Prim)(h:Hp)(x:V)(K:V->Prop):Prop:=
 match x with
 |.ptr j b sz i off=>nN p h j b sz i λ_ r=>xz r off K
 |.rp _ cs=>xz cs 0 K
 |_=>False
def oG(p:Prim)(h:Hp)(n:Nat)(x:V)(K:V->Prop):Prop:=
 match x with
 |.ptr j b sz i off=>nN p h j b sz i λ_ r=>off+n<=r.length/\K (.agg ((r.drop off).take n))
 |.rp _ cs=>n<=cs.length/\K (.agg (cs.take n))
 |_=>False
def p8(p:Prim)(h:Hp)(n:Nat)(x v:V)(K:Hp->Prop):Prop:=
 match x with
 |.ptr j b sz i off=>nN p h j b sz i λo r=>off+n<=r.length/\v.fits n/\K (h.put j ⟨o.b,o.ty,o.sz,LW p j o.rows i (kP r off v.cells)⟩)
 |_=>False
def kQ(p:Prim)(h:Hp)(k ty sz bytes:Nat)(x y:V)(K:V->Hp->Prop):Prop:=
 mg p h sz y λnews=>match x with
  |.nilsl=>h k=none/\p.bytes (p.da news) bytes/\∀β:Option Nat,K (.own k β sz (p.gp news)) (h.put k ⟨β,ty,sz,news⟩)
  |.own j b sz' n=>match h j with
   |some o=>o.b=b/\o.sz=sz/\sz'=sz/\o.ty=ty/\p.oc o.rows n/\p.bytes (p.add (p.int n) (p.da news)) bytes/\∀β:Option Nat,K (.own j β sz (p.jf n (p.gp news))) (h.put j ⟨β,ty,sz,p.je o.rows news⟩)
   |none=>False
  |.win j b sz' lo hi=>match h j with
   |some o=>o.b=b/\o.sz=sz/\sz'=sz/\o.ty=ty/\lo=hi/\p.da o.rows=lo/\p.bytes (p.da news) bytes/\∀(β:Option Nat)(pre:List (List V)),pre=o.rows\/pre=[]->K (.win j β sz (p.da pre) (p.add (p.da pre) (p.da news))) (h.put j ⟨β,ty,sz,p.je pre news⟩)
   |none=>False
  |_=>False
def Ek(p:Prim)(t:Nat)(x y:V)(K:Bool->Prop):Prop:=
 match t,x,y with
 |0,.bool a,.bool b=>K (p.beq a b)
 |1,.int k a,.int k' b=>k=k'/\K (p.eq a b)
 |2,.str a,.str b=>K (p.seq a b)
 |_,_,_=>False
def pO(p:Prim):List Nat->List V->List V->(Bool->Prop)->Prop
 |[],[],[],K=>K true
 |[t],[a],[b],K=>Ek p t a b K
 |t::ts,a::l,b::m,K=>Ek p t a b λx=>pO p ts l m λy=>K (p.and x y)
 |_,_,_,_=>False
def LX(p:Prim)(neg:Bool)(ts:List Nat)(x y:V)(K:V->Prop):Prop:=
 match x,y with
 |.agg cs,.agg a=>pO p ts cs a λb=>match neg with
  |true=>br b (λ_=>K (.bool false)) (λ_=>K (.bool true))
  |false=>K (.bool b)
 |_,_=>False
theorem rf{t:Nat}{x y:V}{K:Bool->Prop}(h:Ek ca t x y K):∃b,m5 t x y=some b/\K b:=by
 unfold Ek at h
 split at h
 ·exact⟨_,rfl,h⟩
 ·obtain⟨rfl,h⟩:=h;exact⟨_,by simp[m5];rfl,h⟩
 ·exact⟨_,rfl,h⟩
 ·exact h.elim
theorem yY:∀{ts:List Nat}{cs c:List V}{K:Bool->Prop},pO ca ts cs c K->∃b,gJ ts cs c=some b/\K b
 |[],[],[],K,h=>⟨true,rfl,h⟩
 |[t],[a],[b],K,h=>by
  simp only[pO] at h;obtain⟨x,h1,h2⟩:=rf h;exact⟨x,by simp[gJ,h1],h2⟩
 |t::t2::ts,a::l,b::m,K,h=>by
  simp only[pO] at h;obtain⟨x,h1,h2⟩:=rf h;obtain⟨y,h3,h4⟩:=yY h2;exact⟨x&&y,by simp only[gJ,h1];rw[h3],h4⟩
 |[t],a::a2::l,b::m,K,h=>by
  simp only[pO] at h;obtain⟨x,h1,h2⟩:=rf h;exact h2.elim
 |[t],[a],b::b2::m,K,h=>by
  simp only[pO] at h;obtain⟨x,h1,h2⟩:=rf h;exact h2.elim
 |[],_::_,_,_,h=>by simp[pO] at h
 |[],[],_::_,_,h=>by simp[pO] at h
 |_::_,[],_,_,h=>by simp[pO] at h
 |_::_,_::_,[],_,h=>by simp[pO] at h
theorem Gq{neg:Bool}{ts:List Nat}{x y:V}{K:V->Prop}(h:LX ca neg ts x y K):Bf neg ts x y K:=by
 unfold LX at h;unfold Bf
 split at h
 ·obtain⟨b,h1,h2⟩:=yY h;simp only[h1];cases neg
  ·exact h2
  ·cases b<;>exact h2
 ·exact h.elim
def mP(n:Nat)(v:V):Bool:=v.cells.length==n&&v.cells.all V.one
def fC(p:Prim)(C:cp)(op:pM)(ev:hJ->V)(h:Hp)(k:Nat)(K:V->Hp->Prop):Prop:=
 match op with
 |.mov x=>K (ev x) h
 |.pick c a b=>match ev c with
  |.bool true=>K (ev a) h
  |.bool false=>K (ev b) h
  |_=>False
 |.alloc ty z=>h k=none/\z.all (λu=>u.oneCell')=true/\∀β:Nat,K (.ptr k (some β) z.length 0 0) (h.put k ⟨some β,ty,z.length,[z.map yM]⟩)
 |.box ty n x=>h k=none/\(ev x).fits n/\∀β:Nat,K (.ptr k (some β) n 0 0) (h.put k ⟨some β,ty,n,[(ev x).cells]⟩)
 |.build z parts=>(parts.all λq=>mP q.2.1 (ev q.2.2))=true/\K (.agg (wM (z.map yM) (parts.map λq=>(q.1,(ev q.2.2).cells)))) h
 |.bslice ty sz parts=>h (arr+k)=none/\(parts.all λq=>mP sz (ev q))=true/\∀β:Nat,K (.own (arr+k) (some β) sz parts.length) (h.put (arr+k) ⟨some β,ty,sz,parts.map λq=>(ev q).cells⟩)
 |.load1 x=>oF p h (ev x) λv=>K v h
 |.loadn n x=>oG p h n (ev x) λv=>K v h
 |.store n x v=>p8 p h n (ev x) (ev v) λh=>K .gS h
 |.nilchk x=>match ev x with
  |.ptr .. |.rp .. =>K (ev x) h
  |_=>False
 |.bin op x y=>Gn p op (ev x) (ev y) λv=>K v h
 |.eqb neg x y=>D8 neg (ev x) (ev y) λv=>K v h
 |.eqp neg x y=>yN neg (ev x) (ev y) λv=>K v h
 |.eqn neg x=>Gp p neg (ev x) λv=>K v h
 |.eqs neg ts x y=>LX p neg ts (ev x) (ev y) λv=>K v h
 |.not x=>match ev x with
  |.bool b=>br b (λ_=>K (.bool false) h) (λ_=>K (.bool true) h)
  |_=>False
 |.conv kd x=>match ev x with
  |.int _ n=>K (.int kd (p.wrap kd n)) h
  |_=>False
 |.mkslice ty sz bytes z l c=>match ev l,ev c with
  |.int _ n,.int _ m=>h (arr+k)=none/\p.fQ 0 n/\m=n/\z.length=sz/\z.all (λu=>u.oneCell')=true/\p.bytes n bytes/\p.fQ n 140737488355328/\∀β:Nat,K (.own (arr+k) (some β) sz (p.nat n)) (h.put (arr+k) ⟨some β,ty,sz,p.wu n (z.map yM)⟩)
  |_,_=>False
 |.slstr x lo hi=>match ev x with
  |.str l=>Bg (lo.map ev) λa=>LV p (hi.map ev) (p.eP l) λb=>p.fQ 0 a/\p.fQ a b/\p.fQ b (p.eP l)/\K (.str (p.sZ l a b)) h
  |_=>False
 |.slsl sz x lo hi=>match ev x with
  |.sl t sz' rows=>sz'=sz/\Bg (lo.map ev) λa=>LV p (hi.map ev) (p.da rows) λb=>p.fQ 0 a/\p.fQ a b/\p.fQ b (p.da rows)/\K (.sl t sz (p.pN rows a b)) h
  |.own j bk sz' n=>sz'=sz/\Bg (lo.map ev) λa=>LV p (hi.map ev) (p.int n) λb=>p.fQ 0 a/\p.fQ a b/\p.fQ b (p.int n)/\K (.win j bk sz a b) h
  |.win j bk sz' l0 h0=>sz'=sz/\Bg (lo.map ev) λa=>LV p (hi.map ev) (p.int (p.nat (p.sub h0 l0))) λb=>p.fQ 0 a/\p.fQ a b/\p.fQ b (p.int (p.nat (p.sub h0 l0)))/\K (.win j bk sz (p.add l0 a) (p.add l0 b)) h
  |_=>False
 |.faddr off x=>match ev x with
  |.ptr j b sz i o=>K (.ptr j b sz i (o+off)) h
  |.rp t cs=>K (.rp t (cs.drop off)) h
  |_=>False
 |.fld1 off x=>match ev x with
  |.agg cs=>xz cs off λv=>K v h
  |_=>False
 |.fldn off n x=>match ev x with
  |.agg cs=>off+n<=cs.length/\K (.agg ((cs.drop off).take n)) h
  |_=>False
 |.iaddr sz x i=>match ev x,ev i with
  |.sl t sz' rows,.int _ i=>sz'=sz/\p.fQ 0 i/\∃r,p.row rows (p.nat i) r/\K (.rp t r) h
  |.own j b sz' n,.int _ i=>sz'=sz/\p.fQ 0 i/\p.iw i (p.int n)/\K (.ptr j b sz (p.nat i) 0) h
  |.win j b sz' lo hi,.int _ i=>sz'=sz/\p.fQ 0 i/\p.iw i (p.sub hi lo)/\K (.ptr j b sz (p.nat (p.add lo i)) 0) h
  |_,_=>False
 |.iarr len sz x i=>match ev x,ev i with
  |.ptr j b sz' r off,.int _ i=>p.fQ 0 i/\p.iw i len/\∃n:Nat,p.nat i=n/\K (.ptr j b sz' r (off+n*sz)) h
  |.rp t cs,.int _ i=>p.fQ 0 i/\p.iw i len/\∃n:Nat,p.nat i=n/\K (.rp t (cs.drop (n*sz))) h
  |_,_=>False
 |.ixs x i=>match ev x,ev i with
  |.str l,.int _ i=>p.fQ 0 i/\p.iw i (p.eP l)/\K (.int .u8 (p.sat l i)) h
  |_,_=>False
 |.ext i x=>match ev x with
  |.tup vs=>i<vs.length/\K (vs.getD i .gS) h
  |_=>False
 |.len str x=>PR p str (ev x) λv=>K v h
 |.mm mx x y=>match mx,ev x,ev y with
  |true,.int k a,.int k' b=>k=k'/\K (.int k (p.mx a b)) h
  |false,.int k a,.int k' b=>k=k'/\K (.int k (p.mn a b)) h
  |_,_,_=>False
 |.append ty sz bytes x y=>kQ p h (arr+k) ty sz bytes (ev x) (ev y) K
 |.call f args=>C f (args.map ev) h K
 |.callv x args=>match ev x with
  |.fn f caps=>C f (args.map ev++caps) h K
  |_=>False
 |.mkfn f caps=>K (.fn f (caps.map ev)) h
 |.convbs x=>mg p h 1 (ev x) λrows=>∃l,p.yX rows l/\K (.str l) h
 |.dead=>False
 |.ixa g len sz x i=>match ev x,ev i with
  |.agg cs,.int _ i=>p.fQ 0 i/\p.iw i len/\Nat.ble (len*sz) cs.length=true/\Nat.ble 1 sz=true/\∃n:Nat,p.nat i=n/\(match g with
   |true=>K (.agg ((cs.drop (n*sz)).take sz)) h
   |false=>K (cs.getD (n*sz) .gS) h)
  |_,_=>False
def keyOf(op:pM)(k:Nat):Nat:=match op with
 |.bslice .. |.mkslice .. |.append .. =>arr+k
 |_=>k
theorem Br{k:IntKind}{n:Int}{K:V->Prop}:p7 ca k n K=arith k n K:=by cases k<;>rfl
theorem Gr{op:BinOp}{x y:V}{K:V->Prop}(h:Gn ca op x y K):tW op x y K:=by
 cases x<;>cases y<;>try(cases op<;>exact h.elim)
 case int.int k a k' b=>
  cases op<;>simp only[Gn,tW,Br] at h⊢<;>exact h
 case str.str a b=>
  cases op<;>simp only[Gn,tW] at h⊢<;>exact h
theorem xH{rows:List (List V)}{i:Nat}{r:List V}(h:rows[i]? =some r):i<rows.length/\rows.getD i []=r:=by
 obtain⟨h1,h2⟩:=ah.1 h;exact⟨h1,by rw[aA,h];rfl⟩
theorem yZ{h:Hp}{k sz i:Nat}{b:Option Nat}{K:Ob->List V->Prop}(hh:nN ca h k b sz i K):tX h k b sz i K:=by
 unfold nN at hh;unfold tX;cases hk:h k with
 |none=>rw[hk] at hh;exact hh.elim
 |some o=>
  rw[hk] at hh;obtain⟨h1,h2,h3⟩:=hh;refine⟨h1,h2,?_⟩
  split at h3
  ·split at h3
   ·rename_i r heq;rw[heq];exact⟨by simp,by simpa using h3⟩
   ·exact h3.elim
  ·obtain⟨r,hr,h4⟩:=h3;obtain⟨g1,g2⟩:=xH hr;exact⟨g1,by rw[g2];exact h4⟩
theorem Bs{h:Hp}{x:V}{K:V->Prop}(hh:oF ca h x K):oC h x K:=by
 cases x<;>first|exact hh|exact yZ hh
theorem Bt{h:Hp}{n:Nat}{x:V}{K:V->Prop}(hh:oG ca h n x K):oD h n x K:=by
 cases x<;>first|exact hh|exact yZ hh
theorem Bu{h:Hp}{n:Nat}{x v:V}{K:Hp->Prop}(hh:p8 ca h n x v K):uO h n x v K:=by
 cases x<;>try exact hh
 rename_i j b sz i off;unfold p8 at hh;unfold uO;simp only[] at hh⊢;unfold nN at hh;unfold tX;cases hk:h j with
 |none=>rw[hk] at hh;exact hh.elim
 |some o=>
  rw[hk] at hh;obtain⟨h1,h2,h3⟩:=hh;refine⟨h1,h2,?_⟩
  split at h3
  ·rename_i hb
   split at h3
   ·rename_i r heq;obtain⟨a1,a2,a3⟩:=h3;rw[heq];refine⟨by simp,by simpa using a1,a2,?_⟩;simp only[LW,hb] at a3;simpa[heq] using a3
   ·exact h3.elim
  ·rename_i hb;obtain⟨r,hr,a1,a2,a3⟩:=h3;obtain⟨g1,g2⟩:=xH hr;refine⟨g1,by rw[g2];exact a1,a2,?_⟩;rw[g2];simp only[LW,hb] at a3;exact a3
theorem wW{h:Hp}{sz:Nat}{v:V}{K:List (List V)->Prop}(hh:mg ca h sz v K):∃rows,rowsOf h sz v=some rows/\K rows:=by
 cases v<;>try exact hh.elim
 case sl t sz' rows=>exact⟨rows,by simp[rowsOf,hh.1],hh.2⟩
 case nilsl=>exact⟨[],rfl,hh⟩
 case own k b sz' n=>
  unfold mg at hh;simp only[] at hh;cases hk:h k with
  |none=>rw[hk] at hh;exact hh.elim
  |some o=>
   rw[hk] at hh;obtain⟨h1,h2,h3,h4,h5⟩:=hh;have h4:o.rows.length=n:=h4;refine⟨o.rows,?_,h5⟩;simp only[rowsOf,hk];rw[ae ⟨h1,h2,h3,qW⟩,<-h4,cj]
theorem y0{h:Hp}{k ty sz bytes:Nat}{x y:V}{K:V->Hp->Prop}(hh:kQ ca h k ty sz bytes x y K):qY h k ty sz bytes x y K:=by
 unfold kQ at hh;obtain⟨rows,h1,h2⟩:=wW hh;unfold qY;rw[h1];exact h2
theorem Gs{sz:Nat}{ev:hJ->V}{l:List hJ}(h:(l.all λq=>mP sz (ev q))=true):∀p∈l,(ev p).fits sz:=by
 intro p hp;have:=aE.1 h p hp;simp only[mP,aO,beq_iff_eq] at this;exact this
theorem Gt{T:cp}{op:pM}{ev:hJ->V}{h:Hp}{k:Nat}{K:V->Hp->Prop}(hh:fC ca T op ev h k K):p5 T op ev h (keyOf op k) K:=by
 cases op
 case load1=>exact Bs hh
 case loadn n x=>exact Bt (n:=n) (x:=ev x) (K:=λv=>K v h) hh
 case store=>exact Bu hh
 case bin=>exact Gr hh
 case eqs neg ts x y=>exact Gq (K:=λv=>K v h) hh
 case append=>exact y0 hh
 case convbs x=>
  obtain⟨rows,h1,l,h2,h3⟩:=wW (show mg ca h 1 (ev x) λrows=>∃l,ca.yX rows l/\K (.str l) h from hh);exact⟨l,by rw[h1];exact aR some h2,h3⟩
 case not x=>
  simp only[fC] at hh;simp only[p5]
  split at hh
  ·rename_i b heq;rw[heq];cases b<;>exact hh
  ·exact hh.elim
 case pick c a b=>
  simp only[fC] at hh;simp only[p5]
  split at hh
  ·rename_i heq;rw[heq];exact hh
  ·rename_i heq;rw[heq];exact hh
  ·exact hh.elim
 case build z parts=>
  refine⟨λq hq=>?_,hh.2⟩;have:=aE.1 hh.1 q hq;simp only[mP,aO,beq_iff_eq] at this;exact this
 case bslice ty sz parts=>exact⟨hh.1,Gs hh.2.1,hh.2.2⟩
 case slsl sz x lo hi=>
  simp only[fC] at hh;simp only[p5]
  split at hh
  ·rename_i heq;rw[heq];obtain⟨h1,h2⟩:=hh;refine⟨h1,?_⟩;unfold Bg LV at*;unfold LB;exact h2
  ·rename_i heq;rw[heq];obtain⟨h1,h2⟩:=hh;refine⟨h1,?_⟩;unfold Bg LV at*;unfold LB;exact h2
  ·rename_i heq;rw[heq];obtain⟨h1,h2⟩:=hh;refine⟨h1,?_⟩;unfold Bg LV at*;unfold LB;exact h2
  ·exact hh.elim
 case slstr x lo hi=>
  simp only[fC] at hh;simp only[p5]
  split at hh
  ·rename_i heq;rw[heq];unfold Bg LV at*;unfold LB;exact hh
  ·exact hh.elim
 case iaddr sz x i=>
  simp only[fC] at hh;simp only[p5]
  split at hh
  ·rename_i t sz' rows ki ii e1 e2;rw[e1,e2];obtain⟨h1,h2,r,h3,h4⟩:=hh;obtain⟨g1,g2⟩:=xH h3;have e:0<=ii:=h2;have f:ii.toNat<rows.length:=g1;have d:rows.getD ii.toNat []=r:=g2;exact⟨h1,h2,qW,by rw[d];exact h4⟩
  ·rename_i e1 e2;rw[e1,e2];exact hh
  ·rename_i e1 e2;rw[e1,e2];exact hh
  ·exact hh.elim
 case iarr len sz x i=>
  simp only[fC] at hh;simp only[p5]
  split at hh
  ·rename_i e1 e2;rw[e1,e2];obtain⟨h1,h2,n,rfl,h3⟩:=hh;exact⟨h1,h2,h3⟩
  ·rename_i e1 e2;rw[e1,e2];obtain⟨h1,h2,n,rfl,h3⟩:=hh;exact⟨h1,h2,h3⟩
  ·exact hh.elim
 case ixa g len sz x i=>
  simp only[fC] at hh;simp only[p5]
  split at hh
  ·rename_i e1 e2;rw[e1,e2];obtain⟨h1,h2,h3,h4,n,rfl,h5⟩:=hh;refine⟨h1,h2,by simpa using h3,Nat.le_of_ble_eq_true h4,?_⟩;cases g<;>exact h5
  ·exact hh.elim
 case len str x=>
  simp only[fC,p5] at*;unfold PR at hh;unfold D9;exact hh
 case eqn neg x=>
  simp only[fC,p5] at*;unfold Gp at hh;unfold PJ;exact hh
 case mm mx x y=>
  simp only[fC] at hh;simp only[p5]
  split at hh
  ·rename_i e1 e2;rw[e1,e2];exact hh
  ·rename_i e1 e2;rw[e1,e2];exact hh
  ·exact hh.elim
 all_goals exact hh
def UO(n:Nat)(d:Option Tmp):Bool:=match d with
 |some d=>decide (d<n)
 |none=>true
def SI(P:Program)(n:Nat)(ops:Array Oper)(o:Oper):Option AO:=
 match LJ P o.op with
 |some ao=>
  if UO n o.dst then
   match o.guard with
   |none=>some ⟨o.dst,none,ao⟩
   |some (j,want)=>match(ops[j]?).bind (·.dst) with
    |some t=>if t<n then some ⟨o.dst,some (t,want),ao⟩ else none
    |none=>none
  else none
 |none=>none
def pP(P:Program)(n:Nat)(ops:Array Oper):List Oper->Option (List AO)
 |[]=>some []
 |o::l=>match SI P n ops o,pP P n ops l with
  |some a,some m=>some (a::m)
  |_,_=>none
def iz(p:Prim)(C:cp)(o:AO)(s:S)(K:S->Prop):Prop:=fC p C o.op (hJ.ev s) s.h (o.d.getD 0) λv h=>K ((s.iq h).put o.d v)
def fm(p:Prim)(C:cp)(o:AO)(s:S)(K:S->Prop):Prop:=match o.g with
 |none=>iz p C o s K
 |some (g,true)=>match s.t g with
  |.bool b=>br b (λ_=>iz p C o (s.set g (.bool true)) K) (λ_=>K ((s.set g (.bool false)).put o.d .nu))
  |.nu=>K (s.put o.d .nu)
  |_=>False
 |some (g,false)=>match s.t g with
  |.bool b=>br b (λ_=>K ((s.set g (.bool true)).put o.d .nu)) (λ_=>iz p C o (s.set g (.bool false)) K)
  |.nu=>K (s.put o.d .nu)
  |_=>False
def oH(p:Prim)(C:cp):List AO->S->(S->Prop)->Prop
 |[],s,K=>K s
 |o::l,s,K=>fm p C o s λs=>oH p C l s K
def a7(s s':S):Prop:=∀C n a w,Ctx.Ok C->Sat C n s a w->Sat C n s' a w
def look:List (Nat×V)->Nat->V
 |[],_=>.gS
 |(k,v)::l,i=>if i=k then v else look l i
def b7:List (Nat×Ob)->Nat->Option Ob
 |[],_=>none
 |(k,o)::l,i=>if i=k then some o else b7 l i
def St(l:List (Nat×V))(h:List (Nat×Ob)):S:=⟨look l,b7 h⟩
def agree:List (Nat×V)->S->Prop
 |[],_=>True
 |(k,v)::l,s=>s.t k=v/\agree l s
def fh:List (Nat×Ob)->S->Prop
 |[],_=>True
 |(k,o)::l,s=>s.h k=some o/\fh l s
theorem a7.refl(s:S):a7 s s:=λ_ _ _ _ _ h=>h
theorem a7.trans{a b c:S}(h:a7 a b)(h':a7 b c):a7 a c:=λC n x w d hs=>h' C n x w d (h C n x w d hs)
theorem gg.sub{C:Ctx}{F:Nat->Prop}{h h':Hp}{w:World}(hs:gg C F h w)(hh:∀k o,h' k=some o->h k=some o):gg C F h' w:=
 ⟨λk o hk=>hs.ob k o (hh k o hk),λk k' o o' b hk a=>hs.inj k k' o o' b (hh k o hk) (hh k' o' a),λk o b hk=>hs.live k o b (hh k o hk),hs.jq,hs.new,hs.lt,hs.ev⟩
theorem a7.of{s s':S}(ht:∀i,s'.t i=s.t i\/s'.t i=.gS)(hh:∀k o,s'.h k=some o->s.h k=some o):a7 s s':=by
 intro C n a w b hs;obtain⟨F,h1,h2⟩:=hs.ex;refine⟨⟨F,h1.sub hh,λi=>?_⟩,hs.df,hs.sz⟩
 rcases ht i with h|h
 ·rw[h];exact h2 i
 ·rw[h];exact .gS _
theorem Bv{l:List (Nat×V)}{s:S}(h:agree l s)(i:Nat):look l i=s.t i\/look l i=.gS:=by
 induction l with
 |nil=>exact .inr rfl
 |cons p l ih=>
  obtain⟨k,v⟩:=p;obtain⟨h1,h2⟩:=h;simp only[look]
  by_cases hi:i=k
  ·rw[ae hi,hi];exact .inl h1.symm
  ·rw[aa hi];exact ih h2
theorem tF{l:List (Nat×Ob)}{s:S}(h:fh l s)(k:Nat)(o:Ob)(hk:b7 l k=some o):s.h k=some o:=by
 induction l with
 |nil=>cases hk
 |cons p l ih=>
  obtain⟨k',o'⟩:=p;obtain⟨h1,h2⟩:=h;simp only[b7] at hk
  by_cases hi:k=k'
  ·rw[ae hi] at hk;cases hk;rw[hi];exact h1
  ·rw[aa hi] at hk;exact ih h2 hk
theorem a7.st{s:S}{l:List (Nat×V)}{h:List (Nat×Ob)}(h1:agree l s)(h2:fh h s):a7 s (St l h):=a7.of (Bv h1) (tF h2)
def Next{Y:Type}(L:Y->List (Nat×V))(H:Y->List (Nat×Ob))(b:Y->Nat)(y:Y)(s:S):Prop:=∃s1,a7 s s1/\∃a,agree (L a) s1/\fh (H a) s1/\b a<b y
inductive y3(A B:Prop):Prop
 |mk (a:A) (b:B):y3 A B
def fG:List Nat->Nat->Bool
 |[],_=>false
 |x::l,i=>Nat.beq x i||fG l i
def jx(done:List Nat):Nat->List (AO×List Nat)->List (Nat×AO)
 |_,[]=>[]
 |i,(o,ps)::l=>match !(fG done i)&&ps.all (fG done) with
  |true=>(i,o)::jx done (i+1) l
  |false=>jx done (i+1) l
def xI:List (Nat×AO)->(Nat->AO->Prop)->Prop
 |[],_=>True
 |[(i,o)],f=>f i o
 |(i,o)::x::l,f=>y3 (f i o) (xI (x::l) f)
def lF(p:Prim)(T:cp)(ops:List (AO×List Nat)):Nat->List Nat->S->(S->Prop)->Prop
 |0,_,s,K=>K s
 |n+1,done,s,K=>xI (jx done 0 ops) λi o=>fm p T o s λs=>lF p T ops n (i::done) s K
def Gu(c:hJ)(s:S)(b:Bool):S:=match c with
 |.t i=>s.set i (.bool b)
 |_=>s
def fX(p:Prim)(T:cp)(a:cp):AC->S->(S->Prop)->(Nat->S->Prop)->(S->Prop)->Prop
 |.skip,s,N,_,_=>N s
 |.region false ops,s,N,_,_=>oH p T ops s N
 |.region true ops,s,N,_,_=>oH p a ops s N
 |.seq x y,s,N,X,R=>fX p T a x s (λs=>fX p T a y s N X R) X R
 |.cond c x y,s,N,X,R=>match c.ev s with
  |.bool t=>br t (λ_=>fX p T a x (Gu c s true) N X R) (λ_=>fX p T a y (Gu c s false) N X R)
  |_=>False
 |.block id x,s,N,X,R=>fX p T a x s N (λj s=>if j=id then N s else X j s) R
 |.loop x,s,_,X,R=>∃(Y:Type)(L:Y->List (Nat×V))(H:Y->List (Nat×Ob))(b:Y->Nat),(∃s1,a7 s s1/\∃y,agree (L y) s1/\fh (H y) s1)/\∀y,fX p T a x (St (L y) (H y)) (Next L H b y) X R
 |.exit id,s,_,X,_=>X id s
 |.ret,s,_,_,R=>R s
 |.kO ops,s,N,_,_=>lF p T ops ops.length [] s N
section
variable {P:Program} {C:Ctx} {n:Nat} {w:World} {a:Act} {s:S}
theorem wv{a:Act}{d:Nat}{u:Value}(h:d<a.tmps.size):(a.put (some d) u).tmps.getD d undef=u:=by
 simp[Act.put,h]
theorem vb{a:Act}{d i:Nat}{u:Value}(h:i≠d):(a.put (some d) u).tmps.getD i undef=a.tmps.getD i undef:=by
 simp[Act.put,bK,Ne.symm h]
theorem Sat.put(hs:Sat C n s a w){w':World}{F':Nat->Prop}{h':Hp}{v:V}{u:Value}{d:Option Tmp}(hd:UO n d=true)(hh:gg C F' h' w')(hv:Rel F' C.B w' v u)
  (hk:∀i:Nat,Rel F' C.B w' (s.t i) (a.tmps.getD i undef)):Sat C n ((s.iq h').put d v) (a.put d u) w':=by
 cases d with
 |none=>exact⟨⟨F',hh,hk⟩,hs.df,hs.sz⟩
 |some d=>
  have b:d<a.tmps.size:=by rw[hs.sz];simpa[UO] using hd
  refine⟨⟨F',hh,λi=>?_⟩,hs.df,by simp[Act.put,hs.sz]⟩;simp only[S.put,S.set,S.iq,iX]
  by_cases hi:i=d
  ·subst hi;rw[ae rfl,wv b];exact hv
  ·rw[aa hi,vb hi];exact hk i
theorem Sat.PS(hs:Sat C n s a w){g:Nat}{b:Bool}(hg:s.t g=.bool b):Sat C n (s.set g (.bool b)) a w:=by
 obtain⟨F,hh,hr⟩:=hs.ex;refine⟨⟨F,hh,λi=>?_⟩,hs.df,hs.sz⟩;simp only[S.set,iX]
 by_cases hi:i=g
 ·subst hi;rw[ae rfl,<-hg];exact hr i
 ·rw[aa hi];exact hr i
theorem vc(hs:Sat C n s a w){ops:Array Oper}{j t:Nat}{b:Bool}(hj:(ops[j]?).bind (·.dst)=some t)(ht:t<n)(hb:s.t t=.bool b):yielded ops a.tmps j=some b:=by
 obtain⟨F,hh,hr⟩:=hs.ex;have:=hr t;rw[hb] at this;have hlt:t<a.tmps.size:=by rw[hs.sz];exact ht
 have hg:a.tmps.getD t undef=a.tmps[t]:=by simp[hlt]
 rw[hg] at this
 generalize hu:a.tmps[t]=u at this
 cases this;unfold yielded;rw[hj];simp[hlt,hu]
theorem El{p:Prim}{T:cp}{o:AO}{l:List AO}{K:S->Prop}:oH p T (o::l) s K=fm p T o s λs=>oH p T l s K:=rfl
theorem tG{T:cp}(h:sX P T)(j:C.Ok){ops:Array Oper}{o:Oper}{ao:AO}{op:pM}{K:S->Prop}{Q:Exit->Act->World->Prop}(ht:LJ P o.op=some op)(b:ao.op=op)(hd:UO n o.dst=true)(c:ao.d=o.dst)(hs:Sat C n s a w)
  (hK:iz ca T ao s K):o.wp P a w (λg w'=>∃s',Sat C n s' g w'/\K s') Q:=by
 obtain⟨F,hh,hr⟩:=hs.ex;subst b;refine Oper.wp_mono (λg w' hp=>?_) (Ej h j ht hh hr (Gt hK));obtain⟨u,v,h',F',rfl,hv,e,hk,f⟩:=hp;exact⟨_,by rw[c];exact Sat.put hs hd e hv λi=>hk _ _ (hr i),f⟩
theorem mh{T:cp}(l:sX P T)(m:C.Ok){ops:Array Oper}{o:Oper}{ao:AO}{K:S->Prop}{Q:Exit->Act->World->Prop}{J:Act->World->Prop}(ht:SI P n ops o=some ao)(hs:Sat C n s a w)(hK:fm ca T ao s K)
  (i:∀s' e w',Sat C n s' e w'->K s'->J e w'):if Region.wanted o (yielded ops a.tmps) then o.wp P a w J Q\/(o.asks P a w/\LetsOut Q) else J (a.put o.dst undef) w:=by
 unfold SI at ht
 split at ht
 ·rename_i op f
  split at ht
  ·rename_i hd
   split at ht
   ·rename_i hg;cases ht;have hw:Region.wanted o (yielded ops a.tmps)=true:=by simp[Region.wanted,hg]
    rw[ae hw];refine .inl (Oper.wp_mono (λe w'⟨s',h1,h2⟩=>i s' e w' h1 h2) (tG l m (ops:=ops) (ao:=⟨o.dst,none,op⟩) f rfl hd rfl hs hK))
   ·rename_i j want hg
    split at ht
    ·rename_i t hj
     split at ht
     ·rename_i d;cases ht;have nu:s.t t=.nu->(if Region.wanted o (yielded ops a.tmps) then o.wp P a w J Q\/(o.asks P a w/\LetsOut Q) else J (a.put o.dst undef) w)\/¬K (s.put o.dst .nu):=by
       intro hu
       by_cases g:K (s.put o.dst .nu)
       ·left
        obtain⟨F,hh,hr⟩:=hs.ex;have hlt:t<a.tmps.size:=by rw[hs.sz];exact d
        have c:=hr t;rw[hu] at c;have k:a.tmps.getD t undef=a.tmps[t]:=by simp[hlt]
        rw[k] at c
        generalize hv:a.tmps[t]=v at c
        cases c;have hy:yielded ops a.tmps j=none:=by unfold yielded;rw[hj];simp[hlt,hv,undef]
        have hw:¬Region.wanted o (yielded ops a.tmps)=true:=by simp[Region.wanted,hg,hy]
        rw[aa hw];exact i _ _ _ (Sat.put hs hd hh .nu hr) g
       ·exact .inr g
      have yes:s.t t=.bool want->iz ca T ⟨o.dst,some (t,want),op⟩ (s.set t (.bool want)) K->(if Region.wanted o (yielded ops a.tmps) then o.wp P a w J Q\/(o.asks P a w/\LetsOut Q) else J (a.put o.dst undef) w):=by
       intro hb hK;have hy:=vc hs hj d hb;have hw:Region.wanted o (yielded ops a.tmps)=true:=by simp[Region.wanted,hg,hy]
       rw[ae hw];exact .inl (Oper.wp_mono (λe w'⟨s',h1,h2⟩=>i s' e w' h1 h2) (tG l m (ops:=ops) (ao:=⟨o.dst,some (t,want),op⟩) f rfl hd rfl (hs.PS hb) hK))
      have no:∀b,b≠want->s.t t=.bool b->K ((s.set t (.bool b)).put o.dst .nu)->(if Region.wanted o (yielded ops a.tmps) then o.wp P a w J Q\/(o.asks P a w/\LetsOut Q) else J (a.put o.dst undef) w):=by
       intro b hne hb hK;have hy:=vc hs hj d hb;have hw:¬Region.wanted o (yielded ops a.tmps)=true:=by simp[Region.wanted,hg,hy,hne]
       rw[aa hw];have hs2:=hs.PS hb;obtain⟨F,hh,hr⟩:=hs2.ex;exact i _ _ _ (Sat.put hs2 hd hh .nu hr) hK
      cases want with
      |true=>
       simp only[fm] at hK
       split at hK
       ·rename_i b hb;cases b with
        |true=>exact yes hb hK
        |false=>exact no false qD hb hK
       ·rename_i hu;exact(nu hu).resolve_right (λh=>h hK)
       ·exact hK.elim
      |false=>
       simp only[fm] at hK
       split at hK
       ·rename_i b hb;cases b with
        |true=>exact no true qD hb hK
        |false=>exact yes hb hK
       ·rename_i hu;exact(nu hu).resolve_right (λh=>h hK)
       ·exact hK.elim
     ·cases ht
    ·cases ht
  ·cases ht
 ·cases ht
theorem Bw{T:cp}(d:sX P T)(e:C.Ok){ops:Array Oper}{Q:Exit->Act->World->Prop}:∀(l:List Oper)(al:List AO)(s:S)(a:Act)(w:World)(K:S->Prop),pP P n ops l=some al->Sat C n s a w->oH ca T al s K->
  (∀s' b w',Sat C n s' b w'->K s'->Q .normal b w')->wpList P ops Q l a w:=by
 intro l
 induction l with
 |nil=>
  intro al s a w K ht hs hK c;simp only[pP,aH] at ht;subst ht;exact c s a w hs hK
 |cons o l ih=>
  intro al s a w K ht hs hK c;simp only[pP] at ht
  split at ht
  ·rename_i ao m ho hm;cases ht;rw[El] at hK;exact mh d e ho hs hK λs' b w' h1 h2=>ih m s' b w' K hm h1 h2 c
  ·cases ht
end
def fR(ops:Array Oper)(i:Nat):List Nat:=match ops[i]? with
 |some o=>(o.after.toList.filter (Region.binds .any)).map (·.on)
 |none=>[]
theorem y4{l:List Nat}{i:Nat}:fG l i=true↔i∈l:=by
 induction l with
 |nil=>simp[fG]
 |cons x l ih=>
  rw[fG,bC,ih,ax];exact⟨λh=>h.imp (λe=>(aY e).symm) id,λh=>h.imp (λe=>by rw[e];exact b9 x) id⟩
theorem vd{f:Nat->AO->Prop}:∀{l:List (Nat×AO)},xI l f->∀{i o},(i,o)∈l->f i o
 |[],_,i,o,h=>by cases h
 |[(j,q)],h,i,o,hm=>by simp at hm;obtain⟨rfl,rfl⟩:=hm;exact h
 |(j,q)::x::l,h,i,o,hm=>by
  obtain⟨h1,h2⟩:=h
  rcases ax.1 hm with hm|hm
  ·cases hm;exact h1
  ·exact vd h2 hm
theorem p9{done:List Nat}:∀{l:List (AO×List Nat)}{m j:Nat}{o:AO}{ps:List Nat},l[j]? =some (o,ps)->(m+j)∉done->(∀q∈ps,q∈done)->(m+j,o)∈jx done m l
 |[],m,j,o,ps,h,_,_=>by simp at h
 |(o',a)::l,m,0,o,ps,h,h1,h2=>by
  simp only[bq,aH,aX] at h;obtain⟨rfl,rfl⟩:=h;have e:(!(fG done m)&&a.all (fG done))=true:=by
   rw[aO,aE];refine⟨?_,λq hq=>y4.2 (h2 q hq)⟩;cases hh:fG done m
   ·rfl
   ·exact absurd (y4.1 hh) h1
  simp only[jx,e,bP];exact bS
 |(o',a)::l,m,j+1,o,ps,h,h1,h2=>by
  have:=p9 (done:=done) (l:=l) (m:=m+1) (j:=j) (by simpa using h) (by rw[show m+1+j=m+(j+1) by omega];exact h1) h2;rw[show m+1+j=m+(j+1) by omega] at this;simp only[jx]
  split
  ·exact bM _ this
  ·exact this
def xJ(ops:Array Oper):Bool:=(List.range ops.size).all λi=>(fR ops i).all λj=>decide (j<i)
def iZ(ops:Array Oper)(al:List AO):List (AO×List Nat):=al.zip ((List.range ops.size).map (fR ops))
theorem s0{P:Program}{n:Nat}{ops:Array Oper}:∀{l:List Oper}{al:List AO},pP P n ops l=some al->l.length=al.length/\∀(i:Nat)(o:Oper),l[i]? =some o->∃a,al[i]? =some a/\SI P n ops o=some a
 |[],al,h=>by simp[pP] at h;subst h;simp
 |o::l,al,h=>by
  simp only[pP] at h
  split at h
  ·rename_i a m ha hm;cases h;obtain⟨h1,h2⟩:=s0 hm;refine⟨by simp[h1],λi o' ho=>?_⟩;cases i with
   |zero=>simp at ho;subst ho;exact⟨a,rfl,ha⟩
   |succ i=>exact h2 i o' (by simpa using ho)
  ·cases h
theorem ve:∀(l:List Nat),l≠[]->∃i∈l,∀j∈l,i<=j
 |[],h=>absurd rfl h
 |[x],_=>⟨x,by simp,by simp⟩
 |x::y::l,_=>by
  obtain⟨i,hi,hm⟩:=ve (y::l) (by simp)
  by_cases hx:x<=i
  ·exact⟨x,by simp,λj hj=>by rcases ax.1 hj with rfl|hj;exact ag _;have:=hm j hj;omega⟩
  ·exact⟨i,bM _ hi,λj hj=>by rcases ax.1 hj with rfl|hj;omega;exact hm j hj⟩
section
variable {P:Program}
theorem Bx{C:Ctx}{n:Nat}{ops:Array Oper}{al:List AO}{Q:Exit->Act->World->Prop}(M:C.Ok)(A:pP P n ops ops.toList=some al)(L:xJ ops=true){K:S->Prop}(N:∀s' z w',Sat C n s' z w'->K s'->Q .normal z w'):
  ∀(k:Nat)(R:List Nat)(b:Array Bool)(done:List Nat)(s:S)(a:Act)(w:World),R.length=k->R.Nodup->b.size=ops.size->(∀i,i∈R↔i<ops.size/\b.getD i true=false)->(∀i,i<ops.size->(i∈done↔b.getD i true=true))->
   Sat C n s a w->lF ca (fa P) (iZ ops al) k done s K->wpAny P .any ops Q k b a w:=by
 have g:∀(b:Array Bool)(i:Nat),b.size=ops.size->i<ops.size->b.getD i true=b.getD i false:=by
  intro b i hs hi;have:i<b.size:=by omega
  simp[this]
 have oI:∀i,i<ops.size->∀j∈fR ops i,j<i:=by
  intro i hi j hj;unfold xJ at L;have h1:=aE.1 L i (bJ.2 hi);simpa using aE.1 h1 j hj
 obtain⟨hlen,p⟩:=s0 A;intro k
 induction k with
 |zero=>
  intro R b done s a w hk _ hsz c _ hs hK;have O:R=[]:=aq hk;subst O;refine⟨cG.2 λj hj=>?_,N s a w hs hK⟩;obtain⟨h1,o,ho,_⟩:=mem_ready.1 hj;have:=(c j).2 ⟨(aD.1 ho).1,h1⟩;cases this
 |succ k ih=>
  intro R b done s a w hk r hsz c d hs hK;refine⟨λhr=>?_,λi hi=>?_⟩
  ·exfalso
   obtain⟨i0,t,u⟩:=ve R (by intro h;subst h;cases hk);obtain⟨l,B⟩:=(c i0).1 t;have:i0∈Region.ready .any ops b:=by
    refine mem_ready.2 ⟨B,ops[i0],aQ l,λe he hb=>?_⟩;have hp:e.on∈fR ops i0:=by
     unfold fR;rw[aQ l];exact aC.2 ⟨e,cd.2 ⟨by simpa using he,hb⟩,rfl⟩
    have hlt:=oI i0 l _ hp
    by_cases hl:b.getD e.on false=true
    ·exact hl
    ·exfalso
     have h3:b.getD e.on true=false:=by rw[g b e.on hsz qW];simpa using hl
     have:=u e.on ((c e.on).2 ⟨qW,h3⟩);omega
   rw[hr] at this;cases this
  ·obtain⟨hl,o,ho,v⟩:=mem_ready.1 hi;have lG:i<ops.size:=(aD.1 ho).1;have D:i∈R:=(c i).2 ⟨lG,hl⟩;obtain⟨T,E,F⟩:=p i o (by simpa using ho);have x:i∉done:=λh=>by have:=(d i lG).1 h;rw[hl] at this;cases this
   have hz:(iZ ops al)[i]? =some (T,fR ops i):=by
    unfold iZ;rw[List.getElem?_zip_eq_some];exact⟨E,by simp[lG]⟩
   have hr:=p9 (done:=done) (m:=0) (j:=i) hz (by simpa using x) (λq hq=>by
    have G:=hq;unfold fR at hq;rw[ho] at hq;obtain⟨e,he,rfl⟩:=aC.1 hq;obtain⟨H,I⟩:=cd.1 he;have h4:=v e (by simpa using H) I;have hlt:e.on<ops.size:=by have:=oI i lG _ G;omega
    exact(d e.on hlt).2 (by rw[g b e.on hsz hlt];exact h4))
   rw[aS] at hr;have y:=vd (show xI (jx done 0 (iZ ops al)) (λi o=>fm ca (fa P) o s λs=>lF ca (fa P) (iZ ops al) k (i::done) s K) from hK) hr;unfold wpOp;rw[ho];refine mh u6 M F hs y λs' z w' hs' J=>ih (R.erase i) (b.setIfInBounds i true) (i::done) s' z w' ?_ (r.erase i) (by simp[hsz]) (λj=>?_) (λj hj=>?_) hs' J
   ·rw[List.length_erase_of_mem D];omega
   ·rw[r.mem_erase_iff,c j]
    by_cases f:i=j
    ·subst f;have h1:(b.setIfInBounds i true).getD i true=true:=by
      have:i<b.size:=by omega
      simp[this]
     rw[h1];simp
    ·rw[getD_set_ne true f];exact⟨λh=>h.2,λh=>⟨λe=>f e.symm,h⟩⟩
   ·by_cases f:i=j
    ·subst f;have h1:(b.setIfInBounds i true).getD i true=true:=by
      have:i<b.size:=by omega
      simp[this]
     rw[h1];simp
    ·rw[getD_set_ne true f,<-d j hj,ax];exact⟨λh=>h.resolve_left λe=>f e.symm,.inr⟩
end
inductive LC(ops:Array Oper):Nat->Nat->Prop
 |base {j i} (h:j∈fR ops i):LC ops j i
 |step {j k i} (h:k∈fR ops i) (h':LC ops j k):LC ops j i
def oJ(ops:Array Oper):Nat->List (List Nat)
 |0=>[]
 |n+1=>
  let t:=oJ ops n
  t++[(fR ops n++(fR ops n).flatMap λk=>t.getD k []).eraseDups]
theorem nO(ops:Array Oper)(n:Nat):(oJ ops n).length=n:=by
 induction n with
 |zero=>rfl
 |succ n ih=>simp[oJ,ih]
theorem nP(ops:Array Oper):∀(n i j:Nat),j∈(oJ ops n).getD i []->LC ops j i:=by
 intro n
 induction n with
 |zero=>intro i j h;simp[oJ] at h
 |succ n ih=>
  intro i j h;simp only[oJ] at h;rw[aA] at h
  by_cases hi:i<n
  ·rw[aW (by rw[nO];exact hi),<-aA] at h;exact ih i j h
  ·by_cases jF:i=n
   ·subst jF;rw[aV (by rw[nO];exact ag _),nO] at h;simp only[eu,bq,Option.getD_some,List.mem_eraseDups,aU,List.mem_flatMap] at h
    rcases h with h|⟨k,hk,h⟩
    ·exact .base h
    ·exact .step hk (ih k j h)
   ·rw[ct (by simp[nO];omega)] at h;simp at h
def pM.PT:pM->Bool
 |.call .. =>true
 |_=>false
def CA(ops:Array Oper)(al:List AO):Bool:=match al.getLast? with
 |some o=>o.op.PT&&(List.range (ops.size-1)).all λj=>((oJ ops ops.size).getD (ops.size-1) []).contains j
 |none=>false
def wX(P:Program)(n:Nat)(D:Array Oper->List AO->Bool):Code->Option AC
 |.skip=>some .skip
 |.region _ ops dr=>match pP P n ops ops.toList with
  |some al=>if dr then(if D ops al then(if CA ops al then some (.seq (.region true al.dropLast) (.region false (al.drop (al.length-1)))) else some (.region true al)) else if xJ ops then some (.kO (iZ ops al)) else none) else some (.region false al)
  |none=>none
 |.seq x y=>match wX P n D x,wX P n D y with
  |some x,some y=>some (.seq x y)
  |_,_=>none
 |.cond c x y=>match mN c,wX P n D x,wX P n D y with
  |some c,some x,some y=>some (.cond c x y)
  |_,_,_=>none
 |.block id x=>(wX P n D x).map (.block id)
 |.loop x=>(wX P n D x).map .loop
 |.exit id=>some (.exit id)
 |.ret=>some .ret
 |.scope x=>wX P n D x
 |_=>none
def Wt(C:Ctx)(n:Nat)(N:S->Prop)(X:Nat->S->Prop)(R:S->Prop):Exit->Act->World->Prop
 |.normal,a,w=>∃s,Sat C n s a w/\N s
 |.exit j,a,w=>∃s,Sat C n s a w/\X j s
 |.ret,a,w=>∃s,Sat C n s a w/\R s
 |_,_,_=>False
def lH(P:Program)(D:Array Oper->List AO->Bool):Prop:=P.follows .mixedOrders=true/\
 (∀(C:Ctx)(n id:Nat)(ops:Array Oper)(al:List AO)(s:S)(a:Act)(w:World)(K:S->Prop)(Q:Exit->Act->World->Prop),C.Ok->pP P n ops ops.toList=some al->D ops al=true->Sat C n s a w->oH ca (fj P) al s K->
  (∀s' b w',Sat C n s' b w'->K s'->Q .normal b w')->(Code.region id ops true).wp P Q a w)/\
 (∀(C:Ctx)(n id:Nat)(ops:Array Oper)(al:List AO)(s:S)(a:Act)(w:World)(K:S->Prop)(Q:Exit->Act->World->Prop),C.Ok->pP P n ops ops.toList=some al->D ops al=true->CA ops al=true->Sat C n s a w->oH ca (fj P) al.dropLast s (λs'=>oH ca (fa P) (al.drop (al.length-1)) s' K)->
  (∀s' b w',Sat C n s' b w'->K s'->Q .normal b w')->(Code.region id ops true).wp P Q a w)
theorem wY{P:Program}{C:Ctx}{n:Nat}{D:Array Oper->List AO->Bool}(E:lH P D)(f:C.Ok):∀(c:Code)(ac:AC)(s:S)(a:Act)(w:World)(N:S->Prop)(X:Nat->S->Prop)(R:S->Prop),wX P n D c=some ac->Sat C n s a w->fX ca (fa P) (fj P) ac s N X R->
  c.wp P (Wt C n N X R) a w:=by
 intro c
 induction c with
 |skip=>
  intro ac s a w N X R ht hs hK;simp only[wX,aH] at ht;subst ht;exact wp_skip ⟨s,hs,hK⟩
 |region id ops dr=>
  intro ac s a w N X R ht hs hK;simp only[wX] at ht
  split at ht
  ·rename_i al d;cases dr with
   |false=>
    simp only[Bool.false_eq_true,↓reduceIte,aH] at ht;subst ht;exact wp_region_list (Bw u6 f _ _ _ _ _ _ d hs hK λs' g w' h1 h2=>⟨s',h1,h2⟩)
   |true=>
    simp only[↓reduceIte] at ht
    split at ht
    ·rename_i hd
     split at ht
     ·rename_i hl;cases ht;exact E.2.2 C n id ops al s a w N _ f d hd hl hs hK λs' g w' h1 h2=>⟨s',h1,h2⟩
     ·cases ht;exact E.2.1 C n id ops al s a w N _ f d hd hs hK λs' g w' h1 h2=>⟨s',h1,h2⟩
    ·split at ht
     ·rename_i hp;cases ht;refine wp_region_any E.1 ?_;have hs2:Sat C n s a {w with drawn:=w.drawn+1}:=by
       obtain⟨F,hh,hr⟩:=hs.ex;have p:Ev (λ_=>False) w {w with drawn:=w.drawn+1}:=Ev.drew _ w
       refine⟨⟨F,⟨λk o hk=>fy.keep f hh p (λ_ _ h=>h.elim) (hh.ob k o hk) (λ_ _ h=>h.elim),hh.inj,hh.live,hh.jq,hh.new,hh.lt,Ev.j8 hh.ev p λ_ _ h=>h.elim⟩,λi=>hh.keep f p (λ_ _ h=>h.elim) (hr i)⟩,hs.df,hs.sz⟩
      have hlen:=(s0 d).1;have u:(iZ ops al).length=ops.size:=by simp[iZ,<-hlen]
      have G:lF ca (fa P) (iZ ops al) ops.size [] s N:=by
       have z:lF ca (fa P) (iZ ops al) (iZ ops al).length [] s N:=hK;rw[u] at z;exact z
      refine Bx (Q:=Wt C n N X R) f d hp (λs' g w' h1 h2=>⟨s',h1,h2⟩) ops.size (List.range ops.size) (Array.replicate ops.size false) [] s a _ (by simp) List.nodup_range (by simp) (λi=>?_) (λi hi=>by simp[hi]) hs2 G;rw[bJ];exact⟨λh=>⟨h,by simp[h]⟩,λh=>h.1⟩
     ·cases ht
  ·cases ht
 |seq x y q r=>
  intro ac s a w N X R ht hs hK;simp only[wX] at ht
  split at ht
  ·rename_i I B hx hy;cases ht;refine wp_seq (wp_mono (q _ _ _ _ _ _ _ hx hs hK) λe g w' hq=>?_);cases e with
   |normal=>obtain⟨s',h1,h2⟩:=hq;exact r _ _ _ _ _ _ _ hy h1 h2
   |exit j=>exact hq
   |ret=>exact hq
   |_=>exact hq.elim
  ·cases ht
 |cond c x y q r=>
  intro ac s a w N X R ht hs hK;simp only[wX] at ht
  split at ht
  ·rename_i c' I B hc hx hy;cases ht;obtain⟨F,hh,hr⟩:=hs.ex;have hrel:=fb hr hc;simp only[fX] at hK
   split at hK
   ·rename_i t heq;rw[heq] at hrel
    generalize J:a.eval c=uc at hrel
    cases hrel;have m:∀b,t=b->Sat C n (Gu c' s b) a w:=by
     rintro b rfl;cases c' with
     |t i=>exact hs.PS heq
     |c v=>exact hs
    exact wp_cond_split J (λht=>q _ _ _ _ _ _ _ hx (m _ ht) (by rw[ht] at hK;exact hK)) (λht=>r _ _ _ _ _ _ _ hy (m _ ht) (by rw[ht] at hK;exact hK))
   ·exact hK.elim
  ·cases ht
 |block id x ih=>
  intro ac s a w N X R ht hs hK;simp only[wX,au] at ht;obtain⟨I,hx,rfl⟩:=ht;refine wp_block (wp_mono (ih _ _ _ _ _ _ _ hx hs hK) λe g w' hq=>?_);cases e with
  |normal=>exact hq
  |exit j=>
   obtain⟨s',h1,h2⟩:=hq;simp only[Exit.inBlock]
   by_cases hj:j=id
   ·rw[ae hj] at h2⊢;exact⟨s',h1,h2⟩
   ·rw[aa hj] at h2⊢;exact⟨s',h1,h2⟩
  |ret=>exact hq
  |_=>exact hq.elim
 |loop x ih=>
  intro ac s a w N X R ht hs hK;simp only[wX,au] at ht;obtain⟨I,hx,rfl⟩:=ht;obtain⟨Y,L,H,K,⟨s1,h0,M,h1,h2⟩,l⟩:=hK;refine wp_loop_ghost (λk a w=>∃y,K y=k/\Sat C n (St (L y) (H y)) a w) (K M) ⟨M,rfl,a7.st h1 h2 C n a w f (h0 C n a w f hs)⟩ ?_;rintro k a1 w1 ⟨y,rfl,A⟩;refine wp_mono (ih _ _ _ _ _ _ _ hx A (l y)) λe g w' hq=>?_;cases e with
  |normal=>
   obtain⟨s',h1,s2,h2,B,h3,h4,h5⟩:=hq;exact⟨K B,h5,B,rfl,a7.st h3 h4 C n g w' f (h2 C n g w' f h1)⟩
  |exit j=>exact hq
  |ret=>exact hq
  |_=>exact hq.elim
 |exit id=>
  intro ac s a w N X R ht hs hK;simp only[wX,aH] at ht;subst ht;exact wp_exit ⟨s,hs,hK⟩
 |ret=>
  intro ac s a w N X R ht hs hK;simp only[wX,aH] at ht;subst ht;exact wp_ret ⟨s,hs,hK⟩
 |scope x ih=>
  intro ac s a w N X R ht hs hK;simp only[wX] at ht;refine wp_scope_straight (wp_mono (ih _ _ _ _ _ _ _ ht hs hK) λe g w' hq=>?_);cases e with
  |normal=>exact hq
  |exit j=>exact hq
  |ret=>exact hq
  |_=>exact hq.elim
 |_=>intro ac s a w N X R ht;simp[wX] at ht
inductive RV where
 |t(i:Nat)
 |c1(i:Nat)
 |cn(i n:Nat)
def Vt(P:Program):ResultVar->Option RV
 |.tmp t=>some (.t t)
 |.cell a T=>match ku P T,qZ P T with
  |some true,some n=>some (.cn a n)
  |some false,_=>some (.c1 a)
  |_,_=>none
def Em(P:Program):List ResultVar->Option (List RV)
 |[]=>some []
 |r::l=>match Vt P r,Em P l with
  |some a,some m=>some (a::m)
  |_,_=>none
def m6(s:S):List RV->(List V->Prop)->Prop
 |[],K=>K []
 |.t i::l,K=>m6 s l λvs=>K (s.t i::vs)
 |.c1 i::l,K=>oC s.h (s.t i) λv=>m6 s l λvs=>K (v::vs)
 |.cn i n::l,K=>oD s.h n (s.t i) λv=>m6 s l λvs=>K (v::vs)
def nx:List V->V
 |[v]=>v
 |vs=>.tup vs
def fin(rv:List RV)(post:V->Hp->Prop)(s:S):Prop:=
 ∃s',a7 s s'/\m6 s' rv λvs=>Fz (nx vs)/\∃h',(∀k o,h' k=some o->s'.h k=some o/\o.Fz)/\post (nx vs) h'
section
variable {P:Program} {C:Ctx} {F:Nat->Prop} {n:Nat} {w:World} {a:Act} {s:S}
def oK(tmps:Array Value)(r:ResultVar):Sem Value:=match r with
 |.tmp t=>pure (tmps.getD t undef)
 |.cell a t=>do loadVar t (←asAddr (tmps.getD a undef))
theorem CB(hh:gg C F s.h w)(hr:∀i:Nat,Rel F C.B w (s.t i) (a.tmps.getD i undef)):∀(rs:List ResultVar)(rv:List RV)(K:List V->Prop),Em P rs=some rv->m6 s rv K->
  ∃vs us,(rs.mapM (oK a.tmps)).run P w=.ok us w/\us.length=vs.length/\(∀(i:Nat)(v:V)(u:Value),vs[i]? =some v->us[i]? =some u->Rel F C.B w v u)/\K vs:=by
 intro rs
 induction rs with
 |nil=>
  intro rv K ht hK;simp only[Em,aH] at ht;subst ht;exact⟨[],[],by simp[Sem.run_pure],rfl,by simp,hK⟩
 |cons r rs ih=>
  intro rv K ht hK;simp only[Em] at ht
  split at ht
  ·rename_i x m hx hm;cases ht;have cons:∀(v:V)(u:Value),(oK a.tmps r).run P w=.ok u w->Rel F C.B w v u->m6 s m (λvs=>K (v::vs))->
     ∃vs us,((r::rs).mapM (oK a.tmps)).run P w=.ok us w/\us.length=vs.length/\(∀(i:Nat)(v:V)(u:Value),vs[i]? =some v->us[i]? =some u->Rel F C.B w v u)/\K vs:=by
    intro v u hu hv hk;obtain⟨vs,us,h1,h2,h3,h4⟩:=ih m _ hm hk;refine⟨v::vs,u::us,?_,by simp[h2],λi v' e b c=>?_,h4⟩
    ·rw[List.mapM_cons];simp only[Sem.run_bind,hu,Result.andThen_ok,h1,Sem.run_pure]
    ·cases i with
     |zero=>simp at b c;subst b c;exact hv
     |succ i=>exact h3 i v' e (by simpa using b) (by simpa using c)
   cases r with
   |tmp t=>
    simp only[Vt,aH] at hx;subst hx;exact cons (s.t t) (a.tmps.getD t undef) (by simp only[oK,Sem.run_pure]) (hr t) hK
   |cell ad T=>
    simp only[Vt] at hx
    split at hx
    ·rename_i n hg hn;cases hx;obtain⟨d,v,u,hu,jR,hv,hk⟩:=uZ (T:=T) hg hn hh (hr ad) hK;exact cons v u (by simp only[oK,hu,asAddr,Sem.run_bind,Sem.run_pure,Result.andThen_ok,jR]) hv hk
    ·rename_i hg;cases hx;obtain⟨d,v,u,hu,jR,hv,hk⟩:=uY (T:=T) hg hh (hr ad) hK;exact cons v u (by simp only[oK,hu,asAddr,Sem.run_bind,Sem.run_pure,Result.andThen_ok,jR]) hv hk
    ·cases hx
  ·cases ht
theorem By(fn:Func)(tmps:Array Value):results fn tmps=(do let vs←fn.results.mapM (oK tmps);pure (if h:vs.size=1 then vs[0] else .tuple vs)):=rfl
theorem tH{fn:Func}{us:List Value}(h:(fn.results.toList.mapM (oK a.tmps)).run P w=.ok us w):(results fn a.tmps).run P w=.ok (if h:us.toArray.size=1 then us.toArray[0] else .tuple us.toArray) w:=by
 rw[By,Array.mapM_eq_mapM_toList];simp only[Sem.run_bind,Sem.run_map,h,Result.andThen_ok,Sem.run_pure]
def Sj:List V->Nat->V
 |[],_=>.gS
 |v::_,0=>v
 |_::l,i+1=>Sj l i
theorem Bz:∀(l:List V)(i:Nat),Sj l i=l.getD i .gS
 |[],_=>by simp[Sj]
 |v::l,0=>by simp[Sj]
 |v::l,i+1=>by rw[Sj,Bz l i];simp
def S0(args:List V)(hp:Hp):S:=⟨Sj args,hp⟩
theorem CC{f:Nat}{fn:Func}{c:Code}{ac:AC}{rv:List RV}{args:List V}{hp:Hp}{post:V→Hp→Prop}{D:Array Oper→List AO→Bool}(E:lH P D)(hf:P.funcs[f]? =some fn)(g:fn.name≠ "runtime.NumGoroutine")(hb:fn.body=some c)(hc:wX P fn.ntmps D c=some ac)(y:Em P fn.results.toList=some rv)
  (hn:args.length<=fn.ntmps)(hK:fX ca (fa P) (fj P) ac (S0 args hp) (fin rv post) (λ_ _=>False) (fin rv post)):Spec P f args hp post:=by
 refine⟨⟨fn,hf,g,c,hb⟩,λC us A hl l d=>?_⟩;refine calls_of_wp hf hb ?_;have hs0:gg C C.F0 hp C.w0:=⟨λk o hk=>(d.ob k o hk).mono (λ_ h=>h) (λ_ h=>h.elim),d.inj,d.live,d.jq,d.new,d.lt,d.ev⟩;have p:Sat C fn.ntmps (S0 args hp) {tmps:=us++Array.replicate (fn.ntmps-us.size) undef,defers:=[]} C.w0:=by
  refine⟨⟨C.F0,hs0,λi=>?_⟩,rfl,by simp;omega⟩;simp only[S0,Bz]
  by_cases hi:i<args.length
  ·have hi':i<us.size:=by omega
   have h1:args[i]? =some (args.getD i .gS):=by rw[aA,af hi];rfl
   have h2:us[i]? =some ((us++Array.replicate (fn.ntmps-us.size) undef).getD i undef):=by
    simp[hi',cl]
   exact l i _ _ h1 h2
  ·have h1:args.getD i .gS=.gS:=by rw[aA,ct qW];rfl
   rw[h1];exact .gS _
 refine wp_mono (wY E A c ac _ _ _ _ _ _ hc p hK) λe x w' hq=>?_;have last:(∃s,Sat C fn.ntmps s x w'/\fin rv post s)->x.defers=[]/\∃v,(results fn x.tmps).run P w'=.ok v w'/\∃u q h' F',Ending.returned v=.returned u/\Rel F' (λ_=>False) w' q u/\gg C.nb F' h' w'/\post q h':=by
  rintro⟨s1,hs1,s2,r,t⟩;have hs2:=r C _ x w' A hs1;obtain⟨F,hh,hr⟩:=hs2.ex;obtain⟨vs,m,h1,h2,h3,h4,h',h5,h6⟩:=CB hh hr _ _ _ y t;refine⟨hs2.df,_,tH h1,_,nx vs,h',F,rfl,?_,⟨λk o hk=>?_,λk k' o o' b hk z=>hh.inj k k' o o' b (h5 k o hk).1 (h5 k' o' z).1,λk o b hk=>hh.live k o b (h5 k o hk).1,hh.jq,hh.new,hh.lt,hh.ev⟩,h6⟩
  ·refine Rel.fz (B:=C.B) ?_ h4
   match vs,m,h2,h3 with
   |[],[],_,_=>exact .tup _ _ rfl (by simp)
   |[v],[u],_,h3=>exact h3 0 v u rfl rfl
   |v1::v2::vs,G::H::m,h2,h3=>
    have hne:¬((G::H::m).toArray.size=1):=by simp
    rw[dif_neg hne];exact .tup _ _ (by simpa using h2) λi v u hv hu=>h3 i v u hv (by simpa using hu)
  ·exact(hh.ob k o (h5 k o hk).1).fz (h5 k o hk).2
 cases e with
 |normal=>exact last hq
 |ret=>exact last hq
 |exit j=>obtain⟨_,_,h⟩:=hq;exact h.elim
 |_=>exact hq.elim
end
def S.nil(s:S)(i k ty sz:Nat):S:=⟨iX s.t i (.own k none sz 0),s.h.put k ⟨none,ty,sz,[]⟩⟩
theorem a7.nil{s:S}{i k ty sz:Nat}(hi:s.t i=.nilsl)(hk:s.h k=none):a7 s (s.nil i k ty sz):=by
 intro C n a w c hs;obtain⟨F,h1,h2⟩:=hs.ex;refine⟨⟨F,h1.step c (L:=λ_=>False) (Ev.refl _ _) (λ_ _ h=>h.elim) (show fy F C.B w ⟨none,ty,sz,[]⟩ from rfl) (λb hb=>by cases hb),λj=>?_⟩,hs.df,hs.sz⟩;simp only[S.nil,iX]
 by_cases hj:j=i
 ·rw[ae hj];have:=h2 i;rw[hi] at this;rw[hj]
  generalize a.tmps.getD i undef=u at this
  cases this;exact .ownnil _ _
 ·rw[aa hj];exact h2 j
theorem Next.intro{Y:Type}{L:Y->List (Nat×V)}{H:Y->List (Nat×Ob)}{b:Y->Nat}{y:Y}{s:S}(a:Y)(hl:agree (L a) s)(hh:fh (H a) s)(hm:b a<b y):Next L H b y s:=⟨s,a7.refl s,a,hl,hh,hm⟩
structure fo(P:Program)(f:Nat)(fn:Func)(ac:AC)(rv:List RV)(n:Nat)(D:Array Oper->List AO->Bool):Prop where
 func:P.funcs[f]? =some fn
 name:fn.name≠ "runtime.NumGoroutine"
 body:fn.body.bind (wX P fn.ntmps D)=some ac
 res:Em P fn.results.toList=some rv
 args:n<=fn.ntmps
def hX(rv:List RV)(vs:List V)(s:S):Prop:=m6 s rv λx=>x=vs
def Is(v:V):V->Hp->Prop:=λx h=>x=v/\h=Hp.emp
theorem eW{P:Program}{f:Nat}{fn:Func}{ac:AC}{rv:List RV}{args:List V}{D:Array Oper->List AO->Bool}(b:lH P D)(ok:fo P f fn ac rv args.length D)(vs:List V)(hz:Fz (nx vs))
  (h:∀R,(∀s s',a7 s s'->hX rv vs s'->R s)->fX ca (fa P) (fj P) ac (S0 args Hp.emp) R (λ_ _=>False) R):Spec P f args Hp.emp (Is (nx vs)):=by
 obtain⟨c,hc,a⟩:=bT.1 ok.body;refine CC b ok.func ok.name hc a ok.res ok.args (h _ λs s' he hr=>⟨s',he,?_⟩);unfold hX at hr;have mono:∀(rv:List RV)(K K':List V->Prop),(∀x,K x->K' x)->m6 s' rv K->m6 s' rv K':=by
  intro rv
  induction rv with
  |nil=>intro K K' hK h;exact hK _ h
  |cons r rv ih=>
   intro K K' hK h;cases r with
   |t i=>exact ih _ _ (λx hx=>hK _ hx) h
   |c1 i=>
    simp only[m6] at h⊢;unfold oC at h⊢
    split at h
    ·unfold tX at h⊢
     split at h
     ·obtain⟨a1,a2,a3,a4,a5⟩:=h;exact⟨a1,a2,a3,a4,ih _ _ (λx hx=>hK _ hx) a5⟩
     ·exact h.elim
    ·exact⟨h.1,ih _ _ (λx hx=>hK _ hx) h.2⟩
    ·exact h.elim
   |cn i n=>
    simp only[m6] at h⊢;unfold oD at h⊢
    split at h
    ·unfold tX at h⊢
     split at h
     ·obtain⟨a1,a2,a3,a4,a5⟩:=h;exact⟨a1,a2,a3,a4,ih _ _ (λx hx=>hK _ hx) a5⟩
     ·exact h.elim
    ·exact⟨h.1,ih _ _ (λx hx=>hK _ hx) h.2⟩
    ·exact h.elim
 exact mono rv _ _ (λx hx=>by subst hx;exact⟨hz,Hp.emp,by simp[Hp.emp],rfl,rfl⟩) hr
theorem kD{P:Program}{f:Nat}{args args':List V}{v:V}{h:Hp}{K:V->Hp->Prop}(hs:Spec P f args' Hp.emp (Is v))(ha:k6 h [] args args')(hK:K (v.gA (gI [])) h):Cv P f args h K:=
 ⟨[],args',Hp.emp,Is v,hs,ha,by simp[Hp.emp],by simp,by rintro v' h' ⟨rfl,rfl⟩;exact hK⟩
theorem qh{P:Program}{f:Nat}{args args':List V}{v:V}{h:Hp}{K:V->Hp->Prop}(hs:Spec P f args' Hp.emp (Is v))(ha:k6 h [] args args')(hK:K (v.gA (gI [])) h):fj P f args h K:=
 ⟨[],args',Hp.emp,v,⟨hs.fn,λC us a b c d=>(hs.run C us a b c d).mono (by rintro e w' ⟨u,v',h',F',e1,e2,e3,rfl,rfl⟩;exact⟨u,v',_,F',e1,e2,e3,rfl,rfl⟩)⟩,ha,by simp[Hp.emp],by simp,hK⟩
def fZ(T:cp)(f:Nat)(args:List V)(v:V):Prop:=∀(h:Hp)(K:V->Hp->Prop),K v h->T f args h K
theorem fU{P:Program}{f:Nat}{args args':List V}{v:V}(hs:Spec P f args' Hp.emp (Is v))(ha:∀h,k6 h [] args args')(hv:v.gA (gI [])=v):fZ (fa P) f args v:=λh K hK=>⟨h,λ_ F _ _ hs=>⟨F,λ_ h=>h,hs⟩,kD hs (ha h) (by rw[hv];exact hK)⟩
theorem qi{P:Program}{f:Nat}{args args':List V}{v:V}(hs:Spec P f args' Hp.emp (Is v))(ha:∀h,k6 h [] args args')(hv:v.gA (gI [])=v):fZ (fj P) f args v:=λh K hK=>qh hs (ha h) (by rw[hv];exact hK)
end Go.Proofs.YtobngncjflogcaaGreat.AM
