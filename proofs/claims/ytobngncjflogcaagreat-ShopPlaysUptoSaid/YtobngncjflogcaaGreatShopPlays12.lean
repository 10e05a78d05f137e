/-
  Part 12 of what the law ShopPlays reaches: the plain machine, contracts of the functions and plain laws; each lemma says its own condition.
-/
import Derived.Test.YtobngncjflogcaaGreatShopPlays11
import Derived.Test.YtobngncjflogcaaGreatShopPlays7
import Derived.Test.YtobngncjflogcaaGreatShopPlays6
set_option linter.unusedVariables false
set_option linter.unusedSimpArgs false
namespace Go.Proofs.YtobngncjflogcaaGreat.AM
open Go Go.RowKit
set_option maxRecDepth 100000
set_option maxHeartbeats 2000000
structure hI where
 gen:Int
 base:Int
 text:BS
 first:Nat->Int
 table:Nat->Int
 e8:List eP
 whole:Bool
 eF:Int
def TS(l:hI):V:=TE l.gen l.base l.text l.first l.table (l.e8.map ca) l.whole l.eF
def xo:hI:=⟨0,0,[],λ_=>0,λ_=>0,[],false,0⟩
def nv(l:hI)(now:BS)(f:Frame):Option (hI×BS):=
 if f.kind=3 then(if l.whole=true\/f.body≠[] then none else some (⟨l.gen,l.base,l.text,l.first,l.table,l.e8,true,l.eF+((f.body.length:Int)+7)⟩,now))
 else if f.kind=2 then
  (if pa f.body=true/\gw l.base l.table l.e8.length now.length (jH f.body)=0 then
   some (⟨l.gen,l.base,l.text,l.first,gJ l.table (jH f.body).who.toNat (jH f.body).seq (l.base+(l.e8.length:Int)+1),l.e8++[jH f.body],l.whole,l.eF+((f.body.length:Int)+7)⟩,(kl (jH f.body).delta now).1) else none)
 else none
def kI:List Frame->hI->BS->hI
 |[],l,_=>l
 |f::fs,l,now=>match nv l now f with
  |none=>l
  |some (a,n2)=>kI fs a n2
def pL(g b:Int)(tx:BS)(f:Nat->Int)(n:Int):hI:=⟨g,b,tx,f,f,[],false,n⟩
def ly(hg hb:BS->Int)(ht:BS->BS)(hf:BS->Nat->Int)(ho:BS->Bool)(fs:List Frame):hI×Int:=match fs with
 |[]=>(xo,7)
 |f::fs=>if f.kind≠1\/ho f.body=false then(xo,3) else(kI fs (pL (hg f.body) (hb f.body) (ht f.body) (hf f.body) ((f.body.length:Int)+7)) (ht f.body),0)
def fW(fs:List Frame):hI×Int:=ly (λx=>jt x 0) (λx=>jt x 1) (λx=>(kp x 18).1) (λx j=>jt x (j+2)) mq fs
def V6(a:Nat)(h:Hp)(rows:List (List V))(v:V)(x:Int):Prop:=(v=.nilsl/\rows=[]/\x≠0)\/∃β n,v=.own a β 3 n/\h a=some ⟨β,91,3,rows⟩/\n=rows.length
theorem V6.fr{a:Nat}{h:Hp}{l:List eP}{v:V}{x:Int}(hv:V6 a h (l.map ca) v x):Fr h v (.sl false 3 (l.map ca)):=by
 rcases hv with⟨rfl,h0,_⟩|⟨β,n,rfl,h1,h2⟩
 ·rw[h0];exact .nilsl 3
 ·exact .rows h1 rfl rfl h2.symm (Cs _) (fL _)
def yo(rv:List RV)(a:Nat)(l:hI)(e:Int)(R:S->Prop):Prop:=
 ∀(s s':S)(gn b gd:Int)(tx:BS)(fs tb:Nat->Int)(wh:Bool)(v:V)(rows:List (List V))(x:Int),c6 s s'->iH rv [.agg [.int .i64 gn,.int .i64 b,.str tx,.int .i64 (fs 0),.int .i64 (fs 1),.int .i64 (fs 2),.int .i64 (fs 3),.int .i64 (fs 4),.int .i64 (fs 5),.int .i64 (fs 6),.int .i64 (fs 7),.int .i64 (fs 8),.int .i64 (fs 9),.int .i64 (fs 10),.int .i64 (fs 11),.int .i64 (fs 12),.int .i64 (fs 13),.int .i64 (fs 14),.int .i64 (fs 15),.int .i64 (tb 0),.int .i64 (tb 1),.int .i64 (tb 2),.int .i64 (tb 3),.int .i64 (tb 4),.int .i64 (tb 5),.int .i64 (tb 6),.int .i64 (tb 7),.int .i64 (tb 8),.int .i64 (tb 9),.int .i64 (tb 10),.int .i64 (tb 11),.int .i64 (tb 12),.int .i64 (tb 13),.int .i64 (tb 14),.int .i64 (tb 15),v,.bool wh,.int .i64 gd],.int .i64 x] s'->V6 a s'.h rows v x->
  gn=l.gen/\b=l.base/\gd=l.eF/\tx=l.text/\(∀j,j<16->fs j=l.first j)/\(∀j,j<16->tb j=l.table j)/\wh=l.whole/\rows=l.e8.map ca/\x=e->R s
theorem FX{rv:List RV}{c:Nat}{l:hI}{e:Int}{R:S->Prop}(d:∀s s',c6 s s'->Fk rv (.tup [TS l,.int .i64 e]) s'->R s):yo rv c l e R:=by
 intro s s' gn b gd tx fs tb wh v rows x he a hv h;obtain⟨rfl,rfl,rfl,rfl,h5,h6,rfl,rfl,rfl⟩:=h;refine d s s' he (eM _ _ _ (λy hy=>?_) a);subst hy;rw[h5 0 qD,h5 1 qD,h5 2 qD,h5 3 qD,h5 4 qD,h5 5 qD,h5 6 qD,h5 7 qD,h5 8 qD,h5 9 qD,h5 10 qD,h5 11 qD,h5 12 qD,h5 13 qD,h5 14 qD,h5 15 qD,h6 0 qD,h6 1 qD,h6 2 qD,h6 3 qD,h6 4 qD,h6 5 qD,h6 6 qD,h6 7 qD,h6 8 qD,h6 9 qD,h6 10 qD,h6 11 qD,h6 12 qD,h6 13 qD,h6 14 qD,h6 15 qD];exact .jV (.fD (.same _ (.int _ _)) (.fD (.same _ (.int _ _)) (.fD (.same _ (.str _)) (.fD (.same _ (.int _ _)) (.fD (.same _ (.int _ _)) (.fD (.same _ (.int _ _)) (.fD (.same _ (.int _ _)) (.fD (.same _ (.int _ _)) (.fD (.same _ (.int _ _)) (.fD (.same _ (.int _ _)) (.fD (.same _ (.int _ _)) (.fD (.same _ (.int _ _)) (.fD (.same _ (.int _ _)) (.fD (.same _ (.int _ _)) (.fD (.same _ (.int _ _)) (.fD (.same _ (.int _ _)) (.fD (.same _ (.int _ _)) (.fD (.same _ (.int _ _)) (.fD (.same _ (.int _ _)) (.fD (.same _ (.int _ _)) (.fD (.same _ (.int _ _)) (.fD (.same _ (.int _ _)) (.fD (.same _ (.int _ _)) (.fD (.same _ (.int _ _)) (.fD (.same _ (.int _ _)) (.fD (.same _ (.int _ _)) (.fD (.same _ (.int _ _)) (.fD (.same _ (.int _ _)) (.fD (.same _ (.int _ _)) (.fD (.same _ (.int _ _)) (.fD (.same _ (.int _ _)) (.fD (.same _ (.int _ _)) (.fD (.same _ (.int _ _)) (.fD (.same _ (.int _ _)) (.fD (.same _ (.int _ _)) (.fD hv.fr (.fD (.same _ (.bool _)) (.fD (.same _ (.int _ _)) .Dp)))))))))))))))))))))))))))))))))))))) (.jV (.same _ (.int _ _)) .uq)
theorem sk{h:Hp}{m:List (Nat×Nat)}:∀{l l':List V},mH h m l l'->l.length=l'.length/\∀(i:Nat)(v v':V),l[i]? =some v->l'[i]? =some v'->Arg h m v v'
 |_,_,.nil=>⟨rfl,λi v v' h1=>by cases h1⟩
 |_,_,.cons a b=>by
  obtain⟨h1,h2⟩:=sk b;refine⟨by simp[h1],λi v v' g1 g2=>?_⟩;cases i with
  |zero=>
   simp only[bT,aH] at g1 g2;subst g1 g2;exact a
  |succ i=>simp only[cK] at g1 g2;exact h2 i v v' g1 g2
def V7(T:c8)(f:Nat)(a:Int->(Nat->Int)->Nat->Int->eP->Int):Prop:=∀(k:Nat)(ba:Option Nat)(n:Nat)(rows:List (List V))(gn b gd sz w q:Int)(tx:BS)(fs tb:Nat->Int)(wh:Bool)(l:List eP)(dr:List (List V))(r:eP)(h:Hp)(K:V->Hp->Prop),
 rows=l.map ca->n=l.length->(w=r.who/\q=r.seq/\dr=r.delta.map bd)->fH r.delta->0<=b/\b<=2147483647->h k=some ⟨ba,91,3,rows⟩->
 K (qI (a b tb l.length sz r)) h->T f [.agg [qI gn,qI b,.str tx,qI (fs 0),qI (fs 1),qI (fs 2),qI (fs 3),qI (fs 4),qI (fs 5),qI (fs 6),qI (fs 7),qI (fs 8),qI (fs 9),qI (fs 10),qI (fs 11),qI (fs 12),qI (fs 13),qI (fs 14),qI (fs 15),qI (tb 0),qI (tb 1),qI (tb 2),qI (tb 3),qI (tb 4),qI (tb 5),qI (tb 6),qI (tb 7),qI (tb 8),qI (tb 9),qI (tb 10),qI (tb 11),qI (tb 12),qI (tb 13),qI (tb 14),qI (tb 15),.own k ba 3 n,.bool wh,qI gd],qI sz,.agg [qI w,qI q,.sl false 3 dr]] h K
theorem JA{f:Nat}(hs:∀(gn b:Int)(tx:BS)(fs tb:Nat->Int)(l:List eP)(wh:Bool)(gd size:Int)(r:eP),0<=b/\b<=2147483647->fH r.delta->Spec Tryz.prog f [M3 gn b tx fs tb (l.map ca) wh gd,.int .i64 size,.agg (ca r)] Hp.emp (Is (.int .i64 (gw b tb l.length size r)))):V7 (fm Tryz.prog) f gw:=by
 rintro k ba n rows gn b gd sz w q tx fs tb wh l dr r h K rfl rfl ⟨rfl,rfl,rfl⟩ hp hb hk hK;have hown:Arg h [] (.own k ba 3 l.length) (.sl true 3 (l.map ca)):=.own k ba 3 l.length _ (jO (by simp) hk) (by simp);obtain⟨a1,a2⟩:=sk (h:=h) (m:=[]) (l:=[.int .i64 gn,.int .i64 b,.str tx,.int .i64 (fs 0),.int .i64 (fs 1),.int .i64 (fs 2),.int .i64 (fs 3),.int .i64 (fs 4),.int .i64 (fs 5),.int .i64 (fs 6),.int .i64 (fs 7),.int .i64 (fs 8),.int .i64 (fs 9),.int .i64 (fs 10),.int .i64 (fs 11),.int .i64 (fs 12),.int .i64 (fs 13),.int .i64 (fs 14),.int .i64 (fs 15),.int .i64 (tb 0),.int .i64 (tb 1),.int .i64 (tb 2),.int .i64 (tb 3),.int .i64 (tb 4),.int .i64 (tb 5),.int .i64 (tb 6),.int .i64 (tb 7),.int .i64 (tb 8),.int .i64 (tb 9),.int .i64 (tb 10),.int .i64 (tb 11),.int .i64 (tb 12),.int .i64 (tb 13),.int .i64 (tb 14),.int .i64 (tb 15),.own k ba 3 l.length,.bool wh,.int .i64 gd]) (l':=[.int .i64 gn,.int .i64 b,.str tx,.int .i64 (fs 0),.int .i64 (fs 1),.int .i64 (fs 2),.int .i64 (fs 3),.int .i64 (fs 4),.int .i64 (fs 5),.int .i64 (fs 6),.int .i64 (fs 7),.int .i64 (fs 8),.int .i64 (fs 9),.int .i64 (fs 10),.int .i64 (fs 11),.int .i64 (fs 12),.int .i64 (fs 13),.int .i64 (fs 14),.int .i64 (fs 15),.int .i64 (tb 0),.int .i64 (tb 1),.int .i64 (tb 2),.int .i64 (tb 3),.int .i64 (tb 4),.int .i64 (tb 5),.int .i64 (tb 6),.int .i64 (tb 7),.int .i64 (tb 8),.int .i64 (tb 9),.int .i64 (tb 10),.int .i64 (tb 11),.int .i64 (tb 12),.int .i64 (tb 13),.int .i64 (tb 14),.int .i64 (tb 15),.sl true 3 (l.map ca),.bool wh,.int .i64 gd]) (.cons (.same _) (.cons (.same _) (.cons (.same _) (.cons (.same _) (.cons (.same _) (.cons (.same _) (.cons (.same _) (.cons (.same _) (.cons (.same _) (.cons (.same _) (.cons (.same _) (.cons (.same _) (.cons (.same _) (.cons (.same _) (.cons (.same _) (.cons (.same _) (.cons (.same _) (.cons (.same _) (.cons (.same _) (.cons (.same _) (.cons (.same _) (.cons (.same _) (.cons (.same _) (.cons (.same _) (.cons (.same _) (.cons (.same _) (.cons (.same _) (.cons (.same _) (.cons (.same _) (.cons (.same _) (.cons (.same _) (.cons (.same _) (.cons (.same _) (.cons (.same _) (.cons (.same _) (.cons hown (.cons (.same _) (.cons (.same _) .nil))))))))))))))))))))))))))))))))))))));exact⟨h,jU.refl h,lN (hs gn b tx fs tb l wh gd sz r hb hp) (.cons (.agg _ _ a1 a2) (.cons (.same _) (.cons (.same _) .nil))) hK⟩
def Ab:AC:=qr [qo 2 (.alloc 72 xJ),qz 3 0] (qr [qm 14 0,qa 15 134 [.t 14],qm 13 15,qx 16 0 13,qx 17 1 13,qm 4 16,qm 5 17] (qq (qr [qm 18 4,qo 19 (.len false (.t 18)),qc 20 .eql 19 0] (qu 20 (qr [qo 21 (.build xJ []),qs 38 2 21,qz 3 7] .ret) .skip)) (qr [qm 23 4,qo 24 (.iaddr 2 (.t 23) (qk 0)),qf 25 1 24,ql 26 25,qa 27 135 [.t 26],qm 22 27,qx 28 0 22,qx 29 1 22,qo 6 (.alloc 72 xJ),qs 38 6 28,qm 7 29] (qq (qr [qm 30 4,qo 31 (.iaddr 2 (.t 30) (qk 0)),qf 32 0 31,ql 33 32,qc 34 .neq 33 1,qm 35 34,qg 36 35 false (.mov (.t 7)),qg 37 35 false (.not (.t 36)),qo 38 (.pick (.t 35) (.c (.bool true)) (.t 37))] (qu 38 (qr [qo 39 (.build xJ []),qs 38 2 39,qz 3 3] .ret) .skip)) (qr [qf 40 2 6,ql 41 40,qm 8 41] (qr [qm 42 4,qo 43 (.iaddr 2 (.t 42) (qk 0)),qf 44 1 43,ql 45 44,qo 46 (.len true (.t 45)),qc 47 .add 46 7,qf 48 37 6,qs 1 48 47] (qq (qr [qm 49 4,qo 50 (.slsl 2 (.t 49) (some (qk 1)) none),qo 51 (.len false (.t 50)),qz 52 0] (.block 0 (.loop (qr [qb 53 .lss 52 51] (qq (qu 53 .skip (.exit 0)) (qq (.block 1 (qr [qo 54 (.iaddr 2 (.t 50) (.t 52)),qd 55 2 54,qo 10 (.alloc 126 uN),qs 2 10 55] (qq (qr [qf 56 0 10,ql 57 56] (.block 2 (qr [qc 60 .eql 57 3,qm 59 60] (qu 59 (qq (qr [qf 61 36 6,ql 62 61,qm 63 62,qg 64 63 false (.faddr 1 (.t 10)),qg 65 63 false (.load1 (.t 64)),qg 66 63 false (.bin .neq (.t 65) (.c qe)),qo 67 (.pick (.t 63) (.c (.bool true)) (.t 66))] (qu 67 (qr [qd 68 38 6,qs 38 2 68,qz 3 0] .ret) .skip)) (qR [qf 69 36 6,⟨none,none,.store 1 (.t 69) (.c (.bool true))⟩])) (qr [qc 71 .eql 57 2,qm 70 71] (qu 70 (qr [qf 73 1 10,ql 74 73,qa 75 136 [.t 74],qm 72 75,qx 76 0 72,qx 77 1 72,qo 11 (.alloc 91 xI),qs 3 11 76,qm 12 77] (qq (qr [qm 78 12,qo 79 (.not (.t 78)),qm 80 79,qg 81 80 false (.loadn 38 (.t 6)),qg 82 80 false (.mov (.t 8)),qg 83 80 false (.len true (.t 82)),qg 84 80 false (.loadn 3 (.t 11)),qg 85 80 false (.call 77 [.t 81,.t 83,.t 84]),qg 86 80 false (.bin .neq (.t 85) (qk 0)),qo 87 (.pick (.t 80) (.c (.bool true)) (.t 86))] (qu 87 (qr [qd 88 38 6,qs 38 2 88,qz 3 0] .ret) .skip)) (qr [qf 90 2 11,ql 91 90,qm 92 8,qa 93 79 [.t 91,.t 92],qm 89 93,qx 94 0 89,qx 95 1 89,qm 8 94] (qR [qd 96 3 11,qa 97 80 [.t 6,.t 96]])))) (qr [qd 58 38 6,qs 38 2 58,qz 3 0] .ret))))))) (qR [qf 98 37 6,ql 99 98,qf 100 1 10,ql 101 100,qo 102 (.len true (.t 101)),qc 103 .add 102 7,qb 104 .add 99 103,qf 105 37 6,qs 1 105 104])))) (qR [qc 106 .add 52 1,qm 52 106]))))))) (qr [qd 107 38 6,qs 38 2 107,qz 3 0] .ret))))))))
theorem JB:fF Tryz.prog 94 Tryz.f94 Ab [.cn 2 38,.t 3] 1 er:=⟨Tryz.func94,by decide+kernel,by kernel_rfl,by kernel_rfl,by decide+kernel⟩
theorem ow{b:Int}{tb:Nat->Int}{n:Nat}{sz:Int}{r:eP}(h:gw b tb n sz r=0):iL r=0/\n<64:=by
 unfold gw at h
 by_cases h1:iL r≠0
 ·rw[ae h1] at h;exact absurd h h1
 ·rw[aa h1] at h;refine⟨az h1,?_⟩
  split at h
  ·exact absurd h qD
  ·split at h
   ·exact absurd h qD
   ·omega
structure XE(fs:List Frame)(L0:hI)(V8:BS) where
 k:Int
 pre:List Frame
 rest:List Frame
 L:hI
 now:BS
 ba:Option Nat
 n:Nat
 rows:List (List V)
 gn:Int
 b:Int
 gd:Int
 tx:BS
 mr:Nat->Int
 tb:Nat->Int
 wh:Bool
 hd:fs=pre++rest
 hk:k=(pre.length:Int)
 gf:kI fs L0 V8=kI rest L now
 hn:n=L.e8.length
 ds:rows=L.e8.map ca
 wv:L.base=L0.base
 hl:L.e8.length<=64
 hg:0<=L.eF/\L.eF<=4007*((pre.length:Int)+1)
 he:gn=L.gen/\b=L.base/\gd=L.eF/\tx=L.text/\(∀j,j<16->mr j=L.first j)/\tb=L.table/\wh=L.whole
theorem JC(P:Prim)(hP:P=dn)(T T1:c8)(s:BS)(FrS:List Frame)(H:∀f∈FrS,f.body.length<=4000)(Pn:FrS.length<=1048576)(e:List (List V))(u:e=iN FrS)(fn:Int)
  (h1:gK T 134 [.str s] (.tup [.sl false 2 e,qI fn]))(hg hb:BS->Int)(ht:BS->BS)(hf:BS->Nat->Int)(ho:BS->Bool)
  (h2:∀x,x.length<=4000->gK T 135 [.str x] (.tup [.agg [qI (hg x),qI (hb x),.str (ht x),qI (hf x 0),qI (hf x 1),qI (hf x 2),qI (hf x 3),qI (hf x 4),qI (hf x 5),qI (hf x 6),qI (hf x 7),qI (hf x 8),qI (hf x 9),qI (hf x 10),qI (hf x 11),qI (hf x 12),qI (hf x 13),qI (hf x 14),qI (hf x 15),qI (hf x 0),qI (hf x 1),qI (hf x 2),qI (hf x 3),qI (hf x 4),qI (hf x 5),qI (hf x 6),qI (hf x 7),qI (hf x 8),qI (hf x 9),qI (hf x 10),qI (hf x 11),qI (hf x 12),qI (hf x 13),qI (hf x 14),qI (hf x 15),.nilsl,.bool false,qI 0],.bool (ho x)]))(Px:∀x,0<=hb x/\hb x<=2147483647)
  (rw rq:BS->Int)(rd:BS->List (List V))(ro:BS->Bool)(h3:∀x,x.length<=4000->gK T 136 [.str x] (.tup [.agg [qI (rw x),qI (rq x),.sl false 3 (rd x)],.bool (ro x)]))
  (X:∀x,rw x=(jH x).who/\rq x=(jH x).seq/\rd x=(jH x).delta.map bd/\ro x=pa x)
  (nx:Int->(Nat->Int)->Nat->Int->eP->Int)(h4:V7 T 77 nx)(V9:∀b tb n sz r,nx b tb n sz r=gw b tb n sz r)
  (dt:BS->BS->BS)(de:BS->BS->Int)(h5:∀x now,gK T 79 [.sl false 3 (rd x),.str now] (.tup [.str (dt x now),qI (de x now)]))(Y:∀x now,dt x now=(kl (jH x).delta now).1)
  (h6:TR T)(rl:hI)(re:Int)(hr:ly hg hb ht hf ho FrS=(rl,re))
  (R:S->Prop)(B:yo [.cn 2 38,.t 3] 1000999 rl re R):gj P T T1 Ab (S0 [.str s] Hp.emp) R (λ_ _=>False) R:=by
 have v:P.dv e=(FrS.length:Int):=by rw[gE hP,u];simp[iN]
 have z0:P.fC 0 0:=iu hP qD;cbv;intro Z;cbv;refine h1 _ _ ?_;cbv
 rcases FrS with _|⟨⟨I,b0⟩,fs⟩
 ·have e0:P.dv e=0:=by rw[v];rfl
  simp only[ly,aL] at hr;refine iv (pC hP e0) ?_;cbv
  repeat' first|(refine qA ?_;cbv)|(intro a;cbv)
  exact B _ _ _ _ _ _ (λ_=>0) (λ_=>0) _ _ [] _ (c6.refl _) ⟨rfl,rfl,an 0,ah 38,rfl⟩ (.inl ⟨rfl,rfl,qD⟩) ⟨by rw[<-hr.1];rfl,by rw[<-hr.1];rfl,by rw[<-hr.1];rfl,by rw[<-hr.1];rfl,λ_ _=>by rw[<-hr.1];rfl,λ_ _=>by rw[<-hr.1];rfl,by rw[<-hr.1];rfl,by rw[<-hr.1];rfl,hr.2⟩
 have e0:¬P.dv e=0:=by rw[v];simp only[au];((try simp only[nc] at*);omega)
 have o:P.row e (P.nat 0) [qI I,.str b0]:=ga hP (i:=0) rfl (by rw[u];rfl);have c2:=h2 b0 (H ⟨I,b0⟩ (by simp));simp only[ly] at hr;obtain⟨L0,l⟩:∃L,L=pL (hg b0) (hb b0) (ht b0) (hf b0) ((b0.length:Int)+7):=⟨_,rfl⟩;have Wa:hg b0=L0.gen:=by rw[l];rfl
 have Wb:hb b0=L0.base:=by rw[l];rfl
 have Wc:ht b0=L0.text:=by rw[l];rfl
 have Wd:∀j,hf b0 j=L0.first j:=λj=>by rw[l];rfl
 have We:hf b0=L0.table:=by rw[l];rfl
 have J:L0.e8=[]:=by rw[l];rfl
 have Wf:false=L0.whole:=by rw[l];rfl
 have K:L0.eF=(b0.length:Int)+7:=by rw[l];rfl
 have Wg:0<=L0.base/\L0.base<=2147483647:=by rw[l];exact Px b0
 rw[<-l] at hr;clear l;refine hJ (wk hP e0) ?_;cbv
 repeat' first|(refine qA ?_;cbv)|(intro a;cbv)
 refine⟨_,o,?_⟩;cbv
 repeat' first|(refine qA ?_;cbv)|(intro a;cbv)
 refine c2 _ _ ?_;cbv;intro M;cbv
 repeat' first|(refine qA ?_;cbv)|(intro a;cbv)
 refine⟨_,o,?_⟩;cbv;clear c2 h2;have bad:(I≠1\/ho b0=false)->xo=rl/\3=re:=λh=>by
  rw[ae h] at hr;simpa using hr
 refine ab (λg=>?_) (λg=>?_)
 ·obtain⟨r1,r2⟩:=bad (.inl (hH hP g));cbv
  repeat' first|(refine qA ?_;cbv)|(intro a;cbv)
  exact B _ _ _ _ _ _ (λ_=>0) (λ_=>0) _ _ [] _ (c6.refl _) ⟨rfl,rfl,an 0,ah 38,rfl⟩ (.inl ⟨rfl,rfl,qD⟩) ⟨by rw[<-r1];rfl,by rw[<-r1];rfl,by rw[<-r1];rfl,by rw[<-r1];rfl,λ_ _=>by rw[<-r1];rfl,λ_ _=>by rw[<-r1];rfl,by rw[<-r1];rfl,by rw[<-r1];rfl,r2⟩
 have SZ:I=1:=gZ hP g;cbv;refine ab (λg=>?_) (λg=>?_)
 rotate_left
 ·obtain⟨r1,r2⟩:=bad (.inr g);cbv
  repeat' first|(refine qA ?_;cbv)|(intro a;cbv)
  exact B _ _ _ _ _ _ (λ_=>0) (λ_=>0) _ _ [] _ (c6.refl _) ⟨rfl,rfl,an 0,ah 38,rfl⟩ (.inl ⟨rfl,rfl,qD⟩) ⟨by rw[<-r1];rfl,by rw[<-r1];rfl,by rw[<-r1];rfl,by rw[<-r1];rfl,λ_ _=>by rw[<-r1];rfl,λ_ _=>by rw[<-r1];rfl,by rw[<-r1];rfl,by rw[<-r1];rfl,r2⟩
 rw[aa (by rw[g];simp[SZ])] at hr;simp only[aL] at hr;obtain⟨mU,MJ⟩:=hr;have RC:b0.length<=4000:=H ⟨I,b0⟩ (by simp);have g1:P.add (P.c9 b0) 7=(b0.length:Int)+7:=by rw[add_eq hP,da hP]
 have g2:P.i64 (P.add (P.c9 b0) 7):=by rw[g1];exact eR hP qO
 have z1:P.fC 0 1:=iu hP qD;have z2:P.fC 1 (P.dv e):=lE hP (by rw[v];simp only[au];((try simp only[nc] at*);omega));have z3:P.fC (P.dv e) (P.dv e):=lE hP (aN _);have E:P.jn e 1 (P.dv e)=iN fs:=by
  rw[v,u];subst hP;show((iN (⟨I,b0⟩::fs)).take ((((⟨I,b0⟩:Frame)::fs).length:Int)).toNat).drop 1=_;rw[aA,aY (by simp[iN])];rfl
 obtain⟨m,w⟩:∃m,m=P.jn e 1 (P.dv e):=⟨_,rfl⟩;have GK:P.dv m=(fs.length:Int):=by rw[gE hP,w,E];simp[iN]
 clear bad g;cbv
 repeat' first|(refine qA ?_;cbv)|(intro a;cbv)
 refine⟨_,o,?_⟩;cbv
 repeat' first|(refine qA ?_;cbv)|(intro a;cbv)
 clear o e0 v z2 z3 g2 z1;rw[<-w];refine⟨XE fs L0 (ht b0),λy=>[(2,.ptr 2 (some Z) 38 0 0),(6,.ptr 6 (some M) 38 0 0),(8,.str y.now),(50,.sl false 2 m),(51,qI (P.dv m)),(52,qI y.k)],
  λy=>[(2,⟨some Z,72,38,[[qI 0,qI 0,.str [],qI 0,qI 0,qI 0,qI 0,qI 0,qI 0,qI 0,qI 0,qI 0,qI 0,qI 0,qI 0,qI 0,qI 0,qI 0,qI 0,qI 0,qI 0,qI 0,qI 0,qI 0,qI 0,qI 0,qI 0,qI 0,qI 0,qI 0,qI 0,qI 0,qI 0,qI 0,qI 0,.nilsl,.bool false,qI 0]]⟩),(6,⟨some M,72,38,[[qI y.gn,qI y.b,.str y.tx,qI (y.mr 0),qI (y.mr 1),qI (y.mr 2),qI (y.mr 3),qI (y.mr 4),qI (y.mr 5),qI (y.mr 6),qI (y.mr 7),qI (y.mr 8),qI (y.mr 9),qI (y.mr 10),qI (y.mr 11),qI (y.mr 12),qI (y.mr 13),qI (y.mr 14),qI (y.mr 15),qI (y.tb 0),qI (y.tb 1),qI (y.tb 2),qI (y.tb 3),qI (y.tb 4),qI (y.tb 5),qI (y.tb 6),qI (y.tb 7),qI (y.tb 8),qI (y.tb 9),qI (y.tb 10),qI (y.tb 11),qI (y.tb 12),qI (y.tb 13),qI (y.tb 14),qI (y.tb 15),.own 1000999 y.ba 3 y.n,.bool y.wh,qI y.gd]]⟩),(1000999,⟨y.ba,91,3,y.rows⟩)],λy=>y.rest.length,
  ⟨_,c6.mK (k:=6) (k':=1000999) (ty:=91) (sz:=3) (r:=0) (c:=35) rfl rfl rfl rfl,⟨0,[],fs,L0,ht b0,none,0,[],hg b0,hb b0,P.add (P.c9 b0) 7,ht b0,hf b0,hf b0,false,rfl,rfl,rfl,by rw[J];rfl,by rw[J];rfl,rfl,by rw[J];exact aP _,⟨by rw[K];exact Int.add_nonneg (aO _) qD,by rw[K];show(b0.length:Int)+7<=4007*(0+1);((try simp only[nc] at*);omega)⟩,⟨Wa,Wb,by rw[g1,K],Wc,λj _=>Wd j,We,Wf⟩⟩,⟨rfl,rfl,rfl,rfl,rfl,rfl,trivial⟩,⟨rfl,rfl,rfl,trivial⟩⟩,?_⟩
 rintro⟨k,pre,rest,L,now,ba,n,rows,gn,b,gd,tx,mr,tb,wh,hd,hk,gf,hn,ds,wv,hlen,Zp,he⟩;rw[mU] at gf
 replace hk:k=(pre.length:Int):=hk
 have TT:pre.length+rest.length=fs.length:=by rw[hd];simp
 simp only[au] at Pn;obtain⟨N,p,XF,O,Q,C,D⟩:=he;have q:n=rows.length:=by rw[hn,ds];simp
 have z:0<=b/\b<=2147483647:=by rw[p,wv];exact Wg
 have fin:rl=L->gn=rl.gen/\b=rl.base/\gd=rl.eF/\tx=rl.text/\(∀j,j<16->mr j=rl.first j)/\(∀j,j<16->tb j=rl.table j)/\wh=rl.whole/\rows=rl.e8.map ca/\(0:Int)=re:=λh=>by
  rw[h];exact⟨N,p,XF,O,Q,λj _=>by rw[C],D,ds,MJ⟩
 cbv;refine ab (λg=>?_) (λg=>?_)
 rotate_left
 ·have U:¬k<P.dv m:=fM hP g;rw[GK] at U
  rcases rest with _|⟨y,rest⟩
  rotate_left
  ·exfalso;simp at TT;((try simp only[nc] at*);omega)
  cbv
  repeat' first|(refine qA ?_;cbv)|(intro a;cbv)
  exact B _ _ _ _ _ _ _ _ _ _ _ _ (c6.refl _) ⟨rfl,rfl,an 0,ah 38,rfl⟩ (.inr ⟨ba,n,rfl,rfl,q⟩) (fin gf)
 have U:k<P.dv m:=fJ hP g;rw[GK] at U
 rcases rest with _|⟨⟨kd,d⟩,rest⟩
 ·exfalso;simp at TT;((try simp only[nc] at*);omega)
 have rB:d.length<=4000:=H ⟨kd,d⟩ (by rw[hd];simp);have F:P.row m (P.nat k) [qI kd,.str d]:=ga hP hk (by rw[w,E,iN,av,hd];simp[jD]);have q1:P.fC 0 k:=iu hP qO;have q2:P.i64 (P.add k 1):=by rw[add_eq hP];exact eR hP qO
 have q3:P.add k 1=(((pre++[(⟨kd,d⟩:Frame)]).length:Nat):Int):=by rw[add_eq hP,hk];simp
 have d1:P.add (P.c9 d) 7=(d.length:Int)+7:=by rw[add_eq hP,da hP]
 have d2:P.i64 (P.add (P.c9 d) 7):=by rw[d1];exact eR hP qO
 have d3:P.add gd (P.add (P.c9 d) 7)=L.eF+((d.length:Int)+7):=by rw[add_eq hP gd,d1,XF]
 have d4:P.i64 (P.add gd (P.add (P.c9 d) 7)):=by rw[d3];exact eR hP qO
 have d5:0<=L.eF+((d.length:Int)+7)/\L.eF+((d.length:Int)+7)<=4007*(((pre++[(⟨kd,d⟩:Frame)]).length:Int)+1):=by rw[ag];simp only[au,aT];((try simp only[nc] at*);omega)
 rw[kI] at gf;unfold nv at gf;simp only[] at gf;clear g;cbv
 repeat' first|(refine qA ?_;cbv)|(intro a;cbv)
 refine⟨_,F,?_⟩;cbv;intro NM;cbv
 repeat' first|(refine qA ?_;cbv)|(intro a;cbv)
 clear F;refine ab (λg=>?_) (λg=>?_)
 ·have hk3:kd=3:=nG hP g;rw[ae hk3] at gf;cbv
  rcases wh with _|_
  rotate_left
  ·rw[ae (.inl D.symm)] at gf;cbv
   repeat' first|(refine qA ?_;cbv)|(intro a;cbv)
   exact B _ _ _ _ _ _ _ _ _ _ _ _ (c6.refl _) ⟨rfl,rfl,an 0,ah 38,rfl⟩ (.inr ⟨ba,n,rfl,rfl,q⟩) (fin gf)
  ·cbv
   repeat' first|(refine qA ?_;cbv)|(intro a;cbv)
   refine ab (λg=>?_) (λg=>?_)
   ·rw[ae (.inr (zC hP g))] at gf;cbv
    repeat' first|(refine qA ?_;cbv)|(intro a;cbv)
    exact B _ _ _ _ _ _ _ _ _ _ _ _ (c6.refl _) ⟨rfl,rfl,an 0,ah 38,rfl⟩ (.inr ⟨ba,n,rfl,rfl,q⟩) (fin gf)
   ·rw[aa (by rintro(h|h);rw[<-D] at h;cases h;exact h (zD hP g))] at gf
    cbv
    repeat' first|(refine qA ?_;cbv)|(intro a;cbv)
    exact⟨_,c6.refl _,⟨_,pre++[⟨kd,d⟩],rest,⟨L.gen,L.base,L.text,L.first,L.table,L.e8,true,L.eF+((d.length:Int)+7)⟩,now,ba,n,rows,gn,b,P.add gd (P.add (P.c9 d) 7),tx,mr,tb,true,by simp[hd],q3,mU.trans gf,hn,ds,wv,hlen,d5,⟨N,p,d3,O,Q,C,rfl⟩⟩,⟨rfl,rfl,rfl,rfl,rfl,rfl,trivial⟩,⟨rfl,rfl,rfl,trivial⟩,by simp⟩
 have hk3:¬kd=3:=nH hP g;rw[aa hk3] at gf;cbv;refine ab (λg=>?_) (λg=>?_)
 rotate_left
 ·have hk2:¬kd=2:=nH hP g;rw[aa hk2] at gf;cbv
  repeat' first|(refine qA ?_;cbv)|(intro a;cbv)
  exact B _ _ _ _ _ _ _ _ _ _ _ _ (c6.refl _) ⟨rfl,rfl,an 0,ah 38,rfl⟩ (.inr ⟨ba,n,rfl,rfl,q⟩) (fin gf)
 have hk2:kd=2:=nG hP g;rw[ae hk2] at gf;obtain⟨rv,G⟩:∃rv,rv=jH d:=⟨_,rfl⟩;have c3:=h3 d rB;obtain⟨w1,w2,w3,w4⟩:=X d;have w5:=Y d now;have w6:=h5 d now;rw[<-G] at w1 w2 w3 w5 gf;rw[<-w4] at gf;rw[<-w5] at gf;have Wh:fH rv.delta:=by rw[G];exact pJ _
 have RD:iL rv=0->0<=rv.who/\rv.who<=7:=λh=>⟨(jg h).1,(jg h).2.1⟩;clear h3 X Y h5 g
 generalize ro d=qw at c3 gf w4
 generalize rd d=dr at c3 w3 w6
 generalize rw d=wd at c3 w1
 generalize rq d=qd at c3 w2
 generalize dt d now=Wi at w6 gf
 generalize de d now=e6 at w6
 cbv;refine c3 _ _ ?_;cbv;intro RE;cbv
 repeat' first|(refine qA ?_;cbv)|(intro a;cbv)
 rcases qw with _|_
 ·rw[aa (by rintro⟨h,_⟩;cases h)] at gf;cbv
  repeat' first|(refine qA ?_;cbv)|(intro a;cbv)
  exact B _ _ _ _ _ _ _ _ _ _ _ _ (c6.refl _) ⟨rfl,rfl,an 0,ah 38,rfl⟩ (.inr ⟨ba,n,rfl,rfl,q⟩) (fin gf)
 have A:nx b tb L.e8.length (P.c9 now) rv=gw L.base L.table L.e8.length now.length rv:=by rw[V9,p,C,da hP]
 have d6:(d.length:Int)+7=(d.length:Int)+7:=rfl;cbv
 repeat' first|(refine qA ?_;cbv)|(intro a;cbv)
 refine h4 1000999 ba n rows gn b gd (P.c9 now) wd qd tx mr tb wh L.e8 dr rv _ _ ds hn ⟨w1,w2,w3⟩ Wh z rfl ?_
 generalize nx b tb L.e8.length (P.c9 now) rv=e0 at A⊢
 cbv
 repeat' first|(refine qA ?_;cbv)|(intro a;cbv)
 refine ab (λg=>?_) (λg=>?_)
 ·have hx:=hH hP g;rw[A] at hx;rw[aa (by rintro⟨_,h⟩;exact hx h)] at gf;cbv
  repeat' first|(refine qA ?_;cbv)|(intro a;cbv)
  exact B _ _ _ _ _ _ _ _ _ _ _ _ (c6.refl _) ⟨rfl,rfl,an 0,ah 38,rfl⟩ (.inr ⟨ba,n,rfl,rfl,q⟩) (fin gf)
 have hx:=gZ hP g;rw[A] at hx;rw[ae ⟨rfl,hx⟩] at gf;obtain⟨x1,x2⟩:=ow hx;cbv
 repeat' first|(refine qA ?_;cbv)|(intro a;cbv)|(refine w6 _ _ ?_;cbv)|fail
 refine h6 6 1000999 M ba gn b gd tx mr tb wh n rows L.e8 wd qd dr rv _ _ ds hn qW ⟨w1,w2,w3⟩ (RD x1) z rfl rfl rfl λRF TU n' W t1 t2 t3=>?_;cbv
 repeat' first|(refine qA ?_;cbv)|(intro a;cbv)
 exact⟨_,c6.refl _,⟨_,pre++[⟨kd,d⟩],rest,⟨L.gen,L.base,L.text,L.first,gJ L.table rv.who.toNat rv.seq (L.base+(L.e8.length:Int)+1),L.e8++[rv],L.whole,L.eF+((d.length:Int)+7)⟩,Wi,RF,n',W,gn,b,P.add gd (P.add (P.c9 d) 7),tx,mr,TU,wh,by simp[hd],q3,mU.trans gf,by rw[t2];simp,t3,wv,by show(L.e8++[rv]).length<=64;simp;omega,d5,⟨N,p,d3,O,Q,by rw[t1,C,p],D⟩⟩,⟨rfl,rfl,rfl,rfl,rfl,rfl,trivial⟩,⟨rfl,rfl,rfl,trivial⟩,by simp⟩
structure SC where
 x1:BS
 x2:Int
 x3:BS
 x4:Int
 dE:Int
 gn:Int
 b:Int
 tx:BS
 fs:Nat->Int
 tb:Nat->Int
 wh:Bool
 gd:Int
 now:BS
 sf:Int
 gH:Bool
def fw(d:SC)(rv mv:V):List V:=[.str d.x1,.int .i64 d.x2,.str d.x3,.int .i64 d.x4,.int .i64 d.dE,.int .i64 d.gn,.int .i64 d.b,.str d.tx,.int .i64 (d.fs 0),.int .i64 (d.fs 1),.int .i64 (d.fs 2),.int .i64 (d.fs 3),.int .i64 (d.fs 4),.int .i64 (d.fs 5),.int .i64 (d.fs 6),.int .i64 (d.fs 7),.int .i64 (d.fs 8),.int .i64 (d.fs 9),.int .i64 (d.fs 10),.int .i64 (d.fs 11),.int .i64 (d.fs 12),.int .i64 (d.fs 13),.int .i64 (d.fs 14),.int .i64 (d.fs 15),.int .i64 (d.tb 0),.int .i64 (d.tb 1),.int .i64 (d.tb 2),.int .i64 (d.tb 3),.int .i64 (d.tb 4),.int .i64 (d.tb 5),.int .i64 (d.tb 6),.int .i64 (d.tb 7),.int .i64 (d.tb 8),.int .i64 (d.tb 9),.int .i64 (d.tb 10),.int .i64 (d.tb 11),.int .i64 (d.tb 12),.int .i64 (d.tb 13),.int .i64 (d.tb 14),.int .i64 (d.tb 15),rv,.bool d.wh,.int .i64 d.gd,.str d.now,.int .i64 d.sf,mv,.bool d.gH]
def fx(bl:Nat)(r:List V):Ob:=⟨some bl,75,47,[r]⟩
theorem iM(bl:Nat)(d:SC)(rv mv:V)(f:Nat->Nat):(fx bl (fw d rv mv)).gM f=fx bl (fw d (rv.rl f) (mv.rl f)):=rfl
theorem Fz.rl{v:V}(h:Fz v)(f:Nat->Nat):Fz (v.rl f):=by
 cases v<;>first|exact h|exact .own _ _ _ _|exact .ptr _ _ _ _ _|exact .win _ _ _ _ _
theorem jB{d:SC}{rv mv:V}(h1:Fz rv)(h2:Fz mv)(bl:Nat):(fx bl (fw d rv mv)).Fz:=by
 intro r hr v hv;simp only[fx,aq] at hr;subst hr;simp only[fw,aw,aD,bw] at hv
 rcases hv with rfl|rfl|rfl|rfl|rfl|rfl|rfl|rfl|rfl|rfl|rfl|rfl|rfl|rfl|rfl|rfl|rfl|rfl|rfl|rfl|rfl|rfl|rfl|rfl|rfl|rfl|rfl|rfl|rfl|rfl|rfl|rfl|rfl|rfl|rfl|rfl|rfl|rfl|rfl|rfl|rfl|rfl|rfl|rfl|rfl|rfl|rfl
 all_goals first|exact .int _ _|exact .str _|exact .bool _|exact h1|exact h2
def qT(k:Nat):V->Bool
 |.own j _ _ _=> !(Nat.beq j 0)||Nat.beq k 0
 |.ptr j _ _ _ _=> !(Nat.beq j 0)||Nat.beq k 0
 |.win .. =>false
 |_=>true
theorem JD{k j:Nat}(h:(!(Nat.beq j 0)||Nat.beq k 0)=true):gD [(0,k)] (gW [(0,k)] j)=j:=by
 simp only[bG,Bool.not_eq_true'] at h;unfold gW gW
 by_cases hj:j=k
 ·rw[ae hj];simp[gD,hj]
 ·rw[aa hj];unfold gD gD
  rcases h with h|h
  ·have:¬j=0:=λe=>by subst e;cases h
   rw[aa this]
  ·have:k=0:=bA h
   by_cases h0:j=0
   ·rw[ae h0];omega
   ·rw[aa h0]
theorem Py{k:Nat}{v:V}(h:qT k v=true):(v.rl (gW [(0,k)])).rl (gD [(0,k)])=v:=by
 cases v<;>first|rfl|(simp only[V.rl];rw[JD h])|cases h
def WQ(rv mv:V):Prop:=(Fz rv/\V.one rv=true)/\Fz mv/\V.one mv=true
def OQ(ba:Option Nat)(n:Nat)(rv mv:V):Prop:=(∃j,rv=.own j ba 3 n)/\Fz mv/\V.one mv=true
theorem yq{v:V}(h:V.one v=true)(f:Nat->Nat):V.one (v.rl f)=true:=by cases v<;>first|exact h|rfl
theorem WQ.rl{rv mv:V}(h:WQ rv mv)(g:Nat->Nat):WQ (rv.rl g) (mv.rl g):=⟨⟨h.1.1.rl g,yq h.1.2 g⟩,h.2.1.rl g,yq h.2.2 g⟩
theorem OQ.rl{ba:Option Nat}{n:Nat}{rv mv:V}(h:OQ ba n rv mv)(g:Nat->Nat):OQ ba n (rv.rl g) (mv.rl g):=by
 obtain⟨⟨j,rfl⟩,h⟩:=h;exact⟨⟨g j,rfl⟩,h.1.rl g,yq h.2 g⟩
theorem OQ.wq{ba:Option Nat}{n:Nat}{rv mv:V}(h:OQ ba n rv mv):WQ rv mv:=by
 obtain⟨⟨j,rfl⟩,h⟩:=h;exact⟨⟨.own _ _ _ _,rfl⟩,h⟩
theorem Ea{P:Program}{Q:V->V->Prop}{f k bl:Nat}{rest:List V}{d:SC}{rv mv v:V}{d':SC}(c:∀g,Q (rv.rl g) (mv.rl g))(hs:∀rv mv,Q rv mv->Spec P f (.ptr 0 (some bl) 47 0 0::rest) (cp [(0,fx bl (fw d rv mv))]) λx h'=>∃b,(x=v/\b=[(0,fx bl (fw d' rv mv))])/\h'=cp b)
  (a:rest.all V.pl=true)(hv:∀g,v.gM g=v)(h1:Fz rv)(h2:Fz mv)(r1:qT k rv=true)(r2:qT k mv=true){h:Hp}{K:V->Hp->Prop}(hk:h k=some (fx bl (fw d rv mv)))(hK:K v (Hp.put h k (fx bl (fw d' rv mv)))):fm P f (.ptr k (some bl) 47 0 0::rest) h K:=by
 refine mA (m:=[(0,k)]) (hs (rv.rl (gW [(0,k)])) (mv.rl (gW [(0,k)])) (c _)) (.cons ?_ (fO a)) (λj q hj=>?_) (λp hp=>?_) ?_
 ·have:=Arg.same (h:=h) (m:=[(0,k)]) (.ptr k (some bl) 47 0 0);simpa[V.gM,V.rl,gW] using this
 ·simp only[cp] at hj
  split at hj
  ·rename_i h0;exact⟨(0,k),by simp,h0.symm⟩
  ·cases hj
 ·simp only[aq] at hp;subst hp;refine⟨by simp[gD],by simp[gW],λq hq=>?_⟩;simp only[cp,↓reduceIte,aH] at hq;subst hq;refine⟨?_,jB (h1.rl _) (h2.rl _) bl⟩;rw[hk,aE];exact aB some (iM bl d rv mv _)
 ·rintro x b ⟨rfl,rfl⟩;have e:h.gy [(0,k)] (cp [(0,fx bl (fw d' (rv.rl (gW [(0,k)])) (mv.rl (gW [(0,k)]))))])=Hp.put h k (fx bl (fw d' rv mv)):=by
   funext i
   simp only[Hp.gy,Hp.put,bK,bP,bN,bc]
   by_cases hi:k=i
   ·subst hi;have wv:gW [(0,k)] k=0:=by simp[gW]
    rw[ae rfl,ae rfl,wv];show(some (fx bl (fw d' (rv.rl (gW [(0,k)])) (mv.rl (gW [(0,k)]))))).map (Ob.gM (gD [(0,k)]))=_;rw[aE,iM,Py r1,Py r2]
   ·rw[aa hi,aa λe=>hi e.symm]
  rw[e,hv];exact hK
theorem yr{P:Program}{Q:V->V->Prop}{f k bl:Nat}{rest:List V}{d:SC}{rv mv v:V}(c:∀g,Q (rv.rl g) (mv.rl g))(hs:∀rv mv,Q rv mv->Spec P f (.ptr 0 (some bl) 47 0 0::rest) (cp [(0,fx bl (fw d rv mv))]) λx h'=>∃b,(x=v/\b=[(0,fx bl (fw d rv mv))])/\h'=cp b)
  (a:rest.all V.pl=true)(hv:∀g,v.gM g=v)(h1:Fz rv)(h2:Fz mv){h:Hp}{K:V->Hp->Prop}(hk:h k=some (fx bl (fw d rv mv)))(hK:K v h):fX P f (.ptr k (some bl) 47 0 0::rest) h K:=by
 have hs0:=hs (rv.rl (gW [(0,k)])) (mv.rl (gW [(0,k)])) (c _);refine⟨[(0,k)],_,cp [(0,fx bl (fw d (rv.rl (gW [(0,k)])) (mv.rl (gW [(0,k)]))))],v,⟨hs0.fn,λC us a1 a2 a3 a4=>(hs0.run C us a1 a2 a3 a4).mono ?_⟩,.cons ?_ (fO a),λj q hj=>?_,λp hp=>?_,by rw[hv];exact hK⟩
 ·rintro e w' ⟨u,x,h',F',e1,i,l,b,⟨rfl,rfl⟩,rfl⟩;exact⟨u,_,_,F',e1,i,l,rfl,rfl⟩
 ·have:=Arg.same (h:=h) (m:=[(0,k)]) (.ptr k (some bl) 47 0 0);simpa[V.gM,V.rl,gW] using this
 ·simp only[cp] at hj
  split at hj
  ·rename_i h0;exact⟨(0,k),by simp,h0.symm⟩
  ·cases hj
 ·simp only[aq] at hp;subst hp;refine⟨by simp[gD],by simp[gW],_,by simp[cp];rfl,?_,jB (h1.rl _) (h2.rl _) bl⟩;rw[hk,aE];exact aB some (iM bl d rv mv _)
def jd(d:SC)(i:Int)(t:BS):SC:= {d with x1:=(n5 d.x1 d.x2 d.x3 d.x4 i t).x1,x2:=(n5 d.x1 d.x2 d.x3 d.x4 i t).x2,x3:=(n5 d.x1 d.x2 d.x3 d.x4 i t).x3,x4:=(n5 d.x1 d.x2 d.x3 d.x4 i t).x4}
def Eb:AC:=.region false [qm 7 0,qm 8 0,qn 9 8,qf 10 0 9,qd 11 4 10,qm 12 1,qm 13 2,qa 14 71 [.t 11,.t 12,.t 13],qm 6 14,qx 15 0 6,qx 16 1 6,qn 17 7,qf 18 0 17,qs 4 18 15]
theorem NN:fF Tryz.prog 26 Tryz.f26 Eb [] 3 er:=⟨Tryz.func26,by decide+kernel,by kernel_rfl,by kernel_rfl,by decide+kernel⟩
theorem NO(P:Prim)(hP:P=dn)(T c:c8)(bl:Nat)(d:SC)(rv mv:V)(f:V.one rv=true)(g:V.one mv=true)(i:Int)(t:BS)(y1:BS)(y2:Int)(a:BS)(b e:Int)(h1:gK T 71 [.agg [.str d.x1,qI d.x2,.str d.x3,qI d.x4],qI i,.str t] (.tup [.agg [.str y1,qI y2,.str a,qI b],qI e]))
  (R:S->Prop)(h:∀s s',c6 s s'->fG [(0,fx bl (fw {d with x1:=y1,x2:=y2,x3:=a,x4:=b} rv mv))] s'->R s):gj P T c Eb (S0 [.ptr 0 (some bl) 47 0 0,qI i,.str t] (cp [(0,fx bl (fw d rv mv))])) R (λ_ _=>False) R:=by
 cbv
 repeat' first|(refine qA ?_;cbv)|(intro j;cbv)|(refine h1 _ _ ?_;cbv)|fail
 exact h _ _ (c6.refl _) ⟨rfl,trivial⟩
theorem NP(bl:Nat)(d:SC)(i:Int)(t:BS)(ht:t.length<=140737488355328)(rv mv:V)(hq:WQ rv mv):Spec Tryz.prog 26 [.ptr 0 (some bl) 47 0 0,qI i,.str t] (cp [(0,fx bl (fw d rv mv))]) λx h'=>∃a,(x=.tup []/\a=[(0,fx bl (fw (jd d i t) rv mv))])/\h'=cp a:=
 fu iD NN (L:=[(0,fx bl (fw d rv mv))]) (λx a=>x=.tup []/\a=[(0,fx bl (fw (jd d i t) rv mv))]) λR b=>
  NO dn rfl _ _ bl d rv mv hq.1.2 hq.2.2 i t _ _ _ _ _ (ia (QR d.x1 d.x2 d.x3 d.x4 i t ht) (λ_=>(.cons (.same _) (.cons (.same _) (.cons (.same _) .nil)))) rfl) R λs s' he ha=>b s s' (.tup []) [(0,fx bl (fw (jd d i t) rv mv))] he (by rfl) ha (.tup _ (λv hv=>by cases hv)) (λp hp=>by rw[aq.1 hp];exact jB hq.1.1 hq.2.1 bl) ⟨rfl,rfl⟩
def jj(d:SC)(i:Int):SC:= {d with x1:=(n6 d.x1 d.x2 d.x3 d.x4 i).x1,x2:=(n6 d.x1 d.x2 d.x3 d.x4 i).x2,x3:=(n6 d.x1 d.x2 d.x3 d.x4 i).x3,x4:=(n6 d.x1 d.x2 d.x3 d.x4 i).x4}
def Ec:AC:=.region false [qm 5 0,qm 6 0,qn 7 6,qf 8 0 7,qd 9 4 8,qm 10 1,qa 11 72 [.t 9,.t 10],qm 4 11,qx 12 0 4,qx 13 1 4,qn 14 5,qf 15 0 14,qs 4 15 12]
theorem NQ:fF Tryz.prog 28 Tryz.f28 Ec [] 2 er:=⟨Tryz.func28,by decide+kernel,by kernel_rfl,by kernel_rfl,by decide+kernel⟩
theorem NR(P:Prim)(hP:P=dn)(T c:c8)(bl:Nat)(d:SC)(rv mv:V)(f:V.one rv=true)(g:V.one mv=true)(i:Int)(y1:BS)(y2:Int)(a:BS)(b e:Int)(h1:gK T 72 [.agg [.str d.x1,qI d.x2,.str d.x3,qI d.x4],qI i] (.tup [.agg [.str y1,qI y2,.str a,qI b],qI e]))
  (R:S->Prop)(h:∀s s',c6 s s'->fG [(0,fx bl (fw {d with x1:=y1,x2:=y2,x3:=a,x4:=b} rv mv))] s'->R s):gj P T c Ec (S0 [.ptr 0 (some bl) 47 0 0,qI i] (cp [(0,fx bl (fw d rv mv))])) R (λ_ _=>False) R:=by
 cbv
 repeat' first|(refine qA ?_;cbv)|(intro j;cbv)|(refine h1 _ _ ?_;cbv)|fail
 exact h _ _ (c6.refl _) ⟨rfl,trivial⟩
theorem NS(bl:Nat)(d:SC)(i:Int)(rv mv:V)(hq:WQ rv mv):Spec Tryz.prog 28 [.ptr 0 (some bl) 47 0 0,qI i] (cp [(0,fx bl (fw d rv mv))]) λx h'=>∃a,(x=.tup []/\a=[(0,fx bl (fw (jj d i) rv mv))])/\h'=cp a:=
 fu iD NQ (L:=[(0,fx bl (fw d rv mv))]) (λx a=>x=.tup []/\a=[(0,fx bl (fw (jj d i) rv mv))]) λR b=>
  NR dn rfl _ _ bl d rv mv hq.1.2 hq.2.2 i _ _ _ _ _ (ia (QU d.x1 d.x2 d.x3 d.x4 i) (λ_=>(.cons (.same _) (.cons (.same _) .nil))) rfl) R λs s' he ha=>b s s' (.tup []) [(0,fx bl (fw (jj d i) rv mv))] he (by rfl) ha (.tup _ (λv hv=>by cases hv)) (λp hp=>by rw[aq.1 hp];exact jB hq.1.1 hq.2.1 bl) ⟨rfl,rfl⟩
def iF(d:SC)(i n:Int):SC:= {d with x1:=(n7 d.x1 d.x2 d.x3 d.x4 i n).x1,x2:=(n7 d.x1 d.x2 d.x3 d.x4 i n).x2,x3:=(n7 d.x1 d.x2 d.x3 d.x4 i n).x3,x4:=(n7 d.x1 d.x2 d.x3 d.x4 i n).x4}
def Ed:AC:=.region false [qm 7 0,qm 8 0,qn 9 8,qf 10 0 9,qd 11 4 10,qm 12 1,qm 13 2,qa 14 133 [.t 11,.t 12,.t 13],qm 6 14,qx 15 0 6,qx 16 1 6,qn 17 7,qf 18 0 17,qs 4 18 15]
theorem NT:fF Tryz.prog 92 Tryz.f92 Ed [] 3 er:=⟨Tryz.func92,by decide+kernel,by kernel_rfl,by kernel_rfl,by decide+kernel⟩
theorem NU(P:Prim)(hP:P=dn)(T c:c8)(bl:Nat)(d:SC)(rv mv:V)(f:V.one rv=true)(g:V.one mv=true)(i n:Int)(y1:BS)(y2:Int)(a:BS)(b e:Int)(h1:gK T 133 [.agg [.str d.x1,qI d.x2,.str d.x3,qI d.x4],qI i,qI n] (.tup [.agg [.str y1,qI y2,.str a,qI b],qI e]))
  (R:S->Prop)(h:∀s s',c6 s s'->fG [(0,fx bl (fw {d with x1:=y1,x2:=y2,x3:=a,x4:=b} rv mv))] s'->R s):gj P T c Ed (S0 [.ptr 0 (some bl) 47 0 0,qI i,qI n] (cp [(0,fx bl (fw d rv mv))])) R (λ_ _=>False) R:=by
 cbv
 repeat' first|(refine qA ?_;cbv)|(intro j;cbv)|(refine h1 _ _ ?_;cbv)|fail
 exact h _ _ (c6.refl _) ⟨rfl,trivial⟩
theorem NV(bl:Nat)(d:SC)(i n:Int)(rv mv:V)(hq:WQ rv mv):Spec Tryz.prog 92 [.ptr 0 (some bl) 47 0 0,qI i,qI n] (cp [(0,fx bl (fw d rv mv))]) λx h'=>∃a,(x=.tup []/\a=[(0,fx bl (fw (iF d i n) rv mv))])/\h'=cp a:=
 fu iD NT (L:=[(0,fx bl (fw d rv mv))]) (λx a=>x=.tup []/\a=[(0,fx bl (fw (iF d i n) rv mv))]) λR b=>
  NU dn rfl _ _ bl d rv mv hq.1.2 hq.2.2 i n _ _ _ _ _ (ia (QX d.x1 d.x2 d.x3 d.x4 i n) (λ_=>(.cons (.same _) (.cons (.same _) (.cons (.same _) .nil)))) rfl) R λs s' he ha=>b s s' (.tup []) [(0,fx bl (fw (iF d i n) rv mv))] he (by rfl) ha (.tup _ (λv hv=>by cases hv)) (λp hp=>by rw[aq.1 hp];exact jB hq.1.1 hq.2.1 bl) ⟨rfl,rfl⟩
def vA(T:c8):Prop:=∀(k bl:Nat)(d:SC)(rv mv:V)(i:Int)(t:BS)(h:Hp)(K:V->Hp->Prop),t.length<=140737488355328->WQ rv mv->qT k rv=true->qT k mv=true->h k=some (fx bl (fw d rv mv))->(∀d',d'=jd d i t->K (.tup []) (Hp.put h k (fx bl (fw d' rv mv))))->T 26 [.ptr k (some bl) 47 0 0,qI i,.str t] h K
theorem xq:vA (fm Tryz.prog):=λk bl d rv mv i t h K ht hq r1 r2 hk hK=>Ea (v:=.tup []) (Q:=WQ) (λg=>hq.rl g) (λrv mv hq=>NP bl d i t ht rv mv hq) rfl (λ_=>rfl) hq.1.1 hq.2.1 r1 r2 hk (hK _ rfl)
def Ac(T:c8):Prop:=∀(k bl:Nat)(d:SC)(rv mv:V)(i:Int)(h:Hp)(K:V->Hp->Prop),WQ rv mv->qT k rv=true->qT k mv=true->h k=some (fx bl (fw d rv mv))->(∀d',d'=jj d i->K (.tup []) (Hp.put h k (fx bl (fw d' rv mv))))->T 28 [.ptr k (some bl) 47 0 0,qI i] h K
theorem Ee:Ac (fm Tryz.prog):=λk bl d rv mv i h K hq r1 r2 hk hK=>Ea (v:=.tup []) (Q:=WQ) (λg=>hq.rl g) (λrv mv hq=>NS bl d i rv mv hq) rfl (λ_=>rfl) hq.1.1 hq.2.1 r1 r2 hk (hK _ rfl)
def Ef(T:c8):Prop:=∀(k bl:Nat)(d:SC)(rv mv:V)(i n:Int)(h:Hp)(K:V->Hp->Prop),WQ rv mv->qT k rv=true->qT k mv=true->h k=some (fx bl (fw d rv mv))->(∀d',d'=iF d i n->K (.tup []) (Hp.put h k (fx bl (fw d' rv mv))))->T 92 [.ptr k (some bl) 47 0 0,qI i,qI n] h K
theorem JE:Ef (fm Tryz.prog):=λk bl d rv mv i n h K hq r1 r2 hk hK=>Ea (v:=.tup []) (Q:=WQ) (λg=>hq.rl g) (λrv mv hq=>NV bl d i n rv mv hq) rfl (λ_=>rfl) hq.1.1 hq.2.1 r1 r2 hk (hK _ rfl)
theorem JF{h:Hp}{k:Nat}{o:Ob}(hk:h k=some o):Hp.put h k o=h:=by
 funext i
 unfold Hp.put
 by_cases hi:i=k
 ·rw[ae hi,hi,hk]
 ·rw[aa hi]
def S1(bl:Nat)(d:SC)(rv mv:V):List (Nat×Ob):=[(0,fx bl (fw d rv mv))]
theorem qy{f:Nat}{fn:Func}{ac:AC}{rv:List RV}{rest:List V}(ok:fF Tryz.prog f fn ac rv (rest.length+1) er)(vs:List V)(v:V)(b:l4 vs=v)(hv:Fz v)(bl:Nat)(d:SC)(r m:V)(hq:WQ r m)
  (h:∀R:S->Prop,(∀(s s':S),c6 s s'->iH rv vs s'->fG (S1 bl d r m) s'->R s)->gj dn (fm Tryz.prog) (fX Tryz.prog) ac (S0 (.ptr 0 (some bl) 47 0 0::rest) (cp (S1 bl d r m))) R (λ_ _=>False) R):
  Spec Tryz.prog f (.ptr 0 (some bl) 47 0 0::rest) (cp (S1 bl d r m)) λx h'=>∃a,(x=v/\a=S1 bl d r m)/\h'=cp a:=
 fu iD ok (L:=S1 bl d r m) (λx a=>x=v/\a=S1 bl d r m) λR c=>h R λs s' he hr ha=>c s s' v _ he (eM rv _ _ (λx hx=>by rw[hx];exact b) hr) ha hv (λp hp=>by rw[aq.1 hp];exact jB hq.1.1 hq.2.1 bl) ⟨rfl,rfl⟩
theorem Vl{f k bl:Nat}{rest:List V}{d:SC}{rv mv v:V}{Q:V->V->Prop}(c:∀g,Q (rv.rl g) (mv.rl g))(hs:∀rv mv,Q rv mv->Spec Tryz.prog f (.ptr 0 (some bl) 47 0 0::rest) (cp (S1 bl d rv mv)) λx h'=>∃b,(x=v/\b=S1 bl d rv mv)/\h'=cp b)
  (a:rest.all V.pl=true)(hv:∀g,v.gM g=v)(h1:Fz rv)(h2:Fz mv)(r1:qT k rv=true)(r2:qT k mv=true){h:Hp}{K:V->Hp->Prop}(hk:h k=some (fx bl (fw d rv mv)))(hK:K v h):fm Tryz.prog f (.ptr k (some bl) 47 0 0::rest) h K:=
 Ea c hs a hv h1 h2 r1 r2 hk (by rw[JF hk];exact hK)
def Ad:AC:=qr [qz 2 0] (qq (.region true [qm 3 0,qn 4 3,qf 5 5 4,qf 6 1 5,ql 7 6,qm 8 0,qn 9 8,qf 10 5 9,qf 11 35 10,ql 12 11,qo 13 (.len false (.t 12)),qb 14 .add 7 13,qm 2 14]) .ret)
theorem JG:fF Tryz.prog 34 Tryz.f34 Ad [.t 2] 1 er:=⟨Tryz.func34,by decide+kernel,by kernel_rfl,by kernel_rfl,by decide+kernel⟩
theorem JH(P:Prim)(hP:P=dn)(T a:c8)(bl:Nat)(d:SC)(ka:Nat)(ba:Option Nat)(n:Nat)(mv:V)(c:V.one mv=true)(hb:P.i64 (P.add d.b (P.int n)))(r:Int)(hr:P.add d.b (P.int n)=r)
  (R:S->Prop)(e:∀s s' q,q=r->c6 s s'->iH [.t 2] [qI q] s'->fG (S1 bl d (.own ka ba 3 n) mv) s'->R s):gj P T a Ad (S0 [.ptr 0 (some bl) 47 0 0] (cp (S1 bl d (.own ka ba 3 n) mv))) R (λ_ _=>False) R:=by
 cbv
 repeat' first|(refine qA ?_;cbv)|(intro f;cbv)
 exact e _ _ _ hr (c6.refl _) rfl ⟨rfl,trivial⟩
theorem Ae(bl:Nat)(d:SC)(ba:Option Nat)(n:Nat)(hb:0<=d.b/\d.b<=4294967295)(hn:n<=1000)(rv mv:V)(hq:OQ ba n rv mv):Spec Tryz.prog 34 [.ptr 0 (some bl) 47 0 0] (cp (S1 bl d rv mv)) λx h'=>∃a,(x=qI (d.b+(n:Int))/\a=S1 bl d rv mv)/\h'=cp a:=by
 have hw:=hq.wq;obtain⟨⟨ka,rfl⟩,hm⟩:=hq;exact qy JG [qI (d.b+(n:Int))] _ rfl (.int _ _) bl d _ mv hw λR c=>JH dn rfl _ _ bl d ka ba n mv hm.2 (eR rfl (by rw[add_eq rfl,int_eq rfl];omega)) (d.b+(n:Int)) (by rw[add_eq rfl,int_eq rfl]) R λs s' q hq he hr ha=>c s s' he (by rw[<-hq];exact hr) ha
def mu(T:c8):Prop:=∀(k bl:Nat)(d:SC)(ka:Nat)(ba:Option Nat)(n:Nat)(mv:V)(h:Hp)(K:V->Hp->Prop),(0<=d.b/\d.b<=4294967295)->n<=1000->(Fz mv/\V.one mv=true)->qT k (.own ka ba 3 n)=true->qT k mv=true->h k=some (fx bl (fw d (.own ka ba 3 n) mv))->(∀q,q=d.b+(n:Int)->K (qI q) h)->T 34 [.ptr k (some bl) 47 0 0] h K
theorem rC:mu (fm Tryz.prog):=λk bl d ka ba n mv h K hb hn hm r1 r2 hk hK=>Vl (Q:=OQ ba n) (λg=>OQ.rl ⟨⟨ka,rfl⟩,hm⟩ g) (λrv mv hq=>Ae bl d ba n hb hn rv mv hq) rfl (λ_=>rfl) (.own _ _ _ _) hm.1 r1 r2 hk (hK _ rfl)
theorem Ct:mu (fX Tryz.prog):=λk bl d ka ba n mv h K hb hn hm r1 r2 hk hK=>yr (Q:=OQ ba n) (λg=>OQ.rl ⟨⟨ka,rfl⟩,hm⟩ g) (λrv mv hq=>Ae bl d ba n hb hn rv mv hq) rfl (λ_=>rfl) (.own _ _ _ _) hm.1 hk (hK _ rfl)
def Af:AC:=qr [qz 2 0] (qr [qm 3 0,qn 4 3,qf 5 5 4,qf 6 1 5,ql 7 6,qm 2 7] .ret)
theorem JI:fF Tryz.prog 33 Tryz.f33 Af [.t 2] 1 er:=⟨Tryz.func33,by decide+kernel,by kernel_rfl,by kernel_rfl,by decide+kernel⟩
theorem JJ(P:Prim)(hP:P=dn)(T a:c8)(bl:Nat)(d:SC)(rv mv:V)(c:V.one rv=true)(e:V.one mv=true)
  (R:S->Prop)(f:∀s s',c6 s s'->iH [.t 2] [qI d.b] s'->fG (S1 bl d rv mv) s'->R s):gj P T a Af (S0 [.ptr 0 (some bl) 47 0 0] (cp (S1 bl d rv mv))) R (λ_ _=>False) R:=by
 cbv
 repeat' first|(refine qA ?_;cbv)|(intro g;cbv)
 exact f _ _ (c6.refl _) rfl ⟨rfl,trivial⟩
theorem JK(bl:Nat)(d:SC)(rv mv:V)(hq:WQ rv mv):Spec Tryz.prog 33 [.ptr 0 (some bl) 47 0 0] (cp (S1 bl d rv mv)) λx h'=>∃a,(x=qI d.b/\a=S1 bl d rv mv)/\h'=cp a:=
 qy JI [qI d.b] _ rfl (.int _ _) bl d rv mv hq λR c=>JJ dn rfl _ _ bl d rv mv hq.1.2 hq.2.2 R c
def JL(T:c8):Prop:=∀(k bl:Nat)(d:SC)(rv mv:V)(h:Hp)(K:V->Hp->Prop),WQ rv mv->qT k rv=true->qT k mv=true->h k=some (fx bl (fw d rv mv))->K (qI d.b) h->T 33 [.ptr k (some bl) 47 0 0] h K
theorem RG:JL (fX Tryz.prog):=λk bl d rv mv h K hq r1 r2 hk hK=>yr (Q:=WQ) (λg=>hq.rl g) (λrv mv hq=>JK bl d rv mv hq) rfl (λ_=>rfl) hq.1.1 hq.2.1 hk hK
def Ag:AC:=qr [qz 2 0] (qr [qm 3 0,qn 4 3,qf 5 44 4,ql 6 5,qm 2 6] .ret)
theorem JM:fF Tryz.prog 36 Tryz.f36 Ag [.t 2] 1 er:=⟨Tryz.func36,by decide+kernel,by kernel_rfl,by kernel_rfl,by decide+kernel⟩
theorem JN(P:Prim)(hP:P=dn)(T a:c8)(bl:Nat)(d:SC)(rv mv:V)(b:V.one rv=true)(c:V.one mv=true)
  (R:S->Prop)(e:∀s s',c6 s s'->iH [.t 2] [qI d.sf] s'->fG (S1 bl d rv mv) s'->R s):gj P T a Ag (S0 [.ptr 0 (some bl) 47 0 0] (cp (S1 bl d rv mv))) R (λ_ _=>False) R:=by
 cbv
 repeat' first|(refine qA ?_;cbv)|(intro f;cbv)
 exact e _ _ (c6.refl _) rfl ⟨rfl,trivial⟩
theorem JO(bl:Nat)(d:SC)(rv mv:V)(hq:WQ rv mv):Spec Tryz.prog 36 [.ptr 0 (some bl) 47 0 0] (cp (S1 bl d rv mv)) λx h'=>∃a,(x=qI d.sf/\a=S1 bl d rv mv)/\h'=cp a:=
 qy JM [qI d.sf] _ rfl (.int _ _) bl d rv mv hq λR b=>JN dn rfl _ _ bl d rv mv hq.1.2 hq.2.2 R b
def JP(T:c8):Prop:=∀(k bl:Nat)(d:SC)(rv mv:V)(h:Hp)(K:V->Hp->Prop),WQ rv mv->qT k rv=true->qT k mv=true->h k=some (fx bl (fw d rv mv))->K (qI d.sf) h->T 36 [.ptr k (some bl) 47 0 0] h K
theorem RH:JP (fX Tryz.prog):=λk bl d rv mv h K hq r1 r2 hk hK=>yr (Q:=WQ) (λg=>hq.rl g) (λrv mv hq=>JO bl d rv mv hq) rfl (λ_=>rfl) hq.1.1 hq.2.1 hk hK
def fZ(b:Int)(n:Nat)(r:Int):Int:=if r<b then 9 else if b+(n:Int)<r then 8 else 0
def Ah:AC:=qr [qz 4 0] (qq (qr [qm 5 1,qm 6 0,qn 7 6,qf 8 5 7,qf 9 1 8,ql 10 9,qb 11 .lss 5 10] (qu 11 (qr [qz 4 9] .ret) .skip)) (qq (qr [qm 12 1,qm 13 0,qa 14 34 [.t 13],qb 15 .gtr 12 14] (qu 15 (qr [qz 4 8] .ret) .skip)) (qr [qz 4 0] .ret)))
theorem JQ:fF Tryz.prog 75 Tryz.f75 Ah [.t 4] 2 er:=⟨Tryz.func75,by decide+kernel,by kernel_rfl,by kernel_rfl,by decide+kernel⟩
theorem JR(P:Prim)(hP:P=dn)(T i:c8)(c:mu T)(bl:Nat)(d:SC)(ka:Nat)(ba:Option Nat)(n:Nat)(mv:V)(e:qT 0 (.own ka ba 3 n)=true)(f:qT 0 mv=true)(hm:Fz mv/\V.one mv=true)(hb:0<=d.b/\d.b<=4294967295)(hn:n<=1000)(j r:Int)(hr:fZ d.b n j=r)
  (R:S->Prop)(h:∀s s',c6 s s'->iH [.t 4] [qI r] s'->fG (S1 bl d (.own ka ba 3 n) mv) s'->R s):gj P T i Ah (S0 [.ptr 0 (some bl) 47 0 0,qI j] (cp (S1 bl d (.own ka ba 3 n) mv))) R (λ_ _=>False) R:=by
 have k:=hm.2;unfold fZ at hr;cbv
 repeat' first|(refine qA ?_;cbv)|(intro a;cbv)
 refine ab (λg=>?_) (λg=>?_)
 ·rw[ae (fJ hP g)] at hr;cbv
  repeat' first|(refine qA ?_;cbv)|(intro a;cbv)
  subst hr;exact h _ _ (c6.refl _) rfl ⟨rfl,trivial⟩
 rw[aa (fM hP g)] at hr;cbv
 repeat' first|(refine qA ?_;cbv)|(intro a;cbv)|(refine c 0 bl d ka ba n mv _ _ hb hn hm e f rfl λq hq=>?_;cbv)|fail
 refine ab (λg=>?_) (λg=>?_)
 ·have g1:q<j:=fJ hP g;rw[hq] at g1;rw[ae g1] at hr;cbv
  repeat' first|(refine qA ?_;cbv)|(intro a;cbv)
  subst hr;exact h _ _ (c6.refl _) rfl ⟨rfl,trivial⟩
 ·have g1:¬q<j:=fM hP g;rw[hq] at g1;rw[aa g1] at hr;cbv
  repeat' first|(refine qA ?_;cbv)|(intro a;cbv)
  subst hr;exact h _ _ (c6.refl _) rfl ⟨rfl,trivial⟩
def NW:V->Bool
 |.win .. =>false
 |_=>true
theorem Ta{v:V}(h:NW v=true):qT 0 v=true:=by
 cases v<;>first|rfl|(simp[qT];done)|cases h
theorem JS{v:V}(h:NW v=true)(f:Nat->Nat):NW (v.rl f)=true:=by cases v<;>first|rfl|cases h
def TQ(ba:Option Nat)(n:Nat)(rv mv:V):Prop:=OQ ba n rv mv/\NW mv=true
theorem TQ.rl{ba:Option Nat}{n:Nat}{rv mv:V}(h:TQ ba n rv mv)(g:Nat->Nat):TQ ba n (rv.rl g) (mv.rl g):=⟨h.1.rl g,JS h.2 g⟩
theorem JT(bl:Nat)(d:SC)(ba:Option Nat)(n:Nat)(hb:0<=d.b/\d.b<=4294967295)(hn:n<=1000)(j:Int)(rv mv:V)(hq:TQ ba n rv mv):Spec Tryz.prog 75 [.ptr 0 (some bl) 47 0 0,qI j] (cp (S1 bl d rv mv)) λx h'=>∃c,(x=qI (fZ d.b n j)/\c=S1 bl d rv mv)/\h'=cp c:=by
 have hw:=hq.1.wq;obtain⟨⟨⟨ka,rfl⟩,hm⟩,a⟩:=hq;exact qy JQ [qI (fZ d.b n j)] _ rfl (.int _ _) bl d _ mv hw λR e=>JR dn rfl _ _ rC bl d ka ba n mv (Ta rfl) (Ta a) hm hb hn j _ rfl R e
def uF(T:c8):Prop:=∀(k bl:Nat)(d:SC)(ka:Nat)(ba:Option Nat)(n:Nat)(mv:V)(j:Int)(h:Hp)(K:V->Hp->Prop),(0<=d.b/\d.b<=4294967295)->n<=1000->(Fz mv/\V.one mv=true)->NW mv=true->qT k (.own ka ba 3 n)=true->qT k mv=true->h k=some (fx bl (fw d (.own ka ba 3 n) mv))->(∀q,q=fZ d.b n j->K (qI q) h)->T 75 [.ptr k (some bl) 47 0 0,qI j] h K
theorem Cu:uF (fm Tryz.prog):=λk bl d ka ba n mv j h K hb hn hm hw r1 r2 hk hK=>Vl (Q:=TQ ba n) (λg=>TQ.rl ⟨⟨⟨ka,rfl⟩,hm⟩,hw⟩ g) (λrv mv hq=>JT bl d ba n hb hn j rv mv hq) rfl (λ_=>rfl) (.own _ _ _ _) hm.1 r1 r2 hk (hK _ rfl)
def S2(bl:Nat)(d:SC)(ba:Option Nat)(n:Nat)(rows:List (List V))(mv:V):List (Nat×Ob):=[(0,fx bl (fw d (.own 1000001 ba 3 n) mv)),(1000001,iw ba rows)]
theorem JU{bl:Nat}{d:SC}{ba:Option Nat}{n:Nat}{l:List eP}{mv:V}(hm:Fz mv):∀p∈S2 bl d ba n (l.map ca) mv,p.2.Fz:=by
 intro p hp
 rcases aw.1 hp with rfl|hp
 ·exact jB (.own _ _ _ _) hm bl
 ·rw[aq.1 hp];exact fL _
def ys(k ka:Nat):V->Bool
 |.own j _ _ _=>(!(Nat.beq j 0)&& !(Nat.beq j 1000001))||(Nat.beq k 0&&Nat.beq ka 1000001)
 |.ptr j _ _ _ _=>(!(Nat.beq j 0)&& !(Nat.beq j 1000001))||(Nat.beq k 0&&Nat.beq ka 1000001)
 |.win .. =>false
 |_=>true
theorem JV{k ka j:Nat}(hne:k≠ka)(h:((!(Nat.beq j 0)&& !(Nat.beq j 1000001))||(Nat.beq k 0&&Nat.beq ka 1000001))=true):gD [(0,k),(1000001,ka)] (gW [(0,k),(1000001,ka)] j)=j:=by
 simp only[bG,aW] at h
 by_cases h1:j=k
 ·subst h1;simp[gW,gD]
 ·by_cases h2:j=ka
  ·subst h2;simp[gW,gD,h1]
  ·have e:gW [(0,k),(1000001,ka)] j=j:=by simp[gW,h1,h2]
   rw[e]
   rcases h with h|⟨h,h'⟩
   ·have a:¬j=0:=λe=>by subst e;exact absurd h.1 (by simp)
    have b:¬j=1000001:=λe=>by subst e;exact absurd h.2 (by simp)
    simp[gD,a,b]
   ·have a:=bA h;have b:=bA h';have c:¬j=0:=by omega
    have d:¬j=1000001:=by omega
    simp[gD,c,d]
theorem JW{k ka:Nat}{v:V}(hne:k≠ka)(h:ys k ka v=true):(v.rl (gW [(0,k),(1000001,ka)])).rl (gD [(0,k),(1000001,ka)])=v:=by
 cases v<;>first|rfl|(simp only[V.rl];rw[JV hne h])|cases h
theorem Cv{k ka bl:Nat}{d:SC}{ba:Option Nat}{n:Nat}{rows:List (List V)}{mv:V}:∀j q,cp (S2 bl d ba n rows mv) j=some q->∃p∈[(0,k),(1000001,ka)],p.1=j:=by
 intro j q hj;simp only[S2,cp] at hj
 split at hj
 ·rename_i h0;exact⟨(0,k),by simp,h0.symm⟩
 ·split at hj
  ·rename_i h0;exact⟨(1000001,ka),by simp,h0.symm⟩
  ·cases hj
theorem Cw{k ka bl:Nat}{d:SC}{ba:Option Nat}{n:Nat}{l:List eP}{mv:V}{h:Hp}(hne:k≠ka)(hm:Fz mv)(hk:h k=some (fx bl (fw d (.own ka ba 3 n) mv)))(f:h ka=some (iw ba (l.map ca))):∀p∈[(0,k),(1000001,ka)],gD [(0,k),(1000001,ka)] p.1=p.2/\gW [(0,k),(1000001,ka)] p.2=p.1/\
  ∃o,cp (S2 bl d ba n (l.map ca) (mv.rl (gW [(0,k),(1000001,ka)]))) p.1=some o/\(h p.2).map (Ob.gM (gW [(0,k),(1000001,ka)]))=some o/\o.Fz:=by
 have a:¬ka=k:=λe=>hne e.symm;have b:gW [(0,k),(1000001,ka)] ka=1000001:=by simp[gW,a]
 have c:gW [(0,k),(1000001,ka)] k=0:=by simp[gW]
 intro p hp;simp only[aw,aD,bw] at hp
 rcases hp with rfl|rfl
 ·refine⟨by simp[gD],c,_,rfl,?_,jB (.own _ _ _ _) (hm.rl _) bl⟩;rw[hk,aE,iM];show some (fx bl (fw d (.own (gW [(0,k),(1000001,ka)] ka) ba 3 n) _))=_;rw[b]
 ·refine⟨by simp[gD],b,_,rfl,?_,fL _⟩;rw[f,aE];exact aB some (jA ba l _)
theorem RI{f k ka bl off:Nat}{rest:List V}{d d':SC}{ba:Option Nat}{n n':Nat}{l l':List eP}{mv v:V}{Q:V->Prop}(y:∀g,Q (mv.rl g))(hs:∀mv,Q mv->Spec Tryz.prog f (.ptr 0 (some bl) 47 0 off::rest) (cp (S2 bl d ba n (l.map ca) mv)) λx h'=>∃s,(x=v/\∃a,s=S2 bl d' a n' (l'.map ca) mv)/\h'=cp s)
  (c:∀h,mH h [(0,k),(1000001,ka)] rest rest)(hv:∀g,v.gM g=v)(hm:Fz mv)(hne:Nat.beq k ka=false)(r2:ys k ka mv=true){h:Hp}{K:V->Hp->Prop}(hk:h k=some (fx bl (fw d (.own ka ba 3 n) mv)))(t:h ka=some (iw ba (l.map ca)))
  (hK:∀a,K v (Hp.put (Hp.put h k (fx bl (fw d' (.own ka a 3 n') mv))) ka (iw a (l'.map ca)))):fm Tryz.prog f (.ptr k (some bl) 47 0 off::rest) h K:=by
 have b:k≠ka:=by intro e;subst e;rw[bO] at hne;cases hne
 have j:¬ka=k:=λe=>b e.symm;have u:gW [(0,k),(1000001,ka)] ka=1000001:=by simp[gW,j]
 have q:gW [(0,k),(1000001,ka)] k=0:=by simp[gW]
 have w:gD [(0,k),(1000001,ka)] 1000001=ka:=by simp[gD]
 refine mA (m:=[(0,k),(1000001,ka)]) (hs (mv.rl (gW [(0,k),(1000001,ka)])) (y _)) (.cons ?_ (c h)) Cv (λp hp=>?_) ?_
 ·have:=Arg.same (h:=h) (m:=[(0,k),(1000001,ka)]) (.ptr k (some bl) 47 0 off);simpa[V.gM,V.rl,gW] using this
 ·obtain⟨a1,a2,o,a3,a4,a5⟩:=Cw b hm hk t p hp;refine⟨a1,a2,λo' r=>?_⟩;rw[a3] at r;cases r;exact⟨a4,a5⟩
 ·rintro x s ⟨rfl,a,rfl⟩;have e:h.gy [(0,k),(1000001,ka)] (cp (S2 bl d' a n' (l'.map ca) (mv.rl (gW [(0,k),(1000001,ka)]))))=Hp.put (Hp.put h k (fx bl (fw d' (.own ka a 3 n') mv))) ka (iw a (l'.map ca)):=by
   funext i
   simp only[Hp.gy,Hp.put,bK,bP,bN,bG,bc]
   by_cases h1:ka=i
   ·subst h1;rw[ae (.inr rfl),ae rfl,u];show(some (iw a (l'.map ca))).map (Ob.gM (gD [(0,k),(1000001,ka)]))=_;rw[aE,jA]
   ·by_cases h2:k=i
    ·subst h2;rw[ae (.inl rfl),aa (λe=>h1 e.symm),ae rfl,q];show(some (fx bl (fw d' (.own 1000001 a 3 n') (mv.rl (gW [(0,k),(1000001,ka)]))))).map (Ob.gM (gD [(0,k),(1000001,ka)]))=_;rw[aE,iM,JW b r2];show some (fx bl (fw d' (.own (gD [(0,k),(1000001,ka)] 1000001) a 3 n') mv))=_;rw[w]
    ·rw[aa (by rintro(h|h);exact h2 h;exact h1 h),aa (λe=>h1 e.symm),aa (λe=>h2 e.symm)]
  rw[e,hv];exact hK a
theorem TV{f k ka bl:Nat}{rest:List V}{d:SC}{ba:Option Nat}{n:Nat}{l:List eP}{mv v:V}{Q:V->Prop}(w:∀g,Q (mv.rl g))(hs:∀mv,Q mv->Spec Tryz.prog f (.ptr 0 (some bl) 47 0 0::rest) (cp (S2 bl d ba n (l.map ca) mv)) λx h'=>∃s,(x=v/\s=S2 bl d ba n (l.map ca) mv)/\h'=cp s)
  (b:rest.all V.pl=true)(hv:∀g,v.gM g=v)(hm:Fz mv)(hne:Nat.beq k ka=false)(r2:ys k ka mv=true){h:Hp}{K:V->Hp->Prop}(hk:h k=some (fx bl (fw d (.own ka ba 3 n) mv)))(c:h ka=some (iw ba (l.map ca)))
  (hK:K v h):fm Tryz.prog f (.ptr k (some bl) 47 0 0::rest) h K:=by
 have a:k≠ka:=by intro e;subst e;rw[bO] at hne;cases hne
 have j:¬ka=k:=λe=>a e.symm;have t:gW [(0,k),(1000001,ka)] ka=1000001:=by simp[gW,j]
 have q:gW [(0,k),(1000001,ka)] k=0:=by simp[gW]
 have u:gD [(0,k),(1000001,ka)] 1000001=ka:=by simp[gD]
 refine mA (m:=[(0,k),(1000001,ka)]) (hs (mv.rl (gW [(0,k),(1000001,ka)])) (w _)) (.cons ?_ (fO b)) Cv (λp hp=>?_) ?_
 ·have:=Arg.same (h:=h) (m:=[(0,k),(1000001,ka)]) (.ptr k (some bl) 47 0 0);simpa[V.gM,V.rl,gW] using this
 ·obtain⟨a1,a2,o,a3,a4,a5⟩:=Cw a hm hk c p hp;refine⟨a1,a2,λo' r=>?_⟩;rw[a3] at r;cases r;exact⟨a4,a5⟩
 ·rintro x s ⟨rfl,rfl⟩;have e:h.gy [(0,k),(1000001,ka)] (cp (S2 bl d ba n (l.map ca) (mv.rl (gW [(0,k),(1000001,ka)]))))=h:=by
   funext i
   simp only[Hp.gy,bK,bP,bN,bG,bc]
   by_cases h1:ka=i
   ·subst h1;rw[ae (.inr rfl),t,c];show(some (iw ba (l.map ca))).map (Ob.gM (gD [(0,k),(1000001,ka)]))=_;rw[aE,jA]
   ·by_cases h2:k=i
    ·subst h2;rw[ae (.inl rfl),q,hk];show(some (fx bl (fw d (.own 1000001 ba 3 n) (mv.rl (gW [(0,k),(1000001,ka)]))))).map (Ob.gM (gD [(0,k),(1000001,ka)]))=_;rw[aE,iM,JW a r2];show some (fx bl (fw d (.own (gD [(0,k),(1000001,ka)] 1000001) ba 3 n) mv))=_;rw[u]
    ·rw[aa (by rintro(h|h);exact h2 h;exact h1 h)]
  rw[e,hv];exact hK
theorem TW{f k ka bl:Nat}{rest:List V}{d:SC}{ba:Option Nat}{n:Nat}{l:List eP}{mv v:V}{Q:V->Prop}(j:∀g,Q (mv.rl g))(hs:∀mv,Q mv->Spec Tryz.prog f (.ptr 0 (some bl) 47 0 0::rest) (cp (S2 bl d ba n (l.map ca) mv)) λx h'=>∃c,(x=v/\c=S2 bl d ba n (l.map ca) mv)/\h'=cp c)
  (a:rest.all V.pl=true)(hv:∀g,v.gM g=v)(hm:Fz mv)(hne:Nat.beq k ka=false){h:Hp}{K:V->Hp->Prop}(hk:h k=some (fx bl (fw d (.own ka ba 3 n) mv)))(i:h ka=some (iw ba (l.map ca)))
  (hK:K v h):fX Tryz.prog f (.ptr k (some bl) 47 0 0::rest) h K:=by
 have b:k≠ka:=by intro e;subst e;rw[bO] at hne;cases hne
 have hs0:=hs (mv.rl (gW [(0,k),(1000001,ka)])) (j _);refine⟨[(0,k),(1000001,ka)],_,cp (S2 bl d ba n (l.map ca) (mv.rl (gW [(0,k),(1000001,ka)]))),v,⟨hs0.fn,λC us a1 a2 a3 a4=>(hs0.run C us a1 a2 a3 a4).mono ?_⟩,.cons ?_ (fO a),Cv,Cw b hm hk i,by rw[hv];exact hK⟩
 ·rintro e w' ⟨u,x,h',F',e1,o,p,c,⟨rfl,rfl⟩,rfl⟩;exact⟨u,_,_,F',e1,o,p,rfl,rfl⟩
 ·have:=Arg.same (h:=h) (m:=[(0,k),(1000001,ka)]) (.ptr k (some bl) 47 0 0);simpa[V.gM,V.rl,gW] using this
def Cx(T:c8):Prop:=∀(ka:Nat)(ba:Option Nat)(n:Nat)(rows:List (List V))(l:List eP)(base:BS)(j:Int)(h:Hp)(K:V->Hp->Prop),rows=l.map ca->n=l.length->lO l->h ka=some ⟨ba,91,3,rows⟩->(∀x y,x=(kQ base l j).1->y=(kQ base l j).2->K (.tup [.str x,qI y]) h)->T 76 [.str base,.own ka ba 3 n,qI j] h K
theorem JX:Cx (fX Tryz.prog):=by
 rintro ka ba n rows l base j h K rfl rfl hl hk hK;exact oT (M1 base l j hl) (.cons (.same _) (.cons (.own ka ba 3 _ _ (jO (by simp) hk) (by simp)) (.cons (.same _) .nil))) (hK _ _ rfl rfl)
def iy(d:SC)(l:List eP)(j:Int):BS×Int:=if fZ d.b l.length j≠0 then([],fZ d.b l.length j) else kQ d.tx l (j-d.b)
def Ai:AC:=qr [qo 4 (.mov (.c qe)),qz 5 0] (qq (qr [qm 7 0,qm 8 1,qa 9 75 [.t 7,.t 8],qm 6 9] (qr [qm 10 6,qc 11 .neq 10 0] (qu 11 (qr [qm 12 6,qo 4 (.mov (.c qe)),qm 5 12] .ret) .skip))) (qq (.region true [qm 13 0,qn 14 13,qf 15 5 14,qf 16 2 15,ql 17 16,qm 18 0,qn 19 18,qf 20 5 19,qf 21 35 20,ql 22 21,qm 23 1,qm 24 0,qn 25 24,qf 26 5 25,qf 27 1 26,ql 28 27,qb 29 .sub 23 28,qa 30 76 [.t 17,.t 22,.t 29],qx 31 0 30,qx 32 1 30,qm 4 31,qm 5 32]) .ret))
theorem JY:fF Tryz.prog 39 Tryz.f39 Ai [.t 4,.t 5] 2 er:=⟨Tryz.func39,by decide+kernel,by kernel_rfl,by kernel_rfl,by decide+kernel⟩
theorem JZ(P:Prim)(hP:P=dn)(T i:c8)(c:uF T)(e:Cx i)(bl:Nat)(d:SC)(ba:Option Nat)(l:List eP)(n:Nat)(hn:n=l.length)(rows:List (List V))(ds:rows=l.map ca)(hl:lO l)(mv:V)(f:qT 0 mv=true)(hm:Fz mv/\V.one mv=true)(hw:NW mv=true)(hb:0<=d.b/\d.b<=4294967295)(h:n<=1000)(j:Int)(x:BS)(y:Int)(hr:iy d l j=(x,y))
  (R:S->Prop)(k:∀s s',c6 s s'->iH [.t 4,.t 5] [.str x,qI y] s'->fG (S2 bl d ba n rows mv) s'->R s):gj P T i Ai (S0 [.ptr 0 (some bl) 47 0 0,qI j] (cp (S2 bl d ba n rows mv))) R (λ_ _=>False) R:=by
 have m:=hm.2;unfold iy at hr;rw[<-hn] at hr;cbv
 repeat' first|(refine qA ?_;cbv)|(intro a;cbv)
 refine c 0 bl d 1000001 ba n mv j _ _ hb h hm hw rfl f rfl λq hq=>?_;rw[<-hq] at hr;cbv
 repeat' first|(refine qA ?_;cbv)|(intro a;cbv)
 refine ab (λg=>?_) (λg=>?_)
 ·have g1:q≠0:=hH hP g;rw[ae g1] at hr;cases hr;cbv
  repeat' first|(refine qA ?_;cbv)|(intro a;cbv)
  exact k _ _ (c6.refl _) rfl ⟨rfl,rfl,trivial⟩
 have g1:q=0:=gZ hP g;rw[aa (λo=>o g1)] at hr;have hj:d.b<=j/\j<=d.b+(n:Int):=by
  rw[g1] at hq;unfold fZ at hq
  split at hq
  ·cases hq
  ·split at hq
   ·cases hq
   ·omega
 have m1:P.i64 (P.sub j d.b):=by rw[sub_eq hP];exact eR hP qW
 cbv
 repeat' first|(refine qA ?_;cbv)|(intro a;cbv)
 refine e 1000001 ba n rows l _ _ _ _ ds hn hl rfl λp r hx hy=>?_;rw[sub_eq hP,hr] at hx hy;cbv
 repeat' first|(refine qA ?_;cbv)|(intro a;cbv)
 subst hx hy;exact k _ _ (c6.refl _) rfl ⟨rfl,rfl,trivial⟩
def MQ(mv:V):Prop:=(Fz mv/\V.one mv=true)/\NW mv=true
theorem MQ.rl{mv:V}(h:MQ mv)(g:Nat->Nat):MQ (mv.rl g):=⟨⟨h.1.1.rl g,yq h.1.2 g⟩,JS h.2 g⟩
theorem J0(bl:Nat)(d:SC)(ba:Option Nat)(l:List eP)(hl:lO l)(hb:0<=d.b/\d.b<=4294967295)(c:l.length<=1000)(j:Int)(mv:V)(hq:MQ mv):Spec Tryz.prog 39 [.ptr 0 (some bl) 47 0 0,qI j] (cp (S2 bl d ba l.length (l.map ca) mv)) λx h'=>∃a,(x=.tup [.str (iy d l j).1,qI (iy d l j).2]/\a=S2 bl d ba l.length (l.map ca) mv)/\h'=cp a:=
 fu iD JY (L:=S2 bl d ba l.length (l.map ca) mv) (λx a=>x=.tup [.str (iy d l j).1,qI (iy d l j).2]/\a=S2 bl d ba l.length (l.map ca) mv) λR e=>
  JZ dn rfl _ _ Cu JX bl d ba l _ rfl _ rfl hl mv (Ta hq.2) hq.1 hq.2 hb c j _ _ rfl R λs s' he hr ha=>e s s' _ _ he (eM _ _ _ (λx hx=>by rw[hx];rfl) hr) ha (.tup _ (by simp;exact⟨.str _,.int _ _⟩)) (JU hq.1.1) ⟨rfl,rfl⟩
def yt(T:c8):Prop:=∀(k ka bl:Nat)(d:SC)(ba:Option Nat)(n:Nat)(rows:List (List V))(l:List eP)(mv:V)(j:Int)(h:Hp)(K:V->Hp->Prop),rows=l.map ca->n=l.length->lO l->(0<=d.b/\d.b<=4294967295)->l.length<=1000->MQ mv->Nat.beq k ka=false->ys k ka mv=true->h k=some (fx bl (fw d (.own ka ba 3 n) mv))->h ka=some (iw ba rows)->(∀x y,x=(iy d l j).1->y=(iy d l j).2->K (.tup [.str x,qI y]) h)->T 39 [.ptr k (some bl) 47 0 0,qI j] h K
theorem Cy:yt (fm Tryz.prog):=by
 rintro k ka bl d ba n rows l mv j h K rfl rfl hl hb hn hq hne hr hk a hK;exact TV (Q:=MQ) (λg=>hq.rl g) (λmv hq=>J0 bl d ba l hl hb hn j mv hq) rfl (λ_=>rfl) hq.1.1 hne hr hk a (hK _ _ rfl rfl)
end Go.Proofs.YtobngncjflogcaaGreat.AM
