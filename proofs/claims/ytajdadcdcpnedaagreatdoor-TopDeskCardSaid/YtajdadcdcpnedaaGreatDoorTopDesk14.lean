/-
  Part 14 of what the law TopDesk reaches: the plain machine, contracts of the functions and plain laws; each lemma says its own condition.
-/
import Derived.Test.YtajdadcdcpnedaaGreatDoorTopDesk13
set_option linter.unusedVariables false
set_option linter.unusedSimpArgs false
namespace Go.Proofs.YtajdadcdcpnedaaGreatDoor.AM
open Go Go.RowKit
set_option maxRecDepth 100000
set_option maxHeartbeats 2000000
structure N4(k ka km kn:Nat):Prop where
 a:Nat.beq k ka=false
 b:Nat.beq k kn=false
 c:Nat.beq ka kn=false
 d:Nat.beq km 0=false
 e:Nat.beq km 1000001=false
 f:Nat.beq km 1000041=false
 g:Nat.beq km k=false
 h:Nat.beq km ka=false
 i:Nat.beq km kn=false
theorem Nl{a b:Nat}(h:Nat.beq a b=false):a≠b:=by intro e;subst e;rw[bY] at h;cases h
def Jw(T:cm):Prop:=∀(k ka km kn bl:Nat)(d:SC)(ba:Option Nat)(n:Nat)(rows:List (List V))(l:List er)(mv:V)(bm:Nat)(m:Option Mv)(j:Int)(h:Hp)(K:V->Hp->Prop),N4 k ka km kn->rows=l.map bd->n=l.length->mv=jd km bm m->(∀r∈l,r.delta.length<=1000000000)->(0<=d.b/\d.b<=4294967295)->l.length<=1000->h k=some (eO bl (eM d (.own ka ba 3 n) mv))->h ka=some (il ba rows)->h kn=none->
 (∀x y,(x,y)=hG d l j->∀a n' rows',n'=x.length->rows'=x.map bd->K (.tup [.own kn a 3 n',qI y]) (h.jl [(k,eO bl (eM d (.own ka ba 3 n) mv)),(ka,il ba rows),(kn,il a rows')]))->T 201 [.ptr k (some bl) 47 0 0,qI j] h K
theorem QA:Jw (dF Tryz.prog):=by
 rintro k ka km kn bl d ba n rows l mv bm m j h K hN rfl rfl rfl q hb hn hk r u hK;have n1:=Nl hN.a;have n2:=Nl hN.b;have n3:=Nl hN.c;have s:¬ka=k:=λe=>n1 e.symm;have w:¬kn=k:=λe=>n2 e.symm;have x:¬kn=ka:=λe=>n3 e.symm;have m1:=Nl hN.d;have m2:=Nl hN.e;have m3:=Nl hN.f;have m4:=Nl hN.g;have m5:=Nl hN.h;have m6:=Nl hN.i;have y:gP [(0,k),(1000001,ka),(1000041,kn)] k=0:=by simp[gP]
 have b1:gP [(0,k),(1000001,ka),(1000041,kn)] ka=1000001:=by simp[gP,s]
 have t:gP [(0,k),(1000001,ka),(1000041,kn)] km=km:=by simp[gP,m4,m5,m6]
 have l0:gD [(0,k),(1000001,ka),(1000041,kn)] 0=k:=by simp[gD]
 have l1:gD [(0,k),(1000001,ka),(1000041,kn)] 1000001=ka:=by simp[gD]
 have l2:gD [(0,k),(1000001,ka),(1000041,kn)] 1000041=kn:=by simp[gD]
 have lm:gD [(0,k),(1000001,ka),(1000041,kn)] km=km:=by simp[gD,m1,m2,m3]
 refine uH [(0,k),(1000001,ka),(1000041,kn)] (IU bl d ba l q hb hn j (jd km bm m) (xJ _ _ _)) (.cons ?_ (fX rfl)) (by show([0,1000001,1000041]:List Nat).Nodup;decide) (by simp[n1,n2,n3]) (by simp) (λp hp=>?_) (λp hp=>?_) ?_ ?_
 ·have:=Arg.same (h:=h) (m:=[(0,k),(1000001,ka),(1000041,kn)]) (.ptr k (some bl) 47 0 0);simpa[V.gy,V.rl,y] using this
 ·simp only[S2,ah,aq,aQ] at hp
  rcases hp with rfl|rfl<;>simp
 ·simp only[S2,ah,aq,aQ] at hp
  rcases hp with rfl|rfl
  ·refine⟨?_,iB (.own _ _ _ _) (sw _ _ _) bl⟩;show(h (gD _ 0)).map _=_;rw[l0,hk,aJ,iA,xK,t];show some (eO bl (eM d (.own (gP _ ka) ba 3 _) _))=_;rw[b1]
  ·refine⟨?_,gR _⟩;show(h (gD _ 1000001)).map _=_;rw[l1,r,aJ,kp]
 ·rintro v L' ⟨o,_,rfl⟩;rfl
 ·rintro v L' ⟨o,rfl,rfl⟩;have e:mX [(0,k),(1000001,ka),(1000041,kn)] (Ob.gy (gD [(0,k),(1000001,ka),(1000041,kn)])) [(0,eO bl (eM d (.own 1000001 ba 3 l.length) (jd km bm m))),(1000001,il ba (l.map bd)),(1000041,il o ((hG d l j).1.map bd))]=[(k,eO bl (eM d (.own ka ba 3 l.length) (jd km bm m))),(ka,il ba (l.map bd)),(kn,il o ((hG d l j).1.map bd))]:=by
   simp only[mX,cZ,dR,iA,kp,xK,lm];show[(k,eO bl (eM d (.own (gD _ 1000001) ba 3 l.length) _)),_,_]=_;rw[l1]
  rw[e];have z:(V.tup [.own 1000041 o 3 (hG d l j).1.length,.int .i64 (hG d l j).2]).gy (gD [(0,k),(1000001,ka),(1000041,kn)])=.tup [.own kn o 3 (hG d l j).1.length,.int .i64 (hG d l j).2]:=by
   show V.tup [.own (gD _ 1000041) o 3 _,_]=_;rw[l2];rfl
  rw[z];exact hK _ _ rfl o _ _ rfl rfl
theorem zU{d:List Part}(h:cR d=0):fV d:=by
 have:ir ⟨0,0,d⟩=0:=by
  unfold ir;rw[aa (by show¬((0:Int)<0\/(7:Int)<0\/(0:Int)<0\/(2147483647:Int)<0);decide)];exact h
 exact(xH this).1.2.2
def iD(d:SC)(l:List er)(m:Option Mv)(base who seq:Int)(x:List Part):vD:=
 if(jG d.tb who).e≠0\/seq<0\/2147483647<seq then⟨d,l,0,1⟩
 else if(vW x).2.2≠0 then⟨d,l,0,(vW x).2.2⟩
 else if 0<seq/\seq=(jG d.tb who).a then⟨d,l,(jG d.tb who).b,0⟩
 else if seq<=(jG d.tb who).a then⟨d,l,0,10⟩
 else if(iu d l base).2≠0 then⟨d,l,0,(iu d l base).2⟩
 else if(vW x).1≠((iu d l base).1.length:Int) then⟨d,l,0,4⟩
 else if(kF x (hG d l base).1).2≠0 then⟨d,l,0,(kF x (hG d l base).1).2⟩
 else gW d l m ⟨who,seq,(kF x (hG d l base).1).1⟩
structure Vi(x0:List Part)(l':List er) where
 i:Nat
 k:Int
 x:List Part
 dx:List (List V)
 hi:i<=l'.length
 hk:k=(i:Int)
 Q2:dx=x.map a7
 hx:fV x
 hf:kF x (l'.drop i)=kF x0 l'
def Df:AC:=qr [qo 3 (.box 145 4 (.t 1)),qz 4 0,qz 5 0] (qr [qm 17 0,qf 18 1 3,ql 19 18,qa 20 200 [.t 17,.t 19],qm 16 20,qx 21 0 16,qx 22 1 16,qo 6 (.alloc 65 K1),qs 2 6 21,qm 7 22] (qq (qr [qm 23 7,qc 24 .neq 23 0,qm 25 24,qg 26 25 false (.faddr 2 (.t 3)),qg 27 25 false (.load1 (.t 26)),qg 28 25 false (.bin .lss (.t 27) (qk 0)),qo 29 (.pick (.t 25) (.c (.bool true)) (.t 28)),qm 30 29,qg 31 30 false (.faddr 2 (.t 3)),qg 32 30 false (.load1 (.t 31)),qg 33 30 false (.bin .gtr (.t 32) (qk 2147483647)),qo 34 (.pick (.t 30) (.c (.bool true)) (.t 33))] (qu 34 (qr [qz 4 0,qz 5 1] .ret) .skip)) (qr [qf 36 3 3,ql 37 36,qa 38 188 [.t 37],qm 35 38,qx 39 0 35,qx 40 1 35,qx 41 2 35,qm 8 39,qm 9 40,qm 7 41] (qq (qr [qm 42 7,qc 43 .neq 42 0] (qu 43 (qr [qm 44 7,qz 4 0,qm 5 44] .ret) .skip)) (qq (qr [qf 45 2 3,ql 46 45,qc 47 .gtr 46 0,qm 48 47,qg 49 48 true (.faddr 2 (.t 3)),qg 50 48 true (.load1 (.t 49)),qg 51 48 true (.faddr 0 (.t 6)),qg 52 48 true (.load1 (.t 51)),qg 53 48 true (.bin .eql (.t 50) (.t 52)),qo 54 (.pick (.t 48) (.t 53) (.c (.bool false)))] (qu 54 (qr [qf 55 1 6,ql 56 55,qm 4 56,qz 5 0] .ret) .skip)) (qq (qr [qf 57 2 3,ql 58 57,qf 59 0 6,ql 60 59,qb 61 .leq 58 60] (qu 61 (qr [qz 4 0,qz 5 10] .ret) .skip)) (qr [qm 63 0,qf 64 0 3,ql 65 64,qa 66 38 [.t 63,.t 65],qm 62 66,qx 67 0 62,qx 68 1 62,qm 10 67,qm 7 68] (qq (qr [qm 69 7,qc 70 .neq 69 0] (qu 70 (qr [qm 71 7,qz 4 0,qm 5 71] .ret) .skip)) (qq (qr [qm 72 8,qm 73 10,qo 74 (.len true (.t 73)),qb 75 .neq 72 74] (qu 75 (qr [qz 4 0,qz 5 4] .ret) .skip)) (qr [qm 77 0,qf 78 0 3,ql 79 78,qa 80 201 [.t 77,.t 79],qm 76 80,qx 81 0 76,qx 82 1 76,qm 11 81,qm 12 82] (qr [qf 83 3 3,ql 84 83,qm 13 84] (qq (qr [qm 85 11,qo 86 (.len false (.t 85)),qz 87 0] (.block 0 (.loop (qr [qb 88 .lss 87 86] (qq (qu 88 .skip (.exit 0)) (qq (.block 1 (qr [qo 89 (.iaddr 3 (.t 85) (.t 87)),qd 90 3 89,qo 15 (.alloc 96 Lb),qs 3 15 90] (qr [qf 92 2 15,ql 93 92,qm 94 13,qa 95 202 [.t 93,.t 94],qm 91 95,qx 96 0 91,qx 97 1 91,qx 98 2 91,qm 13 97,qm 7 98] (qr [qm 99 7,qc 100 .neq 99 0] (qu 100 (qr [qm 101 7,qz 4 0,qm 5 101] .ret) .skip))))) (qR [qc 102 .add 87 1,qm 87 102]))))))) (qr [qm 103 0,qf 104 1 3,ql 105 104,qf 106 2 3,ql 107 106,qm 108 13,qo 109 (.build Lb [(0,1,(.t 105)),(1,1,(.t 107)),(2,1,(.t 108))]),qa 110 36 [.t 103,.t 109],qx 111 0 110,qx 112 1 110,qm 4 111,qm 5 112] .ret)))))))))))))
theorem Nn:fF Tryz.prog 143 Tryz.f143 Df [.t 4,.t 5] 2 dS:=⟨Tryz.func143,by decide+kernel,by kernel_rfl,by kernel_rfl,by decide+kernel⟩
theorem No(P:Prim)(hP:P=cp)(T T1:cm)(Si:IL T)(K:uE T)(L:Jw T)(Sj:OZ T)(bl:Nat)(d:SC)(ba:Option Nat)(l:List er)(n:Nat)(hn:n=l.length)(rows:List (List V))(hrows:rows=l.map bd)(bm:Nat)(m:Option Mv)(mv:V)(mo:Ob)(l5:mv=jd 1 bm m)(oS:mo=gu bm m)(hZ:nz d l)
  (base who seq:Int)(x0:List Part)(Td:fV x0)(dr:List (List V))(Sk:dr=x0.map a7)(si so se:Int)(h1:hJ T 188 [.sl false 3 dr] (.tup [qI si,qI so,qI se]))(hsz:vW x0=(si,so,se))
  (mC mD:List Part->List Part->List Part)(mE:List Part->List Part->Int)(Th:∀a x,mD a x=(ld a x).2.1)(Ti:∀a x,mE a x=(ld a x).2.2)
  (M:∀a x A dx dc dd,fV a->fV x->A=a.map a7->dx=x.map a7->dc=(mC a x).map a7->dd=(mD a x).map a7->hJ T 202 [.sl false 3 A,.sl false 3 dx] (.tup [.sl false 3 dc,.sl false 3 dd,qI (mE a x)]))
  (Y:vD)(f:Y=iD d l m base who seq x0)
  (R:S->Prop)(B:∀(s s':S)(G:Option Nat)(n':Nat)(rows':List (List V))(H:Nat)(I:V)(J:Ob)(d':SC)(l':List er)(v e:Int),(⟨d',l',v,e⟩:vD)=Y->n'=l'.length->rows'=l'.map bd->I=jd 1 H m->J=gu H m->cd s s'->ia [.t 4,.t 5] [qI v,qI e] s'->
   eP [(0,eO bl (eM d' (.own 1000001 G 3 n') I)),(1000001,il G rows'),(1,J)] s'->R s):gE P T T1 Df (S0 [.ptr 0 (some bl) 47 0 0,.agg [qI base,qI who,qI seq,.sl false 3 dr]] (a8 [(0,eO bl (eM d (.own 1000001 ba 3 n) mv)),(1000001,il ba rows),(1,mo)])) R (λ_ _=>False) R:=by
 have RQ:0<=d.b/\d.b<=4294967295:=⟨hZ.b.1,fq hZ.b.2 qD⟩;have Tj:MQ mv:=by rw[l5];exact xJ _ _ _
 have WR:sg 0 mv=true:=RS Tj.2;have Sl:zi 0 1000001 mv=true:=by rw[l5];exact Jc rfl
 have Ez:l.length<=1000:=aV hZ.len qD;unfold iD at f;rw[hsz] at f;cbv
 repeat' first|(refine qA ?_;cbv)|(intro Sm;cbv)
 refine Si 0 bl d (.own 1000001 ba 3 n) mv who _ _ ⟨⟨.own _ _ _ _,rfl⟩,Tj.1⟩ rfl WR rfl λla lb le Va T6 hle=>?_;rw[<-Va,<-T6,<-hle] at f;cbv
 repeat' first|(refine qA ?_;cbv)|(intro c;cbv)
 refine a6 (λg=>?_) (λg=>?_)
 ·have g1:le≠0:=iG hP g;rw[ab (.inl g1)] at f;cbv
  repeat' first|(refine qA ?_;cbv)|(intro c;cbv)
  exact B _ _ ba n rows bm mv mo d l _ _ (by rw[f]) hn hrows l5 oS (cd.refl _) rfl ⟨rfl,rfl,rfl,trivial⟩
 have g1:le=0:=iy hP g;cbv
 repeat' first|(refine qA ?_;cbv)|(intro c;cbv)
 refine a6 (λg=>?_) (λg=>?_)
 ·have g2:seq<0:=gM hP g;rw[ab (.inr (.inl g2))] at f;cbv
  repeat' first|(refine qA ?_;cbv)|(intro c;cbv)
  exact B _ _ ba n rows bm mv mo d l _ _ (by rw[f]) hn hrows l5 oS (cd.refl _) rfl ⟨rfl,rfl,rfl,trivial⟩
 have g2:¬seq<0:=gN hP g;cbv
 repeat' first|(refine qA ?_;cbv)|(intro c;cbv)
 refine a6 (λg=>?_) (λg=>?_)
 ·have g3:2147483647<seq:=gM hP g;rw[ab (.inr (.inr g3))] at f;cbv
  repeat' first|(refine qA ?_;cbv)|(intro c;cbv)
  exact B _ _ ba n rows bm mv mo d l _ _ (by rw[f]) hn hrows l5 oS (cd.refl _) rfl ⟨rfl,rfl,rfl,trivial⟩
 have g3:¬2147483647<seq:=gN hP g;rw[aa (λh=>h.elim (λh=>h g1) (λh=>h.elim g2 g3))] at f;cbv
 repeat' first|(refine qA ?_;cbv)|(intro c;cbv)|(refine h1 _ _ ?_;cbv)|fail
 refine a6 (λg=>?_) (λg=>?_)
 ·have g4:se≠0:=iG hP g;rw[ab g4] at f;cbv
  repeat' first|(refine qA ?_;cbv)|(intro c;cbv)
  exact B _ _ ba n rows bm mv mo d l _ _ (by rw[f]) hn hrows l5 oS (cd.refl _) rfl ⟨rfl,rfl,rfl,trivial⟩
 have g4:se=0:=iy hP g;rw[aa (λh=>h g4)] at f;cbv
 repeat' first|(refine qA ?_;cbv)|(intro c;cbv)
 refine a6 (λg=>?_) (λg=>?_)
 ·have g5:0<seq:=gM hP g;cbv
  repeat' first|(refine qA ?_;cbv)|(intro c;cbv)
  refine a6 (λg=>?_) (λg=>?_)
  ·have g6:seq=la:=mz hP g;rw[ab ⟨g5,g6⟩] at f;cbv
   repeat' first|(refine qA ?_;cbv)|(intro c;cbv)
   exact B _ _ ba n rows bm mv mo d l _ _ (by rw[f]) hn hrows l5 oS (cd.refl _) rfl ⟨rfl,rfl,rfl,trivial⟩
  have g6:¬seq=la:=mA hP g;rw[aa (λh=>g6 h.2)] at f;clear g;cbv
  repeat' first|(refine qA ?_;cbv)|(intro c;cbv)
  refine a6 (λg=>?_) (λg=>?_)
  ·have g7:seq<=la:=j6 hP g;rw[ab g7] at f;cbv
   repeat' first|(refine qA ?_;cbv)|(intro c;cbv)
   exact B _ _ ba n rows bm mv mo d l _ _ (by rw[f]) hn hrows l5 oS (cd.refl _) rfl ⟨rfl,rfl,rfl,trivial⟩
  have g7:¬seq<=la:=j7 hP g;rw[aa g7] at f;cbv
  repeat' first|(refine qA ?_;cbv)|(intro c;cbv)
  refine K 0 1000001 bl d ba n rows l mv base _ _ hrows hn hZ.rv RQ Ez Tj rfl Sl rfl rfl λx y hx hy=>?_;rw[<-hx,<-hy] at f;cbv
  repeat' first|(refine qA ?_;cbv)|(intro c;cbv)
  refine a6 (λg=>?_) (λg=>?_)
  ·have g8:y≠0:=iG hP g;rw[ab g8] at f;cbv
   repeat' first|(refine qA ?_;cbv)|(intro c;cbv)
   exact B _ _ ba n rows bm mv mo d l _ _ (by rw[f]) hn hrows l5 oS (cd.refl _) rfl ⟨rfl,rfl,rfl,trivial⟩
  have g8:y=0:=iy hP g;rw[aa (λh=>h g8)] at f;cbv
  repeat' first|(refine qA ?_;cbv)|(intro c;cbv)
  refine a6 (λg=>?_) (λg=>?_)
  ·have g9:si≠P.b5 x:=iG hP g;rw[cA hP] at g9;rw[ab g9] at f;cbv
   repeat' first|(refine qA ?_;cbv)|(intro c;cbv)
   exact B _ _ ba n rows bm mv mo d l _ _ (by rw[f]) hn hrows l5 oS (cd.refl _) rfl ⟨rfl,rfl,rfl,trivial⟩
  have g9:si=P.b5 x:=iy hP g;rw[cA hP] at g9;rw[aa (λh=>h g9)] at f;cbv
  repeat' first|(refine qA ?_;cbv)|(intro c;cbv)
  refine L 0 1000001 1 1000300 bl d ba n rows l mv bm m base _ _ ⟨rfl,rfl,rfl,rfl,rfl,rfl,rfl,rfl,rfl⟩ hrows hn l5 hZ.dl RQ Ez rfl rfl rfl λl' y' Ue bo n' rows' C q=>?_;have D:(hG d l base).1=l':=by rw[<-Ue]
  rw[D] at f;have QB:l'.length<=64:=by
   have:l'.length<=l.length:=by
    rw[<-D];unfold hG
    split
    ·exact bc _
    ·show(l.drop _).length<=_;rw[aP];exact Nat.sub_le _ _
   exact aV this hZ.len
  have E:∀r∈l',r.Ok:=by
   intro r hr;rw[<-D] at hr;unfold hG at hr
   split at hr
   ·cases hr
   ·exact hZ.rv.2 r (ef hr)
  cbv
  repeat' first|(refine qA ?_;cbv)|(intro c;cbv)
  refine⟨Vi x0 l',λy=>[(0,.ptr 0 (some bl) 47 0 0),(3,.ptr 3 (some Sm) 4 0 0),(13,.sl false 3 y.dx),(85,.own 1000300 bo 3 n'),(86,qI (P.int n')),(87,qI y.k)],
   λy=>[(0,eO bl (eM d (.own 1000001 ba 3 n) mv)),(1000001,il ba rows),(1,mo),(1000300,il bo rows'),(3,⟨some Sm,145,4,[[qI base,qI who,qI seq,.sl false 3 dr]]⟩)],λy=>l'.length-y.i,
   ⟨_,cd.refl _,⟨0,0,x0,dr,bc _,rfl,Sk,Td,rfl⟩,⟨rfl,rfl,rfl,rfl,rfl,rfl,trivial⟩,⟨rfl,rfl,rfl,rfl,rfl,trivial⟩⟩,?_⟩
  rintro⟨i,k,j,dx,hi,hk,Q2,N,hf⟩;cbv;refine a6 (λg=>?_) (λg=>?_)
  ·have k1:k<P.int n':=gM hP g;rw[int_eq hP,C] at k1;have o:i<l'.length:=by((try simp only[nc] at*);omega)
   obtain⟨r,u⟩:∃r,l'[i]? =some r:=⟨_,af o⟩;have p:P.row rows' (P.nat k) [qI r.who,qI r.seq,.sl false 3 (r.delta.map a7)]:=gz hP hk (by rw[q,aw,u];rfl);have O:=(E r (az u)).2.2;have Sn:kF j (l'.drop i)=if mE r.delta j≠0 then([],mE r.delta j) else kF (mD r.delta j) (l'.drop (i+1)):=by
    have e:l'.drop i=r::l'.drop (i+1):=by rw[bw o];congr 1;rw[af o] at u;exact bN u
    rw[e,kF,Ti,Th]
   have F:mE r.delta j=0->fV (mD r.delta j):=by
    intro h0;rw[Ti] at h0;rw[Th];obtain⟨_,_,_,u4,u5⟩:=zT h0;rw[u5];exact zU u4
   rw[Sn] at hf;obtain⟨WS,So⟩:∃w,r.who=w:=⟨_,rfl⟩;obtain⟨rq,Uf⟩:∃w,r.seq=w:=⟨_,rfl⟩;obtain⟨rd,Q⟩:∃w,r.delta=w:=⟨_,rfl⟩;rw[So,Uf,Q] at p;rw[Q] at hf F O;obtain⟨A,U⟩:∃A,A=rd.map a7:=⟨_,rfl⟩;rw[<-U] at p;obtain⟨dc,Ug⟩:∃A,A=(mC rd j).map a7:=⟨_,rfl⟩;obtain⟨dd,W⟩:∃A,A=(mD rd j).map a7:=⟨_,rfl⟩;obtain⟨me,Uh⟩:∃e,mE rd j=e:=⟨_,rfl⟩;have hm:=M rd j A dx dc dd O N U Q2 Ug W;rw[Uh] at hm hf F;have q1:P.fK 0 k:=iJ hP (by rw[hk];exact bK _);have q2:P.iq k (P.int n'):=lk hP (by rw[int_eq hP,C];exact k1);have q3:P.i64 (P.add k 1):=by rw[add_eq hP];exact fm hP qO
   have q4:P.add k 1=((i+1:Nat):Int):=by rw[add_eq hP,hk];simp
   cbv
   repeat' first|(refine qA ?_;cbv)|(intro c;cbv)
   refine⟨_,p,?_⟩;cbv
   repeat' first|(refine qA ?_;cbv)|(intro c;cbv)|(refine hm _ _ ?_;cbv)|fail
   refine a6 (λg=>?_) (λg=>?_)
   ·have g10:me≠0:=iG hP g;rw[ab g10] at hf;have Ui:Y=⟨d,l,0,me⟩:=by rw[f,<-hf,ab g10]
    cbv
    repeat' first|(refine qA ?_;cbv)|(intro c;cbv)
    exact B _ _ ba n rows bm mv mo d l _ _ (by rw[Ui]) hn hrows l5 oS (cd.refl _) rfl ⟨rfl,rfl,rfl,trivial⟩
   have g10:me=0:=iy hP g;rw[aa (λh=>h g10)] at hf;cbv
   repeat' first|(refine qA ?_;cbv)|(intro c;cbv)
   refine⟨_,cd.refl _,⟨i+1,_,mD rd j,dd,o,q4,W,F g10,hf⟩,⟨rfl,rfl,rfl,rfl,rfl,rfl,trivial⟩,⟨rfl,rfl,rfl,rfl,rfl,trivial⟩,?_⟩;show l'.length-(i+1)<l'.length-i;omega
  have k1:¬k<P.int n':=gN hP g;rw[int_eq hP,C] at k1;have o:i=l'.length:=by((try simp only[nc] at*);omega)
  have R0:kF x0 l'=(j,0):=by
   have hf:kF j (l'.drop i)=kF x0 l':=hf;rw[o,cG] at hf;rw[<-hf];rfl
  rw[R0,aa (λh=>h rfl)] at f;cbv
  repeat' first|(refine qA ?_;cbv)|(intro c;cbv)|(refine Sj 0 1000001 1 bl d ba n rows l mv mo bm m ⟨who,seq,j⟩ who seq dx _ _ ⟨hn,hrows,l5,oS,rfl,rfl,rfl,⟨rfl,rfl,rfl⟩⟩ ⟨rfl,rfl,Q2⟩ N hZ.b hZ.at' λv e G d' l2 n2 rows2 H I J hA K3 z X Z=>?_;cbv)|fail
  exact B _ _ G n2 rows2 H I J d' l2 v e (by rw[f,hA]) K3 z X Z (cd.refl _) rfl ⟨rfl,rfl,rfl,trivial⟩
 ·have g5:¬0<seq:=gN hP g;rw[aa (λh=>g5 h.1)] at f;clear g;cbv
  repeat' first|(refine qA ?_;cbv)|(intro c;cbv)
  refine a6 (λg=>?_) (λg=>?_)
  ·have g7:seq<=la:=j6 hP g;rw[ab g7] at f;cbv
   repeat' first|(refine qA ?_;cbv)|(intro c;cbv)
   exact B _ _ ba n rows bm mv mo d l _ _ (by rw[f]) hn hrows l5 oS (cd.refl _) rfl ⟨rfl,rfl,rfl,trivial⟩
  have g7:¬seq<=la:=j7 hP g;rw[aa g7] at f;cbv
  repeat' first|(refine qA ?_;cbv)|(intro c;cbv)
  refine K 0 1000001 bl d ba n rows l mv base _ _ hrows hn hZ.rv RQ Ez Tj rfl Sl rfl rfl λx y hx hy=>?_;rw[<-hx,<-hy] at f;cbv
  repeat' first|(refine qA ?_;cbv)|(intro c;cbv)
  refine a6 (λg=>?_) (λg=>?_)
  ·have g8:y≠0:=iG hP g;rw[ab g8] at f;cbv
   repeat' first|(refine qA ?_;cbv)|(intro c;cbv)
   exact B _ _ ba n rows bm mv mo d l _ _ (by rw[f]) hn hrows l5 oS (cd.refl _) rfl ⟨rfl,rfl,rfl,trivial⟩
  have g8:y=0:=iy hP g;rw[aa (λh=>h g8)] at f;cbv
  repeat' first|(refine qA ?_;cbv)|(intro c;cbv)
  refine a6 (λg=>?_) (λg=>?_)
  ·have g9:si≠P.b5 x:=iG hP g;rw[cA hP] at g9;rw[ab g9] at f;cbv
   repeat' first|(refine qA ?_;cbv)|(intro c;cbv)
   exact B _ _ ba n rows bm mv mo d l _ _ (by rw[f]) hn hrows l5 oS (cd.refl _) rfl ⟨rfl,rfl,rfl,trivial⟩
  have g9:si=P.b5 x:=iy hP g;rw[cA hP] at g9;rw[aa (λh=>h g9)] at f;cbv
  repeat' first|(refine qA ?_;cbv)|(intro c;cbv)
  refine L 0 1000001 1 1000300 bl d ba n rows l mv bm m base _ _ ⟨rfl,rfl,rfl,rfl,rfl,rfl,rfl,rfl,rfl⟩ hrows hn l5 hZ.dl RQ Ez rfl rfl rfl λl' y' Ue bo n' rows' C q=>?_;have D:(hG d l base).1=l':=by rw[<-Ue]
  rw[D] at f;have QB:l'.length<=64:=by
   have:l'.length<=l.length:=by
    rw[<-D];unfold hG
    split
    ·exact bc _
    ·show(l.drop _).length<=_;rw[aP];exact Nat.sub_le _ _
   exact aV this hZ.len
  have E:∀r∈l',r.Ok:=by
   intro r hr;rw[<-D] at hr;unfold hG at hr
   split at hr
   ·cases hr
   ·exact hZ.rv.2 r (ef hr)
  cbv
  repeat' first|(refine qA ?_;cbv)|(intro c;cbv)
  refine⟨Vi x0 l',λy=>[(0,.ptr 0 (some bl) 47 0 0),(3,.ptr 3 (some Sm) 4 0 0),(13,.sl false 3 y.dx),(85,.own 1000300 bo 3 n'),(86,qI (P.int n')),(87,qI y.k)],
   λy=>[(0,eO bl (eM d (.own 1000001 ba 3 n) mv)),(1000001,il ba rows),(1,mo),(1000300,il bo rows'),(3,⟨some Sm,145,4,[[qI base,qI who,qI seq,.sl false 3 dr]]⟩)],λy=>l'.length-y.i,
   ⟨_,cd.refl _,⟨0,0,x0,dr,bc _,rfl,Sk,Td,rfl⟩,⟨rfl,rfl,rfl,rfl,rfl,rfl,trivial⟩,⟨rfl,rfl,rfl,rfl,rfl,trivial⟩⟩,?_⟩
  rintro⟨i,k,j,dx,hi,hk,Q2,N,hf⟩;cbv;refine a6 (λg=>?_) (λg=>?_)
  ·have k1:k<P.int n':=gM hP g;rw[int_eq hP,C] at k1;have o:i<l'.length:=by((try simp only[nc] at*);omega)
   obtain⟨r,u⟩:∃r,l'[i]? =some r:=⟨_,af o⟩;have p:P.row rows' (P.nat k) [qI r.who,qI r.seq,.sl false 3 (r.delta.map a7)]:=gz hP hk (by rw[q,aw,u];rfl);have O:=(E r (az u)).2.2;have Sn:kF j (l'.drop i)=if mE r.delta j≠0 then([],mE r.delta j) else kF (mD r.delta j) (l'.drop (i+1)):=by
    have e:l'.drop i=r::l'.drop (i+1):=by rw[bw o];congr 1;rw[af o] at u;exact bN u
    rw[e,kF,Ti,Th]
   have F:mE r.delta j=0->fV (mD r.delta j):=by
    intro h0;rw[Ti] at h0;rw[Th];obtain⟨_,_,_,u4,u5⟩:=zT h0;rw[u5];exact zU u4
   rw[Sn] at hf;obtain⟨WS,So⟩:∃w,r.who=w:=⟨_,rfl⟩;obtain⟨rq,Uf⟩:∃w,r.seq=w:=⟨_,rfl⟩;obtain⟨rd,Q⟩:∃w,r.delta=w:=⟨_,rfl⟩;rw[So,Uf,Q] at p;rw[Q] at hf F O;obtain⟨A,U⟩:∃A,A=rd.map a7:=⟨_,rfl⟩;rw[<-U] at p;obtain⟨dc,Ug⟩:∃A,A=(mC rd j).map a7:=⟨_,rfl⟩;obtain⟨dd,W⟩:∃A,A=(mD rd j).map a7:=⟨_,rfl⟩;obtain⟨me,Uh⟩:∃e,mE rd j=e:=⟨_,rfl⟩;have hm:=M rd j A dx dc dd O N U Q2 Ug W;rw[Uh] at hm hf F;have q1:P.fK 0 k:=iJ hP (by rw[hk];exact bK _);have q2:P.iq k (P.int n'):=lk hP (by rw[int_eq hP,C];exact k1);have q3:P.i64 (P.add k 1):=by rw[add_eq hP];exact fm hP qO
   have q4:P.add k 1=((i+1:Nat):Int):=by rw[add_eq hP,hk];simp
   cbv
   repeat' first|(refine qA ?_;cbv)|(intro c;cbv)
   refine⟨_,p,?_⟩;cbv
   repeat' first|(refine qA ?_;cbv)|(intro c;cbv)|(refine hm _ _ ?_;cbv)|fail
   refine a6 (λg=>?_) (λg=>?_)
   ·have g10:me≠0:=iG hP g;rw[ab g10] at hf;have Ui:Y=⟨d,l,0,me⟩:=by rw[f,<-hf,ab g10]
    cbv
    repeat' first|(refine qA ?_;cbv)|(intro c;cbv)
    exact B _ _ ba n rows bm mv mo d l _ _ (by rw[Ui]) hn hrows l5 oS (cd.refl _) rfl ⟨rfl,rfl,rfl,trivial⟩
   have g10:me=0:=iy hP g;rw[aa (λh=>h g10)] at hf;cbv
   repeat' first|(refine qA ?_;cbv)|(intro c;cbv)
   refine⟨_,cd.refl _,⟨i+1,_,mD rd j,dd,o,q4,W,F g10,hf⟩,⟨rfl,rfl,rfl,rfl,rfl,rfl,trivial⟩,⟨rfl,rfl,rfl,rfl,rfl,trivial⟩,?_⟩;show l'.length-(i+1)<l'.length-i;omega
  have k1:¬k<P.int n':=gN hP g;rw[int_eq hP,C] at k1;have o:i=l'.length:=by((try simp only[nc] at*);omega)
  have R0:kF x0 l'=(j,0):=by
   have hf:kF j (l'.drop i)=kF x0 l':=hf;rw[o,cG] at hf;rw[<-hf];rfl
  rw[R0,aa (λh=>h rfl)] at f;cbv
  repeat' first|(refine qA ?_;cbv)|(intro c;cbv)|(refine Sj 0 1000001 1 bl d ba n rows l mv mo bm m ⟨who,seq,j⟩ who seq dx _ _ ⟨hn,hrows,l5,oS,rfl,rfl,rfl,⟨rfl,rfl,rfl⟩⟩ ⟨rfl,rfl,Q2⟩ N hZ.b hZ.at' λv e G d' l2 n2 rows2 H I J hA K3 z X Z=>?_;cbv)|fail
  exact B _ _ G n2 rows2 H I J d' l2 v e (by rw[f,hA]) K3 z X Z (cd.refl _) rfl ⟨rfl,rfl,rfl,trivial⟩
theorem Np(bl bm:Nat)(d:SC)(ba:Option Nat)(l:List er)(m:Option Mv)(base who seq:Int)(x:List Part)(hx:fV x)(hZ:nz d l):Spec Tryz.prog 143 [.ptr 0 (some bl) 47 0 0,.agg [qI base,qI who,qI seq,.sl false 3 (x.map a7)]] (a8 (S3 bl d ba l.length (l.map bd) bm m))
  λv h'=>∃L',(∃b c d' l' m',(∃n e,v=.tup [qI n,qI e]/\⟨d',l',n,e⟩=iD d l m base who seq x/\m'=m)/\L'=S3 bl d' b l'.length (l'.map bd) c m')/\h'=a8 L':=by
 refine dE hW Nn (L:=S3 bl d ba l.length (l.map bd) bm m) (λv L'=>∃b c d' l' m',(∃n e,v=.tup [qI n,qI e]/\⟨d',l',n,e⟩=iD d l m base who seq x/\m'=m)/\L'=S3 bl d' b l'.length (l'.map bd) c m') λR f=>?_;refine No cp rfl _ _ Qb Iu QA RZ bl d ba l _ rfl _ rfl bm m _ _ rfl rfl hZ base who seq x hx _ rfl _ _ _ (LM (xg x hx.1) rfl) rfl (λa x=>(ld a x).1) (λa x=>(ld a x).2.1) (λa x=>(ld a x).2.2) (λ_ _=>rfl) (λ_ _=>rfl) (λa x j dx k dd ha hx h1 h2 h3 h4=>by subst h1 h2 h3 h4;exact jP (Ni a x ha.1 hx.1) rfl rfl) _ rfl R ?_;rintro s s' b n' rows' c g h d' l' v e i rfl rfl rfl rfl he hr ha;exact f s s' _ _ he (da _ _ _ (λx hx=>by rw[hx];rfl) hr) ha (.tup _ (by simp;exact⟨.int _ _,.int _ _⟩)) I3 ⟨b,c,d',l',m,⟨v,e,rfl,i,rfl⟩,rfl⟩
def O1(T:cm):Prop:=∀(k ka km bl:Nat)(d:SC)(ba:Option Nat)(n:Nat)(rows:List (List V))(l:List er)(mv:V)(mo:Ob)(bm:Nat)(m:Option Mv)(base who seq:Int)(x:List Part)(g:List (List V))(h:Hp)(K:V->Hp->Prop),T2 h k ka km bl d ba n rows l mv mo bm m->g=x.map a7->fV x->nz d l->
 (∀v e a d' l' n' rows' b c f,⟨d',l',v,e⟩=iD d l m base who seq x->n'=l'.length->rows'=l'.map bd->c=jd km b m->f=gu b m->K (.tup [qI v,qI e]) (h.jl [(k,eO bl (eM d' (.own ka a 3 n') c)),(ka,il a rows'),(km,f)]))->T 143 [.ptr k (some bl) 47 0 0,.agg [qI base,qI who,qI seq,.sl false 3 g]] h K
theorem Sp:O1 (dF Tryz.prog):=by
 rintro k ka km bl d ba n rows l mv mo bm m base who seq x i h K ⟨rfl,rfl,rfl,rfl,hk,a,b,hN⟩ rfl hx hZ hK;refine BI (rest:=[.agg [.int .i64 base,.int .i64 who,.int .i64 seq,.sl false 3 (x.map a7)]]) (post:=λv d' l' m'=>∃n e,v=.tup [.int .i64 n,.int .i64 e]/\⟨d',l',n,e⟩=iD d l m base who seq x/\m'=m) (Np bl bm d ba l m base who seq x hx hZ) (λh m=>.cons (.same _) .nil) (λx d' l' m' g hp=>?_) hN hk a b ?_
 ·obtain⟨v,e,rfl,_⟩:=hp;rfl
 ·rintro x c f d' l' m' ⟨v,e,rfl,hp,rfl⟩;exact hK v e c d' l' _ _ f _ _ hp rfl rfl rfl rfl
def QC(d:SC):Prop:=∀w,w<8->d.fs (2*w+1)<=d.b
theorem Jx:∀(l:List er)(fs:Nat->Int)(b:Int),(∀w,w<8->fs (2*w+1)<=b)->∀w,w<8->jr fs b l (2*w+1)<=b+(l.length:Int)
 |[],fs,b,h,w,hw=>by
  have:=h w hw;show fs (2*w+1)<=b+0;omega
 |r::l,fs,b,h,w,hw=>by
  have ih:=Jx l (iQ fs r.who.toNat r.seq (b+1)) (b+1) (λw hw=>by
   have:=h w hw;unfold iQ
   split
   ·omega
   ·split<;>omega) w hw
  show jr (iQ fs r.who.toNat r.seq (b+1)) (b+1) l (2*w+1)<=b+((l.length+1:Nat):Int);omega
theorem Jy{d:SC}{l:List er}(hf:QC d){f:Int}(h:d.b<=f)(w:Nat)(hw:w<8):je d l f (2*w+1)<=f:=by
 have:=Jx (l.take (f-d.b).toNat) d.fs d.b hf w hw;have hl:(l.take (f-d.b).toNat).length<=(f-d.b).toNat:=by rw[aE];exact Nat.min_le_left _ _
 unfold je;omega
theorem zV{D:SC}(o:na D){i:Int}(hi:i=0\/i=1){g b:Int}{tx:BS}{t F:Nat->Int}{r1 r2:List er}(hd:mZ g b tx t)(hc:fN b t 0 tx (r1++r2))(hF:td F t)
  (hlen:(eF (gi g b tx t r1 (some r2))).length<=(fb D i).length)(c:(fb D i).take (eF (gi g b tx t r1 (some r2))).length=eF (gi g b tx t r1 (some r2))):
  ∃d',oQ D.x1 D.x2 D.x3 D.x4 i ⟨g,b,tx,F,jr F b (r1++r2),r1++r2,true,((eF (gi g b tx t r1 (some r2))).length:Int)⟩=d'/\uQ d' (r1++r2) none/\d'.b=b/\d'.tx=tx/\d'.gn=g/\d'.sf=b+((r1++r2).length:Int)/\d'.fs=F:=by
 obtain⟨N,hN⟩:∃N,(eF (gi g b tx t r1 (some r2))).length=N:=⟨_,rfl⟩;rw[hN] at hlen c⊢;obtain⟨E,d⟩:∃E:SC,(⟨D.x1,D.x2,D.x3,D.x4,i,g,b,tx,F,jr F b (r1++r2),true,(N:Int),[],0,false⟩:SC)=E:=⟨_,rfl⟩;have w:na E:=by rw[<-d];exact o
 have p:∀j,fb E j=fb D j:=λj=>by rw[<-d];rfl
 have hi':1-i=0\/1-i=1:=by omega
 have e1:(1:Int)-(1-i)=i:=by omega
 obtain⟨x,s,G,H,I⟩:=C8 w hi (n:=N) (by rw[p];exact hlen);obtain⟨q1,q2,q,J,y⟩:=C8 x hi' (n:=0) (bc _);rw[e1] at q y;obtain⟨s1,s2,s3,K⟩:=tA q1 hi;have h:fN b F 0 tx (r1++r2):=pB _ _ _ _ _ hF.symm hc;obtain⟨d',k⟩:∃d',oQ D.x1 D.x2 D.x3 D.x4 i ⟨g,b,tx,F,jr F b (r1++r2),r1++r2,true,(N:Int)⟩=d':=⟨_,rfl⟩;have a:d'= {mJ (lq (lq E i N) (1-i) ((0:Nat):Int)) i with now:=(jy tx (r1++r2) ((r1++r2).length:Int)).1,sf:=b+((r1++r2).length:Int)}:=by rw[<-k,<-d];rfl
 have u:=C5 h hd.tx (r1++r2).length (ak _);rw[aN] at u;have k1:d'.b=b:=by rw[a,<-d];rfl
 have e:d'.tx=tx:=by rw[a,<-d];rfl
 have l:d'.gn=g:=by rw[a,<-d];rfl
 have r:d'.sf=b+((r1++r2).length:Int):=by rw[a]
 have f:d'.fs=F:=by rw[a,<-d];rfl
 have m:d'.at'=i:=by rw[a,<-d];rfl
 have z:d'.tb=jr F b (r1++r2):=by rw[a,<-d];rfl
 have A:d'.jE=false:=by rw[a,<-d];rfl
 have B:d'.now=lW tx (r1++r2):=by rw[a,u]
 have c1:na d':=by rw[a];exact s1
 have v:∀j,fb d' j=fb (lq (lq E i N) (1-i) ((0:Nat):Int)) j:=λj=>by rw[a];exact s2 j
 have C:fb d' i=eF (gi g b tx t r1 (some r2)):=by rw[v,q,s,p,c]
 have c3:ie d' i=((eF (gi g b tx t r1 (some r2))).length:Int):=by
  have:ie d' i=((fb (lq (lq E i N) (1-i) ((0:Nat):Int)) i).length:Int):=by rw[a];exact s3
  rw[this,q,s,p,c]
 have c4:fb d' (1-i)=[]:=by rw[v,q2];rfl
 refine⟨d',k,⟨by rw[m];exact hi,c1,by rw[l,k1,e,f];exact hd.WA hF.symm,by rw[k1,f,e];exact h,by rw[z,f,k1];exact td.refl _,by rw[B,e],by rw[r,k1];exact bn _,⟨r1,r2,r2.length,rfl,?_,ak _,?_,?_⟩,.inr ⟨A,by rw[m];exact c4⟩⟩,k1,e,l,r,f⟩
 ·rw[m,l,k1,e,f,C,zI hF]
 ·rw[m,l,k1,e,f,c3,aN,zI hF]
 ·rw[r,k1,ae];omega
def sU(i:Int)(M O:hM×Int)(a1:BS)(a2:Int)(b1:BS)(b2:Int):O0:=if i=0 then oR M O a1 a2 b1 b2 else oR O M a1 a2 b1 b2
theorem BM{i:Int}(hi:i=0\/i=1){M O:hM×Int}{a1:BS}{a2:Int}{b1:BS}{b2:Int}(hm:iC M)(ho:iC O->O.1.gen<M.1.gen):sU i M O a1 a2 b1 b2=⟨oQ a1 a2 b1 b2 i M.1,M.1.gq,0⟩:=by
 unfold sU oR
 rcases hi with rfl|rfl
 ·rw[ab rfl,ab hm,aa (λh=>by have:=ho h.1;omega)]
 ·rw[aa qD]
  by_cases h:iC O
  ·rw[ab h,ab ⟨hm,ho h⟩]
  ·rw[aa h,ab hm]
theorem E8{i:Int}(hi:i=0\/i=1){M O:hM×Int}{a1:BS}{a2:Int}{b1:BS}{b2:Int}(hm:iC M)(ho:iC O)(hg:M.1.gen<O.1.gen):sU i M O a1 a2 b1 b2=⟨oQ a1 a2 b1 b2 (1-i) O.1,O.1.gq,0⟩:=by
 unfold sU oR
 rcases hi with rfl|rfl
 ·rw[ab rfl,ab hm,ab ⟨ho,hg⟩];rfl
 ·rw[aa qD,ab ho,aa (λh=>by omega)];rfl
theorem not_nil:¬iC (gS []):=λh=>absurd (show(7:Int)=0 from h.1) qD
theorem uV{g b:Int}{tx:BS}{t:Nat->Int}(h:mZ g b tx t){r1:List er}(hc:fN b t 0 tx r1):¬iC (gS (gi g b tx t r1 none)):=by
 obtain⟨F,hF,hr⟩:=ny h (r1:=r1) (o:=none) (by rw[Option.getD_none,bg];exact hc);rw[hr];intro h;exact absurd (show false=true from h.2) qD
theorem jt{b:Int}{a c:List er}{t:Nat->Int}{i:Nat}{now:BS}(h:fN b t i now (a++c)):fN b t i now a:=((lB a c t i now).1 h).1
theorem sy{b:Int}{r1 r2:List er}{t:Nat->Int}{now:BS}(h:fN b t 0 now (r1++r2))(j:Nat):fN b t 0 now (r1++r2.take j):=by
 have e:r1++r2=(r1++r2.take j)++r2.drop j:=by rw[aU,bF]
 rw[e] at h;exact jt h
def Sq(d:SC)(a n1:Nat):SC:= {d with x1:=d.x1.take a,x2:=a,x3:=d.x3.take n1,x4:=n1}
def sA(a n1:Nat)(i:Int):Nat:=if i=0 then a else n1
theorem Jz(d:SC)(a n1:Nat)(i:Int):fb (Sq d a n1) i=(fb d i).take (sA a n1 i):=by
 unfold fb sA
 split<;>rfl
structure xR(d:SC)(l:List er)(d':SC)(l':List er):Prop where
 Tk:uQ d' l' none
 lo:d.sf<=d'.b+(l'.length:Int)
 hi:d'.b+(l'.length:Int)<=d.b+(l.length:Int)
 b:d.b<=d'.b
 tx:∀r,d'.b<=r->r<=d'.b+(l'.length:Int)->gg d' l' r=gg d l r
 gn:d'.gn<=d.gn+1
 fs:QC d->QC d'
theorem ly{α}(l:List α){a c:Nat}(h:a<=c):(l.take c).take a=l.take a:=by rw[List.take_take,fu h]
theorem JA{d:SC}{l:List er}{m:Option Mv}(h:uQ d l m)(n n1:Nat)(h0:d.x2<=(n:Int)/\n<=d.x1.length)(h1:d.x4<=(n1:Int)/\n1<=d.x3.length):
  ∃d' l',nL (d.x1.take n) n (d.x3.take n1) n1=⟨d',l',0⟩/\xR d l d' l'/\(m=none->d'.b=d.b):=by
 obtain⟨D,N⟩:∃D,Sq d n n1=D:=⟨_,rfl⟩;have u:=h.dk.slot 0;have v:=h.dk.slot 1;have u:d.x1.length<=1048576/\0<=d.x2/\d.x2<=(d.x1.length:Int):=u;have v:d.x3.length<=1048576/\0<=d.x4/\d.x4<=(d.x3.length:Int):=v;have x:iz (d.x1.take n) n (d.x3.take n1) n1=0:=lZ.2 ⟨gT.2 (by rw[aE];omega),gT.2 (by rw[aE];omega)⟩;have G:na D:=by rw[<-N];exact x
 have a:∀i,fb D i=(fb d i).take (sA n n1 i):=λi=>by rw[<-N];exact Jz d n n1 i
 have hN:∀i,ie d i<=(sA n n1 i:Int)/\sA n n1 i<=(fb d i).length:=by
  intro i;unfold ie sA fb
  by_cases hi:i=0
  ·rw[ab hi,ab hi,ab hi];exact h0
  ·rw[aa hi,aa hi,aa hi];exact h1
 have X:nL (d.x1.take n) n (d.x3.take n1) n1=sU d.at' (gS (fR (fb D d.at')).1) (gS (fR (fb D (1-d.at'))).1) D.x1 D.x2 D.x3 D.x4:=by
  unfold nL sU;rw[aa (λg=>g x)]
  rcases h.at' with ha|ha
  ·rw[ha,ab rfl,<-N];rfl
  ·rw[ha,aa qD,<-N];rfl
 rw[X];obtain⟨r1,r2,Y,m1,m2,m3,m4,m5⟩:=h.mn;have hc:fN d.b d.fs 0 d.tx (r1++r2):=by rw[<-m1];exact h.ch
 have A:=hN d.at';rw[m4] at A;obtain⟨j,j1,Z,j3,j4⟩:=wz h.hd hc (sA n n1 d.at') Y m3 (by have:=A.1;omega);have H:=sy hc j;obtain⟨F,hF,Q⟩:=ny h.hd (r1:=r1) (o:=some (r2.take j)) H;have P:gS (fR (fb D d.at')).1=(⟨d.gn,d.b,d.tx,F,jr F d.b (r1++r2.take j),r1++r2.take j,true,((eF (gi d.gn d.b d.tx d.fs r1 (some (r2.take j)))).length:Int)⟩,0):=by
  rw[a,m2,j3];exact Q
 have V:iC (gS (fR (fb D d.at')).1):=by rw[P];exact⟨rfl,rfl⟩
 have main:(iC (gS (fR (fb D (1-d.at'))).1)->(gS (fR (fb D (1-d.at'))).1).1.gen<d.gn)->∃d' l',sU d.at' (gS (fR (fb D d.at')).1) (gS (fR (fb D (1-d.at'))).1) D.x1 D.x2 D.x3 D.x4=⟨d',l',0⟩/\xR d l d' l'/\(m=none->d'.b=d.b):=by
  intro ho;have I:(gS (fR (fb D d.at')).1).1.gen=d.gn:=by rw[P]
  have e:=BM (O:=gS (fR (fb D (1-d.at'))).1) h.at' (a1:=D.x1) (a2:=D.x2) (b1:=D.x3) (b2:=D.x4) V (λg=>by rw[I];exact ho g);rw[e,P];have B:(eF (gi d.gn d.b d.tx d.fs r1 (some (r2.take j)))).length<=(fb D d.at').length:=by
   rw[a,aE];have:=A.2;omega
  obtain⟨d',C,ha,k1,y,R,W,k5⟩:=zV G h.at' h.hd H hF B (by rw[a,ly _ j4,m2];exact zF j Z);have p:(r1++r2.take j).length=r1.length+j:=by rw[ae,aE];omega
  have hlt:r1++r2.take j=l.take (r1.length+j):=by rw[m1,db]
  have hlen:r1.length+j<=l.length:=by rw[m1,ae];omega
  refine⟨d',r1++r2.take j,by rw[C],⟨ha,?_,?_,by rw[k1];exact bn _,?_,by rw[R];omega,?_⟩,λ_=>k1⟩
  ·rw[k1,p];omega
  ·rw[k1,p];omega
  ·intro r E s;rw[k1] at E s;rw[p] at s;unfold gg;rw[y,k1,hlt,ly _ qW]
  ·intro hf w hw;rw[k5,k1,hF _ qW];exact hf w hw
 have z:fb d (1-d.at')=[]->¬iC (gS (fR (fb D (1-d.at'))).1):=by
  intro e;rw[a,e,eW];exact not_nil
 obtain _|mv:=m
 ·rcases h.ot with⟨_,g,b,tx,t,s1,o,w1,w2,w3,w4⟩|⟨_,w⟩
  ·refine main λhg=>?_;rw[a,w3] at hg⊢
   rcases su w1 w2 (sA n n1 (1-d.at')) with e|⟨k,k1,e⟩|⟨s2,k,rfl,k1,e,y⟩
   ·rw[e] at hg;exact absurd hg not_nil
   ·rw[e] at hg;refine absurd hg (uV w1 ?_);have:=jt w2;rw[<-bF k s1] at this;exact jt this
   ·rw[e];obtain⟨F',_,hr⟩:=ny w1 (r1:=s1) (o:=some (s2.take k)) (sy w2 k);rw[hr];exact w4
  ·exact main λhg=>absurd hg (z w)
 ·obtain⟨o1,hf,hg,ho⟩:=h.ot;obtain⟨c1,c2,c3,c4⟩:=nd h hf;have hh:=Ql h hf hg
  rcases ho with⟨_,_,w⟩|⟨v1,v2,v3,v4⟩|⟨v1,v2,v0,t1,t2,ks,v3,v4,v5,v6,v7⟩
  ·exact main λhg=>absurd hg (z w)
  ·refine main λhg=>?_;rw[a,v4] at hg;have q:fN mv.f (je d l mv.f) 0 (gg d l mv.f) ((jC d l mv.f).take mv.c.toNat++(none:Option (List er)).getD []):=by
    rw[Option.getD_none,bg];rw[<-bF mv.c.toNat (jC d l mv.f)] at c1;exact jt c1
   rcases su hh q (sA n n1 (1-d.at')) with e|⟨k,k1,e⟩|⟨s2,k,S,_⟩
   ·rw[e] at hg;exact absurd hg not_nil
   ·rw[e] at hg;refine absurd hg (uV hh ?_);have:=jt q;rw[<-bF k ((jC d l mv.f).take mv.c.toNat)] at this;exact jt this
   ·cases S
  ·have q:fN mv.f (je d l mv.f) 0 (gg d l mv.f) (t1++t2):=by rw[<-v3];exact c1
   have J:=hN (1-d.at');have K:∀k,ks<=k->k<=t2.length->(fR ((eF (gi (d.gn+1) mv.f (gg d l mv.f) (je d l mv.f) t1 (some t2))).take (sA n n1 (1-d.at')))).1=gi (d.gn+1) mv.f (gg d l mv.f) (je d l mv.f) t1 (some (t2.take k))->(eF (gi (d.gn+1) mv.f (gg d l mv.f) (je d l mv.f) t1 (some (t2.take k)))).length<=sA n n1 (1-d.at')->
     ∃d' l',sU d.at' (gS (fR (fb D d.at')).1) (gS (fR (fb D (1-d.at'))).1) D.x1 D.x2 D.x3 D.x4=⟨d',l',0⟩/\xR d l d' l'/\(some mv=none->d'.b=d.b):=by
    intro k k1 y e ke;have L:=sy q k;obtain⟨F',M,hr⟩:=ny hh (r1:=t1) (o:=some (t2.take k)) L;have T:gS (fR (fb D (1-d.at'))).1=(⟨d.gn+1,mv.f,gg d l mv.f,F',jr F' mv.f (t1++t2.take k),t1++t2.take k,true,((eF (gi (d.gn+1) mv.f (gg d l mv.f) (je d l mv.f) t1 (some (t2.take k)))).length:Int)⟩,0):=by
     rw[a,v4,e];exact hr
    have gO:iC (gS (fR (fb D (1-d.at'))).1):=by rw[T];exact⟨rfl,rfl⟩
    rw[E8 h.at' V gO (by rw[P,T];show d.gn<d.gn+1;omega),T];have B:(eF (gi (d.gn+1) mv.f (gg d l mv.f) (je d l mv.f) t1 (some (t2.take k)))).length<=(fb D (1-d.at')).length:=by
     rw[a,aE];have:=J.2;omega
    obtain⟨d',C,ha,q1,q2,q3,q4,q5⟩:=zV G h.T4 hh L M B (by rw[a,ly _ ke,v4];exact zF k y);have p:(t1++t2.take k).length=t1.length+k:=by rw[ae,aE];omega
    have hlt:t1++t2.take k=(jC d l mv.f).take (t1.length+k):=by rw[v3,db]
    have hlen:t1.length+k<=(jC d l mv.f).length:=by rw[v3,ae];omega
    rw[c4] at hlen;refine⟨d',t1++t2.take k,by rw[C],⟨ha,?_,?_,by rw[q1];exact hf.1,?_,by rw[q3];omega,?_⟩,λe=>by cases e⟩
    ·rw[q1,p];omega
    ·rw[q1,p];have:=hf.2;omega
    ·intro r E s;rw[q1] at E s;rw[p] at s;have Yf:=hf.1;have e3:gg d' (t1++t2.take k) r=lW (gg d l mv.f) ((jC d l mv.f).take (r-mv.f).toNat):=by
      unfold gg;rw[q2,q1,hlt,ly _ qW];rfl
     have e2:(r-d.b).toNat=(mv.f-d.b).toNat+(r-mv.f).toNat:=by omega
     have e4:l.take (r-d.b).toNat=l.take (mv.f-d.b).toNat++(jC d l mv.f).take (r-mv.f).toNat:=by
      unfold jC;rw[e2,List.take_add]
     have e5:gg d l r=lW d.tx (l.take (r-d.b).toNat):=rfl;rw[e3,e5,e4,oO];rfl
    ·intro U w hw;rw[q5,q1,M _ qW];exact Jy U hf.1 w hw
   rcases v6 with v6|v6
   ·subst v6
    rcases su hh (o:=some t2) q (sA n n1 (1-d.at')) with e|⟨k,k1,e⟩|⟨s2,k,S,k1,e,y⟩
    ·refine main λhg=>?_;rw[a,v4,e] at hg;exact absurd hg not_nil
    ·refine main λhg=>?_;rw[a,v4,e] at hg;refine absurd hg (uV hh ?_);have:=jt q;rw[<-bF k t1] at this;exact jt this
    ·cases S;exact K k (bc _) k1 e y
   ·have:=J.1;rw[v6] at this;obtain⟨k,k1,y,R,W⟩:=wz hh q (sA n n1 (1-d.at')) ks v5 qW;exact K k k1 y R W
theorem Dg{x:BS}{s k:Int}(h:0<=s/\s<=(x.length:Int)):s<=kM x s k/\kM x s k<=(x.length:Int):=by
 unfold kM;omega
theorem E9{d:SC}{l:List er}{m:Option Mv}(h:uQ d l m)(k0 k1:Int):∃d' l',nL (d.x1.take (kM d.x1 d.x2 k0).toNat) (kM d.x1 d.x2 k0) (d.x3.take (kM d.x3 d.x4 k1).toNat) (kM d.x3 d.x4 k1)=⟨d',l',0⟩/\xR d l d' l'/\(m=none->d'.b=d.b):=by
 have a0:0<=d.x2/\d.x2<=(d.x1.length:Int):=(h.dk.slot 0).2;have a1:0<=d.x4/\d.x4<=(d.x3.length:Int):=(h.dk.slot 1).2;have c:=Dg (k:=k0) a0;have b1:=Dg (k:=k1) a1;obtain⟨e,a⟩:∃n:Nat,kM d.x1 d.x2 k0=(n:Int):=⟨(kM d.x1 d.x2 k0).toNat,qW⟩;obtain⟨n1,e1⟩:∃n:Nat,kM d.x3 d.x4 k1=(n:Int):=⟨(kM d.x3 d.x4 k1).toNat,qW⟩;rw[a,e1,aG,aG];rw[a] at c;rw[e1] at b1;exact JA h e n1 qW qW
def lcs:BS->BS->Nat
 |[],_=>0
 |_::_,[]=>0
 |a::s,b::t=>if a=b then 1+lcs s t else max (lcs s (b::t)) (lcs (a::s) t)
termination_by s t=>s.length+t.length
theorem nC(t:BS):lcs [] t=0:=by unfold lcs;rfl
theorem mK(s:BS):lcs s []=0:=by cases s<;>(unfold lcs;rfl)
theorem uW(a b:UInt8)(s t:BS):lcs (a::s) (b::t)=if a=b then 1+lcs s t else max (lcs s (b::t)) (lcs (a::s) t):=by rw[lcs]
theorem xS:∀(s t:BS),∃l,List.Sublist l s/\List.Sublist l t/\l.length=lcs s t
 |[],t=>⟨[],dY _,dY _,by rw[nC];rfl⟩
 |a::s,[]=>⟨[],dY _,dY _,by rw[mK];rfl⟩
 |a::s,b::t=>by
  rw[uW]
  by_cases h:a=b
  ·subst h;obtain⟨l,h1,h2,h3⟩:=xS s t;exact⟨a::l,h1.cons_cons a,h2.cons_cons a,by rw[ab rfl,ar,h3];omega⟩
  ·rw[aa h]
   rcases Nat.le_total (lcs s (b::t)) (lcs (a::s) t) with hm|hm
   ·obtain⟨l,h1,h2,h3⟩:=xS (a::s) t;exact⟨l,h1,h2.cons b,by rw[h3];omega⟩
   ·obtain⟨l,h1,h2,h3⟩:=xS s (b::t);exact⟨l,h1.cons a,h2,by rw[h3];omega⟩
termination_by s t=>s.length+t.length
def hH:BS->BS->List Tok
 |[],t=>t.map .put
 |_::s,[]=>.cut::hH s []
 |a::s,b::t=>if a=b then .keep::hH s t else if lcs (a::s) t<=lcs s (b::t) then .cut::hH s (b::t) else .put b::hH (a::s) t
termination_by s t=>s.length+t.length
theorem oT(t:BS):hH [] t=t.map .put:=by unfold hH;rfl
theorem te(s:BS):hH s []=List.replicate s.length .cut:=by
 induction s with
 |nil=>unfold hH;rfl
 |cons a s ih=>rw[hH,ih];rfl
theorem uX(a b:UInt8)(s t:BS):hH (a::s) (b::t)=if a=b then .keep::hH s t else if lcs (a::s) t<=lcs s (b::t) then .cut::hH s (b::t) else .put b::hH (a::s) t:=by rw[hH]
def pU:List Tok->Nat
 |[]=>0
 |.keep::ts=>pU ts
 |.put _::ts=>pU ts+1
 |.cut::ts=>pU ts+1
theorem tj(t:BS)(s:BS):my (t.map .put) s=t:=by
 induction t with
 |nil=>cases s<;>rfl
 |cons b t ih=>simp[my,ih]
theorem Fa(t:BS):pU (t.map .put)=t.length:=by
 induction t with
 |nil=>rfl
 |cons b t ih=>simp[pU,ih]
theorem JB(t:BS):iN (t.map .put)=t.length:=by
 induction t with
 |nil=>rfl
 |cons b t ih=>simp[iN,ih];try omega
theorem oU:∀(s t:BS),my (hH s t) s=t/\kE (hH s t)=s.length/\iN (hH s t)=t.length/\pU (hH s t)+2*lcs s t=s.length+t.length
 |[],t=>by
  rw[oT,nC];exact⟨tj t [],by simp[kE,r7],JB t,by rw[Fa];simp⟩
 |a::s,[]=>by
  have ih:=oU s [];rw[hH,mK] at*;refine⟨?_,?_,?_,?_⟩
  ·simpa[my] using ih.1
  ·simpa[kE,iL] using ih.2.1
  ·simpa[iN] using ih.2.2.1
  ·have:=ih.2.2.2;simp[pU] at*;omega
 |a::s,b::t=>by
  rw[uX,uW]
  by_cases h:a=b
  ·have ih:=oU s t;rw[ab h,ab h];refine⟨?_,?_,?_,?_⟩
   ·simp[my,ih.1,h]
   ·have:=ih.2.1;simp[kE,iL] at*;exact this
   ·have:=ih.2.2.1;simp[iN] at*;omega
   ·have:=ih.2.2.2;simp[pU] at*;omega
  ·rw[aa h,aa h]
   by_cases h2:lcs (a::s) t<=lcs s (b::t)
   ·have ih:=oU s (b::t);rw[ab h2];refine⟨?_,?_,?_,?_⟩
    ·simp[my,ih.1]
    ·have:=ih.2.1;simp[kE,iL] at*;exact this
    ·have:=ih.2.2.1;simp[iN] at*;omega
    ·have:=ih.2.2.2;simp[pU] at*;omega
   ·have ih:=oU (a::s) t;rw[aa h2];refine⟨?_,?_,?_,?_⟩
    ·simp[my,ih.1]
    ·have:=ih.2.1;simp[kE,iL] at*;exact this
    ·have:=ih.2.2.1;simp[iN] at*;omega
    ·have:=ih.2.2.2;simp[pU] at*;omega
termination_by s t=>s.length+t.length
def jf(s t:BS):List Part×Int:=if 500<s.length\/500<t.length then([],2) else(nI (hH s t),0)
end Go.Proofs.YtajdadcdcpnedaaGreatDoor.AM
