/- The product of two polynomials: the program's answer. -/
import Derived.Test.YtlbohjnfkhemlaaGreatProg
import Derived.Test.YtlbohjnfkhemlaaGreatTp7
set_option maxRecDepth 100000
set_option maxHeartbeats 16000000
namespace Go.Proofs.YtlbohjnfkhemlaaGreat
section
open Go.RowKit
def VL(w:World):Option PZ->Ending->World->Prop
 |none=>K0 w 8
 |some p=>Wg w p
theorem RN{ts:List RTerm}{k:Nat}{t:RTerm}(h:ts[k]? = some t):(toP ts)[k]? = some (Z6 t.c,t.m):=by
 unfold toP;rw[yZ,h];rfl
theorem Ln(xs:PZ)(x:Int×Z7):Z5 (xs ++ [x])=Z5 xs ++ [⟨Z8 x.1,x.2⟩]:=by
 unfold Z5;rw[xl];rfl
theorem Sd{ts:List RTerm}(h:ZR ts=true){k:Nat}{t:RTerm}(ht:ts[k]? = some t):Z3 t.m=true:=SH h t (zP ht)
theorem Ip{S:Nat->Prop}(vp vq:Value)(ps qs:List RTerm)(w:World)(L:Nat)(hp:z06 S w vp ps)(hq:z06 S w vq qs)(hS:∀k,S k->k<w.heap.size)(hmp:ZR ps=true)(hmq:ZR qs=true)
  (hrp:∀t∈ps,t.c.mag.length<=L) (hrq:∀t∈qs,t.c.mag.length<=L) (hL:L<=1000000000) (hc:(∀t∈ps,ZX (Z6 t.c)<24)∨(∀t∈qs,ZX (Z6 t.c)<24)) (hn:ps.length*qs.length<=1000000000000) :
  Calls Tryz.prog 143 #[vp,vq] w (VL w (ZI (toP ps) (toP qs))):=by
 have hnot:∀(x:Bool) (w:World),(Op.unary .not (.bool x)).run Tryz.prog w=.ok (.bool (!x)) w:=λ _ _=>rfl;have HP:=Z_ hp;have HQ:=Z_ hq;have b7:=Z_ (λ(k:Nat) (t:RTerm) (U:ps[k]? = some t)=>Sd hmp U);have ch:=Z_ (λ(k:Nat) (t:RTerm) (U:qs[k]? = some t)=>Sd hmq U);have a7:=Z_ hrp;have bA:=Z_ hrq;have cl:=Z_ hc;have az:=Z_ hn;have b4:=hp.len_le;have cn:=hq.len_le
 have CA:=R7 (S:=λ k=>S k∨k=w.heap.size) _ [ps,qs] (w.alloc (.cells #[vp,vq] 35)) (SY hp hq hS 35) (UD hS _) (λ p hp=>by
  rcases zJ.1 hp with rfl|hp
  ·exact λ t U=>zT (hrp t U) (by omega)
  ·rw[zQ.1 hp];exact λ t U=>zT (hrq t U) (by omega))
 rw[show [ps,qs].all ZR=true by simp[hmp,hmq]]at CA;obtain⟨ap,cp,rfl⟩:=hp.form;obtain⟨aq,cq,rfl⟩:=hq.form;obtain⟨n,a4⟩:∃n,n=ps.length:=⟨_,rfl⟩
 obtain⟨m,aH⟩:∃n,n=qs.length:=⟨_,rfl⟩
 rw[<-a4]at HP CA b4 az⊢;rw[<-aH]at HQ CA cn az⊢;have HN:=Z_ a4;have HM:=Z_ aH;have cr:=Z_ CA;have HS:=Z_ hS;clear hp hq hmp hmq hrp hrq hc hn a4 aH CA hS
 go_enter Tryz.func143,Tryz.ntmps143
 go_wp2_with fail;(with_reducible refine cr.o.mono ?_);rintro e w1 ⟨rfl,bv⟩;have aa:=Z_ ((uO (uP w) _).trans bv);have ct:=Z_ (HP.o.onS aa.o HS.o);have cm:=Z_ (HQ.o.onS aa.o HS.o);have aj:=Z_ (ZM HS.o aa.o);clear bv;go_wp2
 go_loopw [6,20] (λ o i wr=>∃(k:Nat) (xs:PZ) (cs:List Value),k<=n/\i=.int .i64 k/\Ext w1 wr/\Hd (XI (toP ps) (toP qs) (k*m) xs)/\Hd (xs.length=k*m)/\Hd (wr.ownsRow w1.heap.size 54 3 o xs.length cs)/\Hd (z0v (Yy w1 wr o) wr cs (Z5 xs))) (λ _ i _=>n-(intOf i).toNat)
 case atStart=>exact⟨0,[],[],zL _,rfl,uP _,Z_ (by rw[yE];exact QT _ _),Z_ (by rw[yE];rfl),World.ownsRow_nil _ _ _ _,rfl⟩
 case round=>
  obtain⟨k,xs,cs,hk,rfl,D,HF,O,HW,HY⟩:=hrel;have HX:=Z_ D
  by_cases ci:k<n
  ·obtain⟨t,U⟩:=ZN (l:=ps) (j:=k) (by rw[<-HN.o];exact ci);obtain⟨b,off,vd,vo,rfl,-,hn1,hm1,hSb,h1,h2,h3,h4,h5⟩:=ct.o.cellAt U;have h1:=D.cell h1;have h2:=D.cell h2;have h3:=D.cell h3;have HT:=Z_ U;have H4:=Z_ h4;have H5:=Z_ h5;obtain⟨ad,cd,rfl⟩:=h4.form;obtain⟨ao,co,rfl⟩:=h5.form;obtain⟨ng,aP⟩:∃b,b=t.c.neg:=⟨_,rfl⟩
   obtain⟨nd,aN⟩:∃b,b=t.c.mag.length:=⟨_,rfl⟩
   obtain⟨nm,a5⟩:∃b,b=t.m.length:=⟨_,rfl⟩
   have ca:=Z_ aP;rw[<-aN]at H4;rw[<-a5]at H5;rw[<-aP]at h1;rw[<-aN]at h2;rw[<-a5]at h3;have aR:=Z_ (uO (uP wr) (.cells #[.bool ng,.slice ad nd cd,.slice ao nm co] 54));clear U h4 h5 D aP aN a5;go_wp2;obtain⟨wo,rfl⟩:∃wo:World,wo=wr:=⟨_,rfl⟩
   go_loopw [6,26] (λ o i wr=>∃(j:Nat) (xs:PZ) (cs:List Value),j<=m/\i=.int .i64 j/\Ext w1 wr/\Hd (wo.heap.size<wr.heap.size)/\Hd (wr.cell? ⟨wo.heap.size,0,none⟩=some (.bool ng)/\wr.cell? ⟨wo.heap.size,1,none⟩=some (.slice ad nd cd)/\wr.cell? ⟨wo.heap.size,2,none⟩=some (.slice ao nm co))/\Hd (some wo.heap.size≠o.ownBlock) /\
    Hd (XI (toP ps) (toP qs) (k*m+j) xs)/\Hd (xs.length=k*m+j)/\Hd (wr.ownsRow w1.heap.size 54 3 o xs.length cs)/\Hd (z0v (Yy w1 wr o) wr cs (Z5 xs))) (λ _ i _=>m-(intOf i).toNat)
   case atStart=>exact⟨0,xs,cs,zL _,rfl,HX.o.trans aR.o,Z_ (by rw[z00];exact zk _),Z_ ⟨ZJ _ _ _ rfl rfl,ZJ _ _ _ rfl rfl,ZJ _ _ _ rfl rfl⟩,Z_ (λ e=>by have:=(HW.o.lt _ e.symm).2;omega),HF,O,Zp HW.o aR.o,Yj HY.o aR.o⟩
   case round=>
    clear HF O HW HY;obtain⟨j,xs,cs,hj,rfl,D,bN,al,ax,HF,O,HW,HY⟩:=hrel;have af:=Z_ D
    by_cases bb:j<m
    ·obtain⟨u,hu⟩:=ZN (l:=qs) (j:=j) (by rw[<-HM.o];exact bb);obtain⟨b2,off2,ve,vp2,rfl,-,hn2,hm2,hSb2,g1,g2,g3,g4,g5⟩:=(cm.o.onS af.o aj.o).cellAt hu;have HU:=Z_ hu;have a0:=Z_ (QN (RN HT.o) (RN hu));rw[show(toP qs).length=m by rw[z5k,HM.o]]at a0;have X:=b7.o k t HT.o;have Z:=ch.o j u hu;obtain⟨k0,k1,k2⟩:=al.o;obtain⟨ae,ce,rfl⟩:=g4.form;obtain⟨bs,bx,rfl⟩:=g5.form;obtain⟨mg,av⟩:∃b,b=u.c.neg:=⟨_,rfl⟩
     obtain⟨ne,ay⟩:∃b,b=u.c.mag.length:=⟨_,rfl⟩
     obtain⟨nq,au⟩:∃b,b=u.m.length:=⟨_,rfl⟩
     have cc:=Z_ av;have G4:=Z_ g4;have G5:=Z_ g5;rw[<-ay]at G4;rw[<-au]at G5;rw[<-av]at g1;rw[<-ay]at g2;rw[<-au]at g3;have z:=Z_ (uO (uP wr) (.cells #[.bool mg,.slice ae ne ce,.slice bs nq bx] 54));have k3:=z.o.cell k0;have k4:=z.o.cell k1;have k5:=z.o.cell k2;have ac:=ZM aj.o af.o;have ai:=Z_ (Lk (S:=S) (.slice ao nm co) (.slice bs nq bx) t.m u.m _ (H5.o.ext (D.trans z.o) aj.o) (G5.o.ext z.o ac) (ZM ac z.o))
     have b6:=Z_ (λ(W:World) (hW:Ext wr W)=>E6 (S:=S) (.agg #[.bool ng,.slice ad nd cd]) (.agg #[.bool mg,.slice ae ne ce]) t.c u.c W ⟨_,by rw[ca.o],H4.o.ext (D.trans hW) aj.o⟩ ⟨_,by rw[cc.o],G4.o.ext hW ac⟩ (ZM ac hW) (zT (a7.o t (zP HT.o)) (by omega)) (zT (bA.o u (zP hu)) (by omega))
      (cl.o.imp (λ h=>h t (zP HT.o)) (λ h=>h u (zP hu))))
     have bn:k*m+j<n*m:=by
      have:(k+1)*m<=n*m:=zF _ (by omega);rw[y8]at this;omega
     have cg:Hd (xs.length<=1000000000000):=Z_ (by have h1:=az.o;have h2:=O.o;omega)
     cases hmx:Z3 (ZE t.m u.m) with
     |false=>
      have he:Wp t.m u.m=8:=by unfold Wp;rw[X,Z,hmx];rfl
      have cb:=Z_ (Rk HF.o (a0.o.trans (congrArg some (QR X Z hmx))));rw[he]at ai;clear he hmx X Z D hu g4 g5 av ay au k0 k1 k2 bn ac;go_wp2_with fail;(with_reducible refine ai.o.mono ?_);rintro e w2 ⟨v2,rfl,I,y⟩;have K:=Z_ (aa.o.trans (af.o.trans (z.o.trans y)));clear I y;go_wp2
      all_goals
       go_ret2;rw[cb.o];exact⟨rfl,K.o⟩
     |true=>
      have he:Wp t.m u.m=0:=by unfold Wp;rw[X,Z,hmx];rfl
      have hv:Un t.m u.m=ZE t.m u.m:=by unfold Un;rw[X,Z,hmx];rfl
      have bl:=Z_ (PA HF.o (a0.o.trans (congrArg some (Qv X Z hmx))));rw[he,hv]at ai;clear he hv hmx X Z D hu g4 g5 av ay au k0 k1 k2 bn ac;go_wp2_with fail;(with_reducible refine ai.o.mono ?_);rintro e w2 ⟨v2,rfl,I,y⟩;have K:=Z_ (z.o.trans y);have l0:=y.cell k3;have l1:=y.cell k4;have r0:=y.new_cell (i:=0) rfl;have r1:=y.new_cell (i:=1) rfl;have ar:=Z_ (I.to (S':=New wr w2) (uN _ _) (λ k h=>⟨zT z.o.size h.1,h.2⟩));obtain⟨a2,c2,rfl⟩:=I.form;obtain⟨n2,aG⟩:∃b,b=(ZE t.m u.m).length:=⟨_,rfl⟩
      rw[<-aG]at ar⊢;have bB:=Z_ (b6.o w2 (z.o.trans y));clear I y aG k3 k4 k5;go_wp2_with fail;(with_reducible refine bB.o.mono ?_);rintro e w3 ⟨v3,rfl,⟨cj,rfl,a6⟩,ah⟩;have J:=Z_ (K.o.trans ah);have aA:=Z_ (af.o.trans (K.o.trans ah));have bu:=Z_ (Zp HW.o J.o);obtain⟨b3,a8⟩:∃b,b=(Z8 (Z6 t.c*Z6 u.c)).neg:=⟨_,rfl⟩
      have aC:z0v (New wr w3) w3 [.bool (Z8 (Z6 t.c*Z6 u.c)).neg,cj,.slice a2 n2 c2] [⟨Z8 (Z6 t.c*Z6 u.c),ZE t.m u.m⟩] :=
       z0v.single (t:=⟨Z8 (Z6 t.c*Z6 u.c),ZE t.m u.m⟩) (a6.to (uN _ _) (λ k h=>⟨zT K.o.size h.1,h.2⟩)) (ar.o.to (uM ah (λ _ h=>h.2)) (λ k h=>⟨h.1,zU h.2 ah.size⟩))
      have aS:=Z_ ((Yj HY.o J.o).append (Ti af.o.size HW.o aC));rw[<-Ln xs (Z6 t.c*Z6 u.c,ZE t.m u.m)]at aS;obtain⟨a3,c3,rfl⟩:=a6.form;obtain⟨n3,bm⟩:∃b,b=(Z8 (Z6 t.c*Z6 u.c)).mag.length:=⟨_,rfl⟩
      rw[<-a8,<-bm]at aS⊢;clear aC a6 ah a8 bm l0 l1 r0 r1;go_wp2_with (at_builtin;refine VA _ rfl (.tmp 41) (.tmp 49) 34 rfl w1.heap.size 54 (.agg #[.bool false,.slice none 0 0,.slice none 0 0]) 3 56 Tryz.underlying34 uE rfl (by decide) _ xs.length cs rfl bu.o #[.bool b3,.slice a3 n3 c3,.slice a2 n2 c2] rfl (Xn rfl rfl rfl) rfl cg.o (by decide) aA.o.size ?_;intro v5 w5 aB hg bg;have cu:=Z_ aB;have ag:=Z_ hg;have a9:=Z_ bg;clear aB hg bg)
      go_roundw
      case rel=>
       refine⟨j+1,xs ++ [(Z6 t.c*Z6 u.c,ZE t.m u.m)],cs++(#[.bool b3,.slice a3 n3 c3,.slice a2 n2 c2]:Array Value).toList,by omega,by go_num,XH aA.o bu.o ag.o,Z_ (zU bN.o (zT J.o.size ag.o.size)),Z_ ⟨ZT ag.o (J.o.cell al.o.1) ax.o,ZT ag.o (J.o.cell al.o.2.1) ax.o,ZT ag.o (J.o.cell al.o.2.2) ax.o⟩,Z_ (λ e=>by rcases a9.o with h|h;exact ax.o (e.trans h);exact absurd (Option.some.inj (e.trans h)) (by have:=bN.o;have:=J.o.size;omega)),bl,?_,?_,Vs aS.o ag.o a9.o (zw _)⟩
       ·show _=_;rw[zI,O.o];rfl
       ·show World.ownsRow _ _ _ _ _ _ _;rw[zI];exact cu.o
      case measure=>simp only[intOf];omega
    ·obtain rfl:m=j:=by omega
     clear D;go_wp2
     go_roundw
     case rel=>
      have e:(k+1)*m=k*m+m:=by rw[y8,yM]
      exact⟨k+1,xs,cs,by omega,by go_num,af.o,by rw[e];exact HF,by rw[e];exact O,HW,HY⟩
     case measure=>simp only[intOf];omega
  ·obtain rfl:n=k:=by omega
   have aF:=Rw HF.o (by rw[z5k,z5k,<-HN.o,<-HM.o]);have bf:=Z_ aF;have ho:=Vk (S:=Z2 wr) (p:=Z5 xs) (by rw[z5l];exact HW.o) (HY.o.to (uN _ _) (λ _ h=>h.1.2)) (λ k h1 h2=>h2)
   have ba:=Z_ (U5 u6 (Z5 xs) wr (L+L) ho (λ _ h=>h) (λ t U=>by
    obtain⟨x,D,rfl⟩:=zG.1 U
    exact(Ub HF.o D).1) (λ t U=>by
    obtain⟨x,D,rfl⟩:=zG.1 U;obtain⟨-,a,ha,b,hb,e⟩:=Ub HF.o D;obtain⟨a',b1,rfl⟩:=zG.1 ha;obtain⟨b',bt,rfl⟩:=zG.1 hb;show(Z8 x.1).mag.length<=_;rw[z54,e]
    exact QF (zT (Ws (HP.o.okT a' b1)) (a7.o a' b1)) (zT (Ws (HQ.o.okT b' bt)) (bA.o b' bt))) (by omega) (by rw[z5l,O.o];have:=az.o;omega))
   rw[z53]at ba;clear D aF ho;go_wp2_with fail;(with_reducible refine ba.o.mono ?_);rintro e w2 ⟨v2,rfl,I,y⟩;have ar:=Z_ (I.to (S':=New w w2) (uN _ _) (λ k h=>⟨zT (aa.o.trans HX.o).size h.1,h.2⟩));have K:=Z_ ((aa.o.trans HX.o).trans y);clear I y;go_wp2
   all_goals
    go_ret2;rw[bf.o];exact⟨_,rfl,ar.o,K.o⟩
end
section
/-! Monomials without a greatest exponent -/
def z28(last:Int):Z7->Bool
 | []=>true
 |x :: r=>decide (last<x.1/\x.1<=200/\1<=x.2) && z28 x.1 r
def XR(m:Z7):Bool:=z28 0 m
theorem hD_{l:Int}{m:Z7}(h:z0d l m=true):z28 l m=true:=by
 induction m generalizing l with
 |nil=>rfl
 |cons x r ih=>
  simp only[z0d,z28,zK,decide_eq_true_eq]at h⊢;exact⟨by omega,ih h.2⟩
theorem TK{m:Z7}(h:Z3 m=true):XR m=true:=hD_ h
theorem Kt{l:Int}{m:Z7}(h:z28 l m=true)(he:∀u,ex m u<=10000):z0d l m=true:=by
 induction m generalizing l with
 |nil=>rfl
 |cons x r ih=>
  simp only[z0d,z28,zK,decide_eq_true_eq]at h⊢
  have J:∀u,u<=x.1->ex r u=0:=by
   have:∀(r:Z7) (k:Int),z28 k r=true->∀u,u<=k->ex r u=0:=by
    intro r
    induction r with
    |nil=>intro k _ u _;rfl
    |cons y s ih=>
     intro k D u z;simp only[z28,zK,decide_eq_true_eq]at D;rw[ex,if_neg (by omega)];exact ih _ D.2 u (by omega)
   exact λ u z=>this r x.1 h.2 u z
  have I:=he x.1;rw[ex,if_pos rfl]at I;refine⟨by omega,ih h.2 (λ u=>?_)⟩
  by_cases z:x.1=u
  ·rw[J u (by omega)];omega
  ·have:=he u
   rwa [ex,if_neg z]at this
theorem Vc{l:Int}{m:Z7}(h:z28 l m=true){u:Int}(hu:u<=l):ex m u=0:=by
 induction m generalizing l with
 |nil=>rfl
 |cons y s ih=>
  simp only[z28,zK,decide_eq_true_eq]at h;rw[ex,if_neg (by omega)];exact ih h.2 (by omega)
theorem Sg{l:Int}{m:Z7}(h:z28 l m=true)(u:Int):0<=ex m u:=by
 induction m generalizing l with
 |nil=>simp[ex]
 |cons y s ih=>
  simp only[z28,zK,decide_eq_true_eq]at h;rw[ex]
  split
  ·omega
  ·exact ih h.2
theorem PP{l:Int}{a b:Z7}(ha:z28 l a=true)(hb:z28 l b=true)(h:∀v,ex a v=ex b v):a=b:=by
 induction a generalizing b l with
 |nil=>
  cases b with
  |nil=>rfl
  |cons y b=>
   have:=h y.1;simp only[z28,zK,decide_eq_true_eq]at hb;simp[ex]at this;omega
 |cons x a ih=>
  cases b with
  |nil=>
   have:=h x.1;simp only[z28,zK,decide_eq_true_eq]at ha;simp[ex]at this;omega
  |cons y b=>
   simp only[z28,zK,decide_eq_true_eq]at ha hb;have z:=h x.1;have I:=h y.1
   have e:x.1=y.1:=by
    rcases vJ x.1 y.1 with g|g|g
    ·rw[ex,if_pos rfl,ex,if_neg (by omega),Vc hb.2 (by omega)]at z;omega
    ·exact g
    ·rw[ex,if_neg (by omega),Vc ha.2 (by omega),ex,if_pos rfl]at I;omega
   have D:x.2=y.2:=by
    rw[ex,if_pos rfl,ex,if_pos e.symm]at z;exact z
   have:x=y:=Prod.ext e D;subst this
   congr 1
   refine ih ha.2 hb.2 (λ v=>?_);have:=h v;rw[ex,ex]at this
   split at this
   ·rename_i hv
    rw[Vc ha.2 (by omega),Vc hb.2 (by omega)]
   ·exact this
theorem Mc{last:Int}{a b:Z7}(ha:z28 last a=true)(hb:z28 last b=true):WH last (both a b)/\(∀u,lk (both a b) u=(ex a u,ex b u))/\∀t∈both a b,1<=t.2.1+t.2.2:=by
 generalize hn:a.length+b.length=n
 induction n using Nat.strongRecOn generalizing a b last with
 |ind n ih=>
 cases a with
 |nil=>
  cases b with
  |nil=>rw[z9v];exact⟨trivial,λ u=>rfl,λ t z=>by simp at z⟩
  |cons y b=>
   simp only[z28,zK,decide_eq_true_eq]at hb;simp only[zM,zo]at hn;obtain⟨J,I,K⟩:=ih (0+b.length) (by omega) (a:=[]) (b:=b) (last:=y.1) rfl hb.2 (by simp);rw[z8n]
   refine⟨⟨hb.1.1,hb.1.2.1,J⟩,λ u=>?_,λ t z=>?_⟩
   ·rw[lk,I,ex];simp only[ex]
    split<;>rfl
   ·rcases zJ.1 z with rfl|z
    ·simp only;omega
    ·exact K t z
 |cons x a=>
  cases b with
  |nil=>
   simp only[z28,zK,decide_eq_true_eq]at ha;simp only[zM,zo]at hn;obtain⟨J,I,K⟩:=ih (a.length+0) (by omega) (a:=a) (b:=[]) (last:=x.1) ha.2 rfl (by simp);rw[z7s]
   refine⟨⟨ha.1.1,ha.1.2.1,J⟩,λ u=>?_,λ t z=>?_⟩
   ·rw[lk,I];simp only[ex]
    split<;>rfl
   ·rcases zJ.1 z with rfl|z
    ·simp only;omega
    ·exact K t z
  |cons y b=>
   have hA:=ha;have hB:=hb;simp only[z28,zK,decide_eq_true_eq]at ha hb;simp only[zM]at hn;rw[Sf]
   split
   ·rename_i hlt
    have O:z28 x.1 (y :: b)=true:=by simp only[z28,zK,decide_eq_true_eq];exact⟨⟨hlt,hb.1.2⟩,hb.2⟩
    obtain⟨J,I,K⟩:=ih (a.length+(b.length+1)) (by omega) (a:=a) (b:=y :: b) (last:=x.1) ha.2 O (by simp)
    refine⟨⟨ha.1.1,ha.1.2.1,J⟩,λ u=>?_,λ t z=>?_⟩
    ·rw[lk,I]
     by_cases D:x.1=u
     ·rw[if_pos D,<-D,Vc O (yi _),ex,if_pos rfl]
     ·rw[if_neg D];conv=>rhs;rw[ex,if_neg D]
    ·rcases zJ.1 z with rfl|z
     ·simp only;omega
     ·exact K t z
   ·split
    ·rename_i hnlt hlt
     have U:z28 y.1 (x :: a)=true:=by simp only[z28,zK,decide_eq_true_eq];exact⟨⟨hlt,ha.1.2⟩,ha.2⟩
     obtain⟨J,I,K⟩:=ih (a.length+1+b.length) (by omega) (a:=x :: a) (b:=b) (last:=y.1) U hb.2 (by simp)
     refine⟨⟨hb.1.1,hb.1.2.1,J⟩,λ u=>?_,λ t z=>?_⟩
     ·rw[lk,I]
      by_cases D:y.1=u
      ·rw[if_pos D,<-D,Vc U (yi _),ex,if_pos rfl]
      ·rw[if_neg D,show ex (y :: b) u=ex b u by rw[ex,if_neg D]]
     ·rcases zJ.1 z with rfl|z
      ·simp only;omega
      ·exact K t z
    ·rename_i K h4
     have X:x.1=y.1:=by omega
     rw[<-X]at hb;obtain⟨J,I,Z⟩:=ih (a.length+b.length) (by omega) (a:=a) (b:=b) (last:=x.1) ha.2 hb.2 (by simp)
     refine⟨⟨ha.1.1,ha.1.2.1,J⟩,λ u=>?_,λ t z=>?_⟩
     ·rw[lk,I]
      by_cases D:x.1=u
      ·rw[if_pos D,ex,if_pos D,ex,if_pos (by omega)]
      ·rw[if_neg D,show ex (y :: b) u=ex b u by rw[ex,if_neg (by omega)],show ex (x :: a) u=ex a u by rw[ex,if_neg D]]
     ·rcases zJ.1 z with rfl|z
      ·simp only;omega
      ·exact Z t z
theorem Tt{a b:Z7}(ha:XR a=true)(hb:XR b=true)(u:Int):ex (ZE a b) u=ex a u+ex b u:=by
 obtain⟨h1,h2,-⟩:=Mc ha hb;unfold ZE;rw[Ow (by simp) h1,h2];have h3:=Sg ha u;have h4:=Sg hb u;simp only
 split<;>omega
theorem Ef{last:Int}{l:List (Int×Int×Int)}(h:WH last l):z28 last (z3m (· + ·) l)=true:=by
 have y:∀{l k:Int} {m:Z7},z28 l m=true->k<=l->z28 k m=true:=by
  intro l k m h hk
  cases m with
  |nil=>rfl
  |cons x r=>
   simp only[z28,zK,decide_eq_true_eq]at h⊢;exact⟨by omega,h.2⟩
 induction l generalizing last with
 |nil=>rfl
 |cons t r ih=>
  obtain⟨h1,h2,D⟩:=h;have z:=ih D;rw[z3m]
  split
  ·rename_i h4
   simp only[z28,zK,decide_eq_true_eq];exact⟨by omega,z⟩
  ·exact y z (by omega)
theorem TY{a b:Z7}(ha:XR a=true)(hb:XR b=true):XR (ZE a b)=true:=Ef (Mc ha hb).1
theorem FQ{a b:Z7}(ha:XR a=true)(hb:XR b=true):ZE a b=ZE b a :=
 PP (TY ha hb) (TY hb ha) (λ v=>by rw[Tt ha hb,Tt hb ha];omega)
theorem BU{a:Z7}(ha:XR a=true):ZE [] a=a:=PP (TY rfl ha) ha (λ v=>by rw[Tt rfl ha];simp[ex])
theorem Pp{a:Z7}(ha:XR a=true):ZE a []=a:=PP (TY ha rfl) ha (λ v=>by rw[Tt ha rfl];simp[ex])
theorem Aq{a b:Z7}(ha:XR a=true)(hb:Z3 b=true)(h:∀u,ex a u<=ex b u):Z3 a=true:=Kt ha (λ u=>Int.le_trans (h u) (X6 hb u).2)
/-! Linear functionals -/
def VT(p:PZ):Prop:=∀t∈p,XR t.2=true
theorem TM{p:PZ}(h:ZD p):VT p:=λ t ht=>TK (h t ht)
def ev(f:Z7->Int):PZ->Int
 | []=>0
 |t :: r=>t.1*f t.2+ev f r
theorem z8d(f:Z7->Int)(p q:PZ):ev f (p++q)=ev f p+ev f q:=by
 induction p with
 |nil=>simp[ev]
 |cons t r ih=>simp only[zc,ev,ih];omega
theorem Te{f g:Z7->Int}{p:PZ}(h:∀t∈p,f t.2=g t.2):ev f p=ev g p:=by
 induction p with
 |nil=>rfl
 |cons t r ih=>simp only[ev];rw[h t (by simp),ih (λ u hu=>h u (by simp[hu]))]
theorem Ck(f g:Z7->Int)(p:PZ):ev (λ m=>f m+g m) p=ev f p+ev g p:=by
 induction p with
 |nil=>rfl
 |cons t r ih=>simp only[ev,ih,Int.mul_add];omega
theorem OM(c:Int)(f:Z7->Int)(p:PZ):ev (λ m=>c*f m) p=c*ev f p:=by
 induction p with
 |nil=>simp[ev]
 |cons t r ih=>simp only[ev,ih,Int.mul_add,Int.mul_left_comm]
theorem Tw{f:Z7->Int}{p:PZ}(h:∀t∈p,f t.2=0):ev f p=0:=by
 induction p with
 |nil=>rfl
 |cons t r ih=>simp only[ev];rw[h t (by simp),ih (λ u hu=>h u (by simp[hu]))];simp
theorem Ee(F:Z7->Z7->Int)(p q:PZ):ev (λ a=>ev (λ b=>F a b) q) p=ev (λ b=>ev (λ a=>F a b) p) q:=by
 induction p with
 |nil=>
  simp only[ev];exact(Tw (λ _ _=>rfl)).symm
 |cons t r ih=>
  simp only[ev];rw[ih,<-OM,<-Ck]
theorem Hn(f:Z7->Int)(g:Int×Z7->Option (Int×Z7))(s:Z7->Bool)(c:Z7->Int)(k:Z7->Z7)(h:∀t,g t=if s t.2 then some (t.1*c t.2,k t.2) else none)(p:PZ):ev f (p.filterMap g)=ev (λ m=>if s m then c m*f (k m) else 0) p:=by
 induction p with
 |nil=>rfl
 |cons t r ih=>
  rw[yh,h]
  cases hs:s t.2 with
  |true=>simp only[if_true,ev,ih,hs,Int.mul_assoc]
  |false=>simp only[xP,if_false,ev,ih,hs,Int.mul_zero,wY]
def dl(m:Z7):Z7->Int:=λ x=>if x=m then 1 else 0
theorem zou(m:Z7)(p:PZ):ev (dl m) p=cf p m:=by
 induction p with
 |nil=>rfl
 |cons t r ih=>
  simp only[ev,cf,ih,dl]
  split<;>simp
def Eqv(p q:PZ):Prop:=∀f,ev f p=ev f q
theorem Eqv.refl(p:PZ):Eqv p p:=λ _=>rfl
theorem Eqv.trans{p q r:PZ}(h:Eqv p q)(k:Eqv q r):Eqv p r:=λ f=>(h f).trans (k f)
theorem Eqv.cf{p q:PZ}(h:Eqv p q)(m:Z7):cf p m=cf q m:=by rw[<-zou,<-zou];exact h _
theorem J_(p:PZ)(m x:Z7):cf (p.filter λ t=>decide (t.2≠m)) x=if x=m then 0 else cf p x:=by
 induction p with
 |nil=>simp[cf]
 |cons t r ih=>
  by_cases h:t.2=m
  ·rw[xM (by simpa using h),ih]
   by_cases y:x=m
   ·rw[if_pos y,if_pos y]
   ·rw[if_neg y,if_neg y,cf,if_neg (by rw[h];exact λ e=>y e.symm)];omega
  ·rw[xg (by simpa using h),cf,ih]
   by_cases y:x=m
   ·rw[if_pos y,if_pos y,if_neg (by rw[y];exact h)];rfl
   ·rw[if_neg y,if_neg y,cf]
theorem Jb(f:Z7->Int)(p:PZ)(m:Z7):ev f p=cf p m*f m+ev f (p.filter λ t=>decide (t.2≠m)):=by
 induction p with
 |nil=>simp[ev,cf]
 |cons t r ih=>
  by_cases h:t.2=m
  ·rw[xM (by simpa using h),ev,cf,if_pos h,ih,h,Int.add_mul];omega
  ·rw[xg (by simpa using h),ev,cf,if_neg h,ih,ev];simp only[wY];omega
theorem AI{p:PZ}(h:∀m,cf p m=0)(f:Z7->Int):ev f p=0:=by
 generalize hn:p.length=n
 induction n using Nat.strongRecOn generalizing p with
 |ind n ih=>
 cases p with
 |nil=>rfl
 |cons t r=>
  rw[Jb f (t :: r) t.2,h]
  have y:((t :: r).filter λ u=>decide (u.2≠t.2)).length<n:=by
   rw[xM (by simp),<-hn];exact Nat.lt_succ_of_le (List.length_filter_le _ _)
  rw[ih _ y (λ m=>by
   rw[J_]
   split
   ·rfl
   ·exact h m) rfl]
  simp
theorem Rt(f:Z7->Int)(p:PZ):ev f (p.map λ t=>(-t.1,t.2)) = - ev f p:=by
 induction p with
 |nil=>rfl
 |cons t r ih=>simp only[ya,ev,ih,vT];omega
theorem Hx{p q:PZ}(h:∀m,cf p m=cf q m):Eqv p q:=λ f=>by
 have h1:ev f (p++q.map λ t=>(-t.1,t.2))=0:=AI (λ m=>by
  rw[<-zou,z8d,Rt,zou,zou,h]
  omega) f
 rw[z8d,Rt]at h1;omega
theorem M7{p q:PZ}(hp:canP p)(hq:canP q)(h:Eqv p q):p=q:=Qo hp hq (λ m _=>h.cf m)
/-! Products -/
def mulL(p q:PZ):PZ:=p.flatMap λ t=>q.map λ u=>(t.1*u.1,ZE t.2 u.2)
theorem z9q(f:Z7->Int)(p q:PZ):ev f (mulL p q)=ev (λ a=>ev (λ b=>f (ZE a b)) q) p:=by
 unfold mulL
 induction p with
 |nil=>rfl
 |cons t r ih=>
  rw[xT,z8d,ih];simp only[ev]
  congr 1
  rw[<-OM];clear ih
  induction q with
  |nil=>rfl
  |cons u s ih2=>
   simp only[ya,ev,ih2];rw[Int.mul_assoc,Int.mul_left_comm]
theorem Eqv.mul{p q p' q':PZ}(h:Eqv p p')(k:Eqv q q'):Eqv (mulL p q) (mulL p' q'):=λ f=>by
 rw[z9q,z9q,h];have:(λ a=>ev (λ b=>f (ZE a b)) q)=λ a=>ev (λ b=>f (ZE a b)) q':=funext λ a=>k _;rw[this]
theorem DV{p q:PZ}(hp:VT p)(hq:VT q):Eqv (mulL p q) (mulL q p):=λ f=>by
 rw[z9q,z9q,Ee];refine Te (λ u hu=>Te (λ t ht=>?_));rw[FQ (hp t ht) (hq u hu)]
/-! The canonical list of any -/
theorem WQ{p:PZ}(h:ZD p):canP (Zr p):=(RM z3a h).1
theorem Nl{p:PZ}(h:ZD p)(m:Z7):cf (Zr p) m=cf p m:=by
 have:=(RM z3a h).2 m;rw[show cf [] m=0 from rfl,wY]at this;exact this
theorem UX{p:PZ}(h:ZD p):Eqv (Zr p) p:=Hx (Nl h)
theorem JE{p q:PZ}(hp:ZD p)(hq:canP q)(h:Eqv p q):Zr p=q:=M7 (WQ hp) hq ((UX hp).trans h)
theorem Aw{α β:Type}{f g:α->List β}{l:List α}(h:∀x∈l,f x=g x):l.flatMap f=l.flatMap g:=by
 induction l with
 |nil=>rfl
 |cons x r ih=>rw[xT,xT,h x (by simp),ih (λ y hy=>h y (by simp[hy]))]
theorem AT{p q:PZ}(hp:ZD p)(hq:ZD q)(h:ZD (mulL p q)):Yt p q=(mulL p q).map some:=by
 unfold Yt mulL;rw[List.map_flatMap];refine Aw (λ t ht=>?_);rw[List.map_map];refine List.map_congr_left (λ u hu=>?_);exact Qv (hp t ht) (hq u hu) (h _ (xd.2 ⟨t,ht,zG.2 ⟨u,hu,rfl⟩⟩))
theorem Tj{p q:PZ}(hp:ZD p)(hq:ZD q)(h:ZD (mulL p q)):ZI p q=some (Zr (mulL p q)):=by
 unfold ZI;rw[AT hp hq h,OQ];rfl
theorem Vb{p q c:PZ}(hp:ZD p)(hq:ZD q)(h:ZI p q=some c):ZD (mulL p q)/\c=Zr (mulL p q):=by
 have y:ZD (mulL p q):=λ x hx=>by
  obtain⟨t,D,J⟩:=xd.1 hx;obtain⟨u,z,rfl⟩:=zG.1 J
  cases y:Z3 (ZE t.2 u.2) with
  |true=>rfl
  |false=>
   exfalso
   have I:(none:Option (Int×Z7))∈Yt p q:=xd.2 ⟨t,D,zG.2 ⟨u,z,QR (hp t D) (hq u z) y⟩⟩;obtain⟨l,r,e⟩:=List.append_of_mem I;unfold ZI at h;rw[e,NS]at h
   cases h
 refine⟨y,?_⟩;rw[Tj hp hq y]at h;exact(Option.some.inj h).symm
end
section
theorem Tg{p:PZ}(h:ZD p){t:Int×Z7}(ht:t∈Zr p):∃u∈p,u.2=t.2:=by
 have h1:=(WQ h).cf_mem ht;rw[Nl h]at h1;have h2:=((WQ h).1 t ht).1;exact canP.mem_of_cf (by rw[h1];exact h2)
theorem UJ{p q:PZ}{x:Int×Z7}(h:x∈mulL p q):∃t∈p,∃u∈q,x=(t.1*u.1,ZE t.2 u.2):=by
 obtain⟨t,ht,h2⟩:=xd.1 h;obtain⟨u,hu,rfl⟩:=zG.1 h2;exact⟨t,ht,u,hu,rfl⟩
theorem A8{p q:PZ}{t u:Int×Z7}(ht:t∈p)(hu:u∈q):(t.1*u.1,ZE t.2 u.2)∈mulL p q:=xd.2 ⟨t,ht,zG.2 ⟨u,hu,rfl⟩⟩
theorem OS{s a t b:Z7}(hs:Z3 s=true)(ha:Z3 a=true)(ht:Z3 t=true)(hb:Z3 b=true)(h1:Zs s a=1)(h2:b=t∨Zs t b=1):ZE a b≠ZE s t:=by
 intro e
 have y:∀u,ex a u+ex b u=ex s u+ex t u:=λ u=>by
  rw[<-XB ha hb,<-XB hs ht,e]
 obtain⟨u,h3,D⟩:=(To hs ha).1 h1
 rcases h2 with rfl|h2
 ·have:=y u;omega
 ·obtain⟨v,h5,z⟩:=(To ht hb).1 h2
  rcases vJ u v with g|g|g
  ·have:=y v;have:=D v g;omega
  ·subst g;have:=y u;omega
  ·have:=y u;have:=z u g;omega
theorem Ad{s t:Int×Z7}{A B:PZ}(hA:canP (s :: A))(hB:canP (t :: B)):cf (mulL (s :: A) (t :: B)) (ZE s.2 t.2)=s.1*t.1:=by
 have I:=(hA.1 s (by simp)).2;have y:=(hB.1 t (by simp)).2;rw[<-zou,z9q];simp only[ev]
 have X:ev (λ a=>t.1*dl (ZE s.2 t.2) (ZE a t.2)+ev (λ b=>dl (ZE s.2 t.2) (ZE a b)) B) A=0:=by
  refine Tw (λ a ha=>?_);have z:=(hA.1 a (by simp[ha])).2;have J:=hA.head a ha;have O:dl (ZE s.2 t.2) (ZE a.2 t.2)=0:=if_neg (OS I z y y J (.inl rfl));have K:ev (λ b=>dl (ZE s.2 t.2) (ZE a.2 b)) B=0:=Tw (λ b hb=>if_neg (OS I z y (hB.1 b (by simp[hb])).2 J (.inr (hB.head b hb))));rw[O,K];simp
 have U:ev (λ b=>dl (ZE s.2 t.2) (ZE s.2 b)) B=0:=by
  refine Tw (λ b hb=>if_neg (λ e=>?_));have D:=(hB.1 b (by simp[hb])).2;obtain⟨u,h3,h4⟩:=(To y D).1 (hB.head b hb);have:=XB I D u;rw[e,XB I y]at this;omega
 rw[X,U,show dl (ZE s.2 t.2) (ZE s.2 t.2)=1 from if_pos rfl];simp
theorem Pd{A B D:PZ}(hA:canP A)(hB:canP B)(hA0:A≠[])(hB0:B≠[])(h:Eqv D (mulL A B)):D≠[]:=by
 rintro rfl
 cases A with
 |nil=>exact hA0 rfl
 |cons s A=>
  cases B with
  |nil=>exact hB0 rfl
  |cons t B=>
   have y:=h.cf (ZE s.2 t.2);rw[Ad hA hB]at y;exact wB (hA.1 s (by simp)).1 (hB.1 t (by simp)).1 y.symm
theorem z8e(f:Z7->Int)(p:PZ)(v e:Int):ev f (YM p v e)=ev (λ m=>if ex m v=e then f (Y3 m v) else 0) p:=by
 unfold YM
 rw[Hn f (WB v e) (λ m=>decide (ex m v=e)) (λ _=>1) (λ m=>Y3 m v) (λ t=>by
  unfold WB
  by_cases h:ex t.2 v=e
  ·rw[if_pos h,decide_eq_true h,if_pos rfl,Int.mul_one]
  ·rw[if_neg h,decide_eq_false h,if_neg (by simp)])]
 refine Te (λ t _=>?_)
 by_cases h:ex t.2 v=e
 ·rw[decide_eq_true h,if_pos rfl,if_pos h,Int.one_mul]
 ·rw[decide_eq_false h,if_neg (by simp),if_neg h]
theorem Ni{p q:PZ}(h:Eqv p q)(v e:Int):Eqv (YM p v e) (YM q v e):=λ f=>by rw[z8e,z8e,h]
theorem Ak{a b:Z7}(ha:Z3 a=true)(hb:Z3 b=true)(hab:Z3 (ZE a b)=true)(v:Int):Y3 (ZE a b) v=ZE (Y3 a v) (Y3 b v):=by
 have z:=U0 ha v;have y:=U0 hb v
 have D:Z3 (ZE (Y3 a v) (Y3 b v))=true:=Aq (TY (TK z) (TK y)) hab (λ u=>by
  rw[XB z y,XB ha hb,z24,z24];have:=Ve ha u;have:=Ve hb u
  split<;>omega)
 refine NY (U0 hab v) D (λ u=>?_);rw[z24,XB ha hb,XB z y,z24,z24]
 split<;>omega
theorem BS{p:PZ}(h:ZD p)(h0:p≠[])(v:Int):∃t∈p,ex t.2 v=degP p v:=by
 rcases wX 0 (degP p v) with g|g
 ·exact J5 g
 ·cases p with
  |nil=>exact absurd rfl h0
  |cons t r=>
   have h1:=WZ (p:=t :: r) (t:=t) (by simp) v;have h2:=Ve (h t (by simp)) v;have h3:=(XW h v).1;exact⟨t,by simp,by omega⟩
theorem RV{p:PZ}(h:ZD p)(h0:p≠[])(v:Int):YM p v (degP p v)≠[]:=by
 obtain⟨t,ht,e⟩:=BS h h0 v;have:(t.1,Y3 t.2 v)∈YM p v (degP p v):=wD.2 ⟨t,ht,by unfold WB;rw[if_pos e]⟩;intro e2;rw[e2]at this;simp at this
section
variable {P Q C:PZ}
theorem Ss(hP:canP P)(hQ:canP Q)(h:ZI P Q=some C)(v:Int):Eqv (YM C v (degP P v+degP Q v)) (mulL (YM P v (degP P v)) (YM Q v (degP Q v))):=by
 obtain⟨D,rfl⟩:=Vb hP.may hQ.may h;refine(Ni (UX D) v _).trans (λ f=>?_);rw[z8e,z9q,z9q,z8e];refine Te (λ a ha=>?_);have ha1:=WZ ha v
 by_cases J:ex a.2 v=degP P v
 ·rw[if_pos J,z8e];refine Te (λ b hb=>?_);have z:=WZ hb v;have y:=D _ (A8 ha hb);rw[XB (hP.1 a ha).2 (hQ.1 b hb).2]
  by_cases I:ex b.2 v=degP Q v
  ·rw[if_pos I,if_pos (by omega),Ak (hP.1 a ha).2 (hQ.1 b hb).2 y]
  ·rw[if_neg I,if_neg (by omega)]
 ·rw[if_neg J];refine Tw (λ b hb=>?_);have z:=WZ hb v;rw[XB (hP.1 a ha).2 (hQ.1 b hb).2,if_neg (by omega)]
theorem WP(hP:canP P)(hQ:canP Q)(h:ZI P Q=some C):canP C:=by
 obtain⟨hm,rfl⟩:=Vb hP.may hQ.may h;exact WQ hm
theorem R5(hP:canP P)(hQ:canP Q)(h:ZI P Q=some C){t:Int×Z7}(ht:t∈C):∃a∈P,∃b∈Q,∀u,ex t.2 u=ex a.2 u+ex b.2 u:=by
 obtain⟨hm,rfl⟩:=Vb hP.may hQ.may h;obtain⟨x,hx,e⟩:=Tg hm ht;obtain⟨a,ha,b,hb,rfl⟩:=UJ hx;exact⟨a,ha,b,hb,λ u=>by rw[<-e];exact XB (hP.1 a ha).2 (hQ.1 b hb).2 u⟩
theorem Q7(hP:canP P)(hQ:canP Q)(hP0:P≠[])(hQ0:Q≠[])(h:ZI P Q=some C)(v:Int):degP C v=degP P v+degP Q v:=by
 have h1:=(XW hP.may v).1;have h2:=(XW hQ.may v).1
 refine vV (UM (by omega) (λ t y=>?_)) ?_
 ·obtain⟨a,I,b,hb,e⟩:=R5 hP hQ h y;have:=WZ I v;have:=WZ hb v;rw[e];omega
 ·have z:=Pd (XA hP v _) (XA hQ v _) (RV hP.may hP0 v) (RV hQ.may hQ0 v) (Ss hP hQ h v);obtain⟨t,y⟩:=List.exists_mem_of_ne_nil _ z;obtain⟨u,D,e,-⟩:=Uc y;rw[<-e];exact WZ D v
theorem G2(hP:canP P)(hQ:canP Q)(hP0:P≠[])(hQ0:Q≠[])(h:ZI P Q=some C):C≠[]:=by
 obtain⟨hm,rfl⟩:=Vb hP.may hQ.may h;exact Pd hP hQ hP0 hQ0 (UX hm)
def zV(p q:PZ):Prop:=∀t∈p,∃u∈q,∀v,ex t.2 v<=ex u.2 v
end
end
section
theorem Ro{α:Type}{xs ys:List α}{k:Nat}{x:α}(h:xs.take k=ys.take k)(hx:xs[k]? = some x)(hy:ys[k]? = some x):xs.take (k+1)=ys.take (k+1):=by
 rw[zv,zv,h,hx,hy]
theorem So{α:Type}{xs ys:List α}{k:Nat}{x y:α}(hx:xs[k]? = some x)(hy:ys[k]? = some y)(h:x≠y):xs≠ys:=by
 rintro rfl;rw[hx]at hy;exact h (Option.some.inj hy)
end
section
open Go.RowKit
end
section
open Go.RowKit
def Fit(k n:Nat)(p:PZ):Prop:=canP p/\bndZ k p/\p.length<=n
abbrev PV(W:World)(v:Value)(p:PZ):Prop:=z06 (Z2 W) W v (Z5 p)
section
variable {k l n m:Nat} {p q:PZ}
theorem Fit.can(h:Fit k n p):canP p:=h.1
theorem Fit.mono(h:Fit k n p)(hk:k<=l)(hn:n<=m):Fit l m p:=⟨h.1,h.2.1.mono hk,zT h.2.2 hn⟩
theorem Fit.lens(h:Fit k n p):∀t∈Z5 p,t.c.mag.length<=k:=Aj h.2.1
theorem Fit.small(h:Fit k n p)(hk:k<=1000000):Yk (Z5 p):=EI h.2.1 (by omega)
theorem Fit.may(h:Fit k n p):ZR (Z5 p)=true:=Xc h.1
theorem Fit.plain(h:Fit k n p):Zt (Z5 p)=p:=Tl h.1
theorem Fit.len(h:Fit k n p):(Z5 p).length<=n:=by rw[z5w];exact h.2.2
theorem VU:Fit 0 0 []:=⟨z3a,λ t ht=>by simp at ht,by simp⟩
theorem OW{α β:Type}(f:α->Option β)(l:List α):(l.filterMap f).length<=l.length:=List.length_filterMap_le _ _
theorem Fit.init(h:Fit k n p):Fit k n (Y_ p):=⟨Iz h.1,B5 h.2.1,by
 unfold Y_
 split
 ·exact h.2.2
 ·exact zT (OW _ _) h.2.2⟩
theorem Fit.coef(h:Fit k n p)(v e:Int):Fit k n (YM p v e):=⟨XA h.1 v e,NG h.2.1 v e,zT (OW _ _) h.2.2⟩
theorem A9(p l:PZ):(addP p l).length<=p.length+l.length:=by
 unfold addP
 induction l generalizing p with
 |nil=>simp
 |cons t r ih=>
  rw[wJ];have h1:=ih (putP p t.1 t.2);have h2:=Ma p t.1 t.2;simp only[zM];omega
theorem Lu(p:PZ):(Zr p).length<=p.length:=by
 have:=A9 [] p;rw[zo,zr]at this;exact this
theorem VS(hp:ZD p)(hq:ZD q):ZD (p++q):=λ t ht=>by
 rcases zC.1 ht with g|g
 ·exact hp t g
 ·exact hq t g
theorem Fit.add(hp:Fit k n p)(hq:Fit k m q)(hn:n+m<=1000000000000):Fit (k+2) (n+m) (Zr (p++q)):=by
 have y:=VS hp.1.may hq.1.may;have z:(p++q).length<=n+m:=by rw[zI];have:=hp.2.2;have:=hq.2.2;omega
 exact⟨WQ y,Mf y (hp.2.1.append hq.2.1) (by show _<4294967296^2;omega),zT (Lu _) z⟩
theorem Iv(p q:PZ):(mulL p q).length=p.length*q.length:=by
 unfold mulL
 induction p with
 |nil=>simp
 |cons t r ih=>rw[xT,zI,ih,zE,zM,y8];omega
theorem Bh(hp:bndZ k p)(hq:bndZ l q):bndZ (k+l) (mulL p q):=λ x hx=>by
 obtain⟨t,ht,u,hu,rfl⟩:=UJ hx;exact WW (QF (Xm (hp t ht)) (Xm (hq u hu))) (zR _)
theorem Fit.times{c:PZ}(hp:Fit k n p)(hq:Fit l m q)(h:ZI p q=some c)(hn:n*m<=1000000000000):Fit (k+l+2) (n*m) c:=by
 obtain⟨y,rfl⟩:=Vb hp.1.may hq.1.may h;have z:(mulL p q).length<=n*m:=by rw[Iv];exact yR hp.2.2 hq.2.2
 exact⟨WQ y,Mf y (Bh hp.2.1 hq.2.1) (by show _<4294967296^2;omega),zT (Lu _) z⟩
end
theorem Oj{w:World}{v:Value}{ps:List RTerm}(h:z06 (Z2 w) w v ps)(hm:ZR ps=true):ps=Z5 (Zt ps):=by
 unfold Zt;rw[if_pos hm];exact(EM h.okT hm).symm
theorem Kf{ps:List RTerm}{k n:Nat}(hok:okT ps)(h:∀t∈ps,t.c.mag.length<=k)(hn:ps.length<=n):Fit k n (Zt ps):=⟨UL ps,DG hok h,zT (FR ps) hn⟩
section
variable {W:World} {u v:Value} {p q:PZ} {k l n m:Nat}
theorem R8(hp:PV W u p)(hq:PV W v q)(fp:Fit k n p)(fq:Fit l m q)(hc:k<24∨l<24)(hk:k<=1000000)(hl:l<=1000000)(hnm:n*m<=1000000000000) :
  Calls Tryz.prog 143 #[u,v] W (VL W (ZI p q)):=by
 have h:=Ip u v _ _ W 1000000 hp hq (λ _ h=>h) fp.may fq.may (λ t ht=>zT (fp.lens t ht) hk) (λ t ht=>zT (fq.lens t ht) hl) (by decide)
  (hc.imp (λ h t ht=>by
   obtain⟨x,y,rfl⟩:=zG.1 ht;show ZX (Z6 (Z8 x.1))<24;rw[z09]
   exact zh (Xm (fp.2.1 x y)) h) (λ h t ht=>by
   obtain⟨x,y,rfl⟩:=zG.1 ht;show ZX (Z6 (Z8 x.1))<24;rw[z09]
   exact zh (Xm (fq.2.1 x y)) h))
  (zT (yR fp.len fq.len) hnm)
 rwa [z53,z53]at h
theorem TJ(hp:PV W u p)(hq:PV W v q)(fp:Fit k n p)(fq:Fit l m q)(hk:k<=1000000)(hl:l<=1000000)(hn:n+m<=1000000000000) :
  Calls Tryz.prog 84 #[u,v] W (Wg W (Zr (p++q))):=by
 have h:=Hy u v _ _ W 1000000 hp hq (λ _ h=>h) fp.may fq.may (λ t ht=>zT (fp.lens t ht) hk) (λ t ht=>zT (fq.lens t ht) hl) (by decide) (by have:=fp.len;have:=fq.len;omega)
 rwa [z53,z53]at h
theorem Lx(hp:PV W u p)(fp:Fit k n p)(hk:k<=1000000):Calls Tryz.prog 31 #[u] W λ e w'=>e=.returned (.int .i64 (ZL p))/\Ext W w':=by
 have h:=Th u _ W hp (λ _ h=>h) (fp.small hk)
 rwa [fp.plain]at h
theorem UI(hp:PV W u p)(fp:Fit k n p)(hk:k<=1000000){x:Int}(hx:Zv x):Calls Tryz.prog 41 #[u,.int .i64 x] W λ e w'=>e=.returned (.int .i64 (degP p x))/\Ext W w':=by
 have h:=N6 u _ x W hp (λ _ h=>h) (fp.small hk) hx
 rwa [fp.plain]at h
theorem Mu(hp:PV W u p)(fp:Fit k n p)(hk:k<=1000000)(hn:n<=1000000000000):Calls Tryz.prog 119 #[u] W λ e w'=>∃v',e=.returned v'/\z06 (New W w') w' v' (Z5 (Y_ p))/\Ext W w':=by
 have h:=Eb u _ W hp (λ _ h=>h) (fp.small hk) (zT fp.len hn)
 rwa [fp.plain]at h
theorem DD(hp:PV W u p)(fp:Fit k n p)(hk:k<=1000000)(hn:n<=1000000000000){x d:Int}(hx:1<=x/\x<=200)(hd:Zv d):Calls Tryz.prog 147 #[u,.int .i64 x,.int .i64 d] W λ e w'=>∃v',e=.returned v'/\z06 (New W w') w' v' (Z5 (YM p x d))/\Ext W w':=by
 have h:=Pf u _ x d W hp (λ _ h=>h) (fp.small hk) (zT fp.len hn) hx hd
 rwa [fp.plain]at h
theorem Um(hp:PV W u p)(fp:Fit k n p)(hk:k<=1000000):Calls Tryz.prog 30 #[u] W λ e w'=>e=.returned (.bool true)/\Ext W w':=by
 have h:=Wy u _ W hp (λ _ h=>h) (fp.small hk)
 rwa [fp.may]at h
end
end
section
def Zl(v:Int)(i:Nat):PZ:=if i=0 then [(1,[])] else [(1,[(v,(i:Int))])]
theorem Na(p:PZ)(c:Int)(m:Z7):mulL p [(c,m)]=p.map λ t=>(t.1*c,ZE t.2 m):=by
 unfold mulL
 induction p with
 |nil=>rfl
 |cons t r ih=>rw[xT,ih];rfl
theorem Ha{v:Int}(hv:1<=v/\v<=200){i:Nat}(hi:i<=10000):ZD (Zl v i):=by
 intro t ht;unfold Zl at ht
 split at ht
 ·rw[zQ.1 ht];rfl
 ·rw[zQ.1 ht];exact OA hv (by omega)
theorem Uf{v:Int}(hv:1<=v/\v<=200){i:Nat}(hi:i<=10000):canP (Zl v i):=by
 refine⟨λ t ht=>⟨?_,Ha hv hi t ht⟩,?_⟩
 ·unfold Zl at ht
  split at ht
  ·rw[zQ.1 ht];show(1:Int)≠0;decide
  ·rw[zQ.1 ht];show(1:Int)≠0;decide
 ·unfold Zl
  split<;>exact yP _ _
theorem E0{v:Int}(hv:1<=v/\v<=200){i:Nat}(hi:i<=10000):Fit 1 1 (Zl v i):=by
 refine⟨Uf hv hi,λ t ht=>?_,?_⟩
 ·unfold Zl at ht
  split at ht
  ·rw[zQ.1 ht];show(1:Int).natAbs<_;decide
  ·rw[zQ.1 ht];show(1:Int).natAbs<_;decide
 ·unfold Zl
  split<;>exact zR _
theorem El{m:Z7}(h:Z3 m=true){v:Int}(he:ex m v=0):Y3 m v=m:=by
 refine NY (U0 h v) h (λ u=>?_);rw[z24]
 by_cases hu:u=v
 ·subst hu;rw[if_pos rfl,he]
 ·rw[if_neg hu]
end
section
open Go.RowKit
end
section
def Zz(p:PZ)(v:Int):PZ:=YM p v (degP p v)
def Yb(r:PZ)(v d:Int):Option PZ:=ZI (Zz r v) (Zl v (degP r v-d).toNat)
def YA(keep:Bool)(g h:PZ)(v d:Int)(q r:PZ):Option (PZ×PZ) :=
 match Yb r v d with
 |none=>none
 |some t=>
  match ZI t g with
  |none=>none
  |some l=>
   match ZI h r with
   |none=>none
   |some m=>if keep then(match ZI h q with
     |none=>none
     |some u=>some (Zr (u++t),Zr (m++ZP l)))
    else some ([],Zr (m++ZP l))
def z1o(o:Option Nat)(s:MSt):Int×MSt:=match o with
 |none=>(0,s)
 |some _=>s.step
def z1b(o:Option Nat)(s:MSt)(p:PZ):Int×MSt:=match o with
 |none=>(0,s)
 |some _=>s.keep (z22 (Z5 p) (Z5 p).length) (Z5 p).length
def W_(o:Option Nat)(s:MSt):MSt:=match o with
 |none=>s
 |some _=>s.refused 8
theorem RT{o:Option Nat}{s:MSt}{p:PZ}(h:(z1b o s p).1=0):(z1b o s p).2=s:=by
 unfold z1b at h⊢
 cases o with
 |none=>rfl
 |some b=>
  simp only[MSt.keep]at h⊢
  split
  ·rename_i h1;rw[if_pos h1]at h;simp at h
  ·rename_i h1
   rw[if_neg h1]at h
   split
   ·rename_i h2;rw[if_pos h2]at h;simp at h
   ·rfl
theorem N2{b:Nat}{s:MSt}{p:PZ}(h:(z1b (some b) s p).1=0):(z22 (Z5 p) (Z5 p).length:Int)<=s.li/\(p.length:Int)<=s.te:=by
 have e:(Z5 p).length=p.length:=z5w p;simp only[z1b,MSt.keep]at h
 split at h
 ·simp at h
 ·split at h
  ·simp at h
  ·rw[e]at *;omega
structure DRes where
 e:Int
 q:PZ
 r:PZ
 n:Nat
 s:MSt
def runD(o:Option Nat)(keep:Bool)(g h:PZ)(v d:Int):Nat->MSt->PZ->PZ->Nat->DRes
 |0,s,q,r,n=>⟨0,q,r,n,s⟩
 |k+1,s,q,r,n=>
  if r=[]∨degP r v<d then⟨0,q,r,n,s⟩ else
  if(z1o o s).1≠0 then⟨(z1o o s).1,[],[],0,(z1o o s).2⟩ else
  match YA keep g h v d q r with
  |none=>⟨8,[],[],0,W_ o (z1o o s).2⟩
  |some x=>
   if(z1b o (z1o o s).2 x.2).1≠0 then⟨(z1b o (z1o o s).2 x.2).1,[],[],0,(z1b o (z1o o s).2 x.2).2⟩ else
   if(z1b o (z1o o s).2 x.1).1≠0 then⟨(z1b o (z1o o s).2 x.1).1,[],[],0,(z1b o (z1o o s).2 x.1).2⟩ else
   runD o keep g h v d k (z1o o s).2 x.1 x.2 (n+1)
def z7q(o:Option Nat)(keep:Bool)(g h:PZ)(v d:Int)(B M:Nat):Nat->MSt->PZ->PZ->Prop
 |0,_,q,r=>Fit B M q/\Fit B M r
 |k+1,s,q,r=>Fit B M q/\Fit B M r/\(r≠[]->d<=degP r v->(z1o o s).1=0->∀x,YA keep g h v d q r=some x ->
   (z1b o (z1o o s).2 x.2).1=0->(z1b o (z1o o s).2 x.1).1=0->z7q o keep g h v d B M k (z1o o s).2 x.1 x.2)
theorem Uv{keep:Bool}{g h:PZ}{v d:Int}{q r:PZ}{x:PZ×PZ}(hs:YA keep g h v d q r=some x) :
  ∃t l m,Yb r v d=some t/\ZI t g=some l/\ZI h r=some m/\x.2=Zr (m++ZP l)/\(keep=false->x.1=[])/\(keep=true->∃u,ZI h q=some u/\x.1=Zr (u++t)):=by
 unfold YA at hs
 cases ht:Yb r v d with
 |none=>rw[ht]at hs;cases hs
 |some t=>
  rw[ht]at hs;simp only at hs
  cases hl:ZI t g with
  |none=>rw[hl]at hs;cases hs
  |some l=>
   rw[hl]at hs;simp only at hs
   cases hm:ZI h r with
   |none=>rw[hm]at hs;cases hs
   |some m=>
    rw[hm]at hs;simp only at hs;refine⟨t,l,m,rfl,hl,rfl,?_⟩
    cases keep with
    |false=>
     simp only[xP,if_false]at hs
     cases hs
     exact⟨rfl,λ _=>rfl,λ h=>(by cases h)⟩
    |true=>
     simp only[if_true]at hs
     cases hu:ZI h q with
     |none=>rw[hu]at hs;cases hs
     |some u=>
      rw[hu]at hs
      cases hs
      exact⟨rfl,λ h=>(by cases h),λ _=>⟨u,rfl,rfl⟩⟩
theorem VE{p:PZ}(h:canP p):canP (ZP p):=by
 refine⟨λ t ht=>?_,?_⟩
 ·obtain⟨u,hu,rfl⟩:=zG.1 ht;have:=(h.1 u hu).1;exact⟨by show -u.1≠0;omega,(h.1 u hu).2⟩
 ·unfold ZP;rw[xL];exact h.2
theorem y1d(f:Z7->Int)(p:PZ):ev f (ZP p) = - ev f p:=Rt f p
theorem Rb{p:PZ}{t:Int×Z7}(h:t∈ZP p):∃u∈p,u.2=t.2:=by
 obtain⟨u,hu,rfl⟩:=zG.1 h;exact⟨u,hu,rfl⟩
section
variable {g h q r t l m:PZ} {v d:Int}
theorem Sr{p:PZ}(_hp:canP p)(v e:Int):degP (YM p v e) v=0:=N0 (λ _ ht=>Tb ht)
theorem NJ{p:PZ}(hp:canP p){v:Int}(h0:∀t∈p,ex t.2 v=0):YM p v 0=p:=by
 have y:=hp.may;clear hp;unfold YM
 induction p with
 |nil=>rfl
 |cons t r ih=>
  have D:=ih (λ u hu=>h0 u (by simp[hu])) (λ u hu=>y u (by simp[hu]));have z:=h0 t (by simp);rw[yh,show WB v 0 t=some (t.1,Y3 t.2 v) from if_pos z,D,El (y t (by simp)) z]
theorem Oe{v:Int}(_hv:1<=v/\v<=200){i:Nat}(_hi:i<=10000):degP (Zl v i) v=(i:Int):=by
 unfold Zl
 split
 ·rename_i h0
  subst h0;exact N0 (λ t ht=>by rw[zQ.1 ht];rfl)
 ·refine vV (UM (by omega) (λ t ht=>by rw[zQ.1 ht,zez,if_pos rfl];exact yi _)) ?_;have:=WZ (p:=[(1,[(v,(i:Int))])]) (t:=(1,[(v,(i:Int))])) (by simp) v
  rwa [zez,if_pos rfl]at this
theorem Dh{v:Int}(_hv:1<=v/\v<=200){i:Nat}(_hi:i<=10000):YM (Zl v i) v (i:Int)=[(1,[])]:=by
 unfold Zl
 split
 ·rename_i h0
  subst h0;rfl
 ·unfold YM;rw[yh,show WB v (i:Int) (1,[(v,(i:Int))])=some (1,Y3 [(v,(i:Int))] v) from if_pos (by rw[zez,if_pos rfl])];rw[show Y3 [(v,(i:Int))] v=[] by unfold Y3;simp];rfl
theorem BK{p:PZ}(hp:VT p):mulL p [(1,[])]=p:=by
 rw[Na]
 induction p with
 |nil=>rfl
 |cons t r ih=>
  rw[ya,ih (λ u hu=>hp u (by simp[hu])),Pp (hp t (by simp)),Int.mul_one]
theorem zW(hr:canP r)(hr0:r≠[])(hv:1<=v/\v<=200)(hd:0<=d)(hdr:d<=degP r v)(ht:Yb r v d=some t) :
  canP t/\t≠[]/\degP t v=degP r v-d/\Eqv (YM t v (degP r v-d)) (Zz r v):=by
 have hrg:=XW hr.may v;obtain⟨i,hi⟩:∃i:Nat,i=(degP r v-d).toNat:=⟨_,rfl⟩
 have K:(i:Int)=degP r v-d:=by omega
 have y:i<=10000:=by omega
 unfold Yb at ht;rw[<-hi]at ht;have z:=XA hr v (degP r v);have J:=Uf hv y;have D:=RV hr.may hr0 v;have I:Zl v i≠[]:=by unfold Zl;split<;>simp
 have U:=Q7 z J D I ht v;rw[Sr hr,Oe hv y,wY]at U;refine⟨WP z J ht,G2 z J D I ht,by omega,?_⟩;have O:=Ss z J ht v;rw[Sr hr,Oe hv y,wY,Dh hv y,NJ z (λ _ h=>Tb h),BK (TM z.may)]at O;rw[<-K];exact O
theorem EG(hg:canP g)(hr:canP r)(hr0:r≠[])(hv:1<=v/\v<=200)(hd1:1<=degP g v)(hdr:degP g v<=degP r v)
  (ht:Yb r v (degP g v)=some t) (hl:ZI t g=some l) (hm:ZI (Zz g v) r=some m):canP (Zr (m++ZP l))/\degP (Zr (m++ZP l)) v<degP r v:=by
 obtain⟨U,t0,Z,et⟩:=zW hr hr0 hv (by omega) hdr ht;have K:g≠[]:=λ e=>by rw[e]at hd1;simp[degP]at hd1
 have J:=XA hg v (degP g v);have h0:=RV hg.may K v;have cl:=WP U hg hl;have cm:=WP J hr hm;have z:=VS cm.may (VE cl).may;have D:=WQ z;refine⟨D,Ms (by omega) (λ x hx=>?_)⟩
 have X:ex x.2 v<=degP r v:=by
  obtain⟨u,hu,e⟩:=Tg z hx;rw[<-e]
  rcases zC.1 hu with I|I
  ·have:=WZ I v;rw[Q7 J hr h0 hr0 hm v,Sr hg,wY]at this;exact this
  ·obtain⟨y,hy,O⟩:=Rb I;rw[<-O];have:=WZ hy v;rw[Q7 U hg t0 K hl v,Z]at this;omega
 rcases Int.lt_or_eq_of_le X with I|I
 ·exact I
 ·exfalso
  have e1:=Ss J hr hm v;have O:=Ss U hg hl v;rw[Sr hg,wY,NJ J (λ _ h=>Tb h)]at e1;rw[Z,show degP r v-degP g v+degP g v=degP r v by omega]at O
  have e3:Eqv (YM (Zr (m++ZP l)) v (degP r v)) []:=λ f=>by
   rw[(Ni (UX z) v _) f,z8e,z8d,y1d,<-z8e,<-z8e,e1,O,(Eqv.mul et (Eqv.refl _)) f,DV (TM J.may) (TM (XA hr v _).may)];show _=(0:Int);unfold Zz;omega
  have e4:=M7 (XA D v (degP r v)) z3a e3;have e5:(x.1,Y3 x.2 v)∈YM (Zr (m++ZP l)) v (degP r v):=wD.2 ⟨x,hx,if_pos I⟩;rw[e4]at e5;simp at e5
end
theorem LU{keep:Bool}{g q r:PZ}{v:Int}{x:PZ×PZ}(hg:canP g)(hr:canP r)(hr0:r≠[])(hv:1<=v/\v<=200)(hd1:1<=degP g v)(hdr:degP g v<=degP r v)(hs:YA keep g (Zz g v) v (degP g v) q r=some x) :
  canP x.2/\degP x.2 v<degP r v:=by
 obtain⟨t,l,m,ht,hl,hm,e,-,-⟩:=Uv hs;rw[e];exact EG hg hr hr0 hv hd1 hdr ht hl hm
end
section
def hpow(h:PZ):Nat->PZ
 |0=>[(1,[])]
 |n+1=>mulL (hpow h n) h
theorem z7k:canP [((1:Int),([]:Z7))]:=⟨λ t ht=>by rw[zQ.1 ht];exact⟨by decide,rfl⟩,yP _ _⟩
theorem RI{r t:PZ}{v d:Int}(hr:canP r)(hv:1<=v/\v<=200)(hd:0<=d)(ht:Yb r v d=some t):canP t:=by
 have hrg:=XW hr.may v;exact WP (XA hr v _) (Uf hv (by omega)) ht
section
variable {g h f q r:PZ} {v d:Int} {x:PZ×PZ}
theorem N5{keep:Bool}(hg:canP g)(hh:canP h)(hq:canP q)(hr:canP r)(hv:1<=v/\v<=200)(hd:0<=d)(hs:YA keep g h v d q r=some x):canP x.1/\canP x.2:=by
 obtain⟨t,l,m,Z,I,z,J,D,U⟩:=Uv hs;have y:=RI hr hv hd Z;have X:=WP y hg I;have O:=WP hh hr z;refine⟨?_,by rw[J];exact WQ (VS O.may (VE X).may)⟩
 cases keep with
 |false=>rw[D rfl];exact z3a
 |true=>
  obtain⟨u,K,e⟩:=U rfl;rw[e];exact WQ (VS (WP hh hq K).may y.may)
/-! Exponents -/
def exB(E:Int)(p:PZ):Prop:=∀t∈p,∀u,ex t.2 u<=E
end
section
variable {g h f q r p:PZ} {v d:Int} {x:PZ×PZ} {E G R:Int}
theorem exB.le(hp:exB E p)(h:E<=R):exB R p:=λ t ht u=>Int.le_trans (hp t ht u) h
theorem Pt(E:Int):exB E []:=λ t ht=>by simp at ht
theorem exB.deg(hp:exB E p)(hE:0<=E)(v:Int):degP p v<=E:=UM hE (λ t ht=>hp t ht v)
theorem exB.mul_may(hp:exB E p)(hq:exB G q)(mp:ZD p)(mq:ZD q)(hE:E+G<=10000):ZD (mulL p q):=λ t ht=>by
 obtain⟨a,ha,b,hb,rfl⟩:=UJ ht;refine(SJ (mp a ha) (mq b hb)).2 (λ u=>?_);have:=hp a ha u;have:=hq b hb u;omega
theorem exB.norm(hp:exB E p)(mp:ZD p):exB E (Zr p):=λ t ht u=>by
 obtain⟨y,hy,e⟩:=Tg mp ht;rw[<-e];exact hp y hy u
theorem exB.mul(hp:exB E p)(hq:exB G q)(mp:ZD p)(mq:ZD q):exB (E+G) (mulL p q):=λ t ht u=>by
 obtain⟨a,ha,b,hb,rfl⟩:=UJ ht;show ex (ZE a.2 b.2) u<=_;rw[XB (mp a ha) (mq b hb)];have:=hp a ha u;have:=hq b hb u;omega
theorem exB.append(hp:exB E p)(hq:exB E q):exB E (p++q):=λ t ht=>by
 rcases zC.1 ht with h|h
 ·exact hp t h
 ·exact hq t h
theorem exB.neg(hp:exB E p):exB E (ZP p):=λ t ht u=>by
 obtain⟨y,hy,e⟩:=Rb ht;rw[<-e];exact hp y hy u
theorem exB.coef(hp:exB E p)(hE:0<=E)(v e:Int):exB E (YM p v e):=λ t ht u=>by
 obtain⟨y,hy,-,rfl⟩:=Uc ht;show ex (Y3 y.2 v) u<=E;rw[z24]
 split
 ·exact hE
 ·exact hp y hy u
theorem exB.times(hp:exB E p)(hq:exB G q)(cp:canP p)(cq:canP q)(hE:E+G<=10000):∃c,ZI p q=some c/\canP c/\exB (E+G) c/\Eqv c (mulL p q)/\c=Zr (mulL p q):=by
 have hm:=hp.mul_may hq cp.may cq.may hE;exact⟨_,Tj cp.may cq.may hm,WQ hm,(hp.mul hq cp.may cq.may).norm hm,UX hm,rfl⟩
theorem DW(hr:canP r)(er:exB R r)(hR:0<=R)(hR2:R<=10000)(hv:1<=v/\v<=200)(hd:0<=d):∃t,Yb r v d=some t/\canP t/\exB R t:=by
 have hrg:=XW hr.may v;have hdr:=er.deg hR v;have J:=XA hr v (degP r v);have K:=Uf hv (i:=(degP r v-d).toNat) (by omega)
 have I:ZD (mulL (Zz r v) (Zl v (degP r v-d).toNat)):=λ t ht=>by
  obtain⟨a,z,b,hb,rfl⟩:=UJ ht;refine(SJ (J.1 a z).2 (K.1 b hb).2).2 (λ u=>?_);have U:=(er.coef hR v (degP r v)) a z u;unfold Zl at hb
  split at hb
  ·rw[zQ.1 hb];show ex a.2 u+ex [] u<=_;simp only[ex];omega
  ·rw[zQ.1 hb,zez]
   by_cases D:v=u
   ·subst D;rw[if_pos rfl,Tb z];omega
   ·rw[if_neg D];omega
 refine⟨_,Tj J.may K.may I,WQ I,λ t ht u=>?_⟩;obtain⟨y,O,e⟩:=Tg I ht;obtain⟨a,z,b,hb,rfl⟩:=UJ O;rw[<-e];show ex (ZE a.2 b.2) u<=R;rw[XB (J.1 a z).2 (K.1 b hb).2];have U:=(er.coef hR v (degP r v)) a z u;unfold Zl at hb
 split at hb
 ·rw[zQ.1 hb];show ex a.2 u+ex [] u<=_;simp only[ex];omega
 ·rw[zQ.1 hb,zez]
  by_cases D:v=u
  ·subst D;rw[if_pos rfl,Tb z];omega
  ·rw[if_neg D];omega
theorem Ft(keep:Bool)(hg:canP g)(hh:canP h)(hq:canP q)(hr:canP r)(eg:exB G g)(eh:exB G h)(eq:exB R q)(er:exB R r)(hG:0<=G)(hR:0<=R)(hRG:R+G<=10000)(hv:1<=v/\v<=200)(hd:0<=d) :
  ∃x,YA keep g h v d q r=some x/\exB (R+G) x.1/\exB (R+G) x.2:=by
 obtain⟨t,ht,D,z⟩:=DW hr er hR (by omega) hv hd;obtain⟨l,J,Z,el,-⟩:=z.times eg D hg (by omega);obtain⟨m,I,U,K,-⟩:=eh.times er hh hr (by omega);obtain⟨u,O,cu,X,-⟩:=eh.times eq hh hq (by omega);have y:exB (R+G) (Zr (m++ZP l)):=((K.le (by omega)).append el.neg).norm (VS U.may (VE Z).may);unfold YA;rw[ht];simp only;rw[J];simp only;rw[I];simp only
 cases keep with
 |false=>exact⟨_,rfl,Pt _,y⟩
 |true=>
  simp only[if_true];rw[O];exact⟨_,rfl,((X.le (by omega)).append (z.le (by omega))).norm (VS cu.may D.may),y⟩
/-! Sizes -/
theorem Fit.neg{k n:Nat}(h:Fit k n p):Fit k n (ZP p):=⟨VE h.1,λ t ht=>by
 obtain⟨u,hu,rfl⟩:=zG.1 ht;have:=h.2.1 u hu;show(-u.1).natAbs<_
 rwa [xv],by rw[V4];exact h.2.2⟩
theorem TA{t:PZ}{K L:Nat}(fr:Fit K L r)(hL:L<=1000000000000)(hv:1<=v/\v<=200)(hd:0<=d)(ht:Yb r v d=some t):Fit (K+3) L t:=by
 have hrg:=XW fr.can.may v;have h:=(fr.coef v (degP r v)).times (E0 hv (i:=(degP r v-d).toNat) (by omega)) ht (by omega);rw[wO]at h;exact h
theorem Jl{keep:Bool}{A T K L:Nat}(fg:Fit A T g)(fh:Fit A T h)(fq:Fit K L q)(fr:Fit K L r)(hT:1<=T)(hL:2*T*L<=1000000000000)(hv:1<=v/\v<=200)(hd:0<=d)(hs:YA keep g h v d q r=some x) :
  Fit (K+A+7) (2*T*L) x.1/\Fit (K+A+7) (2*T*L) x.2:=by
 obtain⟨t,l,m,I,J,X,e2,Z,O⟩:=Uv hs;have h1:L<=T*L:=yk L hT;have h2:2*T*L=T*L+T*L:=by rw[zu];omega
 have h3:L*T=T*L:=zq _ _;have y:=TA fr (by omega) hv hd I;have z:=y.times fg J (by omega);have U:=fh.times fr X (by omega);have f2:=(U.mono (l:=K+A+5) (m:=T*L) (by omega) (by omega)).add (z.neg.mono (l:=K+A+5) (m:=T*L) (by omega) (by omega)) (by omega);refine⟨?_,by rw[e2];exact f2.mono (by omega) (by omega)⟩
 cases keep with
 |false=>rw[Z rfl];exact VU.mono (by omega) (by omega)
 |true=>
  obtain⟨u,hu,e⟩:=O rfl;have D:=fh.times fq hu (by omega);rw[e];exact((D.mono (l:=K+A+5) (m:=T*L) (by omega) (by omega)).add (y.mono (l:=K+A+5) (m:=T*L) (by omega) (by omega)) (by omega)).mono (by omega) (by omega)
theorem AY{o:Option Nat}{keep:Bool}{A T B M:Nat}(fg:Fit A T g)(fh:Fit A T (Zz g v))(hT:1<=T)(hv:1<=v/\v<=200)(hd1:1<=degP g v)(hM:M<=1000000000000) :
  ∀(k j:Nat) (K L:Nat) (s:MSt) (q r:PZ),Fit K L q->Fit K L r->(r≠[]->degP r v<degP g v+(j:Int))->K+j*(A+7)<=B->L*(2*T)^j<=M->z7q o keep g (Zz g v) v (degP g v) B M k s q r:=by
 intro k
 induction k with
 |zero=>
  intro j K L s q r I z _ U D;have J:1<=(2*T)^j:=wn.2 (vS.1 (yK (by omega)));have y:L<=M:=zT (y9 L J) D;exact⟨I.mono (by omega) y,z.mono (by omega) y⟩
 |succ k ih=>
  intro j K L s q r I z hj U D;have J:1<=(2*T)^j:=wn.2 (vS.1 (yK (by omega)));have y:L<=M:=zT (y9 L J) D;refine⟨I.mono (by omega) y,z.mono (by omega) y,λ hr0 hdr _ x hs _ _=>?_⟩;have h1:=hj hr0;obtain⟨i,rfl⟩:∃i,j=i+1:=⟨j-1,by omega⟩
  have X:1<=(2*T)^i:=wn.2 (vS.1 (yK (by omega)));have O:L*(2*T)^(i+1)=2*T*L*(2*T)^i:=by rw[yY,zq ((2*T)^i),<-zu,zq L]
  have hb:2*T*L<=M:=zT (y9 _ X) (O ▸ D);obtain⟨Z,f2⟩:=Jl fg fh I z hT (by omega) hv (by omega) hs;have hdg:=(LU fg.can z.can hr0 hv hd1 hdr hs).2;refine ih i _ _ _ _ _ Z f2 (λ _=>by omega) ?_ (by rw[<-O];exact D);rw[y8,yM]at U;omega
end
end
section
open Go.RowKit
section
variable {p q c:PZ} {k l n m:Nat}
end
section
variable {W:World} {u v:Value} {p q:PZ} {k l n m:Nat}
end
end
section
open Go.RowKit
def ZK(o:Option Nat):Value:=.pointer (o.map λ b=>⟨b,0,none⟩)
def MV(W:World)(o:Option Nat)(s:MSt):Prop:=∀b,o=some b->MeterAt W b s/\s.Ok
abbrev NB(o:Option Nat)(W:World):Nat->Prop:=λ k=>k<W.heap.size/\some k≠o
abbrev PM(o:Option Nat)(W:World)(v:Value)(p:PZ):Prop:=z06 (NB o W) W v (Z5 p)
abbrev PMN(N:Nat)(o:Option Nat)(W:World)(v:Value)(p:PZ):Prop:=z06 (λ k=>N<=k/\NB o W k) W v (Z5 p)
section
variable {o:Option Nat} {W W':World} {v:Value} {p:PZ} {s:MSt}
theorem N1(g:W.grownBy W' o):∀k,NB o W k->NB o W' k:=λ _ h=>⟨zU h.1 g.size,h.2⟩
theorem Qk(g:W.grownBy W' o):Kept (NB o W) W W':=λ k h=>g.block k h.1 h.2
theorem PM.pv(h:PM o W v p):PV W v p:=h.to (uN _ _) (λ _ h=>h.1)
theorem PMN.pm{N:Nat}(h:PMN N o W v p):PM o W v p:=h.to (uN _ _) (λ _ h=>h.2)
theorem PMN.pv{N:Nat}(h:PMN N o W v p):PV W v p:=h.to (uN _ _) (λ _ h=>h.2.1)
theorem PM.on(h:PM o W v p)(g:W.grownBy W' o):PM o W' v p:=h.to (Qk g) (N1 g)
theorem PMN.on{N:Nat}(h:PMN N o W v p)(g:W.grownBy W' o):PMN N o W' v p:=h.to (λ k hk=>Qk g k hk.2) (λ k hk=>⟨hk.1,N1 g k hk.2⟩)
theorem PMN.ext{N:Nat}(h:PMN N o W v p)(g:Ext W W'):PMN N o W' v p:=h.on (Y7 g o)
theorem PM.ext(h:PM o W v p)(g:Ext W W'):PM o W' v p:=h.on (Y7 g o)
theorem MV.block(h:MV W o s){b:Nat}(hb:o=some b):b<W.heap.size:=Zj (h b hb).1.c0
theorem QH{A:World}(h:∀b,o=some b->b<A.heap.size):∀k,New A W' k->NB o W' k:=λ k hk=>⟨hk.2,λ e=>by have:=h k e.symm;have:=hk.1;omega⟩
theorem MV.ext(h:MV W o s)(g:Ext W W'):MV W' o s:=λ b hb=>⟨(h b hb).1.kept g (h.block hb),(h b hb).2⟩
theorem MV.none(W:World)(s:MSt):MV W none s:=λ _ h=>by cases h
theorem TN{A B:World}{r:Option Nat}(g:A.grownBy B r)(h:∀b,o=some b->b<A.heap.size):∀b,o=some b->b<B.heap.size:=λ b hb=>zU (h b hb) g.size
theorem Sx{s:MSt}(h:s.Ok)(e n:Int):(s.refuse e n).Ok:=by
 unfold MSt.refuse
 split
 ·exact⟨h.f0,h.f1,h.l0,h.l1,h.t0,h.t1,h.p0,h.p1,h.s0,h.s1,h.c0,h.c1⟩
 ·exact h
theorem Bq{s:MSt}(h:s.Ok):s.step.2.Ok:=by
 unfold MSt.step
 split
 ·rename_i hlt
  exact⟨h.f0,h.f1,h.l0,h.l1,h.t0,h.t1,h.p0,h.p1,by show 0<=s.st+1;have:=h.s0;omega,by show s.st+1<=s.fu;omega,h.c0,h.c1⟩
 ·exact Sx h _ _
theorem AS{s:MSt}(h:s.Ok)(n len:Nat):(s.keep n len).2.Ok:=by
 unfold MSt.keep
 split
 ·exact Sx h _ _
 ·split
  ·exact Sx h _ _
  ·exact h
theorem H_{s:MSt}(h:s.Ok)(e:Int):(s.refused e).Ok:=by
 unfold MSt.refused
 split
 ·exact Sx h _ _
 ·exact h
def UO(W:World)(o:Option Nat)(r:Int)(s:MSt):Ending->World->Prop:=λ e W'=>e=.returned (.int .i64 r)/\MV W' o s/\W.grownBy W' o
theorem Kz(h:MV W o s):Calls Tryz.prog 172 #[ZK o] W (UO W o (z1o o s).1 (z1o o s).2):=by
 cases o with
 |none=>exact(E9 W).mono (by rintro e w' ⟨rfl,rfl⟩;exact⟨rfl,MV.none _ _,WY _ _⟩)
 |some b=>exact(Cn b s W (h b rfl).1 (h b rfl).2).mono (by rintro e w' ⟨rfl,k1,y⟩;exact⟨rfl,λ c hc=>by cases hc;exact⟨k1,Bq (h b rfl).2⟩,y⟩)
theorem PY(h:MV W o s)(hp:PM o W v p):Calls Tryz.prog 125 #[ZK o,v] W (UO W o (z1b o s p).1 (z1b o s p).2):=by
 cases o with
 |none=>exact(Gf v W).mono (by rintro e w' ⟨rfl,rfl⟩;exact⟨rfl,MV.none _ _,WY _ _⟩)
 |some b=>exact(JP b s v (Z5 p) W (h b rfl).1 hp (λ _ h=>h.1)).mono (by rintro e w' ⟨rfl,k1,y⟩;exact⟨rfl,λ c hc=>by cases hc;exact⟨k1,AS (h b rfl).2 _ _⟩,y⟩)
theorem Pi(h:MV W o s):Calls Tryz.prog 144 #[ZK o,.int .i64 8] W (UO W o 8 (W_ o s)):=by
 cases o with
 |none=>exact(Cs 8 W).mono (by rintro e w' ⟨rfl,rfl⟩;exact⟨rfl,MV.none _ _,WY _ _⟩)
 |some b=>exact(Kn b s 8 W (h b rfl).1).mono (by rintro e w' ⟨rfl,k1,y⟩;exact⟨rfl,λ c hc=>by cases hc;exact⟨k1,H_ (h b rfl).2 _⟩,y⟩)
/-! The document's -/
end
end
section
open Go.RowKit
theorem R4{w:World}{vm vo:Value}{t:RTerm}(h1:U32s (Z2 w) w vm t.c.mag)(h2:Pows (Z2 w) w vo t.m)(T:TypeId) :
  z06 (Z2 (w.alloc (.cells #[.bool t.c.neg,vm,vo] T))) (w.alloc (.cells #[.bool t.c.neg,vm,vo] T)) (.slice (some ⟨w.heap.size,0,none⟩) 1 1) [t]:=by
 have y:Ext w (w.alloc (.cells #[.bool t.c.neg,vm,vo] T)):=uO (uP w) _;refine⟨w.heap.size,0,⟨_,1,rfl,zR _,by decide,λ _=>rfl,λ _=>by show w.heap.size<(w.alloc _).heap.size;rw[z00];omega⟩,λ j u hj=>?_⟩;have z:=Zy hj;simp only[zM,zo]at z
 match j,hj with
 |0,hj=>
  obtain rfl:t=u:=by simpa using hj
  exact⟨vm,vo,ZJ _ _ _ rfl rfl,ZJ _ _ _ rfl rfl,ZJ _ _ _ rfl rfl,h1.to (uM y (λ _ h=>h)) (λ k h=>zU h y.size),h2.to (uM y (λ _ h=>h)) (λ k h=>zU h y.size)⟩
 |j+1,_=>omega
def ZO(c:Int)(m:Z7):PZ:=if c=0 then [] else [(c,m)]
theorem RF(c:Int)(m:Z7):Zr [(c,m)]=ZO c m:=by
 unfold ZO;show putP [] c m=_;rfl
theorem KF{c:Int}{m:Z7}(h:Z3 m=true):canP (ZO c m):=by
 unfold ZO
 split
 ·exact z3a
 ·rename_i h0
  exact⟨λ t ht=>by rw[zQ.1 ht];exact⟨h0,h⟩,yP _ _⟩
theorem Sn{c:Int}{m:Z7}{k:Nat}(h:Z3 m=true)(hk:ZX c<=k):Fit k 1 (ZO c m):=by
 refine⟨KF h,λ t ht=>?_,?_⟩
 ·unfold ZO at ht
  split at ht
  ·simp at ht
  ·rw[zQ.1 ht];exact WW hk (zR _)
 ·unfold ZO
  split<;>simp
theorem LM{W:World}{u vc vm:Value}{p:PZ}{c:Int}{m:Z7}{k n l:Nat}(hp:PV W u p)(hc:IntV (Z2 W) W vc (Z8 c))(hm:Pows (Z2 W) W vm m)(fp:Fit k n p)(hmm:Z3 m=true)(hcl:ZX c<=l)(h24:k<24∨l<24)(hk:k<=1000000)(hl:l<=1000000)(hn:n<=1000000000000) :
  Calls Tryz.prog 122 #[u,vc,vm] W (VL W (ZI p (ZO c m))):=by
 have hnot:∀(x:Bool) (w:World),(Op.unary .not (.bool x)).run Tryz.prog w=.ok (.bool (!x)) w:=λ _ _=>rfl;obtain⟨vz,rfl,hz⟩:=hc;have HP:=Z_ hp;have HZ:=Z_ hz;have HM:=Z_ hm;have CM:=λ(Y:World) (hY:Ext W Y)=>XG (S:=Z2 W) vm m Y (hm.ext hY (λ _ h=>h)) (λ k h=>zU h hY.size);simp only[hmm]at CM;have U:=Z_ CM;have f1:=Sn (m:=m) hmm hcl
 have CC:=Z_ (λ(Y:World) (hY:Ext W Y)=>U5 (S:=Z2 (Y.alloc (.cells #[.bool (Z8 c).neg,vz,vm] 54))) (.slice (some ⟨Y.heap.size,0,none⟩) 1 1) [⟨Z8 c,m⟩] (Y.alloc (.cells #[.bool (Z8 c).neg,vz,vm] 54)) 1000000
  (R4 (t:=⟨Z8 c,m⟩) ((hz.ext hY (λ _ h=>h)).to (uN _ _) (λ k h=>zU h hY.size)) ((hm.ext hY (λ _ h=>h)).to (uN _ _) (λ k h=>zU h hY.size)) 54) (λ _ h=>h) (λ t ht=>by rw[zQ.1 ht];exact hmm) (λ t ht=>by rw[zQ.1 ht];show(Z8 c).mag.length<=_;rw[z54];omega) (by decide) (by simp))
 have e1:toP [⟨Z8 c,m⟩]=[(c,m)]:=by unfold toP;simp[z09]
 simp only[e1,RF]at CC;have CT:=Z_ (λ(Y:World) (u2:Value) (hY:Ext W Y) (hu:PV Y u2 (ZO c m))=>R8 (hp.on hY) hu fp f1 h24 hk hl (by omega));obtain⟨ap,cp,rfl⟩:=hp.form;obtain⟨az,cz,rfl⟩:=hz.form;obtain⟨am,cm,rfl⟩:=hm.form;obtain⟨np,K⟩:∃n,n=(Z5 p).length:=⟨_,rfl⟩
 obtain⟨nz,ac⟩:∃n,n=(Z8 c).mag.length:=⟨_,rfl⟩
 obtain⟨nm,X⟩:∃n,n=m.length:=⟨_,rfl⟩
 obtain⟨ng,aa⟩:∃n,n=(Z8 c).neg:=⟨_,rfl⟩
 rw[<-K]at CT⊢;rw[<-ac,<-aa]at CC⊢;rw[<-X]at CC U⊢;generalize ZI p (ZO c m)=o at *;have HK:=Z_ (uO (uP W) (.cells #[.bool ng,.slice az nz cz] 28));clear hp hz hm CM hmm hcl f1 e1 K ac X aa
 go_enter Tryz.func122,Tryz.ntmps122
 go_wp2_with fail;(with_reducible refine(U.o _ HK.o).mono ?_);rintro e w1 ⟨rfl,D⟩;have k0:=D.new_cell (i:=0) rfl;have k1:=D.new_cell (i:=1) rfl;have Z:=Z_ (HK.o.trans D);clear D;go_wp2_with fail;(with_reducible refine(CC.o _ Z.o).mono ?_);rintro e w2 ⟨v2,rfl,I,O⟩;have z:=Z_ ((Z.o.alloc _).trans O);have ae:=Z_ (CT.o w2 v2 z.o (I.to (uN _ _) uK));obtain⟨a2,c2,rfl⟩:=I.form;clear I O k0 k1;go_wp2_with fail;(with_reducible refine ae.o.mono ?_);intro e w3 h3
 cases o with
 |none=>
  obtain⟨rfl,y⟩:=h3;have J:=Z_ (z.o.trans y);clear y;go_wp2
  all_goals
   go_ret2;exact⟨rfl,J.o⟩
 |some x=>
  obtain⟨v3,rfl,ad,y⟩:=h3;have J:=Z_ (z.o.trans y);have af:=Z_ (ad.to (S':=New W w3) (uN _ _) (λ k h=>⟨zT z.o.size h.1,h.2⟩));clear ad y;go_wp2
  all_goals
   go_ret2;exact⟨_,rfl,af.o,J.o⟩
end
section
open Go.RowKit
section
variable {W:World} {u v:Value} {p q:PZ} {k l n m:Nat}
theorem Mh(hp:PV W u p)(fp:Fit k n p)(hk:k<=1000000)(hn:n<=1000000000000){x:Int}(hx:1<=x/\x<=200) :
  Calls Tryz.prog 171 #[u,.int .i64 x] W λ e w'=>∃v',e=.returned v'/\z06 (New W w') w' v' (Z5 (Zz p x))/\Ext W w':=by
 have HX0:=Z_ (uP W);have X:=Z_ (UI hp fp hk (x:=x) (by unfold Zv;omega));have hr:=XW fp.can.may x;have Z:=Z_ (λ(Y:World) (hY:Ext W Y)=>DD (z06.on hp hY) fp hk hn hx (d:=degP p x) (by unfold Zv;omega));obtain⟨a,c,rfl⟩:=hp.form;obtain⟨np,z⟩:∃n,n=(Z5 p).length:=⟨_,rfl⟩
 rw[<-z]at X Z⊢;clear hp fp z
 go_enter Tryz.func171,Tryz.ntmps171
 go_wp2_with fail;(with_reducible refine X.o.mono ?_);rintro e w1 ⟨rfl,y⟩;have J:=Z_ y;have O:=Z_ (Z.o w1 y);clear y;go_wp2_with fail;(with_reducible refine O.o.mono ?_);rintro e w2 ⟨v2,rfl,D,I⟩;have U:=Z_ (J.o.trans I);have K:=Z_ (D.to (S':=New W w2) (uN _ _) (λ k h=>⟨zT J.o.size h.1,h.2⟩));clear D I;go_wp2
 all_goals
  go_ret;exact⟨_,rfl,K.o,U.o⟩
def X3(x:Int)(i:Nat):Z7:=if i=0 then [] else [(x,(i:Int))]
theorem Ff(x:Int)(i:Nat):ZO 1 (X3 x i)=Zl x i:=by
 unfold ZO X3 Zl;rw[if_neg (by decide)]
 split<;>rfl
theorem Cw{x:Int}{i:Nat}(hx:1<=x/\x<=200)(hi:i<=10000):Z3 (X3 x i)=true:=by
 unfold X3
 split
 ·rfl
 ·exact OA hx (by omega)
theorem BQ{x:Int}{i:Nat}(hx:1<=x/\x<=200)(hi:i<=10000) :
  Calls Tryz.prog 188 #[.int .i64 x,.int .i64 (i:Nat)] W λ e w'=>∃v',e=.returned v'/\Pows (New W w') w' v' (X3 x i)/\Ext W w':=by
 unfold X3
 by_cases I:i=0
 ·subst I
  go_enter Tryz.func188,Tryz.ntmps188
  go_wp2
  all_goals
   go_ret;exact⟨_,rfl,uB _ _ _,uP _⟩
 ·rw[if_neg I];have q0:((i:Int) == 0)=false:=by rw[beq_eq_false_iff_ne];omega
  have D:=Z_ (show Zv x/\Zv (i:Int) from⟨by unfold Zv;omega,by unfold Zv;omega⟩);clear hx hi
  go_enter Tryz.func188,Tryz.ntmps188
  go_wp2
  all_goals
   go_ret;refine⟨_,rfl,⟨W.heap.size,0,⟨_,1,rfl,zR _,by decide,λ _=>rfl,λ _=>⟨zR _,by rw[z00];omega⟩⟩,λ j y hj=>?_⟩,uO (uP _) _⟩;have z:=Zy hj
   match j,hj with
   |0,hj=>
    obtain rfl:(x,(i:Int))=y:=by simpa using hj
    exact⟨⟨D.o.1,D.o.2⟩,ZJ _ _ _ rfl rfl,ZJ _ _ _ rfl rfl⟩
   |j+1,_=>simp only[zM,zo]at z;omega
theorem BR{p:PZ}(cp:canP p):ZI p (ZO (-1) [])=some (ZP p):=by
 have e:ZO (-1) []=[((-1:Int),([]:Z7))]:=rfl;rw[e]
 have y:mulL p [((-1:Int),([]:Z7))]=ZP p:=by
  rw[Na];unfold ZP;refine List.map_congr_left (λ t ht=>?_);rw[Pp (TK (cp.1 t ht).2),Int.mul_neg_one]
 have z:=Tj cp.may (q:=[((-1:Int),([]:Z7))]) (λ t ht=>by rw[zQ.1 ht];rfl) (by rw[y];exact(VE cp).may);rw[z,y,Sk (VE cp)]
theorem Mt(hp:PV W u p)(fp:Fit k n p)(hk:k<=1000000)(hn:n<=1000000000000):Calls Tryz.prog 83 #[u] W (Wg W (ZP p)):=by
 have C1:=Z_ (VM (-1) W (by decide));have X:=Z_ (λ(Y:World) (vz:Value) (hY:Ext W Y) (U:IntV (Z2 Y) Y vz (Z8 (-1)))=>LM (c:=-1) (m:=[]) (l:=1) (z06.on hp hY) U (uB (Z2 Y) Y none) fp rfl (by decide) (.inr (by decide)) hk (by decide) hn);simp only[BR fp.can]at X;unfold VL Wg at X;obtain⟨a,c,rfl⟩:=hp.form;obtain⟨np,z⟩:∃n,n=(Z5 p).length:=⟨_,rfl⟩
 rw[<-z]at X⊢;unfold Wg;clear hp fp z
 go_enter Tryz.func83,Tryz.ntmps83
 go_wp2_with fail;(with_reducible refine C1.o.mono ?_);rintro e w1 ⟨v1,rfl,⟨vz,rfl,U⟩,y⟩;have J:=Z_ y;have C3:=Z_ (X.o w1 (.agg #[.bool (Z8 (-1)).neg,vz]) y ⟨vz,rfl,U.to (uN _ _) uK⟩);obtain⟨az,cz,rfl⟩:=U.form;obtain⟨nz,O⟩:∃n,n=(Z8 (-1)).mag.length:=⟨_,rfl⟩
 obtain⟨ng,K⟩:∃n,n=(Z8 (-1)).neg:=⟨_,rfl⟩
 rw[<-O,<-K]at C3⊢;clear U y O K;go_wp2_with fail;(with_reducible refine C3.o.mono ?_);rintro e w2 ⟨v2,rfl,D,I⟩;have aa:=Z_ (J.o.trans I);have Z:=Z_ (D.to (S':=New W w2) (uN _ _) (λ k h=>⟨zT J.o.size h.1,h.2⟩));clear D I;go_wp2
 all_goals
  go_ret2;exact⟨_,rfl,Z.o,aa.o⟩
end
end
section
open Go.RowKit
structure DivAt (W:World) (bd:Nat) (vm:Value) (v d:Int) (vg vh vq vr:Value) (n:Int) (keep:Bool):Prop where
 c0:W.cell? ⟨bd,0,none⟩=some vm
 c1:W.cell? ⟨bd,1,none⟩=some (.int .i64 v)
 c2:W.cell? ⟨bd,2,none⟩=some (.int .i64 d)
 c3:W.cell? ⟨bd,3,none⟩=some vg
 c4:W.cell? ⟨bd,4,none⟩=some vh
 c5:W.cell? ⟨bd,5,none⟩=some vq
 c6:W.cell? ⟨bd,6,none⟩=some vr
 c7:W.cell? ⟨bd,7,none⟩=some (.int .i64 n)
 c8:W.cell? ⟨bd,8,none⟩=some (.bool keep)
 fz:∀i,W.frozen? ⟨bd,i,none⟩=false
section
variable {W W':World} {bd:Nat} {vm vg vh vq vr:Value} {v d n:Int} {keep:Bool}
theorem DivAt.same(h:DivAt W bd vm v d vg vh vq vr n keep)(e:W'.heap[bd]? = W.heap[bd]?):DivAt W' bd vm v d vg vh vq vr n keep:=by
 have y:∀i,W'.cell? ⟨bd,i,none⟩=W.cell? ⟨bd,i,none⟩:=λ i=>World.cell?_of_block e;exact⟨(y _).trans h.c0,(y _).trans h.c1,(y _).trans h.c2,(y _).trans h.c3,(y _).trans h.c4,(y _).trans h.c5,(y _).trans h.c6,(y _).trans h.c7,(y _).trans h.c8,λ i=>(World.frozen?_of_block (w:=W) (a:=⟨bd,i,none⟩) e).trans (h.fz i)⟩
theorem DivAt.lt(h:DivAt W bd vm v d vg vh vq vr n keep):bd<W.heap.size:=Zj h.c0
theorem DivAt.ext(h:DivAt W bd vm v d vg vh vq vr n keep)(g:Ext W W'):DivAt W' bd vm v d vg vh vq vr n keep:=h.same (g.block bd h.lt)
end
theorem WF{W W':World}{a b c:Addr}{x y z:Value}(g:Ext W W')(ha:a.block<W.heap.size)(hb:b.block<W.heap.size)(hc:c.block<W.heap.size)(h:W.cell? a=some x/\W.cell? b=some y/\W.cell? c=some z):W'.cell? a=some x/\W'.cell? b=some y/\W'.cell? c=some z :=
 ⟨(Below.cell g ha).trans h.1,(Below.cell g hb).trans h.2.1,(Below.cell g hc).trans h.2.2⟩
theorem IntV.on{w W:World}{v:Value}{z:RInt}(h:IntV (Z2 w) w v z)(hx:Ext w W):IntV (Z2 W) W v z:=h.to (Kept.ext hx (λ _ h=>h)) (Vw hx)
abbrev uf:=@IntV.on
theorem Cl{W:World}{bd:Nat}{vm vg vh vq vr:Value}{v d n:Int}{keep:Bool}{r:PZ}{k m:Nat}(D:DivAt W bd vm v d vg vh vq vr n keep)(hr:PV W vr r)(fr:Fit k m r)(hk:k<=1000000)(hm:m<=1000000000000)(hv:1<=v/\v<=200)(hd:0<=d)(hdr:d<=degP r v) :
  Calls Tryz.prog 180 #[.pointer (some ⟨bd,0,none⟩)] W (VL W (Yb r v d)):=by
 have aN:=XW fr.can.may v;obtain⟨i,hi⟩:∃i:Nat,i=(degP r v-d).toNat:=⟨_,rfl⟩
 have aG:(i:Int)=degP r v-d:=by omega
 have ai:i<=10000:=by omega
 have fh:=fr.coef v (degP r v);have CH:=λ(Y:World) (hY:Ext W Y)=>Mh (W:=Y) (z06.on hr hY) fr hk hm hv;have CO:=λ(Y:World)=>VM 1 Y (by decide);have CD:=λ(Y:World) (hY:Ext W Y)=>UI (W:=Y) (z06.on hr hY) fr hk (x:=v) (by unfold Zv;omega);have CP:=λ(Y:World)=>BQ (W:=Y) hv ai;have CS:=λ(Y:World) (u z w:Value) (hu:PV Y u (Zz r v)) (hz:IntV (Z2 Y) Y z (Z8 1)) (hw:Pows (Z2 Y) Y w (X3 v i))=>LM (c:=1) (m:=X3 v i) (l:=1) hu hz hw fh (Cw hv ai) (by decide) (.inr (by decide)) hk (by decide) hm;simp only[Ff]at CS;have et:Yb r v d=ZI (Zz r v) (Zl v i):=by unfold Yb;rw[<-hi]
 rw[<-et]at CS;rw[aG]at CP;obtain⟨dr,ag⟩:∃x,x=degP r v:=⟨_,rfl⟩
 rw[<-ag]at CP CD aN hdr;generalize X3 v i=pm at CP CS;generalize Yb r v d=T at CS et⊢;generalize Zz r v=hp at CH CS;obtain⟨ar,cr,rfl⟩:=hr.form;obtain⟨nr,au⟩:∃n,n=(Z5 r).length:=⟨_,rfl⟩
 rw[<-au]at CH CD D;obtain⟨nh,aj⟩:∃n,n=(Z5 hp).length:=⟨_,rfl⟩
 obtain⟨np,aq⟩:∃n,n=pm.length:=⟨_,rfl⟩
 obtain⟨nz,aF⟩:∃n,n=(Z8 1).mag.length:=⟨_,rfl⟩
 obtain⟨ng,aB⟩:∃n,n=(Z8 1).neg:=⟨_,rfl⟩
 have af:=Z_ aj;have ad:=Z_ aq;have ac:=Z_ aF;have ae:=Z_ aB;have hb:=D.lt;have al:Hd (IntKind.i64.wrap (dr-d)=dr-d):=Z_ (IntWalk.i64_in _ (by omega));have Z:Hd (_/\_/\_):=Z_ (zS D.c1 (zS D.c2 D.c6));have X:=Z_ hb;have x0:Ext W W.drew:=(uP W).drew;have I:=Z_ x0;have SC:_/\_/\_:=WF x0 hb hb hb Z.o;have av:=Z_ CH;have aC:=Z_ CO;have aA:=Z_ CD;have ax:=Z_ CP;have ay:=Z_ CS;clear CH CO CD CP CS D hr fr fh et hi aG ai ag au aj aq aF aB hb x0
 cases T with
 |none=>
  go_enter Tryz.func180,Tryz.ntmps180
  go_wp2
  go_region_held3 (λ Y=>Y.cell? ⟨bd,1,none⟩=some (.int .i64 v)/\Y.cell? ⟨bd,2,none⟩=some (.int .i64 d)/\Y.cell? ⟨bd,6,none⟩=some (.slice ar nr cr)) (with_reducible exact SC)
   (first
    | (go_at_call 171;(with_reducible refine(av.o _ I.o).mono ?_);rintro e wh ⟨v1,rfl,J,y⟩;have I:=Z_ (I.o.trans y);have SC:_/\_/\_:=WF I.o X.o X.o X.o Z.o
       try have O:=Z_ (uh O.o y)
       try have U:=Z_ (uf U.o y)
       have K:=Z_ (J.to (S':=Z2 wh) (uN _ _) uK);obtain⟨ah,ch,rfl⟩:=J.form;rw[<-af.o]at K;rw[<-af.o];clear J y)
    | (go_at_call 38;(with_reducible refine(aC.o _).mono ?_);rintro e wo ⟨v1,rfl,⟨vz,rfl,aa⟩,y⟩;have I:=Z_ (I.o.trans y);have SC:_/\_/\_:=WF I.o X.o X.o X.o Z.o
       try have O:=Z_ (uh O.o y)
       try have K:=Z_ (z06.on K.o y)
       obtain⟨az,cz,rfl⟩:=aa.form
       have U:Hd (IntV (Z2 wo) wo (.agg #[.bool ng,.slice az nz cz]) (Z8 1)):=Z_ ⟨_,by rw[ae.o],by rw[ac.o];exact aa.to (uN _ _) uK⟩;rw[<-ac.o,<-ae.o];clear aa y)
    | (go_at_call 41;(with_reducible refine(aA.o _ I.o).mono ?_);rintro e wd ⟨rfl,y⟩;have I:=Z_ (I.o.trans y);have SC:_/\_/\_:=WF I.o X.o X.o X.o Z.o
       try have O:=Z_ (uh O.o y)
       try have U:=Z_ (uf U.o y)
       try have K:=Z_ (z06.on K.o y)
       clear y)
    | (go_at_call 188;rw[al.o];(with_reducible refine(ax.o _).mono ?_);rintro e wp ⟨v1,rfl,J,y⟩;have I:=Z_ (I.o.trans y);have SC:_/\_/\_:=WF I.o X.o X.o X.o Z.o
       try have U:=Z_ (uf U.o y)
       try have K:=Z_ (z06.on K.o y)
       have O:=Z_ (J.to (S':=Z2 wp) (uN _ _) uK);obtain⟨ap,cp,rfl⟩:=J.form;rw[<-ad.o]at O;rw[<-ad.o];clear J y)
    |(go_at_call 122;(with_reducible refine(ay.o _ _ _ _ K.o U.o O.o).mono ?_);rintro e ws ⟨rfl,y⟩;have I:=Z_ (I.o.trans y);have SC:_/\_/\_:=WF I.o X.o X.o X.o Z.o;clear y))
  all_goals
   go_wp2
   all_goals
    go_ret2;exact⟨rfl,I.o⟩
 |some t=>
  go_enter Tryz.func180,Tryz.ntmps180
  go_wp2
  go_region_held3 (λ Y=>Y.cell? ⟨bd,1,none⟩=some (.int .i64 v)/\Y.cell? ⟨bd,2,none⟩=some (.int .i64 d)/\Y.cell? ⟨bd,6,none⟩=some (.slice ar nr cr)) (with_reducible exact SC)
   (first
    | (go_at_call 171;(with_reducible refine(av.o _ I.o).mono ?_);rintro e wh ⟨v1,rfl,J,y⟩;have I:=Z_ (I.o.trans y);have SC:_/\_/\_:=WF I.o X.o X.o X.o Z.o
       try have O:=Z_ (uh O.o y)
       try have U:=Z_ (uf U.o y)
       have K:=Z_ (J.to (S':=Z2 wh) (uN _ _) uK);obtain⟨ah,ch,rfl⟩:=J.form;rw[<-af.o]at K;rw[<-af.o];clear J y)
    | (go_at_call 38;(with_reducible refine(aC.o _).mono ?_);rintro e wo ⟨v1,rfl,⟨vz,rfl,aa⟩,y⟩;have I:=Z_ (I.o.trans y);have SC:_/\_/\_:=WF I.o X.o X.o X.o Z.o
       try have O:=Z_ (uh O.o y)
       try have K:=Z_ (z06.on K.o y)
       obtain⟨az,cz,rfl⟩:=aa.form
       have U:Hd (IntV (Z2 wo) wo (.agg #[.bool ng,.slice az nz cz]) (Z8 1)):=Z_ ⟨_,by rw[ae.o],by rw[ac.o];exact aa.to (uN _ _) uK⟩;rw[<-ac.o,<-ae.o];clear aa y)
    | (go_at_call 41;(with_reducible refine(aA.o _ I.o).mono ?_);rintro e wd ⟨rfl,y⟩;have I:=Z_ (I.o.trans y);have SC:_/\_/\_:=WF I.o X.o X.o X.o Z.o
       try have O:=Z_ (uh O.o y)
       try have U:=Z_ (uf U.o y)
       try have K:=Z_ (z06.on K.o y)
       clear y)
    | (go_at_call 188;rw[al.o];(with_reducible refine(ax.o _).mono ?_);rintro e wp ⟨v1,rfl,J,y⟩;have I:=Z_ (I.o.trans y);have SC:_/\_/\_:=WF I.o X.o X.o X.o Z.o
       try have U:=Z_ (uf U.o y)
       try have K:=Z_ (z06.on K.o y)
       have O:=Z_ (J.to (S':=Z2 wp) (uN _ _) uK);obtain⟨ap,cp,rfl⟩:=J.form;rw[<-ad.o]at O;rw[<-ad.o];clear J y)
    |(go_at_call 122;(with_reducible refine(ay.o _ _ _ _ K.o U.o O.o).mono ?_);rintro e ws ⟨v1,rfl,J,y⟩;have aH:=Z_ (J.to (S':=New W ws) (uN _ _) (λ k h=>⟨zT I.o.size h.1,h.2⟩));have I:=Z_ (I.o.trans y);have SC:_/\_/\_:=WF I.o X.o X.o X.o Z.o;clear y J))
  all_goals
   go_wp2
   all_goals
    go_ret2;exact⟨_,rfl,aH.o,I.o⟩
end
section
open Go.RowKit
section
variable {W:World} {bd:Nat} {vm vg vh vq vr vp vo:Value} {v d n:Int} {keep:Bool} {h p q:PZ} {A B T M L l:Nat}
def Xt(h p q:PZ):Option PZ:=match ZI h p with
 |none=>none
 |some u=>some (Zr (u++q))
theorem L_(D:DivAt W bd vm v d vg vh vq vr n keep)(hh:PV W vh h)(hp:PV W vp p)(hq:PV W vo q)(fh:Fit A T h)(fp:Fit B M p)(fq:Fit l L q)(hA:A<24)(hB:B<=900000)(hl:l<=900000)(hTM:T*M+L<=1000000000000) :
  Calls Tryz.prog 181 #[.pointer (some ⟨bd,0,none⟩),vp,vo] W (VL W (Xt h p q)):=by
 have HX0:=Z_ (uP W);have I:=R8 hh hp fh fp (.inl hA) (by omega) (by omega) (by omega);have CA:=λ(Y:World) (w:Value) (u:PZ) (hu:ZI h p=some u) (hY:Ext W Y) (hw:PV Y w u)=>TJ hw (z06.on hq hY) (fh.times fp hu (by omega)) fq (by omega) (by omega) hTM;obtain⟨ah,ch,rfl⟩:=hh.form;obtain⟨ap,cp,rfl⟩:=hp.form;obtain⟨aq,cq,rfl⟩:=hq.form;obtain⟨nh,J⟩:∃n,n=(Z5 h).length:=⟨_,rfl⟩
 obtain⟨np,O⟩:∃n,n=(Z5 p).length:=⟨_,rfl⟩
 obtain⟨nq,U⟩:∃n,n=(Z5 q).length:=⟨_,rfl⟩
 rw[<-J]at D I;rw[<-O]at I⊢;rw[<-U]at CA⊢;have d4:=D.c4
 have em:Xt h p q=match ZI h p with
  |none=>none
  |some u=>some (Zr (u++q)):=rfl
 rw[em]
 cases hT:ZI h p with
 |none=>
  rw[hT]at I;have K:=Z_ I;clear D hh hp hq fh fp fq I CA J O U hT em
  go_enter Tryz.func181,Tryz.ntmps181
  go_wp2_with fail;(with_reducible refine K.o.mono ?_);rintro e w1 ⟨rfl,y⟩;have z:=Z_ y;clear y;go_wp2
  all_goals
   go_ret2;exact⟨rfl,z.o⟩
 |some u=>
  rw[hT]at I;have K:=Z_ I;have ae:=Z_ (λ Y w hY hw=>CA Y w u hT hY hw);clear D hh hp hq fh fp fq I CA J O U hT em
  go_enter Tryz.func181,Tryz.ntmps181
  go_wp2_with fail;(with_reducible refine K.o.mono ?_);rintro e w1 ⟨v1,rfl,X,y⟩;have z:=Z_ y;have ac:=Z_ (ae.o w1 v1 y (X.to (uN _ _) uK));obtain⟨a1,c1,rfl⟩:=X.form;clear y X;go_wp2_with fail;(with_reducible refine ac.o.mono ?_);rintro e w2 ⟨v2,rfl,Z,aa⟩;have af:=Z_ (z.o.trans aa);have ad:=Z_ (Z.to (S':=New W w2) (uN _ _) (λ k h=>⟨zT z.o.size h.1,h.2⟩));clear Z aa;go_wp2
  all_goals
   go_ret2;exact⟨_,rfl,ad.o,af.o⟩
end
theorem Ed(keep:Bool)(g h:PZ)(v d:Int)(q r:PZ):YA keep g h v d q r=match Yb r v d with
  |none=>none
  |some t=>
   match ZI t g with
   |none=>none
   |some l=>
    match Xt h r (ZP l) with
    |none=>none
    |some x=>if keep then(match Xt h q t with
      |none=>none
      |some y=>some (y,x))
     else some ([],x):=by
 unfold YA Xt
 cases Yb r v d with
 |none=>rfl
 |some t=>
  simp only
  cases ZI t g with
  |none=>rfl
  |some l=>
   simp only
   cases ZI h r with
   |none=>rfl
   |some m=>
    simp only
    cases keep with
    |false=>rfl
    |true=>
     simp only[if_true]
     cases ZI h q with
     |none=>rfl
     |some u=>rfl
def Bu(W:World):Option (PZ×PZ)->Ending->World->Prop
 |none=>λ e w'=>∃a b,e=.returned (.tuple #[a,b,.int .i64 8])/\Ext W w'
 |some x=>λ e w'=>∃a b,e=.returned (.tuple #[a,b,.int .i64 0])/\z06 (New W w') w' a (Z5 x.1)/\z06 (New W w') w' b (Z5 x.2)/\Ext W w'
theorem I_{W:World}{bd:Nat}{vm vg vh vq vr:Value}{v d n:Int}{keep:Bool}{g h q r:PZ}{A B T M:Nat}(D:DivAt W bd vm v d vg vh vq vr n keep)(hg:PV W vg g)(hh:PV W vh h)(hq:PV W vq q)(hr:PV W vr r)(fg:Fit A T g)(fh:Fit A T h)(fq:Fit B M q)(fr:Fit B M r)
  (hA:A<24) (hB:B<=80000) (hT:1<=T) (hTM:2*T*M<=1000000000000) (hv:1<=v/\v<=200) (hd:0<=d) (hdr:d<=degP r v) :
  Calls Tryz.prog 173 #[.pointer (some ⟨bd,0,none⟩)] W (Bu W (YA keep g h v d q r)):=by
 have HX0:=Z_ (uP W);have h1:M<=T*M:=yk M hT;have h2:2*T*M=T*M+T*M:=by rw[zu];omega
 have h3:M*T=T*M:=zq _ _;have CT:=Cl D hr fr (by omega) (by omega) hv hd hdr;have CG:=λ(t:PZ) (ht:Yb r v d=some t) (Y:World) (w:Value) (hY:Ext W Y) (hw:PV Y w t)=>R8 hw (z06.on hg hY) (TA fr (by omega) hv hd ht) fg (.inr hA) (by omega) (by omega) (by omega);have CN:=λ(t l:PZ) (ht:Yb r v d=some t) (hl:ZI t g=some l) (Y:World) (w:Value) (hw:PV Y w l)=>Mt hw ((TA fr (by omega) hv hd ht).times fg hl (by omega)) (by omega) (by omega);have CR:=λ(t l:PZ) (ht:Yb r v d=some t) (hl:ZI t g=some l) (Y:World) (w:Value) (hY:Ext W Y) (hw:PV Y w (ZP l))=>L_ (D.ext hY) (z06.on hh hY) (z06.on hr hY) hw fh fr ((TA fr (by omega) hv hd ht).times fg hl (by omega)).neg hA (by omega) (by omega) (by omega);have CQ:=λ(t:PZ) (ht:Yb r v d=some t) (Y:World) (w:Value) (hY:Ext W Y) (hw:PV Y w t)=>L_ (D.ext hY) (z06.on hh hY) (z06.on hq hY) hw fh fq (TA fr (by omega) hv hd ht) hA (by omega) (by omega) (by omega);obtain⟨ag,cg,rfl⟩:=hg.form;obtain⟨aq,cq,rfl⟩:=hq.form;obtain⟨ar,cr,rfl⟩:=hr.form;obtain⟨ng,aG⟩:∃n,n=(Z5 g).length:=⟨_,rfl⟩
 obtain⟨nq,aN⟩:∃n,n=(Z5 q).length:=⟨_,rfl⟩
 obtain⟨nr,aH⟩:∃n,n=(Z5 r).length:=⟨_,rfl⟩
 rw[<-aG]at CG D;rw[<-aN]at CQ D;rw[<-aH]at CR D;have HD:=Z_ D;rw[Ed]
 cases ht:Yb r v d with
 |none=>
  rw[ht]at CT;have ax:=Z_ CT;simp only;clear D hg hh hq hr fg fh fq fr CT CG CN CR CQ aG aN aH h1 h2 h3 hdr hd hv ht hTM
  go_enter Tryz.func173,Tryz.ntmps173
  go_wp2_with fail;(with_reducible refine ax.o.mono ?_);rintro e w1 ⟨rfl,z⟩;have ah:=Z_ z;clear z;go_wp2
  all_goals
   refine bodyPost_ret (v:=.tuple #[.slice none 0 0,.slice none 0 0,.int .i64 8]) (by simp[results,Tryz.results173,go_sem]) rfl ?_;exact⟨_,_,rfl,ah.o⟩
 |some t=>
  rw[ht]at CT;have ax:=Z_ CT;have aB:=Z_ (CG t ht);have a7:=Z_ (λ l=>CN t l ht);have a8:=Z_ (λ l=>CR t l ht);have aR:=Z_ (CQ t ht);simp only
  cases hl:ZI t g with
  |none=>
   rw[hl]at aB;simp only;clear D hg hh hq hr fg fh fq fr CT CG CN CR CQ aG aN aH h1 h2 h3 hdr hd hv ht hTM hl
   go_enter Tryz.func173,Tryz.ntmps173
   go_wp2_with fail;(with_reducible refine ax.o.mono ?_);rintro e w1 ⟨v1,rfl,I,z⟩;have ah:=Z_ z;have d3:=(HD.o.ext z).c3;have O:=Z_ (I.to (S':=Z2 w1) (uN _ _) uK);have ae:=Z_ (aB.o w1 v1 z O.o);obtain⟨a1,c1,rfl⟩:=I.form;obtain⟨n1,ad⟩:∃n,n=(Z5 t).length:=⟨_,rfl⟩
   rw[<-ad]at ae O⊢;clear z I ad;go_wp2_with fail;(with_reducible refine ae.o.mono ?_);rintro e w2 ⟨rfl,J⟩;have au:=Z_ (ah.o.trans J);clear J;go_wp2
   all_goals
    refine bodyPost_ret (v:=.tuple #[.slice none 0 0,.slice none 0 0,.int .i64 8]) (by simp[results,Tryz.results173,go_sem]) rfl ?_;exact⟨_,_,rfl,au.o⟩
  |some l=>
   rw[hl]at aB;have HN:=Z_ (a7.o l hl);have HR:=Z_ (a8.o l hl);clear a7 a8;simp only;clear D hg hh hq hr fg fh fq fr CT CG CN CR CQ aG aN aH h1 h2 h3 hdr hd hv ht hTM hl;generalize Xt h r (ZP l)=X1 at HR⊢;generalize Xt h q t=X2 at aR⊢
   cases X1 with
   |none=>
    simp only
    go_enter Tryz.func173,Tryz.ntmps173
    go_wp2_with fail;(with_reducible refine ax.o.mono ?_);rintro e w1 ⟨v1,rfl,I,z⟩;have ah:=Z_ z;have d3:=(HD.o.ext z).c3;have O:=Z_ (I.to (S':=Z2 w1) (uN _ _) uK);have ae:=Z_ (aB.o w1 v1 z O.o);obtain⟨a1,c1,rfl⟩:=I.form;obtain⟨n1,ad⟩:∃n,n=(Z5 t).length:=⟨_,rfl⟩
    rw[<-ad]at ae O⊢;clear z I ad;go_wp2_with fail;(with_reducible refine ae.o.mono ?_);rintro e w2 ⟨v2,rfl,Z,J⟩;have au:=Z_ (ah.o.trans J);have ay:=Z_ (z06.on O.o J);have al:=Z_ (HN.o w2 v2 (Z.to (uN _ _) uK));obtain⟨a2,c2,rfl⟩:=Z.form;obtain⟨n2,af⟩:∃n,n=(Z5 l).length:=⟨_,rfl⟩
    rw[<-af]at al⊢;clear J Z af d3;go_wp2_with fail;(with_reducible refine al.o.mono ?_);rintro e w3 ⟨v3,rfl,X,aa⟩;have K:=Z_ (au.o.trans aa);have aC:=Z_ (z06.on ay.o aa);have d6:=(HD.o.ext K.o).c6;have ap:=Z_ (HR.o w3 v3 K.o (X.to (uN _ _) uK));obtain⟨a3,c3,rfl⟩:=X.form;obtain⟨n3,aj⟩:∃n,n=(Z5 (ZP l)).length:=⟨_,rfl⟩
    rw[<-aj]at ap⊢;clear aa X aj;go_wp2_with fail;(with_reducible refine ap.o.mono ?_);rintro e w4 ⟨rfl,ac⟩;have U:=Z_ (K.o.trans ac);clear ac d6;go_wp2
    all_goals
     refine bodyPost_ret (v:=.tuple #[.slice none 0 0,.slice none 0 0,.int .i64 8]) (by simp[results,Tryz.results173,go_sem]) rfl ?_;exact⟨_,_,rfl,U.o⟩
   |some x=>
    simp only
    cases keep with
    |false=>
     simp only[xP,if_false]
     go_enter Tryz.func173,Tryz.ntmps173
     go_wp2_with fail;(with_reducible refine ax.o.mono ?_);rintro e w1 ⟨v1,rfl,I,z⟩;have ah:=Z_ z;have d3:=(HD.o.ext z).c3;have O:=Z_ (I.to (S':=Z2 w1) (uN _ _) uK);have ae:=Z_ (aB.o w1 v1 z O.o);obtain⟨a1,c1,rfl⟩:=I.form;obtain⟨n1,ad⟩:∃n,n=(Z5 t).length:=⟨_,rfl⟩
     rw[<-ad]at ae O⊢;clear z I ad;go_wp2_with fail;(with_reducible refine ae.o.mono ?_);rintro e w2 ⟨v2,rfl,Z,J⟩;have au:=Z_ (ah.o.trans J);have ay:=Z_ (z06.on O.o J);have al:=Z_ (HN.o w2 v2 (Z.to (uN _ _) uK));obtain⟨a2,c2,rfl⟩:=Z.form;obtain⟨n2,af⟩:∃n,n=(Z5 l).length:=⟨_,rfl⟩
     rw[<-af]at al⊢;clear J Z af d3;go_wp2_with fail;(with_reducible refine al.o.mono ?_);rintro e w3 ⟨v3,rfl,X,aa⟩;have K:=Z_ (au.o.trans aa);have aC:=Z_ (z06.on ay.o aa);have d6:=(HD.o.ext K.o).c6;have ap:=Z_ (HR.o w3 v3 K.o (X.to (uN _ _) uK));obtain⟨a3,c3,rfl⟩:=X.form;obtain⟨n3,aj⟩:∃n,n=(Z5 (ZP l)).length:=⟨_,rfl⟩
     rw[<-aj]at ap⊢;clear aa X aj;go_wp2_with fail;(with_reducible refine ap.o.mono ?_);rintro e w4 ⟨v4,rfl,ai,ac⟩;have U:=Z_ (K.o.trans ac);have aA:=Z_ (ai.to (S':=New W w4) (uN _ _) (λ k h=>⟨zT K.o.size h.1,h.2⟩));have aF:=Z_ (z06.on aC.o ac);have d8:=(HD.o.ext U.o).c8;have d5:=(HD.o.ext U.o).c5;obtain⟨a4,c4,rfl⟩:=ai.form;obtain⟨n4,av⟩:∃n,n=(Z5 x).length:=⟨_,rfl⟩
     rw[<-av]at aA⊢;clear ac ai d6 av;go_wp2
     all_goals
      refine bodyPost_ret (v:=.tuple #[.slice none 0 0,.slice a4 n4 c4,.int .i64 0]) (by simp[results,Tryz.results173,go_sem]) rfl ?_;exact⟨_,_,rfl,z06.nilv _ _ _ _ (by decide),aA.o,U.o⟩
    |true=>
     simp only[if_true]
     cases X2 with
     |none=>
      simp only
      go_enter Tryz.func173,Tryz.ntmps173
      go_wp2_with fail;(with_reducible refine ax.o.mono ?_);rintro e w1 ⟨v1,rfl,I,z⟩;have ah:=Z_ z;have d3:=(HD.o.ext z).c3;have O:=Z_ (I.to (S':=Z2 w1) (uN _ _) uK);have ae:=Z_ (aB.o w1 v1 z O.o);obtain⟨a1,c1,rfl⟩:=I.form;obtain⟨n1,ad⟩:∃n,n=(Z5 t).length:=⟨_,rfl⟩
      rw[<-ad]at ae O⊢;clear z I ad;go_wp2_with fail;(with_reducible refine ae.o.mono ?_);rintro e w2 ⟨v2,rfl,Z,J⟩;have au:=Z_ (ah.o.trans J);have ay:=Z_ (z06.on O.o J);have al:=Z_ (HN.o w2 v2 (Z.to (uN _ _) uK));obtain⟨a2,c2,rfl⟩:=Z.form;obtain⟨n2,af⟩:∃n,n=(Z5 l).length:=⟨_,rfl⟩
      rw[<-af]at al⊢;clear J Z af d3;go_wp2_with fail;(with_reducible refine al.o.mono ?_);rintro e w3 ⟨v3,rfl,X,aa⟩;have K:=Z_ (au.o.trans aa);have aC:=Z_ (z06.on ay.o aa);have d6:=(HD.o.ext K.o).c6;have ap:=Z_ (HR.o w3 v3 K.o (X.to (uN _ _) uK));obtain⟨a3,c3,rfl⟩:=X.form;obtain⟨n3,aj⟩:∃n,n=(Z5 (ZP l)).length:=⟨_,rfl⟩
      rw[<-aj]at ap⊢;clear aa X aj;go_wp2_with fail;(with_reducible refine ap.o.mono ?_);rintro e w4 ⟨v4,rfl,ai,ac⟩;have U:=Z_ (K.o.trans ac);have aA:=Z_ (ai.to (S':=New W w4) (uN _ _) (λ k h=>⟨zT K.o.size h.1,h.2⟩));have aF:=Z_ (z06.on aC.o ac);have d8:=(HD.o.ext U.o).c8;have d5:=(HD.o.ext U.o).c5;obtain⟨a4,c4,rfl⟩:=ai.form;obtain⟨n4,av⟩:∃n,n=(Z5 x).length:=⟨_,rfl⟩
      rw[<-av]at aA⊢;clear ac ai d6 av;have a0:=Z_ (aR.o w4 (.slice a1 n1 c1) U.o aF.o);go_wp2_with fail;(with_reducible refine a0.o.mono ?_);rintro e w5 ⟨rfl,az⟩;have aS:=Z_ (U.o.trans az);clear az d8 d5;go_wp2
      all_goals
       refine bodyPost_ret (v:=.tuple #[.slice none 0 0,.slice a4 n4 c4,.int .i64 8]) (by simp[results,Tryz.results173,go_sem]) rfl ?_;exact⟨_,_,rfl,aS.o⟩
     |some y=>
      simp only
      go_enter Tryz.func173,Tryz.ntmps173
      go_wp2_with fail;(with_reducible refine ax.o.mono ?_);rintro e w1 ⟨v1,rfl,I,z⟩;have ah:=Z_ z;have d3:=(HD.o.ext z).c3;have O:=Z_ (I.to (S':=Z2 w1) (uN _ _) uK);have ae:=Z_ (aB.o w1 v1 z O.o);obtain⟨a1,c1,rfl⟩:=I.form;obtain⟨n1,ad⟩:∃n,n=(Z5 t).length:=⟨_,rfl⟩
      rw[<-ad]at ae O⊢;clear z I ad;go_wp2_with fail;(with_reducible refine ae.o.mono ?_);rintro e w2 ⟨v2,rfl,Z,J⟩;have au:=Z_ (ah.o.trans J);have ay:=Z_ (z06.on O.o J);have al:=Z_ (HN.o w2 v2 (Z.to (uN _ _) uK));obtain⟨a2,c2,rfl⟩:=Z.form;obtain⟨n2,af⟩:∃n,n=(Z5 l).length:=⟨_,rfl⟩
      rw[<-af]at al⊢;clear J Z af d3;go_wp2_with fail;(with_reducible refine al.o.mono ?_);rintro e w3 ⟨v3,rfl,X,aa⟩;have K:=Z_ (au.o.trans aa);have aC:=Z_ (z06.on ay.o aa);have d6:=(HD.o.ext K.o).c6;have ap:=Z_ (HR.o w3 v3 K.o (X.to (uN _ _) uK));obtain⟨a3,c3,rfl⟩:=X.form;obtain⟨n3,aj⟩:∃n,n=(Z5 (ZP l)).length:=⟨_,rfl⟩
      rw[<-aj]at ap⊢;clear aa X aj;go_wp2_with fail;(with_reducible refine ap.o.mono ?_);rintro e w4 ⟨v4,rfl,ai,ac⟩;have U:=Z_ (K.o.trans ac);have aA:=Z_ (ai.to (S':=New W w4) (uN _ _) (λ k h=>⟨zT K.o.size h.1,h.2⟩));have aF:=Z_ (z06.on aC.o ac);have d8:=(HD.o.ext U.o).c8;have d5:=(HD.o.ext U.o).c5;obtain⟨a4,c4,rfl⟩:=ai.form;obtain⟨n4,av⟩:∃n,n=(Z5 x).length:=⟨_,rfl⟩
      rw[<-av]at aA⊢;clear ac ai d6 av;have a0:=Z_ (aR.o w4 (.slice a1 n1 c1) U.o aF.o);go_wp2_with fail;(with_reducible refine a0.o.mono ?_);rintro e w5 ⟨v5,rfl,aP,az⟩;have aS:=Z_ (U.o.trans az);have ba:=Z_ (aP.to (S':=New W w5) (uN _ _) (λ k h=>⟨zT U.o.size h.1,h.2⟩));have a9:=Z_ (aA.o.to (S':=New W w5) (uM az (λ _ h=>h.2)) (λ k h=>⟨h.1,zU h.2 az.size⟩));obtain⟨a5,c5,rfl⟩:=aP.form;obtain⟨n5,a6⟩:∃n,n=(Z5 y).length:=⟨_,rfl⟩
      rw[<-a6]at ba⊢;clear az aP d8 d5 a6;go_wp2
      all_goals
       refine bodyPost_ret (v:=.tuple #[.slice a5 n5 c5,.slice a4 n4 c4,.int .i64 0]) (by simp[results,Tryz.results173,go_sem]) rfl ?_;exact⟨_,_,rfl,ba.o,a9.o,aS.o⟩
end
section
open Go.RowKit
abbrev NC(o:Option Nat)(bd:Nat)(W:World):Nat->Prop:=λ k=>k<W.heap.size/\some k≠o/\k≠bd
structure Gd (o:Option Nat) (bd:Nat) (W W':World):Prop where
 os:W'.os=W.os
 tape:W'.tape=W.tape
 output:W'.output=W.output
 size:W.heap.size<=W'.heap.size
 block:∀k,k<W.heap.size->some k≠o->k≠bd->W'.heap[k]? = W.heap[k]?
section
variable {o:Option Nat} {bd:Nat} {A B C W W':World} {v:Value} {p:PZ} {s:MSt}
theorem Gd.refl(o:Option Nat)(bd:Nat)(W:World):Gd o bd W W:=⟨rfl,rfl,rfl,zR _,λ _ _ _ _=>rfl⟩
theorem Gd.trans(h:Gd o bd A B)(k:Gd o bd B C):Gd o bd A C :=
 ⟨k.os.trans h.os,k.tape.trans h.tape,k.output.trans h.output,zT h.size k.size,λ i h1 h2 h3=>(k.block i (zU h1 h.size) h2 h3).trans (h.block i h1 h2 h3)⟩
theorem WM(h:A.grownBy B o):Gd o bd A B:=⟨h.os,h.tape,h.output,h.size,λ k h1 h2 _=>h.block k h1 h2⟩
theorem Y8(h:Ext A B):Gd o bd A B:=WM (Y7 h o)
theorem WT(w:World){a:Addr}(ha:a.block=bd)(u:Value):Gd o bd w (w.setCell a u):=⟨rfl,rfl,rfl,by simp[World.setCell],λ k _ _ h3=>Below.heap_setCell _ _ _ _ (λ e=>h3 (by rw[e,ha]))⟩
theorem Gd.gb(h:Gd o bd A B)(hb:A.heap.size<=bd):A.grownBy B o:=⟨h.os,h.tape,h.output,h.size,λ k h1 h2=>h.block k h1 h2 (by omega)⟩
theorem V7(g:Gd o bd W W'):Kept (NC o bd W) W W':=λ k h=>g.block k h.1 h.2.1 h.2.2
theorem Ua(g:W.heap.size<=W'.heap.size):∀k,NC o bd W k->NC o bd W' k:=λ _ h=>⟨zU h.1 g,h.2⟩
abbrev PC(o:Option Nat)(bd:Nat)(W:World)(v:Value)(p:PZ):Prop:=z06 (NC o bd W) W v (Z5 p)
theorem PC.pv(h:PC o bd W v p):PV W v p:=h.to (uN _ _) (λ _ h=>h.1)
theorem PC.pm(h:PC o bd W v p):PM o W v p:=h.to (uN _ _) (λ _ h=>⟨h.1,h.2.1⟩)
theorem PC.on(h:PC o bd W v p)(g:Gd o bd W W'):PC o bd W' v p:=h.to (V7 g) (Ua g.size)
abbrev PN(N:Nat)(o:Option Nat)(bd:Nat)(W:World)(v:Value)(p:PZ):Prop:=z06 (λ k=>N<=k/\NC o bd W k) W v (Z5 p)
theorem PN.pc{N:Nat}(h:PN N o bd W v p):PC o bd W v p:=h.to (uN _ _) (λ _ h=>h.2)
theorem PN.on{N:Nat}(h:PN N o bd W v p)(g:Gd o bd W W'):PN N o bd W' v p:=h.to (λ k hk=>V7 g k hk.2) (λ k hk=>⟨hk.1,Ua g.size k hk.2⟩)
abbrev ui:=@PN.on
theorem PN.low{N M:Nat}(h:PN N o bd W v p)(hM:M<=N):PN M o bd W v p:=h.to (uN _ _) (λ _ h=>⟨zT hM h.1,h.2⟩)
theorem PN.pmn{N:Nat}(h:PN N o bd W v p):PMN N o W v p:=h.to (uN _ _) (λ _ h=>⟨h.1,h.2.1,h.2.2.1⟩)
theorem Ou(hm:∀b,o=some b->b<A.heap.size)(hb:bd<A.heap.size):∀k,New A W' k->NC o bd W' k:=λ k hk=>⟨hk.2,λ e=>by have:=hm k e.symm;have:=hk.1;omega,λ e=>by have:=hk.1;omega⟩
theorem MV.set(h:MV W o s)(hob:∀b,o=some b->b≠bd){a:Addr}(ha:a.block=bd)(u:Value):MV (W.setCell a u) o s:=λ b hb=>by
 refine⟨(h b hb).1.grown (r:=some bd) (U4 (WY W (some bd)) ha u) (λ e=>hob b hb (Option.some.inj e)),(h b hb).2⟩
end
def Yl(o:Option Nat)(keep:Bool)(g h:PZ)(v d:Int)(s:MSt)(q r:PZ):Int×MSt×Option (PZ×PZ) :=
 if(z1o o s).1≠0 then((z1o o s).1,(z1o o s).2,none) else
 match YA keep g h v d q r with
 |none=>(8,W_ o (z1o o s).2,none)
 |some x=>
  if(z1b o (z1o o s).2 x.2).1≠0 then((z1b o (z1o o s).2 x.2).1,(z1b o (z1o o s).2 x.2).2,none) else
  if(z1b o (z1o o s).2 x.1).1≠0 then((z1b o (z1o o s).2 x.1).1,(z1b o (z1o o s).2 x.1).2,none) else
  (0,(z1o o s).2,some x)
theorem zdi(o:Option Nat)(keep:Bool)(g h:PZ)(v d:Int)(k:Nat)(s:MSt)(q r:PZ)(n:Nat) :
  runD o keep g h v d (k+1) s q r n=if r=[]∨degP r v<d then⟨0,q,r,n,s⟩ else
   match (Yl o keep g h v d s q r).2.2 with
   |none=>⟨(Yl o keep g h v d s q r).1,[],[],0,(Yl o keep g h v d s q r).2.1⟩
   |some x=>runD o keep g h v d k (Yl o keep g h v d s q r).2.1 x.1 x.2 (n+1):=by
 rw[runD];unfold Yl
 split
 ·rfl
 split
 ·rfl
 cases YA keep g h v d q r with
 |none=>rfl
 |some x=>
  simp only
  split
  ·rfl
  split
  ·rfl
  ·rfl
theorem Dw{o:Option Nat}{keep:Bool}{g h:PZ}{v d:Int}{s:MSt}{q r:PZ}{x:PZ×PZ}(hx:(Yl o keep g h v d s q r).2.2=some x) :
  (Yl o keep g h v d s q r).1=0/\(z1o o s).1=0/\YA keep g h v d q r=some x/\(z1b o (z1o o s).2 x.2).1=0/\(z1b o (z1o o s).2 x.1).1=0/\(Yl o keep g h v d s q r).2.1=(z1o o s).2:=by
 unfold Yl at hx⊢
 by_cases D:(z1o o s).1≠0
 ·rw[if_pos D]at hx;cases hx
 rw[if_neg D]at hx⊢
 cases hst:YA keep g h v d q r with
 |none=>rw[hst]at hx;cases hx
 |some y=>
  rw[hst]at hx;simp only at hx⊢
  by_cases z:(z1b o (z1o o s).2 y.2).1≠0
  ·rw[if_pos z]at hx;cases hx
  rw[if_neg z]at hx⊢
  by_cases I:(z1b o (z1o o s).2 y.1).1≠0
  ·rw[if_pos I]at hx;cases hx
  rw[if_neg I]at hx⊢
  cases hx
  exact⟨rfl,zx.1 D,rfl,zx.1 z,zx.1 I,rfl⟩
theorem B_{o:Option Nat}{keep:Bool}{g h:PZ}{v d:Int}{s:MSt}{q r:PZ}(hx:(Yl o keep g h v d s q r).2.2=none):(Yl o keep g h v d s q r).1≠0:=by
 unfold Yl at hx⊢
 by_cases D:(z1o o s).1≠0
 ·rw[if_pos D];exact D
 rw[if_neg D]at hx⊢
 cases hst:YA keep g h v d q r with
 |none=>show(8:Int)≠0;decide
 |some y=>
  rw[hst]at hx;simp only at hx⊢
  by_cases z:(z1b o (z1o o s).2 y.2).1≠0
  ·rw[if_pos z];exact z
  rw[if_neg z]at hx⊢
  by_cases I:(z1b o (z1o o s).2 y.1).1≠0
  ·rw[if_pos I];exact I
  ·rw[if_neg I]at hx;cases hx
def EY(W:World)(o:Option Nat)(bd:Nat)(v d:Int)(vg vh:Value)(n:Int)(keep:Bool)(X:Int×MSt×Option (PZ×PZ)):Ending->World->Prop:=λ e W'=>
 e=.returned (.int .i64 X.1)/\MV W' o X.2.1/\Gd o bd W W'/\∀x,X.2.2=some x->∃vq vr,DivAt W' bd (ZK o) v d vg vh vq vr (n+1) keep/\PN W.heap.size o bd W' vq x.1/\PN W.heap.size o bd W' vr x.2
theorem Il{W:World}{o:Option Nat}{s:MSt}{bd:Nat}{vg vh vq vr:Value}{v d n:Int}{keep:Bool}{g h q r:PZ}{A B T M:Nat}(D:DivAt W bd (ZK o) v d vg vh vq vr n keep)(hM:MV W o s)(hob:∀b,o=some b->b≠bd)(hg:PC o bd W vg g)(hh:PC o bd W vh h)(hq:PC o bd W vq q)(hr:PC o bd W vr r)
  (fg:Fit A T g) (fh:Fit A T h) (fq:Fit B M q) (fr:Fit B M r) (hA:A<24) (hB:B<=80000) (hT:1<=T) (hTM:2*T*M<=1000000000000) (hv:1<=v/\v<=200) (hd:0<=d) (hdr:d<=degP r v) (hn:0<=n/\n<=1000000) :
  Calls Tryz.prog 159 #[.pointer (some ⟨bd,0,none⟩)] W (EY W o bd v d vg vh n keep (Yl o keep g h v d s q r)):=by
 have hmf:∀(fn:Fn) (first cap:Array Value) (w:World),(Instr.makeFunc fn first cap).run Tryz.prog w=.ok (.func fn first cap) w:=λ _ _ _ _=>rfl;have aF:some bd≠o:=λ e=>hob bd e.symm rfl;have aG:=Z_ aF;have a9:=Z_ hob;have HD:=Z_ D;have C1:=Kz hM;have CM:=λ(Y:World) (hY:W.grownBy Y o)=>I_ (D.same (hY.block bd D.lt aF)) (hg.pm.on hY).pv (hh.pm.on hY).pv (hq.pm.on hY).pv (hr.pm.on hY).pv fg fh fq fr hA hB hT hTM hv hd hdr;have CX:=λ(Y:World) (t:MSt) (hY:MV Y o t)=>Pi hY;have CK:=λ(Y:World) (t:MSt) (u:Value) (p:PZ) (hY:MV Y o t) (hu:PM o Y u p)=>PY hY hu;have aN:=Z_ (λ b hb=>hM.block (b:=b) hb);have av:=Z_ D.lt;obtain⟨vm,a5⟩:∃x,x=ZK o:=⟨_,rfl⟩
 rw[<-a5]at D C1 CX CK;have a0:=Z_ a5;have d0:=D.c0;obtain⟨n1,n2⟩:=hn;unfold Yl;generalize hm:z1o o s=m at C1⊢;obtain⟨c1,s1⟩:=m;simp only at C1⊢;have aP:=Z_ C1;have aC:=Z_ CM;have bf:=Z_ CX;have aH:=Z_ CK;clear C1 CM CX CK hM hob hg hh hq hr fg fh fq fr hA hB hT hTM hv hd hdr a5 aF hm D
 by_cases hc:c1≠0
 ·rw[if_pos hc];have q1:(c1 != 0)=true:=by rw[bne_iff_ne];exact hc
  clear hc
  go_enter Tryz.func159,Tryz.ntmps159
  go_wp2_with fail;(with_reducible refine aP.o.mono ?_);rintro e w1 ⟨rfl,K,I⟩;have ah:=Z_ K;have z:=Z_ I;clear K I;go_wp2
  all_goals
   go_ret;exact⟨rfl,ah.o,WM z.o,λ x h=>(by cases h)⟩
 ·rw[if_neg hc];have q1:(c1 != 0)=false:=by rw[bne_eq_false_iff_eq];exact zx.1 hc
  clear hc;generalize YA keep g h v d q r=R at aC⊢
  cases R with
  |none=>
   simp only
   go_enter Tryz.func159,Tryz.ntmps159
   go_wp2_with fail;(with_reducible refine aP.o.mono ?_);rintro e w1 ⟨rfl,K,I⟩;have ah:=Z_ K;have z:=Z_ I;have aq:=Z_ (aC.o w1 I);clear K I;go_wp2_with fail;(with_reducible refine aq.o.mono ?_);rintro e w2 ⟨a,b,rfl,J⟩;have Z:=Z_ (YV z.o (Y7 J o));have HX:=Z_ (bf.o w2 s1 (ah.o.ext J));have e0:w2.cell? ⟨bd,0,none⟩=some vm:=by rw[a0.o];exact(HD.o.same (Z.o.block bd av.o aG.o)).c0
   clear J d0;go_wp2_with fail;(with_reducible refine HX.o.mono ?_);rintro e w3 ⟨rfl,ae,O⟩;have a7:=Z_ ae;have ap:=Z_ (YV Z.o O);clear ae O;go_wp2
   all_goals
    go_ret;exact⟨rfl,a7.o,WM ap.o,λ x h=>(by cases h)⟩
  |some x=>
   simp only;generalize hk1:z1b o s1 x.2=k1;obtain⟨c2,s2⟩:=k1;generalize hk2:z1b o s1 x.1=k2;obtain⟨c3,s3⟩:=k2;have a4:=Z_ hk1;have bb:=Z_ hk2;have bl:Hd (c2=0->s2=s1):=Z_ (λ h=>by have:=RT (o:=o) (s:=s1) (p:=x.2) (by rw[hk1];exact h);rw[hk1]at this;exact this);have bu:Hd (c3=0->s3=s1):=Z_ (λ h=>by have:=RT (o:=o) (s:=s1) (p:=x.1) (by rw[hk2];exact h);rw[hk2]at this;exact this);simp only;clear hk1 hk2
   by_cases ar:c2≠0
   ·rw[if_pos ar];have q2:(c2 != 0)=true:=by rw[bne_iff_ne];exact ar
    clear ar
    go_enter Tryz.func159,Tryz.ntmps159
    go_wp2_with fail;(with_reducible refine aP.o.mono ?_);rintro e w1 ⟨rfl,K,I⟩;have ah:=Z_ K;have z:=Z_ I;have aq:=Z_ (aC.o w1 I);clear K I;go_wp2_with fail;(with_reducible refine aq.o.mono ?_);rintro e w2 ⟨a,b,rfl,af,ac,J⟩;have Z:=Z_ (YV z.o (Y7 J o));have aj:=Z_ (ac.to (S':=NB o w2) (uN _ _) (QH (TN z.o aN.o)));have HK:=aH.o w2 s1 b x.2 (ah.o.ext J) aj.o;rw[a4.o]at HK;have al:=Z_ HK;obtain⟨aa,ca,rfl⟩:=af.form;obtain⟨ab,cb,rfl⟩:=ac.form;obtain⟨na,ag⟩:∃n,n=(Z5 x.1).length:=⟨_,rfl⟩
    obtain⟨nb,ad⟩:∃n,n=(Z5 x.2).length:=⟨_,rfl⟩
    rw[<-ad]at al;rw[<-ag,<-ad];have e0:w2.cell? ⟨bd,0,none⟩=some vm:=by rw[a0.o];exact(HD.o.same (Z.o.block bd av.o aG.o)).c0
    clear J d0 af ac ag ad HK aj;go_wp2_with fail;(with_reducible refine al.o.mono ?_);rintro e w3 ⟨rfl,ae,O⟩;have a7:=Z_ ae;have ap:=Z_ (YV Z.o O);clear ae O e0;go_wp2
    all_goals
     go_ret;exact⟨rfl,a7.o,WM ap.o,λ x h=>(by cases h)⟩
   ·rw[if_neg ar];have q2:(c2 != 0)=false:=by rw[bne_eq_false_iff_eq];exact zx.1 ar
    have ba:=Z_ (bl.o (zx.1 ar));clear ar
    by_cases ax:c3≠0
    ·rw[if_pos ax];have q3:(c3 != 0)=true:=by rw[bne_iff_ne];exact ax
     clear ax
     go_enter Tryz.func159,Tryz.ntmps159
     go_wp2_with fail;(with_reducible refine aP.o.mono ?_);rintro e w1 ⟨rfl,K,I⟩;have ah:=Z_ K;have z:=Z_ I;have aq:=Z_ (aC.o w1 I);clear K I;go_wp2_with fail;(with_reducible refine aq.o.mono ?_);rintro e w2 ⟨a,b,rfl,af,ac,J⟩;have Z:=Z_ (YV z.o (Y7 J o));have aj:=Z_ (ac.to (S':=NB o w2) (uN _ _) (QH (TN z.o aN.o)));have ay:=Z_ (af.to (S':=NB o w2) (uN _ _) (QH (TN z.o aN.o)));have HK:=aH.o w2 s1 b x.2 (ah.o.ext J) aj.o;rw[a4.o,ba.o]at HK;have al:=Z_ HK;have ai:=λ(Y:World) (hY:MV Y o s1) (hg:w2.grownBy Y o)=>aH.o Y s1 a x.1 hY (PM.on ay.o hg);rw[bb.o]at ai;obtain⟨aa,ca,rfl⟩:=af.form;obtain⟨ab,cb,rfl⟩:=ac.form;obtain⟨na,ag⟩:∃n,n=(Z5 x.1).length:=⟨_,rfl⟩
     obtain⟨nb,ad⟩:∃n,n=(Z5 x.2).length:=⟨_,rfl⟩
     rw[<-ad]at al;rw[<-ag]at ai;have a6:=Z_ ai;rw[<-ag,<-ad];have e0:w2.cell? ⟨bd,0,none⟩=some vm:=by rw[a0.o];exact(HD.o.same (Z.o.block bd av.o aG.o)).c0
     clear J d0 af ac ag ad HK aj ay ai;go_wp2_with fail;(with_reducible refine al.o.mono ?_);rintro e w3 ⟨rfl,ae,O⟩;have a3:=Z_ (a6.o w3 ae O);have ap:=Z_ (YV Z.o O);clear ae O e0;go_wp2_with fail;(with_reducible refine a3.o.mono ?_);rintro e w4 ⟨rfl,aR,au⟩;have a8:=Z_ aR;have aS:=Z_ (YV ap.o au);clear aR au;go_wp2
     all_goals
      go_ret;exact⟨rfl,a8.o,WM aS.o,λ x h=>(by cases h)⟩
    ·rw[if_neg ax];have q3:(c3 != 0)=false:=by rw[bne_eq_false_iff_eq];exact zx.1 ax
     have bv:=Z_ (bu.o (zx.1 ax));clear ax
     go_enter Tryz.func159,Tryz.ntmps159
     go_wp2_with fail;(with_reducible refine aP.o.mono ?_);rintro e w1 ⟨rfl,K,I⟩;have ah:=Z_ K;have z:=Z_ I;have aq:=Z_ (aC.o w1 I);clear K I;go_wp2_with fail;(with_reducible refine aq.o.mono ?_);rintro e w2 ⟨a,b,rfl,af,ac,J⟩;have Z:=Z_ (YV z.o (Y7 J o));have aj:=Z_ (ac.to (S':=λ k=>W.heap.size<=k/\NC o bd w2 k) (uN _ _) (λ k hk=>⟨zT z.o.size hk.1,Ou (TN z.o aN.o) (zU av.o z.o.size) k hk⟩));have ay:=Z_ (af.to (S':=λ k=>W.heap.size<=k/\NC o bd w2 k) (uN _ _) (λ k hk=>⟨zT z.o.size hk.1,Ou (TN z.o aN.o) (zU av.o z.o.size) k hk⟩));have HK:=aH.o w2 s1 b x.2 (ah.o.ext J) (PC.pm (PN.pc aj.o));rw[a4.o,ba.o]at HK;have al:=Z_ HK;have ai:=λ(Y:World) (hY:MV Y o s1) (hg:w2.grownBy Y o)=>aH.o Y s1 a x.1 hY (PM.on (PC.pm (PN.pc ay.o)) hg);rw[bb.o,bv.o]at ai;obtain⟨aa,ca,rfl⟩:=af.form;obtain⟨ab,cb,rfl⟩:=ac.form;obtain⟨na,ag⟩:∃n,n=(Z5 x.1).length:=⟨_,rfl⟩
     obtain⟨nb,ad⟩:∃n,n=(Z5 x.2).length:=⟨_,rfl⟩
     rw[<-ad]at al aj;rw[<-ag]at ai ay;have a6:=Z_ ai;rw[<-ag,<-ad];have e0:w2.cell? ⟨bd,0,none⟩=some vm:=by rw[a0.o];exact(HD.o.same (Z.o.block bd av.o aG.o)).c0
     clear J d0 af ac ag ad HK ai;go_wp2_with fail;(with_reducible refine al.o.mono ?_);rintro e w3 ⟨rfl,ae,O⟩;have a3:=Z_ (a6.o w3 ae O);have ap:=Z_ (YV Z.o O);have a2:=Z_ O;clear ae O e0;go_wp2_with fail;(with_reducible refine a3.o.mono ?_);rintro e w4 ⟨rfl,aR,au⟩;have a8:=Z_ aR;have aS:=Z_ (YV ap.o au);have bg:=Z_ (ui ay.o (WM (YV a2.o au)));have bm:=Z_ (ui aj.o (WM (YV a2.o au)));have U:=Z_ (HD.o.same (aS.o.block bd av.o aG.o));have e7:=U.o.c7;have e5:=U.o.c5;have e6:=U.o.c6;have z5:=U.o.fz 5;have z6:=U.o.fz 6;have z7:=U.o.fz 7;have bt:=Z_ e5;have bn:=Z_ e6;have bs:=Z_ e7;clear aR au;go_wp2
     all_goals
      go_ret;obtain⟨W5,aA⟩:∃X,X=w4.setCell ⟨bd,5,none⟩ (.slice aa na ca):=⟨_,rfl⟩
      obtain⟨W6,az⟩:∃X,X=W5.setCell ⟨bd,6,none⟩ (.slice ab nb cb):=⟨_,rfl⟩
      obtain⟨W7,aB⟩:∃X,X=W6.setCell ⟨bd,7,none⟩ (.int .i64 (n+1)):=⟨_,rfl⟩
      rw[<-aA,<-az,<-aB];have k5:∀(i:Nat) (u:Value),i≠5->w4.cell? ⟨bd,i,none⟩=some u->W5.cell? ⟨bd,i,none⟩=some u:=λ i u h5 h=>by rw[aA];exact ZZ h (ao (λ e=>h5 e.symm))
      have k6:∀(i:Nat) (u:Value),i≠6->W5.cell? ⟨bd,i,none⟩=some u->W6.cell? ⟨bd,i,none⟩=some u:=λ i u h5 h=>by rw[az];exact ZZ h (ao (λ e=>h5 e.symm))
      have k7:∀(i:Nat) (u:Value),i≠7->W6.cell? ⟨bd,i,none⟩=some u->W7.cell? ⟨bd,i,none⟩=some u:=λ i u h5 h=>by rw[aB];exact ZZ h (ao (λ e=>h5 e.symm))
      have m5:W5.cell? ⟨bd,5,none⟩=some (.slice aa na ca):=by rw[aA];exact YT bt.o
      have m6:W6.cell? ⟨bd,6,none⟩=some (.slice ab nb cb):=by rw[az];exact YT (k5 6 _ (by decide) bn.o)
      have m7:W7.cell? ⟨bd,7,none⟩=some (.int .i64 (n+1)):=by rw[aB];exact YT (k6 7 _ (by decide) (k5 7 _ (by decide) bs.o))
      have g5:Gd o bd w4 W5:=by rw[aA];exact WT w4 (a:=⟨bd,5,none⟩) rfl _
      have g6:Gd o bd W5 W6:=by rw[az];exact WT W5 (a:=⟨bd,6,none⟩) rfl _
      have g7:Gd o bd W6 W7:=by rw[aB];exact WT W6 (a:=⟨bd,7,none⟩) rfl _
      have v5:MV W5 o s1:=by rw[aA];exact a8.o.set a9.o (a:=⟨bd,5,none⟩) rfl _
      have v6:MV W6 o s1:=by rw[az];exact v5.set a9.o (a:=⟨bd,6,none⟩) rfl _
      have v7:MV W7 o s1:=by rw[aB];exact v6.set a9.o (a:=⟨bd,7,none⟩) rfl _
      have fz:∀i,W7.frozen? ⟨bd,i,none⟩=false:=λ i=>by rw[aB];refine Zg ?_;rw[az];refine Zg ?_;rw[aA];exact Zg (U.o.fz i)
      have gs:Gd o bd w4 W7:=(g5.trans g6).trans g7;have kk:∀(i:Nat) (u:Value),i≠5->i≠6->i≠7->w4.cell? ⟨bd,i,none⟩=some u->W7.cell? ⟨bd,i,none⟩=some u:=λ i u h5 h6 h7 h=>k7 i u h7 (k6 i u h6 (k5 i u h5 h))
      have D7:DivAt W7 bd (ZK o) v d vg vh (.slice aa na ca) (.slice ab nb cb) (n+1) keep :=
       ⟨kk 0 _ (by decide) (by decide) (by decide) U.o.c0,kk 1 _ (by decide) (by decide) (by decide) U.o.c1,kk 2 _ (by decide) (by decide) (by decide) U.o.c2,kk 3 _ (by decide) (by decide) (by decide) U.o.c3,kk 4 _ (by decide) (by decide) (by decide) U.o.c4,k7 5 _ (by decide) (k6 5 _ (by decide) m5),k7 6 _ (by decide) m6,m7,kk 8 _ (by decide) (by decide) (by decide) U.o.c8,fz⟩
      refine⟨rfl,v7,(WM aS.o).trans gs,λ y hy=>?_⟩;obtain rfl:x=y:=Option.some.inj hy;exact⟨_,_,D7,ui bg.o gs,ui bm.o gs⟩
end
section
section
variable {g f:PZ} {v:Int}
def ZA(o:Option Nat)(keep:Bool)(s:MSt)(f g:PZ)(v:Int):DRes:=runD o keep g (Zz g v) v (degP g v) ((degP f v).toNat+1) s [] f 0
theorem Iy{o:Option Nat}{keep:Bool}{d:Int}{h:PZ}:∀(k:Nat) (s:MSt) (q r:PZ) (n:Nat),
  (runD o keep g h v d k s q r n).e=0∨((runD o keep g h v d k s q r n).q=[]/\(runD o keep g h v d k s q r n).r=[]/\(runD o keep g h v d k s q r n).n=0):=by
 intro k
 induction k with
 |zero=>intros;exact .inl rfl
 |succ k ih=>
  intro s q r n;rw[runD]
  split
  ·exact .inl rfl
  split
  ·exact .inr ⟨rfl,rfl,rfl⟩
  split
  ·exact .inr ⟨rfl,rfl,rfl⟩
  split
  ·exact .inr ⟨rfl,rfl,rfl⟩
  split
  ·exact .inr ⟨rfl,rfl,rfl⟩
  ·exact ih _ _ _ _
/-! By a meter as without one -/
end
end
section
section
variable {a b c:PZ}
end
section
variable {p g f:PZ} {v:Int}
end
end
section
def powN(h:PZ):Nat->Option PZ
 |0=>some [(1,[])]
 |n+1=>
  match powN h n with
  |none=>none
  |some p=>ZI p h
theorem L8{h:PZ}{G:Int}(ch:canP h)(eh:exB G h)(hG:0<=G):∀n:Nat,(n:Int)*G<=10000->∃P,powN h n=some P/\canP P/\Eqv P (hpow h n)/\exB ((n:Int)*G) P
 |0,_=>⟨[(1,[])],rfl,z7k,Eqv.refl _,λ t ht u=>by rw[zQ.1 ht];show ex [] u<=_;simp[ex]⟩
 |n+1,hn=>by
  have e1:((n+1:Nat):Int)*G=n*G+G:=by rw[wG,Int.add_mul,show((1:Nat):Int)=1 from rfl,Int.one_mul]
  rw[e1]at hn⊢;obtain⟨P,J,c1,c2,c3⟩:=L8 ch eh hG n (by omega);obtain⟨Q,I,y,D,z,-⟩:=c3.times eh c1 ch hn;exact⟨Q,by rw[powN,J];exact I,y,z.trans (Eqv.mul c2 (Eqv.refl h)),D⟩
theorem KE:Fit 1 1 [((1:Int),([]:Z7))]:=⟨z7k,λ t ht=>by rw[zQ.1 ht];show(1:Int).natAbs<_;decide,zR _⟩
theorem O8{h:PZ}{A T:Nat}(fh:Fit A T h)(hT:1<=T):∀(n:Nat) (P:PZ),T^n<=1000000000000->powN h n=some P->Fit (1+n*(A+2)) (T^n) P
 |0,P,_,hP=>by
  have e:some [((1:Int),([]:Z7))]=some P:=hP
  cases e
  exact KE.mono (by omega) (zR _)
 |n+1,P,hn,hP=>by
  have z:T^n<=T^(n+1):=zA hT (zw n);rw[powN]at hP
  cases hp:powN h n with
  |none=>rw[hp]at hP;cases hP
  |some p=>
   rw[hp]at hP;have y:=O8 fh hT n p (zT z hn) hp;have D:=y.times fh hP (by rw[<-yY];exact hn);exact D.mono (by rw[y8];omega) (by rw[yY];exact zR _)
section
variable {g f h q r:PZ} {v d:Int} {o:Option Nat} {keep:Bool} {B M:Nat}
theorem z7q.now:∀{k:Nat} {s:MSt} {q r:PZ},z7q o keep g h v d B M k s q r->Fit B M q/\Fit B M r
 |0,_,_,_,h=>h
 |_+1,_,_,_,h=>⟨h.1,h.2.1⟩
theorem JU:∀(k:Nat) (s:MSt) (q r:PZ) (n:Nat),z7q o keep g h v d B M k s q r ->
  Fit B M (runD o keep g h v d k s q r n).q/\Fit B M (runD o keep g h v d k s q r n).r:=by
 intro k
 induction k with
 |zero=>intro s q r n h;exact h
 |succ k ih=>
  intro s q r n J;obtain⟨Z,X,J⟩:=J;have y:Fit B M []:=VU.mono (zL _) (zL _);rw[runD]
  by_cases z:r=[]∨degP r v<d
  ·rw[if_pos z];exact⟨Z,X⟩
  rw[if_neg z]
  by_cases K:(z1o o s).1≠0
  ·rw[if_pos K];exact⟨y,y⟩
  rw[if_neg K]
  cases hst:YA keep g h v d q r with
  |none=>exact⟨y,y⟩
  |some x=>
   simp only
   by_cases U:(z1b o (z1o o s).2 x.2).1≠0
   ·rw[if_pos U];exact⟨y,y⟩
   rw[if_neg U]
   by_cases O:(z1b o (z1o o s).2 x.1).1≠0
   ·rw[if_pos O];exact⟨y,y⟩
   rw[if_neg O];have I:r≠[]:=λ e=>z (.inl e)
   have D:d<=degP r v:=by
    rcases wX (degP r v) d with h|h
    ·exact absurd (.inr h) z
    ·exact h
   exact ih _ _ _ _ (J I D (zx.1 K) x hst (zx.1 U) (zx.1 O))
end
end
section
open Go.RowKit
def Hb(W:World)(vm:Value)(v d:Int)(vg:Value)(h f:PZ)(keep:Bool):Ending->World->Prop:=λ e W'=>
 ∃bd vh vr,e=.returned (.tuple #[.pointer (some ⟨bd,0,none⟩),.int .i64 0])/\W.heap.size<=bd/\DivAt W' bd vm v d vg vh (.slice none 0 0) vr 0 keep /\
  z06 (λ k=>New W W' k/\k≠bd) W' vh (Z5 h)/\z06 (λ k=>New W W' k/\k≠bd) W' vr (Z5 f)/\Ext W W'
theorem eQ_{W:World}{vm vf vg:Value}{v:Int}{keep:Bool}{f g:PZ}{A B T M:Nat}(hvm:∃a,vm=.pointer a)(hf:PV W vf f)(hg:PV W vg g)(ff:Fit B M f)(fg:Fit A T g)(hA:A<=1000000)(hB:B<=1000000)(hT:T<=1000000000000)(hM:M<=1000000000000)(hv:1<=v/\v<=200)(hd:1<=degP g v) :
  Calls Tryz.prog 158 #[vm,vf,vg,.int .i64 v,.bool keep] W (Hb W vm v (degP g v) vg (Zz g v) f keep):=by
 have hnot:∀(x:Bool) (w:World),(Op.unary .not (.bool x)).run Tryz.prog w=.ok (.bool (!x)) w:=λ _ _=>rfl;obtain⟨pa,rfl⟩:=hvm;have HX0:=Z_ (uP W);have hr:=XW fg.can.may v;have C1:=Z_ (Um hf ff hB);have C2:=Z_ (λ(Y:World) (hY:Ext W Y)=>Um (z06.on hg hY) fg hA);have C3:=Z_ (λ(Y:World) (hY:Ext W Y)=>UI (z06.on hg hY) fg hA (x:=v) (by unfold Zv;omega));have C4:=λ(Y:World) (hY:Ext W Y)=>TJ (z06.on hf hY) (z06.nilv (Z2 Y) Y none 0 (by decide)) ff VU hB (by decide) (by omega);rw[yj,Sk ff.can]at C4;have au:=Z_ C4;have C5:=Z_ (λ(Y:World) (hY:Ext W Y)=>Mh (z06.on hg hY) fg hA hT hv);obtain⟨af,cf,rfl⟩:=hf.form;obtain⟨ag,cg,rfl⟩:=hg.form;obtain⟨nf,K⟩:∃n,n=(Z5 f).length:=⟨_,rfl⟩
 obtain⟨ng,aj⟩:∃n,n=(Z5 g).length:=⟨_,rfl⟩
 obtain⟨nh,ac⟩:∃n,n=(Z5 (Zz g v)).length:=⟨_,rfl⟩
 have ai:=Z_ ac;have ap:=Z_ K;rw[<-K]at C1 au⊢;rw[<-aj]at C2 C3 C5⊢;obtain⟨d,ae⟩:∃d,d=degP g v:=⟨_,rfl⟩
 rw[<-ae]at C3 hd hr⊢;have q1:decide (v<1)=false:=decide_eq_false (by omega);have q2:decide (200<v)=false:=decide_eq_false (by omega);have q3:decide (d<1)=false:=decide_eq_false (by omega);clear hf hg ff fg C4 K aj ac ae
 go_enter Tryz.func158,Tryz.ntmps158
 go_wp2_with fail;(with_reducible refine C1.o.mono ?_);rintro e w1 ⟨rfl,X⟩;have az:=Z_ X;have D2:=Z_ (C2.o w1 X);clear X;go_wp2_with fail;(with_reducible refine D2.o.mono ?_);rintro e w2 ⟨rfl,ah⟩;have aq:=Z_ (az.o.trans ah);have D3:=Z_ (C3.o w2 aq.o);clear ah;go_wp2_with fail;(with_reducible refine D3.o.mono ?_);rintro e w3 ⟨rfl,av⟩;have D:=Z_ (aq.o.trans av);have D4:=Z_ (au.o w3 D.o);clear av;go_wp2_with fail;(with_reducible refine D4.o.mono ?_);rintro e w4 ⟨v4,rfl,J,al⟩;have ad:=Z_ (D.o.trans al);have ar:=Z_ (J.to (S':=New W w4) (uN _ _) (λ k h=>⟨zT D.o.size h.1,h.2⟩));have D5:=Z_ (C3.o w4 ad.o);obtain⟨a4,c4,rfl⟩:=J.form;rw[<-ap.o]at ar;rw[<-ap.o];clear al J;go_wp2_with fail;(with_reducible refine D5.o.mono ?_);rintro e w5 ⟨rfl,O⟩;have Z:=Z_ (ad.o.trans O);have ay:=Z_ O;have D6:=Z_ (C5.o w5 Z.o);clear O;go_wp2_with fail;(with_reducible refine D6.o.mono ?_);rintro e w6 ⟨v6,rfl,I,z⟩;have ax:=Z_ (Z.o.trans z);have y:=Z_ (ay.o.trans z);have aa:=Z_ (I.to (S':=New W w6) (uN _ _) (λ k h=>⟨zT Z.o.size h.1,h.2⟩));obtain⟨a6,c6,rfl⟩:=I.form;rw[<-ai.o]at aa;rw[<-ai.o];clear z I;go_wp2
 all_goals
  go_ret2;have U:Ext w6 (w6.alloc (.cells #[.pointer pa,.int .i64 v,.int .i64 d,.slice ag ng cg,.slice a6 nh c6,.slice none 0 0,.slice a4 nf c4,.int .i64 0,.bool keep] 223)):=uO (uP w6) _;have hs:w6.heap.size<(w6.alloc (.cells #[.pointer pa,.int .i64 v,.int .i64 d,.slice ag ng cg,.slice a6 nh c6,.slice none 0 0,.slice a4 nf c4,.int .i64 0,.bool keep] 223)).heap.size:=by rw[z00];omega
  refine⟨w6.heap.size,.slice a6 nh c6,.slice a4 nf c4,rfl,ax.o.size,⟨ZJ _ _ _ rfl rfl,ZJ _ _ _ rfl rfl,ZJ _ _ _ rfl rfl,ZJ _ _ _ rfl rfl,ZJ _ _ _ rfl rfl,ZJ _ _ _ rfl rfl,ZJ _ _ _ rfl rfl,ZJ _ _ _ rfl rfl,ZJ _ _ _ rfl rfl,λ i=>Vt _ _ _⟩,?_,?_,ax.o.trans U⟩
  ·exact aa.o.to (uM U (λ _ h=>h.2)) (λ k h=>⟨⟨h.1,yD h.2 hs⟩,by have:=h.2;omega⟩)
  ·exact ar.o.to (uM (y.o.trans U) (λ _ h=>h.2)) (λ k h=>⟨⟨h.1,zU h.2 (zT y.o.size (xi hs))⟩,by have:=h.2;have:=y.o.size;omega⟩)
end
end Go.Proofs.YtlbohjnfkhemlaaGreat
