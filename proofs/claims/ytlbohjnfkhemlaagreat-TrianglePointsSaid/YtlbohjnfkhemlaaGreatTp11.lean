/- The calc of derived ones: products by a meter, and the first error. -/
import Derived.Deep.CutBlock
import Derived.IntWalk
import Derived.Deep.AppendLies
import Derived.Deep.RegionLaw
import Derived.Deep.RegionWith
import Derived.Deep.DeepCutAuto
import Derived.Test.YtlbohjnfkhemlaaGreatTp10
set_option maxRecDepth 100000
set_option maxHeartbeats 16000000
namespace Go.Proofs.YtlbohjnfkhemlaaGreat
section
open Go.RowKit
def zap(W:World)(o:Option Nat)(bd:Nat)(R:(Int×MSt)×PZ):Ending->World->Prop:=λ e W'=>∃x,e=.returned x/\CalcAt W' bd (ZK o) R.1.1/\MV W' o R.1.2/\Gd o bd W W'/\PN W.heap.size o bd W' x R.2
theorem IT{W:World}{bd:Nat}{vm u v:Value}{c:Int}(D:CalcAt W bd vm c)(hu:∃a n c,u=.slice a n c)(hv:∃a n c,v=.slice a n c)(hc:c≠0) :
  Calls Tryz.prog 121 #[.pointer (some ⟨bd,0,none⟩),u,v] W λ e W'=>e=.returned (.slice none 0 0)/\W'=W:=by
 have q0:(c != 0)=true:=by rw[bne_iff_ne];exact hc
 have e0:=D.c0;have e1:=D.c1;obtain⟨au,nu,cu,rfl⟩:=hu;obtain⟨av,nv,cv,rfl⟩:=hv;clear D hc
 go_enter Tryz.func121,Tryz.ntmps121
 go_wp2
 all_goals
  go_ret;exact⟨rfl,rfl⟩
theorem Gr{W:World}{bd:Nat}{vm u v:Value}{p q c:PZ}{k l n m:Nat}(D:CalcAt W bd vm 0)(hp:PV W u p)(hq:PV W v q)(fp:Fit k n p)(fq:Fit l m q)(hk:k<=1000000)(hl:l<=1000000)(hnm:n*m<=1000000000000)(ht:ZI p q=some c) :
  Calls Tryz.prog 121 #[.pointer (some ⟨bd,0,none⟩),u,v] W (Oq W bd vm c):=by
 have C:=PW hp hq fp fq hk hl hnm;rw[ht]at C;have HC:=Z_ C;have U:=Z_ D;have X:=D.c0;have e1:=D.c1;have z1:=D.fz 1;obtain⟨au,cu,rfl⟩:=hp.form;obtain⟨av,cv,rfl⟩:=hq.form;obtain⟨nu,I⟩:∃n,n=(Z5 p).length:=⟨_,rfl⟩
 obtain⟨nv,J⟩:∃n,n=(Z5 q).length:=⟨_,rfl⟩
 rw[<-I,<-J]at HC⊢;clear C D hp hq fp fq hk hl hnm ht I J
 go_enter Tryz.func121,Tryz.ntmps121
 go_wp2_with fail;(with_reducible refine HC.o.mono ?_);rintro e w1 ⟨x,rfl,K,O⟩;have Z:=Z_ K;have HG:=Z_ O;have y:=Z_ (U.o.ext O);obtain⟨ax,cx,rfl⟩:=K.form;obtain⟨nx,z⟩:∃n,n=(Z5 c).length:=⟨_,rfl⟩
 rw[<-z]at Z⊢;clear X e1 z1;have X:=y.o.c0;have e1:=y.o.c1;have z1:=y.o.fz 1;clear K O z;go_wp2
 all_goals
  go_ret;exact⟨_,rfl,y.o.set 0,(Y8 HG.o).trans (WT w1 (a:=⟨bd,1,none⟩) rfl _),Z.o.to (λ k hk=>(WT (o:=none) (bd:=bd) w1 (a:=⟨bd,1,none⟩) rfl _).block k hk.2 (by simp) (λ h=>by have:=U.o.lt;have:=hk.1;omega)) (λ k hk=>⟨hk.1,zU hk.2 (WT (o:=none) (bd:=bd) w1 (a:=⟨bd,1,none⟩) rfl _).size⟩)⟩
theorem Bc{W:World}{o:Option Nat}{s:MSt}{bd:Nat}{u v:Value}{p q:PZ}{k l n m:Nat}(D:CalcAt W bd (ZK o) 0)(hM:MV W o s)(hob:∀b,o=some b->b≠bd)(hp:PV W u p)(hq:PV W v q)(fp:Fit k n p)(fq:Fit l m q)(hk:k<=1000000)(hl:l<=1000000)(hnm:n*m<=1000000000000)(ht:ZI p q=none) :
  Calls Tryz.prog 121 #[.pointer (some ⟨bd,0,none⟩),u,v] W λ e W'=>e=.returned (.slice none 0 0)/\CalcAt W' bd (ZK o) 8/\MV W' o (W_ o s)/\Gd o bd W W':=by
 have C:=PW hp hq fp fq hk hl hnm;rw[ht]at C;have HC:=Z_ C;have HD:=Z_ D;have HM:=Z_ hM;have al:=Z_ hob;have ah:Hd (some bd≠o):=Z_ (λ e=>hob bd e.symm rfl);have ad:=Z_ (λ(Y:World) (h:MV Y o s)=>Pi h);obtain⟨vm,aa⟩:∃x,x=ZK o:=⟨_,rfl⟩
 have Z:=D.c0;have e1:=D.c1;have z1:=D.fz 1;rw[<-aa]at Z ad HD⊢;obtain⟨au,cu,rfl⟩:=hp.form;obtain⟨av,cv,rfl⟩:=hq.form;obtain⟨nu,ac⟩:∃n,n=(Z5 p).length:=⟨_,rfl⟩
 obtain⟨nv,ae⟩:∃n,n=(Z5 q).length:=⟨_,rfl⟩
 rw[<-ac,<-ae]at HC⊢;clear C D hM hob hp hq fp fq hk hl hnm ht ac ae aa
 go_enter Tryz.func121,Tryz.ntmps121
 go_wp2_with fail;(with_reducible refine HC.o.mono ?_);rintro e w1 ⟨rfl,I⟩;have HG:=Z_ I;have z:=Z_ (HD.o.ext I);have ai:=Z_ (HM.o.ext I);clear Z e1 z1;have Z:=z.o.c0;have e1:=z.o.c1;have z1:=z.o.fz 1;obtain⟨O,y⟩:∃Y,Y=w1.setCell ⟨bd,1,none⟩ (.int .i64 8):=⟨_,rfl⟩
 have af:Hd (MV O o s):=Z_ (by rw[y];exact ai.o.set al.o (a:=⟨bd,1,none⟩) rfl (.int .i64 8));have K:Hd (CalcAt O bd vm 8):=Z_ (by rw[y];exact z.o.set 8);have ag:Hd (Gd o bd w1 O):=Z_ (by rw[y];exact WT w1 (a:=⟨bd,1,none⟩) rfl _);have J:=Z_ (show Ext O O.drew from uI (uP _));have X:=Z_ (ad.o _ (af.o.ext J.o));clear I
 go_upto_region 4 with fail
 rw[<-y];clear y Z e1 z1;have Z:=K.o.c0;have e1:=K.o.c1;go_wp2
 go_still_tail 8,(by kernel_rfl)
 change wpList _ _ _ _ _ O.drew;go_wp2_with fail;(with_reducible refine X.o.mono ?_);rintro e w2 ⟨rfl,hm,I⟩;have aj:=Z_ hm;have U:=Z_ I;clear hm I;go_wp2
 all_goals
  go_ret;exact⟨rfl,(K.o.ext J.o).gb U.o ah.o,aj.o,((Y8 HG.o).trans ag.o).trans ((Y8 J.o).trans (WM U.o))⟩
theorem Q8{W:World}{o:Option Nat}{s:MSt}{bd:Nat}{u v:Value}{p q:PZ}{c:Int}(D:CalcAt W bd (ZK o) c)(hM:MV W o s)(hob:∀b,o=some b->b≠bd)(hp:PV W u p)(hq:PV W v q)(hf:Wt (c,s) p q) :
  Calls Tryz.prog 121 #[.pointer (some ⟨bd,0,none⟩),u,v] W (zap W o bd (Za o (c,s) p q)):=by
 by_cases z:c=0
 ·subst z;obtain⟨k,n,l,m,O,U,I,K,J⟩:=hf rfl
  cases ht:ZI p q with
  |some r=>
   refine(Gr D hp hq O U I K J ht).mono ?_;rintro e w1 ⟨x,rfl,d,g,X⟩
   have y:Za o (0,s) p q=((0,s),r):=by
    unfold Za;rw[if_neg (λ h=>h rfl),ht]
   rw[y];exact⟨x,rfl,d,hM.gdn g hob,g.of_none,X.to (uN _ _) (λ k hk=>⟨hk.1,hk.2,λ e=>by have:=hM.block e.symm;have:=hk.1;omega,λ e=>by have:=D.lt;have:=hk.1;omega⟩)⟩
  |none=>
   refine(Bc D hM hob hp hq O U I K J ht).mono ?_;rintro e w1 ⟨rfl,d,Z,g⟩
   have y:Za o (0,s) p q=((8,W_ o s),[]):=by
    unfold Za;rw[if_neg (λ h=>h rfl),ht]
   rw[y];exact⟨_,rfl,d,Z,g,z06.nilv _ _ _ _ (by decide)⟩
 ·obtain⟨au,cu,hu⟩:=hp.form;obtain⟨av,cv,hv⟩:=hq.form;refine(IT D ⟨_,_,_,hu⟩ ⟨_,_,_,hv⟩ z).mono ?_;rintro e w1 ⟨rfl,rfl⟩
  have y:Za o (c,s) p q=((c,s),[]):=by
   unfold Za;rw[if_pos z]
  rw[y];exact⟨_,rfl,D,hM,Gd.refl _ _ _,z06.nilv _ _ _ _ (by decide)⟩
def Rs(W:World)(o:Option Nat)(bd:Nat)(x:Value)(R:Int×MSt):Ending->World->Prop:=λ e W'=>e=.returned x/\CalcAt W' bd (ZK o) R.1/\MV W' o R.2/\Gd o bd W W'
theorem FY{W:World}{o:Option Nat}{s:MSt}{bd:Nat}{u:Value}{p:PZ}(D:CalcAt W bd (ZK o) 0)(hM:MV W o s)(hob:∀b,o=some b->b≠bd)(hp:PM o W u p) :
  Calls Tryz.prog 85 #[.pointer (some ⟨bd,0,none⟩),u] W (Rs W o bd u (z1b o s p)):=by
 have I:=Z_ (PY hM hp);have HD:=Z_ D;have X:=Z_ hob;have O:Hd (some bd≠o):=Z_ (λ e=>hob bd e.symm rfl);obtain⟨vm,z⟩:∃x,x=ZK o:=⟨_,rfl⟩
 have U:=D.c0;have Z:=D.c1;have z1:=D.fz 1;rw[<-z]at I U;generalize z1b o s p=m at I⊢;obtain⟨r,t⟩:=m;simp only at I⊢;obtain⟨au,cu,rfl⟩:=hp.form;obtain⟨nu,J⟩:∃n,n=(Z5 p).length:=⟨_,rfl⟩
 rw[<-J]at I⊢;clear D hM hob hp z J
 go_enter Tryz.func85,Tryz.ntmps85
 go_wp2_with fail;(with_reducible refine I.o.mono ?_);rintro e w1 ⟨rfl,hm,K⟩;have HM:=Z_ hm;have HG:=Z_ K;have y:=Z_ (HD.o.gb K O.o);clear U Z z1 hm K;have U:=y.o.c0;have Z:=y.o.c1;have z1:=y.o.fz 1;go_wp2
 all_goals
  go_ret;exact⟨rfl,y.o.set r,HM.o.set X.o (a:=⟨bd,1,none⟩) rfl _,(WM HG.o).trans (WT w1 (a:=⟨bd,1,none⟩) rfl _)⟩
theorem BV{W:World}{bd:Nat}{vm u:Value}{c:Int}(D:CalcAt W bd vm c)(hu:∃a n c,u=.slice a n c)(hc:c≠0) :
  Calls Tryz.prog 85 #[.pointer (some ⟨bd,0,none⟩),u] W λ e W'=>e=.returned u/\W'=W:=by
 have q0:(c == 0)=false:=by rw[beq_eq_false_iff_ne];exact hc
 have e0:=D.c0;have e1:=D.c1;obtain⟨au,nu,cu,rfl⟩:=hu;clear D hc
 go_enter Tryz.func85,Tryz.ntmps85
 go_wp2
 all_goals
  go_ret;exact⟨rfl,rfl⟩
theorem Lp{W:World}{o:Option Nat}{s:MSt}{bd:Nat}{u:Value}{p:PZ}{c:Int}(D:CalcAt W bd (ZK o) c)(hM:MV W o s)(hob:∀b,o=some b->b≠bd)(hp:PM o W u p) :
  Calls Tryz.prog 85 #[.pointer (some ⟨bd,0,none⟩),u] W (Rs W o bd u (Xl o (c,s) p)):=by
 by_cases y:c=0
 ·subst y;have z:Xl o (0,s) p=z1b o s p:=if_neg (λ h=>h rfl);rw[z];exact FY D hM hob hp
 ·obtain⟨au,cu,I⟩:=hp.form;refine(BV D ⟨_,_,_,I⟩ y).mono ?_;rintro e w1 ⟨rfl,rfl⟩;have z:Xl o (c,s) p=(c,s):=if_pos y;rw[z];exact⟨rfl,D,hM,Gd.refl _ _ _⟩
end
section
open Go.RowKit
theorem zap.mk'{W W':World}{o:Option Nat}{bd:Nat}{R:(Int×MSt)×PZ}{x:Value}(h1:CalcAt W' bd (ZK o) R.1.1)(h2:MV W' o R.1.2)(h3:Gd o bd W W')(h4:PN W.heap.size o bd W' x R.2):zap W o bd R (.returned x) W':=⟨x,rfl,h1,h2,h3,h4⟩
theorem ME{W:World}{o:Option Nat}{s:MSt}{bd:Nat}{u v vn vo:Value}{bn bo:Bool}{p t:PZ}{N own c:Int}(D:CalcAt W bd (ZK o) c)(hM:MV W o s)(hob:∀b,o=some b->b≠bd)(hp:PC o bd W u p)(ht:PC o bd W v t)
  (hn:U32s (Z2 W) W vn (Z8 N).mag) (hbn:bn=(Z8 N).neg) (hw:U32s (Z2 W) W vo (Z8 own).mag) (hbo:bo=(Z8 own).neg) (h0:own≠0) (hd:own∣N) (hN:ZX N<=1000000) (hO:ZX own<=1000000) (hf:U7 o (c,s) p t N own) :
  Calls Tryz.prog 82 #[.pointer (some ⟨bd,0,none⟩),u,v,.agg #[.bool bn,vn],.agg #[.bool bo,vo]] W (zap W o bd (Wv o (c,s) p t N own)):=by
 obtain⟨f1,f2⟩:=hf;have O:=Z_ f2;have hq:N=N / own*own:=(xH hd).symm
 have aS:ZX (N / own)<=1000000:=zT (Yp (by
  by_cases X:N=0
  ·rw[X];simp
  ·rw[hq]at X⊢;rw[Int.mul_ediv_cancel _ h0,xS]
   exact y9 _ (v_.2 h0))) hN
 obtain⟨W2,y⟩:∃Y,Y=((W.alloc (.cells #[.bool bn,vn] 28)).alloc (.cells #[.bool bo,vo] 28)):=⟨_,rfl⟩
 have ad:Hd (Ext W W2):=Z_ (by rw[y];exact uO (uO (uP W) _) _);have CE:=Z_ (UQ (S:=Z2 W2) (.agg #[.bool bn,vn]) (.agg #[.bool bo,vo]) (Z8 N) (Z8 own) W2 ⟨_,by rw[hbn],ZW hn ad.o⟩ ⟨_,by rw[hbo],ZW hw ad.o⟩ (λ _ h=>h) (zT hN (by decide)) (zT hO (by decide)) (N / own) (by rw[z09];exact h0) (by rw[z09,z09];exact hq));have az:=Z_ (λ(Y:World) (z:Value) (b:Bool) (hb:b=(Z8 (N / own)).neg) (X:U32s (Z2 Y) Y z (Z8 (N / own)).mag)=>SM (W:=Y) X hb (zT aS (by decide)));obtain⟨qz,J⟩:∃q,q=ZO (N / own) []:=⟨_,rfl⟩
 have HR:Hd (Wv o (c,s) p t N own=Za o (Za o (c,s) p qz).1 (Za o (c,s) p qz).2 t):=Z_ (by rw[J];rfl);have K:=Z_ (λ(Y:World) (z:Value) (hY:Ext W Y) (X:PV Y z qz)=>Q8 (D.ext hY) (hM.ext hY) hob (hp.on (Y8 hY)).pv X (by rw[J];exact f1));rw[<-J]at az O;rw[HR.o];generalize Za o (c,s) p qz=R1 at K O HR⊢;obtain⟨⟨e1,s1⟩,x1⟩:=R1;simp only at K O HR⊢;have aA:=Z_ (λ(Y:World) (z:Value) (d:CalcAt Y bd (ZK o) e1) (m:MV Y o s1) (g:Gd o bd W Y) (X:PV Y z x1)=>Q8 d m hob X (ht.on g).pv O.o);obtain⟨an,cn,rfl⟩:=hn.form;obtain⟨ao',co,rfl⟩:=hw.form;obtain⟨ap,cp,rfl⟩:=hp.form;obtain⟨at',ct,rfl⟩:=ht.form;obtain⟨nn,aj⟩:∃n,n=(Z8 N).mag.length:=⟨_,rfl⟩
 obtain⟨no,ai⟩:∃n,n=(Z8 own).mag.length:=⟨_,rfl⟩
 obtain⟨np,aa⟩:∃n,n=(Z5 p).length:=⟨_,rfl⟩
 obtain⟨nt,al⟩:∃n,n=(Z5 t).length:=⟨_,rfl⟩
 rw[<-aj,<-ai]at y CE;rw[<-aa]at K;rw[<-al]at aA;rw[<-aj,<-ai,<-aa,<-al]
 have a9:=Z_ (λ(Y:World) (h:Ext W2 Y)=>by
  rw[y]at h;have k1:Ext (W.alloc (.cells #[.bool bn,.slice an nn cn] 28)) Y:=(uO (uP _) _).trans h;have k2:=λ i v hv=>h.new_cell (i:=i) (v:=v) hv;rw[z00]at k2
  exact zS (λ i v hv=>k1.new_cell (i:=i) (v:=v) hv) k2)
 obtain⟨b1,b2⟩:=a9.o W2 (uP _);have c0:=b1 0 _ rfl;have c1:=b1 1 _ rfl;have c2:=b2 0 _ rfl;have c3:=b2 1 _ rfl;rw[y]at c0 c1 c2 c3 CE;have ba:=Z_ y;clear D hM hob hp ht hn hbn hw hbo h0 hd hN hO f1 f2 hq aS J y aj ai aa al b1 b2
 go_enter Tryz.func82,Tryz.ntmps82
 go_wp2_with fail;(with_reducible refine CE.o.mono ?_);rintro e w1 ⟨v1,rfl,⟨vm1,rfl,U⟩,aq⟩;rw[<-ba.o]at aq U;have a7:=Z_ (ad.o.trans aq);have au:=Z_ (YQ U);obtain⟨a1,k1,rfl⟩:=U.form;obtain⟨n1,ag⟩:∃n,n=(Z8 (N / own)).mag.length:=⟨_,rfl⟩
 obtain⟨g1,ar⟩:∃n,n=(Z8 (N / own)).neg:=⟨_,rfl⟩
 rw[<-ag]at au;rw[<-ag,<-ar];obtain⟨w2,I⟩:∃Y,Y=w1.alloc (.cells #[.bool g1,.slice a1 n1 k1] 28):=⟨_,rfl⟩
 have Z:Hd (Ext w1 w2):=Z_ (by rw[I];exact uO (uP _) _);have d0:w2.cell? ⟨w1.heap.size,0,none⟩=some (.bool g1):=by rw[I];exact(uP _).new_cell rfl
 have d1:w2.cell? ⟨w1.heap.size,1,none⟩=some (.slice a1 n1 k1):=by rw[I];exact(uP _).new_cell rfl
 have a8:=Z_ (az.o w2 (.slice a1 n1 k1) g1 ar (ZW au.o Z.o));clear aq U ag ar c0 c1 c2 c3 CE
 go_upto_region 2 with fail
 rw[<-I];clear I;go_wp2_with fail;(with_reducible refine a8.o.mono ?_);rintro e w3 ⟨v3,rfl,ah,a0⟩;have ax:=Z_ ((a7.o.trans Z.o).trans a0);have aR:=Z_ (K.o w3 v3 ax.o (ah.to (uN _ _) uK));obtain⟨a3,k3,rfl⟩:=ah.form;obtain⟨n3,aC⟩:∃n,n=(Z5 qz).length:=⟨_,rfl⟩
 rw[<-aC]at aR⊢;clear a0 ah aC d0 d1;go_wp2_with fail;(with_reducible refine aR.o.mono ?_);rintro e w4 ⟨v4,rfl,aH,a2,aF,ae⟩;have af:=Z_ ((Y8 ax.o).trans aF);have aN:=Z_ (aA.o w4 v4 aH a2 af.o ae.pc.pv);obtain⟨a4,k4,rfl⟩:=ae.form;obtain⟨n4,aP⟩:∃n,n=(Z5 x1).length:=⟨_,rfl⟩
 rw[<-aP]at aN⊢;clear aH a2 aF ae aP;go_wp2_with fail;(with_reducible refine aN.o.mono ?_);rintro e w5 ⟨v5,rfl,av,a6,aB,ac⟩;have aG:=Z_ (zap.mk' av a6 (af.o.trans aB) (ac.low af.o.size));obtain⟨a5,k5,rfl⟩:=ac.form;obtain⟨n5,ay⟩:∃n,n=(Z5 (Za o (e1,s1) x1 t).2).length:=⟨_,rfl⟩
 rw[<-ay]at aG⊢;clear av a6 aB ac ay;go_wp2
 all_goals
  go_ret;exact aG.o
theorem DJ{W:World}{o:Option Nat}{s:MSt}{bd:Nat}{vl vp:Value}{ls:List DZ}{ns:List Int}{c:Int}(D:CalcAt W bd (ZK o) c)(hM:MV W o s)(hob:∀b,o=some b->b≠bd)(hl:Ders (NC o bd W) W vl ls)(hp:Ints (NC o bd W) W vp ns)
  (hlen:ns.length=ls.length) (hfit:∀d∈ls,∃k n:Nat,Fit k n d.P/\k<=1000000/\n<=1000000000000) (hf:Od o ((ls.map DZ.P).zip ns) ((c,s),ZO 1 [])) :
  Calls Tryz.prog 81 #[.pointer (some ⟨bd,0,none⟩),vl,vp] W (zap W o bd (z9d o ((ls.map DZ.P).zip ns) ((c,s),ZO 1 []))):=by
 have CO:=Z_ (VM 1 W (by decide));have b2:=Z_ (λ(Y:World) (z:Value) (hz:U32s (Z2 Y) Y z (Z8 1).mag)=>SM (W:=Y) (ng:=(Z8 1).neg) hz rfl (by decide));have HD:=Z_ D;have HM:=Z_ hM;have bv:=Z_ hob;have HL:=Z_ hl;have HP:=Z_ hp;have cg:=Z_ hfit;have HF:=Z_ hf;have aN:=Z_ (λ b hb=>hM.block (b:=b) hb);obtain⟨zl,ai⟩:∃z,z=(ls.map DZ.P).zip ns:=⟨_,rfl⟩
 have aR:=Z_ ai;rw[<-ai]at HF⊢;obtain⟨a0,az⟩:∃a:(Int×MSt)×PZ,a=((c,s),ZO 1 []):=⟨_,rfl⟩
 have af:=Z_ az;rw[<-az]at HF⊢;obtain⟨al,cl,rfl⟩:=hl.form;obtain⟨ap,cp,rfl⟩:=hp.form;obtain⟨n,hn⟩:∃n,n=ls.length:=⟨_,rfl⟩
 rw[hlen,<-hn]at HP⊢;rw[<-hn]at HL;have hll:n<=9223372036854775807:=by rw[hn];exact hl.len_le
 have HN:=Z_ (zS hn (hlen.trans hn.symm));clear D hM hob hl hp hlen hfit hf ai az hn
 go_enter Tryz.func81,Tryz.ntmps81
 go_wp2_with fail;(with_reducible refine CO.o.mono ?_);rintro e w1 ⟨v1,rfl,⟨ch,rfl,ay⟩,bn⟩;have aG:=Z_ bn;have bu:=Z_ (b2.o w1 ch (YQ ay));obtain⟨a1,k1,rfl⟩:=ay.form;obtain⟨n1,a7⟩:∃n,n=(Z8 1).mag.length:=⟨_,rfl⟩
 rw[<-a7]at bu⊢;clear bn ay a7;go_wp2_with fail;(with_reducible refine bu.o.mono ?_);rintro e w2 ⟨v2,rfl,ar,aC⟩;have ae:=Z_ (aG.o.trans aC)
 have b6:=Z_ (ar.to (S':=λ k=>W.heap.size<=k/\NC o bd w2 k) (uN _ _) (λ k hk=>by
  have h1:=aG.o.size;have h2:=HD.o.lt;have h3:=hk.1
  exact⟨by omega,hk.2,λ e=>by have:=aN.o k e.symm;omega,by omega⟩))
 obtain⟨a2,k2,rfl⟩:=ar.form;clear ar aC;go_wp2
 go_loopw [7,15] (λ u i wr=>∃(k:Nat) (A:(Int×MSt)×PZ),k<=n/\i=.int .i64 (k:Nat)/\Hd (A=z9d o (zl.take k) a0)/\Hd (CalcAt wr bd (ZK o) A.1.1)/\Hd (MV wr o A.1.2)/\Hd (Gd o bd W wr)/\Hd (PN W.heap.size o bd wr u A.2)) (λ _ i _=>n-(intOf i).toNat)
 case atStart=>
  refine⟨0,a0,zL _,rfl,Z_ rfl,?_,?_,Z_ (Y8 ae.o),?_⟩
  ·rw[af.o];exact Z_ (HD.o.ext ae.o)
  ·rw[af.o];exact Z_ (HM.o.ext ae.o)
  ·rw[af.o];exact b6
 case round=>
  obtain⟨k,A,hk,rfl,a6,bt,a4,y,ad⟩:=hrel;obtain⟨au,cu,rfl⟩:=ad.o.form
  by_cases bf:k<n
  ·obtain⟨d,hd⟩:=ZN (l:=ls) (j:=k) (by rw[<-HN.o.1];exact bf);obtain⟨nk,ag⟩:=ZN (l:=ns) (j:=k) (by rw[HN.o.2];exact bf)
   have hz:zl[k]? = some (d.P,nk):=by
    rw[aR.o,vL];exact⟨by rw[yZ,hd];rfl,ag⟩
   have HZ:=Z_ (zS (HF.o k _ hz) (iO_ (o:=o) (a:=a0) hz));obtain⟨b,ob,vm,vpp,vb,rfl,-,h2,h3,-,h5,h6,h7,h8,-,aq,-⟩:=(HL.o.to (V7 y.o) (Ua y.o.size)).cellAt hd;obtain⟨bp,op,rfl,-,i2,i3,-,i4,i5⟩:=(HP.o.to (V7 y.o) (Ua y.o.size)).cellAt ag;have hnk64:nk<=9223372036854775807:=i4.2;obtain⟨fk,fn,ff,b4,b1⟩:=cg.o d (zP hd);have CI:=Z_ (Mu (PC.pv aq) ff b4 b1);obtain⟨ap',cp',rfl⟩:=aq.form;obtain⟨np',aa⟩:∃n,n=(Z5 d.P).length:=⟨_,rfl⟩
   rw[<-aa]at CI h7;obtain⟨x,hx⟩:∃x,x=Y_ d.P:=⟨_,rfl⟩
   have hZ:=HZ.o;rw[<-a6.o]at hZ;simp only at hZ;rw[<-hx]at CI hZ;have aS:=Z_ hZ;clear hd ag hz aq aa hx h5 h6 h8 HZ hZ ff;go_wp2_with fail;(with_reducible refine CI.o.mono ?_);rintro e w3 ⟨v3,rfl,aj,K⟩;have aF:=Z_ K
   have bb:=Z_ (aj.to (S':=NC o bd w3) (uN _ _) (λ i hi=>by
    have h1:=y.o.size;have h2:=HD.o.lt;have h3:=hi.1
    exact⟨hi.2,λ e=>by have:=aN.o i e.symm;omega,by omega⟩))
   have HG3:=Z_ (y.o.trans (Y8 K));have cc:=Z_ (bt.o.ext K);have b7:=Z_ (a4.o.ext K);have cd:=Z_ (ad.o.on (Y8 K));obtain⟨a3,k3,rfl⟩:=aj.form;obtain⟨n3,a9⟩:∃n,n=(Z5 x).length:=⟨_,rfl⟩
   rw[<-a9]at bb⊢;clear aj K h7 i5 CI;clear a9
   go_upto_region 7 with fail
   go_loopw [7,27] (λ u i wr=>∃(j:Nat),j<=nk.toNat/\i=.int .i64 (j:Nat)/\Hd (CalcAt wr bd (ZK o) (Yu o x A j).1.1)/\Hd (MV wr o (Yu o x A j).1.2)/\Hd (Gd o bd w3 wr)/\Hd (PN W.heap.size o bd wr u (Yu o x A j).2)) (λ _ i _=>nk.toNat-(intOf i).toNat)
   case atStart=>exact⟨0,zL _,rfl,cc,b7,Z_ (Gd.refl _ _ _),cd⟩
   case round=>
    obtain⟨j,hj,rfl,Z,J,U,O⟩:=hrel;have aH:Yu o x A (j+1)=QP o x (Yu o x A j):=rfl;have ac:Hd (j<nk.toNat->Wt (Yu o x A j).1 (Yu o x A j).2 x):=Z_ (aS.o.1 j);have I:=Z_ aH;clear aH;generalize hBE:Yu o x A j=B at Z J O ac I;have ce:=Z_ hBE;clear hBE;obtain⟨⟨eB,sB⟩,pB⟩:=B;simp only at Z J O ac I;obtain⟨aB,cB,rfl⟩:=O.o.form
    by_cases cb:j<nk.toNat
    ·have bx:(j:Int)<nk:=by omega
     have CT:=Z_ (Q8 Z.o J.o bv.o O.o.pc.pv (PC.pv (bb.o.to (V7 U.o) (Ua U.o.size))) (ac.o cb));obtain⟨nB,ah⟩:∃n,n=(Z5 pB).length:=⟨_,rfl⟩
     rw[<-ah]at CT;rw[<-ah];have hs:QP o x ((eB,sB),pB)=(Xl o (Za o (eB,sB) pB x).1 (Za o (eB,sB) pB x).2,(Za o (eB,sB) pB x).2):=rfl;rw[hs]at I;generalize Za o (eB,sB) pB x=R at CT I;obtain⟨⟨eR,sR⟩,pR⟩:=R;simp only at CT I;clear ah hs;go_wp2_with fail;(with_reducible refine CT.o.mono ?_);rintro e w5 ⟨v5,rfl,aA,bl,a8,X⟩;have ca:=Z_ (U.o.trans a8);have bg:=Z_ (X.low (zT (zT y.o.size aF.o.size) U.o.size));have CK:=Z_ (Lp aA bl bv.o X.pc.pm);obtain⟨a5,k5,rfl⟩:=X.form;obtain⟨n5,aP⟩:∃n,n=(Z5 pR).length:=⟨_,rfl⟩
     rw[<-aP]at CK bg⊢;clear aA bl a8 X aP;go_wp2_with fail;(with_reducible refine CK.o.mono ?_);rintro e w6 ⟨rfl,ba,bs,av⟩;have b3:=Z_ ba;have bB:=Z_ bs;have bN:=Z_ (ca.o.trans av);have bA:=Z_ (bg.o.on av);clear ba bs av;go_wp2
     go_roundw
     case rel=>
      refine⟨j+1,by omega,by go_num,?_,?_,bN,?_⟩
      ·rw[I.o];exact b3
      ·rw[I.o];exact bB
      ·rw[I.o];exact bA
     case measure=>simp only[intOf];omega
    ·have bx:¬ (j:Int)<nk:=by omega
     obtain rfl:j=nk.toNat:=by omega
     go_wp2
     go_roundw
     case rel=>
      refine⟨k+1,((eB,sB),pB),by omega,by go_num,?_,Z,J,Z_ (y.o.trans ((Y8 aF.o).trans U.o)),O⟩;exact Z_ (ce.o.symm.trans aS.o.2.symm)
     case measure=>simp only[intOf];omega
  ·obtain rfl:k=n:=by omega
   have ax:=a6.o;rw[zN (by rw[aR.o,List.length_zip,zE,<-HN.o.1];exact Nat.min_le_left _ _)]at ax;have HC:=Z_ (zap.mk' bt.o a4.o y.o ad.o);rw[ax]at HC;rw[ax];obtain⟨nu,bm⟩:∃n,n=(Z5 (z9d o zl a0).2).length:=⟨_,rfl⟩
   rw[<-bm]at HC⊢;clear bm;go_wp2
   all_goals
    go_ret;exact HC.o
end
section
open Go.RowKit
theorem OG{k n:Nat}{p:PZ}(h:Fit k n p){t:Int×Z7}(ht:t∈p):ZX t.1<=k:=Xm (h.2.1 t ht)
theorem P0{k n:Nat}{p:PZ}(h:Fit k n p):ZX (Zu p:Int)<=k:=by
 by_cases y:p=[]
 ·rw[y];exact zL _
 ·obtain⟨t,r,rfl⟩:=xW y;refine zT (Yp ?_) (OG h (zz ..));exact xA (v_.2 (h.can.1 t (zz ..)).1) (xB.2 (Tk (zz ..)))
theorem IntAt.fresh{w W:World}{g:Int}{a:Option Addr}{c:Nat}{T:Nat}(hx:Ext w W)(hu:U32s (λ k=>w.heap.size<=k/\k<W.heap.size) W (.slice a (Z8 g).mag.length c) (Z8 g).mag) :
  IntAt w W.heap.size (W.alloc (.cells #[.bool (Z8 g).neg,.slice a (Z8 g).mag.length c] T)) g a c:=by
 have z:Ext W (W.alloc (.cells #[.bool (Z8 g).neg,.slice a (Z8 g).mag.length c] T)):=uO (uP W) _;have y:=uP (W.alloc (.cells #[.bool (Z8 g).neg,.slice a (Z8 g).mag.length c] T));exact⟨y.new_cell rfl,y.new_cell rfl,y.new_free 0,y.new_free 1,hu.to (uM z (λ _ h=>h.2)) (λ i hi=>⟨hi.1,zU hi.2 z.size,λ e=>by have:=hi.2;omega⟩),hx.trans z,hx.size⟩
abbrev uj:=@IntAt.fresh
structure Box4 (w:World) (b:Nat) (W:World) (x0 x1 x2 x3:Value):Prop where
 c0:W.cell? ⟨b,0,none⟩=some x0
 c1:W.cell? ⟨b,1,none⟩=some x1
 c2:W.cell? ⟨b,2,none⟩=some x2
 c3:W.cell? ⟨b,3,none⟩=some x3
 f0:W.frozen? ⟨b,0,none⟩=false
 f1:W.frozen? ⟨b,1,none⟩=false
 f2:W.frozen? ⟨b,2,none⟩=false
 f3:W.frozen? ⟨b,3,none⟩=false
 ex:Ext w W
 lo:w.heap.size<=b
theorem Box4.fresh{w W:World}{x0 x1 x2 x3:Value}{T:Nat}(hx:Ext w W):Box4 w W.heap.size (W.alloc (.cells #[x0,x1,x2,x3] T)) x0 x1 x2 x3:=by
 have z:Ext W (W.alloc (.cells #[x0,x1,x2,x3] T)):=uO (uP W) _;have y:=uP (W.alloc (.cells #[x0,x1,x2,x3] T));exact⟨y.new_cell rfl,y.new_cell rfl,y.new_cell rfl,y.new_cell rfl,y.new_free 0,y.new_free 1,y.new_free 2,y.new_free 3,hx.trans z,hx.size⟩
theorem Box4.ext{w W W':World}{b:Nat}{x0 x1 x2 x3:Value}(h:Box4 w b W x0 x1 x2 x3)(hx:Ext W W'):Box4 w b W' x0 x1 x2 x3 :=
 have hl:=Zj h.c0
 ⟨hx.cell h.c0,hx.cell h.c1,hx.cell h.c2,hx.cell h.c3,hx.free hl h.f0,hx.free hl h.f1,hx.free hl h.f2,hx.free hl h.f3,h.ex.trans hx,h.lo⟩
theorem Box4.grown{w W W':World}{b:Nat}{x0 x1 x2 x3:Value}{row:Option Nat}(h:Box4 w b W x0 x1 x2 x3)(hg:W.grownBy W' row)(hne:some b≠row)(hr:∀k,row=some k->w.heap.size<=k):Box4 w b W' x0 x1 x2 x3 :=
 have y:=Zj h.c0
 ⟨ZT hg h.c0 hne,ZT hg h.c1 hne,ZT hg h.c2 hne,ZT hg h.c3 hne,(hg.frozen_far ⟨b,0,none⟩ y hne).trans h.f0,(hg.frozen_far ⟨b,1,none⟩ y hne).trans h.f1,(hg.frozen_far ⟨b,2,none⟩ y hne).trans h.f2,(hg.frozen_far ⟨b,3,none⟩ y hne).trans h.f3,YU h.ex hg hr,h.lo⟩
theorem Box4.set2{w W:World}{b:Nat}{x0 x1 x2 x3:Value}(h:Box4 w b W x0 x1 x2 x3)(y:Value):Box4 w b (W.setCell ⟨b,2,none⟩ y) x0 x1 y x3 :=
 ⟨ZZ h.c0 (ao (by decide)),ZZ h.c1 (ao (by decide)),YT h.c2,ZZ h.c3 (ao (by decide)),Zg h.f0,Zg h.f1,Zg h.f2,Zg h.f3,h.ex.setCell (p:=⟨b,2,none⟩) h.lo y,h.lo⟩
theorem Box4.set3{w W:World}{b:Nat}{x0 x1 x2 x3:Value}(h:Box4 w b W x0 x1 x2 x3)(y:Value):Box4 w b (W.setCell ⟨b,3,none⟩ y) x0 x1 x2 y :=
 ⟨ZZ h.c0 (ao (by decide)),ZZ h.c1 (ao (by decide)),ZZ h.c2 (ao (by decide)),YT h.c3,Zg h.f0,Zg h.f1,Zg h.f2,Zg h.f3,h.ex.setCell (p:=⟨b,3,none⟩) h.lo y,h.lo⟩
theorem Box4.set01{w W:World}{b:Nat}{x0 x1 x2 x3:Value}(h:Box4 w b W x0 x1 x2 x3)(y z:Value):Box4 w b ((W.setCell ⟨b,0,none⟩ y).setCell ⟨b,1,none⟩ z) y z x2 x3 :=
 ⟨(YY y z h.c0 h.c1).1,(YY y z h.c0 h.c1).2,ZZ (ZZ h.c2 (ao (by decide))) (ao (by decide)),ZZ (ZZ h.c3 (ao (by decide))) (ao (by decide)),Xs h.f0 _ _,Xs h.f1 _ _,Xs h.f2 _ _,Xs h.f3 _ _,h.ex.set2 h.lo y z,h.lo⟩
theorem AZ{d:DZ}(h:0<d.N):d.N*(Xy d.P:Int)=(YE d:Int):=by
 unfold YE;rw[yz,xt (by omega)]
theorem Pm{k n:Nat}{p:PZ}(h:Fit k n p)(hk:1<=k):ZX (Xy p:Int)<=k:=by
 unfold Xy
 split
 ·exact zT (by decide) hk
 ·exact P0 h
theorem M_{d:DZ}{k n K:Nat}(hN:ZX d.N<=K)(h:Fit k n d.P)(hk:1<=k):ZX (YE d:Int)<=K+k:=by
 refine YZ ZU _ _ ?_;rw[y7];unfold YE;have z:d.N.natAbs<Z9^K:=zU (Vv d.N) (zA (by decide) hN)
 have y:Xy d.P<Z9^k:=by
  have:=Vv (Xy d.P:Int);rw[y7]at this;exact zU this (zA (by decide) (Pm h hk))
 rw[yH];exact vO z (xi y) (yK (by decide))
theorem Iu{m:Nat}(h:0<m)(l:List PZ):ZX (YL m l:Int)<=ZX (m:Int):=by
 refine Yp ?_;rw[y7,y7];exact xA h (TE l).1
theorem DC{m:Nat}{l:List PZ}{j:Nat}{b:PZ}(h:l[j]? = some b):YL m (l.take (j+1))=Nat.gcd (YL m (l.take j)) (Zu b):=by
 rw[zv,h];exact J7 _ _ _
theorem Box4.off{w W:World}{b b':Nat}{x0 x1 x2 x3:Value}(h:Box4 w b W x0 x1 x2 x3)(hne:b'≠b)(hlo:w.heap.size<=b')(y z:Value):Box4 w b ((W.setCell ⟨b',0,none⟩ y).setCell ⟨b',1,none⟩ z) x0 x1 x2 x3 :=
 ⟨ZZ (ZZ h.c0 (ab hne)) (ab hne),ZZ (ZZ h.c1 (ab hne)) (ab hne),ZZ (ZZ h.c2 (ab hne)) (ab hne),ZZ (ZZ h.c3 (ab hne)) (ab hne),Xs h.f0 _ _,Xs h.f1 _ _,Xs h.f2 _ _,Xs h.f3 _ _,h.ex.set2 hlo y z,h.lo⟩
theorem JG{ws w1 w2:World}{b5:Nat}(h:ws.grownBy w1 (some b5))(hx:Ext w1 w2):ws.grownBy w2 (some b5) :=
 ⟨hx.os.trans h.os,hx.tape.trans h.tape,hx.output.trans h.output,zT h.size hx.size,λ k hk hne=>(hx.block k (zU hk h.size)).trans (h.block k hk hne)⟩
theorem Ib{ws w1 w2:World}{b5:Nat}{row:Option Nat}(h:ws.grownBy w1 (some b5))(hg:w1.grownBy w2 row)(hr:∀k,row=some k->ws.heap.size<=k):ws.grownBy w2 (some b5) :=
 ⟨hg.os.trans h.os,hg.tape.trans h.tape,hg.output.trans h.output,zT h.size hg.size,λ k hk hne=>(hg.block k (zU hk h.size) (λ e=>by have:=hr k e.symm;omega)).trans (h.block k hk hne)⟩
theorem O0(w1:World)(b5 i:Nat)(x:Value):w1.grownBy (w1.setCell ⟨b5,i,none⟩ x) (some b5) :=
 ⟨rfl,rfl,rfl,by rw[z03];exact zR _,λ k _ hk=>Below.heap_setCell _ _ _ k (λ e=>hk (by rw[e]))⟩
theorem KT{ws w1:World}{b5:Nat}(h:ws.grownBy w1 (some b5))(i:Nat)(x:Value):ws.grownBy (w1.setCell ⟨b5,i,none⟩ x) (some b5) :=
 ⟨h.os,h.tape,h.output,by rw[z03];exact h.size,λ k hk hne=>((O0 w1 b5 i x).block k (zU hk h.size) hne).trans (h.block k hk hne)⟩
theorem Tu{w:World}{base:Nat}{e:TypeId}{size:Nat}{v:Value}{n:Nat}{xs:List Value}(h:w.ownsRow base e size v n xs):∃a m c,v=.slice a m c:=by
 rcases h.2 with ⟨rfl,h0⟩|⟨g,cap,cur,rfl,hg,hh,h1,h2,h3,h4⟩
 ·exact⟨_,_,_,rfl⟩
 ·exact⟨_,_,_,rfl⟩
structure GAt (w:World) (b5 b:Nat) (W:World) (g:Int) (a:Option Addr) (c:Nat):Prop where
 i:IntAt w b W g a c
 u:U32s (λ k=>w.heap.size<=k/\k<W.heap.size/\k≠b/\k≠b5) W (.slice a (Z8 g).mag.length c) (Z8 g).mag
 lt:b5<W.heap.size
 ne:b5≠b
 lo:w.heap.size<=b5
theorem GAt.put{w W W':World}{b5 b:Nat}{g g':Int}{a a':Option Addr}{c c':Nat}(h:GAt w b5 b W g a c)(hx:Ext W W')(hu:U32s (New W W') W' (.slice a' (Z8 g').mag.length c') (Z8 g').mag) :
  GAt w b5 b ((W'.setCell ⟨b,0,none⟩ (.bool (Z8 g').neg)).setCell ⟨b,1,none⟩ (.slice a' (Z8 g').mag.length c')) g' a' c':=by
 have hl:=Zj h.i.c0;refine⟨h.i.put hx hu,?_,by simp only[z03];exact zU h.lt hx.size,h.ne,h.lo⟩;exact(Wc hu (λ e=>by have:=e.1;omega) _ _).to (uN _ _) (λ i hi=>⟨zT h.i.ex.size hi.1,by simp only[z03];exact hi.2,by have:=hi.1;omega,by have:=hi.1;have:=h.lt;omega⟩)
theorem GAt.ext{w W W':World}{b5 b:Nat}{g:Int}{a:Option Addr}{c:Nat}(h:GAt w b5 b W g a c)(hx:Ext W W'):GAt w b5 b W' g a c :=
 ⟨h.i.ext hx,h.u.to (uM hx (λ _ h=>h.2.1)) (λ _ hk=>⟨hk.1,zU hk.2.1 hx.size,hk.2.2⟩),zU h.lt hx.size,h.ne,h.lo⟩
theorem GAt.cell{w W:World}{b5 b:Nat}{g:Int}{a:Option Addr}{c:Nat}(h:GAt w b5 b W g a c)(i:Nat)(x:Value):GAt w b5 b (W.setCell ⟨b5,i,none⟩ x) g a c:=by
 have y:=XT (a:=⟨b5,i,none⟩) h.u (λ e=>e.2.2.2 rfl) x
 refine⟨⟨ZZ h.i.c0 (ab h.ne),ZZ h.i.c1 (ab h.ne),Zg h.i.f0,Zg h.i.f1,?_,h.i.ex.setCell (p:=⟨b5,i,none⟩) h.lo x,h.i.lo⟩,?_,by simp only[z03];exact h.lt,h.ne,h.lo⟩
 ·exact y.to (uN _ _) (λ k hk=>⟨hk.1,by simp only[z03];exact hk.2.1,hk.2.2.1⟩)
 ·exact y.to (uN _ _) (λ k hk=>⟨hk.1,by simp only[z03];exact hk.2.1,hk.2.2⟩)
theorem Cz(n:Nat):Zx (n:Int)=if n=0 then 0 else 1:=by
 unfold Zx cmpI
 by_cases h:n=0
 ·subst h;rfl
 ·rw[if_neg (by omega),if_pos (by omega),if_neg h]
theorem Lq{W:World}{v:Value}{d:DZ}{k n K:Nat}(hd:DerV (Z2 W) W v d)(h0:0<d.N)(fP:Fit k n d.P)(fB:∀b∈d.By,Fit k n b)(h1k:1<=k)(hm:d.By.length<=1000000)(hN:ZX d.N<=K)(hK:K+k<=900000)(hn:n<=100000000000) :
  Calls Tryz.prog 40 #[v] W λ e w'=>∃v',e=.returned (.tuple #[v',.int .i64 0])/\DerV (New W w') w' v' (WE d)/\Ext W w':=by
 have hnot:∀(x:Bool) (w:World),(Op.unary .not (.bool x)).run Tryz.prog w=.ok (.bool (!x)) w:=λ _ _=>rfl;have HJ:=Z_ (info_parts uv);obtain⟨vn,vp,vb,rfl,cG,bs,df⟩:=hd;have HU:=Z_ cG;have fr:=Z_ bs;have e4:=Z_ df;have hH:=Z_ fP;have fF:=Z_ fB;have b7:=Z_ h0;have i6:=Z_ h1k;have aA:=Z_ (zS hm (zS hN (zS hK hn)));have CS:=Z_ (λ(Y:World) (hY:Ext W Y)=>X5 (S:=Z2 Y) (.agg #[.bool (Z8 d.N).neg,vn]) (Z8 d.N) Y ⟨_,rfl,ZW cG hY⟩ (λ _ h=>h) (zT hN (by omega)));rw[z09,show Zx d.N=1 by unfold Zx cmpI;rw[if_neg (by omega),if_pos h0]]at CS;have CM:=Z_ (λ(Y:World) (hY:Ext W Y)=>Um (W:=Y) (z06.on bs hY) fP (by omega))
 have hF:US (d.By.map Z5):=λ p hp=>by
  obtain⟨b,hb,rfl⟩:=zG.1 hp;exact(fB b hb).small (by omega)
 have CA:=Z_ (λ(Y:World) (hY:Ext W Y)=>Pr (S:=Z2 Y) vb (d.By.map Z5) Y (z1w.on df hY) (λ _ h=>h) hF);rw[show(d.By.map Z5).all ZR=true from xb.2 (λ p hp=>by obtain⟨b,hb,rfl⟩:=zG.1 hp;exact Xc (fB b hb).can)]at CA;have CC:=Z_ (λ(Y:World) (hY:Ext W Y)=>P5 (S:=Z2 Y) vp (Z5 d.P) Y (z06.on bs hY) (λ _ h=>h) (λ t ht=>zT (fP.lens t ht) (by omega)) (Xc fP.can));rw[z53]at CC;have CB:=Z_ (λ(b:PZ) (hb:b∈d.By) (v:Value) (Y:World) (hv:z06 (Z2 Y) Y v (Z5 b))=>P5 (S:=Z2 Y) v (Z5 b) Y hv (λ _ h=>h) (λ t ht=>zT ((fB b hb).lens t ht) (by omega)) (Xc (fB b hb).can));have ca:=Z_ (λ(l:List PZ)=>zT (Iu (PH h0) l) (zT (M_ hN fP h1k) hK));have CW:=Z_ (λ(Y:World) (hY:Ext W Y)=>Ek (W:=Y) (z06.on bs hY) fP (by omega) (by omega));obtain⟨an,cn,rfl⟩:=cG.form;obtain⟨ap,cp,rfl⟩:=bs.form;obtain⟨f9,cb,rfl⟩:=df.form;obtain⟨nn,c4⟩:∃z,z=(Z8 d.N).mag.length:=⟨_,rfl⟩
 obtain⟨bn,dr⟩:∃z,z=(Z8 d.N).neg:=⟨_,rfl⟩
 obtain⟨np,dq⟩:∃z,z=(Z5 d.P).length:=⟨_,rfl⟩
 obtain⟨nb,ds⟩:∃z,z=(d.By.map Z5).length:=⟨_,rfl⟩
 rw[<-c4]at HU CS;rw[<-dr]at CS;rw[<-dq]at fr CM CC CW;rw[<-ds]at e4 CA;rw[<-c4,<-dr,<-dq,<-ds];have av:=Z_ (zS c4 (zS dr (zS dq ds)));obtain⟨w0,aF⟩:∃Y,Y=((W.alloc (.cells #[.bool bn,.slice an nn cn,.slice ap np cp,.slice f9 nb cb] 48)).alloc (.cells #[.bool false,.slice none 0 0,.slice none 0 0,.slice none 0 0] 48)):=⟨_,rfl⟩
 have J:Hd (Ext W w0):=Z_ (by rw[aF];exact uO (uO (uP W) _) _);have jn:Hd (w0.heap.size=W.heap.size+1+1):=Z_ (by rw[aF];simp)
 have HB:=Z_ (λ(Y:World) (h:Ext w0 Y)=>by
  rw[aF]at h;have e1:Ext (W.alloc (.cells #[.bool bn,.slice an nn cn,.slice ap np cp,.slice f9 nb cb] 48)) Y:=(uO (uP _) _).trans h;have k:=λ i v hv=>h.new_cell (i:=i) (v:=v) hv;have f:=λ i=>h.new_free i;rw[z00]at k f
  exact zS (λ i v hv=>e1.new_cell (i:=i) (v:=v) hv) (zS k f))
 have e5:=Z_ (CS.o w0 J.o);rw[aF]at e5;have i4:=Z_ aF;obtain⟨I,-,-⟩:=HB.o w0 (uP _);have c0:=I 0 _ rfl;have c1:=I 1 _ rfl;rw[aF]at c0 c1;clear cG bs df h0 fP fB h1k hm hN hK hn c4 dr dq ds aF I hF CS
 go_enter Tryz.func40,Tryz.ntmps40
 go_wp2_with fail;(with_reducible refine e5.o.mono ?_);rintro e w1 ⟨rfl,aq⟩;rw[<-i4.o]at aq;have c8:=Z_ aq;have fu:=Z_ (CM.o w1 (J.o.trans aq));obtain⟨I,-,-⟩:=HB.o w1 aq;have c2:=I 2 _ rfl;clear aq I c0 c1 CM e5;go_wp2_with fail;(with_reducible refine fu.o.mono ?_);rintro e w2 ⟨rfl,f6⟩;have et:=Z_ (c8.o.trans f6);have g8:=Z_ (CA.o w2 (J.o.trans et.o));obtain⟨I,-,-⟩:=HB.o w2 et.o;have c3:=I 3 _ rfl;clear f6 I c2 CA fu;go_wp2_with fail;(with_reducible refine g8.o.mono ?_);rintro e w3 ⟨rfl,gF⟩;have cz:=Z_ (et.o.trans gF);have ha:=Z_ (CC.o w3 (J.o.trans cz.o));obtain⟨I,-,-⟩:=HB.o w3 cz.o;have c2:=I 2 _ rfl;clear gF I c3 CC g8;go_wp2_with fail;(with_reducible refine ha.o.mono ?_);rintro e w4 ⟨v4,rfl,⟨vm4,rfl,er⟩,fp⟩;have h9:=Z_ (cz.o.trans fp);have h8:=Z_ er;obtain⟨a4,k4,rfl⟩:=er.form;clear fp er ha c2;obtain⟨w5,fk⟩:∃Y,Y=w4.alloc (.cells #[.bool (Z8 (Zu d.P:Int)).neg,.slice a4 (Z8 (Zu d.P:Int)).mag.length k4] 28):=⟨_,rfl⟩
 have aG:=Z_ (uj (T:=28) h9.o (h8.o.to (uN _ _) (uq cz.o)));rw[<-fk]at aG
 go_upto_region 4 with fail
 rw[<-fk];clear fk;obtain⟨b6,fm⟩:∃b,b=w4.heap.size:=⟨_,rfl⟩
 rw[<-fm]at aG⊢;have HB6:=Z_ fm;clear fm;have HX5:=Z_ aG.o.ex;have hZ:Hd (ZX (Zu d.P:Int)<=900000):=Z_ (zT (P0 hH.o) (by have:=aA.o;omega));obtain⟨bz,fR⟩:∃b:Bool,b=decide (Zu d.P=0):=⟨_,rfl⟩
 have ff:=Z_ fR;clear fR
 go_cut [33] (λ c wx=>c=.bool bz/\Ext w5 wx)
 case first=>
  have d0:=aG.o.c0;have d1:=aG.o.c1;have CS:=Z_ (X5 (S:=Z2 w5) (.agg #[.bool (Z8 (Zu d.P:Int)).neg,.slice a4 (Z8 (Zu d.P:Int)).mag.length k4]) (Z8 (Zu d.P:Int)) w5 ⟨_,rfl,aG.o.u.to (uN _ _) (λ _ h=>h.2.1)⟩ (λ _ h=>h) (zT hZ.o (by decide)));rw[z09,Cz]at CS;obtain⟨sg,a8⟩:∃z:Int,z=if Zu d.P=0 then 0 else 1:=⟨_,rfl⟩
  rw[<-a8]at CS
  have hV:(sg == 0)=bz:=by
   rw[ff.o,a8];by_cases h:Zu d.P=0<;>simp[h]
  clear a8;go_wp2_with fail;(with_reducible refine CS.o.mono ?_);rintro e w6 ⟨rfl,ai⟩;have ax:=Z_ ai;clear ai;go_wp2_with fail
  go_meet
  exact⟨by first|rfl|rw[hV]|trivial,ax.o⟩
 case rest=>
  obtain⟨rfl,bN⟩:=hcut;have bv:=Z_ (aG.o.ext bN);clear bN
  go_upto_if 33 with (fail)
  go_cut [] (λ wx=>∃(a:Option Addr) (c:Nat),Hd (IntAt w0 b6 wx (Xy d.P:Nat) a c))
  case first=>
   have d0:=bv.o.c0;have d1:=bv.o.c1;have f0:=bv.o.f0;have f1:=bv.o.f1;have CN:=Z_ (VM 1 wc (by decide))
   cases bz with
   |true=>
    have fd:Hd (Xy d.P=1):=Z_ (if_pos (of_decide_eq_true ff.o.symm));go_wp2_with fail;(with_reducible refine CN.o.mono ?_);rintro e w6 ⟨v6,rfl,⟨vm6,rfl,ez⟩,ai⟩;have ax:=Z_ ai;have i7:=Z_ ez;have g0:=ai.cell d0;have g1:=ai.cell d1;have g2:=ai.free (Zj d0) f0;have g3:=ai.free (Zj d1) f1;obtain⟨a6,c6,rfl⟩:=ez.form;clear ai ez;go_wp2_with fail
    go_meet
    refine⟨a6,c6,?_⟩;rw[fd.o];exact Z_ (bv.o.put ax.o i7.o)
   |false=>
    have fd:Hd (Xy d.P=Zu d.P):=Z_ (if_neg (of_decide_eq_false ff.o.symm));go_wp2_with fail
    go_meet
    refine⟨a4,k4,?_⟩;rw[fd.o];exact bv
  case rest=>
   obtain⟨a6,k6,gq⟩:=hcut;have dz:=Z_ gq.out;clear gq;have ax:=Z_ dz.o.ex
   have e6:=Z_ (UP (S:=Z2 wc) (.agg #[.bool bn,.slice an nn cn]) (.agg #[.bool (Z8 (Xy d.P:Int)).neg,.slice a6 (Z8 (Xy d.P:Int)).mag.length k6]) (Z8 d.N) (Z8 (Xy d.P:Int)) wc ⟨_,by rw[av.o.2.1],ZW HU.o (J.o.trans ax.o)⟩ ⟨_,rfl,dz.o.u.to (uN _ _) (λ _ h=>h.2.1)⟩ (λ _ h=>h)
    (zT aA.o.2.1 (by have:=aA.o;omega)) (zT (show(Z8 (Xy d.P:Int)).mag.length<=k from Pm hH.o i6.o) (by have:=aA.o;omega)))
   rw[z09,z09,AZ b7.o]at e6;obtain⟨I,b2,-⟩:=HB.o wc ax.o;have c0:=I 0 _ rfl;have c1:=I 1 _ rfl;have d0:=dz.o.c0;have d1:=dz.o.c1;clear I b2
   go_upto_region 6 with fail
   go_wp2_with fail;(with_reducible refine e6.o.mono ?_);rintro e w7 ⟨v7,rfl,⟨vm7,rfl,fh⟩,hs⟩;have i5:=Z_ (ax.o.trans hs);have gg:=Z_ (fh.to (S':=New w0 w7) (uN _ _) (uq ax.o));obtain⟨a7,c7,rfl⟩:=fh.form;clear hs fh e6 c0 c1 d0 d1;obtain⟨n7,dp⟩:∃z,z=(Z8 (YE d:Int)).mag.length:=⟨_,rfl⟩
   obtain⟨s7,fc⟩:∃z,z=(Z8 (YE d:Int)).neg:=⟨_,rfl⟩
   rw[<-dp]at gg;rw[<-dp,<-fc];have cv:=Z_ (zS dp fc);clear dp fc;obtain⟨w8,cR⟩:∃Y,Y=w7.alloc (.cells #[.bool s7,.slice a7 n7 c7,.slice none 0 0,.slice none 0 0] 48):=⟨_,rfl⟩
   have aB:=Z_ (Box4.fresh (x0:=.bool s7) (x1:=.slice a7 n7 c7) (x2:=.slice none 0 0) (x3:=.slice none 0 0) (T:=48) i5.o);rw[<-cR]at aB;have dG:Hd (Ext w7 w8):=Z_ (by rw[cR];exact uO (uP _) _)
   go_upto_region 7 with fail
   rw[<-cR];clear cR;obtain⟨b5,eB⟩:∃b,b=w7.heap.size:=⟨_,rfl⟩
   rw[<-eB]at aB⊢;have hy:=Z_ eB;clear eB;have fl:=Z_ aB.o.ex;have hh:=Z_ (CW.o w8 (J.o.trans fl.o));obtain⟨I,b2,-⟩:=HB.o w8 fl.o;have c2:=I 2 _ rfl;clear I b2;go_wp2_with fail;(with_reducible refine hh.o.mono ?_);rintro e w9 ⟨v9,rfl,eP,cF⟩;have HX9:=Z_ (fl.o.trans cF);have eq:=Z_ eP;have c5:=Z_ (aB.o.ext cF);obtain⟨a9,c9,rfl⟩:=eP.form;obtain⟨n9,em⟩:∃z,z=(Z5 (Yf d.P)).length:=⟨_,rfl⟩
   rw[<-em]at eq⊢;have HN9:=Z_ em;have hE:=Z_ cF;have g2:=c5.o.c2;have g3:=c5.o.f2;clear cF eP em c2 hh
   go_upto_region 8 with fail
   have X:=Z_ (c5.o.set2 (.slice a9 n9 c9));have hX:b5<w8.heap.size:=Zj aB.o.c0;have ft:Hd (U32s (New w0 w7) w9 (.slice a7 n7 c7) (Z8 (YE d:Int)).mag):=Z_ (gg.o.to (uM ((show Ext w7 w8 from dG.o).trans hE.o) (λ _ h=>h.2)) (λ _ h=>h));have aP:=Z_ (XT (a:=⟨b5,2,none⟩) ft.o (λ h=>by have U:=h.2;have h2:=hy.o;simp only at U;omega) (.slice a9 n9 c9));have ec:Hd (z06 (New w8 w9) (w9.setCell ⟨b5,2,none⟩ (.slice a9 n9 c9)) (.slice a9 n9 c9) (Z5 (Yf d.P))):=Z_ (eq.o.to (uH (a:=⟨b5,2,none⟩) (λ h=>by have U:=h.1;simp only at U;omega) _) (λ _ h=>h));have bm:=Z_ (zS dG.o.size hE.o.size);obtain⟨bu,ct⟩:∃Y,Y=w9.setCell ⟨b5,2,none⟩ (.slice a9 n9 c9):=⟨_,rfl⟩
   have D:Hd (bu.heap.size=w9.heap.size):=Z_ (by rw[ct,z03]);rw[<-ct]at X aP ec⊢;have d5:=Z_ X.o.ex;have e0:=X.o.c0;have e1:=X.o.c1
   have aR:=Z_ (uj (T:=28) (g:=(YE d:Int)) (a:=a7) (c:=c7) d5.o (by
    have q:=aP.o;rw[cv.o.1]at q
    exact q.to (uN _ _) (λ k h=>⟨h.1,by have U:=h.2;have h2:=bm.o;have h3:=D.o;omega⟩)))
   rw[<-cv.o.1,<-cv.o.2]at aR;obtain⟨eg,co⟩:∃Y,Y=bu.alloc (.cells #[.bool s7,.slice a7 n7 c7] 28):=⟨_,rfl⟩
   have au:Hd (Ext bu eg):=Z_ (by rw[co];exact uO (uP _) _);clear ct hX g2 g3 ft eq c5
   go_upto_region 9 with fail
   rw[<-co]at aR⊢;clear co e0 e1;obtain⟨bg,eR⟩:∃b,b=bu.heap.size:=⟨_,rfl⟩
   rw[<-eR]at aR⊢;have cC:=Z_ eR;clear eR;obtain⟨I,-,-⟩:=HB.o eg (d5.o.trans au.o);have c3:=I 3 _ rfl;clear I;go_wp2
   go_loopw [52] (λ i wr=>∃(j:Nat) (a:Option Addr) (c:Nat),j<=nb/\i=.int .i64 (j:Nat)/\Hd (GAt w0 b5 bg wr (YL (YE d) (d.By.take j):Nat) a c)/\Hd (Ext bu wr)) (λ i _=>nb-(intOf i).toNat)
   case atStart=>
    refine⟨0,a7,c7,zL _,rfl,?_,au⟩;have q:=aR.o;have q2:=(aP.o.to (S':=λ k=>w0.heap.size<=k/\k<eg.heap.size/\k≠bg/\k≠b5) (uM au.o (λ k h=>by have U:=h.2;have h2:=bm.o;have h3:=D.o;omega)) (λ k h=>⟨h.1,by have U:=h.2;have h2:=bm.o;have h3:=D.o;have h4:=au.o.size;omega,by have U:=h.2;have h2:=bm.o;have h3:=D.o;have h4:=cC.o;omega,by have U:=h.2;have h2:=hy.o;omega⟩))
    rw[cv.o.1]at q2;have hl:=Zj X.o.c0;exact Z_ ⟨q,q2,zU hl au.o.size,by rw[cC.o];exact Nat.ne_of_lt hl,X.o.lo⟩
   case round=>
    obtain⟨j,ag,cg,hS,rfl,HI,a5⟩:=hrel
    by_cases el:j<nb
    ·have aj:nb=d.By.length:=by rw[av.o.2.2.2,zE]
     obtain⟨b,hb⟩:=ZN (l:=d.By) (j:=j) (by rw[<-aj];exact el);have ch:(d.By.map Z5)[j]? = some (Z5 b):=by rw[yZ,hb];rfl
     have ci:=Z_ (J.o.trans HI.o.i.ex);obtain⟨bb,ob,gf,rfl,-,h2,h3,-,h5,h6⟩:=((e4.o.on ci.o).cellAt ch)
     have db:=Z_ (λ(Y:World) (hY:Ext wr Y)=>CB.o b (zP hb) gf Y (h6.on hY));rw[z53]at db;have cj:=Z_ (DC (m:=YE d) hb);have f7:Hd (ZX (YL (YE d) (d.By.take j):Int)<=900000):=Z_ (ca.o _);have hG:Hd (ZX (Zu b:Int)<=900000):=Z_ (zT (P0 (fF.o b (zP hb))) (by have:=aA.o;omega));obtain⟨g,hg⟩:∃g,g=YL (YE d) (d.By.take j):=⟨_,rfl⟩
     rw[<-hg]at HI cj f7;obtain⟨fg,fq⟩:∃c,c=Zu b:=⟨_,rfl⟩
     rw[<-fq]at db cj hG;have O:=Z_ (show Ext wr wr.drew from uI (uP _));obtain⟨i1,hR,rfl⟩:=h6.form;obtain⟨id,ay⟩:∃n,n=(Z5 b).length:=⟨_,rfl⟩
     rw[<-ay]at db h5;have q:=HI.o.i.ext O.o;have q0:=q.c0;have q1:=q.c1;clear q h6 hb ch hg fq ay aj c3
     go_upto_block 1 with fail
     go_cut [] (λ wx=>∃(a:Option Addr) (c:Nat),Hd (GAt w0 b5 bg wx (Nat.gcd g fg:Nat) a c)/\Hd (Ext bu wx))
     case first=>
      go_wp2_with fail
      go_region_with (first
       |(go_at_call 68;(with_reducible refine(db.o _ O.o).mono ?_);rintro e fG ⟨v12,rfl,⟨hr,rfl,cr⟩,d8⟩;have a0:=Z_ (O.o.trans d8);have hB:=Z_ (YQ cr);have p:=HI.o.i.ext a0.o;have p0:=p.c0;have p1:=p.c1;have CG:=Z_ (RO (S:=Z2 fG) (.agg #[.bool (Z8 (g:Int)).neg,.slice ag (Z8 (g:Int)).mag.length cg]) (.agg #[.bool (Z8 (fg:Int)).neg,hr]) (Z8 (g:Int)) (Z8 (fg:Int)) fG ⟨_,rfl,p.u.to (uN _ _) (λ _ h=>h.2.1)⟩ ⟨_,rfl,hB.o⟩ (λ _ h=>h) (zT f7.o (by decide)) (zT hG.o (by decide)));rw[z09,z09]at CG;obtain⟨a12,c12,rfl⟩:=cr.form;clear p d8 cr)
       |(go_at_call 70;(with_reducible refine CG.o.mono ?_);rintro e w13 ⟨v13,rfl,⟨vm13,rfl,b4⟩,ce⟩;have d7:=Z_ ce;have gu:=Z_ b4;have r:=HI.o.i.ext (a0.o.trans ce);have r0:=r.c0;have r1:=r.c1;have r2:=r.f0;have r3:=r.f1;obtain⟨a13,c13,rfl⟩:=b4.form;clear r ce b4)
       |fail)
      all_goals
       go_wp2_with fail
       go_meet
       exact⟨_,_,Z_ ((HI.o.ext a0.o).put d7.o gu.o),Z_ ((a5.o.trans (a0.o.trans d7.o)).set2 (by rw[<-cC.o];exact zR _) _ _)⟩
     case rest=>
      obtain⟨a',c',hM,fA⟩:=hcut;clear q0 q1 h5;go_wp2
      go_roundw
      case rel=>
       refine⟨j+1,a',c',by omega,by go_num,?_,fA⟩;rw[cj.o];exact hM
      case measure=>simp only[intOf];omega
    ·obtain rfl:nb=j:=by omega
     have ga:YL (YE d) (d.By.take nb)=Zm d:=by
      unfold Zm;rw[zN (by rw[av.o.2.2.2,zE];exact zR _)]
     rw[ga]at HI;clear ga;have ei:=Z_ (X.o.ext a5.o)
     have hA:=Z_ (UQ (S:=Z2 wr) (.agg #[.bool s7,.slice a7 n7 c7]) (.agg #[.bool (Z8 (Zm d:Int)).neg,.slice ag (Z8 (Zm d:Int)).mag.length cg]) (Z8 (YE d:Int)) (Z8 (Zm d:Int)) wr ⟨_,by rw[cv.o.2],aP.o.to (uM a5.o (λ k h=>by have U:=h.2;have h2:=bm.o;have h3:=D.o;omega)) (λ k h=>by have U:=h.2;have h2:=bm.o;have h3:=D.o;have h4:=a5.o.size;show k<_;omega)⟩ ⟨_,rfl,HI.o.u.to (uN _ _) (λ _ h=>h.2.1)⟩ (λ _ h=>h)
      (zT (ca.o []) (by decide)) (zT (ca.o d.By) (by decide)) ((YE d:Int) / (Zm d:Int)) (by rw[z09];have:=PK b7.o;omega) (by rw[z09,z09];exact(xH (xe.2 (TE d.By).1)).symm))
     have e0:=ei.o.c0;have e1:=ei.o.c1;have q0:=HI.o.i.c0;have q1:=HI.o.i.c1;clear c3
     go_upto_region 14 with fail
     go_wp2_with fail;(with_reducible refine hA.o.mono ?_);rintro e af ⟨v14,rfl,⟨vm14,rfl,bx⟩,a2⟩;have ed:=Z_ a2;have d9:=Z_ bx;have aC:=Z_ (ei.o.ext a2);have ho:=Z_ (HI.o.ext a2);have g0:=aC.o.c0;have g1:=aC.o.c1;have g2:=aC.o.f0;have g3:=aC.o.f1;obtain⟨ac,ad,rfl⟩:=bx.form;obtain⟨aa,aS⟩:∃z,z=(Z8 ((YE d:Int) / (Zm d:Int))).mag.length:=⟨_,rfl⟩
     obtain⟨al,cl⟩:∃z,z=(Z8 ((YE d:Int) / (Zm d:Int))).neg:=⟨_,rfl⟩
     rw[<-aS]at d9;rw[<-aS,<-cl];have fz:=Z_ (zS aS cl);clear a2 bx aS cl e0 e1 q0 q1 hA;obtain⟨cB,aH⟩:∃Y,Y=(af.setCell ⟨b5,0,none⟩ (.bool al)).setCell ⟨b5,1,none⟩ (.slice ac aa ad):=⟨_,rfl⟩
     have bB:=Z_ (aC.o.set01 (.bool al) (.slice ac aa ad));have d6:=Z_ ((ho.o.cell 0 (.bool al)).cell 1 (.slice ac aa ad));have jp:b5<wr.heap.size:=HI.o.lt;have d4:Hd (U32s (New wr af) ((af.setCell ⟨b5,0,none⟩ (.bool al)).setCell ⟨b5,1,none⟩ (.slice ac aa ad)) (.slice ac aa ad) (Z8 ((YE d:Int) / (Zm d:Int))).mag):=Z_ (Wc d9.o (λ h=>by have:=h.1;omega) _ _);have d3:Hd (z06 (New w8 w9) ((af.setCell ⟨b5,0,none⟩ (.bool al)).setCell ⟨b5,1,none⟩ (.slice ac aa ad)) (.slice a9 n9 c9) (Z5 (Yf d.P))):=Z_ ((ec.o.to (S':=New w8 w9) (uM (a5.o.trans ed.o) (λ k h=>by have U:=h.2;have h3:=D.o;omega)) (λ _ h=>h)).to (ur (λ h=>by have U:=h.1;have h2:=Zj aB.o.c0;omega) _ _) (λ _ h=>h));have a3:Hd (w9.heap.size<=cB.heap.size/\af.heap.size<=cB.heap.size):=Z_ (by rw[aH];simp only[z03];have U:=a5.o.size;have h2:=ed.o.size;have h3:=D.o;omega);rw[<-aH]at bB d6 d4 d3
     go_upto_region 15 with fail
     rw[<-aH];clear aH g0 g1 g2 g3 jp;have d2:=Z_ bB.o.ex;obtain⟨I,-,-⟩:=HB.o cB d2.o;have c2:=I 2 _ rfl;clear I;obtain⟨bl,g5⟩:∃b:Bool,b=Ty d.P:=⟨_,rfl⟩
     have dF:=Z_ g5;clear g5
     go_cut [80] (λ c wx=>c=.bool bl/\Ext cB wx)
     case first=>
      by_cases h0:d.P=[]
      ·have hO:np=0:=by rw[av.o.2.2.1,h0];rfl
       have i2:bl=false:=by rw[dF.o,h0];rfl
       subst hO;subst i2;clear h0;go_wp2_with fail
       go_meet
       exact⟨rfl,uP _⟩
      ·obtain⟨t,r,cy⟩:=xW h0;have hpos:(0:Int)<(np:Int):=by rw[av.o.2.2.1,cy,z5w,zM];omega
       have hq:(Z5 d.P)[0]? = some ⟨Z8 t.1,t.2⟩:=by rw[cy];rfl
       obtain⟨bt,off,vm,vo,rfl,-,cP,hm1,-,U,-,-,-,-⟩:=(fr.o.on (J.o.trans d2.o)).cellAt hq
       have a8:(Z8 t.1).neg=bl:=by
        rw[dF.o,cy];rfl
       simp only[yE,zp]at U;rw[a8]at U;clear cy hq h0 a8;go_wp2_with fail
       go_meet
       exact⟨rfl,uP _⟩
     case rest=>
      obtain⟨rfl,bN⟩:=hcut;have bf:=Z_ bN;clear bN
      go_upto_if 80 with (fail)
      have ar:=Z_ (d6.o.ext bf.o);have g4:=Z_ (bB.o.ext bf.o);have fn:Hd (U32s (New wr af) wc (.slice ac aa ad) (Z8 ((YE d:Int) / (Zm d:Int))).mag):=Z_ (d4.o.to (uM bf.o (λ k h=>zU h.2 a3.o.2)) (λ _ h=>h));have hu:Hd (z06 (New w8 w9) wc (.slice a9 n9 c9) (Z5 (Yf d.P))):=Z_ (d3.o.to (uM bf.o (λ k h=>zU h.2 a3.o.1)) (λ _ h=>h));have cu:Hd (w9.heap.size<=wc.heap.size/\af.heap.size<=wc.heap.size):=Z_ ⟨zT a3.o.1 bf.o.size,zT a3.o.2 bf.o.size⟩
      go_cut [] (λ wx=>∃(a:Option Addr) (c:Nat),Hd (GAt w0 b5 bg wx (Zk d) a c)/\Hd (Box4 w0 b5 wx (.bool al) (.slice ac aa ad) (.slice a9 n9 c9) (.slice none 0 0))/\Hd (U32s (New wr af) wx (.slice ac aa ad) (Z8 ((YE d:Int) / (Zm d:Int))).mag)/\Hd (z06 (New w8 w9) wx (.slice a9 n9 c9) (Z5 (Yf d.P)))/\Hd (w9.heap.size<=wx.heap.size/\af.heap.size<=wx.heap.size))
      case first=>
       have d0:=ar.o.i.c0;have d1:=ar.o.i.c1;have CN:=Z_ (RH (S:=Z2 wc) (.agg #[.bool (Z8 (Zm d:Int)).neg,.slice ag (Z8 (Zm d:Int)).mag.length cg]) (Z8 (Zm d:Int)) wc ⟨_,rfl,ar.o.u.to (uN _ _) (λ _ h=>h.2.1)⟩ (λ _ h=>h) (zT (ca.o d.By) (by decide)));rw[z09]at CN
       cases bl with
       |true=>
        have e3:Hd (Zk d = -(Zm d:Int)):=Z_ (if_pos dF.o.symm);rw[<-e3.o]at CN;go_wp2_with fail;(with_reducible refine CN.o.mono ?_);rintro e w16 ⟨v16,rfl,⟨vm16,rfl,cc⟩,cm⟩;have ah:=Z_ cm;have hD:=Z_ cc;have aN:=Z_ (ar.o.ext cm);have g0:=aN.o.i.c0;have g1:=aN.o.i.c1;have g2:=aN.o.i.f0;have g3:=aN.o.i.f1;obtain⟨ih,j2,rfl⟩:=cc.form;clear cm cc d0 d1;go_wp2_with fail
        go_meet
        have hb1:bg=w9.heap.size:=by rw[cC.o,D.o]
        have hb2:bg<wr.heap.size:=Zj HI.o.i.c0;exact⟨ih,j2,Z_ (ar.o.put ah.o hD.o),Z_ ((g4.o.ext ah.o).off (Ne.symm ar.o.ne) ar.o.i.lo _ _),Z_ (Wc (fn.o.to (S':=New wr af) (uM ah.o (λ k h=>zU h.2 cu.o.2)) (λ _ h=>h)) (λ h=>by have:=h.1;omega) _ _),Z_ ((hu.o.to (S':=New w8 w9) (uM ah.o (λ k h=>zU h.2 cu.o.1)) (λ _ h=>h)).to (ur (λ h=>by have:=h.2;omega) _ _) (λ _ h=>h)),Z_ (by simp only[z03];exact⟨zT cu.o.1 ah.o.size,zT cu.o.2 ah.o.size⟩)⟩
       |false=>
        have e3:Hd (Zk d=(Zm d:Int)):=Z_ (if_neg (by rw[<-dF.o];decide));go_wp2_with fail
        go_meet
        refine⟨ag,cg,?_,g4,fn,hu,cu⟩;rw[e3.o];exact ar
      case rest=>
       obtain⟨hP,hT,ba,ep,i0,hU,cQ⟩:=hcut;have eo:=Z_ ep.o.ex;obtain⟨I,-,-⟩:=HB.o wc eo.o;have c3:=I 3 _ rfl;clear I c2
       go_upto_region 17 with fail
       go_wp2
       go_loopw [86] (λ i wr=>∃(j:Nat) (o:Value) (xs:List Value),j<=nb/\i=.int .i64 (j:Nat)/\Hd (Box4 w0 b5 wr (.bool al) (.slice ac aa ad) (.slice a9 n9 c9) o)/\Hd (wc.grownBy wr (some b5))/\Hd (wr.ownsRow wc.heap.size 35 1 o j xs)/\Hd (z39 (Yy wc wr o) wr xs ((d.By.take j).map λ b=>Z5 (Yn b (Zk d))))) (λ i _=>nb-(intOf i).toNat)
       case atStart=>exact⟨0,_,[],zL _,rfl,ep,⟨rfl,rfl,rfl,zR _,λ _ _ _=>rfl⟩,World.ownsRow_nil _ _ _ _,z39.nil _ _⟩
       case round=>
        obtain⟨j,o,xs,hS,rfl,ae,Z,HW,HY⟩:=hrel;obtain⟨oa,on,oc,rfl⟩:=Tu HW.o
        by_cases el:j<nb
        ·have aj:nb=d.By.length:=by rw[av.o.2.2.2,zE]
         obtain⟨b,hb⟩:=ZN (l:=d.By) (j:=j) (by rw[<-aj];exact el);have ch:(d.By.map Z5)[j]? = some (Z5 b):=by rw[yZ,hb];rfl
         have ci:=Z_ (J.o.trans ae.o.ex);obtain⟨bb,ob,gf,rfl,-,h2,h3,-,h5,h6⟩:=((e4.o.on ci.o).cellAt ch)
         have e9:=Z_ (fF.o b (zP hb));have hz:=Z_ (λ t ht=>MQ (d:=d) (zP hb) t ht)
         have i8:Hd (b≠[]->ZX (Zk d)<=k):=Z_ (λ hne=>by
          obtain⟨t,r,he⟩:=xW hne;have ht:t∈b:=by rw[he];exact zz ..
          refine zT (Yp ?_) (OG e9.o ht)
          exact xA (v_.2 (e9.o.can.1 t ht).1) (xB.2 (hz.o t ht)))
         have cj:Hd (((d.By.take (j+1)).map λ b=>Z5 (Yn b (Zk d)))=((d.By.take j).map λ b=>Z5 (Yn b (Zk d))) ++ [Z5 (Yn b (Zk d))]):=Z_ (by rw[zv,hb,xl];rfl);have O:=Z_ (show Ext wr wr.drew from uI (uP _));have gv:U32s (Z2 wr) wr (.slice hP (Z8 (Zk d)).mag.length hT) (Z8 (Zk d)).mag:=ba.o.u.to (uJ Z.o (λ k hk=>⟨hk.2.1,λ e=>hk.2.2.2 (by cases e;rfl)⟩)) (λ k hk=>zU hk.2.1 Z.o.size)
         have cA:=Z_ (C9 (W:=wr.drew) (ng:=(Z8 (Zk d)).neg) (N:=Zk d) (h6.on O.o) (ZW gv O.o) rfl e9.o (Dm b7.o) hz.o (λ hne=>i8.o hne)
          (by
           have U:=ca.o d.By;have h3:ZX (Zk d)=ZX (Zm d:Int):=by unfold ZX;rw[zgq,y7]
           rw[h3]
           exact zT U (by decide)) (by have:=aA.o;omega) (by have:=aA.o;omega))
         have g7:Hd (j+1<=maxLen/\(j+1)*24<=140737488355328):=Z_ (by have:=aA.o.1;unfold maxLen;omega);have en:Hd (∀k,wc.heap.size<=k->k≠b5):=Z_ (λ k hk e=>by have:=ba.o.lt;omega);obtain⟨i1,hR,rfl⟩:=h6.form;obtain⟨id,ay⟩:∃n,n=(Z5 b).length:=⟨_,rfl⟩
         rw[<-ay]at cA h5;obtain⟨gn,hf⟩:∃n,n=(Z8 (Zk d)).mag.length:=⟨_,rfl⟩
         obtain⟨gb,hx⟩:∃n,n=(Z8 (Zk d)).neg:=⟨_,rfl⟩
         have q0:=ZT Z.o ba.o.i.c0 (λ e=>ba.o.ne (by cases e;rfl));have q1:=ZT Z.o ba.o.i.c1 (λ e=>ba.o.ne (by cases e;rfl));rw[<-hx]at q0 cA;rw[<-hf]at q1 cA;have p0:=O.o.cell q0;have p1:=O.o.cell q1;have p2:=O.o.cell ae.o.c3;clear h6 hb ch ay aj gv hf hx q0 q1 c3
         go_upto_block 3 with fail
         go_cut [] (λ wx=>∃(o':Value) (cx:List Value),Hd (Box4 w0 b5 wx (.bool al) (.slice ac aa ad) (.slice a9 n9 c9) o')/\Hd (wc.grownBy wx (some b5))/\Hd (wx.ownsRow wc.heap.size 35 1 o' (j+1) cx)/\Hd (z39 (Yy wc wx o') wx cx ((d.By.take (j+1)).map λ b=>Z5 (Yn b (Zk d)))))
         case first=>
          go_wp2_with fail;obtain⟨j0,hj,j1,i3,h7⟩:=HJ.o
          go_region_law (first
           |(refine XE rfl (.tmp 91) (.tmp 95) 46 rfl wc.heap.size 35 j0 (.slice none 0 0) 1 24 Tryz.underlying46 hj j1 i3 h7 rfl (yC _) (.slice oa on oc) j xs rfl dt.o (some ⟨w1.heap.size,0,none⟩) 1 1 _ rfl fv.o g7.o.1 g7.o.2 f5.o ?_;intro v5 w5 cd hg fx;have qf:=Go.Joins.ownsRow_form cd (yC _);obtain⟨bq,cq,rfl⟩:=qf;have gG:=Z_ cd;have gl:=Z_ hg;have hI:=Z_ fx;have bA:=Z_ (hL.o.grown hg (λ e=>en.o b5 (dt.o.lt b5 e.symm).1 rfl) (λ k e=>zT ep.o.ex.size (dt.o.lt k e).1));have t3:=bA.o.c3;have t4:=bA.o.f3;clear cd hg fx)
           |(go_simp;go_at_call 73;(with_reducible refine cA.o.mono ?_);rintro e w1 ⟨v1,rfl,e7,aq⟩;have c8:=Z_ (O.o.trans aq);have g6:=Z_ (e7.to (S':=New wr w1) (uN _ _) (λ k h=>⟨zT O.o.size h.1,h.2⟩));obtain⟨a1,c1,rfl⟩:=e7.form;obtain⟨n1,cP⟩:∃n,n=(Z5 (Yn b (Zk d))).length:=⟨_,rfl⟩;rw[<-cP];rw[<-cP]at g6;have r0:=c8.o.cell ae.o.c3;have r1:=Z1 (.cells #[.slice a1 n1 c1] 35) r0;have fv:=Z_ (Wj w1 #[.slice a1 n1 c1] 35 (QY rfl) rfl);have az:=Z_ (c8.o.trans (uO (uP w1) (.cells #[.slice a1 n1 c1] 35)));have dt:=Z_ (Zp HW.o az.o);have f5:=Z_ (zT Z.o.size az.o.size);have hL:=Z_ (ae.o.ext az.o);clear e7 aq cP))
          all_goals
           go_wp2_with fail
           go_meet
           refine⟨_,_,Z_ (bA.o.set3 _),Z_ (KT (Ib (JG Z.o az.o) gl.o (λ k e=>(dt.o.lt k e).1)) 3 _),Z_ (gG.o.kept (O0 w5 b5 3 _) (.inr (λ e=>en.o b5 (gG.o.lt b5 e).1 rfl))),?_⟩;rw[cj.o]
           have hc:z39 (Yy wc (w1.alloc (.cells #[.slice a1 n1 c1] 35)) (.slice oa on oc)) (w1.alloc (.cells #[.slice a1 n1 c1] 35)) (xs ++ [.slice a1 n1 c1]) (((d.By.take j).map λ b=>Z5 (Yn b (Zk d))) ++ [Z5 (Yn b (Zk d))]):=(Ij HY.o az.o).snoc ((g6.o.to (S':=New wr w1) (uM (uO (uP w1) _) (λ _ h=>h.2)) (λ _ h=>h)).to (uN _ _) (λ k hk=>⟨⟨zT Z.o.size hk.1,zU hk.2 (uO (uP w1) _).size⟩,λ e=>by
            have U:=(HW.o.lt k e.symm).2;have h2:=hk.1
            omega⟩))
           have f4:=BE hc gl.o hI.o (zR _);exact Z_ (f4.to (uH (a:=⟨b5,3,none⟩) (λ h=>en.o b5 h.1.1 rfl) _) (λ k hk=>⟨⟨hk.1.1,by rw[z03];exact hk.1.2⟩,hk.2⟩))
         case rest=>
          obtain⟨o',cx,gk,gN,jb,hQ⟩:=hcut;clear p0 p1 p2 h5;go_wp2
          go_roundw
          case rel=>exact⟨j+1,o',cx,by omega,by go_num,gk,gN,jb,hQ⟩
          case measure=>simp only[intOf];omega
        ·obtain rfl:nb=j:=by omega
         have t0:=ae.o.c0;have t1:=ae.o.c1;have t2:=ae.o.c2;have t3:=ae.o.c3;obtain⟨-,b2,b3⟩:=HB.o wr ae.o.ex;have r0:=b2 0 _ rfl;have r1:=b2 1 _ rfl;have r2:=b2 2 _ rfl;have r3:=b2 3 _ rfl;have r4:=b3 0;have r5:=b3 1;have r6:=b3 2;have r7:=b3 3;clear b2 b3 c3;go_wp2
         all_goals
          have dm:=λ x y z t=>X8 (b:=W.heap.size+1) x y z t r0 r1 r2 r3;refine bodyPost_ret (by simp[results,Tryz.results40,go_sem,(dm _ _ _ _).1,(dm _ _ _ _).2.1,(dm _ _ _ _).2.2.1,(dm _ _ _ _).2.2.2];rfl) rfl ?_;have jj:=J.o.trans ae.o.ex;have hw2:W.heap.size+1<w0.heap.size:=by rw[jn.o];omega
          have eu:∀(S:Nat->Prop) (x y z t:Value),¬ S (W.heap.size+1)->Kept S wr ((((wr.setCell ⟨W.heap.size+1,0,none⟩ x).setCell ⟨W.heap.size+1,1,none⟩ y).setCell ⟨W.heap.size+1,2,none⟩ z).setCell ⟨W.heap.size+1,3,none⟩ t):=λ S x y z t h=>(ux h x y z).trans (uH (a:=⟨W.heap.size+1,3,none⟩) h t);have eh:∀(x y z t:Value),((((wr.setCell ⟨W.heap.size+1,0,none⟩ x).setCell ⟨W.heap.size+1,1,none⟩ y).setCell ⟨W.heap.size+1,2,none⟩ z).setCell ⟨W.heap.size+1,3,none⟩ t).heap.size=wr.heap.size:=λ x y z t=>by simp only[z03]
          refine⟨_,rfl,⟨_,_,_,by rw[fz.o.2];rfl,?_,?_,?_⟩,(jj.set3 (by omega) _ _ _).setCell (p:=⟨W.heap.size+1,3,none⟩) (show W.heap.size<=W.heap.size+1 by omega) _⟩
          ·have T1:=i0.o.to (S':=New w0 wr) (uJ Z.o (λ k hk=>⟨zU hk.2 cQ.o.2,λ e=>by cases e;have U:=HI.o.lt;have h2:=hk.1;omega⟩)) (λ k hk=>⟨zT HI.o.i.ex.size hk.1,zU hk.2 (zT cQ.o.2 Z.o.size)⟩);exact T1.to (eu (New w0 wr) _ _ _ _ (λ h=>by have:=h.1;omega)) (λ k hk=>⟨zT J.o.size hk.1,by rw[eh];exact hk.2⟩)
          ·have T1:=hU.o.to (S':=New w0 wr) (uJ Z.o (λ k hk=>⟨zU hk.2 cQ.o.1,λ e=>by cases e;have U:=Zj aB.o.c0;have h2:=hk.1;omega⟩)) (λ k hk=>⟨zT aB.o.ex.size hk.1,zU hk.2 (zT cQ.o.1 Z.o.size)⟩);exact T1.to (eu (New w0 wr) _ _ _ _ (λ h=>by have:=h.1;omega)) (λ k hk=>⟨zT J.o.size hk.1,by rw[eh];exact hk.2⟩)
          ·have e1:((d.By.take nb).map λ b=>Z5 (Yn b (Zk d)))=(WE d).By.map Z5:=by
            rw[zN (by rw[av.o.2.2.2,zE];exact zR _)];unfold WE;rw[List.map_map];rfl
           have e2:nb=((WE d).By.map Z5).length:=by
            rw[av.o.2.2.2];unfold WE;simp only[zE]
           have hW:=HW.o;have hY:=HY.o;rw[e1]at hY;rw[e2]at hW;have T1:=QM (S:=New w0 wr) hW (hY.to (uN _ _) (λ k hk=>⟨zT eo.o.size hk.1.1,hk.1.2⟩)) (λ k U h2=>⟨zT eo.o.size U,h2⟩);exact T1.to (eu (New w0 wr) _ _ _ _ (λ h=>by have:=h.1;omega)) (λ k hk=>⟨zT J.o.size hk.1,by rw[eh];exact hk.2⟩)
end
section
open Go.RowKit
structure Ge (E:Nat->Prop) (A B:World):Prop where
 os:B.os=A.os
 tape:B.tape=A.tape
 output:B.output=A.output
 size:A.heap.size<=B.heap.size
 block:∀k,k<A.heap.size->¬ E k->B.heap[k]? = A.heap[k]?
abbrev EO(o:Option Nat)(bc bo:Nat):Nat->Prop:=λ k=>some k=o∨k=bc∨k=bo
abbrev NE(E:Nat->Prop)(W:World):Nat->Prop:=λ k=>k<W.heap.size/\¬ E k
section
variable {E:Nat->Prop} {A B C w W W':World} {o ro:Option Nat} {bc bo:Nat} {v:Value} {p:PZ} {s:MSt}
theorem Ge.refl(E:Nat->Prop)(A:World):Ge E A A:=⟨rfl,rfl,rfl,zR _,λ _ _ _=>rfl⟩
theorem Ge.trans(h:Ge E A B)(k:Ge E B C):Ge E A C:=⟨k.os.trans h.os,k.tape.trans h.tape,k.output.trans h.output,zT h.size k.size,λ i h1 h2=>(k.block i (zU h1 h.size) h2).trans (h.block i h1 h2)⟩
theorem YR(h:Ext A B):Ge E A B:=⟨(Y7 h none).os,(Y7 h none).tape,(Y7 h none).output,h.size,λ k h1 _=>h.block k h1⟩
theorem Td(h:Gd o bc A B):Ge (EO o bc bo) A B:=⟨h.os,h.tape,h.output,h.size,λ k h1 h2=>h.block k h1 (λ e=>h2 (.inl e)) (λ e=>h2 (.inr (.inl e)))⟩
theorem AP(w:World){a:Addr}(h:E a.block)(u:Value):Ge E w (w.setCell a u):=⟨rfl,rfl,rfl,by simp[World.setCell],λ k _ h2=>Below.heap_setCell _ _ _ _ (λ e=>h2 (by rw[e];exact h))⟩
theorem Ge.onrow(h:Ge E A B)(g:B.grownBy C ro)(hr:∀r,ro=some r->A.heap.size<=r):Ge E A C :=
 ⟨g.os.trans h.os,g.tape.trans h.tape,g.output.trans h.output,zT h.size g.size,λ k h1 h2=>(g.block k (zU h1 h.size) (λ e=>by have:=hr k e.symm;omega)).trans (h.block k h1 h2)⟩
theorem Ge.kept(h:Ge E A B):Kept (NE E A) A B:=λ k hk=>h.block k hk.1 hk.2
theorem Xu(h:A.heap.size<=B.heap.size):∀k,NE E A k->NE E B k:=λ _ hk=>⟨zU hk.1 h,hk.2⟩
theorem Vn{k:Nat}(h:NE (EO o bc bo) W k):NC o bc W k:=⟨h.1,λ e=>h.2 (.inl e),λ e=>h.2 (.inr (.inl e))⟩
theorem Ge.gb(h:Ge (EO o bc bo) A B)(g:W.grownBy A o)(h1:W.heap.size<=bc)(h2:W.heap.size<=bo):W.grownBy B o :=
 ⟨h.os.trans g.os,h.tape.trans g.tape,h.output.trans g.output,zT g.size h.size,λ k k1 k2=>(h.block k (zU k1 g.size) (λ e=>by rcases e with e|e|e;exact k2 e;omega;omega)).trans (g.block k k1 k2)⟩
structure Bx4 (b:Nat) (W:World) (x0 x1 x2 x3:Value):Prop where
 c0:W.cell? ⟨b,0,none⟩=some x0
 c1:W.cell? ⟨b,1,none⟩=some x1
 c2:W.cell? ⟨b,2,none⟩=some x2
 c3:W.cell? ⟨b,3,none⟩=some x3
 fz:∀i,W.frozen? ⟨b,i,none⟩=false
variable {b:Nat} {x0 x1 x2 x3:Value}
theorem Bx4.same(h:Bx4 b W x0 x1 x2 x3)(e:W'.heap[b]? = W.heap[b]?):Bx4 b W' x0 x1 x2 x3:=by
 have y:∀i,W'.cell? ⟨b,i,none⟩=W.cell? ⟨b,i,none⟩:=λ i=>World.cell?_of_block e;exact⟨(y _).trans h.c0,(y _).trans h.c1,(y _).trans h.c2,(y _).trans h.c3,λ i=>(World.frozen?_of_block (w:=W) (a:=⟨b,i,none⟩) e).trans (h.fz i)⟩
theorem Bx4.lt(h:Bx4 b W x0 x1 x2 x3):b<W.heap.size:=Zj h.c0
theorem Bx4.ext(h:Bx4 b W x0 x1 x2 x3)(g:Ext W W'):Bx4 b W' x0 x1 x2 x3:=h.same (g.block b h.lt)
theorem Bx4.gd(h:Bx4 b W x0 x1 x2 x3)(g:Gd o bc W W')(h1:some b≠o)(h2:b≠bc):Bx4 b W' x0 x1 x2 x3:=h.same (g.block b h.lt h1 h2)
theorem Bx4.gb(h:Bx4 b W x0 x1 x2 x3)(g:W.grownBy W' ro)(h1:some b≠ro):Bx4 b W' x0 x1 x2 x3:=h.same (g.block b h.lt h1)
theorem Bx4.ge(h:Bx4 b W x0 x1 x2 x3)(g:Ge E W W')(h1:¬ E b):Bx4 b W' x0 x1 x2 x3:=h.same (g.block b h.lt h1)
theorem Bx4.fresh{T:TypeId}(h:Ext (W.alloc (.cells #[x0,x1,x2,x3] T)) W'):Bx4 W.heap.size W' x0 x1 x2 x3:=⟨h.new_cell rfl,h.new_cell rfl,h.new_cell rfl,h.new_cell rfl,λ i=>h.new_free i⟩
abbrev uF:=@Bx4.fresh
theorem Bx4.set3(h:Bx4 b W x0 x1 x2 x3)(y:Value):Bx4 b (W.setCell ⟨b,3,none⟩ y) x0 x1 x2 y :=
 ⟨ZZ h.c0 (ao (by decide)),ZZ h.c1 (ao (by decide)),ZZ h.c2 (ao (by decide)),YT h.c3,λ i=>Zg (h.fz i)⟩
theorem Bx4.set4(h:Bx4 b W x0 x1 x2 x3)(y z t u:Value):Bx4 b ((((W.setCell ⟨b,0,none⟩ y).setCell ⟨b,1,none⟩ z).setCell ⟨b,2,none⟩ t).setCell ⟨b,3,none⟩ u) y z t u:=by
 have d:=X8 (b:=b) y z t u h.c0 h.c1 h.c2 h.c3;exact⟨d.1,d.2.1,d.2.2.1,d.2.2.2,λ i=>Zg (Zg (Zg (Zg (h.fz i))))⟩
structure Bx3 (b:Nat) (W:World) (x0 x1 x2:Value):Prop where
 c0:W.cell? ⟨b,0,none⟩=some x0
 c1:W.cell? ⟨b,1,none⟩=some x1
 c2:W.cell? ⟨b,2,none⟩=some x2
 fz:∀i,W.frozen? ⟨b,i,none⟩=false
theorem Bx3.same(h:Bx3 b W x0 x1 x2)(e:W'.heap[b]? = W.heap[b]?):Bx3 b W' x0 x1 x2:=by
 have y:∀i,W'.cell? ⟨b,i,none⟩=W.cell? ⟨b,i,none⟩:=λ i=>World.cell?_of_block e;exact⟨(y _).trans h.c0,(y _).trans h.c1,(y _).trans h.c2,λ i=>(World.frozen?_of_block (w:=W) (a:=⟨b,i,none⟩) e).trans (h.fz i)⟩
theorem Bx3.lt(h:Bx3 b W x0 x1 x2):b<W.heap.size:=Zj h.c0
theorem Bx3.ext(h:Bx3 b W x0 x1 x2)(g:Ext W W'):Bx3 b W' x0 x1 x2:=h.same (g.block b h.lt)
theorem Bx3.ge(h:Bx3 b W x0 x1 x2)(g:Ge E W W')(h1:¬ E b):Bx3 b W' x0 x1 x2:=h.same (g.block b h.lt h1)
theorem Bx3.gb(h:Bx3 b W x0 x1 x2)(g:W.grownBy W' ro)(h1:some b≠ro):Bx3 b W' x0 x1 x2:=h.same (g.block b h.lt h1)
theorem Bx3.fresh{T:TypeId}(h:Ext (W.alloc (.cells #[x0,x1,x2] T)) W'):Bx3 W.heap.size W' x0 x1 x2:=⟨h.new_cell rfl,h.new_cell rfl,h.new_cell rfl,λ i=>h.new_free i⟩
theorem Bx3.set3(h:Bx3 b W x0 x1 x2)(y z t:Value):Bx3 b (((W.setCell ⟨b,0,none⟩ y).setCell ⟨b,1,none⟩ z).setCell ⟨b,2,none⟩ t) y z t:=by
 have d:=TV (b:=b) y z t h.c0 h.c1 h.c2;exact⟨d.1,d.2.1,d.2.2,λ i=>Zg (Zg (Zg (h.fz i)))⟩
theorem Xf(h:A.grownBy B o):Ge (λ k=>some k=o) A B:=⟨h.os,h.tape,h.output,h.size,λ k h1 h2=>h.block k h1 h2⟩
theorem Ge.setf(h:Ge E A B){a:Addr}(ha:A.heap.size<=a.block)(u:Value):Ge E A (B.setCell a u) :=
 ⟨h.os,h.tape,h.output,by rw[z03];exact h.size,λ k h1 h2=>(Below.heap_setCell _ _ _ _ (λ e=>by omega)).trans (h.block k h1 h2)⟩
theorem Ge.alloc(h:Ge E A B)(x:Obj):Ge E A (B.alloc x):=h.trans (YR (uO (uP B) x))
theorem Ge.gbo(h:Ge (λ k=>some k=o) A B):A.grownBy B o:=⟨h.os,h.tape,h.output,h.size,λ k h1 h2=>h.block k h1 h2⟩
theorem OZ{base size n:Nat}{e:TypeId}{xs:List Value}(h:W.ownsRow base e size v n xs)(hb:∀k,v.ownBlock=some k->W'.heap[k]? = W.heap[k]?):W'.ownsRow base e size v n xs:=by
 refine⟨h.1,h.2.imp id ?_⟩;rintro⟨g,cap,cur,e1,hg,hh,r⟩;exact⟨g,cap,cur,e1,hg,(hb g (by rw[e1];rfl)).trans hh,r⟩
theorem OC{base size n:Nat}{e:TypeId}{xs:List Value}(h:W.ownsRow base e size v n xs)(g:Gd o bc W W')(h1:∀b,o=some b->b<base)(h2:bc<base):W'.ownsRow base e size v n xs :=
 OZ h (λ k hk=>by
  obtain⟨k1,k2⟩:=h.lt k hk
  exact g.block k k2 (λ e=>by have:=h1 k e.symm;omega) (by omega))
theorem Nw{S:Nat->Prop}{vm vp vb:Value}{d:DZ}(h1:U32s S W vm (Z8 d.N).mag)(h2:z06 S W vp (Z5 d.P))(h3:z1w S W vb (d.By.map Z5))(hS:∀k,S k->k<W.heap.size) :
  Ders (λ k=>S k∨k=W.heap.size) (W.alloc (.cells #[.bool (Z8 d.N).neg,vm,vp,vb] 48)) (.slice (some ⟨W.heap.size,0,none⟩) 1 1) [d]:=by
 have y:Ext W (W.alloc (.cells #[.bool (Z8 d.N).neg,vm,vp,vb] 48)):=uO (uP W) _;refine⟨W.heap.size,0,⟨_,1,rfl,zR _,by unfold maxLen;decide,λ _=>rfl,λ _=>.inr rfl⟩,λ j t hj=>?_⟩;have z:=Zy hj;simp only[zM,zo]at z;obtain rfl:j=0:=by omega
 obtain rfl:d=t:=by simpa using hj
 have k:=λ i v hv=>(uP (W.alloc (.cells #[.bool (Z8 d.N).neg,vm,vp,vb] 48))).new_cell (i:=i) (v:=v) hv;exact⟨vm,vp,vb,k 0 _ rfl,k 1 _ rfl,k 2 _ rfl,k 3 _ rfl,h1.to (uM y hS) (λ _ h=>.inl h),h2.to (uM y hS) (λ _ h=>.inl h),h3.to (uM y hS) (λ _ h=>.inl h)⟩
theorem AO{S:Nat->Prop}{Y:World}{vm vp vb:Value}{m:Nat}{d:DZ}{l:List DZ}{v':Value}{w':World}{xs:List Value}(h1:U32s S W vm (Z8 d.N).mag)(h2:z06 S W vp (Z5 d.P))(h3:z1w S W vb (d.By.map Z5))
  (hc:z29 S Y xs l) (hY:Ext W Y) (hS:∀k,S k->k<W.heap.size) (hm:m=l.length)
  (k1:w'.ownsRow W.heap.size 48 4 v' (1+m) ((#[.bool (Z8 d.N).neg,vm,vp,vb]:Array Value).toList++xs)) (hg:Ext W w'):Ders (Z2 w') w' v' (d :: l):=by
 refine Qt (p:=d :: l) (by rw[zM,<-hm,xY];exact k1) ⟨vm,vp,vb,xs,rfl,?_,?_,?_,?_⟩ (λ k h1 h2=>h2)
 ·exact h1.to (uM hg hS) (λ k h=>zU (hS k h) hg.size)
 ·exact h2.to (uM hg hS) (λ k h=>zU (hS k h) hg.size)
 ·exact h3.to (uM hg hS) (λ k h=>zU (hS k h) hg.size)
 ·exact hc.to (λ k hk=>(hg.block k (hS k hk)).trans (hY.block k (hS k hk)).symm) (λ k h=>zU (hS k h) hg.size)
end
end
section
open Go.RowKit
def ZS(a b:Int):Rat:=if b=0 then Rat.divInt a 1 else Rat.divInt a b
theorem JV(w:World):Calls Tryz.prog 63 #[] w λ e w'=>∃v',e=.returned v'/\IntV (New w w') w' v' (Z8 1)/\Ext w w':=by
 obtain⟨w0,z⟩:∃W,W=w.alloc (.cells #[.bool false,.slice none 0 0] 28):=⟨_,rfl⟩
 have K:Hd (Ext w w0):=Z_ (by rw[z];exact uO (uP w) _);have U:Hd (w.heap.size<w0.heap.size):=Z_ (by rw[z];simp)
 have HB:=Z_ (λ(W:World) (h:Ext w0 W)=>by
  rw[z]at h
  exact zS (h.new_cell (i:=0) (v:=.bool false) rfl) (zS (h.new_cell (i:=1) (v:=.slice none 0 0) rfl) (zS (h.new_free 0) (h.new_free 1))))
 have CM:=Z_ (VM 1 w0 (by decide));rw[z]at CM;have J:=Z_ z;clear z
 go_enter Tryz.func63,Tryz.ntmps63
 go_wp2_with fail;refine CM.o.mono ?_;rintro e w2 ⟨v2,rfl,⟨vm2,rfl,I⟩,D⟩;rw[<-J.o]at I D;obtain⟨e0,e1,f0,f1⟩:=HB.o w2 D;have O:=Z_ D;have X:=Z_ I;have HE:=Z_ (zS e0 e1);obtain⟨a2,n2,rfl⟩:=I.form;clear I D;go_wp2
 all_goals
  have hd:=λ x y=>YY x y HE.o.1 HE.o.2;refine bodyPost_ret (by simp[results,Tryz.results63,go_sem,(hd _ _).1,(hd _ _).2];rfl) rfl ?_;have Z:=Xi (w0:=w) (b:=w.heap.size) rfl X.o K.o O.o (by omega) U.o (.bool (Z8 1).neg) (.slice a2 (Z8 1).mag.length n2);exact⟨_,rfl,Z.1,Z.2⟩
theorem Qg{w w1 w9:World}{b:Nat}{n d:RInt}{vn vd:Value}(h1:Ext w w1)(h9:Ext w1 w9)(hb1:b<w1.heap.size)(hb:w.heap.size<=b)(hn:U32s (New w1 w9) w9 vn n.mag)(hd:U32s (New w1 w9) w9 vd d.mag)(x3 x4 x5 x6:Value) :
  RatI (New w ((((w9.setCell ⟨b,0,none⟩ x3).setCell ⟨b,1,none⟩ x4).setCell ⟨b,2,none⟩ x5).setCell ⟨b,3,none⟩ x6))
   ((((w9.setCell ⟨b,0,none⟩ x3).setCell ⟨b,1,none⟩ x4).setCell ⟨b,2,none⟩ x5).setCell ⟨b,3,none⟩ x6) (.agg #[.bool n.neg,vn,.bool d.neg,vd]) n d /\
  Ext w ((((w9.setCell ⟨b,0,none⟩ x3).setCell ⟨b,1,none⟩ x4).setCell ⟨b,2,none⟩ x5).setCell ⟨b,3,none⟩ x6):=by
 have y:¬ New w1 w9 b:=λ h=>by have:=h.1;omega
 have up:∀v zs,U32s (New w1 w9) w9 v zs->U32s (New w ((((w9.setCell ⟨b,0,none⟩ x3).setCell ⟨b,1,none⟩ x4).setCell ⟨b,2,none⟩ x5).setCell ⟨b,3,none⟩ x6))
   ((((w9.setCell ⟨b,0,none⟩ x3).setCell ⟨b,1,none⟩ x4).setCell ⟨b,2,none⟩ x5).setCell ⟨b,3,none⟩ x6) v zs:=λ v zs h=>
  (XT (XT (XT (XT h y _) y _) y _) y _).to (uN _ _) (λ k hk=>⟨zT h1.size hk.1,by simp only[z03];exact hk.2⟩)
 exact⟨⟨vn,vd,rfl,up _ _ hn,up _ _ hd⟩,((((h1.trans h9).setCell hb _).setCell hb _).setCell hb _).setCell hb _⟩
theorem Uo{S:Nat->Prop}(v:Value)(x y:RInt)(w:World)(h:RatI S w v x y)(hS:∀k,S k->k<w.heap.size)(hr:x.mag.length<=10000000000)(hr2:y.mag.length<=10000000000) :
  Calls Tryz.prog 37 #[v] w λ e w'=>∃v',e=.returned v'/\Yi (New w w') w' v' (ZS (Z6 x) (Z6 y))/\Ext w w':=by
 obtain⟨xn,xs⟩:=x;obtain⟨yn,ys⟩:=y;obtain⟨vxm,vym,rfl,ar,ap⟩:=h;simp only at ar ap hr hr2⊢;obtain⟨X,hX⟩:∃X,X=Z6 ⟨xn,xs⟩:=⟨_,rfl⟩
 obtain⟨Y,hY⟩:∃Y,Y=Z6 ⟨yn,ys⟩:=⟨_,rfl⟩
 have HX:=Z_ ar;have HY:=Z_ ap;obtain⟨ax,cx,rfl⟩:=ar.form;obtain⟨ay,cy,rfl⟩:=ap.form;obtain⟨w0,ah⟩:∃W,W=((w.alloc (.cells #[.bool xn,.slice ax xs.length cx,.bool yn,.slice ay ys.length cy] 30)).alloc (.cells #[.bool false,.slice none 0 0,.bool false,.slice none 0 0] 30)):=⟨_,rfl⟩
 have az:Hd (Ext w w0):=Z_ (by rw[ah];exact uO (uO (uP w) _) _);have aN:Hd (w0.heap.size=w.heap.size+1+1):=Z_ (by rw[ah];simp)
 have HB:=Z_ (λ(W:World) (h:Ext w0 W)=>by
  rw[ah]at h;have e1:Ext (w.alloc (.cells #[.bool xn,.slice ax xs.length cx,.bool yn,.slice ay ys.length cy] 30)) W:=(uO (uP _) _).trans h;have k:=λ i v hv=>h.new_cell (i:=i) (v:=v) hv;have f:=λ i=>h.new_free i;rw[z00]at k f
  exact zS (λ i v hv=>e1.new_cell (i:=i) (v:=v) hv) (zS (λ i=>e1.new_free i) (zS k f)))
 have CS:=Z_ (X5 (.agg #[.bool yn,.slice ay ys.length cy]) ⟨yn,ys⟩ w0 ⟨_,rfl,ap.ext az.o hS⟩ (ZM hS az.o) (by show ys.length<=_;omega));rw[<-hY]at CS;have a4:=Z_ ah;rw[ah]at CS;have a5:=Z_ hX;have aS:=Z_ hY;rw[<-hX,<-hY];obtain⟨O,-,-,-⟩:=HB.o w0 (uP _);have c1:=O 0 _ rfl;have c2:=O 1 _ rfl;have c3:=O 2 _ rfl;have c4:=O 3 _ rfl;rw[ah]at c1 c2 c3 c4;clear ar ap hX hY ah O
 by_cases h0:Y=0
 ·have bb:(Zx Y == 0)=true:=by rw[h0];rfl
  have HZ:=Z_ h0;clear h0
  go_enter Tryz.func37,Tryz.ntmps37
  go_wp2_with fail;refine CS.o.mono ?_;rintro e w1 ⟨rfl,J⟩;rw[<-a4.o]at J;obtain⟨O,b2,b3,b4⟩:=HB.o w1 J;have a8:=Z_ (JV w1);have I:=Z_ J;clear J O b2 b3 b4 c1 c2 c3 c4;go_wp2_with fail;refine a8.o.mono ?_;rintro e av ⟨v1,rfl,⟨vm1,rfl,aC⟩,al⟩;obtain⟨O,b2,b3,b4⟩:=HB.o av (I.o.trans al);have d1:=O 0 _ rfl;have d2:=O 1 _ rfl;have d3:=O 2 _ rfl;have d4:=O 3 _ rfl;have q1:=b2 2;have q2:=b2 3;obtain⟨ol,aR⟩:∃m,m=(Z8 1).mag:=⟨_,rfl⟩
  obtain⟨ob,aG⟩:∃m,m=(Z8 1).neg:=⟨_,rfl⟩
  rw[<-aR]at aC;rw[<-aG];have a7:=Z_ aC;have HO:=Z_ (zS aR aG);obtain⟨a1,k1,rfl⟩:=aC.form;obtain⟨W1,Z⟩:∃W,W=(av.setCell ⟨w.heap.size,2,none⟩ (.bool ob)).setCell ⟨w.heap.size,3,none⟩ (.slice a1 ol.length k1):=⟨_,rfl⟩
  have aq:Hd (Ext w W1):=Z_ (by rw[Z];exact(((az.o.trans I.o).trans al).setCell (zR _) _).setCell (zR _) _);have a6:Hd (W1.heap.size=av.heap.size):=Z_ (by rw[Z];simp only[z03]);have ac:Hd (w.heap.size+1<W1.heap.size):=Z_ (by rw[a6.o];have h1:=aN.o;have h2:=(I.o.trans al).size;omega)
  have a0:Hd (U32s (Z2 W1) W1 (.slice a1 ol.length k1) ol):=Z_ (by
   have hn:¬ New w1 av w.heap.size:=λ h=>by have h1:=h.1;have h2:=aN.o;have h3:=I.o.size;omega
   rw[Z]
   exact(XT (XT a7.o hn _) hn _).to (uN _ _) (λ k h=>by show k<(World.heap _).size;simp only[z03];exact h.2))
  have aA:Hd (∀i v,(#[.bool false,.slice none 0 0,.bool false,.slice none 0 0]:Array Value)[i]? = some v->W1.cell? ⟨w.heap.size+1,i,none⟩=some v):=Z_ (by
   rw[Z]
   exact λ i v h=>ZZ (ZZ (b3 i v h) (ab (by omega))) (ab (by omega)))
  have aB:Hd (∀i,W1.frozen? ⟨w.heap.size+1,i,none⟩=false):=Z_ (by
   rw[Z]
   exact λ i=>Zg (Zg (b4 i)))
  have CO:=Z_ (Sy (S:=Z2 W1) (.agg #[.bool xn,.slice ax xs.length cx]) (.agg #[.bool ob,.slice a1 ol.length k1]) ⟨xn,xs⟩ ⟨ob,ol⟩ W1 ⟨_,rfl,(HX.o.ext aq.o hS).to (uN _ _) (ZM hS aq.o)⟩ ⟨_,rfl,a0.o⟩ (λ _ h=>h) hr (by show ol.length<=_;rw[HO.o.1];decide) (by rw[HO.o.1,HO.o.2];decide));have eo:Z6 ⟨ob,ol⟩=1:=by rw[HO.o.1,HO.o.2];exact z09 1
  rw[<-a5.o,eo,show Rat.divInt X 1=ZS X Y by unfold ZS;rw[if_pos HZ.o]]at CO;clear aC al O b2 b3 b4 aR aG eo;go_wp2_with fail;rw[<-Z];refine CO.o.mono ?_;rintro e w2 ⟨v2,rfl,⟨ba,bf,rfl,K,U⟩,D⟩;have e1:=D.cell (aA.o 0 _ rfl);have e2:=D.cell (aA.o 1 _ rfl);have e3:=D.cell (aA.o 2 _ rfl);have e4:=D.cell (aA.o 3 _ rfl);have f1:=D.free ac.o (aB.o 0);have f2:=D.free ac.o (aB.o 1);have f3:=D.free ac.o (aB.o 2);have f4:=D.free ac.o (aB.o 3);clear d1 d2 d3 d4 q1 q2;have aF:=Z_ D;have a9:w.heap.size+1<w2.heap.size:=by have h1:=ac.o;have h2:=D.size;omega
  obtain⟨nl,ag⟩:∃m,m=(Z8 (ZS X Y).num).mag:=⟨_,rfl⟩
  obtain⟨nb,ai⟩:∃m,m=(Z8 (ZS X Y).num).neg:=⟨_,rfl⟩
  obtain⟨dl,af⟩:∃m,m=(Z8 ((ZS X Y).den:Int)).mag:=⟨_,rfl⟩
  obtain⟨db,aj⟩:∃m,m=(Z8 ((ZS X Y).den:Int)).neg:=⟨_,rfl⟩
  rw[<-ag]at K;rw[<-af]at U;rw[<-ai,<-aj];have aH:=Z_ K;have aP:=Z_ U;have ae:=Z_ (zS ag (zS ai (zS af aj)));obtain⟨a2,k2,rfl⟩:=K.form;obtain⟨a3,k3,rfl⟩:=U.form;have aa:=Z_ (zS e1 (zS e2 (zS e3 e4)));clear D K U ag ai af aj;go_wp2
  all_goals
   have ad:=λ x y z t=>X8 x y z t aa.o.1 aa.o.2.1 aa.o.2.2.1 aa.o.2.2.2;have ha:=λ(E:World) (C:Obj) (b i:Nat) (v:Value) (h:E.cell? ⟨b,i,none⟩=some v)=>(uO (uP E) C).cell h;have r1:=λ C x y z t=>ha _ C _ _ _ (ad x y z t).1;have r2:=λ C x y z t=>ha _ C _ _ _ (ad x y z t).2.1;have r3:=λ C x y z t=>ha _ C _ _ _ (ad x y z t).2.2.1;have r4:=λ C x y z t=>ha _ C _ _ _ (ad x y z t).2.2.2;refine bodyPost_ret (by simp[results,Tryz.results37,go_sem,r1,r2,r3,r4];rfl) rfl ?_;have hg:=Qg (w:=w) (w1:=W1) (b:=w.heap.size+1) (n:=⟨nb,nl⟩) (d:=⟨db,dl⟩) aq.o aF.o ac.o (zw _) aH.o aP.o (.bool nb) (.slice a2 nl.length k2) (.bool db) (.slice a3 dl.length k3);refine⟨_,rfl,?_,hg.2.alloc _⟩;have en:(RInt.mk nb nl)=Z8 (ZS X Y).num:=by rw[ae.o.1,ae.o.2.1]
   have ed:(RInt.mk db dl)=Z8 ((ZS X Y).den:Int):=by rw[ae.o.2.2.1,ae.o.2.2.2]
   unfold Yi;rw[<-en,<-ed];exact hg.1.to (uw uK _) (λ k h=>⟨h.1,by rw[z00];have:=h.2;omega⟩)
 ·have bb:(Zx Y == 0)=false:=by
   rw[beq_eq_false_iff_ne];unfold Zx cmpI
   split
   ·omega
   ·split<;>omega
  have HZ:=Z_ h0;clear h0
  go_enter Tryz.func37,Tryz.ntmps37
  go_wp2_with fail;refine CS.o.mono ?_;rintro e w1 ⟨rfl,J⟩;rw[<-a4.o]at J;obtain⟨O,b2,b3,b4⟩:=HB.o w1 J;have d1:=O 0 _ rfl;have d2:=O 1 _ rfl;have d3:=O 2 _ rfl;have d4:=O 3 _ rfl;have au:=Z_ (az.o.trans J);have I:=Z_ J;have CO:=Z_ (Sy (.agg #[.bool xn,.slice ax xs.length cx]) (.agg #[.bool yn,.slice ay ys.length cy]) ⟨xn,xs⟩ ⟨yn,ys⟩ w1 ⟨_,rfl,HX.o.ext au.o hS⟩ ⟨_,rfl,HY.o.ext au.o hS⟩ (ZM hS au.o) hr hr2 (by rw[<-aS.o];exact HZ.o));rw[<-a5.o,<-aS.o,show Rat.divInt X Y=ZS X Y by unfold ZS;rw[if_neg HZ.o]]at CO;obtain⟨W1,Z⟩:∃W,W=w1:=⟨_,rfl⟩
  have aq:Hd (Ext w W1):=Z_ (by rw[Z];exact au.o);have ac:Hd (w.heap.size+1<W1.heap.size):=Z_ (by rw[Z];have h1:=aN.o;have h2:=J.size;omega);clear J O b2 b3 b4 c1 c2 c3 c4;go_wp2_with fail;refine CO.o.mono ?_;rintro e w2 ⟨v2,rfl,⟨ba,bf,rfl,K,U⟩,D⟩;rw[<-Z]at K U D I;obtain⟨O,b2,b3,b4⟩:=HB.o w2 (I.o.trans D);have e1:=b3 0 _ rfl;have e2:=b3 1 _ rfl;have e3:=b3 2 _ rfl;have e4:=b3 3 _ rfl;have f1:=b4 0;have f2:=b4 1;have f3:=b4 2;have f4:=b4 3;clear O b2 b3 b4;have aF:=Z_ D;have a9:w.heap.size+1<w2.heap.size:=by have h1:=ac.o;have h2:=D.size;omega
  obtain⟨nl,ag⟩:∃m,m=(Z8 (ZS X Y).num).mag:=⟨_,rfl⟩
  obtain⟨nb,ai⟩:∃m,m=(Z8 (ZS X Y).num).neg:=⟨_,rfl⟩
  obtain⟨dl,af⟩:∃m,m=(Z8 ((ZS X Y).den:Int)).mag:=⟨_,rfl⟩
  obtain⟨db,aj⟩:∃m,m=(Z8 ((ZS X Y).den:Int)).neg:=⟨_,rfl⟩
  rw[<-ag]at K;rw[<-af]at U;rw[<-ai,<-aj];have aH:=Z_ K;have aP:=Z_ U;have ae:=Z_ (zS ag (zS ai (zS af aj)));obtain⟨a2,k2,rfl⟩:=K.form;obtain⟨a3,k3,rfl⟩:=U.form;have aa:=Z_ (zS e1 (zS e2 (zS e3 e4)));clear D K U ag ai af aj;go_wp2
  all_goals
   have ad:=λ x y z t=>X8 x y z t aa.o.1 aa.o.2.1 aa.o.2.2.1 aa.o.2.2.2;have ha:=λ(E:World) (C:Obj) (b i:Nat) (v:Value) (h:E.cell? ⟨b,i,none⟩=some v)=>(uO (uP E) C).cell h;have r1:=λ C x y z t=>ha _ C _ _ _ (ad x y z t).1;have r2:=λ C x y z t=>ha _ C _ _ _ (ad x y z t).2.1;have r3:=λ C x y z t=>ha _ C _ _ _ (ad x y z t).2.2.1;have r4:=λ C x y z t=>ha _ C _ _ _ (ad x y z t).2.2.2;refine bodyPost_ret (by simp[results,Tryz.results37,go_sem,r1,r2,r3,r4];rfl) rfl ?_;have hg:=Qg (w:=w) (w1:=W1) (b:=w.heap.size+1) (n:=⟨nb,nl⟩) (d:=⟨db,dl⟩) aq.o aF.o ac.o (zw _) aH.o aP.o (.bool nb) (.slice a2 nl.length k2) (.bool db) (.slice a3 dl.length k3);refine⟨_,rfl,?_,hg.2.alloc _⟩;have en:(RInt.mk nb nl)=Z8 (ZS X Y).num:=by rw[ae.o.1,ae.o.2.1]
   have ed:(RInt.mk db dl)=Z8 ((ZS X Y).den:Int):=by rw[ae.o.2.2.1,ae.o.2.2.2]
   unfold Yi;rw[<-en,<-ed];exact hg.1.to (uw uK _) (λ k h=>⟨h.1,by rw[z00];have:=h.2;omega⟩)
end
section
open Go.RowKit
def ZQ(z:Int):Nat:=(Z4 Z9 z.natAbs).length
theorem T4{a g n:Int}(hg:g≠0)(h:a=n*g):ZQ n<=ZQ a:=by
 refine Yp ?_;rw[h,xS];exact y9 _ (by omega)
theorem Uh(a b:Int):ZQ (ZS a b).num<=ZQ a/\ZQ ((ZS a b).den:Int)<=ZQ b+1:=by
 unfold ZS
 by_cases h:b=0
 ·rw[if_pos h];obtain⟨y,z,D⟩:=Ui a 1 (by decide);refine⟨T4 y z,zT (T4 y D) ?_⟩;have:ZQ 1=1:=by decide
  omega
 ·rw[if_neg h];obtain⟨y,z,D⟩:=Ui a b h;exact⟨T4 y z,zT (T4 y D) (zw _)⟩
theorem WS{r:RInt}(h:∀z∈r.mag,z<Z9):ZQ (Z6 r)<=r.mag.length:=by
 unfold ZQ;rw[SK];exact XL h
theorem MR(p q:Rat):Rat.divInt (p.num*q.num) ((p.den:Int)*(q.den:Int))=p*q:=by
 rw[<-Rat.divInt_mul_divInt,xO,xO]
theorem Ys{a w:World}{b:Nat}(h:Ext a w)(hb:a.heap.size<=b)(x y z t:Value):Ext a ((((w.setCell ⟨b,0,none⟩ x).setCell ⟨b,1,none⟩ y).setCell ⟨b,2,none⟩ z).setCell ⟨b,3,none⟩ t):=(((h.setCell hb _).setCell hb _).setCell hb _).setCell hb _
theorem YJ{w:World}{b c i:Nat}{u:Value}(h:w.cell? ⟨c,i,none⟩=some u)(hne:b≠c)(x y z t:Value):((((w.setCell ⟨b,0,none⟩ x).setCell ⟨b,1,none⟩ y).setCell ⟨b,2,none⟩ z).setCell ⟨b,3,none⟩ t).cell? ⟨c,i,none⟩=some u:=ZZ (ZZ (ZZ (ZZ h (ab hne)) (ab hne)) (ab hne)) (ab hne)
theorem UE{w:World}{b:Nat}{c:Addr}(h:w.frozen? c=false)(x y z t:Value):((((w.setCell ⟨b,0,none⟩ x).setCell ⟨b,1,none⟩ y).setCell ⟨b,2,none⟩ z).setCell ⟨b,3,none⟩ t).frozen? c=false:=Zg (Zg (Zg (Zg h)))
theorem Ud{S:Nat->Prop}{w:World}{b:Nat}{v:Value}{zs:List Nat}(h:U32s S w v zs)(hb:¬ S b)(x y z t:Value):U32s S ((((w.setCell ⟨b,0,none⟩ x).setCell ⟨b,1,none⟩ y).setCell ⟨b,2,none⟩ z).setCell ⟨b,3,none⟩ t) v zs:=XT (XT (XT (XT h hb _) hb _) hb _) hb _
def Rg(w w0 wx:World)(p q:Rat):Prop:=∃(an3 ad3 an4 ad4:Option Addr) (cn3 cd3 cn4 cd4:Nat),
 (wx.cell? ⟨w.heap.size,0,none⟩=some (.bool (Z8 p.num).neg)/\wx.cell? ⟨w.heap.size,1,none⟩=some (.slice an3 (Z8 p.num).mag.length cn3)/\wx.cell? ⟨w.heap.size,2,none⟩=some (.bool (Z8 (p.den:Int)).neg)/\wx.cell? ⟨w.heap.size,3,none⟩=some (.slice ad3 (Z8 (p.den:Int)).mag.length cd3)) /\
 (wx.cell? ⟨w.heap.size+1,0,none⟩=some (.bool (Z8 q.num).neg)/\wx.cell? ⟨w.heap.size+1,1,none⟩=some (.slice an4 (Z8 q.num).mag.length cn4)/\wx.cell? ⟨w.heap.size+1,2,none⟩=some (.bool (Z8 (q.den:Int)).neg)/\wx.cell? ⟨w.heap.size+1,3,none⟩=some (.slice ad4 (Z8 (q.den:Int)).mag.length cd4)) /\
 (wx.cell? ⟨w.heap.size+1+1,0,none⟩=some (.bool false)/\wx.cell? ⟨w.heap.size+1+1,1,none⟩=some (.slice none 0 0)/\wx.cell? ⟨w.heap.size+1+1,2,none⟩=some (.bool false)/\wx.cell? ⟨w.heap.size+1+1,3,none⟩=some (.slice none 0 0)/\∀i,wx.frozen? ⟨w.heap.size+1+1,i,none⟩=false) /\
 U32s (New w0 wx) wx (.slice an3 (Z8 p.num).mag.length cn3) (Z8 p.num).mag/\U32s (New w0 wx) wx (.slice ad3 (Z8 (p.den:Int)).mag.length cd3) (Z8 (p.den:Int)).mag /\
 U32s (New w0 wx) wx (.slice an4 (Z8 q.num).mag.length cn4) (Z8 q.num).mag/\U32s (New w0 wx) wx (.slice ad4 (Z8 (q.den:Int)).mag.length cd4) (Z8 (q.den:Int)).mag /\
 Ext w wx/\w0.heap.size<=wx.heap.size
theorem NK{w w0 wa w1 w2:World}{p q:Rat}{an3 ad3 an4 ad4:Option Addr}{cn3 cd3 cn4 cd4:Nat}(hsz:w0.heap.size=w.heap.size+1+1+1)(hwa:Ext w wa)(hwz:wa.heap.size=w0.heap.size)(hx1:Ext wa w1)(hx2:Ext w1 w2)
  (hn3:U32s (New wa w1) w1 (.slice an3 (Z8 p.num).mag.length cn3) (Z8 p.num).mag) (hd3:U32s (New wa w1) w1 (.slice ad3 (Z8 (p.den:Int)).mag.length cd3) (Z8 (p.den:Int)).mag)
  (hn4:U32s (New w1 w2) w2 (.slice an4 (Z8 q.num).mag.length cn4) (Z8 q.num).mag) (hd4:U32s (New w1 w2) w2 (.slice ad4 (Z8 (q.den:Int)).mag.length cd4) (Z8 (q.den:Int)).mag)
  {o:Nat->Nat->Value} (hc:∀b i,b<2->i<4->w2.cell? ⟨w.heap.size+b,i,none⟩=some (o b i))
  (hr:w2.cell? ⟨w.heap.size+1+1,0,none⟩=some (.bool false)/\w2.cell? ⟨w.heap.size+1+1,1,none⟩=some (.slice none 0 0)/\w2.cell? ⟨w.heap.size+1+1,2,none⟩=some (.bool false)/\w2.cell? ⟨w.heap.size+1+1,3,none⟩=some (.slice none 0 0)/\∀i,w2.frozen? ⟨w.heap.size+1+1,i,none⟩=false) :
  Rg w w0 ((((((((w2.setCell ⟨w.heap.size,0,none⟩ (.bool (Z8 p.num).neg)).setCell ⟨w.heap.size,1,none⟩ (.slice an3 (Z8 p.num).mag.length cn3)).setCell ⟨w.heap.size,2,none⟩ (.bool (Z8 (p.den:Int)).neg)).setCell ⟨w.heap.size,3,none⟩ (.slice ad3 (Z8 (p.den:Int)).mag.length cd3)).setCell
   ⟨w.heap.size+1,0,none⟩ (.bool (Z8 q.num).neg)).setCell ⟨w.heap.size+1,1,none⟩ (.slice an4 (Z8 q.num).mag.length cn4)).setCell ⟨w.heap.size+1,2,none⟩ (.bool (Z8 (q.den:Int)).neg)).setCell ⟨w.heap.size+1,3,none⟩ (.slice ad4 (Z8 (q.den:Int)).mag.length cd4)) p q:=by
 have D:=X8 (.bool (Z8 p.num).neg) (.slice an3 (Z8 p.num).mag.length cn3) (.bool (Z8 (p.den:Int)).neg) (.slice ad3 (Z8 (p.den:Int)).mag.length cd3) (hc 0 0 (by decide) (by decide)) (hc 0 1 (by decide) (by decide)) (hc 0 2 (by decide) (by decide)) (hc 0 3 (by decide) (by decide));have z:w.heap.size≠w.heap.size+1:=by omega
 have y:w.heap.size≠w.heap.size+1+1:=by omega
 have I:w.heap.size+1≠w.heap.size+1+1:=by omega
 have n4:w.heap.size+1≠w.heap.size:=by omega
 have k1:=X8 (.bool (Z8 q.num).neg) (.slice an4 (Z8 q.num).mag.length cn4) (.bool (Z8 (q.den:Int)).neg) (.slice ad4 (Z8 (q.den:Int)).mag.length cd4)
  (YJ (hc 1 0 (by decide) (by decide)) z (.bool (Z8 p.num).neg) (.slice an3 (Z8 p.num).mag.length cn3) (.bool (Z8 (p.den:Int)).neg) (.slice ad3 (Z8 (p.den:Int)).mag.length cd3))
  (YJ (hc 1 1 (by decide) (by decide)) z (.bool (Z8 p.num).neg) (.slice an3 (Z8 p.num).mag.length cn3) (.bool (Z8 (p.den:Int)).neg) (.slice ad3 (Z8 (p.den:Int)).mag.length cd3))
  (YJ (hc 1 2 (by decide) (by decide)) z (.bool (Z8 p.num).neg) (.slice an3 (Z8 p.num).mag.length cn3) (.bool (Z8 (p.den:Int)).neg) (.slice ad3 (Z8 (p.den:Int)).mag.length cd3))
  (YJ (hc 1 3 (by decide) (by decide)) z (.bool (Z8 p.num).neg) (.slice an3 (Z8 p.num).mag.length cn3) (.bool (Z8 (p.den:Int)).neg) (.slice ad3 (Z8 (p.den:Int)).mag.length cd3))
 have s1:w1.heap.size<=w2.heap.size:=hx2.size;have J:wa.heap.size<=w1.heap.size:=hx1.size
 have up:∀v zs,U32s (New w0 w2) w2 v zs->U32s (New w0 ((((((((w2.setCell ⟨w.heap.size,0,none⟩ (.bool (Z8 p.num).neg)).setCell ⟨w.heap.size,1,none⟩ (.slice an3 (Z8 p.num).mag.length cn3)).setCell ⟨w.heap.size,2,none⟩ (.bool (Z8 (p.den:Int)).neg)).setCell ⟨w.heap.size,3,none⟩ (.slice ad3 (Z8 (p.den:Int)).mag.length cd3)).setCell
   ⟨w.heap.size+1,0,none⟩ (.bool (Z8 q.num).neg)).setCell ⟨w.heap.size+1,1,none⟩ (.slice an4 (Z8 q.num).mag.length cn4)).setCell ⟨w.heap.size+1,2,none⟩ (.bool (Z8 (q.den:Int)).neg)).setCell ⟨w.heap.size+1,3,none⟩ (.slice ad4 (Z8 (q.den:Int)).mag.length cd4))) ((((((((w2.setCell ⟨w.heap.size,0,none⟩ (.bool (Z8 p.num).neg)).setCell ⟨w.heap.size,1,none⟩ (.slice an3 (Z8 p.num).mag.length cn3)).setCell ⟨w.heap.size,2,none⟩ (.bool (Z8 (p.den:Int)).neg)).setCell ⟨w.heap.size,3,none⟩ (.slice ad3 (Z8 (p.den:Int)).mag.length cd3)).setCell
   ⟨w.heap.size+1,0,none⟩ (.bool (Z8 q.num).neg)).setCell ⟨w.heap.size+1,1,none⟩ (.slice an4 (Z8 q.num).mag.length cn4)).setCell ⟨w.heap.size+1,2,none⟩ (.bool (Z8 (q.den:Int)).neg)).setCell ⟨w.heap.size+1,3,none⟩ (.slice ad4 (Z8 (q.den:Int)).mag.length cd4)) v zs:=λ v zs h=>
  (Ud (Ud h (λ h=>by have:=h.1;omega) _ _ _ _) (λ h=>by have:=h.1;omega) _ _ _ _).to (uN _ _) (λ k hk=>⟨hk.1,by simp only[z03];exact hk.2⟩)
 refine⟨an3,ad3,an4,ad4,cn3,cd3,cn4,cd4,⟨YJ D.1 n4 _ _ _ _,YJ D.2.1 n4 _ _ _ _,YJ D.2.2.1 n4 _ _ _ _,YJ D.2.2.2 n4 _ _ _ _⟩,⟨k1.1,k1.2.1,k1.2.2.1,k1.2.2.2⟩,
  ⟨YJ (YJ hr.1 y _ _ _ _) I _ _ _ _,YJ (YJ hr.2.1 y _ _ _ _) I _ _ _ _,YJ (YJ hr.2.2.1 y _ _ _ _) I _ _ _ _,YJ (YJ hr.2.2.2.1 y _ _ _ _) I _ _ _ _,λ i=>UE (UE (hr.2.2.2.2 i) _ _ _ _) _ _ _ _⟩,?_,?_,?_,?_,?_,?_⟩
 ·exact up _ _ (hn3.to (uM hx2 uK) (λ k h=>⟨by rw[<-hwz];exact h.1,zU h.2 s1⟩))
 ·exact up _ _ (hd3.to (uM hx2 uK) (λ k h=>⟨by rw[<-hwz];exact h.1,zU h.2 s1⟩))
 ·exact up _ _ (hn4.to (uN _ _) (λ k h=>⟨by rw[<-hwz];exact zT J h.1,h.2⟩))
 ·exact up _ _ (hd4.to (uN _ _) (λ k h=>⟨by rw[<-hwz];exact zT J h.1,h.2⟩))
 ·exact Ys (Ys ((hwa.trans hx1).trans hx2) (zR _) _ _ _ _) (zw _) _ _ _ _
 ·simp only[z03];omega
def Box(W:World)(b:Nat):Prop:=W.cell? ⟨b,0,none⟩=some (.bool false)/\W.cell? ⟨b,1,none⟩=some (.slice none 0 0)/\W.cell? ⟨b,2,none⟩=some (.bool false)/\W.cell? ⟨b,3,none⟩=some (.slice none 0 0)/\(∀i,W.frozen? ⟨b,i,none⟩=false)/\b<W.heap.size
theorem WV{w W:World}{T:TypeId}(h:Ext (w.alloc (.cells #[.bool false,.slice none 0 0,.bool false,.slice none 0 0] T)) W):Box W w.heap.size :=
 ⟨h.new_cell rfl,h.new_cell rfl,h.new_cell rfl,h.new_cell rfl,λ i=>h.new_free i,zU (by rw[z00];omega) h.size⟩
theorem XU{w W:World}{b:Nat}(h:Box w b)(hx:Ext w W):Box W b :=
 ⟨hx.cell h.1,hx.cell h.2.1,hx.cell h.2.2.1,hx.cell h.2.2.2.1,λ i=>hx.free h.2.2.2.2.2 (h.2.2.2.2.1 i),zU h.2.2.2.2.2 hx.size⟩
def VO(b2:Nat)(wc wx:World)(u:Value)(r:Rat):Prop:=∃(b:Nat) (a3 a4:Option Addr) (k3 k4:Nat),u=.pointer (some ⟨b,0,none⟩) /\
 (wx.cell? ⟨b,0,none⟩=some (.bool (Z8 r.num).neg)/\wx.cell? ⟨b,1,none⟩=some (.slice a3 (Z8 r.num).mag.length k3)/\wx.cell? ⟨b,2,none⟩=some (.bool (Z8 (r.den:Int)).neg)/\wx.cell? ⟨b,3,none⟩=some (.slice a4 (Z8 (r.den:Int)).mag.length k4)) /\
 Box wx b2/\U32s (New wc wx) wx (.slice a3 (Z8 r.num).mag.length k3) (Z8 r.num).mag/\U32s (New wc wx) wx (.slice a4 (Z8 (r.den:Int)).mag.length k4) (Z8 (r.den:Int)).mag/\Ext wc wx
theorem Sa{wc w2 w3:World}{b b2:Nat}{a3 a4:Option Addr}{k3 k4:Nat}{r:Rat}(hx:Ext wc w3)(hs:wc.heap.size<=w2.heap.size)(hn:U32s (New w2 w3) w3 (.slice a3 (Z8 r.num).mag.length k3) (Z8 r.num).mag)(hd:U32s (New w2 w3) w3 (.slice a4 (Z8 (r.den:Int)).mag.length k4) (Z8 (r.den:Int)).mag)
  (hb:Box w3 b) (hlo:wc.heap.size<=b) (hhi:b<w2.heap.size) (hb2:Box w3 b2) (h2:b2<wc.heap.size) :
  VO b2 wc ((((w3.setCell ⟨b,0,none⟩ (.bool (Z8 r.num).neg)).setCell ⟨b,1,none⟩ (.slice a3 (Z8 r.num).mag.length k3)).setCell ⟨b,2,none⟩ (.bool (Z8 (r.den:Int)).neg)).setCell ⟨b,3,none⟩ (.slice a4 (Z8 (r.den:Int)).mag.length k4)) (.pointer (some ⟨b,0,none⟩)) r:=by
 have D:=X8 (.bool (Z8 r.num).neg) (.slice a3 (Z8 r.num).mag.length k3) (.bool (Z8 (r.den:Int)).neg) (.slice a4 (Z8 (r.den:Int)).mag.length k4) hb.1 hb.2.1 hb.2.2.1 hb.2.2.2.1;have y:b≠b2:=by omega
 have z:¬ New w2 w3 b:=λ h=>by have:=h.1;omega
 have up:∀v zs,U32s (New w2 w3) w3 v zs->U32s (New wc ((((w3.setCell ⟨b,0,none⟩ (.bool (Z8 r.num).neg)).setCell ⟨b,1,none⟩ (.slice a3 (Z8 r.num).mag.length k3)).setCell ⟨b,2,none⟩ (.bool (Z8 (r.den:Int)).neg)).setCell ⟨b,3,none⟩ (.slice a4 (Z8 (r.den:Int)).mag.length k4)))
   ((((w3.setCell ⟨b,0,none⟩ (.bool (Z8 r.num).neg)).setCell ⟨b,1,none⟩ (.slice a3 (Z8 r.num).mag.length k3)).setCell ⟨b,2,none⟩ (.bool (Z8 (r.den:Int)).neg)).setCell ⟨b,3,none⟩ (.slice a4 (Z8 (r.den:Int)).mag.length k4)) v zs:=λ v zs h=>
  (Ud h z _ _ _ _).to (uN _ _) (λ k hk=>⟨zT hs hk.1,by simp only[z03];exact hk.2⟩)
 exact⟨b,a3,a4,k3,k4,rfl,D,⟨YJ hb2.1 y _ _ _ _,YJ hb2.2.1 y _ _ _ _,YJ hb2.2.2.1 y _ _ _ _,YJ hb2.2.2.2.1 y _ _ _ _,λ i=>UE (hb2.2.2.2.2.1 i) _ _ _ _,by simp only[z03];exact hb2.2.2.2.2.2⟩,up _ _ hn,up _ _ hd,Ys hx hlo _ _ _ _⟩
theorem K1{wc w2 w3:World}{b2:Nat}{a3 a4:Option Addr}{k3 k4:Nat}{r:Rat}{T:TypeId}(hx:Ext wc w3)(hs:wc.heap.size<=w2.heap.size)(hn:U32s (New w2 w3) w3 (.slice a3 (Z8 r.num).mag.length k3) (Z8 r.num).mag)(hd:U32s (New w2 w3) w3 (.slice a4 (Z8 (r.den:Int)).mag.length k4) (Z8 (r.den:Int)).mag)
  (hb2:Box w3 b2) :
  VO b2 wc (w3.alloc (.cells #[.bool (Z8 r.num).neg,.slice a3 (Z8 r.num).mag.length k3,.bool (Z8 (r.den:Int)).neg,.slice a4 (Z8 (r.den:Int)).mag.length k4] T)) (.pointer (some ⟨w3.heap.size,0,none⟩)) r:=by
 have y:Ext w3 (w3.alloc (.cells #[.bool (Z8 r.num).neg,.slice a3 (Z8 r.num).mag.length k3,.bool (Z8 (r.den:Int)).neg,.slice a4 (Z8 (r.den:Int)).mag.length k4] T)):=uO (uP _) _
 have up:∀v zs,U32s (New w2 w3) w3 v zs->U32s (New wc (w3.alloc (.cells #[.bool (Z8 r.num).neg,.slice a3 (Z8 r.num).mag.length k3,.bool (Z8 (r.den:Int)).neg,.slice a4 (Z8 (r.den:Int)).mag.length k4] T))) (w3.alloc (.cells #[.bool (Z8 r.num).neg,.slice a3 (Z8 r.num).mag.length k3,.bool (Z8 (r.den:Int)).neg,.slice a4 (Z8 (r.den:Int)).mag.length k4] T)) v zs:=λ v zs h=>
  h.to (uM y uK) (λ k hk=>⟨zT hs hk.1,zU hk.2 y.size⟩)
 exact⟨w3.heap.size,a3,a4,k3,k4,rfl,⟨ZJ _ _ _ rfl rfl,ZJ _ _ _ rfl rfl,ZJ _ _ _ rfl rfl,ZJ _ _ _ rfl rfl⟩,XU hb2 y,up _ _ hn,up _ _ hd,hx.trans y⟩
theorem LL{w wc wx:World}{b2:Nat}{a3 a4:Option Addr}{k3 k4:Nat}{r:Rat}(hw:Ext w wc)(hx:Ext wc wx)(hlo:w.heap.size<=b2)(hhi:b2<wc.heap.size)(hn:U32s (New wc wx) wx (.slice a3 (Z8 r.num).mag.length k3) (Z8 r.num).mag)(hd:U32s (New wc wx) wx (.slice a4 (Z8 (r.den:Int)).mag.length k4) (Z8 (r.den:Int)).mag)(x y z t:Value) :
  Yi (New w ((((wx.setCell ⟨b2,0,none⟩ x).setCell ⟨b2,1,none⟩ y).setCell ⟨b2,2,none⟩ z).setCell ⟨b2,3,none⟩ t)) ((((wx.setCell ⟨b2,0,none⟩ x).setCell ⟨b2,1,none⟩ y).setCell ⟨b2,2,none⟩ z).setCell ⟨b2,3,none⟩ t) (.agg #[.bool (Z8 r.num).neg,.slice a3 (Z8 r.num).mag.length k3,.bool (Z8 (r.den:Int)).neg,.slice a4 (Z8 (r.den:Int)).mag.length k4]) r /\
  Ext w ((((wx.setCell ⟨b2,0,none⟩ x).setCell ⟨b2,1,none⟩ y).setCell ⟨b2,2,none⟩ z).setCell ⟨b2,3,none⟩ t):=by
 have D:¬ New wc wx b2:=λ h=>by have:=h.1;omega
 have up:∀v zs,U32s (New wc wx) wx v zs->U32s (New w ((((wx.setCell ⟨b2,0,none⟩ x).setCell ⟨b2,1,none⟩ y).setCell ⟨b2,2,none⟩ z).setCell ⟨b2,3,none⟩ t)) ((((wx.setCell ⟨b2,0,none⟩ x).setCell ⟨b2,1,none⟩ y).setCell ⟨b2,2,none⟩ z).setCell ⟨b2,3,none⟩ t) v zs:=λ v zs h=>
  (Ud h D _ _ _ _).to (uN _ _) (λ k hk=>⟨zT hw.size hk.1,by simp only[z03];exact hk.2⟩)
 exact⟨⟨_,_,rfl,up _ _ hn,up _ _ hd⟩,Ys (hw.trans hx) hlo _ _ _ _⟩
theorem P_{S:Nat->Prop}(vx vy:Value)(x1 x2 y1 y2:RInt)(w:World)(hx:RatI S w vx x1 x2)(hy:RatI S w vy y1 y2)(hS:∀k,S k->k<w.heap.size)(hr1:x1.mag.length<=1000000000)(hr2:x2.mag.length<=1000000000)(hr3:y1.mag.length<=1000000000)(hr4:y2.mag.length<=1000000000) :
  Calls Tryz.prog 33 #[vx,vy] w λ e w'=>∃v',e=.returned v'/\Yi (New w w') w' v' (ZS (Z6 x1) (Z6 x2)*ZS (Z6 y1) (Z6 y2))/\Ext w w':=by
 have CX:=Z_ (λ(W:World) (hW:Ext w W)=>Uo vx x1 x2 W (hx.to (uM hW hS) (λ _ h=>h)) (ZM hS hW) (by omega) (by omega));have CY:=Z_ (λ(W:World) (hW:Ext w W)=>Uo vy y1 y2 W (hy.to (uM hW hS) (λ _ h=>h)) (ZM hS hW) (by omega) (by omega));obtain⟨p,hp⟩:∃p,p=ZS (Z6 x1) (Z6 x2):=⟨_,rfl⟩
 obtain⟨q,hq⟩:∃q,q=ZS (Z6 y1) (Z6 y2):=⟨_,rfl⟩
 rw[<-hp]at CX⊢;rw[<-hq]at CY⊢;obtain⟨vn1,vd1,rfl,ba,a6⟩:=hx;obtain⟨vn2,vd2,rfl,aS,bb⟩:=hy
 have ac:Hd (ZQ p.num<=1000000001/\ZQ (p.den:Int)<=1000000001/\ZQ q.num<=1000000001/\ZQ (q.den:Int)<=1000000001):=Z_ (by
  rw[hp,hq];have h1:=Uh (Z6 x1) (Z6 x2);have h2:=Uh (Z6 y1) (Z6 y2);have h3:=WS (r:=x1) ba.lt;have h4:=WS (r:=x2) a6.lt;have h5:=WS (r:=y1) aS.lt;have h6:=WS (r:=y2) bb.lt
  omega)
 obtain⟨aA,aB,rfl⟩:=ba.form;obtain⟨ay,aP,rfl⟩:=a6.form;obtain⟨a0,bn,rfl⟩:=aS.form;obtain⟨a7,a8,rfl⟩:=bb.form;obtain⟨w0,af⟩:∃W,W=(((w.alloc (.cells #[.bool x1.neg,.slice aA x1.mag.length aB,.bool x2.neg,.slice ay x2.mag.length aP] 30)).alloc (.cells #[.bool y1.neg,.slice a0 y1.mag.length bn,.bool y2.neg,.slice a7 y2.mag.length a8] 30)).alloc (.cells #[.bool false,.slice none 0 0,.bool false,.slice none 0 0] 30)):=⟨_,rfl⟩
 have bN:Hd (Ext w w0):=Z_ (by rw[af];exact uO (uO (uO (uP w) _) _) _);have bl:Hd (w0.heap.size=w.heap.size+1+1+1):=Z_ (by rw[af];simp)
 have HB:=Z_ (λ(W:World) (h:Ext w0 W)=>by
  rw[af]at h
  exact Zf h)
 have cb:=Z_ (λ(W:World) (h:Ext w0 W)=>by
  rw[af]at h;have e2:Ext ((w.alloc (.cells #[.bool x1.neg,.slice aA x1.mag.length aB,.bool x2.neg,.slice ay x2.mag.length aP] 30)).alloc (.cells #[.bool y1.neg,.slice a0 y1.mag.length bn,.bool y2.neg,.slice a7 y2.mag.length a8] 30)) W:=(uO (uP _) _).trans h;have e1:Ext (w.alloc (.cells #[.bool x1.neg,.slice aA x1.mag.length aB,.bool x2.neg,.slice ay x2.mag.length aP] 30)) W:=(uO (uP _) _).trans e2
  exact zS (λ i=>e1.new_free i) (λ i=>by have h1:=e2.new_free i;rw[z00]at h1;exact h1))
 have HP:=Z_ (zS hp hq);obtain⟨b1,b2,-,-⟩:=HB.o w0.drew (uI (uP _));have c1:=b1 0 _ rfl;have c2:=b1 1 _ rfl;have c3:=b1 2 _ rfl;have c4:=b1 3 _ rfl;have c5:=b2 0 _ rfl;have c6:=b2 1 _ rfl;have c7:=b2 2 _ rfl;have c8:=b2 3 _ rfl;have ca:=Z_ af;have ah:=Z_ (show Ext w w0.drew from bN.o.drew);have aC:=Z_ (λ(W:World) (h:Ext w0.drew W)=>zS (HB.o W ((uI (uP w0)).trans h)) (cb.o W ((uI (uP w0)).trans h)));rw[af]at c1 c2 c3 c4 c5 c6 c7 c8 ah aC;clear ba a6 aS bb hp hq af b1 b2
 go_enter Tryz.func33,Tryz.ntmps33
 go_wp2
 go_cut [] (λ wx=>Hd (Rg w w0 wx p q))
 case first=>
  go_region_with (first
    |(go_at_call 37;(with_reducible refine(CX.o _ ah.o).mono ?_);rintro e w1 ⟨v1,rfl,⟨bf,a5,rfl,D,I⟩,aj⟩;have K:=Z_ aj;obtain⟨⟨b1,b2,-,-⟩,-⟩:=aC.o _ aj;have d5:=b2 0 _ rfl;have d6:=b2 1 _ rfl;have d7:=b2 2 _ rfl;have d8:=b2 3 _ rfl;clear b1 b2;have Z:=Z_ D;have aa:=Z_ I;obtain⟨aF,aH,rfl⟩:=D.form;obtain⟨au,az,rfl⟩:=I.form;clear aj D I)
    |(go_at_call 37;(with_reducible refine(CY.o _ (ah.o.trans K.o)).mono ?_);rintro e w2 ⟨v2,rfl,⟨vn4,vd4,rfl,bm,ad⟩,ag⟩;have O:=Z_ ag;obtain⟨⟨b1,b2,b3,b4⟩,g1,g2⟩:=aC.o _ (K.o.trans ag);have ai:=Z_ (zS (b3 0 _ rfl) (zS (b3 1 _ rfl) (zS (b3 2 _ rfl) (zS (b3 3 _ rfl) b4))));have h1:=b1 0 _ rfl;have h2:=b1 1 _ rfl;have h3:=b1 2 _ rfl;have h4:=b1 3 _ rfl;have h5:=b2 0 _ rfl;have h6:=b2 1 _ rfl;have h7:=b2 2 _ rfl;have h8:=b2 3 _ rfl;have i1:=g1 0;have i2:=g1 1;have i3:=g1 2;have i4:=g1 3;have i5:=g2 0;have i6:=g2 1;have i7:=g2 2;have i8:=g2 3;clear b1 b2 b3 b4 g1 g2;have cq:=Z_ bm;have ci:=Z_ ad;obtain⟨av,aG,rfl⟩:=bm.form;obtain⟨ar,ax,rfl⟩:=ad.form;clear ag bm ad))
  all_goals
   go_wp2_with fail
   go_meet
   refine NK (o:=λ b i=>if b=0 then(#[.bool x1.neg,.slice aA x1.mag.length aB,.bool x2.neg,.slice ay x2.mag.length aP]:Array Value).getD i undef else(#[.bool y1.neg,.slice a0 y1.mag.length bn,.bool y2.neg,.slice a7 y2.mag.length a8]:Array Value).getD i undef) bl.o ah.o (by rw[ca.o];rfl) K.o O.o Z.o aa.o cq.o ci.o ?_ ai.o;intro b i hb hi
   rcases(show b=0∨b=1 by omega) with rfl|rfl
   ·rcases(show i=0∨i=1∨i=2∨i=3 by omega) with rfl|rfl|rfl|rfl
    ·exact h1
    ·exact h2
    ·exact h3
    ·exact h4
   ·rcases(show i=0∨i=1∨i=2∨i=3 by omega) with rfl|rfl|rfl|rfl
    ·exact h5
    ·exact h6
    ·exact h7
    ·exact h8
 case rest=>
  obtain⟨aF,au,av,ar,aH,az,aG,ax,⟨m1,m2,m3,m4⟩,⟨m5,m6,m7,m8⟩,hr,cd,bx,bu,bA,b7,co⟩:=hcut.out;have cl:=Z_ b7;have HR:=Z_ hr;clear c1 c2 c3 c4 c5 c6 c7 c8 CX CY HB cb aC ah ca bN HP;have L1:(Z8 p.num).mag.length<=1000000001:=ac.o.1;have L2:(Z8 (p.den:Int)).mag.length<=1000000001:=ac.o.2.1;have L3:(Z8 q.num).mag.length<=1000000001:=ac.o.2.2.1;have L4:(Z8 (q.den:Int)).mag.length<=1000000001:=ac.o.2.2.2;have C1:=Z_ (λ(W:World) (hW:Ext wc W)=>UP (S:=Z2 W) (.agg #[.bool (Z8 p.num).neg,.slice aF (Z8 p.num).mag.length aH]) (.agg #[.bool (Z8 q.num).neg,.slice av (Z8 q.num).mag.length aG]) (Z8 p.num) (Z8 q.num) W ⟨_,rfl,ZW (YQ cd) hW⟩ ⟨_,rfl,ZW (YQ bu) hW⟩ (λ _ h=>h) (by omega) (by omega));have C2:=Z_ (λ(W:World) (hW:Ext wc W)=>UP (S:=Z2 W) (.agg #[.bool (Z8 (p.den:Int)).neg,.slice au (Z8 (p.den:Int)).mag.length az]) (.agg #[.bool (Z8 (q.den:Int)).neg,.slice ar (Z8 (q.den:Int)).mag.length ax]) (Z8 (p.den:Int)) (Z8 (q.den:Int)) W ⟨_,rfl,ZW (YQ bx) hW⟩ ⟨_,rfl,ZW (YQ bA) hW⟩ (λ _ h=>h) (by omega) (by omega));simp only[z09]at C1 C2
  have C3:=Z_ (λ(W:World) (v1 v2:Value) (h1:IntV (Z2 W) W v1 (Z8 (p.num*q.num))) (h2:IntV (Z2 W) W v2 (Z8 ((p.den:Int)*(q.den:Int))))=>Sy v1 v2 _ _ W h1 h2 (λ _ h=>h)
   (by
    show(Z4 Z9 (Int.natAbs (p.num*q.num))).length<=_;rw[xS];have h1:=UK (a:=p.num.natAbs) (b:=q.num.natAbs) (k:=2000000002) (by have h1:=ac.o.1;have h2:=ac.o.2.2.1;unfold ZQ at h1 h2;unfold Zn;omega);unfold Zn at h1
    omega)
   (by
    show(Z4 Z9 (Int.natAbs ((p.den:Int)*(q.den:Int)))).length<=_;rw[xS];have h1:=UK (a:=(p.den:Int).natAbs) (b:=(q.den:Int).natAbs) (k:=2000000002) (by have h1:=ac.o.2.1;have h2:=ac.o.2.2.2;unfold ZQ at h1 h2;unfold Zn;omega);unfold Zn at h1
    omega)
   (by
    rw[z09]
    exact wB (x_.2 p.den_nz) (x_.2 q.den_nz)))
  simp only[z09,MR]at C3;have U:=Z_ (λ(W:World) (h:Ext wc W)=>(⟨h.cell m1,h.cell m2,h.cell m3,h.cell m4,h.cell m5,h.cell m6,h.cell m7,h.cell m8⟩:W.cell? ⟨w.heap.size,0,none⟩=some (.bool (Z8 p.num).neg)/\W.cell? ⟨w.heap.size,1,none⟩=some (.slice aF (Z8 p.num).mag.length aH)/\W.cell? ⟨w.heap.size,2,none⟩=some (.bool (Z8 (p.den:Int)).neg)/\W.cell? ⟨w.heap.size,3,none⟩=some (.slice au (Z8 (p.den:Int)).mag.length az)/\W.cell? ⟨w.heap.size+1,0,none⟩=some (.bool (Z8 q.num).neg)/\W.cell? ⟨w.heap.size+1,1,none⟩=some (.slice av (Z8 q.num).mag.length aG)/\W.cell? ⟨w.heap.size+1,2,none⟩=some (.bool (Z8 (q.den:Int)).neg)/\W.cell? ⟨w.heap.size+1,3,none⟩=some (.slice ar (Z8 (q.den:Int)).mag.length ax)));have ai:Hd (Box wc (w.heap.size+1+1)):=Z_ ⟨hr.1,hr.2.1,hr.2.2.1,hr.2.2.2.1,hr.2.2.2.2,by have h1:=bl.o;omega⟩;have a9:=Z_ (show w.heap.size+1+1<wc.heap.size by have h1:=bl.o;omega);have ap:=Z_ (show Ext wc wc.drew from uI (uP _));clear cd bx bu bA b7 co hr m1 m2 m3 m4 m5 m6 m7 m8 L1 L2 L3 L4;go_wp2_with fail
  go_cut [5] (λ u5 wx=>Hd (VO (w.heap.size+1+1) wc wx u5 (p*q)))
  case first=>
    go_region_held3 (λ W=>W.cell? ⟨w.heap.size,0,none⟩=some (.bool (Z8 p.num).neg)/\W.cell? ⟨w.heap.size,1,none⟩=some (.slice aF (Z8 p.num).mag.length aH)/\W.cell? ⟨w.heap.size,2,none⟩=some (.bool (Z8 (p.den:Int)).neg)/\W.cell? ⟨w.heap.size,3,none⟩=some (.slice au (Z8 (p.den:Int)).mag.length az)/\W.cell? ⟨w.heap.size+1,0,none⟩=some (.bool (Z8 q.num).neg)/\W.cell? ⟨w.heap.size+1,1,none⟩=some (.slice av (Z8 q.num).mag.length aG)/\W.cell? ⟨w.heap.size+1,2,none⟩=some (.bool (Z8 (q.den:Int)).neg)/\W.cell? ⟨w.heap.size+1,3,none⟩=some (.slice ar (Z8 (q.den:Int)).mag.length ax))
   (first
    |exact U.o _ ap.o|exact U.o _ (((uP wc).alloc _).drew)
    |exact U.o _ K.o|exact U.o _ (K.o.alloc _)
    |exact U.o _ O.o|exact U.o _ (O.o.alloc _)
    |exact U.o _ J.o|exact U.o _ (J.o.alloc _)
    |exact U.o _ (Ys J.o (zR _) _ _ _ _)|exact U.o _ (Ys J.o K.o.size _ _ _ _)|exact U.o _ (Ys J.o O.o.size _ _ _ _))
   (first
    |(go_at_call 59;(first|(with_reducible refine(C1.o _ ap.o).mono ?_)|(with_reducible refine(C1.o _ (((uP wc).alloc _).drew)).mono ?_)|fail);rintro e w1 ⟨v1,rfl,cg,aN⟩;(first|(have K:=Z_ (ap.o.trans aN))|(have K:=Z_ ((((uP wc).alloc _).drew).trans aN))|fail);(try (have BX:=Z_ (WV ((uI (uP _)).trans aN))));have cn:=Z_ cg;obtain⟨vm1,rfl,cc⟩:=cg;obtain⟨a1,k1,rfl⟩:=cc.form;clear aN cc)
    |(go_at_call 59;(first|(with_reducible refine(C2.o _ K.o).mono ?_)|(with_reducible refine(C2.o _ (K.o.alloc _)).mono ?_)|fail);rintro e w2 ⟨v2,rfl,ce,ae⟩;(first|(have O:=Z_ (K.o.trans ae))|(have O:=Z_ ((K.o.alloc _).trans ae))|fail);(first|(have bg:Hd (Ext w1 w2):=Z_ ae)|(have bg:Hd (Ext w1 w2):=Z_ ((uO (uP w1) _).trans ae))|fail);(first|(have BX:=Z_ (XU BX.o ae))|(have BX:=Z_ (WV ae))|skip);have bt:=Z_ (ce.to (S':=Z2 w2) (uN _ _) uK);have aq:=Z_ (cn.o.to (S':=Z2 w2) (uM bg.o uK) (λ k h=>zU h.2 bg.o.size));obtain⟨vm2,rfl,b6⟩:=ce;obtain⟨a2,k2,rfl⟩:=b6.form;clear ae b6)
    |(go_at_call 58;have BY:=BX;(with_reducible refine(C3.o w2 _ _ aq.o bt.o).mono ?_);rintro e w3 ⟨v3,rfl,⟨bf,a5,rfl,D,I⟩,X⟩;have J:=Z_ (O.o.trans X);have al:=Z_ (XU BY.o X);have bs:=Z_ (BY.o.2.2.2.2.2);obtain⟨g0,g1,g2,g3,yf,yl⟩:=al.o;have ch:=yf 0;have cm:=yf 1;have cj:=yf 2;have cp:=yf 3;have Z:=Z_ D;have aa:=Z_ I;obtain⟨a3,k3,rfl⟩:=D.form;obtain⟨a4,k4,rfl⟩:=I.form;clear X D I)
    |(go_at_call 58;(with_reducible refine(C3.o (w2.alloc _) _ _ (aq.o.to (uw (λ _ h=>h) _) (λ k h=>by show k<(World.heap _).size;rw[z00];exact xJ h)) (bt.o.to (uw (λ _ h=>h) _) (λ k h=>by show k<(World.heap _).size;rw[z00];exact xJ h))).mono ?_);rintro e w3 ⟨v3,rfl,⟨bf,a5,rfl,D,I⟩,X⟩;have J:=Z_ ((O.o.alloc _).trans X);have al:=Z_ (WV X);have bs:=Z_ (show w2.heap.size<(w2.alloc (.cells #[.bool false,.slice none 0 0,.bool false,.slice none 0 0] 30)).heap.size by rw[z00];exact zk _);obtain⟨g0,g1,g2,g3,yf,yl⟩:=al.o;have ch:=yf 0;have cm:=yf 1;have cj:=yf 2;have cp:=yf 3;have Z:=Z_ D;have aa:=Z_ I;obtain⟨a3,k3,rfl⟩:=D.form;obtain⟨a4,k4,rfl⟩:=I.form;clear X D I)
    |(go_at_call 58;(with_reducible refine(C3.o w2 _ _ aq.o bt.o).mono ?_);rintro e w3 ⟨v3,rfl,⟨bf,a5,rfl,D,I⟩,X⟩;have J:=Z_ (O.o.trans X);have Z:=Z_ D;have aa:=Z_ I;obtain⟨a3,k3,rfl⟩:=D.form;obtain⟨a4,k4,rfl⟩:=I.form;clear X D I)
    |fail)
    all_goals
   go_wp2_with fail
   go_meet
   first
    |(have q:=Sa J.o (O.o.size) Z.o aa.o al.o (by first|exact zR _|exact K.o.size|exact O.o.size) bs.o (XU ai.o (J.o)) a9.o;with_reducible exact Z_ q)
    |(have q:=Sa J.o ((O.o.alloc _).size) Z.o aa.o al.o (by first|exact zR _|exact K.o.size|exact O.o.size) bs.o (XU ai.o (J.o)) a9.o;with_reducible exact Z_ q)
    |(have q:=K1 (T:=30) J.o (O.o.size) Z.o aa.o (XU ai.o (J.o));with_reducible exact Z_ q)
    |fail
  case rest=>
   obtain⟨b,a3,a4,k3,k4,rfl,⟨m1,m2,m3,m4⟩,bB,D,I,bv⟩:=hcut.out;have J:=Z_ bv;have aR:=Z_ bB;obtain⟨e1,e2,e3,e4,ff,hl⟩:=bB;have f1:=ff 0;have f2:=ff 1;have f3:=ff 2;have f4:=ff 3;have Z:=Z_ D;have aa:=Z_ I;clear D I bv ff hl;go_wp2
   all_goals
    have ad:=λ x y z t=>X8 x y z t aR.o.1 aR.o.2.1 aR.o.2.2.1 aR.o.2.2.2.1;refine bodyPost_ret (by simp[results,Tryz.results33,go_sem,(ad _ _ _ _).1,(ad _ _ _ _).2.1,(ad _ _ _ _).2.2.1,(ad _ _ _ _).2.2.2];rfl) rfl ?_;have hg:=LL cl.o J.o (zT (zw _) (zw _)) a9.o Z.o aa.o (.bool (Z8 (p*q).num).neg) (.slice a3 (Z8 (p*q).num).mag.length k3) (.bool (Z8 ((p*q).den:Int)).neg) (.slice a4 (Z8 ((p*q).den:Int)).mag.length k4);exact⟨_,rfl,hg.1,hg.2⟩
end
section
def nrm:PZ->Nat
 | []=>0
 |t :: r=>t.1.natAbs+nrm r
theorem zbg(p q:PZ):nrm (p++q)=nrm p+nrm q:=by
 induction p with
 |nil=>simp[nrm]
 |cons t r ih=>rw[zc,nrm,nrm,ih];omega
theorem JO{p:PZ}{t:Int×Z7}(h:t∈p):t.1.natAbs<=nrm p:=by
 induction p with
 |nil=>simp at h
 |cons u r ih=>
  rw[nrm]
  rcases zJ.1 h with rfl|h
  ·omega
  ·have:=ih h;omega
theorem AX(p:PZ):nrm (ZP p)=nrm p:=by
 induction p with
 |nil=>rfl
 |cons t r ih=>
  show(-t.1).natAbs+nrm (ZP r)=_;rw[ih,nrm,xv]
theorem J0(p:PZ)(c:Int)(m:Z7):nrm (putP p c m)<=nrm p+c.natAbs:=by
 induction p with
 |nil=>
  simp only[putP]
  split
  ·simp[nrm]
  ·simp[nrm]
 |cons t r ih=>
  simp only[putP]
  split
  ·simp only[nrm];omega
  ·split
   ·split
    ·simp only[nrm];omega
    ·simp only[nrm];have:=Int.natAbs_add_le c t.1;omega
   ·split
    ·simp only[nrm];omega
    ·simp only[nrm];omega
theorem Ii(p l:PZ):nrm (addP p l)<=nrm p+nrm l:=by
 unfold addP
 induction l generalizing p with
 |nil=>simp[nrm]
 |cons t r ih=>
  rw[wJ];have h1:=ih (putP p t.1 t.2);have h2:=J0 p t.1 t.2;simp only[nrm];omega
theorem PB(l:PZ):nrm (Zr l)<=nrm l:=by
 have h:=Ii [] l;rw[show nrm []=0 from rfl,zr]at h;exact h
theorem zts(c:Int)(m:Z7)(q:PZ):nrm (q.map λ u=>(c*u.1,ZE m u.2))=c.natAbs*nrm q:=by
 induction q with
 |nil=>simp[nrm]
 |cons t r ih=>rw[ya,nrm,nrm,ih,xS,zy]
theorem DF(p q:PZ):nrm (mulL p q)=nrm p*nrm q:=by
 unfold mulL
 induction p with
 |nil=>simp[nrm]
 |cons t r ih=>rw[xT,zbg,ih,zts,nrm,y8]
theorem Ks{f:Int×Z7->Option (Int×Z7)}(hf:∀t u,f t=some u->u.1=t.1)(p:PZ):nrm (p.filterMap f)<=nrm p:=by
 induction p with
 |nil=>simp[nrm]
 |cons t r ih=>
  rw[yh]
  cases h:f t with
  |none=>simp only[nrm];omega
  |some u=>simp only[nrm];rw[hf t u h];omega
theorem QD(p:PZ)(v e:Int):nrm (YM p v e)<=nrm p:=Ks (λ t u h=>by
 unfold WB at h
 split at h
 ·cases h;rfl
 ·cases h) p
theorem GX(p:PZ):nrm (Y_ p)<=nrm p:=by
 unfold Y_
 split
 ·exact zR _
 ·exact QD _ _ _
theorem SX{p q c:PZ}(hp:ZD p)(hq:ZD q)(h:ZI p q=some c):nrm c<=nrm p*nrm q:=by
 obtain⟨-,rfl⟩:=Vb hp hq h;exact zT (PB _) (xC (DF p q))
theorem y23(v:Int)(i:Nat):nrm (Zl v i)=1:=by
 unfold Zl
 split<;>rfl
theorem Md{p:PZ}{k n:Nat}(hc:canP p)(h:nrm p<Z9^k)(hn:p.length<=n):Fit k n p:=⟨hc,λ _ ht=>zh (JO ht) h,hn⟩
theorem A4{p:PZ}{k n:Nat}(h:Fit k n p):nrm p<=n*Z9^k:=by
 obtain⟨-,hb,y⟩:=h;refine zT ?_ (zF _ y);clear y
 induction p with
 |nil=>simp[nrm]
 |cons t r ih=>
  have h1:=ih (λ u hu=>hb u (by simp[hu]));have h2:=hb t (by simp);rw[nrm,zM,uV];omega
theorem Jh{h:PZ}(ch:canP h):∀{n:Nat} {P:PZ},powN h n=some P->canP P:=by
 intro n
 induction n with
 |zero=>
  intro P y;rw[powN]at y;obtain rfl:=Option.some.inj y;exact z7k
 |succ n ih=>
  intro P y;rw[powN]at y
  cases hq:powN h n with
  |none=>rw[hq]at y;cases y
  |some Q=>
   rw[hq]at y;exact WP (ih hq) ch y
theorem Gv{h:PZ}{G:Nat}(ch:canP h)(hG:nrm h<=G):∀(n:Nat) (P:PZ),powN h n=some P->nrm P<=G^n:=by
 intro n
 induction n with
 |zero=>
  intro P y;rw[powN]at y;obtain rfl:=Option.some.inj y;exact zR _
 |succ n ih=>
  intro P y;rw[powN]at y
  cases hq:powN h n with
  |none=>rw[hq]at y;cases y
  |some Q=>
   rw[hq]at y;have I:=ih Q hq;have z:=Jh ch hq;have D:=SX z.may ch.may y;rw[yY];exact zT D (yR I hG)
section
variable {g h q r:PZ} {v d:Int} {x:PZ×PZ} {keep:Bool} {G Q R:Nat}
theorem zZ{t:PZ}(hr:canP r)(hv:1<=v/\v<=200)(hd:0<=d)(ht:Yb r v d=some t):nrm t<=nrm r:=by
 have hrg:=XW hr.may v;have h1:=SX (XA hr v _).may (Uf hv (i:=(degP r v-d).toNat) (by omega)).may ht;rw[y23,wO]at h1;exact zT h1 (QD _ _ _)
theorem Bl(hg:canP g)(hh:canP h)(hq:canP q)(hr:canP r)(hv:1<=v/\v<=200)(hd:0<=d)(hs:YA keep g h v d q r=some x)(ng:nrm g<=G)(nh:nrm h<=G)(nq:nrm q<=Q)(nr:nrm r<=R) :
  nrm x.1<=G*Q+R/\nrm x.2<=2*G*R:=by
 obtain⟨t,l,m,y,J,z,K,I,X⟩:=Uv hs;have Z:=RI hr hv hd y;have U:=zT (zZ hr hv hd y) nr;have D:nrm l<=R*G:=zT (SX Z.may hg.may J) (yR U ng);have n3:nrm m<=G*R:=zT (SX hh.may hr.may z) (yR nh nr)
 refine⟨?_,?_⟩
 ·cases keep with
  |false=>rw[I rfl];exact zL _
  |true=>
   obtain⟨u,O,e⟩:=X rfl;have n4:nrm u<=G*Q:=zT (SX hh.may hq.may O) (yR nh nq);rw[e];refine zT (PB _) ?_;rw[zbg];omega
 ·rw[K];refine zT (PB _) ?_;rw[zbg,AX,zu];rw[zq R G]at D;omega
end
end
section
open Go.RowKit
end
section
structure InR (g N E:Nat) (s:MSt) (r:PZ):Prop where
 ok:s.Ok
 fu:s.fu<=(N:Int)
 can:canP r
 nr:nrm r<=2^((g+1)*s.st.toNat+g)
 len:r.length<=100000
 ex:exB ((E:Int)*(s.st+1)) r
structure InQ (g E j:Nat) (s:MSt) (q:PZ):Prop where
 hj:(j:Int)<=s.st
 can:canP q
 nq:nrm q<=j*2^((g+1)*s.st.toNat)
 len:q.length<=100000
 ex:exB ((E:Int)*(s.st+1)) q
structure Lim (g N E e B:Nat):Prop where
 cut:(g+1)*N+e<1472
 steps:N<=2^e
 small:N<=100
 exps:E*(N+1)<=5000
 lim:(g+1)*N+g+e<32*B
 hB:B<=200
 he:e<=100
 hg:g<=640
theorem PL(k:Nat):Z9^k=2^(32*k):=by rw[Nat.pow_mul,show(2:Nat)^32=Z9 by decide]
theorem MA{a b:Nat}(h:a<b):2^a<2^b:=Nat.pow_lt_pow_right (by decide) h
theorem LW{a b:Nat}(h:a<=b):2^a<=2^b:=zA (by decide) h
section
variable {g N E e B j:Nat} {s s':MSt} {p q r:PZ}
theorem InR.st(h:InR g N E s r):0<=s.st/\s.st<=(N:Int):=⟨h.ok.s0,Int.le_trans h.ok.s1 h.fu⟩
theorem K7(_L:Lim g N E e B)(h:s.st.toNat<=N):(g+1)*s.st.toNat<=(g+1)*N:=yV _ h
theorem InR.fit(L:Lim g N E e B)(h:InR g N E s r):Fit B 100000 r:=Md h.can (by
 rw[PL];refine zh h.nr (MA ?_);have h1:=h.st;have h2:=K7 L (s:=s) (by omega);have h3:=L.lim
 omega) h.len
theorem InQ.two(L:Lim g N E e B)(h:InQ g E j s q)(hN:s.st<=(N:Int)):nrm q<=2^((g+1)*s.st.toNat+e):=by
 rw[xY ((g+1)*s.st.toNat) e,yH];refine zT h.nq (zF _ (zT ?_ L.steps));have:=h.hj;omega
theorem InQ.fit(L:Lim g N E e B)(h:InQ g E j s q)(h0:0<=s.st)(hN:s.st<=(N:Int)):Fit B 100000 q:=Md h.can (by
 rw[PL];refine zh (h.two L hN) (MA ?_);have h2:=K7 L (s:=s) (by omega);have h3:=L.lim
 omega) h.len
theorem Ny(_a:Nat)(st:Int)(h:0<=st):(g+1)*(st+1).toNat=(g+1)*st.toNat+(g+1):=by
 rw[show(st+1).toNat=st.toNat+1 by omega,Nat.mul_succ]
theorem Kd{keep:Bool}{G h:PZ}{v d:Int}{x:PZ×PZ}{b:Nat}(L:Lim g N E e B)(hr:InR g N E s r)(hq:InQ g E j s q)(cg:canP G)(ch:canP h)(ng:nrm G<=2^g)(nh:nrm h<=2^g)(eg:exB (E:Int) G)(eh:exB (E:Int) h)(hv:1<=v/\v<=200)(hd:0<=d)
  (h1:(z1o (some b) s).1=0) (hs:YA keep G h v d q r=some x) (h2:(z1b (some b) (z1o (some b) s).2 x.2).1=0) (h3:(z1b (some b) (z1o (some b) s).2 x.1).1=0) :
  InR g N E (z1o (some b) s).2 x.2/\InQ g E (j+1) (z1o (some b) s).2 x.1/\(z1o (some b) s).2.st=s.st+1/\(z1o (some b) s).2.fu=s.fu:=by
 have I:s.st<s.fu:=by
  rcases wX s.st s.fu with h|h
  ·exact h
  ·exfalso
   simp only[z1o,MSt.step]at h1;rw[if_neg (by omega)]at h1;simp at h1
 have e1:z1o (some b) s=(0,{ s with st:=s.st+1 }):=by simp only[z1o,MSt.step];rw[if_pos I]
 rw[e1]at h2 h3⊢;have z:=hr.st;have Z:=hr.fu;have J:MSt.Ok { s with st:=s.st+1 }:=⟨hr.ok.f0,hr.ok.f1,hr.ok.l0,hr.ok.l1,hr.ok.t0,hr.ok.t1,hr.ok.p0,hr.ok.p1,by show 0<=s.st+1;omega,by show s.st+1<=s.fu;omega,hr.ok.c0,hr.ok.c1⟩
 have O:(E:Int)*(s.st+1)+E<=10000:=by
  have h4:(E:Int)*(s.st+1)<=E*((N:Int)+1):=Int.mul_le_mul_of_nonneg_left (by omega) (by omega);have h5:=L.exps;have h6:((E*(N+1):Nat):Int)=E*((N:Int)+1):=by rw[yz,wG];rfl
  have h7:E<=E*(N+1):=y9 E (by omega);omega
 have U:0<=(E:Int)*(s.st+1):=Int.mul_nonneg (by omega) (by omega);obtain⟨x',K,y,D⟩:=Ft keep cg ch hq.can hr.can eg eh hq.ex hr.ex (by omega) U O hv hd;obtain rfl:x=x':=Option.some.inj (hs.symm.trans K);have X:(E:Int)*(s.st+1)+E=E*((s.st+1)+1):=by rw[Int.mul_add E (s.st+1) 1,Int.mul_one]
 rw[X]at y D;obtain⟨c1,c2⟩:=N5 cg ch hq.can hr.can hv hd hs;obtain⟨n1,n2⟩:=Bl cg ch hq.can hr.can hv hd hs ng nh hq.nq hr.nr;have l1:=(N2 h3).2;have l2:=(N2 h2).2;have t1:=hr.ok.t1;have t2:({ s with st:=s.st+1 }:MSt).te=s.te:=rfl;rw[t2]at l1 l2
 refine⟨⟨J,Z,c2,?_,by omega,D⟩,⟨by show((j+1:Nat):Int)<=s.st+1;have:=hq.hj;omega,c1,?_,by omega,y⟩,rfl,rfl⟩
 ·show nrm x.2<=2^((g+1)*(s.st+1).toNat+g);rw[Ny 0 s.st z.1];refine zT n2 (xC ?_);rw[zu,<-yH,zq 2,<-yY]
  congr 1
  omega
 ·show nrm x.1<=(j+1)*2^((g+1)*(s.st+1).toNat);rw[Ny 0 s.st z.1];refine zT n1 ?_
  have k1:2^g*(j*2^((g+1)*s.st.toNat))+2^((g+1)*s.st.toNat+g)=(j+1)*2^((g+1)*s.st.toNat+g):=by
   rw[y8 j 1,yM,yH 2 ((g+1)*s.st.toNat) g,xK,zq (2^g)]
  rw[k1];exact yV _ (LW (by omega))
theorem Eg{keep:Bool}{G:PZ}{v:Int}{b:Nat}(L:Lim g N E e B)(cg:canP G)(ng:nrm G<=2^g)(eg:exB (E:Int) G)(hv:1<=v/\v<=200)(hd:0<=degP G v) :
  ∀(k:Nat) (s:MSt) (q r:PZ) (n:Nat),InR g N E s r->InQ g E n s q ->
   z7q (some b) keep G (Zz G v) v (degP G v) B 100000 k s q r/\((runD (some b) keep G (Zz G v) v (degP G v) k s q r n).e=0 ->
    InR g N E (runD (some b) keep G (Zz G v) v (degP G v) k s q r n).s (runD (some b) keep G (Zz G v) v (degP G v) k s q r n).r /\
    InQ g E (runD (some b) keep G (Zz G v) v (degP G v) k s q r n).n (runD (some b) keep G (Zz G v) v (degP G v) k s q r n).s (runD (some b) keep G (Zz G v) v (degP G v) k s q r n).q /\
    (runD (some b) keep G (Zz G v) v (degP G v) k s q r n).s.st+n=s.st+(runD (some b) keep G (Zz G v) v (degP G v) k s q r n).n /\
    (runD (some b) keep G (Zz G v) v (degP G v) k s q r n).s.fu=s.fu):=by
 have J:canP (Zz G v):=XA cg v _;have Z:nrm (Zz G v)<=2^g:=zT (QD _ _ _) ng;have K:exB (E:Int) (Zz G v):=eg.coef (by omega) v _;intro k
 induction k with
 |zero=>intro s q r n y z;exact⟨⟨z.fit L y.st.1 y.st.2,y.fit L⟩,λ _=>⟨y,z,rfl,rfl⟩⟩
 |succ k ih=>
  intro s q r n y z;have step:∀x,(z1o (some b) s).1=0->YA keep G (Zz G v) v (degP G v) q r=some x->(z1b (some b) (z1o (some b) s).2 x.2).1=0->(z1b (some b) (z1o (some b) s).2 x.1).1=0->_:=λ x h1 h2 h3 h4=>Kd (e:=e) (B:=B) L y z cg J ng Z eg K hv hd h1 h2 h3 h4
  refine⟨⟨z.fit L y.st.1 y.st.2,y.fit L,λ _ _ h1 x h2 h3 h4=>?_⟩,?_⟩
  ·obtain⟨I,D,-,-⟩:=step x h1 h2 h3 h4;exact(ih _ _ _ (n+1) I D).1
  ·rw[runD]
   split
   ·intro _;exact⟨y,z,rfl,rfl⟩
   split
   ·intro h;rename_i h1;exact absurd h h1
   rename_i h1
   split
   ·intro h;exact absurd h (by show ¬ (8:Int)=0;decide)
   rename_i x hx
   split
   ·intro h;rename_i h2;exact absurd h h2
   rename_i h2
   split
   ·intro h;rename_i h3;exact absurd h h3
   rename_i h3
   intro h;obtain⟨I,D,i3,O⟩:=step x (zx.1 h1) hx (zx.1 h2) (zx.1 h3);obtain⟨a1,X,a3,U⟩:=(ih _ _ _ (n+1) I D).2 h;exact⟨a1,X,by omega,U.trans O⟩
theorem Cv{w:Bool}{G:PZ}{v:Int}{b:Nat}(L:Lim g N E e B)(cg:canP G)(ng:nrm G<=2^g)(eg:exB (E:Int) G)(hv:1<=v/\v<=200)(hd:0<=degP G v)(hr:InR g N E s r) :
  z7q (some b) w G (Zz G v) v (degP G v) B 100000 ((degP r v).toNat+1) s [] r/\((ZA (some b) w s r G v).e=0->InR g N E (ZA (some b) w s r G v).s (ZA (some b) w s r G v).r/\InQ g E (ZA (some b) w s r G v).n (ZA (some b) w s r G v).s (ZA (some b) w s r G v).q/\(ZA (some b) w s r G v).s.st=s.st+(ZA (some b) w s r G v).n/\(ZA (some b) w s r G v).s.fu=s.fu):=by
 have K:InQ g E 0 s []:=⟨hr.ok.s0,z3a,zL _,by simp,Pt _⟩
 obtain⟨D,z⟩:=Eg (keep:=w) (b:=b) L cg ng eg hv hd ((degP r v).toNat+1) s [] r 0 hr K;refine⟨D,λ he=>?_⟩;obtain⟨a1,y,J,I⟩:=z he;refine⟨a1,y,?_,I⟩;have a5:(ZA (some b) w s r G v).s.st+((0:Nat):Int)=s.st+(ZA (some b) w s r G v).n:=J;omega
structure ChP (g E A T:Nat) (p:PZ):Prop where
 fit:Fit A T p
 np:nrm p<=2^g
 ex:exB (E:Int) p
 lead:0<ZL p
theorem ChP.range{A T:Nat}(h:ChP g E A T p):1<=ZL p/\ZL p<=200:=⟨h.lead,(VK h.fit.can).2⟩
theorem DY{cs:List PZ}{i:Nat}{c:PZ}(hi:i<cs.length)(k:Nat):(cs.set i c).getD k []=if k=i then c else cs.getD k []:=by
 simp only[zH,xV]
 by_cases e:i=k
 ·subst e;rw[if_pos rfl,if_pos rfl,if_pos hi];rfl
 ·rw[if_neg e,if_neg (λ h=>e h.symm)]
theorem Ay{A T n:Nat}(L:Lim g N E e B)(h:ChP g E A T p)(hn:n<=N):∃P,powN (Y_ p) n=some P/\canP P/\nrm P<=2^(g*n)/\exB ((E:Int)*n) P:=by
 have I:exB (E:Int) (Y_ p):=by
  unfold Y_
  split
  ·exact h.ex
  ·exact h.ex.coef (by omega) _ _
 have y:(n:Int)*E<=10000:=by
  have h1:E*n<=E*(N+1):=yV _ (by omega);have h2:=L.exps;have h3:((E*n:Nat):Int)=(n:Int)*E:=by rw[yz,Int.mul_comm]
  omega
 obtain⟨P,z,J,-,D⟩:=L8 h.fit.init.can I (by omega) n y;rw[Int.mul_comm]at D;refine⟨P,z,J,?_,D⟩;rw[Nat.pow_mul];exact Gv h.fit.init.can (zT (GX p) h.np) n P z
end
end
end Go.Proofs.YtlbohjnfkhemlaaGreat
