/- A polynomial over a whole number that divides it. -/
import Derived.Deep.RegionWith
import Derived.Deep.DeepCutAuto
import Derived.Shelf.Abstract
import Derived.Deep.RegionHeld3
import Derived.Test.YtlbohjnfkhemlaaGreatTp9
set_option maxRecDepth 100000
set_option maxHeartbeats 16000000
namespace Go.Proofs.YtlbohjnfkhemlaaGreat
section
open Go.RowKit
theorem FL{W:World}(vam vao vbm vbo:Value)(A N q:Int)(m:Z7)(hA:U32s (Z2 W) W vam (Z8 A).mag)(hm:Pows (Z2 W) W vao m)(hN:U32s (Z2 W) W vbm (Z8 N).mag)(hb:Pows (Z2 W) W vbo [])(hmm:Z3 m=true)(h0:N≠0)(hq:A=q*N)(l1:(Z8 A).mag.length<=10000000000)(l2:(Z8 N).mag.length<=10000000000) :
  Calls Tryz.prog 140 #[.agg #[.bool (Z8 A).neg,vam,vao],.agg #[.bool (Z8 N).neg,vbm,vbo]] W λ e w'=>∃vm vo,e=.returned (.tuple #[.agg #[.bool (Z8 q).neg,vm,vo],.bool true])/\U32s (New W w') w' vm (Z8 q).mag/\Pows (New W w') w' vo m/\Ext W w':=by
 obtain⟨w0,D⟩:∃Y,Y=(((W.alloc (.cells #[.bool (Z8 A).neg,vam,vao] 54)).alloc (.cells #[.bool (Z8 N).neg,vbm,vbo] 54)).alloc (.cells #[.bool false,.slice none 0 0,.slice none 0 0] 54)):=⟨_,rfl⟩
 have U:Hd (Ext W w0):=Z_ (by rw[D];exact uO (uO (uO (uP W) _) _) _);have aj:Hd (W.heap.size+1+1<w0.heap.size):=Z_ (by rw[D];simp)
 have HB:=Z_ (λ(Y:World) (h:Ext w0 Y)=>by
  rw[D]at h
  exact Zf h)
 have C1:=Z_ (Bw vao vbo m [] w0 (hm.on U.o) (hb.on U.o) (λ _ h=>h) hmm rfl (λ u=>by have:=X6 hmm u;simp[ex];omega));rw[CZ hmm]at C1;have C2:=Z_ (λ(Y:World) (hY:Ext W Y)=>UQ (S:=Z2 Y) (.agg #[.bool (Z8 A).neg,vam]) (.agg #[.bool (Z8 N).neg,vbm]) (Z8 A) (Z8 N) Y ⟨_,rfl,ZW hA hY⟩ ⟨_,rfl,ZW hN hY⟩ (λ _ h=>h) l1 l2 q (by rw[z09];exact h0) (by rw[z09,z09];exact hq));obtain⟨a1,c1,rfl⟩:=hA.form;obtain⟨a2,c2,rfl⟩:=hm.form;obtain⟨a3,c3,rfl⟩:=hN.form;obtain⟨a4,c4,rfl⟩:=hb.form;obtain⟨nA,Z⟩:∃n,n=(Z8 A).mag.length:=⟨_,rfl⟩
 obtain⟨bA,ad⟩:∃n,n=(Z8 A).neg:=⟨_,rfl⟩
 obtain⟨nN,ac⟩:∃n,n=(Z8 N).mag.length:=⟨_,rfl⟩
 obtain⟨bN,O⟩:∃n,n=(Z8 N).neg:=⟨_,rfl⟩
 obtain⟨nm,aa⟩:∃n,n=m.length:=⟨_,rfl⟩
 rw[<-Z,<-ad,<-ac,<-O]at C2;rw[<-aa]at C1;rw[<-Z,<-ad,<-ac,<-O,<-aa];rw[<-Z,<-ad,<-ac,<-O,<-aa]at D;rw[zo]at C1 D;rw[zo]
 have ah:=Z_ (λ(Y:World) (h:Ext w0 Y)=>by
  rw[D]at h
  exact Zf h)
 have az:=Z_ D;obtain⟨b1,b2,-,-⟩:=ah.o w0 (uP _);have c5:=b1 2 _ rfl;have c6:=b2 2 _ rfl;rw[D]at c5 c6 C1;clear hA hm hN hb Z ad ac O aa D b1 b2 hmm h0 hq l1 l2 HB
 go_enter Tryz.func140,Tryz.ntmps140
 go_wp2_with fail;(with_reducible refine C1.o.mono ?_);rintro e w1 ⟨v1,rfl,X,I⟩;rw[<-az.o]at X I;have ag:=Z_ (U.o.trans I);have ae:=Z_ I;have au:=Z_ X;obtain⟨b1,b2,-,-⟩:=ah.o w1 I;have d1:=b1 0 _ rfl;have d2:=b1 1 _ rfl;have d3:=b2 0 _ rfl;have d4:=b2 1 _ rfl;obtain⟨ao,co,rfl⟩:=X.form;obtain⟨no,aq⟩:∃n,n=m.length:=⟨_,rfl⟩
 rw[<-aq]at au⊢;clear X I b1 b2 aq c5 c6;go_wp2_with fail;(with_reducible refine(C2.o _ ag.o).mono ?_);rintro e w2 ⟨v2,rfl,⟨vm2,rfl,ai⟩,K⟩;have ax:=Z_ (ag.o.trans K);have af:=Z_ (ae.o.trans K);have J:=Z_ K;have ar:=Z_ ai;obtain⟨-,-,b3,b4⟩:=ah.o w2 af.o;have e1:=b3 0 _ rfl;have e2:=b3 1 _ rfl;have e3:=b3 2 _ rfl;have f1:=b4 0;have f2:=b4 1;have f3:=b4 2;have hz2:W.heap.size+1+1<w2.heap.size:=by have h1:=aj.o;have h2:=af.o.size;omega
 obtain⟨am,cm,rfl⟩:=ai.form;obtain⟨nq,ap⟩:∃n,n=(Z8 q).mag.length:=⟨_,rfl⟩
 obtain⟨bq,al⟩:∃n,n=(Z8 q).neg:=⟨_,rfl⟩
 rw[<-ap]at ar⊢;rw[<-al];have HE:=Z_ (zS e1 (zS e2 e3));have av:=Z_ al;clear ai K b3 b4 ap al d1 d2 d3 d4;go_wp2
 all_goals
  have hd:=λ x y z=>TV x y z HE.o.1 HE.o.2.1 HE.o.2.2;have ha:=λ(E:World) (C:Obj) (b i:Nat) (v:Value) (h:E.cell? ⟨b,i,none⟩=some v)=>(uO (uP E) C).cell h;have r1:=λ C x y z=>ha _ C _ _ _ (hd x y z).1;have r2:=λ C x y z=>ha _ C _ _ _ (hd x y z).2.1;have r3:=λ C x y z=>ha _ C _ _ _ (hd x y z).2.2;refine bodyPost_ret (by simp[results,Tryz.results140,go_sem,r1,r2,r3];rfl) rfl ?_;have ay:¬ New w1 w2 (W.heap.size+1+1):=λ h=>by have h1:=h.1;have h2:=aj.o;have h3:=ae.o.size;omega
  have aA:¬ New w0 w1 (W.heap.size+1+1):=λ h=>by have h1:=h.1;have h2:=aj.o;omega
  have aB:=λ x y z C=>(ax.o.set3 (b:=W.heap.size+1+1) (zT (zw _) (zw _)) x y z).alloc C
  refine⟨_,_,by rw[av.o],?_,?_,aB _ _ _ _⟩
  ·exact(ar.o.to (ux ay _ _ _) (λ _ h=>h)).to (uw (λ k h=>by simp only[z03];exact h.2) _) (λ k h=>⟨zT ag.o.size h.1,by rw[z00];simp only[z03];have:=h.2;omega⟩)
  ·exact((au.o.to (uM J.o uK) (λ _ h=>h)).to (ux aA _ _ _) (λ _ h=>h)).to (uw (λ k h=>by simp only[z03];exact zU h.2 J.o.size) _) (λ k h=>⟨zT U.o.size h.1,by rw[z00];simp only[z03];have:=h.2;have:=J.o.size;omega⟩)
theorem DM{w W:World}{v:Value}{r:RInt}(h:IntV (New w W) W v r):IntV (Z2 W) W v r:=by
 obtain⟨vm,h1,h2⟩:=h;exact⟨vm,h1,YQ h2⟩
def Yn(p:PZ)(N:Int):PZ:=p.map λ t=>(t.1 / N,t.2)
theorem G6{p:PZ}{N:Int}(h:canP p)(hd:∀t∈p,N∣t.1):canP (Yn p N):=by
 refine⟨λ t ht=>?_,?_⟩
 ·obtain⟨u,y,rfl⟩:=zG.1 ht;refine⟨λ e=>(h.1 u y).1 ?_,(h.1 u y).2⟩;have z:u.1 / N=0:=e;rw[<-xH (hd u y),z,Int.zero_mul]
 ·unfold Yn;rw[xL];exact h.2
theorem zdl(p:PZ)(N:Int):(Yn p N).length=p.length:=zE ..
theorem Fit.over{k n:Nat}{p:PZ}{N:Int}(h:Fit k n p)(hd:∀t∈p,N∣t.1):Fit k n (Yn p N):=by
 refine⟨G6 h.can hd,λ t ht=>?_,by rw[zdl];exact h.2.2⟩;obtain⟨u,y,rfl⟩:=zG.1 ht;refine zh ?_ (h.2.1 u y);rw[Int.natAbs_ediv_of_dvd (hd u y)];exact yt _ _
theorem J4{p:PZ}{N:Int}{k:Nat}{t:Int×Z7}(h:p[k]? = some t):Z5 ((Yn p N).take (k+1))=Z5 ((Yn p N).take k) ++ [⟨Z8 (t.1 / N),t.2⟩]:=by
 have h1:(Yn p N)[k]? = some (t.1 / N,t.2):=by
  unfold Yn;rw[yZ,h];rfl
 exact QI h1
theorem Qn{p:PZ}(h:canP p)(k:Nat):canP (p.drop k):=H9 h (List.drop_sublist _ _)
theorem FN{p:PZ}{k:Nat}{t:Int×Z7}(h:canP p)(ht:p[k]? = some t):Zr (p.drop k ++ [(-t.1,t.2)])=p.drop (k+1):=by
 have z:=(h.1 t (zP ht)).2;refine JE (VS (Qn h k).may (λ u hu=>by rw[zQ.1 hu];exact z)) (Qn h _) (λ f=>?_);obtain⟨y,e⟩:=yd.1 ht;rw[z8d,yr y,e];simp only[ev,vT];omega
theorem KY{N c:Int}{m:Z7}(hN:N≠0)(hc:c≠0)(hm:Z3 m=true):ZI [(N,[])] (ZO c m)=some [(N*c,m)]:=by
 have e:ZO c m=[(c,m)]:=if_neg hc;have I:ZD [(N,([]:Z7))]:=λ u hu=>by rw[zQ.1 hu];rfl
 have D:ZD [(c,m)]:=λ u hu=>by rw[zQ.1 hu];exact hm
 have y:mulL [(N,[])] [(c,m)]=[(N*c,m)]:=by
  show [(N*c,ZE [] m)]=_;rw[BU (TK hm)]
 have z:ZD [(N*c,m)]:=λ u hu=>by rw[zQ.1 hu];exact hm
 have J:canP [(N*c,m)]:=⟨λ u hu=>by rw[zQ.1 hu];exact⟨wB hN hc,hm⟩,yP _ _⟩
 rw[e,Tj I D (by rw[y];exact z),y,Sk J]
def PO(W:World)(o:Value)(k:Nat):Prop:=k<W.heap.size/\some k≠o.ownBlock
def Va(wr wx:World)(u:Value)(q:Int)(m:Z7):Prop:=∃(b:Nat) (a1 a2:Option Addr) (c1 c2:Nat),u=.pointer (some ⟨b,0,none⟩)/\wr.heap.size<=b/\b<wx.heap.size /\
 (wx.cell? ⟨b,0,none⟩=some (.bool (Z8 q).neg)/\wx.cell? ⟨b,1,none⟩=some (.slice a1 (Z8 q).mag.length c1)/\wx.cell? ⟨b,2,none⟩=some (.slice a2 m.length c2)) /\
 U32s (New wr wx) wx (.slice a1 (Z8 q).mag.length c1) (Z8 q).mag/\Pows (New wr wx) wx (.slice a2 m.length c2) m/\Ext wr wx
theorem F4{wr w7:World}{q:Int}{m:Z7}{a1 a2:Option Addr}{c1 c2:Nat}{T:TypeId}(hx:Ext wr w7)(hu:U32s (New wr w7) w7 (.slice a1 (Z8 q).mag.length c1) (Z8 q).mag)(hp:Pows (New wr w7) w7 (.slice a2 m.length c2) m) :
  Va wr (w7.alloc (.cells #[.bool (Z8 q).neg,.slice a1 (Z8 q).mag.length c1,.slice a2 m.length c2] T)) (.pointer (some ⟨w7.heap.size,0,none⟩)) q m:=by
 have y:Ext w7 (w7.alloc (.cells #[.bool (Z8 q).neg,.slice a1 (Z8 q).mag.length c1,.slice a2 m.length c2] T)):=uO (uP _) _;exact⟨w7.heap.size,a1,a2,c1,c2,rfl,hx.size,by rw[z00];omega,⟨ZJ _ _ _ rfl rfl,ZJ _ _ _ rfl rfl,ZJ _ _ _ rfl rfl⟩,hu.to (uM y uK) (New.grow y),hp.to (uM y uK) (New.grow y),hx.trans y⟩
theorem Cm{wr wy w7:World}{q:Int}{m:Z7}{a1 a2:Option Addr}{c1 c2:Nat}{v0 v1 v2:Value}{T:TypeId}(hx:Ext wr w7)(hz:wr.heap.size<wy.heap.size)(hb:Ext (wr.alloc (.cells #[v0,v1,v2] T)) w7)(hu:U32s (New wy w7) w7 (.slice a1 (Z8 q).mag.length c1) (Z8 q).mag)(hp:Pows (New wy w7) w7 (.slice a2 m.length c2) m) :
  Va wr (((w7.setCell ⟨wr.heap.size,0,none⟩ (.bool (Z8 q).neg)).setCell ⟨wr.heap.size,1,none⟩ (.slice a1 (Z8 q).mag.length c1)).setCell ⟨wr.heap.size,2,none⟩ (.slice a2 m.length c2)) (.pointer (some ⟨wr.heap.size,0,none⟩)) q m:=by
 have y:¬ New wy w7 wr.heap.size:=λ h=>by have:=h.1;omega
 have z:=TV (.bool (Z8 q).neg) (.slice a1 (Z8 q).mag.length c1) (.slice a2 m.length c2) (hb.new_cell (i:=0) rfl) (hb.new_cell (i:=1) rfl) (hb.new_cell (i:=2) rfl)
 exact⟨wr.heap.size,a1,a2,c1,c2,rfl,zR _,by simp only[z03];exact Zj (hb.new_cell (i:=0) rfl),z,(hu.to (ux y _ _ _) (λ _ h=>h)).to (uN _ _) (λ k h=>⟨by have:=h.1;omega,by simp only[z03];exact h.2⟩),
  (hp.to (ux y _ _ _) (λ _ h=>h)).to (uN _ _) (λ k h=>⟨by have:=h.1;omega,by simp only[z03];exact h.2⟩),hx.set3 (zR _) _ _ _⟩
theorem Gi{W:World}{vp vq:Value}{p:PZ}{N:Int}{k n:Nat}(hp:z06 (Z2 W) W vp (Z5 p))(hq:z06 (Z2 W) W vq (Z5 [(N,[])]))(fp:Fit k n p)(h0:N≠0)(hd:∀t∈p,N∣t.1)(hln:p≠[]->ZX N<=k)(hNl:ZX N<=1000000)(hk:k<=1000000)(hn:n<=100000000000) :
  Calls Tryz.prog 112 #[vp,vq] W (Wg W (Yn p N)):=by
 have hnot:∀(x:Bool) (w:World),(Op.unary .not (.bool x)).run Tryz.prog w=.ok (.bool (!x)) w:=λ _ _=>rfl;obtain⟨j0,hj,jz0,jz1,jz2⟩:=info_parts uE;have HP:=Z_ hp;have HQ:=Z_ hq;have HF:=Z_ fp;have HD:=Z_ hd;have H0:=Z_ h0;have b7:canP [(N,([]:Z7))]:=⟨λ u hu=>by rw[zQ.1 hu];exact⟨h0,rfl⟩,yP _ _⟩
 have cj:Hd (Fit (ZX N) 1 [(N,([]:Z7))]):=Z_ ⟨b7,λ t ht=>by rw[zQ.1 ht];exact Vv N,zR _⟩;have bb:=Z_ (zS hln (zS hk hn));have a0:=hNl
 have CA:=R7 _ [Z5 p,Z5 [(N,[])]] (W.alloc (.cells #[vp,vq] 35)) (SY hp hq (λ _ h=>h) _) (UD (λ _ h=>h) _) (λ q hq=>by
  simp only[zJ,List.not_mem_nil,or_false]at hq
  rcases hq with rfl|rfl
  ·exact fp.small hk
  ·exact cj.o.small a0)
 rw[show [Z5 p,Z5 [(N,[])]].all ZR=true by simp[Xc fp.can,Xc b7]]at CA;have ay:=Z_ (uO (uP W) (.cells #[vp,vq] 35));have aF:=Z_ CA;obtain⟨ap,cp,rfl⟩:=hp.form;obtain⟨aq,cq,rfl⟩:=hq.form;rw[z5w]at HP aF ay⊢;obtain⟨np,aH⟩:∃m,m=p.length:=⟨_,rfl⟩
 rw[<-aH]at HP aF ay⊢;have HN:=Z_ aH;have c5:Hd (np<=100000000000):=Z_ (by rw[aH];exact zT fp.2.2 hn);have e1:(Z5 [(N,([]:Z7))]).length=1:=rfl;rw[e1]at HQ aF ay⊢;clear hp hq fp hd h0 b7 hln hNl a0 hk hn CA aH e1
 go_enter Tryz.func112,Tryz.ntmps112
 go_wp2_with fail;(with_reducible refine aF.o.mono ?_);rintro e w1 ⟨rfl,b3⟩;have ac:=Z_ (ay.o.trans b3);clear b3 aF ay;obtain⟨w6,cC⟩:∃Y,Y=w1:=⟨_,rfl⟩
 rw[<-cC]at ac⊢;have dm:=Z_ (HP.o.on ac.o);clear cC;go_wp2
 go_loopw [0,6] (λ x o wr=>∃(j:Nat) (xs:List Value),j<=np/\Ext w6 wr/\Hd (z06 (PO wr o) wr x (Z5 (p.drop j)))/\Hd (wr.ownsRow w6.heap.size 54 3 o j xs)/\Hd (z0v (Yy w6 wr o) wr xs (Z5 ((Yn p N).take j)))) (λ x _ _=>Yr x)
 case atStart=>exact⟨0,[],zL _,uP _,dm.o.to (uN _ _) (λ _ h=>⟨h,λ e=>by cases e⟩),World.ownsRow_nil _ _ _ _,rfl⟩
 case round=>
  obtain⟨j,xs,hjn,hx,HT,HW,HY⟩:=hrel;have HX:=Z_ hx;have cy:=Z_ (ac.o.trans hx);obtain⟨ax,cx,cQ⟩:=HT.o.form;obtain⟨nx,aN⟩:∃m,m=(Z5 (p.drop j)).length:=⟨_,rfl⟩
  rw[<-aN]at cQ;subst cQ;have cd:nx+j=np:=by rw[aN,z5w,yG,<-HN.o];omega
  have d6:=Z_ cd
  by_cases hlt:0<nx
  ·obtain⟨t,ht⟩:=ZN (l:=p) (j:=j) (by rw[<-HN.o];omega)
   have c6:(Z5 (p.drop j))[0]? = some ⟨Z8 t.1,t.2⟩:=by
    unfold Z5;rw[yZ,yx,zp,ht];rfl
   obtain⟨bx,ox,dp,ed,rfl,-,b3,hx2,-,c0,c1,c2,hu,ho⟩:=HT.o.cellAt c6;have ci:(Z5 [(N,([]:Z7))])[0]? = some ⟨Z8 N,[]⟩:=rfl;obtain⟨bq,oq,d7,ds,rfl,-,hq1,hq2,-,d0,d1,d2,hv,hw⟩:=(HQ.o.on cy.o).cellAt ci;have ae:=zP ht;have D:Hd (ZX N<=k/\True/\k<=1000000/\n<=100000000000):=Z_ ⟨bb.o.1 (λ e=>by rw[e]at ae;cases ae),trivial,bb.o.2⟩;have bv:=Z_ (J4 (N:=N) ht);have ca:=Z_ (FN HF.o.can ht);have K:=Z_ (HF.o.can.1 t ae);have aP:=Z_ (Xm (HF.o.2.1 t ae));have af:=Z_ (xH (HD.o t ae));obtain⟨z,m⟩:=t;simp only at c0 c1 c2 hu ho d0 d1 d2 hv hw bv ca K aP af;simp only[yE,zp]at c0 c1 c2 d0 d1 d2;obtain⟨q,hq⟩:∃q,q=z / N:=⟨_,rfl⟩
   rw[<-hq]at af bv;have eg:=Z_ (zT D.o.1 D.o.2.2.1);have CQ:=Z_ (λ(Y:World) (hY:Ext wr Y)=>FL (W:=Y) dp ed d7 ds z N q m (hu.to (uM hY (λ _ h=>h.1)) (λ i hi=>zU hi.1 hY.size)) (ho.to (uM hY (λ _ h=>h.1)) (λ i hi=>zU hi.1 hY.size)) (ZW hv hY) (hw.on hY) K.o.2 H0.o af.o.symm (zT aP.o (by have:=D.o.2.2.1;omega)) (zT eg.o (by omega)));obtain⟨am,cm,rfl⟩:=hu.form;obtain⟨ao,co,rfl⟩:=ho.form;obtain⟨cl,cu,rfl⟩:=hv.form;obtain⟨cb,df,rfl⟩:=hw.form;obtain⟨nz,bs⟩:∃n,n=(Z8 z).mag.length:=⟨_,rfl⟩
   obtain⟨bz,b6⟩:∃n,n=(Z8 z).neg:=⟨_,rfl⟩
   obtain⟨nm,b1⟩:∃n,n=m.length:=⟨_,rfl⟩
   obtain⟨nN,b2⟩:∃n,n=(Z8 N).mag.length:=⟨_,rfl⟩
   obtain⟨bN,bl⟩:∃n,n=(Z8 N).neg:=⟨_,rfl⟩
   rw[<-bs,<-b6,<-b1,<-b2,<-bl,zo]at CQ;rw[<-b6]at c0;rw[<-bs]at c1;rw[<-b1]at c2;rw[<-bl]at d0;rw[<-b2]at d1;rw[zo]at d2;have ai:=Z_ (λ(Y:World) (h:Ext wr Y)=>(⟨h.cell c0,h.cell c1,h.cell c2,h.cell d0,h.cell d1,h.cell d2⟩:Y.cell? ⟨bx,ox,none⟩=some (.bool bz)/\Y.cell? ⟨bx,ox+1,none⟩=some (.slice am nz cm)/\Y.cell? ⟨bx,ox+2,none⟩=some (.slice ao nm co)/\Y.cell? ⟨bq,oq,none⟩=some (.bool bN)/\Y.cell? ⟨bq,oq+1,none⟩=some (.slice cl nN cu)/\Y.cell? ⟨bq,oq+2,none⟩=some (.slice cb 0 df)));have ar:=Z_ (show Ext wr wr.drew from uI (uP _));have d4:=Z_ aN;clear ht c6 ci ae hu ho hv hw bs b6 b1 b2 bl hq c0 c1 c2 d0 d1 d2 aN cd hx
   go_upto_region 7 with fail
   go_cut [7,8] (λ u7 u8 wx=>u8=.bool true/\Hd (Va wr wx u7 q m))
   case first=>
    go_region_held3 (λ Y=>Y.cell? ⟨bx,ox,none⟩=some (.bool bz)/\Y.cell? ⟨bx,ox+1,none⟩=some (.slice am nz cm)/\Y.cell? ⟨bx,ox+2,none⟩=some (.slice ao nm co)/\Y.cell? ⟨bq,oq,none⟩=some (.bool bN)/\Y.cell? ⟨bq,oq+1,none⟩=some (.slice cl nN cu)/\Y.cell? ⟨bq,oq+2,none⟩=some (.slice cb 0 df))
     (first|exact ai.o _ ar.o|exact ai.o _ (((uP wr).alloc _).drew)|exact ai.o _ ag.o|exact ai.o _ (ag.o.alloc _)|exact ai.o _ (ag.o.set3 (zR _) _ _ _)|fail)
     (first
      |(go_at_call 140;(with_reducible refine(CQ.o _ ar.o).mono ?_);rintro e w7 ⟨um,uo,rfl,U,Z,ah⟩;have ag:=Z_ (ar.o.trans ah);have bu:=Z_ (U.to (S':=New wr w7) (uN _ _) (λ k h=>⟨zT ar.o.size h.1,h.2⟩));have bt:=Z_ (Z.to (S':=New wr w7) (uN _ _) (λ k h=>⟨zT ar.o.size h.1,h.2⟩));obtain⟨a7,c7,rfl⟩:=U.form;obtain⟨a8,c8,rfl⟩:=Z.form;clear ah U Z)
      |(go_at_call 140;(with_reducible refine(CQ.o _ (((uP wr).alloc _).drew)).mono ?_);rintro e w7 ⟨um,uo,rfl,U,Z,ah⟩;have ag:=Z_ ((((uP wr).alloc _).drew).trans ah);have dt:=Z_ (show wr.heap.size<(wr.alloc (.cells #[.bool false,.slice none 0 0,.slice none 0 0] 54)).drew.heap.size by show wr.heap.size<(wr.alloc _).heap.size;rw[z00];exact zk _);have bu:=Z_ U;have bt:=Z_ Z;have O:=Z_ ((uI (uP (wr.alloc (.cells #[.bool false,.slice none 0 0,.slice none 0 0] 54)))).trans ah);have g0:=O.o.new_cell (i:=0) rfl;have g1:=O.o.new_cell (i:=1) rfl;have g2:=O.o.new_cell (i:=2) rfl;have k0:=O.o.new_free 0;have k1:=O.o.new_free 1;have k2:=O.o.new_free 2;obtain⟨a7,c7,rfl⟩:=U.form;obtain⟨a8,c8,rfl⟩:=Z.form;clear ah U Z)
      |fail)
    all_goals
     go_wp2_with fail
     go_meet
     refine⟨rfl,?_⟩
     first
      |(have q:=Cm ag.o dt.o O.o bu.o bt.o;with_reducible exact Z_ q)
      |(have q:=F4 (T:=54) ag.o bu.o bt.o;with_reducible exact Z_ q)
      |fail
   case rest=>
    obtain⟨rfl,hb⟩:=hcut;obtain⟨b,a1,a2,c1,c2,rfl,cF,ch,⟨e0,e1,e2⟩,hu,hp,I⟩:=hb.out;have HXC:=Z_ I;have bf:=Z_ hu;have bA:=Z_ hp;have c9:=Z_ (Zp HW.o I);have el:=Z_ (Yj HY.o I);have dq:=Z_ (HT.o.to (S':=λ k=>k<wc.heap.size/\some k≠u6.ownBlock) (uM I (λ _ h=>h.1)) (λ k h=>⟨zU h.1 I.size,h.2⟩));have eh:=Z_ (zS cF ch);have bm:Hd (∀k,wr.heap.size<=k->some k≠u6.ownBlock):=Z_ (λ k hk e=>by have h1:=(HW.o.lt k e.symm).2;omega);have ad:=Z_ (zS e0 (zS e1 e2));obtain⟨nq,cn⟩:∃n,n=(Z8 q).mag.length:=⟨_,rfl⟩
    obtain⟨X,b4⟩:∃n,n=(Z8 q).neg:=⟨_,rfl⟩
    obtain⟨J,a4⟩:∃n,n=m.length:=⟨_,rfl⟩
    rw[<-cn]at e1 bf ad;rw[<-b4]at e0 ad;rw[<-a4]at e2 bA ad;have ce:=Z_ b4;have d8:Hd (j<=1000000000000):=Z_ (by have h1:=c5.o;omega);have d5:=Z_ (zT HX.o.size I.size);have cG:=Z_ (HX.o.trans I);clear hb hu hp I cF ch cn b4 a4;go_wp2_with (at_builtin;refine VA _ rfl (.tmp 36) (.tmp 38) 35 rfl w6.heap.size 54 (.agg #[.bool false,.slice none 0 0,.slice none 0 0]) 3 56 Tryz.underlying35 uE rfl (by decide) _ j xs rfl c9.o #[.bool X,.slice a1 nq c1,.slice a2 J c2] rfl (Xn rfl rfl rfl) rfl d8.o (by decide) d5.o ?_;intro v9 w9 az hg ct;have qf:=Go.Joins.ownsRow_form az (yC _);obtain⟨bg,cg,rfl⟩:=qf;have cP:=Z_ az;have y:=Z_ hg;have dF:=Z_ ct;clear az hg ct);have c4:=Z_ (XH cG.o c9.o y.o);have cR:=Z_ (ac.o.trans c4.o);have aR:some b≠u6.ownBlock:=bm.o b eh.o.1;have S9:_/\_/\_:=zS (ZT y.o ad.o.1 aR) (zS (ZT y.o ad.o.2.1 aR) (ZT y.o ad.o.2.2 aR));have bn:=Z_ S9;have d3:=Z_ (bf.o.to (S':=Z2 w9) (uJ y.o (λ k h=>⟨h.2,bm.o k h.1⟩)) (λ k h=>zU h.2 y.o.size));have ei:=Z_ (bA.o.to (S':=Z2 w9) (uJ y.o (λ k h=>⟨h.2,bm.o k h.1⟩)) (λ k h=>zU h.2 y.o.size));have dz:=Z_ (dq.o.to (S':=Z2 w9) (uJ y.o (λ k h=>⟨h.1,h.2⟩)) (λ k h=>zU h.1 y.o.size))
    have cz:Hd (ZX (-q)<=k):=Z_ (by
     unfold ZX;rw[xv];refine zT (Yp ?_) aP.o;rw[<-af.o,xS]
     exact y9 _ (v_.2 H0.o))
    have CN:=Z_ (λ(Y:World) (hY:Ext w9 Y)=>RH (S:=Z2 Y) (.agg #[.bool X,.slice a1 nq c1]) (Z8 q) Y ⟨_,by rw[ce.o],ZW d3.o hY⟩ (λ _ h=>h) (by
     have h1:=cz.o;unfold ZX at h1;rw[xv]at h1;show(Z4 Z9 q.natAbs).length<=_;have h2:=D.o.2.2.1
     omega))
    rw[z09]at CN;have CS:=Z_ (λ(Y:World) (v:Value) (hY:Ext w9 Y) (hv:IntV (Z2 Y) Y v (Z8 (-q)))=>ET (W:=Y) (u:=.slice (some ⟨bq,oq,none⟩) 1 cq) (vc:=v) (vm:=.slice a2 J c2) (p:=[(N,[])]) (c:=-q) (m:=m) (HQ.o.on (cR.o.trans hY)) hv (ei.o.on hY) cj.o K.o.2 cz.o (by have h1:=D.o.1;have h2:=D.o.2.2;omega) D.o.2.2.1 (by decide));have a5:-q≠0:=λ e=>K.o.1 (by rw[<-af.o,show q=0 by omega,Int.zero_mul]);rw[KY H0.o a5 K.o.2,show N * -q = -z by rw[wm,Int.mul_comm,af.o]]at CS;have d9:=Z_ (λ(Y:World) (v:Value) (hY:Ext w9 Y) (hv:IntV (Z2 Y) Y v (Z8 (-q)))=>(show Calls Tryz.prog 122 #[.slice (some ⟨bq,oq,none⟩) 1 cq,v,.slice a2 J c2] Y (Wg Y [(-z,m)]) from CS.o Y v hY hv));have ec:Hd (Fit k np (p.drop j)):=Z_ ⟨Qn HF.o.can j,λ t ht=>HF.o.2.1 t (List.mem_of_mem_drop ht),by rw[yG,<-HN.o];omega⟩
    have dG:Hd (Fit k 1 [(-z,m)]):=Z_ ⟨⟨λ u hu=>by rw[zQ.1 hu];exact⟨Int.neg_ne_zero.2 K.o.1,K.o.2⟩,yP _ _⟩,λ u hu=>by
     rw[zQ.1 hu];show(-z).natAbs<_;rw[xv]
     exact WW aP.o (zR _),zR _⟩
    have CA:=Z_ (λ(Y:World) (v:Value) (hY:Ext w9 Y) (hv:z06 (Z2 Y) Y v (Z5 [(-z,m)]))=>TJ (W:=Y) (u:=.slice (some ⟨bx,ox,none⟩) nx cx) (v:=v) (dz.o.on hY) hv ec.o dG.o D.o.2.2.1 D.o.2.2.1 (by have h1:=c5.o;omega));rw[ca.o]at CA;have aA:=Z_ (show Ext w9 w9.drew from uI (uP _));have aG:=Z_ (λ(Y:World) (h:Ext w9 Y)=>(⟨h.cell bn.o.1,h.cell bn.o.2.1,h.cell bn.o.2.2⟩:Y.cell? ⟨b,0,none⟩=some (.bool X)/\Y.cell? ⟨b,1,none⟩=some (.slice a1 nq c1)/\Y.cell? ⟨b,2,none⟩=some (.slice a2 J c2)));clear S9 e0 e1 e2 a5 aR CS;go_wp2_with fail
    go_region_held3 (λ Y=>Y.cell? ⟨b,0,none⟩=some (.bool X)/\Y.cell? ⟨b,1,none⟩=some (.slice a1 nq c1)/\Y.cell? ⟨b,2,none⟩=some (.slice a2 J c2))
     (first|exact aG.o _ aA.o|exact aG.o _ aB.o|exact aG.o _ aa.o|fail)
     (first
      |(go_at_call 72;(with_reducible refine(CN.o _ aA.o).mono ?_);rintro e w10 ⟨v10,rfl,a6,a3⟩;have aB:=Z_ (aA.o.trans a3);have cc:=Z_ (DM a6);obtain⟨vm10,rfl,a9⟩:=a6;obtain⟨a10,k10,rfl⟩:=a9.form;clear a3 a9)
      |(go_at_call 122;(with_reducible refine(d9.o _ _ aB.o cc.o).mono ?_);rintro e dr ⟨v11,rfl,av,aS⟩;have aa:=Z_ (aB.o.trans aS);have cB:=Z_ (av.to (S':=Z2 dr) (uN _ _) uK);obtain⟨a11,c11,rfl⟩:=av.form;clear aS av)
      |fail)
    all_goals
     have cv:=Z_ (CA.o _ _ aa.o cB.o);go_wp2_with fail;(with_reducible refine cv.o.mono ?_);rintro e w12 ⟨v12,rfl,aj,al⟩;have aC:=Z_ (aa.o.trans al);have bB:=Z_ (c4.o.trans aC.o);have ba:=Z_ aj;have HX1112:=Z_ al;obtain⟨a12,c12,rfl⟩:=aj.form;obtain⟨n12,au⟩:∃n,n=(Z5 (p.drop (j+1))).length:=⟨_,rfl⟩
     rw[<-au]at ba⊢;have cr:=Z_ au;clear aj al au;go_wp2
     go_roundw
     case rel=>
      refine⟨j+1,xs++(#[.bool X,.slice a1 nq c1,.slice a2 J c2]:Array Value).toList,by have:=d6.o;omega,bB.o,?_,Zp cP.o aC.o,?_⟩
      ·exact ba.o.to (uN _ _) (λ k h=>⟨h.2,λ e=>by have h1:=(cP.o.lt k e.symm).2;have h2:=h.1;have h3:=aa.o.size;omega⟩)
      ·show z0v _ _ _ _;rw[bv.o];have hA:Ext wc (wc.alloc (.cells #[.bool X,.slice a1 nq c1,.slice a2 J c2] 54)):=uO (uP wc) _
       have cA:z0v (New wr wc) wc (#[.bool X,.slice a1 nq c1,.slice a2 J c2]:Array Value).toList [⟨Z8 q,m⟩]:=by
        rw[ce.o];exact z0v.single (t:=⟨Z8 q,m⟩) bf.o bA.o
       have db:=el.o.append (Ti HX.o.size HW.o cA);exact Yj (Vs db y.o dF.o (zw _)) aC.o
     case measure=>
      have h1:=cr.o;have h2:=d4.o;rw[z5w,yG]at h1 h2;simp only[Yr];omega
  ·obtain rfl:nx=0:=by omega
   obtain rfl:j=np:=by omega
   go_wp2
   all_goals
    go_ret2;refine⟨_,rfl,?_,cy.o⟩;have hc:=HY.o;have ho:=HW.o;rw[zN (by rw[zdl,<-HN.o];exact zR _)]at hc;have e:(Z5 (Yn p N)).length=j:=by rw[z5w,zdl];exact HN.o.symm
    rw[<-e]at ho;exact Vk ho (hc.to (uN _ _) (λ _ h=>⟨zT ac.o.size h.1.1,h.1.2⟩)) (λ i h1 h2=>⟨zT ac.o.size h1,h2⟩)
end
section
open Go.RowKit
theorem DS{W:World}{vz:Value}{ng:Bool}(hz:U32s (Z2 W) W vz (Z8 1).mag)(hng:ng=(Z8 1).neg) :
  Calls Tryz.prog 39 #[.agg #[.bool ng,vz]] W λ e w'=>∃v',e=.returned v'/\z06 (New W w') w' v' (Z5 [(1,[])])/\Ext W w':=by
 have Z:toP [⟨Z8 1,[]⟩]=[((1:Int),([]:Z7))]:=by unfold toP;simp[z09]
 have e2:Zr [((1:Int),([]:Z7))]=[(1,[])]:=by rw[RF];rfl
 have D:=λ(Y:World) (hY:Ext W Y)=>U5 (S:=Z2 (Y.alloc (.cells #[.bool (Z8 1).neg,vz,.slice none 0 0] 54))) (.slice (some ⟨Y.heap.size,0,none⟩) 1 1) [⟨Z8 1,[]⟩] (Y.alloc (.cells #[.bool (Z8 1).neg,vz,.slice none 0 0] 54)) 1000000
  (R4 (t:=⟨Z8 1,[]⟩) ((hz.ext hY (λ _ h=>h)).to (uN _ _) (λ k h=>zU h hY.size)) (uB _ _ _) 54) (λ _ h=>h) (λ t ht=>by rw[zQ.1 ht];rfl) (λ t ht=>by rw[zQ.1 ht];show(Z8 1).mag.length<=_;rw[z54];exact zT (GE (by decide)) (by decide)) (by decide) (by simp)
 simp only[Z,e2]at D;rw[<-hng]at D;obtain⟨az,cz,rfl⟩:=hz.form;obtain⟨nz,K⟩:∃n,n=(Z8 1).mag.length:=⟨_,rfl⟩
 rw[<-K]at D⊢;have HC:=Z_ D;have y:=Z_ (uO (uP W) (.cells #[.bool ng,.slice az nz cz] 28));have z:=HC.o _ y.o;rw[z00]at z;have U:=Z_ z;clear z hz hng D Z e2 K
 go_enter Tryz.func39,Tryz.ntmps39
 go_wp2_with fail;(with_reducible refine U.o.mono ?_);rintro e w2 ⟨v2,rfl,I,J⟩;have X:=Z_ ((y.o.alloc _).trans J);have O:=Z_ (I.to (S':=New W w2) (uN _ _) (λ k h=>⟨zT (y.o.alloc _).size h.1,h.2⟩));clear I J;go_wp2
 all_goals
  go_ret;exact⟨_,rfl,O.o,X.o⟩
theorem Be{h:PZ}{k n:Nat}(hk:powN h k=none)(hn:k<=n):powN h n=none:=by
 induction n with
 |zero=>
           obtain rfl : k=0 := by omega
           exact hk
 |succ n ih=>
  rcases xj k (n+1) with y|y
  ·rw[powN,ih (by omega)]
  ·obtain rfl:k=n+1:=by omega
   exact hk
end
section
open Go.RowKit
theorem SM{W:World}{vz:Value}{ng:Bool}{N:Int}(hz:U32s (Z2 W) W vz (Z8 N).mag)(hng:ng=(Z8 N).neg)(hl:ZX N<=10000000000) :
  Calls Tryz.prog 39 #[.agg #[.bool ng,vz]] W λ e w'=>∃v',e=.returned v'/\z06 (New W w') w' v' (Z5 (ZO N []))/\Ext W w':=by
 have Z:toP [⟨Z8 N,[]⟩]=[(N,([]:Z7))]:=by unfold toP;simp[z09]
 have e2:Zr [(N,([]:Z7))]=ZO N []:=RF _ _
 have D:=λ(Y:World) (hY:Ext W Y)=>U5 (S:=Z2 (Y.alloc (.cells #[.bool (Z8 N).neg,vz,.slice none 0 0] 54))) (.slice (some ⟨Y.heap.size,0,none⟩) 1 1) [⟨Z8 N,[]⟩] (Y.alloc (.cells #[.bool (Z8 N).neg,vz,.slice none 0 0] 54)) 10000000000
  (R4 (t:=⟨Z8 N,[]⟩) ((hz.ext hY (λ _ h=>h)).to (uN _ _) (λ k h=>zU h hY.size)) (uB _ _ _) 54) (λ _ h=>h) (λ t ht=>by rw[zQ.1 ht];rfl) (λ t ht=>by rw[zQ.1 ht];exact hl) (by decide) (by simp)
 simp only[Z,e2]at D;rw[<-hng]at D;obtain⟨az,cz,rfl⟩:=hz.form;obtain⟨nz,K⟩:∃n,n=(Z8 N).mag.length:=⟨_,rfl⟩
 rw[<-K]at D⊢;have HC:=Z_ D;have y:=Z_ (uO (uP W) (.cells #[.bool ng,.slice az nz cz] 28));have z:=HC.o _ y.o;rw[z00]at z;have U:=Z_ z;clear z hz hng D Z e2 K hl
 go_enter Tryz.func39,Tryz.ntmps39
 go_wp2_with fail;(with_reducible refine U.o.mono ?_);rintro e w2 ⟨v2,rfl,I,J⟩;have X:=Z_ ((y.o.alloc _).trans J);have O:=Z_ (I.to (S':=New W w2) (uN _ _) (λ k h=>⟨zT (y.o.alloc _).size h.1,h.2⟩));clear I J;go_wp2
 all_goals
  go_ret;exact⟨_,rfl,O.o,X.o⟩
theorem C9{W:World}{vp vz:Value}{ng:Bool}{p:PZ}{N:Int}{k n:Nat}(hp:z06 (Z2 W) W vp (Z5 p))(hz:U32s (Z2 W) W vz (Z8 N).mag)(hng:ng=(Z8 N).neg)(fp:Fit k n p)(h0:N≠0)(hd:∀t∈p,N∣t.1)(hln:p≠[]->ZX N<=k)(hNl:ZX N<=1000000)(hk:k<=1000000)(hn:n<=100000000000) :
  Calls Tryz.prog 73 #[vp,.agg #[.bool ng,vz]] W λ e w'=>∃v',e=.returned v'/\z06 (New W w') w' v' (Z5 (Yn p N))/\Ext W w':=by
 have J:=Z_ (uO (uP W) (.cells #[.bool ng,vz] 28));have CN:=SM (W:=W.alloc (.cells #[.bool ng,vz] 28)) (vz:=vz) (ng:=ng) (N:=N) (ZW hz J.o) hng (by omega);rw[show ZO N []=[(N,[])] from if_neg h0]at CN;have CO:=Z_ (λ(Y:World) (v:Value) (hY:Ext W Y) (hv:z06 (Z2 Y) Y v (Z5 [(N,[])]))=>Gi (W:=Y) (z06.on hp hY) hv fp h0 hd hln hNl hk hn);obtain⟨az,cz,rfl⟩:=hz.form;obtain⟨ap,cp,rfl⟩:=hp.form;obtain⟨nz,K⟩:∃n,n=(Z8 N).mag.length:=⟨_,rfl⟩
 obtain⟨np,y⟩:∃n,n=(Z5 p).length:=⟨_,rfl⟩
 rw[<-K]at CN J;rw[<-y]at CO;rw[<-K,<-y];have ad:=Z_ CN;clear hp hz hng fp h0 hd hln hNl hk hn CN K y
 go_enter Tryz.func73,Tryz.ntmps73
 go_wp2_with fail;(with_reducible refine ad.o.mono ?_);rintro e w1 ⟨v1,rfl,D,aa⟩;have I:=Z_ (J.o.trans aa);have X:=Z_ (CO.o w1 v1 I.o (D.to (uN _ _) uK));obtain⟨a1,c1,rfl⟩:=D.form;obtain⟨n1,Z⟩:∃n,n=(Z5 [(N,([]:Z7))]).length:=⟨_,rfl⟩
 rw[<-Z]at X⊢;clear D aa Z;go_wp2_with fail;(with_reducible refine X.o.mono ?_);rintro e w2 ⟨v2,rfl,z,O⟩;have ae:=Z_ (I.o.trans O);have ac:=Z_ (z.to (S':=New W w2) (uN _ _) (uq I.o));obtain⟨a2,c2,rfl⟩:=z.form;obtain⟨n2,U⟩:∃n,n=(Z5 (Yn p N)).length:=⟨_,rfl⟩
 rw[<-U]at ac⊢;clear z O U;go_wp2
 all_goals
  go_ret;exact⟨_,rfl,ac.o,ae.o⟩
structure DZ where
 N:Int
 P:PZ
 By:List PZ
def DerV(S:Nat->Prop)(w:World)(v:Value)(d:DZ):Prop:=∃vn vp vb,v=.agg #[.bool (Z8 d.N).neg,vn,vp,vb]/\U32s S w vn (Z8 d.N).mag/\z06 S w vp (Z5 d.P)/\z1w S w vb (d.By.map Z5)
theorem DerV.to{S S':Nat->Prop}{w w':World}{v:Value}{d:DZ}(h:DerV S w v d)(hk:Kept S w w')(hS:∀k,S k->S' k):DerV S' w' v d:=by
 obtain⟨vn,vp,vb,h1,h2,h3,h4⟩:=h;exact⟨vn,vp,vb,h1,h2.to hk hS,h3.to hk hS,h4.to hk hS⟩
def YL(n:Nat)(l:List PZ):Nat:=l.foldl (λ g b=>Nat.gcd g (Zu b)) n
theorem J7(n:Nat)(l:List PZ)(b:PZ):YL n (l ++ [b])=Nat.gcd (YL n l) (Zu b):=by simp[YL]
theorem TE{n:Nat}:∀(l:List PZ),YL n l∣n/\∀b∈l,YL n l∣Zu b:=by
 intro l
 induction l generalizing n with
 |nil=>exact⟨Nat.dvd_refl _,λ b hb=>by cases hb⟩
 |cons x r ih=>
  have e:YL n (x :: r)=YL (Nat.gcd n (Zu x)) r:=rfl;obtain⟨y,z⟩:=ih (n:=Nat.gcd n (Zu x));rw[e];refine⟨vD y (wQ _ _),λ b hb=>?_⟩
  rcases zJ.1 hb with rfl|hb
  ·exact vD y (wj _ _)
  ·exact z b hb
def Xy(p:PZ):Nat:=if Zu p=0 then 1 else Zu p
def YE(d:DZ):Nat:=d.N.natAbs*Xy d.P
def Zm(d:DZ):Nat:=YL (YE d) d.By
def Zk(d:DZ):Int:=if Ty d.P then -(Zm d:Int) else(Zm d:Int)
def WE(d:DZ):DZ:=⟨(YE d:Int) / (Zm d:Int),Yf d.P,d.By.map λ b=>Yn b (Zk d)⟩
theorem JB(p:PZ):0<Xy p:=by
 unfold Xy
 split<;>omega
theorem PH{d:DZ}(h:0<d.N):0<YE d:=vG (by omega) (JB _)
theorem PK{d:DZ}(h:0<d.N):0<Zm d:=Nat.pos_of_dvd_of_pos (TE d.By).1 (PH h)
theorem zgq(d:DZ):(Zk d).natAbs=Zm d:=by
 unfold Zk
 split<;>simp
theorem Dm{d:DZ}(h:0<d.N):Zk d≠0:=λ e=>by
 have h1:=zgq d;have h2:=PK h;rw[e]at h1;simp at h1;omega
theorem MQ{d:DZ}{b:PZ}(hb:b∈d.By):∀t∈b,Zk d∣t.1:=λ t ht=>by
 refine Int.natAbs_dvd.1 ?_;rw[zgq];exact Int.dvd_trans (xe.2 ((TE d.By).2 b hb)) (Tk ht)
end
section
open Go.RowKit Go.Shelf
def FP(b:Bool)(w:World)(e:Ending)(w':World):Prop:=∃i:Int,e=.returned (.int .i64 i)/\decide (0<=i)=b/\Ext w w'
theorem Bo{S:Nat->Prop}(g:Nat)(eg:∀args w,(callFunc g args).run Tryz.prog w=.ok (.enter g args) w)(pr:List RTerm->Bool)(ls:List (List RTerm))(v:Value)(w:World)(h:z1w S w v ls)(hS:∀k,S k->k<w.heap.size)
  (hI:∀p vp W,p∈ls->Ext w W->z06 S W vp p->Calls Tryz.prog g #[vp] W λ e W'=>e=.returned (.bool (pr p))/\Ext W W') :
  Calls Tryz.prog 132 #[v,.func (.func g) #[] #[]] w (FP (ls.any pr) w):=by
 have HP:=Z_ h;have HI:=Z_ hI;have aa:=h.len_le;obtain⟨a,c,rfl⟩:=h.form;obtain⟨n,hn⟩:∃n,n=ls.length:=⟨_,rfl⟩
 rw[<-hn]at HP aa⊢;have HN:=Z_ hn;clear h hI hn
 go_enter Tryz.func132,Tryz.ntmps132
 go_wp2
 go_loopw [8] (λ i wr=>∃k:Nat,k<=n/\i=.int .i64 (k:Nat)/\Ext w wr/\Hd ((ls.take k).any pr=false)) (λ i _=>n-(intOf i).toNat)
 case atStart=>exact⟨0,zL _,rfl,uP _,rfl⟩
 case round=>
  obtain⟨k,hk,rfl,J,HF⟩:=hrel;have HX:=Z_ J
  by_cases U:k<n
  ·obtain⟨p,D⟩:=ZN (l:=ls) (j:=k) (by rw[<-HN.o];exact U);obtain⟨b,o,vp,rfl,-,h2,h3,-,h5,h6⟩:=(HP.o.ext J hS).cellAt D;have X:=Z_ (HI.o p vp wr (zP D) J h6);have Z:=Z_ (zP D);have K:Hd (ls.take (k+1)=ls.take k ++ [p]):=Z_ (by rw[zv,D];rfl);obtain⟨ap,cp,rfl⟩:=h6.form;obtain⟨np,y⟩:∃n,n=p.length:=⟨_,rfl⟩
   rw[<-y]at X h5;obtain⟨t,O⟩:∃t,t=pr p:=⟨_,rfl⟩
   rw[<-O]at X;have HT:=Z_ O;clear D h6 y O J;go_wp2_with fail;(with_reducible refine X.o.mono ?_);rintro e w1 ⟨rfl,I⟩;have z:=Z_ (HX.o.trans I);clear I
   cases t with
   |true=>
    go_wp2
    all_goals
     go_ret;refine⟨_,rfl,?_,z.o⟩;rw[xX.2 ⟨p,Z.o,HT.o.symm⟩];exact decide_eq_true (by omega)
   |false=>
    go_wp2
    go_roundw
    case rel=>
     refine⟨k+1,by omega,by go_num,z.o,?_⟩;show(ls.take (k+1)).any pr=false;rw[K.o,wC,HF.o];simp[<-HT.o]
    case measure=>simp only[intOf];omega
  ·obtain rfl:k=n:=by omega
   have HA:Hd (ls.any pr=false):=Z_ (by have h:=HF.o;rwa [zN (by rw[<-HN.o];exact zR _)]at h);go_wp2
   all_goals
    go_ret;exact⟨_,rfl,by rw[HA.o];rfl,HX.o⟩
theorem Fz{S:Nat->Prop}(g:Nat)(eg:∀args w,(callFunc g args).run Tryz.prog w=.ok (.enter g args) w)(pr:List RTerm->Bool)(ls:List (List RTerm))(v:Value)(w:World)(h:z1w S w v ls)(hS:∀k,S k->k<w.heap.size)
  (hI:∀p vp W,p∈ls->Ext w W->z06 S W vp p->Calls Tryz.prog g #[vp] W λ e W'=>e=.returned (.bool (pr p))/\Ext W W') :
  Calls Tryz.prog 107 #[v,.func (.func g) #[] #[]] w λ e w'=>e=.returned (.bool (ls.any pr))/\Ext w w':=by
 have D:=Z_ (Bo g eg pr ls v w h hS hI);obtain⟨a,c,rfl⟩:=h.form;obtain⟨n,I⟩:∃n,n=ls.length:=⟨_,rfl⟩
 rw[<-I]at D⊢;clear h hI I
 go_enter Tryz.func107,Tryz.ntmps107
 go_wp2_with fail;(with_reducible refine D.o.mono ?_);rintro e w1 ⟨i,rfl,hi,y⟩;have z:=Z_ y;have J:=Z_ hi;clear y hi;go_wp2
 all_goals
  go_ret;exact⟨by first|rfl|(rw[J.o];rfl),z.o⟩
theorem Pr{S:Nat->Prop}(v:Value)(ls:List (List RTerm))(w:World)(h:z1w S w v ls)(hS:∀k,S k->k<w.heap.size)(hr:US ls) :
  Calls Tryz.prog 67 #[v] w λ e w'=>e=.returned (.bool (ls.all ZR))/\Ext w w':=by
 have hnot:∀(x:Bool) (w:World),(Op.unary .not (.bool x)).run Tryz.prog w=.ok (.bool (!x)) w:=λ _ _=>rfl
 have O:=Z_ (Fz (S:=S) 108 (enters_of Tryz.func108 (by kernel_rfl) rfl) (λ p=>!ZR p) ls v w h hS (λ p vp W hp hW D=>by
  have K:=Z_ (Wy vp p W D (λ k hk=>zU (hS k hk) hW.size) (hr p hp));obtain⟨a,c,rfl⟩:=D.form;obtain⟨n,J⟩:∃n,n=p.length:=⟨_,rfl⟩
  rw[<-J]at K⊢;obtain⟨t,I⟩:∃t,t=ZR p:=⟨_,rfl⟩
  rw[<-I]at K⊢;clear D J I
  go_enter Tryz.func108,Tryz.ntmps108
  go_wp2_with fail;(with_reducible refine K.o.mono ?_);rintro e w1 ⟨rfl,y⟩;have z:=Z_ y;clear y;go_wp2
  all_goals
   go_ret
   exact⟨rfl,z.o⟩))
 have e:ls.all ZR = !(ls.any λ p=>!ZR p):=by simp[List.any_eq_not_all_not]
 rw[e];obtain⟨t,D⟩:∃t,t=ls.any (λ p=>!ZR p):=⟨_,rfl⟩
 rw[<-D]at O⊢;obtain⟨a,c,rfl⟩:=h.form;obtain⟨n,J⟩:∃n,n=ls.length:=⟨_,rfl⟩
 rw[<-J]at O⊢;clear h J D e
 go_enter Tryz.func67,Tryz.ntmps67
 go_wp2_with fail;(with_reducible refine O.o.mono ?_);rintro e w1 ⟨rfl,y⟩;have z:=Z_ y;clear y;go_wp2
 all_goals
  go_ret;exact⟨rfl,z.o⟩
end
section
open Go.RowKit Go.Sort
section
variable {α:Type} [Inhabited α] {pc:α->PCell} {w:World} {b o:Nat} {cf:α->α->Int} {le:α->α->Bool}
end
end
section
open Go.RowKit Go.Sort
section
variable {α:Type} [Inhabited α] {pc:α->PCell} {w:World} {b o:Nat}
end
end
section
open Go.RowKit Go.Sort
section
variable {α:Type} [Inhabited α] {pc:α->PCell} {w:World} {b o:Nat} {cf:α->α->Int} {le:α->α->Bool}
end
end
section
open Go.RowKit Go.Sort
section
variable {α:Type} [Inhabited α] {pc:α->PCell} {w:World} {b o:Nat} {cf:α->α->Int} {le:α->α->Bool}
end
end
section
open Go.RowKit Go.Sort
section
variable {α:Type} [Inhabited α] {pc:α->PCell} {w:World} {b o:Nat} {cf:α->α->Int} {le:α->α->Bool}
end
end
section
open Go.RowKit Go.Sort
def z39(S:Nat->Prop)(w:World)(xs:List Value)(l:List (List RTerm)):Prop:=xs.length=l.length/\∀(j:Nat) (p:List RTerm),l[j]? = some p->∃vp,xs[j]? = some vp/\z06 S w vp p
theorem z39.nil(S:Nat->Prop)(w:World):z39 S w [] []:=⟨rfl,λ j p h=>by simp at h⟩
theorem z39.to{S S':Nat->Prop}{w w':World}{xs:List Value}{l:List (List RTerm)}(h:z39 S w xs l)(hk:Kept S w w')(hS:∀k,S k->S' k):z39 S' w' xs l :=
 ⟨h.1,λ j p hj=>by
  obtain⟨vp,h1,h2⟩:=h.2 j p hj
  exact⟨vp,h1,h2.to hk hS⟩⟩
theorem z39.snoc{S:Nat->Prop}{w:World}{xs:List Value}{l:List (List RTerm)}{v:Value}{p:List RTerm}(h:z39 S w xs l)(hv:z06 S w v p):z39 S w (xs ++ [v]) (l ++ [p]):=by
 refine⟨by simp[h.1],λ j q hj=>?_⟩
 by_cases y:j<l.length
 ·rw[yc y]at hj;rw[yc (by rw[h.1];exact y)];exact h.2 j q hj
 ·have z:=Zy hj;simp only[zI,zM,zo]at z;obtain rfl:j=l.length:=by omega
  rw[yI (zR _),xZ]at hj;obtain rfl:p=q:=by simpa using hj
  refine⟨v,?_,hv⟩;rw[<-h.1,yI (zR _),xZ];rfl
theorem z1w.nilv(S:Nat->Prop)(w:World)(a:Option Addr)(cap:Nat)(h:cap<=9223372036854775807):z1w S w (.slice a 0 cap) [] :=
 ⟨0,0,⟨a,cap,rfl,zL _,h,λ h=>absurd h (yQ 0),λ h=>absurd h (yQ 0)⟩,λ j t hj=>by simp at hj⟩
theorem QM{S:Nat->Prop}{w:World}{base:Nat}{e:TypeId}{v:Value}{xs:List Value}{l:List (List RTerm)}(h:w.ownsRow base e 1 v l.length xs)(hc:z39 S w xs l)(hB:∀k,base<=k->k<w.heap.size->S k):z1w S w v l:=by
 have y:=h.lt
 rcases h.2 with ⟨rfl,z⟩|⟨g,cap,cur,rfl,hg,hh,J,I,h3,h4⟩
 ·obtain rfl:l=[]:=zO.1 z;exact z1w.nilv _ _ _ _ (by decide)
 ·refine⟨g,0,⟨_,cap,rfl,J,I,λ _=>rfl,λ _=>hB g (y g rfl).1 (y g rfl).2⟩,λ j t hj=>?_⟩;obtain⟨vp,K,D⟩:=hc.2 j t hj;have hb:=Zy hj;refine⟨vp,?_,D⟩;rw[h.cellAt (0+j) (by omega),zr];exact K
theorem Tryz.infoPoly:(Tryz.prog.info? 35).map (λ i=>(i.zero,i.size,i.bytes))=some (some (.slice none 0 0),1,24):=by kernel_rfl
abbrev uv:=@Tryz.infoPoly
theorem QY{u:Value}(h:u.oneCell'=true):∀y∈(#[u]:Array Value).toList,y.oneCell'=true:=by
 intro y hy;simp at hy;rw[hy];exact h
section
variable {w w1 w2:World} {o:Value} {e:TypeId} {size n:Nat} {xs:List Value}
theorem Ij{l:List (List RTerm)}(h:z39 (Yy w w1 o) w1 xs l)(hx:Ext w1 w2):z39 (Yy w w2 o) w2 xs l :=
 h.to (uM hx (λ _ h=>h.1.2)) (λ _ h=>⟨⟨h.1.1,zU h.1.2 hx.size⟩,h.2⟩)
theorem BE{v3:Value}{w3:World}{l:List (List RTerm)}{B:Nat}(h:z39 (Yy w w2 o) w2 xs l)(hg:w2.grownBy w3 o.ownBlock)(hb:v3.ownBlock=o.ownBlock∨v3.ownBlock=some B)(hB:w2.heap.size<=B):z39 (Yy w w3 v3) w3 xs l :=
 h.to (uJ hg (λ _ h=>⟨h.1.2,h.2⟩)) (λ k hk=>⟨⟨hk.1.1,zU hk.1.2 hg.size⟩,by
  rcases hb with e|e
  ·rw[e];exact hk.2
  ·rw[e];intro y;have e3:k=B:=Option.some.inj y;have:=hk.1.2
   omega⟩)
end
structure PolyIn (S:Nat->Prop) (w:World) where
 t:List RTerm
 c:PCell
 h:z06 S w (.slice c.a c.n c.c) t
 small:Yk t
instance (S:Nat->Prop) (w:World):Inhabited (PolyIn S w):=⟨⟨[],⟨none,0,0⟩,z06.nilv _ _ _ _ (by decide),λ t ht=>by simp at ht⟩⟩
section
variable {S:Nat->Prop} {w:World}
end
end
section
open Go.RowKit
def Ders(S:Nat->Prop)(w:World)(v:Value)(l:List DZ):Prop :=
 ∃b off,z3r S v l.length b off/\∀j d,l[j]? = some d->∃vm vp vb,w.cell? ⟨b,off+j*4,none⟩=some (.bool (Z8 d.N).neg)/\w.cell? ⟨b,off+j*4+1,none⟩=some vm /\
  w.cell? ⟨b,off+j*4+2,none⟩=some vp/\w.cell? ⟨b,off+j*4+3,none⟩=some vb/\U32s S w vm (Z8 d.N).mag/\z06 S w vp (Z5 d.P)/\z1w S w vb (d.By.map Z5)
def z29(S:Nat->Prop)(w:World):List Value->List DZ->Prop
 |xs,[]=>xs=[]
 |xs,d :: r=>∃vm vp vb ys,xs=.bool (Z8 d.N).neg :: vm :: vp :: vb :: ys/\U32s S w vm (Z8 d.N).mag/\z06 S w vp (Z5 d.P)/\z1w S w vb (d.By.map Z5)/\z29 S w ys r
section
variable {S S':Nat->Prop} {w w':World} {v:Value} {l:List DZ}
theorem Ders.form(h:Ders S w v l):∃a cap,v=.slice a l.length cap:=by
 obtain⟨b,off,⟨a,cap,h1,_⟩,_⟩:=h;exact⟨a,cap,h1⟩
theorem Ders.to(h:Ders S w v l)(hk:Kept S w w')(hS:∀k,S k->S' k):Ders S' w' v l:=by
 obtain⟨b,off,y,z⟩:=h;refine⟨b,off,y.mono hS,λ j t hj=>?_⟩;obtain⟨vm,vp,I,K,J,D,X,O,U,Z⟩:=z j t hj;have hb:=y.in (Zy hj);exact⟨vm,vp,I,hk.cell hb K,hk.cell hb J,hk.cell hb D,hk.cell hb X,O.to hk hS,U.to hk hS,Z.to hk hS⟩
theorem Ders.ext{W:World}(h:Ders S w v l)(hx:Ext w W)(hS:∀k,S k->k<w.heap.size):Ders S W v l:=h.to (uM hx hS) (λ _ h=>h)
theorem Ders.len_le(h:Ders S w v l):l.length<=9223372036854775807:=by
 obtain⟨b,off,⟨a,cap,h1,h2,h3,_⟩,_⟩:=h;unfold maxLen at h3;omega
theorem Ders.cellAt{a:Option Addr}{n cap k:Nat}{d:DZ}(h:Ders S w (.slice a n cap) l)(hd:l[k]? = some d) :
  ∃b off vm vp vb,a=some ⟨b,off,none⟩/\n=l.length/\n<=cap/\cap<=9223372036854775807/\S b/\w.cell? ⟨b,off+k*4,none⟩=some (.bool (Z8 d.N).neg)/\w.cell? ⟨b,off+k*4+1,none⟩=some vm /\
   w.cell? ⟨b,off+k*4+2,none⟩=some vp/\w.cell? ⟨b,off+k*4+3,none⟩=some vb/\U32s S w vm (Z8 d.N).mag/\z06 S w vp (Z5 d.P)/\z1w S w vb (d.By.map Z5):=by
 obtain⟨b,off,⟨a',y,K,J,D,U,O⟩,I⟩:=h;obtain⟨rfl,rfl,rfl⟩:a=a'/\n=l.length/\cap=y:=by simpa using K
 have z:0<l.length:=by have:=Zy hd;omega
 obtain⟨vm,vp,vb,g⟩:=I k d hd;exact⟨b,off,vm,vp,vb,U z,rfl,J,D,O z,g⟩
theorem Ders.nilv(S:Nat->Prop)(w:World)(a:Option Addr)(cap:Nat)(h:cap<=9223372036854775807):Ders S w (.slice a 0 cap) [] :=
 ⟨0,0,⟨a,cap,rfl,zL _,h,λ h=>absurd h (yQ 0),λ h=>absurd h (yQ 0)⟩,λ j t hj=>by simp at hj⟩
theorem z29.append{xs ys:List Value}{p q:List DZ}(h:z29 S w xs p)(k:z29 S w ys q):z29 S w (xs++ys) (p++q):=by
 induction p generalizing xs with
 |nil=>
  have e:xs=[]:=h;subst e;exact k
 |cons t r ih=>
  obtain⟨vm,vp,vb,zs,rfl,h1,h2,h3,h4⟩:=h;exact⟨vm,vp,vb,zs++ys,rfl,h1,h2,h3,ih h4⟩
theorem z29.to{xs:List Value}{p:List DZ}(h:z29 S w xs p)(hk:Kept S w w')(hS:∀k,S k->S' k):z29 S' w' xs p:=by
 induction p generalizing xs with
 |nil=>exact h
 |cons t r ih=>
  obtain⟨vm,vp,vb,zs,rfl,h1,h2,h3,h4⟩:=h;exact⟨vm,vp,vb,zs,rfl,h1.to hk hS,h2.to hk hS,h3.to hk hS,ih h4⟩
theorem z29.length{xs:List Value}{p:List DZ}(h:z29 S w xs p):xs.length=p.length*4:=by
 induction p generalizing xs with
 |nil=>
  have e:xs=[]:=h;subst e;rfl
 |cons t r ih=>
  obtain⟨vm,vp,vb,zs,rfl,h1,h2,h3,h4⟩:=h;simp only[zM,ih h4];omega
theorem z29.get{xs:List Value}{p:List DZ}(h:z29 S w xs p){j:Nat}{d:DZ}(hd:p[j]? = some d) :
  ∃vm vp vb,xs[j*4]? = some (.bool (Z8 d.N).neg)/\xs[j*4+1]? = some vm/\xs[j*4+2]? = some vp/\xs[j*4+3]? = some vb/\U32s S w vm (Z8 d.N).mag/\z06 S w vp (Z5 d.P)/\z1w S w vb (d.By.map Z5):=by
 induction p generalizing xs j with
 |nil=>simp at hd
 |cons u r ih=>
  obtain⟨vm,vp,vb,zs,rfl,K,J,I,O⟩:=h
  cases j with
  |zero=>
   obtain rfl:u=d:=by simpa using hd
   exact⟨vm,vp,vb,rfl,rfl,rfl,rfl,K,J,I⟩
  |succ j=>
   obtain⟨z,y,D,g⟩:=ih O (j:=j) (by simpa using hd);refine⟨z,y,D,?_⟩;rw[show(j+1)*4=j*4+1+1+1+1 by omega];simpa using g
theorem z29.one{xs:List Value}{p:List DZ}(h:z29 S w xs p):∀u∈xs,u.oneCell'=true:=by
 induction p generalizing xs with
 |nil=>
  have e:xs=[]:=h;subst e;intro u y;simp at y
 |cons t r ih=>
  obtain⟨vm,vp,vb,zs,rfl,I,D,z,J⟩:=h;intro u y;simp only[zJ]at y
  rcases y with rfl|rfl|rfl|rfl|y
  ·rfl
  ·obtain⟨a,c,rfl⟩:=I.form;rfl
  ·obtain⟨a,c,rfl⟩:=D.form;rfl
  ·obtain⟨a,c,rfl⟩:=z.form;rfl
  ·exact ih J u y
theorem z29.single{vm vp vb:Value}{d:DZ}(h1:U32s S w vm (Z8 d.N).mag)(h2:z06 S w vp (Z5 d.P))(h3:z1w S w vb (d.By.map Z5)):z29 S w [.bool (Z8 d.N).neg,vm,vp,vb] [d]:=⟨vm,vp,vb,[],rfl,h1,h2,h3,rfl⟩
theorem Ders.src{A:Option Addr}{n cap:Nat}{ts:List DZ}(h:Ders S w (.slice A n cap) ts):n=ts.length/\∃xs,z29 S w xs ts/\Wq w A n 4 xs:=by
 obtain⟨b,off,⟨a',D,X,h2,h3,h4,h5⟩,hc⟩:=h;obtain⟨rfl,rfl,rfl⟩:A=a'/\n=ts.length/\cap=D:=by simpa using X
 refine⟨rfl,?_⟩;clear X h2 h3 h5
 have I:∀(us:List DZ) (k:Nat),(∀j d,us[j]? = some d->∃vm vp J,w.cell? ⟨b,off+(k+j)*4,none⟩=some (.bool (Z8 d.N).neg)/\w.cell? ⟨b,off+(k+j)*4+1,none⟩=some vm/\w.cell? ⟨b,off+(k+j)*4+2,none⟩=some vp/\w.cell? ⟨b,off+(k+j)*4+3,none⟩=some J/\U32s S w vm (Z8 d.N).mag/\z06 S w vp (Z5 d.P)/\z1w S w J (d.By.map Z5)) ->
   ∃xs,z29 S w xs us/\∀j u,xs[j]? = some u->w.cell? ⟨b,off+k*4+j,none⟩=some u:=by
  intro us
  induction us with
  |nil=>intro k _;exact⟨[],rfl,λ j u hu=>by simp at hu⟩
  |cons t r ih=>
   intro k hk;obtain⟨vm,vp,J,Z,U,O,K,g5,g6,g7⟩:=hk 0 t rfl
   obtain⟨xs,y,z⟩:=ih (k+1) (λ j u hu=>by
    have:=hk (j+1) u (by simpa using hu);rw[show k+(j+1)=k+1+j by omega]at this
    exact this)
   refine⟨.bool (Z8 t.N).neg :: vm :: vp :: J :: xs,⟨vm,vp,J,xs,rfl,g5,g6,g7,y⟩,λ j u hu=>?_⟩;rw[zp]at Z U O K
   match j,hu with
   |0,hu=>
              obtain rfl : _=u := by simpa using hu
              exact Z
   |1,hu=>
              obtain rfl : _=u := by simpa using hu
              exact U
   |2,hu=>
              obtain rfl : _=u := by simpa using hu
              exact O
   |3,hu=>
              obtain rfl : _=u := by simpa using hu
              exact K
   |j+4,hu=>
    have:=z j u (by simpa using hu);rw[show off+k*4+(j+4)=off+(k+1)*4+j by omega];exact this
 obtain⟨xs,y,z⟩:=I ts 0 (λ j t hj=>by rw[zr];exact hc j t hj);refine⟨xs,y,by rw[y.length],y.one,λ h0=>⟨_,h4 h0,λ j u hu=>?_⟩⟩;rw[z9j];have:=z j u hu;simpa using this
end
theorem Qt{S:Nat->Prop}{w:World}{base:Nat}{e:TypeId}{v:Value}{xs:List Value}{p:List DZ}(h:w.ownsRow base e 4 v p.length xs)(hc:z29 S w xs p)(hB:∀k,base<=k->k<w.heap.size->S k):Ders S w v p:=by
 have y:=h.lt
 rcases h.2 with ⟨rfl,Z⟩|⟨g,cap,cur,rfl,hg,hh,U,D,h3,h4⟩
 ·obtain rfl:p=[]:=zO.1 Z;exact Ders.nilv _ _ _ _ (by omega)
 ·refine⟨g,0,⟨_,cap,rfl,U,D,λ _=>rfl,λ _=>hB g (y g rfl).1 (y g rfl).2⟩,λ j t hj=>?_⟩;obtain⟨vm,vp,O,X,K,J,z,I⟩:=hc.get hj;have hb:=Zy hj
  refine⟨vm,vp,O,?_,?_,?_,?_,I⟩
  ·rw[h.cellAt (0+j*4) (by omega),zr];exact X
  ·rw[h.cellAt (0+j*4+1) (by omega),zr];exact K
  ·rw[h.cellAt (0+j*4+2) (by omega),zr];exact J
  ·rw[h.cellAt (0+j*4+3) (by omega),zr];exact z
section
variable {w w1 w2:World} {o:Value} {e:TypeId} {size n:Nat} {xs ys:List Value} {l:List DZ}
end
theorem Tryz.infoDer:(Tryz.prog.info? 48).map (λ i=>(i.zero,i.size,i.bytes))=some (some (.agg #[.bool false,.slice none 0 0,.slice none 0 0,.slice none 0 0]),4,80):=by kernel_rfl
end
section
open Go.RowKit
structure CalcAt (W:World) (bd:Nat) (vm:Value) (c:Int):Prop where
 c0:W.cell? ⟨bd,0,none⟩=some vm
 c1:W.cell? ⟨bd,1,none⟩=some (.int .i64 c)
 fz:∀i,W.frozen? ⟨bd,i,none⟩=false
section
variable {W W':World} {bd:Nat} {vm:Value} {c d:Int} {o:Option Nat}
theorem CalcAt.same(h:CalcAt W bd vm c)(e:W'.heap[bd]? = W.heap[bd]?):CalcAt W' bd vm c:=by
 have y:∀i,W'.cell? ⟨bd,i,none⟩=W.cell? ⟨bd,i,none⟩:=λ i=>World.cell?_of_block e;exact⟨(y _).trans h.c0,(y _).trans h.c1,λ i=>(World.frozen?_of_block (w:=W) (a:=⟨bd,i,none⟩) e).trans (h.fz i)⟩
theorem CalcAt.lt(h:CalcAt W bd vm c):bd<W.heap.size:=Zj h.c0
theorem CalcAt.ext(h:CalcAt W bd vm c)(g:Ext W W'):CalcAt W' bd vm c:=h.same (g.block bd h.lt)
theorem CalcAt.gb(h:CalcAt W bd vm c)(g:W.grownBy W' o)(ho:some bd≠o):CalcAt W' bd vm c:=h.same (g.block bd h.lt ho)
theorem CalcAt.set(h:CalcAt W bd vm c)(d:Int):CalcAt (W.setCell ⟨bd,1,none⟩ (.int .i64 d)) bd vm d :=
 ⟨ZZ h.c0 (ao (by decide)),YT h.c1,λ i=>Zg (h.fz i)⟩
theorem Gd.of_none(h:Gd none bd W W'):Gd o bd W W':=⟨h.os,h.tape,h.output,h.size,λ k h1 _ h3=>h.block k h1 (by simp) h3⟩
end
def Oq(W:World)(bd:Nat)(vm:Value)(c:PZ):Ending->World->Prop:=λ e W'=>∃x,e=.returned x/\CalcAt W' bd vm 0/\Gd none bd W W'/\z06 (New W W') W' x (Z5 c)
theorem O1{W:World}{bd:Nat}{vm u v:Value}{p q c:PZ}{k l n m:Nat}(D:CalcAt W bd vm 0)(hp:PV W u p)(hq:PV W v q)(fp:Fit k n p)(fq:Fit l m q)(hc:k<24∨l<24)(hk:k<=1000000)(hl:l<=1000000)(hnm:n*m<=1000000000000)(ht:ZI p q=some c) :
  Calls Tryz.prog 117 #[.pointer (some ⟨bd,0,none⟩),u,v] W (Oq W bd vm c):=by
 have C:=R8 hp hq fp fq hc hk hl hnm;rw[ht]at C;have HC:=Z_ C;have U:=Z_ D;have X:=D.c0;have e1:=D.c1;have z1:=D.fz 1;obtain⟨au,cu,rfl⟩:=hp.form;obtain⟨av,cv,rfl⟩:=hq.form;obtain⟨nu,I⟩:∃n,n=(Z5 p).length:=⟨_,rfl⟩
 obtain⟨nv,J⟩:∃n,n=(Z5 q).length:=⟨_,rfl⟩
 rw[<-I,<-J]at HC⊢;clear C D hp hq fp fq hc hk hl hnm ht I J
 go_enter Tryz.func117,Tryz.ntmps117
 go_wp2_with fail;(with_reducible refine HC.o.mono ?_);rintro e w1 ⟨x,rfl,K,O⟩;have Z:=Z_ K;have HG:=Z_ O;have y:=Z_ (U.o.ext O);obtain⟨ax,cx,rfl⟩:=K.form;obtain⟨nx,z⟩:∃n,n=(Z5 c).length:=⟨_,rfl⟩
 rw[<-z]at Z⊢;clear X e1 z1;have X:=y.o.c0;have e1:=y.o.c1;have z1:=y.o.fz 1;clear K O z;go_wp2
 all_goals
  go_ret;exact⟨_,rfl,y.o.set 0,(Y8 HG.o).trans (WT w1 (a:=⟨bd,1,none⟩) rfl _),Z.o.to (λ k hk=>(WT (o:=none) (bd:=bd) w1 (a:=⟨bd,1,none⟩) rfl _).block k hk.2 (by simp) (λ h=>by have:=U.o.lt;have:=hk.1;omega)) (λ k hk=>⟨hk.1,zU hk.2 (WT (o:=none) (bd:=bd) w1 (a:=⟨bd,1,none⟩) rfl _).size⟩)⟩
theorem Bg{W:World}{bd:Nat}{vm u v:Value}{c:Int}(D:CalcAt W bd vm c)(hu:∃a n c,u=.slice a n c)(hv:∃a n c,v=.slice a n c)(hc:c≠0) :
  Calls Tryz.prog 117 #[.pointer (some ⟨bd,0,none⟩),u,v] W λ e W'=>e=.returned (.slice none 0 0)/\W'=W:=by
 have q0:(c != 0)=true:=by rw[bne_iff_ne];exact hc
 have e0:=D.c0;have e1:=D.c1;obtain⟨au,nu,cu,rfl⟩:=hu;obtain⟨av,nv,cv,rfl⟩:=hv;clear D hc
 go_enter Tryz.func117,Tryz.ntmps117
 go_wp2
 all_goals
  go_ret;exact⟨rfl,rfl⟩
def Cg(W:World)(o:Option Nat)(bd:Nat)(x:Value)(r:Int)(s:MSt):Ending->World->Prop:=λ e W'=>e=.returned x/\CalcAt W' bd (ZK o) r/\MV W' o s/\Gd o bd W W'
theorem M6{W:World}{o:Option Nat}{s:MSt}{bd:Nat}{u:Value}{p:PZ}(D:CalcAt W bd (ZK o) 0)(hM:MV W o s)(hob:∀b,o=some b->b≠bd)(hp:PM o W u p) :
  Calls Tryz.prog 120 #[.pointer (some ⟨bd,0,none⟩),u] W (Cg W o bd u (z1b o s p).1 (z1b o s p).2):=by
 have I:=Z_ (PY hM hp);have HD:=Z_ D;have X:=Z_ hob;have O:Hd (some bd≠o):=Z_ (λ e=>hob bd e.symm rfl);obtain⟨vm,z⟩:∃x,x=ZK o:=⟨_,rfl⟩
 have U:=D.c0;have Z:=D.c1;have z1:=D.fz 1;rw[<-z]at I U;generalize z1b o s p=m at I⊢;obtain⟨r,t⟩:=m;simp only at I⊢;obtain⟨au,cu,rfl⟩:=hp.form;obtain⟨nu,J⟩:∃n,n=(Z5 p).length:=⟨_,rfl⟩
 rw[<-J]at I⊢;clear D hM hob hp z J
 go_enter Tryz.func120,Tryz.ntmps120
 go_wp2_with fail;(with_reducible refine I.o.mono ?_);rintro e w1 ⟨rfl,hm,K⟩;have HM:=Z_ hm;have HG:=Z_ K;have y:=Z_ (HD.o.gb K O.o);clear U Z z1 hm K;have U:=y.o.c0;have Z:=y.o.c1;have z1:=y.o.fz 1;go_wp2
 all_goals
  go_ret;exact⟨rfl,y.o.set r,HM.o.set X.o (a:=⟨bd,1,none⟩) rfl _,(WM HG.o).trans (WT w1 (a:=⟨bd,1,none⟩) rfl _)⟩
theorem Hp{W:World}{bd:Nat}{vm u:Value}{c:Int}(D:CalcAt W bd vm c)(hu:∃a n c,u=.slice a n c)(hc:c≠0) :
  Calls Tryz.prog 120 #[.pointer (some ⟨bd,0,none⟩),u] W λ e W'=>e=.returned u/\W'=W:=by
 have q0:(c == 0)=false:=by rw[beq_eq_false_iff_ne];exact hc
 have e0:=D.c0;have e1:=D.c1;obtain⟨au,nu,cu,rfl⟩:=hu;clear D hc
 go_enter Tryz.func120,Tryz.ntmps120
 go_wp2
 all_goals
  go_ret;exact⟨rfl,rfl⟩
def Ko(W:World)(o:Option Nat)(bd:Nat)(P:PZ)(r:Int)(s:MSt):Ending->World->Prop:=λ e W'=>∃x,e=.returned x/\CalcAt W' bd (ZK o) r/\MV W' o s/\Gd o bd W W'/\PN W.heap.size o bd W' x P
theorem Ag{W:World}{o:Option Nat}{s:MSt}{bd:Nat}{u:Value}{h P:PZ}{A T n:Nat}(D:CalcAt W bd (ZK o) 0)(hM:MV W o s)(hob:∀b,o=some b->b≠bd)(hp:PC o bd W u h)(fh:Fit A T h)(hA:A<24)(hT:1<=T)(hn:n<=100)(hTn:T^n<=1000000000000)(hP:powN h n=some P) :
  Calls Tryz.prog 118 #[.pointer (some ⟨bd,0,none⟩),u,.int .i64 (n:Nat)] W (Ko W o bd P (z1b o s P).1 (z1b o s P).2):=by
 have C2:=Z_ (λ(Y:World)=>VM 1 Y (by decide));have HD:=Z_ D;have HM:=Z_ hM;have aa:=Z_ hob;have HP:=Z_ hp;have HF:=Z_ fh;have Z:=Z_ hA;have K:=Z_ hT;have aA:=Z_ hTn;have au:=Z_ hP;have aB:=Z_ (λ b hb=>hM.block (b:=b) hb);obtain⟨a,c,rfl⟩:=hp.form;obtain⟨nh,ay⟩:∃n,n=(Z5 h).length:=⟨_,rfl⟩
 rw[<-ay]at HP⊢;clear D hM hob hp fh ay hA hT hTn hP
 go_enter Tryz.func118,Tryz.ntmps118
 go_wp2_with fail;(with_reducible refine(C2.o _).mono ?_);rintro e w2 ⟨v2,rfl,⟨vz,rfl,hz⟩,ae⟩;have ai:=Z_ ae;have C3:=DS (W:=w2) (vz:=vz) (ng:=(Z8 1).neg) (hz.to (uN _ _) uK) rfl;obtain⟨az,cz,rfl⟩:=hz.form;obtain⟨nz,al⟩:∃n,n=(Z8 1).mag.length:=⟨_,rfl⟩
 obtain⟨ng,ah⟩:∃n,n=(Z8 1).neg:=⟨_,rfl⟩
 rw[<-al,<-ah]at C3⊢;have a2:=Z_ C3;clear hz ae al ah C3;go_wp2_with fail;(with_reducible refine a2.o.mono ?_);rintro e w3 ⟨v3,rfl,ap,aF⟩;have af:=Z_ (ai.o.trans aF);have a6:=Z_ (ap.to (S':=New W w3) (uN _ _) (λ k h=>⟨zT ai.o.size h.1,h.2⟩));have a4:=Z_ (HD.o.ext af.o);clear ap aF;go_wp2
 go_loopw [7,11] (λ x i wr=>∃(k:Nat) (Q:PZ),k<=n/\i=.int .i64 (k:Nat)/\Gd none bd W wr/\Hd (CalcAt wr bd (ZK o) 0)/\Hd (powN h k=some Q)/\Hd (z06 (λ b=>New W wr b/\b≠bd) wr x (Z5 Q))) (λ _ i _=>n-(intOf i).toNat)
 case atStart=>exact⟨0,[(1,[])],zL _,rfl,Y8 af.o,a4,rfl,Z_ (a6.o.to (uN _ _) (λ b hb=>⟨hb,λ e=>by have:=hb.1;have:=HD.o.lt;omega⟩))⟩
 case round=>
  obtain⟨k,Q,hk,rfl,hx,ax,U,HO⟩:=hrel;have z:=Z_ hx
  by_cases hlt:k<n
  ·have aC:T^k<=T^n:=zA K.o (by omega);have J:T^(k+1)<=T^n:=zA K.o (by omega);have fP:=O8 HF.o K.o k Q (zT aC aA.o) U.o
   have a7:1+k*(A+2)<=10000:=by
    have I:k*(A+2)<=100*26:=yR (by omega) (by have:=Z.o;omega);omega
   have ag:Hd (powN h (k+1)=ZI Q h):=Z_ (by rw[powN,U.o])
   obtain⟨R,hR⟩:∃R,ZI Q h=some R:=by
    cases hq:ZI Q h with
    |some R=>exact⟨R,rfl⟩
    |none=>
     exfalso
     have I:=Be (ag.o.trans hq) (n:=n) (by omega);rw[au.o]at I
     cases I
   have aH:Hd (powN h (k+1)=some R):=Z_ (ag.o.trans hR);have ac:=Z_ (O1 ax.o (HO.o.to (S':=Z2 wr) (uN _ _) (λ b hb=>hb.1.2)) (PC.on HP.o hx.of_none).pv fP HF.o (.inr Z.o) (by omega) (by have:=Z.o;omega) (by rw[<-yY];exact zT J aA.o) hR);obtain⟨ao,co,rfl⟩:=HO.o.form;obtain⟨no,y⟩:∃n,n=(Z5 Q).length:=⟨_,rfl⟩
   rw[<-y]at HO ac⊢;clear aC J fP a7 hR y hx;go_wp2_with fail;(with_reducible refine ac.o.mono ?_);rintro e w4 ⟨v4,rfl,av,aq,aj⟩;have aR:=Z_ (z.o.trans aq);have aN:=Z_ av;have a5:=Z_ (aj.to (S':=λ b=>New W w4 b/\b≠bd) (uN _ _) (λ b h=>⟨⟨zT z.o.size h.1,h.2⟩,λ e=>by have:=h.1;have:=z.o.size;have:=HD.o.lt;omega⟩));clear aq aj av;go_wp2
   go_roundw
   case rel=>exact⟨k+1,R,by omega,by go_num,aR.o,aN,aH,a5⟩
   case measure=>simp only[intOf];omega
  ·obtain rfl:k=n:=by omega
   have aS:P=Q:=by have I:=au.o;rw[U.o]at I;exact(Option.some.inj I).symm
   subst aS
   have a8:Hd (MV wr o s):=Z_ (λ b hb=>by
    have I:=(HM.o b hb)
    have h2:=z.o.block b (aB.o b hb) (by simp) (aa.o b hb)
    exact⟨I.1.grown (r:=some bd) ⟨z.o.os,z.o.tape,z.o.output,z.o.size,λ j j1 j2=>z.o.block j j1 (by simp) (λ e=>j2 (by rw[e]))⟩ (λ e=>aa.o b hb (Option.some.inj e)),I.2⟩)
   have O:=Z_ (HO.o.to (S':=λ k=>W.heap.size<=k/\NC o bd wr k) (uN _ _) (λ b hb=>⟨hb.1.1,hb.1.2,λ e=>by have:=aB.o b e.symm;have:=hb.1.1;omega,hb.2⟩));have ar:=Z_ (M6 ax.o a8.o aa.o (PC.pm (PN.pc O.o)));obtain⟨ao,co,rfl⟩:=HO.o.form;obtain⟨no,y⟩:∃n,n=(Z5 P).length:=⟨_,rfl⟩
   rw[<-y]at HO ar O⊢;clear hx y;go_wp2_with fail;(with_reducible refine ar.o.mono ?_);rintro e w5 ⟨rfl,ad,aG,X⟩;have a9:=Z_ ad;have aP:=Z_ aG;have a0:=Z_ X;have a3:=Z_ (ui O.o X);clear ad aG X;go_wp2
   all_goals
    go_ret;exact⟨_,rfl,a9.o,aP.o,z.o.of_none.trans a0.o,a3.o⟩
end
section
open Go.RowKit
def YH(c:Int):List (List RTerm)->Bool
 | []=>true
 |p :: l=>if ZR p && decide (c<ZL (Zt p)) then YH (ZL (Zt p)) l else false
theorem G3{ls:List (List RTerm)}{k:Nat}{p:List RTerm}{c:Int}(hp:ls[k]? = some p):YH c (ls.drop k)=if ZR p && decide (c<ZL (Zt p)) then YH (ZL (Zt p)) (ls.drop (k+1)) else false:=by
 rw[Wh hp];rfl
theorem Nb{S:Nat->Prop}(v:Value)(ls:List (List RTerm))(w:World)(h:z1w S w v ls)(hS:∀k,S k->k<w.heap.size)(hr:US ls) :
  Calls Tryz.prog 77 #[v] w λ e w'=>e=.returned (.bool (YH 0 ls))/\Ext w w':=by
 have hnot:∀(x:Bool) (w:World),(Op.unary .not (.bool x)).run Tryz.prog w=.ok (.bool (!x)) w:=λ _ _=>rfl;have H:=Z_ h;have HR:=Z_ hr;have ae:=h.len_le;obtain⟨A,c,rfl⟩:=h.form;obtain⟨n,U⟩:∃n,n=ls.length:=⟨_,rfl⟩
 rw[<-U]at H ae⊢;have HN:=Z_ U;clear h hr U
 go_enter Tryz.func77,Tryz.ntmps77
 go_wp2
 go_loopw [3,9] (λ l i wr=>∃(k:Nat) (d:Int),k<=n/\i=.int .i64 k/\l=.int .i64 d/\Zv d/\Ext w wr/\Hd (YH d (ls.drop k)=YH 0 ls)) (λ _ i _=>n-(intOf i).toNat)
 case atStart=>exact⟨0,0,zL _,rfl,rfl,by unfold Zv;omega,uP _,Z_ rfl⟩
 case round=>
  obtain⟨k,d,hk,rfl,rfl,hd,O,HA⟩:=hrel;have HX:=Z_ O;obtain⟨hd1,hd2⟩:=hd
  by_cases ad:k<n
  ·obtain⟨p,hp⟩:=ZN (l:=ls) (j:=k) (by rw[<-HN.o];exact ad);obtain⟨bl,off,vp,rfl,-,hn1,hm1,hSb,h1,h2⟩:=(H.o.ext O hS).cellAt hp;have X:=Z_ (HR.o p (zP hp));have K:=Z_ (G3 (c:=d) hp);have C1:=Z_ (Th (S:=S) vp p wr h2 (ZM hS O) X.o);have C2:=Z_ (λ(Y:World) (hY:Ext wr Y)=>Wy (S:=S) vp p Y (h2.to (uM hY (ZM hS O)) (λ _ h=>h)) (λ k hk=>zU (ZM hS O k hk) hY.size) X.o);have ac:0<=ZL (Zt p)/\ZL (Zt p)<=200:=VK (UL p);generalize ZL (Zt p)=lc at C1 K ac;generalize ZR p=mp at C2 K;obtain⟨hc1,hc2⟩:=ac;obtain⟨ap,cp,rfl⟩:=h2.form;obtain⟨np,Z⟩:∃n,n=p.length:=⟨_,rfl⟩
   rw[<-Z]at C1 C2 h1;clear h2 hp O Z
   cases mp with
   |false=>
    go_wp2_with fail;(with_reducible refine C1.o.mono ?_);rintro e w2 ⟨rfl,y⟩;have z:=Z_ y;clear y;go_wp2_with fail;(with_reducible refine(C2.o _ z.o).mono ?_);rintro e w3 ⟨rfl,D⟩;have J:=Z_ ((HX.o.trans z.o).trans D);clear D;go_wp2
    all_goals
     go_ret;exact⟨by rw[<-HA.o,K.o];rfl,J.o⟩
   |true=>
    by_cases aa:d<lc
    ·have q1:decide (lc<=d)=false:=decide_eq_false (by omega);have I:Hd (YH d (ls.drop k)=YH lc (ls.drop (k+1))):=Z_ (by rw[K.o,decide_eq_true aa];rfl);go_wp2_with fail;(with_reducible refine C1.o.mono ?_);rintro e w2 ⟨rfl,y⟩;have z:=Z_ y;clear y;go_wp2_with fail;(with_reducible refine(C2.o _ z.o).mono ?_);rintro e w3 ⟨rfl,D⟩;have J:=Z_ ((HX.o.trans z.o).trans D);clear D;go_wp2
     go_roundw
     case rel=>exact⟨k+1,lc,by omega,by go_num,rfl,by unfold Zv;omega,J.o,Z_ (I.o.symm.trans HA.o)⟩
     case measure=>simp only[intOf];omega
    ·have q1:decide (lc<=d)=true:=decide_eq_true (by omega);have I:Hd (YH d (ls.drop k)=false):=Z_ (by rw[K.o,decide_eq_false aa];rfl);go_wp2_with fail;(with_reducible refine C1.o.mono ?_);rintro e w2 ⟨rfl,y⟩;have z:=Z_ y;clear y;go_wp2_with fail;(with_reducible refine(C2.o _ z.o).mono ?_);rintro e w3 ⟨rfl,D⟩;have J:=Z_ ((HX.o.trans z.o).trans D);clear D;go_wp2
     all_goals
      go_ret;exact⟨by rw[<-HA.o,I.o];rfl,J.o⟩
  ·obtain rfl:k=n:=by omega
   have HE:Hd (YH 0 ls=true):=Z_ (by rw[<-HA.o,HN.o,xN];rfl);clear O;go_wp2
   all_goals
    go_ret;exact⟨by rw[HE.o];rfl,HX.o⟩
end
section
open Go.RowKit
def Ints(S:Nat->Prop)(w:World)(v:Value)(ns:List Int):Prop :=
 ∃b off,z3r S v ns.length b off/\∀j n,ns[j]? = some n->Zv n/\w.cell? ⟨b,off+j,none⟩=some (.int .i64 n)
section
variable {S S':Nat->Prop} {w w':World} {v:Value} {ns:List Int}
theorem Ints.form(h:Ints S w v ns):∃a cap,v=.slice a ns.length cap:=by
 obtain⟨b,off,⟨a,cap,h1,_⟩,_⟩:=h;exact⟨a,cap,h1⟩
theorem Ints.to(h:Ints S w v ns)(hk:Kept S w w')(hS:∀k,S k->S' k):Ints S' w' v ns:=by
 obtain⟨b,off,hs,hc⟩:=h;exact⟨b,off,hs.mono hS,λ j n hj=>⟨(hc j n hj).1,hk.cell (hs.in (Zy hj)) (hc j n hj).2⟩⟩
theorem Ints.cellAt{a:Option Addr}{m cap k:Nat}{n:Int}(h:Ints S w (.slice a m cap) ns)(hn:ns[k]? = some n) :
  ∃b off,a=some ⟨b,off,none⟩/\m=ns.length/\m<=cap/\cap<=9223372036854775807/\S b/\Zv n/\w.cell? ⟨b,off+k,none⟩=some (.int .i64 n):=by
 obtain⟨b,off,⟨a',y,K,J,D,U,O⟩,I⟩:=h;obtain⟨rfl,rfl,rfl⟩:a=a'/\m=ns.length/\cap=y:=by simpa using K
 have z:0<ns.length:=by have:=Zy hn;omega
 exact⟨b,off,U z,rfl,J,D,O z,I k n hn⟩
end
theorem Re{l:List PZ}{k:Nat}(hk:k<l.length):(l.map Z5)[k]? = some (Z5 (l.getD k [])):=by
 rw[yZ,zi hk,zH,zi hk];rfl
end
section
open Go.RowKit
theorem Pa{o:Option Nat}{keep:Bool}{g h:PZ}{v d:Int}:∀(k:Nat) (s:MSt) (q r:PZ) (n:Nat),(runD o keep g h v d k s q r n).n<=n+k:=by
 intro k
 induction k with
 |zero=>intros;exact zR _
 |succ k ih=>
  intro s q r n;rw[runD]
  split
  ·exact Nat.le_add_right _ _
  split
  ·exact zL _
  split
  ·exact zL _
  split
  ·exact zL _
  split
  ·exact zL _
  ·exact zT (ih _ _ _ _) (by omega)
theorem GT{o:Option Nat}{keep:Bool}{s:MSt}{f g:PZ}{v:Int}(hf:ZD f):(ZA o keep s f g v).n<=10001:=by
 have h:(ZA o keep s f g v).n<=0+_:=Pa _ _ _ _ _;have h2:=XW hf v;omega
structure RedStep (o:Option Nat) (keep:Bool) (p r:PZ) (s:MSt):Prop where
 ex:∃A T B M:Nat,Fit A T p/\A<24/\B<=40000/\1<=T/\T<=1000000/\2*T*M<=1000000000000/\z7q o keep p (Zz p (ZL p)) (ZL p) (degP p (ZL p)) B M ((degP r (ZL p)).toNat+1) s [] r
 lead:1<=ZL p/\ZL p<=200
 deg:1<=degP p (ZL p)
def rowI(ns:List Int):Nat->Value:=λ j=>.int .i64 (ns.getD j 0)
theorem EX{w:World}{T:TypeId}{n g:Nat}{ns:List Int}(h:w.rowIs g T n (rowI ns))(k:Nat)(z:Int)(hk:k<ns.length):(w.setCell ⟨g,k,none⟩ (.int .i64 z)).rowIs g T n (rowI (ns.set k z)):=by
 refine(h.set k (.int .i64 z)).congr (λ i hi=>?_);unfold rowI;simp only[zH,xV]
 by_cases e:i=k
 ·subst e;simp[hk]
 ·rw[if_neg e,if_neg (λ h=>e h.symm)]
theorem Ints.of_row{w:World}{T:TypeId}{g m:Nat}{ns:List Int}{S:Nat->Prop}(h:w.rowIs g T m (rowI ns))(hn:ns.length=m)(hi:∀z∈ns,Zv z)(hm:m<=maxLen)(hS:S g):Ints S w (.slice (some ⟨g,0,none⟩) m m) ns:=by
 refine⟨g,0,⟨_,m,by rw[hn],by omega,hm,λ _=>rfl,λ _=>hS⟩,λ j n hj=>⟨hi n (zP hj),?_⟩⟩;have hl:=Zy hj;rw[zr,h.cell (i:=j) (by omega)];unfold rowI;rw[zH,hj];rfl
end
section
open Go.RowKit
def cofD(o:Option Nat)(P:PZ)(m:Nat):Nat->MSt->List PZ->Int×MSt×List PZ
 |0,s,cs=>(0,s,cs)
 |q+1,s,cs=>
  if(z1b o s ((ZI (cs.getD (m-(q+1)) []) P).getD [])).1≠0 then((z1b o s ((ZI (cs.getD (m-(q+1)) []) P).getD [])).1,(z1b o s ((ZI (cs.getD (m-(q+1)) []) P).getD [])).2,[])
  else cofD o P m q (z1b o s ((ZI (cs.getD (m-(q+1)) []) P).getD [])).2 (cs.set (m-(q+1)) ((ZI (cs.getD (m-(q+1)) []) P).getD []))
structure CofStep (c P:PZ):Prop where
 ex:∃k n l m:Nat,Fit k n c/\Fit l m P/\(k<24∨l<24)/\k<=40000/\l<=40000/\n<=1000000000000/\m<=1000000000000/\n*m<=1000000000000
 some:ZI c P=some ((ZI c P).getD [])
def zji(o:Option Nat)(P:PZ)(m:Nat):Nat->MSt->List PZ->Prop
 |0,_,_=>True
 |q+1,s,cs=>CofStep (cs.getD (m-(q+1)) []) P/\((z1b o s ((ZI (cs.getD (m-(q+1)) []) P).getD [])).1=0->zji o P m q (z1b o s ((ZI (cs.getD (m-(q+1)) []) P).getD [])).2 (cs.set (m-(q+1)) ((ZI (cs.getD (m-(q+1)) []) P).getD [])))
def YF(o:Option Nat)(w:Bool)(p:PZ)(m k:Nat)(D:DRes)(cs:List PZ):Int×MSt×List PZ :=
 if D.e≠0 then(D.e,D.s,[]) else
 if D.n=0∨w=false then(0,D.s,cs.set k D.q) else
 if(z1b o D.s ((powN (Y_ p) D.n).getD [])).1≠0 then((z1b o D.s ((powN (Y_ p) D.n).getD [])).1,(z1b o D.s ((powN (Y_ p) D.n).getD [])).2,[])
 else cofD o ((powN (Y_ p) D.n).getD []) m (m-(k+1)) (z1b o D.s ((powN (Y_ p) D.n).getD [])).2 (cs.set k D.q)
structure RoundFit (o:Option Nat) (p:PZ) (m k:Nat) (D:DRes) (cs:List PZ):Prop where
 hn:D.n<=100
 pow:powN (Y_ p) D.n=some ((powN (Y_ p) D.n).getD [])
 ex:∃A T:Nat,Fit A T p/\A<24/\1<=T/\T<=1000000000000/\T^D.n<=1000000000000
 cof:(z1b o D.s ((powN (Y_ p) D.n).getD [])).1=0->zji o ((powN (Y_ p) D.n).getD []) m (m-(k+1)) (z1b o D.s ((powN (Y_ p) D.n).getD [])).2 (cs.set k D.q)
abbrev Zd(o:Option Nat)(w:Bool)(ls:List PZ)(k:Nat)(s:MSt)(r:PZ):DRes:=ZA o w s r (ls.getD k []) (ZL (ls.getD k []))
def Xe(o:Option Nat)(w:Bool)(ls:List PZ):Nat->MSt->PZ->List Int->List PZ->Int×MSt×PZ×List Int×List PZ
 |0,s,r,ns,cs=>(0,s,r,ns,cs)
 |k+1,s,r,ns,cs=>
  if(YF o w (ls.getD k []) ls.length k (Zd o w ls k s r) cs).1≠0 then((YF o w (ls.getD k []) ls.length k (Zd o w ls k s r) cs).1,(YF o w (ls.getD k []) ls.length k (Zd o w ls k s r) cs).2.1,[],[],[])
  else Xe o w ls k (YF o w (ls.getD k []) ls.length k (Zd o w ls k s r) cs).2.1 (Zd o w ls k s r).r (ns.set k ((Zd o w ls k s r).n:Int)) (YF o w (ls.getD k []) ls.length k (Zd o w ls k s r) cs).2.2
def Wx(o:Option Nat)(w:Bool)(ls:List PZ):Nat->MSt->PZ->List PZ->Prop
 |0,_,_,_=>True
 |k+1,s,r,cs=>
  RedStep o w (ls.getD k []) r s/\((Zd o w ls k s r).e=0->(Zd o w ls k s r).n≠0->w=true->RoundFit o (ls.getD k []) ls.length k (Zd o w ls k s r) cs) /\
  ((YF o w (ls.getD k []) ls.length k (Zd o w ls k s r) cs).1=0->Wx o w ls k (YF o w (ls.getD k []) ls.length k (Zd o w ls k s r) cs).2.1 (Zd o w ls k s r).r (YF o w (ls.getD k []) ls.length k (Zd o w ls k s r) cs).2.2)
theorem DL{o:Option Nat}{P:PZ}{m:Nat}:∀(q:Nat) (s:MSt) (cs:List PZ),(cofD o P m q s cs).1=0->(cofD o P m q s cs).2.2.length=cs.length:=by
 intro q
 induction q with
 |zero=>intros;rfl
 |succ q ih=>
  intro s cs h;rw[cofD]at h⊢
  split
  ·rename_i h0
   rw[if_pos h0]at h;exact absurd h h0
  ·rename_i h0
   rw[if_neg h0]at h;rw[ih _ _ h,yy]
theorem II{o:Option Nat}{w:Bool}{p:PZ}{m k:Nat}{D:DRes}{cs:List PZ}(h:(YF o w p m k D cs).1=0):(YF o w p m k D cs).2.2.length=cs.length:=by
 unfold YF at h⊢
 split
 ·rename_i h0
  rw[if_pos h0]at h;exact absurd h h0
 rename_i h0
 rw[if_neg h0]at h
 split
 ·exact yy
 rename_i h1
 rw[if_neg h1]at h
 split
 ·rename_i h2
  rw[if_pos h2]at h;exact absurd h h2
 ·rename_i h2
  rw[if_neg h2]at h;rw[DL _ _ _ h,yy]
end
section
open Go.RowKit
def Za(o:Option Nat)(st:Int×MSt)(p q:PZ):(Int×MSt)×PZ :=
 if st.1≠0 then(st,[]) else match ZI p q with
 |some r=>((0,st.2),r)
 |none=>((8,W_ o st.2),[])
def Xl(o:Option Nat)(st:Int×MSt)(p:PZ):Int×MSt:=if st.1≠0 then st else z1b o st.2 p
def Wt(st:Int×MSt)(p q:PZ):Prop:=st.1=0->∃k n l m:Nat,Fit k n p/\Fit l m q/\k<=1000000/\l<=1000000/\n*m<=1000000000000
def Qj(p q:PZ):Prop:=∃k n l m:Nat,Fit k n p/\Fit l m q/\k<=1000000/\l<=1000000/\n+m<=1000000000000/\n<=1000000000000/\m<=1000000000000
def QP(o:Option Nat)(x:PZ)(a:(Int×MSt)×PZ):(Int×MSt)×PZ:=(Xl o (Za o a.1 a.2 x).1 (Za o a.1 a.2 x).2,(Za o a.1 a.2 x).2)
def Yu(o:Option Nat)(x:PZ)(a:(Int×MSt)×PZ):Nat->(Int×MSt)×PZ
 |0=>a
 |n+1=>QP o x (Yu o x a n)
def z9d(o:Option Nat)(l:List (PZ×Int))(a:(Int×MSt)×PZ):(Int×MSt)×PZ:=l.foldl (λ a z=>Yu o (Y_ z.1) a z.2.toNat) a
theorem iO_{o:Option Nat}{l:List (PZ×Int)}{a:(Int×MSt)×PZ}{i:Nat}{z:PZ×Int}(h:l[i]? = some z):z9d o (l.take (i+1)) a=Yu o (Y_ z.1) (z9d o (l.take i) a) z.2.toNat:=by
 rw[zv,h];simp[z9d,List.foldl_append]
def Od(o:Option Nat)(l:List (PZ×Int))(a:(Int×MSt)×PZ):Prop :=
 ∀i z,l[i]? = some z->∀j,j<z.2.toNat->Wt (Yu o (Y_ z.1) (z9d o (l.take i) a) j).1 (Yu o (Y_ z.1) (z9d o (l.take i) a) j).2 (Y_ z.1)
def Wv(o:Option Nat)(st:Int×MSt)(by' tm:PZ)(N own:Int):(Int×MSt)×PZ:=Za o (Za o st by' (ZO (N / own) [])).1 (Za o st by' (ZO (N / own) [])).2 tm
def U7(o:Option Nat)(st:Int×MSt)(by' tm:PZ)(N own:Int):Prop:=Wt st by' (ZO (N / own) [])/\Wt (Za o st by' (ZO (N / own) [])).1 (Za o st by' (ZO (N / own) [])).2 tm
def S_(o:Option Nat)(N:Int)(i:Nat)(a:(Int×MSt)×PZ)(z:DZ×PZ):(Int×MSt)×PZ :=
 ((Wv o a.1 (z.1.By.getD i []) z.2 N z.1.N).1,Zr (a.2++ZP (Wv o a.1 (z.1.By.getD i []) z.2 N z.1.N).2))
def sumK(o:Option Nat)(N:Int)(i:Nat)(gs:List (DZ×PZ))(a:(Int×MSt)×PZ):(Int×MSt)×PZ:=gs.foldl (S_ o N i) a
theorem Ga{o:Option Nat}{N:Int}{i:Nat}{gs:List (DZ×PZ)}{a:(Int×MSt)×PZ}{k:Nat}{z:DZ×PZ}(h:gs[k]? = some z):sumK o N i (gs.take (k+1)) a=S_ o N i (sumK o N i (gs.take k) a) z:=by
 rw[zv,h];simp[sumK,List.foldl_append]
def V6(o:Option Nat)(f:DZ)(h:PZ)(N:Int)(i:Nat)(st:Int×MSt):(Int×MSt)×PZ:=Wv o st (f.By.getD i []) h N f.N
def rowK(o:Option Nat)(f:DZ)(gs:List (DZ×PZ))(h:PZ)(N:Int):Nat->(Int×MSt)->(Int×MSt)×List PZ
 |0,st=>(st,[])
 |i+1,st=>
  let a:=sumK o N i gs (V6 o f h N i (rowK o f gs h N i st).1)
  (Xl o a.1 a.2,(rowK o f gs h N i st).2 ++ [a.2])
theorem Ky{o:Option Nat}{f:DZ}{gs:List (DZ×PZ)}{h:PZ}{N:Int}{st:Int×MSt}:∀i,(rowK o f gs h N i st).2.length=i:=by
 intro i
 induction i with
 |zero=>rfl
 |succ i ih=>simp[rowK,ih]
structure RowFit (o:Option Nat) (f:DZ) (gs:List (DZ×PZ)) (h:PZ) (N:Int) (st:Int×MSt):Prop where
 a:∀i,i<f.By.length->U7 o (rowK o f gs h N i st).1 (f.By.getD i []) h N f.N
 b:∀i,i<f.By.length->∀k z,gs[k]? = some z->U7 o (sumK o N i (gs.take k) (V6 o f h N i (rowK o f gs h N i st).1)).1 (z.1.By.getD i []) z.2 N z.1.N /\
  Qj (sumK o N i (gs.take k) (V6 o f h N i (rowK o f gs h N i st).1)).2 (Wv o (sumK o N i (gs.take k) (V6 o f h N i (rowK o f gs h N i st).1)).1 (z.1.By.getD i []) z.2 N z.1.N).2
def z18(l:List DZ):Nat:=l.foldl (λ n d=>n*(d.N.natAbs / Nat.gcd d.N.natAbs n)) 1
theorem Kg{l:List DZ}{j:Nat}{d:DZ}(h:l[j]? = some d):z18 (l.take (j+1))=z18 (l.take j)*(d.N.natAbs / Nat.gcd d.N.natAbs (z18 (l.take j))):=by
 rw[zv,h];simp[z18,List.foldl_append]
theorem Lv{n:Nat}{d:Nat}:n∣n*(d / Nat.gcd d n)/\d∣n*(d / Nat.gcd d n):=by
 refine⟨Nat.dvd_mul_right _ _,?_⟩;rw[<-Nat.mul_div_assoc _ (wQ d n),zq n d,Nat.mul_div_assoc _ (wj d n)];exact Nat.dvd_mul_right _ _
theorem K5(l:List DZ):∀n:Nat,n∣l.foldl (λ n d=>n*(d.N.natAbs / Nat.gcd d.N.natAbs n)) n/\∀d∈l,d.N.natAbs∣l.foldl (λ n d=>n*(d.N.natAbs / Nat.gcd d.N.natAbs n)) n:=by
 induction l with
 |nil=>intro n;exact⟨Nat.dvd_refl _,λ d y=>by cases y⟩
 |cons x r ih=>
  intro n;obtain⟨z,D⟩:=ih (n*(x.N.natAbs / Nat.gcd x.N.natAbs n));refine⟨vD Lv.1 z,λ d y=>?_⟩
  rcases zJ.1 y with rfl|y
  ·exact vD Lv.2 z
  ·exact D d y
theorem Li{l:List DZ}{d:DZ}(h:d∈l):d.N∣(z18 l:Int):=Int.natAbs_dvd.1 (xe.2 ((K5 l 1).2 d h))
theorem Ez(l:List DZ)(j:Nat):z18 (l.take j)∣z18 l:=by
 have h:z18 l=(l.drop j).foldl (λ n d=>n*(d.N.natAbs / Nat.gcd d.N.natAbs n)) (z18 (l.take j)):=by
  conv=>lhs;rw[<-y_ j l]
  unfold z18;rw[xp]
 rw[h];exact(K5 _ _).1
theorem OJ{l:List DZ}(h:∀d∈l,0<d.N):0<z18 l:=by
 have y:∀(l:List DZ),(∀d∈l,0<d.N)->∀n:Nat,0<n->0<l.foldl (λ n d=>n*(d.N.natAbs / Nat.gcd d.N.natAbs n)) n:=by
  intro l
  induction l with
  |nil=>intro _ n z;exact z
  |cons x r ih=>
   intro h n z;refine ih (λ d hd=>h d (yX _ hd)) _ (vG z ?_);have h1:=h x (zz ..);exact Nat.div_pos (xA (by omega) (wQ _ _)) (Nat.gcd_pos_of_pos_left _ (by omega))
 exact y l h 1 (by decide)
abbrev Zw(o:Option Nat)(s:MSt)(f:DZ)(ls:List DZ):Int×MSt×PZ×List Int×List PZ :=
 Xe o true (ls.map DZ.P) ls.length s f.P (List.replicate ls.length 0) (List.replicate ls.length [])
def Xz(o:Option Nat)(s:MSt)(f:DZ)(ls:List DZ):(Int×MSt)×PZ :=
 z9d o ((ls.map DZ.P).zip (Zw o s f ls).2.2.2.1) ((0,(Zw o s f ls).2.1),ZO 1 [])
def YN(o:Option Nat)(s:MSt)(f:DZ)(ls:List DZ):(Int×MSt)×List PZ :=
 rowK o f (ls.zip (Zw o s f ls).2.2.2.2) (Xz o s f ls).2 (z18 (f :: ls)) f.By.length (Xz o s f ls).1
def WI(o:Option Nat)(s:MSt)(f:DZ)(ls:List DZ):DZ:=⟨z18 (f :: ls),(Zw o s f ls).2.2.1,(YN o s f ls).2⟩
def YP(o:Option Nat)(s:MSt)(f:DZ)(ls:List DZ):Int×MSt×DZ :=
 if(Zw o s f ls).1≠0 then((Zw o s f ls).1,(Zw o s f ls).2.1,⟨0,[],[]⟩)
 else if(YN o s f ls).1.1≠0 then((YN o s f ls).1.1,(YN o s f ls).1.2,⟨0,[],[]⟩)
 else(0,(YN o s f ls).1.2,WE (WI o s f ls))
structure DOk (d:DZ) (m:Nat):Prop where
 pos:0<d.N
 len:ZX d.N<=100000
 P:∃k n:Nat,Fit k n d.P/\k<=100000/\n<=1000000000
 B:∃k n:Nat,(∀b∈d.By,Fit k n b)/\k<=100000/\n<=100000000000
 m:d.By.length=m
def P3(d:DZ):Prop:=∃k n K:Nat,Fit k n d.P/\(∀b∈d.By,Fit k n b)/\1<=k/\ZX d.N<=K/\K+k<=900000/\n<=100000000000
structure RestQFit (o:Option Nat) (s:MSt) (f:DZ) (ls:List DZ):Prop where
 hm:f.By.length<=1000000
 hl:ls.length<=1000
 hf:DOk f f.By.length
 hls:∀d∈ls,DOk d f.By.length
 may:YH 0 ((ls.map DZ.P).map Z5)=true
 rest:Wx o true (ls.map DZ.P) ls.length s f.P (List.replicate ls.length [])
 least:ZX (z18 (f :: ls):Int)<=100000
 heads:(Zw o s f ls).1=0->Od o ((ls.map DZ.P).zip (Zw o s f ls).2.2.2.1) ((0,(Zw o s f ls).2.1),ZO 1 [])
 pows:∀n∈(Zw o s f ls).2.2.2.1,n<=1000000
 row:(Zw o s f ls).1=0->RowFit o f (ls.zip (Zw o s f ls).2.2.2.2) (Xz o s f ls).2 (z18 (f :: ls)) (Xz o s f ls).1
 short:(Zw o s f ls).1=0->(YN o s f ls).1.1=0->P3 (WI o s f ls)
theorem Jj{o:Option Nat}{w:Bool}{ls:List PZ}:∀(k:Nat) (s:MSt) (r:PZ) (ns:List Int) (cs:List PZ),(Xe o w ls k s r ns cs).1=0->(Xe o w ls k s r ns cs).2.2.2.1.length=ns.length/\(Xe o w ls k s r ns cs).2.2.2.2.length=cs.length:=by
 intro k
 induction k with
 |zero=>intros;exact⟨rfl,rfl⟩
 |succ k ih=>
  intro s r ns cs;rw[Xe]
  split
  ·intro h;rename_i h1;exact absurd h h1
  ·rename_i h1
   intro h;have y:=ih _ _ _ _ h;rw[II (zx.1 h1),yy]at y;exact y
theorem A5{o:Option Nat}{s:MSt}{f:DZ}{ls:List DZ}(h:(Zw o s f ls).1=0):(Zw o s f ls).2.2.2.1.length=ls.length/\(Zw o s f ls).2.2.2.2.length=ls.length:=by
 have h2:=Jj _ _ _ _ _ h
 rwa [xQ,xQ]at h2
end
section
open Go.RowKit
def X9(m i:Nat):List PZ:=(List.replicate m []).set i (ZO 1 [])
def Zo(ps:List PZ)(i:Nat):DZ:=WE ⟨1,ps.getD i [],X9 ps.length i⟩
def ZY(d:DZ):Int:=ZL d.P
def YX(v:Int)(f g:DZ):DZ×DZ:=if degP f.P v<degP g.P v then(g,f) else(f,g)
def YB(o:Option Nat)(s:MSt)(f g:DZ):Int×MSt×List DZ :=
 if ZY f≠ZY g then(0,s,if ZY f=max (ZY f) (ZY g) then [g,f] else [f,g])
 else if ZY f=0 then(0,s,[f,g])
 else if(YP o s (YX (ZY f) f g).1 [(YX (ZY f) f g).2]).1≠0 then((YP o s (YX (ZY f) f g).1 [(YX (ZY f) f g).2]).1,(YP o s (YX (ZY f) f g).1 [(YX (ZY f) f g).2]).2.1,[])
 else(0,(YP o s (YX (ZY f) f g).1 [(YX (ZY f) f g).2]).2.1,[(YP o s (YX (ZY f) f g).1 [(YX (ZY f) f g).2]).2.2,(YX (ZY f) f g).2])
def zan(x:Int):List Int->Nat
 | []=>0
 |y :: r=>if y=x then zan x r+1 else 0
theorem OO(x:Int):∀l,zan x l<=l.length:=by
 intro l
 induction l with
 |nil=>exact zR _
 |cons y r ih=>
  rw[zan]
  split
  ·simp only[zM];omega
  ·exact zL _
theorem A0{x:Int}:∀{l:List Int} {j:Nat},j<zan x l->l[j]? = some x:=by
 intro l
 induction l with
 |nil=>intro j h;exact absurd h (uX _)
 |cons y r ih=>
  intro j h;rw[zan]at h
  split at h
  ·rename_i e
   subst e
   cases j with
   |zero=>rfl
   |succ j=>rw[yO];exact ih (by omega)
  ·exact absurd h (uX _)
theorem Je{x y:Int}:∀{l:List Int},l[zan x l]? = some y->y≠x:=by
 intro l
 induction l with
 |nil=>intro h;simp at h
 |cons z r ih=>
  rw[zan]
  split
  ·intro h;rw[yO]at h;exact ih h
  ·rename_i e
   intro h;obtain rfl:z=y:=by simpa using h
   exact e
def Zc(pts:List Int)(at':Nat):Nat:=at'+zan (pts.getD at' 0) (pts.drop at')
def ownT(ps:List PZ)(pts:List Int)(at':Nat):List DZ:=(List.range (Zc pts at'-at')).map λ j=>Zo ps (at'+j)
def Yd(o:Option Nat)(s:MSt)(own:List DZ):Int×MSt×List DZ :=
 match own with
 | [f,g]=>YB o s f g
 |_=>(0,s,own)
def Yw(many:Nat):List DZ->List DZ×Int->Bool×(List DZ×Int)
 | [],a=>(true,a)
 |d :: r,a=>if 2<many∨ZY d<=a.2 then(false,a) else Yw many r (a.1 ++ [d],ZY d)
def triL(o:Option Nat)(ps:List PZ)(pts:List Int):Nat->Nat->List DZ×Int->MSt->Int×MSt×List DZ×Int
 |0,_,_,s=>(0,s,[],0)
 |k+1,at',a,s=>
  if pts.length<=at' then(0,s,a.1,-1)
  else if(Yd o s (ownT ps pts at')).1≠0 then((Yd o s (ownT ps pts at')).1,(Yd o s (ownT ps pts at')).2.1,[],0)
  else if(Yw (Yd o s (ownT ps pts at')).2.2.length (Yd o s (ownT ps pts at')).2.2 a).1=false then(0,(Yd o s (ownT ps pts at')).2.1,[],pts.getD at' 0)
  else triL o ps pts k (Zc pts at') (Yw (Yd o s (ownT ps pts at')).2.2.length (Yd o s (ownT ps pts at')).2.2 a).2 (Yd o s (ownT ps pts at')).2.1
def Zb(o:Option Nat)(s:MSt)(ps:List PZ)(pts:List Int):Int×MSt×List DZ×Int:=triL o ps pts (pts.length+1) 0 ([],0) s
def T9(o:Option Nat)(s:MSt)(f g:DZ):Prop:=ZY f=ZY g->ZY f≠0->RestQFit o s (YX (ZY f) f g).1 [(YX (ZY f) f g).2]
def Ur(o:Option Nat)(ps:List PZ)(I:MSt->Prop):Prop:=∀s i,I s->i+1<ps.length->T9 o s (Zo ps i) (Zo ps (i+1))/\((YB o s (Zo ps i) (Zo ps (i+1))).1=0->I (YB o s (Zo ps i) (Zo ps (i+1))).2.1)
end
section
open Go.RowKit
def Hyps(S:Nat->Prop)(w:World)(v:Value)(l:List (List RTerm×Int)):Prop :=
 ∃b off,z3r S v l.length b off/\∀j h,l[j]? = some h->Zv h.2/\∃vp,w.cell? ⟨b,off+j*2,none⟩=some vp/\w.cell? ⟨b,off+j*2+1,none⟩=some (.int .i64 h.2)/\z06 S w vp h.1
section
variable {S S':Nat->Prop} {w w':World} {v:Value} {l:List (List RTerm×Int)}
theorem Hyps.form(h:Hyps S w v l):∃a cap,v=.slice a l.length cap:=by
 obtain⟨b,off,⟨a,cap,h1,_⟩,_⟩:=h;exact⟨a,cap,h1⟩
theorem Hyps.to(h:Hyps S w v l)(hk:Kept S w w')(hS:∀k,S k->S' k):Hyps S' w' v l:=by
 obtain⟨b,off,hs,hc⟩:=h;refine⟨b,off,hs.mono hS,λ j t hj=>?_⟩;obtain⟨hi,vp,h1,h2,h3⟩:=hc j t hj;have hb:=hs.in (Zy hj);exact⟨hi,vp,hk.cell hb h1,hk.cell hb h2,h3.to hk hS⟩
theorem Hyps.ext{W:World}(h:Hyps S w v l)(hx:Ext w W)(hS:∀k,S k->k<w.heap.size):Hyps S W v l:=h.to (uM hx hS) (λ _ h=>h)
theorem Hyps.len_le(h:Hyps S w v l):l.length<=9223372036854775807:=by
 obtain⟨b,off,⟨a,cap,h1,h2,h3,_⟩,_⟩:=h;unfold maxLen at h3;omega
theorem Hyps.cellAt{a:Option Addr}{n cap k:Nat}{h:List RTerm×Int}(H:Hyps S w (.slice a n cap) l)(hh:l[k]? = some h) :
  ∃b off vp,a=some ⟨b,off,none⟩/\n=l.length/\n<=cap/\cap<=9223372036854775807/\S b/\Zv h.2/\w.cell? ⟨b,off+k*2,none⟩=some vp/\w.cell? ⟨b,off+k*2+1,none⟩=some (.int .i64 h.2)/\z06 S w vp h.1:=by
 obtain⟨b,off,⟨a',y,K,J,D,U,O⟩,I⟩:=H;obtain⟨rfl,rfl,rfl⟩:a=a'/\n=l.length/\cap=y:=by simpa using K
 have z:0<l.length:=by have:=Zy hh;omega
 obtain⟨hi,vp,g⟩:=I k h hh;exact⟨b,off,vp,U z,rfl,J,D,O z,hi,g⟩
end
def Ze:List (List RTerm×Int)->Int->Bool
 | [],_=>true
 |h :: r,y=>ZR h.1 && decide (y<=h.2) && Ze r h.2
def Wd(l:List (List RTerm×Int))(k:Nat):Int:=if k=0 then 0 else(l.getD (k-1) ([],0)).2
theorem Nm{S:Nat->Prop}(v:Value)(l:List (List RTerm×Int))(w:World)(h:Hyps S w v l)(hS:∀k,S k->k<w.heap.size)(hs:∀h∈l,Yk h.1) :
  Calls Tryz.prog 19 #[v] w λ e w'=>e=.returned (.bool (Ze l 0))/\Ext w w':=by
 have hnot:∀(x:Bool) (w:World),(Op.unary .not (.bool x)).run Tryz.prog w=.ok (.bool (!x)) w:=λ _ _=>rfl;have H:=Z_ h;have az:=h.len_le;have HS:=Z_ hS;have aA:=Z_ hs;obtain⟨a,cap,rfl⟩:=h.form;obtain⟨n,aa⟩:∃n,n=l.length:=⟨_,rfl⟩
 rw[<-aa]at H az⊢;have HN:=Z_ aa;clear h aa hS hs
 go_enter Tryz.func19,Tryz.ntmps19
 go_wp2
 go_loopw [7] (λ i wr=>∃k:Nat,k<=n/\i=.int .i64 (k:Nat)/\Hd (Ext w wr)/\Hd (Ze l 0=Ze (l.drop k) (Wd l k))/\Hd (0<=Wd l k)) (λ i _=>n-(intOf i).toNat)
 case atStart=>exact⟨0,zL _,rfl,Z_ (uP _),Z_ rfl,Z_ (by unfold Wd;rw[if_pos rfl];exact yi _)⟩
 case round=>
  obtain⟨k,hk,rfl,U,HM,ah⟩:=hrel
  by_cases ax:k<n
  ·obtain⟨⟨p,x⟩,hp⟩:=ZN (l:=l) (j:=k) (by rw[<-HN.o];exact ax);obtain⟨bl,off,vp,rfl,-,hn1,hm1,-,hi,h1,h2,h3⟩:=(H.o.ext U.o HS.o).cellAt hp;have J:Hd (Ze l 0=(ZR p && decide (Wd l k<=x) && Ze (l.drop (k+1)) x)):=Z_ (by rw[HM.o,Wh hp];rfl)
   have X:Hd (Wd l (k+1)=x):=Z_ (by
    unfold Wd;rw[if_neg (by omega),xD,zH,hp]
    rfl)
   have ac:Hd (k≠0->wr.cell? ⟨bl,off+(k-1)*2+1,none⟩=some (.int .i64 (Wd l k))):=Z_ (λ h0=>by
    obtain⟨⟨p',x'⟩,aj⟩:=ZN (l:=l) (j:=k-1) (by rw[<-HN.o];omega);obtain⟨ar,al,vp',e,-,-,-,-,-,-,g2,-⟩:=(H.o.ext U.o HS.o).cellAt aj;obtain⟨rfl,rfl⟩:bl=ar/\off=al:=by simpa using e
    have e2:Wd l k=x':=by
     unfold Wd;rw[if_neg h0,zH,aj];rfl
    rw[e2]
    exact g2)
   have au:=Z_ (aA.o _ (zP hp));simp only at h2 h3 hi;obtain⟨y,hy⟩:∃y,y=Wd l k:=⟨_,rfl⟩
   have ay:Hd (y=if k=0 then 0 else(l.getD (k-1) ([],0)).2):=Z_ hy;rw[<-hy]at J ah ac;obtain⟨t,ht⟩:∃t,t=ZR p:=⟨_,rfl⟩
   have CM:=Z_ (λ(Y:World) (hY:Ext wr Y)=>Wy vp p Y (h3.to (S':=Z2 Y) (uM hY (λ k hk=>zU (HS.o k hk) U.o.size)) (λ k hk=>zU (HS.o k hk) (U.o.trans hY).size)) (λ _ h=>h) au.o);rw[<-ht]at CM J;obtain⟨ap,cp,rfl⟩:=h3.form;obtain⟨np,ad⟩:∃n,n=p.length:=⟨_,rfl⟩
   rw[<-ad]at CM h1;obtain⟨wb,Z⟩:∃Y,Y=wr.alloc (.cells #[.slice ap np cp,.int .i64 x] 37):=⟨_,rfl⟩
   have K:Hd (Ext wr wb):=Z_ (by rw[Z];exact uO (uP _) _);have aq:=Z_ (show wb.cell? ⟨wr.heap.size,0,none⟩=some (.slice ap np cp)/\wb.cell? ⟨wr.heap.size,1,none⟩=some (.int .i64 x) from by rw[Z];exact⟨(uP _).new_cell rfl,(uP _).new_cell rfl⟩);have O:=Z_ (λ(Y:Later wb)=>CM.o Y.w' (K.o.trans Y.h));clear hp h3 hy ht ad CM
   go_upto_region 4 with fail
   rw[<-Z];clear Z h1 h2;have L0:=λ Y:Later wb=>Y.h.cell aq.o.1;have L1:=λ Y:Later wb=>Y.h.cell aq.o.2
   cases t with
   |false=>
    have z:Hd (Ze l 0=false):=Z_ (by rw[J.o];rfl);go_wp2;refine Zh (by kernel_rfl) (by kernel_rfl) ?_
    repeat (go_big_quiet_step (first|(go_at_call 30;with_reducible exact uL (O.o _))|fail))
    refine wpQuiet_nil ?_;intro W2 D;have I:=Z_ (U.o.trans (K.o.trans D));clear L0 L1 D;go_wp2
    all_goals
     go_ret;exact⟨by rw[z.o];rfl,I.o⟩
   |true=>
    by_cases ai:x<0
    ·have z:Hd (Ze l 0=false):=Z_ (by rw[J.o,show decide (y<=x)=false from decide_eq_false (by have:=ah.o;omega)];rfl);have q1:decide (x<0)=true:=decide_eq_true ai;go_wp2;refine Zh (by kernel_rfl) (by kernel_rfl) ?_
     repeat (go_big_quiet_step (first|(go_at_call 30;with_reducible exact uL (O.o _))|fail))
     refine wpQuiet_nil ?_;intro W2 D;have I:=Z_ (U.o.trans (K.o.trans D));clear L0 L1 D q1;go_wp2
     all_goals
      go_ret;exact⟨by rw[z.o];rfl,I.o⟩
    ·have q1:decide (x<0)=false:=decide_eq_false ai;have ag:Hd (0<=x):=Z_ (by omega)
     by_cases af:k=0
     ·have av:y<=x:=by
       have h:=ay.o;rw[if_pos af]at h;omega
      have z:Hd (Ze l 0=Ze (l.drop (k+1)) x):=Z_ (by rw[J.o,show decide (y<=x)=true from decide_eq_true av];rfl);have q2:decide ((0:Int)<(k:Int))=false:=decide_eq_false (by omega);have q3:¬ (0:Int)<(k:Int):=by omega
      go_wp2;refine Zh (by kernel_rfl) (by kernel_rfl) ?_
      repeat (go_big_quiet_step (first|(go_at_call 30;with_reducible exact uL (O.o _))|fail))
      refine wpQuiet_nil ?_;intro W2 D;have I:=Z_ (U.o.trans (K.o.trans D));clear L0 L1 D q1 q2 q3;go_wp2
      go_roundw
      case rel=>exact⟨k+1,by omega,by go_num,I,Z_ (by rw[X.o];exact z.o),Z_ (by rw[X.o];exact ag.o)⟩
      case measure=>simp only[intOf];omega
     ·have L2:=λ Y:Later wb=>Y.h.cell (K.o.cell (ac.o af));have q2:decide ((0:Int)<(k:Int))=true:=decide_eq_true (by omega);have q3:(0:Int)<(k:Int):=by omega
      have q8:decide (0<k)=true:=decide_eq_true (by omega);have q9:0<k:=by omega
      have q4:(0:Int)<=(k:Int)-1:=by omega
      have q5:((k:Int)-1).toNat=k-1:=by omega
      have q6:(k:Int)-1<(n:Int):=by omega
      by_cases ae:x<y
      ·have z:Hd (Ze l 0=false):=Z_ (by rw[J.o,show decide (y<=x)=false from decide_eq_false (by omega)];rfl);have q7:decide (x<y)=true:=decide_eq_true ae;go_wp2;refine Zh (by kernel_rfl) (by kernel_rfl) ?_
       repeat (go_big_quiet_step (first|(go_at_call 30;with_reducible exact uL (O.o _))|fail))
       refine wpQuiet_nil ?_;intro W2 D;have I:=Z_ (U.o.trans (K.o.trans D));clear L0 L1 L2 D q1 q2 q3 q4 q5 q6 q7 q8 q9;go_wp2
       all_goals
        go_ret;exact⟨by rw[z.o];rfl,I.o⟩
      ·have z:Hd (Ze l 0=Ze (l.drop (k+1)) x):=Z_ (by rw[J.o,show decide (y<=x)=true from decide_eq_true (by omega)];rfl);have q7:decide (x<y)=false:=decide_eq_false ae;go_wp2;refine Zh (by kernel_rfl) (by kernel_rfl) ?_
       repeat (go_big_quiet_step (first|(go_at_call 30;with_reducible exact uL (O.o _))|fail))
       refine wpQuiet_nil ?_;intro W2 D;have I:=Z_ (U.o.trans (K.o.trans D));clear L0 L1 L2 D q1 q2 q3 q4 q5 q6 q7 q8 q9;go_wp2
       go_roundw
       case rel=>exact⟨k+1,by omega,by go_num,I,Z_ (by rw[X.o];exact z.o),Z_ (by rw[X.o];exact ag.o)⟩
       case measure=>simp only[intOf];omega
  ·obtain rfl:k=n:=by omega
   have z:Hd (Ze l 0=true):=Z_ (by rw[HM.o,HN.o,xN];rfl);go_wp2
   all_goals
    go_ret;exact⟨by rw[z.o];rfl,U.o⟩
end
section
open Go.RowKit
def zfg(t:RTerm):Bool:=decide (2<t.c.mag.length) || t.m.any λ x=>decide (3<x.2)
def XO(ts:List RTerm):Bool:=WO 5 ts || ts.any zfg
def WU(ls:List (List RTerm×Int)):Bool:=(ls.any λ h=>XO h.1) || decide (5<ls.length)
theorem IM{W:World}{S:Nat->Prop}(v:Value)(ls:List (List RTerm×Int))(h:Hyps S W v ls)(hS:∀k,S k->k<W.heap.size) :
  Calls Tryz.prog 4 #[v] W λ e w'=>e=.returned (.bool (WU ls))/\Ext W w':=by
 have H:=Z_ h;have ba:=h.len_le;obtain⟨a,cap,rfl⟩:=h.form;obtain⟨n,aj⟩:∃n,n=ls.length:=⟨_,rfl⟩
 rw[<-aj]at H ba⊢;have HN:=Z_ aj;clear h aj
 go_enter Tryz.func4,Tryz.ntmps4
 go_wp2
 go_loopw [9] (λ i wr=>∃k:Nat,k<=n/\i=.int .i64 k/\Ext W wr/\Hd ((ls.take k).any (λ h=>XO h.1)=false)) (λ i _=>n-(intOf i).toNat)
 case atStart=>exact⟨0,zL _,rfl,uP _,Z_ rfl⟩
 case round=>
  obtain⟨k,hk,rfl,I,HA⟩:=hrel;have HX:=Z_ I
  by_cases a3:k<n
  ·obtain⟨⟨p,x⟩,hp⟩:=ZN (l:=ls) (j:=k) (by rw[<-HN.o];exact a3);obtain⟨bl,off,vp,rfl,-,hn1,hm1,hSb,hi,h1,av,h2⟩:=(H.o.ext I hS).cellAt hp;simp only at hi av h2;have aS:Hd (ls.take (k+1)=ls.take k ++ [(p,x)]):=Z_ (by rw[zv,hp];rfl);have ad:=Z_ (zP hp);obtain⟨wb,U⟩:∃Y,Y=wr.alloc (.cells #[vp,.int .i64 x] 37):=⟨_,rfl⟩
   have aF:Hd (Ext wr wb):=Z_ (by rw[U];exact uO (uP _) _);have aq:=Z_ (HX.o.trans aF.o);have ar:=Z_ (ZM hS aq.o);have bf:=h2.len_le;have ah:=h2.ext aF.o (ZM hS I);have C:=Ap (S:=S) vp p 5 wb ah ar.o (by omega);have HV:=Z_ ah;have au:wb.cell? ⟨wr.heap.size,0,none⟩=some vp:=by rw[U];exact(uP _).new_cell rfl
   obtain⟨ap,cp,rfl⟩:=h2.form;obtain⟨np,ac⟩:∃n,n=p.length:=⟨_,rfl⟩
   rw[<-ac]at HV C h1 bf au U;have aA:=Z_ ac;have Z:=Z_ au;clear h2 ah hp I ac au hi
   go_upto_region 4 with fail
   rw[<-U];clear U h1 av;obtain⟨bb,aC⟩:∃b,b=wr.heap.size:=⟨_,rfl⟩
   rw[<-aC]at Z⊢;clear aC;have e0:=Z.o
   cases hg:WO 5 p with
   |true=>
    rw[hg]at C;have X:Hd (WU ls=true):=Z_ (by unfold WU;rw[xX.2 ⟨(p,x),ad.o,by show XO p=true;unfold XO;rw[hg];rfl⟩];rfl);have HC:=Z_ C;clear C hg;go_wp2_with fail;(with_reducible refine HC.o.mono ?_);rintro e w1 ⟨rfl,y⟩;have af:=Z_ (aq.o.trans y);clear y;go_wp2
    all_goals
     go_ret;exact⟨by rw[X.o];rfl,af.o⟩
   |false=>
    rw[hg]at C;have HG:Hd (WO 5 p=false):=Z_ hg;have HC:=Z_ C;clear C hg;go_wp2_with fail;(with_reducible refine HC.o.mono ?_);rintro e w1 ⟨rfl,y⟩;have af:=Z_ (aq.o.trans y);have K:=Z_ y;have e1:=y.cell Z.o;clear y e0;go_wp2
    go_loopw [19] (λ i wy=>∃k:Nat,k<=np/\i=.int .i64 k/\Ext w1 wy/\Hd ((p.take k).any zfg=false)) (λ i _=>np-(intOf i).toNat)
    case atStart=>exact⟨0,zL _,rfl,uP _,Z_ rfl⟩
    case round=>
     obtain⟨j,hj,rfl,I,HM⟩:=hrel;have ag:=Z_ (af.o.trans I);have a5:=Z_ I;have e2:=I.cell (K.o.cell Z.o);have bg:=Z_ e2
     by_cases aG:j<np
     ·obtain⟨t,ht⟩:=ZN (l:=p) (j:=j) (by rw[<-aA.o];exact aG);obtain⟨b,offt,vm,vo,rfl,-,hq1,hmm1,hSbt,aP,h2,h3,h4,h5⟩:=(HV.o.to (S':=Z2 wr) (uM (K.o.trans I) ar.o) (λ k hk=>zU (ar.o k hk) (K.o.trans I).size)).cellAt ht;have HT:Hd (p.take (j+1)=p.take j ++ [t]):=Z_ (by rw[zv,ht];rfl);have HQ:=Z_ (zP ht);have a0:=h4.len_le;have a9:=h5.len_le;have H5:=Z_ h5;obtain⟨am,cm,rfl⟩:=h4.form;obtain⟨ao,co,rfl⟩:=h5.form;obtain⟨x1,y⟩:∃n,n=t.c.mag.length:=⟨_,rfl⟩
      obtain⟨y1,al⟩:∃n,n=t.m.length:=⟨_,rfl⟩
      have O:=Z_ y;have ax:=Z_ al;rw[<-y]at h2 a0;rw[<-al]at h3 a9 H5;have a6:=Z_ h3;clear I ht aP h4 h5 y al
      by_cases J:2<x1
      ·have X:Hd (WU ls=true):=Z_ (by unfold WU;rw[xX.2 ⟨(p,x),ad.o,by show XO p=true;unfold XO;rw[xX.2 ⟨t,HQ.o,by unfold zfg;rw[<-O.o,decide_eq_true J];rfl⟩,uW]⟩];rfl);go_wp2
       all_goals
        go_ret;exact⟨by rw[X.o];rfl,ag.o⟩
      ·have bm:Hd (decide (2<t.c.mag.length)=false):=Z_ (by rw[<-O.o];exact decide_eq_false J);have hle:(x1:Int)<=2:=by omega
       clear J;go_wp2
       go_loopw [38] (λ j wx=>∃m:Nat,m<=y1/\j=.int .i64 m/\Ext wr wx/\Hd ((t.m.take m).any (λ x=>decide (3<x.2))=false)) (λ j _=>y1-(intOf j).toNat)
       case atStart=>exact⟨0,zL _,rfl,uP _,Z_ rfl⟩
       case round=>
        obtain⟨m,hm,rfl,D,az⟩:=hrel;have aR:=Z_ (ag.o.trans D);have aa:=Z_ D;have g3:=D.cell a6.o;have e3:=D.cell bg.o
        by_cases aB:m<y1
        ·obtain⟨z,hz⟩:=ZN (l:=t.m) (j:=m) (by rw[<-ax.o];exact aB);obtain⟨bo,oo,rfl,-,hn2,hm2,-,⟨bn,ay⟩,k1,k2⟩:=(uh H5.o D).cellAt hz;have HZ:Hd (t.m.take (m+1)=t.m.take m ++ [z]):=Z_ (by rw[zv,hz];rfl);have aN:=Z_ (zP hz);obtain⟨z2,ae⟩:∃n,n=z.2:=⟨_,rfl⟩
         have aH:=Z_ ae;rw[<-ae]at k2 ay;obtain⟨hz3,hz4⟩:=ay;clear hz D k1 bn ae
         by_cases ai:3<z2
         ·have X:Hd (WU ls=true):=Z_ (by
           unfold WU
           rw[xX.2 ⟨(p,x),ad.o,?_⟩]
           ·rfl
           show XO p=true;unfold XO;rw[xX.2 ⟨t,HQ.o,?_⟩,uW];unfold zfg
           rw[xX.2 ⟨z,aN.o,by rw[<-aH.o];exact decide_eq_true ai⟩,uW])
          go_wp2
          all_goals
           go_ret;exact⟨by rw[X.o];rfl,aR.o⟩
         ·have hle2:z2<=3:=by omega
          have a7:Hd (decide (3<z.2)=false):=Z_ (by rw[<-aH.o];exact decide_eq_false ai);clear ai;go_wp2
          go_roundw
          case rel=>exact⟨m+1,by omega,by go_num,aa.o,Z_ (by rw[HZ.o,wC,az.o];simp only[uS,List.any_nil,a7.o];rfl)⟩
          case measure=>simp only[intOf];omega
        ·obtain rfl:m=y1:=by omega
         have a8:Hd (t.m.any (λ x=>decide (3<x.2))=false):=Z_ (by have:=az.o;rw[ax.o,yW]at this;exact this);clear D;go_wp2
         go_roundw
         case rel=>exact⟨j+1,by omega,by go_num,a5.o.trans aa.o,Z_ (by rw[HT.o,wC,HM.o];simp only[uS,List.any_nil,zfg,bm.o,a8.o];rfl)⟩
         case measure=>simp only[intOf];omega
     ·obtain rfl:j=np:=by omega
      have a2:Hd (XO p=false):=Z_ (by unfold XO;have:=HM.o;rw[aA.o,yW]at this;rw[this,HG.o];rfl);clear I;go_wp2
      go_roundw
      case rel=>exact⟨k+1,by omega,by go_num,ag.o,Z_ (by rw[aS.o,wC,HA.o];simp only[uS,List.any_nil,a2.o];rfl)⟩
      case measure=>simp only[intOf];omega
  ·obtain rfl:k=n:=by omega
   have a4:Hd (WU ls=decide ((k:Int)>5)):=Z_ (by unfold WU;have:=HA.o;rw[HN.o,yW]at this;rw[this,<-HN.o,vF];exact decide_eq_decide.2 (by omega));clear I;go_wp2
   all_goals
    go_ret;exact⟨by rw[a4.o];rfl,HX.o⟩
end
section
open Go.RowKit
abbrev NX(o:Option Nat)(lo hi:Nat)(W:World):Nat->Prop:=λ k=>k<W.heap.size/\some k≠o/\¬ (lo<=k/\k<hi)
structure Gx (o:Option Nat) (lo hi:Nat) (W W':World):Prop where
 os:W'.os=W.os
 tape:W'.tape=W.tape
 output:W'.output=W.output
 size:W.heap.size<=W'.heap.size
 block:∀k,k<W.heap.size->some k≠o->¬ (lo<=k/\k<hi)->W'.heap[k]? = W.heap[k]?
abbrev PX(o:Option Nat)(lo hi:Nat)(W:World)(v:Value)(p:PZ):Prop:=z06 (NX o lo hi W) W v (Z5 p)
section
variable {o:Option Nat} {lo hi bd:Nat} {A B C W W':World} {v:Value} {p:PZ} {s:MSt}
theorem Gx.refl(o:Option Nat)(lo hi:Nat)(W:World):Gx o lo hi W W:=⟨rfl,rfl,rfl,zR _,λ _ _ _ _=>rfl⟩
theorem Gx.trans(h:Gx o lo hi A B)(k:Gx o lo hi B C):Gx o lo hi A C :=
 ⟨k.os.trans h.os,k.tape.trans h.tape,k.output.trans h.output,zT h.size k.size,λ i h1 h2 h3=>(k.block i (zU h1 h.size) h2 h3).trans (h.block i h1 h2 h3)⟩
theorem Mb(h:A.grownBy B o):Gx o lo hi A B:=⟨h.os,h.tape,h.output,h.size,λ k h1 h2 _=>h.block k h1 h2⟩
theorem VY(h:Ext A B):Gx o lo hi A B:=Mb (Y7 h o)
theorem Ru(h:Gd o bd A B)(h1:lo<=bd)(h2:bd<hi):Gx o lo hi A B:=⟨h.os,h.tape,h.output,h.size,λ k k1 k2 k3=>h.block k k1 k2 (λ e=>k3 (by rw[e];exact⟨h1,h2⟩))⟩
theorem V9(w:World){a:Addr}(h1:lo<=a.block)(h2:a.block<hi)(u:Value):Gx o lo hi w (w.setCell a u):=⟨rfl,rfl,rfl,by simp[World.setCell],λ k _ _ h3=>Below.heap_setCell _ _ _ _ (λ e=>h3 (by rw[e];exact⟨h1,h2⟩))⟩
theorem Gx.gb(h:Gx o lo hi A B)(hb:A.heap.size<=lo):A.grownBy B o:=⟨h.os,h.tape,h.output,h.size,λ k h1 h2=>h.block k h1 h2 (by omega)⟩
theorem zX(g:Gx o lo hi W W'):Kept (NX o lo hi W) W W':=λ k h=>g.block k h.1 h.2.1 h.2.2
theorem Dk(g:W.heap.size<=W'.heap.size):∀k,NX o lo hi W k->NX o lo hi W' k:=λ _ h=>⟨zU h.1 g,h.2⟩
theorem PX.pv(h:PX o lo hi W v p):PV W v p:=h.to (uN _ _) (λ _ h=>h.1)
theorem PX.pm(h:PX o lo hi W v p):PM o W v p:=h.to (uN _ _) (λ _ h=>⟨h.1,h.2.1⟩)
theorem PX.on(h:PX o lo hi W v p)(g:Gx o lo hi W W'):PX o lo hi W' v p:=h.to (zX g) (Dk g.size)
theorem PMN.px{N:Nat}(h:PMN N o W v p)(hN:hi<=N):PX o lo hi W v p:=h.to (uN _ _) (λ _ h=>⟨h.2.1,h.2.2,by have:=h.1;omega⟩)
theorem PMN.gx{N:Nat}(h:PMN N o W v p)(hN:hi<=N)(g:Gx o lo hi W W'):PMN N o W' v p:=h.to (λ k h=>g.block k h.2.1 h.2.2 (by have:=h.1;omega)) (λ k h=>⟨h.1,zU h.2.1 g.size,h.2.2⟩)
theorem PMN.low{N M:Nat}(h:PMN N o W v p)(hM:M<=N):PMN M o W v p:=h.to (uN _ _) (λ _ h=>⟨zT hM h.1,h.2⟩)
end
theorem MV.gdn{W W':World}{o:Option Nat}{bd:Nat}{s:MSt}(h:MV W o s)(g:Gd (Option.none) bd W W')(hob:∀b,o=some b->b≠bd):MV W' o s:=λ b hb=>by
 have y:=h b hb;exact⟨y.1.grown (r:=some bd) ⟨g.os,g.tape,g.output,g.size,λ j j1 j2=>g.block j j1 (by simp) (λ e=>j2 (by rw[e]))⟩ (λ e=>hob b hb (Option.some.inj e)),y.2⟩
structure RestAt (T:TypeId) (w:World) (br bd bp bq m:Nat) (vr:Value) (ns:List Int) (V:Nat->Value):Prop where
 d0:w.cell? ⟨bd,0,none⟩=some (.slice (some ⟨bp,0,none⟩) m m)
 d1:w.cell? ⟨bd,1,none⟩=some (.slice (some ⟨bq,0,none⟩) m m)
 d2:w.cell? ⟨bd,2,none⟩=some vr
 dz:∀i,w.frozen? ⟨bd,i,none⟩=false
 r0:w.cell? ⟨br,0,none⟩=some (.slice none 0 0)
 r1:w.cell? ⟨br,1,none⟩=some (.slice none 0 0)
 r2:w.cell? ⟨br,2,none⟩=some (.slice none 0 0)
 rz:∀i,w.frozen? ⟨br,i,none⟩=false
 P:w.rowIs bp 3 m (rowI ns)
 Q:w.rowIs bq T m V
def Yc(V:Nat->Value)(k:Nat)(x:Value):Nat->Value:=λ j=>if j=k then x else V j
structure Own3 (lo hi br bd bp bq:Nat):Prop where
 r:lo<=br/\br<hi
 d:lo<=bd/\bd<hi
 p:lo<=bp/\bp<hi
 q:lo<=bq/\bq<hi
 rd:br≠bd
 rp:br≠bp
 rq:br≠bq
 dp:bd≠bp
 dq:bd≠bq
 pq:bp≠bq
structure Own (lo hi br bc bd bp bq:Nat):Prop extends Own3 lo hi br bd bp bq where
 c:lo<=bc/\bc<hi
 rc:br≠bc
 cd:bc≠bd
 cp:bc≠bp
 cq:bc≠bq
section
variable {T:TypeId} {w w':World} {o:Option Nat} {lo hi br bc bd bp bq m:Nat} {vr:Value} {ns:List Int} {V:Nat->Value}
theorem RestAt.same(h:RestAt T w br bd bp bq m vr ns V)(e1:w'.heap[br]? = w.heap[br]?)(e2:w'.heap[bd]? = w.heap[bd]?)(e3:w'.heap[bp]? = w.heap[bp]?)(e4:w'.heap[bq]? = w.heap[bq]?):RestAt T w' br bd bp bq m vr ns V:=by
 have y:∀i,w'.cell? ⟨br,i,none⟩=w.cell? ⟨br,i,none⟩:=λ i=>World.cell?_of_block e1;have z:∀i,w'.cell? ⟨bd,i,none⟩=w.cell? ⟨bd,i,none⟩:=λ i=>World.cell?_of_block e2
 exact⟨(z _).trans h.d0,(z _).trans h.d1,(z _).trans h.d2,λ i=>(World.frozen?_of_block (w:=w) (a:=⟨bd,i,none⟩) e2).trans (h.dz i),(y _).trans h.r0,(y _).trans h.r1,(y _).trans h.r2,
  λ i=>(World.frozen?_of_block (w:=w) (a:=⟨br,i,none⟩) e1).trans (h.rz i),h.P.of_block e3,h.Q.of_block e4⟩
theorem RestAt.lts(h:RestAt T w br bd bp bq m vr ns V):br<w.heap.size/\bd<w.heap.size/\bp<w.heap.size/\bq<w.heap.size:=⟨Zj h.r0,Zj h.d0,h.P.lt,h.Q.lt⟩
theorem RestAt.gb(h:RestAt T w br bd bp bq m vr ns V)(O:Own3 lo hi br bd bp bq)(ho:∀b,o=some b->b<lo)(g:w.grownBy w' o):RestAt T w' br bd bp bq m vr ns V:=by
 obtain⟨J,z,D,I⟩:=h.lts;have y:∀k,lo<=k->some k≠o:=λ k hk e=>by have:=ho k e.symm;omega
 exact h.same (g.block _ J (y _ O.r.1)) (g.block _ z (y _ O.d.1)) (g.block _ D (y _ O.p.1)) (g.block _ I (y _ O.q.1))
theorem RestAt.gdn(h:RestAt T w br bd bp bq m vr ns V)(O:Own lo hi br bc bd bp bq)(g:Gd none bc w w'):RestAt T w' br bd bp bq m vr ns V:=by
 obtain⟨l1,l2,l3,l4⟩:=h.lts;exact h.same (g.block _ l1 (by simp) O.rc) (g.block _ l2 (by simp) O.cd.symm) (g.block _ l3 (by simp) O.cp.symm) (g.block _ l4 (by simp) O.cq.symm)
theorem RestAt.gd(h:RestAt T w br bd bp bq m vr ns V)(O:Own lo hi br bc bd bp bq)(ho:∀b,o=some b->b<lo)(g:Gd o bc w w'):RestAt T w' br bd bp bq m vr ns V:=by
 obtain⟨J,z,D,I⟩:=h.lts;have y:∀k,lo<=k->some k≠o:=λ k hk e=>by have:=ho k e.symm;omega
 exact h.same (g.block _ J (y _ O.r.1) O.rc) (g.block _ z (y _ O.d.1) O.cd.symm) (g.block _ D (y _ O.p.1) O.cp.symm) (g.block _ I (y _ O.q.1) O.cq.symm)
theorem Yx(w:World)(a:Addr)(u:Value){k:Nat}(h:k≠a.block):(w.setCell a u).heap[k]? = w.heap[k]?:=Below.heap_setCell _ _ _ _ (λ e=>h e)
theorem RestAt.setQ(h:RestAt T w br bd bp bq m vr ns V)(O:Own3 lo hi br bd bp bq)(k:Nat)(x:Value):RestAt T (w.setCell ⟨bq,k,none⟩ x) br bd bp bq m vr ns (Yc V k x):=by
 have I:=Yx w ⟨bq,k,none⟩ x O.rq;have D:=Yx w ⟨bq,k,none⟩ x O.dq;have J:=Yx w ⟨bq,k,none⟩ x O.pq;have z:∀i,(w.setCell ⟨bq,k,none⟩ x).cell? ⟨br,i,none⟩=w.cell? ⟨br,i,none⟩:=λ i=>World.cell?_of_block I;have y:∀i,(w.setCell ⟨bq,k,none⟩ x).cell? ⟨bd,i,none⟩=w.cell? ⟨bd,i,none⟩:=λ i=>World.cell?_of_block D
 exact⟨(y _).trans h.d0,(y _).trans h.d1,(y _).trans h.d2,λ i=>(World.frozen?_of_block (w:=w) (a:=⟨bd,i,none⟩) D).trans (h.dz i),(z _).trans h.r0,(z _).trans h.r1,(z _).trans h.r2,
  λ i=>(World.frozen?_of_block (w:=w) (a:=⟨br,i,none⟩) I).trans (h.rz i),h.P.of_block J,h.Q.set k x⟩
theorem RestAt.setP(h:RestAt T w br bd bp bq m vr ns V)(O:Own3 lo hi br bd bp bq)(k:Nat)(z:Int)(hk:k<ns.length):RestAt T (w.setCell ⟨bp,k,none⟩ (.int .i64 z)) br bd bp bq m vr (ns.set k z) V:=by
 have J:=Yx w ⟨bp,k,none⟩ (.int .i64 z) O.rp;have I:=Yx w ⟨bp,k,none⟩ (.int .i64 z) O.dp;have K:=Yx w ⟨bp,k,none⟩ (.int .i64 z) O.pq.symm;have D:∀i,(w.setCell ⟨bp,k,none⟩ (.int .i64 z)).cell? ⟨br,i,none⟩=w.cell? ⟨br,i,none⟩:=λ i=>World.cell?_of_block J;have y:∀i,(w.setCell ⟨bp,k,none⟩ (.int .i64 z)).cell? ⟨bd,i,none⟩=w.cell? ⟨bd,i,none⟩:=λ i=>World.cell?_of_block I
 exact⟨(y _).trans h.d0,(y _).trans h.d1,(y _).trans h.d2,λ i=>(World.frozen?_of_block (w:=w) (a:=⟨bd,i,none⟩) I).trans (h.dz i),(D _).trans h.r0,(D _).trans h.r1,(D _).trans h.r2,
  λ i=>(World.frozen?_of_block (w:=w) (a:=⟨br,i,none⟩) J).trans (h.rz i),EX h.P k z hk,h.Q.of_block K⟩
theorem RestAt.setD(h:RestAt T w br bd bp bq m vr ns V)(O:Own3 lo hi br bd bp bq)(x:Value):RestAt T (w.setCell ⟨bd,2,none⟩ x) br bd bp bq m x ns V:=by
 have z:=Yx w ⟨bd,2,none⟩ x O.rd;have I:=Yx w ⟨bd,2,none⟩ x O.dp.symm;have D:=Yx w ⟨bd,2,none⟩ x O.dq.symm;have y:∀i,(w.setCell ⟨bd,2,none⟩ x).cell? ⟨br,i,none⟩=w.cell? ⟨br,i,none⟩:=λ i=>World.cell?_of_block z
 exact⟨ZZ h.d0 (ao (by decide)),ZZ h.d1 (ao (by decide)),YT h.d2,λ i=>Zg (h.dz i),(y _).trans h.r0,(y _).trans h.r1,(y _).trans h.r2,
  λ i=>(World.frozen?_of_block (w:=w) (a:=⟨br,i,none⟩) z).trans (h.rz i),h.P.of_block I,h.Q.of_block D⟩
end
section
open Go.Deep
theorem FA(w:World)(a b c:Obj):(((w.alloc a).alloc b).alloc c).heap[w.heap.size+1+1]? = some c:=by
 have h:=blk_alloc_new ((w.alloc a).alloc b) c
 rwa [z00,z00]at h
theorem GM(w:World)(a b c:Obj):(((w.alloc a).alloc b).alloc c).heap[w.heap.size+1]? = some b:=by
 have h:=blk_alloc_new (w.alloc a) b;rw[z00]at h;rw[blk_alloc_lt _ _ _ (by rw[z00,z00];omega)];exact h
theorem Hk(w:World)(a b c:Obj):(((w.alloc a).alloc b).alloc c).heap[w.heap.size]? = some a:=by
 rw[blk_alloc_lt _ _ _ (by rw[z00,z00];omega),blk_alloc_lt _ _ _ (by rw[z00];omega)];exact blk_alloc_new w a
theorem TW(w:World)(z a b c:Obj):((((w.alloc z).alloc a).alloc b).alloc c).heap[w.heap.size+1]? = some a:=by
 have h:=Hk (w.alloc z) a b c
 rwa [z00]at h
theorem UA(w:World)(z a b c:Obj):((((w.alloc z).alloc a).alloc b).alloc c).heap[w.heap.size+1+1]? = some b:=by
 have h:=GM (w.alloc z) a b c
 rwa [z00]at h
theorem UC(w:World)(z a b c:Obj):((((w.alloc z).alloc a).alloc b).alloc c).heap[w.heap.size+1+1+1]? = some c:=by
 have h:=FA (w.alloc z) a b c
 rwa [z00]at h
theorem H7{T TD:TypeId}{w Y:World}{br bd bp bq m:Nat}{vf:Value}(r0:w.cell? ⟨br,0,none⟩=some (.slice none 0 0))(r1:w.cell? ⟨br,1,none⟩=some (.slice none 0 0))(r2:w.cell? ⟨br,2,none⟩=some (.slice none 0 0))(rz:∀i,w.frozen? ⟨br,i,none⟩=false)
  (hr:Y.heap[br]? = w.heap[br]?) (hd:Y.heap[bd]? = some (.cells #[.slice (some ⟨bp,0,none⟩) m m,.slice (some ⟨bq,0,none⟩) m m,vf] TD)) (hp:Y.heap[bp]? = some (.cells (madeCells #[.int .i64 0] m) 3))
  (hq:Y.heap[bq]? = some (.cells (madeCells #[.slice none 0 0] m) T)):RestAt T Y br bd bp bq m vf (List.replicate m 0) (λ _=>.slice none 0 0):=by
 have y:∀i,Y.cell? ⟨br,i,none⟩=w.cell? ⟨br,i,none⟩:=λ i=>World.cell?_of_block hr
 refine⟨by simp[World.cell?,hd],by simp[World.cell?,hd],by simp[World.cell?,hd],λ i=>by simp[World.frozen?,hd],(y _).trans r0,(y _).trans r1,(y _).trans r2,λ i=>(World.frozen?_of_block (w:=w) (a:=⟨br,i,none⟩) hr).trans (rz i),?_,?_⟩
 ·exact⟨_,hp,by simp[size_madeCells],λ i hi=>by simp[madeCells,hi,Nat.mod_one,rowI,List.getD_eq_getElem?_getD]⟩
 ·exact⟨_,hq,by simp[size_madeCells],λ i hi=>by simp[madeCells,hi,Nat.mod_one]⟩
theorem Nq(w:World)(a b c:Obj):Ext w (((w.alloc a).alloc b).alloc c).drew:=((((uP w).alloc a).alloc b).alloc c).drew
abbrev U8(w:World)(br m:Nat)(am:Option Addr)(vf s9:Value)(wx:World):Prop:=∃bd bp bq,s9=.pointer (some ⟨bd,0,none⟩)/\Hd (Own br wx.heap.size br w.heap.size bd bp bq)/\Hd (RestAt 35 wx br bd bp bq m vf (List.replicate m 0) (λ _=>.slice none 0 0))/\Hd (CalcAt wx w.heap.size (.pointer am) 0)/\Hd (Ext w wx)
theorem UF{w:World}{br m:Nat}{am:Option Addr}{vf:Value}(hb:br<w.heap.size)(r0:w.cell? ⟨br,0,none⟩=some (.slice none 0 0))(r1:w.cell? ⟨br,1,none⟩=some (.slice none 0 0))(r2:w.cell? ⟨br,2,none⟩=some (.slice none 0 0))(rz:∀i,w.frozen? ⟨br,i,none⟩=false)
  {a b c:Obj} {bd bp bq:Nat} (hd:((((w.alloc (.cells #[.pointer am,.int .i64 0] 194)).alloc a).alloc b).alloc c).heap[bd]? = some (.cells #[.slice (some ⟨bp,0,none⟩) m m,.slice (some ⟨bq,0,none⟩) m m,vf] 156)) (hp:((((w.alloc (.cells #[.pointer am,.int .i64 0] 194)).alloc a).alloc b).alloc c).heap[bp]? = some (.cells (madeCells #[.int .i64 0] m) 3))
  (hq:((((w.alloc (.cells #[.pointer am,.int .i64 0] 194)).alloc a).alloc b).alloc c).heap[bq]? = some (.cells (madeCells #[.slice none 0 0] m) 35))
  (ds:w.heap.size<bd/\bd<w.heap.size+4/\w.heap.size<bp/\bp<w.heap.size+4/\w.heap.size<bq/\bq<w.heap.size+4/\bd≠bp/\bd≠bq/\bp≠bq) :
  U8 w br m am vf (.pointer (some ⟨bd,0,none⟩)) ((((w.alloc (.cells #[.pointer am,.int .i64 0] 194)).alloc a).alloc b).alloc c).drew:=by
 obtain⟨d1,d2,d3,d4,d5,d6,d7,d8,d9⟩:=ds
 have D:((((w.alloc (.cells #[.pointer am,.int .i64 0] 194)).alloc a).alloc b).alloc c).drew.heap.size=w.heap.size+4:=by
  show((((w.alloc (.cells #[.pointer am,.int .i64 0] 194)).alloc a).alloc b).alloc c).heap.size=_;rw[z00,z00,z00,z00]
 have z:Ext w ((((w.alloc (.cells #[.pointer am,.int .i64 0] 194)).alloc a).alloc b).alloc c).drew:=(uO (uP w) _).trans (Nq _ _ _ _);have y:=Nq (w.alloc (.cells #[.pointer am,.int .i64 0] 194)) a b c
 refine⟨bd,bp,bq,rfl,Z_ ?_,Z_ ?_,Z_ ?_,Z_ z⟩
 ·rw[D];exact⟨⟨by omega,by omega,by omega,by omega,by omega,by omega,by omega,by omega,by omega,by omega⟩,by omega,by omega,by omega,by omega,by omega⟩
 ·exact H7 r0 r1 r2 rz (z.block br hb) hd hp hq
 ·exact CalcAt.ext (W:=w.alloc (.cells #[.pointer am,.int .i64 0] 194)) ⟨ZJ _ _ _ rfl rfl,ZJ _ _ _ rfl rfl,λ i=>Vt _ _ _⟩ y
section
variable {w:World} {br m:Nat} {am:Option Addr} {vf:Value} (hb:br<w.heap.size) (r0:w.cell? ⟨br,0,none⟩=some (.slice none 0 0)) (r1:w.cell? ⟨br,1,none⟩=some (.slice none 0 0)) (r2:w.cell? ⟨br,2,none⟩=some (.slice none 0 0)) (rz:∀i,w.frozen? ⟨br,i,none⟩=false)
include hb r0 r1 r2 rz
theorem Fl:U8 w br m am vf (.pointer (some ⟨w.heap.size+1,0,none⟩)) ((((w.alloc (.cells #[.pointer am,.int .i64 0] 194)).alloc (.cells #[.slice (some ⟨w.heap.size+1+1,0,none⟩) m m,.slice (some ⟨w.heap.size+1+1+1,0,none⟩) m m,vf] 156)).alloc (.cells (madeCells #[.int .i64 0] m) 3)).alloc (.cells (madeCells #[.slice none 0 0] m) 35)).drew :=
 UF hb r0 r1 r2 rz (TW w _ _ _ _) (UA w _ _ _ _) (UC w _ _ _ _) (by omega)
theorem Iw:U8 w br m am vf (.pointer (some ⟨w.heap.size+1,0,none⟩)) ((((w.alloc (.cells #[.pointer am,.int .i64 0] 194)).alloc (.cells #[.slice (some ⟨w.heap.size+1+1+1,0,none⟩) m m,.slice (some ⟨w.heap.size+1+1,0,none⟩) m m,vf] 156)).alloc (.cells (madeCells #[.slice none 0 0] m) 35)).alloc (.cells (madeCells #[.int .i64 0] m) 3)).drew :=
 UF hb r0 r1 r2 rz (TW w _ _ _ _) (UC w _ _ _ _) (UA w _ _ _ _) (by omega)
theorem Hm:U8 w br m am vf (.pointer (some ⟨w.heap.size+1+1,0,none⟩)) ((((w.alloc (.cells #[.pointer am,.int .i64 0] 194)).alloc (.cells (madeCells #[.int .i64 0] m) 3)).alloc (.cells #[.slice (some ⟨w.heap.size+1,0,none⟩) m m,.slice (some ⟨w.heap.size+1+1+1,0,none⟩) m m,vf] 156)).alloc (.cells (madeCells #[.slice none 0 0] m) 35)).drew :=
 UF hb r0 r1 r2 rz (UA w _ _ _ _) (TW w _ _ _ _) (UC w _ _ _ _) (by omega)
theorem Br:U8 w br m am vf (.pointer (some ⟨w.heap.size+1+1,0,none⟩)) ((((w.alloc (.cells #[.pointer am,.int .i64 0] 194)).alloc (.cells (madeCells #[.slice none 0 0] m) 35)).alloc (.cells #[.slice (some ⟨w.heap.size+1+1+1,0,none⟩) m m,.slice (some ⟨w.heap.size+1,0,none⟩) m m,vf] 156)).alloc (.cells (madeCells #[.int .i64 0] m) 3)).drew :=
 UF hb r0 r1 r2 rz (UA w _ _ _ _) (UC w _ _ _ _) (TW w _ _ _ _) (by omega)
theorem Kb:U8 w br m am vf (.pointer (some ⟨w.heap.size+1+1+1,0,none⟩)) ((((w.alloc (.cells #[.pointer am,.int .i64 0] 194)).alloc (.cells (madeCells #[.int .i64 0] m) 3)).alloc (.cells (madeCells #[.slice none 0 0] m) 35)).alloc (.cells #[.slice (some ⟨w.heap.size+1,0,none⟩) m m,.slice (some ⟨w.heap.size+1+1,0,none⟩) m m,vf] 156)).drew :=
 UF hb r0 r1 r2 rz (UC w _ _ _ _) (TW w _ _ _ _) (UA w _ _ _ _) (by omega)
theorem GA:U8 w br m am vf (.pointer (some ⟨w.heap.size+1+1+1,0,none⟩)) ((((w.alloc (.cells #[.pointer am,.int .i64 0] 194)).alloc (.cells (madeCells #[.slice none 0 0] m) 35)).alloc (.cells (madeCells #[.int .i64 0] m) 3)).alloc (.cells #[.slice (some ⟨w.heap.size+1+1,0,none⟩) m m,.slice (some ⟨w.heap.size+1,0,none⟩) m m,vf] 156)).drew :=
 UF hb r0 r1 r2 rz (UC w _ _ _ _) (UA w _ _ _ _) (TW w _ _ _ _) (by omega)
end
end
section
open Go.Deep
variable {T TD:TypeId}
variable {w:World} {br m:Nat} {vf:Value} (hb:br<w.heap.size) (r0:w.cell? ⟨br,0,none⟩=some (.slice none 0 0)) (r1:w.cell? ⟨br,1,none⟩=some (.slice none 0 0)) (r2:w.cell? ⟨br,2,none⟩=some (.slice none 0 0)) (rz:∀i,w.frozen? ⟨br,i,none⟩=false)
include hb r0 r1 r2 rz
end
def CofV(N:Nat)(o:Option Nat)(w:World)(m:Nat)(V:Nat->Value)(cs:List PZ):Prop:=cs.length=m/\∀i,i<m->PMN N o w (V i) (cs.getD i [])
def zti(m:Nat)(V:Nat->Value):Prop:=∀i,i<m->∃a n c,V i=.slice a n c
section
variable {w w':World} {o:Option Nat} {N lo hi m:Nat} {V:Nat->Value} {cs:List PZ}
theorem CofV.form(h:CofV N o w m V cs):zti m V:=λ i hi=>by obtain⟨a,c,e⟩:=(h.2 i hi).form;exact⟨a,_,c,e⟩
theorem CofV.gx(h:CofV N o w m V cs)(hN:hi<=N)(g:Gx o lo hi w w'):CofV N o w' m V cs:=⟨h.1,λ i k=>PMN.gx (h.2 i k) hN g⟩
theorem CofV.set(h:CofV N o w m V cs){k:Nat}{x:Value}{p:PZ}(hk:k<m)(hx:PMN N o w x p):CofV N o w m (Yc V k x) (cs.set k p):=by
 refine⟨by rw[yy];exact h.1,λ i hi=>?_⟩;unfold Yc;simp only[zH,xV]
 by_cases e:i=k
 ·subst e;rw[if_pos rfl,if_pos rfl,if_pos (by rw[h.1];exact hk)];exact hx
 ·rw[if_neg e,if_neg (λ h=>e h.symm),<-zH];exact h.2 i hi
theorem zti.set(h:zti m V)(k:Nat){x:Value}(hx:∃a n c,x=.slice a n c):zti m (Yc V k x):=λ i hi=>by
 unfold Yc
 split
 ·exact hx
 ·exact h i hi
theorem CofV.polys{bq:Nat}{T:TypeId}(h:CofV N o w m V cs)(hr:w.rowIs bq T m V)(hm:m<=maxLen){S:Nat->Prop}(hS:∀k,N<=k/\NB o w k->S k)(hq:S bq):z1w S w (.slice (some ⟨bq,0,none⟩) m m) (cs.map Z5):=by
 refine⟨bq,0,⟨_,m,by rw[zE,h.1],by rw[zE,h.1];exact zR _,hm,λ _=>rfl,λ _=>hq⟩,λ j p hj=>?_⟩;have y:=Zy hj;rw[zE,h.1]at y;rw[Re (by rw[h.1];exact y)]at hj;obtain rfl:=Option.some.inj hj;exact⟨V j,by rw[zr];exact hr.cell y,(h.2 j y).to (uN _ _) hS⟩
end
end
end Go.Proofs.YtlbohjnfkhemlaaGreat
