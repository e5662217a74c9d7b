/- Chain: the rest with its cofactors. -/
import Derived.Deep.AppendLies
import Derived.Deep.RegionLaw
import Derived.Test.YtlbohjnfkhemlaaGreatTp13
set_option maxRecDepth 100000
set_option maxHeartbeats 16000000
namespace Go.Proofs.YtlbohjnfkhemlaaGreat
section
open Go.RowKit Go.Deep
def Q5(W:World)(o:Option Nat)(X:Int×MSt×PZ×List Int×List PZ):Ending->World->Prop:=λ e W'=>∃vp vc vr,e=.returned (.tuple #[.agg #[vp,vc,vr],.int .i64 X.1])/\MV W' o X.2.1/\W.grownBy W' o/\PMN W.heap.size o W' vr X.2.2.1 /\
 Ints (λ k=>W.heap.size<=k/\NB o W' k) W' vp X.2.2.2.1/\z1w (λ k=>W.heap.size<=k/\NB o W' k) W' vc (X.2.2.2.2.map Z5)
def Xw(Y:World)(br:Nat)(a b c:Value):World:=((Y.setCell ⟨br,0,none⟩ a).setCell ⟨br,1,none⟩ b).setCell ⟨br,2,none⟩ c
section
variable {W Y:World} {br hi bc bd bp bq m:Nat} {a b c u0 u1 u2 vr:Value} {o:Option Nat} {s:MSt} {ns:List Int} {V:Nat->Value} {cs:List PZ} {r:PZ}
theorem Rl(h0:Y.cell? ⟨br,0,none⟩=some u0):(Xw Y br a b c).cell? ⟨br,0,none⟩=some a:=ZZ (ZZ (YT h0) (ao (by decide))) (ao (by decide))
theorem Rj(h1:Y.cell? ⟨br,1,none⟩=some u1):(Xw Y br a b c).cell? ⟨br,1,none⟩=some b:=ZZ (YT (ZZ h1 (ao (by decide)))) (ao (by decide))
theorem Q3(h2:Y.cell? ⟨br,2,none⟩=some u2):(Xw Y br a b c).cell? ⟨br,2,none⟩=some c:=YT (ZZ (ZZ h2 (ao (by decide))) (ao (by decide)))
theorem LD(h:MV Y o s)(ho:∀b,o=some b->b<br):MV (Xw Y br a b c) o s:=by
 have hne:∀b,o=some b->b≠br:=λ b hb=>Nat.ne_of_lt (ho b hb);exact((h.set hne (a:=⟨br,0,none⟩) rfl a).set hne (a:=⟨br,1,none⟩) rfl b).set hne (a:=⟨br,2,none⟩) rfl c
theorem MG(h1:br<hi):Gx o br hi Y (Xw Y br a b c) :=
 ((V9 Y (a:=⟨br,0,none⟩) (zR _) h1 a).trans (V9 _ (a:=⟨br,1,none⟩) (zR _) h1 b)).trans (V9 _ (a:=⟨br,2,none⟩) (zR _) h1 c)
theorem SV{k:Nat}(h:k≠br):(Xw Y br a b c).heap[k]? = Y.heap[k]? :=
 ((Yx _ ⟨br,2,none⟩ c h).trans (Yx _ ⟨br,1,none⟩ b h)).trans (Yx _ ⟨br,0,none⟩ a h)
theorem Jc(S:Nat->Prop)(w:World):Ints S w (.slice none 0 0) []:=⟨0,0,⟨none,0,rfl,zR _,by decide,λ h=>by simp at h,λ h=>by simp at h⟩,λ j n hj=>by simp at hj⟩
theorem DT(O:Own br hi br bc bd bp bq)(hb:br=W.heap.size)(ho:∀b,o=some b->b<br)(hm:MV Y o s)(hg:W.grownBy Y o)(hr:RestAt 35 Y br bd bp bq m vr ns V)(hv:PMN hi o Y vr r)(hc:CofV hi o Y m V cs)(hn:ns.length=m)(hi64:∀z∈ns,Zv z)(hml:m<=maxLen) :
  Q5 W o (0,s,r,ns,cs) (.returned (.tuple #[.agg #[.slice (some ⟨bp,0,none⟩) m m,.slice (some ⟨bq,0,none⟩) m m,vr],.int .i64 0])) (Xw Y br (.slice (some ⟨bp,0,none⟩) m m) (.slice (some ⟨bq,0,none⟩) m m) vr):=by
 have y:Gx o br hi Y (Xw Y br (.slice (some ⟨bp,0,none⟩) m m) (.slice (some ⟨bq,0,none⟩) m m) vr):=MG O.r.2
 have I:W.grownBy (Xw Y br (.slice (some ⟨bp,0,none⟩) m m) (.slice (some ⟨bq,0,none⟩) m m) vr) o:=⟨y.os.trans hg.os,y.tape.trans hg.tape,y.output.trans hg.output,zT hg.size y.size,λ k h1 h2=>by
  rw[SV (by omega)]
  exact hg.block k h1 h2⟩
 have D:∀k,br<=k->some k≠o:=λ k hk e=>by have:=ho k e.symm;omega
 obtain⟨l1,l2,J,K⟩:=hr.lts
 refine⟨_,_,_,rfl,LD hm ho,I,(PMN.gx hv (zR _) y).low (by have:=O.r;omega),?_,?_⟩
 ·exact Ints.of_row (hr.P.of_block (SV O.rp.symm)) hn hi64 hml ⟨by rw[<-hb];exact O.p.1,zU J y.size,D _ O.p.1⟩
 ·exact(hc.gx (zR _) y).polys (hr.Q.of_block (SV O.rq.symm)) hml (λ k hk=>⟨by have:=O.r;have:=hk.1;omega,hk.2⟩) ⟨by rw[<-hb];exact O.q.1,zU K y.size,D _ O.q.1⟩
theorem Pe{e:Int}(hbr:br<hi)(hb:br=W.heap.size)(ho:∀b,o=some b->b<br)(hm:MV Y o s)(hg:W.grownBy Y o) :
  Q5 W o (e,s,[],[],[]) (.returned (.tuple #[.agg #[.slice none 0 0,.slice none 0 0,.slice none 0 0],.int .i64 e])) (Xw Y br (.slice none 0 0) (.slice none 0 0) (.slice none 0 0)):=by
 have y:Gx o br hi Y (Xw Y br (.slice none 0 0) (.slice none 0 0) (.slice none 0 0)):=MG hbr
 have z:W.grownBy (Xw Y br (.slice none 0 0) (.slice none 0 0) (.slice none 0 0)) o:=⟨y.os.trans hg.os,y.tape.trans hg.tape,y.output.trans hg.output,zT hg.size y.size,λ k h1 h2=>by
  rw[SV (by omega)]
  exact hg.block k h1 h2⟩
 exact⟨_,_,_,rfl,LD hm ho,z,z06.nilv _ _ _ _ (by decide),Jc _ _,z1w.nilv _ _ _ _ (by decide)⟩
end
theorem Cc{W:World}{o:Option Nat}{s:MSt}{vf vl:Value}{f:PZ}{ls:List PZ}{A T:Nat}(hM:MV W o s)(hf:PM o W vf f)(hl:z1w (NB o W) W vl (ls.map Z5))(ff:Fit A T f)(hA:A<=1000000)(hT:T<=1000000000)
  (sl:US (ls.map Z5)) (hmay:YH 0 (ls.map Z5)=true) (hlen:ls.length<=1000) (hF:Wx o true ls ls.length s f (List.replicate ls.length [])) :
  Calls Tryz.prog 79 #[ZK o,vf,vl] W (Q5 W o (Xe o true ls ls.length s f (List.replicate ls.length 0) (List.replicate ls.length []))):=by
 have hnot:∀(x:Bool) (w:World),(Op.unary .not (.bool x)).run Tryz.prog w=.ok (.bool (!x)) w:=λ _ _=>rfl;have C1:=Z_ (λ(Y:World) (U:Ext W Y)=>Um (z06.on hf.pv U) ff hA)
 have C2:=Z_ (λ(Y:World) (U:Ext W Y)=>(show Calls Tryz.prog 77 #[vl] Y λ e w'=>e=.returned (.bool true)/\Ext Y w' from by
  have h:=Nb (S:=NB o W) vl (ls.map Z5) Y (hl.ext U (λ _ h=>h.1)) (λ k h=>zU h.1 U.size) sl
  rwa [hmay]at h))
 have HF:=Z_ hf;have li:=Z_ ff;have i1:=Z_ (zS hA hT);have HM:=Z_ hM;have HL:=Z_ hl;have kp:=Z_ hF;have jn:=Z_ (λ b hb=>hM.block (b:=b) hb);obtain⟨X,hX⟩:∃X,X=Xe o true ls ls.length s f (List.replicate ls.length 0) (List.replicate ls.length []):=⟨_,rfl⟩
 rw[<-hX];have HX:=Z_ hX;obtain⟨m,hm⟩:∃m,m=ls.length:=⟨_,rfl⟩
 have bv:=Z_ hm;rw[<-hm]at hlen;obtain⟨af,cf,rfl⟩:=hf.form;obtain⟨al,cl,i3⟩:=hl.form;rw[zE,<-hm]at i3;subst i3;obtain⟨nf,e6⟩:∃n,n=(Z5 f).length:=⟨_,rfl⟩
 rw[<-e6]at C1⊢;have jb:=Z_ e6;obtain⟨vm,df⟩:∃x,x=ZK o:=⟨_,rfl⟩
 obtain⟨am,rfl⟩:∃a,vm=.pointer a:=⟨_,df⟩
 rw[<-df];have ch:=Z_ df;clear hM hf hl ff hA hT sl hmay hF hX hm e6 df;have kc:=λ(Y:World)=>run_make_row' (P:=Tryz.prog) 92 3 (.int .i64 0) 8 Tryz.underlying92 uD rfl .i64 .i64 m (by omega) (by omega) Y;have la:=λ(Y:World)=>run_make_row' (P:=Tryz.prog) 46 35 (.slice none 0 0) 24 Tryz.underlying46 uv rfl .i64 .i64 m (by omega) (by omega) Y;have ay:=Z_ (uO (uP W) (.cells #[.slice none 0 0,.slice none 0 0,.slice none 0 0] 156));have j0:(W.alloc (.cells #[.slice none 0 0,.slice none 0 0,.slice none 0 0] 156)).cell? ⟨W.heap.size,0,none⟩=some (.slice none 0 0):=ZJ _ _ _ rfl rfl;have j1:(W.alloc (.cells #[.slice none 0 0,.slice none 0 0,.slice none 0 0] 156)).cell? ⟨W.heap.size,1,none⟩=some (.slice none 0 0):=ZJ _ _ _ rfl rfl;have j2:(W.alloc (.cells #[.slice none 0 0,.slice none 0 0,.slice none 0 0] 156)).cell? ⟨W.heap.size,2,none⟩=some (.slice none 0 0):=ZJ _ _ _ rfl rfl;have HJ:=Z_ (zS j0 (zS j1 j2));have HZ:=Z_ (λ i=>Vt W #[.slice none 0 0,.slice none 0 0,.slice none 0 0] 156 (i:=i));clear j0 j1 j2
 go_enter Tryz.func79,Tryz.ntmps79
 go_wp2_with fail;(with_reducible refine(C1.o _ ay.o).mono ?_);rintro e w1 ⟨rfl,hx⟩;have ax:=Z_ (ay.o.trans hx);have i5:=Z_ hx;clear hx;go_wp2_with fail;(with_reducible refine(C2.o _ ax.o).mono ?_);rintro e w2 ⟨rfl,hx⟩;have ba:=Z_ (ax.o.trans hx);have dp:=Z_ (i5.o.trans hx);clear hx;have cx:=Z_ (zS (dp.o.cell HJ.o.1) (zS (dp.o.cell HJ.o.2.1) (dp.o.cell HJ.o.2.2)));have bn:Hd (W.heap.size<w2.heap.size):=Z_ (Zj cx.o.1);have bg:Hd (∀i,w2.frozen? ⟨W.heap.size,i,none⟩=false):=Z_ (λ i=>(World.frozen?_of_block (w:=W.alloc (.cells #[.slice none 0 0,.slice none 0 0,.slice none 0 0] 156)) (a:=⟨W.heap.size,i,none⟩) (dp.o.block _ (by show W.heap.size<_;rw[z00];exact zk _))).trans (HZ.o i))
 go_upto_region 4 with fail
 go_cut [9] (λ s9 wx=>∃bd bp bq,s9=.pointer (some ⟨bd,0,none⟩)/\Hd (Own W.heap.size wx.heap.size W.heap.size w2.heap.size bd bp bq)/\Hd (RestAt 35 wx W.heap.size bd bp bq m (.slice af nf cf) (List.replicate m 0) (λ _=>.slice none 0 0))/\Hd (CalcAt wx w2.heap.size (.pointer am) 0)/\Hd (Ext w2 wx))
 case first=>
  go_region_held3 (λ _=>True) (exact trivial) (fail)
  all_goals
   go_wp2_with fail
   go_meet
   obtain⟨k0,k1,k2⟩:=cx.o
   first
    |with_reducible exact Fl bn.o k0 k1 k2 bg.o
    |with_reducible exact Iw bn.o k0 k1 k2 bg.o
    |with_reducible exact Hm bn.o k0 k1 k2 bg.o
    |with_reducible exact Br bn.o k0 k1 k2 bg.o
    |with_reducible exact Kb bn.o k0 k1 k2 bg.o
    |with_reducible exact GA bn.o k0 k1 k2 bg.o
 case rest=>
  obtain⟨bd,bp,bq,rfl,y,ha,ho,j6⟩:=hcut;have az:=Z_ (ba.o.trans j6.o);obtain⟨bc,cR⟩:∃n,n=w2.heap.size:=⟨_,rfl⟩
  obtain⟨br,aF⟩:∃n,n=W.heap.size:=⟨_,rfl⟩
  obtain⟨hi,c0⟩:∃n,n=wc.heap.size:=⟨_,rfl⟩
  rw[<-aF,<-cR,<-c0]at y;rw[<-aF]at ha;rw[<-cR]at ho;rw[<-cR,<-aF];have au:=Z_ aF;have c7:=Z_ c0;have I:Hd (∀b,o=some b->b<br):=Z_ (λ b hb=>by rw[aF];exact jn.o b hb);have hZ:Hd (br<=hi):=Z_ (by rw[aF,c0];exact az.o.size);clear cR aF c0 kc la;go_wp2
  go_loopw [10] (λ i wr=>∃(k:Nat) (s1:MSt) (vr:Value) (r1:PZ) (ac:List Int) (V:Nat->Value) (K:List PZ),k<=m/\i=.int .i64 ((k:Int)-1)/\Hd (MV wr o s1)/\Hd (Gx o br hi wc wr)/\Hd (RestAt 35 wr br bd bp bq m vr ac V)/\Hd (CalcAt wr bc (.pointer am) 0)/\Hd (PX o br hi wr vr r1)/\Hd (∃A T,Fit A T r1/\A<=1000000/\T<=1000000000000)/\Hd (CofV hi o wr m V K)/\Hd (Wx o true ls k s1 r1 K)/\Hd (Xe o true ls k s1 r1 ac K=X)/\Hd (ac.length=m/\∀z∈ac,Zv z)) (λ i _=>(intOf i+1).toNat)
  case atStart=>
   refine⟨m,s,.slice af nf cf,f,List.replicate m 0,λ _=>.slice none 0 0,List.replicate m [],zR _,rfl,Z_ (HM.o.ext az.o),Z_ (Gx.refl _ _ _ _),ha,ho,Z_ ?_,Z_ ⟨A,T,li.o,i1.o.1,by have:=i1.o.2;omega⟩,Z_ ?_,Z_ ?_,Z_ ?_,Z_ ⟨by simp,λ z hz=>?_⟩⟩
   ·rw[jb.o];have h:=HF.o;refine h.to (uM az.o (λ _ h=>h.1)) (λ k hk=>⟨zU hk.1 az.o.size,hk.2,λ e=>?_⟩);have h1:=hk.1;have O:=e.1;rw[au.o]at O;omega
   ·refine⟨by simp,λ i hi=>?_⟩;rw[zH,wF]
    split<;>exact z06.nilv _ _ _ _ (by decide)
   ·rw[bv.o];exact kp.o
   ·rw[HX.o,bv.o]
   ·rw[List.eq_of_mem_replicate hz];unfold Zv;omega
  case round=>
   obtain⟨k,s1,vr,r1,ac,V,K,hk,rfl,gF,HG,aN,cB,cG,i7,g3,e4,gl,cc⟩:=hrel;have cu:Hd (W.grownBy wr o):=Z_ (((VY az.o).trans HG.o).gb (by rw[au.o];exact zR _))
   cases k with
   |zero=>
    have ay:Hd (X=(0,s1,r1,ac,K)):=Z_ gl.o.symm
    have ed:Hd (Calls Tryz.prog 84 #[vr,.slice none 0 0] wr (Wg wr r1)):=Z_ (by
     obtain⟨A',T',fr,kC,hT'⟩:=i7.o;have hn:PV wr (.slice none 0 0) []:=z06.nilv _ _ _ _ (by decide);have h:=TJ (q:=[]) cG.o.pv hn fr VU kC (by omega) (by omega)
     rwa [show Zr (r1 ++ [])=r1 by rw[yj];exact Sk fr.can]at h)
    obtain⟨ar,cr,rfl⟩:=cG.o.form;obtain⟨nr,bf⟩:∃n,n=(Z5 r1).length:=⟨_,rfl⟩
    rw[<-bf]at ed aN;have e2:=aN.o.d2;clear bf;go_wp2_with fail;(with_reducible refine ed.o.mono ?_);rintro e w6 ⟨v6,rfl,ft,eo⟩;have hs:=Z_ eo;have av:=Z_ (aN.o.gb y.o.toOwn3 I.o (Y7 eo o));have f3:=Z_ ft;obtain⟨a6,c6,rfl⟩:=ft.form;obtain⟨n6,er⟩:∃n,n=(Z5 r1).length:=⟨_,rfl⟩
    rw[<-er]at f3⊢;have hB:=Z_ er;have bb:Hd (hi<=wr.heap.size):=Z_ (by rw[c7.o];exact HG.o.size);have D:=Z_ (av.o.setD y.o.toOwn3 (.slice a6 n6 c6));obtain⟨W7,ae⟩:∃Y,Y=w6.setCell ⟨bd,2,none⟩ (.slice a6 n6 c6):=⟨_,rfl⟩
    rw[<-ae]at D;have ah:=Z_ ae;clear e2 ft eo er ae;have k2:=av.o.d2;have kz:=av.o.dz 2;have hO:=Z_ ((gF.o.ext hs.o).set (W:=w6) (a:=⟨bd,2,none⟩) (bd:=bd) (λ b hb e=>by have h1:=I.o b hb;have O:=y.o.d.1;omega) rfl (.slice a6 n6 c6));rw[<-ah.o]at hO;have f9:Hd (Gx o br hi wr W7):=Z_ (by rw[ah.o];exact(VY hs.o).trans (V9 w6 (a:=⟨bd,2,none⟩) y.o.d.1 y.o.d.2 _));have f5:Hd (W.grownBy W7 o):=Z_ ((((VY az.o).trans HG.o).trans f9.o).gb (by rw[au.o];exact zR _));have kb:=Z_ (g3.o.gx (zR _) f9.o)
    have kk:Hd (PMN hi o W7 (.slice a6 n6 c6) r1):=Z_ (by
     rw[hB.o]at f3;have h:=f3.o;rw[<-hB.o]at h
     refine h.to (λ k hk=>?_) (λ k hk=>⟨zT bb.o hk.1,?_,λ e=>?_⟩)
     ·rw[ah.o];exact Yx w6 ⟨bd,2,none⟩ _ (λ e=>by have h1:=hk.1;have O:=y.o.d.2;have h3:=bb.o;have e2:k=bd:=e;omega)
     ·rw[ah.o];exact zU hk.2 (V9 (o:=o) (lo:=br) (hi:=hi) w6 (a:=⟨bd,2,none⟩) y.o.d.1 y.o.d.2 _).size
     ·have h1:=I.o k e.symm;have O:=hk.1;have h3:=bb.o;have h4:=hZ.o;omega)
    have d0:=D.o.d0;have d1:=D.o.d1;have d2:=D.o.d2;have y0:=D.o.r0;have y1:=D.o.r1;have y2:=D.o.r2;have z0:=D.o.rz 0;have z1:=D.o.rz 1;have z2:=D.o.rz 2;rw[ah.o]at d0 d1 d2 y0 y1 y2 z0 z1 z2;have f0:=Rl (a:=.slice (some ⟨bp,0,none⟩) m m) (b:=.slice (some ⟨bq,0,none⟩) m m) (c:=.slice a6 n6 c6) D.o.r0;have f1:=Rj (a:=.slice (some ⟨bp,0,none⟩) m m) (b:=.slice (some ⟨bq,0,none⟩) m m) (c:=.slice a6 n6 c6) D.o.r1;have f2:=Q3 (a:=.slice (some ⟨bp,0,none⟩) m m) (b:=.slice (some ⟨bq,0,none⟩) m m) (c:=.slice a6 n6 c6) D.o.r2;have aa:=Z_ (DT y.o au.o I.o hO.o f5.o D.o kk.o kb.o cc.o.1 cc.o.2 (by unfold maxLen;omega));rw[ah.o]at f0 f1 f2 aa;unfold Xw at f0 f1 f2 aa;go_wp2
    all_goals
     refine bodyPost_ret (v:=.tuple #[.agg #[.slice (some ⟨bp,0,none⟩) m m,.slice (some ⟨bq,0,none⟩) m m,.slice a6 n6 c6],.int .i64 0]) (by simp[results,Tryz.results79,go_sem,f0,f1,f2]) rfl ?_;rw[ay.o];exact aa.o
   |succ q=>
    have k8:((q+1:Nat):Int)-1=(q:Int):=by omega
    have b7:q<m:=by omega
    have j5:=Z_ e4.o.1;obtain⟨⟨A2,T2,B2,M2,fp,eq,k3,fR,bB,dF,a8⟩,ct,ds⟩:=j5.o;have HPF:Hd (Fit A2 T2 (ls.getD q [])/\A2<24/\1<=T2/\T2<=1000000):=Z_ ⟨fp,eq,fR,bB⟩;have dm:(Zd o true ls q s1 r1).n<=10001:=GT (o:=o) (keep:=true) (s:=s1) (g:=ls.getD q []) (v:=ZL (ls.getD q [])) a8.now.2.can.may;have el:Fit B2 M2 (Zd o true ls q s1 r1).r:=(JU _ _ _ _ _ a8).2;have i6:M2<=2*T2*M2:=yk M2 (by omega);have kR:Hd (Kept (NB o W) W wr):=Z_ (λ b hb=>cu.o.block b hb.1 hb.2);have cn:Hd (∀b,NB o W b->NX o br hi wr b):=Z_ (λ b hb=>⟨zU hb.1 cu.o.size,hb.2,λ e=>by have h1:=hb.1;have O:=e.1;rw[au.o]at O;omega⟩);obtain⟨bl,ol,vl,rfl,-,hl1,hl2,bx,en,fv⟩:=(HL.o.to kR.o (λ _ h=>h)).cellAt (Re (k:=q) (l:=ls) (by rw[<-bv.o];exact b7));have fq:=Z_ (fv.to (S':=NX o br hi wr) (uN _ _) cn.o);have CC:=Z_ (λ(Y:World) (U:Ext wr Y)=>Lx (PX.pv (PX.on fq.o (VY U))) fp (by omega));have fG:∀Y:World,Ext wr Y->Calls Tryz.prog 116 #[ZK o,vr,vl,.int .i64 (ZL (ls.getD q []))] Y (NA Y o (Zd o true ls q s1 r1)):=λ(Y:World) (U:Ext wr Y)=>Dy (gF.o.ext U) (PX.pm (PX.on cG.o (VY U))) (PX.pm (PX.on fq.o (VY U))) fp a8 eq (by omega) fR bB dF ct ds;rw[<-ch.o]at fG;have CR:=Z_ fG;have b4:=Z_ e4.o.2.1;have aR:=Z_ e4.o.2.2;have b1:=gl.o;rw[Xe]at b1;have aS:Hd (∃A T,Fit A T (Zd o true ls q s1 r1).r/\A<=1000000/\T<=1000000000000):=Z_ ⟨B2,M2,el,by omega,by omega⟩;generalize Zd o true ls q s1 r1=R at CR b4 aR b1 dm aS;obtain⟨re,rq,rr,rn,rs⟩:=R;simp only at b4 aR b1 dm aS;have hQ:=Z_ dm;have a7:=Z_ b1;have HLW:=Z_ aN.o.lts;have HLC:=Z_ cB.o.lt;obtain⟨ar,cr,rfl⟩:=cG.o.form;obtain⟨i4,h8,rfl⟩:=fv.form;obtain⟨nr,bf⟩:∃n,n=(Z5 r1).length:=⟨_,rfl⟩
    obtain⟨gk,a0⟩:∃n,n=(Z5 (ls.getD q [])).length:=⟨_,rfl⟩
    rw[<-bf,<-a0]at CR;rw[<-a0]at CC en;rw[<-bf]at aN;have jp:=Z_ a0
    have c8:Hd (∀Y:World,wr.grownBy Y o->Y.cell? ⟨bl,ol+q,none⟩=some (.slice i4 gk h8)/\Y.cell? ⟨bd,2,none⟩=some (.slice ar nr cr)):=Z_ (λ Y U=>
     ⟨(World.cell?_of_block (U.block bl (cn.o bl bx).1 bx.2)).trans en,(aN.o.gb y.o.toOwn3 I.o U).d2⟩)
    have x0:=Below.drew (uP wr);have ay:Hd (Ext wr _):=Z_ x0;have S0:=c8.o _ (Y7 ay.o o);have b2:=Z_ (CC.o _ x0);clear fp eq k3 fR bB dF a8 ct ds fv bf a0 en x0 b1 fG dm el i6;simp only[k8];go_wp2
    go_region_held3 (λ Y=>Y.cell? ⟨bl,ol+q,none⟩=some (.slice i4 gk h8)/\Y.cell? ⟨bd,2,none⟩=some (.slice ar nr cr)) (first|exact S0|exact S1|exact S2)
     (first
    | (go_at_call 31;refine b2.o.mono ?_
       rintro e u1 ⟨rfl,bN⟩;have ax:Hd (Ext wr u1):=Z_ (Ext.trans ay.o bN);have S1:=c8.o _ (Y7 ax.o o);have bt:=Z_ (CR.o u1 ax.o);clear bN)
    | (go_at_call 116;refine bt.o.mono ?_
       rintro e u2 ⟨q2,x2,rfl,cm,aG,f4,e5⟩;have b6:=Z_ (YV (Y7 ax.o o) aG);have S2:=c8.o _ b6.o;have c4:=Z_ cm;have g0:=Z_ (f4.low (zT (xC rfl) ax.o.size));have cx:=Z_ (e5.low ax.o.size);have qf:=e5.form;obtain⟨a2,c2,rfl⟩:=qf;obtain⟨n2,fl⟩:∃n,n=(Z5 rr).length:=⟨_,rfl⟩;rw[<-fl]at cx;rw[<-fl];have qf:=f4.form;obtain⟨a3,c3,rfl⟩:=qf;obtain⟨n3,fu⟩:∃n,n=(Z5 rq).length:=⟨_,rfl⟩;rw[<-fu]at g0;rw[<-fu];clear cm aG f4 e5 fl fu))
    all_goals
     have ba:=Z_ (Mb (lo:=br) (hi:=hi) b6.o);have J:=Z_ (aN.o.gb y.o.toOwn3 I.o b6.o);have gv:=Z_ (cB.o.gb b6.o (λ e=>by have h1:=I.o bc e.symm;have O:=y.o.c.1;omega));have hH:=Z_ (g3.o.gx (zR _) ba.o);have bb:Hd (hi<=wr.heap.size):=Z_ (by rw[c7.o];exact HG.o.size);have hK:Hd (W.grownBy u2 o):=Z_ (YV cu.o b6.o);clear S0 S1 S2
     by_cases h0:re=0
     ·subst h0;have av:=Z_ (J.o.setQ y.o.toOwn3 q (.slice a3 n3 c3));have D:=Z_ (av.o.setD y.o.toOwn3 (.slice a2 n2 c2));have cy:=Z_ (D.o.setP y.o.toOwn3 q (rn:Int) (by rw[cc.o.1];exact b7));obtain⟨W6,aC⟩:∃Y,Y=u2.setCell ⟨bq,q,none⟩ (.slice a3 n3 c3):=⟨_,rfl⟩
      rw[<-aC]at av D cy;obtain⟨W7,ae⟩:∃Y,Y=W6.setCell ⟨bd,2,none⟩ (.slice a2 n2 c2):=⟨_,rfl⟩
      rw[<-ae]at D cy;obtain⟨W8,bs⟩:∃Y,Y=W7.setCell ⟨bp,q,none⟩ (.int .i64 (rn:Nat)):=⟨_,rfl⟩
      rw[<-bs]at cy
      have bu:Hd (Gx o br hi u2 W8):=Z_ (by
       have g6:Gx o br hi u2 W6:=by rw[aC];exact V9 _ (a:=⟨bq,q,none⟩) y.o.q.1 y.o.q.2 _
       have g7:Gx o br hi W6 W7:=by rw[ae];exact V9 _ (a:=⟨bd,2,none⟩) y.o.d.1 y.o.d.2 _
       have g8:Gx o br hi W7 W8:=by rw[bs];exact V9 _ (a:=⟨bp,q,none⟩) y.o.p.1 y.o.p.2 _
       exact(g6.trans g7).trans g8)
      have hL:Hd (MV W8 o rs):=Z_ (by
       have et:∀k,br<=k->∀b,o=some b->b≠k:=λ k hk b hb=>by have:=I.o b hb;omega
       rw[bs,ae,aC]
       exact((c4.o.set (et bq y.o.q.1) (a:=⟨bq,q,none⟩) rfl _).set (et bd y.o.d.1) (a:=⟨bd,2,none⟩) rfl _).set (et bp y.o.p.1) (a:=⟨bp,q,none⟩) rfl _)
      have fm:Hd (CalcAt W8 bc (.pointer am) 0):=Z_ (gv.o.same (by
       rw[bs,ae,aC]
       exact((Yx _ ⟨bp,q,none⟩ _ y.o.cp).trans (Yx _ ⟨bd,2,none⟩ _ y.o.cd)).trans (Yx _ ⟨bq,q,none⟩ _ y.o.cq)))
      have f7:Hd (PX o br hi W8 (.slice a2 n2 c2) rr):=Z_ (PX.on (PMN.px (hi:=hi) cx.o bb.o) bu.o);have gN:Hd (CofV hi o W8 m (Yc V q (.slice a3 n3 c3)) (K.set q rq)):=Z_ ((hH.o.gx (zR _) bu.o).set b7 (PMN.gx (PMN.low g0.o bb.o) (zR _) bu.o));have bA:Hd (Gx o br hi wc W8):=Z_ ((HG.o.trans ba.o).trans bu.o)
      have he:Hd ((ac.set q (rn:Int)).length=m/\∀z∈ac.set q (rn:Int),Zv z):=Z_ ⟨by rw[yy];exact cc.o.1,λ z hz=>by
       rcases yq hz with h|h
       ·exact cc.o.2 z h
       ·rw[h];unfold Zv;have h1:=hQ.o;omega⟩
      have h7:=Z_ aC;have ah:=Z_ ae;have hE:=Z_ bs;have d0:=J.o.d0;have d1:=J.o.d1;have d2:=av.o.d2;have dz:=av.o.dz 2;have q1:=J.o.Q.cell b7;have qz:=J.o.Q.frozen q;have p1:=D.o.P.cell b7;have pz:=D.o.P.frozen q;rw[ae]at p1 pz;rw[aC]at d2 dz p1 pz;clear aC ae bs
      by_cases cA:rn=0
      ·have hR:Hd (YF o true (ls.getD q []) ls.length q ⟨0,rq,rr,rn,rs⟩ K=(0,rs,K.set q rq)):=Z_ (by
        unfold YF
        rw[if_neg (λ h=>h rfl),if_pos (.inl cA)])
       have i0:Hd (Xe o true ls q rs rr (ac.set q (rn:Int)) (K.set q rq)=X):=Z_ (by
        have h:=a7.o;rw[hR.o]at h
        exact(if_neg (λ h=>h rfl)).symm.trans h)
       have id:Hd (Wx o true ls q rs rr (K.set q rq)):=Z_ (by
        have h:=aR.o;rw[hR.o]at h
        exact h rfl)
       subst cA;go_wp2
       go_roundw
       case rel=>
        have aB:W8=W7.setCell ⟨bp,q,none⟩ (.int .i64 0):=hE.o;rw[ah.o,h7.o]at aB;rw[<-aB];exact⟨q,rs,.slice a2 n2 c2,rr,ac.set q ((0:Nat):Int),Yc V q (.slice a3 n3 c3),K.set q rq,by omega,by go_num,hL,bA,cy,fm,f7,aS,gN,id,i0,he⟩
       case measure=>simp only[intOf];omega
      ·have cb:=b4.o rfl cA trivial;obtain⟨P,hP⟩:∃P,P=(powN (Y_ (ls.getD q [])) rn).getD []:=⟨_,rfl⟩
       have b3:rn<=100:=cb.hn;have hpow:powN (Y_ (ls.getD q [])) rn=some P:=by rw[hP];exact cb.pow
       have d8:Hd ((z1b o rs P).1=0->zji o P m (m-(q+1)) (z1b o rs P).2 (K.set q rq)):=Z_ (by rw[hP,bv.o];exact cb.cof);obtain⟨A3,T3,eu,ga,ht,ec,d3⟩:=cb.ex;have co:T3^rn<=1000000000000:=d3;obtain⟨Y,U⟩:∃Y,Y=YF o true (ls.getD q []) ls.length q ⟨0,rq,rr,rn,rs⟩ K:=⟨_,rfl⟩
       have HY:Hd (Y=if(z1b o rs P).1≠0 then((z1b o rs P).1,(z1b o rs P).2,[]) else cofD o P m (m-(q+1)) (z1b o rs P).2 (K.set q rq)):=Z_ (by
        rw[U,bv.o,hP];unfold YF
        rw[if_neg (λ h=>h rfl),if_neg (λ h=>by rcases h with h|h;exact cA h;cases h)])
       have kS:Hd (Y.1≠0->X=(Y.1,Y.2.1,[],[],[])):=Z_ (λ hy=>by
        have h:=a7.o;rw[<-U]at h
        exact((if_pos hy).symm.trans h).symm)
       have kB:Hd (Y.1=0->Xe o true ls q Y.2.1 rr (ac.set q (rn:Int)) Y.2.2=X/\Wx o true ls q Y.2.1 rr Y.2.2):=Z_ (λ hy=>by
        have h:=a7.o;have O:=aR.o;rw[<-U]at h O
        exact⟨(if_neg (λ k=>k hy)).symm.trans h,O hy⟩)
       have e3:Hd (∀b,o=some b->b≠bc):=Z_ (λ b hb=>by have h1:=I.o b hb;have O:=y.o.c.1;omega);have g5:Hd (CalcAt W8 bc (ZK o) 0):=Z_ (by rw[<-ch.o];exact fm.o);have hS:=Z_ (PX.on fq.o (ba.o.trans bu.o));have CI:=Mu (PX.pv hS.o) eu (by omega) ec;have hU:=λ(Y:World) (u:Value) (U:Ext W8 Y) (hu:PC o bc Y u (Y_ (ls.getD q [])))=>Ag (g5.o.ext U) (hL.o.ext U) e3.o hu eu.init ga ht b3 co hpow;have CP:=Z_ hU;rw[<-jp.o]at CI;have k7:=Z_ CI;have k1:=World.cell?_of_block ((ba.o.trans bu.o).block bl (cn.o bl bx).1 (cn.o bl bx).2.1 (cn.o bl bx).2.2) (a:=⟨bl,ol+q,none⟩);rw[(c8.o wr (WY _ _)).1]at k1;have aB:W8=_:=hE.o;rw[ah.o,h7.o]at aB;rw[aB]at k1;have k4:=Z_ aB;have q0:((rn:Int) == 0)=false:=by rw[beq_eq_false_iff_ne];omega
       clear cb hpow eu ga ht ec d3 co b3 hU CI aB hP U;go_wp2_with fail;rw[<-k4.o];(with_reducible refine k7.o.mono ?_);rintro e w9 ⟨vi,rfl,eP,eR⟩;have e9:=Z_ eR;have d4:=Z_ fm.o.lt;have j4:=Z_ (eP.to (S':=NC o bc w9) (uN _ _) (λ b hb=>⟨hb.2,λ e=>by have h1:=I.o b e.symm;have O:=y.o.c.1;have h3:=d4.o;have h4:=hb.1;omega,λ e=>by have:=hb.1;have:=d4.o;omega⟩));have hv:=Z_ (CP.o w9 vi eR j4.o);obtain⟨ai,ci,rfl⟩:=eP.form;obtain⟨ni,f6⟩:∃n,n=(Z5 (Y_ (ls.getD q []))).length:=⟨_,rfl⟩
       rw[<-f6]at hv⊢;clear eR eP f6 k1 d0 d1 d2 dz q1 qz p1 pz;go_wp2_with fail;(with_reducible refine hv.o.mono ?_);rintro e fA ⟨jj,rfl,eh,ei,cv,ca⟩;have hG:Hd (hi<=W8.heap.size):=Z_ (by rw[c7.o];exact bA.o.size);have hr:Hd (hi<=w9.heap.size):=Z_ (zT hG.o e9.o.size);have d6:Hd (Gx o br hi W8 fA):=Z_ ((VY e9.o).trans (Ru cv y.o.c.1 y.o.c.2));have eg:=Z_ eh;have dt:=Z_ ei;have g4:=Z_ ((cy.o.gb y.o.toOwn3 I.o (Y7 e9.o o)).gd y.o I.o cv);have d9:=Z_ (gN.o.gx (zR _) d6.o);have hp:Hd (PX o br hi fA jj P):=Z_ (ca.to (uN _ _) (λ k h=>⟨h.2.1,h.2.2.1,by have h1:=hr.o;have O:=h.1;omega⟩));obtain⟨ap,cp,rfl⟩:=ca.form;obtain⟨np,fz⟩:∃n,n=(Z5 P).length:=⟨_,rfl⟩
       have kP:=Z_ fz;rw[<-fz];clear eh ei cv ca fz;obtain⟨e1,fn⟩:∃z,z=(z1b o rs P).1:=⟨_,rfl⟩
       obtain⟨s2,fd⟩:∃z,z=(z1b o rs P).2:=⟨_,rfl⟩
       rw[<-fn,<-fd]at HY d8;rw[<-fn]at eg;rw[<-fd]at dt;clear fn fd;go_wp2
       go_loopw [17] (λ i wr=>∃(t:Nat) (e2:Int) (s3:MSt) (V3:Nat->Value) (ag:List PZ),t+(q+1)<=m/\i=.int .i64 ((m-t:Nat):Int)/\Hd (Gx o br hi fA wr)/\Hd (MV wr o s3)/\Hd (RestAt 35 wr br bd bp bq m (.slice a2 n2 c2) (ac.set q (rn:Int)) V3)/\Hd (CalcAt wr bc (.pointer am) e2)/\Hd (zti m V3)/\Hd (e2=0->CofV hi o wr m V3 ag/\zji o P m t s3 ag/\cofD o P m t s3 ag=Y)/\Hd (e2≠0->Y=(e2,s3,[]))) (λ i _=>m-(intOf i).toNat)
       case atStart=>
        refine⟨m-(q+1),e1,s2,Yc V q (.slice a3 n3 c3),K.set q rq,by omega,by go_num,Z_ (Gx.refl _ _ _ _),dt,g4,Z_ (by rw[ch.o];exact eg.o),Z_ d9.o.form,Z_ (λ h0=>⟨d9.o,d8.o h0,?_⟩),Z_ (λ h0=>?_)⟩
        ·rw[HY.o,if_neg (λ k=>k h0)]
        ·rw[HY.o,if_pos h0]
       case round=>
        obtain⟨t,e2,s3,V3,ag,htm,rfl,db,cQ,ad,aq,fg,d7,fx⟩:=hrel;have cF:=Z_ (d6.o.trans db.o)
        cases t with
        |zero=>
         by_cases O:e2=0
         ·have hh:=d7.o O;have cz:Hd (Y=(0,s3,ag)):=Z_ hh.2.2.symm;have hy:=kB.o (by rw[cz.o]);rw[cz.o]at hy;have em:=Z_ hh.1;have h6:=Z_ hy.1;have ih:=Z_ hy.2;subst O;have c1:=aq.o.c1;clear hh hy;go_wp2
          go_roundw
          case rel=>exact⟨q,s3,.slice a2 n2 c2,rr,ac.set q (rn:Int),V3,ag,by omega,by go_num,cQ,Z_ (bA.o.trans cF.o),ad,aq,Z_ (PX.on f7.o cF.o),aS,em,ih,h6,he⟩
          case measure=>simp only[intOf];omega
         ·have fB:Hd (X=(e2,s3,[],[],[])):=Z_ (by
           have h:=kS.o (by rw[fx.o O];exact O)
           rwa [fx.o O]at h)
          have gq:Hd (W.grownBy wr.drew o):=Z_ (Sb ((((VY az.o).trans bA.o).trans cF.o).gb (by rw[au.o];exact zR _)));have qe:(e2 != 0)=true:=by rw[bne_iff_ne];exact O
          have c1:=aq.o.c1;have y0:wr.cell? ⟨br,0,none⟩=some (.slice none 0 0):=ad.o.r0;have y1:wr.cell? ⟨br,1,none⟩=some (.slice none 0 0):=ad.o.r1;have y2:wr.cell? ⟨br,2,none⟩=some (.slice none 0 0):=ad.o.r2;have z0:wr.frozen? ⟨br,0,none⟩=false:=ad.o.rz 0;have z1:wr.frozen? ⟨br,1,none⟩=false:=ad.o.rz 1;have z2:wr.frozen? ⟨br,2,none⟩=false:=ad.o.rz 2;have f0:=Rl (a:=.slice none 0 0) (b:=.slice none 0 0) (c:=.slice none 0 0) y0;have f1:=Rj (a:=.slice none 0 0) (b:=.slice none 0 0) (c:=.slice none 0 0) y1;have f2:=Q3 (a:=.slice none 0 0) (b:=.slice none 0 0) (c:=.slice none 0 0) y2;have aa:=Z_ (Pe (Y:=wr.drew) (e:=e2) y.o.r.2 au.o I.o (cQ.o.ext (Below.drew (uP wr))) gq.o);unfold Xw at f0 f1 f2 aa;have e7:=Z_ y.o.rc;have S0:wr.drew.cell? ⟨bc,1,none⟩=some (.int .i64 e2):=aq.o.c1;clear O;go_wp2
          go_region_held3 (λ Y=>Y.cell? ⟨bc,1,none⟩=some (.int .i64 e2)) (first|exact S0|exact ZZ (ZZ (ZZ S0 (ab e7.o)) (ab e7.o)) (ab e7.o)) (fail)
          all_goals
           go_wp2;refine bodyPost_ret (v:=.tuple #[.agg #[.slice none 0 0,.slice none 0 0,.slice none 0 0],.int .i64 e2]) (by simp[results,Tryz.results79,go_sem,f0,f1,f2]) rfl ?_;rw[fB.o];exact aa.o
        |succ t=>
         obtain⟨j,hj⟩:∃j,j=m-(t+1):=⟨_,rfl⟩
         have hN:Hd (m-t=j+1):=Z_ (by omega);have bm:j<m:=by omega
         rw[<-hj];have HJ:=Z_ hj;have d5:Hd (hi<=wr.heap.size):=Z_ (by rw[c7.o];exact zT bA.o.size cF.o.size);obtain⟨aj,nj,cj,c9⟩:=fg.o j bm;have k0:wr.cell? ⟨bq,j,none⟩=some (.slice aj nj cj):=by rw[<-c9];exact ad.o.Q.cell bm
         have S0:wr.cell? ⟨bd,1,none⟩=some (.slice (some ⟨bq,0,none⟩) m m):=ad.o.d1;have HQD:Hd (bq≠bd):=Z_ y.o.dq.symm;have HKF:=Z_ (zS k0 (ad.o.Q.frozen j))
         by_cases O:e2=0
         ·obtain⟨aP,hI,cP⟩:=d7.o O;rw[zji,<-hj]at hI;rw[cofD,<-hj]at cP;obtain⟨⟨⟨k5,n5,l5,m5,fc,fP,h9,kH,lb,a9,kN,gf⟩,aH⟩,aA⟩:=hI;obtain⟨c,hc⟩:∃c,c=(ZI (ag.getD j []) P).getD []:=⟨_,rfl⟩
          rw[<-hc]at aH aA cP;have hg:=Z_ aP;have k9:=Z_ aA;have gg:=Z_ cP;subst O;have e0:=aP.2 j bm;have hq:=PX.on hp.o db.o;rw[c9]at e0;have eB:=λ(Y:World) (U:Ext wr Y)=>O1 (aq.o.ext U) (z06.on (PMN.pv e0) U) (z06.on (PX.pv hq) U) fc fP h9 (by omega) (by omega) gf aH;rw[<-kP.o]at eB;have j3:=Z_ eB;have cB:=Z_ (λ(Y:World) (u:Value) (U:Gd none bc wr Y) (hD:CalcAt Y bc (ZK o) 0) (hu:PM o Y u c)=>M6 hD (cQ.o.gdn U e3.o) e3.o hu);have b2:=Z_ (j3.o _ (Below.drew (uP wr)));have HBC:=Z_ aq.o.lt;clear cP fc fP h9 kH lb a9 kN gf aH aA hc aP e0 hq eB c9 hj;go_wp2
          first
           |go_region_with
             (first
            | (go_at_call 117;refine b2.o.mono ?_
               rintro e u1 ⟨x1,rfl,g2,gu,fk⟩;have cg:Hd (Gd none bc wr u1):=Z_ ((Y8 (Below.drew (uP wr))).trans gu);have dG:=Z_ (ad.o.gdn y.o cg.o);have S1:=dG.o.d1;have g1:Hd (PMN hi o u1 x1 c):=Z_ (fk.to (uN _ _) (λ k h=>⟨zT d5.o h.1,h.2,λ e=>by have a1:=I.o k e.symm;have a2:=h.1;have a3:=d5.o;have a4:=hZ.o;have a5:wr.heap.size<=k:=h.1;omega⟩));have bt:=Z_ (cB.o u1 x1 cg.o (by rw[<-ch.o];exact g2) g1.o.pm);have qf:=fk.form;obtain⟨a5,c5,rfl⟩:=qf;obtain⟨n5,a9⟩:∃n,n=(Z5 c).length:=⟨_,rfl⟩;have i8:=Z_ a9;rw[<-a9]at bt;rw[<-a9];clear g2 gu fk a9)
            | (go_at_call 120;refine bt.o.mono ?_
               rintro e u2 ⟨rfl,i2,cm,aG⟩;have Z:=Z_ (dG.o.gd y.o I.o aG);have S2:=Z.o.d1;have k6:=Z_ i2;have c4:=Z_ cm;have hd:Hd (Gd o bc wr u2):=Z_ (cg.o.of_none.trans aG);have cu:=Z_ aG;have k1:=Z.o.Q.cell bm;have k2:=Z.o.Q.frozen j;clear i2 cm aG))
           |fail
          all_goals
           have ep:=Z_ (Z.o.setQ y.o.toOwn3 j (.slice a5 n5 c5));have dr:Hd (Gx o br hi wr u2):=Z_ (Ru hd.o y.o.c.1 y.o.c.2);have ce:Hd (Gx o br hi u2 (u2.setCell ⟨bq,j,none⟩ (.slice a5 n5 c5))):=Z_ (V9 u2 (a:=⟨bq,j,none⟩) y.o.q.1 y.o.q.2 _);have fh:Hd (MV (u2.setCell ⟨bq,j,none⟩ (.slice a5 n5 c5)) o (z1b o s3 c).2):=Z_ (c4.o.set (a:=⟨bq,j,none⟩) (bd:=bq) (λ b hb e=>by have h1:=I.o b hb;have O:=y.o.q.1;omega) rfl _);have fF:Hd (CalcAt (u2.setCell ⟨bq,j,none⟩ (.slice a5 n5 c5)) bc (.pointer am) (z1b o s3 c).1):=Z_ (by rw[ch.o];exact k6.o.same (Yx u2 ⟨bq,j,none⟩ _ y.o.cq))
           have hV:Hd (PMN hi o (u2.setCell ⟨bq,j,none⟩ (.slice a5 n5 c5)) (.slice a5 n5 c5) c):=Z_ (by
            have h:=g1.o;rw[<-i8.o]at h
            exact PMN.gx h (zR _) ((Ru cu.o y.o.c.1 y.o.c.2).trans ce.o))
           have em:=Z_ ((hg.o.gx (zR _) (dr.o.trans ce.o)).set bm hV.o);go_wp2
           go_roundw
           case rel=>
            refine⟨t,(z1b o s3 c).1,(z1b o s3 c).2,Yc V3 j (.slice a5 n5 c5),ag.set j c,by omega,by rw[hN.o];go_num,Z_ ((db.o.trans dr.o).trans ce.o),fh,ep,fF,Z_ (fg.o.set j ⟨_,_,_,rfl⟩),Z_ (λ h0=>⟨em.o,k9.o h0,?_⟩),Z_ (λ h0=>?_)⟩
            ·have h:=gg.o
             rwa [if_neg (λ k=>k h0)]at h
            ·have h:=gg.o;rw[if_pos h0]at h;exact h.symm
           case measure=>simp only[intOf];omega
         ·have b2:Hd (∀Y:World,Ext wr Y->Calls Tryz.prog 117 #[.pointer (some ⟨bc,0,none⟩),.slice aj nj cj,.slice ap np cp] Y λ e w'=>e=.returned (.slice none 0 0)/\Ext Y w'):=Z_ (λ Y U=>(Bg (aq.o.ext U) ⟨_,_,_,rfl⟩ ⟨_,_,_,rfl⟩ O).mono (by rintro e w' ⟨rfl,rfl⟩;exact⟨rfl,uP _⟩));have bt:Hd (∀Y:World,Ext wr Y->Calls Tryz.prog 120 #[.pointer (some ⟨bc,0,none⟩),.slice none 0 0] Y λ e w'=>e=.returned (.slice none 0 0)/\Ext Y w'):=Z_ (λ Y U=>(Hp (aq.o.ext U) ⟨_,_,_,rfl⟩ O).mono (by rintro e w' ⟨rfl,rfl⟩;exact⟨rfl,uP _⟩));have gn:=Z_ (b2.o _ (Below.drew (uP wr)));have cz:=Z_ (fx.o O);have lc:=Z_ O;clear O hj c9;go_wp2
          first
           |go_region_with
             (first
            | (go_at_call 117;with_reducible refine gn.o.mono ?_
               rintro e u1 ⟨rfl,bN⟩;have ez:Hd (Ext wr u1):=Z_ ((Below.drew (uP wr)).trans bN);have S1:=(ad.o.gb y.o.toOwn3 I.o (Y7 ez.o o)).d1;have h5:=Z_ (bt.o u1 ez.o);clear bN)
            | (go_at_call 120;with_reducible refine h5.o.mono ?_
               rintro e u2 ⟨rfl,gG⟩;have cC:Hd (Ext wr u2):=Z_ (ez.o.trans gG);have Z:=Z_ (ad.o.gb y.o.toOwn3 I.o (Y7 cC.o o));have S2:=Z.o.d1;have k1:=Z.o.Q.cell bm;have k2:=Z.o.Q.frozen j;clear gG))
           |fail
          all_goals
           have ep:=Z_ (Z.o.setQ y.o.toOwn3 j (.slice none 0 0));have dr:Hd (Gx o br hi wr u2):=Z_ (VY cC.o);have ce:Hd (Gx o br hi u2 (u2.setCell ⟨bq,j,none⟩ (.slice none 0 0))):=Z_ (V9 u2 (a:=⟨bq,j,none⟩) y.o.q.1 y.o.q.2 _);have fh:Hd (MV (u2.setCell ⟨bq,j,none⟩ (.slice none 0 0)) o s3):=Z_ ((cQ.o.ext cC.o).set (a:=⟨bq,j,none⟩) (bd:=bq) (λ b hb e=>by have h1:=I.o b hb;have O:=y.o.q.1;omega) rfl _);have fF:Hd (CalcAt (u2.setCell ⟨bq,j,none⟩ (.slice none 0 0)) bc (.pointer am) e2):=Z_ ((aq.o.ext cC.o).same (Yx u2 ⟨bq,j,none⟩ _ y.o.cq));go_wp2
           go_roundw
           case rel=>
            exact⟨t,e2,s3,Yc V3 j (.slice none 0 0),ag,by omega,by rw[hN.o];go_num,Z_ ((db.o.trans dr.o).trans ce.o),fh,ep,fF,Z_ (fg.o.set j ⟨_,_,_,rfl⟩),Z_ (λ h0=>absurd h0 lc.o),Z_ (λ _=>cz.o)⟩
           case measure=>simp only[intOf];omega
     ·have fB:Hd (X=(re,rs,[],[],[])):=Z_ (by
       have h:=a7.o;have h1:YF o true (ls.getD q []) ls.length q ⟨re,rq,rr,rn,rs⟩ K=(re,rs,[]):=by unfold YF;exact if_pos h0
       rw[h1,if_pos h0]at h
       exact h.symm)
      have q0:(re != 0)=true:=by rw[bne_iff_ne];exact h0
      have y0:=J.o.r0;have y1:=J.o.r1;have y2:=J.o.r2;have z0:=J.o.rz 0;have z1:=J.o.rz 1;have z2:=J.o.rz 2;have f0:=Rl (a:=.slice none 0 0) (b:=.slice none 0 0) (c:=.slice none 0 0) y0;have f1:=Rj (a:=.slice none 0 0) (b:=.slice none 0 0) (c:=.slice none 0 0) y1;have f2:=Q3 (a:=.slice none 0 0) (b:=.slice none 0 0) (c:=.slice none 0 0) y2;have aa:=Z_ (Pe (e:=re) y.o.r.2 au.o I.o c4.o hK.o);unfold Xw at f0 f1 f2 aa;clear h0;go_wp2
      all_goals
       refine bodyPost_ret (v:=.tuple #[.agg #[.slice none 0 0,.slice none 0 0,.slice none 0 0],.int .i64 re]) (by simp[results,Tryz.results79,go_sem,f0,f1,f2]) rfl ?_;rw[fB.o];exact aa.o
end
section
open Go.RowKit
structure St8 (W4 wx:World) (o:Option Nat) (s8 s9:Value) (X:Int×MSt×PZ×List Int×List PZ) (bd:Nat) (vp vc vr:Value):Prop where
 p:s8=.pointer (some ⟨bd,0,none⟩)
 e:s9=.int .i64 X.1
 b:Bx3 bd wx vp vc vr
 m:MV wx o X.2.1
 g:W4.grownBy wx o
 lo:W4.heap.size<=bd
 r:z06 (λ k=>W4.heap.size<=k/\NB o wx k) wx vr (Z5 X.2.2.1)
 i:Ints (λ k=>W4.heap.size<=k/\NB o wx k) wx vp X.2.2.2.1
 c:z1w (λ k=>W4.heap.size<=k/\NB o wx k) wx vc (X.2.2.2.2.map Z5)
theorem St8.of{W4 Y w6 w7:World}{o:Option Nat}{X:Int×MSt×PZ×List Int×List PZ}{bd:Nat}{vp vc vr x0 x1 x2:Value}(h4:Ext W4 Y)(hb:Bx3 bd w7 x0 x1 x2)(hlo:W4.heap.size<=bd)(hm:MV w6 o X.2.1)(hg:Y.grownBy w6 o)(h67:Ext w6 w7)(hlt:bd<Y.heap.size∨w6.heap.size<=bd)(hob:∀b,o=some b->b<W4.heap.size)
  (hr:PMN Y.heap.size o w6 vr X.2.2.1) (hi:Ints (λ k=>Y.heap.size<=k/\NB o w6 k) w6 vp X.2.2.2.1) (hc:z1w (λ k=>Y.heap.size<=k/\NB o w6 k) w6 vc (X.2.2.2.2.map Z5)) :
  St8 W4 (((w7.setCell ⟨bd,0,none⟩ vp).setCell ⟨bd,1,none⟩ vc).setCell ⟨bd,2,none⟩ vr) o (.pointer (some ⟨bd,0,none⟩)) (.int .i64 X.1) X bd vp vc vr:=by
 have J:∀k,(Y.heap.size<=k/\NB o w6 k)->k≠bd:=λ k y e=>by
  have h1:=y.1;have h2:=y.2.1;omega
 have y:Kept (λ k=>Y.heap.size<=k/\NB o w6 k) w6 (((w7.setCell ⟨bd,0,none⟩ vp).setCell ⟨bd,1,none⟩ vc).setCell ⟨bd,2,none⟩ vr) :=
  (uM h67 (λ k y=>y.2.1)).trans (ux (S:=λ k=>Y.heap.size<=k/\NB o w6 k) (λ h=>J _ h rfl) vp vc vr)
 have D:∀k,(Y.heap.size<=k/\NB o w6 k)->W4.heap.size<=k/\NB o (((w7.setCell ⟨bd,0,none⟩ vp).setCell ⟨bd,1,none⟩ vc).setCell ⟨bd,2,none⟩ vr) k:=λ k y=>⟨zT h4.size y.1,by rw[UT];exact zU y.2.1 h67.size,y.2.2⟩;have I:Ge (λ k=>some k=o) W4 w7:=((YR h4).trans (Xf hg)).trans (YR h67);have K:=((I.setf (a:=⟨bd,0,none⟩) hlo vp).setf (a:=⟨bd,1,none⟩) hlo vc).setf (a:=⟨bd,2,none⟩) hlo vr;have z:∀b,o=some b->b≠bd:=λ b h=>by have:=hob b h;omega
 exact⟨rfl,rfl,hb.set3 vp vc vr,(((hm.ext h67).set z (a:=⟨bd,0,none⟩) rfl vp).set z (a:=⟨bd,1,none⟩) rfl vc).set z (a:=⟨bd,2,none⟩) rfl vr,K.gbo,hlo,hr.to y D,hi.to y D,hc.to y D⟩
theorem St8.new{T:TypeId}{W4 Y w6:World}{o:Option Nat}{X:Int×MSt×PZ×List Int×List PZ}{vp vc vr:Value}(h4:Ext W4 Y)(hm:MV w6 o X.2.1)(hg:Y.grownBy w6 o)
  (hr:PMN Y.heap.size o w6 vr X.2.2.1) (hi:Ints (λ k=>Y.heap.size<=k/\NB o w6 k) w6 vp X.2.2.2.1) (hc:z1w (λ k=>Y.heap.size<=k/\NB o w6 k) w6 vc (X.2.2.2.2.map Z5)) :
  St8 W4 (w6.alloc (.cells #[vp,vc,vr] T)) o (.pointer (some ⟨w6.heap.size,0,none⟩)) (.int .i64 X.1) X w6.heap.size vp vc vr:=by
 have z:Ext w6 (w6.alloc (.cells #[vp,vc,vr] T)):=uO (uP _) _;have y:Kept (λ k=>Y.heap.size<=k/\NB o w6 k) w6 (w6.alloc (.cells #[vp,vc,vr] T)):=uM z (λ k y=>y.2.1);have D:∀k,(Y.heap.size<=k/\NB o w6 k)->W4.heap.size<=k/\NB o (w6.alloc (.cells #[vp,vc,vr] T)) k:=λ k y=>⟨zT h4.size y.1,zU y.2.1 z.size,y.2.2⟩;exact⟨rfl,rfl,Bx3.fresh (uP _),hm.ext z,(((YR h4).trans (Xf hg)).trans (YR z)).gbo,zT h4.size hg.size,hr.to y D,hi.to y D,hc.to y D⟩
structure St11 (W7 wx:World) (s11:Value) (N:Int) (vr:Value) (bo:Nat) (an:Option Addr) (cn:Nat):Prop where
 p:s11=.pointer (some ⟨bo,0,none⟩)
 b:Bx4 bo wx (.bool (Z8 N).neg) (.slice an (Z8 N).mag.length cn) vr (.slice none 0 0)
 u:U32s (λ k=>W7.heap.size<=k/\k<wx.heap.size/\k≠bo) wx (.slice an (Z8 N).mag.length cn) (Z8 N).mag
 x:Ext W7 wx
 lo:W7.heap.size<=bo
theorem St11.of{W7 Y w9 w10:World}{N:Int}{vr:Value}{bo:Nat}{an:Option Addr}{cn:Nat}{x0 x1 x2 x3:Value}(h7:Ext W7 Y)(hb:Bx4 bo w10 x0 x1 x2 x3)(hlo:W7.heap.size<=bo)(h9:Ext Y w9)(h10:Ext w9 w10)(hlt:bo<Y.heap.size∨w9.heap.size<=bo)(hu:U32s (New Y w9) w9 (.slice an (Z8 N).mag.length cn) (Z8 N).mag) :
  St11 W7 ((((w10.setCell ⟨bo,0,none⟩ (.bool (Z8 N).neg)).setCell ⟨bo,1,none⟩ (.slice an (Z8 N).mag.length cn)).setCell ⟨bo,2,none⟩ vr).setCell ⟨bo,3,none⟩ (.slice none 0 0)) (.pointer (some ⟨bo,0,none⟩)) N vr bo an cn:=by
 have z:¬ New Y w9 bo:=λ h=>by
  have h1:=h.1;have h2:=h.2;omega
 have y:=(uM h10 (λ k (y:New Y w9 k)=>y.2)).trans ((ux (S:=New Y w9) z (.bool (Z8 N).neg) (.slice an (Z8 N).mag.length cn) vr).trans (uH (a:=⟨bo,3,none⟩) z (.slice none 0 0)))
 refine⟨rfl,hb.set4 _ _ _ _,hu.to y (λ k y=>⟨zT h7.size y.1,?_,λ e=>z (e ▸ y)⟩),?_,hlo⟩
 ·rw[z03,UT];exact zU y.2 h10.size
 ·exact(((h7.trans h9).trans h10).set3 hlo _ _ _).setCell (p:=⟨bo,3,none⟩) hlo _
theorem St11.new{T:TypeId}{W7 Y w9:World}{N:Int}{vr:Value}{an:Option Addr}{cn:Nat}(h7:Ext W7 Y)(h9:Ext Y w9)(hu:U32s (New Y w9) w9 (.slice an (Z8 N).mag.length cn) (Z8 N).mag) :
  St11 W7 (w9.alloc (.cells #[.bool (Z8 N).neg,.slice an (Z8 N).mag.length cn,vr,.slice none 0 0] T)) (.pointer (some ⟨w9.heap.size,0,none⟩)) N vr w9.heap.size an cn:=by
 have y:Ext w9 (w9.alloc (.cells #[.bool (Z8 N).neg,.slice an (Z8 N).mag.length cn,vr,.slice none 0 0] T)):=uO (uP _) _;refine⟨rfl,uF (uP _),hu.to (uM y (λ k hk=>hk.2)) (λ k hk=>⟨zT h7.size hk.1,zU hk.2 y.size,λ e=>by have:=hk.2;omega⟩),(h7.trans h9).trans y,(h7.trans h9).size⟩
theorem Ia{W:World}{o:Option Nat}{s:MSt}{vf vl:Value}{f:DZ}{ls:List DZ}(hM:MV W o s)(hf:DerV (NB o W) W vf f)(hl:Ders (NB o W) W vl ls)(Q:RestQFit o s f ls) :
  Calls Tryz.prog 42 #[ZK o,vf,vl] W (Ns W o (YP o s f ls)):=by
 have hnot:∀(x:Bool) (w:World),(Op.unary .not (.bool x)).run Tryz.prog w=.ok (.bool (!x)) w:=λ _ _=>rfl;have ft:=Z_ (info_parts Tryz.infoDer);have HIP:=Z_ (info_parts uv);obtain⟨vn,vp,vb,rfl,b6,bt,cd⟩:=hf;have HM:=Z_ hM;have HL:=Z_ hl;have HQ:=Z_ Q;have dz:=Z_ b6;have er:=Z_ bt;have ds:=Z_ cd;have a2:=Z_ (λ b hb=>hM.block (b:=b) hb);have b7:(ls.map DZ.P).length=ls.length:=zE ..;obtain⟨kP,nP,fP,fF,a0⟩:=Q.hf.P;have c8:=Z_ (λ(Y:World) (v:Value) (l:List DZ) (hv:Ders (Z2 Y) Y v l) (hok:∀d∈l,DOk d f.By.length)=>Da (S:=Z2 Y) (m:=f.By.length) l v Y hv (λ _ h=>h) hok);have ce:=Z_ (λ(Y:World) (hY:Ge (λ k=>some k=o) W Y)=>J9 (S:=NB o Y) ls vl Y (hl.to hY.kept (λ k D=>⟨zU D.1 hY.size,D.2⟩)) (λ _ h=>h.1) (by have:=Q.hl;omega))
 have dG:US ((ls.map DZ.P).map Z5):=λ p hp=>by
  obtain⟨q,hq,rfl⟩:=zG.1 hp;obtain⟨d,hd,rfl⟩:=zG.1 hq;obtain⟨k,n,h1,h2,-⟩:=(Q.hls d hd).P;exact h1.small (by omega)
 have eR:=Z_ (λ(Y:World) (v:Value) (hv:z1w (Z2 Y) Y v ((ls.map DZ.P).map Z5))=>Nb (S:=Z2 Y) v ((ls.map DZ.P).map Z5) Y hv (λ _ h=>h) dG);rw[Q.may]at eR;have aB:=Z_ (λ(Y:World) (v:Value) (hY:Ge (λ k=>some k=o) W Y) (hm:MV Y o s) (hv:z1w (NB o Y) Y v ((ls.map DZ.P).map Z5))=>Cc (A:=kP) (T:=nP) hm (bt.to hY.kept (λ k D=>⟨zU D.1 hY.size,D.2⟩)) hv fP (by omega) a0 dG Q.may (by rw[b7];exact Q.hl) (by rw[b7];exact Q.rest));rw[b7]at aB;obtain⟨X,hX⟩:∃X,X=Zw o s f ls:=⟨_,rfl⟩
 have HX:=Z_ hX;rw[show Xe o true (ls.map DZ.P) ls.length s f.P (List.replicate ls.length 0) (List.replicate ls.length [])=X from hX.symm]at aB;obtain⟨an,cn,rfl⟩:=b6.form;obtain⟨ap,cp,rfl⟩:=bt.form;obtain⟨J,cb,rfl⟩:=cd.form;obtain⟨al,cl,rfl⟩:=hl.form;obtain⟨nn,bg⟩:∃z,z=(Z8 f.N).mag.length:=⟨_,rfl⟩
 obtain⟨bn,bN⟩:∃z,z=(Z8 f.N).neg:=⟨_,rfl⟩
 obtain⟨np,aS⟩:∃z,z=(Z5 f.P).length:=⟨_,rfl⟩
 obtain⟨nb,bm⟩:∃z,z=f.By.length:=⟨_,rfl⟩
 have ax:(f.By.map Z5).length=nb:=by rw[zE,bm]
 obtain⟨nl,cg⟩:∃z,z=ls.length:=⟨_,rfl⟩
 rw[ax]at ds;rw[<-bg]at dz;rw[<-aS]at er aB;rw[<-cg]at HL ce;rw[<-bm]at c8;rw[<-bg,<-bN,<-aS,ax,<-cg];obtain⟨vm,cc⟩:∃x,x=ZK o:=⟨_,rfl⟩
 obtain⟨am,rfl⟩:∃a,vm=.pointer a:=⟨_,cc⟩
 have fl:=Z_ cc;rw[<-cc]at aB⊢;have ac:=Z_ (zS bg (zS bN (zS aS (zS bm cg))));obtain⟨w0,bl⟩:∃Y,Y=((W.alloc (.cells #[.bool bn,.slice an nn cn,.slice ap np cp,.slice J nb cb] 48)).alloc (.cells #[.bool false,.slice none 0 0,.slice none 0 0,.slice none 0 0] 48)):=⟨_,rfl⟩
 have au:Hd (Ext W w0):=Z_ (by rw[bl];exact uO (uO (uP W) _) _);have f5:Hd (w0.heap.size=W.heap.size+1+1):=Z_ (by rw[bl];simp)
 have aH:=Z_ (show Bx4 W.heap.size w0 (.bool bn) (.slice an nn cn) (.slice ap np cp) (.slice J nb cb)/\Bx4 (W.heap.size+1) w0 (.bool false) (.slice none 0 0) (.slice none 0 0) (.slice none 0 0) from by
  rw[bl];refine⟨uF (uO (uP _) _),?_⟩;have h:=uF (T:=48) (x0:=.bool false) (x1:=.slice none 0 0) (x2:=.slice none 0 0) (x3:=.slice none 0 0) (uP ((W.alloc (.cells #[.bool bn,.slice an nn cn,.slice ap np cp,.slice J nb cb] 48)).alloc (.cells #[.bool false,.slice none 0 0,.slice none 0 0,.slice none 0 0] 48)))
  rwa [z00]at h)
 have ay:Ders (λ k=>Z2 w0 k∨k=w0.heap.size) (w0.alloc (.cells #[.bool (Z8 f.N).neg,.slice an (Z8 f.N).mag.length cn,.slice ap (Z5 f.P).length cp,.slice J (f.By.map Z5).length cb] 48)) (.slice (some ⟨w0.heap.size,0,none⟩) 1 1) [f] :=
  Nw (ZW (b6.to (uN _ _) (λ _ h=>h.1)) au.o) (z06.on (bt.to (uN _ _) (λ _ h=>h.1)) au.o) (z1w.on (cd.to (uN _ _) (λ _ h=>h.1)) au.o) (λ _ h=>h)
 rw[<-bg,<-bN,<-aS,ax]at ay;obtain⟨dp,ad⟩:∃Y,Y=w0.alloc (.cells #[.bool bn,.slice an nn cn,.slice ap np cp,.slice J nb cb] 48):=⟨_,rfl⟩
 rw[<-ad]at ay;have e5:Hd (Ext w0 dp):=Z_ (by rw[ad];exact uO (uP _) _)
 have d5:=Z_ (c8.o dp _ [f] (ay.to (uN _ _) (λ k D=>by
  have h:w0.heap.size<dp.heap.size:=by rw[ad,z00];exact zk _
  rcases D with D|D
  ·exact yD D h
  ·rw[D];exact h)) (λ d hd=>by rw[zQ.1 hd,bm];exact Q.hf))
 have ff:=Z_ ad;have e0:=aH.o.1.c0;have e1:=aH.o.1.c1;have e2:=aH.o.1.c2;have e3:=aH.o.1.c3;rw[ad]at d5;clear hM hl Q b6 bt cd b7 fP fF a0 dG hX bg bN aS bm ax cg cc ay ad
 go_enter Tryz.func42,Tryz.ntmps42
 go_upto_region 1 with fail
 rw[<-bl];clear bl;have fR:=Z1 (.cells #[.bool bn,.slice an nn cn,.slice ap np cp,.slice J nb cb] 48) e3;go_wp2_with fail;(with_reducible refine d5.o.mono ?_);rintro e w1 ⟨rfl,cm⟩;rw[<-ff.o]at cm;have bB:=Z_ (e5.o.trans cm);have g3:=bB.o.cell e3;have f9:=Z_ (HL.o.to (uM (au.o.trans bB.o) (λ _ h=>h.1)) (λ k D=>zU D.1 (au.o.trans bB.o).size):Ders (Z2 w1) w1 (.slice al nl cl) ls);have fh:=Z_ (c8.o w1 _ ls f9.o (λ d hd=>by rw[ac.o.2.2.2.1];exact HQ.o.hls d hd));clear cm fR d5 e0 e1 e2;go_wp2_with fail;(with_reducible refine fh.o.mono ?_);rintro e w2 ⟨rfl,ed⟩;have en:=Z_ (bB.o.trans ed);have fd:=Z_ (ce.o w2 (YR (au.o.trans en.o)));clear ed g3 fh e3;go_wp2_with fail;(with_reducible refine fd.o.mono ?_);rintro e w3 ⟨v3,rfl,dq,d7⟩;have fp:=Z_ (en.o.trans d7)
 have d1:=Z_ (eR.o w3 v3 (dq.to (uN _ _) (λ k D=>by
  rcases D with D|D
  ·exact zU D.1 d7.size
  ·exact D.2)))
 obtain⟨a3,c3,rfl⟩:=dq.form;obtain⟨n3,eP⟩:∃n,n=((ls.map DZ.P).map Z5).length:=⟨_,rfl⟩
 rw[<-eP]at d1⊢;clear dq d7 eP fd;go_wp2_with fail;(with_reducible refine d1.o.mono ?_);rintro e w4 ⟨rfl,eo⟩;have b4:=Z_ (fp.o.trans eo);have af:=Z_ (au.o.trans b4.o);have df:=Z_ (zS (aH.o.1.ext b4.o) (aH.o.2.ext b4.o));have a4:Hd (∀b,o=some b->b<w4.heap.size):=Z_ (λ b hb=>zU (a2.o b hb) af.o.size);have cz:Hd (some W.heap.size≠o/\some (W.heap.size+1)≠o):=Z_ ⟨λ e=>by have:=a2.o _ e.symm;omega,λ e=>by have:=a2.o _ e.symm;omega⟩;have ae:Hd (∀Y:World,Ge (λ k=>some k=o) w4 Y->Y.cell? ⟨W.heap.size,2,none⟩=some (.slice ap np cp)):=Z_ (λ Y hY=>(df.o.1.ge hY cz.o.1).c2);have bA:=Z_ (show Ext w4 w4.drew from uI (uP _));clear eo d1
 go_upto_region 3 with fail
 go_cut [8,9] (λ s8 s9 wx=>∃bd vp vc vr,Hd (St8 w4 wx o s8 s9 X bd vp vc vr))
 case first=>
  go_region_held3 (λ Y=>Y.cell? ⟨W.heap.size,2,none⟩=some (.slice ap np cp))
   (first
    |with_reducible exact ae.o _ (YR bA.o)|with_reducible exact ae.o _ (YR (((uP w4).alloc _).drew))
    |with_reducible exact ae.o _ (YR Z.o)|with_reducible exact ae.o _ (YR (Z.o.alloc _))
    |with_reducible exact ae.o _ ag.o|with_reducible exact ae.o _ (ag.o.alloc _)
    |with_reducible exact ae.o _ (((ag.o.setf (zR _) _).setf (zR _) _).setf (zR _) _)
    |with_reducible exact ae.o _ (((ag.o.setf Z.o.size _).setf Z.o.size _).setf Z.o.size _)
    |with_reducible exact ae.o _ ((((ag.o.alloc _).setf ag.o.size _).setf ag.o.size _).setf ag.o.size _))
   (first
    |(go_at_call 78;(first|(with_reducible refine(ce.o _ (YR (af.o.trans bA.o))).mono ?_)|(with_reducible refine(ce.o _ (YR (af.o.trans (((uP w4).alloc _).drew)))).mono ?_)|fail);rintro e w5 ⟨v5,rfl,cF,bs⟩;(first|(have Z:=Z_ (bA.o.trans bs))|(have Z:=Z_ ((((uP w4).alloc _).drew).trans bs))|fail);(try (have BX:=Z_ (Bx3.fresh ((uI (uP _)).trans bs))));have d0:=Z_ (cF.to (S':=NB o w5) (uN _ _) (λ k D=>by rcases D with D|D;exact⟨zU D.1 bs.size,D.2⟩;exact⟨D.2,λ e=>by have:=a4.o k e.symm;have:=D.1;first|omega|(simp only[Go.World.size_drew,z00]at this;omega)⟩));obtain⟨a5,k5,rfl⟩:=cF.form;obtain⟨n5,cR⟩:∃n,n=((ls.map DZ.P).map Z5).length:=⟨_,rfl⟩;rw[<-cR];rw[<-cR]at d0;clear bs cF cR)
    |(go_at_call 79;(first|(with_reducible refine(aB.o w5 _ (YR (af.o.trans Z.o)) (HM.o.ext (af.o.trans Z.o)) d0.o).mono ?_)|(with_reducible refine(aB.o _ _ (YR (af.o.trans (Z.o.alloc _))) (HM.o.ext (af.o.trans (Z.o.alloc _))) (d0.o.to (uM (uO (uP _) _) (λ _ h=>h.1)) (λ k D=>⟨by rw[z00];exact xJ D.1,D.2⟩))).mono ?_)|fail);rintro e w6 ⟨v6,v7,v8,rfl,fg,aA,c6,dF,c5⟩;(first|(have ag:=Z_ ((YR Z.o).trans (Xf aA)))|(have ag:=Z_ ((YR (Z.o.alloc _)).trans (Xf aA)))|fail);have cC:=Z_ aA;(first|(have BY:=Z_ (BX.o.gb aA (λ e=>by have h1:=a4.o _ e.symm;omega)))|(have BY:=Z_ ((Bx3.fresh (uP _)).gb aA (λ e=>by have h1:=a4.o _ e.symm;have h2:=Z.o.size;omega)))|skip);(try (obtain⟨y0,y1,y2,yf⟩:=BY.o;have fr:=yf 0;have fx:=yf 1;have fv:=yf 2;clear yf));have cQ:=Z_ fg;have cv:=Z_ c6;have cx:=Z_ dF;have co:=Z_ c5;obtain⟨a6,k6,rfl⟩:=dF.form;obtain⟨a7,k7,rfl⟩:=c5.form;obtain⟨a8,k8,rfl⟩:=c6.form;obtain⟨n6,d2⟩:∃n,n=X.2.2.2.1.length:=⟨_,rfl⟩;obtain⟨n7,d6⟩:∃n,n=(X.2.2.2.2.map Z5).length:=⟨_,rfl⟩;obtain⟨n8,d3⟩:∃n,n=(Z5 X.2.2.1).length:=⟨_,rfl⟩;rw[<-d2,<-d6,<-d3];rw[<-d2]at cx;rw[<-d6]at co;rw[<-d3]at cv;clear fg aA c6 dF c5 d2 d6 d3)
    |fail)
  all_goals
   go_wp2_with fail
   go_meet
   first
    |exact⟨_,_,_,_,Z_ (St8.of Z.o BY.o (zR _) cQ.o cC.o (uP _) (.inl BX.o.lt) a4.o cv.o cx.o co.o)⟩
    |exact⟨_,_,_,_,Z_ (St8.of (Z.o.alloc _) BY.o Z.o.size cQ.o cC.o (uP _) (.inl (by rw[z00];exact zk _)) a4.o cv.o cx.o co.o)⟩
    |exact⟨_,_,_,_,Z_ (St8.new Z.o cQ.o cC.o cv.o cx.o co.o)⟩
    |fail
 case rest=>
  rename World=>wA
  obtain⟨bd,vP,vC,vR,hs⟩:=hcut;obtain rfl:=hs.out.p;obtain rfl:=hs.out.e;obtain⟨aP,kP,rfl⟩:=hs.out.i.form;obtain⟨aC,kC,rfl⟩:=hs.out.c.form;obtain⟨aR,kR,rfl⟩:=hs.out.r.form;obtain⟨nP,a0⟩:∃n,n=X.2.2.2.1.length:=⟨_,rfl⟩
  obtain⟨nC,fm⟩:∃n,n=(X.2.2.2.2.map Z5).length:=⟨_,rfl⟩
  obtain⟨nR,eq⟩:∃n,n=(Z5 X.2.2.1).length:=⟨_,rfl⟩
  have HS:=Z_ hs.out;rw[<-a0,<-fm,<-eq]at HS;clear hs a0 fm eq;have aa:=Z_ (zS (df.o.1.ge (Xf HS.o.g) cz.o.1) (df.o.2.ge (Xf HS.o.g) cz.o.2))
  by_cases ah:X.1=0
  ·rw[ah]at HS⊢;have cA:=Z_ ah;clear ah;obtain⟨I,ca⟩:∃Y,Y=wA.alloc (.cells #[.pointer am,.int .i64 0] 161):=⟨_,rfl⟩
   have cy:Hd (Ext wA I):=Z_ (by rw[ca];exact uO (uP _) _);have bv:Hd (CalcAt I wA.heap.size (.pointer am) 0):=Z_ (by rw[ca];exact⟨ZJ _ _ _ rfl rfl,ZJ _ _ _ rfl rfl,λ i=>Vt _ _ _⟩)
   go_upto_region 7 with fail
   rw[<-ca];clear ca;obtain⟨bc,d9⟩:∃b,b=wA.heap.size:=⟨_,rfl⟩
   have cB:=Z_ d9;rw[<-d9]at bv⊢;clear d9;have av:=Z_ (zS (aa.o.1.ext cy.o) (HS.o.b.ext cy.o));have K:Hd (∀Y:World,Ext I Y->Y.cell? ⟨W.heap.size,0,none⟩=some (.bool bn)/\Y.cell? ⟨W.heap.size,1,none⟩=some (.slice an nn cn)/\Y.cell? ⟨W.heap.size,2,none⟩=some (.slice ap np cp)/\Y.cell? ⟨W.heap.size,3,none⟩=some (.slice J nb cb)/\Y.cell? ⟨bd,2,none⟩=some (.slice aR nR kR)):=Z_ (λ Y hY=>⟨hY.cell av.o.1.c0,hY.cell av.o.1.c1,hY.cell av.o.1.c2,hY.cell av.o.1.c3,hY.cell av.o.2.c2⟩);have ar:Hd (Ge (λ k=>some k=o) W I):=Z_ (((YR af.o).trans (Xf HS.o.g)).trans (YR cy.o));have cr:=Z_ (λ(k:Nat) (D:NB o W k)=>(⟨zU D.1 ar.o.size,D.2⟩:NB o I k));have fG:=Z_ (HL.o.to ar.o.kept cr.o);have et:=Z_ (dz.o.to ar.o.kept cr.o);have em:=Z_ (er.o.to ar.o.kept cr.o);have ec:=Z_ (ds.o.to ar.o.kept cr.o);have dr:=Z_ (λ(Y:World) (hY:Ext I Y)=>((fG.o.to (S':=Z2 I) (uN _ _) (λ _ h=>h.1)).to (S':=Z2 I) (uM hY (λ _ h=>h)) (λ _ h=>h)).src);have aF:Hd (1+nl<=maxLen/\(1+nl)*80<=140737488355328):=Z_ (by have h1:=HQ.o.hl;have h2:=ac.o.2.2.2.2;unfold maxLen;omega)
   have ci:=Z_ (λ(Y w':World) (xs:List Value) (v':Value) (hY:Ext I Y) (hc:z29 (Z2 I) Y xs ls) (k1:w'.ownsRow I.heap.size 48 4 v' (1+nl) ((#[.bool (Z8 f.N).neg,.slice an (Z8 f.N).mag.length cn,.slice ap (Z5 f.P).length cp,.slice J (f.By.map Z5).length cb]:Array Value).toList++xs)) (hg:Ext I w')=>
    AO (d:=f) (by rw[<-ac.o.1];exact et.o.to (uN _ _) (λ _ h=>h.1)) (by rw[<-ac.o.2.2.1];exact em.o.to (uN _ _) (λ _ h=>h.1)) (by rw[zE,<-ac.o.2.2.2.1];exact ec.o.to (uN _ _) (λ _ h=>h.1)) hc hY (λ _ h=>h) ac.o.2.2.2.2 k1 hg)
   rw[<-ac.o.1,<-ac.o.2.1,<-ac.o.2.2.1,zE,<-ac.o.2.2.2.1]at ci
   have c9:=Z_ (λ(Y:World) (v:Value) (hv:Ders (Z2 Y) Y v (f :: ls))=>Kq (S:=Z2 Y) (f :: ls) v Y hv (λ _ h=>h) (λ d hd=>by
    rcases zJ.1 hd with rfl|hd
    ·exact⟨HQ.o.hf.pos,zT HQ.o.hf.len (by decide)⟩
    ·exact⟨(HQ.o.hls d hd).pos,zT (HQ.o.hls d hd).len (by decide)⟩) (zT HQ.o.least (by decide)))
   obtain⟨L,hL⟩:∃L:Int,L=((z18 (f :: ls):Nat):Int):=⟨_,rfl⟩
   rw[<-hL]at c9;have fn:=Z_ hL;have bA:=Z_ (show Ext I I.drew from uI (uP _));clear hL;obtain⟨i0,c4,d8,cG,cP⟩:=ft.o
   go_cut [11] (λ s11 wx=>∃bo aN kN,Hd (St11 I wx s11 L (.slice aR nR kR) bo aN kN))
   case first=>
    obtain⟨e0,e1,e2,e3,e4⟩:=K.o I (uP _);obtain⟨f0,f1,f2,f3,f4⟩:=K.o _ ((uP I).alloc (.cells #[.bool false,.slice none 0 0,.slice none 0 0,.slice none 0 0] 48));have g4:=(K.o _ ((uP I).alloc (.cells #[.bool bn,.slice an nn cn,.slice ap np cp,.slice J nb cb] 48))).2.2.2.2;have g5:=(K.o _ (((uP I).alloc (.cells #[.bool bn,.slice an nn cn,.slice ap np cp,.slice J nb cb] 48)).alloc (.cells #[.bool false,.slice none 0 0,.slice none 0 0,.slice none 0 0] 48))).2.2.2.2;have g6:=(K.o _ (((uP I).alloc (.cells #[.bool false,.slice none 0 0,.slice none 0 0,.slice none 0 0] 48)).alloc (.cells #[.bool bn,.slice an nn cn,.slice ap np cp,.slice J nb cb] 48))).2.2.2.2;have b1:=Z_ (((uP I).alloc (.cells #[.bool bn,.slice an nn cn,.slice ap np cp,.slice J nb cb] 48)).drew);have ct:=Z_ ((((uP I).alloc (.cells #[.bool false,.slice none 0 0,.slice none 0 0,.slice none 0 0] 48)).alloc (.cells #[.bool bn,.slice an nn cn,.slice ap np cp,.slice J nb cb] 48)).drew);have ch:=Z_ ((((uP I).alloc (.cells #[.bool bn,.slice an nn cn,.slice ap np cp,.slice J nb cb] 48)).alloc (.cells #[.bool false,.slice none 0 0,.slice none 0 0,.slice none 0 0] 48)).drew);have eh:=Z_ (World.ownsRow_lit (base:=I.heap.size) (e:=48) (size:=4) I #[.bool bn,.slice an nn cn,.slice ap np cp,.slice J nb cb] 1 (zR _) (by unfold maxLen;decide) rfl).drew;have c7:=World.ownsRow_lit (base:=I.heap.size) (e:=48) (size:=4) (I.alloc (.cells #[.bool false,.slice none 0 0,.slice none 0 0,.slice none 0 0] 48)) #[.bool bn,.slice an nn cn,.slice ap np cp,.slice J nb cb] 1 (by rw[z00];exact zw _) (by unfold maxLen;decide) rfl;rw[z00]at c7;have ez:=Z_ c7.drew;have eB:=Z_ ((World.ownsRow_lit (base:=I.heap.size) (e:=48) (size:=4) I #[.bool bn,.slice an nn cn,.slice ap np cp,.slice J nb cb] 1 (zR _) (by unfold maxLen;decide) rfl).alloc (.cells #[.bool false,.slice none 0 0,.slice none 0 0,.slice none 0 0] 48)).drew;have fq:=Z_ (uF (W:=I) (T:=48) (x0:=.bool false) (x1:=.slice none 0 0) (x2:=.slice none 0 0) (x3:=.slice none 0 0) (((uP _).alloc (.cells #[.bool bn,.slice an nn cn,.slice ap np cp,.slice J nb cb] 48)).drew));have dm:=uF (W:=I.alloc (.cells #[.bool bn,.slice an nn cn,.slice ap np cp,.slice J nb cb] 48)) (T:=48) (x0:=.bool false) (x1:=.slice none 0 0) (x2:=.slice none 0 0) (x3:=.slice none 0 0) ((uP _).drew);rw[z00]at dm;have fu:=Z_ dm;have ei:Hd (I.heap.size<=(I.alloc (.cells #[.bool bn,.slice an nn cn,.slice ap np cp,.slice J nb cb] 48)).drew.heap.size):=Z_ b1.o.size;have ep:Hd (I.heap.size<=((I.alloc (.cells #[.bool false,.slice none 0 0,.slice none 0 0,.slice none 0 0] 48)).alloc (.cells #[.bool bn,.slice an nn cn,.slice ap np cp,.slice J nb cb] 48)).drew.heap.size):=Z_ ct.o.size;have el:Hd (I.heap.size<=((I.alloc (.cells #[.bool bn,.slice an nn cn,.slice ap np cp,.slice J nb cb] 48)).alloc (.cells #[.bool false,.slice none 0 0,.slice none 0 0,.slice none 0 0] 48)).drew.heap.size):=Z_ ch.o.size;clear c7 dm;have fB:Hd (some I.heap.size≠Value.ownBlock (.slice (some ⟨I.heap.size+1,0,none⟩) 1 1)):=Z_ (λ e=>absurd (show I.heap.size=I.heap.size+1 from Option.some.inj e) (by omega));have f7:Hd (some (I.heap.size+1)≠Value.ownBlock (.slice (some ⟨I.heap.size,0,none⟩) 1 1)):=Z_ (λ e=>absurd (show I.heap.size+1=I.heap.size from Option.some.inj e) (by omega))
    go_region_law
     (first
      |(obtain⟨-,xs,ai,aj⟩:=dr.o _ b1.o;refine XE rfl (.tmp 58) (.tmp 59) 43 rfl I.heap.size 48 i0 _ 4 80 Tryz.underlying43 c4 d8 cG cP rfl (by decide) _ 1 _ rfl eh.o al nl cl xs rfl aj aF.o.1 aF.o.2 ei.o ?_;intro v8 w8 U hg bf;have O:=Z_ (XH b1.o eh.o hg);have bx:=Z_ (ci.o _ w8 xs _ b1.o ai U O.o);have qf:=Go.Joins.ownsRow_form U (by omega);obtain⟨bq,cq,rfl⟩:=qf;have fc:=(K.o _ O.o).2.2.2.2;have fk:=(K.o _ (O.o.alloc (.cells #[.bool false,.slice none 0 0,.slice none 0 0,.slice none 0 0] 48))).2.2.2.2;clear ai aj U hg bf)
      |(obtain⟨-,xs,ai,aj⟩:=dr.o _ ct.o;refine XE rfl (.tmp 58) (.tmp 59) 43 rfl I.heap.size 48 i0 _ 4 80 Tryz.underlying43 c4 d8 cG cP rfl (by decide) _ 1 _ rfl ez.o al nl cl xs rfl aj aF.o.1 aF.o.2 ep.o ?_;intro v8 w8 U hg bf;have O:=Z_ (XH ct.o ez.o hg);have bx:=Z_ (ci.o _ w8 xs _ ct.o ai U O.o);have BX:=Z_ (fq.o.gb hg fB.o);have qf:=Go.Joins.ownsRow_form U (by omega);obtain⟨bq,cq,rfl⟩:=qf;have fc:=(K.o _ O.o).2.2.2.2;have fk:=(K.o _ (O.o.alloc (.cells #[.bool false,.slice none 0 0,.slice none 0 0,.slice none 0 0] 48))).2.2.2.2;clear ai aj U hg bf)
      |(obtain⟨-,xs,ai,aj⟩:=dr.o _ ch.o;refine XE rfl (.tmp 58) (.tmp 59) 43 rfl I.heap.size 48 i0 _ 4 80 Tryz.underlying43 c4 d8 cG cP rfl (by decide) _ 1 _ rfl eB.o al nl cl xs rfl aj aF.o.1 aF.o.2 el.o ?_;intro v8 w8 U hg bf;have O:=Z_ (XH ch.o eB.o hg);have bx:=Z_ (ci.o _ w8 xs _ ch.o ai U O.o);have BX:=Z_ (fu.o.gb hg f7.o);have qf:=Go.Joins.ownsRow_form U (by omega);obtain⟨bq,cq,rfl⟩:=qf;have fc:=(K.o _ O.o).2.2.2.2;have fk:=(K.o _ (O.o.alloc (.cells #[.bool false,.slice none 0 0,.slice none 0 0,.slice none 0 0] 48))).2.2.2.2;clear ai aj U hg bf)
      |(go_simp;go_at_call 80;(first|(with_reducible refine(c9.o w8 _ bx.o).mono ?_)|(with_reducible refine(c9.o _ _ (bx.o.to (uM (uO (uP _) _) (λ _ h=>h)) (λ k D=>by show k<(World.heap _).size;rw[z00];exact xJ D))).mono ?_)|fail);rintro e w9 ⟨v9,rfl,⟨vm9,rfl,db⟩,az⟩;(first|(have d4:=Z_ (O.o.trans az))|(have d4:=Z_ ((O.o.alloc _).trans az))|fail);have cu:=Z_ az;(first|(have BY:=Z_ (BX.o.ext az))|(have BY:=Z_ (uF az))|skip);(try (obtain⟨y0,y1,y2,y3,yf⟩:=BY.o;have fr:=yf 0;have fx:=yf 1;have fv:=yf 2;have yf3:=yf 3;clear yf));have b2:=Z_ db;obtain⟨a9,k9,rfl⟩:=db.form;have h94:=(K.o _ d4.o).2.2.2.2;have h95:=(K.o _ (d4.o.alloc (.cells #[.bool false,.slice none 0 0,.slice none 0 0,.slice none 0 0] 48))).2.2.2.2;clear az db)
      |fail)
    all_goals
     go_wp2_with fail
     go_meet
     first
      |exact⟨_,_,_,Z_ (St11.of O.o BY.o (zR _) cu.o (uP _) (.inl BX.o.lt) b2.o)⟩
      |exact⟨_,_,_,Z_ (St11.of O.o BY.o (zw _) cu.o (uP _) (.inl BX.o.lt) b2.o)⟩
      |exact⟨_,_,_,Z_ (St11.of (O.o.alloc _) BY.o O.o.size cu.o (uP _) (.inl (by rw[z00];exact zk _)) b2.o)⟩
      |exact⟨_,_,_,Z_ (St11.new O.o cu.o b2.o)⟩
      |fail
   case rest=>
    rename_i hKr
    obtain⟨bo,aN,kN,aq⟩:=hcut;obtain rfl:=aq.out.p;have hx:=aq.out.x;have bb:Ge (λ k=>some k=o) W wc:=ar.o.trans (YR hx);have eu:bc<I.heap.size:=bv.o.lt
    have fA:W.heap.size+1<bd:=by
     have q1:=f5.o;have q2:=b4.o.size;have q3:=HS.o.lo;omega
    have e7:bd<bc:=by rw[cB.o];exact HS.o.b.lt
    have eg:bc<bo:=zU eu aq.out.lo
    have dt:∀k,NB o W k->NE (EO o bc bo) wc k:=λ k D=>⟨zU D.1 bb.size,λ e=>by
     have q:=D.1
     rcases e with e|e|e
     ·exact D.2 e
     ·omega
     ·omega⟩
    have aG:Ext wA wc:=cy.o.trans hx
    have bu:∀k,(w4.heap.size<=k/\NB o wA k)->NE (EO o bc bo) wc k:=λ k D=>⟨zU D.2.1 aG.size,λ e=>by
     have q:=D.2.1;have q2:=cB.o
     rcases e with e|e|e
     ·exact D.2.2 e
     ·omega
     ·omega⟩
    have ba:=A5 (o:=o) (s:=s) (f:=f) (ls:=ls) (by rw[<-HX.o];exact cA.o);refine hKr _ _ ?_;refine J6 (c:=nxN 6 (Tryz.f42.body.getD .ret)) (by kernel_rfl) ?_
    exact FZ HQ.o (by rw[<-HX.o];exact cA.o) fl.o a2.o fA e7 eg bb.gbo (av.o.1.ext hx) (aa.o.2.ext aG) (av.o.2.ext hx)
     (by rw[<-fl.o];exact bv.o.ext hx) (by rw[<-HX.o];exact HS.o.m.ext aG) aq.out.b (dz.o.to bb.kept dt) ac.o.2.1 (ds.o.to bb.kept dt) (HL.o.to bb.kept dt)
     (by rw[<-HX.o];exact HS.o.i.to (uM aG (λ k D=>D.2.1)) bu) (by rw[<-HX.o];exact HS.o.c.to (uM aG (λ k D=>D.2.1)) bu) (by rw[<-HX.o];exact HS.o.r.to (uM aG (λ k D=>D.2.1)) bu)
     (by rw[<-fn.o];exact aq.out.u.to (uN _ _) (λ k D=>⟨D.2.1,λ e=>by
      have q:=D.1
      rcases e with e|e|e
      ·have:=a2.o k e.symm;have:=ar.o.size;omega
      ·omega
      ·exact D.2.2 e⟩)) (by rw[<-fn.o]) ba.1 ba.2
  ·have hq:YP o s f ls=(X.1,X.2.1,⟨0,[],[]⟩):=by
    unfold YP;rw[<-HX.o,if_pos ah]
   have HXN:=Z_ ah;obtain⟨e9,e6⟩:∃e,e=X.1:=⟨_,rfl⟩
   rw[<-e6]at HS ah hq⊢;have f6:=Z_ hq;have hx0:(e9 == 0)=false:=by rw[beq_eq_false_iff_ne];exact ah
   have cm:(e9 != 0)=true:=by rw[bne_iff_ne];exact ah
   have r0:=aa.o.2.c0;have r1:=aa.o.2.c1;have r2:=aa.o.2.c2;have r3:=aa.o.2.c3;have r4:=aa.o.2.fz 0;have r5:=aa.o.2.fz 1;have r6:=aa.o.2.fz 2;have r7:=aa.o.2.fz 3;clear ah e6 hq;go_wp2
   all_goals
    have cj:=λ x y z t=>X8 (b:=W.heap.size+1) x y z t aa.o.2.c0 aa.o.2.c1 aa.o.2.c2 aa.o.2.c3;refine bodyPost_ret (by simp[results,Tryz.results42,go_sem,(cj _ _ _ _).1,(cj _ _ _ _).2.1,(cj _ _ _ _).2.2.1,(cj _ _ _ _).2.2.2];rfl) rfl ?_;have b3:∀b,o=some b->b≠W.heap.size+1:=λ b h e=>cz.o.2 (by rw[h,e]);have hg:=((((((YR af.o).trans (Xf HS.o.g)).setf (a:=⟨W.heap.size+1,0,none⟩) (zw _) (.bool false)).setf (a:=⟨W.heap.size+1,1,none⟩) (zw _) (.slice none 0 0)).setf (a:=⟨W.heap.size+1,2,none⟩) (zw _) (.slice none 0 0)).setf (a:=⟨W.heap.size+1,3,none⟩) (zw _) (.slice none 0 0)).gbo;rw[f6.o];exact⟨_,rfl,(((HS.o.m.set b3 (a:=⟨W.heap.size+1,0,none⟩) rfl _).set b3 (a:=⟨W.heap.size+1,1,none⟩) rfl _).set b3 (a:=⟨W.heap.size+1,2,none⟩) rfl _).set b3 (a:=⟨W.heap.size+1,3,none⟩) rfl _,hg,MZ _ _⟩
end
section
open Go.RowKit Go.Deep
abbrev SP(S:Nat->Prop)(W:World)(o:Option Nat)(w:World):Nat->Prop:=λ k=>NB o w k/\(S k∨W.heap.size<=k)
def Mg(S:Nat->Prop)(W:World)(o:Option Nat)(X:Int×MSt×List DZ):Ending->World->Prop:=λ e W'=>∃v,e=.returned (.tuple #[v,.int .i64 X.1])/\MV W' o X.2.1/\W.grownBy W' o/\Ders (SP S W o W') W' v X.2.2
theorem Ah{S:Nat->Prop}{W:World}{vm vp vb vm' vp' vb':Value}{d d':DZ}{b b':Bool}(h0:b=(Z8 d.N).neg)(h1:U32s S W vm (Z8 d.N).mag)(h2:z06 S W vp (Z5 d.P))(h3:z1w S W vb (d.By.map Z5))
  (h0':b'=(Z8 d'.N).neg) (h1':U32s S W vm' (Z8 d'.N).mag) (h2':z06 S W vp' (Z5 d'.P)) (h3':z1w S W vb' (d'.By.map Z5)) (hS:∀k,S k->k<W.heap.size) :
  Ders (λ k=>S k∨k=W.heap.size) (W.alloc (.cells #[.bool b,vm,vp,vb,.bool b',vm',vp',vb'] 48)) (.slice (some ⟨W.heap.size,0,none⟩) 2 2) [d,d']:=by
 subst h0;subst h0';have y:Ext W (W.alloc (.cells #[.bool (Z8 d.N).neg,vm,vp,vb,.bool (Z8 d'.N).neg,vm',vp',vb'] 48)):=uO (uP W) _;refine⟨W.heap.size,0,⟨_,2,rfl,zR _,by unfold maxLen;decide,λ _=>rfl,λ _=>.inr rfl⟩,λ j t hj=>?_⟩;have z:=Zy hj;simp only[zM,zo]at z;have k:=λ i v hv=>(uP (W.alloc (.cells #[.bool (Z8 d.N).neg,vm,vp,vb,.bool (Z8 d'.N).neg,vm',vp',vb'] 48))).new_cell (i:=i) (v:=v) hv
 rcases(show j=0∨j=1 by omega) with rfl|rfl
 ·obtain rfl:d=t:=by simpa using hj
  exact⟨vm,vp,vb,k 0 _ rfl,k 1 _ rfl,k 2 _ rfl,k 3 _ rfl,h1.to (uM y hS) (λ _ h=>.inl h),h2.to (uM y hS) (λ _ h=>.inl h),h3.to (uM y hS) (λ _ h=>.inl h)⟩
 ·obtain rfl:d'=t:=by simpa using hj
  exact⟨vm',vp',vb',k 4 _ rfl,k 5 _ rfl,k 6 _ rfl,k 7 _ rfl,h1'.to (uM y hS) (λ _ h=>.inl h),h2'.to (uM y hS) (λ _ h=>.inl h),h3'.to (uM y hS) (λ _ h=>.inl h)⟩
structure DerS (S:Nat->Prop) (w:World) (d:DZ) (b:Bool) (vn vp vb:Value):Prop where
 g:b=(Z8 d.N).neg
 n:U32s S w vn (Z8 d.N).mag
 p:z06 S w vp (Z5 d.P)
 y:z1w S w vb (d.By.map Z5)
theorem DerS.to{S S':Nat->Prop}{w w':World}{d:DZ}{b:Bool}{vn vp vb:Value}(h:DerS S w d b vn vp vb)(hk:Kept S w w')(hS:∀k,S k->S' k):DerS S' w' d b vn vp vb:=⟨h.g,h.n.to hk hS,h.p.to hk hS,h.y.to hk hS⟩
theorem DerS.v{S:Nat->Prop}{w:World}{d:DZ}{b:Bool}{vn vp vb:Value}(h:DerS S w d b vn vp vb):DerV S w (.agg #[.bool b,vn,vp,vb]) d:=⟨vn,vp,vb,by rw[h.g],h.n,h.p,h.y⟩
theorem DerS.onS{S:Nat->Prop}{o:Option Nat}{w w':World}{d:DZ}{b:Bool}{vn vp vb:Value}(h:DerS S w d b vn vp vb)(hS:∀k,S k->NB o w k)(g:Ge (λ k=>some k=o) w w'):DerS (SP S w o w') w' d b vn vp vb :=
 h.to (λ k hk=>g.kept k (hS k hk)) (λ k hk=>⟨⟨zU (hS k hk).1 g.size,(hS k hk).2⟩,.inl hk⟩)
theorem RQ{S:Nat->Prop}{W wz:World}{o:Option Nat}{s:MSt}{F G:DZ}{b b':Bool}{vm vp vb vm' vp' vb':Value}{T:TypeId}(hT:T=48)(hm:MV wz o s)(hg:W.grownBy wz o)(hf:DerS (SP S W o wz) wz F b vm vp vb)(hgg:DerS (SP S W o wz) wz G b' vm' vp' vb') :
  Mg S W o (0,s,[F,G]) (.returned (.tuple #[.slice (some ⟨wz.heap.size,0,none⟩) 2 2,.int .i64 0])) (wz.alloc (.cells #[.bool b,vm,vp,vb,.bool b',vm',vp',vb'] T)):=by
 subst hT;have D:=uO (uP wz) (.cells #[.bool b,vm,vp,vb,.bool b',vm',vp',vb'] 48);refine⟨_,rfl,hm.ext D,YV hg (Y7 D o),(Ah hf.g hf.n hf.p hf.y hgg.g hgg.n hgg.p hgg.y (λ k h=>h.1.1)).to (uN _ _) (λ k z=>?_)⟩
 rcases z with z|z
 ·exact⟨⟨zU z.1.1 D.size,z.1.2⟩,z.2⟩
 ·exact⟨⟨by rw[z,z00];exact zk _,λ e=>by have:=hm.block e.symm;omega⟩,.inr (by rw[z];exact hg.size)⟩
def Xg(w:World)(b:Nat)(x y z t:Value):World:=(((w.setCell ⟨b,0,none⟩ x).setCell ⟨b,1,none⟩ y).setCell ⟨b,2,none⟩ z).setCell ⟨b,3,none⟩ t
theorem P9{w:World}{b:Nat}{x0 x1 x2 x3:Value}(h:Bx4 b w x0 x1 x2 x3)(x y z t:Value):Bx4 b (Xg w b x y z t) x y z t:=h.set4 x y z t
theorem Qz{w:World}{b c:Nat}{x0 x1 x2 x3:Value}(h:Bx4 b w x0 x1 x2 x3)(hne:b≠c)(x y z t:Value):Bx4 b (Xg w c x y z t) x0 x1 x2 x3 :=
 h.same ((Yx _ _ _ hne).trans ((Yx _ _ _ hne).trans ((Yx _ _ _ hne).trans (Yx _ _ _ hne))))
theorem Lc{w:World}{b:Nat}{x0 x1 x2 x3 y0 y1 y2 y3:Value}(h:Bx4 b w x0 x1 x2 x3)(k:Bx4 (b+1) w y0 y1 y2 y3):Bx4 b (Xg (Xg w b y0 y1 y2 y3) (b+1) x0 x1 x2 x3) y0 y1 y2 y3/\Bx4 (b+1) (Xg (Xg w b y0 y1 y2 y3) (b+1) x0 x1 x2 x3) x0 x1 x2 x3 :=
 ⟨Qz (P9 h _ _ _ _) (by omega) _ _ _ _,P9 (Qz k (by omega) _ _ _ _) _ _ _ _⟩
theorem RU{a w:World}{b:Nat}(h:Ext a w)(hb:a.heap.size<=b){x y z t:Value}:Ext a (Xg w b x y z t):=Ys h hb x y z t
theorem Fy{S:Nat->Prop}{W:World}{o:Option Nat}{s:MSt}{vf vg:Value}{f g:DZ}{k1 n1 k2 n2:Nat}(hM:MV W o s)(hS:∀k,S k->NB o W k)(hf:DerV S W vf f)(hg:DerV S W vg g)(fF:Fit k1 n1 f.P)(fG:Fit k2 n2 g.P)(hk1:k1<=100000)(hk2:k2<=100000)(Q:T9 o s f g) :
  Calls Tryz.prog 21 #[ZK o,vf,vg] W (Mg S W o (YB o s f g)):=by
 have HM:=Z_ hM;have HQ:=Z_ Q;have ae:=Z_ hS;obtain⟨vn,vp,vb,rfl,c4,dG,c9⟩:=hf;obtain⟨bs,aG,a8,rfl,bA,aN,aH⟩:=hg;have bg:DerS S W f (Z8 f.N).neg vn vp vb:=⟨rfl,c4,dG,c9⟩
 have aC:DerS S W g (Z8 g.N).neg bs aG a8:=⟨rfl,bA,aN,aH⟩
 obtain⟨an,cn,rfl⟩:=c4.form;obtain⟨ap,cp,rfl⟩:=dG.form;obtain⟨a3,cb,rfl⟩:=c9.form;obtain⟨au,aA,rfl⟩:=bA.form;obtain⟨ay,aB,rfl⟩:=aN.form;obtain⟨az,ax,rfl⟩:=aH.form;obtain⟨nn,dr⟩:∃z,z=(Z8 f.N).mag.length:=⟨_,rfl⟩
 obtain⟨bn,cz⟩:∃z,z=(Z8 f.N).neg:=⟨_,rfl⟩
 obtain⟨np,cu⟩:∃z,z=(Z5 f.P).length:=⟨_,rfl⟩
 obtain⟨nb,dt⟩:∃z,z=(f.By.map Z5).length:=⟨_,rfl⟩
 obtain⟨mn,dq⟩:∃z,z=(Z8 g.N).mag.length:=⟨_,rfl⟩
 obtain⟨bm,dp⟩:∃z,z=(Z8 g.N).neg:=⟨_,rfl⟩
 obtain⟨mp,dz⟩:∃z,z=(Z5 g.P).length:=⟨_,rfl⟩
 obtain⟨mb,cB⟩:∃z,z=(g.By.map Z5).length:=⟨_,rfl⟩
 rw[<-dr,<-cz,<-cu,<-dt]at bg;rw[<-dq,<-dp,<-dz,<-cB]at aC;rw[<-dr,<-cz,<-cu,<-dt,<-dq,<-dp,<-dz,<-cB];have bt:=Z_ bg;have bv:=Z_ aC;have CF:=Z_ (λ(Y:World) (hY:Ext W Y)=>Rq (W:=Y) (bg.to (S':=Z2 Y) (uM hY (λ k h=>(hS k h).1)) (λ k h=>zU (hS k h).1 hY.size)).v fF (by omega));have CG:=Z_ (λ(Y:World) (hY:Ext W Y)=>Rq (W:=Y) (aC.to (S':=Z2 Y) (uM hY (λ k h=>(hS k h).1)) (λ k h=>zU (hS k h).1 hY.size)).v fG (by omega));have VF:=Z_ (λ(Y:World) (hY:Ext W Y) (x:Int) (hx:Zv x)=>UI (W:=Y) (bg.p.to (uM hY (λ k h=>(hS k h).1)) (λ k h=>zU (hS k h).1 hY.size)) fF (by omega) hx);have VG:=Z_ (λ(Y:World) (hY:Ext W Y) (x:Int) (hx:Zv x)=>UI (W:=Y) (aC.p.to (uM hY (λ k h=>(hS k h).1)) (λ k h=>zU (hS k h).1 hY.size)) fG (by omega) hx);have fB:=Z_ (VK fF.can);have fu:=Z_ (VK fG.can);obtain⟨zf,ce⟩:∃z,z=ZY f:=⟨_,rfl⟩
 obtain⟨zg,cg⟩:∃z,z=ZY g:=⟨_,rfl⟩
 rw[<-ce]at CF;rw[<-cg]at CG;have hr1:0<=zf/\zf<=200:=by rw[ce];exact fB.o
 have hr2:0<=zg/\zg<=200:=by rw[cg];exact fu.o
 have af:=Z_ ce;have a7:=Z_ cg;obtain⟨vm,b7⟩:∃x,x=ZK o:=⟨_,rfl⟩
 obtain⟨am,rfl⟩:∃a,vm=.pointer a:=⟨_,b7⟩
 have f9:=Z_ b7;rw[<-b7];obtain⟨w0,bf⟩:∃Y,Y=((W.alloc (.cells #[.bool bn,.slice an nn cn,.slice ap np cp,.slice a3 nb cb] 48)).alloc (.cells #[.bool bm,.slice au mn aA,.slice ay mp aB,.slice az mb ax] 48)):=⟨_,rfl⟩
 have a6:Hd (Ext W w0):=Z_ (by rw[bf];exact uO (uO (uP W) _) _);have HSZ:Hd (w0.heap.size=W.heap.size+1+1):=Z_ (by rw[bf,z00,z00])
 have HB:=Z_ (show Bx4 W.heap.size w0 (.bool bn) (.slice an nn cn) (.slice ap np cp) (.slice a3 nb cb)/\Bx4 (W.heap.size+1) w0 (.bool bm) (.slice au mn aA) (.slice ay mp aB) (.slice az mb ax) from by
  rw[bf];refine⟨uF (uO (uP _) _),?_⟩;have h:=uF (T:=48) (x0:=.bool bm) (x1:=.slice au mn aA) (x2:=.slice ay mp aB) (x3:=.slice az mb ax) (uP ((W.alloc (.cells #[.bool bn,.slice an nn cn,.slice ap np cp,.slice a3 nb cb] 48)).alloc (.cells #[.bool bm,.slice au mn aA,.slice ay mp aB,.slice az mb ax] 48)))
  rwa [z00]at h)
 clear hM hS Q c4 dG c9 bA aN aH bg aC fF fG hk1 hk2 dr cz cu dt dq dp dz cB ce cg b7;have fR:=Z_ (λ Y:Later w0=>CF.o Y.w' (a6.o.trans Y.h));have ft:=Z_ (λ Y:Later w0=>CG.o Y.w' (a6.o.trans Y.h));have cA:=λ Y:Later w0=>Y.h.cell HB.o.1.c0;have c5:=λ Y:Later w0=>Y.h.cell HB.o.1.c1;have ba:=λ Y:Later w0=>Y.h.cell HB.o.1.c2;have d5:=λ Y:Later w0=>Y.h.cell HB.o.1.c3;have d8:=λ Y:Later w0=>Y.h.cell HB.o.2.c0;have d9:=λ Y:Later w0=>Y.h.cell HB.o.2.c1;have aP:=λ Y:Later w0=>Y.h.cell HB.o.2.c2;have db:=λ Y:Later w0=>Y.h.cell HB.o.2.c3
 go_enter Tryz.func21,Tryz.ntmps21
 go_upto_region 1 with fail
 rw[<-bf];clear bf;go_wp2;refine Zh (by kernel_rfl) (by kernel_rfl) ?_
 repeat (go_big_quiet_step (first|(go_at_call 22;first|(with_reducible exact uL (fR.o _))|(with_reducible exact uL (ft.o _)))|fail))
 refine wpQuiet_nil ?_;intro w1 b3;have cv:=Z_ b3;obtain⟨zm,d6⟩:∃z,z=max zf zg:=⟨_,rfl⟩
 rw[<-d6];have ec:=Z_ d6;have fv:=Z_ (λ Y:Later w1=>CF.o Y.w' (a6.o.trans (cv.o.trans Y.h)));have f4:=Z_ (λ Y:Later w1=>CG.o Y.w' (a6.o.trans (cv.o.trans Y.h)));have O:=Z_ (zS (HB.o.1.ext b3) (HB.o.2.ext b3));clear b3 d6 cA c5 ba d5 d8 d9 aP db;have cA:=λ Y:Later w1=>Y.h.cell O.o.1.c0;have c5:=λ Y:Later w1=>Y.h.cell O.o.1.c1;have ba:=λ Y:Later w1=>Y.h.cell O.o.1.c2;have d5:=λ Y:Later w1=>Y.h.cell O.o.1.c3;have d8:=λ Y:Later w1=>Y.h.cell O.o.2.c0;have d9:=λ Y:Later w1=>Y.h.cell O.o.2.c1;have aP:=λ Y:Later w1=>Y.h.cell O.o.2.c2;have db:=λ Y:Later w1=>Y.h.cell O.o.2.c3;go_wp2;refine Zh (by kernel_rfl) (by kernel_rfl) ?_
 repeat (go_big_quiet_step (first|(go_at_call 22;first|(with_reducible exact uL (fv.o _))|(with_reducible exact uL (f4.o _)))|fail))
 refine wpQuiet_nil ?_;intro w2 bN;have ac:=Z_ (a6.o.trans (cv.o.trans bN));have I:=Z_ (zS (O.o.1.ext bN) (O.o.2.ext bN));have eo:=Z_ (HM.o.ext ac.o);clear bN cA c5 ba d5 d8 d9 aP db
 by_cases ad:zf=zg
 ·have q0:(zf != zg)=false:=by rw[bne_eq_false_iff_eq];exact ad
  have q1:zm=zf:=by rw[ec.o,ad];omega
  by_cases h0:zf=0
  ·have q2:(zm == 0)=true:=by rw[beq_iff_eq,q1,h0]
   have aa:Hd (YB o s f g=(0,s,[f,g])):=Z_ (by
    unfold YB
    rw[<-af.o,<-a7.o,if_neg (λ h=>h ad),if_pos h0])
   have c0:=I.o.1.c0;have c1:=I.o.1.c1;have c2:=I.o.1.c2;have c3:=I.o.1.c3;have d0:=I.o.2.c0;have d1:=I.o.2.c1;have d2:=I.o.2.c2;have d3:=I.o.2.c3;clear ad h0 q1;go_wp2
   all_goals
    go_ret2;rw[aa.o];exact RQ rfl eo.o (Y7 ac.o o) (bt.o.onS ae.o (YR ac.o)) (bv.o.onS ae.o (YR ac.o))
  ·have q2:(zm == 0)=false:=by rw[beq_eq_false_iff_ne,q1];exact h0
   have ds:Zv zm:=by unfold Zv;rw[q1];omega
   have ed:=Z_ (λ Y:Later w2=>VF.o Y.w' (ac.o.trans Y.h) zm ds);have e9:=Z_ (λ Y:Later w2=>VG.o Y.w' (ac.o.trans Y.h) zm ds);obtain⟨df,dF⟩:∃z,z=degP f.P zm:=⟨_,rfl⟩
   obtain⟨dg,cR⟩:∃z,z=degP g.P zm:=⟨_,rfl⟩
   rw[<-dF]at ed;rw[<-cR]at e9;have co:Hd (YX (ZY f) f g=if df<dg then(g,f) else(f,g)):=Z_ (by unfold YX;rw[dF,cR,q1,af.o]);have b1:=Z_ (zS ad h0);have ba:=λ Y:Later w2=>Y.h.cell I.o.1.c2;have aP:=λ Y:Later w2=>Y.h.cell I.o.2.c2;clear ds dF cR ad h0 q1
   go_upto_region 2 with fail
   go_wp2;refine Zh (by kernel_rfl) (by kernel_rfl) ?_
   repeat (go_big_quiet_step (first|(go_at_call 41;first|(with_reducible exact uL (ed.o _))|(with_reducible exact uL (e9.o _)))|fail))
   refine wpQuiet_nil ?_;intro w3 cd;have ai:=Z_ (ac.o.trans cd);have D:=Z_ (zS (I.o.1.ext cd) (I.o.2.ext cd));clear cd ba aP q0 q2;obtain⟨bl,cQ⟩:∃b:Bool,b=decide (df<dg):=⟨_,rfl⟩
   rw[<-cQ];have fm:=Z_ cQ;clear cQ
   go_upto_if 24 with (fail)
   go_cut [] (λ wx=>∃(F G:DZ) (b:Bool) (vn vp vb:Value) (b':Bool) (bs aG a8:Value),Hd ((F,G)=YX (ZY f) f g)/\Hd (Bx4 W.heap.size wx (.bool b) vn vp vb)/\Hd (Bx4 (W.heap.size+1) wx (.bool b') bs aG a8)/\Hd (DerS S W F b vn vp vb)/\Hd (DerS S W G b' bs aG a8)/\Hd (Ext W wx))
   case first=>
    have c0:=D.o.1.c0;have c1:=D.o.1.c1;have c2:=D.o.1.c2;have c3:=D.o.1.c3;have d0:=D.o.2.c0;have d1:=D.o.2.c1;have d2:=D.o.2.c2;have d3:=D.o.2.c3;have f0:=D.o.1.fz 0;have f1:=D.o.1.fz 1;have f2:=D.o.1.fz 2;have f3:=D.o.1.fz 3;have g0:=D.o.2.fz 0;have g1:=D.o.2.fz 1;have g2:=D.o.2.fz 2;have g3:=D.o.2.fz 3
    cases bl with
    |true=>
     have hS:(g,f)=YX (ZY f) f g:=by rw[co.o,if_pos (of_decide_eq_true fm.o.symm)]
     have av:=Z_ hS;clear hS;go_wp2_with fail
     go_meet
     have q:=Lc D.o.1 D.o.2;exact⟨g,f,_,_,_,_,_,_,_,_,av,Z_ q.1,Z_ q.2,bv,bt,Z_ (RU (RU ai.o (zR _)) (zw _))⟩
    |false=>
     have hS:(f,g)=YX (ZY f) f g:=by rw[co.o,if_neg (of_decide_eq_false fm.o.symm)]
     have av:=Z_ hS;clear hS;go_wp2_with fail
     go_meet
     exact⟨f,g,_,_,_,_,_,_,_,_,av,Z_ D.o.1,Z_ D.o.2,bt,bv,ai⟩
   case rest=>
    rename World=>wx
    obtain⟨F,G,b,vn,vp,vb,b',bs,aG,a8,av,ga,f5,ar,aq,cj⟩:=hcut;have hQ:=HQ.o (by rw[<-af.o,<-a7.o];exact b1.o.1) (by rw[<-af.o];exact b1.o.2);rw[<-av.o]at hQ;simp only at hQ;obtain⟨an3,cn3,rfl⟩:=ar.o.n.form;obtain⟨ap3,cp3,rfl⟩:=ar.o.p.form;obtain⟨ab3,cb3,rfl⟩:=ar.o.y.form;obtain⟨el,ff,rfl⟩:=aq.o.n.form;obtain⟨fc,fh,rfl⟩:=aq.o.p.form;obtain⟨e7,fk,rfl⟩:=aq.o.y.form;obtain⟨i1,fp⟩:∃z,z=(Z8 F.N).mag.length:=⟨_,rfl⟩
    obtain⟨i2,fn⟩:∃z,z=(Z5 F.P).length:=⟨_,rfl⟩
    obtain⟨i3,e6⟩:∃z,z=(F.By.map Z5).length:=⟨_,rfl⟩
    obtain⟨j1,ep⟩:∃z,z=(Z8 G.N).mag.length:=⟨_,rfl⟩
    obtain⟨j2,eu⟩:∃z,z=(Z5 G.P).length:=⟨_,rfl⟩
    obtain⟨j3,ez⟩:∃z,z=(G.By.map Z5).length:=⟨_,rfl⟩
    have bB:=ar.o;have cl:=aq.o;have K:=ga.o;have J:=f5.o;rw[<-fp,<-fn,<-e6]at bB K;rw[<-ep,<-eu,<-ez]at cl J;have HEF':=Z_ bB;have er:=Z_ cl;have cr:=Z_ K;have et:=Z_ J;obtain⟨w5,al⟩:∃Y,Y=wx.alloc (.cells #[.bool b',.slice el j1 ff,.slice fc j2 fh,.slice e7 j3 fk] 48):=⟨_,rfl⟩
    have ca:Hd (Ext W w5):=Z_ (by rw[al];exact cj.o.alloc _);have cq:Hd (Ext wx w5):=Z_ (by rw[al];exact uO (uP _) _);have a9:=(cl.onS ae.o (YR cj.o)).to (S':=NB o wx) (uN _ _) (λ _ h=>h.1)
    have ct:Ders (NB o w5) w5 (.slice (some ⟨wx.heap.size,0,none⟩) 1 1) [G]:=by
     have h:=Nw (d:=G) (W:=wx) a9.n a9.p a9.y (λ k hk=>hk.1);rw[<-a9.g,<-al]at h;refine h.to (uN _ _) (λ k hk=>?_);have e0:wx.heap.size<w5.heap.size:=by rw[al,z00];exact zk _
     rcases hk with hk|hk
     ·exact⟨yD hk.1 e0,hk.2⟩
     ·exact⟨by rw[hk];exact e0,λ e=>by have h1:=HM.o.block e.symm;have h2:=cj.o.size;omega⟩
    have b4:=Ia (W:=w5) (HM.o.ext ca.o) ((bB.onS ae.o (YR ca.o)).to (S':=NB o w5) (uN _ _) (λ _ h=>h.1)).v ct hQ;rw[<-f9.o]at b4;obtain⟨X,hX⟩:∃X,X=YP o s F [G]:=⟨_,rfl⟩
    rw[<-hX]at b4;have cP:=Z_ b4
    have c8:Hd (YB o s f g=if X.1≠0 then(X.1,X.2.1,[]) else(0,X.2.1,[X.2.2,G])):=Z_ (by
     unfold YB
     rw[<-af.o,<-a7.o,if_neg (λ h=>h b1.o.1),if_neg b1.o.2,af.o,<-av.o,hX])
    have c0:=K.c0;have c1:=K.c1;have c2:=K.c2;have c3:=K.c3;have d0:=J.c0;have d1:=J.c1;have d2:=J.c2;have d3:=J.c3;rw[al]at cP;have gf:=Z_ al;clear hQ bB cl K J fp fn e6 ep eu ez a9 ct b4 hX al;go_wp2_with fail;(with_reducible refine cP.o.mono ?_);rintro e w6 ⟨v6,rfl,fg,ch,eB⟩;rw[<-gf.o]at ch eB;have en:=Z_ fg;have eq:=Z_ (YV (Y7 ca.o o) ch);have eg:=Z_ (YV (Y7 cq.o o) ch);have dm:some W.heap.size≠o/\some (W.heap.size+1)≠o:=⟨λ e=>by have:=HM.o.block e.symm;omega,λ e=>by have:=HM.o.block e.symm;omega⟩
    have eh:=Z_ (zS (cr.o.gb eg.o dm.1) (et.o.gb eg.o dm.2));obtain⟨un,up,ub,rfl,cF,c6,d7⟩:=eB;have d4:DerS (λ k=>w5.heap.size<=k/\NB o w6 k) w6 X.2.2 (Z8 X.2.2.N).neg un up ub:=⟨rfl,cF,c6,d7⟩
    obtain⟨a4,bb,rfl⟩:=cF.form;obtain⟨a0,aF,rfl⟩:=c6.form;obtain⟨aR,bu,rfl⟩:=d7.form;obtain⟨e1,cy⟩:∃z,z=(Z8 X.2.2.N).mag.length:=⟨_,rfl⟩
    obtain⟨e2,cG⟩:∃z,z=(Z5 X.2.2.P).length:=⟨_,rfl⟩
    obtain⟨e3,c7⟩:∃z,z=(X.2.2.By.map Z5).length:=⟨_,rfl⟩
    obtain⟨e4,cx⟩:∃z,z=(Z8 X.2.2.N).neg:=⟨_,rfl⟩
    obtain⟨e5,cC⟩:∃z,z=X.1:=⟨_,rfl⟩
    rw[<-cy,<-cG,<-c7,<-cx]at d4;rw[<-cy,<-cG,<-c7,<-cx,<-cC];rw[<-cC]at c8;have fx:=Z_ d4;clear fg ch dm cF c6 d7 d4 cy cG c7 cx cC c0 c1 c2 c3 d0 d1 d2 d3 cP
    by_cases h5:e5=0
    ·subst h5;have aa:Hd (YB o s f g=(0,X.2.1,[X.2.2,G])):=Z_ (by rw[c8.o,if_neg (λ h=>h rfl)]);obtain⟨w7,b6⟩:∃Y,Y=w6.alloc (.cells #[.bool e4,.slice a4 e1 bb,.slice a0 e2 aF,.slice aR e3 bu] 48):=⟨_,rfl⟩
     have Z:Hd (Ext w6 w7):=Z_ (by rw[b6];exact uO (uP _) _);have ci:Hd (Bx4 w6.heap.size w7 (.bool e4) (.slice a4 e1 bb) (.slice a0 e2 aF) (.slice aR e3 bu)):=Z_ (by rw[b6];exact uF (uP _));have U:=Z_ (zS (eh.o.1.ext Z.o) (eh.o.2.ext Z.o))
     go_upto_region 7 with fail
     rw[<-b6];clear b6;have c0:=ci.o.c0;have c1:=ci.o.c1;have c2:=ci.o.c2;have c3:=ci.o.c3;have f0:=U.o.1.fz 0;have f1:=U.o.1.fz 1;have f2:=U.o.1.fz 2;have f3:=U.o.1.fz 3;have d0:=U.o.1.c0;have d1:=U.o.1.c1;have d2:=U.o.1.c2;have d3:=U.o.1.c3;obtain⟨w8,aj⟩:∃Y,Y=Xg w7 W.heap.size (.bool e4) (.slice a4 e1 bb) (.slice a0 e2 aF) (.slice aR e3 bu):=⟨_,rfl⟩
     have ah:=Z_ (show Bx4 W.heap.size w8 (.bool e4) (.slice a4 e1 bb) (.slice a0 e2 aF) (.slice aR e3 bu)/\Bx4 (W.heap.size+1) w8 (.bool b') (.slice el j1 ff) (.slice fc j2 fh) (.slice e7 j3 fk) from by rw[aj];exact⟨P9 U.o.1 _ _ _ _,Qz U.o.2 (by omega) _ _ _ _⟩)
     have ei:Ge (λ k=>some k=o) W w8:=by
      rw[aj];exact(((((Xf eq.o).trans (YR Z.o)).setf (a:=⟨W.heap.size,0,none⟩) (zR _) _).setf (a:=⟨W.heap.size,1,none⟩) (zR _) _).setf (a:=⟨W.heap.size,2,none⟩) (zR _) _).setf (a:=⟨W.heap.size,3,none⟩) (zR _) _
     have a2:∀b,o=some b->b≠W.heap.size:=λ b hb=>by have:=HM.o.block hb;omega
     have eR:MV w8 o X.2.1:=by
      rw[aj];exact((((en.o.ext Z.o).set a2 (a:=⟨W.heap.size,0,none⟩) rfl _).set a2 (a:=⟨W.heap.size,1,none⟩) rfl _).set a2 (a:=⟨W.heap.size,2,none⟩) rfl _).set a2 (a:=⟨W.heap.size,3,none⟩) rfl _
     have eP:w8.heap.size=w7.heap.size:=by rw[aj];unfold Xg;rw[z03,UT]
     have fl:Kept (λ k=>w5.heap.size<=k/\NB o w6 k) w6 w8:=by
      have hn:¬ (λ k=>w5.heap.size<=k/\NB o w6 k) W.heap.size:=λ h=>by
       have h1:=h.1;have h2:=cq.o.size;have h3:=cj.o.size;have h4:=cr.o.lt;omega
      rw[aj];exact(uM Z.o (λ k h=>h.2.1)).trans ((ux hn _ _ _).trans (uH (a:=⟨W.heap.size,3,none⟩) hn _))
     have fq:=fx.o.to (S':=SP S W o w8) fl (λ k h=>⟨⟨by rw[eP];exact zU h.2.1 Z.o.size,h.2.2⟩,.inr (zT ca.o.size h.1)⟩);have em:=Z_ ei;have f6:=Z_ eR;have fr:=Z_ fq;have a5:=aj;simp only[Xg]at a5
     go_upto_region 12 with fail
     rw[<-a5];clear aj a5 c0 c1 c2 c3 d0 d1 d2 d3 f0 f1 f2 f3 ei a2 eR eP fl fq;have c0:=ah.o.1.c0;have c1:=ah.o.1.c1;have c2:=ah.o.1.c2;have c3:=ah.o.1.c3;have d0:=ah.o.2.c0;have d1:=ah.o.2.c1;have d2:=ah.o.2.c2;have d3:=ah.o.2.c3;go_wp2
     all_goals
      go_ret2;rw[aa.o];exact RQ rfl f6.o em.o.gbo fr.o (er.o.onS ae.o em.o)
    ·have aa:Hd (YB o s f g=(e5,X.2.1,[])):=Z_ (by rw[c8.o,if_pos h5]);have q5:(e5 != 0)=true:=by rw[bne_iff_ne];exact h5
     have q6:(e5 == 0)=false:=by rw[beq_eq_false_iff_ne];exact h5
     clear h5;go_wp2
     all_goals
      go_ret2;rw[aa.o];have hx:=uO (uP w6) (.cells #[.bool e4,.slice a4 e1 bb,.slice a0 e2 aF,.slice aR e3 bu] 48);exact⟨_,rfl,en.o.ext hx,YV eq.o (Y7 hx o),Ders.nilv _ _ _ _ (by decide)⟩
 ·have q0:(zf != zg)=true:=by rw[bne_iff_ne];exact ad
  have fA:=Z_ (CF.o w2 ac.o);have c0:=I.o.1.c0;have c1:=I.o.1.c1;have c2:=I.o.1.c2;have c3:=I.o.1.c3;have fd:=Z_ ad;go_wp2_with fail;(with_reducible refine fA.o.mono ?_);rintro e w3 ⟨rfl,bx⟩;have ai:=Z_ (ac.o.trans bx);have D:=Z_ (zS (I.o.1.ext bx) (I.o.2.ext bx));have fP:=Z_ (eo.o.ext bx);clear bx c0 c1 c2 c3 ad q0;have c0:=D.o.1.c0;have c1:=D.o.1.c1;have c2:=D.o.1.c2;have c3:=D.o.1.c3;have d0:=D.o.2.c0;have d1:=D.o.2.c1;have d2:=D.o.2.c2;have d3:=D.o.2.c3
  by_cases cm:zf=zm
  ·have q2:(zf == zm)=true:=by rw[beq_iff_eq];exact cm
   have aa:Hd (YB o s f g=(0,s,[g,f])):=Z_ (by
    unfold YB
    rw[<-af.o,<-a7.o,if_pos fd.o,<-ec.o,if_pos cm])
   have f0:=D.o.1.fz 0;have f1:=D.o.1.fz 1;have f2:=D.o.1.fz 2;have f3:=D.o.1.fz 3;have g0:=D.o.2.fz 0;have g1:=D.o.2.fz 1;have g2:=D.o.2.fz 2;have g3:=D.o.2.fz 3
   go_upto_region 12 with fail
   obtain⟨w4,cc⟩:∃Y,Y=Xg (Xg w3 W.heap.size (.bool bm) (.slice au mn aA) (.slice ay mp aB) (.slice az mb ax)) (W.heap.size+1) (.bool bn) (.slice an nn cn) (.slice ap np cp) (.slice a3 nb cb):=⟨_,rfl⟩
   have aS:=cc;simp only[Xg]at aS;rw[<-aS];have ag:=Z_ (show Bx4 W.heap.size w4 (.bool bm) (.slice au mn aA) (.slice ay mp aB) (.slice az mb ax)/\Bx4 (W.heap.size+1) w4 (.bool bn) (.slice an nn cn) (.slice ap np cp) (.slice a3 nb cb) from by rw[cc];exact Lc D.o.1 D.o.2);have b2:Hd (Ext W w4):=Z_ (by rw[cc];exact RU (RU ai.o (zR _)) (zw _));have f7:=Z_ (HM.o.ext b2.o);clear cc aS q2 c0 c1 c2 c3 d0 d1 d2 d3 f0 f1 f2 f3 g0 g1 g2 g3;have c0:=ag.o.1.c0;have c1:=ag.o.1.c1;have c2:=ag.o.1.c2;have c3:=ag.o.1.c3;have d0:=ag.o.2.c0;have d1:=ag.o.2.c1;have d2:=ag.o.2.c2;have d3:=ag.o.2.c3;go_wp2
   all_goals
    go_ret2;rw[aa.o];exact RQ rfl f7.o (Y7 b2.o o) (bv.o.onS ae.o (YR b2.o)) (bt.o.onS ae.o (YR b2.o))
  ·have q2:(zf == zm)=false:=by rw[beq_eq_false_iff_ne];exact cm
   have aa:Hd (YB o s f g=(0,s,[f,g])):=Z_ (by
    unfold YB
    rw[<-af.o,<-a7.o,if_pos fd.o,<-ec.o,if_neg cm])
   go_wp2
   all_goals
    go_ret2;rw[aa.o];exact RQ rfl fP.o (Y7 ai.o o) (bt.o.onS ae.o (YR ai.o)) (bv.o.onS ae.o (YR ai.o))
end
end Go.Proofs.YtlbohjnfkhemlaaGreat
