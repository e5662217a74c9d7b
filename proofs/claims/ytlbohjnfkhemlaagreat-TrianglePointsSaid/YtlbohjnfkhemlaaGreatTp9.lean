/- The program's division: all its steps. -/
import Derived.RangeFuncNested
import Derived.RangeFuncBound
import Derived.RangeFuncCalls
import Derived.RangeFuncLeaves
import Derived.Shelf.Abstract
import Derived.Shelf.RegionOpen
import Derived.OwnWalkIn
import Derived.TacticsInMore
import Derived.LoopNIn
import Derived.LoopIn
import Derived.Test.YtlbohjnfkhemlaaGreatTp8
set_option maxRecDepth 100000
set_option maxHeartbeats 16000000
namespace Go.Proofs.YtlbohjnfkhemlaaGreat
section
open Go.RowKit
def SO(w:World)(a:Addr):Nat:=match w.cell? a with
 |some (.int _ n)=>n.toNat
 |_=>0
theorem ML{w:World}{a:Addr}{k:IntKind}{n:Int}(h:w.cell? a=some (.int k n)):SO w a=n.toNat:=by unfold SO;rw[h]
def UN(K:Nat)(e:Value)(n:Nat):Nat:=if intOf e=0 then K+2-n else 0
theorem zgn(K:Nat)(n:Nat):UN K (.int .i64 0) n=K+2-n:=if_pos rfl
theorem Gj{K:Nat}{c:Int}(h:c≠0){n:Nat}:UN K (.int .i64 c) n=0:=if_neg h
def FF(W:World)(o:Option Nat)(R:DRes):Ending->World->Prop:=λ e W'=>∃bd,e=.returned (.tuple #[.pointer (some ⟨bd,0,none⟩),.int .i64 R.e])/\MV W' o R.s/\W.grownBy W' o /\
 (R.e=0->∃vq vr,W'.cell? ⟨bd,5,none⟩=some vq/\W'.cell? ⟨bd,6,none⟩=some vr/\W'.cell? ⟨bd,7,none⟩=some (.int .i64 (R.n:Nat))/\PMN W.heap.size o W' vq R.q/\PMN W.heap.size o W' vr R.r)
theorem G7{W:World}{o:Option Nat}{s:MSt}{vf vg:Value}{v:Int}{keep:Bool}{f g:PZ}{A B T M:Nat}(hM:MV W o s)(hf:PM o W vf f)(hg:PM o W vg g)(fg:Fit A T g)(hF:z7q o keep g (Zz g v) v (degP g v) B M ((degP f v).toNat+1) s [] f)
  (hA:A<24) (hB:B<=80000) (hT:1<=T) (hTb:T<=1000000) (hTM:2*T*M<=1000000000000) (hv:1<=v/\v<=200) (hd:1<=degP g v) :
  Calls Tryz.prog 142 #[ZK o,vf,vg,.int .i64 v,.bool keep] W (FF W o (ZA o keep s f g v)):=by
 have cd:M<=2*T*M:=yk M (by omega);have ff:=hF.now.2;have aN:=XW ff.can.may v;have bg:=XW fg.can.may v;have fh:=fg.coef v (degP g v);have CB:=eQ_ (vm:=ZK o) (keep:=keep) ⟨_,rfl⟩ hf.pv hg.pv ff fg (by omega) (by omega) (by omega) (by omega) hv hd;obtain⟨R,hR⟩:∃R,R=ZA o keep s f g v:=⟨_,rfl⟩
 rw[<-hR];have co:=Z_ hR;obtain⟨K,hK⟩:∃K,K=(degP f v).toNat+1:=⟨_,rfl⟩
 have HK:=Z_ hK;have ci:=Z_ hF;have HM:=Z_ hM;have HG:=Z_ hg;have b1:=Z_ (λ b hb=>hM.block (b:=b) hb);have a4:=Z_ fg;have cn:=Z_ (show Fit A T (Zz g v) from fh);have HV:=Z_ hv;have b4:=Z_ hd;have bs:=Z_ (zS aN.1 aN.2);have aj:=Z_ (zS hA (zS hB (zS hT hTM)));obtain⟨vm,aF⟩:∃x,x=ZK o:=⟨_,rfl⟩
 rw[<-aF]at CB⊢;have bN:=Z_ aF;obtain⟨af,cf,rfl⟩:=hf.form;obtain⟨ag,cg,rfl⟩:=hg.form;obtain⟨nf,bx⟩:∃n,n=(Z5 f).length:=⟨_,rfl⟩
 obtain⟨ng,az⟩:∃n,n=(Z5 g).length:=⟨_,rfl⟩
 rw[<-bx,<-az]at CB⊢;rw[<-az]at HG;obtain⟨d,aH⟩:∃d,d=degP g v:=⟨_,rfl⟩
 have O:=Z_ aH;rw[<-aH]at CB bg;have b6:=Z_ CB;obtain⟨hv1,hv2⟩:=hv;obtain⟨hgr1,hgr2⟩:=bg;clear CB hM hf hg fg hF ff fh hR hK aN aF bx az aH hA hB hT hTb hTM cd hd
 go_enter Tryz.func142,Tryz.ntmps142
 go_wp2_with fail;(with_reducible refine b6.o.mono ?_);rintro e w1 ⟨bd,vh,vr0,rfl,bm,ba,bu,bb,au⟩;have ac:=Z_ au;have aR:=Z_ bm;have ct:Hd (∀b,o=some b->b≠bd):=Z_ (λ b hb=>by have:=b1.o b hb;omega);have ch:=Z_ bu;have ca:=Z_ bb;have ce:=Z_ ba;have ax:Hd (∀k,(New W w1 k/\k≠bd)->NC o bd w1 k):=Z_ (λ k hk=>⟨hk.1.2,λ e=>by have:=b1.o k e.symm;have:=hk.1.1;omega,hk.2⟩);have cj:Hd (PC o bd w1 (.slice ag ng cg) g):=Z_ (HG.o.to (Qk (Y7 au o)) (λ k h=>⟨zU h.1 au.size,h.2,by have:=h.1;omega⟩));clear au bm ba bu bb;go_wp2
 go_loopw [13] (λ e wr=>Hd (Gd o bd w1 wr)/\((∃(k:Nat) (s':MSt) (q r:PZ) (n:Nat) (vq vr:Value),e=.int .i64 0/\Hd (runD o keep g (Zz g v) v (degP g v) k s' q r n=R)/\Hd (degP r v<(k:Int))/\Hd (z7q o keep g (Zz g v) v (degP g v) B M k s' q r)/\Hd (DivAt wr bd vm v d (.slice ag ng cg) vh vq vr (n:Nat) keep)/\Hd (PN W.heap.size o bd wr vq q)/\Hd (PN W.heap.size o bd wr vr r)/\Hd (MV wr o s')/\Hd (n+k=K)) ∨
   (∃c:Int,e=.int .i64 c/\c≠0/\Hd (R.e=c)/\Hd (MV wr o R.s)))) (λ e wr=>UN K e (SO wr ⟨bd,7,none⟩))
 case atStart=>exact⟨Gd.refl _ _ _,.inl ⟨K,s,[],f,0,_,_,rfl,by show _=_;rw[co.o,HK.o];rfl,by show _<_;have:=bs.o;rw[HK.o];omega,by rw[HK.o];exact ci,ce,z06.nilv _ _ _ _ (by decide),ca.o.to (uN _ _) (λ k hk=>⟨hk.1.1,ax.o k hk⟩),HM.o.ext ac.o,zr _⟩⟩
 case round=>
  obtain⟨Z,aS⟩:=hrel
  rcases aS with ⟨k,s',q,r,n,vq,vr,rfl,HR,bB,HF,HD,HQ,U,al,ap⟩|⟨c,rfl,aP,HE,al⟩
  ·have ad:=Z_ HF.o.now;have aB:=XW ad.o.2.can.may v;obtain⟨k1,cu⟩:∃k1,k=k1+1:=⟨k-1,by have:=bB.o;omega⟩
   subst cu;have e2:=HD.o.c2;have e6:=HD.o.c6;have HSZ:=Z_ HD.o.lt
   by_cases ai:r=[]
   ·have a5:=ai;subst ai;have I:Hd (R=⟨0,q,[],n,s'⟩):=Z_ (by rw[<-HR.o,zdi,if_pos (.inl rfl)]);obtain⟨ar,cr,bn⟩:=U.o.form;have bt:vr=.slice ar 0 cr:=bn;clear bn a5 aB;subst bt;have L2:=λ Y:Later wr=>Y.h.cell e2;have L6:=λ Y:Later wr=>Y.h.cell e6;go_wp2;refine Zh (by kernel_rfl) (by kernel_rfl) ?_
    repeat (go_big_quiet_step (fail))
    refine wpQuiet_nil ?_;intro W2 D;have z:=Z_ D;clear L2 L6 D e2 e6;go_wp2
    all_goals
     go_ret2;rw[I.o];refine⟨bd,rfl,al.o.ext z.o,(((Y8 ac.o).trans Z.o).trans (Y8 z.o)).gb aR.o,λ _=>?_⟩;have D2:=HD.o.ext z.o;exact⟨_,_,D2.c5,D2.c6,D2.c7,(ui HQ.o (Y8 z.o)).pmn,(ui U.o (Y8 z.o)).pmn⟩
   ·have CD:=λ(Y:Later wr)=>UI (z06.on (PN.pc U.o).pv Y.h) ad.o.2 (by have:=aj.o.2.1;omega) (x:=v) (by unfold Zv;omega);have cb:0<(Z5 r).length:=by rw[z5w];exact yF.2 ai
    obtain⟨ar,cr,rfl⟩:=U.o.form;obtain⟨nr,ay⟩:∃n,n=(Z5 r).length:=⟨_,rfl⟩
    rw[<-ay]at CD cb HD U e6;obtain⟨dr,aa⟩:∃d,d=degP r v:=⟨_,rfl⟩
    rw[<-aa]at CD aB;have ae:=Z_ aa;have bv:=Z_ CD;have ah:=Z_ ai;obtain⟨hdr1,hdr3⟩:=aB;clear ai ay aa CD;have L2:=λ Y:Later wr=>Y.h.cell e2;have L6:=λ Y:Later wr=>Y.h.cell e6
    by_cases aG:dr<d
    ·have q1:decide (d<=dr)=false:=decide_eq_false (by omega);have I:Hd (R=⟨0,q,r,n,s'⟩):=Z_ (by rw[<-HR.o,zdi,if_pos (.inr (by rw[<-ae.o,<-O.o];exact aG))]);clear aG;go_wp2;refine Zh (by kernel_rfl) (by kernel_rfl) ?_
     repeat (go_big_quiet_step (first|(go_at_call 41;exact uL (bv.o _))))
     refine wpQuiet_nil ?_;intro W2 D;have z:=Z_ D;clear L2 L6 D e2 e6;go_wp2
     all_goals
      go_ret2;rw[I.o];refine⟨bd,rfl,al.o.ext z.o,(((Y8 ac.o).trans Z.o).trans (Y8 z.o)).gb aR.o,λ _=>?_⟩;have D2:=HD.o.ext z.o;exact⟨_,_,D2.c5,D2.c6,D2.c7,(ui HQ.o (Y8 z.o)).pmn,(ui U.o (Y8 z.o)).pmn⟩
    ·have a0:d<=dr:=by omega
     have q1:decide (d<=dr)=true:=decide_eq_true a0;have av:=Z_ a0;have cq:Hd (n<=1000000):=Z_ (by have h1:=ap.o;have h2:=HK.o;have h3:=bs.o;omega);have cp:=Z_ (λ(Y:World) (hY:Ext wr Y)=>Il (o:=o) (s:=s') (by rw[<-bN.o];exact HD.o.ext hY) (al.o.ext hY) ct.o (PC.on cj.o (Z.o.trans (Y8 hY))) (PC.on (ch.o.to (uN _ _) ax.o) (Z.o.trans (Y8 hY))) (PN.pc (ui HQ.o (Y8 hY))) (PN.pc (ui U.o (Y8 hY))) a4.o cn.o ad.o.1 ad.o.2 aj.o.1 aj.o.2.1 aj.o.2.2.1 aj.o.2.2.2 HV.o (by omega) (by rw[<-ae.o];exact av.o) ⟨by omega,by have:=cq.o;omega⟩);clear aG a0;go_wp2;refine Zh (by kernel_rfl) (by kernel_rfl) ?_
     repeat (go_big_quiet_step (first|(go_at_call 41;exact uL (bv.o _))))
     refine wpQuiet_nil ?_;intro W2 D;have z:=Z_ D;have b2:=Z_ (cp.o W2 D);clear L2 L6 D e2 e6;go_wp2_with fail;(with_reducible refine b2.o.mono ?_);rintro e w3 ⟨rfl,bA,b3,bl⟩;have aq:=Z_ bA;have a3:=Z_ ((Z.o.trans (Y8 z.o)).trans b3);have a7:=Z_ bl;clear bA b3 bl;have a8:SO wr ⟨bd,7,none⟩=n:=by rw[ML HD.o.c7];omega
     have aA:Hd (runD o keep g (Zz g v) v (degP g v) (k1+1) s' q r n=match (Yl o keep g (Zz g v) v d s' q r).2.2 with
      |none=>⟨(Yl o keep g (Zz g v) v d s' q r).1,[],[],0,(Yl o keep g (Zz g v) v d s' q r).2.1⟩
      |some x=>runD o keep g (Zz g v) v (degP g v) k1 (Yl o keep g (Zz g v) v d s' q r).2.1 x.1 x.2 (n+1)):=Z_ (by
       rw[zdi,if_neg (by
        rintro(h|h)
        ·exact ah.o h
        ·rw[<-ae.o,<-O.o]at h;have:=av.o;omega),O.o]
       first|done|rfl)
     cases hx:(Yl o keep g (Zz g v) v d s' q r).2.2 with
     |none=>
      have hc:=B_ hx;have HC:=Z_ hc
      have I:Hd (R.e=(Yl o keep g (Zz g v) v d s' q r).1/\R.s=(Yl o keep g (Zz g v) v d s' q r).2.1):=Z_ (by
       have h:=aA.o;rw[hx,HR.o]at h;rw[h]
       exact⟨rfl,rfl⟩)
      generalize Yl o keep g (Zz g v) v d s' q r=X at *;obtain⟨c,s2,y⟩:=X;simp only at hc HC I aq;clear hx;go_wp2
      go_roundw
      case rel=>exact⟨a3,.inr ⟨c,rfl,hc,I.o.1,by show MV _ _ _;rw[I.o.2];exact aq.o⟩⟩
      case measure=>
       rw[Gj hc,zgn,a8];have:=ap.o;omega
     |some x=>
      have J:=Dw hx;have HSO:=Z_ J;obtain⟨cv,cm,d3,a6,bf⟩:=a7.o x hx;have a2:=Z_ d3;have aC:W.heap.size<=W2.heap.size:=zT ac.o.size (zT Z.o.size z.o.size);have b7:=Z_ (PN.low a6 aC);have cl:=Z_ (PN.low bf aC);have cc:=Z_ (LU (keep:=keep) (q:=q) (x:=x) a4.o.can ad.o.2.can ah.o HV.o (by rw[<-O.o];have:=b4.o;rw[<-O.o]at this;exact this) (by rw[<-O.o,<-ae.o];exact av.o) (by rw[<-O.o];exact J.2.2.1));have a9:=Z_ (HF.o.2.2 ah.o (by rw[<-O.o,<-ae.o];exact av.o) J.2.1 x (by rw[<-O.o];exact J.2.2.1) J.2.2.2.1 J.2.2.2.2.1)
      have I:Hd (runD o keep g (Zz g v) v (degP g v) k1 (Yl o keep g (Zz g v) v d s' q r).2.1 x.1 x.2 (n+1)=R):=Z_ (by
       have h:=aA.o;rw[hx,HR.o]at h
       exact h.symm)
      rw[J.2.2.2.2.2]at I aq;rw[J.1];clear J d3 a6 bf aA a7 aC;go_wp2
      go_roundw
      case rel=>exact⟨a3,.inl ⟨k1,(z1o o s').2,x.1,x.2,n+1,cv,cm,rfl,I,by show _<_;have h1:=cc.o.2;have h2:=bB.o;omega,a9,by rw[bN.o];exact a2,b7,cl,aq,by show _=_;have:=ap.o;omega⟩⟩
      case measure=>
       rw[zgn,zgn,a8,ML a2.o.c7];have:=ap.o;omega
  ·have q0:(c == 0)=false:=by rw[beq_eq_false_iff_ne];exact aP
   have HC:=Z_ aP;clear aP;go_wp2;refine Zh (by kernel_rfl) (by kernel_rfl) ?_
   repeat (go_big_quiet_step (fail))
   refine wpQuiet_nil ?_;intro W2 D;have z:=Z_ D;clear D;go_wp2
   all_goals
    go_ret2;refine⟨bd,by rw[HE.o];rfl,al.o.ext z.o,(((Y8 ac.o).trans Z.o).trans (Y8 z.o)).gb aR.o,λ h=>absurd (HE.o.symm.trans h) HC.o⟩
end
section
open Go.RowKit
def NA(W:World)(o:Option Nat)(R:DRes):Ending->World->Prop:=λ e W'=>∃vq vr,e=.returned (.tuple #[vq,vr,.int .i64 (R.n:Nat),.int .i64 R.e])/\MV W' o R.s/\W.grownBy W' o/\PMN W.heap.size o W' vq R.q/\PMN W.heap.size o W' vr R.r
section
variable {W:World} {o:Option Nat} {s:MSt} {vf vg:Value} {v:Int} {f g:PZ} {A B T M:Nat}
theorem Dy(hM:MV W o s)(hf:PM o W vf f)(hg:PM o W vg g)(fg:Fit A T g)(hF:z7q o true g (Zz g v) v (degP g v) B M ((degP f v).toNat+1) s [] f)
  (hA:A<24) (hB:B<=80000) (hT:1<=T) (hTb:T<=1000000) (hTM:2*T*M<=1000000000000) (hv:1<=v/\v<=200) (hd:1<=degP g v) :
  Calls Tryz.prog 116 #[ZK o,vf,vg,.int .i64 v] W (NA W o (ZA o true s f g v)):=by
 have C:=Z_ (G7 (keep:=true) hM hf hg fg hF hA hB hT hTb hTM hv hd);have y:=Z_ (Iy (o:=o) (keep:=true) (g:=g) (v:=v) (h:=Zz g v) (d:=degP g v) ((degP f v).toNat+1) s [] f 0);obtain⟨R,hR⟩:∃R,R=ZA o true s f g v:=⟨_,rfl⟩
 rw[show runD o true g (Zz g v) v (degP g v) ((degP f v).toNat+1) s [] f 0=R from hR.symm]at y;rw[<-hR]at C⊢;obtain⟨vm,aa⟩:∃x,x=ZK o:=⟨_,rfl⟩
 rw[<-aa]at C⊢;obtain⟨af,cf,rfl⟩:=hf.form;obtain⟨ag,cg,rfl⟩:=hg.form;obtain⟨nf,Z⟩:∃n,n=(Z5 f).length:=⟨_,rfl⟩
 obtain⟨ng,X⟩:∃n,n=(Z5 g).length:=⟨_,rfl⟩
 rw[<-Z,<-X]at C⊢;clear hM hf hg fg hF hA hB hT hTb hTM hv hd hR aa Z X;obtain⟨re,rq,rr,rn,rs⟩:=R;simp only at y
 by_cases h0:re=0
 ·subst h0;clear y
  go_enter Tryz.func116,Tryz.ntmps116
  go_wp2_with fail;(with_reducible refine C.o.mono ?_);rintro e w1 ⟨bd,rfl,D,z,O⟩;obtain⟨vq,vr,e5,e6,e7,hq,hr⟩:=O rfl;have K:=Z_ D;have J:=Z_ z;have HQ:=Z_ hq;have HR:=Z_ hr;have L5:=λ Y:Later w1=>Y.h.cell e5;have L6:=λ Y:Later w1=>Y.h.cell e6;have L7:=λ Y:Later w1=>Y.h.cell e7;clear D z hq hr O;go_wp2;refine Zh (by kernel_rfl) (by kernel_rfl) ?_
  repeat (go_big_quiet_step (fail))
  refine wpQuiet_nil ?_;intro W2 U;have I:=Z_ U;clear L5 L6 L7 U e5 e6 e7;go_wp2
  all_goals
   refine bodyPost_ret (v:=.tuple #[vq,vr,.int .i64 (rn:Nat),.int .i64 0]) (by simp[results,Tryz.results116,go_sem]) rfl ?_;exact⟨_,_,rfl,K.o.ext I.o,YV J.o (Y7 I.o o),PMN.ext HQ.o I.o,PMN.ext HR.o I.o⟩
 ·have q0:(re != 0)=true:=by rw[bne_iff_ne];exact h0
  have ac:Hd (rq=[]/\rr=[]/\rn=0):=Z_ (by rcases y.o with h|h;exact absurd h h0;exact h);clear y h0
  go_enter Tryz.func116,Tryz.ntmps116
  go_wp2_with fail;(with_reducible refine C.o.mono ?_);rintro e w1 ⟨bd,rfl,D,z,-⟩;have K:=Z_ D;have J:=Z_ z;clear D z;go_wp2
  all_goals
   refine bodyPost_ret (v:=.tuple #[.slice none 0 0,.slice none 0 0,.int .i64 0,.int .i64 re]) (by simp[results,Tryz.results116,go_sem]) rfl ?_;obtain⟨rfl,rfl,rfl⟩:=ac.o;exact⟨_,_,rfl,K.o,J.o,z06.nilv _ _ _ _ (by decide),z06.nilv _ _ _ _ (by decide)⟩
end
section
variable {W:World} {vm vf vg:Value} {v:Int} {fs gs:List RTerm}
end
end
section
open Go.RowKit
theorem Hl{S:Nat->Prop}(va vb:Value)(xs ys:List Nat)(w:World)(ha:U32s S w va xs)(hb:U32s S w vb ys)(hS:∀k,S k->k<w.heap.size) :
  Calls Tryz.prog 50 #[va,vb] w λ e w'=>e=.returned (.bool (decide (xs=ys)))/\Ext w w':=by
 have HA:=Z_ ha;have HB:=Z_ hb;have ag:=ha.len_le;have af:=hb.len_le;obtain⟨aa,ca,rfl⟩:=ha.form;obtain⟨ab,cb,rfl⟩:=hb.form;obtain⟨X,J⟩:∃n,n=xs.length:=⟨_,rfl⟩
 obtain⟨nb,I⟩:∃n,n=ys.length:=⟨_,rfl⟩
 rw[<-J]at HA ag⊢;rw[<-I]at HB af⊢;have O:=Z_ J;have D:=Z_ I;clear ha hb J I
 by_cases K:X=nb
 ·subst K
  go_enter Tryz.func50,Tryz.ntmps50
  go_wp2
  go_loopw [5] (λ i wr=>∃k:Nat,k<=X/\i=.int .i64 k/\Ext w wr/\Hd (xs.take k=ys.take k)) (λ i _=>X-(intOf i).toNat)
  case atStart=>exact⟨0,zL _,rfl,uP _,rfl⟩
  case round=>
   obtain⟨k,hk,rfl,hx,HE⟩:=hrel;have HX:=Z_ hx
   by_cases ac:k<X
   ·obtain⟨x,z⟩:=ZN (l:=xs) (j:=k) (by rw[<-O.o];exact ac);obtain⟨y,U⟩:=ZN (l:=ys) (j:=k) (by rw[<-D.o];exact ac);obtain⟨b1,o1,rfl,-,hc1,hm1,hz1,h1⟩:=(HA.o.ext hx hS).cellAt z;obtain⟨b2,o2,rfl,-,hc2,hm2,hz2,h2⟩:=(HB.o.ext hx hS).cellAt U;have ad:=Z_ z;have ae:=Z_ U;clear z U hx
    by_cases he:x=y
    ·have q1:((x:Int) != (y:Int))=false:=by rw[he];simp
     have H0:=Z_ he;clear he;go_wp2
     go_quiet (fail)
     go_wp2
     go_roundw
     case rel=>exact⟨k+1,by omega,by go_num,HX.o.drewN _,Ro HE.o ad.o (by rw[H0.o];exact ae.o)⟩
     case measure=>simp only[intOf];omega
    ·have q1:((x:Int) != (y:Int))=true:=by rw[bne_iff_ne];omega
     have Z:Hd (xs≠ys):=Z_ (So ad.o ae.o he);clear he;go_wp2
     go_quiet (fail)
     go_wp2;go_ret;exact⟨by rw[decide_eq_false Z.o];rfl,HX.o.drewN _⟩
   ·obtain rfl:k=X:=by omega
    have Z:Hd (xs=ys):=Z_ (by have:=HE.o;rwa [zN (by rw[<-O.o];exact zR _),zN (by rw[<-D.o];exact zR _)]at this);clear hx;go_wp2;go_ret;exact⟨by rw[decide_eq_true Z.o];rfl,HX.o⟩
 ·have hb:((X:Int) != (nb:Int))=true:=by rw[bne_iff_ne];omega
  have Z:Hd (xs≠ys):=Z_ (λ e=>K (by rw[O.o,D.o,e]));clear K
  go_enter Tryz.func50,Tryz.ntmps50
  go_wp2;go_ret;exact⟨by rw[decide_eq_false Z.o];rfl,uP _⟩
theorem FM{S:Nat->Prop}(va vb:Value)(xs ys:Z7)(w:World)(ha:Pows S w va xs)(hb:Pows S w vb ys)(hS:∀k,S k->k<w.heap.size) :
  Calls Tryz.prog 28 #[va,vb] w λ e w'=>e=.returned (.bool (decide (xs=ys)))/\Ext w w':=by
 have HA:=Z_ ha;have HB:=Z_ hb;have aC:=ha.len_le;have az:=hb.len_le;obtain⟨aa,ca,rfl⟩:=ha.form;obtain⟨ab,cb,rfl⟩:=hb.form;obtain⟨I,U⟩:∃n,n=xs.length:=⟨_,rfl⟩
 obtain⟨nb,O⟩:∃n,n=ys.length:=⟨_,rfl⟩
 rw[<-U]at HA aC⊢;rw[<-O]at HB az⊢;have D:=Z_ U;have z:=Z_ O;clear ha hb U O
 by_cases X:I=nb
 ·subst X
  go_enter Tryz.func28,Tryz.ntmps28
  go_wp2
  go_loopw [5] (λ i wr=>∃k:Nat,k<=I/\i=.int .i64 k/\Ext w wr/\Hd (xs.take k=ys.take k)) (λ i _=>I-(intOf i).toNat)
  case atStart=>exact⟨0,zL _,rfl,uP _,rfl⟩
  case round=>
   obtain⟨k,hk,rfl,hx,HE⟩:=hrel;have HX:=Z_ hx
   by_cases af:k<I
   ·obtain⟨x,K⟩:=ZN (l:=xs) (j:=k) (by rw[<-D.o];exact af);obtain⟨y,Z⟩:=ZN (l:=ys) (j:=k) (by rw[<-z.o];exact af);obtain⟨b1,o1,ay,ap,aG,hm1,⟨⟨ah,aj⟩,ag,ar⟩,h1,ad⟩:=(HA.o.ext hx hS).at K;obtain⟨rfl,-,rfl⟩:aa=some ⟨b1,o1,none⟩/\I=xs.length/\ca=ay:=by simpa using ap
    obtain⟨b2,o2,aA,aq,aF,hm2,⟨⟨ai,ac⟩,au,al⟩,h2,ae⟩:=(HB.o.ext hx hS).at Z;obtain⟨rfl,-,rfl⟩:ab=some ⟨b2,o2,none⟩/\I=ys.length/\cb=aA:=by simpa using aq
    clear ap aq;rw[<-D.o]at aG;rw[<-z.o]at aF;have av:=Z_ K;have ax:=Z_ Z;clear K Z hx
    by_cases J:x=y
    ·have H0:=Z_ J;obtain⟨x1,x2⟩:=x;obtain⟨y1,y2⟩:=y;obtain⟨rfl,rfl⟩:x1=y1/\x2=y2:=by simpa using J
     simp only at h1 ad h2 ae ah aj ag ar ai ac au al;clear J;go_wp2
     go_quiet (fail)
     go_wp2
     go_roundw
     case rel=>exact⟨k+1,by omega,by go_num,HX.o.drewN _,Ro HE.o av.o ax.o⟩
     case measure=>simp only[intOf];omega
    ·have HF:Hd (xs≠ys):=Z_ (So av.o ax.o J);obtain⟨x1,x2⟩:=x;obtain⟨y1,y2⟩:=y;simp only at h1 ad h2 ae ah aj ag ar ai ac au al
     have aB:x1≠y1∨(x1=y1/\x2≠y2):=by
      by_cases h:x1=y1
      ·exact .inr ⟨h,λ h'=>J (by rw[h,h'])⟩
      ·exact .inl h
     clear J;rcases aB with J|⟨rfl,J⟩
     all_goals
      go_wp2
      go_quiet (fail)
      go_wp2;go_ret;exact⟨by rw[decide_eq_false HF.o];rfl,HX.o.drewN _⟩
   ·obtain rfl:k=I:=by omega
    have HF:Hd (xs=ys):=Z_ (by have:=HE.o;rwa [zN (by rw[<-D.o];exact zR _),zN (by rw[<-z.o];exact zR _)]at this);clear hx;go_wp2;go_ret;exact⟨by rw[decide_eq_true HF.o];rfl,HX.o⟩
 ·have hb:((I:Int) != (nb:Int))=true:=by rw[bne_iff_ne];omega
  have HF:Hd (xs≠ys):=Z_ (λ e=>X (by rw[D.o,z.o,e]));clear X
  go_enter Tryz.func28,Tryz.ntmps28
  go_wp2;go_ret;exact⟨by rw[decide_eq_false HF.o];rfl,uP _⟩
theorem If{S:Nat->Prop}(v1 v2:Value)(sn tn:Bool)(sm tm:List Nat)(w:World)(h1:U32s S w v1 sm)(h2:U32s S w v2 tm)(hS:∀k,S k->k<w.heap.size) :
  Calls Tryz.prog 27 #[.agg #[.bool sn,v1],.agg #[.bool tn,v2]] w λ e w'=>e=.returned (.bool (decide (sn=tn) && decide (sm=tm)))/\Ext w w':=by
 have z:=λ(W:World) (hW:Ext w W)=>Hl _ _ sm tm W (h1.ext hW hS) (h2.ext hW hS) (ZM hS hW);obtain⟨a1,c1,rfl⟩:=h1.form;obtain⟨U,c2,rfl⟩:=h2.form;have O:Ext w ((w.alloc (.cells #[.bool sn,.slice a1 sm.length c1] 28)).alloc (.cells #[.bool tn,.slice U tm.length c2] 28)):=uO (uO (uP w) _) _;have J:=Z_ O;clear h1 h2 O
 by_cases K:sn=tn
 ·subst K
  cases hm:decide (sm=tm) with
  |false=>
   simp only[hm]at z;have D:=Z_ z;clear z hm
   go_enter Tryz.func27,Tryz.ntmps27
   go_wp2_with fail;(with_reducible refine(D.o _ J.o).mono ?_);rintro e w1 ⟨rfl,y⟩;have I:=Z_ (J.o.trans y);clear y;go_wp2
   all_goals
    go_ret;exact⟨by simp,I.o⟩
  |true=>
   simp only[hm]at z;have D:=Z_ z;clear z hm
   go_enter Tryz.func27,Tryz.ntmps27
   go_wp2_with fail;(with_reducible refine(D.o _ J.o).mono ?_);rintro e w1 ⟨rfl,y⟩;have I:=Z_ (J.o.trans y);clear y;go_wp2
   all_goals
    go_ret;exact⟨by simp,I.o⟩
 ·have hb:(sn == tn)=false:=by rw[beq_eq_false_iff_ne];exact K
  have X:=Z_ (decide_eq_false K);clear K z
  go_enter Tryz.func27,Tryz.ntmps27
  go_wp2
  all_goals
   go_ret;exact⟨by rw[X.o];simp,J.o⟩
theorem ER{S:Nat->Prop}(va vb:Value)(xs ys:List RTerm)(w:World)(ha:z06 S w va xs)(hb:z06 S w vb ys)(hS:∀k,S k->k<w.heap.size) :
  Calls Tryz.prog 14 #[va,vb] w λ e w'=>e=.returned (.bool (decide (xs=ys)))/\Ext w w':=by
 have HA:=Z_ ha;have HB:=Z_ hb;have al:=ha.len_le;have aq:=hb.len_le;obtain⟨aa,ca,rfl⟩:=ha.form;obtain⟨ab,cb,rfl⟩:=hb.form;obtain⟨K,ag⟩:∃n,n=xs.length:=⟨_,rfl⟩
 obtain⟨nb,af⟩:∃n,n=ys.length:=⟨_,rfl⟩
 rw[<-ag]at HA al⊢;rw[<-af]at HB aq⊢;have O:=Z_ ag;have Z:=Z_ af;clear ha hb ag af
 by_cases ai:K=nb
 ·subst ai
  go_enter Tryz.func14,Tryz.ntmps14
  go_wp2
  go_loopw [5] (λ i wr=>∃k:Nat,k<=K/\i=.int .i64 k/\Ext w wr/\Hd (xs.take k=ys.take k)) (λ i _=>K-(intOf i).toNat)
  case atStart=>exact⟨0,zL _,rfl,uP _,rfl⟩
  case round=>
   obtain⟨k,hk,rfl,hx,HE⟩:=hrel;have HX:=Z_ hx
   by_cases aj:k<K
   ·obtain⟨x,ad⟩:=ZN (l:=xs) (j:=k) (by rw[<-O.o];exact aj);obtain⟨y,ah⟩:=ZN (l:=ys) (j:=k) (by rw[<-Z.o];exact aj);obtain⟨b1,o1,v1,v2,rfl,-,hc1,hm1,hz1,h1,h2,h3,h4,h5⟩:=(HA.o.ext hx hS).cellAt ad;obtain⟨b2,o2,v3,v4,rfl,-,hc2,hm2,hz2,g1,g2,g3,g4,g5⟩:=(HB.o.ext hx hS).cellAt ah;have ac:=Z_ ad;have ae:=Z_ ah;obtain⟨⟨xn,xm⟩,xo⟩:=x;obtain⟨⟨yn,ym⟩,yo⟩:=y;simp only at h1 h2 h3 h4 h5 g1 g2 g3 g4 g5;have D:=ZM hS hx;have C4:=λ Y:Later wr=>If (S:=S) v1 v3 xn yn xm ym Y.w' (h4.ext Y.h D) (g4.ext Y.h D) (ZM D Y.h);have C7:=λ Y:Later wr=>FM (S:=S) v2 v4 xo yo Y.w' (h5.ext Y.h D) (g5.ext Y.h D) (ZM D Y.h);have L1:=λ Y:Later wr=>Y.h.cell h1;have L2:=λ Y:Later wr=>Y.h.cell h2;have L3:=λ Y:Later wr=>Y.h.cell h3;have M1:=λ Y:Later wr=>Y.h.cell g1;have M2:=λ Y:Later wr=>Y.h.cell g2;have M3:=λ Y:Later wr=>Y.h.cell g3;obtain⟨a1,c1,rfl⟩:=h4.form;obtain⟨a2,c2,rfl⟩:=h5.form;obtain⟨a3,c3,rfl⟩:=g4.form;obtain⟨a4,c4,rfl⟩:=g5.form;have hlen:Hd (xs.length=K/\ys.length=K):=Z_ ⟨O.o.symm,Z.o.symm⟩;have q1:(k:Int)<(K:Int):=by omega
    clear h1 h2 h3 h4 h5 g1 g2 g3 g4 g5 ad ah hx D
    cases hd4:(decide (xn=yn) && decide (xm=ym)) with
    |false=>
     have U:Hd (xs≠ys):=Z_ (So ac.o ae.o (λ e=>by
      simp at e;obtain⟨⟨e1,e2⟩,e3⟩:=e;rw[e1,e2]at hd4
      simp at hd4))
     simp only[hd4]at C4;have X:=Z_ C4;have J:=Z_ C7;clear C4 C7 hd4;go_wp2;refine Zh (by kernel_rfl) (by kernel_rfl) ?_
     repeat (go_big_quiet_step (first|(go_at_call 27;exact uL (X.o _))))
     refine wpQuiet_nil ?_;intro W2 z;have I:=Z_ (HX.o.trans z);clear L1 L2 L3 M1 M2 M3 z;go_wp2;go_ret;exact⟨by rw[decide_eq_false U.o];rfl,I.o⟩
    |true=>
     have ap:=Z_ hd4;simp only[hd4]at C4;have X:=Z_ C4;clear C4 hd4
     cases hd7:decide (xo=yo) with
     |false=>
      have U:Hd (xs≠ys):=Z_ (So ac.o ae.o (λ e=>by
       simp at e;obtain⟨⟨e1,e2⟩,e3⟩:=e;rw[e3]at hd7
       simp at hd7))
      simp only[hd7]at C7;have J:=Z_ C7;clear C7 hd7;go_wp2;refine Zh (by kernel_rfl) (by kernel_rfl) ?_
      repeat (go_big_quiet_step (first|(go_at_call 27;exact uL (X.o _))|(go_at_call 28;exact uL (J.o _))))
      refine wpQuiet_nil ?_;intro W2 z;have I:=Z_ (HX.o.trans z);clear L1 L2 L3 M1 M2 M3 z;go_wp2;go_ret;exact⟨by rw[decide_eq_false U.o];rfl,I.o⟩
     |true=>
      have U:Hd (xs.take (k+1)=ys.take (k+1)):=Z_ (Ro HE.o ac.o (by
       have h4:=ap.o;simp at h4 hd7;rw[h4.1,h4.2,hd7]
       exact ae.o))
      simp only[hd7]at C7;have J:=Z_ C7;clear C7 hd7;go_wp2;refine Zh (by kernel_rfl) (by kernel_rfl) ?_
      repeat (go_big_quiet_step (first|(go_at_call 27;exact uL (X.o _))|(go_at_call 28;exact uL (J.o _))))
      refine wpQuiet_nil ?_;intro W2 z;have I:=Z_ (HX.o.trans z);clear L1 L2 L3 M1 M2 M3 z;go_wp2
      go_roundw
      case rel=>exact⟨k+1,by omega,by go_num,I.o,U⟩
      case measure=>simp only[intOf];omega
   ·obtain rfl:k=K:=by omega
    have U:Hd (xs=ys):=Z_ (by have:=HE.o;rwa [zN (by rw[<-O.o];exact zR _),zN (by rw[<-Z.o];exact zR _)]at this);clear hx;go_wp2;go_ret;exact⟨by rw[decide_eq_true U.o];rfl,HX.o⟩
 ·have hb:((K:Int) != (nb:Int))=true:=by rw[bne_iff_ne];omega
  have U:Hd (xs≠ys):=Z_ (λ e=>ai (by rw[O.o,Z.o,e]));clear ai
  go_enter Tryz.func14,Tryz.ntmps14
  go_wp2;go_ret;exact⟨by rw[decide_eq_false U.o];rfl,uP _⟩
end
section
open Go.RowKit
def Xj(p:PZ):Bool:=decide (p.length<=10) && p.all λ t=>decide (t.1.natAbs<=100) && Z3 t.2
theorem Vm{p:PZ}(h:Xj p=true):XM p 10 100:=by
 unfold Xj at h;simp only[zK,decide_eq_true_eq,xb]at h;exact⟨h.1,λ t ht=>(h.2 t ht).1⟩
theorem Yh{p:PZ}(h:Xj p=true):ZD p:=by
 unfold Xj at h;simp only[zK,decide_eq_true_eq,xb]at h;exact λ t ht=>(h.2 t ht).2
theorem Xx{p:PZ}(h:Xj p=true):XN p:=Qx (Vm h) (n:=3) (by omega) (by decide) (by omega)
theorem UR{p q:PZ}(hp:Xj p=true)(hq:Xj q=true)(k:Nat)(_:k<=q.length):XN (addP p (q.take k)):=by
 have z:=Oi (l:=q.take k) (N:=100) (Vm hp) (λ t ht=>(Vm hq).2 t (yU ht));have y:(q.take k).length<=10:=zT (by rw[zD];omega) (Vm hq).1;refine Qx z (n:=5) (by omega) ?_ (by omega);have:(q.take k).length*100<=10*100:=zF _ y;omega
theorem EQ{p q:PZ}(hp:Xj p=true)(hq:Xj q=true):Ts p q:=by
 obtain⟨a1,y⟩:=Vm hp;obtain⟨D,z⟩:=Vm hq;have I:p.length*q.length<=10*10:=yR a1 D
 refine⟨10000,7,λ t ht u hu=>?_,by omega,?_,by omega⟩
 ·rw[xS];exact yR (y t ht) (z u hu)
 ·have:p.length*q.length*10000<=100*10000:=zF _ I;omega
abbrev Xr:PZ:=[(1,[(1,1)])]
abbrev Ww:PZ:=[(1,[(2,1)])]
end
section
open Go.RowKit
theorem Ey{W W':World}(h:W.grownBy W' none):Ext W W':=⟨h.os,h.tape,h.output,h.size,λ k hk=>h.block k hk (by simp)⟩
section
variable {W:World} {vf vg:Value} {v:Int} {f g:PZ} {A B T M:Nat}
end
abbrev k121:PZ:=[(1,[])]
theorem Wr{p:PZ}(hc:canP p)(h:Xj p=true):Fit 1 10 p:=⟨hc,λ t ht=>by
 have h1:=(Vm h).2 t ht;show t.1.natAbs<Z9^1;unfold Z9
 omega,(Vm h).1⟩
end
section
open Go.RowKit
section
variable {W Y Y':World} {S:Nat->Prop} {o:Option Nat} {u v:Value} {p q:PZ} {k l n m:Nat}
end
section
variable {o:Option Nat} {keep:Bool} {g h q r:PZ} {v d c1 c2 c3:Int} {s s1 s2 s3:MSt} {x:PZ×PZ}
end
end
section
open Go.RowKit
end
section
open Go.RowKit
def Vp(a b:Int):Int:=if b<0 then -((Int.gcd a b:Nat):Int) else((Int.gcd a b:Nat):Int)
theorem Ui(a b:Int)(hb:b≠0):Vp a b≠0/\a=(Rat.divInt a b).num*Vp a b/\b=((Rat.divInt a b).den:Int)*Vp a b:=by
 rw[Rat.num_divInt,Rat.den_divInt,if_neg hb];have K:0<Int.gcd a b:=Int.gcd_pos_iff.2 (.inr hb);have y:b.gcd a=a.gcd b:=Int.gcd_comm b a;rw[y];have z:(Int.gcd a b:Int)∣a:=Int.gcd_dvd_left ..;have J:(Int.gcd a b:Int)∣b:=Int.gcd_dvd_right ..
 have I:Int.gcd a b∣b.natAbs:=by
  have h:=xB.2 J
  rwa [y7]at h
 unfold Vp;generalize Int.gcd a b=g at K z J I⊢
 have D:((b.natAbs / g:Nat):Int)*(g:Int)=(b.natAbs:Int):=by
  rw[<-yz,Nat.div_mul_cancel I]
 by_cases h:b<0
 ·rw[if_pos h,Int.sign_eq_neg_one_of_neg h];have e:-1*a / (g:Int)*(g:Int) = -1*a:=xH (vI z)
  refine⟨by omega,?_,?_⟩
  ·rw[wm,e];omega
  ·rw[wm,D];omega
 ·rw[if_neg h,Int.sign_eq_one_of_pos (by omega)];have e:1*a / (g:Int)*(g:Int)=1*a:=xH (vI z)
  refine⟨by omega,?_,?_⟩
  ·rw[e];omega
  ·rw[D];omega
def RatI(S:Nat->Prop)(w:World)(v:Value)(x y:RInt):Prop:=∃vn vd,v=.agg #[.bool x.neg,vn,.bool y.neg,vd]/\U32s S w vn x.mag/\U32s S w vd y.mag
def Yi(S:Nat->Prop)(w:World)(v:Value)(q:Rat):Prop:=RatI S w v (Z8 q.num) (Z8 (q.den:Int))
theorem RatI.to{S S':Nat->Prop}{w w':World}{v:Value}{x y:RInt}(h:RatI S w v x y)(hk:Kept S w w')(hS:∀k,S k->S' k):RatI S' w' v x y:=by
 obtain⟨vn,vd,h1,h2,h3⟩:=h;exact⟨vn,vd,h1,h2.to hk hS,h3.to hk hS⟩
theorem X8{w:World}{b:Nat}{u0 u1 u2 u3:Value}(x y z t:Value)(c0:w.cell? ⟨b,0,none⟩=some u0)(c1:w.cell? ⟨b,1,none⟩=some u1)(c2:w.cell? ⟨b,2,none⟩=some u2)(c3:w.cell? ⟨b,3,none⟩=some u3) :
  ((((w.setCell ⟨b,0,none⟩ x).setCell ⟨b,1,none⟩ y).setCell ⟨b,2,none⟩ z).setCell ⟨b,3,none⟩ t).cell? ⟨b,0,none⟩=some x /\
  ((((w.setCell ⟨b,0,none⟩ x).setCell ⟨b,1,none⟩ y).setCell ⟨b,2,none⟩ z).setCell ⟨b,3,none⟩ t).cell? ⟨b,1,none⟩=some y /\
  ((((w.setCell ⟨b,0,none⟩ x).setCell ⟨b,1,none⟩ y).setCell ⟨b,2,none⟩ z).setCell ⟨b,3,none⟩ t).cell? ⟨b,2,none⟩=some z /\
  ((((w.setCell ⟨b,0,none⟩ x).setCell ⟨b,1,none⟩ y).setCell ⟨b,2,none⟩ z).setCell ⟨b,3,none⟩ t).cell? ⟨b,3,none⟩=some t:=by
 have D:∀i j:Nat,i≠j->(⟨b,i,none⟩:Addr)≠⟨b,j,none⟩:=λ i j h e=>h (congrArg Addr.off e)
 refine⟨?_,?_,?_,?_⟩
 ·exact ZZ (ZZ (ZZ (YT c0) (D 1 0 (by decide))) (D 2 0 (by decide))) (D 3 0 (by decide))
 ·exact ZZ (ZZ (YT (ZZ c1 (D 0 1 (by decide)))) (D 2 1 (by decide))) (D 3 1 (by decide))
 ·exact ZZ (YT (ZZ (ZZ c2 (D 0 2 (by decide))) (D 1 2 (by decide)))) (D 3 2 (by decide))
 ·exact YT (ZZ (ZZ (ZZ c3 (D 0 3 (by decide))) (D 1 3 (by decide))) (D 2 3 (by decide)))
theorem XJ{w:World}{b c i:Nat}{u:Value}(h:w.cell? ⟨c,i,none⟩=some u)(hne:b≠c)(x y:Value):((w.setCell ⟨b,0,none⟩ x).setCell ⟨b,1,none⟩ y).cell? ⟨c,i,none⟩=some u:=ZZ (ZZ h (ab hne)) (ab hne)
theorem Xs{w:World}{b:Nat}{c:Addr}(h:w.frozen? c=false)(x y:Value):((w.setCell ⟨b,0,none⟩ x).setCell ⟨b,1,none⟩ y).frozen? c=false:=Zg (Zg h)
theorem GK{Y:Int}(h0:Y≠0)(h:¬ Y<0):Zx Y=1:=by
 unfold Zx cmpI;rw[if_neg h,if_pos (by omega)]
theorem SK(r:RInt):(Z6 r).natAbs=val Z9 r.mag:=by
 unfold Z6
 split<;>simp
theorem M8{X:Int}{r:RInt}(h0:Z6 r≠0)(hr:∀z∈r.mag,z<Z9):(Z4 Z9 (Int.gcd X (Z6 r))).length<=r.mag.length:=by
 refine zT (Yp ?_) (XL hr);rw[<-SK];refine xA (by omega) ?_;have h:=xB.2 (Int.gcd_dvd_right (a:=X) (b:=Z6 r))
 rwa [y7]at h
theorem NM{a w:World}{b:Nat}(h:Ext a w)(hb:a.heap.size<=b)(x y:Value):Ext a ((w.setCell ⟨b,0,none⟩ x).setCell ⟨b,1,none⟩ y):=(h.setCell hb _).setCell hb _
theorem XT{S:Nat->Prop}{w:World}{a:Addr}{v:Value}{zs:List Nat}(h:U32s S w v zs)(hb:¬ S a.block)(x:Value):U32s S (w.setCell a x) v zs:=h.to (uH hb x) (λ _ h=>h)
theorem Kk{w w6 w9:World}{b:Nat}{n d:RInt}{vn vd:Value}(h9:Ext w w9)(hw6:b<w6.heap.size)(hbw:w.heap.size+1<=b)(h6:w.heap.size<=w6.heap.size)(hn:U32s (New w6 w9) w9 vn n.mag)(hd:U32s (New w6 w9) w9 vd d.mag)(x1 x2 x3 x4 x5 x6:Value) :
  RatI (New w ((((((w9.setCell ⟨w.heap.size+1,0,none⟩ x1).setCell ⟨w.heap.size+1,1,none⟩ x2).setCell ⟨b,0,none⟩ x3).setCell ⟨b,1,none⟩ x4).setCell ⟨b,2,none⟩ x5).setCell ⟨b,3,none⟩ x6))
   ((((((w9.setCell ⟨w.heap.size+1,0,none⟩ x1).setCell ⟨w.heap.size+1,1,none⟩ x2).setCell ⟨b,0,none⟩ x3).setCell ⟨b,1,none⟩ x4).setCell ⟨b,2,none⟩ x5).setCell ⟨b,3,none⟩ x6) (.agg #[.bool n.neg,vn,.bool d.neg,vd]) n d /\
  Ext w ((((((w9.setCell ⟨w.heap.size+1,0,none⟩ x1).setCell ⟨w.heap.size+1,1,none⟩ x2).setCell ⟨b,0,none⟩ x3).setCell ⟨b,1,none⟩ x4).setCell ⟨b,2,none⟩ x5).setCell ⟨b,3,none⟩ x6):=by
 have z:¬ New w6 w9 (w.heap.size+1):=λ h=>by have:=h.1;omega
 have y:¬ New w6 w9 b:=λ h=>by have:=h.1;omega
 have hb:w.heap.size<=b:=by omega
 have up:∀v zs,U32s (New w6 w9) w9 v zs->U32s (New w ((((((w9.setCell ⟨w.heap.size+1,0,none⟩ x1).setCell ⟨w.heap.size+1,1,none⟩ x2).setCell ⟨b,0,none⟩ x3).setCell ⟨b,1,none⟩ x4).setCell ⟨b,2,none⟩ x5).setCell ⟨b,3,none⟩ x6))
   ((((((w9.setCell ⟨w.heap.size+1,0,none⟩ x1).setCell ⟨w.heap.size+1,1,none⟩ x2).setCell ⟨b,0,none⟩ x3).setCell ⟨b,1,none⟩ x4).setCell ⟨b,2,none⟩ x5).setCell ⟨b,3,none⟩ x6) v zs:=λ v zs h=>
  (XT (XT (XT (XT (XT (XT h z _) z _) y _) y _) y _) y _).to (uN _ _) (λ k hk=>⟨zT h6 hk.1,by simp only[z03];exact hk.2⟩)
 exact⟨⟨vn,vd,rfl,up _ _ hn,up _ _ hd⟩,(((((h9.setCell (zw _) _).setCell (zw _) _).setCell hb _).setCell hb _).setCell hb _).setCell hb _⟩
theorem Wc{S:Nat->Prop}{w:World}{b:Nat}{v:Value}{zs:List Nat}(h:U32s S w v zs)(hb:¬ S b)(x y:Value):U32s S ((w.setCell ⟨b,0,none⟩ x).setCell ⟨b,1,none⟩ y) v zs:=h.to (ur hb _ _) (λ _ h=>h)
theorem Sy{S:Nat->Prop}(vx vy:Value)(x y:RInt)(w:World)(hx:IntV S w vx x)(hy:IntV S w vy y)(hS:∀k,S k->k<w.heap.size)(hr:x.mag.length<=10000000000)(hr2:y.mag.length<=10000000000)(h0:Z6 y≠0) :
  Calls Tryz.prog 58 #[vx,vy] w λ e w'=>∃v',e=.returned (.tuple #[v',.int .i64 0])/\Yi (New w w') w' v' (Rat.divInt (Z6 x) (Z6 y))/\Ext w w':=by
 obtain⟨xn,xs⟩:=x;obtain⟨yn,ys⟩:=y;obtain⟨vxm,rfl,aF⟩:=hx;obtain⟨vym,rfl,aq⟩:=hy;simp only at aF aq hr hr2⊢;obtain⟨X,hX⟩:∃X,X=Z6 ⟨xn,xs⟩:=⟨_,rfl⟩
 obtain⟨Y,hY⟩:∃Y,Y=Z6 ⟨yn,ys⟩:=⟨_,rfl⟩
 rw[<-hY]at h0;have HP:=Z_ (Ui X Y h0);have bl:=Z_ h0;have HX:=Z_ aF;have HY:=Z_ aq;obtain⟨ax,cx,rfl⟩:=aF.form;obtain⟨ay,cy,rfl⟩:=aq.form;obtain⟨w0,ae⟩:∃W,W=(((w.alloc (.cells #[.bool xn,.slice ax xs.length cx] 28)).alloc (.cells #[.bool yn,.slice ay ys.length cy] 28)).alloc (.cells #[.bool false,.slice none 0 0,.bool false,.slice none 0 0] 30)):=⟨_,rfl⟩
 have aR:Hd (Ext w w0):=Z_ (by rw[ae];exact uO (uO (uO (uP w) _) _) _);have bv:Hd (w0.heap.size=w.heap.size+1+1+1):=Z_ (by rw[ae];simp)
 have HB:=Z_ (λ(W:World) (h:Ext w0 W)=>by
  rw[ae]at h
  exact Zf h)
 have cz:=Z_ (λ(W:World) (h:Ext w0 W)=>by
  rw[ae]at h;have e2:Ext ((w.alloc (.cells #[.bool xn,.slice ax xs.length cx] 28)).alloc (.cells #[.bool yn,.slice ay ys.length cy] 28)) W:=(uO (uP _) _).trans h;have e1:Ext (w.alloc (.cells #[.bool xn,.slice ax xs.length cx] 28)) W:=(uO (uP _) _).trans e2
  exact zS (λ i=>e1.new_free i) (λ i=>by have h1:=e2.new_free i;rw[z00]at h1;exact h1))
 have CS:=Z_ (X5 (.agg #[.bool yn,.slice ay ys.length cy]) ⟨yn,ys⟩ w0 ⟨_,rfl,aq.ext aR.o hS⟩ (ZM hS aR.o) (by show ys.length<=_;omega));rw[<-hY]at CS;have cu:=Z_ ae;rw[ae]at CS;have cg:=Z_ hX;have ai:=Z_ hY;rw[<-hX,<-hY];obtain⟨J,K,-,-⟩:=HB.o w0 (uP _);have c1:=J 0 _ rfl;have c2:=J 1 _ rfl;have c3:=K 0 _ rfl;have c4:=K 1 _ rfl;rw[ae]at c1 c2 c3 c4
 have hsg:(Zx Y == 0)=false:=by
  rw[beq_eq_false_iff_ne];unfold Zx cmpI
  split
  ·omega
  ·split<;>omega
 clear aF aq hX hY ae J K h0
 go_enter Tryz.func58,Tryz.ntmps58
 go_wp2_with fail;refine CS.o.mono ?_;rintro e w1 ⟨rfl,aB⟩;rw[<-cu.o]at aB;obtain⟨J,K,-,-⟩:=HB.o w1 aB;have d1:=J 0 _ rfl;have d2:=J 1 _ rfl;have d3:=K 0 _ rfl;have d4:=K 1 _ rfl;have aH:=Z_ (aR.o.trans aB);have a4:=Z_ aB;have CG:=Z_ (RO (.agg #[.bool xn,.slice ax xs.length cx]) (.agg #[.bool yn,.slice ay ys.length cy]) ⟨xn,xs⟩ ⟨yn,ys⟩ w1 ⟨_,rfl,HX.o.ext aH.o hS⟩ ⟨_,rfl,HY.o.ext aH.o hS⟩ (ZM hS aH.o) hr hr2);rw[<-cg.o,<-ai.o]at CG;clear aB J K c1 c2 c3 c4;go_wp2_with fail;refine CG.o.mono ?_;rintro e w2 ⟨v2,rfl,⟨vm2,rfl,bu⟩,ba⟩;have cn:=Z_ (aH.o.trans ba);have au:=Z_ (a4.o.trans ba);have cd:=Z_ bu;obtain⟨ah,ch,rfl⟩:=bu.form;obtain⟨I,ac⟩:∃m,m=(Z8 ((Int.gcd X Y:Nat):Int)).mag:=⟨_,rfl⟩
 obtain⟨gb,ag⟩:∃m,m=(Z8 ((Int.gcd X Y:Nat):Int)).neg:=⟨_,rfl⟩
 rw[<-ac]at cd⊢;rw[<-ag];have aC:=Z_ (zS ac ag);obtain⟨w3,ad⟩:∃W,W=w2.alloc (.cells #[.bool gb,.slice ah I.length ch] 28):=⟨_,rfl⟩
 have a3:=Z_ ad;have b6:=Z_ (show Ext w w3 by rw[ad];exact cn.o.alloc _);have Z:=Z_ (show Ext w0 w3 by rw[ad];exact au.o.alloc _)
 have bN:=Z_ (λ(W:World) (h:Ext w3 W)=>by
  rw[ad]at h
  exact zS (h.new_cell (i:=0) (v:=.bool gb) rfl) (zS (h.new_cell (i:=1) (v:=.slice ah I.length ch) rfl) (zS (h.new_free 0) (h.new_free 1))))
 have cc:=Z_ (show U32s (New w0 w3) w3 (.slice ah I.length ch) I by rw[ad];exact cd.o.to (uM (uO (uP _) _) uK) (λ k h=>⟨zT a4.o.size h.1,by rw[z00];have:=h.2;omega⟩));have a6:=Z_ (X5 (.agg #[.bool yn,.slice ay ys.length cy]) ⟨yn,ys⟩ w3 ⟨_,rfl,HY.o.ext b6.o hS⟩ (ZM hS b6.o) (by show ys.length<=_;omega));rw[<-ai.o]at a6;rw[ad]at a6;obtain⟨J,K,-,-⟩:=HB.o w3 Z.o;have d1:=J 0 _ rfl;have d2:=J 1 _ rfl;have d3:=K 0 _ rfl;have d4:=K 1 _ rfl;rw[ad]at d1 d2 d3 d4;have hz2:w.heap.size+1+1<w2.heap.size:=by have h1:=au.o.size;have h2:=bv.o;omega
 clear bu ba J K ac ag ad;go_wp2_with fail;refine a6.o.mono ?_;rintro e w4 ⟨rfl,ap⟩;rw[<-a3.o]at ap;obtain⟨J,K,-,-⟩:=HB.o w4 (Z.o.trans ap);have d1:=J 0 _ rfl;have d2:=J 1 _ rfl;have d3:=K 0 _ rfl;have d4:=K 1 _ rfl;obtain⟨g0,g1,cl,cp⟩:=bN.o w4 ap;have D:=Z_ ap
 have b7:Hd (I.length<=10000000000):=Z_ (by
  rw[aC.o.1];show(Z4 Z9 (Int.natAbs ((Int.gcd X Y:Nat):Int))).length<=_;rw[y7,ai.o]
  exact zT (M8 (r:=⟨yn,ys⟩) (by rw[<-ai.o];exact bl.o) HY.o.lt) hr2)
 clear ap J K;by_cases aj:Y<0
 case' pos=>
  have bs:Zx Y = -1:=by unfold Zx cmpI;rw[if_pos aj]
  rw[bs]
  have CN:=Z_ (RH (.agg #[.bool gb,.slice ah I.length ch]) ⟨gb,I⟩ w4 ⟨_,rfl,ZW (YQ cc.o) D.o⟩ (λ k h=>h) (by
   show I.length<=_;have h1:=b7.o
   omega))
  have e0:Z6 ⟨gb,I⟩=((Int.gcd X Y:Nat):Int):=by
   rw[aC.o.1,aC.o.2];exact z09 ((Int.gcd X Y:Nat):Int)
  rw[e0]at CN;go_wp2_with fail;refine CN.o.mono ?_;rintro e w5 ⟨v5,rfl,⟨vm5,rfl,aG⟩,aA⟩;obtain⟨J,K,b3,b4⟩:=HB.o w5 ((Z.o.trans D.o).trans aA);obtain⟨g0,g1,cl,cp⟩:=bN.o w5 (D.o.trans aA);have hd:=λ x y=>YY x y g0 g1;obtain⟨I,ac⟩:∃m,m=(Z8 (-((Int.gcd X Y:Nat):Int))).mag:=⟨_,rfl⟩
  obtain⟨gb,ag⟩:∃m,m=(Z8 (-((Int.gcd X Y:Nat):Int))).neg:=⟨_,rfl⟩
  rw[<-ac]at aG;rw[<-ag];have cv:=Z_ aG;obtain⟨ah,ch,rfl⟩:=aG.form;obtain⟨w6,U⟩:∃W,W=(w5.setCell ⟨w2.heap.size,0,none⟩ (.bool gb)).setCell ⟨w2.heap.size,1,none⟩ (.slice ah I.length ch):=⟨_,rfl⟩
  have ce:Hd (Ext w3 w5):=Z_ (D.o.trans aA);have af:Hd (Ext w0 w6):=Z_ (by rw[U];exact NM ((Z.o.trans D.o).trans aA) au.o.size _ _);have q1:=XJ (b:=w2.heap.size) (J 0 _ rfl) (by omega) (.bool gb) (.slice ah I.length ch);have q2:=XJ (b:=w2.heap.size) (J 1 _ rfl) (by omega) (.bool gb) (.slice ah I.length ch);have q3:=(hd (.bool gb) (.slice ah I.length ch)).1;have q4:=(hd (.bool gb) (.slice ah I.length ch)).2
  have a8:Hd (w6.cell? ⟨w2.heap.size,0,none⟩=some (.bool gb)/\w6.cell? ⟨w2.heap.size,1,none⟩=some (.slice ah I.length ch)/\w2.heap.size<w6.heap.size):=Z_ (by
   rw[U]
   exact⟨q3,q4,by rw[z2m];exact zU (by rw[a3.o,z00];omega) ce.o.size⟩)
  have cm:Hd (w6.cell? ⟨w.heap.size+1,0,none⟩=some (.bool yn)/\w6.cell? ⟨w.heap.size+1,1,none⟩=some (.slice ay ys.length cy)):=Z_ (by
   rw[U]
   exact⟨XJ (K 0 _ rfl) (by omega) _ _,XJ (K 1 _ rfl) (by omega) _ _⟩)
  have ar:Hd (RInt.mk gb I=Z8 (Vp X Y)):=Z_ (by
   rw[ac,ag];unfold Vp
   rw[if_pos aj])
  have bg:Hd (U32s (New w0 w6) w6 (.slice ah I.length ch) I):=Z_ (by
   rw[U]
   exact(Wc cv.o (λ h=>by have h1:=h.1;have h2:=D.o.size;have h3:w3.heap.size=w2.heap.size+1:=(by rw[a3.o,z00]);omega) _ _).to (uN _ _) (λ k h=>⟨zT (zT Z.o.size D.o.size) h.1,zU h.2 (xC (z2m _ _).symm)⟩))
  have az:Hd (I.length<=10000000000):=Z_ (by
   rw[ac];show(Z4 Z9 (Int.natAbs (-((Int.gcd X Y:Nat):Int)))).length<=_;rw[xv,y7,ai.o]
   exact zT (M8 (r:=⟨yn,ys⟩) (by rw[<-ai.o];exact bl.o) HY.o.lt) hr2)
  clear ac ag aG aA J K b3 b4 hd CN e0;go_wp2_with fail;rw[<-U]
 case' neg=>
  have bs:Zx Y=1:=GK bl.o aj;rw[bs];obtain⟨J,K,b3,b4⟩:=HB.o w4 (Z.o.trans D.o);obtain⟨w6,U⟩:∃W,W=w4:=⟨_,rfl⟩
  have af:Hd (Ext w0 w6):=Z_ (by rw[U];exact Z.o.trans D.o)
  have a8:Hd (w6.cell? ⟨w2.heap.size,0,none⟩=some (.bool gb)/\w6.cell? ⟨w2.heap.size,1,none⟩=some (.slice ah I.length ch)/\w2.heap.size<w6.heap.size):=Z_ (by
   rw[U]
   exact⟨g0,g1,zU (by rw[a3.o,z00];omega) D.o.size⟩)
  have cm:Hd (w6.cell? ⟨w.heap.size+1,0,none⟩=some (.bool yn)/\w6.cell? ⟨w.heap.size+1,1,none⟩=some (.slice ay ys.length cy)):=Z_ (by
   rw[U]
   exact⟨K 0 _ rfl,K 1 _ rfl⟩)
  have ar:Hd (RInt.mk gb I=Z8 (Vp X Y)):=Z_ (by
   rw[aC.o.1,aC.o.2];unfold Vp
   rw[if_neg aj])
  have bg:Hd (U32s (New w0 w6) w6 (.slice ah I.length ch) I):=Z_ (by
   rw[U]
   exact cc.o.to (uM D.o uK) (λ k h=>⟨h.1,zU h.2 D.o.size⟩))
  have az:Hd (I.length<=10000000000):=b7;clear J K b3 b4;go_wp2_with fail;rw[<-U]
 all_goals
  have aN:=Z_ (aR.o.trans af.o);have CE:=Z_ (UQ (S:=Z2 w6) (.agg #[.bool xn,.slice ax xs.length cx]) (.agg #[.bool gb,.slice ah I.length ch]) ⟨xn,xs⟩ ⟨gb,I⟩ w6 ⟨_,rfl,(HX.o.ext aN.o hS).to (uN _ _) (ZM hS aN.o)⟩ ⟨_,rfl,YQ bg.o⟩ (λ _ h=>h) hr az.o (Rat.divInt X Y).num (by rw[ar.o,z09];exact HP.o.1) (by rw[ar.o,z09,<-cg.o];exact HP.o.2.1));refine CE.o.mono ?_;rintro e w7 ⟨v7,rfl,⟨vm7,rfl,a0⟩,aa⟩;obtain⟨nl,bn⟩:∃m,m=(Z8 (Rat.divInt X Y).num).mag:=⟨_,rfl⟩
  obtain⟨nb,bt⟩:∃m,m=(Z8 (Rat.divInt X Y).num).neg:=⟨_,rfl⟩
  rw[<-bn]at a0;rw[<-bt];have cq:=Z_ a0;obtain⟨a7,c7,rfl⟩:=a0.form;obtain⟨J,K,b3,b4⟩:=HB.o w7 (af.o.trans aa);have hd:=λ x y=>YY x y (J 0 _ rfl) (J 1 _ rfl);obtain⟨bm,aP⟩:=cz.o w7 (af.o.trans aa);have e71:=J 0 _ rfl;have e72:=J 1 _ rfl;have f1:=bm 0;have f2:=bm 1;have f3:=aP 0;have f4:=aP 1;have ca:=Z_ (λ i=>Xs (b:=w.heap.size) (aP i) (.bool nb) (.slice a7 nl.length c7));have bb:Hd (w.heap.size+1+1<w6.heap.size):=Z_ (by have h1:=af.o.size;have h2:=bv.o;omega);obtain⟨w8,al⟩:∃W,W=(w7.setCell ⟨w.heap.size,0,none⟩ (.bool nb)).setCell ⟨w.heap.size,1,none⟩ (.slice a7 nl.length c7):=⟨_,rfl⟩
  have bx:Hd (Ext w w8):=Z_ (by rw[al];exact NM (aN.o.trans aa) (zR _) _ _);have k1:=(hd (.bool nb) (.slice a7 nl.length c7)).1;have k2:=(hd (.bool nb) (.slice a7 nl.length c7)).2;have k3:=XJ (b:=w.heap.size) (K 0 _ rfl) (by omega) (.bool nb) (.slice a7 nl.length c7);have k4:=XJ (b:=w.heap.size) (K 1 _ rfl) (by omega) (.bool nb) (.slice a7 nl.length c7);have k5:=XJ (b:=w.heap.size) (aa.cell a8.o.1) (by omega) (.bool nb) (.slice a7 nl.length c7);have k6:=XJ (b:=w.heap.size) (aa.cell a8.o.2.1) (by omega) (.bool nb) (.slice a7 nl.length c7);have m1:=XJ (b:=w.heap.size) (b3 0 _ rfl) (by omega) (.bool nb) (.slice a7 nl.length c7);have m2:=XJ (b:=w.heap.size) (b3 1 _ rfl) (by omega) (.bool nb) (.slice a7 nl.length c7);have m3:=XJ (b:=w.heap.size) (b3 2 _ rfl) (by omega) (.bool nb) (.slice a7 nl.length c7);have m4:=XJ (b:=w.heap.size) (b3 3 _ rfl) (by omega) (.bool nb) (.slice a7 nl.length c7);have mf:=λ i=>Xs (b:=w.heap.size) (b4 i) (.bool nb) (.slice a7 nl.length c7);have HM:=Z_ (zS k1 (zS k2 (zS k3 (zS k4 (zS m1 (zS m2 (zS m3 (zS m4 mf))))))));rw[<-al]at HM ca
  have cr:Hd (U32s (New w6 w8) w8 (.slice a7 nl.length c7) nl):=Z_ (by
   rw[al]
   exact(Wc cq.o (λ h=>by have h1:=h.1;have h2:=bb.o;omega) _ _).to (uN _ _) (λ k h=>⟨h.1,zU h.2 (xC (z2m _ _).symm)⟩))
  have ct:Hd (U32s (New w0 w8) w8 (.slice ah I.length ch) I):=Z_ (by
   rw[al]
   exact(Wc (bg.o.to (uM aa uK) (λ _ h=>h)) (λ h=>by have h1:=h.1;have h2:=bv.o;omega) _ _).to (uN _ _) (λ k h=>⟨h.1,zU (zU h.2 aa.size) (xC (z2m _ _).symm)⟩))
  have a5:Hd (w6.heap.size<=w8.heap.size):=Z_ (by rw[al,z2m];exact aa.size);have cj:=Z_ (UQ (S:=Z2 w8) (.agg #[.bool yn,.slice ay ys.length cy]) (.agg #[.bool gb,.slice ah I.length ch]) ⟨yn,ys⟩ ⟨gb,I⟩ w8 ⟨_,rfl,(HY.o.ext bx.o hS).to (uN _ _) (ZM hS bx.o)⟩ ⟨_,rfl,YQ ct.o⟩ (λ _ h=>h) hr2 az.o ((Rat.divInt X Y).den:Int) (by rw[ar.o,z09];exact HP.o.1) (by rw[ar.o,z09,<-ai.o];exact HP.o.2.2));have ci:=Z_ (zS bn bt);have hz3:w.heap.size<w2.heap.size:=by omega
  clear bm aP a0 aa J K b3 b4 hd bn bt m1 m2 m3 m4 mf;go_wp2_with fail;rw[<-al];refine cj.o.mono ?_;rintro e w9 ⟨v9,rfl,⟨vm9,rfl,aS⟩,O⟩;obtain⟨dl,bf⟩:∃m,m=(Z8 ((Rat.divInt X Y).den:Int)).mag:=⟨_,rfl⟩
  obtain⟨db,bA⟩:∃m,m=(Z8 ((Rat.divInt X Y).den:Int)).neg:=⟨_,rfl⟩
  rw[<-bf]at aS;rw[<-bA];have co:=Z_ aS;obtain⟨a9,c9,rfl⟩:=aS.form;have bB:=Z_ O;obtain⟨h1,h2,h3,h4,h5,h6,h7,h8,hf⟩:=HM.o;have n1:=O.cell h1;have n2:=O.cell h2;have n3:=O.cell h3;have n4:=O.cell h4;have n5:=O.cell h5;have n6:=O.cell h6;have n7:=O.cell h7;have n8:=O.cell h8;have av:w.heap.size+1+1<w8.heap.size:=zU bb.o a5.o;have fr:∀i,w9.frozen? ⟨w.heap.size+1+1,i,none⟩=false:=λ i=>O.free av (hf i);have fd:∀i,w9.frozen? ⟨w.heap.size+1,i,none⟩=false:=λ i=>O.free (by omega) (ca.o i);have fr0:=fr 0;have fr1:=fr 1;have fr2:=fr 2;have fr3:=fr 3;have fd0:=fd 0;have fd1:=fd 1;have cb:=Z_ (zS bf bA);have HLT8:=Z_ av;clear h1 h2 h3 h4 h5 h6 h7 h8 hf aS O fr fd bf bA av;go_wp2
  all_goals
   have a2:=λ x y z t=>X8 x y z t (XJ (b:=w.heap.size+1) n5 (by omega) (.bool db) (.slice a9 dl.length c9)) (XJ (b:=w.heap.size+1) n6 (by omega) (.bool db) (.slice a9 dl.length c9)) (XJ (b:=w.heap.size+1) n7 (by omega) (.bool db) (.slice a9 dl.length c9)) (XJ (b:=w.heap.size+1) n8 (by omega) (.bool db) (.slice a9 dl.length c9));refine bodyPost_ret (by simp[results,Tryz.results58,go_sem,(a2 _ _ _ _).1,(a2 _ _ _ _).2.1,(a2 _ _ _ _).2.2.1,(a2 _ _ _ _).2.2.2];rfl) rfl ?_;have hg:=Kk (w:=w) (w6:=w6) (b:=w.heap.size+1+1) (n:=⟨nb,nl⟩) (d:=⟨db,dl⟩) (bx.o.trans bB.o) bb.o (zw _) aN.o.size (cr.o.to (S':=New w6 w9) (uM bB.o uK) (λ k h=>⟨h.1,zU h.2 bB.o.size⟩)) (co.o.to (S':=New w6 w9) (uN _ _) (λ k h=>⟨zT a5.o h.1,h.2⟩)) (.bool db) (.slice a9 dl.length c9) (.bool nb) (.slice a7 nl.length c7) (.bool db) (.slice a9 dl.length c9);refine⟨_,rfl,?_,hg.2⟩;have en:(RInt.mk nb nl)=Z8 (Rat.divInt X Y).num:=by rw[ci.o.1,ci.o.2]
   have ed:(RInt.mk db dl)=Z8 ((Rat.divInt X Y).den:Int):=by rw[cb.o.1,cb.o.2]
   unfold Yi;rw[<-en,<-ed];exact hg.1
end
section
open Go.RowKit Go.Shelf
attribute [local go_sem] Oper.semAt_some
def Zu(p:PZ):Nat:=p.foldr (λ t g=>Nat.gcd g t.1.natAbs) 0
def dn(len k:Nat):List Nat:=(List.range k).map λ q=>len-1-q
theorem y1p(len k:Nat):dn len (k+1)=dn len k ++ [len-1-k]:=by simp[dn,List.range_succ]
theorem zja(len k:Nat):(dn len k).length=k:=by simp[dn]
theorem y3l(p:PZ):(dn p.length p.length).map (λ j=>p.getD j (0,[]))=p.reverse:=by
 refine List.ext_getElem (by simp[dn]) (λ i h1 h2=>?_);simp only[zE,zja]at h1;simp only[dn,List.getElem_map,List.getElem_range,List.getElem_reverse,zH];rw[zi (by omega),yA]
def YO(p:PZ)(l:List Nat):Nat:=l.foldl (λ g j=>Nat.gcd g (p.getD j (0,[])).1.natAbs) 0
theorem Dt(p:PZ)(l:List Nat)(j:Nat):YO p (l ++ [j])=Nat.gcd (YO p l) (p.getD j (0,[])).1.natAbs:=by simp[YO]
theorem Hw(p:PZ):YO p (dn p.length p.length)=Zu p:=by
 have h:=List.foldl_map (f:=λ j=>p.getD j (0,[])) (g:=λ g (t:Int×Z7)=>Nat.gcd g t.1.natAbs) (l:=dn p.length p.length) (init:=0);rw[y3l,List.foldl_reverse]at h;exact h.symm
def Ri(m0 Bs:Nat)(A B:World):Prop:=Kept (λ k=>k<m0∨k=Bs) A B
def tvAt(ts:List RTerm)(vm vo:Nat->Value)(j:Nat):Value:=if j<ts.length then .agg #[.bool (ts.getD j ⟨⟨false,[]⟩,[]⟩).c.neg,vm j,vo j] else .agg #[.bool false,.slice none 0 0,.slice none 0 0]
theorem GL(a:Option Addr)(len cap:Nat)(w:World):Calls Tryz.prog 109 #[.slice a len cap] w λ e w'=>e=.returned (.func (.func 133) #[] #[.pointer (some ⟨w.heap.size,0,none⟩)])/\w'=w.alloc (.cells #[.slice a len cap] 35):=by
 have hmf:∀(fn:Fn) (first cap:Array Value) (w:World),(Instr.makeFunc fn first cap).run Tryz.prog w=.ok (.func fn first cap) w:=λ _ _ _ _=>rfl
 go_enter Tryz.func109,Tryz.ntmps109
 go_wp2;go_ret;exact⟨rfl,rfl⟩
theorem Dd(F:Fence)(n:Nat)(hF:F.fn 133)(hro:F.round=none)(hn:1<=n)(l Bs m0 b off cap:Nat)(a:Option Addr)(ts:List RTerm)(vm vo:Nat->Value)(hb:0<ts.length->b<m0)(ha:0<ts.length->a=some ⟨b,off,none⟩)(hcap:cap<=9223372036854775807)(hlc:ts.length<=cap)
  (J Jx:List Nat->World->Prop)
  (hY:∀pre x W,J pre W->pre.length<ts.length->YieldAt F (n-1) Tryz.prog l #[tvAt ts vm vo x] W λ e W'=>
   (e=.returned (.bool true)/\J (pre ++ [x]) W'/\Ri m0 Bs W W')∨(e=.returned (.bool false)/\Jx (pre ++ [x]) W'))
  (W:World) (hBs:W.cell? ⟨Bs,0,none⟩=some (.slice a ts.length cap)) (hc:∀j,j<ts.length->W.cell? ⟨b,off+j*3,none⟩=some (.bool (ts.getD j ⟨⟨false,[]⟩,[]⟩).c.neg)/\W.cell? ⟨b,off+j*3+1,none⟩=some (vm j)/\W.cell? ⟨b,off+j*3+2,none⟩=some (vo j)) (h0:J [] W) :
  CallsIn F n Tryz.prog 133 #[.func (.yield l) #[] #[],.pointer (some ⟨Bs,0,none⟩)] W λ e W'=>(∃v,e=.returned v) /\
   ((∃ys,ys=dn ts.length ts.length/\J ys W')∨(∃pre,True/\Jx pre W')):=by
 have HC:=Z_ hc;have HY:=Z_ hY;have HA:=Z_ ha;obtain⟨len,z⟩:∃len,len=ts.length:=⟨_,rfl⟩
 have HL:=Z_ z;rw[<-z]at hBs hlc;clear hc hY ha z;refine callsIn_of_wp Tryz.func133 rfl hF ?_ hro;simp only[Tryz.ntmps133,List.size_toArray,zM,zo,Nat.reduceAdd,Nat.reduceSub,Array.replicate_succ,Array.replicate_zero,List.push_toArray,List.append_toArray,yL,zc]
 gi_wp2
 gi_loopw [3] (λ i wr=>∃j k:Nat,j+k=len/\i=.int .i64 ((j:Int)-1)/\J (dn len k) wr/\Hd (Ri m0 Bs W wr))
  (λ i _=>(intOf i+1).toNat)
 case atStart=>exact⟨len,0,rfl,rfl,h0,uN _ _⟩
 case round=>
  obtain⟨j,k,hjk,rfl,X,D⟩:=hrel;have dBs:=D.out.cell (.inr rfl) hBs
  by_cases h:0<j
  ·obtain⟨y,rfl⟩:∃y,j=y+1:=⟨j-1,by omega⟩
   have K:y<ts.length:=by have:=HL.o;omega
   obtain⟨c0,c1,c2⟩:=HC.o y K;obtain rfl:=HA.o (by omega);have d0:=D.out.cell (b:=b) (.inl (hb (by omega))) c0;have d1:=D.out.cell (b:=b) (.inl (hb (by omega))) c1;have d2:=D.out.cell (b:=b) (.inl (hb (by omega))) c2;obtain⟨fn,tmps,assign,body,hy,hR⟩:=HY.o _ y wr X (by rw[zja,<-HL.o];omega);rw[show tvAt ts vm vo y=.agg #[.bool (ts.getD y ⟨⟨false,[]⟩,[]⟩).c.neg,vm y,vo y] from if_pos K]at hy;obtain⟨ng,Z⟩:∃g,g=(ts.getD y ⟨⟨false,[]⟩,[]⟩).c.neg:=⟨_,rfl⟩
   obtain⟨um,U⟩:∃g,g=vm y:=⟨_,rfl⟩
   obtain⟨uo,O⟩:∃g,g=vo y:=⟨_,rfl⟩
   rw[<-Z]at d0 hy;rw[<-U]at d1 hy;rw[<-O]at d2 hy;have e1:(((y+1:Nat):Int)-1)=(y:Int):=by omega
   rw[e1];clear c0 c1 c2 Z U O e1 h
   gi_wp2
   refine hR.mono ?_
   rintro e W3 (⟨rfl,aa,ac⟩|⟨rfl,I⟩)
   ·gi_wp2
    go_roundw
    case rel=>exact⟨y,k+1,by omega,rfl,by rw[y1p,show len-1-k=y by omega];exact aa,Z_ (D.out.trans ac)⟩
    case measure=>simp[intOf]
   ·gi_wp2
    refine bodyPost_ret (results_none rfl _ _ _) rfl ?_;exact⟨⟨_,rfl⟩,.inr ⟨_,trivial,I⟩⟩
  ·obtain rfl:j=0:=by omega
   obtain rfl:k=len:=by omega
   gi_wp2
   go_end0
   exact⟨⟨_,rfl⟩,.inl ⟨_,by rw[<-HL.o],X⟩⟩
theorem Nk{S:Nat->Prop}{w w':World}{v:Value}{zs:List Nat}(h:U32s S w v zs)(hc:∀a u,w.cell? a=some u->w'.cell? a=some u):U32s S w' v zs:=by
 obtain⟨b,off,hs,hz⟩:=h;exact⟨b,off,hs,λ j z hj=>⟨(hz j z hj).1,hc _ _ (hz j z hj).2⟩⟩
theorem KeepsOthers.of_ext{W W':World}(h:Ext W W'):KeepsOthers W W':=⟨h.size,λ k _ hk _=>(h.block k (yg.1 hk).1).trans hk⟩
structure IntAt (w:World) (b:Nat) (W:World) (g:Int) (a:Option Addr) (c:Nat):Prop where
 c0:W.cell? ⟨b,0,none⟩=some (.bool (Z8 g).neg)
 c1:W.cell? ⟨b,1,none⟩=some (.slice a (Z8 g).mag.length c)
 f0:W.frozen? ⟨b,0,none⟩=false
 f1:W.frozen? ⟨b,1,none⟩=false
 u:U32s (λ k=>w.heap.size<=k/\k<W.heap.size/\k≠b) W (.slice a (Z8 g).mag.length c) (Z8 g).mag
 ex:Ext w W
 lo:w.heap.size<=b
theorem IntAt.own{w W W':World}{b B:Nat}{g:Int}{a:Option Addr}{c:Nat}{row:Option Nat}(h:IntAt w b W g a c)(hB:w.heap.size<=B)(hg:W.grownBy W' row)(hr:∀r,row=some r->B<=r/\∃o:Obj,W.heap[r]? = some o/\o.isCells=false):IntAt w b W' g a c :=
 ⟨cell_kept h.c0 hg (λ r e=>(hr r e).2),cell_kept h.c1 hg (λ r e=>(hr r e).2),(frozen_kept h.c0 hg (λ r e=>(hr r e).2)).trans h.f0,(frozen_kept h.c1 hg (λ r e=>(hr r e).2)).trans h.f1,
  (Nk h.u (λ _ _ hc=>cell_kept hc hg (λ r e=>(hr r e).2))).to (uN _ _) (λ _ hk=>⟨hk.1,zU hk.2.1 hg.size,hk.2.2⟩),h.ex.grown hg h.ex.size (λ k e=>zT hB (hr k e).1),h.lo⟩
theorem IntAt.ext{w W W':World}{b:Nat}{g:Int}{a:Option Addr}{c:Nat}(h:IntAt w b W g a c)(hx:Ext W W'):IntAt w b W' g a c :=
 ⟨hx.cell h.c0,hx.cell h.c1,hx.free (Zj h.c0) h.f0,hx.free (Zj h.c0) h.f1,h.u.to (uM hx (λ _ h=>h.2.1)) (λ _ hk=>⟨hk.1,zU hk.2.1 hx.size,hk.2.2⟩),h.ex.trans hx,h.lo⟩
theorem IntAt.put{w W W':World}{b:Nat}{g g':Int}{a a':Option Addr}{c c':Nat}(h:IntAt w b W g a c)(hx:Ext W W')(hu:U32s (New W W') W' (.slice a' (Z8 g').mag.length c') (Z8 g').mag) :
  IntAt w b ((W'.setCell ⟨b,0,none⟩ (.bool (Z8 g').neg)).setCell ⟨b,1,none⟩ (.slice a' (Z8 g').mag.length c')) g' a' c':=by
 have k:=h.ext hx;have hl:=Zj h.c0;have t:=YY (.bool (Z8 g').neg) (.slice a' (Z8 g').mag.length c') k.c0 k.c1;refine⟨t.1,t.2,Xs k.f0 _ _,Xs k.f1 _ _,?_,k.ex.set2 h.lo _ _,h.lo⟩;exact(Wc hu (λ e=>by have:=e.1;omega) _ _).to (uN _ _) (λ i hi=>⟨zT h.ex.size hi.1,by simp only[z03];exact hi.2,by have:=hi.1;omega⟩)
theorem Dl{p:PZ}{K:Nat}(h:∀j,(Z8 (p.getD j (0,[])).1).mag.length<=K)(l:List Nat):(Z8 (YO p l:Int)).mag.length<=K:=by
 have y:∀(l:List Nat) (g:Nat),(Z8 (g:Int)).mag.length<=K->(Z8 ((l.foldl (λ g j=>Nat.gcd g (p.getD j (0,[])).1.natAbs) g:Nat):Int)).mag.length<=K:=by
  intro l
  induction l with
  |nil=>exact λ g z=>z
  |cons j r ih=>
   intro g z;refine ih _ ?_;show(Z8 ((Nat.gcd g (p.getD j (0,[])).1.natAbs:Nat):Int)).mag.length<=K
   by_cases D:(p.getD j (0,[])).1=0
   ·rw[D];simpa using z
   ·refine zT (Yp ?_) (h j);rw[y7];exact xA (by omega) (wj _ _)
 exact y l 0 (by show(Z4 Z9 _).length<=K;rw[show(Z4 Z9 (((0:Nat):Int)).natAbs).length=0 by decide];exact zL _)
theorem P5{S:Nat->Prop}(v:Value)(ts:List RTerm)(w:World)(h:z06 S w v ts)(hS:∀k,S k->k<w.heap.size)(hr:∀t∈ts,t.c.mag.length<=10000000000)(hm:ZR ts=true) :
  Calls Tryz.prog 68 #[v] w λ e w'=>∃v',e=.returned v'/\IntV (New w w') w' v' (Z8 (Zu (toP ts):Nat))/\Ext w w':=by
 have hnot:∀(x:Bool) (w:World),(Op.unary .not (.bool x)).run Tryz.prog w=.ok (.bool (!x)) w:=λ _ _=>rfl;have aR:Yk ts:=λ t ht=>zT (hr t ht) (by decide);have HS:=Z_ hS;have CM:=Z_ (λ(Y:World) (hY:Ext w Y)=>Wy v ts Y (h.ext hY hS) (λ k I=>zU (hS k I) hY.size) aR);rw[hm]at CM;have a6:=h.len_le;have H:=h;obtain⟨b,off,⟨a,cap,rfl,ax,ah,ha,a7⟩,hc⟩:=H;unfold maxLen at ah
 obtain⟨vf,aq⟩:=Classical.axiomOfChoice (r:=λ(j:Nat) (p:Value×Value)=>∀t,ts[j]? = some t->w.cell? ⟨b,off+j*3,none⟩=some (.bool t.c.neg)/\w.cell? ⟨b,off+j*3+1,none⟩=some p.1/\w.cell? ⟨b,off+j*3+2,none⟩=some p.2/\U32s S w p.1 t.c.mag/\∃ao no co,p.2=.slice ao no co) (λ j=>by
  cases ht:ts[j]? with
  |none=>exact⟨(undef,undef),λ t h=>by cases h⟩
  |some t=>
   obtain⟨vm,vo,y,h2,h3,h4,h5⟩:=hc j t ht;obtain⟨ao,co,h6⟩:=h5.form
   exact⟨(vm,vo),λ u hu=>by cases hu;exact⟨y,h2,h3,h4,ao,_,co,h6⟩⟩)
 have HC:Hd (∀j,j<ts.length->w.cell? ⟨b,off+j*3,none⟩=some (.bool (ts.getD j ⟨⟨false,[]⟩,[]⟩).c.neg)/\w.cell? ⟨b,off+j*3+1,none⟩=some (vf j).1/\w.cell? ⟨b,off+j*3+2,none⟩=some (vf j).2):=Z_ (λ j hj=>by
  obtain⟨t,ht⟩:=ZN hj;have y:=aq j t ht;rw[zH,ht,yA]
  exact⟨y.1,y.2.1,y.2.2.1⟩)
 obtain⟨X,aS⟩:∃X:Nat->RInt,∀j,X j=(ts.getD j ⟨⟨false,[]⟩,[]⟩).c:=⟨_,λ _=>rfl⟩
 have ad:Hd (∀j,∃(vm vo:Value),tvAt ts (λ j=>(vf j).1) (λ j=>(vf j).2) j=.agg #[.bool (X j).neg,vm,vo]/\U32s S w vm (X j).mag/\(X j).mag.length<=10000000000/\Z6 (X j)=((toP ts).getD j (0,[])).1/\∃ao no co,vo=.slice ao no co):=Z_ (λ j=>by
  rw[aS]
  by_cases hj:j<ts.length
  ·obtain⟨t,ht⟩:=ZN hj;have y:=aq j t ht;have e:ts.getD j ⟨⟨false,[]⟩,[]⟩=t:=by rw[zH,ht,yA]
   have e2:(toP ts).getD j (0,[])=(Z6 t.c,t.m):=by rw[zH,toP,yZ,ht];rfl
   rw[e,e2];exact⟨(vf j).1,(vf j).2,by rw[tvAt,if_pos hj,e],y.2.2.2.1,hr t (zP ht),rfl,y.2.2.2.2⟩
  ·have e:ts.getD j ⟨⟨false,[]⟩,[]⟩=⟨⟨false,[]⟩,[]⟩:=by rw[zH,xE (by omega)];rfl
   have e2:(toP ts).getD j (0,[])=(0,[]):=by rw[zH,toP,yZ,xE (by omega)];rfl
   rw[e,e2]
   exact⟨_,_,by rw[tvAt,if_neg hj],ul _ _ _ _ (by omega),zL _,by decide,_,_,_,rfl⟩)
 have HG:Hd (YO (toP ts) (dn ts.length ts.length)=Zu (toP ts)):=Z_ (by
  have y:=Hw (toP ts)
  rwa [show(toP ts).length=ts.length from zE ..]at y)
 have HA:=Z_ ha;have HH:=Z_ h;obtain⟨len,Z⟩:∃len,len=ts.length:=⟨_,rfl⟩
 have HL:=Z_ Z;rw[<-Z]at a6 ax CM;rw[<-Z];obtain⟨w0,ac⟩:∃W,W=w.alloc (.cells #[.bool false,.slice none 0 0] 28):=⟨_,rfl⟩
 have az:Hd (Ext w w0):=Z_ (by rw[ac];exact uO (uP w) _);have aH:=Z_ (CM.o w0 az.o);rw[ac]at aH;have a8:=Z_ ac
 have aG:Hd (IntAt w w.heap.size w0 0 none 0):=Z_ (by
  rw[ac];have y:Ext (w.alloc (.cells #[.bool false,.slice none 0 0] 28)) (w.alloc (.cells #[.bool false,.slice none 0 0] 28)):=uP _
  exact⟨y.new_cell rfl,y.new_cell rfl,y.new_free 0,y.new_free 1,ul _ _ _ _ (by omega),uO (uP w) _,zR _⟩)
 clear h hS hr hm hc ha a7 aq Z ac aR aS;refine(callsIn_wide (n:=4)).1 ?_;refine callsIn_of_wp_marks Tryz.func68 rfl trivial ?_ rfl;simp only[Tryz.ntmps68,List.size_toArray,zM,zo,Nat.reduceAdd,Nat.reduceSub,Array.replicate_succ,Array.replicate_zero,List.push_toArray,List.append_toArray,yL,zc]
 gi_wp2_with (first
  |(refine⟨trivial,?_⟩;gi_at_call 30;refine(callsIn_wide.2 aH.o).mono ?_;rintro e w1 ⟨rfl,ar⟩;rw[<-a8.o]at ar;have aj:=Z_ ar;clear ar)
  |(refine⟨trivial,?_⟩;gi_at_call 109;refine(callsIn_wide.2 (GL _ _ _ _)).mono ?_;rintro e w2 ⟨rfl,rfl⟩))
 have ap:=Z_ (show Ext w (w1.alloc (.cells #[.slice a len cap] 35)) from(az.o.trans aj.o).trans (uO (uP _) _));have av:Hd (w.heap.size<w1.heap.size):=Z_ (by have y:=aj.o.size;have h2:=Zj aG.o.c0;omega);have aF:Hd ((w1.alloc (.cells #[.slice a len cap] 35)).heap.size=w1.heap.size+1):=Z_ (by simp);have a2:=Z_ ((aG.o.ext aj.o).ext (uO (uP w1) (.cells #[.slice a len cap] 35)))
 have ba:Hd (∀z,(Z8 (YO (toP ts) z:Int)).mag.length<=10000000000):=Z_ (λ z=>Dl (λ j=>by
  obtain⟨vm,vo,-,hu,y,h2,-⟩:=ad.o j;rw[<-h2];show(Z4 Z9 _).length<=_;rw[SK]
  exact zT (XL hu.lt) y) z)
 refine wpIn_rangeFunc_ownH rfl (by decide) (gf:=133) (lb:=#[.pointer (some ⟨w1.heap.size,0,none⟩)]) rfl trivial (enters_of Tryz.func133 (by kernel_rfl) rfl)
  (encs:=λ j=>#[tvAt ts (λ j=>(vf j).1) (λ j=>(vf j).2) j]) (Kp:=Ri w.heap.size w1.heap.size) (S:=λ ys=>ys=dn ts.length ts.length) (Sp:=λ _=>True) (N:=ts.length) (w0:=w1.alloc (.cells #[.slice a len cap] 35))
  (λ l J Jx W hW _ _ hY h0=>Dd _ _ trivial rfl (by decide) l w1.heap.size w.heap.size b off cap a ts (λ j=>(vf j).1) (λ j=>(vf j).2) (λ h=>by
    obtain⟨b',aP,⟨a',aC,e1,-,-,e2,e3⟩,-⟩:=HH.o;obtain⟨rfl,-,rfl⟩:a=a'/\ts.length=ts.length/\cap=aC:=by simpa using e1
    have e4:=(HA.o h).symm.trans (e2 h);obtain⟨rfl,-⟩:b=b'/\off=aP:=by simpa using e4
    exact HS.o _ (e3 h)) HA.o ah (by rw[<-HL.o];exact ax) J Jx hY W
   (by rw[<-HL.o];exact hW.cell (p:=⟨w1.heap.size,0,none⟩) (by simp) |>.trans (ZJ _ _ _ rfl rfl))
   (λ j hj=>by
    have y:=HC.o j hj;have hx:Ext w W:=ap.o.trans hW
    exact⟨hx.cell y.1,hx.cell y.2.1,hx.cell y.2.2⟩) h0)
  (λ h k=>Kept.trans h k) (λ W l o o' hl _ _ _=>λ k I=>World.putObj_heap_other (λ e=>by
   have y:=aF.o;have h2:=av.o
   rcases I with I|I<;>omega)) (Below.refl _ _) (λ _=>rfl)
  (λ z W=>(∃a' c',IntAt w w.heap.size W (YO (toP ts) z) a' c')/\w1.heap.size<W.heap.size) (λ _ _ _=>False)
  (λ z W W' row hs hg hr=>by
   obtain⟨⟨a',c',y⟩,h2⟩:=hs
   exact⟨⟨a',c',y.own ap.o.size hg hr⟩,zU h2 hg.size⟩) (λ _ _ _ _ _ hs _ _=>hs) ⟨⟨_,_,a2.o⟩,by rw[aF.o];exact zk _⟩
  (λ x a' W=>∃(Bx:Nat) (vm vo:Value),W.cell? ⟨Bx,0,none⟩=some (.bool (X x).neg)/\W.cell? ⟨Bx,1,none⟩=some vm/\U32s S w vm (X x).mag /\
   a'={ tmps:=#[.slice a len cap,undef,.pointer (some ⟨w.heap.size,0,none⟩),.pointer (some ⟨Bx,0,none⟩),.slice a len cap,.bool true,.bool false,undef,.slice a len cap,.func (.func 133) #[] #[.pointer (some ⟨w1.heap.size,0,none⟩)],.agg #[.bool (X x).neg,vm,vo],undef,undef,undef,undef,undef],defers:=[] })
  (λ x a' _ W W' row hs hg hr=>by
   obtain⟨Bx,vm,vo,y,h2,h3,h4⟩:=hs
   exact⟨Bx,vm,vo,cell_kept y hg (λ r e=>(hr r e).2),cell_kept h2 hg (λ r e=>(hr r e).2),h3,h4⟩)
  ?assign ?body ?done ?stop
 case assign=>
  intro l z x W K hi hK;obtain⟨vm,vo,a4,hu,-,-,ao,no,co,rfl⟩:=ad.o x;obtain⟨am,cm,rfl⟩:=hu.form
  dsimp only
  rw[a4]
  gi_wp2
  obtain⟨⟨ag,cg,U⟩,af⟩:=hi;have aN:Ext W (W.alloc (.cells #[.bool (X x).neg,.slice am (X x).mag.length cm,.slice ao no co] 54)):=uO (uP W) _;have a0:=uP (W.alloc (.cells #[.bool (X x).neg,.slice am (X x).mag.length cm,.slice ao no co] 54))
  exact hK _ _ ((KeepsOthers.alloc _ _).from _) (λ k I=>Below.heap_alloc _ _ _ (by
   have y:=U.ex.size
   rcases I with I|I<;>omega)) ⟨⟨ag,cg,U.ext aN⟩,zU af aN.size⟩ ⟨W.heap.size,_,_,a0.new_cell rfl,a0.new_cell rfl,hu,rfl⟩
 case body=>
  rintro l z x a' W hl ⟨r,hr⟩ ⟨⟨ag,cg,U⟩,af⟩ ⟨Bx,vm,vo,hb0,hb1,hu,rfl⟩ hlt
  have CG:=RO (S:=Z2 W) (.agg #[.bool (Z8 (YO (toP ts) z:Int)).neg,.slice ag (Z8 (YO (toP ts) z:Int)).mag.length cg]) (.agg #[.bool (X x).neg,vm]) (Z8 (YO (toP ts) z:Int)) (X x) W
   ⟨_,rfl,U.u.to (uN _ _) (λ k I=>I.2.1)⟩ ⟨_,rfl,hu.to (uM U.ex HS.o) (λ k I=>zU (HS.o k I) U.ex.size)⟩ (λ _ h=>h) (ba.o z) (by obtain⟨vm,vo,-,-,y,-,-⟩:=ad.o x;exact y)
  rw[z09,(show Z6 (X x)=((toP ts).getD x (0,[])).1 by obtain⟨vm,vo,-,-,-,y,-⟩:=ad.o x;exact y),show(Int.gcd (YO (toP ts) z:Int) ((toP ts).getD x (0,[])).1:Nat)=YO (toP ts) (z ++ [x]) by rw[Dt];rfl]at CG;have au:=Z_ CG;have O:=Z_ U;obtain⟨g0,aA⟩:∃g,g=(Z8 (YO (toP ts) z:Int)).neg:=⟨_,rfl⟩
  obtain⟨n0,aB⟩:∃g,g=(Z8 (YO (toP ts) z:Int)).mag.length:=⟨_,rfl⟩
  have c0:=U.c0;have c1:=U.c1;rw[<-aA]at au c0;rw[<-aB]at au c1;obtain⟨am,cm,rfl⟩:=hu.form;clear CG U aA aB hu
  gi_wp2_with (refine⟨trivial,?_⟩;gi_at_call 70;refine(CallsIn.inRound l (callsIn_wide.2 au.o)).mono ?_;rintro e w5 ⟨v5,rfl,⟨vm5,rfl,ai⟩,aa⟩;have ae:=Z_ aa;have a9:=Z_ ai;have d0:=aa.cell c0;have d1:=aa.cell c1;have e0:=aa.free (Zj c0) O.o.f0;have e1:=aa.free (Zj c0) O.o.f1;obtain⟨a5,k5,rfl⟩:=ai.form;clear ai aa)
  have a3:=O.o.put ae.o a9.o
  exact⟨(((KeepsOthers.of_ext ae.o).trans (KeepsOthers.setCell _ _ _)).trans (KeepsOthers.setCell _ _ _)).from _,(uM ae.o (λ k I=>by
    have y:=O.o.ex.size
    rcases I with I|I<;>omega)).trans (ur (λ I=>by
    have h2:=av.o
    rcases I with I|I<;>omega) _ _),⟨_,_,a3⟩,by simp only[z03];exact zU af ae.o.size⟩
 case done=>
  rintro D xs W hD rfl ⟨⟨ag,cg,U⟩,af⟩ hK;rw[HG.o]at U;have O:=Z_ U;have HKD:=Z_ hK;have c0:=U.c0;have c1:=U.c1;have f0:=U.f0;have f1:=U.f1;have ay:=((KeepsOthers.setCell W ⟨w.heap.size,0,none⟩ (.bool (Z8 (Zu (toP ts):Int)).neg)).trans (KeepsOthers.setCell _ ⟨w.heap.size,1,none⟩ (.slice ag (Z8 (Zu (toP ts):Int)).mag.length cg))).same D _ hK rfl;have al:=Z_ ay;clear U hK ay
  gi_wp2
  have t2:=YY (.bool (Z8 (Zu (toP ts):Int)).neg) (.slice ag (Z8 (Zu (toP ts):Int)).mag.length cg) O.o.c0 O.o.c1;have kp:=λ(a:Addr) (u:Value) (h:((W.setCell ⟨w.heap.size,0,none⟩ (.bool (Z8 (Zu (toP ts):Int)).neg)).setCell ⟨w.heap.size,1,none⟩ (.slice ag (Z8 (Zu (toP ts):Int)).mag.length cg)).cell? a=some u)=>cell_kept h (grownBy_putObj' _ D (.deferred none)) (λ r e=>by cases e;exact⟨_,al.o,rfl⟩);refine⟨by simp,.inl ⟨_,_,rfl,run_takeDeferred al.o,?_⟩⟩;have k0:=kp _ _ t2.1;have k1:=kp _ _ t2.2
  refine⟨.agg #[.bool (Z8 (Zu (toP ts):Int)).neg,.slice ag (Z8 (Zu (toP ts):Int)).mag.length cg],by simp[results,Tryz.f68,go_sem,k0,k1],_,rfl,⟨_,rfl,?_⟩,?_⟩
  ·refine(Nk (Wc O.o.u (λ e=>e.2.2 rfl) (.bool (Z8 (Zu (toP ts):Int)).neg) (.slice ag (Z8 (Zu (toP ts):Int)).mag.length cg)) kp).to (uN _ _) (λ k I=>⟨I.1,?_⟩);have y:=I.2.1;simpa using y
  ·exact Below.trans (O.o.ex.set2 (zR _) (.bool (Z8 (Zu (toP ts):Int)).neg) (.slice ag (Z8 (Zu (toP ts):Int)).mag.length cg)) (belowK_b (w:=w) (zR _) _ D _ _ (by have y:=ap.o.size;omega) al.o rfl rfl)
 case stop=>
  rintro D c z W _ _ h _;exact h.elim
end
section
open Go.RowKit
def Yq(p:PZ):Int:=match p with
 | []=>0
 |t :: _=>if t.1<0 then -(Zu p:Int) else(Zu p:Int)
def Yf(p:PZ):PZ:=p.map λ t=>(t.1 / Yq p,t.2)
theorem Tk{p:PZ}{t:Int×Z7}(h:t∈p):(Zu p:Int)∣t.1:=by
 induction p with
 |nil=>cases h
 |cons u r ih=>
  have e:Zu (u :: r)=Nat.gcd (Zu r) u.1.natAbs:=rfl;rw[e]
  rcases zJ.1 h with rfl|h
  ·exact Int.dvd_natAbs.1 (xe.2 (wj _ _))
  ·exact Int.dvd_trans (xe.2 (wQ _ _)) (ih h)
theorem KH{p:PZ}(h:canP p)(h0:p≠[]):Zu p≠0:=by
 cases p with
 |nil=>exact absurd rfl h0
 |cons t r=>
  intro e;have z:=(h.1 t (zz ..)).1;have y:=Tk (p:=t :: r) (zz ..);rw[e]at y;exact z (Int.zero_dvd.1 y)
theorem Rd(p:PZ):(Yq p).natAbs=if p=[] then 0 else Zu p:=by
 cases p with
 |nil=>rfl
 |cons t r=>
  rw[if_neg (by simp)];unfold Yq;simp only
  split<;>simp
theorem Pv{p:PZ}(h:canP p)(h0:p≠[]):Yq p≠0:=by
 intro e;have h1:=Rd p;rw[e,if_neg h0]at h1;exact KH h h0 h1.symm
theorem Q2{p:PZ}{t:Int×Z7}(h:t∈p):Yq p∣t.1:=by
 have h1:=Rd p;rw[if_neg (λ e=>by rw[e]at h;cases h)]at h1;refine Int.natAbs_dvd.1 ?_;rw[h1];exact Tk h
theorem Mq{p:PZ}{t:Int×Z7}(h:t∈p):t.1 / Yq p*Yq p=t.1:=xH (Q2 h)
theorem EW{p:PZ}(h:canP p):canP (Yf p):=by
 refine⟨λ t ht=>?_,?_⟩
 ·obtain⟨u,y,rfl⟩:=zG.1 ht;refine⟨λ e=>(h.1 u y).1 ?_,(h.1 u y).2⟩;have z:u.1 / Yq p=0:=e;rw[<-Mq y,z,Int.zero_mul]
 ·unfold Yf;rw[xL];exact h.2
theorem zdj(p:PZ):(Yf p).length=p.length:=zE ..
theorem Fit.whole{k n:Nat}{p:PZ}(h:Fit k n p):Fit k n (Yf p):=by
 refine⟨EW h.can,λ t ht=>?_,by rw[zdj];exact h.2.2⟩;obtain⟨u,y,rfl⟩:=zG.1 ht;refine zh ?_ (h.2.1 u y);rw[Int.natAbs_ediv_of_dvd (Q2 y)];exact yt _ _
def Ty(p:PZ):Bool:=match p with
 | []=>false
 |t :: _=>decide (t.1<0)
theorem C_{p:PZ}{k:Nat}{t:Int×Z7}(h:p[k]? = some t):Z5 ((Yf p).take (k+1))=Z5 ((Yf p).take k) ++ [⟨Z8 (t.1 / Yq p),t.2⟩]:=by
 have h1:(Yf p)[k]? = some (t.1 / Yq p,t.2):=by
  unfold Yf;rw[yZ,h];rfl
 exact QI h1
theorem Ek{W:World}{vp:Value}{p:PZ}{k n:Nat}(hp:z06 (Z2 W) W vp (Z5 p))(fp:Fit k n p)(hk:k<=1000000)(hn:n<=1000000000000) :
  Calls Tryz.prog 69 #[vp] W λ e w'=>∃v',e=.returned (.tuple #[v',.int .i64 0])/\z06 (New W w') w' v' (Z5 (Yf p))/\Ext W w':=by
 have hnot:∀(x:Bool) (w:World),(Op.unary .not (.bool x)).run Tryz.prog w=.ok (.bool (!x)) w:=λ _ _=>rfl;obtain⟨j0,hj,d3,dG,cB⟩:=info_parts uE;have HP:=Z_ hp;have HF:=Z_ fp;have bu:Hd (∀t∈p,(Z8 t.1).mag.length<=k):=Z_ (λ t ht=>Xm (fp.2.1 t ht));have az:∀t∈Z5 p,t.c.mag.length<=10000000000:=λ t ht=>zT (fp.lens t ht) (by omega);have C1:=Z_ (Um hp fp hk);have C2:=Z_ (λ(Y:World) (hY:Ext W Y)=>P5 vp (Z5 p) Y (z06.on hp hY) (λ _ h=>h) az (Xc fp.can));rw[z53]at C2;have cn:=hp.len_le;obtain⟨ap,cp,rfl⟩:=hp.form;rw[z5w]at HP C1 C2 cn⊢;obtain⟨np,al⟩:∃m,m=p.length:=⟨_,rfl⟩
 rw[<-al]at HP C1 C2 cn⊢;have HN:=Z_ al;have cu:Hd (np<=1000000000000):=Z_ (by rw[al];exact zT fp.2.2 hn);have a6:=Z_ hk;clear hp fp hk hn al az
 go_enter Tryz.func69,Tryz.ntmps69
 go_wp2_with fail;(with_reducible refine C1.o.mono ?_);rintro e w1 ⟨rfl,bm⟩;have aC:=Z_ bm;have ct:=Z_ (C2.o w1 bm);clear bm;go_wp2_with fail;(with_reducible refine ct.o.mono ?_);rintro e w2 ⟨v2,rfl,⟨vm2,rfl,bl⟩,aA⟩;have aN:=Z_ (aC.o.trans aA);have cl:=Z_ bl;have cr:=Z_ aA;obtain⟨a2,c2,rfl⟩:=bl.form;have I:=Z_ (aN.o.trans (uO (uP w2) (.cells #[.bool (Z8 (Zu p:Int)).neg,.slice a2 (Z8 (Zu p:Int)).mag.length c2] 28)))
 have bB:Hd (IntAt W w2.heap.size (w2.alloc (.cells #[.bool (Z8 (Zu p:Int)).neg,.slice a2 (Z8 (Zu p:Int)).mag.length c2] 28)) (Zu p:Int) a2 c2):=Z_ (by
  have hr:=uP (w2.alloc (.cells #[.bool (Z8 (Zu p:Int)).neg,.slice a2 (Z8 (Zu p:Int)).mag.length c2] 28));have hA:Ext w2 (w2.alloc (.cells #[.bool (Z8 (Zu p:Int)).neg,.slice a2 (Z8 (Zu p:Int)).mag.length c2] 28)):=uO (uP _) _
  exact⟨hr.new_cell rfl,hr.new_cell rfl,hr.new_free 0,hr.new_free 1,cl.o.to (uM hA uK) (λ i hi=>⟨zT aC.o.size hi.1,zU hi.2 hA.size,λ e=>by have:=hi.2;omega⟩),I.o,aN.o.size⟩)
 clear bl aA C1 C2 ct cr cl;obtain⟨bn,aG⟩:∃b:Bool,b=Ty p:=⟨_,rfl⟩
 have ba:Hd ((bn=true->Yq p = -(Zu p:Int))/\(bn=false->Yq p=(Zu p:Int))):=Z_ (by
  rw[aG];unfold Yq Ty
  cases p with
  |nil=>exact⟨λ h=>(by cases h),λ _=>rfl⟩
  |cons t r=>
   refine⟨λ h=>if_pos (of_decide_eq_true h),λ h=>if_neg (of_decide_eq_false h)⟩)
 have aR:=Z_ aG
 have bN:Hd ((Z8 (Zu p:Int)).mag.length<=10000000000):=Z_ (by
  by_cases h0:p=[]
  ·rw[h0]
   decide
  ·obtain⟨t,r,rfl⟩:=xW h0;refine zT (Yp ?_) (zT (bu.o t (zz ..)) (by have:=a6.o;omega));have X:=Tk (p:=t :: r) (zz ..)
   exact xA (v_.2 (HF.o.can.1 t (zz ..)).1) (xB.2 X))
 clear aG;obtain⟨w3,aS⟩:∃Y,Y=w2.alloc (.cells #[.bool (Z8 (Zu p:Int)).neg,.slice a2 (Z8 (Zu p:Int)).mag.length c2] 28):=⟨_,rfl⟩
 rw[<-aS]at I bB
 go_upto_region 4 with fail
 rw[<-aS];clear aS
 go_cut [24] (λ c wx=>c=.bool bn/\Ext w3 wx)
 case first=>
  by_cases h0:p=[]
  ·have c9:np=0:=by rw[HN.o,h0];rfl
   have dt:bn=false:=by rw[aR.o,h0];rfl
   subst c9;subst dt;clear h0;go_wp2_with fail
   go_meet
   exact⟨rfl,uP _⟩
  ·obtain⟨t,r,af⟩:=xW h0;have hpos:(0:Int)<(np:Int):=by rw[HN.o,af,zM];omega
   have cv:(Z5 p)[0]? = some ⟨Z8 t.1,t.2⟩:=by rw[af];rfl
   obtain⟨b,off,vm,vo,rfl,-,dm,cC,-,X,h2,h3,h4,-⟩:=(HP.o.on I.o).cellAt cv;have CS:=Z_ (X5 (S:=Z2 w3) (.agg #[.bool (Z8 t.1).neg,vm]) (Z8 t.1) w3 ⟨vm,rfl,h4⟩ (λ _ h=>h) (zT (bu.o t (by rw[af];exact zz ..)) (by have:=a6.o;omega)));rw[z09]at CS
   have ci:decide (Zx t.1<0)=bn:=by
    rw[aR.o,af];unfold Zx cmpI Ty
    by_cases aa:t.1<0
    ·rw[if_pos aa];simp[aa]
    ·rw[if_neg aa]
     split<;>simp[aa]
   obtain⟨sg,ay⟩:∃z,z=Zx t.1:=⟨_,rfl⟩
   rw[<-ay]at CS ci;obtain⟨am,cm,rfl⟩:=h4.form;obtain⟨nz,y⟩:∃z,z=(Z8 t.1).mag.length:=⟨_,rfl⟩
   obtain⟨bz,D⟩:∃z,z=(Z8 t.1).neg:=⟨_,rfl⟩
   simp only[yE,zp]at X h2;rw[<-y]at CS h2;rw[<-D]at CS X;clear af cv h4 ay y D h0 h3;go_wp2_with fail;(with_reducible refine CS.o.mono ?_);rintro e w4 ⟨rfl,b4⟩;have c6:=Z_ b4;clear b4;go_wp2_with fail
   go_meet
   exact⟨by first|rfl|rw[ci]|trivial,c6.o⟩
 case rest=>
  obtain⟨rfl,bt⟩:=hcut;have cG:=Z_ bt;have U:=Z_ (bB.o.ext bt);clear bt
  go_upto_if 24 with (fail)
  go_cut [] (λ wx=>∃(a:Option Addr) (c:Nat),Hd (IntAt W w2.heap.size wx (Yq p) a c))
  case first=>
   have d0:=U.o.c0;have d1:=U.o.c1;have f0:=U.o.f0;have f1:=U.o.f1;have CN:=Z_ (RH (S:=Z2 wc) (.agg #[.bool (Z8 (Zu p:Int)).neg,.slice a2 (Z8 (Zu p:Int)).mag.length c2]) (Z8 (Zu p:Int)) wc ⟨_,rfl,U.o.u.to (uN _ _) (λ _ h=>h.2.1)⟩ (λ _ h=>h) (zT bN.o (by decide)));rw[z09]at CN
   cases bn with
   |true=>
    have HS:=Z_ (ba.o.1 rfl);rw[<-HS.o]at CN;obtain⟨nz,y⟩:∃z,z=(Z8 (Zu p:Int)).mag.length:=⟨_,rfl⟩
    obtain⟨bz,D⟩:∃z,z=(Z8 (Zu p:Int)).neg:=⟨_,rfl⟩
    rw[<-y]at CN d1;rw[<-D]at CN d0;clear y D;go_wp2_with fail;(with_reducible refine CN.o.mono ?_);rintro e w5 ⟨v5,rfl,⟨vm5,rfl,aB⟩,ad⟩;have dp:=Z_ ad;have d5:=Z_ aB;have k0:=ad.cell d0;have k1:=ad.cell d1;have e0:=ad.free (Zj d0) f0;have e1:=ad.free (Zj d0) f1;obtain⟨a5,c5,rfl⟩:=aB.form;clear ad aB;go_wp2_with fail
    go_meet
    have q:=U.o.put dp.o d5.o;exact⟨_,_,Z_ q⟩
   |false=>
    have HS:=Z_ (ba.o.2 rfl);go_wp2_with fail
    go_meet
    exact⟨a2,c2,by rw[HS.o];exact U⟩
  case rest=>
   obtain⟨a4,c4,aq⟩:=hcut
   have ds:Hd ((Z8 (Yq p)).mag.length<=10000000000):=Z_ (by
    show(Z4 Z9 (Yq p).natAbs).length<=_;rw[Rd]
    split
    ·decide
    ·have h:=bN.o
     exact h)
   obtain⟨w6,cj⟩:∃Y,Y=wc:=⟨_,rfl⟩
   rw[<-cj]at aq⊢;have ar:=Z_ aq.o.ex;have HLT6:Hd (w2.heap.size<w6.heap.size):=Z_ (Zj aq.o.c0);clear U cG bB I aN aC cj bN aR ba;go_wp2
   go_loopw [2,29] (λ o i wr=>∃(j:Nat) (xs:List Value),j<=np/\i=.int .i64 (j:Nat)/\Ext w6 wr/\Hd (wr.ownsRow w6.heap.size 54 3 o j xs)/\Hd (z0v (Yy w6 wr o) wr xs (Z5 ((Yf p).take j)))) (λ _ i _=>np-(intOf i).toNat)
   case atStart=>exact⟨0,[],zL _,rfl,uP _,World.ownsRow_nil _ _ _ _,rfl⟩
   case round=>
    obtain⟨j,xs,hj',rfl,hx,HW,HY⟩:=hrel;have HX:=Z_ hx
    by_cases aa:j<np
    ·obtain⟨t,ht⟩:=ZN (l:=p) (j:=j) (by rw[<-HN.o];exact aa)
     have ca:(Z5 p)[j]? = some ⟨Z8 t.1,t.2⟩:=by
      unfold Z5;rw[yZ,ht];rfl
     have ae:=zP ht;obtain⟨b,off,vm,vo,rfl,-,dm,cC,d2,X,h2,h3,h4,h5⟩:=(HP.o.on (ar.o.trans hx)).cellAt ca;have a9:=Z_ (C_ ht);have b3:=Z_ (HF.o.can.1 t ae);have b7:=Z_ (bu.o t ae);have cq:=Z_ (Mq ae);have dF:=Z_ (Pv HF.o.can (λ e=>by rw[e]at ae;cases ae));obtain⟨z,m⟩:=t;simp only at X h2 h3 h4 h5 a9 b3 b7 cq;have ai:Ext wr (wr.alloc (.cells #[.bool (Z8 z).neg,vm,vo] 54)):=uO (uP wr) _;obtain⟨k0,k1,-,-,b6,-,-⟩:=aq.o.ext hx;have CE:=Z_ (UQ (S:=Z2 wr) (.agg #[.bool (Z8 z).neg,vm]) (.agg #[.bool (Z8 (Yq p)).neg,.slice a4 (Z8 (Yq p)).mag.length c4]) (Z8 z) (Z8 (Yq p)) (wr.alloc (.cells #[.bool (Z8 z).neg,vm,vo] 54)) ⟨vm,rfl,h4.ext ai (λ _ h=>h)⟩ ⟨_,rfl,(b6.to (S':=Z2 wr) (uN _ _) (λ _ h=>h.2.1)).ext ai (λ _ h=>h)⟩ (λ i hi=>zU hi ai.size) (zT b7.o (by have:=a6.o;omega)) ds.o (z / Yq p) (by rw[z09];exact dF.o) (by rw[z09,z09];exact cq.o.symm));obtain⟨q,hq⟩:∃q,q=z / Yq p:=⟨_,rfl⟩
     rw[<-hq]at CE a9;have ce:=Z_ h5;have I:=Z_ ai;obtain⟨am,cm,rfl⟩:=h4.form;obtain⟨ao,co,rfl⟩:=h5.form;have b2:=I.o.cell k0;have cz:=I.o.cell k1;obtain⟨nz,y⟩:∃n,n=(Z8 z).mag.length:=⟨_,rfl⟩
     obtain⟨bz,D⟩:∃n,n=(Z8 z).neg:=⟨_,rfl⟩
     obtain⟨nm,ac⟩:∃n,n=m.length:=⟨_,rfl⟩
     obtain⟨ns,bx⟩:∃n,n=(Z8 (Yq p)).mag.length:=⟨_,rfl⟩
     obtain⟨bs,aP⟩:∃n,n=(Z8 (Yq p)).neg:=⟨_,rfl⟩
     rw[<-y,<-D,<-ac,<-bx,<-aP]at CE;rw[<-y,<-D,<-ac]at I;rw[<-y]at h2;rw[<-D]at X;rw[<-ac]at h3 ce;rw[<-y,<-D,<-ac,<-aP]at b2;rw[<-y,<-D,<-ac,<-bx]at cz;clear ht ca ae h4 h5 ai y D ac bx aP hq d2 b6 hx;go_wp2_with fail;(with_reducible refine CE.o.mono ?_);rintro e w7 ⟨v7,rfl,⟨vm7,rfl,a0⟩,au⟩;have cy:=Z_ (I.o.trans au);have HX7':=Z_ au;have cd:=Z_ a0;have g2:=au.new_cell (i:=2) rfl;obtain⟨O,K,rfl⟩:=a0.form;obtain⟨ng,aH⟩:∃b,b=(Z8 q).neg:=⟨_,rfl⟩
     obtain⟨J,a3⟩:∃b,b=(Z8 q).mag.length:=⟨_,rfl⟩
     rw[<-aH,<-a3];rw[<-a3]at cd;have b1:=Z_ aH;clear au a0 aH a3 X h2 h3 k0 k1 b2 cz CE;have bb:=Z_ (uO (uP w7) (.cells #[.bool ng,.slice O J K] 28));have Z:=Z_ (show Ext wr (w7.alloc (.cells #[.bool ng,.slice O J K] 28)).drew from(cy.o.trans bb.o).drew);have S0:_/\_/\_:=zS ((uI (uP (w7.alloc (.cells #[.bool ng,.slice O J K] 28)))).new_cell (i:=0) rfl) (zS ((uI (uP (w7.alloc (.cells #[.bool ng,.slice O J K] 28)))).new_cell (i:=1) rfl) ((bb.o.drew).cell g2));have dz:=Z_ (ce.o.ext Z.o (λ _ h=>h));have cQ:=Z_ (Tq (S:=Z2 wr) (.slice ao nm co) m (w7.alloc (.cells #[.bool ng,.slice O J K] 28)).drew dz.o (λ i hi=>zU hi Z.o.size) (zT (WR b3.o.2) (by decide)));have cP:=Z_ (Zp HW.o Z.o);have cF:=Z_ (Yj HY.o Z.o);have dq:Hd (j+1<=maxLen):=Z_ (by have:=cu.o;unfold maxLen;omega);have df:Hd ((j+1)*56<=140737488355328):=Z_ (by have:=cu.o;omega);have ag:=Z_ (HX.o.trans Z.o);have ax:Hd (some w7.heap.size≠u2.ownBlock):=Z_ (λ e=>by have X:=(HW.o.lt _ e.symm).2;have h2:=cy.o.size;omega);have dr:Hd (some wr.heap.size≠u2.ownBlock):=Z_ (λ e=>by have X:=(HW.o.lt _ e.symm).2;omega);clear g2;go_wp2_with fail
     go_region_held3 (λ Y=>Y.cell? ⟨w7.heap.size,0,none⟩=some (.bool ng)/\Y.cell? ⟨w7.heap.size,1,none⟩=some (.slice O J K)/\Y.cell? ⟨wr.heap.size,2,none⟩=some (.slice ao nm co)) (first|exact S0|exact S7|exact⟨Z1 _ S7.1,Z1 _ S7.2.1,Z1 _ S7.2.2⟩|exact S9)
      (first
       | (go_at_call 106;(with_reducible refine cQ.o.mono ?_);rintro e w8 ⟨v8,rfl,bv,ah⟩;have aj:=Z_ ah;have S7:_/\_/\_:=zS (ah.cell S0.1) (zS (ah.cell S0.2.1) (ah.cell S0.2.2));have cx:=Z_ bv;obtain⟨a8,c8,rfl⟩:=bv.form;obtain⟨n8,bA⟩:∃n,n=m.length:=⟨_,rfl⟩;rw[<-bA];rw[<-bA]at cx
          have cg:=Z_ (Zp (Zp cP.o aj.o) (uO (uP w8) (.cells #[.bool ng,.slice O J K,.slice a8 n8 c8] 54)));have db:=Z_ (Yj (Yj cF.o aj.o) (uO (uP w8) (.cells #[.bool ng,.slice O J K,.slice a8 n8 c8] 54)));have bf:=Z_ (Wj w8 #[.bool ng,.slice O J K,.slice a8 n8 c8] 54 (Xn rfl rfl rfl) rfl);have cR:=Z_ (zT (ag.o.trans aj.o).size (World.grownBy_alloc w8 (.cells #[.bool ng,.slice O J K,.slice a8 n8 c8] 54) none).size);have cc:=Z_ ((ag.o.trans aj.o).alloc (.cells #[.bool ng,.slice O J K,.slice a8 n8 c8] 54));have aF:=Z_ (zS (Z1 (.cells #[.bool ng,.slice O J K,.slice a8 n8 c8] 54) S7.1) (zS (Z1 (.cells #[.bool ng,.slice O J K,.slice a8 n8 c8] 54) S7.2.1) (Z1 (.cells #[.bool ng,.slice O J K,.slice a8 n8 c8] 54) S7.2.2)));clear ah bv bA)
       |(refine XE rfl (.tmp 40) (.tmp 46) 35 rfl w6.heap.size 54 j0 (.agg #[.bool false,.slice none 0 0,.slice none 0 0]) 3 56 Tryz.underlying35 hj d3 dG cB rfl (yC _) _ j xs rfl cg.o (some ⟨w8.heap.size,0,none⟩) 1 1 _ rfl bf.o dq.o df.o cR.o ?_;intro v9 w9 av hg cb;have d4:=Z_ av;have d7:=Z_ hg;have cA:=Z_ cb;have d6:=Z_ (XH cc.o cg.o hg);have S9:_/\_/\_:=zS (hg.cell aF.o.1 ax.o) (zS (hg.cell aF.o.2.1 ax.o) (hg.cell aF.o.2.2 dr.o));clear av hg cb)
       |fail)
     all_goals
      go_wp2
      go_roundw
      case rel=>
       refine⟨j+1,xs++(#[.bool ng,.slice O J K,.slice a8 n8 c8]:Array Value).toList,by omega,by go_num,d6.o,d4.o,?_⟩;show z0v _ _ _ _;rw[a9.o]
       have ch:z0v (Yy w6 (w8.alloc (.cells #[.bool ng,.slice O J K,.slice a8 n8 c8] 54)) u2) (w8.alloc (.cells #[.bool ng,.slice O J K,.slice a8 n8 c8] 54)) (#[.bool ng,.slice O J K,.slice a8 n8 c8]:Array Value).toList [⟨Z8 q,m⟩]:=by
        rw[b1.o];have bg:=((bb.o.drew).trans aj.o).trans (uO (uP w8) (.cells #[.bool ng,.slice O J K,.slice a8 n8 c8] 54));rw[b1.o]at bg
        refine z0v.single (t:=⟨Z8 q,m⟩) (cd.o.to (uM bg uK) (λ i hi=>⟨⟨zT HX.o.size (zT I.o.size hi.1),zU hi.2 bg.size⟩,λ e=>?_⟩)) ((cx.o.ext (uO (uP w8) _) (λ i hi=>hi.2)).to (uN _ _) (λ i hi=>⟨⟨zT ag.o.size hi.1,by rw[z00];have:=hi.2;omega⟩,λ e=>?_⟩))
        ·have X:=(HW.o.lt _ e.symm).2;have h2:=hi.1;have h3:=I.o.size;omega
        ·have X:=(HW.o.lt _ e.symm).2;have h2:=hi.1;have h3:=Z.o.size;omega
       exact Vs (db.o.append ch) d7.o cA.o (zR _)
      case measure=>simp only[intOf];omega
    ·obtain rfl:j=np:=by omega
     go_wp2
     all_goals
      go_ret2;refine⟨_,rfl,?_,ar.o.trans HX.o⟩;have hc:=HY.o;have ho:=HW.o;rw[zN (by rw[zdj,<-HN.o];exact zR _)]at hc;have e:(Z5 (Yf p)).length=j:=by rw[z5w,zdj];exact HN.o.symm
      rw[<-e]at ho;exact Vk ho (hc.to (uN _ _) (λ _ h=>⟨zT ar.o.size h.1.1,h.1.2⟩)) (λ i X h2=>⟨zT ar.o.size X,h2⟩)
end
section
open Go.RowKit
theorem DA{w:World}{b i:Nat}{v:Value}(h:w.cell? ⟨b,i,none⟩=some v):w.setCell ⟨b,i,none⟩ v=w:=by
 have y:(w.setCell ⟨b,i,none⟩ v).heap=w.heap:=by
  refine vN (λ k=>?_);unfold World.setCell;simp only[vZ]
  split
  ·rename_i e
   subst e;unfold World.cell? at h
   cases hb:w.heap[b]? with
   |none=>simp[hb]at h
   |some o=>
    cases o with
    |cells c elem fr=>
     simp only[hb]at h;simp only[uY,Option.isSome_none,xP,if_false]
     congr 2
     refine vN (λ j=>?_);rw[Array.getElem?_setIfInBounds]
     split
     ·rename_i e
      subst e
      split
      ·simpa using h.symm
      ·rename_i h1
       rw[wt (by omega)]
     ·rfl
    |_=>rfl
  ·rfl
 have e:w.setCell ⟨b,i,none⟩ v={ w with heap:=(w.setCell ⟨b,i,none⟩ v).heap }:=rfl;rw[e,y]
def T7(a b:Z7):Z7:=z3m (· - ·) (both a b)
theorem MW(x y:Int)(bn:Nat)(W:World)(hs:-9223372036854775808<=x-y/\x-y<=9223372036854775807)(hyx:y<=x)(cn:W.cell? ⟨bn,0,none⟩=some (.bool false))(fn:W.frozen? ⟨bn,0,none⟩=false) :
  Calls Tryz.prog 170 #[.int .i64 x,.int .i64 y,.pointer (some ⟨bn,0,none⟩)] W λ e w'=>e=.returned (.int .i64 (x-y))/\w'=W:=by
 obtain⟨h1,h2⟩:=hs;have hd:decide (x<y)=false:=decide_eq_false (by omega);have HS:=Z_ (DA cn)
 go_enter Tryz.func170,Tryz.ntmps170
 go_wp2
 all_goals
  go_ret;exact⟨rfl,HS.o⟩
theorem F1(z x y:Int)(bn bf bm:Nat)(W:World)(hs:-9223372036854775808<=x-y/\x-y<=9223372036854775807)(hle:x-y<=0)(hyx:y<=x)(cn:W.cell? ⟨bn,0,none⟩=some (.bool false))(fn:W.frozen? ⟨bn,0,none⟩=false)
  (cf:W.cell? ⟨bf,0,none⟩=some (.func (.func 170) #[] #[.pointer (some ⟨bn,0,none⟩)])) :
  Calls Tryz.prog 178 #[.int .i64 z,.int .i64 x,.int .i64 y,.pointer (some ⟨bf,0,none⟩),.pointer (some ⟨bm,0,none⟩)] W λ e w'=>e=.returned (.tuple #[])/\w'=W:=by
 have D:=Z_ (MW x y bn W hs (by omega) cn fn);generalize x-y=s at *;obtain⟨h1,h2⟩:=hs
 go_enter Tryz.func178,Tryz.ntmps178
 go_wp2_with fail;(with_reducible refine D.o.mono ?_);rintro e w' ⟨rfl,rfl⟩;go_wp2
 all_goals
  go_end0
  exact⟨rfl,rfl⟩
theorem Hv(z x y:Int)(bn bf bm:Nat)(v:Value)(n base:Nat)(xs:List Value)(W:World)(hs:-9223372036854775808<=x-y/\x-y<=9223372036854775807)(hlt:0<x-y)(cn:W.cell? ⟨bn,0,none⟩=some (.bool false))(fn:W.frozen? ⟨bn,0,none⟩=false)
  (cf:W.cell? ⟨bf,0,none⟩=some (.func (.func 170) #[] #[.pointer (some ⟨bn,0,none⟩)])) (cm:W.cell? ⟨bm,0,none⟩=some v) (hf:W.frozen? ⟨bm,0,none⟩=false) (hbm:bm<base)
  (hown:W.ownsRow base 56 2 v n xs) (hbase:base<=W.heap.size) (hn:n<=1000000000) :
  Calls Tryz.prog 178 #[.int .i64 z,.int .i64 x,.int .i64 y,.pointer (some ⟨bf,0,none⟩),.pointer (some ⟨bm,0,none⟩)] W λ e w'=>e=.returned (.tuple #[]) /\
   ∃v' w2,w'=w2.setCell ⟨bm,0,none⟩ v'/\w2.ownsRow base 56 2 v' (n+1) (xs ++ [.int .i64 z,.int .i64 (x-y)])/\W.grownBy w2 v.ownBlock:=by
 have HT:=Z_ (MW x y bn W hs (by omega) cn fn);generalize x-y=s at *;obtain⟨h1,h2⟩:=hs;have Z:=Z_ hown;have U:=Z_ hn;have HB:=Z_ hbase;have K:Hd (bm<W.heap.size/\v.ownBlock≠some bm):=Z_ ⟨Zj cm,λ e=>by have:=(hown.lt bm e).1;omega⟩;have O:=Z_ (zS cm hf);clear hown hn hbase hbm
 go_enter Tryz.func178,Tryz.ntmps178
 go_wp2_with fail;(with_reducible refine HT.o.mono ?_);rintro e w' ⟨rfl,rfl⟩;go_wp2_with (at_builtin;refine XK _ rfl (.tmp 15) (.tmp 19) 52 rfl base 56 (.agg #[.int .i64 0,.int .i64 0]) 2 16 Tryz.underlying52 uu rfl (by decide) v n xs rfl Z.o #[.int .i64 z,.int .i64 s] rfl (PU _ _) rfl U.o (by decide) HB.o ?_;intro v1 w2 hown D _;have q:=Go.Joins.ownsRow_form hown (yC _);obtain⟨bg,cg,rfl⟩:=q;have I:=Z_ hown;have X:=Z_ D;have J:=(D.block bm K.o.1 (λ e=>K.o.2 e.symm));have c1:w2.cell? ⟨bm,0,none⟩=some v:=(World.cell?_of_block (a:=⟨bm,0,none⟩) J).trans O.o.1;have c2:w2.frozen? ⟨bm,0,none⟩=false:=(World.frozen?_of_block (a:=⟨bm,0,none⟩) J).trans O.o.2;clear hown D J)
 all_goals
  go_end0
  exact⟨rfl,_,_,rfl,I.o,X.o⟩
theorem E_{a b:Z7}(ha:Z3 a=true)(hb:Z3 b=true):inBounds (T7 a b):=λ x hx=>by
 have K:∀(l:List (Int×Int×Int)) (k:Int),WH k l->∀t∈l,k<t.1/\t.1<=200:=by
  intro l
  induction l with
  |nil=>intro k _ t z;simp at z
  |cons y s ih=>
   intro k hk t z;obtain⟨g1,Z,X⟩:=hk
   rcases zJ.1 z with rfl|z
   ·exact⟨g1,Z⟩
   ·have:=ih _ X t z;omega
 obtain⟨J,O⟩:=Uk ha hb
 have U:∀(l:List (Int×Int×Int)),x∈z3m (· - ·) l->∃t∈l,x=(t.1,t.2.1-t.2.2):=by
  intro l
  induction l with
  |nil=>intro h;simp[z3m]at h
  |cons y s ih=>
   intro h;simp only[z3m]at h
   split at h
   ·rcases zJ.1 h with h|h
    ·exact⟨y,by simp,h⟩
    ·obtain⟨t,I,D⟩:=ih h;exact⟨t,by simp[I],D⟩
   ·obtain⟨t,I,D⟩:=ih h;exact⟨t,by simp[I],D⟩
 obtain⟨t,z,rfl⟩:=U _ hx;have I:=K _ _ J t z;have D:=S6 J z;rw[O]at D;have h8:=X6 ha t.1;have h9:=X6 hb t.1;have h10:t.2.1=ex a t.1:=(congrArg Prod.fst D).symm;have h11:t.2.2=ex b t.1:=(congrArg Prod.snd D).symm;refine⟨⟨?_,?_⟩,?_,?_⟩<;>simp only<;>omega
theorem JX{S:Nat->Prop}(va vb:Value)(a b:Z7)(w:World)(ha:Pows S w va a)(hb:Pows S w vb b)(hS:∀k,S k->k<w.heap.size)(hma:Z3 a=true)(hmb:Z3 b=true)(hge:∀u,ex b u<=ex a u){bn:Nat}(hcn:w.cell? ⟨bn,0,none⟩=some (.bool false))(hfn:w.frozen? ⟨bn,0,none⟩=false) :
  Calls Tryz.prog 169 #[va,vb,.func (.func 170) #[] #[.pointer (some ⟨bn,0,none⟩)]] w λ e w'=>∃v',e=.returned v'/\Pows (New w w') w' v' (T7 a b)/\Ext w w':=by
 have hmf:∀(fn:Fn) (first cap:Array Value) (w:World),(Instr.makeFunc fn first cap).run Tryz.prog w=.ok (.func fn first cap) w:=λ _ _ _ _=>rfl;have HA:=Z_ ha;have HB:=Z_ hb;have K:=Z_ hma;have I:=Z_ hmb;have af:=Z_ hge;obtain⟨aa,ca,rfl⟩:=ha.form;obtain⟨a2,cb,rfl⟩:=hb.form;clear ha hb hma hmb hge;have J:=Z_ hcn;have ac:=Z_ hfn;clear hcn hfn
 go_enter Tryz.func169,Tryz.ntmps169
 go_wp2_with fail;have hK:Ext w ((w.alloc (.cells #[.func (.func 170) #[] #[.pointer (some ⟨bn,0,none⟩)]] 204)).alloc (.cells #[.slice none 0 0] 52)):=(uO (uP w) _).alloc _;have HK:=Z_ hK;have hz:(w.alloc (.cells #[.func (.func 170) #[] #[.pointer (some ⟨bn,0,none⟩)]] 204)).heap.size=w.heap.size+1:=z00 _ _
 refine(QE (S:=S) 178 #[.pointer (some ⟨w.heap.size,0,none⟩),.pointer (some ⟨w.heap.size+1,0,none⟩)] (enters_of Tryz.func178 (by kernel_rfl) rfl)
  (λ d W=>W.cell? ⟨w.heap.size,0,none⟩=some (.func (.func 170) #[] #[.pointer (some ⟨bn,0,none⟩)])/\(∃v,W.cell? ⟨w.heap.size+1,0,none⟩=some v/\W.ownsRow (w.heap.size+2) 56 2 v (z3m (· - ·) d).length (YC (z3m (· - ·) d)))/\W.frozen? ⟨w.heap.size+1,0,none⟩=false/\Ext w W/\w.heap.size+2<=W.heap.size) a b _ ?_ ?_ ?_ _ _
  (HA.o.to (uM hK hS) (λ _ h=>h)) (HB.o.to (uM hK hS) (λ _ h=>h)) ⟨Z1 _ (ZJ _ _ _ rfl rfl),⟨_,ZJ _ _ _ hz.symm rfl,World.ownsRow_nil _ _ _ _⟩,?_,hK,by rw[z00,z00];exact zR _⟩).mono ?_
 ·rintro d t r W hd ⟨O,⟨v,U,z⟩,Z,y,h6⟩;have hb:=Q4 HA.o.inBounds HB.o.inBounds t (by rw[hd];simp);obtain⟨h7,h8⟩:=Uk K.o I.o;have h9:=S6 h7 (t:=t) (by rw[hd];simp);rw[h8]at h9;have h10:=X6 K.o t.1;have h11:=X6 I.o t.1;have h12:t.2.1=ex a t.1:=(congrArg Prod.fst h9).symm;have h13:t.2.2=ex b t.1:=(congrArg Prod.snd h9).symm;have h14:=af.o t.1;rw[show(#[Value.int .i64 t.1,.int .i64 t.2.1,.int .i64 t.2.2] ++ #[.pointer (some ⟨w.heap.size,0,none⟩),.pointer (some ⟨w.heap.size+1,0,none⟩)]:Array Value)=#[.int .i64 t.1,.int .i64 t.2.1,.int .i64 t.2.2,.pointer (some ⟨w.heap.size,0,none⟩),.pointer (some ⟨w.heap.size+1,0,none⟩)] from rfl]
  have ad:(z3m (· - ·) d).length<=1000000000:=by
   have k1:=Nf (· - ·) d;have k2:=LV a b;rw[hd,zI]at k2;have k3:=WR K.o;have k4:=WR I.o;omega
  by_cases D:0<t.2.1-t.2.2
  ·refine(Hv t.1 t.2.1 t.2.2 bn _ _ v _ _ _ W (by omega) D (y.cell J.o) (y.free (Zj J.o) ac.o) O U Z (zk _) z h6 ad).mono ?_;rintro e w' ⟨rfl,v',w2,rfl,k1,k2⟩;have X:∀k,v.ownBlock=some k->w.heap.size+2<=k:=λ k hk=>(z.lt k hk).1;have g1:w2.heap[w.heap.size]? = W.heap[w.heap.size]?:=k2.block _ (by omega) (λ e=>by have:=X _ e.symm;omega);have g2:w2.heap[w.heap.size+1]? = W.heap[w.heap.size+1]?:=k2.block _ (by omega) (λ e=>by have:=X _ e.symm;omega)
   refine⟨rfl,ZZ ((World.cell?_of_block (a:=⟨w.heap.size,0,none⟩) g1).trans O) (ab (by omega)),⟨v',YT (u:=v) ?_,?_⟩,Zg ?_,?_,?_⟩
   ·exact(World.cell?_of_block (a:=⟨w.heap.size+1,0,none⟩) g2).trans U
   ·refine ownsRow_setCell_below ?_ (zk _) _;rw[z6d,if_pos D,z63,zI];simpa[YC]using k1
   ·exact(World.frozen?_of_block (a:=⟨w.heap.size+1,0,none⟩) g2).trans Z
   ·exact(YU y k2 (λ k hk=>by have:=X k hk;omega)).setCell (p:=⟨w.heap.size+1,0,none⟩) (zw _) _
   ·rw[z03];exact zT h6 k2.size
  ·refine(F1 t.1 t.2.1 t.2.2 bn _ _ W (by omega) (by omega) (by omega) (y.cell J.o) (y.free (Zj J.o) ac.o) O).mono ?_;rintro e w' ⟨rfl,rfl⟩;refine⟨rfl,O,⟨v,U,?_⟩,Z,y,h6⟩;rw[z6d,if_neg D];exact z
 ·rintro d W ⟨_,_,_,z,_⟩ k hk;exact(uM z hS k hk).trans (uM HK.o hS k hk).symm
 ·rintro d W q ⟨O,⟨v,U,z⟩,Z,y,h6⟩;exact⟨by simpa using O,⟨v,by simpa using U,z⟩,by simpa using Z,y.drewN q,h6⟩
 ·exact OV _ _ _ hz.symm
 rintro e w3 ⟨rfl,O,⟨v,U,z⟩,Z,y,h6⟩;have ae:=Z_ y;have HP:=Z_ (Ut z (E_ K.o I.o));have hf:=Go.Joins.ownsRow_forms z;clear O z y hz hK;rcases hf with ⟨rfl,-⟩|⟨bg,cg,rfl⟩
 all_goals
  go_wp2
  all_goals
   refine bodyPost_ret (by simp[results,Tryz.results169,go_sem,YT U];rfl) rfl ?_;exact⟨_,rfl,HP.o.to (uH (λ h=>by have:w.heap.size+2<=w.heap.size+1:=h.1;omega) _) (λ k h=>⟨by have:=h.1;omega,by rw[z03];exact h.2⟩),ae.o.setCell (p:=⟨w.heap.size+1,0,none⟩) (zw _) _⟩
theorem CZ{a:Z7}:∀{l:Int},z0d l a=true->T7 a []=a:=by
 induction a with
 |nil=>exact λ _=>rfl
 |cons x r ih=>
  intro l h;simp only[z0d,zK,decide_eq_true_eq]at h;have y:=ih h.2;unfold T7 at y⊢;rw[z7s,z3m,if_pos (by simp only;omega),y];simp
theorem Bw{S:Nat->Prop}(va vb:Value)(a b:Z7)(w:World)(ha:Pows S w va a)(hb:Pows S w vb b)(hS:∀k,S k->k<w.heap.size)(hma:Z3 a=true)(hmb:Z3 b=true)(hge:∀u,ex b u<=ex a u) :
  Calls Tryz.prog 157 #[va,vb] w λ e w'=>∃v',e=.returned (.tuple #[v',.int .i64 0])/\Pows (New w w') w' v' (T7 a b)/\Ext w w':=by
 have hnot:∀(x:Bool) (w:World),(Op.unary .not (.bool x)).run Tryz.prog w=.ok (.bool (!x)) w:=λ _ _=>rfl;have hmf:∀(fn:Fn) (first cap:Array Value) (w:World),(Instr.makeFunc fn first cap).run Tryz.prog w=.ok (.func fn first cap) w:=λ _ _ _ _=>rfl;have C1:=Z_ (XG va a w ha hS);have C2:=Z_ (λ(W:World) (hW:Ext w W)=>XG vb b W (hb.ext hW hS) (ZM hS hW));have C3:=Z_ (λ(W:World) (bn:Nat) (hW:Ext w W) (h1:W.cell? ⟨bn,0,none⟩=some (.bool false)) (h2:W.frozen? ⟨bn,0,none⟩=false)=>JX va vb a b W (ha.ext hW hS) (hb.ext hW hS) (ZM hS hW) hma hmb hge h1 h2);rw[hma]at C1;rw[hmb]at C2;obtain⟨aa,ca,rfl⟩:=ha.form;obtain⟨a2,cb,rfl⟩:=hb.form;obtain⟨na,z⟩:∃n,n=a.length:=⟨_,rfl⟩
 obtain⟨nb,y⟩:∃n,n=b.length:=⟨_,rfl⟩
 rw[<-z]at C1 C3;rw[<-y]at C2 C3;rw[<-z,<-y];clear ha hb hma hmb hge z y
 go_enter Tryz.func157,Tryz.ntmps157
 go_wp2_with fail;(with_reducible refine C1.o.mono ?_);rintro e w1 ⟨rfl,X⟩;have U:=Z_ X;clear X;go_wp2_with fail;(with_reducible refine(C2.o _ U.o).mono ?_);rintro e w2 ⟨rfl,O⟩;have D:=Z_ (U.o.trans O);clear O;have I:=Z_ (uO (uP w2) (.cells #[.bool false] 4));have hc:=(uP (w2.alloc (.cells #[.bool false] 4))).new_cell (i:=0) rfl;have hf:=(uP (w2.alloc (.cells #[.bool false] 4))).new_free 0;have ae:=Z_ (C3.o _ w2.heap.size (D.o.trans I.o) hc hf);have HC:=Z_ hc;clear hc hf;go_wp2_with fail;(with_reducible refine ae.o.mono ?_);rintro e w3 ⟨v3,rfl,K,J⟩;have ad:=Z_ ((D.o.trans I.o).trans J);have Z:=Z_ (K.to (S':=New w w3) (uN _ _) (λ k h=>⟨zT (D.o.trans I.o).size h.1,h.2⟩));have d0:=J.cell HC.o;obtain⟨a3,c3,rfl⟩:=K.form;obtain⟨n3,ac⟩:∃n,n=(T7 a b).length:=⟨_,rfl⟩
 rw[<-ac]at Z⊢;clear K J ac;go_wp2
 all_goals
  go_ret2;exact⟨_,rfl,Z.o,ad.o⟩
end
section
open Go.RowKit
theorem Ao{S:Nat->Prop}(vp vq:Value)(ps qs:List RTerm)(w:World)(L:Nat)(hp:z06 S w vp ps)(hq:z06 S w vq qs)(hS:∀k,S k->k<w.heap.size)(hmp:ZR ps=true)(hmq:ZR qs=true)
  (hrp:∀t∈ps,t.c.mag.length<=L) (hrq:∀t∈qs,t.c.mag.length<=L) (hL:L<=1000000000) (hn:ps.length*qs.length<=1000000000000) :
  Calls Tryz.prog 143 #[vp,vq] w (VL w (ZI (toP ps) (toP qs))):=by
 have hnot:∀(x:Bool) (w:World),(Op.unary .not (.bool x)).run Tryz.prog w=.ok (.bool (!x)) w:=λ _ _=>rfl;have HP:=Z_ hp;have HQ:=Z_ hq;have b7:=Z_ (λ(k:Nat) (t:RTerm) (U:ps[k]? = some t)=>Sd hmp U);have ch:=Z_ (λ(k:Nat) (t:RTerm) (U:qs[k]? = some t)=>Sd hmq U);have a7:=Z_ hrp;have bA:=Z_ hrq;have az:=Z_ hn;have b4:=hp.len_le;have cm:=hq.len_le
 have CA:=R7 (S:=λ k=>S k∨k=w.heap.size) _ [ps,qs] (w.alloc (.cells #[vp,vq] 35)) (SY hp hq hS 35) (UD hS _) (λ p hp=>by
  rcases zJ.1 hp with rfl|hp
  ·exact λ t U=>zT (hrp t U) (by omega)
  ·rw[zQ.1 hp];exact λ t U=>zT (hrq t U) (by omega))
 rw[show [ps,qs].all ZR=true by simp[hmp,hmq]]at CA;obtain⟨ap,cp,rfl⟩:=hp.form;obtain⟨aq,cq,rfl⟩:=hq.form;obtain⟨n,a4⟩:∃n,n=ps.length:=⟨_,rfl⟩
 obtain⟨m,aH⟩:∃n,n=qs.length:=⟨_,rfl⟩
 rw[<-a4]at HP CA b4 az⊢;rw[<-aH]at HQ CA cm az⊢;have HN:=Z_ a4;have HM:=Z_ aH;have cn:=Z_ CA;have HS:=Z_ hS;clear hp hq hmp hmq hrp hrq hn a4 aH CA hS
 go_enter Tryz.func143,Tryz.ntmps143
 go_wp2_with fail;(with_reducible refine cn.o.mono ?_);rintro e w1 ⟨rfl,bv⟩;have aa:=Z_ ((uO (uP w) _).trans bv);have cr:=Z_ (HP.o.onS aa.o HS.o);have cl:=Z_ (HQ.o.onS aa.o HS.o);have aj:=Z_ (ZM HS.o aa.o);clear bv;go_wp2
 go_loopw [6,20] (λ o i wr=>∃(k:Nat) (xs:PZ) (cs:List Value),k<=n/\i=.int .i64 k/\Ext w1 wr/\Hd (XI (toP ps) (toP qs) (k*m) xs)/\Hd (xs.length=k*m)/\Hd (wr.ownsRow w1.heap.size 54 3 o xs.length cs)/\Hd (z0v (Yy w1 wr o) wr cs (Z5 xs))) (λ _ i _=>n-(intOf i).toNat)
 case atStart=>exact⟨0,[],[],zL _,rfl,uP _,Z_ (by rw[yE];exact QT _ _),Z_ (by rw[yE];rfl),World.ownsRow_nil _ _ _ _,rfl⟩
 case round=>
  obtain⟨k,xs,cs,hk,rfl,D,HF,O,HW,HY⟩:=hrel;have HX:=Z_ D
  by_cases ci:k<n
  ·obtain⟨t,U⟩:=ZN (l:=ps) (j:=k) (by rw[<-HN.o];exact ci);obtain⟨b,off,vd,vo,rfl,-,hn1,hm1,hSb,h1,h2,h3,h4,h5⟩:=cr.o.cellAt U;have h1:=D.cell h1;have h2:=D.cell h2;have h3:=D.cell h3;have HT:=Z_ U;have H4:=Z_ h4;have H5:=Z_ h5;obtain⟨ad,cd,rfl⟩:=h4.form;obtain⟨ao,co,rfl⟩:=h5.form;obtain⟨ng,aP⟩:∃b,b=t.c.neg:=⟨_,rfl⟩
   obtain⟨nd,aN⟩:∃b,b=t.c.mag.length:=⟨_,rfl⟩
   obtain⟨nm,a5⟩:∃b,b=t.m.length:=⟨_,rfl⟩
   have ca:=Z_ aP;rw[<-aN]at H4;rw[<-a5]at H5;rw[<-aP]at h1;rw[<-aN]at h2;rw[<-a5]at h3;have aR:=Z_ (uO (uP wr) (.cells #[.bool ng,.slice ad nd cd,.slice ao nm co] 54));clear U h4 h5 D aP aN a5;go_wp2;obtain⟨wo,rfl⟩:∃wo:World,wo=wr:=⟨_,rfl⟩
   go_loopw [6,26] (λ o i wr=>∃(j:Nat) (xs:PZ) (cs:List Value),j<=m/\i=.int .i64 j/\Ext w1 wr/\Hd (wo.heap.size<wr.heap.size)/\Hd (wr.cell? ⟨wo.heap.size,0,none⟩=some (.bool ng)/\wr.cell? ⟨wo.heap.size,1,none⟩=some (.slice ad nd cd)/\wr.cell? ⟨wo.heap.size,2,none⟩=some (.slice ao nm co))/\Hd (some wo.heap.size≠o.ownBlock) /\
    Hd (XI (toP ps) (toP qs) (k*m+j) xs)/\Hd (xs.length=k*m+j)/\Hd (wr.ownsRow w1.heap.size 54 3 o xs.length cs)/\Hd (z0v (Yy w1 wr o) wr cs (Z5 xs))) (λ _ i _=>m-(intOf i).toNat)
   case atStart=>exact⟨0,xs,cs,zL _,rfl,HX.o.trans aR.o,Z_ (by rw[z00];exact zk _),Z_ ⟨ZJ _ _ _ rfl rfl,ZJ _ _ _ rfl rfl,ZJ _ _ _ rfl rfl⟩,Z_ (λ e=>by have:=(HW.o.lt _ e.symm).2;omega),HF,O,Zp HW.o aR.o,Yj HY.o aR.o⟩
   case round=>
    clear HF O HW HY;obtain⟨j,xs,cs,hj,rfl,D,bN,al,ax,HF,O,HW,HY⟩:=hrel;have af:=Z_ D
    by_cases bb:j<m
    ·obtain⟨u,hu⟩:=ZN (l:=qs) (j:=j) (by rw[<-HM.o];exact bb);obtain⟨b2,off2,ve,vp2,rfl,-,hn2,hm2,hSb2,g1,g2,g3,g4,g5⟩:=(cl.o.onS af.o aj.o).cellAt hu;have HU:=Z_ hu;have a0:=Z_ (QN (RN HT.o) (RN hu));rw[show(toP qs).length=m by rw[z5k,HM.o]]at a0;have X:=b7.o k t HT.o;have Z:=ch.o j u hu;obtain⟨k0,k1,k2⟩:=al.o;obtain⟨ae,ce,rfl⟩:=g4.form;obtain⟨bs,bx,rfl⟩:=g5.form;obtain⟨mg,av⟩:∃b,b=u.c.neg:=⟨_,rfl⟩
     obtain⟨ne,ay⟩:∃b,b=u.c.mag.length:=⟨_,rfl⟩
     obtain⟨nq,au⟩:∃b,b=u.m.length:=⟨_,rfl⟩
     have cc:=Z_ av;have G4:=Z_ g4;have G5:=Z_ g5;rw[<-ay]at G4;rw[<-au]at G5;rw[<-av]at g1;rw[<-ay]at g2;rw[<-au]at g3;have z:=Z_ (uO (uP wr) (.cells #[.bool mg,.slice ae ne ce,.slice bs nq bx] 54));have k3:=z.o.cell k0;have k4:=z.o.cell k1;have k5:=z.o.cell k2;have ac:=ZM aj.o af.o;have ai:=Z_ (Lk (S:=S) (.slice ao nm co) (.slice bs nq bx) t.m u.m _ (H5.o.ext (D.trans z.o) aj.o) (G5.o.ext z.o ac) (ZM ac z.o));have b6:=Z_ (λ(W:World) (hW:Ext wr W)=>UP (S:=S) (.agg #[.bool ng,.slice ad nd cd]) (.agg #[.bool mg,.slice ae ne ce]) t.c u.c W ⟨_,by rw[ca.o],H4.o.ext (D.trans hW) aj.o⟩ ⟨_,by rw[cc.o],G4.o.ext hW ac⟩ (ZM ac hW) (zT (a7.o t (zP HT.o)) (by omega)) (zT (bA.o u (zP hu)) (by omega)))
     have bn:k*m+j<n*m:=by
      have:(k+1)*m<=n*m:=zF _ (by omega);rw[y8]at this;omega
     have cg:Hd (xs.length<=1000000000000):=Z_ (by have h1:=az.o;have h2:=O.o;omega)
     cases hmx:Z3 (ZE t.m u.m) with
     |false=>
      have he:Wp t.m u.m=8:=by unfold Wp;rw[X,Z,hmx];rfl
      have cb:=Z_ (Rk HF.o (a0.o.trans (congrArg some (QR X Z hmx))));rw[he]at ai;clear he hmx X Z D hu g4 g5 av ay au k0 k1 k2 bn ac;go_wp2_with fail;(with_reducible refine ai.o.mono ?_);rintro e w2 ⟨v2,rfl,I,y⟩;have K:=Z_ (aa.o.trans (af.o.trans (z.o.trans y)));clear I y;go_wp2
      all_goals
       go_ret2;rw[cb.o];exact⟨rfl,K.o⟩
     |true=>
      have he:Wp t.m u.m=0:=by unfold Wp;rw[X,Z,hmx];rfl
      have hv:Un t.m u.m=ZE t.m u.m:=by unfold Un;rw[X,Z,hmx];rfl
      have bl:=Z_ (PA HF.o (a0.o.trans (congrArg some (Qv X Z hmx))));rw[he,hv]at ai;clear he hv hmx X Z D hu g4 g5 av ay au k0 k1 k2 bn ac;go_wp2_with fail;(with_reducible refine ai.o.mono ?_);rintro e w2 ⟨v2,rfl,I,y⟩;have K:=Z_ (z.o.trans y);have l0:=y.cell k3;have l1:=y.cell k4;have r0:=y.new_cell (i:=0) rfl;have r1:=y.new_cell (i:=1) rfl;have ar:=Z_ (I.to (S':=New wr w2) (uN _ _) (λ k h=>⟨zT z.o.size h.1,h.2⟩));obtain⟨a2,c2,rfl⟩:=I.form;obtain⟨n2,aG⟩:∃b,b=(ZE t.m u.m).length:=⟨_,rfl⟩
      rw[<-aG]at ar⊢;have bB:=Z_ (b6.o w2 (z.o.trans y));clear I y aG k3 k4 k5;go_wp2_with fail;(with_reducible refine bB.o.mono ?_);rintro e w3 ⟨v3,rfl,⟨cj,rfl,a6⟩,ah⟩;have J:=Z_ (K.o.trans ah);have aA:=Z_ (af.o.trans (K.o.trans ah));have bu:=Z_ (Zp HW.o J.o);obtain⟨b3,a8⟩:∃b,b=(Z8 (Z6 t.c*Z6 u.c)).neg:=⟨_,rfl⟩
      have aC:z0v (New wr w3) w3 [.bool (Z8 (Z6 t.c*Z6 u.c)).neg,cj,.slice a2 n2 c2] [⟨Z8 (Z6 t.c*Z6 u.c),ZE t.m u.m⟩] :=
       z0v.single (t:=⟨Z8 (Z6 t.c*Z6 u.c),ZE t.m u.m⟩) (a6.to (uN _ _) (λ k h=>⟨zT K.o.size h.1,h.2⟩)) (ar.o.to (uM ah (λ _ h=>h.2)) (λ k h=>⟨h.1,zU h.2 ah.size⟩))
      have aS:=Z_ ((Yj HY.o J.o).append (Ti af.o.size HW.o aC));rw[<-Ln xs (Z6 t.c*Z6 u.c,ZE t.m u.m)]at aS;obtain⟨a3,c3,rfl⟩:=a6.form;obtain⟨n3,bm⟩:∃b,b=(Z8 (Z6 t.c*Z6 u.c)).mag.length:=⟨_,rfl⟩
      rw[<-a8,<-bm]at aS⊢;clear aC a6 ah a8 bm l0 l1 r0 r1;go_wp2_with (at_builtin;refine VA _ rfl (.tmp 41) (.tmp 49) 34 rfl w1.heap.size 54 (.agg #[.bool false,.slice none 0 0,.slice none 0 0]) 3 56 Tryz.underlying34 uE rfl (by decide) _ xs.length cs rfl bu.o #[.bool b3,.slice a3 n3 c3,.slice a2 n2 c2] rfl (Xn rfl rfl rfl) rfl cg.o (by decide) aA.o.size ?_;intro v5 w5 aB hg bg;have ct:=Z_ aB;have ag:=Z_ hg;have a9:=Z_ bg;clear aB hg bg)
      go_roundw
      case rel=>
       refine⟨j+1,xs ++ [(Z6 t.c*Z6 u.c,ZE t.m u.m)],cs++(#[.bool b3,.slice a3 n3 c3,.slice a2 n2 c2]:Array Value).toList,by omega,by go_num,XH aA.o bu.o ag.o,Z_ (zU bN.o (zT J.o.size ag.o.size)),Z_ ⟨ZT ag.o (J.o.cell al.o.1) ax.o,ZT ag.o (J.o.cell al.o.2.1) ax.o,ZT ag.o (J.o.cell al.o.2.2) ax.o⟩,Z_ (λ e=>by rcases a9.o with h|h;exact ax.o (e.trans h);exact absurd (Option.some.inj (e.trans h)) (by have:=bN.o;have:=J.o.size;omega)),bl,?_,?_,Vs aS.o ag.o a9.o (zw _)⟩
       ·show _=_;rw[zI,O.o];rfl
       ·show World.ownsRow _ _ _ _ _ _ _;rw[zI];exact ct.o
      case measure=>simp only[intOf];omega
    ·obtain rfl:m=j:=by omega
     clear D;go_wp2
     go_roundw
     case rel=>
      have e:(k+1)*m=k*m+m:=by rw[y8,yM]
      exact⟨k+1,xs,cs,by omega,by go_num,af.o,by rw[e];exact HF,by rw[e];exact O,HW,HY⟩
     case measure=>simp only[intOf];omega
  ·obtain rfl:n=k:=by omega
   have aF:=Rw HF.o (by rw[z5k,z5k,<-HN.o,<-HM.o]);have bf:=Z_ aF;have ho:=Vk (S:=Z2 wr) (p:=Z5 xs) (by rw[z5l];exact HW.o) (HY.o.to (uN _ _) (λ _ h=>h.1.2)) (λ k h1 h2=>h2)
   have ba:=Z_ (U5 u6 (Z5 xs) wr (L+L) ho (λ _ h=>h) (λ t U=>by
    obtain⟨x,D,rfl⟩:=zG.1 U
    exact(Ub HF.o D).1) (λ t U=>by
    obtain⟨x,D,rfl⟩:=zG.1 U;obtain⟨-,a,ha,b,hb,e⟩:=Ub HF.o D;obtain⟨a',b1,rfl⟩:=zG.1 ha;obtain⟨b',bt,rfl⟩:=zG.1 hb;show(Z8 x.1).mag.length<=_;rw[z54,e]
    exact QF (zT (Ws (HP.o.okT a' b1)) (a7.o a' b1)) (zT (Ws (HQ.o.okT b' bt)) (bA.o b' bt))) (by omega) (by rw[z5l,O.o];have:=az.o;omega))
   rw[z53]at ba;clear D aF ho;go_wp2_with fail;(with_reducible refine ba.o.mono ?_);rintro e w2 ⟨v2,rfl,I,y⟩;have ar:=Z_ (I.to (S':=New w w2) (uN _ _) (λ k h=>⟨zT (aa.o.trans HX.o).size h.1,h.2⟩));have K:=Z_ ((aa.o.trans HX.o).trans y);clear I y;go_wp2
   all_goals
    go_ret2;rw[bf.o];exact⟨_,rfl,ar.o,K.o⟩
theorem PW{W:World}{u v:Value}{p q:PZ}{k n l m:Nat}(hp:PV W u p)(hq:PV W v q)(fp:Fit k n p)(fq:Fit l m q)(hk:k<=1000000)(hl:l<=1000000)(hnm:n*m<=1000000000000) :
  Calls Tryz.prog 143 #[u,v] W (VL W (ZI p q)):=by
 have h:=Ao u v _ _ W 1000000 hp hq (λ _ h=>h) fp.may fq.may (λ t ht=>zT (fp.lens t ht) hk) (λ t ht=>zT (fq.lens t ht) hl) (by decide)
  (zT (yR fp.len fq.len) hnm)
 rwa [z53,z53]at h
theorem ET{W:World}{u vc vm:Value}{p:PZ}{c:Int}{m:Z7}{k n l:Nat}(hp:PV W u p)(hc:IntV (Z2 W) W vc (Z8 c))(hm:Pows (Z2 W) W vm m)(fp:Fit k n p)(hmm:Z3 m=true)(hcl:ZX c<=l)(hk:k<=1000000)(hl:l<=1000000)(hn:n<=1000000000000) :
  Calls Tryz.prog 122 #[u,vc,vm] W (VL W (ZI p (ZO c m))):=by
 have hnot:∀(x:Bool) (w:World),(Op.unary .not (.bool x)).run Tryz.prog w=.ok (.bool (!x)) w:=λ _ _=>rfl;obtain⟨vz,rfl,hz⟩:=hc;have HP:=Z_ hp;have HZ:=Z_ hz;have HM:=Z_ hm;have CM:=λ(Y:World) (hY:Ext W Y)=>XG (S:=Z2 W) vm m Y (hm.ext hY (λ _ h=>h)) (λ k h=>zU h hY.size);simp only[hmm]at CM;have U:=Z_ CM;have f1:=Sn (m:=m) hmm hcl
 have CC:=Z_ (λ(Y:World) (hY:Ext W Y)=>U5 (S:=Z2 (Y.alloc (.cells #[.bool (Z8 c).neg,vz,vm] 54))) (.slice (some ⟨Y.heap.size,0,none⟩) 1 1) [⟨Z8 c,m⟩] (Y.alloc (.cells #[.bool (Z8 c).neg,vz,vm] 54)) 1000000
  (R4 (t:=⟨Z8 c,m⟩) ((hz.ext hY (λ _ h=>h)).to (uN _ _) (λ k h=>zU h hY.size)) ((hm.ext hY (λ _ h=>h)).to (uN _ _) (λ k h=>zU h hY.size)) 54) (λ _ h=>h) (λ t ht=>by rw[zQ.1 ht];exact hmm) (λ t ht=>by rw[zQ.1 ht];show(Z8 c).mag.length<=_;rw[z54];omega) (by decide) (by simp))
 have e1:toP [⟨Z8 c,m⟩]=[(c,m)]:=by unfold toP;simp[z09]
 simp only[e1,RF]at CC;have CT:=Z_ (λ(Y:World) (u2:Value) (hY:Ext W Y) (hu:PV Y u2 (ZO c m))=>PW (hp.on hY) hu fp f1 hk hl (by omega));obtain⟨ap,cp,rfl⟩:=hp.form;obtain⟨az,cz,rfl⟩:=hz.form;obtain⟨am,cm,rfl⟩:=hm.form;obtain⟨np,K⟩:∃n,n=(Z5 p).length:=⟨_,rfl⟩
 obtain⟨nz,ac⟩:∃n,n=(Z8 c).mag.length:=⟨_,rfl⟩
 obtain⟨nm,X⟩:∃n,n=m.length:=⟨_,rfl⟩
 obtain⟨ng,aa⟩:∃n,n=(Z8 c).neg:=⟨_,rfl⟩
 rw[<-K]at CT⊢;rw[<-ac,<-aa]at CC⊢;rw[<-X]at CC U⊢;generalize ZI p (ZO c m)=o at *;have HK:=Z_ (uO (uP W) (.cells #[.bool ng,.slice az nz cz] 28));clear hp hz hm CM hmm hcl f1 e1 K ac X aa
 go_enter Tryz.func122,Tryz.ntmps122
 go_wp2_with fail;(with_reducible refine(U.o _ HK.o).mono ?_);rintro e w1 ⟨rfl,D⟩;have k0:=D.new_cell (i:=0) rfl;have k1:=D.new_cell (i:=1) rfl;have Z:=Z_ (HK.o.trans D);clear D;go_wp2_with fail;(with_reducible refine(CC.o _ Z.o).mono ?_);rintro e w2 ⟨v2,rfl,I,O⟩;have z:=Z_ ((Z.o.alloc _).trans O);have ae:=Z_ (CT.o w2 v2 z.o (I.to (uN _ _) uK));obtain⟨a2,c2,rfl⟩:=I.form;clear I O k0 k1;go_wp2_with fail;(with_reducible refine ae.o.mono ?_);intro e w3 h3
 cases o with
 |none=>
  obtain⟨rfl,y⟩:=h3;have J:=Z_ (z.o.trans y);clear y;go_wp2
  all_goals
   go_ret2;exact⟨rfl,J.o⟩
 |some x=>
  obtain⟨v3,rfl,ad,y⟩:=h3;have J:=Z_ (z.o.trans y);have af:=Z_ (ad.to (S':=New W w3) (uN _ _) (λ k h=>⟨zT z.o.size h.1,h.2⟩));clear ad y;go_wp2
  all_goals
   go_ret2;exact⟨_,rfl,af.o,J.o⟩
end
end Go.Proofs.YtlbohjnfkhemlaaGreat
