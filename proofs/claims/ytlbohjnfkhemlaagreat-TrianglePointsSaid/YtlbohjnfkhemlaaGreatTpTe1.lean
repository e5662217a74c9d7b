/- TrianglePoints holds: at a point at which all hypotheses are 0, all of. -/
import Derived.Test.YtlbohjnfkhemlaaGreatTp15
set_option maxRecDepth 100000
set_option maxHeartbeats 16000000
namespace Go.Proofs.YtlbohjnfkhemlaaGreat
section
open Go.RowKit Go.Deep
theorem BJ{W:World}{vl vq:Value}{L:List (List RTerm×Int)}{pts:List (RInt×RInt)}(hl:Hyps (Z2 W) W vl L)(hq:Rats (Z2 W) W vq pts) :
  Calls Tryz.prog 3 #[vl,vq] W λ e W'=>e=.returned (.bool true)/\Ext W W':=by
 have hnot:∀(x:Bool) (w:World),(Op.unary .not (.bool x)).run Tryz.prog w=.ok (.bool (!x)) w:=λ _ _=>rfl;have HL:=Z_ hl;have HQ:=Z_ hq;have ct:=hq.len_le;have C:=IM (S:=Z2 W) _ _ hl (λ _ h=>h);obtain⟨al,cl,rfl⟩:=hl.form;obtain⟨aq,cq,rfl⟩:=hq.form;obtain⟨nl,a8⟩:∃n,n=L.length:=⟨_,rfl⟩
 obtain⟨nq,a7⟩:∃n,n=pts.length:=⟨_,rfl⟩
 rw[<-a8]at HL C⊢;rw[<-a7]at HQ ct⊢;have HN:=Z_ (zS a8 a7);have CN:=Z_ (λ Y=>GI 20 50 500 0 Y);clear hl hq a8 a7
 go_enter Tryz.func3,Tryz.ntmps3
 cases hg:WU L with
 |true=>
  rw[hg]at C;have a2:=Z_ C;clear C hg;go_wp2_with fail;(with_reducible refine a2.o.mono ?_);rintro e w2 ⟨rfl,X⟩;have ac:=Z_ X;clear X;go_wp2_with fail;(with_reducible refine(VZ _).mono ?_);rintro e w3 ⟨rfl,J⟩;have ah:=Z_ (ac.o.trans J);clear J;go_wp2
  all_goals
   go_ret;exact⟨rfl,ah.o⟩
 |false=>
  have aS:=Z_ (I0 hg);rw[hg]at C;have a2:=Z_ C;clear C hg;have hnl5:nl<=5:=by rw[HN.o.1];exact aS.o.2
  by_cases h4:nq<=6
  rotate_left
  ·go_wp2_with fail;(with_reducible refine a2.o.mono ?_);rintro e w2 ⟨rfl,X⟩;have ac:=Z_ X;have h5:(6:Int)<(nq:Int):=by omega
   clear X;go_wp2_with fail;(with_reducible refine(VZ _).mono ?_);rintro e w3 ⟨rfl,J⟩;have ah:=Z_ (ac.o.trans J);clear J;go_wp2
   all_goals
    go_ret;exact⟨rfl,ah.o⟩
  go_wp2_with fail;(with_reducible refine a2.o.mono ?_);rintro e w2 ⟨rfl,X⟩;have ac:=Z_ X;have h5:(nq:Int)<=6:=by omega
  clear X;go_wp2
  go_loop [28] (λ i=>∃k:Nat,k<=nq/\i=.int .i64 (k:Nat)/\Hd (∀x∈pts.take k,x.1.mag.length<=2/\x.2.mag.length<=2)) (λ i=>nq-(intOf i).toNat)
  case atStart=>exact⟨0,zL _,rfl,λ x y=>by simp at y⟩
  case round=>
   obtain⟨k,hk,rfl,HK⟩:=hrel
   by_cases af:k<nq
   ·obtain⟨r,hr⟩:=ZN (l:=pts) (j:=k) (by rw[<-HN.o.2];exact af);obtain⟨bq,oq,vqn,vqd,rfl,hq1,hq2,-,q0,q1,q2,q3,q4,q5⟩:=(HQ.o.on ac.o).cellAt hr;obtain⟨an,cn,rfl⟩:=q4.form;obtain⟨ca,co,rfl⟩:=q5.form;have ba:=Z_ (RG hr);obtain⟨a9,aB⟩:∃n,n=r.1.mag.length:=⟨_,rfl⟩
    obtain⟨aN,aC⟩:∃n,n=r.2.mag.length:=⟨_,rfl⟩
    rw[<-aB]at q1;rw[<-aC]at q3;have q3':w2.cell? ⟨bq,oq+k*4+2+1,none⟩=some (.slice ca aN co):=q3;have cy:=Z_ (zS aB aC);clear hr q4 q5 aB aC q0 q2 q3
    by_cases h6:2<a9
    ·have h7:(2:Int)<(a9:Int):=by omega
     go_wp2_with fail;(with_reducible refine(VZ _).mono ?_);rintro e w3 ⟨rfl,J⟩;have ah:=Z_ (ac.o.trans J);clear J;go_wp2
     all_goals
      go_ret;exact⟨rfl,ah.o⟩
    ·have h7:(a9:Int)<=2:=by omega
     by_cases h8:2<aN
     ·have h9:(2:Int)<(aN:Int):=by omega
      go_wp2_with fail;(with_reducible refine(VZ _).mono ?_);rintro e w3 ⟨rfl,J⟩;have ah:=Z_ (ac.o.trans J);clear J;go_wp2
      all_goals
       go_ret;exact⟨rfl,ah.o⟩
     ·have h9:(aN:Int)<=2:=by omega
      go_wp2
      go_round
      case rel=>
       refine⟨k+1,by omega,by go_num,?_⟩;show ∀x∈pts.take (k+1),_;rw[ba.o];intro x y
       rcases zC.1 y with y|y
       ·exact HK.o x y
       ·obtain rfl:=zQ.1 y;have h:=cy.o;omega
      case measure=>simp only[intOf];omega
   ·obtain rfl:k=nq:=by omega
    have bv:Hd (PtFit pts):=Z_ ⟨by rw[<-HN.o.2];omega,λ x y=>by
     have h:=HK.o x (by rw[zN (by rw[<-HN.o.2];exact zR _)];exact y)
     omega⟩
    clear af hk h4 h5;go_wp2
    go_loopw [53] (λ i wr=>∃k:Nat,k<=nl/\i=.int .i64 (k:Nat)/\Ext w2 wr/\Hd (∀x∈L.take k,ZR x.1=true/\Hyp27 pts (Zt x.1))) (λ i _=>nl-(intOf i).toNat)
    case atStart=>exact⟨0,zL _,rfl,uP _,λ x y=>by simp at y⟩
    case round=>
     obtain⟨k,hk,rfl,y,b4⟩:=hrel;have cu:=Z_ y;have ax:=Z_ (ac.o.trans y);obtain⟨wo,rfl⟩:∃wo:World,wo=wr:=⟨_,rfl⟩
     clear y
     by_cases af:k<nl
     ·obtain⟨⟨p,x⟩,hp⟩:=ZN (l:=L) (j:=k) (by rw[<-HN.o.1];exact af);obtain⟨bl,ol,vp,rfl,-,hl2,hl3,-,-,h1,-,h3⟩:=(HL.o.on ax.o).cellAt hp;simp only at h1 h3;have ba:=Z_ (RG hp);have ad:XO p=false:=aS.o.1 _ (zP hp);have aG:okT p:=h3.okT;have C1:=Z_ (Im h3 (HQ.o.on ax.o) bv.o (NI ad) (λ _=>⟨(Qr aG ad).1.mono (by decide) (by decide),(Qr aG ad).2.le (by decide)⟩));have HH:=Z_ (JD (pts:=pts) aG ad);obtain⟨ap,cp,rfl⟩:=h3.form;obtain⟨np,ar⟩:∃n,n=p.length:=⟨_,rfl⟩
      rw[<-ar]at C1 h1;obtain⟨a,ha⟩:∃z,z=(Vi pts p).1:=⟨_,rfl⟩
      obtain⟨h,hh⟩:∃z,z=(Vi pts p).2:=⟨_,rfl⟩
      rw[<-ha,<-hh]at C1 HH;clear hp h3 ar ha hh ad aG;go_wp2_with fail;(with_reducible refine C1.o.mono ?_);rintro e cC ⟨rfl,O⟩;have ai:=Z_ (ax.o.trans O);have cA:=Z_ (cu.o.trans O);clear O;by_cases e1:h=0
      rotate_left
      ·have q1:(h == 0)=false:=by rw[beq_eq_false_iff_ne];exact e1
       have q2:(h != 0)=true:=by rw[bne_iff_ne];exact e1
       clear e1;go_wp2_with fail;(with_reducible refine(VZ _).mono ?_);rintro e ci ⟨rfl,ag⟩;have ay:=Z_ (ai.o.trans ag);clear ag;go_wp2
       all_goals
        go_ret;exact⟨rfl,ay.o⟩
      subst e1;by_cases e3:a=0
      rotate_left
      ·have q1:(a == 0)=false:=by rw[beq_eq_false_iff_ne];exact e3
       have q2:(a != 0)=true:=by rw[bne_iff_ne];exact e3
       clear e3;go_wp2_with fail;(with_reducible refine(VZ _).mono ?_);rintro e ci ⟨rfl,ag⟩;have ay:=Z_ (ai.o.trans ag);clear ag;go_wp2
       all_goals
        go_ret;exact⟨rfl,ay.o⟩
      subst e3;go_wp2
      go_roundw
      case rel=>
       refine⟨k+1,by omega,by go_num,cA.o,?_⟩;show ∀x∈L.take (k+1),_;rw[ba.o];intro x y
       rcases zC.1 y with y|y
       ·exact b4.o x y
       ·obtain rfl:=zQ.1 y;exact HH.o (by first|exact trivial|rfl) (by first|exact trivial|rfl)
      case measure=>simp only[intOf];omega
     ·obtain rfl:k=nl:=by omega
      have a4:Hd (∀x∈L,ZR x.1=true/\Hyp27 pts (Zt x.1)):=Z_ (by have h:=b4.o;rwa [zN (by rw[<-HN.o.1];exact zR _)]at h);clear af hk;go_wp2_with fail;(with_reducible refine(CN.o _).mono ?_);rintro e w4 ⟨bm,cv⟩;have K:=Z_ (ax.o.trans bm);rcases cv with ⟨-,kb,b3,av,rfl⟩|⟨cr,rfl⟩
      rotate_left
      ·exact absurd MI cr
      have cc:=Z_ av;have bn:=Z_ (zS (zT ax.o.size b3) (Zj av.c0));clear bm b3 av
      cases hmm:Ze L 0 with
      |false=>
       have CR:=Ep (W:=w4) (o:=some kb) (HL.o.on K.o) (λ h hh=>NI (aS.o.1 h hh)) hmm;have cg:Hd (Calls Tryz.prog 8 #[.pointer (some ⟨kb,0,none⟩),.slice al k cl] w4 λ e W'=>e=.returned (.tuple #[.slice none 0 0,.int .i64 0,.int .i64 2])/\Ext w4 W'):=Z_ CR;clear CR hmm;go_wp2_with fail;(with_reducible refine cg.o.mono ?_);rintro e w9 ⟨rfl,bt⟩;have cB:=Z_ (K.o.trans bt);clear bt;go_wp2_with fail;(with_reducible refine(VZ _).mono ?_);rintro e b7 ⟨rfl,D⟩;have aa:=Z_ (cB.o.trans D);clear D;go_wp2
       all_goals
        go_ret;exact⟨rfl,aa.o⟩
      |true=>
       have a0:∀i,i<(XV L).length->Hyp27 pts ((XV L).getD i []):=λ i hi=>by
        obtain⟨x,y⟩:=ZN (l:=L) (j:=i) (by unfold XV at hi;rwa [zE]at hi);rw[(MB y).1];exact(a4.o x (zP y)).2
       have a3:(XV L).length=L.length:=by unfold XV;rw[zE]
       have au:(Wf L).length=(XV L).length:=by unfold XV Wf;rw[zE,zE]
       have aP:(XV L).length<=1000:=by rw[a3];have:=aS.o.2;omega
       have b6:∀x∈L,x.1=Z5 (Zt x.1):=λ x y=>by
        obtain⟨j,hj⟩:=yp y;obtain⟨b,off,-,hc⟩:=HL.o;obtain⟨-,vp,-,-,ht⟩:=hc j x hj;exact Oj ht (a4.o x y).1
       have aF:(MSt.new 20 50 500 0).Ok/\(MSt.new 20 50 500 0).fu<=20:=⟨Hj MI,by decide⟩
       have CD:=K3 (W:=w4) (o:=some kb) (s:=MSt.new 20 50 500 0) (vl:=.slice al k cl) (L:=L) (ps:=XV L) (pts:=Wf L) (I:=λ s=>s.Ok/\s.fu<=20) (k:=2) (N:=5) (λ j hj=>by cases hj;exact⟨cc.o,aF.1⟩)
        (HL.o.to (uM K.o (λ _ h=>h)) (λ i hi=>⟨zU hi K.o.size,λ e=>by have h1:i<W.heap.size:=hi;have h2:=Option.some.inj e;have h3:=bn.o.1;omega⟩))
        (Fa b6) hmm aP (λ i hi=>(a0 i hi).fit) (by decide) (by decide) (by decide) (by decide) (Gm a0 aP) aF
       have a6:(Zb (some kb) (MSt.new 20 50 500 0) (XV L) (Wf L)).1=0->∀d∈(Zb (some kb) (MSt.new 20 50 500 0) (XV L) (Wf L)).2.2.1,Good27 pts d:=λ h=>Hr a0 aP au _ _ _ _ aF (λ d hd=>by cases hd) h;obtain⟨Z,hZ⟩:∃Z,Z=Zb (some kb) (MSt.new 20 50 500 0) (XV L) (Wf L):=⟨_,rfl⟩
       rw[<-hZ]at CD a6;have cz:=Z_ a6;have cx:Hd (Calls Tryz.prog 8 #[.pointer (some ⟨kb,0,none⟩),.slice al k cl] w4 (LJ w4 (some kb) Z)):=Z_ CD;clear hmm a0 a3 au aP b6 aF a6 hZ CD;go_wp2_with fail;(with_reducible refine cx.o.mono ?_);rintro e aj ⟨vs,rfl,-,U,ae⟩;obtain⟨az,cs,rfl⟩:=ae.form;obtain⟨ns,aR⟩:∃n,n=Z.2.2.1.length:=⟨_,rfl⟩
       obtain⟨zf,bB⟩:∃z,z=Z.2.2.2:=⟨_,rfl⟩
       obtain⟨ze,a5⟩:∃z,z=Z.1:=⟨_,rfl⟩
       rw[<-aR]at ae⊢;rw[<-bB,<-a5];have bA:=ae.len_le;rw[<-aR]at bA;have bx:Hd (Ders (Z2 aj) aj (.slice az ns cs) Z.2.2.1):=Z_ (ae.to (uN _ _) (λ _ h=>h.1));have ce:=Z_ aR;have cj:=Z_ a5;have bf:Hd (W.heap.size<=aj.heap.size):=Z_ (zT K.o.size U.size);have ch:Hd (Kept (Z2 W) W aj):=Z_ (λ i hi=>(U.block i (zU hi K.o.size) (λ e=>by have h1:i<W.heap.size:=hi;have h2:=Option.some.inj e;have h3:=bn.o.1;omega)).trans (K.o.block i hi));have bu:Hd (Ext W aj):=Z_ ⟨U.os.trans K.o.os,U.tape.trans K.o.tape,U.output.trans K.o.output,bf.o,ch.o⟩;clear U ae a5 aR bB;by_cases aH:ze=0
       rotate_left
       ·have q1:(ze == 0)=false:=by rw[beq_eq_false_iff_ne];exact aH
        have q2:(ze != 0)=true:=by rw[bne_iff_ne];exact aH
        go_wp2_with fail;(with_reducible refine(VZ _).mono ?_);rintro e b7 ⟨rfl,D⟩;have aa:=Z_ (bu.o.trans D);clear D;go_wp2
        all_goals
         go_ret;exact⟨rfl,aa.o⟩
       have cd:=Z_ (cz.o (cj.o.symm.trans aH));subst aH;go_wp2
       go_loopw [91] (λ i wr=>∃k:Nat,k<=ns/\i=.int .i64 (k:Nat)/\Ext aj wr) (λ i _=>ns-(intOf i).toNat)
       case atStart=>exact⟨0,zL _,rfl,uP _⟩
       case round=>
        obtain⟨j,hj,rfl,y⟩:=hrel;have bN:=Z_ y;have bb:=Z_ (bu.o.trans y);obtain⟨wi,rfl⟩:∃wi:World,wi=wr:=⟨_,rfl⟩
        clear y
        by_cases af:j<ns
        ·obtain⟨d,hd⟩:=ZN (l:=Z.2.2.1) (j:=j) (by rw[<-ce.o];exact af);obtain⟨bs,os,vm,vp,vb,rfl,-,hs2,hs3,-,d0,d1,d2,d3,g1,g2,g3⟩:=(bx.o.on bN.o).cellAt hd;have aA:=cd.o d (zP hd);have C1:=Z_ (λ(Y:World) (hY:Ext wi Y)=>MD (z06.on g2 hY) (HQ.o.on (bb.o.trans hY)) bv.o (aA.fit.mono (by decide) (zR _)) aA.ex);rw[(Nn aA).1,(Nn aA).2]at C1;obtain⟨am,cm,rfl⟩:=g1.form;obtain⟨ap,cp,rfl⟩:=g2.form;obtain⟨ab,cb,rfl⟩:=g3.form;obtain⟨nm,b1⟩:∃n,n=(Z8 d.N).mag.length:=⟨_,rfl⟩
         obtain⟨np,ar⟩:∃n,n=(Z5 d.P).length:=⟨_,rfl⟩
         obtain⟨nb,b2⟩:∃n,n=(d.By.map Z5).length:=⟨_,rfl⟩
         obtain⟨bg,ad⟩:∃n,n=(Z8 d.N).neg:=⟨_,rfl⟩
         rw[<-b1]at d1;rw[<-ar]at d2 C1;rw[<-b2]at d3;rw[<-ad]at d0;clear hd aA g1 g2 g3 b1 ar b2 ad;go_wp2_with fail;(with_reducible refine(C1.o _ ((uP _).alloc _)).mono ?_);rintro e cC ⟨rfl,O⟩;have ai:=Z_ (bN.o.trans (((uP _).alloc _).trans O));clear O;go_wp2
         go_roundw
         case rel=>exact⟨j+1,by omega,by go_num,ai.o⟩
         case measure=>simp only[intOf];omega
        ·obtain rfl:j=ns:=by omega
         clear af hj;go_wp2_with fail;(with_reducible refine(VZ _).mono ?_);rintro e b7 ⟨rfl,D⟩;have aa:=Z_ (bb.o.trans D);clear D;go_wp2
         all_goals
          go_ret;exact⟨rfl,aa.o⟩
end
section
open Go.RowKit Go.Deep Go.ChangeShapes Go.WideShapes Go.ChangeAt
theorem Ba(os:Os)(started:os.Started)(H:Type)(enc:TypeId×Value->H) :
  ReturnsInHanded {} Tryz.checked os 3 .any (Rows.trianglePointsSpec.pre6 enc Tryz.prog Tryz.f3 Rows.trianglePointsRow.domain false) (Rows.trianglePointsSpec.post enc Tryz.prog Tryz.f3 false true false false):=by
 refine returnsInHanded_of_change_sized (C:=Tryz.checked) Tryz.own started (by kernel_rfl) Tryz.func3
  (ChangeSpec.witness6 (enc:=enc) (C:=Tryz.checked) false ⟨#[],#[.slice none 0 0,.slice none 0 0],[]⟩ 8 (by kernel_rfl) (by kernel_rfl) (by kernel_rfl) (by kernel_rfl)) ?_
 intro W base args ds gs before z hW _ _ _;have y:∀(j:Nat) t v,Tryz.f3.params[j]? = some t->args[j]? = some v->Value.okWide Tryz.prog W .any base t v:=z;have K:=hW;obtain⟨p,q,J,hV,_,_,_⟩:=K;have Z:DataW.TrodAll enc Tryz.prog W 0 (λ _=>true) true Tryz.f3.params.toList args.toList ds p:=J;rw[Tryz.params3]at Z y;obtain⟨v0,v1,d0,d1,p0,p1,rfl,rfl,rfl,h0,h1⟩:=trodAll_two Z;obtain⟨rfl,rfl⟩:=trodVars_none hV;obtain⟨fuel0,I⟩:=h0;rw[Mi Tryz.underlying22 (y 0 _ v0 rfl rfl)]at I;obtain⟨x0,U⟩:=Gu I;obtain⟨fuel1,D⟩:=h1;rw[Mi Tryz.underlying23 (y 1 _ v1 rfl rfl)]at D;obtain⟨x1,O⟩:=J8 D;refine(BJ U O).mono λ e W' h=>?_;obtain⟨rfl,hb⟩:=h;exact⟨_,rfl,GC hW rfl rfl rfl (by rw[Tryz.params3];intro t X;simp at X;rcases X with rfl|rfl<;>exact⟨by kernel_rfl,by decide +kernel⟩) hb⟩
theorem trianglepoints_holds:Rows.TrianglePointsSaid :=
 OpenClaim.holds_of_wide 3 Tryz.f3 rfl rfl rfl rfl rfl rfl rfl ⟨rfl,rfl,rfl,rfl,rfl⟩ rfl rfl rfl rfl rfl (by kernel_rfl) Tryz.func3 (by kernel_rfl)
  (of_decide_eq_true (by kernel_rfl)) (by unfold Func.isWrapper;first|(rw[if_pos (by decide +kernel)];kernel_rfl)|(rw[if_neg (by decide +kernel)];exact⟨rfl,rfl⟩))
  (λ os started H enc _=>Ba os started H enc)
end
end Go.Proofs.YtlbohjnfkhemlaaGreat
