/- triangle.Of. -/
import Derived.WalkMore
import Derived.SizedLaws
import Derived.Test.YtlbohjnfkhemlaaGreatTp14
set_option maxRecDepth 100000
set_option maxHeartbeats 16000000
namespace Go.Proofs.YtlbohjnfkhemlaaGreat
section
open Go.RowKit Go.Deep
theorem RA{ps:List PZ}{i k n:Nat}(h:Fit k n (ps.getD i [])):Fit k n (Zo ps i).P:=h.whole
theorem DR{o:Option Nat}{s:MSt}{f:DZ}{ls:List DZ}(Q:RestQFit o s f ls)(h:(YP o s f ls).1=0):∃k n,Fit k n (YP o s f ls).2.2.P/\k<=1000000:=by
 unfold YP at h⊢
 by_cases z:(Zw o s f ls).1≠0
 ·rw[if_pos z]at h;exact absurd h z
 rw[if_neg z]at h⊢
 by_cases y:(YN o s f ls).1.1≠0
 ·rw[if_pos y]at h;exact absurd h y
 rw[if_neg y];obtain⟨k,n,K,D,-,-,-,hK,-⟩:=Q.short (zx.1 z) (zx.1 y);exact⟨k,n,D.whole,by omega⟩
theorem Gz{o:Option Nat}{s:MSt}{f g:DZ}{k1 n1 k2 n2:Nat}(Q:T9 o s f g)(ff:Fit k1 n1 f.P)(fg:Fit k2 n2 g.P)(h1:k1<=1000000)(h2:k2<=1000000):∀d∈(YB o s f g).2.2,∃k n,Fit k n d.P/\k<=1000000:=by
 have z:∀d,d=(YX (ZY f) f g).2->∃k n,Fit k n d.P/\k<=1000000:=λ d y=>by
  unfold YX at y
  split at y
  ·rw[y];exact⟨_,_,ff,h1⟩
  ·rw[y];exact⟨_,_,fg,h2⟩
 intro d y;unfold YB at y
 by_cases D:ZY f≠ZY g
 ·rw[if_pos D]at y;simp only at y
  split at y
  ·rcases zJ.1 y with rfl|y
   ·exact⟨_,_,fg,h2⟩
   ·rw[zQ.1 y];exact⟨_,_,ff,h1⟩
  ·rcases zJ.1 y with rfl|y
   ·exact⟨_,_,ff,h1⟩
   ·rw[zQ.1 y];exact⟨_,_,fg,h2⟩
 rw[if_neg D]at y
 by_cases J:ZY f=0
 ·rw[if_pos J]at y
  rcases zJ.1 y with rfl|y
  ·exact⟨_,_,ff,h1⟩
  ·rw[zQ.1 y];exact⟨_,_,fg,h2⟩
 rw[if_neg J]at y
 by_cases I:(YP o s (YX (ZY f) f g).1 [(YX (ZY f) f g).2]).1≠0
 ·rw[if_pos I]at y
  cases y
 ·rw[if_neg I]at y
  rcases zJ.1 y with rfl|y
  ·exact DR (Q (zx.1 D) J) (zx.1 I)
  ·exact z d (zQ.1 y)
structure HypL (L:List (List RTerm×Int)) (ps:List PZ) (pts:List Int):Prop where
 l1:L.length=ps.length
 l2:pts.length=ps.length
 at':∀i,i<ps.length->L[i]? = some (Z5 (ps.getD i []),pts.getD i 0)
def LJ(W:World)(o:Option Nat)(X:Int×MSt×List DZ×Int):Ending->World->Prop:=λ e W'=>∃v,e=.returned (.tuple #[v,.int .i64 X.2.2.2,.int .i64 X.1])/\MV W' o X.2.1/\W.grownBy W' o/\Ders (NB o W') W' v X.2.2.1
theorem z4{pts:List Int}{a e:Nat}(h1:a<=e)(h2:e<Zc pts a):pts.getD e 0=pts.getD a 0/\e<pts.length:=by
 unfold Zc at h2;have h:=A0 (x:=pts.getD a 0) (l:=pts.drop a) (j:=e-a) (by omega);rw[yx,show a+(e-a)=e by omega]at h;exact⟨by rw[zH,h];rfl,Zy h⟩
theorem As(pts:List Int){a:Nat}(h:a<=pts.length):a<=Zc pts a/\Zc pts a<=pts.length:=by
 unfold Zc;have h1:=OO (pts.getD a 0) (pts.drop a);rw[yG]at h1;omega
theorem IN{pts:List Int}{a:Nat}(h2:Zc pts a<pts.length):pts.getD (Zc pts a) 0≠pts.getD a 0:=by
 have z:pts[Zc pts a]? = some (pts.getD (Zc pts a) 0):=by
  rw[zH,zi h2];rfl
 generalize hy:pts.getD (Zc pts a) 0=y at z⊢;unfold Zc at z;exact Je (l:=pts.drop a) (by rw[yx];exact z)
theorem IW{pts:List Int}{a:Nat}(h:a<pts.length):a<Zc pts a:=by
 unfold Zc;rw[yr h,zan,if_pos (by rw[zH,zi h];rfl)];omega
theorem zyw(ps:List PZ)(pts:List Int)(a:Nat):(ownT ps pts a).length=Zc pts a-a:=by simp[ownT]
theorem RB{ps:List PZ}{pts:List Int}{a j:Nat}(h:j<Zc pts a-a):(ownT ps pts a)[j]? = some (Zo ps (a+j)):=by
 simp[ownT,h]
theorem zY(o:Option Nat)(s:MSt)(f g:DZ){Y:Int×MSt×List DZ}(h:Y=YB o s f g):Y.2.2.length<=2:=by
 rw[h];unfold YB
 by_cases z:ZY f≠ZY g
 ·rw[if_pos z];show(ite _ _ _:List DZ).length<=2
  split<;>exact zR _
 rw[if_neg z]
 by_cases y:ZY f=0
 ·rw[if_pos y];exact zR _
 rw[if_neg y]
 by_cases D:(YP o s (YX (ZY f) f g).1 [(YX (ZY f) f g).2]).1≠0
 ·rw[if_pos D];exact zL _
 ·rw[if_neg D];exact zR _
abbrev PR(o:Option Nat)(w:World)(v:Value):Nat->Prop:=λ k=>NB o w k/\some k≠v.ownBlock
theorem RC{W wx Y w5 wv:World}{o:Option Nat}{s2:MSt}{set v5 OWN:Value}{n:Nat}{zs ds:List Value}{l own':List DZ}{d:DZ}{T:TypeId}(hM:MV wx o s2)(hG:W.grownBy wx o)(hW:wx.ownsRow W.heap.size T 4 set n zs)(hY:z29 (PR o wx set) wx zs l)
  (hD:Ders (PR o wx set) wx OWN own') (hd:z29 (PR o wx set) wx ds [d]) (hxY:Ext wx Y) (hg:Y.grownBy w5 set.ownBlock) (hbk:v5.ownBlock=set.ownBlock∨v5.ownBlock=some Y.heap.size) (hown:w5.ownsRow W.heap.size T 4 v5 (n+1) (zs++ds)) (h5:Ext w5 wv) (hob:∀b,o=some b->b<W.heap.size) :
  wv.ownsRow W.heap.size T 4 v5 (n+1) (zs++ds)/\z29 (PR o wv v5) wv (zs++ds) (l ++ [d])/\Ders (PR o wv v5) wv OWN own'/\MV wv o s2/\W.grownBy wv o:=by
 have D:wx.heap.size<=wv.heap.size:=zT hxY.size (zT hg.size h5.size);have y:Kept (PR o wx set) wx wv:=λ k y=>(h5.block k (zU y.1.1 (zT hxY.size hg.size))).trans ((hg.block k (zU y.1.1 hxY.size) y.2).trans (hxY.block k y.1.1))
 have I:∀k,PR o wx set k->PR o wv v5 k:=λ k y=>⟨⟨zU y.1.1 D,y.1.2⟩,by
  rcases hbk with e|e
  ·rw[e];exact y.2
  ·rw[e];intro J;have e3:=Option.some.inj J;have e4:=y.1.1;have e5:=hxY.size
   omega⟩
 have z:∀b,some b=set.ownBlock->W.heap.size<=b:=λ b e=>(hW.lt b e.symm).1
 refine⟨Zp hown h5,(hY.to y I).append (hd.to y I),hD.to y I,?_,?_⟩
 ·refine MV.ext ?_ h5;exact Pc (hM.ext hxY) hg (λ b hb e=>by have:=hob b hb;have:=z b e;omega)
 ·refine YV ?_ (Y7 h5 o);exact((Xf (YV hG (Y7 hxY o))).onrow hg (λ r e=>z r e.symm)).gbo
theorem Dn{α:Type}{l:List α}(h:l.length=2):∃f g,l=[f,g]:=by
 match l,h with
 | [f,g],_=>exact⟨f,g,rfl⟩
theorem K3{W:World}{o:Option Nat}{s:MSt}{vl:Value}{L:List (List RTerm×Int)}{ps:List PZ}{pts:List Int}{I:MSt->Prop}{k N:Nat}(hM:MV W o s)(hl:Hyps (NB o W) W vl L)(hL:HypL L ps pts)(hmay:Ze L 0=true)(hn:ps.length<=1000)
  (fP:∀i,i<ps.length->Fit k N (ps.getD i [])) (h1k:1<=k) (h1N:1<=N) (hk:k<24) (hN:N<=1000000000) (hT:Ur o ps I) (hI:I s) :
  Calls Tryz.prog 8 #[ZK o,vl] W (LJ W o (Zb o s ps pts)):=by
 have hnot:∀(x:Bool) (w:World),(Op.unary .not (.bool x)).run Tryz.prog w=.ok (.bool (!x)) w:=λ _ _=>rfl;obtain⟨X,hX⟩:∃X,X=Zb o s ps pts:=⟨_,rfl⟩
 have HX:=Z_ hX;rw[<-hX]
 have g8:∀h∈L,Yk h.1:=λ h hh=>by
  obtain⟨i,hi,rfl⟩:=List.getElem_of_mem hh;have h2:=hL.at' i (by rw[<-hL.l1];exact hi);rw[zi hi]at h2;rw[Option.some.inj h2];exact(fP i (by rw[<-hL.l1];exact hi)).small (by omega)
 have cx:=Nm (S:=NB o W) vl L W hl (λ _ h=>h.1) g8;rw[hmay]at cx;have HM:=Z_ hM;have HL:=Z_ hl;have cy:=Z_ hL;have c8:=Z_ fP;have HT:=Z_ hT;have HI:=Z_ hI;have a7:=Z_ (zS h1k (zS h1N (zS hk (zS hN hn))));have aN:=Z_ (λ b hb=>hM.block (b:=b) hb);obtain⟨al,cl,rfl⟩:=hl.form;obtain⟨n,a2⟩:∃n,n=L.length:=⟨_,rfl⟩
 rw[<-a2]at HL cx;rw[<-a2];have HN:Hd (n=ps.length/\n=pts.length/\n<=1000):=Z_ ⟨by rw[a2,hL.l1],by rw[a2,hL.l1,hL.l2],by rw[a2,hL.l1];exact hn⟩;have hy:=Z_ cx;obtain⟨vm,cF⟩:∃x,x=ZK o:=⟨_,rfl⟩
 obtain⟨am,rfl⟩:∃a,vm=.pointer a:=⟨_,cF⟩
 have jb:=Z_ cF;rw[<-cF];have hn9:n<=9223372036854775807:=by have:=HN.o.2.2;omega
 clear hM hl hL hmay hn fP h1k h1N hk hN hT hI hX g8 cx a2 cF
 go_enter Tryz.func8,Tryz.ntmps8
 go_wp2;go_step3;go_wp2_with fail;(with_reducible refine hy.o.mono ?_);rintro e w1 ⟨rfl,aA⟩;have h7:=Z_ aA;have hp:=Z_ (HM.o.ext aA);clear aA;go_wp2;go_step3;go_wp2
 go_loopw [4,7,8] (λ u4 u7 u8 wr=>∃(at' ap:Nat) (a:List DZ×Int) (s1:MSt) (xs:List Value),at'<=n/\u8=.int .i64 (at':Nat)/\u7=.int .i64 a.2/\Hd (MV wr o s1)/\Hd (W.grownBy wr o)/\Hd (I s1)/\Hd (triL o ps pts ap at' a s1=X)/\Hd (n-at'<ap)/\Hd (wr.ownsRow W.heap.size 48 4 u4 a.1.length xs)/\Hd (z29 (λ k=>NB o wr k/\some k≠u4.ownBlock) wr xs a.1)/\Hd (a.1.length<=at')) (λ _ _ i _=>n-(intOf i).toNat)
 case atStart=>
  refine⟨0,pts.length+1,([],0),s,[],zL _,rfl,rfl,hp,Z_ (Y7 h7.o o),HI,Z_ HX.o.symm,Z_ (by have:=HN.o.2.1;omega),World.ownsRow_nil _ _ _ _,rfl,Z_ (zR _)⟩
 case round=>
  rename World=>wo
  obtain⟨O,ap,a,s1,xs,ha,rfl,rfl,gN,bN,f4,gl,gg,co,fq,fr⟩:=hrel;obtain⟨sa,sn,sc,rfl⟩:=Tu co.o;obtain⟨k',rfl⟩:∃k',ap=k'+1:=⟨ap-1,by have:=gg.o;omega⟩
  by_cases hlt:O<n
  ·obtain⟨E,hE⟩:∃E,E=Zc pts O:=⟨_,rfl⟩
   have hE1:O<E:=by rw[hE];exact IW (by have:=HN.o.2.1;omega)
   have jp:E<=n:=by rw[hE,HN.o.2.1];exact(As pts (by have:=HN.o.2.1;omega)).2
   have HE:=Z_ hE;obtain⟨m,hm⟩:∃m,m=E-O:=⟨_,rfl⟩
   have aH:=Z_ hm;have aC:Hd ((ownT ps pts O).length=m):=Z_ (by rw[zyw,hm,hE]);have ae:=gl.o;rw[triL,if_neg (by have:=HN.o.2.1;omega),<-hE]at ae;have df:=Z_ ae;have hZ:=Z_ (HL.o.to (λ k hk=>bN.o.block k hk.1 hk.2) (λ k hk=>⟨zU hk.1 bN.o.size,hk.2⟩):Hyps (NB o wo) wo (.slice al n cl) L);obtain⟨x0,fG⟩:∃x,x=pts.getD O 0:=⟨_,rfl⟩
   have cg:=Z_ fG;clear ae hm hE fG;go_wp2
   go_loopw [9,10] (λ u9 u10 wr=>∃(K:Nat) (ys:List Value),O<=K/\K<=E/\u9=.int .i64 (K:Nat)/\Hd (Ext wo wr)/\Hd (wr.ownsRow wo.heap.size 48 4 u10 (K-O) ys)/\Hd (z29 (λ k=>wo.heap.size<=k/\k<wr.heap.size/\some k≠u10.ownBlock) wr ys ((ownT ps pts O).take (K-O)))) (λ u9 _ _=>E-(intOf u9).toNat)
   case atStart=>
    refine⟨O,[],zR _,by omega,rfl,Z_ (uP _),?_,?_⟩
    ·rw[xZ];exact Z_ (World.ownsRow_nil _ _ _ _)
    ·rw[xZ];exact Z_ rfl
   case round=>
    rename World=>wk
    obtain⟨K,ys,h8,he2,rfl,d8,g5,i7⟩:=hrel;obtain⟨oa,on,oc,rfl⟩:=Tu g5.o;have dz:=Z_ (hZ.o.to (uM d8.o (λ _ h=>h.1)) (λ k hk=>⟨zU hk.1 d8.o.size,hk.2⟩):Hyps (NB o wk) wk (.slice al n cl) L);obtain⟨t,ht⟩:∃t:Bool,t=decide (K<E):=⟨_,rfl⟩
    have cm:=Z_ ht;clear ht
    go_upto_region 7 with fail
    go_cut [37] (λ c wx=>c=.bool t/\Hd (Ext wk wx))
    case first=>
     obtain⟨b0,o0,v0,a8,-,-,-,-,-,-,c1,-⟩:=dz.o.cellAt (cy.o.at' O (by have:=HN.o.1;omega));subst a8;simp only at c1;rw[<-cg.o]at c1;have L0:=λ Y:Later wk=>Y.h.cell c1
     by_cases gk:K<n
     ·obtain⟨b2,o2,v2,a8,-,-,-,-,-,-,c2,-⟩:=dz.o.cellAt (cy.o.at' K (by have:=HN.o.1;omega));obtain⟨rfl,rfl⟩:b0=b2/\o0=o2:=by simpa using a8
      simp only at c2;have L1:=λ Y:Later wk=>Y.h.cell c2;have q1:(K:Int)<(n:Int):=by omega
      have q2:decide ((K:Int)<(n:Int))=true:=decide_eq_true q1;have q3:decide (K<n)=true:=decide_eq_true gk;obtain⟨x1,aA⟩:∃x,x=pts.getD K 0:=⟨_,rfl⟩
      rw[<-aA]at c2 L1
      have q4:(x1 == x0)=t:=by
       rw[aA,cg.o,cm.o]
       by_cases h:K<E
       ·rw[(z4 h8 (by rw[<-HE.o];exact h)).1,decide_eq_true h];exact beq_self_eq_true _
       ·obtain rfl:K=E:=by omega
        rw[decide_eq_false h,beq_eq_false_iff_ne,HE.o];exact IN (by rw[<-HE.o,<-HN.o.2.1];exact gk)
      have el:=Z_ q4;clear c1 c2 aA a8 q4;go_wp2;refine Zh (by kernel_rfl) (by kernel_rfl) ?_
      repeat (go_big_quiet_step (fail))
      refine wpQuiet_nil ?_;intro wq a5;clear L0 L1 q2 q3;go_wp2_with fail
      go_meet
      exact⟨by first|(rw[<-el.o];rfl)|rw[el.o]|simp[el.o],Z_ a5⟩
     ·obtain rfl:K=n:=by omega
      have ho:t=false:=by rw[cm.o];exact decide_eq_false (by omega)
      have q1:¬ (K:Int)<(K:Int):=by omega
      subst ho;clear c1 L0;go_wp2;refine Zh (by kernel_rfl) (by kernel_rfl) ?_
      repeat (go_big_quiet_step (fail))
      refine wpQuiet_nil ?_;intro wq a5;go_wp2_with fail
      go_meet
      exact⟨by rfl,Z_ a5⟩
    case rest=>
     rename World=>wz
     obtain⟨rfl,aP⟩:=hcut;have av:=Z_ (d8.o.trans aP.o);have bB:=Z_ (Zp g5.o aP.o);have ba:Hd (z29 (λ k=>wo.heap.size<=k/\k<wz.heap.size/\some k≠(Value.slice oa on oc).ownBlock) wz ys ((ownT ps pts O).take (K-O))):=Z_ (i7.o.to (uM aP.o (λ k h=>h.2.1)) (λ k h=>⟨h.1,zU h.2.1 aP.o.size,h.2.2⟩));have i8:=Z_ (dz.o.to (S':=Z2 wz) (uM aP.o (λ _ h=>h.1)) (λ k hk=>zU hk.1 aP.o.size))
     cases t with
     |true=>
      have hP:K<E:=of_decide_eq_true cm.o.symm;have fd:=Z_ (Js (W:=wz) i8.o HN.o.1 (cy.o.at' K (by have:=HN.o.1;omega)) (by omega) (c8.o K (by have:=HN.o.1;omega)) a7.o.1 a7.o.2.1 a7.o.2.2.1 a7.o.2.2.2.1 HN.o.2.2)
      have cz:Hd ((ownT ps pts O).take (K+1-O)=(ownT ps pts O).take (K-O) ++ [Zo ps K]):=Z_ (by
       rw[show K+1-O=K-O+1 by omega,zv,RB (by rw[<-HE.o];omega),show O+(K-O)=K by omega]
       rfl)
      obtain⟨j1,aR⟩:∃j,j=K-O:=⟨_,rfl⟩
      have ci:Hd (K+1-O=j1+1/\j1<=1000000000):=Z_ (by have:=HN.o.2.2;omega);rw[<-aR]at bB ba cz;rw[ci.o.1]at cz;obtain⟨D,hD⟩:∃D,D=Zo ps K:=⟨_,rfl⟩
      rw[<-hD]at fd cz;clear aR hD;go_wp2_with fail;(with_reducible refine fd.o.mono ?_);rintro e w2 ⟨v2,rfl,⟨vn2,f1,fF,rfl,dt,er,ei⟩,bn⟩;have aB:=z29.single dt er ei;obtain⟨i1,cr,rfl⟩:=dt.form;obtain⟨i2,ct,rfl⟩:=er.form;obtain⟨i3,cR,rfl⟩:=ei.form;obtain⟨m1,eo⟩:∃z,z=(Z8 D.N).mag.length:=⟨_,rfl⟩
      obtain⟨m2,eu⟩:∃z,z=(Z5 D.P).length:=⟨_,rfl⟩
      obtain⟨m3,a4⟩:∃z,z=(D.By.map Z5).length:=⟨_,rfl⟩
      obtain⟨g1,d5⟩:∃z,z=(Z8 D.N).neg:=⟨_,rfl⟩
      rw[<-eo,<-eu,<-a4,<-d5]at aB;rw[<-eo,<-eu,<-a4,<-d5];have bg:=Z_ aB;have fA:=Z_ (av.o.trans bn);have fR:=Z_ (Zp bB.o bn)
      have kp:Hd (z29 (λ k=>wo.heap.size<=k/\k<w2.heap.size/\some k≠(Value.slice oa on oc).ownBlock) w2 (ys++(#[.bool g1,.slice i1 m1 cr,.slice i2 m2 ct,.slice i3 m3 cR]:Array Value).toList) ((ownT ps pts O).take j1 ++ [D])):=Z_ ((ba.o.to (uM bn (λ k h=>h.2.1)) (λ k h=>⟨h.1,zU h.2.1 bn.size,h.2.2⟩)).append (bg.o.to (uN _ _) (λ k h=>⟨zT av.o.size h.1,h.2,λ e=>by
       have q1:=(bB.o.lt k e.symm).2;have q2:=h.1
       omega⟩)))
      have ce:Hd (∀u∈(#[.bool g1,.slice i1 m1 cr,.slice i2 m2 ct,.slice i3 m3 cR]:Array Value).toList,u.oneCell'=true):=Z_ bg.o.one;clear dt er ei bn aB eo eu a4 d5 fd;go_wp2_with (at_builtin;refine XK _ rfl (.tmp 38) (.tmp 42) 43 rfl wo.heap.size 48 (.agg #[.bool false,.slice none 0 0,.slice none 0 0,.slice none 0 0]) 4 80 Tryz.underlying43 Tryz.infoDer rfl (by decide) _ j1 ys rfl fR.o #[.bool g1,.slice i1 m1 cr,.slice i2 m2 ct,.slice i3 m3 cR] rfl ce.o rfl ci.o.2 (by decide) fA.o.size ?_;intro v4 w4 y hg ad;have eg:=Z_ y;have eh:=Z_ hg;have hf:=Z_ ad;clear y hg ad)
      go_roundw
      case rel=>
       refine⟨K+1,ys++(#[.bool g1,.slice i1 m1 cr,.slice i2 m2 ct,.slice i3 m3 cR]:Array Value).toList,by omega,by omega,by go_num,Z_ (XH fA.o fR.o eh.o),?_,?_⟩
       ·rw[ci.o.1];exact eg
       ·rw[ci.o.1,cz.o];refine Z_ (kp.o.to (uJ eh.o (λ k h=>⟨h.2.1,h.2.2⟩)) (λ k h=>⟨h.1,zU h.2.1 eh.o.size,?_⟩))
        rcases hf.o with e|e
        ·rw[e];exact h.2.2
        ·rw[e];intro e2;have e3:=Option.some.inj e2;have e4:=h.2.1;omega
      case measure=>simp only[intOf];omega
     |false=>
      have hP:¬ K<E:=of_decide_eq_false cm.o.symm;obtain rfl:K=E:=by omega
      rw[<-aH.o]at bB ba;rw[zN (by rw[aC.o];exact zR _)]at ba;obtain⟨own,y⟩:∃own,own=ownT ps pts O:=⟨_,rfl⟩
      have b6:=Z_ y;rw[<-y]at ba aC df;clear y;have en:Hd (Ders (λ k=>wo.heap.size<=k/\k<wz.heap.size) wz (.slice oa on oc) own):=Z_ (Qt (by rw[aC.o];exact bB.o) (ba.o.to (uN _ _) (λ k h=>⟨h.1,h.2.1⟩)) (λ k h1 h2=>⟨h1,h2⟩));have h6:Hd (on=m):=Z_ (by obtain⟨a',c',e⟩:=en.o.form;rw[P1 e,aC.o]);have f7:=Z_ (gN.o.ext av.o);have gG:=Z_ (YV bN.o (Y7 av.o o));have hS:=Z_ (Zp co.o av.o);have hA:Hd (z29 (λ k=>NB o wz k/\some k≠(Value.slice sa sn sc).ownBlock) wz xs a.1):=Z_ (fq.o.to (uM av.o (λ k h=>h.1.1)) (λ k h=>⟨⟨zU h.1.1 av.o.size,h.1.2⟩,h.2⟩));have gF:Hd (∀k,some k=(Value.slice sa sn sc).ownBlock->W.heap.size<=k/\k<wo.heap.size):=Z_ (λ k e=>co.o.lt k e.symm);have fg:Hd (∀b,o=some b->b<wo.heap.size):=Z_ (λ b hb=>zU (aN.o b hb) bN.o.size);have jn:=h6.o;subst jn
      go_upto_if 48 with (fail)
      go_cut [4,10] (λ u4 u10 wx=>∃(J:List DZ) (s2:MSt) (b4:Option Addr) (cb:Nat),u4=.slice sa sn sc/\u10=.slice b4 J.length cb/\Hd (Yd o s1 own=(0,s2,J))/\Hd (Ders (λ k=>NB o wx k/\wo.heap.size<=k) wx (.slice b4 J.length cb) J)/\Hd (MV wx o s2)/\Hd (wz.grownBy wx o)/\Hd (I s2)/\Hd (∀d∈J,∃k n,Fit k n d.P/\k<=1000000)/\Hd (J.length<=on))
      case first=>
       by_cases h2:on=2
       ·subst h2;obtain⟨f,g,bb⟩:=Dn aC.o
        have db:f=Zo ps O:=by
         have h:=RB (ps:=ps) (pts:=pts) (a:=O) (j:=0) (by have:=HE.o;have:=aH.o;omega);rw[<-b6.o,bb]at h;exact Option.some.inj h
        have dr:g=Zo ps (O+1):=by
         have h:=RB (ps:=ps) (pts:=pts) (a:=O) (j:=1) (by have:=HE.o;have:=aH.o;omega);rw[<-b6.o,bb]at h;exact Option.some.inj h
        have cB:=en.o;rw[bb]at cB;obtain⟨bw,ow,g2,gu,gv,cj,-,q2,q3,qb,c0,c1,c2,c3,u1,t1,p1⟩:=cB.cellAt (k:=0) rfl;subst cj;obtain⟨hH,hK,jj,f1,fF,cj,-,-,-,-,d0,d1,d2,d3,u2,t2,p2⟩:=cB.cellAt (k:=1) rfl;obtain⟨rfl,rfl⟩:bw=hH/\ow=hK:=by simpa using cj
        simp only[yE,zp,yM]at c0 c1 c2 c3 d0 d1 d2 d3;have ag:=Z_ (show Ext wz wz.drew from uI (uP _));have hF:DerV (λ k=>wo.heap.size<=k/\k<wz.heap.size) wz.drew (.agg #[.bool (Z8 f.N).neg,g2,gu,gv]) f:=DerV.to ⟨_,_,_,rfl,u1,t1,p1⟩ (uM ag.o (λ _ h=>h.2)) (λ _ h=>h);have hG:DerV (λ k=>wo.heap.size<=k/\k<wz.heap.size) wz.drew (.agg #[.bool (Z8 g.N).neg,jj,f1,fF]) g:=DerV.to ⟨_,_,_,rfl,u2,t2,p2⟩ (uM ag.o (λ _ h=>h.2)) (λ _ h=>h);have bv:O+1<ps.length:=by have:=HN.o.1;have:=aH.o;omega
        have cc:=HT.o s1 O f4.o bv;rw[<-db,<-dr]at cc;have fc:Fit k N f.P:=by rw[db];exact RA (c8.o O (by omega))
        have fh:Fit k N g.P:=by rw[dr];exact RA (c8.o (O+1) bv)
        have hk24:=a7.o.2.2.1;have CP:=Fy (W:=wz.drew) (f7.o.ext ag.o) (λ q hq=>(⟨hq.2,λ e=>by have:=fg.o q e.symm;have:=hq.1;omega⟩:NB o wz.drew q)) hF hG fc fh (by omega) (by omega) cc.1;obtain⟨Y,hY⟩:∃Y,Y=YB o s1 f g:=⟨_,rfl⟩
        have dF:=cc.2;have b7:=Gz cc.1 fc fh (show k<=1000000 by omega) (show k<=1000000 by omega);rw[<-hY,<-jb.o]at CP;rw[<-hY]at dF b7;have a9:Hd (Yd o s1 own=Y):=Z_ (by rw[bb,hY];rfl);have ep:=Z_ CP;have hB:=Z_ dF;have i5:=Z_ hY;have hx:=Z_ b7;obtain⟨x1,y1,rfl⟩:=u1.form;obtain⟨x2,y2,rfl⟩:=t1.form;obtain⟨x3,y3,rfl⟩:=p1.form;obtain⟨x4,y4,rfl⟩:=u2.form;obtain⟨x5,y5,rfl⟩:=t2.form;obtain⟨x6,y6,rfl⟩:=p2.form;obtain⟨i1,ar⟩:∃z,z=(Z8 f.N).mag.length:=⟨_,rfl⟩
        obtain⟨i2,ax⟩:∃z,z=(Z5 f.P).length:=⟨_,rfl⟩
        obtain⟨i3,az⟩:∃z,z=(f.By.map Z5).length:=⟨_,rfl⟩
        obtain⟨i4,ay⟩:∃z,z=(Z8 f.N).neg:=⟨_,rfl⟩
        obtain⟨j1,aR⟩:∃z,z=(Z8 g.N).mag.length:=⟨_,rfl⟩
        obtain⟨j2,cG⟩:∃z,z=(Z5 g.P).length:=⟨_,rfl⟩
        obtain⟨j3,e6⟩:∃z,z=(g.By.map Z5).length:=⟨_,rfl⟩
        obtain⟨j4,ed⟩:∃z,z=(Z8 g.N).neg:=⟨_,rfl⟩
        rw[<-ar]at c1;rw[<-ax]at c2;rw[<-az]at c3;rw[<-ay]at c0;rw[<-aR]at d1;rw[<-cG]at d2;rw[<-e6]at d3;rw[<-ed]at d0;rw[<-ar,<-ax,<-az,<-ay,<-aR,<-cG,<-e6,<-ed]at ep;clear bb db dr cB u1 t1 p1 u2 t2 p2 cj hF hG bv cc fc fh CP hY dF b7 ar ax az ay aR cG e6 ed
        have ez:=Z_ (λ(Q:World) (hQ:Ge (λ k=>some k=o) wz Q)=>by
         have hb:Q.heap[bw]? = wz.heap[bw]?:=hQ.block bw qb.2 (λ e=>by have:=fg.o bw e.symm;have:=qb.1;omega);have kc:∀i v,wz.cell? ⟨bw,i,none⟩=some v->Q.cell? ⟨bw,i,none⟩=some v:=λ i v hv=>(World.cell?_of_block hb).trans hv
         exact(⟨kc _ _ c0,kc _ _ c1,kc _ _ c2,kc _ _ c3,kc _ _ d0,kc _ _ d1,kc _ _ d2,kc _ _ d3⟩:(λ Q=>Q.cell? ⟨bw,ow,none⟩=some (.bool i4)/\Q.cell? ⟨bw,ow+1,none⟩=some (.slice x1 i1 y1)/\Q.cell? ⟨bw,ow+2,none⟩=some (.slice x2 i2 y2)/\Q.cell? ⟨bw,ow+3,none⟩=some (.slice x3 i3 y3)/\Q.cell? ⟨bw,ow+4,none⟩=some (.bool j4)/\Q.cell? ⟨bw,ow+4+1,none⟩=some (.slice x4 j1 y4)/\Q.cell? ⟨bw,ow+4+2,none⟩=some (.slice x5 j2 y5)/\Q.cell? ⟨bw,ow+4+3,none⟩=some (.slice x6 j3 y6)) Q))
        clear c0 c1 c2 c3 d0 d1 d2 d3 qb;go_wp2_with fail
        go_region_held3 (λ Q=>Q.cell? ⟨bw,ow,none⟩=some (.bool i4)/\Q.cell? ⟨bw,ow+1,none⟩=some (.slice x1 i1 y1)/\Q.cell? ⟨bw,ow+2,none⟩=some (.slice x2 i2 y2)/\Q.cell? ⟨bw,ow+3,none⟩=some (.slice x3 i3 y3)/\Q.cell? ⟨bw,ow+4,none⟩=some (.bool j4)/\Q.cell? ⟨bw,ow+4+1,none⟩=some (.slice x4 j1 y4)/\Q.cell? ⟨bw,ow+4+2,none⟩=some (.slice x5 j2 y5)/\Q.cell? ⟨bw,ow+4+3,none⟩=some (.slice x6 j3 y6))
         (first
          |with_reducible exact ez.o _ (YR ag.o)
          |with_reducible exact ez.o _ (Xf d9.o)
          |fail)
         (first
          |(go_at_call 21;(with_reducible refine ep.o.mono ?_);rintro e w3 ⟨v3,rfl,a4,f9,d4⟩;have d9:=Z_ (YV (Y7 ag.o o) f9);have f2:=Z_ a4;have f3:=Z_ (d4.to (S':=λ q=>NB o w3 q/\wo.heap.size<=q) (uN _ _) (λ q hq=>⟨hq.1,hq.2.elim (λ h=>h.1) (λ h=>zT av.o.size h)⟩));obtain⟨a3,k3,rfl⟩:=d4.form;obtain⟨e5,ec⟩:∃e,e=Y.1:=⟨_,rfl⟩;obtain⟨m3,aG⟩:∃z,z=Y.2.2.length:=⟨_,rfl⟩;rw[<-aG]at f3;rw[<-ec,<-aG];have bf:=Z_ (zS ec aG);clear a4 f9 d4 ec aG)
          |fail)
        clear ep ez
        by_cases h5:e5=0
        ·subst h5;go_wp2_with fail
         go_meet
         refine⟨Y.2.2,Y.2.1,a3,k3,rfl,by rw[bf.o.2],Z_ (by rw[a9.o,bf.o.1]),?_,f2,d9,Z_ (hB.o bf.o.1.symm),hx,Z_ (zY _ _ _ _ i5.o)⟩;rw[<-bf.o.2];exact f3
        ·have hX:X=(e5,Y.2.1,[],0):=by
          have h:=df.o;rw[a9.o,<-bf.o.1,if_pos h5]at h;exact h.symm
         have b3:=Z_ hX;have q5:(e5 != 0)=true:=by rw[bne_iff_ne];exact h5
         have q6:(e5 == 0)=false:=by rw[beq_eq_false_iff_ne];exact h5
         clear h5 hX;go_wp2
         all_goals
          rw[Exit.noGoto_ret];refine bodyPost_ret (by first|(simp[results,Tryz.results8,go_sem];rfl)|simp[results,Tryz.results8,go_sem]) rfl ?_;rw[b3.o];exact⟨_,rfl,f2.o,YV gG.o d9.o,Ders.nilv _ _ _ _ (by decide)⟩
       ·have fl:Yd o s1 own=(0,s1,own):=by
         unfold Yd
         split
         ·rename_i f g
          exact absurd aC.o (by simp only[zM,zo];omega)
         ·rfl
        have a9:=Z_ fl;have q1:((on:Int) == 2)=false:=by rw[beq_eq_false_iff_ne];omega
        have q2:decide (on=2)=false:=decide_eq_false h2;have dm:=Z_ aC.o;clear fl;go_wp2_with fail
        go_meet
        exact⟨own,s1,oa,oc,rfl,by rw[dm.o],a9,by rw[dm.o];exact Z_ (en.o.to (uN _ _) (λ k h=>⟨⟨h.2,λ e=>by have:=fg.o k e.symm;have:=h.1;omega⟩,h.1⟩)),f7,Z_ (WY _ _),f4,Z_ (λ d hd=>by
         rw[b6.o]at hd;unfold ownT at hd;obtain⟨j,hj,rfl⟩:=zG.1 hd;have cG:=List.mem_range.1 hj;have jp:=HE.o
         exact⟨_,_,RA (c8.o (O+j) (by have:=HN.o.1;omega)),by have:=a7.o.2.2.1;omega⟩),Z_ (xC dm.o)⟩
      case rest=>
       rename World=>wy
       obtain⟨J,s2,b4,cb,rfl,rfl,a9,f5,hU,cp,id,hc,ca⟩:=hcut;have ae:=df.o;rw[a9.o,if_neg (λ h=>h rfl)]at ae;simp only at ae;have b1:=Z_ ae
       have gq:(Value.slice sa sn sc).ownBlock=none∨(Value.slice sa sn sc).ownBlock≠o:=by
        cases he:(Value.slice sa sn sc).ownBlock with
        |none=>exact .inl rfl
        |some b=>exact .inr (λ e=>by have h1:=(gF.o b he.symm).1;have h2:=aN.o b e.symm;omega)
       have kB:=Z_ (hS.o.kept cp.o gq);have hz:Hd (z29 (PR o wy (.slice sa sn sc)) wy xs a.1):=Z_ (hA.o.to (λ k hk=>cp.o.block k hk.1.1 hk.1.2) (λ k hk=>⟨⟨zU hk.1.1 cp.o.size,hk.1.2⟩,hk.2⟩));have fp:Hd (Ders (PR o wy (.slice sa sn sc)) wy (.slice b4 J.length cb) J):=Z_ (f5.o.to (uN _ _) (λ k hk=>⟨hk.1,λ e=>by have h1:=(gF.o k e).2;have h2:=hk.2;omega⟩));have fv:=Z_ (YV gG.o cp.o);obtain⟨m',dp⟩:∃m',m'=J.length:=⟨_,rfl⟩
       rw[<-dp]at fp b1 ca⊢;have ft:=Z_ dp;have hm9:m'<=1000:=by have h1:=ca.o;have h2:=HN.o.2.2;have h3:=aH.o;omega
       clear ae gq dp;go_wp2
       go_loopw [4,7,65] (λ u4 u7 u65 wr=>∃(j:Nat) (Z:List DZ×Int) (zs:List Value),j<=m'/\u65=.int .i64 (j:Nat)/\u7=.int .i64 Z.2/\Hd (Yw m' J a=Yw m' (J.drop j) Z)/\Hd (MV wr o s2)/\Hd (W.grownBy wr o)/\Hd (wr.ownsRow W.heap.size 48 4 u4 Z.1.length zs)/\Hd (z29 (PR o wr u4) wr zs Z.1)/\Hd (Ders (PR o wr u4) wr (.slice b4 m' cb) J)/\Hd (Z.1.length=a.1.length+j)) (λ _ _ i _=>m'-(intOf i).toNat)
       case atStart=>exact⟨0,a,xs,zL _,rfl,rfl,Z_ rfl,hU,fv,kB,hz,fp,Z_ rfl⟩
       case round=>
        rename World=>wl
        obtain⟨j,Z,zs,hj,rfl,rfl,f6,d6,e0,ch,ga,fx,bl⟩:=hrel;obtain⟨sb,sm,sd,rfl⟩:=Tu ch.o
        by_cases j0:j<m'
        ·obtain⟨d,hd⟩:=ZN (l:=J) (j:=j) (by rw[<-ft.o];exact j0);obtain⟨bw,ow,g2,gu,gv,hu,-,q2,q3,-,c0,c1,c2,c3,u1,t1,p1⟩:=fx.o.cellAt hd;subst hu;have et:Hd (Yw m' J a=if 2<m'∨ZY d<=Z.2 then(false,Z) else Yw m' (J.drop (j+1)) (Z.1 ++ [d],ZY d)):=Z_ (by rw[f6.o,Wh hd];rfl);obtain⟨fk,fn,ff,gf⟩:=hc.o d (zP hd);have aB:=z29.single u1 t1 p1;obtain⟨x1,y1,rfl⟩:=u1.form;obtain⟨x2,y2,rfl⟩:=t1.form;obtain⟨x3,y3,rfl⟩:=p1.form;obtain⟨i1,ar⟩:∃z,z=(Z8 d.N).mag.length:=⟨_,rfl⟩
         obtain⟨i2,ax⟩:∃z,z=(Z5 d.P).length:=⟨_,rfl⟩
         obtain⟨i3,az⟩:∃z,z=(d.By.map Z5).length:=⟨_,rfl⟩
         obtain⟨i4,ay⟩:∃z,z=(Z8 d.N).neg:=⟨_,rfl⟩
         have CC:=λ(Q:World) (hQ:DerV (Z2 Q) Q (.agg #[.bool (Z8 d.N).neg,.slice x1 (Z8 d.N).mag.length y1,.slice x2 (Z5 d.P).length y2,.slice x3 (d.By.map Z5).length y3]) d)=>Rq (W:=Q) hQ ff gf;have cv:Hd (∀Q:World,Kept (PR o wl (.slice sb sm sd)) wl Q->wl.heap.size<=Q.heap.size->DerV (Z2 Q) Q (.agg #[.bool i4,.slice x1 i1 y1,.slice x2 i2 y2,.slice x3 i3 y3]) d):=Z_ (λ Q hk hs=>⟨_,_,_,by rw[ay],by rw[ar];exact u1.to hk (λ q hq=>zU hq.1.1 hs),by rw[ax];exact t1.to hk (λ q hq=>zU hq.1.1 hs),by rw[az];exact p1.to hk (λ q hq=>zU hq.1.1 hs)⟩);obtain⟨zd,fz⟩:∃z,z=ZY d:=⟨_,rfl⟩
         rw[<-ar,<-ax,<-az,<-ay]at aB CC;rw[<-fz]at CC et;rw[<-ar]at c1;rw[<-ax]at c2;rw[<-az]at c3;rw[<-ay]at c0;have bg:=Z_ aB;have cP:=Z_ CC;obtain⟨wb,cQ⟩:∃Q,Q=wl.alloc (.cells #[.bool i4,.slice x1 i1 y1,.slice x2 i2 y2,.slice x3 i3 y3] 48):=⟨_,rfl⟩
         have e9:Hd (Ext wl wb):=Z_ (by rw[cQ];exact uO (uP _) _);have bt:Hd (Bx4 wl.heap.size wb (.bool i4) (.slice x1 i1 y1) (.slice x2 i2 y2) (.slice x3 i3 y3)):=Z_ (by rw[cQ];exact uF (uP _));obtain⟨t,ht⟩:∃t:Bool,t=decide (2<m'∨zd<=Z.2):=⟨_,rfl⟩
         have aF:=Z_ ht;clear hd u1 t1 p1 aB ar ax az ay CC fz ht ff gf
         go_upto_region 17 with fail
         rw[<-cQ];clear cQ c0 c1 c2 c3;have c0:=bt.o.c0;have c1:=bt.o.c1;have c2:=bt.o.c2;have c3:=bt.o.c3
         go_cut [77] (λ c wx=>c=.bool t/\Hd (Ext wb wx))
         case first=>
          by_cases h2:2<m'
          ·have cu:t=true:=by rw[aF.o];exact decide_eq_true (.inl h2)
           subst cu;have q1:(2:Int)<(m':Int):=by omega
           have q2:decide ((2:Int)<(m':Int))=true:=decide_eq_true q1;have q3:decide (2<m')=true:=decide_eq_true h2;go_wp2_with fail
           go_meet
           exact⟨rfl,Z_ (uP _)⟩
          ·have cu:decide (zd<=Z.2)=t:=by
            rw[aF.o]
            by_cases h:zd<=Z.2
            ·rw[decide_eq_true h,decide_eq_true (.inr h)]
            ·rw[decide_eq_false h,decide_eq_false (λ e=>e.elim h2 h)]
           have eq:=Z_ cu;have q1:¬ (2:Int)<(m':Int):=by omega
           have q2:decide ((2:Int)<(m':Int))=false:=decide_eq_false q1;have q3:decide (2<m')=false:=decide_eq_false h2;have CB:=Z_ (cP.o wb (cv.o wb (uM e9.o (λ _ h=>h.1.1)) e9.o.size));clear cu;go_wp2_with fail;(with_reducible refine CB.o.mono ?_);rintro e w3 ⟨rfl,ah⟩;have cd:=Z_ ah;clear ah;go_wp2_with fail
           go_meet
           exact⟨by first|(rw[<-eq.o];rfl)|rw[eq.o]|simp[eq.o],cd⟩
         case rest=>
          rename World=>wx
          obtain⟨rfl,g7⟩:=hcut;have U:=Z_ (e9.o.trans g7.o)
          cases t with
          |true=>
           have hX:X=(0,s2,[],x0):=by
            have h:=b1.o;rw[et.o,if_pos (of_decide_eq_true aF.o.symm),if_pos rfl,<-cg.o]at h;exact h.symm
           have b3:=Z_ hX;have au:=Z_ (YV e0.o (Y7 U.o o));have bu:=Z_ (d6.o.ext U.o);have hR:=Z_ (HL.o.to (λ q hq=>au.o.block q hq.1 hq.2) (λ q hq=>⟨zU hq.1 au.o.size,hq.2⟩):Hyps (NB o wx) wx (.slice al n cl) L);obtain⟨b0,o0,v0,a8,-,-,-,-,-,-,cA,-⟩:=hR.o.cellAt (cy.o.at' O (by have:=HN.o.1;omega));subst a8;simp only at cA;rw[<-cg.o]at cA;have L0:=λ Q:Later wx=>Q.h.cell cA;clear hX c0 c1 c2 c3 cA;go_wp2;refine Zh (by kernel_rfl) (by kernel_rfl) ?_
           repeat (go_big_quiet_step (fail))
           refine wpQuiet_nil ?_;intro wq a5;have g0:=Z_ a5;clear L0 a5;go_wp2
           all_goals
            rw[Exit.noGoto_ret];refine bodyPost_ret (by first|(simp[results,Tryz.results8,go_sem];rfl)|simp[results,Tryz.results8,go_sem]) rfl ?_;rw[b3.o];exact⟨_,rfl,bu.o.ext g0.o,YV au.o (Y7 g0.o o),Ders.nilv _ _ _ _ (by decide)⟩
          |false=>
           have f0:¬ (2<m'∨zd<=Z.2):=of_decide_eq_false aF.o.symm;have bm:Hd (Yw m' J a=Yw m' (J.drop (j+1)) (Z.1 ++ [d],zd)):=Z_ (by rw[et.o,if_neg f0]);have bu:=Z_ (d6.o.ext U.o);have au:=Z_ (YV e0.o (Y7 U.o o));have aS:=Z_ (Zp ch.o U.o);have e7:=Z_ (λ(q:Nat) (hq:PR o wl (.slice sb sm sd) q)=>(⟨⟨zU hq.1.1 U.o.size,hq.1.2⟩,hq.2⟩:PR o wx (.slice sb sm sd) q));have em:=Z_ (ga.o.to (uM U.o (λ _ h=>h.1.1)) e7.o);have dG:=Z_ (fx.o.to (uM U.o (λ _ h=>h.1.1)) e7.o);have dq:=Z_ (bg.o.to (uM U.o (λ _ h=>h.1.1)) e7.o);have aa:=Z_ (bt.o.ext g7.o);have ag:=Z_ (show Ext wx wx.drew from uI (uP _));have af:=Z_ (((uP wx).alloc (.cells #[.bool i4,.slice x1 i1 y1,.slice x2 i2 y2,.slice x3 i3 y3] 48)).drew);have kC:Hd ((wx.alloc (.cells #[.bool i4,.slice x1 i1 y1,.slice x2 i2 y2,.slice x3 i3 y3] 48)).drew.ownsRow W.heap.size 48 4 (.slice sb sm sd) Z.1.length zs):=Z_ (Zp aS.o af.o);have ce:Hd (∀u∈(#[.bool i4,.slice x1 i1 y1,.slice x2 i2 y2,.slice x3 i3 y3]:Array Value).toList,u.oneCell'=true):=Z_ bg.o.one;have g6:Hd (Wq (wx.alloc (.cells #[.bool i4,.slice x1 i1 y1,.slice x2 i2 y2,.slice x3 i3 y3] 48)).drew (some ⟨wx.heap.size,0,none⟩) 1 4 (#[.bool i4,.slice x1 i1 y1,.slice x2 i2 y2,.slice x3 i3 y3]:Array Value).toList):=Z_ (Wj wx #[.bool i4,.slice x1 i1 y1,.slice x2 i2 y2,.slice x3 i3 y3] 48 ce.o rfl);have bA:=Z_ au.o.size;have g3:Hd (W.heap.size<=(wx.alloc (.cells #[.bool i4,.slice x1 i1 y1,.slice x2 i2 y2,.slice x3 i3 y3] 48)).drew.heap.size):=Z_ (zT bA.o af.o.size);have a6:Hd (Z.1.length+1<=maxLen/\(Z.1.length+1)*80<=140737488355328):=Z_ (by have h1:=bl.o;have h2:=fr.o;have h3:=HN.o.2.2;unfold maxLen;omega);have kH:Hd (some wl.heap.size≠(Value.slice sb sm sd).ownBlock):=Z_ (λ e=>by have h1:=(ch.o.lt _ e.symm).2;omega);have j5:=Z_ (cP.o wx.drew (cv.o _ (uM (U.o.trans ag.o) (λ _ h=>h.1.1)) (U.o.trans ag.o).size));have kb:=Z_ (cP.o (wx.alloc (.cells #[.bool i4,.slice x1 i1 y1,.slice x2 i2 y2,.slice x3 i3 y3] 48)).drew (cv.o _ (uM (U.o.trans af.o) (λ _ h=>h.1.1)) (U.o.trans af.o).size));obtain⟨i0,eR,d7,eB,eP⟩:=info_parts Tryz.infoDer;have bs:=aa.o.ext ((uP wx).alloc (.cells #[.bool i4,.slice x1 i1 y1,.slice x2 i2 y2,.slice x3 i3 y3] 48));clear f0 c0 c1 c2 c3;have c0:=aa.o.c0;have c1:=aa.o.c1;have c2:=aa.o.c2;have c3:=aa.o.c3;have c4:=bs.c0;have c5:=bs.c1;have c6:=bs.c2;have c7:=bs.c3;clear bs
           go_upto_region 18 with fail
           go_wp2_with fail
           go_region_law (first
            |(refine XE rfl (.tmp 78) (.tmp 80) 43 rfl W.heap.size 48 i0 _ 4 80 Tryz.underlying43 eR d7 eB eP rfl (by decide) (.slice sb sm sd) Z.1.length zs rfl kC.o (some ⟨wx.heap.size,0,none⟩) 1 1 _ rfl g6.o a6.o.1 a6.o.2 g3.o ?_;intro v5 w5 y hg ad;have ac:=Z_ y;have bx:=Z_ hg;have aq:=Z_ ad;have qf:=Go.Joins.ownsRow_form y (yC _);obtain⟨bq,cq,rfl⟩:=qf;have cC:=Z_ ((aa.o.ext af.o).gb hg (kH.o));have c50:=cC.o.c0;have c51:=cC.o.c1;have c52:=cC.o.c2;have c53:=cC.o.c3;have hr:=Z_ (cP.o w5 (cv.o w5 ((uM (U.o.trans af.o) (λ _ h=>h.1.1)).trans (uJ hg (λ q hq=>⟨zU hq.1.1 (U.o.trans af.o).size,hq.2⟩))) (zT (U.o.trans af.o).size hg.size)));clear y hg ad)
            |(refine XE rfl (.tmp 78) (.tmp 80) 43 rfl W.heap.size 48 i0 _ 4 80 Tryz.underlying43 eR d7 eB eP rfl (by decide) (.slice sb sm sd) Z.1.length zs rfl kz.o (some ⟨w3.heap.size,0,none⟩) 1 1 _ rfl hV.o a6.o.1 a6.o.2 g4.o ?_;intro v5 w5 y hg ad;have ac:=Z_ y;have bx:=Z_ hg;have aq:=Z_ ad;have qf:=Go.Joins.ownsRow_form y (yC _);obtain⟨bq,cq,rfl⟩:=qf;clear y hg ad)
            |(refine XE rfl (.tmp 78) (.tmp 80) 43 rfl W.heap.size 48 i0 _ 4 80 Tryz.underlying43 eR d7 eB eP rfl (by decide) (.slice sb sm sd) Z.1.length zs rfl eg.o (some ⟨wx.heap.size,0,none⟩) 1 1 _ rfl kk.o a6.o.1 a6.o.2 fB.o ?_;intro v5 w5 y hg ad;have ac:=Z_ y;have bx:=Z_ hg;have aq:=Z_ ad;have qf:=Go.Joins.ownsRow_form y (yC _);obtain⟨bq,cq,rfl⟩:=qf;clear y hg ad)
            |(go_simp;go_at_call 22;(with_reducible refine j5.o.mono ?_);rintro e w3 ⟨rfl,ah⟩;have cd:=Z_ (ag.o.trans ah);have ai:=Z_ (aa.o.ext cd.o);have kN:=ai.o.c0;have i6:=ai.o.c1;have ih:=ai.o.c2;have h0:=ai.o.c3;have ds:=Z_ (cd.o.alloc (.cells #[.bool i4,.slice x1 i1 y1,.slice x2 i2 y2,.slice x3 i3 y3] 48));have kz:=Z_ (Zp aS.o ds.o);have hV:=Z_ (Wj w3 #[.bool i4,.slice x1 i1 y1,.slice x2 i2 y2,.slice x3 i3 y3] 48 ce.o rfl);have g4:=Z_ (zT bA.o ds.o.size);clear ah)
            |(go_simp;go_at_call 22;(with_reducible refine kb.o.mono ?_);rintro e w3 ⟨rfl,ah⟩;have cn:=Z_ (af.o.trans ah);have ai:=Z_ (aa.o.ext cn.o);have kN:=ai.o.c0;have i6:=ai.o.c1;have ih:=ai.o.c2;have h0:=ai.o.c3;have eg:=Z_ (Zp aS.o cn.o);have kk:=Z_ (srcAt_ext g6.o ah);have fB:=Z_ (zT bA.o cn.o.size);clear ah)
            |(go_simp;go_at_call 22;(with_reducible refine hr.o.mono ?_);rintro e w6 ⟨rfl,fm⟩;have h9:=Z_ fm;clear fm)
            |fail)
           all_goals
            go_wp2
            go_roundw
            case measure=>simp only[intOf];omega
            case rel=>
             first
              | (have q:=RC bu.o au.o aS.o em.o dG.o dq.o af.o bx.o aq.o ac.o h9.o aN.o
                 exact⟨j+1,(Z.1 ++ [d],zd),_,by omega,by go_num,rfl,bm,Z_ q.2.2.2.1,Z_ q.2.2.2.2,by rw[zI];exact Z_ q.1,Z_ q.2.1,Z_ q.2.2.1,Z_ (by rw[zI,bl.o];rfl)⟩)
              | (have q:=RC bu.o au.o aS.o em.o dG.o dq.o ds.o bx.o aq.o ac.o (uP _) aN.o
                 exact⟨j+1,(Z.1 ++ [d],zd),_,by omega,by go_num,rfl,bm,Z_ q.2.2.2.1,Z_ q.2.2.2.2,by rw[zI];exact Z_ q.1,Z_ q.2.1,Z_ q.2.2.1,Z_ (by rw[zI,bl.o];rfl)⟩)
              | (have q:=RC bu.o au.o aS.o em.o dG.o dq.o cn.o bx.o aq.o ac.o (uP _) aN.o
                 exact⟨j+1,(Z.1 ++ [d],zd),_,by omega,by go_num,rfl,bm,Z_ q.2.2.2.1,Z_ q.2.2.2.2,by rw[zI];exact Z_ q.1,Z_ q.2.1,Z_ q.2.2.1,Z_ (by rw[zI,bl.o];rfl)⟩)
        ·obtain rfl:j=m':=by omega
         have ae:triL o ps pts k' K Z s2=X:=by
          have h:=b1.o;rw[f6.o,zt (by rw[<-ft.o];exact zR _)]at h;exact h
         have fu:=Z_ ae;have c9:Z.1.length<=K:=by have h1:=bl.o;have h2:=fr.o;have h3:=ca.o;have h4:=aH.o;omega
         have gn:=Z_ c9;have hO:Hd (n-K<k'):=Z_ (by have:=gg.o;omega);clear ae c9;go_wp2
         go_roundw
         case rel=>exact⟨K,k',Z,s2,zs,by omega,rfl,rfl,d6,e0,id,fu,hO,ch,ga,gn⟩
         case measure=>simp only[intOf];omega
  ·have hX:X=(0,s1,a.1,-1):=by
    have h:=gl.o;rw[triL,if_pos (by have:=HN.o.2.1;omega)]at h;exact h.symm
   have b3:=Z_ hX;have j6:=Z_ (Qt (S:=NB o wo) co.o (fq.o.to (uN _ _) (λ k h=>h.1)) (λ k h1 h2=>⟨h2,λ e=>by have:=aN.o k e.symm;omega⟩));clear hX;obtain⟨na,hna⟩:∃z,z=a.1.length:=⟨_,rfl⟩
   go_wp2
   all_goals
    rw[Exit.noGoto_ret];refine bodyPost_ret (by first|(simp[results,Tryz.results8,go_sem];rfl)|simp[results,Tryz.results8,go_sem]) rfl ?_;rw[b3.o];exact⟨_,rfl,gN.o,bN.o,j6.o⟩
end
section
open Go.RowKit
end
section
open Go.RowKit
end
section
open Go.RowKit
end
section
open Go.RowKit Go.Deep
end
section
open Go.RowKit
theorem L9{ts:List RTerm}(h:XO ts=false):ts.length<=5/\∀t∈ts,t.c.mag.length<=2/\∀y∈t.m,y.2<=3:=by
 unfold XO WO at h;simp only[wS]at h;obtain⟨⟨h1,I⟩,D⟩:=h
 refine⟨?_,λ t ht=>?_⟩
 ·rw[decide_eq_false_iff_not]at I;omega
 ·have z:=(vH.1 D) t ht;unfold zfg at z;simp only[Bool.not_eq_true,wS,decide_eq_false_iff_not]at z;refine⟨by omega,λ y hy=>?_⟩;have J:=(vH.1 z.2) y hy;simp only[decide_eq_true_eq]at J;omega
theorem NI{ts:List RTerm}(h:XO ts=false):Yk ts:=λ t ht=>zT ((L9 h).2 t ht).1 (by decide)
theorem Qr{ts:List RTerm}(hok:okT ts)(h:XO ts=false):Fit 2 5 (Zt ts)/\exB 3 (Zt ts):=by
 have z:=L9 h;refine⟨Kf hok (λ t ht=>(z.2 t ht).1) z.1,λ t ht u=>?_⟩;unfold Zt at ht
 split at ht
 ·obtain⟨y,D,rfl⟩:=zG.1 ht;exact OY (by decide) (z.2 y D).2 u
 ·simp at ht
theorem I0{ls:List (List RTerm×Int)}(h:WU ls=false):(∀p∈ls,XO p.1=false)/\ls.length<=5:=by
 unfold WU at h;rw[wS]at h;refine⟨λ p hp=>by have:=(vH.1 h.1) p hp;rwa [Bool.not_eq_true]at this,?_⟩;have:=h.2;rw[decide_eq_false_iff_not]at this;omega
theorem JD{pts:List (RInt×RInt)}{p:List RTerm}(hok:okT p)(h:XO p=false)(h1:(Vi pts p).1=0)(h2:(Vi pts p).2=0):ZR p=true/\Hyp27 pts (Zt p):=by
 unfold Vi at h1 h2
 by_cases y:ZR p=true
 ·rw[if_pos y]at h1 h2;obtain⟨f,x⟩:=Qr hok h;refine⟨y,f,x,?_,(Dz h2).1 h1⟩;unfold Xp at h2
  split at h2
  ·assumption
  ·exact absurd (show(5:Int)=0 from h2) (by decide)
 ·rw[if_neg y]at h2;exact absurd (show(2:Int)=0 from h2) (by decide)
theorem Nn{pts:List (RInt×RInt)}{d:DZ}(h:Good27 pts d):(Xp pts d.P).1=0/\(Xp pts d.P).2=0:=by
 unfold Xp;rw[if_pos h.cls,h.ev];exact⟨by decide,rfl⟩
def XV(L:List (List RTerm×Int)):List PZ:=L.map λ h=>Zt h.1
def Wf(L:List (List RTerm×Int)):List Int:=L.map λ h=>h.2
theorem MB{L:List (List RTerm×Int)}{i:Nat}{h:List RTerm×Int}(hi:L[i]? = some h):(XV L).getD i []=Zt h.1/\(Wf L).getD i 0=h.2:=by
 unfold XV Wf;rw[zH,zH,yZ,yZ,hi];exact⟨rfl,rfl⟩
theorem Fa{L:List (List RTerm×Int)}(h:∀x∈L,x.1=Z5 (Zt x.1)):HypL L (XV L) (Wf L):=by
 refine⟨by unfold XV;rw[zE],by unfold XV Wf;rw[zE,zE],λ i hi=>?_⟩;obtain⟨x,y⟩:=ZN (l:=L) (j:=i) (by unfold XV at hi;rwa [zE]at hi);obtain⟨D,z⟩:=MB y;rw[D,z,<-h x (zP y),y]
theorem MI:TG 20 50 500 0:=⟨⟨by decide,by decide⟩,⟨by decide,by decide⟩,⟨by decide,by decide⟩,by decide,by decide⟩
theorem Ep{W:World}{o:Option Nat}{vl:Value}{L:List (List RTerm×Int)}(hl:Hyps (Z2 W) W vl L)(hsm:∀h∈L,Yk h.1)(hmay:Ze L 0=false) :
  Calls Tryz.prog 8 #[ZK o,vl] W λ e W'=>e=.returned (.tuple #[.slice none 0 0,.int .i64 0,.int .i64 2])/\Ext W W':=by
 have hnot:∀(x:Bool) (w:World),(Op.unary .not (.bool x)).run Tryz.prog w=.ok (.bool (!x)) w:=λ _ _=>rfl;have y:=Nm (S:=Z2 W) vl L W hl (λ _ h=>h) hsm;rw[hmay]at y;obtain⟨al,cl,rfl⟩:=hl.form;obtain⟨n,z⟩:∃n,n=L.length:=⟨_,rfl⟩
 rw[<-z]at y;rw[<-z];have J:=Z_ y;obtain⟨vm,D⟩:∃x,x=ZK o:=⟨_,rfl⟩
 obtain⟨am,rfl⟩:∃a,vm=.pointer a:=⟨_,D⟩
 rw[<-D];clear hl hmay hsm y z D
 go_enter Tryz.func8,Tryz.ntmps8
 go_wp2;go_step3;go_wp2_with fail;(with_reducible refine J.o.mono ?_);rintro e w1 ⟨rfl,I⟩;have K:=Z_ I;clear I;go_wp2
 all_goals
  rw[Exit.noGoto_ret];refine bodyPost_ret (by first|(simp[results,Tryz.results8,go_sem];rfl)|simp[results,Tryz.results8,go_sem]) rfl ?_;exact⟨rfl,K.o⟩
end
section
abbrev k16B:PZ:=[(1,[(2,1)]),(-1,[(1,1)])]
abbrev Wz:PZ:=[(2,[])]
abbrev X4:PZ:=[(1,[(2,1)]),(1,[(1,1)])]
theorem GS:UZ 2=Wz:=by kernel_rfl
theorem Nc:addP Ww (ZP Xr)=k16B:=by kernel_rfl
theorem SW{a b:Int×Z7}(ha:a.1≠0/\Z3 a.2=true)(hb:b.1≠0/\Z3 b.2=true)(h:Zs a.2 b.2=1):canP [a,b] :=
 ⟨λ t y=>by rcases zJ.1 y with rfl|y;exact ha;rw[zQ.1 y];exact hb,yN.2 ⟨λ u hu=>by rw[zQ.1 hu];exact h,yP _ _⟩⟩
theorem E4{a:Int×Z7}(ha:a.1≠0/\Z3 a.2=true):canP [a]:=⟨λ t ht=>by rw[zQ.1 ht];exact ha,yP _ _⟩
theorem P6:canP k16B:=SW ⟨by decide,by kernel_rfl⟩ ⟨by decide,by kernel_rfl⟩ (by kernel_rfl)
theorem LB:canP X4:=SW ⟨by decide,by kernel_rfl⟩ ⟨by decide,by kernel_rfl⟩ (by kernel_rfl)
end
section
open Go.RowKit
theorem K4{o:Option Nat}{m:Nat}{s:MSt}{F G:DZ}(aF:AOk F m)(aG:AOk G m)(hc:0<ZY G)(hm:m<=1000)(r1:Wx o true [G.P] 1 s F.P [[]])
  (r2:(Zw o s F [G]).1=0->(∃(n:Nat) (cof:PZ),(Zw o s F [G]).2.2.2.1=[(n:Int)]/\(Zw o s F [G]).2.2.2.2=[cof]/\n<=4/\Fit 45 100000 cof)/\Fit 45 100000 (Zw o s F [G]).2.2.1) :
  RestQFit o s F [G]:=by
 have hL:z18 [F,G]<=F.N.natAbs*G.N.natAbs:=by
  show 1*(F.N.natAbs / Nat.gcd F.N.natAbs 1)*(G.N.natAbs / _)<=_;rw[yM];exact yR (yt _ _) (yt _ _)
 have J:ZX ((z18 [F,G]:Nat):Int)<=6:=by
  refine YZ ZU _ _ ?_;rw[y7];have h1:F.N.natAbs<Z9^3:=zU (Vv F.N) (zA (by decide) aF.len);have h2:G.N.natAbs<Z9^3:=zU (Vv G.N) (zA (by decide) aG.len);refine zh hL ?_;rw[show(6:Nat)=3+3 from rfl,yH];exact xc h1 h2
 have ad:∀own:Int,0<own->Fit 6 1 (ZO (((z18 [F,G]:Nat):Int) / own) []):=λ own ho=>Sn (by rfl) (zT (Yp (by
  have h1:=vK ((z18 [F,G]:Nat):Int) own
  exact h1)) J)
 have dF:DOk F F.By.length:=⟨aF.pos,zT aF.len (by decide),⟨2,5,aF.P,by decide,by decide⟩,⟨1,1,aF.B,by decide,by decide⟩,rfl⟩
 have dG:DOk G F.By.length:=⟨aG.pos,zT aG.len (by decide),⟨2,5,aG.P,by decide,by decide⟩,⟨1,1,aG.B,by decide,by decide⟩,by rw[aG.m,aF.m]⟩
 have aa:YH 0 (([G].map DZ.P).map Z5)=true:=by
  show(if ZR (Z5 G.P) && decide (0<ZL (Zt (Z5 G.P))) then true else false)=true;rw[Xc aG.P.can,Tl aG.P.can,decide_eq_true (show 0<ZL G.P from hc)];rfl
 have I:∀n:Int,((([G].map DZ.P).zip [n]):List (PZ×Int))=[(G.P,n)]:=λ n=>rfl
 have hH:(Zw o s F [G]).1=0->Fit 17 625 (Xz o s F [G]).2:=λ D=>by
  obtain⟨n,cof,O,e2,K,y⟩:=(r2 D).1;unfold Xz;rw[O,I];show Fit 17 625 (Yu o (Y_ G.P) ((0,(Zw o s F [G]).2.1),ZO 1 []) (n:Int).toNat).2;rw[xU];exact(Sv aG.P.init n K).mono (by omega) (zT (zA (by decide) K) (by decide))
 have X:∀(st:Int×MSt) (i:Nat) (h:PZ),Fit 17 625 h->U7 o st (F.By.getD i []) h ((z18 [F,G]:Nat):Int) F.N/\Fit 28 625 (Wv o st (F.By.getD i []) h ((z18 [F,G]:Nat):Int) F.N).2:=λ st i h fh=>by
  have f1:=SF aF.B i;have f2:=ad F.N aF.pos;have Z:=VX (o:=o) (st:=st) f1 f2 (by decide);have f4:=VX (o:=o) (st:=(Za o st (F.By.getD i []) (ZO (((z18 [F,G]:Nat):Int) / F.N) [])).1) Z fh (by decide);exact⟨⟨λ _=>⟨_,_,_,_,f1,f2,by decide,by decide,by decide⟩,λ _=>⟨_,_,_,_,Z,fh,by decide,by decide,by decide⟩⟩,f4.mono (by decide) (by decide)⟩
 have U:∀(st:Int×MSt) (i:Nat) (c:PZ),Fit 45 100000 c->U7 o st (G.By.getD i []) c ((z18 [F,G]:Nat):Int) G.N/\Fit 56 100000 (Wv o st (G.By.getD i []) c ((z18 [F,G]:Nat):Int) G.N).2:=λ st i c fc=>by
  have f1:=SF aG.B i;have f2:=ad G.N aG.pos;have Z:=VX (o:=o) (st:=st) f1 f2 (by decide);have f4:=VX (o:=o) (st:=(Za o st (G.By.getD i []) (ZO (((z18 [F,G]:Nat):Int) / G.N) [])).1) Z fc (by decide);exact⟨⟨λ _=>⟨_,_,_,_,f1,f2,by decide,by decide,by decide⟩,λ _=>⟨_,_,_,_,Z,fc,by decide,by decide,by decide⟩⟩,f4.mono (by decide) (by decide)⟩
 have ac:(Zw o s F [G]).1=0->RowFit o F ([G].zip (Zw o s F [G]).2.2.2.2) (Xz o s F [G]).2 ((z18 [F,G]:Nat):Int) (Xz o s F [G]).1:=λ D=>by
  obtain⟨n,cof,O,e2,K,y⟩:=(r2 D).1;rw[e2];refine⟨λ i _=>(X _ i _ (hH D)).1,λ i _ k z hz=>?_⟩
  have hk:k=0:=by
   have:=Zy hz;simp only[List.zip_cons_cons,List.zip_nil_right,zM,zo]at this;omega
  subst hk;obtain rfl:(G,cof)=z:=by simpa using hz
  refine⟨(U _ i cof y).1,56,100000,56,100000,?_,(U _ i cof y).2,by decide,by decide,by decide,by decide,by decide⟩;exact(X _ i _ (hH D)).2.mono (by decide) (by decide)
 refine⟨by rw[aF.m];omega,by show 1<=1000;decide,dF,λ d hd=>by rw[zQ.1 hd];exact dG,aa,r1,zT J (by decide),λ D=>?_,λ n K=>?_,ac,λ D _=>?_⟩
 ·obtain⟨n,cof,O,e2,K,y⟩:=(r2 D).1;rw[O,I];intro i z hz j hj;have hi:i=0:=by have:=Zy hz;simp at this;omega
  subst hi;obtain rfl:(G.P,(n:Int))=z:=by simpa using hz
  intro _;have hj2:j<n:=by simpa using hj
  have h5:5^j<=5^4:=zA (by decide) (by omega);exact⟨_,_,_,_,Sv aG.P.init j (by omega),aG.P.init,by omega,by decide,by omega⟩
 ·by_cases D:(Zw o s F [G]).1=0
  ·obtain⟨n',cof,O,-,hn',-⟩:=(r2 D).1;rw[O,zQ]at K;omega
  ·rw[zdv]at K D
   split at K
   ·cases K
   ·rename_i h1
    rw[if_neg h1]at D;exact absurd rfl D
 ·obtain⟨n,cof,O,e2,K,y⟩:=(r2 D).1;have hi:=(r2 D).2;refine⟨58,200000,6,hi.mono (by decide) (by decide),?_,by decide,J,by decide,by decide⟩;show ∀b'∈(YN o s F [G]).2,_;unfold YN;rw[e2];refine M0 (λ i st'=>?_) _;show Fit 58 200000 (Zr (_++ZP _));exact(((X st' i _ (hH D)).2.mono (by decide) (by decide):Fit 56 100000 _).add (U _ i cof y).2.neg (by decide)).mono (by decide) (by decide)
abbrev Xk:PZ:=[(1,[(3,1)])]
abbrev Qe:PZ:=[(1,[(3,1)]),(1,[(2,1)])]
abbrev zhf:PZ:=[(1,[(3,1)]),(1,[(2,1)]),(-1,[(1,1)])]
abbrev Vj:PZ:=[(-1,[(3,1)]),(1,[(2,1)])]
abbrev TC:PZ:=[(1,[(3,1)]),(-1,[(2,1)])]
abbrev TB:PZ:=[(2,[(2,1)])]
abbrev YG:PZ:=[(2,[(2,1)]),(-1,[(1,1)])]
abbrev U9:PZ:=[(-2,[(1,1)])]
theorem FC:addP Ww Xk=Qe:=by kernel_rfl
theorem Bp:addP Qe (ZP Xr)=zhf:=by kernel_rfl
theorem BA:addP Ww (ZP Xk)=Vj:=by kernel_rfl
theorem Ce:addP Ww Xr=X4:=by kernel_rfl
theorem Ju:PQ (ZI Wz Ww)=TB:=by kernel_rfl
theorem Gl:addP TB (ZP Xr)=YG:=by kernel_rfl
theorem BH{a b c:Int×Z7}(ha:a.1≠0/\Z3 a.2=true)(hb:b.1≠0/\Z3 b.2=true)(hc:c.1≠0/\Z3 c.2=true)(h1:Zs a.2 b.2=1)(h2:Zs a.2 c.2=1)(h3:Zs b.2 c.2=1):canP [a,b,c] :=
 ⟨λ t y=>by
  rcases zJ.1 y with rfl|y
  ·exact ha
  ·rcases zJ.1 y with rfl|y
   ·exact hb
   ·rw[zQ.1 y];exact hc,
   yN.2 ⟨λ u z=>by
  rcases zJ.1 z with rfl|z
  ·exact h1
  ·rw[zQ.1 z];exact h2,yN.2 ⟨λ u z=>by rw[zQ.1 z];exact h3,yP _ _⟩⟩⟩
theorem LQ:canP zhf:=BH ⟨by decide,by kernel_rfl⟩ ⟨by decide,by kernel_rfl⟩ ⟨by decide,by kernel_rfl⟩ (by kernel_rfl) (by kernel_rfl) (by kernel_rfl)
theorem FI:canP Vj:=SW ⟨by decide,by kernel_rfl⟩ ⟨by decide,by kernel_rfl⟩ (by kernel_rfl)
theorem GF:canP TC:=SW ⟨by decide,by kernel_rfl⟩ ⟨by decide,by kernel_rfl⟩ (by kernel_rfl)
theorem OI:canP YG:=SW ⟨by decide,by kernel_rfl⟩ ⟨by decide,by kernel_rfl⟩ (by kernel_rfl)
theorem K9:canP U9:=E4 ⟨by decide,by kernel_rfl⟩
theorem Tz{p:PZ}(hc:canP p)(h:Xj p=true)(hl:p.length<=5)(he:p.all (λ t=>t.2.all λ y=>decide (y.2<=3))=true):Fit 2 5 p/\exB 3 p:=by
 have f:=Wr hc h;refine⟨⟨f.1,f.2.1.mono (by decide),hl⟩,λ t ht u=>?_⟩;have z:=(xb.1 he) t ht;exact OY (by decide) (λ y hy=>of_decide_eq_true ((xb.1 z) y hy)) u
abbrev U6:List PZ:=[k16B]
abbrev Yz:List PZ:=[zhf,Vj]
abbrev Yo:List PZ:=[k16B,X4]
theorem PJ:∀i,i<2->Fit 2 5 (Yz.getD i [])/\exB 3 (Yz.getD i []):=λ i hi=>by
 match i,hi with
 |0,_=>exact Tz LQ (by kernel_rfl) (by decide) (by decide)
 |1,_=>exact Tz FI (by kernel_rfl) (by decide) (by decide)
theorem PD:∀i,i<2->Fit 2 5 (Yo.getD i [])/\exB 3 (Yo.getD i []):=λ i hi=>by
 match i,hi with
 |0,_=>exact Tz P6 (by kernel_rfl) (by decide) (by decide)
 |1,_=>exact Tz LB (by kernel_rfl) (by decide) (by decide)
theorem Eo:∀i,i<1->Fit 2 5 (U6.getD i [])/\exB 3 (U6.getD i []):=λ i hi=>by
 match i,hi with
 |0,_=>exact Tz P6 (by kernel_rfl) (by decide) (by decide)
theorem MP{F G R Q:PZ}{v:Int}(cF:canP F)(cG:canP G)(cQ:canP Q)(cR:canP R)(tF:Xj F=true)(tG:Xj G=true)(hG:ZL G=v)(hv:1<=v/\v<=200)(d1:degP G v=1)(d2:degP F v=1)
  (hd:ZA none true default F G v=⟨0,Q,R,1,default⟩) (hp:powN (Y_ G) 1=some k121) :
  Wx none true [G] 1 default F [[]]:=by
 have y:z7q none true G (Zz G v) v (degP G v) 100 10000 ((degP F v).toNat+1) default [] F :=
  AY (A:=1) (T:=10) (Wr cG tG) ((Wr cG tG).coef _ _) (by decide) hv (by rw[d1];decide) (by decide) _ 2 1 10 _ _ _ (VU.mono (by decide) (by decide)) (Wr cF tF) (λ _=>by rw[d1,d2];decide) (by decide) (by decide)
 have z:RedStep none true G F default:=by
  refine⟨⟨1,10,100,10000,Wr cG tG,by decide,by decide,by decide,by decide,by decide,?_⟩,?_,?_⟩
  ·rw[hG];exact y
  ·rw[hG];exact hv
  ·rw[hG,d1];decide
 rw[Wx]
 have e:Zd none true [G] 0 default F=⟨0,Q,R,1,default⟩:=by
  show ZA none true default F G (ZL G)=_;rw[hG];exact hd
 rw[e];refine⟨z,λ _ _ _=>?_,λ _=>trivial⟩;exact⟨by show(1:Nat)<=100;decide,by show powN (Y_ G) 1=_;rw[show(DRes.n ⟨0,Q,R,1,default⟩)=1 from rfl,show([G].getD 0 [])=G from rfl,hp];rfl,⟨1,10,Wr cG tG,by decide,by decide,by decide,by show(10:Nat)^1<=_;decide⟩,λ _=>trivial⟩
theorem Gn:YX (ZY (Zo Yz 0)) (Zo Yz 0) (Zo Yz 1)=(Zo Yz 0,Zo Yz 1):=by kernel_rfl
theorem Jr:YX (ZY (Zo Yo 0)) (Zo Yo 0) (Zo Yo 1)=(Zo Yo 0,Zo Yo 1):=by kernel_rfl
theorem y2t:(Zo Yz 0).P=zhf:=by kernel_rfl
theorem LY:(Zo Yz 1).P=TC:=by kernel_rfl
theorem y2u:(Zo Yo 0).P=k16B:=by kernel_rfl
theorem OF:(Zo Yo 1).P=X4:=by kernel_rfl
theorem C0:Zw none default (Zo Yz 0) [Zo Yz 1]=(0,default,YG,[1],[k121]):=by kernel_rfl
theorem Al:Zw none default (Zo Yo 0) [Zo Yo 1]=(0,default,U9,[1],[k121]):=by kernel_rfl
theorem Dx:T9 none default (Zo Yz 0) (Zo Yz 1):=λ _ _=>by
 rw[Gn];have z:=PJ 0 (by decide);have y:=PJ 1 (by decide);have D:AOk (Zo Yz 0) 2:=Vr (ps:=Yz) (i:=0) z.1 z.2;have a1:AOk (Zo Yz 1) 2:=Vr (ps:=Yz) (i:=1) y.1 y.2
 refine K4 D a1 (by show 0<ZL _;rw[LY];decide) (by decide) ?_ (λ _=>?_)
 ·rw[y2t,LY];exact MP (v:=3) (R:=YG) (Q:=k121) LQ GF z7k OI (by kernel_rfl) (by kernel_rfl) (by kernel_rfl) (by decide) (by kernel_rfl) (by kernel_rfl) (by kernel_rfl) (by kernel_rfl)
 ·rw[C0];exact⟨⟨1,k121,rfl,rfl,by decide,(Wr z7k (by kernel_rfl)).mono (by decide) (by decide)⟩,(Wr OI (by kernel_rfl)).mono (by decide) (by decide)⟩
theorem Fg:T9 none default (Zo Yo 0) (Zo Yo 1):=λ _ _=>by
 rw[Jr];have z:=PD 0 (by decide);have y:=PD 1 (by decide);have D:AOk (Zo Yo 0) 2:=Vr (ps:=Yo) (i:=0) z.1 z.2;have a1:AOk (Zo Yo 1) 2:=Vr (ps:=Yo) (i:=1) y.1 y.2
 refine K4 D a1 (by show 0<ZL _;rw[OF];decide) (by decide) ?_ (λ _=>?_)
 ·rw[y2u,OF];exact MP (v:=2) (R:=U9) (Q:=k121) P6 LB z7k K9 (by kernel_rfl) (by kernel_rfl) (by kernel_rfl) (by decide) (by kernel_rfl) (by kernel_rfl) (by kernel_rfl) (by kernel_rfl)
 ·rw[Al];exact⟨⟨1,k121,rfl,rfl,by decide,(Wr z7k (by kernel_rfl)).mono (by decide) (by decide)⟩,(Wr K9 (by kernel_rfl)).mono (by decide) (by decide)⟩
theorem Af:Ur none U6 (λ s=>s=default):=λ s i _ hi=>absurd hi (by show ¬ i+1<1;omega)
theorem CJ:Ur none Yz (λ s=>s=default):=λ s i hs hi=>by
 have y:i=0:=by have h1:i+1<2:=hi;omega
 subst y;rw[show s=default from hs]
 refine⟨?_,λ _=>?_⟩
 ·exact Dx
 ·change (YB none default (Zo Yz 0) (Zo Yz (0+1))).2.1=default
  kernel_rfl
theorem EU:Ur none Yo (λ s=>s=default):=λ s i hs hi=>by
 have y:i=0:=by have h1:i+1<2:=hi;omega
 subst y;rw[show s=default from hs]
 refine⟨?_,λ _=>?_⟩
 ·exact Fg
 ·change (YB none default (Zo Yo 0) (Zo Yo (0+1))).2.1=default
  kernel_rfl
theorem In:(Zb none default U6 [0]).1=0/\(Zb none default U6 [0]).2.2.2 = -1/\(Zb none default U6 [0]).2.2.1.length=1:=⟨by kernel_rfl,by kernel_rfl,by kernel_rfl⟩
theorem Ml:(Zb none default Yz [0,0]).1=0/\(Zb none default Yz [0,0]).2.2.2 = -1/\(Zb none default Yz [0,0]).2.2.1.length=2:=⟨by kernel_rfl,by kernel_rfl,by kernel_rfl⟩
theorem AB:(Zb none default Yo [0,1]).1=0/\(Zb none default Yo [0,1]).2.2.2=1/\(Zb none default Yo [0,1]).2.2.1.length=0:=⟨by kernel_rfl,by kernel_rfl,by kernel_rfl⟩
theorem AC:((Zb none default Yz [0,0]).2.2.1.getD 0 ⟨0,[],[]⟩).P=YG:=by kernel_rfl
end
section
open Go.RowKit Go.Deep Go.ChangeShapes Go.WideShapes Go.ChangeAt Go.Joins
section
variable {H:Type} {enc:TypeId×Value->H} {w:World} {base:Nat} {spare:Nat->Bool} {held:Bool}
end
section
variable {H:Type} {enc:TypeId×Value->H} {W:World} {base b0:Nat} {sp:Nat->Bool} {held:Bool}
end
end
section
open Go.RowKit Go.Deep
section
open Go.RowKit Go.Deep
theorem Et{S:Nat->Prop}{w:World}{b:Nat}{v0:Value}{p:List RTerm}{x:Int}(hb:S b)(h0:w.cell? ⟨b,0,none⟩=some v0)(h1:w.cell? ⟨b,1,none⟩=some (.int .i64 x))(hx:Zv x)(t0:z06 S w v0 p):Hyps S w (.slice (some ⟨b,0,none⟩) 1 1) [(p,x)] :=
 ⟨b,0,⟨_,1,rfl,zR _,by decide,λ _=>rfl,λ _=>hb⟩,λ j t hj=>by
  match j,hj with
  |0,hj=>cases hj;exact⟨hx,v0,h0,h1,t0⟩⟩
theorem Pj{S:Nat->Prop}{w:World}{b:Nat}{v0 v1:Value}{p q:List RTerm}{x y:Int}(hb:S b)(h0:w.cell? ⟨b,0,none⟩=some v0)(h1:w.cell? ⟨b,1,none⟩=some (.int .i64 x))(h2:w.cell? ⟨b,2,none⟩=some v1)(h3:w.cell? ⟨b,3,none⟩=some (.int .i64 y))(hx:Zv x)(hy:Zv y)(t0:z06 S w v0 p)(t1:z06 S w v1 q):Hyps S w (.slice (some ⟨b,0,none⟩) 2 2) [(p,x),(q,y)] :=
 ⟨b,0,⟨_,2,rfl,zR _,by decide,λ _=>rfl,λ _=>hb⟩,λ j t hj=>by
  match j,hj with
  |0,hj=>cases hj;exact⟨hx,v0,h0,h1,t0⟩
  |1,hj=>cases hj;exact⟨hy,v1,h2,h3,t1⟩⟩
theorem H8{p:PZ}{x:Int}:HypL [(Z5 p,x)] [p] [x]:=⟨rfl,rfl,λ i hi=>by
 match i,hi with
 |0,_=>rfl⟩
theorem Ll{p q:PZ}{x y:Int}:HypL [(Z5 p,x),(Z5 q,y)] [p,q] [x,y]:=⟨rfl,rfl,λ i hi=>by
 match i,hi with
 |0,_=>rfl
 |1,_=>rfl⟩
theorem PE{W:World}{vl:Value}{L:List (List RTerm×Int)}{ps:List PZ}{pts:List Int}{f:Int}{n:Nat}(hl:Hyps (Z2 W) W vl L)(hL:HypL L ps pts)(hmay:Ze L 0=true)(hn:ps.length<=1000)
  (fP:∀i,i<ps.length->Fit 2 5 (ps.getD i [])/\exB 3 (ps.getD i [])) (hT:Ur none ps (λ s=>s=default)) (h:(Zb none default ps pts).1=0/\(Zb none default ps pts).2.2.2=f/\(Zb none default ps pts).2.2.1.length=n) :
  Calls Tryz.prog 8 #[.pointer none,vl] W λ e W'=>∃a c,e=.returned (.tuple #[.slice a n c,.int .i64 f,.int .i64 0])/\Ders (Z2 W') W' (.slice a n c) (Zb none default ps pts).2.2.1/\Ext W W':=by
 have C:=K3 (o:=none) (s:=default) (I:=λ s=>s=default) (k:=2) (N:=5) (MV.none W _) (hl.to (S':=NB none W) (uN _ _) (λ _ h=>⟨h,by simp⟩)) hL hmay hn (λ i hi=>(fP i hi).1) (by decide) (by decide) (by decide) (by decide) hT rfl;refine C.mono ?_;rintro e W' ⟨v,rfl,-,z,y⟩;obtain⟨a,c,rfl⟩:=y.form;rw[h.1,h.2.1,h.2.2];rw[h.2.2]at y;exact⟨a,c,rfl,y.to (uN _ _) (λ _ h=>h.1),Ey z⟩
theorem Hyps.on{w W:World}{v:Value}{l:List (List RTerm×Int)}(h:Hyps (Z2 w) w v l)(hx:Ext w W):Hyps (Z2 W) W v l:=h.to (uM hx (λ _ h=>h)) (Vw hx)
theorem Ders.on{w W:World}{v:Value}{l:List DZ}(h:Ders (Z2 w) w v l)(hx:Ext w W):Ders (Z2 W) W v l:=h.to (uM hx (λ _ h=>h)) (Vw hx)
theorem Fk:Ze [(Z5 k16B,0)] 0=true:=by kernel_rfl
theorem DX:Ze [(Z5 zhf,0),(Z5 Vj,0)] 0=true:=by kernel_rfl
theorem Ie:Ze [(Z5 k16B,0),(Z5 X4,1)] 0=true:=by kernel_rfl
theorem Fv{W:World}{vl:Value}(hl:Hyps (Z2 W) W vl [(Z5 k16B,0)]) :
  Calls Tryz.prog 8 #[.pointer none,vl] W λ e W'=>∃a c,e=.returned (.tuple #[.slice a 1 c,.int .i64 (-1),.int .i64 0])/\Ext W W' :=
 (PE (ps:=U6) (pts:=[0]) hl H8 Fk (by decide) Eo Af In).mono (by
  rintro e W' ⟨a,c,rfl,-,hx⟩
  exact⟨a,c,rfl,hx⟩)
theorem Az{W:World}{vl:Value}(hl:Hyps (Z2 W) W vl [(Z5 zhf,0),(Z5 Vj,0)]) :
  Calls Tryz.prog 8 #[.pointer none,vl] W λ e W'=>∃b off c a n k,e=.returned (.tuple #[.slice (some ⟨b,off,none⟩) 2 c,.int .i64 (-1),.int .i64 0])/\2<=c/\c<=9223372036854775807/\W'.cell? ⟨b,off+2,none⟩=some (.slice a n k)/\z06 (Z2 W') W' (.slice a n k) (Z5 YG)/\Ext W W' :=
 (PE (ps:=Yz) (pts:=[0,0]) hl Ll DX (by decide) PJ CJ Ml).mono (by
  rintro e W' ⟨a,c,rfl,K,D⟩;obtain⟨d,y⟩:=ZN (l:=(Zb none default Yz [0,0]).2.2.1) (j:=0) (by rw[Ml.2.2];decide)
  have O:d.P=YG:=by
   have h:=AC;rw[zH,y]at h;exact h
  obtain⟨b,off,vm,vp,vb,rfl,-,Z,I,-,-,-,J,-,-,z,-⟩:=K.cellAt y;rw[O]at z;obtain⟨X,U,rfl⟩:=z.form
  exact⟨b,off,c,X,_,U,rfl,Z,I,by simpa using J,z,D⟩)
theorem GG{W:World}{vl:Value}(hl:Hyps (Z2 W) W vl [(Z5 k16B,0),(Z5 X4,1)]) :
  Calls Tryz.prog 8 #[.pointer none,vl] W λ e W'=>∃a c,e=.returned (.tuple #[.slice a 0 c,.int .i64 1,.int .i64 0])/\Ext W W' :=
 (PE (ps:=Yo) (pts:=[0,1]) hl Ll Ie (by decide) PD EU AB).mono (by
  rintro e W' ⟨a,c,rfl,-,hx⟩
  exact⟨a,c,rfl,hx⟩)
theorem Si:Zv 0:=by unfold Zv;omega
theorem z3:Zv 1:=by unfold Zv;omega
theorem VZ(w:World) :
  Calls Tryz.prog 5 #[] w λ e w'=>e=.returned (.bool true)/\Ext w w':=by
 have hnot:∀(x:Bool) (w:World),(Op.unary .not (.bool x)).run Tryz.prog w=.ok (.bool (!x)) w:=λ _ _=>rfl
 go_enter Tryz.func5,Tryz.ntmps5
 have f2:=Z_ (uP w);go_wp2_with fail;refine(Q1 1 w (by unfold Zv;omega)).mono ?_;rintro e w1 ⟨v1,rfl,cp,e5⟩;have fz:=Z_ (f2.o.trans e5);have gn:=Z_ (ut cp uK);obtain⟨a1,c1,rfl⟩:=cp.form;clear e5 cp;go_wp2_with fail;refine(Q1 2 w1 (by unfold Zv;omega)).mono ?_;rintro e w2 ⟨v2,rfl,cu,cg⟩;have fF:=Z_ (fz.o.trans cg);have gG:=Z_ (uG gn.o cg);have gk:=Z_ (ut cu uK);obtain⟨a2,c2,rfl⟩:=cu.form;clear cg cu;go_wp2_with fail;refine(Q1 3 w2 (by unfold Zv;omega)).mono ?_;rintro e w3 ⟨v3,rfl,ct,bN⟩;have fv:=Z_ (fF.o.trans bN);have dt:=Z_ (uG gG.o bN);have dF:=Z_ (uG gk.o bN);have fu:=Z_ (ut ct uK);obtain⟨a3,c3,rfl⟩:=ct.form;clear bN ct;go_wp2_with fail;refine(TF (S:=Z2 w3) _ _ Ww Xr w3 (λ _ h=>h) dF.o dt.o (Yh (by kernel_rfl)) (Yh (by kernel_rfl)) (Xx (by kernel_rfl)) (λ k hk=>UR (q:=ZP Xr) (by kernel_rfl) (by kernel_rfl) k (by rw[V4];exact hk))).mono ?_;rw[Nc];rintro e w4 ⟨v4,rfl,cr,af⟩;have f0:=Z_ (fv.o.trans af);have g0:=Z_ (uG dt.o af);have gf:=Z_ (uG dF.o af);have gl:=Z_ (uG fu.o af);have fA:=Z_ (ut cr (X_ (λ _ h=>h) af));obtain⟨a4,c4,rfl⟩:=cr.form;clear af cr;go_wp2_with fail;refine(UH (S:=Z2 w4) _ k16B w4 fA.o (λ _ h=>h) (Xx (by kernel_rfl)) (TT (Yh (by kernel_rfl)))).mono ?_;rintro e w5 ⟨v5,rfl,ch,aS⟩;have f7:=Z_ (f0.o.trans aS);have f3:=Z_ (uG g0.o aS);have ft:=Z_ (uG gf.o aS);have ga:=Z_ (uG gl.o aS);have cc:=Z_ (z06.old ch uK);obtain⟨a5,c5,rfl⟩:=ch.form;clear aS ch;obtain⟨bl,bb⟩:∃n,n=(Z5 k16B).length:=⟨_,rfl⟩
 rw[<-bb]at cc;rw[<-bb];have c6:Hd (Hyps (Z2 (w5.alloc (.cells #[.slice a5 bl c5,.int .i64 0] 37))) (w5.alloc (.cells #[.slice a5 bl c5,.int .i64 0] 37)) (.slice (some ⟨w5.heap.size,0,none⟩) 1 1) [(Z5 k16B,0)]):=Z_ (Et (by show _<_;rw[z00];exact zk _) (ZJ _ _ _ rfl rfl) (ZJ _ _ _ rfl rfl) Si (z06.on cc.o ((uP _).alloc _)));have y:=Z_ (uO (uP w5) (.cells #[.slice a5 bl c5,.int .i64 0] 37));obtain⟨w6,cF⟩:∃Y,Y=(w5.alloc (.cells #[.slice a5 bl c5,.int .i64 0] 37)):=⟨_,rfl⟩
 rw[<-cF]at c6 y;obtain⟨bL1,D⟩:∃b,b=w5.heap.size:=⟨_,rfl⟩
 rw[<-D]at c6;have fG:=Z_ (f7.o.trans y.o);have gg:=Z_ (uG f3.o y.o);have fq:=Z_ (uG ft.o y.o);have fP:=Z_ (uG ga.o y.o);have d5:=Z_ cF;have d7:=Z_ D;clear bb cF D y;go_wp2_with fail;rw[<-d5.o,<-d7.o];refine(Fv c6.o).mono ?_;rintro e w7 ⟨aA,cA,rfl,bf⟩;have gN:=Z_ (fG.o.trans bf);have f5:=Z_ (uG gg.o bf);have eg:=Z_ (uG fq.o bf);have dm:=Z_ (uG fP.o bf);clear bf;go_wp2_with fail;refine(PF (S:=Z2 w7) _ _ Ww Xk w7 (λ _ h=>h) eg.o dm.o (Yh (by kernel_rfl)) (Yh (by kernel_rfl)) (Xx (by kernel_rfl)) (λ k hk=>UR (q:=Xk) (by kernel_rfl) (by kernel_rfl) k hk)).mono ?_;rw[FC];rintro e w8 ⟨v8,rfl,cP,ai⟩;have gu:=Z_ (gN.o.trans ai);have fn:=Z_ (uG f5.o ai);have f4:=Z_ (uG eg.o ai);have fB:=Z_ (uG dm.o ai);have gq:=Z_ (ut cP (X_ (λ _ h=>h) ai));obtain⟨a8,c8,rfl⟩:=cP.form;clear ai cP;go_wp2_with fail;refine(TF (S:=Z2 w8) _ _ Qe Xr w8 (λ _ h=>h) gq.o fn.o (Yh (by kernel_rfl)) (Yh (by kernel_rfl)) (Xx (by kernel_rfl)) (λ k hk=>UR (q:=ZP Xr) (by kernel_rfl) (by kernel_rfl) k (by rw[V4];exact hk))).mono ?_;rw[Bp];rintro e w9 ⟨v9,rfl,cy,ah⟩;have gF:=Z_ (gu.o.trans ah);have fx:=Z_ (uG fn.o ah);have gv:=Z_ (uG f4.o ah);have f9:=Z_ (uG fB.o ah);have fr:=Z_ (ut cy (X_ (λ _ h=>h) ah));obtain⟨a9,c9,rfl⟩:=cy.form;clear ah cy;go_wp2_with fail;refine(UH (S:=Z2 w9) _ zhf w9 fr.o (λ _ h=>h) (Xx (by kernel_rfl)) (TT (Yh (by kernel_rfl)))).mono ?_;rintro e ed ⟨v10,rfl,a7,ad⟩;have e7:=Z_ (gF.o.trans ad);have fl:=Z_ (uG fx.o ad);have b6:=Z_ (uG gv.o ad);have cd:=Z_ (uG f9.o ad);have cj:=Z_ (z06.old a7 uK);obtain⟨bn,bt,rfl⟩:=a7.form;clear ad a7;go_wp2_with fail;refine(TF (S:=Z2 ed) _ _ Ww Xk ed (λ _ h=>h) b6.o cd.o (Yh (by kernel_rfl)) (Yh (by kernel_rfl)) (Xx (by kernel_rfl)) (λ k hk=>UR (q:=ZP Xk) (by kernel_rfl) (by kernel_rfl) k (by rw[V4];exact hk))).mono ?_;rw[BA];rintro e df ⟨v11,rfl,ax,K⟩;have dG:=Z_ (e7.o.trans K);have e1:=Z_ (uG fl.o K);have el:=Z_ (uG b6.o K);have HZ11:=Z_ (uG cd.o K);have cz:=Z_ (z06.on cj.o K);have en:=Z_ (ut ax (X_ (λ _ h=>h) K));obtain⟨a11,c11,rfl⟩:=ax.form;clear K ax;go_wp2_with fail;refine(UH (S:=Z2 df) _ Vj df en.o (λ _ h=>h) (Xx (by kernel_rfl)) (TT (Yh (by kernel_rfl)))).mono ?_;rintro e al ⟨v12,rfl,a6,aa⟩;have e9:=Z_ (dG.o.trans aa);have fm:=Z_ (uG e1.o aa);have e0:=Z_ (uG el.o aa);have ap:=Z_ (z06.on cz.o aa);have az:=Z_ (z06.old a6 uK);obtain⟨bm,b1,rfl⟩:=a6.form;clear aa a6;obtain⟨bu,ay⟩:∃n,n=(Z5 zhf).length:=⟨_,rfl⟩
 rw[<-ay]at ap;obtain⟨bg,aB⟩:∃n,n=(Z5 Vj).length:=⟨_,rfl⟩
 rw[<-aB]at az;rw[<-ay,<-aB];have cl:Hd (Hyps (Z2 (al.alloc (.cells #[.slice bn bu bt,.int .i64 0,.slice bm bg b1,.int .i64 0] 37))) (al.alloc (.cells #[.slice bn bu bt,.int .i64 0,.slice bm bg b1,.int .i64 0] 37)) (.slice (some ⟨al.heap.size,0,none⟩) 2 2) [(Z5 zhf,0),(Z5 Vj,0)]):=Z_ (Pj (by show _<_;rw[z00];exact zk _) (ZJ _ _ _ rfl rfl) (ZJ _ _ _ rfl rfl) (ZJ _ _ _ rfl rfl) (ZJ _ _ _ rfl rfl) Si Si (z06.on ap.o ((uP _).alloc _)) (z06.on az.o ((uP _).alloc _)));have y:=Z_ (uO (uP al) (.cells #[.slice bn bu bt,.int .i64 0,.slice bm bg b1,.int .i64 0] 37));obtain⟨w13,aN⟩:∃Y,Y=(al.alloc (.cells #[.slice bn bu bt,.int .i64 0,.slice bm bg b1,.int .i64 0] 37)):=⟨_,rfl⟩
 rw[<-aN]at cl y;obtain⟨bL2,D⟩:∃b,b=al.heap.size:=⟨_,rfl⟩
 rw[<-D]at cl;have fh:=Z_ (e9.o.trans y.o);have db:=Z_ (uG fm.o y.o);have e2:=Z_ (uG e0.o y.o);have e4:=Z_ aN;have d0:=Z_ D;clear ay aB aN D y;go_wp2_with fail;rw[<-e4.o,<-d0.o];refine(Az cl.o).mono ?_;rintro e b3 ⟨bB,oB,cB,aR,nR,cR,rfl,hcB1,hcB2,fp,et,ae⟩;have dp:=Z_ (fh.o.trans ae);have cb:=Z_ (uG db.o ae);have ca:=Z_ (uG e2.o ae);have ec:=Z_ et;have dz:=Z_ fp;have f1:=Z_ (uP b3);clear ae et fp;go_wp2_with fail;refine(TF (S:=Z2 b3) _ _ Ww Xr b3 (λ _ h=>h) ca.o cb.o (Yh (by kernel_rfl)) (Yh (by kernel_rfl)) (Xx (by kernel_rfl)) (λ k hk=>UR (q:=ZP Xr) (by kernel_rfl) (by kernel_rfl) k (by rw[V4];exact hk))).mono ?_;rw[Nc];rintro e d6 ⟨v15,rfl,aP,U⟩;have eq:=Z_ (dp.o.trans U);have c0:=Z_ (Ext.trans (uP b3) U);have ez:=Z_ (uG cb.o U);have dq:=Z_ (uG ca.o U);have fg:=Z_ (z06.on ec.o U);have eh:=Z_ (ut aP (X_ (λ _ h=>h) U));obtain⟨a15,c15,rfl⟩:=aP.form;clear U aP;go_wp2_with fail;refine(UH (S:=Z2 d6) _ k16B d6 eh.o (λ _ h=>h) (Xx (by kernel_rfl)) (TT (Yh (by kernel_rfl)))).mono ?_;rintro e em ⟨v16,rfl,a0,X⟩;have e6:=Z_ (eq.o.trans X);have cQ:=Z_ (c0.o.trans X);have ce:=Z_ (uG ez.o X);have b7:=Z_ (uG dq.o X);have ei:=Z_ (z06.on fg.o X);have co:=Z_ (z06.old a0 uK);obtain⟨bs,b4,rfl⟩:=a0.form;clear X a0;go_wp2_with fail;refine(PF (S:=Z2 em) _ _ Ww Xr em (λ _ h=>h) b7.o ce.o (Yh (by kernel_rfl)) (Yh (by kernel_rfl)) (Xx (by kernel_rfl)) (λ k hk=>UR (q:=Xr) (by kernel_rfl) (by kernel_rfl) k hk)).mono ?_;rw[Ce];rintro e d3 ⟨v17,rfl,aF,z⟩;have d9:=Z_ (e6.o.trans z);have c7:=Z_ (cQ.o.trans z);have d1:=Z_ (uG ce.o z);have ep:=Z_ (uG b7.o z);have d2:=Z_ (z06.on ei.o z);have cn:=Z_ (z06.on co.o z);have eo:=Z_ (ut aF (X_ (λ _ h=>h) z));obtain⟨a17,c17,rfl⟩:=aF.form;clear z aF;go_wp2_with fail;refine(UH (S:=Z2 d3) _ X4 d3 eo.o (λ _ h=>h) (Xx (by kernel_rfl)) (TT (Yh (by kernel_rfl)))).mono ?_;rintro e ag ⟨v18,rfl,ar,O⟩;have eP:=Z_ (d9.o.trans O);have cv:=Z_ (c7.o.trans O);have d4:=Z_ (uG d1.o O);have dr:=Z_ (uG ep.o O);have er:=Z_ (z06.on d2.o O);have au:=Z_ (z06.on cn.o O);have aG:=Z_ (z06.old ar uK);obtain⟨b2,bA,rfl⟩:=ar.form;clear O ar;obtain⟨bv,ba⟩:∃n,n=(Z5 k16B).length:=⟨_,rfl⟩
 rw[<-ba]at au;obtain⟨bx,aH⟩:∃n,n=(Z5 X4).length:=⟨_,rfl⟩
 rw[<-aH]at aG;rw[<-ba,<-aH];have ci:Hd (Hyps (Z2 (ag.alloc (.cells #[.slice bs bv b4,.int .i64 0,.slice b2 bx bA,.int .i64 1] 37))) (ag.alloc (.cells #[.slice bs bv b4,.int .i64 0,.slice b2 bx bA,.int .i64 1] 37)) (.slice (some ⟨ag.heap.size,0,none⟩) 2 2) [(Z5 k16B,0),(Z5 X4,1)]):=Z_ (Pj (by show _<_;rw[z00];exact zk _) (ZJ _ _ _ rfl rfl) (ZJ _ _ _ rfl rfl) (ZJ _ _ _ rfl rfl) (ZJ _ _ _ rfl rfl) Si z3 (z06.on au.o ((uP _).alloc _)) (z06.on aG.o ((uP _).alloc _)));have y:=Z_ (uO (uP ag) (.cells #[.slice bs bv b4,.int .i64 0,.slice b2 bx bA,.int .i64 1] 37));obtain⟨w19,av⟩:∃Y,Y=(ag.alloc (.cells #[.slice bs bv b4,.int .i64 0,.slice b2 bx bA,.int .i64 1] 37)):=⟨_,rfl⟩
 rw[<-av]at ci y;obtain⟨bL3,D⟩:∃b,b=ag.heap.size:=⟨_,rfl⟩
 rw[<-D]at ci;have fk:=Z_ (eP.o.trans y.o);have cm:=Z_ (cv.o.trans y.o);have eR:=Z_ (uG d4.o y.o);have d8:=Z_ (uG dr.o y.o);have fd:=Z_ (z06.on er.o y.o);have e3:=Z_ av;have ds:=Z_ D;clear ba aH av D y;go_wp2_with fail;rw[<-e3.o,<-ds.o];refine(GG ci.o).mono ?_;rintro e ac ⟨aC,cC,rfl,I⟩;have eB:=Z_ (fk.o.trans I);have cG:=Z_ (cm.o.trans I);have eu:=Z_ (uG eR.o I);have fc:=Z_ (uG d8.o I);have ff:=Z_ (z06.on fd.o I);have fR:=Z_ I;clear I;have f6:Hd (ac.cell? ⟨bB,oB+2,none⟩=some (.slice aR nR cR)):=Z_ (cG.o.cell dz.o);have aj:Hd (∀Y:World,Ext ac Y->Y.cell? ⟨bB,oB+2,none⟩=some (.slice aR nR cR)):=Z_ (λ Y hY=>hY.cell f6.o);have CS:Hd (∀Y:World,Calls Tryz.prog 16 #[.int .i64 2] Y λ e w'=>∃v',e=.returned v'/\RTs (New Y w') w' v' Wz/\Ext Y w'):=Z_ (λ Y=>by have h:=FV 2 Y (by omega);rw[GS]at h;exact h);have CU:Hd (∀(Y:World) (v:Value),Ext ac Y->RTs (Z2 Y) Y v Wz->Calls Tryz.prog 15 #[v,.slice a2 1 c2] Y λ e w'=>∃v',e=.returned v'/\RTs (ZG (Z2 Y) Y w') w' v' TB/\Ext Y w'):=Z_ (λ Y v hW J=>by have h:=Ho (S:=Z2 Y) v _ Wz Ww Y (λ _ h=>h) J (uG fc.o hW) (Yh (by kernel_rfl)) (Yh (by kernel_rfl)) (Xx (by kernel_rfl)) (Xx (by kernel_rfl)) (EQ (by kernel_rfl) (by kernel_rfl));rw[Ju]at h;exact h);have CB:Hd (∀(Y:World) (v:Value),Ext ac Y->RTs (Z2 Y) Y v TB->Calls Tryz.prog 11 #[v,.slice a1 1 c1] Y λ e w'=>∃v',e=.returned v'/\RTs (ZG (Z2 Y) Y w') w' v' YG/\Ext Y w'):=Z_ (λ Y v hW J=>by have h:=TF (S:=Z2 Y) v _ TB Xr Y (λ _ h=>h) J (uG eu.o hW) (Yh (by kernel_rfl)) (Yh (by kernel_rfl)) (Xx (by kernel_rfl)) (λ k hk=>UR (q:=ZP Xr) (by kernel_rfl) (by kernel_rfl) k (by rw[V4];exact hk));rw[Gl]at h;exact h);have CP:=Z_ (λ(Y:World) (v:Value) (J:RTs (Z2 Y) Y v YG)=>UH (S:=Z2 Y) v YG Y J (λ _ h=>h) (Xx (by kernel_rfl)) (TT (Yh (by kernel_rfl))));have CE:Hd (∀(Y:World) (v:Value),Ext ac Y->z06 (Z2 Y) Y v (Z5 YG)->Calls Tryz.prog 14 #[.slice aR nR cR,v] Y λ e w'=>e=.returned (.bool true)/\Ext Y w'):=Z_ (λ Y v hW J=>(ER _ v (Z5 YG) (Z5 YG) Y (z06.on ff.o hW) J (λ _ h=>h)).mono (by rintro e w' ⟨rfl,Z⟩;exact⟨by simp,Z⟩));have x0:Ext ac ac.drew:=Below.drew (uP ac);have S0:=aj.o _ x0;clear dz f1 fR;go_wp2
 go_region_held3 (λ Y=>Y.cell? ⟨bB,oB+2,none⟩=some (.slice aR nR cR)) (first|exact S0|exact S1|exact S2|exact S3|exact S4|exact S5)
  (first
   | (go_at_call 16;with_reducible refine(CS.o _).mono ?_
      rintro e u1 ⟨v1,rfl,J,Z⟩;have HZ:=Z_ (Ext.trans x0 Z);have S1:=aj.o _ HZ.o
      have HQ:=Z_ (ut J uK);have qf:∃a c,v1=Value.slice a 1 c:=J.form;obtain⟨aq,cq,rfl⟩:=qf;clear Z J)
   | (go_at_call 15;with_reducible refine(CU.o _ _ HZ.o HQ.o).mono ?_
      rintro e u2 ⟨v2,rfl,J,Z⟩;have HZ:=Z_ (HZ.o.trans Z);have S2:=aj.o _ HZ.o
      have HQ:=Z_ (ut J (X_ (λ _ h=>h) Z));have qf:∃a c,v2=Value.slice a 1 c:=J.form;obtain⟨aq2,cq2,rfl⟩:=qf;clear Z J)
   | (go_at_call 11;with_reducible refine(CB.o _ _ HZ.o HQ.o).mono ?_
      rintro e u3 ⟨v3,rfl,J,Z⟩;have HZ:=Z_ (HZ.o.trans Z);have S3:=aj.o _ HZ.o
      have HQ:=Z_ (ut J (X_ (λ _ h=>h) Z));have qf:∃a c,v3=Value.slice a 2 c:=J.form;obtain⟨aq3,cq3,rfl⟩:=qf;clear Z J)
   | (go_at_call 12;with_reducible refine(CP.o _ _ HQ.o).mono ?_
      rintro e u4 ⟨v4,rfl,J,Z⟩;have HZ:=Z_ (HZ.o.trans Z);have S4:=aj.o _ HZ.o
      have HQ:=Z_ (z06.old J uK);obtain⟨at2,ct2,rfl⟩:=J.form;obtain⟨nt2,cx⟩:∃n,n=(Z5 YG).length:=⟨_,rfl⟩;rw[<-cx]at HQ;rw[<-cx];clear Z J cx)
   | (go_at_call 14;with_reducible refine(CE.o _ _ HZ.o HQ.o).mono ?_
      rintro e u5 ⟨rfl,Z⟩;have HZ:=Z_ (HZ.o.trans Z);have S5:=aj.o _ HZ.o
      clear Z))
 all_goals
  go_wp2;go_ret;exact⟨rfl,eB.o.trans HZ.o⟩
end
section
open Go.RowKit Go.Deep Go.ChangeShapes Go.WideShapes
section
variable {H:Type} {enc:TypeId×Value->H} {w:World} {base:Nat} {spare:Nat->Bool} {held:Bool}
end
end
section
open Go.RowKit Go.Deep Go.ChangeShapes Go.WideShapes Go.ChangeAt Go.Joins
section
variable {H:Type} {enc:TypeId×Value->H} {w:World} {base:Nat} {spare:Nat->Bool} {held:Bool}
end
section
variable {H:Type} {enc:TypeId×Value->H} {W:World} {base b0:Nat} {sp:Nat->Bool} {held:Bool}
end
end
section
open Go.RowKit Go.Deep Go.ChangeShapes Go.WideShapes
theorem Db{α:Type}{l:List α}(h:l.length=4):∃a b c d,l=[a,b,c,d]:=by
 match l,h with
 | [a,b,c,d],_=>exact⟨a,b,c,d,rfl⟩
section
variable {H:Type} {enc:TypeId×Value->H} {w:World} {base:Nat} {spare:Nat->Bool} {held:Bool}
theorem Tryz.cells_rat:Tryz.prog.cellsOf 30=4:=by kernel_rfl
theorem Om{fuel:Nat}{c0 c1:Value}{x:DataW H×List MemPlace}(h:DataW.trod enc Tryz.prog w base spare held fuel 28 [c0,c1]=some x):∃r:RInt,c0=.bool r.neg/\U32s (· < w.heap.size) w c1 r.mag:=by
 obtain⟨fuel',J⟩:∃f,f=fuel:=⟨_,rfl⟩
 subst J;obtain⟨z0,z1,m',_,_,z,k1⟩:=trod_struct2 Tryz.underlying28 h;simp[Tryz.cells_bool,Tryz.cells_su32]at z k1;obtain⟨ng,D,_⟩:=DataW.trod_bool Tryz.underlying4 z;simp at D;subst D;obtain⟨I,y⟩:=LI k1;exact⟨⟨ng,I⟩,rfl,y⟩
theorem J8{fuel:Nat}{v:Value}{x:DataW H×List MemPlace}(h:DataW.trod enc Tryz.prog w base spare held fuel 23 [v]=some x):∃l,Rats (· < w.heap.size) w v l:=by
 obtain⟨n,b,off,f',hs,O⟩:=TO Tryz.underlying23 Tryz.cells_rat (by omega) h
 obtain⟨Z,U,hp⟩:=Ta (p:=λ j (r:RInt×RInt)=>∃vn vd,w.cell? ⟨b,off+j*4,none⟩=some (.bool r.1.neg) /\
  w.cell? ⟨b,off+j*4+1,none⟩=some vn/\w.cell? ⟨b,off+j*4+2,none⟩=some (.bool r.2.neg)/\w.cell? ⟨b,off+j*4+3,none⟩=some vd/\U32s (· < w.heap.size) w vn r.1.mag/\U32s (· < w.heap.size) w vd r.2.mag) (n:=n) (λ j hj=>by
  obtain⟨cs,y,h1,z,X⟩:=O j hj;obtain⟨y0,y1,m,_,_,J,K⟩:=trod_struct2 Tryz.underlying30 X;obtain⟨c0,c1,c2,c3,rfl⟩:=Db h1;simp[Tryz.cells_int]at J K;obtain⟨r0,rfl,D⟩:=Om J;obtain⟨r1,rfl,I⟩:=Om K
  exact⟨(r0,r1),c1,c3,z 0 (by omega),z 1 (by omega),z 2 (by omega),z 3 (by omega),D,I⟩)
 subst U;exact⟨Z,b,off,hs,hp⟩
end
end
section
open Go.RowKit Go.Deep Go.ChangeShapes Go.WideShapes
theorem Tryz.cells_hypo:Tryz.prog.cellsOf 37=2:=by kernel_rfl
section
variable {H:Type} {enc:TypeId×Value->H} {w:World} {base:Nat} {spare:Nat->Bool} {held:Bool}
theorem Gu{fuel:Nat}{v:Value}{x:DataW H×List MemPlace}(h:DataW.trod enc Tryz.prog w base spare held fuel 22 [v]=some x):∃l,Hyps (· < w.heap.size) w v l:=by
 obtain⟨n,b,off,f',hs,U⟩:=TO Tryz.underlying22 Tryz.cells_hypo (by omega) h
 obtain⟨D,X,hp⟩:=Ta (p:=λ j (y:List RTerm×Int)=>Zv y.2/\∃vp,w.cell? ⟨b,off+j*2,none⟩=some vp/\w.cell? ⟨b,off+j*2+1,none⟩=some (.int .i64 y.2)/\z06 (· < w.heap.size) w vp y.1) (n:=n) (λ j hj=>by
  obtain⟨cs,y,h1,I,Z⟩:=U j hj;obtain⟨y0,y1,m,_,_,J,O⟩:=trod_struct2 Tryz.underlying37 Z;obtain⟨c0,c1,rfl⟩:=Mk h1;simp[Tryz.cells_poly]at J O;obtain⟨D,z⟩:=Jo J;obtain⟨n1,K,_,w1⟩:=DataW.trod_int Tryz.underlying3 O;simp[Tryz.cells_i64]at K;subst K
  exact⟨(D,n1),Rp w1,c0,I 0 (by omega),I 1 (by omega),z⟩)
 subst X;exact⟨D,b,off,hs,hp⟩
end
end
end
end Go.Proofs.YtlbohjnfkhemlaaGreat
