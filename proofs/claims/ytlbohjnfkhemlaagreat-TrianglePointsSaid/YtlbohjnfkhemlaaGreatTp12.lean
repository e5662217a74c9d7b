/- A hypothesis, derived by itself; its class. -/
import Derived.ProofKit
import Derived.Deep.Slices
import Derived.Deep.Strs
import Derived.Test.YtlbohjnfkhemlaaGreatRows
import Derived.Lib.SmallJoins
import Derived.JoinedCond
import Derived.Laws.BitsLemmas
import Derived.Test.YtlbohjnfkhemlaaGreatTp11
set_option maxRecDepth 100000
set_option maxHeartbeats 16000000
namespace Go.Proofs.YtlbohjnfkhemlaaGreat
section
open Go.RowKit Go.Deep
theorem Hg{S:Nat->Prop}{w:World}{T:TypeId}{bz m:Nat}{V:Nat->Value}{cs:List PZ}(hr:w.rowIs bz T m V)(hm:m<=maxLen)(hl:cs.length=m)(h:∀i,i<m->z06 S w (V i) (Z5 (cs.getD i [])))(hS:S bz):z1w S w (.slice (some ⟨bz,0,none⟩) m m) (cs.map Z5):=by
 refine⟨bz,0,⟨_,m,by rw[zE,hl],by rw[zE,hl];exact zR _,hm,λ _=>rfl,λ _=>hS⟩,λ j p hj=>?_⟩;have y:=Zy hj;rw[zE,hl]at y;rw[Re (by rw[hl];exact y)]at hj;obtain rfl:=Option.some.inj hj;exact⟨V j,by rw[zr];exact hr.cell y,h j y⟩
structure AL (w0 wx:World) (s5:Value) (vP:Value) (n b5 bz:Nat) (a1:Option Addr) (k1:Nat):Prop where
 p:s5=.pointer (some ⟨b5,0,none⟩)
 b:Bx4 b5 wx (.bool (Z8 1).neg) (.slice a1 (Z8 1).mag.length k1) vP (.slice (some ⟨bz,0,none⟩) n n)
 r:wx.rowIs bz 35 n (λ _=>.slice none 0 0)
 u:U32s (λ k=>w0.heap.size<=k/\k<wx.heap.size/\k≠b5/\k≠bz) wx (.slice a1 (Z8 1).mag.length k1) (Z8 1).mag
 x:Ext w0 wx
 h5:w0.heap.size<=b5
 hz:w0.heap.size<=bz
 ne:b5≠bz
section
variable {w0 V:World} {vP x0 x1 x2 x3:Value} {n b5 bz k1:Nat} {a1:Option Addr} {R:Nat->Prop} {T:TypeId}
theorem AL.of(hx:Ext w0 V)(hb:Bx4 b5 V x0 x1 x2 x3)(hr:V.rowIs bz 35 n (λ _=>.slice none 0 0))(h5:w0.heap.size<=b5)(hz:w0.heap.size<=bz)(hne:b5≠bz)(hu:U32s R V (.slice a1 (Z8 1).mag.length k1) (Z8 1).mag)(hR:∀k,R k->w0.heap.size<=k/\k<V.heap.size/\k≠b5/\k≠bz) :
  AL w0 ((((V.setCell ⟨b5,0,none⟩ (.bool (Z8 1).neg)).setCell ⟨b5,1,none⟩ (.slice a1 (Z8 1).mag.length k1)).setCell ⟨b5,2,none⟩ vP).setCell ⟨b5,3,none⟩ (.slice (some ⟨bz,0,none⟩) n n)) (.pointer (some ⟨b5,0,none⟩)) vP n b5 bz a1 k1:=by
 have y:∀(S:Nat->Prop),¬ S b5->Kept S V ((((V.setCell ⟨b5,0,none⟩ (.bool (Z8 1).neg)).setCell ⟨b5,1,none⟩ (.slice a1 (Z8 1).mag.length k1)).setCell ⟨b5,2,none⟩ vP).setCell ⟨b5,3,none⟩ (.slice (some ⟨bz,0,none⟩) n n)):=λ S h=>(ux h _ _ _).trans (uH (a:=⟨b5,3,none⟩) h _);refine⟨rfl,hb.set4 _ _ _ _,hr.of_block (y (λ k=>k=bz) hne bz rfl),(hu.to (uN _ _) hR).to (y _ (λ h=>h.2.2.1 rfl)) (λ k h=>⟨h.1,?_,h.2.2⟩),(hx.set3 h5 _ _ _).setCell (p:=⟨b5,3,none⟩) h5 _,h5,hz,hne⟩;rw[z03,UT];exact h.2.1
theorem AL.new(hx:Ext w0 V)(hr:V.rowIs bz 35 n (λ _=>.slice none 0 0))(hz:w0.heap.size<=bz)(hu:U32s R V (.slice a1 (Z8 1).mag.length k1) (Z8 1).mag)(hR:∀k,R k->w0.heap.size<=k/\k<V.heap.size/\k≠bz) :
  AL w0 (V.alloc (.cells #[.bool (Z8 1).neg,.slice a1 (Z8 1).mag.length k1,vP,.slice (some ⟨bz,0,none⟩) n n] T)) (.pointer (some ⟨V.heap.size,0,none⟩)) vP n V.heap.size bz a1 k1:=by
 have y:Ext V (V.alloc (.cells #[.bool (Z8 1).neg,.slice a1 (Z8 1).mag.length k1,vP,.slice (some ⟨bz,0,none⟩) n n] T)):=uO (uP _) _;have z:bz<V.heap.size:=hr.lt;refine⟨rfl,uF (uP _),hr.of_block (y.block bz z),(hu.to (uN _ _) hR).to (uM y (λ k h=>h.2.1)) (λ k h=>⟨h.1,zU h.2.1 y.size,λ e=>by have:=h.2.1;omega,h.2.2⟩),hx.trans y,hx.size,hz,λ e=>by omega⟩
theorem AL.new2(hx:Ext w0 V)(hu:U32s R V (.slice a1 (Z8 1).mag.length k1) (Z8 1).mag)(hR:∀k,R k->w0.heap.size<=k/\k<V.heap.size) :
  AL w0 ((V.alloc (.cells #[.bool (Z8 1).neg,.slice a1 (Z8 1).mag.length k1,vP,.slice (some ⟨V.heap.size+1,0,none⟩) n n] T)).alloc (.cells (madeCells #[.slice none 0 0] n) 35)) (.pointer (some ⟨V.heap.size,0,none⟩)) vP n V.heap.size (V.heap.size+1) a1 k1:=by
 have z:Ext V (V.alloc (.cells #[.bool (Z8 1).neg,.slice a1 (Z8 1).mag.length k1,vP,.slice (some ⟨V.heap.size+1,0,none⟩) n n] T)):=uO (uP _) _;have y:=uO (uP (V.alloc (.cells #[.bool (Z8 1).neg,.slice a1 (Z8 1).mag.length k1,vP,.slice (some ⟨V.heap.size+1,0,none⟩) n n] T))) (.cells (madeCells #[.slice none 0 0] n) 35);have D:=World.rowIs_made (V.alloc (.cells #[.bool (Z8 1).neg,.slice a1 (Z8 1).mag.length k1,vP,.slice (some ⟨V.heap.size+1,0,none⟩) n n] T)) (.slice none 0 0) n 35;rw[z00]at D;refine⟨rfl,uF y,D,(hu.to (uN _ _) hR).to (uM (z.trans y) (λ k h=>h.2)) (λ k h=>⟨h.1,zU h.2 (z.trans y).size,λ e=>by have:=h.2;omega,λ e=>by have:=h.2;omega⟩),hx.trans (z.trans y),hx.size,Nat.le_succ_of_le hx.size,by omega⟩
end
theorem NT:Fit 1 1 (ZO 1 []):=by
 rw[show ZO 1 []=[((1:Int),([]:Z7))] by rfl];exact⟨⟨λ t ht=>by rw[zQ.1 ht];exact⟨by decide,by rfl⟩,yP _ _⟩,λ t ht=>by rw[zQ.1 ht];decide,zR _⟩
theorem Ox{m i:Nat}:∀b∈X9 m i,Fit 1 1 b:=λ b hb=>by
 unfold X9 at hb
 rcases yq hb with h|h
 ·rw[(wZ.1 h).2];exact VU.mono (by decide) (by decide)
 ·rw[h];exact NT
theorem Js{W:World}{al:Option Addr}{n cl i k N:Nat}{L:List (List RTerm×Int)}{ps:List PZ}{x:Int}(hl:Hyps (Z2 W) W (.slice al n cl) L)(hn:n=ps.length)(hi:L[i]? = some (Z5 (ps.getD i []),x))(hin:i<n)(fP:Fit k N (ps.getD i []))(h1k:1<=k)(h1N:1<=N)(hk:k<24)(hN:N<=1000000000)(hn6:n<=1000) :
  Calls Tryz.prog 20 #[.slice al n cl,.int .i64 (i:Nat)] W λ e w'=>∃v,e=.returned v/\DerV (New W w') w' v (Zo ps i)/\Ext W w':=by
 have HIP:=Z_ (info_parts uv);obtain⟨p,hp⟩:∃p,p=ps.getD i []:=⟨_,rfl⟩
 rw[<-hp]at hi fP;obtain⟨bl,off,vp,rfl,-,q1,q2,-,-,q5,-,q7⟩:=hl.cellAt hi;simp only at q5 q7;have cd:=Z_ q7;have c6:=Z_ fP;obtain⟨ap,cp,rfl⟩:=q7.form;obtain⟨np,b6⟩:∃z,z=(Z5 p).length:=⟨_,rfl⟩
 rw[<-b6]at cd q5;obtain⟨w0,ay⟩:∃Y,Y=W.alloc (.cells #[.bool false,.slice none 0 0,.slice none 0 0,.slice none 0 0] 48):=⟨_,rfl⟩
 have ar:Hd (Ext W w0):=Z_ (by rw[ay];exact uO (uP W) _);have b3:Hd (Bx4 W.heap.size w0 (.bool false) (.slice none 0 0) (.slice none 0 0) (.slice none 0 0)):=Z_ (by rw[ay];exact uF (uP _));have aa:=Z_ (λ(Y:World) (hY:Ext w0 Y)=>(ar.o.trans hY).cell q5);have CN:=Z_ (λ(Y:World)=>VM 1 Y (by decide));have ci:=Z_ (λ(Y:World) (z:Value) (hz:U32s (Z2 Y) Y z (Z8 1).mag)=>SM (W:=Y) (ng:=(Z8 1).neg) hz rfl (by decide));have az:=Z_ (zS hn (zS hin (zS hk (zS hN hn6))));have cg:=Z_ (zS h1k h1N);have cR:Hd (Zo ps i=WE ⟨1,p,X9 n i⟩):=Z_ (by unfold Zo;rw[<-hp,hn]);have hmq:=λ(Y:World)=>run_make_row' (P:=Tryz.prog) 46 35 (.slice none 0 0) 24 Tryz.underlying46 uv rfl .i64 .i64 n (by omega) (by omega) Y;have b7:=Z_ (show Ext w0 w0.drew from uI (uP _));clear hl hi fP q7 q5 hp b6 hn hk hN h1k h1N hn6
 go_enter Tryz.func20,Tryz.ntmps20
 go_upto_region 1 with fail
 rw[<-ay];clear ay
 go_cut [5] (λ s5 wx=>∃b5 bz a1 k1,Hd (AL w0 wx s5 (.slice ap np cp) n b5 bz a1 k1))
 case first=>
  have ai:=World.rowIs_made w0 (.slice none 0 0) n 35;have cC:=Z_ (λ(w1:World) (h:Ext (w0.alloc (.cells (madeCells #[.slice none 0 0] n) 35)).drew w1)=>ai.of_block (h.block _ ai.lt));have cy:=Z_ (λ(w1:World) (h:Ext ((w0.alloc (.cells (madeCells #[.slice none 0 0] n) 35)).alloc (.cells #[.bool false,.slice none 0 0,.slice none 0 0,.slice none 0 0] 48)).drew w1)=>(ai.alloc (.cells #[.bool false,.slice none 0 0,.slice none 0 0,.slice none 0 0] 48)).of_block (h.block _ (ai.alloc (.cells #[.bool false,.slice none 0 0,.slice none 0 0,.slice none 0 0] 48)).lt));have aq:=World.rowIs_made (w0.alloc (.cells #[.bool false,.slice none 0 0,.slice none 0 0,.slice none 0 0] 48)) (.slice none 0 0) n 35;rw[z00]at aq;have c5:=Z_ (λ(w1:World) (h:Ext ((w0.alloc (.cells #[.bool false,.slice none 0 0,.slice none 0 0,.slice none 0 0] 48)).alloc (.cells (madeCells #[.slice none 0 0] n) 35)).drew w1)=>aq.of_block (h.block _ aq.lt))
  have cA:=Z_ (λ(A:World)=>by
   have h:=World.rowIs_made (A.alloc (.cells #[.bool false,.slice none 0 0,.slice none 0 0,.slice none 0 0] 48)) (.slice none 0 0) n 35;rw[z00]at h
   exact h)
  have cu:Hd ((w0.alloc (.cells (madeCells #[.slice none 0 0] n) 35)).drew.heap.size=w0.heap.size+1):=Z_ (z00 _ _);have ch:Hd ((w0.alloc (.cells #[.bool false,.slice none 0 0,.slice none 0 0,.slice none 0 0] 48)).drew.heap.size=w0.heap.size+1):=Z_ (z00 _ _);have bn:Hd (((w0.alloc (.cells (madeCells #[.slice none 0 0] n) 35)).alloc (.cells #[.bool false,.slice none 0 0,.slice none 0 0,.slice none 0 0] 48)).drew.heap.size=w0.heap.size+1+1):=Z_ ((z00 _ _).trans (congrArg (· + 1) (z00 _ _)));have ah:Hd (((w0.alloc (.cells #[.bool false,.slice none 0 0,.slice none 0 0,.slice none 0 0] 48)).alloc (.cells (madeCells #[.slice none 0 0] n) 35)).drew.heap.size=w0.heap.size+1+1):=Z_ ((z00 _ _).trans (congrArg (· + 1) (z00 _ _)));clear ai aq
  go_region_held3 (λ Y=>Y.cell? ⟨bl,off+i*2,none⟩=some (.slice ap np cp))
   (first
    |with_reducible exact aa.o _ b7.o|with_reducible exact aa.o _ (((uP w0).alloc _).drew)|with_reducible exact aa.o _ ((((uP w0).alloc _).alloc _).drew)
    |with_reducible exact aa.o _ I.o|with_reducible exact aa.o _ (I.o.alloc _)|with_reducible exact aa.o _ ((I.o.alloc _).alloc _)
    |with_reducible exact aa.o _ (Ys I.o (zR _) _ _ _ _)|with_reducible exact aa.o _ (Ys I.o (zw _) _ _ _ _)
    |with_reducible exact aa.o _ (Ys (I.o.alloc _) (zR _) _ _ _ _)|with_reducible exact aa.o _ (Ys ((I.o.alloc _).alloc _) I.o.size _ _ _ _)|fail)
   (first
    |(go_at_call 38;(with_reducible refine(CN.o (w0.drew)).mono ?_);rintro e w1 ⟨v1,rfl,⟨aH,rfl,O⟩,J⟩;have I:=Z_ (b7.o.trans J);have ad:=Z_ J;have U:=Z_ O;have BY:=uF (W:=w1) (T:=48) (x0:=.bool false) (x1:=.slice none 0 0) (x2:=.slice none 0 0) (x3:=.slice none 0 0) (uO (uP _) (.cells (madeCells #[.slice none 0 0] n) 35));have BX:=Z_ BY;obtain⟨y0,y1,y2,y3,Z⟩:=BY;have a6:=Z 0;have ba:=Z 1;have a9:=Z 2;have bB:=Z 3;clear Z;obtain⟨a1,k1,rfl⟩:=O.form;clear J O)
    |(go_at_call 38;(with_reducible refine(CN.o ((w0.alloc (.cells (madeCells #[.slice none 0 0] n) 35)).drew)).mono ?_);rintro e w1 ⟨v1,rfl,⟨aH,rfl,O⟩,J⟩;have I:=Z_ ((((uP w0).alloc (.cells (madeCells #[.slice none 0 0] n) 35)).drew).trans J);have ad:=Z_ J;have U:=Z_ O;obtain⟨a1,k1,rfl⟩:=O.form;clear J O)
    |(go_at_call 38;(with_reducible refine(CN.o ((w0.alloc (.cells #[.bool false,.slice none 0 0,.slice none 0 0,.slice none 0 0] 48)).drew)).mono ?_);rintro e w1 ⟨v1,rfl,⟨aH,rfl,O⟩,J⟩;have I:=Z_ ((((uP w0).alloc (.cells #[.bool false,.slice none 0 0,.slice none 0 0,.slice none 0 0] 48)).drew).trans J);have ad:=Z_ J;have U:=Z_ O;have B0:=uF (W:=w0) (T:=48) (x0:=.bool false) (x1:=.slice none 0 0) (x2:=.slice none 0 0) (x3:=.slice none 0 0) ((uI (uP _)).trans J);have BX:=Z_ B0;have BY:=B0.ext (uO (uP _) (.cells (madeCells #[.slice none 0 0] n) 35));obtain⟨y0,y1,y2,y3,Z⟩:=BY;have a6:=Z 0;have ba:=Z 1;have a9:=Z 2;have bB:=Z 3;clear Z;obtain⟨a1,k1,rfl⟩:=O.form;clear J O)
    |(go_at_call 38;(with_reducible refine(CN.o (((w0.alloc (.cells (madeCells #[.slice none 0 0] n) 35)).alloc (.cells #[.bool false,.slice none 0 0,.slice none 0 0,.slice none 0 0] 48)).drew)).mono ?_);rintro e w1 ⟨v1,rfl,⟨aH,rfl,O⟩,J⟩;have I:=Z_ (((((uP w0).alloc (.cells (madeCells #[.slice none 0 0] n) 35)).alloc (.cells #[.bool false,.slice none 0 0,.slice none 0 0,.slice none 0 0] 48)).drew).trans J);have ad:=Z_ J;have U:=Z_ O;have BY:=uF (W:=w0.alloc (.cells (madeCells #[.slice none 0 0] n) 35)) (T:=48) (x0:=.bool false) (x1:=.slice none 0 0) (x2:=.slice none 0 0) (x3:=.slice none 0 0) ((uI (uP _)).trans J);rw[z00]at BY;have BX:=Z_ BY;obtain⟨y0,y1,y2,y3,Z⟩:=BY;have a6:=Z 0;have ba:=Z 1;have a9:=Z 2;have bB:=Z 3;clear Z;obtain⟨a1,k1,rfl⟩:=O.form;clear J O)
    |(go_at_call 38;(with_reducible refine(CN.o (((w0.alloc (.cells #[.bool false,.slice none 0 0,.slice none 0 0,.slice none 0 0] 48)).alloc (.cells (madeCells #[.slice none 0 0] n) 35)).drew)).mono ?_);rintro e w1 ⟨v1,rfl,⟨aH,rfl,O⟩,J⟩;have I:=Z_ (((((uP w0).alloc (.cells #[.bool false,.slice none 0 0,.slice none 0 0,.slice none 0 0] 48)).alloc (.cells (madeCells #[.slice none 0 0] n) 35)).drew).trans J);have ad:=Z_ J;have U:=Z_ O;have BY:=uF (W:=w0) (T:=48) (x0:=.bool false) (x1:=.slice none 0 0) (x2:=.slice none 0 0) (x3:=.slice none 0 0) ((((uP _).alloc (.cells (madeCells #[.slice none 0 0] n) 35)).drew).trans J);have BX:=Z_ BY;obtain⟨y0,y1,y2,y3,Z⟩:=BY;have a6:=Z 0;have ba:=Z 1;have a9:=Z 2;have bB:=Z 3;clear Z;obtain⟨a1,k1,rfl⟩:=O.form;clear J O)
    |fail)
  all_goals
   go_wp2_with fail
   go_meet
   first
    |(have q:=AL.new (T:=48) (vP:=.slice ap np cp) (I.o.alloc (.cells (madeCells #[.slice none 0 0] n) 35)) (World.rowIs_made w1 (.slice none 0 0) n 35) I.o.size (U.o.to (S':=New w0 w1) (uM (uO (uP _) _) (λ _ h=>h.2)) (λ _ h=>h)) (λ k h=>⟨h.1,by rw[z00];exact xJ h.2,λ e=>by have:=h.2;omega⟩);rw[z00]at q;with_reducible exact⟨_,_,_,_,Z_ q⟩)
    |(have q:=AL.new (T:=48) (vP:=.slice ap np cp) I.o (cC.o w1 ad.o) (zR _) U.o (λ k h=>⟨by have h1:=h.1;rw[cu.o]at h1;omega,h.2,λ e=>by have h1:=h.1;rw[cu.o]at h1;omega⟩);with_reducible exact⟨_,_,_,_,Z_ q⟩)
    |(have q:=AL.of (vP:=.slice ap np cp) ((I.o.alloc (.cells #[.bool false,.slice none 0 0,.slice none 0 0,.slice none 0 0] 48)).alloc (.cells (madeCells #[.slice none 0 0] n) 35)) BX.o (cA.o w1) I.o.size (Nat.le_succ_of_le I.o.size) (by omega) (U.o.to (S':=New w0 w1) (uM (uO (uO (uP _) _) _) (λ _ h=>h.2)) (λ _ h=>h)) (λ k h=>⟨h.1,by rw[z00,z00];have:=h.2;omega,λ e=>by have:=h.2;omega,λ e=>by have:=h.2;omega⟩);with_reducible exact⟨_,_,_,_,Z_ q⟩)
    |(have q:=AL.of (vP:=.slice ap np cp) I.o BX.o (cy.o w1 ad.o) (zw _) (zR _) (by omega) U.o (λ k h=>⟨by have h1:=h.1;rw[bn.o]at h1;omega,h.2,λ e=>by have h1:=h.1;rw[bn.o]at h1;omega,λ e=>by have h1:=h.1;rw[bn.o]at h1;omega⟩);with_reducible exact⟨_,_,_,_,Z_ q⟩)
    |(have q:=AL.of (vP:=.slice ap np cp) (I.o.alloc (.cells (madeCells #[.slice none 0 0] n) 35)) (BX.o.ext (uO (uP _) (.cells (madeCells #[.slice none 0 0] n) 35))) (World.rowIs_made w1 (.slice none 0 0) n 35) (zR _) I.o.size (by have h1:=BX.o.lt;omega) (U.o.to (uM (uO (uP _) _) (λ _ h=>h.2)) (λ _ h=>h)) (λ k h=>⟨by have h1:=h.1;rw[ch.o]at h1;omega,by rw[z00];exact xJ h.2,λ e=>by have h1:=h.1;rw[ch.o]at h1;omega,λ e=>by have h1:=h.2;omega⟩);with_reducible exact⟨_,_,_,_,Z_ q⟩)
    |(have q:=AL.of (vP:=.slice ap np cp) I.o BX.o (c5.o w1 ad.o) (zR _) (zw _) (by omega) U.o (λ k h=>⟨by have h1:=h.1;rw[ah.o]at h1;omega,h.2,λ e=>by have h1:=h.1;rw[ah.o]at h1;omega,λ e=>by have h1:=h.1;rw[ah.o]at h1;omega⟩);with_reducible exact⟨_,_,_,_,Z_ q⟩)
    |(have q:=AL.new2 (T:=48) (n:=n) (vP:=.slice ap np cp) I.o U.o (λ k h=>⟨h.1,h.2⟩);with_reducible exact⟨_,_,_,_,Z_ q⟩)
    |fail
 case rest=>
  obtain⟨b5,bz,a1,k1,hA⟩:=hcut;obtain rfl:=hA.out.p;have HA:=Z_ hA.out;obtain⟨n1,au⟩:∃z,z=(Z8 1).mag.length:=⟨_,rfl⟩
  obtain⟨g1,aG⟩:∃z,z=(Z8 1).neg:=⟨_,rfl⟩
  have bm:=Z_ (HA.o.b);have cr:=Z_ (HA.o.u);rw[<-au,<-aG]at bm;rw[<-au]at cr;rw[<-aG]at ci;have ct:=Z_ (zS au aG);have cq:=Z_ (show Ext wc wc.drew from uI (uP _));have ax:=Z_ (λ(Y:World) (hY:Ext wc Y)=>hY.cell bm.o.c3);clear hA au aG
  go_upto_region 2 with fail
  go_cut [] (λ wx=>∃a3 n3 k3,Hd (Bx4 b5 wx (.bool g1) (.slice a1 n1 k1) (.slice ap np cp) (.slice (some ⟨bz,0,none⟩) n n))/\Hd (wx.rowIs bz 35 n (λ j=>if j=i then .slice a3 n3 k3 else .slice none 0 0))/\Hd (z06 (λ k=>wc.heap.size<=k/\k<wx.heap.size) wx (.slice a3 n3 k3) (Z5 (ZO 1 [])))/\Hd (U32s (Z2 wx) wx (.slice a1 n1 k1) (Z8 1).mag)/\Hd (Ext w0 wx))
  case first=>
   go_region_held3 (λ Y=>Y.cell? ⟨b5,3,none⟩=some (.slice (some ⟨bz,0,none⟩) n n))
    (first
     |with_reducible exact ax.o _ cq.o
     |with_reducible exact ax.o _ a7.o
     |with_reducible exact ax.o _ ae.o
     |(with_reducible exact ZZ (ax.o _ ae.o) (ab cP.o))
     |fail)
    (first
     |(go_at_call 38;(with_reducible refine(CN.o _).mono ?_);rintro e w2 ⟨v2,rfl,⟨vm2,rfl,bx⟩,ca⟩;have a7:=Z_ (cq.o.trans ca);have cQ:=Z_ (YQ bx);obtain⟨a2,k2,rfl⟩:=bx.form;have aN:=Z_ (ci.o w2 _ cQ.o);obtain⟨n2,a0⟩:∃z,z=(Z8 1).mag.length:=⟨_,rfl⟩;rw[<-ct.o.2,<-a0];rw[<-a0]at aN;clear ca bx a0)
     |(go_at_call 39;(with_reducible refine aN.o.mono ?_);rintro e w3 ⟨v3,rfl,bg,cv⟩;have ae:=Z_ (a7.o.trans cv);have av:=Z_ (bg.to (S':=New wc w3) (uN _ _) (λ k hk=>⟨zT a7.o.size hk.1,hk.2⟩));have cP:=Z_ (Ne.symm HA.o.ne);have aC:=HA.o.r.of_block (ae.o.block _ HA.o.r.lt);have z0:=aC.cell hin;have z1:=aC.frozen i;have cF:=Z_ aC;obtain⟨a3,k3,rfl⟩:=bg.form;obtain⟨n3,bf⟩:∃z,z=(Z5 (ZO 1 [])).length:=⟨_,rfl⟩;rw[<-bf];rw[<-bf]at av;clear aC bg cv bf)
     |fail)
   all_goals
    go_wp2_with fail
    go_meet
    refine⟨_,_,_,Z_ ((bm.o.ext ae.o).same (Yx _ _ _ HA.o.ne)),Z_ (cF.o.set i _),Z_ ((av.o.to (uH (a:=⟨bz,i,none⟩) (λ h=>by have h1:=h.1;have h2:=HA.o.r.lt;simp only at h1;omega) _) (λ k h=>⟨h.1,by rw[z03];exact h.2⟩))),Z_ (((cr.o.to (S':=λ k=>k<w3.heap.size/\k≠bz) (uM ae.o (λ k h=>h.2.1)) (λ k h=>⟨zU h.2.1 ae.o.size,h.2.2.2⟩)).to (uH (a:=⟨bz,i,none⟩) (λ h=>h.2 rfl) _) (λ k h=>by show k<(World.heap _).size;rw[z03];exact h.1))),Z_ ((HA.o.x.trans ae.o).setCell (p:=⟨bz,i,none⟩) HA.o.hz _)⟩
  case rest=>
   rename World=>wy
   obtain⟨a3,n3,k3,af,cc,av,U,aj⟩:=hcut;have cz:=Z_ (cd.o.to (S':=Z2 wy) (uM (ar.o.trans aj.o) (λ _ h=>h)) (λ k h=>zU h (ar.o.trans aj.o).size));have co:n<=maxLen:=by have:=az.o.2.2.2.2;unfold maxLen;omega
   have bt:(X9 n i).length=n:=by unfold X9;rw[yy,xQ]
   have cm:z1w (Z2 wy) wy (.slice (some ⟨bz,0,none⟩) n n) ((X9 n i).map Z5):=Hg cc.o co bt (λ j hj=>by
    have hg:(X9 n i).getD j []=if j=i then ZO 1 [] else []:=by
     unfold X9;rw[DY (by rw[xQ];exact hin)]
     split
     ·rfl
     ·rw[zH,wF]
      split<;>rfl
    rw[hg]
    split
    ·exact av.o.to (uN _ _) (λ k hk=>hk.2)
    ·exact z06.nilv _ _ _ _ (by decide)) cc.o.lt
   have aR:DerV (Z2 wy) wy (.agg #[.bool g1,.slice a1 n1 k1,.slice ap np cp,.slice (some ⟨bz,0,none⟩) n n]) ⟨1,p,X9 n i⟩:=⟨_,_,_,by rw[ct.o.2],U.o,cz.o,cm⟩
   have b2:=cg.o.1;have aS:=cg.o.2;have CS:=Z_ (Lq (W:=wy) (K:=1) aR (show(0:Int)<1 by decide) c6.o (λ b hb=>(Ox b hb).mono b2 aS) b2 (by show(X9 n i).length<=_;rw[bt];have:=az.o.2.2.2.2;omega) (show ZX (1:Int)<=1 by decide) (by have:=az.o.2.2.1;omega) (by have:=az.o.2.2.2.1;omega));rw[<-cR.o]at CS;have c0:=af.o.c0;have c1:=af.o.c1;have c2:=af.o.c2;have c3:=af.o.c3;clear co bt cm aR b2 aS;go_wp2_with fail;(with_reducible refine CS.o.mono ?_);rintro e w5 ⟨v5,rfl,⟨vn5,vp5,vb5,rfl,a5,bs,a4⟩,aA⟩;have cn:=Z_ (aj.o.trans aA);have cB:Hd (wy.heap.size<=w5.heap.size/\b5<wy.heap.size):=Z_ ⟨aA.size,af.o.lt⟩;have bN:=Z_ a5;have b1:=Z_ bs;have bu:=Z_ a4;have ac:=Z_ (af.o.ext aA);have HB4:=Z_ (b3.o.ext cn.o);obtain⟨e1,k5,rfl⟩:=a5.form;obtain⟨e2,k6,rfl⟩:=bs.form;obtain⟨e3,k7,rfl⟩:=a4.form;obtain⟨D,hD⟩:∃D,D=Zo ps i:=⟨_,rfl⟩
   rw[<-hD]at bN b1 bu⊢;have c4:=Z_ hD;obtain⟨m5,b4⟩:∃z,z=(Z8 D.N).mag.length:=⟨_,rfl⟩
   obtain⟨g5,bb⟩:∃z,z=(Z8 D.N).neg:=⟨_,rfl⟩
   obtain⟨m6,bA⟩:∃z,z=(Z5 D.P).length:=⟨_,rfl⟩
   obtain⟨m7,bv⟩:∃z,z=(D.By.map Z5).length:=⟨_,rfl⟩
   rw[<-b4]at bN;rw[<-bA]at b1;rw[<-bv]at bu;rw[<-b4,<-bb,<-bA,<-bv];have cG:=Z_ bb;have d0:=ac.o.c0;have d1:=ac.o.c1;have d2:=ac.o.c2;have d3:=ac.o.c3;have f0:=ac.o.fz 0;have f1:=ac.o.fz 1;have f2:=ac.o.fz 2;have f3:=ac.o.fz 3;obtain⟨w6,ag⟩:∃Y,Y=(((w5.setCell ⟨b5,0,none⟩ (.bool g5)).setCell ⟨b5,1,none⟩ (.slice e1 m5 k5)).setCell ⟨b5,2,none⟩ (.slice e2 m6 k6)).setCell ⟨b5,3,none⟩ (.slice e3 m7 k7):=⟨_,rfl⟩
   have cb:∀(S:Nat->Prop),¬ S b5->Kept S w5 w6:=λ S h=>by rw[ag];exact(ux h _ _ _).trans (uH (a:=⟨b5,3,none⟩) h _)
   have cx:=Z_ cb;have ah:Hd (w6.heap.size=w5.heap.size):=Z_ (by rw[ag,z03,UT]);have ce:Hd (Ext w0 w6):=Z_ (by rw[ag];exact(cn.o.set3 HA.o.h5 _ _ _).setCell (p:=⟨b5,3,none⟩) HA.o.h5 _);have aB:Hd (Bx4 b5 w6 (.bool g5) (.slice e1 m5 k5) (.slice e2 m6 k6) (.slice e3 m7 k7)):=Z_ (by rw[ag];exact ac.o.set4 _ _ _ _);have X:=Z_ (b3.o.ext ce.o);clear a5 bs a4 aA hD b4 bb bA bv c0 c1 c2 c3 CS cb
   go_upto_region 4 with fail
   rw[<-ag];clear ag d0 d1 d2 d3 f0 f1 f2 f3;have d0:=aB.o.c0;have d1:=aB.o.c1;have d2:=aB.o.c2;have d3:=aB.o.c3;have r0:=X.o.c0;have r1:=X.o.c1;have r2:=X.o.c2;have r3:=X.o.c3;have r4:=X.o.fz 0;have r5:=X.o.fz 1;have r6:=X.o.fz 2;have r7:=X.o.fz 3;go_wp2
   all_goals
    have aF:=λ x y z t=>X8 (b:=W.heap.size) x y z t X.o.c0 X.o.c1 X.o.c2 X.o.c3;refine bodyPost_ret (by simp[results,Tryz.results20,go_sem,(aF _ _ _ _).1,(aF _ _ _ _).2.1,(aF _ _ _ _).2.2.1,(aF _ _ _ _).2.2.2];rfl) rfl ?_;have hW0:W.heap.size<w0.heap.size:=b3.o.lt;have hwy:w0.heap.size<=wy.heap.size:=aj.o.size;have aP:¬ New wy w5 W.heap.size:=λ h=>by have:=h.1;omega
    have cj:¬ New wy w5 b5:=λ h=>by have:=h.1;have:=cB.o;omega
    have a8:∀(x y z t:Value),Kept (New wy w5) w5 ((((w6.setCell ⟨W.heap.size,0,none⟩ x).setCell ⟨W.heap.size,1,none⟩ y).setCell ⟨W.heap.size,2,none⟩ z).setCell ⟨W.heap.size,3,none⟩ t):=λ x y z t=>(cx.o (New wy w5) cj).trans ((ux aP x y z).trans (uH (a:=⟨W.heap.size,3,none⟩) aP t));have hS:∀(x y z t:Value) k,New wy w5 k->New W ((((w6.setCell ⟨W.heap.size,0,none⟩ x).setCell ⟨W.heap.size,1,none⟩ y).setCell ⟨W.heap.size,2,none⟩ z).setCell ⟨W.heap.size,3,none⟩ t) k:=λ x y z t k hk=>⟨by have:=hk.1;omega,by rw[z03,UT,ah.o];exact hk.2⟩;rw[<-c4.o];exact⟨_,rfl,⟨_,_,_,by rw[cG.o],bN.o.to (a8 _ _ _ _) (hS _ _ _ _),b1.o.to (a8 _ _ _ _) (hS _ _ _ _),bu.o.to (a8 _ _ _ _) (hS _ _ _ _)⟩,((ar.o.trans ce.o).set3 (zR _) _ _ _).setCell (p:=⟨W.heap.size,3,none⟩) (zR _) _⟩
theorem Rq{W:World}{v:Value}{d:DZ}{k n:Nat}(hd:DerV (Z2 W) W v d)(fP:Fit k n d.P)(hk:k<=1000000) :
  Calls Tryz.prog 22 #[v] W λ e w'=>e=.returned (.int .i64 (ZY d))/\Ext W w':=by
 obtain⟨vn,vp,vb,rfl,J,D,Z⟩:=hd;have CC:=Z_ (λ(Y:World) (hY:Ext W Y)=>Lx (W:=Y) (z06.on D hY) fP (by omega));obtain⟨an,cn,rfl⟩:=J.form;obtain⟨ap,cp,rfl⟩:=D.form;obtain⟨aa,cb,rfl⟩:=Z.form;obtain⟨nn,I⟩:∃z,z=(Z8 d.N).mag.length:=⟨_,rfl⟩
 obtain⟨bn,O⟩:∃z,z=(Z8 d.N).neg:=⟨_,rfl⟩
 obtain⟨np,y⟩:∃z,z=(Z5 d.P).length:=⟨_,rfl⟩
 obtain⟨nb,K⟩:∃z,z=(d.By.map Z5).length:=⟨_,rfl⟩
 rw[<-y]at CC;rw[<-I,<-O,<-y,<-K];have U:=Z_ (uO (uP W) (.cells #[.bool bn,.slice an nn cn,.slice ap np cp,.slice aa nb cb] 48));have ad:=Z_ (CC.o _ U.o);clear J D Z fP hk I O y K CC
 go_enter Tryz.func22,Tryz.ntmps22
 go_wp2_with fail;(with_reducible refine ad.o.mono ?_);rintro e w1 ⟨rfl,X⟩;have ac:=Z_ (U.o.trans X);clear X;go_wp2
 all_goals
  go_ret;exact⟨rfl,ac.o⟩
end
section
open Go.RowKit Go.Deep Go.ChangeShapes Go.WideShapes
theorem Ta{α:Type}{n:Nat}{p:Nat->α->Prop}(h:∀i,i<n->∃x,p i x):∃l:List α,l.length=n/\∀i x,l[i]? = some x->p i x:=by
 induction n with
 |zero=>exact⟨[],rfl,λ i x z=>by simp at z⟩
 |succ n ih=>
  obtain⟨l,D,I⟩:=ih (λ i hi=>h i (xJ hi));obtain⟨x,z⟩:=h n (zk n);refine⟨l ++ [x],by simp[D],λ i y hy=>?_⟩;rw[List.getElem?_append]at hy
  split at hy
  ·exact I i y hy
  ·rename_i hi
   have:i=n:=by
    have:=Zy hy;simp at this;omega
   subst this;simp[D]at hy;exact hy ▸ z
theorem Mk{α:Type}{l:List α}(h:l.length=2):∃a b,l=[a,b]:=by
 match l,h with
 | [a,b],_=>exact⟨a,b,rfl⟩
theorem D8{α:Type}{l:List α}(h:l.length=3):∃a b c,l=[a,b,c]:=by
 match l,h with
 | [a,b,c],_=>exact⟨a,b,c,rfl⟩
section
variable {H:Type} {enc:TypeId×Value->H} {w:World} {base:Nat} {spare:Nat->Bool} {held:Bool}
theorem TO{t e:TypeId}{fuel sz:Nat}{v:Value}{x:DataW H×List MemPlace}(ht:Tryz.prog.underlying t=some (.slice e))(hsz:Tryz.prog.cellsOf e=sz)(hpos:0<sz)
  (h:DataW.trod enc Tryz.prog w base spare held fuel t [v]=some x) :
  ∃(n b off fuel':Nat),z3r (· < w.heap.size) v n b off/\∀j,j<n->∃(cs:List Value) (y:DataW H×List MemPlace),cs.length=sz/\(∀i,i<sz->w.cell? ⟨b,off+j*sz+i,none⟩=cs[i]?)/\DataW.trod enc Tryz.prog w base spare held fuel' e cs=some y:=by
 rcases open_slice ht h with ⟨U,_⟩|⟨a,len,cap,m,fuel',D,Pl,U,hb,hl,hm,ac,_,hx⟩
 ·obtain rfl:v=.slice none 0 0:=by simpa using U
  exact⟨0,0,0,0,⟨none,0,rfl,zR _,zL _,λ h=>absurd h (by omega),λ h=>absurd h (by omega)⟩,λ j X=>absurd X (by omega)⟩
 ·obtain rfl:v=.slice (some a) len cap:=by simpa using U
  rw[hsz]at hx;have hlm:len<=m:=by rw[ac];split<;>omega
  have O:∀j,j<len->∃(cs:List Value) (y:DataW H×List MemPlace),cs.length=sz/\(∀i,i<sz->w.cell? ((a.add (j*sz)).add i)=cs[i]?)/\DataW.trod enc Tryz.prog w base spare held fuel' e cs=some y:=by
   intro j X;obtain⟨cs,h1,h2⟩:=hx j (by omega);obtain⟨_,Z,K⟩:=World.cells?_some h1;exact⟨cs,_,Z,K,h2⟩
  by_cases h0:0<len
  ·have ad:a.spot=none:=by
    obtain⟨cs,_,Z,K,_⟩:=O 0 h0;have J:=K 0 hpos;have e0:(a.add (0*sz)).add 0=a:=by simp[Addr.add]
    rw[e0,zi (by omega)]at J;unfold World.cell? at J
    split at J
    ·cases hs:a.spot with
     |none=>rfl
     |some z=>simp[hs]at J
    ·exact absurd J (by simp)
   obtain⟨b,off,aa⟩:=a;obtain rfl:aa=none:=ad
   have I:∀j i,((⟨b,off,none⟩:Addr).add (j*sz)).add i=⟨b,off+j*sz+i,none⟩:=by
    intro j i;unfold Addr.add;by_cases h1:j*sz=0<;>by_cases h2:i=0<;>simp[h1,h2]
   refine⟨len,b,off,fuel',⟨_,cap,rfl,hl,hm,λ _=>rfl,λ _=>?_⟩,λ j X=>?_⟩
   ·obtain⟨cs,_,Z,K,_⟩:=O 0 h0;have J:=K 0 hpos;rw[I,zi (by omega)]at J;exact Zj J
   ·obtain⟨cs,y,Z,K,J⟩:=O j X;exact⟨cs,y,Z,λ i hi=>by rw[<-I];exact K i hi,J⟩
  ·exact⟨len,0,0,fuel',⟨_,cap,rfl,hl,hm,λ h=>absurd h h0,λ h=>absurd h h0⟩,λ j X=>absurd X (by omega)⟩
theorem Rp{n:Int}(h:(Lit.int .i64 n).wf=true):-9223372036854775808<=n/\n<=9223372036854775807:=by
 simpa[Lit.wf,IntKind.min,IntKind.max,IntKind.signed,IntKind.bits]using h
theorem Jv{n:Int}(h:(Lit.int .u32 n).wf=true):0<=n/\n<4294967296:=by
 have:0<=n/\n<=4294967295:=by simpa[Lit.wf,IntKind.min,IntKind.max,IntKind.signed,IntKind.bits]using h
 omega
theorem Tryz.cells_u32:Tryz.prog.cellsOf 75=1:=by kernel_rfl
theorem Tryz.cells_power:Tryz.prog.cellsOf 56=2:=by kernel_rfl
theorem Tryz.cells_term:Tryz.prog.cellsOf 54=3:=by kernel_rfl
theorem Tryz.cells_int:Tryz.prog.cellsOf 28=2:=by kernel_rfl
theorem Tryz.cells_mono:Tryz.prog.cellsOf 52=1:=by kernel_rfl
theorem Tryz.cells_bool:Tryz.prog.cellsOf 4=1:=by kernel_rfl
theorem Tryz.cells_i64:Tryz.prog.cellsOf 3=1:=by kernel_rfl
theorem Tryz.cells_su32:Tryz.prog.cellsOf 26=1:=by kernel_rfl
theorem LI{fuel:Nat}{v:Value}{x:DataW H×List MemPlace}(h:DataW.trod enc Tryz.prog w base spare held fuel 26 [v]=some x):∃zs,U32s (· < w.heap.size) w v zs:=by
 obtain⟨n,b,off,f',Z,I⟩:=TO Tryz.underlying26 Tryz.cells_u32 (by omega) h
 obtain⟨zs,O,X⟩:=Ta (p:=λ j (z:Nat)=>z<4294967296/\w.cell? ⟨b,off+j,none⟩=some (.int .u32 (z:Nat))) (n:=n) (λ j hj=>by
  obtain⟨cs,y,h1,K,U⟩:=I j hj;obtain⟨m,rfl,_,J⟩:=DataW.trod_int Tryz.underlying75 U;have:=Jv J;have D:=K 0 (by omega);refine⟨m.toNat,by omega,?_⟩;simp only[wO,zp]at D;rw[D];simp
  omega)
 subst O;exact⟨zs,b,off,Z,X⟩
theorem Ec{fuel:Nat}{v:Value}{x:DataW H×List MemPlace}(h:DataW.trod enc Tryz.prog w base spare held fuel 52 [v]=some x):∃ps,Pows (· < w.heap.size) w v ps:=by
 obtain⟨n,b,off,f',hs,J⟩:=TO Tryz.underlying52 Tryz.cells_power (by omega) h
 obtain⟨ps,O,hp⟩:=Ta (p:=λ j (x:Int×Int)=>((-9223372036854775808<=x.1/\x.1<=9223372036854775807)/\-9223372036854775808<=x.2/\x.2<=9223372036854775807) /\
  w.cell? ⟨b,off+j*2,none⟩=some (.int .i64 x.1)/\w.cell? ⟨b,off+j*2+1,none⟩=some (.int .i64 x.2)) (n:=n) (λ j hj=>by
  obtain⟨cs,y,Z,z,U⟩:=J j hj;obtain⟨y0,y1,m,_,_,K,g1⟩:=trod_struct2 Tryz.underlying56 U;obtain⟨n0,D,_,w0⟩:=DataW.trod_int Tryz.underlying3 K;obtain⟨X,I,_,w1⟩:=DataW.trod_int Tryz.underlying3 g1;obtain⟨c0,c1,rfl⟩:=Mk Z;simp[Tryz.cells_i64]at D I;subst D I
  exact⟨(n0,X),⟨Rp w0,Rp w1⟩,z 0 (by omega),z 1 (by omega)⟩)
 subst O;exact⟨ps,b,off,hs,hp⟩
theorem Jo{fuel:Nat}{v:Value}{x:DataW H×List MemPlace}(h:DataW.trod enc Tryz.prog w base spare held fuel 35 [v]=some x):∃ts,z06 (· < w.heap.size) w v ts:=by
 obtain⟨n,b,off,f',hs,X⟩:=TO Tryz.underlying35 Tryz.cells_term (by omega) h
 obtain⟨ts,Z,hp⟩:=Ta (p:=λ j (t:RTerm)=>∃vm vo,w.cell? ⟨b,off+j*3,none⟩=some (.bool t.c.neg) /\
  w.cell? ⟨b,off+j*3+1,none⟩=some vm/\w.cell? ⟨b,off+j*3+2,none⟩=some vo/\U32s (· < w.heap.size) w vm t.c.mag/\Pows (· < w.heap.size) w vo t.m) (n:=n) (λ j hj=>by
  obtain⟨cs,y,h1,z,h3⟩:=X j hj;obtain⟨y0,y1,m,_,_,J,U⟩:=trod_struct2 Tryz.underlying54 h3;obtain⟨c0,c1,c2,rfl⟩:=D8 h1;simp[Tryz.cells_int,Tryz.cells_mono]at J U;obtain⟨z0,z1,m',_,_,O,k1⟩:=trod_struct2 Tryz.underlying28 J;simp[Tryz.cells_bool,Tryz.cells_su32]at O k1;obtain⟨ng,K,_⟩:=DataW.trod_bool Tryz.underlying4 O;simp at K;subst K;obtain⟨zs,D⟩:=LI k1;obtain⟨ps,I⟩:=Ec U
  exact⟨⟨⟨ng,zs⟩,ps⟩,c1,c2,z 0 (by omega),z 1 (by omega),z 2 (by omega),D,I⟩)
 subst Z;exact⟨ts,b,off,hs,hp⟩
end
end
section
open Go.RowKit Go.Deep Go.ChangeShapes Go.WideShapes Go.ChangeAt
theorem Tryz.own:ownKnob Tryz.prog.godebug=none:=by kernel_rfl
theorem Tryz.laidOut:laidOutB Tryz.prog=true:=by kernel_rfl
theorem IR{H:Type}{enc:TypeId×Value->H}{W W':World}(hb:Below W.heap.size W W') :
  ∀{ts:List TypeId} {vs:List Value} {ds:List (DataW H)} {p:List MemPlace},(∀t∈ts,Tryz.prog.readableRec t=true/\t<Tryz.prog.types.size)->(∀x∈p,x.block<W.heap.size) ->
  DataW.TrodAll enc Tryz.prog W 0 (λ _=>true) true ts vs ds p->DataW.TrodAll enc Tryz.prog W' 0 (λ b=>decide (b<W.heap.size)) true ts vs ds p:=by
 intro ts
 induction ts with
 |nil=>
  intro vs ds p _ _ h
  cases vs<;>cases ds<;>first|exact h|exact h.elim
 |cons t ts ih=>
  intro vs ds p z y h
  cases vs with
  |nil=>exact h.elim
  |cons v vs=>
   cases ds with
   |nil=>exact h.elim
   |cons d ds=>
    obtain⟨D,J,K,I,rfl⟩:=h;refine⟨D,J,?_,ih (λ x hx=>z x (yX _ hx)) (λ x hx=>y x (List.mem_append_right _ hx)) I,rfl⟩;exact Below.trod Tryz.laidOut (z t (zz)).1 (z t (zz)).2 K hb (λ x hx=>y x (List.mem_append_left _ hx))
theorem GC{H:Type}{enc:TypeId×Value->H}{F:Func}{s:ChangeSpec}{W W':World}{args:Array Value}{ds gs:List (DataW H)}{before:List MemPlace}
  (hW:DataW.Whole enc Tryz.prog F.params.toList s.vars false W args.toList ds gs before) (hv:s.vars=[]) (hr:F.resultTypes=#[4])
  (hs:s.fn H (ds++gs)={ results:=[.lit (.bool true)],args:=ds }) (ht:∀t∈F.params.toList,Tryz.prog.readableRec t=true/\t<Tryz.prog.types.size)
  (hb:Below W.heap.size W W'):s.post enc Tryz.prog F false true false false W args (.bool true) W':=by
 have z:=λ p hp=>hW.lt p hp;have y:=hW;obtain⟨p,q,I,D,rfl,_,_⟩:=hW;rw[hv]at D;obtain⟨rfl,rfl⟩:=trodVars_none D
 refine⟨ds,_,_,[],p,[],y,?_,?_,?_,hb.frame _,λ h=>by cases h⟩
 ·rw[hs,hr];exact trodAll_mk1 (shut_bool Tryz.underlying4 true)
 ·rw[hs];exact IR hb ht (λ x hx=>z x (List.mem_append_left _ hx)) I
 ·rw[hs,hv];rfl
end
section
open Go.RowKit Go.Deep Go.ChangeShapes Go.WideShapes Go.ChangeAt
theorem Mi{t e:TypeId}{W:World}{base:Nat}{v:Value}(ht:Tryz.prog.underlying t=some (.slice e))(hv:Value.okWide Tryz.prog W .any base t v):v.cells.toList=[v]:=by
 obtain⟨a,len,cap,rfl⟩:=okWide_slice ht hv;rfl
theorem Tryz.cells_poly:Tryz.prog.cellsOf 35=1:=by kernel_rfl
section
variable {H:Type} {enc:TypeId×Value->H} {w:World} {base:Nat} {spare:Nat->Bool} {held:Bool}
end
end
section
open Go.RowKit
theorem Hj{a b c d:Int}(h:TG a b c d):(MSt.new a b c d).Ok:=by
 obtain⟨⟨a0,a1⟩,⟨b0,b1⟩,⟨c0,c1⟩,d0,d1⟩:=h;exact⟨a0,a1,b0,b1,c0,c1,d0,d1,by show(0:Int)<=0;decide,a0,by show(0:Int)<=0;decide,d0⟩
end
section
open Go.RowKit
theorem OY{m:Z7}{E:Int}(h0:0<=E)(h:∀y∈m,y.2<=E)(u:Int):ex m u<=E:=by
 induction m with
 |nil=>simp[ex];exact h0
 |cons y r ih=>
  rw[ex]
  split
  ·exact h y (by simp)
  ·exact ih (λ z hz=>h z (by simp[hz]))
section
variable {F G:PZ} {x:Int}
end
end
section
open Go.RowKit Go.Deep Go.ChangeShapes Go.WideShapes Go.ChangeAt Go.Joins
section
variable {H:Type} {enc:TypeId×Value->H} {P:Program} {w:World} {base:Nat} {spare:Nat->Bool} {held:Bool}
end
section
variable {H:Type} {enc:TypeId×Value->H} {W:World} {base b0:Nat} {sp:Nat->Bool} {held:Bool}
end
end
section
open Go.RowKit
section
variable {w W W':World} {o r:Option Nat} {s:MSt} {v:Value} {p:PZ} {N n0 n4:Nat}
end
section
variable {w W:World} {o:Option Nat} {s:MSt} {vf vg:Value} {F G:PZ} {x:Int} {n4:Nat}
end
end
section
open Go.RowKit
end
section
open Go.RowKit
end
section
section
variable {o r:Option Nat}
end
end
section
open Go.RowKit
theorem B6{v u:Int}(huv:u≠v){i:Nat}:∀t∈Zl v i,ex t.2 u=0:=by
 unfold Zl
 split
 ·intro t ht;rw[zQ.1 ht];rfl
 ·intro t ht;rw[zQ.1 ht,zez,if_neg (λ h=>huv h.symm)]
theorem JH{keep:Bool}{g h q r:PZ}{v d u E:Int}{x:PZ×PZ}(hg:canP g)(hh:canP h)(hr:canP r)(hv:1<=v/\v<=200)(hd:0<=d)(hs:YA keep g h v d q r=some x)
  (gu:∀t∈g,ex t.2 u=0) (hu:∀t∈h,ex t.2 u=0) (huv:u≠v) (hE:∀t∈r,ex t.2 u<=E):∀t∈x.2,ex t.2 u<=E:=by
 obtain⟨t,l,m,ht,hl,hm,e2,-,-⟩:=Uv hs;have ct:=RI hr hv hd ht;have cl:=WP ct hg hl;have cm:=WP hh hr hm;intro y hy;rw[e2]at hy;obtain⟨z,I,ez⟩:=Tg (VS cm.may (VE cl).may) hy;rw[<-ez]
 rcases zC.1 I with I|I
 ·obtain⟨a,O,c,X,D⟩:=R5 hh hr hm I;rw[D u,hu a O];have:=hE c X;omega
 ·obtain⟨y',K,e⟩:=Rb I;rw[<-e];obtain⟨a,O,c,X,D⟩:=R5 ct hg hl K;rw[D u,gu c X];have hrg:=XW hr.may v;obtain⟨a',Z,p,hp,J⟩:=R5 (XA hr v _) (Uf hv (by omega)) ht O;rw[J u,B6 huv p hp];obtain⟨t0,U,-,rfl⟩:=Uc Z;rw[z24,if_neg huv];have:=hE t0 U;omega
theorem Fu{b:Nat}{keep:Bool}{g:PZ}{v u E:Int}(hg:canP g)(hv:1<=v/\v<=200)(hd:0<=degP g v)(gu:∀t∈g,ex t.2 u=0)(huv:u≠v) :
  ∀(k:Nat) (s:MSt) (q r:PZ) (n:Nat),canP q->canP r->(∀t∈r,ex t.2 u<=E)->(runD (some b) keep g (Zz g v) v (degP g v) k s q r n).e=0 ->
   ∀t∈(runD (some b) keep g (Zz g v) v (degP g v) k s q r n).r,ex t.2 u<=E:=by
 have X:canP (Zz g v):=XA hg v _
 have hu:∀t∈Zz g v,ex t.2 u=0:=λ t ht=>by
  obtain⟨t0,O,-,rfl⟩:=Uc ht;rw[z24,if_neg huv];exact gu t0 O
 intro k
 induction k with
 |zero=>intro s q r n _ _ J _;exact J
 |succ k ih=>
  intro s q r n Z U J
  by_cases D:r=[]∨degP r v<degP g v
  ·intro _;simp only[runD,if_pos D];exact J
  by_cases z:(z1o (some b) s).1≠0
  ·intro y;simp only[runD,if_neg D,if_pos z]at y;exact absurd y z
  cases hs:YA keep g (Zz g v) v (degP g v) q r with
  |none=>
   intro y;simp only[runD,if_neg D,if_neg z,hs]at y;exact absurd y (by decide)
  |some x=>
   by_cases I:(z1b (some b) (z1o (some b) s).2 x.2).1≠0
   ·intro y;simp only[runD,if_neg D,if_neg z,hs,if_pos I]at y;exact absurd y I
   by_cases K:(z1b (some b) (z1o (some b) s).2 x.1).1≠0
   ·intro y;simp only[runD,if_neg D,if_neg z,hs,if_neg I,if_pos K]at y;exact absurd y K
   simp only[runD,if_neg D,if_neg z,hs,if_neg I,if_neg K];obtain⟨c1,c2⟩:=N5 hg X Z U hv hd hs;exact ih _ _ _ _ c1 c2 (JH hg X U hv hd hs gu hu huv J)
end
section
open Go.RowKit
end
section
open Go.RowKit
theorem TP:Lim 67 20 3 5 45:=⟨by decide,by decide,by decide,by decide,by decide,by decide,by decide,by decide⟩
theorem QJ{p:PZ}(h:Fit 2 5 p):nrm p<=2^67:=by
 have h1:=A4 h;rw[PL]at h1;exact zT h1 (by decide)
theorem exB.whole{E:Int}{p:PZ}(h:exB E p):exB E (Yf p):=λ t ht u=>by
 obtain⟨y,hy,rfl⟩:=zG.1 ht;exact h y hy u
theorem Nz(p:PZ):ZL (Yf p)=ZL p:=by
 cases p with
 |nil=>rfl
 |cons t r=>rfl
structure AOk (d:DZ) (m:Nat):Prop where
 pos:0<d.N
 len:ZX d.N<=3
 P:Fit 2 5 d.P
 ex:exB 3 d.P
 B:∀b∈d.By,Fit 1 1 b
 m:d.By.length=m
theorem Vr{ps:List PZ}{i:Nat}(h:Fit 2 5 (ps.getD i []))(e:exB 3 (ps.getD i [])):AOk (Zo ps i) ps.length:=by
 obtain⟨p,I⟩:∃p,p=ps.getD i []:=⟨_,rfl⟩
 rw[<-I]at h e;have y:Zo ps i=WE ⟨1,p,X9 ps.length i⟩:=by unfold Zo;rw[<-I]
 have O:0<(DZ.mk 1 p (X9 ps.length i)).N:=by show(0:Int)<1;decide
 have X:=PH O;have U:=PK O;have z:Zm ⟨1,p,X9 ps.length i⟩∣YE ⟨1,p,X9 ps.length i⟩:=(TE _).1
 have D:(Zo ps i).N=((YE ⟨1,p,X9 ps.length i⟩ / Zm ⟨1,p,X9 ps.length i⟩:Nat):Int):=by
  rw[y];show(YE _:Int) / (Zm _:Int)=_;exact(wR _ _).symm
 refine⟨?_,?_,?_,?_,?_,?_⟩
 ·rw[D];exact Int.natCast_pos.2 (Nat.div_pos (xA X z) U)
 ·rw[D];refine zT (Yp (a:=_) (b:=((YE ⟨1,p,X9 ps.length i⟩:Nat):Int).natAbs) ?_) (M_ (K:=1) (d:=⟨1,p,X9 ps.length i⟩) (by show ZX (1:Int)<=1;decide) h (by decide));rw[y7,y7];exact yt _ _
 ·rw[y];exact h.whole
 ·rw[y];exact e.whole
 ·rw[y];intro b hb;obtain⟨c,J,rfl⟩:=zG.1 hb;exact(Ox c J).over (MQ J)
 ·rw[y];show(List.map _ (X9 ps.length i)).length=_;rw[zE];unfold X9;rw[yy,xQ]
theorem Tm{o:Option Nat}{st:Int×MSt}{p q:PZ}(h:(Za o st p q).1.1=0):st.1=0/\(Za o st p q).1.2=st.2:=by
 unfold Za at h⊢
 by_cases y:st.1≠0
 ·rw[if_pos y]at h;exact absurd h y
 ·rw[if_neg y]at h⊢;refine⟨zx.1 y,?_⟩
  cases ht:ZI p q with
  |some r=>rfl
  |none=>rw[ht]at h;exact absurd (show(8:Int)=0 from h) (by decide)
theorem N4{o:Option Nat}{st:Int×MSt}{p:PZ}(h:(Xl o st p).1=0):st.1=0/\(Xl o st p).2=st.2:=by
 unfold Xl at h⊢
 by_cases h0:st.1≠0
 ·rw[if_pos h0]at h;exact absurd h h0
 ·rw[if_neg h0]at h⊢;exact⟨zx.1 h0,RT h⟩
theorem VX{o:Option Nat}{st:Int×MSt}{p q:PZ}{k n l m:Nat}(fp:Fit k n p)(fq:Fit l m q)(hnm:n*m<=1000000000000):Fit (k+l+2) (n*m) (Za o st p q).2:=by
 unfold Za
 split
 ·exact VU.mono (zL _) (zL _)
 ·cases ht:ZI p q with
  |some r=>exact fp.times fq ht hnm
  |none=>exact VU.mono (zL _) (zL _)
theorem Ai{o:Option Nat}{x:PZ}{a:(Int×MSt)×PZ}:∀j,(Yu o x a j).1.1=0->a.1.1=0/\(Yu o x a j).1.2=a.1.2:=by
 intro j
 induction j with
 |zero=>intro h;exact⟨h,rfl⟩
 |succ j ih=>
  intro h;obtain⟨D,z⟩:=N4 (o:=o) (st:=(Za o (Yu o x a j).1 (Yu o x a j).2 x).1) (p:=(Za o (Yu o x a j).1 (Yu o x a j).2 x).2) h;obtain⟨y,K⟩:=Tm D;obtain⟨I,J⟩:=ih y;exact⟨I,z.trans (K.trans J)⟩
theorem Sv{o:Option Nat}{x:PZ}{s:MSt}(fx:Fit 2 5 x):∀j,j<=4->Fit (1+4*j) (5^j) (Yu o x ((0,s),ZO 1 []) j).2:=by
 intro j
 induction j with
 |zero=>intro _;exact NT
 |succ j ih=>
  intro hj;have h5:5^j<=5^4:=zA (by decide) (by omega);have h:=VX (o:=o) (st:=(Yu o x ((0,s),ZO 1 []) j).1) (ih (by omega)) fx (by omega);exact h.mono (by omega) (by rw[yY];exact zR _)
theorem zdv(o:Option Nat)(s:MSt)(F G:DZ):Zw o s F [G]=if(YF o true G.P 1 0 (ZA o true s F.P G.P (ZL G.P)) [[]]).1≠0 then((YF o true G.P 1 0 (ZA o true s F.P G.P (ZL G.P)) [[]]).1,(YF o true G.P 1 0 (ZA o true s F.P G.P (ZL G.P)) [[]]).2.1,[],[],[])
  else(0,(YF o true G.P 1 0 (ZA o true s F.P G.P (ZL G.P)) [[]]).2.1,(ZA o true s F.P G.P (ZL G.P)).r,[((ZA o true s F.P G.P (ZL G.P)).n:Int)],(YF o true G.P 1 0 (ZA o true s F.P G.P (ZL G.P)) [[]]).2.2):=rfl
structure One27 (b:Nat) (s:MSt) (F G:DZ) (X:Int×MSt×PZ×List Int×List PZ):Prop where
 inr:InR 67 20 3 X.2.1 X.2.2.1
 ex:∃(n:Nat) (cof:PZ),X.2.2.2.1=[(n:Int)]/\X.2.2.2.2=[cof]/\n<=4/\Fit 45 100000 cof
 run:X.2.2.1=(ZA (some b) true s F.P G.P (ZL G.P)).r/\(ZA (some b) true s F.P G.P (ZL G.P)).e=0
theorem BB{b m m':Nat}{s:MSt}{F G:DZ}(hs:s.Ok)(hf:s.fu<=20)(aF:AOk F m)(aG:AOk G m')(hc:0<ZY G) :
  Wx (some b) true [G.P] 1 s F.P [[]]/\((Zw (some b) s F [G]).1=0->One27 b s F G (Zw (some b) s F [G])):=by
 have hr:InR 67 20 3 s F.P:=⟨hs,hf,aF.P.can,zT (QJ aF.P) (LW (by omega)),zT aF.P.2.2 (by decide),aF.ex.le (by
  have h0:=hs.s0;show(3:Int)<=((3:Nat):Int)*(s.st+1)
  omega)⟩
 have hG:ChP 67 3 2 5 G.P:=⟨aG.P,QJ aG.P,aG.ex,hc⟩
 have hpos:=PS aG.P.can hc;obtain⟨d1,d2⟩:=Cv (w:=true) (b:=b) TP aG.P.can (QJ aG.P) aG.ex hG.range (by omega) hr
 have y:(ZA (some b) true s F.P G.P (ZL G.P)).n<=4:=by
  have I:(ZA (some b) true s F.P G.P (ZL G.P)).n<=0+((degP F.P (ZL G.P)).toNat+1):=Pa _ _ _ _ _;have h2:=aF.ex.deg (by decide) (ZL G.P);omega
 have RS:RedStep (some b) true G.P F.P s:=⟨⟨2,5,45,100000,aG.P,by decide,by decide,by decide,by decide,by decide,d1⟩,hG.range,by omega⟩
 rw[zdv,Wx];have U:Zd (some b) true [G.P] 0 s F.P=ZA (some b) true s F.P G.P (ZL G.P):=rfl;have Z:[G.P].getD 0 []=G.P:=rfl;have O:[G.P].length=1:=rfl;rw[U,Z,O];generalize hDE:ZA (some b) true s F.P G.P (ZL G.P)=D at d2 y⊢;obtain⟨P,hP,cP,nP,eP⟩:=Ay (n:=D.n) TP hG (by omega);refine⟨⟨RS,λ J hn hw=>⟨by omega,by rw[hP];rfl,⟨2,5,aG.P,by decide,by decide,by decide,zT (zA (by decide) y) (by decide)⟩,λ _=>trivial⟩,λ _=>trivial⟩,?_⟩
 by_cases I:(YF (some b) true G.P 1 0 D [[]]).1≠0
 ·rw[if_pos I];intro h;exact absurd h I
 rw[if_neg I];intro _;have z:(YF (some b) true G.P 1 0 D [[]]).1=0:=zx.1 I
 have X:D.e=0/\(YF (some b) true G.P 1 0 D [[]]).2.1=D.s/\(YF (some b) true G.P 1 0 D [[]]).2.2=[D.q]:=by
  unfold YF at z⊢
  by_cases J:D.e≠0
  ·rw[if_pos J]at z;exact absurd z J
  rw[if_neg J]at z⊢;refine⟨zx.1 J,?_⟩
  by_cases hn:D.n=0∨true=false
  ·rw[if_pos hn];exact⟨rfl,rfl⟩
  rw[if_neg hn]at z⊢
  by_cases K:(z1b (some b) D.s ((powN (Y_ G.P) D.n).getD [])).1≠0
  ·rw[if_pos K]at z;exact absurd z K
  rw[if_neg K];exact⟨RT (zx.1 K),rfl⟩
 obtain⟨k1,k2,k3⟩:=X;obtain⟨i1,i2,i3,i4⟩:=d2 k1
 refine⟨?_,⟨D.n,D.q,rfl,k3,y,i2.fit TP i1.st.1 i1.st.2⟩,?_⟩
 ·show InR 67 20 3 (YF (some b) true G.P 1 0 D [[]]).2.1 D.r;rw[k2];exact i1
 ·rw[hDE];exact⟨rfl,k1⟩
theorem M0{o:Option Nat}{f:DZ}{gs:List (DZ×PZ)}{h:PZ}{N:Int}{st:Int×MSt}{k n:Nat}(hs:∀i st',Fit k n (sumK o N i gs (V6 o f h N i st')).2):∀i,∀b∈(rowK o f gs h N i st).2,Fit k n b:=by
 intro i
 induction i with
 |zero=>intro b hb;cases hb
 |succ i ih=>
  intro b hb
  rcases zC.1 hb with hb|hb
  ·exact ih b hb
  ·rw[zQ.1 hb];exact hs i _
theorem A_{o:Option Nat}{f:DZ}{gs:List (DZ×PZ)}{h:PZ}{N:Int}{st:Int×MSt}:∀i,(rowK o f gs h N i st).1.1=0->st.1=0/\(rowK o f gs h N i st).1.2=st.2:=by
 have y:∀(i:Nat) (gs:List (DZ×PZ)) (a:(Int×MSt)×PZ),(sumK o N i gs a).1.1=0->a.1.1=0/\(sumK o N i gs a).1.2=a.1.2:=by
  intro i gs
  induction gs with
  |nil=>intro a h;exact⟨h,rfl⟩
  |cons z r ih=>
   intro a h;obtain⟨K,I⟩:=ih (S_ o N i a z) h;obtain⟨D,X⟩:=Tm (show(Za o (Za o a.1 (z.1.By.getD i []) (ZO (N / z.1.N) [])).1 (Za o a.1 (z.1.By.getD i []) (ZO (N / z.1.N) [])).2 z.2).1.1=0 from K);obtain⟨O,U⟩:=Tm D;exact⟨O,I.trans ((show(S_ o N i a z).1.2=_ from X).trans U)⟩
 intro i
 induction i with
 |zero=>intro h;exact⟨h,rfl⟩
 |succ i ih=>
  intro h;obtain⟨K,I⟩:=N4 (show(Xl o (sumK o N i gs (V6 o f _ N i (rowK o f gs _ N i st).1)).1 (sumK o N i gs (V6 o f _ N i (rowK o f gs _ N i st).1)).2).1=0 from h);obtain⟨D,X⟩:=y i gs _ K;obtain⟨O,U⟩:=Tm (show(Za o (Za o (rowK o f gs _ N i st).1 (f.By.getD i []) (ZO (N / f.N) [])).1 (Za o (rowK o f gs _ N i st).1 (f.By.getD i []) (ZO (N / f.N) [])).2 _).1.1=0 from D);obtain⟨Z,h8⟩:=Tm O;obtain⟨h9,J⟩:=ih Z;exact⟨h9,I.trans (X.trans ((show(V6 o f _ N i (rowK o f gs _ N i st).1).1.2=_ from U).trans (h8.trans J)))⟩
theorem SF{k n:Nat}{l:List PZ}(h:∀b∈l,Fit k n b)(i:Nat):Fit k n (l.getD i []):=by
 rw[zH]
 cases hi:l[i]? with
 |none=>exact VU.mono (zL _) (zL _)
 |some b=>exact h b (zP hi)
theorem Qy{b m:Nat}{s:MSt}{F G:DZ}(hs:s.Ok)(hf:s.fu<=20)(aF:AOk F m)(aG:AOk G m)(hc:0<ZY G)(hm:m<=1000) :
  RestQFit (some b) s F [G]/\((YP (some b) s F [G]).1=0->(YP (some b) s F [G]).2.1.Ok/\(YP (some b) s F [G]).2.1.fu<=20/\One27 b s F G (Zw (some b) s F [G])):=by
 obtain⟨r1,r2⟩:=BB (b:=b) hs hf aF aG hc
 have hL:z18 [F,G]<=F.N.natAbs*G.N.natAbs:=by
  show 1*(F.N.natAbs / Nat.gcd F.N.natAbs 1)*(G.N.natAbs / _)<=_;rw[yM];exact yR (yt _ _) (yt _ _)
 have O:ZX ((z18 [F,G]:Nat):Int)<=6:=by
  refine YZ ZU _ _ ?_;rw[y7];have K:F.N.natAbs<Z9^3:=zU (Vv F.N) (zA (by decide) aF.len);have h2:G.N.natAbs<Z9^3:=zU (Vv G.N) (zA (by decide) aG.len);refine zh hL ?_;rw[show(6:Nat)=3+3 from rfl,yH];exact xc K h2
 have ae:∀own:Int,0<own->Fit 6 1 (ZO (((z18 [F,G]:Nat):Int) / own) []):=λ own ho=>Sn (by rfl) (zT (Yp (by
  have K:=vK ((z18 [F,G]:Nat):Int) own
  exact K)) O)
 have dF:DOk F F.By.length:=⟨aF.pos,zT aF.len (by decide),⟨2,5,aF.P,by decide,by decide⟩,⟨1,1,aF.B,by decide,by decide⟩,rfl⟩
 have dG:DOk G F.By.length:=⟨aG.pos,zT aG.len (by decide),⟨2,5,aG.P,by decide,by decide⟩,⟨1,1,aG.B,by decide,by decide⟩,by rw[aG.m,aF.m]⟩
 have ac:YH 0 (([G].map DZ.P).map Z5)=true:=by
  show(if ZR (Z5 G.P) && decide (0<ZL (Zt (Z5 G.P))) then true else false)=true;rw[Xc aG.P.can,Tl aG.P.can,decide_eq_true (show 0<ZL G.P from hc)];rfl
 have J:∀n:Int,((([G].map DZ.P).zip [n]):List (PZ×Int))=[(G.P,n)]:=λ n=>rfl
 have hH:(Zw (some b) s F [G]).1=0->Fit 17 625 (Xz (some b) s F [G]).2:=λ y=>by
  obtain⟨n,I,X,e2,U,D⟩:=(r2 y).ex;unfold Xz;rw[X,J];show Fit 17 625 (Yu (some b) (Y_ G.P) ((0,(Zw (some b) s F [G]).2.1),ZO 1 []) (n:Int).toNat).2;rw[xU];exact(Sv aG.P.init n U).mono (by omega) (zT (zA (by decide) U) (by decide))
 have aa:∀(st:Int×MSt) (i:Nat) (h:PZ),Fit 17 625 h->U7 (some b) st (F.By.getD i []) h ((z18 [F,G]:Nat):Int) F.N/\Fit 28 625 (Wv (some b) st (F.By.getD i []) h ((z18 [F,G]:Nat):Int) F.N).2:=λ st i h fh=>by
  have f1:=SF aF.B i;have f2:=ae F.N aF.pos;have f3:=VX (o:=some b) (st:=st) f1 f2 (by decide);have f4:=VX (o:=some b) (st:=(Za (some b) st (F.By.getD i []) (ZO (((z18 [F,G]:Nat):Int) / F.N) [])).1) f3 fh (by decide);exact⟨⟨λ _=>⟨_,_,_,_,f1,f2,by decide,by decide,by decide⟩,λ _=>⟨_,_,_,_,f3,fh,by decide,by decide,by decide⟩⟩,f4.mono (by decide) (by decide)⟩
 have Z:∀(st:Int×MSt) (i:Nat) (c:PZ),Fit 45 100000 c->U7 (some b) st (G.By.getD i []) c ((z18 [F,G]:Nat):Int) G.N/\Fit 56 100000 (Wv (some b) st (G.By.getD i []) c ((z18 [F,G]:Nat):Int) G.N).2:=λ st i c fc=>by
  have f1:=SF aG.B i;have f2:=ae G.N aG.pos;have f3:=VX (o:=some b) (st:=st) f1 f2 (by decide);have f4:=VX (o:=some b) (st:=(Za (some b) st (G.By.getD i []) (ZO (((z18 [F,G]:Nat):Int) / G.N) [])).1) f3 fc (by decide);exact⟨⟨λ _=>⟨_,_,_,_,f1,f2,by decide,by decide,by decide⟩,λ _=>⟨_,_,_,_,f3,fc,by decide,by decide,by decide⟩⟩,f4.mono (by decide) (by decide)⟩
 have ad:(Zw (some b) s F [G]).1=0->RowFit (some b) F ([G].zip (Zw (some b) s F [G]).2.2.2.2) (Xz (some b) s F [G]).2 ((z18 [F,G]:Nat):Int) (Xz (some b) s F [G]).1:=λ y=>by
  obtain⟨n,I,X,e2,U,D⟩:=(r2 y).ex;rw[e2];refine⟨λ i _=>(aa _ i _ (hH y)).1,λ i _ k z hz=>?_⟩
  have hk:k=0:=by
   have:=Zy hz;simp only[List.zip_cons_cons,List.zip_nil_right,zM,zo]at this;omega
  subst hk;obtain rfl:(G,I)=z:=by simpa using hz
  refine⟨(Z _ i I D).1,56,100000,56,100000,?_,(Z _ i I D).2,by decide,by decide,by decide,by decide,by decide⟩;exact(aa _ i _ (hH y)).2.mono (by decide) (by decide)
 refine⟨⟨by rw[aF.m];omega,by show 1<=1000;decide,dF,λ d hd=>by rw[zQ.1 hd];exact dG,ac,r1,zT O (by decide),λ y=>?_,λ n U=>?_,ad,λ y _=>?_⟩,λ y=>?_⟩
 ·obtain⟨n,I,X,e2,U,D⟩:=(r2 y).ex;rw[X,J];intro i z hz j hj;have hi:i=0:=by have:=Zy hz;simp at this;omega
  subst hi;obtain rfl:(G.P,(n:Int))=z:=by simpa using hz
  intro _;have hj2:j<n:=by simpa using hj
  have h5:5^j<=5^4:=zA (by decide) (by omega);exact⟨_,_,_,_,Sv aG.P.init j (by omega),aG.P.init,by omega,by decide,by omega⟩
 ·by_cases y:(Zw (some b) s F [G]).1=0
  ·obtain⟨n',I,X,-,hn',-⟩:=(r2 y).ex;rw[X,zQ]at U;omega
  ·rw[zdv]at U y
   split at U
   ·cases U
   ·rename_i K
    rw[if_neg K]at y;exact absurd rfl y
 ·obtain⟨n,I,X,e2,U,D⟩:=(r2 y).ex;have hi:=(r2 y).inr;refine⟨58,200000,6,(hi.fit TP).mono (by decide) (by decide),?_,by decide,O,by decide,by decide⟩;show ∀b'∈(YN (some b) s F [G]).2,_;unfold YN;rw[e2];refine M0 (λ i st'=>?_) _;show Fit 58 200000 (Zr (_++ZP _));exact(((aa st' i _ (hH y)).2.mono (by decide) (by decide):Fit 56 100000 _).add (Z _ i I D).2.neg (by decide)).mono (by decide) (by decide)
 ·have hx:(Zw (some b) s F [G]).1=0:=by
   unfold YP at y
   by_cases K:(Zw (some b) s F [G]).1≠0
   ·rw[if_pos K]at y;exact absurd y K
   ·exact zx.1 K
  have hy:(YN (some b) s F [G]).1.1=0:=by
   unfold YP at y;rw[if_neg (λ h=>h hx)]at y
   by_cases K:(YN (some b) s F [G]).1.1≠0
   ·rw[if_pos K]at y;exact absurd y K
   ·exact zx.1 K
  have hi:=(r2 hx).inr
  have he:(YP (some b) s F [G]).2.1=(Zw (some b) s F [G]).2.1:=by
   unfold YP;rw[if_neg (λ h=>h hx),if_neg (λ h=>h hy)];obtain⟨K,h2⟩:=A_ _ hy;obtain⟨n,I,X,e2,U,D⟩:=(r2 hx).ex
   have hh:(Xz (some b) s F [G])=Yu (some b) (Y_ G.P) ((0,(Zw (some b) s F [G]).2.1),ZO 1 []) n:=by
    unfold Xz;rw[X,J];show Yu _ _ _ (n:Int).toNat=_;rw[xU]
   exact h2.trans (by
    rw[hh]
    exact(Ai n (by rw[<-hh];exact K)).2)
  rw[he];exact⟨hi.ok,hi.fu,r2 hx⟩
end
section
def evQ(g:Z7->Rat):PZ->Rat
 | []=>0
 |t :: r=>(t.1:Rat)*g t.2+evQ g r
theorem zbi(g:Z7->Rat)(p q:PZ):evQ g (p++q)=evQ g p+evQ g q:=by
 induction p with
 |nil=>simp[evQ,Rat.zero_add]
 |cons t r ih=>simp only[zc,evQ,ih,Rat.add_assoc]
theorem GW(q:Rat):((q.den:Int):Rat)*q=(q.num:Rat):=by
 have D:((q.den:Int):Rat)≠0:=λ e=>q.den_nz (Int.natCast_eq_zero.1 (ww.1 e));have z:q=(q.num:Rat) / ((q.den:Int):Rat):=by rw[<-Rat.divInt_eq_div,xO]
 have y:((q.den:Int):Rat)*((q.num:Rat) / ((q.den:Int):Rat))=(q.num:Rat):=by
  rw[Rat.div_def,<-yT,wN _ (q.num:Rat),yT,Rat.mul_inv_cancel _ D,vB]
 rw[<-z]at y;exact y
theorem Gk(g:Z7->Rat)(L:List Z7):∃D:Int,D≠0/\∀m∈L,∃z:Int,(z:Rat)=(D:Rat)*g m:=by
 induction L with
 |nil=>exact⟨1,by decide,λ m y=>by cases y⟩
 |cons a r ih=>
  obtain⟨D,J,h⟩:=ih;refine⟨D*((g a).den:Int),wB J (x_.2 (g a).den_nz),λ m y=>?_⟩
  rcases zJ.1 y with rfl|y
  ·refine⟨D*(g m).num,?_⟩;rw[xk,xk,yT,GW]
  ·obtain⟨z,I⟩:=h m y;refine⟨z*((g a).den:Int),?_⟩;rw[xk,xk,I,yT,yT,wN (g m)]
theorem Ly(g:Z7->Rat)(f:Z7->Int)(D:Int)(p:PZ)(h:∀t∈p,(f t.2:Rat)=(D:Rat)*g t.2):((ev f p:Int):Rat)=(D:Rat)*evQ g p:=by
 induction p with
 |nil=>simp[ev,evQ,Rat.mul_zero]
 |cons t r ih=>
  simp only[ev,evQ];rw[Rat.intCast_add,xk,h t (zz ..),ih (λ u hu=>h u (yX _ hu)),uT,<-yT,wN (t.1:Rat) (D:Rat),yT]
theorem O_{p q:PZ}(h:Eqv p q)(g:Z7->Rat):evQ g p=evQ g q:=by
 obtain⟨D,hD,X⟩:=Gk g ((p++q).map λ t=>t.2);have y:∀t∈p++q,∃z:Int,(z:Rat)=(D:Rat)*g t.2:=λ t ht=>X t.2 (zG.2 ⟨t,ht,rfl⟩)
 classical
 let f:Z7->Int:=λ m=>if h:∃z:Int,(z:Rat)=(D:Rat)*g m then Classical.choose h else 0
 have K:∀t∈p++q,(f t.2:Rat)=(D:Rat)*g t.2:=λ t ht=>by
  have U:=y t ht;show((if h:∃z:Int,(z:Rat)=(D:Rat)*g t.2 then Classical.choose h else 0:Int):Rat)=_;rw[dif_pos U];exact Classical.choose_spec U
 have O:=Ly g f D p (λ t ht=>K t (zC.2 (.inl ht)));have Z:=Ly g f D q (λ t ht=>K t (zC.2 (.inr ht)));rw[h f,Z]at O;have I:(D:Rat)≠0:=λ e=>hD (ww.1 e);have J:(D:Rat)⁻¹*((D:Rat)*evQ g q)=(D:Rat)⁻¹*((D:Rat)*evQ g p):=by rw[O]
 rw[<-yT,<-yT,wN _ (D:Rat),Rat.mul_inv_cancel _ I,wV,wV]at J;exact J.symm
theorem Ch(g:Z7->Rat)(p q:PZ)(hp:VT p)(hq:VT q)(hg:∀a b,XR a=true->XR b=true->g (ZE a b)=g a*g b):evQ g (mulL p q)=evQ g p*evQ g q:=by
 have one:∀(t:Int×Z7) (q:PZ),XR t.2=true->VT q->evQ g (q.map λ u=>(t.1*u.1,ZE t.2 u.2))=(t.1:Rat)*g t.2*evQ g q:=by
  intro t q y hq
  induction q with
  |nil=>simp[evQ,Rat.mul_zero]
  |cons u r ih=>
   simp only[ya,evQ];rw[ih (λ x hx=>hq x (yX _ hx)),hg _ _ y (hq u (zz ..)),xk,uT]
   congr 1
   rw[yT,yT]
   congr 1
   rw[<-yT,wN (u.1:Rat) (g t.2),yT]
 induction p with
 |nil=>simp[mulL,evQ,Rat.zero_mul]
 |cons t r ih=>
  have e:mulL (t :: r) q=(q.map λ u=>(t.1*u.1,ZE t.2 u.2))++mulL r q:=rfl;rw[e,zbi,one t q (hp t (zz ..)) hq,ih (λ x hx=>hp x (yX _ hx))];simp only[evQ];rw[Rat.add_mul]
end
section
open Go.RowKit
theorem Sh{w W:World}{v:Value}{r:RInt}(h:IntV (Z2 w) w v r)(hx:Ext w W):IntV (Z2 W) W v r:=by
 obtain⟨vm,h1,h2⟩:=h;exact⟨vm,h1,ZW h2 hx⟩
theorem Sj{w W:World}{v:Value}{r:RInt}(h:IntV (New w W) W v r):IntV (Z2 W) W v r:=by
 obtain⟨vm,h1,h2⟩:=h;exact⟨vm,h1,YQ h2⟩
theorem V5{a b:Int}{k:Nat}(h:ZQ a+ZQ b<=k):ZQ (a*b)<=k:=by
 unfold ZQ at h⊢;rw[xS];exact UK h
theorem Pu(p q:Rat):Rat.divInt (p.num*(q.den:Int)+q.num*(p.den:Int)) ((p.den:Int)*(q.den:Int))=p+q:=by
 have h:=Rat.divInt_add_divInt p.num q.num (d₁:=(p.den:Int)) (d₂:=(q.den:Int)) (x_.2 p.den_nz) (x_.2 q.den_nz);rw[xO,xO]at h;exact h.symm
theorem Lg{a b:Int}{k:Nat}(ha:ZQ a<=k)(hb:ZQ b<=k):ZQ (a+b)<=k+1:=by
 unfold ZQ at *;have h1:a.natAbs<Z9^k:=zU (Xq ZU _) (zA (by decide) ha);have h2:b.natAbs<Z9^k:=zU (Xq ZU _) (zA (by decide) hb);refine YZ ZU _ (k+1) ?_;have h3:(a+b).natAbs<=a.natAbs+b.natAbs:=Int.natAbs_add_le a b;have h4:Z9^(k+1)=Z9^k*Z9:=yY ..;have y:2<=Z9:=ZU;have h6:Z9^k*2<=Z9^k*Z9:=yV _ y;omega
theorem OB{S:Nat->Prop}(vx vy:Value)(x1 x2 y1 y2:RInt)(w:World)(hx:RatI S w vx x1 x2)(hy:RatI S w vy y1 y2)(hS:∀k,S k->k<w.heap.size)(hr:x1.mag.length<=100000000000)(hr2:y2.mag.length<=100000000000) :
  Calls Tryz.prog 60 #[vx,vy] w λ e w'=>∃v',e=.returned v'/\IntV (New w w') w' v' (Z8 (Z6 x1*Z6 y2))/\Ext w w':=by
 obtain⟨aa,ae,rfl,O,U⟩:=hx;obtain⟨af,ac,rfl,X,K⟩:=hy;obtain⟨w0,z⟩:∃W,W=(((w.alloc (.cells #[.bool x1.neg,aa,.bool x2.neg,ae] 30)).alloc (.cells #[.bool y1.neg,af,.bool y2.neg,ac] 30)).alloc (.cells #[.bool false,.slice none 0 0] 28)):=⟨_,rfl⟩
 have I:Hd (Ext w w0):=Z_ (by rw[z];exact uO (uO (uO (uP w) _) _) _);have ah:Hd (w.heap.size+1+1<w0.heap.size):=Z_ (by rw[z];simp)
 have HB:=Z_ (λ(W:World) (h:Ext w0 W)=>by
  rw[z]at h
  exact Zf h)
 obtain⟨Z,hZ⟩:∃Z,Z=Z6 x1*Z6 y2:=⟨_,rfl⟩
 have CM:=Z_ (UP (.agg #[.bool x1.neg,aa]) (.agg #[.bool y2.neg,ac]) x1 y2 w0 ⟨_,rfl,O.ext I.o hS⟩ ⟨_,rfl,K.ext I.o hS⟩ (ZM hS I.o) hr hr2);rw[<-hZ]at CM⊢;obtain⟨an1,cn1,rfl⟩:=O.form;obtain⟨ad1,cd1,rfl⟩:=U.form;obtain⟨an2,cn2,rfl⟩:=X.form;obtain⟨ad2,cd2,rfl⟩:=K.form;have ad:=Z_ z;rw[z]at CM;obtain⟨b1,b2,-,-⟩:=HB.o w0 (uP _);have c1:=b1 0 _ rfl;have c2:=b1 1 _ rfl;have c3:=b2 2 _ rfl;have c4:=b2 3 _ rfl;rw[z]at c1 c2 c3 c4;clear O U X K z b1 b2 hZ
 go_enter Tryz.func60,Tryz.ntmps60
 go_wp2_with fail;refine CM.o.mono ?_;rintro e w2 ⟨v2,rfl,⟨vm2,rfl,J⟩,D⟩;rw[<-ad.o]at J D;obtain⟨-,-,b3,b4⟩:=HB.o w2 D;have e0:=b3 0 _ rfl;have e1:=b3 1 _ rfl;have f0:=b4 0;have f1:=b4 1;have ag:=Z_ D;have ai:=Z_ J;have HE:=Z_ (zS e0 e1);obtain⟨a2,n2,rfl⟩:=J.form;clear J D b3 b4;go_wp2
 all_goals
  have hd:=λ x y=>YY x y HE.o.1 HE.o.2;refine bodyPost_ret (by simp[results,Tryz.results60,go_sem,(hd _ _).1,(hd _ _).2];rfl) rfl ?_;have hg:=Xi (w0:=w) (b:=w.heap.size+1+1) rfl ai.o I.o ag.o (by omega) ah.o (.bool (Z8 Z).neg) (.slice a2 (Z8 Z).mag.length n2);exact⟨_,rfl,hg.1,hg.2⟩
theorem GB{S:Nat->Prop}(vx vy:Value)(x1 x2 y1 y2:RInt)(w:World)(hx:RatI S w vx x1 x2)(hy:RatI S w vy y1 y2)(hS:∀k,S k->k<w.heap.size)(hr1:x1.mag.length<=1000000000)(hr2:x2.mag.length<=1000000000)(hr3:y1.mag.length<=1000000000)(hr4:y2.mag.length<=1000000000) :
  Calls Tryz.prog 35 #[vx,vy] w λ e w'=>∃v',e=.returned v'/\Yi (New w w') w' v' (ZS (Z6 x1) (Z6 x2)+ZS (Z6 y1) (Z6 y2))/\Ext w w':=by
 have CX:=Z_ (λ(W:World) (hW:Ext w W)=>Uo vx x1 x2 W (hx.to (uM hW hS) (λ _ h=>h)) (ZM hS hW) (by omega) (by omega));have CY:=Z_ (λ(W:World) (hW:Ext w W)=>Uo vy y1 y2 W (hy.to (uM hW hS) (λ _ h=>h)) (ZM hS hW) (by omega) (by omega));obtain⟨p,hp⟩:∃p,p=ZS (Z6 x1) (Z6 x2):=⟨_,rfl⟩
 obtain⟨q,hq⟩:∃q,q=ZS (Z6 y1) (Z6 y2):=⟨_,rfl⟩
 rw[<-hp]at CX⊢;rw[<-hq]at CY⊢;obtain⟨vn1,vd1,rfl,bB,bt⟩:=hx;obtain⟨vn2,vd2,rfl,bm,bN⟩:=hy
 have ay:Hd (ZQ p.num<=1000000001/\ZQ (p.den:Int)<=1000000001/\ZQ q.num<=1000000001/\ZQ (q.den:Int)<=1000000001):=Z_ (by
  rw[hp,hq];have h1:=Uh (Z6 x1) (Z6 x2);have h2:=Uh (Z6 y1) (Z6 y2);have h3:=WS (r:=x1) bB.lt;have h4:=WS (r:=x2) bt.lt;have h5:=WS (r:=y1) bm.lt;have h6:=WS (r:=y2) bN.lt
  omega)
 obtain⟨a8,a9,rfl⟩:=bB.form;obtain⟨a7,bg,rfl⟩:=bt.form;obtain⟨bs,cd,rfl⟩:=bm.form;obtain⟨bu,bx,rfl⟩:=bN.form;obtain⟨w0,ae⟩:∃W,W=(((w.alloc (.cells #[.bool x1.neg,.slice a8 x1.mag.length a9,.bool x2.neg,.slice a7 x2.mag.length bg] 30)).alloc (.cells #[.bool y1.neg,.slice bs y1.mag.length cd,.bool y2.neg,.slice bu y2.mag.length bx] 30)).alloc (.cells #[.bool false,.slice none 0 0,.bool false,.slice none 0 0] 30)):=⟨_,rfl⟩
 have co:Hd (Ext w w0):=Z_ (by rw[ae];exact uO (uO (uO (uP w) _) _) _);have cb:Hd (w0.heap.size=w.heap.size+1+1+1):=Z_ (by rw[ae];simp)
 have HB:=Z_ (λ(W:World) (h:Ext w0 W)=>by
  rw[ae]at h
  exact Zf h)
 have cx:=Z_ (λ(W:World) (h:Ext w0 W)=>by
  rw[ae]at h;have e2:Ext ((w.alloc (.cells #[.bool x1.neg,.slice a8 x1.mag.length a9,.bool x2.neg,.slice a7 x2.mag.length bg] 30)).alloc (.cells #[.bool y1.neg,.slice bs y1.mag.length cd,.bool y2.neg,.slice bu y2.mag.length bx] 30)) W:=(uO (uP _) _).trans h;have e1:Ext (w.alloc (.cells #[.bool x1.neg,.slice a8 x1.mag.length a9,.bool x2.neg,.slice a7 x2.mag.length bg] 30)) W:=(uO (uP _) _).trans e2
  exact zS (λ i=>e1.new_free i) (λ i=>by have h1:=e2.new_free i;rw[z00]at h1;exact h1))
 have HP:=Z_ (zS hp hq);obtain⟨b1,b2,-,-⟩:=HB.o w0.drew (uI (uP _));have c1:=b1 0 _ rfl;have c2:=b1 1 _ rfl;have c3:=b1 2 _ rfl;have c4:=b1 3 _ rfl;have c5:=b2 0 _ rfl;have c6:=b2 1 _ rfl;have c7:=b2 2 _ rfl;have c8:=b2 3 _ rfl;have cv:=Z_ ae;have ar:=Z_ (show Ext w w0.drew from co.o.drew);have bb:=Z_ (λ(W:World) (h:Ext w0.drew W)=>zS (HB.o W ((uI (uP w0)).trans h)) (cx.o W ((uI (uP w0)).trans h)));rw[ae]at c1 c2 c3 c4 c5 c6 c7 c8 ar bb;clear bB bt bm bN hp hq ae b1 b2
 go_enter Tryz.func35,Tryz.ntmps35
 go_wp2
 go_cut [] (λ wx=>Hd (Rg w w0 wx p q))
 case first=>
  go_region_with (first
    |(go_at_call 37;(with_reducible refine(CX.o _ ar.o).mono ?_);rintro e w1 ⟨v1,rfl,⟨vn3,vd3,rfl,aj,al⟩,aB⟩;have J:=Z_ aB;obtain⟨⟨b1,b2,-,-⟩,-⟩:=bb.o _ aB;have d5:=b2 0 _ rfl;have d6:=b2 1 _ rfl;have d7:=b2 2 _ rfl;have d8:=b2 3 _ rfl;clear b1 b2;have bv:=Z_ aj;have ca:=Z_ al;obtain⟨aH,aP,rfl⟩:=aj.form;obtain⟨ag,ai,rfl⟩:=al.form;clear aB aj al)
    |(go_at_call 37;(with_reducible refine(CY.o _ (ar.o.trans J.o)).mono ?_);rintro e w2 ⟨v2,rfl,⟨vn4,vd4,rfl,cc,ac⟩,aq⟩;have aa:=Z_ aq;obtain⟨⟨b1,b2,b3,b4⟩,g1,g2⟩:=bb.o _ (J.o.trans aq);have aA:=Z_ (zS (b3 0 _ rfl) (zS (b3 1 _ rfl) (zS (b3 2 _ rfl) (zS (b3 3 _ rfl) b4))));have h1:=b1 0 _ rfl;have h2:=b1 1 _ rfl;have h3:=b1 2 _ rfl;have h4:=b1 3 _ rfl;have h5:=b2 0 _ rfl;have h6:=b2 1 _ rfl;have h7:=b2 2 _ rfl;have h8:=b2 3 _ rfl;have i1:=g1 0;have i2:=g1 1;have i3:=g1 2;have i4:=g1 3;have i5:=g2 0;have i6:=g2 1;have i7:=g2 2;have i8:=g2 3;clear b1 b2 b3 b4 g1 g2;have df:=Z_ cc;have cG:=Z_ ac;obtain⟨au,aN,rfl⟩:=cc.form;obtain⟨af,ah,rfl⟩:=ac.form;clear aq cc ac))
  all_goals
   go_wp2_with fail
   go_meet
   refine NK (o:=λ b i=>if b=0 then(#[.bool x1.neg,.slice a8 x1.mag.length a9,.bool x2.neg,.slice a7 x2.mag.length bg]:Array Value).getD i undef else(#[.bool y1.neg,.slice bs y1.mag.length cd,.bool y2.neg,.slice bu y2.mag.length bx]:Array Value).getD i undef) cb.o ar.o (by rw[cv.o];rfl) J.o aa.o bv.o ca.o df.o cG.o ?_ aA.o;intro b i hb hi
   rcases(show b=0∨b=1 by omega) with rfl|rfl
   ·rcases(show i=0∨i=1∨i=2∨i=3 by omega) with rfl|rfl|rfl|rfl
    ·exact h1
    ·exact h2
    ·exact h3
    ·exact h4
   ·rcases(show i=0∨i=1∨i=2∨i=3 by omega) with rfl|rfl|rfl|rfl
    ·exact h5
    ·exact h6
    ·exact h7
    ·exact h8
 case rest=>
  obtain⟨aH,ag,au,af,aP,ai,aN,ah,⟨m1,m2,m3,m4⟩,⟨m5,m6,m7,m8⟩,hr,ap,ad,bn,a0,cu,c9⟩:=hcut.out;have cQ:=Z_ cu;have HR:=Z_ hr;clear c1 c2 c3 c4 c5 c6 c7 c8 CX CY HB cx bb ar cv co HP;have L1:(Z8 p.num).mag.length<=1000000001:=ay.o.1;have L2:(Z8 (p.den:Int)).mag.length<=1000000001:=ay.o.2.1;have L3:(Z8 q.num).mag.length<=1000000001:=ay.o.2.2.1;have L4:(Z8 (q.den:Int)).mag.length<=1000000001:=ay.o.2.2.2;have CA:=Z_ (λ(W:World) (hW:Ext wc W)=>OB (S:=Z2 W) (.agg #[.bool (Z8 p.num).neg,.slice aH (Z8 p.num).mag.length aP,.bool (Z8 (p.den:Int)).neg,.slice ag (Z8 (p.den:Int)).mag.length ai]) (.agg #[.bool (Z8 q.num).neg,.slice au (Z8 q.num).mag.length aN,.bool (Z8 (q.den:Int)).neg,.slice af (Z8 (q.den:Int)).mag.length ah]) (Z8 p.num) (Z8 (p.den:Int)) (Z8 q.num) (Z8 (q.den:Int)) W ⟨_,_,rfl,ZW (YQ ap) hW,ZW (YQ ad) hW⟩ ⟨_,_,rfl,ZW (YQ bn) hW,ZW (YQ a0) hW⟩ (λ _ h=>h) (by omega) (by omega));have CB:=Z_ (λ(W:World) (hW:Ext wc W)=>OB (S:=Z2 W) (.agg #[.bool (Z8 q.num).neg,.slice au (Z8 q.num).mag.length aN,.bool (Z8 (q.den:Int)).neg,.slice af (Z8 (q.den:Int)).mag.length ah]) (.agg #[.bool (Z8 p.num).neg,.slice aH (Z8 p.num).mag.length aP,.bool (Z8 (p.den:Int)).neg,.slice ag (Z8 (p.den:Int)).mag.length ai]) (Z8 q.num) (Z8 (q.den:Int)) (Z8 p.num) (Z8 (p.den:Int)) W ⟨_,_,rfl,ZW (YQ bn) hW,ZW (YQ a0) hW⟩ ⟨_,_,rfl,ZW (YQ ap) hW,ZW (YQ ad) hW⟩ (λ _ h=>h) (by omega) (by omega));have CD:=Z_ (λ(W:World) (hW:Ext wc W)=>UP (S:=Z2 W) (.agg #[.bool (Z8 (p.den:Int)).neg,.slice ag (Z8 (p.den:Int)).mag.length ai]) (.agg #[.bool (Z8 (q.den:Int)).neg,.slice af (Z8 (q.den:Int)).mag.length ah]) (Z8 (p.den:Int)) (Z8 (q.den:Int)) W ⟨_,rfl,ZW (YQ ad) hW⟩ ⟨_,rfl,ZW (YQ a0) hW⟩ (λ _ h=>h) (by omega) (by omega));simp only[z09]at CA CB CD
  have az:Hd (ZQ (p.num*(q.den:Int))<=2000000002/\ZQ (q.num*(p.den:Int))<=2000000002/\ZQ ((p.den:Int)*(q.den:Int))<=2000000002):=Z_ (by
   obtain⟨h1,h2,h3,h4⟩:=ay.o
   exact⟨V5 (by omega),V5 (by omega),V5 (by omega)⟩)
  have CS:=Z_ (λ(W:World) (v1 v2:Value) (h1:IntV (Z2 W) W v1 (Z8 (p.num*(q.den:Int)))) (h2:IntV (Z2 W) W v2 (Z8 (q.num*(p.den:Int))))=>TI v1 v2 _ _ W h1 h2 (λ _ h=>h) (zT az.o.1 (by decide)) (zT az.o.2.1 (by decide)))
  have CO:=Z_ (λ(W:World) (v1 v2:Value) (h1:IntV (Z2 W) W v1 (Z8 (p.num*(q.den:Int)+q.num*(p.den:Int)))) (h2:IntV (Z2 W) W v2 (Z8 ((p.den:Int)*(q.den:Int))))=>Sy v1 v2 _ _ W h1 h2 (λ _ h=>h) (zT (Lg az.o.1 az.o.2.1) (by decide)) (zT az.o.2.2 (by decide))
   (by
    rw[z09]
    exact wB (x_.2 p.den_nz) (x_.2 q.den_nz)))
  simp only[z09,Pu]at CS CO;have D:=Z_ (λ(W:World) (h:Ext wc W)=>(⟨h.cell m1,h.cell m2,h.cell m3,h.cell m4,h.cell m5,h.cell m6,h.cell m7,h.cell m8⟩:W.cell? ⟨w.heap.size,0,none⟩=some (.bool (Z8 p.num).neg)/\W.cell? ⟨w.heap.size,1,none⟩=some (.slice aH (Z8 p.num).mag.length aP)/\W.cell? ⟨w.heap.size,2,none⟩=some (.bool (Z8 (p.den:Int)).neg)/\W.cell? ⟨w.heap.size,3,none⟩=some (.slice ag (Z8 (p.den:Int)).mag.length ai)/\W.cell? ⟨w.heap.size+1,0,none⟩=some (.bool (Z8 q.num).neg)/\W.cell? ⟨w.heap.size+1,1,none⟩=some (.slice au (Z8 q.num).mag.length aN)/\W.cell? ⟨w.heap.size+1,2,none⟩=some (.bool (Z8 (q.den:Int)).neg)/\W.cell? ⟨w.heap.size+1,3,none⟩=some (.slice af (Z8 (q.den:Int)).mag.length ah)));have aA:Hd (Box wc (w.heap.size+1+1)):=Z_ ⟨hr.1,hr.2.1,hr.2.2.1,hr.2.2.2.1,hr.2.2.2.2,by have h1:=cb.o;omega⟩;have bA:=Z_ (show w.heap.size+1+1<wc.heap.size by have h1:=cb.o;omega);have aF:=Z_ (show Ext wc wc.drew from uI (uP _));clear ap ad bn a0 cu c9 hr m1 m2 m3 m4 m5 m6 m7 m8 L1 L2 L3 L4;go_wp2_with fail
  go_cut [6] (λ u5 wx=>Hd (VO (w.heap.size+1+1) wc wx u5 (p+q)))
  case first=>
    go_region_held3 (λ W=>W.cell? ⟨w.heap.size,0,none⟩=some (.bool (Z8 p.num).neg)/\W.cell? ⟨w.heap.size,1,none⟩=some (.slice aH (Z8 p.num).mag.length aP)/\W.cell? ⟨w.heap.size,2,none⟩=some (.bool (Z8 (p.den:Int)).neg)/\W.cell? ⟨w.heap.size,3,none⟩=some (.slice ag (Z8 (p.den:Int)).mag.length ai)/\W.cell? ⟨w.heap.size+1,0,none⟩=some (.bool (Z8 q.num).neg)/\W.cell? ⟨w.heap.size+1,1,none⟩=some (.slice au (Z8 q.num).mag.length aN)/\W.cell? ⟨w.heap.size+1,2,none⟩=some (.bool (Z8 (q.den:Int)).neg)/\W.cell? ⟨w.heap.size+1,3,none⟩=some (.slice af (Z8 (q.den:Int)).mag.length ah))
   (first
    |exact D.o _ aF.o|exact D.o _ (((uP wc).alloc _).drew)
    |exact D.o _ J.o|exact D.o _ (J.o.alloc _)
    |exact D.o _ aa.o|exact D.o _ (aa.o.alloc _)
    |exact D.o _ Z.o|exact D.o _ (Z.o.alloc _)
    |exact D.o _ U.o|exact D.o _ (U.o.alloc _)
    |exact D.o _ I.o|exact D.o _ (I.o.alloc _)
    |exact D.o _ (Ys I.o (zR _) _ _ _ _)|exact D.o _ (Ys I.o J.o.size _ _ _ _)|exact D.o _ (Ys I.o aa.o.size _ _ _ _)|exact D.o _ (Ys I.o Z.o.size _ _ _ _)|exact D.o _ (Ys I.o U.o.size _ _ _ _)
    |fail)
   (first
    |(go_at_call 60;(first|(with_reducible refine(CA.o _ aF.o).mono ?_)|(with_reducible refine(CA.o _ (((uP wc).alloc _).drew)).mono ?_)|fail);rintro e w1 ⟨v1,rfl,cA,bf⟩;(first|(have J:=Z_ (aF.o.trans bf))|(have J:=Z_ ((((uP wc).alloc _).drew).trans bf))|fail);(first|(have BX:=Z_ (WV ((uI (uP _)).trans bf)))|skip);have c0:=Z_ (Sj cA);have ba:=Z_ (λ(W:World) (hW:Ext w1 W)=>CB.o W (J.o.trans hW));obtain⟨vm1,rfl,cy⟩:=cA;obtain⟨a1,k1,rfl⟩:=cy.form;clear bf cy)
    |(go_at_call 60;have _t:=ba;(first|(with_reducible refine(ba.o _ (uP _)).mono ?_)|(with_reducible refine(ba.o _ (uO (uP _) _)).mono ?_)|fail);rintro e w2 ⟨v2,rfl,cz,av⟩;(first|(have b7:Hd (Ext w1 w2):=Z_ av)|(have b7:Hd (Ext w1 w2):=Z_ ((uO (uP w1) _).trans av))|fail);have aa:=Z_ (J.o.trans b7.o);(first|(have BX:=Z_ (XU BX.o av))|(have BX:=Z_ (WV av))|skip);have dm:=Z_ (Sj cz);obtain⟨vm2,rfl,cr⟩:=cz;obtain⟨a2,k2,rfl⟩:=cr.form;have cq:=Z_ (λ(W:World) (hW:Ext w2 W)=>CS.o W _ _ (Sh c0.o (b7.o.trans hW)) (Sh dm.o hW));clear av cr ba)
    |(go_at_call 61;(first|(with_reducible refine(cq.o _ (uP _)).mono ?_)|(with_reducible refine(cq.o _ (uO (uP _) _)).mono ?_)|fail);rintro e w3 ⟨v3,rfl,cp,aS⟩;(first|(have cj:Hd (Ext w2 w3):=Z_ aS)|(have cj:Hd (Ext w2 w3):=Z_ ((uO (uP w2) _).trans aS))|fail);have Z:=Z_ (aa.o.trans cj.o);(first|(have BX:=Z_ (XU BX.o aS))|(have BX:=Z_ (WV aS))|skip);have cB:=Z_ (Sj cp);have cm:=Z_ (λ(W:World) (hW:Ext w3 W)=>CD.o W (Z.o.trans hW));obtain⟨vm3,rfl,ap⟩:=cp;obtain⟨a3,k3,rfl⟩:=ap.form;clear aS ap)
    |(go_at_call 59;(first|(with_reducible refine(cm.o _ (uP _)).mono ?_)|(with_reducible refine(cm.o _ (uO (uP _) _)).mono ?_)|fail);rintro e w4 ⟨v4,rfl,ch,ax⟩;(first|(have b6:Hd (Ext w3 w4):=Z_ ax)|(have b6:Hd (Ext w3 w4):=Z_ ((uO (uP w3) _).trans ax))|fail);have U:=Z_ (Z.o.trans b6.o);(first|(have BX:=Z_ (XU BX.o ax))|(have BX:=Z_ (WV ax))|skip);have cC:=Z_ (Sj ch);obtain⟨vm4,rfl,ad⟩:=ch;obtain⟨a4,k4,rfl⟩:=ad.form;have cg:=Z_ (λ(W:World) (hW:Ext w4 W)=>CO.o W _ _ (Sh cB.o (b6.o.trans hW)) (Sh cC.o hW));clear ax ad)
    |(go_at_call 58;have BY:=BX;(with_reducible refine(cg.o _ (uP _)).mono ?_);rintro e w5 ⟨v5,rfl,⟨ct,cl,rfl,O,K⟩,X⟩;have I:=Z_ (U.o.trans X);have aC:=Z_ (XU BY.o X);have ce:=Z_ (BY.o.2.2.2.2.2);obtain⟨g0,g1,g2,g3,yf,yl⟩:=aC.o;have cF:=yf 0;have cR:=yf 1;have cP:=yf 2;have db:=yf 3;have aG:=Z_ O;have aR:=Z_ K;obtain⟨a5,k5,rfl⟩:=O.form;obtain⟨a6,k6,rfl⟩:=K.form;clear X O K)
    |(go_at_call 58;(with_reducible refine(cg.o _ (uO (uP _) _)).mono ?_);rintro e w5 ⟨v5,rfl,⟨ct,cl,rfl,O,K⟩,X⟩;have I:=Z_ ((U.o.alloc _).trans X);have aC:=Z_ (WV X);have ce:=Z_ (show w4.heap.size<(w4.alloc (.cells #[.bool false,.slice none 0 0,.bool false,.slice none 0 0] 30)).heap.size by rw[z00];exact zk _);obtain⟨g0,g1,g2,g3,yf,yl⟩:=aC.o;have cF:=yf 0;have cR:=yf 1;have cP:=yf 2;have db:=yf 3;have aG:=Z_ O;have aR:=Z_ K;obtain⟨a5,k5,rfl⟩:=O.form;obtain⟨a6,k6,rfl⟩:=K.form;clear X O K)
    |(go_at_call 58;(with_reducible refine(cg.o _ (uP _)).mono ?_);rintro e w5 ⟨v5,rfl,⟨ct,cl,rfl,O,K⟩,X⟩;have I:=Z_ (U.o.trans X);have aG:=Z_ O;have aR:=Z_ K;obtain⟨a5,k5,rfl⟩:=O.form;obtain⟨a6,k6,rfl⟩:=K.form;clear X O K)
    |fail)
    all_goals
   go_wp2_with fail
   go_meet
   first
    |(have q:=Sa I.o (U.o.size) aG.o aR.o aC.o (by first|exact zR _|exact J.o.size|exact aa.o.size|exact Z.o.size|exact U.o.size) ce.o (XU aA.o (I.o)) bA.o;with_reducible exact Z_ q)
    |(have q:=Sa I.o ((U.o.alloc _).size) aG.o aR.o aC.o (by first|exact zR _|exact J.o.size|exact aa.o.size|exact Z.o.size|exact U.o.size) ce.o (XU aA.o (I.o)) bA.o;with_reducible exact Z_ q)
    |(have q:=K1 (T:=30) I.o (U.o.size) aG.o aR.o (XU aA.o (I.o));with_reducible exact Z_ q)
    |fail
  case rest=>
   obtain⟨b,a3,a4,k3,k4,rfl,⟨m1,m2,m3,m4⟩,cn,aj,al,ci⟩:=hcut.out;have Z:=Z_ ci;have bl:=Z_ cn;obtain⟨e1,e2,e3,e4,ff,hl⟩:=cn;have f1:=ff 0;have f2:=ff 1;have f3:=ff 2;have f4:=ff 3;have bv:=Z_ aj;have ca:=Z_ al;clear aj al ci ff hl;go_wp2
   all_goals
    have ac:=λ x y z t=>X8 x y z t bl.o.1 bl.o.2.1 bl.o.2.2.1 bl.o.2.2.2.1;refine bodyPost_ret (by simp[results,Tryz.results35,go_sem,(ac _ _ _ _).1,(ac _ _ _ _).2.1,(ac _ _ _ _).2.2.1,(ac _ _ _ _).2.2.2];rfl) rfl ?_;have hg:=LL cQ.o Z.o (zT (zw _) (zw _)) bA.o bv.o ca.o (.bool (Z8 (p+q).num).neg) (.slice a3 (Z8 (p+q).num).mag.length k3) (.bool (Z8 ((p+q).den:Int)).neg) (.slice a4 (Z8 ((p+q).den:Int)).mag.length k4);exact⟨_,rfl,hg.1,hg.2⟩
end
section
open Go.RowKit
theorem F3(a b:Int):(Z4 Z9 (ZS a b).num.natAbs).length<=(Z4 Z9 a.natAbs).length:=by
 have y:∀n g:Int,g≠0->a=n*g->(Z4 Z9 n.natAbs).length<=(Z4 Z9 a.natAbs).length:=λ n g hg h=>Yp (by
  rw[h,xS]
  exact y9 _ (by omega))
 unfold ZS
 by_cases h:b=0
 ·rw[if_pos h];obtain⟨z,D,-⟩:=Ui a 1 (by decide);exact y _ _ z D
 ·rw[if_neg h];obtain⟨z,D,-⟩:=Ui a b h;exact y _ _ z D
theorem KQ(a b c d:Value)(W:World):Sem.run Tryz.prog (Instr.field 30 (.agg #[a,b,c,d]) 0) W=Result.ok (.agg #[a,b]) W:=by
 first
  |kernel_rfl
  |rfl
theorem Aa{S:Nat->Prop}(v:Value)(x y:RInt)(w:World)(h:RatI S w v x y)(hS:∀k,S k->k<w.heap.size)(hr:x.mag.length<=10000000000)(hr2:y.mag.length<=10000000000) :
  Calls Tryz.prog 18 #[v] w λ e w'=>e=.returned (.int .i64 (Zx (ZS (Z6 x) (Z6 y)).num))/\Ext w w':=by
 have O:Hd ((Z8 (ZS (Z6 x) (Z6 y)).num).mag.length<=50000000000000):=Z_ (by
  obtain⟨un,ud,hv,h1,U⟩:=h;clear U;show(Z4 Z9 (Int.natAbs (ZS (Z6 x) (Z6 y)).num)).length<=_;have U:=F3 (Z6 x) (Z6 y);rw[SK]at U;have h3:=XL h1.lt
  omega)
 obtain⟨q,hq⟩:∃q,q=ZS (Z6 x) (Z6 y):=⟨_,rfl⟩
 have CP:=Z_ (λ(W:World) (hW:Ext w W)=>Uo v x y W (h.to (uM hW hS) (λ _ h=>h)) (ZM hS hW) hr hr2);rw[<-hq]at CP O⊢;obtain⟨vn,vd,rfl,hn,hd⟩:=h;obtain⟨an,cn,rfl⟩:=hn.form;obtain⟨ad,cd,rfl⟩:=hd.form;have J:=Z_ (uO (uP w) (.cells #[.bool x.neg,.slice an x.mag.length cn,.bool y.neg,.slice ad y.mag.length cd] 30));clear hn hd hq
 go_enter Tryz.func18,Tryz.ntmps18
 go_wp2_with fail;(with_reducible refine(CP.o _ J.o).mono ?_);rintro e w1 ⟨v1,rfl,⟨X,vd1,rfl,z,D⟩,K⟩;have CS:=Z_ (X5 (.agg #[.bool (Z8 q.num).neg,X]) (Z8 q.num) w1 ⟨_,rfl,z⟩ uK O.o);rw[z09]at CS;have Z:=Z_ (J.o.trans K);obtain⟨a1,k1,rfl⟩:=z.form;obtain⟨a2,k2,rfl⟩:=D.form;have hfld:=KQ (.bool (Z8 q.num).neg) (.slice a1 (Z8 q.num).mag.length k1) (.bool (Z8 (q.den:Int)).neg) (.slice a2 (Z8 (q.den:Int)).mag.length k2) w1;clear z D K;go_wp2_with fail;refine CS.o.mono ?_;rintro e w2 ⟨rfl,I⟩;have aa:=Z_ (Z.o.trans I);clear I;go_wp2
 all_goals
  go_ret;exact⟨rfl,aa.o⟩
theorem Qp{S:Nat->Prop}(vx:Value)(x:RInt)(w:World)(hx:IntV S w vx x)(hS:∀k,S k->k<w.heap.size)(hr:x.mag.length<=10000000000) :
  Calls Tryz.prog 32 #[vx] w λ e w'=>∃v',e=.returned v'/\Yi (New w w') w' v' (Z6 x:Rat)/\Ext w w':=by
 have eq:ZS (Z6 x) 0=(Z6 x:Rat):=by
  unfold ZS;rw[if_pos rfl];exact xO ((Z6 x:Int):Rat)
 obtain⟨xn,xs⟩:=x;obtain⟨ac,rfl,I⟩:=hx;simp only at I hr;rw[<-eq];obtain⟨X,hX⟩:∃X,X=Z6 ⟨xn,xs⟩:=⟨_,rfl⟩
 rw[<-hX];obtain⟨w0,D⟩:∃W,W=((w.alloc (.cells #[.bool xn,ac] 28)).alloc (.cells #[.bool false,.slice none 0 0,.bool false,.slice none 0 0] 30)):=⟨_,rfl⟩
 have aa:Hd (Ext w w0):=Z_ (by rw[D];exact uO (uO (uP w) _) _);have ag:Hd (w.heap.size+1<w0.heap.size):=Z_ (by rw[D];simp);have CP:=Z_ (Uo (S:=S) (.agg #[.bool xn,ac,.bool false,.slice none 0 0]) ⟨xn,xs⟩ ⟨false,[]⟩ w0 ⟨_,_,rfl,I.ext aa.o hS,ul _ _ _ _ (by omega)⟩ (ZM hS aa.o) hr (by decide));have e0:Z6 ⟨false,[]⟩=0:=by decide
 rw[e0,<-hX]at CP
 have HB:=Z_ (λ(W:World) (h:Ext w0 W)=>by
  rw[D]at h;have k:=λ i v hv=>h.new_cell (i:=i) (v:=v) hv;have f:=λ i=>h.new_free i;rw[z00]at k f
  exact zS k f)
 obtain⟨ax,cx,rfl⟩:=I.form;rw[D]at CP;have ad:=Z_ D;clear I hX D eq e0
 go_enter Tryz.func32,Tryz.ntmps32
 go_wp2_with fail;refine CP.o.mono ?_;rintro e w2 ⟨v2,rfl,⟨vn2,vd2,rfl,O,J⟩,K⟩;rw[<-ad.o]at O J K;obtain⟨b3,b4⟩:=HB.o w2 K;have e1:=b3 0 _ rfl;have e2:=b3 1 _ rfl;have e3:=b3 2 _ rfl;have e4:=b3 3 _ rfl;have f1:=b4 0;have f2:=b4 1;have f3:=b4 2;have f4:=b4 3;have Z:=Z_ (zS e1 (zS e2 (zS e3 e4)));have af:=Z_ K;have ae:=Z_ O;have ah:=Z_ J;obtain⟨a2,k2,rfl⟩:=O.form;obtain⟨a3,k3,rfl⟩:=J.form;clear K O J b3 b4;go_wp2
 all_goals
  have U:=λ x y z t=>X8 x y z t Z.o.1 Z.o.2.1 Z.o.2.2.1 Z.o.2.2.2;refine bodyPost_ret (by simp[results,Tryz.results32,go_sem,(U _ _ _ _).1,(U _ _ _ _).2.1,(U _ _ _ _).2.2.1,(U _ _ _ _).2.2.2];rfl) rfl ?_;have hg:=Qg (w:=w) (w1:=w0) (b:=w.heap.size+1) (n:=Z8 (ZS X 0).num) (d:=Z8 ((ZS X 0).den:Int)) aa.o af.o ag.o (zw _) ae.o ah.o (.bool (Z8 (ZS X 0).num).neg) (.slice a2 (Z8 (ZS X 0).num).mag.length k2) (.bool (Z8 ((ZS X 0).den:Int)).neg) (.slice a3 (Z8 ((ZS X 0).den:Int)).mag.length k3);exact⟨_,rfl,hg.1,hg.2⟩
end
section
open Go.RowKit
theorem z61(q:Rat):ZS q.num (q.den:Int)=q:=by
 unfold ZS;rw[if_neg (x_.2 q.den_nz)];exact xO q
theorem NN(a:Int){k:Nat}(h:ZQ a<=k)(i:Nat):ZQ (a^i)<=i*k+1:=by
 induction i with
 |zero=>
  rw[Int.pow_zero,yE]
  decide
 |succ i ih=>
  rw[Int.pow_succ];refine V5 ?_;rw[uV];omega
theorem QU{q:Rat}{k:Nat}(h1:ZQ q.num<=k)(h2:ZQ (q.den:Int)<=k)(i:Nat):ZQ (q^i).num<=i*k+1/\ZQ ((q^i).den:Int)<=i*k+1:=by
 rw[Rat.num_pow,Rat.den_pow,Int.natCast_pow];exact⟨NN _ h1 i,NN _ h2 i⟩
theorem QZ(q:Rat)(i j:Nat):q^(i+j)=q^i*q^j:=by
 induction j with
 |zero=>rw[zp,vM,vB]
 |succ j ih=>rw[<-xh,Rat.pow_succ,Rat.pow_succ,ih,yT]
def QBox(W:World)(b:Nat)(x y:RInt)(v1 v2:Value):Prop:=W.cell? ⟨b,0,none⟩=some (.bool x.neg)/\W.cell? ⟨b,1,none⟩=some v1/\W.cell? ⟨b,2,none⟩=some (.bool y.neg)/\W.cell? ⟨b,3,none⟩=some v2/\(∀i,W.frozen? ⟨b,i,none⟩=false)/\b<W.heap.size
theorem QBox.ext{w W:World}{b:Nat}{x y:RInt}{v1 v2:Value}(h:QBox w b x y v1 v2)(hx:Ext w W):QBox W b x y v1 v2 :=
 ⟨hx.cell h.1,hx.cell h.2.1,hx.cell h.2.2.1,hx.cell h.2.2.2.1,λ i=>hx.free h.2.2.2.2.2 (h.2.2.2.2.1 i),zU h.2.2.2.2.2 hx.size⟩
theorem QBox.new{w W:World}{T:TypeId}{x y:RInt}{v1 v2:Value}(h:Ext (w.alloc (.cells #[.bool x.neg,v1,.bool y.neg,v2] T)) W):QBox W w.heap.size x y v1 v2 :=
 ⟨h.new_cell rfl,h.new_cell rfl,h.new_cell rfl,h.new_cell rfl,λ i=>h.new_free i,zU (by rw[z00];omega) h.size⟩
theorem QBox.put{w:World}{b:Nat}{x y x' y':RInt}{v1 v2:Value}(h:QBox w b x y v1 v2)(u1 u2:Value) :
  QBox ((((w.setCell ⟨b,0,none⟩ (.bool x'.neg)).setCell ⟨b,1,none⟩ u1).setCell ⟨b,2,none⟩ (.bool y'.neg)).setCell ⟨b,3,none⟩ u2) b x' y' u1 u2:=by
 have k:=X8 (.bool x'.neg) u1 (.bool y'.neg) u2 h.1 h.2.1 h.2.2.1 h.2.2.2.1;exact⟨k.1,k.2.1,k.2.2.1,k.2.2.2,λ i=>UE (h.2.2.2.2.1 i) _ _ _ _,by simp only[z03];exact h.2.2.2.2.2⟩
theorem QBox.far{w:World}{b c:Nat}{x y:RInt}{v1 v2:Value}(h:QBox w c x y v1 v2)(hne:b≠c)(t1 t2 t3 t4:Value) :
  QBox ((((w.setCell ⟨b,0,none⟩ t1).setCell ⟨b,1,none⟩ t2).setCell ⟨b,2,none⟩ t3).setCell ⟨b,3,none⟩ t4) c x y v1 v2 :=
 ⟨YJ h.1 hne _ _ _ _,YJ h.2.1 hne _ _ _ _,YJ h.2.2.1 hne _ _ _ _,YJ h.2.2.2.1 hne _ _ _ _,λ i=>UE (h.2.2.2.2.1 i) _ _ _ _,by simp only[z03];exact h.2.2.2.2.2⟩
theorem Box.far{w:World}{b c:Nat}(h:Box w c)(hne:b≠c)(t1 t2 t3 t4:Value) :
  Box ((((w.setCell ⟨b,0,none⟩ t1).setCell ⟨b,1,none⟩ t2).setCell ⟨b,2,none⟩ t3).setCell ⟨b,3,none⟩ t4) c :=
 ⟨YJ h.1 hne _ _ _ _,YJ h.2.1 hne _ _ _ _,YJ h.2.2.1 hne _ _ _ _,YJ h.2.2.2.1 hne _ _ _ _,λ i=>UE (h.2.2.2.2.1 i) _ _ _ _,by simp only[z03];exact h.2.2.2.2.2⟩
def NX3(b4 b0 b5:Nat)(wr:World)(k:Nat):Prop:=k<wr.heap.size/\k≠b4/\k≠b0/\k≠b5
def NO3(w:World)(b4 b0 b5:Nat)(wr:World)(k:Nat):Prop:=w.heap.size<=k/\NX3 b4 b0 b5 wr k
theorem NX3.lt{b4 b0 b5:Nat}{wr:World}:∀k,NX3 b4 b0 b5 wr k->k<wr.heap.size:=λ _ h=>h.1
theorem NO3.lt{w:World}{b4 b0 b5:Nat}{wr:World}:∀k,NO3 w b4 b0 b5 wr k->k<wr.heap.size:=λ _ h=>h.2.1
theorem LG{b4 b0 b5:Nat}{wr W:World}{v:Value}{zs:List Nat}(h:U32s (NX3 b4 b0 b5 wr) wr v zs)(hx:Ext wr W):U32s (NX3 b4 b0 b5 W) W v zs:=h.to (uM hx NX3.lt) (λ _ hk=>⟨zU hk.1 hx.size,hk.2⟩)
theorem SE{w:World}{b4 b0 b5:Nat}{wr W:World}{v:Value}{zs:List Nat}(h:U32s (NO3 w b4 b0 b5 wr) wr v zs)(hx:Ext wr W):U32s (NO3 w b4 b0 b5 W) W v zs:=h.to (uM hx NO3.lt) (λ _ hk=>⟨hk.1,zU hk.2.1 hx.size,hk.2.2⟩)
theorem SL{b4 b0 b5 b:Nat}{wr:World}{v:Value}{zs:List Nat}(h:U32s (NX3 b4 b0 b5 wr) wr v zs)(hb:b=b4∨b=b0∨b=b5)(x y z t:Value) :
  U32s (NX3 b4 b0 b5 ((((wr.setCell ⟨b,0,none⟩ x).setCell ⟨b,1,none⟩ y).setCell ⟨b,2,none⟩ z).setCell ⟨b,3,none⟩ t)) ((((wr.setCell ⟨b,0,none⟩ x).setCell ⟨b,1,none⟩ y).setCell ⟨b,2,none⟩ z).setCell ⟨b,3,none⟩ t) v zs :=
 (Ud h (λ k=>by rcases hb with rfl|rfl|rfl<;>simp[NX3]at k) _ _ _ _).to (uN _ _) (λ k hk=>⟨by simp only[z03];exact hk.1,hk.2⟩)
theorem Wa{w:World}{b4 b0 b5 b:Nat}{wr:World}{v:Value}{zs:List Nat}(h:U32s (NO3 w b4 b0 b5 wr) wr v zs)(hb:b=b4∨b=b0∨b=b5)(x y z t:Value) :
  U32s (NO3 w b4 b0 b5 ((((wr.setCell ⟨b,0,none⟩ x).setCell ⟨b,1,none⟩ y).setCell ⟨b,2,none⟩ z).setCell ⟨b,3,none⟩ t)) ((((wr.setCell ⟨b,0,none⟩ x).setCell ⟨b,1,none⟩ y).setCell ⟨b,2,none⟩ z).setCell ⟨b,3,none⟩ t) v zs :=
 (Ud h (λ k=>by rcases hb with rfl|rfl|rfl<;>simp[NO3,NX3]at k) _ _ _ _).to (uN _ _) (λ k hk=>⟨hk.1,by simp only[z03];exact hk.2.1,hk.2.2⟩)
structure PwAt (w:World) (b0 b5:Nat) (wr:World) (o:Rat) (a b:RInt) (ao ad ax ay:Option Addr) (co cd cx cy:Nat):Prop where
 bx:QBox wr b0 a b (.slice ax a.mag.length cx) (.slice ay b.mag.length cy)
 bo:QBox wr b5 (Z8 o.num) (Z8 (o.den:Int)) (.slice ao (Z8 o.num).mag.length co) (.slice ad (Z8 (o.den:Int)).mag.length cd)
 br:Box wr (b0+1)
 x1:U32s (NX3 (b0+1) b0 b5 wr) wr (.slice ax a.mag.length cx) a.mag
 x2:U32s (NX3 (b0+1) b0 b5 wr) wr (.slice ay b.mag.length cy) b.mag
 o1:U32s (NO3 w (b0+1) b0 b5 wr) wr (.slice ao (Z8 o.num).mag.length co) (Z8 o.num).mag
 o2:U32s (NO3 w (b0+1) b0 b5 wr) wr (.slice ad (Z8 (o.den:Int)).mag.length cd) (Z8 (o.den:Int)).mag
 ex:Ext w wr
 e0:w.heap.size=b0
 e5:b0+1<b5
theorem PwAt.ext{w:World}{b0 b5:Nat}{wr W:World}{o:Rat}{a b:RInt}{ao ad ax ay:Option Addr}{co cd cx cy:Nat}(h:PwAt w b0 b5 wr o a b ao ad ax ay co cd cx cy)(hx:Ext wr W):PwAt w b0 b5 W o a b ao ad ax ay co cd cx cy :=
 ⟨h.bx.ext hx,h.bo.ext hx,XU h.br hx,LG h.x1 hx,LG h.x2 hx,SE h.o1 hx,SE h.o2 hx,h.ex.trans hx,h.e0,h.e5⟩
theorem Og{wr W:World}{b4 b0 b5:Nat}{v:Value}{zs:List Nat}(h:U32s (New wr W) W v zs)(h4:b4<wr.heap.size)(h0:b0<wr.heap.size)(h5:b5<wr.heap.size):U32s (NX3 b4 b0 b5 W) W v zs :=
 h.to (uN _ _) (λ k hk=>⟨hk.2,by have:=hk.1;omega,by have:=hk.1;omega,by have:=hk.1;omega⟩)
theorem SG{w wr W:World}{b4 b0 b5:Nat}{v:Value}{zs:List Nat}(h:U32s (New wr W) W v zs)(hw:Ext w wr)(h4:b4<wr.heap.size)(h0:b0<wr.heap.size)(h5:b5<wr.heap.size):U32s (NO3 w b4 b0 b5 W) W v zs :=
 h.to (uN _ _) (λ k hk=>⟨zT hw.size hk.1,hk.2,by have:=hk.1;omega,by have:=hk.1;omega,by have:=hk.1;omega⟩)
theorem PwAt.out{w:World}{b0 b5:Nat}{wr W:World}{o o':Rat}{a b:RInt}{ao ad ax ay ao' ad':Option Addr}{co cd cx cy co' cd':Nat}(h:PwAt w b0 b5 wr o a b ao ad ax ay co cd cx cy)(hx:Ext wr W)
  (h1:U32s (New wr W) W (.slice ao' (Z8 o'.num).mag.length co') (Z8 o'.num).mag) (h2:U32s (New wr W) W (.slice ad' (Z8 (o'.den:Int)).mag.length cd') (Z8 (o'.den:Int)).mag) :
  PwAt w b0 b5 ((((W.setCell ⟨b5,0,none⟩ (.bool (Z8 o'.num).neg)).setCell ⟨b5,1,none⟩ (.slice ao' (Z8 o'.num).mag.length co')).setCell ⟨b5,2,none⟩ (.bool (Z8 (o'.den:Int)).neg)).setCell ⟨b5,3,none⟩ (.slice ad' (Z8 (o'.den:Int)).mag.length cd')) o' a b ao' ad' ax ay co' cd' cx cy:=by
 have k:=h.ext hx;have e:=h.e5;have s1:=h.br.2.2.2.2.2;have s2:=h.bx.2.2.2.2.2;have s3:=h.bo.2.2.2.2.2
 exact⟨k.bx.far (by omega) _ _ _ _,k.bo.put _ _,k.br.far (by omega) _ _ _ _,SL k.x1 (.inr (.inr rfl)) _ _ _ _,SL k.x2 (.inr (.inr rfl)) _ _ _ _,
  Wa (SG h1 h.ex s1 s2 s3) (.inr (.inr rfl)) _ _ _ _,Wa (SG h2 h.ex s1 s2 s3) (.inr (.inr rfl)) _ _ _ _,Ys k.ex (by rw[h.e0];omega) _ _ _ _,h.e0,h.e5⟩
theorem PwAt.sq{w:World}{b0 b5:Nat}{wr W:World}{o x':Rat}{a b:RInt}{ao ad ax ay ax' ay':Option Addr}{co cd cx cy cx' cy':Nat}(h:PwAt w b0 b5 wr o a b ao ad ax ay co cd cx cy)(hx:Ext wr W)
  (h1:U32s (New wr W) W (.slice ax' (Z8 x'.num).mag.length cx') (Z8 x'.num).mag) (h2:U32s (New wr W) W (.slice ay' (Z8 (x'.den:Int)).mag.length cy') (Z8 (x'.den:Int)).mag) :
  PwAt w b0 b5 ((((W.setCell ⟨b0,0,none⟩ (.bool (Z8 x'.num).neg)).setCell ⟨b0,1,none⟩ (.slice ax' (Z8 x'.num).mag.length cx')).setCell ⟨b0,2,none⟩ (.bool (Z8 (x'.den:Int)).neg)).setCell ⟨b0,3,none⟩ (.slice ay' (Z8 (x'.den:Int)).mag.length cy')) o (Z8 x'.num) (Z8 (x'.den:Int)) ao ad ax' ay' co cd cx' cy':=by
 have k:=h.ext hx;have e:=h.e5;have s1:=h.br.2.2.2.2.2;have s2:=h.bx.2.2.2.2.2;have s3:=h.bo.2.2.2.2.2
 exact⟨k.bx.put _ _,k.bo.far (by omega) _ _ _ _,k.br.far (by omega) _ _ _ _,SL (Og h1 s1 s2 s3) (.inr (.inl rfl)) _ _ _ _,SL (Og h2 s1 s2 s3) (.inr (.inl rfl)) _ _ _ _,
  Wa k.o1 (.inr (.inl rfl)) _ _ _ _,Wa k.o2 (.inr (.inl rfl)) _ _ _ _,Ys k.ex (by rw[h.e0];omega) _ _ _ _,h.e0,h.e5⟩
structure PwQ (q:Rat) (n L m i j:Nat) (o:Rat) (a b:RInt):Prop where
 sum:i+m*j=n
 jn:j<=n+1
 oq:o=q^i
 xq:ZS (Z6 a) (Z6 b)=q^j
 la:a.mag.length<=j*L+1
 lb:b.mag.length<=j*L+1
theorem BN{x:Int}(h₀:0<=x)(h₁:x<2^62):bits .and .i64 x 1=x % 2:=bits_mask .i64 62 (by decide) (λ n h0 h1=>by rw[IntKind.wrap_i64];omega) 1 (by decide) x h₀ h₁
theorem PwQ.bnd{q:Rat}{n L m i j:Nat}{o:Rat}{a b:RInt}(h:PwQ q n L m i j o a b)(hq:ZQ q.num<=L/\ZQ (q.den:Int)<=L)(hL:(n+1)*L+1<=1000000000) :
  (Z8 o.num).mag.length<=1000000000/\(Z8 (o.den:Int)).mag.length<=1000000000/\a.mag.length<=1000000000/\b.mag.length<=1000000000:=by
 have hi:i<=n:=by have:=h.sum;omega
 have y:=QU hq.1 hq.2 i;rw[<-h.oq]at y;have h2:i*L<=(n+1)*L:=zF _ (by omega);have h3:j*L<=(n+1)*L:=zF _ h.jn;have h4:=h.la;have h5:=h.lb;have h6:(Z8 o.num).mag.length=ZQ o.num:=rfl;have h7:(Z8 (o.den:Int)).mag.length=ZQ (o.den:Int):=rfl;omega
structure PwM (q:Rat) (n L m i j:Nat) (o:Rat) (a b:RInt):Prop where
 sum:i+m / 2*(2*j)=n
 jn:j<=n+1
 oq:o=q^i
 xq:ZS (Z6 a) (Z6 b)=q^j
 la:a.mag.length<=j*L+1
 lb:b.mag.length<=j*L+1
theorem PwQ.odd{q:Rat}{n L m i j:Nat}{o:Rat}{a b:RInt}(h:PwQ q n L m i j o a b)(hm:m % 2=1):PwM q n L m (i+j) j (ZS o.num (o.den:Int)*ZS (Z6 a) (Z6 b)) a b:=by
 refine⟨?_,h.jn,?_,h.xq,h.la,h.lb⟩
 ·have h1:=h.sum;obtain⟨k,rfl⟩:∃k,m=2*k+1:=⟨m / 2,by omega⟩
  have y:(2*k+1) / 2=k:=by omega
  have h3:(2*k+1)*j=k*(2*j)+j:=by rw[y8,yM,zq 2 k,zu]
  rw[y];omega
 ·rw[z61,h.oq,h.xq,QZ]
theorem PwQ.even{q:Rat}{n L m i j:Nat}{o:Rat}{a b:RInt}(h:PwQ q n L m i j o a b)(hm:m % 2=0):PwM q n L m i j o a b:=by
 refine⟨?_,h.jn,h.oq,h.xq,h.la,h.lb⟩;have h1:=h.sum;obtain⟨k,rfl⟩:∃k,m=2*k:=⟨m / 2,by omega⟩
 have y:2*k / 2=k:=by omega
 have h3:2*k*j=k*(2*j):=by rw[zq 2 k,zu]
 rw[y];omega
theorem PwM.sq{q:Rat}{n L m i j:Nat}{o:Rat}{a b:RInt}(h:PwM q n L m i j o a b)(hm:1<m)(hq:ZQ q.num<=L/\ZQ (q.den:Int)<=L) :
  PwQ q n L (m / 2) i (2*j) o (Z8 (ZS (Z6 a) (Z6 b)*ZS (Z6 a) (Z6 b)).num) (Z8 ((ZS (Z6 a) (Z6 b)*ZS (Z6 a) (Z6 b)).den:Int)):=by
 have e:ZS (Z6 a) (Z6 b)*ZS (Z6 a) (Z6 b)=q^(2*j):=by rw[h.xq,<-QZ,Nat.two_mul]
 have y:=QU hq.1 hq.2 (2*j);rw[e]
 refine⟨h.sum,?_,h.oq,?_,y.1,y.2⟩
 ·have h2:=h.sum;have h3:1*(2*j)<=m / 2*(2*j):=zF _ (by omega);omega
 ·rw[z09,z09,z61]
theorem PwM.last{q:Rat}{n L m i j:Nat}{o:Rat}{a b:RInt}(h:PwM q n L m i j o a b)(hm:¬ 1<m):PwQ q n L (m / 2) i j o a b:=by
 refine⟨?_,h.jn,h.oq,h.xq,h.la,h.lb⟩;have h1:=h.sum;have h2:m / 2=0:=by omega
 rw[h2]at h1⊢;omega
theorem PwM.bnd{q:Rat}{n L m i j:Nat}{o:Rat}{a b:RInt}(h:PwM q n L m i j o a b)(hL:(n+1)*L+1<=1000000000):a.mag.length<=1000000000/\b.mag.length<=1000000000:=by
 have h3:j*L<=(n+1)*L:=zF _ h.jn;have h4:=h.la;have h5:=h.lb;omega
theorem PwAt.ro{w:World}{b0 b5:Nat}{wr:World}{o:Rat}{a b:RInt}{ao ad ax ay:Option Addr}{co cd cx cy:Nat}(h:PwAt w b0 b5 wr o a b ao ad ax ay co cd cx cy) :
  RatI (Z2 wr) wr (.agg #[.bool (Z8 o.num).neg,.slice ao (Z8 o.num).mag.length co,.bool (Z8 (o.den:Int)).neg,.slice ad (Z8 (o.den:Int)).mag.length cd]) (Z8 o.num) (Z8 (o.den:Int)) :=
 ⟨_,_,rfl,h.o1.to (uN _ _) NO3.lt,h.o2.to (uN _ _) NO3.lt⟩
theorem PwAt.rx{w:World}{b0 b5:Nat}{wr:World}{o:Rat}{a b:RInt}{ao ad ax ay:Option Addr}{co cd cx cy:Nat}(h:PwAt w b0 b5 wr o a b ao ad ax ay co cd cx cy) :
  RatI (Z2 wr) wr (.agg #[.bool a.neg,.slice ax a.mag.length cx,.bool b.neg,.slice ay b.mag.length cy]) a b :=
 ⟨_,_,rfl,h.x1.to (uN _ _) NX3.lt,h.x2.to (uN _ _) NX3.lt⟩
theorem BF{S:Nat->Prop}(vx:Value)(x1 x2:RInt)(n L:Nat)(w:World)(hx:RatI S w vx x1 x2)(hS:∀k,S k->k<w.heap.size)(hl1:x1.mag.length+1<=L)(hl2:x2.mag.length+1<=L)(hL:(n+1)*L+1<=1000000000)(hn:n<=1000000) :
  Calls Tryz.prog 34 #[vx,.int .i64 (n:Nat)] w λ e w'=>∃v',e=.returned v'/\Yi (New w w') w' v' (ZS (Z6 x1) (Z6 x2)^n)/\Ext w w':=by
 obtain⟨q,hq⟩:∃q,q=ZS (Z6 x1) (Z6 x2):=⟨_,rfl⟩
 rw[<-hq];obtain⟨vn1,vd1,rfl,aq,ap⟩:=hx
 have aP:Hd (ZQ q.num<=L/\ZQ (q.den:Int)<=L):=Z_ (by
  rw[hq];have h1:=Uh (Z6 x1) (Z6 x2);have h3:=WS (r:=x1) aq.lt;have h4:=WS (r:=x2) ap.lt
  omega)
 obtain⟨ah,ai,rfl⟩:=aq.form;obtain⟨ag,aj,rfl⟩:=ap.form;obtain⟨w0,ac⟩:∃W,W=((w.alloc (.cells #[.bool x1.neg,.slice ah x1.mag.length ai,.bool x2.neg,.slice ag x2.mag.length aj] 30)).alloc (.cells #[.bool false,.slice none 0 0,.bool false,.slice none 0 0] 30)):=⟨_,rfl⟩
 have b7:Hd (Ext w w0):=Z_ (by rw[ac];exact uO (uO (uP w) _) _);have a8:Hd (w0.heap.size=w.heap.size+1+1):=Z_ (by rw[ac];simp)
 have HB:Hd (QBox w0 w.heap.size x1 x2 (.slice ah x1.mag.length ai) (.slice ag x2.mag.length aj)/\Box w0 (w.heap.size+1)):=Z_ (by
  rw[ac];have h:=WV (w:=w.alloc (.cells #[.bool x1.neg,.slice ah x1.mag.length ai,.bool x2.neg,.slice ag x2.mag.length aj] 30)) (T:=30) (uP _);rw[z00]at h
  exact⟨QBox.new (uO (uP _) _),h⟩)
 have C1:=Z_ (VM 1 w0 (by decide));rw[ac]at C1;have ba:=Z_ ac;have aS:=Z_ aq;have aR:=Z_ ap;have HQ:=Z_ hq;have ar:=Z_ (zS hl1 (zS hl2 hL));clear aq ap hq ac hl1 hl2 hL
 go_enter Tryz.func34,Tryz.ntmps34
 go_wp2_with fail;refine C1.o.mono ?_;rintro e w1 ⟨v1,rfl,aG,av⟩;rw[<-ba.o]at aG av;have b2:=Z_ (b7.o.trans av);have af:=Z_ av;have C2:=Z_ (Qp v1 (Z8 1) w1 aG uK (by decide));obtain⟨J,aC⟩:∃o:Rat,o=((Z6 (Z8 1):Int):Rat):=⟨_,rfl⟩
 rw[<-aC]at C2;have b6:Hd (J=q^0):=Z_ (by rw[aC,z09,vM];rfl);obtain⟨vm1,rfl,bu⟩:=aG;obtain⟨a1,k1,rfl⟩:=bu.form;clear av bu aC;go_wp2_with fail;refine C2.o.mono ?_;rintro e w2 ⟨v2,rfl,⟨vn2,vd2,rfl,al,au⟩,ae⟩;have az:=Z_ (b2.o.trans ae);have aa:=Z_ (af.o.trans ae);have cc:=Z_ al;have ci:=Z_ au;have bg:=Z_ ae;obtain⟨a2,k2,rfl⟩:=al.form;obtain⟨a3,k3,rfl⟩:=au.form
 have b3:Hd (PwAt w w.heap.size w2.heap.size (w2.alloc (.cells #[.bool (Z8 J.num).neg,.slice a2 (Z8 J.num).mag.length k2,.bool (Z8 (J.den:Int)).neg,.slice a3 (Z8 (J.den:Int)).mag.length k3] 30)) J x1 x2 a2 a3 ah ag k2 k3 ai aj):=Z_ (by
  have hA:Ext w2 (w2.alloc (.cells #[.bool (Z8 J.num).neg,.slice a2 (Z8 J.num).mag.length k2,.bool (Z8 (J.den:Int)).neg,.slice a3 (Z8 (J.den:Int)).mag.length k3] 30)):=uO (uP _) _;have hz:=a8.o;have hz2:=aa.o.size;have hz3:=af.o.size;have hz4:=ae.size
  have bb:∀k,S k->NX3 (w.heap.size+1) w.heap.size w2.heap.size (w2.alloc (.cells #[.bool (Z8 J.num).neg,.slice a2 (Z8 J.num).mag.length k2,.bool (Z8 (J.den:Int)).neg,.slice a3 (Z8 (J.den:Int)).mag.length k3] 30)) k:=λ k hk=>by
   have h1:=hS k hk;refine⟨by rw[z00];omega,by omega,by omega,by omega⟩
  have hN:∀k,New w1 w2 k->NO3 w (w.heap.size+1) w.heap.size w2.heap.size (w2.alloc (.cells #[.bool (Z8 J.num).neg,.slice a2 (Z8 J.num).mag.length k2,.bool (Z8 (J.den:Int)).neg,.slice a3 (Z8 (J.den:Int)).mag.length k3] 30)) k:=λ k hk=>by
   have h1:=hk.1;have h2:=hk.2;refine⟨by omega,by rw[z00];omega,by omega,by omega,by omega⟩
  exact⟨(HB.o.1.ext aa.o).ext hA,QBox.new (uP _),XU (XU HB.o.2 aa.o) hA,aS.o.to (uM (az.o.trans hA) hS) bb,aR.o.to (uM (az.o.trans hA) hS) bb,
   al.to (uM hA uK) hN,au.to (uM hA uK) hN,az.o.trans hA,rfl,by omega⟩)
 have b4:Hd (PwQ q n L n 0 1 J x1 x2):=Z_ ⟨by omega,by omega,b6.o,by rw[<-HQ.o,Rat.pow_succ,vM,wV],by have:=ar.o.1;omega,by have:=ar.o.2.1;omega⟩;clear al au ae aS aR cc ci HB C1 C2 a8 af aa bg ba;go_wp2
 go_loopw [1] (λ v wr=>∃(m i j:Nat) (o:Rat) (a b:RInt) (ao ad ax ay:Option Addr) (co cd cx cy:Nat),v=.int .i64 (m:Nat)/\m<=n/\Hd (PwQ q n L m i j o a b)/\Hd (PwAt w w.heap.size w2.heap.size wr o a b ao ad ax ay co cd cx cy)) (λ v _=>(intOf v).toNat)
 case atStart=>exact⟨n,0,1,J,x1,x2,a2,a3,ah,ag,k2,k3,ai,aj,rfl,zR _,b4,b3⟩
 case round=>
  obtain⟨m,i,j,o,a,b,ao,ad,ax,ay,co,cd,cx,cy,rfl,hm,O,D⟩:=hrel;obtain⟨bs,bA,bn,a7,xf,-⟩:=D.o.bx;obtain⟨b1,ca,ce,ch,of,-⟩:=D.o.bo
  by_cases h0:0<m
  ·obtain⟨t,ht⟩:∃t,(bits BinOp.and IntKind.i64 (m:Int) 1 == 1)=t:=⟨_,rfl⟩
   have HT:Hd ((t=true->m % 2=1)/\(t=false->m % 2=0)):=Z_ (by
    rw[BN (by omega) (by omega)]at ht
    constructor
    ·intro h;rw[h,beq_iff_eq]at ht;omega
    ·intro h;rw[h,beq_eq_false_iff_ne]at ht
     omega)
   go_upto_if 14 with (fail)
   clear ht
   go_cut [] (λ wx=>∃(i':Nat) (o':Rat) (aH a0:Option Addr) (bt bB:Nat),Hd (PwM q n L m i' j o' a b)/\Hd (PwAt w w.heap.size w2.heap.size wx o' a b aH a0 ax ay bt bB cx cy))
   case first=>
    cases t with
    |true=>
     have hB:=O.o.bnd aP.o ar.o.2.2;have CM:=Z_ (P_ (S:=Z2 wr) _ _ _ _ _ _ wr D.o.ro D.o.rx (λ _ h=>h) hB.1 hB.2.1 hB.2.2.1 hB.2.2.2);have HM:=Z_ (O.o.odd (HT.o.1 rfl));rw[z09,z09]at CM;obtain⟨o',bf⟩:∃o',o'=ZS o.num (o.den:Int)*ZS (Z6 a) (Z6 b):=⟨_,rfl⟩
     rw[<-bf]at CM HM;clear hB bf;go_wp2_with fail;(with_reducible refine CM.o.mono ?_);rintro e w4 ⟨v4,rfl,⟨bN,cg,rfl,Z,I⟩,X⟩;have aF:=Z_ Z;have aA:=Z_ I;have aB:=Z_ X;obtain⟨a4,k4,rfl⟩:=Z.form;obtain⟨a5,k5,rfl⟩:=I.form;have U:=Z_ (D.o.out aB.o aF.o aA.o);obtain⟨a9,a6,bm,bv,K,-⟩:=D.o.bo.ext X;have f0:=K 0;have f1:=K 1;have f2:=K 2;have f3:=K 3;clear Z I X K;go_wp2_with fail
     go_meet
     exact⟨_,_,_,_,_,_,HM,U⟩
    |false=>
     have HM:=Z_ (O.o.even (HT.o.2 rfl));go_wp2_with fail
     go_meet
     exact⟨_,_,_,_,_,_,HM,D⟩
   case rest=>
    obtain⟨i',o',aH,a0,bt,bB,HM,U⟩:=hcut;clear bs bA bn a7 xf b1 ca ce ch of;obtain⟨bs,bA,bn,a7,xf,-⟩:=U.o.bx
    by_cases h1:1<m
    ·have hB:=HM.o.bnd ar.o.2.2;have CM:=Z_ (P_ (S:=Z2 wc) _ _ _ _ _ _ wc U.o.rx U.o.rx (λ _ h=>h) hB.1 hB.2 hB.1 hB.2);have aN:=Z_ (HM.o.sq h1 aP.o);obtain⟨x',bl⟩:∃x',x'=ZS (Z6 a) (Z6 b)*ZS (Z6 a) (Z6 b):=⟨_,rfl⟩
     rw[<-bl]at CM aN;clear hB bl;go_wp2_with fail;(with_reducible refine CM.o.mono ?_);rintro e w4 ⟨v4,rfl,⟨bN,cg,rfl,Z,I⟩,X⟩;have aF:=Z_ Z;have aA:=Z_ I;have aB:=Z_ X;obtain⟨a4,k4,rfl⟩:=Z.form;obtain⟨a5,k5,rfl⟩:=I.form;have cb:=Z_ (U.o.sq aB.o aF.o aA.o);obtain⟨a9,a6,bm,bv,K,-⟩:=U.o.bx.ext X;have f0:=K 0;have f1:=K 1;have f2:=K 2;have f3:=K 3;clear Z I X K;go_wp2
     go_roundw
     case rel=>exact⟨m / 2,_,_,_,_,_,_,_,_,_,_,_,_,_,by rw[wR];rfl,by omega,aN,cb⟩
     case measure=>simp only[intOf];omega
    ·go_wp2
     go_roundw
     case rel=>exact⟨m / 2,_,_,_,_,_,_,_,_,_,_,_,_,_,by rw[wR];rfl,by omega,Z_ (HM.o.last h1),U⟩
     case measure=>simp only[intOf];omega
  ·obtain rfl:m=0:=by omega
   have HE:Hd (o=q^n):=Z_ (by
    have h1:=O.o.sum
    rw[O.o.oq,<-h1,yE,zp])
   obtain⟨a9,a6,bm,bv,K,-⟩:=D.o.br;have f0:=K 0;have f1:=K 1;have f2:=K 2;have f3:=K 3;clear K;go_wp2
   all_goals
    have hb:=D.o.br;have I:=λ x y z t=>X8 x y z t hb.1 hb.2.1 hb.2.2.1 hb.2.2.2.1;refine bodyPost_ret (by simp[results,Tryz.results34,go_sem,(I _ _ _ _).1,(I _ _ _ _).2.1,(I _ _ _ _).2.2.1,(I _ _ _ _).2.2.2];rfl) rfl ?_;refine⟨_,rfl,?_,Ys D.o.ex (zw _) _ _ _ _⟩;rw[<-HE.o];exact⟨_,_,rfl,(Wa D.o.o1 (.inl rfl) _ _ _ _).to (uN _ _) (λ k h=>⟨h.1,h.2.1⟩),(Wa D.o.o2 (.inl rfl) _ _ _ _).to (uN _ _) (λ k h=>⟨h.1,h.2.1⟩)⟩
end
section
def We(pts:List (RInt×RInt))(v:Int):Rat:=match pts[(v-1).toNat]? with
 |some r=>ZS (Z6 r.1) (Z6 r.2)
 |none=>0
def Xh(pts:List (RInt×RInt))(x:Int×Int):Rat:=We pts x.1^x.2.toNat
def gM(pts:List (RInt×RInt)):Z7->Rat
 | []=>1
 |x :: r=>Xh pts x*gM pts r
theorem Am(pts:List (RInt×RInt))(a b:Z7):gM pts (a++b)=gM pts a*gM pts b:=by
 induction a with
 |nil=>simp[gM,Rat.one_mul]
 |cons x r ih=>simp only[zc,gM,ih,yT]
theorem RG{α:Type}{l:List α}{k:Nat}{x:α}(h:l[k]? = some x):l.take (k+1)=l.take k ++ [x]:=by
 rw[zv,h];rfl
theorem IE{pts:List (RInt×RInt)}{m:Z7}{k:Nat}{x:Int×Int}(h:m[k]? = some x):gM pts (m.take (k+1))=gM pts (m.take k)*Xh pts x:=by
 rw[RG h,Am];simp only[gM,vB]
theorem AG{g:Z7->Rat}{p:PZ}{k:Nat}{t:Int×Z7}(h:p[k]? = some t):evQ g (p.take (k+1))=evQ g (p.take k)+(t.1:Rat)*g t.2:=by
 rw[RG h,zbi];simp only[evQ,Rat.add_zero]
def gE(pts:List (RInt×RInt))(f:Int->Int):Nat->Rat
 |0=>1
 |n+1=>gE pts f n*We pts ((n+1:Nat):Int)^(f ((n+1:Nat):Int)).toNat
theorem Bm(pts:List (RInt×RInt)){f g h:Int->Int}(hf:∀u,0<=f u)(hg:∀u,0<=g u)(hh:∀u,h u=f u+g u)(n:Nat):gE pts h n=gE pts f n*gE pts g n:=by
 induction n with
 |zero=>simp[gE]
 |succ n ih=>
  have e:(h ((n+1:Nat):Int)).toNat=(f ((n+1:Nat):Int)).toNat+(g ((n+1:Nat):Int)).toNat:=by
   rw[hh,Int.toNat_add (hf _) (hg _)]
  simp only[gE,ih,e,QZ];rw[yT,yT]
  congr 1
  rw[<-yT,<-yT,wN (gE pts g n)]
theorem KX(pts:List (RInt×RInt)){f h:Int->Int}{v:Int}(hv:1<=v)(h0:h v=0)(hh:∀u,u≠v->h u=f u)(n:Nat):gE pts f n=if v<=n then We pts v^(f v).toNat*gE pts h n else gE pts h n:=by
 induction n with
 |zero=>rw[if_neg (by omega)];rfl
 |succ n ih=>
  simp only[gE];rw[ih]
  by_cases z:v<=n
  ·rw[if_pos z,if_pos (by omega),hh _ (by omega),yT]
  ·rw[if_neg z]
   by_cases y:v=((n+1:Nat):Int)
   ·rw[if_pos (by omega),<-y,h0];show _=_*(_*We pts v^0);rw[vM,vB,wN]
   ·rw[if_neg (by omega),hh _ (λ e=>y e.symm)]
theorem BM(pts:List (RInt×RInt)){f:Int->Int}(h:∀u,f u=0)(n:Nat):gE pts f n=1:=by
 induction n with
 |zero=>rfl
 |succ n ih=>
  simp only[gE,ih,h];show(1:Rat)*_^0=1;rw[vM,wV]
theorem P4(pts:List (RInt×RInt)){m:Z7}:∀{l:Int},0<=l->z28 l m=true->gM pts m=gE pts (ex m) 200:=by
 induction m with
 |nil=>exact λ _ _=>(BM pts (λ _=>rfl) 200).symm
 |cons x r ih=>
  intro l hl h;have y:=h;simp only[z28,zK,decide_eq_true_eq]at y;have z:=ih (l:=x.1) (by omega) y.2;have e:=KX pts (f:=ex (x :: r)) (h:=ex r) (v:=x.1) (by omega) (Vc y.2 (yi _)) (λ u hu=>by rw[ex,if_neg (λ e=>hu e.symm)]) 200;rw[e,if_pos (by omega),gM,z,Xh]
  congr 3
  rw[ex,if_pos rfl]
theorem Io(pts:List (RInt×RInt)){a b:Z7}(ha:XR a=true)(hb:XR b=true):gM pts (ZE a b)=gM pts a*gM pts b:=by
 rw[P4 pts (yi 0) (TY ha hb),P4 pts (yi 0) ha,P4 pts (yi 0) hb];exact Bm pts (Sg ha) (Sg hb) (Tt ha hb) 200
theorem ID(pts:List (RInt×RInt)){p q:PZ}(hp:VT p)(hq:VT q):evQ (gM pts) (mulL p q)=evQ (gM pts) p*evQ (gM pts) q :=
 Ch _ _ _ hp hq (λ _ _=>Io pts)
def Sz(B:Nat)(q:Rat):Prop:=ZQ q.num<=B/\ZQ (q.den:Int)<=B
theorem Sz.mono{A B:Nat}{q:Rat}(h:Sz A q)(hAB:A<=B):Sz B q:=⟨zT h.1 hAB,zT h.2 hAB⟩
theorem Nj(a b:Int)(hb:b≠0):ZQ (Rat.divInt a b).num<=ZQ a/\ZQ ((Rat.divInt a b).den:Int)<=ZQ b:=by
 obtain⟨h1,h2,h3⟩:=Ui a b hb;exact⟨T4 h1 h2,T4 h1 h3⟩
theorem Pq(p q:Rat):(p.den:Int)*(q.den:Int)≠0:=wB (x_.2 p.den_nz) (x_.2 q.den_nz)
theorem Sz.mul{A B:Nat}{p q:Rat}(h:Sz A p)(k:Sz B q):Sz (A+B) (p*q):=by
 rw[<-MR];obtain⟨z,y⟩:=Nj (p.num*q.num) ((p.den:Int)*(q.den:Int)) (Pq p q);have a1:=h.1;have a2:=h.2;have b1:=k.1;have b2:=k.2;exact⟨zT z (V5 (by omega)),zT y (V5 (by omega))⟩
theorem Sz.add{A B:Nat}{p q:Rat}(h:Sz A p)(k:Sz B q):Sz (A+B+1) (p+q):=by
 rw[<-Pu];obtain⟨z,y⟩:=Nj (p.num*(q.den:Int)+q.num*(p.den:Int)) ((p.den:Int)*(q.den:Int)) (Pq p q);have a1:=h.1;have a2:=h.2;have b1:=k.1;have b2:=k.2;exact⟨zT z (Lg (V5 (by omega)) (V5 (by omega))),zT y (zT (V5 (k:=A+B) (by omega)) (by omega))⟩
theorem Sz.pow{A:Nat}{q:Rat}(h:Sz A q)(i:Nat):Sz (i*A+1) (q^i):=QU h.1 h.2 i
theorem Ra{z:Int}{K:Nat}(h:ZQ z<=K)(hK:1<=K):Sz K (z:Rat):=by
 refine⟨?_,?_⟩
 ·rw[Rat.num_intCast];exact h
 ·rw[Rat.den_intCast];exact zT (show ZQ ((1:Nat):Int)<=1 by decide) hK
structure AtFit (pts:List (RInt×RInt)) (p:PZ) (K E V N:Nat):Prop where
 can:canP p
 cls:ZL p<=pts.length
 c:∀t∈p,ZQ t.1<=K
 e:∀t∈p,∀y∈t.2,y.2<=E
 v:∀t∈p,t.2.length<=V
 n:p.length<=N
 r:∀x∈pts,x.1.mag.length<=3/\x.2.mag.length<=3
 k1:1<=K
 e1:E<=10000
 b:(K+V*(E*4+1)+2)*(N+1)<=1000000000
theorem Nx{pts:List (RInt×RInt)}(hl:∀x∈pts,(∀z∈x.1.mag,z<Z9)/\∀z∈x.2.mag,z<Z9)(h:∀x∈pts,x.1.mag.length<=3/\x.2.mag.length<=3)(v:Int):Sz 4 (We pts v):=by
 unfold We
 split
 ·rename_i r hr
  have y:=zP hr;have h1:=Uh (Z6 r.1) (Z6 r.2);have h2:=WS (hl r y).1;have h3:=WS (hl r y).2;have h4:=h r y;exact⟨by omega,by omega⟩
 ·exact⟨by decide,by decide⟩
theorem Qa{pts:List (RInt×RInt)}(hp:∀v,Sz 4 (We pts v)){E:Nat}{m:Z7}(h:∀y∈m,y.2<=E):Sz (m.length*(E*4+1)+1) (gM pts m):=by
 induction m with
 |nil=>exact Sz.mono (A:=1) ⟨show ZQ ((1:Rat)).num<=1 by decide,show ZQ (((1:Rat)).den:Int)<=1 by decide⟩ (Nat.le_add_left _ _)
 |cons x r ih=>
  have D:=ih (λ y hy=>h y (yX _ hy));have z:=(hp x.1).pow x.2.toNat;have h3:=h x (zz ..);refine(z.mul D).mono ?_;rw[zM,uV];have h4:x.2.toNat*4<=E*4:=zF _ (by omega);omega
theorem OK{pts:List (RInt×RInt)}(hp:∀v,Sz 4 (We pts v)){K E V:Nat}(hK:1<=K){p:PZ}(hc:∀t∈p,ZQ t.1<=K)(he:∀t∈p,∀y∈t.2,y.2<=E)(hv:∀t∈p,t.2.length<=V) :
  Sz (p.length*(K+V*(E*4+1)+2)+1) (evQ (gM pts) p):=by
 induction p with
 |nil=>exact Sz.mono (A:=1) ⟨show ZQ ((0:Rat)).num<=1 by decide,show ZQ (((0:Rat)).den:Int)<=1 by decide⟩ (Nat.le_add_left _ _)
 |cons t r ih=>
  have D:=ih (λ y hy=>hc y (yX _ hy)) (λ y hy=>he y (yX _ hy)) (λ y hy=>hv y (yX _ hy));have z:=(Ra (hc t (zz ..)) hK).mul (Qa hp (he t (zz ..)));have h3:t.2.length*(E*4+1)<=V*(E*4+1):=zF _ (hv t (zz ..));refine(z.add D).mono ?_;rw[zM,uV];omega
end
end Go.Proofs.YtlbohjnfkhemlaaGreat
