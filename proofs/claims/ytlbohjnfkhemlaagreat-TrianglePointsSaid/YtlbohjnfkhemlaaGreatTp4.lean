/- The document's whole numbers: as data, small ones, sign, the same, can. -/
import Derived.ArgAppend
import Derived.Deep.LoopGhost
import Derived.Test.YtlbohjnfkhemlaaGreatTp3
set_option maxRecDepth 100000
set_option maxHeartbeats 16000000
namespace Go.Proofs.YtlbohjnfkhemlaaGreat
section
open Go.RowKit
theorem N7{w0 w1 w2:World}{b:Nat}{z:Int}{vm:Value}(hu:U32s (New w1 w2) w2 vm (Z4 Z9 z.natAbs))(h01:Ext w0 w1)(h12:Ext w1 w2)(hb0:w0.heap.size<=b)(hb1:b<w1.heap.size)(x y:Value) :
  IntV (New w0 ((w2.setCell ⟨b,0,none⟩ x).setCell ⟨b,1,none⟩ y)) ((w2.setCell ⟨b,0,none⟩ x).setCell ⟨b,1,none⟩ y) (.agg #[.bool (decide (z<0)),vm]) (Z8 z)/\Ext w0 ((w2.setCell ⟨b,0,none⟩ x).setCell ⟨b,1,none⟩ y) :=
 Xi (r:=Z8 z) rfl hu h01 h12 hb0 hb1 x y
theorem KW{S:Nat->Prop}(v:Value)(z:Int)(w:World)(h:ZV S w v z)(hS:∀k,S k->k<w.heap.size)(hr:XZ z) :
  Calls Tryz.prog 25 #[v] w λ e w'=>∃v',e=.returned v'/\IntV (New w w') w' v' (Z8 z)/\Ext w w':=by
 obtain⟨vd,rfl,O⟩:=h;have HD:=Z_ O;obtain⟨a,c,rfl⟩:=O.form;obtain⟨n,hn⟩:∃n,n=(Z4 10 z.natAbs).length:=⟨_,rfl⟩
 have hl:=O.len_le;have K:=Uz z.natAbs;rw[<-hn]at K hl⊢;have ac:=Z_ O;rw[<-hn]at ac
 have af:z<0->0<n:=λ h=>by
  rw[decide_eq_decide]at K;exact K.2 (by omega)
 obtain⟨ng,hq⟩:∃b,b=decide (z<0):=⟨_,rfl⟩
 rw[<-hq];have HQ:=Z_ hq;have U:ng=true->0<n:=λ h=>af (by rw[h]at hq;simpa using hq.symm);clear O hn K af hq HD;have HK:=Z_ (uO (uO (uP w) (.cells #[.bool ng,.slice a n c] 95)) (.cells #[.bool false,.slice none 0 0] 28));have ah:Hd (w.heap.size+1<((w.alloc (.cells #[.bool ng,.slice a n c] 95)).alloc (.cells #[.bool false,.slice none 0 0] 28)).heap.size):=Z_ (by simp);have x0:=(uP ((w.alloc (.cells #[.bool ng,.slice a n c] 95)).alloc (.cells #[.bool false,.slice none 0 0] 28))).drew;have D:=Z_ x0;have S0:=WC x0;clear x0
 cases ng with
 |true=>
  have hp:=U rfl;clear U
  go_enter Tryz.func25,Tryz.ntmps25
  go_wp2
  go_region_held3 (λ W=>W.cell? ⟨w.heap.size,0,none⟩=some (.bool true)/\W.cell? ⟨w.heap.size,1,none⟩=some (.slice a n c)) (first|exact S0|exact S1|exact⟨ZZ (ZZ S1.1 (ab (by omega))) (ab (by omega)),ZZ (ZZ S1.2 (ab (by omega))) (ab (by omega))⟩)
   (first
    |(go_at_call 46;(with_reducible refine(Mv _ z.natAbs _ (ac.o.ext (HK.o.trans D.o) hS) (ZM hS (HK.o.trans D.o)) (zT hr (by decide))).mono ?_);rintro e w1 ⟨v1,rfl,J,I⟩;have S1:=WC (D.o.trans I);obtain⟨r0,r1,f0,f1⟩:=Uj (D.o.trans I);have HE:=Z_ (zS r0 r1);have Z:=Z_ I;have ad:=Z_ J;obtain⟨a1,n1,rfl⟩:=J.form;clear I J))
  go_wp2;have O:=λ x y=>YY x y HE.o.1 HE.o.2;refine bodyPost_ret (by simp[results,Tryz.results25,go_sem,(O _ _).1,(O _ _).2];rfl) rfl ?_;have hg:=λ x y=>N7 (w0:=w) (b:=w.heap.size+1) ad.o (HK.o.trans D.o) Z.o (by omega) (zU ah.o D.o.size) x y;rw[<-HQ.o]at hg;exact⟨_,rfl,(hg _ _).1,(hg _ _).2⟩
 |false=>
  clear U S0;have ae:w.heap.size+1<=((w.alloc (.cells #[.bool false,.slice a n c] 95)).alloc (.cells #[.bool false,.slice none 0 0] 28)).heap.size:=by simp
  have ag:=Z_ ae;have e0:=WC (uP ((w.alloc (.cells #[.bool false,.slice a n c] 95)).alloc (.cells #[.bool false,.slice none 0 0] 28)));have L0:=λ X:LaterB (w.heap.size+1) ((w.alloc (.cells #[.bool false,.slice a n c] 95)).alloc (.cells #[.bool false,.slice none 0 0] 28))=>X.cell (zk _) e0.1;have L1:=λ X:LaterB (w.heap.size+1) ((w.alloc (.cells #[.bool false,.slice a n c] 95)).alloc (.cells #[.bool false,.slice none 0 0] 28))=>X.cell (zk _) e0.2;have hne:Nonempty (LaterB (w.heap.size+1) ((w.alloc (.cells #[.bool false,.slice a n c] 95)).alloc (.cells #[.bool false,.slice none 0 0] 28))):=⟨⟨_,(Below.refl _ _).mono ae⟩⟩
  clear e0 ae
  go_enter Tryz.func25,Tryz.ntmps25
  go_wp2;refine Dc (λ W=>∃X:LaterB (w.heap.size+1) ((w.alloc (.cells #[.bool false,.slice a n c] 95)).alloc (.cells #[.bool false,.slice none 0 0] 28)),W=X.w') 10 (by kernel_rfl) (by kernel_rfl) (by simp) (by kernel_rfl) (λ _ _ _ _ _ h=>h) ⟨⟨_,D.o.mono ag.o⟩,rfl⟩ ?_;simp only[vU,List.take_zero,List.drop_succ_cons,wg]
  repeat (go_big_quiet_step (fail))
  refine wpQuiet_nil ?_;refine(show wpList _ _ _ [_] _ _ from ?_);go_wp2_with fail;refine(Mv _ z.natAbs _ (ac.o.ext (HK.o.trans D.o) hS) (ZM hS (HK.o.trans D.o)) (zT hr (by decide))).mono ?_;rintro e w1 ⟨v1,rfl,J,I⟩;obtain⟨r0,r1,f0,f1⟩:=Uj (D.o.trans I);have HE:=Z_ (zS r0 r1);have Z:=Z_ I;have ad:=Z_ J;obtain⟨a1,n1,rfl⟩:=J.form;clear I J;have aa:Hd (Below (w.heap.size+1) ((w.alloc (.cells #[.bool false,.slice a n c] 95)).alloc (.cells #[.bool false,.slice none 0 0] 28)) w1):=Z_ ((D.o.trans Z.o).mono ag.o);go_wp2;refine⟨⟨⟨w1,aa.o⟩,rfl⟩,?_⟩;refine(show wpList _ _ _ [_] _ _ from ?_);go_wp2;refine⟨⟨⟨w1,aa.o⟩,rfl⟩,?_⟩;refine(show wpList _ _ _ [_] _ _ from ?_);go_wp2;refine⟨⟨⟨_,(aa.o.setCell (p:=⟨w.heap.size+1,0,none⟩) (zR _) _).setCell (p:=⟨w.heap.size+1,1,none⟩) (zR _) _⟩,rfl⟩,?_⟩;unfold UU;go_wp2;have O:=λ x y=>YY x y HE.o.1 HE.o.2;refine bodyPost_ret (by simp[results,Tryz.results25,go_sem,(O _ _).1,(O _ _).2];rfl) rfl ?_;have hg:=λ x y=>N7 (w0:=w) (b:=w.heap.size+1) ad.o (HK.o.trans D.o) Z.o (by omega) (zU ah.o D.o.size) x y;rw[<-HQ.o]at hg;exact⟨_,rfl,(hg _ _).1,(hg _ _).2⟩
theorem UG{S:Nat->Prop}(v:Value)(z:Int)(w:World)(h:ZV S w v z) :
  Calls Tryz.prog 49 #[v] w λ e w'=>e=.returned (.int .i64 (Zx z))/\Ext w w':=by
 obtain⟨vd,rfl,U⟩:=h;obtain⟨a,c,rfl⟩:=U.form;have hl:=U.len_le;have D:=Uz z.natAbs;obtain⟨n,Z⟩:∃n,n=(Z4 10 z.natAbs).length:=⟨_,rfl⟩
 rw[<-Z]at D hl⊢;rw[decide_eq_decide]at D;have X:=Z_ D;clear U D Z
 rcases(show z<0∨z=0∨0<z by omega) with I|I|I
 ·have J:0<n:=X.o.2 (by omega);have hb:((n:Int) == 0)=false:=by rw[beq_eq_false_iff_ne];omega
  have y:decide (z<0)=true:=decide_eq_true I;have K:Hd (Zx z = -1):=Z_ (by unfold Zx;rw[WN];exact I);rw[y];have O:=Z_ (uO (uP w) (.cells #[.bool true,.slice a n c] 95));clear y I
  go_enter Tryz.func49,Tryz.ntmps49
  go_wp2
  all_goals
   go_ret;exact⟨by rw[K.o];rfl,O.o⟩
 ·have J:n=0:=by
   have:=X.o;omega
  subst J;have y:decide (z<0)=false:=decide_eq_false (by omega);have K:Hd (Zx z=0):=Z_ (by unfold Zx;rw[z7u];exact I);rw[y];have O:=Z_ (uO (uP w) (.cells #[.bool false,.slice a 0 c] 95));clear y I
  go_enter Tryz.func49,Tryz.ntmps49
  go_wp2
  all_goals
   go_ret;exact⟨by rw[K.o];rfl,O.o⟩
 ·have J:0<n:=X.o.2 (by omega);have hb:((n:Int) == 0)=false:=by rw[beq_eq_false_iff_ne];omega
  have y:decide (z<0)=false:=decide_eq_false (by omega);have K:Hd (Zx z=1):=Z_ (by unfold Zx;rw[Wi];exact I);rw[y];have O:=Z_ (uO (uP w) (.cells #[.bool false,.slice a n c] 95));clear y I
  go_enter Tryz.func49,Tryz.ntmps49
  go_wp2
  all_goals
   go_ret;exact⟨by rw[K.o];rfl,O.o⟩
end
section
open Go.RowKit
theorem NU(n:Nat)(w:World)(hn:n<9223372036854775808) :
  Calls Tryz.prog 23 #[.int .i64 (n:Nat)] w λ e w'=>∃v',e=.returned v'/\ZV (New w w') w' v' (n:Int)/\Ext w w':=by
 have HK:=Z_ (uO (uP w) (.cells #[.bool false,.slice none 0 0] 95));have I:Hd (w.heap.size<(w.alloc (.cells #[.bool false,.slice none 0 0] 95)).heap.size):=Z_ (by simp);have X:=Z_ (BP n (w.alloc (.cells #[.bool false,.slice none 0 0] 95)) (by omega))
 go_enter Tryz.func23,Tryz.ntmps23
 go_wp2_with fail;refine X.o.mono ?_;rintro e w1 ⟨v1,rfl,z,D⟩;obtain⟨r0,r1,f0,f1⟩:=new2 D;have K:=Z_ (zS r0 r1);have U:=Z_ D;have O:=Z_ z;obtain⟨a1,n1,rfl⟩:=z.form;clear z D;go_wp2;have z:=λ x y=>YY x y K.o.1 K.o.2;refine bodyPost_ret (by simp[results,Tryz.results23,go_sem,(z _ _).1,(z _ _).2];rfl) rfl ?_;have Z:=Tp (b:=false) O.o;have J:=λ x y=>Vx (w0:=w) (b:=w.heap.size) Z HK.o U.o (zR _) I.o x y;exact⟨_,rfl,(J _ _).1,(J _ _).2⟩
theorem Gt(x y:Int):x*y=sg (decide (x<0) != decide (y<0)) (x.natAbs*y.natAbs):=by
 unfold sg
 rcases wX x 0 with hx|hx<;>rcases wX y 0 with z|z
 ·have e:(decide (x<0) != decide (y<0))=false:=by simp[hx,z]
  rw[e];simp only[xP,if_false,yz];rw[xG (by omega),xG (by omega),Int.neg_mul_neg]
 ·have e:(decide (x<0) != decide (y<0))=true:=by simp[hx,Int.not_lt.2 z]
  rw[e];simp only[if_true,yz];rw[xG (by omega),xt z,vT,vE]
 ·have e:(decide (x<0) != decide (y<0))=true:=by simp[z,Int.not_lt.2 hx]
  rw[e];simp only[if_true,yz];rw[xt hx,xG (by omega),wm,vE]
 ·have e:(decide (x<0) != decide (y<0))=false:=by simp[Int.not_lt.2 hx,Int.not_lt.2 z]
  rw[e];simp only[xP,if_false,yz];rw[xt hx,xt z]
theorem XP{w W:World}{u0 v0 u1 v1:Value}{T0 T1:TypeId}{o:Obj}(h:Ext (((w.alloc (.cells #[u0,v0] T0)).alloc (.cells #[u1,v1] T1)).alloc o) W) :
  W.cell? ⟨w.heap.size,0,none⟩=some u0/\W.cell? ⟨w.heap.size,1,none⟩=some v0/\W.cell? ⟨w.heap.size+1,0,none⟩=some u1/\W.cell? ⟨w.heap.size+1,1,none⟩=some v1:=by
 have e1:=(uO (uP _) o).trans h;exact⟨(WC e1).1,(WC e1).2,(Uj e1).1,(Uj e1).2.1⟩
theorem RX{w W:World}{u0 v0 u1 v1 u v:Value}{T0 T1 T:TypeId}(h:Ext (((w.alloc (.cells #[u0,v0] T0)).alloc (.cells #[u1,v1] T1)).alloc (.cells #[u,v] T)) W) :
  W.cell? ⟨w.heap.size+1+1,0,none⟩=some u/\W.cell? ⟨w.heap.size+1+1,1,none⟩=some v/\W.frozen? ⟨w.heap.size+1+1,0,none⟩=false/\W.frozen? ⟨w.heap.size+1+1,1,none⟩=false:=by
 have:=new2 h;rw[z00,z00]at this;exact this
theorem Jq{S:Nat->Prop}(vx vy:Value)(x y:Int)(w:World)(hx:ZV S w vx x)(hy:ZV S w vy y)(hS:∀k,S k->k<w.heap.size)(hrx:XZ x)(hry:XZ y) :
  Calls Tryz.prog 52 #[vx,vy] w λ e w'=>∃v',e=.returned v'/\ZV (New w w') w' v' (x*y)/\Ext w w':=by
 obtain⟨vdx,rfl,K⟩:=hx;obtain⟨vdy,rfl,U⟩:=hy;have HX:=Z_ K;have HY:=Z_ U;obtain⟨ax,cx,rfl⟩:=K.form;obtain⟨ay,cy,rfl⟩:=U.form;rw[Gt x y];obtain⟨n,hn⟩:∃n,n=x.natAbs*y.natAbs:=⟨_,rfl⟩
 rw[<-hn];obtain⟨O,ad⟩:∃b,b=decide (x<0):=⟨_,rfl⟩
 obtain⟨bz,ac⟩:∃b,b=decide (y<0):=⟨_,rfl⟩
 obtain⟨nx,I⟩:∃n,n=(Z4 10 x.natAbs).length:=⟨_,rfl⟩
 obtain⟨ny,X⟩:∃n,n=(Z4 10 y.natAbs).length:=⟨_,rfl⟩
 rw[<-ad,<-ac,<-I,<-X];have HK:=Z_ (uO (uO (uO (uP w) (.cells #[.bool O,.slice ax nx cx] 95)) (.cells #[.bool bz,.slice ay ny cy] 95)) (.cells #[.bool false,.slice none 0 0] 95));have hc:=GU _ _ (Z4 10 x.natAbs) (Z4 10 y.natAbs) _ (HX.o.ext HK.o hS) (HY.o.ext HK.o hS) (ZM hS HK.o) (zT hrx (by decide)) (zT hry (by decide));rw[ZB Y5,ZB Y5,<-hn,<-I,<-X]at hc;have HC:=Z_ hc;have ae:Hd (w.heap.size+1+1<(((w.alloc (.cells #[.bool O,.slice ax nx cx] 95)).alloc (.cells #[.bool bz,.slice ay ny cy] 95)).alloc (.cells #[.bool false,.slice none 0 0] 95)).heap.size):=Z_ (by simp);have l1:=K.len_le;have l2:=U.len_le;rw[<-I]at l1;rw[<-X]at l2;clear K U hn ad ac I X hc hrx hry HX HY;obtain⟨q0,q1,q2,q3⟩:=XP (uP (((w.alloc (.cells #[.bool O,.slice ax nx cx] 95)).alloc (.cells #[.bool bz,.slice ay ny cy] 95)).alloc (.cells #[.bool false,.slice none 0 0] 95)))
 go_enter Tryz.func52,Tryz.ntmps52
 go_wp2_with fail;refine HC.o.mono ?_;rintro e w1 ⟨v1,rfl,D,J⟩;obtain⟨p0,p1,p2,p3⟩:=XP J;obtain⟨r0,r1,f0,f1⟩:=RX J;have HE:=Z_ (zS r0 r1);have aa:=Z_ J;have HD:=Z_ D;obtain⟨a1,n1,rfl⟩:=D.form;have z:=Uz n;have Z:=Tp (b:=(O != bz)) HD.o;clear D J q0 q1 q2 q3
 by_cases h0:0<n
 ·have hp:0<(Z4 10 n).length:=by simpa[h0]using z
  rw[show((O != bz) && decide (0<n))=(O != bz) by simp[h0]]at Z;have HZ:=Z_ Z;clear z Z
  cases O<;>cases bz
  all_goals
   go_wp2;have D:=λ x y=>YY x y HE.o.1 HE.o.2;refine bodyPost_ret (by simp[results,Tryz.results52,go_sem,(D _ _).1,(D _ _).2];rfl) rfl ?_;have hg:=λ x y=>Vx (w0:=w) (b:=w.heap.size+1+1) HZ.o HK.o aa.o (by omega) ae.o x y;exact⟨_,rfl,(hg _ _).1,(hg _ _).2⟩
 ·obtain rfl:n=0:=by omega
  rw[show((O != bz) && decide (0<0))=false by simp]at Z;have HZ:=Z_ Z;have hp:(Z4 10 0).length=0:=rfl;clear z Z
  cases O<;>cases bz
  all_goals
   go_wp2;have D:=λ x y=>YY x y HE.o.1 HE.o.2;refine bodyPost_ret (by simp[results,Tryz.results52,go_sem,(D _ _).1,(D _ _).2];rfl) rfl ?_;have hg:=λ x y=>Vx (w0:=w) (b:=w.heap.size+1+1) HZ.o HK.o aa.o (by omega) ae.o x y;exact⟨_,rfl,(hg _ _).1,(hg _ _).2⟩
end
section
open Go.RowKit
theorem Bf{x y:Int}(h:decide (x<0)=decide (y<0)):x+y=sg (decide (x<0)) (x.natAbs+y.natAbs):=by
 unfold sg;rw[decide_eq_decide]at h
 by_cases z:x<0
 ·have D:=h.1 z;rw[decide_eq_true z,if_pos rfl];omega
 ·have D:¬ y<0:=λ e=>z (h.2 e);rw[decide_eq_false z,if_neg (by simp)];omega
theorem Le{x y:Int}(h:¬ decide (x<0)=decide (y<0))(hge:y.natAbs<=x.natAbs):x+y=sg (decide (x<0)) (x.natAbs-y.natAbs):=by
 unfold sg;rw[decide_eq_decide]at h
 by_cases hx:x<0
 ·rw[decide_eq_true hx,if_pos rfl];omega
 ·rw[decide_eq_false hx,if_neg (by simp)];omega
theorem Ir{x y:Int}(h:¬ decide (x<0)=decide (y<0))(hlt:x.natAbs<y.natAbs):x+y=sg (decide (y<0)) (y.natAbs-x.natAbs):=by
 rw[Int.add_comm];exact Le (λ e=>h e.symm) (xi hlt)
theorem Dg{x y:Int}(_h:decide (x<0)=decide (y<0)):(decide (x<0) && decide (0<x.natAbs+y.natAbs))=decide (x<0):=by
 by_cases hx:x<0
 ·have:0<x.natAbs+y.natAbs:=by omega
  simp[hx,this]
 ·simp[hx]
theorem Jf{S:Nat->Prop}(vx vy:Value)(x y:Int)(w:World)(hx:ZV S w vx x)(hy:ZV S w vy y)(hS:∀k,S k->k<w.heap.size)(hrx:XZ x)(hry:XZ y)(hs:decide (x<0)=decide (y<0)) :
  Calls Tryz.prog 48 #[vx,vy] w λ e w'=>∃v',e=.returned v'/\ZV (New w w') w' v' (x+y)/\Ext w w':=by
 obtain⟨vdx,rfl,U⟩:=hx;obtain⟨vdy,rfl,X⟩:=hy;have HX:=Z_ U;have HY:=Z_ X;obtain⟨ax,cx,rfl⟩:=U.form;obtain⟨ay,cy,rfl⟩:=X.form;rw[Bf hs];have aa:=Dg hs;obtain⟨n,hn⟩:∃n,n=x.natAbs+y.natAbs:=⟨_,rfl⟩
 obtain⟨D,Z⟩:∃b,b=decide (x<0):=⟨_,rfl⟩
 obtain⟨nx,I⟩:∃n,n=(Z4 10 x.natAbs).length:=⟨_,rfl⟩
 obtain⟨ny,J⟩:∃n,n=(Z4 10 y.natAbs).length:=⟨_,rfl⟩
 have HL:Hd ((Z4 10 x.natAbs).length<=10000000/\(Z4 10 y.natAbs).length<=10000000):=Z_ ⟨zT hrx (by decide),zT hry (by decide)⟩;rw[<-hs,<-hn,<-Z,<-I,<-J];rw[<-hn,<-Z]at aa;have ac:=Z_ aa;have HN:=Z_ hn;have HNX:=Z_ I;have HNY:=Z_ J;have hb:(D == D)=true:=by simp
 have HK:=Z_ (uO (uO (uO (uP w) (.cells #[.bool D,.slice ax nx cx] 95)) (.cells #[.bool D,.slice ay ny cy] 95)) (.cells #[.bool false,.slice none 0 0] 95));have ae:Hd (w.heap.size+1+1<(((w.alloc (.cells #[.bool D,.slice ax nx cx] 95)).alloc (.cells #[.bool D,.slice ay ny cy] 95)).alloc (.cells #[.bool false,.slice none 0 0] 95)).heap.size):=Z_ (by simp);have x0:=(uP (((w.alloc (.cells #[.bool D,.slice ax nx cx] 95)).alloc (.cells #[.bool D,.slice ay ny cy] 95)).alloc (.cells #[.bool false,.slice none 0 0] 95))).drew;have K:=Z_ x0;have hc:=Ab _ _ (Z4 10 x.natAbs) (Z4 10 y.natAbs) _ (HX.o.ext (HK.o.trans x0) hS) (HY.o.ext (HK.o.trans x0) hS) (ZM hS (HK.o.trans x0)) HL.o.1 HL.o.2;rw[ZB Y5,ZB Y5,<-hn,<-I,<-J]at hc;have HC:=Z_ hc;have O:_/\_/\_:=zS (XP x0).1 (zS (XP x0).2.1 (XP x0).2.2.2);have af:=Z_ O;clear U X hn Z I J hrx hry hs aa hc x0 O
 go_enter Tryz.func48,Tryz.ntmps48
 go_wp2;have O:=af.o
 go_region_held3 (λ W=>W.cell? ⟨w.heap.size,0,none⟩=some (.bool D)/\W.cell? ⟨w.heap.size,1,none⟩=some (.slice ax nx cx)/\W.cell? ⟨w.heap.size+1,1,none⟩=some (.slice ay ny cy)) (first|exact O|exact S1|exact⟨ZZ (ZZ S1.1 (ab (by omega))) (ab (by omega)),ZZ (ZZ S1.2.1 (ab (by omega))) (ab (by omega)),ZZ (ZZ S1.2.2 (ab (by omega))) (ab (by omega))⟩)
  (first
   |(go_at_call 44;(with_reducible refine HC.o.mono ?_);rintro e w1 ⟨v1,rfl,hd,z⟩;have S1:=zS (z.cell O.1) (zS (z.cell O.2.1) (z.cell O.2.2));obtain⟨r0,r1,f0,f1⟩:=RX (K.o.trans z);have HE:=Z_ (zS r0 r1);have ad:=Z_ z;have HD:=Z_ hd;obtain⟨a1,n1,rfl⟩:=hd.form;clear hd z))
 go_wp2;have hd:=λ x y=>YY x y HE.o.1 HE.o.2;refine bodyPost_ret (by simp[results,Tryz.results48,go_sem,(hd _ _).1,(hd _ _).2];rfl) rfl ?_;have hz:=Tp (b:=D) HD.o;rw[ac.o]at hz;have hg:=λ x y=>Vx (w0:=w) (b:=w.heap.size+1+1) hz (HK.o.trans K.o) ad.o (by omega) (zU ae.o K.o.size) x y;exact⟨_,rfl,(hg _ _).1,(hg _ _).2⟩
theorem Ct{S:Nat->Prop}(vx vy:Value)(x y:Int)(w:World)(hx:ZV S w vx x)(hy:ZV S w vy y)(hS:∀k,S k->k<w.heap.size)(hrx:XZ x)(hry:XZ y)(hs:¬ decide (x<0)=decide (y<0))(hge:y.natAbs<=x.natAbs) :
  Calls Tryz.prog 48 #[vx,vy] w λ e w'=>∃v',e=.returned v'/\ZV (New w w') w' v' (x+y)/\Ext w w':=by
 obtain⟨vdx,rfl,aa⟩:=hx;obtain⟨vdy,rfl,ad⟩:=hy;have HX:=Z_ aa;have HY:=Z_ ad;obtain⟨ax,cx,rfl⟩:=aa.form;obtain⟨ay,cy,rfl⟩:=ad.form;rw[Le hs hge]
 have ah:Hd (-1<ZC x.natAbs y.natAbs):=Z_ (by
  unfold ZC;have:=WN (x:=(x.natAbs:Int)) (y:=(y.natAbs:Int))
  rcases Uu (x.natAbs:Int) (y.natAbs:Int) with h|h|h
  ·have:=this.1 h;omega
  ·omega
  ·omega)
 have au:Hd ((Z4 10 y.natAbs).length<=(Z4 10 x.natAbs).length):=Z_ (YZ Y5 _ _ (zh hge (Xq Y5 _)));have aq:Hd (val 10 (Z4 10 y.natAbs)<=val 10 (Z4 10 x.natAbs)):=Z_ (by rw[ZB Y5,ZB Y5];exact hge);obtain⟨n,hn⟩:∃n,n=x.natAbs-y.natAbs:=⟨_,rfl⟩
 obtain⟨I,ae⟩:∃b,b=decide (x<0):=⟨_,rfl⟩
 obtain⟨bz,ac⟩:∃b,b=decide (y<0):=⟨_,rfl⟩
 obtain⟨nx,O⟩:∃n,n=(Z4 10 x.natAbs).length:=⟨_,rfl⟩
 obtain⟨ny,U⟩:∃n,n=(Z4 10 y.natAbs).length:=⟨_,rfl⟩
 have HL:Hd ((Z4 10 x.natAbs).length<=10000000/\(Z4 10 y.natAbs).length<=10000000):=Z_ ⟨zT hrx (by decide),zT hry (by decide)⟩;rw[<-hn,<-ae,<-ac,<-O,<-U];rw[<-ae,<-ac]at hs;have hb:(I == bz)=false:=by rw[beq_eq_false_iff_ne];exact hs
 have Z:=Z_ (uO (uO (uO (uP w) (.cells #[.bool I,.slice ax nx cx] 95)) (.cells #[.bool bz,.slice ay ny cy] 95)) (.cells #[.bool false,.slice none 0 0] 95));have aj:Hd (w.heap.size+1+1<(((w.alloc (.cells #[.bool I,.slice ax nx cx] 95)).alloc (.cells #[.bool bz,.slice ay ny cy] 95)).alloc (.cells #[.bool false,.slice none 0 0] 95)).heap.size):=Z_ (by simp);have X:=NR _ _ x.natAbs y.natAbs _ (HX.o.ext Z.o hS) (HY.o.ext Z.o hS) (ZM hS Z.o);rw[<-O,<-U]at X;obtain⟨cm,al⟩:∃c,c=ZC x.natAbs y.natAbs:=⟨_,rfl⟩
 rw[<-al]at X ah;have ar:=Z_ X
 have ag:=λ W (hW:Ext (((w.alloc (.cells #[.bool I,.slice ax nx cx] 95)).alloc (.cells #[.bool bz,.slice ay ny cy] 95)).alloc (.cells #[.bool false,.slice none 0 0] 95)) W)=>
  Np _ _ (Z4 10 x.natAbs) (Z4 10 y.natAbs) W (HX.o.ext (Z.o.trans hW) hS) (HY.o.ext (Z.o.trans hW) hS) (ZM hS (Z.o.trans hW)) HL.o.1 au.o aq.o
 rw[ZB Y5,ZB Y5,<-hn,<-O,<-U]at ag;have ap:=Z_ ag;clear aa ad hn ae ac O U hrx hry hs hge X ag al;have hcm0:=ah.o
 go_enter Tryz.func48,Tryz.ntmps48
 go_wp2_with fail;refine ar.o.mono ?_;rintro e w1 ⟨rfl,af⟩;obtain⟨p0,p1,p2,p3⟩:=XP af;have z:=Z_ af;clear af;go_wp2_with fail;refine(ap.o w1 z.o).mono ?_;rintro e w2 ⟨v2,rfl,K,J⟩;obtain⟨q0,q1,q2,q3⟩:=XP (z.o.trans J);obtain⟨r0,r1,f0,f1⟩:=RX (z.o.trans J);have HE:=Z_ (zS r0 r1);have ai:=Z_ J;have HD:=Z_ K;obtain⟨a1,n1,rfl⟩:=K.form;have D:=Uz n;have hz:=Tp (b:=I) HD.o;clear K J p0 p1 p2 p3
 by_cases h0:0<n
 ·have hp:0<(Z4 10 n).length:=by simpa[h0]using D
  rw[show(I && decide (0<n))=I by simp[h0]]at hz;have HZ:=Z_ hz;clear D hz
  cases I
  all_goals
   go_wp2;have K:=λ x y=>YY x y HE.o.1 HE.o.2;refine bodyPost_ret (by simp[results,Tryz.results48,go_sem,(K _ _).1,(K _ _).2];rfl) rfl ?_;have hg:=λ x y=>Vx (w0:=w) (b:=w.heap.size+1+1) HZ.o (Z.o.trans z.o) ai.o (by omega) (zU aj.o z.o.size) x y;exact⟨_,rfl,(hg _ _).1,(hg _ _).2⟩
 ·obtain rfl:n=0:=by omega
  rw[show(I && decide (0<0))=false by simp]at hz;have HZ:=Z_ hz;have hp:(Z4 10 0).length=0:=rfl;clear D hz
  cases I
  all_goals
   go_wp2;have K:=λ x y=>YY x y HE.o.1 HE.o.2;refine bodyPost_ret (by simp[results,Tryz.results48,go_sem,(K _ _).1,(K _ _).2];rfl) rfl ?_;have hg:=λ x y=>Vx (w0:=w) (b:=w.heap.size+1+1) HZ.o (Z.o.trans z.o) ai.o (by omega) (zU aj.o z.o.size) x y;exact⟨_,rfl,(hg _ _).1,(hg _ _).2⟩
theorem AJ{w W:World}{u0 v0 u1 v1:Value}{T0 T1:TypeId}{o:Obj}(h:Ext (((w.alloc (.cells #[u0,v0] T0)).alloc (.cells #[u1,v1] T1)).alloc o) W) :
  W.frozen? ⟨w.heap.size,0,none⟩=false/\W.frozen? ⟨w.heap.size,1,none⟩=false/\W.frozen? ⟨w.heap.size+1,0,none⟩=false/\W.frozen? ⟨w.heap.size+1,1,none⟩=false:=by
 have e1:=(uO (uP _) o).trans h;have e0:=(uO (uP _) _).trans e1;exact⟨(new2 e0).2.2.1,(new2 e0).2.2.2,(Uj e1).2.2.1,(Uj e1).2.2.2⟩
def Xb(w:World)(b:Nat)(x0 x1 y0 y1:Value):World:=(((w.setCell ⟨b,0,none⟩ x0).setCell ⟨b,1,none⟩ x1).setCell ⟨b+1,0,none⟩ y0).setCell ⟨b+1,1,none⟩ y1
theorem IB{a w:World}(h:Ext a w){b:Nat}(hb:a.heap.size<=b)(x0 x1 y0 y1:Value):Ext a (Xb w b x0 x1 y0 y1) :=
 (h.set2 hb x0 x1).set2 (zT hb (zw _)) y0 y1
theorem E5{w:World}{b:Nat}(x0 x1 y0 y1:Value):(Xb w b x0 x1 y0 y1).heap.size=w.heap.size:=by
 unfold Xb;rw[z2m,z2m]
theorem Df{w:World}{b:Nat}{u0 u1 v0 v1:Value}(x0 x1 y0 y1:Value)(c0:w.cell? ⟨b,0,none⟩=some u0)(c1:w.cell? ⟨b,1,none⟩=some u1)(d0:w.cell? ⟨b+1,0,none⟩=some v0)(d1:w.cell? ⟨b+1,1,none⟩=some v1) :
  (Xb w b x0 x1 y0 y1).cell? ⟨b,0,none⟩=some x0/\(Xb w b x0 x1 y0 y1).cell? ⟨b,1,none⟩=some x1/\(Xb w b x0 x1 y0 y1).cell? ⟨b+1,0,none⟩=some y0/\(Xb w b x0 x1 y0 y1).cell? ⟨b+1,1,none⟩=some y1:=by
 unfold Xb;have z:=YY x0 x1 c0 c1;have D:=ZZ (v:=x1) (ZZ (v:=x0) d0 (ab (b:=b) (i:=0) (show b≠b+1 by omega))) (ab (b:=b) (i:=1) (show b≠b+1 by omega));have I:=ZZ (v:=x1) (ZZ (v:=x0) d1 (ab (b:=b) (i:=0) (show b≠b+1 by omega))) (ab (b:=b) (i:=1) (show b≠b+1 by omega));have y:=YY y0 y1 D I;exact⟨ZZ (ZZ z.1 (ab (by omega))) (ab (by omega)),ZZ (ZZ z.2 (ab (by omega))) (ab (by omega)),y.1,y.2⟩
theorem Nd{w:World}{b c i:Nat}{u:Value}(x0 x1 y0 y1:Value)(h:w.cell? ⟨c,i,none⟩=some u)(h1:b≠c)(h2:b+1≠c):(Xb w b x0 x1 y0 y1).cell? ⟨c,i,none⟩=some u:=by
 unfold Xb;exact ZZ (ZZ (ZZ (ZZ h (ab h1)) (ab h1)) (ab h2)) (ab h2)
theorem Lh{w:World}{b:Nat}{c:Addr}(x0 x1 y0 y1:Value)(h:w.frozen? c=false):(Xb w b x0 x1 y0 y1).frozen? c=false:=by
 unfold Xb;exact Zg (Zg (Zg (Zg h)))
theorem EV{S:Nat->Prop}(vx vy:Value)(x y:Int)(w:World)(hx:ZV S w vx x)(hy:ZV S w vy y)(hS:∀k,S k->k<w.heap.size)(hrx:XZ x)(hry:XZ y)(hs:¬ decide (x<0)=decide (y<0))(hlt:x.natAbs<y.natAbs) :
  Calls Tryz.prog 48 #[vx,vy] w λ e w'=>∃v',e=.returned v'/\ZV (New w w') w' v' (x+y)/\Ext w w':=by
 obtain⟨vdx,rfl,ai⟩:=hx;obtain⟨vdy,rfl,aq⟩:=hy;have HX:=Z_ ai;have HY:=Z_ aq;obtain⟨K,U,rfl⟩:=ai.form;obtain⟨O,cy,rfl⟩:=aq.form;rw[Ir hs hlt]
 have av:Hd (ZC x.natAbs y.natAbs = -1):=Z_ (by
  unfold ZC;rw[WN]
  omega)
 have a0:Hd ((Z4 10 x.natAbs).length<=(Z4 10 y.natAbs).length):=Z_ (YZ Y5 _ _ (yD hlt (Xq Y5 _)));have aR:Hd (val 10 (Z4 10 x.natAbs)<=val 10 (Z4 10 y.natAbs)):=Z_ (by rw[ZB Y5,ZB Y5];omega);obtain⟨n,hn⟩:∃n,n=y.natAbs-x.natAbs:=⟨_,rfl⟩
 obtain⟨I,al⟩:∃b,b=decide (x<0):=⟨_,rfl⟩
 obtain⟨bz,ap⟩:∃b,b=decide (y<0):=⟨_,rfl⟩
 obtain⟨nx,ae⟩:∃n,n=(Z4 10 x.natAbs).length:=⟨_,rfl⟩
 obtain⟨Z,ad⟩:∃n,n=(Z4 10 y.natAbs).length:=⟨_,rfl⟩
 have HL:Hd ((Z4 10 x.natAbs).length<=10000000/\(Z4 10 y.natAbs).length<=10000000):=Z_ ⟨zT hrx (by decide),zT hry (by decide)⟩;rw[<-hn,<-al,<-ap,<-ae,<-ad];rw[<-al,<-ap]at hs;have hb:(I == bz)=false:=by rw[beq_eq_false_iff_ne];exact hs
 have HK:=Z_ (uO (uO (uO (uP w) (.cells #[.bool I,.slice K nx U] 95)) (.cells #[.bool bz,.slice O Z cy] 95)) (.cells #[.bool false,.slice none 0 0] 95));have aN:Hd (w.heap.size+1+1<(((w.alloc (.cells #[.bool I,.slice K nx U] 95)).alloc (.cells #[.bool bz,.slice O Z cy] 95)).alloc (.cells #[.bool false,.slice none 0 0] 95)).heap.size):=Z_ (by simp);have ar:=NR _ _ x.natAbs y.natAbs _ (HX.o.ext HK.o hS) (HY.o.ext HK.o hS) (ZM hS HK.o);rw[<-ae,<-ad,av.o]at ar;have aS:=Z_ ar
 have aj:=λ W (hW:Ext w W)=>
  Np _ _ (Z4 10 y.natAbs) (Z4 10 x.natAbs) W (HY.o.ext hW hS) (HX.o.ext hW hS) (ZM hS hW) HL.o.2 a0.o aR.o
 rw[ZB Y5,ZB Y5,<-hn,<-ae,<-ad]at aj;have aP:=Z_ aj;clear ai aq hn al ap ae ad hrx hry hs hlt ar aj av
 go_enter Tryz.func48,Tryz.ntmps48
 go_wp2_with fail;refine aS.o.mono ?_;rintro e w1 ⟨rfl,af⟩;obtain⟨p0,p1,p2,p3⟩:=XP af;obtain⟨g0,g1,g2,g3⟩:=AJ af;have ah:=Z_ af;have HP:=Z_ (zS p0 (zS p1 (zS p2 p3)));clear af;go_wp2_with fail;have aB:=IB (HK.o.trans ah.o) (zR _) (.bool bz) (.slice O Z cy) (.bool I) (.slice K nx U);have hq:=Df (.bool bz) (.slice O Z cy) (.bool I) (.slice K nx U) HP.o.1 HP.o.2.1 HP.o.2.2.1 HP.o.2.2.2;obtain⟨r0,r1,f0,f1⟩:=RX ah.o;have aH:=Nd (.bool bz) (.slice O Z cy) (.bool I) (.slice K nx U) r0 (show w.heap.size≠w.heap.size+1+1 by omega) (show w.heap.size+1≠w.heap.size+1+1 by omega);have aC:=Nd (.bool bz) (.slice O Z cy) (.bool I) (.slice K nx U) r1 (show w.heap.size≠w.heap.size+1+1 by omega) (show w.heap.size+1≠w.heap.size+1+1 by omega);have az:=Lh (b:=w.heap.size) (.bool bz) (.slice O Z cy) (.bool I) (.slice K nx U) f0;have au:=Lh (b:=w.heap.size) (.bool bz) (.slice O Z cy) (.bool I) (.slice K nx U) f1;have aF:=E5 (w:=w1) (b:=w.heap.size) (.bool bz) (.slice O Z cy) (.bool I) (.slice K nx U);have aa:=Z_ aB;have HQ:=Z_ hq;have HR:=Z_ (zS aH aC);have HF:=Z_ (zS az au);have aG:=Z_ aF;clear aB hq r0 r1 f0 f1 aH aC az au aF p0 p1 p2 p3 g0 g1 g2 g3;obtain⟨W0,ac⟩:∃W,W=Xb w1 w.heap.size (.bool bz) (.slice O Z cy) (.bool I) (.slice K nx U):=⟨_,rfl⟩
 rw[<-ac]at aa HQ HR HF aG;refine(Calls.mono (by have:=aP.o W0 aa.o;rw[ac]at this;exact this) ?_);rintro e w2 ⟨v2,rfl,X,z⟩;rw[<-ac]at X z;have q0:=z.cell HQ.o.1;have q1:=z.cell HQ.o.2.1;have r0:=z.cell HR.o.1;have r1:=z.cell HR.o.2;have D:w.heap.size+1+1<W0.heap.size:=by rw[aG.o];exact zU aN.o ah.o.size
 have f0:=z.free D HF.o.1;have f1:=z.free D HF.o.2;have HE:=Z_ (zS r0 r1);have aA:=Z_ z;have ag:=Z_ D;have HD:=Z_ X;obtain⟨a1,n1,rfl⟩:=X.form;have J:=Uz n;have hz:=Tp (b:=bz) HD.o;clear X z ac D
 by_cases h0:0<n
 ·have hp:0<(Z4 10 n).length:=by simpa[h0]using J
  rw[show(bz && decide (0<n))=bz by simp[h0]]at hz;have HZ:=Z_ hz;clear J hz
  cases bz
  all_goals
   go_wp2;have X:=λ x y=>YY x y HE.o.1 HE.o.2;refine bodyPost_ret (by simp[results,Tryz.results48,go_sem,(X _ _).1,(X _ _).2];rfl) rfl ?_;have hg:=λ x y=>Vx (w0:=w) (b:=w.heap.size+1+1) HZ.o aa.o aA.o (by omega) ag.o x y;exact⟨_,rfl,(hg _ _).1,(hg _ _).2⟩
 ·obtain rfl:n=0:=by omega
  rw[show(bz && decide (0<0))=false by simp]at hz;have HZ:=Z_ hz;have hp:(Z4 10 0).length=0:=rfl;clear J hz
  cases bz
  all_goals
   go_wp2;have X:=λ x y=>YY x y HE.o.1 HE.o.2;refine bodyPost_ret (by simp[results,Tryz.results48,go_sem,(X _ _).1,(X _ _).2];rfl) rfl ?_;have hg:=λ x y=>Vx (w0:=w) (b:=w.heap.size+1+1) HZ.o aa.o aA.o (by omega) ag.o x y;exact⟨_,rfl,(hg _ _).1,(hg _ _).2⟩
theorem FO{S:Nat->Prop}(vx vy:Value)(x y:Int)(w:World)(hx:ZV S w vx x)(hy:ZV S w vy y)(hS:∀k,S k->k<w.heap.size)(hrx:XZ x)(hry:XZ y) :
  Calls Tryz.prog 48 #[vx,vy] w λ e w'=>∃v',e=.returned v'/\ZV (New w w') w' v' (x+y)/\Ext w w':=by
 by_cases D:decide (x<0)=decide (y<0)
 ·exact Jf vx vy x y w hx hy hS hrx hry D
 ·by_cases z:y.natAbs<=x.natAbs
  ·exact Ct vx vy x y w hx hy hS hrx hry D z
  ·exact EV vx vy x y w hx hy hS hrx hry D (by omega)
end
section
open Go.RowKit
end
section
open Go.RowKit
def RTs(S:Nat->Prop)(w:World)(v:Value)(p:PZ):Prop :=
 ∃b off,z3r S v p.length b off/\∀j t,p[j]? = some t->∃vd vo,w.cell? ⟨b,off+j*3,none⟩=some (.bool (decide (t.1<0))) /\
  w.cell? ⟨b,off+j*3+1,none⟩=some vd/\w.cell? ⟨b,off+j*3+2,none⟩=some vo/\Digs S w vd (Z4 10 t.1.natAbs)/\Pows S w vo t.2
section
variable {S S':Nat->Prop} {w w':World} {v:Value} {p:PZ}
theorem RTs.form(h:RTs S w v p):∃a cap,v=.slice a p.length cap:=by
 obtain⟨b,off,⟨a,cap,h1,_⟩,_⟩:=h;exact⟨a,cap,h1⟩
theorem RTs.to(h:RTs S w v p)(hk:Kept S w w')(hS:∀k,S k->S' k):RTs S' w' v p:=by
 obtain⟨b,off,y,z⟩:=h;refine⟨b,off,y.mono hS,λ j t hj=>?_⟩;obtain⟨vm,vo,J,I,D,O,K⟩:=z j t hj;have hb:=y.in (Zy hj);exact⟨vm,vo,hk.cell hb J,hk.cell hb I,hk.cell hb D,O.to hk hS,K.to hk hS⟩
theorem RTs.ext(h:RTs S w v p)(hx:Ext w w')(hS:∀k,S k->k<w.heap.size):RTs S w' v p:=h.to (uM hx hS) (λ _ h=>h)
theorem RTs.len_le(h:RTs S w v p):p.length<=9223372036854775807:=by
 obtain⟨b,off,⟨a,cap,h1,h2,h3,_⟩,_⟩:=h;unfold maxLen at h3;omega
theorem RTs.cellAt{a:Option Addr}{n cap k:Nat}{t:Int×Z7}(h:RTs S w (.slice a n cap) p)(ht:p[k]? = some t) :
  ∃b off vd vo,a=some ⟨b,off,none⟩/\n=p.length/\n<=cap/\cap<=9223372036854775807/\S b/\w.cell? ⟨b,off+k*3,none⟩=some (.bool (decide (t.1<0)))/\w.cell? ⟨b,off+k*3+1,none⟩=some vd/\w.cell? ⟨b,off+k*3+2,none⟩=some vo/\Digs S w vd (Z4 10 t.1.natAbs)/\Pows S w vo t.2:=by
 obtain⟨b,off,⟨a',y,h1,I,U,K,J⟩,hc⟩:=h;obtain⟨rfl,rfl,rfl⟩:a=a'/\n=p.length/\cap=y:=by simpa using h1
 have z:0<p.length:=by have:=Zy ht;omega
 obtain⟨vm,vo,g1,Z,X,D,O⟩:=hc k t ht;exact⟨b,off,vm,vo,K z,rfl,I,U,J z,g1,Z,X,D,O⟩
theorem RTs.nilv(S:Nat->Prop)(w:World)(a:Option Addr)(cap:Nat)(h:cap<=9223372036854775807):RTs S w (.slice a 0 cap) [] :=
 ⟨0,0,⟨a,cap,rfl,zL _,h,λ h=>absurd h (yQ 0),λ h=>absurd h (yQ 0)⟩,λ j t hj=>by simp at hj⟩
end
def z21(S:Nat->Prop)(w:World):List Value->PZ->Prop
 |xs,[]=>xs=[]
 |xs,t :: r=>∃vd vo ys,xs=.bool (decide (t.1<0)) :: vd :: vo :: ys/\Digs S w vd (Z4 10 t.1.natAbs)/\Pows S w vo t.2/\z21 S w ys r
section
variable {S S':Nat->Prop} {w w':World}
theorem z21.append{xs ys:List Value}{p q:PZ}(h:z21 S w xs p)(k:z21 S w ys q):z21 S w (xs++ys) (p++q):=by
 induction p generalizing xs with
 |nil=>
  have e:xs=[]:=h;subst e;exact k
 |cons t r ih=>
  obtain⟨vd,vo,zs,rfl,h1,h2,h3⟩:=h;exact⟨vd,vo,zs++ys,rfl,h1,h2,ih h3⟩
theorem z21.to{xs:List Value}{p:PZ}(h:z21 S w xs p)(hk:Kept S w w')(hS:∀k,S k->S' k):z21 S' w' xs p:=by
 induction p generalizing xs with
 |nil=>exact h
 |cons t r ih=>
  obtain⟨vd,vo,zs,rfl,h1,h2,h3⟩:=h;exact⟨vd,vo,zs,rfl,h1.to hk hS,h2.to hk hS,ih h3⟩
theorem z21.length{xs:List Value}{p:PZ}(h:z21 S w xs p):xs.length=p.length*3:=by
 induction p generalizing xs with
 |nil=>
  have e:xs=[]:=h;subst e;rfl
 |cons t r ih=>
  obtain⟨vd,vo,zs,rfl,h1,h2,h3⟩:=h;simp only[zM,ih h3];omega
theorem z21.get{xs:List Value}{p:PZ}(h:z21 S w xs p){j:Nat}{t:Int×Z7}(ht:p[j]? = some t) :
  ∃vd vo,xs[j*3]? = some (.bool (decide (t.1<0)))/\xs[j*3+1]? = some vd/\xs[j*3+2]? = some vo/\Digs S w vd (Z4 10 t.1.natAbs)/\Pows S w vo t.2:=by
 induction p generalizing xs j with
 |nil=>simp at ht
 |cons u r ih=>
  obtain⟨vd,vo,zs,rfl,J,I,D⟩:=h
  cases j with
  |zero=>
   obtain rfl:u=t:=by simpa using ht
   exact⟨vd,vo,rfl,rfl,rfl,J,I⟩
  |succ j=>
   obtain⟨z,y,g⟩:=ih D (j:=j) (by simpa using ht);refine⟨z,y,?_⟩;rw[show(j+1)*3=j*3+1+1+1 by omega];simpa using g
theorem z21.one{xs:List Value}{p:PZ}(h:z21 S w xs p):∀u∈xs,u.oneCell'=true:=by
 induction p generalizing xs with
 |nil=>
  have e:xs=[]:=h;subst e;intro u y;simp at y
 |cons t r ih=>
  obtain⟨vd,vo,zs,rfl,I,D,z⟩:=h;intro u y;simp only[zJ]at y
  rcases y with rfl|rfl|rfl|y
  ·rfl
  ·obtain⟨a,c,rfl⟩:=I.form;rfl
  ·obtain⟨a,c,rfl⟩:=D.form;rfl
  ·exact ih z u y
theorem z21.single{vd vo:Value}{t:Int×Z7}(h1:Digs S w vd (Z4 10 t.1.natAbs))(h2:Pows S w vo t.2):z21 S w [.bool (decide (t.1<0)),vd,vo] [t]:=⟨vd,vo,[],rfl,h1,h2,rfl⟩
end
theorem K_{S:Nat->Prop}{w:World}{base:Nat}{e:TypeId}{v:Value}{xs:List Value}{p:PZ}(h:w.ownsRow base e 3 v p.length xs)(hc:z21 S w xs p)(hB:∀k,base<=k->k<w.heap.size->S k):RTs S w v p:=by
 have y:=h.lt
 rcases h.2 with ⟨rfl,Z⟩|⟨g,cap,cur,rfl,hg,hh,U,I,h3,h4⟩
 ·obtain rfl:p=[]:=zO.1 Z;exact RTs.nilv _ _ _ _ (by omega)
 ·refine⟨g,0,⟨_,cap,rfl,U,I,λ _=>rfl,λ _=>hB g (y g rfl).1 (y g rfl).2⟩,λ j t hj=>?_⟩;obtain⟨z,vo,X,O,K,D,J⟩:=hc.get hj;have hb:=Zy hj
  refine⟨z,vo,?_,?_,?_,D,J⟩
  ·rw[h.cellAt (0+j*3) (by omega),zr];exact X
  ·rw[h.cellAt (0+j*3+1) (by omega),zr];exact O
  ·rw[h.cellAt (0+j*3+2) (by omega),zr];exact K
theorem OH{S:Nat->Prop}{w:World}{b:Nat}:∀(p:PZ) (off:Nat),(∀j t,p[j]? = some t->∃vd vo,w.cell? ⟨b,off+j*3,none⟩=some (.bool (decide (t.1<0))) /\
  w.cell? ⟨b,off+j*3+1,none⟩=some vd/\w.cell? ⟨b,off+j*3+2,none⟩=some vo/\Digs S w vd (Z4 10 t.1.natAbs)/\Pows S w vo t.2) ->
  ∃xs,z21 S w xs p/\∀j u,xs[j]? = some u->w.cell? ⟨b,off+j,none⟩=some u
 | [],_,_=>⟨[],rfl,λ j u hu=>by simp at hu⟩
 |t :: r,off,h=>by
  obtain⟨vd,vo,h1,h2,h3,h4,h5⟩:=h 0 t rfl
  obtain⟨ys,k1,y⟩:=OH r (off+3) (λ j u hu=>by
   have:=h (j+1) u (by simpa using hu);rw[show off+(j+1)*3=off+3+j*3 by omega]at this
   exact this)
  refine⟨_,⟨vd,vo,ys,rfl,h4,h5,k1⟩,λ j u hu=>?_⟩
  match j,hu with
  |0,hu=>
   have e:_=u:=Option.some.inj hu;rw[<-e];exact h1
  |1,hu=>
   have e:_=u:=Option.some.inj hu;rw[<-e];exact h2
  |2,hu=>
   have e:_=u:=Option.some.inj hu;rw[<-e];exact h3
  |j+3,hu=>
   have:=y j u (by simpa using hu);rw[show off+(j+3)=off+3+j by omega];exact this
theorem RTs.src{S:Nat->Prop}{w:World}{b off n cap k:Nat}{p:PZ}(h:RTs S w (.slice (some ⟨b,off,none⟩) n cap) p)(hk:k<=p.length) :
  ∃news,Wq w (some ⟨b,off+k*3,none⟩) (p.length-k) 3 news/\z21 S w news (p.drop k):=by
 obtain⟨O,y,⟨a',z,K,h2,h3,I,h5⟩,D⟩:=h
 by_cases U:0<p.length
 ·have e:=I U;obtain⟨J,-,-⟩:some (⟨b,off,none⟩:Addr)=a'/\n=p.length/\cap=z:=by simpa using K
  rw[<-J]at e;obtain⟨rfl,rfl⟩:b=O/\off=y:=by simpa using e
  obtain⟨xs,k1,X⟩:=OH (S:=S) (w:=w) (b:=b) (p.drop k) (off+k*3) (λ j t hj=>by
   rw[yx]at hj;have:=D (k+j) t hj;rw[show off+(k+j)*3=off+k*3+j*3 by omega]at this
   exact this)
  refine⟨xs,⟨?_,k1.one,λ _=>⟨_,rfl,λ j u hu=>?_⟩⟩,k1⟩
  ·rw[k1.length,yG]
  ·rw[z9j];exact X j u hu
 ·obtain rfl:p=[]:=zO.1 (by omega);refine⟨[],⟨by simp,λ u hu=>by simp at hu,λ hh=>by simp at hh⟩,?_⟩;rw[List.drop_nil];rfl
theorem SI{p:PZ}{c:Int}{m:Z7}:∀{k:Nat},(∀j t,j<k->p[j]? = some t->Zs t.2 m=1)->putP p c m=p.take k++putP (p.drop k) c m
 |0,_=>rfl
 |k+1,h=>by
  cases p with
  |nil=>simp
  |cons t r=>
   have h0:=h 0 t (by omega) rfl;have y:=SI (p:=r) (c:=c) (m:=m) (k:=k) (λ j u hj hu=>h (j+1) u (by omega) (by simpa using hu));simp only[putP,h0,if_true,vU,List.drop_succ_cons,zc,y]
def midP(c:Int)(m:Z7):PZ:=if c=0 then [] else [(c,m)]
theorem Gg{p:PZ}{c:Int}{m:Z7}{k:Nat}(h:∀j t,j<k->p[j]? = some t->Zs t.2 m=1)(hk:k=p.length):putP p c m=p.take k++midP c m++p.drop k:=by
 rw[SI h,hk,xN];simp[putP,midP]
theorem IX{p:PZ}{c:Int}{m:Z7}{k:Nat}{t:Int×Z7}(h:∀j t,j<k->p[j]? = some t->Zs t.2 m=1)(ht:p[k]? = some t)(hc:Zs t.2 m=0):putP p c m=p.take k++midP (c+t.1) m++p.drop (k+1):=by
 rw[SI h,Wh ht,zB];simp only[putP,hc,midP,if_true];rw[if_neg (by decide)]
 split<;>rfl
theorem Ew{p:PZ}{c:Int}{m:Z7}{k:Nat}{t:Int×Z7}(h:∀j t,j<k->p[j]? = some t->Zs t.2 m=1)(ht:p[k]? = some t)(h1:Zs t.2 m≠1)(h2:Zs t.2 m≠0):putP p c m=p.take k++midP c m++p.drop k:=by
 rw[SI h,Wh ht,zB];simp only[putP,midP];rw[if_neg h1,if_neg h2]
 split<;>rfl
theorem P8{c:Int}(h:c=0)(m:Z7):midP c m=[]:=by unfold midP;rw[if_pos h]
theorem Rf{c:Int}(h:c≠0)(m:Z7):midP c m=[(c,m)]:=by unfold midP;rw[if_neg h]
theorem Tryz.infoT:(Tryz.prog.info? 98).map (λ i=>(i.zero,i.size,i.bytes))=some (some (.agg #[.bool false,.slice none 0 0,.slice none 0 0]),3,56):=by kernel_rfl
abbrev uy:=@Tryz.infoT
theorem Xn{u v x:Value}(h:u.oneCell'=true)(k:v.oneCell'=true)(l:x.oneCell'=true):∀y∈(#[u,v,x]:Array Value).toList,y.oneCell'=true:=by
 intro y hy;simp at hy;rcases hy with rfl|rfl|rfl<;>assumption
end
section
open Go.RowKit
abbrev Z2(w:World):Nat->Prop:=λ k=>k<w.heap.size
theorem Vw{w W:World}(h:Ext w W):∀k,Z2 w k->k<W.heap.size:=λ _ hk=>zU hk h.size
theorem RTs.on{w W:World}{v:Value}{p:PZ}(h:RTs (Z2 w) w v p)(hx:Ext w W):RTs (Z2 W) W v p:=h.to (Kept.ext hx (λ _ h=>h)) (Vw hx)
abbrev uG:=@RTs.on
theorem Pows.on{w W:World}{v:Value}{z:Z7}(h:Pows (Z2 w) w v z)(hx:Ext w W):Pows (Z2 W) W v z:=h.to (Kept.ext hx (λ _ h=>h)) (Vw hx)
abbrev uh:=@Pows.on
def XN(p:PZ):Prop:=p.length<=1000000000000/\∀t∈p,XZ t.1
theorem T8{P:Program}(w:World){ops:Array Oper}{rest:List Oper}{o:Oper}{a:Act}{Q:Exit->Act->World->Prop}(hgd:o.guard=none)(x y:Operand)(t e:TypeId)
  (ho:o.op=.slice t x (some y) none none) (ht:P.underlying t=some (.slice e)) {z:Option Value} {size bytes:Nat} (hinfo:(P.info? e).map (λ i=>(i.zero,i.size,i.bytes))=some (z,size,bytes))
  (A:Option Addr) (n cap k:Nat) (hx:a.eval x=.slice A n cap) (hy:a.eval y=.int .i64 (k:Nat)) (hk:k<=n)
  (h:∀A',A'=(if cap=k then A else A.map (·.add (k*size)))->wpList P ops Q rest (a.put o.dst (.slice A' (n-k) (cap-k))) w):wpList P ops Q (o :: rest) a w:=by
 refine wpList_plain hgd λ K hK=>?_;have O:P.elem t=e:=by simp[Program.elem,ht]
 have D:P.underlying t=some (.slice (P.elem t)):=by rw[O];exact ht
 have hi:∃i,P.info? e=some i/\i.size=size:=by
  cases hh:P.info? e with
  |none=>rw[hh]at hinfo;simp at hinfo
  |some i=>
   rw[hh]at hinfo;simp at hinfo;exact⟨i,rfl,hinfo.2.1⟩
 obtain⟨i,J,I⟩:=hi;unfold Oper.wp execOp;simp only[ho,Option.map,hx,hy];rw[Sem.run_bind,run_sliceAt_slice _ _ _ _ _ _ D,run_slice_l _ _ _ _ _ D _ _ (by omega) (by omega)];simp only[O,sizeOf,typeInfo,Sem.run_bind,sliced,xU];have:=hK _ _ (h _ rfl);simpa[go_sem,J,I]using this
theorem TZ{S:Nat->Prop}{w:World}{A A':Option Addr}{n cap k:Nat}{p:PZ}(h:RTs S w (.slice A n cap) p)(hk:k<=p.length)(e:A'=(if cap=k then A else A.map (·.add (k*3)))) :
  ∃news,Wq w A' (p.length-k) 3 news/\z21 S w news (p.drop k):=by
 have I:=h;obtain⟨b,off,⟨a',y,J,h2,h3,K,h5⟩,hc⟩:=h;obtain⟨rfl,rfl,rfl⟩:A=a'/\n=p.length/\cap=y:=by simpa using J
 by_cases hlt:k<p.length
 ·have z:=K (by omega);subst z;rw[if_neg (by omega)]at e;have D:A'=some ⟨b,off+k*3,none⟩:=by rw[e,uY,z9j]
  rw[D];exact I.src hk
 ·obtain rfl:k=p.length:=by omega
  refine⟨[],⟨by simp,λ u hu=>by simp at hu,λ hh=>by omega⟩,?_⟩;rw[xN];rfl
theorem Zp{w w':World}{base:Nat}{e:TypeId}{size:Nat}{v:Value}{n:Nat}{xs:List Value}(h:w.ownsRow base e size v n xs)(hx:Ext w w'):w'.ownsRow base e size v n xs :=
 h.kept (row:=none) ⟨hx.os,hx.tape,hx.output,hx.size,λ k hk _=>hx.block k hk⟩ (by
  cases hv:v.ownBlock with
  |none=>exact .inl rfl
  |some k=>exact .inr (by simp))
theorem P2{c:Int}(h:c≠0):(Zx c != 0)=true:=by
 rw[bne_iff_ne];unfold Zx;rw[Ne,z7u];exact h
abbrev ZG(S:Nat->Prop)(w w1:World):Nat->Prop:=λ k=>S k∨New w w1 k
theorem X_{S:Nat->Prop}{w w1:World}(hS:∀k,S k->k<w.heap.size)(hx:Ext w w1):∀k,ZG S w w1 k->k<w1.heap.size:=λ k hk=>by
 rcases hk with h|h
 ·exact zU (hS k h) hx.size
 ·exact h.2
theorem Ue{S:Nat->Prop}{w w1 w2:World}(hx:w1.heap.size<=w2.heap.size):∀k,ZG S w w1 k->ZG S w w2 k:=λ k hk=>by
 rcases hk with h|h
 ·exact .inl h
 ·exact .inr ⟨h.1,zU h.2 hx⟩
abbrev WD(S:Nat->Prop)(w w1:World)(o:Value):Nat->Prop:=λ k=>ZG S w w1 k/\some k≠o.ownBlock
theorem Uq{S:Nat->Prop}{w w0 w1:World}{o v:Value}{z:List Nat}(hS:∀k,S k->k<w.heap.size)(h0:Ext w w0)(h:Digs (WD S w w0 o) w0 v z)(hx:Ext w0 w1):Digs (WD S w w1 o) w1 v z :=
 h.to (uM hx (λ k h=>X_ hS h0 k h.1)) (λ k h=>⟨Ue hx.size k h.1,h.2⟩)
theorem O5{w w1:World}{o:Value}{e:TypeId}{size n:Nat}{xs:List Value}(ho:w1.ownsRow (w.heap.size+1) e size o n xs){k:Nat}(hk:k<w.heap.size):some k≠o.ownBlock:=λ e=>by
 have:=(ho.lt k e.symm).1;omega
theorem Mz{S:Nat->Prop}{w w1:World}{o v:Value}{z:List Nat}{e:TypeId}{size n:Nat}{xs:List Value}(hS:∀k,S k->k<w.heap.size)(h:Digs S w v z)(hx:Ext w w1)(ho:w1.ownsRow (w.heap.size+1) e size o n xs):Digs (WD S w w1 o) w1 v z :=
 h.to (uM hx hS) (λ k hk=>⟨.inl hk,O5 ho (hS k hk)⟩)
theorem VN{w w1 w2:World}{o:Value}{e:TypeId}{size n:Nat}{xs:List Value}(hx:Ext w w1)(ho:w1.ownsRow (w.heap.size+1) e size o n xs)(hg:w1.grownBy w2 o.ownBlock):Ext w w2 :=
 YU hx hg (λ k hk=>by have:=(ho.lt k hk).1;omega)
theorem Uy{S:Nat->Prop}{w w1:World}{o:Value}{e:TypeId}{size n:Nat}{xs:List Value}(hS:∀k,S k->k<w.heap.size)(ho:w1.ownsRow (w.heap.size+1) e size o n xs)(hx:Ext w w1):∀k,S k->k<w1.heap.size/\some k≠o.ownBlock:=λ k hk=>
 ⟨zU (hS k hk) hx.size,O5 ho (hS k hk)⟩
theorem RD{S:Nat->Prop}{w w1:World}{o v2:Value}{k:Nat}(hS:∀k,S k->k<w.heap.size)(hx:Ext w w1)(h:WD S w w1 o k)(hb:v2.ownBlock=o.ownBlock∨v2.ownBlock=some (w1.heap.size+1)):some k≠v2.ownBlock:=by
 rcases hb with e|e
 ·rw[e];exact h.2
 ·rw[e];intro e2;have:=X_ hS hx k h.1;have e3:k=w1.heap.size+1:=Option.some.inj e2;omega
theorem Fm(w:World)(a:Addr)(u:Value):w.grownBy (w.setCell a u) (some a.block) :=
 ⟨rfl,rfl,rfl,xC (z03 w a u).symm,λ k _ hne=>Below.heap_setCell _ _ _ _ (λ e=>hne (by rw[e]))⟩
theorem Or{w1:World}{b i base:Nat}{o:Value}{e:TypeId}{size n:Nat}{xs:List Value}(ho:w1.ownsRow base e size o n xs)(hb:b<base)(u:Value):(w1.setCell ⟨b,i,none⟩ u).ownsRow base e size o n xs :=
 ho.kept (Fm w1 ⟨b,i,none⟩ u) (by
  cases hv:o.ownBlock with
  |none=>exact .inl rfl
  |some k=>
   have:=(ho.lt k hv).1
   exact .inr (λ e=>by
    have e2:k=b:=Option.some.inj e
    omega))
theorem GY{S:Nat->Prop}{w wb wc:World}{b i j:Nat}{o v x y:Value}{z:List Nat}{base:Nat}{e:TypeId}{size n:Nat}{xs:List Value}(h:Digs (New wb wc) wc v z)(ho:wb.ownsRow base e size o n xs)(hb:b<wb.heap.size)(hw:w.heap.size<=wb.heap.size) :
  Digs (WD S w ((wc.setCell ⟨b,i,none⟩ x).setCell ⟨b,j,none⟩ y) o) ((wc.setCell ⟨b,i,none⟩ x).setCell ⟨b,j,none⟩ y) v z:=by
 have k1:Kept (New wb wc) wc (wc.setCell ⟨b,i,none⟩ x):=uH (a:=⟨b,i,none⟩) (λ hh=>by have:=hh.1;simp only at this;omega) x;have D:Kept (New wb wc) (wc.setCell ⟨b,i,none⟩ x) ((wc.setCell ⟨b,i,none⟩ x).setCell ⟨b,j,none⟩ y):=uH (a:=⟨b,j,none⟩) (λ hh=>by have:=hh.1;simp only at this;omega) y
 refine h.to (k1.trans D) (λ k hk=>⟨.inr ⟨zT hw hk.1,?_⟩,λ e=>?_⟩)
 ·rw[z03,z03];exact hk.2
 ·have:=(ho.lt k e.symm).2;have:=hk.1;omega
theorem Us{S:Nat->Prop}{w w2 w3:World}{k j n:Nat}{T:TypeId}{v3:Value}{xs ms news:List Value}{p md q:PZ}(hS:∀k,S k->k<w.heap.size)(hx:z21 S w xs (p.take k))(x3:Ext w w3)(hm:z21 (ZG S w w3) w3 ms md)(hn:z21 S w2 news (p.drop j))(hk:Kept S w2 w3)
  (ho:w3.ownsRow (w.heap.size+1) T 3 v3 n (xs++ms++news)) (hq:q=p.take k++md++p.drop j):RTs (ZG S w w3) w3 v3 q:=by
 have z:z21 (ZG S w w3) w3 (xs++ms++news) q:=by
  rw[hq];exact((hx.to (uM x3 hS) (λ _ h=>.inl h)).append hm).append (hn.to hk (λ _ h=>.inl h))
 have hl:=z.length
 have y:n=q.length:=by
  have:=ho.1;omega
 subst y;exact K_ ho z (λ k h1 h2=>.inr ⟨by omega,h2⟩)
theorem RE{S:Nat->Prop}(vp vc vm:Value)(p:PZ)(c:Int)(m:Z7)(w:World)(hS:∀k,S k->k<w.heap.size)(hp:RTs S w vp p)(hc:ZV S w vc c)(hm:Pows S w vm m)(hmay:ZD p)(hmm:Z3 m=true)(hs:XN p)(hsc:XZ c) :
  Calls Tryz.prog 26 #[vp,vc,vm] w λ e w'=>∃v',e=.returned v'/\RTs (ZG S w w') w' v' (putP p c m)/\Ext w w':=by
 obtain⟨i0,hi,a2,aR,aS⟩:=info_parts uy;have HP:=Z_ hp;have HM:=Z_ hm;have HC:=Z_ hc;have cq:=Z_ hmay;have bN:=Z_ hmm;have HS:=Z_ hs;have ci:=Z_ hsc;obtain⟨ap,cp,rfl⟩:=hp.form;obtain⟨ac,nc,cc,rfl⟩:=hc.form;obtain⟨am,cm,rfl⟩:=hm.form;have hl:=hp.len_le;clear hp hc hm hmay hmm hs hsc;obtain⟨bc,bB⟩:∃b,b=decide (c<0):=⟨_,rfl⟩
 rw[<-bB]at HC⊢;have HK:=Z_ (uO (uP w) (.cells #[.bool bc,.slice ac nc cc] 95));have a0:=λ(W:World) (hW:Ext (w.alloc (.cells #[.bool bc,.slice ac nc cc] 95)) W)=>new2 hW;have a0:=Z_ a0;have az:=Z_ bB
 have cb:Hd (Digs S w (.slice ac nc cc) (Z4 10 c.natAbs)):=by
  obtain⟨vd,e1,e2⟩:=HC.o;have e3:Value.slice ac nc cc=vd:=by simp at e1;exact e1.2
  rw[e3];exact Z_ e2
 clear bB
 go_enter Tryz.func26,Tryz.ntmps26
 go_wp2
 go_loopw [7,8] (λ o v wr=>∃k xs,k<=p.length/\v=.int .i64 (k:Nat)/\Ext (w.alloc (.cells #[.bool bc,.slice ac nc cc] 95)) wr/\Hd (∀j t,j<k->p[j]? = some t->Zs t.2 m=1)/\Hd (wr.ownsRow (w.heap.size+1) 98 3 o k xs)/\Hd (z21 S w xs (p.take k))) (λ _ v _=>p.length-(intOf v).toNat)
 case atStart=>exact⟨0,[],zL _,rfl,uP _,Z_ (λ j t hj=>by omega),Z_ (World.ownsRow_nil _ _ _ _),Z_ rfl⟩
 case round=>
  obtain⟨k,xs,hk,rfl,hx,ba,HW,aP⟩:=hrel;have HX:=Z_ hx
  by_cases b4:k<p.length
  ·obtain⟨t,ht⟩:=ZN b4;obtain⟨b,off,vd,vo,rfl,-,hn1,hm1,hSb,h1,h2,h3,h4,h5⟩:=HP.o.cellAt ht;have HT:=Z_ ht;have H4:=Z_ h4;have H5:=Z_ h5;obtain⟨ad,cd,rfl⟩:=h4.form;obtain⟨ao,co,rfl⟩:=h5.form;have aA:=Z_ (HK.o.trans hx);have g1:=aA.o.cell h1;have g2:=aA.o.cell h2;have g3:=aA.o.cell h3;have cg:=Z_ (cq.o t (zP ht));have b3:=Z_ (HS.o.2 t (zP ht));have CO:=λ(W:World) (hW:Ext w W)=>IU (S:=S) _ _ t.2 m W (H5.o.ext hW hS) (HM.o.ext hW hS) (ZM hS hW);rw[B3 cg.o bN.o]at CO;obtain⟨rc,bb⟩:∃r,Zs t.2 m=r:=⟨_,rfl⟩
   rw[bb]at CO;have Z:rc=1∨rc=0∨rc = -1:=by rw[<-bb];rcases VQ cg.o bN.o with h|h|h<;>omega
   have a5:=Z_ CO;have bg:=Z_ bb;obtain⟨bt,bu⟩:∃b,b=decide (t.1<0):=⟨_,rfl⟩
   obtain⟨nt,b7⟩:∃n,n=(Z4 10 t.1.natAbs).length:=⟨_,rfl⟩
   rw[<-bu]at g1;rw[<-b7]at g2 H4;have b1:=Z_ bu;have cl:Hd (p.take (k+1)=p.take k ++ [t]):=Z_ (by rw[zv,ht];rfl);have ce:Hd (w.heap.size+1<=wr.heap.size):=Z_ (by have:=hx.size;rw[z00]at this;exact this);clear CO bb hx ht h1 h2 h3 h4 h5 bu b7
   rcases Z with rfl|rfl|rfl
   ·go_wp2_with fail;refine(a5.o wr aA.o).mono ?_;rintro e w1 ⟨rfl,z⟩;have I:=Z_ (HX.o.trans z);have O:=Z_ (Zp HW.o z);have K:Hd (w.heap.size+1<=w1.heap.size):=Z_ (zT ce.o z.size);have k1:=z.cell g1;have k2:=z.cell g2;have k3:=z.cell g3;clear z g1 g2 g3;go_wp2_with (at_builtin;refine VA _ rfl (.tmp 23) (.tmp 28) 58 rfl (w.heap.size+1) 98 (.agg #[.bool false,.slice none 0 0,.slice none 0 0]) 3 56 Tryz.underlying58 uy rfl (by decide) _ k xs rfl O.o #[.bool bt,.slice ad nt cd,.slice ao t.2.length co] rfl (Xn rfl rfl rfl) rfl (by have:=HS.o.1;omega) (by decide) K.o ?_;intro v2 w2 D hg _;have al:=Z_ D;have aj:=Z_ (YU I.o hg (λ j hj=>by have:=(O.o.lt j hj).1;rw[z00];exact this));clear D hg)
    go_roundw
    case rel=>
     refine⟨k+1,xs++(#[.bool bt,.slice ad nt cd,.slice ao t.2.length co]:Array Value).toList,by omega,by go_num,aj.o,Z_ (λ j u hj hu=>?_),al,Z_ ?_⟩
     ·by_cases e:j=k
      ·subst e;have:=HT.o.symm.trans hu
       cases this
       exact bg.o
      ·exact ba.o j u (by omega) hu
     ·rw[cl.o];refine aP.o.append ?_;rw[b1.o];exact z21.single H4.o H5.o
    case measure=>simp only[intOf];omega
   ·go_wp2_with fail;refine(a5.o wr aA.o).mono ?_;rintro e wa ⟨rfl,ar⟩;have a6:=Z_ (HX.o.trans ar);have k1:=ar.cell g1;have k2:=ar.cell g2;have k3:=ar.cell g3;have bv:=Z_ (Zp HW.o ar);clear ar g1 g2 g3;go_wp2_with fail;refine(a5.o wa (HK.o.trans a6.o)).mono ?_;rintro e wb ⟨rfl,ay⟩;have aG:=Z_ (a6.o.trans ay);have l1:=ay.cell k1;have l2:=ay.cell k2;have l3:=ay.cell k3;have b6:=Z_ (Zp bv.o ay);obtain⟨c0,c1,f0,f1⟩:=a0.o wb aG.o;have bf:=Z_ (HK.o.trans aG.o.drew);have CA:=FO (S:=S) _ _ c t.1 wb.drew (HC.o.ext bf.o hS) (show ZV S wb.drew (.agg #[.bool (decide (t.1<0)),.slice ad nt cd]) t.1 from⟨_,rfl,H4.o.ext bf.o hS⟩) (ZM hS bf.o) ci.o b3.o;rw[<-b1.o]at CA;have cn:=Z_ CA;clear ay k1 k2 k3 CA;go_wp2
    go_still_tail 6,(by kernel_rfl)
    change wpList _ _ _ _ _ wb.drew;go_wp2_with fail;refine cn.o.mono ?_;rintro e wc ⟨vs,rfl,cj,a8⟩;obtain⟨vd2,rfl,bn⟩:=cj;have bA:=Z_ bn;obtain⟨aq,cs,rfl⟩:=bn.form;obtain⟨ns,ca⟩:∃n,n=(Z4 10 (c+t.1).natAbs).length:=⟨_,rfl⟩
    obtain⟨bs,bl⟩:∃b,b=decide (c+t.1<0):=⟨_,rfl⟩
    have az:=Z_ bl;rw[<-ca]at bA⊢;rw[<-bl];obtain⟨q0,q1,p0,p1⟩:=a0.o wc (aG.o.drew.trans a8);obtain⟨e0,e1⟩:=YY (.bool bs) (.slice aq ns cs) q0 q1;have bx:=Z_ (Or (i:=1) (Or (i:=0) (Zp b6.o ((uP wb).drew.trans a8)) (zk w.heap.size) (.bool bs)) (zk w.heap.size) (.slice aq ns cs));have a4:Hd (w.heap.size+1<=wb.heap.size):=Z_ (by have:=aG.o.size;rw[z00]at this;exact this);have bm:=Z_ (((bf.o.trans a8).setCell (p:=⟨w.heap.size,0,none⟩) (zR _) (.bool bs)).setCell (p:=⟨w.heap.size,1,none⟩) (zR _) (.slice aq ns cs));have ai:Hd (w.heap.size+1<=((wc.setCell ⟨w.heap.size,0,none⟩ (.bool bs)).setCell ⟨w.heap.size,1,none⟩ (.slice aq ns cs)).heap.size):=Z_ (by rw[z03,z03];exact zT a4.o a8.size);have a7:=Z_ (GY (wb:=wb.drew) (b:=w.heap.size) (i:=0) (j:=1) (x:=.bool bs) (y:=.slice aq ns cs) bA.o (Zp b6.o ((uP wb).drew)) a4.o (zT (zw _) a4.o) (S:=S) (w:=w));have aF:=Z_ (IX (c:=c) ba.o HT.o bg.o);have HJ:Hd (k+1<=p.length):=Z_ b4;clear a8 bn ca bl c0 c1;go_wp2_with fail;obtain⟨wz,ch⟩:∃W,W=(wc.setCell ⟨w.heap.size,0,none⟩ (.bool bs)).setCell ⟨w.heap.size,1,none⟩ (.slice aq ns cs):=⟨_,rfl⟩
    rw[<-ch]at bx bm ai a7 e0 e1⊢;have HW:=bx;have ag:Hd (Ext w wz):=bm;have aH:=ai;have ah:=a7;have c0:=e0;have c1:=e1;clear ch q0 q1 p0 p1 f0 f1 bx bm ai a7 e0 e1 bA
    by_cases hz:c+t.1=0
    ·have CS:=Z_ (show Calls Tryz.prog 49 #[.agg #[.bool bs,.slice aq ns cs]] wz λ e w'=>e=.returned (.int .i64 0)/\Ext wz w' from by have h:=UG (S:=WD S w wz u7) _ (c+t.1) wz ⟨_,rfl,ah.o⟩;rw[<-az.o,show Zx (c+t.1)=0 by rw[hz];rfl]at h;exact h);have HZ:=Z_ hz;clear hz;refine CS.o.mono ?_;rintro e w1 ⟨rfl,z⟩;have I:=Z_ (ag.o.trans z);have O:=Z_ (Zp HW.o z);have K:Hd (w.heap.size+1<=w1.heap.size):=Z_ (zT aH.o z.size);have aB:=Z_ (Uq hS ag.o ah.o z);clear z;go_wp2_with (first|(refine T8 _ rfl (.tmp 65) (.tmp 66) 58 98 rfl Tryz.underlying58 uy (some ⟨b,off,none⟩) p.length cp (k+1) rfl rfl HJ.o ?_;intro A' af;obtain⟨ae,J,Z⟩:=TZ (HP.o.ext I.o hS) HJ.o af;have aa:=Z_ J;have ax:=Z_ Z;clear af J Z)|(at_builtin;refine Wu _ rfl (.tmp 64) (.tmp 67) 58 rfl (w.heap.size+1) 98 i0 (.agg #[.bool false,.slice none 0 0,.slice none 0 0]) 3 56 Tryz.underlying58 hi a2 aR aS rfl (by decide) _ ((k)) xs rfl O.o A' (p.length-(k+1)) _ ae rfl aa.o (by have:=HS.o.1;unfold maxLen;omega) (by have:=HS.o.1;omega) K.o ?_;intro v3 w3 D hg _;have av:=Z_ D;have U:=Z_ hg;clear D hg));go_ret;have X:=VN I.o O.o U.o;refine⟨_,rfl,Us (w:=w) hS (ms:=[]) (md:=[]) aP.o X rfl ax.o (uJ U.o (Uy hS O.o I.o)) (by simpa using av.o) (by rw[aF.o,P8 HZ.o]),X⟩
    ·have CS:=Z_ (show Calls Tryz.prog 49 #[.agg #[.bool bs,.slice aq ns cs]] wz λ e w'=>e=.returned (.int .i64 (Zx (c+t.1)))/\Ext wz w' from by rw[az.o];exact UG (S:=WD S w wz u7) _ (c+t.1) wz ⟨_,rfl,ah.o⟩);have b2:=P2 hz;have HZ:=Z_ hz;clear hz;refine CS.o.mono ?_;rintro e w1 ⟨rfl,z⟩;have I:=Z_ (ag.o.trans z);have O:=Z_ (Zp HW.o z);have K:Hd (w.heap.size+1<=w1.heap.size):=Z_ (zT aH.o z.size);have aB:=Z_ (Uq hS ag.o ah.o z);have k0:=z.cell c0;have k1:=z.cell c1;clear z;go_wp2_with (first|(refine T8 _ rfl (.tmp 65) (.tmp 66) 58 98 rfl Tryz.underlying58 uy (some ⟨b,off,none⟩) p.length cp (k+1) rfl rfl HJ.o ?_;intro A' af;obtain⟨ae,J,Z⟩:=TZ (HP.o.ext aj.o hS) HJ.o af;have aa:=Z_ J;have ax:=Z_ Z;clear af J Z)|(first|(at_builtin;refine VA _ rfl (.tmp 58) (.tmp 62) 58 rfl (w.heap.size+1) 98 (.agg #[.bool false,.slice none 0 0,.slice none 0 0]) 3 56 Tryz.underlying58 uy rfl (by decide) _ (k) xs rfl O.o #[.bool bs,.slice aq ns cs,.slice am m.length cm] rfl (Xn rfl rfl rfl) rfl (by have:=HS.o.1;omega) (by decide) K.o ?_;intro v2 w2 D hg aC;have al:=Z_ D;have au:=Z_ hg;have a3:=Z_ aC;have aj:=Z_ (VN I.o O.o hg);have ai:Hd (w.heap.size+1<=w2.heap.size):=Z_ (zT K.o hg.size);clear D hg aC)|(at_builtin;refine Wu _ rfl (.tmp 64) (.tmp 67) 58 rfl (w.heap.size+1) 98 i0 (.agg #[.bool false,.slice none 0 0,.slice none 0 0]) 3 56 Tryz.underlying58 hi a2 aR aS rfl (by decide) _ ((k)+1) (xs++(#[.bool bs,.slice aq ns cs,.slice am m.length cm]:Array Value).toList) rfl al.o A' (p.length-(k+1)) _ ae rfl aa.o (by have:=HS.o.1;unfold maxLen;omega) (by have:=HS.o.1;omega) ai.o ?_;intro v3 w3 D hg _;have av:=Z_ D;have U:=Z_ hg;clear D hg)));go_ret;have X:=VN aj.o al.o U.o
     have aN:z21 (ZG S w w3) w3 [.bool bs,.slice aq ns cs,.slice am m.length cm] [(c+t.1,m)]:=by
      have hd:=ug aB.o (uJ au.o (λ j hj=>⟨X_ hS I.o j hj.1,hj.2⟩)) (λ _ h=>h);have a9:=ug hd (uJ U.o (λ j hj=>⟨zU (X_ hS I.o j hj.1) au.o.size,RD hS I.o hj a3.o⟩)) (S':=ZG S w w3) (λ j hj=>Ue (zT au.o.size U.o.size) j hj.1);rw[az.o];exact z21.single (t:=(c+t.1,m)) a9 (HM.o.to (uM X hS) (λ _ h=>.inl h))
     refine⟨_,rfl,Us (w:=w) hS (ms:=[.bool bs,.slice aq ns cs,.slice am m.length cm]) (md:=[(c+t.1,m)]) aP.o X aN ax.o (uJ U.o (Uy hS al.o aj.o)) av.o (by rw[aF.o,Rf HZ.o]),X⟩
   ·go_wp2_with fail;refine(a5.o wr aA.o).mono ?_;rintro e wa ⟨rfl,ar⟩;have a6:=Z_ (HX.o.trans ar);have k1:=ar.cell g1;have k2:=ar.cell g2;have k3:=ar.cell g3;have bv:=Z_ (Zp HW.o ar);clear ar g1 g2 g3;go_wp2_with fail;refine(a5.o wa (HK.o.trans a6.o)).mono ?_;rintro e wz ⟨rfl,ay⟩;have aG:=Z_ (a6.o.trans ay);have HW:=Z_ (Zp bv.o ay);have ag:=Z_ (HK.o.trans aG.o);have aH:Hd (w.heap.size+1<=wz.heap.size):=Z_ (by have:=aG.o.size;rw[z00]at this;exact this);obtain⟨c0,c1,f0,f1⟩:=a0.o wz aG.o;have ah:=Z_ (Mz hS cb.o ag.o HW.o);have aF:=Z_ (Ew (c:=c) ba.o HT.o (by rw[bg.o];decide) (by rw[bg.o];decide));have HJ:Hd (k<=p.length):=Z_ hk;clear ay k1 k2 k3
    by_cases hz:c=0
    ·have CS:=Z_ (show Calls Tryz.prog 49 #[.agg #[.bool bc,.slice ac nc cc]] wz λ e w'=>e=.returned (.int .i64 0)/\Ext wz w' from by have h:=UG (S:=WD S w wz u7) _ (c) wz ⟨_,rfl,ah.o⟩;rw[<-az.o,show Zx (c)=0 by rw[hz];rfl]at h;exact h);have HZ:=Z_ hz;clear hz;go_wp2_with fail;refine CS.o.mono ?_;rintro e w1 ⟨rfl,z⟩;have I:=Z_ (ag.o.trans z);have O:=Z_ (Zp HW.o z);have K:Hd (w.heap.size+1<=w1.heap.size):=Z_ (zT aH.o z.size);have aB:=Z_ (Uq hS ag.o ah.o z);clear z;go_wp2_with (first|(refine T8 _ rfl (.tmp 65) (.tmp 66) 58 98 rfl Tryz.underlying58 uy (some ⟨b,off,none⟩) p.length cp (k) rfl rfl HJ.o ?_;intro A' af;obtain⟨ae,J,Z⟩:=TZ (HP.o.ext I.o hS) HJ.o af;have aa:=Z_ J;have ax:=Z_ Z;clear af J Z)|(at_builtin;refine Wu _ rfl (.tmp 64) (.tmp 67) 58 rfl (w.heap.size+1) 98 i0 (.agg #[.bool false,.slice none 0 0,.slice none 0 0]) 3 56 Tryz.underlying58 hi a2 aR aS rfl (by decide) _ ((k)) xs rfl O.o A' (p.length-(k)) _ ae rfl aa.o (by have:=HS.o.1;unfold maxLen;omega) (by have:=HS.o.1;omega) K.o ?_;intro v3 w3 D hg _;have av:=Z_ D;have U:=Z_ hg;clear D hg));go_ret;have X:=VN I.o O.o U.o;refine⟨_,rfl,Us (w:=w) hS (ms:=[]) (md:=[]) aP.o X rfl ax.o (uJ U.o (Uy hS O.o I.o)) (by simpa using av.o) (by rw[aF.o,P8 HZ.o]),X⟩
    ·have CS:=Z_ (show Calls Tryz.prog 49 #[.agg #[.bool bc,.slice ac nc cc]] wz λ e w'=>e=.returned (.int .i64 (Zx (c)))/\Ext wz w' from by rw[az.o];exact UG (S:=WD S w wz u7) _ (c) wz ⟨_,rfl,ah.o⟩);have b2:=P2 hz;have HZ:=Z_ hz;clear hz;go_wp2_with fail;refine CS.o.mono ?_;rintro e w1 ⟨rfl,z⟩;have I:=Z_ (ag.o.trans z);have O:=Z_ (Zp HW.o z);have K:Hd (w.heap.size+1<=w1.heap.size):=Z_ (zT aH.o z.size);have aB:=Z_ (Uq hS ag.o ah.o z);have k0:=z.cell c0;have k1:=z.cell c1;clear z;go_wp2_with (first|(refine T8 _ rfl (.tmp 65) (.tmp 66) 58 98 rfl Tryz.underlying58 uy (some ⟨b,off,none⟩) p.length cp (k) rfl rfl HJ.o ?_;intro A' af;obtain⟨ae,J,Z⟩:=TZ (HP.o.ext aj.o hS) HJ.o af;have aa:=Z_ J;have ax:=Z_ Z;clear af J Z)|(first|(at_builtin;refine VA _ rfl (.tmp 58) (.tmp 62) 58 rfl (w.heap.size+1) 98 (.agg #[.bool false,.slice none 0 0,.slice none 0 0]) 3 56 Tryz.underlying58 uy rfl (by decide) _ (k) xs rfl O.o #[.bool bc,.slice ac nc cc,.slice am m.length cm] rfl (Xn rfl rfl rfl) rfl (by have:=HS.o.1;omega) (by decide) K.o ?_;intro v2 w2 D hg aC;have al:=Z_ D;have au:=Z_ hg;have a3:=Z_ aC;have aj:=Z_ (VN I.o O.o hg);have ai:Hd (w.heap.size+1<=w2.heap.size):=Z_ (zT K.o hg.size);clear D hg aC)|(at_builtin;refine Wu _ rfl (.tmp 64) (.tmp 67) 58 rfl (w.heap.size+1) 98 i0 (.agg #[.bool false,.slice none 0 0,.slice none 0 0]) 3 56 Tryz.underlying58 hi a2 aR aS rfl (by decide) _ ((k)+1) (xs++(#[.bool bc,.slice ac nc cc,.slice am m.length cm]:Array Value).toList) rfl al.o A' (p.length-(k)) _ ae rfl aa.o (by have:=HS.o.1;unfold maxLen;omega) (by have:=HS.o.1;omega) ai.o ?_;intro v3 w3 D hg _;have av:=Z_ D;have U:=Z_ hg;clear D hg)));go_ret;have X:=VN aj.o al.o U.o
     have aN:z21 (ZG S w w3) w3 [.bool bc,.slice ac nc cc,.slice am m.length cm] [(c,m)]:=by
      have hd:=ug aB.o (uJ au.o (λ j hj=>⟨X_ hS I.o j hj.1,hj.2⟩)) (λ _ h=>h);have a9:=ug hd (uJ U.o (λ j hj=>⟨zU (X_ hS I.o j hj.1) au.o.size,RD hS I.o hj a3.o⟩)) (S':=ZG S w w3) (λ j hj=>Ue (zT au.o.size U.o.size) j hj.1);rw[az.o];exact z21.single (t:=(c,m)) a9 (HM.o.to (uM X hS) (λ _ h=>.inl h))
     refine⟨_,rfl,Us (w:=w) hS (ms:=[.bool bc,.slice ac nc cc,.slice am m.length cm]) (md:=[(c,m)]) aP.o X aN ax.o (uJ U.o (Uy hS al.o aj.o)) av.o (by rw[aF.o,Rf HZ.o]),X⟩
  ·obtain rfl:k=p.length:=by omega
   obtain⟨c0,c1,f0,f1⟩:=a0.o wr hx;have aF:=Z_ (Gg (c:=c) ba.o rfl);have HJ:Hd (p.length<=p.length):=Z_ (zR _);have ag:=Z_ (HK.o.trans hx);have aH:Hd (w.heap.size+1<=wr.heap.size):=Z_ (by have:=hx.size;rw[z00]at this;exact this);have ah:=Z_ (Mz hS cb.o ag.o HW.o);clear hx
   by_cases hz:c=0
   ·have CS:=Z_ (show Calls Tryz.prog 49 #[.agg #[.bool bc,.slice ac nc cc]] wr λ e w'=>e=.returned (.int .i64 0)/\Ext wr w' from by have h:=UG (S:=WD S w wr u7) _ (c) wr ⟨_,rfl,ah.o⟩;rw[<-az.o,show Zx (c)=0 by rw[hz];rfl]at h;exact h);have HZ:=Z_ hz;clear hz;go_wp2_with fail;refine CS.o.mono ?_;rintro e w1 ⟨rfl,z⟩;have I:=Z_ (ag.o.trans z);have O:=Z_ (Zp HW.o z);have K:Hd (w.heap.size+1<=w1.heap.size):=Z_ (zT aH.o z.size);have aB:=Z_ (Uq hS ag.o ah.o z);clear z;go_wp2_with (first|(refine T8 _ rfl (.tmp 65) (.tmp 66) 58 98 rfl Tryz.underlying58 uy ap p.length cp (p.length) rfl rfl HJ.o ?_;intro A' af;obtain⟨ae,J,Z⟩:=TZ (HP.o.ext I.o hS) HJ.o af;have aa:=Z_ J;have ax:=Z_ Z;clear af J Z)|(at_builtin;refine Wu _ rfl (.tmp 64) (.tmp 67) 58 rfl (w.heap.size+1) 98 i0 (.agg #[.bool false,.slice none 0 0,.slice none 0 0]) 3 56 Tryz.underlying58 hi a2 aR aS rfl (by decide) _ ((p.length)) xs rfl O.o A' (p.length-(p.length)) _ ae rfl aa.o (by have:=HS.o.1;unfold maxLen;omega) (by have:=HS.o.1;omega) K.o ?_;intro v3 w3 D hg _;have av:=Z_ D;have U:=Z_ hg;clear D hg));go_ret;have X:=VN I.o O.o U.o;refine⟨_,rfl,Us (w:=w) hS (ms:=[]) (md:=[]) aP.o X rfl ax.o (uJ U.o (Uy hS O.o I.o)) (by simpa using av.o) (by rw[aF.o,P8 HZ.o]),X⟩
   ·have CS:=Z_ (show Calls Tryz.prog 49 #[.agg #[.bool bc,.slice ac nc cc]] wr λ e w'=>e=.returned (.int .i64 (Zx (c)))/\Ext wr w' from by rw[az.o];exact UG (S:=WD S w wr u7) _ (c) wr ⟨_,rfl,ah.o⟩);have b2:=P2 hz;have HZ:=Z_ hz;clear hz;go_wp2_with fail;refine CS.o.mono ?_;rintro e w1 ⟨rfl,z⟩;have I:=Z_ (ag.o.trans z);have O:=Z_ (Zp HW.o z);have K:Hd (w.heap.size+1<=w1.heap.size):=Z_ (zT aH.o z.size);have aB:=Z_ (Uq hS ag.o ah.o z);have k0:=z.cell c0;have k1:=z.cell c1;clear z;go_wp2_with (first|(refine T8 _ rfl (.tmp 65) (.tmp 66) 58 98 rfl Tryz.underlying58 uy ap p.length cp (p.length) rfl rfl HJ.o ?_;intro A' af;obtain⟨ae,J,Z⟩:=TZ (HP.o.ext aj.o hS) HJ.o af;have aa:=Z_ J;have ax:=Z_ Z;clear af J Z)|(first|(at_builtin;refine VA _ rfl (.tmp 58) (.tmp 62) 58 rfl (w.heap.size+1) 98 (.agg #[.bool false,.slice none 0 0,.slice none 0 0]) 3 56 Tryz.underlying58 uy rfl (by decide) _ (p.length) xs rfl O.o #[.bool bc,.slice ac nc cc,.slice am m.length cm] rfl (Xn rfl rfl rfl) rfl (by have:=HS.o.1;omega) (by decide) K.o ?_;intro v2 w2 D hg aC;have al:=Z_ D;have au:=Z_ hg;have a3:=Z_ aC;have aj:=Z_ (VN I.o O.o hg);have ai:Hd (w.heap.size+1<=w2.heap.size):=Z_ (zT K.o hg.size);clear D hg aC)|(at_builtin;refine Wu _ rfl (.tmp 64) (.tmp 67) 58 rfl (w.heap.size+1) 98 i0 (.agg #[.bool false,.slice none 0 0,.slice none 0 0]) 3 56 Tryz.underlying58 hi a2 aR aS rfl (by decide) _ ((p.length)+1) (xs++(#[.bool bc,.slice ac nc cc,.slice am m.length cm]:Array Value).toList) rfl al.o A' (p.length-(p.length)) _ ae rfl aa.o (by have:=HS.o.1;unfold maxLen;omega) (by have:=HS.o.1;omega) ai.o ?_;intro v3 w3 D hg _;have av:=Z_ D;have U:=Z_ hg;clear D hg)));go_ret;have X:=VN aj.o al.o U.o
    have aN:z21 (ZG S w w3) w3 [.bool bc,.slice ac nc cc,.slice am m.length cm] [(c,m)]:=by
     have hd:=ug aB.o (uJ au.o (λ j hj=>⟨X_ hS I.o j hj.1,hj.2⟩)) (λ _ h=>h);have a9:=ug hd (uJ U.o (λ j hj=>⟨zU (X_ hS I.o j hj.1) au.o.size,RD hS I.o hj a3.o⟩)) (S':=ZG S w w3) (λ j hj=>Ue (zT au.o.size U.o.size) j hj.1);rw[az.o];exact z21.single (t:=(c,m)) a9 (HM.o.to (uM X hS) (λ _ h=>.inl h))
    refine⟨_,rfl,Us (w:=w) hS (ms:=[.bool bc,.slice ac nc cc,.slice am m.length cm]) (md:=[(c,m)]) aP.o X aN ax.o (uJ U.o (Uy hS al.o aj.o)) av.o (by rw[aF.o,Rf HZ.o]),X⟩
end
section
open Go.RowKit
theorem Jt(w:World)(lo hi:Nat)(T:TypeId)(h1:lo<Z9)(h2:hi<Z9):U32s (Z2 (w.alloc (.cells #[.int .u32 lo,.int .u32 hi] T))) (w.alloc (.cells #[.int .u32 lo,.int .u32 hi] T)) (.slice (some ⟨w.heap.size,0,none⟩) 2 2) [lo,hi]:=by
 refine⟨w.heap.size,0,⟨_,2,rfl,zR _,by decide,λ _=>rfl,λ _=>by show w.heap.size<(w.alloc _).heap.size;rw[z00];omega⟩,λ j z hj=>?_⟩;have y:=Zy hj;simp only[zM,zo]at y
 match j,hj with
 |0,hj=>
  obtain rfl:lo=z:=by simpa using hj
  exact⟨h1,ZJ _ _ _ rfl rfl⟩
 |1,hj=>
  obtain rfl:hi=z:=by simpa using hj
  exact⟨h2,ZJ _ _ _ rfl rfl⟩
 |j+2,_=>omega
theorem Qc(x:Nat)(w:World)(hx:x<18446744073709551616) :
  Calls Tryz.prog 65 #[.int .u64 (x:Nat)] w λ e w'=>∃v',e=.returned v'/\U32s (New w w') w' v' (Z4 Z9 x)/\Ext w w':=by
 obtain⟨lo,X⟩:∃lo,lo=x % 4294967296:=⟨_,rfl⟩
 obtain⟨hi,J⟩:∃hi,hi=x / 4294967296:=⟨_,rfl⟩
 have q1:(x:Int) % 4294967296=(lo:Int):=by omega
 have q2:(x:Int) / 4294967296=(hi:Int):=by omega
 have U:lo<4294967296:=by omega
 have I:hi<4294967296:=by omega
 have q3:(hi:Int) % 4294967296=(hi:Int):=by omega
 have hv:val Z9 [lo,hi]=x:=by
  show lo+4294967296*(hi+4294967296*0)=x;omega
 have Z:=Z_ (XY _ [lo,hi] _ (Jt w lo hi 75 U I) (λ _ h=>h) (by simp));rw[hv]at Z;have y:=Z_ (uO (uP w) (.cells #[.int .u32 lo,.int .u32 hi] 75));clear hv X J
 go_enter Tryz.func65,Tryz.ntmps65
 go_wp2_with fail;with_reducible refine Z.o.mono ?_;rintro e w1 ⟨v1,rfl,z,D⟩;have K:=Z_ (z.to (S':=New w w1) (uN _ _) (λ k h=>⟨zT y.o.size h.1,h.2⟩));have O:=Z_ (y.o.trans D);clear z D;go_wp2
 all_goals
  go_ret;exact⟨_,rfl,K.o,O.o⟩
end
section
open Go.RowKit
def RP(A B:Nat)(w:World):Ending->World->Prop:=λ e w'=>
 ∃vq vr,e=.returned (.tuple #[vq,vr,.int .i64 0])/\U32s (New w w') w' vq (Z4 Z9 (A / B))/\U32s (New w w') w' vr (Z4 Z9 (A % B))/\Ext w w'
theorem DK{S:Nat->Prop}(va vb:Value)(xs ys:List Nat)(w:World)(ha:U32s S w va xs)(hb:U32s S w vb ys)(hS:∀k,S k->k<w.heap.size)(hr:xs.length<=100000000000)(hr2:ys.length<=100000000000)(hlt:val Z9 xs<val Z9 ys) :
  Calls Tryz.prog 110 #[va,vb] w (RP (val Z9 xs) (val Z9 ys) w):=by
 have HA:=Z_ ha;have HB:=Z_ hb;have z:=Z_ hlt;clear ha hb hlt
 go_enter Tryz.func110,Tryz.ntmps110
 go_wp2_with fail;refine(XY _ xs _ HA.o hS (by omega)).mono ?_;rintro e w1 ⟨v1,rfl,U,Z⟩;have O:=Z_ U;have I:=Z_ Z;clear U Z;go_wp2_with fail;refine(XY _ ys w1 (HB.o.ext I.o hS) (λ k hk=>zU (hS k hk) I.o.size) (by omega)).mono ?_;rintro e w2 ⟨v2,rfl,J,y⟩;have ad:=Z_ (I.o.trans y);have ac:=Z_ (O.o.to (S':=Z2 w2) (uM y (λ _ h=>h.2)) (λ k h=>zU h.2 y.size));have aa:=Z_ (O.o.to (S':=New w w2) (uM y (λ _ h=>h.2)) (λ k h=>⟨h.1,zU h.2 y.size⟩));have ae:=Z_ (J.to (S':=Z2 w2) (uN _ _) (λ k h=>h.2));obtain⟨a2,c2,rfl⟩:=J.form;clear J y
 have hl0:(((Z4 Z9 (val Z9 ys)).length:Int) == 0)=false:=by
  have h1:Z4 Z9 (val Z9 ys)≠[]:=by
   rw[Ne,WG ZU];have:=z.o;omega
  have h2:=yF.2 h1;rw[beq_eq_false_iff_ne];omega
 have CC:=Z_ (Tr _ _ _ _ w2 ac.o ae.o (λ _ h=>h))
 have K:ZC (val Z9 (Z4 Z9 (val Z9 xs))) (val Z9 (Z4 Z9 (val Z9 ys))) = -1:=by
  rw[ZB ZU,ZB ZU];unfold ZC cmpI;have:=z.o;rw[if_pos (by omega)]
 rw[K]at CC;go_wp2_with fail;refine CC.o.mono ?_;rintro e w3 ⟨rfl,X⟩;have D:=Z_ X;clear X;go_wp2
 all_goals
  go_ret3
  refine⟨_,_,rfl,?_,?_,ad.o.trans D.o⟩
  ·rw[yb z.o];exact ul _ _ _ _ (by omega)
  ·rw[yB z.o];exact aa.o.to (uM D.o (λ _ h=>h.2)) (λ k h=>⟨h.1,zU h.2 D.o.size⟩)
theorem BL{S:Nat->Prop}(va vb:Value)(xs ys:List Nat)(w:World)(ha:U32s S w va xs)(hb:U32s S w vb ys)(hS:∀k,S k->k<w.heap.size)(hr:xs.length<=100000000000)(hr2:ys.length<=100000000000)(hge:val Z9 ys<=val Z9 xs)(h1:(Z4 Z9 (val Z9 ys)).length=1) :
  Calls Tryz.prog 110 #[va,vb] w (RP (val Z9 xs) (val Z9 ys) w):=by
 have HA:=Z_ ha;have HB:=Z_ hb;have ay:=Z_ hge;have aq:Hd ((Z4 Z9 (val Z9 xs)).length<=xs.length):=Z_ (YZ ZU _ _ (Y4 xs ha.lt))
 obtain⟨d,hd⟩:∃d,Z4 Z9 (val Z9 ys)=[d]:=by
  match h:Z4 Z9 (val Z9 ys),h1 with
  | [d],_=>exact⟨d,rfl⟩
 have U:d<Z9:=XX ZU (val Z9 ys) d (by rw[hd];exact zQ.2 rfl)
 have hv:val Z9 ys=d:=by
  have h2:=ZB ZU (val Z9 ys);rw[hd]at h2;rw[<-h2];simp[val]
 have O:0<d:=by
  rcases zj d with h|h
  ·rw[hv,h]at hd;simp[z3v]at hd
  ·exact h
 obtain⟨r,K⟩:∃r,r=val Z9 xs % d:=⟨_,rfl⟩
 have Z:r<18446744073709551616:=by rw[K];exact yD (yD (yS _ O) U) (by decide)
 have hd64:IntKind.u64.wrap (r:Int)=(r:Int):=Yg Z;have al:=Z_ Z;have aa:=Z_ K;have HD:=Z_ (zS hd (zS U (zS hv O)));clear ha hb hge h1 hd U hv O K Z
 go_enter Tryz.func110,Tryz.ntmps110
 go_wp2_with fail;refine(XY _ xs _ HA.o hS (by omega)).mono ?_;rintro e w1 ⟨v1,rfl,ah,aj⟩;have ap:=Z_ ah;have X:=Z_ aj;clear ah aj;go_wp2_with fail;refine(XY _ ys w1 (HB.o.ext X.o hS) (λ k hk=>zU (hS k hk) X.o.size) (by omega)).mono ?_;rintro e w2 ⟨v2,rfl,D,J⟩;rw[HD.o.1]at D;have az:=Z_ (X.o.trans J);have ac:=Z_ (ap.o.to (S':=Z2 w2) (uM J (λ _ h=>h.2)) (λ k h=>zU h.2 J.size));have aA:=Z_ (D.to (S':=Z2 w2) (uN _ _) (λ k h=>h.2));obtain⟨a2,c2,rfl⟩:=D.form;obtain⟨b2,o2,rfl,-,hn2,hm2,ai,hb2,y⟩:=D.cellAt (k:=0) (z:=d) rfl;rw[zp]at y;have HS2:=Z_ ai.2;clear D J ai;have CC:=Z_ (Tr _ _ _ _ w2 ac.o aA.o (λ _ h=>h));obtain⟨c,hc⟩:∃c,c=ZC (val Z9 (Z4 Z9 (val Z9 xs))) (val Z9 [d]):=⟨_,rfl⟩
 have hcmp:0<=c:=by
  have e:val Z9 [d]=d:=by simp[val]
  rw[hc,ZB ZU,e,<-HD.o.2.2.1];unfold ZC cmpI;have:=ay.o
  split
  ·omega
  ·split<;>omega
 rw[<-hc]at CC;clear hc;go_wp2_with fail;refine CC.o.mono ?_;rintro e w3 ⟨rfl,I⟩;have hcell3:=I.cell y;have av:=Z_ (az.o.trans I);have ar:=Z_ (ac.o.to (S':=Z2 w3) (uM I (λ _ h=>h)) (λ k h=>zU h I.size));have CL:=Z_ (FX _ _ d w3 ar.o (λ _ h=>h) (by have:=aq.o;omega) HD.o.2.2.2 HD.o.2.1);rw[ZB ZU,<-aa.o]at CL;clear I y;go_wp2_with fail;refine CL.o.mono ?_;rintro e w4 ⟨v4,rfl,ae,af⟩;have aB:=Z_ ae;have au:=Z_ af;clear ae af;have CS:=Z_ (Qc r w4 al.o);go_wp2_with fail;refine CS.o.mono ?_;rintro e w5 ⟨v5,rfl,ad,ag⟩;have ax:=Z_ ad;have aC:=Z_ ag;clear ad ag;go_wp2
 all_goals
  go_ret3
  have x3:=av.o;have x4:=au.o;have x5:=aC.o
  refine⟨_,_,rfl,?_,?_,(x3.trans x4).trans x5⟩
  ·rw[HD.o.2.2.1];exact aB.o.to (uM x5 (λ _ h=>h.2)) (λ k h=>⟨zT x3.size h.1,zU h.2 x5.size⟩)
  ·rw[HD.o.2.2.1,<-aa.o];exact ax.o.to (uN _ _) (λ k h=>⟨zT (zT x3.size x4.size) h.1,h.2⟩)
end
section
open Go.RowKit
theorem KJ{S:Nat->Prop}(va vb:Value)(xs ys:List Nat)(w:World)(ha:U32s S w va xs)(hb:U32s S w vb ys)(hS:∀k,S k->k<w.heap.size)(hr:xs.length<=100000000000)(hr2:ys.length<=100000000000)(hge:val Z9 ys<=val Z9 xs)(m:Nat)(h2:(Z4 Z9 (val Z9 ys)).length=m+2) :
  Calls Tryz.prog 110 #[va,vb] w (RP (val Z9 xs) (val Z9 ys) w):=by
 have HA:=Z_ ha;have HB:=Z_ hb;have ca:Hd ((Z4 Z9 (val Z9 xs)).length<=xs.length):=Z_ (YZ ZU _ _ (Y4 xs ha.lt));have cB:Hd ((Z4 Z9 (val Z9 ys)).length<=ys.length):=Z_ (YZ ZU _ _ (Y4 ys hb.lt));have aS:Hd ((Z4 Z9 (val Z9 ys)).length<=(Z4 Z9 (val Z9 xs)).length):=Z_ (Yp hge);obtain⟨A,hA⟩:∃A,A=val Z9 xs:=⟨_,rfl⟩
 obtain⟨D,hD⟩:∃D,D=val Z9 ys:=⟨_,rfl⟩
 rw[<-hA]at hge ca aS⊢;rw[<-hD]at hge h2 cB aS⊢;have ei:=Z_ hA;have e4:=Z_ hD;have d9:=Z_ hge;obtain⟨La,a3⟩:∃La,La=(Z4 Z9 A).length:=⟨_,rfl⟩
 rw[<-a3,h2]at aS;rw[<-a3]at ca;rw[h2]at cB;have c4:m+2<=La:=aS.o;have hla2:La<=100000000000:=zT ca.o hr;have al:=Z_ a3;have ac:=Z_ h2
 have d2:0<D:=by
  rcases zj D with h|h
  ·rw[h,z3v]at h2
   cases h2
  ·exact h
 have ds:=Z_ d2;clear ha hb hge a3 h2 d2 hA hD
 go_enter Tryz.func110,Tryz.ntmps110
 go_wp2_with fail;refine(XY _ xs _ HA.o hS (by omega)).mono ?_;rintro e w1 ⟨v1,rfl,cl,dm⟩;rw[<-ei.o]at cl;have cu:=Z_ cl;have bN:=Z_ dm;clear cl dm;go_wp2_with fail;refine(XY _ ys w1 (HB.o.ext bN.o hS) (λ k y=>zU (hS k y) bN.o.size) (by omega)).mono ?_;rintro e w2 ⟨v2,rfl,ba,aR⟩;rw[<-e4.o]at ba;have eg:=Z_ (bN.o.trans aR);have a9:=Z_ (cu.o.to (S':=Z2 w2) (uM aR (λ _ h=>h.2)) (λ k h=>zU h.2 aR.size));have cn:=Z_ (ba.to (S':=Z2 w2) (uN _ _) (λ k h=>h.2));obtain⟨a2,c2,rfl⟩:=ba.form;rw[ac.o]at cn⊢;obtain⟨a1,c1,rfl⟩:=a9.o.form;rw[<-al.o]at a9⊢;clear ba aR cu;have CC:=Z_ (Tr _ _ _ _ w2 a9.o cn.o (λ _ h=>h));obtain⟨c,hc⟩:∃c,c=ZC (val Z9 (Z4 Z9 A)) (val Z9 (Z4 Z9 D)):=⟨_,rfl⟩
 have hcmp:0<=c:=by
  rw[hc,ZB ZU,ZB ZU];unfold ZC cmpI;have:=d9.o
  split
  ·omega
  ·split<;>omega
 rw[<-hc]at CC;clear hc;go_wp2_with fail;refine CC.o.mono ?_;rintro e w3 ⟨rfl,au⟩;have d6:=Z_ (eg.o.trans au);have ez:=Z_ (a9.o.to (S':=Z2 w3) (uM au (λ _ h=>h)) (λ k h=>zU h au.size));have cR:=Z_ (cn.o.to (S':=Z2 w3) (uM au (λ _ h=>h)) (λ k h=>zU h au.size));have CB:=Z_ (KC _ _ w3 cR.o (by rw[ac.o];omega) (by rw[ZB ZU];exact ds.o));rw[ZB ZU]at CB;clear au;go_wp2_with fail;refine CB.o.mono ?_;rintro e w3' ⟨m',k,rfl,hm',e5,e1,cp,cQ,rfl⟩;obtain rfl:m'=m+1:=by have:=ac.o;omega
 obtain⟨s,hs⟩:∃s,s=32-k:=⟨_,rfl⟩
 have HN:=Z_ (Ex ac.o e5 e1 cp cQ);rw[<-hs,show m+1+1=m+2 from rfl]at HN;have ax:s<32:=by omega
 have hsh:32*((m:Int)+2)-(32*((m:Int)+1)+(k:Int))=(s:Int):=by omega
 clear cp cQ hs;have CV:=Z_ (Lj _ _ s w3 cR.o (λ _ h=>h) (by rw[ac.o];omega) ax);rw[ZB ZU,ac.o,HN.o.1]at CV;go_wp2_with fail;refine CV.o.mono ?_;rintro e w4 ⟨gv,rfl,bA,bv,aq,a0⟩;have em:=Z_ (d6.o.trans a0);have aa:=Z_ (zS bA bv);have d5:=Z_ aq;have ec:=Z_ (ez.o.to (S':=Z2 w4) (uM a0 (λ _ h=>h)) (λ k h=>zU h a0.size));clear a0 bA bv aq;have CU:=Z_ (Lj _ _ s w4 ec.o (λ _ h=>h) (by rw[<-al.o];omega) ax);rw[ZB ZU,<-al.o]at CU;go_wp2_with fail;refine CU.o.mono ?_;rintro e w5 ⟨gu,rfl,bl,bf,d3,c9⟩;obtain⟨lu,av⟩:∃lu,lu=(Z4 Z9 (A*2^s)).length:=⟨_,rfl⟩
 rw[<-av]
 have c7:lu<=La+1:=by
  rw[av];refine YZ ZU _ _ ?_
  have U:A<Z9^La:=by
   have h2:=Y4 (Z4 Z9 A) (XX ZU A)
   rwa [ZB ZU,<-al.o]at h2
  have h3:2^s<=Z9:=show 2^s<=2^32 from zA (by decide) (by omega)
  rw[yY];exact zU (xI U (yK (by decide))) (yV _ h3)
 have hlu2:La<=lu:=by
  rw[av,al.o];exact Yp (y9 _ (yK (by decide)))
 have cz:=Z_ av;have e7:=Z_ d3;have K:=Z_ (zS bl bf);have er:=Z_ c9;clear av d3 bl bf c9;go_wp2
 go_loopw [13] (λ s13 wr=>∃l:Nat,s13=.slice (some ⟨gu,0,none⟩) l (La+1)/\lu<=l/\l<=La+1/\wr.rowIs gu 75 (La+1) (rowU (Z4 Z9 (A*2^s)))/\Ext w4 wr) (λ s13 _=>La+1-(Yr s13))
 case atStart=>exact⟨lu,rfl,zR _,c7,e7.o,er.o⟩
 case round=>
  obtain⟨l,rfl,el,hl2,O,hx⟩:=hrel;have HR:=Z_ O;have HX:=Z_ hx;clear O hx
  by_cases eP:l<=La
  ·have a4:=HR.o.alloc (.cells #[.int .u32 0] 75);have hfz:=a4.frozen l;have hfc:=a4.cell (i:=l) (by omega);have eu:=Z_ a4;clear a4;go_wp2
   refine⟨⟨l+1,rfl,by omega,by omega,?_,?_⟩,by simp only[Yr];omega⟩
   ·refine(eu.o.set l (.int .u32 0)).congr (λ i hi=>?_)
    by_cases e:i=l
    ·rw[if_pos e,e];unfold rowU;rw[Yv (by rw[<-cz.o];exact el)];rfl
    ·rw[if_neg e]
   ·exact(uO HX.o _).setCell K.o.1 _
  ·obtain rfl:l=La+1:=by omega
   obtain⟨I,eo⟩:∃I,I=La+1-(m+2):=⟨_,rfl⟩
   have hnq2:(La:Int)+1-((m:Int)+2)=(I:Int):=by omega
   have hnq3:I+(m+2)=La+1:=by omega
   have ep:=run_make_row' (P:=Tryz.prog) 26 75 (.int .u32 0) 4 Tryz.underlying26 uC rfl .i64 .i64 I (by omega) (by omega) wr;have co:=Z_ (Tc wr I 75);have ci:=Z_ (uO HX.o (.cells (madeCells #[.int .u32 0] I) 75));have c0:=Z_ (HR.o.alloc (.cells (madeCells #[.int .u32 0] I) 75));have ad:=Z_ HR.o.lt;have cg:=Z_ HX.o.size;have cc:=Z_ (World.rowIs.of_block d5.o (ci.o.block gv aa.o.2));obtain⟨gq,cd⟩:∃gq,gq=wr.heap.size:=⟨_,rfl⟩
   obtain⟨w6,ce⟩:∃w6,w6=wr.alloc (.cells (madeCells #[.int .u32 0] I) 75):=⟨_,rfl⟩
   rw[<-ce,<-cd]at ep co;rw[<-ce]at ci c0 cc;rw[<-cd]at ad cg;clear eo cd ce;go_wp2;obtain⟨V,hV⟩:∃V,V=D*2^s:=⟨_,rfl⟩
   obtain⟨vs,a5⟩:∃vs,vs=Z4 Z9 V:=⟨_,rfl⟩
   have cF:val Z9 vs=V:=by rw[a5,ZB ZU]
   have dp:∀z∈vs,z<Z9:=by rw[a5];exact XX ZU V
   rw[<-hV,<-a5]at HN cc;have af:=Z_ (zS cF dp);have a8:=Z_ hV;clear hV a5 cF dp
   go_loopw [87] (λ s87 wq=>∃(i:Nat) (o qs:List Nat),s87=.int .i64 (i:Nat)/\i<=I/\Hd (o.length=La+1/\(∀z∈o,z<Z9)/\qs.length=I/\(∀z∈qs,z<Z9)/\NDivAt Z9 (A*2^s) V (m+2) o qs (I-i)) /\
    wq.rowIs gu 75 (La+1) (rowU o)/\wq.rowIs gq 75 I (rowU qs)/\wq.rowIs gv 75 (m+2+1) (rowU vs)/\Ext w4 wq) (λ s87 _=>I-(intOf s87).toNat)
   case atStart=>
    obtain⟨ro,b3⟩:∃ro,ro=Z4 Z9 (A*2^s):=⟨_,rfl⟩
    obtain⟨o,ho⟩:∃o,o=ro++List.replicate (La+1-lu) 0:=⟨_,rfl⟩
    have aP:ro.length=lu:=by rw[b3];exact cz.o.symm
    have d4:o.length=La+1:=by rw[ho,zI,xQ,aP];omega
    have b7:∀z∈o,z<Z9:=by
     intro z hz;rw[ho]at hz
     rcases zC.1 hz with h|h
     ·rw[b3]at h;exact XX ZU _ z h
     ·rw[(wZ.1 h).2];decide
    have cy:val Z9 o=A*2^s:=by rw[ho,z43,z6q,yw,zp,b3,ZB ZU]
    refine⟨0,o,List.replicate I 0,rfl,zL _,Z_ ⟨d4,b7,by simp,λ z hz=>by rw[(wZ.1 hz).2];decide,?_⟩,?_,co.o,cc.o,ci.o⟩
    ·have U:=EN (A:=A) (V:=V) (n:=m+2) (La:=La) (s:=s) (Bv:=D) (lu:=0) (qs:=List.replicate I 0) b7 d4 cy al.o.symm (by omega) c4 a8.o ac.o (by simp;omega) rfl
     rwa [show La+1-(m+2)=I by omega]at U
    ·rw[RL (Lo b7 _ cy)];exact c0.o
   case round=>
    obtain⟨i,o,qs,rfl,hi,HI,O,b6,aq,hx⟩:=hrel;have ap:=Z_ O;have aG:=Z_ b6;have ay:=Z_ aq;have dF:=Z_ hx
    by_cases eP:i<I
    ·obtain⟨j,hj⟩:∃j,j+1=I-i:=⟨I-i-1,by omega⟩
     have hj2:(I:Int)-1-(i:Int)=(j:Int):=by omega
     obtain⟨p,hp⟩:∃p,p=j+(m+2)+1:=⟨_,rfl⟩
     have hj3:(j:Int)+((m:Int)+2)+1=(p:Int):=by omega
     have hj4:p<=La+1:=by omega
     have hj5:j<=p:=by omega
     have hj6:p-j=m+2+1:=by omega
     have HP:=Z_ hp;clear hp;have HJ:=Z_ hj;clear O b6 aq hx;have HO:=Z_ (zS HI.o.1 HI.o.2.1);have aC:j+(m+2)<o.length:=by rw[HO.o.1];omega
     have ae:=Z_ aC;have aH:La+1<=9223372036854775807:=by omega
     have aB:NDivAt Z9 (A*2^s) V (m+2) o qs (j+1):=by rw[hj];exact HI.o.2.2.2.2
     have df:=Z_ aB;have ed:=Z_ (Cp ap.o HO.o.2 aC (by rw[HO.o.1];omega) aH)
     have cq:Hd (U32s (λ j=>j=gv) wr (.slice (some ⟨gv,0,none⟩) (m+2) (m+2+1)) vs):=Z_ (by
      have U:=uA ay.o (by rw[HN.o.1];omega) af.o.2 (by omega)
      rwa [HN.o.1]at U)
     have CG:=Z_ (Ev (S:=Z2 wr) _ _ _ _ m wr (ed.o.to (uN _ _) (λ k y=>by rw[y];exact ap.o.lt)) (cq.o.to (uN _ _) (λ k y=>by rw[y];exact ay.o.lt)) (λ _ h=>h) (Wb aC) HN.o.1 HN.o.2
      (E8 HO.o.2 af.o.2 aC HN.o.1 af.o.1 aB.low))
     clear aC aB hj;go_wp2_with fail;refine CG.o.mono ?_;rintro e w7 ⟨q,r,rfl,J,cb,c6,c5,bu⟩;have cj:=Z_ J;have ct:=Z_ (ap.o.of_block (J.block gu ap.o.lt));have bs:=Z_ (aG.o.of_block (J.block gq aG.o.lt));have aj:=Z_ (ay.o.of_block (J.block gv ay.o.lt));have bt:=Z_ (cq.o.to (uM J (λ k y=>by rw[y];exact ay.o.lt)) (λ k h=>h));have b1:=Z_ (zS c6 (zS c5 bu));have a6:=Z_ cb;have CO:=Z_ (JY (S:=λ j=>j=gv) (w:=w7) (g:=gu) (k:=j) (n:=m+2) (cap:=La+1) (q:=q) (o:=o) (vs:=vs) _ ct.o (by rw[HO.o.1];omega) HO.o.2 ae.o bt.o (λ k y=>⟨by rw[y];exact aj.o.lt,by rw[y];have:=aa.o.2;have:=K.o.1;omega⟩) HN.o.1 cb aH);clear J cb c6 c5 bu CG;go_wp2_with fail;refine CO.o.mono ?_;rintro e w8 ⟨ps,b,rfl,eq,bB,b2,ch,bm,Z,bn⟩;have ar:=Z_ (zS bB (zS b2 ch));have bx:=Z_ bm;have cP:=Z_ (zS Z bn);have X:=Z_ (bs.o.of_block (Z.block gq bs.o.lt (λ e=>by have:=ad.o;cases e;omega)));have ai:=Z_ (aj.o.of_block (Z.block gv aj.o.lt (λ e=>by have:=aa.o.2;have:=K.o.1;cases e;omega)));have bb:=Z_ (YU (dF.o.trans cj.o) Z (λ k y=>by cases y;exact K.o.1));have HK:=Z_ (Id HO.o.2 af.o.2 ae.o (by rw[HI.o.2.2.1];omega) HN.o.1 af.o.1 HN.o.2 df.o b1.o.1 a6.o b1.o.2.1 b1.o.2.2 eq bB b2 ch);clear bB b2 ch bm Z bn CO
     rcases(show b=0∨b=1 by omega) with rfl|rfl
     ·have eB:decide ((0:Nat)=1)=false:=rfl;have cr:(q:Int) % 4294967296=(q:Int):=by have U:q<4294967296:=a6.o;omega
      have d8:=X.o.cell (i:=j) (by omega);have en:=X.o.frozen j;go_wp2
      refine⟨⟨i+1,ZF o j ps,qs.set j q,rfl,by omega,Z_ ⟨?_,Q6 HO.o.2 ar.o.2.1 j,by rw[yy];exact HI.o.2.2.1,Qb HI.o.2.2.2.1 a6.o,?_⟩,?_,?_,?_,?_⟩,?_⟩
      ·rw[Sq (by rw[ar.o.1];have:=ae.o;omega)];exact HO.o.1
      ·rw[show I-(i+1)=j by omega];exact HK.o.1 (by first|rfl|trivial)
      ·exact bx.o.setOther (by have:=ad.o;show gu≠gq;omega) _
      ·exact Vq X.o j q (by rw[HI.o.2.2.1];omega)
      ·exact ai.o.setOther (by have U:=ad.o;have h2:=aa.o.2;have h3:=K.o.1;show gv≠gq;omega) _
      ·exact bb.o.setCell cg.o _
      ·simp only[intOf];omega
     ·obtain⟨hq0,y⟩:=HK.o.2 rfl;have eh:=Z_ y;obtain⟨q',d1⟩:∃q',q'=q-1:=⟨_,rfl⟩
      have hq1:(q:Int)-1=(q':Int):=by omega
      have ag:q'<Z9:=by have:=a6.o;omega
      have hq64:IntKind.u64.wrap (q':Int)=(q':Int):=Yg (yD ag (by decide));have cr:(q':Int) % 4294967296=(q':Int):=by have U:q'<4294967296:=ag;omega
      have dz:=Z_ ag;have d7:=Z_ d1;have eB:decide ((1:Nat)=1)=true:=rfl;clear ag y d1;have bg:(ZF o j ps).length=La+1:=by rw[Sq (by rw[ar.o.1];have:=ae.o;omega)];exact HO.o.1
      have c8:=Z_ (bt.o.to (S':=λ k=>k=gv) (show Kept (λ k=>k=gv) w7 w8 from λ k y=>by rw[y];exact cP.o.1.block gv aj.o.lt (λ e=>by have:=aa.o.2;have:=K.o.1;cases e;omega)) (λ k h=>h));have CN:=Z_ (Ar (S:=λ j=>j=gv) (w:=w8) (g:=gu) (k:=j) (n:=m+2) (cap:=La+1) (o:=ZF o j ps) (vs:=vs) (.slice (some ⟨gv,0,none⟩) (m+2) (m+2+1)) bx.o (by omega) (Q6 HO.o.2 ar.o.2.1 j) (by omega) c8.o (λ k y=>⟨by rw[y];exact ai.o.lt,by rw[y];have:=aa.o.2;have:=K.o.1;omega⟩) HN.o.1 aH);have HOL8:=Z_ bg;clear bg;go_wp2_with fail;refine CN.o.mono ?_;rintro e w9 ⟨rs,rfl,aP,d0,aA,aN,ah,dG⟩;rw[FB ae.o ar.o.1]at aA;rw[Kx ae.o ar.o.1 aP]at aN;have a7:=Z_ (zS aP (zS d0 aA));have cv:=Z_ aN;have aF:=Z_ (X.o.of_block (ah.block gq X.o.lt (λ e=>by have:=ad.o;cases e;omega)));have db:=Z_ (ai.o.of_block (ah.block gv ai.o.lt (λ e=>by have:=aa.o.2;have:=K.o.1;cases e;omega)));have e3:=Z_ (YU bb.o ah (λ k y=>by cases y;exact K.o.1));have d8:=aF.o.cell (i:=j) (by omega);have en:=aF.o.frozen j;clear aP d0 aA aN ah dG CN;go_wp2
      refine⟨⟨i+1,ZF o j rs,qs.set j q',rfl,by omega,Z_ ⟨?_,Q6 HO.o.2 a7.o.2.1 j,by rw[yy];exact HI.o.2.2.1,Qb HI.o.2.2.2.1 dz.o,?_⟩,?_,?_,?_,?_⟩,?_⟩
      ·rw[Sq (by rw[a7.o.1];have:=ae.o;omega)];exact HO.o.1
      ·rw[show I-(i+1)=j by omega,d7.o];exact eh.o rs a7.o.1 a7.o.2.2
      ·exact cv.o.setOther (by have:=ad.o;show gu≠gq;omega) _
      ·exact Vq aF.o j q' (by rw[HI.o.2.2.1];omega)
      ·exact db.o.setOther (by have U:=ad.o;have h2:=aa.o.2;have h3:=K.o.1;show gv≠gq;omega) _
      ·exact e3.o.setCell cg.o _
      ·simp only[intOf];omega
    ·obtain rfl:i=I:=by omega
     clear O b6 aq hx;obtain⟨I1,I2,I3,I4,I5⟩:=HI.o;rw[xZ]at I5;have b4:0<V:=by rw[a8.o];exact vG ds.o (yK (by decide))
     obtain⟨dq,dr⟩:=Gh b4 I5;have cm:=Fc (a:=A) (b:=D) (c:=2^s) (yK (by decide));have hq:val Z9 qs=A / D:=by rw[dq,a8.o];exact cm.1
     have az:val Z9 (o.take (m+2)) / 2^s=A % D:=by
      have U:=Xv (B:=Z9) o (m+2);rw[I1,show min (m+2) (La+1)=m+2 by omega]at U;have hVB:V<Z9^(m+2):=by rw[<-af.o.1,<-HN.o.1];exact Y4 vs af.o.2
      have h2:val Z9 o<V:=by rw[dr];exact yS _ b4
      have h3:val Z9 (o.drop (m+2))=0:=by
       rcases zj (val Z9 (o.drop (m+2))) with h|h
       ·exact h
       ·have:=y9 (Z9^(m+2)) h;omega
      rw[h3,yw,zp]at U;rw[<-U,dr,a8.o,cm.2,Nat.mul_div_cancel _ (yK (by decide))]
     have cx:U32s (Z2 wr) wr (.slice (some ⟨gu,0,none⟩) (m+2) (La+1)) (o.take (m+2)):=by
      have U:=uA ap.o (by omega) I2 (by omega);rw[I1]at U;exact(U.take (by omega)).to (uN _ _) (λ k y=>by rw[y];exact ap.o.lt)
     have dt:U32s (λ k=>k=gq) wr (.slice (some ⟨gq,0,none⟩) i i) qs:=by
      have U:=uA aG.o (by omega) I4 (by omega)
      rwa [I3]at U
     have CR:=Z_ (Ic _ _ s wr cx (λ _ h=>h) (by rw[zD];omega) ax);rw[az]at CR;have e2:=Z_ dt;have eR:=Z_ I3;have e6:=Z_ hq;clear I1 I2 I3 I4 I5 b4 dq dr cm hq az cx dt;go_wp2_with fail;refine CR.o.mono ?_;rintro e w7 ⟨v7,rfl,cG,J⟩;have et:=Z_ cG;have cj:=Z_ J;have CQ:=Z_ (XY _ _ w7 (e2.o.to (S':=Z2 w7) (uM J (λ k y=>by rw[y];exact aG.o.lt)) (λ k y=>by rw[y];exact zU aG.o.lt J.size)) (λ _ h=>h) (by have:=eR.o;omega));rw[e6.o]at CQ;clear cG J CR;go_wp2_with fail;refine CQ.o.mono ?_;rintro e w8 ⟨v8,rfl,cA,cC⟩;have e0:=Z_ cA;have bb:=Z_ cC;clear cA cC CQ;go_wp2
     all_goals
      go_ret3
      have x4:=em.o;have x6:=dF.o;have x7:=cj.o;have x8:=bb.o;refine⟨_,_,rfl,e0.o.to (uN _ _) (λ k h=>⟨zT (zT (zT x4.size x6.size) x7.size) h.1,h.2⟩),et.o.to (uM x8 (λ _ h=>h.2)) (λ k h=>⟨zT (zT x4.size x6.size) h.1,zU h.2 x8.size⟩),((x4.trans x6).trans x7).trans x8⟩
end
section
open Go.RowKit
theorem Ov{S:Nat->Prop}(va vb:Value)(xs ys:List Nat)(w:World)(ha:U32s S w va xs)(hb:U32s S w vb ys)(hS:∀k,S k->k<w.heap.size)(hr:xs.length<=100000000000)(hr2:ys.length<=100000000000)(h0:0<val Z9 ys) :
  Calls Tryz.prog 110 #[va,vb] w (RP (val Z9 xs) (val Z9 ys) w):=by
 by_cases y:val Z9 xs<val Z9 ys
 ·exact DK va vb xs ys w ha hb hS hr hr2 y
 ·by_cases z:(Z4 Z9 (val Z9 ys)).length=1
  ·exact BL va vb xs ys w ha hb hS hr hr2 (by omega) z
  ·have hl:0<(Z4 Z9 (val Z9 ys)).length:=by
    rw[yF,Ne,WG ZU];omega
   exact KJ va vb xs ys w ha hb hS hr hr2 (by omega) ((Z4 Z9 (val Z9 ys)).length-2) (by omega)
end
section
def YW(g:PZ):Int:=(g.map (·.1)).foldr (· + ·) 0
def Ym(c:Int)(m:Z7):PZ:=if c=0 then [] else [(c,m)]
inductive Coll:PZ->PZ->Prop where
 |nil:Coll [] []
 |group (t:Int×Z7) (g r q:PZ) (h:∀u∈g,u.2=t.2) (hr:∀u∈r.head?,u.2≠t.2) (k:Coll r q):Coll (t :: g++r) (Ym (t.1+YW g) t.2++q)
theorem GD{g:PZ}{m:Z7}(h:∀u∈g,u.2=m)(m':Z7):cf g m'=if m=m' then YW g else 0:=by
 induction g with
 |nil=>simp[cf,YW]
 |cons u g ih=>
  have z:=h u (by simp);have y:=ih (λ v hv=>h v (by simp[hv]));rw[cf,y,z];have e:YW (u :: g)=u.1+YW g:=rfl;rw[e]
  split<;>omega
theorem JS(c:Int)(m m':Z7):cf (Ym c m) m'=if m=m' then c else 0:=by
 unfold Ym
 split
 ·rename_i h;subst h;simp[cf]
 ·simp[cf]
theorem KD{t:Int×Z7}{g r:PZ}(hm:ZD (t :: g++r))(hf:(t :: g++r).Pairwise λ a b=>0<=Zs a.2 b.2)(hr:∀u∈r.head?,u.2≠t.2):∀u∈r,Zs t.2 u.2=1:=by
 have O:=hm t (by simp)
 cases r with
 |nil=>intro u J;simp at J
 |cons x r=>
  have D:=hm x (by simp);have K:=hr x (by simp);have U:∀u∈g++x :: r,0<=Zs t.2 u.2:=(yN.1 (show(t :: (g++x :: r)).Pairwise _ from hf)).1
  have z:Zs t.2 x.2=1:=by
   have:=U x (by simp)
   rcases VQ O D with g|g|g
   ·omega
   ·exact absurd ((Vh O D).1 g).symm K
   ·exact g
  intro u J
  rcases zJ.1 J with rfl|I
  ·exact z
  ·have y:=hm u (by simp[I])
   have h2:0<=Zs x.2 u.2:=by
    have:=(ye.1 (show((t :: g)++(x :: r)).Pairwise _ from hf)).2.1;exact(yN.1 this).1 u I
   rcases VQ D y with k|k|k
   ·omega
   ·rw[<-(Vh D y).1 k];exact z
   ·exact RR O D y z k
theorem Coll.can{p q:PZ}(h:Coll p q)(hm:ZD p)(hf:p.Pairwise λ a b=>0<=Zs a.2 b.2):canP q/\(∀m,cf q m=cf p m)/\∀u∈q,∃v∈p,v.2=u.2:=by
 induction h with
 |nil=>exact⟨z3a,λ _=>rfl,λ u y=>by simp at y⟩
 |group t g r q hg hr k ih=>
  have K:ZD r:=λ u y=>hm u (by simp[y]);have J:=(ye.1 (show((t :: g)++r).Pairwise _ from hf)).2.1;obtain⟨I,X,U⟩:=ih K J;have D:=KD hm hf hr;have Z:=hm t (by simp)
  refine⟨?_,λ m=>?_,λ u y=>?_⟩
  ·unfold Ym
   split
   ·exact I
   ·rename_i hne
    refine⟨λ u y=>?_,?_⟩
    ·rcases zC.1 y with y|y
     ·rw[zQ.1 y];exact⟨hne,Z⟩
     ·exact I.1 u y
    ·refine yN.2 ⟨λ u y=>?_,I.2⟩;obtain⟨v,O,z⟩:=U u y;rw[<-z];exact D v O
  ·rw[zhk,JS,X,show t :: g++r=(t :: g)++r from rfl,zhk,cf,GD hg]
   split<;>omega
  ·rcases zC.1 y with y|y
   ·unfold Ym at y
    split at y
    ·simp at y
    ·rw[zQ.1 y];exact⟨t,by simp,rfl⟩
   ·obtain⟨v,O,z⟩:=U u y;exact⟨v,by simp[O],z⟩
theorem Coll.norm{p q l:PZ}(h:Coll p q)(hm:ZD p)(hf:p.Pairwise λ a b=>0<=Zs a.2 b.2)(hp:p.Perm l):q=Zr l:=by
 obtain⟨h1,h2,_⟩:=h.can hm hf;have hl:ZD l:=λ t ht=>hm t (hp.mem_iff.2 ht);exact Qo h1 (SR hl) (λ m _=>by rw[h2,Rh hl,Fo hp])
def ZX(z:Int):Nat:=(Z4 Z9 z.natAbs).length
theorem Xm{z:Int}{k:Nat}(h:z.natAbs<Z9^k):ZX z<=k:=YZ ZU _ _ h
theorem Vv(z:Int):z.natAbs<Z9^ZX z:=Xq ZU _
theorem WW{z:Int}{j k:Nat}(h:ZX z<=j)(hk:j<=k):z.natAbs<Z9^k:=zU (Vv z) (zA (by decide) (zT h hk))
theorem z54(z:Int):(Z8 z).mag.length=ZX z:=rfl
theorem Ws{r:RInt}(h:Rr r):ZX (Z6 r)<=r.mag.length:=by
 refine Xm ?_;have:=Y4 (B:=Z9) r.mag h;unfold Z6
 split<;>simpa using this
def bndZ(k:Nat)(p:PZ):Prop:=∀t∈p,t.1.natAbs<Z9^k
theorem bndZ.mono{j k:Nat}{p:PZ}(h:bndZ j p)(hjk:j<=k):bndZ k p:=λ t ht=>zU (h t ht) (zA (by decide) hjk)
theorem bndZ.append{k:Nat}{p q:PZ}(h:bndZ k p)(h':bndZ k q):bndZ k (p++q):=λ t ht=>by
 rcases zC.1 ht with ht|ht
 ·exact h t ht
 ·exact h' t ht
theorem Bz{k:Nat}{p:PZ}(h:bndZ k p)(m:Z7):(cf p m).natAbs<=p.length*Z9^k:=by
 induction p with
 |nil=>simp[cf]
 |cons t r ih=>
  have h1:=h t (by simp);have h2:=ih (λ u hu=>h u (by simp[hu]));simp only[cf,zM,y8,yM];generalize Z9^k=b at *;generalize r.length*b=c at *
  split<;>omega
theorem Mf{k:Nat}{p:PZ}(hm:ZD p)(h:bndZ k p)(hl:p.length<Z9^2):bndZ (k+2) (Zr p):=by
 intro t z;have y:=(SR hm).cf_mem z;rw[Rh hm]at y;have:=Bz h t.2;rw[y]at this;refine zh this ?_;rw[yH,zq];exact Nat.mul_lt_mul_of_pos_left hl (yK (by decide))
theorem Qu{z:Int}{g:PZ}{k:Nat}(h0:z.natAbs<Z9^k)(h:bndZ k g)(hl:g.length+1<Z9^2):ZX (z+YW g)<=k+2:=by
 refine Xm ?_
 have D:(YW g).natAbs<=g.length*Z9^k:=by
  clear hl
  induction g with
  |nil=>simp[YW]
  |cons u g ih=>
   have D:=h u (by simp);have y:=ih (λ v hv=>h v (by simp[hv]));have e:YW (u :: g)=u.1+YW g:=rfl;rw[e];simp only[zM,y8,yM];generalize Z9^k=b at *;generalize g.length*b=c at *;omega
 rw[yH,zq];have y:(g.length+1)*Z9^k<Z9^2*Z9^k:=vO hl (zR _) (yK (by decide));refine zh ?_ y;rw[y8,yM];omega
theorem Dj(g:PZ)(t:Int×Z7):YW (g ++ [t])=YW g+t.1:=by
 induction g with
 |nil=>simp[YW]
 |cons u g ih=>
  have e:∀l,YW (u :: l)=u.1+YW l:=λ _=>rfl;rw[zc,e,e,ih];omega
end
section
open Go.RowKit
theorem Mw{S:Nat->Prop}(va vb:Value)(xs ys:List Nat)(w:World)(ha:U32s S w va xs)(hb:U32s S w vb ys)(hS:∀k,S k->k<w.heap.size)(hr:xs.length+ys.length<=1000000000000)(hc:xs.length<24∨ys.length<24) :
  Calls Tryz.prog 129 #[.int .i64 24,va,vb] w λ e w'=>∃v',e=.returned v'/\U32s (New w w') w' v' (Z4 Z9 (val Z9 xs*val Z9 ys))/\Ext w w':=by
 have O:=Z_ (Jd va vb xs ys w ha hb hS hr);have X:=ha.len_le;have U:=hb.len_le;obtain⟨aa,ca,rfl⟩:=ha.form;obtain⟨a2,cb,rfl⟩:=hb.form;clear ha hb;obtain⟨n,J⟩:∃n,n=xs.length:=⟨_,rfl⟩
 obtain⟨m,K⟩:∃n,n=ys.length:=⟨_,rfl⟩
 rw[<-J,<-K]at hc hr;rw[<-J]at X;rw[<-K]at U;rw[<-J,<-K]at O⊢;clear J K
 go_enter Tryz.func129,Tryz.ntmps129
 rcases xj n m with h|h
 ·have q0:min (n:Int) (m:Int)=(n:Int):=by omega
  have q1:(n:Int)<24:=by omega
  go_wp2_with fail;with_reducible refine O.o.mono ?_;rintro e w1 ⟨Z,rfl,y,z⟩;have I:=Z_ y;have D:=Z_ z;clear y z;go_wp2
  all_goals
   go_ret;exact⟨_,rfl,I.o,D.o⟩
 ·rcases xj m n with h2|h2
  ·have q0:min (n:Int) (m:Int)=(m:Int):=by omega
   have q1:(m:Int)<24:=by omega
   go_wp2_with fail;with_reducible refine O.o.mono ?_;rintro e w1 ⟨Z,rfl,y,z⟩;have I:=Z_ y;have D:=Z_ z;clear y z;go_wp2
   all_goals
    go_ret;exact⟨_,rfl,I.o,D.o⟩
  ·obtain rfl:n=m:=by omega
   have q1:(n:Int)<24:=by omega
   go_wp2_with fail;with_reducible refine O.o.mono ?_;rintro e w1 ⟨Z,rfl,y,z⟩;have I:=Z_ y;have D:=Z_ z;clear y z;go_wp2
   all_goals
    go_ret;exact⟨_,rfl,I.o,D.o⟩
def Zn(n:Nat):Nat:=(Z4 Z9 n).length
theorem VV{zs:List Nat}(h:∀z∈zs,z<Z9):Zn (val Z9 zs)<=zs.length:=XL h
theorem UK{a b k:Nat}(ha:Zn a+Zn b<=k):Zn (a*b)<=k:=by
 refine YZ ZU _ k (zU (xc (Xq ZU a) (Xq ZU b)) ?_);rw[<-yH];exact zA (by decide) ha
theorem H6{S:Nat->Prop}(va vb:Value)(xs ys:List Nat)(w:World)(ha:U32s S w va xs)(hb:U32s S w vb ys)(hS:∀k,S k->k<w.heap.size)(hr:xs.length+ys.length<=1000000000000)(hc:Zn (val Z9 xs)<24∨Zn (val Z9 ys)<24) :
  Calls Tryz.prog 97 #[va,vb] w λ e w'=>∃v',e=.returned v'/\U32s (New w w') w' v' (Z4 Z9 (val Z9 xs*val Z9 ys))/\Ext w w':=by
 have C1:=Z_ (XY va xs w ha hS (by omega));have C2:=Z_ (λ(W:World) (hW:Ext w W)=>XY vb ys W (hb.ext hW hS) (ZM hS hW) (by omega));have C3:=Z_ (λ(W:World) (u v:Value) (hu:U32s (Z2 W) W u (Z4 Z9 (val Z9 xs))) (hv:U32s (Z2 W) W v (Z4 Z9 (val Z9 ys)))=>Mw u v _ _ W hu hv (λ _ h=>h) (by have:=VV ha.lt;have:=VV hb.lt;unfold Zn at *;omega) hc);simp only[ZB ZU]at C3;obtain⟨aa,ca,rfl⟩:=ha.form;obtain⟨a2,cb,rfl⟩:=hb.form;clear ha hb
 go_enter Tryz.func97,Tryz.ntmps97
 go_wp2_with fail;with_reducible refine C1.o.mono ?_;rintro e w1 ⟨v1,rfl,D,O⟩;have I:=Z_ O;have Z:=Z_ (D.to (S':=Z2 w1) (uN _ _) uK);obtain⟨a1,c1,rfl⟩:=D.form;clear D O;go_wp2_with fail;with_reducible refine(C2.o _ I.o).mono ?_;rintro e w2 ⟨v2,rfl,z,y⟩;have J:=Z_ (I.o.trans y);have C4:=Z_ (C3.o w2 _ v2 ((Z.o.ext y (λ _ h=>h)).to (uN _ _) (λ k h=>zU h y.size)) (z.to (uN _ _) uK));obtain⟨a3,c3,rfl⟩:=z.form;clear z y;go_wp2_with fail;with_reducible refine C4.o.mono ?_;rintro e w3 ⟨v3,rfl,U,K⟩;have X:=Z_ (J.o.trans K);have ac:=Z_ (U.to (S':=New w w3) (uN _ _) (λ k h=>⟨zT J.o.size h.1,h.2⟩));clear U K;go_wp2
 all_goals
  go_ret;exact⟨_,rfl,ac.o,X.o⟩
theorem LO(xn yn:Bool)(a b:Nat):sg (xn != yn) (a*b)=sg xn a*sg yn b:=by
 unfold sg
 cases xn<;>cases yn<;>simp[Int.neg_mul,Int.mul_neg]
theorem E6{S:Nat->Prop}(vx vy:Value)(x y:RInt)(w:World)(hx:IntV S w vx x)(hy:IntV S w vy y)(hS:∀k,S k->k<w.heap.size)(hr:x.mag.length<=100000000000)(hr2:y.mag.length<=100000000000)
  (hc:ZX (Z6 x)<24∨ZX (Z6 y)<24) :
  Calls Tryz.prog 59 #[vx,vy] w λ e w'=>∃v',e=.returned v'/\IntV (New w w') w' v' (Z8 (Z6 x*Z6 y))/\Ext w w':=by
 obtain⟨K,xs⟩:=x;obtain⟨J,ys⟩:=y;obtain⟨vxm,rfl,O⟩:=hx;obtain⟨vym,rfl,U⟩:=hy;simp only at O U hr hr2⊢
 have ad:Zn (val Z9 xs)<24∨Zn (val Z9 ys)<24:=by
  have e1:ZX (Z6 ⟨K,xs⟩)=Zn (val Z9 xs):=by
   rw[<-z54];unfold Z8 Z6 Zn
   cases K<;>simp
  have e2:ZX (Z6 ⟨J,ys⟩)=Zn (val Z9 ys):=by
   rw[<-z54];unfold Z8 Z6 Zn
   cases J<;>simp
  rwa [e1,e2]at hc
 have aj:=Z_ ad;have HX:=Z_ O;have HY:=Z_ U;obtain⟨ax,cx,rfl⟩:=O.form;obtain⟨ay,cy,rfl⟩:=U.form;clear O U hc ad;have HK:=Z_ (uO (uO (uO (uP w) (.cells #[.bool K,.slice ax xs.length cx] 28)) (.cells #[.bool J,.slice ay ys.length cy] 28)) (.cells #[.bool false,.slice none 0 0] 28));have HXK:=Z_ (HX.o.ext HK.o hS);have HYK:=Z_ (HY.o.ext HK.o hS);have HSK:=Z_ (ZM hS HK.o);have ae:w.heap.size+1+1<(((w.alloc (.cells #[.bool K,.slice ax xs.length cx] 28)).alloc (.cells #[.bool J,.slice ay ys.length cy] 28)).alloc (.cells #[.bool false,.slice none 0 0] 28)).heap.size:=by simp
 have al:=Z_ ae;clear ae
 have HQ:Hd (Z6 ⟨K,xs⟩ * Z6 ⟨J,ys⟩=sg (K != J) (val Z9 xs*val Z9 ys)):=Z_ (by
  rw[LO]
  rfl)
 obtain⟨b1,b2,b3,b4⟩:=Zf (uP (((w.alloc (.cells #[.bool K,.slice ax xs.length cx] 28)).alloc (.cells #[.bool J,.slice ay ys.length cy] 28)).alloc (.cells #[.bool false,.slice none 0 0] 28)));have c1:=b1 0 _ rfl;have c2:=b1 1 _ rfl;have c3:=b2 1 _ rfl;have c4:=b2 0 _ rfl;clear b1 b2 b3 b4;have I:=T_ c1 c2 c3;have af:=T_ c4 c4 c4;have ap:=Z_ (zS I.1 (zS I.2.1 (zS I.2.2 af.1)));clear I af c1 c2 c3 c4
 go_enter Tryz.func59,Tryz.ntmps59
 go_wp2;have I:=ap.o;have HL:Hd ((Z4 Z9 (val Z9 xs*val Z9 ys)).length<=50000000000000):=Z_ (UK (by have h1:=VV HX.o.lt;have h2:=VV HY.o.lt;omega));obtain⟨xy,X⟩:∃b,b=(K != J):=⟨_,rfl⟩
 rw[<-X]at HQ;have hxyq:(!(K == J))=xy:=X.symm;clear X
 go_region_held3 (λ W=>W.cell? ⟨w.heap.size,0,none⟩=some (.bool K)/\W.cell? ⟨w.heap.size,1,none⟩=some (.slice ax xs.length cx)/\W.cell? ⟨w.heap.size+1,1,none⟩=some (.slice ay ys.length cy)/\W.cell? ⟨w.heap.size+1,0,none⟩=some (.bool J)) (first|exact I|exact S1|exact S2|exact⟨ZZ (ZZ S2.1 (ab (by omega))) (ab (by omega)),ZZ (ZZ S2.2.1 (ab (by omega))) (ab (by omega)),ZZ (ZZ S2.2.2.1 (ab (by omega))) (ab (by omega)),ZZ (ZZ S2.2.2.2 (ab (by omega))) (ab (by omega))⟩)
  (first
   |(go_at_call 97;(with_reducible refine(H6 _ _ xs ys _ (HX.o.ext (HK.o.drew) hS) (HY.o.ext (HK.o.drew) hS) (ZM hS (HK.o.drew)) (by omega) aj.o).mono ?_);rintro e w1 ⟨v1,rfl,aa,D⟩;have S1:=zS (D.cell I.1) (zS (D.cell I.2.1) (zS (D.cell I.2.2.1) (D.cell I.2.2.2)));have Z:=Z_ D;have ag:=Z_ aa;obtain⟨a1,n1,rfl⟩:=aa.form;clear D aa)
   |(go_at_call 64;(with_reducible refine(VW xy _ _ _ ag.o uK HL.o).mono ?_);rintro e w2 ⟨v2,rfl,⟨vm2,rfl,ac⟩,z⟩;have S2:=zS (z.cell S1.1) (zS (z.cell S1.2.1) (zS (z.cell S1.2.2.1) (z.cell S1.2.2.2)));have ai:=Z_ z;have ah:=Z_ ac;obtain⟨a2,n2,rfl⟩:=ac.form;obtain⟨-,-,d3,d4⟩:=Zf ((uI (uP _)).trans (Z.o.trans z));have e0:=d3 0 _ rfl;have e1:=d3 1 _ rfl;have HE:=Z_ (zS e0 e1);have f0:=d4 0;have f1:=d4 1;clear d3 d4 z ac))
 all_goals
  go_wp2;have hd:=λ x y=>YY x y HE.o.1 HE.o.2;refine bodyPost_ret (by simp[results,Tryz.results59,go_sem,(hd _ _).1,(hd _ _).2];rfl) rfl ?_;have hg:=Xi (w0:=w) (b:=w.heap.size+1+1) rfl ah.o (HK.o.drew.trans Z.o) ai.o (by omega) (zU al.o Z.o.size) (.bool (Z8 (sg xy (val Z9 xs*val Z9 ys))).neg) (.slice a2 (Z8 (sg xy (val Z9 xs*val Z9 ys))).mag.length n2);rw[HQ.o];exact⟨_,rfl,hg.1,hg.2⟩
end
section
open Go.RowKit
theorem A6{S:Nat->Prop}(va vb:Value)(xs ys:List Nat)(w:World)(ha:U32s S w va xs)(hb:U32s S w vb ys)(hS:∀k,S k->k<w.heap.size)(hr:xs.length<=100000000000)(hr2:ys.length<=100000000000)(h0:0<val Z9 ys)(hd:val Z9 xs % val Z9 ys=0) :
  Calls Tryz.prog 111 #[va,vb] w λ e w'=>∃v',e=.returned (.tuple #[v',.int .i64 0])/\U32s (New w w') w' v' (Z4 Z9 (val Z9 xs / val Z9 ys))/\Ext w w':=by
 have C:=Z_ (Ov va vb xs ys w ha hb hS hr hr2 h0);have J:=Z_ hd;clear ha hb h0 hd
 go_enter Tryz.func111,Tryz.ntmps111
 go_wp2_with fail;refine C.o.mono ?_;rintro e w1 ⟨vq,vr,rfl,z,y,D⟩;rw[J.o,z3v]at y;obtain⟨a,c,rfl⟩:=y.form;have K:=Z_ z;have I:=Z_ D;clear z y D;go_wp2
 all_goals
  go_ret2;exact⟨_,rfl,K.o,I.o⟩
theorem RO{S:Nat->Prop}(vx vy:Value)(x y:RInt)(w:World)(hx:IntV S w vx x)(hy:IntV S w vy y)(hS:∀k,S k->k<w.heap.size)(hr:x.mag.length<=10000000000)(hr2:y.mag.length<=10000000000) :
  Calls Tryz.prog 70 #[vx,vy] w λ e w'=>∃v',e=.returned v'/\IntV (New w w') w' v' (Z8 (Int.gcd (Z6 x) (Z6 y):Nat))/\Ext w w':=by
 obtain⟨xn,xs⟩:=x;obtain⟨yn,ys⟩:=y;obtain⟨vxm,rfl,J⟩:=hx;obtain⟨vym,rfl,O⟩:=hy;simp only at J O hr hr2⊢
 have HG:Hd (Int.gcd (Z6 ⟨xn,xs⟩) (Z6 ⟨yn,ys⟩)=Nat.gcd (val Z9 xs) (val Z9 ys)):=Z_ (by
  unfold Z6
  cases xn<;>cases yn<;>simp[Int.gcd])
 rw[HG.o];have HX:=Z_ J;have HY:=Z_ O;obtain⟨ax,cx,rfl⟩:=J.form;obtain⟨ay,cy,rfl⟩:=O.form;have az:=Z_ (zT (VV J.lt) hr);have aR:=Z_ (zT (VV O.lt) hr2);clear J O;have HK:=Z_ (uO (uO (uO (uP w) (.cells #[.bool xn,.slice ax xs.length cx] 28)) (.cells #[.bool yn,.slice ay ys.length cy] 28)) (.cells #[.bool false,.slice none 0 0] 28));have aB:w.heap.size+1+1<(((w.alloc (.cells #[.bool xn,.slice ax xs.length cx] 28)).alloc (.cells #[.bool yn,.slice ay ys.length cy] 28)).alloc (.cells #[.bool false,.slice none 0 0] 28)).heap.size:=by simp
 have aG:=Z_ aB;clear aB;obtain⟨b1,b2,b3,b4⟩:=Zf (uP (((w.alloc (.cells #[.bool xn,.slice ax xs.length cx] 28)).alloc (.cells #[.bool yn,.slice ay ys.length cy] 28)).alloc (.cells #[.bool false,.slice none 0 0] 28)));have c2:=b1 1 _ rfl;have c3:=b2 1 _ rfl;clear b1 b2 b3 b4;have aj:=T_ c2 c3 c3;have aF:=Z_ (zS aj.1 aj.2.1);clear aj c2 c3
 go_enter Tryz.func70,Tryz.ntmps70
 go_wp2;have S0:=aF.o
 go_region_held3 (λ W=>W.cell? ⟨w.heap.size,1,none⟩=some (.slice ax xs.length cx)/\W.cell? ⟨w.heap.size+1,1,none⟩=some (.slice ay ys.length cy)) (first|exact S0|exact S1|exact S2|exact⟨ZZ (ZZ S2.1 (ab (by omega))) (ab (by omega)),ZZ (ZZ S2.2 (ab (by omega))) (ab (by omega))⟩)
  (first
   |(go_at_call 102;(with_reducible refine(XY (.slice ax xs.length cx) xs _ (HX.o.ext (HK.o.drew) hS) (ZM hS (HK.o.drew)) (by omega)).mono ?_);rintro e w1 ⟨v1,rfl,aq,Z⟩;have S1:=zS (Z.cell S0.1) (Z.cell S0.2);have K:=Z_ (HK.o.drew.trans Z);have av:=Z_ (aq.to (S':=New w w1) (uN _ _) (uq HK.o.drew));have ac:=Z_ Z;obtain⟨a1,n1,rfl⟩:=aq.form;clear Z aq)
   |(go_at_call 102;(with_reducible refine(XY (.slice ay ys.length cy) ys _ (HY.o.ext K.o hS) (ZM hS K.o) (by omega)).mono ?_);rintro e w2 ⟨v2,rfl,al,D⟩;have S2:=zS (D.cell S1.1) (D.cell S1.2);have HX2:=Z_ (K.o.trans D);have ad:=Z_ (ac.o.trans D);have ae:=Z_ (av.o.to (S':=New w w2) (uM D uK) (λ k h=>⟨h.1,zU h.2 D.size⟩));have aN:=Z_ (al.to (S':=New w w2) (uN _ _) (uq K.o));obtain⟨a2,n2,rfl⟩:=al.form;clear D al))
 all_goals
  clear S0 S1 S2;obtain⟨w0,U⟩:∃W,W=(((w.alloc (.cells #[.bool xn,.slice ax xs.length cx] 28)).alloc (.cells #[.bool yn,.slice ay ys.length cy] 28)).alloc (.cells #[.bool false,.slice none 0 0] 28)).drew:=⟨_,rfl⟩
  have HB:=Z_ (λ(W:World) (h:Ext w0 W)=>by
   rw[U]at h;obtain⟨-,-,d3,d4⟩:=Zf ((uI (uP _)).trans h)
   exact zS (d3 0 _ rfl) (zS (d3 1 _ rfl) (zS (d4 0) (d4 1))))
  have aP:Hd (w.heap.size+1+1<w0.heap.size):=Z_ (by rw[U];exact aG.o);have aC:Hd (Ext w w0):=Z_ (by rw[U];exact HK.o.drew);rw[<-U]at ad;obtain⟨Y,hY⟩:∃Y,Y=val Z9 ys:=⟨_,rfl⟩
  obtain⟨X,hX⟩:∃X,X=val Z9 xs:=⟨_,rfl⟩
  rw[<-hX]at ae az⊢;rw[<-hY]at aN aR⊢;have a4:=Z_ hX;have a8:=Z_ hY;clear U hX hY ac aG aF HG HK K av;go_wp2
  go_loopg [5,6] Y (λ k s5 s6 wr=>∃(A:Nat) (a b:Option Addr) (ca cb:Nat),s5=.slice a (Z4 Z9 A).length ca/\s6=.slice b (Z4 Z9 k).length cb/\Hd (Nat.gcd A k=Nat.gcd X Y/\Zn A<=10000000000/\Zn k<=10000000000/\U32s (New w wr) wr (.slice a (Z4 Z9 A).length ca) (Z4 Z9 A)/\U32s (New w wr) wr (.slice b (Z4 Z9 k).length cb) (Z4 Z9 k)/\Ext w0 wr))
  case atStart=>exact⟨X,a1,a2,n1,n2,rfl,rfl,Z_ ⟨rfl,az.o,aR.o,ae.o,aN.o,ad.o⟩⟩
  case round=>
   obtain⟨A,a,b,ca,cb,rfl,rfl,HI⟩:=hrel;obtain⟨lb,ap⟩:∃l,l=(Z4 Z9 gk).length:=⟨_,rfl⟩
   obtain⟨la,ai⟩:∃l,l=(Z4 Z9 A).length:=⟨_,rfl⟩
   rw[<-ap,<-ai]at HI⊢;have aa:=Z_ ap;have aA:=Z_ ai;clear ap ai
   by_cases h0:gk=0
   ·subst h0;have aS:lb=0:=by rw[aa.o];rfl
    subst aS;obtain⟨I1,I2,I3,I4,I5,I6⟩:=HI.o;rw[Nat.gcd_zero_right]at I1;rw[aA.o]at I4;have CM:=Z_ (VW false _ A wr I4 uK (by unfold Zn at I2;omega));rw[<-aA.o]at CM;have HA:=Z_ I1;have I:=Z_ I6;clear I1 I2 I3 I4 I5 I6;go_wp2_with fail;refine CM.o.mono ?_;rintro e w3 ⟨v3,rfl,⟨vm3,rfl,au⟩,z⟩;obtain⟨f0,f1,f2,f3⟩:=HB.o w3 (I.o.trans z);have af:=Z_ z;have a5:=Z_ au;have HE:=Z_ (zS f0 f1);obtain⟨a3,n3,rfl⟩:=au.form;clear au z;go_wp2
    all_goals
     have hd:=λ x y=>YY x y HE.o.1 HE.o.2;refine bodyPost_ret (by simp[results,Tryz.results70,go_sem,(hd _ _).1,(hd _ _).2];rfl) rfl ?_;have hg:=Xi (w0:=w) (b:=w.heap.size+1+1) rfl a5.o (aC.o.trans I.o) af.o (by omega) (zU aP.o I.o.size) (.bool (Z8 (sg false A)).neg) (.slice a3 (Z8 (sg false A)).mag.length n3);have e:((Nat.gcd X Y:Nat):Int)=sg false A:=by rw[<-HA.o];rfl
     rw[<-a4.o,<-a8.o,e];exact⟨_,rfl,hg.1,hg.2⟩
   ·have aS:0<lb:=by
     rw[aa.o,yF,Ne,WG ZU];exact h0
    obtain⟨I1,I2,I3,I4,I5,I6⟩:=HI.o;have aH:0<gk:=by omega
    have CD:=Z_ (Ov (S:=New w wr) _ _ _ _ wr I4 I5 uK (by unfold Zn at I2;omega) (by unfold Zn at I3;omega) (by rw[ZB ZU];omega));rw[ZB ZU,ZB ZU]at CD;have ah:=Z_ (zS I1 I3);have a0:=Z_ I5;have I:=Z_ I6;have H0:=Z_ aH;clear h0 I1 I2 I3 I4 I5 I6 aH;go_wp2_with fail;refine CD.o.mono ?_;rintro e w3 ⟨vq,vr,rfl,hq,ag,z⟩;have a6:=Z_ (ag.to (S':=New w w3) (uN _ _) (uq (aC.o.trans I.o)));have af:=Z_ z;have a7:=Z_ (a0.o.to (S':=New w w3) (uM z uK) (λ k h=>⟨h.1,zU h.2 z.size⟩));obtain⟨ar,nr,rfl⟩:=ag.form;clear hq ag z;go_wp2
    go_roundg (A % gk)
    case measure=>exact yS _ H0.o
    case rel=>
     refine⟨gk,b,ar,cb,nr,by rw[aa.o],rfl,Z_ ⟨?_,ah.o.2,?_,?_,a6.o,I.o.trans af.o⟩⟩
     ·rw[<-ah.o.1,Nat.gcd_comm A gk,Nat.gcd_rec gk A,Nat.gcd_comm]
     ·exact zT (Yp (xi (yS _ H0.o))) ah.o.2
     ·rw[<-aa.o];exact a7.o
end
section
open Go.RowKit
theorem GP{xn yn:Bool}{a d:Nat}{q:Int}(hd:0<d)(h:sg xn a=q*sg yn d):a % d=0/\sg (xn != yn) (a / d)=q:=by
 have y:∀p:Int,(a:Int)=p*(d:Int)->a % d=0/\((a / d:Nat):Int)=p:=by
  intro p J;have D:(d:Int)≠0:=by omega
  refine⟨?_,?_⟩
  ·have z:((a % d:Nat):Int)=0:=by rw[Int.natCast_emod,J,Int.mul_emod_left]
   omega
  ·rw[wR,J,Int.mul_ediv_cancel _ D]
 unfold sg at h⊢
 cases xn<;>cases yn<;>simp only[if_true,if_false,xP,bne_self_eq_false,Bool.true_bne,Bool.false_bne,Bool.not_true,Bool.not_false]at h⊢
 ·exact y q h
 ·obtain⟨z,I⟩:=y (-q) (by rw[h,wm,vT]);exact⟨z,by rw[I,vE]⟩
 ·obtain⟨z,I⟩:=y (-q) (by rw[vT,<-h,vE]);exact⟨z,by rw[I,vE]⟩
 ·refine y q ?_;rw[wm]at h;omega
theorem UQ{S:Nat->Prop}(vx vy:Value)(x y:RInt)(w:World)(hx:IntV S w vx x)(hy:IntV S w vy y)(hS:∀k,S k->k<w.heap.size)(hr:x.mag.length<=10000000000)(hr2:y.mag.length<=10000000000)(q:Int)(h0:Z6 y≠0)(hq:Z6 x=q*Z6 y) :
  Calls Tryz.prog 71 #[vx,vy] w λ e w'=>∃v',e=.returned (.tuple #[v',.int .i64 0])/\IntV (New w w') w' v' (Z8 q)/\Ext w w':=by
 obtain⟨xn,xs⟩:=x;obtain⟨yn,ys⟩:=y;obtain⟨vxm,rfl,z⟩:=hx;obtain⟨vym,rfl,I⟩:=hy;simp only at z I hr hr2⊢
 have J:0<val Z9 ys:=by
  rcases zj (val Z9 ys) with h|h
  ·exact absurd (by unfold Z6;simp[h]) h0
  ·exact h
 have HQ:=Z_ (GP J (show sg xn (val Z9 xs)=q*sg yn (val Z9 ys) from hq));have HX:=Z_ z;have HY:=Z_ I;obtain⟨ax,cx,rfl⟩:=z.form;obtain⟨ay,cy,rfl⟩:=I.form;have af:=Z_ (zT (VV z.lt) hr);obtain⟨w0,D⟩:∃W,W=(((w.alloc (.cells #[.bool xn,.slice ax xs.length cx] 28)).alloc (.cells #[.bool yn,.slice ay ys.length cy] 28)).alloc (.cells #[.bool false,.slice none 0 0] 28)):=⟨_,rfl⟩
 have K:Hd (Ext w w0):=Z_ (by rw[D];exact uO (uO (uO (uP w) _) _) _);have ag:Hd (w.heap.size+1+1<w0.heap.size):=Z_ (by rw[D];simp)
 have HB:=Z_ (λ(W:World) (h:Ext w0 W)=>by
  rw[D]at h
  exact Zf h)
 have CD:=Z_ (A6 (S:=S) (.slice ax xs.length cx) (.slice ay ys.length cy) xs ys w0 (z.ext K.o hS) (I.ext K.o hS) (ZM hS K.o) (by omega) (by omega) J HQ.o.1);have HD0:=Z_ J;obtain⟨b1,b2,-,-⟩:=HB.o w0 (uP _);have c1:=b1 0 _ rfl;have c2:=b1 1 _ rfl;have c3:=b2 0 _ rfl;have c4:=b2 1 _ rfl;rw[D]at c1 c2 c3 c4 CD;clear z I h0 hq J b1 b2;have ad:=Z_ D;clear D
 go_enter Tryz.func71,Tryz.ntmps71
 go_wp2_with fail;refine CD.o.mono ?_;rintro e w1 ⟨v1,rfl,O,U⟩;rw[<-ad.o]at O U;obtain⟨b1,b2,b3,b4⟩:=HB.o w1 U;have d1:=b1 0 _ rfl;have d3:=b2 0 _ rfl;have aa:=Z_ U
 have ah:Hd ((Z4 Z9 (val Z9 xs / val Z9 ys)).length<=50000000000000):=Z_ (by
  have h1:=Yp (yt (val Z9 xs) (val Z9 ys));have h2:=af.o;unfold Zn at h2
  omega)
 have CM:=Z_ (VW (xn != yn) _ _ w1 O uK ah.o);rw[HQ.o.2]at CM;obtain⟨xy,X⟩:∃b,b=(xn != yn):=⟨_,rfl⟩
 rw[<-X]at CM;have hxyq:(!(xn == yn))=xy:=X.symm;obtain⟨a1,n1,rfl⟩:=O.form;clear O U b1 b2 b3 b4 X;go_wp2_with fail;refine CM.o.mono ?_;rintro e w2 ⟨v2,rfl,⟨vm2,rfl,ac⟩,Z⟩;obtain⟨-,-,b3,b4⟩:=HB.o w2 (aa.o.trans Z);have e0:=b3 0 _ rfl;have e1:=b3 1 _ rfl;have f0:=b4 0;have f1:=b4 1;have ae:=Z_ Z;have ai:=Z_ ac;have HE:=Z_ (zS e0 e1);obtain⟨a2,n2,rfl⟩:=ac.form;clear ac Z b3 b4;go_wp2
 all_goals
  have hd:=λ x y=>YY x y HE.o.1 HE.o.2;refine bodyPost_ret (by simp[results,Tryz.results71,go_sem,(hd _ _).1,(hd _ _).2];rfl) rfl ?_;have hg:=Xi (w0:=w) (b:=w.heap.size+1+1) rfl ai.o (K.o.trans aa.o) ae.o (by omega) (zU ag.o aa.o.size) (.bool (Z8 q).neg) (.slice a2 (Z8 q).mag.length n2);exact⟨_,rfl,hg.1,hg.2⟩
end
end Go.Proofs.YtlbohjnfkhemlaaGreat
