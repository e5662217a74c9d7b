/- The document's quotients: as data, made shorter. The document's quotients: made shorter; products, sums, signs. The document's quotients: differences and signs. Coefficients, initial, tail and derivative of polynomials. Plain. What is made of two monomials, exponent by exponent; products of monomials. Plain. The document's product of monomials is the program's. Plain. Polynomials as sums: linear functionals on lists of terms, products, and that a canonical list is told by them. Plain. A polynomial's value at a point of quotients, plainly. A polynomial's value at a point of quotients, and that of a product. Plain. Quotients in a row, in memory. The document: a monomial without a variable. append to a slice without room: a copy in memory of its own. Stable merges of two lists, and the stable sort of a list by merges. Plain. A monomial without a variable: a slice of the call's own. Ranks of initial, tail and derivative; derivatives by two variables. Plain. The product of two monomials: the program's answer. A small number as a whole number. The document: classes, degrees and ranks of polynomials. Which polynomials are too great for the law. Degrees, initials, classes and derivatives of products and sums. Plain. Lists that are the same so far. -/
import Derived.Test.YtbfflodidkfphaaGreatProg
import Derived.Lib.SmallJoins
import Derived.Test.YtbfflodidkfphaaGreatSe5
set_option maxRecDepth 100000
set_option maxHeartbeats 16000000
namespace Go.Proofs.YtbfflodidkfphaaGreat
section
open Go.RowKit
theorem zu8 {w w5:World} {b n:Nat} {u0 u1 u2 u3 vn vd:Value} {x y:RInt} (hb:w.heap.size ≤ b) (hbn:b < n) (hx:Ext w w5) (hc:z39 w5 b u0 u1 u2 u3) (hn:U32s (z85 n w5) w5 vn x.mag) (hd:U32s (z85 n w5) w5 vd y.mag) :
  z39 (set4 w5 b (.bool x.neg) vn (.bool y.neg) vd) b (.bool x.neg) vn (.bool y.neg) vd ∧ RatI (New w (set4 w5 b (.bool x.neg) vn (.bool y.neg) vd)) (set4 w5 b (.bool x.neg) vn (.bool y.neg) vd) (.agg #[.bool x.neg,vn,.bool y.neg,vd]) x y ∧ Ext w (set4 w5 b (.bool x.neg) vn (.bool y.neg) vd):=by
 have hk:Kept (z85 n w5) w5 (set4 w5 b (.bool x.neg) vn (.bool y.neg) vd):=z52 (fun h => by have:=h.1; omega) _ _ _ _
 have hS:∀ k,z85 n w5 k → New w (set4 w5 b (.bool x.neg) vn (.bool y.neg) vd) k:=fun k h => ⟨by have:=h.1; omega,by rw [z2s]; exact h.2⟩
 exact ⟨z49 hc _ _ _ _,⟨vn,vd,rfl,hn.to hk hS,hd.to hk hS⟩,z1k hx hb _ _ _ _⟩
structure Two (n:Nat) (W:World) (b c:Nat) (x0 x1 y0 y1:Value):Prop where
 c0:W.cell? ⟨b,0,none⟩ = some x0
 c1:W.cell? ⟨b,1,none⟩ = some x1
 d0:W.cell? ⟨c,0,none⟩ = some y0
 d1:W.cell? ⟨c,1,none⟩ = some y1
 f0:W.frozen? ⟨b,0,none⟩ = false
 f1:W.frozen? ⟨b,1,none⟩ = false
 g0:W.frozen? ⟨c,0,none⟩ = false
 g1:W.frozen? ⟨c,1,none⟩ = false
 lb:n ≤ b
 lc:n ≤ c
 ne:b ≠ c
theorem zow {n b c:Nat} {W:World} {x0 x1 y0 y1:Value} (h:Two n W b c x0 x1 y0 y1):Two n W.drew b c x0 x1 y0 y1:=⟨h.c0,h.c1,h.d0,h.d1,h.f0,h.f1,h.g0,h.g1,h.lb,h.lc,h.ne⟩
section
variable {n b c:Nat} {W Y:World} {x0 x1 y0 y1:Value}
theorem Two.ext (h:Two n W b c x0 x1 y0 y1) (hx:Ext W Y):Two n Y b c x0 x1 y0 y1 :=
 ⟨hx.cell h.c0,hx.cell h.c1,hx.cell h.d0,hx.cell h.d1,hx.free (z08 h.c0) h.f0,hx.free (z08 h.c1) h.f1,hx.free (z08 h.d0) h.g0,hx.free (z08 h.d1) h.g1,h.lb,h.lc,h.ne⟩
theorem zte (hn:n ≤ W.heap.size) (T T':TypeId):Two n ((W.alloc (.cells #[x0,x1] T)).alloc (.cells #[y0,y1] T')) W.heap.size (W.heap.size + 1) x0 x1 y0 y1 :=
 ⟨cell_old _ (z02 _ _ _ rfl rfl),cell_old _ (z02 _ _ _ rfl rfl),z02 _ _ _ (by rw [size_alloc]) rfl,z02 _ _ _ (by rw [size_alloc]) rfl,
   ((Ext.refl _).alloc _).free (by rw [size_alloc]; exact Nat.lt_succ_self _) (z1n _ _ _),((Ext.refl _).alloc _).free (by rw [size_alloc]; exact Nat.lt_succ_self _) (z1n _ _ _),by have h:=z1n (W.alloc (.cells #[x0,x1] T)) #[y0,y1] T' (i:=0); rwa [size_alloc] at h,by have h:=z1n (W.alloc (.cells #[x0,x1] T)) #[y0,y1] T' (i:=1); rwa [size_alloc] at h,hn,Nat.le_succ_of_le hn,Nat.ne_of_lt (Nat.lt_succ_self _)⟩
theorem Two.swap (h:Two n W b c x0 x1 y0 y1):Two n W c b y0 y1 x0 x1:=⟨h.d0,h.d1,h.c0,h.c1,h.g0,h.g1,h.f0,h.f1,h.lc,h.lb,h.ne.symm⟩
theorem Two.set (h:Two n W b c x0 x1 y0 y1) (u v:Value):Two n ((W.setCell ⟨b,0,none⟩ u).setCell ⟨b,1,none⟩ v) b c u v y0 y1:=by
 have k:=z0v u v h.c0 h.c1
 have kf:∀ a,((W.setCell ⟨b,0,none⟩ u).setCell ⟨b,1,none⟩ v).frozen? a = W.frozen? a:=fun a => by simp only [World.frozen?_setCell]
 exact ⟨k.1,k.2,z0b (z0b h.d0 (ab h.ne)) (ab h.ne),z0b (z0b h.d1 (ab h.ne)) (ab h.ne),(kf _).trans h.f0,(kf _).trans h.f1,(kf _).trans h.g0,(kf _).trans h.g1,h.lb,h.lc,h.ne⟩
end
theorem ztf {S:Nat → Prop} (v:Value) (N D:Int) (w:World) (h:QV S w v N D) (hS:∀ k,S k → k < w.heap.size) (hD:D ≠ 0) (hrn:szZ N) (hrd:szZ D) :
  Calls Tryz.prog 110 #[v] w fun e w' => ∃ v',e = .returned v' ∧ RatQ (New w w') w' v' (Rat.divInt N D) ∧ Ext w w':=by
 obtain ⟨vn,vd,rfl,hn,hd⟩:=h
 obtain ⟨an,cn,rfl⟩:=hn.form
 obtain ⟨ad,cd,rfl⟩:=hd.form
 obtain ⟨ln,hln⟩:∃ n,n = (rep 10 N.natAbs).length:=⟨_,rfl⟩
 obtain ⟨ld,hld⟩:∃ n,n = (rep 10 D.natAbs).length:=⟨_,rfl⟩
 rw [← hln] at hn ⊢
 rw [← hld] at hd ⊢
 obtain ⟨bn,hbn⟩:∃ b,b = decide (N < 0):=⟨_,rfl⟩
 obtain ⟨bd,hbd⟩:∃ b,b = decide (D < 0):=⟨_,rfl⟩
 rw [← hbn,← hbd]
 have HN:=hid hn
 have HD:=hid hd
 have HBN:=hid hbn
 have HBD:=hid hbd
 have HLN:=hid hln
 have HLD:=hid hld
 have HSZ:=hid (And.intro hrn hrd)
 have HD0:=hid hD
 obtain ⟨w0,hw0⟩:∃ Y,Y = (w.alloc (.cells #[.bool bn,.slice an ln cn,.bool bd,.slice ad ld cd] 58)).alloc (.cells #[.bool false,.slice none 0 0,.bool false,.slice none 0 0] 28):=⟨_,rfl⟩
 have HX0:Hid (Ext w w0):=hid (by rw [hw0]; exact (Ext.alloc (Ext.refl _) _).alloc _)
 have HS0:Hid (w0.heap.size = w.heap.size + 2):=hid (by rw [hw0]; simp only [size_alloc])
 have HB:=hid (fun (Y:World) (hY:Ext w0 Y) => by
  rw [hw0] at hY
  exact And.intro (box4_new (b:=w.heap.size) rfl ((Ext.alloc (Ext.refl _) _).trans hY)) (box4_new (b:=w.heap.size + 1) (by rw [size_alloc]) hY))
 obtain ⟨r,hr⟩:∃ r,r = Rat.divInt N D:=⟨_,rfl⟩
 rw [← hr]
 have HR:=hid hr
 have HW0:=hid hw0
 clear hr hn hd hln hld hbn hbd hrn hrd hD hw0
 go_enter Tryz.func110,Tryz.ntmps110
 go_upto_region 1 with fail
 rw [← HW0.out]
 obtain ⟨⟨⟨d0,d1,d2,d3⟩,-⟩,-⟩:=HB.out w0.drew ((Ext.refl w0).drew)
 go_cut [3,4] (fun u3 u4 wx => ∃ b3 b4,u3 = .pointer (some ⟨b3,0,none⟩) ∧ u4 = .pointer (some ⟨b4,0,none⟩) ∧ Hid (Two w0.heap.size wx b3 b4 (.bool bn) (.slice an ln cn) (.bool bd) (.slice ad ld cd)) ∧ Hid (Ext w0 wx))
 case first =>
  have HSS:=hid (fun (Y:World) (hY:Ext w0 Y) => (HB.out Y hY).1.1)
  go_region_held3 (fun Y => Y.cell? ⟨w.heap.size,0,none⟩ = some (.bool bn) ∧ Y.cell? ⟨w.heap.size,1,none⟩ = some (.slice an ln cn) ∧ Y.cell? ⟨w.heap.size,2,none⟩ = some (.bool bd) ∧ Y.cell? ⟨w.heap.size,3,none⟩ = some (.slice ad ld cd)) ((refine HSS.out _ ?_; repeat (first | exact Ext.refl _ | refine Ext.drew ?_ | refine Ext.alloc ?_ _ | refine Ext.set2 ?_ (by first | exact Nat.le_refl _ | exact Nat.le_succ _) _ _)))
   (fail)
  all_goals
   go_wp2_with fail
   go_meet
   first
    | exact ⟨_,_,rfl,rfl,hid (zow (zte (Nat.le_refl _) _ _)),hid (((Ext.refl w0).alloc _).alloc _).drew⟩
    | exact ⟨_,_,rfl,rfl,hid (zow (zte (Nat.le_refl _) _ _).swap),hid (((Ext.refl w0).alloc _).alloc _).drew⟩
    | fail
 case rest =>
  obtain ⟨b3,b4,rfl,rfl,HT,HX1⟩:=hcut
  obtain ⟨w1,hw1⟩:∃ Y,Y = wc:=⟨_,rfl⟩
  rw [← hw1] at HT HX1 ⊢
  clear hw1
  obtain ⟨M,hM⟩:∃ M,M = if D < 0 then -N else N:=⟨_,rfl⟩
  obtain ⟨E,hE⟩:∃ E,E = if D < 0 then -D else D:=⟨_,rfl⟩
  have HME:Hid (M.natAbs = N.natAbs ∧ E.natAbs = D.natAbs ∧ 0 < E):=hid (by
   rw [hM,hE]
   have:=HD0.out
   split <;> simp only [Int.natAbs_neg,true_and,and_true] <;> omega)
  have HM:=hid (And.intro hM hE)
  clear d0 d1 d2 d3
  obtain ⟨y0,y1,z0,z1,-,-,-,-,-,-,-⟩:=HT.out
  go_upto_if 11 with (fail)
  clear y0 y1 z0 z1
  go_cut [] (fun wx => Hid (Two w0.heap.size wx b3 b4 (.bool (decide (M < 0))) (.slice an ln cn) (.bool (decide (E < 0))) (.slice ad ld cd)) ∧ Hid (Ext w0 wx))
  case first =>
   by_cases hneg:D < 0
   ·have hbd:bd = true:=by rw [HBD.out]; exact decide_eq_true hneg
    have e1:M = -N:=by rw [hM,if_pos hneg]
    have e2:E = -D:=by rw [hE,if_pos hneg]
    have C1:=hid (fun (Y:World) (hY:Ext w Y) => zbi (S:=S) (.slice an ln cn) N Y (HN.out.to (Kept.ext hY hS) (fun _ h => h)))
    have C2:=hid (fun (Y:World) (hY:Ext w Y) => zbi (S:=S) (.slice ad ld cd) D Y (HD.out.to (Kept.ext hY hS) (fun _ h => h)))
    rw [← HBN.out,← e1] at C1
    rw [← HBD.out,← e2] at C2
    have HXD:=hid (show Ext w1 w1.drew from (Ext.refl w1).drew)
    have HXW:=hid (HX0.out.trans HX1.out)
    obtain ⟨y0,y1,z0,z1,yf0,yf1,zf0,zf1,-,-,-⟩:=zow HT.out
    subst hbd
    clear hneg hM hE e1 e2
    go_wp2
    go_region_with (first
     | (go_at_call 93; (with_reducible refine (C1.out _ (HXW.out.trans HXD.out)).mono ?_); rintro e w5 ⟨rfl,hx5⟩; have HX5:=hid (HXD.out.trans hx5); have HT5:=hid (HT.out.ext HX5.out); obtain ⟨y0,y1,z0,z1,yf0,yf1,zf0,zf1,-,-,-⟩:=HT5.out; clear hx5)
     | (go_at_call 93; (with_reducible refine (C2.out _ (HXW.out.trans HX5.out)).mono ?_); rintro e w6 ⟨rfl,hx6⟩; have HX6:=hid (HX5.out.trans hx6); have HT6:=hid (HT.out.ext HX6.out); obtain ⟨y0,y1,z0,z1,yf0,yf1,zf0,zf1,-,-,hne⟩:=HT6.out; have hne2:=hne.symm; clear hx6)
     | fail)
    all_goals
     go_wp2_with fail
     go_meet
     exact ⟨hid (((HT6.out.set _ _).swap.set _ _).swap),hid (((HX1.out.trans HX6.out).set2 HT.out.lb _ _).set2 HT.out.lc _ _)⟩
   ·have hbd:bd = false:=by rw [HBD.out]; exact decide_eq_false hneg
    have e1:M = N:=by rw [hM,if_neg hneg]
    have e2:E = D:=by rw [hE,if_neg hneg]
    have HTE:Hid (Two w0.heap.size w1 b3 b4 (.bool (decide (M < 0))) (.slice an ln cn) (.bool (decide (E < 0))) (.slice ad ld cd)):=hid (by rw [e1,e2,← HBN.out,← HBD.out]; exact HT.out)
    subst hbd
    clear hneg hM hE e1 e2
    go_wp2
    all_goals
     go_meet
     exact ⟨HTE,HX1⟩
  case rest =>
   obtain ⟨HT,HX2⟩:=hcut
   obtain ⟨w2,hw2⟩:∃ Y,Y = wc:=⟨_,rfl⟩
   rw [← hw2] at HT HX2 ⊢
   obtain ⟨g,hg⟩:∃ g,g = Nat.gcd M.natAbs E.natAbs:=⟨_,rfl⟩
   have hgd:gOf N D = (if D < 0 then -(g:Int) else (g:Int)):=by
    unfold gOf
    rw [hg,HME.out.1,HME.out.2.1]
    rfl
   obtain ⟨hq0,hq1,hq2⟩:=z9t N D HD0.out
   rw [← HR.out] at hq1 hq2
   have HQ:Hid ((g:Int) ≠ 0 ∧ M = r.num * (g:Int) ∧ E = (r.den:Int) * (g:Int)):=hid (by
    rw [hM,hE]
    rw [hgd] at hq0 hq1 hq2
    split at hq0
    ·next h =>
     rw [if_pos h] at hq1 hq2
     rw [if_pos h,if_pos h]
     refine ⟨by omega,?_,?_⟩
     ·rw [hq1]; rw [Int.mul_neg,Int.neg_neg]
     ·rw [hq2]; rw [Int.mul_neg,Int.neg_neg]
    ·next h =>
     rw [if_neg h] at hq1 hq2
     rw [if_neg h,if_neg h]
     exact ⟨hq0,hq1,hq2⟩)
   have HSM:Hid (szZ M ∧ szZ E):=hid (by unfold szZ; rw [HME.out.1,HME.out.2.1]; exact HSZ.out)
   have HSG:Hid (szZ (g:Int)):=hid (by unfold szZ; rw [Int.natAbs_natCast,hg]; exact zt5 HSM.out.1 HSM.out.2)
   have HXW2:=hid (HX0.out.trans HX2.out)
   have HZM:=hid (fun (Y:World) (hY:Ext w Y) => show ZV S Y (.agg #[.bool (decide (M < 0)),.slice an ln cn]) M from ⟨_,rfl,by rw [HME.out.1]; exact HN.out.to (Kept.ext hY hS) (fun _ h => h)⟩)
   have HZE:=hid (fun (Y:World) (hY:Ext w Y) => show ZV S Y (.agg #[.bool (decide (E < 0)),.slice ad ld cd]) E from ⟨_,rfl,by rw [HME.out.2.1]; exact HD.out.to (Kept.ext hY hS) (fun _ h => h)⟩)
   have CG:=zof (S:=S) _ _ M E g hg w2 (HZM.out w2 HXW2.out) (HZE.out w2 HXW2.out) (fun k h => Nat.lt_of_lt_of_le (hS k h) HXW2.out.size) HSM.out.1 HSM.out.2
   obtain ⟨lg,hlg⟩:∃ n,n = (rep 10 g).length:=⟨_,rfl⟩
   rw [← hlg] at CG
   have HLG:=hid hlg
   have CG:=hid CG
   obtain ⟨y0,y1,z0,z1,yf0,yf1,zf0,zf1,-,-,-⟩:=HT.out
   clear hlg hw2 hM hE hg hgd hq0 hq1 hq2
   go_upto_region 4 with fail
   go_wp2_with fail
   with_reducible refine CG.out.mono ?_
   rintro e w5 ⟨ag,cg,rfl,hg5,hx5⟩
   have HX5:=hid (HX2.out.trans hx5)
   have HX25:=hid hx5
   obtain ⟨b5,hb5⟩:∃ b,b = w5.heap.size:=⟨_,rfl⟩
   obtain ⟨w6,hw6⟩:∃ Y,Y = w5.alloc (.cells #[.bool false,.slice ag lg cg] 56):=⟨_,rfl⟩
   have HX56:Hid (Ext w5 w6):=hid (by rw [hw6]; exact Ext.alloc (Ext.refl _) _)
   have HG6:Hid (Digs (fun k => S k ∨ (w2.heap.size ≤ k ∧ k < w5.heap.size)) w6 (.slice ag lg cg) (rep 10 g)):=hid (hg5.to (Kept.ext HX56.out (fun k h => h.elim (fun h => Nat.lt_of_lt_of_le (hS k h) (HXW2.out.trans hx5).size) (fun h => h.2))) (fun _ h => h))
   have HB5:=hid (fun (Y:World) (hY:Ext w6 Y) => by
    rw [hw6] at hY
    have q:=new2 hY
    rw [← hb5] at q
    exact And.intro q.1 q.2.1)
   have HN5:Hid (b5 = w5.heap.size ∧ b5 < w6.heap.size):=hid ⟨hb5,by rw [hb5,hw6,size_alloc]; omega⟩
   have HX6:=hid (HX5.out.trans HX56.out)
   have HT6:=hid (HT.out.ext (hx5.trans HX56.out))
   have HX26:=hid (hx5.trans HX56.out)
   have HW6:=hid hw6
   -- the boxes lie apart from all digits
   have HAP:Hid (∀ k,(S k ∨ (w2.heap.size ≤ k ∧ k < w5.heap.size)) → k ≠ b3 ∧ k ≠ b4 ∧ k ≠ w.heap.size + 1 ∧ k < w6.heap.size):=hid (fun k h => by
    have l1:=HT.out.lb
    have l2:=HT.out.lc
    have m1:=z08 HT.out.c0
    have m2:=z08 HT.out.d0
    have s0:=HS0.out
    have s2:=HX2.out.size
    have s6:=HX56.out.size
    rcases h with h | h
    ·have:=hS k h
     have:=HXW2.out.size
     have:=hx5.size
     omega
    ·omega)
   clear hg5 hx5 hw6 y0 y1 z0 z1 yf0 yf1 zf0 zf1
   go_upto_region 5 with fail
   rw [← hb5]
   rw [← HW6.out]
   clear hb5
   obtain ⟨y0,y1,z0,z1,yf0,yf1,zf0,zf1,-,-,-⟩:=HT6.out
   obtain ⟨x0,x1⟩:=HB5.out w6 (Ext.refl _)
   have CD:=hid (fun (Y:World) (hK:Kept (fun k => S k ∨ (w2.heap.size ≤ k ∧ k < w5.heap.size)) w6 Y) (hsz:w6.heap.size ≤ Y.heap.size) (u:Value) (m q:Int) (hu:ZV (fun k => S k ∨ (w2.heap.size ≤ k ∧ k < w5.heap.size)) w6 u m) (hm:szZ m) (hmq:m = q * (g:Int)) => zkm (S:=fun k => S k ∨ (w2.heap.size ≤ k ∧ k < w5.heap.size)) u (.agg #[.bool false,.slice ag lg cg]) m (g:Int) q Y (hu.to hK (fun _ h => h)) ⟨.slice ag lg cg,by rw [decide_eq_false (by omega)],by rw [Int.natAbs_natCast]; exact HG6.out.to hK (fun _ h => h)⟩ (fun k h => Nat.lt_of_lt_of_le (HAP.out k h).2.2.2 hsz) hm HSG.out hmq HQ.out.1)
   have CD1:=hid (CD.out w6 (Kept.refl _ _) (Nat.le_refl _) _ M r.num ((HZM.out w6 (HX0.out.trans HX6.out)).to (Kept.refl _ _) (fun _ h => .inl h)) HSM.out.1 HQ.out.2.1)
   go_wp2_with fail
   with_reducible refine CD1.out.mono ?_
   rintro e w7 ⟨v7,a',c',rfl,⟨vq,rfl,hq7⟩,hx7⟩
   obtain ⟨aq,cq,rfl⟩:=hq7.form
   have HQ7:=hid hq7
   have HX67:=hid hx7
   have HT7:=hid (HT6.out.ext hx7)
   obtain ⟨lq,hlq⟩:∃ n,n = (rep 10 r.num.natAbs).length:=⟨_,rfl⟩
   rw [← hlq] at HQ7 ⊢
   obtain ⟨bq,hbq⟩:∃ b,b = decide (r.num < 0):=⟨_,rfl⟩
   rw [← hbq]
   have HLQ:=hid (And.intro hlq hbq)
   obtain ⟨w8,hw8⟩:∃ Y,Y = (w7.setCell ⟨b3,0,none⟩ (.bool bq)).setCell ⟨b3,1,none⟩ (.slice aq lq cq):=⟨_,rfl⟩
   have HT8:Hid (Two w0.heap.size w8 b3 b4 (.bool bq) (.slice aq lq cq) (.bool (decide (E < 0))) (.slice ad ld cd)):=hid (by rw [hw8]; exact HT7.out.set _ _)
   have HX8:Hid (Ext w0 w8):=hid (by rw [hw8]; exact (HX6.out.trans hx7).set2 HT.out.lb _ _)
   have HK8:Hid (∀ (S':Nat → Prop),¬ S' b3 → Kept S' w7 w8):=hid (fun S' h => by rw [hw8]; exact Kept.set2 h _ _)
   have HS8:Hid (w8.heap.size = w7.heap.size):=hid (by rw [hw8]; simp only [z06])
   have HW8:=hid hw8
   have hb35:b3 ≠ b5:=by
    have m1:=z08 HT.out.c0
    have m2:=HN5.out.1
    have m3:=HX25.out.size
    omega
   have HB8:=hid (fun (Y:World) (hY:Ext w8 Y) => by
    obtain ⟨p0,p1⟩:=HB5.out w7 HX67.out
    have q0:w8.cell? ⟨b5,0,none⟩ = some (.bool false):=by rw [hw8]; exact z0b (z0b p0 (ab hb35)) (ab hb35)
    have q1:w8.cell? ⟨b5,1,none⟩ = some (.slice ag lg cg):=by rw [hw8]; exact z0b (z0b p1 (ab hb35)) (ab hb35)
    exact And.intro (hY.cell q0) (hY.cell q1))
   have CD2:=hid (CD.out w8 ((Kept.ext HX67.out (fun k h => (HAP.out k h).2.2.2)).trans (HK8.out _ (fun h => (HAP.out b3 h).1 rfl))) (by rw [HS8.out]; exact HX67.out.size) _ E (r.den:Int) ((HZE.out w6 (HX0.out.trans HX6.out)).to (Kept.refl _ _) (fun _ h => .inl h)) HSM.out.2 HQ.out.2.2)
   have HB35:=hid hb35
   clear hq7 hx7 hw8 hlq hbq x0 x1 y0 y1 z0 z1 yf0 yf1 zf0 zf1 hb35
   obtain ⟨y0,y1,z0,z1,yf0,yf1,zf0,zf1,-,-,-⟩:=HT7.out
   go_upto_region 6 with fail
   clear y0 y1 z0 z1 yf0 yf1 zf0 zf1
   rw [← HW8.out]
   obtain ⟨y0,y1,z0,z1,yf0,yf1,zf0,zf1,-,-,-⟩:=HT8.out
   obtain ⟨x0,x1⟩:=HB8.out w8 (Ext.refl _)
   go_wp2_with fail
   with_reducible refine CD2.out.mono ?_
   rintro e w9 ⟨v9,a9',c9',rfl,⟨vr,rfl,hr9⟩,hx9⟩
   obtain ⟨ar,cr,rfl⟩:=hr9.form
   have HX89:=hid hx9
   have HT9:=hid (HT8.out.ext hx9)
   obtain ⟨lr,hlr⟩:∃ n,n = (rep 10 (r.den:Int).natAbs).length:=⟨_,rfl⟩
   obtain ⟨br,hbr⟩:∃ b,b = decide ((r.den:Int) < 0):=⟨_,rfl⟩
   rw [← hlr] at hr9 ⊢
   rw [← hbr]
   have HR9:=hid hr9
   have HLR:=hid (And.intro hlr hbr)
   obtain ⟨w10,hw10⟩:∃ Y,Y = (w9.setCell ⟨b4,0,none⟩ (.bool br)).setCell ⟨b4,1,none⟩ (.slice ar lr cr):=⟨_,rfl⟩
   have HT10:Hid (Two w0.heap.size w10 b3 b4 (.bool bq) (.slice aq lq cq) (.bool br) (.slice ar lr cr)):=hid (by rw [hw10]; exact (HT9.out.swap.set _ _).swap)
   have HX10:Hid (Ext w0 w10):=hid (by rw [hw10]; exact (HX8.out.trans hx9).set2 HT.out.lc _ _)
   have HK10:Hid (∀ (S':Nat → Prop),¬ S' b4 → Kept S' w9 w10):=hid (fun S' h => by rw [hw10]; exact Kept.set2 h _ _)
   have HS10:Hid (w10.heap.size = w9.heap.size):=hid (by rw [hw10]; simp only [z06])
   have HW10:=hid hw10
   clear hr9 hx9 hlr hbr hw10 x0 x1 y0 y1 z0 z1 yf0 yf1 zf0 zf1
   obtain ⟨y0,y1,z0,z1,yf0,yf1,zf0,zf1,-,-,-⟩:=HT9.out
   go_upto_region 7 with fail
   clear y0 y1 z0 z1 yf0 yf1 zf0 zf1
   rw [← HW10.out]
   have HLB:Hid (b3 < w6.heap.size ∧ b4 < w6.heap.size ∧ w.heap.size + 1 < w6.heap.size):=hid (by
    have m1:=z08 HT.out.c0
    have m2:=z08 HT.out.d0
    have m3:=HX26.out.size
    have m4:=HX2.out.size
    have m5:=HS0.out
    omega)
   have HQN:Hid (Digs (fun k => w6.heap.size ≤ k ∧ k < w10.heap.size) w10 (.slice aq lq cq) (rep 10 r.num.natAbs)):=hid (by
    have k1:=HQ7.out.to (S':=fun k => w6.heap.size ≤ k ∧ k < w7.heap.size) (HK8.out _ (fun h => by have h1:=h.1; have h2:=HLB.out; omega)) (fun k h => h)
    have k2:=k1.to (S':=fun k => w6.heap.size ≤ k ∧ k < w7.heap.size) (Kept.ext HX89.out (fun k h => by rw [HS8.out]; exact h.2)) (fun k h => h)
    exact k2.to (HK10.out _ (fun h => by have h1:=h.1; have h2:=HLB.out; omega)) (fun k h => ⟨h.1,by rw [HS10.out]; have h1:=HX89.out.size; rw [HS8.out] at h1; have h2:=h.2; omega⟩))
   have HQD:Hid (Digs (fun k => w6.heap.size ≤ k ∧ k < w10.heap.size) w10 (.slice ar lr cr) (rep 10 (r.den:Int).natAbs)):=hid (HR9.out.to (HK10.out _ (fun h => by have h1:=h.1; have h2:=HLB.out; have h3:=HS8.out; have h4:=HX67.out.size; omega)) (fun k h => ⟨by have h1:=h.1; have h3:=HS8.out; have h4:=HX67.out.size; omega,by rw [HS10.out]; exact h.2⟩))
   have HSQ:Hid (szZ r.num ∧ szZ (r.den:Int)):=hid (by
    have h1:=HQ.out
    have hg1:0 < g:=Nat.pos_of_ne_zero (fun e => h1.1 (by rw [e]; rfl))
    unfold szZ
    constructor
    ·refine Nat.le_trans (z3h ?_) HSM.out.1
     rw [h1.2.1,Int.natAbs_mul,Int.natAbs_natCast]
     exact Nat.le_mul_of_pos_right _ hg1
    ·refine Nat.le_trans (z3h ?_) HSM.out.2
     rw [h1.2.2,Int.natAbs_mul,Int.natAbs_natCast]
     exact Nat.le_mul_of_pos_right _ hg1)
   have CI1:=hid (fun (Y:World) (hY:Ext w10 Y) => zbg (S:=fun k => w6.heap.size ≤ k ∧ k < w10.heap.size) (.agg #[.bool bq,.slice aq lq cq]) r.num Y ⟨_,by rw [HLQ.out.2],HQN.out.to (Kept.ext hY (fun k h => h.2)) (fun _ h => h)⟩ (fun k h => Nat.lt_of_lt_of_le h.2 hY.size) HSQ.out.1)
   have CI2:=hid (fun (Y:World) (hY:Ext w10 Y) => zbg (S:=fun k => w6.heap.size ≤ k ∧ k < w10.heap.size) (.agg #[.bool br,.slice ar lr cr]) (r.den:Int) Y ⟨_,by rw [HLR.out.2],HQD.out.to (Kept.ext hY (fun k h => h.2)) (fun _ h => h)⟩ (fun k h => Nat.lt_of_lt_of_le h.2 hY.size) HSQ.out.2)
   have HXD:=hid (show Ext w10 w10.drew from (Ext.refl w10).drew)
   have HXW10:=hid (HX0.out.trans HX10.out)
   obtain ⟨y0,y1,z0,z1,-,-,-,-,-,-,-⟩:=zow HT10.out
   obtain ⟨nn,hnn⟩:∃ z,z = (ofI r.num).neg:=⟨_,rfl⟩
   obtain ⟨nd,hnd⟩:∃ z,z = (ofI (r.den:Int)).neg:=⟨_,rfl⟩
   have HNN:=hid (And.intro hnn hnd)
   clear hnn hnd
   go_cut [] (fun wx => ∃ vn vd,Hid (z39 wx (w.heap.size + 1) (.bool nn) vn (.bool nd) vd ∧ RatI (New w wx) wx (.agg #[.bool nn,vn,.bool nd,vd]) (ofI r.num) (ofI (r.den:Int)) ∧ Ext w wx))
   case first =>
    go_region_with (first
     | (go_at_call 52; (with_reducible refine (CI1.out _ HXD.out).mono ?_); rintro e w11 ⟨v11,rfl,⟨vu,rfl,hu11⟩,hx11⟩; have HX11:=hid (HXD.out.trans hx11); have HU11:=hid hu11; have HT11:=hid (HT10.out.ext HX11.out); obtain ⟨y0,y1,z0,z1,-,-,-,-,-,-,-⟩:=HT11.out; rw [← HNN.out.1]; obtain ⟨a11,c11,rfl⟩:=hu11.form; clear hu11 hx11)
     | (go_at_call 52; (with_reducible refine (CI2.out _ HX11.out).mono ?_); rintro e w12 ⟨v12,rfl,⟨vt,rfl,hu12⟩,hx12⟩; have HX12:=hid (HX11.out.trans hx12); have HX1112:=hid hx12; have HU12:=hid hu12; rw [← HNN.out.2]; obtain ⟨a12,c12,rfl⟩:=hu12.form; obtain ⟨-,⟨g0,g1,g2,g3⟩,f0,f1,f2,f3⟩:=HB.out _ (HX10.out.trans HX12.out); clear hu12 hx12)
     | fail)
    all_goals
     go_wp2_with fail
     go_meet
     have hq:=zu8 (w:=w) (w5:=w12) (b:=w.heap.size + 1) (n:=w0.heap.size) (x:=ofI r.num) (y:=ofI (r.den:Int)) (Nat.le_succ _) (by rw [HS0.out]; omega) (HXW10.out.trans HX12.out) ⟨g0,g1,g2,g3⟩ (HU11.out.to (Kept.ext HX1112.out New.lt) (fun k h => ⟨Nat.le_trans (HX10.out.trans HXD.out).size h.1,Nat.lt_of_lt_of_le h.2 HX1112.out.size⟩)) (HU12.out.to (Kept.refl _ _) (fun k h => ⟨Nat.le_trans (HX10.out.trans HX11.out).size h.1,h.2⟩))
     rw [← HNN.out.1,← HNN.out.2] at hq
     with_reducible exact ⟨_,_,hid hq⟩
   case rest =>
    obtain ⟨vn,vd,HQF⟩:=hcut
    obtain ⟨k0,k1,k2,k3⟩:=HQF.out.1
    go_wp2
    all_goals
     refine bodyPost_ret (v:=.agg #[.bool nn,vn,.bool nd,vd]) (by simp [results,Tryz.results110,go_sem,k0,k1,k2,k3]) rfl ?_
     exact ⟨_,rfl,HQF.out.2.1,HQF.out.2.2⟩
end
section
open Go.RowKit
def QQ (S:Nat → Prop) (w:World) (v:Value) (q:Rat):Prop:=QV S w v q.num (q.den:Int)
def QR (S:Nat → Prop) (w:World) (v:Value) (q:Rat) (B:Nat):Prop:=∃ N D,QV S w v N D ∧ D ≠ 0 ∧ Rat.divInt N D = q ∧ N.natAbs < 10 ^ B ∧ D.natAbs < 10 ^ B
theorem QR.to {S S':Nat → Prop} {w w':World} {v:Value} {q:Rat} {B:Nat} (h:QR S w v q B) (hk:Kept S w w') (hS:∀ k,S k → S' k):QR S' w' v q B:=by
 obtain ⟨N,D,h1,h2⟩:=h
 exact ⟨N,D,h1.to hk hS,h2⟩
theorem zbn {a b:Nat} (h:a ≤ b):10 ^ a ≤ 10 ^ b:=Nat.pow_le_pow_right (by decide) h
theorem zlo (k:Nat):10 ^ (9 * k) ≤ B32 ^ k:=by
 rw [Nat.pow_mul]
 exact Nat.pow_le_pow_left (by unfold B32; decide) k
theorem zlp {z:Int} {B:Nat} (h:z.natAbs < 10 ^ B) (hB:B ≤ 800000):(ofI z).mag.length ≤ 100000:=by
 have h1:z.natAbs < B32 ^ 88889:=Nat.lt_of_lt_of_le h (Nat.le_trans (zbn (b:=9 * 88889) (by omega)) (zlo 88889))
 exact Nat.le_trans (z38 h1) (by omega)
theorem q_sz {z:Int} {B:Nat} (h:z.natAbs < 10 ^ B) (hB:B ≤ 800000):szZ z:=zcx h (by omega)
theorem zlq (N D:Int) (hD:D ≠ 0):(Rat.divInt N D).num.natAbs ≤ N.natAbs ∧ ((Rat.divInt N D).den:Int).natAbs ≤ D.natAbs:=by
 obtain ⟨h0,h1,h2⟩:=z9t N D hD
 have hg:0 < (gOf N D).natAbs:=Int.natAbs_pos.2 h0
 constructor
 ·conv => rhs; rw [h1,Int.natAbs_mul]
  exact Nat.le_mul_of_pos_right _ hg
 ·conv => rhs; rw [h2,Int.natAbs_mul]
  exact Nat.le_mul_of_pos_right _ hg
theorem QQ.qr {S:Nat → Prop} {w:World} {v:Value} {N D:Int} {B:Nat} (h:QQ S w v (Rat.divInt N D)) (hD:D ≠ 0) (hN:N.natAbs < 10 ^ B) (hE:D.natAbs < 10 ^ B):QR S w v (Rat.divInt N D) B :=
 ⟨_,_,h,by have:=(Rat.divInt N D).den_nz; omega,Rat.num_divInt_den _,Nat.lt_of_le_of_lt (zlq N D hD).1 hN,Nat.lt_of_le_of_lt (zlq N D hD).2 hE⟩
theorem zox {S:Nat → Prop} (v:Value) (N D:Int) (B:Nat) (w:World) (h:QV S w v N D) (hS:∀ k,S k → k < w.heap.size) (hD:D ≠ 0) (hrn:N.natAbs < 10 ^ B) (hrd:D.natAbs < 10 ^ B) (hB:B ≤ 800000) :
  Calls Tryz.prog 76 #[v] w fun e w' => ∃ v',e = .returned v' ∧ QQ (New w w') w' v' (Rat.divInt N D) ∧ Ext w w':=by
 obtain ⟨hl1,hl2⟩:=zlq N D hD
 have HLM:Hid ((ofI (Rat.divInt N D).num).mag.length ≤ 100000 ∧ (ofI ((Rat.divInt N D).den:Int)).mag.length ≤ 100000):=hid ⟨zlp (Nat.lt_of_le_of_lt hl1 hrn) hB,zlp (Nat.lt_of_le_of_lt hl2 hrd) hB⟩
 have CR:=hid (fun (Y:World) (hY:Ext w Y) => ztf (S:=S) v N D Y (h.to (Kept.ext hY hS) (fun _ h => h)) (fun k h => Nat.lt_of_lt_of_le (hS k h) hY.size) hD (q_sz hrn hB) (q_sz hrd hB))
 obtain ⟨vn,vd,rfl,hn,hd⟩:=h
 obtain ⟨an,cn,rfl⟩:=hn.form
 obtain ⟨ad,cd,rfl⟩:=hd.form
 obtain ⟨ln,hln⟩:∃ n,n = (rep 10 N.natAbs).length:=⟨_,rfl⟩
 obtain ⟨ld,hld⟩:∃ n,n = (rep 10 D.natAbs).length:=⟨_,rfl⟩
 obtain ⟨bn,hbn⟩:∃ b,b = decide (N < 0):=⟨_,rfl⟩
 obtain ⟨bd,hbd⟩:∃ b,b = decide (D < 0):=⟨_,rfl⟩
 rw [← hln,← hld,← hbn,← hbd] at CR ⊢
 obtain ⟨q,hq⟩:∃ q,q = Rat.divInt N D:=⟨_,rfl⟩
 rw [← hq] at CR HLM ⊢
 obtain ⟨w0,hw0⟩:∃ Y,Y = (w.alloc (.cells #[.bool bn,.slice an ln cn,.bool bd,.slice ad ld cd] 58)).alloc (.cells #[.bool false,.slice none 0 0,.bool false,.slice none 0 0] 58):=⟨_,rfl⟩
 have HX0:Hid (Ext w w0):=hid (by rw [hw0]; exact (Ext.alloc (Ext.refl _) _).alloc _)
 have HS0:Hid (w0.heap.size = w.heap.size + 2):=hid (by rw [hw0]; simp only [size_alloc])
 have HB:=hid (fun (Y:World) (hY:Ext w0 Y) => by
  rw [hw0] at hY
  exact And.intro (box4_new (b:=w.heap.size) rfl ((Ext.alloc (Ext.refl _) _).trans hY)) (box4_new (b:=w.heap.size + 1) (by rw [size_alloc]) hY))
 have HW0:=hid hw0
 have CR0:=hid (CR.out w0 HX0.out)
 clear hn hd hln hld hbn hbd hq hw0 hrn hrd hD hl1 hl2 hB CR
 go_enter Tryz.func76,Tryz.ntmps76
 go_upto_region 1 with fail
 rw [← HW0.out]
 obtain ⟨⟨⟨d0,d1,d2,d3⟩,-⟩,-⟩:=HB.out w0 (Ext.refl _)
 go_wp2_with fail
 with_reducible refine CR0.out.mono ?_
 rintro e w1 ⟨v1,rfl,hr1,hx1⟩
 have HX1:=hid hx1
 have CO:=ztd (S:=New w0 w1) v1 (ofI q.num) (ofI (q.den:Int)) w1 hr1 New.lt HLM.out.1 HLM.out.2
 rw [z1t,z1t,show denQ (q.den:Int) = (q.den:Int) from if_neg (by have:=q.den_nz; omega)] at CO
 have CO:=hid CO
 obtain ⟨vr,vt,rfl,hu1,hu2⟩:=hr1
 obtain ⟨a1,c1,rfl⟩:=hu1.form
 obtain ⟨a2,c2,rfl⟩:=hu2.form
 clear hx1 hu1 hu2 d0 d1 d2 d3
 go_wp2_with fail
 with_reducible refine CO.out.mono ?_
 rintro e w2 ⟨v2,rfl,⟨vn2,vd2,rfl,hn2,hd2⟩,hx2⟩
 have HX2:=hid (HX1.out.trans hx2)
 obtain ⟨a3,c3,rfl⟩:=hn2.form
 obtain ⟨a4,c4,rfl⟩:=hd2.form
 have HN2:=hid hn2
 have HD2:=hid hd2
 obtain ⟨-,⟨g0,g1,g2,g3⟩,f0,f1,f2,f3⟩:=HB.out w2 HX2.out
 have hq:=zf7 (w:=w) (w5:=w2) (b:=w.heap.size + 1) (n:=w0.heap.size) (N:=q.num) (D:=(q.den:Int)) (Nat.le_succ _) (by rw [HS0.out]; omega) (HX0.out.trans HX2.out) ⟨g0,g1,g2,g3⟩ (z2c HN2.out HX1.out.size) (z2c HD2.out HX1.out.size)
 have HQ:=hid hq
 obtain ⟨bq,hbq⟩:∃ b,b = decide (q.num < 0):=⟨_,rfl⟩
 obtain ⟨bt,hbt⟩:∃ b,b = decide ((q.den:Int) < 0):=⟨_,rfl⟩
 obtain ⟨l3,hl3⟩:∃ n,n = (rep 10 q.num.natAbs).length:=⟨_,rfl⟩
 obtain ⟨l4,hl4⟩:∃ n,n = (rep 10 (q.den:Int).natAbs).length:=⟨_,rfl⟩
 rw [← hbq,← hbt,← hl3,← hl4] at HQ ⊢
 clear hx2 hn2 hd2 hq hbq hbt hl3 hl4
 go_wp2
 all_goals
  obtain ⟨⟨k0,k1,k2,k3⟩,hqq,hxx⟩:=HQ.out
  refine bodyPost_ret (v:=.agg #[.bool bq,.slice a3 l3 c3,.bool bt,.slice a4 l4 c4]) (by simp [results,Tryz.results76,go_sem,k0,k1,k2,k3]) rfl ?_
  exact ⟨_,rfl,hqq,hxx⟩
theorem zrv (w:World):Calls Tryz.prog 35 #[.int .i64 0,.int .i64 1] w fun e w' => ∃ v',e = .returned v' ∧ QV (New w w') w' v' 0 1 ∧ Ext w w':=by
 obtain ⟨w0,hw0⟩:∃ Y,Y = w.alloc (.cells #[.bool false,.slice none 0 0,.bool false,.slice none 0 0] 58):=⟨_,rfl⟩
 have HX0:Hid (Ext w w0):=hid (by rw [hw0]; exact Ext.alloc (Ext.refl _) _)
 have HS0:Hid (w0.heap.size = w.heap.size + 1):=hid (by rw [hw0]; simp only [size_alloc])
 have HB:=hid (fun (Y:World) (hY:Ext w0 Y) => by
  rw [hw0] at hY
  exact box4_new (b:=w.heap.size) rfl hY)
 have HW0:=hid hw0
 have C1:=hid (zrt w0)
 clear hw0
 go_enter Tryz.func35,Tryz.ntmps35
 go_upto_region 1 with fail
 rw [← HW0.out]
 go_wp2_with fail
 with_reducible refine C1.out.mono ?_
 rintro e w1 ⟨v1,rfl,⟨vd1,rfl,hd1⟩,hx1⟩
 have HX1:=hid hx1
 have HD1:=hid hd1
 obtain ⟨a1,c1,e1⟩:∃ a c,vd1 = .slice a 0 c:=hd1.form
 subst e1
 have C2:=hid (zf8 w1)
 clear hx1 hd1
 go_wp2_with fail
 with_reducible refine C2.out.mono ?_
 rintro e w2 ⟨v2,rfl,⟨vd2,rfl,hd2⟩,hx2⟩
 have HX2:=hid (HX1.out.trans hx2)
 have HX12:=hid hx2
 have HD2:=hid hd2
 obtain ⟨a2,c2,e2⟩:∃ a c,vd2 = .slice a 1 c:=hd2.form
 subst e2
 obtain ⟨⟨g0,g1,g2,g3⟩,f0,f1,f2,f3⟩:=HB.out w2 HX2.out
 have hq:=zf7 (w:=w) (w5:=w2) (b:=w.heap.size) (n:=w0.heap.size) (N:=0) (D:=1) (Nat.le_refl _) (by rw [HS0.out]; omega) (HX0.out.trans HX2.out) ⟨g0,g1,g2,g3⟩ (z8z (z2c HD1.out (Nat.le_refl _)) HX12.out (Nat.le_refl _)) (z2c HD2.out HX1.out.size)
 have HQ:=hid (show z39 (set4 w2 w.heap.size (.bool false) (.slice a1 0 c1) (.bool false) (.slice a2 1 c2)) w.heap.size (.bool false) (.slice a1 0 c1) (.bool false) (.slice a2 1 c2) ∧ QV (New w (set4 w2 w.heap.size (.bool false) (.slice a1 0 c1) (.bool false) (.slice a2 1 c2))) (set4 w2 w.heap.size (.bool false) (.slice a1 0 c1) (.bool false) (.slice a2 1 c2)) (.agg #[.bool false,.slice a1 0 c1,.bool false,.slice a2 1 c2]) 0 1 ∧ Ext w (set4 w2 w.heap.size (.bool false) (.slice a1 0 c1) (.bool false) (.slice a2 1 c2)) from hq)
 clear hx2 hd2 hq
 go_wp2
 all_goals
  obtain ⟨⟨k0,k1,k2,k3⟩,hqq,hxx⟩:=HQ.out
  refine bodyPost_ret (v:=.agg #[.bool false,.slice a1 0 c1,.bool false,.slice a2 1 c2]) (by simp [results,Tryz.results35,go_sem,k0,k1,k2,k3]) rfl ?_
  exact ⟨_,rfl,hqq,hxx⟩
theorem zdb {S:Nat → Prop} {vx vy:Value} {x y z:Int} {b:Bool} {l:Nat} (hz:z = x * y) (hb:b = decide (z < 0)) (hl:l = (rep 10 z.natAbs).length) (w:World) (hx:ZV S w vx x) (hy:ZV S w vy y) (hS:∀ k,S k → k < w.heap.size) (hrx:szZ x) (hry:szZ y) :
  Calls Tryz.prog 75 #[vx,vy] w fun e w' => ∃ a c,e = .returned (.agg #[.bool b,.slice a l c]) ∧ Digs (New w w') w' (.slice a l c) (rep 10 z.natAbs) ∧ Ext w w':=by
 subst hz hb hl
 exact (zkc vx vy x y w hx hy hS hrx hry).mono (by
  rintro e w' ⟨v',rfl,⟨vd,rfl,hd⟩,hx⟩
  obtain ⟨a,c,rfl⟩:=hd.form
  exact ⟨a,c,rfl,hd,hx⟩)
theorem ztg {S:Nat → Prop} {vx vy:Value} {x y z:Int} {b:Bool} {l:Nat} (hz:z = x + y) (hb:b = decide (z < 0)) (hl:l = (rep 10 z.natAbs).length) (w:World) (hx:ZV S w vx x) (hy:ZV S w vy y) (hS:∀ k,S k → k < w.heap.size) (hrx:szZ x) (hry:szZ y) :
  Calls Tryz.prog 77 #[vx,vy] w fun e w' => ∃ a c,e = .returned (.agg #[.bool b,.slice a l c]) ∧ Digs (New w w') w' (.slice a l c) (rep 10 z.natAbs) ∧ Ext w w':=by
 subst hz hb hl
 exact (zkf vx vy x y w hx hy hS hrx hry).mono (by
  rintro e w' ⟨v',rfl,⟨vd,rfl,hd⟩,hx⟩
  obtain ⟨a,c,rfl⟩:=hd.form
  exact ⟨a,c,rfl,hd,hx⟩)
theorem zgm {S:Nat → Prop} {a1 a2:Option Addr} {c1 c2:Nat} {N D:Int} {b1 b2 b3 b4:Bool} {l1 l2 l3 l4:Nat} {q:Rat} (B:Nat) (hb1:b1 = decide (N < 0)) (hb2:b2 = decide (D < 0)) (hq:q = Rat.divInt N D) (hb3:b3 = decide (q.num < 0)) (hb4:b4 = decide ((q.den:Int) < 0)) (hl3:l3 = (rep 10 q.num.natAbs).length) (hl4:l4 = (rep 10 (q.den:Int).natAbs).length)
  (w:World) (h1:Digs S w (.slice a1 l1 c1) (rep 10 N.natAbs)) (h2:Digs S w (.slice a2 l2 c2) (rep 10 D.natAbs)) (hS:∀ k,S k → k < w.heap.size) (hD:D ≠ 0) (hrn:N.natAbs < 10 ^ B) (hrd:D.natAbs < 10 ^ B) (hB:B ≤ 800000) :
  Calls Tryz.prog 76 #[.agg #[.bool b1,.slice a1 l1 c1,.bool b2,.slice a2 l2 c2]] w fun e w' => ∃ a3 c3 a4 c4,e = .returned (.agg #[.bool b3,.slice a3 l3 c3,.bool b4,.slice a4 l4 c4]) ∧ Digs (New w w') w' (.slice a3 l3 c3) (rep 10 q.num.natAbs) ∧ Digs (New w w') w' (.slice a4 l4 c4) (rep 10 (q.den:Int).natAbs) ∧ Ext w w':=by
 subst hb1 hb2 hq hb3 hb4 hl3 hl4
 exact (zox _ N D B w ⟨_,_,rfl,h1,h2⟩ hS hD hrn hrd hB).mono (by
  rintro e w' ⟨v',rfl,⟨vn,vd,rfl,hn,hd⟩,hx⟩
  obtain ⟨a3,c3,rfl⟩:=hn.form
  obtain ⟨a4,c4,rfl⟩:=hd.form
  exact ⟨a3,c3,a4,c4,rfl,hn,hd,hx⟩)
theorem z7g {S:Nat → Prop} {w:World} {v:Value} {z:Int} {b:Bool} (h:Digs S w v (rep 10 z.natAbs)) (hb:b = decide (z < 0)):ZV S w (.agg #[.bool b,v]) z:=⟨v,by rw [hb],h⟩
theorem zqi {S:Nat → Prop} (u v:Value) (p q:Rat) (A B:Nat) (w:World) (hu:QR S w u p A) (hv:QR S w v q B) (hS:∀ k,S k → k < w.heap.size) (hB:A + B ≤ 800000) :
  Calls Tryz.prog 37 #[u,v] w fun e w' => ∃ v',e = .returned v' ∧ QR (New w w') w' v' (p * q) (A + B) ∧ Ext w w':=by
 obtain ⟨N1,D1,⟨vn1,vd1,rfl,hn1,hd1⟩,h01,hp,hs1,hs2⟩:=hu
 obtain ⟨N2,D2,⟨vn2,vd2,rfl,hn2,hd2⟩,h02,hq,hs3,hs4⟩:=hv
 have HS14:=hid (And.intro hs1 (And.intro hs2 (And.intro hs3 hs4)))
 have HD0:=hid (And.intro h01 h02)
 have HPQ:=hid (And.intro hp hq)
 obtain ⟨an1,cn1,rfl⟩:=hn1.form
 obtain ⟨ad1,cd1,rfl⟩:=hd1.form
 obtain ⟨an2,cn2,rfl⟩:=hn2.form
 obtain ⟨ad2,cd2,rfl⟩:=hd2.form
 obtain ⟨l1,hl1⟩:∃ n,n = (rep 10 N1.natAbs).length:=⟨_,rfl⟩
 obtain ⟨l2,hl2⟩:∃ n,n = (rep 10 D1.natAbs).length:=⟨_,rfl⟩
 obtain ⟨l3,hl3⟩:∃ n,n = (rep 10 N2.natAbs).length:=⟨_,rfl⟩
 obtain ⟨l4,hl4⟩:∃ n,n = (rep 10 D2.natAbs).length:=⟨_,rfl⟩
 obtain ⟨b1,hb1⟩:∃ b,b = decide (N1 < 0):=⟨_,rfl⟩
 obtain ⟨b2,hb2⟩:∃ b,b = decide (D1 < 0):=⟨_,rfl⟩
 obtain ⟨b3,hb3⟩:∃ b,b = decide (N2 < 0):=⟨_,rfl⟩
 obtain ⟨b4,hb4⟩:∃ b,b = decide (D2 < 0):=⟨_,rfl⟩
 rw [← hl1] at hn1 ⊢
 rw [← hl2] at hd1 ⊢
 rw [← hl3] at hn2 ⊢
 rw [← hl4] at hd2 ⊢
 rw [← hb1,← hb2,← hb3,← hb4]
 have HN1:=hid (fun (Y:World) (hY:Ext w Y) => z7g (hn1.to (S':=Old Y) (Kept.ext hY hS) (fun k h => Nat.lt_of_lt_of_le (hS k h) hY.size)) hb1)
 have HD1:=hid (fun (Y:World) (hY:Ext w Y) => z7g (hd1.to (S':=Old Y) (Kept.ext hY hS) (fun k h => Nat.lt_of_lt_of_le (hS k h) hY.size)) hb2)
 have HN2:=hid (fun (Y:World) (hY:Ext w Y) => z7g (hn2.to (S':=Old Y) (Kept.ext hY hS) (fun k h => Nat.lt_of_lt_of_le (hS k h) hY.size)) hb3)
 have HD2:=hid (fun (Y:World) (hY:Ext w Y) => z7g (hd2.to (S':=Old Y) (Kept.ext hY hS) (fun k h => Nat.lt_of_lt_of_le (hS k h) hY.size)) hb4)
 have HSZ:Hid (szZ N1 ∧ szZ D1 ∧ szZ N2 ∧ szZ D2):=hid ⟨q_sz hs1 (by omega),q_sz hs2 (by omega),q_sz hs3 (by omega),q_sz hs4 (by omega)⟩
 obtain ⟨wb,hwb⟩:∃ Y,Y = (w.alloc (.cells #[.bool b1,.slice an1 l1 cn1,.bool b2,.slice ad1 l2 cd1] 58)).alloc (.cells #[.bool b3,.slice an2 l3 cn2,.bool b4,.slice ad2 l4 cd2] 58):=⟨_,rfl⟩
 obtain ⟨w0,hw0⟩:∃ Y,Y = wb.alloc (.cells #[.bool false,.slice none 0 0,.bool false,.slice none 0 0] 58):=⟨_,rfl⟩
 have HXB:Hid (Ext w wb):=hid (by rw [hwb]; exact (Ext.alloc (Ext.refl _) _).alloc _)
 have HXB0:Hid (Ext wb w0):=hid (by rw [hw0]; exact Ext.alloc (Ext.refl _) _)
 have HX0:=hid (HXB.out.trans HXB0.out)
 have HSB:Hid (wb.heap.size = w.heap.size + 2):=hid (by rw [hwb]; simp only [size_alloc])
 have HS0:Hid (w0.heap.size = w.heap.size + 3):=hid (by rw [hw0,size_alloc,HSB.out])
 have HSS:=hid (fun (Y:World) (hY:Ext wb Y) => by
  rw [hwb] at hY
  exact And.intro (box4_new (b:=w.heap.size) rfl ((Ext.alloc (Ext.refl _) _).trans hY)).1 (box4_new (b:=w.heap.size + 1) (by rw [size_alloc]) hY).1)
 have HBR:=hid (fun (Y:World) (hY:Ext w0 Y) => by
  rw [hw0] at hY
  exact box4_new (b:=w.heap.size + 1 + 1) (by rw [HSB.out]) hY)
 have HW0:Hid (w0 = _):=hid (by rw [hw0,hwb])
 obtain ⟨P1,hP1⟩:∃ z,z = N1 * N2:=⟨_,rfl⟩
 obtain ⟨P2,hP2⟩:∃ z,z = D1 * D2:=⟨_,rfl⟩
 obtain ⟨m1,hm1⟩:∃ n,n = (rep 10 P1.natAbs).length:=⟨_,rfl⟩
 obtain ⟨m2,hm2⟩:∃ n,n = (rep 10 P2.natAbs).length:=⟨_,rfl⟩
 obtain ⟨y1,hy1⟩:∃ b,b = decide (P1 < 0):=⟨_,rfl⟩
 obtain ⟨y2,hy2⟩:∃ b,b = decide (P2 < 0):=⟨_,rfl⟩
 have hsp1:P1.natAbs < 10 ^ (A + B):=by
  rw [hP1,Int.natAbs_mul,Nat.pow_add]
  exact Nat.mul_lt_mul'' hs1 hs3
 have hsp2:P2.natAbs < 10 ^ (A + B):=by
  rw [hP2,Int.natAbs_mul,Nat.pow_add]
  exact Nat.mul_lt_mul'' hs2 hs4
 have hp20:P2 ≠ 0:=by rw [hP2]; exact Int.mul_ne_zero h01 h02
 have C1:=hid (fun (Y:World) (hY:Ext w Y) => zdb hP1 hy1 hm1 Y (HN1.out Y hY) (HN2.out Y hY) (fun _ h => h) HSZ.out.1 HSZ.out.2.2.1)
 have C2:=hid (fun (Y:World) (hY:Ext w Y) => zdb hP2 hy2 hm2 Y (HD1.out Y hY) (HD2.out Y hY) (fun _ h => h) HSZ.out.2.1 HSZ.out.2.2.2)
 have hres:p * q = Rat.divInt P1 P2:=by rw [← hp,← hq,Rat.divInt_mul_divInt,hP1,hP2]
 obtain ⟨r,hr⟩:∃ r,r = Rat.divInt P1 P2:=⟨_,rfl⟩
 obtain ⟨m3,hm3⟩:∃ n,n = (rep 10 r.num.natAbs).length:=⟨_,rfl⟩
 obtain ⟨m4,hm4⟩:∃ n,n = (rep 10 (r.den:Int).natAbs).length:=⟨_,rfl⟩
 obtain ⟨y3,hy3⟩:∃ b,b = decide (r.num < 0):=⟨_,rfl⟩
 obtain ⟨y4,hy4⟩:∃ b,b = decide ((r.den:Int) < 0):=⟨_,rfl⟩
 have CS:=hid (fun (Y:World) (a1 a2:Option Addr) (c1 c2:Nat) (h1:Digs (Old Y) Y (.slice a1 m1 c1) (rep 10 P1.natAbs)) (h2:Digs (Old Y) Y (.slice a2 m2 c2) (rep 10 P2.natAbs)) => zgm (A + B) hy1 hy2 hr hy3 hy4 hm3 hm4 Y h1 h2 (fun _ h => h) hp20 hsp1 hsp2 hB)
 have HFIN:Hid (∀ (W':World) (v':Value),QQ (New w W') W' v' r → QR (New w W') W' v' (p * q) (A + B)):=hid (fun W' v' h => by rw [hres,← hr]; rw [hr] at h ⊢; exact h.qr hp20 hsp1 hsp2)
 have HR34:=hid (And.intro hm3 (And.intro hm4 (And.intro hy3 hy4)))
 clear hn1 hd1 hn2 hd2 hl1 hl2 hl3 hl4 hb1 hb2 hb3 hb4 hp hq hs1 hs2 hs3 hs4 h01 h02 hP1 hP2 hm1 hm2 hy1 hy2 hsp1 hsp2 hp20 hres hr hm3 hm4 hy3 hy4 hwb hw0
 go_enter Tryz.func37,Tryz.ntmps37
 go_upto_region 1 with fail
 rw [← HW0.out]
 have HXD:=hid (show Ext w0 w0.drew from (Ext.refl w0).drew)
 go_cut [] (fun wx => ∃ a3 c3 a4 c4,Hid (z39 wx (w.heap.size + 1 + 1) (.bool y3) (.slice a3 m3 c3) (.bool y4) (.slice a4 m4 c4) ∧ QV (New w wx) wx (.agg #[.bool y3,.slice a3 m3 c3,.bool y4,.slice a4 m4 c4]) r.num (r.den:Int) ∧ Ext w wx))
 case first =>
  go_region_held3 (fun Y => (Y.cell? ⟨w.heap.size,0,none⟩ = some (.bool b1) ∧ Y.cell? ⟨w.heap.size,1,none⟩ = some (.slice an1 l1 cn1) ∧ Y.cell? ⟨w.heap.size,2,none⟩ = some (.bool b2) ∧ Y.cell? ⟨w.heap.size,3,none⟩ = some (.slice ad1 l2 cd1)) ∧ Y.cell? ⟨w.heap.size + 1,0,none⟩ = some (.bool b3) ∧ Y.cell? ⟨w.heap.size + 1,1,none⟩ = some (.slice an2 l3 cn2) ∧ Y.cell? ⟨w.heap.size + 1,2,none⟩ = some (.bool b4) ∧ Y.cell? ⟨w.heap.size + 1,3,none⟩ = some (.slice ad2 l4 cd2)) (first | exact HSS.out _ (HXB0.out.trans HXD.out) | exact HSS.out _ (HXB0.out.trans HX1.out) | exact HSS.out _ (HXB0.out.trans HX2.out) | exact HSS.out _ (HXB0.out.trans HX3.out) | exact HSS.out _ (HXB0.out.trans HX4.out) | exact HSS.out _ (HXB0.out.trans HX5.out) | exact HSS.out _ (HXB0.out.trans HXZ.out) | exact HSS.out _ (z1k (HXB0.out.trans HXZ.out) (by rw [HSB.out]; omega) _ _ _ _))
   (first
    | (go_at_call 75; (with_reducible refine (C1.out _ (HX0.out.trans HXD.out)).mono ?_); rintro e w1 ⟨a1_,c1_,rfl,hd1_,hx1_⟩; have HX1:=hid (HXD.out.trans hx1_); have HE1:=hid hd1_; have HY1:=hid hx1_; clear hd1_ hx1_)
    | (go_at_call 75; (with_reducible refine (C2.out _ (HX0.out.trans HX1.out)).mono ?_); rintro e w2 ⟨a2_,c2_,rfl,hd2_,hx2_⟩; have HX2:=hid (HX1.out.trans hx2_); have HE2:=hid hd2_; have HY2:=hid hx2_; clear hd2_ hx2_)
    | (go_at_call 76; (with_reducible refine (CS.out _ _ _ _ _ (HE1.out.to (Kept.ext HY2.out New.lt) (fun k h => Nat.lt_of_lt_of_le h.2 HY2.out.size)) (HE2.out.to (Kept.refl _ _) New.lt)).mono ?_); rintro e wz ⟨a3_,c3_,a4_,c4_,rfl,hz1,hz2,hxz⟩; have HXZ:=hid (HX2.out.trans hxz); have HZ1:=hid hz1; have HZ2:=hid hz2; obtain ⟨⟨g0,g1,g2,g3⟩,f0,f1,f2,f3⟩:=HBR.out _ HXZ.out; clear hz1 hz2 hxz)
    | fail)
  all_goals
   go_wp2_with fail
   go_meet
   have hq:=zf7 (w:=w) (w5:=wz) (b:=w.heap.size + 1 + 1) (n:=w0.heap.size) (N:=r.num) (D:=(r.den:Int)) (by omega) (by rw [HS0.out]; omega) (HX0.out.trans HXZ.out) ⟨g0,g1,g2,g3⟩ (z2c HZ1.out HX2.out.size) (z2c HZ2.out HX2.out.size)
   rw [← HR34.out.2.2.1,← HR34.out.2.2.2] at hq
   with_reducible exact ⟨_,_,_,_,hid hq⟩
 case rest =>
  obtain ⟨a3,c3,a4,c4,HQ⟩:=hcut
  obtain ⟨k0,k1,k2,k3⟩:=HQ.out.1
  go_wp2
  all_goals
   refine bodyPost_ret (v:=.agg #[.bool y3,.slice a3 m3 c3,.bool y4,.slice a4 m4 c4]) (by simp [results,Tryz.results37,go_sem,k0,k1,k2,k3]) rfl ?_
   exact ⟨_,rfl,HFIN.out _ _ HQ.out.2.1,HQ.out.2.2⟩
theorem zf9 {S:Nat → Prop} (u v:Value) (p q:Rat) (A B:Nat) (w:World) (hu:QR S w u p A) (hv:QR S w v q B) (hS:∀ k,S k → k < w.heap.size) (hB:A + B + 1 ≤ 800000) :
  Calls Tryz.prog 39 #[u,v] w fun e w' => ∃ v',e = .returned v' ∧ QR (New w w') w' v' (p + q) (A + B + 1) ∧ Ext w w':=by
 obtain ⟨N1,D1,⟨vn1,vd1,rfl,hn1,hd1⟩,h01,hp,hs1,hs2⟩:=hu
 obtain ⟨N2,D2,⟨vn2,vd2,rfl,hn2,hd2⟩,h02,hq,hs3,hs4⟩:=hv
 have HS14:=hid (And.intro hs1 (And.intro hs2 (And.intro hs3 hs4)))
 have HD0:=hid (And.intro h01 h02)
 have HPQ:=hid (And.intro hp hq)
 obtain ⟨an1,cn1,rfl⟩:=hn1.form
 obtain ⟨ad1,cd1,rfl⟩:=hd1.form
 obtain ⟨an2,cn2,rfl⟩:=hn2.form
 obtain ⟨ad2,cd2,rfl⟩:=hd2.form
 obtain ⟨l1,hl1⟩:∃ n,n = (rep 10 N1.natAbs).length:=⟨_,rfl⟩
 obtain ⟨l2,hl2⟩:∃ n,n = (rep 10 D1.natAbs).length:=⟨_,rfl⟩
 obtain ⟨l3,hl3⟩:∃ n,n = (rep 10 N2.natAbs).length:=⟨_,rfl⟩
 obtain ⟨l4,hl4⟩:∃ n,n = (rep 10 D2.natAbs).length:=⟨_,rfl⟩
 obtain ⟨b1,hb1⟩:∃ b,b = decide (N1 < 0):=⟨_,rfl⟩
 obtain ⟨b2,hb2⟩:∃ b,b = decide (D1 < 0):=⟨_,rfl⟩
 obtain ⟨b3,hb3⟩:∃ b,b = decide (N2 < 0):=⟨_,rfl⟩
 obtain ⟨b4,hb4⟩:∃ b,b = decide (D2 < 0):=⟨_,rfl⟩
 rw [← hl1] at hn1 ⊢
 rw [← hl2] at hd1 ⊢
 rw [← hl3] at hn2 ⊢
 rw [← hl4] at hd2 ⊢
 rw [← hb1,← hb2,← hb3,← hb4]
 have HN1:=hid (fun (Y:World) (hY:Ext w Y) => z7g (hn1.to (S':=Old Y) (Kept.ext hY hS) (fun k h => Nat.lt_of_lt_of_le (hS k h) hY.size)) hb1)
 have HD1:=hid (fun (Y:World) (hY:Ext w Y) => z7g (hd1.to (S':=Old Y) (Kept.ext hY hS) (fun k h => Nat.lt_of_lt_of_le (hS k h) hY.size)) hb2)
 have HN2:=hid (fun (Y:World) (hY:Ext w Y) => z7g (hn2.to (S':=Old Y) (Kept.ext hY hS) (fun k h => Nat.lt_of_lt_of_le (hS k h) hY.size)) hb3)
 have HD2:=hid (fun (Y:World) (hY:Ext w Y) => z7g (hd2.to (S':=Old Y) (Kept.ext hY hS) (fun k h => Nat.lt_of_lt_of_le (hS k h) hY.size)) hb4)
 have HSZ:Hid (szZ N1 ∧ szZ D1 ∧ szZ N2 ∧ szZ D2):=hid ⟨q_sz hs1 (by omega),q_sz hs2 (by omega),q_sz hs3 (by omega),q_sz hs4 (by omega)⟩
 obtain ⟨wb,hwb⟩:∃ Y,Y = (w.alloc (.cells #[.bool b1,.slice an1 l1 cn1,.bool b2,.slice ad1 l2 cd1] 58)).alloc (.cells #[.bool b3,.slice an2 l3 cn2,.bool b4,.slice ad2 l4 cd2] 58):=⟨_,rfl⟩
 obtain ⟨w0,hw0⟩:∃ Y,Y = wb.alloc (.cells #[.bool false,.slice none 0 0,.bool false,.slice none 0 0] 58):=⟨_,rfl⟩
 have HXB:Hid (Ext w wb):=hid (by rw [hwb]; exact (Ext.alloc (Ext.refl _) _).alloc _)
 have HXB0:Hid (Ext wb w0):=hid (by rw [hw0]; exact Ext.alloc (Ext.refl _) _)
 have HX0:=hid (HXB.out.trans HXB0.out)
 have HSB:Hid (wb.heap.size = w.heap.size + 2):=hid (by rw [hwb]; simp only [size_alloc])
 have HS0:Hid (w0.heap.size = w.heap.size + 3):=hid (by rw [hw0,size_alloc,HSB.out])
 have HSS:=hid (fun (Y:World) (hY:Ext wb Y) => by
  rw [hwb] at hY
  exact And.intro (box4_new (b:=w.heap.size) rfl ((Ext.alloc (Ext.refl _) _).trans hY)).1 (box4_new (b:=w.heap.size + 1) (by rw [size_alloc]) hY).1)
 have HBR:=hid (fun (Y:World) (hY:Ext w0 Y) => by
  rw [hw0] at hY
  exact box4_new (b:=w.heap.size + 1 + 1) (by rw [HSB.out]) hY)
 have HW0:Hid (w0 = _):=hid (by rw [hw0,hwb])
 obtain ⟨T1,hT1⟩:∃ z,z = N1 * D2:=⟨_,rfl⟩
 obtain ⟨T2,hT2⟩:∃ z,z = N2 * D1:=⟨_,rfl⟩
 obtain ⟨P1,hP1⟩:∃ z,z = T1 + T2:=⟨_,rfl⟩
 obtain ⟨P2,hP2⟩:∃ z,z = D1 * D2:=⟨_,rfl⟩
 obtain ⟨n1,hk1⟩:∃ n,n = (rep 10 T1.natAbs).length:=⟨_,rfl⟩
 obtain ⟨n2,hk2⟩:∃ n,n = (rep 10 T2.natAbs).length:=⟨_,rfl⟩
 obtain ⟨m1,hm1⟩:∃ n,n = (rep 10 P1.natAbs).length:=⟨_,rfl⟩
 obtain ⟨m2,hm2⟩:∃ n,n = (rep 10 P2.natAbs).length:=⟨_,rfl⟩
 obtain ⟨z1,hz1⟩:∃ b,b = decide (T1 < 0):=⟨_,rfl⟩
 obtain ⟨z2,hz2⟩:∃ b,b = decide (T2 < 0):=⟨_,rfl⟩
 obtain ⟨y1,hy1⟩:∃ b,b = decide (P1 < 0):=⟨_,rfl⟩
 obtain ⟨y2,hy2⟩:∃ b,b = decide (P2 < 0):=⟨_,rfl⟩
 have hst1:T1.natAbs < 10 ^ (A + B):=by
  rw [hT1,Int.natAbs_mul,Nat.pow_add]
  exact Nat.mul_lt_mul'' hs1 hs4
 have hst2:T2.natAbs < 10 ^ (A + B):=by
  rw [hT2,Int.natAbs_mul,Nat.pow_add,Nat.mul_comm (10 ^ A)]
  exact Nat.mul_lt_mul'' hs3 hs2
 have hsp1:P1.natAbs < 10 ^ (A + B + 1):=by
  rw [hP1,Nat.pow_succ]
  have:=Int.natAbs_add_le T1 T2
  omega
 have hsp2:P2.natAbs < 10 ^ (A + B + 1):=by
  have h:P2.natAbs < 10 ^ (A + B):=by
   rw [hP2,Int.natAbs_mul,Nat.pow_add]
   exact Nat.mul_lt_mul'' hs2 hs4
  rw [Nat.pow_succ]
  omega
 have hp20:P2 ≠ 0:=by rw [hP2]; exact Int.mul_ne_zero h01 h02
 have hzt1:szZ T1:=q_sz hst1 (by omega)
 have hzt2:szZ T2:=q_sz hst2 (by omega)
 have C1:=hid (fun (Y:World) (hY:Ext w Y) => zdb hT1 hz1 hk1 Y (HN1.out Y hY) (HD2.out Y hY) (fun _ h => h) HSZ.out.1 HSZ.out.2.2.2)
 have C2:=hid (fun (Y:World) (hY:Ext w Y) => zdb hT2 hz2 hk2 Y (HN2.out Y hY) (HD1.out Y hY) (fun _ h => h) HSZ.out.2.2.1 HSZ.out.2.1)
 have C3:=hid (fun (Y:World) (a1 a2:Option Addr) (c1 c2:Nat) (h1:Digs (Old Y) Y (.slice a1 n1 c1) (rep 10 T1.natAbs)) (h2:Digs (Old Y) Y (.slice a2 n2 c2) (rep 10 T2.natAbs)) => ztg hP1 hy1 hm1 Y (z7g h1 hz1) (z7g h2 hz2) (fun _ h => h) hzt1 hzt2)
 have C4:=hid (fun (Y:World) (hY:Ext w Y) => zdb hP2 hy2 hm2 Y (HD1.out Y hY) (HD2.out Y hY) (fun _ h => h) HSZ.out.2.1 HSZ.out.2.2.2)
 have hres:p + q = Rat.divInt P1 P2:=by rw [← hp,← hq,Rat.divInt_add_divInt _ _ h01 h02,hP1,hP2,hT1,hT2]
 obtain ⟨r,hr⟩:∃ r,r = Rat.divInt P1 P2:=⟨_,rfl⟩
 obtain ⟨m3,hm3⟩:∃ n,n = (rep 10 r.num.natAbs).length:=⟨_,rfl⟩
 obtain ⟨m4,hm4⟩:∃ n,n = (rep 10 (r.den:Int).natAbs).length:=⟨_,rfl⟩
 obtain ⟨y3,hy3⟩:∃ b,b = decide (r.num < 0):=⟨_,rfl⟩
 obtain ⟨y4,hy4⟩:∃ b,b = decide ((r.den:Int) < 0):=⟨_,rfl⟩
 have CS:=hid (fun (Y:World) (a1 a2:Option Addr) (c1 c2:Nat) (h1:Digs (Old Y) Y (.slice a1 m1 c1) (rep 10 P1.natAbs)) (h2:Digs (Old Y) Y (.slice a2 m2 c2) (rep 10 P2.natAbs)) => zgm (A + B + 1) hy1 hy2 hr hy3 hy4 hm3 hm4 Y h1 h2 (fun _ h => h) hp20 hsp1 hsp2 hB)
 have HFIN:Hid (∀ (W':World) (v':Value),QQ (New w W') W' v' r → QR (New w W') W' v' (p + q) (A + B + 1)):=hid (fun W' v' h => by rw [hres,← hr]; rw [hr] at h ⊢; exact h.qr hp20 hsp1 hsp2)
 have HR34:=hid (And.intro hm3 (And.intro hm4 (And.intro hy3 hy4)))
 clear hn1 hd1 hn2 hd2 hl1 hl2 hl3 hl4 hb1 hb2 hb3 hb4 hp hq hs1 hs2 hs3 hs4 h01 h02 hP1 hP2 hm1 hm2 hy1 hy2 hsp1 hsp2 hp20 hres hr hm3 hm4 hy3 hy4 hwb hw0 hT1 hT2 hk1 hk2 hz1 hz2 hst1 hst2
 go_enter Tryz.func39,Tryz.ntmps39
 go_upto_region 1 with fail
 rw [← HW0.out]
 have HXD:=hid (show Ext w0 w0.drew from (Ext.refl w0).drew)
 go_cut [] (fun wx => ∃ a3 c3 a4 c4,Hid (z39 wx (w.heap.size + 1 + 1) (.bool y3) (.slice a3 m3 c3) (.bool y4) (.slice a4 m4 c4) ∧ QV (New w wx) wx (.agg #[.bool y3,.slice a3 m3 c3,.bool y4,.slice a4 m4 c4]) r.num (r.den:Int) ∧ Ext w wx))
 case first =>
  go_region_held3 (fun Y => (Y.cell? ⟨w.heap.size,0,none⟩ = some (.bool b1) ∧ Y.cell? ⟨w.heap.size,1,none⟩ = some (.slice an1 l1 cn1) ∧ Y.cell? ⟨w.heap.size,2,none⟩ = some (.bool b2) ∧ Y.cell? ⟨w.heap.size,3,none⟩ = some (.slice ad1 l2 cd1)) ∧ Y.cell? ⟨w.heap.size + 1,0,none⟩ = some (.bool b3) ∧ Y.cell? ⟨w.heap.size + 1,1,none⟩ = some (.slice an2 l3 cn2) ∧ Y.cell? ⟨w.heap.size + 1,2,none⟩ = some (.bool b4) ∧ Y.cell? ⟨w.heap.size + 1,3,none⟩ = some (.slice ad2 l4 cd2)) (first | exact HSS.out _ (HXB0.out.trans HXD.out) | exact HSS.out _ (HXB0.out.trans HX1.out) | exact HSS.out _ (HXB0.out.trans HX2.out) | exact HSS.out _ (HXB0.out.trans HX3.out) | exact HSS.out _ (HXB0.out.trans HX4.out) | exact HSS.out _ (HXB0.out.trans HX5.out) | exact HSS.out _ (HXB0.out.trans HXZ.out) | exact HSS.out _ (z1k (HXB0.out.trans HXZ.out) (by rw [HSB.out]; omega) _ _ _ _))
   (first
    | (go_at_call 75; (with_reducible refine (C1.out _ (HX0.out.trans HXD.out)).mono ?_); rintro e w1 ⟨a1_,c1_,rfl,hd1_,hx1_⟩; have HX1:=hid (HXD.out.trans hx1_); have HE1:=hid hd1_; clear hd1_ hx1_)
    | (go_at_call 75; (with_reducible refine (C2.out _ (HX0.out.trans HX1.out)).mono ?_); rintro e w2 ⟨a2_,c2_,rfl,hd2_,hx2_⟩; have HX2:=hid (HX1.out.trans hx2_); have HE2:=hid hd2_; have HY12:=hid (hx2_); clear hd2_ hx2_)
    | (go_at_call 77; (with_reducible refine (C3.out _ _ _ _ _ (HE1.out.to (Kept.ext HY12.out New.lt) (fun k h => Nat.lt_of_lt_of_le h.2 HY12.out.size)) (HE2.out.to (Kept.refl _ _) New.lt)).mono ?_); rintro e w3 ⟨a3_,c3_,rfl,hd3_,hx3_⟩; have HX3:=hid (HX2.out.trans hx3_); have HE3:=hid hd3_; have HY13:=hid (HY12.out.trans hx3_); have HY23:=hid (hx3_); clear hd3_ hx3_)
    | (go_at_call 75; (with_reducible refine (C4.out _ (HX0.out.trans HX3.out)).mono ?_); rintro e w4 ⟨a4_,c4_,rfl,hd4_,hx4_⟩; have HX4:=hid (HX3.out.trans hx4_); have HE4:=hid hd4_; have HY34:=hid (hx4_); clear hd4_ hx4_)
    | (go_at_call 76; (with_reducible refine (CS.out _ _ _ _ _ (HE3.out.to (Kept.ext HY34.out New.lt) (fun k h => Nat.lt_of_lt_of_le h.2 HY34.out.size)) (HE4.out.to (Kept.refl _ _) New.lt)).mono ?_); rintro e wz ⟨a3_,c3_,a4_,c4_,rfl,hz1,hz2,hxz⟩; have HXZ:=hid (HX4.out.trans hxz); have HZ1:=hid hz1; have HZ2:=hid hz2; obtain ⟨⟨g0,g1,g2,g3⟩,f0,f1,f2,f3⟩:=HBR.out _ HXZ.out; clear hz1 hz2 hxz)
    | fail)
  all_goals
   go_wp2_with fail
   go_meet
   have hq:=zf7 (w:=w) (w5:=wz) (b:=w.heap.size + 1 + 1) (n:=w0.heap.size) (N:=r.num) (D:=(r.den:Int)) (by omega) (by rw [HS0.out]; omega) (HX0.out.trans HXZ.out) ⟨g0,g1,g2,g3⟩ (z2c HZ1.out HX4.out.size) (z2c HZ2.out HX4.out.size)
   rw [← HR34.out.2.2.1,← HR34.out.2.2.2] at hq
   with_reducible exact ⟨_,_,_,_,hid hq⟩
 case rest =>
  obtain ⟨a3,c3,a4,c4,HQ⟩:=hcut
  obtain ⟨k0,k1,k2,k3⟩:=HQ.out.1
  go_wp2
  all_goals
   refine bodyPost_ret (v:=.agg #[.bool y3,.slice a3 m3 c3,.bool y4,.slice a4 m4 c4]) (by simp [results,Tryz.results39,go_sem,k0,k1,k2,k3]) rfl ?_
   exact ⟨_,rfl,HFIN.out _ _ HQ.out.2.1,HQ.out.2.2⟩
end
section
open Go.RowKit
theorem zrw {S:Nat → Prop} (u v:Value) (p q:Rat) (A B:Nat) (w:World) (hu:QR S w u p A) (hv:QR S w v q B) (hS:∀ k,S k → k < w.heap.size) (hB:A + B + 1 ≤ 800000) :
  Calls Tryz.prog 114 #[u,v] w fun e w' => ∃ v',e = .returned v' ∧ QR (New w w') w' v' (p - q) (A + B + 1) ∧ Ext w w':=by
 obtain ⟨N1,D1,⟨vn1,vd1,rfl,hn1,hd1⟩,h01,hp,hs1,hs2⟩:=hu
 obtain ⟨N2,D2,⟨vn2,vd2,rfl,hn2,hd2⟩,h02,hq,hs3,hs4⟩:=hv
 have HS14:=hid (And.intro hs1 (And.intro hs2 (And.intro hs3 hs4)))
 have HD0:=hid (And.intro h01 h02)
 have HPQ:=hid (And.intro hp hq)
 obtain ⟨an1,cn1,rfl⟩:=hn1.form
 obtain ⟨ad1,cd1,rfl⟩:=hd1.form
 obtain ⟨an2,cn2,rfl⟩:=hn2.form
 obtain ⟨ad2,cd2,rfl⟩:=hd2.form
 obtain ⟨l1,hl1⟩:∃ n,n = (rep 10 N1.natAbs).length:=⟨_,rfl⟩
 obtain ⟨l2,hl2⟩:∃ n,n = (rep 10 D1.natAbs).length:=⟨_,rfl⟩
 obtain ⟨l3,hl3⟩:∃ n,n = (rep 10 N2.natAbs).length:=⟨_,rfl⟩
 obtain ⟨l4,hl4⟩:∃ n,n = (rep 10 D2.natAbs).length:=⟨_,rfl⟩
 obtain ⟨b1,hb1⟩:∃ b,b = decide (N1 < 0):=⟨_,rfl⟩
 obtain ⟨b2,hb2⟩:∃ b,b = decide (D1 < 0):=⟨_,rfl⟩
 obtain ⟨b3,hb3⟩:∃ b,b = decide (N2 < 0):=⟨_,rfl⟩
 obtain ⟨b4,hb4⟩:∃ b,b = decide (D2 < 0):=⟨_,rfl⟩
 rw [← hl1] at hn1 ⊢
 rw [← hl2] at hd1 ⊢
 rw [← hl3] at hn2 ⊢
 rw [← hl4] at hd2 ⊢
 rw [← hb1,← hb2,← hb3,← hb4]
 have HN1:=hid (fun (Y:World) (hY:Ext w Y) => z7g (hn1.to (S':=Old Y) (Kept.ext hY hS) (fun k h => Nat.lt_of_lt_of_le (hS k h) hY.size)) hb1)
 have HD1:=hid (fun (Y:World) (hY:Ext w Y) => z7g (hd1.to (S':=Old Y) (Kept.ext hY hS) (fun k h => Nat.lt_of_lt_of_le (hS k h) hY.size)) hb2)
 have HN2:=hid (fun (Y:World) (hY:Ext w Y) => z7g (hn2.to (S':=Old Y) (Kept.ext hY hS) (fun k h => Nat.lt_of_lt_of_le (hS k h) hY.size)) hb3)
 have HD2:=hid (fun (Y:World) (hY:Ext w Y) => z7g (hd2.to (S':=Old Y) (Kept.ext hY hS) (fun k h => Nat.lt_of_lt_of_le (hS k h) hY.size)) hb4)
 have HSZ:Hid (szZ N1 ∧ szZ D1 ∧ szZ N2 ∧ szZ D2):=hid ⟨q_sz hs1 (by omega),q_sz hs2 (by omega),q_sz hs3 (by omega),q_sz hs4 (by omega)⟩
 obtain ⟨wb,hwb⟩:∃ Y,Y = (w.alloc (.cells #[.bool b1,.slice an1 l1 cn1,.bool b2,.slice ad1 l2 cd1] 58)).alloc (.cells #[.bool b3,.slice an2 l3 cn2,.bool b4,.slice ad2 l4 cd2] 58):=⟨_,rfl⟩
 obtain ⟨w0,hw0⟩:∃ Y,Y = wb.alloc (.cells #[.bool false,.slice none 0 0,.bool false,.slice none 0 0] 58):=⟨_,rfl⟩
 have HXB:Hid (Ext w wb):=hid (by rw [hwb]; exact (Ext.alloc (Ext.refl _) _).alloc _)
 have HXB0:Hid (Ext wb w0):=hid (by rw [hw0]; exact Ext.alloc (Ext.refl _) _)
 have HX0:=hid (HXB.out.trans HXB0.out)
 have HSB:Hid (wb.heap.size = w.heap.size + 2):=hid (by rw [hwb]; simp only [size_alloc])
 have HS0:Hid (w0.heap.size = w.heap.size + 3):=hid (by rw [hw0,size_alloc,HSB.out])
 have HSS:=hid (fun (Y:World) (hY:Ext wb Y) => by
  rw [hwb] at hY
  exact And.intro (box4_new (b:=w.heap.size) rfl ((Ext.alloc (Ext.refl _) _).trans hY)).1 (box4_new (b:=w.heap.size + 1) (by rw [size_alloc]) hY).1)
 have HBR:=hid (fun (Y:World) (hY:Ext w0 Y) => by
  rw [hw0] at hY
  exact box4_new (b:=w.heap.size + 1 + 1) (by rw [HSB.out]) hY)
 have HW0:Hid (w0 = _):=hid (by rw [hw0,hwb])
 obtain ⟨yb,hyb⟩:∃ b,b = decide (-N2 < 0):=⟨_,rfl⟩
 have HU:=hid (fun (Y:World) (hY:Ext w Y) => show QR (Old Y) Y (.agg #[.bool b1,.slice an1 l1 cn1,.bool b2,.slice ad1 l2 cd1]) p A from ⟨N1,D1,⟨_,_,by rw [hb1,hb2],hn1.to (Kept.ext hY hS) (fun k h => Nat.lt_of_lt_of_le (hS k h) hY.size),hd1.to (Kept.ext hY hS) (fun k h => Nat.lt_of_lt_of_le (hS k h) hY.size)⟩,h01,hp,hs1,hs2⟩)
 have HV:=hid (fun (Y:World) (hY:Ext w Y) => show QR (Old Y) Y (.agg #[.bool yb,.slice an2 l3 cn2,.bool b4,.slice ad2 l4 cd2]) (-q) B from ⟨-N2,D2,⟨_,_,by rw [hyb,hb4],by rw [Int.natAbs_neg]; exact hn2.to (Kept.ext hY hS) (fun k h => Nat.lt_of_lt_of_le (hS k h) hY.size),hd2.to (Kept.ext hY hS) (fun k h => Nat.lt_of_lt_of_le (hS k h) hY.size)⟩,h02,by rw [← hq,Rat.neg_divInt],by rw [Int.natAbs_neg]; exact hs3,hs4⟩)
 have CN:=fun (Y:World) (hY:Ext w Y) => zbi (S:=Old Y) (.slice an2 l3 cn2) N2 Y (hn2.to (Kept.ext hY hS) (fun k h => Nat.lt_of_lt_of_le (hS k h) hY.size))
 rw [← hb3,← hyb] at CN
 have CN:=hid CN
 have CA:=fun (Y:World) (hY:Ext w Y) => zf9 (S:=Old Y) _ _ p (-q) A B Y (HU.out Y hY) (HV.out Y hY) (fun _ h => h) hB
 rw [← Rat.sub_eq_add_neg] at CA
 have CA:=hid CA
 clear hn1 hd1 hn2 hd2 hl1 hl2 hl3 hl4 hb1 hb2 hb3 hb4 hp hq hs1 hs2 hs3 hs4 h01 h02 hwb hw0 hyb
 go_enter Tryz.func114,Tryz.ntmps114
 go_upto_region 1 with fail
 rw [← HW0.out]
 have HXD:=hid (show Ext w0 w0.drew from (Ext.refl w0).drew)
 go_cut [] (fun wx => ∃ bn vn bd vd,Hid (z39 wx (w.heap.size + 1 + 1) (.bool bn) vn (.bool bd) vd ∧ QR (New w wx) wx (.agg #[.bool bn,vn,.bool bd,vd]) (p - q) (A + B + 1) ∧ Ext w wx))
 case first =>
  go_region_held3 (fun Y => (Y.cell? ⟨w.heap.size,0,none⟩ = some (.bool b1) ∧ Y.cell? ⟨w.heap.size,1,none⟩ = some (.slice an1 l1 cn1) ∧ Y.cell? ⟨w.heap.size,2,none⟩ = some (.bool b2) ∧ Y.cell? ⟨w.heap.size,3,none⟩ = some (.slice ad1 l2 cd1)) ∧ Y.cell? ⟨w.heap.size + 1,0,none⟩ = some (.bool b3) ∧ Y.cell? ⟨w.heap.size + 1,1,none⟩ = some (.slice an2 l3 cn2) ∧ Y.cell? ⟨w.heap.size + 1,2,none⟩ = some (.bool b4) ∧ Y.cell? ⟨w.heap.size + 1,3,none⟩ = some (.slice ad2 l4 cd2)) (first | exact HSS.out _ (HXB0.out.trans HXD.out) | exact HSS.out _ (HXB0.out.trans HX1.out) | exact HSS.out _ (HXB0.out.trans HXZ.out) | exact HSS.out _ (z1k (HXB0.out.trans HXZ.out) (by rw [HSB.out]; omega) _ _ _ _))
   (first
    | (go_at_call 93; (with_reducible refine (CN.out _ (HX0.out.trans HXD.out)).mono ?_); rintro e w1 ⟨rfl,hx1⟩; have HX1:=hid (HXD.out.trans hx1); clear hx1)
    | (go_at_call 39; (with_reducible refine (CA.out _ (HX0.out.trans HX1.out)).mono ?_); rintro e wz ⟨vz,rfl,⟨N,D,⟨vn,vd,rfl,hn,hd⟩,hD0,hqq,hz1,hz2⟩,hxz⟩; have HXZ:=hid (HX1.out.trans hxz); have HZ1:=hid hn; have HZ2:=hid hd; have HQQ:=hid (And.intro hD0 (And.intro hqq (And.intro hz1 hz2))); obtain ⟨a3,c3,rfl⟩:=hn.form; obtain ⟨a4,c4,rfl⟩:=hd.form; obtain ⟨m3,hm3⟩:∃ n,n = (rep 10 N.natAbs).length:=⟨_,rfl⟩; obtain ⟨m4,hm4⟩:∃ n,n = (rep 10 D.natAbs).length:=⟨_,rfl⟩; obtain ⟨y3,hy3⟩:∃ b,b = decide (N < 0):=⟨_,rfl⟩; obtain ⟨y4,hy4⟩:∃ b,b = decide (D < 0):=⟨_,rfl⟩; rw [← hm3] at HZ1; rw [← hm4] at HZ2; rw [← hm3,← hm4,← hy3,← hy4]; have HY3:=hid hy3; have HY4:=hid hy4; obtain ⟨⟨g0,g1,g2,g3⟩,f0,f1,f2,f3⟩:=HBR.out _ HXZ.out; clear hn hd hD0 hqq hz1 hz2 hxz hm3 hm4 hy3 hy4)
    | fail)
  all_goals
   go_wp2_with fail
   go_meet
   have hq:=zf7 (w:=w) (w5:=wz) (b:=w.heap.size + 1 + 1) (n:=w0.heap.size) (N:=N) (D:=D) (by omega) (by rw [HS0.out]; omega) (HX0.out.trans HXZ.out) ⟨g0,g1,g2,g3⟩ (z2c HZ1.out HX1.out.size) (z2c HZ2.out HX1.out.size)
   rw [← HY3.out,← HY4.out] at hq
   have hr:QR _ _ _ (p - q) (A + B + 1):=⟨N,D,hq.2.1,HQQ.out⟩
   with_reducible exact ⟨_,_,_,_,hid ⟨hq.1,hr,hq.2.2⟩⟩
 case rest =>
  obtain ⟨bn,vn,bd,vd,HQ⟩:=hcut
  obtain ⟨k0,k1,k2,k3⟩:=HQ.out.1
  go_wp2
  all_goals
   refine bodyPost_ret (v:=.agg #[.bool bn,vn,.bool bd,vd]) (by simp [results,Tryz.results114,go_sem,k0,k1,k2,k3]) rfl ?_
   exact ⟨_,rfl,HQ.out.2.1,HQ.out.2.2⟩
theorem zil {N D:Int} (hD:D ≠ 0):Rat.divInt N D = 0 ↔ N = 0:=by
 constructor
 ·intro h
  obtain ⟨h0,h1,h2⟩:=z9t N D hD
  rw [h] at h1
  rw [h1]
  show (0:Rat).num * _ = 0
  rw [show (0:Rat).num = 0 from rfl,Int.zero_mul]
 ·intro h
  rw [h,Rat.zero_divInt]
theorem zaw (z:Int):z18 z = 0 ∧ z = 0 ∨ z18 z = 1 ∧ z ≠ 0 ∨ z18 z = -1 ∧ z ≠ 0:=by
 unfold z18 cmpI
 by_cases h:z < 0
 ·right; right; rw [if_pos h]; exact ⟨rfl,by omega⟩
 ·by_cases h0:z = 0
  ·left; rw [h0]; exact ⟨rfl,rfl⟩
  ·right; left
   rw [if_neg h]
   refine ⟨?_,h0⟩
   first | rw [if_pos (by omega)] | rw [if_neg (by omega)]
theorem zfa {S:Nat → Prop} (u:Value) (p:Rat) (A:Nat) (w:World) (hu:QR S w u p A) (hS:∀ k,S k → k < w.heap.size) :
  Calls Tryz.prog 10 #[u] w fun e w' => ∃ s:Int,e = .returned (.int .i64 s) ∧ (s = 0 ↔ p = 0) ∧ Ext w w':=by
 obtain ⟨N1,D1,⟨vn1,vd1,rfl,hn1,hd1⟩,h01,hp,-,-⟩:=hu
 have HP:Hid (p = 0 ↔ N1 = 0):=hid (by rw [← hp]; exact zil h01)
 have HD0:=hid h01
 have C1:=fun (Y:World) (hY:Ext w Y) => z42 (S:=Old Y) (.agg #[.bool (decide (N1 < 0)),vn1]) N1 Y ⟨vn1,rfl,hn1.to (Kept.ext hY hS) (fun k h => Nat.lt_of_lt_of_le (hS k h) hY.size)⟩
 have C2:=fun (Y:World) (hY:Ext w Y) => z42 (S:=Old Y) (.agg #[.bool (decide (D1 < 0)),vd1]) D1 Y ⟨vd1,rfl,hd1.to (Kept.ext hY hS) (fun k h => Nat.lt_of_lt_of_le (hS k h) hY.size)⟩
 obtain ⟨an1,cn1,rfl⟩:=hn1.form
 obtain ⟨ad1,cd1,rfl⟩:=hd1.form
 obtain ⟨l1,hl1⟩:∃ n,n = (rep 10 N1.natAbs).length:=⟨_,rfl⟩
 obtain ⟨l2,hl2⟩:∃ n,n = (rep 10 D1.natAbs).length:=⟨_,rfl⟩
 obtain ⟨b1,hb1⟩:∃ b,b = decide (N1 < 0):=⟨_,rfl⟩
 obtain ⟨b2,hb2⟩:∃ b,b = decide (D1 < 0):=⟨_,rfl⟩
 rw [← hl1,← hb1] at C1
 rw [← hl2,← hb2] at C2
 rw [← hl1,← hb1,← hl2,← hb2]
 have C1:=hid C1
 have C2:=hid C2
 obtain ⟨w0,hw0⟩:∃ Y,Y = w.alloc (.cells #[.bool b1,.slice an1 l1 cn1,.bool b2,.slice ad1 l2 cd1] 58):=⟨_,rfl⟩
 have HX0:Hid (Ext w w0):=hid (by rw [hw0]; exact Ext.alloc (Ext.refl _) _)
 have HB:=hid (fun (Y:World) (hY:Ext w0 Y) => by
  rw [hw0] at hY
  exact (box4_new (b:=w.heap.size) rfl hY).1)
 have HW0:=hid hw0
 have L1:=fun Y:Later w0 => show _ ∧ _ ∧ _ ∧ _ from HB.out Y.w' Y.h
 obtain ⟨s1,hs1⟩:∃ s,s = z18 N1:=⟨_,rfl⟩
 obtain ⟨s2,hs2⟩:∃ s,s = z18 D1:=⟨_,rfl⟩
 rw [← hs1] at C1
 rw [← hs2] at C2
 have HSG:=hid (And.intro hs1 hs2)
 clear hn1 hd1 h01 hp hl1 hl2 hb1 hb2 hw0 hs1 hs2
 go_enter Tryz.func10,Tryz.ntmps10
 go_upto_region 1 with fail
 rw [← HW0.out]
 refine z04 (by kernel_rfl) (by kernel_rfl) ?_
 repeat (go_big_quiet_step (first | (go_at_call 34; first | (with_reducible exact Later.done (C1.out _ (HX0.out.trans (Later.h _)))) | (with_reducible exact Later.done (C2.out _ (HX0.out.trans (Later.h _)))))))
 refine wpQuiet_nil ?_
 intro w1 hx1
 have HX1:=hid (HX0.out.trans hx1)
 clear L1 hx1
 go_wp2
 all_goals
  go_ret
  refine ⟨_,rfl,?_,HX1.out⟩
  rw [HP.out]
  have hd:=HD0.out
  rcases zaw N1 with ⟨h1,h2⟩ | ⟨h1,h2⟩ | ⟨h1,h2⟩ <;> rcases zaw D1 with ⟨h3,h4⟩ | ⟨h3,h4⟩ | ⟨h3,h4⟩ <;> first | exact absurd h4 hd | (rw [HSG.out.1,HSG.out.2,h1,h3]; first | exact ⟨fun _ => h2,fun _ => by unfold wrap64; omega⟩ | exact ⟨fun h => absurd h (by unfold wrap64; omega),fun h => absurd h h2⟩)
end
section
theorem zad {l k:Int} {m:Mono} (h:z0e l m = true) (hk:k ≤ l):z0e k m = true:=by
 cases m with
 | nil => rfl
 | cons x r =>
  simp only [z0e,Bool.and_eq_true,decide_eq_true_eq] at h ⊢
  exact ⟨by omega,h.2⟩
theorem z7h {m:Mono} (h:mayM m = true) (v:Int):0 ≤ ex m v:=(z3l h v).1
theorem zoy {p q:PZ} (h:canP p) (hs:q.Sublist p):canP q:=⟨fun t ht => h.1 t (hs.mem ht),h.2.sublist hs⟩
end
section
def lk:List (Int × Int × Int) → Int → Int × Int
 | [],_ => (0,0)
 | t :: r,v => if t.1 = v then t.2 else lk r v
def ris (last:Int):List (Int × Int × Int) → Prop
 | [] => True
 | t :: r => last < t.1 ∧ t.1 ≤ 200 ∧ ris t.1 r
theorem zth {last:Int} {l:List (Int × Int × Int)} (h:ris last l) {u:Int} (hu:u ≤ last):lk l u = (0,0):=by
 induction l generalizing last with
 | nil => rfl
 | cons t r ih =>
  obtain ⟨h1,h2,h3⟩:=h
  rw [lk,if_neg (by omega)]
  exact ih h3 (by omega)
theorem zbo {last:Int} {a b:Mono} (ha:z0e last a = true) (hb:z0e last b = true):ris last (both a b) ∧ ∀ u,lk (both a b) u = (ex a u,ex b u):=by
 generalize hn:a.length + b.length = n
 induction n using Nat.strongRecOn generalizing a b last with
 | ind n ih =>
 cases a with
 | nil =>
  cases b with
  | nil => rw [z72]; exact ⟨trivial,fun u => rfl⟩
  | cons y b =>
   have hB:=hb
   simp only [z0e,Bool.and_eq_true,decide_eq_true_eq] at hb
   simp only [List.length_cons,List.length_nil] at hn
   obtain ⟨h1,h2⟩:=ih (0 + b.length) (by omega) (a:=[]) (b:=b) (last:=y.1) rfl hb.2 (by simp)
   rw [z65]
   refine ⟨⟨hb.1.1,hb.1.2.1,h1⟩,fun u => ?_⟩
   rw [lk,h2,ex]
   simp only [ex]
   split <;> rfl
 | cons x a =>
  cases b with
  | nil =>
   have hA:=ha
   simp only [z0e,Bool.and_eq_true,decide_eq_true_eq] at ha
   simp only [List.length_cons,List.length_nil] at hn
   obtain ⟨h1,h2⟩:=ih (a.length + 0) (by omega) (a:=a) (b:=[]) (last:=x.1) ha.2 rfl (by simp)
   rw [z73]
   refine ⟨⟨ha.1.1,ha.1.2.1,h1⟩,fun u => ?_⟩
   rw [lk,h2]
   simp only [ex]
   split <;> rfl
  | cons y b =>
   have hA:=ha
   have hB:=hb
   simp only [z0e,Bool.and_eq_true,decide_eq_true_eq] at ha hb
   simp only [List.length_cons] at hn
   rw [z74]
   split
   ·rename_i hlt
    have hb':z0e x.1 (y :: b) = true:=by simp only [z0e,Bool.and_eq_true,decide_eq_true_eq]; exact ⟨⟨hlt,hb.1.2⟩,hb.2⟩
    obtain ⟨h1,h2⟩:=ih (a.length + (b.length + 1)) (by omega) (a:=a) (b:=y :: b) (last:=x.1) ha.2 hb' (by simp)
    refine ⟨⟨ha.1.1,ha.1.2.1,h1⟩,fun u => ?_⟩
    rw [lk,h2]
    by_cases hu:x.1 = u
    ·rw [if_pos hu,← hu,z0t hb' (Int.le_refl _),ex,if_pos rfl]
    ·rw [if_neg hu]; conv => rhs; rw [ex,if_neg hu]
   ·split
    ·rename_i hnlt hlt
     have ha':z0e y.1 (x :: a) = true:=by simp only [z0e,Bool.and_eq_true,decide_eq_true_eq]; exact ⟨⟨hlt,ha.1.2⟩,ha.2⟩
     obtain ⟨h1,h2⟩:=ih (a.length + 1 + b.length) (by omega) (a:=x :: a) (b:=b) (last:=y.1) ha' hb.2 (by simp)
     refine ⟨⟨hb.1.1,hb.1.2.1,h1⟩,fun u => ?_⟩
     rw [lk,h2]
     by_cases hu:y.1 = u
     ·rw [if_pos hu,← hu,z0t ha' (Int.le_refl _),ex,if_pos rfl]
     ·rw [if_neg hu,show ex (y :: b) u = ex b u by rw [ex,if_neg hu]]
    ·rename_i h3 h4
     have hxy:x.1 = y.1:=by omega
     rw [← hxy] at hb
     obtain ⟨h1,h2⟩:=ih (a.length + b.length) (by omega) (a:=a) (b:=b) (last:=x.1) ha.2 hb.2 (by simp)
     refine ⟨⟨ha.1.1,ha.1.2.1,h1⟩,fun u => ?_⟩
     rw [lk,h2]
     by_cases hu:x.1 = u
     ·rw [if_pos hu,ex,if_pos hu,ex,if_pos (by omega)]
     ·rw [if_neg hu,show ex (y :: b) u = ex b u by rw [ex,if_neg (by omega)],show ex (x :: a) u = ex a u by rw [ex,if_neg hu]]
theorem zgn {f:Int → Int → Int} (h0:f 0 0 ≤ 0) {last:Int} {l:List (Int × Int × Int)} (h:ris last l) (u:Int):ex (z3r f l) u = if 0 < f (lk l u).1 (lk l u).2 then f (lk l u).1 (lk l u).2 else 0:=by
 induction l generalizing last with
 | nil =>
  rw [z3r,ex,lk,if_neg (show ¬ 0 < f 0 0 by omega)]
 | cons t r ih =>
  obtain ⟨h1,h2,h3⟩:=h
  rw [z3r,lk]
  by_cases hu:t.1 = u
  ·rw [if_pos hu]
   by_cases hf:0 < f t.2.1 t.2.2
   ·rw [if_pos hf,if_pos hf,ex,if_pos hu]
   ·rw [if_neg hf,if_neg hf,ih h3,zth h3 (by omega),if_neg (show ¬ 0 < f 0 0 by omega)]
  ·rw [if_neg hu]
   by_cases hf:0 < f t.2.1 t.2.2
   ·rw [if_pos hf,ex,if_neg hu,ih h3]
   ·rw [if_neg hf,ih h3]
theorem zlr {f:Int → Int → Int} {last:Int} {l:List (Int × Int × Int)} (h:ris last l) (hf:∀ t ∈ l,f t.2.1 t.2.2 ≤ 10000):z0e last (z3r f l) = true:=by
 induction l generalizing last with
 | nil => rfl
 | cons t r ih =>
  obtain ⟨h1,h2,h3⟩:=h
  have hr:=ih h3 (fun u hu => hf u (by simp [hu]))
  rw [z3r]
  split
  ·rename_i h4
   have:=hf t (by simp)
   simp only [z0e,Bool.and_eq_true,decide_eq_true_eq]
   exact ⟨by omega,hr⟩
  ·exact zad hr (by omega)
theorem zls {last:Int} {l:List (Int × Int × Int)} (h:ris last l) {t:Int × Int × Int} (ht:t ∈ l):lk l t.1 = t.2:=by
 induction l generalizing last with
 | nil => simp at ht
 | cons x r ih =>
  obtain ⟨h1,h2,h3⟩:=h
  rw [lk]
  rcases List.mem_cons.1 ht with rfl | ht
  ·rw [if_pos rfl]
  ·by_cases e:x.1 = t.1
   ·exfalso
    have:∀ (l:List (Int × Int × Int)) (k:Int),ris k l → ∀ t ∈ l,k < t.1:=by
     intro l
     induction l with
     | nil => intro k _ t ht; simp at ht
     | cons y s ih =>
      intro k hk t ht
      obtain ⟨g1,g2,g3⟩:=hk
      rcases List.mem_cons.1 ht with rfl | ht
      ·exact g1
      ·have:=ih _ g3 t ht; omega
    have:=this r x.1 h3 t ht
    omega
   ·rw [if_neg e]; exact ih h3 ht
theorem zrx {f:Int → Int → Int} (h0:f 0 0 ≤ 0) {a b:Mono} (ha:mayM a = true) (hb:mayM b = true) (u:Int):ex (z3r f (both a b)) u = if 0 < f (ex a u) (ex b u) then f (ex a u) (ex b u) else 0:=by
 obtain ⟨h1,h2⟩:=zbo ha hb
 rw [zgn h0 h1,h2]
theorem zoz {f:Int → Int → Int} {a b:Mono} (ha:mayM a = true) (hb:mayM b = true) (hf:∀ u,f (ex a u) (ex b u) ≤ 10000):mayM (z3r f (both a b)) = true:=by
 obtain ⟨h1,h2⟩:=zbo ha hb
 refine zlr h1 (fun t ht => ?_)
 have:=zls h1 ht
 rw [h2] at this
 have h3:=hf t.1
 rw [← this]
 exact h3
theorem zgo {a b:Mono} (ha:mayM a = true) (hb:mayM b = true) (u:Int):ex (z1b a b) u = ex a u + ex b u:=by
 unfold z1b
 rw [zrx (by simp) ha hb]
 have h1:=z7h ha u
 have h2:=z7h hb u
 split <;> omega
theorem z7i {a b:Mono} (ha:mayM a = true) (hb:mayM b = true):mayM (z1b a b) = true ↔ ∀ u,ex a u + ex b u ≤ 10000:=by
 constructor
 ·intro h u
  rw [← zgo ha hb]
  exact (z3l h u).2
 ·intro h
  exact zoz ha hb h
theorem z86 {v e:Int} (hv:1 ≤ v ∧ v ≤ 200) (he:1 ≤ e ∧ e ≤ 10000):mayM [(v,e)] = true:=by
 unfold mayM z0e
 simp only [z0e,Bool.and_true,decide_eq_true_eq]
 omega
theorem zgp (v e u:Int):ex [(v,e)] u = if v = u then e else 0:=by simp [ex]
end
section
theorem zp0 {m:Mono} {v:Int} (h:∀ x ∈ m,x.1 < v) (e u:Int):ex (m ++ [(v,e)]) u = if u = v then e else ex m u:=by
 induction m with
 | nil =>
  simp only [List.nil_append,ex]
  by_cases hu:v = u
  ·rw [if_pos hu,if_pos hu.symm]
  ·rw [if_neg hu,if_neg (fun k => hu k.symm)]
 | cons x r ih =>
  have h1:=h x (by simp)
  simp only [List.cons_append,ex,ih (fun y hy => h y (by simp [hy]))]
  by_cases hx:x.1 = u
  ·rw [if_pos hx,if_pos hx,if_neg (by omega)]
  ·rw [if_neg hx,if_neg hx]
theorem zti (f:Nat → Int) (n:Nat) (u:Nat) (h0:∀ j,0 ≤ f j):ex (ofE f n) (u:Int) = if 1 ≤ u ∧ u ≤ n then f u else 0:=by
 induction n with
 | zero =>
  simp only [ofE,ex]
  rw [if_neg (by omega)]
 | succ n ih =>
  simp only [ofE]
  by_cases hf:0 < f (n + 1)
  ·rw [if_pos hf,zp0 (fun x hx => by have:=zge f n x hx; omega),ih]
   by_cases hu:u = n + 1
   ·subst hu
    rw [if_pos rfl,if_pos (by omega)]
   ·rw [if_neg (by omega)]
    by_cases h1:1 ≤ u ∧ u ≤ n
    ·rw [if_pos h1,if_pos (by omega)]
    ·rw [if_neg h1,if_neg (by omega)]
  ·rw [if_neg hf,ih]
   have:=h0 (n + 1)
   by_cases hu:u = n + 1
   ·subst hu
    rw [if_neg (by omega),if_pos (by omega)]
    omega
   ·by_cases h1:1 ≤ u ∧ u ≤ n
    ·rw [if_pos h1,if_pos (by omega)]
    ·rw [if_neg h1,if_neg (by omega)]
theorem zdc {a b:Mono} (ha:mayM a = true) (hb:mayM b = true):z4d a b = if mayM (z1b a b) = true then some (z1b a b) else none:=by
 unfold z4d
 have h0:∀ j,0 ≤ sumF a b j:=fun j => by
  have h1:=z7h ha (j:Int)
  have h2:=z7h hb (j:Int)
  unfold sumF
  omega
 cases hov:z5a (sumF a b) 200 with
 | true =>
  rw [if_pos rfl,if_neg]
  intro hm
  have h1:=(z7i ha hb).1 hm
  have h2:∀ n,z5a (sumF a b) n = false:=fun n => by
   induction n with
   | zero => rfl
   | succ n ih =>
    simp only [z5a,ih,Bool.false_or,decide_eq_false_iff_not]
    have:=h1 ((n + 1:Nat):Int)
    unfold sumF
    omega
  rw [h2] at hov
  cases hov
 | false =>
  have h1:=zd1 hov
  have hm:mayM (z1b a b) = true:=(z7i ha hb).2 (fun u => by
   by_cases h2:u < 1
   ·rw [z0t ha (by omega),z0t hb (by omega)]; omega
   ·by_cases h3:200 < u
    ·rw [z8t ha h3,z8t hb h3]; omega
    ·have:=h1 u.toNat (by omega) (by omega)
     unfold sumF at this
     rwa [Int.toNat_of_nonneg (by omega)] at this)
  rw [if_neg (by simp),if_pos hm]
  refine congrArg some ?_
  refine zg1 (zks (Nat.le_refl _) (fun j h2 h3 => h1 j h2 h3)) hm (fun k h2 h3 => ?_)
  rw [zti _ _ _ h0,if_pos ⟨h2,h3⟩,zgo ha hb]
  rfl
theorem zgq {t u:Int × Mono} (ht:mayM t.2 = true) (hu:mayM u.2 = true) (h:mayM (z1b t.2 u.2) = true):z83 t u = some (t.1 * u.1,z1b t.2 u.2):=by
 unfold z83
 rw [zdc ht hu,if_pos h]
 rfl
theorem zlt {t u:Int × Mono} (ht:mayM t.2 = true) (hu:mayM u.2 = true) (h:mayM (z1b t.2 u.2) = false):z83 t u = none:=by
 unfold z83
 rw [zdc ht hu,if_neg (by rw [h]; exact Bool.false_ne_true)]
 rfl
end
section
/-! Monomials without a greatest exponent -/
def z1r (last:Int):Mono → Bool
 | [] => true
 | x :: r => decide (last < x.1 ∧ x.1 ≤ 200 ∧ 1 ≤ x.2) && z1r x.1 r
def okM (m:Mono):Bool:=z1r 0 m
theorem zim {l:Int} {m:Mono} (h:z0e l m = true):z1r l m = true:=by
 induction m generalizing l with
 | nil => rfl
 | cons x r ih =>
  simp only [z0e,z1r,Bool.and_eq_true,decide_eq_true_eq] at h ⊢
  exact ⟨by omega,ih h.2⟩
theorem zqj {m:Mono} (h:mayM m = true):okM m = true:=zim h
theorem z9u {l:Int} {m:Mono} (h:z1r l m = true) {u:Int} (hu:u ≤ l):ex m u = 0:=by
 induction m generalizing l with
 | nil => rfl
 | cons y s ih =>
  simp only [z1r,Bool.and_eq_true,decide_eq_true_eq] at h
  rw [ex,if_neg (by omega)]
  exact ih h.2 (by omega)
theorem z7j {l:Int} {m:Mono} (h:z1r l m = true) (u:Int):0 ≤ ex m u:=by
 induction m generalizing l with
 | nil => simp [ex]
 | cons y s ih =>
  simp only [z1r,Bool.and_eq_true,decide_eq_true_eq] at h
  rw [ex]
  split
  ·omega
  ·exact ih h.2
theorem ztj {l:Int} {a b:Mono} (ha:z1r l a = true) (hb:z1r l b = true) (h:∀ v,ex a v = ex b v):a = b:=by
 induction a generalizing b l with
 | nil =>
  cases b with
  | nil => rfl
  | cons y b =>
   have:=h y.1
   simp only [z1r,Bool.and_eq_true,decide_eq_true_eq] at hb
   simp [ex] at this
   omega
 | cons x a ih =>
  cases b with
  | nil =>
   have:=h x.1
   simp only [z1r,Bool.and_eq_true,decide_eq_true_eq] at ha
   simp [ex] at this
   omega
  | cons y b =>
   simp only [z1r,Bool.and_eq_true,decide_eq_true_eq] at ha hb
   have h1:=h x.1
   have h2:=h y.1
   have e:x.1 = y.1:=by
    rcases Int.lt_trichotomy x.1 y.1 with g | g | g
    ·rw [ex,if_pos rfl,ex,if_neg (by omega),z9u hb.2 (by omega)] at h1
     omega
    ·exact g
    ·rw [ex,if_neg (by omega),z9u ha.2 (by omega),ex,if_pos rfl] at h2
     omega
   have e2:x.2 = y.2:=by
    rw [ex,if_pos rfl,ex,if_pos e.symm] at h1
    exact h1
   have:x = y:=Prod.ext e e2
   subst this
   congr 1
   refine ih ha.2 hb.2 (fun v => ?_)
   have:=h v
   rw [ex,ex] at this
   split at this
   ·rename_i hv
    rw [z9u ha.2 (by omega),z9u hb.2 (by omega)]
   ·exact this
theorem zgr {last:Int} {a b:Mono} (ha:z1r last a = true) (hb:z1r last b = true):ris last (both a b) ∧ (∀ u,lk (both a b) u = (ex a u,ex b u)) ∧ ∀ t ∈ both a b,1 ≤ t.2.1 + t.2.2:=by
 generalize hn:a.length + b.length = n
 induction n using Nat.strongRecOn generalizing a b last with
 | ind n ih =>
 cases a with
 | nil =>
  cases b with
  | nil => rw [z72]; exact ⟨trivial,fun u => rfl,fun t ht => by simp at ht⟩
  | cons y b =>
   simp only [z1r,Bool.and_eq_true,decide_eq_true_eq] at hb
   simp only [List.length_cons,List.length_nil] at hn
   obtain ⟨h1,h2,h3⟩:=ih (0 + b.length) (by omega) (a:=[]) (b:=b) (last:=y.1) rfl hb.2 (by simp)
   rw [z65]
   refine ⟨⟨hb.1.1,hb.1.2.1,h1⟩,fun u => ?_,fun t ht => ?_⟩
   ·rw [lk,h2,ex]
    simp only [ex]
    split <;> rfl
   ·rcases List.mem_cons.1 ht with rfl | ht
    ·simp only; omega
    ·exact h3 t ht
 | cons x a =>
  cases b with
  | nil =>
   simp only [z1r,Bool.and_eq_true,decide_eq_true_eq] at ha
   simp only [List.length_cons,List.length_nil] at hn
   obtain ⟨h1,h2,h3⟩:=ih (a.length + 0) (by omega) (a:=a) (b:=[]) (last:=x.1) ha.2 rfl (by simp)
   rw [z73]
   refine ⟨⟨ha.1.1,ha.1.2.1,h1⟩,fun u => ?_,fun t ht => ?_⟩
   ·rw [lk,h2]
    simp only [ex]
    split <;> rfl
   ·rcases List.mem_cons.1 ht with rfl | ht
    ·simp only; omega
    ·exact h3 t ht
  | cons y b =>
   have hA:=ha
   have hB:=hb
   simp only [z1r,Bool.and_eq_true,decide_eq_true_eq] at ha hb
   simp only [List.length_cons] at hn
   rw [z74]
   split
   ·rename_i hlt
    have hb':z1r x.1 (y :: b) = true:=by simp only [z1r,Bool.and_eq_true,decide_eq_true_eq]; exact ⟨⟨hlt,hb.1.2⟩,hb.2⟩
    obtain ⟨h1,h2,h3⟩:=ih (a.length + (b.length + 1)) (by omega) (a:=a) (b:=y :: b) (last:=x.1) ha.2 hb' (by simp)
    refine ⟨⟨ha.1.1,ha.1.2.1,h1⟩,fun u => ?_,fun t ht => ?_⟩
    ·rw [lk,h2]
     by_cases hu:x.1 = u
     ·rw [if_pos hu,← hu,z9u hb' (Int.le_refl _),ex,if_pos rfl]
     ·rw [if_neg hu]; conv => rhs; rw [ex,if_neg hu]
    ·rcases List.mem_cons.1 ht with rfl | ht
     ·simp only; omega
     ·exact h3 t ht
   ·split
    ·rename_i hnlt hlt
     have ha':z1r y.1 (x :: a) = true:=by simp only [z1r,Bool.and_eq_true,decide_eq_true_eq]; exact ⟨⟨hlt,ha.1.2⟩,ha.2⟩
     obtain ⟨h1,h2,h3⟩:=ih (a.length + 1 + b.length) (by omega) (a:=x :: a) (b:=b) (last:=y.1) ha' hb.2 (by simp)
     refine ⟨⟨hb.1.1,hb.1.2.1,h1⟩,fun u => ?_,fun t ht => ?_⟩
     ·rw [lk,h2]
      by_cases hu:y.1 = u
      ·rw [if_pos hu,← hu,z9u ha' (Int.le_refl _),ex,if_pos rfl]
      ·rw [if_neg hu,show ex (y :: b) u = ex b u by rw [ex,if_neg hu]]
     ·rcases List.mem_cons.1 ht with rfl | ht
      ·simp only; omega
      ·exact h3 t ht
    ·rename_i h3 h4
     have hxy:x.1 = y.1:=by omega
     rw [← hxy] at hb
     obtain ⟨h1,h2,h5⟩:=ih (a.length + b.length) (by omega) (a:=a) (b:=b) (last:=x.1) ha.2 hb.2 (by simp)
     refine ⟨⟨ha.1.1,ha.1.2.1,h1⟩,fun u => ?_,fun t ht => ?_⟩
     ·rw [lk,h2]
      by_cases hu:x.1 = u
      ·rw [if_pos hu,ex,if_pos hu,ex,if_pos (by omega)]
      ·rw [if_neg hu,show ex (y :: b) u = ex b u by rw [ex,if_neg (by omega)],show ex (x :: a) u = ex a u by rw [ex,if_neg hu]]
     ·rcases List.mem_cons.1 ht with rfl | ht
      ·simp only; omega
      ·exact h5 t ht
theorem zdd {a b:Mono} (ha:okM a = true) (hb:okM b = true) (u:Int):ex (z1b a b) u = ex a u + ex b u:=by
 obtain ⟨h1,h2,-⟩:=zgr ha hb
 unfold z1b
 rw [zgn (by simp) h1,h2]
 have h3:=z7j ha u
 have h4:=z7j hb u
 simp only
 split <;> omega
theorem zry {last:Int} {l:List (Int × Int × Int)} (h:ris last l):z1r last (z3r (· + ·) l) = true:=by
 have weak:∀ {l k:Int} {m:Mono},z1r l m = true → k ≤ l → z1r k m = true:=by
  intro l k m h hk
  cases m with
  | nil => rfl
  | cons x r =>
   simp only [z1r,Bool.and_eq_true,decide_eq_true_eq] at h ⊢
   exact ⟨by omega,h.2⟩
 induction l generalizing last with
 | nil => rfl
 | cons t r ih =>
  obtain ⟨h1,h2,h3⟩:=h
  have hr:=ih h3
  rw [z3r]
  split
  ·rename_i h4
   simp only [z1r,Bool.and_eq_true,decide_eq_true_eq]
   exact ⟨by omega,hr⟩
  ·exact weak hr (by omega)
theorem zgs {a b:Mono} (ha:okM a = true) (hb:okM b = true):okM (z1b a b) = true:=zry (zgr ha hb).1
theorem z9v {a:Mono} (ha:okM a = true):z1b a [] = a:=ztj (zgs ha rfl) ha (fun v => by rw [zdd ha rfl]; simp [ex])
/-! Linear functionals -/
def zin (p:PZ):Prop:=∀ t ∈ p,okM t.2 = true
theorem zde {p:PZ} (h:z0p p):zin p:=fun t ht => zqj (h t ht)
def ev (f:Mono → Int):PZ → Int
 | [] => 0
 | t :: r => t.1 * f t.2 + ev f r
theorem zdf (f:Mono → Int) (p q:PZ):ev f (p ++ q) = ev f p + ev f q:=by
 induction p with
 | nil => simp [ev]
 | cons t r ih => simp only [List.cons_append,ev,ih]; omega
def dl (m:Mono):Mono → Int:=fun x => if x = m then 1 else 0
theorem zrz (m:Mono) (p:PZ):ev (dl m) p = cf p m:=by
 induction p with
 | nil => rfl
 | cons t r ih =>
  simp only [ev,cf,ih,dl]
  split <;> simp
def Eqv (p q:PZ):Prop:=∀ f,ev f p = ev f q
theorem zlu (p:PZ) (m x:Mono):cf (p.filter fun t => decide (t.2 ≠ m)) x = if x = m then 0 else cf p x:=by
 induction p with
 | nil => simp [cf]
 | cons t r ih =>
  by_cases h:t.2 = m
  ·rw [List.filter_cons_of_neg (by simpa using h),ih]
   by_cases hx:x = m
   ·rw [if_pos hx,if_pos hx]
   ·rw [if_neg hx,if_neg hx,cf,if_neg (by rw [h]; exact fun e => hx e.symm)]
    omega
  ·rw [List.filter_cons_of_pos (by simpa using h),cf,ih]
   by_cases hx:x = m
   ·rw [if_pos hx,if_pos hx,if_neg (by rw [hx]; exact h)]
    rfl
   ·rw [if_neg hx,if_neg hx,cf]
theorem zlv (f:Mono → Int) (p:PZ) (m:Mono):ev f p = cf p m * f m + ev f (p.filter fun t => decide (t.2 ≠ m)):=by
 induction p with
 | nil => simp [ev,cf]
 | cons t r ih =>
  by_cases h:t.2 = m
  ·rw [List.filter_cons_of_neg (by simpa using h),ev,cf,if_pos h,ih,h,Int.add_mul]
   omega
  ·rw [List.filter_cons_of_pos (by simpa using h),ev,cf,if_neg h,ih,ev]
   simp only [Int.zero_add]
   omega
theorem zio {p:PZ} (h:∀ m,cf p m = 0) (f:Mono → Int):ev f p = 0:=by
 generalize hn:p.length = n
 induction n using Nat.strongRecOn generalizing p with
 | ind n ih =>
 cases p with
 | nil => rfl
 | cons t r =>
  rw [zlv f (t :: r) t.2,h]
  have hl:((t :: r).filter fun u => decide (u.2 ≠ t.2)).length < n:=by
   rw [List.filter_cons_of_neg (by simp),← hn]
   exact Nat.lt_succ_of_le (List.length_filter_le _ _)
  rw [ih _ hl (fun m => by
   rw [zlu]
   split
   ·rfl
   ·exact h m) rfl]
  simp
theorem zqk (f:Mono → Int) (p:PZ):ev f (p.map fun t => (-t.1,t.2)) = - ev f p:=by
 induction p with
 | nil => rfl
 | cons t r ih => simp only [List.map_cons,ev,ih,Int.neg_mul]; omega
theorem zlw {p q:PZ} (h:∀ m,cf p m = cf q m):Eqv p q:=fun f => by
 have h1:ev f (p ++ q.map fun t => (-t.1,t.2)) = 0:=zio (fun m => by
  rw [← zrz,zdf,zqk,zrz,zrz,h]
  omega) f
 rw [zdf,zqk] at h1
 omega
/-! Products -/
def mulL (p q:PZ):PZ:=p.flatMap fun t => q.map fun u => (t.1 * u.1,z1b t.2 u.2)
/-! The canonical list of any -/
theorem z90 {p:PZ} (h:z0p p):canP (z25 p):=(z6a z33 h).1
theorem zlx {p:PZ} (h:z0p p) (m:Mono):cf (z25 p) m = cf p m:=by
 have:=(z6a z33 h).2 m
 rw [show cf [] m = 0 from rfl,Int.zero_add] at this
 exact this
theorem zbp {p:PZ} (h:z0p p):Eqv (z25 p) p:=zlw (zlx h)
theorem zdg {α β:Type} {f g:α → List β} {l:List α} (h:∀ x ∈ l,f x = g x):l.flatMap f = l.flatMap g:=by
 induction l with
 | nil => rfl
 | cons x r ih => rw [List.flatMap_cons,List.flatMap_cons,h x (by simp),ih (fun y hy => h y (by simp [hy]))]
theorem ziq {p q:PZ} (hp:z0p p) (hq:z0p q) (h:z0p (mulL p q)):z43 p q = (mulL p q).map some:=by
 unfold z43 mulL
 rw [List.map_flatMap]
 refine zdg (fun t ht => ?_)
 rw [List.map_map]
 refine List.map_congr_left (fun u hu => ?_)
 exact zgq (hp t ht) (hq u hu) (h _ (List.mem_flatMap.2 ⟨t,ht,List.mem_map.2 ⟨u,hu,rfl⟩⟩))
theorem z87 {p q:PZ} (hp:z0p p) (hq:z0p q) (h:z0p (mulL p q)):z2n p q = some (z25 (mulL p q)):=by
 unfold z2n
 rw [ziq hp hq h,zcy]
 rfl
theorem zir {p q c:PZ} (hp:z0p p) (hq:z0p q) (h:z2n p q = some c):z0p (mulL p q) ∧ c = z25 (mulL p q):=by
 have hm:z0p (mulL p q):=fun x hx => by
  obtain ⟨t,ht,h2⟩:=List.mem_flatMap.1 hx
  obtain ⟨u,hu,rfl⟩:=List.mem_map.1 h2
  cases hm:mayM (z1b t.2 u.2) with
  | true => rfl
  | false =>
   exfalso
   have h3:(none:Option (Int × Mono)) ∈ z43 p q:=List.mem_flatMap.2 ⟨t,ht,List.mem_map.2 ⟨u,hu,zlt (hp t ht) (hq u hu) hm⟩⟩
   obtain ⟨l,r,e⟩:=List.append_of_mem h3
   unfold z2n at h
   rw [e,zcz] at h
   cases h
 refine ⟨hm,?_⟩
 rw [z87 hp hq hm] at h
 exact (Option.some.inj h).symm
end
section
def evQ (g:Mono → Rat):PZ → Rat
 | [] => 0
 | t :: r => (t.1:Rat) * g t.2 + evQ g r
theorem z6j (g:Mono → Rat) (p q:PZ):evQ g (p ++ q) = evQ g p + evQ g q:=by
 induction p with
 | nil => simp [evQ,Rat.zero_add]
 | cons t r ih => simp only [List.cons_append,evQ,ih,Rat.add_assoc]
theorem zfb (q:Rat):((q.den:Int):Rat) * q = (q.num:Rat):=by
 have hd:((q.den:Int):Rat) ≠ 0:=fun e => q.den_nz (Int.natCast_eq_zero.1 (Rat.intCast_eq_zero_iff.1 e))
 have h4:q = (q.num:Rat) / ((q.den:Int):Rat):=by rw [← Rat.divInt_eq_div,Rat.num_divInt_den]
 have h5:((q.den:Int):Rat) * ((q.num:Rat) / ((q.den:Int):Rat)) = (q.num:Rat):=by
  rw [Rat.div_def,← Rat.mul_assoc,Rat.mul_comm _ (q.num:Rat),Rat.mul_assoc,Rat.mul_inv_cancel _ hd,Rat.mul_one]
 rw [← h4] at h5
 exact h5
theorem zis (g:Mono → Rat) (L:List Mono):∃ D:Int,D ≠ 0 ∧ ∀ m ∈ L,∃ z:Int,(z:Rat) = (D:Rat) * g m:=by
 induction L with
 | nil => exact ⟨1,by decide,fun m hm => by cases hm⟩
 | cons a r ih =>
  obtain ⟨D,hD,h⟩:=ih
  refine ⟨D * ((g a).den:Int),Int.mul_ne_zero hD (Int.natCast_ne_zero.2 (g a).den_nz),fun m hm => ?_⟩
  rcases List.mem_cons.1 hm with rfl | hm
  ·refine ⟨D * (g m).num,?_⟩
   rw [Rat.intCast_mul,Rat.intCast_mul,Rat.mul_assoc,zfb]
  ·obtain ⟨z,hz⟩:=h m hm
   refine ⟨z * ((g a).den:Int),?_⟩
   rw [Rat.intCast_mul,Rat.intCast_mul,hz,Rat.mul_assoc,Rat.mul_assoc,Rat.mul_comm (g m)]
theorem zdh (g:Mono → Rat) (f:Mono → Int) (D:Int) (p:PZ) (h:∀ t ∈ p,(f t.2:Rat) = (D:Rat) * g t.2):((ev f p:Int):Rat) = (D:Rat) * evQ g p:=by
 induction p with
 | nil => simp [ev,evQ,Rat.mul_zero]
 | cons t r ih =>
  simp only [ev,evQ]
  rw [Rat.intCast_add,Rat.intCast_mul,h t (List.mem_cons_self ..),ih (fun u hu => h u (List.mem_cons_of_mem _ hu)),Rat.mul_add,← Rat.mul_assoc,Rat.mul_comm (t.1:Rat) (D:Rat),Rat.mul_assoc]
theorem zfc {p q:PZ} (h:Eqv p q) (g:Mono → Rat):evQ g p = evQ g q:=by
 obtain ⟨D,hD,hz⟩:=zis g ((p ++ q).map fun t => t.2)
 have hz2:∀ t ∈ p ++ q,∃ z:Int,(z:Rat) = (D:Rat) * g t.2:=fun t ht => hz t.2 (List.mem_map.2 ⟨t,ht,rfl⟩)
 classical
 let f:Mono → Int:=fun m => if h:∃ z:Int,(z:Rat) = (D:Rat) * g m then Classical.choose h else 0
 have hf:∀ t ∈ p ++ q,(f t.2:Rat) = (D:Rat) * g t.2:=fun t ht => by
  have h1:=hz2 t ht
  show ((if h:∃ z:Int,(z:Rat) = (D:Rat) * g t.2 then Classical.choose h else 0:Int):Rat) = _
  rw [dif_pos h1]
  exact Classical.choose_spec h1
 have e1:=zdh g f D p (fun t ht => hf t (List.mem_append.2 (.inl ht)))
 have e2:=zdh g f D q (fun t ht => hf t (List.mem_append.2 (.inr ht)))
 rw [h f,e2] at e1
 have hD2:(D:Rat) ≠ 0:=fun e => hD (Rat.intCast_eq_zero_iff.1 e)
 have h3:(D:Rat)⁻¹ * ((D:Rat) * evQ g q) = (D:Rat)⁻¹ * ((D:Rat) * evQ g p):=by rw [e1]
 rw [← Rat.mul_assoc,← Rat.mul_assoc,Rat.mul_comm _ (D:Rat),Rat.mul_inv_cancel _ hD2,Rat.one_mul,Rat.one_mul] at h3
 exact h3.symm
theorem zp1 (g:Mono → Rat) (p q:PZ) (hp:zin p) (hq:zin q) (hg:∀ a b,okM a = true → okM b = true → g (z1b a b) = g a * g b):evQ g (mulL p q) = evQ g p * evQ g q:=by
 have one:∀ (t:Int × Mono) (q:PZ),okM t.2 = true → zin q → evQ g (q.map fun u => (t.1 * u.1,z1b t.2 u.2)) = (t.1:Rat) * g t.2 * evQ g q:=by
  intro t q ht hq
  induction q with
  | nil => simp [evQ,Rat.mul_zero]
  | cons u r ih =>
   simp only [List.map_cons,evQ]
   rw [ih (fun x hx => hq x (List.mem_cons_of_mem _ hx)),hg _ _ ht (hq u (List.mem_cons_self ..)),Rat.intCast_mul,Rat.mul_add]
   congr 1
   rw [Rat.mul_assoc,Rat.mul_assoc]
   congr 1
   rw [← Rat.mul_assoc,Rat.mul_comm (u.1:Rat) (g t.2),Rat.mul_assoc]
 induction p with
 | nil => simp [mulL,evQ,Rat.zero_mul]
 | cons t r ih =>
  have e:mulL (t :: r) q = (q.map fun u => (t.1 * u.1,z1b t.2 u.2)) ++ mulL r q:=rfl
  rw [e,z6j,one t q (hp t (List.mem_cons_self ..)) hq,ih (fun x hx => hp x (List.mem_cons_of_mem _ hx))]
  simp only [evQ]
  rw [Rat.add_mul]
end
section
theorem zly (q:Rat) (i j:Nat):q ^ (i + j) = q ^ i * q ^ j:=by
 induction j with
 | zero => rw [Nat.add_zero,Rat.pow_zero,Rat.mul_one]
 | succ j ih => rw [← Nat.add_assoc,Rat.pow_succ,Rat.pow_succ,ih,Rat.mul_assoc]
def ptq (pts:List (RInt × RInt)) (v:Int):Rat:=match pts[(v - 1).toNat]? with
 | some r => putQ (valI r.1) (valI r.2)
 | none => 0
def powQ (pts:List (RInt × RInt)) (x:Int × Int):Rat:=ptq pts x.1 ^ x.2.toNat
def gM (pts:List (RInt × RInt)):Mono → Rat
 | [] => 1
 | x :: r => powQ pts x * gM pts r
theorem zlz (pts:List (RInt × RInt)) (a b:Mono):gM pts (a ++ b) = gM pts a * gM pts b:=by
 induction a with
 | nil => simp [gM,Rat.one_mul]
 | cons x r ih => simp only [List.cons_append,gM,ih,Rat.mul_assoc]
theorem zax {α:Type} {l:List α} {k:Nat} {x:α} (h:l[k]? = some x):l.take (k + 1) = l.take k ++ [x]:=by
 rw [List.take_add_one,h]
 rfl
theorem zs0 {pts:List (RInt × RInt)} {m:Mono} {k:Nat} {x:Int × Int} (h:m[k]? = some x):gM pts (m.take (k + 1)) = gM pts (m.take k) * powQ pts x:=by
 rw [zax h,zlz]
 simp only [gM,Rat.mul_one]
theorem zp2 {g:Mono → Rat} {p:PZ} {k:Nat} {t:Int × Mono} (h:p[k]? = some t):evQ g (p.take (k + 1)) = evQ g (p.take k) + (t.1:Rat) * g t.2:=by
 rw [zax h,z6j]
 simp only [evQ,Rat.add_zero]
def gE (pts:List (RInt × RInt)) (f:Int → Int):Nat → Rat
 | 0 => 1
 | n + 1 => gE pts f n * ptq pts ((n + 1:Nat):Int) ^ (f ((n + 1:Nat):Int)).toNat
theorem ztk (pts:List (RInt × RInt)) {f g h:Int → Int} (hf:∀ u,0 ≤ f u) (hg:∀ u,0 ≤ g u) (hh:∀ u,h u = f u + g u) (n:Nat):gE pts h n = gE pts f n * gE pts g n:=by
 induction n with
 | zero => simp [gE]
 | succ n ih =>
  have e:(h ((n + 1:Nat):Int)).toNat = (f ((n + 1:Nat):Int)).toNat + (g ((n + 1:Nat):Int)).toNat:=by
   rw [hh,Int.toNat_add (hf _) (hg _)]
  simp only [gE,ih,e,zly]
  rw [Rat.mul_assoc,Rat.mul_assoc]
  congr 1
  rw [← Rat.mul_assoc,← Rat.mul_assoc,Rat.mul_comm (gE pts g n)]
theorem ztl (pts:List (RInt × RInt)) {f h:Int → Int} {v:Int} (hv:1 ≤ v) (h0:h v = 0) (hh:∀ u,u ≠ v → h u = f u) (n:Nat):gE pts f n = if v ≤ n then ptq pts v ^ (f v).toNat * gE pts h n else gE pts h n:=by
 induction n with
 | zero => rw [if_neg (by omega)]; rfl
 | succ n ih =>
  simp only [gE]
  rw [ih]
  by_cases h1:v ≤ n
  ·rw [if_pos h1,if_pos (by omega),hh _ (by omega),Rat.mul_assoc]
  ·rw [if_neg h1]
   by_cases h2:v = ((n + 1:Nat):Int)
   ·rw [if_pos (by omega),← h2,h0]
    show _ = _ * (_ * ptq pts v ^ 0)
    rw [Rat.pow_zero,Rat.mul_one,Rat.mul_comm]
   ·rw [if_neg (by omega),hh _ (fun e => h2 e.symm)]
theorem zs1 (pts:List (RInt × RInt)) {f:Int → Int} (h:∀ u,f u = 0) (n:Nat):gE pts f n = 1:=by
 induction n with
 | zero => rfl
 | succ n ih =>
  simp only [gE,ih,h]
  show (1:Rat) * _ ^ 0 = 1
  rw [Rat.pow_zero,Rat.one_mul]
theorem zm0 (pts:List (RInt × RInt)) {m:Mono}:∀ {l:Int},0 ≤ l → z1r l m = true → gM pts m = gE pts (ex m) 200:=by
 induction m with
 | nil => exact fun _ _ => (zs1 pts (fun _ => rfl) 200).symm
 | cons x r ih =>
  intro l hl h
  have h':=h
  simp only [z1r,Bool.and_eq_true,decide_eq_true_eq] at h'
  have hr:=ih (l:=x.1) (by omega) h'.2
  have e:=ztl pts (f:=ex (x :: r)) (h:=ex r) (v:=x.1) (by omega) (z9u h'.2 (Int.le_refl _)) (fun u hu => by rw [ex,if_neg (fun e => hu e.symm)]) 200
  rw [e,if_pos (by omega),gM,hr,powQ]
  congr 3
  rw [ex,if_pos rfl]
theorem zp3 (pts:List (RInt × RInt)) {a b:Mono} (ha:okM a = true) (hb:okM b = true):gM pts (z1b a b) = gM pts a * gM pts b:=by
 rw [zm0 pts (Int.le_refl 0) (zgs ha hb),zm0 pts (Int.le_refl 0) ha,zm0 pts (Int.le_refl 0) hb]
 exact ztk pts (z7j ha) (z7j hb) (zdd ha hb) 200
theorem zs2 (pts:List (RInt × RInt)) {p q:PZ} (hp:zin p) (hq:zin q):evQ (gM pts) (mulL p q) = evQ (gM pts) p * evQ (gM pts) q :=
 zp1 _ _ _ hp hq (fun _ _ => zp3 pts)
end
section
open Go.RowKit Go.Deep
def Rats (S:Nat → Prop) (w:World) (v:Value) (l:List (RInt × RInt)):Prop :=
 ∃ b off,z31 S v l.length b off ∧ ∀ j r,l[j]? = some r → ∃ vn vd,w.cell? ⟨b,off + j * 4,none⟩ = some (.bool r.1.neg) ∧
  w.cell? ⟨b,off + j * 4 + 1,none⟩ = some vn ∧ w.cell? ⟨b,off + j * 4 + 2,none⟩ = some (.bool r.2.neg) ∧ w.cell? ⟨b,off + j * 4 + 3,none⟩ = some vd ∧ U32s S w vn r.1.mag ∧ U32s S w vd r.2.mag
theorem Rats.form {S:Nat → Prop} {w:World} {v:Value} {l:List (RInt × RInt)} (h:Rats S w v l):∃ a cap,v = .slice a l.length cap:=by
 obtain ⟨b,off,⟨a,cap,h1,_⟩,_⟩:=h
 exact ⟨a,cap,h1⟩
theorem Rats.to {S S':Nat → Prop} {w w':World} {v:Value} {l:List (RInt × RInt)} (h:Rats S w v l) (hk:Kept S w w') (hS:∀ k,S k → S' k):Rats S' w' v l:=by
 obtain ⟨b,off,hs,hc⟩:=h
 refine ⟨b,off,hs.mono hS,fun j t hj => ?_⟩
 obtain ⟨vn,vd,h1,h2,h3,h4,h5,h6⟩:=hc j t hj
 have hb:=hs.in (z03 hj)
 exact ⟨vn,vd,hk.cell hb h1,hk.cell hb h2,hk.cell hb h3,hk.cell hb h4,h5.to hk hS,h6.to hk hS⟩
theorem Rats.on {w W:World} {v:Value} {z:List (RInt × RInt)} (h:Rats (Old w) w v z) (hx:Ext w W):Rats (Old W) W v z:=h.to (Kept.ext hx (fun _ h => h)) (z2b hx)
theorem Rats.len_le {S:Nat → Prop} {w:World} {v:Value} {l:List (RInt × RInt)} (h:Rats S w v l):l.length ≤ 9223372036854775807:=by
 obtain ⟨b,off,⟨a,cap,h1,h2,h3,_⟩,_⟩:=h
 unfold maxLen at h3
 omega
theorem Rats.cellAt {S:Nat → Prop} {w:World} {l:List (RInt × RInt)} {a:Option Addr} {n cap k:Nat} {r:RInt × RInt} (h:Rats S w (.slice a n cap) l) (hr:l[k]? = some r) :
  ∃ b off vn vd,a = some ⟨b,off,none⟩ ∧ n ≤ cap ∧ cap ≤ 9223372036854775807 ∧ S b ∧ w.cell? ⟨b,off + k * 4,none⟩ = some (.bool r.1.neg) ∧ w.cell? ⟨b,off + k * 4 + 1,none⟩ = some vn ∧ w.cell? ⟨b,off + k * 4 + 2,none⟩ = some (.bool r.2.neg) ∧ w.cell? ⟨b,off + k * 4 + 3,none⟩ = some vd ∧
   U32s S w vn r.1.mag ∧ U32s S w vd r.2.mag:=by
 obtain ⟨b,off,⟨a',cap',h1,h2,h3,h4,h5⟩,hc⟩:=h
 obtain ⟨rfl,rfl,rfl⟩:a = a' ∧ n = l.length ∧ cap = cap':=by simpa using h1
 have hp:0 < l.length:=by have:=z03 hr; omega
 obtain ⟨vn,vd,g1,g2,g3,g4,g5,g6⟩:=hc k r hr
 exact ⟨b,off,vn,vd,h4 hp,h2,h3,h5 hp,g1,g2,g3,g4,g5,g6⟩
end
section
open Go.RowKit
end
section
open Go.RowKit
section
variable {P:Program}
end
end
section
section
variable {α:Type} {le:α → α → Bool}
structure TotalLe (le:α → α → Bool):Prop where
 trans:∀ a b c,le a b = true → le b c = true → le a c = true
 total:∀ a b,le a b = true ∨ le b a = true
theorem TotalLe.not {x y:α} (h:TotalLe le) (hn:le x y = false):le y x = true:=by
 rcases h.total x y with h | h
 ·rw [hn] at h; cases h
 ·exact h
theorem TotalLe.not_of (h:TotalLe le) {x y z:α} (h1:le x y = false) (h2:le x z = true):le z y = false:=by
 cases h3:le z y with
 | false => rfl
 | true =>
  have:=h.trans _ _ _ h2 h3
  rw [h1] at this; cases this
theorem TotalLe.not_of' (h:TotalLe le) {x y z:α} (h1:le x y = false) (h2:le z y = true):le x z = false:=by
 cases h3:le x z with
 | false => rfl
 | true =>
  have:=h.trans _ _ _ h3 h2
  rw [h1] at this; cases this
abbrev z0f (le:α → α → Bool) (xs ys:List α):List α:=List.merge xs ys le
theorem z0g (ys:List α):z0f le [] ys = ys:=List.nil_merge ys
theorem z07 (xs:List α):z0f le xs [] = xs:=List.merge_right xs
theorem z1y {x y:α} (xs ys:List α) (h:le x y = true):z0f le (x :: xs) (y :: ys) = x :: z0f le xs (y :: ys):=List.cons_merge_cons_pos le xs ys h
theorem z1g {x y:α} (xs ys:List α) (h:le x y = false):z0f le (x :: xs) (y :: ys) = y :: z0f le (x :: xs) ys:=by
 unfold z0f
 rw [List.cons_merge_cons,if_neg (by rw [h]; exact Bool.false_ne_true)]
theorem zfd (xs ys:List α):(z0f le xs ys).Perm (xs ++ ys):=List.merge_perm_append le
def z0w (le:α → α → Bool) (l:List α):Prop:=l.Pairwise (fun a b => le a b = true)
theorem zbq (h:TotalLe le) {xs ys:List α} (hx:z0w le xs) (hy:z0w le ys):z0w le (z0f le xs ys) :=
 List.pairwise_merge (fun a b c => h.trans a b c) (fun a b => by rcases h.total a b with h | h <;> simp [h]) _ _ hx hy
theorem z3v (A1 A2 B1 B2:List α) (h1:∀ x ∈ A1,∀ y ∈ B2,le x y = true) (h2:∀ y ∈ B1,∀ x ∈ A2,le x y = false) :
  z0f le (A1 ++ A2) (B1 ++ B2) = z0f le A1 B1 ++ z0f le A2 B2:=by
 induction A1 generalizing B1 with
 | nil =>
  rw [z0g]
  induction B1 with
  | nil => rfl
  | cons b B1 ih =>
   cases A2 with
   | nil => simp
   | cons x A2 =>
    have:=ih (fun y hy => h2 y (by simp [hy]))
    simp only [List.nil_append,List.cons_append] at this ⊢
    rw [z1g _ _ (h2 b (by simp) x (by simp)),this]
 | cons a A1 ihA =>
  induction B1 with
  | nil =>
   rw [z07]
   cases B2 with
   | nil => simp
   | cons y B2 =>
    have:=ihA [] (fun x hx => h1 x (by simp [hx])) (fun y hy => by simp at hy)
    rw [z07] at this
    simp only [List.nil_append,List.cons_append] at this ⊢
    rw [z1y _ _ (h1 a (by simp) y (by simp)),this]
  | cons b B1 ihB =>
   cases hab:le a b with
   | true =>
    have:=ihA (b :: B1) (fun x hx => h1 x (by simp [hx])) h2
    simp only [List.cons_append] at this ⊢
    rw [z1y _ _ hab,z1y _ _ hab,this]
    rfl
   | false =>
    have:=ihB (fun y hy => h2 y (by simp [hy]))
    simp only [List.cons_append] at this ⊢
    rw [z1g _ _ hab,z1g _ _ hab,this]
    rfl
theorem zdi (h:TotalLe le) (A B C:List α):z0f le (z0f le A B) C = z0f le A (z0f le B C):=by
 generalize hn:A.length + B.length + C.length = n
 induction n using Nat.strongRecOn generalizing A B C with
 | ind n ih =>
  cases A with
  | nil => rw [z0g,z0g]
  | cons a A =>
   cases B with
   | nil => rw [z0g,z07]
   | cons b B =>
    cases C with
    | nil => rw [z07,z07]
    | cons c C =>
     simp only [List.length_cons] at hn
     cases hab:le a b with
     | true =>
      rw [z1y _ _ hab]
      cases hac:le a c with
      | true =>
       rw [z1y _ _ hac,ih _ (by simp only [List.length_cons]; omega) A (b :: B) (c :: C) rfl]
       cases hbc:le b c with
       | true => rw [z1y _ _ hbc,z1y _ _ hab]
       | false => rw [z1g _ _ hbc,z1y _ _ hac]
      | false =>
       have hbc:le b c = false:=h.not_of hac hab
       rw [z1g _ _ hac,z1g _ _ hbc,z1g _ _ hac,← z1y _ _ hab,ih _ (by simp only [List.length_cons]; omega) (a :: A) (b :: B) C rfl]
     | false =>
      rw [z1g _ _ hab]
      cases hbc:le b c with
      | true => rw [z1y _ _ hbc,z1y _ _ hbc,z1g _ _ hab,ih _ (by simp only [List.length_cons]; omega) (a :: A) B (c :: C) rfl]
      | false =>
       have hac:le a c = false:=by
        cases h3:le a c with
        | false => rfl
        | true =>
         have:=h.trans _ _ _ (h.not hab) h3
         rw [hbc] at this; cases this
       rw [z1g _ _ hbc,z1g _ _ hbc,z1g _ _ hac,← z1g _ _ hab,ih _ (by simp only [List.length_cons]; omega) (a :: A) (b :: B) C rfl]
def z20 (le:α → α → Bool):List α → List α
 | [] => []
 | x :: xs => z0f le [x] (z20 le xs)
theorem z4m (h:TotalLe le) (A B:List α):z20 le (A ++ B) = z0f le (z20 le A) (z20 le B):=by
 induction A with
 | nil => exact (z0g _).symm
 | cons a A ih =>
  show z0f le [a] (z20 le (A ++ B)) = z0f le (z0f le [a] (z20 le A)) (z20 le B)
  rw [ih,zdi h]
theorem z9w (x:α):z20 le [x] = [x]:=z07 [x]
theorem zay (l:List α):(z20 le l).Perm l:=by
 induction l with
 | nil => exact List.Perm.refl _
 | cons x l ih => exact (zfd [x] _).trans (ih.cons x)
theorem z10 (l:List α):(z20 le l).length = l.length:=(zay l).length_eq
theorem z2z (h:TotalLe le) (l:List α):z0w le (z20 le l):=by
 induction l with
 | nil => exact List.Pairwise.nil
 | cons x l ih => exact zbq h (List.pairwise_singleton _ _) ih
theorem z88 {S1 S2:List α} {x:α} (h1:∀ y ∈ S1,le y x = true) (h2:∀ y ∈ S2,le y x = false):z0f le (S1 ++ S2) [x] = S1 ++ x :: S2:=by
 have e:=z3v (le:=le) S1 S2 [x] [] (fun _ _ y hy => by simp at hy) (fun y hy z hz => by rw [List.mem_singleton.1 hy]; exact h2 z hz)
 rw [List.append_nil,z07] at e
 rw [e]
 have e2:=z3v (le:=le) S1 [] [] [x] (fun y hy z hz => by rw [List.mem_singleton.1 hz]; exact h1 y hy) (fun y hy => by simp at hy)
 rw [List.append_nil,List.nil_append,z0g,z07] at e2
 rw [e2]
 simp
theorem zfe {S1 S2:List α} {x:α} (h1:∀ y ∈ S1,le x y = false) (h2:∀ y ∈ S2,le x y = true):z0f le [x] (S1 ++ S2) = S1 ++ x :: S2:=by
 have e:=z3v (le:=le) [] [x] S1 S2 (fun y hy => by simp at hy) (fun y hy z hz => by rw [List.mem_singleton.1 hz]; exact h1 y hy)
 rw [List.nil_append,z0g] at e
 rw [e]
 have e2:=z3v (le:=le) [x] [] [] S2 (fun y hy z hz => by rw [List.mem_singleton.1 hy]; exact h2 z hz) (fun y hy => by simp at hy)
 rw [List.append_nil,List.nil_append,z0g,z07] at e2
 rw [e2]
 rfl
theorem z0w.last {A:List α} {x y:α} (h:TotalLe le) (hs:z0w le (A ++ [x])) (hxy:le x y = true):∀ z ∈ A ++ [x],le z y = true:=by
 intro z hz
 obtain ⟨_,_,h3⟩:=List.pairwise_append.1 hs
 rcases List.mem_append.1 hz with hz | hz
 ·exact h.trans _ _ _ (h3 z hz x (by simp)) hxy
 ·rw [List.mem_singleton.1 hz]; exact hxy
end
end
section
open Go.RowKit
theorem z9x (x y:Int):∀ u ∈ (#[.int .i64 x,.int .i64 y]:Array Value).toList,u.oneCell' = true:=by
 intro u hu
 simp at hu
 rcases hu with rfl | rfl <;> rfl
end
section
end
section
open Go.RowKit
theorem zdj (x y:Int) (w:World) (hs:-9223372036854775808 ≤ x + y ∧ x + y ≤ 9223372036854775807) :
  Calls Tryz.prog 167 #[.int .i64 x,.int .i64 y] w fun e w' => e = .returned (.int .i64 (x + y)) ∧ w' = w:=by
 obtain ⟨h1,h2⟩:=hs
 go_enter Tryz.func167,Tryz.ntmps167
 go_wp2
 all_goals
  go_ret
  exact ⟨rfl,rfl⟩
theorem zs3 (w:World) (cs:Array Value) (T:TypeId) {b i:Nat} (hb:b = w.heap.size):(w.alloc (.cells cs T)).frozen? ⟨b,i,none⟩ = false:=by
 subst hb
 exact z1n w cs T
theorem zs4 (z x y:Int) (bf bm:Nat) (W:World) (hs:-9223372036854775808 ≤ x + y ∧ x + y ≤ 9223372036854775807) (hle:x + y ≤ 0)
  (cf:W.cell? ⟨bf,0,none⟩ = some (.func (.func 167) #[] #[])) :
  Calls Tryz.prog 175 #[.int .i64 z,.int .i64 x,.int .i64 y,.pointer (some ⟨bf,0,none⟩),.pointer (some ⟨bm,0,none⟩)] W fun e w' => e = .returned (.tuple #[]) ∧ w' = W:=by
 have HT:=hid (zdj x y W hs)
 generalize x + y = s at *
 obtain ⟨h1,h2⟩:=hs
 go_enter Tryz.func175,Tryz.ntmps175
 go_wp2_with fail
 with_reducible refine HT.out.mono ?_
 rintro e w' ⟨rfl,rfl⟩
 go_wp2
 all_goals
  go_end0
  exact ⟨rfl,rfl⟩
theorem zp4 (z x y:Int) (bf bm:Nat) (v:Value) (n base:Nat) (xs:List Value) (W:World) (hs:-9223372036854775808 ≤ x + y ∧ x + y ≤ 9223372036854775807) (hlt:0 < x + y)
  (cf:W.cell? ⟨bf,0,none⟩ = some (.func (.func 167) #[] #[])) (cm:W.cell? ⟨bm,0,none⟩ = some v) (hf:W.frozen? ⟨bm,0,none⟩ = false) (hbm:bm < base)
  (hown:W.ownsRow base 51 2 v n xs) (hbase:base ≤ W.heap.size) (hn:n ≤ 1000000000) :
  Calls Tryz.prog 175 #[.int .i64 z,.int .i64 x,.int .i64 y,.pointer (some ⟨bf,0,none⟩),.pointer (some ⟨bm,0,none⟩)] W fun e w' => e = .returned (.tuple #[]) ∧
   ∃ v' w2,w' = w2.setCell ⟨bm,0,none⟩ v' ∧ w2.ownsRow base 51 2 v' (n + 1) (xs ++ [.int .i64 z,.int .i64 (x + y)]) ∧ W.grownBy w2 v.ownBlock:=by
 have HT:=hid (zdj x y W hs)
 generalize x + y = s at *
 obtain ⟨h1,h2⟩:=hs
 have HO:=hid hown
 have HN:=hid hn
 have HB:=hid hbase
 have HL:Hid (bm < W.heap.size ∧ v.ownBlock ≠ some bm):=hid ⟨z08 cm,fun e => by have:=(hown.lt bm e).1; omega⟩
 have HC:=hid (And.intro cm hf)
 clear hown hn hbase hbm
 go_enter Tryz.func175,Tryz.ntmps175
 go_wp2_with fail
 with_reducible refine HT.out.mono ?_
 rintro e w' ⟨rfl,rfl⟩
 go_wp2_with (at_builtin; refine z09 _ rfl (.tmp 15) (.tmp 19) 47 rfl base 51 (.agg #[.int .i64 0,.int .i64 0]) 2 16 Tryz.underlying47 Tryz.infoPower rfl (by decide) v n xs rfl HO.out #[.int .i64 z,.int .i64 s] rfl (z9x _ _) rfl HN.out (by decide) HB.out ?_; intro v1 w2 hown hg _; have q:=Go.Joins.ownsRow_form hown (Nat.succ_pos _); obtain ⟨bg,cg,rfl⟩:=q; have HOW:=hid hown; have HG:=hid hg; have g1:=(hg.block bm HL.out.1 (fun e => HL.out.2 e.symm)); have c1:w2.cell? ⟨bm,0,none⟩ = some v:=(World.cell?_of_block (a:=⟨bm,0,none⟩) g1).trans HC.out.1; have c2:w2.frozen? ⟨bm,0,none⟩ = false:=(World.frozen?_of_block (a:=⟨bm,0,none⟩) g1).trans HC.out.2; clear hown hg g1)
 all_goals
  go_end0
  exact ⟨rfl,_,_,rfl,HOW.out,HG.out⟩
theorem z8k (f:Int → Int → Int) (d:List (Int × Int × Int)) (t:Int × Int × Int):z3r f (d ++ [t]) = if 0 < f t.2.1 t.2.2 then z3r f d ++ [(t.1,f t.2.1 t.2.2)] else z3r f d:=by
 induction d with
 | nil =>
  simp only [List.nil_append,z3r]
 | cons x r ih =>
  simp only [List.cons_append,z3r,ih]
  split <;> split <;> simp_all
theorem zm1 (f:Int → Int → Int) (d:List (Int × Int × Int)):(z3r f d).length ≤ d.length:=by
 induction d with
 | nil => simp [z3r]
 | cons x r ih =>
  simp only [z3r]
  split <;> simp <;> omega
theorem zdk {a b:Mono} (ha:mayM a = true) (hb:mayM b = true):inBounds (z1b a b):=fun x hx => by
 have h2:∀ (l:List (Int × Int × Int)) (k:Int),ris k l → ∀ t ∈ l,k < t.1 ∧ t.1 ≤ 200:=by
  intro l
  induction l with
  | nil => intro k _ t ht; simp at ht
  | cons y s ih =>
   intro k hk t ht
   obtain ⟨g1,g2,g3⟩:=hk
   rcases List.mem_cons.1 ht with rfl | ht
   ·exact ⟨g1,g2⟩
   ·have:=ih _ g3 t ht; omega
 obtain ⟨h3,h4⟩:=zbo ha hb
 have h5:∀ (l:List (Int × Int × Int)),x ∈ z3r (· + ·) l → ∃ t ∈ l,x = (t.1,t.2.1 + t.2.2):=by
  intro l
  induction l with
  | nil => intro h; simp [z3r] at h
  | cons y s ih =>
   intro h
   simp only [z3r] at h
   split at h
   ·rcases List.mem_cons.1 h with h | h
    ·exact ⟨y,by simp,h⟩
    ·obtain ⟨t,h6,h7⟩:=ih h
     exact ⟨t,by simp [h6],h7⟩
   ·obtain ⟨t,h6,h7⟩:=ih h
    exact ⟨t,by simp [h6],h7⟩
 obtain ⟨t,ht,rfl⟩:=h5 _ hx
 have h6:=h2 _ _ h3 t ht
 have h7:=zls h3 ht
 rw [h4] at h7
 have h8:=z3l ha t.1
 have h9:=z3l hb t.1
 have h10:t.2.1 = ex a t.1:=(congrArg Prod.fst h7).symm
 have h11:t.2.2 = ex b t.1:=(congrArg Prod.snd h7).symm
 refine ⟨⟨?_,?_⟩,?_,?_⟩ <;> simp only <;> omega
theorem z9y {S:Nat → Prop} (va vb:Value) (a b:Mono) (w:World) (ha:Pows S w va a) (hb:Pows S w vb b) (hS:∀ k,S k → k < w.heap.size) (hma:mayM a = true) (hmb:mayM b = true) :
  Calls Tryz.prog 166 #[va,vb,.func (.func 167) #[] #[]] w fun e w' => ∃ v',e = .returned v' ∧ Pows (New w w') w' v' (z1b a b) ∧ Ext w w':=by
 have hmf:∀ (fn:Fn) (first cap:Array Value) (w:World),(Instr.makeFunc fn first cap).run Tryz.prog w = .ok (.func fn first cap) w:=fun _ _ _ _ => rfl
 have HA:=hid ha
 have HB:=hid hb
 have HMA:=hid hma
 have HMB:=hid hmb
 obtain ⟨aa,ca,rfl⟩:=ha.form
 obtain ⟨a2,cb,rfl⟩:=hb.form
 clear ha hb hma hmb
 go_enter Tryz.func166,Tryz.ntmps166
 go_wp2_with fail
 have hK:Ext w ((w.alloc (.cells #[.func (.func 167) #[] #[]] 176)).alloc (.cells #[.slice none 0 0] 47)):=(Ext.alloc (Ext.refl w) _).alloc _
 have HK:=hid hK
 have hz:(w.alloc (.cells #[.func (.func 167) #[] #[]] 176)).heap.size = w.heap.size + 1:=size_alloc _ _
 refine (zc7 (S:=S) 175 #[.pointer (some ⟨w.heap.size,0,none⟩),.pointer (some ⟨w.heap.size + 1,0,none⟩)] (enters_of Tryz.func175 (by kernel_rfl) rfl)
  (fun d W => W.cell? ⟨w.heap.size,0,none⟩ = some (.func (.func 167) #[] #[]) ∧ (∃ v,W.cell? ⟨w.heap.size + 1,0,none⟩ = some v ∧ W.ownsRow (w.heap.size + 2) 51 2 v (z3r (· + ·) d).length (z3d (z3r (· + ·) d))) ∧ W.frozen? ⟨w.heap.size + 1,0,none⟩ = false ∧ Ext w W ∧ w.heap.size + 2 ≤ W.heap.size) a b _ ?_ ?_ ?_ _ _
  (HA.out.to (Kept.ext hK hS) (fun _ h => h)) (HB.out.to (Kept.ext hK hS) (fun _ h => h)) ⟨cell_old _ (z02 _ _ _ rfl rfl),⟨_,z02 _ _ _ hz.symm rfl,World.ownsRow_nil _ _ _ _⟩,?_,hK,by rw [size_alloc,size_alloc]; exact Nat.le_refl _⟩).mono ?_
 ·rintro d t r W hd ⟨h1,⟨v,h2,h3⟩,h4,h5,h6⟩
  have hb:=z98 HA.out.inBounds HB.out.inBounds t (by rw [hd]; simp)
  obtain ⟨h7,h8⟩:=zbo HMA.out HMB.out
  have h9:=zls h7 (t:=t) (by rw [hd]; simp)
  rw [h8] at h9
  have h10:=z3l HMA.out t.1
  have h11:=z3l HMB.out t.1
  have h12:t.2.1 = ex a t.1:=(congrArg Prod.fst h9).symm
  have h13:t.2.2 = ex b t.1:=(congrArg Prod.snd h9).symm
  rw [show (#[Value.int .i64 t.1,.int .i64 t.2.1,.int .i64 t.2.2] ++ #[.pointer (some ⟨w.heap.size,0,none⟩),.pointer (some ⟨w.heap.size + 1,0,none⟩)]:Array Value) = #[.int .i64 t.1,.int .i64 t.2.1,.int .i64 t.2.2,.pointer (some ⟨w.heap.size,0,none⟩),.pointer (some ⟨w.heap.size + 1,0,none⟩)] from rfl]
  have hdl:(z3r (· + ·) d).length ≤ 1000000000:=by
   have k1:=zm1 (· + ·) d
   have k2:=zng a b
   rw [hd,List.length_append] at k2
   have k3:=z68 HMA.out
   have k4:=z68 HMB.out
   omega
  by_cases hpos:0 < t.2.1 + t.2.2
  ·refine (zp4 t.1 t.2.1 t.2.2 _ _ v _ _ _ W (by omega) hpos h1 h2 h4 (Nat.lt_succ_self _) h3 h6 hdl).mono ?_
   rintro e w' ⟨rfl,v',w2,rfl,k1,k2⟩
   have hne:∀ k,v.ownBlock = some k → w.heap.size + 2 ≤ k:=fun k hk => (h3.lt k hk).1
   have g1:w2.heap[w.heap.size]? = W.heap[w.heap.size]?:=k2.block _ (by omega) (fun e => by have:=hne _ e.symm; omega)
   have g2:w2.heap[w.heap.size + 1]? = W.heap[w.heap.size + 1]?:=k2.block _ (by omega) (fun e => by have:=hne _ e.symm; omega)
   refine ⟨rfl,z0b ((World.cell?_of_block (a:=⟨w.heap.size,0,none⟩) g1).trans h1) (ab (by omega)),⟨v',z1c (u:=v) ?_,?_⟩,z2u ?_,?_,?_⟩
   ·exact (World.cell?_of_block (a:=⟨w.heap.size + 1,0,none⟩) g2).trans h2
   ·refine ownsRow_setCell_below ?_ (Nat.lt_succ_self _) _
    rw [z8k,if_pos hpos,z4h,List.length_append]
    simpa [z3d] using k1
   ·exact (World.frozen?_of_block (a:=⟨w.heap.size + 1,0,none⟩) g2).trans h4
   ·exact (z0j h5 k2 (fun k hk => by have:=hne k hk; omega)).setCell (p:=⟨w.heap.size + 1,0,none⟩) (Nat.le_succ _) _
   ·rw [z06]; exact Nat.le_trans h6 k2.size
  ·refine (zs4 t.1 t.2.1 t.2.2 _ _ W (by omega) (by omega) h1).mono ?_
   rintro e w' ⟨rfl,rfl⟩
   refine ⟨rfl,h1,⟨v,h2,?_⟩,h4,h5,h6⟩
   rw [z8k,if_neg hpos]
   exact h3
 ·rintro d W ⟨_,_,_,h3,_⟩ k hk
  exact (Kept.ext h3 hS k hk).trans (Kept.ext HK.out hS k hk).symm
 ·rintro d W q ⟨h1,⟨v,h2,h3⟩,h4,h5,h6⟩
  exact ⟨by simpa using h1,⟨v,by simpa using h2,h3⟩,by simpa using h4,h5.drewN q,h6⟩
 ·exact zs3 _ _ _ hz.symm
 rintro e w3 ⟨rfl,h1,⟨v,h2,h3⟩,h4,h5,h6⟩
 have HX3:=hid h5
 have HP:=hid (z67 h3 (zdk HMA.out HMB.out))
 have hf:=Go.Joins.ownsRow_forms h3
 clear h1 h3 h5 hz hK
 rcases hf with ⟨rfl,-⟩ | ⟨bg,cg,rfl⟩
 all_goals
  go_wp2
  all_goals
   refine bodyPost_ret (by simp [results,Tryz.results166,go_sem,z1c h2]; rfl) rfl ?_
   exact ⟨_,rfl,HP.out.to (Kept.setCell (fun h => by have:w.heap.size + 2 ≤ w.heap.size + 1:=h.1; omega) _) (fun k h => ⟨by have:=h.1; omega,by rw [z06]; exact h.2⟩),HX3.out.setCell (p:=⟨w.heap.size + 1,0,none⟩) (Nat.le_succ _) _⟩
def z6k (a b:Mono):Int:=if mayM a && mayM b then (if mayM (z1b a b) then 0 else 8) else 2
def z91 (a b:Mono):Mono:=if mayM a && mayM b && mayM (z1b a b) then z1b a b else []
theorem zit {S:Nat → Prop} (va vb:Value) (a b:Mono) (w:World) (ha:Pows S w va a) (hb:Pows S w vb b) (hS:∀ k,S k → k < w.heap.size) :
  Calls Tryz.prog 157 #[va,vb] w fun e w' => ∃ v',e = .returned (.tuple #[v',.int .i64 (z6k a b)]) ∧ Pows (New w w') w' v' (z91 a b) ∧ Ext w w':=by
 have hnot:∀ (x:Bool) (w:World),(Op.unary .not (.bool x)).run Tryz.prog w = .ok (.bool (!x)) w:=fun _ _ => rfl
 have HA:=hid ha
 have HB:=hid hb
 obtain ⟨aa,ca,rfl⟩:=ha.form
 obtain ⟨a2,cb,rfl⟩:=hb.form
 clear ha hb
 unfold z6k z91
 cases hma:mayM a with
 | false =>
  have HC:=hid (z2j _ a w HA.out hS)
  simp only [hma] at HC
  go_enter Tryz.func157,Tryz.ntmps157
  go_wp2_with fail
  with_reducible refine HC.out.mono ?_
  rintro e w1 ⟨rfl,hx1⟩
  have HX1:=hid hx1
  clear hx1
  go_wp2
  all_goals
   go_ret2
   exact ⟨_,rfl,Pows.empty _ _ _,HX1.out⟩
 | true =>
  have HC:=hid (z2j _ a w HA.out hS)
  simp only [hma] at HC
  have HD:=hid (fun (W:World) (hW:Ext w W) => z2j _ b W (HB.out.ext hW hS) (z0a hS hW))
  cases hmb:mayM b with
  | false =>
   simp only [hmb] at HD
   go_enter Tryz.func157,Tryz.ntmps157
   go_wp2_with fail
   with_reducible refine HC.out.mono ?_
   rintro e w1 ⟨rfl,hx1⟩
   have HX1:=hid hx1
   clear hx1
   go_wp2_with fail
   with_reducible refine (HD.out _ HX1.out).mono ?_
   rintro e w2 ⟨rfl,hx2⟩
   have HX2:=hid (HX1.out.trans hx2)
   clear hx2
   go_wp2
   all_goals
    go_ret2
    exact ⟨_,rfl,Pows.empty _ _ _,HX2.out⟩
  | true =>
   simp only [hmb] at HD
   have HM:=hid (fun (W:World) (hW:Ext w W) => z9y _ _ a b W (HA.out.ext hW hS) (HB.out.ext hW hS) (z0a hS hW) hma hmb)
   obtain ⟨m,hm⟩:∃ m,m = z1b a b:=⟨_,rfl⟩
   rw [← hm] at HM ⊢
   clear hm
   have HE:=hid (fun (W:World) (v:Value) (hv:Pows (Old W) W v m) => z2j _ m W hv (fun _ h => h))
   cases hmm:mayM m with
   | false =>
    simp only [hmm] at HE
    go_enter Tryz.func157,Tryz.ntmps157
    go_wp2_with fail
    with_reducible refine HC.out.mono ?_
    rintro e w1 ⟨rfl,hx1⟩
    have HX1:=hid hx1
    clear hx1
    go_wp2_with fail
    with_reducible refine (HD.out _ HX1.out).mono ?_
    rintro e w2 ⟨rfl,hx2⟩
    have HX2:=hid (HX1.out.trans hx2)
    clear hx2
    go_wp2_with fail
    with_reducible refine (HM.out _ HX2.out).mono ?_
    rintro e w3 ⟨v3,rfl,hp3,hx3⟩
    have HX3:=hid (HX2.out.trans hx3)
    have HCE:=hid (HE.out w3 v3 (hp3.to (Kept.refl _ _) New.lt))
    obtain ⟨a3,c3,rfl⟩:=hp3.form
    clear hp3 hx3
    go_wp2_with fail
    with_reducible refine HCE.out.mono ?_
    rintro e w4 ⟨rfl,hx4⟩
    have HX4:=hid (HX3.out.trans hx4)
    clear hx4
    go_wp2
    all_goals
     go_ret2
     exact ⟨_,rfl,Pows.empty _ _ _,HX4.out⟩
   | true =>
    simp only [hmm] at HE
    go_enter Tryz.func157,Tryz.ntmps157
    go_wp2_with fail
    with_reducible refine HC.out.mono ?_
    rintro e w1 ⟨rfl,hx1⟩
    have HX1:=hid hx1
    clear hx1
    go_wp2_with fail
    with_reducible refine (HD.out _ HX1.out).mono ?_
    rintro e w2 ⟨rfl,hx2⟩
    have HX2:=hid (HX1.out.trans hx2)
    clear hx2
    go_wp2_with fail
    with_reducible refine (HM.out _ HX2.out).mono ?_
    rintro e w3 ⟨v3,rfl,hp3,hx3⟩
    have HX3:=hid (HX2.out.trans hx3)
    have HCE:=hid (HE.out w3 v3 (hp3.to (Kept.refl _ _) New.lt))
    have HP3:=hid hp3
    have HX23:=hid hx3
    obtain ⟨a3,c3,rfl⟩:=hp3.form
    clear hp3 hx3
    go_wp2_with fail
    with_reducible refine HCE.out.mono ?_
    rintro e w4 ⟨rfl,hx4⟩
    have HX4:=hid (HX3.out.trans hx4)
    have HP4:Hid (Pows (New w w4) w4 (.slice a3 m.length c3) m):=hid (HP3.out.to (New.kept hx4) (fun k h => ⟨Nat.le_trans HX2.out.size h.1,Nat.lt_of_lt_of_le h.2 hx4.size⟩))
    clear hx4
    go_wp2
    all_goals
     go_ret2
     exact ⟨_,rfl,HP4.out,HX4.out⟩
end
section
open Go.RowKit
theorem zgt (n:Int) (w:World) (hn:-9223372036854775808 ≤ n ∧ n ≤ 9223372036854775807) :
  Calls Tryz.prog 170 #[.int .i64 n] w fun e w' => ∃ v',e = .returned v' ∧ IntV (New w w') w' v' (ofI n) ∧ Ext w w':=by
 obtain ⟨hn1,hn2⟩:=hn
 have HX0:=hid (Ext.alloc (Ext.refl w) (.cells #[.bool false,.slice none 0 0] 26))
 have HSZ:Hid (w.heap.size < (w.alloc (.cells #[.bool false,.slice none 0 0] 26)).heap.size):=hid (by rw [size_alloc]; omega)
 by_cases h:n < 0
 ·obtain ⟨x,hx⟩:∃ x:Nat,(x:Int) = -n:=⟨(-n).toNat,by omega⟩
  have hxl:x < 18446744073709551616:=by omega
  have q1:n % 18446744073709551616 = 18446744073709551616 - (x:Int):=by omega
  have q2:IntKind.u64.wrap (-IntKind.u64.wrap n) = (x:Int):=by
   rw [IntKind.wrap_u64,IntKind.wrap_u64]
   omega
  have HS:=hid (fun W:World => z9s x W hxl)
  have HL:Hid ((rep B32 x).length ≤ 50000000000000):=hid (Nat.le_trans (z0d z01 x 2 (by show x < 4294967296 ^ 2; omega)) (by decide))
  have HQ:Hid (n = sg true x):=hid (by unfold sg; rw [if_pos rfl]; omega)
  clear hx hxl
  go_enter Tryz.func170,Tryz.ntmps170
  go_wp2_with fail
  with_reducible refine (HS.out _).mono ?_
  rintro e w1 ⟨v1,rfl,hp1,hx1⟩
  have HX1:=hid hx1
  have HP1:=hid hp1
  obtain ⟨a1,c1,rfl⟩:=hp1.form
  clear hp1 hx1
  go_wp2_with fail
  with_reducible refine (z4k true _ _ _ HP1.out New.lt HL.out).mono ?_
  rintro e w2 ⟨v2,rfl,⟨vm2,rfl,hu2⟩,hx2⟩
  have HX2:=hid hx2
  have HU2:=hid hu2
  obtain ⟨a2,n2,rfl⟩:=hu2.form
  have e0:=(HX1.out.trans hx2).new_cell (i:=0) rfl
  have e1:=(HX1.out.trans hx2).new_cell (i:=1) rfl
  have f0:=(HX1.out.trans hx2).new_free 0
  have f1:=(HX1.out.trans hx2).new_free 1
  have HE:=hid (And.intro e0 e1)
  rw [← HQ.out] at HU2 ⊢
  clear hx2 hu2
  go_wp2
  have hd:=fun x y => z0v x y HE.out.1 HE.out.2
  refine bodyPost_ret (by simp [results,Tryz.results170,go_sem,(hd _ _).1,(hd _ _).2]; rfl) rfl ?_
  have hg:=z3n (w0:=w) (b:=w.heap.size) rfl HU2.out (HX0.out.trans HX1.out) HX2.out (Nat.le_refl _) (Nat.lt_of_lt_of_le HSZ.out HX1.out.size) (.bool (ofI n).neg) (.slice a2 (ofI n).mag.length n2)
  exact ⟨_,rfl,hg.1,hg.2⟩
 ·obtain ⟨x,hx⟩:∃ x:Nat,(x:Int) = n:=⟨n.toNat,by omega⟩
  have hxl:x < 18446744073709551616:=by omega
  have q2:IntKind.u64.wrap n = (x:Int):=by
   rw [IntKind.wrap_u64]
   omega
  have HS:=hid (fun W:World => z9s x W hxl)
  have HL:Hid ((rep B32 x).length ≤ 50000000000000):=hid (Nat.le_trans (z0d z01 x 2 (by show x < 4294967296 ^ 2; omega)) (by decide))
  have HQ:Hid (n = sg false x):=hid (by unfold sg; simp; omega)
  clear hx hxl
  go_enter Tryz.func170,Tryz.ntmps170
  go_wp2_with fail
  with_reducible refine (HS.out _).mono ?_
  rintro e w1 ⟨v1,rfl,hp1,hx1⟩
  have HX1:=hid hx1
  have HP1:=hid hp1
  obtain ⟨a1,c1,rfl⟩:=hp1.form
  clear hp1 hx1
  go_wp2_with fail
  with_reducible refine (z4k false _ _ _ HP1.out New.lt HL.out).mono ?_
  rintro e w2 ⟨v2,rfl,⟨vm2,rfl,hu2⟩,hx2⟩
  have HX2:=hid hx2
  have HU2:=hid hu2
  obtain ⟨a2,n2,rfl⟩:=hu2.form
  have e0:=(HX1.out.trans hx2).new_cell (i:=0) rfl
  have e1:=(HX1.out.trans hx2).new_cell (i:=1) rfl
  have f0:=(HX1.out.trans hx2).new_free 0
  have f1:=(HX1.out.trans hx2).new_free 1
  have HE:=hid (And.intro e0 e1)
  rw [← HQ.out] at HU2 ⊢
  clear hx2 hu2
  go_wp2
  have hd:=fun x y => z0v x y HE.out.1 HE.out.2
  refine bodyPost_ret (by simp [results,Tryz.results170,go_sem,(hd _ _).1,(hd _ _).2]; rfl) rfl ?_
  have hg:=z3n (w0:=w) (b:=w.heap.size) rfl HU2.out (HX0.out.trans HX1.out) HX2.out (Nat.le_refl _) (Nat.lt_of_lt_of_le HSZ.out HX1.out.size) (.bool (ofI n).neg) (.slice a2 (ofI n).mag.length n2)
  exact ⟨_,rfl,hg.1,hg.2⟩
end
section
open Go.RowKit
end
section
open Go.RowKit
section
variable {S S':Nat → Prop} {w w':World} {v:Value} {l:List PZ}
end
end
section
open Go.RowKit
def zbr (t:RTerm):Bool:=decide (20 < t.c.mag.length) || decide (12 < t.m.length)
def z5h (n:Int) (ts:List RTerm):Bool:=ts.any zbr || decide (n < (ts.length:Int))
theorem zff {S:Nat → Prop} (v:Value) (ts:List RTerm) (n:Int) (w:World) (h:z0h S w v ts) (_hS:∀ k,S k → k < w.heap.size) (hn:-9223372036854775808 ≤ n ∧ n ≤ 9223372036854775807) :
  Calls Tryz.prog 28 #[v,.int .i64 n] w fun e w' => e = .returned (.bool (z5h n ts)) ∧ Ext w w':=by
 have H:=hid h
 have hl:=h.len_le
 obtain ⟨hn1,hn2⟩:=hn
 obtain ⟨a,cap,rfl⟩:=h.form
 clear h
 go_enter Tryz.func28,Tryz.ntmps28
 go_wp2
 go_loopw [5] (fun i wr => ∃ k:Nat,k ≤ ts.length ∧ i = .int .i64 k ∧ Ext w wr ∧ Hid ((ts.take k).any zbr = false)) (fun i _ => ts.length - (intOf i).toNat)
 case atStart => exact ⟨0,Nat.zero_le _,rfl,Ext.refl _,hid rfl⟩
 case round =>
  obtain ⟨k,hk,rfl,hx,HM⟩:=hrel
  have HX:=hid hx
  by_cases hlt:k < ts.length
  ·obtain ⟨t,ht⟩:=z00 hlt
   obtain ⟨b,off,vm,vo,rfl,-,hq1,hm1,hSb,h1,h2,h3,h4,h5⟩:=H.out.cellAt ht
   have HT:Hid (ts.take (k + 1) = ts.take k ++ [t]):=hid (by rw [List.take_add_one,ht]; rfl)
   have HQ:=hid (List.mem_of_getElem? ht)
   have hl1:=h4.len_le
   have hl2:=h5.len_le
   have HBT:Hid (zbr t = (decide (20 < t.c.mag.length) || decide (12 < t.m.length))):=hid rfl
   have g1:=Ext.cell hx h1
   have g2:=Ext.cell hx h2
   have g3:=Ext.cell hx h3
   obtain ⟨am,cm,rfl⟩:=h4.form
   obtain ⟨ao,co,rfl⟩:=h5.form
   generalize t.c.mag.length = x at *
   generalize t.m.length = y at *
   clear hx ht h1 h2 h3 h4 h5
   by_cases hbig:20 < x
   ·have HF:Hid (z5h n ts = true):=hid (by
     unfold z5h
     rw [List.any_eq_true.2 ⟨t,HQ.out,by rw [HBT.out,decide_eq_true hbig]; rfl⟩]
     rfl)
    go_wp2
    all_goals
     go_ret
     exact ⟨by rw [HF.out]; rfl,HX.out⟩
   ·by_cases hbig2:12 < y
    ·have HF:Hid (z5h n ts = true):=hid (by
      unfold z5h
      rw [List.any_eq_true.2 ⟨t,HQ.out,by rw [HBT.out,decide_eq_true hbig2,Bool.or_true]⟩]
      rfl)
     go_wp2
     all_goals
      go_ret
      exact ⟨by rw [HF.out]; rfl,HX.out⟩
    ·go_wp2
     go_roundw
     case rel => exact ⟨k + 1,by omega,by go_num,HX.out,hid (by rw [HT.out,List.any_append,HM.out]; simp [HBT.out]; omega)⟩
     case measure => simp only [intOf]; omega
  ·obtain rfl:k = ts.length:=by omega
   have HF:Hid (z5h n ts = decide (n < (ts.length:Int))):=hid (by
    have:=HM.out
    rw [List.take_length] at this
    unfold z5h
    rw [this,Bool.false_or])
   clear hx
   go_wp2
   all_goals
    go_ret
    exact ⟨by rw [HF.out]; rfl,HX.out⟩
end
section
open Go.RowKit
section
variable {S:Nat → Prop} {w w1 w2:World} {o:Value} {e:TypeId} {size n:Nat} {xs:List Value}
end
theorem zp5 {p:PZ} (h:szP p) (k:Nat):szP (p.take k):=⟨Nat.le_trans (by rw [List.length_take]; exact Nat.min_le_right _ _) h.1,fun t ht => h.2 t (List.mem_of_mem_take ht)⟩
theorem zm2 {p:PZ} (h:canP p) (k:Nat):addP [] (p.take k) = p.take k:=z5m (zcb h (List.take_sublist _ _))
end
section
theorem zp6 {p:PZ} (h:z0p p) {t:Int × Mono} (ht:t ∈ z25 p):∃ u ∈ p,u.2 = t.2:=by
 have h1:=(z90 h).cf_mem ht
 rw [zlx h] at h1
 have h2:=((z90 h).1 t ht).1
 exact canP.mem_of_cf (by rw [h1]; exact h2)
theorem zp7 {p q:PZ} {x:Int × Mono} (h:x ∈ mulL p q):∃ t ∈ p,∃ u ∈ q,x = (t.1 * u.1,z1b t.2 u.2):=by
 obtain ⟨t,ht,h2⟩:=List.mem_flatMap.1 h
 obtain ⟨u,hu,rfl⟩:=List.mem_map.1 h2
 exact ⟨t,ht,u,hu,rfl⟩
section
variable {P Q C:PZ}
def zm3 (p q:PZ):Prop:=∀ t ∈ p,∃ u ∈ q,∀ v,ex t.2 v ≤ ex u.2 v
end
end
section
theorem z5t {α:Type} {xs ys:List α} {k:Nat} {x:α} (h:xs.take k = ys.take k) (hx:xs[k]? = some x) (hy:ys[k]? = some x):xs.take (k + 1) = ys.take (k + 1):=by
 rw [List.take_add_one,List.take_add_one,h,hx,hy]
theorem zbs {α:Type} {xs ys:List α} {k:Nat} {x y:α} (hx:xs[k]? = some x) (hy:ys[k]? = some y) (h:x ≠ y):xs ≠ ys:=by
 rintro rfl
 rw [hx] at hy
 exact h (Option.some.inj hy)
end
end Go.Proofs.YtbfflodidkfphaaGreat
