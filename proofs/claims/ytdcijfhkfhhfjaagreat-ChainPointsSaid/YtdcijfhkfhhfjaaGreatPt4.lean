/- The document's whole numbers: sums. The document: which polynomials may be. A small number's limbs; a number's own. Quotient and rest of two numbers: the easy cases. Quotient and rest of two numbers: Knuth's way. Quotient and rest of two numbers. Terms that are summed by their monomials: what is collected is the canonical list. Plain. The product of two whole numbers (one of them of fewer than 24 limbs); a number's own. Exact quotients; the greatest common divisor. Exact quotients of whole numbers. Limbs added to others from a place on. Limbs cut in two. -/
import Derived.ArgAppend
import Derived.Deep.LoopGhost
import Derived.Test.YtdcijfhkfhhfjaaGreatPt3
set_option maxRecDepth 100000
set_option maxHeartbeats 16000000
namespace Go.Proofs.YtdcijfhkfhhfjaaGreat
section
open Go.RowKit
theorem zrt {x y:Int} (h:decide (x < 0) = decide (y < 0)):x + y = sg (decide (x < 0)) (x.natAbs + y.natAbs):=by
 unfold sg
 rw [decide_eq_decide] at h
 by_cases hx:x < 0
 ·have hy:=h.1 hx
  rw [decide_eq_true hx,if_pos rfl]
  omega
 ·have hy:¬ y < 0:=fun e => hx (h.2 e)
  rw [decide_eq_false hx,if_neg (by simp)]
  omega
theorem zux {x y:Int} (h:¬ decide (x < 0) = decide (y < 0)) (hge:y.natAbs ≤ x.natAbs):x + y = sg (decide (x < 0)) (x.natAbs - y.natAbs):=by
 unfold sg
 rw [decide_eq_decide] at h
 by_cases hx:x < 0
 ·rw [decide_eq_true hx,if_pos rfl]
  omega
 ·rw [decide_eq_false hx,if_neg (by simp)]
  omega
theorem zy7 {x y:Int} (h:¬ decide (x < 0) = decide (y < 0)) (hlt:x.natAbs < y.natAbs):x + y = sg (decide (y < 0)) (y.natAbs - x.natAbs):=by
 rw [Int.add_comm]
 exact zux (fun e => h e.symm) (Nat.le_of_lt hlt)
theorem znk {x y:Int} (_h:decide (x < 0) = decide (y < 0)):(decide (x < 0) && decide (0 < x.natAbs + y.natAbs)) = decide (x < 0):=by
 by_cases hx:x < 0
 ·have:0 < x.natAbs + y.natAbs:=by omega
  simp [hx,this]
 ·simp [hx]
theorem zfw {S:Nat → Prop} (vx vy:Value) (x y:Int) (w:World) (hx:ZV S w vx x) (hy:ZV S w vy y) (hS:∀ k,S k → k < w.heap.size) (hrx:szZ x) (hry:szZ y) (hs:decide (x < 0) = decide (y < 0)) :
  Calls Tryz.prog 71 #[vx,vy] w fun e w' => ∃ v',e = .returned v' ∧ ZV (New w w') w' v' (x + y) ∧ Ext w w':=by
 obtain ⟨vdx,rfl,hdx⟩:=hx
 obtain ⟨vdy,rfl,hdy⟩:=hy
 have HX:=hid hdx
 have HY:=hid hdy
 obtain ⟨ax,cx,rfl⟩:=hdx.form
 obtain ⟨ay,cy,rfl⟩:=hdy.form
 rw [zrt hs]
 have hsg:=znk hs
 obtain ⟨n,hn⟩:∃ n,n = x.natAbs + y.natAbs:=⟨_,rfl⟩
 obtain ⟨bx,hbx⟩:∃ b,b = decide (x < 0):=⟨_,rfl⟩
 obtain ⟨nx,hnx⟩:∃ n,n = (rep 10 x.natAbs).length:=⟨_,rfl⟩
 obtain ⟨ny,hny⟩:∃ n,n = (rep 10 y.natAbs).length:=⟨_,rfl⟩
 have HL:Hid ((rep 10 x.natAbs).length ≤ 10000000 ∧ (rep 10 y.natAbs).length ≤ 10000000):=hid ⟨Nat.le_trans hrx (by decide),Nat.le_trans hry (by decide)⟩
 rw [← hs,← hn,← hbx,← hnx,← hny]
 rw [← hn,← hbx] at hsg
 have HSG:=hid hsg
 have HN:=hid hn
 have HNX:=hid hnx
 have HNY:=hid hny
 have hb:(bx == bx) = true:=by simp
 have HK:=hid (Ext.alloc (Ext.alloc (Ext.alloc (Ext.refl w) (.cells #[.bool bx,.slice ax nx cx] 102)) (.cells #[.bool bx,.slice ay ny cy] 102)) (.cells #[.bool false,.slice none 0 0] 102))
 have HSZ:Hid (w.heap.size + 1 + 1 < (((w.alloc (.cells #[.bool bx,.slice ax nx cx] 102)).alloc (.cells #[.bool bx,.slice ay ny cy] 102)).alloc (.cells #[.bool false,.slice none 0 0] 102)).heap.size):=hid (by simp)
 have x0:=(Ext.refl (((w.alloc (.cells #[.bool bx,.slice ax nx cx] 102)).alloc (.cells #[.bool bx,.slice ay ny cy] 102)).alloc (.cells #[.bool false,.slice none 0 0] 102))).drew
 have HX0:=hid x0
 have hc:=zvo _ _ (rep 10 x.natAbs) (rep 10 y.natAbs) _ (HX.out.ext (HK.out.trans x0) hS) (HY.out.ext (HK.out.trans x0) hS) (z08 hS (HK.out.trans x0)) HL.out.1 HL.out.2
 rw [z0d z0h,z0d z0h,← hn,← hnx,← hny] at hc
 have HC:=hid hc
 have S0:_ ∧ _ ∧ _:=And.intro (old4 x0).1 (And.intro (old4 x0).2.1 (old4 x0).2.2.2)
 have HS0:=hid S0
 clear hdx hdy hn hbx hnx hny hrx hry hs hsg hc x0 S0
 go_enter Tryz.func71,Tryz.ntmps71
 go_wp2
 have S0:=HS0.out
 go_region_held3 (fun W => W.cell? ⟨w.heap.size,0,none⟩ = some (.bool bx) ∧ W.cell? ⟨w.heap.size,1,none⟩ = some (.slice ax nx cx) ∧ W.cell? ⟨w.heap.size + 1,1,none⟩ = some (.slice ay ny cy)) (first | exact S0 | exact S1 | exact ⟨z09 (z09 S1.1 (ab (by omega))) (ab (by omega)),z09 (z09 S1.2.1 (ab (by omega))) (ab (by omega)),z09 (z09 S1.2.2 (ab (by omega))) (ab (by omega))⟩)
  (first
   | (go_at_call 66; (with_reducible refine HC.out.mono ?_); rintro e w1 ⟨v1,rfl,hd,hxx⟩; have S1:=And.intro (hxx.cell S0.1) (And.intro (hxx.cell S0.2.1) (hxx.cell S0.2.2)); obtain ⟨r0,r1,f0,f1⟩:=zrs (HX0.out.trans hxx); have HE:=hid (And.intro r0 r1); have HXX:=hid hxx; have HD:=hid hd; obtain ⟨a1,n1,rfl⟩:=hd.form; clear hd hxx))
 go_wp2
 have hd:=fun x y => z19 x y HE.out.1 HE.out.2
 refine bodyPost_ret (by simp [results,Tryz.results71,go_sem,(hd _ _).1,(hd _ _).2]; rfl) rfl ?_
 have hz:=zni (b:=bx) HD.out
 rw [HSG.out] at hz
 have hg:=fun x y => z6y (w0:=w) (b:=w.heap.size + 1 + 1) hz (HK.out.trans HX0.out) HXX.out (by omega) (Nat.lt_of_lt_of_le HSZ.out HX0.out.size) x y
 exact ⟨_,rfl,(hg _ _).1,(hg _ _).2⟩
theorem zkv {S:Nat → Prop} (vx vy:Value) (x y:Int) (w:World) (hx:ZV S w vx x) (hy:ZV S w vy y) (hS:∀ k,S k → k < w.heap.size) (hrx:szZ x) (hry:szZ y) (hs:¬ decide (x < 0) = decide (y < 0)) (hge:y.natAbs ≤ x.natAbs) :
  Calls Tryz.prog 71 #[vx,vy] w fun e w' => ∃ v',e = .returned v' ∧ ZV (New w w') w' v' (x + y) ∧ Ext w w':=by
 obtain ⟨vdx,rfl,hdx⟩:=hx
 obtain ⟨vdy,rfl,hdy⟩:=hy
 have HX:=hid hdx
 have HY:=hid hdy
 obtain ⟨ax,cx,rfl⟩:=hdx.form
 obtain ⟨ay,cy,rfl⟩:=hdy.form
 rw [zux hs hge]
 have HCM:Hid (-1 < cmpN x.natAbs y.natAbs):=hid (by
  unfold cmpN
  have:=z2w (x:=(x.natAbs:Int)) (y:=(y.natAbs:Int))
  rcases z4p (x.natAbs:Int) (y.natAbs:Int) with h | h | h
  ·have:=this.1 h; omega
  ·omega
  ·omega)
 have HLE:Hid ((rep 10 y.natAbs).length ≤ (rep 10 x.natAbs).length):=hid (z0f z0h _ _ (Nat.lt_of_le_of_lt hge (z0y z0h _)))
 have HVL:Hid (val 10 (rep 10 y.natAbs) ≤ val 10 (rep 10 x.natAbs)):=hid (by rw [z0d z0h,z0d z0h]; exact hge)
 obtain ⟨n,hn⟩:∃ n,n = x.natAbs - y.natAbs:=⟨_,rfl⟩
 obtain ⟨bx,hbx⟩:∃ b,b = decide (x < 0):=⟨_,rfl⟩
 obtain ⟨bz,hbz⟩:∃ b,b = decide (y < 0):=⟨_,rfl⟩
 obtain ⟨nx,hnx⟩:∃ n,n = (rep 10 x.natAbs).length:=⟨_,rfl⟩
 obtain ⟨ny,hny⟩:∃ n,n = (rep 10 y.natAbs).length:=⟨_,rfl⟩
 have HL:Hid ((rep 10 x.natAbs).length ≤ 10000000 ∧ (rep 10 y.natAbs).length ≤ 10000000):=hid ⟨Nat.le_trans hrx (by decide),Nat.le_trans hry (by decide)⟩
 rw [← hn,← hbx,← hbz,← hnx,← hny]
 rw [← hbx,← hbz] at hs
 have hb:(bx == bz) = false:=by rw [beq_eq_false_iff_ne]; exact hs
 have HK:=hid (Ext.alloc (Ext.alloc (Ext.alloc (Ext.refl w) (.cells #[.bool bx,.slice ax nx cx] 102)) (.cells #[.bool bz,.slice ay ny cy] 102)) (.cells #[.bool false,.slice none 0 0] 102))
 have HSZ:Hid (w.heap.size + 1 + 1 < (((w.alloc (.cells #[.bool bx,.slice ax nx cx] 102)).alloc (.cells #[.bool bz,.slice ay ny cy] 102)).alloc (.cells #[.bool false,.slice none 0 0] 102)).heap.size):=hid (by simp)
 have hc1:=zn3 _ _ x.natAbs y.natAbs _ (HX.out.ext HK.out hS) (HY.out.ext HK.out hS) (z08 hS HK.out)
 rw [← hnx,← hny] at hc1
 obtain ⟨cm,hcm⟩:∃ c,c = cmpN x.natAbs y.natAbs:=⟨_,rfl⟩
 rw [← hcm] at hc1 HCM
 have HC1:=hid hc1
 have hc2:=fun W (hW:Ext (((w.alloc (.cells #[.bool bx,.slice ax nx cx] 102)).alloc (.cells #[.bool bz,.slice ay ny cy] 102)).alloc (.cells #[.bool false,.slice none 0 0] 102)) W) =>
  zn4 _ _ (rep 10 x.natAbs) (rep 10 y.natAbs) W (HX.out.ext (HK.out.trans hW) hS) (HY.out.ext (HK.out.trans hW) hS) (z08 hS (HK.out.trans hW)) HL.out.1 HLE.out HVL.out
 rw [z0d z0h,z0d z0h,← hn,← hnx,← hny] at hc2
 have HC2:=hid hc2
 clear hdx hdy hn hbx hbz hnx hny hrx hry hs hge hc1 hc2 hcm
 have hcm0:=HCM.out
 go_enter Tryz.func71,Tryz.ntmps71
 go_wp2_with fail
 refine HC1.out.mono ?_
 rintro e w1 ⟨rfl,hx1⟩
 obtain ⟨p0,p1,p2,p3⟩:=old4 hx1
 have HX1:=hid hx1
 clear hx1
 go_wp2_with fail
 refine (HC2.out w1 HX1.out).mono ?_
 rintro e w2 ⟨v2,rfl,hd,hx2⟩
 obtain ⟨q0,q1,q2,q3⟩:=old4 (HX1.out.trans hx2)
 obtain ⟨r0,r1,f0,f1⟩:=zrs (HX1.out.trans hx2)
 have HE:=hid (And.intro r0 r1)
 have HX2:=hid hx2
 have HD:=hid hd
 obtain ⟨a1,n1,rfl⟩:=hd.form
 have hlen:=z5y n
 have hz:=zni (b:=bx) HD.out
 clear hd hx2 p0 p1 p2 p3
 by_cases h0:0 < n
 ·have hp:0 < (rep 10 n).length:=by simpa [h0] using hlen
  rw [show (bx && decide (0 < n)) = bx by simp [h0]] at hz
  have HZ:=hid hz
  clear hlen hz
  cases bx
  all_goals
   go_wp2
   have hd:=fun x y => z19 x y HE.out.1 HE.out.2
   refine bodyPost_ret (by simp [results,Tryz.results71,go_sem,(hd _ _).1,(hd _ _).2]; rfl) rfl ?_
   have hg:=fun x y => z6y (w0:=w) (b:=w.heap.size + 1 + 1) HZ.out (HK.out.trans HX1.out) HX2.out (by omega) (Nat.lt_of_lt_of_le HSZ.out HX1.out.size) x y
   exact ⟨_,rfl,(hg _ _).1,(hg _ _).2⟩
 ·obtain rfl:n = 0:=by omega
  rw [show (bx && decide (0 < 0)) = false by simp] at hz
  have HZ:=hid hz
  have hp:(rep 10 0).length = 0:=rfl
  clear hlen hz
  cases bx
  all_goals
   go_wp2
   have hd:=fun x y => z19 x y HE.out.1 HE.out.2
   refine bodyPost_ret (by simp [results,Tryz.results71,go_sem,(hd _ _).1,(hd _ _).2]; rfl) rfl ?_
   have hg:=fun x y => z6y (w0:=w) (b:=w.heap.size + 1 + 1) HZ.out (HK.out.trans HX1.out) HX2.out (by omega) (Nat.lt_of_lt_of_le HSZ.out HX1.out.size) x y
   exact ⟨_,rfl,(hg _ _).1,(hg _ _).2⟩
theorem fr4 {w W:World} {u0 v0 u1 v1:Value} {T0 T1:TypeId} {o:Obj} (h:Ext (((w.alloc (.cells #[u0,v0] T0)).alloc (.cells #[u1,v1] T1)).alloc o) W) :
  W.frozen? ⟨w.heap.size,0,none⟩ = false ∧ W.frozen? ⟨w.heap.size,1,none⟩ = false ∧ W.frozen? ⟨w.heap.size + 1,0,none⟩ = false ∧ W.frozen? ⟨w.heap.size + 1,1,none⟩ = false:=by
 have e1:=(Ext.alloc (Ext.refl _) o).trans h
 have e0:=(Ext.alloc (Ext.refl _) _).trans e1
 exact ⟨(new2 e0).2.2.1,(new2 e0).2.2.2,(zku e1).2.2.1,(zku e1).2.2.2⟩
def z9j (w:World) (b:Nat) (x0 x1 y0 y1:Value):World:=(((w.setCell ⟨b,0,none⟩ x0).setCell ⟨b,1,none⟩ x1).setCell ⟨b + 1,0,none⟩ y0).setCell ⟨b + 1,1,none⟩ y1
theorem zru {a w:World} (h:Ext a w) {b:Nat} (hb:a.heap.size ≤ b) (x0 x1 y0 y1:Value):Ext a (z9j w b x0 x1 y0 y1) :=
 (h.set2 hb x0 x1).set2 (Nat.le_trans hb (Nat.le_succ _)) y0 y1
theorem znl {w:World} {b:Nat} (x0 x1 y0 y1:Value):(z9j w b x0 x1 y0 y1).heap.size = w.heap.size:=by
 unfold z9j
 rw [z2q,z2q]
theorem zkw {w:World} {b:Nat} {u0 u1 v0 v1:Value} (x0 x1 y0 y1:Value) (c0:w.cell? ⟨b,0,none⟩ = some u0) (c1:w.cell? ⟨b,1,none⟩ = some u1) (d0:w.cell? ⟨b + 1,0,none⟩ = some v0) (d1:w.cell? ⟨b + 1,1,none⟩ = some v1) :
  (z9j w b x0 x1 y0 y1).cell? ⟨b,0,none⟩ = some x0 ∧ (z9j w b x0 x1 y0 y1).cell? ⟨b,1,none⟩ = some x1 ∧ (z9j w b x0 x1 y0 y1).cell? ⟨b + 1,0,none⟩ = some y0 ∧ (z9j w b x0 x1 y0 y1).cell? ⟨b + 1,1,none⟩ = some y1:=by
 unfold z9j
 have h1:=z19 x0 x1 c0 c1
 have e0:=z09 (v:=x1) (z09 (v:=x0) d0 (ab (b:=b) (i:=0) (show b ≠ b + 1 by omega))) (ab (b:=b) (i:=1) (show b ≠ b + 1 by omega))
 have e1:=z09 (v:=x1) (z09 (v:=x0) d1 (ab (b:=b) (i:=0) (show b ≠ b + 1 by omega))) (ab (b:=b) (i:=1) (show b ≠ b + 1 by omega))
 have h2:=z19 y0 y1 e0 e1
 exact ⟨z09 (z09 h1.1 (ab (by omega))) (ab (by omega)),z09 (z09 h1.2 (ab (by omega))) (ab (by omega)),h2.1,h2.2⟩
theorem ziz {w:World} {b c i:Nat} {u:Value} (x0 x1 y0 y1:Value) (h:w.cell? ⟨c,i,none⟩ = some u) (h1:b ≠ c) (h2:b + 1 ≠ c):(z9j w b x0 x1 y0 y1).cell? ⟨c,i,none⟩ = some u:=by
 unfold z9j
 exact z09 (z09 (z09 (z09 h (ab h1)) (ab h1)) (ab h2)) (ab h2)
theorem zfx {w:World} {b:Nat} {c:Addr} (x0 x1 y0 y1:Value) (h:w.frozen? c = false):(z9j w b x0 x1 y0 y1).frozen? c = false:=by
 unfold z9j
 exact z16 (z16 (z16 (z16 h)))
theorem zkx {S:Nat → Prop} (vx vy:Value) (x y:Int) (w:World) (hx:ZV S w vx x) (hy:ZV S w vy y) (hS:∀ k,S k → k < w.heap.size) (hrx:szZ x) (hry:szZ y) (hs:¬ decide (x < 0) = decide (y < 0)) (hlt:x.natAbs < y.natAbs) :
  Calls Tryz.prog 71 #[vx,vy] w fun e w' => ∃ v',e = .returned v' ∧ ZV (New w w') w' v' (x + y) ∧ Ext w w':=by
 obtain ⟨vdx,rfl,hdx⟩:=hx
 obtain ⟨vdy,rfl,hdy⟩:=hy
 have HX:=hid hdx
 have HY:=hid hdy
 obtain ⟨ax,cx,rfl⟩:=hdx.form
 obtain ⟨ay,cy,rfl⟩:=hdy.form
 rw [zy7 hs hlt]
 have HCM:Hid (cmpN x.natAbs y.natAbs = -1):=hid (by
  unfold cmpN
  rw [z2w]
  omega)
 have HLE:Hid ((rep 10 x.natAbs).length ≤ (rep 10 y.natAbs).length):=hid (z0f z0h _ _ (Nat.lt_trans hlt (z0y z0h _)))
 have HVL:Hid (val 10 (rep 10 x.natAbs) ≤ val 10 (rep 10 y.natAbs)):=hid (by rw [z0d z0h,z0d z0h]; omega)
 obtain ⟨n,hn⟩:∃ n,n = y.natAbs - x.natAbs:=⟨_,rfl⟩
 obtain ⟨bx,hbx⟩:∃ b,b = decide (x < 0):=⟨_,rfl⟩
 obtain ⟨bz,hbz⟩:∃ b,b = decide (y < 0):=⟨_,rfl⟩
 obtain ⟨nx,hnx⟩:∃ n,n = (rep 10 x.natAbs).length:=⟨_,rfl⟩
 obtain ⟨ny,hny⟩:∃ n,n = (rep 10 y.natAbs).length:=⟨_,rfl⟩
 have HL:Hid ((rep 10 x.natAbs).length ≤ 10000000 ∧ (rep 10 y.natAbs).length ≤ 10000000):=hid ⟨Nat.le_trans hrx (by decide),Nat.le_trans hry (by decide)⟩
 rw [← hn,← hbx,← hbz,← hnx,← hny]
 rw [← hbx,← hbz] at hs
 have hb:(bx == bz) = false:=by rw [beq_eq_false_iff_ne]; exact hs
 have HK:=hid (Ext.alloc (Ext.alloc (Ext.alloc (Ext.refl w) (.cells #[.bool bx,.slice ax nx cx] 102)) (.cells #[.bool bz,.slice ay ny cy] 102)) (.cells #[.bool false,.slice none 0 0] 102))
 have HSZ:Hid (w.heap.size + 1 + 1 < (((w.alloc (.cells #[.bool bx,.slice ax nx cx] 102)).alloc (.cells #[.bool bz,.slice ay ny cy] 102)).alloc (.cells #[.bool false,.slice none 0 0] 102)).heap.size):=hid (by simp)
 have hc1:=zn3 _ _ x.natAbs y.natAbs _ (HX.out.ext HK.out hS) (HY.out.ext HK.out hS) (z08 hS HK.out)
 rw [← hnx,← hny,HCM.out] at hc1
 have HC1:=hid hc1
 have hc2:=fun W (hW:Ext w W) =>
  zn4 _ _ (rep 10 y.natAbs) (rep 10 x.natAbs) W (HY.out.ext hW hS) (HX.out.ext hW hS) (z08 hS hW) HL.out.2 HLE.out HVL.out
 rw [z0d z0h,z0d z0h,← hn,← hnx,← hny] at hc2
 have HC2:=hid hc2
 clear hdx hdy hn hbx hbz hnx hny hrx hry hs hlt hc1 hc2 HCM
 go_enter Tryz.func71,Tryz.ntmps71
 go_wp2_with fail
 refine HC1.out.mono ?_
 rintro e w1 ⟨rfl,hx1⟩
 obtain ⟨p0,p1,p2,p3⟩:=old4 hx1
 obtain ⟨g0,g1,g2,g3⟩:=fr4 hx1
 have HX1:=hid hx1
 have HP:=hid (And.intro p0 (And.intro p1 (And.intro p2 p3)))
 clear hx1
 go_wp2_with fail
 have hsw:=zru (HK.out.trans HX1.out) (Nat.le_refl _) (.bool bz) (.slice ay ny cy) (.bool bx) (.slice ax nx cx)
 have hq:=zkw (.bool bz) (.slice ay ny cy) (.bool bx) (.slice ax nx cx) HP.out.1 HP.out.2.1 HP.out.2.2.1 HP.out.2.2.2
 obtain ⟨r0,r1,f0,f1⟩:=zrs HX1.out
 have hr0:=ziz (.bool bz) (.slice ay ny cy) (.bool bx) (.slice ax nx cx) r0 (show w.heap.size ≠ w.heap.size + 1 + 1 by omega) (show w.heap.size + 1 ≠ w.heap.size + 1 + 1 by omega)
 have hr1:=ziz (.bool bz) (.slice ay ny cy) (.bool bx) (.slice ax nx cx) r1 (show w.heap.size ≠ w.heap.size + 1 + 1 by omega) (show w.heap.size + 1 ≠ w.heap.size + 1 + 1 by omega)
 have hf0:=zfx (b:=w.heap.size) (.bool bz) (.slice ay ny cy) (.bool bx) (.slice ax nx cx) f0
 have hf1:=zfx (b:=w.heap.size) (.bool bz) (.slice ay ny cy) (.bool bx) (.slice ax nx cx) f1
 have hsz:=znl (w:=w1) (b:=w.heap.size) (.bool bz) (.slice ay ny cy) (.bool bx) (.slice ax nx cx)
 have HSW:=hid hsw
 have HQ:=hid hq
 have HR:=hid (And.intro hr0 hr1)
 have HF:=hid (And.intro hf0 hf1)
 have HZS:=hid hsz
 clear hsw hq r0 r1 f0 f1 hr0 hr1 hf0 hf1 hsz p0 p1 p2 p3 g0 g1 g2 g3
 obtain ⟨W0,hW0⟩:∃ W,W = z9j w1 w.heap.size (.bool bz) (.slice ay ny cy) (.bool bx) (.slice ax nx cx):=⟨_,rfl⟩
 rw [← hW0] at HSW HQ HR HF HZS
 refine (Calls.mono (by have:=HC2.out W0 HSW.out; rw [hW0] at this; exact this) ?_)
 rintro e w2 ⟨v2,rfl,hd,hx2⟩
 rw [← hW0] at hd hx2
 have q0:=hx2.cell HQ.out.1
 have q1:=hx2.cell HQ.out.2.1
 have r0:=hx2.cell HR.out.1
 have r1:=hx2.cell HR.out.2
 have hszw:w.heap.size + 1 + 1 < W0.heap.size:=by rw [HZS.out]; exact Nat.lt_of_lt_of_le HSZ.out HX1.out.size
 have f0:=hx2.free hszw HF.out.1
 have f1:=hx2.free hszw HF.out.2
 have HE:=hid (And.intro r0 r1)
 have HX2:=hid hx2
 have HSZ2:=hid hszw
 have HD:=hid hd
 obtain ⟨a1,n1,rfl⟩:=hd.form
 have hlen:=z5y n
 have hz:=zni (b:=bz) HD.out
 clear hd hx2 hW0 hszw
 by_cases h0:0 < n
 ·have hp:0 < (rep 10 n).length:=by simpa [h0] using hlen
  rw [show (bz && decide (0 < n)) = bz by simp [h0]] at hz
  have HZ:=hid hz
  clear hlen hz
  cases bz
  all_goals
   go_wp2
   have hd:=fun x y => z19 x y HE.out.1 HE.out.2
   refine bodyPost_ret (by simp [results,Tryz.results71,go_sem,(hd _ _).1,(hd _ _).2]; rfl) rfl ?_
   have hg:=fun x y => z6y (w0:=w) (b:=w.heap.size + 1 + 1) HZ.out HSW.out HX2.out (by omega) HSZ2.out x y
   exact ⟨_,rfl,(hg _ _).1,(hg _ _).2⟩
 ·obtain rfl:n = 0:=by omega
  rw [show (bz && decide (0 < 0)) = false by simp] at hz
  have HZ:=hid hz
  have hp:(rep 10 0).length = 0:=rfl
  clear hlen hz
  cases bz
  all_goals
   go_wp2
   have hd:=fun x y => z19 x y HE.out.1 HE.out.2
   refine bodyPost_ret (by simp [results,Tryz.results71,go_sem,(hd _ _).1,(hd _ _).2]; rfl) rfl ?_
   have hg:=fun x y => z6y (w0:=w) (b:=w.heap.size + 1 + 1) HZ.out HSW.out HX2.out (by omega) HSZ2.out x y
   exact ⟨_,rfl,(hg _ _).1,(hg _ _).2⟩
theorem zw1 {S:Nat → Prop} (vx vy:Value) (x y:Int) (w:World) (hx:ZV S w vx x) (hy:ZV S w vy y) (hS:∀ k,S k → k < w.heap.size) (hrx:szZ x) (hry:szZ y) :
  Calls Tryz.prog 71 #[vx,vy] w fun e w' => ∃ v',e = .returned v' ∧ ZV (New w w') w' v' (x + y) ∧ Ext w w':=by
 by_cases hs:decide (x < 0) = decide (y < 0)
 ·exact zfw vx vy x y w hx hy hS hrx hry hs
 ·by_cases hge:y.natAbs ≤ x.natAbs
  ·exact zkv vx vy x y w hx hy hS hrx hry hs hge
  ·exact zkx vx vy x y w hx hy hS hrx hry hs (by omega)
end
section
open Go.RowKit
end
section
open Go.RowKit
def RTs (S:Nat → Prop) (w:World) (v:Value) (p:PZ):Prop :=
 ∃ b off,z3a S v p.length b off ∧ ∀ j t,p[j]? = some t → ∃ vd vo,w.cell? ⟨b,off + j * 3,none⟩ = some (.bool (decide (t.1 < 0))) ∧
  w.cell? ⟨b,off + j * 3 + 1,none⟩ = some vd ∧ w.cell? ⟨b,off + j * 3 + 2,none⟩ = some vo ∧ Digs S w vd (rep 10 t.1.natAbs) ∧ Pows S w vo t.2
section
variable {S S':Nat → Prop} {w w':World} {v:Value} {p:PZ}
theorem RTs.form (h:RTs S w v p):∃ a cap,v = .slice a p.length cap:=by
 obtain ⟨b,off,⟨a,cap,h1,_⟩,_⟩:=h
 exact ⟨a,cap,h1⟩
theorem RTs.to (h:RTs S w v p) (hk:Kept S w w') (hS:∀ k,S k → S' k):RTs S' w' v p:=by
 obtain ⟨b,off,hs,hc⟩:=h
 refine ⟨b,off,hs.mono hS,fun j t hj => ?_⟩
 obtain ⟨vm,vo,h1,h2,h3,h4,h5⟩:=hc j t hj
 have hb:=hs.in (z05 hj)
 exact ⟨vm,vo,hk.cell hb h1,hk.cell hb h2,hk.cell hb h3,h4.to hk hS,h5.to hk hS⟩
theorem RTs.ext (h:RTs S w v p) (hx:Ext w w') (hS:∀ k,S k → k < w.heap.size):RTs S w' v p:=h.to (Kept.ext hx hS) (fun _ h => h)
theorem RTs.len_le (h:RTs S w v p):p.length ≤ 9223372036854775807:=by
 obtain ⟨b,off,⟨a,cap,h1,h2,h3,_⟩,_⟩:=h
 unfold maxLen at h3
 omega
theorem RTs.cellAt {a:Option Addr} {n cap k:Nat} {t:Int × Mono} (h:RTs S w (.slice a n cap) p) (ht:p[k]? = some t) :
  ∃ b off vd vo,a = some ⟨b,off,none⟩ ∧ n = p.length ∧ n ≤ cap ∧ cap ≤ 9223372036854775807 ∧ S b ∧ w.cell? ⟨b,off + k * 3,none⟩ = some (.bool (decide (t.1 < 0))) ∧ w.cell? ⟨b,off + k * 3 + 1,none⟩ = some vd ∧ w.cell? ⟨b,off + k * 3 + 2,none⟩ = some vo ∧ Digs S w vd (rep 10 t.1.natAbs) ∧ Pows S w vo t.2:=by
 obtain ⟨b,off,⟨a',cap',h1,h2,h3,h4,h5⟩,hc⟩:=h
 obtain ⟨rfl,rfl,rfl⟩:a = a' ∧ n = p.length ∧ cap = cap':=by simpa using h1
 have hp:0 < p.length:=by have:=z05 ht; omega
 obtain ⟨vm,vo,g1,g2,g3,g4,g5⟩:=hc k t ht
 exact ⟨b,off,vm,vo,h4 hp,rfl,h2,h3,h5 hp,g1,g2,g3,g4,g5⟩
theorem RTs.nilv (S:Nat → Prop) (w:World) (a:Option Addr) (cap:Nat) (h:cap ≤ 9223372036854775807):RTs S w (.slice a 0 cap) [] :=
 ⟨0,0,⟨a,cap,rfl,Nat.zero_le _,h,fun h => absurd h (Nat.lt_irrefl 0),fun h => absurd h (Nat.lt_irrefl 0)⟩,fun j t hj => by simp at hj⟩
end
def z1p (S:Nat → Prop) (w:World):List Value → PZ → Prop
 | xs,[] => xs = []
 | xs,t :: r => ∃ vd vo ys,xs = .bool (decide (t.1 < 0)) :: vd :: vo :: ys ∧ Digs S w vd (rep 10 t.1.natAbs) ∧ Pows S w vo t.2 ∧ z1p S w ys r
section
variable {S S':Nat → Prop} {w w':World}
theorem z1p.append {xs ys:List Value} {p q:PZ} (h:z1p S w xs p) (k:z1p S w ys q):z1p S w (xs ++ ys) (p ++ q):=by
 induction p generalizing xs with
 | nil =>
  have e:xs = []:=h
  subst e
  exact k
 | cons t r ih =>
  obtain ⟨vd,vo,zs,rfl,h1,h2,h3⟩:=h
  exact ⟨vd,vo,zs ++ ys,rfl,h1,h2,ih h3⟩
theorem z1p.to {xs:List Value} {p:PZ} (h:z1p S w xs p) (hk:Kept S w w') (hS:∀ k,S k → S' k):z1p S' w' xs p:=by
 induction p generalizing xs with
 | nil => exact h
 | cons t r ih =>
  obtain ⟨vd,vo,zs,rfl,h1,h2,h3⟩:=h
  exact ⟨vd,vo,zs,rfl,h1.to hk hS,h2.to hk hS,ih h3⟩
theorem z1p.length {xs:List Value} {p:PZ} (h:z1p S w xs p):xs.length = p.length * 3:=by
 induction p generalizing xs with
 | nil =>
  have e:xs = []:=h
  subst e
  rfl
 | cons t r ih =>
  obtain ⟨vd,vo,zs,rfl,h1,h2,h3⟩:=h
  simp only [List.length_cons,ih h3]
  omega
theorem z1p.get {xs:List Value} {p:PZ} (h:z1p S w xs p) {j:Nat} {t:Int × Mono} (ht:p[j]? = some t) :
  ∃ vd vo,xs[j * 3]? = some (.bool (decide (t.1 < 0))) ∧ xs[j * 3 + 1]? = some vd ∧ xs[j * 3 + 2]? = some vo ∧ Digs S w vd (rep 10 t.1.natAbs) ∧ Pows S w vo t.2:=by
 induction p generalizing xs j with
 | nil => simp at ht
 | cons u r ih =>
  obtain ⟨vd,vo,zs,rfl,h1,h2,h3⟩:=h
  cases j with
  | zero =>
   obtain rfl:u = t:=by simpa using ht
   exact ⟨vd,vo,rfl,rfl,rfl,h1,h2⟩
  | succ j =>
   obtain ⟨vd',vo',g⟩:=ih h3 (j:=j) (by simpa using ht)
   refine ⟨vd',vo',?_⟩
   rw [show (j + 1) * 3 = j * 3 + 1 + 1 + 1 by omega]
   simpa using g
theorem z1p.one {xs:List Value} {p:PZ} (h:z1p S w xs p):∀ u ∈ xs,u.oneCell' = true:=by
 induction p generalizing xs with
 | nil =>
  have e:xs = []:=h
  subst e
  intro u hu
  simp at hu
 | cons t r ih =>
  obtain ⟨vd,vo,zs,rfl,h1,h2,h3⟩:=h
  intro u hu
  simp only [List.mem_cons] at hu
  rcases hu with rfl | rfl | rfl | hu
  ·rfl
  ·obtain ⟨a,c,rfl⟩:=h1.form; rfl
  ·obtain ⟨a,c,rfl⟩:=h2.form; rfl
  ·exact ih h3 u hu
theorem z1p.single {vd vo:Value} {t:Int × Mono} (h1:Digs S w vd (rep 10 t.1.natAbs)) (h2:Pows S w vo t.2):z1p S w [.bool (decide (t.1 < 0)),vd,vo] [t]:=⟨vd,vo,[],rfl,h1,h2,rfl⟩
end
theorem znm {S:Nat → Prop} {w:World} {base:Nat} {e:TypeId} {v:Value} {xs:List Value} {p:PZ} (h:w.ownsRow base e 3 v p.length xs) (hc:z1p S w xs p) (hB:∀ k,base ≤ k → k < w.heap.size → S k):RTs S w v p:=by
 have hlt:=h.lt
 rcases h.2 with ⟨rfl,h0⟩ | ⟨g,cap,cur,rfl,hg,hh,h1,h2,h3,h4⟩
 ·obtain rfl:p = []:=List.length_eq_zero_iff.1 h0
  exact RTs.nilv _ _ _ _ (by omega)
 ·refine ⟨g,0,⟨_,cap,rfl,h1,h2,fun _ => rfl,fun _ => hB g (hlt g rfl).1 (hlt g rfl).2⟩,fun j t hj => ?_⟩
  obtain ⟨vd,vo,g1,g2,g3,g4,g5⟩:=hc.get hj
  have hb:=z05 hj
  refine ⟨vd,vo,?_,?_,?_,g4,g5⟩
  ·rw [h.cellAt (0 + j * 3) (by omega),Nat.zero_add]
   exact g1
  ·rw [h.cellAt (0 + j * 3 + 1) (by omega),Nat.zero_add]
   exact g2
  ·rw [h.cellAt (0 + j * 3 + 2) (by omega),Nat.zero_add]
   exact g3
theorem zd8 {S:Nat → Prop} {w:World} {b:Nat}:∀ (p:PZ) (off:Nat),(∀ j t,p[j]? = some t → ∃ vd vo,w.cell? ⟨b,off + j * 3,none⟩ = some (.bool (decide (t.1 < 0))) ∧
  w.cell? ⟨b,off + j * 3 + 1,none⟩ = some vd ∧ w.cell? ⟨b,off + j * 3 + 2,none⟩ = some vo ∧ Digs S w vd (rep 10 t.1.natAbs) ∧ Pows S w vo t.2) →
  ∃ xs,z1p S w xs p ∧ ∀ j u,xs[j]? = some u → w.cell? ⟨b,off + j,none⟩ = some u
 | [],_,_ => ⟨[],rfl,fun j u hu => by simp at hu⟩
 | t :: r,off,h => by
  obtain ⟨vd,vo,h1,h2,h3,h4,h5⟩:=h 0 t rfl
  obtain ⟨ys,k1,k2⟩:=zd8 r (off + 3) (fun j u hu => by
   have:=h (j + 1) u (by simpa using hu)
   rw [show off + (j + 1) * 3 = off + 3 + j * 3 by omega] at this
   exact this)
  refine ⟨_,⟨vd,vo,ys,rfl,h4,h5,k1⟩,fun j u hu => ?_⟩
  match j,hu with
  | 0,hu =>
   have e:_ = u:=Option.some.inj hu
   rw [← e]
   exact h1
  | 1,hu =>
   have e:_ = u:=Option.some.inj hu
   rw [← e]
   exact h2
  | 2,hu =>
   have e:_ = u:=Option.some.inj hu
   rw [← e]
   exact h3
  | j + 3,hu =>
   have:=k2 j u (by simpa using hu)
   rw [show off + (j + 3) = off + 3 + j by omega]
   exact this
theorem RTs.src {S:Nat → Prop} {w:World} {b off n cap k:Nat} {p:PZ} (h:RTs S w (.slice (some ⟨b,off,none⟩) n cap) p) (hk:k ≤ p.length) :
  ∃ news,zcr w (some ⟨b,off + k * 3,none⟩) (p.length - k) 3 news ∧ z1p S w news (p.drop k):=by
 obtain ⟨b',off',⟨a',cap',h1,h2,h3,h4,h5⟩,hc⟩:=h
 by_cases h0:0 < p.length
 ·have e:=h4 h0
  obtain ⟨e1,-,-⟩:some (⟨b,off,none⟩:Addr) = a' ∧ n = p.length ∧ cap = cap':=by simpa using h1
  rw [← e1] at e
  obtain ⟨rfl,rfl⟩:b = b' ∧ off = off':=by simpa using e
  obtain ⟨xs,k1,k2⟩:=zd8 (S:=S) (w:=w) (b:=b) (p.drop k) (off + k * 3) (fun j t hj => by
   rw [List.getElem?_drop] at hj
   have:=hc (k + j) t hj
   rw [show off + (k + j) * 3 = off + k * 3 + j * 3 by omega] at this
   exact this)
  refine ⟨xs,⟨?_,k1.one,fun _ => ⟨_,rfl,fun j u hu => ?_⟩⟩,k1⟩
  ·rw [k1.length,List.length_drop]
  ·rw [z8c]
   exact k2 j u hu
 ·obtain rfl:p = []:=List.length_eq_zero_iff.1 (by omega)
  refine ⟨[],⟨by simp,fun u hu => by simp at hu,fun hh => by simp at hh⟩,?_⟩
  rw [List.drop_nil]
  rfl
theorem z7i {p:PZ} {c:Int} {m:Mono}:∀ {k:Nat},(∀ j t,j < k → p[j]? = some t → z0e t.2 m = 1) → putP p c m = p.take k ++ putP (p.drop k) c m
 | 0,_ => rfl
 | k + 1,h => by
  cases p with
  | nil => simp
  | cons t r =>
   have h0:=h 0 t (by omega) rfl
   have ih:=z7i (p:=r) (c:=c) (m:=m) (k:=k) (fun j u hj hu => h (j + 1) u (by omega) (by simpa using hu))
   simp only [putP,h0,if_true,List.take_succ_cons,List.drop_succ_cons,List.cons_append,ih]
def midP (c:Int) (m:Mono):PZ:=if c = 0 then [] else [(c,m)]
theorem zw2 {p:PZ} {c:Int} {m:Mono} {k:Nat} (h:∀ j t,j < k → p[j]? = some t → z0e t.2 m = 1) (hk:k = p.length):putP p c m = p.take k ++ midP c m ++ p.drop k:=by
 rw [z7i h,hk,List.drop_length]
 simp [putP,midP]
theorem zrv {p:PZ} {c:Int} {m:Mono} {k:Nat} {t:Int × Mono} (h:∀ j t,j < k → p[j]? = some t → z0e t.2 m = 1) (ht:p[k]? = some t) (hc:z0e t.2 m = 0):putP p c m = p.take k ++ midP (c + t.1) m ++ p.drop (k + 1):=by
 rw [z7i h,z6n ht,List.append_assoc]
 simp only [putP,hc,midP,if_true]
 rw [if_neg (by decide)]
 split <;> rfl
theorem zrw {p:PZ} {c:Int} {m:Mono} {k:Nat} {t:Int × Mono} (h:∀ j t,j < k → p[j]? = some t → z0e t.2 m = 1) (ht:p[k]? = some t) (h1:z0e t.2 m ≠ 1) (h2:z0e t.2 m ≠ 0):putP p c m = p.take k ++ midP c m ++ p.drop k:=by
 rw [z7i h,z6n ht,List.append_assoc]
 simp only [putP,midP]
 rw [if_neg h1,if_neg h2]
 split <;> rfl
theorem zbc {c:Int} (h:c = 0) (m:Mono):midP c m = []:=by unfold midP; rw [if_pos h]
theorem zbd {c:Int} (h:c ≠ 0) (m:Mono):midP c m = [(c,m)]:=by unfold midP; rw [if_neg h]
theorem Tryz.infoT:(Tryz.prog.info? 105).map (fun i => (i.zero,i.size,i.bytes)) = some (some (.agg #[.bool false,.slice none 0 0,.slice none 0 0]),3,56):=by kernel_rfl
theorem z2f {u v x:Value} (h:u.oneCell' = true) (k:v.oneCell' = true) (l:x.oneCell' = true):∀ y ∈ (#[u,v,x]:Array Value).toList,y.oneCell' = true:=by
 intro y hy
 simp at hy
 rcases hy with rfl | rfl | rfl <;> assumption
end
section
open Go.RowKit
abbrev Old (w:World):Nat → Prop:=fun k => k < w.heap.size
theorem zbe {w W:World} (h:Ext w W):∀ k,Old w k → k < W.heap.size:=fun _ hk => Nat.lt_of_lt_of_le hk h.size
theorem RTs.on {w W:World} {v:Value} {p:PZ} (h:RTs (Old w) w v p) (hx:Ext w W):RTs (Old W) W v p:=h.to (Kept.ext hx (fun _ h => h)) (zbe hx)
theorem Pows.on {w W:World} {v:Value} {z:Mono} (h:Pows (Old w) w v z) (hx:Ext w W):Pows (Old W) W v z:=h.to (Kept.ext hx (fun _ h => h)) (zbe hx)
def szP (p:PZ):Prop:=p.length ≤ 1000000000000 ∧ ∀ t ∈ p,szZ t.1
theorem z1z {P:Program} (w:World) {ops:Array Oper} {rest:List Oper} {o:Oper} {a:Act} {Q:Exit → Act → World → Prop} (hgd:o.guard = none) (x y:Operand) (t e:TypeId)
  (ho:o.op = .slice t x (some y) none none) (ht:P.underlying t = some (.slice e)) {z:Option Value} {size bytes:Nat} (hinfo:(P.info? e).map (fun i => (i.zero,i.size,i.bytes)) = some (z,size,bytes))
  (A:Option Addr) (n cap k:Nat) (hx:a.eval x = .slice A n cap) (hy:a.eval y = .int .i64 (k:Nat)) (hk:k ≤ n)
  (h:∀ A',A' = (if cap = k then A else A.map (·.add (k * size))) → wpList P ops Q rest (a.put o.dst (.slice A' (n - k) (cap - k))) w):wpList P ops Q (o :: rest) a w:=by
 refine wpList_plain hgd fun K hK => ?_
 have he:P.elem t = e:=by simp [Program.elem,ht]
 have ht':P.underlying t = some (.slice (P.elem t)):=by rw [he]; exact ht
 have hi:∃ i,P.info? e = some i ∧ i.size = size:=by
  cases hh:P.info? e with
  | none => rw [hh] at hinfo; simp at hinfo
  | some i =>
   rw [hh] at hinfo
   simp at hinfo
   exact ⟨i,rfl,hinfo.2.1⟩
 obtain ⟨i,hi1,hi2⟩:=hi
 unfold Oper.wp execOp
 simp only [ho,Option.map,hx,hy]
 rw [Sem.run_bind,run_sliceAt_slice _ _ _ _ _ _ ht',run_slice_l _ _ _ _ _ ht' _ _ (by omega) (by omega)]
 simp only [he,sizeOf,typeInfo,Sem.run_bind,sliced,Int.toNat_natCast]
 have:=hK _ _ (h _ rfl)
 simpa [go_sem,hi1,hi2] using this
theorem z4s {S:Nat → Prop} {w:World} {A A':Option Addr} {n cap k:Nat} {p:PZ} (h:RTs S w (.slice A n cap) p) (hk:k ≤ p.length) (e:A' = (if cap = k then A else A.map (·.add (k * 3)))) :
  ∃ news,zcr w A' (p.length - k) 3 news ∧ z1p S w news (p.drop k):=by
 have h':=h
 obtain ⟨b,off,⟨a',cap',h1,h2,h3,h4,h5⟩,hc⟩:=h
 obtain ⟨rfl,rfl,rfl⟩:A = a' ∧ n = p.length ∧ cap = cap':=by simpa using h1
 by_cases hlt:k < p.length
 ·have ha:=h4 (by omega)
  subst ha
  rw [if_neg (by omega)] at e
  have e2:A' = some ⟨b,off + k * 3,none⟩:=by rw [e,Option.map_some,z8c]
  rw [e2]
  exact h'.src hk
 ·obtain rfl:k = p.length:=by omega
  refine ⟨[],⟨by simp,fun u hu => by simp at hu,fun hh => by omega⟩,?_⟩
  rw [List.drop_length]
  rfl
theorem z0z {w w':World} {base:Nat} {e:TypeId} {size:Nat} {v:Value} {n:Nat} {xs:List Value} (h:w.ownsRow base e size v n xs) (hx:Ext w w'):w'.ownsRow base e size v n xs :=
 h.kept (row:=none) ⟨hx.os,hx.tape,hx.output,hx.size,fun k hk _ => hx.block k hk⟩ (by
  cases hv:v.ownBlock with
  | none => exact .inl rfl
  | some k => exact .inr (by simp))
theorem zhy {c:Int} (h:c ≠ 0):(z1l c != 0) = true:=by
 rw [bne_iff_ne]
 unfold z1l
 rw [Ne,z6q]
 exact h
abbrev Plus (S:Nat → Prop) (w w1:World):Nat → Prop:=fun k => S k ∨ New w w1 k
theorem z2s {S:Nat → Prop} {w w1:World} (hS:∀ k,S k → k < w.heap.size) (hx:Ext w w1):∀ k,Plus S w w1 k → k < w1.heap.size:=fun k hk => by
 rcases hk with h | h
 ·exact Nat.lt_of_lt_of_le (hS k h) hx.size
 ·exact h.2
theorem z5z {S:Nat → Prop} {w w1 w2:World} (hx:w1.heap.size ≤ w2.heap.size):∀ k,Plus S w w1 k → Plus S w w2 k:=fun k hk => by
 rcases hk with h | h
 ·exact .inl h
 ·exact .inr ⟨h.1,Nat.lt_of_lt_of_le h.2 hx⟩
abbrev Off (S:Nat → Prop) (w w1:World) (o:Value):Nat → Prop:=fun k => Plus S w w1 k ∧ some k ≠ o.ownBlock
theorem z9k {S:Nat → Prop} {w w0 w1:World} {o v:Value} {z:List Nat} (hS:∀ k,S k → k < w.heap.size) (h0:Ext w w0) (h:Digs (Off S w w0 o) w0 v z) (hx:Ext w0 w1):Digs (Off S w w1 o) w1 v z :=
 h.to (Kept.ext hx (fun k h => z2s hS h0 k h.1)) (fun k h => ⟨z5z hx.size k h.1,h.2⟩)
theorem zuy {w w1:World} {o:Value} {e:TypeId} {size n:Nat} {xs:List Value} (ho:w1.ownsRow (w.heap.size + 1) e size o n xs) {k:Nat} (hk:k < w.heap.size):some k ≠ o.ownBlock:=fun e => by
 have:=(ho.lt k e.symm).1
 omega
theorem znn {S:Nat → Prop} {w w1:World} {o v:Value} {z:List Nat} {e:TypeId} {size n:Nat} {xs:List Value} (hS:∀ k,S k → k < w.heap.size) (h:Digs S w v z) (hx:Ext w w1) (ho:w1.ownsRow (w.heap.size + 1) e size o n xs):Digs (Off S w w1 o) w1 v z :=
 h.to (Kept.ext hx hS) (fun k hk => ⟨.inl hk,zuy ho (hS k hk)⟩)
theorem z3m {w w1 w2:World} {o:Value} {e:TypeId} {size n:Nat} {xs:List Value} (hx:Ext w w1) (ho:w1.ownsRow (w.heap.size + 1) e size o n xs) (hg:w1.grownBy w2 o.ownBlock):Ext w w2 :=
 z0n hx hg (fun k hk => by have:=(ho.lt k hk).1; omega)
theorem z9l {S:Nat → Prop} {w w1:World} {o:Value} {e:TypeId} {size n:Nat} {xs:List Value} (hS:∀ k,S k → k < w.heap.size) (ho:w1.ownsRow (w.heap.size + 1) e size o n xs) (hx:Ext w w1):∀ k,S k → k < w1.heap.size ∧ some k ≠ o.ownBlock:=fun k hk =>
 ⟨Nat.lt_of_lt_of_le (hS k hk) hx.size,zuy ho (hS k hk)⟩
theorem zbf {S:Nat → Prop} {w w1:World} {o v2:Value} {k:Nat} (hS:∀ k,S k → k < w.heap.size) (hx:Ext w w1) (h:Off S w w1 o k) (hb:v2.ownBlock = o.ownBlock ∨ v2.ownBlock = some (w1.heap.size + 1)):some k ≠ v2.ownBlock:=by
 rcases hb with e | e
 ·rw [e]; exact h.2
 ·rw [e]
  intro e2
  have:=z2s hS hx k h.1
  have e3:k = w1.heap.size + 1:=Option.some.inj e2
  omega
theorem zno (w:World) (a:Addr) (u:Value):w.grownBy (w.setCell a u) (some a.block) :=
 ⟨rfl,rfl,rfl,Nat.le_of_eq (z07 w a u).symm,fun k _ hne => Below.heap_setCell _ _ _ _ (fun e => hne (by rw [e]))⟩
theorem znp {w1:World} {b i base:Nat} {o:Value} {e:TypeId} {size n:Nat} {xs:List Value} (ho:w1.ownsRow base e size o n xs) (hb:b < base) (u:Value):(w1.setCell ⟨b,i,none⟩ u).ownsRow base e size o n xs :=
 ho.kept (zno w1 ⟨b,i,none⟩ u) (by
  cases hv:o.ownBlock with
  | none => exact .inl rfl
  | some k =>
   have:=(ho.lt k hv).1
   exact .inr (fun e => by
    have e2:k = b:=Option.some.inj e
    omega))
theorem zw3 {S:Nat → Prop} {w wb wc:World} {b i j:Nat} {o v x y:Value} {z:List Nat} {base:Nat} {e:TypeId} {size n:Nat} {xs:List Value} (h:Digs (New wb wc) wc v z) (ho:wb.ownsRow base e size o n xs) (hb:b < wb.heap.size) (hw:w.heap.size ≤ wb.heap.size) :
  Digs (Off S w ((wc.setCell ⟨b,i,none⟩ x).setCell ⟨b,j,none⟩ y) o) ((wc.setCell ⟨b,i,none⟩ x).setCell ⟨b,j,none⟩ y) v z:=by
 have k1:Kept (New wb wc) wc (wc.setCell ⟨b,i,none⟩ x):=Kept.setCell (a:=⟨b,i,none⟩) (fun hh => by have:=hh.1; simp only at this; omega) x
 have k2:Kept (New wb wc) (wc.setCell ⟨b,i,none⟩ x) ((wc.setCell ⟨b,i,none⟩ x).setCell ⟨b,j,none⟩ y):=Kept.setCell (a:=⟨b,j,none⟩) (fun hh => by have:=hh.1; simp only at this; omega) y
 refine h.to (k1.trans k2) (fun k hk => ⟨.inr ⟨Nat.le_trans hw hk.1,?_⟩,fun e => ?_⟩)
 ·rw [z07,z07]
  exact hk.2
 ·have:=(ho.lt k e.symm).2
  have:=hk.1
  omega
theorem z7j {S:Nat → Prop} {w w2 w3:World} {k j n:Nat} {T:TypeId} {v3:Value} {xs ms news:List Value} {p md q:PZ} (hS:∀ k,S k → k < w.heap.size) (hx:z1p S w xs (p.take k)) (x3:Ext w w3) (hm:z1p (Plus S w w3) w3 ms md) (hn:z1p S w2 news (p.drop j)) (hk:Kept S w2 w3)
  (ho:w3.ownsRow (w.heap.size + 1) T 3 v3 n (xs ++ ms ++ news)) (hq:q = p.take k ++ md ++ p.drop j):RTs (Plus S w w3) w3 v3 q:=by
 have hc:z1p (Plus S w w3) w3 (xs ++ ms ++ news) q:=by
  rw [hq]
  exact ((hx.to (Kept.ext x3 hS) (fun _ h => .inl h)).append hm).append (hn.to hk (fun _ h => .inl h))
 have hl:=hc.length
 have hn':n = q.length:=by
  have:=ho.1
  omega
 subst hn'
 exact znm ho hc (fun k h1 h2 => .inr ⟨by omega,h2⟩)
theorem zbg {S:Nat → Prop} (vp vc vm:Value) (p:PZ) (c:Int) (m:Mono) (w:World) (hS:∀ k,S k → k < w.heap.size) (hp:RTs S w vp p) (hc:ZV S w vc c) (hm:Pows S w vm m) (hmay:z0k p) (hmm:mayM m = true) (hs:szP p) (hsc:szZ c) :
  Calls Tryz.prog 34 #[vp,vc,vm] w fun e w' => ∃ v',e = .returned v' ∧ RTs (Plus S w w') w' v' (putP p c m) ∧ Ext w w':=by
 obtain ⟨i0,hi,hz0,hz1,hz2⟩:=info_parts Tryz.infoT
 have HP:=hid hp
 have HM:=hid hm
 have HC:=hid hc
 have HMY:=hid hmay
 have HMM:=hid hmm
 have HS:=hid hs
 have HSC:=hid hsc
 obtain ⟨ap,cp,rfl⟩:=hp.form
 obtain ⟨ac,nc,cc,rfl⟩:=hc.form
 obtain ⟨am,cm,rfl⟩:=hm.form
 have hl:=hp.len_le
 clear hp hc hm hmay hmm hs hsc
 obtain ⟨bc,hbc⟩:∃ b,b = decide (c < 0):=⟨_,rfl⟩
 rw [← hbc] at HC ⊢
 have HK:=hid (Ext.alloc (Ext.refl w) (.cells #[.bool bc,.slice ac nc cc] 102))
 have HCC:=fun (W:World) (hW:Ext (w.alloc (.cells #[.bool bc,.slice ac nc cc] 102)) W) => new2 hW
 have HCC:=hid HCC
 have HBZ:=hid hbc
 have HDC:Hid (Digs S w (.slice ac nc cc) (rep 10 c.natAbs)):=by
  obtain ⟨vd,e1,e2⟩:=HC.out
  have e3:Value.slice ac nc cc = vd:=by simp at e1; exact e1.2
  rw [e3]
  exact hid e2
 clear hbc
 go_enter Tryz.func34,Tryz.ntmps34
 go_wp2
 go_loopw [7,8] (fun o v wr => ∃ k xs,k ≤ p.length ∧ v = .int .i64 (k:Nat) ∧ Ext (w.alloc (.cells #[.bool bc,.slice ac nc cc] 102)) wr ∧ Hid (∀ j t,j < k → p[j]? = some t → z0e t.2 m = 1) ∧ Hid (wr.ownsRow (w.heap.size + 1) 105 3 o k xs) ∧ Hid (z1p S w xs (p.take k))) (fun _ v _ => p.length - (intOf v).toNat)
 case atStart => exact ⟨0,[],Nat.zero_le _,rfl,Ext.refl _,hid (fun j t hj => by omega),hid (World.ownsRow_nil _ _ _ _),hid rfl⟩
 case round =>
  obtain ⟨k,xs,hk,rfl,hx,HPR,HW,HXS⟩:=hrel
  have HX:=hid hx
  by_cases hlt:k < p.length
  ·obtain ⟨t,ht⟩:=z01 hlt
   obtain ⟨b,off,vd,vo,rfl,-,hn1,hm1,hSb,h1,h2,h3,h4,h5⟩:=HP.out.cellAt ht
   have HT:=hid ht
   have H4:=hid h4
   have H5:=hid h5
   obtain ⟨ad,cd,rfl⟩:=h4.form
   obtain ⟨ao,co,rfl⟩:=h5.form
   have HXW0:=hid (HK.out.trans hx)
   have g1:=HXW0.out.cell h1
   have g2:=HXW0.out.cell h2
   have g3:=HXW0.out.cell h3
   have HTM:=hid (HMY.out t (List.mem_of_getElem? ht))
   have HSZT:=hid (HS.out.2 t (List.mem_of_getElem? ht))
   have CO:=fun (W:World) (hW:Ext w W) => ze3 (S:=S) _ _ t.2 m W (H5.out.ext hW hS) (HM.out.ext hW hS) (z08 hS hW)
   rw [zvu HTM.out HMM.out] at CO
   obtain ⟨rc,hrc⟩:∃ r,z0e t.2 m = r:=⟨_,rfl⟩
   rw [hrc] at CO
   have hcs:rc = 1 ∨ rc = 0 ∨ rc = -1:=by rw [← hrc]; rcases z1n HTM.out HMM.out with h | h | h <;> omega
   have HCO:=hid CO
   have HRC:=hid hrc
   obtain ⟨bt,hbt⟩:∃ b,b = decide (t.1 < 0):=⟨_,rfl⟩
   obtain ⟨nt,hnt⟩:∃ n,n = (rep 10 t.1.natAbs).length:=⟨_,rfl⟩
   rw [← hbt] at g1
   rw [← hnt] at g2 H4
   have HBT:=hid hbt
   have HTK:Hid (p.take (k + 1) = p.take k ++ [t]):=hid (by rw [List.take_add_one,ht]; rfl)
   have HSZ0:Hid (w.heap.size + 1 ≤ wr.heap.size):=hid (by have:=hx.size; rw [z02] at this; exact this)
   clear CO hrc hx ht h1 h2 h3 h4 h5 hbt hnt
   rcases hcs with rfl | rfl | rfl
   ·go_wp2_with fail
    refine (HCO.out wr HXW0.out).mono ?_
    rintro e w1 ⟨rfl,hx1⟩
    have HX1:=hid (HX.out.trans hx1)
    have HW1:=hid (z0z HW.out hx1)
    have HSZ1:Hid (w.heap.size + 1 ≤ w1.heap.size):=hid (Nat.le_trans HSZ0.out hx1.size)
    have k1:=hx1.cell g1
    have k2:=hx1.cell g2
    have k3:=hx1.cell g3
    clear hx1 g1 g2 g3
    go_wp2_with (at_builtin; refine z1y _ rfl (.tmp 23) (.tmp 28) 54 rfl (w.heap.size + 1) 105 (.agg #[.bool false,.slice none 0 0,.slice none 0 0]) 3 56 Tryz.underlying54 Tryz.infoT rfl (by decide) _ k xs rfl HW1.out #[.bool bt,.slice ad nt cd,.slice ao t.2.length co] rfl (z2f rfl rfl rfl) rfl (by have:=HS.out.1; omega) (by decide) HSZ1.out ?_; intro v2 w2 hown hg _; have HW2:=hid hown; have HX2:=hid (z0n HX1.out hg (fun j hj => by have:=(HW1.out.lt j hj).1; rw [z02]; exact this)); clear hown hg)
    go_roundw
    case rel =>
     refine ⟨k + 1,xs ++ (#[.bool bt,.slice ad nt cd,.slice ao t.2.length co]:Array Value).toList,by omega,by go_num,HX2.out,hid (fun j u hj hu => ?_),HW2,hid ?_⟩
     ·by_cases e:j = k
      ·subst e
       have:=HT.out.symm.trans hu
       cases this
       exact HRC.out
      ·exact HPR.out j u (by omega) hu
     ·rw [HTK.out]
      refine HXS.out.append ?_
      rw [HBT.out]
      exact z1p.single H4.out H5.out
    case measure => simp only [intOf]; omega
   ·go_wp2_with fail
    refine (HCO.out wr HXW0.out).mono ?_
    rintro e wa ⟨rfl,hxa⟩
    have HXA:=hid (HX.out.trans hxa)
    have k1:=hxa.cell g1
    have k2:=hxa.cell g2
    have k3:=hxa.cell g3
    have HWA:=hid (z0z HW.out hxa)
    clear hxa g1 g2 g3
    go_wp2_with fail
    refine (HCO.out wa (HK.out.trans HXA.out)).mono ?_
    rintro e wb ⟨rfl,hxb⟩
    have HXB:=hid (HXA.out.trans hxb)
    have l1:=hxb.cell k1
    have l2:=hxb.cell k2
    have l3:=hxb.cell k3
    have HWB:=hid (z0z HWA.out hxb)
    obtain ⟨c0,c1,f0,f1⟩:=HCC.out wb HXB.out
    have HKB:=hid (HK.out.trans HXB.out.drew)
    have CA:=zw1 (S:=S) _ _ c t.1 wb.drew (HC.out.ext HKB.out hS) (show ZV S wb.drew (.agg #[.bool (decide (t.1 < 0)),.slice ad nt cd]) t.1 from ⟨_,rfl,H4.out.ext HKB.out hS⟩) (z08 hS HKB.out) HSC.out HSZT.out
    rw [← HBT.out] at CA
    have HCA:=hid CA
    clear hxb k1 k2 k3 CA
    go_wp2
    go_still_tail 6,(by kernel_rfl)
    change wpList _ _ _ _ _ wb.drew
    go_wp2_with fail
    refine HCA.out.mono ?_
    rintro e wc ⟨vs,rfl,hzv,hxc⟩
    obtain ⟨vd2,rfl,hd2⟩:=hzv
    have HD2:=hid hd2
    obtain ⟨aq,cs,rfl⟩:=hd2.form
    obtain ⟨ns,hns⟩:∃ n,n = (rep 10 (c + t.1).natAbs).length:=⟨_,rfl⟩
    obtain ⟨bs,hbs⟩:∃ b,b = decide (c + t.1 < 0):=⟨_,rfl⟩
    have HBZ:=hid hbs
    rw [← hns] at HD2 ⊢
    rw [← hbs]
    obtain ⟨q0,q1,p0,p1⟩:=HCC.out wc (HXB.out.drew.trans hxc)
    obtain ⟨e0,e1⟩:=z19 (.bool bs) (.slice aq ns cs) q0 q1
    have HWC:=hid (znp (i:=1) (znp (i:=0) (z0z HWB.out ((Ext.refl wb).drew.trans hxc)) (Nat.lt_succ_self w.heap.size) (.bool bs)) (Nat.lt_succ_self w.heap.size) (.slice aq ns cs))
    have HSZC:Hid (w.heap.size + 1 ≤ wb.heap.size):=hid (by have:=HXB.out.size; rw [z02] at this; exact this)
    have HXC:=hid (((HKB.out.trans hxc).setCell (p:=⟨w.heap.size,0,none⟩) (Nat.le_refl _) (.bool bs)).setCell (p:=⟨w.heap.size,1,none⟩) (Nat.le_refl _) (.slice aq ns cs))
    have HSZ2:Hid (w.heap.size + 1 ≤ ((wc.setCell ⟨w.heap.size,0,none⟩ (.bool bs)).setCell ⟨w.heap.size,1,none⟩ (.slice aq ns cs)).heap.size):=hid (by rw [z07,z07]; exact Nat.le_trans HSZC.out hxc.size)
    have HDC2:=hid (zw3 (wb:=wb.drew) (b:=w.heap.size) (i:=0) (j:=1) (x:=.bool bs) (y:=.slice aq ns cs) HD2.out (z0z HWB.out ((Ext.refl wb).drew)) HSZC.out (Nat.le_trans (Nat.le_succ _) HSZC.out) (S:=S) (w:=w))
    have HPE:=hid (zrv (c:=c) HPR.out HT.out HRC.out)
    have HJ:Hid (k + 1 ≤ p.length):=hid hlt
    clear hxc hd2 hns hbs c0 c1
    go_wp2_with fail
    obtain ⟨wz,hwz⟩:∃ W,W = (wc.setCell ⟨w.heap.size,0,none⟩ (.bool bs)).setCell ⟨w.heap.size,1,none⟩ (.slice aq ns cs):=⟨_,rfl⟩
    rw [← hwz] at HWC HXC HSZ2 HDC2 e0 e1 ⊢
    have HW:=HWC
    have HXW:Hid (Ext w wz):=HXC
    have HSZ:=HSZ2
    have HDZ:=HDC2
    have c0:=e0
    have c1:=e1
    clear hwz q0 q1 p0 p1 f0 f1 HWC HXC HSZ2 HDC2 e0 e1 HD2
    by_cases hz:c + t.1 = 0
    ·have CS:=hid (show Calls Tryz.prog 72 #[.agg #[.bool bs,.slice aq ns cs]] wz fun e w' => e = .returned (.int .i64 0) ∧ Ext wz w' from by have h:=z7h (S:=Off S w wz u7) _ (c + t.1) wz ⟨_,rfl,HDZ.out⟩; rw [← HBZ.out,show z1l (c + t.1) = 0 by rw [hz]; rfl] at h; exact h)
     have HZ:=hid hz
     clear hz
     refine CS.out.mono ?_
     rintro e w1 ⟨rfl,hx1⟩
     have HX1:=hid (HXW.out.trans hx1)
     have HW1:=hid (z0z HW.out hx1)
     have HSZ1:Hid (w.heap.size + 1 ≤ w1.heap.size):=hid (Nat.le_trans HSZ.out hx1.size)
     have HD1:=hid (z9k hS HXW.out HDZ.out hx1)
     clear hx1
     go_wp2_with (first | (refine z1z _ rfl (.tmp 65) (.tmp 66) 54 105 rfl Tryz.underlying54 Tryz.infoT (some ⟨b,off,none⟩) p.length cp (k + 1) rfl rfl HJ.out ?_; intro A' hA'; obtain ⟨news,hsrc,hcs⟩:=z4s (HP.out.ext HX1.out hS) HJ.out hA'; have HSRC:=hid hsrc; have HCS:=hid hcs; clear hA' hsrc hcs) | (at_builtin; refine z0u _ rfl (.tmp 64) (.tmp 67) 54 rfl (w.heap.size + 1) 105 i0 (.agg #[.bool false,.slice none 0 0,.slice none 0 0]) 3 56 Tryz.underlying54 hi hz0 hz1 hz2 rfl (by decide) _ ((k)) xs rfl HW1.out A' (p.length - (k + 1)) _ news rfl HSRC.out (by have:=HS.out.1; unfold maxLen; omega) (by have:=HS.out.1; omega) HSZ1.out ?_; intro v3 w3 hown hg _; have HW3:=hid hown; have HG3:=hid hg; clear hown hg))
     go_ret
     have hx3:=z3m HX1.out HW1.out HG3.out
     refine ⟨_,rfl,z7j (w:=w) hS (ms:=[]) (md:=[]) HXS.out hx3 rfl HCS.out (Kept.grown HG3.out (z9l hS HW1.out HX1.out)) (by simpa using HW3.out) (by rw [HPE.out,zbc HZ.out]),hx3⟩
    ·have CS:=hid (show Calls Tryz.prog 72 #[.agg #[.bool bs,.slice aq ns cs]] wz fun e w' => e = .returned (.int .i64 (z1l (c + t.1))) ∧ Ext wz w' from by rw [HBZ.out]; exact z7h (S:=Off S w wz u7) _ (c + t.1) wz ⟨_,rfl,HDZ.out⟩)
     have hsn:=zhy hz
     have HZ:=hid hz
     clear hz
     refine CS.out.mono ?_
     rintro e w1 ⟨rfl,hx1⟩
     have HX1:=hid (HXW.out.trans hx1)
     have HW1:=hid (z0z HW.out hx1)
     have HSZ1:Hid (w.heap.size + 1 ≤ w1.heap.size):=hid (Nat.le_trans HSZ.out hx1.size)
     have HD1:=hid (z9k hS HXW.out HDZ.out hx1)
     have k0:=hx1.cell c0
     have k1:=hx1.cell c1
     clear hx1
     go_wp2_with (first | (refine z1z _ rfl (.tmp 65) (.tmp 66) 54 105 rfl Tryz.underlying54 Tryz.infoT (some ⟨b,off,none⟩) p.length cp (k + 1) rfl rfl HJ.out ?_; intro A' hA'; obtain ⟨news,hsrc,hcs⟩:=z4s (HP.out.ext HX2.out hS) HJ.out hA'; have HSRC:=hid hsrc; have HCS:=hid hcs; clear hA' hsrc hcs) | (first | (at_builtin; refine z1y _ rfl (.tmp 58) (.tmp 62) 54 rfl (w.heap.size + 1) 105 (.agg #[.bool false,.slice none 0 0,.slice none 0 0]) 3 56 Tryz.underlying54 Tryz.infoT rfl (by decide) _ (k) xs rfl HW1.out #[.bool bs,.slice aq ns cs,.slice am m.length cm] rfl (z2f rfl rfl rfl) rfl (by have:=HS.out.1; omega) (by decide) HSZ1.out ?_; intro v2 w2 hown hg hbk; have HW2:=hid hown; have HG2:=hid hg; have HBK:=hid hbk; have HX2:=hid (z3m HX1.out HW1.out hg); have HSZ2:Hid (w.heap.size + 1 ≤ w2.heap.size):=hid (Nat.le_trans HSZ1.out hg.size); clear hown hg hbk) | (at_builtin; refine z0u _ rfl (.tmp 64) (.tmp 67) 54 rfl (w.heap.size + 1) 105 i0 (.agg #[.bool false,.slice none 0 0,.slice none 0 0]) 3 56 Tryz.underlying54 hi hz0 hz1 hz2 rfl (by decide) _ ((k) + 1) (xs ++ (#[.bool bs,.slice aq ns cs,.slice am m.length cm]:Array Value).toList) rfl HW2.out A' (p.length - (k + 1)) _ news rfl HSRC.out (by have:=HS.out.1; unfold maxLen; omega) (by have:=HS.out.1; omega) HSZ2.out ?_; intro v3 w3 hown hg _; have HW3:=hid hown; have HG3:=hid hg; clear hown hg)))
     go_ret
     have hx3:=z3m HX2.out HW2.out HG3.out
     have hmid:z1p (Plus S w w3) w3 [.bool bs,.slice aq ns cs,.slice am m.length cm] [(c + t.1,m)]:=by
      have hd:=Digs.to HD1.out (Kept.grown HG2.out (fun j hj => ⟨z2s hS HX1.out j hj.1,hj.2⟩)) (fun _ h => h)
      have hd3:=Digs.to hd (Kept.grown HG3.out (fun j hj => ⟨Nat.lt_of_lt_of_le (z2s hS HX1.out j hj.1) HG2.out.size,zbf hS HX1.out hj HBK.out⟩)) (S':=Plus S w w3) (fun j hj => z5z (Nat.le_trans HG2.out.size HG3.out.size) j hj.1)
      rw [HBZ.out]
      exact z1p.single (t:=(c + t.1,m)) hd3 (HM.out.to (Kept.ext hx3 hS) (fun _ h => .inl h))
     refine ⟨_,rfl,z7j (w:=w) hS (ms:=[.bool bs,.slice aq ns cs,.slice am m.length cm]) (md:=[(c + t.1,m)]) HXS.out hx3 hmid HCS.out (Kept.grown HG3.out (z9l hS HW2.out HX2.out)) HW3.out (by rw [HPE.out,zbd HZ.out]),hx3⟩
   ·go_wp2_with fail
    refine (HCO.out wr HXW0.out).mono ?_
    rintro e wa ⟨rfl,hxa⟩
    have HXA:=hid (HX.out.trans hxa)
    have k1:=hxa.cell g1
    have k2:=hxa.cell g2
    have k3:=hxa.cell g3
    have HWA:=hid (z0z HW.out hxa)
    clear hxa g1 g2 g3
    go_wp2_with fail
    refine (HCO.out wa (HK.out.trans HXA.out)).mono ?_
    rintro e wz ⟨rfl,hxb⟩
    have HXB:=hid (HXA.out.trans hxb)
    have HW:=hid (z0z HWA.out hxb)
    have HXW:=hid (HK.out.trans HXB.out)
    have HSZ:Hid (w.heap.size + 1 ≤ wz.heap.size):=hid (by have:=HXB.out.size; rw [z02] at this; exact this)
    obtain ⟨c0,c1,f0,f1⟩:=HCC.out wz HXB.out
    have HDZ:=hid (znn hS HDC.out HXW.out HW.out)
    have HPE:=hid (zrw (c:=c) HPR.out HT.out (by rw [HRC.out]; decide) (by rw [HRC.out]; decide))
    have HJ:Hid (k ≤ p.length):=hid hk
    clear hxb k1 k2 k3
    by_cases hz:c = 0
    ·have CS:=hid (show Calls Tryz.prog 72 #[.agg #[.bool bc,.slice ac nc cc]] wz fun e w' => e = .returned (.int .i64 0) ∧ Ext wz w' from by have h:=z7h (S:=Off S w wz u7) _ (c) wz ⟨_,rfl,HDZ.out⟩; rw [← HBZ.out,show z1l (c) = 0 by rw [hz]; rfl] at h; exact h)
     have HZ:=hid hz
     clear hz
     go_wp2_with fail
     refine CS.out.mono ?_
     rintro e w1 ⟨rfl,hx1⟩
     have HX1:=hid (HXW.out.trans hx1)
     have HW1:=hid (z0z HW.out hx1)
     have HSZ1:Hid (w.heap.size + 1 ≤ w1.heap.size):=hid (Nat.le_trans HSZ.out hx1.size)
     have HD1:=hid (z9k hS HXW.out HDZ.out hx1)
     clear hx1
     go_wp2_with (first | (refine z1z _ rfl (.tmp 65) (.tmp 66) 54 105 rfl Tryz.underlying54 Tryz.infoT (some ⟨b,off,none⟩) p.length cp (k) rfl rfl HJ.out ?_; intro A' hA'; obtain ⟨news,hsrc,hcs⟩:=z4s (HP.out.ext HX1.out hS) HJ.out hA'; have HSRC:=hid hsrc; have HCS:=hid hcs; clear hA' hsrc hcs) | (at_builtin; refine z0u _ rfl (.tmp 64) (.tmp 67) 54 rfl (w.heap.size + 1) 105 i0 (.agg #[.bool false,.slice none 0 0,.slice none 0 0]) 3 56 Tryz.underlying54 hi hz0 hz1 hz2 rfl (by decide) _ ((k)) xs rfl HW1.out A' (p.length - (k)) _ news rfl HSRC.out (by have:=HS.out.1; unfold maxLen; omega) (by have:=HS.out.1; omega) HSZ1.out ?_; intro v3 w3 hown hg _; have HW3:=hid hown; have HG3:=hid hg; clear hown hg))
     go_ret
     have hx3:=z3m HX1.out HW1.out HG3.out
     refine ⟨_,rfl,z7j (w:=w) hS (ms:=[]) (md:=[]) HXS.out hx3 rfl HCS.out (Kept.grown HG3.out (z9l hS HW1.out HX1.out)) (by simpa using HW3.out) (by rw [HPE.out,zbc HZ.out]),hx3⟩
    ·have CS:=hid (show Calls Tryz.prog 72 #[.agg #[.bool bc,.slice ac nc cc]] wz fun e w' => e = .returned (.int .i64 (z1l (c))) ∧ Ext wz w' from by rw [HBZ.out]; exact z7h (S:=Off S w wz u7) _ (c) wz ⟨_,rfl,HDZ.out⟩)
     have hsn:=zhy hz
     have HZ:=hid hz
     clear hz
     go_wp2_with fail
     refine CS.out.mono ?_
     rintro e w1 ⟨rfl,hx1⟩
     have HX1:=hid (HXW.out.trans hx1)
     have HW1:=hid (z0z HW.out hx1)
     have HSZ1:Hid (w.heap.size + 1 ≤ w1.heap.size):=hid (Nat.le_trans HSZ.out hx1.size)
     have HD1:=hid (z9k hS HXW.out HDZ.out hx1)
     have k0:=hx1.cell c0
     have k1:=hx1.cell c1
     clear hx1
     go_wp2_with (first | (refine z1z _ rfl (.tmp 65) (.tmp 66) 54 105 rfl Tryz.underlying54 Tryz.infoT (some ⟨b,off,none⟩) p.length cp (k) rfl rfl HJ.out ?_; intro A' hA'; obtain ⟨news,hsrc,hcs⟩:=z4s (HP.out.ext HX2.out hS) HJ.out hA'; have HSRC:=hid hsrc; have HCS:=hid hcs; clear hA' hsrc hcs) | (first | (at_builtin; refine z1y _ rfl (.tmp 58) (.tmp 62) 54 rfl (w.heap.size + 1) 105 (.agg #[.bool false,.slice none 0 0,.slice none 0 0]) 3 56 Tryz.underlying54 Tryz.infoT rfl (by decide) _ (k) xs rfl HW1.out #[.bool bc,.slice ac nc cc,.slice am m.length cm] rfl (z2f rfl rfl rfl) rfl (by have:=HS.out.1; omega) (by decide) HSZ1.out ?_; intro v2 w2 hown hg hbk; have HW2:=hid hown; have HG2:=hid hg; have HBK:=hid hbk; have HX2:=hid (z3m HX1.out HW1.out hg); have HSZ2:Hid (w.heap.size + 1 ≤ w2.heap.size):=hid (Nat.le_trans HSZ1.out hg.size); clear hown hg hbk) | (at_builtin; refine z0u _ rfl (.tmp 64) (.tmp 67) 54 rfl (w.heap.size + 1) 105 i0 (.agg #[.bool false,.slice none 0 0,.slice none 0 0]) 3 56 Tryz.underlying54 hi hz0 hz1 hz2 rfl (by decide) _ ((k) + 1) (xs ++ (#[.bool bc,.slice ac nc cc,.slice am m.length cm]:Array Value).toList) rfl HW2.out A' (p.length - (k)) _ news rfl HSRC.out (by have:=HS.out.1; unfold maxLen; omega) (by have:=HS.out.1; omega) HSZ2.out ?_; intro v3 w3 hown hg _; have HW3:=hid hown; have HG3:=hid hg; clear hown hg)))
     go_ret
     have hx3:=z3m HX2.out HW2.out HG3.out
     have hmid:z1p (Plus S w w3) w3 [.bool bc,.slice ac nc cc,.slice am m.length cm] [(c,m)]:=by
      have hd:=Digs.to HD1.out (Kept.grown HG2.out (fun j hj => ⟨z2s hS HX1.out j hj.1,hj.2⟩)) (fun _ h => h)
      have hd3:=Digs.to hd (Kept.grown HG3.out (fun j hj => ⟨Nat.lt_of_lt_of_le (z2s hS HX1.out j hj.1) HG2.out.size,zbf hS HX1.out hj HBK.out⟩)) (S':=Plus S w w3) (fun j hj => z5z (Nat.le_trans HG2.out.size HG3.out.size) j hj.1)
      rw [HBZ.out]
      exact z1p.single (t:=(c,m)) hd3 (HM.out.to (Kept.ext hx3 hS) (fun _ h => .inl h))
     refine ⟨_,rfl,z7j (w:=w) hS (ms:=[.bool bc,.slice ac nc cc,.slice am m.length cm]) (md:=[(c,m)]) HXS.out hx3 hmid HCS.out (Kept.grown HG3.out (z9l hS HW2.out HX2.out)) HW3.out (by rw [HPE.out,zbd HZ.out]),hx3⟩
  ·obtain rfl:k = p.length:=by omega
   obtain ⟨c0,c1,f0,f1⟩:=HCC.out wr hx
   have HPE:=hid (zw2 (c:=c) HPR.out rfl)
   have HJ:Hid (p.length ≤ p.length):=hid (Nat.le_refl _)
   have HXW:=hid (HK.out.trans hx)
   have HSZ:Hid (w.heap.size + 1 ≤ wr.heap.size):=hid (by have:=hx.size; rw [z02] at this; exact this)
   have HDZ:=hid (znn hS HDC.out HXW.out HW.out)
   clear hx
   by_cases hz:c = 0
   ·have CS:=hid (show Calls Tryz.prog 72 #[.agg #[.bool bc,.slice ac nc cc]] wr fun e w' => e = .returned (.int .i64 0) ∧ Ext wr w' from by have h:=z7h (S:=Off S w wr u7) _ (c) wr ⟨_,rfl,HDZ.out⟩; rw [← HBZ.out,show z1l (c) = 0 by rw [hz]; rfl] at h; exact h)
    have HZ:=hid hz
    clear hz
    go_wp2_with fail
    refine CS.out.mono ?_
    rintro e w1 ⟨rfl,hx1⟩
    have HX1:=hid (HXW.out.trans hx1)
    have HW1:=hid (z0z HW.out hx1)
    have HSZ1:Hid (w.heap.size + 1 ≤ w1.heap.size):=hid (Nat.le_trans HSZ.out hx1.size)
    have HD1:=hid (z9k hS HXW.out HDZ.out hx1)
    clear hx1
    go_wp2_with (first | (refine z1z _ rfl (.tmp 65) (.tmp 66) 54 105 rfl Tryz.underlying54 Tryz.infoT ap p.length cp (p.length) rfl rfl HJ.out ?_; intro A' hA'; obtain ⟨news,hsrc,hcs⟩:=z4s (HP.out.ext HX1.out hS) HJ.out hA'; have HSRC:=hid hsrc; have HCS:=hid hcs; clear hA' hsrc hcs) | (at_builtin; refine z0u _ rfl (.tmp 64) (.tmp 67) 54 rfl (w.heap.size + 1) 105 i0 (.agg #[.bool false,.slice none 0 0,.slice none 0 0]) 3 56 Tryz.underlying54 hi hz0 hz1 hz2 rfl (by decide) _ ((p.length)) xs rfl HW1.out A' (p.length - (p.length)) _ news rfl HSRC.out (by have:=HS.out.1; unfold maxLen; omega) (by have:=HS.out.1; omega) HSZ1.out ?_; intro v3 w3 hown hg _; have HW3:=hid hown; have HG3:=hid hg; clear hown hg))
    go_ret
    have hx3:=z3m HX1.out HW1.out HG3.out
    refine ⟨_,rfl,z7j (w:=w) hS (ms:=[]) (md:=[]) HXS.out hx3 rfl HCS.out (Kept.grown HG3.out (z9l hS HW1.out HX1.out)) (by simpa using HW3.out) (by rw [HPE.out,zbc HZ.out]),hx3⟩
   ·have CS:=hid (show Calls Tryz.prog 72 #[.agg #[.bool bc,.slice ac nc cc]] wr fun e w' => e = .returned (.int .i64 (z1l (c))) ∧ Ext wr w' from by rw [HBZ.out]; exact z7h (S:=Off S w wr u7) _ (c) wr ⟨_,rfl,HDZ.out⟩)
    have hsn:=zhy hz
    have HZ:=hid hz
    clear hz
    go_wp2_with fail
    refine CS.out.mono ?_
    rintro e w1 ⟨rfl,hx1⟩
    have HX1:=hid (HXW.out.trans hx1)
    have HW1:=hid (z0z HW.out hx1)
    have HSZ1:Hid (w.heap.size + 1 ≤ w1.heap.size):=hid (Nat.le_trans HSZ.out hx1.size)
    have HD1:=hid (z9k hS HXW.out HDZ.out hx1)
    have k0:=hx1.cell c0
    have k1:=hx1.cell c1
    clear hx1
    go_wp2_with (first | (refine z1z _ rfl (.tmp 65) (.tmp 66) 54 105 rfl Tryz.underlying54 Tryz.infoT ap p.length cp (p.length) rfl rfl HJ.out ?_; intro A' hA'; obtain ⟨news,hsrc,hcs⟩:=z4s (HP.out.ext HX2.out hS) HJ.out hA'; have HSRC:=hid hsrc; have HCS:=hid hcs; clear hA' hsrc hcs) | (first | (at_builtin; refine z1y _ rfl (.tmp 58) (.tmp 62) 54 rfl (w.heap.size + 1) 105 (.agg #[.bool false,.slice none 0 0,.slice none 0 0]) 3 56 Tryz.underlying54 Tryz.infoT rfl (by decide) _ (p.length) xs rfl HW1.out #[.bool bc,.slice ac nc cc,.slice am m.length cm] rfl (z2f rfl rfl rfl) rfl (by have:=HS.out.1; omega) (by decide) HSZ1.out ?_; intro v2 w2 hown hg hbk; have HW2:=hid hown; have HG2:=hid hg; have HBK:=hid hbk; have HX2:=hid (z3m HX1.out HW1.out hg); have HSZ2:Hid (w.heap.size + 1 ≤ w2.heap.size):=hid (Nat.le_trans HSZ1.out hg.size); clear hown hg hbk) | (at_builtin; refine z0u _ rfl (.tmp 64) (.tmp 67) 54 rfl (w.heap.size + 1) 105 i0 (.agg #[.bool false,.slice none 0 0,.slice none 0 0]) 3 56 Tryz.underlying54 hi hz0 hz1 hz2 rfl (by decide) _ ((p.length) + 1) (xs ++ (#[.bool bc,.slice ac nc cc,.slice am m.length cm]:Array Value).toList) rfl HW2.out A' (p.length - (p.length)) _ news rfl HSRC.out (by have:=HS.out.1; unfold maxLen; omega) (by have:=HS.out.1; omega) HSZ2.out ?_; intro v3 w3 hown hg _; have HW3:=hid hown; have HG3:=hid hg; clear hown hg)))
    go_ret
    have hx3:=z3m HX2.out HW2.out HG3.out
    have hmid:z1p (Plus S w w3) w3 [.bool bc,.slice ac nc cc,.slice am m.length cm] [(c,m)]:=by
     have hd:=Digs.to HD1.out (Kept.grown HG2.out (fun j hj => ⟨z2s hS HX1.out j hj.1,hj.2⟩)) (fun _ h => h)
     have hd3:=Digs.to hd (Kept.grown HG3.out (fun j hj => ⟨Nat.lt_of_lt_of_le (z2s hS HX1.out j hj.1) HG2.out.size,zbf hS HX1.out hj HBK.out⟩)) (S':=Plus S w w3) (fun j hj => z5z (Nat.le_trans HG2.out.size HG3.out.size) j hj.1)
     rw [HBZ.out]
     exact z1p.single (t:=(c,m)) hd3 (HM.out.to (Kept.ext hx3 hS) (fun _ h => .inl h))
    refine ⟨_,rfl,z7j (w:=w) hS (ms:=[.bool bc,.slice ac nc cc,.slice am m.length cm]) (md:=[(c,m)]) HXS.out hx3 hmid HCS.out (Kept.grown HG3.out (z9l hS HW2.out HX2.out)) HW3.out (by rw [HPE.out,zbd HZ.out]),hx3⟩
end
section
open Go.RowKit
theorem znq (w:World) (lo hi:Nat) (T:TypeId) (h1:lo < B32) (h2:hi < B32):U32s (Old (w.alloc (.cells #[.int .u32 lo,.int .u32 hi] T))) (w.alloc (.cells #[.int .u32 lo,.int .u32 hi] T)) (.slice (some ⟨w.heap.size,0,none⟩) 2 2) [lo,hi]:=by
 refine ⟨w.heap.size,0,⟨_,2,rfl,Nat.le_refl _,by decide,fun _ => rfl,fun _ => by show w.heap.size < (w.alloc _).heap.size; rw [z02]; omega⟩,fun j z hj => ?_⟩
 have hj2:=z05 hj
 simp only [List.length_cons,List.length_nil] at hj2
 match j,hj with
 | 0,hj =>
  obtain rfl:lo = z:=by simpa using hj
  exact ⟨h1,z04 _ _ _ rfl rfl⟩
 | 1,hj =>
  obtain rfl:hi = z:=by simpa using hj
  exact ⟨h2,z04 _ _ _ rfl rfl⟩
 | j + 2,_ => omega
theorem zbh (x:Nat) (w:World) (hx:x < 18446744073709551616) :
  Calls Tryz.prog 111 #[.int .u64 (x:Nat)] w fun e w' => ∃ v',e = .returned v' ∧ U32s (New w w') w' v' (rep B32 x) ∧ Ext w w':=by
 obtain ⟨lo,hlo⟩:∃ lo,lo = x % 4294967296:=⟨_,rfl⟩
 obtain ⟨hi,hhi⟩:∃ hi,hi = x / 4294967296:=⟨_,rfl⟩
 have q1:(x:Int) % 4294967296 = (lo:Int):=by omega
 have q2:(x:Int) / 4294967296 = (hi:Int):=by omega
 have hb1:lo < 4294967296:=by omega
 have hb2:hi < 4294967296:=by omega
 have q3:(hi:Int) % 4294967296 = (hi:Int):=by omega
 have hv:val B32 [lo,hi] = x:=by
  show lo + 4294967296 * (hi + 4294967296 * 0) = x
  omega
 have HC:=hid (z23 _ [lo,hi] _ (znq w lo hi 74 hb1 hb2) (fun _ h => h) (by simp))
 rw [hv] at HC
 have HX1:=hid (Ext.alloc (Ext.refl w) (.cells #[.int .u32 lo,.int .u32 hi] 74))
 clear hv hlo hhi
 go_enter Tryz.func111,Tryz.ntmps111
 go_wp2_with fail
 with_reducible refine HC.out.mono ?_
 rintro e w1 ⟨v1,rfl,hp1,hx1⟩
 have HP1:=hid (hp1.to (S':=New w w1) (Kept.refl _ _) (fun k h => ⟨Nat.le_trans HX1.out.size h.1,h.2⟩))
 have HX2:=hid (HX1.out.trans hx1)
 clear hp1 hx1
 go_wp2
 all_goals
  go_ret
  exact ⟨_,rfl,HP1.out,HX2.out⟩
end
section
open Go.RowKit
def ze7 (A B:Nat) (w:World):Ending → World → Prop:=fun e w' =>
 ∃ vq vr,e = .returned (.tuple #[vq,vr,.int .i64 0]) ∧ U32s (New w w') w' vq (rep B32 (A / B)) ∧ U32s (New w w') w' vr (rep B32 (A % B)) ∧ Ext w w'
theorem zky {S:Nat → Prop} (va vb:Value) (xs ys:List Nat) (w:World) (ha:U32s S w va xs) (hb:U32s S w vb ys) (hS:∀ k,S k → k < w.heap.size) (hr:xs.length ≤ 100000000000) (hr2:ys.length ≤ 100000000000) (hlt:val B32 xs < val B32 ys) :
  Calls Tryz.prog 140 #[va,vb] w (ze7 (val B32 xs) (val B32 ys) w):=by
 have HA:=hid ha
 have HB:=hid hb
 have HLT:=hid hlt
 clear ha hb hlt
 go_enter Tryz.func140,Tryz.ntmps140
 go_wp2_with fail
 refine (z23 _ xs _ HA.out hS (by omega)).mono ?_
 rintro e w1 ⟨v1,rfl,hu1,hx1⟩
 have HA1:=hid hu1
 have HX1:=hid hx1
 clear hu1 hx1
 go_wp2_with fail
 refine (z23 _ ys w1 (HB.out.ext HX1.out hS) (fun k hk => Nat.lt_of_lt_of_le (hS k hk) HX1.out.size) (by omega)).mono ?_
 rintro e w2 ⟨v2,rfl,hu2,hx2⟩
 have HX2:=hid (HX1.out.trans hx2)
 have HA2:=hid (HA1.out.to (S':=Old w2) (Kept.ext hx2 (fun _ h => h.2)) (fun k h => Nat.lt_of_lt_of_le h.2 hx2.size))
 have HA3:=hid (HA1.out.to (S':=New w w2) (Kept.ext hx2 (fun _ h => h.2)) (fun k h => ⟨h.1,Nat.lt_of_lt_of_le h.2 hx2.size⟩))
 have HB2:=hid (hu2.to (S':=Old w2) (Kept.refl _ _) (fun k h => h.2))
 obtain ⟨a2,c2,rfl⟩:=hu2.form
 clear hu2 hx2
 have hl0:(((rep B32 (val B32 ys)).length:Int) == 0) = false:=by
  have h1:rep B32 (val B32 ys) ≠ []:=by
   rw [Ne,z2d z00]
   have:=HLT.out
   omega
  have h2:=List.length_pos_iff.2 h1
  rw [beq_eq_false_iff_ne]
  omega
 have CC:=hid (zb3 _ _ _ _ w2 HA2.out HB2.out (fun _ h => h))
 have hcmp:cmpN (val B32 (rep B32 (val B32 xs))) (val B32 (rep B32 (val B32 ys))) = -1:=by
  rw [z0d z00,z0d z00]
  unfold cmpN cmpI
  have:=HLT.out
  rw [if_pos (by omega)]
 rw [hcmp] at CC
 go_wp2_with fail
 refine CC.out.mono ?_
 rintro e w3 ⟨rfl,hx3⟩
 have HX3:=hid hx3
 clear hx3
 go_wp2
 all_goals
  go_ret3
  refine ⟨_,_,rfl,?_,?_,HX2.out.trans HX3.out⟩
  ·rw [Nat.div_eq_of_lt HLT.out]
   exact U32s.nilv _ _ _ _ (by omega)
  ·rw [Nat.mod_eq_of_lt HLT.out]
   exact HA3.out.to (Kept.ext HX3.out (fun _ h => h.2)) (fun k h => ⟨h.1,Nat.lt_of_lt_of_le h.2 HX3.out.size⟩)
theorem zhz {S:Nat → Prop} (va vb:Value) (xs ys:List Nat) (w:World) (ha:U32s S w va xs) (hb:U32s S w vb ys) (hS:∀ k,S k → k < w.heap.size) (hr:xs.length ≤ 100000000000) (hr2:ys.length ≤ 100000000000) (hge:val B32 ys ≤ val B32 xs) (h1:(rep B32 (val B32 ys)).length = 1) :
  Calls Tryz.prog 140 #[va,vb] w (ze7 (val B32 xs) (val B32 ys) w):=by
 have HA:=hid ha
 have HB:=hid hb
 have HGE:=hid hge
 have HLA:Hid ((rep B32 (val B32 xs)).length ≤ xs.length):=hid (z0f z00 _ _ (z1k xs ha.lt))
 obtain ⟨d,hd⟩:∃ d,rep B32 (val B32 ys) = [d]:=by
  match h:rep B32 (val B32 ys),h1 with
  | [d],_ => exact ⟨d,rfl⟩
 have hdb:d < B32:=z3q z00 (val B32 ys) d (by rw [hd]; exact List.mem_singleton.2 rfl)
 have hv:val B32 ys = d:=by
  have h2:=z0d z00 (val B32 ys)
  rw [hd] at h2
  rw [← h2]
  simp [val]
 have hd0:0 < d:=by
  rcases Nat.eq_zero_or_pos d with h | h
  ·rw [hv,h] at hd
   simp [z36] at hd
  ·exact h
 obtain ⟨r,hr0⟩:∃ r,r = val B32 xs % d:=⟨_,rfl⟩
 have hrb:r < 18446744073709551616:=by rw [hr0]; exact Nat.lt_trans (Nat.lt_trans (Nat.mod_lt _ hd0) hdb) (by decide)
 have hd64:IntKind.u64.wrap (r:Int) = (r:Int):=z0w hrb
 have HRB:=hid hrb
 have HR0:=hid hr0
 have HD:=hid (And.intro hd (And.intro hdb (And.intro hv hd0)))
 clear ha hb hge h1 hd hdb hv hd0 hr0 hrb
 go_enter Tryz.func140,Tryz.ntmps140
 go_wp2_with fail
 refine (z23 _ xs _ HA.out hS (by omega)).mono ?_
 rintro e w1 ⟨v1,rfl,hu1,hx1⟩
 have HA1:=hid hu1
 have HX1:=hid hx1
 clear hu1 hx1
 go_wp2_with fail
 refine (z23 _ ys w1 (HB.out.ext HX1.out hS) (fun k hk => Nat.lt_of_lt_of_le (hS k hk) HX1.out.size) (by omega)).mono ?_
 rintro e w2 ⟨v2,rfl,hu2,hx2⟩
 rw [HD.out.1] at hu2
 have HX2:=hid (HX1.out.trans hx2)
 have HA2:=hid (HA1.out.to (S':=Old w2) (Kept.ext hx2 (fun _ h => h.2)) (fun k h => Nat.lt_of_lt_of_le h.2 hx2.size))
 have HB2:=hid (hu2.to (S':=Old w2) (Kept.refl _ _) (fun k h => h.2))
 obtain ⟨a2,c2,rfl⟩:=hu2.form
 obtain ⟨b2,o2,rfl,-,hn2,hm2,hs2,hb2,hcell⟩:=hu2.cellAt (k:=0) (z:=d) rfl
 rw [Nat.add_zero] at hcell
 have HS2:=hid hs2.2
 clear hu2 hx2 hs2
 have CC:=hid (zb3 _ _ _ _ w2 HA2.out HB2.out (fun _ h => h))
 obtain ⟨c,hc⟩:∃ c,c = cmpN (val B32 (rep B32 (val B32 xs))) (val B32 [d]):=⟨_,rfl⟩
 have hcmp:0 ≤ c:=by
  have e:val B32 [d] = d:=by simp [val]
  rw [hc,z0d z00,e,← HD.out.2.2.1]
  unfold cmpN cmpI
  have:=HGE.out
  split
  ·omega
  ·split <;> omega
 rw [← hc] at CC
 clear hc
 go_wp2_with fail
 refine CC.out.mono ?_
 rintro e w3 ⟨rfl,hx3⟩
 have hcell3:=hx3.cell hcell
 have HX3:=hid (HX2.out.trans hx3)
 have HA3:=hid (HA2.out.to (S':=Old w3) (Kept.ext hx3 (fun _ h => h)) (fun k h => Nat.lt_of_lt_of_le h hx3.size))
 have CL:=hid (zrh _ _ d w3 HA3.out (fun _ h => h) (by have:=HLA.out; omega) HD.out.2.2.2 HD.out.2.1)
 rw [z0d z00,← HR0.out] at CL
 clear hx3 hcell
 go_wp2_with fail
 refine CL.out.mono ?_
 rintro e w4 ⟨v4,rfl,hu4,hx4⟩
 have HU4:=hid hu4
 have HX4:=hid hx4
 clear hu4 hx4
 have CS:=hid (zbh r w4 HRB.out)
 go_wp2_with fail
 refine CS.out.mono ?_
 rintro e w5 ⟨v5,rfl,hu5,hx5⟩
 have HU5:=hid hu5
 have HX5:=hid hx5
 clear hu5 hx5
 go_wp2
 all_goals
  go_ret3
  have x3:=HX3.out
  have x4:=HX4.out
  have x5:=HX5.out
  refine ⟨_,_,rfl,?_,?_,(x3.trans x4).trans x5⟩
  ·rw [HD.out.2.2.1]
   exact HU4.out.to (Kept.ext x5 (fun _ h => h.2)) (fun k h => ⟨Nat.le_trans x3.size h.1,Nat.lt_of_lt_of_le h.2 x5.size⟩)
  ·rw [HD.out.2.2.1,← HR0.out]
   exact HU5.out.to (Kept.refl _ _) (fun k h => ⟨Nat.le_trans (Nat.le_trans x3.size x4.size) h.1,h.2⟩)
end
section
open Go.RowKit
theorem zi0 {S:Nat → Prop} (va vb:Value) (xs ys:List Nat) (w:World) (ha:U32s S w va xs) (hb:U32s S w vb ys) (hS:∀ k,S k → k < w.heap.size) (hr:xs.length ≤ 100000000000) (hr2:ys.length ≤ 100000000000) (hge:val B32 ys ≤ val B32 xs) (m:Nat) (h2:(rep B32 (val B32 ys)).length = m + 2) :
  Calls Tryz.prog 140 #[va,vb] w (ze7 (val B32 xs) (val B32 ys) w):=by
 have HA:=hid ha
 have HB:=hid hb
 have HLA:Hid ((rep B32 (val B32 xs)).length ≤ xs.length):=hid (z0f z00 _ _ (z1k xs ha.lt))
 have HLB:Hid ((rep B32 (val B32 ys)).length ≤ ys.length):=hid (z0f z00 _ _ (z1k ys hb.lt))
 have HAB:Hid ((rep B32 (val B32 ys)).length ≤ (rep B32 (val B32 xs)).length):=hid (z1o hge)
 obtain ⟨A,hA⟩:∃ A,A = val B32 xs:=⟨_,rfl⟩
 obtain ⟨D,hD⟩:∃ D,D = val B32 ys:=⟨_,rfl⟩
 rw [← hA] at hge HLA HAB ⊢
 rw [← hD] at hge h2 HLB HAB ⊢
 have HAE:=hid hA
 have HDE:=hid hD
 have HGE:=hid hge
 obtain ⟨La,hLa⟩:∃ La,La = (rep B32 A).length:=⟨_,rfl⟩
 rw [← hLa,h2] at HAB
 rw [← hLa] at HLA
 rw [h2] at HLB
 have hla1:m + 2 ≤ La:=HAB.out
 have hla2:La ≤ 100000000000:=Nat.le_trans HLA.out hr
 have HLL:=hid hLa
 have HL2:=hid h2
 have hD0:0 < D:=by
  rcases Nat.eq_zero_or_pos D with h | h
  ·rw [h,z36] at h2
   cases h2
  ·exact h
 have HD0:=hid hD0
 clear ha hb hge hLa h2 hD0 hA hD
 go_enter Tryz.func140,Tryz.ntmps140
 go_wp2_with fail
 refine (z23 _ xs _ HA.out hS (by omega)).mono ?_
 rintro e w1 ⟨v1,rfl,hu1,hx1⟩
 rw [← HAE.out] at hu1
 have HA1:=hid hu1
 have HX1:=hid hx1
 clear hu1 hx1
 go_wp2_with fail
 refine (z23 _ ys w1 (HB.out.ext HX1.out hS) (fun k hk => Nat.lt_of_lt_of_le (hS k hk) HX1.out.size) (by omega)).mono ?_
 rintro e w2 ⟨v2,rfl,hu2,hx2⟩
 rw [← HDE.out] at hu2
 have HX2:=hid (HX1.out.trans hx2)
 have HA2:=hid (HA1.out.to (S':=Old w2) (Kept.ext hx2 (fun _ h => h.2)) (fun k h => Nat.lt_of_lt_of_le h.2 hx2.size))
 have HB2:=hid (hu2.to (S':=Old w2) (Kept.refl _ _) (fun k h => h.2))
 obtain ⟨a2,c2,rfl⟩:=hu2.form
 rw [HL2.out] at HB2 ⊢
 obtain ⟨a1,c1,rfl⟩:=HA2.out.form
 rw [← HLL.out] at HA2 ⊢
 clear hu2 hx2 HA1
 have CC:=hid (zb3 _ _ _ _ w2 HA2.out HB2.out (fun _ h => h))
 obtain ⟨c,hc⟩:∃ c,c = cmpN (val B32 (rep B32 A)) (val B32 (rep B32 D)):=⟨_,rfl⟩
 have hcmp:0 ≤ c:=by
  rw [hc,z0d z00,z0d z00]
  unfold cmpN cmpI
  have:=HGE.out
  split
  ·omega
  ·split <;> omega
 rw [← hc] at CC
 clear hc
 go_wp2_with fail
 refine CC.out.mono ?_
 rintro e w3 ⟨rfl,hx3⟩
 have HX3:=hid (HX2.out.trans hx3)
 have HA3:=hid (HA2.out.to (S':=Old w3) (Kept.ext hx3 (fun _ h => h)) (fun k h => Nat.lt_of_lt_of_le h hx3.size))
 have HB3:=hid (HB2.out.to (S':=Old w3) (Kept.ext hx3 (fun _ h => h)) (fun k h => Nat.lt_of_lt_of_le h hx3.size))
 have CB:=hid (zhq _ _ w3 HB3.out (by rw [HL2.out]; omega) (by rw [z0d z00]; exact HD0.out))
 rw [z0d z00] at CB
 clear hx3
 go_wp2_with fail
 refine CB.out.mono ?_
 rintro e w3' ⟨m',k,rfl,hm',hk1,hk2,ht1,ht2,rfl⟩
 obtain rfl:m' = m + 1:=by have:=HL2.out; omega
 obtain ⟨s,hs⟩:∃ s,s = 32 - k:=⟨_,rfl⟩
 have HN:=hid (zrk HL2.out hk1 hk2 ht1 ht2)
 rw [← hs,show m + 1 + 1 = m + 2 from rfl] at HN
 have hs32:s < 32:=by omega
 have hsh:32 * ((m:Int) + 2) - (32 * ((m:Int) + 1) + (k:Int)) = (s:Int):=by omega
 clear ht1 ht2 hs
 have CV:=hid (zmv _ _ s w3 HB3.out (fun _ h => h) (by rw [HL2.out]; omega) hs32)
 rw [z0d z00,HL2.out,HN.out.1] at CV
 go_wp2_with fail
 refine CV.out.mono ?_
 rintro e w4 ⟨gv,rfl,hgv1,hgv2,hrv,hx4⟩
 have HX4:=hid (HX3.out.trans hx4)
 have HGV:=hid (And.intro hgv1 hgv2)
 have HRV:=hid hrv
 have HA4:=hid (HA3.out.to (S':=Old w4) (Kept.ext hx4 (fun _ h => h)) (fun k h => Nat.lt_of_lt_of_le h hx4.size))
 clear hx4 hgv1 hgv2 hrv
 have CU:=hid (zmv _ _ s w4 HA4.out (fun _ h => h) (by rw [← HLL.out]; omega) hs32)
 rw [z0d z00,← HLL.out] at CU
 go_wp2_with fail
 refine CU.out.mono ?_
 rintro e w5 ⟨gu,rfl,hgu1,hgu2,hru,hx5⟩
 obtain ⟨lu,hlu⟩:∃ lu,lu = (rep B32 (A * 2 ^ s)).length:=⟨_,rfl⟩
 rw [← hlu]
 have hlu1:lu ≤ La + 1:=by
  rw [hlu]
  refine z0f z00 _ _ ?_
  have h1:A < B32 ^ La:=by
   have h2:=z1k (rep B32 A) (z3q z00 A)
   rwa [z0d z00,← HLL.out] at h2
  have h3:2 ^ s ≤ B32:=show 2 ^ s ≤ 2 ^ 32 from Nat.pow_le_pow_right (by decide) (by omega)
  rw [Nat.pow_succ]
  exact Nat.lt_of_lt_of_le (Nat.mul_lt_mul_of_pos_right h1 (Nat.pow_pos (by decide))) (Nat.mul_le_mul_left _ h3)
 have hlu2:La ≤ lu:=by
  rw [hlu,HLL.out]
  exact z1o (Nat.le_mul_of_pos_right _ (Nat.pow_pos (by decide)))
 have HLU:=hid hlu
 have HRU:=hid hru
 have HGU:=hid (And.intro hgu1 hgu2)
 have HX5:=hid hx5
 clear hlu hru hgu1 hgu2 hx5
 go_wp2
 go_loopw [13] (fun s13 wr => ∃ l:Nat,s13 = .slice (some ⟨gu,0,none⟩) l (La + 1) ∧ lu ≤ l ∧ l ≤ La + 1 ∧ wr.rowIs gu 74 (La + 1) (rowU (rep B32 (A * 2 ^ s))) ∧ Ext w4 wr) (fun s13 _ => La + 1 - (z1i s13))
 case atStart => exact ⟨lu,rfl,Nat.le_refl _,hlu1,HRU.out,HX5.out⟩
 case round =>
  obtain ⟨l,rfl,hl1,hl2,hrow,hx⟩:=hrel
  have HR:=hid hrow
  have HX:=hid hx
  clear hrow hx
  by_cases hlt:l ≤ La
  ·have hra:=HR.out.alloc (.cells #[.int .u32 0] 74)
   have hfz:=hra.frozen l
   have hfc:=hra.cell (i:=l) (by omega)
   have HRA:=hid hra
   clear hra
   go_wp2
   refine ⟨⟨l + 1,rfl,by omega,by omega,?_,?_⟩,by simp only [z1i]; omega⟩
   ·refine (HRA.out.set l (.int .u32 0)).congr (fun i hi => ?_)
    by_cases e:i = l
    ·rw [if_pos e,e]
     unfold rowU
     rw [z2n (by rw [← HLU.out]; exact hl1)]
     rfl
    ·rw [if_neg e]
   ·exact (Ext.alloc HX.out _).setCell HGU.out.1 _
  ·obtain rfl:l = La + 1:=by omega
   obtain ⟨nq,hnq⟩:∃ nq,nq = La + 1 - (m + 2):=⟨_,rfl⟩
   have hnq2:(La:Int) + 1 - ((m:Int) + 2) = (nq:Int):=by omega
   have hnq3:nq + (m + 2) = La + 1:=by omega
   have hmk:=run_make_row' (P:=Tryz.prog) 28 74 (.int .u32 0) 4 Tryz.underlying28 Tryz.infoU32 rfl .i64 .i64 nq (by omega) (by omega) wr
   have HQ0:=hid (z5w wr nq 74)
   have HQX:=hid (Ext.alloc HX.out (.cells (madeCells #[.int .u32 0] nq) 74))
   have HQU:=hid (HR.out.alloc (.cells (madeCells #[.int .u32 0] nq) 74))
   have HGW:=hid HR.out.lt
   have HXS:=hid HX.out.size
   have HVW:=hid (World.rowIs.of_block HRV.out (HQX.out.block gv HGV.out.2))
   obtain ⟨gq,hgq⟩:∃ gq,gq = wr.heap.size:=⟨_,rfl⟩
   obtain ⟨w6,hw6⟩:∃ w6,w6 = wr.alloc (.cells (madeCells #[.int .u32 0] nq) 74):=⟨_,rfl⟩
   rw [← hw6,← hgq] at hmk HQ0
   rw [← hw6] at HQX HQU HVW
   rw [← hgq] at HGW HXS
   clear hnq hgq hw6
   go_wp2
   obtain ⟨V,hV⟩:∃ V,V = D * 2 ^ s:=⟨_,rfl⟩
   obtain ⟨vs,hvs⟩:∃ vs,vs = rep B32 V:=⟨_,rfl⟩
   have hvv:val B32 vs = V:=by rw [hvs,z0d z00]
   have hvl:∀ z ∈ vs,z < B32:=by rw [hvs]; exact z3q z00 V
   rw [← hV,← hvs] at HN HVW
   have HVS:=hid (And.intro hvv hvl)
   have HVE:=hid hV
   clear hV hvs hvv hvl
   go_loopw [87] (fun s87 wq => ∃ (i:Nat) (o qs:List Nat),s87 = .int .i64 (i:Nat) ∧ i ≤ nq ∧ Hid (o.length = La + 1 ∧ (∀ z ∈ o,z < B32) ∧ qs.length = nq ∧ (∀ z ∈ qs,z < B32) ∧ NDivAt B32 (A * 2 ^ s) V (m + 2) o qs (nq - i)) ∧
    wq.rowIs gu 74 (La + 1) (rowU o) ∧ wq.rowIs gq 74 nq (rowU qs) ∧ wq.rowIs gv 74 (m + 2 + 1) (rowU vs) ∧ Ext w4 wq) (fun s87 _ => nq - (intOf s87).toNat)
   case atStart =>
    obtain ⟨ro,hro⟩:∃ ro,ro = rep B32 (A * 2 ^ s):=⟨_,rfl⟩
    obtain ⟨o,ho⟩:∃ o,o = ro ++ List.replicate (La + 1 - lu) 0:=⟨_,rfl⟩
    have hrl:ro.length = lu:=by rw [hro]; exact HLU.out.symm
    have hol:o.length = La + 1:=by rw [ho,List.length_append,List.length_replicate,hrl]; omega
    have hob:∀ z ∈ o,z < B32:=by
     intro z hz
     rw [ho] at hz
     rcases List.mem_append.1 hz with h | h
     ·rw [hro] at h
      exact z3q z00 _ z h
     ·rw [(List.mem_replicate.1 h).2]; decide
    have hov:val B32 o = A * 2 ^ s:=by rw [ho,z3d,z5s,Nat.mul_zero,Nat.add_zero,hro,z0d z00]
    refine ⟨0,o,List.replicate nq 0,rfl,Nat.zero_le _,hid ⟨hol,hob,by simp,fun z hz => by rw [(List.mem_replicate.1 hz).2]; decide,?_⟩,?_,HQ0.out,HVW.out,HQX.out⟩
    ·have h1:=zhr (A:=A) (V:=V) (n:=m + 2) (La:=La) (s:=s) (Bv:=D) (lu:=0) (qs:=List.replicate nq 0) hob hol hov HLL.out.symm (by omega) hla1 HVE.out HL2.out (by simp; omega) rfl
     rwa [show La + 1 - (m + 2) = nq by omega] at h1
    ·rw [z8t (zuv hob _ hov)]
     exact HQU.out
   case round =>
    obtain ⟨i,o,qs,rfl,hi,HI,hrow,hrq,hrv,hx⟩:=hrel
    have HRO:=hid hrow
    have HRQ:=hid hrq
    have HRW:=hid hrv
    have HXQ:=hid hx
    by_cases hlt:i < nq
    ·obtain ⟨j,hj⟩:∃ j,j + 1 = nq - i:=⟨nq - i - 1,by omega⟩
     have hj2:(nq:Int) - 1 - (i:Int) = (j:Int):=by omega
     obtain ⟨p,hp⟩:∃ p,p = j + (m + 2) + 1:=⟨_,rfl⟩
     have hj3:(j:Int) + ((m:Int) + 2) + 1 = (p:Int):=by omega
     have hj4:p ≤ La + 1:=by omega
     have hj5:j ≤ p:=by omega
     have hj6:p - j = m + 2 + 1:=by omega
     have HP:=hid hp
     clear hp
     have HJ:=hid hj
     clear hrow hrq hrv hx
     have HO:=hid (And.intro HI.out.1 HI.out.2.1)
     have hkn:j + (m + 2) < o.length:=by rw [HO.out.1]; omega
     have HKN:=hid hkn
     have hcap:La + 1 ≤ 9223372036854775807:=by omega
     have hdiv:NDivAt B32 (A * 2 ^ s) V (m + 2) o qs (j + 1):=by rw [hj]; exact HI.out.2.2.2.2
     have HDIV:=hid hdiv
     have HUP:=hid (zrm HRO.out HO.out.2 hkn (by rw [HO.out.1]; omega) hcap)
     have HVP:Hid (U32s (fun j => j = gv) wr (.slice (some ⟨gv,0,none⟩) (m + 2) (m + 2 + 1)) vs):=hid (by
      have h1:=U32s.of_row HRW.out (by rw [HN.out.1]; omega) HVS.out.2 (by omega)
      rwa [HN.out.1] at h1)
     have CG:=hid (zmo (S:=Old wr) _ _ _ _ m wr (HUP.out.to (Kept.refl _ _) (fun k hk => by rw [hk]; exact HRO.out.lt)) (HVP.out.to (Kept.refl _ _) (fun k hk => by rw [hk]; exact HRW.out.lt)) (fun _ h => h) (z40 hkn) HN.out.1 HN.out.2
      (zy2 HO.out.2 HVS.out.2 hkn HN.out.1 HVS.out.1 hdiv.low))
     clear hkn hdiv hj
     go_wp2_with fail
     refine CG.out.mono ?_
     rintro e w7 ⟨q,r,rfl,hx7,hq7,ht7,hc7,hok7⟩
     have HX7:=hid hx7
     have HRO7:=hid (HRO.out.of_block (hx7.block gu HRO.out.lt))
     have HRQ7:=hid (HRQ.out.of_block (hx7.block gq HRQ.out.lt))
     have HRW7:=hid (HRW.out.of_block (hx7.block gv HRW.out.lt))
     have HVP7:=hid (HVP.out.to (Kept.ext hx7 (fun k hk => by rw [hk]; exact HRW.out.lt)) (fun k h => h))
     have HQ7:=hid (And.intro ht7 (And.intro hc7 hok7))
     have HQB:=hid hq7
     have CO:=hid (zvk (S:=fun j => j = gv) (w:=w7) (g:=gu) (k:=j) (n:=m + 2) (cap:=La + 1) (q:=q) (o:=o) (vs:=vs) _ HRO7.out (by rw [HO.out.1]; omega) HO.out.2 HKN.out HVP7.out (fun k hk => ⟨by rw [hk]; exact HRW7.out.lt,by rw [hk]; have:=HGV.out.2; have:=HGU.out.1; omega⟩) HN.out.1 hq7 hcap)
     clear hx7 hq7 ht7 hc7 hok7 CG
     go_wp2_with fail
     refine CO.out.mono ?_
     rintro e w8 ⟨ps,b,rfl,hb1,hpl,hps,hpv,hro8,hgb8,hsz8⟩
     have HP8:=hid (And.intro hpl (And.intro hps hpv))
     have HRO8:=hid hro8
     have HGB8:=hid (And.intro hgb8 hsz8)
     have HRQ8:=hid (HRQ7.out.of_block (hgb8.block gq HRQ7.out.lt (fun e => by have:=HGW.out; cases e; omega)))
     have HRW8:=hid (HRW7.out.of_block (hgb8.block gv HRW7.out.lt (fun e => by have:=HGV.out.2; have:=HGU.out.1; cases e; omega)))
     have HX8:=hid (z0n (HXQ.out.trans HX7.out) hgb8 (fun k hk => by cases hk; exact HGU.out.1))
     have HK:=hid (zkn HO.out.2 HVS.out.2 HKN.out (by rw [HI.out.2.2.1]; omega) HN.out.1 HVS.out.1 HN.out.2 HDIV.out HQ7.out.1 HQB.out HQ7.out.2.1 HQ7.out.2.2 hb1 hpl hps hpv)
     clear hpl hps hpv hro8 hgb8 hsz8 CO
     rcases (show b = 0 ∨ b = 1 by omega) with rfl | rfl
     ·have hd0:decide ((0:Nat) = 1) = false:=rfl
      have hq32:(q:Int) % 4294967296 = (q:Int):=by have h1:q < 4294967296:=HQB.out; omega
      have hcq:=HRQ8.out.cell (i:=j) (by omega)
      have hfq:=HRQ8.out.frozen j
      go_wp2
      refine ⟨⟨i + 1,putL o j ps,qs.set j q,rfl,by omega,hid ⟨?_,zn9 HO.out.2 HP8.out.2.1 j,by rw [List.length_set]; exact HI.out.2.2.1,ze1 HI.out.2.2.2.1 HQB.out,?_⟩,?_,?_,?_,?_⟩,?_⟩
      ·rw [zdv (by rw [HP8.out.1]; have:=HKN.out; omega)]; exact HO.out.1
      ·rw [show nq - (i + 1) = j by omega]
       exact HK.out.1 (by first | rfl | trivial)
      ·exact HRO8.out.setOther (by have:=HGW.out; show gu ≠ gq; omega) _
      ·exact z5d HRQ8.out j q (by rw [HI.out.2.2.1]; omega)
      ·exact HRW8.out.setOther (by have h1:=HGW.out; have h2:=HGV.out.2; have h3:=HGU.out.1; show gv ≠ gq; omega) _
      ·exact HX8.out.setCell HXS.out _
      ·simp only [intOf]; omega
     ·obtain ⟨hq0,hk⟩:=HK.out.2 rfl
      have HKK:=hid hk
      obtain ⟨q',hq'⟩:∃ q',q' = q - 1:=⟨_,rfl⟩
      have hq1:(q:Int) - 1 = (q':Int):=by omega
      have hqb':q' < B32:=by have:=HQB.out; omega
      have hq64:IntKind.u64.wrap (q':Int) = (q':Int):=z0w (Nat.lt_trans hqb' (by decide))
      have hq32:(q':Int) % 4294967296 = (q':Int):=by have h1:q' < 4294967296:=hqb'; omega
      have HQB':=hid hqb'
      have HQ':=hid hq'
      have hd0:decide ((1:Nat) = 1) = true:=rfl
      clear hqb' hk hq'
      have hol8:(putL o j ps).length = La + 1:=by rw [zdv (by rw [HP8.out.1]; have:=HKN.out; omega)]; exact HO.out.1
      have HVP8:=hid (HVP7.out.to (S':=fun k => k = gv) (show Kept (fun k => k = gv) w7 w8 from fun k hk => by rw [hk]; exact HGB8.out.1.block gv HRW7.out.lt (fun e => by have:=HGV.out.2; have:=HGU.out.1; cases e; omega)) (fun k h => h))
      have CN:=hid (zxz (S:=fun j => j = gv) (w:=w8) (g:=gu) (k:=j) (n:=m + 2) (cap:=La + 1) (o:=putL o j ps) (vs:=vs) (.slice (some ⟨gv,0,none⟩) (m + 2) (m + 2 + 1)) HRO8.out (by omega) (zn9 HO.out.2 HP8.out.2.1 j) (by omega) HVP8.out (fun k hk => ⟨by rw [hk]; exact HRW8.out.lt,by rw [hk]; have:=HGV.out.2; have:=HGU.out.1; omega⟩) HN.out.1 hcap)
      have HOL8:=hid hol8
      clear hol8
      go_wp2_with fail
      refine CN.out.mono ?_
      rintro e w9 ⟨rs,rfl,hrl,hrs,hrv9,hro9,hgb9,hsz9⟩
      rw [zrl HKN.out HP8.out.1] at hrv9
      rw [zvr HKN.out HP8.out.1 hrl] at hro9
      have HR9:=hid (And.intro hrl (And.intro hrs hrv9))
      have HRO9:=hid hro9
      have HRQ9:=hid (HRQ8.out.of_block (hgb9.block gq HRQ8.out.lt (fun e => by have:=HGW.out; cases e; omega)))
      have HRW9:=hid (HRW8.out.of_block (hgb9.block gv HRW8.out.lt (fun e => by have:=HGV.out.2; have:=HGU.out.1; cases e; omega)))
      have HX9:=hid (z0n HX8.out hgb9 (fun k hk => by cases hk; exact HGU.out.1))
      have hcq:=HRQ9.out.cell (i:=j) (by omega)
      have hfq:=HRQ9.out.frozen j
      clear hrl hrs hrv9 hro9 hgb9 hsz9 CN
      go_wp2
      refine ⟨⟨i + 1,putL o j rs,qs.set j q',rfl,by omega,hid ⟨?_,zn9 HO.out.2 HR9.out.2.1 j,by rw [List.length_set]; exact HI.out.2.2.1,ze1 HI.out.2.2.2.1 HQB'.out,?_⟩,?_,?_,?_,?_⟩,?_⟩
      ·rw [zdv (by rw [HR9.out.1]; have:=HKN.out; omega)]; exact HO.out.1
      ·rw [show nq - (i + 1) = j by omega,HQ'.out]
       exact HKK.out rs HR9.out.1 HR9.out.2.2
      ·exact HRO9.out.setOther (by have:=HGW.out; show gu ≠ gq; omega) _
      ·exact z5d HRQ9.out j q' (by rw [HI.out.2.2.1]; omega)
      ·exact HRW9.out.setOther (by have h1:=HGW.out; have h2:=HGV.out.2; have h3:=HGU.out.1; show gv ≠ gq; omega) _
      ·exact HX9.out.setCell HXS.out _
      ·simp only [intOf]; omega
    ·obtain rfl:i = nq:=by omega
     clear hrow hrq hrv hx
     obtain ⟨I1,I2,I3,I4,I5⟩:=HI.out
     rw [Nat.sub_self] at I5
     have hV0:0 < V:=by rw [HVE.out]; exact Nat.mul_pos HD0.out (Nat.pow_pos (by decide))
     obtain ⟨dq,dr⟩:=zmn hV0 I5
     have hs2:=zkc (a:=A) (b:=D) (c:=2 ^ s) (Nat.pow_pos (by decide))
     have hq:val B32 qs = A / D:=by rw [dq,HVE.out]; exact hs2.1
     have hrest:val B32 (o.take (m + 2)) / 2 ^ s = A % D:=by
      have h1:=z21 (B:=B32) o (m + 2)
      rw [I1,show min (m + 2) (La + 1) = m + 2 by omega] at h1
      have hVB:V < B32 ^ (m + 2):=by rw [← HVS.out.1,← HN.out.1]; exact z1k vs HVS.out.2
      have h2:val B32 o < V:=by rw [dr]; exact Nat.mod_lt _ hV0
      have h3:val B32 (o.drop (m + 2)) = 0:=by
       rcases Nat.eq_zero_or_pos (val B32 (o.drop (m + 2))) with h | h
       ·exact h
       ·have:=Nat.le_mul_of_pos_right (B32 ^ (m + 2)) h
        omega
      rw [h3,Nat.mul_zero,Nat.add_zero] at h1
      rw [← h1,dr,HVE.out,hs2.2,Nat.mul_div_cancel _ (Nat.pow_pos (by decide))]
     have hur:U32s (Old wr) wr (.slice (some ⟨gu,0,none⟩) (m + 2) (La + 1)) (o.take (m + 2)):=by
      have h1:=U32s.of_row HRO.out (by omega) I2 (by omega)
      rw [I1] at h1
      exact (h1.take (by omega)).to (Kept.refl _ _) (fun k hk => by rw [hk]; exact HRO.out.lt)
     have huq:U32s (fun k => k = gq) wr (.slice (some ⟨gq,0,none⟩) i i) qs:=by
      have h1:=U32s.of_row HRQ.out (by omega) I4 (by omega)
      rwa [I3] at h1
     have CR:=hid (zvl _ _ s wr hur (fun _ h => h) (by rw [List.length_take]; omega) hs32)
     rw [hrest] at CR
     have HUQ:=hid huq
     have HLQ:=hid I3
     have HQV:=hid hq
     clear I1 I2 I3 I4 I5 hV0 dq dr hs2 hq hrest hur huq
     go_wp2_with fail
     refine CR.out.mono ?_
     rintro e w7 ⟨v7,rfl,hu7,hx7⟩
     have HU7:=hid hu7
     have HX7:=hid hx7
     have CQ:=hid (z23 _ _ w7 (HUQ.out.to (S':=Old w7) (Kept.ext hx7 (fun k hk => by rw [hk]; exact HRQ.out.lt)) (fun k hk => by rw [hk]; exact Nat.lt_of_lt_of_le HRQ.out.lt hx7.size)) (fun _ h => h) (by have:=HLQ.out; omega))
     rw [HQV.out] at CQ
     clear hu7 hx7 CR
     go_wp2_with fail
     refine CQ.out.mono ?_
     rintro e w8 ⟨v8,rfl,hu8,hx8⟩
     have HU8:=hid hu8
     have HX8:=hid hx8
     clear hu8 hx8 CQ
     go_wp2
     all_goals
      go_ret3
      have x4:=HX4.out
      have x6:=HXQ.out
      have x7:=HX7.out
      have x8:=HX8.out
      refine ⟨_,_,rfl,HU8.out.to (Kept.refl _ _) (fun k h => ⟨Nat.le_trans (Nat.le_trans (Nat.le_trans x4.size x6.size) x7.size) h.1,h.2⟩),HU7.out.to (Kept.ext x8 (fun _ h => h.2)) (fun k h => ⟨Nat.le_trans (Nat.le_trans x4.size x6.size) h.1,Nat.lt_of_lt_of_le h.2 x8.size⟩),((x4.trans x6).trans x7).trans x8⟩
end
section
open Go.RowKit
theorem znr {S:Nat → Prop} (va vb:Value) (xs ys:List Nat) (w:World) (ha:U32s S w va xs) (hb:U32s S w vb ys) (hS:∀ k,S k → k < w.heap.size) (hr:xs.length ≤ 100000000000) (hr2:ys.length ≤ 100000000000) (h0:0 < val B32 ys) :
  Calls Tryz.prog 140 #[va,vb] w (ze7 (val B32 xs) (val B32 ys) w):=by
 by_cases hlt:val B32 xs < val B32 ys
 ·exact zky va vb xs ys w ha hb hS hr hr2 hlt
 ·by_cases h1:(rep B32 (val B32 ys)).length = 1
  ·exact zhz va vb xs ys w ha hb hS hr hr2 (by omega) h1
  ·have hl:0 < (rep B32 (val B32 ys)).length:=by
    rw [List.length_pos_iff,Ne,z2d z00]
    omega
   exact zi0 va vb xs ys w ha hb hS hr hr2 (by omega) ((rep B32 (val B32 ys)).length - 2) (by omega)
end
section
def sumP (g:PZ):Int:=(g.map (·.1)).foldr (· + ·) 0
def oneP (c:Int) (m:Mono):PZ:=if c = 0 then [] else [(c,m)]
inductive Coll:PZ → PZ → Prop where
 | nil:Coll [] []
 | group (t:Int × Mono) (g r q:PZ) (h:∀ u ∈ g,u.2 = t.2) (hr:∀ u ∈ r.head?,u.2 ≠ t.2) (k:Coll r q):Coll (t :: g ++ r) (oneP (t.1 + sumP g) t.2 ++ q)
theorem zw4 {g:PZ} {m:Mono} (h:∀ u ∈ g,u.2 = m) (m':Mono):cf g m' = if m = m' then sumP g else 0:=by
 induction g with
 | nil => simp [cf,sumP]
 | cons u g ih =>
  have h1:=h u (by simp)
  have h2:=ih (fun v hv => h v (by simp [hv]))
  rw [cf,h2,h1]
  have e:sumP (u :: g) = u.1 + sumP g:=rfl
  rw [e]
  split <;> omega
theorem zw5 (c:Int) (m m':Mono):cf (oneP c m) m' = if m = m' then c else 0:=by
 unfold oneP
 split
 ·rename_i h; subst h; simp [cf]
 ·simp [cf]
theorem zns {t:Int × Mono} {g r:PZ} (hm:z0k (t :: g ++ r)) (hf:(t :: g ++ r).Pairwise fun a b => 0 ≤ z0e a.2 b.2) (hr:∀ u ∈ r.head?,u.2 ≠ t.2):∀ u ∈ r,z0e t.2 u.2 = 1:=by
 have ht:=hm t (by simp)
 cases r with
 | nil => intro u hu; simp at hu
 | cons x r =>
  have hx:=hm x (by simp)
  have hne:=hr x (by simp)
  have h1:∀ u ∈ g ++ x :: r,0 ≤ z0e t.2 u.2:=(List.pairwise_cons.1 (show (t :: (g ++ x :: r)).Pairwise _ from hf)).1
  have hxt:z0e t.2 x.2 = 1:=by
   have:=h1 x (by simp)
   rcases z1n ht hx with g | g | g
   ·omega
   ·exact absurd ((z28 ht hx).1 g).symm hne
   ·exact g
  intro u hu
  rcases List.mem_cons.1 hu with rfl | hu'
  ·exact hxt
  ·have hu2:=hm u (by simp [hu'])
   have h2:0 ≤ z0e x.2 u.2:=by
    have:=(List.pairwise_append.1 (show ((t :: g) ++ (x :: r)).Pairwise _ from hf)).2.1
    exact (List.pairwise_cons.1 this).1 u hu'
   rcases z1n hx hu2 with k | k | k
   ·omega
   ·rw [← (z28 hx hu2).1 k]; exact hxt
   ·exact z3z ht hx hu2 hxt k
theorem Coll.can {p q:PZ} (h:Coll p q) (hm:z0k p) (hf:p.Pairwise fun a b => 0 ≤ z0e a.2 b.2):canP q ∧ (∀ m,cf q m = cf p m) ∧ ∀ u ∈ q,∃ v ∈ p,v.2 = u.2:=by
 induction h with
 | nil => exact ⟨z2u,fun _ => rfl,fun u hu => by simp at hu⟩
 | group t g r q hg hr k ih =>
  have hmr:z0k r:=fun u hu => hm u (by simp [hu])
  have hfr:=(List.pairwise_append.1 (show ((t :: g) ++ r).Pairwise _ from hf)).2.1
  obtain ⟨i1,i2,i3⟩:=ih hmr hfr
  have hhd:=zns hm hf hr
  have ht:=hm t (by simp)
  refine ⟨?_,fun m => ?_,fun u hu => ?_⟩
  ·unfold oneP
   split
   ·exact i1
   ·rename_i hne
    refine ⟨fun u hu => ?_,?_⟩
    ·rcases List.mem_append.1 hu with hu | hu
     ·rw [List.mem_singleton.1 hu]; exact ⟨hne,ht⟩
     ·exact i1.1 u hu
    ·refine List.pairwise_cons.2 ⟨fun u hu => ?_,i1.2⟩
     obtain ⟨v,hv,hvu⟩:=i3 u hu
     rw [← hvu]
     exact hhd v hv
  ·rw [zfd,zw5,i2,show t :: g ++ r = (t :: g) ++ r from rfl,zfd,cf,zw4 hg]
   split <;> omega
  ·rcases List.mem_append.1 hu with hu | hu
   ·unfold oneP at hu
    split at hu
    ·simp at hu
    ·rw [List.mem_singleton.1 hu]; exact ⟨t,by simp,rfl⟩
   ·obtain ⟨v,hv,hvu⟩:=i3 u hu
    exact ⟨v,by simp [hv],hvu⟩
theorem Coll.norm {p q l:PZ} (h:Coll p q) (hm:z0k p) (hf:p.Pairwise fun a b => 0 ≤ z0e a.2 b.2) (hp:p.Perm l):q = z1t l:=by
 obtain ⟨h1,h2,_⟩:=h.can hm hf
 have hl:z0k l:=fun t ht => hm t (hp.mem_iff.2 ht)
 exact zds h1 (z8s hl) (fun m _ => by rw [h2,zdt hl,zvi hp])
def lenI (z:Int):Nat:=(rep B32 z.natAbs).length
theorem z50 {z:Int} {k:Nat} (h:z.natAbs < B32 ^ k):lenI z ≤ k:=z0f z00 _ _ h
theorem zw6 (z:Int):z.natAbs < B32 ^ lenI z:=z0y z00 _
theorem z2y {z:Int} {j k:Nat} (h:lenI z ≤ j) (hk:j ≤ k):z.natAbs < B32 ^ k:=Nat.lt_of_lt_of_le (zw6 z) (Nat.pow_le_pow_right (by decide) (Nat.le_trans h hk))
theorem z5m (z:Int):(ofI z).mag.length = lenI z:=rfl
theorem z4j {r:RInt} (h:okI r):lenI (valI r) ≤ r.mag.length:=by
 refine z50 ?_
 have:=z1k (B:=B32) r.mag h
 unfold valI
 split <;> simpa using this
def bndZ (k:Nat) (p:PZ):Prop:=∀ t ∈ p,t.1.natAbs < B32 ^ k
theorem bndZ.mono {j k:Nat} {p:PZ} (h:bndZ j p) (hjk:j ≤ k):bndZ k p:=fun t ht => Nat.lt_of_lt_of_le (h t ht) (Nat.pow_le_pow_right (by decide) hjk)
theorem bndZ.append {k:Nat} {p q:PZ} (h:bndZ k p) (h':bndZ k q):bndZ k (p ++ q):=fun t ht => by
 rcases List.mem_append.1 ht with ht | ht
 ·exact h t ht
 ·exact h' t ht
theorem zy8 {k:Nat} {p:PZ} (h:bndZ k p) (m:Mono):(cf p m).natAbs ≤ p.length * B32 ^ k:=by
 induction p with
 | nil => simp [cf]
 | cons t r ih =>
  have h1:=h t (by simp)
  have h2:=ih (fun u hu => h u (by simp [hu]))
  simp only [cf,List.length_cons,Nat.add_mul,Nat.one_mul]
  generalize B32 ^ k = b at *
  generalize r.length * b = c at *
  split <;> omega
theorem zfy {k:Nat} {p:PZ} (hm:z0k p) (h:bndZ k p) (hl:p.length < B32 ^ 2):bndZ (k + 2) (z1t p):=by
 intro t ht
 have hc:=(z8s hm).cf_mem ht
 rw [zdt hm] at hc
 have:=zy8 h t.2
 rw [hc] at this
 refine Nat.lt_of_le_of_lt this ?_
 rw [Nat.pow_add,Nat.mul_comm]
 exact Nat.mul_lt_mul_of_pos_left hl (Nat.pow_pos (by decide))
theorem zi1 {z:Int} {g:PZ} {k:Nat} (h0:z.natAbs < B32 ^ k) (h:bndZ k g) (hl:g.length + 1 < B32 ^ 2):lenI (z + sumP g) ≤ k + 2:=by
 refine z50 ?_
 have h1:(sumP g).natAbs ≤ g.length * B32 ^ k:=by
  clear hl
  induction g with
  | nil => simp [sumP]
  | cons u g ih =>
   have h1:=h u (by simp)
   have h2:=ih (fun v hv => h v (by simp [hv]))
   have e:sumP (u :: g) = u.1 + sumP g:=rfl
   rw [e]
   simp only [List.length_cons,Nat.add_mul,Nat.one_mul]
   generalize B32 ^ k = b at *
   generalize g.length * b = c at *
   omega
 rw [Nat.pow_add,Nat.mul_comm]
 have h2:(g.length + 1) * B32 ^ k < B32 ^ 2 * B32 ^ k:=Nat.mul_lt_mul_of_lt_of_le hl (Nat.le_refl _) (Nat.pow_pos (by decide))
 refine Nat.lt_of_le_of_lt ?_ h2
 rw [Nat.add_mul,Nat.one_mul]
 omega
theorem znt (g:PZ) (t:Int × Mono):sumP (g ++ [t]) = sumP g + t.1:=by
 induction g with
 | nil => simp [sumP]
 | cons u g ih =>
  have e:∀ l,sumP (u :: l) = u.1 + sumP l:=fun _ => rfl
  rw [List.cons_append,e,e,ih]
  omega
end
section
open Go.RowKit
theorem zd9 {S:Nat → Prop} (va vb:Value) (xs ys:List Nat) (w:World) (ha:U32s S w va xs) (hb:U32s S w vb ys) (hS:∀ k,S k → k < w.heap.size) (hr:xs.length + ys.length ≤ 1000000000000) (hc:xs.length < 24 ∨ ys.length < 24) :
  Calls Tryz.prog 142 #[.int .i64 24,va,vb] w fun e w' => ∃ v',e = .returned v' ∧ U32s (New w w') w' v' (rep B32 (val B32 xs * val B32 ys)) ∧ Ext w w':=by
 have HC:=hid (zkh va vb xs ys w ha hb hS hr)
 have hla:=ha.len_le
 have hlb:=hb.len_le
 obtain ⟨aa,ca,rfl⟩:=ha.form
 obtain ⟨a2,cb,rfl⟩:=hb.form
 clear ha hb
 obtain ⟨n,hn⟩:∃ n,n = xs.length:=⟨_,rfl⟩
 obtain ⟨m,hm⟩:∃ n,n = ys.length:=⟨_,rfl⟩
 rw [← hn,← hm] at hc hr
 rw [← hn] at hla
 rw [← hm] at hlb
 rw [← hn,← hm] at HC ⊢
 clear hn hm
 go_enter Tryz.func142,Tryz.ntmps142
 rcases Nat.lt_or_ge n m with h | h
 ·have q0:min (n:Int) (m:Int) = (n:Int):=by omega
  have q1:(n:Int) < 24:=by omega
  go_wp2_with fail
  with_reducible refine HC.out.mono ?_
  rintro e w1 ⟨v1,rfl,hp1,hx1⟩
  have HP1:=hid hp1
  have HX1:=hid hx1
  clear hp1 hx1
  go_wp2
  all_goals
   go_ret
   exact ⟨_,rfl,HP1.out,HX1.out⟩
 ·rcases Nat.lt_or_ge m n with h2 | h2
  ·have q0:min (n:Int) (m:Int) = (m:Int):=by omega
   have q1:(m:Int) < 24:=by omega
   go_wp2_with fail
   with_reducible refine HC.out.mono ?_
   rintro e w1 ⟨v1,rfl,hp1,hx1⟩
   have HP1:=hid hp1
   have HX1:=hid hx1
   clear hp1 hx1
   go_wp2
   all_goals
    go_ret
    exact ⟨_,rfl,HP1.out,HX1.out⟩
  ·obtain rfl:n = m:=by omega
   have q1:(n:Int) < 24:=by omega
   go_wp2_with fail
   with_reducible refine HC.out.mono ?_
   rintro e w1 ⟨v1,rfl,hp1,hx1⟩
   have HP1:=hid hp1
   have HX1:=hid hx1
   clear hp1 hx1
   go_wp2
   all_goals
    go_ret
    exact ⟨_,rfl,HP1.out,HX1.out⟩
def lenN (n:Nat):Nat:=(rep B32 n).length
theorem z69 {zs:List Nat} (h:∀ z ∈ zs,z < B32):lenN (val B32 zs) ≤ zs.length:=z14 h
theorem z7k {a b k:Nat} (ha:lenN a + lenN b ≤ k):lenN (a * b) ≤ k:=by
 refine z0f z00 _ k (Nat.lt_of_lt_of_le (Nat.mul_lt_mul'' (z0y z00 a) (z0y z00 b)) ?_)
 rw [← Nat.pow_add]
 exact Nat.pow_le_pow_right (by decide) ha
theorem znu {S:Nat → Prop} (va vb:Value) (xs ys:List Nat) (w:World) (ha:U32s S w va xs) (hb:U32s S w vb ys) (hS:∀ k,S k → k < w.heap.size) (hr:xs.length + ys.length ≤ 1000000000000) (hc:lenN (val B32 xs) < 24 ∨ lenN (val B32 ys) < 24) :
  Calls Tryz.prog 125 #[va,vb] w fun e w' => ∃ v',e = .returned v' ∧ U32s (New w w') w' v' (rep B32 (val B32 xs * val B32 ys)) ∧ Ext w w':=by
 have C1:=hid (z23 va xs w ha hS (by omega))
 have C2:=hid (fun (W:World) (hW:Ext w W) => z23 vb ys W (hb.ext hW hS) (z08 hS hW) (by omega))
 have C3:=hid (fun (W:World) (u v:Value) (hu:U32s (Old W) W u (rep B32 (val B32 xs))) (hv:U32s (Old W) W v (rep B32 (val B32 ys))) => zd9 u v _ _ W hu hv (fun _ h => h) (by have:=z69 ha.lt; have:=z69 hb.lt; unfold lenN at *; omega) hc)
 simp only [z0d z00] at C3
 obtain ⟨aa,ca,rfl⟩:=ha.form
 obtain ⟨a2,cb,rfl⟩:=hb.form
 clear ha hb
 go_enter Tryz.func125,Tryz.ntmps125
 go_wp2_with fail
 with_reducible refine C1.out.mono ?_
 rintro e w1 ⟨v1,rfl,hp1,hx1⟩
 have HX1:=hid hx1
 have HP1:=hid (hp1.to (S':=Old w1) (Kept.refl _ _) New.lt)
 obtain ⟨a1,c1,rfl⟩:=hp1.form
 clear hp1 hx1
 go_wp2_with fail
 with_reducible refine (C2.out _ HX1.out).mono ?_
 rintro e w2 ⟨v2,rfl,hp2,hx2⟩
 have HX2:=hid (HX1.out.trans hx2)
 have C4:=hid (C3.out w2 _ v2 ((HP1.out.ext hx2 (fun _ h => h)).to (Kept.refl _ _) (fun k h => Nat.lt_of_lt_of_le h hx2.size)) (hp2.to (Kept.refl _ _) New.lt))
 obtain ⟨a3,c3,rfl⟩:=hp2.form
 clear hp2 hx2
 go_wp2_with fail
 with_reducible refine C4.out.mono ?_
 rintro e w3 ⟨v3,rfl,hp3,hx3⟩
 have HX3:=hid (HX2.out.trans hx3)
 have HP3:=hid (hp3.to (S':=New w w3) (Kept.refl _ _) (fun k h => ⟨Nat.le_trans HX2.out.size h.1,h.2⟩))
 clear hp3 hx3
 go_wp2
 all_goals
  go_ret
  exact ⟨_,rfl,HP3.out,HX3.out⟩
theorem zuz (xn yn:Bool) (a b:Nat):sg (xn != yn) (a * b) = sg xn a * sg yn b:=by
 unfold sg
 cases xn <;> cases yn <;> simp [Int.neg_mul,Int.mul_neg]
theorem znv {S:Nat → Prop} (vx vy:Value) (x y:RInt) (w:World) (hx:IntV S w vx x) (hy:IntV S w vy y) (hS:∀ k,S k → k < w.heap.size) (hr:x.mag.length ≤ 100000000000) (hr2:y.mag.length ≤ 100000000000)
  (hc:lenI (valI x) < 24 ∨ lenI (valI y) < 24) :
  Calls Tryz.prog 95 #[vx,vy] w fun e w' => ∃ v',e = .returned v' ∧ IntV (New w w') w' v' (ofI (valI x * valI y)) ∧ Ext w w':=by
 obtain ⟨xn,xs⟩:=x
 obtain ⟨yn,ys⟩:=y
 obtain ⟨vxm,rfl,hxu⟩:=hx
 obtain ⟨vym,rfl,hyu⟩:=hy
 simp only at hxu hyu hr hr2 ⊢
 have hc':lenN (val B32 xs) < 24 ∨ lenN (val B32 ys) < 24:=by
  have e1:lenI (valI ⟨xn,xs⟩) = lenN (val B32 xs):=by
   rw [← z5m]
   unfold ofI valI lenN
   cases xn <;> simp
  have e2:lenI (valI ⟨yn,ys⟩) = lenN (val B32 ys):=by
   rw [← z5m]
   unfold ofI valI lenN
   cases yn <;> simp
  rwa [e1,e2] at hc
 have HCL:=hid hc'
 have HX:=hid hxu
 have HY:=hid hyu
 obtain ⟨ax,cx,rfl⟩:=hxu.form
 obtain ⟨ay,cy,rfl⟩:=hyu.form
 clear hxu hyu hc hc'
 have HK:=hid (Ext.alloc (Ext.alloc (Ext.alloc (Ext.refl w) (.cells #[.bool xn,.slice ax xs.length cx] 30)) (.cells #[.bool yn,.slice ay ys.length cy] 30)) (.cells #[.bool false,.slice none 0 0] 30))
 have HXK:=hid (HX.out.ext HK.out hS)
 have HYK:=hid (HY.out.ext HK.out hS)
 have HSK:=hid (z08 hS HK.out)
 have hsz:w.heap.size + 1 + 1 < (((w.alloc (.cells #[.bool xn,.slice ax xs.length cx] 30)).alloc (.cells #[.bool yn,.slice ay ys.length cy] 30)).alloc (.cells #[.bool false,.slice none 0 0] 30)).heap.size:=by simp
 have HSZ:=hid hsz
 clear hsz
 have HQ:Hid (valI ⟨xn,xs⟩ * valI ⟨yn,ys⟩ = sg (xn != yn) (val B32 xs * val B32 ys)):=hid (by
  rw [zuz]
  rfl)
 obtain ⟨b1,b2,b3,b4⟩:=blk3 (Ext.refl (((w.alloc (.cells #[.bool xn,.slice ax xs.length cx] 30)).alloc (.cells #[.bool yn,.slice ay ys.length cy] 30)).alloc (.cells #[.bool false,.slice none 0 0] 30)))
 have c1:=b1 0 _ rfl
 have c2:=b1 1 _ rfl
 have c3:=b2 1 _ rfl
 have c4:=b2 0 _ rfl
 clear b1 b2 b3 b4
 have S0:=zkf c1 c2 c3
 have S0':=zkf c4 c4 c4
 have HS0:=hid (And.intro S0.1 (And.intro S0.2.1 (And.intro S0.2.2 S0'.1)))
 clear S0 S0' c1 c2 c3 c4
 go_enter Tryz.func95,Tryz.ntmps95
 go_wp2
 have S0:=HS0.out
 have HL:Hid ((rep B32 (val B32 xs * val B32 ys)).length ≤ 50000000000000):=hid (z7k (by have h1:=z69 HX.out.lt; have h2:=z69 HY.out.lt; omega))
 obtain ⟨xy,hxy⟩:∃ b,b = (xn != yn):=⟨_,rfl⟩
 rw [← hxy] at HQ
 have hxyq:(!(xn == yn)) = xy:=hxy.symm
 clear hxy
 go_region_held3 (fun W => W.cell? ⟨w.heap.size,0,none⟩ = some (.bool xn) ∧ W.cell? ⟨w.heap.size,1,none⟩ = some (.slice ax xs.length cx) ∧ W.cell? ⟨w.heap.size + 1,1,none⟩ = some (.slice ay ys.length cy) ∧ W.cell? ⟨w.heap.size + 1,0,none⟩ = some (.bool yn)) (first | exact S0 | exact S1 | exact S2 | exact ⟨z09 (z09 S2.1 (ab (by omega))) (ab (by omega)),z09 (z09 S2.2.1 (ab (by omega))) (ab (by omega)),z09 (z09 S2.2.2.1 (ab (by omega))) (ab (by omega)),z09 (z09 S2.2.2.2 (ab (by omega))) (ab (by omega))⟩)
  (first
   | (go_at_call 125; (with_reducible refine (znu _ _ xs ys _ (HX.out.ext (HK.out.drew) hS) (HY.out.ext (HK.out.drew) hS) (z08 hS (HK.out.drew)) (by omega) HCL.out).mono ?_); rintro e w1 ⟨v1,rfl,hu1,hx1⟩; have S1:=And.intro (hx1.cell S0.1) (And.intro (hx1.cell S0.2.1) (And.intro (hx1.cell S0.2.2.1) (hx1.cell S0.2.2.2))); have HX1:=hid hx1; have HU1:=hid hu1; obtain ⟨a1,n1,rfl⟩:=hu1.form; clear hx1 hu1)
   | (go_at_call 98; (with_reducible refine (z4h xy _ _ _ HU1.out New.lt HL.out).mono ?_); rintro e w2 ⟨v2,rfl,⟨vm2,rfl,hu2⟩,hx2⟩; have S2:=And.intro (hx2.cell S1.1) (And.intro (hx2.cell S1.2.1) (And.intro (hx2.cell S1.2.2.1) (hx2.cell S1.2.2.2))); have HX2:=hid hx2; have HU2:=hid hu2; obtain ⟨a2,n2,rfl⟩:=hu2.form; obtain ⟨-,-,d3,d4⟩:=blk3 ((Ext.drew (Ext.refl _)).trans (HX1.out.trans hx2)); have e0:=d3 0 _ rfl; have e1:=d3 1 _ rfl; have HE:=hid (And.intro e0 e1); have f0:=d4 0; have f1:=d4 1; clear d3 d4 hx2 hu2))
 all_goals
  go_wp2
  have hd:=fun x y => z19 x y HE.out.1 HE.out.2
  refine bodyPost_ret (by simp [results,Tryz.results95,go_sem,(hd _ _).1,(hd _ _).2]; rfl) rfl ?_
  have hg:=z33 (w0:=w) (b:=w.heap.size + 1 + 1) rfl HU2.out (HK.out.drew.trans HX1.out) HX2.out (by omega) (Nat.lt_of_lt_of_le HSZ.out HX1.out.size) (.bool (ofI (sg xy (val B32 xs * val B32 ys))).neg) (.slice a2 (ofI (sg xy (val B32 xs * val B32 ys))).mag.length n2)
  rw [HQ.out]
  exact ⟨_,rfl,hg.1,hg.2⟩
end
section
open Go.RowKit
theorem znw {S:Nat → Prop} (va vb:Value) (xs ys:List Nat) (w:World) (ha:U32s S w va xs) (hb:U32s S w vb ys) (hS:∀ k,S k → k < w.heap.size) (hr:xs.length ≤ 100000000000) (hr2:ys.length ≤ 100000000000) (h0:0 < val B32 ys) (hd:val B32 xs % val B32 ys = 0) :
  Calls Tryz.prog 141 #[va,vb] w fun e w' => ∃ v',e = .returned (.tuple #[v',.int .i64 0]) ∧ U32s (New w w') w' v' (rep B32 (val B32 xs / val B32 ys)) ∧ Ext w w':=by
 have C:=hid (znr va vb xs ys w ha hb hS hr hr2 h0)
 have HD:=hid hd
 clear ha hb h0 hd
 go_enter Tryz.func141,Tryz.ntmps141
 go_wp2_with fail
 refine C.out.mono ?_
 rintro e w1 ⟨vq,vr,rfl,hq,hr1,hx⟩
 rw [HD.out,z36] at hr1
 obtain ⟨a,c,rfl⟩:=hr1.form
 have HQ:=hid hq
 have HX:=hid hx
 clear hq hr1 hx
 go_wp2
 all_goals
  go_ret2
  exact ⟨_,rfl,HQ.out,HX.out⟩
theorem znx {S:Nat → Prop} (vx vy:Value) (x y:RInt) (w:World) (hx:IntV S w vx x) (hy:IntV S w vy y) (hS:∀ k,S k → k < w.heap.size) (hr:x.mag.length ≤ 10000000000) (hr2:y.mag.length ≤ 10000000000) :
  Calls Tryz.prog 122 #[vx,vy] w fun e w' => ∃ v',e = .returned v' ∧ IntV (New w w') w' v' (ofI (Int.gcd (valI x) (valI y):Nat)) ∧ Ext w w':=by
 obtain ⟨xn,xs⟩:=x
 obtain ⟨yn,ys⟩:=y
 obtain ⟨vxm,rfl,hxu⟩:=hx
 obtain ⟨vym,rfl,hyu⟩:=hy
 simp only at hxu hyu hr hr2 ⊢
 have HG:Hid (Int.gcd (valI ⟨xn,xs⟩) (valI ⟨yn,ys⟩) = Nat.gcd (val B32 xs) (val B32 ys)):=hid (by
  unfold valI
  cases xn <;> cases yn <;> simp [Int.gcd])
 rw [HG.out]
 have HX:=hid hxu
 have HY:=hid hyu
 obtain ⟨ax,cx,rfl⟩:=hxu.form
 obtain ⟨ay,cy,rfl⟩:=hyu.form
 have HLX:=hid (Nat.le_trans (z69 hxu.lt) hr)
 have HLY:=hid (Nat.le_trans (z69 hyu.lt) hr2)
 clear hxu hyu
 have HK:=hid (Ext.alloc (Ext.alloc (Ext.alloc (Ext.refl w) (.cells #[.bool xn,.slice ax xs.length cx] 30)) (.cells #[.bool yn,.slice ay ys.length cy] 30)) (.cells #[.bool false,.slice none 0 0] 30))
 have hsz:w.heap.size + 1 + 1 < (((w.alloc (.cells #[.bool xn,.slice ax xs.length cx] 30)).alloc (.cells #[.bool yn,.slice ay ys.length cy] 30)).alloc (.cells #[.bool false,.slice none 0 0] 30)).heap.size:=by simp
 have HSZ:=hid hsz
 clear hsz
 obtain ⟨b1,b2,b3,b4⟩:=blk3 (Ext.refl (((w.alloc (.cells #[.bool xn,.slice ax xs.length cx] 30)).alloc (.cells #[.bool yn,.slice ay ys.length cy] 30)).alloc (.cells #[.bool false,.slice none 0 0] 30)))
 have c2:=b1 1 _ rfl
 have c3:=b2 1 _ rfl
 clear b1 b2 b3 b4
 have S0':=zkf c2 c3 c3
 have HS0:=hid (And.intro S0'.1 S0'.2.1)
 clear S0' c2 c3
 go_enter Tryz.func122,Tryz.ntmps122
 go_wp2
 have S0:=HS0.out
 go_region_held3 (fun W => W.cell? ⟨w.heap.size,1,none⟩ = some (.slice ax xs.length cx) ∧ W.cell? ⟨w.heap.size + 1,1,none⟩ = some (.slice ay ys.length cy)) (first | exact S0 | exact S1 | exact S2 | exact ⟨z09 (z09 S2.1 (ab (by omega))) (ab (by omega)),z09 (z09 S2.2 (ab (by omega))) (ab (by omega))⟩)
  (first
   | (go_at_call 126; (with_reducible refine (z23 (.slice ax xs.length cx) xs _ (HX.out.ext (HK.out.drew) hS) (z08 hS (HK.out.drew)) (by omega)).mono ?_); rintro e w1 ⟨v1,rfl,hu1,hx1⟩; have S1:=And.intro (hx1.cell S0.1) (hx1.cell S0.2); have HX1:=hid (HK.out.drew.trans hx1); have HU1:=hid (hu1.to (S':=New w w1) (Kept.refl _ _) (New.mono HK.out.drew)); have HX1':=hid hx1; obtain ⟨a1,n1,rfl⟩:=hu1.form; clear hx1 hu1)
   | (go_at_call 126; (with_reducible refine (z23 (.slice ay ys.length cy) ys _ (HY.out.ext HX1.out hS) (z08 hS HX1.out) (by omega)).mono ?_); rintro e w2 ⟨v2,rfl,hu2,hx2⟩; have S2:=And.intro (hx2.cell S1.1) (hx2.cell S1.2); have HX2:=hid (HX1.out.trans hx2); have HX2':=hid (HX1'.out.trans hx2); have HU1':=hid (HU1.out.to (S':=New w w2) (Kept.ext hx2 New.lt) (fun k h => ⟨h.1,Nat.lt_of_lt_of_le h.2 hx2.size⟩)); have HU2:=hid (hu2.to (S':=New w w2) (Kept.refl _ _) (New.mono HX1.out)); obtain ⟨a2,n2,rfl⟩:=hu2.form; clear hx2 hu2))
 all_goals
  clear S0 S1 S2
  obtain ⟨w0,hw0⟩:∃ W,W = (((w.alloc (.cells #[.bool xn,.slice ax xs.length cx] 30)).alloc (.cells #[.bool yn,.slice ay ys.length cy] 30)).alloc (.cells #[.bool false,.slice none 0 0] 30)).drew:=⟨_,rfl⟩
  have HB:=hid (fun (W:World) (h:Ext w0 W) => by
   rw [hw0] at h
   obtain ⟨-,-,d3,d4⟩:=blk3 ((Ext.drew (Ext.refl _)).trans h)
   exact And.intro (d3 0 _ rfl) (And.intro (d3 1 _ rfl) (And.intro (d4 0) (d4 1))))
  have HSZ0:Hid (w.heap.size + 1 + 1 < w0.heap.size):=hid (by rw [hw0]; exact HSZ.out)
  have HX0:Hid (Ext w w0):=hid (by rw [hw0]; exact HK.out.drew)
  rw [← hw0] at HX2'
  obtain ⟨Y,hY⟩:∃ Y,Y = val B32 ys:=⟨_,rfl⟩
  obtain ⟨X,hX⟩:∃ X,X = val B32 xs:=⟨_,rfl⟩
  rw [← hX] at HU1' HLX ⊢
  rw [← hY] at HU2 HLY ⊢
  have HXE:=hid hX
  have HYE:=hid hY
  clear hw0 hX hY HX1' HSZ HS0 HG HK HX1 HU1
  go_wp2
  go_loopg [5,6] Y (fun k s5 s6 wr => ∃ (A:Nat) (a b:Option Addr) (ca cb:Nat),s5 = .slice a (rep B32 A).length ca ∧ s6 = .slice b (rep B32 k).length cb ∧ Hid (Nat.gcd A k = Nat.gcd X Y ∧ lenN A ≤ 10000000000 ∧ lenN k ≤ 10000000000 ∧ U32s (New w wr) wr (.slice a (rep B32 A).length ca) (rep B32 A) ∧ U32s (New w wr) wr (.slice b (rep B32 k).length cb) (rep B32 k) ∧ Ext w0 wr))
  case atStart => exact ⟨X,a1,a2,n1,n2,rfl,rfl,hid ⟨rfl,HLX.out,HLY.out,HU1'.out,HU2.out,HX2'.out⟩⟩
  case round =>
   obtain ⟨A,a,b,ca,cb,rfl,rfl,HI⟩:=hrel
   obtain ⟨lb,hlb⟩:∃ l,l = (rep B32 gk).length:=⟨_,rfl⟩
   obtain ⟨la,hla⟩:∃ l,l = (rep B32 A).length:=⟨_,rfl⟩
   rw [← hlb,← hla] at HI ⊢
   have HLB:=hid hlb
   have HLA:=hid hla
   clear hlb hla
   by_cases h0:gk = 0
   ·subst h0
    have hl0:lb = 0:=by rw [HLB.out]; rfl
    subst hl0
    obtain ⟨I1,I2,I3,I4,I5,I6⟩:=HI.out
    rw [Nat.gcd_zero_right] at I1
    rw [HLA.out] at I4
    have CM:=hid (z4h false _ A wr I4 New.lt (by unfold lenN at I2; omega))
    rw [← HLA.out] at CM
    have HA:=hid I1
    have HX6:=hid I6
    clear I1 I2 I3 I4 I5 I6
    go_wp2_with fail
    refine CM.out.mono ?_
    rintro e w3 ⟨v3,rfl,⟨vm3,rfl,hu3⟩,hx3⟩
    obtain ⟨f0,f1,f2,f3⟩:=HB.out w3 (HX6.out.trans hx3)
    have HX3:=hid hx3
    have HU3:=hid hu3
    have HE:=hid (And.intro f0 f1)
    obtain ⟨a3,n3,rfl⟩:=hu3.form
    clear hu3 hx3
    go_wp2
    all_goals
     have hd:=fun x y => z19 x y HE.out.1 HE.out.2
     refine bodyPost_ret (by simp [results,Tryz.results122,go_sem,(hd _ _).1,(hd _ _).2]; rfl) rfl ?_
     have hg:=z33 (w0:=w) (b:=w.heap.size + 1 + 1) rfl HU3.out (HX0.out.trans HX6.out) HX3.out (by omega) (Nat.lt_of_lt_of_le HSZ0.out HX6.out.size) (.bool (ofI (sg false A)).neg) (.slice a3 (ofI (sg false A)).mag.length n3)
     have e:((Nat.gcd X Y:Nat):Int) = sg false A:=by rw [← HA.out]; rfl
     rw [← HXE.out,← HYE.out,e]
     exact ⟨_,rfl,hg.1,hg.2⟩
   ·have hl0:0 < lb:=by
     rw [HLB.out,List.length_pos_iff,Ne,z2d z00]
     exact h0
    obtain ⟨I1,I2,I3,I4,I5,I6⟩:=HI.out
    have hgk:0 < gk:=by omega
    have CD:=hid (znr (S:=New w wr) _ _ _ _ wr I4 I5 New.lt (by unfold lenN at I2; omega) (by unfold lenN at I3; omega) (by rw [z0d z00]; omega))
    rw [z0d z00,z0d z00] at CD
    have HI1:=hid (And.intro I1 I3)
    have HI5:=hid I5
    have HX6:=hid I6
    have H0:=hid hgk
    clear h0 I1 I2 I3 I4 I5 I6 hgk
    go_wp2_with fail
    refine CD.out.mono ?_
    rintro e w3 ⟨vq,vr,rfl,hq,hr3,hx3⟩
    have HR3:=hid (hr3.to (S':=New w w3) (Kept.refl _ _) (New.mono (HX0.out.trans HX6.out)))
    have HX3:=hid hx3
    have HB3:=hid (HI5.out.to (S':=New w w3) (Kept.ext hx3 New.lt) (fun k h => ⟨h.1,Nat.lt_of_lt_of_le h.2 hx3.size⟩))
    obtain ⟨ar,nr,rfl⟩:=hr3.form
    clear hq hr3 hx3
    go_wp2
    go_roundg (A % gk)
    case measure => exact Nat.mod_lt _ H0.out
    case rel =>
     refine ⟨gk,b,ar,cb,nr,by rw [HLB.out],rfl,hid ⟨?_,HI1.out.2,?_,?_,HR3.out,HX6.out.trans HX3.out⟩⟩
     ·rw [← HI1.out.1,Nat.gcd_comm A gk,Nat.gcd_rec gk A,Nat.gcd_comm]
     ·exact Nat.le_trans (z1o (Nat.le_of_lt (Nat.mod_lt _ H0.out))) HI1.out.2
     ·rw [← HLB.out]; exact HB3.out
end
section
open Go.RowKit
theorem zrx {xn yn:Bool} {a d:Nat} {q:Int} (hd:0 < d) (h:sg xn a = q * sg yn d):a % d = 0 ∧ sg (xn != yn) (a / d) = q:=by
 have key:∀ p:Int,(a:Int) = p * (d:Int) → a % d = 0 ∧ ((a / d:Nat):Int) = p:=by
  intro p hp
  have hd0:(d:Int) ≠ 0:=by omega
  refine ⟨?_,?_⟩
  ·have h1:((a % d:Nat):Int) = 0:=by rw [Int.natCast_emod,hp,Int.mul_emod_left]
   omega
  ·rw [Int.natCast_ediv,hp,Int.mul_ediv_cancel _ hd0]
 unfold sg at h ⊢
 cases xn <;> cases yn <;> simp only [if_true,if_false,Bool.false_eq_true,bne_self_eq_false,Bool.true_bne,Bool.false_bne,Bool.not_true,Bool.not_false] at h ⊢
 ·exact key q h
 ·obtain ⟨h1,h2⟩:=key (-q) (by rw [h,Int.mul_neg,Int.neg_mul])
  exact ⟨h1,by rw [h2,Int.neg_neg]⟩
 ·obtain ⟨h1,h2⟩:=key (-q) (by rw [Int.neg_mul,← h,Int.neg_neg])
  exact ⟨h1,by rw [h2,Int.neg_neg]⟩
 ·refine key q ?_
  rw [Int.mul_neg] at h
  omega
theorem zbi {S:Nat → Prop} (vx vy:Value) (x y:RInt) (w:World) (hx:IntV S w vx x) (hy:IntV S w vy y) (hS:∀ k,S k → k < w.heap.size) (hr:x.mag.length ≤ 10000000000) (hr2:y.mag.length ≤ 10000000000) (q:Int) (h0:valI y ≠ 0) (hq:valI x = q * valI y) :
  Calls Tryz.prog 124 #[vx,vy] w fun e w' => ∃ v',e = .returned (.tuple #[v',.int .i64 0]) ∧ IntV (New w w') w' v' (ofI q) ∧ Ext w w':=by
 obtain ⟨xn,xs⟩:=x
 obtain ⟨yn,ys⟩:=y
 obtain ⟨vxm,rfl,hxu⟩:=hx
 obtain ⟨vym,rfl,hyu⟩:=hy
 simp only at hxu hyu hr hr2 ⊢
 have hd0:0 < val B32 ys:=by
  rcases Nat.eq_zero_or_pos (val B32 ys) with h | h
  ·exact absurd (by unfold valI; simp [h]) h0
  ·exact h
 have HQ:=hid (zrx hd0 (show sg xn (val B32 xs) = q * sg yn (val B32 ys) from hq))
 have HX:=hid hxu
 have HY:=hid hyu
 obtain ⟨ax,cx,rfl⟩:=hxu.form
 obtain ⟨ay,cy,rfl⟩:=hyu.form
 have HLX:=hid (Nat.le_trans (z69 hxu.lt) hr)
 obtain ⟨w0,hw0⟩:∃ W,W = (((w.alloc (.cells #[.bool xn,.slice ax xs.length cx] 30)).alloc (.cells #[.bool yn,.slice ay ys.length cy] 30)).alloc (.cells #[.bool false,.slice none 0 0] 30)):=⟨_,rfl⟩
 have HX0:Hid (Ext w w0):=hid (by rw [hw0]; exact Ext.alloc (Ext.alloc (Ext.alloc (Ext.refl w) _) _) _)
 have HSZ:Hid (w.heap.size + 1 + 1 < w0.heap.size):=hid (by rw [hw0]; simp)
 have HB:=hid (fun (W:World) (h:Ext w0 W) => by
  rw [hw0] at h
  exact blk3 h)
 have CD:=hid (znw (S:=S) (.slice ax xs.length cx) (.slice ay ys.length cy) xs ys w0 (hxu.ext HX0.out hS) (hyu.ext HX0.out hS) (z08 hS HX0.out) (by omega) (by omega) hd0 HQ.out.1)
 have HD0:=hid hd0
 obtain ⟨b1,b2,-,-⟩:=HB.out w0 (Ext.refl _)
 have c1:=b1 0 _ rfl
 have c2:=b1 1 _ rfl
 have c3:=b2 0 _ rfl
 have c4:=b2 1 _ rfl
 rw [hw0] at c1 c2 c3 c4 CD
 clear hxu hyu h0 hq hd0 b1 b2
 have HW0:=hid hw0
 clear hw0
 go_enter Tryz.func124,Tryz.ntmps124
 go_wp2_with fail
 refine CD.out.mono ?_
 rintro e w1 ⟨v1,rfl,hu1,hx1⟩
 rw [← HW0.out] at hu1 hx1
 obtain ⟨b1,b2,b3,b4⟩:=HB.out w1 hx1
 have d1:=b1 0 _ rfl
 have d3:=b2 0 _ rfl
 have HX1:=hid hx1
 have HL1:Hid ((rep B32 (val B32 xs / val B32 ys)).length ≤ 50000000000000):=hid (by
  have h1:=z1o (Nat.div_le_self (val B32 xs) (val B32 ys))
  have h2:=HLX.out
  unfold lenN at h2
  omega)
 have CM:=hid (z4h (xn != yn) _ _ w1 hu1 New.lt HL1.out)
 rw [HQ.out.2] at CM
 obtain ⟨xy,hxy⟩:∃ b,b = (xn != yn):=⟨_,rfl⟩
 rw [← hxy] at CM
 have hxyq:(!(xn == yn)) = xy:=hxy.symm
 obtain ⟨a1,n1,rfl⟩:=hu1.form
 clear hu1 hx1 b1 b2 b3 b4 hxy
 go_wp2_with fail
 refine CM.out.mono ?_
 rintro e w2 ⟨v2,rfl,⟨vm2,rfl,hu2⟩,hx2⟩
 obtain ⟨-,-,b3,b4⟩:=HB.out w2 (HX1.out.trans hx2)
 have e0:=b3 0 _ rfl
 have e1:=b3 1 _ rfl
 have f0:=b4 0
 have f1:=b4 1
 have HX2:=hid hx2
 have HU2:=hid hu2
 have HE:=hid (And.intro e0 e1)
 obtain ⟨a2,n2,rfl⟩:=hu2.form
 clear hu2 hx2 b3 b4
 go_wp2
 all_goals
  have hd:=fun x y => z19 x y HE.out.1 HE.out.2
  refine bodyPost_ret (by simp [results,Tryz.results124,go_sem,(hd _ _).1,(hd _ _).2]; rfl) rfl ?_
  have hg:=z33 (w0:=w) (b:=w.heap.size + 1 + 1) rfl HU2.out (HX0.out.trans HX1.out) HX2.out (by omega) (Nat.lt_of_lt_of_le HSZ.out HX1.out.size) (.bool (ofI q).neg) (.slice a2 (ofI q).mag.length n2)
  exact ⟨_,rfl,hg.1,hg.2⟩
end
section
open Go.RowKit
theorem zny {B:Nat} {l:List Nat} {i d:Nat} (hi:i < l.length):val B (l.set i d) + B ^ i * dg l i = val B l + B ^ i * d:=by
 have h1:=z21 (B:=B) l i
 have h2:=z21 (B:=B) (l.set i d) i
 rw [List.length_set,show min i l.length = i by omega] at h2
 rw [show min i l.length = i by omega] at h1
 rw [List.take_set_of_le (by omega)] at h2
 rw [z1b] at h1 h2
 have e1:dg (l.set i d) i = d:=by unfold dg; rw [List.getElem?_set]; simp [hi]
 have e2:(l.set i d).drop (i + 1) = l.drop (i + 1):=by rw [List.drop_set_of_lt (by omega)]
 rw [e1,e2] at h2
 rw [h1,h2,Nat.mul_add,Nat.mul_add]
 omega
theorem znz {o oi bs:List Nat} {at_ i c x u:Nat} (hl:i < oi.length) (hai:at_ ≤ i) (h:val B32 oi + B32 ^ i * c = val B32 o + B32 ^ at_ * val B32 (bs.take (i - at_))) (hx:dg bs (i - at_) = x) (hu:dg oi i = u) :
  val B32 (oi.set i ((c + u + x) % B32)) + B32 ^ (i + 1) * ((c + u + x) / B32) = val B32 o + B32 ^ at_ * val B32 (bs.take (i + 1 - at_)):=by
 have h1:=zny (B:=B32) (d:=(c + u + x) % B32) hl
 rw [hu] at h1
 have e:i + 1 - at_ = (i - at_) + 1:=by omega
 rw [e,z1s,hx,Nat.mul_add,← Nat.mul_assoc,← Nat.pow_add,show at_ + (i - at_) = i by omega,Nat.pow_succ,Nat.mul_assoc]
 have h2:B32 ^ i * (B32 * ((c + u + x) / B32) + (c + u + x) % B32) = B32 ^ i * (c + u + x):=by rw [Nat.div_add_mod]
 rw [Nat.mul_add,Nat.mul_add,Nat.mul_add] at h2
 omega
theorem zry {o oi bs:List Nat} {at_ c cap:Nat} (ha:at_ ≤ cap) (hoi:∀ z ∈ oi,z < B32) (has:∀ z ∈ bs,z < B32) (lo:oi.length = cap) (h:val B32 oi + B32 ^ cap * c = val B32 o + B32 ^ at_ * val B32 (bs.take (cap - at_))) (hroom:val B32 o + B32 ^ at_ * val B32 bs < B32 ^ cap) :
  val B32 oi = val B32 o + B32 ^ at_ * val B32 bs:=by
 have hs:=z21 (B:=B32) bs (cap - at_)
 have hP:0 < B32 ^ at_:=Nat.pow_pos (by decide)
 have hz:val B32 bs = val B32 (bs.take (cap - at_)):=by
  by_cases hl:cap - at_ ≤ bs.length
  ·rw [Nat.min_eq_left hl] at hs
   have h1:B32 ^ at_ * val B32 bs < B32 ^ at_ * B32 ^ (cap - at_):=by rw [← Nat.pow_add,show at_ + (cap - at_) = cap by omega]; omega
   have h2:=Nat.lt_of_mul_lt_mul_left h1
   rcases Nat.eq_zero_or_pos (val B32 (bs.drop (cap - at_))) with h3 | h3
   ·rw [h3,Nat.mul_zero,Nat.add_zero] at hs
    exact hs
   ·have:=Nat.le_mul_of_pos_right (B32 ^ (cap - at_)) h3
    omega
  ·rw [List.take_of_length_le (by omega)]
 rw [← hz] at h
 rcases Nat.eq_zero_or_pos c with h3 | h3
 ·rw [h3,Nat.mul_zero,Nat.add_zero] at h
  exact h
 ·have:=Nat.le_mul_of_pos_right (B32 ^ cap) h3
  omega
theorem z9m {S:Nat → Prop} {w:World} {g cap at_:Nat} {o bs:List Nat} (va:Value) (hrow:w.rowIs g 74 cap (rowU o)) (lo:o.length = cap) (hol:∀ z ∈ o,z < B32) (hv:U32s S w va bs) (hS:∀ j,S j → j < w.heap.size ∧ j ≠ g) (ha:at_ ≤ cap) (hcap:cap ≤ 1000000000000) (hla:bs.length ≤ 1000000000000)
  (hroom:val B32 o + B32 ^ at_ * val B32 bs < B32 ^ cap) :
  Calls Tryz.prog 168 #[.slice (some ⟨g,0,none⟩) cap cap,va,.int .i64 (at_:Nat)] w fun e w' => ∃ o':List Nat,e = .returned (.tuple #[]) ∧ o'.length = cap ∧ (∀ z ∈ o',z < B32) ∧ val B32 o' = val B32 o + B32 ^ at_ * val B32 bs ∧
   w'.rowIs g 74 cap (rowU o') ∧ w.grownBy w' (some g) ∧ w'.heap.size = w.heap.size:=by
 have HROW:=hid hrow
 have HOL:=hid (And.intro lo hol)
 have HV:=hid hv
 have HRM:=hid hroom
 have HAL:=hid hv.lt
 obtain ⟨av,cv,rfl⟩:=hv.form
 obtain ⟨la,hl⟩:∃ la,la = bs.length:=⟨_,rfl⟩
 rw [← hl] at HV hla ⊢
 have HLL:=hid hl
 clear hrow hol lo hv hroom hl
 go_enter Tryz.func168,Tryz.ntmps168
 go_wp2
 go_loopw [6,7] (fun s6 s7 wr => ∃ (i c:Nat) (oi:List Nat),s6 = .int .u64 (c:Nat) ∧ s7 = .int .i64 (i:Nat) ∧ at_ ≤ i ∧ i ≤ cap ∧ c ≤ 1 ∧ Hid (oi.length = cap ∧ (∀ z ∈ oi,z < B32) ∧ val B32 oi + B32 ^ i * c = val B32 o + B32 ^ at_ * val B32 (bs.take (i - at_))) ∧
  wr.rowIs g 74 cap (rowU oi) ∧ w.grownBy wr (some g) ∧ wr.heap.size = w.heap.size) (fun _ s7 _ => cap - (intOf s7).toNat)
 case atStart => exact ⟨at_,0,o,rfl,rfl,Nat.le_refl _,ha,by omega,hid ⟨HOL.out.1,HOL.out.2,by simp [val]⟩,HROW.out,zhm _ _,rfl⟩
 case round =>
  obtain ⟨i,c,oi,rfl,rfl,hi1,hi2,hc,HI,hrow,hgb,hsz⟩:=hrel
  have HR:=hid hrow
  have HG:=hid (And.intro hgb hsz)
  clear hrow hgb hsz
  by_cases hlt:i < cap
  ·obtain ⟨u,hu⟩:∃ u,u = dg oi i:=⟨_,rfl⟩
   have hul:u < 4294967296:=by rw [hu]; exact zk4 (by decide) HI.out.2.1 _
   have hcu:wr.cell? ⟨g,i,none⟩ = some (.int .u32 (u:Nat)):=by
    rw [HR.out.cell (i:=i) hlt,hu]
    rfl
   have hfu:=HR.out.frozen i
   have hu64:IntKind.u64.wrap (u:Int) = (u:Int):=z0w (Nat.lt_trans hul (by decide))
   have HU:=hid (And.intro hu hul)
   obtain ⟨j,hj⟩:∃ j,i = at_ + j:=⟨i - at_,by omega⟩
   have hij:(i:Int) - (at_:Int) = (j:Int):=by omega
   have hj2:i - at_ = j:=by omega
   have HJ:=hid (And.intro hj hj2)
   have fin:∀ t c' d:Nat,∀ x,dg bs j = x → t = c + u + x → d = t % B32 → c' = t / B32 → c' ≤ 1 →
     (∃ (i_1 c_1:Nat) (oi_1:List Nat),Value.int IntKind.u64 (c':Nat) = Value.int IntKind.u64 (c_1:Nat) ∧ Value.int IntKind.i64 ((i:Int) + 1) = Value.int IntKind.i64 (i_1:Nat) ∧ at_ ≤ i_1 ∧ i_1 ≤ cap ∧ c_1 ≤ 1 ∧
      Hid (oi_1.length = cap ∧ (∀ z ∈ oi_1,z < B32) ∧ val B32 oi_1 + B32 ^ i_1 * c_1 = val B32 o + B32 ^ at_ * val B32 (bs.take (i_1 - at_))) ∧
      (wr.setCell ⟨g,i,none⟩ (.int .u32 (d:Nat))).rowIs g 74 cap (rowU oi_1) ∧ w.grownBy (wr.setCell ⟨g,i,none⟩ (.int .u32 (d:Nat))) (some g) ∧ (wr.setCell ⟨g,i,none⟩ (.int .u32 (d:Nat))).heap.size = w.heap.size):=by
    intro t c' d x hx ht hd hc' hcc
    refine ⟨i + 1,c',oi.set i d,rfl,rfl,by omega,by omega,hcc,hid ⟨by rw [List.length_set]; exact HI.out.1,ze1 HI.out.2.1 (by rw [hd]; exact Nat.mod_lt _ (by decide)),?_⟩,z5d HR.out i d (by rw [HI.out.1]; exact hlt),zfh HG.out.1 rfl _,by rw [z07]; exact HG.out.2⟩
    have h1:=znz (o:=o) (oi:=oi) (bs:=bs) (at_:=at_) (i:=i) (c:=c) (x:=x) (u:=u) (by rw [HI.out.1]; exact hlt) hi1 HI.out.2.2 (by rw [hj2]; exact hx) hu.symm
    rw [← ht,← hd,← hc'] at h1
    exact h1
   have FIN:=hid fin
   have hc64:c < 18446744073709551616:=by omega
   clear fin hu hj
   by_cases hx:j < la
   ·obtain ⟨x,hx1⟩:=z01 (l:=bs) (j:=j) (by rw [← HLL.out]; exact hx)
    obtain ⟨b1,o1,rfl,-,hn1,hm1,hs1,hxb,hcx⟩:=(HV.out.to (show Kept S w wr from fun k hk => HG.out.1.block k (hS k hk).1 (fun e => (hS k hk).2 (Option.some.inj e))) (fun _ h => h)).cellAt hx1
    have hx64:IntKind.u64.wrap (x:Int) = (x:Int):=z0w (Nat.lt_trans hxb (by decide))
    obtain ⟨t0,ht0⟩:∃ t,t = c + u:=⟨_,rfl⟩
    obtain ⟨t,ht⟩:∃ t,t = c + u + x:=⟨_,rfl⟩
    have hw1:IntKind.u64.wrap ((c:Int) + (u:Int)) = (t0:Int):=by rw [IntKind.wrap_u64]; omega
    have hw2:IntKind.u64.wrap ((t0:Int) + (x:Int)) = (t:Int):=by rw [IntKind.wrap_u64]; omega
    have hd1:(t:Int) % 4294967296 = ((t % B32:Nat):Int):=by show _ = ((t % 4294967296:Nat):Int); omega
    have hd2:(t:Int) / 4294967296 = ((t / B32:Nat):Int):=by show _ = ((t / 4294967296:Nat):Int); omega
    have hd3:t / B32 ≤ 1:=by show t / 4294967296 ≤ 1; omega
    obtain ⟨d,hd⟩:∃ d,d = t % B32:=⟨_,rfl⟩
    obtain ⟨c',hc'⟩:∃ d,d = t / B32:=⟨_,rfl⟩
    rw [← hd] at hd1
    rw [← hc'] at hd2 hd3
    have HX1:=hid (z0o hx1)
    have HT:=hid (And.intro ht (And.intro hd (And.intro hc' hd3)))
    clear hx1 hxb hul ht0 ht hd hc' hd3
    go_wp2
    exact ⟨FIN.out t c' d x HX1.out HT.out.1 HT.out.2.1 HT.out.2.2.1 HT.out.2.2.2,by simp only [intOf]; omega⟩
   ·have HX1:Hid (dg bs j = 0):=hid (z2n (by rw [← HLL.out]; omega))
    by_cases h0:c = 0
    ·subst h0
     have hend:val B32 oi = val B32 o + B32 ^ at_ * val B32 bs:=by
      have h1:=HI.out.2.2
      rw [Nat.mul_zero,Nat.add_zero,hj2,List.take_of_length_le (by rw [← HLL.out]; omega)] at h1
      exact h1
     have HE:=hid hend
     clear hend
     go_wp2
     all_goals
      first | go_end0 | refine bodyPost_ret (results_none rfl _ _ _) rfl ?_
      exact ⟨oi,rfl,HI.out.1,HI.out.2.1,HE.out,HR.out,HG.out.1,HG.out.2⟩
    ·obtain rfl:c = 1:=by omega
     obtain ⟨t,ht⟩:∃ t,t = 1 + u:=⟨_,rfl⟩
     have hw1:IntKind.u64.wrap (1 + (u:Int)) = (t:Int):=by rw [IntKind.wrap_u64]; omega
     have hd1:(t:Int) % 4294967296 = ((t % B32:Nat):Int):=by show _ = ((t % 4294967296:Nat):Int); omega
     have hd2:(t:Int) / 4294967296 = ((t / B32:Nat):Int):=by show _ = ((t / 4294967296:Nat):Int); omega
     have hd3:t / B32 ≤ 1:=by show t / 4294967296 ≤ 1; omega
     obtain ⟨d,hd⟩:∃ d,d = t % B32:=⟨_,rfl⟩
     obtain ⟨c',hc'⟩:∃ d,d = t / B32:=⟨_,rfl⟩
     rw [← hd] at hd1
     rw [← hc'] at hd2 hd3
     have HT:=hid (And.intro ht (And.intro hd (And.intro hc' hd3)))
     clear hul ht hd hc' hd3
     go_wp2
     exact ⟨FIN.out t c' d 0 HX1.out HT.out.1 HT.out.2.1 HT.out.2.2.1 HT.out.2.2.2,by simp only [intOf]; omega⟩
  ·obtain rfl:i = cap:=by omega
   have HE:=hid (zry ha HI.out.2.1 HAL.out HI.out.1 HI.out.2.2 HRM.out)
   go_wp2
   all_goals
    first | go_end0 | refine bodyPost_ret (results_none rfl _ _ _) rfl ?_
    exact ⟨oi,rfl,HI.out.1,HI.out.2.1,HE.out,HR.out,HG.out.1,HG.out.2⟩
end
section
open Go.RowKit
theorem z8v {a w:World} (h:Ext a w) (n:Nat):Ext a (w.drewN n):=⟨h.os,h.tape,h.output,h.size,h.block⟩
theorem U32s.drop {S:Nat → Prop} {w:World} {zs:List Nat} {a a':Option Addr} {n cap k:Nat} (h:U32s S w (.slice a n cap) zs) (hk:k ≤ n) (ha:k < n → ∃ p,a = some p ∧ a' = some (p.add k)):U32s S w (.slice a' (n - k) (cap - k)) (zs.drop k):=by
 obtain ⟨b,off,⟨a1,cap',h1,h2,h3,h4,h5⟩,hc⟩:=h
 obtain ⟨rfl,rfl,rfl⟩:a = a1 ∧ n = zs.length ∧ cap = cap':=by simpa using h1
 have hl:(zs.drop k).length = zs.length - k:=by rw [List.length_drop]
 refine ⟨b,off + k,⟨a',cap - k,by rw [hl],by omega,Nat.le_trans (Nat.sub_le _ _) h3,fun h => ?_,fun h => h5 (by omega)⟩,fun j z hz => ?_⟩
 ·obtain ⟨p,hp,hp2⟩:=ha (by omega)
  have h6:=h4 (by omega)
  rw [hp] at h6
  rw [hp2,Option.some.inj h6]
  unfold Addr.add
  split
  ·rename_i h7
   rw [h7]
   rfl
  ·rfl
 ·rw [List.getElem?_drop] at hz
  have:=hc _ _ hz
  rw [Nat.add_assoc]
  exact this
theorem zfz {S:Nat → Prop} {w:World} (v:Value) (zs:List Nat) (n:Nat) (h:U32s S w v zs) (hn:n ≤ 1000000000000) (hl:zs.length ≤ 1000000000000) :
  Calls Tryz.prog 167 #[v,.int .i64 (n:Nat)] w fun e w' => ∃ v0 v1,e = .returned (.tuple #[v0,v1]) ∧ U32s S w' v0 (zs.take n) ∧ U32s S w' v1 (zs.drop n) ∧ Ext w w':=by
 have H:=hid h
 obtain ⟨b,off,⟨a,c,hv,hc1,hc2,ha,hs⟩,hcell⟩:=h
 subst hv
 obtain ⟨l,hlz⟩:∃ l,l = zs.length:=⟨_,rfl⟩
 rw [← hlz] at hl hc1 H ha hs ⊢
 have hc3:c ≤ 9223372036854775807:=hc2
 obtain ⟨k,hk⟩:∃ k,k = min n l:=⟨_,rfl⟩
 have hk2:min (n:Int) (l:Int) = (k:Int):=by omega
 have hk3:k ≤ l:=by omega
 have hk4:k ≤ c:=by omega
 have HK:=hid hk
 have HL:=hid hlz
 have HC:=hid (And.intro ha (And.intro hs hcell))
 have hc2:=hid hc2
 clear hlz ha hs hcell hk hn
 have HD:=hid (fun (m:Nat) (v:Value) (ds:List Nat) (h:U32s S w v ds) => (h.to (show Kept S w (w.drewN m) from fun _ _ => rfl) (fun _ h => h):U32s S (w.drewN m) v ds))
 rcases Nat.lt_or_ge l n with h | h
 ·obtain rfl:k = l:=by have:=HK.out; omega
  have T0:Hid (zs.take n = zs.take k):=hid (by rw [List.take_of_length_le (by rw [← HL.out]; omega),List.take_of_length_le (by rw [← HL.out]; omega)])
  have T1:Hid (zs.drop n = zs.drop k):=hid (by rw [List.drop_eq_nil_of_le (by rw [← HL.out]; omega),List.drop_eq_nil_of_le (by rw [← HL.out]; omega)])
  rw [T0.out,T1.out]
  go_enter Tryz.func167,Tryz.ntmps167
  cases a with
  | none =>
   go_wp2
   go_quiet (fail)
   go_wp2
   all_goals
    go_ret2
    refine ⟨_,_,rfl,?_,?_,z8v (Ext.refl _) _⟩
    ·exact HD.out _ _ _ (H.out.take (Nat.le_refl _))
    ·have h1:=H.out.drop (a':=none) (Nat.le_refl _) (fun h => absurd h (Nat.lt_irrefl _))
     rw [Nat.sub_self] at h1
     exact HD.out _ _ _ h1
  | some p =>
   go_wp2
   go_quiet (fail)
   obtain ⟨q,hq⟩:∃ q,q = (if c = k then some p else some (p.add k)):=⟨_,rfl⟩
   rw [← hq]
   have HQ:=hid hq
   clear hq
   go_wp2
   all_goals
    go_ret2
    refine ⟨_,_,rfl,?_,?_,z8v (Ext.refl _) _⟩
    ·exact HD.out _ _ _ (H.out.take (Nat.le_refl _))
    ·have h1:=H.out.drop (a':=q) (Nat.le_refl _) (fun h => absurd h (Nat.lt_irrefl _))
     rw [Nat.sub_self] at h1
     exact HD.out _ _ _ h1
 ·obtain rfl:k = n:=by have:=HK.out; omega
  have h':¬ l < k:=by omega
  go_enter Tryz.func167,Tryz.ntmps167
  cases a with
  | none =>
   have hl0:l = 0:=by
    rcases Nat.eq_zero_or_pos l with h | h
    ·exact h
    ·cases HC.out.1 h
   have HL0:=hid hl0
   clear hl0
   go_wp2
   go_quiet (fail)
   go_wp2
   all_goals
    go_ret2
    refine ⟨_,_,rfl,?_,?_,z8v (Ext.refl _) _⟩
    ·exact HD.out _ _ _ (H.out.take hk3)
    ·exact HD.out _ _ _ (H.out.drop (a':=none) hk3 (fun h => by have:=HL0.out; omega))
  | some p =>
   go_wp2
   go_quiet (fail)
   obtain ⟨q,hq⟩:∃ q,q = (if c = k then some p else some (p.add k)):=⟨_,rfl⟩
   rw [← hq]
   have HQ:=hid hq
   clear hq
   go_wp2
   all_goals
    go_ret2
    refine ⟨_,_,rfl,?_,?_,z8v (Ext.refl _) _⟩
    ·exact HD.out _ _ _ (H.out.take hk3)
    ·exact HD.out _ _ _ (H.out.drop (a':=q) hk3 (fun h => ⟨p,rfl,by rw [HQ.out,if_neg (by omega)]⟩))
end
end Go.Proofs.YtdcijfhkfhhfjaaGreat
