/- The document's whole numbers: a quotient that leaves nothing. The document: out of terms, sums, a number, a variable, too great. The document: a polynomial as data. The document: a number, a variable, as polynomials. Slices of polynomials in memory. What the law knows. The document: the other sign, the difference. The document: the content of a polynomial. Long division, plainly: a limb of the quotient by a guess, one step of the division, all steps. Long division of limbs: the guess of a limb. Long division of limbs: a multiple taken off, and given back. The product of two numbers, limb by limb. -/
import Derived.Deep.RegionWith
import Derived.Deep.DeepCutAuto
import Derived.Laws.BitsLemmas
import Derived.WalkMore
import Derived.Test.YtbfflodidkfphaaGreatSe3
set_option maxRecDepth 100000
set_option maxHeartbeats 16000000
namespace Go.Proofs.YtbfflodidkfphaaGreat
section
open Go.RowKit
theorem zt1 {x y q:Int} (h:x = q * y) (hy:y ≠ 0):sg (decide (x < 0) != decide (y < 0)) q.natAbs = q ∧ x.natAbs / y.natAbs = q.natAbs ∧ x.natAbs % y.natAbs = 0:=by
 have ha:x.natAbs = q.natAbs * y.natAbs:=by rw [h,Int.natAbs_mul]
 have hp:0 < y.natAbs:=by omega
 refine ⟨?_,by rw [ha,Nat.mul_div_cancel _ hp],by rw [ha,Nat.mul_mod_left]⟩
 rcases Int.lt_trichotomy q 0 with hq | hq | hq <;> rcases Int.lt_or_gt_of_ne hy with h1 | h1
 ·have:=Int.mul_pos_of_neg_of_neg hq h1
  rw [decide_eq_false (show ¬ x < 0 by omega),decide_eq_true h1]
  unfold sg; simp; omega
 ·have:=Int.mul_neg_of_neg_of_pos hq h1
  rw [decide_eq_true (show x < 0 by omega),decide_eq_false (show ¬ y < 0 by omega)]
  unfold sg; simp; omega
 ·subst hq; unfold sg; simp
 ·subst hq; unfold sg; simp
 ·have:=Int.mul_neg_of_pos_of_neg hq h1
  rw [decide_eq_true (show x < 0 by omega),decide_eq_true h1]
  unfold sg; simp; omega
 ·have:=Int.mul_pos hq h1
  rw [decide_eq_false (show ¬ x < 0 by omega),decide_eq_false (show ¬ y < 0 by omega)]
  unfold sg; simp; omega
theorem zkl {w:World} {b c:Nat} {u0 u1 u2 u3:Value} (hbc:b ≠ c) (c0:w.cell? ⟨b,0,none⟩ = some u0) (c1:w.cell? ⟨b,1,none⟩ = some u1) (c2:w.cell? ⟨c,0,none⟩ = some u2) (c3:w.cell? ⟨c,1,none⟩ = some u3) (x y x' y':Value) :
  ((((w.setCell ⟨b,0,none⟩ x).setCell ⟨b,1,none⟩ y).setCell ⟨c,0,none⟩ x').setCell ⟨c,1,none⟩ y').cell? ⟨b,0,none⟩ = some x ∧ ((((w.setCell ⟨b,0,none⟩ x).setCell ⟨b,1,none⟩ y).setCell ⟨c,0,none⟩ x').setCell ⟨c,1,none⟩ y').cell? ⟨b,1,none⟩ = some y ∧
  ((((w.setCell ⟨b,0,none⟩ x).setCell ⟨b,1,none⟩ y).setCell ⟨c,0,none⟩ x').setCell ⟨c,1,none⟩ y').cell? ⟨c,0,none⟩ = some x' ∧ ((((w.setCell ⟨b,0,none⟩ x).setCell ⟨b,1,none⟩ y).setCell ⟨c,0,none⟩ x').setCell ⟨c,1,none⟩ y').cell? ⟨c,1,none⟩ = some y':=by
 have hb:∀ {i j:Nat},(⟨b,i,none⟩:Addr) ≠ ⟨c,j,none⟩:=fun e => hbc (congrArg Addr.block e)
 have hc:∀ {i j:Nat},(⟨c,i,none⟩:Addr) ≠ ⟨b,j,none⟩:=fun e => hbc (congrArg Addr.block e).symm
 obtain ⟨e0,e1⟩:=z0v x y c0 c1
 obtain ⟨e2,e3⟩:=z0v x' y' (w:=(w.setCell ⟨b,0,none⟩ x).setCell ⟨b,1,none⟩ y) (b:=c) (z0b (z0b c2 hb) hb) (z0b (z0b c3 hb) hb)
 exact ⟨z0b (z0b e0 hc) hc,z0b (z0b e1 hc) hc,e2,e3⟩
theorem zo7 {w0 w1 w2:World} {b c:Nat} {v:Value} {z:Int} (hv:ZV (New w1 w2) w2 v z) (h01:Ext w0 w1) (h12:Ext w1 w2) (hb0:w0.heap.size ≤ b) (hb1:b < w1.heap.size) (hc0:w0.heap.size ≤ c) (hc1:c < w1.heap.size) (x y x' y':Value) :
  ZV (New w0 ((((w2.setCell ⟨b,0,none⟩ x).setCell ⟨b,1,none⟩ y).setCell ⟨c,0,none⟩ x').setCell ⟨c,1,none⟩ y')) ((((w2.setCell ⟨b,0,none⟩ x).setCell ⟨b,1,none⟩ y).setCell ⟨c,0,none⟩ x').setCell ⟨c,1,none⟩ y') v z ∧
  Ext w0 ((((w2.setCell ⟨b,0,none⟩ x).setCell ⟨b,1,none⟩ y).setCell ⟨c,0,none⟩ x').setCell ⟨c,1,none⟩ y'):=by
 refine ⟨hv.to ((Kept.set2 (fun h => ?_) _ _).trans (Kept.set2 (fun h => ?_) _ _)) (fun k hk => ⟨Nat.le_trans h01.size hk.1,?_⟩),((h01.trans h12).set2 hb0 _ _).set2 hc0 _ _⟩
 ·exact absurd h.1 (by omega)
 ·exact absurd h.1 (by omega)
 ·simpa only [z06] using hk.2
theorem zkm {S:Nat → Prop} (vx vy:Value) (x y q:Int) (w:World) (hx:ZV S w vx x) (hy:ZV S w vy y) (hS:∀ k,S k → k < w.heap.size) (hrx:szZ x) (hry:szZ y) (hq:x = q * y) (h0:y ≠ 0) :
  Calls Tryz.prog 94 #[vx,vy] w fun e w' => ∃ v1 a c,e = .returned (.tuple #[v1,.agg #[.bool false,.slice a 0 c]]) ∧ ZV (New w w') w' v1 q ∧ Ext w w':=by
 obtain ⟨vdx,rfl,hdx⟩:=hx
 obtain ⟨vdy,rfl,hdy⟩:=hy
 obtain ⟨hsg,hdv,hmd⟩:=zt1 hq h0
 have HX:=hid hdx
 have HY:=hid hdy
 obtain ⟨ax,cx,rfl⟩:=hdx.form
 obtain ⟨ay,cy,rfl⟩:=hdy.form
 obtain ⟨bx,hbx⟩:∃ b,b = decide (x < 0):=⟨_,rfl⟩
 obtain ⟨bz,hbz⟩:∃ b,b = decide (y < 0):=⟨_,rfl⟩
 obtain ⟨nx,hnx⟩:∃ n,n = (rep 10 x.natAbs).length:=⟨_,rfl⟩
 obtain ⟨ny,hny⟩:∃ n,n = (rep 10 y.natAbs).length:=⟨_,rfl⟩
 rw [← hbx,← hbz] at hsg
 rw [← hbx,← hbz,← hnx,← hny]
 obtain ⟨w0,hw0⟩:∃ Y,Y = (((w.alloc (.cells #[.bool bx,.slice ax nx cx] 56)).alloc (.cells #[.bool bz,.slice ay ny cy] 56)).alloc (.cells #[.bool false,.slice none 0 0] 56)).alloc (.cells #[.bool false,.slice none 0 0] 56):=⟨_,rfl⟩
 have HK:Hid (Ext w w0):=hid (by rw [hw0]; exact (((Ext.alloc (Ext.refl w) _).alloc _).alloc _).alloc _)
 have HB:=hid (fun (Y:World) (hY:Ext w0 Y) => by
  rw [hw0] at hY
  have k0:∀ (i:Nat) (u:Value),#[Value.bool bx,.slice ax nx cx][i]? = some u → Y.cell? ⟨w.heap.size,i,none⟩ = some u:=fun i u hu => hY.cell (cell_old _ (cell_old _ (cell_old _ (z02 w _ _ rfl hu))))
  have k1:∀ (i:Nat) (u:Value),#[Value.bool bz,.slice ay ny cy][i]? = some u → Y.cell? ⟨w.heap.size + 1,i,none⟩ = some u:=fun i u hu => hY.cell (cell_old _ (cell_old _ (z02 _ _ _ (by rw [size_alloc]) hu)))
  have k2:∀ (i:Nat) (u:Value),#[Value.bool false,.slice none 0 0][i]? = some u → Y.cell? ⟨w.heap.size + 1 + 1,i,none⟩ = some u:=fun i u hu => hY.cell (cell_old _ (z02 _ _ _ (by rw [size_alloc,size_alloc]) hu))
  have k3:∀ (i:Nat) (u:Value),#[Value.bool false,.slice none 0 0][i]? = some u → Y.cell? ⟨w.heap.size + 1 + 1 + 1,i,none⟩ = some u:=fun i u hu => hY.cell (z02 _ _ _ (by rw [size_alloc,size_alloc,size_alloc]) hu)
  have f2:∀ (i:Nat),Y.frozen? ⟨w.heap.size + 1 + 1,i,none⟩ = false:=fun i => (Ext.trans (Ext.alloc (Ext.refl _) _) hY).free (by simp only [size_alloc]; omega) (by have:=z1n ((w.alloc (.cells #[.bool bx,.slice ax nx cx] 56)).alloc (.cells #[.bool bz,.slice ay ny cy] 56)) #[.bool false,.slice none 0 0] 56 (i:=i); simpa only [size_alloc] using this)
  have f3:∀ (i:Nat),Y.frozen? ⟨w.heap.size + 1 + 1 + 1,i,none⟩ = false:=fun i => hY.free (by simp only [size_alloc]; omega) (by have:=z1n (((w.alloc (.cells #[.bool bx,.slice ax nx cx] 56)).alloc (.cells #[.bool bz,.slice ay ny cy] 56)).alloc (.cells #[.bool false,.slice none 0 0] 56)) #[.bool false,.slice none 0 0] 56 (i:=i); simpa only [size_alloc] using this)
  exact And.intro (And.intro (k0 0 _ rfl) (And.intro (k0 1 _ rfl) (And.intro (k1 0 _ rfl) (k1 1 _ rfl)))) (And.intro (And.intro (k2 0 _ rfl) (And.intro (k2 1 _ rfl) (And.intro (k3 0 _ rfl) (k3 1 _ rfl)))) (And.intro (f2 0) (And.intro (f2 1) (And.intro (f3 0) (f3 1))))))
 have HSZ:Hid (w.heap.size + 1 + 1 + 1 < w0.heap.size):=hid (by rw [hw0]; simp only [size_alloc]; omega)
 have hc:=zar _ _ (rep 10 x.natAbs) y.natAbs w0 (HX.out.ext HK.out hS) (HY.out.ext HK.out hS) (z0a hS HK.out) (Nat.le_trans hrx (by decide)) hry (by omega)
 rw [z0c z05,hdv,hmd,← hnx,← hny] at hc
 have HC:=hid hc
 have l1:=hdx.len_le
 have l2:=hdy.len_le
 rw [← hnx] at l1
 rw [← hny] at l2
 have HSG:=hid hsg
 have HW0:=hid hw0
 clear hdx hdy hbx hbz hnx hny hc hrx hry HX HY hsg hdv hmd hq h0 hw0
 go_enter Tryz.func94,Tryz.ntmps94
 go_upto_region 1 with fail
 rw [← HW0.out]
 obtain ⟨⟨q0,q1,q2,q3⟩,-⟩:=HB.out w0 (Ext.refl _)
 go_wp2_with fail
 refine HC.out.mono ?_
 rintro e w1 ⟨v1,v2,rfl,hd,hd2,hxx⟩
 obtain ⟨⟨p0,p1,p2,p3⟩,⟨r0,r1,r2,r3⟩,f0,f1,f2,f3⟩:=HB.out w1 hxx
 have HE:=hid (And.intro r0 (And.intro r1 (And.intro r2 r3)))
 have HXX:=hid hxx
 have HD:=hid hd
 obtain ⟨a1,n1,rfl⟩:=hd.form
 obtain ⟨a2,n2,e2⟩:∃ a c,v2 = .slice a 0 c:=hd2.form
 subst e2
 obtain ⟨nq,hnq⟩:∃ n,n = (rep 10 q.natAbs).length:=⟨_,rfl⟩
 have hl:=hd.len_le
 rw [← hnq] at hl
 have hlen:=z35 q.natAbs
 rw [← hnq] at hlen
 obtain ⟨t,ht⟩:∃ t,t = decide (0 < q.natAbs):=⟨_,rfl⟩
 have hz:=zcm (b:=(bx != bz)) HD.out
 rw [HSG.out,← ht] at hz
 rw [← hnq] at hz ⊢
 have HZ:=hid hz
 have hp:decide (0 < nq) = t:=by rw [ht,← hlen]
 clear hd hd2 hxx q0 q1 q2 q3 hnq hlen ht hz
 cases bx <;> cases bz <;> cases t
 all_goals
  go_wp2
  have hd:=fun x y x' y' => zkl (w:=w1) (b:=w.heap.size + 1 + 1) (c:=w.heap.size + 1 + 1 + 1) (by omega) HE.out.1 HE.out.2.1 HE.out.2.2.1 HE.out.2.2.2 x y x' y'
  refine bodyPost_ret (by simp [results,Tryz.results94,go_sem,(hd _ _ _ _).1,(hd _ _ _ _).2.1,(hd _ _ _ _).2.2.1,(hd _ _ _ _).2.2.2]; rfl) rfl ?_
  have hg:=fun x y x' y' => zo7 (w0:=w) (b:=w.heap.size + 1 + 1) (c:=w.heap.size + 1 + 1 + 1) HZ.out HK.out HXX.out (by omega) (by have:=HSZ.out; omega) (by omega) HSZ.out x y x' y'
  exact ⟨_,_,_,rfl,(hg _ _ _ _).1,(hg _ _ _ _).2⟩
def zkn (w:World) (v:Value):Nat:=match v with
 | .slice (some a) n _ => val 10 ((List.range n).map fun j => (intOf ((w.cell? ⟨a.block,a.off + j,none⟩).getD (.int .i64 0))).toNat)
 | _ => 0
theorem zct {S:Nat → Prop} {w:World} {v:Value} {zs:List Nat} (h:Digs S w v zs):zkn w v = val 10 zs:=by
 obtain ⟨b,off,⟨a,cap,h1,h2,h3,h4,h5⟩,hc⟩:=h
 subst h1
 cases a with
 | none =>
  have e:zs.length = 0:=by
   rcases Nat.eq_zero_or_pos zs.length with h | h
   ·exact h
   ·have:=h4 h; cases this
  rw [List.length_eq_zero_iff.1 e]
  rfl
 | some ad =>
  rcases Nat.eq_zero_or_pos zs.length with h | h
  ·unfold zkn
   rw [h,List.length_eq_zero_iff.1 h]
   rfl
  ·obtain rfl:ad = ⟨b,off,none⟩:=by have:=h4 h; simpa using this
   show val 10 ((List.range zs.length).map fun j => (intOf ((w.cell? ⟨b,off + j,none⟩).getD (.int .i64 0))).toNat) = val 10 zs
   congr 1
   refine List.ext_getElem? (fun j => ?_)
   rw [List.getElem?_map]
   cases hz:zs[j]? with
   | none =>
    have:zs.length ≤ j:=List.getElem?_eq_none_iff.1 hz
    rw [List.getElem?_eq_none (by simpa using this)]
    rfl
   | some z =>
    rw [List.getElem?_range (z03 hz)]
    show some ((intOf ((w.cell? ⟨b,off + j,none⟩).getD (.int .i64 0))).toNat) = some z
    rw [(hc j z hz).2]
    simp [intOf]
theorem zrf {S:Nat → Prop} (vx vy:Value) (x y:Int) (w:World) (hx:ZV S w vx x) (hy:ZV S w vy y) (hS:∀ k,S k → k < w.heap.size) (hrx:szZ x) (hry:szZ y) :
  Calls Tryz.prog 119 #[vx,vy] w fun e w' => ∃ v',e = .returned v' ∧ ZV (Plus S w w') w' v' (Nat.gcd x.natAbs y.natAbs:Nat) ∧ Ext w w':=by
 obtain ⟨vdx,rfl,hdx⟩:=hx
 obtain ⟨vdy,rfl,hdy⟩:=hy
 have HX:=hid hdx
 have HY:=hid hdy
 obtain ⟨ax,cx,rfl⟩:=hdx.form
 obtain ⟨ay,cy,rfl⟩:=hdy.form
 obtain ⟨bx,hbx⟩:∃ b,b = decide (x < 0):=⟨_,rfl⟩
 obtain ⟨bz,hbz⟩:∃ b,b = decide (y < 0):=⟨_,rfl⟩
 obtain ⟨nx,hnx⟩:∃ n,n = (rep 10 x.natAbs).length:=⟨_,rfl⟩
 obtain ⟨ny,hny⟩:∃ n,n = (rep 10 y.natAbs).length:=⟨_,rfl⟩
 obtain ⟨X,hX⟩:∃ X,X = x.natAbs:=⟨_,rfl⟩
 obtain ⟨Y,hY⟩:∃ X,X = y.natAbs:=⟨_,rfl⟩
 rw [← hbx,← hbz,← hnx,← hny,← hX,← hY]
 rw [← hX] at HX hnx
 rw [← hY] at HY hny
 rw [← hnx] at HX
 rw [← hny] at HY
 obtain ⟨w0,hw0⟩:∃ Y,Y = ((w.alloc (.cells #[.bool bx,.slice ax nx cx] 56)).alloc (.cells #[.bool bz,.slice ay ny cy] 56)).alloc (.cells #[.bool false,.slice none 0 0] 56):=⟨_,rfl⟩
 have HK:Hid (Ext w w0):=hid (by rw [hw0]; exact ((Ext.alloc (Ext.refl w) _).alloc _).alloc _)
 have HB:=hid (fun (Y:World) (hY:Ext w0 Y) => by
  rw [hw0] at hY
  exact And.intro (old4 hY) (zkb hY))
 have HSZ:Hid (w.heap.size + 1 + 1 < w0.heap.size):=hid (by rw [hw0]; simp only [size_alloc]; omega)
 have HRX:Hid (∀ A,(A ≤ X ∨ A ≤ Y) → (rep 10 A).length ≤ 2000000):=hid (fun A h => by
  rw [hX,hY] at h
  rcases h with h | h
  ·exact Nat.le_trans (z3h h) hrx
  ·exact Nat.le_trans (z3h h) hry)
 have HW0:=hid hw0
 clear hdx hdy hbx hbz hnx hny hrx hry hX hY hw0
 go_enter Tryz.func119,Tryz.ntmps119
 go_upto_region 1 with fail
 rw [← HW0.out]
 obtain ⟨⟨q0,q1,q2,q3⟩,-⟩:=HB.out w0 (Ext.refl _)
 go_wp2
 go_quiet (fail)
 go_wp2
 go_loopw [5,6] (fun u5 u6 wr => ∃ A B:Nat,Hid (Digs (Plus S w0 wr) wr u5 (rep 10 A)) ∧ Hid (Digs (Plus S w0 wr) wr u6 (rep 10 B)) ∧ Hid (Nat.gcd A B = Nat.gcd X Y) ∧ Hid ((A ≤ X ∨ A ≤ Y) ∧ (B ≤ X ∨ B ≤ Y)) ∧ Hid (Ext w0 wr)) (fun _ u6 wr => zkn wr u6)
 case atStart => exact ⟨X,Y,hid (HX.out.to (Kept.ext (HK.out.drewN nq) hS) (fun _ h => .inl h)),hid (HY.out.to (Kept.ext (HK.out.drewN nq) hS) (fun _ h => .inl h)),hid rfl,hid ⟨.inl (Nat.le_refl _),.inr (Nat.le_refl _)⟩,hid ((Ext.refl w0).drewN nq)⟩
 case round =>
  obtain ⟨A,B,HA,HBB,HGC,HLE,HX0⟩:=hrel
  have HPL:=hid (z2o (z0a hS HK.out) HX0.out)
  obtain ⟨aA,cA,rfl⟩:=HA.out.form
  obtain ⟨aB,cB,rfl⟩:=HBB.out.form
  have hrA:=HRX.out A HLE.out.1
  have hrB:=HRX.out B HLE.out.2
  obtain ⟨nA',hnA⟩:∃ n,n = (rep 10 A).length:=⟨_,rfl⟩
  obtain ⟨nB',hnB⟩:∃ n,n = (rep 10 B).length:=⟨_,rfl⟩
  have hlen:=z35 B
  rw [← hnB] at hlen HBB
  rw [← hnA] at HA
  rw [← hnB]
  rw [← hnA]
  by_cases h0:0 < B
  ·have hp:0 < nB':=by simpa [h0] using hlen
   have CD:=zar _ _ (rep 10 A) B wr HA.out HBB.out HPL.out (by omega) hrB h0
   rw [z0c z05] at CD
   have CD:=hid CD
   have HHB:=hid (zct HBB.out)
   rw [z0c z05] at HHB
   have H0:=hid h0
   clear hlen hnA hnB hrA hrB h0
   go_wp2_with fail
   refine CD.out.mono ?_
   rintro e w1 ⟨v1,v2,rfl,hd1,hd2,hx1⟩
   have HX1:=hid hx1
   have HD2:=hid hd2
   obtain ⟨a1,c1,rfl⟩:=hd1.form
   obtain ⟨a2,c2,rfl⟩:=hd2.form
   obtain ⟨n2,hn2⟩:∃ n,n = (rep 10 (A % B)).length:=⟨_,rfl⟩
   rw [← hn2] at HD2 ⊢
   clear hd1 hd2 hx1 hn2
   go_wp2
   go_roundw
   case rel =>
    have hlt:=Nat.mod_lt A H0.out
    refine ⟨B,A % B,hid (HBB.out.to (Kept.ext HX1.out HPL.out) (z4f HX1.out.size)),hid (HD2.out.to (Kept.refl _ _) (fun k hk => .inr ⟨Nat.le_trans HX0.out.size hk.1,hk.2⟩)),hid ?_,hid ⟨HLE.out.2,?_⟩,hid (HX0.out.trans HX1.out)⟩
    ·rw [← HGC.out,Nat.gcd_comm A B,Nat.gcd_rec B A,Nat.gcd_comm]
    ·rcases HLE.out.2 with h | h
     ·exact .inl (by omega)
     ·exact .inr (by omega)
   case measure =>
    rw [HHB.out,zct HD2.out,z0c z05]
    exact Nat.mod_lt A H0.out
  ·obtain rfl:B = 0:=by omega
   have hp:nB' = 0:=hnB
   subst hp
   have hg:A = Nat.gcd X Y:=by rw [← HGC.out,Nat.gcd_zero_right]
   obtain ⟨⟨-,-,-,-⟩,r0,r1,f0,f1⟩:=HB.out wr HX0.out
   have HE:=hid (And.intro r0 r1)
   have HGV:=hid hg
   clear hlen hnA hnB hrA hrB h0 hg
   go_wp2
   have hd:=fun x y => z0v x y HE.out.1 HE.out.2
   refine bodyPost_ret (by simp [results,Tryz.results119,go_sem,(hd _ _).1,(hd _ _).2]; rfl) rfl ?_
   refine ⟨_,rfl,⟨_,by rw [decide_eq_false (by omega)],?_⟩,(HK.out.trans HX0.out).set2 (by omega) _ _⟩
   rw [Int.natAbs_natCast,← HGV.out]
   refine HA.out.to (Kept.set2 (fun h => ?_) _ _) (fun k hk => ?_)
   ·rcases h with h | h
    ·exact absurd (hS _ h) (by omega)
    ·exact absurd h.1 (by have:=HSZ.out; omega)
   ·rcases hk with h | h
    ·exact .inl h
    ·exact .inr ⟨Nat.le_trans HK.out.size h.1,by simpa only [z06] using h.2⟩
end
section
open Go.RowKit
theorem zo8 {p:PZ} {c:Int} {m:Mono} (hp:z0p p) (hm:mayM m = true):z0p (putP p c m):=fun t ht => by
 rcases zg3 ht with h | h
 ·exact hp t h
 ·rw [h]; exact hm
theorem zgb {p l:PZ} (hp:z0p p) (hl:z0p l):z0p (addP p l):=by
 induction l generalizing p with
 | nil => exact hp
 | cons t r ih => exact ih (zo8 hp (hl t (by simp))) (fun u hu => hl u (by simp [hu]))
theorem z9m (p l:PZ) (t:Int × Mono):addP p (l ++ [t]) = putP (addP p l) t.1 t.2:=by
 unfold addP
 rw [List.foldl_append]
 rfl
theorem zgc {l:PZ} (h:z0p l) (k:Nat):z0p (l.take k):=fun t ht => h t (List.mem_of_mem_take ht)
theorem zt2 {ts:List RTerm} {k:Nat} {t:RTerm} (h:ts[k]? = some t):(toP ts).take (k + 1) = (toP ts).take k ++ [(valI t.c,t.m)]:=by
 rw [List.take_add_one]
 unfold toP
 rw [List.getElem?_map,h]
 rfl
theorem z7e {S:Nat → Prop} {w w1 w2:World} (h1:Ext w w1) (h2:Ext w1 w2):∀ k,Plus (Plus S w w1) w1 w2 k → Plus S w w2 k:=fun k hk => by
 rcases hk with (h | h) | h
 ·exact .inl h
 ·exact .inr ⟨h.1,Nat.lt_of_lt_of_le h.2 h2.size⟩
 ·exact .inr ⟨Nat.le_trans h1.size h.1,h.2⟩
theorem zbh {S:Nat → Prop} {w w1 w2:World} (h1:w.heap.size ≤ w1.heap.size):∀ k,New w1 w2 k → Plus S w w2 k:=fun _k hk => .inr ⟨Nat.le_trans h1 hk.1,hk.2⟩
theorem RTs.later {S:Nat → Prop} {w w1 w2:World} {v:Value} {p:PZ} (hS:∀ k,S k → k < w.heap.size) (h:RTs (Plus S w w1) w1 v p) (h1:Ext w w1) (h2:Ext w1 w2):RTs (Plus S w w2) w2 v p :=
 h.to (Kept.ext h2 (z2o hS h1)) (z4f h2.size)
theorem z6f (ts:List RTerm):(toP ts).length = ts.length:=by unfold toP; rw [List.length_map]
theorem zo9 {S:Nat → Prop} (v:Value) (ts:List RTerm) (w:World) (h:z0h S w v ts) (hS:∀ k,S k → k < w.heap.size) (hr:zra ts) (hmay:z0p (toP ts)) (hsz:∀ k,k ≤ ts.length → szP (addP [] ((toP ts).take k))) :
  Calls Tryz.prog 12 #[v] w fun e w' => ∃ v',e = .returned v' ∧ RTs (Plus S w w') w' v' (z25 (toP ts)) ∧ Ext w w':=by
 have hl:=h.len_le
 have H:=hid h
 have HR:=hid hr
 have HMY:=hid hmay
 have HSZ:=hid hsz
 have HST:=hid (fun k (x:RTerm) => zt2 (ts:=ts) (k:=k) (t:=x))
 obtain ⟨P,hP⟩:∃ P,P = toP ts:=⟨_,rfl⟩
 rw [← hP] at HMY HSZ ⊢
 have HP:=hid hP
 obtain ⟨a,cap,rfl⟩:=h.form
 clear h hr hmay hsz hP
 go_enter Tryz.func12,Tryz.ntmps12
 go_wp2
 go_loopw [3,4] (fun o i wr => ∃ k:Nat,k ≤ ts.length ∧ i = .int .i64 k ∧ Ext w wr ∧ Hid (RTs (Plus S w wr) wr o (addP [] (P.take k)))) (fun _ i _ => ts.length - (intOf i).toNat)
 case atStart => exact ⟨0,Nat.zero_le _,rfl,Ext.refl _,hid (RTs.nilv _ _ _ _ (by omega))⟩
 case round =>
  obtain ⟨k,hk,rfl,hx,HO⟩:=hrel
  have HX:=hid hx
  by_cases hlt:k < ts.length
  ·obtain ⟨t,ht⟩:=z00 hlt
   obtain ⟨b,off,vm,vo,rfl,-,hn1,hm1,hSb,h1,h2,h3,h4,h5⟩:=H.out.cellAt ht
   have hsm:=HR.out t (List.mem_of_getElem? ht)
   have HTK:=hid (HST.out k t ht)
   have HTM:Hid (mayM t.m = true):=hid (HMY.out (valI t.c,t.m) (by rw [HP.out]; exact List.mem_map.2 ⟨t,List.mem_of_getElem? ht,rfl⟩))
   have HV:Hid (szZ (valI t.c)):=hid (zqb h4.lt hsm)
   obtain ⟨⟨ng,zs⟩,m⟩:=t
   simp only at h1 h2 h3 h4 h5 hsm HTM HV HTK
   have H4:=hid h4
   have H5:=hid h5
   obtain ⟨am,cm,rfl⟩:=h4.form
   obtain ⟨ao,co,rfl⟩:=h5.form
   have x0:Ext w wr.drew:=hx.drew
   have HX0:=hid x0
   have S0:_ ∧ _ ∧ _:=And.intro (x0.cell h1) (And.intro (x0.cell h2) (x0.cell h3))
   have C1:=hid (zcn (S:=S) _ ⟨ng,zs⟩ wr.drew (z1v (H4.out.ext x0 hS)) (z0a hS x0) hsm)
   clear ht h1 h2 h3 h4 h5 hx hsm x0
   go_wp2
   go_region_held3 (fun W => W.cell? ⟨b,off + k * 3,none⟩ = some (.bool ng) ∧ W.cell? ⟨b,off + k * 3 + 1,none⟩ = some (.slice am zs.length cm) ∧ W.cell? ⟨b,off + k * 3 + 2,none⟩ = some (.slice ao m.length co)) (first | exact S0 | exact S1 | exact S2)
    (first
     | (go_at_call 41; (with_reducible refine C1.out.mono ?_); rintro e w1 ⟨v1,rfl,hz1,hx1⟩; have S1:_ ∧ _ ∧ _:=And.intro (hx1.cell S0.1) (And.intro (hx1.cell S0.2.1) (hx1.cell S0.2.2)); have HX1:Hid (Ext w w1):=hid (HX0.out.trans hx1); have C2:=hid (z5r (S:=Plus S w w1) _ _ _ (addP [] (P.take k)) (valI ⟨ng,zs⟩) m w1 (z2o hS HX1.out) (RTs.later hS HO.out HX.out (((Ext.refl wr).drew).trans hx1)) (hz1.to (Kept.refl _ _) (zbh HX0.out.size)) ((H5.out.ext HX1.out hS).to (Kept.refl _ _) (fun _ h => .inl h)) (zgb (p:=[]) z33.may (zgc HMY.out k)) HTM.out (HSZ.out k hk) HV.out); clear hx1 hz1)
     | (go_at_call 40; (with_reducible refine C2.out.mono ?_); rintro e w2 ⟨v2,rfl,hp2,hx2⟩; have S2:_ ∧ _ ∧ _:=And.intro (hx2.cell S1.1) (And.intro (hx2.cell S1.2.1) (hx2.cell S1.2.2)); have HX2:=hid (HX1.out.trans hx2); have HP2:=hid (hp2.to (Kept.refl _ _) (z7e HX1.out hx2)); clear hx2 hp2))
   go_wp2
   go_roundw
   case rel => exact ⟨k + 1,by omega,by go_num,HX2.out,hid (by rw [HP.out,HTK.out,z9m,← HP.out]; exact HP2.out)⟩
   case measure => simp only [intOf]; omega
  ·obtain rfl:k = ts.length:=by omega
   have HE:Hid (addP [] (P.take ts.length) = z25 P):=hid (by rw [List.take_of_length_le (by rw [HP.out,z6f]; exact Nat.le_refl _)]; rfl)
   clear hx
   go_wp2
   all_goals
    go_ret
    exact ⟨_,rfl,by rw [← HE.out]; exact HO.out,HX.out⟩
theorem zcu {S:Nat → Prop} (vp vq:Value) (p q:PZ) (w:World) (hS:∀ k,S k → k < w.heap.size) (hp:RTs S w vp p) (hq:RTs S w vq q) (hmp:z0p p) (hmq:z0p q) (hszq:szP q) (hsz:∀ k,k ≤ q.length → szP (addP p (q.take k))) :
  Calls Tryz.prog 61 #[vp,vq] w fun e w' => ∃ v',e = .returned v' ∧ RTs (Plus S w w') w' v' (addP p q) ∧ Ext w w':=by
 have hl:=hq.len_le
 have HP:=hid hp
 have HQ:=hid hq
 have HMP:=hid hmp
 have HMQ:=hid hmq
 have HZQ:=hid hszq
 have HSZ:=hid hsz
 obtain ⟨ap,cp,rfl⟩:=hp.form
 obtain ⟨aq,cq,rfl⟩:=hq.form
 clear hp hq hmp hmq hszq hsz
 go_enter Tryz.func61,Tryz.ntmps61
 go_wp2
 go_loopw [5,6] (fun o i wr => ∃ k:Nat,k ≤ q.length ∧ i = .int .i64 k ∧ Ext w wr ∧ Hid (RTs (Plus S w wr) wr o (addP p (q.take k)))) (fun _ i _ => q.length - (intOf i).toNat)
 case atStart => exact ⟨0,Nat.zero_le _,rfl,Ext.refl _,hid (HP.out.to (Kept.refl _ _) (fun _ h => .inl h))⟩
 case round =>
  obtain ⟨k,hk,rfl,hx,HO⟩:=hrel
  have HX:=hid hx
  by_cases hlt:k < q.length
  ·obtain ⟨t,ht⟩:=z00 hlt
   obtain ⟨b,off,vd,vo,rfl,-,hn1,hm1,hSb,h1,h2,h3,h4,h5⟩:=HQ.out.cellAt ht
   have HTK:Hid (q.take (k + 1) = q.take k ++ [t]):=hid (by rw [List.take_add_one,ht]; rfl)
   have HTM:=hid (HMQ.out t (List.mem_of_getElem? ht))
   have HV:=hid (HZQ.out.2 t (List.mem_of_getElem? ht))
   have H4:=hid h4
   have H5:=hid h5
   obtain ⟨am,cm,rfl⟩:=h4.form
   obtain ⟨ao,co,rfl⟩:=h5.form
   have x0:Ext w wr.drew:=hx.drew
   have HX0:=hid x0
   have S0:_ ∧ _ ∧ _:=And.intro (x0.cell h1) (And.intro (x0.cell h2) (x0.cell h3))
   have c2:=z5r (S:=Plus S w wr.drew) _ _ _ (addP p (q.take k)) t.1 t.2 wr.drew (z2o hS x0) (RTs.later hS HO.out HX.out ((Ext.refl wr).drew)) (show ZV (Plus S w wr.drew) wr.drew (.agg #[.bool (decide (t.1 < 0)),.slice am (rep 10 t.1.natAbs).length cm]) t.1 from ⟨_,rfl,H4.out.to (Kept.ext HX0.out hS) (fun _ h => .inl h)⟩) (H5.out.to (Kept.ext HX0.out hS) (fun _ h => .inl h)) (zgb HMP.out (zgc HMQ.out k)) HTM.out (HSZ.out k hk) HV.out
   obtain ⟨bt,hbt⟩:∃ b,b = decide (t.1 < 0):=⟨_,rfl⟩
   obtain ⟨nt,hnt⟩:∃ n,n = (rep 10 t.1.natAbs).length:=⟨_,rfl⟩
   obtain ⟨nm,hnm⟩:∃ n,n = t.2.length:=⟨_,rfl⟩
   rw [← hbt,← hnt,← hnm] at S0
   rw [← hbt,← hnt,← hnm] at c2
   have C2:=hid c2
   clear ht h1 h2 h3 h4 h5 hx x0 c2 H4 H5 hbt hnt hnm
   go_wp2
   go_region_held3 (fun W => W.cell? ⟨b,off + k * 3,none⟩ = some (.bool bt) ∧ W.cell? ⟨b,off + k * 3 + 1,none⟩ = some (.slice am nt cm) ∧ W.cell? ⟨b,off + k * 3 + 2,none⟩ = some (.slice ao nm co)) (first | exact S0 | exact S2)
    (first
     | (go_at_call 40; (with_reducible refine C2.out.mono ?_); rintro e w2 ⟨v2,rfl,hp2,hx2⟩; have S2:_ ∧ _ ∧ _:=And.intro (hx2.cell S0.1) (And.intro (hx2.cell S0.2.1) (hx2.cell S0.2.2)); have HX2:=hid (HX0.out.trans hx2); have HP2:=hid (hp2.to (Kept.refl _ _) (z7e HX0.out hx2)); clear hx2 hp2))
   go_wp2
   go_roundw
   case rel => exact ⟨k + 1,by omega,by go_num,HX2.out,hid (by rw [HTK.out,z9m]; exact HP2.out)⟩
   case measure => simp only [intOf]; omega
  ·obtain rfl:k = q.length:=by omega
   have HE:Hid (addP p (q.take q.length) = addP p q):=hid (by rw [List.take_length])
   clear hx
   go_wp2
   all_goals
    go_ret
    exact ⟨_,rfl,by rw [← HE.out]; exact HO.out,HX.out⟩
end
section
open Go.RowKit
section
variable {P:Program}
theorem z1i {w:World} {ops:Array Oper} {o:Oper} {a:Act} {K:Act → World → Prop} {Q:Exit → Act → World → Prop} {E:Prop} (hgd:o.guard = none) (s x:Operand) (t:TypeId)
  (ho:o.op = .call { callee:=.builtin .append,args:=#[s,x],argTypes:=#[t,t] })
  (base:Nat) (e:TypeId) (i:TypeInfo) (z:Value) (size bytes:Nat) (ht:P.underlying t = some (.slice e)) (hi:P.info? e = some i) (hz:i.zero = some z)
  (hsize:i.size = size) (hby:i.bytes = bytes) (hzs:z.cells.size = size) (hsz:0 < size)
  (v:Value) (n:Nat) (xs:List Value) (hs:a.eval s = v) (hown:w.ownsRow base e size v n xs)
  (A:Option Addr) (m c:Nat) (news:List Value) (hx:a.eval x = .slice A m c) (hsrc:zbb w A m size news)
  (h63:n + m ≤ maxLen) (hbytes:(n + m) * bytes ≤ 140737488355328) (hbase:base ≤ w.heap.size)
  (h:∀ v' w',w'.ownsRow base e size v' (n + m) (xs ++ news) → w.grownBy w' v.ownBlock → (v'.ownBlock = v.ownBlock ∨ v'.ownBlock = some w.heap.size) → K (a.put o.dst v') w') :
  if Region.wanted o (yielded ops a.tmps) = true then Oper.wp P o a w K Q else E:=by
 have hw:Region.wanted o (yielded ops a.tmps) = true:=by simp [Region.wanted,hgd]
 rw [if_pos hw]
 obtain ⟨v',w',hrun,h2,h3,h4⟩:=z6p (P:=P) w base t o.type e i z size bytes ht hi hz hsize hby hzs hsz v n xs hown A m c news hsrc h63 hbytes hbase
 unfold Oper.wp execOp
 simp only [ho,resolve,invoke,builtin,Sem.run_bind,Sem.run_pure,Result.andThen_ok,List.map_toArray,List.map_cons,List.map_nil,hs,hx,hrun]
 exact h v' w' h2 h3 h4
end
theorem z0h.nilv (S:Nat → Prop) (w:World) (a:Option Addr) (cap:Nat) (h:cap ≤ 9223372036854775807):z0h S w (.slice a 0 cap) [] :=
 ⟨0,0,⟨a,cap,rfl,Nat.zero_le _,h,fun h => absurd h (Nat.lt_irrefl 0),fun h => absurd h (Nat.lt_irrefl 0)⟩,fun j t hj => by simp at hj⟩
def z0r (S:Nat → Prop) (w:World):List Value → List RTerm → Prop
 | xs,[] => xs = []
 | xs,t :: r => ∃ vd vo ys,xs = .bool t.c.neg :: vd :: vo :: ys ∧ U32s S w vd t.c.mag ∧ Pows S w vo t.m ∧ z0r S w ys r
section
variable {S S':Nat → Prop} {w w':World}
theorem z0r.append {xs ys:List Value} {p q:List RTerm} (h:z0r S w xs p) (k:z0r S w ys q):z0r S w (xs ++ ys) (p ++ q):=by
 induction p generalizing xs with
 | nil =>
  have e:xs = []:=h
  subst e
  exact k
 | cons t r ih =>
  obtain ⟨vd,vo,zs,rfl,h1,h2,h3⟩:=h
  exact ⟨vd,vo,zs ++ ys,rfl,h1,h2,ih h3⟩
theorem z0r.to {xs:List Value} {p:List RTerm} (h:z0r S w xs p) (hk:Kept S w w') (hS:∀ k,S k → S' k):z0r S' w' xs p:=by
 induction p generalizing xs with
 | nil => exact h
 | cons t r ih =>
  obtain ⟨vd,vo,zs,rfl,h1,h2,h3⟩:=h
  exact ⟨vd,vo,zs,rfl,h1.to hk hS,h2.to hk hS,ih h3⟩
theorem z0r.length {xs:List Value} {p:List RTerm} (h:z0r S w xs p):xs.length = p.length * 3:=by
 induction p generalizing xs with
 | nil =>
  have e:xs = []:=h
  subst e
  rfl
 | cons t r ih =>
  obtain ⟨vd,vo,zs,rfl,h1,h2,h3⟩:=h
  simp only [List.length_cons,ih h3]
  omega
theorem z0r.get {xs:List Value} {p:List RTerm} (h:z0r S w xs p) {j:Nat} {t:RTerm} (ht:p[j]? = some t) :
  ∃ vd vo,xs[j * 3]? = some (.bool t.c.neg) ∧ xs[j * 3 + 1]? = some vd ∧ xs[j * 3 + 2]? = some vo ∧ U32s S w vd t.c.mag ∧ Pows S w vo t.m:=by
 induction p generalizing xs j with
 | nil => simp at ht
 | cons u r ih =>
  obtain ⟨vd,vo,zs,rfl,h1,h2,h3⟩:=h
  cases j with
  | zero =>
   obtain rfl:u = t:=by simpa using ht
   exact ⟨vd,vo,rfl,rfl,rfl,h1,h2⟩
  | succ j =>
   obtain ⟨vd',vo',g⟩:=ih h3 (j:=j) (by simpa using ht)
   refine ⟨vd',vo',?_⟩
   rw [show (j + 1) * 3 = j * 3 + 1 + 1 + 1 by omega]
   simpa using g
theorem z0r.one {xs:List Value} {p:List RTerm} (h:z0r S w xs p):∀ u ∈ xs,u.oneCell' = true:=by
 induction p generalizing xs with
 | nil =>
  have e:xs = []:=h
  subst e
  intro u hu
  simp at hu
 | cons t r ih =>
  obtain ⟨vd,vo,zs,rfl,h1,h2,h3⟩:=h
  intro u hu
  simp only [List.mem_cons] at hu
  rcases hu with rfl | rfl | rfl | hu
  ·rfl
  ·obtain ⟨a,c,rfl⟩:=h1.form; rfl
  ·obtain ⟨a,c,rfl⟩:=h2.form; rfl
  ·exact ih h3 u hu
theorem z0r.single {vd vo:Value} {t:RTerm} (h1:U32s S w vd t.c.mag) (h2:Pows S w vo t.m):z0r S w [.bool t.c.neg,vd,vo] [t]:=⟨vd,vo,[],rfl,h1,h2,rfl⟩
end
theorem z5s {S:Nat → Prop} {w:World} {base:Nat} {e:TypeId} {v:Value} {xs:List Value} {p:List RTerm} (h:w.ownsRow base e 3 v p.length xs) (hc:z0r S w xs p) (hB:∀ k,base ≤ k → k < w.heap.size → S k):z0h S w v p:=by
 have hlt:=h.lt
 rcases h.2 with ⟨rfl,h0⟩ | ⟨g,cap,cur,rfl,hg,hh,h1,h2,h3,h4⟩
 ·obtain rfl:p = []:=List.length_eq_zero_iff.1 h0
  exact z0h.nilv _ _ _ _ (by omega)
 ·refine ⟨g,0,⟨_,cap,rfl,h1,h2,fun _ => rfl,fun _ => hB g (hlt g rfl).1 (hlt g rfl).2⟩,fun j t hj => ?_⟩
  obtain ⟨vd,vo,g1,g2,g3,g4,g5⟩:=hc.get hj
  have hb:=z03 hj
  refine ⟨vd,vo,?_,?_,?_,g4,g5⟩
  ·rw [h.cellAt (0 + j * 3) (by omega),Nat.zero_add]
   exact g1
  ·rw [h.cellAt (0 + j * 3 + 1) (by omega),Nat.zero_add]
   exact g2
  ·rw [h.cellAt (0 + j * 3 + 2) (by omega),Nat.zero_add]
   exact g3
theorem Tryz.infoTerm:(Tryz.prog.info? 49).map (fun i => (i.zero,i.size,i.bytes)) = some (some (.agg #[.bool false,.slice none 0 0,.slice none 0 0]),3,56):=by kernel_rfl
section
variable {w w1 w2:World} {o:Value} {e:TypeId} {size n:Nat} {xs:List Value}
theorem z1f (hx:Ext w w1) (ho:w1.ownsRow w.heap.size e size o n xs) (hg:w1.grownBy w2 o.ownBlock):Ext w w2:=z0j hx hg (fun k hk => (ho.lt k hk).1)
end
theorem zqe {p:PZ} {k:Nat} {t:Int × Mono} (h:p[k]? = some t):ofP (p.take (k + 1)) = ofP (p.take k) ++ [⟨ofI t.1,t.2⟩]:=by
 rw [List.take_add_one,h]
 unfold ofP
 rw [List.map_append]
 rfl
theorem z6g (p:PZ):(ofP p).length = p.length:=by unfold ofP; rw [List.length_map]
abbrev z37 (w w1:World) (o:Value):Nat → Prop:=fun k => New w w1 k ∧ some k ≠ o.ownBlock
theorem z11 {w w1 w2:World} {o:Value} {xs:List Value} {l:List RTerm} (h:z0r (z37 w w1 o) w1 xs l) (hx:Ext w1 w2):z0r (z37 w w2 o) w2 xs l :=
 h.to (Kept.ext hx (fun _ h => h.1.2)) (fun _ h => ⟨⟨h.1.1,Nat.lt_of_lt_of_le h.1.2 hx.size⟩,h.2⟩)
theorem z3u {w w2 w3:World} {o v3:Value} {xs:List Value} {l:List RTerm} {B:Nat} (h:z0r (z37 w w2 o) w2 xs l) (hg:w2.grownBy w3 o.ownBlock) (hb:v3.ownBlock = o.ownBlock ∨ v3.ownBlock = some B) (hB:w2.heap.size ≤ B):z0r (z37 w w3 v3) w3 xs l :=
 h.to (Kept.grown hg (fun _ h => ⟨h.1.2,h.2⟩)) (fun k hk => ⟨⟨hk.1.1,Nat.lt_of_lt_of_le hk.1.2 hg.size⟩,by
  rcases hb with e | e
  ·rw [e]; exact hk.2
  ·rw [e]
   intro e2
   have e3:k = B:=Option.some.inj e2
   have:=hk.1.2
   omega⟩)
theorem zcv {w w0 w1:World} {o:Value} {e:TypeId} {size n:Nat} {xs:List Value} {l:List RTerm} {ys:List Value} (h0:w.heap.size ≤ w0.heap.size) (ho:w0.ownsRow w.heap.size e size o n ys) (h:z0r (New w0 w1) w1 xs l):z0r (z37 w w1 o) w1 xs l :=
 h.to (Kept.refl _ _) (fun k hk => ⟨⟨Nat.le_trans h0 hk.1,hk.2⟩,fun e => by
  have:=(ho.lt k e.symm).2
  have:=hk.1
  omega⟩)
theorem z82 (w:World) (cs:Array Value) (e:TypeId) {size:Nat} (h1:∀ u ∈ cs.toList,u.oneCell' = true) (hs:cs.size = size):zbb (w.alloc (.cells cs e)) (some ⟨w.heap.size,0,none⟩) 1 size cs.toList :=
 ⟨by simpa using hs,h1,fun _ => ⟨_,rfl,fun j u hu => by
  rw [z6u,Nat.zero_add]
  exact z02 w cs e rfl (by simpa using hu)⟩⟩
theorem zcw {w1 w3:World} {v:Value} {n:Nat} {m:Mono} {e:TypeId} (h:w3.ownsRow w1.heap.size e 2 v (0 + n) ([] ++ z3d m)) (hn:n = m.length) (hb:inBounds m):∃ a c,v = .slice a n c ∧ Pows (New w1 w3) w3 v m:=by
 subst hn
 rw [Nat.zero_add,List.nil_append] at h
 have hp:=z67 h hb
 obtain ⟨a,c,rfl⟩:=hp.form
 exact ⟨a,c,rfl,hp⟩
theorem zoa {w1 w3:World} {cs:Array Value} {e:TypeId} (hg:(w1.alloc (.cells cs e)).grownBy w3 (some w1.heap.size)):Ext w1 w3 :=
 z0j (Ext.alloc (Ext.refl w1) _) hg (fun k hk => by
  have:w1.heap.size = k:=Option.some.inj hk
  omega)
theorem zko {wr w1 w3:World} (hx:Ext wr w1) (hg:w1.grownBy w3 (some wr.heap.size)):Ext wr w3 :=
 z0j hx hg (fun k hk => by
  have:wr.heap.size = k:=Option.some.inj hk
  omega)
theorem zkp {wr w1 w3:World} {o:Obj} {v:Value} {zs:List Nat} (h:U32s (New (wr.alloc o) w1) w1 v zs) (hg:w1.grownBy w3 (some wr.heap.size)):U32s (New wr w3) w3 v zs:=by
 have hne:∀ k,New (wr.alloc o) w1 k → wr.heap.size + 1 ≤ k:=fun k hk => by have:=hk.1; rw [size_alloc] at this; exact this
 exact h.to (Kept.grown hg (fun k hk => ⟨hk.2,fun e => by
  have e2:k = wr.heap.size:=Option.some.inj e
  have:=hne k hk
  omega⟩)) (fun k hk => ⟨by have:=hne k hk; omega,Nat.lt_of_lt_of_le hk.2 hg.size⟩)
theorem zib {S:Nat → Prop} (v:Value) (p:PZ) (w:World) (h:RTs S w v p) (hS:∀ k,S k → k < w.heap.size) (hsz:szP p) (hml:∀ t ∈ p,t.2.length ≤ 1000000) :
  Calls Tryz.prog 20 #[v] w fun e w' => ∃ v',e = .returned v' ∧ z0h (New w w') w' v' (ofP p) ∧ Ext w w':=by
 obtain ⟨i0,hi,hz0,hz1,hz2⟩:=info_parts Tryz.infoPower
 obtain ⟨j0,hj,jz0,jz1,jz2⟩:=info_parts Tryz.infoTerm
 have hl:=h.len_le
 have H:=hid h
 have HSZ:=hid hsz
 have HML:=hid hml
 obtain ⟨a,cap,rfl⟩:=h.form
 clear h hsz hml
 go_enter Tryz.func20,Tryz.ntmps20
 go_wp2
 go_loopw [3,4] (fun o i wr => ∃ k xs,k ≤ p.length ∧ i = .int .i64 (k:Nat) ∧ Ext w wr ∧ Hid (wr.ownsRow w.heap.size 49 3 o k xs) ∧ Hid (z0r (z37 w wr o) wr xs (ofP (p.take k)))) (fun _ i _ => p.length - (intOf i).toNat)
 case atStart => exact ⟨0,[],Nat.zero_le _,rfl,Ext.refl _,hid (World.ownsRow_nil _ _ _ _),hid rfl⟩
 case round =>
  obtain ⟨k,xs,hk,rfl,hx,HW,HXS⟩:=hrel
  have HX:=hid hx
  by_cases hlt:k < p.length
  ·obtain ⟨t,ht⟩:=z00 hlt
   obtain ⟨b,off,vd,vo,rfl,-,hn1,hm1,hSb,h1,h2,h3,h4,h5⟩:=H.out.cellAt ht
   have HT:=hid (zqe ht)
   have HTM:=hid (HML.out t (List.mem_of_getElem? ht))
   have HTZ:=hid (HSZ.out.2 t (List.mem_of_getElem? ht))
   have H4:=hid h4
   have H5:=hid h5
   have HIB:=hid h5.inBounds
   obtain ⟨ad,cd,rfl⟩:=h4.form
   obtain ⟨ao,co,rfl⟩:=h5.form
   have x0:Ext w wr.drew:=hx.drew
   have HX0:=hid x0
   have HXR:=hid ((Ext.refl wr).drew)
   have h0:_ ∧ _ ∧ _:=And.intro h1 (And.intro h2 h3)
   have c1:=fun (W:World) (hW:Ext wr.drew W) => zbg (S:=S) _ t.1 W (show ZV S W (.agg #[.bool (decide (t.1 < 0)),.slice ad (rep 10 t.1.natAbs).length cd]) t.1 from ⟨_,rfl,H4.out.ext (HX0.out.trans hW) hS⟩) (z0a hS (HX0.out.trans hW)) HTZ.out
   obtain ⟨bt,hbt⟩:∃ b,b = decide (t.1 < 0):=⟨_,rfl⟩
   obtain ⟨nt,hnt⟩:∃ n,n = (rep 10 t.1.natAbs).length:=⟨_,rfl⟩
   obtain ⟨nm,hnm⟩:∃ n,n = t.2.length:=⟨_,rfl⟩
   have HNM:=hid hnm
   rw [← hbt,← hnt,← hnm] at h0
   rw [← hbt,← hnt] at c1
   rw [← hnm] at H5
   have HC0:=hid h0
   have S0:_ ∧ _ ∧ _:=And.intro (x0.cell h0.1) (And.intro (x0.cell h0.2.1) (x0.cell h0.2.2))
   have C1:=hid c1
   have HB1:Hid (0 + nm ≤ maxLen):=hid (by have:=HTM.out; rw [← hnm] at this; unfold maxLen; omega)
   have HB2:Hid ((0 + nm) * 16 ≤ 140737488355328):=hid (by have:=HTM.out; rw [← hnm] at this; omega)
   have HB3:Hid (k + 1 ≤ maxLen):=hid (by have:=HSZ.out.1; unfold maxLen; omega)
   have HB4:Hid ((k + 1) * 56 ≤ 140737488355328):=hid (by have:=HSZ.out.1; omega)
   have HM0:Hid (0 ≤ maxLen):=hid (Nat.zero_le _)
   have HWR:=hid (z0o HW.out HXR.out)
   have HXSR:=hid (z11 HXS.out HXR.out)
   clear ht h0 h1 h2 h3 h4 h5 hx x0 c1 hbt hnt hnm
   go_wp2
   go_region_held3 (fun W => W.cell? ⟨b,off + k * 3,none⟩ = some (.bool bt) ∧ W.cell? ⟨b,off + k * 3 + 1,none⟩ = some (.slice ad nt cd) ∧ W.cell? ⟨b,off + k * 3 + 2,none⟩ = some (.slice ao nm co)) (first | exact S0 | exact ⟨cell_old _ S0.1,cell_old _ S0.2.1,cell_old _ S0.2.2⟩ | exact S1 | exact ⟨cell_old _ S1.1,cell_old _ S1.2.1,cell_old _ S1.2.2⟩ | exact S3 | exact ⟨cell_old _ S3.1,cell_old _ S3.2.1,cell_old _ S3.2.2⟩ | exact S5)
    (first
     | (go_at_call 52; refine (C1.out _ ?_).mono ?_; · exact Ext.refl _
        rintro e w1 ⟨v1,rfl,hz1,hx1⟩; have HX1:=hid hx1; have HXW1:Hid (Ext w w1):=hid (HX0.out.trans hx1); have S1:_ ∧ _ ∧ _:=And.intro (HXW1.out.cell HC0.out.1) (And.intro (HXW1.out.cell HC0.out.2.1) (HXW1.out.cell HC0.out.2.2))
        obtain ⟨vm,rfl,hu1⟩:=hz1; have HU1:=hid hu1; obtain ⟨am,cm,rfl⟩:=hu1.form; obtain ⟨ng,hng⟩:∃ b,b = (ofI t.1).neg:=⟨_,rfl⟩; obtain ⟨nl,hnl⟩:∃ b,b = (ofI t.1).mag.length:=⟨_,rfl⟩; rw [← hng,← hnl]; rw [← hnl] at HU1; have HNG:=hid hng; have HNL:=hid hnl
        have HOA:=hid (World.ownsRow_made (base:=w1.heap.size) (e:=51) (size:=2) w1 #[] 0 (Nat.le_refl _) HM0.out rfl); have HSRC1:=hid ((Pows.ext' H5.out (HXW1.out.alloc (.cells #[] 51)) hS).src.2); have HBS:=hid (World.grownBy_alloc w1 (.cells #[] 51) none).size; clear hx1 hu1 hng hnl)
     | (go_at_call 52; refine (C1.out _ ?_).mono ?_; · exact Ext.alloc (Ext.refl _) _
        rintro e w1 ⟨v1,rfl,hz1,hx1⟩; have HX1:Hid (Ext (wr.drew.alloc (.cells #[] 51)) w1):=hid hx1; have HXR1:=hid ((Ext.alloc (Ext.refl wr.drew) (.cells #[] 51)).trans hx1); have HXW1:Hid (Ext w w1):=hid (HX0.out.trans HXR1.out); have S1:_ ∧ _ ∧ _:=And.intro (HXW1.out.cell HC0.out.1) (And.intro (HXW1.out.cell HC0.out.2.1) (HXW1.out.cell HC0.out.2.2))
        obtain ⟨vm,rfl,hu1⟩:=hz1; have HU1:Hid (U32s (New (wr.drew.alloc (.cells #[] 51)) w1) w1 vm (ofI t.1).mag):=hid hu1; obtain ⟨am,cm,rfl⟩:=hu1.form; obtain ⟨ng,hng⟩:∃ b,b = (ofI t.1).neg:=⟨_,rfl⟩; obtain ⟨nl,hnl⟩:∃ b,b = (ofI t.1).mag.length:=⟨_,rfl⟩; rw [← hng,← hnl]; rw [← hnl] at HU1; have HNG:=hid hng; have HNL:=hid hnl
        have HOB:=hid (z0o (World.ownsRow_made (base:=wr.heap.size) (e:=51) (size:=2) wr.drew #[] 0 (Nat.le_refl _) HM0.out rfl) hx1); have HSRC1:=hid ((Pows.ext' H5.out HXW1.out hS).src.2); have HBS:=hid HXR1.out.size; clear hx1 hu1 hng hnl)
     | (refine z1i rfl (.tmp 18) (.tmp 23) 47 rfl w1.heap.size 51 i0 (.agg #[.int .i64 0,.int .i64 0]) 2 16 Tryz.underlying47 hi hz0 hz1 hz2 rfl (Nat.succ_pos _) (.slice (some ⟨w1.heap.size,0,none⟩) 0 0) 0 [] rfl HOA.out ao nm co (z3d t.2) rfl HSRC1.out HB1.out HB2.out HBS.out ?_; intro v3 w3 hown hg _; obtain ⟨a3,c3,rfl,hp3⟩:=zcw hown HNM.out HIB.out; have hx3:=zoa hg; have HXR3:Hid (Ext wr.drew w3):=hid (HX1.out.trans hx3); have HP3:Hid (Pows (New wr.drew w3) w3 (.slice a3 nm c3) t.2):=hid (hp3.to (Kept.refl _ _) (fun k h => ⟨Nat.le_trans HX1.out.size h.1,h.2⟩)); have HU3:Hid (U32s (New wr.drew w3) w3 (.slice am nl cm) (ofI t.1).mag):=hid (HU1.out.to (Kept.ext hx3 (fun _ h => h.2)) (fun k h => ⟨h.1,Nat.lt_of_lt_of_le h.2 hx3.size⟩)); clear hx3 hown hg hp3; have HXW3:Hid (Ext w w3):=hid (HX0.out.trans HXR3.out); have S3:_ ∧ _ ∧ _:=And.intro (HXW3.out.cell HC0.out.1) (And.intro (HXW3.out.cell HC0.out.2.1) (HXW3.out.cell HC0.out.2.2)); have HW3:=hid (z0o (z0o HWR.out HXR3.out) (Ext.alloc (Ext.refl w3) (.cells #[.bool ng,.slice am nl cm,.slice a3 nm c3] 49))); have HXS3:=hid (z11 HXSR.out HXR3.out); have HSRC3:=hid (z82 w3 #[.bool ng,.slice am nl cm,.slice a3 nm c3] 49 (z1x rfl rfl rfl) rfl); have HB5:=hid (Nat.le_trans HXW3.out.size (World.grownBy_alloc w3 (.cells #[.bool ng,.slice am nl cm,.slice a3 nm c3] 49) none).size))
     | (refine z1i rfl (.tmp 18) (.tmp 23) 47 rfl wr.heap.size 51 i0 (.agg #[.int .i64 0,.int .i64 0]) 2 16 Tryz.underlying47 hi hz0 hz1 hz2 rfl (Nat.succ_pos _) (.slice (some ⟨wr.heap.size,0,none⟩) 0 0) 0 [] rfl HOB.out ao nm co (z3d t.2) rfl HSRC1.out HB1.out HB2.out HBS.out ?_; intro v3 w3 hown hg _; obtain ⟨a3,c3,rfl,hp3⟩:=zcw (w1:=wr.drew) hown HNM.out HIB.out; have HXR3:Hid (Ext wr.drew w3):=hid (zko HXR1.out hg); have HP3:Hid (Pows (New wr.drew w3) w3 (.slice a3 nm c3) t.2):=hid hp3; have HU3:Hid (U32s (New wr.drew w3) w3 (.slice am nl cm) (ofI t.1).mag):=hid (zkp HU1.out hg); clear HXR1 hown hg hp3; have HXW3:Hid (Ext w w3):=hid (HX0.out.trans HXR3.out); have S3:_ ∧ _ ∧ _:=And.intro (HXW3.out.cell HC0.out.1) (And.intro (HXW3.out.cell HC0.out.2.1) (HXW3.out.cell HC0.out.2.2)); have HW3:=hid (z0o (z0o HWR.out HXR3.out) (Ext.alloc (Ext.refl w3) (.cells #[.bool ng,.slice am nl cm,.slice a3 nm c3] 49))); have HXS3:=hid (z11 HXSR.out HXR3.out); have HSRC3:=hid (z82 w3 #[.bool ng,.slice am nl cm,.slice a3 nm c3] 49 (z1x rfl rfl rfl) rfl); have HB5:=hid (Nat.le_trans HXW3.out.size (World.grownBy_alloc w3 (.cells #[.bool ng,.slice am nl cm,.slice a3 nm c3] 49) none).size))
     | (refine z1i rfl (.tmp 11) (.tmp 26) 23 rfl w.heap.size 49 j0 (.agg #[.bool false,.slice none 0 0,.slice none 0 0]) 3 56 Tryz.underlying23 hj jz0 jz1 jz2 rfl (Nat.succ_pos _) _ k xs rfl HW3.out (some ⟨w3.heap.size,0,none⟩) 1 1 _ rfl HSRC3.out HB3.out HB4.out HB5.out ?_; intro v5 w5 hown hg hbk; have HW5:=hid hown; have HG5:=hid hg; have HBK:=hid hbk; have HX5:=hid (z1f (HXW3.out.alloc (.cells #[.bool ng,.slice am nl cm,.slice a3 nm c3] 49)) HW3.out hg); have S5:_ ∧ _ ∧ _:=And.intro (HX5.out.cell HC0.out.1) (And.intro (HX5.out.cell HC0.out.2.1) (HX5.out.cell HC0.out.2.2)); clear hown hg hbk))
   all_goals
    go_wp2
    go_roundw
    case rel =>
     refine ⟨k + 1,xs ++ (#[.bool ng,.slice am nl cm,.slice a3 nm c3]:Array Value).toList,by omega,by go_num,HX5.out,HW5,hid ?_⟩
     rw [HT.out]
     have hone:z0r (New wr.drew w3) w3 (#[.bool ng,.slice am nl cm,.slice a3 nm c3]:Array Value).toList [⟨ofI t.1,t.2⟩]:=by
      rw [HNG.out]
      exact z0r.single (t:=⟨ofI t.1,t.2⟩) HU3.out HP3.out
     have hall:=HXS3.out.append (zcv HX0.out.size HWR.out hone)
     exact z3u (z11 hall (Ext.alloc (Ext.refl w3) (.cells #[.bool ng,.slice am nl cm,.slice a3 nm c3] 49))) HG5.out HBK.out (Nat.le_refl _)
    case measure => simp only [intOf]; omega
  ·obtain rfl:k = p.length:=by omega
   have HE:Hid (p.take p.length = p):=hid List.take_length
   clear hx
   go_wp2
   go_ret
   refine ⟨_,rfl,?_,HX.out⟩
   have hc:=HXS.out
   rw [HE.out] at hc
   exact z5s (by rw [z6g]; exact HW.out) (hc.to (Kept.refl _ _) (fun _ h => h.1)) (fun k h1 h2 => ⟨h1,h2⟩)
end
section
open Go.RowKit
theorem zcx {z:Int} {n:Nat} (h:z.natAbs < 10 ^ n) (hn:n ≤ 2000000):szZ z:=Nat.le_trans (z0d z05 _ _ h) hn
theorem zkq {n:Nat} (h:n < 9223372036854775808):szZ (n:Int):=zcx (n:=19) (by simp only [Int.natAbs_natCast]; omega) (by omega)
def numP (n:Nat):PZ:=putP [] (n:Int) []
theorem zeu (n:Nat) (w:World) (hn:n < 9223372036854775808) :
  Calls Tryz.prog 19 #[.int .i64 (n:Nat)] w fun e w' => ∃ v',e = .returned v' ∧ RTs (New w w') w' v' (numP n) ∧ Ext w w':=by
 have C1:=hid (z7d n w hn)
 have HZ:=hid (zkq hn)
 clear hn
 go_enter Tryz.func19,Tryz.ntmps19
 go_wp2_with fail
 refine C1.out.mono ?_
 rintro e w1 ⟨v1,rfl,hz1,hx1⟩
 have HX1:=hid hx1
 have C2:=hid (z5r (S:=New w w1) (.slice none 0 0) v1 (.slice none 0 0) [] (n:Int) [] w1 (fun _ h => h.2) (RTs.nilv _ _ _ _ (by omega)) hz1 (Pows.empty _ _ _) z33.may rfl ⟨by simp,fun t ht => by simp at ht⟩ HZ.out)
 clear hx1 hz1
 go_wp2_with fail
 refine C2.out.mono ?_
 rintro e w2 ⟨v2,rfl,hp2,hx2⟩
 have HX2:=hid (HX1.out.trans hx2)
 have HP2:Hid (RTs (New w w2) w2 v2 (numP n)):=hid (hp2.to (Kept.refl _ _) (fun k hk => by
  rcases hk with h | h
  ·exact ⟨h.1,Nat.lt_of_lt_of_le h.2 hx2.size⟩
  ·exact ⟨Nat.le_trans HX1.out.size h.1,h.2⟩))
 clear hp2 hx2
 go_wp2
 all_goals
  go_ret
  exact ⟨_,rfl,HP2.out,HX2.out⟩
theorem zrg (x:Int) (w:World) (hx:z40 x) :
  Calls Tryz.prog 30 #[.int .i64 x] w fun e w' => ∃ v',e = .returned v' ∧ RTs (New w w') w' v' [(1,[(x,1)])] ∧ Ext w w':=by
 have C1:=hid (z7d 1 w (by omega))
 have HXX:=hid hx
 clear hx
 go_enter Tryz.func30,Tryz.ntmps30
 go_wp2_with fail
 refine C1.out.mono ?_
 rintro e w1 ⟨v1,rfl,hz1,hx1⟩
 obtain ⟨vd,rfl,hd⟩:=hz1
 have HX1:=hid hx1
 have HD:=hid hd
 obtain ⟨ad,cd,rfl⟩:=hd.form
 obtain ⟨nd,hnd⟩:∃ n,n = (rep 10 ((1:Nat):Int).natAbs).length:=⟨_,rfl⟩
 obtain ⟨bd,hbd⟩:∃ b,b = decide (((1:Nat):Int) < 0):=⟨_,rfl⟩
 rw [← hnd] at HD ⊢
 rw [← hbd]
 have HB:=hid hbd
 clear hx1 hd hnd hbd
 go_wp2
 go_ret
 have x2:Ext w1 ((w1.alloc (.cells #[.int .i64 x,.int .i64 1] 51)).alloc (.cells #[.bool bd,.slice ad nd cd,.slice (some ⟨w1.heap.size,0,none⟩) 1 1] 95)):=(Ext.alloc (Ext.alloc (Ext.refl w1) _) _)
 have hb:(w1.alloc (.cells #[.int .i64 x,.int .i64 1] 51)).heap.size = w1.heap.size + 1:=size_alloc _ _
 refine ⟨_,rfl,?_,HX1.out.trans x2⟩
 refine ⟨w1.heap.size + 1,0,⟨_,1,rfl,Nat.le_refl _,by decide,fun _ => by rw [← hb],fun _ => ⟨Nat.le_trans HX1.out.size (Nat.le_succ _),by rw [size_alloc,hb] <;> omega⟩⟩,fun j t hj => ?_⟩
 have hj0:j = 0:=by have:=z03 hj; simp at this; exact this
 subst hj0
 obtain rfl:(1,[(x,1)]) = t:=by simpa using hj
 refine ⟨.slice ad nd cd,.slice (some ⟨w1.heap.size,0,none⟩) 1 1,?_,?_,?_,HD.out.to (Kept.ext x2 (fun _ h => h.2)) (fun k h => ⟨h.1,Nat.lt_of_lt_of_le h.2 x2.size⟩),?_⟩
 ·exact z02 _ _ _ (by rw [hb]) (by rw [HB.out]; rfl)
 ·exact z02 _ _ _ (by rw [hb]) rfl
 ·exact z02 _ _ _ (by rw [hb]) rfl
 ·refine ⟨w1.heap.size,0,⟨_,1,rfl,Nat.le_refl _,by decide,fun _ => rfl,fun _ => ⟨HX1.out.size,by rw [size_alloc,hb] <;> omega⟩⟩,fun j t hj => ?_⟩
  have hj0:j = 0:=by have:=z03 hj; simp at this; exact this
  subst hj0
  obtain rfl:(x,1) = t:=by simpa using hj
  have hin:z40 (1:Int):=by unfold z40; omega
  exact ⟨⟨HXX.out,hin⟩,cell_old _ (z02 _ _ _ rfl rfl),cell_old _ (z02 _ _ _ rfl rfl)⟩
end
section
open Go.RowKit
def z83 (t u:Int × Mono):Option (Int × Mono):=(z4d t.2 u.2).map fun m => (t.1 * u.1,m)
def z43 (p q:PZ):List (Option (Int × Mono)):=p.flatMap fun t => q.map (z83 t)
def allO:List (Option (Int × Mono)) → Option PZ
 | [] => some []
 | none :: _ => none
 | some x :: r => (allO r).map (x :: ·)
def z2n (p q:PZ):Option PZ:=(allO (z43 p q)).map z25
theorem zcy {xs:PZ}:allO (xs.map some) = some xs:=by
 induction xs with
 | nil => rfl
 | cons x r ih => simp only [List.map_cons,allO,ih,Option.map_some]
theorem zcz {l r:List (Option (Int × Mono))}:allO (l ++ none :: r) = none:=by
 induction l with
 | nil => rfl
 | cons x l ih =>
  cases x with
  | none => rfl
  | some x => simp only [List.cons_append,allO,ih,Option.map_none]
def bndP (p:PZ) (L M:Nat):Prop:=p.length ≤ L ∧ ∀ t ∈ p,t.1.natAbs ≤ M
theorem zgd (p:PZ) (c:Int) (m:Mono):(putP p c m).length ≤ p.length + 1:=by
 induction p with
 | nil => simp only [putP]; split <;> simp
 | cons t r ih =>
  simp only [putP]
  split
  ·simp only [List.length_cons]; omega
  ·split
   ·split <;> simp only [List.length_cons] <;> omega
   ·split <;> simp only [List.length_cons] <;> omega
theorem zob {p:PZ} {c:Int} {m:Mono} {M N:Nat} (h:∀ t ∈ p,t.1.natAbs ≤ M) (hc:c.natAbs ≤ N):∀ t ∈ putP p c m,t.1.natAbs ≤ M + N:=by
 induction p with
 | nil =>
  intro t ht
  simp only [putP] at ht
  split at ht
  ·simp at ht
  ·rw [List.mem_singleton.1 ht]; simp only; omega
 | cons u r ih =>
  have hu:=h u (by simp)
  have hr:∀ t ∈ r,t.1.natAbs ≤ M:=fun t ht => h t (by simp [ht])
  have ih:=ih hr
  intro t ht
  simp only [putP] at ht
  split at ht
  ·rcases List.mem_cons.1 ht with rfl | ht
   ·omega
   ·exact ih t ht
  ·split at ht
   ·split at ht
    ·have:=hr t ht; omega
    ·rcases List.mem_cons.1 ht with rfl | ht
     ·simp only; omega
     ·have:=hr t ht; omega
   ·split at ht
    ·have:=h t ht; omega
    ·rcases List.mem_cons.1 ht with rfl | ht
     ·simp only; omega
     ·have:=h t ht; omega
theorem zoc {p:PZ} {c:Int} {m:Mono} {L M N:Nat} (h:bndP p L M) (hc:c.natAbs ≤ N):bndP (putP p c m) (L + 1) (M + N) :=
 ⟨Nat.le_trans (zgd _ _ _) (by have:=h.1; omega),zob h.2 hc⟩
theorem zod {p l:PZ} {L M N:Nat} (h:bndP p L M) (hl:∀ t ∈ l,t.1.natAbs ≤ N):bndP (addP p l) (L + l.length) (M + l.length * N):=by
 induction l generalizing p L M with
 | nil => simpa [addP] using h
 | cons t r ih =>
  have h1:=ih (zoc (m:=t.2) h (hl t (by simp))) (fun u hu => hl u (by simp [hu]))
  show bndP (addP (putP p t.1 t.2) r) _ _
  simp only [List.length_cons]
  refine ⟨by have:=h1.1; omega,fun u hu => ?_⟩
  have:=h1.2 u hu
  rw [Nat.add_mul]
  omega
theorem zrh:bndP [] 0 0:=⟨by simp,fun t ht => by simp at ht⟩
theorem zkr {p:PZ} {L M n:Nat} (h:bndP p L M) (hL:L ≤ 1000000000000) (hM:M < 10 ^ n) (hn:n ≤ 2000000):szP p :=
 ⟨Nat.le_trans h.1 hL,fun t ht => zcx (Nat.lt_of_le_of_lt (h.2 t ht) hM) hn⟩
theorem zd0 {m:Mono} {l v e:Int} (h:z0e l m = true) (hv:∀ x ∈ m,x.1 < v) (hl:l < v) (h2:v ≤ 200) (h3:1 ≤ e ∧ e ≤ 10000):z0e l (m ++ [(v,e)]) = true:=by
 induction m generalizing l with
 | nil =>
  simp only [List.nil_append,z0e,Bool.and_true,decide_eq_true_eq]
  omega
 | cons x r ih =>
  simp only [List.cons_append,z0e,Bool.and_eq_true] at h ⊢
  exact ⟨h.1,ih h.2 (fun y hy => hv y (by simp [hy])) (hv x (by simp))⟩
theorem zge (f:Nat → Int) (k:Nat):∀ x ∈ ofE f k,x.1 ≤ (k:Int):=by
 induction k with
 | zero => intro x hx; simp [ofE] at hx
 | succ k ih =>
  intro x hx
  simp only [ofE] at hx
  split at hx
  ·rcases List.mem_append.1 hx with hx | hx
   ·have:=ih x hx; omega
   ·rw [List.mem_singleton.1 hx]; simp only; omega
  ·have:=ih x hx; omega
theorem zks {f:Nat → Int} {n:Nat} (hn:n ≤ 200) (h:∀ j,1 ≤ j → j ≤ n → f j ≤ 10000):mayM (ofE f n) = true:=by
 induction n with
 | zero => rfl
 | succ k ih =>
  have ih:=ih (by omega) (fun j h1 h2 => h j h1 (by omega))
  simp only [ofE]
  split
  ·rename_i hp
   refine zd0 ih (fun x hx => ?_) (by omega) (by omega) ⟨by omega,h (k + 1) (by omega) (Nat.le_refl _)⟩
   have:=zge f k x hx
   omega
  ·exact ih
theorem zd1 {f:Nat → Int} {n:Nat} (h:z5a f n = false):∀ j,1 ≤ j → j ≤ n → f j ≤ 10000:=by
 induction n with
 | zero => intro j h1 h2; omega
 | succ k ih =>
  simp only [z5a,Bool.or_eq_false_iff,decide_eq_false_iff_not] at h
  intro j h1 h2
  by_cases e:j = k + 1
  ·subst e; have:=h.2; omega
  ·exact ih h.1 j h1 (by omega)
theorem zas {a b m:Mono} (h:z4d a b = some m):mayM m = true:=by
 unfold z4d at h
 split at h
 ·cases h
 ·rename_i ho
  cases h
  exact zks (Nat.le_refl _) (zd1 (by simpa using ho))
theorem z8j (p q:PZ):(z43 p q).length = p.length * q.length:=by
 induction p with
 | nil => simp [z43]
 | cons t r ih =>
  have e:z43 (t :: r) q = q.map (z83 t) ++ z43 r q:=by unfold z43; rw [List.flatMap_cons]
  rw [e,List.length_append,List.length_map,ih,List.length_cons,Nat.add_mul]
  omega
theorem zd2 {p q:PZ} {k j:Nat} {t u:Int × Mono} (ht:p[k]? = some t) (hu:q[j]? = some u):(z43 p q)[k * q.length + j]? = some (z83 t u):=by
 have hj:=z03 hu
 induction p generalizing k with
 | nil => simp at ht
 | cons x r ih =>
  have e:z43 (x :: r) q = q.map (z83 x) ++ z43 r q:=by unfold z43; rw [List.flatMap_cons]
  rw [e]
  cases k with
  | zero =>
   obtain rfl:x = t:=by simpa using ht
   rw [Nat.zero_mul,Nat.zero_add,List.getElem?_append_left (by rw [List.length_map]; exact hj),List.getElem?_map,hu]
   rfl
  | succ k =>
   have:=ih (k:=k) (by simpa using ht)
   rw [List.getElem?_append_right (by rw [List.length_map,Nat.add_mul]; omega),List.length_map,show (k + 1) * q.length + j - q.length = k * q.length + j by rw [Nat.add_mul]; omega]
   exact this
theorem zat {t u x:Int × Mono} (h:z83 t u = some x):mayM x.2 = true ∧ x.1 = t.1 * u.1:=by
 unfold z83 at h
 cases hr:z4d t.2 u.2 with
 | none => rw [hr] at h; simp at h
 | some m =>
  rw [hr] at h
  simp at h
  subst h
  exact ⟨zas hr,rfl⟩
theorem zkt {p q:PZ} {x:Int × Mono} (h:some x ∈ z43 p q):mayM x.2 = true ∧ ∃ t ∈ p,∃ u ∈ q,x.1 = t.1 * u.1:=by
 unfold z43 at h
 obtain ⟨t,ht,h⟩:=List.mem_flatMap.1 h
 obtain ⟨u,hu,h⟩:=List.mem_map.1 h
 exact ⟨(zat h).1,t,ht,u,hu,(zat h).2⟩
def z4l (p q:PZ) (n:Nat) (xs:PZ):Prop:=(z43 p q).take n = xs.map some
theorem z9n (p q:PZ):z4l p q 0 []:=rfl
theorem z9o {p q:PZ} {n:Nat} {xs:PZ} {x:Int × Mono} (h:z4l p q n xs) (hx:(z43 p q)[n]? = some (some x)):z4l p q (n + 1) (xs ++ [x]):=by
 unfold z4l at h ⊢
 rw [List.take_add_one,h,hx]
 simp
theorem z9p {p q:PZ} {n:Nat} {xs:PZ} (_h:z4l p q n xs) (hx:(z43 p q)[n]? = some none):z2n p q = none:=by
 unfold z2n
 have e:z43 p q = (z43 p q).take n ++ none :: (z43 p q).drop (n + 1):=by rw [← z7u hx,List.take_append_drop]
 rw [e,zcz]
 rfl
theorem zau {p q:PZ} {n:Nat} {xs:PZ} (h:z4l p q n xs) (hn:n = p.length * q.length):z2n p q = some (z25 xs):=by
 unfold z4l at h
 rw [List.take_of_length_le (by rw [z8j]; omega)] at h
 unfold z2n
 rw [h,zcy]
 rfl
theorem z6h {p q:PZ} {n:Nat} {xs:PZ} (h:z4l p q n xs) {x:Int × Mono} (hx:x ∈ xs):mayM x.2 = true ∧ ∃ t ∈ p,∃ u ∈ q,x.1 = t.1 * u.1:=by
 apply zkt
 have:some x ∈ (z43 p q).take n:=by rw [h]; exact List.mem_map.2 ⟨x,hx,rfl⟩
 exact List.mem_of_mem_take this
theorem zic {p q:PZ} {n:Nat} {xs:PZ} (h:z4l p q n xs):xs.length ≤ p.length * q.length:=by
 have h1:((z43 p q).take n).length = xs.length:=by rw [h,List.length_map]
 rw [← h1,List.length_take,z8j]
 exact Nat.min_le_right _ _
def szM (p q:PZ):Prop:=∃ N n,(∀ t ∈ p,∀ u ∈ q,(t.1 * u.1).natAbs ≤ N) ∧ p.length * q.length ≤ 1000000000000 ∧ p.length * q.length * N < 10 ^ n ∧ n ≤ 2000000
theorem zku {p q:PZ} {n:Nat} {xs:PZ} (h:z4l p q n xs) (hs:szM p q):szP (z25 xs):=by
 obtain ⟨N,e,h1,h2,h3,h4⟩:=hs
 have hl:=zic h
 have hb:=zod (N:=N) zrh (l:=xs) (fun t ht => by
  obtain ⟨_,a,ha,b,hb,hh⟩:=z6h h ht
  rw [hh]
  exact h1 a ha b hb)
 simp only [Nat.zero_add] at hb
 exact zkr hb (by omega) (Nat.lt_of_le_of_lt (Nat.mul_le_mul_right N hl) h3) h4
theorem zri {p q:PZ} (hs:szM p q) {t u:Int × Mono} (ht:t ∈ p) (hu:u ∈ q):szZ (t.1 * u.1):=by
 obtain ⟨N,e,h1,h2,h3,h4⟩:=hs
 have h5:=h1 t ht u hu
 have hp:0 < p.length:=List.length_pos_of_mem ht
 have hq:0 < q.length:=List.length_pos_of_mem hu
 have:1 * N ≤ p.length * q.length * N:=Nat.mul_le_mul_right N (Nat.mul_pos hp hq)
 exact zcx (Nat.lt_of_le_of_lt (by omega) h3) h4
end
section
open Go.RowKit
def zt3:Option PZ → Bool
 | none => false
 | some _ => true
def zkv:Option PZ → PZ
 | none => []
 | some p => p
theorem zev {S:Nat → Prop} (vp vq:Value) (p q:PZ) (w:World) (hS:∀ k,S k → k < w.heap.size) (hp:RTs S w vp p) (hq:RTs S w vq q) (hmp:z0p p) (hmq:z0p q) (hszp:szP p) (hszq:szP q) (hsz:szM p q) :
  Calls Tryz.prog 51 #[vp,vq] w fun e w' => ∃ v',e = .returned (.tuple #[v',.bool (zt3 (z2n p q))]) ∧ RTs (Plus S w w') w' v' (zkv (z2n p q)) ∧ Ext w w':=by
 have hlp:=hp.len_le
 have hlq:=hq.len_le
 have HP:=hid hp
 have HQ:=hid hq
 have HMP:=hid hmp
 have HMQ:=hid hmq
 have HZP:=hid hszp
 have HZQ:=hid hszq
 have HSZ:=hid hsz
 obtain ⟨ap,cp,rfl⟩:=hp.form
 obtain ⟨aq,cq,rfl⟩:=hq.form
 obtain ⟨R,hR⟩:∃ R,R = z2n p q:=⟨_,rfl⟩
 rw [← hR]
 have HR:=hid hR
 clear hp hq hmp hmq hszp hszq hsz hR
 go_enter Tryz.func51,Tryz.ntmps51
 go_wp2
 go_loopw [6,7] (fun o i wr => ∃ k xs n,k ≤ p.length ∧ i = .int .i64 (k:Nat) ∧ Ext w wr ∧ Hid (n = k * q.length) ∧ Hid (z4l p q n xs) ∧ Hid (RTs (Plus S w wr) wr o (z25 xs))) (fun _ i _ => p.length - (intOf i).toNat)
 case atStart => exact ⟨0,[],0,Nat.zero_le _,rfl,Ext.refl _,hid (by rw [Nat.zero_mul]),hid (z9n _ _),hid (RTs.nilv _ _ _ _ (by omega))⟩
 case round =>
  obtain ⟨k,xs,n,hk,rfl,hx,HN,HF,HO⟩:=hrel
  have HX:=hid hx
  by_cases hlt:k < p.length
  ·obtain ⟨t,ht⟩:=z00 hlt
   have HT:=hid ht
   clear ht hx
   go_wp2
   go_loopw [6,8] (fun o i wr => ∃ j xs n,j ≤ q.length ∧ i = .int .i64 (j:Nat) ∧ Ext w wr ∧ Hid (n = k * q.length + j) ∧ Hid (z4l p q n xs) ∧ Hid (RTs (Plus S w wr) wr o (z25 xs))) (fun _ i _ => q.length - (intOf i).toNat)
   case atStart => exact ⟨0,xs,n,Nat.zero_le _,rfl,HX.out,hid (by rw [HN.out,Nat.add_zero]),HF,HO⟩
   case round =>
    clear HO HF HN HX
    clear xs n
    obtain ⟨j,xs,n,hj,rfl,hx,HN,HF,HO⟩:=hrel
    have HX:=hid hx
    by_cases hlj:j < q.length
    ·obtain ⟨u,hu⟩:=z00 hlj
     have HGET:Hid ((z43 p q)[n]? = some (z83 t u)):=hid (by rw [HN.out]; exact zd2 HT.out hu)
     have HTP:=hid (List.mem_of_getElem? HT.out)
     have HUQ:=hid (List.mem_of_getElem? hu)
     obtain ⟨b,off,vd,vo,rfl,-,hn1,hm1,hSb,h1,h2,h3,h4,h5⟩:=HP.out.cellAt HT.out
     obtain ⟨b',off',vd',vo',rfl,-,hn1',hm1',hSb',h1',h2',h3',h4',h5'⟩:=HQ.out.cellAt hu
     have H4:=hid h4
     have H5:=hid h5
     have H4':=hid h4'
     have H5':=hid h5'
     obtain ⟨ad,cd,rfl⟩:=h4.form
     obtain ⟨ao,co,rfl⟩:=h5.form
     obtain ⟨ad',cd',rfl⟩:=h4'.form
     obtain ⟨ao',co',rfl⟩:=h5'.form
     have x0:Ext w wr.drew:=hx.drew
     have HX0:=hid x0
     have HXR:=hid ((Ext.refl wr).drew)
     have S0:_ ∧ _:=And.intro (x0.cell h3) (x0.cell h3')
     have CT:=zep (S:=S) _ _ t.2 u.2 wr.drew (H5.out.ext x0 hS) (H5'.out.ext x0 hS) (z0a hS x0) (HMP.out t HTP.out) (HMQ.out u HUQ.out)
     have CM:=fun (W:World) (hW:Ext w W) => zkc (S:=S) (.agg #[.bool (decide (t.1 < 0)),.slice ad (rep 10 t.1.natAbs).length cd]) (.agg #[.bool (decide (u.1 < 0)),.slice ad' (rep 10 u.1.natAbs).length cd']) t.1 u.1 W ⟨_,rfl,H4.out.ext hW hS⟩ ⟨_,rfl,H4'.out.ext hW hS⟩ (z0a hS hW) (HZP.out.2 t HTP.out) (HZQ.out.2 u HUQ.out)
     obtain ⟨bt,hbt⟩:∃ b,b = decide (t.1 < 0):=⟨_,rfl⟩
     obtain ⟨nt,hnt⟩:∃ n,n = (rep 10 t.1.natAbs).length:=⟨_,rfl⟩
     obtain ⟨bu,hbu⟩:∃ b,b = decide (u.1 < 0):=⟨_,rfl⟩
     obtain ⟨nu,hnu⟩:∃ n,n = (rep 10 u.1.natAbs).length:=⟨_,rfl⟩
     obtain ⟨mt,hmt⟩:∃ n,n = t.2.length:=⟨_,rfl⟩
     obtain ⟨mu,hmu⟩:∃ n,n = u.2.length:=⟨_,rfl⟩
     rw [← hbt,← hnt,← hbu,← hnu] at CM
     rw [← hmt,← hmu] at S0 CT
     rw [← hbt] at h1
     rw [← hnt] at h2
     rw [← hbu] at h1'
     rw [← hnu] at h2'
     have HC0:Hid (_ ∧ _ ∧ _ ∧ _):=hid (And.intro h1 (And.intro h2 (And.intro h1' h2')))
     have HCM:=hid CM
     have HSO:=hid (zri HSZ.out HTP.out HUQ.out)
     have HSX:=hid (zku HF.out HSZ.out)
     have HMX:Hid (z0p (z25 xs)):=hid (z5l (fun y hy => (z6h HF.out hy).1)).may
     clear hu h1 h2 h3 h4 h5 h1' h2' h3' h4' h5' hx x0 CM hbt hnt hbu hnu hmt hmu
     cases hr:z4d t.2 u.2 with
     | none =>
      have HRN:Hid (R = none):=hid (HR.out.trans (z9p HF.out (by rw [HGET.out]; unfold z83; rw [hr]; rfl)))
      rw [hr] at CT
      unfold zr7 zr8 at CT
      simp only at CT
      have HCT:=hid CT
      clear CT hr
      go_wp2
      go_region_held3 (fun W => W.cell? ⟨b,off + k * 3 + 2,none⟩ = some (.slice ao mt co) ∧ W.cell? ⟨b',off' + j * 3 + 2,none⟩ = some (.slice ao' mu co')) (first | exact S0 | exact S1)
       (first
        | (go_at_call 87; (with_reducible refine HCT.out.mono ?_); rintro e w1 ⟨v1,rfl,hp1,hx1⟩; have S1:_ ∧ _:=And.intro (hx1.cell S0.1) (hx1.cell S0.2); have HX1:=hid (HX0.out.trans hx1); clear hx1 hp1))
      go_wp2
      all_goals
       go_ret2
       rw [HRN.out]
       exact ⟨_,rfl,RTs.nilv _ _ _ _ (by omega),HX1.out⟩
     | some m =>
      have HMM:=hid (zas hr)
      have HNX:=hid (z9o HF.out (x:=(t.1 * u.1,m)) (by rw [HGET.out]; unfold z83; rw [hr]; rfl))
      rw [hr] at CT
      unfold zr7 zr8 at CT
      simp only at CT
      have HCT:=hid CT
      clear CT hr
      go_wp2
      go_region_held3 (fun W => W.cell? ⟨b,off + k * 3 + 2,none⟩ = some (.slice ao mt co) ∧ W.cell? ⟨b',off' + j * 3 + 2,none⟩ = some (.slice ao' mu co')) (first | exact S0 | exact S1)
       (first
        | (go_at_call 87; (with_reducible refine HCT.out.mono ?_); rintro e w1 ⟨v1,rfl,hp1,hx1⟩; have S1:_ ∧ _:=And.intro (hx1.cell S0.1) (hx1.cell S0.2); have HX1:=hid (HX0.out.trans hx1); have HXR1:=hid (HXR.out.trans hx1); have HP1:Hid (Pows (Plus S w w1) w1 v1 m):=hid (hp1.to (Kept.refl _ _) (zbh HX0.out.size)); clear hx1 hp1))
      have x1:Ext w w1.drew:=HX1.out.drew
      have HX1D:=hid x1
      have T0:_ ∧ _ ∧ _ ∧ _:=And.intro (x1.cell HC0.out.1) (And.intro (x1.cell HC0.out.2.1) (And.intro (x1.cell HC0.out.2.2.1) (x1.cell HC0.out.2.2.2)))
      have HCM1:=hid (HCM.out w1.drew x1)
      clear x1 S0 S1
      go_wp2
      go_region_held3 (fun W => W.cell? ⟨b,off + k * 3,none⟩ = some (.bool bt) ∧ W.cell? ⟨b,off + k * 3 + 1,none⟩ = some (.slice ad nt cd) ∧ W.cell? ⟨b',off' + j * 3,none⟩ = some (.bool bu) ∧ W.cell? ⟨b',off' + j * 3 + 1,none⟩ = some (.slice ad' nu cd')) (first | exact T0 | exact T1 | exact T2)
       (first
        | (go_at_call 75; (with_reducible refine HCM1.out.mono ?_); rintro e w2 ⟨v2,rfl,hz2,hx2⟩; have T1:_ ∧ _ ∧ _ ∧ _:=And.intro (hx2.cell T0.1) (And.intro (hx2.cell T0.2.1) (And.intro (hx2.cell T0.2.2.1) (hx2.cell T0.2.2.2))); have HX2:Hid (Ext w w2):=hid (HX1D.out.trans hx2); have HX12:Hid (Ext w1 w2):=hid (((Ext.refl w1).drew).trans hx2); have C2:=hid (z5r (S:=Plus S w w2) _ _ _ (z25 xs) (t.1 * u.1) m w2 (z2o hS HX2.out) (RTs.later hS HO.out HX.out (HXR1.out.trans HX12.out)) (hz2.to (Kept.refl _ _) (zbh HX1D.out.size)) (HP1.out.to (Kept.ext HX12.out (z2o hS HX1.out)) (z4f HX12.out.size)) HMX.out HMM.out HSX.out HSO.out); clear hx2 hz2)
        | (go_at_call 40; (with_reducible refine C2.out.mono ?_); rintro e w3 ⟨v3,rfl,hp3,hx3⟩; have T2:_ ∧ _ ∧ _ ∧ _:=And.intro (hx3.cell T1.1) (And.intro (hx3.cell T1.2.1) (And.intro (hx3.cell T1.2.2.1) (hx3.cell T1.2.2.2))); have HX3:=hid (HX2.out.trans hx3); have HP3:=hid (hp3.to (Kept.refl _ _) (z7e HX2.out hx3)); clear hx3 hp3))
      go_wp2
      go_roundw
      case rel => exact ⟨j + 1,xs ++ [(t.1 * u.1,m)],n + 1,by omega,by go_num,HX3.out,hid (by rw [HN.out,Nat.add_assoc]),HNX,hid (by unfold z25; rw [z9m]; exact HP3.out)⟩
      case measure => simp only [intOf]; omega
    ·obtain rfl:j = q.length:=by omega
     clear hx
     go_wp2
     go_roundw
     case rel => exact ⟨k + 1,xs,n,by omega,by go_num,HX.out,hid (by rw [HN.out,Nat.add_mul,Nat.one_mul]),HF,HO⟩
     case measure => simp only [intOf]; omega
  ·obtain rfl:k = p.length:=by omega
   have HRS:=hid (HR.out.trans (zau HF.out HN.out))
   clear hx
   go_wp2
   all_goals
    go_ret2
    rw [HRS.out]
    exact ⟨_,rfl,HO.out,HX.out⟩
end
section
open Go.RowKit
theorem z6r.form {S:Nat → Prop} {w:World} {v:Value} {zs:List (List RTerm)} (h:z6r S w v zs):∃ a cap,v = .slice a zs.length cap:=by
 obtain ⟨b,off,⟨a,cap,h1,_⟩,_⟩:=h
 exact ⟨a,cap,h1⟩
theorem z6r.ext {S:Nat → Prop} {w W:World} {v:Value} {zs:List (List RTerm)} (h:z6r S w v zs) (hx:Ext w W) (hS:∀ k,S k → k < w.heap.size):z6r S W v zs:=h.to (Kept.ext hx hS) (fun _ h => h)
theorem z6r.len_le {S:Nat → Prop} {w:World} {v:Value} {zs:List (List RTerm)} (h:z6r S w v zs):zs.length ≤ 9223372036854775807:=by
 obtain ⟨b,off,⟨a,cap,h1,h2,h3,_⟩,_⟩:=h
 unfold maxLen at h3
 omega
theorem z6r.cellAt {S:Nat → Prop} {w:World} {ts:List (List RTerm)} {a:Option Addr} {n cap k:Nat} {t:List RTerm} (h:z6r S w (.slice a n cap) ts) (ht:ts[k]? = some t) :
  ∃ b off vp,a = some ⟨b,off,none⟩ ∧ n = ts.length ∧ n ≤ cap ∧ cap ≤ 9223372036854775807 ∧ S b ∧ w.cell? ⟨b,off + k,none⟩ = some vp ∧ z0h S w vp t:=by
 obtain ⟨b,off,⟨a',cap',h1,h2,h3,h4,h5⟩,hc⟩:=h
 obtain ⟨rfl,rfl,rfl⟩:a = a' ∧ n = ts.length ∧ cap = cap':=by simpa using h1
 have hp:0 < ts.length:=by have:=z03 ht; omega
 obtain ⟨vp,g1,g2⟩:=hc k t ht
 exact ⟨b,off,vp,h4 hp,rfl,h2,h3,h5 hp,g1,g2⟩
def zt4 (l:List (List RTerm)):Prop:=∀ p ∈ l,zaj p
end
section
open Go.RowKit
theorem zd3 {S:Nat → Prop} (vp vq:Value) (p q:PZ) (w:World) (hS:∀ k,S k → k < w.heap.size) (hp:RTs S w vp p) (hq:RTs S w vq q) (hmp:z0p p) (hmq:z0p q) (hszp:szP p) (hszq:szP q) (hsz:szM p q) :
  Calls Tryz.prog 18 #[vp,vq] w fun e w' => ∃ v',e = .returned v' ∧ RTs (Plus S w w') w' v' (zkv (z2n p q)) ∧ Ext w w':=by
 have HT:=hid (zev vp vq p q w hS hp hq hmp hmq hszp hszq hsz)
 clear hp hq
 go_enter Tryz.func18,Tryz.ntmps18
 go_wp2_with fail
 refine HT.out.mono ?_
 rintro e w1 ⟨v1,rfl,hp1,hx1⟩
 have HX1:=hid hx1
 have HP1:=hid hp1
 clear hx1 hp1
 go_wp2
 all_goals
  go_ret
  exact ⟨_,rfl,HP1.out,HX1.out⟩
theorem zid {p:PZ} (h:canP p):z21 (ofP p) = p:=by
 unfold z21
 rw [if_pos (zb9 h)]
 exact z3x p
theorem z0h.on {w W:World} {v:Value} {z:List RTerm} (h:z0h (Old w) w v z) (hx:Ext w W):z0h (Old W) W v z:=h.to (Kept.ext hx (fun _ h => h)) (z2b hx)
end
section
open Go.RowKit
theorem zbi {S:Nat → Prop} (vd:Value) (x:Int) (w:World) (hd:Digs S w vd (rep 10 x.natAbs)) :
  Calls Tryz.prog 93 #[.agg #[.bool (decide (x < 0)),vd]] w fun e w' => e = .returned (.agg #[.bool (decide (-x < 0)),vd]) ∧ Ext w w':=by
 obtain ⟨a,c,rfl⟩:=hd.form
 have hlen:=z35 x.natAbs
 obtain ⟨n,hn⟩:∃ n,n = (rep 10 x.natAbs).length:=⟨_,rfl⟩
 rw [← hn] at hlen ⊢
 have hl:=hd.len_le
 rw [← hn] at hl
 have hpos:decide (0 < n) = decide (x ≠ 0):=by rw [hlen,decide_eq_decide]; omega
 have HPOS:=hid hpos
 clear hd hn hlen hpos
 rcases (show x < 0 ∨ x = 0 ∨ 0 < x by omega) with hx | hx | hx
 ·have e1:decide (x < 0) = true:=decide_eq_true hx
  have E2:Hid (decide (-x < 0) = false):=hid (decide_eq_false (by omega))
  rw [e1]
  clear hx e1 hl
  go_enter Tryz.func93,Tryz.ntmps93
  go_wp2
  all_goals
   refine bodyPost_ret (by simp [results,Tryz.results93,go_sem]; rfl) rfl ?_
   exact ⟨by rw [E2.out],Ext.alloc (Ext.alloc (Ext.refl w) _) _⟩
 ·subst hx
  have hn0:n = 0:=by have:=HPOS.out; simpa using this
  subst hn0
  have e1:decide ((0:Int) < 0) = false:=by decide
  have E2:Hid (decide (-(0:Int) < 0) = false):=hid (by decide)
  rw [e1]
  clear e1 hl
  go_enter Tryz.func93,Tryz.ntmps93
  go_wp2
  all_goals
   refine bodyPost_ret (by simp [results,Tryz.results93,go_sem]; rfl) rfl ?_
   exact ⟨by rw [E2.out],Ext.alloc (Ext.alloc (Ext.refl w) _) _⟩
 ·have e1:decide (x < 0) = false:=decide_eq_false (by omega)
  have E2:Hid (decide (-x < 0) = true):=hid (decide_eq_true (by omega))
  have hn0:0 < n:=by
   have:=HPOS.out
   rw [decide_eq_decide] at this
   exact this.2 (by omega)
  rw [e1]
  clear hx e1
  go_enter Tryz.func93,Tryz.ntmps93
  go_wp2
  all_goals
   refine bodyPost_ret (by simp [results,Tryz.results93,go_sem]; rfl) rfl ?_
   exact ⟨by rw [E2.out],Ext.alloc (Ext.alloc (Ext.refl w) _) _⟩
def negP (p:PZ):PZ:=p.map fun t => (-t.1,t.2)
theorem zrj {p:PZ} {k:Nat} {t:Int × Mono} (h:p[k]? = some t):negP (p.take (k + 1)) = negP (p.take k) ++ [(-t.1,t.2)]:=by
 rw [List.take_add_one,h]
 unfold negP
 rw [List.map_append]
 rfl
theorem z4g (p:PZ):(negP p).length = p.length:=by unfold negP; rw [List.length_map]
theorem zoe {p:PZ} (h:z0p p):z0p (negP p):=fun t ht => by
 obtain ⟨u,hu,rfl⟩:=List.mem_map.1 ht
 exact h u hu
theorem zrk {x:Int} (h:szZ x):szZ (-x):=by unfold szZ; rw [Int.natAbs_neg]; exact h
theorem zrl {p:PZ} (h:szP p):szP (negP p):=⟨by rw [z4g]; exact h.1,fun t ht => by
 obtain ⟨u,hu,rfl⟩:=List.mem_map.1 ht
 exact zrk (h.2 u hu)⟩
theorem zkw {S:Nat → Prop} (v:Value) (p:PZ) (w:World) (h:RTs S w v p) (hS:∀ k,S k → k < w.heap.size) (hsz:szP p) :
  Calls Tryz.prog 62 #[v] w fun e w' => ∃ v',e = .returned v' ∧ RTs (Plus S w w') w' v' (negP p) ∧ Ext w w':=by
 obtain ⟨j0,hj,jz0,jz1,jz2⟩:=info_parts Tryz.infoT
 have hl:=h.len_le
 have H:=hid h
 have HSZ:=hid hsz
 obtain ⟨a,cap,rfl⟩:=h.form
 clear h hsz
 go_enter Tryz.func62,Tryz.ntmps62
 go_wp2
 go_loopw [3,4] (fun o i wr => ∃ k xs,k ≤ p.length ∧ i = .int .i64 (k:Nat) ∧ Ext w wr ∧ Hid (wr.ownsRow w.heap.size 95 3 o k xs) ∧ Hid (z19 S w xs (negP (p.take k)))) (fun _ i _ => p.length - (intOf i).toNat)
 case atStart => exact ⟨0,[],Nat.zero_le _,rfl,Ext.refl _,hid (World.ownsRow_nil _ _ _ _),hid rfl⟩
 case round =>
  obtain ⟨k,xs,hk,rfl,hx,HW,HXS⟩:=hrel
  have HX:=hid hx
  by_cases hlt:k < p.length
  ·obtain ⟨t,ht⟩:=z00 hlt
   obtain ⟨b,off,vd,vo,rfl,-,hn1,hm1,hSb,h1,h2,h3,h4,h5⟩:=H.out.cellAt ht
   have HT:=hid (zrj ht)
   have H4:=hid h4
   have H5:=hid h5
   obtain ⟨ad,cd,rfl⟩:=h4.form
   obtain ⟨ao,co,rfl⟩:=h5.form
   have x0:Ext w wr.drew:=hx.drew
   have HX0:=hid x0
   have h0:_ ∧ _ ∧ _:=And.intro h1 (And.intro h2 h3)
   have c1:=fun (W:World) (hW:Ext w W) => zbi (S:=S) (.slice ad (rep 10 t.1.natAbs).length cd) t.1 W (H4.out.ext hW hS)
   obtain ⟨bt,hbt⟩:∃ b,b = decide (t.1 < 0):=⟨_,rfl⟩
   obtain ⟨bn,hbn⟩:∃ b,b = decide (-t.1 < 0):=⟨_,rfl⟩
   obtain ⟨nt,hnt⟩:∃ n,n = (rep 10 t.1.natAbs).length:=⟨_,rfl⟩
   obtain ⟨nm,hnm⟩:∃ n,n = t.2.length:=⟨_,rfl⟩
   have HBN:=hid hbn
   rw [← hbt,← hnt,← hnm] at h0
   rw [← hbt,← hnt,← hbn] at c1
   rw [← hnm] at H5
   rw [← hnt] at H4
   have S0:_ ∧ _ ∧ _:=And.intro (x0.cell h0.1) (And.intro (x0.cell h0.2.1) (x0.cell h0.2.2))
   have C1:=hid (c1 wr.drew x0)
   have HB3:Hid (k + 1 ≤ maxLen):=hid (by have:=HSZ.out.1; unfold maxLen; omega)
   have HB4:Hid ((k + 1) * 56 ≤ 140737488355328):=hid (by have:=HSZ.out.1; omega)
   have HWR:=hid (z0o HW.out ((Ext.refl wr).drew))
   have HC0:=hid h0
   clear ht h0 h1 h2 h3 h4 h5 hx x0 c1 hbt hnt hnm hbn
   go_wp2
   go_region_held3 (fun W => W.cell? ⟨b,off + k * 3,none⟩ = some (.bool bt) ∧ W.cell? ⟨b,off + k * 3 + 1,none⟩ = some (.slice ad nt cd) ∧ W.cell? ⟨b,off + k * 3 + 2,none⟩ = some (.slice ao nm co)) (first | exact S0 | exact S1 | exact ⟨cell_old _ S1.1,cell_old _ S1.2.1,cell_old _ S1.2.2⟩ | exact S5)
    (first
     | (go_at_call 93; (with_reducible refine C1.out.mono ?_); rintro e w1 ⟨rfl,hx1⟩; have HX1:=hid (HX0.out.trans hx1); have S1:_ ∧ _ ∧ _:=And.intro (hx1.cell S0.1) (And.intro (hx1.cell S0.2.1) (hx1.cell S0.2.2)); have HW3:=hid (z0o (z0o HWR.out hx1) (Ext.alloc (Ext.refl w1) (.cells #[.bool bn,.slice ad nt cd,.slice ao nm co] 95))); have HSRC3:=hid (z82 w1 #[.bool bn,.slice ad nt cd,.slice ao nm co] 95 (z1x rfl rfl rfl) (size:=3) rfl); have HB5:=hid (HX1.out.alloc (.cells #[.bool bn,.slice ad nt cd,.slice ao nm co] 95)).size; clear hx1)
     | (refine z1i rfl (.tmp 11) (.tmp 24) 61 rfl w.heap.size 95 j0 (.agg #[.bool false,.slice none 0 0,.slice none 0 0]) 3 56 Tryz.underlying61 hj jz0 jz1 jz2 rfl (Nat.succ_pos _) _ k xs rfl HW3.out (some ⟨w1.heap.size,0,none⟩) 1 1 _ rfl HSRC3.out HB3.out HB4.out HB5.out ?_; intro v5 w5 hown hg hbk; have HW5:=hid hown; have HX5:=hid (z1f (HX1.out.alloc (.cells #[.bool bn,.slice ad nt cd,.slice ao nm co] 95)) HW3.out hg); have S5:_ ∧ _ ∧ _:=And.intro (HX5.out.cell HC0.out.1) (And.intro (HX5.out.cell HC0.out.2.1) (HX5.out.cell HC0.out.2.2)); clear hown hg hbk))
   all_goals
    go_wp2
    go_roundw
    case rel =>
     refine ⟨k + 1,xs ++ (#[.bool bn,.slice ad nt cd,.slice ao nm co]:Array Value).toList,by omega,by go_num,HX5.out,HW5,hid ?_⟩
     rw [HT.out]
     have hone:z19 S w (#[.bool bn,.slice ad nt cd,.slice ao nm co]:Array Value).toList [(-t.1,t.2)]:=by
      rw [HBN.out]
      exact z19.single (t:=(-t.1,t.2)) (by rw [Int.natAbs_neg]; exact H4.out) H5.out
     exact HXS.out.append hone
    case measure => simp only [intOf]; omega
  ·obtain rfl:k = p.length:=by omega
   have HE:Hid (p.take p.length = p):=hid List.take_length
   clear hx
   go_wp2
   all_goals
    go_ret
    refine ⟨_,rfl,?_,HX.out⟩
    have hc:=HXS.out
    rw [HE.out] at hc
    exact zkh (by rw [z4g]; exact HW.out) (hc.to (Kept.ext HX.out hS) (fun _ h => .inl h)) (fun k h1 h2 => .inr ⟨h1,h2⟩)
theorem zkx {S:Nat → Prop} (vp vq:Value) (p q:PZ) (w:World) (hS:∀ k,S k → k < w.heap.size) (hp:RTs S w vp p) (hq:RTs S w vq q) (hmp:z0p p) (hmq:z0p q) (hszq:szP q) (hsz:∀ k,k ≤ q.length → szP (addP p ((negP q).take k))) :
  Calls Tryz.prog 29 #[vp,vq] w fun e w' => ∃ v',e = .returned v' ∧ RTs (Plus S w w') w' v' (addP p (negP q)) ∧ Ext w w':=by
 have C1:=hid (zkw vq q w hq hS hszq)
 have C2:=hid (fun (v1:Value) (w1:World) (hx1:Ext w w1) (h1:RTs (Plus S w w1) w1 v1 (negP q)) => zcu (S:=Plus S w w1) vp v1 p (negP q) w1 (z2o hS hx1) ((hp.ext hx1 hS).to (Kept.refl _ _) (fun _ h => .inl h)) h1 hmp (zoe hmq) (zrl hszq) (fun k hk => hsz k (by rw [z4g] at hk; exact hk)))
 clear hp hq hmp hmq hszq hsz
 go_enter Tryz.func29,Tryz.ntmps29
 go_wp2_with fail
 refine C1.out.mono ?_
 rintro e w1 ⟨v1,rfl,hp1,hx1⟩
 have HX1:=hid hx1
 have HP1:=hid hp1
 have C3:=hid (C2.out v1 w1 hx1 hp1)
 clear hx1 hp1 C2
 go_wp2_with fail
 refine C3.out.mono ?_
 rintro e w2 ⟨v2,rfl,hp2,hx2⟩
 have HX2:=hid (HX1.out.trans hx2)
 have HP2:=hid (hp2.to (Kept.refl _ _) (z7e HX1.out hx2))
 clear hx2 hp2
 go_wp2
 all_goals
  go_ret
  exact ⟨_,rfl,HP2.out,HX2.out⟩
end
section
open Go.RowKit
theorem zt5 {a b:Nat} (h:(rep 10 a).length ≤ 2000000) (h2:(rep 10 b).length ≤ 2000000):(rep 10 (Nat.gcd a b)).length ≤ 2000000:=by
 rcases Nat.eq_zero_or_pos a with rfl | h0
 ·rw [Nat.gcd_zero_left]; exact h2
 ·exact Nat.le_trans (z3h (Nat.gcd_le_left b h0)) h
theorem zof {S:Nat → Prop} (vx vy:Value) (x y:Int) (g:Nat) (hg:g = Nat.gcd x.natAbs y.natAbs) (w:World) (hx:ZV S w vx x) (hy:ZV S w vy y) (hS:∀ k,S k → k < w.heap.size) (hrx:szZ x) (hry:szZ y) :
  Calls Tryz.prog 119 #[vx,vy] w fun e w' => ∃ a c,e = .returned (.agg #[.bool false,.slice a (rep 10 g).length c]) ∧ Digs (Plus S w w') w' (.slice a (rep 10 g).length c) (rep 10 g) ∧ Ext w w' :=
 (zrf vx vy x y w hx hy hS hrx hry).mono (by
  rintro e w' ⟨v',rfl,⟨vd,rfl,hd⟩,hx⟩
  rw [← hg] at hd ⊢
  rw [Int.natAbs_natCast] at hd
  obtain ⟨a,c,rfl⟩:=hd.form
  exact ⟨a,c,by rw [decide_eq_false (by omega)],hd,hx⟩)
end
section
theorem zog {P U3 Ul V2 Vl q:Nat} (hUl:Ul < P) (h:U3 < (q + 1) * V2):U3 * P + Ul < (q + 1) * (V2 * P + Vl):=by
 have h1:(U3 + 1) * P ≤ (q + 1) * V2 * P:=Nat.mul_le_mul_right P h
 rw [Nat.add_mul U3 1 P,Nat.one_mul] at h1
 rw [Nat.mul_add,← Nat.mul_assoc]
 omega
theorem zky {B P U3 Ul V2 Vl q:Nat} (hVl:Vl < P) (hq:q * V2 ≤ U3) (hqB:q ≤ B) (hV2:B ≤ V2):q * (V2 * P + Vl) ≤ (U3 * P + Ul) + (V2 * P + Vl):=by
 cases q with
 | zero => rw [Nat.zero_mul]; exact Nat.zero_le _
 | succ p =>
  have h1:(p + 1) * V2 * P ≤ U3 * P:=Nat.mul_le_mul_right P hq
  have h2:p * Vl ≤ V2 * P:=Nat.mul_le_mul (by omega) (Nat.le_of_lt hVl)
  rw [Nat.mul_add,← Nat.mul_assoc,Nat.add_mul p 1 Vl,Nat.one_mul]
  omega
def z6x (B top u2 v1 v2 q:Nat):Prop:=B ≤ q + 1 ∨ top * B + u2 < (q + 1) * (v1 * B + v2)
theorem zew {B top u2 v1 v2:Nat} (hu2:u2 < B) (hv1:0 < v1):z6x B top u2 v1 v2 (top / v1):=by
 refine .inr ?_
 have h1:top < (top / v1 + 1) * v1:=by
  have h:=Nat.div_add_mod top v1
  have h2:=Nat.mod_lt top hv1
  rw [Nat.add_mul,Nat.one_mul,Nat.mul_comm]
  omega
 have h3:(top + 1) * B ≤ (top / v1 + 1) * v1 * B:=Nat.mul_le_mul_right B h1
 rw [Nat.add_mul top 1 B,Nat.one_mul] at h3
 rw [Nat.mul_add,← Nat.mul_assoc]
 omega
theorem zav {B top u2 v1 v2 q r:Nat} (ht:r + q * v1 = top) (hq:0 < q) (hc:B ≤ q ∨ r * B + u2 < q * v2):z6x B top u2 v1 v2 (q - 1):=by
 have e:q - 1 + 1 = q:=by omega
 unfold z6x
 rw [e]
 rcases hc with h | h
 ·exact .inl h
 ·refine .inr ?_
  rw [← ht,Nat.add_mul,Nat.mul_add,← Nat.mul_assoc]
  omega
theorem zie {B top u2 v1 v2 q r:Nat} (ht:r + q * v1 = top) (hc:r * B + u2 ≥ q * v2):q * (v1 * B + v2) ≤ top * B + u2:=by
 rw [← ht,Nat.add_mul,Nat.mul_add,← Nat.mul_assoc]
 omega
theorem zd4 {v1 q r top:Nat} (ht:r + q * v1 = top) (hq:0 < q):r + v1 + (q - 1) * v1 = top:=by
 obtain ⟨p,rfl⟩:∃ p,q = p + 1:=⟨q - 1,by omega⟩
 rw [Nat.add_mul,Nat.one_mul] at ht
 rw [Nat.add_sub_cancel]
 omega
theorem z9q {B top u0 u1 u2 v1 v2 q r:Nat} (ht:r + q * v1 = top) (htop:top = u0 * B + u1) (hle:u0 ≤ v1) (hu1:u1 < B) (hv2:v2 < B) (hr:B ≤ r):q < B ∧ q * v2 ≤ r * B + u2:=by
 have hq:q < B:=by
  rcases Nat.lt_or_ge q B with h | h
  ·exact h
  ·have h1:B * v1 ≤ q * v1:=Nat.mul_le_mul_right v1 h
   have h2:u0 * B ≤ v1 * B:=Nat.mul_le_mul_right B hle
   rw [Nat.mul_comm B v1] at h1
   omega
 refine ⟨hq,?_⟩
 have h1:q * v2 ≤ B * B:=Nat.mul_le_mul (by omega) (by omega)
 have h2:B * B ≤ r * B:=Nat.mul_le_mul_right B hr
 omega
theorem zoh {U V q o b M:Nat} (ho:o < M) (hb:b ≤ 1) (h:o + q * V = U + M * b) (hup:U < (q + 1) * V) (hlow:q * V ≤ U + V) (_hU:U < M) (hV:V ≤ M) :
  (b = 0 → q = U / V ∧ o = U % V) ∧ (b = 1 → 0 < q ∧ q - 1 = U / V ∧ (o + V) % M = U % V):=by
 have hV0:0 < V:=by
  rcases Nat.eq_zero_or_pos V with h0 | h0
  ·rw [h0,Nat.mul_zero] at hup; omega
  ·exact h0
 rw [Nat.add_mul,Nat.one_mul] at hup
 refine ⟨fun h0 => ?_,fun h1 => ?_⟩
 ·subst h0
  have e:U = V * q + o:=by rw [Nat.mul_comm V q]; omega
  have hlt:o < V:=by omega
  refine ⟨?_,?_⟩
  ·rw [e,Nat.mul_add_div hV0,Nat.div_eq_of_lt hlt]; omega
  ·rw [e,Nat.mul_add_mod,Nat.mod_eq_of_lt hlt]
 ·subst h1
  rw [Nat.mul_one] at h
  have hq:0 < q:=by
   rcases Nat.eq_zero_or_pos q with h0 | h0
   ·rw [h0,Nat.zero_mul] at h; omega
   ·exact h0
  obtain ⟨p,rfl⟩:∃ p,q = p + 1:=⟨q - 1,by omega⟩
  rw [Nat.add_mul,Nat.one_mul] at h hup hlow
  have e:U = V * p + (o + V - M):=by rw [Nat.mul_comm V p]; omega
  have hlt:o + V - M < V:=by omega
  have hge:M ≤ o + V:=by omega
  refine ⟨hq,?_,?_⟩
  ·rw [e,Nat.mul_add_div hV0,Nat.div_eq_of_lt hlt]; omega
  ·rw [Nat.mod_eq_sub_mod hge,Nat.mod_eq_of_lt (by omega)]
   conv => rhs; rw [e,Nat.mul_add_mod,Nat.mod_eq_of_lt hlt]
section
variable {B:Nat}
theorem z2f (l:List Nat) (k:Nat):val B l = val B (l.take k) + B ^ (min k l.length) * val B (l.drop k):=by
 have h:=z2x (B:=B) (l.take k) (l.drop k)
 rw [List.take_append_drop,List.length_take] at h
 exact h
theorem zoi (_hB:0 < B) {l:List Nat} {n:Nat} (hl:l.length = n + 1) (hn:2 ≤ n):val B l = ((dg l n * B + dg l (n - 1)) * B + dg l (n - 2)) * B ^ (n - 2) + val B (l.take (n - 2)):=by
 obtain ⟨m,rfl⟩:∃ m,n = m + 2:=⟨n - 2,by omega⟩
 rw [z2f l m,show min m l.length = m by omega,z16 l m,z16 l (m + 1),z16 l (m + 1 + 1)]
 have e:l.drop (m + 1 + 1 + 1) = []:=List.drop_eq_nil_of_le (by omega)
 rw [e,show m + 2 - 1 = m + 1 by omega,show m + 2 - 2 = m by omega,show m + 1 + 1 = m + 2 by omega,show val B ([]:List Nat) = 0 from rfl]
 rw [Nat.mul_zero,Nat.add_zero,Nat.mul_comm (B ^ m),Nat.add_comm (val B _)]
 congr 1
 rw [Nat.add_comm (dg l m),Nat.mul_comm B,Nat.add_comm (dg l (m + 1)),Nat.mul_comm B,Nat.add_zero]
theorem zoj {l:List Nat} {n:Nat} (hl:l.length = n) (hn:2 ≤ n):val B l = (dg l (n - 1) * B + dg l (n - 2)) * B ^ (n - 2) + val B (l.take (n - 2)):=by
 obtain ⟨m,rfl⟩:∃ m,n = m + 2:=⟨n - 2,by omega⟩
 rw [z2f l m,show min m l.length = m by omega,z16 l m,z16 l (m + 1)]
 have e:l.drop (m + 1 + 1) = []:=List.drop_eq_nil_of_le (by omega)
 rw [e,show m + 2 - 1 = m + 1 by omega,show m + 2 - 2 = m by omega,show val B ([]:List Nat) = 0 from rfl]
 rw [Nat.mul_zero,Nat.add_zero,Nat.mul_comm (B ^ m),Nat.add_comm (val B _)]
 congr 1
 rw [Nat.add_comm (dg l m),Nat.mul_comm B]
theorem zex (hB:2 ≤ B) {us vs:List Nat} {n q r:Nat} (hus:∀ z ∈ us,z < B) (hvs:∀ z ∈ vs,z < B) (hu:us.length = n + 1) (hv:vs.length = n) (hn:2 ≤ n) (hV1:0 < dg vs (n - 1)) (hUV:val B us < B * val B vs)
  (ht:r + q * dg vs (n - 1) = dg us n * B + dg us (n - 1)) (hqB:q < B) (hc:q * dg vs (n - 2) ≤ r * B + dg us (n - 2)) (hok:z6x B (dg us n * B + dg us (n - 1)) (dg us (n - 2)) (dg vs (n - 1)) (dg vs (n - 2)) q) :
  val B us < (q + 1) * val B vs ∧ q * val B vs ≤ val B us + val B vs:=by
 have e1:=zoi (by omega:0 < B) hu hn
 have e2:=zoj (B:=B) hv hn
 have hP1:val B (us.take (n - 2)) < B ^ (n - 2):=by
  have h:=z13 (B:=B) (us.take (n - 2)) (fun z hz => hus z (List.mem_of_mem_take hz))
  rwa [List.length_take,show min (n - 2) us.length = n - 2 by omega] at h
 have hP2:val B (vs.take (n - 2)) < B ^ (n - 2):=by
  have h:=z13 (B:=B) (vs.take (n - 2)) (fun z hz => hvs z (List.mem_of_mem_take hz))
  rwa [List.length_take,show min (n - 2) vs.length = n - 2 by omega] at h
 have hd:=zie ht hc
 have hV2:B ≤ dg vs (n - 1) * B + dg vs (n - 2):=by
  have:=Nat.le_mul_of_pos_left B hV1
  omega
 refine ⟨?_,?_⟩
 ·rcases hok with h | h
  ·refine Nat.lt_of_lt_of_le hUV (Nat.mul_le_mul_right _ h)
  ·rw [e1,e2]
   exact zog hP1 h
 ·rw [e1,e2]
  exact zky hP2 hd (Nat.le_of_lt hqB) hV2
theorem zgf {ps us vs:List Nat} {q i b c x u d b' c':Nat} (hl:ps.length = i) (h:val B ps + q * val B (vs.take i) = val B (us.take i) + B ^ i * (b + c)) (hx:dg vs i = x) (hu:dg us i = u) (he:b + c + q * x + d = u + B * (b' + c')) :
  val B (ps ++ [d]) + q * val B (vs.take (i + 1)) = val B (us.take (i + 1)) + B ^ (i + 1) * (b' + c'):=by
 rw [z4i,hl,z1h,z1h,hx,hu,Nat.pow_succ,Nat.mul_assoc (B ^ i) B,Nat.mul_add q]
 have h1:B ^ i * (b + c + q * x + d) = B ^ i * (u + B * (b' + c')):=by rw [he]
 rw [Nat.mul_add,Nat.mul_add (B ^ i) (b + c),Nat.mul_add (B ^ i) u,Nat.mul_left_comm (B ^ i) q x] at h1
 omega
theorem zkz {ps us vs:List Nat} {i c u x:Nat} (hl:ps.length = i) (h:val B ps + B ^ i * c = val B (us.take i) + val B (vs.take i)) (hx:dg vs i = x) (hu:dg us i = u) :
  val B (ps ++ [(c + u + x) % B]) + B ^ (i + 1) * ((c + u + x) / B) = val B (us.take (i + 1)) + val B (vs.take (i + 1)):=by
 rw [z4i,hl,z1h,z1h,hx,hu,Nat.pow_succ,Nat.mul_assoc (B ^ i) B]
 have h1:B ^ i * (B * ((c + u + x) / B) + (c + u + x) % B) = B ^ i * (c + u + x):=by rw [Nat.div_add_mod]
 rw [Nat.mul_add,Nat.mul_add,Nat.mul_add] at h1
 omega
structure NDivAt (B A V n:Nat) (u qs:List Nat) (j:Nat):Prop where
 sum:val B u + B ^ j * (V * val B (qs.drop j)) = A
 low:val B (u.drop j) < V
def z27 (u:List Nat) (k n:Nat):List Nat:=(u.drop k).take (n + 1)
def putL (u:List Nat) (k:Nat) (ps:List Nat):List Nat:=u.take k ++ ps ++ u.drop (k + ps.length)
theorem z3o {u:List Nat} {k n:Nat} (h:k + n < u.length):(z27 u k n).length = n + 1:=by
 unfold z27
 rw [List.length_take,List.length_drop]
 omega
theorem z9r {u:List Nat} {k n i:Nat} (hi:i < n + 1):dg (z27 u k n) i = dg u (k + i):=by
 unfold z27 dg
 rw [List.getElem?_take,if_pos hi,List.getElem?_drop]
theorem zbj {u ps:List Nat} {k:Nat} (h:k + ps.length ≤ u.length):(putL u k ps).length = u.length:=by
 unfold putL
 rw [List.length_append,List.length_append,List.length_take,List.length_drop]
 omega
theorem zbk (hB:2 ≤ B) {u:List Nat} {k n V:Nat} (hu:∀ z ∈ u,z < B) (hk:k + n < u.length) (hV:V < B ^ n) (hlow:val B (u.drop (k + 1)) < V) :
  val B u = val B (u.take k) + B ^ k * val B (z27 u k n) ∧ val B (z27 u k n) < B * V ∧ ∀ i,k + n < i → dg u i = 0:=by
 have h1:=z2f (B:=B) u k
 rw [show min k u.length = k by omega] at h1
 have h2:=z2f (B:=B) (u.drop (k + 1)) n
 rw [List.length_drop,show min n (u.length - (k + 1)) = n by omega,List.drop_drop] at h2
 have h3:val B (u.drop (k + 1 + n)) = 0:=by
  rcases Nat.eq_zero_or_pos (val B (u.drop (k + 1 + n))) with h | h
  ·exact h
  ·have:=Nat.le_mul_of_pos_right (B ^ n) h
   omega
 have h4:val B (z27 u k n) = val B (u.drop k):=by
  have h5:=z2f (B:=B) (u.drop k) (n + 1)
  rw [List.drop_drop,show k + (n + 1) = k + 1 + n by omega,h3,Nat.mul_zero,Nat.add_zero] at h5
  exact h5.symm
 refine ⟨by rw [h4]; exact h1,?_,?_⟩
 ·rw [h4,z16 u k]
  have h5:=zjh (by omega:0 < B) hu k
  have h6:B * (val B (u.drop (k + 1)) + 1) ≤ B * V:=Nat.mul_le_mul_left B hlow
  rw [Nat.mul_add,Nat.mul_one] at h6
  omega
 ·intro i hi
  have h5:=z6o (by omega:0 < B) (l:=u.drop (k + 1 + n)) (k:=0) (by rw [h3]; simp) (i - (k + 1 + n)) (Nat.zero_le _)
  by_cases hl:i < u.length
  ·have h6:=h5 (by rw [List.length_drop]; omega)
   unfold dg at h6 ⊢
   rw [List.getElem?_drop,show k + 1 + n + (i - (k + 1 + n)) = i by omega] at h6
   exact h6
  ·exact z2a (by omega)
theorem zd5 (hB:2 ≤ B) {A V n k:Nat} {u qs ps:List Nat} (hu:∀ z ∈ u,z < B) (hk:k + n < u.length) (hkq:k < qs.length) (hV:V < B ^ n) (h:NDivAt B A V n u qs (k + 1)) (hps:ps.length = n + 1) (hpv:val B ps = val B (z27 u k n) % V) (hV0:0 < V) :
  NDivAt B A V n (putL u k ps) (qs.set k (val B (z27 u k n) / V)) k:=by
 obtain ⟨h1,h2⟩:=h
 obtain ⟨p1,p2,p3⟩:=zbk hB hu hk hV h2
 have hmd:=Nat.div_add_mod (val B (z27 u k n)) V
 have hup:val B (u.drop (k + ps.length)) = 0:=by
  have h3:∀ z ∈ u.drop (k + ps.length),z = 0:=fun z hz => by
   obtain ⟨i,hi⟩:=List.getElem?_of_mem hz
   rw [List.getElem?_drop] at hi
   have h4:=p3 (k + ps.length + i) (by omega)
   rwa [z0k hi] at h4
  have h5:u.drop (k + ps.length) = List.replicate (u.drop (k + ps.length)).length 0:=List.eq_replicate_iff.2 ⟨rfl,h3⟩
  rw [h5,z76]
 have hq1:(qs.set k (val B (z27 u k n) / V)).drop k = (val B (z27 u k n) / V) :: qs.drop (k + 1):=by
  rw [List.drop_set,if_neg (Nat.lt_irrefl k),Nat.sub_self,List.drop_eq_getElem_cons hkq,List.set_cons_zero]
 have hput:val B (putL u k ps) = val B (u.take k) + B ^ k * val B ps:=by
  unfold putL
  rw [z2x,z2x,hup,Nat.mul_zero,Nat.add_zero,List.length_take,show min k u.length = k by omega]
 refine ⟨?_,?_⟩
 ·rw [hq1,hput,hpv,show val B ((val B (z27 u k n) / V) :: qs.drop (k + 1)) = val B (z27 u k n) / V + B * val B (qs.drop (k + 1)) from rfl]
  rw [← h1,p1,Nat.pow_succ]
  generalize val B (z27 u k n) / V = q at hmd ⊢
  generalize val B (z27 u k n) % V = r at hmd ⊢
  generalize val B (qs.drop (k + 1)) = t
  rw [← hmd,Nat.mul_add V,Nat.mul_add (B ^ k),Nat.mul_add (B ^ k),Nat.mul_assoc (B ^ k) B,Nat.mul_left_comm B V]
  omega
 ·have hd:(putL u k ps).drop k = ps ++ u.drop (k + ps.length):=by
   unfold putL
   rw [List.append_assoc,List.drop_append_of_le_length (by rw [List.length_take]; omega),List.drop_take,Nat.sub_self,List.take_zero,List.nil_append]
  rw [hd,z2x,hup,Nat.mul_zero,Nat.add_zero,hpv]
  exact Nat.mod_lt _ hV0
theorem zl0 {A V n:Nat} {u qs:List Nat} (hV0:0 < V) (h:NDivAt B A V n u qs 0):val B qs = A / V ∧ val B u = A % V:=by
 obtain ⟨h1,h2⟩:=h
 rw [Nat.pow_zero,Nat.one_mul,List.drop_zero] at h1
 rw [List.drop_zero] at h2
 rw [← h1,Nat.add_comm,Nat.mul_add_div hV0,Nat.div_eq_of_lt h2,Nat.mul_add_mod,Nat.mod_eq_of_lt h2]
 exact ⟨rfl,rfl⟩
end
theorem zif {a b c:Nat} (hc:0 < c):a * c / (b * c) = a / b ∧ a * c % (b * c) = a % b * c:=⟨Nat.mul_div_mul_right a b hc,Nat.mul_mod_mul_right c a b⟩
end
section
open Go.RowKit
theorem z6i (n:Int) (h₀:0 ≤ n) (h₁:n < 2 ^ 64):IntKind.u64.wrap n = n:=by rw [IntKind.wrap_u64]; omega
theorem z0u {n:Nat} (h:n < 18446744073709551616):IntKind.u64.wrap (n:Int) = (n:Int):=by rw [IntKind.wrap_u64]; omega
theorem z8x (x y:Nat) (hx:x < 4294967296) (hy:y < 4294967296):bits .or .u64 ((x:Int) * 4294967296) (y:Int) = ((x * 4294967296 + y:Nat):Int):=by
 have h:=bits_join .u64 64 (by decide) z6i 32 ((x:Int) * 4294967296) (y:Int) (by omega) (by show (x:Int) * 4294967296 % 4294967296 = 0; omega) (by show (x:Int) * 4294967296 < 18446744073709551616; omega) (by omega) (by show (y:Int) < 4294967296; omega) (by show (y:Int) < 18446744073709551616; omega)
 rw [h]
 omega
theorem zl1 {S:Nat → Prop} (vu vv:Value) (us vs:List Nat) (m:Nat) (w:World) (hu:U32s S w vu us) (hv:U32s S w vv vs) (_hS:∀ k,S k → k < w.heap.size) (lu:us.length = m + 3) (lv:vs.length = m + 2)
  (hV1:2147483648 ≤ dg vs (m + 1)) (hle:dg us (m + 2) ≤ dg vs (m + 1)) :
  Calls Tryz.prog 143 #[vu,vv] w fun e w' => ∃ q r:Nat,e = .returned (.int .u64 (q:Nat)) ∧ Ext w w' ∧ q < B32 ∧ r + q * dg vs (m + 1) = dg us (m + 2) * B32 + dg us (m + 1) ∧ q * dg vs m ≤ r * B32 + dg us m ∧
   z6x B32 (dg us (m + 2) * B32 + dg us (m + 1)) (dg us m) (dg vs (m + 1)) (dg vs m) q:=by
 obtain ⟨u0,hu0⟩:=z00 (l:=us) (j:=m + 2) (by omega)
 obtain ⟨u1,hu1⟩:=z00 (l:=us) (j:=m + 1) (by omega)
 obtain ⟨u2,hu2⟩:=z00 (l:=us) (j:=m) (by omega)
 obtain ⟨v1,hv1⟩:=z00 (l:=vs) (j:=m + 1) (by omega)
 obtain ⟨v2,hv2⟩:=z00 (l:=vs) (j:=m) (by omega)
 rw [z0k hu0,z0k hu1,z0k hu2,z0k hv1,z0k hv2]
 rw [z0k hv1] at hV1 hle
 rw [z0k hu0] at hle
 have hfu:=hu.len_le
 obtain ⟨au,cu,rfl⟩:=hu.form
 obtain ⟨av,cv,rfl⟩:=hv.form
 obtain ⟨bu,ou,rfl,-,hn1,hm1,-,xu0,k0⟩:=hu.cellAt hu0
 obtain ⟨b',o',e1,-,-,-,-,xu1,k1⟩:=hu.cellAt hu1
 obtain ⟨rfl,rfl⟩:bu = b' ∧ ou = o':=by simpa using e1
 obtain ⟨b',o',e2,-,-,-,-,xu2,k2⟩:=hu.cellAt hu2
 obtain ⟨rfl,rfl⟩:bu = b' ∧ ou = o':=by simpa using e2
 obtain ⟨bv,ov,rfl,-,hn2,hm2,-,xv1,k3⟩:=hv.cellAt hv1
 obtain ⟨b',o',e3,-,-,-,-,xv2,k4⟩:=hv.cellAt hv2
 obtain ⟨rfl,rfl⟩:bv = b' ∧ ov = o':=by simpa using e3
 rw [lu] at hn1 hfu ⊢
 rw [lv] at hn2 ⊢
 have HK:=hid (And.intro k0 (And.intro k1 (And.intro k2 (And.intro k3 k4))))
 have q1:((m + 2:Nat):Int) - 1 = ((m + 1:Nat):Int):=by omega
 have q2:((m + 2:Nat):Int) - 2 = (m:Int):=by omega
 clear e1 e2 e3 hu hv lu lv hu0 hu1 hu2 hv1 hv2
 go_enter Tryz.func143,Tryz.ntmps143
 go_wp2
 go_step3
 go_wp2
 go_quiet (fail)
 rw [z8x _ _ xu0 xu1]
 obtain ⟨top,htop⟩:∃ t,t = u0 * 4294967296 + u1:=⟨_,rfl⟩
 have HT:=hid htop
 rw [← htop]
 have ht2:top ≤ 18446744073709551615:=by omega
 have hv0:(v1:Int) ≠ 0:=by omega
 have hq0:top / v1 < 4294967298:=Nat.div_lt_of_lt_mul (by omega)
 have HQ0:=hid hq0
 have HXS:=hid (And.intro xu0 (And.intro xu1 (And.intro xu2 (And.intro xv1 xv2))))
 clear htop
 go_wp2
 go_quiet (fail)
 go_wp2
 go_step3
 go_wp2
 go_loopw [7,8] (fun s7 s8 wr => ∃ q r:Nat,s7 = .int .u64 (q:Nat) ∧ s8 = .int .u64 (r:Nat) ∧ Ext w wr ∧ r + q * v1 = top ∧ r < 4294967296 ∧ q ≤ 4294967297 ∧ z6x B32 top u2 v1 v2 q) (fun s7 _ _ => (intOf s7).toNat)
 case atStart =>
  refine ⟨top / v1,top % v1,congrArg (Value.int .u64) (z0u (n:=top / v1) (by omega)),rfl,((Ext.refl w).drewN _).drewN _,?_,?_,by omega,zew xu2 (by omega)⟩
  ·have:=Nat.div_add_mod top v1
   rw [Nat.mul_comm]
   omega
  ·have:=Nat.mod_lt top (show 0 < v1 by omega)
   omega
 case round =>
  obtain ⟨q,r,rfl,rfl,hx,ht,hr,hq,hok⟩:=hrel
  have k0:=hx.cell HK.out.1
  have k1:=hx.cell HK.out.2.1
  have k2:=hx.cell HK.out.2.2.1
  have k3:=hx.cell HK.out.2.2.2.1
  have k4:=hx.cell HK.out.2.2.2.2
  have HX:=hid hx
  have HTT:=hid ht
  have HOK:=hid hok
  have HR:=hid (And.intro hr hq)
  clear hx ht hok hr hq
  by_cases h1:4294967296 ≤ q
  ·have g1:decide ((4294967296:Int) ≤ (q:Int)) = true:=decide_eq_true (by omega)
   have H1:=hid h1
   clear h1
   go_wp2
   refine z04 (by kernel_rfl) (by kernel_rfl) ?_
   repeat (go_big_quiet_step (fail))
   refine wpQuiet_nil ?_
   intro w4 hx4
   have h1:=H1.out
   have HC:=hid (zav (B:=B32) (u2:=u2) (v2:=v2) HTT.out (by omega) (.inl h1))
   have HX4:=hid (HX.out.trans hx4)
   have k3:=hx4.cell k3
   have hq1:(1:Int) ≤ (q:Int):=by omega
   have hq2:(q:Int) ≤ 4294967297:=by have:=HR.out.2; omega
   have hr1:(r:Int) < 4294967296:=by have:=HR.out.1; omega
   have HD:=hid (zd4 HTT.out (by omega))
   clear hx4 g1 h1
   by_cases h3:(4294967296:Int) ≤ (r:Int) + (v1:Int)
   ·go_wp2
    all_goals
     rw [Exit.noGoto_ret]
     go_ret
     obtain ⟨z1,z2⟩:=z9q (u2:=u2) (v2:=v2) (B:=B32) HD.out HT.out hle HXS.out.2.1 HXS.out.2.2.2.2 (by show 4294967296 ≤ r + v1; omega)
     refine ⟨q - 1,r + v1,?_,HX4.out,z1,by rw [HD.out]; exact HT.out,z2,by rw [← HT.out]; exact HC.out⟩
     show Ending.returned (Value.int .u64 ((q:Int) - 1)) = _
     rw [show ((q - 1:Nat):Int) = (q:Int) - 1 by omega]
   ·go_wp2
    go_roundw
    case rel => exact ⟨q - 1,r + v1,congrArg (Value.int .u64) (by omega),congrArg (Value.int .u64) (by omega),HX4.out,HD.out,by omega,by omega,HC.out⟩
    case measure => simp only [intOf]; omega
  ·have g1:decide ((4294967296:Int) ≤ (q:Int)) = false:=decide_eq_false (by omega)
   have H1:Hid (q < 4294967296):=hid (by omega)
   obtain ⟨P,hP⟩:∃ P:Nat,P = q * v2:=⟨_,rfl⟩
   obtain ⟨T,hT⟩:∃ T:Nat,T = r * 4294967296 + u2:=⟨_,rfl⟩
   have hqv:q * v2 ≤ 4294967295 * 4294967295:=Nat.mul_le_mul (show q ≤ 4294967295 by omega) (by have:=HXS.out.2.2.2.2; omega)
   have hw:IntKind.u64.wrap ((q:Int) * (v2:Int)) = (P:Int):=by
    have e:(q:Int) * (v2:Int) = ((q * v2:Nat):Int):=(Int.natCast_mul q v2).symm
    rw [e,← hP]
    exact z0u (by omega)
   have hor:bits .or .u64 ((r:Int) * 4294967296) (u2:Int) = (T:Int):=by rw [z8x r u2 HR.out.1 HXS.out.2.2.1,hT]
   have hr1:(r:Int) < 4294967296:=by have:=HR.out.1; omega
   have HP:=hid hP
   have HTd:=hid hT
   have m1:(0:Int) ≤ (m:Int) + 2 - 2:=by omega
   clear h1 hP hT hqv
   by_cases h2:T < P
   ·have L2:=fun Y:Later wr => Y.h.cell k2
    have L4:=fun Y:Later wr => Y.h.cell k4
    go_wp2
    refine z04 (by kernel_rfl) (by kernel_rfl) ?_
    repeat (go_big_quiet_step (fail))
    refine wpQuiet_nil ?_
    intro w4 hx4
    have h1:=H1.out
    have hqp:0 < q:=by
     rcases Nat.eq_zero_or_pos q with h | h
     ·have h4:=HP.out
      rw [h,Nat.zero_mul] at h4
      omega
     ·exact h
    have hcc:r * B32 + u2 < q * v2:=by have h4:=HP.out; have h5:=HTd.out; show r * 4294967296 + u2 < q * v2; omega
    have HC:=hid (zav (B:=B32) (u2:=u2) (v2:=v2) HTT.out hqp (.inr hcc))
    have HX4:=hid (HX.out.trans hx4)
    have k3:=hx4.cell k3
    have hq1:(1:Int) ≤ (q:Int):=by omega
    have hq2:(q:Int) ≤ 4294967297:=by have:=HR.out.2; omega
    have hr1:(r:Int) < 4294967296:=by have:=HR.out.1; omega
    have HD:=hid (zd4 HTT.out (by omega))
    clear hx4 g1 h1 hw hor h2 hqp hcc L2 L4
    by_cases h3:(4294967296:Int) ≤ (r:Int) + (v1:Int)
    ·go_wp2
     all_goals
      rw [Exit.noGoto_ret]
      go_ret
      obtain ⟨z1,z2⟩:=z9q (u2:=u2) (v2:=v2) (B:=B32) HD.out HT.out hle HXS.out.2.1 HXS.out.2.2.2.2 (by show 4294967296 ≤ r + v1; omega)
      refine ⟨q - 1,r + v1,?_,HX4.out,z1,by rw [HD.out]; exact HT.out,z2,by rw [← HT.out]; exact HC.out⟩
      show Ending.returned (Value.int .u64 ((q:Int) - 1)) = _
      rw [show ((q - 1:Nat):Int) = (q:Int) - 1 by omega]
    ·go_wp2
     go_roundw
     case rel => exact ⟨q - 1,r + v1,congrArg (Value.int .u64) (by omega),congrArg (Value.int .u64) (by omega),HX4.out,HD.out,by omega,by omega,HC.out⟩
     case measure => simp only [intOf]; omega
   ·have g2:decide (T < P) = false:=decide_eq_false h2
    have L2:=fun Y:Later wr => Y.h.cell k2
    have L4:=fun Y:Later wr => Y.h.cell k4
    go_wp2
    refine z04 (by kernel_rfl) (by kernel_rfl) ?_
    repeat (go_big_quiet_step (fail))
    refine wpQuiet_nil ?_
    intro w4 hx4
    have HX4:=hid (HX.out.trans hx4)
    have hcc:q * v2 ≤ r * B32 + u2:=by have h4:=HP.out; have h5:=HTd.out; show q * v2 ≤ r * 4294967296 + u2; omega
    have HCC:=hid hcc
    clear hx4 g1 hw hor hcc L2 L4
    go_wp2
    all_goals
     rw [Exit.noGoto_ret]
     go_ret
     exact ⟨q,r,rfl,HX4.out,H1.out,by rw [HTT.out]; exact HT.out,HCC.out,by rw [← HT.out]; exact HOK.out⟩
end
section
open Go.RowKit
theorem zl2 (t:Nat) (ht:t < 18446744073709551616):bits .and .u64 (t:Int) 4294967295 = ((t % 4294967296:Nat):Int):=by
 have h:=(bits_nat .u64 64 (by decide) z6i t 4294967295 (by omega) (by decide)).1
 rw [show ((4294967295:Nat):Int) = 4294967295 from rfl] at h
 rw [h]
 congr 1
 exact Nat.and_two_pow_sub_one_eq_mod t 32
theorem z8y {w:World} {T:TypeId} {n g k:Nat} {o ps:List Nat} (h:w.rowIs g T n (rowU (putL o k ps))) (hk:k + ps.length < o.length) (z:Nat) :
  (w.setCell ⟨g,k + ps.length,none⟩ (.int .u32 (z:Nat))).rowIs g T n (rowU (putL o k (ps ++ [z]))):=by
 have h1:=z57 h (k + ps.length) z (by rw [zbj (by omega)]; exact hk)
 have e:(putL o k ps).set (k + ps.length) z = putL o k (ps ++ [z]):=by
  unfold putL
  have hl:(o.take k ++ ps).length = k + ps.length:=by rw [List.length_append,List.length_take]; omega
  rw [List.set_append,if_neg (by omega),hl,Nat.sub_self,List.drop_eq_getElem_cons hk,List.set_cons_zero,List.length_append,List.length_singleton]
  simp [Nat.add_assoc]
 rwa [e] at h1
theorem zqf {o ps:List Nat} {k j:Nat} (hk:k + ps.length ≤ o.length) (hj:k + ps.length ≤ j):dg (putL o k ps) j = dg o j:=by
 unfold putL dg
 have hl:(o.take k ++ ps).length = k + ps.length:=by rw [List.length_append,List.length_take]; omega
 rw [List.getElem?_append_right (by omega),hl,List.getElem?_drop,show k + ps.length + (j - (k + ps.length)) = j by omega]
theorem zl3 (w:World) (r:Option Nat):w.grownBy w r:=⟨rfl,rfl,rfl,Nat.le_refl _,fun _ _ _ => rfl⟩
theorem zgg {a w:World} {r:Option Nat} (h:a.grownBy w r) {p:Addr} (hp:r = some p.block) (v:Value):a.grownBy (w.setCell p v) r:=⟨h.os,h.tape,h.output,by rw [z06]; exact h.size,fun k hk hne => (Below.heap_setCell _ _ _ _ (fun e => hne (by rw [hp,e]))).trans (h.block k hk hne)⟩
theorem zl4 (o:List Nat) (k:Nat):putL o k [] = o:=by simp [putL]
theorem zrm {S:Nat → Prop} {w:World} {g k n cap q:Nat} {o vs:List Nat} (vv:Value) (hrow:w.rowIs g 148 cap (rowU o)) (ho:o.length ≤ cap) (hol:∀ z ∈ o,z < B32) (hkn:k + n < o.length) (hv:U32s S w vv vs) (hS:∀ j,S j → j < w.heap.size ∧ j ≠ g) (lv:vs.length = n) (hq:q < B32) (hcap:cap ≤ 9223372036854775807) :
  Calls Tryz.prog 144 #[.slice (some ⟨g,k,none⟩) (n + 1) (n + 1),vv,.int .u64 (q:Nat)] w fun e w' => ∃ (ps:List Nat) (b:Nat),e = .returned (.bool (decide (b = 1))) ∧ b ≤ 1 ∧ ps.length = n + 1 ∧ (∀ z ∈ ps,z < B32) ∧ val B32 ps + q * val B32 vs = val B32 (z27 o k n) + B32 ^ (n + 1) * b ∧
   w'.rowIs g 148 cap (rowU (putL o k ps)) ∧ w.grownBy w' (some g) ∧ w'.heap.size = w.heap.size:=by
 have hnb:n + 1 ≤ 9223372036854775807:=by omega
 have HROW:=hid hrow
 have HOL:=hid hol
 have HKN:=hid (And.intro ho hkn)
 have HV:=hid hv
 have HQ:=hid hq
 have hlv:=hv.len_le
 obtain ⟨av,cv,rfl⟩:=hv.form
 rw [lv] at HV hlv ⊢
 have HLV:=hid lv
 clear hrow hol hv ho hq lv
 go_enter Tryz.func144,Tryz.ntmps144
 go_wp2
 go_loopw [7,8,14] (fun s7 s8 s14 wr => ∃ (i c b:Nat) (ps:List Nat),s7 = .int .u64 (c:Nat) ∧ s8 = .int .u64 (b:Nat) ∧ s14 = .int .i64 (i:Nat) ∧ i ≤ n + 1 ∧ Hid (c < 4294967296 ∧ b ≤ 1 ∧ (n < i → c = 0) ∧ ps.length = i ∧ (∀ z ∈ ps,z < B32) ∧ val B32 ps + q * val B32 (vs.take i) = val B32 ((z27 o k n).take i) + B32 ^ i * (b + c)) ∧
  wr.rowIs g 148 cap (rowU (putL o k ps)) ∧ w.grownBy wr (some g) ∧ wr.heap.size = w.heap.size) (fun _ _ s14 _ => n + 1 - (intOf s14).toNat)
 case atStart => exact ⟨0,0,0,[],rfl,rfl,rfl,Nat.zero_le _,hid ⟨by decide,by decide,fun h => rfl,rfl,by simp,by simp [val]⟩,by rw [zl4]; exact HROW.out,zl3 _ _,rfl⟩
 case round =>
  obtain ⟨i,c,b,ps,rfl,rfl,rfl,hi,HI,hrow,hgb,hsz⟩:=hrel
  have HR:=hid hrow
  have HG:=hid (And.intro hgb hsz)
  clear hrow hgb hsz
  by_cases hlt:i < n + 1
  ·obtain ⟨u,hu⟩:∃ u,u = dg (z27 o k n) i:=⟨_,rfl⟩
   have hul:u < 4294967296:=by rw [hu,z9r hlt]; exact zjh (by decide) HOL.out _
   have hcu:wr.cell? ⟨g,k + i,none⟩ = some (.int .u32 (u:Nat)):=by
    have h1:=HR.out.cell (i:=k + i) (by have:=HKN.out; omega)
    rw [h1,hu,z9r hlt]
    have h2:=zqf (o:=o) (ps:=ps) (k:=k) (j:=k + i) (by have:=HI.out.2.2.2.1; omega) (by have:=HI.out.2.2.2.1; omega)
    show some (Value.int .u32 (dg (putL o k ps) (k + i):Nat)) = _
    rw [h2]
   have hfu:=HR.out.frozen (k + i)
   have HU:=hid hu
   by_cases hin:i < n
   ·obtain ⟨x,hx⟩:=z00 (l:=vs) (j:=i) (by rw [HLV.out]; exact hin)
    obtain ⟨b1,o1,rfl,-,hn1,hm1,-,hxl,hcx⟩:=(HV.out.to (S':=S) (fun j hj => HG.out.1.block j (hS j hj).1 (fun e => (hS j hj).2 (Option.some.inj e))) (fun _ h => h)).cellAt hx
    have HX:=hid (z0k hx)
    obtain ⟨P,hP⟩:∃ P:Nat,P = q * x:=⟨_,rfl⟩
    have hPl:P ≤ 4294967295 * 4294967295:=by rw [hP]; exact Nat.mul_le_mul (by have h:q < 4294967296:=HQ.out; omega) (by omega)
    have hw1:IntKind.u64.wrap ((q:Int) * (x:Int)) = (P:Int):=by
     have e:(q:Int) * (x:Int) = ((q * x:Nat):Int):=(Int.natCast_mul q x).symm
     rw [e,← hP]
     exact z0u (by omega)
    obtain ⟨t,ht⟩:∃ t:Nat,t = c + P:=⟨_,rfl⟩
    have htl:t < 18446744073709551616:=by have:=HI.out.1; omega
    have hw2:IntKind.u64.wrap ((c:Int) + (P:Int)) = (t:Int):=by rw [← Int.natCast_add,← ht]; exact z0u htl
    obtain ⟨lo,hlo⟩:∃ lo:Nat,lo = t % 4294967296:=⟨_,rfl⟩
    have hand:bits .and .u64 (t:Int) 4294967295 = (lo:Int):=by rw [zl2 t htl,hlo]
    have HP:=hid hP
    have HT:=hid ht
    have HLO:=hid hlo
    have HTL:=hid htl
    have HUL:=hid hul
    clear hx hu hP hPl ht hlo htl hul
    obtain ⟨b',d,hb',hd,e1,e2,hbal⟩:∃ b' d:Nat,b' ≤ 1 ∧ d < 4294967296 ∧ IntKind.u64.wrap (IntKind.u64.wrap (IntKind.u64.wrap (u:Int) - (lo:Int)) - (b:Int)) / 9223372036854775808 = (b':Int) ∧ IntKind.u64.wrap (IntKind.u64.wrap (IntKind.u64.wrap (u:Int) - (lo:Int)) - (b:Int)) % 4294967296 = (d:Int) ∧ b + lo + d = u + 4294967296 * b':=by
     have h1:=HUL.out
     have h2:=HI.out.2.1
     have h3:lo < 4294967296:=by rw [HLO.out]; exact Nat.mod_lt _ (by decide)
     simp only [IntKind.wrap_u64]
     by_cases hs:lo + b ≤ u
     ·exact ⟨0,u - lo - b,by omega,by omega,by omega,by omega,by omega⟩
     ·exact ⟨1,u + 4294967296 - lo - b,by omega,by omega,by omega,by omega,by omega⟩
    go_wp2
    go_roundw
    case rel =>
     refine ⟨i + 1,t / 4294967296,b',ps ++ [d],congrArg (Value.int .u64) (by omega),rfl,by go_num,by omega,hid ⟨by have h1:=HTL.out; omega,hb',(fun h => by omega),by simp [HI.out.2.2.2.1],?_,?_⟩,?_,zgg HG.out.1 rfl _,by rw [z06]; exact HG.out.2⟩
     ·intro z hz
      rcases List.mem_append.1 hz with h | h
      ·exact HI.out.2.2.2.2.1 z h
      ·rw [List.mem_singleton.1 h]
       exact hd
     ·exact zgf HI.out.2.2.2.1 HI.out.2.2.2.2.2 HX.out HU.out.symm (by
       have h1:=HP.out
       have h2:=HT.out
       have h3:=HLO.out
       show b + c + q * x + d = u + 4294967296 * (b' + t / 4294967296)
       omega)
     ·have h1:=z8y HR.out (by have h2:=HI.out.2.2.2.1; have h3:=HKN.out; omega) d
      rwa [HI.out.2.2.2.1] at h1
    case measure => simp only [intOf]; omega
   ·obtain rfl:i = n:=by omega
    obtain ⟨t,ht⟩:∃ t:Nat,t = c:=⟨_,rfl⟩
    obtain ⟨lo,hlo⟩:∃ lo:Nat,lo = t % 4294967296:=⟨_,rfl⟩
    have htl:t < 18446744073709551616:=by have:=HI.out.1; omega
    have hand:bits .and .u64 (c:Int) 4294967295 = (lo:Int):=by rw [← ht,zl2 t htl,hlo]
    have HX:Hid (dg vs i = 0):=hid (z2a (by rw [HLV.out]; exact Nat.le_refl _))
    have hc64:IntKind.u64.wrap (c:Int) = (c:Int):=z0u (by have:=HI.out.1; omega)
    have HT:=hid ht
    have HLO:=hid hlo
    have HTL:=hid htl
    have HUL:=hid hul
    have HC0:Hid (t / 4294967296 = 0):=hid (by have:=HI.out.1; omega)
    clear hu ht hlo htl hul
    obtain ⟨b',d,hb',hd,e1,e2,hbal⟩:∃ b' d:Nat,b' ≤ 1 ∧ d < 4294967296 ∧ IntKind.u64.wrap (IntKind.u64.wrap (IntKind.u64.wrap (u:Int) - (lo:Int)) - (b:Int)) / 9223372036854775808 = (b':Int) ∧ IntKind.u64.wrap (IntKind.u64.wrap (IntKind.u64.wrap (u:Int) - (lo:Int)) - (b:Int)) % 4294967296 = (d:Int) ∧ b + lo + d = u + 4294967296 * b':=by
     have h1:=HUL.out
     have h2:=HI.out.2.1
     have h3:lo < 4294967296:=by rw [HLO.out]; exact Nat.mod_lt _ (by decide)
     simp only [IntKind.wrap_u64]
     by_cases hs:lo + b ≤ u
     ·exact ⟨0,u - lo - b,by omega,by omega,by omega,by omega,by omega⟩
     ·exact ⟨1,u + 4294967296 - lo - b,by omega,by omega,by omega,by omega,by omega⟩
    go_wp2
    go_roundw
    case rel =>
     refine ⟨i + 1,t / 4294967296,b',ps ++ [d],congrArg (Value.int .u64) (by have:=HT.out; omega),rfl,by go_num,by omega,hid ⟨by have h1:=HTL.out; omega,hb',(fun h => HC0.out),by simp [HI.out.2.2.2.1],?_,?_⟩,?_,zgg HG.out.1 rfl _,by rw [z06]; exact HG.out.2⟩
     ·intro z hz
      rcases List.mem_append.1 hz with h | h
      ·exact HI.out.2.2.2.2.1 z h
      ·rw [List.mem_singleton.1 h]
       exact hd
     ·exact zgf HI.out.2.2.2.1 HI.out.2.2.2.2.2 HX.out HU.out.symm (by
       have h2:=HT.out
       have h3:=HLO.out
       show b + c + q * 0 + d = u + 4294967296 * (b' + t / 4294967296)
       omega)
     ·have h1:=z8y HR.out (by have h2:=HI.out.2.2.2.1; have h3:=HKN.out; omega) d
      rwa [HI.out.2.2.2.1] at h1
    case measure => simp only [intOf]; omega
  ·obtain rfl:i = n + 1:=by omega
   go_wp2
   all_goals
    go_ret
    obtain ⟨h1,h2,h3,h4,h5,h6⟩:=HI.out
    have hc0:=h3 (by omega)
    rw [hc0,Nat.add_zero,List.take_of_length_le (by rw [HLV.out]; omega),List.take_of_length_le (by rw [z3o HKN.out.2]; exact Nat.le_refl _)] at h6
    refine ⟨ps,b,?_,h2,h4,h5,h6,HR.out,HG.out⟩
    show Ending.returned (Value.bool ((b:Int) == 1)) = _
    rcases (show b = 0 ∨ b = 1 by omega) with rfl | rfl <;> rfl
theorem zt6 {S:Nat → Prop} {w:World} {g k n cap:Nat} {o vs:List Nat} (vv:Value) (hrow:w.rowIs g 148 cap (rowU o)) (ho:o.length ≤ cap) (hol:∀ z ∈ o,z < B32) (hkn:k + n < o.length) (hv:U32s S w vv vs) (hS:∀ j,S j → j < w.heap.size ∧ j ≠ g) (lv:vs.length = n) (hcap:cap ≤ 9223372036854775807) :
  Calls Tryz.prog 145 #[.slice (some ⟨g,k,none⟩) (n + 1) (n + 1),vv] w fun e w' => ∃ ps:List Nat,e = .returned (.tuple #[]) ∧ ps.length = n + 1 ∧ (∀ z ∈ ps,z < B32) ∧ val B32 ps = (val B32 (z27 o k n) + val B32 vs) % B32 ^ (n + 1) ∧
   w'.rowIs g 148 cap (rowU (putL o k ps)) ∧ w.grownBy w' (some g) ∧ w'.heap.size = w.heap.size:=by
 have hnb:n + 1 ≤ 9223372036854775807:=by omega
 have HROW:=hid hrow
 have HOL:=hid hol
 have HKN:=hid (And.intro ho hkn)
 have HV:=hid hv
 have hlv:=hv.len_le
 obtain ⟨av,cv,rfl⟩:=hv.form
 rw [lv] at HV hlv ⊢
 have HLV:=hid lv
 clear hrow hol hv ho lv
 go_enter Tryz.func145,Tryz.ntmps145
 go_wp2
 go_loopw [4,8] (fun s4 s8 wr => ∃ (i c:Nat) (ps:List Nat),s4 = .int .u64 (c:Nat) ∧ s8 = .int .i64 (i:Nat) ∧ i ≤ n + 1 ∧ Hid (c ≤ 1 ∧ ps.length = i ∧ (∀ z ∈ ps,z < B32) ∧ val B32 ps + B32 ^ i * c = val B32 ((z27 o k n).take i) + val B32 (vs.take i)) ∧
  wr.rowIs g 148 cap (rowU (putL o k ps)) ∧ w.grownBy wr (some g) ∧ wr.heap.size = w.heap.size) (fun _ s8 _ => n + 1 - (intOf s8).toNat)
 case atStart => exact ⟨0,0,[],rfl,rfl,Nat.zero_le _,hid ⟨by decide,rfl,by simp,by simp [val]⟩,by rw [zl4]; exact HROW.out,zl3 _ _,rfl⟩
 case round =>
  obtain ⟨i,c,ps,rfl,rfl,hi,HI,hrow,hgb,hsz⟩:=hrel
  have HR:=hid hrow
  have HG:=hid (And.intro hgb hsz)
  clear hrow hgb hsz
  by_cases hlt:i < n + 1
  ·obtain ⟨u,hu⟩:∃ u,u = dg (z27 o k n) i:=⟨_,rfl⟩
   have hul:u < 4294967296:=by rw [hu,z9r hlt]; exact zjh (by decide) HOL.out _
   have hcu:wr.cell? ⟨g,k + i,none⟩ = some (.int .u32 (u:Nat)):=by
    have h1:=HR.out.cell (i:=k + i) (by have:=HKN.out; omega)
    rw [h1,hu,z9r hlt]
    have h2:=zqf (o:=o) (ps:=ps) (k:=k) (j:=k + i) (by have:=HI.out.2.1; omega) (by have:=HI.out.2.1; omega)
    show some (Value.int .u32 (dg (putL o k ps) (k + i):Nat)) = _
    rw [h2]
   have hfu:=HR.out.frozen (k + i)
   have HU:=hid hu
   have HUL:=hid hul
   obtain ⟨P,hP⟩:∃ P:Nat,P = c + u:=⟨_,rfl⟩
   have hw1:IntKind.u64.wrap ((c:Int) + (u:Int)) = (P:Int):=by rw [← Int.natCast_add,← hP]; exact z0u (by have:=HI.out.1; omega)
   have hu64:IntKind.u64.wrap (u:Int) = (u:Int):=z0u (by omega)
   have HP:=hid hP
   clear hu hul hP
   by_cases hin:i < n
   ·obtain ⟨x,hx⟩:=z00 (l:=vs) (j:=i) (by rw [HLV.out]; exact hin)
    obtain ⟨b1,o1,rfl,-,hn1,hm1,-,hxl,hcx⟩:=(HV.out.to (S':=S) (fun j hj => HG.out.1.block j (hS j hj).1 (fun e => (hS j hj).2 (Option.some.inj e))) (fun _ h => h)).cellAt hx
    have HX:=hid (z0k hx)
    have hx64:IntKind.u64.wrap (x:Int) = (x:Int):=z0u (by omega)
    obtain ⟨t,ht⟩:∃ t:Nat,t = P + x:=⟨_,rfl⟩
    have htl:t < 18446744073709551616:=by have h1:=HI.out.1; have h2:=HUL.out; have h3:=HP.out; omega
    have hw2:IntKind.u64.wrap ((P:Int) + (x:Int)) = (t:Int):=by rw [← Int.natCast_add,← ht]; exact z0u htl
    have HT:=hid ht
    have HXL:=hid hxl
    clear hx hxl ht htl
    go_wp2
    go_roundw
    case rel =>
     refine ⟨i + 1,t / 4294967296,ps ++ [t % 4294967296],rfl,by go_num,by omega,hid ⟨by have h1:=HI.out.1; have h2:=HUL.out; have h3:=HP.out; have h4:=HT.out; have h5:=HXL.out; omega,by simp [HI.out.2.1],?_,?_⟩,?_,zgg HG.out.1 rfl _,by rw [z06]; exact HG.out.2⟩
     ·intro z hz
      rcases List.mem_append.1 hz with h | h
      ·exact HI.out.2.2.1 z h
      ·rw [List.mem_singleton.1 h]
       exact Nat.mod_lt _ (by decide)
     ·have h1:=zkz (B:=B32) HI.out.2.1 HI.out.2.2.2 HX.out HU.out.symm
      have h2:c + u + x = t:=by rw [HT.out,HP.out]
      rwa [h2] at h1
     ·have h1:=z8y HR.out (by have h2:=HI.out.2.1; have h3:=HKN.out; omega) (t % 4294967296)
      rwa [HI.out.2.1] at h1
    case measure => simp only [intOf]; omega
   ·obtain rfl:i = n:=by omega
    have HX:Hid (dg vs i = 0):=hid (z2a (by rw [HLV.out]; exact Nat.le_refl _))
    obtain ⟨t,ht⟩:∃ t:Nat,t = P:=⟨_,rfl⟩
    have HT:Hid (t = P + 0):=hid ht
    have hc64:IntKind.u64.wrap (P:Int) = (P:Int):=z0u (by have h1:=HI.out.1; have h2:=HUL.out; have h3:=HP.out; omega)
    subst ht
    go_wp2
    go_roundw
    case rel =>
     refine ⟨i + 1,t / 4294967296,ps ++ [t % 4294967296],rfl,by go_num,by omega,hid ⟨by have h1:=HI.out.1; have h2:=HUL.out; have h3:=HP.out; have h4:=HT.out; omega,by simp [HI.out.2.1],?_,?_⟩,?_,zgg HG.out.1 rfl _,by rw [z06]; exact HG.out.2⟩
     ·intro z hz
      rcases List.mem_append.1 hz with h | h
      ·exact HI.out.2.2.1 z h
      ·rw [List.mem_singleton.1 h]
       exact Nat.mod_lt _ (by decide)
     ·have h1:=zkz (B:=B32) HI.out.2.1 HI.out.2.2.2 HX.out HU.out.symm
      have h2:c + u + 0 = t:=by rw [HT.out,HP.out]
      rwa [h2] at h1
     ·have h1:=z8y HR.out (by have h2:=HI.out.2.1; have h3:=HKN.out; omega) (t % 4294967296)
      rwa [HI.out.2.1] at h1
    case measure => simp only [intOf]; omega
  ·obtain rfl:i = n + 1:=by omega
   go_wp2
   all_goals
    first | go_end0 | refine bodyPost_ret (results_none rfl _ _ _) rfl ?_
    obtain ⟨h1,h2,h3,h4⟩:=HI.out
    rw [List.take_of_length_le (by rw [z3o HKN.out.2]; exact Nat.le_refl _),List.take_of_length_le (by rw [HLV.out]; omega)] at h4
    have h5:=z13 (B:=B32) ps h3
    rw [h2] at h5
    refine ⟨ps,rfl,h2,h3,?_,HR.out,HG.out⟩
    rw [← h4,Nat.add_mul_mod_self_left,Nat.mod_eq_of_lt h5]
end
section
open Go.RowKit
theorem z84 (n k:Nat):dg (List.replicate n 0) k = 0:=by
 unfold dg
 rw [List.getElem?_replicate]
 split <;> rfl
theorem zgh {l:List Nat} {k j z:Nat}:dg (l.set k z) j = if k = j ∧ k < l.length then z else dg l j:=by
 unfold dg
 rw [List.getElem?_set]
 by_cases h:k = j
 ·subst h
  by_cases h2:k < l.length
  ·simp [h2]
  ·simp [h2]
 ·simp [h]
theorem zgi {l:List Nat} (h:∀ z ∈ l,z < B32) (k z:Nat) (hz:z < B32):∀ y ∈ l.set k z,y < B32:=fun y hy => by
 rcases List.mem_or_eq_of_mem_set hy with h1 | h1
 ·exact h y h1
 ·rw [h1]; exact hz
theorem zig {o:List Nat} {i k c x y V0 Y:Nat} (hk:i + k < o.length) (h:val B32 o + B32 ^ (i + k) * c = V0 + B32 ^ i * (x * Y)) :
  val B32 (o.set (i + k) ((c + (x * y + dg o (i + k))) % B32)) + B32 ^ (i + (k + 1)) * ((c + (x * y + dg o (i + k))) / B32) = V0 + B32 ^ i * (x * (Y + B32 ^ k * y)):=by
 have h1:=zef (B:=B32) o (i + k) ((c + (x * y + dg o (i + k))) % B32) hk
 generalize hs:c + (x * y + dg o (i + k)) = s at *
 have h2:s % B32 + B32 * (s / B32) = s:=Nat.mod_add_div _ _
 have e1:B32 ^ (i + (k + 1)) * (s / B32) = B32 ^ (i + k) * (B32 * (s / B32)):=by
  rw [← Nat.add_assoc,Nat.pow_succ,Nat.mul_assoc]
 have e2:B32 ^ i * (x * (Y + B32 ^ k * y)) = B32 ^ i * (x * Y) + B32 ^ (i + k) * (x * y):=by
  rw [Nat.mul_add,Nat.mul_add,Nat.pow_add]
  congr 1
  rw [Nat.mul_assoc,Nat.mul_left_comm x]
 have e3:B32 ^ (i + k) * s = B32 ^ (i + k) * (s % B32) + B32 ^ (i + k) * (B32 * (s / B32)):=by
  rw [← Nat.mul_add,h2]
 have e4:B32 ^ (i + k) * s = B32 ^ (i + k) * c + (B32 ^ (i + k) * (x * y) + B32 ^ (i + k) * dg o (i + k)):=by
  rw [← hs,Nat.mul_add,Nat.mul_add]
 rw [e1,e2]
 omega
theorem zl5 {o:List Nat} {i c x V0:Nat} {xs ys:List Nat} (hx:xs[i]? = some x) (hi:i + ys.length < o.length) (h0:dg o (i + ys.length) = 0) (hV:V0 = val B32 (xs.take i) * val B32 ys) (h:val B32 o + B32 ^ (i + ys.length) * c = V0 + B32 ^ i * (x * val B32 ys)) :
  val B32 (o.set (i + ys.length) c) = val B32 (xs.take (i + 1)) * val B32 ys:=by
 have h1:=zef (B:=B32) o (i + ys.length) c hi
 rw [h0] at h1
 have h2:=z2l (B:=B32) hx
 rw [h2,Nat.add_mul,← hV,Nat.mul_assoc]
 omega
theorem zl6 {x y d c:Nat} (hx:x < 4294967296) (hy:y < 4294967296) (hd:d < 4294967296) (hc:c < 4294967296):x * y ≤ 18446744065119617025 ∧ c + (x * y + d) ≤ 18446744073709551615:=by
 have h1:x * y ≤ 4294967295 * 4294967295:=Nat.mul_le_mul (by omega) (by omega)
 omega
theorem zih {S:Nat → Prop} (va vb:Value) (xs ys:List Nat) (w:World) (ha:U32s S w va xs) (hb:U32s S w vb ys) (hS:∀ k,S k → k < w.heap.size) (hr:xs.length + ys.length ≤ 1000000000000) :
  Calls Tryz.prog 179 #[va,vb] w fun e w' => ∃ v',e = .returned v' ∧ U32s (New w w') w' v' (rep B32 (val B32 xs * val B32 ys)) ∧ Ext w w':=by
 have HA:=hid ha
 have HB:=hid hb
 have hla:=ha.len_le
 have hlb:=hb.len_le
 obtain ⟨aa,ca,rfl⟩:=ha.form
 obtain ⟨ab,cb,rfl⟩:=hb.form
 obtain ⟨n,hn⟩:∃ n,n = xs.length:=⟨_,rfl⟩
 obtain ⟨m,hm⟩:∃ n,n = ys.length:=⟨_,rfl⟩
 rw [← hn,← hm] at hr
 rw [← hn] at HA hla ⊢
 rw [← hm] at HB hlb ⊢
 have HNN:=hid hn
 have HMM:=hid hm
 clear ha hb hn hm
 have hmk:=run_make_row' (P:=Tryz.prog) 24 148 (.int .u32 0) 4 Tryz.underlying24 Tryz.infoU32 rfl .i64 .i64 (n + m) (by omega) (by omega) w
 rw [show ((n + m:Nat):Int) = (n:Int) + (m:Int) by omega] at hmk
 have HR:=hid (z6b w (n + m) 148)
 have HE:=hid (Ext.alloc (Ext.refl w) (.cells (madeCells #[.int .u32 0] (n + m)) 148))
 go_enter Tryz.func179,Tryz.ntmps179
 go_wp2
 go_loopw [19] (fun i wr => ∃ (k:Nat) (o:List Nat),k ≤ n ∧ i = .int .i64 k ∧ Hid (o.length = n + m) ∧ Hid (∀ z ∈ o,z < B32) ∧ wr.rowIs w.heap.size 148 (n + m) (rowU o) ∧ Ext w wr ∧ Hid (w.heap.size < wr.heap.size) ∧
  Hid (val B32 o = val B32 (xs.take k) * val B32 ys) ∧ Hid (∀ j,k + m ≤ j → dg o j = 0)) (fun i _ => n - (intOf i).toNat)
 case atStart => exact ⟨0,List.replicate (n + m) 0,Nat.zero_le _,rfl,hid (by simp),hid (fun z hz => by rw [(List.mem_replicate.1 hz).2]; decide),HR.out,HE.out,hid (by simp),hid (by rw [z76]; simp [val]),hid (fun j _ => z84 _ _)⟩
 case round =>
  obtain ⟨k,o,hk,rfl,HOL,HO,hrow,hx,HGS,HV,HZ⟩:=hrel
  have HX:=hid hx
  have HROW:=hid hrow
  clear hrow
  by_cases hlt:k < n
  ·obtain ⟨x,hx1⟩:=z00 (l:=xs) (j:=k) (by rw [← HNN.out]; exact hlt)
   obtain ⟨b1,o1,rfl,-,hn1,hm1,-,hxb,hc1⟩:=(HA.out.to (Kept.ext hx hS) (fun _ h => h)).cellAt hx1
   have HX1:=hid hx1
   have HXB:=hid hxb
   clear hx hx1
   go_wp2
   obtain ⟨wo,rfl⟩:∃ wo:World,wo = wr:=⟨_,rfl⟩
   go_loopw [8,26] (fun c i wr => ∃ (j cc:Nat) (o2:List Nat),j ≤ m ∧ i = .int .i64 j ∧ c = .int .u64 cc ∧ cc < 4294967296 ∧ Hid (o2.length = n + m) ∧ Hid (∀ z ∈ o2,z < B32) ∧ wr.rowIs w.heap.size 148 (n + m) (rowU o2) ∧ Ext w wr ∧ Hid (w.heap.size < wr.heap.size) ∧
    Hid (val B32 o2 + B32 ^ (k + j) * cc = val B32 o + B32 ^ k * (x * val B32 (ys.take j))) ∧ Hid (∀ i,k + m ≤ i → dg o2 i = 0)) (fun _ i _ => m - (intOf i).toNat)
   case atStart => exact ⟨0,0,o,Nat.zero_le _,rfl,rfl,by omega,HOL,HO,HROW.out,HX.out,HGS,hid (by simp [val]),HZ⟩
   case round =>
    obtain ⟨j,cc,o2,hj,rfl,rfl,hcc,HOL2,HO2,hrow2,hx2,HGS2,HV2,HZ2⟩:=hrel
    have HX2:=hid hx2
    have HROW2:=hid hrow2
    by_cases hlt2:j < m
    ·obtain ⟨y,hy1⟩:=z00 (l:=ys) (j:=j) (by rw [← HMM.out]; exact hlt2)
     obtain ⟨b2,o3,rfl,-,hn2,hm2,-,hyb,hc2⟩:=(HB.out.to (Kept.ext hx2 hS) (fun _ h => h)).cellAt hy1
     have HY1:=hid hy1
     obtain ⟨t,ht⟩:∃ t,t = k + j:=⟨_,rfl⟩
     have hti:(k:Int) + (j:Int) = (t:Int):=by omega
     have htl:t < n + m:=by omega
     have hcs:=hrow2.cell (i:=t) htl
     have hfs:=hrow2.frozen t
     have hdl:dg o2 t < 4294967296:=zjh (by decide) HO2.out t
     unfold rowU at hcs
     obtain ⟨d,hd⟩:∃ d,d = dg o2 t:=⟨_,rfl⟩
     rw [← hd] at hcs hdl
     have HD:=hid hd
     have HT:=hid ht
     obtain ⟨hp1,hp2⟩:=zl6 hxb hyb hdl hcc
     obtain ⟨p,hp⟩:∃ p,p = x * y:=⟨_,rfl⟩
     have hpi:(x:Int) * (y:Int) = (p:Int):=by rw [hp,Int.natCast_mul]
     rw [← hp] at hp1 hp2
     have HP:=hid hp
     clear hy1 hrow2 hx2 hd ht hp
     go_wp2
     go_roundw
     case rel =>
      have hmod:(cc + (p + d)) % 4294967296 < B32:=Nat.mod_lt _ (by decide)
      refine ⟨j + 1,(cc + (p + d)) / 4294967296,o2.set t ((cc + (p + d)) % 4294967296),by omega,by go_num,congrArg (Value.int .u64) (by omega),by omega,hid (by rw [List.length_set]; exact HOL2.out),hid (zgi HO2.out t _ hmod),?_,HX2.out.setCell (p:=⟨w.heap.size,t,none⟩) (Nat.le_refl _) _,hid (by rw [z06]; exact HGS2.out),?_,?_⟩
      ·have h1:=z57 HROW2.out t ((cc + (p + d)) % 4294967296) (by rw [HOL2.out]; exact htl)
       refine cast (congrArg (fun e => World.rowIs (World.setCell wr ⟨w.heap.size,t,none⟩ (Value.int .u32 e)) _ _ _ _) ?_) h1
       omega
      ·have h1:=zig (o:=o2) (i:=k) (k:=j) (c:=cc) (x:=x) (y:=y) (V0:=val B32 o) (Y:=val B32 (ys.take j)) (by rw [HOL2.out,← HT.out]; exact htl) HV2.out
       rw [← z2l HY1.out,← HP.out,← HT.out,← HD.out] at h1
       exact h1
      ·refine hid (fun i hi => ?_)
       rw [zgh,if_neg (by have:=HT.out; omega)]
       exact HZ2.out i hi
     case measure => simp only [intOf]; omega
    ·obtain rfl:m = j:=by omega
     obtain ⟨t,ht⟩:∃ t,t = k + m:=⟨_,rfl⟩
     have hti:(k:Int) + (m:Int) = (t:Int):=by omega
     have htl:t < n + m:=by omega
     have hcs:=hrow2.cell (i:=t) htl
     have hfs:=hrow2.frozen t
     have hv3:val B32 (o2.set t cc) = val B32 (xs.take (k + 1)) * val B32 ys:=by
      have h1:=HV2.out
      rw [show ys.take m = ys by rw [HMM.out]; exact List.take_length] at h1
      have h2:=zl5 (o:=o2) (i:=k) (c:=cc) (xs:=xs) (ys:=ys) HX1.out (by rw [HOL2.out,← HMM.out,← ht]; exact htl) (by rw [← HMM.out]; exact HZ2.out _ (Nat.le_refl _)) HV.out (by rw [← HMM.out]; exact h1)
      rw [← HMM.out,← ht] at h2
      exact h2
     have HV3:=hid hv3
     have HT:=hid ht
     have HCC:=hid hcc
     clear hrow2 hx2 hv3 ht
     go_wp2
     go_roundw
     case rel =>
      refine ⟨k + 1,o2.set t cc,by omega,by go_num,hid (by rw [List.length_set]; exact HOL2.out),hid (zgi HO2.out t _ HCC.out),?_,HX2.out.setCell (p:=⟨w.heap.size,t,none⟩) (Nat.le_refl _) _,hid (by rw [z06]; exact HGS2.out),HV3,hid (fun i hi => ?_)⟩
      ·have h1:=z57 HROW2.out t cc (by rw [HOL2.out]; exact htl)
       refine cast (congrArg (fun e => World.rowIs (World.setCell wr ⟨w.heap.size,t,none⟩ (Value.int .u32 e)) _ _ _ _) ?_) h1
       omega
      ·rw [zgh,if_neg (by have:=HT.out; omega)]
       exact HZ2.out i (by omega)
     case measure => simp only [intOf]; omega
  ·obtain rfl:n = k:=by omega
   have hv:val B32 o = val B32 xs * val B32 ys:=by
    have h1:=HV.out
    rwa [show xs.take n = xs by rw [HNN.out]; exact List.take_length] at h1
   have HVE:=hid hv
   have hu:U32s (fun k => k = w.heap.size) wr (.slice (some ⟨w.heap.size,0,none⟩) (n + m) (n + m)) o:=by
    have h1:=U32s.of_row HROW.out (by have:=HOL.out; omega) HO.out (by omega)
    rwa [HOL.out] at h1
   have hz:w.heap.size < wr.heap.size:=HGS.out
   have HC:=hid (z22 (S:=fun k => k = w.heap.size) _ o wr hu (fun k hk => by rw [hk]; exact hz) (by rw [HOL.out]; omega))
   clear hx hv hu hz
   go_wp2_with fail
   with_reducible refine HC.out.mono ?_
   rintro e w2 ⟨v2,rfl,hp2,hx2⟩
   rw [HVE.out] at hp2
   have HP2:=hid (hp2.to (S':=New w w2) (Kept.refl _ _) (fun k h => ⟨Nat.le_trans HX.out.size h.1,h.2⟩))
   have HX2:=hid (HX.out.trans hx2)
   clear hp2 hx2
   go_wp2
   all_goals
    go_ret
    exact ⟨_,rfl,HP2.out,HX2.out⟩
end
end Go.Proofs.YtbfflodidkfphaaGreat
