/- The product of two quotients. The sum of two quotients. The sign of a quotient; a whole number as one. A quotient's power. A polynomial's value at a point: its size, and the value of a product. Plain. A polynomial's value at a point. The sign of a polynomial's value at a point. Polynomials, plain: the sum of the coefficients' sizes. -/
import Derived.Deep.RegionWith
import Derived.Deep.DeepCutAuto
import Derived.Laws.BitsLemmas
import Derived.IntWalk
import Derived.Deep.CutBlock
import Derived.Test.YtdcijfhkfhhfjaaGreatPt10
set_option maxRecDepth 100000
set_option maxHeartbeats 16000000
namespace Go.Proofs.YtdcijfhkfhhfjaaGreat
section
open Go.RowKit
def lenZ (z:Int):Nat:=(rep B32 z.natAbs).length
theorem z9w {a g n:Int} (hg:g ≠ 0) (h:a = n * g):lenZ n ≤ lenZ a:=by
 refine z1o ?_
 rw [h,Int.natAbs_mul]
 exact Nat.le_mul_of_pos_right _ (by omega)
theorem z7z (a b:Int):lenZ (putQ a b).num ≤ lenZ a ∧ lenZ ((putQ a b).den:Int) ≤ lenZ b + 1:=by
 unfold putQ
 by_cases h:b = 0
 ·rw [if_pos h]
  obtain ⟨h1,h2,h3⟩:=z63 a 1 (by decide)
  refine ⟨z9w h1 h2,Nat.le_trans (z9w h1 h3) ?_⟩
  have:lenZ 1 = 1:=by decide
  omega
 ·rw [if_neg h]
  obtain ⟨h1,h2,h3⟩:=z63 a b h
  exact ⟨z9w h1 h2,Nat.le_trans (z9w h1 h3) (Nat.le_succ _)⟩
theorem z39 {r:RInt} (h:∀ z ∈ r.mag,z < B32):lenZ (valI r) ≤ r.mag.length:=by
 unfold lenZ
 rw [zev]
 exact z14 h
theorem zz1 (p q:Rat):Rat.divInt (p.num * q.num) ((p.den:Int) * (q.den:Int)) = p * q:=by
 rw [← Rat.divInt_mul_divInt,Rat.num_divInt_den,Rat.num_divInt_den]
theorem z24 {a w:World} {b:Nat} (h:Ext a w) (hb:a.heap.size ≤ b) (x y z t:Value):Ext a ((((w.setCell ⟨b,0,none⟩ x).setCell ⟨b,1,none⟩ y).setCell ⟨b,2,none⟩ z).setCell ⟨b,3,none⟩ t):=(((h.setCell hb _).setCell hb _).setCell hb _).setCell hb _
theorem z3p {w:World} {b c i:Nat} {u:Value} (h:w.cell? ⟨c,i,none⟩ = some u) (hne:b ≠ c) (x y z t:Value):((((w.setCell ⟨b,0,none⟩ x).setCell ⟨b,1,none⟩ y).setCell ⟨b,2,none⟩ z).setCell ⟨b,3,none⟩ t).cell? ⟨c,i,none⟩ = some u:=z09 (z09 (z09 (z09 h (ab hne)) (ab hne)) (ab hne)) (ab hne)
theorem zm4 {w:World} {b:Nat} {c:Addr} (h:w.frozen? c = false) (x y z t:Value):((((w.setCell ⟨b,0,none⟩ x).setCell ⟨b,1,none⟩ y).setCell ⟨b,2,none⟩ z).setCell ⟨b,3,none⟩ t).frozen? c = false:=z16 (z16 (z16 (z16 h)))
theorem zdn {S:Nat → Prop} {w:World} {b:Nat} {v:Value} {zs:List Nat} (h:U32s S w v zs) (hb:¬ S b) (x y z t:Value):U32s S ((((w.setCell ⟨b,0,none⟩ x).setCell ⟨b,1,none⟩ y).setCell ⟨b,2,none⟩ z).setCell ⟨b,3,none⟩ t) v zs:=z4f (z4f (z4f (z4f h hb _) hb _) hb _) hb _
def Mid (w w0 wx:World) (p q:Rat):Prop:=∃ (an3 ad3 an4 ad4:Option Addr) (cn3 cd3 cn4 cd4:Nat),
 (wx.cell? ⟨w.heap.size,0,none⟩ = some (.bool (ofI p.num).neg) ∧ wx.cell? ⟨w.heap.size,1,none⟩ = some (.slice an3 (ofI p.num).mag.length cn3) ∧ wx.cell? ⟨w.heap.size,2,none⟩ = some (.bool (ofI (p.den:Int)).neg) ∧ wx.cell? ⟨w.heap.size,3,none⟩ = some (.slice ad3 (ofI (p.den:Int)).mag.length cd3)) ∧
 (wx.cell? ⟨w.heap.size + 1,0,none⟩ = some (.bool (ofI q.num).neg) ∧ wx.cell? ⟨w.heap.size + 1,1,none⟩ = some (.slice an4 (ofI q.num).mag.length cn4) ∧ wx.cell? ⟨w.heap.size + 1,2,none⟩ = some (.bool (ofI (q.den:Int)).neg) ∧ wx.cell? ⟨w.heap.size + 1,3,none⟩ = some (.slice ad4 (ofI (q.den:Int)).mag.length cd4)) ∧
 (wx.cell? ⟨w.heap.size + 1 + 1,0,none⟩ = some (.bool false) ∧ wx.cell? ⟨w.heap.size + 1 + 1,1,none⟩ = some (.slice none 0 0) ∧ wx.cell? ⟨w.heap.size + 1 + 1,2,none⟩ = some (.bool false) ∧ wx.cell? ⟨w.heap.size + 1 + 1,3,none⟩ = some (.slice none 0 0) ∧ ∀ i,wx.frozen? ⟨w.heap.size + 1 + 1,i,none⟩ = false) ∧
 U32s (New w0 wx) wx (.slice an3 (ofI p.num).mag.length cn3) (ofI p.num).mag ∧ U32s (New w0 wx) wx (.slice ad3 (ofI (p.den:Int)).mag.length cd3) (ofI (p.den:Int)).mag ∧
 U32s (New w0 wx) wx (.slice an4 (ofI q.num).mag.length cn4) (ofI q.num).mag ∧ U32s (New w0 wx) wx (.slice ad4 (ofI (q.den:Int)).mag.length cd4) (ofI (q.den:Int)).mag ∧
 Ext w wx ∧ w0.heap.size ≤ wx.heap.size
theorem zva {w w0 wa w1 w2:World} {p q:Rat} {an3 ad3 an4 ad4:Option Addr} {cn3 cd3 cn4 cd4:Nat} (hsz:w0.heap.size = w.heap.size + 1 + 1 + 1) (hwa:Ext w wa) (hwz:wa.heap.size = w0.heap.size) (hx1:Ext wa w1) (hx2:Ext w1 w2)
  (hn3:U32s (New wa w1) w1 (.slice an3 (ofI p.num).mag.length cn3) (ofI p.num).mag) (hd3:U32s (New wa w1) w1 (.slice ad3 (ofI (p.den:Int)).mag.length cd3) (ofI (p.den:Int)).mag)
  (hn4:U32s (New w1 w2) w2 (.slice an4 (ofI q.num).mag.length cn4) (ofI q.num).mag) (hd4:U32s (New w1 w2) w2 (.slice ad4 (ofI (q.den:Int)).mag.length cd4) (ofI (q.den:Int)).mag)
  {o:Nat → Nat → Value} (hc:∀ b i,b < 2 → i < 4 → w2.cell? ⟨w.heap.size + b,i,none⟩ = some (o b i))
  (hr:w2.cell? ⟨w.heap.size + 1 + 1,0,none⟩ = some (.bool false) ∧ w2.cell? ⟨w.heap.size + 1 + 1,1,none⟩ = some (.slice none 0 0) ∧ w2.cell? ⟨w.heap.size + 1 + 1,2,none⟩ = some (.bool false) ∧ w2.cell? ⟨w.heap.size + 1 + 1,3,none⟩ = some (.slice none 0 0) ∧ ∀ i,w2.frozen? ⟨w.heap.size + 1 + 1,i,none⟩ = false) :
  Mid w w0 ((((((((w2.setCell ⟨w.heap.size,0,none⟩ (.bool (ofI p.num).neg)).setCell ⟨w.heap.size,1,none⟩ (.slice an3 (ofI p.num).mag.length cn3)).setCell ⟨w.heap.size,2,none⟩ (.bool (ofI (p.den:Int)).neg)).setCell ⟨w.heap.size,3,none⟩ (.slice ad3 (ofI (p.den:Int)).mag.length cd3)).setCell
   ⟨w.heap.size + 1,0,none⟩ (.bool (ofI q.num).neg)).setCell ⟨w.heap.size + 1,1,none⟩ (.slice an4 (ofI q.num).mag.length cn4)).setCell ⟨w.heap.size + 1,2,none⟩ (.bool (ofI (q.den:Int)).neg)).setCell ⟨w.heap.size + 1,3,none⟩ (.slice ad4 (ofI (q.den:Int)).mag.length cd4)) p q:=by
 have k0:=z34 (.bool (ofI p.num).neg) (.slice an3 (ofI p.num).mag.length cn3) (.bool (ofI (p.den:Int)).neg) (.slice ad3 (ofI (p.den:Int)).mag.length cd3) (hc 0 0 (by decide) (by decide)) (hc 0 1 (by decide) (by decide)) (hc 0 2 (by decide) (by decide)) (hc 0 3 (by decide) (by decide))
 have n1:w.heap.size ≠ w.heap.size + 1:=by omega
 have n2:w.heap.size ≠ w.heap.size + 1 + 1:=by omega
 have n3:w.heap.size + 1 ≠ w.heap.size + 1 + 1:=by omega
 have n4:w.heap.size + 1 ≠ w.heap.size:=by omega
 have k1:=z34 (.bool (ofI q.num).neg) (.slice an4 (ofI q.num).mag.length cn4) (.bool (ofI (q.den:Int)).neg) (.slice ad4 (ofI (q.den:Int)).mag.length cd4)
  (z3p (hc 1 0 (by decide) (by decide)) n1 (.bool (ofI p.num).neg) (.slice an3 (ofI p.num).mag.length cn3) (.bool (ofI (p.den:Int)).neg) (.slice ad3 (ofI (p.den:Int)).mag.length cd3))
  (z3p (hc 1 1 (by decide) (by decide)) n1 (.bool (ofI p.num).neg) (.slice an3 (ofI p.num).mag.length cn3) (.bool (ofI (p.den:Int)).neg) (.slice ad3 (ofI (p.den:Int)).mag.length cd3))
  (z3p (hc 1 2 (by decide) (by decide)) n1 (.bool (ofI p.num).neg) (.slice an3 (ofI p.num).mag.length cn3) (.bool (ofI (p.den:Int)).neg) (.slice ad3 (ofI (p.den:Int)).mag.length cd3))
  (z3p (hc 1 3 (by decide) (by decide)) n1 (.bool (ofI p.num).neg) (.slice an3 (ofI p.num).mag.length cn3) (.bool (ofI (p.den:Int)).neg) (.slice ad3 (ofI (p.den:Int)).mag.length cd3))
 have s1:w1.heap.size ≤ w2.heap.size:=hx2.size
 have s0:wa.heap.size ≤ w1.heap.size:=hx1.size
 have up:∀ v zs,U32s (New w0 w2) w2 v zs → U32s (New w0 ((((((((w2.setCell ⟨w.heap.size,0,none⟩ (.bool (ofI p.num).neg)).setCell ⟨w.heap.size,1,none⟩ (.slice an3 (ofI p.num).mag.length cn3)).setCell ⟨w.heap.size,2,none⟩ (.bool (ofI (p.den:Int)).neg)).setCell ⟨w.heap.size,3,none⟩ (.slice ad3 (ofI (p.den:Int)).mag.length cd3)).setCell
   ⟨w.heap.size + 1,0,none⟩ (.bool (ofI q.num).neg)).setCell ⟨w.heap.size + 1,1,none⟩ (.slice an4 (ofI q.num).mag.length cn4)).setCell ⟨w.heap.size + 1,2,none⟩ (.bool (ofI (q.den:Int)).neg)).setCell ⟨w.heap.size + 1,3,none⟩ (.slice ad4 (ofI (q.den:Int)).mag.length cd4))) ((((((((w2.setCell ⟨w.heap.size,0,none⟩ (.bool (ofI p.num).neg)).setCell ⟨w.heap.size,1,none⟩ (.slice an3 (ofI p.num).mag.length cn3)).setCell ⟨w.heap.size,2,none⟩ (.bool (ofI (p.den:Int)).neg)).setCell ⟨w.heap.size,3,none⟩ (.slice ad3 (ofI (p.den:Int)).mag.length cd3)).setCell
   ⟨w.heap.size + 1,0,none⟩ (.bool (ofI q.num).neg)).setCell ⟨w.heap.size + 1,1,none⟩ (.slice an4 (ofI q.num).mag.length cn4)).setCell ⟨w.heap.size + 1,2,none⟩ (.bool (ofI (q.den:Int)).neg)).setCell ⟨w.heap.size + 1,3,none⟩ (.slice ad4 (ofI (q.den:Int)).mag.length cd4)) v zs:=fun v zs h =>
  (zdn (zdn h (fun h => by have:=h.1; omega) _ _ _ _) (fun h => by have:=h.1; omega) _ _ _ _).to (Kept.refl _ _) (fun k hk => ⟨hk.1,by simp only [z07]; exact hk.2⟩)
 refine ⟨an3,ad3,an4,ad4,cn3,cd3,cn4,cd4,⟨z3p k0.1 n4 _ _ _ _,z3p k0.2.1 n4 _ _ _ _,z3p k0.2.2.1 n4 _ _ _ _,z3p k0.2.2.2 n4 _ _ _ _⟩,⟨k1.1,k1.2.1,k1.2.2.1,k1.2.2.2⟩,
  ⟨z3p (z3p hr.1 n2 _ _ _ _) n3 _ _ _ _,z3p (z3p hr.2.1 n2 _ _ _ _) n3 _ _ _ _,z3p (z3p hr.2.2.1 n2 _ _ _ _) n3 _ _ _ _,z3p (z3p hr.2.2.2.1 n2 _ _ _ _) n3 _ _ _ _,fun i => zm4 (zm4 (hr.2.2.2.2 i) _ _ _ _) _ _ _ _⟩,?_,?_,?_,?_,?_,?_⟩
 ·exact up _ _ (hn3.to (Kept.ext hx2 New.lt) (fun k h => ⟨by rw [← hwz]; exact h.1,Nat.lt_of_lt_of_le h.2 s1⟩))
 ·exact up _ _ (hd3.to (Kept.ext hx2 New.lt) (fun k h => ⟨by rw [← hwz]; exact h.1,Nat.lt_of_lt_of_le h.2 s1⟩))
 ·exact up _ _ (hn4.to (Kept.refl _ _) (fun k h => ⟨by rw [← hwz]; exact Nat.le_trans s0 h.1,h.2⟩))
 ·exact up _ _ (hd4.to (Kept.refl _ _) (fun k h => ⟨by rw [← hwz]; exact Nat.le_trans s0 h.1,h.2⟩))
 ·exact z24 (z24 ((hwa.trans hx1).trans hx2) (Nat.le_refl _) _ _ _ _) (Nat.le_succ _) _ _ _ _
 ·simp only [z07]
  omega
def Box (W:World) (b:Nat):Prop:=W.cell? ⟨b,0,none⟩ = some (.bool false) ∧ W.cell? ⟨b,1,none⟩ = some (.slice none 0 0) ∧ W.cell? ⟨b,2,none⟩ = some (.bool false) ∧ W.cell? ⟨b,3,none⟩ = some (.slice none 0 0) ∧ (∀ i,W.frozen? ⟨b,i,none⟩ = false) ∧ b < W.heap.size
theorem z54 {w W:World} {T:TypeId} (h:Ext (w.alloc (.cells #[.bool false,.slice none 0 0,.bool false,.slice none 0 0] T)) W):Box W w.heap.size :=
 ⟨h.new_cell rfl,h.new_cell rfl,h.new_cell rfl,h.new_cell rfl,fun i => h.new_free i,Nat.lt_of_lt_of_le (by rw [z02]; omega) h.size⟩
theorem z25 {w W:World} {b:Nat} (h:Box w b) (hx:Ext w W):Box W b :=
 ⟨hx.cell h.1,hx.cell h.2.1,hx.cell h.2.2.1,hx.cell h.2.2.2.1,fun i => hx.free h.2.2.2.2.2 (h.2.2.2.2.1 i),Nat.lt_of_lt_of_le h.2.2.2.2.2 hx.size⟩
def RBox (b2:Nat) (wc wx:World) (u:Value) (r:Rat):Prop:=∃ (b:Nat) (a3 a4:Option Addr) (k3 k4:Nat),u = .pointer (some ⟨b,0,none⟩) ∧
 (wx.cell? ⟨b,0,none⟩ = some (.bool (ofI r.num).neg) ∧ wx.cell? ⟨b,1,none⟩ = some (.slice a3 (ofI r.num).mag.length k3) ∧ wx.cell? ⟨b,2,none⟩ = some (.bool (ofI (r.den:Int)).neg) ∧ wx.cell? ⟨b,3,none⟩ = some (.slice a4 (ofI (r.den:Int)).mag.length k4)) ∧
 Box wx b2 ∧ U32s (New wc wx) wx (.slice a3 (ofI r.num).mag.length k3) (ofI r.num).mag ∧ U32s (New wc wx) wx (.slice a4 (ofI (r.den:Int)).mag.length k4) (ofI (r.den:Int)).mag ∧ Ext wc wx
theorem zaw {wc w2 w3:World} {b b2:Nat} {a3 a4:Option Addr} {k3 k4:Nat} {r:Rat} (hx:Ext wc w3) (hs:wc.heap.size ≤ w2.heap.size) (hn:U32s (New w2 w3) w3 (.slice a3 (ofI r.num).mag.length k3) (ofI r.num).mag) (hd:U32s (New w2 w3) w3 (.slice a4 (ofI (r.den:Int)).mag.length k4) (ofI (r.den:Int)).mag)
  (hb:Box w3 b) (hlo:wc.heap.size ≤ b) (hhi:b < w2.heap.size) (hb2:Box w3 b2) (h2:b2 < wc.heap.size) :
  RBox b2 wc ((((w3.setCell ⟨b,0,none⟩ (.bool (ofI r.num).neg)).setCell ⟨b,1,none⟩ (.slice a3 (ofI r.num).mag.length k3)).setCell ⟨b,2,none⟩ (.bool (ofI (r.den:Int)).neg)).setCell ⟨b,3,none⟩ (.slice a4 (ofI (r.den:Int)).mag.length k4)) (.pointer (some ⟨b,0,none⟩)) r:=by
 have k0:=z34 (.bool (ofI r.num).neg) (.slice a3 (ofI r.num).mag.length k3) (.bool (ofI (r.den:Int)).neg) (.slice a4 (ofI (r.den:Int)).mag.length k4) hb.1 hb.2.1 hb.2.2.1 hb.2.2.2.1
 have hne:b ≠ b2:=by omega
 have hnb:¬ New w2 w3 b:=fun h => by have:=h.1; omega
 have up:∀ v zs,U32s (New w2 w3) w3 v zs → U32s (New wc ((((w3.setCell ⟨b,0,none⟩ (.bool (ofI r.num).neg)).setCell ⟨b,1,none⟩ (.slice a3 (ofI r.num).mag.length k3)).setCell ⟨b,2,none⟩ (.bool (ofI (r.den:Int)).neg)).setCell ⟨b,3,none⟩ (.slice a4 (ofI (r.den:Int)).mag.length k4)))
   ((((w3.setCell ⟨b,0,none⟩ (.bool (ofI r.num).neg)).setCell ⟨b,1,none⟩ (.slice a3 (ofI r.num).mag.length k3)).setCell ⟨b,2,none⟩ (.bool (ofI (r.den:Int)).neg)).setCell ⟨b,3,none⟩ (.slice a4 (ofI (r.den:Int)).mag.length k4)) v zs:=fun v zs h =>
  (zdn h hnb _ _ _ _).to (Kept.refl _ _) (fun k hk => ⟨Nat.le_trans hs hk.1,by simp only [z07]; exact hk.2⟩)
 exact ⟨b,a3,a4,k3,k4,rfl,k0,⟨z3p hb2.1 hne _ _ _ _,z3p hb2.2.1 hne _ _ _ _,z3p hb2.2.2.1 hne _ _ _ _,z3p hb2.2.2.2.1 hne _ _ _ _,fun i => zm4 (hb2.2.2.2.2.1 i) _ _ _ _,by simp only [z07]; exact hb2.2.2.2.2.2⟩,up _ _ hn,up _ _ hd,z24 hx hlo _ _ _ _⟩
theorem zju {wc w2 w3:World} {b2:Nat} {a3 a4:Option Addr} {k3 k4:Nat} {r:Rat} {T:TypeId} (hx:Ext wc w3) (hs:wc.heap.size ≤ w2.heap.size) (hn:U32s (New w2 w3) w3 (.slice a3 (ofI r.num).mag.length k3) (ofI r.num).mag) (hd:U32s (New w2 w3) w3 (.slice a4 (ofI (r.den:Int)).mag.length k4) (ofI (r.den:Int)).mag)
  (hb2:Box w3 b2) :
  RBox b2 wc (w3.alloc (.cells #[.bool (ofI r.num).neg,.slice a3 (ofI r.num).mag.length k3,.bool (ofI (r.den:Int)).neg,.slice a4 (ofI (r.den:Int)).mag.length k4] T)) (.pointer (some ⟨w3.heap.size,0,none⟩)) r:=by
 have hA:Ext w3 (w3.alloc (.cells #[.bool (ofI r.num).neg,.slice a3 (ofI r.num).mag.length k3,.bool (ofI (r.den:Int)).neg,.slice a4 (ofI (r.den:Int)).mag.length k4] T)):=Ext.alloc (Ext.refl _) _
 have up:∀ v zs,U32s (New w2 w3) w3 v zs → U32s (New wc (w3.alloc (.cells #[.bool (ofI r.num).neg,.slice a3 (ofI r.num).mag.length k3,.bool (ofI (r.den:Int)).neg,.slice a4 (ofI (r.den:Int)).mag.length k4] T))) (w3.alloc (.cells #[.bool (ofI r.num).neg,.slice a3 (ofI r.num).mag.length k3,.bool (ofI (r.den:Int)).neg,.slice a4 (ofI (r.den:Int)).mag.length k4] T)) v zs:=fun v zs h =>
  h.to (Kept.ext hA New.lt) (fun k hk => ⟨Nat.le_trans hs hk.1,Nat.lt_of_lt_of_le hk.2 hA.size⟩)
 exact ⟨w3.heap.size,a3,a4,k3,k4,rfl,⟨z04 _ _ _ rfl rfl,z04 _ _ _ rfl rfl,z04 _ _ _ rfl rfl,z04 _ _ _ rfl rfl⟩,z25 hb2 hA,up _ _ hn,up _ _ hd,hx.trans hA⟩
theorem zjv {w wc wx:World} {b2:Nat} {a3 a4:Option Addr} {k3 k4:Nat} {r:Rat} (hw:Ext w wc) (hx:Ext wc wx) (hlo:w.heap.size ≤ b2) (hhi:b2 < wc.heap.size) (hn:U32s (New wc wx) wx (.slice a3 (ofI r.num).mag.length k3) (ofI r.num).mag) (hd:U32s (New wc wx) wx (.slice a4 (ofI (r.den:Int)).mag.length k4) (ofI (r.den:Int)).mag) (x y z t:Value) :
  RatQ (New w ((((wx.setCell ⟨b2,0,none⟩ x).setCell ⟨b2,1,none⟩ y).setCell ⟨b2,2,none⟩ z).setCell ⟨b2,3,none⟩ t)) ((((wx.setCell ⟨b2,0,none⟩ x).setCell ⟨b2,1,none⟩ y).setCell ⟨b2,2,none⟩ z).setCell ⟨b2,3,none⟩ t) (.agg #[.bool (ofI r.num).neg,.slice a3 (ofI r.num).mag.length k3,.bool (ofI (r.den:Int)).neg,.slice a4 (ofI (r.den:Int)).mag.length k4]) r ∧
  Ext w ((((wx.setCell ⟨b2,0,none⟩ x).setCell ⟨b2,1,none⟩ y).setCell ⟨b2,2,none⟩ z).setCell ⟨b2,3,none⟩ t):=by
 have hnb:¬ New wc wx b2:=fun h => by have:=h.1; omega
 have up:∀ v zs,U32s (New wc wx) wx v zs → U32s (New w ((((wx.setCell ⟨b2,0,none⟩ x).setCell ⟨b2,1,none⟩ y).setCell ⟨b2,2,none⟩ z).setCell ⟨b2,3,none⟩ t)) ((((wx.setCell ⟨b2,0,none⟩ x).setCell ⟨b2,1,none⟩ y).setCell ⟨b2,2,none⟩ z).setCell ⟨b2,3,none⟩ t) v zs:=fun v zs h =>
  (zdn h hnb _ _ _ _).to (Kept.refl _ _) (fun k hk => ⟨Nat.le_trans hw.size hk.1,by simp only [z07]; exact hk.2⟩)
 exact ⟨⟨_,_,rfl,up _ _ hn,up _ _ hd⟩,z24 (hw.trans hx) hlo _ _ _ _⟩
theorem zci {S:Nat → Prop} (vx vy:Value) (x1 x2 y1 y2:RInt) (w:World) (hx:RatI S w vx x1 x2) (hy:RatI S w vy y1 y2) (hS:∀ k,S k → k < w.heap.size) (hr1:x1.mag.length ≤ 1000000000) (hr2:x2.mag.length ≤ 1000000000) (hr3:y1.mag.length ≤ 1000000000) (hr4:y2.mag.length ≤ 1000000000) :
  Calls Tryz.prog 55 #[vx,vy] w fun e w' => ∃ v',e = .returned v' ∧ RatQ (New w w') w' v' (putQ (valI x1) (valI x2) * putQ (valI y1) (valI y2)) ∧ Ext w w':=by
 have CX:=hid (fun (W:World) (hW:Ext w W) => z64 vx x1 x2 W (hx.to (Kept.ext hW hS) (fun _ h => h)) (z08 hS hW) (by omega) (by omega))
 have CY:=hid (fun (W:World) (hW:Ext w W) => z64 vy y1 y2 W (hy.to (Kept.ext hW hS) (fun _ h => h)) (z08 hS hW) (by omega) (by omega))
 obtain ⟨p,hp⟩:∃ p,p = putQ (valI x1) (valI x2):=⟨_,rfl⟩
 obtain ⟨q,hq⟩:∃ q,q = putQ (valI y1) (valI y2):=⟨_,rfl⟩
 rw [← hp] at CX ⊢
 rw [← hq] at CY ⊢
 obtain ⟨vn1,vd1,rfl,hn1,hd1⟩:=hx
 obtain ⟨vn2,vd2,rfl,hn2,hd2⟩:=hy
 have HLP:Hid (lenZ p.num ≤ 1000000001 ∧ lenZ (p.den:Int) ≤ 1000000001 ∧ lenZ q.num ≤ 1000000001 ∧ lenZ (q.den:Int) ≤ 1000000001):=hid (by
  rw [hp,hq]
  have h1:=z7z (valI x1) (valI x2)
  have h2:=z7z (valI y1) (valI y2)
  have h3:=z39 (r:=x1) hn1.lt
  have h4:=z39 (r:=x2) hd1.lt
  have h5:=z39 (r:=y1) hn2.lt
  have h6:=z39 (r:=y2) hd2.lt
  omega)
 obtain ⟨an1,cn1,rfl⟩:=hn1.form
 obtain ⟨ad1,cd1,rfl⟩:=hd1.form
 obtain ⟨an2,cn2,rfl⟩:=hn2.form
 obtain ⟨ad2,cd2,rfl⟩:=hd2.form
 obtain ⟨w0,hw0⟩:∃ W,W = (((w.alloc (.cells #[.bool x1.neg,.slice an1 x1.mag.length cn1,.bool x2.neg,.slice ad1 x2.mag.length cd1] 32)).alloc (.cells #[.bool y1.neg,.slice an2 y1.mag.length cn2,.bool y2.neg,.slice ad2 y2.mag.length cd2] 32)).alloc (.cells #[.bool false,.slice none 0 0,.bool false,.slice none 0 0] 32)):=⟨_,rfl⟩
 have HX0:Hid (Ext w w0):=hid (by rw [hw0]; exact Ext.alloc (Ext.alloc (Ext.alloc (Ext.refl w) _) _) _)
 have HSZ:Hid (w0.heap.size = w.heap.size + 1 + 1 + 1):=hid (by rw [hw0]; simp)
 have HB:=hid (fun (W:World) (h:Ext w0 W) => by
  rw [hw0] at h
  exact blk3 h)
 have HBF:=hid (fun (W:World) (h:Ext w0 W) => by
  rw [hw0] at h
  have e2:Ext ((w.alloc (.cells #[.bool x1.neg,.slice an1 x1.mag.length cn1,.bool x2.neg,.slice ad1 x2.mag.length cd1] 32)).alloc (.cells #[.bool y1.neg,.slice an2 y1.mag.length cn2,.bool y2.neg,.slice ad2 y2.mag.length cd2] 32)) W:=(Ext.alloc (Ext.refl _) _).trans h
  have e1:Ext (w.alloc (.cells #[.bool x1.neg,.slice an1 x1.mag.length cn1,.bool x2.neg,.slice ad1 x2.mag.length cd1] 32)) W:=(Ext.alloc (Ext.refl _) _).trans e2
  exact And.intro (fun i => e1.new_free i) (fun i => by have h1:=e2.new_free i; rw [z02] at h1; exact h1))
 have HP:=hid (And.intro hp hq)
 obtain ⟨b1,b2,-,-⟩:=HB.out w0.drew (Ext.drew (Ext.refl _))
 have c1:=b1 0 _ rfl
 have c2:=b1 1 _ rfl
 have c3:=b1 2 _ rfl
 have c4:=b1 3 _ rfl
 have c5:=b2 0 _ rfl
 have c6:=b2 1 _ rfl
 have c7:=b2 2 _ rfl
 have c8:=b2 3 _ rfl
 have HW0:=hid hw0
 have HXD:=hid (show Ext w w0.drew from HX0.out.drew)
 have HBD:=hid (fun (W:World) (h:Ext w0.drew W) => And.intro (HB.out W ((Ext.drew (Ext.refl w0)).trans h)) (HBF.out W ((Ext.drew (Ext.refl w0)).trans h)))
 rw [hw0] at c1 c2 c3 c4 c5 c6 c7 c8 HXD HBD
 clear hn1 hd1 hn2 hd2 hp hq hw0 b1 b2
 go_enter Tryz.func55,Tryz.ntmps55
 go_wp2
 go_cut [] (fun wx => Hid (Mid w w0 wx p q))
 case first =>
  go_region_with (first
    | (go_at_call 58; (with_reducible refine (CX.out _ HXD.out).mono ?_); rintro e w1 ⟨v1,rfl,⟨vn3,vd3,rfl,hn3,hd3⟩,hxx1⟩; have HX1:=hid hxx1; obtain ⟨⟨b1,b2,-,-⟩,-⟩:=HBD.out _ hxx1; have d5:=b2 0 _ rfl; have d6:=b2 1 _ rfl; have d7:=b2 2 _ rfl; have d8:=b2 3 _ rfl; clear b1 b2; have HN3:=hid hn3; have HD3:=hid hd3; obtain ⟨an3,cn3,rfl⟩:=hn3.form; obtain ⟨ad3,cd3,rfl⟩:=hd3.form; clear hxx1 hn3 hd3)
    | (go_at_call 58; (with_reducible refine (CY.out _ (HXD.out.trans HX1.out)).mono ?_); rintro e w2 ⟨v2,rfl,⟨vn4,vd4,rfl,hn4,hd4⟩,hxx2⟩; have HX2:=hid hxx2; obtain ⟨⟨b1,b2,b3,b4⟩,g1,g2⟩:=HBD.out _ (HX1.out.trans hxx2); have HR2:=hid (And.intro (b3 0 _ rfl) (And.intro (b3 1 _ rfl) (And.intro (b3 2 _ rfl) (And.intro (b3 3 _ rfl) b4)))); have h1:=b1 0 _ rfl; have h2:=b1 1 _ rfl; have h3:=b1 2 _ rfl; have h4:=b1 3 _ rfl; have h5:=b2 0 _ rfl; have h6:=b2 1 _ rfl; have h7:=b2 2 _ rfl; have h8:=b2 3 _ rfl; have i1:=g1 0; have i2:=g1 1; have i3:=g1 2; have i4:=g1 3; have i5:=g2 0; have i6:=g2 1; have i7:=g2 2; have i8:=g2 3; clear b1 b2 b3 b4 g1 g2; have HN4:=hid hn4; have HD4:=hid hd4; obtain ⟨an4,cn4,rfl⟩:=hn4.form; obtain ⟨ad4,cd4,rfl⟩:=hd4.form; clear hxx2 hn4 hd4))
  all_goals
   go_wp2_with fail
   go_meet
   refine zva (o:=fun b i => if b = 0 then (#[.bool x1.neg,.slice an1 x1.mag.length cn1,.bool x2.neg,.slice ad1 x2.mag.length cd1]:Array Value).getD i undef else (#[.bool y1.neg,.slice an2 y1.mag.length cn2,.bool y2.neg,.slice ad2 y2.mag.length cd2]:Array Value).getD i undef) HSZ.out HXD.out (by rw [HW0.out]; rfl) HX1.out HX2.out HN3.out HD3.out HN4.out HD4.out ?_ HR2.out
   intro b i hb hi
   rcases (show b = 0 ∨ b = 1 by omega) with rfl | rfl
   ·rcases (show i = 0 ∨ i = 1 ∨ i = 2 ∨ i = 3 by omega) with rfl | rfl | rfl | rfl
    ·exact h1
    ·exact h2
    ·exact h3
    ·exact h4
   ·rcases (show i = 0 ∨ i = 1 ∨ i = 2 ∨ i = 3 by omega) with rfl | rfl | rfl | rfl
    ·exact h5
    ·exact h6
    ·exact h7
    ·exact h8
 case rest =>
  obtain ⟨an3,ad3,an4,ad4,cn3,cd3,cn4,cd4,⟨m1,m2,m3,m4⟩,⟨m5,m6,m7,m8⟩,hr,hu3,hu4,hu5,hu6,hxc,hsc⟩:=hcut.out
  have HXC:=hid hxc
  have HR:=hid hr
  clear c1 c2 c3 c4 c5 c6 c7 c8 CX CY HB HBF HBD HXD HW0 HX0 HP
  have L1:(ofI p.num).mag.length ≤ 1000000001:=HLP.out.1
  have L2:(ofI (p.den:Int)).mag.length ≤ 1000000001:=HLP.out.2.1
  have L3:(ofI q.num).mag.length ≤ 1000000001:=HLP.out.2.2.1
  have L4:(ofI (q.den:Int)).mag.length ≤ 1000000001:=HLP.out.2.2.2
  have C1:=hid (fun (W:World) (hW:Ext wc W) => z4k (S:=Old W) (.agg #[.bool (ofI p.num).neg,.slice an3 (ofI p.num).mag.length cn3]) (.agg #[.bool (ofI q.num).neg,.slice an4 (ofI q.num).mag.length cn4]) (ofI p.num) (ofI q.num) W ⟨_,rfl,u_on (z3s hu3) hW⟩ ⟨_,rfl,u_on (z3s hu5) hW⟩ (fun _ h => h) (by omega) (by omega))
  have C2:=hid (fun (W:World) (hW:Ext wc W) => z4k (S:=Old W) (.agg #[.bool (ofI (p.den:Int)).neg,.slice ad3 (ofI (p.den:Int)).mag.length cd3]) (.agg #[.bool (ofI (q.den:Int)).neg,.slice ad4 (ofI (q.den:Int)).mag.length cd4]) (ofI (p.den:Int)) (ofI (q.den:Int)) W ⟨_,rfl,u_on (z3s hu4) hW⟩ ⟨_,rfl,u_on (z3s hu6) hW⟩ (fun _ h => h) (by omega) (by omega))
  simp only [z0p] at C1 C2
  have C3:=hid (fun (W:World) (v1 v2:Value) (h1:IntV (Old W) W v1 (ofI (p.num * q.num))) (h2:IntV (Old W) W v2 (ofI ((p.den:Int) * (q.den:Int)))) => zav v1 v2 _ _ W h1 h2 (fun _ h => h)
   (by
    show (rep B32 (Int.natAbs (p.num * q.num))).length ≤ _
    rw [Int.natAbs_mul]
    have h1:=z7k (a:=p.num.natAbs) (b:=q.num.natAbs) (k:=2000000002) (by have h1:=HLP.out.1; have h2:=HLP.out.2.2.1; unfold lenZ at h1 h2; unfold lenN; omega)
    unfold lenN at h1
    omega)
   (by
    show (rep B32 (Int.natAbs ((p.den:Int) * (q.den:Int)))).length ≤ _
    rw [Int.natAbs_mul]
    have h1:=z7k (a:=(p.den:Int).natAbs) (b:=(q.den:Int).natAbs) (k:=2000000002) (by have h1:=HLP.out.2.1; have h2:=HLP.out.2.2.2; unfold lenZ at h1 h2; unfold lenN; omega)
    unfold lenN at h1
    omega)
   (by
    rw [z0p]
    exact Int.mul_ne_zero (Int.natCast_ne_zero.2 p.den_nz) (Int.natCast_ne_zero.2 q.den_nz)))
  simp only [z0p,zz1] at C3
  have HSW:=hid (fun (W:World) (h:Ext wc W) => (⟨h.cell m1,h.cell m2,h.cell m3,h.cell m4,h.cell m5,h.cell m6,h.cell m7,h.cell m8⟩:W.cell? ⟨w.heap.size,0,none⟩ = some (.bool (ofI p.num).neg) ∧ W.cell? ⟨w.heap.size,1,none⟩ = some (.slice an3 (ofI p.num).mag.length cn3) ∧ W.cell? ⟨w.heap.size,2,none⟩ = some (.bool (ofI (p.den:Int)).neg) ∧ W.cell? ⟨w.heap.size,3,none⟩ = some (.slice ad3 (ofI (p.den:Int)).mag.length cd3) ∧ W.cell? ⟨w.heap.size + 1,0,none⟩ = some (.bool (ofI q.num).neg) ∧ W.cell? ⟨w.heap.size + 1,1,none⟩ = some (.slice an4 (ofI q.num).mag.length cn4) ∧ W.cell? ⟨w.heap.size + 1,2,none⟩ = some (.bool (ofI (q.den:Int)).neg) ∧ W.cell? ⟨w.heap.size + 1,3,none⟩ = some (.slice ad4 (ofI (q.den:Int)).mag.length cd4)))
  have HR2:Hid (Box wc (w.heap.size + 1 + 1)):=hid ⟨hr.1,hr.2.1,hr.2.2.1,hr.2.2.2.1,hr.2.2.2.2,by have h1:=HSZ.out; omega⟩
  have HRL:=hid (show w.heap.size + 1 + 1 < wc.heap.size by have h1:=HSZ.out; omega)
  have HXD2:=hid (show Ext wc wc.drew from Ext.drew (Ext.refl _))
  clear hu3 hu4 hu5 hu6 hxc hsc hr m1 m2 m3 m4 m5 m6 m7 m8 L1 L2 L3 L4
  go_wp2_with fail
  go_cut [5] (fun u5 wx => Hid (RBox (w.heap.size + 1 + 1) wc wx u5 (p * q)))
  case first =>
    go_region_held3 (fun W => W.cell? ⟨w.heap.size,0,none⟩ = some (.bool (ofI p.num).neg) ∧ W.cell? ⟨w.heap.size,1,none⟩ = some (.slice an3 (ofI p.num).mag.length cn3) ∧ W.cell? ⟨w.heap.size,2,none⟩ = some (.bool (ofI (p.den:Int)).neg) ∧ W.cell? ⟨w.heap.size,3,none⟩ = some (.slice ad3 (ofI (p.den:Int)).mag.length cd3) ∧ W.cell? ⟨w.heap.size + 1,0,none⟩ = some (.bool (ofI q.num).neg) ∧ W.cell? ⟨w.heap.size + 1,1,none⟩ = some (.slice an4 (ofI q.num).mag.length cn4) ∧ W.cell? ⟨w.heap.size + 1,2,none⟩ = some (.bool (ofI (q.den:Int)).neg) ∧ W.cell? ⟨w.heap.size + 1,3,none⟩ = some (.slice ad4 (ofI (q.den:Int)).mag.length cd4))
   (first
    | exact HSW.out _ HXD2.out | exact HSW.out _ (((Ext.refl wc).alloc _).drew)
    | exact HSW.out _ HX1.out | exact HSW.out _ (HX1.out.alloc _)
    | exact HSW.out _ HX2.out | exact HSW.out _ (HX2.out.alloc _)
    | exact HSW.out _ HX3.out | exact HSW.out _ (HX3.out.alloc _)
    | exact HSW.out _ (z24 HX3.out (Nat.le_refl _) _ _ _ _) | exact HSW.out _ (z24 HX3.out HX1.out.size _ _ _ _) | exact HSW.out _ (z24 HX3.out HX2.out.size _ _ _ _))
   (first
    | (go_at_call 95; (first | (with_reducible refine (C1.out _ HXD2.out).mono ?_) | (with_reducible refine (C1.out _ (((Ext.refl wc).alloc _).drew)).mono ?_) | fail); rintro e w1 ⟨v1,rfl,hi1,hx1⟩; (first | (have HX1:=hid (HXD2.out.trans hx1)) | (have HX1:=hid ((((Ext.refl wc).alloc _).drew).trans hx1)) | fail); (try (have BX:=hid (z54 ((Ext.drew (Ext.refl _)).trans hx1)))); have HI1:=hid hi1; obtain ⟨vm1,rfl,hu1⟩:=hi1; obtain ⟨a1,k1,rfl⟩:=hu1.form; clear hx1 hu1)
    | (go_at_call 95; (first | (with_reducible refine (C2.out _ HX1.out).mono ?_) | (with_reducible refine (C2.out _ (HX1.out.alloc _)).mono ?_) | fail); rintro e w2 ⟨v2,rfl,hi2,hx2⟩; (first | (have HX2:=hid (HX1.out.trans hx2)) | (have HX2:=hid ((HX1.out.alloc _).trans hx2)) | fail); (first | (have HY2:Hid (Ext w1 w2):=hid hx2) | (have HY2:Hid (Ext w1 w2):=hid ((Ext.alloc (Ext.refl w1) _).trans hx2)) | fail); (first | (have BX:=hid (z25 BX.out hx2)) | (have BX:=hid (z54 hx2)) | skip); have HI2:=hid (hi2.to (S':=Old w2) (Kept.refl _ _) New.lt); have HI1':=hid (HI1.out.to (S':=Old w2) (Kept.ext HY2.out New.lt) (fun k h => Nat.lt_of_lt_of_le h.2 HY2.out.size)); obtain ⟨vm2,rfl,hu2⟩:=hi2; obtain ⟨a2,k2,rfl⟩:=hu2.form; clear hx2 hu2)
    | (go_at_call 94; have BY:=BX; (with_reducible refine (C3.out w2 _ _ HI1'.out HI2.out).mono ?_); rintro e w3 ⟨v3,rfl,⟨vn3,vd3,rfl,hn3,hd3⟩,hx3⟩; have HX3:=hid (HX2.out.trans hx3); have HBX:=hid (z25 BY.out hx3); have HBL:=hid (BY.out.2.2.2.2.2); obtain ⟨g0,g1,g2,g3,yf,yl⟩:=HBX.out; have yf0:=yf 0; have yf1:=yf 1; have yf2:=yf 2; have yf3:=yf 3; have HN3:=hid hn3; have HD3:=hid hd3; obtain ⟨a3,k3,rfl⟩:=hn3.form; obtain ⟨a4,k4,rfl⟩:=hd3.form; clear hx3 hn3 hd3)
    | (go_at_call 94; (with_reducible refine (C3.out (w2.alloc _) _ _ (HI1'.out.to (Kept.alloc (fun _ h => h) _) (fun k h => by show k < (World.heap _).size; rw [z02]; exact Nat.lt_succ_of_lt h)) (HI2.out.to (Kept.alloc (fun _ h => h) _) (fun k h => by show k < (World.heap _).size; rw [z02]; exact Nat.lt_succ_of_lt h))).mono ?_); rintro e w3 ⟨v3,rfl,⟨vn3,vd3,rfl,hn3,hd3⟩,hx3⟩; have HX3:=hid ((HX2.out.alloc _).trans hx3); have HBX:=hid (z54 hx3); have HBL:=hid (show w2.heap.size < (w2.alloc (.cells #[.bool false,.slice none 0 0,.bool false,.slice none 0 0] 32)).heap.size by rw [z02]; exact Nat.lt_succ_self _); obtain ⟨g0,g1,g2,g3,yf,yl⟩:=HBX.out; have yf0:=yf 0; have yf1:=yf 1; have yf2:=yf 2; have yf3:=yf 3; have HN3:=hid hn3; have HD3:=hid hd3; obtain ⟨a3,k3,rfl⟩:=hn3.form; obtain ⟨a4,k4,rfl⟩:=hd3.form; clear hx3 hn3 hd3)
    | (go_at_call 94; (with_reducible refine (C3.out w2 _ _ HI1'.out HI2.out).mono ?_); rintro e w3 ⟨v3,rfl,⟨vn3,vd3,rfl,hn3,hd3⟩,hx3⟩; have HX3:=hid (HX2.out.trans hx3); have HN3:=hid hn3; have HD3:=hid hd3; obtain ⟨a3,k3,rfl⟩:=hn3.form; obtain ⟨a4,k4,rfl⟩:=hd3.form; clear hx3 hn3 hd3)
    | fail)
    all_goals
   go_wp2_with fail
   go_meet
   first
    | (have q:=zaw HX3.out (HX2.out.size) HN3.out HD3.out HBX.out (by first | exact Nat.le_refl _ | exact HX1.out.size | exact HX2.out.size) HBL.out (z25 HR2.out (HX3.out)) HRL.out; with_reducible exact hid q)
    | (have q:=zaw HX3.out ((HX2.out.alloc _).size) HN3.out HD3.out HBX.out (by first | exact Nat.le_refl _ | exact HX1.out.size | exact HX2.out.size) HBL.out (z25 HR2.out (HX3.out)) HRL.out; with_reducible exact hid q)
    | (have q:=zju (T:=32) HX3.out (HX2.out.size) HN3.out HD3.out (z25 HR2.out (HX3.out)); with_reducible exact hid q)
    | fail
  case rest =>
   obtain ⟨b,a3,a4,k3,k4,rfl,⟨m1,m2,m3,m4⟩,hb2,hn3,hd3,hxx⟩:=hcut.out
   have HX3:=hid hxx
   have HB2:=hid hb2
   obtain ⟨e1,e2,e3,e4,ff,hl⟩:=hb2
   have f1:=ff 0
   have f2:=ff 1
   have f3:=ff 2
   have f4:=ff 3
   have HN3:=hid hn3
   have HD3:=hid hd3
   clear hn3 hd3 hxx ff hl
   go_wp2
   all_goals
    have hd4:=fun x y z t => z34 x y z t HB2.out.1 HB2.out.2.1 HB2.out.2.2.1 HB2.out.2.2.2.1
    refine bodyPost_ret (by simp [results,Tryz.results55,go_sem,(hd4 _ _ _ _).1,(hd4 _ _ _ _).2.1,(hd4 _ _ _ _).2.2.1,(hd4 _ _ _ _).2.2.2]; rfl) rfl ?_
    have hg:=zjv HXC.out HX3.out (Nat.le_trans (Nat.le_succ _) (Nat.le_succ _)) HRL.out HN3.out HD3.out (.bool (ofI (p * q).num).neg) (.slice a3 (ofI (p * q).num).mag.length k3) (.bool (ofI ((p * q).den:Int)).neg) (.slice a4 (ofI ((p * q).den:Int)).mag.length k4)
    exact ⟨_,rfl,hg.1,hg.2⟩
end
section
open Go.RowKit
theorem zjw {w W:World} {v:Value} {r:RInt} (h:IntV (Old w) w v r) (hx:Ext w W):IntV (Old W) W v r:=by
 obtain ⟨vm,h1,h2⟩:=h
 exact ⟨vm,h1,u_on h2 hx⟩
theorem zex {w W:World} {v:Value} {r:RInt} (h:IntV (New w W) W v r):IntV (Old W) W v r:=by
 obtain ⟨vm,h1,h2⟩:=h
 exact ⟨vm,h1,z3s h2⟩
theorem z4o {a b:Int} {k:Nat} (h:lenZ a + lenZ b ≤ k):lenZ (a * b) ≤ k:=by
 unfold lenZ at h ⊢
 rw [Int.natAbs_mul]
 exact z7k h
theorem zz2 (p q:Rat):Rat.divInt (p.num * (q.den:Int) + q.num * (p.den:Int)) ((p.den:Int) * (q.den:Int)) = p + q:=by
 have h:=Rat.divInt_add_divInt p.num q.num (d₁:=(p.den:Int)) (d₂:=(q.den:Int)) (Int.natCast_ne_zero.2 p.den_nz) (Int.natCast_ne_zero.2 q.den_nz)
 rw [Rat.num_divInt_den,Rat.num_divInt_den] at h
 exact h.symm
theorem zjx {a b:Int} {k:Nat} (ha:lenZ a ≤ k) (hb:lenZ b ≤ k):lenZ (a + b) ≤ k + 1:=by
 unfold lenZ at *
 have h1:a.natAbs < B32 ^ k:=Nat.lt_of_lt_of_le (z0y z00 _) (Nat.pow_le_pow_right (by decide) ha)
 have h2:b.natAbs < B32 ^ k:=Nat.lt_of_lt_of_le (z0y z00 _) (Nat.pow_le_pow_right (by decide) hb)
 refine z0f z00 _ (k + 1) ?_
 have h3:(a + b).natAbs ≤ a.natAbs + b.natAbs:=Int.natAbs_add_le a b
 have h4:B32 ^ (k + 1) = B32 ^ k * B32:=Nat.pow_succ ..
 have h5:2 ≤ B32:=z00
 have h6:B32 ^ k * 2 ≤ B32 ^ k * B32:=Nat.mul_le_mul_left _ h5
 omega
theorem zcj {S:Nat → Prop} (vx vy:Value) (x1 x2 y1 y2:RInt) (w:World) (hx:RatI S w vx x1 x2) (hy:RatI S w vy y1 y2) (hS:∀ k,S k → k < w.heap.size) (hr:x1.mag.length ≤ 100000000000) (hr2:y2.mag.length ≤ 100000000000) :
  Calls Tryz.prog 96 #[vx,vy] w fun e w' => ∃ v',e = .returned v' ∧ IntV (New w w') w' v' (ofI (valI x1 * valI y2)) ∧ Ext w w':=by
 obtain ⟨vn1,vd1,rfl,hn1,hd1⟩:=hx
 obtain ⟨vn2,vd2,rfl,hn2,hd2⟩:=hy
 obtain ⟨w0,hw0⟩:∃ W,W = (((w.alloc (.cells #[.bool x1.neg,vn1,.bool x2.neg,vd1] 32)).alloc (.cells #[.bool y1.neg,vn2,.bool y2.neg,vd2] 32)).alloc (.cells #[.bool false,.slice none 0 0] 30)):=⟨_,rfl⟩
 have HX0:Hid (Ext w w0):=hid (by rw [hw0]; exact Ext.alloc (Ext.alloc (Ext.alloc (Ext.refl w) _) _) _)
 have HSZ:Hid (w.heap.size + 1 + 1 < w0.heap.size):=hid (by rw [hw0]; simp)
 have HB:=hid (fun (W:World) (h:Ext w0 W) => by
  rw [hw0] at h
  exact blk3 h)
 obtain ⟨Z,hZ⟩:∃ Z,Z = valI x1 * valI y2:=⟨_,rfl⟩
 have CM:=hid (z4k (.agg #[.bool x1.neg,vn1]) (.agg #[.bool y2.neg,vd2]) x1 y2 w0 ⟨_,rfl,hn1.ext HX0.out hS⟩ ⟨_,rfl,hd2.ext HX0.out hS⟩ (z08 hS HX0.out) hr hr2)
 rw [← hZ] at CM ⊢
 obtain ⟨an1,cn1,rfl⟩:=hn1.form
 obtain ⟨ad1,cd1,rfl⟩:=hd1.form
 obtain ⟨an2,cn2,rfl⟩:=hn2.form
 obtain ⟨ad2,cd2,rfl⟩:=hd2.form
 have HW0:=hid hw0
 rw [hw0] at CM
 obtain ⟨b1,b2,-,-⟩:=HB.out w0 (Ext.refl _)
 have c1:=b1 0 _ rfl
 have c2:=b1 1 _ rfl
 have c3:=b2 2 _ rfl
 have c4:=b2 3 _ rfl
 rw [hw0] at c1 c2 c3 c4
 clear hn1 hd1 hn2 hd2 hw0 b1 b2 hZ
 go_enter Tryz.func96,Tryz.ntmps96
 go_wp2_with fail
 refine CM.out.mono ?_
 rintro e w2 ⟨v2,rfl,⟨vm2,rfl,hu2⟩,hx2⟩
 rw [← HW0.out] at hu2 hx2
 obtain ⟨-,-,b3,b4⟩:=HB.out w2 hx2
 have e0:=b3 0 _ rfl
 have e1:=b3 1 _ rfl
 have f0:=b4 0
 have f1:=b4 1
 have HX2:=hid hx2
 have HU2:=hid hu2
 have HE:=hid (And.intro e0 e1)
 obtain ⟨a2,n2,rfl⟩:=hu2.form
 clear hu2 hx2 b3 b4
 go_wp2
 all_goals
  have hd:=fun x y => z19 x y HE.out.1 HE.out.2
  refine bodyPost_ret (by simp [results,Tryz.results96,go_sem,(hd _ _).1,(hd _ _).2]; rfl) rfl ?_
  have hg:=z33 (w0:=w) (b:=w.heap.size + 1 + 1) rfl HU2.out HX0.out HX2.out (by omega) HSZ.out (.bool (ofI Z).neg) (.slice a2 (ofI Z).mag.length n2)
  exact ⟨_,rfl,hg.1,hg.2⟩
theorem zqi {S:Nat → Prop} (vx vy:Value) (x1 x2 y1 y2:RInt) (w:World) (hx:RatI S w vx x1 x2) (hy:RatI S w vy y1 y2) (hS:∀ k,S k → k < w.heap.size) (hr1:x1.mag.length ≤ 1000000000) (hr2:x2.mag.length ≤ 1000000000) (hr3:y1.mag.length ≤ 1000000000) (hr4:y2.mag.length ≤ 1000000000) :
  Calls Tryz.prog 57 #[vx,vy] w fun e w' => ∃ v',e = .returned v' ∧ RatQ (New w w') w' v' (putQ (valI x1) (valI x2) + putQ (valI y1) (valI y2)) ∧ Ext w w':=by
 have CX:=hid (fun (W:World) (hW:Ext w W) => z64 vx x1 x2 W (hx.to (Kept.ext hW hS) (fun _ h => h)) (z08 hS hW) (by omega) (by omega))
 have CY:=hid (fun (W:World) (hW:Ext w W) => z64 vy y1 y2 W (hy.to (Kept.ext hW hS) (fun _ h => h)) (z08 hS hW) (by omega) (by omega))
 obtain ⟨p,hp⟩:∃ p,p = putQ (valI x1) (valI x2):=⟨_,rfl⟩
 obtain ⟨q,hq⟩:∃ q,q = putQ (valI y1) (valI y2):=⟨_,rfl⟩
 rw [← hp] at CX ⊢
 rw [← hq] at CY ⊢
 obtain ⟨vn1,vd1,rfl,hn1,hd1⟩:=hx
 obtain ⟨vn2,vd2,rfl,hn2,hd2⟩:=hy
 have HLP:Hid (lenZ p.num ≤ 1000000001 ∧ lenZ (p.den:Int) ≤ 1000000001 ∧ lenZ q.num ≤ 1000000001 ∧ lenZ (q.den:Int) ≤ 1000000001):=hid (by
  rw [hp,hq]
  have h1:=z7z (valI x1) (valI x2)
  have h2:=z7z (valI y1) (valI y2)
  have h3:=z39 (r:=x1) hn1.lt
  have h4:=z39 (r:=x2) hd1.lt
  have h5:=z39 (r:=y1) hn2.lt
  have h6:=z39 (r:=y2) hd2.lt
  omega)
 obtain ⟨an1,cn1,rfl⟩:=hn1.form
 obtain ⟨ad1,cd1,rfl⟩:=hd1.form
 obtain ⟨an2,cn2,rfl⟩:=hn2.form
 obtain ⟨ad2,cd2,rfl⟩:=hd2.form
 obtain ⟨w0,hw0⟩:∃ W,W = (((w.alloc (.cells #[.bool x1.neg,.slice an1 x1.mag.length cn1,.bool x2.neg,.slice ad1 x2.mag.length cd1] 32)).alloc (.cells #[.bool y1.neg,.slice an2 y1.mag.length cn2,.bool y2.neg,.slice ad2 y2.mag.length cd2] 32)).alloc (.cells #[.bool false,.slice none 0 0,.bool false,.slice none 0 0] 32)):=⟨_,rfl⟩
 have HX0:Hid (Ext w w0):=hid (by rw [hw0]; exact Ext.alloc (Ext.alloc (Ext.alloc (Ext.refl w) _) _) _)
 have HSZ:Hid (w0.heap.size = w.heap.size + 1 + 1 + 1):=hid (by rw [hw0]; simp)
 have HB:=hid (fun (W:World) (h:Ext w0 W) => by
  rw [hw0] at h
  exact blk3 h)
 have HBF:=hid (fun (W:World) (h:Ext w0 W) => by
  rw [hw0] at h
  have e2:Ext ((w.alloc (.cells #[.bool x1.neg,.slice an1 x1.mag.length cn1,.bool x2.neg,.slice ad1 x2.mag.length cd1] 32)).alloc (.cells #[.bool y1.neg,.slice an2 y1.mag.length cn2,.bool y2.neg,.slice ad2 y2.mag.length cd2] 32)) W:=(Ext.alloc (Ext.refl _) _).trans h
  have e1:Ext (w.alloc (.cells #[.bool x1.neg,.slice an1 x1.mag.length cn1,.bool x2.neg,.slice ad1 x2.mag.length cd1] 32)) W:=(Ext.alloc (Ext.refl _) _).trans e2
  exact And.intro (fun i => e1.new_free i) (fun i => by have h1:=e2.new_free i; rw [z02] at h1; exact h1))
 have HP:=hid (And.intro hp hq)
 obtain ⟨b1,b2,-,-⟩:=HB.out w0.drew (Ext.drew (Ext.refl _))
 have c1:=b1 0 _ rfl
 have c2:=b1 1 _ rfl
 have c3:=b1 2 _ rfl
 have c4:=b1 3 _ rfl
 have c5:=b2 0 _ rfl
 have c6:=b2 1 _ rfl
 have c7:=b2 2 _ rfl
 have c8:=b2 3 _ rfl
 have HW0:=hid hw0
 have HXD:=hid (show Ext w w0.drew from HX0.out.drew)
 have HBD:=hid (fun (W:World) (h:Ext w0.drew W) => And.intro (HB.out W ((Ext.drew (Ext.refl w0)).trans h)) (HBF.out W ((Ext.drew (Ext.refl w0)).trans h)))
 rw [hw0] at c1 c2 c3 c4 c5 c6 c7 c8 HXD HBD
 clear hn1 hd1 hn2 hd2 hp hq hw0 b1 b2
 go_enter Tryz.func57,Tryz.ntmps57
 go_wp2
 go_cut [] (fun wx => Hid (Mid w w0 wx p q))
 case first =>
  go_region_with (first
    | (go_at_call 58; (with_reducible refine (CX.out _ HXD.out).mono ?_); rintro e w1 ⟨v1,rfl,⟨vn3,vd3,rfl,hn3,hd3⟩,hxx1⟩; have HX1:=hid hxx1; obtain ⟨⟨b1,b2,-,-⟩,-⟩:=HBD.out _ hxx1; have d5:=b2 0 _ rfl; have d6:=b2 1 _ rfl; have d7:=b2 2 _ rfl; have d8:=b2 3 _ rfl; clear b1 b2; have HN3:=hid hn3; have HD3:=hid hd3; obtain ⟨an3,cn3,rfl⟩:=hn3.form; obtain ⟨ad3,cd3,rfl⟩:=hd3.form; clear hxx1 hn3 hd3)
    | (go_at_call 58; (with_reducible refine (CY.out _ (HXD.out.trans HX1.out)).mono ?_); rintro e w2 ⟨v2,rfl,⟨vn4,vd4,rfl,hn4,hd4⟩,hxx2⟩; have HX2:=hid hxx2; obtain ⟨⟨b1,b2,b3,b4⟩,g1,g2⟩:=HBD.out _ (HX1.out.trans hxx2); have HR2:=hid (And.intro (b3 0 _ rfl) (And.intro (b3 1 _ rfl) (And.intro (b3 2 _ rfl) (And.intro (b3 3 _ rfl) b4)))); have h1:=b1 0 _ rfl; have h2:=b1 1 _ rfl; have h3:=b1 2 _ rfl; have h4:=b1 3 _ rfl; have h5:=b2 0 _ rfl; have h6:=b2 1 _ rfl; have h7:=b2 2 _ rfl; have h8:=b2 3 _ rfl; have i1:=g1 0; have i2:=g1 1; have i3:=g1 2; have i4:=g1 3; have i5:=g2 0; have i6:=g2 1; have i7:=g2 2; have i8:=g2 3; clear b1 b2 b3 b4 g1 g2; have HN4:=hid hn4; have HD4:=hid hd4; obtain ⟨an4,cn4,rfl⟩:=hn4.form; obtain ⟨ad4,cd4,rfl⟩:=hd4.form; clear hxx2 hn4 hd4))
  all_goals
   go_wp2_with fail
   go_meet
   refine zva (o:=fun b i => if b = 0 then (#[.bool x1.neg,.slice an1 x1.mag.length cn1,.bool x2.neg,.slice ad1 x2.mag.length cd1]:Array Value).getD i undef else (#[.bool y1.neg,.slice an2 y1.mag.length cn2,.bool y2.neg,.slice ad2 y2.mag.length cd2]:Array Value).getD i undef) HSZ.out HXD.out (by rw [HW0.out]; rfl) HX1.out HX2.out HN3.out HD3.out HN4.out HD4.out ?_ HR2.out
   intro b i hb hi
   rcases (show b = 0 ∨ b = 1 by omega) with rfl | rfl
   ·rcases (show i = 0 ∨ i = 1 ∨ i = 2 ∨ i = 3 by omega) with rfl | rfl | rfl | rfl
    ·exact h1
    ·exact h2
    ·exact h3
    ·exact h4
   ·rcases (show i = 0 ∨ i = 1 ∨ i = 2 ∨ i = 3 by omega) with rfl | rfl | rfl | rfl
    ·exact h5
    ·exact h6
    ·exact h7
    ·exact h8
 case rest =>
  obtain ⟨an3,ad3,an4,ad4,cn3,cd3,cn4,cd4,⟨m1,m2,m3,m4⟩,⟨m5,m6,m7,m8⟩,hr,hu3,hu4,hu5,hu6,hxc,hsc⟩:=hcut.out
  have HXC:=hid hxc
  have HR:=hid hr
  clear c1 c2 c3 c4 c5 c6 c7 c8 CX CY HB HBF HBD HXD HW0 HX0 HP
  have L1:(ofI p.num).mag.length ≤ 1000000001:=HLP.out.1
  have L2:(ofI (p.den:Int)).mag.length ≤ 1000000001:=HLP.out.2.1
  have L3:(ofI q.num).mag.length ≤ 1000000001:=HLP.out.2.2.1
  have L4:(ofI (q.den:Int)).mag.length ≤ 1000000001:=HLP.out.2.2.2
  have CA:=hid (fun (W:World) (hW:Ext wc W) => zcj (S:=Old W) (.agg #[.bool (ofI p.num).neg,.slice an3 (ofI p.num).mag.length cn3,.bool (ofI (p.den:Int)).neg,.slice ad3 (ofI (p.den:Int)).mag.length cd3]) (.agg #[.bool (ofI q.num).neg,.slice an4 (ofI q.num).mag.length cn4,.bool (ofI (q.den:Int)).neg,.slice ad4 (ofI (q.den:Int)).mag.length cd4]) (ofI p.num) (ofI (p.den:Int)) (ofI q.num) (ofI (q.den:Int)) W ⟨_,_,rfl,u_on (z3s hu3) hW,u_on (z3s hu4) hW⟩ ⟨_,_,rfl,u_on (z3s hu5) hW,u_on (z3s hu6) hW⟩ (fun _ h => h) (by omega) (by omega))
  have CB:=hid (fun (W:World) (hW:Ext wc W) => zcj (S:=Old W) (.agg #[.bool (ofI q.num).neg,.slice an4 (ofI q.num).mag.length cn4,.bool (ofI (q.den:Int)).neg,.slice ad4 (ofI (q.den:Int)).mag.length cd4]) (.agg #[.bool (ofI p.num).neg,.slice an3 (ofI p.num).mag.length cn3,.bool (ofI (p.den:Int)).neg,.slice ad3 (ofI (p.den:Int)).mag.length cd3]) (ofI q.num) (ofI (q.den:Int)) (ofI p.num) (ofI (p.den:Int)) W ⟨_,_,rfl,u_on (z3s hu5) hW,u_on (z3s hu6) hW⟩ ⟨_,_,rfl,u_on (z3s hu3) hW,u_on (z3s hu4) hW⟩ (fun _ h => h) (by omega) (by omega))
  have CD:=hid (fun (W:World) (hW:Ext wc W) => z4k (S:=Old W) (.agg #[.bool (ofI (p.den:Int)).neg,.slice ad3 (ofI (p.den:Int)).mag.length cd3]) (.agg #[.bool (ofI (q.den:Int)).neg,.slice ad4 (ofI (q.den:Int)).mag.length cd4]) (ofI (p.den:Int)) (ofI (q.den:Int)) W ⟨_,rfl,u_on (z3s hu4) hW⟩ ⟨_,rfl,u_on (z3s hu6) hW⟩ (fun _ h => h) (by omega) (by omega))
  simp only [z0p] at CA CB CD
  have HN1:Hid (lenZ (p.num * (q.den:Int)) ≤ 2000000002 ∧ lenZ (q.num * (p.den:Int)) ≤ 2000000002 ∧ lenZ ((p.den:Int) * (q.den:Int)) ≤ 2000000002):=hid (by
   obtain ⟨h1,h2,h3,h4⟩:=HLP.out
   exact ⟨z4o (by omega),z4o (by omega),z4o (by omega)⟩)
  have CS:=hid (fun (W:World) (v1 v2:Value) (h1:IntV (Old W) W v1 (ofI (p.num * (q.den:Int)))) (h2:IntV (Old W) W v2 (ofI (q.num * (p.den:Int)))) => z6u v1 v2 _ _ W h1 h2 (fun _ h => h) (Nat.le_trans HN1.out.1 (by decide)) (Nat.le_trans HN1.out.2.1 (by decide)))
  have CO:=hid (fun (W:World) (v1 v2:Value) (h1:IntV (Old W) W v1 (ofI (p.num * (q.den:Int) + q.num * (p.den:Int)))) (h2:IntV (Old W) W v2 (ofI ((p.den:Int) * (q.den:Int)))) => zav v1 v2 _ _ W h1 h2 (fun _ h => h) (Nat.le_trans (zjx HN1.out.1 HN1.out.2.1) (by decide)) (Nat.le_trans HN1.out.2.2 (by decide))
   (by
    rw [z0p]
    exact Int.mul_ne_zero (Int.natCast_ne_zero.2 p.den_nz) (Int.natCast_ne_zero.2 q.den_nz)))
  simp only [z0p,zz2] at CS CO
  have HSW:=hid (fun (W:World) (h:Ext wc W) => (⟨h.cell m1,h.cell m2,h.cell m3,h.cell m4,h.cell m5,h.cell m6,h.cell m7,h.cell m8⟩:W.cell? ⟨w.heap.size,0,none⟩ = some (.bool (ofI p.num).neg) ∧ W.cell? ⟨w.heap.size,1,none⟩ = some (.slice an3 (ofI p.num).mag.length cn3) ∧ W.cell? ⟨w.heap.size,2,none⟩ = some (.bool (ofI (p.den:Int)).neg) ∧ W.cell? ⟨w.heap.size,3,none⟩ = some (.slice ad3 (ofI (p.den:Int)).mag.length cd3) ∧ W.cell? ⟨w.heap.size + 1,0,none⟩ = some (.bool (ofI q.num).neg) ∧ W.cell? ⟨w.heap.size + 1,1,none⟩ = some (.slice an4 (ofI q.num).mag.length cn4) ∧ W.cell? ⟨w.heap.size + 1,2,none⟩ = some (.bool (ofI (q.den:Int)).neg) ∧ W.cell? ⟨w.heap.size + 1,3,none⟩ = some (.slice ad4 (ofI (q.den:Int)).mag.length cd4)))
  have HR2:Hid (Box wc (w.heap.size + 1 + 1)):=hid ⟨hr.1,hr.2.1,hr.2.2.1,hr.2.2.2.1,hr.2.2.2.2,by have h1:=HSZ.out; omega⟩
  have HRL:=hid (show w.heap.size + 1 + 1 < wc.heap.size by have h1:=HSZ.out; omega)
  have HXD2:=hid (show Ext wc wc.drew from Ext.drew (Ext.refl _))
  clear hu3 hu4 hu5 hu6 hxc hsc hr m1 m2 m3 m4 m5 m6 m7 m8 L1 L2 L3 L4
  go_wp2_with fail
  go_cut [6] (fun u5 wx => Hid (RBox (w.heap.size + 1 + 1) wc wx u5 (p + q)))
  case first =>
    go_region_held3 (fun W => W.cell? ⟨w.heap.size,0,none⟩ = some (.bool (ofI p.num).neg) ∧ W.cell? ⟨w.heap.size,1,none⟩ = some (.slice an3 (ofI p.num).mag.length cn3) ∧ W.cell? ⟨w.heap.size,2,none⟩ = some (.bool (ofI (p.den:Int)).neg) ∧ W.cell? ⟨w.heap.size,3,none⟩ = some (.slice ad3 (ofI (p.den:Int)).mag.length cd3) ∧ W.cell? ⟨w.heap.size + 1,0,none⟩ = some (.bool (ofI q.num).neg) ∧ W.cell? ⟨w.heap.size + 1,1,none⟩ = some (.slice an4 (ofI q.num).mag.length cn4) ∧ W.cell? ⟨w.heap.size + 1,2,none⟩ = some (.bool (ofI (q.den:Int)).neg) ∧ W.cell? ⟨w.heap.size + 1,3,none⟩ = some (.slice ad4 (ofI (q.den:Int)).mag.length cd4))
   (first
    | exact HSW.out _ HXD2.out | exact HSW.out _ (((Ext.refl wc).alloc _).drew)
    | exact HSW.out _ HX1.out | exact HSW.out _ (HX1.out.alloc _)
    | exact HSW.out _ HX2.out | exact HSW.out _ (HX2.out.alloc _)
    | exact HSW.out _ HX3.out | exact HSW.out _ (HX3.out.alloc _)
    | exact HSW.out _ HX4.out | exact HSW.out _ (HX4.out.alloc _)
    | exact HSW.out _ HX5.out | exact HSW.out _ (HX5.out.alloc _)
    | exact HSW.out _ (z24 HX5.out (Nat.le_refl _) _ _ _ _) | exact HSW.out _ (z24 HX5.out HX1.out.size _ _ _ _) | exact HSW.out _ (z24 HX5.out HX2.out.size _ _ _ _) | exact HSW.out _ (z24 HX5.out HX3.out.size _ _ _ _) | exact HSW.out _ (z24 HX5.out HX4.out.size _ _ _ _)
    | fail)
   (first
    | (go_at_call 96; (first | (with_reducible refine (CA.out _ HXD2.out).mono ?_) | (with_reducible refine (CA.out _ (((Ext.refl wc).alloc _).drew)).mono ?_) | fail); rintro e w1 ⟨v1,rfl,hi1,hx1⟩; (first | (have HX1:=hid (HXD2.out.trans hx1)) | (have HX1:=hid ((((Ext.refl wc).alloc _).drew).trans hx1)) | fail); (first | (have BX:=hid (z54 ((Ext.drew (Ext.refl _)).trans hx1))) | skip); have HI1:=hid (zex hi1); have CB1:=hid (fun (W:World) (hW:Ext w1 W) => CB.out W (HX1.out.trans hW)); obtain ⟨vm1,rfl,hu1⟩:=hi1; obtain ⟨a1,k1,rfl⟩:=hu1.form; clear hx1 hu1)
    | (go_at_call 96; have _t:=CB1; (first | (with_reducible refine (CB1.out _ (Ext.refl _)).mono ?_) | (with_reducible refine (CB1.out _ (Ext.alloc (Ext.refl _) _)).mono ?_) | fail); rintro e w2 ⟨v2,rfl,hi2,hx2⟩; (first | (have HY2:Hid (Ext w1 w2):=hid hx2) | (have HY2:Hid (Ext w1 w2):=hid ((Ext.alloc (Ext.refl w1) _).trans hx2)) | fail); have HX2:=hid (HX1.out.trans HY2.out); (first | (have BX:=hid (z25 BX.out hx2)) | (have BX:=hid (z54 hx2)) | skip); have HI2:=hid (zex hi2); obtain ⟨vm2,rfl,hu2⟩:=hi2; obtain ⟨a2,k2,rfl⟩:=hu2.form; have CS2:=hid (fun (W:World) (hW:Ext w2 W) => CS.out W _ _ (zjw HI1.out (HY2.out.trans hW)) (zjw HI2.out hW)); clear hx2 hu2 CB1)
    | (go_at_call 60; (first | (with_reducible refine (CS2.out _ (Ext.refl _)).mono ?_) | (with_reducible refine (CS2.out _ (Ext.alloc (Ext.refl _) _)).mono ?_) | fail); rintro e w3 ⟨v3,rfl,hi3,hx3⟩; (first | (have HY3:Hid (Ext w2 w3):=hid hx3) | (have HY3:Hid (Ext w2 w3):=hid ((Ext.alloc (Ext.refl w2) _).trans hx3)) | fail); have HX3:=hid (HX2.out.trans HY3.out); (first | (have BX:=hid (z25 BX.out hx3)) | (have BX:=hid (z54 hx3)) | skip); have HI3:=hid (zex hi3); have CD3:=hid (fun (W:World) (hW:Ext w3 W) => CD.out W (HX3.out.trans hW)); obtain ⟨vm3,rfl,hu3⟩:=hi3; obtain ⟨a3,k3,rfl⟩:=hu3.form; clear hx3 hu3)
    | (go_at_call 95; (first | (with_reducible refine (CD3.out _ (Ext.refl _)).mono ?_) | (with_reducible refine (CD3.out _ (Ext.alloc (Ext.refl _) _)).mono ?_) | fail); rintro e w4 ⟨v4,rfl,hi4,hx4⟩; (first | (have HY4:Hid (Ext w3 w4):=hid hx4) | (have HY4:Hid (Ext w3 w4):=hid ((Ext.alloc (Ext.refl w3) _).trans hx4)) | fail); have HX4:=hid (HX3.out.trans HY4.out); (first | (have BX:=hid (z25 BX.out hx4)) | (have BX:=hid (z54 hx4)) | skip); have HI4:=hid (zex hi4); obtain ⟨vm4,rfl,hu4⟩:=hi4; obtain ⟨a4,k4,rfl⟩:=hu4.form; have CO4:=hid (fun (W:World) (hW:Ext w4 W) => CO.out W _ _ (zjw HI3.out (HY4.out.trans hW)) (zjw HI4.out hW)); clear hx4 hu4)
    | (go_at_call 94; have BY:=BX; (with_reducible refine (CO4.out _ (Ext.refl _)).mono ?_); rintro e w5 ⟨v5,rfl,⟨vn5,vd5,rfl,hn5,hd5⟩,hx5⟩; have HX5:=hid (HX4.out.trans hx5); have HBX:=hid (z25 BY.out hx5); have HBL:=hid (BY.out.2.2.2.2.2); obtain ⟨g0,g1,g2,g3,yf,yl⟩:=HBX.out; have yf0:=yf 0; have yf1:=yf 1; have yf2:=yf 2; have yf3:=yf 3; have HN5:=hid hn5; have HD5:=hid hd5; obtain ⟨a5,k5,rfl⟩:=hn5.form; obtain ⟨a6,k6,rfl⟩:=hd5.form; clear hx5 hn5 hd5)
    | (go_at_call 94; (with_reducible refine (CO4.out _ (Ext.alloc (Ext.refl _) _)).mono ?_); rintro e w5 ⟨v5,rfl,⟨vn5,vd5,rfl,hn5,hd5⟩,hx5⟩; have HX5:=hid ((HX4.out.alloc _).trans hx5); have HBX:=hid (z54 hx5); have HBL:=hid (show w4.heap.size < (w4.alloc (.cells #[.bool false,.slice none 0 0,.bool false,.slice none 0 0] 32)).heap.size by rw [z02]; exact Nat.lt_succ_self _); obtain ⟨g0,g1,g2,g3,yf,yl⟩:=HBX.out; have yf0:=yf 0; have yf1:=yf 1; have yf2:=yf 2; have yf3:=yf 3; have HN5:=hid hn5; have HD5:=hid hd5; obtain ⟨a5,k5,rfl⟩:=hn5.form; obtain ⟨a6,k6,rfl⟩:=hd5.form; clear hx5 hn5 hd5)
    | (go_at_call 94; (with_reducible refine (CO4.out _ (Ext.refl _)).mono ?_); rintro e w5 ⟨v5,rfl,⟨vn5,vd5,rfl,hn5,hd5⟩,hx5⟩; have HX5:=hid (HX4.out.trans hx5); have HN5:=hid hn5; have HD5:=hid hd5; obtain ⟨a5,k5,rfl⟩:=hn5.form; obtain ⟨a6,k6,rfl⟩:=hd5.form; clear hx5 hn5 hd5)
    | fail)
    all_goals
   go_wp2_with fail
   go_meet
   first
    | (have q:=zaw HX5.out (HX4.out.size) HN5.out HD5.out HBX.out (by first | exact Nat.le_refl _ | exact HX1.out.size | exact HX2.out.size | exact HX3.out.size | exact HX4.out.size) HBL.out (z25 HR2.out (HX5.out)) HRL.out; with_reducible exact hid q)
    | (have q:=zaw HX5.out ((HX4.out.alloc _).size) HN5.out HD5.out HBX.out (by first | exact Nat.le_refl _ | exact HX1.out.size | exact HX2.out.size | exact HX3.out.size | exact HX4.out.size) HBL.out (z25 HR2.out (HX5.out)) HRL.out; with_reducible exact hid q)
    | (have q:=zju (T:=32) HX5.out (HX4.out.size) HN5.out HD5.out (z25 HR2.out (HX5.out)); with_reducible exact hid q)
    | fail
  case rest =>
   obtain ⟨b,a3,a4,k3,k4,rfl,⟨m1,m2,m3,m4⟩,hb2,hn3,hd3,hxx⟩:=hcut.out
   have HX3:=hid hxx
   have HB2:=hid hb2
   obtain ⟨e1,e2,e3,e4,ff,hl⟩:=hb2
   have f1:=ff 0
   have f2:=ff 1
   have f3:=ff 2
   have f4:=ff 3
   have HN3:=hid hn3
   have HD3:=hid hd3
   clear hn3 hd3 hxx ff hl
   go_wp2
   all_goals
    have hd4:=fun x y z t => z34 x y z t HB2.out.1 HB2.out.2.1 HB2.out.2.2.1 HB2.out.2.2.2.1
    refine bodyPost_ret (by simp [results,Tryz.results57,go_sem,(hd4 _ _ _ _).1,(hd4 _ _ _ _).2.1,(hd4 _ _ _ _).2.2.1,(hd4 _ _ _ _).2.2.2]; rfl) rfl ?_
    have hg:=zjv HXC.out HX3.out (Nat.le_trans (Nat.le_succ _) (Nat.le_succ _)) HRL.out HN3.out HD3.out (.bool (ofI (p + q).num).neg) (.slice a3 (ofI (p + q).num).mag.length k3) (.bool (ofI ((p + q).den:Int)).neg) (.slice a4 (ofI ((p + q).den:Int)).mag.length k4)
    exact ⟨_,rfl,hg.1,hg.2⟩
end
section
open Go.RowKit
theorem zhc (a b:Int):(rep B32 (putQ a b).num.natAbs).length ≤ (rep B32 a.natAbs).length:=by
 have key:∀ n g:Int,g ≠ 0 → a = n * g → (rep B32 n.natAbs).length ≤ (rep B32 a.natAbs).length:=fun n g hg h => z1o (by
  rw [h,Int.natAbs_mul]
  exact Nat.le_mul_of_pos_right _ (by omega))
 unfold putQ
 by_cases h:b = 0
 ·rw [if_pos h]
  obtain ⟨h1,h2,-⟩:=z63 a 1 (by decide)
  exact key _ _ h1 h2
 ·rw [if_neg h]
  obtain ⟨h1,h2,-⟩:=z63 a b h
  exact key _ _ h1 h2
theorem zm5 (a b c d:Value) (W:World):Sem.run Tryz.prog (Instr.field 32 (.agg #[a,b,c,d]) 0) W = Result.ok (.agg #[a,b]) W:=by
 first
  | kernel_rfl
  | rfl
theorem zm6 {S:Nat → Prop} (v:Value) (x y:RInt) (w:World) (h:RatI S w v x y) (hS:∀ k,S k → k < w.heap.size) (hr:x.mag.length ≤ 10000000000) (hr2:y.mag.length ≤ 10000000000) :
  Calls Tryz.prog 25 #[v] w fun e w' => e = .returned (.int .i64 (z1l (putQ (valI x) (valI y)).num)) ∧ Ext w w':=by
 have HLN:Hid ((ofI (putQ (valI x) (valI y)).num).mag.length ≤ 50000000000000):=hid (by
  obtain ⟨un,ud,hv,h1,h2⟩:=h
  clear h2
  show (rep B32 (Int.natAbs (putQ (valI x) (valI y)).num)).length ≤ _
  have h2:=zhc (valI x) (valI y)
  rw [zev] at h2
  have h3:=z14 h1.lt
  omega)
 obtain ⟨q,hq⟩:∃ q,q = putQ (valI x) (valI y):=⟨_,rfl⟩
 have CP:=hid (fun (W:World) (hW:Ext w W) => z64 v x y W (h.to (Kept.ext hW hS) (fun _ h => h)) (z08 hS hW) hr hr2)
 rw [← hq] at CP HLN ⊢
 obtain ⟨vn,vd,rfl,hn,hd⟩:=h
 obtain ⟨an,cn,rfl⟩:=hn.form
 obtain ⟨ad,cd,rfl⟩:=hd.form
 have HX0:=hid (Ext.alloc (Ext.refl w) (.cells #[.bool x.neg,.slice an x.mag.length cn,.bool y.neg,.slice ad y.mag.length cd] 32))
 clear hn hd hq
 go_enter Tryz.func25,Tryz.ntmps25
 go_wp2_with fail
 with_reducible refine (CP.out _ HX0.out).mono ?_
 rintro e w1 ⟨v1,rfl,⟨vn1,vd1,rfl,hn1,hd1⟩,hx1⟩
 have CS:=hid (z1m (.agg #[.bool (ofI q.num).neg,vn1]) (ofI q.num) w1 ⟨_,rfl,hn1⟩ New.lt HLN.out)
 rw [z0p] at CS
 have HX1:=hid (HX0.out.trans hx1)
 obtain ⟨a1,k1,rfl⟩:=hn1.form
 obtain ⟨a2,k2,rfl⟩:=hd1.form
 have hfld:=zm5 (.bool (ofI q.num).neg) (.slice a1 (ofI q.num).mag.length k1) (.bool (ofI (q.den:Int)).neg) (.slice a2 (ofI (q.den:Int)).mag.length k2) w1
 clear hn1 hd1 hx1
 go_wp2_with fail
 refine CS.out.mono ?_
 rintro e w2 ⟨rfl,hx2⟩
 have HX2:=hid (HX1.out.trans hx2)
 clear hx2
 go_wp2
 all_goals
  go_ret
  exact ⟨rfl,HX2.out⟩
theorem z8l {S:Nat → Prop} (vx:Value) (x:RInt) (w:World) (hx:IntV S w vx x) (hS:∀ k,S k → k < w.heap.size) (hr:x.mag.length ≤ 10000000000) :
  Calls Tryz.prog 54 #[vx] w fun e w' => ∃ v',e = .returned v' ∧ RatQ (New w w') w' v' (valI x:Rat) ∧ Ext w w':=by
 have eq:putQ (valI x) 0 = (valI x:Rat):=by
  unfold putQ
  rw [if_pos rfl]
  exact Rat.num_divInt_den ((valI x:Int):Rat)
 obtain ⟨xn,xs⟩:=x
 obtain ⟨vxm,rfl,hxu⟩:=hx
 simp only at hxu hr
 rw [← eq]
 obtain ⟨X,hX⟩:∃ X,X = valI ⟨xn,xs⟩:=⟨_,rfl⟩
 rw [← hX]
 obtain ⟨w0,hw0⟩:∃ W,W = ((w.alloc (.cells #[.bool xn,vxm] 30)).alloc (.cells #[.bool false,.slice none 0 0,.bool false,.slice none 0 0] 32)):=⟨_,rfl⟩
 have HX0:Hid (Ext w w0):=hid (by rw [hw0]; exact Ext.alloc (Ext.alloc (Ext.refl w) _) _)
 have HSZ:Hid (w.heap.size + 1 < w0.heap.size):=hid (by rw [hw0]; simp)
 have CP:=hid (z64 (S:=S) (.agg #[.bool xn,vxm,.bool false,.slice none 0 0]) ⟨xn,xs⟩ ⟨false,[]⟩ w0 ⟨_,_,rfl,hxu.ext HX0.out hS,U32s.nilv _ _ _ _ (by omega)⟩ (z08 hS HX0.out) hr (by decide))
 have e0:valI ⟨false,[]⟩ = 0:=by decide
 rw [e0,← hX] at CP
 have HB:=hid (fun (W:World) (h:Ext w0 W) => by
  rw [hw0] at h
  have k:=fun i v hv => h.new_cell (i:=i) (v:=v) hv
  have f:=fun i => h.new_free i
  rw [z02] at k f
  exact And.intro k f)
 obtain ⟨ax,cx,rfl⟩:=hxu.form
 rw [hw0] at CP
 have HW0:=hid hw0
 clear hxu hX hw0 eq e0
 go_enter Tryz.func54,Tryz.ntmps54
 go_wp2_with fail
 refine CP.out.mono ?_
 rintro e w2 ⟨v2,rfl,⟨vn2,vd2,rfl,hn2,hd2⟩,hx2⟩
 rw [← HW0.out] at hn2 hd2 hx2
 obtain ⟨b3,b4⟩:=HB.out w2 hx2
 have e1:=b3 0 _ rfl
 have e2:=b3 1 _ rfl
 have e3:=b3 2 _ rfl
 have e4:=b3 3 _ rfl
 have f1:=b4 0
 have f2:=b4 1
 have f3:=b4 2
 have f4:=b4 3
 have HE4:=hid (And.intro e1 (And.intro e2 (And.intro e3 e4)))
 have HX2:=hid hx2
 have HN2:=hid hn2
 have HD2:=hid hd2
 obtain ⟨a2,k2,rfl⟩:=hn2.form
 obtain ⟨a3,k3,rfl⟩:=hd2.form
 clear hx2 hn2 hd2 b3 b4
 go_wp2
 all_goals
  have hd4:=fun x y z t => z34 x y z t HE4.out.1 HE4.out.2.1 HE4.out.2.2.1 HE4.out.2.2.2
  refine bodyPost_ret (by simp [results,Tryz.results54,go_sem,(hd4 _ _ _ _).1,(hd4 _ _ _ _).2.1,(hd4 _ _ _ _).2.2.1,(hd4 _ _ _ _).2.2.2]; rfl) rfl ?_
  have hg:=zew (w:=w) (w1:=w0) (b:=w.heap.size + 1) (n:=ofI (putQ X 0).num) (d:=ofI ((putQ X 0).den:Int)) HX0.out HX2.out HSZ.out (Nat.le_succ _) HN2.out HD2.out (.bool (ofI (putQ X 0).num).neg) (.slice a2 (ofI (putQ X 0).num).mag.length k2) (.bool (ofI ((putQ X 0).den:Int)).neg) (.slice a3 (ofI ((putQ X 0).den:Int)).mag.length k3)
  exact ⟨_,rfl,hg.1,hg.2⟩
end
section
open Go.RowKit
theorem z55 (q:Rat):putQ q.num (q.den:Int) = q:=by
 unfold putQ
 rw [if_neg (Int.natCast_ne_zero.2 q.den_nz)]
 exact Rat.num_divInt_den q
theorem zjy (a:Int) {k:Nat} (h:lenZ a ≤ k) (i:Nat):lenZ (a ^ i) ≤ i * k + 1:=by
 induction i with
 | zero =>
  rw [Int.pow_zero,Nat.zero_mul]
  decide
 | succ i ih =>
  rw [Int.pow_succ]
  refine z4o ?_
  rw [Nat.succ_mul]
  omega
theorem zey {q:Rat} {k:Nat} (h1:lenZ q.num ≤ k) (h2:lenZ (q.den:Int) ≤ k) (i:Nat):lenZ (q ^ i).num ≤ i * k + 1 ∧ lenZ ((q ^ i).den:Int) ≤ i * k + 1:=by
 rw [Rat.num_pow,Rat.den_pow,Int.natCast_pow]
 exact ⟨zjy _ h1 i,zjy _ h2 i⟩
theorem zck (q:Rat) (i j:Nat):q ^ (i + j) = q ^ i * q ^ j:=by
 induction j with
 | zero => rw [Nat.add_zero,Rat.pow_zero,Rat.mul_one]
 | succ j ih => rw [← Nat.add_assoc,Rat.pow_succ,Rat.pow_succ,ih,Rat.mul_assoc]
def QBox (W:World) (b:Nat) (x y:RInt) (v1 v2:Value):Prop:=W.cell? ⟨b,0,none⟩ = some (.bool x.neg) ∧ W.cell? ⟨b,1,none⟩ = some v1 ∧ W.cell? ⟨b,2,none⟩ = some (.bool y.neg) ∧ W.cell? ⟨b,3,none⟩ = some v2 ∧ (∀ i,W.frozen? ⟨b,i,none⟩ = false) ∧ b < W.heap.size
theorem QBox.ext {w W:World} {b:Nat} {x y:RInt} {v1 v2:Value} (h:QBox w b x y v1 v2) (hx:Ext w W):QBox W b x y v1 v2 :=
 ⟨hx.cell h.1,hx.cell h.2.1,hx.cell h.2.2.1,hx.cell h.2.2.2.1,fun i => hx.free h.2.2.2.2.2 (h.2.2.2.2.1 i),Nat.lt_of_lt_of_le h.2.2.2.2.2 hx.size⟩
theorem QBox.new {w W:World} {T:TypeId} {x y:RInt} {v1 v2:Value} (h:Ext (w.alloc (.cells #[.bool x.neg,v1,.bool y.neg,v2] T)) W):QBox W w.heap.size x y v1 v2 :=
 ⟨h.new_cell rfl,h.new_cell rfl,h.new_cell rfl,h.new_cell rfl,fun i => h.new_free i,Nat.lt_of_lt_of_le (by rw [z02]; omega) h.size⟩
theorem QBox.put {w:World} {b:Nat} {x y x' y':RInt} {v1 v2:Value} (h:QBox w b x y v1 v2) (u1 u2:Value) :
  QBox ((((w.setCell ⟨b,0,none⟩ (.bool x'.neg)).setCell ⟨b,1,none⟩ u1).setCell ⟨b,2,none⟩ (.bool y'.neg)).setCell ⟨b,3,none⟩ u2) b x' y' u1 u2:=by
 have k:=z34 (.bool x'.neg) u1 (.bool y'.neg) u2 h.1 h.2.1 h.2.2.1 h.2.2.2.1
 exact ⟨k.1,k.2.1,k.2.2.1,k.2.2.2,fun i => zm4 (h.2.2.2.2.1 i) _ _ _ _,by simp only [z07]; exact h.2.2.2.2.2⟩
theorem QBox.far {w:World} {b c:Nat} {x y:RInt} {v1 v2:Value} (h:QBox w c x y v1 v2) (hne:b ≠ c) (t1 t2 t3 t4:Value) :
  QBox ((((w.setCell ⟨b,0,none⟩ t1).setCell ⟨b,1,none⟩ t2).setCell ⟨b,2,none⟩ t3).setCell ⟨b,3,none⟩ t4) c x y v1 v2 :=
 ⟨z3p h.1 hne _ _ _ _,z3p h.2.1 hne _ _ _ _,z3p h.2.2.1 hne _ _ _ _,z3p h.2.2.2.1 hne _ _ _ _,fun i => zm4 (h.2.2.2.2.1 i) _ _ _ _,by simp only [z07]; exact h.2.2.2.2.2⟩
theorem Box.far {w:World} {b c:Nat} (h:Box w c) (hne:b ≠ c) (t1 t2 t3 t4:Value) :
  Box ((((w.setCell ⟨b,0,none⟩ t1).setCell ⟨b,1,none⟩ t2).setCell ⟨b,2,none⟩ t3).setCell ⟨b,3,none⟩ t4) c :=
 ⟨z3p h.1 hne _ _ _ _,z3p h.2.1 hne _ _ _ _,z3p h.2.2.1 hne _ _ _ _,z3p h.2.2.2.1 hne _ _ _ _,fun i => zm4 (h.2.2.2.2.1 i) _ _ _ _,by simp only [z07]; exact h.2.2.2.2.2⟩
def NX3 (b4 b0 b5:Nat) (wr:World) (k:Nat):Prop:=k < wr.heap.size ∧ k ≠ b4 ∧ k ≠ b0 ∧ k ≠ b5
def NO3 (w:World) (b4 b0 b5:Nat) (wr:World) (k:Nat):Prop:=w.heap.size ≤ k ∧ NX3 b4 b0 b5 wr k
theorem NX3.lt {b4 b0 b5:Nat} {wr:World}:∀ k,NX3 b4 b0 b5 wr k → k < wr.heap.size:=fun _ h => h.1
theorem NO3.lt {w:World} {b4 b0 b5:Nat} {wr:World}:∀ k,NO3 w b4 b0 b5 wr k → k < wr.heap.size:=fun _ h => h.2.1
theorem zqj {b4 b0 b5:Nat} {wr W:World} {v:Value} {zs:List Nat} (h:U32s (NX3 b4 b0 b5 wr) wr v zs) (hx:Ext wr W):U32s (NX3 b4 b0 b5 W) W v zs:=h.to (Kept.ext hx NX3.lt) (fun _ hk => ⟨Nat.lt_of_lt_of_le hk.1 hx.size,hk.2⟩)
theorem zez {w:World} {b4 b0 b5:Nat} {wr W:World} {v:Value} {zs:List Nat} (h:U32s (NO3 w b4 b0 b5 wr) wr v zs) (hx:Ext wr W):U32s (NO3 w b4 b0 b5 W) W v zs:=h.to (Kept.ext hx NO3.lt) (fun _ hk => ⟨hk.1,Nat.lt_of_lt_of_le hk.2.1 hx.size,hk.2.2⟩)
theorem zf4 {b4 b0 b5 b:Nat} {wr:World} {v:Value} {zs:List Nat} (h:U32s (NX3 b4 b0 b5 wr) wr v zs) (hb:b = b4 ∨ b = b0 ∨ b = b5) (x y z t:Value) :
  U32s (NX3 b4 b0 b5 ((((wr.setCell ⟨b,0,none⟩ x).setCell ⟨b,1,none⟩ y).setCell ⟨b,2,none⟩ z).setCell ⟨b,3,none⟩ t)) ((((wr.setCell ⟨b,0,none⟩ x).setCell ⟨b,1,none⟩ y).setCell ⟨b,2,none⟩ z).setCell ⟨b,3,none⟩ t) v zs :=
 (zdn h (fun k => by rcases hb with rfl | rfl | rfl <;> simp [NX3] at k) _ _ _ _).to (Kept.refl _ _) (fun k hk => ⟨by simp only [z07]; exact hk.1,hk.2⟩)
theorem z5q {w:World} {b4 b0 b5 b:Nat} {wr:World} {v:Value} {zs:List Nat} (h:U32s (NO3 w b4 b0 b5 wr) wr v zs) (hb:b = b4 ∨ b = b0 ∨ b = b5) (x y z t:Value) :
  U32s (NO3 w b4 b0 b5 ((((wr.setCell ⟨b,0,none⟩ x).setCell ⟨b,1,none⟩ y).setCell ⟨b,2,none⟩ z).setCell ⟨b,3,none⟩ t)) ((((wr.setCell ⟨b,0,none⟩ x).setCell ⟨b,1,none⟩ y).setCell ⟨b,2,none⟩ z).setCell ⟨b,3,none⟩ t) v zs :=
 (zdn h (fun k => by rcases hb with rfl | rfl | rfl <;> simp [NO3,NX3] at k) _ _ _ _).to (Kept.refl _ _) (fun k hk => ⟨hk.1,by simp only [z07]; exact hk.2.1,hk.2.2⟩)
structure PwAt (w:World) (b0 b5:Nat) (wr:World) (o:Rat) (a b:RInt) (ao ad ax ay:Option Addr) (co cd cx cy:Nat):Prop where
 bx:QBox wr b0 a b (.slice ax a.mag.length cx) (.slice ay b.mag.length cy)
 bo:QBox wr b5 (ofI o.num) (ofI (o.den:Int)) (.slice ao (ofI o.num).mag.length co) (.slice ad (ofI (o.den:Int)).mag.length cd)
 br:Box wr (b0 + 1)
 x1:U32s (NX3 (b0 + 1) b0 b5 wr) wr (.slice ax a.mag.length cx) a.mag
 x2:U32s (NX3 (b0 + 1) b0 b5 wr) wr (.slice ay b.mag.length cy) b.mag
 o1:U32s (NO3 w (b0 + 1) b0 b5 wr) wr (.slice ao (ofI o.num).mag.length co) (ofI o.num).mag
 o2:U32s (NO3 w (b0 + 1) b0 b5 wr) wr (.slice ad (ofI (o.den:Int)).mag.length cd) (ofI (o.den:Int)).mag
 ex:Ext w wr
 e0:w.heap.size = b0
 e5:b0 + 1 < b5
theorem PwAt.ext {w:World} {b0 b5:Nat} {wr W:World} {o:Rat} {a b:RInt} {ao ad ax ay:Option Addr} {co cd cx cy:Nat} (h:PwAt w b0 b5 wr o a b ao ad ax ay co cd cx cy) (hx:Ext wr W):PwAt w b0 b5 W o a b ao ad ax ay co cd cx cy :=
 ⟨h.bx.ext hx,h.bo.ext hx,z25 h.br hx,zqj h.x1 hx,zqj h.x2 hx,zez h.o1 hx,zez h.o2 hx,h.ex.trans hx,h.e0,h.e5⟩
theorem zqk {wr W:World} {b4 b0 b5:Nat} {v:Value} {zs:List Nat} (h:U32s (New wr W) W v zs) (h4:b4 < wr.heap.size) (h0:b0 < wr.heap.size) (h5:b5 < wr.heap.size):U32s (NX3 b4 b0 b5 W) W v zs :=
 h.to (Kept.refl _ _) (fun k hk => ⟨hk.2,by have:=hk.1; omega,by have:=hk.1; omega,by have:=hk.1; omega⟩)
theorem zf5 {w wr W:World} {b4 b0 b5:Nat} {v:Value} {zs:List Nat} (h:U32s (New wr W) W v zs) (hw:Ext w wr) (h4:b4 < wr.heap.size) (h0:b0 < wr.heap.size) (h5:b5 < wr.heap.size):U32s (NO3 w b4 b0 b5 W) W v zs :=
 h.to (Kept.refl _ _) (fun k hk => ⟨Nat.le_trans hw.size hk.1,hk.2,by have:=hk.1; omega,by have:=hk.1; omega,by have:=hk.1; omega⟩)
theorem PwAt.out {w:World} {b0 b5:Nat} {wr W:World} {o o':Rat} {a b:RInt} {ao ad ax ay ao' ad':Option Addr} {co cd cx cy co' cd':Nat} (h:PwAt w b0 b5 wr o a b ao ad ax ay co cd cx cy) (hx:Ext wr W)
  (h1:U32s (New wr W) W (.slice ao' (ofI o'.num).mag.length co') (ofI o'.num).mag) (h2:U32s (New wr W) W (.slice ad' (ofI (o'.den:Int)).mag.length cd') (ofI (o'.den:Int)).mag) :
  PwAt w b0 b5 ((((W.setCell ⟨b5,0,none⟩ (.bool (ofI o'.num).neg)).setCell ⟨b5,1,none⟩ (.slice ao' (ofI o'.num).mag.length co')).setCell ⟨b5,2,none⟩ (.bool (ofI (o'.den:Int)).neg)).setCell ⟨b5,3,none⟩ (.slice ad' (ofI (o'.den:Int)).mag.length cd')) o' a b ao' ad' ax ay co' cd' cx cy:=by
 have k:=h.ext hx
 have e:=h.e5
 have s1:=h.br.2.2.2.2.2
 have s2:=h.bx.2.2.2.2.2
 have s3:=h.bo.2.2.2.2.2
 exact ⟨k.bx.far (by omega) _ _ _ _,k.bo.put _ _,k.br.far (by omega) _ _ _ _,zf4 k.x1 (.inr (.inr rfl)) _ _ _ _,zf4 k.x2 (.inr (.inr rfl)) _ _ _ _,
  z5q (zf5 h1 h.ex s1 s2 s3) (.inr (.inr rfl)) _ _ _ _,z5q (zf5 h2 h.ex s1 s2 s3) (.inr (.inr rfl)) _ _ _ _,z24 k.ex (by rw [h.e0]; omega) _ _ _ _,h.e0,h.e5⟩
theorem PwAt.sq {w:World} {b0 b5:Nat} {wr W:World} {o x':Rat} {a b:RInt} {ao ad ax ay ax' ay':Option Addr} {co cd cx cy cx' cy':Nat} (h:PwAt w b0 b5 wr o a b ao ad ax ay co cd cx cy) (hx:Ext wr W)
  (h1:U32s (New wr W) W (.slice ax' (ofI x'.num).mag.length cx') (ofI x'.num).mag) (h2:U32s (New wr W) W (.slice ay' (ofI (x'.den:Int)).mag.length cy') (ofI (x'.den:Int)).mag) :
  PwAt w b0 b5 ((((W.setCell ⟨b0,0,none⟩ (.bool (ofI x'.num).neg)).setCell ⟨b0,1,none⟩ (.slice ax' (ofI x'.num).mag.length cx')).setCell ⟨b0,2,none⟩ (.bool (ofI (x'.den:Int)).neg)).setCell ⟨b0,3,none⟩ (.slice ay' (ofI (x'.den:Int)).mag.length cy')) o (ofI x'.num) (ofI (x'.den:Int)) ao ad ax' ay' co cd cx' cy':=by
 have k:=h.ext hx
 have e:=h.e5
 have s1:=h.br.2.2.2.2.2
 have s2:=h.bx.2.2.2.2.2
 have s3:=h.bo.2.2.2.2.2
 exact ⟨k.bx.put _ _,k.bo.far (by omega) _ _ _ _,k.br.far (by omega) _ _ _ _,zf4 (zqk h1 s1 s2 s3) (.inr (.inl rfl)) _ _ _ _,zf4 (zqk h2 s1 s2 s3) (.inr (.inl rfl)) _ _ _ _,
  z5q k.o1 (.inr (.inl rfl)) _ _ _ _,z5q k.o2 (.inr (.inl rfl)) _ _ _ _,z24 k.ex (by rw [h.e0]; omega) _ _ _ _,h.e0,h.e5⟩
structure PwQ (q:Rat) (n L m i j:Nat) (o:Rat) (a b:RInt):Prop where
 sum:i + m * j = n
 jn:j ≤ n + 1
 oq:o = q ^ i
 xq:putQ (valI a) (valI b) = q ^ j
 la:a.mag.length ≤ j * L + 1
 lb:b.mag.length ≤ j * L + 1
theorem zu8 {x:Int} (h₀:0 ≤ x) (h₁:x < 2 ^ 62):bits .and .i64 x 1 = x % 2:=bits_mask .i64 62 (by decide) (fun n h0 h1 => by rw [IntKind.wrap_i64]; omega) 1 (by decide) x h₀ h₁
theorem PwQ.bnd {q:Rat} {n L m i j:Nat} {o:Rat} {a b:RInt} (h:PwQ q n L m i j o a b) (hq:lenZ q.num ≤ L ∧ lenZ (q.den:Int) ≤ L) (hL:(n + 1) * L + 1 ≤ 1000000000) :
  (ofI o.num).mag.length ≤ 1000000000 ∧ (ofI (o.den:Int)).mag.length ≤ 1000000000 ∧ a.mag.length ≤ 1000000000 ∧ b.mag.length ≤ 1000000000:=by
 have hi:i ≤ n:=by have:=h.sum; omega
 have h1:=zey hq.1 hq.2 i
 rw [← h.oq] at h1
 have h2:i * L ≤ (n + 1) * L:=Nat.mul_le_mul_right _ (by omega)
 have h3:j * L ≤ (n + 1) * L:=Nat.mul_le_mul_right _ h.jn
 have h4:=h.la
 have h5:=h.lb
 have h6:(ofI o.num).mag.length = lenZ o.num:=rfl
 have h7:(ofI (o.den:Int)).mag.length = lenZ (o.den:Int):=rfl
 omega
structure PwM (q:Rat) (n L m i j:Nat) (o:Rat) (a b:RInt):Prop where
 sum:i + m / 2 * (2 * j) = n
 jn:j ≤ n + 1
 oq:o = q ^ i
 xq:putQ (valI a) (valI b) = q ^ j
 la:a.mag.length ≤ j * L + 1
 lb:b.mag.length ≤ j * L + 1
theorem PwQ.odd {q:Rat} {n L m i j:Nat} {o:Rat} {a b:RInt} (h:PwQ q n L m i j o a b) (hm:m % 2 = 1):PwM q n L m (i + j) j (putQ o.num (o.den:Int) * putQ (valI a) (valI b)) a b:=by
 refine ⟨?_,h.jn,?_,h.xq,h.la,h.lb⟩
 ·have h1:=h.sum
  obtain ⟨k,rfl⟩:∃ k,m = 2 * k + 1:=⟨m / 2,by omega⟩
  have h2:(2 * k + 1) / 2 = k:=by omega
  have h3:(2 * k + 1) * j = k * (2 * j) + j:=by rw [Nat.add_mul,Nat.one_mul,Nat.mul_comm 2 k,Nat.mul_assoc]
  rw [h2]
  omega
 ·rw [z55,h.oq,h.xq,zck]
theorem PwQ.even {q:Rat} {n L m i j:Nat} {o:Rat} {a b:RInt} (h:PwQ q n L m i j o a b) (hm:m % 2 = 0):PwM q n L m i j o a b:=by
 refine ⟨?_,h.jn,h.oq,h.xq,h.la,h.lb⟩
 have h1:=h.sum
 obtain ⟨k,rfl⟩:∃ k,m = 2 * k:=⟨m / 2,by omega⟩
 have h2:2 * k / 2 = k:=by omega
 have h3:2 * k * j = k * (2 * j):=by rw [Nat.mul_comm 2 k,Nat.mul_assoc]
 rw [h2]
 omega
theorem PwM.sq {q:Rat} {n L m i j:Nat} {o:Rat} {a b:RInt} (h:PwM q n L m i j o a b) (hm:1 < m) (hq:lenZ q.num ≤ L ∧ lenZ (q.den:Int) ≤ L) :
  PwQ q n L (m / 2) i (2 * j) o (ofI (putQ (valI a) (valI b) * putQ (valI a) (valI b)).num) (ofI ((putQ (valI a) (valI b) * putQ (valI a) (valI b)).den:Int)):=by
 have e:putQ (valI a) (valI b) * putQ (valI a) (valI b) = q ^ (2 * j):=by rw [h.xq,← zck,Nat.two_mul]
 have h1:=zey hq.1 hq.2 (2 * j)
 rw [e]
 refine ⟨h.sum,?_,h.oq,?_,h1.1,h1.2⟩
 ·have h2:=h.sum
  have h3:1 * (2 * j) ≤ m / 2 * (2 * j):=Nat.mul_le_mul_right _ (by omega)
  omega
 ·rw [z0p,z0p,z55]
theorem PwM.last {q:Rat} {n L m i j:Nat} {o:Rat} {a b:RInt} (h:PwM q n L m i j o a b) (hm:¬ 1 < m):PwQ q n L (m / 2) i j o a b:=by
 refine ⟨?_,h.jn,h.oq,h.xq,h.la,h.lb⟩
 have h1:=h.sum
 have h2:m / 2 = 0:=by omega
 rw [h2] at h1 ⊢
 omega
theorem PwM.bnd {q:Rat} {n L m i j:Nat} {o:Rat} {a b:RInt} (h:PwM q n L m i j o a b) (hL:(n + 1) * L + 1 ≤ 1000000000):a.mag.length ≤ 1000000000 ∧ b.mag.length ≤ 1000000000:=by
 have h3:j * L ≤ (n + 1) * L:=Nat.mul_le_mul_right _ h.jn
 have h4:=h.la
 have h5:=h.lb
 omega
theorem PwAt.ro {w:World} {b0 b5:Nat} {wr:World} {o:Rat} {a b:RInt} {ao ad ax ay:Option Addr} {co cd cx cy:Nat} (h:PwAt w b0 b5 wr o a b ao ad ax ay co cd cx cy) :
  RatI (Old wr) wr (.agg #[.bool (ofI o.num).neg,.slice ao (ofI o.num).mag.length co,.bool (ofI (o.den:Int)).neg,.slice ad (ofI (o.den:Int)).mag.length cd]) (ofI o.num) (ofI (o.den:Int)) :=
 ⟨_,_,rfl,h.o1.to (Kept.refl _ _) NO3.lt,h.o2.to (Kept.refl _ _) NO3.lt⟩
theorem PwAt.rx {w:World} {b0 b5:Nat} {wr:World} {o:Rat} {a b:RInt} {ao ad ax ay:Option Addr} {co cd cx cy:Nat} (h:PwAt w b0 b5 wr o a b ao ad ax ay co cd cx cy) :
  RatI (Old wr) wr (.agg #[.bool a.neg,.slice ax a.mag.length cx,.bool b.neg,.slice ay b.mag.length cy]) a b :=
 ⟨_,_,rfl,h.x1.to (Kept.refl _ _) NX3.lt,h.x2.to (Kept.refl _ _) NX3.lt⟩
theorem zij {S:Nat → Prop} (vx:Value) (x1 x2:RInt) (n L:Nat) (w:World) (hx:RatI S w vx x1 x2) (hS:∀ k,S k → k < w.heap.size) (hl1:x1.mag.length + 1 ≤ L) (hl2:x2.mag.length + 1 ≤ L) (hL:(n + 1) * L + 1 ≤ 1000000000) (hn:n ≤ 1000000) :
  Calls Tryz.prog 56 #[vx,.int .i64 (n:Nat)] w fun e w' => ∃ v',e = .returned v' ∧ RatQ (New w w') w' v' (putQ (valI x1) (valI x2) ^ n) ∧ Ext w w':=by
 obtain ⟨q,hq⟩:∃ q,q = putQ (valI x1) (valI x2):=⟨_,rfl⟩
 rw [← hq]
 obtain ⟨vn1,vd1,rfl,hn1,hd1⟩:=hx
 have HQL:Hid (lenZ q.num ≤ L ∧ lenZ (q.den:Int) ≤ L):=hid (by
  rw [hq]
  have h1:=z7z (valI x1) (valI x2)
  have h3:=z39 (r:=x1) hn1.lt
  have h4:=z39 (r:=x2) hd1.lt
  omega)
 obtain ⟨an1,cn1,rfl⟩:=hn1.form
 obtain ⟨ad1,cd1,rfl⟩:=hd1.form
 obtain ⟨w0,hw0⟩:∃ W,W = ((w.alloc (.cells #[.bool x1.neg,.slice an1 x1.mag.length cn1,.bool x2.neg,.slice ad1 x2.mag.length cd1] 32)).alloc (.cells #[.bool false,.slice none 0 0,.bool false,.slice none 0 0] 32)):=⟨_,rfl⟩
 have HX0:Hid (Ext w w0):=hid (by rw [hw0]; exact Ext.alloc (Ext.alloc (Ext.refl w) _) _)
 have HSZ:Hid (w0.heap.size = w.heap.size + 1 + 1):=hid (by rw [hw0]; simp)
 have HB:Hid (QBox w0 w.heap.size x1 x2 (.slice an1 x1.mag.length cn1) (.slice ad1 x2.mag.length cd1) ∧ Box w0 (w.heap.size + 1)):=hid (by
  rw [hw0]
  have h:=z54 (w:=w.alloc (.cells #[.bool x1.neg,.slice an1 x1.mag.length cn1,.bool x2.neg,.slice ad1 x2.mag.length cd1] 32)) (T:=32) (Ext.refl _)
  rw [z02] at h
  exact ⟨QBox.new (Ext.alloc (Ext.refl _) _),h⟩)
 have C1:=hid (z91 1 w0 (by decide))
 rw [hw0] at C1
 have HW0:=hid hw0
 have HN1:=hid hn1
 have HD1:=hid hd1
 have HQ:=hid hq
 have HLL:=hid (And.intro hl1 (And.intro hl2 hL))
 clear hn1 hd1 hq hw0 hl1 hl2 hL
 go_enter Tryz.func56,Tryz.ntmps56
 go_wp2_with fail
 refine C1.out.mono ?_
 rintro e w1 ⟨v1,rfl,hi1,hx1⟩
 rw [← HW0.out] at hi1 hx1
 have HX1:=hid (HX0.out.trans hx1)
 have HX01:=hid hx1
 have C2:=hid (z8l v1 (ofI 1) w1 hi1 New.lt (by decide))
 obtain ⟨o0,ho0⟩:∃ o:Rat,o = ((valI (ofI 1):Int):Rat):=⟨_,rfl⟩
 rw [← ho0] at C2
 have HO0:Hid (o0 = q ^ 0):=hid (by rw [ho0,z0p,Rat.pow_zero]; rfl)
 obtain ⟨vm1,rfl,hu1⟩:=hi1
 obtain ⟨a1,k1,rfl⟩:=hu1.form
 clear hx1 hu1 ho0
 go_wp2_with fail
 refine C2.out.mono ?_
 rintro e w2 ⟨v2,rfl,⟨vn2,vd2,rfl,hn2,hd2⟩,hx2⟩
 have HX2:=hid (HX1.out.trans hx2)
 have HX02:=hid (HX01.out.trans hx2)
 have HN2:=hid hn2
 have HD2:=hid hd2
 have HX12:=hid hx2
 obtain ⟨a2,k2,rfl⟩:=hn2.form
 obtain ⟨a3,k3,rfl⟩:=hd2.form
 have HPA:Hid (PwAt w w.heap.size w2.heap.size (w2.alloc (.cells #[.bool (ofI o0.num).neg,.slice a2 (ofI o0.num).mag.length k2,.bool (ofI (o0.den:Int)).neg,.slice a3 (ofI (o0.den:Int)).mag.length k3] 32)) o0 x1 x2 a2 a3 an1 ad1 k2 k3 cn1 cd1):=hid (by
  have hA:Ext w2 (w2.alloc (.cells #[.bool (ofI o0.num).neg,.slice a2 (ofI o0.num).mag.length k2,.bool (ofI (o0.den:Int)).neg,.slice a3 (ofI (o0.den:Int)).mag.length k3] 32)):=Ext.alloc (Ext.refl _) _
  have hz:=HSZ.out
  have hz2:=HX02.out.size
  have hz3:=HX01.out.size
  have hz4:=hx2.size
  have hS1:∀ k,S k → NX3 (w.heap.size + 1) w.heap.size w2.heap.size (w2.alloc (.cells #[.bool (ofI o0.num).neg,.slice a2 (ofI o0.num).mag.length k2,.bool (ofI (o0.den:Int)).neg,.slice a3 (ofI (o0.den:Int)).mag.length k3] 32)) k:=fun k hk => by
   have h1:=hS k hk
   refine ⟨by rw [z02]; omega,by omega,by omega,by omega⟩
  have hN:∀ k,New w1 w2 k → NO3 w (w.heap.size + 1) w.heap.size w2.heap.size (w2.alloc (.cells #[.bool (ofI o0.num).neg,.slice a2 (ofI o0.num).mag.length k2,.bool (ofI (o0.den:Int)).neg,.slice a3 (ofI (o0.den:Int)).mag.length k3] 32)) k:=fun k hk => by
   have h1:=hk.1
   have h2:=hk.2
   refine ⟨by omega,by rw [z02]; omega,by omega,by omega,by omega⟩
  exact ⟨(HB.out.1.ext HX02.out).ext hA,QBox.new (Ext.refl _),z25 (z25 HB.out.2 HX02.out) hA,HN1.out.to (Kept.ext (HX2.out.trans hA) hS) hS1,HD1.out.to (Kept.ext (HX2.out.trans hA) hS) hS1,
   hn2.to (Kept.ext hA New.lt) hN,hd2.to (Kept.ext hA New.lt) hN,HX2.out.trans hA,rfl,by omega⟩)
 have HPQ:Hid (PwQ q n L n 0 1 o0 x1 x2):=hid ⟨by omega,by omega,HO0.out,by rw [← HQ.out,Rat.pow_succ,Rat.pow_zero,Rat.one_mul],by have:=HLL.out.1; omega,by have:=HLL.out.2.1; omega⟩
 clear hn2 hd2 hx2 HN1 HD1 HN2 HD2 HB C1 C2 HSZ HX01 HX02 HX12 HW0
 go_wp2
 go_loopw [1] (fun v wr => ∃ (m i j:Nat) (o:Rat) (a b:RInt) (ao ad ax ay:Option Addr) (co cd cx cy:Nat),v = .int .i64 (m:Nat) ∧ m ≤ n ∧ Hid (PwQ q n L m i j o a b) ∧ Hid (PwAt w w.heap.size w2.heap.size wr o a b ao ad ax ay co cd cx cy)) (fun v _ => (intOf v).toNat)
 case atStart => exact ⟨n,0,1,o0,x1,x2,a2,a3,an1,ad1,k2,k3,cn1,cd1,rfl,Nat.le_refl _,HPQ,HPA⟩
 case round =>
  obtain ⟨m,i,j,o,a,b,ao,ad,ax,ay,co,cd,cx,cy,rfl,hm,HPQ',HPA'⟩:=hrel
  obtain ⟨x0c,x1c,x2c,x3c,xf,-⟩:=HPA'.out.bx
  obtain ⟨o0c,o1c,o2c,o3c,of,-⟩:=HPA'.out.bo
  by_cases h0:0 < m
  ·obtain ⟨t,ht⟩:∃ t,(bits BinOp.and IntKind.i64 (m:Int) 1 == 1) = t:=⟨_,rfl⟩
   have HT:Hid ((t = true → m % 2 = 1) ∧ (t = false → m % 2 = 0)):=hid (by
    rw [zu8 (by omega) (by omega)] at ht
    constructor
    ·intro h
     rw [h,beq_iff_eq] at ht
     omega
    ·intro h
     rw [h,beq_eq_false_iff_ne] at ht
     omega)
   go_upto_if 14 with (fail)
   clear ht
   go_cut [] (fun wx => ∃ (i':Nat) (o':Rat) (ao' ad':Option Addr) (co' cd':Nat),Hid (PwM q n L m i' j o' a b) ∧ Hid (PwAt w w.heap.size w2.heap.size wx o' a b ao' ad' ax ay co' cd' cx cy))
   case first =>
    cases t with
    | true =>
     have hB:=HPQ'.out.bnd HQL.out HLL.out.2.2
     have CM:=hid (zci (S:=Old wr) _ _ _ _ _ _ wr HPA'.out.ro HPA'.out.rx (fun _ h => h) hB.1 hB.2.1 hB.2.2.1 hB.2.2.2)
     have HM:=hid (HPQ'.out.odd (HT.out.1 rfl))
     rw [z0p,z0p] at CM
     obtain ⟨o',ho'⟩:∃ o',o' = putQ o.num (o.den:Int) * putQ (valI a) (valI b):=⟨_,rfl⟩
     rw [← ho'] at CM HM
     clear hB ho'
     go_wp2_with fail
     with_reducible refine CM.out.mono ?_
     rintro e w4 ⟨v4,rfl,⟨vn4,vd4,rfl,hn4,hd4⟩,hx4⟩
     have HN4:=hid hn4
     have HD4:=hid hd4
     have HX4:=hid hx4
     obtain ⟨a4,k4,rfl⟩:=hn4.form
     obtain ⟨a5,k5,rfl⟩:=hd4.form
     have HPB:=hid (HPA'.out.out HX4.out HN4.out HD4.out)
     obtain ⟨y0c,y1c,y2c,y3c,yf,-⟩:=HPA'.out.bo.ext hx4
     have f0:=yf 0
     have f1:=yf 1
     have f2:=yf 2
     have f3:=yf 3
     clear hn4 hd4 hx4 yf
     go_wp2_with fail
     go_meet
     exact ⟨_,_,_,_,_,_,HM,HPB⟩
    | false =>
     have HM:=hid (HPQ'.out.even (HT.out.2 rfl))
     go_wp2_with fail
     go_meet
     exact ⟨_,_,_,_,_,_,HM,HPA'⟩
   case rest =>
    obtain ⟨i',o',ao',ad',co',cd',HM,HPB⟩:=hcut
    clear x0c x1c x2c x3c xf o0c o1c o2c o3c of
    obtain ⟨x0c,x1c,x2c,x3c,xf,-⟩:=HPB.out.bx
    by_cases h1:1 < m
    ·have hB:=HM.out.bnd HLL.out.2.2
     have CM:=hid (zci (S:=Old wc) _ _ _ _ _ _ wc HPB.out.rx HPB.out.rx (fun _ h => h) hB.1 hB.2 hB.1 hB.2)
     have HQ2:=hid (HM.out.sq h1 HQL.out)
     obtain ⟨x',hx'⟩:∃ x',x' = putQ (valI a) (valI b) * putQ (valI a) (valI b):=⟨_,rfl⟩
     rw [← hx'] at CM HQ2
     clear hB hx'
     go_wp2_with fail
     with_reducible refine CM.out.mono ?_
     rintro e w4 ⟨v4,rfl,⟨vn4,vd4,rfl,hn4,hd4⟩,hx4⟩
     have HN4:=hid hn4
     have HD4:=hid hd4
     have HX4:=hid hx4
     obtain ⟨a4,k4,rfl⟩:=hn4.form
     obtain ⟨a5,k5,rfl⟩:=hd4.form
     have HPC:=hid (HPB.out.sq HX4.out HN4.out HD4.out)
     obtain ⟨y0c,y1c,y2c,y3c,yf,-⟩:=HPB.out.bx.ext hx4
     have f0:=yf 0
     have f1:=yf 1
     have f2:=yf 2
     have f3:=yf 3
     clear hn4 hd4 hx4 yf
     go_wp2
     go_roundw
     case rel => exact ⟨m / 2,_,_,_,_,_,_,_,_,_,_,_,_,_,by rw [Int.natCast_ediv]; rfl,by omega,HQ2,HPC⟩
     case measure => simp only [intOf]; omega
    ·go_wp2
     go_roundw
     case rel => exact ⟨m / 2,_,_,_,_,_,_,_,_,_,_,_,_,_,by rw [Int.natCast_ediv]; rfl,by omega,hid (HM.out.last h1),HPB⟩
     case measure => simp only [intOf]; omega
  ·obtain rfl:m = 0:=by omega
   have HE:Hid (o = q ^ n):=hid (by
    have h1:=HPQ'.out.sum
    rw [HPQ'.out.oq,← h1,Nat.zero_mul,Nat.add_zero])
   obtain ⟨y0c,y1c,y2c,y3c,yf,-⟩:=HPA'.out.br
   have f0:=yf 0
   have f1:=yf 1
   have f2:=yf 2
   have f3:=yf 3
   clear yf
   go_wp2
   all_goals
    have hb:=HPA'.out.br
    have hd4:=fun x y z t => z34 x y z t hb.1 hb.2.1 hb.2.2.1 hb.2.2.2.1
    refine bodyPost_ret (by simp [results,Tryz.results56,go_sem,(hd4 _ _ _ _).1,(hd4 _ _ _ _).2.1,(hd4 _ _ _ _).2.2.1,(hd4 _ _ _ _).2.2.2]; rfl) rfl ?_
    refine ⟨_,rfl,?_,z24 HPA'.out.ex (Nat.le_succ _) _ _ _ _⟩
    rw [← HE.out]
    exact ⟨_,_,rfl,(z5q HPA'.out.o1 (.inl rfl) _ _ _ _).to (Kept.refl _ _) (fun k h => ⟨h.1,h.2.1⟩),(z5q HPA'.out.o2 (.inl rfl) _ _ _ _).to (Kept.refl _ _) (fun k h => ⟨h.1,h.2.1⟩)⟩
end
section
def ptq (pts:List (RInt × RInt)) (v:Int):Rat:=match pts[(v - 1).toNat]? with
 | some r => putQ (valI r.1) (valI r.2)
 | none => 0
def powQ (pts:List (RInt × RInt)) (x:Int × Int):Rat:=ptq pts x.1 ^ x.2.toNat
def gM (pts:List (RInt × RInt)):Mono → Rat
 | [] => 1
 | x :: r => powQ pts x * gM pts r
theorem zql (pts:List (RInt × RInt)) (a b:Mono):gM pts (a ++ b) = gM pts a * gM pts b:=by
 induction a with
 | nil => simp [gM,Rat.one_mul]
 | cons x r ih => simp only [List.cons_append,gM,ih,Rat.mul_assoc]
theorem z80 {α:Type} {l:List α} {k:Nat} {x:α} (h:l[k]? = some x):l.take (k + 1) = l.take k ++ [x]:=by
 rw [List.take_add_one,h]
 rfl
theorem zxl {pts:List (RInt × RInt)} {m:Mono} {k:Nat} {x:Int × Int} (h:m[k]? = some x):gM pts (m.take (k + 1)) = gM pts (m.take k) * powQ pts x:=by
 rw [z80 h,zql]
 simp only [gM,Rat.mul_one]
theorem zu9 {g:Mono → Rat} {p:PZ} {k:Nat} {t:Int × Mono} (h:p[k]? = some t):evQ g (p.take (k + 1)) = evQ g (p.take k) + (t.1:Rat) * g t.2:=by
 rw [z80 h,z9v]
 simp only [evQ,Rat.add_zero]
def gE (pts:List (RInt × RInt)) (f:Int → Int):Nat → Rat
 | 0 => 1
 | n + 1 => gE pts f n * ptq pts ((n + 1:Nat):Int) ^ (f ((n + 1:Nat):Int)).toNat
theorem zz3 (pts:List (RInt × RInt)) {f g h:Int → Int} (hf:∀ u,0 ≤ f u) (hg:∀ u,0 ≤ g u) (hh:∀ u,h u = f u + g u) (n:Nat):gE pts h n = gE pts f n * gE pts g n:=by
 induction n with
 | zero => simp [gE]
 | succ n ih =>
  have e:(h ((n + 1:Nat):Int)).toNat = (f ((n + 1:Nat):Int)).toNat + (g ((n + 1:Nat):Int)).toNat:=by
   rw [hh,Int.toNat_add (hf _) (hg _)]
  simp only [gE,ih,e,zck]
  rw [Rat.mul_assoc,Rat.mul_assoc]
  congr 1
  rw [← Rat.mul_assoc,← Rat.mul_assoc,Rat.mul_comm (gE pts g n)]
theorem zz4 (pts:List (RInt × RInt)) {f h:Int → Int} {v:Int} (hv:1 ≤ v) (h0:h v = 0) (hh:∀ u,u ≠ v → h u = f u) (n:Nat):gE pts f n = if v ≤ n then ptq pts v ^ (f v).toNat * gE pts h n else gE pts h n:=by
 induction n with
 | zero => rw [if_neg (by omega)]; rfl
 | succ n ih =>
  simp only [gE]
  rw [ih]
  by_cases h1:v ≤ n
  ·rw [if_pos h1,if_pos (by omega),hh _ (by omega),Rat.mul_assoc]
  ·rw [if_neg h1]
   by_cases h2:v = ((n + 1:Nat):Int)
   ·rw [if_pos (by omega),← h2,h0]
    show _ = _ * (_ * ptq pts v ^ 0)
    rw [Rat.pow_zero,Rat.mul_one,Rat.mul_comm]
   ·rw [if_neg (by omega),hh _ (fun e => h2 e.symm)]
theorem zxm (pts:List (RInt × RInt)) {f:Int → Int} (h:∀ u,f u = 0) (n:Nat):gE pts f n = 1:=by
 induction n with
 | zero => rfl
 | succ n ih =>
  simp only [gE,ih,h]
  show (1:Rat) * _ ^ 0 = 1
  rw [Rat.pow_zero,Rat.one_mul]
theorem zqm (pts:List (RInt × RInt)) {m:Mono}:∀ {l:Int},0 ≤ l → z1x l m = true → gM pts m = gE pts (ex m) 200:=by
 induction m with
 | nil => exact fun _ _ => (zxm pts (fun _ => rfl) 200).symm
 | cons x r ih =>
  intro l hl h
  have h':=h
  simp only [z1x,Bool.and_eq_true,decide_eq_true_eq] at h'
  have hr:=ih (l:=x.1) (by omega) h'.2
  have e:=zz4 pts (f:=ex (x :: r)) (h:=ex r) (v:=x.1) (by omega) (zc3 h'.2 (Int.le_refl _)) (fun u hu => by rw [ex,if_neg (fun e => hu e.symm)]) 200
  rw [e,if_pos (by omega),gM,hr,powQ]
  congr 3
  rw [ex,if_pos rfl]
theorem zua (pts:List (RInt × RInt)) {a b:Mono} (ha:okM a = true) (hb:okM b = true):gM pts (z0m a b) = gM pts a * gM pts b:=by
 rw [zqm pts (Int.le_refl 0) (z94 ha hb),zqm pts (Int.le_refl 0) ha,zqm pts (Int.le_refl 0) hb]
 exact zz3 pts (z92 ha) (z92 hb) (z93 ha hb) 200
theorem zxn (pts:List (RInt × RInt)) {p q:PZ} (hp:zek p) (hq:zek q):evQ (gM pts) (mulL p q) = evQ (gM pts) p * evQ (gM pts) q :=
 zu6 _ _ _ hp hq (fun _ _ => zua pts)
def Sz (B:Nat) (q:Rat):Prop:=lenZ q.num ≤ B ∧ lenZ (q.den:Int) ≤ B
theorem Sz.mono {A B:Nat} {q:Rat} (h:Sz A q) (hAB:A ≤ B):Sz B q:=⟨Nat.le_trans h.1 hAB,Nat.le_trans h.2 hAB⟩
theorem zcl (a b:Int) (hb:b ≠ 0):lenZ (Rat.divInt a b).num ≤ lenZ a ∧ lenZ ((Rat.divInt a b).den:Int) ≤ lenZ b:=by
 obtain ⟨h1,h2,h3⟩:=z63 a b hb
 exact ⟨z9w h1 h2,z9w h1 h3⟩
theorem zvb (p q:Rat):(p.den:Int) * (q.den:Int) ≠ 0:=Int.mul_ne_zero (Int.natCast_ne_zero.2 p.den_nz) (Int.natCast_ne_zero.2 q.den_nz)
theorem Sz.mul {A B:Nat} {p q:Rat} (h:Sz A p) (k:Sz B q):Sz (A + B) (p * q):=by
 rw [← zz1]
 obtain ⟨h1,h2⟩:=zcl (p.num * q.num) ((p.den:Int) * (q.den:Int)) (zvb p q)
 have a1:=h.1
 have a2:=h.2
 have b1:=k.1
 have b2:=k.2
 exact ⟨Nat.le_trans h1 (z4o (by omega)),Nat.le_trans h2 (z4o (by omega))⟩
theorem Sz.add {A B:Nat} {p q:Rat} (h:Sz A p) (k:Sz B q):Sz (A + B + 1) (p + q):=by
 rw [← zz2]
 obtain ⟨h1,h2⟩:=zcl (p.num * (q.den:Int) + q.num * (p.den:Int)) ((p.den:Int) * (q.den:Int)) (zvb p q)
 have a1:=h.1
 have a2:=h.2
 have b1:=k.1
 have b2:=k.2
 exact ⟨Nat.le_trans h1 (zjx (z4o (by omega)) (z4o (by omega))),Nat.le_trans h2 (Nat.le_trans (z4o (k:=A + B) (by omega)) (by omega))⟩
theorem Sz.pow {A:Nat} {q:Rat} (h:Sz A q) (i:Nat):Sz (i * A + 1) (q ^ i):=zey h.1 h.2 i
theorem zqn {z:Int} {K:Nat} (h:lenZ z ≤ K) (hK:1 ≤ K):Sz K (z:Rat):=by
 refine ⟨?_,?_⟩
 ·rw [Rat.num_intCast]
  exact h
 ·rw [Rat.den_intCast]
  exact Nat.le_trans (show lenZ ((1:Nat):Int) ≤ 1 by decide) hK
structure AtFit (pts:List (RInt × RInt)) (p:PZ) (K E V N:Nat):Prop where
 can:canP p
 cls:z0t p ≤ pts.length
 c:∀ t ∈ p,lenZ t.1 ≤ K
 e:∀ t ∈ p,∀ y ∈ t.2,y.2 ≤ E
 v:∀ t ∈ p,t.2.length ≤ V
 n:p.length ≤ N
 r:∀ x ∈ pts,x.1.mag.length ≤ 3 ∧ x.2.mag.length ≤ 3
 k1:1 ≤ K
 e1:E ≤ 10000
 b:(K + V * (E * 4 + 1) + 2) * (N + 1) ≤ 1000000000
theorem zvc {pts:List (RInt × RInt)} (hl:∀ x ∈ pts,(∀ z ∈ x.1.mag,z < B32) ∧ ∀ z ∈ x.2.mag,z < B32) (h:∀ x ∈ pts,x.1.mag.length ≤ 3 ∧ x.2.mag.length ≤ 3) (v:Int):Sz 4 (ptq pts v):=by
 unfold ptq
 split
 ·rename_i r hr
  have hm:=List.mem_of_getElem? hr
  have h1:=z7z (valI r.1) (valI r.2)
  have h2:=z39 (hl r hm).1
  have h3:=z39 (hl r hm).2
  have h4:=h r hm
  exact ⟨by omega,by omega⟩
 ·exact ⟨by decide,by decide⟩
theorem zxo {pts:List (RInt × RInt)} (hp:∀ v,Sz 4 (ptq pts v)) {E:Nat} {m:Mono} (h:∀ y ∈ m,y.2 ≤ E):Sz (m.length * (E * 4 + 1) + 1) (gM pts m):=by
 induction m with
 | nil => exact Sz.mono (A:=1) ⟨show lenZ ((1:Rat)).num ≤ 1 by decide,show lenZ (((1:Rat)).den:Int) ≤ 1 by decide⟩ (Nat.le_add_left _ _)
 | cons x r ih =>
  have h1:=ih (fun y hy => h y (List.mem_cons_of_mem _ hy))
  have h2:=(hp x.1).pow x.2.toNat
  have h3:=h x (List.mem_cons_self ..)
  refine (h2.mul h1).mono ?_
  rw [List.length_cons,Nat.succ_mul]
  have h4:x.2.toNat * 4 ≤ E * 4:=Nat.mul_le_mul_right _ (by omega)
  omega
theorem zvd {pts:List (RInt × RInt)} (hp:∀ v,Sz 4 (ptq pts v)) {K E V:Nat} (hK:1 ≤ K) {p:PZ} (hc:∀ t ∈ p,lenZ t.1 ≤ K) (he:∀ t ∈ p,∀ y ∈ t.2,y.2 ≤ E) (hv:∀ t ∈ p,t.2.length ≤ V) :
  Sz (p.length * (K + V * (E * 4 + 1) + 2) + 1) (evQ (gM pts) p):=by
 induction p with
 | nil => exact Sz.mono (A:=1) ⟨show lenZ ((0:Rat)).num ≤ 1 by decide,show lenZ (((0:Rat)).den:Int) ≤ 1 by decide⟩ (Nat.le_add_left _ _)
 | cons t r ih =>
  have h1:=ih (fun y hy => hc y (List.mem_cons_of_mem _ hy)) (fun y hy => he y (List.mem_cons_of_mem _ hy)) (fun y hy => hv y (List.mem_cons_of_mem _ hy))
  have h2:=(zqn (hc t (List.mem_cons_self ..)) hK).mul (zxo hp (he t (List.mem_cons_self ..)))
  have h3:t.2.length * (E * 4 + 1) ≤ V * (E * 4 + 1):=Nat.mul_le_mul_right _ (hv t (List.mem_cons_self ..))
  refine (h2.add h1).mono ?_
  rw [List.length_cons,Nat.succ_mul]
  omega
end
section
open Go.RowKit Go.Deep
def Rats (S:Nat → Prop) (w:World) (v:Value) (l:List (RInt × RInt)):Prop :=
 ∃ b off,z3a S v l.length b off ∧ ∀ j r,l[j]? = some r → ∃ vn vd,w.cell? ⟨b,off + j * 4,none⟩ = some (.bool r.1.neg) ∧
  w.cell? ⟨b,off + j * 4 + 1,none⟩ = some vn ∧ w.cell? ⟨b,off + j * 4 + 2,none⟩ = some (.bool r.2.neg) ∧ w.cell? ⟨b,off + j * 4 + 3,none⟩ = some vd ∧ U32s S w vn r.1.mag ∧ U32s S w vd r.2.mag
theorem Rats.form {S:Nat → Prop} {w:World} {v:Value} {l:List (RInt × RInt)} (h:Rats S w v l):∃ a cap,v = .slice a l.length cap:=by
 obtain ⟨b,off,⟨a,cap,h1,_⟩,_⟩:=h
 exact ⟨a,cap,h1⟩
theorem Rats.to {S S':Nat → Prop} {w w':World} {v:Value} {l:List (RInt × RInt)} (h:Rats S w v l) (hk:Kept S w w') (hS:∀ k,S k → S' k):Rats S' w' v l:=by
 obtain ⟨b,off,hs,hc⟩:=h
 refine ⟨b,off,hs.mono hS,fun j t hj => ?_⟩
 obtain ⟨vn,vd,h1,h2,h3,h4,h5,h6⟩:=hc j t hj
 have hb:=hs.in (z05 hj)
 exact ⟨vn,vd,hk.cell hb h1,hk.cell hb h2,hk.cell hb h3,hk.cell hb h4,h5.to hk hS,h6.to hk hS⟩
theorem Rats.on {w W:World} {v:Value} {z:List (RInt × RInt)} (h:Rats (Old w) w v z) (hx:Ext w W):Rats (Old W) W v z:=h.to (Kept.ext hx (fun _ h => h)) (zbe hx)
theorem Rats.len_le {S:Nat → Prop} {w:World} {v:Value} {l:List (RInt × RInt)} (h:Rats S w v l):l.length ≤ 9223372036854775807:=by
 obtain ⟨b,off,⟨a,cap,h1,h2,h3,_⟩,_⟩:=h
 unfold maxLen at h3
 omega
theorem Rats.lt {S:Nat → Prop} {w:World} {v:Value} {l:List (RInt × RInt)} (h:Rats S w v l):∀ x ∈ l,(∀ z ∈ x.1.mag,z < B32) ∧ ∀ z ∈ x.2.mag,z < B32:=by
 obtain ⟨b,off,hs,hc⟩:=h
 intro t ht
 obtain ⟨j,hj⟩:=List.getElem?_of_mem ht
 obtain ⟨vn,vd,h1,h2,h3,h4,h5,h6⟩:=hc j t hj
 exact ⟨h5.lt,h6.lt⟩
theorem Rats.cellAt {S:Nat → Prop} {w:World} {l:List (RInt × RInt)} {a:Option Addr} {n cap k:Nat} {r:RInt × RInt} (h:Rats S w (.slice a n cap) l) (hr:l[k]? = some r) :
  ∃ b off vn vd,a = some ⟨b,off,none⟩ ∧ n ≤ cap ∧ cap ≤ 9223372036854775807 ∧ S b ∧ w.cell? ⟨b,off + k * 4,none⟩ = some (.bool r.1.neg) ∧ w.cell? ⟨b,off + k * 4 + 1,none⟩ = some vn ∧ w.cell? ⟨b,off + k * 4 + 2,none⟩ = some (.bool r.2.neg) ∧ w.cell? ⟨b,off + k * 4 + 3,none⟩ = some vd ∧
   U32s S w vn r.1.mag ∧ U32s S w vd r.2.mag:=by
 obtain ⟨b,off,⟨a',cap',h1,h2,h3,h4,h5⟩,hc⟩:=h
 obtain ⟨rfl,rfl,rfl⟩:a = a' ∧ n = l.length ∧ cap = cap':=by simpa using h1
 have hp:0 < l.length:=by have:=z05 hr; omega
 obtain ⟨vn,vd,g1,g2,g3,g4,g5,g6⟩:=hc k r hr
 exact ⟨b,off,vn,vd,h4 hp,h2,h3,h5 hp,g1,g2,g3,g4,g5,g6⟩
theorem zqo {m:Mono}:∀ {l:Int},z0a l m = true → ∀ y ∈ m,l < y.1 ∧ y.1 ≤ z1j m ∧ 1 ≤ y.2 ∧ y.2 ≤ 10000:=by
 induction m with
 | nil => exact fun _ y hy => by cases hy
 | cons x r ih =>
  intro l h y hy
  have hc:=z5b h (by simp)
  have h':=h
  simp only [z0a,Bool.and_eq_true,decide_eq_true_eq] at h'
  rcases List.mem_cons.1 hy with rfl | hy
  ·refine ⟨h'.1.1,?_,h'.1.2.2.1,h'.1.2.2.2⟩
   cases r with
   | nil => exact Int.le_refl _
   | cons z r =>
    rw [z4v]
    have:=z5b h'.2 (by simp)
    omega
  ·obtain ⟨z,s,rfl⟩:∃ z s,r = z :: s:=by
    cases r with
    | nil => cases hy
    | cons z s => exact ⟨z,s,rfl⟩
   have h3:=ih h'.2 y hy
   rw [z4v]
   exact ⟨by omega,h3.2.1,h3.2.2⟩
theorem zdo {p:PZ} (h:canP p):∀ t ∈ p,z1j t.2 ≤ z0t p:=by
 intro t ht
 cases p with
 | nil => cases ht
 | cons a r =>
  rcases List.mem_cons.1 ht with rfl | h2
  ·exact Int.le_refl _
  ·have hp:=h.2
   rw [List.pairwise_cons] at hp
   exact zk8 (h.1 a (List.mem_cons_self ..)).2 (h.1 t ht).2 (hp.1 t h2)
structure AccAt (w:World) (b4 b:Nat) (wr:World) (o:Rat) (ao ad:Option Addr) (co cd:Nat):Prop where
 bo:QBox wr b (ofI o.num) (ofI (o.den:Int)) (.slice ao (ofI o.num).mag.length co) (.slice ad (ofI (o.den:Int)).mag.length cd)
 o1:U32s (NO3 w b4 b4 b wr) wr (.slice ao (ofI o.num).mag.length co) (ofI o.num).mag
 o2:U32s (NO3 w b4 b4 b wr) wr (.slice ad (ofI (o.den:Int)).mag.length cd) (ofI (o.den:Int)).mag
 ex:Ext w wr
 e:w.heap.size ≤ b
 h4:b4 < wr.heap.size
theorem AccAt.ext {w:World} {b4 b:Nat} {wr W:World} {o:Rat} {ao ad:Option Addr} {co cd:Nat} (h:AccAt w b4 b wr o ao ad co cd) (hx:Ext wr W):AccAt w b4 b W o ao ad co cd :=
 ⟨h.bo.ext hx,zez h.o1 hx,zez h.o2 hx,h.ex.trans hx,h.e,Nat.lt_of_lt_of_le h.h4 hx.size⟩
theorem AccAt.put {w:World} {b4 b:Nat} {wr W:World} {o o':Rat} {ao ad ao' ad':Option Addr} {co cd co' cd':Nat} (h:AccAt w b4 b wr o ao ad co cd) (hx:Ext wr W)
  (h1:U32s (New wr W) W (.slice ao' (ofI o'.num).mag.length co') (ofI o'.num).mag) (h2:U32s (New wr W) W (.slice ad' (ofI (o'.den:Int)).mag.length cd') (ofI (o'.den:Int)).mag) :
  AccAt w b4 b ((((W.setCell ⟨b,0,none⟩ (.bool (ofI o'.num).neg)).setCell ⟨b,1,none⟩ (.slice ao' (ofI o'.num).mag.length co')).setCell ⟨b,2,none⟩ (.bool (ofI (o'.den:Int)).neg)).setCell ⟨b,3,none⟩ (.slice ad' (ofI (o'.den:Int)).mag.length cd')) o' ao' ad' co' cd':=by
 have k:=h.ext hx
 have s3:=h.bo.2.2.2.2.2
 exact ⟨k.bo.put _ _,z5q (zf5 h1 h.ex h.h4 h.h4 s3) (.inr (.inr rfl)) _ _ _ _,z5q (zf5 h2 h.ex h.h4 h.h4 s3) (.inr (.inr rfl)) _ _ _ _,z24 k.ex h.e _ _ _ _,h.e,by simp only [z07]; exact k.h4⟩
theorem AccAt.new {w:World} {b4:Nat} {wp W:World} {o:Rat} {ao ad:Option Addr} {co cd:Nat} {T:TypeId} (hx:Ext w wp) (hy:Ext wp W)
  (h1:U32s (New wp W) W (.slice ao (ofI o.num).mag.length co) (ofI o.num).mag) (h2:U32s (New wp W) W (.slice ad (ofI (o.den:Int)).mag.length cd) (ofI (o.den:Int)).mag) (h4:b4 < wp.heap.size ∨ b4 = W.heap.size) :
  AccAt w b4 W.heap.size (W.alloc (.cells #[.bool (ofI o.num).neg,.slice ao (ofI o.num).mag.length co,.bool (ofI (o.den:Int)).neg,.slice ad (ofI (o.den:Int)).mag.length cd] T)) o ao ad co cd:=by
 have hA:Ext W (W.alloc (.cells #[.bool (ofI o.num).neg,.slice ao (ofI o.num).mag.length co,.bool (ofI (o.den:Int)).neg,.slice ad (ofI (o.den:Int)).mag.length cd] T)):=Ext.alloc (Ext.refl _) _
 have s1:=hx.size
 have s2:=hy.size
 have up:∀ v zs,U32s (New wp W) W v zs → U32s (NO3 w b4 b4 W.heap.size (W.alloc (.cells #[.bool (ofI o.num).neg,.slice ao (ofI o.num).mag.length co,.bool (ofI (o.den:Int)).neg,.slice ad (ofI (o.den:Int)).mag.length cd] T))) (W.alloc (.cells #[.bool (ofI o.num).neg,.slice ao (ofI o.num).mag.length co,.bool (ofI (o.den:Int)).neg,.slice ad (ofI (o.den:Int)).mag.length cd] T)) v zs:=fun v zs h =>
  h.to (Kept.ext hA New.lt) (fun k hk => by
   have k1:=hk.1
   have k2:=hk.2
   exact ⟨by omega,by rw [z02]; omega,by omega,by omega,by omega⟩)
 exact ⟨QBox.new (Ext.refl _),up _ _ h1,up _ _ h2,(hx.trans hy).trans hA,(hx.trans hy).size,by rw [z02]; omega⟩
theorem AccAt.r {w:World} {b4 b:Nat} {wr:World} {o:Rat} {ao ad:Option Addr} {co cd:Nat} (h:AccAt w b4 b wr o ao ad co cd) :
  RatI (Old wr) wr (.agg #[.bool (ofI o.num).neg,.slice ao (ofI o.num).mag.length co,.bool (ofI (o.den:Int)).neg,.slice ad (ofI (o.den:Int)).mag.length cd]) (ofI o.num) (ofI (o.den:Int)) :=
 ⟨_,_,rfl,h.o1.to (Kept.refl _ _) NO3.lt,h.o2.to (Kept.refl _ _) NO3.lt⟩
theorem zub {W:World} {vp vq:Value} {p:PZ} {pts:List (RInt × RInt)} {K E V N:Nat} (hp:z06 (Old W) W vp (ofP p)) (hq:Rats (Old W) W vq pts) (F:AtFit pts p K E V N) :
  Calls Tryz.prog 24 #[vp,vq] W fun e w' => ∃ v',e = .returned (.tuple #[v',.int .i64 0]) ∧ RatQ (New W w') w' v' (evQ (gM pts) p) ∧ Ext W w':=by
 have hnot:∀ (x:Bool) (w:World),(Op.unary .not (.bool x)).run Tryz.prog w = .ok (.bool (!x)) w:=fun _ _ => rfl
 have HP:=hid hp
 have HQ:=hid hq
 have HF:=hid F
 have hKB:K + V * (E * 4 + 1) + 2 ≤ 1000000000 ∧ N + 1 ≤ 1000000000:=by
  have hb:=F.b
  exact ⟨Nat.le_trans (Nat.le_mul_of_pos_right _ (by omega)) hb,Nat.le_trans (Nat.le_mul_of_pos_left _ (by omega)) hb⟩
 have HKB:=hid hKB
 have HSM:Hid (z3r (ofP p)):=hid (fun t ht => by
  obtain ⟨u,hu,rfl⟩:=List.mem_map.1 ht
  have h1:=F.c u hu
  show lenZ u.1 ≤ _
  omega)
 have HPT:Hid (∀ v,Sz 4 (ptq pts v)):=hid (zvc hq.lt F.r)
 have C1:=hid (fun (Y:World) (hY:Ext W Y) => z4i (S:=Old W) vp (ofP p) Y (HP.out.ext hY (fun _ h => h)) (fun _ h => Nat.lt_of_lt_of_le h hY.size) HSM.out)
 have C2:=hid (fun (Y:World) (hY:Ext W Y) => z5x (S:=Old W) vp (ofP p) Y (HP.out.ext hY (fun _ h => h)) (fun _ h => Nat.lt_of_lt_of_le h hY.size) HSM.out)
 rw [z7d F.can] at C1
 rw [z7p F.can] at C2
 have hnl:=hp.len_le
 have hql:=hq.len_le
 have hcl:=F.cls
 obtain ⟨ap,cp,rfl⟩:=hp.form
 obtain ⟨aq,cq,rfl⟩:=hq.form
 obtain ⟨cl,hcle⟩:∃ c,c = z0t p:=⟨_,rfl⟩
 rw [← hcle] at C2 hcl
 rw [zej] at HP C1 C2 hnl ⊢
 obtain ⟨n,hn⟩:∃ n,n = p.length:=⟨_,rfl⟩
 obtain ⟨nq,hnq⟩:∃ n,n = pts.length:=⟨_,rfl⟩
 rw [← hn] at HP C1 C2 hnl ⊢
 rw [← hnq] at HQ hcl hql ⊢
 have HN:=hid (And.intro hn (And.intro hnq hcle))
 have hdc:decide ((nq:Int) < cl) = false:=decide_eq_false (by omega)
 obtain ⟨w0,hw0⟩:∃ Y,Y = W.alloc (.cells #[.bool false,.slice none 0 0,.bool false,.slice none 0 0] 32):=⟨_,rfl⟩
 have HX0:Hid (Ext W w0):=hid (by rw [hw0]; exact Ext.alloc (Ext.refl _) _)
 have HB0:=hid (fun (Y:World) (hY:Ext w0 Y) => z54 (w:=W) (W:=Y) (T:=32) (by rw [← hw0]; exact hY))
 have C1':=hid (C1.out w0 HX0.out)
 rw [hw0] at C1'
 have HW0:=hid hw0
 clear hp hq F hcl hn hnq hcle hw0 hKB
 go_enter Tryz.func24,Tryz.ntmps24
 go_wp2_with fail
 with_reducible refine C1'.out.mono ?_
 rintro e w1 ⟨rfl,hx1⟩
 rw [← HW0.out] at hx1
 have HX01:=hid hx1
 have HX1:=hid (HX0.out.trans hx1)
 have C2':=hid (C2.out w1 HX1.out)
 clear hx1
 go_wp2_with fail
 with_reducible refine C2'.out.mono ?_
 rintro e w2 ⟨rfl,hx2⟩
 have HX2:=hid (HX1.out.trans hx2)
 have HX02:=hid (HX01.out.trans hx2)
 clear hx2
 have C3:=hid (z8l (S:=Old w2) (.agg #[.bool false,.slice none 0 0]) ⟨false,[]⟩ w2 ⟨_,rfl,U32s.nilv _ _ _ _ (by omega)⟩ (fun _ h => h) (by decide))
 obtain ⟨s0,hs0⟩:∃ s:Rat,s = ((valI ⟨false,[]⟩:Int):Rat):=⟨_,rfl⟩
 rw [← hs0] at C3
 have HS0:Hid (s0 = evQ (gM pts) (p.take 0)):=hid (by rw [hs0]; rfl)
 clear hs0
 go_wp2_with fail
 with_reducible refine C3.out.mono ?_
 rintro e w3 ⟨v3,rfl,⟨vn3,vd3,rfl,hn3,hd3⟩,hx3⟩
 have HX3:=hid (HX2.out.trans hx3)
 have HX03:=hid (HX02.out.trans hx3)
 have HX23:=hid hx3
 have HN3:=hid hn3
 have HD3:=hid hd3
 obtain ⟨a3,c3,rfl⟩:=hn3.form
 obtain ⟨a4,c4,rfl⟩:=hd3.form
 have HAC:Hid (AccAt W W.heap.size w3.heap.size (w3.alloc (.cells #[.bool (ofI s0.num).neg,.slice a3 (ofI s0.num).mag.length c3,.bool (ofI (s0.den:Int)).neg,.slice a4 (ofI (s0.den:Int)).mag.length c4] 32)) s0 a3 a4 c3 c4) :=
  hid (AccAt.new HX2.out HX23.out HN3.out HD3.out (.inl (Nat.lt_of_lt_of_le (HB0.out _ (Ext.refl _)).2.2.2.2.2 HX02.out.size)))
 have HXE:=hid (HX03.out.trans (Ext.alloc (Ext.refl w3) (.cells #[.bool (ofI s0.num).neg,.slice a3 (ofI s0.num).mag.length c3,.bool (ofI (s0.den:Int)).neg,.slice a4 (ofI (s0.den:Int)).mag.length c4] 32)))
 have HZ3:Hid (w0.heap.size ≤ w3.heap.size):=hid HX03.out.size
 clear hn3 hd3 hx3 C1 C1' C2 C2' C3 HW0 HX01 HX02 HX1 HX2 HX23 HN3 HD3 HSM
 go_wp2
 go_loopw [28] (fun i wr => ∃ (k:Nat) (s:Rat) (sa ad:Option Addr) (cs cd:Nat),k ≤ n ∧ i = .int .i64 (k:Nat) ∧ Hid (s = evQ (gM pts) (p.take k)) ∧ Hid (AccAt W W.heap.size w3.heap.size wr s sa ad cs cd) ∧ Hid (Box wr W.heap.size)) (fun i _ => n - (intOf i).toNat)
 case atStart => exact ⟨0,s0,a3,a4,c3,c4,Nat.zero_le _,rfl,HS0,HAC,hid (HB0.out _ HXE.out)⟩
 case round =>
  obtain ⟨k,s,sa,ad,cs,cd,hk,rfl,HSE,HA,HBX⟩:=hrel
  obtain ⟨wo,rfl⟩:∃ wo:World,wo = wr:=⟨_,rfl⟩
  obtain ⟨s0c,s1c,s2c,s3c,sf,-⟩:=HA.out.bo
  by_cases hlt:k < n
  ·obtain ⟨t,ht⟩:=z01 (l:=p) (j:=k) (by rw [← HN.out.1]; exact hlt)
   have HTE:=hid (zu9 (g:=gM pts) ht)
   have hmt:=List.mem_of_getElem? ht
   have hto:(ofP p)[k]? = some ⟨ofI t.1,t.2⟩:=by
    unfold ofP
    rw [List.getElem?_map,ht]
    rfl
   obtain ⟨b,off,vm,vo,rfl,-,hn1,hm1,hSb,h1,h2,h3,h4,h5⟩:=(HP.out.on HA.out.ex).cellAt hto
   obtain ⟨z,m⟩:=t
   simp only at h1 h2 h3 h4 h5 hmt HTE
   have HMM:=hid (HF.out.can.1 _ hmt)
   have HCM:=hid (zdo HF.out.can _ hmt)
   have HZL:=hid (HF.out.c _ hmt)
   have HEL:=hid (HF.out.e _ hmt)
   have HVL:=hid (HF.out.v _ hmt)
   have hxa:Ext wo (wo.alloc (.cells #[.bool (ofI z).neg,vm,vo] 50)):=Ext.alloc (Ext.refl wo) _
   have CW:=hid (z8l (S:=Old wo) (.agg #[.bool (ofI z).neg,vm]) (ofI z) (wo.alloc (.cells #[.bool (ofI z).neg,vm,vo] 50)) ⟨vm,rfl,h4.ext hxa (fun _ h => h)⟩ (fun k hk => Nat.lt_of_lt_of_le hk hxa.size) (by
    show lenZ z ≤ _
    have h8:=HKB.out
    have h9:lenZ z ≤ K:=HZL.out
    omega))
   rw [z0p] at CW
   have HPW:=hid h5
   have HXA:=hid hxa
   obtain ⟨am,cm,rfl⟩:=h4.form
   obtain ⟨ao,co,rfl⟩:=h5.form
   obtain ⟨nz,hnz⟩:∃ n,n = (ofI z).mag.length:=⟨_,rfl⟩
   obtain ⟨bz,hbz⟩:∃ n,n = (ofI z).neg:=⟨_,rfl⟩
   obtain ⟨nm,hnm⟩:∃ n,n = m.length:=⟨_,rfl⟩
   obtain ⟨x0,hx0⟩:∃ x:Rat,x = (z:Rat):=⟨_,rfl⟩
   rw [← hnz,← hbz,← hnm] at CW HXA
   rw [← hnz] at h2
   rw [← hbz] at h1
   rw [← hnm] at h3 HPW
   rw [← hx0] at CW
   have HMN:=hid hnm
   have HX0Z:=hid hx0
   have hmle:nm ≤ 1000000000:=by
    have h8:=HKB.out.1
    have h9:m.length ≤ V:=HVL.out
    have h10:V * 1 ≤ V * (E * 4 + 1):=Nat.mul_le_mul_left _ (by omega)
    omega
   clear ht hto hmt h4 h5 hxa hnz hbz hnm hx0 hSb
   go_wp2_with fail
   with_reducible refine CW.out.mono ?_
   rintro e w5 ⟨v5,rfl,⟨vn5,vd5,rfl,hn5,hd5⟩,hx5⟩
   have HX5:=hid (HXA.out.trans hx5)
   have HX5':=hid hx5
   have HN5:=hid hn5
   have HD5:=hid hd5
   obtain ⟨a5,c5,rfl⟩:=hn5.form
   obtain ⟨a6,c6,rfl⟩:=hd5.form
   have HAI:Hid (AccAt wo w5.heap.size w5.heap.size (w5.alloc (.cells #[.bool (ofI x0.num).neg,.slice a5 (ofI x0.num).mag.length c5,.bool (ofI (x0.den:Int)).neg,.slice a6 (ofI (x0.den:Int)).mag.length c6] 32)) x0 a5 a6 c5 c6) :=
    hid (AccAt.new HXA.out HX5'.out HN5.out HD5.out (.inr rfl))
   have k2:=(hx5.trans (Ext.alloc (Ext.refl w5) (.cells #[.bool (ofI x0.num).neg,.slice a5 (ofI x0.num).mag.length c5,.bool (ofI (x0.den:Int)).neg,.slice a6 (ofI (x0.den:Int)).mag.length c6] 32))).new_cell (i:=2) rfl
   have HX0I:Hid (x0 = (z:Rat) * gM pts (m.take 0)):=hid (by rw [HX0Z.out]; exact (Rat.mul_one _).symm)
   clear hn5 hd5 hx5 h1 h2 h3 CW
   go_wp2
   go_loopw [38] (fun j wi => ∃ (i:Nat) (x:Rat) (ax ay:Option Addr) (cx cy:Nat),i ≤ nm ∧ j = .int .i64 (i:Nat) ∧ Hid (x = (z:Rat) * gM pts (m.take i)) ∧ Hid (AccAt wo w5.heap.size w5.heap.size wi x ax ay cx cy)) (fun j _ => nm - (intOf j).toNat)
   case atStart => exact ⟨0,x0,a5,a6,c5,c6,Nat.zero_le _,rfl,HX0I,HAI⟩
   case round =>
    obtain ⟨i,x,ax,ay,cx,cy,hi,rfl,HXE',HI⟩:=hrel
    clear k2 s0c s1c s2c s3c sf
    by_cases hil:i < nm
    ·obtain ⟨y,hy⟩:=z01 (l:=m) (j:=i) (by rw [← HMN.out]; exact hil)
     obtain ⟨bm,om,rfl,-,hm2,hm3,-,-,g1,g2⟩:=(HPW.out.ext HI.out.ex (fun _ h => h)).cellAt hy
     have hym:=List.mem_of_getElem? hy
     have hyv:=zqo HMM.out.2 y hym
     have hye:=HEL.out y hym
     have HGT:=hid (zxl (pts:=pts) hy)
     obtain ⟨v,e⟩:=y
     simp only at g1 g2 hyv hye HGT
     obtain ⟨en,rfl⟩:∃ en:Nat,e = (en:Int):=⟨e.toNat,by omega⟩
     have hvq:v ≤ (nq:Int):=by
      have h8:=HF.out.cls
      have h9:z1j m ≤ z0t p:=HCM.out
      have h10:=HN.out.2.1
      omega
     obtain ⟨u,hu⟩:∃ u:Nat,(u:Int) = v - 1:=⟨(v - 1).toNat,by omega⟩
     obtain ⟨r,hr⟩:=z01 (l:=pts) (j:=u) (by rw [← HN.out.2.1]; omega)
     have HRL:=hid (HF.out.r r (List.mem_of_getElem? hr))
     have HPQ:Hid (powQ pts (v,(en:Int)) = putQ (valI r.1) (valI r.2) ^ en):=hid (by
      unfold powQ ptq
      simp only [Int.toNat_natCast]
      have e1:(v - 1).toNat = u:=by omega
      rw [e1,hr])
     have HXD:=hid (show Ext wr (wr.alloc (.cells #[.int .i64 v,.int .i64 (en:Int)] 52)).drew from Ext.drew (Ext.alloc (Ext.refl wr) _))
     obtain ⟨bq,oq,vqn,vqd,rfl,hq1,hq2,-,q0,q1,q2,q3,q4,q5⟩:=(HQ.out.on ((HA.out.ex.trans HI.out.ex).trans HXD.out)).cellAt hr
     have CP:=hid (fun (Y:World) (hY:Ext (wr.alloc (.cells #[.int .i64 v,.int .i64 (en:Int)] 52)).drew Y) => zij (S:=Old Y) (.agg #[.bool r.1.neg,vqn,.bool r.2.neg,vqd]) r.1 r.2 en 4 Y ⟨_,_,rfl,u_on q4 hY,u_on q5 hY⟩ (fun _ h => h) (by have:=HRL.out; omega) (by have:=HRL.out; omega) (by have:=HF.out.e1; omega) (by have:=HF.out.e1; omega))
     rw [← HPQ.out] at CP
     obtain ⟨f,hf⟩:∃ f,f = powQ pts (v,(en:Int)):=⟨_,rfl⟩
     rw [← hf] at CP HGT
     have HFS:Hid (Sz 1000000000 f ∧ Sz 1000000000 x):=hid (by
      have b1:=HF.out.b
      have b2:=HKB.out.1
      have b3:=HF.out.e1
      constructor
      ·rw [hf]
       exact ((HPT.out v).pow _).mono (by simp only [Int.toNat_natCast]; omega)
      ·rw [HXE'.out]
       have b4:=zxo HPT.out (E:=E) (m:=m.take i) (fun y hy => HEL.out y (List.mem_of_mem_take hy))
       refine ((zqn HZL.out HF.out.k1).mul b4).mono ?_
       have b5:(m.take i).length * (E * 4 + 1) ≤ V * (E * 4 + 1):=Nat.mul_le_mul_right _ (Nat.le_trans (by rw [List.length_take]; exact Nat.min_le_right _ _) HVL.out)
       omega)
     obtain ⟨an,cn,rfl⟩:=q4.form
     obtain ⟨adn,cdn,rfl⟩:=q5.form
     obtain ⟨x0c,x1c,x2c,x3c,xf,-⟩:=HI.out.bo.ext HXD.out
     have hwr:IntKind.i64.wrap (v - 1) = (u:Int):=by
      rw [← hu]
      exact IntWalk.i64_in _ (by omega)
     have hu2:(u:Int) < (nq:Int):=by omega
     have HFE:=hid hf
     have hp0:(wr.alloc (.cells #[.int .i64 v,.int .i64 (en:Int)] 52)).drew.cell? ⟨wr.heap.size,0,none⟩ = some (.int .i64 v):=(Ext.drew (Ext.refl _)).new_cell rfl
     have hp1:(wr.alloc (.cells #[.int .i64 v,.int .i64 (en:Int)] 52)).drew.cell? ⟨wr.heap.size,1,none⟩ = some (.int .i64 (en:Int)):=(Ext.drew (Ext.refl _)).new_cell rfl
     clear hy hym hyv hye hvq hu hr hf xf q4 q5
     go_upto_block 4 with fail
     go_cut [] (fun wx => ∃ (x':Rat) (ax' ay':Option Addr) (cx' cy':Nat),Hid (x' = x * f) ∧ Hid (AccAt wo w5.heap.size w5.heap.size wx x' ax' ay' cx' cy'))
     case first =>
      go_wp2_with fail
      go_region_with (first
       | (go_at_call 56; (with_reducible refine (CP.out _ (Ext.refl _)).mono ?_); rintro e w6 ⟨v6,rfl,⟨vn6,vd6,rfl,hn6,hd6⟩,hx6⟩; have HX6:=hid (HXD.out.trans hx6); have hm6:=zci (S:=Old w6) _ _ _ _ _ _ w6 (HI.out.ext HX6.out).r ⟨_,_,rfl,z3s hn6,z3s hd6⟩ (fun _ h => h) HFS.out.2.1 HFS.out.2.2 HFS.out.1.1 HFS.out.1.2; rw [z0p,z0p,z0p,z0p,z55,z55] at hm6; obtain ⟨x',hx'⟩:∃ x',x' = x * f:=⟨_,rfl⟩; rw [← hx'] at hm6; have HXF:=hid hx'; have CM:=hid hm6; obtain ⟨y0c,y1c,y2c,y3c,yf,-⟩:=HI.out.bo.ext HX6.out; obtain ⟨a7,c7,rfl⟩:=hn6.form; obtain ⟨a8,c8,rfl⟩:=hd6.form; clear hn6 hd6 hx6 hm6 hx' yf)
       | (go_at_call 55; (with_reducible refine CM.out.mono ?_); rintro e w7 ⟨v7,rfl,⟨vn7,vd7,rfl,hn7,hd7⟩,hx7⟩; have HX7:=hid hx7; have HN7:=hid hn7; have HD7:=hid hd7; obtain ⟨z0c,z1c,z2c,z3c,zf,-⟩:=HI.out.bo.ext (HX6.out.trans hx7); have zf0:=zf 0; have zf1:=zf 1; have zf2:=zf 2; have zf3:=zf 3; obtain ⟨a9,c9,rfl⟩:=hn7.form; obtain ⟨a10,c10,rfl⟩:=hd7.form; clear hn7 hd7 hx7 zf)
       | fail)
      all_goals
       go_wp2_with fail
       go_meet
       exact ⟨_,_,_,_,_,HXF,hid ((HI.out.ext HX6.out).put HX7.out HN7.out HD7.out)⟩
     case rest =>
      obtain ⟨x',ax',ay',cx',cy',HXF,HI'⟩:=hcut
      clear g1 g2 q0 q1 q2 q3 x0c x1c x2c x3c hp0 hp1
      go_wp2
      go_roundw
      case rel => exact ⟨i + 1,x',ax',ay',cx',cy',by omega,by go_num,hid (by rw [HXF.out,HXE'.out,HGT.out,Rat.mul_assoc]),HI'⟩
      case measure => simp only [intOf]; omega
    ·obtain rfl:i = nm:=by omega
     have HXM:Hid (x = (z:Rat) * gM pts m):=hid (by rw [HXE'.out,List.take_of_length_le (by rw [← HMN.out]; exact Nat.le_refl _)])
     have HSZ:Hid (Sz 1000000000 s ∧ Sz 1000000000 x):=hid (by
      have b1:=HF.out.b
      have b2:=HKB.out.1
      constructor
      ·rw [HSE.out]
       have b4:=zvd HPT.out (K:=K) (E:=E) (V:=V) HF.out.k1 (p:=p.take k) (fun t ht => HF.out.c t (List.mem_of_mem_take ht)) (fun t ht => HF.out.e t (List.mem_of_mem_take ht)) (fun t ht => HF.out.v t (List.mem_of_mem_take ht))
       refine b4.mono (Nat.le_trans ?_ b1)
       have b5:(p.take k).length ≤ N:=Nat.le_trans (by rw [List.length_take]; exact Nat.min_le_right _ _) HF.out.n
       have b6:(p.take k).length * (K + V * (E * 4 + 1) + 2) ≤ N * (K + V * (E * 4 + 1) + 2):=Nat.mul_le_mul_right _ b5
       have b7:(K + V * (E * 4 + 1) + 2) * (N + 1) = N * (K + V * (E * 4 + 1) + 2) + (K + V * (E * 4 + 1) + 2):=by rw [Nat.mul_add,Nat.mul_one,Nat.mul_comm]
       omega
      ·rw [HXM.out]
       have b4:=zxo HPT.out (E:=E) (m:=m) (fun y hy => HEL.out y hy)
       refine ((zqn HZL.out HF.out.k1).mul b4).mono ?_
       have b5:m.length * (E * 4 + 1) ≤ V * (E * 4 + 1):=Nat.mul_le_mul_right _ HVL.out
       omega)
     have HAW:=hid (HA.out.ext HI.out.ex)
     have hm6:=zqi (S:=Old wr) _ _ _ _ _ _ wr HAW.out.r HI.out.r (fun _ h => h) HSZ.out.1.1 HSZ.out.1.2 HSZ.out.2.1 HSZ.out.2.2
     rw [z0p,z0p,z0p,z0p,z55,z55] at hm6
     obtain ⟨s',hs'⟩:∃ s',s' = s + x:=⟨_,rfl⟩
     rw [← hs'] at hm6
     have HSS:=hid hs'
     have CA:=hid hm6
     obtain ⟨x0c,x1c,x2c,x3c,xf,-⟩:=HI.out.bo
     obtain ⟨t0c,t1c,t2c,t3c,tf,-⟩:=HAW.out.bo
     clear hm6 hs' xf tf
     go_wp2_with fail
     with_reducible refine CA.out.mono ?_
     rintro e w8 ⟨v8,rfl,⟨vn8,vd8,rfl,hn8,hd8⟩,hx8⟩
     have HX8:=hid hx8
     have HN8:=hid hn8
     have HD8:=hid hd8
     obtain ⟨a8,c8,rfl⟩:=hn8.form
     obtain ⟨a9,c9,rfl⟩:=hd8.form
     obtain ⟨z0c,z1c,z2c,z3c,zf,-⟩:=HAW.out.bo.ext hx8
     have zf0:=zf 0
     have zf1:=zf 1
     have zf2:=zf 2
     have zf3:=zf 3
     clear hn8 hd8 hx8 zf x0c x1c x2c x3c t0c t1c t2c t3c
     go_wp2
     go_roundw
     case rel =>
      refine ⟨k + 1,s',a8,a9,c8,c9,by omega,by go_num,hid (by rw [HSS.out,HSE.out,HXM.out,HTE.out]),hid (HAW.out.put HX8.out HN8.out HD8.out),hid ((z25 (z25 HBX.out HI.out.ex) HX8.out).far (fun e => ?_) _ _ _ _)⟩
      have h1:=(HB0.out _ (Ext.refl _)).2.2.2.2.2
      have h2:=HZ3.out
      omega
     case measure => simp only [intOf]; omega
  ·obtain rfl:k = n:=by omega
   have HSN:Hid (s = evQ (gM pts) p):=hid (by rw [HSE.out,List.take_of_length_le (by rw [← HN.out.1]; exact Nat.le_refl _)])
   obtain ⟨y0c,y1c,y2c,y3c,yf,-⟩:=HBX.out
   have f0:=yf 0
   have f1:=yf 1
   have f2:=yf 2
   have f3:=yf 3
   clear yf sf
   go_wp2
   all_goals
    have hb:=HBX.out
    have hd4:=fun x y z t => z34 x y z t hb.1 hb.2.1 hb.2.2.1 hb.2.2.2.1
    refine bodyPost_ret (by simp [results,Tryz.results24,go_sem,(hd4 _ _ _ _).1,(hd4 _ _ _ _).2.1,(hd4 _ _ _ _).2.2.1,(hd4 _ _ _ _).2.2.2]; rfl) rfl ?_
    refine ⟨_,rfl,?_,z24 HA.out.ex (Nat.le_refl _) _ _ _ _⟩
    rw [← HSN.out]
    exact ⟨_,_,rfl,(z5q HA.out.o1 (.inl rfl) _ _ _ _).to (Kept.refl _ _) (fun k h => ⟨h.1,h.2.1⟩),(z5q HA.out.o2 (.inl rfl) _ _ _ _).to (Kept.refl _ _) (fun k h => ⟨h.1,h.2.1⟩)⟩
theorem zik {W:World} {vp vq:Value} {p:PZ} {pts:List (RInt × RInt)} (hp:z06 (Old W) W vp (ofP p)) (hq:Rats (Old W) W vq pts) (hc:canP p) (hs:z3r (ofP p)) (hcl:(pts.length:Int) < z0t p) :
  Calls Tryz.prog 24 #[vp,vq] W fun e w' => ∃ v',e = .returned (.tuple #[v',.int .i64 5]) ∧ v' = .agg #[.bool false,.slice none 0 0,.bool false,.slice none 0 0] ∧ Ext W w':=by
 have hnot:∀ (x:Bool) (w:World),(Op.unary .not (.bool x)).run Tryz.prog w = .ok (.bool (!x)) w:=fun _ _ => rfl
 have HP:=hid hp
 have C1:=hid (fun (Y:World) (hY:Ext W Y) => z4i (S:=Old W) vp (ofP p) Y (HP.out.ext hY (fun _ h => h)) (fun _ h => Nat.lt_of_lt_of_le h hY.size) hs)
 have C2:=hid (fun (Y:World) (hY:Ext W Y) => z5x (S:=Old W) vp (ofP p) Y (HP.out.ext hY (fun _ h => h)) (fun _ h => Nat.lt_of_lt_of_le h hY.size) hs)
 rw [z7d hc] at C1
 rw [z7p hc] at C2
 have hnl:=hp.len_le
 have hql:=hq.len_le
 obtain ⟨ap,cp,rfl⟩:=hp.form
 obtain ⟨aq,cq,rfl⟩:=hq.form
 obtain ⟨cl,hcle⟩:∃ c,c = z0t p:=⟨_,rfl⟩
 rw [← hcle] at C2 hcl
 obtain ⟨n,hn⟩:∃ n,n = (ofP p).length:=⟨_,rfl⟩
 obtain ⟨nq,hnq⟩:∃ n,n = pts.length:=⟨_,rfl⟩
 rw [← hn] at HP C1 C2 hnl ⊢
 rw [← hnq] at hcl hql ⊢
 have hdc:decide ((nq:Int) < cl) = true:=decide_eq_true hcl
 obtain ⟨w0,hw0⟩:∃ Y,Y = W.alloc (.cells #[.bool false,.slice none 0 0,.bool false,.slice none 0 0] 32):=⟨_,rfl⟩
 have HX0:Hid (Ext W w0):=hid (by rw [hw0]; exact Ext.alloc (Ext.refl _) _)
 have HB0:=hid (fun (Y:World) (hY:Ext w0 Y) => z54 (w:=W) (W:=Y) (T:=32) (by rw [← hw0]; exact hY))
 have C1':=hid (C1.out w0 HX0.out)
 rw [hw0] at C1'
 have HW0:=hid hw0
 clear hp hq hcl hn hnq hcle hw0
 go_enter Tryz.func24,Tryz.ntmps24
 go_wp2_with fail
 with_reducible refine C1'.out.mono ?_
 rintro e w1 ⟨rfl,hx1⟩
 rw [← HW0.out] at hx1
 have HX01:=hid hx1
 have HX1:=hid (HX0.out.trans hx1)
 have C2':=hid (C2.out w1 HX1.out)
 clear hx1
 go_wp2_with fail
 with_reducible refine C2'.out.mono ?_
 rintro e w2 ⟨rfl,hx2⟩
 have HX2:=hid (HX1.out.trans hx2)
 have HBX:=hid (HB0.out _ (HX01.out.trans hx2))
 obtain ⟨y0c,y1c,y2c,y3c,yf,-⟩:=HBX.out
 have f0:=yf 0
 have f1:=yf 1
 have f2:=yf 2
 have f3:=yf 3
 clear hx2 yf
 go_wp2
 all_goals
  have hb:=HBX.out
  have hd4:=fun x y z t => z34 x y z t hb.1 hb.2.1 hb.2.2.1 hb.2.2.2.1
  refine bodyPost_ret (by simp [results,Tryz.results24,go_sem,(hd4 _ _ _ _).1,(hd4 _ _ _ _).2.1,(hd4 _ _ _ _).2.2.1,(hd4 _ _ _ _).2.2.2]; rfl) rfl ?_
  exact ⟨_,rfl,rfl,z24 HX2.out (Nat.le_refl _) _ _ _ _⟩
end
section
open Go.RowKit Go.Deep
theorem zz5 {m:Mono}:∀ {l:Int},z0a l m = true → ∀ y ∈ m,ex m y.1 = y.2:=by
 induction m with
 | nil => exact fun _ y hy => by cases hy
 | cons x r ih =>
  intro l h y hy
  simp only [z0a,Bool.and_eq_true,decide_eq_true_eq] at h
  rcases List.mem_cons.1 hy with rfl | hy
  ·rw [ex,if_pos rfl]
  ·have h1:=(zqo h.2 y hy).1
   rw [ex,if_neg (by omega)]
   exact ih h.2 y hy
theorem zxp {m:Mono}:∀ {l:Int},0 ≤ l → z0a l m = true → (m.length:Int) + l ≤ max l (z1j m):=by
 induction m with
 | nil => intro l hl _; simp; omega
 | cons x r ih =>
  intro l hl h
  have hc:=z5b h (by simp)
  simp only [z0a,Bool.and_eq_true,decide_eq_true_eq] at h
  have h1:=ih (l:=x.1) (by omega) h.2
  rw [List.length_cons]
  cases r with
  | nil =>
   have e:z1j [x] = x.1:=rfl
   rw [e] at hc ⊢
   simp
   omega
  | cons y r =>
   rw [z4v] at hc ⊢
   have h2:=z5b h.2 (by simp)
   simp only [List.length_cons] at h1 ⊢
   omega
structure PtFit (pts:List (RInt × RInt)):Prop where
 n:pts.length ≤ 6
 r:∀ x ∈ pts,x.1.mag.length ≤ 3 ∧ x.2.mag.length ≤ 3
theorem zz6 {pts:List (RInt × RInt)} {p:PZ} (P:PtFit pts) (h:Fit 50 100000 p) (he:exB 52 p) (hc:z0t p ≤ pts.length):AtFit pts p 50 52 6 100000:=by
 refine ⟨h.can,hc,fun t ht => ?_,fun t ht y hy => ?_,fun t ht => ?_,h.2.2,P.r,by decide,by decide,by decide⟩
 ·exact z50 (h.2.1 t ht)
 ·rw [← zz5 (h.can.1 t ht).2 y hy]
  exact he t ht _
 ·have h1:=zxp (Int.le_refl 0) (h.can.1 t ht).2
  have h2:=zdo h.can t ht
  have h3:=P.n
  have h4:=(z89 (h.can.1 t ht).2).1
  omega
def sgE (pts:List (RInt × RInt)) (p:PZ):Int × Int:=if z0t p ≤ pts.length then (z1l (evQ (gM pts) p).num,0) else (0,5)
theorem z81 {W:World} {vp vq:Value} {p:PZ} {pts:List (RInt × RInt)} (hp:z06 (Old W) W vp (ofP p)) (hq:Rats (Old W) W vq pts) (P:PtFit pts) (h:Fit 50 100000 p) (he:exB 52 p) :
  Calls Tryz.prog 8 #[vp,vq] W fun e w' => e = .returned (.tuple #[.int .i64 (sgE pts p).1,.int .i64 (sgE pts p).2]) ∧ Ext W w':=by
 by_cases hc:z0t p ≤ pts.length
 ·have F:=zz6 P h he hc
  have hsz:=zvd (zvc hq.lt F.r) F.k1 F.c F.e F.v
  obtain ⟨s,hs⟩:∃ s,s = evQ (gM pts) p:=⟨_,rfl⟩
  have CA:=hid (zub hp hq F)
  have e1:sgE pts p = (z1l s.num,0):=by
   unfold sgE
   rw [if_pos hc,hs]
  rw [e1]
  rw [← hs] at CA hsz
  have HSZ:Hid (Sz 1000000000 s):=hid (hsz.mono (by
   have h1:p.length * (50 + 6 * (52 * 4 + 1) + 2) ≤ 100000 * (50 + 6 * (52 * 4 + 1) + 2):=Nat.mul_le_mul_right _ F.n
   omega))
  obtain ⟨ap,cp,rfl⟩:=hp.form
  obtain ⟨aq,cq,rfl⟩:=hq.form
  obtain ⟨n,hn⟩:∃ n,n = (ofP p).length:=⟨_,rfl⟩
  obtain ⟨nq,hnq⟩:∃ n,n = pts.length:=⟨_,rfl⟩
  rw [← hn,← hnq] at CA
  rw [← hn,← hnq]
  clear hp hq F hsz hs e1 hn hnq hc P h he
  go_enter Tryz.func8,Tryz.ntmps8
  go_wp2_with fail
  with_reducible refine CA.out.mono ?_
  rintro e w1 ⟨v1,rfl,⟨vn1,vd1,rfl,hn1,hd1⟩,hx1⟩
  have HX1:=hid hx1
  have hxa:=fun C => Ext.alloc (Ext.refl w1) C
  have CS:=hid (fun C => zm6 (S:=New W w1) (.agg #[.bool (ofI s.num).neg,vn1,.bool (ofI (s.den:Int)).neg,vd1]) (ofI s.num) (ofI (s.den:Int)) (w1.alloc C) ⟨_,_,rfl,hn1.ext (hxa C) New.lt,hd1.ext (hxa C) New.lt⟩ (fun k hk => Nat.lt_of_lt_of_le hk.2 (hxa C).size) (Nat.le_trans HSZ.out.1 (by decide)) (Nat.le_trans HSZ.out.2 (by decide)))
  rw [z0p,z0p,z55] at CS
  obtain ⟨a1,c1,rfl⟩:=hn1.form
  obtain ⟨a2,c2,rfl⟩:=hd1.form
  clear hn1 hd1 hx1 hxa
  go_wp2_with fail
  with_reducible refine (CS.out _).mono ?_
  rintro e w2 ⟨rfl,hx2⟩
  have HX2:=hid (HX1.out.trans ((Ext.alloc (Ext.refl w1) _).trans hx2))
  clear hx2
  go_wp2
  all_goals
   go_ret2
   exact ⟨rfl,HX2.out⟩
 ·have hs:z3r (ofP p):=h.small (by decide)
  have CA:=hid (zik hp hq h.can hs (by omega))
  have e1:sgE pts p = (0,5):=by
   unfold sgE
   rw [if_neg hc]
  rw [e1]
  obtain ⟨ap,cp,rfl⟩:=hp.form
  obtain ⟨aq,cq,rfl⟩:=hq.form
  obtain ⟨n,hn⟩:∃ n,n = (ofP p).length:=⟨_,rfl⟩
  obtain ⟨nq,hnq⟩:∃ n,n = pts.length:=⟨_,rfl⟩
  rw [← hn,← hnq] at CA
  rw [← hn,← hnq]
  clear hp hq e1 hn hnq hc P h he hs
  go_enter Tryz.func8,Tryz.ntmps8
  go_wp2_with fail
  with_reducible refine CA.out.mono ?_
  rintro e w1 ⟨v1,rfl,rfl,hx1⟩
  have HX1:=hid (hx1.trans (Ext.alloc (Ext.refl w1) (.cells #[.bool false,.slice none 0 0,.bool false,.slice none 0 0] 32)))
  clear hx1
  go_wp2
  all_goals
   go_ret2
   exact ⟨rfl,HX1.out⟩
end
section
def nrm:PZ → Nat
 | [] => 0
 | t :: r => t.1.natAbs + nrm r
theorem z9x (p q:PZ):nrm (p ++ q) = nrm p + nrm q:=by
 induction p with
 | nil => simp [nrm]
 | cons t r ih => rw [List.cons_append,nrm,nrm,ih]; omega
theorem zxq {p:PZ} {t:Int × Mono} (h:t ∈ p):t.1.natAbs ≤ nrm p:=by
 induction p with
 | nil => simp at h
 | cons u r ih =>
  rw [nrm]
  rcases List.mem_cons.1 h with rfl | h
  ·omega
  ·have:=ih h; omega
theorem zuc (p:PZ):nrm (negP p) = nrm p:=by
 induction p with
 | nil => rfl
 | cons t r ih =>
  show (-t.1).natAbs + nrm (negP r) = _
  rw [ih,nrm,Int.natAbs_neg]
theorem zud (p:PZ) (c:Int) (m:Mono):nrm (putP p c m) ≤ nrm p + c.natAbs:=by
 induction p with
 | nil =>
  simp only [putP]
  split
  ·simp [nrm]
  ·simp [nrm]
 | cons t r ih =>
  simp only [putP]
  split
  ·simp only [nrm]; omega
  ·split
   ·split
    ·simp only [nrm]; omega
    ·simp only [nrm]; have:=Int.natAbs_add_le c t.1; omega
   ·split
    ·simp only [nrm]; omega
    ·simp only [nrm]; omega
theorem zue (p l:PZ):nrm (addP p l) ≤ nrm p + nrm l:=by
 unfold addP
 induction l generalizing p with
 | nil => simp [nrm]
 | cons t r ih =>
  rw [List.foldl_cons]
  have h1:=ih (putP p t.1 t.2)
  have h2:=zud p t.1 t.2
  simp only [nrm]
  omega
theorem zcm (l:PZ):nrm (z1t l) ≤ nrm l:=by
 have h:=zue [] l
 rw [show nrm [] = 0 from rfl,Nat.zero_add] at h
 exact h
theorem zqp (c:Int) (m:Mono) (q:PZ):nrm (q.map fun u => (c * u.1,z0m m u.2)) = c.natAbs * nrm q:=by
 induction q with
 | nil => simp [nrm]
 | cons t r ih => rw [List.map_cons,nrm,nrm,ih,Int.natAbs_mul,Nat.mul_add]
theorem zuf (p q:PZ):nrm (mulL p q) = nrm p * nrm q:=by
 unfold mulL
 induction p with
 | nil => simp [nrm]
 | cons t r ih => rw [List.flatMap_cons,z9x,ih,zqp,nrm,Nat.add_mul]
theorem zf6 {f:Int × Mono → Option (Int × Mono)} (hf:∀ t u,f t = some u → u.1 = t.1) (p:PZ):nrm (p.filterMap f) ≤ nrm p:=by
 induction p with
 | nil => simp [nrm]
 | cons t r ih =>
  rw [List.filterMap_cons]
  cases h:f t with
  | none => simp only [nrm]; omega
  | some u => simp only [nrm]; rw [hf t u h]; omega
theorem zf7 (p:PZ) (v e:Int):nrm (z3b p v e) ≤ nrm p:=zf6 (fun t u h => by
 unfold zbu at h
 split at h
 ·cases h; rfl
 ·cases h) p
theorem zug (p:PZ):nrm (z1w p) ≤ nrm p:=by
 unfold z1w
 split
 ·exact Nat.le_refl _
 ·exact zf7 _ _ _
theorem z65 {p q c:PZ} (hp:z0k p) (hq:z0k q) (h:z0g p q = some c):nrm c ≤ nrm p * nrm q:=by
 obtain ⟨-,rfl⟩:=z3w hp hq h
 exact Nat.le_trans (zcm _) (Nat.le_of_eq (zuf p q))
theorem zxr (v:Int) (i:Nat):nrm (powP v i) = 1:=by
 unfold powP
 split <;> rfl
theorem zcn {p:PZ} {k n:Nat} (hc:canP p) (h:nrm p < B32 ^ k) (hn:p.length ≤ n):Fit k n p:=⟨hc,fun _ ht => Nat.lt_of_le_of_lt (zxq ht) h,hn⟩
theorem zxs {p:PZ} {k n:Nat} (h:Fit k n p):nrm p ≤ n * B32 ^ k:=by
 obtain ⟨-,hb,hl⟩:=h
 refine Nat.le_trans ?_ (Nat.mul_le_mul_right _ hl)
 clear hl
 induction p with
 | nil => simp [nrm]
 | cons t r ih =>
  have h1:=ih (fun u hu => hb u (by simp [hu]))
  have h2:=hb t (by simp)
  rw [nrm,List.length_cons,Nat.succ_mul]
  omega
theorem zuh {h:PZ} (ch:canP h):∀ {n:Nat} {P:PZ},powN h n = some P → canP P:=by
 intro n
 induction n with
 | zero =>
  intro P hP
  rw [powN] at hP
  obtain rfl:=Option.some.inj hP
  exact z7v
 | succ n ih =>
  intro P hP
  rw [powN] at hP
  cases hq:powN h n with
  | none => rw [hq] at hP; cases hP
  | some Q =>
   rw [hq] at hP
   exact z35 (ih hq) ch hP
theorem zui {h:PZ} {G:Nat} (ch:canP h) (hG:nrm h ≤ G):∀ (n:Nat) (P:PZ),powN h n = some P → nrm P ≤ G ^ n:=by
 intro n
 induction n with
 | zero =>
  intro P hP
  rw [powN] at hP
  obtain rfl:=Option.some.inj hP
  exact Nat.le_refl _
 | succ n ih =>
  intro P hP
  rw [powN] at hP
  cases hq:powN h n with
  | none => rw [hq] at hP; cases hP
  | some Q =>
   rw [hq] at hP
   have h1:=ih Q hq
   have cQ:=zuh ch hq
   have h2:=z65 cQ.may ch.may hP
   rw [Nat.pow_succ]
   exact Nat.le_trans h2 (Nat.mul_le_mul h1 hG)
section
variable {g h q r:PZ} {v d:Int} {x:PZ × PZ} {keep:Bool} {G Q R:Nat}
theorem zuj {t:PZ} (hr:canP r) (hv:1 ≤ v ∧ v ≤ 200) (hd:0 ≤ d) (ht:z5o r v d = some t):nrm t ≤ nrm r:=by
 have hrg:=z18 hr.may v
 have h1:=z65 (z2h hr v _).may (zc7 hv (i:=(degP r v - d).toNat) (by omega)).may ht
 rw [zxr,Nat.mul_one] at h1
 exact Nat.le_trans h1 (zf7 _ _ _)
theorem zuk (hg:canP g) (hh:canP h) (hq:canP q) (hr:canP r) (hv:1 ≤ v ∧ v ≤ 200) (hd:0 ≤ d) (hs:z4m keep g h v d q r = some x) (ng:nrm g ≤ G) (nh:nrm h ≤ G) (nq:nrm q ≤ Q) (nr:nrm r ≤ R) :
  nrm x.1 ≤ G * Q + R ∧ nrm x.2 ≤ 2 * G * R:=by
 obtain ⟨t,l,m,ht,hl,hm,e2,e3,e4⟩:=z62 hs
 have ct:=zc8 hr hv hd ht
 have n1:=Nat.le_trans (zuj hr hv hd ht) nr
 have n2:nrm l ≤ R * G:=Nat.le_trans (z65 ct.may hg.may hl) (Nat.mul_le_mul n1 ng)
 have n3:nrm m ≤ G * R:=Nat.le_trans (z65 hh.may hr.may hm) (Nat.mul_le_mul nh nr)
 refine ⟨?_,?_⟩
 ·cases keep with
  | false => rw [e3 rfl]; exact Nat.zero_le _
  | true =>
   obtain ⟨u,hu,e⟩:=e4 rfl
   have n4:nrm u ≤ G * Q:=Nat.le_trans (z65 hh.may hq.may hu) (Nat.mul_le_mul nh nq)
   rw [e]
   refine Nat.le_trans (zcm _) ?_
   rw [z9x]
   omega
 ·rw [e2]
  refine Nat.le_trans (zcm _) ?_
  rw [z9x,zuc,Nat.mul_assoc]
  rw [Nat.mul_comm R G] at n2
  omega
end
end
end Go.Proofs.YtdcijfhkfhhfjaaGreat
