/- The document's whole numbers: sums. The document: which polynomials may be. The document: out of terms, sums, a number, a variable, too great. The document: a polynomial as data. The document: a number, a variable, as polynomials. What the law knows. The document: the other sign, the difference. Coefficients, initial, tail and derivative of polynomials. Plain. -/
import Derived.Test.YthdcaablomgboaaGreatRs3
set_option maxRecDepth 100000
set_option maxHeartbeats 16000000
namespace Go.Proofs.YthdcaablomgboaaGreat
section
open Go.RowKit
theorem zr3 {x y : Int} (h : decide (x < 0) = decide (y < 0)) : x + y = sg (decide (x < 0)) (x.natAbs + y.natAbs) := by
 unfold sg
 rw [decide_eq_decide] at h
 by_cases hx : x < 0
 ·have hy := h.1 hx
  rw [decide_eq_true hx, if_pos rfl]
  omega
 ·have hy : ¬ y < 0 := fun e => hx (h.2 e)
  rw [decide_eq_false hx, if_neg (by simp)]
  omega
theorem ztn {x y : Int} (h : ¬ decide (x < 0) = decide (y < 0)) (hge : y.natAbs ≤ x.natAbs) : x + y = sg (decide (x < 0)) (x.natAbs - y.natAbs) := by
 unfold sg
 rw [decide_eq_decide] at h
 by_cases hx : x < 0
 ·rw [decide_eq_true hx, if_pos rfl]
  omega
 ·rw [decide_eq_false hx, if_neg (by simp)]
  omega
theorem zwt {x y : Int} (h : ¬ decide (x < 0) = decide (y < 0)) (hlt : x.natAbs < y.natAbs) : x + y = sg (decide (y < 0)) (y.natAbs - x.natAbs) := by
 rw [Int.add_comm]
 exact ztn (fun e => h e.symm) (Nat.le_of_lt hlt)
theorem zn9 {x y : Int} (_h : decide (x < 0) = decide (y < 0)) : (decide (x < 0) && decide (0 < x.natAbs + y.natAbs)) = decide (x < 0) := by
 by_cases hx : x < 0
 ·have : 0 < x.natAbs + y.natAbs := by omega
  simp [hx, this]
 ·simp [hx]
theorem zfd {S : Nat → Prop} (vx vy : Value) (x y : Int) (w : World) (hx : ZV S w vx x) (hy : ZV S w vy y) (hS : ∀ k, S k → k < w.heap.size) (hrx : szZ x) (hry : szZ y) (hs : decide (x < 0) = decide (y < 0)) :
  Calls Tryz.prog 122 #[vx, vy] w fun e w' => ∃ v', e = .returned v' ∧ ZV (New w w') w' v' (x + y) ∧ Ext w w' := by
 obtain ⟨vdx, rfl, hdx⟩ := hx
 obtain ⟨vdy, rfl, hdy⟩ := hy
 have HX := hid hdx
 have HY := hid hdy
 obtain ⟨ax, cx, rfl⟩ := hdx.form
 obtain ⟨ay, cy, rfl⟩ := hdy.form
 rw [zr3 hs]
 have hsg := zn9 hs
 obtain ⟨n, hn⟩ : ∃ n, n = x.natAbs + y.natAbs := ⟨_, rfl⟩
 obtain ⟨bx, hbx⟩ : ∃ b, b = decide (x < 0) := ⟨_, rfl⟩
 obtain ⟨nx, hnx⟩ : ∃ n, n = (rep 10 x.natAbs).length := ⟨_, rfl⟩
 obtain ⟨ny, hny⟩ : ∃ n, n = (rep 10 y.natAbs).length := ⟨_, rfl⟩
 have HL : Hid ((rep 10 x.natAbs).length ≤ 10000000 ∧ (rep 10 y.natAbs).length ≤ 10000000) := hid ⟨Nat.le_trans hrx (by decide), Nat.le_trans hry (by decide)⟩
 rw [← hs, ← hn, ← hbx, ← hnx, ← hny]
 rw [← hn, ← hbx] at hsg
 have HSG := hid hsg
 have HN := hid hn
 have HNX := hid hnx
 have HNY := hid hny
 have hb : (bx == bx) = true := by simp
 have HK := hid (Ext.alloc (Ext.alloc (Ext.alloc (Ext.refl w) (.cells #[.bool bx, .slice ax nx cx] 139)) (.cells #[.bool bx, .slice ay ny cy] 139)) (.cells #[.bool false, .slice none 0 0] 139))
 have HSZ : Hid (w.heap.size + 1 + 1 < (((w.alloc (.cells #[.bool bx, .slice ax nx cx] 139)).alloc (.cells #[.bool bx, .slice ay ny cy] 139)).alloc (.cells #[.bool false, .slice none 0 0] 139)).heap.size) := hid (by simp)
 have x0 := (Ext.refl (((w.alloc (.cells #[.bool bx, .slice ax nx cx] 139)).alloc (.cells #[.bool bx, .slice ay ny cy] 139)).alloc (.cells #[.bool false, .slice none 0 0] 139))).drew
 have HX0 := hid x0
 have hc := zuj _ _ (rep 10 x.natAbs) (rep 10 y.natAbs) _ (HX.out.ext (HK.out.trans x0) hS) (HY.out.ext (HK.out.trans x0) hS) (z08 hS (HK.out.trans x0)) HL.out.1 HL.out.2
 rw [z1a z0g, z1a z0g, ← hn, ← hnx, ← hny] at hc
 have HC := hid hc
 have S0 : _ ∧ _ ∧ _ := And.intro (old4 x0).1 (And.intro (old4 x0).2.1 (old4 x0).2.2.2)
 have HS0 := hid S0
 clear hdx hdy hn hbx hnx hny hrx hry hs hsg hc x0 S0
 go_enter Tryz.func122, Tryz.ntmps122
 go_wp2
 have S0 := HS0.out
 go_region_held3 (fun W => W.cell? ⟨w.heap.size, 0, none⟩ = some (.bool bx) ∧ W.cell? ⟨w.heap.size, 1, none⟩ = some (.slice ax nx cx) ∧ W.cell? ⟨w.heap.size + 1, 1, none⟩ = some (.slice ay ny cy)) (first | exact S0 | exact S1 | exact ⟨z0b (z0b S1.1 (ab (by omega))) (ab (by omega)), z0b (z0b S1.2.1 (ab (by omega))) (ab (by omega)), z0b (z0b S1.2.2 (ab (by omega))) (ab (by omega))⟩)
  (first
   | (go_at_call 120; (with_reducible refine HC.out.mono ?_); rintro e w1 ⟨v1, rfl, hd, hxx⟩; have S1 := And.intro (hxx.cell S0.1) (And.intro (hxx.cell S0.2.1) (hxx.cell S0.2.2)); obtain ⟨r0, r1, f0, f1⟩ := zr2 (HX0.out.trans hxx); have HE := hid (And.intro r0 r1); have HXX := hid hxx; have HD := hid hd; obtain ⟨a1, n1, rfl⟩ := hd.form; clear hd hxx))
 go_wp2
 have hd := fun x y => z1o x y HE.out.1 HE.out.2
 refine bodyPost_ret (by simp [results, Tryz.results122, go_sem, (hd _ _).1, (hd _ _).2]; rfl) rfl ?_
 have hz := zkp (b := bx) HD.out
 rw [HSG.out] at hz
 have hg := fun x y => z5c (w0 := w) (b := w.heap.size + 1 + 1) hz (HK.out.trans HX0.out) HXX.out (by omega) (Nat.lt_of_lt_of_le HSZ.out HX0.out.size) x y
 exact ⟨_, rfl, (hg _ _).1, (hg _ _).2⟩
theorem zkq {S : Nat → Prop} (vx vy : Value) (x y : Int) (w : World) (hx : ZV S w vx x) (hy : ZV S w vy y) (hS : ∀ k, S k → k < w.heap.size) (hrx : szZ x) (hry : szZ y) (hs : ¬ decide (x < 0) = decide (y < 0)) (hge : y.natAbs ≤ x.natAbs) :
  Calls Tryz.prog 122 #[vx, vy] w fun e w' => ∃ v', e = .returned v' ∧ ZV (New w w') w' v' (x + y) ∧ Ext w w' := by
 obtain ⟨vdx, rfl, hdx⟩ := hx
 obtain ⟨vdy, rfl, hdy⟩ := hy
 have HX := hid hdx
 have HY := hid hdy
 obtain ⟨ax, cx, rfl⟩ := hdx.form
 obtain ⟨ay, cy, rfl⟩ := hdy.form
 rw [ztn hs hge]
 have HCM : Hid (-1 < cmpN x.natAbs y.natAbs) := hid (by
  unfold cmpN
  have := z2m (x := (x.natAbs : Int)) (y := (y.natAbs : Int))
  rcases z4h (x.natAbs : Int) (y.natAbs : Int) with h | h | h
  ·have := this.1 h; omega
  ·omega
  ·omega)
 have HLE : Hid ((rep 10 y.natAbs).length ≤ (rep 10 x.natAbs).length) := hid (z0x z0g _ _ (Nat.lt_of_le_of_lt hge (z19 z0g _)))
 have HVL : Hid (val 10 (rep 10 y.natAbs) ≤ val 10 (rep 10 x.natAbs)) := hid (by rw [z1a z0g, z1a z0g]; exact hge)
 obtain ⟨n, hn⟩ : ∃ n, n = x.natAbs - y.natAbs := ⟨_, rfl⟩
 obtain ⟨bx, hbx⟩ : ∃ b, b = decide (x < 0) := ⟨_, rfl⟩
 obtain ⟨bz, hbz⟩ : ∃ b, b = decide (y < 0) := ⟨_, rfl⟩
 obtain ⟨nx, hnx⟩ : ∃ n, n = (rep 10 x.natAbs).length := ⟨_, rfl⟩
 obtain ⟨ny, hny⟩ : ∃ n, n = (rep 10 y.natAbs).length := ⟨_, rfl⟩
 have HL : Hid ((rep 10 x.natAbs).length ≤ 10000000 ∧ (rep 10 y.natAbs).length ≤ 10000000) := hid ⟨Nat.le_trans hrx (by decide), Nat.le_trans hry (by decide)⟩
 rw [← hn, ← hbx, ← hbz, ← hnx, ← hny]
 rw [← hbx, ← hbz] at hs
 have hb : (bx == bz) = false := by rw [beq_eq_false_iff_ne]; exact hs
 have HK := hid (Ext.alloc (Ext.alloc (Ext.alloc (Ext.refl w) (.cells #[.bool bx, .slice ax nx cx] 139)) (.cells #[.bool bz, .slice ay ny cy] 139)) (.cells #[.bool false, .slice none 0 0] 139))
 have HSZ : Hid (w.heap.size + 1 + 1 < (((w.alloc (.cells #[.bool bx, .slice ax nx cx] 139)).alloc (.cells #[.bool bz, .slice ay ny cy] 139)).alloc (.cells #[.bool false, .slice none 0 0] 139)).heap.size) := hid (by simp)
 have hc1 := zmy _ _ x.natAbs y.natAbs _ (HX.out.ext HK.out hS) (HY.out.ext HK.out hS) (z08 hS HK.out)
 rw [← hnx, ← hny] at hc1
 obtain ⟨cm, hcm⟩ : ∃ c, c = cmpN x.natAbs y.natAbs := ⟨_, rfl⟩
 rw [← hcm] at hc1 HCM
 have HC1 := hid hc1
 have hc2 := fun W (hW : Ext (((w.alloc (.cells #[.bool bx, .slice ax nx cx] 139)).alloc (.cells #[.bool bz, .slice ay ny cy] 139)).alloc (.cells #[.bool false, .slice none 0 0] 139)) W) =>
  zmz _ _ (rep 10 x.natAbs) (rep 10 y.natAbs) W (HX.out.ext (HK.out.trans hW) hS) (HY.out.ext (HK.out.trans hW) hS) (z08 hS (HK.out.trans hW)) HL.out.1 HLE.out HVL.out
 rw [z1a z0g, z1a z0g, ← hn, ← hnx, ← hny] at hc2
 have HC2 := hid hc2
 clear hdx hdy hn hbx hbz hnx hny hrx hry hs hge hc1 hc2 hcm
 have hcm0 := HCM.out
 go_enter Tryz.func122, Tryz.ntmps122
 go_wp2_with fail
 refine HC1.out.mono ?_
 rintro e w1 ⟨rfl, hx1⟩
 obtain ⟨p0, p1, p2, p3⟩ := old4 hx1
 have HX1 := hid hx1
 clear hx1
 go_wp2_with fail
 refine (HC2.out w1 HX1.out).mono ?_
 rintro e w2 ⟨v2, rfl, hd, hx2⟩
 obtain ⟨q0, q1, q2, q3⟩ := old4 (HX1.out.trans hx2)
 obtain ⟨r0, r1, f0, f1⟩ := zr2 (HX1.out.trans hx2)
 have HE := hid (And.intro r0 r1)
 have HX2 := hid hx2
 have HD := hid hd
 obtain ⟨a1, n1, rfl⟩ := hd.form
 have hlen := z4t n
 have hz := zkp (b := bx) HD.out
 clear hd hx2 p0 p1 p2 p3
 by_cases h0 : 0 < n
 ·have hp : 0 < (rep 10 n).length := by simpa [h0] using hlen
  rw [show (bx && decide (0 < n)) = bx by simp [h0]] at hz
  have HZ := hid hz
  clear hlen hz
  cases bx
  all_goals
   go_wp2
   have hd := fun x y => z1o x y HE.out.1 HE.out.2
   refine bodyPost_ret (by simp [results, Tryz.results122, go_sem, (hd _ _).1, (hd _ _).2]; rfl) rfl ?_
   have hg := fun x y => z5c (w0 := w) (b := w.heap.size + 1 + 1) HZ.out (HK.out.trans HX1.out) HX2.out (by omega) (Nat.lt_of_lt_of_le HSZ.out HX1.out.size) x y
   exact ⟨_, rfl, (hg _ _).1, (hg _ _).2⟩
 ·obtain rfl : n = 0 := by omega
  rw [show (bx && decide (0 < 0)) = false by simp] at hz
  have HZ := hid hz
  have hp : (rep 10 0).length = 0 := rfl
  clear hlen hz
  cases bx
  all_goals
   go_wp2
   have hd := fun x y => z1o x y HE.out.1 HE.out.2
   refine bodyPost_ret (by simp [results, Tryz.results122, go_sem, (hd _ _).1, (hd _ _).2]; rfl) rfl ?_
   have hg := fun x y => z5c (w0 := w) (b := w.heap.size + 1 + 1) HZ.out (HK.out.trans HX1.out) HX2.out (by omega) (Nat.lt_of_lt_of_le HSZ.out HX1.out.size) x y
   exact ⟨_, rfl, (hg _ _).1, (hg _ _).2⟩
theorem fr4 {w W : World} {u0 v0 u1 v1 : Value} {T0 T1 : TypeId} {o : Obj} (h : Ext (((w.alloc (.cells #[u0, v0] T0)).alloc (.cells #[u1, v1] T1)).alloc o) W) :
  W.frozen? ⟨w.heap.size, 0, none⟩ = false ∧ W.frozen? ⟨w.heap.size, 1, none⟩ = false ∧ W.frozen? ⟨w.heap.size + 1, 0, none⟩ = false ∧ W.frozen? ⟨w.heap.size + 1, 1, none⟩ = false := by
 have e1 := (Ext.alloc (Ext.refl _) o).trans h
 have e0 := (Ext.alloc (Ext.refl _) _).trans e1
 exact ⟨(new2 e0).2.2.1, (new2 e0).2.2.2, (zhh e1).2.2.1, (zhh e1).2.2.2⟩
def z9d (w : World) (b : Nat) (x0 x1 y0 y1 : Value) : World := (((w.setCell ⟨b, 0, none⟩ x0).setCell ⟨b, 1, none⟩ x1).setCell ⟨b + 1, 0, none⟩ y0).setCell ⟨b + 1, 1, none⟩ y1
theorem zr4 {a w : World} (h : Ext a w) {b : Nat} (hb : a.heap.size ≤ b) (x0 x1 y0 y1 : Value) : Ext a (z9d w b x0 x1 y0 y1) :=
 (h.set2 hb x0 x1).set2 (Nat.le_trans hb (Nat.le_succ _)) y0 y1
theorem zna {w : World} {b : Nat} (x0 x1 y0 y1 : Value) : (z9d w b x0 x1 y0 y1).heap.size = w.heap.size := by
 unfold z9d
 rw [z4n, z4n]
theorem zkr {w : World} {b : Nat} {u0 u1 v0 v1 : Value} (x0 x1 y0 y1 : Value) (c0 : w.cell? ⟨b, 0, none⟩ = some u0) (c1 : w.cell? ⟨b, 1, none⟩ = some u1) (d0 : w.cell? ⟨b + 1, 0, none⟩ = some v0) (d1 : w.cell? ⟨b + 1, 1, none⟩ = some v1) :
  (z9d w b x0 x1 y0 y1).cell? ⟨b, 0, none⟩ = some x0 ∧ (z9d w b x0 x1 y0 y1).cell? ⟨b, 1, none⟩ = some x1 ∧ (z9d w b x0 x1 y0 y1).cell? ⟨b + 1, 0, none⟩ = some y0 ∧ (z9d w b x0 x1 y0 y1).cell? ⟨b + 1, 1, none⟩ = some y1 := by
 unfold z9d
 have h1 := z1o x0 x1 c0 c1
 have e0 := z0b (v := x1) (z0b (v := x0) d0 (ab (b := b) (i := 0) (show b ≠ b + 1 by omega))) (ab (b := b) (i := 1) (show b ≠ b + 1 by omega))
 have e1 := z0b (v := x1) (z0b (v := x0) d1 (ab (b := b) (i := 0) (show b ≠ b + 1 by omega))) (ab (b := b) (i := 1) (show b ≠ b + 1 by omega))
 have h2 := z1o y0 y1 e0 e1
 exact ⟨z0b (z0b h1.1 (ab (by omega))) (ab (by omega)), z0b (z0b h1.2 (ab (by omega))) (ab (by omega)), h2.1, h2.2⟩
theorem zil {w : World} {b c i : Nat} {u : Value} (x0 x1 y0 y1 : Value) (h : w.cell? ⟨c, i, none⟩ = some u) (h1 : b ≠ c) (h2 : b + 1 ≠ c) : (z9d w b x0 x1 y0 y1).cell? ⟨c, i, none⟩ = some u := by
 unfold z9d
 exact z0b (z0b (z0b (z0b h (ab h1)) (ab h1)) (ab h2)) (ab h2)
theorem zfe {w : World} {b : Nat} {c : Addr} (x0 x1 y0 y1 : Value) (h : w.frozen? c = false) : (z9d w b x0 x1 y0 y1).frozen? c = false := by
 unfold z9d
 exact z1k (z1k (z1k (z1k h)))
theorem zks {S : Nat → Prop} (vx vy : Value) (x y : Int) (w : World) (hx : ZV S w vx x) (hy : ZV S w vy y) (hS : ∀ k, S k → k < w.heap.size) (hrx : szZ x) (hry : szZ y) (hs : ¬ decide (x < 0) = decide (y < 0)) (hlt : x.natAbs < y.natAbs) :
  Calls Tryz.prog 122 #[vx, vy] w fun e w' => ∃ v', e = .returned v' ∧ ZV (New w w') w' v' (x + y) ∧ Ext w w' := by
 obtain ⟨vdx, rfl, hdx⟩ := hx
 obtain ⟨vdy, rfl, hdy⟩ := hy
 have HX := hid hdx
 have HY := hid hdy
 obtain ⟨ax, cx, rfl⟩ := hdx.form
 obtain ⟨ay, cy, rfl⟩ := hdy.form
 rw [zwt hs hlt]
 have HCM : Hid (cmpN x.natAbs y.natAbs = -1) := hid (by
  unfold cmpN
  rw [z2m]
  omega)
 have HLE : Hid ((rep 10 x.natAbs).length ≤ (rep 10 y.natAbs).length) := hid (z0x z0g _ _ (Nat.lt_trans hlt (z19 z0g _)))
 have HVL : Hid (val 10 (rep 10 x.natAbs) ≤ val 10 (rep 10 y.natAbs)) := hid (by rw [z1a z0g, z1a z0g]; omega)
 obtain ⟨n, hn⟩ : ∃ n, n = y.natAbs - x.natAbs := ⟨_, rfl⟩
 obtain ⟨bx, hbx⟩ : ∃ b, b = decide (x < 0) := ⟨_, rfl⟩
 obtain ⟨bz, hbz⟩ : ∃ b, b = decide (y < 0) := ⟨_, rfl⟩
 obtain ⟨nx, hnx⟩ : ∃ n, n = (rep 10 x.natAbs).length := ⟨_, rfl⟩
 obtain ⟨ny, hny⟩ : ∃ n, n = (rep 10 y.natAbs).length := ⟨_, rfl⟩
 have HL : Hid ((rep 10 x.natAbs).length ≤ 10000000 ∧ (rep 10 y.natAbs).length ≤ 10000000) := hid ⟨Nat.le_trans hrx (by decide), Nat.le_trans hry (by decide)⟩
 rw [← hn, ← hbx, ← hbz, ← hnx, ← hny]
 rw [← hbx, ← hbz] at hs
 have hb : (bx == bz) = false := by rw [beq_eq_false_iff_ne]; exact hs
 have HK := hid (Ext.alloc (Ext.alloc (Ext.alloc (Ext.refl w) (.cells #[.bool bx, .slice ax nx cx] 139)) (.cells #[.bool bz, .slice ay ny cy] 139)) (.cells #[.bool false, .slice none 0 0] 139))
 have HSZ : Hid (w.heap.size + 1 + 1 < (((w.alloc (.cells #[.bool bx, .slice ax nx cx] 139)).alloc (.cells #[.bool bz, .slice ay ny cy] 139)).alloc (.cells #[.bool false, .slice none 0 0] 139)).heap.size) := hid (by simp)
 have hc1 := zmy _ _ x.natAbs y.natAbs _ (HX.out.ext HK.out hS) (HY.out.ext HK.out hS) (z08 hS HK.out)
 rw [← hnx, ← hny, HCM.out] at hc1
 have HC1 := hid hc1
 have hc2 := fun W (hW : Ext w W) =>
  zmz _ _ (rep 10 y.natAbs) (rep 10 x.natAbs) W (HY.out.ext hW hS) (HX.out.ext hW hS) (z08 hS hW) HL.out.2 HLE.out HVL.out
 rw [z1a z0g, z1a z0g, ← hn, ← hnx, ← hny] at hc2
 have HC2 := hid hc2
 clear hdx hdy hn hbx hbz hnx hny hrx hry hs hlt hc1 hc2 HCM
 go_enter Tryz.func122, Tryz.ntmps122
 go_wp2_with fail
 refine HC1.out.mono ?_
 rintro e w1 ⟨rfl, hx1⟩
 obtain ⟨p0, p1, p2, p3⟩ := old4 hx1
 obtain ⟨g0, g1, g2, g3⟩ := fr4 hx1
 have HX1 := hid hx1
 have HP := hid (And.intro p0 (And.intro p1 (And.intro p2 p3)))
 clear hx1
 go_wp2_with fail
 have hsw := zr4 (HK.out.trans HX1.out) (Nat.le_refl _) (.bool bz) (.slice ay ny cy) (.bool bx) (.slice ax nx cx)
 have hq := zkr (.bool bz) (.slice ay ny cy) (.bool bx) (.slice ax nx cx) HP.out.1 HP.out.2.1 HP.out.2.2.1 HP.out.2.2.2
 obtain ⟨r0, r1, f0, f1⟩ := zr2 HX1.out
 have hr0 := zil (.bool bz) (.slice ay ny cy) (.bool bx) (.slice ax nx cx) r0 (show w.heap.size ≠ w.heap.size + 1 + 1 by omega) (show w.heap.size + 1 ≠ w.heap.size + 1 + 1 by omega)
 have hr1 := zil (.bool bz) (.slice ay ny cy) (.bool bx) (.slice ax nx cx) r1 (show w.heap.size ≠ w.heap.size + 1 + 1 by omega) (show w.heap.size + 1 ≠ w.heap.size + 1 + 1 by omega)
 have hf0 := zfe (b := w.heap.size) (.bool bz) (.slice ay ny cy) (.bool bx) (.slice ax nx cx) f0
 have hf1 := zfe (b := w.heap.size) (.bool bz) (.slice ay ny cy) (.bool bx) (.slice ax nx cx) f1
 have hsz := zna (w := w1) (b := w.heap.size) (.bool bz) (.slice ay ny cy) (.bool bx) (.slice ax nx cx)
 have HSW := hid hsw
 have HQ := hid hq
 have HR := hid (And.intro hr0 hr1)
 have HF := hid (And.intro hf0 hf1)
 have HZS := hid hsz
 clear hsw hq r0 r1 f0 f1 hr0 hr1 hf0 hf1 hsz p0 p1 p2 p3 g0 g1 g2 g3
 obtain ⟨W0, hW0⟩ : ∃ W, W = z9d w1 w.heap.size (.bool bz) (.slice ay ny cy) (.bool bx) (.slice ax nx cx) := ⟨_, rfl⟩
 rw [← hW0] at HSW HQ HR HF HZS
 refine (Calls.mono (by have := HC2.out W0 HSW.out; rw [hW0] at this; exact this) ?_)
 rintro e w2 ⟨v2, rfl, hd, hx2⟩
 rw [← hW0] at hd hx2
 have q0 := hx2.cell HQ.out.1
 have q1 := hx2.cell HQ.out.2.1
 have r0 := hx2.cell HR.out.1
 have r1 := hx2.cell HR.out.2
 have hszw : w.heap.size + 1 + 1 < W0.heap.size := by rw [HZS.out]; exact Nat.lt_of_lt_of_le HSZ.out HX1.out.size
 have f0 := hx2.free hszw HF.out.1
 have f1 := hx2.free hszw HF.out.2
 have HE := hid (And.intro r0 r1)
 have HX2 := hid hx2
 have HSZ2 := hid hszw
 have HD := hid hd
 obtain ⟨a1, n1, rfl⟩ := hd.form
 have hlen := z4t n
 have hz := zkp (b := bz) HD.out
 clear hd hx2 hW0 hszw
 by_cases h0 : 0 < n
 ·have hp : 0 < (rep 10 n).length := by simpa [h0] using hlen
  rw [show (bz && decide (0 < n)) = bz by simp [h0]] at hz
  have HZ := hid hz
  clear hlen hz
  cases bz
  all_goals
   go_wp2
   have hd := fun x y => z1o x y HE.out.1 HE.out.2
   refine bodyPost_ret (by simp [results, Tryz.results122, go_sem, (hd _ _).1, (hd _ _).2]; rfl) rfl ?_
   have hg := fun x y => z5c (w0 := w) (b := w.heap.size + 1 + 1) HZ.out HSW.out HX2.out (by omega) HSZ2.out x y
   exact ⟨_, rfl, (hg _ _).1, (hg _ _).2⟩
 ·obtain rfl : n = 0 := by omega
  rw [show (bz && decide (0 < 0)) = false by simp] at hz
  have HZ := hid hz
  have hp : (rep 10 0).length = 0 := rfl
  clear hlen hz
  cases bz
  all_goals
   go_wp2
   have hd := fun x y => z1o x y HE.out.1 HE.out.2
   refine bodyPost_ret (by simp [results, Tryz.results122, go_sem, (hd _ _).1, (hd _ _).2]; rfl) rfl ?_
   have hg := fun x y => z5c (w0 := w) (b := w.heap.size + 1 + 1) HZ.out HSW.out HX2.out (by omega) HSZ2.out x y
   exact ⟨_, rfl, (hg _ _).1, (hg _ _).2⟩
theorem zun {S : Nat → Prop} (vx vy : Value) (x y : Int) (w : World) (hx : ZV S w vx x) (hy : ZV S w vy y) (hS : ∀ k, S k → k < w.heap.size) (hrx : szZ x) (hry : szZ y) :
  Calls Tryz.prog 122 #[vx, vy] w fun e w' => ∃ v', e = .returned v' ∧ ZV (New w w') w' v' (x + y) ∧ Ext w w' := by
 by_cases hs : decide (x < 0) = decide (y < 0)
 ·exact zfd vx vy x y w hx hy hS hrx hry hs
 ·by_cases hge : y.natAbs ≤ x.natAbs
  ·exact zkq vx vy x y w hx hy hS hrx hry hs hge
  ·exact zks vx vy x y w hx hy hS hrx hry hs (by omega)
end
section
open Go.RowKit
def zuo (ts : List RTerm) : Prop := ∀ t ∈ ts, t.c.mag.length ≤ 100000
theorem zup {x : RInt} (hok : okI x) (h : mayI x = true) : x.mag.length = 0 ↔ val B32 x.mag = 0 := by
 have e := zdv hok h
 have e2 : (valI x).natAbs = val B32 x.mag := by rw [zhg, zn4]
 have e3 : x.mag = rep B32 (val B32 x.mag) := by
  rw [← e2]
  exact (congrArg RInt.mag e).symm
 constructor
 ·intro h0
  rw [List.length_eq_zero_iff.1 h0]
  rfl
 ·intro h0
  rw [h0, z3n] at e3
  rw [e3]
  rfl
theorem zhi {t : RTerm} (_hok : okI t.c) (h : t.c.mag.length = 0) : z1h t = false := by
 have : t.c.mag = [] := List.length_eq_zero_iff.1 h
 unfold z1h
 rw [this]
 rfl
theorem zkt {t : RTerm} (hok : okI t.c) (h1 : t.c.mag.length ≠ 0) (h2 : mayI t.c = true) (h3 : mayM t.m = true) : z1h t = true := by
 have h0 : val B32 t.c.mag ≠ 0 := fun e => h1 ((zup hok h2).2 e)
 unfold z1h
 rw [h2, h3, decide_eq_true h0]
 rfl
theorem zd2 {a b : Mono} (ha : mayM a = true) (hb : mayM b = true) : decide (0 < z3f a b) = (rcmp a b == 1) := by
 rw [zmq ha hb]
 unfold z3f
 rw [ha, hb]
 simp only [Bool.and_self, if_true]
 rcases z1c ha hb with h | h | h <;> rw [h] <;> rfl
theorem zd3 {ts : List RTerm} {k : Nat} {u : RTerm} (hu : ts[k]? = some u) : befT ts (k + 1) = some u := hu
def zff (ts : List RTerm) (k : Nat) : Prop := mayT ts = z45 (befT ts k) (ts.drop k) ∧ ∀ u, befT ts k = some u → mayM u.m = true
theorem zku (ts : List RTerm) : zff ts 0 := ⟨rfl, fun u hu => by cases hu⟩
theorem zb9 {ts : List RTerm} {k : Nat} {t : RTerm} (h : zff ts k) (ht : ts[k]? = some t) (hm : z1h t = false) : mayT ts = false := by
 rw [h.1, z5k ht, hm]
 rfl
theorem zhj {ts : List RTerm} {t : RTerm} (h : zff ts 0) (ht : ts[0]? = some t) (hm : z1h t = true) (h3 : mayM t.m = true) : zff ts 1 := by
 refine ⟨?_, fun u hu => ?_⟩
 ·rw [h.1, z5k ht, hm]
  rfl
 ·have : some t = some u := ht.symm.trans hu
  cases this
  exact h3
theorem zkv {ts : List RTerm} {k : Nat} {t u : RTerm} (h : zff ts (k + 1)) (ht : ts[k + 1]? = some t) (hu : ts[k]? = some u) (hm : z1h t = true) (h3 : mayM t.m = true) (hc : rcmp u.m t.m = 1) : zff ts (k + 1 + 1) := by
 have hum := h.2 u hu
 refine ⟨?_, fun v hv => ?_⟩
 ·rw [h.1, z5k ht, hm, zd3 hu]
  simp only
  rw [zd2 hum h3, hc]
  rfl
 ·have : some t = some v := ht.symm.trans hv
  cases this
  exact h3
theorem zkw {ts : List RTerm} {k : Nat} {t u : RTerm} (h : zff ts (k + 1)) (ht : ts[k + 1]? = some t) (hu : ts[k]? = some u) (h3 : mayM t.m = true) (hc : ¬ rcmp u.m t.m = 1) : mayT ts = false := by
 have hum := h.2 u hu
 rw [h.1, z5k ht, zd3 hu]
 simp only
 rw [zd2 hum h3, beq_eq_false_iff_ne.2 hc]
 simp
theorem znb {S : Nat → Prop} (v : Value) (ts : List RTerm) (w : World) (h : z05 S w v ts) (hS : ∀ k, S k → k < w.heap.size) (hr : zuo ts) :
  Calls Tryz.prog 35 #[v] w fun e w' => e = .returned (.bool (mayT ts)) ∧ Ext w w' := by
 have hnot : ∀ (x : Bool) (w : World), (Op.unary .not (.bool x)).run Tryz.prog w = .ok (.bool (!x)) w := fun _ _ => rfl
 have hl := h.len_le
 have H := hid h
 have HRS := hid hr
 obtain ⟨a, cap, rfl⟩ := h.form
 clear h hr
 go_enter Tryz.func35, Tryz.ntmps35
 go_wp2
 go_loopw [3] (fun i wr => ∃ k : Nat, k ≤ ts.length ∧ i = .int .i64 k ∧ Ext w wr ∧ zff ts k) (fun i _ => ts.length - (intOf i).toNat)
 case atStart => exact ⟨0, Nat.zero_le _, rfl, Ext.refl _, zku _⟩
 case round =>
  obtain ⟨k, hk, rfl, hx, hm⟩ := hrel
  have HM := hid hm
  have HX := hid hx
  by_cases hlt : k < ts.length
  ·obtain ⟨t, ht⟩ := z00 hlt
   obtain ⟨b, off, vm, vo, rfl, -, hn1, hm1, hSb, h1, h2, h3, h4, h5⟩ := H.out.cellAt ht
   have hsm := HRS.out t (List.mem_of_getElem? ht)
   have HT := hid ht
   have HOK : Hid (okI t.c) := hid h4.lt
   obtain ⟨⟨ng, zs⟩, m⟩ := t
   simp only at h1 h2 h3 h4 h5 hsm
   have H4 := hid h4
   have H5 := hid h5
   obtain ⟨am, cm, rfl⟩ := h4.form
   obtain ⟨ao, co, rfl⟩ := h5.form
   have hzl := h4.len_le
   have g1 := Ext.cell hx h1
   have g2 := Ext.cell hx h2
   have g3 := Ext.cell hx h3
   have CZ := zul (S := S) _ ⟨ng, zs⟩ wr (z21 (H4.out.ext HX.out hS)) (z08 hS HX.out) hsm
   clear hm ht h1 h2 h3 h4 h5 hx hsm
   cases hi : mayI ⟨ng, zs⟩ with
   | false =>
    rw [hi] at CZ
    have HCZ := hid CZ
    have HF := hid (zb9 HM.out HT.out (z7x hi))
    clear CZ hi
    go_wp2_with fail
    refine HCZ.out.mono ?_
    rintro e w1 ⟨rfl, hx1⟩
    have HX1 := hid (HX.out.trans hx1)
    clear hx1
    go_wp2
    all_goals
     go_ret
     exact ⟨by rw [HF.out]; rfl, HX1.out⟩
   | true =>
    rw [hi] at CZ
    have HCZ := hid CZ
    have HI := hid hi
    clear CZ hi
    by_cases hz : zs.length = 0
    ·have HF := hid (zb9 HM.out HT.out (zhi HOK.out hz))
     have HCZ0 := HCZ.out
     simp only [hz] at g2 HCZ0
     have HCZ1 := hid HCZ0
     clear HCZ0
     go_wp2_with fail
     refine HCZ1.out.mono ?_
     rintro e w1 ⟨rfl, hx1⟩
     have HX1 := hid (HX.out.trans hx1)
     have k1 := hx1.cell g1
     have k2 := hx1.cell g2
     have k3 := hx1.cell g3
     clear hx1 g1 g2 g3
     go_wp2
     all_goals
      go_ret
      exact ⟨by rw [HF.out]; rfl, HX1.out⟩
    ·have hzb : ((zs.length : Int) == 0) = false := by rw [beq_eq_false_iff_ne]; omega
     go_wp2_with fail
     refine HCZ.out.mono ?_
     rintro e w1 ⟨rfl, hx1⟩
     have HX1 := hid (HX.out.trans hx1)
     have k1 := hx1.cell g1
     have k2 := hx1.cell g2
     have k3 := hx1.cell g3
     have CQ := z8m (S := S) _ m w1 (H5.out.ext HX1.out hS) (z08 hS HX1.out)
     clear hx1 g1 g2 g3
     cases hq : mayM m with
     | false =>
      rw [hq] at CQ
      have HCQ := hid CQ
      have HF := hid (zb9 HM.out HT.out (z6i hq))
      clear CQ hq
      go_wp2_with fail
      refine HCQ.out.mono ?_
      rintro e w2 ⟨rfl, hx2⟩
      have HX2 := hid (HX1.out.trans hx2)
      clear hx2
      go_wp2
      all_goals
       go_ret
       exact ⟨by rw [HF.out]; rfl, HX2.out⟩
     | true =>
      rw [hq] at CQ
      have HCQ := hid CQ
      have HQ := hid hq
      have HMT : Hid (z1h ⟨⟨ng, zs⟩, m⟩ = true) := hid (zkt HOK.out hz HI.out hq)
      clear CQ hq
      go_wp2_with fail
      refine HCQ.out.mono ?_
      rintro e w2 ⟨rfl, hx2⟩
      have HX2 := hid (HX1.out.trans hx2)
      have L3 := fun X : Later w2 => X.cell (hx2.cell k3)
      clear hx2 k1 k2 k3
      cases k with
      | zero =>
       have HF := hid (zhj HM.out HT.out HMT.out HQ.out)
       go_wp2
       refine z03 (by kernel_rfl) (by kernel_rfl) ?_
       repeat (go_big_quiet_step (fail))
       refine wpQuiet_nil ?_
       intro W hW
       have HW := hid (HX2.out.trans hW)
       clear hW
       go_wp2
       go_roundw
       case rel => exact ⟨_, by omega, by go_num, HW.out, HF.out⟩
       case measure => simp only [intOf]; omega
      | succ k =>
       obtain ⟨u, hu⟩ := z00 (show k < ts.length by omega)
       obtain ⟨b', off', vmu, vou, hbb, -, -, -, -, u1, u2, u3, u4, u5⟩ := H.out.cellAt hu
       obtain ⟨rfl, rfl⟩ : b = b' ∧ off = off' := by simpa using hbb
       have HP5 := hid u5
       have HU := hid hu
       obtain ⟨ap, cp, rfl⟩ := u5.form
       have L4 := fun X : Later w2 => X.cell (HX2.out.cell u3)
       have hq0 : ((k : Nat) : Int) + 1 - 1 = (k : Int) := by omega
       clear u1 u2 u3 u4 u5 hu hbb
       obtain ⟨rc, hrc⟩ : ∃ s, rcmp u.m m = s := ⟨_, rfl⟩
       have CO := fun (W : World) (h1 : Pows S W (.slice ap u.m.length cp) u.m) (h2 : Pows S W (.slice ao m.length co) m) hs => z8o (S := S) _ _ _ _ W h1 h2 hs
       simp only [hrc] at CO
       have HCO := hid CO
       clear CO
       by_cases hc1 : rc = 1
       ·subst hc1
        have HF := hid (zkv HM.out HT.out HU.out HMT.out HQ.out hrc)
        clear hrc
        go_wp2
        refine z03 (by kernel_rfl) (by kernel_rfl) ?_
        repeat (go_big_quiet_step (first | (go_at_call 76; exact Later.done (HCO.out _ (HP5.out.ext (HX2.out.trans (Later.h _)) hS) (H5.out.ext (HX2.out.trans (Later.h _)) hS) (z08 hS (HX2.out.trans (Later.h _)))))))
        refine wpQuiet_nil ?_
        intro W hW
        have HW := hid (HX2.out.trans hW)
        clear hW
        go_wp2
        go_roundw
        case rel => exact ⟨_, by omega, by go_num, HW.out, HF.out⟩
        case measure => simp only [intOf]; omega
       ·have hbn : (rc != 1) = true := by rw [bne_iff_ne]; exact hc1
        have HF := hid (zkw HM.out HT.out HU.out HQ.out (by rw [hrc]; exact hc1))
        clear hrc
        go_wp2
        refine z03 (by kernel_rfl) (by kernel_rfl) ?_
        repeat (go_big_quiet_step (first | (go_at_call 76; exact Later.done (HCO.out _ (HP5.out.ext (HX2.out.trans (Later.h _)) hS) (H5.out.ext (HX2.out.trans (Later.h _)) hS) (z08 hS (HX2.out.trans (Later.h _)))))))
        refine wpQuiet_nil ?_
        intro W hW
        have HW := hid (HX2.out.trans hW)
        clear hW
        go_wp2
        all_goals
         go_ret
         exact ⟨by rw [HF.out]; rfl, HW.out⟩
  ·obtain rfl : k = ts.length := by omega
   have HF : Hid (mayT ts = true) := hid (by rw [hm.1, List.drop_length]; rfl)
   clear hx hm
   go_wp2
   all_goals
    go_ret
    exact ⟨by rw [HF.out]; rfl, HX.out⟩
end
section
open Go.RowKit
def RTs (S : Nat → Prop) (w : World) (v : Value) (p : PZ) : Prop :=
 ∃ b off, z31 S v p.length b off ∧ ∀ j t, p[j]? = some t → ∃ vd vo, w.cell? ⟨b, off + j * 3, none⟩ = some (.bool (decide (t.1 < 0))) ∧
  w.cell? ⟨b, off + j * 3 + 1, none⟩ = some vd ∧ w.cell? ⟨b, off + j * 3 + 2, none⟩ = some vo ∧ Digs S w vd (rep 10 t.1.natAbs) ∧ Pows S w vo t.2
section
variable {S S' : Nat → Prop} {w w' : World} {v : Value} {p : PZ}
theorem RTs.form (h : RTs S w v p) : ∃ a cap, v = .slice a p.length cap := by
 obtain ⟨b, off, ⟨a, cap, h1, _⟩, _⟩ := h
 exact ⟨a, cap, h1⟩
theorem RTs.to (h : RTs S w v p) (hk : Kept S w w') (hS : ∀ k, S k → S' k) : RTs S' w' v p := by
 obtain ⟨b, off, hs, hc⟩ := h
 refine ⟨b, off, hs.mono hS, fun j t hj => ?_⟩
 obtain ⟨vm, vo, h1, h2, h3, h4, h5⟩ := hc j t hj
 have hb := hs.in (z04 hj)
 exact ⟨vm, vo, hk.cell hb h1, hk.cell hb h2, hk.cell hb h3, h4.to hk hS, h5.to hk hS⟩
theorem RTs.ext (h : RTs S w v p) (hx : Ext w w') (hS : ∀ k, S k → k < w.heap.size) : RTs S w' v p := h.to (Kept.ext hx hS) (fun _ h => h)
theorem RTs.len_le (h : RTs S w v p) : p.length ≤ 9223372036854775807 := by
 obtain ⟨b, off, ⟨a, cap, h1, h2, h3, _⟩, _⟩ := h
 unfold maxLen at h3
 omega
theorem RTs.cellAt {a : Option Addr} {n cap k : Nat} {t : Int × Mono} (h : RTs S w (.slice a n cap) p) (ht : p[k]? = some t) :
  ∃ b off vd vo, a = some ⟨b, off, none⟩ ∧ n = p.length ∧ n ≤ cap ∧ cap ≤ 9223372036854775807 ∧ S b ∧ w.cell? ⟨b, off + k * 3, none⟩ = some (.bool (decide (t.1 < 0))) ∧ w.cell? ⟨b, off + k * 3 + 1, none⟩ = some vd ∧ w.cell? ⟨b, off + k * 3 + 2, none⟩ = some vo ∧ Digs S w vd (rep 10 t.1.natAbs) ∧ Pows S w vo t.2 := by
 obtain ⟨b, off, ⟨a', cap', h1, h2, h3, h4, h5⟩, hc⟩ := h
 obtain ⟨rfl, rfl, rfl⟩ : a = a' ∧ n = p.length ∧ cap = cap' := by simpa using h1
 have hp : 0 < p.length := by have := z04 ht; omega
 obtain ⟨vm, vo, g1, g2, g3, g4, g5⟩ := hc k t ht
 exact ⟨b, off, vm, vo, h4 hp, rfl, h2, h3, h5 hp, g1, g2, g3, g4, g5⟩
theorem RTs.nilv (S : Nat → Prop) (w : World) (a : Option Addr) (cap : Nat) (h : cap ≤ 9223372036854775807) : RTs S w (.slice a 0 cap) [] :=
 ⟨0, 0, ⟨a, cap, rfl, Nat.zero_le _, h, fun h => absurd h (Nat.lt_irrefl 0), fun h => absurd h (Nat.lt_irrefl 0)⟩, fun j t hj => by simp at hj⟩
end
def z1j (S : Nat → Prop) (w : World) : List Value → PZ → Prop
 | xs, [] => xs = []
 | xs, t :: r => ∃ vd vo ys, xs = .bool (decide (t.1 < 0)) :: vd :: vo :: ys ∧ Digs S w vd (rep 10 t.1.natAbs) ∧ Pows S w vo t.2 ∧ z1j S w ys r
section
variable {S S' : Nat → Prop} {w w' : World}
theorem z1j.append {xs ys : List Value} {p q : PZ} (h : z1j S w xs p) (k : z1j S w ys q) : z1j S w (xs ++ ys) (p ++ q) := by
 induction p generalizing xs with
 | nil =>
  have e : xs = [] := h
  subst e
  exact k
 | cons t r ih =>
  obtain ⟨vd, vo, zs, rfl, h1, h2, h3⟩ := h
  exact ⟨vd, vo, zs ++ ys, rfl, h1, h2, ih h3⟩
theorem z1j.to {xs : List Value} {p : PZ} (h : z1j S w xs p) (hk : Kept S w w') (hS : ∀ k, S k → S' k) : z1j S' w' xs p := by
 induction p generalizing xs with
 | nil => exact h
 | cons t r ih =>
  obtain ⟨vd, vo, zs, rfl, h1, h2, h3⟩ := h
  exact ⟨vd, vo, zs, rfl, h1.to hk hS, h2.to hk hS, ih h3⟩
theorem z1j.length {xs : List Value} {p : PZ} (h : z1j S w xs p) : xs.length = p.length * 3 := by
 induction p generalizing xs with
 | nil =>
  have e : xs = [] := h
  subst e
  rfl
 | cons t r ih =>
  obtain ⟨vd, vo, zs, rfl, h1, h2, h3⟩ := h
  simp only [List.length_cons, ih h3]
  omega
theorem z1j.get {xs : List Value} {p : PZ} (h : z1j S w xs p) {j : Nat} {t : Int × Mono} (ht : p[j]? = some t) :
  ∃ vd vo, xs[j * 3]? = some (.bool (decide (t.1 < 0))) ∧ xs[j * 3 + 1]? = some vd ∧ xs[j * 3 + 2]? = some vo ∧ Digs S w vd (rep 10 t.1.natAbs) ∧ Pows S w vo t.2 := by
 induction p generalizing xs j with
 | nil => simp at ht
 | cons u r ih =>
  obtain ⟨vd, vo, zs, rfl, h1, h2, h3⟩ := h
  cases j with
  | zero =>
   obtain rfl : u = t := by simpa using ht
   exact ⟨vd, vo, rfl, rfl, rfl, h1, h2⟩
  | succ j =>
   obtain ⟨vd', vo', g⟩ := ih h3 (j := j) (by simpa using ht)
   refine ⟨vd', vo', ?_⟩
   rw [show (j + 1) * 3 = j * 3 + 1 + 1 + 1 by omega]
   simpa using g
theorem z1j.one {xs : List Value} {p : PZ} (h : z1j S w xs p) : ∀ u ∈ xs, u.oneCell' = true := by
 induction p generalizing xs with
 | nil =>
  have e : xs = [] := h
  subst e
  intro u hu
  simp at hu
 | cons t r ih =>
  obtain ⟨vd, vo, zs, rfl, h1, h2, h3⟩ := h
  intro u hu
  simp only [List.mem_cons] at hu
  rcases hu with rfl | rfl | rfl | hu
  ·rfl
  ·obtain ⟨a, c, rfl⟩ := h1.form; rfl
  ·obtain ⟨a, c, rfl⟩ := h2.form; rfl
  ·exact ih h3 u hu
theorem z1j.single {vd vo : Value} {t : Int × Mono} (h1 : Digs S w vd (rep 10 t.1.natAbs)) (h2 : Pows S w vo t.2) : z1j S w [.bool (decide (t.1 < 0)), vd, vo] [t] := ⟨vd, vo, [], rfl, h1, h2, rfl⟩
end
theorem znc {S : Nat → Prop} {w : World} {base : Nat} {e : TypeId} {v : Value} {xs : List Value} {p : PZ} (h : w.ownsRow base e 3 v p.length xs) (hc : z1j S w xs p) (hB : ∀ k, base ≤ k → k < w.heap.size → S k) : RTs S w v p := by
 have hlt := h.lt
 rcases h.2 with ⟨rfl, h0⟩ | ⟨g, cap, cur, rfl, hg, hh, h1, h2, h3, h4⟩
 ·obtain rfl : p = [] := List.length_eq_zero_iff.1 h0
  exact RTs.nilv _ _ _ _ (by omega)
 ·refine ⟨g, 0, ⟨_, cap, rfl, h1, h2, fun _ => rfl, fun _ => hB g (hlt g rfl).1 (hlt g rfl).2⟩, fun j t hj => ?_⟩
  obtain ⟨vd, vo, g1, g2, g3, g4, g5⟩ := hc.get hj
  have hb := z04 hj
  refine ⟨vd, vo, ?_, ?_, ?_, g4, g5⟩
  ·rw [h.cellAt (0 + j * 3) (by omega), Nat.zero_add]
   exact g1
  ·rw [h.cellAt (0 + j * 3 + 1) (by omega), Nat.zero_add]
   exact g2
  ·rw [h.cellAt (0 + j * 3 + 2) (by omega), Nat.zero_add]
   exact g3
theorem zd4 {S : Nat → Prop} {w : World} {b : Nat} : ∀ (p : PZ) (off : Nat), (∀ j t, p[j]? = some t → ∃ vd vo, w.cell? ⟨b, off + j * 3, none⟩ = some (.bool (decide (t.1 < 0))) ∧
  w.cell? ⟨b, off + j * 3 + 1, none⟩ = some vd ∧ w.cell? ⟨b, off + j * 3 + 2, none⟩ = some vo ∧ Digs S w vd (rep 10 t.1.natAbs) ∧ Pows S w vo t.2) →
  ∃ xs, z1j S w xs p ∧ ∀ j u, xs[j]? = some u → w.cell? ⟨b, off + j, none⟩ = some u
 | [], _, _ => ⟨[], rfl, fun j u hu => by simp at hu⟩
 | t :: r, off, h => by
  obtain ⟨vd, vo, h1, h2, h3, h4, h5⟩ := h 0 t rfl
  obtain ⟨ys, k1, k2⟩ := zd4 r (off + 3) (fun j u hu => by
   have := h (j + 1) u (by simpa using hu)
   rw [show off + (j + 1) * 3 = off + 3 + j * 3 by omega] at this
   exact this)
  refine ⟨_, ⟨vd, vo, ys, rfl, h4, h5, k1⟩, fun j u hu => ?_⟩
  match j, hu with
  | 0, hu =>
   have e : _ = u := Option.some.inj hu
   rw [← e]
   exact h1
  | 1, hu =>
   have e : _ = u := Option.some.inj hu
   rw [← e]
   exact h2
  | 2, hu =>
   have e : _ = u := Option.some.inj hu
   rw [← e]
   exact h3
  | j + 3, hu =>
   have := k2 j u (by simpa using hu)
   rw [show off + (j + 3) = off + 3 + j by omega]
   exact this
theorem RTs.src {S : Nat → Prop} {w : World} {b off n cap k : Nat} {p : PZ} (h : RTs S w (.slice (some ⟨b, off, none⟩) n cap) p) (hk : k ≤ p.length) :
  ∃ news, zci w (some ⟨b, off + k * 3, none⟩) (p.length - k) 3 news ∧ z1j S w news (p.drop k) := by
 obtain ⟨b', off', ⟨a', cap', h1, h2, h3, h4, h5⟩, hc⟩ := h
 by_cases h0 : 0 < p.length
 ·have e := h4 h0
  obtain ⟨e1, -, -⟩ : some (⟨b, off, none⟩ : Addr) = a' ∧ n = p.length ∧ cap = cap' := by simpa using h1
  rw [← e1] at e
  obtain ⟨rfl, rfl⟩ : b = b' ∧ off = off' := by simpa using e
  obtain ⟨xs, k1, k2⟩ := zd4 (S := S) (w := w) (b := b) (p.drop k) (off + k * 3) (fun j t hj => by
   rw [List.getElem?_drop] at hj
   have := hc (k + j) t hj
   rw [show off + (k + j) * 3 = off + k * 3 + j * 3 by omega] at this
   exact this)
  refine ⟨xs, ⟨?_, k1.one, fun _ => ⟨_, rfl, fun j u hu => ?_⟩⟩, k1⟩
  ·rw [k1.length, List.length_drop]
  ·rw [z7y]
   exact k2 j u hu
 ·obtain rfl : p = [] := List.length_eq_zero_iff.1 (by omega)
  refine ⟨[], ⟨by simp, fun u hu => by simp at hu, fun hh => by simp at hh⟩, ?_⟩
  rw [List.drop_nil]
  rfl
theorem z7c {p : PZ} {c : Int} {m : Mono} : ∀ {k : Nat}, (∀ j t, j < k → p[j]? = some t → z0f t.2 m = 1) → putP p c m = p.take k ++ putP (p.drop k) c m
 | 0, _ => rfl
 | k + 1, h => by
  cases p with
  | nil => simp
  | cons t r =>
   have h0 := h 0 t (by omega) rfl
   have ih := z7c (p := r) (c := c) (m := m) (k := k) (fun j u hj hu => h (j + 1) u (by omega) (by simpa using hu))
   simp only [putP, h0, if_true, List.take_succ_cons, List.drop_succ_cons, List.cons_append, ih]
def midP (c : Int) (m : Mono) : PZ := if c = 0 then [] else [(c, m)]
theorem zuq {p : PZ} {c : Int} {m : Mono} {k : Nat} (h : ∀ j t, j < k → p[j]? = some t → z0f t.2 m = 1) (hk : k = p.length) : putP p c m = p.take k ++ midP c m ++ p.drop k := by
 rw [z7c h, hk, List.drop_length]
 simp [putP, midP]
theorem zr5 {p : PZ} {c : Int} {m : Mono} {k : Nat} {t : Int × Mono} (h : ∀ j t, j < k → p[j]? = some t → z0f t.2 m = 1) (ht : p[k]? = some t) (hc : z0f t.2 m = 0) : putP p c m = p.take k ++ midP (c + t.1) m ++ p.drop (k + 1) := by
 rw [z7c h, z5t ht, List.append_assoc]
 simp only [putP, hc, midP, if_true]
 rw [if_neg (by decide)]
 split <;> rfl
theorem zr6 {p : PZ} {c : Int} {m : Mono} {k : Nat} {t : Int × Mono} (h : ∀ j t, j < k → p[j]? = some t → z0f t.2 m = 1) (ht : p[k]? = some t) (h1 : z0f t.2 m ≠ 1) (h2 : z0f t.2 m ≠ 0) : putP p c m = p.take k ++ midP c m ++ p.drop k := by
 rw [z7c h, z5t ht, List.append_assoc]
 simp only [putP, midP]
 rw [if_neg h1, if_neg h2]
 split <;> rfl
theorem zba {c : Int} (h : c = 0) (m : Mono) : midP c m = [] := by unfold midP; rw [if_pos h]
theorem zbb {c : Int} (h : c ≠ 0) (m : Mono) : midP c m = [(c, m)] := by unfold midP; rw [if_neg h]
theorem Tryz.infoT : (Tryz.prog.info? 141).map (fun i => (i.zero, i.size, i.bytes)) = some (some (.agg #[.bool false, .slice none 0 0, .slice none 0 0]), 3, 56) := by kernel_rfl
theorem z28 {u v x : Value} (h : u.oneCell' = true) (k : v.oneCell' = true) (l : x.oneCell' = true) : ∀ y ∈ (#[u, v, x] : Array Value).toList, y.oneCell' = true := by
 intro y hy
 simp at hy
 rcases hy with rfl | rfl | rfl <;> assumption
end
section
open Go.RowKit
abbrev Old (w : World) : Nat → Prop := fun k => k < w.heap.size
theorem z5l {w W : World} (h : Ext w W) : ∀ k, Old w k → k < W.heap.size := fun _ hk => Nat.lt_of_lt_of_le hk h.size
theorem RTs.on {w W : World} {v : Value} {p : PZ} (h : RTs (Old w) w v p) (hx : Ext w W) : RTs (Old W) W v p := h.to (Kept.ext hx (fun _ h => h)) (z5l hx)
theorem Pows.on {w W : World} {v : Value} {z : Mono} (h : Pows (Old w) w v z) (hx : Ext w W) : Pows (Old W) W v z := h.to (Kept.ext hx (fun _ h => h)) (z5l hx)
def szP (p : PZ) : Prop := p.length ≤ 1000000000000 ∧ ∀ t ∈ p, szZ t.1
theorem z1r {P : Program} (w : World) {ops : Array Oper} {rest : List Oper} {o : Oper} {a : Act} {Q : Exit → Act → World → Prop} (hgd : o.guard = none) (x y : Operand) (t e : TypeId)
  (ho : o.op = .slice t x (some y) none none) (ht : P.underlying t = some (.slice e)) {z : Option Value} {size bytes : Nat} (hinfo : (P.info? e).map (fun i => (i.zero, i.size, i.bytes)) = some (z, size, bytes))
  (A : Option Addr) (n cap k : Nat) (hx : a.eval x = .slice A n cap) (hy : a.eval y = .int .i64 (k : Nat)) (hk : k ≤ n)
  (h : ∀ A', A' = (if cap = k then A else A.map (·.add (k * size))) → wpList P ops Q rest (a.put o.dst (.slice A' (n - k) (cap - k))) w) : wpList P ops Q (o :: rest) a w := by
 refine wpList_plain hgd fun K hK => ?_
 have he : P.elem t = e := by simp [Program.elem, ht]
 have ht' : P.underlying t = some (.slice (P.elem t)) := by rw [he]; exact ht
 have hi : ∃ i, P.info? e = some i ∧ i.size = size := by
  cases hh : P.info? e with
  | none => rw [hh] at hinfo; simp at hinfo
  | some i =>
   rw [hh] at hinfo
   simp at hinfo
   exact ⟨i, rfl, hinfo.2.1⟩
 obtain ⟨i, hi1, hi2⟩ := hi
 unfold Oper.wp execOp
 simp only [ho, Option.map, hx, hy]
 rw [Sem.run_bind, run_sliceAt_slice _ _ _ _ _ _ ht', run_slice_l _ _ _ _ _ ht' _ _ (by omega) (by omega)]
 simp only [he, sizeOf, typeInfo, Sem.run_bind, sliced, Int.toNat_natCast]
 have := hK _ _ (h _ rfl)
 simpa [go_sem, hi1, hi2] using this
theorem z4j {S : Nat → Prop} {w : World} {A A' : Option Addr} {n cap k : Nat} {p : PZ} (h : RTs S w (.slice A n cap) p) (hk : k ≤ p.length) (e : A' = (if cap = k then A else A.map (·.add (k * 3)))) :
  ∃ news, zci w A' (p.length - k) 3 news ∧ z1j S w news (p.drop k) := by
 have h' := h
 obtain ⟨b, off, ⟨a', cap', h1, h2, h3, h4, h5⟩, hc⟩ := h
 obtain ⟨rfl, rfl, rfl⟩ : A = a' ∧ n = p.length ∧ cap = cap' := by simpa using h1
 by_cases hlt : k < p.length
 ·have ha := h4 (by omega)
  subst ha
  rw [if_neg (by omega)] at e
  have e2 : A' = some ⟨b, off + k * 3, none⟩ := by rw [e, Option.map_some, z7y]
  rw [e2]
  exact h'.src hk
 ·obtain rfl : k = p.length := by omega
  refine ⟨[], ⟨by simp, fun u hu => by simp at hu, fun hh => by omega⟩, ?_⟩
  rw [List.drop_length]
  rfl
theorem z0z {w w' : World} {base : Nat} {e : TypeId} {size : Nat} {v : Value} {n : Nat} {xs : List Value} (h : w.ownsRow base e size v n xs) (hx : Ext w w') : w'.ownsRow base e size v n xs :=
 h.kept (row := none) ⟨hx.os, hx.tape, hx.output, hx.size, fun k hk _ => hx.block k hk⟩ (by
  cases hv : v.ownBlock with
  | none => exact .inl rfl
  | some k => exact .inr (by simp))
theorem zhk {c : Int} (h : c ≠ 0) : (z2d c != 0) = true := by
 rw [bne_iff_ne]
 unfold z2d
 rw [Ne, z8d]
 exact h
abbrev Plus (S : Nat → Prop) (w w1 : World) : Nat → Prop := fun k => S k ∨ New w w1 k
theorem z1i {S : Nat → Prop} {w w1 : World} (hS : ∀ k, S k → k < w.heap.size) (hx : Ext w w1) : ∀ k, Plus S w w1 k → k < w1.heap.size := fun k hk => by
 rcases hk with h | h
 ·exact Nat.lt_of_lt_of_le (hS k h) hx.size
 ·exact h.2
theorem z3c {S : Nat → Prop} {w w1 w2 : World} (hx : w1.heap.size ≤ w2.heap.size) : ∀ k, Plus S w w1 k → Plus S w w2 k := fun k hk => by
 rcases hk with h | h
 ·exact .inl h
 ·exact .inr ⟨h.1, Nat.lt_of_lt_of_le h.2 hx⟩
abbrev Off (S : Nat → Prop) (w w1 : World) (o : Value) : Nat → Prop := fun k => Plus S w w1 k ∧ some k ≠ o.ownBlock
theorem z9e {S : Nat → Prop} {w w0 w1 : World} {o v : Value} {z : List Nat} (hS : ∀ k, S k → k < w.heap.size) (h0 : Ext w w0) (h : Digs (Off S w w0 o) w0 v z) (hx : Ext w0 w1) : Digs (Off S w w1 o) w1 v z :=
 h.to (Kept.ext hx (fun k h => z1i hS h0 k h.1)) (fun k h => ⟨z3c hx.size k h.1, h.2⟩)
theorem zto {w w1 : World} {o : Value} {e : TypeId} {size n : Nat} {xs : List Value} (ho : w1.ownsRow (w.heap.size + 1) e size o n xs) {k : Nat} (hk : k < w.heap.size) : some k ≠ o.ownBlock := fun e => by
 have := (ho.lt k e.symm).1
 omega
theorem znd {S : Nat → Prop} {w w1 : World} {o v : Value} {z : List Nat} {e : TypeId} {size n : Nat} {xs : List Value} (hS : ∀ k, S k → k < w.heap.size) (h : Digs S w v z) (hx : Ext w w1) (ho : w1.ownsRow (w.heap.size + 1) e size o n xs) : Digs (Off S w w1 o) w1 v z :=
 h.to (Kept.ext hx hS) (fun k hk => ⟨.inl hk, zto ho (hS k hk)⟩)
theorem z3d {w w1 w2 : World} {o : Value} {e : TypeId} {size n : Nat} {xs : List Value} (hx : Ext w w1) (ho : w1.ownsRow (w.heap.size + 1) e size o n xs) (hg : w1.grownBy w2 o.ownBlock) : Ext w w2 :=
 z0p hx hg (fun k hk => by have := (ho.lt k hk).1; omega)
theorem z9f {S : Nat → Prop} {w w1 : World} {o : Value} {e : TypeId} {size n : Nat} {xs : List Value} (hS : ∀ k, S k → k < w.heap.size) (ho : w1.ownsRow (w.heap.size + 1) e size o n xs) (hx : Ext w w1) : ∀ k, S k → k < w1.heap.size ∧ some k ≠ o.ownBlock := fun k hk =>
 ⟨Nat.lt_of_lt_of_le (hS k hk) hx.size, zto ho (hS k hk)⟩
theorem z8q {S : Nat → Prop} {w w1 : World} {o v2 : Value} {k : Nat} (hS : ∀ k, S k → k < w.heap.size) (hx : Ext w w1) (h : Off S w w1 o k) (hb : v2.ownBlock = o.ownBlock ∨ v2.ownBlock = some (w1.heap.size + 1)) : some k ≠ v2.ownBlock := by
 rcases hb with e | e
 ·rw [e]; exact h.2
 ·rw [e]
  intro e2
  have := z1i hS hx k h.1
  have e3 : k = w1.heap.size + 1 := Option.some.inj e2
  omega
theorem zne (w : World) (a : Addr) (u : Value) : w.grownBy (w.setCell a u) (some a.block) :=
 ⟨rfl, rfl, rfl, Nat.le_of_eq (z0s w a u).symm, fun k _ hne => Below.heap_setCell _ _ _ _ (fun e => hne (by rw [e]))⟩
theorem znf {w1 : World} {b i base : Nat} {o : Value} {e : TypeId} {size n : Nat} {xs : List Value} (ho : w1.ownsRow base e size o n xs) (hb : b < base) (u : Value) : (w1.setCell ⟨b, i, none⟩ u).ownsRow base e size o n xs :=
 ho.kept (zne w1 ⟨b, i, none⟩ u) (by
  cases hv : o.ownBlock with
  | none => exact .inl rfl
  | some k =>
   have := (ho.lt k hv).1
   exact .inr (fun e => by
    have e2 : k = b := Option.some.inj e
    omega))
theorem zur {S : Nat → Prop} {w wb wc : World} {b i j : Nat} {o v x y : Value} {z : List Nat} {base : Nat} {e : TypeId} {size n : Nat} {xs : List Value} (h : Digs (New wb wc) wc v z) (ho : wb.ownsRow base e size o n xs) (hb : b < wb.heap.size) (hw : w.heap.size ≤ wb.heap.size) :
  Digs (Off S w ((wc.setCell ⟨b, i, none⟩ x).setCell ⟨b, j, none⟩ y) o) ((wc.setCell ⟨b, i, none⟩ x).setCell ⟨b, j, none⟩ y) v z := by
 have k1 : Kept (New wb wc) wc (wc.setCell ⟨b, i, none⟩ x) := Kept.setCell (a := ⟨b, i, none⟩) (fun hh => by have := hh.1; simp only at this; omega) x
 have k2 : Kept (New wb wc) (wc.setCell ⟨b, i, none⟩ x) ((wc.setCell ⟨b, i, none⟩ x).setCell ⟨b, j, none⟩ y) := Kept.setCell (a := ⟨b, j, none⟩) (fun hh => by have := hh.1; simp only at this; omega) y
 refine h.to (k1.trans k2) (fun k hk => ⟨.inr ⟨Nat.le_trans hw hk.1, ?_⟩, fun e => ?_⟩)
 ·rw [z0s, z0s]
  exact hk.2
 ·have := (ho.lt k e.symm).2
  have := hk.1
  omega
theorem z7d {S : Nat → Prop} {w w2 w3 : World} {k j n : Nat} {T : TypeId} {v3 : Value} {xs ms news : List Value} {p md q : PZ} (hS : ∀ k, S k → k < w.heap.size) (hx : z1j S w xs (p.take k)) (x3 : Ext w w3) (hm : z1j (Plus S w w3) w3 ms md) (hn : z1j S w2 news (p.drop j)) (hk : Kept S w2 w3)
  (ho : w3.ownsRow (w.heap.size + 1) T 3 v3 n (xs ++ ms ++ news)) (hq : q = p.take k ++ md ++ p.drop j) : RTs (Plus S w w3) w3 v3 q := by
 have hc : z1j (Plus S w w3) w3 (xs ++ ms ++ news) q := by
  rw [hq]
  exact ((hx.to (Kept.ext x3 hS) (fun _ h => .inl h)).append hm).append (hn.to hk (fun _ h => .inl h))
 have hl := hc.length
 have hn' : n = q.length := by
  have := ho.1
  omega
 subst hn'
 exact znc ho hc (fun k h1 h2 => .inr ⟨by omega, h2⟩)
theorem z8r {S : Nat → Prop} (vp vc vm : Value) (p : PZ) (c : Int) (m : Mono) (w : World) (hS : ∀ k, S k → k < w.heap.size) (hp : RTs S w vp p) (hc : ZV S w vc c) (hm : Pows S w vm m) (hmay : z0i p) (hmm : mayM m = true) (hs : szP p) (hsc : szZ c) :
  Calls Tryz.prog 73 #[vp, vc, vm] w fun e w' => ∃ v', e = .returned v' ∧ RTs (Plus S w w') w' v' (putP p c m) ∧ Ext w w' := by
 obtain ⟨i0, hi, hz0, hz1, hz2⟩ := info_parts Tryz.infoT
 have HP := hid hp
 have HM := hid hm
 have HC := hid hc
 have HMY := hid hmay
 have HMM := hid hmm
 have HS := hid hs
 have HSC := hid hsc
 obtain ⟨ap, cp, rfl⟩ := hp.form
 obtain ⟨ac, nc, cc, rfl⟩ := hc.form
 obtain ⟨am, cm, rfl⟩ := hm.form
 have hl := hp.len_le
 clear hp hc hm hmay hmm hs hsc
 obtain ⟨bc, hbc⟩ : ∃ b, b = decide (c < 0) := ⟨_, rfl⟩
 rw [← hbc] at HC ⊢
 have HK := hid (Ext.alloc (Ext.refl w) (.cells #[.bool bc, .slice ac nc cc] 139))
 have HCC := fun (W : World) (hW : Ext (w.alloc (.cells #[.bool bc, .slice ac nc cc] 139)) W) => new2 hW
 have HCC := hid HCC
 have HBZ := hid hbc
 have HDC : Hid (Digs S w (.slice ac nc cc) (rep 10 c.natAbs)) := by
  obtain ⟨vd, e1, e2⟩ := HC.out
  have e3 : Value.slice ac nc cc = vd := by simp at e1; exact e1.2
  rw [e3]
  exact hid e2
 clear hbc
 go_enter Tryz.func73, Tryz.ntmps73
 go_wp2
 go_loopw [7, 8] (fun o v wr => ∃ k xs, k ≤ p.length ∧ v = .int .i64 (k : Nat) ∧ Ext (w.alloc (.cells #[.bool bc, .slice ac nc cc] 139)) wr ∧ Hid (∀ j t, j < k → p[j]? = some t → z0f t.2 m = 1) ∧ Hid (wr.ownsRow (w.heap.size + 1) 141 3 o k xs) ∧ Hid (z1j S w xs (p.take k))) (fun _ v _ => p.length - (intOf v).toNat)
 case atStart => exact ⟨0, [], Nat.zero_le _, rfl, Ext.refl _, hid (fun j t hj => by omega), hid (World.ownsRow_nil _ _ _ _), hid rfl⟩
 case round =>
  obtain ⟨k, xs, hk, rfl, hx, HPR, HW, HXS⟩ := hrel
  have HX := hid hx
  by_cases hlt : k < p.length
  ·obtain ⟨t, ht⟩ := z00 hlt
   obtain ⟨b, off, vd, vo, rfl, -, hn1, hm1, hSb, h1, h2, h3, h4, h5⟩ := HP.out.cellAt ht
   have HT := hid ht
   have H4 := hid h4
   have H5 := hid h5
   obtain ⟨ad, cd, rfl⟩ := h4.form
   obtain ⟨ao, co, rfl⟩ := h5.form
   have HXW0 := hid (HK.out.trans hx)
   have g1 := HXW0.out.cell h1
   have g2 := HXW0.out.cell h2
   have g3 := HXW0.out.cell h3
   have HTM := hid (HMY.out t (List.mem_of_getElem? ht))
   have HSZT := hid (HS.out.2 t (List.mem_of_getElem? ht))
   have CO := fun (W : World) (hW : Ext w W) => z8o (S := S) _ _ t.2 m W (H5.out.ext hW hS) (HM.out.ext hW hS) (z08 hS hW)
   rw [zmq HTM.out HMM.out] at CO
   obtain ⟨rc, hrc⟩ : ∃ r, z0f t.2 m = r := ⟨_, rfl⟩
   rw [hrc] at CO
   have hcs : rc = 1 ∨ rc = 0 ∨ rc = -1 := by rw [← hrc]; rcases z1c HTM.out HMM.out with h | h | h <;> omega
   have HCO := hid CO
   have HRC := hid hrc
   obtain ⟨bt, hbt⟩ : ∃ b, b = decide (t.1 < 0) := ⟨_, rfl⟩
   obtain ⟨nt, hnt⟩ : ∃ n, n = (rep 10 t.1.natAbs).length := ⟨_, rfl⟩
   rw [← hbt] at g1
   rw [← hnt] at g2 H4
   have HBT := hid hbt
   have HTK : Hid (p.take (k + 1) = p.take k ++ [t]) := hid (by rw [List.take_add_one, ht]; rfl)
   have HSZ0 : Hid (w.heap.size + 1 ≤ wr.heap.size) := hid (by have := hx.size; rw [z02] at this; exact this)
   clear CO hrc hx ht h1 h2 h3 h4 h5 hbt hnt
   rcases hcs with rfl | rfl | rfl
   ·go_wp2_with fail
    refine (HCO.out wr HXW0.out).mono ?_
    rintro e w1 ⟨rfl, hx1⟩
    have HX1 := hid (HX.out.trans hx1)
    have HW1 := hid (z0z HW.out hx1)
    have HSZ1 : Hid (w.heap.size + 1 ≤ w1.heap.size) := hid (Nat.le_trans HSZ0.out hx1.size)
    have k1 := hx1.cell g1
    have k2 := hx1.cell g2
    have k3 := hx1.cell g3
    clear hx1 g1 g2 g3
    go_wp2_with (at_builtin; refine z1q _ rfl (.tmp 23) (.tmp 28) 35 rfl (w.heap.size + 1) 141 (.agg #[.bool false, .slice none 0 0, .slice none 0 0]) 3 56 Tryz.underlying35 Tryz.infoT rfl (by decide) _ k xs rfl HW1.out #[.bool bt, .slice ad nt cd, .slice ao t.2.length co] rfl (z28 rfl rfl rfl) rfl (by have := HS.out.1; omega) (by decide) HSZ1.out ?_; intro v2 w2 hown hg _; have HW2 := hid hown; have HX2 := hid (z0p HX1.out hg (fun j hj => by have := (HW1.out.lt j hj).1; rw [z02]; exact this)); clear hown hg)
    go_roundw
    case rel =>
     refine ⟨k + 1, xs ++ (#[.bool bt, .slice ad nt cd, .slice ao t.2.length co] : Array Value).toList, by omega, by go_num, HX2.out, hid (fun j u hj hu => ?_), HW2, hid ?_⟩
     ·by_cases e : j = k
      ·subst e
       have := HT.out.symm.trans hu
       cases this
       exact HRC.out
      ·exact HPR.out j u (by omega) hu
     ·rw [HTK.out]
      refine HXS.out.append ?_
      rw [HBT.out]
      exact z1j.single H4.out H5.out
    case measure => simp only [intOf]; omega
   ·go_wp2_with fail
    refine (HCO.out wr HXW0.out).mono ?_
    rintro e wa ⟨rfl, hxa⟩
    have HXA := hid (HX.out.trans hxa)
    have k1 := hxa.cell g1
    have k2 := hxa.cell g2
    have k3 := hxa.cell g3
    have HWA := hid (z0z HW.out hxa)
    clear hxa g1 g2 g3
    go_wp2_with fail
    refine (HCO.out wa (HK.out.trans HXA.out)).mono ?_
    rintro e wb ⟨rfl, hxb⟩
    have HXB := hid (HXA.out.trans hxb)
    have l1 := hxb.cell k1
    have l2 := hxb.cell k2
    have l3 := hxb.cell k3
    have HWB := hid (z0z HWA.out hxb)
    obtain ⟨c0, c1, f0, f1⟩ := HCC.out wb HXB.out
    have HKB := hid (HK.out.trans HXB.out.drew)
    have CA := zun (S := S) _ _ c t.1 wb.drew (HC.out.ext HKB.out hS) (show ZV S wb.drew (.agg #[.bool (decide (t.1 < 0)), .slice ad nt cd]) t.1 from ⟨_, rfl, H4.out.ext HKB.out hS⟩) (z08 hS HKB.out) HSC.out HSZT.out
    rw [← HBT.out] at CA
    have HCA := hid CA
    clear hxb k1 k2 k3 CA
    go_wp2
    go_still_tail 6, (by kernel_rfl)
    change wpList _ _ _ _ _ wb.drew
    go_wp2_with fail
    refine HCA.out.mono ?_
    rintro e wc ⟨vs, rfl, hzv, hxc⟩
    obtain ⟨vd2, rfl, hd2⟩ := hzv
    have HD2 := hid hd2
    obtain ⟨aq, cs, rfl⟩ := hd2.form
    obtain ⟨ns, hns⟩ : ∃ n, n = (rep 10 (c + t.1).natAbs).length := ⟨_, rfl⟩
    obtain ⟨bs, hbs⟩ : ∃ b, b = decide (c + t.1 < 0) := ⟨_, rfl⟩
    have HBZ := hid hbs
    rw [← hns] at HD2 ⊢
    rw [← hbs]
    obtain ⟨q0, q1, p0, p1⟩ := HCC.out wc (HXB.out.drew.trans hxc)
    obtain ⟨e0, e1⟩ := z1o (.bool bs) (.slice aq ns cs) q0 q1
    have HWC := hid (znf (i := 1) (znf (i := 0) (z0z HWB.out ((Ext.refl wb).drew.trans hxc)) (Nat.lt_succ_self w.heap.size) (.bool bs)) (Nat.lt_succ_self w.heap.size) (.slice aq ns cs))
    have HSZC : Hid (w.heap.size + 1 ≤ wb.heap.size) := hid (by have := HXB.out.size; rw [z02] at this; exact this)
    have HXC := hid (((HKB.out.trans hxc).setCell (p := ⟨w.heap.size, 0, none⟩) (Nat.le_refl _) (.bool bs)).setCell (p := ⟨w.heap.size, 1, none⟩) (Nat.le_refl _) (.slice aq ns cs))
    have HSZ2 : Hid (w.heap.size + 1 ≤ ((wc.setCell ⟨w.heap.size, 0, none⟩ (.bool bs)).setCell ⟨w.heap.size, 1, none⟩ (.slice aq ns cs)).heap.size) := hid (by rw [z0s, z0s]; exact Nat.le_trans HSZC.out hxc.size)
    have HDC2 := hid (zur (wb := wb.drew) (b := w.heap.size) (i := 0) (j := 1) (x := .bool bs) (y := .slice aq ns cs) HD2.out (z0z HWB.out ((Ext.refl wb).drew)) HSZC.out (Nat.le_trans (Nat.le_succ _) HSZC.out) (S := S) (w := w))
    have HPE := hid (zr5 (c := c) HPR.out HT.out HRC.out)
    have HJ : Hid (k + 1 ≤ p.length) := hid hlt
    clear hxc hd2 hns hbs c0 c1
    go_wp2_with fail
    obtain ⟨wz, hwz⟩ : ∃ W, W = (wc.setCell ⟨w.heap.size, 0, none⟩ (.bool bs)).setCell ⟨w.heap.size, 1, none⟩ (.slice aq ns cs) := ⟨_, rfl⟩
    rw [← hwz] at HWC HXC HSZ2 HDC2 e0 e1 ⊢
    have HW := HWC
    have HXW : Hid (Ext w wz) := HXC
    have HSZ := HSZ2
    have HDZ := HDC2
    have c0 := e0
    have c1 := e1
    clear hwz q0 q1 p0 p1 f0 f1 HWC HXC HSZ2 HDC2 e0 e1 HD2
    by_cases hz : c + t.1 = 0
    ·have CS := hid (show Calls Tryz.prog 123 #[.agg #[.bool bs, .slice aq ns cs]] wz fun e w' => e = .returned (.int .i64 0) ∧ Ext wz w' from by have h := z7b (S := Off S w wz u7) _ (c + t.1) wz ⟨_, rfl, HDZ.out⟩; rw [← HBZ.out, show z2d (c + t.1) = 0 by rw [hz]; rfl] at h; exact h)
     have HZ := hid hz
     clear hz
     refine CS.out.mono ?_
     rintro e w1 ⟨rfl, hx1⟩
     have HX1 := hid (HXW.out.trans hx1)
     have HW1 := hid (z0z HW.out hx1)
     have HSZ1 : Hid (w.heap.size + 1 ≤ w1.heap.size) := hid (Nat.le_trans HSZ.out hx1.size)
     have HD1 := hid (z9e hS HXW.out HDZ.out hx1)
     clear hx1
     go_wp2_with (first | (refine z1r _ rfl (.tmp 65) (.tmp 66) 35 141 rfl Tryz.underlying35 Tryz.infoT (some ⟨b, off, none⟩) p.length cp (k + 1) rfl rfl HJ.out ?_; intro A' hA'; obtain ⟨news, hsrc, hcs⟩ := z4j (HP.out.ext HX1.out hS) HJ.out hA'; have HSRC := hid hsrc; have HCS := hid hcs; clear hA' hsrc hcs) | (at_builtin; refine z0v _ rfl (.tmp 64) (.tmp 67) 35 rfl (w.heap.size + 1) 141 i0 (.agg #[.bool false, .slice none 0 0, .slice none 0 0]) 3 56 Tryz.underlying35 hi hz0 hz1 hz2 rfl (by decide) _ ((k)) xs rfl HW1.out A' (p.length - (k + 1)) _ news rfl HSRC.out (by have := HS.out.1; unfold maxLen; omega) (by have := HS.out.1; omega) HSZ1.out ?_; intro v3 w3 hown hg _; have HW3 := hid hown; have HG3 := hid hg; clear hown hg))
     go_ret
     have hx3 := z3d HX1.out HW1.out HG3.out
     refine ⟨_, rfl, z7d (w := w) hS (ms := []) (md := []) HXS.out hx3 rfl HCS.out (Kept.grown HG3.out (z9f hS HW1.out HX1.out)) (by simpa using HW3.out) (by rw [HPE.out, zba HZ.out]), hx3⟩
    ·have CS := hid (show Calls Tryz.prog 123 #[.agg #[.bool bs, .slice aq ns cs]] wz fun e w' => e = .returned (.int .i64 (z2d (c + t.1))) ∧ Ext wz w' from by rw [HBZ.out]; exact z7b (S := Off S w wz u7) _ (c + t.1) wz ⟨_, rfl, HDZ.out⟩)
     have hsn := zhk hz
     have HZ := hid hz
     clear hz
     refine CS.out.mono ?_
     rintro e w1 ⟨rfl, hx1⟩
     have HX1 := hid (HXW.out.trans hx1)
     have HW1 := hid (z0z HW.out hx1)
     have HSZ1 : Hid (w.heap.size + 1 ≤ w1.heap.size) := hid (Nat.le_trans HSZ.out hx1.size)
     have HD1 := hid (z9e hS HXW.out HDZ.out hx1)
     have k0 := hx1.cell c0
     have k1 := hx1.cell c1
     clear hx1
     go_wp2_with (first | (refine z1r _ rfl (.tmp 65) (.tmp 66) 35 141 rfl Tryz.underlying35 Tryz.infoT (some ⟨b, off, none⟩) p.length cp (k + 1) rfl rfl HJ.out ?_; intro A' hA'; obtain ⟨news, hsrc, hcs⟩ := z4j (HP.out.ext HX2.out hS) HJ.out hA'; have HSRC := hid hsrc; have HCS := hid hcs; clear hA' hsrc hcs) | (first | (at_builtin; refine z1q _ rfl (.tmp 58) (.tmp 62) 35 rfl (w.heap.size + 1) 141 (.agg #[.bool false, .slice none 0 0, .slice none 0 0]) 3 56 Tryz.underlying35 Tryz.infoT rfl (by decide) _ (k) xs rfl HW1.out #[.bool bs, .slice aq ns cs, .slice am m.length cm] rfl (z28 rfl rfl rfl) rfl (by have := HS.out.1; omega) (by decide) HSZ1.out ?_; intro v2 w2 hown hg hbk; have HW2 := hid hown; have HG2 := hid hg; have HBK := hid hbk; have HX2 := hid (z3d HX1.out HW1.out hg); have HSZ2 : Hid (w.heap.size + 1 ≤ w2.heap.size) := hid (Nat.le_trans HSZ1.out hg.size); clear hown hg hbk) | (at_builtin; refine z0v _ rfl (.tmp 64) (.tmp 67) 35 rfl (w.heap.size + 1) 141 i0 (.agg #[.bool false, .slice none 0 0, .slice none 0 0]) 3 56 Tryz.underlying35 hi hz0 hz1 hz2 rfl (by decide) _ ((k) + 1) (xs ++ (#[.bool bs, .slice aq ns cs, .slice am m.length cm] : Array Value).toList) rfl HW2.out A' (p.length - (k + 1)) _ news rfl HSRC.out (by have := HS.out.1; unfold maxLen; omega) (by have := HS.out.1; omega) HSZ2.out ?_; intro v3 w3 hown hg _; have HW3 := hid hown; have HG3 := hid hg; clear hown hg)))
     go_ret
     have hx3 := z3d HX2.out HW2.out HG3.out
     have hmid : z1j (Plus S w w3) w3 [.bool bs, .slice aq ns cs, .slice am m.length cm] [(c + t.1, m)] := by
      have hd := Digs.to HD1.out (Kept.grown HG2.out (fun j hj => ⟨z1i hS HX1.out j hj.1, hj.2⟩)) (fun _ h => h)
      have hd3 := Digs.to hd (Kept.grown HG3.out (fun j hj => ⟨Nat.lt_of_lt_of_le (z1i hS HX1.out j hj.1) HG2.out.size, z8q hS HX1.out hj HBK.out⟩)) (S' := Plus S w w3) (fun j hj => z3c (Nat.le_trans HG2.out.size HG3.out.size) j hj.1)
      rw [HBZ.out]
      exact z1j.single (t := (c + t.1, m)) hd3 (HM.out.to (Kept.ext hx3 hS) (fun _ h => .inl h))
     refine ⟨_, rfl, z7d (w := w) hS (ms := [.bool bs, .slice aq ns cs, .slice am m.length cm]) (md := [(c + t.1, m)]) HXS.out hx3 hmid HCS.out (Kept.grown HG3.out (z9f hS HW2.out HX2.out)) HW3.out (by rw [HPE.out, zbb HZ.out]), hx3⟩
   ·go_wp2_with fail
    refine (HCO.out wr HXW0.out).mono ?_
    rintro e wa ⟨rfl, hxa⟩
    have HXA := hid (HX.out.trans hxa)
    have k1 := hxa.cell g1
    have k2 := hxa.cell g2
    have k3 := hxa.cell g3
    have HWA := hid (z0z HW.out hxa)
    clear hxa g1 g2 g3
    go_wp2_with fail
    refine (HCO.out wa (HK.out.trans HXA.out)).mono ?_
    rintro e wz ⟨rfl, hxb⟩
    have HXB := hid (HXA.out.trans hxb)
    have HW := hid (z0z HWA.out hxb)
    have HXW := hid (HK.out.trans HXB.out)
    have HSZ : Hid (w.heap.size + 1 ≤ wz.heap.size) := hid (by have := HXB.out.size; rw [z02] at this; exact this)
    obtain ⟨c0, c1, f0, f1⟩ := HCC.out wz HXB.out
    have HDZ := hid (znd hS HDC.out HXW.out HW.out)
    have HPE := hid (zr6 (c := c) HPR.out HT.out (by rw [HRC.out]; decide) (by rw [HRC.out]; decide))
    have HJ : Hid (k ≤ p.length) := hid hk
    clear hxb k1 k2 k3
    by_cases hz : c = 0
    ·have CS := hid (show Calls Tryz.prog 123 #[.agg #[.bool bc, .slice ac nc cc]] wz fun e w' => e = .returned (.int .i64 0) ∧ Ext wz w' from by have h := z7b (S := Off S w wz u7) _ (c) wz ⟨_, rfl, HDZ.out⟩; rw [← HBZ.out, show z2d (c) = 0 by rw [hz]; rfl] at h; exact h)
     have HZ := hid hz
     clear hz
     go_wp2_with fail
     refine CS.out.mono ?_
     rintro e w1 ⟨rfl, hx1⟩
     have HX1 := hid (HXW.out.trans hx1)
     have HW1 := hid (z0z HW.out hx1)
     have HSZ1 : Hid (w.heap.size + 1 ≤ w1.heap.size) := hid (Nat.le_trans HSZ.out hx1.size)
     have HD1 := hid (z9e hS HXW.out HDZ.out hx1)
     clear hx1
     go_wp2_with (first | (refine z1r _ rfl (.tmp 65) (.tmp 66) 35 141 rfl Tryz.underlying35 Tryz.infoT (some ⟨b, off, none⟩) p.length cp (k) rfl rfl HJ.out ?_; intro A' hA'; obtain ⟨news, hsrc, hcs⟩ := z4j (HP.out.ext HX1.out hS) HJ.out hA'; have HSRC := hid hsrc; have HCS := hid hcs; clear hA' hsrc hcs) | (at_builtin; refine z0v _ rfl (.tmp 64) (.tmp 67) 35 rfl (w.heap.size + 1) 141 i0 (.agg #[.bool false, .slice none 0 0, .slice none 0 0]) 3 56 Tryz.underlying35 hi hz0 hz1 hz2 rfl (by decide) _ ((k)) xs rfl HW1.out A' (p.length - (k)) _ news rfl HSRC.out (by have := HS.out.1; unfold maxLen; omega) (by have := HS.out.1; omega) HSZ1.out ?_; intro v3 w3 hown hg _; have HW3 := hid hown; have HG3 := hid hg; clear hown hg))
     go_ret
     have hx3 := z3d HX1.out HW1.out HG3.out
     refine ⟨_, rfl, z7d (w := w) hS (ms := []) (md := []) HXS.out hx3 rfl HCS.out (Kept.grown HG3.out (z9f hS HW1.out HX1.out)) (by simpa using HW3.out) (by rw [HPE.out, zba HZ.out]), hx3⟩
    ·have CS := hid (show Calls Tryz.prog 123 #[.agg #[.bool bc, .slice ac nc cc]] wz fun e w' => e = .returned (.int .i64 (z2d (c))) ∧ Ext wz w' from by rw [HBZ.out]; exact z7b (S := Off S w wz u7) _ (c) wz ⟨_, rfl, HDZ.out⟩)
     have hsn := zhk hz
     have HZ := hid hz
     clear hz
     go_wp2_with fail
     refine CS.out.mono ?_
     rintro e w1 ⟨rfl, hx1⟩
     have HX1 := hid (HXW.out.trans hx1)
     have HW1 := hid (z0z HW.out hx1)
     have HSZ1 : Hid (w.heap.size + 1 ≤ w1.heap.size) := hid (Nat.le_trans HSZ.out hx1.size)
     have HD1 := hid (z9e hS HXW.out HDZ.out hx1)
     have k0 := hx1.cell c0
     have k1 := hx1.cell c1
     clear hx1
     go_wp2_with (first | (refine z1r _ rfl (.tmp 65) (.tmp 66) 35 141 rfl Tryz.underlying35 Tryz.infoT (some ⟨b, off, none⟩) p.length cp (k) rfl rfl HJ.out ?_; intro A' hA'; obtain ⟨news, hsrc, hcs⟩ := z4j (HP.out.ext HX2.out hS) HJ.out hA'; have HSRC := hid hsrc; have HCS := hid hcs; clear hA' hsrc hcs) | (first | (at_builtin; refine z1q _ rfl (.tmp 58) (.tmp 62) 35 rfl (w.heap.size + 1) 141 (.agg #[.bool false, .slice none 0 0, .slice none 0 0]) 3 56 Tryz.underlying35 Tryz.infoT rfl (by decide) _ (k) xs rfl HW1.out #[.bool bc, .slice ac nc cc, .slice am m.length cm] rfl (z28 rfl rfl rfl) rfl (by have := HS.out.1; omega) (by decide) HSZ1.out ?_; intro v2 w2 hown hg hbk; have HW2 := hid hown; have HG2 := hid hg; have HBK := hid hbk; have HX2 := hid (z3d HX1.out HW1.out hg); have HSZ2 : Hid (w.heap.size + 1 ≤ w2.heap.size) := hid (Nat.le_trans HSZ1.out hg.size); clear hown hg hbk) | (at_builtin; refine z0v _ rfl (.tmp 64) (.tmp 67) 35 rfl (w.heap.size + 1) 141 i0 (.agg #[.bool false, .slice none 0 0, .slice none 0 0]) 3 56 Tryz.underlying35 hi hz0 hz1 hz2 rfl (by decide) _ ((k) + 1) (xs ++ (#[.bool bc, .slice ac nc cc, .slice am m.length cm] : Array Value).toList) rfl HW2.out A' (p.length - (k)) _ news rfl HSRC.out (by have := HS.out.1; unfold maxLen; omega) (by have := HS.out.1; omega) HSZ2.out ?_; intro v3 w3 hown hg _; have HW3 := hid hown; have HG3 := hid hg; clear hown hg)))
     go_ret
     have hx3 := z3d HX2.out HW2.out HG3.out
     have hmid : z1j (Plus S w w3) w3 [.bool bc, .slice ac nc cc, .slice am m.length cm] [(c, m)] := by
      have hd := Digs.to HD1.out (Kept.grown HG2.out (fun j hj => ⟨z1i hS HX1.out j hj.1, hj.2⟩)) (fun _ h => h)
      have hd3 := Digs.to hd (Kept.grown HG3.out (fun j hj => ⟨Nat.lt_of_lt_of_le (z1i hS HX1.out j hj.1) HG2.out.size, z8q hS HX1.out hj HBK.out⟩)) (S' := Plus S w w3) (fun j hj => z3c (Nat.le_trans HG2.out.size HG3.out.size) j hj.1)
      rw [HBZ.out]
      exact z1j.single (t := (c, m)) hd3 (HM.out.to (Kept.ext hx3 hS) (fun _ h => .inl h))
     refine ⟨_, rfl, z7d (w := w) hS (ms := [.bool bc, .slice ac nc cc, .slice am m.length cm]) (md := [(c, m)]) HXS.out hx3 hmid HCS.out (Kept.grown HG3.out (z9f hS HW2.out HX2.out)) HW3.out (by rw [HPE.out, zbb HZ.out]), hx3⟩
  ·obtain rfl : k = p.length := by omega
   obtain ⟨c0, c1, f0, f1⟩ := HCC.out wr hx
   have HPE := hid (zuq (c := c) HPR.out rfl)
   have HJ : Hid (p.length ≤ p.length) := hid (Nat.le_refl _)
   have HXW := hid (HK.out.trans hx)
   have HSZ : Hid (w.heap.size + 1 ≤ wr.heap.size) := hid (by have := hx.size; rw [z02] at this; exact this)
   have HDZ := hid (znd hS HDC.out HXW.out HW.out)
   clear hx
   by_cases hz : c = 0
   ·have CS := hid (show Calls Tryz.prog 123 #[.agg #[.bool bc, .slice ac nc cc]] wr fun e w' => e = .returned (.int .i64 0) ∧ Ext wr w' from by have h := z7b (S := Off S w wr u7) _ (c) wr ⟨_, rfl, HDZ.out⟩; rw [← HBZ.out, show z2d (c) = 0 by rw [hz]; rfl] at h; exact h)
    have HZ := hid hz
    clear hz
    go_wp2_with fail
    refine CS.out.mono ?_
    rintro e w1 ⟨rfl, hx1⟩
    have HX1 := hid (HXW.out.trans hx1)
    have HW1 := hid (z0z HW.out hx1)
    have HSZ1 : Hid (w.heap.size + 1 ≤ w1.heap.size) := hid (Nat.le_trans HSZ.out hx1.size)
    have HD1 := hid (z9e hS HXW.out HDZ.out hx1)
    clear hx1
    go_wp2_with (first | (refine z1r _ rfl (.tmp 65) (.tmp 66) 35 141 rfl Tryz.underlying35 Tryz.infoT ap p.length cp (p.length) rfl rfl HJ.out ?_; intro A' hA'; obtain ⟨news, hsrc, hcs⟩ := z4j (HP.out.ext HX1.out hS) HJ.out hA'; have HSRC := hid hsrc; have HCS := hid hcs; clear hA' hsrc hcs) | (at_builtin; refine z0v _ rfl (.tmp 64) (.tmp 67) 35 rfl (w.heap.size + 1) 141 i0 (.agg #[.bool false, .slice none 0 0, .slice none 0 0]) 3 56 Tryz.underlying35 hi hz0 hz1 hz2 rfl (by decide) _ ((p.length)) xs rfl HW1.out A' (p.length - (p.length)) _ news rfl HSRC.out (by have := HS.out.1; unfold maxLen; omega) (by have := HS.out.1; omega) HSZ1.out ?_; intro v3 w3 hown hg _; have HW3 := hid hown; have HG3 := hid hg; clear hown hg))
    go_ret
    have hx3 := z3d HX1.out HW1.out HG3.out
    refine ⟨_, rfl, z7d (w := w) hS (ms := []) (md := []) HXS.out hx3 rfl HCS.out (Kept.grown HG3.out (z9f hS HW1.out HX1.out)) (by simpa using HW3.out) (by rw [HPE.out, zba HZ.out]), hx3⟩
   ·have CS := hid (show Calls Tryz.prog 123 #[.agg #[.bool bc, .slice ac nc cc]] wr fun e w' => e = .returned (.int .i64 (z2d (c))) ∧ Ext wr w' from by rw [HBZ.out]; exact z7b (S := Off S w wr u7) _ (c) wr ⟨_, rfl, HDZ.out⟩)
    have hsn := zhk hz
    have HZ := hid hz
    clear hz
    go_wp2_with fail
    refine CS.out.mono ?_
    rintro e w1 ⟨rfl, hx1⟩
    have HX1 := hid (HXW.out.trans hx1)
    have HW1 := hid (z0z HW.out hx1)
    have HSZ1 : Hid (w.heap.size + 1 ≤ w1.heap.size) := hid (Nat.le_trans HSZ.out hx1.size)
    have HD1 := hid (z9e hS HXW.out HDZ.out hx1)
    have k0 := hx1.cell c0
    have k1 := hx1.cell c1
    clear hx1
    go_wp2_with (first | (refine z1r _ rfl (.tmp 65) (.tmp 66) 35 141 rfl Tryz.underlying35 Tryz.infoT ap p.length cp (p.length) rfl rfl HJ.out ?_; intro A' hA'; obtain ⟨news, hsrc, hcs⟩ := z4j (HP.out.ext HX2.out hS) HJ.out hA'; have HSRC := hid hsrc; have HCS := hid hcs; clear hA' hsrc hcs) | (first | (at_builtin; refine z1q _ rfl (.tmp 58) (.tmp 62) 35 rfl (w.heap.size + 1) 141 (.agg #[.bool false, .slice none 0 0, .slice none 0 0]) 3 56 Tryz.underlying35 Tryz.infoT rfl (by decide) _ (p.length) xs rfl HW1.out #[.bool bc, .slice ac nc cc, .slice am m.length cm] rfl (z28 rfl rfl rfl) rfl (by have := HS.out.1; omega) (by decide) HSZ1.out ?_; intro v2 w2 hown hg hbk; have HW2 := hid hown; have HG2 := hid hg; have HBK := hid hbk; have HX2 := hid (z3d HX1.out HW1.out hg); have HSZ2 : Hid (w.heap.size + 1 ≤ w2.heap.size) := hid (Nat.le_trans HSZ1.out hg.size); clear hown hg hbk) | (at_builtin; refine z0v _ rfl (.tmp 64) (.tmp 67) 35 rfl (w.heap.size + 1) 141 i0 (.agg #[.bool false, .slice none 0 0, .slice none 0 0]) 3 56 Tryz.underlying35 hi hz0 hz1 hz2 rfl (by decide) _ ((p.length) + 1) (xs ++ (#[.bool bc, .slice ac nc cc, .slice am m.length cm] : Array Value).toList) rfl HW2.out A' (p.length - (p.length)) _ news rfl HSRC.out (by have := HS.out.1; unfold maxLen; omega) (by have := HS.out.1; omega) HSZ2.out ?_; intro v3 w3 hown hg _; have HW3 := hid hown; have HG3 := hid hg; clear hown hg)))
    go_ret
    have hx3 := z3d HX2.out HW2.out HG3.out
    have hmid : z1j (Plus S w w3) w3 [.bool bc, .slice ac nc cc, .slice am m.length cm] [(c, m)] := by
     have hd := Digs.to HD1.out (Kept.grown HG2.out (fun j hj => ⟨z1i hS HX1.out j hj.1, hj.2⟩)) (fun _ h => h)
     have hd3 := Digs.to hd (Kept.grown HG3.out (fun j hj => ⟨Nat.lt_of_lt_of_le (z1i hS HX1.out j hj.1) HG2.out.size, z8q hS HX1.out hj HBK.out⟩)) (S' := Plus S w w3) (fun j hj => z3c (Nat.le_trans HG2.out.size HG3.out.size) j hj.1)
     rw [HBZ.out]
     exact z1j.single (t := (c, m)) hd3 (HM.out.to (Kept.ext hx3 hS) (fun _ h => .inl h))
    refine ⟨_, rfl, z7d (w := w) hS (ms := [.bool bc, .slice ac nc cc, .slice am m.length cm]) (md := [(c, m)]) HXS.out hx3 hmid HCS.out (Kept.grown HG3.out (z9f hS HW2.out HX2.out)) HW3.out (by rw [HPE.out, zbb HZ.out]), hx3⟩
end
section
open Go.RowKit
theorem zr7 {p : PZ} {c : Int} {m : Mono} (hp : z0i p) (hm : mayM m = true) : z0i (putP p c m) := fun t ht => by
 rcases zia ht with h | h
 ·exact hp t h
 ·rw [h]; exact hm
theorem zim {p l : PZ} (hp : z0i p) (hl : z0i l) : z0i (addP p l) := by
 induction l generalizing p with
 | nil => exact hp
 | cons t r ih => exact ih (zr7 hp (hl t (by simp))) (fun u hu => hl u (by simp [hu]))
theorem zbc (p l : PZ) (t : Int × Mono) : addP p (l ++ [t]) = putP (addP p l) t.1 t.2 := by
 unfold addP
 rw [List.foldl_append]
 rfl
theorem zin {l : PZ} (h : z0i l) (k : Nat) : z0i (l.take k) := fun t ht => h t (List.mem_of_mem_take ht)
theorem zwu {ts : List RTerm} {k : Nat} {t : RTerm} (h : ts[k]? = some t) : (toP ts).take (k + 1) = (toP ts).take k ++ [(valI t.c, t.m)] := by
 rw [List.take_add_one]
 unfold toP
 rw [List.getElem?_map, h]
 rfl
theorem z6n {S : Nat → Prop} {w w1 w2 : World} (h1 : Ext w w1) (h2 : Ext w1 w2) : ∀ k, Plus (Plus S w w1) w1 w2 k → Plus S w w2 k := fun k hk => by
 rcases hk with (h | h) | h
 ·exact .inl h
 ·exact .inr ⟨h.1, Nat.lt_of_lt_of_le h.2 h2.size⟩
 ·exact .inr ⟨Nat.le_trans h1.size h.1, h.2⟩
theorem zaj {S : Nat → Prop} {w w1 w2 : World} (h1 : w.heap.size ≤ w1.heap.size) : ∀ k, New w1 w2 k → Plus S w w2 k := fun _k hk => .inr ⟨Nat.le_trans h1 hk.1, hk.2⟩
theorem RTs.later {S : Nat → Prop} {w w1 w2 : World} {v : Value} {p : PZ} (hS : ∀ k, S k → k < w.heap.size) (h : RTs (Plus S w w1) w1 v p) (h1 : Ext w w1) (h2 : Ext w1 w2) : RTs (Plus S w w2) w2 v p :=
 h.to (Kept.ext h2 (z1i hS h1)) (z3c h2.size)
theorem z5m (ts : List RTerm) : (toP ts).length = ts.length := by unfold toP; rw [List.length_map]
theorem zr8 {S : Nat → Prop} (v : Value) (ts : List RTerm) (w : World) (h : z05 S w v ts) (hS : ∀ k, S k → k < w.heap.size) (hr : zuo ts) (hmay : z0i (toP ts)) (hsz : ∀ k, k ≤ ts.length → szP (addP [] ((toP ts).take k))) :
  Calls Tryz.prog 36 #[v] w fun e w' => ∃ v', e = .returned v' ∧ RTs (Plus S w w') w' v' (z0m (toP ts)) ∧ Ext w w' := by
 have hl := h.len_le
 have H := hid h
 have HR := hid hr
 have HMY := hid hmay
 have HSZ := hid hsz
 have HST := hid (fun k (x : RTerm) => zwu (ts := ts) (k := k) (t := x))
 obtain ⟨P, hP⟩ : ∃ P, P = toP ts := ⟨_, rfl⟩
 rw [← hP] at HMY HSZ ⊢
 have HP := hid hP
 obtain ⟨a, cap, rfl⟩ := h.form
 clear h hr hmay hsz hP
 go_enter Tryz.func36, Tryz.ntmps36
 go_wp2
 go_loopw [3, 4] (fun o i wr => ∃ k : Nat, k ≤ ts.length ∧ i = .int .i64 k ∧ Ext w wr ∧ Hid (RTs (Plus S w wr) wr o (addP [] (P.take k)))) (fun _ i _ => ts.length - (intOf i).toNat)
 case atStart => exact ⟨0, Nat.zero_le _, rfl, Ext.refl _, hid (RTs.nilv _ _ _ _ (by omega))⟩
 case round =>
  obtain ⟨k, hk, rfl, hx, HO⟩ := hrel
  have HX := hid hx
  by_cases hlt : k < ts.length
  ·obtain ⟨t, ht⟩ := z00 hlt
   obtain ⟨b, off, vm, vo, rfl, -, hn1, hm1, hSb, h1, h2, h3, h4, h5⟩ := H.out.cellAt ht
   have hsm := HR.out t (List.mem_of_getElem? ht)
   have HTK := hid (HST.out k t ht)
   have HTM : Hid (mayM t.m = true) := hid (HMY.out (valI t.c, t.m) (by rw [HP.out]; exact List.mem_map.2 ⟨t, List.mem_of_getElem? ht, rfl⟩))
   have HV : Hid (szZ (valI t.c)) := hid (zn8 h4.lt hsm)
   obtain ⟨⟨ng, zs⟩, m⟩ := t
   simp only at h1 h2 h3 h4 h5 hsm HTM HV HTK
   have H4 := hid h4
   have H5 := hid h5
   obtain ⟨am, cm, rfl⟩ := h4.form
   obtain ⟨ao, co, rfl⟩ := h5.form
   have x0 : Ext w wr.drew := hx.drew
   have HX0 := hid x0
   have S0 : _ ∧ _ ∧ _ := And.intro (x0.cell h1) (And.intro (x0.cell h2) (x0.cell h3))
   have C1 := hid (ztm (S := S) _ ⟨ng, zs⟩ wr.drew (z21 (H4.out.ext x0 hS)) (z08 hS x0) hsm)
   clear ht h1 h2 h3 h4 h5 hx hsm x0
   go_wp2
   go_region_held3 (fun W => W.cell? ⟨b, off + k * 3, none⟩ = some (.bool ng) ∧ W.cell? ⟨b, off + k * 3 + 1, none⟩ = some (.slice am zs.length cm) ∧ W.cell? ⟨b, off + k * 3 + 2, none⟩ = some (.slice ao m.length co)) (first | exact S0 | exact S1 | exact S2)
    (first
     | (go_at_call 77; (with_reducible refine C1.out.mono ?_); rintro e w1 ⟨v1, rfl, hz1, hx1⟩; have S1 : _ ∧ _ ∧ _ := And.intro (hx1.cell S0.1) (And.intro (hx1.cell S0.2.1) (hx1.cell S0.2.2)); have HX1 : Hid (Ext w w1) := hid (HX0.out.trans hx1); have C2 := hid (z8r (S := Plus S w w1) _ _ _ (addP [] (P.take k)) (valI ⟨ng, zs⟩) m w1 (z1i hS HX1.out) (RTs.later hS HO.out HX.out (((Ext.refl wr).drew).trans hx1)) (hz1.to (Kept.refl _ _) (zaj HX0.out.size)) ((H5.out.ext HX1.out hS).to (Kept.refl _ _) (fun _ h => .inl h)) (zim (p := []) z2f.may (zin HMY.out k)) HTM.out (HSZ.out k hk) HV.out); clear hx1 hz1)
     | (go_at_call 73; (with_reducible refine C2.out.mono ?_); rintro e w2 ⟨v2, rfl, hp2, hx2⟩; have S2 : _ ∧ _ ∧ _ := And.intro (hx2.cell S1.1) (And.intro (hx2.cell S1.2.1) (hx2.cell S1.2.2)); have HX2 := hid (HX1.out.trans hx2); have HP2 := hid (hp2.to (Kept.refl _ _) (z6n HX1.out hx2)); clear hx2 hp2))
   go_wp2
   go_roundw
   case rel => exact ⟨k + 1, by omega, by go_num, HX2.out, hid (by rw [HP.out, HTK.out, zbc, ← HP.out]; exact HP2.out)⟩
   case measure => simp only [intOf]; omega
  ·obtain rfl : k = ts.length := by omega
   have HE : Hid (addP [] (P.take ts.length) = z0m P) := hid (by rw [List.take_of_length_le (by rw [HP.out, z5m]; exact Nat.le_refl _)]; rfl)
   clear hx
   go_wp2
   all_goals
    go_ret
    exact ⟨_, rfl, by rw [← HE.out]; exact HO.out, HX.out⟩
theorem zbd {S : Nat → Prop} (vp vq : Value) (p q : PZ) (w : World) (hS : ∀ k, S k → k < w.heap.size) (hp : RTs S w vp p) (hq : RTs S w vq q) (hmp : z0i p) (hmq : z0i q) (hszq : szP q) (hsz : ∀ k, k ≤ q.length → szP (addP p (q.take k))) :
  Calls Tryz.prog 40 #[vp, vq] w fun e w' => ∃ v', e = .returned v' ∧ RTs (Plus S w w') w' v' (addP p q) ∧ Ext w w' := by
 have hl := hq.len_le
 have HP := hid hp
 have HQ := hid hq
 have HMP := hid hmp
 have HMQ := hid hmq
 have HZQ := hid hszq
 have HSZ := hid hsz
 obtain ⟨ap, cp, rfl⟩ := hp.form
 obtain ⟨aq, cq, rfl⟩ := hq.form
 clear hp hq hmp hmq hszq hsz
 go_enter Tryz.func40, Tryz.ntmps40
 go_wp2
 go_loopw [5, 6] (fun o i wr => ∃ k : Nat, k ≤ q.length ∧ i = .int .i64 k ∧ Ext w wr ∧ Hid (RTs (Plus S w wr) wr o (addP p (q.take k)))) (fun _ i _ => q.length - (intOf i).toNat)
 case atStart => exact ⟨0, Nat.zero_le _, rfl, Ext.refl _, hid (HP.out.to (Kept.refl _ _) (fun _ h => .inl h))⟩
 case round =>
  obtain ⟨k, hk, rfl, hx, HO⟩ := hrel
  have HX := hid hx
  by_cases hlt : k < q.length
  ·obtain ⟨t, ht⟩ := z00 hlt
   obtain ⟨b, off, vd, vo, rfl, -, hn1, hm1, hSb, h1, h2, h3, h4, h5⟩ := HQ.out.cellAt ht
   have HTK : Hid (q.take (k + 1) = q.take k ++ [t]) := hid (by rw [List.take_add_one, ht]; rfl)
   have HTM := hid (HMQ.out t (List.mem_of_getElem? ht))
   have HV := hid (HZQ.out.2 t (List.mem_of_getElem? ht))
   have H4 := hid h4
   have H5 := hid h5
   obtain ⟨am, cm, rfl⟩ := h4.form
   obtain ⟨ao, co, rfl⟩ := h5.form
   have x0 : Ext w wr.drew := hx.drew
   have HX0 := hid x0
   have S0 : _ ∧ _ ∧ _ := And.intro (x0.cell h1) (And.intro (x0.cell h2) (x0.cell h3))
   have c2 := z8r (S := Plus S w wr.drew) _ _ _ (addP p (q.take k)) t.1 t.2 wr.drew (z1i hS x0) (RTs.later hS HO.out HX.out ((Ext.refl wr).drew)) (show ZV (Plus S w wr.drew) wr.drew (.agg #[.bool (decide (t.1 < 0)), .slice am (rep 10 t.1.natAbs).length cm]) t.1 from ⟨_, rfl, H4.out.to (Kept.ext HX0.out hS) (fun _ h => .inl h)⟩) (H5.out.to (Kept.ext HX0.out hS) (fun _ h => .inl h)) (zim HMP.out (zin HMQ.out k)) HTM.out (HSZ.out k hk) HV.out
   obtain ⟨bt, hbt⟩ : ∃ b, b = decide (t.1 < 0) := ⟨_, rfl⟩
   obtain ⟨nt, hnt⟩ : ∃ n, n = (rep 10 t.1.natAbs).length := ⟨_, rfl⟩
   obtain ⟨nm, hnm⟩ : ∃ n, n = t.2.length := ⟨_, rfl⟩
   rw [← hbt, ← hnt, ← hnm] at S0
   rw [← hbt, ← hnt, ← hnm] at c2
   have C2 := hid c2
   clear ht h1 h2 h3 h4 h5 hx x0 c2 H4 H5 hbt hnt hnm
   go_wp2
   go_region_held3 (fun W => W.cell? ⟨b, off + k * 3, none⟩ = some (.bool bt) ∧ W.cell? ⟨b, off + k * 3 + 1, none⟩ = some (.slice am nt cm) ∧ W.cell? ⟨b, off + k * 3 + 2, none⟩ = some (.slice ao nm co)) (first | exact S0 | exact S2)
    (first
     | (go_at_call 73; (with_reducible refine C2.out.mono ?_); rintro e w2 ⟨v2, rfl, hp2, hx2⟩; have S2 : _ ∧ _ ∧ _ := And.intro (hx2.cell S0.1) (And.intro (hx2.cell S0.2.1) (hx2.cell S0.2.2)); have HX2 := hid (HX0.out.trans hx2); have HP2 := hid (hp2.to (Kept.refl _ _) (z6n HX0.out hx2)); clear hx2 hp2))
   go_wp2
   go_roundw
   case rel => exact ⟨k + 1, by omega, by go_num, HX2.out, hid (by rw [HTK.out, zbc]; exact HP2.out)⟩
   case measure => simp only [intOf]; omega
  ·obtain rfl : k = q.length := by omega
   have HE : Hid (addP p (q.take q.length) = addP p q) := hid (by rw [List.take_length])
   clear hx
   go_wp2
   all_goals
    go_ret
    exact ⟨_, rfl, by rw [← HE.out]; exact HO.out, HX.out⟩
end
section
open Go.RowKit
section
variable {P : Program}
theorem z29 {w : World} {ops : Array Oper} {o : Oper} {a : Act} {K : Act → World → Prop} {Q : Exit → Act → World → Prop} {E : Prop} (hgd : o.guard = none) (s x : Operand) (t : TypeId)
  (ho : o.op = .call { callee := .builtin .append, args := #[s, x], argTypes := #[t, t] })
  (base : Nat) (e : TypeId) (i : TypeInfo) (z : Value) (size bytes : Nat) (ht : P.underlying t = some (.slice e)) (hi : P.info? e = some i) (hz : i.zero = some z)
  (hsize : i.size = size) (hby : i.bytes = bytes) (hzs : z.cells.size = size) (hsz : 0 < size)
  (v : Value) (n : Nat) (xs : List Value) (hs : a.eval s = v) (hown : w.ownsRow base e size v n xs)
  (A : Option Addr) (m c : Nat) (news : List Value) (hx : a.eval x = .slice A m c) (hsrc : zci w A m size news)
  (h63 : n + m ≤ maxLen) (hbytes : (n + m) * bytes ≤ 140737488355328) (hbase : base ≤ w.heap.size)
  (h : ∀ v' w', w'.ownsRow base e size v' (n + m) (xs ++ news) → w.grownBy w' v.ownBlock → (v'.ownBlock = v.ownBlock ∨ v'.ownBlock = some w.heap.size) → K (a.put o.dst v') w') :
  if Region.wanted o (yielded ops a.tmps) = true then Oper.wp P o a w K Q else E := by
 have hw : Region.wanted o (yielded ops a.tmps) = true := by simp [Region.wanted, hgd]
 rw [if_pos hw]
 obtain ⟨v', w', hrun, h2, h3, h4⟩ := z5b (P := P) w base t o.type e i z size bytes ht hi hz hsize hby hzs hsz v n xs hown A m c news hsrc h63 hbytes hbase
 unfold Oper.wp execOp
 simp only [ho, resolve, invoke, builtin, Sem.run_bind, Sem.run_pure, Result.andThen_ok, List.map_toArray, List.map_cons, List.map_nil, hs, hx, hrun]
 exact h v' w' h2 h3 h4
end
theorem z05.nilv (S : Nat → Prop) (w : World) (a : Option Addr) (cap : Nat) (h : cap ≤ 9223372036854775807) : z05 S w (.slice a 0 cap) [] :=
 ⟨0, 0, ⟨a, cap, rfl, Nat.zero_le _, h, fun h => absurd h (Nat.lt_irrefl 0), fun h => absurd h (Nat.lt_irrefl 0)⟩, fun j t hj => by simp at hj⟩
def z0y (S : Nat → Prop) (w : World) : List Value → List RTerm → Prop
 | xs, [] => xs = []
 | xs, t :: r => ∃ vd vo ys, xs = .bool t.c.neg :: vd :: vo :: ys ∧ U32s S w vd t.c.mag ∧ Pows S w vo t.m ∧ z0y S w ys r
section
variable {S S' : Nat → Prop} {w w' : World}
theorem z0y.append {xs ys : List Value} {p q : List RTerm} (h : z0y S w xs p) (k : z0y S w ys q) : z0y S w (xs ++ ys) (p ++ q) := by
 induction p generalizing xs with
 | nil =>
  have e : xs = [] := h
  subst e
  exact k
 | cons t r ih =>
  obtain ⟨vd, vo, zs, rfl, h1, h2, h3⟩ := h
  exact ⟨vd, vo, zs ++ ys, rfl, h1, h2, ih h3⟩
theorem z0y.to {xs : List Value} {p : List RTerm} (h : z0y S w xs p) (hk : Kept S w w') (hS : ∀ k, S k → S' k) : z0y S' w' xs p := by
 induction p generalizing xs with
 | nil => exact h
 | cons t r ih =>
  obtain ⟨vd, vo, zs, rfl, h1, h2, h3⟩ := h
  exact ⟨vd, vo, zs, rfl, h1.to hk hS, h2.to hk hS, ih h3⟩
theorem z0y.length {xs : List Value} {p : List RTerm} (h : z0y S w xs p) : xs.length = p.length * 3 := by
 induction p generalizing xs with
 | nil =>
  have e : xs = [] := h
  subst e
  rfl
 | cons t r ih =>
  obtain ⟨vd, vo, zs, rfl, h1, h2, h3⟩ := h
  simp only [List.length_cons, ih h3]
  omega
theorem z0y.get {xs : List Value} {p : List RTerm} (h : z0y S w xs p) {j : Nat} {t : RTerm} (ht : p[j]? = some t) :
  ∃ vd vo, xs[j * 3]? = some (.bool t.c.neg) ∧ xs[j * 3 + 1]? = some vd ∧ xs[j * 3 + 2]? = some vo ∧ U32s S w vd t.c.mag ∧ Pows S w vo t.m := by
 induction p generalizing xs j with
 | nil => simp at ht
 | cons u r ih =>
  obtain ⟨vd, vo, zs, rfl, h1, h2, h3⟩ := h
  cases j with
  | zero =>
   obtain rfl : u = t := by simpa using ht
   exact ⟨vd, vo, rfl, rfl, rfl, h1, h2⟩
  | succ j =>
   obtain ⟨vd', vo', g⟩ := ih h3 (j := j) (by simpa using ht)
   refine ⟨vd', vo', ?_⟩
   rw [show (j + 1) * 3 = j * 3 + 1 + 1 + 1 by omega]
   simpa using g
theorem z0y.one {xs : List Value} {p : List RTerm} (h : z0y S w xs p) : ∀ u ∈ xs, u.oneCell' = true := by
 induction p generalizing xs with
 | nil =>
  have e : xs = [] := h
  subst e
  intro u hu
  simp at hu
 | cons t r ih =>
  obtain ⟨vd, vo, zs, rfl, h1, h2, h3⟩ := h
  intro u hu
  simp only [List.mem_cons] at hu
  rcases hu with rfl | rfl | rfl | hu
  ·rfl
  ·obtain ⟨a, c, rfl⟩ := h1.form; rfl
  ·obtain ⟨a, c, rfl⟩ := h2.form; rfl
  ·exact ih h3 u hu
theorem z0y.single {vd vo : Value} {t : RTerm} (h1 : U32s S w vd t.c.mag) (h2 : Pows S w vo t.m) : z0y S w [.bool t.c.neg, vd, vo] [t] := ⟨vd, vo, [], rfl, h1, h2, rfl⟩
end
theorem z6o {S : Nat → Prop} {w : World} {base : Nat} {e : TypeId} {v : Value} {xs : List Value} {p : List RTerm} (h : w.ownsRow base e 3 v p.length xs) (hc : z0y S w xs p) (hB : ∀ k, base ≤ k → k < w.heap.size → S k) : z05 S w v p := by
 have hlt := h.lt
 rcases h.2 with ⟨rfl, h0⟩ | ⟨g, cap, cur, rfl, hg, hh, h1, h2, h3, h4⟩
 ·obtain rfl : p = [] := List.length_eq_zero_iff.1 h0
  exact z05.nilv _ _ _ _ (by omega)
 ·refine ⟨g, 0, ⟨_, cap, rfl, h1, h2, fun _ => rfl, fun _ => hB g (hlt g rfl).1 (hlt g rfl).2⟩, fun j t hj => ?_⟩
  obtain ⟨vd, vo, g1, g2, g3, g4, g5⟩ := hc.get hj
  have hb := z04 hj
  refine ⟨vd, vo, ?_, ?_, ?_, g4, g5⟩
  ·rw [h.cellAt (0 + j * 3) (by omega), Nat.zero_add]
   exact g1
  ·rw [h.cellAt (0 + j * 3 + 1) (by omega), Nat.zero_add]
   exact g2
  ·rw [h.cellAt (0 + j * 3 + 2) (by omega), Nat.zero_add]
   exact g3
theorem Tryz.infoTerm : (Tryz.prog.info? 83).map (fun i => (i.zero, i.size, i.bytes)) = some (some (.agg #[.bool false, .slice none 0 0, .slice none 0 0]), 3, 56) := by kernel_rfl
section
variable {w w1 w2 : World} {o : Value} {e : TypeId} {size n : Nat} {xs : List Value}
theorem z2a (hx : Ext w w1) (ho : w1.ownsRow w.heap.size e size o n xs) (hg : w1.grownBy w2 o.ownBlock) : Ext w w2 := z0p hx hg (fun k hk => (ho.lt k hk).1)
end
theorem zwv {p : PZ} {k : Nat} {t : Int × Mono} (h : p[k]? = some t) : ofP (p.take (k + 1)) = ofP (p.take k) ++ [⟨ofI t.1, t.2⟩] := by
 rw [List.take_add_one, h]
 unfold ofP
 rw [List.map_append]
 rfl
theorem z7e (p : PZ) : (ofP p).length = p.length := by unfold ofP; rw [List.length_map]
abbrev z5n (w w1 : World) (o : Value) : Nat → Prop := fun k => New w w1 k ∧ some k ≠ o.ownBlock
theorem z1d {w w1 w2 : World} {o : Value} {xs : List Value} {l : List RTerm} (h : z0y (z5n w w1 o) w1 xs l) (hx : Ext w1 w2) : z0y (z5n w w2 o) w2 xs l :=
 h.to (Kept.ext hx (fun _ h => h.1.2)) (fun _ h => ⟨⟨h.1.1, Nat.lt_of_lt_of_le h.1.2 hx.size⟩, h.2⟩)
theorem z3v {w w2 w3 : World} {o v3 : Value} {xs : List Value} {l : List RTerm} {B : Nat} (h : z0y (z5n w w2 o) w2 xs l) (hg : w2.grownBy w3 o.ownBlock) (hb : v3.ownBlock = o.ownBlock ∨ v3.ownBlock = some B) (hB : w2.heap.size ≤ B) : z0y (z5n w w3 v3) w3 xs l :=
 h.to (Kept.grown hg (fun _ h => ⟨h.1.2, h.2⟩)) (fun k hk => ⟨⟨hk.1.1, Nat.lt_of_lt_of_le hk.1.2 hg.size⟩, by
  rcases hb with e | e
  ·rw [e]; exact hk.2
  ·rw [e]
   intro e2
   have e3 : k = B := Option.some.inj e2
   have := hk.1.2
   omega⟩)
theorem zbe {w w0 w1 : World} {o : Value} {e : TypeId} {size n : Nat} {xs : List Value} {l : List RTerm} {ys : List Value} (h0 : w.heap.size ≤ w0.heap.size) (ho : w0.ownsRow w.heap.size e size o n ys) (h : z0y (New w0 w1) w1 xs l) : z0y (z5n w w1 o) w1 xs l :=
 h.to (Kept.refl _ _) (fun k hk => ⟨⟨Nat.le_trans h0 hk.1, hk.2⟩, fun e => by
  have := (ho.lt k e.symm).2
  have := hk.1
  omega⟩)
theorem zbf (w : World) (cs : Array Value) (e : TypeId) {size : Nat} (h1 : ∀ u ∈ cs.toList, u.oneCell' = true) (hs : cs.size = size) : zci (w.alloc (.cells cs e)) (some ⟨w.heap.size, 0, none⟩) 1 size cs.toList :=
 ⟨by simpa using hs, h1, fun _ => ⟨_, rfl, fun j u hu => by
  rw [z7y, Nat.zero_add]
  exact z01 w cs e rfl (by simpa using hu)⟩⟩
theorem zfg {w1 w3 : World} {v : Value} {n : Nat} {m : Mono} {e : TypeId} (h : w3.ownsRow w1.heap.size e 2 v (0 + n) ([] ++ z44 m)) (hn : n = m.length) (hb : inBounds m) : ∃ a c, v = .slice a n c ∧ Pows (New w1 w3) w3 v m := by
 subst hn
 rw [Nat.zero_add, List.nil_append] at h
 have hp := z8b h hb
 obtain ⟨a, c, rfl⟩ := hp.form
 exact ⟨a, c, rfl, hp⟩
theorem zr9 {w1 w3 : World} {cs : Array Value} {e : TypeId} (hg : (w1.alloc (.cells cs e)).grownBy w3 (some w1.heap.size)) : Ext w1 w3 :=
 z0p (Ext.alloc (Ext.refl w1) _) hg (fun k hk => by
  have : w1.heap.size = k := Option.some.inj hk
  omega)
theorem zng {wr w1 w3 : World} (hx : Ext wr w1) (hg : w1.grownBy w3 (some wr.heap.size)) : Ext wr w3 :=
 z0p hx hg (fun k hk => by
  have : wr.heap.size = k := Option.some.inj hk
  omega)
theorem znh {wr w1 w3 : World} {o : Obj} {v : Value} {zs : List Nat} (h : U32s (New (wr.alloc o) w1) w1 v zs) (hg : w1.grownBy w3 (some wr.heap.size)) : U32s (New wr w3) w3 v zs := by
 have hne : ∀ k, New (wr.alloc o) w1 k → wr.heap.size + 1 ≤ k := fun k hk => by have := hk.1; rw [z02] at this; exact this
 exact h.to (Kept.grown hg (fun k hk => ⟨hk.2, fun e => by
  have e2 : k = wr.heap.size := Option.some.inj e
  have := hne k hk
  omega⟩)) (fun k hk => ⟨by have := hne k hk; omega, Nat.lt_of_lt_of_le hk.2 hg.size⟩)
theorem z5o {S : Nat → Prop} (v : Value) (p : PZ) (w : World) (h : RTs S w v p) (hS : ∀ k, S k → k < w.heap.size) (hsz : szP p) (hml : ∀ t ∈ p, t.2.length ≤ 1000000) :
  Calls Tryz.prog 26 #[v] w fun e w' => ∃ v', e = .returned v' ∧ z05 (New w w') w' v' (ofP p) ∧ Ext w w' := by
 obtain ⟨i0, hi, hz0, hz1, hz2⟩ := info_parts Tryz.infoPower
 obtain ⟨j0, hj, jz0, jz1, jz2⟩ := info_parts Tryz.infoTerm
 have hl := h.len_le
 have H := hid h
 have HSZ := hid hsz
 have HML := hid hml
 obtain ⟨a, cap, rfl⟩ := h.form
 clear h hsz hml
 go_enter Tryz.func26, Tryz.ntmps26
 go_wp2
 go_loopw [3, 4] (fun o i wr => ∃ k xs, k ≤ p.length ∧ i = .int .i64 (k : Nat) ∧ Ext w wr ∧ Hid (wr.ownsRow w.heap.size 83 3 o k xs) ∧ Hid (z0y (z5n w wr o) wr xs (ofP (p.take k)))) (fun _ i _ => p.length - (intOf i).toNat)
 case atStart => exact ⟨0, [], Nat.zero_le _, rfl, Ext.refl _, hid (World.ownsRow_nil _ _ _ _), hid rfl⟩
 case round =>
  obtain ⟨k, xs, hk, rfl, hx, HW, HXS⟩ := hrel
  have HX := hid hx
  by_cases hlt : k < p.length
  ·obtain ⟨t, ht⟩ := z00 hlt
   obtain ⟨b, off, vd, vo, rfl, -, hn1, hm1, hSb, h1, h2, h3, h4, h5⟩ := H.out.cellAt ht
   have HT := hid (zwv ht)
   have HTM := hid (HML.out t (List.mem_of_getElem? ht))
   have HTZ := hid (HSZ.out.2 t (List.mem_of_getElem? ht))
   have H4 := hid h4
   have H5 := hid h5
   have HIB := hid h5.inBounds
   obtain ⟨ad, cd, rfl⟩ := h4.form
   obtain ⟨ao, co, rfl⟩ := h5.form
   have x0 : Ext w wr.drew := hx.drew
   have HX0 := hid x0
   have HXR := hid ((Ext.refl wr).drew)
   have h0 : _ ∧ _ ∧ _ := And.intro h1 (And.intro h2 h3)
   have c1 := fun (W : World) (hW : Ext wr.drew W) => zn6 (S := S) _ t.1 W (show ZV S W (.agg #[.bool (decide (t.1 < 0)), .slice ad (rep 10 t.1.natAbs).length cd]) t.1 from ⟨_, rfl, H4.out.ext (HX0.out.trans hW) hS⟩) (z08 hS (HX0.out.trans hW)) HTZ.out
   obtain ⟨bt, hbt⟩ : ∃ b, b = decide (t.1 < 0) := ⟨_, rfl⟩
   obtain ⟨nt, hnt⟩ : ∃ n, n = (rep 10 t.1.natAbs).length := ⟨_, rfl⟩
   obtain ⟨nm, hnm⟩ : ∃ n, n = t.2.length := ⟨_, rfl⟩
   have HNM := hid hnm
   rw [← hbt, ← hnt, ← hnm] at h0
   rw [← hbt, ← hnt] at c1
   rw [← hnm] at H5
   have HC0 := hid h0
   have S0 : _ ∧ _ ∧ _ := And.intro (x0.cell h0.1) (And.intro (x0.cell h0.2.1) (x0.cell h0.2.2))
   have C1 := hid c1
   have HB1 : Hid (0 + nm ≤ maxLen) := hid (by have := HTM.out; rw [← hnm] at this; unfold maxLen; omega)
   have HB2 : Hid ((0 + nm) * 16 ≤ 140737488355328) := hid (by have := HTM.out; rw [← hnm] at this; omega)
   have HB3 : Hid (k + 1 ≤ maxLen) := hid (by have := HSZ.out.1; unfold maxLen; omega)
   have HB4 : Hid ((k + 1) * 56 ≤ 140737488355328) := hid (by have := HSZ.out.1; omega)
   have HM0 : Hid (0 ≤ maxLen) := hid (Nat.zero_le _)
   have HWR := hid (z0z HW.out HXR.out)
   have HXSR := hid (z1d HXS.out HXR.out)
   clear ht h0 h1 h2 h3 h4 h5 hx x0 c1 hbt hnt hnm
   go_wp2
   go_region_held3 (fun W => W.cell? ⟨b, off + k * 3, none⟩ = some (.bool bt) ∧ W.cell? ⟨b, off + k * 3 + 1, none⟩ = some (.slice ad nt cd) ∧ W.cell? ⟨b, off + k * 3 + 2, none⟩ = some (.slice ao nm co)) (first | exact S0 | exact ⟨cell_old _ S0.1, cell_old _ S0.2.1, cell_old _ S0.2.2⟩ | exact S1 | exact ⟨cell_old _ S1.1, cell_old _ S1.2.1, cell_old _ S1.2.2⟩ | exact S3 | exact ⟨cell_old _ S3.1, cell_old _ S3.2.1, cell_old _ S3.2.2⟩ | exact S5)
    (first
     | (go_at_call 61; refine (C1.out _ ?_).mono ?_; · exact Ext.refl _
        rintro e w1 ⟨v1, rfl, hz1, hx1⟩; have HX1 := hid hx1; have HXW1 : Hid (Ext w w1) := hid (HX0.out.trans hx1); have S1 : _ ∧ _ ∧ _ := And.intro (HXW1.out.cell HC0.out.1) (And.intro (HXW1.out.cell HC0.out.2.1) (HXW1.out.cell HC0.out.2.2))
        obtain ⟨vm, rfl, hu1⟩ := hz1; have HU1 := hid hu1; obtain ⟨am, cm, rfl⟩ := hu1.form; obtain ⟨ng, hng⟩ : ∃ b, b = (ofI t.1).neg := ⟨_, rfl⟩; obtain ⟨nl, hnl⟩ : ∃ b, b = (ofI t.1).mag.length := ⟨_, rfl⟩; rw [← hng, ← hnl]; rw [← hnl] at HU1; have HNG := hid hng; have HNL := hid hnl
        have HOA := hid (World.ownsRow_made (base := w1.heap.size) (e := 85) (size := 2) w1 #[] 0 (Nat.le_refl _) HM0.out rfl); have HSRC1 := hid ((Pows.ext' H5.out (HXW1.out.alloc (.cells #[] 85)) hS).src.2); have HBS := hid (World.grownBy_alloc w1 (.cells #[] 85) none).size; clear hx1 hu1 hng hnl)
     | (go_at_call 61; refine (C1.out _ ?_).mono ?_; · exact Ext.alloc (Ext.refl _) _
        rintro e w1 ⟨v1, rfl, hz1, hx1⟩; have HX1 : Hid (Ext (wr.drew.alloc (.cells #[] 85)) w1) := hid hx1; have HXR1 := hid ((Ext.alloc (Ext.refl wr.drew) (.cells #[] 85)).trans hx1); have HXW1 : Hid (Ext w w1) := hid (HX0.out.trans HXR1.out); have S1 : _ ∧ _ ∧ _ := And.intro (HXW1.out.cell HC0.out.1) (And.intro (HXW1.out.cell HC0.out.2.1) (HXW1.out.cell HC0.out.2.2))
        obtain ⟨vm, rfl, hu1⟩ := hz1; have HU1 : Hid (U32s (New (wr.drew.alloc (.cells #[] 85)) w1) w1 vm (ofI t.1).mag) := hid hu1; obtain ⟨am, cm, rfl⟩ := hu1.form; obtain ⟨ng, hng⟩ : ∃ b, b = (ofI t.1).neg := ⟨_, rfl⟩; obtain ⟨nl, hnl⟩ : ∃ b, b = (ofI t.1).mag.length := ⟨_, rfl⟩; rw [← hng, ← hnl]; rw [← hnl] at HU1; have HNG := hid hng; have HNL := hid hnl
        have HOB := hid (z0z (World.ownsRow_made (base := wr.heap.size) (e := 85) (size := 2) wr.drew #[] 0 (Nat.le_refl _) HM0.out rfl) hx1); have HSRC1 := hid ((Pows.ext' H5.out HXW1.out hS).src.2); have HBS := hid HXR1.out.size; clear hx1 hu1 hng hnl)
     | (refine z29 rfl (.tmp 18) (.tmp 23) 81 rfl w1.heap.size 85 i0 (.agg #[.int .i64 0, .int .i64 0]) 2 16 Tryz.underlying81 hi hz0 hz1 hz2 rfl (Nat.succ_pos _) (.slice (some ⟨w1.heap.size, 0, none⟩) 0 0) 0 [] rfl HOA.out ao nm co (z44 t.2) rfl HSRC1.out HB1.out HB2.out HBS.out ?_; intro v3 w3 hown hg _; obtain ⟨a3, c3, rfl, hp3⟩ := zfg hown HNM.out HIB.out; have hx3 := zr9 hg; have HXR3 : Hid (Ext wr.drew w3) := hid (HX1.out.trans hx3); have HP3 : Hid (Pows (New wr.drew w3) w3 (.slice a3 nm c3) t.2) := hid (hp3.to (Kept.refl _ _) (fun k h => ⟨Nat.le_trans HX1.out.size h.1, h.2⟩)); have HU3 : Hid (U32s (New wr.drew w3) w3 (.slice am nl cm) (ofI t.1).mag) := hid (HU1.out.to (Kept.ext hx3 (fun _ h => h.2)) (fun k h => ⟨h.1, Nat.lt_of_lt_of_le h.2 hx3.size⟩)); clear hx3 hown hg hp3; have HXW3 : Hid (Ext w w3) := hid (HX0.out.trans HXR3.out); have S3 : _ ∧ _ ∧ _ := And.intro (HXW3.out.cell HC0.out.1) (And.intro (HXW3.out.cell HC0.out.2.1) (HXW3.out.cell HC0.out.2.2)); have HW3 := hid (z0z (z0z HWR.out HXR3.out) (Ext.alloc (Ext.refl w3) (.cells #[.bool ng, .slice am nl cm, .slice a3 nm c3] 83))); have HXS3 := hid (z1d HXSR.out HXR3.out); have HSRC3 := hid (zbf w3 #[.bool ng, .slice am nl cm, .slice a3 nm c3] 83 (z28 rfl rfl rfl) rfl); have HB5 := hid (Nat.le_trans HXW3.out.size (World.grownBy_alloc w3 (.cells #[.bool ng, .slice am nl cm, .slice a3 nm c3] 83) none).size))
     | (refine z29 rfl (.tmp 18) (.tmp 23) 81 rfl wr.heap.size 85 i0 (.agg #[.int .i64 0, .int .i64 0]) 2 16 Tryz.underlying81 hi hz0 hz1 hz2 rfl (Nat.succ_pos _) (.slice (some ⟨wr.heap.size, 0, none⟩) 0 0) 0 [] rfl HOB.out ao nm co (z44 t.2) rfl HSRC1.out HB1.out HB2.out HBS.out ?_; intro v3 w3 hown hg _; obtain ⟨a3, c3, rfl, hp3⟩ := zfg (w1 := wr.drew) hown HNM.out HIB.out; have HXR3 : Hid (Ext wr.drew w3) := hid (zng HXR1.out hg); have HP3 : Hid (Pows (New wr.drew w3) w3 (.slice a3 nm c3) t.2) := hid hp3; have HU3 : Hid (U32s (New wr.drew w3) w3 (.slice am nl cm) (ofI t.1).mag) := hid (znh HU1.out hg); clear HXR1 hown hg hp3; have HXW3 : Hid (Ext w w3) := hid (HX0.out.trans HXR3.out); have S3 : _ ∧ _ ∧ _ := And.intro (HXW3.out.cell HC0.out.1) (And.intro (HXW3.out.cell HC0.out.2.1) (HXW3.out.cell HC0.out.2.2)); have HW3 := hid (z0z (z0z HWR.out HXR3.out) (Ext.alloc (Ext.refl w3) (.cells #[.bool ng, .slice am nl cm, .slice a3 nm c3] 83))); have HXS3 := hid (z1d HXSR.out HXR3.out); have HSRC3 := hid (zbf w3 #[.bool ng, .slice am nl cm, .slice a3 nm c3] 83 (z28 rfl rfl rfl) rfl); have HB5 := hid (Nat.le_trans HXW3.out.size (World.grownBy_alloc w3 (.cells #[.bool ng, .slice am nl cm, .slice a3 nm c3] 83) none).size))
     | (refine z29 rfl (.tmp 11) (.tmp 26) 23 rfl w.heap.size 83 j0 (.agg #[.bool false, .slice none 0 0, .slice none 0 0]) 3 56 Tryz.underlying23 hj jz0 jz1 jz2 rfl (Nat.succ_pos _) _ k xs rfl HW3.out (some ⟨w3.heap.size, 0, none⟩) 1 1 _ rfl HSRC3.out HB3.out HB4.out HB5.out ?_; intro v5 w5 hown hg hbk; have HW5 := hid hown; have HG5 := hid hg; have HBK := hid hbk; have HX5 := hid (z2a (HXW3.out.alloc (.cells #[.bool ng, .slice am nl cm, .slice a3 nm c3] 83)) HW3.out hg); have S5 : _ ∧ _ ∧ _ := And.intro (HX5.out.cell HC0.out.1) (And.intro (HX5.out.cell HC0.out.2.1) (HX5.out.cell HC0.out.2.2)); clear hown hg hbk))
   all_goals
    go_wp2
    go_roundw
    case rel =>
     refine ⟨k + 1, xs ++ (#[.bool ng, .slice am nl cm, .slice a3 nm c3] : Array Value).toList, by omega, by go_num, HX5.out, HW5, hid ?_⟩
     rw [HT.out]
     have hone : z0y (New wr.drew w3) w3 (#[.bool ng, .slice am nl cm, .slice a3 nm c3] : Array Value).toList [⟨ofI t.1, t.2⟩] := by
      rw [HNG.out]
      exact z0y.single (t := ⟨ofI t.1, t.2⟩) HU3.out HP3.out
     have hall := HXS3.out.append (zbe HX0.out.size HWR.out hone)
     exact z3v (z1d hall (Ext.alloc (Ext.refl w3) (.cells #[.bool ng, .slice am nl cm, .slice a3 nm c3] 83))) HG5.out HBK.out (Nat.le_refl _)
    case measure => simp only [intOf]; omega
  ·obtain rfl : k = p.length := by omega
   have HE : Hid (p.take p.length = p) := hid List.take_length
   clear hx
   go_wp2
   go_ret
   refine ⟨_, rfl, ?_, HX.out⟩
   have hc := HXS.out
   rw [HE.out] at hc
   exact z6o (by rw [z7e]; exact HW.out) (hc.to (Kept.refl _ _) (fun _ h => h.1)) (fun k h1 h2 => ⟨h1, h2⟩)
end
section
open Go.RowKit
theorem zio {z : Int} {n : Nat} (h : z.natAbs < 10 ^ n) (hn : n ≤ 2000000) : szZ z := Nat.le_trans (z0x z0g _ _ h) hn
theorem zus {n : Nat} (h : n < 9223372036854775808) : szZ (n : Int) := zio (n := 19) (by simp only [Int.natAbs_natCast]; omega) (by omega)
def numP (n : Nat) : PZ := putP [] (n : Int) []
theorem z60 (n : Nat) (w : World) (hn : n < 9223372036854775808) :
  Calls Tryz.prog 34 #[.int .i64 (n : Nat)] w fun e w' => ∃ v', e = .returned v' ∧ RTs (New w w') w' v' (numP n) ∧ Ext w w' := by
 have C1 := hid (zb8 n w hn)
 have HZ := hid (zus hn)
 clear hn
 go_enter Tryz.func34, Tryz.ntmps34
 go_wp2_with fail
 refine C1.out.mono ?_
 rintro e w1 ⟨v1, rfl, hz1, hx1⟩
 have HX1 := hid hx1
 have C2 := hid (z8r (S := New w w1) (.slice none 0 0) v1 (.slice none 0 0) [] (n : Int) [] w1 (fun _ h => h.2) (RTs.nilv _ _ _ _ (by omega)) hz1 (Pows.empty _ _ _) z2f.may rfl ⟨by simp, fun t ht => by simp at ht⟩ HZ.out)
 clear hx1 hz1
 go_wp2_with fail
 refine C2.out.mono ?_
 rintro e w2 ⟨v2, rfl, hp2, hx2⟩
 have HX2 := hid (HX1.out.trans hx2)
 have HP2 : Hid (RTs (New w w2) w2 v2 (numP n)) := hid (hp2.to (Kept.refl _ _) (fun k hk => by
  rcases hk with h | h
  ·exact ⟨h.1, Nat.lt_of_lt_of_le h.2 hx2.size⟩
  ·exact ⟨Nat.le_trans HX1.out.size h.1, h.2⟩))
 clear hp2 hx2
 go_wp2
 all_goals
  go_ret
  exact ⟨_, rfl, HP2.out, HX2.out⟩
theorem zni (x : Int) (w : World) (hx : z12 x) :
  Calls Tryz.prog 31 #[.int .i64 x] w fun e w' => ∃ v', e = .returned v' ∧ RTs (New w w') w' v' [(1, [(x, 1)])] ∧ Ext w w' := by
 have C1 := hid (zb8 1 w (by omega))
 have HXX := hid hx
 clear hx
 go_enter Tryz.func31, Tryz.ntmps31
 go_wp2_with fail
 refine C1.out.mono ?_
 rintro e w1 ⟨v1, rfl, hz1, hx1⟩
 obtain ⟨vd, rfl, hd⟩ := hz1
 have HX1 := hid hx1
 have HD := hid hd
 obtain ⟨ad, cd, rfl⟩ := hd.form
 obtain ⟨nd, hnd⟩ : ∃ n, n = (rep 10 ((1 : Nat) : Int).natAbs).length := ⟨_, rfl⟩
 obtain ⟨bd, hbd⟩ : ∃ b, b = decide (((1 : Nat) : Int) < 0) := ⟨_, rfl⟩
 rw [← hnd] at HD ⊢
 rw [← hbd]
 have HB := hid hbd
 clear hx1 hd hnd hbd
 go_wp2
 go_ret
 have x2 : Ext w1 ((w1.alloc (.cells #[.int .i64 x, .int .i64 1] 85)).alloc (.cells #[.bool bd, .slice ad nd cd, .slice (some ⟨w1.heap.size, 0, none⟩) 1 1] 141)) := (Ext.alloc (Ext.alloc (Ext.refl w1) _) _)
 have hb : (w1.alloc (.cells #[.int .i64 x, .int .i64 1] 85)).heap.size = w1.heap.size + 1 := z02 _ _
 refine ⟨_, rfl, ?_, HX1.out.trans x2⟩
 refine ⟨w1.heap.size + 1, 0, ⟨_, 1, rfl, Nat.le_refl _, by decide, fun _ => by rw [← hb], fun _ => ⟨Nat.le_trans HX1.out.size (Nat.le_succ _), by rw [z02, hb] <;> omega⟩⟩, fun j t hj => ?_⟩
 have hj0 : j = 0 := by have := z04 hj; simp at this; exact this
 subst hj0
 obtain rfl : (1, [(x, 1)]) = t := by simpa using hj
 refine ⟨.slice ad nd cd, .slice (some ⟨w1.heap.size, 0, none⟩) 1 1, ?_, ?_, ?_, HD.out.to (Kept.ext x2 (fun _ h => h.2)) (fun k h => ⟨h.1, Nat.lt_of_lt_of_le h.2 x2.size⟩), ?_⟩
 ·exact z01 _ _ _ (by rw [hb]) (by rw [HB.out]; rfl)
 ·exact z01 _ _ _ (by rw [hb]) rfl
 ·exact z01 _ _ _ (by rw [hb]) rfl
 ·refine ⟨w1.heap.size, 0, ⟨_, 1, rfl, Nat.le_refl _, by decide, fun _ => rfl, fun _ => ⟨HX1.out.size, by rw [z02, hb] <;> omega⟩⟩, fun j t hj => ?_⟩
  have hj0 : j = 0 := by have := z04 hj; simp at this; exact this
  subst hj0
  obtain rfl : (x, 1) = t := by simpa using hj
  have hin : z12 (1 : Int) := by unfold z12; omega
  exact ⟨⟨HXX.out, hin⟩, cell_old _ (z01 _ _ _ rfl rfl), cell_old _ (z01 _ _ _ rfl rfl)⟩
end
section
open Go.RowKit
def z9g (t u : Int × Mono) : Option (Int × Mono) := (z4s t.2 u.2).map fun m => (t.1 * u.1, m)
def z4d (p q : PZ) : List (Option (Int × Mono)) := p.flatMap fun t => q.map (z9g t)
def allO : List (Option (Int × Mono)) → Option PZ
 | [] => some []
 | none :: _ => none
 | some x :: r => (allO r).map (x :: ·)
def z0e (p q : PZ) : Option PZ := (allO (z4d p q)).map z0m
theorem zfh {xs : PZ} : allO (xs.map some) = some xs := by
 induction xs with
 | nil => rfl
 | cons x r ih => simp only [List.map_cons, allO, ih, Option.map_some]
theorem zfi {l r : List (Option (Int × Mono))} : allO (l ++ none :: r) = none := by
 induction l with
 | nil => rfl
 | cons x l ih =>
  cases x with
  | none => rfl
  | some x => simp only [List.cons_append, allO, ih, Option.map_none]
def bndP (p : PZ) (L M : Nat) : Prop := p.length ≤ L ∧ ∀ t ∈ p, t.1.natAbs ≤ M
theorem zip (p : PZ) (c : Int) (m : Mono) : (putP p c m).length ≤ p.length + 1 := by
 induction p with
 | nil => simp only [putP]; split <;> simp
 | cons t r ih =>
  simp only [putP]
  split
  ·simp only [List.length_cons]; omega
  ·split
   ·split <;> simp only [List.length_cons] <;> omega
   ·split <;> simp only [List.length_cons] <;> omega
theorem zra {p : PZ} {c : Int} {m : Mono} {M N : Nat} (h : ∀ t ∈ p, t.1.natAbs ≤ M) (hc : c.natAbs ≤ N) : ∀ t ∈ putP p c m, t.1.natAbs ≤ M + N := by
 induction p with
 | nil =>
  intro t ht
  simp only [putP] at ht
  split at ht
  ·simp at ht
  ·rw [List.mem_singleton.1 ht]; simp only; omega
 | cons u r ih =>
  have hu := h u (by simp)
  have hr : ∀ t ∈ r, t.1.natAbs ≤ M := fun t ht => h t (by simp [ht])
  have ih := ih hr
  intro t ht
  simp only [putP] at ht
  split at ht
  ·rcases List.mem_cons.1 ht with rfl | ht
   ·omega
   ·exact ih t ht
  ·split at ht
   ·split at ht
    ·have := hr t ht; omega
    ·rcases List.mem_cons.1 ht with rfl | ht
     ·simp only; omega
     ·have := hr t ht; omega
   ·split at ht
    ·have := h t ht; omega
    ·rcases List.mem_cons.1 ht with rfl | ht
     ·simp only; omega
     ·have := h t ht; omega
theorem zrb {p : PZ} {c : Int} {m : Mono} {L M N : Nat} (h : bndP p L M) (hc : c.natAbs ≤ N) : bndP (putP p c m) (L + 1) (M + N) :=
 ⟨Nat.le_trans (zip _ _ _) (by have := h.1; omega), zra h.2 hc⟩
theorem ziq {p l : PZ} {L M N : Nat} (h : bndP p L M) (hl : ∀ t ∈ l, t.1.natAbs ≤ N) : bndP (addP p l) (L + l.length) (M + l.length * N) := by
 induction l generalizing p L M with
 | nil => simpa [addP] using h
 | cons t r ih =>
  have h1 := ih (zrb (m := t.2) h (hl t (by simp))) (fun u hu => hl u (by simp [hu]))
  show bndP (addP (putP p t.1 t.2) r) _ _
  simp only [List.length_cons]
  refine ⟨by have := h1.1; omega, fun u hu => ?_⟩
  have := h1.2 u hu
  rw [Nat.add_mul]
  omega
theorem zut : bndP [] 0 0 := ⟨by simp, fun t ht => by simp at ht⟩
theorem zbg {p : PZ} {L M n : Nat} (h : bndP p L M) (hL : L ≤ 1000000000000) (hM : M < 10 ^ n) (hn : n ≤ 2000000) : szP p :=
 ⟨Nat.le_trans h.1 hL, fun t ht => zio (Nat.lt_of_le_of_lt (h.2 t ht) hM) hn⟩
theorem zfj {m : Mono} {l v e : Int} (h : z0d l m = true) (hv : ∀ x ∈ m, x.1 < v) (hl : l < v) (h2 : v ≤ 200) (h3 : 1 ≤ e ∧ e ≤ 10000) : z0d l (m ++ [(v, e)]) = true := by
 induction m generalizing l with
 | nil =>
  simp only [List.nil_append, z0d, Bool.and_true, decide_eq_true_eq]
  omega
 | cons x r ih =>
  simp only [List.cons_append, z0d, Bool.and_eq_true] at h ⊢
  exact ⟨h.1, ih h.2 (fun y hy => hv y (by simp [hy])) (hv x (by simp))⟩
theorem zir (f : Nat → Int) (k : Nat) : ∀ x ∈ ofE f k, x.1 ≤ (k : Int) := by
 induction k with
 | zero => intro x hx; simp [ofE] at hx
 | succ k ih =>
  intro x hx
  simp only [ofE] at hx
  split at hx
  ·rcases List.mem_append.1 hx with hx | hx
   ·have := ih x hx; omega
   ·rw [List.mem_singleton.1 hx]; simp only; omega
  ·have := ih x hx; omega
theorem zhl {f : Nat → Int} {n : Nat} (hn : n ≤ 200) (h : ∀ j, 1 ≤ j → j ≤ n → f j ≤ 10000) : mayM (ofE f n) = true := by
 induction n with
 | zero => rfl
 | succ k ih =>
  have ih := ih (by omega) (fun j h1 h2 => h j h1 (by omega))
  simp only [ofE]
  split
  ·rename_i hp
   refine zfj ih (fun x hx => ?_) (by omega) (by omega) ⟨by omega, h (k + 1) (by omega) (Nat.le_refl _)⟩
   have := zir f k x hx
   omega
  ·exact ih
theorem zfk {f : Nat → Int} {n : Nat} (h : z5z f n = false) : ∀ j, 1 ≤ j → j ≤ n → f j ≤ 10000 := by
 induction n with
 | zero => intro j h1 h2; omega
 | succ k ih =>
  simp only [z5z, Bool.or_eq_false_iff, decide_eq_false_iff_not] at h
  intro j h1 h2
  by_cases e : j = k + 1
  ·subst e; have := h.2; omega
  ·exact ih h.1 j h1 (by omega)
theorem zd5 {a b m : Mono} (h : z4s a b = some m) : mayM m = true := by
 unfold z4s at h
 split at h
 ·cases h
 ·rename_i ho
  cases h
  exact zhl (Nat.le_refl _) (zfk (by simpa using ho))
theorem z9z (p q : PZ) : (z4d p q).length = p.length * q.length := by
 induction p with
 | nil => simp [z4d]
 | cons t r ih =>
  have e : z4d (t :: r) q = q.map (z9g t) ++ z4d r q := by unfold z4d; rw [List.flatMap_cons]
  rw [e, List.length_append, List.length_map, ih, List.length_cons, Nat.add_mul]
  omega
theorem zfl {p q : PZ} {k j : Nat} {t u : Int × Mono} (ht : p[k]? = some t) (hu : q[j]? = some u) : (z4d p q)[k * q.length + j]? = some (z9g t u) := by
 have hj := z04 hu
 induction p generalizing k with
 | nil => simp at ht
 | cons x r ih =>
  have e : z4d (x :: r) q = q.map (z9g x) ++ z4d r q := by unfold z4d; rw [List.flatMap_cons]
  rw [e]
  cases k with
  | zero =>
   obtain rfl : x = t := by simpa using ht
   rw [Nat.zero_mul, Nat.zero_add, List.getElem?_append_left (by rw [List.length_map]; exact hj), List.getElem?_map, hu]
   rfl
  | succ k =>
   have := ih (k := k) (by simpa using ht)
   rw [List.getElem?_append_right (by rw [List.length_map, Nat.add_mul]; omega), List.length_map, show (k + 1) * q.length + j - q.length = k * q.length + j by rw [Nat.add_mul]; omega]
   exact this
theorem zd6 {t u x : Int × Mono} (h : z9g t u = some x) : mayM x.2 = true ∧ x.1 = t.1 * u.1 := by
 unfold z9g at h
 cases hr : z4s t.2 u.2 with
 | none => rw [hr] at h; simp at h
 | some m =>
  rw [hr] at h
  simp at h
  subst h
  exact ⟨zd5 hr, rfl⟩
theorem znj {p q : PZ} {x : Int × Mono} (h : some x ∈ z4d p q) : mayM x.2 = true ∧ ∃ t ∈ p, ∃ u ∈ q, x.1 = t.1 * u.1 := by
 unfold z4d at h
 obtain ⟨t, ht, h⟩ := List.mem_flatMap.1 h
 obtain ⟨u, hu, h⟩ := List.mem_map.1 h
 exact ⟨(zd6 h).1, t, ht, u, hu, (zd6 h).2⟩
def z56 (p q : PZ) (n : Nat) (xs : PZ) : Prop := (z4d p q).take n = xs.map some
theorem zbh (p q : PZ) : z56 p q 0 [] := rfl
theorem zbi {p q : PZ} {n : Nat} {xs : PZ} {x : Int × Mono} (h : z56 p q n xs) (hx : (z4d p q)[n]? = some (some x)) : z56 p q (n + 1) (xs ++ [x]) := by
 unfold z56 at h ⊢
 rw [List.take_add_one, h, hx]
 simp
theorem zbj {p q : PZ} {n : Nat} {xs : PZ} (_h : z56 p q n xs) (hx : (z4d p q)[n]? = some none) : z0e p q = none := by
 unfold z0e
 have e : z4d p q = (z4d p q).take n ++ none :: (z4d p q).drop (n + 1) := by rw [← z5t hx, List.take_append_drop]
 rw [e, zfi]
 rfl
theorem zd7 {p q : PZ} {n : Nat} {xs : PZ} (h : z56 p q n xs) (hn : n = p.length * q.length) : z0e p q = some (z0m xs) := by
 unfold z56 at h
 rw [List.take_of_length_le (by rw [z9z]; omega)] at h
 unfold z0e
 rw [h, zfh]
 rfl
theorem z7f {p q : PZ} {n : Nat} {xs : PZ} (h : z56 p q n xs) {x : Int × Mono} (hx : x ∈ xs) : mayM x.2 = true ∧ ∃ t ∈ p, ∃ u ∈ q, x.1 = t.1 * u.1 := by
 apply znj
 have : some x ∈ (z4d p q).take n := by rw [h]; exact List.mem_map.2 ⟨x, hx, rfl⟩
 exact List.mem_of_mem_take this
theorem zkx {p q : PZ} {n : Nat} {xs : PZ} (h : z56 p q n xs) : xs.length ≤ p.length * q.length := by
 have h1 : ((z4d p q).take n).length = xs.length := by rw [h, List.length_map]
 rw [← h1, List.length_take, z9z]
 exact Nat.min_le_right _ _
def szM (p q : PZ) : Prop := ∃ N n, (∀ t ∈ p, ∀ u ∈ q, (t.1 * u.1).natAbs ≤ N) ∧ p.length * q.length ≤ 1000000000000 ∧ p.length * q.length * N < 10 ^ n ∧ n ≤ 2000000
theorem znk {p q : PZ} {n : Nat} {xs : PZ} (h : z56 p q n xs) (hs : szM p q) : szP (z0m xs) := by
 obtain ⟨N, e, h1, h2, h3, h4⟩ := hs
 have hl := zkx h
 have hb := ziq (N := N) zut (l := xs) (fun t ht => by
  obtain ⟨_, a, ha, b, hb, hh⟩ := z7f h ht
  rw [hh]
  exact h1 a ha b hb)
 simp only [Nat.zero_add] at hb
 exact zbg hb (by omega) (Nat.lt_of_le_of_lt (Nat.mul_le_mul_right N hl) h3) h4
theorem zuu {p q : PZ} (hs : szM p q) {t u : Int × Mono} (ht : t ∈ p) (hu : u ∈ q) : szZ (t.1 * u.1) := by
 obtain ⟨N, e, h1, h2, h3, h4⟩ := hs
 have h5 := h1 t ht u hu
 have hp : 0 < p.length := List.length_pos_of_mem ht
 have hq : 0 < q.length := List.length_pos_of_mem hu
 have : 1 * N ≤ p.length * q.length * N := Nat.mul_le_mul_right N (Nat.mul_pos hp hq)
 exact zio (Nat.lt_of_le_of_lt (by omega) h3) h4
end
section
open Go.RowKit
def zd8 : Option PZ → Bool
 | none => false
 | some _ => true
def z4u : Option PZ → PZ
 | none => []
 | some p => p
theorem zbk {S : Nat → Prop} (vp vq : Value) (p q : PZ) (w : World) (hS : ∀ k, S k → k < w.heap.size) (hp : RTs S w vp p) (hq : RTs S w vq q) (hmp : z0i p) (hmq : z0i q) (hszp : szP p) (hszq : szP q) (hsz : szM p q) :
  Calls Tryz.prog 39 #[vp, vq] w fun e w' => ∃ v', e = .returned (.tuple #[v', .bool (zd8 (z0e p q))]) ∧ RTs (Plus S w w') w' v' (z4u (z0e p q)) ∧ Ext w w' := by
 have hlp := hp.len_le
 have hlq := hq.len_le
 have HP := hid hp
 have HQ := hid hq
 have HMP := hid hmp
 have HMQ := hid hmq
 have HZP := hid hszp
 have HZQ := hid hszq
 have HSZ := hid hsz
 obtain ⟨ap, cp, rfl⟩ := hp.form
 obtain ⟨aq, cq, rfl⟩ := hq.form
 obtain ⟨R, hR⟩ : ∃ R, R = z0e p q := ⟨_, rfl⟩
 rw [← hR]
 have HR := hid hR
 clear hp hq hmp hmq hszp hszq hsz hR
 go_enter Tryz.func39, Tryz.ntmps39
 go_wp2
 go_loopw [6, 7] (fun o i wr => ∃ k xs n, k ≤ p.length ∧ i = .int .i64 (k : Nat) ∧ Ext w wr ∧ Hid (n = k * q.length) ∧ Hid (z56 p q n xs) ∧ Hid (RTs (Plus S w wr) wr o (z0m xs))) (fun _ i _ => p.length - (intOf i).toNat)
 case atStart => exact ⟨0, [], 0, Nat.zero_le _, rfl, Ext.refl _, hid (by rw [Nat.zero_mul]), hid (zbh _ _), hid (RTs.nilv _ _ _ _ (by omega))⟩
 case round =>
  obtain ⟨k, xs, n, hk, rfl, hx, HN, HF, HO⟩ := hrel
  have HX := hid hx
  by_cases hlt : k < p.length
  ·obtain ⟨t, ht⟩ := z00 hlt
   have HT := hid ht
   clear ht hx
   go_wp2
   go_loopw [6, 8] (fun o i wr => ∃ j xs n, j ≤ q.length ∧ i = .int .i64 (j : Nat) ∧ Ext w wr ∧ Hid (n = k * q.length + j) ∧ Hid (z56 p q n xs) ∧ Hid (RTs (Plus S w wr) wr o (z0m xs))) (fun _ i _ => q.length - (intOf i).toNat)
   case atStart => exact ⟨0, xs, n, Nat.zero_le _, rfl, HX.out, hid (by rw [HN.out, Nat.add_zero]), HF, HO⟩
   case round =>
    clear HO HF HN HX
    clear xs n
    obtain ⟨j, xs, n, hj, rfl, hx, HN, HF, HO⟩ := hrel
    have HX := hid hx
    by_cases hlj : j < q.length
    ·obtain ⟨u, hu⟩ := z00 hlj
     have HGET : Hid ((z4d p q)[n]? = some (z9g t u)) := hid (by rw [HN.out]; exact zfl HT.out hu)
     have HTP := hid (List.mem_of_getElem? HT.out)
     have HUQ := hid (List.mem_of_getElem? hu)
     obtain ⟨b, off, vd, vo, rfl, -, hn1, hm1, hSb, h1, h2, h3, h4, h5⟩ := HP.out.cellAt HT.out
     obtain ⟨b', off', vd', vo', rfl, -, hn1', hm1', hSb', h1', h2', h3', h4', h5'⟩ := HQ.out.cellAt hu
     have H4 := hid h4
     have H5 := hid h5
     have H4' := hid h4'
     have H5' := hid h5'
     obtain ⟨ad, cd, rfl⟩ := h4.form
     obtain ⟨ao, co, rfl⟩ := h5.form
     obtain ⟨ad', cd', rfl⟩ := h4'.form
     obtain ⟨ao', co', rfl⟩ := h5'.form
     have x0 : Ext w wr.drew := hx.drew
     have HX0 := hid x0
     have HXR := hid ((Ext.refl wr).drew)
     have S0 : _ ∧ _ := And.intro (x0.cell h3) (x0.cell h3')
     have CT := zhe (S := S) _ _ t.2 u.2 wr.drew (H5.out.ext x0 hS) (H5'.out.ext x0 hS) (z08 hS x0) (HMP.out t HTP.out) (HMQ.out u HUQ.out)
     have CM := fun (W : World) (hW : Ext w W) => zum (S := S) (.agg #[.bool (decide (t.1 < 0)), .slice ad (rep 10 t.1.natAbs).length cd]) (.agg #[.bool (decide (u.1 < 0)), .slice ad' (rep 10 u.1.natAbs).length cd']) t.1 u.1 W ⟨_, rfl, H4.out.ext hW hS⟩ ⟨_, rfl, H4'.out.ext hW hS⟩ (z08 hS hW) (HZP.out.2 t HTP.out) (HZQ.out.2 u HUQ.out)
     obtain ⟨bt, hbt⟩ : ∃ b, b = decide (t.1 < 0) := ⟨_, rfl⟩
     obtain ⟨nt, hnt⟩ : ∃ n, n = (rep 10 t.1.natAbs).length := ⟨_, rfl⟩
     obtain ⟨bu, hbu⟩ : ∃ b, b = decide (u.1 < 0) := ⟨_, rfl⟩
     obtain ⟨nu, hnu⟩ : ∃ n, n = (rep 10 u.1.natAbs).length := ⟨_, rfl⟩
     obtain ⟨mt, hmt⟩ : ∃ n, n = t.2.length := ⟨_, rfl⟩
     obtain ⟨mu, hmu⟩ : ∃ n, n = u.2.length := ⟨_, rfl⟩
     rw [← hbt, ← hnt, ← hbu, ← hnu] at CM
     rw [← hmt, ← hmu] at S0 CT
     rw [← hbt] at h1
     rw [← hnt] at h2
     rw [← hbu] at h1'
     rw [← hnu] at h2'
     have HC0 : Hid (_ ∧ _ ∧ _ ∧ _) := hid (And.intro h1 (And.intro h2 (And.intro h1' h2')))
     have HCM := hid CM
     have HSO := hid (zuu HSZ.out HTP.out HUQ.out)
     have HSX := hid (znk HF.out HSZ.out)
     have HMX : Hid (z0i (z0m xs)) := hid (z6g (fun y hy => (z7f HF.out hy).1)).may
     clear hu h1 h2 h3 h4 h5 h1' h2' h3' h4' h5' hx x0 CM hbt hnt hbu hnu hmt hmu
     cases hr : z4s t.2 u.2 with
     | none =>
      have HRN : Hid (R = none) := hid (HR.out.trans (zbj HF.out (by rw [HGET.out]; unfold z9g; rw [hr]; rfl)))
      rw [hr] at CT
      unfold zuf zug at CT
      simp only at CT
      have HCT := hid CT
      clear CT hr
      go_wp2
      go_region_held3 (fun W => W.cell? ⟨b, off + k * 3 + 2, none⟩ = some (.slice ao mt co) ∧ W.cell? ⟨b', off' + j * 3 + 2, none⟩ = some (.slice ao' mu co')) (first | exact S0 | exact S1)
       (first
        | (go_at_call 80; (with_reducible refine HCT.out.mono ?_); rintro e w1 ⟨v1, rfl, hp1, hx1⟩; have S1 : _ ∧ _ := And.intro (hx1.cell S0.1) (hx1.cell S0.2); have HX1 := hid (HX0.out.trans hx1); clear hx1 hp1))
      go_wp2
      all_goals
       go_ret2
       rw [HRN.out]
       exact ⟨_, rfl, RTs.nilv _ _ _ _ (by omega), HX1.out⟩
     | some m =>
      have HMM := hid (zd5 hr)
      have HNX := hid (zbi HF.out (x := (t.1 * u.1, m)) (by rw [HGET.out]; unfold z9g; rw [hr]; rfl))
      rw [hr] at CT
      unfold zuf zug at CT
      simp only at CT
      have HCT := hid CT
      clear CT hr
      go_wp2
      go_region_held3 (fun W => W.cell? ⟨b, off + k * 3 + 2, none⟩ = some (.slice ao mt co) ∧ W.cell? ⟨b', off' + j * 3 + 2, none⟩ = some (.slice ao' mu co')) (first | exact S0 | exact S1)
       (first
        | (go_at_call 80; (with_reducible refine HCT.out.mono ?_); rintro e w1 ⟨v1, rfl, hp1, hx1⟩; have S1 : _ ∧ _ := And.intro (hx1.cell S0.1) (hx1.cell S0.2); have HX1 := hid (HX0.out.trans hx1); have HXR1 := hid (HXR.out.trans hx1); have HP1 : Hid (Pows (Plus S w w1) w1 v1 m) := hid (hp1.to (Kept.refl _ _) (zaj HX0.out.size)); clear hx1 hp1))
      have x1 : Ext w w1.drew := HX1.out.drew
      have HX1D := hid x1
      have T0 : _ ∧ _ ∧ _ ∧ _ := And.intro (x1.cell HC0.out.1) (And.intro (x1.cell HC0.out.2.1) (And.intro (x1.cell HC0.out.2.2.1) (x1.cell HC0.out.2.2.2)))
      have HCM1 := hid (HCM.out w1.drew x1)
      clear x1 S0 S1
      go_wp2
      go_region_held3 (fun W => W.cell? ⟨b, off + k * 3, none⟩ = some (.bool bt) ∧ W.cell? ⟨b, off + k * 3 + 1, none⟩ = some (.slice ad nt cd) ∧ W.cell? ⟨b', off' + j * 3, none⟩ = some (.bool bu) ∧ W.cell? ⟨b', off' + j * 3 + 1, none⟩ = some (.slice ad' nu cd')) (first | exact T0 | exact T1 | exact T2)
       (first
        | (go_at_call 81; (with_reducible refine HCM1.out.mono ?_); rintro e w2 ⟨v2, rfl, hz2, hx2⟩; have T1 : _ ∧ _ ∧ _ ∧ _ := And.intro (hx2.cell T0.1) (And.intro (hx2.cell T0.2.1) (And.intro (hx2.cell T0.2.2.1) (hx2.cell T0.2.2.2))); have HX2 : Hid (Ext w w2) := hid (HX1D.out.trans hx2); have HX12 : Hid (Ext w1 w2) := hid (((Ext.refl w1).drew).trans hx2); have C2 := hid (z8r (S := Plus S w w2) _ _ _ (z0m xs) (t.1 * u.1) m w2 (z1i hS HX2.out) (RTs.later hS HO.out HX.out (HXR1.out.trans HX12.out)) (hz2.to (Kept.refl _ _) (zaj HX1D.out.size)) (HP1.out.to (Kept.ext HX12.out (z1i hS HX1.out)) (z3c HX12.out.size)) HMX.out HMM.out HSX.out HSO.out); clear hx2 hz2)
        | (go_at_call 73; (with_reducible refine C2.out.mono ?_); rintro e w3 ⟨v3, rfl, hp3, hx3⟩; have T2 : _ ∧ _ ∧ _ ∧ _ := And.intro (hx3.cell T1.1) (And.intro (hx3.cell T1.2.1) (And.intro (hx3.cell T1.2.2.1) (hx3.cell T1.2.2.2))); have HX3 := hid (HX2.out.trans hx3); have HP3 := hid (hp3.to (Kept.refl _ _) (z6n HX2.out hx3)); clear hx3 hp3))
      go_wp2
      go_roundw
      case rel => exact ⟨j + 1, xs ++ [(t.1 * u.1, m)], n + 1, by omega, by go_num, HX3.out, hid (by rw [HN.out, Nat.add_assoc]), HNX, hid (by unfold z0m; rw [zbc]; exact HP3.out)⟩
      case measure => simp only [intOf]; omega
    ·obtain rfl : j = q.length := by omega
     clear hx
     go_wp2
     go_roundw
     case rel => exact ⟨k + 1, xs, n, by omega, by go_num, HX.out, hid (by rw [HN.out, Nat.add_mul, Nat.one_mul]), HF, HO⟩
     case measure => simp only [intOf]; omega
  ·obtain rfl : k = p.length := by omega
   have HRS := hid (HR.out.trans (zd7 HF.out HN.out))
   clear hx
   go_wp2
   all_goals
    go_ret2
    rw [HRS.out]
    exact ⟨_, rfl, HO.out, HX.out⟩
end
section
open Go.RowKit
theorem zfm {S : Nat → Prop} (vp vq : Value) (p q : PZ) (w : World) (hS : ∀ k, S k → k < w.heap.size) (hp : RTs S w vp p) (hq : RTs S w vq q) (hmp : z0i p) (hmq : z0i q) (hszp : szP p) (hszq : szP q) (hsz : szM p q) :
  Calls Tryz.prog 33 #[vp, vq] w fun e w' => ∃ v', e = .returned v' ∧ RTs (Plus S w w') w' v' (z4u (z0e p q)) ∧ Ext w w' := by
 have HT := hid (zbk vp vq p q w hS hp hq hmp hmq hszp hszq hsz)
 clear hp hq
 go_enter Tryz.func33, Tryz.ntmps33
 go_wp2_with fail
 refine HT.out.mono ?_
 rintro e w1 ⟨v1, rfl, hp1, hx1⟩
 have HX1 := hid hx1
 have HP1 := hid hp1
 clear hx1 hp1
 go_wp2
 all_goals
  go_ret
  exact ⟨_, rfl, HP1.out, HX1.out⟩
theorem zd9 {p : PZ} (h : canP p) : z0n (ofP p) = p := by
 unfold z0n
 rw [if_pos (zag h)]
 exact z6h p
theorem RTs.old {w : World} {S : Nat → Prop} {v : Value} {p : PZ} (h : RTs S w v p) (hS : ∀ k, S k → k < w.heap.size) : RTs (Old w) w v p := h.to (Kept.refl _ _) hS
theorem z05.old {w : World} {S : Nat → Prop} {v : Value} {p : List RTerm} (h : z05 S w v p) (hS : ∀ k, S k → k < w.heap.size) : z05 (Old w) w v p := h.to (Kept.refl _ _) hS
theorem z16.on {w W : World} {v : Value} {z : List (List RTerm)} (h : z16 (Old w) w v z) (hx : Ext w W) : z16 (Old W) W v z := h.to (Kept.ext hx (fun _ h => h)) (z5l hx)
theorem z05.on {w W : World} {v : Value} {z : List RTerm} (h : z05 (Old w) w v z) (hx : Ext w W) : z05 (Old W) W v z := h.to (Kept.ext hx (fun _ h => h)) (z5l hx)
theorem zis {p : PZ} (h : z0i p) : ∀ t ∈ p, t.2.length ≤ 1000000 := fun t ht => Nat.le_trans (z3m (h t ht)) (by omega)
end
section
open Go.RowKit
theorem zuv {S : Nat → Prop} (vd : Value) (x : Int) (w : World) (hd : Digs S w vd (rep 10 x.natAbs)) :
  Calls Tryz.prog 121 #[.agg #[.bool (decide (x < 0)), vd]] w fun e w' => e = .returned (.agg #[.bool (decide (-x < 0)), vd]) ∧ Ext w w' := by
 obtain ⟨a, c, rfl⟩ := hd.form
 have hlen := z4t x.natAbs
 obtain ⟨n, hn⟩ : ∃ n, n = (rep 10 x.natAbs).length := ⟨_, rfl⟩
 rw [← hn] at hlen ⊢
 have hl := hd.len_le
 rw [← hn] at hl
 have hpos : decide (0 < n) = decide (x ≠ 0) := by rw [hlen, decide_eq_decide]; omega
 have HPOS := hid hpos
 clear hd hn hlen hpos
 rcases (show x < 0 ∨ x = 0 ∨ 0 < x by omega) with hx | hx | hx
 ·have e1 : decide (x < 0) = true := decide_eq_true hx
  have E2 : Hid (decide (-x < 0) = false) := hid (decide_eq_false (by omega))
  rw [e1]
  clear hx e1 hl
  go_enter Tryz.func121, Tryz.ntmps121
  go_wp2
  all_goals
   refine bodyPost_ret (by simp [results, Tryz.results121, go_sem]; rfl) rfl ?_
   exact ⟨by rw [E2.out], Ext.alloc (Ext.alloc (Ext.refl w) _) _⟩
 ·subst hx
  have hn0 : n = 0 := by have := HPOS.out; simpa using this
  subst hn0
  have e1 : decide ((0 : Int) < 0) = false := by decide
  have E2 : Hid (decide (-(0 : Int) < 0) = false) := hid (by decide)
  rw [e1]
  clear e1 hl
  go_enter Tryz.func121, Tryz.ntmps121
  go_wp2
  all_goals
   refine bodyPost_ret (by simp [results, Tryz.results121, go_sem]; rfl) rfl ?_
   exact ⟨by rw [E2.out], Ext.alloc (Ext.alloc (Ext.refl w) _) _⟩
 ·have e1 : decide (x < 0) = false := decide_eq_false (by omega)
  have E2 : Hid (decide (-x < 0) = true) := hid (decide_eq_true (by omega))
  have hn0 : 0 < n := by
   have := HPOS.out
   rw [decide_eq_decide] at this
   exact this.2 (by omega)
  rw [e1]
  clear hx e1
  go_enter Tryz.func121, Tryz.ntmps121
  go_wp2
  all_goals
   refine bodyPost_ret (by simp [results, Tryz.results121, go_sem]; rfl) rfl ?_
   exact ⟨by rw [E2.out], Ext.alloc (Ext.alloc (Ext.refl w) _) _⟩
def negP (p : PZ) : PZ := p.map fun t => (-t.1, t.2)
theorem zuw {p : PZ} {k : Nat} {t : Int × Mono} (h : p[k]? = some t) : negP (p.take (k + 1)) = negP (p.take k) ++ [(-t.1, t.2)] := by
 rw [List.take_add_one, h]
 unfold negP
 rw [List.map_append]
 rfl
theorem z33 (p : PZ) : (negP p).length = p.length := by unfold negP; rw [List.length_map]
theorem zrc {p : PZ} (h : z0i p) : z0i (negP p) := fun t ht => by
 obtain ⟨u, hu, rfl⟩ := List.mem_map.1 ht
 exact h u hu
theorem zux {x : Int} (h : szZ x) : szZ (-x) := by unfold szZ; rw [Int.natAbs_neg]; exact h
theorem zuy {p : PZ} (h : szP p) : szP (negP p) := ⟨by rw [z33]; exact h.1, fun t ht => by
 obtain ⟨u, hu, rfl⟩ := List.mem_map.1 ht
 exact zux (h.2 u hu)⟩
theorem znl {S : Nat → Prop} (v : Value) (p : PZ) (w : World) (h : RTs S w v p) (hS : ∀ k, S k → k < w.heap.size) (hsz : szP p) :
  Calls Tryz.prog 72 #[v] w fun e w' => ∃ v', e = .returned v' ∧ RTs (Plus S w w') w' v' (negP p) ∧ Ext w w' := by
 obtain ⟨j0, hj, jz0, jz1, jz2⟩ := info_parts Tryz.infoT
 have hl := h.len_le
 have H := hid h
 have HSZ := hid hsz
 obtain ⟨a, cap, rfl⟩ := h.form
 clear h hsz
 go_enter Tryz.func72, Tryz.ntmps72
 go_wp2
 go_loopw [3, 4] (fun o i wr => ∃ k xs, k ≤ p.length ∧ i = .int .i64 (k : Nat) ∧ Ext w wr ∧ Hid (wr.ownsRow w.heap.size 141 3 o k xs) ∧ Hid (z1j S w xs (negP (p.take k)))) (fun _ i _ => p.length - (intOf i).toNat)
 case atStart => exact ⟨0, [], Nat.zero_le _, rfl, Ext.refl _, hid (World.ownsRow_nil _ _ _ _), hid rfl⟩
 case round =>
  obtain ⟨k, xs, hk, rfl, hx, HW, HXS⟩ := hrel
  have HX := hid hx
  by_cases hlt : k < p.length
  ·obtain ⟨t, ht⟩ := z00 hlt
   obtain ⟨b, off, vd, vo, rfl, -, hn1, hm1, hSb, h1, h2, h3, h4, h5⟩ := H.out.cellAt ht
   have HT := hid (zuw ht)
   have H4 := hid h4
   have H5 := hid h5
   obtain ⟨ad, cd, rfl⟩ := h4.form
   obtain ⟨ao, co, rfl⟩ := h5.form
   have x0 : Ext w wr.drew := hx.drew
   have HX0 := hid x0
   have h0 : _ ∧ _ ∧ _ := And.intro h1 (And.intro h2 h3)
   have c1 := fun (W : World) (hW : Ext w W) => zuv (S := S) (.slice ad (rep 10 t.1.natAbs).length cd) t.1 W (H4.out.ext hW hS)
   obtain ⟨bt, hbt⟩ : ∃ b, b = decide (t.1 < 0) := ⟨_, rfl⟩
   obtain ⟨bn, hbn⟩ : ∃ b, b = decide (-t.1 < 0) := ⟨_, rfl⟩
   obtain ⟨nt, hnt⟩ : ∃ n, n = (rep 10 t.1.natAbs).length := ⟨_, rfl⟩
   obtain ⟨nm, hnm⟩ : ∃ n, n = t.2.length := ⟨_, rfl⟩
   have HBN := hid hbn
   rw [← hbt, ← hnt, ← hnm] at h0
   rw [← hbt, ← hnt, ← hbn] at c1
   rw [← hnm] at H5
   rw [← hnt] at H4
   have S0 : _ ∧ _ ∧ _ := And.intro (x0.cell h0.1) (And.intro (x0.cell h0.2.1) (x0.cell h0.2.2))
   have C1 := hid (c1 wr.drew x0)
   have HB3 : Hid (k + 1 ≤ maxLen) := hid (by have := HSZ.out.1; unfold maxLen; omega)
   have HB4 : Hid ((k + 1) * 56 ≤ 140737488355328) := hid (by have := HSZ.out.1; omega)
   have HWR := hid (z0z HW.out ((Ext.refl wr).drew))
   have HC0 := hid h0
   clear ht h0 h1 h2 h3 h4 h5 hx x0 c1 hbt hnt hnm hbn
   go_wp2
   go_region_held3 (fun W => W.cell? ⟨b, off + k * 3, none⟩ = some (.bool bt) ∧ W.cell? ⟨b, off + k * 3 + 1, none⟩ = some (.slice ad nt cd) ∧ W.cell? ⟨b, off + k * 3 + 2, none⟩ = some (.slice ao nm co)) (first | exact S0 | exact S1 | exact ⟨cell_old _ S1.1, cell_old _ S1.2.1, cell_old _ S1.2.2⟩ | exact S5)
    (first
     | (go_at_call 121; (with_reducible refine C1.out.mono ?_); rintro e w1 ⟨rfl, hx1⟩; have HX1 := hid (HX0.out.trans hx1); have S1 : _ ∧ _ ∧ _ := And.intro (hx1.cell S0.1) (And.intro (hx1.cell S0.2.1) (hx1.cell S0.2.2)); have HW3 := hid (z0z (z0z HWR.out hx1) (Ext.alloc (Ext.refl w1) (.cells #[.bool bn, .slice ad nt cd, .slice ao nm co] 141))); have HSRC3 := hid (zbf w1 #[.bool bn, .slice ad nt cd, .slice ao nm co] 141 (z28 rfl rfl rfl) (size := 3) rfl); have HB5 := hid (HX1.out.alloc (.cells #[.bool bn, .slice ad nt cd, .slice ao nm co] 141)).size; clear hx1)
     | (refine z29 rfl (.tmp 11) (.tmp 24) 35 rfl w.heap.size 141 j0 (.agg #[.bool false, .slice none 0 0, .slice none 0 0]) 3 56 Tryz.underlying35 hj jz0 jz1 jz2 rfl (Nat.succ_pos _) _ k xs rfl HW3.out (some ⟨w1.heap.size, 0, none⟩) 1 1 _ rfl HSRC3.out HB3.out HB4.out HB5.out ?_; intro v5 w5 hown hg hbk; have HW5 := hid hown; have HX5 := hid (z2a (HX1.out.alloc (.cells #[.bool bn, .slice ad nt cd, .slice ao nm co] 141)) HW3.out hg); have S5 : _ ∧ _ ∧ _ := And.intro (HX5.out.cell HC0.out.1) (And.intro (HX5.out.cell HC0.out.2.1) (HX5.out.cell HC0.out.2.2)); clear hown hg hbk))
   all_goals
    go_wp2
    go_roundw
    case rel =>
     refine ⟨k + 1, xs ++ (#[.bool bn, .slice ad nt cd, .slice ao nm co] : Array Value).toList, by omega, by go_num, HX5.out, HW5, hid ?_⟩
     rw [HT.out]
     have hone : z1j S w (#[.bool bn, .slice ad nt cd, .slice ao nm co] : Array Value).toList [(-t.1, t.2)] := by
      rw [HBN.out]
      exact z1j.single (t := (-t.1, t.2)) (by rw [Int.natAbs_neg]; exact H4.out) H5.out
     exact HXS.out.append hone
    case measure => simp only [intOf]; omega
  ·obtain rfl : k = p.length := by omega
   have HE : Hid (p.take p.length = p) := hid List.take_length
   clear hx
   go_wp2
   all_goals
    go_ret
    refine ⟨_, rfl, ?_, HX.out⟩
    have hc := HXS.out
    rw [HE.out] at hc
    exact znc (by rw [z33]; exact HW.out) (hc.to (Kept.ext HX.out hS) (fun _ h => .inl h)) (fun k h1 h2 => .inr ⟨h1, h2⟩)
theorem zbl {S : Nat → Prop} (vp vq : Value) (p q : PZ) (w : World) (hS : ∀ k, S k → k < w.heap.size) (hp : RTs S w vp p) (hq : RTs S w vq q) (hmp : z0i p) (hmq : z0i q) (hszq : szP q) (hsz : ∀ k, k ≤ q.length → szP (addP p ((negP q).take k))) :
  Calls Tryz.prog 32 #[vp, vq] w fun e w' => ∃ v', e = .returned v' ∧ RTs (Plus S w w') w' v' (addP p (negP q)) ∧ Ext w w' := by
 have C1 := hid (znl vq q w hq hS hszq)
 have C2 := hid (fun (v1 : Value) (w1 : World) (hx1 : Ext w w1) (h1 : RTs (Plus S w w1) w1 v1 (negP q)) => zbd (S := Plus S w w1) vp v1 p (negP q) w1 (z1i hS hx1) ((hp.ext hx1 hS).to (Kept.refl _ _) (fun _ h => .inl h)) h1 hmp (zrc hmq) (zuy hszq) (fun k hk => hsz k (by rw [z33] at hk; exact hk)))
 clear hp hq hmp hmq hszq hsz
 go_enter Tryz.func32, Tryz.ntmps32
 go_wp2_with fail
 refine C1.out.mono ?_
 rintro e w1 ⟨v1, rfl, hp1, hx1⟩
 have HX1 := hid hx1
 have HP1 := hid hp1
 have C3 := hid (C2.out v1 w1 hx1 hp1)
 clear hx1 hp1 C2
 go_wp2_with fail
 refine C3.out.mono ?_
 rintro e w2 ⟨v2, rfl, hp2, hx2⟩
 have HX2 := hid (HX1.out.trans hx2)
 have HP2 := hid (hp2.to (Kept.refl _ _) (z6n HX1.out hx2))
 clear hx2 hp2
 go_wp2
 all_goals
  go_ret
  exact ⟨_, rfl, HP2.out, HX2.out⟩
end
section
theorem z1s (m : Mono) (v u : Int) : ex (z0j m v) u = if u = v then 0 else ex m u := by
 unfold z0j
 induction m with
 | nil => simp [ex]
 | cons x r ih =>
  by_cases hx : x.1 = v
  ·rw [List.filter_cons_of_neg (by simpa using hx), ih]
   by_cases hu : u = v
   ·rw [if_pos hu, if_pos hu]
   ·rw [if_neg hu, if_neg hu, ex, if_neg (by omega)]
  ·rw [List.filter_cons_of_pos (by simpa using hx)]
   simp only [ex, ih]
   by_cases hu : u = v
   ·subst hu; simp [hx]
   ·simp [hu]
theorem z7u {l k : Int} {m : Mono} (h : z0d l m = true) (hk : k ≤ l) : z0d k m = true := by
 cases m with
 | nil => rfl
 | cons x r =>
  simp only [z0d, Bool.and_eq_true, decide_eq_true_eq] at h ⊢
  exact ⟨by omega, h.2⟩
theorem zbm {l : Int} {m : Mono} (h : z0d l m = true) (v : Int) : z0d l (z0j m v) = true := by
 unfold z0j
 induction m generalizing l with
 | nil => rfl
 | cons x r ih =>
  simp only [z0d, Bool.and_eq_true, decide_eq_true_eq] at h
  by_cases hx : x.1 = v
  ·rw [List.filter_cons_of_neg (by simpa using hx)]
   exact z7u (ih h.2) (by omega)
  ·rw [List.filter_cons_of_pos (by simpa using hx)]
   simp only [z0d, Bool.and_eq_true, decide_eq_true_eq]
   exact ⟨by omega, ih h.2⟩
theorem z1p {m : Mono} (h : mayM m = true) (v : Int) : mayM (z0j m v) = true := zbm h v
theorem z3w {m : Mono} (h : mayM m = true) (v : Int) : 0 ≤ ex m v := (z1n h v).1
theorem zfn {a b : Mono} (ha : mayM a = true) (hb : mayM b = true) (h : ∀ v, ex a v = ex b v) : a = b := zav ha hb h
theorem zrd {f g : Int → Int} {n : Nat} : cmpE f g n = 1 ↔ ∃ k : Nat, 1 ≤ k ∧ k ≤ n ∧ g (k : Nat) < f (k : Nat) ∧ ∀ j : Nat, k < j → j ≤ n → f (j : Nat) = g (j : Nat) := by
 induction n with
 | zero =>
  simp only [cmpE]
  constructor
  ·intro h; omega
  ·rintro ⟨k, h1, h2, -⟩; omega
 | succ n ih =>
  simp only [cmpE]
  by_cases h : f ((n + 1 : Nat) : Int) = g ((n + 1 : Nat) : Int)
  ·rw [if_pos h, ih]
   constructor
   ·rintro ⟨k, h1, h2, h3, h4⟩
    refine ⟨k, h1, by omega, h3, fun j h5 h6 => ?_⟩
    by_cases hj : j = n + 1
    ·subst hj; exact h
    ·exact h4 j h5 (by omega)
   ·rintro ⟨k, h1, h2, h3, h4⟩
    by_cases hk : k = n + 1
    ·subst hk; omega
    ·exact ⟨k, h1, by omega, h3, fun j h5 h6 => h4 j h5 (by omega)⟩
  ·rw [if_neg h, z3p]
   constructor
   ·intro h1
    exact ⟨n + 1, by omega, Nat.le_refl _, h1, fun j h5 h6 => by omega⟩
   ·rintro ⟨k, h1, h2, h3, h4⟩
    by_cases hk : k = n + 1
    ·subst hk; exact h3
    ·exact absurd (h4 (n + 1) (by omega) (Nat.le_refl _)) h
theorem z3x {a b : Mono} (ha : mayM a = true) (hb : mayM b = true) : z0f a b = 1 ↔ ∃ u : Int, ex b u < ex a u ∧ ∀ j, u < j → ex a j = ex b j := by
 rw [z20 ha hb, zrd]
 constructor
 ·rintro ⟨k, h1, h2, h3, h4⟩
  refine ⟨(k : Int), h3, fun j hj => ?_⟩
  by_cases h200 : 200 < j
  ·rw [z4b ha h200, z4b hb h200]
  ·have := h4 j.toNat (by omega) (by omega)
   rwa [Int.toNat_of_nonneg (by omega)] at this
 ·rintro ⟨u, h1, h2⟩
  have hu1 : ¬ u ≤ 0 := fun h => by rw [z0t ha h, z0t hb h] at h1; omega
  have hu2 : ¬ 200 < u := fun h => by rw [z4b ha h, z4b hb h] at h1; omega
  refine ⟨u.toNat, by omega, by omega, ?_, fun j h5 h6 => h2 _ (by omega)⟩
  rw [Int.toNat_of_nonneg (by omega)]
  exact h1
theorem zcn {p : PZ} (h : canP p) (f : Int × Mono → Option (Int × Mono)) (h1 : ∀ t ∈ p, ∀ u, f t = some u → u.1 ≠ 0 ∧ mayM u.2 = true)
  (h2 : ∀ t ∈ p, ∀ t' ∈ p, z0f t.2 t'.2 = 1 → ∀ u, f t = some u → ∀ u', f t' = some u' → z0f u.2 u'.2 = 1) : canP (p.filterMap f) := by
 refine ⟨fun u hu => ?_, ?_⟩
 ·obtain ⟨t, ht, e⟩ := List.mem_filterMap.1 hu
  exact h1 t ht u e
 ·have h3 : p.Pairwise (fun a b => a ∈ p ∧ b ∈ p ∧ z0f a.2 b.2 = 1) := by
   refine List.Pairwise.imp_of_mem ?_ h.2
   intro a b ha hb hc
   exact ⟨ha, hb, hc⟩
  exact h3.filterMap f (fun a a' g b hb b' hb' => h2 a g.1 a' g.2.1 g.2.2 b hb b' hb')
theorem zfo {a b : Mono} (ha : mayM a = true) (hb : mayM b = true) {v : Int} (he : ex a v = ex b v) (h : z0f a b = 1) : z0f (z0j a v) (z0j b v) = 1 := by
 obtain ⟨u, h1, h2⟩ := (z3x ha hb).1 h
 refine (z3x (z1p ha v) (z1p hb v)).2 ⟨u, ?_, fun j hj => ?_⟩
 ·rw [z1s, z1s]
  by_cases hu : u = v
  ·subst hu; omega
  ·rw [if_neg hu, if_neg hu]; exact h1
 ·rw [z1s, z1s, h2 j hj]
def z9h (v e : Int) (t : Int × Mono) : Option (Int × Mono) := if ex t.2 v = e then some (t.1, z0j t.2 v) else none
def z1y (p : PZ) (v e : Int) : PZ := p.filterMap (z9h v e)
def z1m (p : PZ) : PZ := if z0r p = 0 then p else z1y p (z0r p) (degP p (z0r p))
theorem z1u {p : PZ} (h : canP p) (v e : Int) : canP (z1y p v e) := by
 refine zcn h _ (fun t ht u hu => ?_) (fun t ht t' ht' hc u hu u' hu' => ?_)
 ·unfold z9h at hu
  split at hu
  ·cases hu; exact ⟨(h.1 t ht).1, z1p (h.1 t ht).2 v⟩
  ·cases hu
 ·unfold z9h at hu hu'
  split at hu
  ·split at hu'
   ·rename_i e1 e2
    cases hu; cases hu'
    exact zfo (h.1 t ht).2 (h.1 t' ht').2 (by omega) hc
   ·cases hu'
  ·cases hu
theorem zak {p q : PZ} (h : canP p) (hs : q.Sublist p) : canP q := ⟨fun t ht => h.1 t (hs.mem ht), h.2.sublist hs⟩
theorem znm {p : PZ} (h : canP p) : canP (z1m p) := by
 unfold z1m
 split
 ·exact h
 ·exact z1u h _ _
theorem zbn {p : PZ} {v d : Int} (hd : 0 ≤ d) (h : ∀ t ∈ p, ex t.2 v ≤ d) : degP p v ≤ d := z51 _ _ _ _ hd h
theorem znn {p : PZ} {v d : Int} (hd : 0 < d) (h : ∀ t ∈ p, ex t.2 v < d) : degP p v < d := by
 have := zbn (p := p) (v := v) (d := d - 1) (by omega) (fun t ht => by have := h t ht; omega)
 omega
theorem zfp {p : PZ} {v : Int} (h : ∀ t ∈ p, ex t.2 v = 0) : degP p v = 0 := Int.le_antisymm (zbn (Int.le_refl _) (fun t ht => by rw [h t ht]; exact Int.le_refl _)) (z50 _ _ _)
theorem zre {p : PZ} {v : Int} (h : 0 < degP p v) : ∃ t ∈ p, ex t.2 v = degP p v := by
 by_cases hx : ∃ t ∈ p, ex t.2 v = degP p v
 ·exact hx
 ·have : degP p v < degP p v := znn h (fun t ht => by
   have h1 := z1l ht v
   rcases Int.lt_or_le (ex t.2 v) (degP p v) with g | g
   ·exact g
   ·exact absurd ⟨t, ht, Int.le_antisymm h1 g⟩ hx)
  omega
theorem zfq {p : PZ} (h : canP p) (hl : 0 < z0r p) : 0 < degP p (z0r p) := by
 cases p with
 | nil => simp [z0r] at hl
 | cons t r =>
  have hl' : 0 < z11 t.2 := hl
  have h1 : t.2 ≠ [] := fun e => by rw [e] at hl'; simp [z11] at hl'
  have h2 := (z76 (h.1 t (by simp)).2 h1).2.2
  have h3 := z1l (p := t :: r) (t := t) (by simp) (z11 t.2)
  show 0 < degP (t :: r) (z11 t.2)
  omega
theorem z6p {p : PZ} {v e : Int} {u : Int × Mono} (h : u ∈ z1y p v e) : ∃ t ∈ p, ex t.2 v = e ∧ u = (t.1, z0j t.2 v) := by
 obtain ⟨t, ht, e1⟩ := List.mem_filterMap.1 h
 unfold z9h at e1
 split at e1
 ·rename_i h1
  cases e1; exact ⟨t, ht, h1, rfl⟩
 ·cases e1
theorem z8s {p : PZ} {v e : Int} {u : Int × Mono} (h : u ∈ z1y p v e) : ex u.2 v = 0 := by
 obtain ⟨t, -, -, rfl⟩ := z6p h
 rw [z1s, if_pos rfl]
end
end Go.Proofs.YthdcaablomgboaaGreat
