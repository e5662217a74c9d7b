/- The document's whole numbers: sums. -/
import Derived.Test.YthplgldclilccaaZed3
namespace Go.Proofs.Ythplgldclilccaa
open Go.RowKit

theorem add_same {x y : Int} (h : decide (x < 0) = decide (y < 0)) : x + y = sg (decide (x < 0)) (x.natAbs + y.natAbs) := by
  unfold sg
  rw [decide_eq_decide] at h
  by_cases hx : x < 0
  · have hy := h.1 hx
    rw [decide_eq_true hx, if_pos rfl]
    omega
  · have hy : ¬ y < 0 := fun e => hx (h.2 e)
    rw [decide_eq_false hx, if_neg (by simp)]
    omega
theorem add_ge {x y : Int} (h : ¬ decide (x < 0) = decide (y < 0)) (hge : y.natAbs ≤ x.natAbs) : x + y = sg (decide (x < 0)) (x.natAbs - y.natAbs) := by
  unfold sg
  rw [decide_eq_decide] at h
  by_cases hx : x < 0
  · rw [decide_eq_true hx, if_pos rfl]
    omega
  · rw [decide_eq_false hx, if_neg (by simp)]
    omega
theorem add_lt {x y : Int} (h : ¬ decide (x < 0) = decide (y < 0)) (hlt : x.natAbs < y.natAbs) : x + y = sg (decide (y < 0)) (y.natAbs - x.natAbs) := by
  rw [Int.add_comm]
  exact add_ge (fun e => h e.symm) (Nat.le_of_lt hlt)
theorem same_sign {x y : Int} (h : decide (x < 0) = decide (y < 0)) : (decide (x < 0) && decide (0 < x.natAbs + y.natAbs)) = decide (x < 0) := by
  by_cases hx : x < 0
  · have : 0 < x.natAbs + y.natAbs := by omega
    simp [hx, this]
  · simp [hx]

set_option maxRecDepth 100000 in
set_option maxHeartbeats 4000000 in
theorem zed_add_same {S : Nat → Prop} (vx vy : Value) (x y : Int) (w : World) (hx : ZV S w vx x) (hy : ZV S w vy y) (hS : ∀ k, S k → k < w.heap.size) (hrx : szZ x) (hry : szZ y) (hs : decide (x < 0) = decide (y < 0)) :
    Calls Try.prog 103 #[vx, vy] w fun e w' => ∃ v', e = .returned v' ∧ ZV (New w w') w' v' (x + y) ∧ Ext w w' := by
  obtain ⟨vdx, rfl, hdx⟩ := hx
  obtain ⟨vdy, rfl, hdy⟩ := hy
  have HX := hid hdx
  have HY := hid hdy
  obtain ⟨ax, cx, rfl⟩ := hdx.form
  obtain ⟨ay, cy, rfl⟩ := hdy.form
  rw [add_same hs]
  have hsg := same_sign hs
  obtain ⟨n, hn⟩ : ∃ n, n = x.natAbs + y.natAbs := ⟨_, rfl⟩
  obtain ⟨bx, hbx⟩ : ∃ b, b = decide (x < 0) := ⟨_, rfl⟩
  obtain ⟨nx, hnx⟩ : ∃ n, n = (rep 10 x.natAbs).length := ⟨_, rfl⟩
  obtain ⟨ny, hny⟩ : ∃ n, n = (rep 10 y.natAbs).length := ⟨_, rfl⟩
  have HL : Hid ((rep 10 x.natAbs).length ≤ 10000000 ∧ (rep 10 y.natAbs).length ≤ 10000000) := hid ⟨Nat.le_trans hrx (by decide), Nat.le_trans hry (by decide)⟩
  rw [← hs, ← hn, ← hbx, ← hnx, ← hny]
  rw [← hn, ← hbx] at hsg
  have HSG := hid hsg
  have HN := hid hn
  have HNX := hid hnx
  have HNY := hid hny
  have hb : (bx == bx) = true := by simp
  have HK := hid (Ext.alloc (Ext.alloc (Ext.alloc (Ext.refl w) (.cells #[.bool bx, .slice ax nx cx] 100)) (.cells #[.bool bx, .slice ay ny cy] 100)) (.cells #[.bool false, .slice none 0 0] 100))
  have HSZ : Hid (w.heap.size + 1 + 1 < (((w.alloc (.cells #[.bool bx, .slice ax nx cx] 100)).alloc (.cells #[.bool bx, .slice ay ny cy] 100)).alloc (.cells #[.bool false, .slice none 0 0] 100)).heap.size) := hid (by simp)
  have x0 := (Ext.refl (((w.alloc (.cells #[.bool bx, .slice ax nx cx] 100)).alloc (.cells #[.bool bx, .slice ay ny cy] 100)).alloc (.cells #[.bool false, .slice none 0 0] 100))).drew
  have HX0 := hid x0
  have hc := dig_add _ _ (rep 10 x.natAbs) (rep 10 y.natAbs) _ (HX.out.ext (HK.out.trans x0) hS) (HY.out.ext (HK.out.trans x0) hS) (lt_ext hS (HK.out.trans x0)) HL.out.1 HL.out.2
  rw [val_rep two_le_10, val_rep two_le_10, ← hn, ← hnx, ← hny] at hc
  have HC := hid hc
  have S0 : _ ∧ _ ∧ _ := And.intro (old4 x0).1 (And.intro (old4 x0).2.1 (old4 x0).2.2.2)
  have HS0 := hid S0
  clear hdx hdy hn hbx hnx hny hrx hry hs hsg hc x0 S0
  go_enter Try.func103, Try.ntmps103
  go_wp2
  have S0 := HS0.out
  go_region_held3 (fun W => W.cell? ⟨w.heap.size, 0, none⟩ = some (.bool bx) ∧ W.cell? ⟨w.heap.size, 1, none⟩ = some (.slice ax nx cx) ∧ W.cell? ⟨w.heap.size + 1, 1, none⟩ = some (.slice ay ny cy)) (first | exact S0 | exact S1 | exact ⟨other (other S1.1 (ab (by omega))) (ab (by omega)), other (other S1.2.1 (ab (by omega))) (ab (by omega)), other (other S1.2.2 (ab (by omega))) (ab (by omega))⟩)
    (first
      | (go_at_call 99; (with_reducible refine HC.out.mono ?_); rintro e w1 ⟨v1, rfl, hd, hxx⟩; have S1 := And.intro (hxx.cell S0.1) (And.intro (hxx.cell S0.2.1) (hxx.cell S0.2.2)); obtain ⟨r0, r1, f0, f1⟩ := new3' (HX0.out.trans hxx); have HE := hid (And.intro r0 r1); have HXX := hid hxx; have HD := hid hd; obtain ⟨a1, n1, rfl⟩ := hd.form; clear hd hxx))
  go_wp2
  have hd := fun x y => two_set x y HE.out.1 HE.out.2
  refine bodyPost_ret (by simp [results, Try.results103, go_sem, (hd _ _).1, (hd _ _).2]; rfl) rfl ?_
  have hz := zv_mk (b := bx) HD.out
  rw [HSG.out] at hz
  have hg := fun x y => ret_zed (w0 := w) (b := w.heap.size + 1 + 1) hz (HK.out.trans HX0.out) HXX.out (by omega) (Nat.lt_of_lt_of_le HSZ.out HX0.out.size) x y
  exact ⟨_, rfl, (hg _ _).1, (hg _ _).2⟩

set_option maxRecDepth 100000 in
set_option maxHeartbeats 4000000 in
theorem zed_add_ge {S : Nat → Prop} (vx vy : Value) (x y : Int) (w : World) (hx : ZV S w vx x) (hy : ZV S w vy y) (hS : ∀ k, S k → k < w.heap.size) (hrx : szZ x) (hry : szZ y) (hs : ¬ decide (x < 0) = decide (y < 0)) (hge : y.natAbs ≤ x.natAbs) :
    Calls Try.prog 103 #[vx, vy] w fun e w' => ∃ v', e = .returned v' ∧ ZV (New w w') w' v' (x + y) ∧ Ext w w' := by
  obtain ⟨vdx, rfl, hdx⟩ := hx
  obtain ⟨vdy, rfl, hdy⟩ := hy
  have HX := hid hdx
  have HY := hid hdy
  obtain ⟨ax, cx, rfl⟩ := hdx.form
  obtain ⟨ay, cy, rfl⟩ := hdy.form
  rw [add_ge hs hge]
  have HCM : Hid (-1 < cmpN x.natAbs y.natAbs) := hid (by
    unfold cmpN
    have := cmpI_mone (x := (x.natAbs : Int)) (y := (y.natAbs : Int))
    rcases cmpI_cases (x.natAbs : Int) (y.natAbs : Int) with h | h | h
    · have := this.1 h; omega
    · omega
    · omega)
  have HLE : Hid ((rep 10 y.natAbs).length ≤ (rep 10 x.natAbs).length) := hid (rep_len_le two_le_10 _ _ (Nat.lt_of_le_of_lt hge (le_of_rep_len two_le_10 _)))
  have HVL : Hid (val 10 (rep 10 y.natAbs) ≤ val 10 (rep 10 x.natAbs)) := hid (by rw [val_rep two_le_10, val_rep two_le_10]; exact hge)
  obtain ⟨n, hn⟩ : ∃ n, n = x.natAbs - y.natAbs := ⟨_, rfl⟩
  obtain ⟨bx, hbx⟩ : ∃ b, b = decide (x < 0) := ⟨_, rfl⟩
  obtain ⟨bz, hbz⟩ : ∃ b, b = decide (y < 0) := ⟨_, rfl⟩
  obtain ⟨nx, hnx⟩ : ∃ n, n = (rep 10 x.natAbs).length := ⟨_, rfl⟩
  obtain ⟨ny, hny⟩ : ∃ n, n = (rep 10 y.natAbs).length := ⟨_, rfl⟩
  have HL : Hid ((rep 10 x.natAbs).length ≤ 10000000 ∧ (rep 10 y.natAbs).length ≤ 10000000) := hid ⟨Nat.le_trans hrx (by decide), Nat.le_trans hry (by decide)⟩
  rw [← hn, ← hbx, ← hbz, ← hnx, ← hny]
  rw [← hbx, ← hbz] at hs
  have hb : (bx == bz) = false := by rw [beq_eq_false_iff_ne]; exact hs
  have HK := hid (Ext.alloc (Ext.alloc (Ext.alloc (Ext.refl w) (.cells #[.bool bx, .slice ax nx cx] 100)) (.cells #[.bool bz, .slice ay ny cy] 100)) (.cells #[.bool false, .slice none 0 0] 100))
  have HSZ : Hid (w.heap.size + 1 + 1 < (((w.alloc (.cells #[.bool bx, .slice ax nx cx] 100)).alloc (.cells #[.bool bz, .slice ay ny cy] 100)).alloc (.cells #[.bool false, .slice none 0 0] 100)).heap.size) := hid (by simp)
  have hc1 := dig_cmp _ _ x.natAbs y.natAbs _ (HX.out.ext HK.out hS) (HY.out.ext HK.out hS) (lt_ext hS HK.out)
  rw [← hnx, ← hny] at hc1
  obtain ⟨cm, hcm⟩ : ∃ c, c = cmpN x.natAbs y.natAbs := ⟨_, rfl⟩
  rw [← hcm] at hc1 HCM
  have HC1 := hid hc1
  have hc2 := fun W (hW : Ext (((w.alloc (.cells #[.bool bx, .slice ax nx cx] 100)).alloc (.cells #[.bool bz, .slice ay ny cy] 100)).alloc (.cells #[.bool false, .slice none 0 0] 100)) W) =>
    dig_sub _ _ (rep 10 x.natAbs) (rep 10 y.natAbs) W (HX.out.ext (HK.out.trans hW) hS) (HY.out.ext (HK.out.trans hW) hS) (lt_ext hS (HK.out.trans hW)) HL.out.1 HLE.out HVL.out
  rw [val_rep two_le_10, val_rep two_le_10, ← hn, ← hnx, ← hny] at hc2
  have HC2 := hid hc2
  clear hdx hdy hn hbx hbz hnx hny hrx hry hs hge hc1 hc2 hcm
  have hcm0 := HCM.out
  go_enter Try.func103, Try.ntmps103
  go_wp2_with fail
  refine HC1.out.mono ?_
  rintro e w1 ⟨rfl, hx1⟩
  obtain ⟨p0, p1, p2, p3⟩ := old4 hx1
  have HX1 := hid hx1
  clear hx1
  go_wp2_with fail
  refine (HC2.out w1 HX1.out).mono ?_
  rintro e w2 ⟨v2, rfl, hd, hx2⟩
  obtain ⟨q0, q1, q2, q3⟩ := old4 (HX1.out.trans hx2)
  obtain ⟨r0, r1, f0, f1⟩ := new3' (HX1.out.trans hx2)
  have HE := hid (And.intro r0 r1)
  have HX2 := hid hx2
  have HD := hid hd
  obtain ⟨a1, n1, rfl⟩ := hd.form
  have hlen := rep10_pos n
  have hz := zv_mk (b := bx) HD.out
  clear hd hx2 p0 p1 p2 p3
  by_cases h0 : 0 < n
  · have hp : 0 < (rep 10 n).length := by simpa [h0] using hlen
    rw [show (bx && decide (0 < n)) = bx by simp [h0]] at hz
    have HZ := hid hz
    clear hlen hz
    cases bx
    all_goals
      go_wp2
      have hd := fun x y => two_set x y HE.out.1 HE.out.2
      refine bodyPost_ret (by simp [results, Try.results103, go_sem, (hd _ _).1, (hd _ _).2]; rfl) rfl ?_
      have hg := fun x y => ret_zed (w0 := w) (b := w.heap.size + 1 + 1) HZ.out (HK.out.trans HX1.out) HX2.out (by omega) (Nat.lt_of_lt_of_le HSZ.out HX1.out.size) x y
      exact ⟨_, rfl, (hg _ _).1, (hg _ _).2⟩
  · obtain rfl : n = 0 := by omega
    rw [show (bx && decide (0 < 0)) = false by simp] at hz
    have HZ := hid hz
    have hp : (rep 10 0).length = 0 := rfl
    clear hlen hz
    cases bx
    all_goals
      go_wp2
      have hd := fun x y => two_set x y HE.out.1 HE.out.2
      refine bodyPost_ret (by simp [results, Try.results103, go_sem, (hd _ _).1, (hd _ _).2]; rfl) rfl ?_
      have hg := fun x y => ret_zed (w0 := w) (b := w.heap.size + 1 + 1) HZ.out (HK.out.trans HX1.out) HX2.out (by omega) (Nat.lt_of_lt_of_le HSZ.out HX1.out.size) x y
      exact ⟨_, rfl, (hg _ _).1, (hg _ _).2⟩

theorem fr4 {w W : World} {u0 v0 u1 v1 : Value} {T0 T1 : TypeId} {o : Obj} (h : Ext (((w.alloc (.cells #[u0, v0] T0)).alloc (.cells #[u1, v1] T1)).alloc o) W) :
    W.frozen? ⟨w.heap.size, 0, none⟩ = false ∧ W.frozen? ⟨w.heap.size, 1, none⟩ = false ∧ W.frozen? ⟨w.heap.size + 1, 0, none⟩ = false ∧ W.frozen? ⟨w.heap.size + 1, 1, none⟩ = false := by
  have e1 := (Ext.alloc (Ext.refl _) o).trans h
  have e0 := (Ext.alloc (Ext.refl _) _).trans e1
  exact ⟨(new2 e0).2.2.1, (new2 e0).2.2.2, (new2' e1).2.2.1, (new2' e1).2.2.2⟩
/-- the exchange of two boxes -/
def swapW (w : World) (b : Nat) (x0 x1 y0 y1 : Value) : World := (((w.setCell ⟨b, 0, none⟩ x0).setCell ⟨b, 1, none⟩ x1).setCell ⟨b + 1, 0, none⟩ y0).setCell ⟨b + 1, 1, none⟩ y1
theorem swap_ext {a w : World} (h : Ext a w) {b : Nat} (hb : a.heap.size ≤ b) (x0 x1 y0 y1 : Value) : Ext a (swapW w b x0 x1 y0 y1) :=
  (h.set2 hb x0 x1).set2 (Nat.le_trans hb (Nat.le_succ _)) y0 y1
theorem swap_size {w : World} {b : Nat} (x0 x1 y0 y1 : Value) : (swapW w b x0 x1 y0 y1).heap.size = w.heap.size := by
  unfold swapW
  rw [size_set2, size_set2]
theorem swap_cells {w : World} {b : Nat} {u0 u1 v0 v1 : Value} (x0 x1 y0 y1 : Value) (c0 : w.cell? ⟨b, 0, none⟩ = some u0) (c1 : w.cell? ⟨b, 1, none⟩ = some u1) (d0 : w.cell? ⟨b + 1, 0, none⟩ = some v0) (d1 : w.cell? ⟨b + 1, 1, none⟩ = some v1) :
    (swapW w b x0 x1 y0 y1).cell? ⟨b, 0, none⟩ = some x0 ∧ (swapW w b x0 x1 y0 y1).cell? ⟨b, 1, none⟩ = some x1 ∧ (swapW w b x0 x1 y0 y1).cell? ⟨b + 1, 0, none⟩ = some y0 ∧ (swapW w b x0 x1 y0 y1).cell? ⟨b + 1, 1, none⟩ = some y1 := by
  unfold swapW
  have h1 := two_set x0 x1 c0 c1
  have e0 := other (v := x1) (other (v := x0) d0 (ab (b := b) (i := 0) (show b ≠ b + 1 by omega))) (ab (b := b) (i := 1) (show b ≠ b + 1 by omega))
  have e1 := other (v := x1) (other (v := x0) d1 (ab (b := b) (i := 0) (show b ≠ b + 1 by omega))) (ab (b := b) (i := 1) (show b ≠ b + 1 by omega))
  have h2 := two_set y0 y1 e0 e1
  exact ⟨other (other h1.1 (ab (by omega))) (ab (by omega)), other (other h1.2 (ab (by omega))) (ab (by omega)), h2.1, h2.2⟩
theorem swap_far {w : World} {b c i : Nat} {u : Value} (x0 x1 y0 y1 : Value) (h : w.cell? ⟨c, i, none⟩ = some u) (h1 : b ≠ c) (h2 : b + 1 ≠ c) : (swapW w b x0 x1 y0 y1).cell? ⟨c, i, none⟩ = some u := by
  unfold swapW
  exact other (other (other (other h (ab h1)) (ab h1)) (ab h2)) (ab h2)
theorem swap_free {w : World} {b : Nat} {c : Addr} (x0 x1 y0 y1 : Value) (h : w.frozen? c = false) : (swapW w b x0 x1 y0 y1).frozen? c = false := by
  unfold swapW
  exact free_set (free_set (free_set (free_set h)))

set_option maxRecDepth 100000 in
set_option maxHeartbeats 4000000 in
theorem zed_add_lt {S : Nat → Prop} (vx vy : Value) (x y : Int) (w : World) (hx : ZV S w vx x) (hy : ZV S w vy y) (hS : ∀ k, S k → k < w.heap.size) (hrx : szZ x) (hry : szZ y) (hs : ¬ decide (x < 0) = decide (y < 0)) (hlt : x.natAbs < y.natAbs) :
    Calls Try.prog 103 #[vx, vy] w fun e w' => ∃ v', e = .returned v' ∧ ZV (New w w') w' v' (x + y) ∧ Ext w w' := by
  obtain ⟨vdx, rfl, hdx⟩ := hx
  obtain ⟨vdy, rfl, hdy⟩ := hy
  have HX := hid hdx
  have HY := hid hdy
  obtain ⟨ax, cx, rfl⟩ := hdx.form
  obtain ⟨ay, cy, rfl⟩ := hdy.form
  rw [add_lt hs hlt]
  have HCM : Hid (cmpN x.natAbs y.natAbs = -1) := hid (by
    unfold cmpN
    rw [cmpI_mone]
    omega)
  have HLE : Hid ((rep 10 x.natAbs).length ≤ (rep 10 y.natAbs).length) := hid (rep_len_le two_le_10 _ _ (Nat.lt_trans hlt (le_of_rep_len two_le_10 _)))
  have HVL : Hid (val 10 (rep 10 x.natAbs) ≤ val 10 (rep 10 y.natAbs)) := hid (by rw [val_rep two_le_10, val_rep two_le_10]; omega)
  obtain ⟨n, hn⟩ : ∃ n, n = y.natAbs - x.natAbs := ⟨_, rfl⟩
  obtain ⟨bx, hbx⟩ : ∃ b, b = decide (x < 0) := ⟨_, rfl⟩
  obtain ⟨bz, hbz⟩ : ∃ b, b = decide (y < 0) := ⟨_, rfl⟩
  obtain ⟨nx, hnx⟩ : ∃ n, n = (rep 10 x.natAbs).length := ⟨_, rfl⟩
  obtain ⟨ny, hny⟩ : ∃ n, n = (rep 10 y.natAbs).length := ⟨_, rfl⟩
  have HL : Hid ((rep 10 x.natAbs).length ≤ 10000000 ∧ (rep 10 y.natAbs).length ≤ 10000000) := hid ⟨Nat.le_trans hrx (by decide), Nat.le_trans hry (by decide)⟩
  rw [← hn, ← hbx, ← hbz, ← hnx, ← hny]
  rw [← hbx, ← hbz] at hs
  have hb : (bx == bz) = false := by rw [beq_eq_false_iff_ne]; exact hs
  have HK := hid (Ext.alloc (Ext.alloc (Ext.alloc (Ext.refl w) (.cells #[.bool bx, .slice ax nx cx] 100)) (.cells #[.bool bz, .slice ay ny cy] 100)) (.cells #[.bool false, .slice none 0 0] 100))
  have HSZ : Hid (w.heap.size + 1 + 1 < (((w.alloc (.cells #[.bool bx, .slice ax nx cx] 100)).alloc (.cells #[.bool bz, .slice ay ny cy] 100)).alloc (.cells #[.bool false, .slice none 0 0] 100)).heap.size) := hid (by simp)
  have hc1 := dig_cmp _ _ x.natAbs y.natAbs _ (HX.out.ext HK.out hS) (HY.out.ext HK.out hS) (lt_ext hS HK.out)
  rw [← hnx, ← hny, HCM.out] at hc1
  have HC1 := hid hc1
  have hc2 := fun W (hW : Ext w W) =>
    dig_sub _ _ (rep 10 y.natAbs) (rep 10 x.natAbs) W (HY.out.ext hW hS) (HX.out.ext hW hS) (lt_ext hS hW) HL.out.2 HLE.out HVL.out
  rw [val_rep two_le_10, val_rep two_le_10, ← hn, ← hnx, ← hny] at hc2
  have HC2 := hid hc2
  clear hdx hdy hn hbx hbz hnx hny hrx hry hs hlt hc1 hc2 HCM
  go_enter Try.func103, Try.ntmps103
  go_wp2_with fail
  refine HC1.out.mono ?_
  rintro e w1 ⟨rfl, hx1⟩
  obtain ⟨p0, p1, p2, p3⟩ := old4 hx1
  obtain ⟨g0, g1, g2, g3⟩ := fr4 hx1
  have HX1 := hid hx1
  have HP := hid (And.intro p0 (And.intro p1 (And.intro p2 p3)))
  clear hx1
  go_wp2_with fail
  have hsw := swap_ext (HK.out.trans HX1.out) (Nat.le_refl _) (.bool bz) (.slice ay ny cy) (.bool bx) (.slice ax nx cx)
  have hq := swap_cells (.bool bz) (.slice ay ny cy) (.bool bx) (.slice ax nx cx) HP.out.1 HP.out.2.1 HP.out.2.2.1 HP.out.2.2.2
  obtain ⟨r0, r1, f0, f1⟩ := new3' HX1.out
  have hr0 := swap_far (.bool bz) (.slice ay ny cy) (.bool bx) (.slice ax nx cx) r0 (show w.heap.size ≠ w.heap.size + 1 + 1 by omega) (show w.heap.size + 1 ≠ w.heap.size + 1 + 1 by omega)
  have hr1 := swap_far (.bool bz) (.slice ay ny cy) (.bool bx) (.slice ax nx cx) r1 (show w.heap.size ≠ w.heap.size + 1 + 1 by omega) (show w.heap.size + 1 ≠ w.heap.size + 1 + 1 by omega)
  have hf0 := swap_free (b := w.heap.size) (.bool bz) (.slice ay ny cy) (.bool bx) (.slice ax nx cx) f0
  have hf1 := swap_free (b := w.heap.size) (.bool bz) (.slice ay ny cy) (.bool bx) (.slice ax nx cx) f1
  have hsz := swap_size (w := w1) (b := w.heap.size) (.bool bz) (.slice ay ny cy) (.bool bx) (.slice ax nx cx)
  have HSW := hid hsw
  have HQ := hid hq
  have HR := hid (And.intro hr0 hr1)
  have HF := hid (And.intro hf0 hf1)
  have HZS := hid hsz
  clear hsw hq r0 r1 f0 f1 hr0 hr1 hf0 hf1 hsz p0 p1 p2 p3 g0 g1 g2 g3
  obtain ⟨W0, hW0⟩ : ∃ W, W = swapW w1 w.heap.size (.bool bz) (.slice ay ny cy) (.bool bx) (.slice ax nx cx) := ⟨_, rfl⟩
  rw [← hW0] at HSW HQ HR HF HZS
  refine (Calls.mono (by have := HC2.out W0 HSW.out; rw [hW0] at this; exact this) ?_)
  rintro e w2 ⟨v2, rfl, hd, hx2⟩
  rw [← hW0] at hd hx2
  have q0 := hx2.cell HQ.out.1
  have q1 := hx2.cell HQ.out.2.1
  have r0 := hx2.cell HR.out.1
  have r1 := hx2.cell HR.out.2
  have hszw : w.heap.size + 1 + 1 < W0.heap.size := by rw [HZS.out]; exact Nat.lt_of_lt_of_le HSZ.out HX1.out.size
  have f0 := hx2.free hszw HF.out.1
  have f1 := hx2.free hszw HF.out.2
  have HE := hid (And.intro r0 r1)
  have HX2 := hid hx2
  have HSZ2 := hid hszw
  have HD := hid hd
  obtain ⟨a1, n1, rfl⟩ := hd.form
  have hlen := rep10_pos n
  have hz := zv_mk (b := bz) HD.out
  clear hd hx2 hW0 hszw
  by_cases h0 : 0 < n
  · have hp : 0 < (rep 10 n).length := by simpa [h0] using hlen
    rw [show (bz && decide (0 < n)) = bz by simp [h0]] at hz
    have HZ := hid hz
    clear hlen hz
    cases bz
    all_goals
      go_wp2
      have hd := fun x y => two_set x y HE.out.1 HE.out.2
      refine bodyPost_ret (by simp [results, Try.results103, go_sem, (hd _ _).1, (hd _ _).2]; rfl) rfl ?_
      have hg := fun x y => ret_zed (w0 := w) (b := w.heap.size + 1 + 1) HZ.out HSW.out HX2.out (by omega) HSZ2.out x y
      exact ⟨_, rfl, (hg _ _).1, (hg _ _).2⟩
  · obtain rfl : n = 0 := by omega
    rw [show (bz && decide (0 < 0)) = false by simp] at hz
    have HZ := hid hz
    have hp : (rep 10 0).length = 0 := rfl
    clear hlen hz
    cases bz
    all_goals
      go_wp2
      have hd := fun x y => two_set x y HE.out.1 HE.out.2
      refine bodyPost_ret (by simp [results, Try.results103, go_sem, (hd _ _).1, (hd _ _).2]; rfl) rfl ?_
      have hg := fun x y => ret_zed (w0 := w) (b := w.heap.size + 1 + 1) HZ.out HSW.out HX2.out (by omega) HSZ2.out x y
      exact ⟨_, rfl, (hg _ _).1, (hg _ _).2⟩

theorem zed_add {S : Nat → Prop} (vx vy : Value) (x y : Int) (w : World) (hx : ZV S w vx x) (hy : ZV S w vy y) (hS : ∀ k, S k → k < w.heap.size) (hrx : szZ x) (hry : szZ y) :
    Calls Try.prog 103 #[vx, vy] w fun e w' => ∃ v', e = .returned v' ∧ ZV (New w w') w' v' (x + y) ∧ Ext w w' := by
  by_cases hs : decide (x < 0) = decide (y < 0)
  · exact zed_add_same vx vy x y w hx hy hS hrx hry hs
  · by_cases hge : y.natAbs ≤ x.natAbs
    · exact zed_add_ge vx vy x y w hx hy hS hrx hry hs hge
    · exact zed_add_lt vx vy x y w hx hy hS hrx hry hs (by omega)
end Go.Proofs.Ythplgldclilccaa
