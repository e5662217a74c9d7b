/- The document's whole numbers: sums. The document: which polynomials may be. The document: out of terms, sums, a number, a variable, too great. The document: a polynomial as data. append to a slice without room: a copy in memory of its own. Stable merges of two lists, and the stable sort of a list by merges. Plain. A row of memory that is sorted in place: what the worlds of a sort are. The insertion sort in place, at terms. -/
import Derived.Test.YthplgldclilccaaProg
import Derived.Shelf.SlSortFuncK.RowK2
import Derived.Shelf.SlicesQ.Reverse
import Derived.Test.YthplgldclilccaaSet3
namespace Go.Proofs.Ythplgldclilccaa
open Go.RowKit

theorem add_same {x y : Int} (h : decide (x < 0) = decide (y < 0)) : x + y = sg (decide (x < 0)) (x.natAbs + y.natAbs) := by
  unfold sg
  rw [decide_eq_decide] at h
  by_cases hx : x < 0
  · have hy := h.1 hx
    rw [decide_eq_true hx, if_pos rfl]
    omega
  · have hy : ¬ y < 0 := fun e => hx (h.2 e)
    rw [decide_eq_false hx, if_neg (by simp)]
    omega
theorem add_ge {x y : Int} (h : ¬ decide (x < 0) = decide (y < 0)) (hge : y.natAbs ≤ x.natAbs) : x + y = sg (decide (x < 0)) (x.natAbs - y.natAbs) := by
  unfold sg
  rw [decide_eq_decide] at h
  by_cases hx : x < 0
  · rw [decide_eq_true hx, if_pos rfl]
    omega
  · rw [decide_eq_false hx, if_neg (by simp)]
    omega
theorem add_lt {x y : Int} (h : ¬ decide (x < 0) = decide (y < 0)) (hlt : x.natAbs < y.natAbs) : x + y = sg (decide (y < 0)) (y.natAbs - x.natAbs) := by
  rw [Int.add_comm]
  exact add_ge (fun e => h e.symm) (Nat.le_of_lt hlt)
theorem same_sign {x y : Int} (_h : decide (x < 0) = decide (y < 0)) : (decide (x < 0) && decide (0 < x.natAbs + y.natAbs)) = decide (x < 0) := by
  by_cases hx : x < 0
  · have : 0 < x.natAbs + y.natAbs := by omega
    simp [hx, this]
  · simp [hx]

set_option maxRecDepth 100000 in
set_option maxHeartbeats 4000000 in
theorem zed_add_same {S : Nat → Prop} (vx vy : Value) (x y : Int) (w : World) (hx : ZV S w vx x) (hy : ZV S w vy y) (hS : ∀ k, S k → k < w.heap.size) (hrx : szZ x) (hry : szZ y) (hs : decide (x < 0) = decide (y < 0)) :
    Calls Try.prog 103 #[vx, vy] w fun e w' => ∃ v', e = .returned v' ∧ ZV (New w w') w' v' (x + y) ∧ Ext w w' := by
  obtain ⟨vdx, rfl, hdx⟩ := hx
  obtain ⟨vdy, rfl, hdy⟩ := hy
  have HX := hid hdx
  have HY := hid hdy
  obtain ⟨ax, cx, rfl⟩ := hdx.form
  obtain ⟨ay, cy, rfl⟩ := hdy.form
  rw [add_same hs]
  have hsg := same_sign hs
  obtain ⟨n, hn⟩ : ∃ n, n = x.natAbs + y.natAbs := ⟨_, rfl⟩
  obtain ⟨bx, hbx⟩ : ∃ b, b = decide (x < 0) := ⟨_, rfl⟩
  obtain ⟨nx, hnx⟩ : ∃ n, n = (rep 10 x.natAbs).length := ⟨_, rfl⟩
  obtain ⟨ny, hny⟩ : ∃ n, n = (rep 10 y.natAbs).length := ⟨_, rfl⟩
  have HL : Hid ((rep 10 x.natAbs).length ≤ 10000000 ∧ (rep 10 y.natAbs).length ≤ 10000000) := hid ⟨Nat.le_trans hrx (by decide), Nat.le_trans hry (by decide)⟩
  rw [← hs, ← hn, ← hbx, ← hnx, ← hny]
  rw [← hn, ← hbx] at hsg
  have HSG := hid hsg
  have HN := hid hn
  have HNX := hid hnx
  have HNY := hid hny
  have hb : (bx == bx) = true := by simp
  have HK := hid (Ext.alloc (Ext.alloc (Ext.alloc (Ext.refl w) (.cells #[.bool bx, .slice ax nx cx] 100)) (.cells #[.bool bx, .slice ay ny cy] 100)) (.cells #[.bool false, .slice none 0 0] 100))
  have HSZ : Hid (w.heap.size + 1 + 1 < (((w.alloc (.cells #[.bool bx, .slice ax nx cx] 100)).alloc (.cells #[.bool bx, .slice ay ny cy] 100)).alloc (.cells #[.bool false, .slice none 0 0] 100)).heap.size) := hid (by simp)
  have x0 := (Ext.refl (((w.alloc (.cells #[.bool bx, .slice ax nx cx] 100)).alloc (.cells #[.bool bx, .slice ay ny cy] 100)).alloc (.cells #[.bool false, .slice none 0 0] 100))).drew
  have HX0 := hid x0
  have hc := dig_add _ _ (rep 10 x.natAbs) (rep 10 y.natAbs) _ (HX.out.ext (HK.out.trans x0) hS) (HY.out.ext (HK.out.trans x0) hS) (lt_ext hS (HK.out.trans x0)) HL.out.1 HL.out.2
  rw [val_rep two_le_10, val_rep two_le_10, ← hn, ← hnx, ← hny] at hc
  have HC := hid hc
  have S0 : _ ∧ _ ∧ _ := And.intro (old4 x0).1 (And.intro (old4 x0).2.1 (old4 x0).2.2.2)
  have HS0 := hid S0
  clear hdx hdy hn hbx hnx hny hrx hry hs hsg hc x0 S0
  go_enter Try.func103, Try.ntmps103
  go_wp2
  have S0 := HS0.out
  go_region_held3 (fun W => W.cell? ⟨w.heap.size, 0, none⟩ = some (.bool bx) ∧ W.cell? ⟨w.heap.size, 1, none⟩ = some (.slice ax nx cx) ∧ W.cell? ⟨w.heap.size + 1, 1, none⟩ = some (.slice ay ny cy)) (first | exact S0 | exact S1 | exact ⟨other (other S1.1 (ab (by omega))) (ab (by omega)), other (other S1.2.1 (ab (by omega))) (ab (by omega)), other (other S1.2.2 (ab (by omega))) (ab (by omega))⟩)
    (first
      | (go_at_call 99; (with_reducible refine HC.out.mono ?_); rintro e w1 ⟨v1, rfl, hd, hxx⟩; have S1 := And.intro (hxx.cell S0.1) (And.intro (hxx.cell S0.2.1) (hxx.cell S0.2.2)); obtain ⟨r0, r1, f0, f1⟩ := new3' (HX0.out.trans hxx); have HE := hid (And.intro r0 r1); have HXX := hid hxx; have HD := hid hd; obtain ⟨a1, n1, rfl⟩ := hd.form; clear hd hxx))
  go_wp2
  have hd := fun x y => two_set x y HE.out.1 HE.out.2
  refine bodyPost_ret (by simp [results, Try.results103, go_sem, (hd _ _).1, (hd _ _).2]; rfl) rfl ?_
  have hz := zv_mk (b := bx) HD.out
  rw [HSG.out] at hz
  have hg := fun x y => ret_zed (w0 := w) (b := w.heap.size + 1 + 1) hz (HK.out.trans HX0.out) HXX.out (by omega) (Nat.lt_of_lt_of_le HSZ.out HX0.out.size) x y
  exact ⟨_, rfl, (hg _ _).1, (hg _ _).2⟩

set_option maxRecDepth 100000 in
set_option maxHeartbeats 4000000 in
theorem zed_add_ge {S : Nat → Prop} (vx vy : Value) (x y : Int) (w : World) (hx : ZV S w vx x) (hy : ZV S w vy y) (hS : ∀ k, S k → k < w.heap.size) (hrx : szZ x) (hry : szZ y) (hs : ¬ decide (x < 0) = decide (y < 0)) (hge : y.natAbs ≤ x.natAbs) :
    Calls Try.prog 103 #[vx, vy] w fun e w' => ∃ v', e = .returned v' ∧ ZV (New w w') w' v' (x + y) ∧ Ext w w' := by
  obtain ⟨vdx, rfl, hdx⟩ := hx
  obtain ⟨vdy, rfl, hdy⟩ := hy
  have HX := hid hdx
  have HY := hid hdy
  obtain ⟨ax, cx, rfl⟩ := hdx.form
  obtain ⟨ay, cy, rfl⟩ := hdy.form
  rw [add_ge hs hge]
  have HCM : Hid (-1 < cmpN x.natAbs y.natAbs) := hid (by
    unfold cmpN
    have := cmpI_mone (x := (x.natAbs : Int)) (y := (y.natAbs : Int))
    rcases cmpI_cases (x.natAbs : Int) (y.natAbs : Int) with h | h | h
    · have := this.1 h; omega
    · omega
    · omega)
  have HLE : Hid ((rep 10 y.natAbs).length ≤ (rep 10 x.natAbs).length) := hid (rep_len_le two_le_10 _ _ (Nat.lt_of_le_of_lt hge (le_of_rep_len two_le_10 _)))
  have HVL : Hid (val 10 (rep 10 y.natAbs) ≤ val 10 (rep 10 x.natAbs)) := hid (by rw [val_rep two_le_10, val_rep two_le_10]; exact hge)
  obtain ⟨n, hn⟩ : ∃ n, n = x.natAbs - y.natAbs := ⟨_, rfl⟩
  obtain ⟨bx, hbx⟩ : ∃ b, b = decide (x < 0) := ⟨_, rfl⟩
  obtain ⟨bz, hbz⟩ : ∃ b, b = decide (y < 0) := ⟨_, rfl⟩
  obtain ⟨nx, hnx⟩ : ∃ n, n = (rep 10 x.natAbs).length := ⟨_, rfl⟩
  obtain ⟨ny, hny⟩ : ∃ n, n = (rep 10 y.natAbs).length := ⟨_, rfl⟩
  have HL : Hid ((rep 10 x.natAbs).length ≤ 10000000 ∧ (rep 10 y.natAbs).length ≤ 10000000) := hid ⟨Nat.le_trans hrx (by decide), Nat.le_trans hry (by decide)⟩
  rw [← hn, ← hbx, ← hbz, ← hnx, ← hny]
  rw [← hbx, ← hbz] at hs
  have hb : (bx == bz) = false := by rw [beq_eq_false_iff_ne]; exact hs
  have HK := hid (Ext.alloc (Ext.alloc (Ext.alloc (Ext.refl w) (.cells #[.bool bx, .slice ax nx cx] 100)) (.cells #[.bool bz, .slice ay ny cy] 100)) (.cells #[.bool false, .slice none 0 0] 100))
  have HSZ : Hid (w.heap.size + 1 + 1 < (((w.alloc (.cells #[.bool bx, .slice ax nx cx] 100)).alloc (.cells #[.bool bz, .slice ay ny cy] 100)).alloc (.cells #[.bool false, .slice none 0 0] 100)).heap.size) := hid (by simp)
  have hc1 := dig_cmp _ _ x.natAbs y.natAbs _ (HX.out.ext HK.out hS) (HY.out.ext HK.out hS) (lt_ext hS HK.out)
  rw [← hnx, ← hny] at hc1
  obtain ⟨cm, hcm⟩ : ∃ c, c = cmpN x.natAbs y.natAbs := ⟨_, rfl⟩
  rw [← hcm] at hc1 HCM
  have HC1 := hid hc1
  have hc2 := fun W (hW : Ext (((w.alloc (.cells #[.bool bx, .slice ax nx cx] 100)).alloc (.cells #[.bool bz, .slice ay ny cy] 100)).alloc (.cells #[.bool false, .slice none 0 0] 100)) W) =>
    dig_sub _ _ (rep 10 x.natAbs) (rep 10 y.natAbs) W (HX.out.ext (HK.out.trans hW) hS) (HY.out.ext (HK.out.trans hW) hS) (lt_ext hS (HK.out.trans hW)) HL.out.1 HLE.out HVL.out
  rw [val_rep two_le_10, val_rep two_le_10, ← hn, ← hnx, ← hny] at hc2
  have HC2 := hid hc2
  clear hdx hdy hn hbx hbz hnx hny hrx hry hs hge hc1 hc2 hcm
  have hcm0 := HCM.out
  go_enter Try.func103, Try.ntmps103
  go_wp2_with fail
  refine HC1.out.mono ?_
  rintro e w1 ⟨rfl, hx1⟩
  obtain ⟨p0, p1, p2, p3⟩ := old4 hx1
  have HX1 := hid hx1
  clear hx1
  go_wp2_with fail
  refine (HC2.out w1 HX1.out).mono ?_
  rintro e w2 ⟨v2, rfl, hd, hx2⟩
  obtain ⟨q0, q1, q2, q3⟩ := old4 (HX1.out.trans hx2)
  obtain ⟨r0, r1, f0, f1⟩ := new3' (HX1.out.trans hx2)
  have HE := hid (And.intro r0 r1)
  have HX2 := hid hx2
  have HD := hid hd
  obtain ⟨a1, n1, rfl⟩ := hd.form
  have hlen := rep10_pos n
  have hz := zv_mk (b := bx) HD.out
  clear hd hx2 p0 p1 p2 p3
  by_cases h0 : 0 < n
  · have hp : 0 < (rep 10 n).length := by simpa [h0] using hlen
    rw [show (bx && decide (0 < n)) = bx by simp [h0]] at hz
    have HZ := hid hz
    clear hlen hz
    cases bx
    all_goals
      go_wp2
      have hd := fun x y => two_set x y HE.out.1 HE.out.2
      refine bodyPost_ret (by simp [results, Try.results103, go_sem, (hd _ _).1, (hd _ _).2]; rfl) rfl ?_
      have hg := fun x y => ret_zed (w0 := w) (b := w.heap.size + 1 + 1) HZ.out (HK.out.trans HX1.out) HX2.out (by omega) (Nat.lt_of_lt_of_le HSZ.out HX1.out.size) x y
      exact ⟨_, rfl, (hg _ _).1, (hg _ _).2⟩
  · obtain rfl : n = 0 := by omega
    rw [show (bx && decide (0 < 0)) = false by simp] at hz
    have HZ := hid hz
    have hp : (rep 10 0).length = 0 := rfl
    clear hlen hz
    cases bx
    all_goals
      go_wp2
      have hd := fun x y => two_set x y HE.out.1 HE.out.2
      refine bodyPost_ret (by simp [results, Try.results103, go_sem, (hd _ _).1, (hd _ _).2]; rfl) rfl ?_
      have hg := fun x y => ret_zed (w0 := w) (b := w.heap.size + 1 + 1) HZ.out (HK.out.trans HX1.out) HX2.out (by omega) (Nat.lt_of_lt_of_le HSZ.out HX1.out.size) x y
      exact ⟨_, rfl, (hg _ _).1, (hg _ _).2⟩

theorem fr4 {w W : World} {u0 v0 u1 v1 : Value} {T0 T1 : TypeId} {o : Obj} (h : Ext (((w.alloc (.cells #[u0, v0] T0)).alloc (.cells #[u1, v1] T1)).alloc o) W) :
    W.frozen? ⟨w.heap.size, 0, none⟩ = false ∧ W.frozen? ⟨w.heap.size, 1, none⟩ = false ∧ W.frozen? ⟨w.heap.size + 1, 0, none⟩ = false ∧ W.frozen? ⟨w.heap.size + 1, 1, none⟩ = false := by
  have e1 := (Ext.alloc (Ext.refl _) o).trans h
  have e0 := (Ext.alloc (Ext.refl _) _).trans e1
  exact ⟨(new2 e0).2.2.1, (new2 e0).2.2.2, (new2' e1).2.2.1, (new2' e1).2.2.2⟩
/-- the exchange of two boxes -/
def swapW (w : World) (b : Nat) (x0 x1 y0 y1 : Value) : World := (((w.setCell ⟨b, 0, none⟩ x0).setCell ⟨b, 1, none⟩ x1).setCell ⟨b + 1, 0, none⟩ y0).setCell ⟨b + 1, 1, none⟩ y1
theorem swap_ext {a w : World} (h : Ext a w) {b : Nat} (hb : a.heap.size ≤ b) (x0 x1 y0 y1 : Value) : Ext a (swapW w b x0 x1 y0 y1) :=
  (h.set2 hb x0 x1).set2 (Nat.le_trans hb (Nat.le_succ _)) y0 y1
theorem swap_size {w : World} {b : Nat} (x0 x1 y0 y1 : Value) : (swapW w b x0 x1 y0 y1).heap.size = w.heap.size := by
  unfold swapW
  rw [size_set2, size_set2]
theorem swap_cells {w : World} {b : Nat} {u0 u1 v0 v1 : Value} (x0 x1 y0 y1 : Value) (c0 : w.cell? ⟨b, 0, none⟩ = some u0) (c1 : w.cell? ⟨b, 1, none⟩ = some u1) (d0 : w.cell? ⟨b + 1, 0, none⟩ = some v0) (d1 : w.cell? ⟨b + 1, 1, none⟩ = some v1) :
    (swapW w b x0 x1 y0 y1).cell? ⟨b, 0, none⟩ = some x0 ∧ (swapW w b x0 x1 y0 y1).cell? ⟨b, 1, none⟩ = some x1 ∧ (swapW w b x0 x1 y0 y1).cell? ⟨b + 1, 0, none⟩ = some y0 ∧ (swapW w b x0 x1 y0 y1).cell? ⟨b + 1, 1, none⟩ = some y1 := by
  unfold swapW
  have h1 := two_set x0 x1 c0 c1
  have e0 := other (v := x1) (other (v := x0) d0 (ab (b := b) (i := 0) (show b ≠ b + 1 by omega))) (ab (b := b) (i := 1) (show b ≠ b + 1 by omega))
  have e1 := other (v := x1) (other (v := x0) d1 (ab (b := b) (i := 0) (show b ≠ b + 1 by omega))) (ab (b := b) (i := 1) (show b ≠ b + 1 by omega))
  have h2 := two_set y0 y1 e0 e1
  exact ⟨other (other h1.1 (ab (by omega))) (ab (by omega)), other (other h1.2 (ab (by omega))) (ab (by omega)), h2.1, h2.2⟩
theorem swap_far {w : World} {b c i : Nat} {u : Value} (x0 x1 y0 y1 : Value) (h : w.cell? ⟨c, i, none⟩ = some u) (h1 : b ≠ c) (h2 : b + 1 ≠ c) : (swapW w b x0 x1 y0 y1).cell? ⟨c, i, none⟩ = some u := by
  unfold swapW
  exact other (other (other (other h (ab h1)) (ab h1)) (ab h2)) (ab h2)
theorem swap_free {w : World} {b : Nat} {c : Addr} (x0 x1 y0 y1 : Value) (h : w.frozen? c = false) : (swapW w b x0 x1 y0 y1).frozen? c = false := by
  unfold swapW
  exact free_set (free_set (free_set (free_set h)))

set_option maxRecDepth 100000 in
set_option maxHeartbeats 4000000 in
theorem zed_add_lt {S : Nat → Prop} (vx vy : Value) (x y : Int) (w : World) (hx : ZV S w vx x) (hy : ZV S w vy y) (hS : ∀ k, S k → k < w.heap.size) (hrx : szZ x) (hry : szZ y) (hs : ¬ decide (x < 0) = decide (y < 0)) (hlt : x.natAbs < y.natAbs) :
    Calls Try.prog 103 #[vx, vy] w fun e w' => ∃ v', e = .returned v' ∧ ZV (New w w') w' v' (x + y) ∧ Ext w w' := by
  obtain ⟨vdx, rfl, hdx⟩ := hx
  obtain ⟨vdy, rfl, hdy⟩ := hy
  have HX := hid hdx
  have HY := hid hdy
  obtain ⟨ax, cx, rfl⟩ := hdx.form
  obtain ⟨ay, cy, rfl⟩ := hdy.form
  rw [add_lt hs hlt]
  have HCM : Hid (cmpN x.natAbs y.natAbs = -1) := hid (by
    unfold cmpN
    rw [cmpI_mone]
    omega)
  have HLE : Hid ((rep 10 x.natAbs).length ≤ (rep 10 y.natAbs).length) := hid (rep_len_le two_le_10 _ _ (Nat.lt_trans hlt (le_of_rep_len two_le_10 _)))
  have HVL : Hid (val 10 (rep 10 x.natAbs) ≤ val 10 (rep 10 y.natAbs)) := hid (by rw [val_rep two_le_10, val_rep two_le_10]; omega)
  obtain ⟨n, hn⟩ : ∃ n, n = y.natAbs - x.natAbs := ⟨_, rfl⟩
  obtain ⟨bx, hbx⟩ : ∃ b, b = decide (x < 0) := ⟨_, rfl⟩
  obtain ⟨bz, hbz⟩ : ∃ b, b = decide (y < 0) := ⟨_, rfl⟩
  obtain ⟨nx, hnx⟩ : ∃ n, n = (rep 10 x.natAbs).length := ⟨_, rfl⟩
  obtain ⟨ny, hny⟩ : ∃ n, n = (rep 10 y.natAbs).length := ⟨_, rfl⟩
  have HL : Hid ((rep 10 x.natAbs).length ≤ 10000000 ∧ (rep 10 y.natAbs).length ≤ 10000000) := hid ⟨Nat.le_trans hrx (by decide), Nat.le_trans hry (by decide)⟩
  rw [← hn, ← hbx, ← hbz, ← hnx, ← hny]
  rw [← hbx, ← hbz] at hs
  have hb : (bx == bz) = false := by rw [beq_eq_false_iff_ne]; exact hs
  have HK := hid (Ext.alloc (Ext.alloc (Ext.alloc (Ext.refl w) (.cells #[.bool bx, .slice ax nx cx] 100)) (.cells #[.bool bz, .slice ay ny cy] 100)) (.cells #[.bool false, .slice none 0 0] 100))
  have HSZ : Hid (w.heap.size + 1 + 1 < (((w.alloc (.cells #[.bool bx, .slice ax nx cx] 100)).alloc (.cells #[.bool bz, .slice ay ny cy] 100)).alloc (.cells #[.bool false, .slice none 0 0] 100)).heap.size) := hid (by simp)
  have hc1 := dig_cmp _ _ x.natAbs y.natAbs _ (HX.out.ext HK.out hS) (HY.out.ext HK.out hS) (lt_ext hS HK.out)
  rw [← hnx, ← hny, HCM.out] at hc1
  have HC1 := hid hc1
  have hc2 := fun W (hW : Ext w W) =>
    dig_sub _ _ (rep 10 y.natAbs) (rep 10 x.natAbs) W (HY.out.ext hW hS) (HX.out.ext hW hS) (lt_ext hS hW) HL.out.2 HLE.out HVL.out
  rw [val_rep two_le_10, val_rep two_le_10, ← hn, ← hnx, ← hny] at hc2
  have HC2 := hid hc2
  clear hdx hdy hn hbx hbz hnx hny hrx hry hs hlt hc1 hc2 HCM
  go_enter Try.func103, Try.ntmps103
  go_wp2_with fail
  refine HC1.out.mono ?_
  rintro e w1 ⟨rfl, hx1⟩
  obtain ⟨p0, p1, p2, p3⟩ := old4 hx1
  obtain ⟨g0, g1, g2, g3⟩ := fr4 hx1
  have HX1 := hid hx1
  have HP := hid (And.intro p0 (And.intro p1 (And.intro p2 p3)))
  clear hx1
  go_wp2_with fail
  have hsw := swap_ext (HK.out.trans HX1.out) (Nat.le_refl _) (.bool bz) (.slice ay ny cy) (.bool bx) (.slice ax nx cx)
  have hq := swap_cells (.bool bz) (.slice ay ny cy) (.bool bx) (.slice ax nx cx) HP.out.1 HP.out.2.1 HP.out.2.2.1 HP.out.2.2.2
  obtain ⟨r0, r1, f0, f1⟩ := new3' HX1.out
  have hr0 := swap_far (.bool bz) (.slice ay ny cy) (.bool bx) (.slice ax nx cx) r0 (show w.heap.size ≠ w.heap.size + 1 + 1 by omega) (show w.heap.size + 1 ≠ w.heap.size + 1 + 1 by omega)
  have hr1 := swap_far (.bool bz) (.slice ay ny cy) (.bool bx) (.slice ax nx cx) r1 (show w.heap.size ≠ w.heap.size + 1 + 1 by omega) (show w.heap.size + 1 ≠ w.heap.size + 1 + 1 by omega)
  have hf0 := swap_free (b := w.heap.size) (.bool bz) (.slice ay ny cy) (.bool bx) (.slice ax nx cx) f0
  have hf1 := swap_free (b := w.heap.size) (.bool bz) (.slice ay ny cy) (.bool bx) (.slice ax nx cx) f1
  have hsz := swap_size (w := w1) (b := w.heap.size) (.bool bz) (.slice ay ny cy) (.bool bx) (.slice ax nx cx)
  have HSW := hid hsw
  have HQ := hid hq
  have HR := hid (And.intro hr0 hr1)
  have HF := hid (And.intro hf0 hf1)
  have HZS := hid hsz
  clear hsw hq r0 r1 f0 f1 hr0 hr1 hf0 hf1 hsz p0 p1 p2 p3 g0 g1 g2 g3
  obtain ⟨W0, hW0⟩ : ∃ W, W = swapW w1 w.heap.size (.bool bz) (.slice ay ny cy) (.bool bx) (.slice ax nx cx) := ⟨_, rfl⟩
  rw [← hW0] at HSW HQ HR HF HZS
  refine (Calls.mono (by have := HC2.out W0 HSW.out; rw [hW0] at this; exact this) ?_)
  rintro e w2 ⟨v2, rfl, hd, hx2⟩
  rw [← hW0] at hd hx2
  have q0 := hx2.cell HQ.out.1
  have q1 := hx2.cell HQ.out.2.1
  have r0 := hx2.cell HR.out.1
  have r1 := hx2.cell HR.out.2
  have hszw : w.heap.size + 1 + 1 < W0.heap.size := by rw [HZS.out]; exact Nat.lt_of_lt_of_le HSZ.out HX1.out.size
  have f0 := hx2.free hszw HF.out.1
  have f1 := hx2.free hszw HF.out.2
  have HE := hid (And.intro r0 r1)
  have HX2 := hid hx2
  have HSZ2 := hid hszw
  have HD := hid hd
  obtain ⟨a1, n1, rfl⟩ := hd.form
  have hlen := rep10_pos n
  have hz := zv_mk (b := bz) HD.out
  clear hd hx2 hW0 hszw
  by_cases h0 : 0 < n
  · have hp : 0 < (rep 10 n).length := by simpa [h0] using hlen
    rw [show (bz && decide (0 < n)) = bz by simp [h0]] at hz
    have HZ := hid hz
    clear hlen hz
    cases bz
    all_goals
      go_wp2
      have hd := fun x y => two_set x y HE.out.1 HE.out.2
      refine bodyPost_ret (by simp [results, Try.results103, go_sem, (hd _ _).1, (hd _ _).2]; rfl) rfl ?_
      have hg := fun x y => ret_zed (w0 := w) (b := w.heap.size + 1 + 1) HZ.out HSW.out HX2.out (by omega) HSZ2.out x y
      exact ⟨_, rfl, (hg _ _).1, (hg _ _).2⟩
  · obtain rfl : n = 0 := by omega
    rw [show (bz && decide (0 < 0)) = false by simp] at hz
    have HZ := hid hz
    have hp : (rep 10 0).length = 0 := rfl
    clear hlen hz
    cases bz
    all_goals
      go_wp2
      have hd := fun x y => two_set x y HE.out.1 HE.out.2
      refine bodyPost_ret (by simp [results, Try.results103, go_sem, (hd _ _).1, (hd _ _).2]; rfl) rfl ?_
      have hg := fun x y => ret_zed (w0 := w) (b := w.heap.size + 1 + 1) HZ.out HSW.out HX2.out (by omega) HSZ2.out x y
      exact ⟨_, rfl, (hg _ _).1, (hg _ _).2⟩

theorem zed_add {S : Nat → Prop} (vx vy : Value) (x y : Int) (w : World) (hx : ZV S w vx x) (hy : ZV S w vy y) (hS : ∀ k, S k → k < w.heap.size) (hrx : szZ x) (hry : szZ y) :
    Calls Try.prog 103 #[vx, vy] w fun e w' => ∃ v', e = .returned v' ∧ ZV (New w w') w' v' (x + y) ∧ Ext w w' := by
  by_cases hs : decide (x < 0) = decide (y < 0)
  · exact zed_add_same vx vy x y w hx hy hS hrx hry hs
  · by_cases hge : y.natAbs ≤ x.natAbs
    · exact zed_add_ge vx vy x y w hx hy hS hrx hry hs hge
    · exact zed_add_lt vx vy x y w hx hy hS hrx hry hs (by omega)
end Go.Proofs.Ythplgldclilccaa

namespace Go.Proofs.Ythplgldclilccaa
open Go.RowKit

/-- the limbs of each term are few -/
def tinyT (ts : List RTerm) : Prop := ∀ t ∈ ts, t.c.mag.length ≤ 100000
theorem tinyT.small {ts : List RTerm} (h : tinyT ts) : smallT ts := fun t ht => Nat.le_trans (h t ht) (by decide)

theorem mag_nil {x : RInt} (hok : okI x) (h : mayI x = true) : x.mag.length = 0 ↔ val B32 x.mag = 0 := by
  have e := ofI_valI hok h
  have e2 : (valI x).natAbs = val B32 x.mag := by rw [valI_sg, sg_abs]
  have e3 : x.mag = rep B32 (val B32 x.mag) := by
    rw [← e2]
    exact (congrArg RInt.mag e).symm
  constructor
  · intro h0
    rw [List.length_eq_zero_iff.1 h0]
    rfl
  · intro h0
    rw [h0, rep_zero] at e3
    rw [e3]
    rfl
theorem mayTerm_nil {t : RTerm} (_hok : okI t.c) (h : t.c.mag.length = 0) : mayTerm t = false := by
  have : t.c.mag = [] := List.length_eq_zero_iff.1 h
  unfold mayTerm
  rw [this]
  rfl
theorem mayTerm_ok {t : RTerm} (hok : okI t.c) (h1 : t.c.mag.length ≠ 0) (h2 : mayI t.c = true) (h3 : mayM t.m = true) : mayTerm t = true := by
  have h0 : val B32 t.c.mag ≠ 0 := fun e => h1 ((mag_nil hok h2).2 e)
  unfold mayTerm
  rw [h2, h3, decide_eq_true h0]
  rfl
theorem order_rcmp {a b : Mono} (ha : mayM a = true) (hb : mayM b = true) : decide (0 < orderM a b) = (rcmp a b == 1) := by
  rw [rcmp_eq ha hb]
  unfold orderM
  rw [ha, hb]
  simp only [Bool.and_self, if_true]
  rcases compareM_cases ha hb with h | h | h <;> rw [h] <;> rfl
theorem may_before {ts : List RTerm} {k : Nat} {u : RTerm} (hu : ts[k]? = some u) : befT ts (k + 1) = some u := hu

/-- the terms so far may be -/
def soFar (ts : List RTerm) (k : Nat) : Prop := mayT ts = mayFrom (befT ts k) (ts.drop k) ∧ ∀ u, befT ts k = some u → mayM u.m = true
theorem soFar_zero (ts : List RTerm) : soFar ts 0 := ⟨rfl, fun u hu => by cases hu⟩
theorem soFar_not {ts : List RTerm} {k : Nat} {t : RTerm} (h : soFar ts k) (ht : ts[k]? = some t) (hm : mayTerm t = false) : mayT ts = false := by
  rw [h.1, mayFrom_at ht, hm]
  rfl
theorem soFar_first {ts : List RTerm} {t : RTerm} (h : soFar ts 0) (ht : ts[0]? = some t) (hm : mayTerm t = true) (h3 : mayM t.m = true) : soFar ts 1 := by
  refine ⟨?_, fun u hu => ?_⟩
  · rw [h.1, mayFrom_at ht, hm]
    rfl
  · have : some t = some u := ht.symm.trans hu
    cases this
    exact h3
theorem soFar_next {ts : List RTerm} {k : Nat} {t u : RTerm} (h : soFar ts (k + 1)) (ht : ts[k + 1]? = some t) (hu : ts[k]? = some u) (hm : mayTerm t = true) (h3 : mayM t.m = true) (hc : rcmp u.m t.m = 1) : soFar ts (k + 1 + 1) := by
  have hum := h.2 u hu
  refine ⟨?_, fun v hv => ?_⟩
  · rw [h.1, mayFrom_at ht, hm, may_before hu]
    simp only
    rw [order_rcmp hum h3, hc]
    rfl
  · have : some t = some v := ht.symm.trans hv
    cases this
    exact h3
theorem soFar_stop {ts : List RTerm} {k : Nat} {t u : RTerm} (h : soFar ts (k + 1)) (ht : ts[k + 1]? = some t) (hu : ts[k]? = some u) (h3 : mayM t.m = true) (hc : ¬ rcmp u.m t.m = 1) : mayT ts = false := by
  have hum := h.2 u hu
  rw [h.1, mayFrom_at ht, may_before hu]
  simp only
  rw [order_rcmp hum h3, beq_eq_false_iff_ne.2 hc]
  simp

set_option maxRecDepth 100000 in
set_option maxHeartbeats 8000000 in
theorem rpoly_may {S : Nat → Prop} (v : Value) (ts : List RTerm) (w : World) (h : Terms S w v ts) (hS : ∀ k, S k → k < w.heap.size) (hr : tinyT ts) :
    Calls Try.prog 35 #[v] w fun e w' => e = .returned (.bool (mayT ts)) ∧ Ext w w' := by
  have hnot : ∀ (x : Bool) (w : World), (Op.unary .not (.bool x)).run Try.prog w = .ok (.bool (!x)) w := fun _ _ => rfl
  have hl := h.len_le
  have H := hid h
  have HRS := hid hr
  obtain ⟨a, cap, rfl⟩ := h.form
  clear h hr
  go_enter Try.func35, Try.ntmps35
  go_wp2
  go_loopw [3] (fun i wr => ∃ k : Nat, k ≤ ts.length ∧ i = .int .i64 k ∧ Ext w wr ∧ soFar ts k) (fun i _ => ts.length - (intOf i).toNat)
  case atStart => exact ⟨0, Nat.zero_le _, rfl, Ext.refl _, soFar_zero _⟩
  case round =>
    obtain ⟨k, hk, rfl, hx, hm⟩ := hrel
    have HM := hid hm
    have HX := hid hx
    by_cases hlt : k < ts.length
    · obtain ⟨t, ht⟩ := some_of_lt hlt
      obtain ⟨b, off, vm, vo, rfl, -, hn1, hm1, hSb, h1, h2, h3, h4, h5⟩ := H.out.cellAt ht
      have hsm := HRS.out t (List.mem_of_getElem? ht)
      have HT := hid ht
      have HOK : Hid (okI t.c) := hid h4.lt
      obtain ⟨⟨ng, zs⟩, m⟩ := t
      simp only at h1 h2 h3 h4 h5 hsm
      have H4 := hid h4
      have H5 := hid h5
      obtain ⟨am, cm, rfl⟩ := h4.form
      obtain ⟨ao, co, rfl⟩ := h5.form
      have hzl := h4.len_le
      have g1 := Ext.cell hx h1
      have g2 := Ext.cell hx h2
      have g3 := Ext.cell hx h3
      have CZ := zed_may (S := S) _ ⟨ng, zs⟩ wr (intV_mk (H4.out.ext HX.out hS)) (lt_ext hS HX.out) hsm
      clear hm ht h1 h2 h3 h4 h5 hx hsm
      cases hi : mayI ⟨ng, zs⟩ with
      | false =>
        rw [hi] at CZ
        have HCZ := hid CZ
        have HF := hid (soFar_not HM.out HT.out (mayTerm_int hi))
        clear CZ hi
        go_wp2_with fail
        refine HCZ.out.mono ?_
        rintro e w1 ⟨rfl, hx1⟩
        have HX1 := hid (HX.out.trans hx1)
        clear hx1
        go_wp2
        all_goals
          go_ret
          exact ⟨by rw [HF.out]; rfl, HX1.out⟩
      | true =>
        rw [hi] at CZ
        have HCZ := hid CZ
        have HI := hid hi
        clear CZ hi
        by_cases hz : zs.length = 0
        · have HF := hid (soFar_not HM.out HT.out (mayTerm_nil HOK.out hz))
          have HCZ0 := HCZ.out
          simp only [hz] at g2 HCZ0
          have HCZ1 := hid HCZ0
          clear HCZ0
          go_wp2_with fail
          refine HCZ1.out.mono ?_
          rintro e w1 ⟨rfl, hx1⟩
          have HX1 := hid (HX.out.trans hx1)
          have k1 := hx1.cell g1
          have k2 := hx1.cell g2
          have k3 := hx1.cell g3
          clear hx1 g1 g2 g3
          go_wp2
          all_goals
            go_ret
            exact ⟨by rw [HF.out]; rfl, HX1.out⟩
        · have hzb : ((zs.length : Int) == 0) = false := by rw [beq_eq_false_iff_ne]; omega
          go_wp2_with fail
          refine HCZ.out.mono ?_
          rintro e w1 ⟨rfl, hx1⟩
          have HX1 := hid (HX.out.trans hx1)
          have k1 := hx1.cell g1
          have k2 := hx1.cell g2
          have k3 := hx1.cell g3
          have CQ := rmono_may (S := S) _ m w1 (H5.out.ext HX1.out hS) (lt_ext hS HX1.out)
          clear hx1 g1 g2 g3
          cases hq : mayM m with
          | false =>
            rw [hq] at CQ
            have HCQ := hid CQ
            have HF := hid (soFar_not HM.out HT.out (mayTerm_mono hq))
            clear CQ hq
            go_wp2_with fail
            refine HCQ.out.mono ?_
            rintro e w2 ⟨rfl, hx2⟩
            have HX2 := hid (HX1.out.trans hx2)
            clear hx2
            go_wp2
            all_goals
              go_ret
              exact ⟨by rw [HF.out]; rfl, HX2.out⟩
          | true =>
            rw [hq] at CQ
            have HCQ := hid CQ
            have HQ := hid hq
            have HMT : Hid (mayTerm ⟨⟨ng, zs⟩, m⟩ = true) := hid (mayTerm_ok HOK.out hz HI.out hq)
            clear CQ hq
            go_wp2_with fail
            refine HCQ.out.mono ?_
            rintro e w2 ⟨rfl, hx2⟩
            have HX2 := hid (HX1.out.trans hx2)
            have L3 := fun X : Later w2 => X.cell (hx2.cell k3)
            clear hx2 k1 k2 k3
            cases k with
            | zero =>
              have HF := hid (soFar_first HM.out HT.out HMT.out HQ.out)
              go_wp2
              refine wp_region_later (by kernel_rfl) (by kernel_rfl) ?_
              repeat (go_big_quiet_step (fail))
              refine wpQuiet_nil ?_
              intro W hW
              have HW := hid (HX2.out.trans hW)
              clear hW
              go_wp2
              go_roundw
              case rel => exact ⟨_, by omega, by go_num, HW.out, HF.out⟩
              case measure => simp only [intOf]; omega
            | succ k =>
              obtain ⟨u, hu⟩ := some_of_lt (show k < ts.length by omega)
              obtain ⟨b', off', vmu, vou, hbb, -, -, -, -, u1, u2, u3, u4, u5⟩ := H.out.cellAt hu
              obtain ⟨rfl, rfl⟩ : b = b' ∧ off = off' := by simpa using hbb
              have HP5 := hid u5
              have HU := hid hu
              obtain ⟨ap, cp, rfl⟩ := u5.form
              have L4 := fun X : Later w2 => X.cell (HX2.out.cell u3)
              have hq0 : ((k : Nat) : Int) + 1 - 1 = (k : Int) := by omega
              clear u1 u2 u3 u4 u5 hu hbb
              obtain ⟨rc, hrc⟩ : ∃ s, rcmp u.m m = s := ⟨_, rfl⟩
              have CO := fun (W : World) (h1 : Pows S W (.slice ap u.m.length cp) u.m) (h2 : Pows S W (.slice ao m.length co) m) hs => rmono_compare (S := S) _ _ _ _ W h1 h2 hs
              simp only [hrc] at CO
              have HCO := hid CO
              clear CO
              by_cases hc1 : rc = 1
              · subst hc1
                have HF := hid (soFar_next HM.out HT.out HU.out HMT.out HQ.out hrc)
                clear hrc
                go_wp2
                refine wp_region_later (by kernel_rfl) (by kernel_rfl) ?_
                repeat (go_big_quiet_step (first | (go_at_call 73; exact Later.done (HCO.out _ (HP5.out.ext (HX2.out.trans (Later.h _)) hS) (H5.out.ext (HX2.out.trans (Later.h _)) hS) (lt_ext hS (HX2.out.trans (Later.h _)))))))
                refine wpQuiet_nil ?_
                intro W hW
                have HW := hid (HX2.out.trans hW)
                clear hW
                go_wp2
                go_roundw
                case rel => exact ⟨_, by omega, by go_num, HW.out, HF.out⟩
                case measure => simp only [intOf]; omega
              · have hbn : (rc != 1) = true := by rw [bne_iff_ne]; exact hc1
                have HF := hid (soFar_stop HM.out HT.out HU.out HQ.out (by rw [hrc]; exact hc1))
                clear hrc
                go_wp2
                refine wp_region_later (by kernel_rfl) (by kernel_rfl) ?_
                repeat (go_big_quiet_step (first | (go_at_call 73; exact Later.done (HCO.out _ (HP5.out.ext (HX2.out.trans (Later.h _)) hS) (H5.out.ext (HX2.out.trans (Later.h _)) hS) (lt_ext hS (HX2.out.trans (Later.h _)))))))
                refine wpQuiet_nil ?_
                intro W hW
                have HW := hid (HX2.out.trans hW)
                clear hW
                go_wp2
                all_goals
                  go_ret
                  exact ⟨by rw [HF.out]; rfl, HW.out⟩
    · obtain rfl : k = ts.length := by omega
      have HF : Hid (mayT ts = true) := hid (by rw [hm.1, List.drop_length]; rfl)
      clear hx hm
      go_wp2
      all_goals
        go_ret
        exact ⟨by rw [HF.out]; rfl, HX.out⟩
end Go.Proofs.Ythplgldclilccaa

namespace Go.Proofs.Ythplgldclilccaa
open Go.RowKit

def RTs (S : Nat → Prop) (w : World) (v : Value) (p : PZ) : Prop :=
  ∃ b off, SliceAt S v p.length b off ∧ ∀ j t, p[j]? = some t → ∃ vd vo, w.cell? ⟨b, off + j * 3, none⟩ = some (.bool (decide (t.1 < 0))) ∧
    w.cell? ⟨b, off + j * 3 + 1, none⟩ = some vd ∧ w.cell? ⟨b, off + j * 3 + 2, none⟩ = some vo ∧ Digs S w vd (rep 10 t.1.natAbs) ∧ Pows S w vo t.2
section
variable {S S' : Nat → Prop} {w w' : World} {v : Value} {p : PZ}
theorem RTs.form (h : RTs S w v p) : ∃ a cap, v = .slice a p.length cap := by
  obtain ⟨b, off, ⟨a, cap, h1, _⟩, _⟩ := h
  exact ⟨a, cap, h1⟩
theorem RTs.to (h : RTs S w v p) (hk : Kept S w w') (hS : ∀ k, S k → S' k) : RTs S' w' v p := by
  obtain ⟨b, off, hs, hc⟩ := h
  refine ⟨b, off, hs.mono hS, fun j t hj => ?_⟩
  obtain ⟨vm, vo, h1, h2, h3, h4, h5⟩ := hc j t hj
  have hb := hs.in (lt_of_some hj)
  exact ⟨vm, vo, hk.cell hb h1, hk.cell hb h2, hk.cell hb h3, h4.to hk hS, h5.to hk hS⟩
theorem RTs.ext (h : RTs S w v p) (hx : Ext w w') (hS : ∀ k, S k → k < w.heap.size) : RTs S w' v p := h.to (Kept.ext hx hS) (fun _ h => h)
theorem RTs.len_le (h : RTs S w v p) : p.length ≤ 9223372036854775807 := by
  obtain ⟨b, off, ⟨a, cap, h1, h2, h3, _⟩, _⟩ := h
  unfold maxLen at h3
  omega
theorem RTs.cellAt {a : Option Addr} {n cap k : Nat} {t : Int × Mono} (h : RTs S w (.slice a n cap) p) (ht : p[k]? = some t) :
    ∃ b off vd vo, a = some ⟨b, off, none⟩ ∧ n = p.length ∧ n ≤ cap ∧ cap ≤ 9223372036854775807 ∧ S b ∧ w.cell? ⟨b, off + k * 3, none⟩ = some (.bool (decide (t.1 < 0))) ∧ w.cell? ⟨b, off + k * 3 + 1, none⟩ = some vd ∧ w.cell? ⟨b, off + k * 3 + 2, none⟩ = some vo ∧ Digs S w vd (rep 10 t.1.natAbs) ∧ Pows S w vo t.2 := by
  obtain ⟨b, off, ⟨a', cap', h1, h2, h3, h4, h5⟩, hc⟩ := h
  obtain ⟨rfl, rfl, rfl⟩ : a = a' ∧ n = p.length ∧ cap = cap' := by simpa using h1
  have hp : 0 < p.length := by have := lt_of_some ht; omega
  obtain ⟨vm, vo, g1, g2, g3, g4, g5⟩ := hc k t ht
  exact ⟨b, off, vm, vo, h4 hp, rfl, h2, h3, h5 hp, g1, g2, g3, g4, g5⟩
theorem RTs.nilv (S : Nat → Prop) (w : World) (a : Option Addr) (cap : Nat) (h : cap ≤ 9223372036854775807) : RTs S w (.slice a 0 cap) [] :=
  ⟨0, 0, ⟨a, cap, rfl, Nat.zero_le _, h, fun h => absurd h (Nat.lt_irrefl 0), fun h => absurd h (Nat.lt_irrefl 0)⟩, fun j t hj => by simp at hj⟩
end

/-- the cells of the terms of a slice -/
def Cells3 (S : Nat → Prop) (w : World) : List Value → PZ → Prop
  | xs, [] => xs = []
  | xs, t :: r => ∃ vd vo ys, xs = .bool (decide (t.1 < 0)) :: vd :: vo :: ys ∧ Digs S w vd (rep 10 t.1.natAbs) ∧ Pows S w vo t.2 ∧ Cells3 S w ys r
section
variable {S S' : Nat → Prop} {w w' : World}
theorem Cells3.append {xs ys : List Value} {p q : PZ} (h : Cells3 S w xs p) (k : Cells3 S w ys q) : Cells3 S w (xs ++ ys) (p ++ q) := by
  induction p generalizing xs with
  | nil =>
    have e : xs = [] := h
    subst e
    exact k
  | cons t r ih =>
    obtain ⟨vd, vo, zs, rfl, h1, h2, h3⟩ := h
    exact ⟨vd, vo, zs ++ ys, rfl, h1, h2, ih h3⟩
theorem Cells3.to {xs : List Value} {p : PZ} (h : Cells3 S w xs p) (hk : Kept S w w') (hS : ∀ k, S k → S' k) : Cells3 S' w' xs p := by
  induction p generalizing xs with
  | nil => exact h
  | cons t r ih =>
    obtain ⟨vd, vo, zs, rfl, h1, h2, h3⟩ := h
    exact ⟨vd, vo, zs, rfl, h1.to hk hS, h2.to hk hS, ih h3⟩
theorem Cells3.length {xs : List Value} {p : PZ} (h : Cells3 S w xs p) : xs.length = p.length * 3 := by
  induction p generalizing xs with
  | nil =>
    have e : xs = [] := h
    subst e
    rfl
  | cons t r ih =>
    obtain ⟨vd, vo, zs, rfl, h1, h2, h3⟩ := h
    simp only [List.length_cons, ih h3]
    omega
theorem Cells3.get {xs : List Value} {p : PZ} (h : Cells3 S w xs p) {j : Nat} {t : Int × Mono} (ht : p[j]? = some t) :
    ∃ vd vo, xs[j * 3]? = some (.bool (decide (t.1 < 0))) ∧ xs[j * 3 + 1]? = some vd ∧ xs[j * 3 + 2]? = some vo ∧ Digs S w vd (rep 10 t.1.natAbs) ∧ Pows S w vo t.2 := by
  induction p generalizing xs j with
  | nil => simp at ht
  | cons u r ih =>
    obtain ⟨vd, vo, zs, rfl, h1, h2, h3⟩ := h
    cases j with
    | zero =>
      obtain rfl : u = t := by simpa using ht
      exact ⟨vd, vo, rfl, rfl, rfl, h1, h2⟩
    | succ j =>
      obtain ⟨vd', vo', g⟩ := ih h3 (j := j) (by simpa using ht)
      refine ⟨vd', vo', ?_⟩
      rw [show (j + 1) * 3 = j * 3 + 1 + 1 + 1 by omega]
      simpa using g
theorem Cells3.one {xs : List Value} {p : PZ} (h : Cells3 S w xs p) : ∀ u ∈ xs, u.oneCell' = true := by
  induction p generalizing xs with
  | nil =>
    have e : xs = [] := h
    subst e
    intro u hu
    simp at hu
  | cons t r ih =>
    obtain ⟨vd, vo, zs, rfl, h1, h2, h3⟩ := h
    intro u hu
    simp only [List.mem_cons] at hu
    rcases hu with rfl | rfl | rfl | hu
    · rfl
    · obtain ⟨a, c, rfl⟩ := h1.form; rfl
    · obtain ⟨a, c, rfl⟩ := h2.form; rfl
    · exact ih h3 u hu
theorem Cells3.single {vd vo : Value} {t : Int × Mono} (h1 : Digs S w vd (rep 10 t.1.natAbs)) (h2 : Pows S w vo t.2) : Cells3 S w [.bool (decide (t.1 < 0)), vd, vo] [t] := ⟨vd, vo, [], rfl, h1, h2, rfl⟩
end

theorem own_rts {S : Nat → Prop} {w : World} {base : Nat} {e : TypeId} {v : Value} {xs : List Value} {p : PZ} (h : w.ownsRow base e 3 v p.length xs) (hc : Cells3 S w xs p) (hB : ∀ k, base ≤ k → k < w.heap.size → S k) : RTs S w v p := by
  have hlt := h.lt
  rcases h.2 with ⟨rfl, h0⟩ | ⟨g, cap, cur, rfl, hg, hh, h1, h2, h3, h4⟩
  · obtain rfl : p = [] := List.length_eq_zero_iff.1 h0
    exact RTs.nilv _ _ _ _ (by omega)
  · refine ⟨g, 0, ⟨_, cap, rfl, h1, h2, fun _ => rfl, fun _ => hB g (hlt g rfl).1 (hlt g rfl).2⟩, fun j t hj => ?_⟩
    obtain ⟨vd, vo, g1, g2, g3, g4, g5⟩ := hc.get hj
    have hb := lt_of_some hj
    refine ⟨vd, vo, ?_, ?_, ?_, g4, g5⟩
    · rw [h.cellAt (0 + j * 3) (by omega), Nat.zero_add]
      exact g1
    · rw [h.cellAt (0 + j * 3 + 1) (by omega), Nat.zero_add]
      exact g2
    · rw [h.cellAt (0 + j * 3 + 2) (by omega), Nat.zero_add]
      exact g3

/-- what stands behind the first k terms, as a source -/
theorem cells_from {S : Nat → Prop} {w : World} {b : Nat} : ∀ (p : PZ) (off : Nat), (∀ j t, p[j]? = some t → ∃ vd vo, w.cell? ⟨b, off + j * 3, none⟩ = some (.bool (decide (t.1 < 0))) ∧
    w.cell? ⟨b, off + j * 3 + 1, none⟩ = some vd ∧ w.cell? ⟨b, off + j * 3 + 2, none⟩ = some vo ∧ Digs S w vd (rep 10 t.1.natAbs) ∧ Pows S w vo t.2) →
    ∃ xs, Cells3 S w xs p ∧ ∀ j u, xs[j]? = some u → w.cell? ⟨b, off + j, none⟩ = some u
  | [], _, _ => ⟨[], rfl, fun j u hu => by simp at hu⟩
  | t :: r, off, h => by
    obtain ⟨vd, vo, h1, h2, h3, h4, h5⟩ := h 0 t rfl
    obtain ⟨ys, k1, k2⟩ := cells_from r (off + 3) (fun j u hu => by
      have := h (j + 1) u (by simpa using hu)
      rw [show off + (j + 1) * 3 = off + 3 + j * 3 by omega] at this
      exact this)
    refine ⟨_, ⟨vd, vo, ys, rfl, h4, h5, k1⟩, fun j u hu => ?_⟩
    match j, hu with
    | 0, hu =>
      have e : _ = u := Option.some.inj hu
      rw [← e]
      exact h1
    | 1, hu =>
      have e : _ = u := Option.some.inj hu
      rw [← e]
      exact h2
    | 2, hu =>
      have e : _ = u := Option.some.inj hu
      rw [← e]
      exact h3
    | j + 3, hu =>
      have := k2 j u (by simpa using hu)
      rw [show off + (j + 3) = off + 3 + j by omega]
      exact this
theorem RTs.src {S : Nat → Prop} {w : World} {b off n cap k : Nat} {p : PZ} (h : RTs S w (.slice (some ⟨b, off, none⟩) n cap) p) (hk : k ≤ p.length) :
    ∃ news, SrcAt w (some ⟨b, off + k * 3, none⟩) (p.length - k) 3 news ∧ Cells3 S w news (p.drop k) := by
  obtain ⟨b', off', ⟨a', cap', h1, h2, h3, h4, h5⟩, hc⟩ := h
  by_cases h0 : 0 < p.length
  · have e := h4 h0
    obtain ⟨e1, -, -⟩ : some (⟨b, off, none⟩ : Addr) = a' ∧ n = p.length ∧ cap = cap' := by simpa using h1
    rw [← e1] at e
    obtain ⟨rfl, rfl⟩ : b = b' ∧ off = off' := by simpa using e
    obtain ⟨xs, k1, k2⟩ := cells_from (S := S) (w := w) (b := b) (p.drop k) (off + k * 3) (fun j t hj => by
      rw [List.getElem?_drop] at hj
      have := hc (k + j) t hj
      rw [show off + (k + j) * 3 = off + k * 3 + j * 3 by omega] at this
      exact this)
    refine ⟨xs, ⟨?_, k1.one, fun _ => ⟨_, rfl, fun j u hu => ?_⟩⟩, k1⟩
    · rw [k1.length, List.length_drop]
    · rw [add_off]
      exact k2 j u hu
  · obtain rfl : p = [] := List.length_eq_zero_iff.1 (by omega)
    refine ⟨[], ⟨by simp, fun u hu => by simp at hu, fun hh => by simp at hh⟩, ?_⟩
    rw [List.drop_nil]
    rfl

/-- where a term goes -/
theorem putP_split {p : PZ} {c : Int} {m : Mono} : ∀ {k : Nat}, (∀ j t, j < k → p[j]? = some t → compareM t.2 m = 1) → putP p c m = p.take k ++ putP (p.drop k) c m
  | 0, _ => rfl
  | k + 1, h => by
    cases p with
    | nil => simp
    | cons t r =>
      have h0 := h 0 t (by omega) rfl
      have ih := putP_split (p := r) (c := c) (m := m) (k := k) (fun j u hj hu => h (j + 1) u (by omega) (by simpa using hu))
      simp only [putP, h0, if_true, List.take_succ_cons, List.drop_succ_cons, List.cons_append, ih]
/-- what stands in the place -/
def midP (c : Int) (m : Mono) : PZ := if c = 0 then [] else [(c, m)]
theorem put_end {p : PZ} {c : Int} {m : Mono} {k : Nat} (h : ∀ j t, j < k → p[j]? = some t → compareM t.2 m = 1) (hk : k = p.length) : putP p c m = p.take k ++ midP c m ++ p.drop k := by
  rw [putP_split h, hk, List.drop_length]
  simp [putP, midP]
theorem put_same {p : PZ} {c : Int} {m : Mono} {k : Nat} {t : Int × Mono} (h : ∀ j t, j < k → p[j]? = some t → compareM t.2 m = 1) (ht : p[k]? = some t) (hc : compareM t.2 m = 0) : putP p c m = p.take k ++ midP (c + t.1) m ++ p.drop (k + 1) := by
  rw [putP_split h, drop_at ht, List.append_assoc]
  simp only [putP, hc, midP, if_true]
  rw [if_neg (by decide)]
  split <;> rfl
theorem put_here {p : PZ} {c : Int} {m : Mono} {k : Nat} {t : Int × Mono} (h : ∀ j t, j < k → p[j]? = some t → compareM t.2 m = 1) (ht : p[k]? = some t) (h1 : compareM t.2 m ≠ 1) (h2 : compareM t.2 m ≠ 0) : putP p c m = p.take k ++ midP c m ++ p.drop k := by
  rw [putP_split h, drop_at ht, List.append_assoc]
  simp only [putP, midP]
  rw [if_neg h1, if_neg h2]
  split <;> rfl
theorem midP_zero {c : Int} (h : c = 0) (m : Mono) : midP c m = [] := by unfold midP; rw [if_pos h]
theorem midP_some {c : Int} (h : c ≠ 0) (m : Mono) : midP c m = [(c, m)] := by unfold midP; rw [if_neg h]

theorem Try.infoT : (Try.prog.info? 103).map (fun i => (i.zero, i.size, i.bytes)) = some (some (.agg #[.bool false, .slice none 0 0, .slice none 0 0]), 3, 56) := by kernel_rfl
theorem three_cell {u v x : Value} (h : u.oneCell' = true) (k : v.oneCell' = true) (l : x.oneCell' = true) : ∀ y ∈ (#[u, v, x] : Array Value).toList, y.oneCell' = true := by
  intro y hy
  simp at hy
  rcases hy with rfl | rfl | rfl <;> assumption
end Go.Proofs.Ythplgldclilccaa

namespace Go.Proofs.Ythplgldclilccaa
open Go.RowKit

abbrev Old (w : World) : Nat → Prop := fun k => k < w.heap.size
theorem old_lt {w W : World} (h : Ext w W) : ∀ k, Old w k → k < W.heap.size := fun _ hk => Nat.lt_of_lt_of_le hk h.size
theorem RTs.on {w W : World} {v : Value} {p : PZ} (h : RTs (Old w) w v p) (hx : Ext w W) : RTs (Old W) W v p := h.to (Kept.ext hx (fun _ h => h)) (old_lt hx)
theorem ZV.on {w W : World} {v : Value} {z : Int} (h : ZV (Old w) w v z) (hx : Ext w W) : ZV (Old W) W v z := h.to (Kept.ext hx (fun _ h => h)) (old_lt hx)
theorem Digs.on {w W : World} {v : Value} {z : List Nat} (h : Digs (Old w) w v z) (hx : Ext w W) : Digs (Old W) W v z := h.to (Kept.ext hx (fun _ h => h)) (old_lt hx)
theorem Pows.on {w W : World} {v : Value} {z : Mono} (h : Pows (Old w) w v z) (hx : Ext w W) : Pows (Old W) W v z := h.to (Kept.ext hx (fun _ h => h)) (old_lt hx)
theorem Cells3.on {w W : World} {v : List Value} {z : PZ} (h : Cells3 (Old w) w v z) (hx : Ext w W) : Cells3 (Old W) W v z := h.to (Kept.ext hx (fun _ h => h)) (old_lt hx)
theorem digs_one {S : Nat → Prop} {w : World} {v : Value} {z : List Nat} (h : Digs S w v z) : v.oneCell' = true := by
  obtain ⟨a, c, rfl⟩ := h.form
  rfl
theorem pows_one {S : Nat → Prop} {w : World} {v : Value} {z : Mono} (h : Pows S w v z) : v.oneCell' = true := by
  obtain ⟨a, c, rfl⟩ := h.form
  rfl

/-- sizes of a polynomial of the document -/
def szP (p : PZ) : Prop := p.length ≤ 100000000 ∧ ∀ t ∈ p, szZ t.1

/-- a slice from an index on -/
theorem wpList_slice_from {P : Program} (w : World) {ops : Array Oper} {rest : List Oper} {o : Oper} {a : Act} {Q : Exit → Act → World → Prop} (hgd : o.guard = none) (x y : Operand) (t e : TypeId)
    (ho : o.op = .slice t x (some y) none none) (ht : P.underlying t = some (.slice e)) {z : Option Value} {size bytes : Nat} (hinfo : (P.info? e).map (fun i => (i.zero, i.size, i.bytes)) = some (z, size, bytes))
    (A : Option Addr) (n cap k : Nat) (hx : a.eval x = .slice A n cap) (hy : a.eval y = .int .i64 (k : Nat)) (hk : k ≤ n)
    (h : ∀ A', A' = (if cap = k then A else A.map (·.add (k * size))) → wpList P ops Q rest (a.put o.dst (.slice A' (n - k) (cap - k))) w) : wpList P ops Q (o :: rest) a w := by
  refine wpList_plain hgd fun K hK => ?_
  have he : P.elem t = e := by simp [Program.elem, ht]
  have ht' : P.underlying t = some (.slice (P.elem t)) := by rw [he]; exact ht
  have hi : ∃ i, P.info? e = some i ∧ i.size = size := by
    cases hh : P.info? e with
    | none => rw [hh] at hinfo; simp at hinfo
    | some i =>
      rw [hh] at hinfo
      simp at hinfo
      exact ⟨i, rfl, hinfo.2.1⟩
  obtain ⟨i, hi1, hi2⟩ := hi
  unfold Oper.wp execOp
  simp only [ho, Option.map, hx, hy]
  rw [Sem.run_bind, run_sliceAt_slice _ _ _ _ _ _ ht', run_slice_l _ _ _ _ _ ht' _ _ (by omega) (by omega)]
  simp only [he, sizeOf, typeInfo, Sem.run_bind, sliced, Int.toNat_natCast]
  have := hK _ _ (h _ rfl)
  simpa [go_sem, hi1, hi2] using this
/-- what is appended from it -/
theorem src_sliced {S : Nat → Prop} {w : World} {A A' : Option Addr} {n cap k : Nat} {p : PZ} (h : RTs S w (.slice A n cap) p) (hk : k ≤ p.length) (e : A' = (if cap = k then A else A.map (·.add (k * 3)))) :
    ∃ news, SrcAt w A' (p.length - k) 3 news ∧ Cells3 S w news (p.drop k) := by
  have h' := h
  obtain ⟨b, off, ⟨a', cap', h1, h2, h3, h4, h5⟩, hc⟩ := h
  obtain ⟨rfl, rfl, rfl⟩ : A = a' ∧ n = p.length ∧ cap = cap' := by simpa using h1
  by_cases hlt : k < p.length
  · have ha := h4 (by omega)
    subst ha
    rw [if_neg (by omega)] at e
    have e2 : A' = some ⟨b, off + k * 3, none⟩ := by rw [e, Option.map_some, add_off]
    rw [e2]
    exact h'.src hk
  · obtain rfl : k = p.length := by omega
    refine ⟨[], ⟨by simp, fun u hu => by simp at hu, fun hh => by omega⟩, ?_⟩
    rw [List.drop_length]
    rfl

theorem own_ext {w w' : World} {base : Nat} {e : TypeId} {size : Nat} {v : Value} {n : Nat} {xs : List Value} (h : w.ownsRow base e size v n xs) (hx : Ext w w') : w'.ownsRow base e size v n xs :=
  h.kept (row := none) ⟨hx.os, hx.tape, hx.output, hx.size, fun k hk _ => hx.block k hk⟩ (by
    cases hv : v.ownBlock with
    | none => exact .inl rfl
    | some k => exact .inr (by simp))
theorem sign_zero : signI 0 = 0 := rfl
theorem sign_ne {c : Int} (h : c ≠ 0) : (signI c != 0) = true := by
  rw [bne_iff_ne]
  unfold signI
  rw [Ne, cmpI_zero]
  exact h
/-- what was given, and what is new -/
abbrev Plus (S : Nat → Prop) (w w1 : World) : Nat → Prop := fun k => S k ∨ New w w1 k
theorem plus_lt {S : Nat → Prop} {w w1 : World} (hS : ∀ k, S k → k < w.heap.size) (hx : Ext w w1) : ∀ k, Plus S w w1 k → k < w1.heap.size := fun k hk => by
  rcases hk with h | h
  · exact Nat.lt_of_lt_of_le (hS k h) hx.size
  · exact h.2
theorem plus_grow {S : Nat → Prop} {w w1 w2 : World} (hx : w1.heap.size ≤ w2.heap.size) : ∀ k, Plus S w w1 k → Plus S w w2 k := fun k hk => by
  rcases hk with h | h
  · exact .inl h
  · exact .inr ⟨h.1, Nat.lt_of_lt_of_le h.2 hx⟩
/-- of those, the ones that are not the block of a slice -/
abbrev Off (S : Nat → Prop) (w w1 : World) (o : Value) : Nat → Prop := fun k => Plus S w w1 k ∧ some k ≠ o.ownBlock
theorem off_ext {S : Nat → Prop} {w w0 w1 : World} {o v : Value} {z : List Nat} (hS : ∀ k, S k → k < w.heap.size) (h0 : Ext w w0) (h : Digs (Off S w w0 o) w0 v z) (hx : Ext w0 w1) : Digs (Off S w w1 o) w1 v z :=
  h.to (Kept.ext hx (fun k h => plus_lt hS h0 k h.1)) (fun k h => ⟨plus_grow hx.size k h.1, h.2⟩)
theorem own_ne {w w1 : World} {o : Value} {e : TypeId} {size n : Nat} {xs : List Value} (ho : w1.ownsRow (w.heap.size + 1) e size o n xs) {k : Nat} (hk : k < w.heap.size) : some k ≠ o.ownBlock := fun e => by
  have := (ho.lt k e.symm).1
  omega
theorem off_old {S : Nat → Prop} {w w1 : World} {o v : Value} {z : List Nat} {e : TypeId} {size n : Nat} {xs : List Value} (hS : ∀ k, S k → k < w.heap.size) (h : Digs S w v z) (hx : Ext w w1) (ho : w1.ownsRow (w.heap.size + 1) e size o n xs) : Digs (Off S w w1 o) w1 v z :=
  h.to (Kept.ext hx hS) (fun k hk => ⟨.inl hk, own_ne ho (hS k hk)⟩)
theorem own_grown {w w1 w2 : World} {o : Value} {e : TypeId} {size n : Nat} {xs : List Value} (hx : Ext w w1) (ho : w1.ownsRow (w.heap.size + 1) e size o n xs) (hg : w1.grownBy w2 o.ownBlock) : Ext w w2 :=
  ext_grown hx hg (fun k hk => by have := (ho.lt k hk).1; omega)
theorem own_far {S : Nat → Prop} {w w1 : World} {o : Value} {e : TypeId} {size n : Nat} {xs : List Value} (hS : ∀ k, S k → k < w.heap.size) (ho : w1.ownsRow (w.heap.size + 1) e size o n xs) (hx : Ext w w1) : ∀ k, S k → k < w1.heap.size ∧ some k ≠ o.ownBlock := fun k hk =>
  ⟨Nat.lt_of_lt_of_le (hS k hk) hx.size, own_ne ho (hS k hk)⟩
theorem off_still {S : Nat → Prop} {w w1 : World} {o v2 : Value} {k : Nat} (hS : ∀ k, S k → k < w.heap.size) (hx : Ext w w1) (h : Off S w w1 o k) (hb : v2.ownBlock = o.ownBlock ∨ v2.ownBlock = some (w1.heap.size + 1)) : some k ≠ v2.ownBlock := by
  rcases hb with e | e
  · rw [e]; exact h.2
  · rw [e]
    intro e2
    have := plus_lt hS hx k h.1
    have e3 : k = w1.heap.size + 1 := Option.some.inj e2
    omega
/-- the end of the walk: what stands ahead, in the place and behind -/
theorem set_grown (w : World) (a : Addr) (u : Value) : w.grownBy (w.setCell a u) (some a.block) :=
  ⟨rfl, rfl, rfl, Nat.le_of_eq (size_setCell w a u).symm, fun k _ hne => Below.heap_setCell _ _ _ _ (fun e => hne (by rw [e]))⟩
theorem own_set {w1 : World} {b i base : Nat} {o : Value} {e : TypeId} {size n : Nat} {xs : List Value} (ho : w1.ownsRow base e size o n xs) (hb : b < base) (u : Value) : (w1.setCell ⟨b, i, none⟩ u).ownsRow base e size o n xs :=
  ho.kept (set_grown w1 ⟨b, i, none⟩ u) (by
    cases hv : o.ownBlock with
    | none => exact .inl rfl
    | some k =>
      have := (ho.lt k hv).1
      exact .inr (fun e => by
        have e2 : k = b := Option.some.inj e
        omega))
theorem off_new {S : Nat → Prop} {w wb wc : World} {b i j : Nat} {o v x y : Value} {z : List Nat} {base : Nat} {e : TypeId} {size n : Nat} {xs : List Value} (h : Digs (New wb wc) wc v z) (ho : wb.ownsRow base e size o n xs) (hb : b < wb.heap.size) (hw : w.heap.size ≤ wb.heap.size) :
    Digs (Off S w ((wc.setCell ⟨b, i, none⟩ x).setCell ⟨b, j, none⟩ y) o) ((wc.setCell ⟨b, i, none⟩ x).setCell ⟨b, j, none⟩ y) v z := by
  have k1 : Kept (New wb wc) wc (wc.setCell ⟨b, i, none⟩ x) := Kept.setCell (a := ⟨b, i, none⟩) (fun hh => by have := hh.1; simp only at this; omega) x
  have k2 : Kept (New wb wc) (wc.setCell ⟨b, i, none⟩ x) ((wc.setCell ⟨b, i, none⟩ x).setCell ⟨b, j, none⟩ y) := Kept.setCell (a := ⟨b, j, none⟩) (fun hh => by have := hh.1; simp only at this; omega) y
  refine h.to (k1.trans k2) (fun k hk => ⟨.inr ⟨Nat.le_trans hw hk.1, ?_⟩, fun e => ?_⟩)
  · rw [size_setCell, size_setCell]
    exact hk.2
  · have := (ho.lt k e.symm).2
    have := hk.1
    omega
theorem put_done {S : Nat → Prop} {w w2 w3 : World} {k j n : Nat} {T : TypeId} {v3 : Value} {xs ms news : List Value} {p md q : PZ} (hS : ∀ k, S k → k < w.heap.size) (hx : Cells3 S w xs (p.take k)) (x3 : Ext w w3) (hm : Cells3 (Plus S w w3) w3 ms md) (hn : Cells3 S w2 news (p.drop j)) (hk : Kept S w2 w3)
    (ho : w3.ownsRow (w.heap.size + 1) T 3 v3 n (xs ++ ms ++ news)) (hq : q = p.take k ++ md ++ p.drop j) : RTs (Plus S w w3) w3 v3 q := by
  have hc : Cells3 (Plus S w w3) w3 (xs ++ ms ++ news) q := by
    rw [hq]
    exact ((hx.to (Kept.ext x3 hS) (fun _ h => .inl h)).append hm).append (hn.to hk (fun _ h => .inl h))
  have hl := hc.length
  have hn' : n = q.length := by
    have := ho.1
    omega
  subst hn'
  exact own_rts ho hc (fun k h1 h2 => .inr ⟨by omega, h2⟩)

set_option maxRecDepth 100000 in
set_option maxHeartbeats 8000000 in
theorem rpoly_put {S : Nat → Prop} (vp vc vm : Value) (p : PZ) (c : Int) (m : Mono) (w : World) (hS : ∀ k, S k → k < w.heap.size) (hp : RTs S w vp p) (hc : ZV S w vc c) (hm : Pows S w vm m) (hmay : mayAll p) (hmm : mayM m = true) (hs : szP p) (hsc : szZ c) :
    Calls Try.prog 70 #[vp, vc, vm] w fun e w' => ∃ v', e = .returned v' ∧ RTs (Plus S w w') w' v' (putP p c m) ∧ Ext w w' := by
  obtain ⟨i0, hi, hz0, hz1, hz2⟩ := info_parts Try.infoT
  have HP := hid hp
  have HM := hid hm
  have HC := hid hc
  have HMY := hid hmay
  have HMM := hid hmm
  have HS := hid hs
  have HSC := hid hsc
  obtain ⟨ap, cp, rfl⟩ := hp.form
  obtain ⟨ac, nc, cc, rfl⟩ := hc.form
  obtain ⟨am, cm, rfl⟩ := hm.form
  have hl := hp.len_le
  clear hp hc hm hmay hmm hs hsc
  obtain ⟨bc, hbc⟩ : ∃ b, b = decide (c < 0) := ⟨_, rfl⟩
  rw [← hbc] at HC ⊢
  have HK := hid (Ext.alloc (Ext.refl w) (.cells #[.bool bc, .slice ac nc cc] 100))
  have HCC := fun (W : World) (hW : Ext (w.alloc (.cells #[.bool bc, .slice ac nc cc] 100)) W) => new2 hW
  have HCC := hid HCC
  have HBZ := hid hbc
  have HDC : Hid (Digs S w (.slice ac nc cc) (rep 10 c.natAbs)) := by
    obtain ⟨vd, e1, e2⟩ := HC.out
    have e3 : Value.slice ac nc cc = vd := by simp at e1; exact e1.2
    rw [e3]
    exact hid e2
  clear hbc
  go_enter Try.func70, Try.ntmps70
  go_wp2
  go_loopw [7, 8] (fun o v wr => ∃ k xs, k ≤ p.length ∧ v = .int .i64 (k : Nat) ∧ Ext (w.alloc (.cells #[.bool bc, .slice ac nc cc] 100)) wr ∧ Hid (∀ j t, j < k → p[j]? = some t → compareM t.2 m = 1) ∧ Hid (wr.ownsRow (w.heap.size + 1) 103 3 o k xs) ∧ Hid (Cells3 S w xs (p.take k))) (fun _ v _ => p.length - (intOf v).toNat)
  case atStart => exact ⟨0, [], Nat.zero_le _, rfl, Ext.refl _, hid (fun j t hj => by omega), hid (World.ownsRow_nil _ _ _ _), hid rfl⟩
  case round =>
    obtain ⟨k, xs, hk, rfl, hx, HPR, HW, HXS⟩ := hrel
    have HX := hid hx
    by_cases hlt : k < p.length
    · obtain ⟨t, ht⟩ := some_of_lt hlt
      obtain ⟨b, off, vd, vo, rfl, -, hn1, hm1, hSb, h1, h2, h3, h4, h5⟩ := HP.out.cellAt ht
      have HT := hid ht
      have H4 := hid h4
      have H5 := hid h5
      obtain ⟨ad, cd, rfl⟩ := h4.form
      obtain ⟨ao, co, rfl⟩ := h5.form
      have HXW0 := hid (HK.out.trans hx)
      have g1 := HXW0.out.cell h1
      have g2 := HXW0.out.cell h2
      have g3 := HXW0.out.cell h3
      have HTM := hid (HMY.out t (List.mem_of_getElem? ht))
      have HSZT := hid (HS.out.2 t (List.mem_of_getElem? ht))
      have CO := fun (W : World) (hW : Ext w W) => rmono_compare (S := S) _ _ t.2 m W (H5.out.ext hW hS) (HM.out.ext hW hS) (lt_ext hS hW)
      rw [rcmp_eq HTM.out HMM.out] at CO
      obtain ⟨rc, hrc⟩ : ∃ r, compareM t.2 m = r := ⟨_, rfl⟩
      rw [hrc] at CO
      have hcs : rc = 1 ∨ rc = 0 ∨ rc = -1 := by rw [← hrc]; rcases compareM_cases HTM.out HMM.out with h | h | h <;> omega
      have HCO := hid CO
      have HRC := hid hrc
      obtain ⟨bt, hbt⟩ : ∃ b, b = decide (t.1 < 0) := ⟨_, rfl⟩
      obtain ⟨nt, hnt⟩ : ∃ n, n = (rep 10 t.1.natAbs).length := ⟨_, rfl⟩
      rw [← hbt] at g1
      rw [← hnt] at g2 H4
      have HBT := hid hbt
      have HTK : Hid (p.take (k + 1) = p.take k ++ [t]) := hid (by rw [List.take_add_one, ht]; rfl)
      have HSZ0 : Hid (w.heap.size + 1 ≤ wr.heap.size) := hid (by have := hx.size; rw [size_alloc] at this; exact this)
      clear CO hrc hx ht h1 h2 h3 h4 h5 hbt hnt
      rcases hcs with rfl | rfl | rfl
      · go_wp2_with fail
        refine (HCO.out wr HXW0.out).mono ?_
        rintro e w1 ⟨rfl, hx1⟩
        have HX1 := hid (HX.out.trans hx1)
        have HW1 := hid (own_ext HW.out hx1)
        have HSZ1 : Hid (w.heap.size + 1 ≤ w1.heap.size) := hid (Nat.le_trans HSZ0.out hx1.size)
        have k1 := hx1.cell g1
        have k2 := hx1.cell g2
        have k3 := hx1.cell g3
        clear hx1 g1 g2 g3
        go_wp2_with (at_builtin; refine wpList_append_new _ rfl (.tmp 23) (.tmp 28) 33 rfl (w.heap.size + 1) 103 (.agg #[.bool false, .slice none 0 0, .slice none 0 0]) 3 56 Try.underlying33 Try.infoT rfl (by decide) _ k xs rfl HW1.out #[.bool bt, .slice ad nt cd, .slice ao t.2.length co] rfl (three_cell rfl rfl rfl) rfl (by have := HS.out.1; omega) (by decide) HSZ1.out ?_; intro v2 w2 hown hg _; have HW2 := hid hown; have HX2 := hid (ext_grown HX1.out hg (fun j hj => by have := (HW1.out.lt j hj).1; rw [size_alloc]; exact this)); clear hown hg)
        go_roundw
        case rel =>
          refine ⟨k + 1, xs ++ (#[.bool bt, .slice ad nt cd, .slice ao t.2.length co] : Array Value).toList, by omega, by go_num, HX2.out, hid (fun j u hj hu => ?_), HW2, hid ?_⟩
          · by_cases e : j = k
            · subst e
              have := HT.out.symm.trans hu
              cases this
              exact HRC.out
            · exact HPR.out j u (by omega) hu
          · rw [HTK.out]
            refine HXS.out.append ?_
            rw [HBT.out]
            exact Cells3.single H4.out H5.out
        case measure => simp only [intOf]; omega
      · go_wp2_with fail
        refine (HCO.out wr HXW0.out).mono ?_
        rintro e wa ⟨rfl, hxa⟩
        have HXA := hid (HX.out.trans hxa)
        have k1 := hxa.cell g1
        have k2 := hxa.cell g2
        have k3 := hxa.cell g3
        have HWA := hid (own_ext HW.out hxa)
        clear hxa g1 g2 g3
        go_wp2_with fail
        refine (HCO.out wa (HK.out.trans HXA.out)).mono ?_
        rintro e wb ⟨rfl, hxb⟩
        have HXB := hid (HXA.out.trans hxb)
        have l1 := hxb.cell k1
        have l2 := hxb.cell k2
        have l3 := hxb.cell k3
        have HWB := hid (own_ext HWA.out hxb)
        obtain ⟨c0, c1, f0, f1⟩ := HCC.out wb HXB.out
        have HKB := hid (HK.out.trans HXB.out.drew)
        have CA := zed_add (S := S) _ _ c t.1 wb.drew (HC.out.ext HKB.out hS) (show ZV S wb.drew (.agg #[.bool (decide (t.1 < 0)), .slice ad nt cd]) t.1 from ⟨_, rfl, H4.out.ext HKB.out hS⟩) (lt_ext hS HKB.out) HSC.out HSZT.out
        rw [← HBT.out] at CA
        have HCA := hid CA
        clear hxb k1 k2 k3 CA
        go_wp2
        go_still_tail 6, (by kernel_rfl)
        change wpList _ _ _ _ _ wb.drew
        go_wp2_with fail
        refine HCA.out.mono ?_
        rintro e wc ⟨vs, rfl, hzv, hxc⟩
        obtain ⟨vd2, rfl, hd2⟩ := hzv
        have HD2 := hid hd2
        obtain ⟨aq, cs, rfl⟩ := hd2.form
        obtain ⟨ns, hns⟩ : ∃ n, n = (rep 10 (c + t.1).natAbs).length := ⟨_, rfl⟩
        obtain ⟨bs, hbs⟩ : ∃ b, b = decide (c + t.1 < 0) := ⟨_, rfl⟩
        have HBZ := hid hbs
        rw [← hns] at HD2 ⊢
        rw [← hbs]
        obtain ⟨q0, q1, p0, p1⟩ := HCC.out wc (HXB.out.drew.trans hxc)
        obtain ⟨e0, e1⟩ := two_set (.bool bs) (.slice aq ns cs) q0 q1
        have HWC := hid (own_set (i := 1) (own_set (i := 0) (own_ext HWB.out ((Ext.refl wb).drew.trans hxc)) (Nat.lt_succ_self w.heap.size) (.bool bs)) (Nat.lt_succ_self w.heap.size) (.slice aq ns cs))
        have HSZC : Hid (w.heap.size + 1 ≤ wb.heap.size) := hid (by have := HXB.out.size; rw [size_alloc] at this; exact this)
        have HXC := hid (((HKB.out.trans hxc).setCell (p := ⟨w.heap.size, 0, none⟩) (Nat.le_refl _) (.bool bs)).setCell (p := ⟨w.heap.size, 1, none⟩) (Nat.le_refl _) (.slice aq ns cs))
        have HSZ2 : Hid (w.heap.size + 1 ≤ ((wc.setCell ⟨w.heap.size, 0, none⟩ (.bool bs)).setCell ⟨w.heap.size, 1, none⟩ (.slice aq ns cs)).heap.size) := hid (by rw [size_setCell, size_setCell]; exact Nat.le_trans HSZC.out hxc.size)
        have HDC2 := hid (off_new (wb := wb.drew) (b := w.heap.size) (i := 0) (j := 1) (x := .bool bs) (y := .slice aq ns cs) HD2.out (own_ext HWB.out ((Ext.refl wb).drew)) HSZC.out (Nat.le_trans (Nat.le_succ _) HSZC.out) (S := S) (w := w))
        have HPE := hid (put_same (c := c) HPR.out HT.out HRC.out)
        have HJ : Hid (k + 1 ≤ p.length) := hid hlt
        clear hxc hd2 hns hbs c0 c1
        go_wp2_with fail
        obtain ⟨wz, hwz⟩ : ∃ W, W = (wc.setCell ⟨w.heap.size, 0, none⟩ (.bool bs)).setCell ⟨w.heap.size, 1, none⟩ (.slice aq ns cs) := ⟨_, rfl⟩
        rw [← hwz] at HWC HXC HSZ2 HDC2 e0 e1 ⊢
        have HW := HWC
        have HXW : Hid (Ext w wz) := HXC
        have HSZ := HSZ2
        have HDZ := HDC2
        have c0 := e0
        have c1 := e1
        clear hwz q0 q1 p0 p1 f0 f1 HWC HXC HSZ2 HDC2 e0 e1 HD2
        by_cases hz : c + t.1 = 0
        · have CS := hid (show Calls Try.prog 104 #[.agg #[.bool bs, .slice aq ns cs]] wz fun e w' => e = .returned (.int .i64 0) ∧ Ext wz w' from by have h := zed_sign (S := Off S w wz u7) _ (c + t.1) wz ⟨_, rfl, HDZ.out⟩; rw [← HBZ.out, show signI (c + t.1) = 0 by rw [hz]; rfl] at h; exact h)
          have HZ := hid hz
          clear hz
          refine CS.out.mono ?_
          rintro e w1 ⟨rfl, hx1⟩
          have HX1 := hid (HXW.out.trans hx1)
          have HW1 := hid (own_ext HW.out hx1)
          have HSZ1 : Hid (w.heap.size + 1 ≤ w1.heap.size) := hid (Nat.le_trans HSZ.out hx1.size)
          have HD1 := hid (off_ext hS HXW.out HDZ.out hx1)
          clear hx1
          go_wp2_with (first | (refine wpList_slice_from _ rfl (.tmp 65) (.tmp 66) 33 103 rfl Try.underlying33 Try.infoT (some ⟨b, off, none⟩) p.length cp (k + 1) rfl rfl HJ.out ?_; intro A' hA'; obtain ⟨news, hsrc, hcs⟩ := src_sliced (HP.out.ext HX1.out hS) HJ.out hA'; have HSRC := hid hsrc; have HCS := hid hcs; clear hA' hsrc hcs) | (at_builtin; refine wpList_append_src _ rfl (.tmp 64) (.tmp 67) 33 rfl (w.heap.size + 1) 103 i0 (.agg #[.bool false, .slice none 0 0, .slice none 0 0]) 3 56 Try.underlying33 hi hz0 hz1 hz2 rfl (by decide) _ ((k)) xs rfl HW1.out A' (p.length - (k + 1)) _ news rfl HSRC.out (by have := HS.out.1; unfold maxLen; omega) (by have := HS.out.1; omega) HSZ1.out ?_; intro v3 w3 hown hg _; have HW3 := hid hown; have HG3 := hid hg; clear hown hg))
          go_ret
          have hx3 := own_grown HX1.out HW1.out HG3.out
          refine ⟨_, rfl, put_done (w := w) hS (ms := []) (md := []) HXS.out hx3 rfl HCS.out (Kept.grown HG3.out (own_far hS HW1.out HX1.out)) (by simpa using HW3.out) (by rw [HPE.out, midP_zero HZ.out]), hx3⟩
        · have CS := hid (show Calls Try.prog 104 #[.agg #[.bool bs, .slice aq ns cs]] wz fun e w' => e = .returned (.int .i64 (signI (c + t.1))) ∧ Ext wz w' from by rw [HBZ.out]; exact zed_sign (S := Off S w wz u7) _ (c + t.1) wz ⟨_, rfl, HDZ.out⟩)
          have hsn := sign_ne hz
          have HZ := hid hz
          clear hz
          refine CS.out.mono ?_
          rintro e w1 ⟨rfl, hx1⟩
          have HX1 := hid (HXW.out.trans hx1)
          have HW1 := hid (own_ext HW.out hx1)
          have HSZ1 : Hid (w.heap.size + 1 ≤ w1.heap.size) := hid (Nat.le_trans HSZ.out hx1.size)
          have HD1 := hid (off_ext hS HXW.out HDZ.out hx1)
          have k0 := hx1.cell c0
          have k1 := hx1.cell c1
          clear hx1
          go_wp2_with (first | (refine wpList_slice_from _ rfl (.tmp 65) (.tmp 66) 33 103 rfl Try.underlying33 Try.infoT (some ⟨b, off, none⟩) p.length cp (k + 1) rfl rfl HJ.out ?_; intro A' hA'; obtain ⟨news, hsrc, hcs⟩ := src_sliced (HP.out.ext HX2.out hS) HJ.out hA'; have HSRC := hid hsrc; have HCS := hid hcs; clear hA' hsrc hcs) | (first | (at_builtin; refine wpList_append_new _ rfl (.tmp 58) (.tmp 62) 33 rfl (w.heap.size + 1) 103 (.agg #[.bool false, .slice none 0 0, .slice none 0 0]) 3 56 Try.underlying33 Try.infoT rfl (by decide) _ (k) xs rfl HW1.out #[.bool bs, .slice aq ns cs, .slice am m.length cm] rfl (three_cell rfl rfl rfl) rfl (by have := HS.out.1; omega) (by decide) HSZ1.out ?_; intro v2 w2 hown hg hbk; have HW2 := hid hown; have HG2 := hid hg; have HBK := hid hbk; have HX2 := hid (own_grown HX1.out HW1.out hg); have HSZ2 : Hid (w.heap.size + 1 ≤ w2.heap.size) := hid (Nat.le_trans HSZ1.out hg.size); clear hown hg hbk) | (at_builtin; refine wpList_append_src _ rfl (.tmp 64) (.tmp 67) 33 rfl (w.heap.size + 1) 103 i0 (.agg #[.bool false, .slice none 0 0, .slice none 0 0]) 3 56 Try.underlying33 hi hz0 hz1 hz2 rfl (by decide) _ ((k) + 1) (xs ++ (#[.bool bs, .slice aq ns cs, .slice am m.length cm] : Array Value).toList) rfl HW2.out A' (p.length - (k + 1)) _ news rfl HSRC.out (by have := HS.out.1; unfold maxLen; omega) (by have := HS.out.1; omega) HSZ2.out ?_; intro v3 w3 hown hg _; have HW3 := hid hown; have HG3 := hid hg; clear hown hg)))
          go_ret
          have hx3 := own_grown HX2.out HW2.out HG3.out
          have hmid : Cells3 (Plus S w w3) w3 [.bool bs, .slice aq ns cs, .slice am m.length cm] [(c + t.1, m)] := by
            have hd := Digs.to HD1.out (Kept.grown HG2.out (fun j hj => ⟨plus_lt hS HX1.out j hj.1, hj.2⟩)) (fun _ h => h)
            have hd3 := Digs.to hd (Kept.grown HG3.out (fun j hj => ⟨Nat.lt_of_lt_of_le (plus_lt hS HX1.out j hj.1) HG2.out.size, off_still hS HX1.out hj HBK.out⟩)) (S' := Plus S w w3) (fun j hj => plus_grow (Nat.le_trans HG2.out.size HG3.out.size) j hj.1)
            rw [HBZ.out]
            exact Cells3.single (t := (c + t.1, m)) hd3 (HM.out.to (Kept.ext hx3 hS) (fun _ h => .inl h))
          refine ⟨_, rfl, put_done (w := w) hS (ms := [.bool bs, .slice aq ns cs, .slice am m.length cm]) (md := [(c + t.1, m)]) HXS.out hx3 hmid HCS.out (Kept.grown HG3.out (own_far hS HW2.out HX2.out)) HW3.out (by rw [HPE.out, midP_some HZ.out]), hx3⟩
      · go_wp2_with fail
        refine (HCO.out wr HXW0.out).mono ?_
        rintro e wa ⟨rfl, hxa⟩
        have HXA := hid (HX.out.trans hxa)
        have k1 := hxa.cell g1
        have k2 := hxa.cell g2
        have k3 := hxa.cell g3
        have HWA := hid (own_ext HW.out hxa)
        clear hxa g1 g2 g3
        go_wp2_with fail
        refine (HCO.out wa (HK.out.trans HXA.out)).mono ?_
        rintro e wz ⟨rfl, hxb⟩
        have HXB := hid (HXA.out.trans hxb)
        have HW := hid (own_ext HWA.out hxb)
        have HXW := hid (HK.out.trans HXB.out)
        have HSZ : Hid (w.heap.size + 1 ≤ wz.heap.size) := hid (by have := HXB.out.size; rw [size_alloc] at this; exact this)
        obtain ⟨c0, c1, f0, f1⟩ := HCC.out wz HXB.out
        have HDZ := hid (off_old hS HDC.out HXW.out HW.out)
        have HPE := hid (put_here (c := c) HPR.out HT.out (by rw [HRC.out]; decide) (by rw [HRC.out]; decide))
        have HJ : Hid (k ≤ p.length) := hid hk
        clear hxb k1 k2 k3
        by_cases hz : c = 0
        · have CS := hid (show Calls Try.prog 104 #[.agg #[.bool bc, .slice ac nc cc]] wz fun e w' => e = .returned (.int .i64 0) ∧ Ext wz w' from by have h := zed_sign (S := Off S w wz u7) _ (c) wz ⟨_, rfl, HDZ.out⟩; rw [← HBZ.out, show signI (c) = 0 by rw [hz]; rfl] at h; exact h)
          have HZ := hid hz
          clear hz
          go_wp2_with fail
          refine CS.out.mono ?_
          rintro e w1 ⟨rfl, hx1⟩
          have HX1 := hid (HXW.out.trans hx1)
          have HW1 := hid (own_ext HW.out hx1)
          have HSZ1 : Hid (w.heap.size + 1 ≤ w1.heap.size) := hid (Nat.le_trans HSZ.out hx1.size)
          have HD1 := hid (off_ext hS HXW.out HDZ.out hx1)
          clear hx1
          go_wp2_with (first | (refine wpList_slice_from _ rfl (.tmp 65) (.tmp 66) 33 103 rfl Try.underlying33 Try.infoT (some ⟨b, off, none⟩) p.length cp (k) rfl rfl HJ.out ?_; intro A' hA'; obtain ⟨news, hsrc, hcs⟩ := src_sliced (HP.out.ext HX1.out hS) HJ.out hA'; have HSRC := hid hsrc; have HCS := hid hcs; clear hA' hsrc hcs) | (at_builtin; refine wpList_append_src _ rfl (.tmp 64) (.tmp 67) 33 rfl (w.heap.size + 1) 103 i0 (.agg #[.bool false, .slice none 0 0, .slice none 0 0]) 3 56 Try.underlying33 hi hz0 hz1 hz2 rfl (by decide) _ ((k)) xs rfl HW1.out A' (p.length - (k)) _ news rfl HSRC.out (by have := HS.out.1; unfold maxLen; omega) (by have := HS.out.1; omega) HSZ1.out ?_; intro v3 w3 hown hg _; have HW3 := hid hown; have HG3 := hid hg; clear hown hg))
          go_ret
          have hx3 := own_grown HX1.out HW1.out HG3.out
          refine ⟨_, rfl, put_done (w := w) hS (ms := []) (md := []) HXS.out hx3 rfl HCS.out (Kept.grown HG3.out (own_far hS HW1.out HX1.out)) (by simpa using HW3.out) (by rw [HPE.out, midP_zero HZ.out]), hx3⟩
        · have CS := hid (show Calls Try.prog 104 #[.agg #[.bool bc, .slice ac nc cc]] wz fun e w' => e = .returned (.int .i64 (signI (c))) ∧ Ext wz w' from by rw [HBZ.out]; exact zed_sign (S := Off S w wz u7) _ (c) wz ⟨_, rfl, HDZ.out⟩)
          have hsn := sign_ne hz
          have HZ := hid hz
          clear hz
          go_wp2_with fail
          refine CS.out.mono ?_
          rintro e w1 ⟨rfl, hx1⟩
          have HX1 := hid (HXW.out.trans hx1)
          have HW1 := hid (own_ext HW.out hx1)
          have HSZ1 : Hid (w.heap.size + 1 ≤ w1.heap.size) := hid (Nat.le_trans HSZ.out hx1.size)
          have HD1 := hid (off_ext hS HXW.out HDZ.out hx1)
          have k0 := hx1.cell c0
          have k1 := hx1.cell c1
          clear hx1
          go_wp2_with (first | (refine wpList_slice_from _ rfl (.tmp 65) (.tmp 66) 33 103 rfl Try.underlying33 Try.infoT (some ⟨b, off, none⟩) p.length cp (k) rfl rfl HJ.out ?_; intro A' hA'; obtain ⟨news, hsrc, hcs⟩ := src_sliced (HP.out.ext HX2.out hS) HJ.out hA'; have HSRC := hid hsrc; have HCS := hid hcs; clear hA' hsrc hcs) | (first | (at_builtin; refine wpList_append_new _ rfl (.tmp 58) (.tmp 62) 33 rfl (w.heap.size + 1) 103 (.agg #[.bool false, .slice none 0 0, .slice none 0 0]) 3 56 Try.underlying33 Try.infoT rfl (by decide) _ (k) xs rfl HW1.out #[.bool bc, .slice ac nc cc, .slice am m.length cm] rfl (three_cell rfl rfl rfl) rfl (by have := HS.out.1; omega) (by decide) HSZ1.out ?_; intro v2 w2 hown hg hbk; have HW2 := hid hown; have HG2 := hid hg; have HBK := hid hbk; have HX2 := hid (own_grown HX1.out HW1.out hg); have HSZ2 : Hid (w.heap.size + 1 ≤ w2.heap.size) := hid (Nat.le_trans HSZ1.out hg.size); clear hown hg hbk) | (at_builtin; refine wpList_append_src _ rfl (.tmp 64) (.tmp 67) 33 rfl (w.heap.size + 1) 103 i0 (.agg #[.bool false, .slice none 0 0, .slice none 0 0]) 3 56 Try.underlying33 hi hz0 hz1 hz2 rfl (by decide) _ ((k) + 1) (xs ++ (#[.bool bc, .slice ac nc cc, .slice am m.length cm] : Array Value).toList) rfl HW2.out A' (p.length - (k)) _ news rfl HSRC.out (by have := HS.out.1; unfold maxLen; omega) (by have := HS.out.1; omega) HSZ2.out ?_; intro v3 w3 hown hg _; have HW3 := hid hown; have HG3 := hid hg; clear hown hg)))
          go_ret
          have hx3 := own_grown HX2.out HW2.out HG3.out
          have hmid : Cells3 (Plus S w w3) w3 [.bool bc, .slice ac nc cc, .slice am m.length cm] [(c, m)] := by
            have hd := Digs.to HD1.out (Kept.grown HG2.out (fun j hj => ⟨plus_lt hS HX1.out j hj.1, hj.2⟩)) (fun _ h => h)
            have hd3 := Digs.to hd (Kept.grown HG3.out (fun j hj => ⟨Nat.lt_of_lt_of_le (plus_lt hS HX1.out j hj.1) HG2.out.size, off_still hS HX1.out hj HBK.out⟩)) (S' := Plus S w w3) (fun j hj => plus_grow (Nat.le_trans HG2.out.size HG3.out.size) j hj.1)
            rw [HBZ.out]
            exact Cells3.single (t := (c, m)) hd3 (HM.out.to (Kept.ext hx3 hS) (fun _ h => .inl h))
          refine ⟨_, rfl, put_done (w := w) hS (ms := [.bool bc, .slice ac nc cc, .slice am m.length cm]) (md := [(c, m)]) HXS.out hx3 hmid HCS.out (Kept.grown HG3.out (own_far hS HW2.out HX2.out)) HW3.out (by rw [HPE.out, midP_some HZ.out]), hx3⟩
    · obtain rfl : k = p.length := by omega
      obtain ⟨c0, c1, f0, f1⟩ := HCC.out wr hx
      have HPE := hid (put_end (c := c) HPR.out rfl)
      have HJ : Hid (p.length ≤ p.length) := hid (Nat.le_refl _)
      have HXW := hid (HK.out.trans hx)
      have HSZ : Hid (w.heap.size + 1 ≤ wr.heap.size) := hid (by have := hx.size; rw [size_alloc] at this; exact this)
      have HDZ := hid (off_old hS HDC.out HXW.out HW.out)
      clear hx
      by_cases hz : c = 0
      · have CS := hid (show Calls Try.prog 104 #[.agg #[.bool bc, .slice ac nc cc]] wr fun e w' => e = .returned (.int .i64 0) ∧ Ext wr w' from by have h := zed_sign (S := Off S w wr u7) _ (c) wr ⟨_, rfl, HDZ.out⟩; rw [← HBZ.out, show signI (c) = 0 by rw [hz]; rfl] at h; exact h)
        have HZ := hid hz
        clear hz
        go_wp2_with fail
        refine CS.out.mono ?_
        rintro e w1 ⟨rfl, hx1⟩
        have HX1 := hid (HXW.out.trans hx1)
        have HW1 := hid (own_ext HW.out hx1)
        have HSZ1 : Hid (w.heap.size + 1 ≤ w1.heap.size) := hid (Nat.le_trans HSZ.out hx1.size)
        have HD1 := hid (off_ext hS HXW.out HDZ.out hx1)
        clear hx1
        go_wp2_with (first | (refine wpList_slice_from _ rfl (.tmp 65) (.tmp 66) 33 103 rfl Try.underlying33 Try.infoT ap p.length cp (p.length) rfl rfl HJ.out ?_; intro A' hA'; obtain ⟨news, hsrc, hcs⟩ := src_sliced (HP.out.ext HX1.out hS) HJ.out hA'; have HSRC := hid hsrc; have HCS := hid hcs; clear hA' hsrc hcs) | (at_builtin; refine wpList_append_src _ rfl (.tmp 64) (.tmp 67) 33 rfl (w.heap.size + 1) 103 i0 (.agg #[.bool false, .slice none 0 0, .slice none 0 0]) 3 56 Try.underlying33 hi hz0 hz1 hz2 rfl (by decide) _ ((p.length)) xs rfl HW1.out A' (p.length - (p.length)) _ news rfl HSRC.out (by have := HS.out.1; unfold maxLen; omega) (by have := HS.out.1; omega) HSZ1.out ?_; intro v3 w3 hown hg _; have HW3 := hid hown; have HG3 := hid hg; clear hown hg))
        go_ret
        have hx3 := own_grown HX1.out HW1.out HG3.out
        refine ⟨_, rfl, put_done (w := w) hS (ms := []) (md := []) HXS.out hx3 rfl HCS.out (Kept.grown HG3.out (own_far hS HW1.out HX1.out)) (by simpa using HW3.out) (by rw [HPE.out, midP_zero HZ.out]), hx3⟩
      · have CS := hid (show Calls Try.prog 104 #[.agg #[.bool bc, .slice ac nc cc]] wr fun e w' => e = .returned (.int .i64 (signI (c))) ∧ Ext wr w' from by rw [HBZ.out]; exact zed_sign (S := Off S w wr u7) _ (c) wr ⟨_, rfl, HDZ.out⟩)
        have hsn := sign_ne hz
        have HZ := hid hz
        clear hz
        go_wp2_with fail
        refine CS.out.mono ?_
        rintro e w1 ⟨rfl, hx1⟩
        have HX1 := hid (HXW.out.trans hx1)
        have HW1 := hid (own_ext HW.out hx1)
        have HSZ1 : Hid (w.heap.size + 1 ≤ w1.heap.size) := hid (Nat.le_trans HSZ.out hx1.size)
        have HD1 := hid (off_ext hS HXW.out HDZ.out hx1)
        have k0 := hx1.cell c0
        have k1 := hx1.cell c1
        clear hx1
        go_wp2_with (first | (refine wpList_slice_from _ rfl (.tmp 65) (.tmp 66) 33 103 rfl Try.underlying33 Try.infoT ap p.length cp (p.length) rfl rfl HJ.out ?_; intro A' hA'; obtain ⟨news, hsrc, hcs⟩ := src_sliced (HP.out.ext HX2.out hS) HJ.out hA'; have HSRC := hid hsrc; have HCS := hid hcs; clear hA' hsrc hcs) | (first | (at_builtin; refine wpList_append_new _ rfl (.tmp 58) (.tmp 62) 33 rfl (w.heap.size + 1) 103 (.agg #[.bool false, .slice none 0 0, .slice none 0 0]) 3 56 Try.underlying33 Try.infoT rfl (by decide) _ (p.length) xs rfl HW1.out #[.bool bc, .slice ac nc cc, .slice am m.length cm] rfl (three_cell rfl rfl rfl) rfl (by have := HS.out.1; omega) (by decide) HSZ1.out ?_; intro v2 w2 hown hg hbk; have HW2 := hid hown; have HG2 := hid hg; have HBK := hid hbk; have HX2 := hid (own_grown HX1.out HW1.out hg); have HSZ2 : Hid (w.heap.size + 1 ≤ w2.heap.size) := hid (Nat.le_trans HSZ1.out hg.size); clear hown hg hbk) | (at_builtin; refine wpList_append_src _ rfl (.tmp 64) (.tmp 67) 33 rfl (w.heap.size + 1) 103 i0 (.agg #[.bool false, .slice none 0 0, .slice none 0 0]) 3 56 Try.underlying33 hi hz0 hz1 hz2 rfl (by decide) _ ((p.length) + 1) (xs ++ (#[.bool bc, .slice ac nc cc, .slice am m.length cm] : Array Value).toList) rfl HW2.out A' (p.length - (p.length)) _ news rfl HSRC.out (by have := HS.out.1; unfold maxLen; omega) (by have := HS.out.1; omega) HSZ2.out ?_; intro v3 w3 hown hg _; have HW3 := hid hown; have HG3 := hid hg; clear hown hg)))
        go_ret
        have hx3 := own_grown HX2.out HW2.out HG3.out
        have hmid : Cells3 (Plus S w w3) w3 [.bool bc, .slice ac nc cc, .slice am m.length cm] [(c, m)] := by
          have hd := Digs.to HD1.out (Kept.grown HG2.out (fun j hj => ⟨plus_lt hS HX1.out j hj.1, hj.2⟩)) (fun _ h => h)
          have hd3 := Digs.to hd (Kept.grown HG3.out (fun j hj => ⟨Nat.lt_of_lt_of_le (plus_lt hS HX1.out j hj.1) HG2.out.size, off_still hS HX1.out hj HBK.out⟩)) (S' := Plus S w w3) (fun j hj => plus_grow (Nat.le_trans HG2.out.size HG3.out.size) j hj.1)
          rw [HBZ.out]
          exact Cells3.single (t := (c, m)) hd3 (HM.out.to (Kept.ext hx3 hS) (fun _ h => .inl h))
        refine ⟨_, rfl, put_done (w := w) hS (ms := [.bool bc, .slice ac nc cc, .slice am m.length cm]) (md := [(c, m)]) HXS.out hx3 hmid HCS.out (Kept.grown HG3.out (own_far hS HW2.out HX2.out)) HW3.out (by rw [HPE.out, midP_some HZ.out]), hx3⟩
end Go.Proofs.Ythplgldclilccaa

namespace Go.Proofs.Ythplgldclilccaa
open Go.RowKit

theorem putP_may {p : PZ} {c : Int} {m : Mono} (hp : mayAll p) (hm : mayM m = true) : mayAll (putP p c m) := fun t ht => by
  rcases putP_mem ht with h | h
  · exact hp t h
  · rw [h]; exact hm
theorem addP_may {p l : PZ} (hp : mayAll p) (hl : mayAll l) : mayAll (addP p l) := by
  induction l generalizing p with
  | nil => exact hp
  | cons t r ih => exact ih (putP_may hp (hl t (by simp))) (fun u hu => hl u (by simp [hu]))
theorem addP_snoc (p l : PZ) (t : Int × Mono) : addP p (l ++ [t]) = putP (addP p l) t.1 t.2 := by
  unfold addP
  rw [List.foldl_append]
  rfl
theorem may_take {l : PZ} (h : mayAll l) (k : Nat) : mayAll (l.take k) := fun t ht => h t (List.mem_of_mem_take ht)
theorem toP_at {ts : List RTerm} {k : Nat} {t : RTerm} (h : ts[k]? = some t) : (toP ts).take (k + 1) = (toP ts).take k ++ [(valI t.c, t.m)] := by
  rw [List.take_add_one]
  unfold toP
  rw [List.getElem?_map, h]
  rfl
theorem plus_plus {S : Nat → Prop} {w w1 w2 : World} (h1 : Ext w w1) (h2 : Ext w1 w2) : ∀ k, Plus (Plus S w w1) w1 w2 k → Plus S w w2 k := fun k hk => by
  rcases hk with (h | h) | h
  · exact .inl h
  · exact .inr ⟨h.1, Nat.lt_of_lt_of_le h.2 h2.size⟩
  · exact .inr ⟨Nat.le_trans h1.size h.1, h.2⟩
theorem new_plus {S : Nat → Prop} {w w1 w2 : World} (h1 : w.heap.size ≤ w1.heap.size) : ∀ k, New w1 w2 k → Plus S w w2 k := fun _k hk => .inr ⟨Nat.le_trans h1 hk.1, hk.2⟩
theorem RTs.later {S : Nat → Prop} {w w1 w2 : World} {v : Value} {p : PZ} (hS : ∀ k, S k → k < w.heap.size) (h : RTs (Plus S w w1) w1 v p) (h1 : Ext w w1) (h2 : Ext w1 w2) : RTs (Plus S w w2) w2 v p :=
  h.to (Kept.ext h2 (plus_lt hS h1)) (plus_grow h2.size)
theorem toP_length (ts : List RTerm) : (toP ts).length = ts.length := by unfold toP; rw [List.length_map]

set_option maxRecDepth 100000 in
set_option maxHeartbeats 8000000 in
theorem rpoly_of {S : Nat → Prop} (v : Value) (ts : List RTerm) (w : World) (h : Terms S w v ts) (hS : ∀ k, S k → k < w.heap.size) (hr : tinyT ts) (hmay : mayAll (toP ts)) (hsz : ∀ k, k ≤ ts.length → szP (addP [] ((toP ts).take k))) :
    Calls Try.prog 36 #[v] w fun e w' => ∃ v', e = .returned v' ∧ RTs (Plus S w w') w' v' (normP (toP ts)) ∧ Ext w w' := by
  have hl := h.len_le
  have H := hid h
  have HR := hid hr
  have HMY := hid hmay
  have HSZ := hid hsz
  have HST := hid (fun k (x : RTerm) => toP_at (ts := ts) (k := k) (t := x))
  obtain ⟨P, hP⟩ : ∃ P, P = toP ts := ⟨_, rfl⟩
  rw [← hP] at HMY HSZ ⊢
  have HP := hid hP
  obtain ⟨a, cap, rfl⟩ := h.form
  clear h hr hmay hsz hP
  go_enter Try.func36, Try.ntmps36
  go_wp2
  go_loopw [3, 4] (fun o i wr => ∃ k : Nat, k ≤ ts.length ∧ i = .int .i64 k ∧ Ext w wr ∧ Hid (RTs (Plus S w wr) wr o (addP [] (P.take k)))) (fun _ i _ => ts.length - (intOf i).toNat)
  case atStart => exact ⟨0, Nat.zero_le _, rfl, Ext.refl _, hid (RTs.nilv _ _ _ _ (by omega))⟩
  case round =>
    obtain ⟨k, hk, rfl, hx, HO⟩ := hrel
    have HX := hid hx
    by_cases hlt : k < ts.length
    · obtain ⟨t, ht⟩ := some_of_lt hlt
      obtain ⟨b, off, vm, vo, rfl, -, hn1, hm1, hSb, h1, h2, h3, h4, h5⟩ := H.out.cellAt ht
      have hsm := HR.out t (List.mem_of_getElem? ht)
      have HTK := hid (HST.out k t ht)
      have HTM : Hid (mayM t.m = true) := hid (HMY.out (valI t.c, t.m) (by rw [HP.out]; exact List.mem_map.2 ⟨t, List.mem_of_getElem? ht, rfl⟩))
      have HV : Hid (szZ (valI t.c)) := hid (szZ_of h4.lt hsm)
      obtain ⟨⟨ng, zs⟩, m⟩ := t
      simp only at h1 h2 h3 h4 h5 hsm HTM HV HTK
      have H4 := hid h4
      have H5 := hid h5
      obtain ⟨am, cm, rfl⟩ := h4.form
      obtain ⟨ao, co, rfl⟩ := h5.form
      have x0 : Ext w wr.drew := hx.drew
      have HX0 := hid x0
      have S0 : _ ∧ _ ∧ _ := And.intro (x0.cell h1) (And.intro (x0.cell h2) (x0.cell h3))
      have C1 := hid (zed_of (S := S) _ ⟨ng, zs⟩ wr.drew (intV_mk (H4.out.ext x0 hS)) (lt_ext hS x0) hsm)
      clear ht h1 h2 h3 h4 h5 hx hsm x0
      go_wp2
      go_region_held3 (fun W => W.cell? ⟨b, off + k * 3, none⟩ = some (.bool ng) ∧ W.cell? ⟨b, off + k * 3 + 1, none⟩ = some (.slice am zs.length cm) ∧ W.cell? ⟨b, off + k * 3 + 2, none⟩ = some (.slice ao m.length co)) (first | exact S0 | exact S1 | exact S2)
        (first
          | (go_at_call 74; (with_reducible refine C1.out.mono ?_); rintro e w1 ⟨v1, rfl, hz1, hx1⟩; have S1 : _ ∧ _ ∧ _ := And.intro (hx1.cell S0.1) (And.intro (hx1.cell S0.2.1) (hx1.cell S0.2.2)); have HX1 : Hid (Ext w w1) := hid (HX0.out.trans hx1); have C2 := hid (rpoly_put (S := Plus S w w1) _ _ _ (addP [] (P.take k)) (valI ⟨ng, zs⟩) m w1 (plus_lt hS HX1.out) (RTs.later hS HO.out HX.out (((Ext.refl wr).drew).trans hx1)) (hz1.to (Kept.refl _ _) (new_plus HX0.out.size)) ((H5.out.ext HX1.out hS).to (Kept.refl _ _) (fun _ h => .inl h)) (addP_may (p := []) canP_nil.may (may_take HMY.out k)) HTM.out (HSZ.out k hk) HV.out); clear hx1 hz1)
          | (go_at_call 70; (with_reducible refine C2.out.mono ?_); rintro e w2 ⟨v2, rfl, hp2, hx2⟩; have S2 : _ ∧ _ ∧ _ := And.intro (hx2.cell S1.1) (And.intro (hx2.cell S1.2.1) (hx2.cell S1.2.2)); have HX2 := hid (HX1.out.trans hx2); have HP2 := hid (hp2.to (Kept.refl _ _) (plus_plus HX1.out hx2)); clear hx2 hp2))
      go_wp2
      go_roundw
      case rel => exact ⟨k + 1, by omega, by go_num, HX2.out, hid (by rw [HP.out, HTK.out, addP_snoc, ← HP.out]; exact HP2.out)⟩
      case measure => simp only [intOf]; omega
    · obtain rfl : k = ts.length := by omega
      have HE : Hid (addP [] (P.take ts.length) = normP P) := hid (by rw [List.take_of_length_le (by rw [HP.out, toP_length]; exact Nat.le_refl _)]; rfl)
      clear hx
      go_wp2
      all_goals
        go_ret
        exact ⟨_, rfl, by rw [← HE.out]; exact HO.out, HX.out⟩

set_option maxRecDepth 100000 in
set_option maxHeartbeats 8000000 in
theorem rpoly_add {S : Nat → Prop} (vp vq : Value) (p q : PZ) (w : World) (hS : ∀ k, S k → k < w.heap.size) (hp : RTs S w vp p) (hq : RTs S w vq q) (hmp : mayAll p) (hmq : mayAll q) (hszq : szP q) (hsz : ∀ k, k ≤ q.length → szP (addP p (q.take k))) :
    Calls Try.prog 33 #[vp, vq] w fun e w' => ∃ v', e = .returned v' ∧ RTs (Plus S w w') w' v' (addP p q) ∧ Ext w w' := by
  have hl := hq.len_le
  have HP := hid hp
  have HQ := hid hq
  have HMP := hid hmp
  have HMQ := hid hmq
  have HZQ := hid hszq
  have HSZ := hid hsz
  obtain ⟨ap, cp, rfl⟩ := hp.form
  obtain ⟨aq, cq, rfl⟩ := hq.form
  clear hp hq hmp hmq hszq hsz
  go_enter Try.func33, Try.ntmps33
  go_wp2
  go_loopw [5, 6] (fun o i wr => ∃ k : Nat, k ≤ q.length ∧ i = .int .i64 k ∧ Ext w wr ∧ Hid (RTs (Plus S w wr) wr o (addP p (q.take k)))) (fun _ i _ => q.length - (intOf i).toNat)
  case atStart => exact ⟨0, Nat.zero_le _, rfl, Ext.refl _, hid (HP.out.to (Kept.refl _ _) (fun _ h => .inl h))⟩
  case round =>
    obtain ⟨k, hk, rfl, hx, HO⟩ := hrel
    have HX := hid hx
    by_cases hlt : k < q.length
    · obtain ⟨t, ht⟩ := some_of_lt hlt
      obtain ⟨b, off, vd, vo, rfl, -, hn1, hm1, hSb, h1, h2, h3, h4, h5⟩ := HQ.out.cellAt ht
      have HTK : Hid (q.take (k + 1) = q.take k ++ [t]) := hid (by rw [List.take_add_one, ht]; rfl)
      have HTM := hid (HMQ.out t (List.mem_of_getElem? ht))
      have HV := hid (HZQ.out.2 t (List.mem_of_getElem? ht))
      have H4 := hid h4
      have H5 := hid h5
      obtain ⟨am, cm, rfl⟩ := h4.form
      obtain ⟨ao, co, rfl⟩ := h5.form
      have x0 : Ext w wr.drew := hx.drew
      have HX0 := hid x0
      have S0 : _ ∧ _ ∧ _ := And.intro (x0.cell h1) (And.intro (x0.cell h2) (x0.cell h3))
      have c2 := rpoly_put (S := Plus S w wr.drew) _ _ _ (addP p (q.take k)) t.1 t.2 wr.drew (plus_lt hS x0) (RTs.later hS HO.out HX.out ((Ext.refl wr).drew)) (show ZV (Plus S w wr.drew) wr.drew (.agg #[.bool (decide (t.1 < 0)), .slice am (rep 10 t.1.natAbs).length cm]) t.1 from ⟨_, rfl, H4.out.to (Kept.ext HX0.out hS) (fun _ h => .inl h)⟩) (H5.out.to (Kept.ext HX0.out hS) (fun _ h => .inl h)) (addP_may HMP.out (may_take HMQ.out k)) HTM.out (HSZ.out k hk) HV.out
      obtain ⟨bt, hbt⟩ : ∃ b, b = decide (t.1 < 0) := ⟨_, rfl⟩
      obtain ⟨nt, hnt⟩ : ∃ n, n = (rep 10 t.1.natAbs).length := ⟨_, rfl⟩
      obtain ⟨nm, hnm⟩ : ∃ n, n = t.2.length := ⟨_, rfl⟩
      rw [← hbt, ← hnt, ← hnm] at S0
      rw [← hbt, ← hnt, ← hnm] at c2
      have C2 := hid c2
      clear ht h1 h2 h3 h4 h5 hx x0 c2 H4 H5 hbt hnt hnm
      go_wp2
      go_region_held3 (fun W => W.cell? ⟨b, off + k * 3, none⟩ = some (.bool bt) ∧ W.cell? ⟨b, off + k * 3 + 1, none⟩ = some (.slice am nt cm) ∧ W.cell? ⟨b, off + k * 3 + 2, none⟩ = some (.slice ao nm co)) (first | exact S0 | exact S2)
        (first
          | (go_at_call 70; (with_reducible refine C2.out.mono ?_); rintro e w2 ⟨v2, rfl, hp2, hx2⟩; have S2 : _ ∧ _ ∧ _ := And.intro (hx2.cell S0.1) (And.intro (hx2.cell S0.2.1) (hx2.cell S0.2.2)); have HX2 := hid (HX0.out.trans hx2); have HP2 := hid (hp2.to (Kept.refl _ _) (plus_plus HX0.out hx2)); clear hx2 hp2))
      go_wp2
      go_roundw
      case rel => exact ⟨k + 1, by omega, by go_num, HX2.out, hid (by rw [HTK.out, addP_snoc]; exact HP2.out)⟩
      case measure => simp only [intOf]; omega
    · obtain rfl : k = q.length := by omega
      have HE : Hid (addP p (q.take q.length) = addP p q) := hid (by rw [List.take_length])
      clear hx
      go_wp2
      all_goals
        go_ret
        exact ⟨_, rfl, by rw [← HE.out]; exact HO.out, HX.out⟩
end Go.Proofs.Ythplgldclilccaa

namespace Go.Proofs.Ythplgldclilccaa
open Go.RowKit

section
variable {P : Program}
/-- an append inside a region that draws its order -/
theorem step_append_src {w : World} {ops : Array Oper} {o : Oper} {a : Act} {K : Act → World → Prop} {Q : Exit → Act → World → Prop} {E : Prop} (hgd : o.guard = none) (s x : Operand) (t : TypeId)
    (ho : o.op = .call { callee := .builtin .append, args := #[s, x], argTypes := #[t, t] })
    (base : Nat) (e : TypeId) (i : TypeInfo) (z : Value) (size bytes : Nat) (ht : P.underlying t = some (.slice e)) (hi : P.info? e = some i) (hz : i.zero = some z)
    (hsize : i.size = size) (hby : i.bytes = bytes) (hzs : z.cells.size = size) (hsz : 0 < size)
    (v : Value) (n : Nat) (xs : List Value) (hs : a.eval s = v) (hown : w.ownsRow base e size v n xs)
    (A : Option Addr) (m c : Nat) (news : List Value) (hx : a.eval x = .slice A m c) (hsrc : SrcAt w A m size news)
    (h63 : n + m ≤ maxLen) (hbytes : (n + m) * bytes ≤ 140737488355328) (hbase : base ≤ w.heap.size)
    (h : ∀ v' w', w'.ownsRow base e size v' (n + m) (xs ++ news) → w.grownBy w' v.ownBlock → (v'.ownBlock = v.ownBlock ∨ v'.ownBlock = some w.heap.size) → K (a.put o.dst v') w') :
    if Region.wanted o (yielded ops a.tmps) = true then Oper.wp P o a w K Q else E := by
  have hw : Region.wanted o (yielded ops a.tmps) = true := by simp [Region.wanted, hgd]
  rw [if_pos hw]
  obtain ⟨v', w', hrun, h2, h3, h4⟩ := run_append_src (P := P) w base t o.type e i z size bytes ht hi hz hsize hby hzs hsz v n xs hown A m c news hsrc h63 hbytes hbase
  unfold Oper.wp execOp
  simp only [ho, resolve, invoke, builtin, Sem.run_bind, Sem.run_pure, Result.andThen_ok, List.map_toArray, List.map_cons, List.map_nil, hs, hx, hrun]
  exact h v' w' h2 h3 h4
end

theorem Terms.nilv (S : Nat → Prop) (w : World) (a : Option Addr) (cap : Nat) (h : cap ≤ 9223372036854775807) : Terms S w (.slice a 0 cap) [] :=
  ⟨0, 0, ⟨a, cap, rfl, Nat.zero_le _, h, fun h => absurd h (Nat.lt_irrefl 0), fun h => absurd h (Nat.lt_irrefl 0)⟩, fun j t hj => by simp at hj⟩

/-- the cells of the terms of a slice -/
def CellsT (S : Nat → Prop) (w : World) : List Value → List RTerm → Prop
  | xs, [] => xs = []
  | xs, t :: r => ∃ vd vo ys, xs = .bool t.c.neg :: vd :: vo :: ys ∧ U32s S w vd t.c.mag ∧ Pows S w vo t.m ∧ CellsT S w ys r
section
variable {S S' : Nat → Prop} {w w' : World}
theorem CellsT.append {xs ys : List Value} {p q : List RTerm} (h : CellsT S w xs p) (k : CellsT S w ys q) : CellsT S w (xs ++ ys) (p ++ q) := by
  induction p generalizing xs with
  | nil =>
    have e : xs = [] := h
    subst e
    exact k
  | cons t r ih =>
    obtain ⟨vd, vo, zs, rfl, h1, h2, h3⟩ := h
    exact ⟨vd, vo, zs ++ ys, rfl, h1, h2, ih h3⟩
theorem CellsT.to {xs : List Value} {p : List RTerm} (h : CellsT S w xs p) (hk : Kept S w w') (hS : ∀ k, S k → S' k) : CellsT S' w' xs p := by
  induction p generalizing xs with
  | nil => exact h
  | cons t r ih =>
    obtain ⟨vd, vo, zs, rfl, h1, h2, h3⟩ := h
    exact ⟨vd, vo, zs, rfl, h1.to hk hS, h2.to hk hS, ih h3⟩
theorem CellsT.length {xs : List Value} {p : List RTerm} (h : CellsT S w xs p) : xs.length = p.length * 3 := by
  induction p generalizing xs with
  | nil =>
    have e : xs = [] := h
    subst e
    rfl
  | cons t r ih =>
    obtain ⟨vd, vo, zs, rfl, h1, h2, h3⟩ := h
    simp only [List.length_cons, ih h3]
    omega
theorem CellsT.get {xs : List Value} {p : List RTerm} (h : CellsT S w xs p) {j : Nat} {t : RTerm} (ht : p[j]? = some t) :
    ∃ vd vo, xs[j * 3]? = some (.bool t.c.neg) ∧ xs[j * 3 + 1]? = some vd ∧ xs[j * 3 + 2]? = some vo ∧ U32s S w vd t.c.mag ∧ Pows S w vo t.m := by
  induction p generalizing xs j with
  | nil => simp at ht
  | cons u r ih =>
    obtain ⟨vd, vo, zs, rfl, h1, h2, h3⟩ := h
    cases j with
    | zero =>
      obtain rfl : u = t := by simpa using ht
      exact ⟨vd, vo, rfl, rfl, rfl, h1, h2⟩
    | succ j =>
      obtain ⟨vd', vo', g⟩ := ih h3 (j := j) (by simpa using ht)
      refine ⟨vd', vo', ?_⟩
      rw [show (j + 1) * 3 = j * 3 + 1 + 1 + 1 by omega]
      simpa using g
theorem CellsT.one {xs : List Value} {p : List RTerm} (h : CellsT S w xs p) : ∀ u ∈ xs, u.oneCell' = true := by
  induction p generalizing xs with
  | nil =>
    have e : xs = [] := h
    subst e
    intro u hu
    simp at hu
  | cons t r ih =>
    obtain ⟨vd, vo, zs, rfl, h1, h2, h3⟩ := h
    intro u hu
    simp only [List.mem_cons] at hu
    rcases hu with rfl | rfl | rfl | hu
    · rfl
    · obtain ⟨a, c, rfl⟩ := h1.form; rfl
    · obtain ⟨a, c, rfl⟩ := h2.form; rfl
    · exact ih h3 u hu
theorem CellsT.single {vd vo : Value} {t : RTerm} (h1 : U32s S w vd t.c.mag) (h2 : Pows S w vo t.m) : CellsT S w [.bool t.c.neg, vd, vo] [t] := ⟨vd, vo, [], rfl, h1, h2, rfl⟩
end

theorem own_terms {S : Nat → Prop} {w : World} {base : Nat} {e : TypeId} {v : Value} {xs : List Value} {p : List RTerm} (h : w.ownsRow base e 3 v p.length xs) (hc : CellsT S w xs p) (hB : ∀ k, base ≤ k → k < w.heap.size → S k) : Terms S w v p := by
  have hlt := h.lt
  rcases h.2 with ⟨rfl, h0⟩ | ⟨g, cap, cur, rfl, hg, hh, h1, h2, h3, h4⟩
  · obtain rfl : p = [] := List.length_eq_zero_iff.1 h0
    exact Terms.nilv _ _ _ _ (by omega)
  · refine ⟨g, 0, ⟨_, cap, rfl, h1, h2, fun _ => rfl, fun _ => hB g (hlt g rfl).1 (hlt g rfl).2⟩, fun j t hj => ?_⟩
    obtain ⟨vd, vo, g1, g2, g3, g4, g5⟩ := hc.get hj
    have hb := lt_of_some hj
    refine ⟨vd, vo, ?_, ?_, ?_, g4, g5⟩
    · rw [h.cellAt (0 + j * 3) (by omega), Nat.zero_add]
      exact g1
    · rw [h.cellAt (0 + j * 3 + 1) (by omega), Nat.zero_add]
      exact g2
    · rw [h.cellAt (0 + j * 3 + 2) (by omega), Nat.zero_add]
      exact g3

theorem Try.infoTerm : (Try.prog.info? 72).map (fun i => (i.zero, i.size, i.bytes)) = some (some (.agg #[.bool false, .slice none 0 0, .slice none 0 0]), 3, 56) := by kernel_rfl
section
variable {w w1 w2 : World} {o : Value} {e : TypeId} {size n : Nat} {xs : List Value}
theorem own_grown0 (hx : Ext w w1) (ho : w1.ownsRow w.heap.size e size o n xs) (hg : w1.grownBy w2 o.ownBlock) : Ext w w2 := ext_grown hx hg (fun k hk => (ho.lt k hk).1)
end
theorem ofP_at {p : PZ} {k : Nat} {t : Int × Mono} (h : p[k]? = some t) : ofP (p.take (k + 1)) = ofP (p.take k) ++ [⟨ofI t.1, t.2⟩] := by
  rw [List.take_add_one, h]
  unfold ofP
  rw [List.map_append]
  rfl
theorem ofP_length (p : PZ) : (ofP p).length = p.length := by unfold ofP; rw [List.length_map]
/-- new blocks but that of a slice -/
abbrev NewOff (w w1 : World) (o : Value) : Nat → Prop := fun k => New w w1 k ∧ some k ≠ o.ownBlock
theorem newOff_ext {w w1 w2 : World} {o : Value} {xs : List Value} {l : List RTerm} (h : CellsT (NewOff w w1 o) w1 xs l) (hx : Ext w1 w2) : CellsT (NewOff w w2 o) w2 xs l :=
  h.to (Kept.ext hx (fun _ h => h.1.2)) (fun _ h => ⟨⟨h.1.1, Nat.lt_of_lt_of_le h.1.2 hx.size⟩, h.2⟩)
theorem newOff_grown {w w2 w3 : World} {o v3 : Value} {xs : List Value} {l : List RTerm} {B : Nat} (h : CellsT (NewOff w w2 o) w2 xs l) (hg : w2.grownBy w3 o.ownBlock) (hb : v3.ownBlock = o.ownBlock ∨ v3.ownBlock = some B) (hB : w2.heap.size ≤ B) : CellsT (NewOff w w3 v3) w3 xs l :=
  h.to (Kept.grown hg (fun _ h => ⟨h.1.2, h.2⟩)) (fun k hk => ⟨⟨hk.1.1, Nat.lt_of_lt_of_le hk.1.2 hg.size⟩, by
    rcases hb with e | e
    · rw [e]; exact hk.2
    · rw [e]
      intro e2
      have e3 : k = B := Option.some.inj e2
      have := hk.1.2
      omega⟩)
/-- a term that was made behind a slice -/
theorem newOff_of {w w0 w1 : World} {o : Value} {e : TypeId} {size n : Nat} {xs : List Value} {l : List RTerm} {ys : List Value} (h0 : w.heap.size ≤ w0.heap.size) (ho : w0.ownsRow w.heap.size e size o n ys) (h : CellsT (New w0 w1) w1 xs l) : CellsT (NewOff w w1 o) w1 xs l :=
  h.to (Kept.refl _ _) (fun k hk => ⟨⟨Nat.le_trans h0 hk.1, hk.2⟩, fun e => by
    have := (ho.lt k e.symm).2
    have := hk.1
    omega⟩)

/-- one element in a block of its own, as a source -/
theorem src_one (w : World) (cs : Array Value) (e : TypeId) {size : Nat} (h1 : ∀ u ∈ cs.toList, u.oneCell' = true) (hs : cs.size = size) : SrcAt (w.alloc (.cells cs e)) (some ⟨w.heap.size, 0, none⟩) 1 size cs.toList :=
  ⟨by simpa using hs, h1, fun _ => ⟨_, rfl, fun j u hu => by
    rw [add_off, Nat.zero_add]
    exact cell_new w cs e rfl (by simpa using hu)⟩⟩
/-- a copy of powers, just made -/
theorem copy_done {w1 w3 : World} {v : Value} {n : Nat} {m : Mono} {e : TypeId} (h : w3.ownsRow w1.heap.size e 2 v (0 + n) ([] ++ flatP m)) (hn : n = m.length) (hb : inBounds m) : ∃ a c, v = .slice a n c ∧ Pows (New w1 w3) w3 v m := by
  subst hn
  rw [Nat.zero_add, List.nil_append] at h
  have hp := own_pows h hb
  obtain ⟨a, c, rfl⟩ := hp.form
  exact ⟨a, c, rfl, hp⟩
theorem copy_ext {w1 w3 : World} {cs : Array Value} {e : TypeId} (hg : (w1.alloc (.cells cs e)).grownBy w3 (some w1.heap.size)) : Ext w1 w3 :=
  ext_grown (Ext.alloc (Ext.refl w1) _) hg (fun k hk => by
    have : w1.heap.size = k := Option.some.inj hk
    omega)

theorem copy_late {wr w1 w3 : World} (hx : Ext wr w1) (hg : w1.grownBy w3 (some wr.heap.size)) : Ext wr w3 :=
  ext_grown hx hg (fun k hk => by
    have : wr.heap.size = k := Option.some.inj hk
    omega)
theorem late_u32s {wr w1 w3 : World} {o : Obj} {v : Value} {zs : List Nat} (h : U32s (New (wr.alloc o) w1) w1 v zs) (hg : w1.grownBy w3 (some wr.heap.size)) : U32s (New wr w3) w3 v zs := by
  have hne : ∀ k, New (wr.alloc o) w1 k → wr.heap.size + 1 ≤ k := fun k hk => by have := hk.1; rw [size_alloc] at this; exact this
  exact h.to (Kept.grown hg (fun k hk => ⟨hk.2, fun e => by
    have e2 : k = wr.heap.size := Option.some.inj e
    have := hne k hk
    omega⟩)) (fun k hk => ⟨by have := hne k hk; omega, Nat.lt_of_lt_of_le hk.2 hg.size⟩)

set_option maxRecDepth 100000 in
set_option maxHeartbeats 8000000 in
theorem rpoly_poly {S : Nat → Prop} (v : Value) (p : PZ) (w : World) (h : RTs S w v p) (hS : ∀ k, S k → k < w.heap.size) (hsz : szP p) (hml : ∀ t ∈ p, t.2.length ≤ 1000000) :
    Calls Try.prog 32 #[v] w fun e w' => ∃ v', e = .returned v' ∧ Terms (New w w') w' v' (ofP p) ∧ Ext w w' := by
  obtain ⟨i0, hi, hz0, hz1, hz2⟩ := info_parts Try.infoPower
  obtain ⟨j0, hj, jz0, jz1, jz2⟩ := info_parts Try.infoTerm
  have hl := h.len_le
  have H := hid h
  have HSZ := hid hsz
  have HML := hid hml
  obtain ⟨a, cap, rfl⟩ := h.form
  clear h hsz hml
  go_enter Try.func32, Try.ntmps32
  go_wp2
  go_loopw [3, 4] (fun o i wr => ∃ k xs, k ≤ p.length ∧ i = .int .i64 (k : Nat) ∧ Ext w wr ∧ Hid (wr.ownsRow w.heap.size 72 3 o k xs) ∧ Hid (CellsT (NewOff w wr o) wr xs (ofP (p.take k)))) (fun _ i _ => p.length - (intOf i).toNat)
  case atStart => exact ⟨0, [], Nat.zero_le _, rfl, Ext.refl _, hid (World.ownsRow_nil _ _ _ _), hid rfl⟩
  case round =>
    obtain ⟨k, xs, hk, rfl, hx, HW, HXS⟩ := hrel
    have HX := hid hx
    by_cases hlt : k < p.length
    · obtain ⟨t, ht⟩ := some_of_lt hlt
      obtain ⟨b, off, vd, vo, rfl, -, hn1, hm1, hSb, h1, h2, h3, h4, h5⟩ := H.out.cellAt ht
      have HT := hid (ofP_at ht)
      have HTM := hid (HML.out t (List.mem_of_getElem? ht))
      have HTZ := hid (HSZ.out.2 t (List.mem_of_getElem? ht))
      have H4 := hid h4
      have H5 := hid h5
      have HIB := hid h5.inBounds
      obtain ⟨ad, cd, rfl⟩ := h4.form
      obtain ⟨ao, co, rfl⟩ := h5.form
      have x0 : Ext w wr.drew := hx.drew
      have HX0 := hid x0
      have HXR := hid ((Ext.refl wr).drew)
      have h0 : _ ∧ _ ∧ _ := And.intro h1 (And.intro h2 h3)
      have c1 := fun (W : World) (hW : Ext wr.drew W) => zed_int (S := S) _ t.1 W (show ZV S W (.agg #[.bool (decide (t.1 < 0)), .slice ad (rep 10 t.1.natAbs).length cd]) t.1 from ⟨_, rfl, H4.out.ext (HX0.out.trans hW) hS⟩) (lt_ext hS (HX0.out.trans hW)) HTZ.out
      obtain ⟨bt, hbt⟩ : ∃ b, b = decide (t.1 < 0) := ⟨_, rfl⟩
      obtain ⟨nt, hnt⟩ : ∃ n, n = (rep 10 t.1.natAbs).length := ⟨_, rfl⟩
      obtain ⟨nm, hnm⟩ : ∃ n, n = t.2.length := ⟨_, rfl⟩
      have HNM := hid hnm
      rw [← hbt, ← hnt, ← hnm] at h0
      rw [← hbt, ← hnt] at c1
      rw [← hnm] at H5
      have HC0 := hid h0
      have S0 : _ ∧ _ ∧ _ := And.intro (x0.cell h0.1) (And.intro (x0.cell h0.2.1) (x0.cell h0.2.2))
      have C1 := hid c1
      have HB1 : Hid (0 + nm ≤ maxLen) := hid (by have := HTM.out; rw [← hnm] at this; unfold maxLen; omega)
      have HB2 : Hid ((0 + nm) * 16 ≤ 140737488355328) := hid (by have := HTM.out; rw [← hnm] at this; omega)
      have HB3 : Hid (k + 1 ≤ maxLen) := hid (by have := HSZ.out.1; unfold maxLen; omega)
      have HB4 : Hid ((k + 1) * 56 ≤ 140737488355328) := hid (by have := HSZ.out.1; omega)
      have HM0 : Hid (0 ≤ maxLen) := hid (Nat.zero_le _)
      have HWR := hid (own_ext HW.out HXR.out)
      have HXSR := hid (newOff_ext HXS.out HXR.out)
      clear ht h0 h1 h2 h3 h4 h5 hx x0 c1 hbt hnt hnm
      go_wp2
      go_region_held3 (fun W => W.cell? ⟨b, off + k * 3, none⟩ = some (.bool bt) ∧ W.cell? ⟨b, off + k * 3 + 1, none⟩ = some (.slice ad nt cd) ∧ W.cell? ⟨b, off + k * 3 + 2, none⟩ = some (.slice ao nm co)) (first | exact S0 | exact ⟨cell_old _ S0.1, cell_old _ S0.2.1, cell_old _ S0.2.2⟩ | exact S1 | exact ⟨cell_old _ S1.1, cell_old _ S1.2.1, cell_old _ S1.2.2⟩ | exact S3 | exact ⟨cell_old _ S3.1, cell_old _ S3.2.1, cell_old _ S3.2.2⟩ | exact S5)
        (first
          | (go_at_call 69; refine (C1.out _ ?_).mono ?_; · exact Ext.refl _
             rintro e w1 ⟨v1, rfl, hz1, hx1⟩; have HX1 := hid hx1; have HXW1 : Hid (Ext w w1) := hid (HX0.out.trans hx1); have S1 : _ ∧ _ ∧ _ := And.intro (HXW1.out.cell HC0.out.1) (And.intro (HXW1.out.cell HC0.out.2.1) (HXW1.out.cell HC0.out.2.2))
             obtain ⟨vm, rfl, hu1⟩ := hz1; have HU1 := hid hu1; obtain ⟨am, cm, rfl⟩ := hu1.form; obtain ⟨ng, hng⟩ : ∃ b, b = (ofI t.1).neg := ⟨_, rfl⟩; obtain ⟨nl, hnl⟩ : ∃ b, b = (ofI t.1).mag.length := ⟨_, rfl⟩; rw [← hng, ← hnl]; rw [← hnl] at HU1; have HNG := hid hng; have HNL := hid hnl
             have HOA := hid (World.ownsRow_made (base := w1.heap.size) (e := 82) (size := 2) w1 #[] 0 (Nat.le_refl _) HM0.out rfl); have HSRC1 := hid ((Pows.ext' H5.out (HXW1.out.alloc (.cells #[] 82)) hS).src.2); have HBS := hid (World.grownBy_alloc w1 (.cells #[] 82) none).size; clear hx1 hu1 hng hnl)
          | (go_at_call 69; refine (C1.out _ ?_).mono ?_; · exact Ext.alloc (Ext.refl _) _
             rintro e w1 ⟨v1, rfl, hz1, hx1⟩; have HX1 : Hid (Ext (wr.drew.alloc (.cells #[] 82)) w1) := hid hx1; have HXR1 := hid ((Ext.alloc (Ext.refl wr.drew) (.cells #[] 82)).trans hx1); have HXW1 : Hid (Ext w w1) := hid (HX0.out.trans HXR1.out); have S1 : _ ∧ _ ∧ _ := And.intro (HXW1.out.cell HC0.out.1) (And.intro (HXW1.out.cell HC0.out.2.1) (HXW1.out.cell HC0.out.2.2))
             obtain ⟨vm, rfl, hu1⟩ := hz1; have HU1 : Hid (U32s (New (wr.drew.alloc (.cells #[] 82)) w1) w1 vm (ofI t.1).mag) := hid hu1; obtain ⟨am, cm, rfl⟩ := hu1.form; obtain ⟨ng, hng⟩ : ∃ b, b = (ofI t.1).neg := ⟨_, rfl⟩; obtain ⟨nl, hnl⟩ : ∃ b, b = (ofI t.1).mag.length := ⟨_, rfl⟩; rw [← hng, ← hnl]; rw [← hnl] at HU1; have HNG := hid hng; have HNL := hid hnl
             have HOB := hid (own_ext (World.ownsRow_made (base := wr.heap.size) (e := 82) (size := 2) wr.drew #[] 0 (Nat.le_refl _) HM0.out rfl) hx1); have HSRC1 := hid ((Pows.ext' H5.out HXW1.out hS).src.2); have HBS := hid HXR1.out.size; clear hx1 hu1 hng hnl)
          | (refine step_append_src rfl (.tmp 18) (.tmp 23) 70 rfl w1.heap.size 82 i0 (.agg #[.int .i64 0, .int .i64 0]) 2 16 Try.underlying70 hi hz0 hz1 hz2 rfl (Nat.succ_pos _) (.slice (some ⟨w1.heap.size, 0, none⟩) 0 0) 0 [] rfl HOA.out ao nm co (flatP t.2) rfl HSRC1.out HB1.out HB2.out HBS.out ?_; intro v3 w3 hown hg _; obtain ⟨a3, c3, rfl, hp3⟩ := copy_done hown HNM.out HIB.out; have hx3 := copy_ext hg; have HXR3 : Hid (Ext wr.drew w3) := hid (HX1.out.trans hx3); have HP3 : Hid (Pows (New wr.drew w3) w3 (.slice a3 nm c3) t.2) := hid (hp3.to (Kept.refl _ _) (fun k h => ⟨Nat.le_trans HX1.out.size h.1, h.2⟩)); have HU3 : Hid (U32s (New wr.drew w3) w3 (.slice am nl cm) (ofI t.1).mag) := hid (HU1.out.to (Kept.ext hx3 (fun _ h => h.2)) (fun k h => ⟨h.1, Nat.lt_of_lt_of_le h.2 hx3.size⟩)); clear hx3 hown hg hp3; have HXW3 : Hid (Ext w w3) := hid (HX0.out.trans HXR3.out); have S3 : _ ∧ _ ∧ _ := And.intro (HXW3.out.cell HC0.out.1) (And.intro (HXW3.out.cell HC0.out.2.1) (HXW3.out.cell HC0.out.2.2)); have HW3 := hid (own_ext (own_ext HWR.out HXR3.out) (Ext.alloc (Ext.refl w3) (.cells #[.bool ng, .slice am nl cm, .slice a3 nm c3] 72))); have HXS3 := hid (newOff_ext HXSR.out HXR3.out); have HSRC3 := hid (src_one w3 #[.bool ng, .slice am nl cm, .slice a3 nm c3] 72 (three_cell rfl rfl rfl) rfl); have HB5 := hid (Nat.le_trans HXW3.out.size (World.grownBy_alloc w3 (.cells #[.bool ng, .slice am nl cm, .slice a3 nm c3] 72) none).size))
          | (refine step_append_src rfl (.tmp 18) (.tmp 23) 70 rfl wr.heap.size 82 i0 (.agg #[.int .i64 0, .int .i64 0]) 2 16 Try.underlying70 hi hz0 hz1 hz2 rfl (Nat.succ_pos _) (.slice (some ⟨wr.heap.size, 0, none⟩) 0 0) 0 [] rfl HOB.out ao nm co (flatP t.2) rfl HSRC1.out HB1.out HB2.out HBS.out ?_; intro v3 w3 hown hg _; obtain ⟨a3, c3, rfl, hp3⟩ := copy_done (w1 := wr.drew) hown HNM.out HIB.out; have HXR3 : Hid (Ext wr.drew w3) := hid (copy_late HXR1.out hg); have HP3 : Hid (Pows (New wr.drew w3) w3 (.slice a3 nm c3) t.2) := hid hp3; have HU3 : Hid (U32s (New wr.drew w3) w3 (.slice am nl cm) (ofI t.1).mag) := hid (late_u32s HU1.out hg); clear HXR1 hown hg hp3; have HXW3 : Hid (Ext w w3) := hid (HX0.out.trans HXR3.out); have S3 : _ ∧ _ ∧ _ := And.intro (HXW3.out.cell HC0.out.1) (And.intro (HXW3.out.cell HC0.out.2.1) (HXW3.out.cell HC0.out.2.2)); have HW3 := hid (own_ext (own_ext HWR.out HXR3.out) (Ext.alloc (Ext.refl w3) (.cells #[.bool ng, .slice am nl cm, .slice a3 nm c3] 72))); have HXS3 := hid (newOff_ext HXSR.out HXR3.out); have HSRC3 := hid (src_one w3 #[.bool ng, .slice am nl cm, .slice a3 nm c3] 72 (three_cell rfl rfl rfl) rfl); have HB5 := hid (Nat.le_trans HXW3.out.size (World.grownBy_alloc w3 (.cells #[.bool ng, .slice am nl cm, .slice a3 nm c3] 72) none).size))
          | (refine step_append_src rfl (.tmp 11) (.tmp 26) 23 rfl w.heap.size 72 j0 (.agg #[.bool false, .slice none 0 0, .slice none 0 0]) 3 56 Try.underlying23 hj jz0 jz1 jz2 rfl (Nat.succ_pos _) _ k xs rfl HW3.out (some ⟨w3.heap.size, 0, none⟩) 1 1 _ rfl HSRC3.out HB3.out HB4.out HB5.out ?_; intro v5 w5 hown hg hbk; have HW5 := hid hown; have HG5 := hid hg; have HBK := hid hbk; have HX5 := hid (own_grown0 (HXW3.out.alloc (.cells #[.bool ng, .slice am nl cm, .slice a3 nm c3] 72)) HW3.out hg); have S5 : _ ∧ _ ∧ _ := And.intro (HX5.out.cell HC0.out.1) (And.intro (HX5.out.cell HC0.out.2.1) (HX5.out.cell HC0.out.2.2)); clear hown hg hbk))
      all_goals
        go_wp2
        go_roundw
        case rel =>
          refine ⟨k + 1, xs ++ (#[.bool ng, .slice am nl cm, .slice a3 nm c3] : Array Value).toList, by omega, by go_num, HX5.out, HW5, hid ?_⟩
          rw [HT.out]
          have hone : CellsT (New wr.drew w3) w3 (#[.bool ng, .slice am nl cm, .slice a3 nm c3] : Array Value).toList [⟨ofI t.1, t.2⟩] := by
            rw [HNG.out]
            exact CellsT.single (t := ⟨ofI t.1, t.2⟩) HU3.out HP3.out
          have hall := HXS3.out.append (newOff_of HX0.out.size HWR.out hone)
          exact newOff_grown (newOff_ext hall (Ext.alloc (Ext.refl w3) (.cells #[.bool ng, .slice am nl cm, .slice a3 nm c3] 72))) HG5.out HBK.out (Nat.le_refl _)
        case measure => simp only [intOf]; omega
    · obtain rfl : k = p.length := by omega
      have HE : Hid (p.take p.length = p) := hid List.take_length
      clear hx
      go_wp2
      go_ret
      refine ⟨_, rfl, ?_, HX.out⟩
      have hc := HXS.out
      rw [HE.out] at hc
      exact own_terms (by rw [ofP_length]; exact HW.out) (hc.to (Kept.refl _ _) (fun _ h => h.1)) (fun k h1 h2 => ⟨h1, h2⟩)
end Go.Proofs.Ythplgldclilccaa

namespace Go.Proofs.Ythplgldclilccaa
open Go.RowKit

section
variable {P : Program}
theorem run_append_copy (w : World) (t ty e : TypeId) (i : TypeInfo) (z : Value) (size bytes : Nat) (ht : P.underlying t = some (.slice e)) (hi : P.info? e = some i) (hz : i.zero = some z)
    (hsize : i.size = size) (hby : i.bytes = bytes) (hzs : z.cells.size = size) (hsz : 0 < size) (g : Addr)
    (A : Option Addr) (m c : Nat) (news : List Value) (hsrc : SrcAt w A m size news) (h63 : m ≤ maxLen) (hbytes : m * bytes ≤ 140737488355328) :
    ∃ v' w', (Builtin.append_ #[t, t] ty #[.slice (some g) 0 0, .slice A m c]).run P w = .ok v' w' ∧ Ext w w' ∧ (m = 0 ∧ v' = .slice (some g) 0 0 ∨ w'.ownsRow w.heap.size e size v' m news) := by
  subst hsize
  subst hby
  obtain ⟨hl, h1, hat⟩ := hsrc
  by_cases hm : m = 0
  · subst hm
    have hn : news = [] := List.eq_nil_of_length_eq_zero (by simpa using hl)
    subst hn
    refine ⟨.slice (some g) 0 0, w, ?_, Ext.refl _, .inl ⟨rfl, rfl⟩⟩
    cases A <;> simp [Builtin.append_, run_underlying ht, sizeOf, typeInfo, hi, Builtin.lenOf, Builtin.firstCells, loadCells, loadCellsFrom, storeCells]
  · obtain ⟨ad, rfl, hc⟩ := hat (by omega)
    have hb := hbytes
    have hr := run_append_grow (P := P) w t ty e i z ht hi hz g 0 0 [] (by simp) (fun j u hu => by simp at hu) ad m c news hl (fun j u hu => hc j u hu) (by omega) (by unfold maxLen at h63; omega) (growslice_fits (by omega) (by simpa using hbytes))
    have hge := grownCap_ge w (0 + m) 0 e
    have hcm : grownCap w (0 + m) 0 e ≤ maxLen := grownCap_le_maxLen w (0 + m) 0 e (by simpa using h63)
    simp only [Nat.zero_add] at hr hge hcm
    refine ⟨_, _, hr, (Ext.refl w).drew.alloc _, .inr ⟨hl, .inr ⟨w.heap.size, _, _, rfl, Nat.le_refl _, heap_alloc_new w.drew _, hge, hcm, ?_, ?_⟩⟩⟩
    · simp only [Array.size_append, List.size_toArray, List.length_nil, Nat.zero_add, size_zeroCells, hzs, hl, ← Nat.add_mul]
      congr 1
      omega
    · simp only [Array.toList_append, List.nil_append]
      rw [← hl]
      exact List.take_left

theorem step_append_copy {w : World} {ops : Array Oper} {o : Oper} {a : Act} {K : Act → World → Prop} {Q : Exit → Act → World → Prop} {E : Prop} (hgd : o.guard = none) (s x : Operand) (t : TypeId)
    (ho : o.op = .call { callee := .builtin .append, args := #[s, x], argTypes := #[t, t] })
    (e : TypeId) (i : TypeInfo) (z : Value) (size bytes : Nat) (ht : P.underlying t = some (.slice e)) (hi : P.info? e = some i) (hz : i.zero = some z)
    (hsize : i.size = size) (hby : i.bytes = bytes) (hzs : z.cells.size = size) (hsz : 0 < size)
    (g : Addr) (hs : a.eval s = .slice (some g) 0 0)
    (A : Option Addr) (m c : Nat) (news : List Value) (hx : a.eval x = .slice A m c) (hsrc : SrcAt w A m size news)
    (h63 : m ≤ maxLen) (hbytes : m * bytes ≤ 140737488355328)
    (h : ∀ v' w', Ext w w' → (m = 0 ∧ v' = .slice (some g) 0 0 ∨ w'.ownsRow w.heap.size e size v' m news) → K (a.put o.dst v') w') :
    if Region.wanted o (yielded ops a.tmps) = true then Oper.wp P o a w K Q else E := by
  have hw : Region.wanted o (yielded ops a.tmps) = true := by simp [Region.wanted, hgd]
  rw [if_pos hw]
  obtain ⟨v', w', hrun, h2, h3⟩ := run_append_copy (P := P) w t o.type e i z size bytes ht hi hz hsize hby hzs hsz g A m c news hsrc h63 hbytes
  unfold Oper.wp execOp
  simp only [ho, resolve, invoke, builtin, Sem.run_bind, Sem.run_pure, Result.andThen_ok, List.map_toArray, List.map_cons, List.map_nil, hs, hx, hrun]
  exact h v' w' h2 h3
end

theorem U32s.src0 {S : Nat → Prop} {w : World} {zs : List Nat} {a : Option Addr} {n cap : Nat} (h : U32s S w (.slice a n cap) zs) : n = zs.length ∧ SrcAt w a n 1 (zs.map uval) := by
  have h' := h
  obtain ⟨a', c', e⟩ := h.form
  obtain ⟨rfl, rfl, rfl⟩ : a = a' ∧ n = zs.length ∧ cap = c' := by simpa using e
  refine ⟨rfl, ⟨by simp, fun u hu => ?_, fun h0 => h'.src (by simpa using h0)⟩⟩
  obtain ⟨x, -, rfl⟩ := List.mem_map.1 hu
  rfl
/-- a copy of limbs, just made -/
theorem copied_u32 {w w' : World} {v : Value} {n : Nat} {zs : List Nat} {e : TypeId} {g : Addr} (h : n = 0 ∧ v = .slice (some g) 0 0 ∨ w'.ownsRow w.heap.size e 1 v n (zs.map uval)) (hn : n = zs.length) (hb : ∀ z ∈ zs, z < B32) : ∃ a c, v = .slice a n c ∧ U32s (New w w') w' v zs := by
  subst hn
  rcases h with ⟨h0, rfl⟩ | h
  · obtain rfl := List.length_eq_zero_iff.1 h0
    exact ⟨_, _, rfl, U32s.nilv _ _ _ _ (by omega)⟩
  · have hp := own_u32s h hb
    obtain ⟨a, c, rfl⟩ := hp.form
    exact ⟨a, c, rfl, hp⟩
/-- a copy of a monomial, just made -/
theorem copied_pows {w w' : World} {v : Value} {n : Nat} {m : Mono} {e : TypeId} {g : Addr} (h : n = 0 ∧ v = .slice (some g) 0 0 ∨ w'.ownsRow w.heap.size e 2 v n (flatP m)) (hn : n = m.length) (hb : inBounds m) : ∃ a c, v = .slice a n c ∧ Pows (New w w') w' v m := by
  subst hn
  rcases h with ⟨h0, rfl⟩ | h
  · obtain rfl := List.length_eq_zero_iff.1 h0
    exact ⟨_, _, rfl, Pows.empty _ _ _⟩
  · have hp := own_pows h hb
    obtain ⟨a, c, rfl⟩ := hp.form
    exact ⟨a, c, rfl, hp⟩
end Go.Proofs.Ythplgldclilccaa

namespace Go.Proofs.Ythplgldclilccaa

section
variable {α : Type} {le : α → α → Bool}

/-- a total preorder -/
structure TotalLe (le : α → α → Bool) : Prop where
  trans : ∀ a b c, le a b = true → le b c = true → le a c = true
  total : ∀ a b, le a b = true ∨ le b a = true

theorem TotalLe.not {x y : α} (h : TotalLe le) (hn : le x y = false) : le y x = true := by
  rcases h.total x y with h | h
  · rw [hn] at h; cases h
  · exact h
theorem TotalLe.not_of (h : TotalLe le) {x y z : α} (h1 : le x y = false) (h2 : le x z = true) : le z y = false := by
  cases h3 : le z y with
  | false => rfl
  | true =>
    have := h.trans _ _ _ h2 h3
    rw [h1] at this; cases this
theorem TotalLe.not_of' (h : TotalLe le) {x y z : α} (h1 : le x y = false) (h2 : le z y = true) : le x z = false := by
  cases h3 : le x z with
  | false => rfl
  | true =>
    have := h.trans _ _ _ h3 h2
    rw [h1] at this; cases this

abbrev mergeL (le : α → α → Bool) (xs ys : List α) : List α := List.merge xs ys le

theorem mergeL_nil (ys : List α) : mergeL le [] ys = ys := List.nil_merge ys
theorem mergeL_right (xs : List α) : mergeL le xs [] = xs := List.merge_right xs
theorem mergeL_pos {x y : α} (xs ys : List α) (h : le x y = true) : mergeL le (x :: xs) (y :: ys) = x :: mergeL le xs (y :: ys) := List.cons_merge_cons_pos le xs ys h
theorem mergeL_neg {x y : α} (xs ys : List α) (h : le x y = false) : mergeL le (x :: xs) (y :: ys) = y :: mergeL le (x :: xs) ys := by
  unfold mergeL
  rw [List.cons_merge_cons, if_neg (by rw [h]; exact Bool.false_ne_true)]

theorem mergeL_perm (xs ys : List α) : (mergeL le xs ys).Perm (xs ++ ys) := List.merge_perm_append le
theorem mergeL_len (xs ys : List α) : (mergeL le xs ys).length = xs.length + ys.length := by rw [(mergeL_perm xs ys).length_eq, List.length_append]

def SortedL (le : α → α → Bool) (l : List α) : Prop := l.Pairwise (fun a b => le a b = true)

theorem mergeL_sorted (h : TotalLe le) {xs ys : List α} (hx : SortedL le xs) (hy : SortedL le ys) : SortedL le (mergeL le xs ys) :=
  List.pairwise_merge (fun a b c => h.trans a b c) (fun a b => by rcases h.total a b with h | h <;> simp [h]) _ _ hx hy

/-- parts that lie apart are merged each by itself -/
theorem mergeL_split (A1 A2 B1 B2 : List α) (h1 : ∀ x ∈ A1, ∀ y ∈ B2, le x y = true) (h2 : ∀ y ∈ B1, ∀ x ∈ A2, le x y = false) :
    mergeL le (A1 ++ A2) (B1 ++ B2) = mergeL le A1 B1 ++ mergeL le A2 B2 := by
  induction A1 generalizing B1 with
  | nil =>
    rw [mergeL_nil]
    induction B1 with
    | nil => rfl
    | cons b B1 ih =>
      cases A2 with
      | nil => simp
      | cons x A2 =>
        have := ih (fun y hy => h2 y (by simp [hy]))
        simp only [List.nil_append, List.cons_append] at this ⊢
        rw [mergeL_neg _ _ (h2 b (by simp) x (by simp)), this]
  | cons a A1 ihA =>
    induction B1 with
    | nil =>
      rw [mergeL_right]
      cases B2 with
      | nil => simp
      | cons y B2 =>
        have := ihA [] (fun x hx => h1 x (by simp [hx])) (fun y hy => by simp at hy)
        rw [mergeL_right] at this
        simp only [List.nil_append, List.cons_append] at this ⊢
        rw [mergeL_pos _ _ (h1 a (by simp) y (by simp)), this]
    | cons b B1 ihB =>
      cases hab : le a b with
      | true =>
        have := ihA (b :: B1) (fun x hx => h1 x (by simp [hx])) h2
        simp only [List.cons_append] at this ⊢
        rw [mergeL_pos _ _ hab, mergeL_pos _ _ hab, this]
        rfl
      | false =>
        have := ihB (fun y hy => h2 y (by simp [hy]))
        simp only [List.cons_append] at this ⊢
        rw [mergeL_neg _ _ hab, mergeL_neg _ _ hab, this]
        rfl

theorem mergeL_assoc (h : TotalLe le) (A B C : List α) : mergeL le (mergeL le A B) C = mergeL le A (mergeL le B C) := by
  generalize hn : A.length + B.length + C.length = n
  induction n using Nat.strongRecOn generalizing A B C with
  | ind n ih =>
    cases A with
    | nil => rw [mergeL_nil, mergeL_nil]
    | cons a A =>
      cases B with
      | nil => rw [mergeL_nil, mergeL_right]
      | cons b B =>
        cases C with
        | nil => rw [mergeL_right, mergeL_right]
        | cons c C =>
          simp only [List.length_cons] at hn
          cases hab : le a b with
          | true =>
            rw [mergeL_pos _ _ hab]
            cases hac : le a c with
            | true =>
              rw [mergeL_pos _ _ hac, ih _ (by simp only [List.length_cons]; omega) A (b :: B) (c :: C) rfl]
              cases hbc : le b c with
              | true => rw [mergeL_pos _ _ hbc, mergeL_pos _ _ hab]
              | false => rw [mergeL_neg _ _ hbc, mergeL_pos _ _ hac]
            | false =>
              have hbc : le b c = false := h.not_of hac hab
              rw [mergeL_neg _ _ hac, mergeL_neg _ _ hbc, mergeL_neg _ _ hac, ← mergeL_pos _ _ hab, ih _ (by simp only [List.length_cons]; omega) (a :: A) (b :: B) C rfl]
          | false =>
            rw [mergeL_neg _ _ hab]
            cases hbc : le b c with
            | true => rw [mergeL_pos _ _ hbc, mergeL_pos _ _ hbc, mergeL_neg _ _ hab, ih _ (by simp only [List.length_cons]; omega) (a :: A) B (c :: C) rfl]
            | false =>
              have hac : le a c = false := by
                cases h3 : le a c with
                | false => rfl
                | true =>
                  have := h.trans _ _ _ (h.not hab) h3
                  rw [hbc] at this; cases this
              rw [mergeL_neg _ _ hbc, mergeL_neg _ _ hbc, mergeL_neg _ _ hac, ← mergeL_neg _ _ hab, ih _ (by simp only [List.length_cons]; omega) (a :: A) (b :: B) C rfl]

/-- the stable sort -/
def sortL (le : α → α → Bool) : List α → List α
  | [] => []
  | x :: xs => mergeL le [x] (sortL le xs)
theorem sortL_append (h : TotalLe le) (A B : List α) : sortL le (A ++ B) = mergeL le (sortL le A) (sortL le B) := by
  induction A with
  | nil => exact (mergeL_nil _).symm
  | cons a A ih =>
    show mergeL le [a] (sortL le (A ++ B)) = mergeL le (mergeL le [a] (sortL le A)) (sortL le B)
    rw [ih, mergeL_assoc h]
theorem sortL_one (x : α) : sortL le [x] = [x] := mergeL_right [x]
theorem sortL_perm (l : List α) : (sortL le l).Perm l := by
  induction l with
  | nil => exact List.Perm.refl _
  | cons x l ih => exact (mergeL_perm [x] _).trans (ih.cons x)
theorem sortL_len (l : List α) : (sortL le l).length = l.length := (sortL_perm l).length_eq
theorem sortL_sorted (h : TotalLe le) (l : List α) : SortedL le (sortL le l) := by
  induction l with
  | nil => exact List.Pairwise.nil
  | cons x l ih => exact mergeL_sorted h (List.pairwise_singleton _ _) ih
theorem sortL_of_sorted {l : List α} (hs : SortedL le l) : sortL le l = l := by
  induction l with
  | nil => rfl
  | cons x l ih =>
    obtain ⟨h1, h2⟩ := List.pairwise_cons.1 hs
    show mergeL le [x] (sortL le l) = _
    rw [ih h2]
    cases l with
    | nil => exact mergeL_right _
    | cons y l => rw [mergeL_pos _ _ (h1 y (by simp)), mergeL_nil]

/-- an element put behind those that are not above it -/
theorem mergeL_put {S1 S2 : List α} {x : α} (h1 : ∀ y ∈ S1, le y x = true) (h2 : ∀ y ∈ S2, le y x = false) : mergeL le (S1 ++ S2) [x] = S1 ++ x :: S2 := by
  have e := mergeL_split (le := le) S1 S2 [x] [] (fun _ _ y hy => by simp at hy) (fun y hy z hz => by rw [List.mem_singleton.1 hy]; exact h2 z hz)
  rw [List.append_nil, mergeL_right] at e
  rw [e]
  have e2 := mergeL_split (le := le) S1 [] [] [x] (fun y hy z hz => by rw [List.mem_singleton.1 hz]; exact h1 y hy) (fun y hy => by simp at hy)
  rw [List.append_nil, List.nil_append, mergeL_nil, mergeL_right] at e2
  rw [e2]
  simp
/-- an element put ahead of those that are not below it -/
theorem mergeL_put' {S1 S2 : List α} {x : α} (h1 : ∀ y ∈ S1, le x y = false) (h2 : ∀ y ∈ S2, le x y = true) : mergeL le [x] (S1 ++ S2) = S1 ++ x :: S2 := by
  have e := mergeL_split (le := le) [] [x] S1 S2 (fun y hy => by simp at hy) (fun y hy z hz => by rw [List.mem_singleton.1 hz]; exact h1 y hy)
  rw [List.nil_append, mergeL_nil] at e
  rw [e]
  have e2 := mergeL_split (le := le) [x] [] [] S2 (fun y hy z hz => by rw [List.mem_singleton.1 hy]; exact h2 z hz) (fun y hy => by simp at hy)
  rw [List.append_nil, List.nil_append, mergeL_nil, mergeL_right] at e2
  rw [e2]
  rfl
/-- all ahead of a place are not above what is there -/
theorem SortedL.last {A : List α} {x y : α} (h : TotalLe le) (hs : SortedL le (A ++ [x])) (hxy : le x y = true) : ∀ z ∈ A ++ [x], le z y = true := by
  intro z hz
  obtain ⟨_, _, h3⟩ := List.pairwise_append.1 hs
  rcases List.mem_append.1 hz with hz | hz
  · exact h.trans _ _ _ (h3 z hz x (by simp)) hxy
  · rw [List.mem_singleton.1 hz]; exact hxy
end
end Go.Proofs.Ythplgldclilccaa

namespace Go.Proofs.Ythplgldclilccaa
open Go.RowKit Go.Sort

theorem grown_ext {w W W' : World} {row : Option Nat} (h : w.grownBy W row) (hx : Ext W W') : w.grownBy W' row :=
  ⟨hx.os.trans h.os, hx.tape.trans h.tape, hx.output.trans h.output, Nat.le_trans h.size hx.size, fun i hi hne => (hx.block i (Nat.lt_of_lt_of_le hi h.size)).trans (h.block i hi hne)⟩
theorem grown_refl (w : World) (row : Option Nat) : w.grownBy w row := ⟨rfl, rfl, rfl, Nat.le_refl _, fun _ _ _ => rfl⟩
theorem grown_trans {a b c : World} {row : Option Nat} (h : a.grownBy b row) (k : b.grownBy c row) : a.grownBy c row :=
  ⟨k.os.trans h.os, k.tape.trans h.tape, k.output.trans h.output, Nat.le_trans h.size k.size, fun i hi hne => (k.block i (Nat.lt_of_lt_of_le hi h.size) hne).trans (h.block i hi hne)⟩
theorem grown_set {w W : World} {b o : Nat} (h : w.grownBy W (some b)) (u : Value) : w.grownBy (W.setCell ⟨b, o, none⟩ u) (some b) :=
  ⟨h.os, h.tape, h.output, by rw [size_setCell]; exact h.size, fun i hi hne => (Below.heap_setCell _ _ _ _ (fun e => hne (by rw [e]))).trans (h.block i hi hne)⟩
theorem grown_sets {w : World} {b : Nat} (vs : List Value) : ∀ (o : Nat) (W : World), w.grownBy W (some b) → w.grownBy (W.setCells b o vs) (some b) := by
  induction vs with
  | nil => exact fun _ _ h => h
  | cons v r ih => exact fun o W h => ih (o + 1) _ (grown_set h v)
theorem grown_drew {w W : World} {row : Option Nat} (h : w.grownBy W row) : w.grownBy W.drew row := ⟨h.os, h.tape, h.output, h.size, h.block⟩

theorem at_len {α : Type} (A B : List α) (x : α) : (A ++ x :: B)[A.length]? = some x := by simp
theorem arr_at {α : Type} [Inhabited α] {l : List α} {i : Nat} {x : α} (h : l[i]? = some x) : l.toArray[i]! = x := by simp [h]
theorem swp_up {α : Type} [Inhabited α] (A M B : List α) (x y : α) : swp (A ++ x :: M ++ y :: B).toArray A.length (A.length + 1 + M.length) = (A ++ y :: M ++ x :: B).toArray := by
  have e0 : (A ++ x :: M ++ y :: B)[A.length]? = some x := by simp
  have e1 : (A ++ x :: M ++ y :: B)[A.length + 1 + M.length]? = some y := by
    rw [List.getElem?_append_right (by simp; omega)]
    simp [show A.length + 1 + M.length - (A.length + (M.length + 1)) = 0 by omega]
  unfold swp
  rw [arr_at e0, arr_at e1]
  rw [List.setIfInBounds_toArray, List.setIfInBounds_toArray]
  congr 1
  rw [show (A ++ x :: M ++ y :: B).set A.length y = A ++ y :: M ++ y :: B by rw [List.append_assoc, List.set_append_right _ _ (Nat.le_refl _)]; simp]
  rw [List.set_append_right _ _ (by simp; omega)]
  simp [show A.length + 1 + M.length - (A.length + (M.length + 1)) = 0 by omega]
theorem swp_down {α : Type} [Inhabited α] (A M B : List α) (x y : α) : swp (A ++ x :: M ++ y :: B).toArray (A.length + 1 + M.length) A.length = (A ++ y :: M ++ x :: B).toArray := by
  have e0 : (A ++ x :: M ++ y :: B)[A.length]? = some x := by simp
  have e1 : (A ++ x :: M ++ y :: B)[A.length + 1 + M.length]? = some y := by
    rw [List.getElem?_append_right (by simp; omega)]
    simp [show A.length + 1 + M.length - (A.length + (M.length + 1)) = 0 by omega]
  unfold swp
  rw [arr_at e0, arr_at e1]
  rw [List.setIfInBounds_toArray, List.setIfInBounds_toArray]
  congr 1
  rw [show (A ++ x :: M ++ y :: B).set (A.length + 1 + M.length) x = A ++ x :: M ++ x :: B by
    rw [List.set_append_right _ _ (by simp; omega)]
    simp [show A.length + 1 + M.length - (A.length + (M.length + 1)) = 0 by omega]]
  rw [List.append_assoc, List.set_append_right _ _ (Nat.le_refl _)]
  simp
section
variable {α : Type} [Inhabited α] {enc : α → List Value} {k : Nat}

/-- a world of a sort: the row holds these, all else is as it was -/
structure SortAt (enc : α → List Value) (k : Nat) (w : World) (b o : Nat) (d : List α) (W : World) : Prop where
  grown : w.grownBy W (some b)
  holds : HoldsK enc k W b o d.toArray
  old : b < w.heap.size

variable {w W W' : World} {b o : Nat} {d : List α}
theorem SortAt.later (h : SortAt enc k w b o d W) (hx : Ext W W') : SortAt enc k w b o d W' :=
  ⟨grown_ext h.grown hx, fun j hj => by
    have hb : b < W.heap.size := Nat.lt_of_lt_of_le h.old h.grown.size
    have := h.holds j hj
    exact ⟨(World.cell?_of_block (w := W) (hx.block b hb)).trans this.1, (World.frozen?_of_block (w := W) (hx.block b hb)).trans this.2⟩, h.old⟩
theorem SortAt.drew (h : SortAt enc k w b o d W) : SortAt enc k w b o d W.drew := h.later (Ext.refl W).drew
theorem SortAt.swap (h : SortAt enc k w b o d W) (hk : ∀ x, (enc x).length = k) {d' : List α} {i j : Nat} (hi : i < d.length) (hj : j < d.length) (hd : swp d.toArray i j = d'.toArray) :
    SortAt enc k w b o d' ((W.setCells b (o + i * k) (enc d.toArray[j]!)).setCells b (o + j * k) (enc d.toArray[i]!)) := by
  refine ⟨grown_sets _ _ _ (grown_sets _ _ _ h.grown), ?_, h.old⟩
  have e := putRowK_swp enc k hk W b o d.toArray i j (by simpa using hi) (by simpa using hj)
  rw [putRowK_self enc k W b o d.toArray h.holds, hd] at e
  rw [e]
  exact holdsK_putRowK enc k W b o d.toArray _ h.holds (by rw [← hd]; simp [size_swp])
theorem SortAt.cell (h : SortAt enc k w b o d W) {i c : Nat} {x : α} (hi : d[i]? = some x) (hc : c < k) :
    W.cell? ⟨b, o + i * k + c, none⟩ = some (enc x)[c]! ∧ W.frozen? ⟨b, o + i * k + c, none⟩ = false := by
  have hl := lt_of_some hi
  have := HoldsK.cell h.holds (i := i) (c := c) (by simpa using hl) hc
  rw [arr_at hi] at this
  exact this
end

/-- the three cells of a term -/
structure TCell where
  neg : Bool
  ma : Option Addr
  mn : Nat
  mc : Nat
  oa : Option Addr
  on : Nat
  oc : Nat
abbrev encT {α : Type} (tc : α → TCell) (x : α) : List Value := [.bool (tc x).neg, (.slice (tc x).ma (tc x).mn (tc x).mc), (.slice (tc x).oa (tc x).on (tc x).oc)]
section
variable {α : Type} [Inhabited α] {tc : α → TCell} {w W : World} {b o : Nat} {d : List α}
theorem SortAt.get3 (h : SortAt (encT tc) 3 w b o d W) {i : Nat} {x : α} (hi : d[i]? = some x) :
    (W.cell? ⟨b, o + i * 3, none⟩ = some (.bool (tc x).neg) ∧ W.cell? ⟨b, o + i * 3 + 1, none⟩ = some (.slice (tc x).ma (tc x).mn (tc x).mc) ∧ W.cell? ⟨b, o + i * 3 + 2, none⟩ = some (.slice (tc x).oa (tc x).on (tc x).oc)) ∧
    W.frozen? ⟨b, o + i * 3, none⟩ = false ∧ W.frozen? ⟨b, o + i * 3 + 1, none⟩ = false ∧ W.frozen? ⟨b, o + i * 3 + 2, none⟩ = false := by
  have c0 := h.cell hi (c := 0) (by omega)
  have c1 := h.cell hi (c := 1) (by omega)
  have c2 := h.cell hi (c := 2) (by omega)
  exact ⟨⟨c0.1, c1.1, c2.1⟩, c0.2, c1.2, c2.2⟩
theorem SortAt.swap3 (h : SortAt (encT tc) 3 w b o d W) {d' : List α} {i j : Nat} {x y : α} (hi : d[i]? = some x) (hj : d[j]? = some y) (hd : swp d.toArray i j = d'.toArray) :
    SortAt (encT tc) 3 w b o d' ((((((W.setCell ⟨b, o + i * 3, none⟩ (.bool (tc y).neg)).setCell ⟨b, o + i * 3 + 1, none⟩ (.slice (tc y).ma (tc y).mn (tc y).mc)).setCell ⟨b, o + i * 3 + 2, none⟩ (.slice (tc y).oa (tc y).on (tc y).oc)).setCell
      ⟨b, o + j * 3, none⟩ (.bool (tc x).neg)).setCell ⟨b, o + j * 3 + 1, none⟩ (.slice (tc x).ma (tc x).mn (tc x).mc)).setCell ⟨b, o + j * 3 + 2, none⟩ (.slice (tc x).oa (tc x).on (tc x).oc)) := by
  have := h.swap (fun _ => rfl) (lt_of_some hi) (lt_of_some hj) hd
  rw [arr_at hi, arr_at hj] at this
  exact this
end

/-- the one cell of a polynomial -/
structure PCell where
  a : Option Addr
  n : Nat
  c : Nat
abbrev encP {α : Type} (pc : α → PCell) (x : α) : List Value := [.slice (pc x).a (pc x).n (pc x).c]
section
variable {α : Type} [Inhabited α] {pc : α → PCell} {w W : World} {b o : Nat} {d : List α}
theorem SortAt.get1 (h : SortAt (encP pc) 1 w b o d W) {i : Nat} {x : α} (hi : d[i]? = some x) :
    W.cell? ⟨b, o + i, none⟩ = some (.slice (pc x).a (pc x).n (pc x).c) ∧ W.frozen? ⟨b, o + i, none⟩ = false := by
  have c0 := h.cell hi (c := 0) (by omega)
  rw [Nat.mul_one, Nat.add_zero] at c0
  exact c0
theorem SortAt.swap1 (h : SortAt (encP pc) 1 w b o d W) {d' : List α} {i j : Nat} {x y : α} (hi : d[i]? = some x) (hj : d[j]? = some y) (hd : swp d.toArray i j = d'.toArray) :
    SortAt (encP pc) 1 w b o d' ((W.setCell ⟨b, o + i, none⟩ (.slice (pc y).a (pc y).n (pc y).c)).setCell ⟨b, o + j, none⟩ (.slice (pc x).a (pc x).n (pc x).c)) := by
  have := h.swap (fun _ => rfl) (lt_of_some hi) (lt_of_some hj) hd
  rw [arr_at hi, arr_at hj, Nat.mul_one, Nat.mul_one] at this
  exact this
end
end Go.Proofs.Ythplgldclilccaa

namespace Go.Proofs.Ythplgldclilccaa
open Go.RowKit Go.Sort

section
variable {α : Type} [Inhabited α] {tc : α → TCell} {w : World} {b o : Nat} {cf : α → α → Int} {le : α → α → Bool}

abbrev CmpT (g : Nat) (tc : α → TCell) (cf : α → α → Int) (w : World) (b : Nat) : Prop :=
  ∀ W, w.grownBy W (some b) → ∀ x y : α, Calls Try.prog g #[.agg #[.bool (tc x).neg, .slice (tc x).ma (tc x).mn (tc x).mc, .slice (tc x).oa (tc x).on (tc x).oc], .agg #[.bool (tc y).neg, .slice (tc y).ma (tc y).mn (tc y).mc, .slice (tc y).oa (tc y).on (tc y).oc]] W fun e w' => e = .returned (.int .i64 (cf x y)) ∧ Ext W w'
structure CmpLe (cf : α → α → Int) (le : α → α → Bool) : Prop where
  range : ∀ x y, -1 ≤ cf x y ∧ cf x y ≤ 1
  eq : ∀ x y, le y x = decide (0 ≤ cf x y)
  total : TotalLe le

set_option maxRecDepth 100000 in
set_option maxHeartbeats 4000000 in
theorem insertion_t (cap : Nat) (P X T : List α) (W : World) (hc : CmpT 109 tc cf w b) (hl : CmpLe cf le) (h : SortAt (encT tc) 3 w b o (P ++ X ++ T) W) (_hcap : (P ++ X ++ T).length ≤ cap) (hcap2 : (P ++ X ++ T).length ≤ 1000000000000) :
    Calls Try.prog 135 #[.slice (some ⟨b, o, none⟩) (P ++ X ++ T).length cap, .int .i64 P.length, .int .i64 (P.length + X.length : Nat), .func (.func 109) #[] #[]] W
      fun e w' => e = .returned (.tuple #[]) ∧ SortAt (encT tc) 3 w b o (P ++ sortL le X ++ T) w' := by
  have H := hid h
  have HC := hid hc
  have HL := hid hl
  clear h hc hl
  obtain ⟨n, hn⟩ : ∃ n, n = (P ++ X ++ T).length := ⟨_, rfl⟩
  obtain ⟨m, hm⟩ : ∃ m, m = P.length + X.length := ⟨_, rfl⟩
  obtain ⟨a, ha⟩ : ∃ a, a = P.length := ⟨_, rfl⟩
  rw [← hn] at _hcap hcap2 ⊢
  rw [← hm, ← ha]
  have hmn : m ≤ n := by rw [hm, hn]; simp
  have ham : a ≤ m := by rw [ha, hm]; simp
  have HN := hid hn
  have HA := hid ha
  have HM := hid hm
  clear hn ha hm
  cases X with
  | nil =>
    obtain rfl : m = a := by rw [HM.out, HA.out]; simp
    go_enter Try.func135, Try.ntmps135
    go_wp2
    refine wp_loop_rounds 1 ?_
    rw [rounds_succ]
    go_wp2
    go_end0
    exact ⟨rfl, H.out⟩
  | cons x0 X =>
    have ham : a < m := by rw [HA.out, HM.out]; simp
    go_enter Try.func135, Try.ntmps135
    go_wp2
    go_loopw [8] (fun vi wr => ∃ (i : Nat) (X1 X2 : List α), vi = .int .i64 i ∧ a < i ∧ i ≤ m ∧ Hid (i = a + X1.length) ∧ Hid (x0 :: X = X1 ++ X2) ∧ SortAt (encT tc) 3 w b o (P ++ sortL le X1 ++ X2 ++ T) wr) (fun vi _ => m - (intOf vi).toNat)
    case atStart => exact ⟨a + 1, [x0], X, by go_num, by omega, by omega, rfl, rfl, by rw [sortL_one]; simpa using H.out⟩
    case round =>
      obtain ⟨i, X1, X2, rfl, hai, him, HI, HX, hs⟩ := hrel
      have HS := hid hs
      clear hs
      by_cases hlt : i < m
      · cases X2 with
        | nil =>
          exfalso
          have h1 := HI.out
          have h2 := congrArg List.length HX.out
          have h3 := HM.out
          have h4 := HA.out
          simp at h2 h3
          omega
        | cons x X2 =>
          go_wp2
          go_loopw [9] (fun vj wr2 => ∃ (j : Nat) (S1 S2 : List α), vj = .int .i64 j ∧ a ≤ j ∧ j ≤ i ∧ Hid (j = a + S1.length) ∧ Hid (sortL le X1 = S1 ++ S2) ∧ Hid (∀ y ∈ S2, le y x = false) ∧ SortAt (encT tc) 3 w b o (P ++ S1 ++ x :: S2 ++ X2 ++ T) wr2) (fun vj _ => (intOf vj).toNat)
          case atStart => exact ⟨i, sortL le X1, [], rfl, by omega, Nat.le_refl _, by rw [HI.out, sortL_len]; rfl, by show _ = _; simp, fun y hy => by simp at hy, by simpa using HS.out⟩
          case round =>
            obtain ⟨j, S1, S2, rfl, haj, hji, HJ, HSS, HS2, hs2⟩ := hrel
            rcases (show S1 = [] ∨ ∃ L z, S1 = L ++ [z] by simpa using List.eq_nil_or_concat S1) with rfl | ⟨S1', y, rfl⟩
            · obtain rfl : j = a := by rw [HJ.out]; rfl
              have hb : decide ((j : Int) > (j : Int)) = false := by simp
              have HD := hid hs2
              clear hs2
              go_wp2
              refine wp_region_later (by kernel_rfl) (by kernel_rfl) ?_
              repeat (go_big_quiet_step (fail))
              refine wpQuiet_nil ?_
              intro W2 hW2
              have HD2 := hid (HD.out.later hW2)
              clear hW2
              go_wp2
              go_roundw
              case rel =>
                refine ⟨i + 1, X1 ++ [x], X2, by go_num, by omega, by omega, ?_, ?_, ?_⟩
                · show _ = _; have := HI.out; simp; omega
                · show _ = _; rw [HX.out]; simp
                · have e := mergeL_put (le := le) (S1 := []) (S2 := S2) (x := x) (by simp) HS2.out
                  rw [sortL_append HL.out.total, sortL_one, HSS.out, e]
                  have := HD2.out
                  simpa using this
              case measure => simp [intOf]; omega
            · obtain ⟨jp, rfl⟩ : ∃ jp, j = jp + 1 := ⟨j - 1, by have := HJ.out; simp at this; omega⟩
              have hj : jp = (P ++ S1').length := by have := HJ.out; have := HA.out; simp at *; omega
              have hjn : jp + 1 < n := by omega
              have g0 : (P ++ (S1' ++ [y]) ++ x :: S2 ++ X2 ++ T)[jp]? = some y := by rw [hj]; simp
              have g1 : (P ++ (S1' ++ [y]) ++ x :: S2 ++ X2 ++ T)[jp + 1]? = some x := by
                rw [show jp + 1 = (P ++ S1' ++ [y]).length by simp [hj, Nat.add_assoc], show P ++ (S1' ++ [y]) ++ x :: S2 ++ X2 ++ T = (P ++ S1' ++ [y]) ++ (x :: (S2 ++ X2 ++ T)) by simp]
                exact at_len _ _ _
              have HD := hid hs2
              have HG := hid (And.intro g0 g1)
              have HJP := hid hj
              have L0 := fun Y : Later wr => (hs2.later Y.h).get3 g0
              have L1 := fun Y : Later wr => (hs2.later Y.h).get3 g1
              have LC := fun Y : Later wr => HC.out Y.w' (hs2.later Y.h).grown x y
              have a0 := fun Y => (L0 Y).1.1
              have a1 := fun Y => (L0 Y).1.2.1
              have a2 := fun Y => (L0 Y).1.2.2
              have b0 := fun Y => (L1 Y).1.1
              have b1 := fun Y => (L1 Y).1.2.1
              have b2 := fun Y => (L1 Y).1.2.2
              obtain ⟨r1, r2⟩ := HL.out.range x y
              have HLE := hid (HL.out.eq x y)
              generalize cf x y = c at *
              have HLC := hid LC
              clear L0 L1 LC hs2 g0 g1 hj
              by_cases hcc : c < 0
              · have hle : le y x = false := by rw [HLE.out]; exact decide_eq_false (by omega)
                have HLF := hid hle
                clear hle
                have q1 : (a : Int) < (jp : Int) + 1 := by have := HJ.out; simp at this; omega
                have q2 : (jp : Int) + 1 < (n : Int) := by omega
                have q3 : (jp : Int) < (n : Int) := by omega
                have q4 : (0 : Int) ≤ (jp : Int) + 1 := by omega
                have q5 : ((jp : Int) + 1).toNat = jp + 1 := by omega
                have q6 : IntKind.i64.wrap (jp : Int) = (jp : Int) := by rw [IntKind.wrap_i64]; omega
                go_wp2
                refine wp_region_later (by kernel_rfl) (by kernel_rfl) ?_
                repeat (go_big_quiet_step (first | (go_at_call 109; exact Later.done (HLC.out _))))
                refine wpQuiet_nil ?_
                intro W2 hW2
                clear a0 a1 a2 b0 b1 b2
                have HD2 := hid (HD.out.later hW2)
                clear hW2
                obtain ⟨⟨c0, c1, c2⟩, f0, f1, f2⟩ := HD2.out.get3 HG.out.1
                obtain ⟨⟨d0, d1, d2⟩, k0, k1, k2⟩ := HD2.out.get3 HG.out.2
                have HD3 := hid (HD2.out.swap3 HG.out.2 HG.out.1 (d' := P ++ S1' ++ x :: (y :: S2) ++ X2 ++ T) (by
                  have e := swp_down (P ++ S1') [] (S2 ++ X2 ++ T) y x
                  simp only [List.append_assoc, List.cons_append, List.nil_append, List.length_nil, Nat.add_zero] at e ⊢
                  rw [HJP.out]
                  exact e))
                go_wp2
                go_big_region
                all_goals go_wp2
                go_roundw
                case rel =>
                  refine ⟨jp, S1', y :: S2, rfl, ?_, by omega, ?_, ?_, ?_, ?_⟩
                  · have := HJ.out; simp at this; omega
                  · have := HJ.out; simp at this; show _ = _; omega
                  · show _ = _; rw [HSS.out]; simp
                  · intro z hz
                    rcases List.mem_cons.1 hz with rfl | hz
                    · exact HLF.out
                    · exact HS2.out z hz
                  · exact HD3.out.drew
                case measure => simp [intOf]
              · have hle : le y x = true := by rw [HLE.out]; exact decide_eq_true (by omega)
                have HLT := hid hle
                clear hle
                have q1 : (a : Int) < (jp : Int) + 1 := by have := HJ.out; simp at this; omega
                have q2 : (jp : Int) + 1 < (n : Int) := by omega
                have q3 : (jp : Int) < (n : Int) := by omega
                have q4 : (0 : Int) ≤ (jp : Int) + 1 := by omega
                have q5 : ((jp : Int) + 1).toNat = jp + 1 := by omega
                have q6 : IntKind.i64.wrap (jp : Int) = (jp : Int) := by rw [IntKind.wrap_i64]; omega
                have q7 : ¬ c < 0 := hcc
                go_wp2
                refine wp_region_later (by kernel_rfl) (by kernel_rfl) ?_
                repeat (go_big_quiet_step (first | (go_at_call 109; exact Later.done (HLC.out _))))
                refine wpQuiet_nil ?_
                intro W2 hW2
                clear a0 a1 a2 b0 b1 b2
                have HD2 := hid (HD.out.later hW2)
                clear hW2
                go_wp2
                go_roundw
                case rel =>
                  refine ⟨i + 1, X1 ++ [x], X2, by go_num, by omega, by omega, ?_, ?_, ?_⟩
                  · show _ = _; have := HI.out; simp; omega
                  · show _ = _; rw [HX.out]; simp
                  · have e := mergeL_put (le := le) (S1 := S1' ++ [y]) (S2 := S2) (x := x) (by
                      refine SortedL.last HL.out.total ?_ HLT.out
                      have := sortL_sorted HL.out.total X1
                      rw [HSS.out] at this
                      exact (List.pairwise_append.1 this).1) HS2.out
                    rw [sortL_append HL.out.total, sortL_one, HSS.out, e]
                    have := HD2.out
                    simpa using this
                case measure => simp [intOf]; omega
      · obtain rfl : i = m := by omega
        have hX2 : X2 = [] := by
          have h1 := HI.out
          have h2 := congrArg List.length HX.out
          have h3 := HM.out
          have h4 := HA.out
          simp at h2 h3
          exact List.length_eq_zero_iff.1 (by omega)
        subst hX2
        have HF : Hid (SortAt (encT tc) 3 w b o (P ++ sortL le (x0 :: X) ++ T) wr) := by
          have h1 := HS.out
          have h2 := HX.out
          rw [List.append_nil] at h2
          rw [h2]
          exact hid (by simpa using h1)
        go_wp2
        go_end0
        exact ⟨rfl, HF.out⟩
end
end Go.Proofs.Ythplgldclilccaa
