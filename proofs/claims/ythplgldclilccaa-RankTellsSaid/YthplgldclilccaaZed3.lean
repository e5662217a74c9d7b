/- The document's whole numbers: small ones, products, sums. -/
import Derived.Test.YthplgldclilccaaZed2
namespace Go.Proofs.Ythplgldclilccaa
open Go.RowKit

set_option maxRecDepth 100000 in
set_option maxHeartbeats 4000000 in
theorem zed_small (n : Nat) (w : World) (hn : n < 9223372036854775808) :
    Calls Try.prog 67 #[.int .i64 (n : Nat)] w fun e w' => ∃ v', e = .returned v' ∧ ZV (New w w') w' v' (n : Int) ∧ Ext w w' := by
  have HK := hid (Ext.alloc (Ext.refl w) (.cells #[.bool false, .slice none 0 0] 100))
  have HSZ : Hid (w.heap.size < (w.alloc (.cells #[.bool false, .slice none 0 0] 100)).heap.size) := hid (by simp)
  have HC := hid (dig_small n (w.alloc (.cells #[.bool false, .slice none 0 0] 100)) (by omega))
  go_enter Try.func67, Try.ntmps67
  go_wp2_with fail
  refine HC.out.mono ?_
  rintro e w1 ⟨v1, rfl, hd, hx⟩
  obtain ⟨r0, r1, f0, f1⟩ := new2 hx
  have HE := hid (And.intro r0 r1)
  have HX := hid hx
  have HD := hid hd
  obtain ⟨a1, n1, rfl⟩ := hd.form
  clear hd hx
  go_wp2
  have hd := fun x y => two_set x y HE.out.1 HE.out.2
  refine bodyPost_ret (by simp [results, Try.results67, go_sem, (hd _ _).1, (hd _ _).2]; rfl) rfl ?_
  have hz := zv_mk (b := false) HD.out
  have hg := fun x y => ret_zed (w0 := w) (b := w.heap.size) hz HK.out HX.out (Nat.le_refl _) HSZ.out x y
  exact ⟨_, rfl, (hg _ _).1, (hg _ _).2⟩

/-- signs of a product -/
theorem mul_sg (x y : Int) : x * y = sg (decide (x < 0) != decide (y < 0)) (x.natAbs * y.natAbs) := by
  unfold sg
  rcases Int.lt_or_le x 0 with hx | hx <;> rcases Int.lt_or_le y 0 with hy | hy
  · have e : (decide (x < 0) != decide (y < 0)) = false := by simp [hx, hy]
    rw [e]
    simp only [Bool.false_eq_true, if_false, Int.natCast_mul]
    rw [Int.ofNat_natAbs_of_nonpos (by omega), Int.ofNat_natAbs_of_nonpos (by omega), Int.neg_mul_neg]
  · have e : (decide (x < 0) != decide (y < 0)) = true := by simp [hx, Int.not_lt.2 hy]
    rw [e]
    simp only [if_true, Int.natCast_mul]
    rw [Int.ofNat_natAbs_of_nonpos (by omega), Int.natAbs_of_nonneg hy, Int.neg_mul, Int.neg_neg]
  · have e : (decide (x < 0) != decide (y < 0)) = true := by simp [hy, Int.not_lt.2 hx]
    rw [e]
    simp only [if_true, Int.natCast_mul]
    rw [Int.natAbs_of_nonneg hx, Int.ofNat_natAbs_of_nonpos (by omega), Int.mul_neg, Int.neg_neg]
  · have e : (decide (x < 0) != decide (y < 0)) = false := by simp [Int.not_lt.2 hx, Int.not_lt.2 hy]
    rw [e]
    simp only [Bool.false_eq_true, if_false, Int.natCast_mul]
    rw [Int.natAbs_of_nonneg hx, Int.natAbs_of_nonneg hy]
theorem old4 {w W : World} {u0 v0 u1 v1 : Value} {T0 T1 : TypeId} {o : Obj} (h : Ext (((w.alloc (.cells #[u0, v0] T0)).alloc (.cells #[u1, v1] T1)).alloc o) W) :
    W.cell? ⟨w.heap.size, 0, none⟩ = some u0 ∧ W.cell? ⟨w.heap.size, 1, none⟩ = some v0 ∧ W.cell? ⟨w.heap.size + 1, 0, none⟩ = some u1 ∧ W.cell? ⟨w.heap.size + 1, 1, none⟩ = some v1 := by
  have e1 := (Ext.alloc (Ext.refl _) o).trans h
  exact ⟨(old2 e1).1, (old2 e1).2, (new2' e1).1, (new2' e1).2.1⟩
theorem new3' {w W : World} {u0 v0 u1 v1 u v : Value} {T0 T1 T : TypeId} (h : Ext (((w.alloc (.cells #[u0, v0] T0)).alloc (.cells #[u1, v1] T1)).alloc (.cells #[u, v] T)) W) :
    W.cell? ⟨w.heap.size + 1 + 1, 0, none⟩ = some u ∧ W.cell? ⟨w.heap.size + 1 + 1, 1, none⟩ = some v ∧ W.frozen? ⟨w.heap.size + 1 + 1, 0, none⟩ = false ∧ W.frozen? ⟨w.heap.size + 1 + 1, 1, none⟩ = false := by
  have := new2 h
  rw [size_alloc, size_alloc] at this
  exact this

set_option maxRecDepth 100000 in
set_option maxHeartbeats 4000000 in
theorem zed_mul {S : Nat → Prop} (vx vy : Value) (x y : Int) (w : World) (hx : ZV S w vx x) (hy : ZV S w vy y) (hS : ∀ k, S k → k < w.heap.size) (hrx : szZ x) (hry : szZ y) :
    Calls Try.prog 101 #[vx, vy] w fun e w' => ∃ v', e = .returned v' ∧ ZV (New w w') w' v' (x * y) ∧ Ext w w' := by
  obtain ⟨vdx, rfl, hdx⟩ := hx
  obtain ⟨vdy, rfl, hdy⟩ := hy
  have HX := hid hdx
  have HY := hid hdy
  obtain ⟨ax, cx, rfl⟩ := hdx.form
  obtain ⟨ay, cy, rfl⟩ := hdy.form
  rw [mul_sg x y]
  obtain ⟨n, hn⟩ : ∃ n, n = x.natAbs * y.natAbs := ⟨_, rfl⟩
  rw [← hn]
  obtain ⟨bx, hbx⟩ : ∃ b, b = decide (x < 0) := ⟨_, rfl⟩
  obtain ⟨bz, hbz⟩ : ∃ b, b = decide (y < 0) := ⟨_, rfl⟩
  obtain ⟨nx, hnx⟩ : ∃ n, n = (rep 10 x.natAbs).length := ⟨_, rfl⟩
  obtain ⟨ny, hny⟩ : ∃ n, n = (rep 10 y.natAbs).length := ⟨_, rfl⟩
  rw [← hbx, ← hbz, ← hnx, ← hny]
  have HK := hid (Ext.alloc (Ext.alloc (Ext.alloc (Ext.refl w) (.cells #[.bool bx, .slice ax nx cx] 100)) (.cells #[.bool bz, .slice ay ny cy] 100)) (.cells #[.bool false, .slice none 0 0] 100))
  have hc := dig_mul _ _ (rep 10 x.natAbs) (rep 10 y.natAbs) _ (HX.out.ext HK.out hS) (HY.out.ext HK.out hS) (lt_ext hS HK.out) (Nat.le_trans hrx (by decide)) (Nat.le_trans hry (by decide))
  rw [val_rep two_le_10, val_rep two_le_10, ← hn, ← hnx, ← hny] at hc
  have HC := hid hc
  have HSZ : Hid (w.heap.size + 1 + 1 < (((w.alloc (.cells #[.bool bx, .slice ax nx cx] 100)).alloc (.cells #[.bool bz, .slice ay ny cy] 100)).alloc (.cells #[.bool false, .slice none 0 0] 100)).heap.size) := hid (by simp)
  have l1 := hdx.len_le
  have l2 := hdy.len_le
  rw [← hnx] at l1
  rw [← hny] at l2
  clear hdx hdy hn hbx hbz hnx hny hc hrx hry HX HY
  obtain ⟨q0, q1, q2, q3⟩ := old4 (Ext.refl (((w.alloc (.cells #[.bool bx, .slice ax nx cx] 100)).alloc (.cells #[.bool bz, .slice ay ny cy] 100)).alloc (.cells #[.bool false, .slice none 0 0] 100)))
  go_enter Try.func101, Try.ntmps101
  go_wp2_with fail
  refine HC.out.mono ?_
  rintro e w1 ⟨v1, rfl, hd, hxx⟩
  obtain ⟨p0, p1, p2, p3⟩ := old4 hxx
  obtain ⟨r0, r1, f0, f1⟩ := new3' hxx
  have HE := hid (And.intro r0 r1)
  have HXX := hid hxx
  have HD := hid hd
  obtain ⟨a1, n1, rfl⟩ := hd.form
  have hlen := rep10_pos n
  have hz := zv_mk (b := (bx != bz)) HD.out
  clear hd hxx q0 q1 q2 q3
  by_cases h0 : 0 < n
  · have hp : 0 < (rep 10 n).length := by simpa [h0] using hlen
    rw [show ((bx != bz) && decide (0 < n)) = (bx != bz) by simp [h0]] at hz
    have HZ := hid hz
    clear hlen hz
    cases bx <;> cases bz
    all_goals
      go_wp2
      have hd := fun x y => two_set x y HE.out.1 HE.out.2
      refine bodyPost_ret (by simp [results, Try.results101, go_sem, (hd _ _).1, (hd _ _).2]; rfl) rfl ?_
      have hg := fun x y => ret_zed (w0 := w) (b := w.heap.size + 1 + 1) HZ.out HK.out HXX.out (by omega) HSZ.out x y
      exact ⟨_, rfl, (hg _ _).1, (hg _ _).2⟩
  · obtain rfl : n = 0 := by omega
    rw [show ((bx != bz) && decide (0 < 0)) = false by simp] at hz
    have HZ := hid hz
    have hp : (rep 10 0).length = 0 := rfl
    clear hlen hz
    cases bx <;> cases bz
    all_goals
      go_wp2
      have hd := fun x y => two_set x y HE.out.1 HE.out.2
      refine bodyPost_ret (by simp [results, Try.results101, go_sem, (hd _ _).1, (hd _ _).2]; rfl) rfl ?_
      have hg := fun x y => ret_zed (w0 := w) (b := w.heap.size + 1 + 1) HZ.out HK.out HXX.out (by omega) HSZ.out x y
      exact ⟨_, rfl, (hg _ _).1, (hg _ _).2⟩
end Go.Proofs.Ythplgldclilccaa
