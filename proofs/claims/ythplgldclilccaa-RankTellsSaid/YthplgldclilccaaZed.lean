/- The document's whole numbers: a sign and digits. -/
import Derived.Test.YthplgldclilccaaDig5
import Derived.Test.YthplgldclilccaaRank
namespace Go.Proofs.Ythplgldclilccaa
open Go.RowKit

def ZV (S : Nat → Prop) (w : World) (v : Value) (z : Int) : Prop := ∃ vd, v = .agg #[.bool (decide (z < 0)), vd] ∧ Digs S w vd (rep 10 z.natAbs)
theorem ZV.to {S S' : Nat → Prop} {w w' : World} {v : Value} {z : Int} (h : ZV S w v z) (hk : Kept S w w') (hS : ∀ k, S k → S' k) : ZV S' w' v z := by
  obtain ⟨vd, h1, h2⟩ := h
  exact ⟨vd, h1, h2.to hk hS⟩
theorem ZV.ext {S : Nat → Prop} {w W : World} {v : Value} {z : Int} (h : ZV S w v z) (hx : Ext w W) (hS : ∀ k, S k → k < w.heap.size) : ZV S W v z := h.to (Kept.ext hx hS) (fun _ h => h)
theorem ZV.form {S : Nat → Prop} {w : World} {v : Value} {z : Int} (h : ZV S w v z) : ∃ a n c, v = .agg #[.bool (decide (z < 0)), .slice a n c] := by
  obtain ⟨vd, h1, h2⟩ := h
  obtain ⟨a, c, rfl⟩ := h2.form
  exact ⟨a, _, c, h1⟩
theorem sg_neg (b : Bool) (n : Nat) : decide (sg b n < 0) = (b && decide (0 < n)) := by
  unfold sg
  cases b <;> simp <;> omega
theorem sg_abs (b : Bool) (n : Nat) : (sg b n).natAbs = n := by
  unfold sg
  cases b <;> simp
theorem rep10_pos (n : Nat) : decide (0 < (rep 10 n).length) = decide (0 < n) := by
  rw [decide_eq_decide, List.length_pos_iff, Ne, rep_eq_nil two_le_10]
  omega
theorem zv_mk {S : Nat → Prop} {w : World} {vd : Value} {b : Bool} {n : Nat} (h : Digs S w vd (rep 10 n)) : ZV S w (.agg #[.bool (b && decide (0 < n)), vd]) (sg b n) :=
  ⟨vd, by rw [sg_neg], by rw [sg_abs]; exact h⟩
theorem valI_sg (x : RInt) : valI x = sg x.neg (val B32 x.mag) := rfl

theorem ret_zed {w0 w1 w2 : World} {b : Nat} {v : Value} {z : Int} (hv : ZV (New w1 w2) w2 v z) (h01 : Ext w0 w1) (h12 : Ext w1 w2) (hb0 : w0.heap.size ≤ b) (hb1 : b < w1.heap.size) (x y : Value) :
    ZV (New w0 ((w2.setCell ⟨b, 0, none⟩ x).setCell ⟨b, 1, none⟩ y)) ((w2.setCell ⟨b, 0, none⟩ x).setCell ⟨b, 1, none⟩ y) v z ∧ Ext w0 ((w2.setCell ⟨b, 0, none⟩ x).setCell ⟨b, 1, none⟩ y) := by
  refine ⟨hv.to (Kept.set2 (fun h => ?_) _ _) (fun k hk => ⟨Nat.le_trans h01.size hk.1, ?_⟩), (h01.trans h12).set2 hb0 _ _⟩
  · have := h.1
    omega
  · rw [size_set2]
    exact hk.2
theorem new2' {w W : World} {u0 v0 : Value} {T0 : TypeId} {u v : Value} {T : TypeId} (h : Ext ((w.alloc (.cells #[u0, v0] T0)).alloc (.cells #[u, v] T)) W) :
    W.cell? ⟨w.heap.size + 1, 0, none⟩ = some u ∧ W.cell? ⟨w.heap.size + 1, 1, none⟩ = some v ∧ W.frozen? ⟨w.heap.size + 1, 0, none⟩ = false ∧ W.frozen? ⟨w.heap.size + 1, 1, none⟩ = false := by
  have := new2 h
  rw [size_alloc] at this
  exact this
theorem old2 {w W : World} {u0 v0 : Value} {T0 : TypeId} {o : Obj} (h : Ext ((w.alloc (.cells #[u0, v0] T0)).alloc o) W) : W.cell? ⟨w.heap.size, 0, none⟩ = some u0 ∧ W.cell? ⟨w.heap.size, 1, none⟩ = some v0 :=
  ⟨(new2 ((Ext.alloc (Ext.refl _) o).trans h)).1, (new2 ((Ext.alloc (Ext.refl _) o).trans h)).2.1⟩

def szZ (z : Int) : Prop := (rep 10 z.natAbs).length ≤ 2000000

set_option maxRecDepth 100000 in
set_option maxHeartbeats 4000000 in
theorem zed_of {S : Nat → Prop} (v : Value) (x : RInt) (w : World) (h : IntV S w v x) (hS : ∀ k, S k → k < w.heap.size) (hr : x.mag.length ≤ 100000) :
    Calls Try.prog 74 #[v] w fun e w' => ∃ v', e = .returned v' ∧ ZV (New w w') w' v' (valI x) ∧ Ext w w' := by
  obtain ⟨ng, zs⟩ := x
  obtain ⟨vm, rfl, hu⟩ := h
  simp only at hu hr ⊢
  have HU := hid hu
  obtain ⟨a, c, rfl⟩ := hu.form
  clear hu
  have HK := hid (Ext.alloc (Ext.alloc (Ext.refl w) (.cells #[.bool ng, .slice a zs.length c] 68)) (.cells #[.bool false, .slice none 0 0] 100))
  have HSZ : Hid (w.heap.size + 1 < ((w.alloc (.cells #[.bool ng, .slice a zs.length c] 68)).alloc (.cells #[.bool false, .slice none 0 0] 100)).heap.size) := hid (by simp)
  have hc := dig_of _ zs _ (HU.out.ext HK.out hS) (lt_ext hS HK.out) hr
  obtain ⟨n, hn⟩ : ∃ n, n = val B32 zs := ⟨_, rfl⟩
  rw [← hn] at hc
  have HC := hid hc
  have er : valI ⟨ng, zs⟩ = sg ng n := by rw [valI_sg, hn]
  rw [er]
  clear hc hn er
  go_enter Try.func74, Try.ntmps74
  go_wp2_with fail
  refine HC.out.mono ?_
  rintro e w1 ⟨v1, rfl, hd, hx⟩
  have HX := hid hx
  obtain ⟨c0, c1⟩ := old2 hx
  obtain ⟨r0, r1, f0, f1⟩ := new2' hx
  have HE := hid (And.intro r0 r1)
  have HD := hid hd
  obtain ⟨a1, n1, rfl⟩ := hd.form
  clear hx hd
  have hlen := rep10_pos n
  have hz := zv_mk (b := ng) HD.out
  by_cases h0 : 0 < n
  · have hp : 0 < (rep 10 n).length := by simpa [h0] using hlen
    rw [show (ng && decide (0 < n)) = ng by simp [h0]] at hz
    have HZ := hid hz
    clear hlen hz
    cases ng
    all_goals
      go_wp2
      have hd := fun x y => two_set x y HE.out.1 HE.out.2
      refine bodyPost_ret (by simp [results, Try.results74, go_sem, (hd _ _).1, (hd _ _).2]; rfl) rfl ?_
      have hg := fun x y => ret_zed (w0 := w) (b := w.heap.size + 1) HZ.out HK.out HX.out (by omega) HSZ.out x y
      exact ⟨_, rfl, (hg _ _).1, (hg _ _).2⟩
  · obtain rfl : n = 0 := by omega
    rw [show (ng && decide (0 < 0)) = false by simp] at hz
    have HZ := hid hz
    have hp : (rep 10 0).length = 0 := rfl
    clear hlen hz
    cases ng
    all_goals
      go_wp2
      have hd := fun x y => two_set x y HE.out.1 HE.out.2
      refine bodyPost_ret (by simp [results, Try.results74, go_sem, (hd _ _).1, (hd _ _).2]; rfl) rfl ?_
      have hg := fun x y => ret_zed (w0 := w) (b := w.heap.size + 1) HZ.out HK.out HX.out (by omega) HSZ.out x y
      exact ⟨_, rfl, (hg _ _).1, (hg _ _).2⟩
end Go.Proofs.Ythplgldclilccaa
