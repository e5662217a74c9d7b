/- The sum of two whole numbers. -/
import Derived.Test.YthplgldclilccaaWhole
namespace Go.Proofs.Ythplgldclilccaa
open Go.RowKit

theorem U32s.ext {S : Nat → Prop} {w W : World} {v : Value} {zs : List Nat} (h : U32s S w v zs) (hx : Ext w W) (hS : ∀ k, S k → k < w.heap.size) : U32s S W v zs := h.to (Kept.ext hx hS) (fun _ h => h)
theorem lt_ext {S : Nat → Prop} {w W : World} (hS : ∀ k, S k → k < w.heap.size) (hx : Ext w W) : ∀ k, S k → k < W.heap.size := fun k hk => Nat.lt_of_lt_of_le (hS k hk) hx.size
theorem New.lt {w w' : World} : ∀ k, New w w' k → k < w'.heap.size := fun _ h => h.2
theorem New.mono {a w w' : World} (h : Ext a w) : ∀ k, New w w' k → New a w' k := fun _ hk => ⟨Nat.le_trans h.size hk.1, hk.2⟩

theorem blk3 {w W : World} {c1 c2 c3 : Array Value} {T1 T2 T3 : TypeId} (h : Ext (((w.alloc (.cells c1 T1)).alloc (.cells c2 T2)).alloc (.cells c3 T3)) W) :
    (∀ i v, c1[i]? = some v → W.cell? ⟨w.heap.size, i, none⟩ = some v) ∧ (∀ i v, c2[i]? = some v → W.cell? ⟨w.heap.size + 1, i, none⟩ = some v) ∧ (∀ i v, c3[i]? = some v → W.cell? ⟨w.heap.size + 1 + 1, i, none⟩ = some v) ∧ ∀ i, W.frozen? ⟨w.heap.size + 1 + 1, i, none⟩ = false := by
  have e2 : Ext ((w.alloc (.cells c1 T1)).alloc (.cells c2 T2)) W := (Ext.alloc (Ext.refl _) _).trans h
  have e1 : Ext (w.alloc (.cells c1 T1)) W := (Ext.alloc (Ext.refl _) _).trans e2
  refine ⟨fun i v hv => e1.new_cell hv, fun i v hv => ?_, fun i v hv => ?_, fun i => ?_⟩
  · have := e2.new_cell hv
    rwa [size_alloc] at this
  · have := h.new_cell hv
    rwa [size_alloc, size_alloc] at this
  · have := h.new_free i
    rwa [size_alloc, size_alloc] at this

theorem Ext.drew {a w : World} (h : Ext a w) : Ext a w.drew := ⟨h.os, h.tape, h.output, h.size, h.block⟩
theorem drew3 {W : World} {a b c : Addr} {x y z : Value} (h1 : W.cell? a = some x) (h2 : W.cell? b = some y) (h3 : W.cell? c = some z) : W.drew.cell? a = some x ∧ W.drew.cell? b = some y ∧ W.drew.cell? c = some z :=
  ⟨by simpa using h1, by simpa using h2, by simpa using h3⟩
theorem ret_int3 {w0 w1 w2 : World} {b : Nat} {v : Value} {r : RInt} {vm : Value} (hv : v = .agg #[.bool r.neg, vm]) (hu : U32s (New w1 w2) w2 vm r.mag) (h01 : Ext w0 w1) (h12 : Ext w1 w2) (hb0 : w0.heap.size ≤ b) (hb1 : b < w1.heap.size) (x y : Value) :
    IntV (New w0 ((w2.setCell ⟨b, 0, none⟩ x).setCell ⟨b, 1, none⟩ y)) ((w2.setCell ⟨b, 0, none⟩ x).setCell ⟨b, 1, none⟩ y) v r ∧ Ext w0 ((w2.setCell ⟨b, 0, none⟩ x).setCell ⟨b, 1, none⟩ y) := by
  refine ⟨⟨vm, hv, hu.to (Kept.set2 (fun h => ?_) _ _) (fun k hk => ⟨Nat.le_trans h01.size hk.1, ?_⟩)⟩, (h01.trans h12).set2 hb0 _ _⟩
  · have := h.1
    omega
  · rw [size_set2]
    exact hk.2

theorem made_rep {S : Nat → Prop} (b : Bool) (v : Value) (n : Nat) (w : World) (h : U32s S w v (rep B32 n)) (hS : ∀ k, S k → k < w.heap.size) (hr : (rep B32 n).length ≤ 1000000000000) :
    Calls Try.prog 93 #[.bool b, v] w fun e w' => ∃ v', e = .returned v' ∧ IntV (New w w') w' v' (ofI (sg b n)) ∧ Ext w w' := by
  have h1 := whole_made b v (rep B32 n) w h hS hr
  rwa [val_rep two_le_B32] at h1
theorem rep_add_len {a b k : Nat} (ha : (rep B32 a).length ≤ k) (hb : (rep B32 b).length ≤ k) : (rep B32 (a + b)).length ≤ k + 1 := by
  refine rep_len_le two_le_B32 _ _ ?_
  have h1 := le_of_rep_len two_le_B32 a
  have h2 := le_of_rep_len two_le_B32 b
  have h3 : B32 ^ (rep B32 a).length ≤ B32 ^ k := Nat.pow_le_pow_right (by decide) ha
  have h4 : B32 ^ (rep B32 b).length ≤ B32 ^ k := Nat.pow_le_pow_right (by decide) hb
  rw [Nat.pow_succ]
  generalize B32 ^ k = P at *
  have : P * 2 ≤ P * B32 := Nat.mul_le_mul_left _ (by decide)
  omega
theorem rep_mono_len {a b : Nat} (h : a ≤ b) : (rep B32 a).length ≤ (rep B32 b).length := rep_len_le two_le_B32 _ _ (Nat.lt_of_le_of_lt h (le_of_rep_len two_le_B32 b))
theorem rep_val_len {zs : List Nat} (h : ∀ z ∈ zs, z < B32) : (rep B32 (val B32 zs)).length ≤ zs.length := rep_len_le two_le_B32 _ _ (val_lt zs h)

def AddPost (w : World) (z : Int) : Ending → World → Prop := fun e w' => ∃ v', e = .returned v' ∧ IntV (New w w') w' v' (ofI z) ∧ Ext w w'

set_option maxRecDepth 100000 in
set_option maxHeartbeats 4000000 in
theorem whole_add {S : Nat → Prop} (vx vy : Value) (x y : RInt) (w : World) (hx : IntV S w vx x) (hy : IntV S w vy y) (hS : ∀ k, S k → k < w.heap.size) (hr : x.mag.length ≤ 100000000000) (hr2 : y.mag.length ≤ 100000000000) :
    Calls Try.prog 88 #[vx, vy] w fun e w' => ∃ v', e = .returned v' ∧ IntV (New w w') w' v' (ofI (valI x + valI y)) ∧ Ext w w' := by
  obtain ⟨xn, xs⟩ := x
  obtain ⟨yn, ys⟩ := y
  obtain ⟨vxm, rfl, hxu⟩ := hx
  obtain ⟨vym, rfl, hyu⟩ := hy
  simp only at hxu hyu hr hr2 ⊢
  have HX := hid hxu
  have HY := hid hyu
  obtain ⟨ax, cx, rfl⟩ := hxu.form
  obtain ⟨ay, cy, rfl⟩ := hyu.form
  clear hxu hyu
  have HK := hid (Ext.alloc (Ext.alloc (Ext.alloc (Ext.refl w) (.cells #[.bool xn, .slice ax xs.length cx] 68)) (.cells #[.bool yn, .slice ay ys.length cy] 68)) (.cells #[.bool false, .slice none 0 0] 68))
  have HXK := hid (HX.out.ext HK.out hS)
  have HYK := hid (HY.out.ext HK.out hS)
  have HSK := hid (lt_ext hS HK.out)
  have hsz : w.heap.size + 1 + 1 < (((w.alloc (.cells #[.bool xn, .slice ax xs.length cx] 68)).alloc (.cells #[.bool yn, .slice ay ys.length cy] 68)).alloc (.cells #[.bool false, .slice none 0 0] 68)).heap.size := by simp
  have HSZ := hid hsz
  clear hsz
  by_cases hxy : xn = yn
  · have hb : (xn == yn) = true := by rw [beq_iff_eq]; exact hxy
    have HQ : Hid (valI ⟨xn, xs⟩ + valI ⟨yn, ys⟩ = sg xn (val B32 xs + val B32 ys)) := hid (by
      subst hxy
      unfold valI sg
      cases xn <;> (simp; try omega))
    subst hxy
    obtain ⟨b1, b2, b3, b4⟩ := blk3 (Ext.refl (((w.alloc (.cells #[.bool xn, .slice ax xs.length cx] 68)).alloc (.cells #[.bool xn, .slice ay ys.length cy] 68)).alloc (.cells #[.bool false, .slice none 0 0] 68)))
    have c1 := b1 0 _ rfl
    have c2 := b1 1 _ rfl
    have c3 := b2 1 _ rfl
    clear b1 b2 b3 b4
    have S0 := drew3 c1 c2 c3
    clear c1 c2 c3
    have HS0 := hid S0
    clear S0
    go_enter Try.func88, Try.ntmps88
    go_wp2
    have S0 := HS0.out
    have HL : Hid ((rep B32 (val B32 xs + val B32 ys)).length ≤ 1000000000000) := hid (Nat.le_trans (rep_add_len (k := 100000000000) (Nat.le_trans (rep_val_len HX.out.lt) hr) (Nat.le_trans (rep_val_len HY.out.lt) hr2)) (by decide))
    go_region_held3 (fun W => W.cell? ⟨w.heap.size, 0, none⟩ = some (.bool xn) ∧ W.cell? ⟨w.heap.size, 1, none⟩ = some (.slice ax xs.length cx) ∧ W.cell? ⟨w.heap.size + 1, 1, none⟩ = some (.slice ay ys.length cy)) (first | exact S0 | exact S1 | exact S2 | exact ⟨other (other S2.1 (ab (by omega))) (ab (by omega)), other (other S2.2.1 (ab (by omega))) (ab (by omega)), other (other S2.2.2 (ab (by omega))) (ab (by omega))⟩)
      (first
        | (go_at_call 117; (with_reducible refine (nat_add _ _ xs ys _ (HX.out.ext (HK.out.drew) hS) (HY.out.ext (HK.out.drew) hS) (lt_ext hS (HK.out.drew)) (by omega) (by omega)).mono ?_); rintro e w1 ⟨v1, rfl, hu1, hx1⟩; have S1 := And.intro (hx1.cell S0.1) (And.intro (hx1.cell S0.2.1) (hx1.cell S0.2.2)); have HX1 := hid hx1; have HU1 := hid hu1; obtain ⟨a1, n1, rfl⟩ := hu1.form; clear hx1 hu1)
        | (go_at_call 93; (with_reducible refine (made_rep xn _ _ _ HU1.out New.lt HL.out).mono ?_); rintro e w2 ⟨v2, rfl, ⟨vm2, rfl, hu2⟩, hx2⟩; have S2 := And.intro (hx2.cell S1.1) (And.intro (hx2.cell S1.2.1) (hx2.cell S1.2.2)); have HX2 := hid hx2; have HU2 := hid hu2; obtain ⟨a2, n2, rfl⟩ := hu2.form; obtain ⟨-, -, d3, d4⟩ := blk3 ((Ext.drew (Ext.refl _)).trans (HX1.out.trans hx2)); have e0 := d3 0 _ rfl; have e1 := d3 1 _ rfl; have HE := hid (And.intro e0 e1); have f0 := d4 0; have f1 := d4 1; clear d3 d4 hx2 hu2))
    go_wp2
    have hd := fun x y => two_set x y HE.out.1 HE.out.2
    refine bodyPost_ret (by simp [results, Try.results88, go_sem, (hd _ _).1, (hd _ _).2]; rfl) rfl ?_
    have hg := ret_int3 (w0 := w) (b := w.heap.size + 1 + 1) rfl HU2.out (HK.out.drew.trans HX1.out) HX2.out (by omega) (Nat.lt_of_lt_of_le HSZ.out HX1.out.size) (.bool (ofI (sg xn (val B32 xs + val B32 ys))).neg) (.slice a2 (ofI (sg xn (val B32 xs + val B32 ys))).mag.length n2)
    rw [HQ.out]
    exact ⟨_, rfl, hg.1, hg.2⟩
  · have hb : (xn == yn) = false := by rw [beq_eq_false_iff_ne]; exact hxy
    obtain ⟨b1, b2, b3, b4⟩ := blk3 (Ext.refl (((w.alloc (.cells #[.bool xn, .slice ax xs.length cx] 68)).alloc (.cells #[.bool yn, .slice ay ys.length cy] 68)).alloc (.cells #[.bool false, .slice none 0 0] 68)))
    have c1 := b1 0 _ rfl
    have c2 := b1 1 _ rfl
    have c3 := b2 1 _ rfl
    have c4 := b2 0 _ rfl
    clear b1 b2 b3 b4
    by_cases hge : val B32 ys ≤ val B32 xs
    · have HQ : Hid (valI ⟨xn, xs⟩ + valI ⟨yn, ys⟩ = sg xn (val B32 xs - val B32 ys)) := hid (by
        unfold valI sg
        cases xn <;> cases yn <;> first | (exact absurd rfl hxy) | (simp; omega))
      have HGE := hid hge
      have HXY := hid hxy
      clear hge hxy
      go_enter Try.func88, Try.ntmps88
      go_wp2_with fail
      refine (nat_sub_yes _ _ xs ys _ HXK.out HYK.out HSK.out (by omega) HGE.out).mono ?_
      rintro e w1 ⟨v1, rfl, hu1, hx1⟩
      obtain ⟨g1, g2, -, -⟩ := blk3 hx1
      have k1 := g1 0 _ rfl
      clear g1 g2
      have HXX := hid hx1
      have HU1 := hid hu1
      obtain ⟨a1, n1, rfl⟩ := hu1.form
      have HL : Hid ((rep B32 (val B32 xs - val B32 ys)).length ≤ 1000000000000) := hid (Nat.le_trans (Nat.le_trans (rep_mono_len (Nat.sub_le _ _)) (rep_val_len HX.out.lt)) (by omega))
      clear hx1 hu1
      go_wp2_with fail
      refine (made_rep xn _ _ _ HU1.out New.lt HL.out).mono ?_
      rintro e w2 ⟨v2, rfl, ⟨vm2, rfl, hu2⟩, hx2⟩
      have HX2 := hid hx2
      have HU2 := hid hu2
      obtain ⟨a2, n2, rfl⟩ := hu2.form
      obtain ⟨-, -, d3, d4⟩ := blk3 (HXX.out.trans hx2)
      have e0 := d3 0 _ rfl
      have e1 := d3 1 _ rfl
      have HE := hid (And.intro e0 e1)
      have f0 := d4 0
      have f1 := d4 1
      clear d3 d4 hx2 hu2
      go_wp2
      have hd := fun x y => two_set x y HE.out.1 HE.out.2
      refine bodyPost_ret (by simp [results, Try.results88, go_sem, (hd _ _).1, (hd _ _).2]; rfl) rfl ?_
      have hg := ret_int3 (w0 := w) (b := w.heap.size + 1 + 1) rfl HU2.out (HK.out.trans HXX.out) HX2.out (by omega) (Nat.lt_of_lt_of_le HSZ.out HXX.out.size) (.bool (ofI (sg xn (val B32 xs - val B32 ys))).neg) (.slice a2 (ofI (sg xn (val B32 xs - val B32 ys))).mag.length n2)
      rw [HQ.out]
      exact ⟨_, rfl, hg.1, hg.2⟩
    · have HQ : Hid (valI ⟨xn, xs⟩ + valI ⟨yn, ys⟩ = sg yn (val B32 ys - val B32 xs)) := hid (by
        unfold valI sg
        cases xn <;> cases yn <;> first | (exact absurd rfl hxy) | (simp; omega))
      have HGE := hid hge
      have HXY := hid hxy
      clear hge hxy
      go_enter Try.func88, Try.ntmps88
      go_wp2_with fail
      refine (nat_sub_no _ _ xs ys _ HXK.out HYK.out HSK.out (by have := HGE.out; omega)).mono ?_
      rintro e w1 ⟨rfl, hx1⟩
      obtain ⟨g1, g2, -, -⟩ := blk3 hx1
      have k1 := g1 1 _ rfl
      have k2 := g2 1 _ rfl
      have k3 := g2 0 _ rfl
      clear g1 g2
      have HX1 := hid hx1
      clear hx1
      go_wp2_with fail
      refine (nat_sub_yes _ _ ys xs _ (HY.out.ext (HK.out.trans HX1.out) hS) (HX.out.ext (HK.out.trans HX1.out) hS) (lt_ext hS (HK.out.trans HX1.out)) (by omega) (by have := HGE.out; omega)).mono ?_
      rintro e w1' ⟨v1, rfl, hu1, hx1⟩
      obtain ⟨g1, g2, -, -⟩ := blk3 (HX1.out.trans hx1)
      have k4 := g2 0 _ rfl
      clear g1 g2
      have HXX := hid (HX1.out.trans hx1)
      have HU1 := hid hu1
      obtain ⟨a1, n1, rfl⟩ := hu1.form
      have HL : Hid ((rep B32 (val B32 ys - val B32 xs)).length ≤ 1000000000000) := hid (Nat.le_trans (Nat.le_trans (rep_mono_len (Nat.sub_le _ _)) (rep_val_len HY.out.lt)) (by omega))
      clear hx1 hu1
      go_wp2_with fail
      refine (made_rep yn _ _ _ HU1.out New.lt HL.out).mono ?_
      rintro e w2 ⟨v2, rfl, ⟨vm2, rfl, hu2⟩, hx2⟩
      have HX2 := hid hx2
      have HU2 := hid hu2
      obtain ⟨a2, n2, rfl⟩ := hu2.form
      obtain ⟨-, -, d3, d4⟩ := blk3 (HXX.out.trans hx2)
      have e0 := d3 0 _ rfl
      have e1 := d3 1 _ rfl
      have HE := hid (And.intro e0 e1)
      have f0 := d4 0
      have f1 := d4 1
      clear d3 d4 hx2 hu2
      go_wp2
      have hd := fun x y => two_set x y HE.out.1 HE.out.2
      refine bodyPost_ret (by simp [results, Try.results88, go_sem, (hd _ _).1, (hd _ _).2]; rfl) rfl ?_
      have hg := ret_int3 (w0 := w) (b := w.heap.size + 1 + 1) rfl HU2.out (HK.out.trans HXX.out) HX2.out (by omega) (Nat.lt_of_lt_of_le HSZ.out HXX.out.size) (.bool (ofI (sg yn (val B32 ys - val B32 xs))).neg) (.slice a2 (ofI (sg yn (val B32 ys - val B32 xs))).mag.length n2)
      rw [HQ.out]
      exact ⟨_, rfl, hg.1, hg.2⟩
end Go.Proofs.Ythplgldclilccaa
