/- The document's whole numbers: as data, small ones, sign, the same, canonical. -/
import Derived.Test.YthplgldclilccaaZed
import Derived.Test.YthplgldclilccaaMix
namespace Go.Proofs.Ythplgldclilccaa
open Go.RowKit

theorem U32s.src' {S : Nat → Prop} {w : World} {vm : Value} {zs : List Nat} (h : U32s S w vm zs) : True := trivial

theorem ret_int3' {w0 w1 w2 : World} {b : Nat} {z : Int} {vm : Value} (hu : U32s (New w1 w2) w2 vm (rep B32 z.natAbs)) (h01 : Ext w0 w1) (h12 : Ext w1 w2) (hb0 : w0.heap.size ≤ b) (hb1 : b < w1.heap.size) (x y : Value) :
    IntV (New w0 ((w2.setCell ⟨b, 0, none⟩ x).setCell ⟨b, 1, none⟩ y)) ((w2.setCell ⟨b, 0, none⟩ x).setCell ⟨b, 1, none⟩ y) (.agg #[.bool (decide (z < 0)), vm]) (ofI z) ∧ Ext w0 ((w2.setCell ⟨b, 0, none⟩ x).setCell ⟨b, 1, none⟩ y) :=
  ret_int3 (r := ofI z) rfl hu h01 h12 hb0 hb1 x y

set_option maxRecDepth 100000 in
set_option maxHeartbeats 4000000 in
theorem zed_int {S : Nat → Prop} (v : Value) (z : Int) (w : World) (h : ZV S w v z) (hS : ∀ k, S k → k < w.heap.size) (hr : szZ z) :
    Calls Try.prog 69 #[v] w fun e w' => ∃ v', e = .returned v' ∧ IntV (New w w') w' v' (ofI z) ∧ Ext w w' := by
  obtain ⟨vd, rfl, hd⟩ := h
  have HD := hid hd
  obtain ⟨a, c, rfl⟩ := hd.form
  obtain ⟨n, hn⟩ : ∃ n, n = (rep 10 z.natAbs).length := ⟨_, rfl⟩
  have hl := hd.len_le
  have hpos := rep10_pos z.natAbs
  rw [← hn] at hpos hl ⊢
  have HDN := hid hd
  rw [← hn] at HDN
  have hng : z < 0 → 0 < n := fun h => by
    rw [decide_eq_decide] at hpos
    exact hpos.2 (by omega)
  obtain ⟨ng, hq⟩ : ∃ b, b = decide (z < 0) := ⟨_, rfl⟩
  rw [← hq]
  have HQ := hid hq
  have hng2 : ng = true → 0 < n := fun h => hng (by rw [h] at hq; simpa using hq.symm)
  clear hd hn hpos hng hq HD
  have HK := hid (Ext.alloc (Ext.alloc (Ext.refl w) (.cells #[.bool ng, .slice a n c] 100)) (.cells #[.bool false, .slice none 0 0] 68))
  have HSZ : Hid (w.heap.size + 1 < ((w.alloc (.cells #[.bool ng, .slice a n c] 100)).alloc (.cells #[.bool false, .slice none 0 0] 68)).heap.size) := hid (by simp)
  have x0 := (Ext.refl ((w.alloc (.cells #[.bool ng, .slice a n c] 100)).alloc (.cells #[.bool false, .slice none 0 0] 68))).drew
  have HX0 := hid x0
  have S0 := old2 x0
  clear x0
  cases ng with
  | true =>
    have hp := hng2 rfl
    clear hng2
    go_enter Try.func69, Try.ntmps69
    go_wp2
    go_region_held3 (fun W => W.cell? ⟨w.heap.size, 0, none⟩ = some (.bool true) ∧ W.cell? ⟨w.heap.size, 1, none⟩ = some (.slice a n c)) (first | exact S0 | exact S1 | exact ⟨other (other S1.1 (ab (by omega))) (ab (by omega)), other (other S1.2 (ab (by omega))) (ab (by omega))⟩)
      (first
        | (go_at_call 102; (with_reducible refine (dig_limbs _ z.natAbs _ (HDN.out.ext (HK.out.trans HX0.out) hS) (lt_ext hS (HK.out.trans HX0.out)) (Nat.le_trans hr (by decide))).mono ?_); rintro e w1 ⟨v1, rfl, hu1, hx1⟩; have S1 := old2 (HX0.out.trans hx1); obtain ⟨r0, r1, f0, f1⟩ := new2' (HX0.out.trans hx1); have HE := hid (And.intro r0 r1); have HX1 := hid hx1; have HU1 := hid hu1; obtain ⟨a1, n1, rfl⟩ := hu1.form; clear hx1 hu1))
    go_wp2
    have hd := fun x y => two_set x y HE.out.1 HE.out.2
    refine bodyPost_ret (by simp [results, Try.results69, go_sem, (hd _ _).1, (hd _ _).2]; rfl) rfl ?_
    have hg := fun x y => ret_int3' (w0 := w) (b := w.heap.size + 1) HU1.out (HK.out.trans HX0.out) HX1.out (by omega) (Nat.lt_of_lt_of_le HSZ.out HX0.out.size) x y
    rw [← HQ.out] at hg
    exact ⟨_, rfl, (hg _ _).1, (hg _ _).2⟩
  | false =>
    clear hng2 S0
    have hBs : w.heap.size + 1 ≤ ((w.alloc (.cells #[.bool false, .slice a n c] 100)).alloc (.cells #[.bool false, .slice none 0 0] 68)).heap.size := by simp
    have HBS := hid hBs
    have e0 := old2 (Ext.refl ((w.alloc (.cells #[.bool false, .slice a n c] 100)).alloc (.cells #[.bool false, .slice none 0 0] 68)))
    have L0 := fun X : LaterB (w.heap.size + 1) ((w.alloc (.cells #[.bool false, .slice a n c] 100)).alloc (.cells #[.bool false, .slice none 0 0] 68)) => X.cell (Nat.lt_succ_self _) e0.1
    have L1 := fun X : LaterB (w.heap.size + 1) ((w.alloc (.cells #[.bool false, .slice a n c] 100)).alloc (.cells #[.bool false, .slice none 0 0] 68)) => X.cell (Nat.lt_succ_self _) e0.2
    have hne : Nonempty (LaterB (w.heap.size + 1) ((w.alloc (.cells #[.bool false, .slice a n c] 100)).alloc (.cells #[.bool false, .slice none 0 0] 68))) := ⟨⟨_, (Below.refl _ _).mono hBs⟩⟩
    clear e0 hBs
    go_enter Try.func69, Try.ntmps69
    go_wp2
    refine wp_region_mix (fun W => ∃ X : LaterB (w.heap.size + 1) ((w.alloc (.cells #[.bool false, .slice a n c] 100)).alloc (.cells #[.bool false, .slice none 0 0] 68)), W = X.w') 10 (by kernel_rfl) (by kernel_rfl) (by simp) (by kernel_rfl) (fun _ _ _ _ _ h => h) ⟨⟨_, HX0.out.mono HBS.out⟩, rfl⟩ ?_
    simp only [List.take_succ_cons, List.take_zero, List.drop_succ_cons, List.drop_zero]
    repeat (go_big_quiet_step (fail))
    refine wpQuiet_nil ?_
    refine (show wpList _ _ _ [_] _ _ from ?_)
    go_wp2_with fail
    refine (dig_limbs _ z.natAbs _ (HDN.out.ext (HK.out.trans HX0.out) hS) (lt_ext hS (HK.out.trans HX0.out)) (Nat.le_trans hr (by decide))).mono ?_
    rintro e w1 ⟨v1, rfl, hu1, hx1⟩
    obtain ⟨r0, r1, f0, f1⟩ := new2' (HX0.out.trans hx1)
    have HE := hid (And.intro r0 r1)
    have HX1 := hid hx1
    have HU1 := hid hu1
    obtain ⟨a1, n1, rfl⟩ := hu1.form
    clear hx1 hu1
    have HBW : Hid (Below (w.heap.size + 1) ((w.alloc (.cells #[.bool false, .slice a n c] 100)).alloc (.cells #[.bool false, .slice none 0 0] 68)) w1) := hid ((HX0.out.trans HX1.out).mono HBS.out)
    go_wp2
    refine ⟨⟨⟨w1, HBW.out⟩, rfl⟩, ?_⟩
    refine (show wpList _ _ _ [_] _ _ from ?_)
    go_wp2
    refine ⟨⟨⟨w1, HBW.out⟩, rfl⟩, ?_⟩
    refine (show wpList _ _ _ [_] _ _ from ?_)
    go_wp2
    refine ⟨⟨⟨_, (HBW.out.setCell (p := ⟨w.heap.size + 1, 0, none⟩) (Nat.le_refl _) _).setCell (p := ⟨w.heap.size + 1, 1, none⟩) (Nat.le_refl _) _⟩, rfl⟩, ?_⟩
    unfold tailWp
    go_wp2
    have hd := fun x y => two_set x y HE.out.1 HE.out.2
    refine bodyPost_ret (by simp [results, Try.results69, go_sem, (hd _ _).1, (hd _ _).2]; rfl) rfl ?_
    have hg := fun x y => ret_int3' (w0 := w) (b := w.heap.size + 1) HU1.out (HK.out.trans HX0.out) HX1.out (by omega) (Nat.lt_of_lt_of_le HSZ.out HX0.out.size) x y
    rw [← HQ.out] at hg
    exact ⟨_, rfl, (hg _ _).1, (hg _ _).2⟩

set_option maxRecDepth 100000 in
set_option maxHeartbeats 2000000 in
theorem zed_sign {S : Nat → Prop} (v : Value) (z : Int) (w : World) (h : ZV S w v z) :
    Calls Try.prog 104 #[v] w fun e w' => e = .returned (.int .i64 (signI z)) ∧ Ext w w' := by
  obtain ⟨vd, rfl, hd⟩ := h
  obtain ⟨a, c, rfl⟩ := hd.form
  have hl := hd.len_le
  have hpos := rep10_pos z.natAbs
  obtain ⟨n, hn⟩ : ∃ n, n = (rep 10 z.natAbs).length := ⟨_, rfl⟩
  rw [← hn] at hpos hl ⊢
  rw [decide_eq_decide] at hpos
  have HP := hid hpos
  clear hd hpos hn
  rcases (show z < 0 ∨ z = 0 ∨ 0 < z by omega) with hz | hz | hz
  · have hn0 : 0 < n := HP.out.2 (by omega)
    have hb : ((n : Int) == 0) = false := by rw [beq_eq_false_iff_ne]; omega
    have hdz : decide (z < 0) = true := decide_eq_true hz
    have HS : Hid (signI z = -1) := hid (by unfold signI; rw [cmpI_mone]; exact hz)
    rw [hdz]
    have HK := hid (Ext.alloc (Ext.refl w) (.cells #[.bool true, .slice a n c] 100))
    clear hdz hz
    go_enter Try.func104, Try.ntmps104
    go_wp2
    all_goals
      go_ret
      exact ⟨by rw [HS.out]; rfl, HK.out⟩
  · have hn0 : n = 0 := by
      have := HP.out
      omega
    subst hn0
    have hdz : decide (z < 0) = false := decide_eq_false (by omega)
    have HS : Hid (signI z = 0) := hid (by unfold signI; rw [cmpI_zero]; exact hz)
    rw [hdz]
    have HK := hid (Ext.alloc (Ext.refl w) (.cells #[.bool false, .slice a 0 c] 100))
    clear hdz hz
    go_enter Try.func104, Try.ntmps104
    go_wp2
    all_goals
      go_ret
      exact ⟨by rw [HS.out]; rfl, HK.out⟩
  · have hn0 : 0 < n := HP.out.2 (by omega)
    have hb : ((n : Int) == 0) = false := by rw [beq_eq_false_iff_ne]; omega
    have hdz : decide (z < 0) = false := decide_eq_false (by omega)
    have HS : Hid (signI z = 1) := hid (by unfold signI; rw [cmpI_one]; exact hz)
    rw [hdz]
    have HK := hid (Ext.alloc (Ext.refl w) (.cells #[.bool false, .slice a n c] 100))
    clear hdz hz
    go_enter Try.func104, Try.ntmps104
    go_wp2
    all_goals
      go_ret
      exact ⟨by rw [HS.out]; rfl, HK.out⟩

set_option maxRecDepth 100000 in
set_option maxHeartbeats 2000000 in
theorem zed_same {S : Nat → Prop} (va vb : Value) (x y : RInt) (w : World) (ha : IntV S w va x) (hb : IntV S w vb y) (hS : ∀ k, S k → k < w.heap.size) :
    Calls Try.prog 96 #[va, vb] w fun e w' => e = .returned (.bool (decide (x = y))) ∧ Ext w w' := by
  obtain ⟨xn, xs⟩ := x
  obtain ⟨yn, ys⟩ := y
  obtain ⟨vx, rfl, hu⟩ := ha
  obtain ⟨vy, rfl, hv⟩ := hb
  simp only at hu hv ⊢
  have HU := hid hu
  have HV := hid hv
  obtain ⟨a, c, rfl⟩ := hu.form
  obtain ⟨a2, c2, rfl⟩ := hv.form
  clear hu hv
  have HK := hid (Ext.alloc (Ext.alloc (Ext.refl w) (.cells #[.bool xn, .slice a xs.length c] 68)) (.cells #[.bool yn, .slice a2 ys.length c2] 68))
  by_cases hxy : xn = yn
  · subst hxy
    have HS : Hid (decide ((⟨xn, xs⟩ : RInt) = ⟨xn, ys⟩) = decide (xs = ys)) := hid (by simp)
    go_enter Try.func96, Try.ntmps96
    go_wp2_with fail
    refine (u32_same _ _ xs ys _ (HU.out.ext HK.out hS) (HV.out.ext HK.out hS) (lt_ext hS HK.out)).mono ?_
    rintro e w1 ⟨rfl, hx⟩
    have HX := hid hx
    clear hx
    go_wp2
    all_goals
      go_ret
      exact ⟨by rw [HS.out]; rfl, HK.out.trans HX.out⟩
  · have hb : (xn == yn) = false := by rw [beq_eq_false_iff_ne]; exact hxy
    have HS : Hid (decide ((⟨xn, xs⟩ : RInt) = ⟨yn, ys⟩) = false) := hid (decide_eq_false (fun e => hxy (by cases e; rfl)))
    clear hxy
    go_enter Try.func96, Try.ntmps96
    go_wp2
    all_goals
      go_ret
      exact ⟨by rw [HS.out]; rfl, HK.out⟩

theorem mayI_same {x : RInt} (h : okI x) : decide (x = ofI (valI x)) = mayI x := by
  cases hm : mayI x with
  | true => exact decide_eq_true (ofI_valI h hm).symm
  | false =>
    refine decide_eq_false (fun e => ?_)
    rw [e, mayI_ofI] at hm
    cases hm
theorem szZ_of {x : RInt} (h : okI x) (hr : x.mag.length ≤ 100000) : szZ (valI x) := by
  unfold szZ
  have : (valI x).natAbs = val B32 x.mag := by rw [valI_sg, sg_abs]
  rw [this]
  exact Nat.le_trans (rep10_len (val_lt _ h)) (by omega)

set_option maxRecDepth 100000 in
set_option maxHeartbeats 2000000 in
theorem zed_may {S : Nat → Prop} (v : Value) (x : RInt) (w : World) (h : IntV S w v x) (hS : ∀ k, S k → k < w.heap.size) (hr : x.mag.length ≤ 100000) :
    Calls Try.prog 71 #[v] w fun e w' => e = .returned (.bool (mayI x)) ∧ Ext w w' := by
  obtain ⟨vm, hv, hu⟩ := h
  have hok : okI x := hu.lt
  have HM := hid (mayI_same hok)
  have HZ := hid (szZ_of hok hr)
  have HR := hid hr
  have HU := hid hu
  obtain ⟨a, c, rfl⟩ := hu.form
  subst hv
  obtain ⟨xn, xs⟩ := x
  simp only at HU ⊢
  have HK := hid (Ext.alloc (Ext.refl w) (.cells #[.bool xn, .slice a xs.length c] 68))
  have x0 := (Ext.refl (w.alloc (.cells #[.bool xn, .slice a xs.length c] 68))).drew
  have HX0 := hid x0
  have S0 := And.intro (new2 x0).1 (new2 x0).2.1
  clear hu hr hok x0
  go_enter Try.func71, Try.ntmps71
  go_wp2
  go_region_held3 (fun W => W.cell? ⟨w.heap.size, 0, none⟩ = some (.bool xn) ∧ W.cell? ⟨w.heap.size, 1, none⟩ = some (.slice a xs.length c)) (first | exact S0 | exact S1 | exact S2 | exact S3)
    (first
      | (go_at_call 74; (with_reducible refine (zed_of _ ⟨xn, xs⟩ _ (intV_mk (HU.out.ext (HK.out.trans HX0.out) hS)) (lt_ext hS (HK.out.trans HX0.out)) HR.out).mono ?_); rintro e w1 ⟨v1, rfl, hz1, hx1⟩; have S1 := And.intro (hx1.cell S0.1) (hx1.cell S0.2); have HX1 := hid hx1; have HZ1 := hid hz1; clear hx1 hz1)
      | (go_at_call 69; (with_reducible refine (zed_int _ _ _ HZ1.out New.lt HZ.out).mono ?_); rintro e w2 ⟨v2, rfl, hz2, hx2⟩; have S2 := And.intro (hx2.cell S1.1) (hx2.cell S1.2); have HX2 := hid hx2; have HZ2 := hid hz2; clear hx2 hz2)
      | (go_at_call 96; (with_reducible refine (zed_same (S := fun k => k < w2.heap.size) _ _ ⟨xn, xs⟩ _ _ (IntV.to (intV_mk (HU.out.ext (HK.out.trans (HX0.out.trans (HX1.out.trans HX2.out))) hS)) (Kept.refl _ _) (lt_ext hS (HK.out.trans (HX0.out.trans (HX1.out.trans HX2.out))))) (HZ2.out.to (Kept.refl _ _) New.lt) (fun _ h => h)).mono ?_); rintro e w3 ⟨rfl, hx3⟩; have S3 := And.intro (hx3.cell S2.1) (hx3.cell S2.2); have HX3 := hid hx3; clear hx3))
  go_wp2
  all_goals
    go_ret
    exact ⟨by rw [← HM.out]; rfl, HK.out.trans (HX0.out.trans (HX1.out.trans (HX2.out.trans HX3.out)))⟩
end Go.Proofs.Ythplgldclilccaa
