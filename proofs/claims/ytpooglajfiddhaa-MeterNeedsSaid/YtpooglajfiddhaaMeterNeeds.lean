/- MeterNeeds: what is refused first is not refused by a limit as great as the need tells. No condition. -/
import Derived.Test.YtpooglajfiddhaaMeterNeedsLaw
namespace Go.Proofs.Ytpooglajfiddhaa
open Go.RowKit

theorem run_le (s : MSt) (l : List ROp) (i : Nat) : (runSpec s l i).1 ≤ i + l.length := by
  induction l generalizing s i with
  | nil => simp [runSpec]
  | cons o r ih =>
    simp only [runSpec, List.length_cons]
    split
    · have := ih (s.play o).2 (i + 1); omega
    · simp only; omega

theorem RetTrue.after {w w1 w' : World} {e : Ending} (h : RetTrue w1 e w') (hx : Ext w w1) : RetTrue w e w' := ⟨h.1, hx.trans h.2⟩

set_option maxRecDepth 100000 in
set_option maxHeartbeats 8000000 in
theorem needs_any {S : Nat → Prop} (a b c d : Int) (v : Value) (l : List ROp) (w : World) (h : Ops S w v l) (hS : ∀ k, S k → k < w.heap.size) :
    Calls Try.prog 3 #[.agg #[.int .i64 a, .int .i64 b, .int .i64 c, .int .i64 d], v] w (RetTrue w) := by
  have hlen := h.len_le
  obtain ⟨av, cv, rfl⟩ := h.form
  have HX1 := hid (Ext.alloc (Ext.refl w) (.cells #[.int .i64 a, .int .i64 b, .int .i64 c, .int .i64 d] 23))
  have HO1 := hid (h.to (Kept.alloc hS (.cells #[.int .i64 a, .int .i64 b, .int .i64 c, .int .i64 d] 23)) (fun _ h => h))
  have HS1 : Hid (∀ k, S k → k < (w.alloc (.cells #[.int .i64 a, .int .i64 b, .int .i64 c, .int .i64 d] 23)).heap.size) := hid (fun k hk => by have := hS k hk; rw [size_alloc]; omega)
  have HB0 := hid (cell_new w #[.int .i64 a, .int .i64 b, .int .i64 c, .int .i64 d] 23 (i := 0) (v := .int .i64 a) rfl rfl)
  have HB1 := hid (cell_new w #[.int .i64 a, .int .i64 b, .int .i64 c, .int .i64 d] 23 (i := 1) (v := .int .i64 b) rfl rfl)
  have HB2 := hid (cell_new w #[.int .i64 a, .int .i64 b, .int .i64 c, .int .i64 d] 23 (i := 2) (v := .int .i64 c) rfl rfl)
  have HB3 := hid (cell_new w #[.int .i64 a, .int .i64 b, .int .i64 c, .int .i64 d] 23 (i := 3) (v := .int .i64 d) rfl rfl)
  have HF : ∀ i, Hid ((w.alloc (.cells #[.int .i64 a, .int .i64 b, .int .i64 c, .int .i64 d] 23)).frozen? ⟨w.heap.size, i, none⟩ = false) := fun i => free_new _ _ _
  have HS := hid hS
  clear h hS
  go_enter Try.func3, Try.ntmps3
  go_wp2_with fail
  refine (great_any _ l _ HO1.out).mono ?_
  rintro e w1 ⟨x, rfl, rfl⟩
  cases x with
  | true =>
    go_wp2_with fail
    refine (known_any _).mono ?_
    rintro e w2 ⟨rfl, hx⟩
    have HX2 := hid (HX1.out.trans hx)
    clear hx
    go_wp2_with fail
    go_ret
    exact ⟨rfl, HX2.out⟩
  | false =>
    by_cases hm : ¬ mayLimits a b c d
    · have HM := hid hm
      clear hm
      go_wp2_with fail
      refine (run_no a b c d _ l _ HO1.out HM.out).mono ?_
      rintro e w2 ⟨rfl, hx⟩
      have HX2 := hid (HX1.out.trans hx)
      clear hx
      go_wp2_with fail
      refine (known_any _).mono ?_
      rintro e w3 ⟨rfl, hx⟩
      have HX3 := hid ((HX2.out.alloc _).trans hx)
      clear hx
      go_wp2_with fail
      go_ret
      exact ⟨rfl, HX3.out⟩
    have hm := Classical.not_not.1 hm
    have HM := hid hm
    have HOk := hid (ok_new hm)
    rcases hR : runSpec (MSt.new a b c d) l 0 with ⟨f, e0, n⟩
    have HR := hid hR
    have hf := run_le (MSt.new a b c d) l 0
    rw [hR] at hf
    simp only [Nat.zero_add] at hf
    clear hm hR
    go_wp2_with fail
    refine (run_yes a b c d _ l _ HO1.out HS1.out HM.out).mono ?_
    rintro e w2 ⟨rfl, hx⟩
    rw [HR.out]
    have HX2 := hid (HX1.out.trans hx)
    have HY2 := hid hx
    clear hx
    have q0 := HY2.out.cell HB0.out
    have r0 := cell_old (.cells #[.int .i64 e0, .int .i64 n] 29) q0
    have q1 := HY2.out.cell HB1.out
    have r1 := cell_old (.cells #[.int .i64 e0, .int .i64 n] 29) q1
    have q2 := HY2.out.cell HB2.out
    have r2 := cell_old (.cells #[.int .i64 e0, .int .i64 n] 29) q2
    have q3 := HY2.out.cell HB3.out
    have r3 := cell_old (.cells #[.int .i64 e0, .int .i64 n] 29) q3
    have f0 := fun i => HY2.out.free (b := w.heap.size) (i := i) (by simp) (HF i).out
    have g0 := fun i => free_old (.cells #[.int .i64 e0, .int .i64 n] 29) (lt_of_cell q0) (f0 i)
    have HX3 := hid (HX2.out.alloc (.cells #[.int .i64 e0, .int .i64 n] 29))
    have HN0 := hid (cell_new w2 #[.int .i64 e0, .int .i64 n] 29 (i := 0) (v := .int .i64 e0) rfl rfl)
    have HN1 := hid (cell_new w2 #[.int .i64 e0, .int .i64 n] 29 (i := 1) (v := .int .i64 n) rfl rfl)
    have hs2 := HX2.out.size
    have hs2' := lt_of_cell (HY2.out.cell HB0.out)
    by_cases he : e0 = 9
    · have HE := hid he
      have t9 : (e0 == 9) = true := by simp [he]
      have t10 : (e0 == 10) = false := by simp [he]
      have t11 : (e0 == 11) = false := by simp [he]
      have t12 : (e0 == 12) = false := by simp [he]
      clear he
      have p0 := cell_old (.cells #[.int .i64 e0, .int .i64 n] 29) (same_of (v := .int .i64 n) q0)
      have p1 := cell_old (.cells #[.int .i64 e0, .int .i64 n] 29) (other (a := ⟨w.heap.size, 0, none⟩) (v := .int .i64 n) q1 (ao (by omega)))
      have p2 := cell_old (.cells #[.int .i64 e0, .int .i64 n] 29) (other (a := ⟨w.heap.size, 0, none⟩) (v := .int .i64 n) q2 (ao (by omega)))
      have p3 := cell_old (.cells #[.int .i64 e0, .int .i64 n] 29) (other (a := ⟨w.heap.size, 0, none⟩) (v := .int .i64 n) q3 (ao (by omega)))
      have PN0 := hid (cell_new (w2.setCell ⟨w.heap.size, 0, none⟩ (.int .i64 n)) #[.int .i64 e0, .int .i64 n] 29 (b := w2.heap.size) (i := 0) (v := .int .i64 e0) (size_setCell _ _ _).symm rfl)
      have HX4 := hid ((HX2.out.setCell (p := ⟨w.heap.size, 0, none⟩) (Nat.le_refl _) (.int .i64 n)).alloc (by rw [size_setCell]; omega) (.cells #[.int .i64 e0, .int .i64 n] 29))
      have HO4 := hid (HO1.out.to (w' := (w2.setCell ⟨w.heap.size, 0, none⟩ (.int .i64 n)).alloc (.cells #[.int .i64 e0, .int .i64 n] 29)) (fun k hk => by
        have h1 := HS.out k hk
        have h2 := HX4.out.block k h1
        rw [h2]
        exact (Below.heap_alloc _ _ _ h1).symm) (fun _ h => h))
      have HS4 : Hid (∀ k, S k → k < ((w2.setCell ⟨w.heap.size, 0, none⟩ (.int .i64 n)).alloc (.cells #[.int .i64 e0, .int .i64 n] 29)).heap.size) := hid (fun k hk => by have := HS.out k hk; rw [size_alloc, size_setCell]; omega)
      have hsz4 : ((w2.setCell ⟨w.heap.size, 0, none⟩ (.int .i64 n)).alloc (.cells #[.int .i64 e0, .int .i64 n] 29)).heap.size = w2.heap.size + 1 := by rw [size_alloc, size_setCell]
      by_cases hm2 : mayLimits n b c d
      · have HM2 := hid hm2
        have hG := run_raise (s := MSt.new a b c d) rfl HOk.out l 0 HR.out (by have := HE.out; omega)
        rw [show (MSt.new a b c d).raise e0 n = MSt.new n b c d from by rw [HE.out]; rfl] at hG
        have hgl := run_le (MSt.new n b c d) l 0
        rcases hR2 : runSpec (MSt.new n b c d) l 0 with ⟨g, e2, n2⟩
        rw [hR2] at hG hgl
        simp only [Nat.zero_add] at hgl
        have HG := hid hG
        have HR2 := hid hR2
        have hg1 := hG.1
        simp only at hg1
        clear hm2 hG hR2
        go_wp2_with fail
        generalize hw4 : (w2.setCell ⟨w.heap.size, 0, none⟩ (.int .i64 n)).alloc (.cells #[.int .i64 e0, .int .i64 n] 29) = w4 at *
        have HW4 := hid hw4
        clear hw4
        refine (new_yes n b c d _ HM2.out).mono ?_
        rintro e w5 ⟨k5, -, -, hx, rfl⟩
        have p0' := hx.cell p0
        have p1' := hx.cell p1
        have p2' := hx.cell p2
        have p3' := hx.cell p3
        have PN5 := hid (hx.cell PN0.out)
        have HX5 := hid (Ext.trans HX4.out hx)
        have HO5 := hid (HO4.out.to (Kept.of_below hx |>.mono (fun k hk => by have := HS4.out k hk; exact this)) (fun _ h => h))
        have HS5 : Hid (∀ k, S k → k < w5.heap.size) := hid (fun k hk => Nat.lt_of_lt_of_le (HS4.out k hk) hx.size)
        clear hx p0 p1 p2 p3 q0 q1 q2 q3 f0 r0 r1 r2 r3 g0
        go_wp2_with fail
        refine (run_yes n b c d _ l _ HO5.out HS5.out HM2.out).mono ?_
        rintro e w6 ⟨rfl, hx⟩
        rw [HR2.out]
        have HX6 := hid ((Ext.trans HX5.out hx).alloc (.cells #[.int .i64 e2, .int .i64 n2] 29))
        have pn := cell_old (.cells #[.int .i64 e2, .int .i64 n2] 29) (hx.cell PN5.out)
        clear hx p0' p1' p2' p3'
        have hgf : f < g := by have h1 := HG.out.2; have h2 := HE.out; omega
        go_wp2_with fail
        refine (known_any _).mono ?_
        rintro e w7 ⟨rfl, hx⟩
        have HX7 := hid (Ext.trans HX6.out hx)
        clear hx
        go_wp2_with fail
        go_ret
        exact ⟨rfl, HX7.out⟩
      · have HM2 := hid hm2
        clear hm2
        go_wp2_with fail
        generalize hw4 : (w2.setCell ⟨w.heap.size, 0, none⟩ (.int .i64 n)).alloc (.cells #[.int .i64 e0, .int .i64 n] 29) = w4 at *
        have HW4 := hid hw4
        clear hw4
        refine (new_no n b c d _ HM2.out).mono ?_
        rintro e w5 ⟨hx, rfl⟩
        have HX5 := hid (Ext.trans HX4.out hx)
        clear hx
        go_wp2_with fail
        refine (known_any _).mono ?_
        rintro e w7 ⟨rfl, hx⟩
        have HX7 := hid (Ext.trans HX5.out hx)
        clear hx
        go_wp2_with fail
        go_ret
        exact ⟨rfl, HX7.out⟩
    by_cases he : e0 = 10
    · have HE := hid he
      have t9 : (e0 == 9) = false := by simp [he]
      have t10 : (e0 == 10) = true := by simp [he]
      have t11 : (e0 == 11) = false := by simp [he]
      have t12 : (e0 == 12) = false := by simp [he]
      clear he
      have p0 := cell_old (.cells #[.int .i64 e0, .int .i64 n] 29) (other (a := ⟨w.heap.size, 1, none⟩) (v := .int .i64 n) q0 (ao (by omega)))
      have p1 := cell_old (.cells #[.int .i64 e0, .int .i64 n] 29) (same_of (v := .int .i64 n) q1)
      have p2 := cell_old (.cells #[.int .i64 e0, .int .i64 n] 29) (other (a := ⟨w.heap.size, 1, none⟩) (v := .int .i64 n) q2 (ao (by omega)))
      have p3 := cell_old (.cells #[.int .i64 e0, .int .i64 n] 29) (other (a := ⟨w.heap.size, 1, none⟩) (v := .int .i64 n) q3 (ao (by omega)))
      have PN0 := hid (cell_new (w2.setCell ⟨w.heap.size, 1, none⟩ (.int .i64 n)) #[.int .i64 e0, .int .i64 n] 29 (b := w2.heap.size) (i := 0) (v := .int .i64 e0) (size_setCell _ _ _).symm rfl)
      have HX4 := hid ((HX2.out.setCell (p := ⟨w.heap.size, 1, none⟩) (Nat.le_refl _) (.int .i64 n)).alloc (by rw [size_setCell]; omega) (.cells #[.int .i64 e0, .int .i64 n] 29))
      have HO4 := hid (HO1.out.to (w' := (w2.setCell ⟨w.heap.size, 1, none⟩ (.int .i64 n)).alloc (.cells #[.int .i64 e0, .int .i64 n] 29)) (fun k hk => by
        have h1 := HS.out k hk
        have h2 := HX4.out.block k h1
        rw [h2]
        exact (Below.heap_alloc _ _ _ h1).symm) (fun _ h => h))
      have HS4 : Hid (∀ k, S k → k < ((w2.setCell ⟨w.heap.size, 1, none⟩ (.int .i64 n)).alloc (.cells #[.int .i64 e0, .int .i64 n] 29)).heap.size) := hid (fun k hk => by have := HS.out k hk; rw [size_alloc, size_setCell]; omega)
      have hsz4 : ((w2.setCell ⟨w.heap.size, 1, none⟩ (.int .i64 n)).alloc (.cells #[.int .i64 e0, .int .i64 n] 29)).heap.size = w2.heap.size + 1 := by rw [size_alloc, size_setCell]
      by_cases hm2 : mayLimits a n c d
      · have HM2 := hid hm2
        have hG := run_raise (s := MSt.new a b c d) rfl HOk.out l 0 HR.out (by have := HE.out; omega)
        rw [show (MSt.new a b c d).raise e0 n = MSt.new a n c d from by rw [HE.out]; rfl] at hG
        have hgl := run_le (MSt.new a n c d) l 0
        rcases hR2 : runSpec (MSt.new a n c d) l 0 with ⟨g, e2, n2⟩
        rw [hR2] at hG hgl
        simp only [Nat.zero_add] at hgl
        have HG := hid hG
        have HR2 := hid hR2
        have hg1 := hG.1
        simp only at hg1
        clear hm2 hG hR2
        go_wp2_with fail
        generalize hw4 : (w2.setCell ⟨w.heap.size, 1, none⟩ (.int .i64 n)).alloc (.cells #[.int .i64 e0, .int .i64 n] 29) = w4 at *
        have HW4 := hid hw4
        clear hw4
        refine (new_yes a n c d _ HM2.out).mono ?_
        rintro e w5 ⟨k5, -, -, hx, rfl⟩
        have p0' := hx.cell p0
        have p1' := hx.cell p1
        have p2' := hx.cell p2
        have p3' := hx.cell p3
        have PN5 := hid (hx.cell PN0.out)
        have HX5 := hid (Ext.trans HX4.out hx)
        have HO5 := hid (HO4.out.to (Kept.of_below hx |>.mono (fun k hk => by have := HS4.out k hk; exact this)) (fun _ h => h))
        have HS5 : Hid (∀ k, S k → k < w5.heap.size) := hid (fun k hk => Nat.lt_of_lt_of_le (HS4.out k hk) hx.size)
        clear hx p0 p1 p2 p3 q0 q1 q2 q3 f0 r0 r1 r2 r3 g0
        go_wp2_with fail
        refine (run_yes a n c d _ l _ HO5.out HS5.out HM2.out).mono ?_
        rintro e w6 ⟨rfl, hx⟩
        rw [HR2.out]
        have HX6 := hid ((Ext.trans HX5.out hx).alloc (.cells #[.int .i64 e2, .int .i64 n2] 29))
        have pn := cell_old (.cells #[.int .i64 e2, .int .i64 n2] 29) (hx.cell PN5.out)
        clear hx p0' p1' p2' p3'
        by_cases hgf : f < g
        · go_wp2_with fail
          refine (known_any _).mono ?_
          rintro e w7 ⟨rfl, hx⟩
          have HX7 := hid (Ext.trans HX6.out hx)
          clear hx
          go_wp2_with fail
          go_ret
          exact ⟨rfl, HX7.out⟩
        · go_wp2_with fail
          refine (known_any _).mono ?_
          rintro e w7 ⟨rfl, hx⟩
          have HX7 := hid (Ext.trans HX6.out hx)
          clear hx
          go_wp2_with fail
          go_ret
          exact ⟨rfl, HX7.out⟩
      · have HM2 := hid hm2
        clear hm2
        go_wp2_with fail
        generalize hw4 : (w2.setCell ⟨w.heap.size, 1, none⟩ (.int .i64 n)).alloc (.cells #[.int .i64 e0, .int .i64 n] 29) = w4 at *
        have HW4 := hid hw4
        clear hw4
        refine (new_no a n c d _ HM2.out).mono ?_
        rintro e w5 ⟨hx, rfl⟩
        have HX5 := hid (Ext.trans HX4.out hx)
        clear hx
        go_wp2_with fail
        refine (known_any _).mono ?_
        rintro e w7 ⟨rfl, hx⟩
        have HX7 := hid (Ext.trans HX5.out hx)
        clear hx
        go_wp2_with fail
        go_ret
        exact ⟨rfl, HX7.out⟩
    by_cases he : e0 = 11
    · have HE := hid he
      have t9 : (e0 == 9) = false := by simp [he]
      have t10 : (e0 == 10) = false := by simp [he]
      have t11 : (e0 == 11) = true := by simp [he]
      have t12 : (e0 == 12) = false := by simp [he]
      clear he
      have p0 := cell_old (.cells #[.int .i64 e0, .int .i64 n] 29) (other (a := ⟨w.heap.size, 2, none⟩) (v := .int .i64 n) q0 (ao (by omega)))
      have p1 := cell_old (.cells #[.int .i64 e0, .int .i64 n] 29) (other (a := ⟨w.heap.size, 2, none⟩) (v := .int .i64 n) q1 (ao (by omega)))
      have p2 := cell_old (.cells #[.int .i64 e0, .int .i64 n] 29) (same_of (v := .int .i64 n) q2)
      have p3 := cell_old (.cells #[.int .i64 e0, .int .i64 n] 29) (other (a := ⟨w.heap.size, 2, none⟩) (v := .int .i64 n) q3 (ao (by omega)))
      have PN0 := hid (cell_new (w2.setCell ⟨w.heap.size, 2, none⟩ (.int .i64 n)) #[.int .i64 e0, .int .i64 n] 29 (b := w2.heap.size) (i := 0) (v := .int .i64 e0) (size_setCell _ _ _).symm rfl)
      have HX4 := hid ((HX2.out.setCell (p := ⟨w.heap.size, 2, none⟩) (Nat.le_refl _) (.int .i64 n)).alloc (by rw [size_setCell]; omega) (.cells #[.int .i64 e0, .int .i64 n] 29))
      have HO4 := hid (HO1.out.to (w' := (w2.setCell ⟨w.heap.size, 2, none⟩ (.int .i64 n)).alloc (.cells #[.int .i64 e0, .int .i64 n] 29)) (fun k hk => by
        have h1 := HS.out k hk
        have h2 := HX4.out.block k h1
        rw [h2]
        exact (Below.heap_alloc _ _ _ h1).symm) (fun _ h => h))
      have HS4 : Hid (∀ k, S k → k < ((w2.setCell ⟨w.heap.size, 2, none⟩ (.int .i64 n)).alloc (.cells #[.int .i64 e0, .int .i64 n] 29)).heap.size) := hid (fun k hk => by have := HS.out k hk; rw [size_alloc, size_setCell]; omega)
      have hsz4 : ((w2.setCell ⟨w.heap.size, 2, none⟩ (.int .i64 n)).alloc (.cells #[.int .i64 e0, .int .i64 n] 29)).heap.size = w2.heap.size + 1 := by rw [size_alloc, size_setCell]
      by_cases hm2 : mayLimits a b n d
      · have HM2 := hid hm2
        have hG := run_raise (s := MSt.new a b c d) rfl HOk.out l 0 HR.out (by have := HE.out; omega)
        rw [show (MSt.new a b c d).raise e0 n = MSt.new a b n d from by rw [HE.out]; rfl] at hG
        have hgl := run_le (MSt.new a b n d) l 0
        rcases hR2 : runSpec (MSt.new a b n d) l 0 with ⟨g, e2, n2⟩
        rw [hR2] at hG hgl
        simp only [Nat.zero_add] at hgl
        have HG := hid hG
        have HR2 := hid hR2
        have hg1 := hG.1
        simp only at hg1
        clear hm2 hG hR2
        go_wp2_with fail
        generalize hw4 : (w2.setCell ⟨w.heap.size, 2, none⟩ (.int .i64 n)).alloc (.cells #[.int .i64 e0, .int .i64 n] 29) = w4 at *
        have HW4 := hid hw4
        clear hw4
        refine (new_yes a b n d _ HM2.out).mono ?_
        rintro e w5 ⟨k5, -, -, hx, rfl⟩
        have p0' := hx.cell p0
        have p1' := hx.cell p1
        have p2' := hx.cell p2
        have p3' := hx.cell p3
        have PN5 := hid (hx.cell PN0.out)
        have HX5 := hid (Ext.trans HX4.out hx)
        have HO5 := hid (HO4.out.to (Kept.of_below hx |>.mono (fun k hk => by have := HS4.out k hk; exact this)) (fun _ h => h))
        have HS5 : Hid (∀ k, S k → k < w5.heap.size) := hid (fun k hk => Nat.lt_of_lt_of_le (HS4.out k hk) hx.size)
        clear hx p0 p1 p2 p3 q0 q1 q2 q3 f0 r0 r1 r2 r3 g0
        go_wp2_with fail
        refine (run_yes a b n d _ l _ HO5.out HS5.out HM2.out).mono ?_
        rintro e w6 ⟨rfl, hx⟩
        rw [HR2.out]
        have HX6 := hid ((Ext.trans HX5.out hx).alloc (.cells #[.int .i64 e2, .int .i64 n2] 29))
        have pn := cell_old (.cells #[.int .i64 e2, .int .i64 n2] 29) (hx.cell PN5.out)
        clear hx p0' p1' p2' p3'
        have hgf : f < g := by have h1 := HG.out.2; have h2 := HE.out; omega
        go_wp2_with fail
        refine (known_any _).mono ?_
        rintro e w7 ⟨rfl, hx⟩
        have HX7 := hid (Ext.trans HX6.out hx)
        clear hx
        go_wp2_with fail
        go_ret
        exact ⟨rfl, HX7.out⟩
      · have HM2 := hid hm2
        clear hm2
        go_wp2_with fail
        generalize hw4 : (w2.setCell ⟨w.heap.size, 2, none⟩ (.int .i64 n)).alloc (.cells #[.int .i64 e0, .int .i64 n] 29) = w4 at *
        have HW4 := hid hw4
        clear hw4
        refine (new_no a b n d _ HM2.out).mono ?_
        rintro e w5 ⟨hx, rfl⟩
        have HX5 := hid (Ext.trans HX4.out hx)
        clear hx
        go_wp2_with fail
        refine (known_any _).mono ?_
        rintro e w7 ⟨rfl, hx⟩
        have HX7 := hid (Ext.trans HX5.out hx)
        clear hx
        go_wp2_with fail
        go_ret
        exact ⟨rfl, HX7.out⟩
    by_cases he : e0 = 12
    · have HE := hid he
      have t9 : (e0 == 9) = false := by simp [he]
      have t10 : (e0 == 10) = false := by simp [he]
      have t11 : (e0 == 11) = false := by simp [he]
      have t12 : (e0 == 12) = true := by simp [he]
      clear he
      have p0 := cell_old (.cells #[.int .i64 e0, .int .i64 n] 29) (other (a := ⟨w.heap.size, 3, none⟩) (v := .int .i64 n) q0 (ao (by omega)))
      have p1 := cell_old (.cells #[.int .i64 e0, .int .i64 n] 29) (other (a := ⟨w.heap.size, 3, none⟩) (v := .int .i64 n) q1 (ao (by omega)))
      have p2 := cell_old (.cells #[.int .i64 e0, .int .i64 n] 29) (other (a := ⟨w.heap.size, 3, none⟩) (v := .int .i64 n) q2 (ao (by omega)))
      have p3 := cell_old (.cells #[.int .i64 e0, .int .i64 n] 29) (same_of (v := .int .i64 n) q3)
      have PN0 := hid (cell_new (w2.setCell ⟨w.heap.size, 3, none⟩ (.int .i64 n)) #[.int .i64 e0, .int .i64 n] 29 (b := w2.heap.size) (i := 0) (v := .int .i64 e0) (size_setCell _ _ _).symm rfl)
      have HX4 := hid ((HX2.out.setCell (p := ⟨w.heap.size, 3, none⟩) (Nat.le_refl _) (.int .i64 n)).alloc (by rw [size_setCell]; omega) (.cells #[.int .i64 e0, .int .i64 n] 29))
      have HO4 := hid (HO1.out.to (w' := (w2.setCell ⟨w.heap.size, 3, none⟩ (.int .i64 n)).alloc (.cells #[.int .i64 e0, .int .i64 n] 29)) (fun k hk => by
        have h1 := HS.out k hk
        have h2 := HX4.out.block k h1
        rw [h2]
        exact (Below.heap_alloc _ _ _ h1).symm) (fun _ h => h))
      have HS4 : Hid (∀ k, S k → k < ((w2.setCell ⟨w.heap.size, 3, none⟩ (.int .i64 n)).alloc (.cells #[.int .i64 e0, .int .i64 n] 29)).heap.size) := hid (fun k hk => by have := HS.out k hk; rw [size_alloc, size_setCell]; omega)
      have hsz4 : ((w2.setCell ⟨w.heap.size, 3, none⟩ (.int .i64 n)).alloc (.cells #[.int .i64 e0, .int .i64 n] 29)).heap.size = w2.heap.size + 1 := by rw [size_alloc, size_setCell]
      by_cases hm2 : mayLimits a b c n
      · have HM2 := hid hm2
        have hG := run_raise (s := MSt.new a b c d) rfl HOk.out l 0 HR.out (by have := HE.out; omega)
        rw [show (MSt.new a b c d).raise e0 n = MSt.new a b c n from by rw [HE.out]; rfl] at hG
        have hgl := run_le (MSt.new a b c n) l 0
        rcases hR2 : runSpec (MSt.new a b c n) l 0 with ⟨g, e2, n2⟩
        rw [hR2] at hG hgl
        simp only [Nat.zero_add] at hgl
        have HG := hid hG
        have HR2 := hid hR2
        have hg1 := hG.1
        simp only at hg1
        clear hm2 hG hR2
        go_wp2_with fail
        generalize hw4 : (w2.setCell ⟨w.heap.size, 3, none⟩ (.int .i64 n)).alloc (.cells #[.int .i64 e0, .int .i64 n] 29) = w4 at *
        have HW4 := hid hw4
        clear hw4
        refine (new_yes a b c n _ HM2.out).mono ?_
        rintro e w5 ⟨k5, -, -, hx, rfl⟩
        have p0' := hx.cell p0
        have p1' := hx.cell p1
        have p2' := hx.cell p2
        have p3' := hx.cell p3
        have PN5 := hid (hx.cell PN0.out)
        have HX5 := hid (Ext.trans HX4.out hx)
        have HO5 := hid (HO4.out.to (Kept.of_below hx |>.mono (fun k hk => by have := HS4.out k hk; exact this)) (fun _ h => h))
        have HS5 : Hid (∀ k, S k → k < w5.heap.size) := hid (fun k hk => Nat.lt_of_lt_of_le (HS4.out k hk) hx.size)
        clear hx p0 p1 p2 p3 q0 q1 q2 q3 f0 r0 r1 r2 r3 g0
        go_wp2_with fail
        refine (run_yes a b c n _ l _ HO5.out HS5.out HM2.out).mono ?_
        rintro e w6 ⟨rfl, hx⟩
        rw [HR2.out]
        have HX6 := hid ((Ext.trans HX5.out hx).alloc (.cells #[.int .i64 e2, .int .i64 n2] 29))
        have pn := cell_old (.cells #[.int .i64 e2, .int .i64 n2] 29) (hx.cell PN5.out)
        clear hx p0' p1' p2' p3'
        have hgf : f < g := by have h1 := HG.out.2; have h2 := HE.out; omega
        go_wp2_with fail
        refine (known_any _).mono ?_
        rintro e w7 ⟨rfl, hx⟩
        have HX7 := hid (Ext.trans HX6.out hx)
        clear hx
        go_wp2_with fail
        go_ret
        exact ⟨rfl, HX7.out⟩
      · have HM2 := hid hm2
        clear hm2
        go_wp2_with fail
        generalize hw4 : (w2.setCell ⟨w.heap.size, 3, none⟩ (.int .i64 n)).alloc (.cells #[.int .i64 e0, .int .i64 n] 29) = w4 at *
        have HW4 := hid hw4
        clear hw4
        refine (new_no a b c n _ HM2.out).mono ?_
        rintro e w5 ⟨hx, rfl⟩
        have HX5 := hid (Ext.trans HX4.out hx)
        clear hx
        go_wp2_with fail
        refine (known_any _).mono ?_
        rintro e w7 ⟨rfl, hx⟩
        have HX7 := hid (Ext.trans HX5.out hx)
        clear hx
        go_wp2_with fail
        go_ret
        exact ⟨rfl, HX7.out⟩
    have t9 : (e0 == 9) = false := by simp; omega
    have t10 : (e0 == 10) = false := by simp; omega
    have t11 : (e0 == 11) = false := by simp; omega
    have t12 : (e0 == 12) = false := by simp; omega
    go_wp2_with fail
    refine (known_any _).mono ?_
    rintro e w7 ⟨rfl, hx⟩
    have HX7 := hid (HX3.out.trans hx)
    clear hx
    go_wp2_with fail
    go_ret
    exact ⟨rfl, HX7.out⟩
end Go.Proofs.Ytpooglajfiddhaa
