/- The statements' known case: two meters, a step too much, a number too long. -/
import Derived.Test.YtpooglajfiddhaaMeterRef
namespace Go.Proofs.Ytpooglajfiddhaa
open Go.RowKit

theorem new_yes (a b c d : Int) (w : World) (h : mayLimits a b c d) :
    Calls Try.prog 10 #[.agg #[.int .i64 a, .int .i64 b, .int .i64 c, .int .i64 d]] w fun e w' => ∃ k, w.heap.size ≤ k ∧ MeterAt w' k (MSt.new a b c d) ∧ Ext w w' ∧ e = .returned (.tuple #[.pointer (some ⟨k, 0, none⟩), .int .i64 0]) := by
  refine (new_any a b c d w).mono ?_
  rintro e w' ⟨hx, ⟨_, k, h1, h2, h3⟩ | ⟨h1, _⟩⟩
  · exact ⟨k, h1, h2, hx, h3⟩
  · exact absurd h h1
theorem new_no (a b c d : Int) (w : World) (h : ¬ mayLimits a b c d) :
    Calls Try.prog 10 #[.agg #[.int .i64 a, .int .i64 b, .int .i64 c, .int .i64 d]] w fun e w' => Ext w w' ∧ e = .returned (.tuple #[.pointer none, .int .i64 2]) := by
  refine (new_any a b c d w).mono ?_
  rintro e w' ⟨hx, ⟨h1, _⟩ | ⟨_, h1⟩⟩
  · exact absurd h1 h
  · exact ⟨hx, h1⟩

theorem ext_of_gb {a w w' : World} {b : Nat} (h : Ext a w) (g : w.grownBy w' (some b)) (hb : a.heap.size ≤ b) : Ext a w' := Below.grown h g h.size (fun k hk => by simp at hk; omega)

def RetTrue (w : World) : Ending → World → Prop := fun e w' => e = .returned (.bool true) ∧ Ext w w'

/-- the known case's polynomial, as it is built -/
def knownPoly : List RTerm := [⟨⟨false, [0, 1]⟩, [(1, 1)]⟩]
theorem knownPoly_at (w : World) : Terms (fun k => w.heap.size ≤ k ∧ k < w.heap.size + 3) (((w.alloc (.cells #[.int .u32 0, .int .u32 1] 56)).alloc (.cells #[.int .i64 1, .int .i64 1] 77)).alloc
      (.cells #[.bool false, .slice (some ⟨w.heap.size, 0, none⟩) 2 2, .slice (some ⟨w.heap.size + 1, 0, none⟩) 1 1] 75)) (.slice (some ⟨w.heap.size + 1 + 1, 0, none⟩) 1 1) knownPoly := by
  refine ⟨w.heap.size + 1 + 1, 0, ⟨_, 1, rfl, Nat.le_refl _, by unfold maxLen; omega, fun _ => rfl, fun _ => by omega⟩, fun j t ht => ?_⟩
  match j, ht with
  | 0, ht =>
    obtain rfl : _ = t := by simpa [knownPoly] using ht
    refine ⟨_, _, cell_new _ _ _ (by simp) rfl, cell_new _ _ _ (by simp) rfl, cell_new _ _ _ (by simp) rfl, ?_, ?_⟩
    · refine ⟨w.heap.size, 0, ⟨_, 2, rfl, Nat.le_refl _, by unfold maxLen; omega, fun _ => rfl, fun _ => by omega⟩, fun j z hz => ?_⟩
      match j, hz with
      | 0, hz => obtain rfl : _ = z := by simpa using hz
                 exact ⟨by omega, cell_old _ (cell_old _ (cell_new _ _ _ rfl rfl))⟩
      | 1, hz => obtain rfl : _ = z := by simpa using hz
                 exact ⟨by omega, cell_old _ (cell_old _ (cell_new _ _ _ rfl rfl))⟩
    · refine ⟨w.heap.size + 1, 0, ⟨_, 1, rfl, Nat.le_refl _, by unfold maxLen; omega, fun _ => rfl, fun _ => by omega⟩, fun j z hz => ?_⟩
      match j, hz with
      | 0, hz => obtain rfl : _ = z := by simpa using hz
                 exact ⟨⟨⟨by omega, by omega⟩, by omega, by omega⟩, cell_old _ (cell_new _ _ _ (by simp) rfl), cell_old _ (cell_new _ _ _ (by simp) rfl)⟩

set_option maxRecDepth 100000 in
set_option maxHeartbeats 2000000 in
theorem known_any (w : World) : Calls Try.prog 8 #[] w (RetTrue w) := by
  go_enter Try.func8, Try.ntmps8
  go_wp2_with fail
  refine (new_yes 1 1 1 0 _ ⟨by omega, by omega, by omega, by omega⟩).mono ?_
  rintro e w1 ⟨k1, hk1, hm1, hx1, rfl⟩
  have HX1 := hid hx1
  have HM1 := hid hm1
  clear hx1 hm1
  go_wp2_with fail
  refine (new_yes 1 1 1 0 _ ⟨by omega, by omega, by omega, by omega⟩).mono ?_
  rintro e w2 ⟨k2, hk2, hm2, hx2, rfl⟩
  have HM1' := hid (HM1.out.kept hx2 (lt_of_cell HM1.out.c0))
  have HX2 := hid (HX1.out.trans hx2)
  have HM2 := hid hm2
  have hlt := lt_of_cell HM1.out.c0
  have hs2 := hx2.size
  have hlt2 := lt_of_cell hm2.c0
  clear hx2 hm2
  go_wp2_with fail
  have HP := hid (knownPoly_at w2)
  have HM3 := hid (((HM1'.out.alloc (.cells #[.int .u32 0, .int .u32 1] 56)).alloc (.cells #[.int .i64 1, .int .i64 1] 77)).alloc (.cells #[.bool false, .slice (some ⟨w2.heap.size, 0, none⟩) 2 2, .slice (some ⟨w2.heap.size + 1, 0, none⟩) 1 1] 75))
  have HN3 := hid (((HM2.out.alloc (.cells #[.int .u32 0, .int .u32 1] 56)).alloc (.cells #[.int .i64 1, .int .i64 1] 77)).alloc (.cells #[.bool false, .slice (some ⟨w2.heap.size, 0, none⟩) 2 2, .slice (some ⟨w2.heap.size + 1, 0, none⟩) 1 1] 75))
  have HX3 := hid (Ext.alloc (Ext.alloc (Ext.alloc HX2.out (.cells #[.int .u32 0, .int .u32 1] 56)) (.cells #[.int .i64 1, .int .i64 1] 77)) (.cells #[.bool false, .slice (some ⟨w2.heap.size, 0, none⟩) 2 2, .slice (some ⟨w2.heap.size + 1, 0, none⟩) 1 1] 75))
  have hs3 : (((w2.alloc (.cells #[.int .u32 0, .int .u32 1] 56)).alloc (.cells #[.int .i64 1, .int .i64 1] 77)).alloc (.cells #[.bool false, .slice (some ⟨w2.heap.size, 0, none⟩) 2 2, .slice (some ⟨w2.heap.size + 1, 0, none⟩) 1 1] 75)).heap.size = w2.heap.size + 3 := by simp
  generalize ((w2.alloc (.cells #[.int .u32 0, .int .u32 1] 56)).alloc (.cells #[.int .i64 1, .int .i64 1] 77)).alloc (.cells #[.bool false, .slice (some ⟨w2.heap.size, 0, none⟩) 2 2, .slice (some ⟨w2.heap.size + 1, 0, none⟩) 1 1] 75) = w3 at *
  have HS3 := hid hs3
  clear hs3
  have c := step_any k1 _ w3 HM3.out ⟨by decide, by decide, by decide, by decide, by decide, by decide, by decide, by decide, by decide, by decide, by decide, by decide⟩
  rw [show (MSt.new 1 1 1 0).step = (0, ⟨1, 1, 1, 0, 1, 0, 0, 0⟩) from by decide] at c
  refine c.mono ?_
  clear c
  rintro e w4 ⟨rfl, hm4, hg4⟩
  have HM4 := hid hm4
  have HG4 := hid hg4
  clear hm4 hg4
  go_wp2_with fail
  have c := step_any k1 _ w4 HM4.out ⟨by decide, by decide, by decide, by decide, by decide, by decide, by decide, by decide, by decide, by decide, by decide, by decide⟩
  rw [show (⟨1, 1, 1, 0, 1, 0, 0, 0⟩ : MSt).step = (9, ⟨1, 1, 1, 0, 1, 0, 9, 2⟩) from by decide] at c
  refine c.mono ?_
  clear c
  rintro e w5 ⟨rfl, hm5, hg5⟩
  have HM5 := hid hm5
  have HG5 := hid (gb_trans HG4.out hg5)
  clear hm5 hg5
  go_wp2_with fail
  refine (Need_any k1 _ w5 HM5.out).mono ?_
  rintro e w6 ⟨rfl, hx6⟩
  have HM6 := hid (HM5.out.kept hx6 (lt_of_cell HM5.out.c0))
  have HG6 := hid (gb_trans HG5.out (gb_of_ext hx6 _))
  have hsz := HG6.out.size
  clear hx6
  go_wp2_with fail
  have hne : k2 ≠ k1 := by omega
  have HK6 := hid (HP.out.to (w' := w6) (Kept.grown HG6.out (fun k hk => ⟨by rw [HS3.out]; exact hk.2, by simp; omega⟩)) (fun _ h => h))
  have c := keep_any k2 _ _ knownPoly w6 (HN3.out.grown HG6.out (by simp; omega)) HK6.out (fun k hk => by have := HS3.out; omega)
  rw [show (MSt.new 1 1 1 0).keep (mostLimbs knownPoly knownPoly.length) knownPoly.length = (10, ⟨1, 1, 1, 0, 0, 0, 10, 2⟩) from by decide] at c
  refine c.mono ?_
  clear c
  rintro e w7 ⟨rfl, hm7, hg7⟩
  have HM7 := hid hm7
  have HG7 := hid hg7
  clear hm7 hg7
  go_wp2_with fail
  refine (Need_any k2 _ w7 HM7.out).mono ?_
  rintro e w8 ⟨rfl, hx8⟩
  have HM8 := hid ((HM6.out.grown HG7.out (by simp; omega)).kept hx8 (by have := HG7.out.size; have := lt_of_cell HM6.out.c0; omega))
  have HX8 := hid ((ext_of_gb (ext_of_gb HX3.out HG6.out hk1) HG7.out (by omega)).trans hx8)
  clear hx8
  go_wp2_with fail
  refine (Fuel_any k1 _ w8 HM8.out).mono ?_
  rintro e w9 ⟨rfl, rfl⟩
  go_wp2
  go_ret
  exact ⟨rfl, HX8.out⟩
end Go.Proofs.Ytpooglajfiddhaa
