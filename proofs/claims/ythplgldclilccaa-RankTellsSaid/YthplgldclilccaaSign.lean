/- The sign of a whole number. -/
import Derived.Test.YthplgldclilccaaLen32
namespace Go.Proofs.Ythplgldclilccaa
open Go.RowKit

set_option maxRecDepth 100000 in
set_option maxHeartbeats 2000000 in
theorem nat_bits {S : Nat → Prop} (v : Value) (zs : List Nat) (w : World) (h : U32s S w v zs) (hr : zs.length ≤ 1000000000000) :
    Calls Try.prog 84 #[v] w fun e w' => ∃ n : Int, e = .returned (.int .i64 n) ∧ 0 ≤ n ∧ n ≤ 9223372036854775807 ∧ (n = 0 ↔ val B32 zs = 0) ∧ w = w' := by
  have hle : (rep B32 (val B32 zs)).length ≤ zs.length := rep_len_le two_le_B32 _ _ (val_lt zs h.lt)
  have H := hid h
  obtain ⟨a, c, rfl⟩ := h.form
  clear h
  go_enter Try.func84, Try.ntmps84
  go_wp2_with fail
  refine (nat_short _ zs _ H.out).mono ?_
  rintro e w' ⟨v', rfl, hu, rfl⟩
  generalize hn : val B32 zs = n at hu hle
  have HN := hid hn
  have HU := hid hu
  obtain ⟨a', c', rfl⟩ := hu.form
  clear hu hn
  by_cases h0 : n = 0
  · have hl : (rep B32 n).length = 0 := by rw [h0]; rfl
    have hb : (((rep B32 n).length : Int) == 0) = true := by rw [beq_iff_eq]; omega
    have HZ := hid h0
    clear h0 hl
    go_wp2
    go_ret
    exact ⟨0, rfl, by omega, by omega, by rw [HN.out, HZ.out]; simp, rfl⟩
  · have hl : 0 < (rep B32 n).length := by
      rw [List.length_pos_iff, Ne, rep_eq_nil two_le_B32]
      exact h0
    obtain ⟨z, hz⟩ := some_of_lt (show (rep B32 n).length - 1 < (rep B32 n).length by omega)
    have hz0 : 0 < z := by
      have h1 := rep_last two_le_B32 n
      rw [List.getLast?_eq_getElem?, hz] at h1
      have : z ≠ 0 := fun e => h1 (by rw [e])
      omega
    obtain ⟨b, off, rfl, -, hn, hm, -, hzb, hc⟩ := HU.out.cellAt hz
    have hb : (((rep B32 n).length : Int) == 0) = false := by rw [beq_eq_false_iff_ne]; omega
    have HZ := hid h0
    clear h0 hz
    go_wp2_with fail
    refine (len32_any (z : Nat) _ (by omega) (by omega)).mono ?_
    rintro e w' ⟨k, rfl, hk1, hk2, hk3, rfl⟩
    have hk := hk3 (by omega)
    clear hk3
    go_wp2
    go_ret
    refine ⟨32 * (((rep B32 n).length : Int) - 1) + k, rfl, by omega, by omega, ?_, rfl⟩
    rw [HN.out]
    have := HZ.out
    omega

set_option maxRecDepth 100000 in
set_option maxHeartbeats 2000000 in
theorem whole_sign {S : Nat → Prop} (v : Value) (r : RInt) (w : World) (h : IntV S w v r) (hS : ∀ k, S k → k < w.heap.size) (hr : r.mag.length ≤ 1000000000000) :
    Calls Try.prog 45 #[v] w fun e w' => e = .returned (.int .i64 (signI (valI r))) ∧ Ext w w' := by
  obtain ⟨ng, zs⟩ := r
  obtain ⟨vm, rfl, hu⟩ := h
  simp only at hu hr ⊢
  have H := hid hu
  obtain ⟨a, c, rfl⟩ := hu.form
  clear hu
  have HE := hid (Ext.alloc (Ext.refl w) (.cells #[.bool ng, .slice a zs.length c] 68))
  go_enter Try.func45, Try.ntmps45
  go_wp2_with fail
  refine (nat_bits _ zs _ (H.out.to (Kept.ext HE.out hS) (fun _ h => h)) hr).mono ?_
  rintro e w' ⟨n, rfl, hn1, hn2, hn3, rfl⟩
  have HN := hid hn3
  clear hn3
  by_cases h0 : n = 0
  · have hb : (n == 0) = true := by rw [beq_iff_eq]; exact h0
    have HZ := hid h0
    clear h0
    have HR : Hid (signI (valI ⟨ng, zs⟩) = 0) := hid (by
      have := HN.out.1 HZ.out
      unfold signI valI
      simp [this, cmpI])
    go_wp2
    go_ret
    exact ⟨by rw [HR.out]; rfl, HE.out⟩
  · have hb : (n == 0) = false := by rw [beq_eq_false_iff_ne]; exact h0
    have HZ := hid h0
    clear h0
    have hv : val B32 zs ≠ 0 := fun e => HZ.out (HN.out.2 e)
    cases ng with
    | true =>
      have HR : Hid (signI (valI ⟨true, zs⟩) = -1) := hid (by
        unfold signI valI
        rw [cmpI_mone]
        simp
        omega)
      clear hv
      go_wp2
      go_ret
      exact ⟨by rw [HR.out]; rfl, HE.out⟩
    | false =>
      have HR : Hid (signI (valI ⟨false, zs⟩) = 1) := hid (by
        unfold signI valI
        rw [cmpI_one]
        simp
        omega)
      clear hv
      go_wp2
      go_ret
      exact ⟨by rw [HR.out]; rfl, HE.out⟩
end Go.Proofs.Ythplgldclilccaa
