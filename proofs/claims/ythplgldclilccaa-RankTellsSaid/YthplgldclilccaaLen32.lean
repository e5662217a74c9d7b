/- The bits of a number that fits 32: 0 for 0 alone. -/
import Derived.Test.YthplgldclilccaaWhole
namespace Go.Proofs.Ythplgldclilccaa
open Go.RowKit

def tab8 : ByteArray := ⟨#[0, 1, 2, 2, 3, 3, 3, 3, 4, 4, 4, 4, 4, 4, 4, 4, 5, 5, 5, 5, 5, 5, 5, 5, 5, 5, 5, 5, 5, 5, 5, 5, 6, 6, 6, 6, 6, 6, 6, 6, 6, 6, 6, 6, 6, 6, 6, 6, 6, 6, 6, 6, 6, 6, 6, 6, 6, 6, 6, 6, 6, 6, 6, 6, 7, 7, 7, 7, 7, 7, 7, 7, 7, 7, 7, 7, 7, 7, 7, 7, 7, 7, 7, 7, 7, 7, 7, 7, 7, 7, 7, 7, 7, 7, 7, 7, 7, 7, 7, 7, 7, 7, 7, 7, 7, 7, 7, 7, 7, 7, 7, 7, 7, 7, 7, 7, 7, 7, 7, 7, 7, 7, 7, 7, 7, 7, 7, 7, 8, 8, 8, 8, 8, 8, 8, 8, 8, 8, 8, 8, 8, 8, 8, 8, 8, 8, 8, 8, 8, 8, 8, 8, 8, 8, 8, 8, 8, 8, 8, 8, 8, 8, 8, 8, 8, 8, 8, 8, 8, 8, 8, 8, 8, 8, 8, 8, 8, 8, 8, 8, 8, 8, 8, 8, 8, 8, 8, 8, 8, 8, 8, 8, 8, 8, 8, 8, 8, 8, 8, 8, 8, 8, 8, 8, 8, 8, 8, 8, 8, 8, 8, 8, 8, 8, 8, 8, 8, 8, 8, 8, 8, 8, 8, 8, 8, 8, 8, 8, 8, 8, 8, 8, 8, 8, 8, 8, 8, 8, 8, 8, 8, 8, 8, 8, 8, 8, 8, 8, 8, 8, 8, 8, 8, 8, 8, 8]⟩
set_option maxRecDepth 100000 in
theorem tab8_size : tab8.size = 256 := by decide +kernel
set_option maxRecDepth 100000 in
theorem tab8_le : ∀ i : Fin 256, (tab8.get! i.val).toNat ≤ 8 ∧ (0 < i.val → 1 ≤ (tab8.get! i.val).toNat) := by decide +kernel
theorem tab8_of (x : Int) (h0 : 0 ≤ x) (h1 : x < 256) (h : x.toNat < tab8.size) : (tab8[x.toNat]'h).toNat ≤ 8 ∧ (0 < x → 1 ≤ (tab8[x.toNat]'h).toNat) := by
  have := tab8_le ⟨x.toNat, by omega⟩
  have e : tab8.get! x.toNat = tab8[x.toNat]'h := by
    have h2 : x.toNat < tab8.data.size := h
    show tab8.data[x.toNat]! = tab8.data[x.toNat]'h2
    exact getElem!_pos _ _ _
  simp only [e] at this
  exact ⟨this.1, fun hx => this.2 (by omega)⟩

set_option maxRecDepth 100000 in
set_option maxHeartbeats 4000000 in
theorem len32_any (x : Int) (w : World) (h0 : 0 ≤ x) (h1 : x < 4294967296) :
    Calls Try.prog 114 #[.int .u32 x] w fun e w' => ∃ n : Int, e = .returned (.int .i64 n) ∧ 0 ≤ n ∧ n ≤ 32 ∧ (0 < x → 0 < n) ∧ w = w' := by
  go_enter Try.func114, Try.ntmps114
  rcases (show 16777216 ≤ x ∨ 65536 ≤ x ∧ x < 16777216 ∨ 256 ≤ x ∧ x < 65536 ∨ x < 256 by omega) with h | ⟨h, h'⟩ | ⟨h, h'⟩ | h
  · go_wp2
    go_ret
    simp only [Array.getD_eq_getD_getElem?, List.getElem?_toArray, List.getElem?_cons_succ, List.getElem?_cons_zero, Option.getD_some]
    generalize hv : UInt8.toNat _ = t
    have hb := tab8_of (x / 65536 / 256) (by omega) (by omega) (by rw [tab8_size]; omega)
    have hc : t ≤ 8 ∧ (0 < x / 65536 / 256 → 1 ≤ t) := hv ▸ hb
    obtain ⟨h3, h4⟩ := hc
    clear hb hv
    refine ⟨_, rfl, ?_, ?_, fun hx => ?_, trivial⟩ <;> (unfold wrap64; omega)
  · go_wp2
    go_ret
    simp only [Array.getD_eq_getD_getElem?, List.getElem?_toArray, List.getElem?_cons_succ, List.getElem?_cons_zero, Option.getD_some]
    generalize hv : UInt8.toNat _ = t
    have hb := tab8_of (x / 65536) (by omega) (by omega) (by rw [tab8_size]; omega)
    have hc : t ≤ 8 ∧ (0 < x / 65536 → 1 ≤ t) := hv ▸ hb
    obtain ⟨h3, h4⟩ := hc
    clear hb hv
    refine ⟨_, rfl, ?_, ?_, fun hx => ?_, trivial⟩ <;> (unfold wrap64; omega)
  · go_wp2
    go_ret
    simp only [Array.getD_eq_getD_getElem?, List.getElem?_toArray, List.getElem?_cons_succ, List.getElem?_cons_zero, Option.getD_some]
    generalize hv : UInt8.toNat _ = t
    have hb := tab8_of (x / 256) (by omega) (by omega) (by rw [tab8_size]; omega)
    have hc : t ≤ 8 ∧ (0 < x / 256 → 1 ≤ t) := hv ▸ hb
    obtain ⟨h3, h4⟩ := hc
    clear hb hv
    refine ⟨_, rfl, ?_, ?_, fun hx => ?_, trivial⟩ <;> (unfold wrap64; omega)
  · go_wp2
    go_ret
    simp only [Array.getD_eq_getD_getElem?, List.getElem?_toArray, List.getElem?_cons_succ, List.getElem?_cons_zero, Option.getD_some]
    generalize hv : UInt8.toNat _ = t
    have hb := tab8_of (x) (by omega) (by omega) (by rw [tab8_size]; omega)
    have hc : t ≤ 8 ∧ (0 < x → 1 ≤ t) := hv ▸ hb
    obtain ⟨h3, h4⟩ := hc
    clear hb hv
    refine ⟨_, rfl, ?_, ?_, fun hx => ?_, trivial⟩ <;> (unfold wrap64; omega)
end Go.Proofs.Ythplgldclilccaa
