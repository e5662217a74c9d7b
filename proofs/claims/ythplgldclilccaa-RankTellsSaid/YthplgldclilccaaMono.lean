/- The walks of layer 7: May, the merge of two monomials, their order, product, degree, class. -/
import Derived.Test.YthplgldclilccaaBase
import Derived.Test.YthplgldclilccaaMonoPlain
namespace Go.Proofs.Ythplgldclilccaa
open Go.RowKit

theorem Pows.len_le {S : Nat → Prop} {w : World} {v : Value} {zs : Mono} (h : Pows S w v zs) : zs.length ≤ 9223372036854775807 := by
  obtain ⟨b, off, ⟨a, cap, h1, h2, h3, _⟩, _⟩ := h
  unfold maxLen at h3
  omega

/-- the first power, and the rest -/
theorem Pows.cons {S : Nat → Prop} {w : World} {v : Value} {x : Int × Int} {r : Mono} (h : Pows S w v (x :: r)) :
    ∃ b off n cap, v = .slice (some ⟨b, off, none⟩) (n + 1) cap ∧ n = r.length ∧ n + 1 ≤ cap ∧ cap ≤ 9223372036854775807 ∧ S b ∧
      ((-9223372036854775808 ≤ x.1 ∧ x.1 ≤ 9223372036854775807) ∧ -9223372036854775808 ≤ x.2 ∧ x.2 ≤ 9223372036854775807) ∧
      w.cell? ⟨b, off, none⟩ = some (.int .i64 x.1) ∧ w.cell? ⟨b, off + 1, none⟩ = some (.int .i64 x.2) ∧
      ∀ a', (0 < n → a' = some ⟨b, off + 2, none⟩) → Pows S w (.slice a' n (cap - 1)) r := by
  obtain ⟨b, off, ⟨a, cap, rfl, h2, h3, h4, h5⟩, hc⟩ := h
  obtain rfl := h4 (by simp)
  have c0 := hc 0 x rfl
  simp only [Nat.zero_mul, Nat.add_zero] at c0
  simp only [List.length_cons] at h2
  refine ⟨b, off, r.length, cap, rfl, rfl, h2, h3, h5 (by simp), c0.1, c0.2.1, c0.2.2, fun a' ha => ⟨b, off + 2, ⟨a', cap - 1, rfl, by omega, by unfold maxLen at *; omega, ha, fun h => h5 (by simp)⟩, fun j y hj => ?_⟩⟩
  have cj := hc (j + 1) y (by simpa using hj)
  rw [show off + (j + 1) * 2 = off + 2 + j * 2 by omega] at cj
  exact cj
theorem Pows.nil {S : Nat → Prop} {w : World} {v : Value} (h : Pows S w v []) : ∃ a cap, v = .slice a 0 cap ∧ cap ≤ 9223372036854775807 := by
  obtain ⟨b, off, ⟨a, cap, rfl, h2, h3, h4, h5⟩, hc⟩ := h
  exact ⟨a, cap, rfl, by unfold maxLen at *; omega⟩
theorem Pows.at {S : Nat → Prop} {w : World} {v : Value} {m : Mono} {k : Nat} {x : Int × Int} (h : Pows S w v m) (hx : m[k]? = some x) :
    ∃ b off cap, v = .slice (some ⟨b, off, none⟩) m.length cap ∧ m.length ≤ cap ∧ cap ≤ 9223372036854775807 ∧
      ((-9223372036854775808 ≤ x.1 ∧ x.1 ≤ 9223372036854775807) ∧ -9223372036854775808 ≤ x.2 ∧ x.2 ≤ 9223372036854775807) ∧
      w.cell? ⟨b, off + k * 2, none⟩ = some (.int .i64 x.1) ∧ w.cell? ⟨b, off + k * 2 + 1, none⟩ = some (.int .i64 x.2) := by
  obtain ⟨b, off, ⟨a, cap, rfl, h2, h3, h4, h5⟩, hc⟩ := h
  obtain rfl := h4 (by have := lt_of_some hx; omega)
  exact ⟨b, off, cap, rfl, h2, h3, hc k x hx⟩

theorem drop_at {α : Type} {l : List α} {k : Nat} {x : α} (h : l[k]? = some x) : l.drop k = x :: l.drop (k + 1) := by
  obtain ⟨hk, rfl⟩ := List.getElem?_eq_some_iff.1 h
  exact List.drop_eq_getElem_cons hk
set_option maxHeartbeats 1000000 in
theorem mono_may {S : Nat → Prop} (v : Value) (m : Mono) (w : World) (h : Pows S w v m) (hS : ∀ k, S k → k < w.heap.size) :
    Calls Try.prog 47 #[v] w fun e w' => e = .returned (.bool (mayM m)) ∧ Ext w w' := by
  have hl := h.len_le
  have H := hid h
  obtain ⟨a, cap, rfl⟩ := h.form
  go_enter Try.func47, Try.ntmps47
  go_wp2
  go_loopw [3, 8] (fun l i wr => ∃ (k : Nat) (y : Int), k ≤ m.length ∧ i = .int .i64 k ∧ l = .int .i64 y ∧ (-9223372036854775808 ≤ y ∧ y ≤ 9223372036854775807) ∧ Ext w wr ∧ mayTail 0 m = mayTail y (m.drop k)) (fun _ i _ => m.length - (intOf i).toNat)
  case atStart => exact ⟨0, 0, Nat.zero_le _, rfl, rfl, by omega, Ext.refl _, rfl⟩
  case round =>
    obtain ⟨k, y, hk, rfl, rfl, hyb, hx, hm⟩ := hrel
    have HX := hid hx
    have HM := hid hm
    clear hm
    by_cases hlt : k < m.length
    · obtain ⟨t, ht⟩ := some_of_lt hlt
      have hT := drop_at ht
      obtain ⟨b, off, cap', hv, hcap, hmax, ⟨hb1, hb2⟩, h1, h2⟩ := (H.out.to (Kept.of_below hx |>.mono hS) (fun k hk => hk)).at ht
      obtain ⟨rfl, -, rfl⟩ : a = some ⟨b, off, none⟩ ∧ True ∧ cap = cap' := by simpa using hv
      clear hv
      have HT := hid hT
      have HK := hid ht
      clear ht hT h hx
      obtain ⟨x, z⟩ := t
      simp only at h1 h2 hb1 hb2
      rcases (show (x ≤ y ∨ 200 < x ∨ z < 1 ∨ 10000 < z) ∨ (y < x ∧ x ≤ 200 ∧ 1 ≤ z ∧ z ≤ 10000) by omega) with hbad | ⟨g1, g2, g3, g4⟩
      · have hf : mayM m = false := by
          unfold mayM
          rw [HM.out, HT.out, mayTail]
          have : ¬ (y < x ∧ x ≤ 200 ∧ 1 ≤ z ∧ z ≤ 10000) := by omega
          simp [this]
        have HF := hid hf
        clear hf
        rcases hbad with g | g | g | g <;> go_wp2
        all_goals
          go_ret
          exact ⟨by rw [HF.out]; rfl, HX.out.alloc _⟩
      · go_wp2
        go_roundw
        case rel => exact ⟨k + 1, x, by omega, by go_num, rfl, hb1, HX.out.alloc _, by rw [HM.out, HT.out, mayTail]; simp [g1, g2, g3, g4]⟩
        case measure => simp only [intOf]; omega
    · obtain rfl : k = m.length := by omega
      go_wp2
      all_goals
        go_ret
        have e : mayM m = true := by
          unfold mayM
          rw [HM.out]
          simp [mayTail]
        exact ⟨by rw [e]; rfl, HX.out⟩
end Go.Proofs.Ythplgldclilccaa
