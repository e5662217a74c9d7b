/- The document's monomials: which may be, their exponents. -/
import Derived.Test.YthplgldclilccaaArr
import Derived.Test.YthplgldclilccaaOrd
import Derived.Test.YthplgldclilccaaRankPlain
import Derived.Test.YthplgldclilccaaLater
namespace Go.Proofs.Ythplgldclilccaa
open Go.RowKit

theorem Pows.ext' {S : Nat → Prop} {w W : World} {v : Value} {zs : Mono} (h : Pows S w v zs) (hx : Ext w W) (hS : ∀ k, S k → k < w.heap.size) : Pows S W v zs := h.to (Kept.ext hx hS) (fun _ h => h)
/-- the cells of a power -/
theorem Pows.cellAt {S : Nat → Prop} {w : World} {m : Mono} {a : Option Addr} {n cap k : Nat} {x : Int × Int} (h : Pows S w (.slice a n cap) m) (hx : m[k]? = some x) :
    ∃ b off, a = some ⟨b, off, none⟩ ∧ n = m.length ∧ n ≤ cap ∧ cap ≤ 9223372036854775807 ∧ S b ∧
      ((-9223372036854775808 ≤ x.1 ∧ x.1 ≤ 9223372036854775807) ∧ -9223372036854775808 ≤ x.2 ∧ x.2 ≤ 9223372036854775807) ∧
      w.cell? ⟨b, off + k * 2, none⟩ = some (.int .i64 x.1) ∧ w.cell? ⟨b, off + k * 2 + 1, none⟩ = some (.int .i64 x.2) := by
  obtain ⟨b, off, ⟨a', cap', h1, h2, h3, h4, h5⟩, hc⟩ := h
  obtain ⟨rfl, rfl, rfl⟩ : a = a' ∧ n = m.length ∧ cap = cap' := by simpa using h1
  have hp : 0 < m.length := by have := lt_of_some hx; omega
  exact ⟨b, off, h4 hp, rfl, h2, h3, h5 hp, (hc k x hx).1, (hc k x hx).2.1, (hc k x hx).2.2⟩

/-- the variable before the k-th power -/
def lastV (m : Mono) : Nat → Int
  | 0 => 0
  | k + 1 => ((m[k]?).map (·.1)).getD 0

set_option maxRecDepth 100000 in
set_option maxHeartbeats 2000000 in
theorem rmono_may {S : Nat → Prop} (v : Value) (m : Mono) (w : World) (h : Pows S w v m) (hS : ∀ k, S k → k < w.heap.size) :
    Calls Try.prog 72 #[v] w fun e w' => e = .returned (.bool (mayM m)) ∧ Ext w w' := by
  have hl := h.len_le
  have H := hid h
  obtain ⟨a, cap, rfl⟩ := h.form
  clear h
  go_enter Try.func72, Try.ntmps72
  go_wp2
  go_loopw [3] (fun i wr => ∃ k : Nat, k ≤ m.length ∧ i = .int .i64 k ∧ Ext w wr ∧ mayM m = mayTail (lastV m k) (m.drop k) ∧ 0 ≤ lastV m k) (fun i _ => m.length - (intOf i).toNat)
  case atStart => exact ⟨0, Nat.zero_le _, rfl, Ext.refl _, rfl, by simp [lastV]⟩
  case round =>
    obtain ⟨k, hk, rfl, hx, hm, hl0⟩ := hrel
    by_cases hlt : k < m.length
    · obtain ⟨t, ht⟩ := some_of_lt hlt
      have hT := drop_at ht
      rw [hT, mayTail] at hm
      have hl1 : lastV m (k + 1) = t.1 := by simp [lastV, ht]
      obtain ⟨b, off, rfl, -, hn1, hm1, hSb, ⟨hb1, hb2⟩, h1, h2⟩ := (H.out.ext' hx hS).cellAt ht
      have HM := hid hm
      have HX := hid hx
      have HL1 := hid hl1
      obtain ⟨x, z⟩ := t
      simp only at h1 h2 hb1 hb2 HM HL1
      clear hm hT hl1
      by_cases hbad : x < 1 ∨ 200 < x ∨ z < 1 ∨ 10000 < z
      · have hf : Hid (mayM m = false) := hid (by
          rw [HM.out]
          have : ¬ (lastV m k < x ∧ x ≤ 200 ∧ 1 ≤ z ∧ z ≤ 10000) := by omega
          simp [this])
        clear hx ht hl0
        rcases hbad with g | g | g | g <;> go_wp2
        all_goals
          go_ret
          exact ⟨by rw [hf.out]; rfl, HX.out⟩
      · have g1 : 1 ≤ x := by omega
        have g2 : x ≤ 200 := by omega
        have g3 : 1 ≤ z := by omega
        have g4 : z ≤ 10000 := by omega
        clear hbad ht hl0
        cases k with
        | zero =>
          simp only [Nat.zero_mul, Nat.add_zero] at h1 h2
          have hf : Hid (mayM m = mayTail (lastV m (0 + 1)) (m.drop (0 + 1))) := hid (by
            rw [HM.out, HL1.out]
            have : lastV m 0 < x ∧ x ≤ 200 ∧ 1 ≤ z ∧ z ≤ 10000 := ⟨by show (0 : Int) < x; omega, g2, g3, g4⟩
            simp [this])
          have hl2 : Hid (0 ≤ lastV m (0 + 1)) := hid (by rw [HL1.out]; omega)
          clear hx
          go_wp2
          go_quiet (fail)
          go_wp2
          go_roundw
          case rel => exact ⟨0 + 1, by omega, by go_num, HX.out.drewN _, hf.out, hl2.out⟩
          case measure => simp only [intOf]; omega
        | succ q =>
          obtain ⟨y, hy⟩ := some_of_lt (show q < m.length by omega)
          obtain ⟨b', off', hbb, -, -, -, -, ⟨hc1, hc2⟩, h3, h4⟩ := (H.out.ext' hx hS).cellAt hy
          obtain ⟨rfl, rfl⟩ : b = b' ∧ off = off' := by simpa using hbb
          have hl3 : lastV m (q + 1) = y.1 := by simp [lastV, hy]
          have HL3 := hid hl3
          obtain ⟨u, t⟩ := y
          simp only at h3 h4 hc1 hc2 HL3
          have hq1 : ((q : Nat) : Int) + 1 - 1 = (q : Int) := by omega
          clear hy hbb hl3 hx
          by_cases hux : u < x
          · have hf : Hid (mayM m = mayTail (lastV m (q + 1 + 1)) (m.drop (q + 1 + 1))) := hid (by
              rw [HM.out, HL1.out]
              have : lastV m (q + 1) < x ∧ x ≤ 200 ∧ 1 ≤ z ∧ z ≤ 10000 := ⟨by rw [HL3.out]; exact hux, g2, g3, g4⟩
              simp [this])
            have hl2 : Hid (0 ≤ lastV m (q + 1 + 1)) := hid (by rw [HL1.out]; omega)
            have hd : decide (x ≤ u) = false := decide_eq_false (by omega)
            go_wp2
            go_quiet (fail)
            go_wp2
            go_roundw
            case rel => exact ⟨q + 1 + 1, by omega, by go_num, HX.out.drewN _, hf.out, hl2.out⟩
            case measure => simp only [intOf]; omega
          · have hf : Hid (mayM m = false) := hid (by
              rw [HM.out]
              have : ¬ (lastV m (q + 1) < x ∧ x ≤ 200 ∧ 1 ≤ z ∧ z ≤ 10000) := by rw [HL3.out]; omega
              simp [this])
            have hd : decide (x ≤ u) = true := decide_eq_true (by omega)
            go_wp2
            go_quiet (fail)
            go_wp2
            all_goals
              go_ret
              exact ⟨by rw [hf.out]; rfl, HX.out.drewN _⟩
    · obtain rfl : k = m.length := by omega
      have HX := hid hx
      have hf : Hid (mayM m = true) := hid (by rw [hm, List.drop_length]; rfl)
      clear hx hm hl0
      go_wp2
      all_goals
        go_ret
        exact ⟨by rw [hf.out]; rfl, HX.out⟩
end Go.Proofs.Ythplgldclilccaa
