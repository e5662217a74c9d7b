/- A monomial's degree in a variable, its class; the order of two, as polynomials use it. -/
import Derived.Test.YthplgldclilccaaMonoCompare
namespace Go.Proofs.Ythplgldclilccaa
open Go.RowKit

theorem Pows.empty (S : Nat → Prop) (w : World) (a : Option Addr) : Pows S w (.slice a 0 0) [] :=
  ⟨0, 0, ⟨a, 0, rfl, Nat.le_refl _, Nat.zero_le _, fun h => absurd h (Nat.lt_irrefl _), fun h => absurd h (Nat.lt_irrefl _)⟩, fun j x hx => by simp at hx⟩


/-- the error behind it -/
def orderE (a b : Mono) : Int := if mayM a && mayM b then 0 else 2

theorem mono_compare' {S : Nat → Prop} (va vb : Value) (a b : Mono) (w : World) (ha : Pows S w va a) (hb : Pows S w vb b) (hS : ∀ k, S k → k < w.heap.size) :
    Calls Try.prog 85 #[va, vb] w fun e w' => e = .returned (.tuple #[.int .i64 (orderM a b), .int .i64 (orderE a b)]) ∧ Ext w w' := mono_compare va vb a b w ha hb hS

theorem poly_order {S : Nat → Prop} (va vb : Value) (a b : Mono) (w : World) (ha : Pows S w va a) (hb : Pows S w vb b) (hS : ∀ k, S k → k < w.heap.size) :
    Calls Try.prog 48 #[va, vb] w fun e w' => e = .returned (.int .i64 (orderM a b)) ∧ Ext w w' := by
  have HA := hid ha
  have HB := hid hb
  obtain ⟨aa, ca, rfl⟩ := ha.form
  obtain ⟨ab, cb, rfl⟩ := hb.form
  clear ha hb
  go_enter Try.func48, Try.ntmps48
  go_wp2_with fail
  refine (mono_compare' _ _ a b w HA.out HB.out hS).mono ?_
  rintro e w1 ⟨rfl, hx1⟩
  have HX1 := hid hx1
  clear hx1
  go_wp2
  all_goals
    go_ret
    exact ⟨rfl, HX1.out⟩

theorem mono_plain {S : Nat → Prop} (v : Value) (m : Mono) (w : World) (h : Pows S w v m) (hS : ∀ k, S k → k < w.heap.size) :
    Calls Try.prog 87 #[v] w fun e w' => ∃ v', e = .returned v' ∧ Pows S w' v' (plainM m) ∧ Ext w w' := by
  have H := hid h
  obtain ⟨a, c, rfl⟩ := h.form
  clear h
  go_enter Try.func87, Try.ntmps87
  go_wp2_with fail
  refine (mono_may _ m w H.out hS).mono ?_
  rintro e w1 ⟨rfl, hx1⟩
  have HX1 := hid hx1
  clear hx1
  cases hm : mayM m with
  | false =>
    go_wp2
    all_goals
      go_ret
      refine ⟨_, rfl, ?_, HX1.out⟩
      rw [show plainM m = [] by simp [plainM, hm]]
      exact Pows.empty _ _ _
  | true =>
    go_wp2
    all_goals
      go_ret
      refine ⟨_, rfl, ?_, HX1.out⟩
      rw [show plainM m = m by simp [plainM, hm]]
      exact H.out.to (Kept.ext HX1.out hS) (fun _ h => h)

theorem ex_drop {m : Mono} {k : Nat} {x : Int × Int} {v : Int} (h : m[k]? = some x) : ex (m.drop k) v = if x.1 = v then x.2 else ex (m.drop (k + 1)) v := by
  rw [drop_at h]
  rfl

set_option maxHeartbeats 1000000 in
theorem mono_degree {S : Nat → Prop} (v : Value) (m : Mono) (x : Int) (w : World) (h : Pows S w v m) (hS : ∀ k, S k → k < w.heap.size) (hx : -9223372036854775808 ≤ x ∧ x ≤ 9223372036854775807) :
    Calls Try.prog 59 #[v, .int .i64 x] w fun e w' => e = .returned (.int .i64 (ex (plainM m) x)) ∧ Ext w w' := by
  have H := hid h
  obtain ⟨a, c, rfl⟩ := h.form
  clear h
  go_enter Try.func59, Try.ntmps59
  go_wp2_with fail
  refine (mono_plain _ m w H.out hS).mono ?_
  rintro e w1 ⟨v', rfl, hp, hx1⟩
  have hS1 : ∀ k, S k → k < w1.heap.size := fun k hk => Nat.lt_of_lt_of_le (hS k hk) hx1.size
  have HX1 := hid hx1
  clear hx1 H
  generalize hpm : plainM m = m' at hp
  have HPM := hid hpm
  clear hpm
  have hl := hp.len_le
  have HP := hid hp
  obtain ⟨a', c', rfl⟩ := hp.form
  clear hp
  go_wp2
  go_loopw [10] (fun i wr => ∃ k : Nat, k ≤ m'.length ∧ i = .int .i64 k ∧ Ext w1 wr ∧ ex m' x = ex (m'.drop k) x) (fun i _ => m'.length - (intOf i).toNat)
  case atStart => exact ⟨0, Nat.zero_le _, rfl, Ext.refl _, rfl⟩
  case round =>
    obtain ⟨k, hk, rfl, hxr, hm⟩ := hrel
    have HM := hid hm
    clear hm
    by_cases hlt : k < m'.length
    · obtain ⟨t, ht⟩ := some_of_lt hlt
      obtain ⟨b, off, cap', hv, hcap, hmax, ⟨hb1, hb2⟩, h1, h2⟩ := (HP.out.to (Kept.ext hxr hS1) (fun _ h => h)).at ht
      obtain ⟨rfl, -, rfl⟩ : a' = some ⟨b, off, none⟩ ∧ True ∧ c' = cap' := by simpa using hv
      have HE := hid (ex_drop (v := x) ht)
      have HX := hid hxr
      clear hv ht hxr
      obtain ⟨u, z⟩ := t
      simp only at h1 h2 hb1 hb2 HE
      by_cases hu : u = x
      · have hb : (u == x) = true := by simpa using hu
        have HU := hid hu
        clear hu
        go_wp2
        all_goals
          go_ret
          refine ⟨?_, HX1.out.trans (HX.out.alloc _)⟩
          rw [HPM.out, HM.out, HE.out, if_pos HU.out]
          rfl
      · have hb : (u == x) = false := by simpa using hu
        have HU := hid hu
        clear hu
        go_wp2
        go_roundw
        case rel => exact ⟨k + 1, by omega, by go_num, HX.out.alloc _, by rw [HM.out, HE.out, if_neg HU.out]⟩
        case measure => simp only [intOf]; omega
    · obtain rfl : k = m'.length := by omega
      have HX := hid hxr
      go_wp2
      all_goals
        go_ret
        refine ⟨?_, HX1.out.trans HX.out⟩
        rw [HPM.out, HM.out, List.drop_length]
        rfl

theorem mono_class {S : Nat → Prop} (v : Value) (m : Mono) (w : World) (h : Pows S w v m) (hS : ∀ k, S k → k < w.heap.size) :
    Calls Try.prog 54 #[v] w fun e w' => e = .returned (.int .i64 (classM (plainM m))) ∧ Ext w w' := by
  have H := hid h
  obtain ⟨a, c, rfl⟩ := h.form
  clear h
  go_enter Try.func54, Try.ntmps54
  go_wp2_with fail
  refine (mono_plain _ m w H.out hS).mono ?_
  rintro e w1 ⟨v', rfl, hp, hx1⟩
  have HX1 := hid hx1
  clear hx1 H
  generalize hpm : plainM m = m' at hp
  have HPM := hid hpm
  clear hpm
  have hl := hp.len_le
  have HP := hid hp
  obtain ⟨a', c', rfl⟩ := hp.form
  clear hp
  by_cases h0 : 0 < m'.length
  · obtain ⟨t, ht⟩ := some_of_lt (show m'.length - 1 < m'.length by omega)
    obtain ⟨b, off, cap', hv, hcap, hmax, ⟨hb1, hb2⟩, h1, h2⟩ := HP.out.at ht
    obtain ⟨rfl, -, rfl⟩ : a' = some ⟨b, off, none⟩ ∧ True ∧ c' = cap' := by simpa using hv
    have e : classM m' = t.1 := by
      unfold classM
      rw [List.getLast?_eq_getElem?, ht]
      rfl
    have E := hid e
    clear hv ht e
    go_wp2
    all_goals
      go_ret
      refine ⟨?_, HX1.out⟩
      rw [HPM.out, E.out]
      rfl
  · have e : m' = [] := List.length_eq_zero_iff.1 (by omega)
    subst e
    go_wp2
    all_goals
      go_ret
      refine ⟨?_, HX1.out⟩
      rw [HPM.out]
      rfl
end Go.Proofs.Ythplgldclilccaa
