/- Decimal digits: the product. -/
import Derived.Test.YthplgldclilccaaDig4
namespace Go.Proofs.Ythplgldclilccaa
open Go.RowKit

theorem World.rowIs.drewN {w : World} {g n : Nat} {T : TypeId} {f : Nat → Value} (h : w.rowIs g T n f) (q : Nat) : (w.drewN q).rowIs g T n f := h

theorem mul_step {o : List Nat} {p cc u X : Nat} (hp : p < o.length) (h : val 10 o + 10 ^ p * cc = X) : val 10 (o.set p ((cc + dg o p + u) % 10)) + 10 ^ (p + 1) * ((cc + dg o p + u) / 10) = X + 10 ^ p * u := by
  have h1 := set_val (B := 10) o p ((cc + dg o p + u) % 10) hp
  have h2 := congrArg (10 ^ p * ·) (Nat.mod_add_div (cc + dg o p + u) 10)
  simp only [Nat.mul_add] at h2
  rw [Nat.pow_succ, Nat.mul_assoc]
  omega
theorem set_lt {B : Nat} {o : List Nat} {p z : Nat} (h : ∀ x ∈ o, x < B) (hz : z < B) : ∀ x ∈ o.set p z, x < B := by
  intro x hx
  rcases List.mem_or_eq_of_mem_set hx with h1 | h1
  · exact h x h1
  · rw [h1]; exact hz
theorem dg_set_ne {o : List Nat} {p j z : Nat} (h : j ≠ p) : dg (o.set p z) j = dg o j := by
  unfold dg
  rw [List.getElem?_set_ne (fun e => h e.symm)]

/-- what is summed up: the rows ahead, and this row so far -/
def mulAt (V d Y i : Nat) : Nat := V + 10 ^ i * (d * Y)
theorem mulAt_step {V d i k : Nat} {ys : List Nat} : mulAt V d (val 10 (ys.take k)) i + 10 ^ (i + k) * (d * dg ys k) = mulAt V d (val 10 (ys.take (k + 1))) i := by
  unfold mulAt
  rw [val_take_dg, Nat.pow_add, Nat.mul_add, Nat.mul_add, Nat.mul_assoc, ← Nat.mul_assoc d, Nat.mul_comm d (10 ^ k), Nat.mul_assoc]
  omega
theorem mulAt_end {xs : List Nat} {i x Y : Nat} (hx : xs[i]? = some x) : mulAt (val 10 (xs.take i) * Y) x Y i = val 10 (xs.take (i + 1)) * Y := by
  unfold mulAt
  rw [val_take_succ hx, Nat.add_mul, Nat.mul_assoc]
theorem mul_above {xs ys o : List Nat} {i : Nat} (hx : ∀ z ∈ xs, z < 10) (hy : ∀ z ∈ ys, z < 10) (hi : i ≤ xs.length) (h : val 10 o = val 10 (xs.take i) * val 10 ys) : ∀ j, i + ys.length ≤ j → dg o j = 0 := by
  intro j hj
  by_cases hjl : j < o.length
  · refine val_zero_above (B := 10) (k := i + ys.length) (by decide) ?_ j hj hjl
    rw [h, Nat.pow_add]
    have h1 := val_lt (xs.take i) (fun z hz => hx z (List.mem_of_mem_take hz))
    rw [List.length_take, Nat.min_eq_left hi] at h1
    have h2 := val_lt ys hy
    exact Nat.mul_lt_mul'' h1 h2
  · exact dg_out (by omega)

set_option maxRecDepth 100000 in
set_option maxHeartbeats 8000000 in
theorem dig_mul {S : Nat → Prop} (va vb : Value) (xs ys : List Nat) (w : World) (ha : Digs S w va xs) (hb : Digs S w vb ys) (hS : ∀ k, S k → k < w.heap.size) (hr : xs.length ≤ 10000000) (hr2 : ys.length ≤ 10000000) :
    Calls Try.prog 125 #[va, vb] w fun e w' => ∃ v', e = .returned v' ∧ Digs (New w w') w' v' (rep 10 (val 10 xs * val 10 ys)) ∧ Ext w w' := by
  have HA := hid ha
  have HB := hid hb
  have HLA := hid ha.lt
  have HLB := hid hb.lt
  obtain ⟨aa, ca, rfl⟩ := ha.form
  obtain ⟨ab, cb, rfl⟩ := hb.form
  clear ha hb
  have hmk := run_make_row' (P := Try.prog) 98 3 (.int .i64 0) 8 Try.underlying98 Try.infoInt rfl .i64 .i64 (xs.length + ys.length + 1) (by omega) (by omega) w
  rw [show ((xs.length + ys.length + 1 : Nat) : Int) = (xs.length : Int) + (ys.length : Int) + 1 by omega] at hmk
  obtain ⟨L, hL⟩ : ∃ L, L = xs.length + ys.length + 1 := ⟨_, rfl⟩
  have hLI : (xs.length : Int) + (ys.length : Int) + 1 = (L : Int) := by omega
  rw [← hL, hLI] at hmk
  have HR := hid (rowD_zeros w L 3)
  have HE := hid (Ext.alloc (Ext.refl w) (.cells (madeCells #[.int .i64 0] L) 3))
  have HL := hid hL
  have hLb : L ≤ 20000001 := by omega
  have hLa : xs.length < L := by omega
  clear hL
  go_enter Try.func125, Try.ntmps125
  go_wp2
  go_loopw [6] (fun i wr => ∃ (n : Nat) (o : List Nat), n ≤ xs.length ∧ i = .int .i64 n ∧ Hid (o.length = L) ∧ Hid (∀ z ∈ o, z < 10) ∧ Hid (wr.rowIs w.heap.size 3 L (rowD o)) ∧ Ext w wr ∧ Hid (val 10 o = val 10 (xs.take n) * val 10 ys)) (fun i _ => xs.length - (intOf i).toNat)
  case atStart => exact ⟨0, List.replicate L 0, Nat.zero_le _, rfl, hid (by simp), hid (by simp), HR, HE.out, hid (by simp [val_zeros, val])⟩
  case round =>
    obtain ⟨n, o, hn, rfl, HOL, HO, HROW, hx, HV⟩ := hrel
    by_cases hlt : n < xs.length
    · obtain ⟨x, hx1⟩ := some_of_lt hlt
      obtain ⟨b1, o1, rfl, -, hn1, hm1, hS1, hxb, hc1⟩ := HA.out.cellAt hx1
      have HX1 := hid hx1
      have HC1 := hid hc1
      have HX := hid hx
      have HAB := hid (mul_above HLA.out HLB.out hn HV.out)
      have hLn : n + ys.length + 1 ≤ L := by have := HL.out; omega
      obtain ⟨wo, rfl⟩ : ∃ wo : World, wo = wr := ⟨_, rfl⟩
      clear hx1 hc1 hx
      go_wp2
      go_loopw [7, 8] (fun c kk wr => ∃ (k cc : Nat) (o : List Nat), k ≤ ys.length + 1 ∧ kk = .int .i64 k ∧ c = .int .i64 cc ∧ cc ≤ 9 ∧ Hid (ys.length < k → cc = 0) ∧ Hid (o.length = L) ∧ Hid (∀ z ∈ o, z < 10) ∧ Hid (wr.rowIs w.heap.size 3 L (rowD o)) ∧ Ext w wr ∧
        Hid (k ≤ ys.length → ∀ j, n + ys.length ≤ j → dg o j = 0) ∧ Hid (val 10 o + 10 ^ (n + k) * cc = mulAt (val 10 (xs.take n) * val 10 ys) x (val 10 (ys.take k)) n)) (fun _ kk _ => ys.length + 1 - (intOf kk).toNat)
      case atStart => exact ⟨0, 0, o, Nat.zero_le _, rfl, rfl, by omega, hid (fun h => absurd h (by omega)), HOL, HO, HROW, HX.out, hid (fun _ => HAB.out), hid (by rw [HV.out]; simp [mulAt, val])⟩
      case round =>
        obtain ⟨k, cc, o, hk, rfl, rfl, hcc, HZ, HOL, HO, HROW, hx, HAB, HV⟩ := hrel
        have HX := hid hx
        have hc1 := hx.cell HC1.out
        by_cases h2 : k < ys.length
        · obtain ⟨y, hy1⟩ := some_of_lt h2
          obtain ⟨b2, o2, rfl, -, hn2, hm2, -, hyb, hc2⟩ := (HB.out.ext hx hS).cellAt hy1
          have HY1 := hid hy1
          have hpl : n + k < L := by omega
          have hcs := HROW.out.cell (i := n + k) hpl
          have hfs := HROW.out.frozen (n + k)
          have hdg := dg_lt (B := 10) (by decide) HO.out (n + k)
          obtain ⟨s, hs⟩ : ∃ s, s = dg o (n + k) := ⟨_, rfl⟩
          obtain ⟨p, hp⟩ : ∃ p : Nat, p = x * y := ⟨_, rfl⟩
          have hpb : p ≤ 9 * 9 := by rw [hp]; exact Nat.mul_le_mul (by omega) (by omega)
          have hmul : (x : Int) * (y : Int) = (p : Int) := by rw [hp]; simp
          unfold rowD dval at hcs
          rw [← hs] at hcs hdg
          have HS := hid hs
          have HP := hid hp
          clear hy1 hs hp hx
          go_wp2
          go_quiet (fail)
          go_wp2
          go_roundw
          case rel =>
            have hpl2 : n + k < o.length := by rw [HOL.out]; exact hpl
            have hst := rowD_set (World.rowIs.drewN HROW.out nq) (n + k) ((cc + s + p) % 10) hpl2
            refine ⟨k + 1, (cc + s + p) / 10, o.set (n + k) ((cc + s + p) % 10), by omega, by go_num, congrArg (Value.int .i64) (by omega), by omega, hid (fun h => absurd h (by omega)), hid (by simpa using HOL.out), hid (set_lt HO.out (Nat.mod_lt _ (by decide))), hid ?_, (HX.out.drewN nq).setCell (p := ⟨w.heap.size, n + k, none⟩) (Nat.le_refl _) _, hid (fun _ j hj => ?_), hid ?_⟩
            · refine cast (congrArg (fun e => World.rowIs (World.setCell (wr.drewN nq) ⟨w.heap.size, n + k, none⟩ (Value.int .i64 e)) _ _ _ _) ?_) hst
              omega
            · rw [dg_set_ne (by omega)]
              exact HAB.out (by omega) j hj
            · have h1 := mul_step (u := p) hpl2 HV.out
              rw [← HS.out] at h1
              rw [show n + (k + 1) = n + k + 1 by omega, h1, HP.out, ← dg_some HY1.out]
              exact mulAt_step
          case measure => simp only [intOf]; omega
        · have hk0 : ys.length ≤ k := by omega
          clear hx
          by_cases h3 : 0 < cc
          · have hke : k = ys.length := by
              rcases Nat.lt_or_ge ys.length k with g1 | g1
              · have := HZ.out g1; omega
              · omega
            have hpl : n + k < L := by omega
            have hcs := HROW.out.cell (i := n + k) hpl
            have hfs := HROW.out.frozen (n + k)
            have hs0 : dg o (n + k) = 0 := HAB.out (by omega) _ (by omega)
            unfold rowD dval at hcs
            rw [hs0] at hcs
            have HS := hid hs0
            have HKE := hid hke
            clear hs0 hke
            go_wp2
            go_roundw
            case rel =>
              have hpl2 : n + k < o.length := by rw [HOL.out]; exact hpl
              have hst := rowD_set HROW.out (n + k) ((cc + 0 + 0) % 10) hpl2
              refine ⟨k + 1, (cc + 0 + 0) / 10, o.set (n + k) ((cc + 0 + 0) % 10), by have := HKE.out; omega, by go_num, congrArg (Value.int .i64) (by omega), by omega, hid (fun _ => by omega), hid (by simpa using HOL.out), hid (set_lt HO.out (Nat.mod_lt _ (by decide))), hid ?_, HX.out.setCell (p := ⟨w.heap.size, n + k, none⟩) (Nat.le_refl _) _, hid (fun h => absurd h (by have := HKE.out; omega)), hid ?_⟩
              · refine cast (congrArg (fun e => World.rowIs (World.setCell wr ⟨w.heap.size, n + k, none⟩ (Value.int .i64 e)) _ _ _ _) ?_) hst
                omega
              · have h1 := mul_step (u := 0) hpl2 HV.out
                rw [HS.out] at h1
                rw [show n + (k + 1) = n + k + 1 by omega, h1, ← mulAt_step, (dg_out hk0 : dg ys k = 0)]
                simp
            case measure => have := HKE.out; simp only [intOf]; omega
          · obtain rfl : cc = 0 := by omega
            go_wp2
            go_roundw
            case rel =>
              refine ⟨n + 1, o, by omega, by go_num, HOL, HO, HROW, HX.out, hid ?_⟩
              have h1 := HV.out
              rw [List.take_of_length_le hk0, mulAt_end HX1.out] at h1
              simpa using h1
            case measure => simp only [intOf]; omega
    · obtain rfl : n = xs.length := by omega
      have HX := hid hx
      have hd := Digs.of_row HROW.out HOL.out HO.out (by omega)
      have HD := hid hd
      have HV0 : Hid (val 10 o = val 10 xs * val 10 ys) := hid (by simpa using HV.out)
      clear hx hd
      go_wp2_with fail
      refine (dig_trim _ o _ HD.out).mono ?_
      rintro e w' ⟨v', rfl, hu, rfl⟩
      have HU := hid hu
      clear hu
      go_wp2
      all_goals
        go_ret
        refine ⟨_, rfl, ?_, HX.out⟩
        rw [← HV0.out]
        refine HU.out.to (Kept.refl _ _) (fun k hk => ?_)
        subst hk
        exact ⟨Nat.le_refl _, HROW.out.lt⟩
end Go.Proofs.Ythplgldclilccaa
