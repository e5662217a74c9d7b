/- The document's monomials: order, class, degree. -/
import Derived.Test.YthplgldclilccaaRefExps
namespace Go.Proofs.Ythplgldclilccaa
open Go.RowKit

theorem plainM_may (m : Mono) : mayM (plainM m) = true := by
  unfold plainM
  split
  · assumption
  · rfl
/-- how the document orders two monomials -/
def rcmp (a b : Mono) : Int := cmpE (ex (plainM a)) (ex (plainM b)) 200
theorem rcmp_eq {a b : Mono} (ha : mayM a = true) (hb : mayM b = true) : rcmp a b = compareM a b := by
  unfold rcmp
  rw [plainM_yes ha, plainM_yes hb, compareM_eq ha hb]

set_option maxRecDepth 100000 in
set_option maxHeartbeats 4000000 in
theorem rmono_compare {S : Nat → Prop} (va vb : Value) (a b : Mono) (w : World) (ha : Pows S w va a) (hb : Pows S w vb b) (hS : ∀ k, S k → k < w.heap.size) :
    Calls Try.prog 73 #[va, vb] w fun e w' => e = .returned (.int .i64 (rcmp a b)) ∧ Ext w w' := by
  have hz := (zero_of_info Try.infoArr).1
  have hcs : (Value.agg (tabA fun _ => 0)).cells = tabA fun _ => 0 := rfl
  have HA := hid ha
  have HB := hid hb
  obtain ⟨aa, ca, rfl⟩ := ha.form
  obtain ⟨ab1, cb, rfl⟩ := hb.form
  clear ha hb
  go_enter Try.func73, Try.ntmps73
  go_wp2_with fail
  refine (rmono_exps _ a w HA.out hS).mono ?_
  rintro e w1 ⟨rfl, hx1⟩
  have HX1 := hid hx1
  clear hx1
  go_wp2_with (refine wpList_store_arr rfl (.tmp 5) (.tmp 9) rfl rfl rfl (row_new (fun _ => 0) w1) ?_; intro w2 hrow hg; have HROW := hid hrow; have HG := hid hg; clear hrow hg)
  have HX2 : Hid (Ext w w2) := hid (ext_grown (HX1.out.alloc _) HG.out (fun k hk => Nat.le_trans HX1.out.size (row_le hk)))
  refine (rmono_exps _ b w2 (HB.out.ext' HX2.out hS) (lt_ext hS HX2.out)).mono ?_
  rintro e w3 ⟨rfl, hx3⟩
  have HX3 := hid (HX2.out.trans hx3)
  have hsz : w1.heap.size < w2.heap.size := by
    have := HG.out.size
    rw [size_alloc] at this
    omega
  have HSZ : Hid (w1.heap.size < w3.heap.size) := hid (Nat.lt_of_lt_of_le hsz hx3.size)
  have HROW3 := hid (row_ext HROW.out hx3)
  clear hx3 hsz
  go_wp2_with (refine wpList_store_arr rfl (.tmp 6) (.tmp 11) rfl rfl rfl (row_new (fun _ => 0) w3) ?_; intro w4 hrow hg; have HROWB := hid hrow; have HG2 := hid hg; clear hrow hg)
  have HX4 : Hid (Ext w w4) := hid (ext_grown (HX3.out.alloc _) HG2.out (fun k hk => Nat.le_trans HX3.out.size (row_le hk)))
  have HROWA : Hid (w4.rowIs w1.heap.size 132 201 (iv (exF a))) := hid (row_grown (row_ext HROW3.out (Ext.alloc (Ext.refl _) _)) HG2.out (fun e => by
    have := HSZ.out
    have h1 : w1.heap.size = w3.heap.size := by simpa using e
    omega))
  obtain ⟨ga, hga⟩ : ∃ g, g = w1.heap.size := ⟨_, rfl⟩
  obtain ⟨gb, hgb⟩ : ∃ g, g = w3.heap.size := ⟨_, rfl⟩
  rw [← hga] at HROWA ⊢
  rw [← hgb] at HROWB ⊢
  clear hga hgb
  go_loopw [7] (fun v wr => ∃ k : Nat, k ≤ 200 ∧ v = .int .i64 k ∧ Ext w4 wr ∧ rcmp a b = cmpE (ex (plainM a)) (ex (plainM b)) k) (fun v _ => (intOf v).toNat)
  case atStart => exact ⟨200, by omega, rfl, Ext.refl _, rfl⟩
  case round =>
    obtain ⟨k, hk, rfl, hx, hc⟩ := hrel
    have HX := hid hx
    by_cases h0 : 1 ≤ k
    · have hk201 : k < 201 := by omega
      have hca := (row_ext HROWA.out hx).cell (i := k) hk201
      have hcb := (row_ext HROWB.out hx).cell (i := k) hk201
      unfold iv exF at hca hcb
      obtain ⟨q, hq⟩ : ∃ q, k = q + 1 := ⟨k - 1, by omega⟩
      have hst : cmpE (ex (plainM a)) (ex (plainM b)) k = if ex (plainM a) (k : Nat) = ex (plainM b) (k : Nat) then cmpE (ex (plainM a)) (ex (plainM b)) q else cmpI (ex (plainM a) (k : Nat)) (ex (plainM b) (k : Nat)) := by
        rw [hq]; rfl
      rw [hst] at hc
      have HC := hid hc
      have HQ := hid hq
      clear hx hc hst hq
      generalize ex (plainM a) (k : Nat) = p at *
      generalize ex (plainM b) (k : Nat) = t at *
      have hkI0 : (0 : Int) ≤ (k : Int) := by omega
      have hkI1 : (k : Int) < 201 := by omega
      rcases (show p < t ∨ t < p ∨ p = t by omega) with hlt | hlt | heq
      · have HF : Hid (rcmp a b = -1) := hid (by rw [HC.out, if_neg (by omega), cmpI_mone]; exact hlt)
        go_wp2
        go_quiet (fail)
        go_wp2
        all_goals
          go_ret
          exact ⟨by rw [HF.out]; rfl, HX4.out.trans (HX.out.drewN _)⟩
      · have HF : Hid (rcmp a b = 1) := hid (by rw [HC.out, if_neg (by omega), cmpI_one]; exact hlt)
        have hd : decide (p < t) = false := decide_eq_false (by omega)
        go_wp2
        go_quiet (fail)
        go_wp2
        go_quiet (fail)
        go_wp2
        all_goals
          go_ret
          exact ⟨by rw [HF.out]; rfl, HX4.out.trans ((HX.out.drewN _).drewN _)⟩
      · subst heq
        have HF : Hid (rcmp a b = cmpE (ex (plainM a)) (ex (plainM b)) q) := hid (by rw [HC.out, if_pos rfl])
        go_wp2
        go_quiet (fail)
        go_wp2
        go_quiet (fail)
        go_wp2
        go_roundw
        case rel => exact ⟨q, by have := HQ.out; omega, congrArg (Value.int .i64) (by have := HQ.out; omega), HX.out.drewN _, HF.out⟩
        case measure => simp only [intOf]; omega
    · obtain rfl : k = 0 := by omega
      have HF : Hid (rcmp a b = 0) := hid (by rw [hc]; rfl)
      clear hx hc
      go_wp2
      all_goals
        go_ret
        exact ⟨by rw [HF.out]; rfl, HX4.out.trans HX.out⟩
end Go.Proofs.Ythplgldclilccaa
