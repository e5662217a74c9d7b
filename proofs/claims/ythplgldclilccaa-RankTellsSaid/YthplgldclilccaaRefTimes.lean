/- The document's product of monomials. -/
import Derived.Test.YthplgldclilccaaRefMono2
import Derived.StillTailTactics
namespace Go.Proofs.Ythplgldclilccaa
open Go.RowKit

/-- the exponents of a product -/
def sumF (a b : Mono) : Nat → Int := fun v => ex a (v : Nat) + ex b (v : Nat)
/-- is an exponent too great, of the variables up to k? -/
def overF (f : Nat → Int) : Nat → Bool
  | 0 => false
  | k + 1 => overF f k || decide (10000 < f (k + 1))
/-- the document's product; nothing, if an exponent is too great -/
def rtimes (a b : Mono) : Option Mono := if overF (sumF a b) 200 then none else some (ofE (sumF a b) 200)

theorem overF_mono {f : Nat → Int} {k n : Nat} (h : overF f k = true) (hk : k ≤ n) : overF f n = true := by
  induction n with
  | zero =>
    obtain rfl : k = 0 := by omega
    exact h
  | succ n ih =>
    by_cases e : k = n + 1
    · subst e; exact h
    · simp only [overF, ih (by omega), Bool.true_or]
theorem ofE_congr {f g : Nat → Int} {n : Nat} (h : ∀ k, 1 ≤ k → k ≤ n → f k = g k) : ofE f n = ofE g n := by
  induction n with
  | zero => rfl
  | succ n ih => simp only [ofE, h (n + 1) (by omega) (Nat.le_refl _), ih (fun k h1 h2 => h k h1 (by omega))]

/-- the rows of the product so far -/
def mixF (a b : Mono) (k : Nat) : Nat → Int := fun j => if 1 ≤ j ∧ j ≤ k then ex a (j : Nat) + ex b (j : Nat) else ex a (j : Nat)

theorem rtimes_none {a b : Mono} {k : Nat} (h : overF (sumF a b) k = true) (hk : k ≤ 200) : rtimes a b = none := by
  unfold rtimes
  rw [if_pos (overF_mono h hk)]
theorem rtimes_some {a b : Mono} (h : overF (sumF a b) 200 = false) : rtimes a b = some (ofE (mixF a b 200) 200) := by
  unfold rtimes
  rw [if_neg (by rw [h]; exact Bool.false_ne_true)]
  exact congrArg some (ofE_congr (fun k h1 h2 => by
    unfold sumF mixF
    rw [if_pos ⟨h1, h2⟩]))
/-- the error behind it -/
def rterr : Option Mono → Int
  | none => 8
  | some _ => 0
def rtval : Option Mono → Mono
  | none => []
  | some m => m
theorem overF_zero (f : Nat → Int) : overF f 0 = false := rfl
theorem overF_succ (a b : Mono) (k : Nat) : overF (sumF a b) (k + 1) = (overF (sumF a b) k || decide (10000 < ex a ((k + 1 : Nat) : Int) + ex b ((k + 1 : Nat) : Int))) := rfl
attribute [local irreducible] ofE overF rtimes

set_option maxRecDepth 100000 in
set_option maxHeartbeats 4000000 in
theorem rmono_times {S : Nat → Prop} (va vb : Value) (a b : Mono) (w : World) (ha : Pows S w va a) (hb : Pows S w vb b) (hS : ∀ k, S k → k < w.heap.size) (hma : mayM a = true) (hmb : mayM b = true) :
    Calls Try.prog 100 #[va, vb] w fun e w' => ∃ v', e = .returned (.tuple #[v', .int .i64 (rterr (rtimes a b))]) ∧ Pows (New w w') w' v' (rtval (rtimes a b)) ∧ Ext w w' := by
  have hz := (zero_of_info Try.infoArr).1
  have hcs : (Value.agg (tabA fun _ => 0)).cells = tabA fun _ => 0 := rfl
  have hnot : ∀ (x : Bool) (w : World), (Op.unary .not (.bool x)).run Try.prog w = .ok (.bool (!x)) w := fun _ _ => rfl
  have HA := hid ha
  have HB := hid hb
  obtain ⟨aa, ca, rfl⟩ := ha.form
  obtain ⟨ab1, cb, rfl⟩ := hb.form
  have HMA := hid hma
  have HMB := hid hmb
  have M1 := fun W (hW : Ext w W) => rmono_may (S := S) _ a W (HA.out.ext' hW hS) (lt_ext hS hW)
  rw [hma] at M1
  have M2 := fun W (hW : Ext w W) => rmono_may (S := S) _ b W (HB.out.ext' hW hS) (lt_ext hS hW)
  rw [hmb] at M2
  have EA : Hid (exF a = fun v => ex a (v : Nat)) := hid (by funext v; unfold exF; rw [plainM_yes hma])
  have EB : Hid (exF b = fun v => ex b (v : Nat)) := hid (by funext v; unfold exF; rw [plainM_yes hmb])
  have HM1 := hid M1
  have HM2 := hid M2
  obtain ⟨R, hR⟩ : ∃ R, R = rtimes a b := ⟨_, rfl⟩
  rw [← hR]
  have HR := hid hR
  clear ha hb hma hmb M1 M2 hR
  go_enter Try.func100, Try.ntmps100
  go_wp2_with fail
  refine (HM1.out w (Ext.refl _)).mono ?_
  rintro e w1 ⟨rfl, hx1⟩
  have HX1 := hid hx1
  clear hx1
  go_wp2_with fail
  refine (HM2.out w1 HX1.out).mono ?_
  rintro e w2 ⟨rfl, hx2⟩
  have HX2 := hid (HX1.out.trans hx2)
  clear hx2
  go_wp2_with fail
  refine (rmono_exps _ a w2 (HA.out.ext' HX2.out hS) (lt_ext hS HX2.out)).mono ?_
  rintro e w3 ⟨rfl, hx3⟩
  have HX3 := hid (HX2.out.trans hx3)
  clear hx3
  rw [EA.out]
  go_wp2_with (refine wpList_store_arr rfl (.tmp 6) (.tmp 18) rfl rfl rfl (row_new (fun _ => 0) w3) ?_; intro w4 hrow hg; have HROW := hid hrow; have HG := hid hg; clear hrow hg)
  have HX4 : Hid (Ext w w4) := hid (ext_grown (HX3.out.alloc _) HG.out (fun k hk => Nat.le_trans HX3.out.size (row_le hk)))
  refine (rmono_exps _ b w4 (HB.out.ext' HX4.out hS) (lt_ext hS HX4.out)).mono ?_
  rintro e w5 ⟨rfl, hx5⟩
  have HX5 := hid (HX4.out.trans hx5)
  have hsz : w3.heap.size < w4.heap.size := by
    have := HG.out.size
    rw [size_alloc] at this
    omega
  have HSZ : Hid (w3.heap.size < w5.heap.size) := hid (Nat.lt_of_lt_of_le hsz hx5.size)
  have HROW5 := hid (row_ext HROW.out hx5)
  clear hx5 hsz
  rw [EB.out]
  go_wp2_with (refine wpList_store_arr rfl (.tmp 7) (.tmp 20) rfl rfl rfl (row_new (fun _ => 0) w5) ?_; intro w6 hrow hg; have HROWB := hid hrow; have HG2 := hid hg; clear hrow hg)
  have HX6 : Hid (Ext w w6) := hid (ext_grown (HX5.out.alloc _) HG2.out (fun k hk => Nat.le_trans HX5.out.size (row_le hk)))
  have HROWA : Hid (w6.rowIs w3.heap.size 132 201 (iv (mixF a b 0))) := hid (by
    have h1 := row_grown (row_ext HROW5.out (Ext.alloc (Ext.refl _) _)) HG2.out (fun e => by
      have := HSZ.out
      have h1 : w3.heap.size = w5.heap.size := by simpa using e
      omega)
    have e : mixF a b 0 = fun v : Nat => ex a (v : Nat) := by
      funext j
      unfold mixF
      rw [if_neg (by omega)]
    rw [e]
    exact h1)
  obtain ⟨ga, hga⟩ : ∃ g, g = w3.heap.size := ⟨_, rfl⟩
  obtain ⟨gb, hgb⟩ : ∃ g, g = w5.heap.size := ⟨_, rfl⟩
  have hgab : ga ≠ gb := by
    rw [hga, hgb]
    have := HSZ.out
    omega
  have HGA : Hid (w.heap.size ≤ ga) := hid (by rw [hga]; exact HX3.out.size)
  rw [← hga] at HROWA ⊢
  rw [← hgb] at HROWB ⊢
  clear hga hgb
  go_loopw [8] (fun v wr => ∃ k : Nat, k ≤ 200 ∧ v = .int .i64 ((k : Int) + 1) ∧ Ext w wr ∧ Hid (wr.rowIs ga 132 201 (iv (mixF a b k))) ∧ Hid (wr.rowIs gb 132 201 (iv fun v => ex b (v : Nat))) ∧ Hid (overF (sumF a b) k = false)) (fun v _ => (201 - intOf v).toNat)
  case atStart => exact ⟨0, by omega, rfl, HX6.out, HROWA, HROWB, hid (overF_zero _)⟩
  case round =>
    obtain ⟨k, hk, rfl, hx, HP, HQ, HO⟩ := hrel
    have HX := hid hx
    by_cases h0 : k < 200
    · obtain ⟨q, hq⟩ : ∃ q, q = k + 1 := ⟨_, rfl⟩
      have hqI : (k : Int) + 1 = (q : Int) := by omega
      have hq201 : q < 201 := by omega
      have hca := HP.out.cell (i := q) hq201
      have hcb : wr.cell? ⟨gb, q, none⟩ = some (.int .i64 (ex b (q : Nat))) := HQ.out.cell (i := q) hq201
      have hfa := HP.out.frozen q
      have hm1 : mixF a b k q = ex a (q : Nat) := by unfold mixF; rw [if_neg (by omega)]
      unfold iv at hca
      rw [hm1] at hca
      obtain ⟨x, hxe⟩ : ∃ x, x = ex a (q : Nat) := ⟨_, rfl⟩
      obtain ⟨y, hye⟩ : ∃ y, y = ex b (q : Nat) := ⟨_, rfl⟩
      have hxr := ex_range HMA.out (q : Nat)
      have hyr := ex_range HMB.out (q : Nat)
      rw [← hxe] at hca hxr
      rw [← hye] at hcb hyr
      obtain ⟨hxr1, hxr2⟩ := hxr
      obtain ⟨hyr1, hyr2⟩ := hyr
      have hov : overF (sumF a b) q = (overF (sumF a b) k || decide (10000 < x + y)) := by rw [hq, hxe, hye, hq]; exact overF_succ a b k
      rw [HO.out, Bool.false_or] at hov
      have HOV := hid hov
      have HQE := hid hq
      have HXE := hid hxe
      have HYE := hid hye
      have hq1 : 1 ≤ q := by omega
      have hq2 : q ≤ 200 := by omega
      have hqI0 : (0 : Int) ≤ (q : Int) := by omega
      have hqI1 : (q : Int) < 201 := by omega
      rw [hqI]
      clear hx hq hm1 hxe hye hov
      go_wp2
      go_still_tail 9, (by kernel_rfl)
      change wpList _ _ _ _ _ wr.drew
      have hst := World.rowIs.set (World.rowIs.drewN' HP.out) q (.int .i64 (x + y))
      have hrowA : (wr.drew.setCell ⟨ga, q, none⟩ (.int .i64 (x + y))).rowIs ga 132 201 (iv (mixF a b q)) := hst.congr (fun i hi => by
        unfold iv mixF
        by_cases e : i = q
        · subst e
          rw [if_pos rfl, if_pos ⟨hq1, Nat.le_refl _⟩, ← HXE.out, ← HYE.out]
        · rw [if_neg e]
          have := HQE.out
          by_cases e2 : 1 ≤ i ∧ i ≤ k
          · rw [if_pos e2, if_pos (by omega)]
          · rw [if_neg e2, if_neg (by omega)])
      have HRA := hid hrowA
      have hca2 := hrowA.cell (i := q) hq201
      unfold iv mixF at hca2
      rw [if_pos ⟨hq1, Nat.le_refl _⟩, ← HXE.out, ← HYE.out] at hca2
      clear hst hrowA
      by_cases hbig : 10000 < x + y
      · have HRN : Hid (R = none) := hid (HR.out.trans (rtimes_none (by rw [HOV.out]; exact decide_eq_true hbig) hq2))
        go_wp2
        all_goals
          go_ret2
          rw [HRN.out]
          refine ⟨_, rfl, Pows.empty _ _ _, (HX.out.drew).setCell (p := ⟨ga, q, none⟩) HGA.out _⟩
      · go_wp2
        go_roundw
        case rel => exact ⟨q, by omega, rfl, (HX.out.drew).setCell (p := ⟨ga, q, none⟩) HGA.out _, HRA, hid (row_far (World.rowIs.drewN' HQ.out) (fun e => hgab e.symm) _), hid (by rw [HOV.out]; exact decide_eq_false hbig)⟩
        case measure => simp only [intOf]; omega
    · obtain rfl : k = 200 := by omega
      have HRS := hid (HR.out.trans (rtimes_some HO.out))
      have hof := rmono_of (mixF a b 200) wr (fun j => by
        have h1 := ex_range HMA.out (j : Nat)
        have h2 := ex_range HMB.out (j : Nat)
        unfold mixF
        split <;> omega)
      have HOF := hid hof
      clear hx hof
      go_wp2_with (refine wpList_load_arr rfl (.tmp 6) rfl rfl HP.out ?_)
      refine HOF.out.mono ?_
      rintro e w7 ⟨v7, rfl, hp, hx7⟩
      have HX7 := hid hx7
      have HP7 := hid hp
      clear hp hx7
      go_wp2
      all_goals
        go_ret2
        rw [HRS.out]
        exact ⟨_, rfl, HP7.out.to (Kept.refl _ _) (New.mono HX.out), HX.out.trans HX7.out⟩
end Go.Proofs.Ythplgldclilccaa
