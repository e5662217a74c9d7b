/- Two numbers held against each other. -/
import Derived.Test.YthplgldclilccaaNat
namespace Go.Proofs.Ythplgldclilccaa
open Go.RowKit

/-- how two naturals are ordered -/
def cmpN (a b : Nat) : Int := cmpI (a : Int) (b : Int)

theorem cmpN_len {n m : Nat} (h : (rep B32 n).length < (rep B32 m).length) : cmpN n m = -1 := by
  have := val_lt_len two_le_B32 h
  unfold cmpN
  rw [cmpI_mone]
  omega
theorem cmpN_len' {n m : Nat} (h : (rep B32 m).length < (rep B32 n).length) : cmpN n m = 1 := by
  have := val_lt_len two_le_B32 h
  unfold cmpN
  rw [cmpI_one]
  omega
theorem cmpN_top {n m k x y : Nat} (hlen : (rep B32 n).length = (rep B32 m).length) (hx : (rep B32 n)[k]? = some x) (hy : (rep B32 m)[k]? = some y) (ht : val B32 ((rep B32 n).drop (k + 1)) = val B32 ((rep B32 m).drop (k + 1))) (h : x < y) : cmpN n m = -1 := by
  have h1 := val_lt_top (x := 0) (y := 0) (B := B32) (l := rep B32 n) (m := rep B32 m) (k := k) (by decide) (rep_lt two_le_B32 n) (by rw [dg_some hx, dg_some hy]; exact h) (lt_of_some hx) (lt_of_some hy) ht hlen
  rw [val_rep two_le_B32, val_rep two_le_B32] at h1
  unfold cmpN
  rw [cmpI_mone]
  omega
theorem cmpN_top' {n m k x y : Nat} (hlen : (rep B32 n).length = (rep B32 m).length) (hx : (rep B32 n)[k]? = some x) (hy : (rep B32 m)[k]? = some y) (ht : val B32 ((rep B32 n).drop (k + 1)) = val B32 ((rep B32 m).drop (k + 1))) (h : y < x) : cmpN n m = 1 := by
  have := cmpN_top hlen.symm hy hx ht.symm h
  unfold cmpN at *
  rw [cmpI_neg, this]
  rfl

set_option maxRecDepth 100000 in
set_option maxHeartbeats 1000000 in
theorem nat_cmp {S : Nat → Prop} (va vb : Value) (xs ys : List Nat) (w : World) (ha : U32s S w va xs) (hb : U32s S w vb ys) (hS : ∀ k, S k → k < w.heap.size) :
    Calls Try.prog 132 #[va, vb] w fun e w' => e = .returned (.int .i64 (cmpN (val B32 xs) (val B32 ys))) ∧ Ext w w' := by
  have HA := hid ha
  have HB := hid hb
  obtain ⟨aa, ca, rfl⟩ := ha.form
  obtain ⟨ab, cb, rfl⟩ := hb.form
  clear ha hb
  go_enter Try.func132, Try.ntmps132
  go_wp2_with fail
  refine (nat_short _ xs _ HA.out).mono ?_
  rintro e w' ⟨va, rfl, hu, rfl⟩
  have HU := hid hu
  obtain ⟨a1, c1, rfl⟩ := hu.form
  clear hu
  go_wp2_with fail
  refine (nat_short _ ys _ HB.out).mono ?_
  rintro e w' ⟨vb, rfl, hv, rfl⟩
  have HV := hid hv
  obtain ⟨a2, c2, rfl⟩ := hv.form
  clear hv
  generalize hn : val B32 xs = n at HU
  generalize hm : val B32 ys = m at HV
  have HN := hid hn
  have HM := hid hm
  clear hn hm
  have hl1 := HU.out.len_le
  have hl2 := HV.out.len_le
  rcases (show (rep B32 n).length < (rep B32 m).length ∨ (rep B32 m).length < (rep B32 n).length ∨ (rep B32 n).length = (rep B32 m).length by omega) with hlt | hlt | heq
  · have HC := hid (cmpN_len hlt)
    go_wp2
    all_goals
      go_ret
      exact ⟨by rw [HN.out, HM.out, HC.out]; rfl, Ext.refl _⟩
  · have HC := hid (cmpN_len' hlt)
    go_wp2
    all_goals
      go_ret
      exact ⟨by rw [HN.out, HM.out, HC.out]; rfl, Ext.refl _⟩
  · have HE := hid heq
    obtain ⟨L, hL⟩ : ∃ L, L = (rep B32 n).length := ⟨_, rfl⟩
    have HL := hid hL
    rw [← heq, ← hL] at HV hl2 ⊢
    rw [← hL] at HU hl1
    clear heq hL
    go_wp2
    go_loopw [25] (fun i wr => ∃ k : Nat, k ≤ L ∧ i = .int .i64 k ∧ Ext w wr ∧ val B32 ((rep B32 n).drop (L - k)) = val B32 ((rep B32 m).drop (L - k))) (fun i _ => L - (intOf i).toNat)
    case atStart => exact ⟨0, Nat.zero_le _, rfl, Ext.refl _, by rw [List.drop_eq_nil_of_le (by have := HL.out; omega), List.drop_eq_nil_of_le (by have := HL.out; have := HE.out; omega)]⟩
    case round =>
      obtain ⟨k, hk, rfl, hx, ht⟩ := hrel
      by_cases hlt : k < L
      · obtain ⟨q, rfl⟩ : ∃ q, L = q + 1 + k := ⟨L - 1 - k, by omega⟩
        rw [show q + 1 + k - k = q + 1 by omega] at ht
        obtain ⟨x, hx1⟩ := some_of_lt (show q < (rep B32 n).length by have := HL.out; omega)
        obtain ⟨y, hy1⟩ := some_of_lt (show q < (rep B32 m).length by have := HL.out; have := HE.out; omega)
        obtain ⟨b1, o1, rfl, -, hn1, hm1, -, hxb, hc1⟩ := (HU.out.to (Kept.ext hx hS) (fun _ h => h)).cellAt hx1
        obtain ⟨b2, o2, rfl, -, hn2, hm2, -, hyb, hc2⟩ := (HV.out.to (Kept.ext hx hS) (fun _ h => h)).cellAt hy1
        have HX := hid hx
        have HT := hid ht
        have HX1 := hid hx1
        have HY1 := hid hy1
        clear hx ht hx1 hy1
        have hq : ((q : Nat) : Int) + 1 + (k : Int) - 1 - (k : Int) = (q : Int) := by omega
        rcases (show x < y ∨ y < x ∨ x = y by omega) with hlt | hlt | heq
        · have HC := hid (cmpN_top HE.out HX1.out HY1.out HT.out hlt)
          go_wp2
          go_quiet (fail)
          go_wp2
          all_goals
            go_ret
            exact ⟨by rw [HN.out, HM.out, HC.out]; rfl, HX.out.drewN _⟩
        · have HC := hid (cmpN_top' HE.out HX1.out HY1.out HT.out hlt)
          go_wp2
          go_quiet (fail)
          go_wp2
          go_quiet (fail)
          go_wp2
          all_goals
            go_ret
            exact ⟨by rw [HN.out, HM.out, HC.out]; rfl, (HX.out.drewN _).drewN _⟩
        · subst heq
          go_wp2
          go_quiet (fail)
          go_wp2
          go_quiet (fail)
          go_wp2
          go_roundw
          case rel =>
            refine ⟨k + 1, by omega, by go_num, HX.out.drewN _, ?_⟩
            rw [show q + 1 + k - (k + 1) = q by omega, val_drop HX1.out, val_drop HY1.out, HT.out]
          case measure => simp only [intOf]; omega
      · obtain rfl : k = L := by omega
        have HX := hid hx
        have HC : Hid (cmpN n m = 0) := by
          have e : n = m := by
            rw [Nat.sub_self] at ht
            simpa [val_rep two_le_B32] using ht
          refine hid ?_
          rw [e]
          exact cmpI_self _
        clear hx ht
        go_wp2
        all_goals
          go_ret
          exact ⟨by rw [HN.out, HM.out, HC.out]; rfl, HX.out⟩
end Go.Proofs.Ythplgldclilccaa
