/- Decimal digits: held against each other, summed up, subtracted, multiplied. -/
import Derived.Test.YthplgldclilccaaDig2
import Derived.Test.YthplgldclilccaaNatCmp
namespace Go.Proofs.Ythplgldclilccaa
open Go.RowKit

set_option maxRecDepth 100000 in
set_option maxHeartbeats 2000000 in
theorem u32_same {S : Nat → Prop} (va vb : Value) (xs ys : List Nat) (w : World) (ha : U32s S w va xs) (hb : U32s S w vb ys) (hS : ∀ k, S k → k < w.heap.size) :
    Calls Try.prog 122 #[va, vb] w fun e w' => e = .returned (.bool (decide (xs = ys))) ∧ Ext w w' := by
  have HA := hid ha
  have HB := hid hb
  have hl1 := ha.len_le
  have hl2 := hb.len_le
  obtain ⟨aa, ca, rfl⟩ := ha.form
  obtain ⟨ab, cb, rfl⟩ := hb.form
  clear ha hb
  by_cases hne : xs.length = ys.length
  · have hq : ((xs.length : Int) != (ys.length : Int)) = false := by rw [bne_eq_false_iff_eq]; omega
    have HN := hid hne
    obtain ⟨L, hL⟩ : ∃ L, L = xs.length := ⟨_, rfl⟩
    have HL := hid hL
    rw [← hne, ← hL] at HB hl2 hq ⊢
    rw [← hL] at HA hl1
    clear hne hL
    go_enter Try.func122, Try.ntmps122
    go_wp2
    go_loopw [5] (fun i wr => ∃ k : Nat, k ≤ L ∧ i = .int .i64 k ∧ Ext w wr ∧ xs.take k = ys.take k) (fun i _ => L - (intOf i).toNat)
    case atStart => exact ⟨0, Nat.zero_le _, rfl, Ext.refl _, by simp⟩
    case round =>
      obtain ⟨k, hk, rfl, hx, ht⟩ := hrel
      by_cases hlt : k < L
      · obtain ⟨x, hx1⟩ := some_of_lt (show k < xs.length by have := HL.out; omega)
        obtain ⟨y, hy1⟩ := some_of_lt (show k < ys.length by have := HL.out; have := HN.out; omega)
        obtain ⟨b1, o1, rfl, -, hn1, hm1, -, hxb, hc1⟩ := (HA.out.to (Kept.ext hx hS) (fun _ h => h)).cellAt hx1
        obtain ⟨b2, o2, rfl, -, hn2, hm2, -, hyb, hc2⟩ := (HB.out.to (Kept.ext hx hS) (fun _ h => h)).cellAt hy1
        have HX := hid hx
        have HT := hid ht
        have HX1 := hid hx1
        have HY1 := hid hy1
        clear hx ht hx1 hy1
        by_cases hxy : x = y
        · have hb : ((x : Int) != (y : Int)) = false := by rw [bne_eq_false_iff_eq]; omega
          have HXY := hid hxy
          clear hxy
          go_wp2
          go_quiet (fail)
          go_wp2
          go_roundw
          case rel => exact ⟨k + 1, by omega, by go_num, HX.out.drewN _, by rw [List.take_add_one, List.take_add_one, HT.out, HX1.out, HY1.out, HXY.out]⟩
          case measure => simp only [intOf]; omega
        · have hb : ((x : Int) != (y : Int)) = true := by rw [bne_iff_ne]; omega
          have HF : Hid (decide (xs = ys) = false) := hid (decide_eq_false (fun e => hxy (by
            have := HX1.out
            rw [e, HY1.out] at this
            exact (Option.some.inj this).symm)))
          clear hxy
          go_wp2
          go_quiet (fail)
          go_wp2
          all_goals
            go_ret
            exact ⟨by rw [HF.out]; rfl, HX.out.drewN _⟩
      · obtain rfl : k = L := by omega
        have HX := hid hx
        have HF : Hid (decide (xs = ys) = true) := hid (decide_eq_true (by
          rw [HL.out, List.take_length, HN.out, List.take_length] at ht
          exact ht))
        clear hx ht
        go_wp2
        all_goals
          go_ret
          exact ⟨by rw [HF.out]; rfl, HX.out⟩
  · have hq : ((xs.length : Int) != (ys.length : Int)) = true := by rw [bne_iff_ne]; omega
    have HF : Hid (decide (xs = ys) = false) := hid (decide_eq_false (fun e => hne (by rw [e])))
    clear hne
    go_enter Try.func122, Try.ntmps122
    go_wp2
    all_goals
      go_ret
      exact ⟨by rw [HF.out]; rfl, Ext.refl _⟩

theorem cmp10_len {n m : Nat} (h : (rep 10 n).length < (rep 10 m).length) : cmpN n m = -1 := by
  have := val_lt_len two_le_10 h
  unfold cmpN
  rw [cmpI_mone]
  omega
theorem cmp10_len' {n m : Nat} (h : (rep 10 m).length < (rep 10 n).length) : cmpN n m = 1 := by
  have := val_lt_len two_le_10 h
  unfold cmpN
  rw [cmpI_one]
  omega
theorem cmp10_top {n m k x y : Nat} (hlen : (rep 10 n).length = (rep 10 m).length) (hx : (rep 10 n)[k]? = some x) (hy : (rep 10 m)[k]? = some y) (ht : val 10 ((rep 10 n).drop (k + 1)) = val 10 ((rep 10 m).drop (k + 1))) (h : x < y) : cmpN n m = -1 := by
  have h1 := val_lt_top (x := 0) (y := 0) (B := 10) (l := rep 10 n) (m := rep 10 m) (k := k) (by decide) (rep_lt two_le_10 n) (by rw [dg_some hx, dg_some hy]; exact h) (lt_of_some hx) (lt_of_some hy) ht hlen
  rw [val_rep two_le_10, val_rep two_le_10] at h1
  unfold cmpN
  rw [cmpI_mone]
  omega
theorem cmp10_top' {n m k x y : Nat} (hlen : (rep 10 n).length = (rep 10 m).length) (hx : (rep 10 n)[k]? = some x) (hy : (rep 10 m)[k]? = some y) (ht : val 10 ((rep 10 n).drop (k + 1)) = val 10 ((rep 10 m).drop (k + 1))) (h : y < x) : cmpN n m = 1 := by
  have := cmp10_top hlen.symm hy hx ht.symm h
  unfold cmpN at *
  rw [cmpI_neg, this]
  rfl

set_option maxRecDepth 100000 in
set_option maxHeartbeats 2000000 in
theorem dig_cmp {S : Nat → Prop} (va vb : Value) (n m : Nat) (w : World) (ha : Digs S w va (rep 10 n)) (hb : Digs S w vb (rep 10 m)) (hS : ∀ k, S k → k < w.heap.size) :
    Calls Try.prog 127 #[va, vb] w fun e w' => e = .returned (.int .i64 (cmpN n m)) ∧ Ext w w' := by
  have HU := hid ha
  have HV := hid hb
  have hl1 := ha.len_le
  have hl2 := hb.len_le
  obtain ⟨aa, ca, rfl⟩ := ha.form
  obtain ⟨ab, cb, rfl⟩ := hb.form
  clear ha hb
  rcases (show (rep 10 n).length < (rep 10 m).length ∨ (rep 10 m).length < (rep 10 n).length ∨ (rep 10 n).length = (rep 10 m).length by omega) with hlt | hlt | heq
  · have HC := hid (cmp10_len hlt)
    have hq : (((rep 10 n).length : Int) != ((rep 10 m).length : Int)) = true := by rw [bne_iff_ne]; omega
    go_enter Try.func127, Try.ntmps127
    go_wp2
    all_goals
      go_ret
      exact ⟨by rw [HC.out]; rfl, Ext.refl _⟩
  · have HC := hid (cmp10_len' hlt)
    have hq : (((rep 10 n).length : Int) != ((rep 10 m).length : Int)) = true := by rw [bne_iff_ne]; omega
    go_enter Try.func127, Try.ntmps127
    go_wp2
    all_goals
      go_ret
      exact ⟨by rw [HC.out]; rfl, Ext.refl _⟩
  · have HE := hid heq
    obtain ⟨L, hL⟩ : ∃ L, L = (rep 10 n).length := ⟨_, rfl⟩
    have HL := hid hL
    rw [← heq, ← hL] at HV hl2 ⊢
    rw [← hL] at HU hl1
    clear heq hL
    have hq : ((L : Int) != (L : Int)) = false := by simp
    go_enter Try.func127, Try.ntmps127
    go_wp2
    go_loopw [5] (fun i wr => ∃ k : Nat, k ≤ L ∧ i = .int .i64 ((k : Int) - 1) ∧ Ext w wr ∧ val 10 ((rep 10 n).drop k) = val 10 ((rep 10 m).drop k)) (fun i _ => (intOf i + 1).toNat)
    case atStart => exact ⟨L, Nat.le_refl _, rfl, Ext.refl _, by rw [List.drop_eq_nil_of_le (by have := HL.out; omega), List.drop_eq_nil_of_le (by have := HL.out; have := HE.out; omega)]⟩
    case round =>
      obtain ⟨k, hk, rfl, hx, ht⟩ := hrel
      cases k with
      | succ q =>
        have hq1 : ((q + 1 : Nat) : Int) - 1 = (q : Int) := by omega
        have hqn : q < L := by omega
        obtain ⟨x, hx1⟩ := some_of_lt (show q < (rep 10 n).length by have := HL.out; omega)
        obtain ⟨y, hy1⟩ := some_of_lt (show q < (rep 10 m).length by have := HL.out; have := HE.out; omega)
        obtain ⟨b1, o1, rfl, -, hn1, hm1, -, hxb, hc1⟩ := (HU.out.to (Kept.ext hx hS) (fun _ h => h)).cellAt hx1
        obtain ⟨b2, o2, rfl, -, hn2, hm2, -, hyb, hc2⟩ := (HV.out.to (Kept.ext hx hS) (fun _ h => h)).cellAt hy1
        have HX := hid hx
        have HT := hid ht
        have HX1 := hid hx1
        have HY1 := hid hy1
        clear hx ht hx1 hy1
        simp only [hq1]
        rcases (show x < y ∨ y < x ∨ x = y by omega) with hlt | hlt | heq
        · have HC := hid (cmp10_top HE.out HX1.out HY1.out HT.out hlt)
          go_wp2
          go_quiet (fail)
          go_wp2
          all_goals
            go_ret
            exact ⟨by rw [HC.out]; rfl, HX.out.drewN _⟩
        · have HC := hid (cmp10_top' HE.out HX1.out HY1.out HT.out hlt)
          go_wp2
          go_quiet (fail)
          go_wp2
          go_quiet (fail)
          go_wp2
          all_goals
            go_ret
            exact ⟨by rw [HC.out]; rfl, (HX.out.drewN _).drewN _⟩
        · subst heq
          go_wp2
          go_quiet (fail)
          go_wp2
          go_quiet (fail)
          go_wp2
          go_roundw
          case rel => exact ⟨q, by omega, rfl, HX.out.drewN _, by rw [val_drop HX1.out, val_drop HY1.out, HT.out]⟩
          case measure => simp only [intOf]; omega
      | zero =>
        have HX := hid hx
        have HC : Hid (cmpN n m = 0) := by
          have e : n = m := by simpa [val_rep two_le_10] using ht
          refine hid ?_
          rw [e]
          exact cmpI_self _
        clear hx ht
        go_wp2
        all_goals
          go_ret
          exact ⟨by rw [HC.out]; rfl, HX.out⟩
end Go.Proofs.Ythplgldclilccaa
