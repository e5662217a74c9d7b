/- The document's monomials: class, degree, out of exponents. -/
import Derived.Test.YthplgldclilccaaRefCmp
import Derived.Test.YthplgldclilccaaAppend
namespace Go.Proofs.Ythplgldclilccaa
open Go.RowKit

theorem class_at {m : Mono} (hm : mayM m = true) {k : Nat} (h1 : 1 ≤ k) (hpos : 0 < ex m k) (habove : ∀ j : Nat, k < j → j ≤ 200 → ex m j = 0) : classM m = k := by
  have hne : m ≠ [] := fun e => by rw [e] at hpos; simp [ex] at hpos
  obtain ⟨g1, g2, g3⟩ := class_ge hm hne
  rcases Int.lt_trichotomy (classM m) (k : Int) with h | h | h
  · have := class_above hm h (by omega)
    omega
  · exact h
  · have := habove (classM m).toNat (by omega) (by omega)
    rw [Int.toNat_of_nonneg (by omega)] at this
    omega
theorem class_none {m : Mono} (hm : mayM m = true) (h : ∀ j : Nat, 0 < j → j ≤ 200 → ex m j = 0) : classM m = 0 := by
  by_cases hne : m = []
  · rw [hne]; rfl
  · obtain ⟨g1, g2, g3⟩ := class_ge hm hne
    have := h (classM m).toNat (by omega) (by omega)
    rw [Int.toNat_of_nonneg (by omega)] at this
    omega

set_option maxRecDepth 100000 in
set_option maxHeartbeats 4000000 in
theorem rmono_class {S : Nat → Prop} (va : Value) (a : Mono) (w : World) (ha : Pows S w va a) (hS : ∀ k, S k → k < w.heap.size) :
    Calls Try.prog 75 #[va] w fun e w' => e = .returned (.int .i64 (classM (plainM a))) ∧ Ext w w' := by
  have hz := (zero_of_info Try.infoArr).1
  have hcs : (Value.agg (tabA fun _ => 0)).cells = tabA fun _ => 0 := rfl
  have HA := hid ha
  obtain ⟨aa, ca, rfl⟩ := ha.form
  clear ha
  go_enter Try.func75, Try.ntmps75
  go_wp2_with fail
  refine (rmono_exps _ a w HA.out hS).mono ?_
  rintro e w1 ⟨rfl, hx1⟩
  have HX1 := hid hx1
  clear hx1
  go_wp2_with (refine wpList_store_arr rfl (.tmp 3) (.tmp 6) rfl rfl rfl (row_new (fun _ => 0) w1) ?_; intro w2 hrow hg; have HROW := hid hrow; have HG := hid hg; clear hrow hg)
  have HX2 : Hid (Ext w w2) := hid (ext_grown (HX1.out.alloc _) HG.out (fun k hk => Nat.le_trans HX1.out.size (row_le hk)))
  obtain ⟨ga, hga⟩ : ∃ g, g = w1.heap.size := ⟨_, rfl⟩
  rw [← hga] at HROW ⊢
  clear hga
  go_loopw [4] (fun v wr => ∃ k : Nat, k ≤ 200 ∧ v = .int .i64 k ∧ Ext w2 wr ∧ Hid (∀ j : Nat, k < j → j ≤ 200 → ex (plainM a) j = 0)) (fun v _ => (intOf v).toNat)
  case atStart => exact ⟨200, by omega, rfl, Ext.refl _, hid (fun j h1 h2 => by omega)⟩
  case round =>
    obtain ⟨k, hk, rfl, hx, HC⟩ := hrel
    have HX := hid hx
    by_cases h0 : 1 ≤ k
    · have hk201 : k < 201 := by omega
      have hca := (row_ext HROW.out hx).cell (i := k) hk201
      unfold iv exF at hca
      obtain ⟨p, hp⟩ : ∃ p, p = ex (plainM a) (k : Nat) := ⟨_, rfl⟩
      have hpr := ex_range (plainM_may a) (k : Nat)
      rw [← hp] at hca hpr
      obtain ⟨hp1, hp2⟩ := hpr
      have HP := hid hp
      have hkI0 : (0 : Int) ≤ (k : Int) := by omega
      have hkI1 : (k : Int) < 201 := by omega
      clear hx hp
      by_cases hpos : 0 < p
      · have HF : Hid (classM (plainM a) = k) := hid (class_at (plainM_may a) h0 (by rw [← HP.out]; exact hpos) HC.out)
        go_wp2
        all_goals
          go_ret
          exact ⟨by rw [HF.out]; rfl, HX2.out.trans HX.out⟩
      · go_wp2
        go_roundw
        case rel =>
          refine ⟨k - 1, by omega, congrArg (Value.int .i64) (by omega), HX.out, hid (fun j h1 h2 => ?_)⟩
          by_cases e : j = k
          · subst e
            have := HP.out
            omega
          · exact HC.out j (by omega) h2
        case measure => simp only [intOf]; omega
    · obtain rfl : k = 0 := by omega
      have HF : Hid (classM (plainM a) = 0) := hid (class_none (plainM_may a) HC.out)
      clear hx
      go_wp2
      all_goals
        go_ret
        exact ⟨by rw [HF.out]; rfl, HX2.out.trans HX.out⟩

theorem ex_out {m : Mono} (hm : mayM m = true) {x : Int} (h : x < 1 ∨ 200 < x) : ex m x = 0 := by
  rcases h with h | h
  · exact ex_le_last hm (by omega)
  · exact ex_above hm h

set_option maxRecDepth 100000 in
set_option maxHeartbeats 4000000 in
theorem rmono_degree {S : Nat → Prop} (va : Value) (a : Mono) (x : Int) (w : World) (ha : Pows S w va a) (hS : ∀ k, S k → k < w.heap.size) (hx : -9223372036854775808 ≤ x ∧ x ≤ 9223372036854775807) :
    Calls Try.prog 76 #[va, .int .i64 x] w fun e w' => e = .returned (.int .i64 (ex (plainM a) x)) ∧ Ext w w' := by
  have HA := hid ha
  obtain ⟨aa, ca, rfl⟩ := ha.form
  obtain ⟨hx1, hx2⟩ := hx
  clear ha
  by_cases hout : x < 1 ∨ 200 < x
  · have HF := hid (ex_out (plainM_may a) hout)
    rcases hout with h | h
    · go_enter Try.func76, Try.ntmps76
      go_wp2
      all_goals
        go_ret
        exact ⟨by rw [HF.out]; rfl, Ext.refl _⟩
    · go_enter Try.func76, Try.ntmps76
      go_wp2
      all_goals
        go_ret
        exact ⟨by rw [HF.out]; rfl, Ext.refl _⟩
  · have h1 : 1 ≤ x := by omega
    have h2 : x ≤ 200 := by omega
    have hidx := fun w => index_arr (exF a) x w (by omega) (by omega)
    have hv : exF a x.toNat = ex (plainM a) x := by
      unfold exF
      rw [Int.toNat_of_nonneg (by omega)]
    rw [hv] at hidx
    clear hout hv
    go_enter Try.func76, Try.ntmps76
    go_wp2_with fail
    refine (rmono_exps _ a w HA.out hS).mono ?_
    rintro e w1 ⟨rfl, hx1⟩
    have HX1 := hid hx1
    clear hx1
    go_wp2
    all_goals
      go_ret
      exact ⟨rfl, HX1.out⟩

/-- the monomial of exponents, of the variables up to k -/
def ofE (f : Nat → Int) : Nat → Mono
  | 0 => []
  | k + 1 => if 0 < f (k + 1) then ofE f k ++ [(((k + 1 : Nat) : Int), f (k + 1))] else ofE f k
theorem ofE_len (f : Nat → Int) (k : Nat) : (ofE f k).length ≤ k := by
  induction k with
  | zero => simp [ofE]
  | succ k ih =>
    simp only [ofE]
    split
    · simp only [List.length_append, List.length_cons, List.length_nil]; omega
    · omega
theorem ofE_bounds {f : Nat → Int} (h : ∀ j, 0 ≤ f j ∧ f j ≤ 1000000) (k : Nat) (hk : k ≤ 200) : inBounds (ofE f k) := by
  induction k with
  | zero => intro x hx; simp [ofE] at hx
  | succ k ih =>
    have ih := ih (by omega)
    simp only [ofE]
    split
    · intro x hx
      rcases List.mem_append.1 hx with hx | hx
      · exact ih x hx
      · obtain rfl := List.mem_singleton.1 hx
        have := h (k + 1)
        unfold inI64
        simp only
        omega
    · exact ih
theorem two_cell {u v : Value} (h : u.oneCell' = true) (k : v.oneCell' = true) : ∀ x ∈ (#[u, v] : Array Value).toList, x.oneCell' = true := by
  intro x hx
  simp at hx
  rcases hx with rfl | rfl <;> assumption

set_option maxRecDepth 100000 in
set_option maxHeartbeats 4000000 in
theorem rmono_of (f : Nat → Int) (w : World) (hf : ∀ j, 0 ≤ f j ∧ f j ≤ 1000000) :
    Calls Try.prog 124 #[arrV f] w fun e w' => ∃ v', e = .returned v' ∧ Pows (New w w') w' v' (ofE f 200) ∧ Ext w w' := by
  have HK := hid (Ext.alloc (Ext.refl w) (.cells (tabA f) 132))
  have HROW := hid (row_new f w)
  have HF := hid hf
  clear hf
  unfold arrV
  go_enter Try.func124, Try.ntmps124
  go_wp2
  go_loopw [3, 4] (fun o v wr => ∃ k : Nat, k ≤ 200 ∧ v = .int .i64 ((k : Int) + 1) ∧ Ext (w.alloc (.cells (tabA f) 132)) wr ∧ Hid (wr.ownsRow (w.heap.size + 1) 82 2 o (ofE f k).length (flatP (ofE f k)))) (fun _ v _ => (201 - intOf v).toNat)
  case atStart => exact ⟨0, by omega, rfl, Ext.refl _, hid (World.ownsRow_nil _ _ _ _)⟩
  case round =>
    obtain ⟨k, hk, rfl, hx, HW⟩ := hrel
    have HX := hid hx
    by_cases h0 : k < 200
    · obtain ⟨q, hq⟩ : ∃ q, q = k + 1 := ⟨_, rfl⟩
      have hqI : (k : Int) + 1 = (q : Int) := by omega
      have hq201 : q < 201 := by omega
      have hca := (row_ext HROW.out hx).cell (i := q) hq201
      unfold iv at hca
      obtain ⟨p, hp⟩ : ∃ p, p = f q := ⟨_, rfl⟩
      have hpr := HF.out q
      rw [← hp] at hca hpr
      obtain ⟨hp1, hp2⟩ := hpr
      have HP := hid hp
      have HQ := hid hq
      have hq1 : 1 ≤ q := by omega
      have hq2 : q ≤ 200 := by omega
      have hst : ofE f q = if 0 < p then ofE f k ++ [((q : Int), p)] else ofE f k := by rw [hq, hp, hq]; rfl
      have HST := hid hst
      have hol : (ofE f k).length ≤ 1000000000 := Nat.le_trans (ofE_len f k) (by omega)
      have hbs : w.heap.size + 1 ≤ wr.heap.size := by have := hx.size; rw [size_alloc] at this; exact this
      have HBS := hid hbs
      rw [hqI]
      clear hx hp hq hst hbs
      by_cases hpos : 0 < p
      · go_wp2_with (at_builtin; refine wpList_append_new _ rfl (.tmp 13) (.tmp 19) 70 rfl (w.heap.size + 1) 82 (.agg #[.int .i64 0, .int .i64 0]) 2 16 Try.underlying70 Try.infoPower rfl (by decide) _ (ofE f k).length (flatP (ofE f k)) rfl HW.out _ rfl (two_cell rfl rfl) rfl hol (by decide) HBS.out ?_; intro v1 w1 hown hg _; have HOW := hid hown; have HG := hid hg; clear hown hg)
        go_roundw
        case rel =>
          refine ⟨q, by omega, rfl, ext_grown HX.out HG.out (fun j hj => ?_), hid ?_⟩
          · have := (HW.out.lt j hj).1
            rw [size_alloc]
            exact this
          · rw [HST.out, if_pos hpos, flatP_append]
            have h1 := HOW.out
            simpa [flatP] using h1
        case measure => simp only [intOf]; omega
      · go_wp2
        go_roundw
        case rel => exact ⟨q, by omega, rfl, HX.out, hid (by rw [HST.out, if_neg hpos]; exact HW.out)⟩
        case measure => simp only [intOf]; omega
    · obtain rfl : k = 200 := by omega
      have hb := ofE_bounds HF.out 200 (Nat.le_refl _)
      have HP := hid (own_pows HW.out hb)
      clear hx hb
      go_wp2
      all_goals
        go_ret
        refine ⟨_, rfl, HP.out.to (Kept.refl _ _) (fun j hj => ⟨by have := hj.1; omega, hj.2⟩), HK.out.trans HX.out⟩

theorem pow_ne {x y : Int × Int} (h : ¬ x = y) : ¬ x.1 = y.1 ∨ x.1 = y.1 ∧ ¬ x.2 = y.2 := by
  by_cases h1 : x.1 = y.1
  · exact .inr ⟨h1, fun h2 => h (Prod.ext h1 h2)⟩
  · exact .inl h1

set_option maxRecDepth 100000 in
set_option maxHeartbeats 2000000 in
theorem rmono_same {S : Nat → Prop} (va vb : Value) (xs ys : Mono) (w : World) (ha : Pows S w va xs) (hb : Pows S w vb ys) (hS : ∀ k, S k → k < w.heap.size) :
    Calls Try.prog 97 #[va, vb] w fun e w' => e = .returned (.bool (decide (xs = ys))) ∧ Ext w w' := by
  have HA := hid ha
  have HB := hid hb
  have hl1 := ha.len_le
  have hl2 := hb.len_le
  obtain ⟨aa, ca, rfl⟩ := ha.form
  obtain ⟨ab, cb, rfl⟩ := hb.form
  clear ha hb
  by_cases hne : xs.length = ys.length
  · have hq : ((xs.length : Int) != (ys.length : Int)) = false := by rw [bne_eq_false_iff_eq]; omega
    have HN := hid hne
    obtain ⟨L, hL⟩ : ∃ L, L = xs.length := ⟨_, rfl⟩
    have HL := hid hL
    rw [← hne, ← hL] at HB hl2 hq ⊢
    rw [← hL] at HA hl1
    clear hne hL
    go_enter Try.func97, Try.ntmps97
    go_wp2
    go_loopw [5] (fun i wr => ∃ k : Nat, k ≤ L ∧ i = .int .i64 k ∧ Ext w wr ∧ xs.take k = ys.take k) (fun i _ => L - (intOf i).toNat)
    case atStart => exact ⟨0, Nat.zero_le _, rfl, Ext.refl _, by simp⟩
    case round =>
      obtain ⟨k, hk, rfl, hx, ht⟩ := hrel
      by_cases hlt : k < L
      · obtain ⟨x, hx1⟩ := some_of_lt (show k < xs.length by have := HL.out; omega)
        obtain ⟨y, hy1⟩ := some_of_lt (show k < ys.length by have := HL.out; have := HN.out; omega)
        obtain ⟨b1, o1, rfl, -, hn1, hm1, -, -, hc1, hc2⟩ := (HA.out.ext' hx hS).cellAt hx1
        obtain ⟨b2, o2, rfl, -, hn2, hm2, -, -, hc3, hc4⟩ := (HB.out.ext' hx hS).cellAt hy1
        have HX := hid hx
        have HT := hid ht
        have HX1 := hid hx1
        have HY1 := hid hy1
        clear hx ht hx1 hy1
        by_cases hxy : x = y
        · subst hxy
          go_wp2
          go_quiet (fail)
          go_wp2
          go_roundw
          case rel => exact ⟨k + 1, by omega, by go_num, HX.out.drewN _, by rw [List.take_add_one, List.take_add_one, HT.out, HX1.out, HY1.out]⟩
          case measure => simp only [intOf]; omega
        · have HF : Hid (decide (xs = ys) = false) := hid (decide_eq_false (fun e => hxy (by
            have := HX1.out
            rw [e, HY1.out] at this
            exact (Option.some.inj this).symm)))
          have hne2 := pow_ne hxy
          obtain ⟨x1, x2⟩ := x
          obtain ⟨y1, y2⟩ := y
          simp only at hc1 hc2 hc3 hc4 hne2
          clear hxy
          rcases hne2 with h | ⟨h, h2⟩
          · go_wp2
            go_quiet (fail)
            go_wp2
            all_goals
              go_ret
              exact ⟨by rw [HF.out]; rfl, HX.out.drewN _⟩
          · subst h
            go_wp2
            go_quiet (fail)
            go_wp2
            all_goals
              go_ret
              exact ⟨by rw [HF.out]; rfl, HX.out.drewN _⟩
      · obtain rfl : k = L := by omega
        have HX := hid hx
        have HF : Hid (decide (xs = ys) = true) := hid (decide_eq_true (by
          rw [HL.out, List.take_length, HN.out, List.take_length] at ht
          exact ht))
        clear hx ht
        go_wp2
        all_goals
          go_ret
          exact ⟨by rw [HF.out]; rfl, HX.out⟩
  · have hq : ((xs.length : Int) != (ys.length : Int)) = true := by rw [bne_iff_ne]; omega
    have HF : Hid (decide (xs = ys) = false) := hid (decide_eq_false (fun e => hne (by rw [e])))
    clear hne
    go_enter Try.func97, Try.ntmps97
    go_wp2
    all_goals
      go_ret
      exact ⟨by rw [HF.out]; rfl, Ext.refl _⟩
end Go.Proofs.Ythplgldclilccaa
