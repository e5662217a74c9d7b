/- Decimal digits: sums, differences, products. -/
import Derived.Test.YthplgldclilccaaDig3
namespace Go.Proofs.Ythplgldclilccaa
open Go.RowKit

theorem snoc_lt {B : Nat} {o : List Nat} {z : Nat} (h : ∀ x ∈ o, x < B) (hz : z < B) : ∀ x ∈ o ++ [z], x < B := by
  intro x hx
  rcases List.mem_append.1 hx with h1 | h1
  · exact h x h1
  · rw [List.mem_singleton.1 h1]
    exact hz
theorem add_end0 {B : Nat} {o xs ys : List Nat} {k : Nat} (h : val B o + B ^ k * 0 = val B (xs.take k) + val B (ys.take k)) (hx : xs.length ≤ k) (hy : ys.length ≤ k) : val B o = val B xs + val B ys := by
  rw [List.take_of_length_le hx, List.take_of_length_le hy] at h
  simpa using h

set_option maxRecDepth 100000 in
set_option maxHeartbeats 4000000 in
theorem dig_add {S : Nat → Prop} (va vb : Value) (xs ys : List Nat) (w : World) (ha : Digs S w va xs) (hb : Digs S w vb ys) (hS : ∀ k, S k → k < w.heap.size) (hr : xs.length ≤ 10000000) (hr2 : ys.length ≤ 10000000) :
    Calls Try.prog 99 #[va, vb] w fun e w' => ∃ v', e = .returned v' ∧ Digs (New w w') w' v' (rep 10 (val 10 xs + val 10 ys)) ∧ Ext w w' := by
  have HA := hid ha
  have HB := hid hb
  obtain ⟨aa, ca, rfl⟩ := ha.form
  obtain ⟨ab, cb, rfl⟩ := hb.form
  clear ha hb
  go_enter Try.func99, Try.ntmps99
  go_wp2
  go_loopw [5, 6, 7] (fun x c i wr => ∃ (k cc : Nat) (o : List Nat), k ≤ 10000001 ∧ i = .int .i64 k ∧ c = .int .i64 cc ∧ cc ≤ 1 ∧ Hid (o.length = k) ∧ Hid (xs.length < k → ys.length < k → cc = 0) ∧ Hid (∀ z ∈ o, z < 10) ∧ Hid (wr.ownsRow w.heap.size 3 1 x o.length (o.map dval)) ∧ Ext w wr ∧
    Hid (val 10 o + 10 ^ k * cc = val 10 (xs.take k) + val 10 (ys.take k))) (fun _ _ i _ => xs.length + ys.length + 2 - (intOf i).toNat)
  case atStart => exact ⟨0, 0, [], by omega, rfl, rfl, by omega, hid rfl, hid (fun h => absurd h (by omega)), hid (by simp), hid (World.ownsRow_nil _ _ _ _), Ext.refl _, hid (by simp [val])⟩
  case round =>
    obtain ⟨k, cc, o, hk, rfl, rfl, hcc, HOL, HZ, HO, HW, hx, HV⟩ := hrel
    have hol2 : o.length ≤ 1000000000 := by have := HOL.out; omega
    have HX := hid hx
    by_cases h1 : k < xs.length
    · obtain ⟨x, hx1⟩ := some_of_lt h1
      obtain ⟨b1, o1, rfl, -, hn1, hm1, -, hxb, hc1⟩ := (HA.out.ext hx hS).cellAt hx1
      have HX1 := hid hx1
      clear hx1
      by_cases h2 : k < ys.length
      · obtain ⟨y, hy1⟩ := some_of_lt h2
        obtain ⟨b2, o2, rfl, -, hn2, hm2, -, hyb, hc2⟩ := (HB.out.ext hx hS).cellAt hy1
        have HY1 := hid hy1
        clear hy1 hx
        go_wp2_with (at_builtin; refine wpList_append_new _ rfl (.tmp 44) (.tmp 47) 98 rfl w.heap.size 3 (.int .i64 0) 1 8 Try.underlying98 Try.infoInt rfl (by decide) _ o.length (o.map dval) rfl HW.out _ rfl (one_cell rfl) rfl hol2 (by decide) HX.out.size ?_; intro v1 w1 hown hg _; have HOW := hid hown; have HG := hid hg; clear hown hg)
        go_roundw
        case rel =>
          refine ⟨k + 1, (cc + (x + y)) / 10, o ++ [(cc + (x + y)) % 10], by omega, by go_num, congrArg (Value.int .i64) (by omega), by omega, hid (by simp [HOL.out]), hid (fun h => absurd h (by omega)), hid (snoc_lt HO.out (Nat.mod_lt _ (by decide))), hid (own_snoc HOW.out (congrArg (Value.int .i64) (by omega))), ext_grown HX.out HG.out (fun q hq => (HW.out.lt q hq).1), hid ?_⟩
          exact add_next HOL.out HV.out (x + y) (by rw [dg_some HX1.out, dg_some HY1.out])
        case measure => simp only [intOf]; omega
      · clear hx
        go_wp2_with (at_builtin; refine wpList_append_new _ rfl (.tmp 44) (.tmp 47) 98 rfl w.heap.size 3 (.int .i64 0) 1 8 Try.underlying98 Try.infoInt rfl (by decide) _ o.length (o.map dval) rfl HW.out _ rfl (one_cell rfl) rfl hol2 (by decide) HX.out.size ?_; intro v1 w1 hown hg _; have HOW := hid hown; have HG := hid hg; clear hown hg)
        go_roundw
        case rel =>
          refine ⟨k + 1, (cc + (x + 0)) / 10, o ++ [(cc + (x + 0)) % 10], by omega, by go_num, congrArg (Value.int .i64) (by omega), by omega, hid (by simp [HOL.out]), hid (fun h => absurd h (by omega)), hid (snoc_lt HO.out (Nat.mod_lt _ (by decide))), hid (own_snoc HOW.out (congrArg (Value.int .i64) (by omega))), ext_grown HX.out HG.out (fun q hq => (HW.out.lt q hq).1), hid ?_⟩
          exact add_next HOL.out HV.out (x + 0) (by rw [dg_some HX1.out, dg_out (l := ys) (by omega)])
        case measure => simp only [intOf]; omega
    · by_cases h2 : k < ys.length
      · obtain ⟨y, hy1⟩ := some_of_lt h2
        obtain ⟨b2, o2, rfl, -, hn2, hm2, -, hyb, hc2⟩ := (HB.out.ext hx hS).cellAt hy1
        have HY1 := hid hy1
        clear hy1 hx
        go_wp2_with (at_builtin; refine wpList_append_new _ rfl (.tmp 44) (.tmp 47) 98 rfl w.heap.size 3 (.int .i64 0) 1 8 Try.underlying98 Try.infoInt rfl (by decide) _ o.length (o.map dval) rfl HW.out _ rfl (one_cell rfl) rfl hol2 (by decide) HX.out.size ?_; intro v1 w1 hown hg _; have HOW := hid hown; have HG := hid hg; clear hown hg)
        go_roundw
        case rel =>
          refine ⟨k + 1, (cc + (0 + y)) / 10, o ++ [(cc + (0 + y)) % 10], by omega, by go_num, congrArg (Value.int .i64) (by omega), by omega, hid (by simp [HOL.out]), hid (fun _ h => absurd h (by omega)), hid (snoc_lt HO.out (Nat.mod_lt _ (by decide))), hid (own_snoc HOW.out (congrArg (Value.int .i64) (by omega))), ext_grown HX.out HG.out (fun q hq => (HW.out.lt q hq).1), hid ?_⟩
          exact add_next HOL.out HV.out (0 + y) (by rw [dg_out (l := xs) (by omega), dg_some HY1.out])
        case measure => simp only [intOf]; omega
      · clear hx
        by_cases h3 : 0 < cc
        · have hkb : k ≤ xs.length ∨ k ≤ ys.length := by
            rcases Nat.lt_or_ge xs.length k with g1 | g1
            · rcases Nat.lt_or_ge ys.length k with g2 | g2
              · have := HZ.out g1 g2; omega
              · exact .inr g2
            · exact .inl g1
          go_wp2_with (at_builtin; refine wpList_append_new _ rfl (.tmp 44) (.tmp 47) 98 rfl w.heap.size 3 (.int .i64 0) 1 8 Try.underlying98 Try.infoInt rfl (by decide) _ o.length (o.map dval) rfl HW.out _ rfl (one_cell rfl) rfl hol2 (by decide) HX.out.size ?_; intro v1 w1 hown hg _; have HOW := hid hown; have HG := hid hg; clear hown hg)
          go_roundw
          case rel =>
            refine ⟨k + 1, (cc + (0 + 0)) / 10, o ++ [(cc + (0 + 0)) % 10], by omega, by go_num, congrArg (Value.int .i64) (by omega), by omega, hid (by simp [HOL.out]), hid (fun _ _ => by omega), hid (snoc_lt HO.out (Nat.mod_lt _ (by decide))), hid (own_snoc HOW.out (congrArg (Value.int .i64) (by omega))), ext_grown HX.out HG.out (fun q hq => (HW.out.lt q hq).1), hid ?_⟩
            exact add_next HOL.out HV.out (0 + 0) (by rw [dg_out (l := xs) (by omega), dg_out (l := ys) (by omega)])
          case measure => simp only [intOf]; omega
        · obtain rfl : cc = 0 := by omega
          have hd := own_digs HW.out HO.out
          have HD := hid hd
          obtain ⟨a1, c1, rfl⟩ := hd.form
          have HE := hid (add_end0 HV.out (by omega) (by omega))
          clear hd
          go_wp2_with fail
          refine (dig_trim _ o _ HD.out).mono ?_
          rintro e w' ⟨v', rfl, hu, rfl⟩
          have HU := hid hu
          clear hu
          go_wp2
          all_goals
            go_ret
            exact ⟨_, rfl, by rw [← HE.out]; exact HU.out, HX.out⟩

set_option maxRecDepth 100000 in
set_option maxHeartbeats 4000000 in
theorem dig_sub {S : Nat → Prop} (va vb : Value) (xs ys : List Nat) (w : World) (ha : Digs S w va xs) (hb : Digs S w vb ys) (hS : ∀ k, S k → k < w.heap.size) (hr : xs.length ≤ 10000000) (hle : ys.length ≤ xs.length) (hge : val 10 ys ≤ val 10 xs) :
    Calls Try.prog 128 #[va, vb] w fun e w' => ∃ v', e = .returned v' ∧ Digs (New w w') w' v' (rep 10 (val 10 xs - val 10 ys)) ∧ Ext w w' := by
  have HA := hid ha
  have HB := hid hb
  have HGE := hid hge
  obtain ⟨aa, ca, rfl⟩ := ha.form
  obtain ⟨ab, cb, rfl⟩ := hb.form
  clear ha hb hge
  go_enter Try.func128, Try.ntmps128
  go_wp2
  go_loopw [5, 6, 7] (fun x c i wr => ∃ (k cc : Nat) (o : List Nat), k ≤ xs.length ∧ i = .int .i64 k ∧ c = .int .i64 cc ∧ cc ≤ 1 ∧ Hid (o.length = k) ∧ Hid (∀ z ∈ o, z < 10) ∧ Hid (wr.ownsRow w.heap.size 3 1 x o.length (o.map dval)) ∧ Ext w wr ∧
    Hid (val 10 o + val 10 (ys.take k) = val 10 (xs.take k) + 10 ^ k * cc)) (fun _ _ i _ => xs.length - (intOf i).toNat)
  case atStart => exact ⟨0, 0, [], by omega, rfl, rfl, by omega, hid rfl, hid (by simp), hid (World.ownsRow_nil _ _ _ _), Ext.refl _, hid (by simp [val])⟩
  case round =>
    obtain ⟨k, cc, o, hk, rfl, rfl, hcc, HOL, HO, HW, hx, HV⟩ := hrel
    have hol2 : o.length ≤ 1000000000 := by have := HOL.out; omega
    have HX := hid hx
    by_cases h1 : k < xs.length
    · obtain ⟨x, hx1⟩ := some_of_lt h1
      obtain ⟨b1, o1, rfl, -, hn1, hm1, -, hxb, hc1⟩ := (HA.out.ext hx hS).cellAt hx1
      have HX1 := hid hx1
      clear hx1
      by_cases h2 : k < ys.length
      · obtain ⟨y, hy1⟩ := some_of_lt h2
        obtain ⟨b2, o2, rfl, -, hn2, hm2, -, hyb, hc2⟩ := (HB.out.ext hx hS).cellAt hy1
        have HY1 := hid hy1
        clear hy1 hx
        by_cases hs : y + cc ≤ x
        · go_wp2_with (at_builtin; refine wpList_append_new _ rfl (.tmp 35) (.tmp 37) 98 rfl w.heap.size 3 (.int .i64 0) 1 8 Try.underlying98 Try.infoInt rfl (by decide) _ o.length (o.map dval) rfl HW.out _ rfl (one_cell rfl) rfl hol2 (by decide) HX.out.size ?_; intro v1 w1 hown hg _; have HOW := hid hown; have HG := hid hg; clear hown hg)
          go_roundw
          case rel =>
            refine ⟨k + 1, 0, o ++ [x - y - cc], by omega, by go_num, rfl, by omega, hid (by simp [HOL.out]), hid (snoc_lt HO.out (by omega)), hid (own_snoc HOW.out (congrArg (Value.int .i64) (by omega))), ext_grown HX.out HG.out (fun q hq => (HW.out.lt q hq).1), hid ?_⟩
            exact sub_next HOL.out HV.out _ _ (by rw [dg_some HX1.out, dg_some HY1.out]; omega)
          case measure => simp only [intOf]; omega
        · go_wp2_with (at_builtin; refine wpList_append_new _ rfl (.tmp 35) (.tmp 37) 98 rfl w.heap.size 3 (.int .i64 0) 1 8 Try.underlying98 Try.infoInt rfl (by decide) _ o.length (o.map dval) rfl HW.out _ rfl (one_cell rfl) rfl hol2 (by decide) HX.out.size ?_; intro v1 w1 hown hg _; have HOW := hid hown; have HG := hid hg; clear hown hg)
          go_roundw
          case rel =>
            refine ⟨k + 1, 1, o ++ [x + 10 - y - cc], by omega, by go_num, rfl, by omega, hid (by simp [HOL.out]), hid (snoc_lt HO.out (by omega)), hid (own_snoc HOW.out (congrArg (Value.int .i64) (by omega))), ext_grown HX.out HG.out (fun q hq => (HW.out.lt q hq).1), hid ?_⟩
            exact sub_next HOL.out HV.out _ _ (by rw [dg_some HX1.out, dg_some HY1.out]; omega)
          case measure => simp only [intOf]; omega
      · clear hx
        by_cases hs : cc ≤ x
        · go_wp2_with (at_builtin; refine wpList_append_new _ rfl (.tmp 35) (.tmp 37) 98 rfl w.heap.size 3 (.int .i64 0) 1 8 Try.underlying98 Try.infoInt rfl (by decide) _ o.length (o.map dval) rfl HW.out _ rfl (one_cell rfl) rfl hol2 (by decide) HX.out.size ?_; intro v1 w1 hown hg _; have HOW := hid hown; have HG := hid hg; clear hown hg)
          go_roundw
          case rel =>
            refine ⟨k + 1, 0, o ++ [x - 0 - cc], by omega, by go_num, rfl, by omega, hid (by simp [HOL.out]), hid (snoc_lt HO.out (by omega)), hid (own_snoc HOW.out (congrArg (Value.int .i64) (by omega))), ext_grown HX.out HG.out (fun q hq => (HW.out.lt q hq).1), hid ?_⟩
            exact sub_next HOL.out HV.out _ _ (by rw [dg_some HX1.out, dg_out (l := ys) (by omega)]; omega)
          case measure => simp only [intOf]; omega
        · go_wp2_with (at_builtin; refine wpList_append_new _ rfl (.tmp 35) (.tmp 37) 98 rfl w.heap.size 3 (.int .i64 0) 1 8 Try.underlying98 Try.infoInt rfl (by decide) _ o.length (o.map dval) rfl HW.out _ rfl (one_cell rfl) rfl hol2 (by decide) HX.out.size ?_; intro v1 w1 hown hg _; have HOW := hid hown; have HG := hid hg; clear hown hg)
          go_roundw
          case rel =>
            refine ⟨k + 1, 1, o ++ [x + 10 - 0 - cc], by omega, by go_num, rfl, by omega, hid (by simp [HOL.out]), hid (snoc_lt HO.out (by omega)), hid (own_snoc HOW.out (congrArg (Value.int .i64) (by omega))), ext_grown HX.out HG.out (fun q hq => (HW.out.lt q hq).1), hid ?_⟩
            exact sub_next HOL.out HV.out _ _ (by rw [dg_some HX1.out, dg_out (l := ys) (by omega)]; omega)
          case measure => simp only [intOf]; omega
    · obtain rfl : k = xs.length := by omega
      have hd := own_digs HW.out HO.out
      have HD := hid hd
      obtain ⟨a1, c1, rfl⟩ := hd.form
      have HE : Hid (val 10 o = val 10 xs - val 10 ys) := by
        have h1 := HV.out
        rw [List.take_of_length_le hle, List.take_length] at h1
        exact hid (sub_end HO.out HOL.out HGE.out h1)
      clear hd hx
      go_wp2_with fail
      refine (dig_trim _ o _ HD.out).mono ?_
      rintro e w' ⟨v', rfl, hu, rfl⟩
      have HU := hid hu
      clear hu
      go_wp2
      all_goals
        go_ret
        exact ⟨_, rfl, by rw [← HE.out]; exact HU.out, HX.out⟩
end Go.Proofs.Ythplgldclilccaa
