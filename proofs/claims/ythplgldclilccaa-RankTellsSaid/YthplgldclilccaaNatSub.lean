/- The difference of two numbers. -/
import Derived.Test.YthplgldclilccaaNatCmp
namespace Go.Proofs.Ythplgldclilccaa
open Go.RowKit

set_option maxRecDepth 100000 in
set_option maxHeartbeats 2000000 in
theorem nat_sub_no {S : Nat → Prop} (va vb : Value) (xs ys : List Nat) (w : World) (ha : U32s S w va xs) (hb : U32s S w vb ys) (hS : ∀ k, S k → k < w.heap.size) (hlt : val B32 xs < val B32 ys) :
    Calls Try.prog 118 #[va, vb] w fun e w' => e = .returned (.tuple #[.slice none 0 0, .int .i64 2]) ∧ Ext w w' := by
  have HA := hid ha
  have HB := hid hb
  obtain ⟨aa, ca, rfl⟩ := ha.form
  obtain ⟨ab, cb, rfl⟩ := hb.form
  have hc : cmpN (val B32 xs) (val B32 ys) = -1 := by unfold cmpN; rw [cmpI_mone]; omega
  have hm := nat_cmp _ _ xs ys w HA.out HB.out hS
  rw [hc] at hm
  have HM := hid hm
  clear ha hb hc hm hlt
  go_enter Try.func118, Try.ntmps118
  go_wp2_with fail
  refine HM.out.mono ?_
  rintro e w1 ⟨rfl, hx1⟩
  have HX := hid hx1
  clear hx1
  go_wp2
  go_ret2
  exact ⟨rfl, HX.out⟩

set_option maxRecDepth 100000 in
set_option maxHeartbeats 2000000 in
theorem nat_sub_yes {S : Nat → Prop} (va vb : Value) (xs ys : List Nat) (w : World) (ha : U32s S w va xs) (hb : U32s S w vb ys) (hS : ∀ k, S k → k < w.heap.size) (hr : xs.length ≤ 1000000000000) (hge : val B32 ys ≤ val B32 xs) :
    Calls Try.prog 118 #[va, vb] w fun e w' => ∃ v', e = .returned (.tuple #[v', .int .i64 0]) ∧ U32s (New w w') w' v' (rep B32 (val B32 xs - val B32 ys)) ∧ Ext w w' := by
  have hxl : (rep B32 (val B32 xs)).length ≤ xs.length := rep_len_le two_le_B32 _ _ (val_lt xs ha.lt)
  have HA := hid ha
  have HB := hid hb
  obtain ⟨aa, ca, rfl⟩ := ha.form
  obtain ⟨ab, cb, rfl⟩ := hb.form
  obtain ⟨cc, hc, hcc⟩ : ∃ cc : Int, cmpN (val B32 xs) (val B32 ys) = cc ∧ 0 ≤ cc ∧ cc ≤ 1 := ⟨_, rfl, by unfold cmpN cmpI; split <;> (try split) <;> omega⟩
  have hm := nat_cmp _ _ xs ys w HA.out HB.out hS
  rw [hc] at hm
  have HM := hid hm
  have HGE := hid hge
  clear ha hb hc hm hge
  go_enter Try.func118, Try.ntmps118
  go_wp2_with fail
  refine HM.out.mono ?_
  rintro e w1 ⟨rfl, hx1⟩
  have hS1 : ∀ k, S k → k < w1.heap.size := fun k hk => Nat.lt_of_lt_of_le (hS k hk) hx1.size
  have HX := hid hx1
  go_wp2_with fail
  refine (nat_short (S := S) _ xs w1 (HA.out.to (Kept.ext hx1 hS) (fun _ h => h))).mono ?_
  rintro e w' ⟨va, rfl, hu, rfl⟩
  have HU := hid hu
  obtain ⟨a1, c1, rfl⟩ := hu.form
  clear hu
  go_wp2_with fail
  refine (nat_short (S := S) _ ys w1 (HB.out.to (Kept.ext hx1 hS) (fun _ h => h))).mono ?_
  rintro e w' ⟨vb, rfl, hv, rfl⟩
  have HV := hid hv
  obtain ⟨a2, c2, rfl⟩ := hv.form
  clear hv hx1
  generalize hn : val B32 xs = n at HU HGE hxl
  generalize hm : val B32 ys = m at HV HGE
  have HN := hid hn
  have HM := hid hm
  clear hn hm
  have hmk := run_make_row' (P := Try.prog) 66 79 (.int .u32 0) 4 Try.underlying66 Try.infoU32 rfl .i64 .i64 (rep B32 n).length (by omega) (by omega) w1
  have hz : w1.heap.size < (w1.alloc (.cells (madeCells #[.int .u32 0] (rep B32 n).length) 79)).heap.size := by simp
  have HR := hid (rowU_made w1 (rep B32 n).length 79)
  have HE := hid (Ext.alloc (Ext.refl w1) (.cells (madeCells #[.int .u32 0] (rep B32 n).length) 79))
  go_wp2
  go_loopw [7, 23] (fun c i wr => ∃ (k cc : Nat) (o : List Nat), k ≤ (rep B32 n).length ∧ i = .int .i64 k ∧ c = .int .u64 cc ∧ cc ≤ 1 ∧ o.length = k ∧ Hid (∀ z ∈ o, z < B32) ∧ wr.rowIs w1.heap.size 79 (rep B32 n).length (rowU o) ∧ Ext w1 wr ∧
    val B32 o + val B32 ((rep B32 m).take k) = val B32 ((rep B32 n).take k) + B32 ^ k * cc) (fun _ i _ => (rep B32 n).length - (intOf i).toNat)
  case atStart => exact ⟨0, 0, [], Nat.zero_le _, rfl, rfl, by omega, rfl, hid (by simp), HR.out, HE.out, by simp [val]⟩
  case round =>
    obtain ⟨k, cc, o, hk, rfl, rfl, hcc, hol, HO, hrow, hx, hv⟩ := hrel
    by_cases hlt : k < (rep B32 n).length
    · obtain ⟨x, hx1⟩ := some_of_lt hlt
      obtain ⟨b1, o1, rfl, -, hn1, hm1, -, hxb, hc1⟩ := (HU.out.to (Kept.ext hx hS1) (fun _ h => h)).cellAt hx1
      have hcs := hrow.cell (i := k) (by omega)
      have hfs := hrow.frozen k
      have HX1 := hid hx1
      have HROW := hid hrow
      have HXR := hid hx
      have HV1 := hid hv
      have HOL := hid hol
      clear hx1 hrow hx hv hol
      by_cases hlt2 : k < (rep B32 m).length
      · obtain ⟨y, hy1⟩ := some_of_lt hlt2
        obtain ⟨b2, o2, rfl, -, hn2, hm2, -, hyb, hc2⟩ := (HV.out.to (Kept.ext HXR.out hS1) (fun _ h => h)).cellAt hy1
        have HY1 := hid hy1
        clear hy1
        by_cases hs : y + cc ≤ x
        · go_wp2
          go_roundw
          case rel =>
            skip
            refine ⟨k + 1, 0, o ++ [x - y - cc], by omega, by go_num, congrArg (Value.int .u64) (by omega), by omega, by simp [HOL.out], ?_, ?_, HXR.out.setCell (p := ⟨w1.heap.size, k, none⟩) (Nat.le_refl _) _, ?_⟩
            · refine hid (fun z hz => ?_)
              rcases List.mem_append.1 hz with h | h
              · exact HO.out z h
              · rw [List.mem_singleton.1 h]
                show _ < 4294967296
                omega
            · have h1 := rowU_snoc HROW.out (x - y - cc)
              rw [HOL.out] at h1
              refine cast (congrArg (fun e => World.rowIs (World.setCell wr ⟨w1.heap.size, k, none⟩ (Value.int .u32 e)) _ _ _ _) ?_) h1
              omega
            · refine sub_next HOL.out HV1.out _ _ ?_
              rw [dg_some HX1.out, dg_some HY1.out]
              show _ + 4294967296 * _ = _
              omega
          case measure => simp only [intOf]; omega
        · go_wp2
          go_roundw
          case rel =>
            rw [show IntKind.u64.wrap (IntKind.u64.wrap ((x : Int) - cc) - y) = 18446744073709551616 + (x : Int) - cc - y by rw [IntKind.wrap_u64, IntKind.wrap_u64]; omega]
            refine ⟨k + 1, 1, o ++ [x + 4294967296 - y - cc], by omega, by go_num, congrArg (Value.int .u64) (by omega), by omega, by simp [HOL.out], ?_, ?_, HXR.out.setCell (p := ⟨w1.heap.size, k, none⟩) (Nat.le_refl _) _, ?_⟩
            · refine hid (fun z hz => ?_)
              rcases List.mem_append.1 hz with h | h
              · exact HO.out z h
              · rw [List.mem_singleton.1 h]
                show _ < 4294967296
                omega
            · have h1 := rowU_snoc HROW.out (x + 4294967296 - y - cc)
              rw [HOL.out] at h1
              refine cast (congrArg (fun e => World.rowIs (World.setCell wr ⟨w1.heap.size, k, none⟩ (Value.int .u32 e)) _ _ _ _) ?_) h1
              omega
            · refine sub_next HOL.out HV1.out _ _ ?_
              rw [dg_some HX1.out, dg_some HY1.out]
              show _ + 4294967296 * _ = _
              omega
          case measure => simp only [intOf]; omega
      · by_cases hs : cc ≤ x
        · go_wp2
          go_roundw
          case rel =>
            skip
            refine ⟨k + 1, 0, o ++ [x - 0 - cc], by omega, by go_num, congrArg (Value.int .u64) (by omega), by omega, by simp [HOL.out], ?_, ?_, HXR.out.setCell (p := ⟨w1.heap.size, k, none⟩) (Nat.le_refl _) _, ?_⟩
            · refine hid (fun z hz => ?_)
              rcases List.mem_append.1 hz with h | h
              · exact HO.out z h
              · rw [List.mem_singleton.1 h]
                show _ < 4294967296
                omega
            · have h1 := rowU_snoc HROW.out (x - 0 - cc)
              rw [HOL.out] at h1
              refine cast (congrArg (fun e => World.rowIs (World.setCell wr ⟨w1.heap.size, k, none⟩ (Value.int .u32 e)) _ _ _ _) ?_) h1
              omega
            · refine sub_next HOL.out HV1.out _ _ ?_
              rw [dg_some HX1.out, dg_out (l := rep B32 m) (by omega)]
              show _ + 4294967296 * _ = _
              omega
          case measure => simp only [intOf]; omega
        · go_wp2
          go_roundw
          case rel =>
            rw [show IntKind.u64.wrap ((x : Int) - cc) = 18446744073709551616 + (x : Int) - cc by rw [IntKind.wrap_u64]; omega]
            refine ⟨k + 1, 1, o ++ [x + 4294967296 - 0 - cc], by omega, by go_num, congrArg (Value.int .u64) (by omega), by omega, by simp [HOL.out], ?_, ?_, HXR.out.setCell (p := ⟨w1.heap.size, k, none⟩) (Nat.le_refl _) _, ?_⟩
            · refine hid (fun z hz => ?_)
              rcases List.mem_append.1 hz with h | h
              · exact HO.out z h
              · rw [List.mem_singleton.1 h]
                show _ < 4294967296
                omega
            · have h1 := rowU_snoc HROW.out (x + 4294967296 - 0 - cc)
              rw [HOL.out] at h1
              refine cast (congrArg (fun e => World.rowIs (World.setCell wr ⟨w1.heap.size, k, none⟩ (Value.int .u32 e)) _ _ _ _) ?_) h1
              omega
            · refine sub_next HOL.out HV1.out _ _ ?_
              rw [dg_some HX1.out, dg_out (l := rep B32 m) (by omega)]
              show _ + 4294967296 * _ = _
              omega
          case measure => simp only [intOf]; omega
    · obtain rfl : k = (rep B32 n).length := by omega
      have HXR := hid hx
      have HROW := hid hrow
      have hml : (rep B32 m).length ≤ (rep B32 n).length := rep_len_le two_le_B32 _ _ (Nat.lt_of_le_of_lt HGE.out (le_of_rep_len two_le_B32 n))
      rw [List.take_of_length_le hml, List.take_length, val_rep two_le_B32, val_rep two_le_B32] at hv
      have HV1 := hid (sub_end HO.out hol HGE.out hv)
      have hu : U32s (fun k => k = w1.heap.size) wr (.slice (some ⟨w1.heap.size, 0, none⟩) (rep B32 n).length (rep B32 n).length) o := by
        have h1 := U32s.of_row HROW.out (by omega) HO.out (by omega)
        rwa [hol] at h1
      have HU1 := hid hu
      clear hx hrow hv hol hu
      go_wp2_with fail
      refine (nat_short _ o _ HU1.out).mono ?_
      rintro e w' ⟨v', rfl, hu, rfl⟩
      have H := hid hu
      clear hu
      go_wp2
      all_goals
        go_ret2
        refine ⟨_, rfl, ?_, HX.out.trans HXR.out⟩
        rw [HN.out, HM.out, ← HV1.out]
        refine H.out.to (Kept.refl _ _) (fun k hk => ?_)
        subst hk
        exact ⟨HX.out.size, HROW.out.lt⟩
end Go.Proofs.Ythplgldclilccaa
