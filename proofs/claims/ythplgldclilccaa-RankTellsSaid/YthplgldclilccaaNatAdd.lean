/- The sum of two numbers. -/
import Derived.Test.YthplgldclilccaaNat
namespace Go.Proofs.Ythplgldclilccaa
open Go.RowKit

set_option maxRecDepth 100000 in
set_option maxHeartbeats 2000000 in
theorem nat_add_ge {S : Nat → Prop} (va vb : Value) (xs ys : List Nat) (w : World) (ha : U32s S w va xs) (hb : U32s S w vb ys) (hS : ∀ k, S k → k < w.heap.size) (hr : xs.length ≤ 1000000000000) (hle : ys.length ≤ xs.length) :
    Calls Try.prog 117 #[va, vb] w fun e w' => ∃ v', e = .returned v' ∧ U32s (New w w') w' v' (rep B32 (val B32 xs + val B32 ys)) ∧ Ext w w' := by
  have HA := hid ha
  have HB := hid hb
  obtain ⟨aa, ca, rfl⟩ := ha.form
  obtain ⟨ab, cb, rfl⟩ := hb.form
  clear ha hb
  have hmk := run_make_row' (P := Try.prog) 66 79 (.int .u32 0) 4 Try.underlying66 Try.infoU32 rfl .i64 .i64 (xs.length + 1) (by omega) (by omega) w
  rw [show ((xs.length + 1 : Nat) : Int) = (xs.length : Int) + 1 by omega] at hmk
  have hz : w.heap.size < (w.alloc (.cells (madeCells #[.int .u32 0] (xs.length + 1)) 79)).heap.size := by simp
  have HR := hid (rowU_made w (xs.length + 1) 79)
  have HE := hid (Ext.alloc (Ext.refl w) (.cells (madeCells #[.int .u32 0] (xs.length + 1)) 79))
  go_enter Try.func117, Try.ntmps117
  go_wp2
  go_loopw [6, 21] (fun c i wr => ∃ (k cc : Nat) (o : List Nat), k ≤ xs.length + 1 ∧ i = .int .i64 k ∧ c = .int .u64 cc ∧ cc ≤ 1 ∧ o.length = k ∧ Hid (∀ z ∈ o, z < B32) ∧ wr.rowIs w.heap.size 79 (xs.length + 1) (rowU o) ∧ Ext w wr ∧
    val B32 o + B32 ^ k * cc = val B32 (xs.take k) + val B32 (ys.take k)) (fun _ i _ => xs.length + 1 - (intOf i).toNat)
  case atStart => exact ⟨0, 0, [], Nat.zero_le _, rfl, rfl, by omega, rfl, hid (by simp), HR.out, HE.out, by simp [val]⟩
  case round =>
    obtain ⟨k, cc, o, hk, rfl, rfl, hcc, hol, HO, hrow, hx, hv⟩ := hrel
    by_cases hlt : k < xs.length
    · obtain ⟨x, hx1⟩ := some_of_lt hlt
      obtain ⟨b1, o1, rfl, -, hn1, hm1, -, hxb, hc1⟩ := (HA.out.to (Kept.ext hx hS) (fun _ h => h)).cellAt hx1
      have hcs := hrow.cell (i := k) (by omega)
      have hfs := hrow.frozen k
      have HX1 := hid hx1
      have HROW := hid hrow
      have HX := hid hx
      have HV := hid hv
      have HOL := hid hol
      clear hx1 hrow hx hv hol
      by_cases hlt2 : k < ys.length
      · obtain ⟨y, hy1⟩ := some_of_lt hlt2
        obtain ⟨b2, o2, rfl, -, hn2, hm2, -, hyb, hc2⟩ := (HB.out.to (Kept.ext HX.out hS) (fun _ h => h)).cellAt hy1
        have HY1 := hid hy1
        clear hy1
        go_wp2
        go_roundw
        case rel =>
          refine ⟨k + 1, (cc + (x + y)) / 4294967296, o ++ [(cc + (x + y)) % 4294967296], by omega, by go_num, congrArg (Value.int .u64) (by omega), by omega, by simp [HOL.out], ?_, ?_, HX.out.setCell (p := ⟨w.heap.size, k, none⟩) (Nat.le_refl _) _, ?_⟩
          · refine hid (fun z hz => ?_)
            rcases List.mem_append.1 hz with h | h
            · exact HO.out z h
            · rw [List.mem_singleton.1 h]
              exact Nat.mod_lt _ (by decide)
          · have h1 := rowU_snoc HROW.out ((cc + (x + y)) % 4294967296)
            rw [HOL.out] at h1
            refine cast (congrArg (fun e => World.rowIs (World.setCell wr ⟨w.heap.size, k, none⟩ (Value.int .u32 e)) _ _ _ _) ?_) h1
            omega
          · exact add_next HOL.out HV.out ((x + y)) (by rw [dg_some HX1.out, dg_some HY1.out])
        case measure => simp only [intOf]; omega
      · go_wp2
        go_roundw
        case rel =>
          refine ⟨k + 1, (cc + (x + 0)) / 4294967296, o ++ [(cc + (x + 0)) % 4294967296], by omega, by go_num, congrArg (Value.int .u64) (by omega), by omega, by simp [HOL.out], ?_, ?_, HX.out.setCell (p := ⟨w.heap.size, k, none⟩) (Nat.le_refl _) _, ?_⟩
          · refine hid (fun z hz => ?_)
            rcases List.mem_append.1 hz with h | h
            · exact HO.out z h
            · rw [List.mem_singleton.1 h]
              exact Nat.mod_lt _ (by decide)
          · have h1 := rowU_snoc HROW.out ((cc + (x + 0)) % 4294967296)
            rw [HOL.out] at h1
            refine cast (congrArg (fun e => World.rowIs (World.setCell wr ⟨w.heap.size, k, none⟩ (Value.int .u32 e)) _ _ _ _) ?_) h1
            omega
          · exact add_next HOL.out HV.out ((x + 0)) (by rw [dg_some HX1.out, dg_out (l := ys) (by omega)])
        case measure => simp only [intOf]; omega
    · by_cases hlt3 : k = xs.length
      · have hcs := hrow.cell (i := k) (by omega)
        have hfs := hrow.frozen k
        have HROW := hid hrow
        have HX := hid hx
        have HV := hid hv
        have HOL := hid hol
        have hge : ys.length ≤ k := by omega
        have HK := hid hlt3
        have hk2 : k < xs.length + 1 := by omega
        have hk3 : xs.length ≤ k := by omega
        clear hrow hx hv hol hlt3
        go_wp2
        go_roundw
        case rel =>
          refine ⟨k + 1, (cc + (0 + 0)) / 4294967296, o ++ [(cc + (0 + 0)) % 4294967296], by omega, by go_num, congrArg (Value.int .u64) (by omega), by omega, by simp [HOL.out], ?_, ?_, HX.out.setCell (p := ⟨w.heap.size, k, none⟩) (Nat.le_refl _) _, ?_⟩
          · refine hid (fun z hz => ?_)
            rcases List.mem_append.1 hz with h | h
            · exact HO.out z h
            · rw [List.mem_singleton.1 h]
              exact Nat.mod_lt _ (by decide)
          · have h1 := rowU_snoc HROW.out ((cc + (0 + 0)) % 4294967296)
            rw [HOL.out] at h1
            refine cast (congrArg (fun e => World.rowIs (World.setCell wr ⟨w.heap.size, k, none⟩ (Value.int .u32 e)) _ _ _ _) ?_) h1
            omega
          · exact add_next HOL.out HV.out ((0 + 0)) (by rw [dg_out (l := xs) (by omega), dg_out (l := ys) (by omega)])
        case measure => simp only [intOf]; omega
      · obtain rfl : k = xs.length + 1 := by omega
        have HX := hid hx
        have HROW := hid hrow
        have HV := hid (add_end two_le_B32 HA.out.lt HB.out.lt hle hv)
        have HOL := hid hol
        clear hx hrow hv hol
        have hu : U32s (fun k => k = w.heap.size) wr (.slice (some ⟨w.heap.size, 0, none⟩) (xs.length + 1) (xs.length + 1)) o := by
          have h1 := U32s.of_row HROW.out (by have := HOL.out; omega) HO.out (by omega)
          rwa [HOL.out] at h1
        have HU := hid hu
        clear hu
        go_wp2_with fail
        refine (nat_short _ o _ HU.out).mono ?_
        rintro e w' ⟨v', rfl, hu, rfl⟩
        have H := hid hu
        clear hu
        go_wp2
        all_goals
          go_ret
          refine ⟨_, rfl, ?_, HX.out⟩
          rw [← HV.out]
          refine H.out.to (Kept.refl _ _) (fun k hk => ?_)
          subst hk
          exact ⟨Nat.le_refl _, HROW.out.lt⟩
set_option maxRecDepth 100000 in
set_option maxHeartbeats 2000000 in
theorem nat_add_lt {S : Nat → Prop} (va vb : Value) (xs ys : List Nat) (w : World) (ha : U32s S w va xs) (hb : U32s S w vb ys) (hS : ∀ k, S k → k < w.heap.size) (hr : ys.length ≤ 1000000000000) (hle : xs.length < ys.length) :
    Calls Try.prog 117 #[va, vb] w fun e w' => ∃ v', e = .returned v' ∧ U32s (New w w') w' v' (rep B32 (val B32 xs + val B32 ys)) ∧ Ext w w' := by
  have HB := hid hb
  have HA := hid ha
  obtain ⟨aa, ca, rfl⟩ := ha.form
  obtain ⟨ab, cb, rfl⟩ := hb.form
  clear ha hb
  have hmk := run_make_row' (P := Try.prog) 66 79 (.int .u32 0) 4 Try.underlying66 Try.infoU32 rfl .i64 .i64 (ys.length + 1) (by omega) (by omega) w
  rw [show ((ys.length + 1 : Nat) : Int) = (ys.length : Int) + 1 by omega] at hmk
  have hz : w.heap.size < (w.alloc (.cells (madeCells #[.int .u32 0] (ys.length + 1)) 79)).heap.size := by simp
  have HR := hid (rowU_made w (ys.length + 1) 79)
  have HE := hid (Ext.alloc (Ext.refl w) (.cells (madeCells #[.int .u32 0] (ys.length + 1)) 79))
  go_enter Try.func117, Try.ntmps117
  go_wp2
  go_loopw [6, 21] (fun c i wr => ∃ (k cc : Nat) (o : List Nat), k ≤ ys.length + 1 ∧ i = .int .i64 k ∧ c = .int .u64 cc ∧ cc ≤ 1 ∧ o.length = k ∧ Hid (∀ z ∈ o, z < B32) ∧ wr.rowIs w.heap.size 79 (ys.length + 1) (rowU o) ∧ Ext w wr ∧
    val B32 o + B32 ^ k * cc = val B32 (ys.take k) + val B32 (xs.take k)) (fun _ i _ => ys.length + 1 - (intOf i).toNat)
  case atStart => exact ⟨0, 0, [], Nat.zero_le _, rfl, rfl, by omega, rfl, hid (by simp), HR.out, HE.out, by simp [val]⟩
  case round =>
    obtain ⟨k, cc, o, hk, rfl, rfl, hcc, hol, HO, hrow, hx, hv⟩ := hrel
    by_cases hlt : k < ys.length
    · obtain ⟨x, hx1⟩ := some_of_lt hlt
      obtain ⟨b1, o1, rfl, -, hn1, hm1, -, hxb, hc1⟩ := (HB.out.to (Kept.ext hx hS) (fun _ h => h)).cellAt hx1
      have hcs := hrow.cell (i := k) (by omega)
      have hfs := hrow.frozen k
      have HX1 := hid hx1
      have HROW := hid hrow
      have HX := hid hx
      have HV := hid hv
      have HOL := hid hol
      clear hx1 hrow hx hv hol
      by_cases hlt2 : k < xs.length
      · obtain ⟨y, hy1⟩ := some_of_lt hlt2
        obtain ⟨b2, o2, rfl, -, hn2, hm2, -, hyb, hc2⟩ := (HA.out.to (Kept.ext HX.out hS) (fun _ h => h)).cellAt hy1
        have HY1 := hid hy1
        clear hy1
        go_wp2
        go_roundw
        case rel =>
          refine ⟨k + 1, (cc + (x + y)) / 4294967296, o ++ [(cc + (x + y)) % 4294967296], by omega, by go_num, congrArg (Value.int .u64) (by omega), by omega, by simp [HOL.out], ?_, ?_, HX.out.setCell (p := ⟨w.heap.size, k, none⟩) (Nat.le_refl _) _, ?_⟩
          · refine hid (fun z hz => ?_)
            rcases List.mem_append.1 hz with h | h
            · exact HO.out z h
            · rw [List.mem_singleton.1 h]
              exact Nat.mod_lt _ (by decide)
          · have h1 := rowU_snoc HROW.out ((cc + (x + y)) % 4294967296)
            rw [HOL.out] at h1
            refine cast (congrArg (fun e => World.rowIs (World.setCell wr ⟨w.heap.size, k, none⟩ (Value.int .u32 e)) _ _ _ _) ?_) h1
            omega
          · exact add_next HOL.out HV.out ((x + y)) (by rw [dg_some HX1.out, dg_some HY1.out])
        case measure => simp only [intOf]; omega
      · go_wp2
        go_roundw
        case rel =>
          refine ⟨k + 1, (cc + (x + 0)) / 4294967296, o ++ [(cc + (x + 0)) % 4294967296], by omega, by go_num, congrArg (Value.int .u64) (by omega), by omega, by simp [HOL.out], ?_, ?_, HX.out.setCell (p := ⟨w.heap.size, k, none⟩) (Nat.le_refl _) _, ?_⟩
          · refine hid (fun z hz => ?_)
            rcases List.mem_append.1 hz with h | h
            · exact HO.out z h
            · rw [List.mem_singleton.1 h]
              exact Nat.mod_lt _ (by decide)
          · have h1 := rowU_snoc HROW.out ((cc + (x + 0)) % 4294967296)
            rw [HOL.out] at h1
            refine cast (congrArg (fun e => World.rowIs (World.setCell wr ⟨w.heap.size, k, none⟩ (Value.int .u32 e)) _ _ _ _) ?_) h1
            omega
          · exact add_next HOL.out HV.out ((x + 0)) (by rw [dg_some HX1.out, dg_out (l := xs) (by omega)])
        case measure => simp only [intOf]; omega
    · by_cases hlt3 : k = ys.length
      · have hcs := hrow.cell (i := k) (by omega)
        have hfs := hrow.frozen k
        have HROW := hid hrow
        have HX := hid hx
        have HV := hid hv
        have HOL := hid hol
        have hge : xs.length ≤ k := by omega
        have HK := hid hlt3
        have hk2 : k < ys.length + 1 := by omega
        have hk3 : ys.length ≤ k := by omega
        clear hrow hx hv hol hlt3
        go_wp2
        go_roundw
        case rel =>
          refine ⟨k + 1, (cc + (0 + 0)) / 4294967296, o ++ [(cc + (0 + 0)) % 4294967296], by omega, by go_num, congrArg (Value.int .u64) (by omega), by omega, by simp [HOL.out], ?_, ?_, HX.out.setCell (p := ⟨w.heap.size, k, none⟩) (Nat.le_refl _) _, ?_⟩
          · refine hid (fun z hz => ?_)
            rcases List.mem_append.1 hz with h | h
            · exact HO.out z h
            · rw [List.mem_singleton.1 h]
              exact Nat.mod_lt _ (by decide)
          · have h1 := rowU_snoc HROW.out ((cc + (0 + 0)) % 4294967296)
            rw [HOL.out] at h1
            refine cast (congrArg (fun e => World.rowIs (World.setCell wr ⟨w.heap.size, k, none⟩ (Value.int .u32 e)) _ _ _ _) ?_) h1
            omega
          · exact add_next HOL.out HV.out ((0 + 0)) (by rw [dg_out (l := ys) (by omega), dg_out (l := xs) (by omega)])
        case measure => simp only [intOf]; omega
      · obtain rfl : k = ys.length + 1 := by omega
        have HX := hid hx
        have HROW := hid hrow
        have HV := hid (add_end two_le_B32 HB.out.lt HA.out.lt (by omega) hv)
        have HOL := hid hol
        clear hx hrow hv hol
        have hu : U32s (fun k => k = w.heap.size) wr (.slice (some ⟨w.heap.size, 0, none⟩) (ys.length + 1) (ys.length + 1)) o := by
          have h1 := U32s.of_row HROW.out (by have := HOL.out; omega) HO.out (by omega)
          rwa [HOL.out] at h1
        have HU := hid hu
        clear hu
        go_wp2_with fail
        refine (nat_short _ o _ HU.out).mono ?_
        rintro e w' ⟨v', rfl, hu, rfl⟩
        have H := hid hu
        clear hu
        go_wp2
        all_goals
          go_ret
          refine ⟨_, rfl, ?_, HX.out⟩
          rw [Nat.add_comm (val B32 xs), ← HV.out]
          refine H.out.to (Kept.refl _ _) (fun k hk => ?_)
          subst hk
          exact ⟨Nat.le_refl _, HROW.out.lt⟩
theorem nat_add {S : Nat → Prop} (va vb : Value) (xs ys : List Nat) (w : World) (ha : U32s S w va xs) (hb : U32s S w vb ys) (hS : ∀ k, S k → k < w.heap.size) (hr : xs.length ≤ 1000000000000) (hr2 : ys.length ≤ 1000000000000) :
    Calls Try.prog 117 #[va, vb] w fun e w' => ∃ v', e = .returned v' ∧ U32s (New w w') w' v' (rep B32 (val B32 xs + val B32 ys)) ∧ Ext w w' := by
  by_cases h : xs.length < ys.length
  · exact nat_add_lt va vb xs ys w ha hb hS hr2 h
  · exact nat_add_ge va vb xs ys w ha hb hS hr (by omega)
end Go.Proofs.Ythplgldclilccaa
