/- The difference of two numbers. Whole numbers as the program has them: made canonical, may they be, their sign. The sum of two whole numbers. The bits of a number that fits 32: 0 for 0 alone. The sign of a whole number. Which polynomials may be. What is appended: any source, nil, empty or not. A polynomial's first term, class and degree. Slices of polynomials in memory. Arguments that are slices of polynomials, read as data. Stable merges of two lists, and the stable sort of a list by merges. Plain. A row of memory that is sorted in place: what the worlds of a sort are. The insertion sort in place, at terms. Exchanges and rotations in place, at terms. -/
import Derived.WalkSpells
import Derived.Laws.AppendOwn
import Derived.Maps.AppendAt
import Derived.Test.YthplgldclilccaaGreatProg
import Derived.Shelf.SlSortFuncK.RowK2
import Derived.Shelf.SlicesQ.Reverse
import Derived.Test.YthplgldclilccaaGreatSet1
namespace Go.Proofs.YthplgldclilccaaGreat
open Go.RowKit

set_option maxRecDepth 100000 in
set_option maxHeartbeats 2000000 in
theorem nat_sub_no {S : Nat → Prop} (va vb : Value) (xs ys : List Nat) (w : World) (ha : U32s S w va xs) (hb : U32s S w vb ys) (hS : ∀ k, S k → k < w.heap.size) (hlt : val B32 xs < val B32 ys) :
    Calls Tryz.prog 135 #[va, vb] w fun e w' => e = .returned (.tuple #[.slice none 0 0, .int .i64 2]) ∧ Ext w w' := by
  have HA := hid ha
  have HB := hid hb
  obtain ⟨aa, ca, rfl⟩ := ha.form
  obtain ⟨ab, cb, rfl⟩ := hb.form
  have hc : cmpN (val B32 xs) (val B32 ys) = -1 := by unfold cmpN; rw [cmpI_mone]; omega
  have hm := nat_cmp _ _ xs ys w HA.out HB.out hS
  rw [hc] at hm
  have HM := hid hm
  clear ha hb hc hm hlt
  go_enter Tryz.func135, Tryz.ntmps135
  go_wp2_with fail
  refine HM.out.mono ?_
  rintro e w1 ⟨rfl, hx1⟩
  have HX := hid hx1
  clear hx1
  go_wp2
  go_ret2
  exact ⟨rfl, HX.out⟩

set_option maxRecDepth 100000 in
set_option maxHeartbeats 2000000 in
theorem nat_sub_yes {S : Nat → Prop} (va vb : Value) (xs ys : List Nat) (w : World) (ha : U32s S w va xs) (hb : U32s S w vb ys) (hS : ∀ k, S k → k < w.heap.size) (hr : xs.length ≤ 1000000000000) (hge : val B32 ys ≤ val B32 xs) :
    Calls Tryz.prog 135 #[va, vb] w fun e w' => ∃ v', e = .returned (.tuple #[v', .int .i64 0]) ∧ U32s (New w w') w' v' (rep B32 (val B32 xs - val B32 ys)) ∧ Ext w w' := by
  have hxl : (rep B32 (val B32 xs)).length ≤ xs.length := rep_len_le two_le_B32 _ _ (val_lt xs ha.lt)
  have HA := hid ha
  have HB := hid hb
  obtain ⟨aa, ca, rfl⟩ := ha.form
  obtain ⟨ab, cb, rfl⟩ := hb.form
  obtain ⟨cc, hc, hcc⟩ : ∃ cc : Int, cmpN (val B32 xs) (val B32 ys) = cc ∧ 0 ≤ cc ∧ cc ≤ 1 := ⟨_, rfl, by unfold cmpN cmpI; split <;> (try split) <;> omega⟩
  have hm := nat_cmp _ _ xs ys w HA.out HB.out hS
  rw [hc] at hm
  have HM := hid hm
  have HGE := hid hge
  clear ha hb hc hm hge
  go_enter Tryz.func135, Tryz.ntmps135
  go_wp2_with fail
  refine HM.out.mono ?_
  rintro e w1 ⟨rfl, hx1⟩
  have hS1 : ∀ k, S k → k < w1.heap.size := fun k hk => Nat.lt_of_lt_of_le (hS k hk) hx1.size
  have HX := hid hx1
  go_wp2_with fail
  refine (nat_short (S := S) _ xs w1 (HA.out.to (Kept.ext hx1 hS) (fun _ h => h))).mono ?_
  rintro e w' ⟨va, rfl, hu, rfl⟩
  have HU := hid hu
  obtain ⟨a1, c1, rfl⟩ := hu.form
  clear hu
  go_wp2_with fail
  refine (nat_short (S := S) _ ys w1 (HB.out.to (Kept.ext hx1 hS) (fun _ h => h))).mono ?_
  rintro e w' ⟨vb, rfl, hv, rfl⟩
  have HV := hid hv
  obtain ⟨a2, c2, rfl⟩ := hv.form
  clear hv hx1
  generalize hn : val B32 xs = n at HU HGE hxl
  generalize hm : val B32 ys = m at HV HGE
  have HN := hid hn
  have HM := hid hm
  clear hn hm
  have hmk := run_make_row' (P := Tryz.prog) 70 111 (.int .u32 0) 4 Tryz.underlying70 Tryz.infoU32 rfl .i64 .i64 (rep B32 n).length (by omega) (by omega) w1
  have hz : w1.heap.size < (w1.alloc (.cells (madeCells #[.int .u32 0] (rep B32 n).length) 111)).heap.size := by simp
  have HR := hid (rowU_made w1 (rep B32 n).length 111)
  have HE := hid (Ext.alloc (Ext.refl w1) (.cells (madeCells #[.int .u32 0] (rep B32 n).length) 111))
  go_wp2
  go_loopw [7, 23] (fun c i wr => ∃ (k cc : Nat) (o : List Nat), k ≤ (rep B32 n).length ∧ i = .int .i64 k ∧ c = .int .u64 cc ∧ cc ≤ 1 ∧ o.length = k ∧ Hid (∀ z ∈ o, z < B32) ∧ wr.rowIs w1.heap.size 111 (rep B32 n).length (rowU o) ∧ Ext w1 wr ∧
    val B32 o + val B32 ((rep B32 m).take k) = val B32 ((rep B32 n).take k) + B32 ^ k * cc) (fun _ i _ => (rep B32 n).length - (intOf i).toNat)
  case atStart => exact ⟨0, 0, [], Nat.zero_le _, rfl, rfl, by omega, rfl, hid (by simp), HR.out, HE.out, by simp [val]⟩
  case round =>
    obtain ⟨k, cc, o, hk, rfl, rfl, hcc, hol, HO, hrow, hx, hv⟩ := hrel
    by_cases hlt : k < (rep B32 n).length
    · obtain ⟨x, hx1⟩ := some_of_lt hlt
      obtain ⟨b1, o1, rfl, -, hn1, hm1, -, hxb, hc1⟩ := (HU.out.to (Kept.ext hx hS1) (fun _ h => h)).cellAt hx1
      have hcs := hrow.cell (i := k) (by omega)
      have hfs := hrow.frozen k
      have HX1 := hid hx1
      have HROW := hid hrow
      have HXR := hid hx
      have HV1 := hid hv
      have HOL := hid hol
      clear hx1 hrow hx hv hol
      by_cases hlt2 : k < (rep B32 m).length
      · obtain ⟨y, hy1⟩ := some_of_lt hlt2
        obtain ⟨b2, o2, rfl, -, hn2, hm2, -, hyb, hc2⟩ := (HV.out.to (Kept.ext HXR.out hS1) (fun _ h => h)).cellAt hy1
        have HY1 := hid hy1
        clear hy1
        by_cases hs : y + cc ≤ x
        · go_wp2
          go_roundw
          case rel =>
            skip
            refine ⟨k + 1, 0, o ++ [x - y - cc], by omega, by go_num, congrArg (Value.int .u64) (by omega), by omega, by simp [HOL.out], ?_, ?_, HXR.out.setCell (p := ⟨w1.heap.size, k, none⟩) (Nat.le_refl _) _, ?_⟩
            · refine hid (fun z hz => ?_)
              rcases List.mem_append.1 hz with h | h
              · exact HO.out z h
              · rw [List.mem_singleton.1 h]
                show _ < 4294967296
                omega
            · have h1 := rowU_snoc HROW.out (x - y - cc)
              rw [HOL.out] at h1
              refine cast (congrArg (fun e => World.rowIs (World.setCell wr ⟨w1.heap.size, k, none⟩ (Value.int .u32 e)) _ _ _ _) ?_) h1
              omega
            · refine sub_next HOL.out HV1.out _ _ ?_
              rw [dg_some HX1.out, dg_some HY1.out]
              show _ + 4294967296 * _ = _
              omega
          case measure => simp only [intOf]; omega
        · go_wp2
          go_roundw
          case rel =>
            rw [show IntKind.u64.wrap (IntKind.u64.wrap ((x : Int) - cc) - y) = 18446744073709551616 + (x : Int) - cc - y by rw [IntKind.wrap_u64, IntKind.wrap_u64]; omega]
            refine ⟨k + 1, 1, o ++ [x + 4294967296 - y - cc], by omega, by go_num, congrArg (Value.int .u64) (by omega), by omega, by simp [HOL.out], ?_, ?_, HXR.out.setCell (p := ⟨w1.heap.size, k, none⟩) (Nat.le_refl _) _, ?_⟩
            · refine hid (fun z hz => ?_)
              rcases List.mem_append.1 hz with h | h
              · exact HO.out z h
              · rw [List.mem_singleton.1 h]
                show _ < 4294967296
                omega
            · have h1 := rowU_snoc HROW.out (x + 4294967296 - y - cc)
              rw [HOL.out] at h1
              refine cast (congrArg (fun e => World.rowIs (World.setCell wr ⟨w1.heap.size, k, none⟩ (Value.int .u32 e)) _ _ _ _) ?_) h1
              omega
            · refine sub_next HOL.out HV1.out _ _ ?_
              rw [dg_some HX1.out, dg_some HY1.out]
              show _ + 4294967296 * _ = _
              omega
          case measure => simp only [intOf]; omega
      · by_cases hs : cc ≤ x
        · go_wp2
          go_roundw
          case rel =>
            skip
            refine ⟨k + 1, 0, o ++ [x - 0 - cc], by omega, by go_num, congrArg (Value.int .u64) (by omega), by omega, by simp [HOL.out], ?_, ?_, HXR.out.setCell (p := ⟨w1.heap.size, k, none⟩) (Nat.le_refl _) _, ?_⟩
            · refine hid (fun z hz => ?_)
              rcases List.mem_append.1 hz with h | h
              · exact HO.out z h
              · rw [List.mem_singleton.1 h]
                show _ < 4294967296
                omega
            · have h1 := rowU_snoc HROW.out (x - 0 - cc)
              rw [HOL.out] at h1
              refine cast (congrArg (fun e => World.rowIs (World.setCell wr ⟨w1.heap.size, k, none⟩ (Value.int .u32 e)) _ _ _ _) ?_) h1
              omega
            · refine sub_next HOL.out HV1.out _ _ ?_
              rw [dg_some HX1.out, dg_out (l := rep B32 m) (by omega)]
              show _ + 4294967296 * _ = _
              omega
          case measure => simp only [intOf]; omega
        · go_wp2
          go_roundw
          case rel =>
            rw [show IntKind.u64.wrap ((x : Int) - cc) = 18446744073709551616 + (x : Int) - cc by rw [IntKind.wrap_u64]; omega]
            refine ⟨k + 1, 1, o ++ [x + 4294967296 - 0 - cc], by omega, by go_num, congrArg (Value.int .u64) (by omega), by omega, by simp [HOL.out], ?_, ?_, HXR.out.setCell (p := ⟨w1.heap.size, k, none⟩) (Nat.le_refl _) _, ?_⟩
            · refine hid (fun z hz => ?_)
              rcases List.mem_append.1 hz with h | h
              · exact HO.out z h
              · rw [List.mem_singleton.1 h]
                show _ < 4294967296
                omega
            · have h1 := rowU_snoc HROW.out (x + 4294967296 - 0 - cc)
              rw [HOL.out] at h1
              refine cast (congrArg (fun e => World.rowIs (World.setCell wr ⟨w1.heap.size, k, none⟩ (Value.int .u32 e)) _ _ _ _) ?_) h1
              omega
            · refine sub_next HOL.out HV1.out _ _ ?_
              rw [dg_some HX1.out, dg_out (l := rep B32 m) (by omega)]
              show _ + 4294967296 * _ = _
              omega
          case measure => simp only [intOf]; omega
    · obtain rfl : k = (rep B32 n).length := by omega
      have HXR := hid hx
      have HROW := hid hrow
      have hml : (rep B32 m).length ≤ (rep B32 n).length := rep_len_le two_le_B32 _ _ (Nat.lt_of_le_of_lt HGE.out (le_of_rep_len two_le_B32 n))
      rw [List.take_of_length_le hml, List.take_length, val_rep two_le_B32, val_rep two_le_B32] at hv
      have HV1 := hid (sub_end HO.out hol HGE.out hv)
      have hu : U32s (fun k => k = w1.heap.size) wr (.slice (some ⟨w1.heap.size, 0, none⟩) (rep B32 n).length (rep B32 n).length) o := by
        have h1 := U32s.of_row HROW.out (by omega) HO.out (by omega)
        rwa [hol] at h1
      have HU1 := hid hu
      clear hx hrow hv hol hu
      go_wp2_with fail
      refine (nat_short _ o _ HU1.out).mono ?_
      rintro e w' ⟨v', rfl, hu, rfl⟩
      have H := hid hu
      clear hu
      go_wp2
      all_goals
        go_ret2
        refine ⟨_, rfl, ?_, HX.out.trans HXR.out⟩
        rw [HN.out, HM.out, ← HV1.out]
        refine H.out.to (Kept.refl _ _) (fun k hk => ?_)
        subst hk
        exact ⟨HX.out.size, HROW.out.lt⟩
end Go.Proofs.YthplgldclilccaaGreat

namespace Go.Proofs.YthplgldclilccaaGreat
open Go.RowKit

/-- a number with its sign, by value -/
def IntV (S : Nat → Prop) (w : World) (v : Value) (r : RInt) : Prop := ∃ vm, v = .agg #[.bool r.neg, vm] ∧ U32s S w vm r.mag
theorem IntV.to {S S' : Nat → Prop} {w w' : World} {v : Value} {r : RInt} (h : IntV S w v r) (hk : Kept S w w') (hS : ∀ k, S k → S' k) : IntV S' w' v r := by
  obtain ⟨vm, h1, h2⟩ := h
  exact ⟨vm, h1, h2.to hk hS⟩

def sg (b : Bool) (n : Nat) : Int := if b then -(n : Int) else (n : Int)
theorem ofI_sg (b : Bool) (n : Nat) : ofI (sg b n) = ⟨b && decide (0 < (rep B32 n).length), rep B32 n⟩ := by
  have h0 : 0 < (rep B32 n).length ↔ n ≠ 0 := by
    rw [List.length_pos_iff, Ne, rep_eq_nil two_le_B32]
  unfold ofI sg
  cases b with
  | false => simp
  | true =>
    simp only [if_true, Int.natAbs_neg, Int.natAbs_natCast, Bool.true_and, RInt.mk.injEq, and_true]
    rw [decide_eq_decide, h0]
    omega

/-- a block's cell, wherever memory has grown to -/
theorem Ext.new_cell {w W : World} {cs : Array Value} {T : TypeId} (h : Ext (w.alloc (.cells cs T)) W) {i : Nat} {v : Value} (hv : cs[i]? = some v) : W.cell? ⟨w.heap.size, i, none⟩ = some v := h.cell (cell_new w cs T rfl hv)
theorem Ext.new_free {w W : World} {cs : Array Value} {T : TypeId} (h : Ext (w.alloc (.cells cs T)) W) (i : Nat) : W.frozen? ⟨w.heap.size, i, none⟩ = false := h.free (by simp) (free_new w cs T)

theorem two_set {w : World} {b : Nat} {u0 u1 : Value} (x y : Value) (c0 : w.cell? ⟨b, 0, none⟩ = some u0) (c1 : w.cell? ⟨b, 1, none⟩ = some u1) :
    ((w.setCell ⟨b, 0, none⟩ x).setCell ⟨b, 1, none⟩ y).cell? ⟨b, 0, none⟩ = some x ∧ ((w.setCell ⟨b, 0, none⟩ x).setCell ⟨b, 1, none⟩ y).cell? ⟨b, 1, none⟩ = some y :=
  ⟨other (same_of c0) (ao (by decide)), same_of (other c1 (ao (by decide)))⟩
theorem Ext.set2 {a w : World} (h : Ext a w) {b : Nat} (hb : a.heap.size ≤ b) (x y : Value) : Ext a ((w.setCell ⟨b, 0, none⟩ x).setCell ⟨b, 1, none⟩ y) :=
  (h.setCell (p := ⟨b, 0, none⟩) hb x).setCell (p := ⟨b, 1, none⟩) hb y
theorem Kept.set2 {S : Nat → Prop} {w : World} {b : Nat} (h : ¬ S b) (x y : Value) : Kept S w ((w.setCell ⟨b, 0, none⟩ x).setCell ⟨b, 1, none⟩ y) :=
  (Kept.setCell (a := ⟨b, 0, none⟩) h x).trans (Kept.setCell (a := ⟨b, 1, none⟩) h y)
theorem size_set2 {w : World} {b : Nat} (x y : Value) : ((w.setCell ⟨b, 0, none⟩ x).setCell ⟨b, 1, none⟩ y).heap.size = w.heap.size := by rw [size_setCell, size_setCell]

set_option maxRecDepth 100000 in
set_option maxHeartbeats 2000000 in
theorem whole_made {S : Nat → Prop} (b : Bool) (v : Value) (zs : List Nat) (w : World) (h : U32s S w v zs) (hS : ∀ k, S k → k < w.heap.size) (hr : zs.length ≤ 1000000000000) :
    Calls Tryz.prog 115 #[.bool b, v] w fun e w' => ∃ v', e = .returned v' ∧ IntV (New w w') w' v' (ofI (sg b (val B32 zs))) ∧ Ext w w' := by
  have H := hid h
  obtain ⟨a, c, rfl⟩ := h.form
  clear h
  have HE := hid (Ext.alloc (Ext.refl w) (.cells #[.bool false, .slice none 0 0] 72))
  go_enter Tryz.func115, Tryz.ntmps115
  go_wp2_with fail
  refine (nat_trim _ zs _ (H.out.to (Kept.ext HE.out hS) (fun _ h => h)) (fun k hk => Nat.lt_of_lt_of_le (hS k hk) HE.out.size) hr).mono ?_
  rintro e w1 ⟨v', rfl, hu, hx⟩
  generalize hn : val B32 zs = n at hu
  have HN := hid hn
  have HX := hid hx
  have c0 := hx.new_cell (i := 0) rfl
  have c1 := hx.new_cell (i := 1) rfl
  have f0 := hx.new_free 0
  have f1 := hx.new_free 1
  have HU := hid hu
  obtain ⟨a', c', rfl⟩ := hu.form
  clear hn hu hx
  have HC := hid (And.intro c0 c1)
  cases b
  all_goals
    go_wp2
    have hd := fun x => two_set x (.slice a' (rep B32 n).length c') HC.out.1 HC.out.2
    refine bodyPost_ret (by simp [results, Tryz.results115, go_sem, (hd _).1, (hd _).2]; rfl) rfl ?_
    refine ⟨_, rfl, ⟨_, by rw [ofI_sg, HN.out]; rfl, ?_⟩, (HE.out.trans HX.out).set2 (Nat.le_refl _) _ _⟩
    rw [ofI_sg, HN.out]
    refine HU.out.to (Kept.set2 (fun h => ?_) _ _) (fun k hk => ⟨?_, ?_⟩)
    · have h1 := h.1
      rw [size_alloc] at h1
      omega
    · have h1 := hk.1
      rw [size_alloc] at h1
      omega
    · rw [size_set2]
      exact hk.2

set_option maxRecDepth 100000 in
set_option maxHeartbeats 2000000 in
theorem whole_may {S : Nat → Prop} (v : Value) (r : RInt) (w : World) (h : IntV S w v r) (hS : ∀ k, S k → k < w.heap.size) :
    Calls Tryz.prog 93 #[v] w fun e w' => e = .returned (.bool (mayI r)) ∧ Ext w w' := by
  obtain ⟨ng, zs⟩ := r
  obtain ⟨vm, rfl, hu⟩ := h
  simp only at hu ⊢
  have hl := hu.len_le
  have H := hid hu
  obtain ⟨a, c, rfl⟩ := hu.form
  clear hu
  have HE := hid (Ext.alloc (Ext.refl w) (.cells #[.bool ng, .slice a zs.length c] 72))
  by_cases h0 : 0 < zs.length
  · obtain ⟨z, hz⟩ := some_of_lt (show zs.length - 1 < zs.length by omega)
    obtain ⟨b, off, rfl, -, hn, hm, -, hzb, hc⟩ := (H.out.to (Kept.ext HE.out hS) (fun _ h => h)).cellAt hz
    have hR : mayI ⟨ng, zs⟩ = decide (z ≠ 0) := by
      unfold mayI
      rw [List.getLast?_eq_getElem?, hz]
    have HR := hid hR
    clear hR hz
    go_enter Tryz.func93, Tryz.ntmps93
    go_wp2
    all_goals
      go_ret
      refine ⟨?_, HE.out⟩
      rw [HR.out]
      refine congrArg Ending.returned (congrArg Value.bool ?_)
      rw [Bool.eq_iff_iff]
      simp
  · have HR : Hid (mayI ⟨ng, zs⟩ = !ng) := by
      obtain rfl : zs = [] := List.length_eq_zero_iff.1 (by omega)
      exact hid rfl
    have hnot : ∀ (x : Bool) (w : World), (Op.unary .not (.bool x)).run Tryz.prog w = .ok (.bool (!x)) w := fun _ _ => rfl
    have hb : (((zs.length : Nat) : Int) == 0) = true := by rw [beq_iff_eq]; omega
    go_enter Tryz.func93, Tryz.ntmps93
    go_wp2
    all_goals
      go_ret
      refine ⟨?_, HE.out⟩
      rw [HR.out]
      rfl

end Go.Proofs.YthplgldclilccaaGreat

namespace Go.Proofs.YthplgldclilccaaGreat
open Go.RowKit

theorem U32s.ext {S : Nat → Prop} {w W : World} {v : Value} {zs : List Nat} (h : U32s S w v zs) (hx : Ext w W) (hS : ∀ k, S k → k < w.heap.size) : U32s S W v zs := h.to (Kept.ext hx hS) (fun _ h => h)
theorem lt_ext {S : Nat → Prop} {w W : World} (hS : ∀ k, S k → k < w.heap.size) (hx : Ext w W) : ∀ k, S k → k < W.heap.size := fun k hk => Nat.lt_of_lt_of_le (hS k hk) hx.size
theorem New.lt {w w' : World} : ∀ k, New w w' k → k < w'.heap.size := fun _ h => h.2
theorem New.mono {a w w' : World} (h : Ext a w) : ∀ k, New w w' k → New a w' k := fun _ hk => ⟨Nat.le_trans h.size hk.1, hk.2⟩

theorem blk3 {w W : World} {c1 c2 c3 : Array Value} {T1 T2 T3 : TypeId} (h : Ext (((w.alloc (.cells c1 T1)).alloc (.cells c2 T2)).alloc (.cells c3 T3)) W) :
    (∀ i v, c1[i]? = some v → W.cell? ⟨w.heap.size, i, none⟩ = some v) ∧ (∀ i v, c2[i]? = some v → W.cell? ⟨w.heap.size + 1, i, none⟩ = some v) ∧ (∀ i v, c3[i]? = some v → W.cell? ⟨w.heap.size + 1 + 1, i, none⟩ = some v) ∧ ∀ i, W.frozen? ⟨w.heap.size + 1 + 1, i, none⟩ = false := by
  have e2 : Ext ((w.alloc (.cells c1 T1)).alloc (.cells c2 T2)) W := (Ext.alloc (Ext.refl _) _).trans h
  have e1 : Ext (w.alloc (.cells c1 T1)) W := (Ext.alloc (Ext.refl _) _).trans e2
  refine ⟨fun i v hv => e1.new_cell hv, fun i v hv => ?_, fun i v hv => ?_, fun i => ?_⟩
  · have := e2.new_cell hv
    rwa [size_alloc] at this
  · have := h.new_cell hv
    rwa [size_alloc, size_alloc] at this
  · have := h.new_free i
    rwa [size_alloc, size_alloc] at this

theorem Ext.drew {a w : World} (h : Ext a w) : Ext a w.drew := ⟨h.os, h.tape, h.output, h.size, h.block⟩
theorem drew3 {W : World} {a b c : Addr} {x y z : Value} (h1 : W.cell? a = some x) (h2 : W.cell? b = some y) (h3 : W.cell? c = some z) : W.drew.cell? a = some x ∧ W.drew.cell? b = some y ∧ W.drew.cell? c = some z :=
  ⟨by simpa using h1, by simpa using h2, by simpa using h3⟩
theorem ret_int3 {w0 w1 w2 : World} {b : Nat} {v : Value} {r : RInt} {vm : Value} (hv : v = .agg #[.bool r.neg, vm]) (hu : U32s (New w1 w2) w2 vm r.mag) (h01 : Ext w0 w1) (h12 : Ext w1 w2) (hb0 : w0.heap.size ≤ b) (hb1 : b < w1.heap.size) (x y : Value) :
    IntV (New w0 ((w2.setCell ⟨b, 0, none⟩ x).setCell ⟨b, 1, none⟩ y)) ((w2.setCell ⟨b, 0, none⟩ x).setCell ⟨b, 1, none⟩ y) v r ∧ Ext w0 ((w2.setCell ⟨b, 0, none⟩ x).setCell ⟨b, 1, none⟩ y) := by
  refine ⟨⟨vm, hv, hu.to (Kept.set2 (fun h => ?_) _ _) (fun k hk => ⟨Nat.le_trans h01.size hk.1, ?_⟩)⟩, (h01.trans h12).set2 hb0 _ _⟩
  · have := h.1
    omega
  · rw [size_set2]
    exact hk.2

theorem made_rep {S : Nat → Prop} (b : Bool) (v : Value) (n : Nat) (w : World) (h : U32s S w v (rep B32 n)) (hS : ∀ k, S k → k < w.heap.size) (hr : (rep B32 n).length ≤ 1000000000000) :
    Calls Tryz.prog 115 #[.bool b, v] w fun e w' => ∃ v', e = .returned v' ∧ IntV (New w w') w' v' (ofI (sg b n)) ∧ Ext w w' := by
  have h1 := whole_made b v (rep B32 n) w h hS hr
  rwa [val_rep two_le_B32] at h1
theorem rep_add_len {a b k : Nat} (ha : (rep B32 a).length ≤ k) (hb : (rep B32 b).length ≤ k) : (rep B32 (a + b)).length ≤ k + 1 := by
  refine rep_len_le two_le_B32 _ _ ?_
  have h1 := le_of_rep_len two_le_B32 a
  have h2 := le_of_rep_len two_le_B32 b
  have h3 : B32 ^ (rep B32 a).length ≤ B32 ^ k := Nat.pow_le_pow_right (by decide) ha
  have h4 : B32 ^ (rep B32 b).length ≤ B32 ^ k := Nat.pow_le_pow_right (by decide) hb
  rw [Nat.pow_succ]
  generalize B32 ^ k = P at *
  have : P * 2 ≤ P * B32 := Nat.mul_le_mul_left _ (by decide)
  omega
theorem rep_mono_len {a b : Nat} (h : a ≤ b) : (rep B32 a).length ≤ (rep B32 b).length := rep_len_le two_le_B32 _ _ (Nat.lt_of_le_of_lt h (le_of_rep_len two_le_B32 b))
theorem rep_val_len {zs : List Nat} (h : ∀ z ∈ zs, z < B32) : (rep B32 (val B32 zs)).length ≤ zs.length := rep_len_le two_le_B32 _ _ (val_lt zs h)

def AddPost (w : World) (z : Int) : Ending → World → Prop := fun e w' => ∃ v', e = .returned v' ∧ IntV (New w w') w' v' (ofI z) ∧ Ext w w'

set_option maxRecDepth 100000 in
set_option maxHeartbeats 4000000 in
theorem whole_add {S : Nat → Prop} (vx vy : Value) (x y : RInt) (w : World) (hx : IntV S w vx x) (hy : IntV S w vy y) (hS : ∀ k, S k → k < w.heap.size) (hr : x.mag.length ≤ 100000000000) (hr2 : y.mag.length ≤ 100000000000) :
    Calls Tryz.prog 110 #[vx, vy] w fun e w' => ∃ v', e = .returned v' ∧ IntV (New w w') w' v' (ofI (valI x + valI y)) ∧ Ext w w' := by
  obtain ⟨xn, xs⟩ := x
  obtain ⟨yn, ys⟩ := y
  obtain ⟨vxm, rfl, hxu⟩ := hx
  obtain ⟨vym, rfl, hyu⟩ := hy
  simp only at hxu hyu hr hr2 ⊢
  have HX := hid hxu
  have HY := hid hyu
  obtain ⟨ax, cx, rfl⟩ := hxu.form
  obtain ⟨ay, cy, rfl⟩ := hyu.form
  clear hxu hyu
  have HK := hid (Ext.alloc (Ext.alloc (Ext.alloc (Ext.refl w) (.cells #[.bool xn, .slice ax xs.length cx] 72)) (.cells #[.bool yn, .slice ay ys.length cy] 72)) (.cells #[.bool false, .slice none 0 0] 72))
  have HXK := hid (HX.out.ext HK.out hS)
  have HYK := hid (HY.out.ext HK.out hS)
  have HSK := hid (lt_ext hS HK.out)
  have hsz : w.heap.size + 1 + 1 < (((w.alloc (.cells #[.bool xn, .slice ax xs.length cx] 72)).alloc (.cells #[.bool yn, .slice ay ys.length cy] 72)).alloc (.cells #[.bool false, .slice none 0 0] 72)).heap.size := by simp
  have HSZ := hid hsz
  clear hsz
  by_cases hxy : xn = yn
  · have hb : (xn == yn) = true := by rw [beq_iff_eq]; exact hxy
    have HQ : Hid (valI ⟨xn, xs⟩ + valI ⟨yn, ys⟩ = sg xn (val B32 xs + val B32 ys)) := hid (by
      subst hxy
      unfold valI sg
      cases xn <;> (simp; try omega))
    subst hxy
    obtain ⟨b1, b2, b3, b4⟩ := blk3 (Ext.refl (((w.alloc (.cells #[.bool xn, .slice ax xs.length cx] 72)).alloc (.cells #[.bool xn, .slice ay ys.length cy] 72)).alloc (.cells #[.bool false, .slice none 0 0] 72)))
    have c1 := b1 0 _ rfl
    have c2 := b1 1 _ rfl
    have c3 := b2 1 _ rfl
    clear b1 b2 b3 b4
    have S0 := drew3 c1 c2 c3
    clear c1 c2 c3
    have HS0 := hid S0
    clear S0
    go_enter Tryz.func110, Tryz.ntmps110
    go_wp2
    have S0 := HS0.out
    have HL : Hid ((rep B32 (val B32 xs + val B32 ys)).length ≤ 1000000000000) := hid (Nat.le_trans (rep_add_len (k := 100000000000) (Nat.le_trans (rep_val_len HX.out.lt) hr) (Nat.le_trans (rep_val_len HY.out.lt) hr2)) (by decide))
    go_region_held3 (fun W => W.cell? ⟨w.heap.size, 0, none⟩ = some (.bool xn) ∧ W.cell? ⟨w.heap.size, 1, none⟩ = some (.slice ax xs.length cx) ∧ W.cell? ⟨w.heap.size + 1, 1, none⟩ = some (.slice ay ys.length cy)) (first | exact S0 | exact S1 | exact S2 | exact ⟨other (other S2.1 (ab (by omega))) (ab (by omega)), other (other S2.2.1 (ab (by omega))) (ab (by omega)), other (other S2.2.2 (ab (by omega))) (ab (by omega))⟩)
      (first
        | (go_at_call 134; (with_reducible refine (nat_add _ _ xs ys _ (HX.out.ext (HK.out.drew) hS) (HY.out.ext (HK.out.drew) hS) (lt_ext hS (HK.out.drew)) (by omega) (by omega)).mono ?_); rintro e w1 ⟨v1, rfl, hu1, hx1⟩; have S1 := And.intro (hx1.cell S0.1) (And.intro (hx1.cell S0.2.1) (hx1.cell S0.2.2)); have HX1 := hid hx1; have HU1 := hid hu1; obtain ⟨a1, n1, rfl⟩ := hu1.form; clear hx1 hu1)
        | (go_at_call 115; (with_reducible refine (made_rep xn _ _ _ HU1.out New.lt HL.out).mono ?_); rintro e w2 ⟨v2, rfl, ⟨vm2, rfl, hu2⟩, hx2⟩; have S2 := And.intro (hx2.cell S1.1) (And.intro (hx2.cell S1.2.1) (hx2.cell S1.2.2)); have HX2 := hid hx2; have HU2 := hid hu2; obtain ⟨a2, n2, rfl⟩ := hu2.form; obtain ⟨-, -, d3, d4⟩ := blk3 ((Ext.drew (Ext.refl _)).trans (HX1.out.trans hx2)); have e0 := d3 0 _ rfl; have e1 := d3 1 _ rfl; have HE := hid (And.intro e0 e1); have f0 := d4 0; have f1 := d4 1; clear d3 d4 hx2 hu2))
    go_wp2
    have hd := fun x y => two_set x y HE.out.1 HE.out.2
    refine bodyPost_ret (by simp [results, Tryz.results110, go_sem, (hd _ _).1, (hd _ _).2]; rfl) rfl ?_
    have hg := ret_int3 (w0 := w) (b := w.heap.size + 1 + 1) rfl HU2.out (HK.out.drew.trans HX1.out) HX2.out (by omega) (Nat.lt_of_lt_of_le HSZ.out HX1.out.size) (.bool (ofI (sg xn (val B32 xs + val B32 ys))).neg) (.slice a2 (ofI (sg xn (val B32 xs + val B32 ys))).mag.length n2)
    rw [HQ.out]
    exact ⟨_, rfl, hg.1, hg.2⟩
  · have hb : (xn == yn) = false := by rw [beq_eq_false_iff_ne]; exact hxy
    obtain ⟨b1, b2, b3, b4⟩ := blk3 (Ext.refl (((w.alloc (.cells #[.bool xn, .slice ax xs.length cx] 72)).alloc (.cells #[.bool yn, .slice ay ys.length cy] 72)).alloc (.cells #[.bool false, .slice none 0 0] 72)))
    have c1 := b1 0 _ rfl
    have c2 := b1 1 _ rfl
    have c3 := b2 1 _ rfl
    have c4 := b2 0 _ rfl
    clear b1 b2 b3 b4
    by_cases hge : val B32 ys ≤ val B32 xs
    · have HQ : Hid (valI ⟨xn, xs⟩ + valI ⟨yn, ys⟩ = sg xn (val B32 xs - val B32 ys)) := hid (by
        unfold valI sg
        cases xn <;> cases yn <;> first | (exact absurd rfl hxy) | (simp; omega))
      have HGE := hid hge
      have HXY := hid hxy
      clear hge hxy
      go_enter Tryz.func110, Tryz.ntmps110
      go_wp2_with fail
      refine (nat_sub_yes _ _ xs ys _ HXK.out HYK.out HSK.out (by omega) HGE.out).mono ?_
      rintro e w1 ⟨v1, rfl, hu1, hx1⟩
      obtain ⟨g1, g2, -, -⟩ := blk3 hx1
      have k1 := g1 0 _ rfl
      clear g1 g2
      have HXX := hid hx1
      have HU1 := hid hu1
      obtain ⟨a1, n1, rfl⟩ := hu1.form
      have HL : Hid ((rep B32 (val B32 xs - val B32 ys)).length ≤ 1000000000000) := hid (Nat.le_trans (Nat.le_trans (rep_mono_len (Nat.sub_le _ _)) (rep_val_len HX.out.lt)) (by omega))
      clear hx1 hu1
      go_wp2_with fail
      refine (made_rep xn _ _ _ HU1.out New.lt HL.out).mono ?_
      rintro e w2 ⟨v2, rfl, ⟨vm2, rfl, hu2⟩, hx2⟩
      have HX2 := hid hx2
      have HU2 := hid hu2
      obtain ⟨a2, n2, rfl⟩ := hu2.form
      obtain ⟨-, -, d3, d4⟩ := blk3 (HXX.out.trans hx2)
      have e0 := d3 0 _ rfl
      have e1 := d3 1 _ rfl
      have HE := hid (And.intro e0 e1)
      have f0 := d4 0
      have f1 := d4 1
      clear d3 d4 hx2 hu2
      go_wp2
      have hd := fun x y => two_set x y HE.out.1 HE.out.2
      refine bodyPost_ret (by simp [results, Tryz.results110, go_sem, (hd _ _).1, (hd _ _).2]; rfl) rfl ?_
      have hg := ret_int3 (w0 := w) (b := w.heap.size + 1 + 1) rfl HU2.out (HK.out.trans HXX.out) HX2.out (by omega) (Nat.lt_of_lt_of_le HSZ.out HXX.out.size) (.bool (ofI (sg xn (val B32 xs - val B32 ys))).neg) (.slice a2 (ofI (sg xn (val B32 xs - val B32 ys))).mag.length n2)
      rw [HQ.out]
      exact ⟨_, rfl, hg.1, hg.2⟩
    · have HQ : Hid (valI ⟨xn, xs⟩ + valI ⟨yn, ys⟩ = sg yn (val B32 ys - val B32 xs)) := hid (by
        unfold valI sg
        cases xn <;> cases yn <;> first | (exact absurd rfl hxy) | (simp; omega))
      have HGE := hid hge
      have HXY := hid hxy
      clear hge hxy
      go_enter Tryz.func110, Tryz.ntmps110
      go_wp2_with fail
      refine (nat_sub_no _ _ xs ys _ HXK.out HYK.out HSK.out (by have := HGE.out; omega)).mono ?_
      rintro e w1 ⟨rfl, hx1⟩
      obtain ⟨g1, g2, -, -⟩ := blk3 hx1
      have k1 := g1 1 _ rfl
      have k2 := g2 1 _ rfl
      have k3 := g2 0 _ rfl
      clear g1 g2
      have HX1 := hid hx1
      clear hx1
      go_wp2_with fail
      refine (nat_sub_yes _ _ ys xs _ (HY.out.ext (HK.out.trans HX1.out) hS) (HX.out.ext (HK.out.trans HX1.out) hS) (lt_ext hS (HK.out.trans HX1.out)) (by omega) (by have := HGE.out; omega)).mono ?_
      rintro e w1' ⟨v1, rfl, hu1, hx1⟩
      obtain ⟨g1, g2, -, -⟩ := blk3 (HX1.out.trans hx1)
      have k4 := g2 0 _ rfl
      clear g1 g2
      have HXX := hid (HX1.out.trans hx1)
      have HU1 := hid hu1
      obtain ⟨a1, n1, rfl⟩ := hu1.form
      have HL : Hid ((rep B32 (val B32 ys - val B32 xs)).length ≤ 1000000000000) := hid (Nat.le_trans (Nat.le_trans (rep_mono_len (Nat.sub_le _ _)) (rep_val_len HY.out.lt)) (by omega))
      clear hx1 hu1
      go_wp2_with fail
      refine (made_rep yn _ _ _ HU1.out New.lt HL.out).mono ?_
      rintro e w2 ⟨v2, rfl, ⟨vm2, rfl, hu2⟩, hx2⟩
      have HX2 := hid hx2
      have HU2 := hid hu2
      obtain ⟨a2, n2, rfl⟩ := hu2.form
      obtain ⟨-, -, d3, d4⟩ := blk3 (HXX.out.trans hx2)
      have e0 := d3 0 _ rfl
      have e1 := d3 1 _ rfl
      have HE := hid (And.intro e0 e1)
      have f0 := d4 0
      have f1 := d4 1
      clear d3 d4 hx2 hu2
      go_wp2
      have hd := fun x y => two_set x y HE.out.1 HE.out.2
      refine bodyPost_ret (by simp [results, Tryz.results110, go_sem, (hd _ _).1, (hd _ _).2]; rfl) rfl ?_
      have hg := ret_int3 (w0 := w) (b := w.heap.size + 1 + 1) rfl HU2.out (HK.out.trans HXX.out) HX2.out (by omega) (Nat.lt_of_lt_of_le HSZ.out HXX.out.size) (.bool (ofI (sg yn (val B32 ys - val B32 xs))).neg) (.slice a2 (ofI (sg yn (val B32 ys - val B32 xs))).mag.length n2)
      rw [HQ.out]
      exact ⟨_, rfl, hg.1, hg.2⟩
end Go.Proofs.YthplgldclilccaaGreat

namespace Go.Proofs.YthplgldclilccaaGreat
open Go.RowKit

def tab8 : ByteArray := ⟨#[0, 1, 2, 2, 3, 3, 3, 3, 4, 4, 4, 4, 4, 4, 4, 4, 5, 5, 5, 5, 5, 5, 5, 5, 5, 5, 5, 5, 5, 5, 5, 5, 6, 6, 6, 6, 6, 6, 6, 6, 6, 6, 6, 6, 6, 6, 6, 6, 6, 6, 6, 6, 6, 6, 6, 6, 6, 6, 6, 6, 6, 6, 6, 6, 7, 7, 7, 7, 7, 7, 7, 7, 7, 7, 7, 7, 7, 7, 7, 7, 7, 7, 7, 7, 7, 7, 7, 7, 7, 7, 7, 7, 7, 7, 7, 7, 7, 7, 7, 7, 7, 7, 7, 7, 7, 7, 7, 7, 7, 7, 7, 7, 7, 7, 7, 7, 7, 7, 7, 7, 7, 7, 7, 7, 7, 7, 7, 7, 8, 8, 8, 8, 8, 8, 8, 8, 8, 8, 8, 8, 8, 8, 8, 8, 8, 8, 8, 8, 8, 8, 8, 8, 8, 8, 8, 8, 8, 8, 8, 8, 8, 8, 8, 8, 8, 8, 8, 8, 8, 8, 8, 8, 8, 8, 8, 8, 8, 8, 8, 8, 8, 8, 8, 8, 8, 8, 8, 8, 8, 8, 8, 8, 8, 8, 8, 8, 8, 8, 8, 8, 8, 8, 8, 8, 8, 8, 8, 8, 8, 8, 8, 8, 8, 8, 8, 8, 8, 8, 8, 8, 8, 8, 8, 8, 8, 8, 8, 8, 8, 8, 8, 8, 8, 8, 8, 8, 8, 8, 8, 8, 8, 8, 8, 8, 8, 8, 8, 8, 8, 8, 8, 8, 8, 8, 8, 8]⟩
set_option maxRecDepth 100000 in
theorem tab8_size : tab8.size = 256 := by decide +kernel
set_option maxRecDepth 100000 in
theorem tab8_le : ∀ i : Fin 256, (tab8.get! i.val).toNat ≤ 8 ∧ (0 < i.val → 1 ≤ (tab8.get! i.val).toNat) := by decide +kernel
theorem tab8_of (x : Int) (h0 : 0 ≤ x) (h1 : x < 256) (h : x.toNat < tab8.size) : (tab8[x.toNat]'h).toNat ≤ 8 ∧ (0 < x → 1 ≤ (tab8[x.toNat]'h).toNat) := by
  have := tab8_le ⟨x.toNat, by omega⟩
  have e : tab8.get! x.toNat = tab8[x.toNat]'h := by
    have h2 : x.toNat < tab8.data.size := h
    show tab8.data[x.toNat]! = tab8.data[x.toNat]'h2
    exact getElem!_pos _ _ _
  simp only [e] at this
  exact ⟨this.1, fun hx => this.2 (by omega)⟩

set_option maxRecDepth 100000 in
set_option maxHeartbeats 4000000 in
theorem len32_any (x : Int) (w : World) (h0 : 0 ≤ x) (h1 : x < 4294967296) :
    Calls Tryz.prog 143 #[.int .u32 x] w fun e w' => ∃ n : Int, e = .returned (.int .i64 n) ∧ 0 ≤ n ∧ n ≤ 32 ∧ (0 < x → 0 < n) ∧ w = w' := by
  go_enter Tryz.func143, Tryz.ntmps143
  rcases (show 16777216 ≤ x ∨ 65536 ≤ x ∧ x < 16777216 ∨ 256 ≤ x ∧ x < 65536 ∨ x < 256 by omega) with h | ⟨h, h'⟩ | ⟨h, h'⟩ | h
  · go_wp2
    go_ret
    simp only [Array.getD_eq_getD_getElem?, List.getElem?_toArray, List.getElem?_cons_succ, List.getElem?_cons_zero, Option.getD_some]
    generalize hv : UInt8.toNat _ = t
    have hb := tab8_of (x / 65536 / 256) (by omega) (by omega) (by rw [tab8_size]; omega)
    have hc : t ≤ 8 ∧ (0 < x / 65536 / 256 → 1 ≤ t) := hv ▸ hb
    obtain ⟨h3, h4⟩ := hc
    clear hb hv
    refine ⟨_, rfl, ?_, ?_, fun hx => ?_, trivial⟩ <;> (unfold wrap64; omega)
  · go_wp2
    go_ret
    simp only [Array.getD_eq_getD_getElem?, List.getElem?_toArray, List.getElem?_cons_succ, List.getElem?_cons_zero, Option.getD_some]
    generalize hv : UInt8.toNat _ = t
    have hb := tab8_of (x / 65536) (by omega) (by omega) (by rw [tab8_size]; omega)
    have hc : t ≤ 8 ∧ (0 < x / 65536 → 1 ≤ t) := hv ▸ hb
    obtain ⟨h3, h4⟩ := hc
    clear hb hv
    refine ⟨_, rfl, ?_, ?_, fun hx => ?_, trivial⟩ <;> (unfold wrap64; omega)
  · go_wp2
    go_ret
    simp only [Array.getD_eq_getD_getElem?, List.getElem?_toArray, List.getElem?_cons_succ, List.getElem?_cons_zero, Option.getD_some]
    generalize hv : UInt8.toNat _ = t
    have hb := tab8_of (x / 256) (by omega) (by omega) (by rw [tab8_size]; omega)
    have hc : t ≤ 8 ∧ (0 < x / 256 → 1 ≤ t) := hv ▸ hb
    obtain ⟨h3, h4⟩ := hc
    clear hb hv
    refine ⟨_, rfl, ?_, ?_, fun hx => ?_, trivial⟩ <;> (unfold wrap64; omega)
  · go_wp2
    go_ret
    simp only [Array.getD_eq_getD_getElem?, List.getElem?_toArray, List.getElem?_cons_succ, List.getElem?_cons_zero, Option.getD_some]
    generalize hv : UInt8.toNat _ = t
    have hb := tab8_of (x) (by omega) (by omega) (by rw [tab8_size]; omega)
    have hc : t ≤ 8 ∧ (0 < x → 1 ≤ t) := hv ▸ hb
    obtain ⟨h3, h4⟩ := hc
    clear hb hv
    refine ⟨_, rfl, ?_, ?_, fun hx => ?_, trivial⟩ <;> (unfold wrap64; omega)
end Go.Proofs.YthplgldclilccaaGreat

namespace Go.Proofs.YthplgldclilccaaGreat
open Go.RowKit

set_option maxRecDepth 100000 in
set_option maxHeartbeats 2000000 in
theorem nat_bits {S : Nat → Prop} (v : Value) (zs : List Nat) (w : World) (h : U32s S w v zs) (hr : zs.length ≤ 1000000000000) :
    Calls Tryz.prog 124 #[v] w fun e w' => ∃ n : Int, e = .returned (.int .i64 n) ∧ 0 ≤ n ∧ n ≤ 9223372036854775807 ∧ (n = 0 ↔ val B32 zs = 0) ∧ w = w' := by
  have hle : (rep B32 (val B32 zs)).length ≤ zs.length := rep_len_le two_le_B32 _ _ (val_lt zs h.lt)
  have H := hid h
  obtain ⟨a, c, rfl⟩ := h.form
  clear h
  go_enter Tryz.func124, Tryz.ntmps124
  go_wp2_with fail
  refine (nat_short _ zs _ H.out).mono ?_
  rintro e w' ⟨v', rfl, hu, rfl⟩
  generalize hn : val B32 zs = n at hu hle
  have HN := hid hn
  have HU := hid hu
  obtain ⟨a', c', rfl⟩ := hu.form
  clear hu hn
  by_cases h0 : n = 0
  · have hl : (rep B32 n).length = 0 := by rw [h0]; rfl
    have hb : (((rep B32 n).length : Int) == 0) = true := by rw [beq_iff_eq]; omega
    have HZ := hid h0
    clear h0 hl
    go_wp2
    go_ret
    exact ⟨0, rfl, by omega, by omega, by rw [HN.out, HZ.out]; simp, rfl⟩
  · have hl : 0 < (rep B32 n).length := by
      rw [List.length_pos_iff, Ne, rep_eq_nil two_le_B32]
      exact h0
    obtain ⟨z, hz⟩ := some_of_lt (show (rep B32 n).length - 1 < (rep B32 n).length by omega)
    have hz0 : 0 < z := by
      have h1 := rep_last two_le_B32 n
      rw [List.getLast?_eq_getElem?, hz] at h1
      have : z ≠ 0 := fun e => h1 (by rw [e])
      omega
    obtain ⟨b, off, rfl, -, hn, hm, -, hzb, hc⟩ := HU.out.cellAt hz
    have hb : (((rep B32 n).length : Int) == 0) = false := by rw [beq_eq_false_iff_ne]; omega
    have HZ := hid h0
    clear h0 hz
    go_wp2_with fail
    refine (len32_any (z : Nat) _ (by omega) (by omega)).mono ?_
    rintro e w' ⟨k, rfl, hk1, hk2, hk3, rfl⟩
    have hk := hk3 (by omega)
    clear hk3
    go_wp2
    go_ret
    refine ⟨32 * (((rep B32 n).length : Int) - 1) + k, rfl, by omega, by omega, ?_, rfl⟩
    rw [HN.out]
    have := HZ.out
    omega

set_option maxRecDepth 100000 in
set_option maxHeartbeats 2000000 in
theorem whole_sign {S : Nat → Prop} (v : Value) (r : RInt) (w : World) (h : IntV S w v r) (hS : ∀ k, S k → k < w.heap.size) (hr : r.mag.length ≤ 1000000000000) :
    Calls Tryz.prog 92 #[v] w fun e w' => e = .returned (.int .i64 (signI (valI r))) ∧ Ext w w' := by
  obtain ⟨ng, zs⟩ := r
  obtain ⟨vm, rfl, hu⟩ := h
  simp only at hu hr ⊢
  have H := hid hu
  obtain ⟨a, c, rfl⟩ := hu.form
  clear hu
  have HE := hid (Ext.alloc (Ext.refl w) (.cells #[.bool ng, .slice a zs.length c] 72))
  go_enter Tryz.func92, Tryz.ntmps92
  go_wp2_with fail
  refine (nat_bits _ zs _ (H.out.to (Kept.ext HE.out hS) (fun _ h => h)) hr).mono ?_
  rintro e w' ⟨n, rfl, hn1, hn2, hn3, rfl⟩
  have HN := hid hn3
  clear hn3
  by_cases h0 : n = 0
  · have hb : (n == 0) = true := by rw [beq_iff_eq]; exact h0
    have HZ := hid h0
    clear h0
    have HR : Hid (signI (valI ⟨ng, zs⟩) = 0) := hid (by
      have := HN.out.1 HZ.out
      unfold signI valI
      simp [this, cmpI])
    go_wp2
    go_ret
    exact ⟨by rw [HR.out]; rfl, HE.out⟩
  · have hb : (n == 0) = false := by rw [beq_eq_false_iff_ne]; exact h0
    have HZ := hid h0
    clear h0
    have hv : val B32 zs ≠ 0 := fun e => HZ.out (HN.out.2 e)
    cases ng with
    | true =>
      have HR : Hid (signI (valI ⟨true, zs⟩) = -1) := hid (by
        unfold signI valI
        rw [cmpI_mone]
        simp
        omega)
      clear hv
      go_wp2
      go_ret
      exact ⟨by rw [HR.out]; rfl, HE.out⟩
    | false =>
      have HR : Hid (signI (valI ⟨false, zs⟩) = 1) := hid (by
        unfold signI valI
        rw [cmpI_one]
        simp
        omega)
      clear hv
      go_wp2
      go_ret
      exact ⟨by rw [HR.out]; rfl, HE.out⟩
end Go.Proofs.YthplgldclilccaaGreat

namespace Go.Proofs.YthplgldclilccaaGreat
open Go.RowKit
attribute [local go_sem ↓] Go.wp_at_zero Go.wp_at_succ

theorem ext4 {w W : World} (h : Ext w W) {a b c d i j k l : Nat} {x y z u : Value} (s : w.cell? ⟨a, i, none⟩ = some x ∧ w.cell? ⟨b, j, none⟩ = some y ∧ w.cell? ⟨c, k, none⟩ = some z ∧ w.cell? ⟨d, l, none⟩ = some u) :
    W.cell? ⟨a, i, none⟩ = some x ∧ W.cell? ⟨b, j, none⟩ = some y ∧ W.cell? ⟨c, k, none⟩ = some z ∧ W.cell? ⟨d, l, none⟩ = some u := ⟨h.cell s.1, h.cell s.2.1, h.cell s.2.2.1, h.cell s.2.2.2⟩
theorem ext3 {w W : World} (h : Ext w W) {a b c i j k : Nat} {x y z : Value} (s : w.cell? ⟨a, i, none⟩ = some x ∧ w.cell? ⟨b, j, none⟩ = some y ∧ w.cell? ⟨c, k, none⟩ = some z) :
    W.cell? ⟨a, i, none⟩ = some x ∧ W.cell? ⟨b, j, none⟩ = some y ∧ W.cell? ⟨c, k, none⟩ = some z := ⟨h.cell s.1, h.cell s.2.1, h.cell s.2.2⟩
theorem Pows.ext {S : Nat → Prop} {w W : World} {v : Value} {zs : Mono} (h : Pows S w v zs) (hx : Ext w W) (hS : ∀ k, S k → k < w.heap.size) : Pows S W v zs := h.to (Kept.ext hx hS) (fun _ h => h)
theorem Terms.ext {S : Nat → Prop} {w W : World} {v : Value} {zs : List RTerm} (h : Terms S w v zs) (hx : Ext w W) (hS : ∀ k, S k → k < w.heap.size) : Terms S W v zs := h.to (Kept.ext hx hS) (fun _ h => h)
/-- the cells of a term -/
theorem Terms.cellAt {S : Nat → Prop} {w : World} {ts : List RTerm} {a : Option Addr} {n cap k : Nat} {t : RTerm} (h : Terms S w (.slice a n cap) ts) (ht : ts[k]? = some t) :
    ∃ b off vm vo, a = some ⟨b, off, none⟩ ∧ n = ts.length ∧ n ≤ cap ∧ cap ≤ 9223372036854775807 ∧ S b ∧ w.cell? ⟨b, off + k * 3, none⟩ = some (.bool t.c.neg) ∧ w.cell? ⟨b, off + k * 3 + 1, none⟩ = some vm ∧ w.cell? ⟨b, off + k * 3 + 2, none⟩ = some vo ∧ U32s S w vm t.c.mag ∧ Pows S w vo t.m := by
  obtain ⟨b, off, ⟨a', cap', h1, h2, h3, h4, h5⟩, hc⟩ := h
  obtain ⟨rfl, rfl, rfl⟩ : a = a' ∧ n = ts.length ∧ cap = cap' := by simpa using h1
  have hp : 0 < ts.length := by have := lt_of_some ht; omega
  obtain ⟨vm, vo, g1, g2, g3, g4, g5⟩ := hc k t ht
  exact ⟨b, off, vm, vo, h4 hp, rfl, h2, h3, h5 hp, g1, g2, g3, g4, g5⟩
theorem Terms.len_le {S : Nat → Prop} {w : World} {v : Value} {zs : List RTerm} (h : Terms S w v zs) : zs.length ≤ 9223372036854775807 := by
  obtain ⟨b, off, ⟨a, cap, h1, h2, h3, _⟩, _⟩ := h
  unfold maxLen at h3
  omega
theorem Terms.okT {S : Nat → Prop} {w : World} {v : Value} {zs : List RTerm} (h : Terms S w v zs) : okT zs := by
  obtain ⟨b, off, hs, hc⟩ := h
  intro t ht
  obtain ⟨j, hj⟩ := List.getElem?_of_mem ht
  obtain ⟨vm, vo, g1, g2, g3, g4, g5⟩ := hc j t hj
  exact g4.lt

theorem intV_mk {S : Nat → Prop} {w : World} {ng : Bool} {zs : List Nat} {vm : Value} (h : U32s S w vm zs) : IntV S w (.agg #[.bool ng, vm]) ⟨ng, zs⟩ := ⟨vm, rfl, h⟩
/-- the limbs of each term are not too many -/
def smallT (ts : List RTerm) : Prop := ∀ t ∈ ts, t.c.mag.length ≤ 100000000000

/-- the term before the k-th -/
def befT (ts : List RTerm) : Nat → Option RTerm
  | 0 => none
  | k + 1 => ts[k]?
theorem mayFrom_at {ts : List RTerm} {k : Nat} {t : RTerm} (ht : ts[k]? = some t) : mayFrom (befT ts k) (ts.drop k) = (mayTerm t && (match befT ts k with | none => true | some u => decide (0 < orderM u.m t.m)) && mayFrom (befT ts (k + 1)) (ts.drop (k + 1))) := by
  rw [drop_at ht]
  simp only [befT, ht]
  rfl
theorem valI_zero {r : RInt} : signI (valI r) = 0 ↔ val B32 r.mag = 0 := by
  unfold signI valI
  rw [cmpI_zero]
  cases r.neg <;> simp
theorem mayTerm_sign {t : RTerm} (h : signI (valI t.c) = 0) : mayTerm t = false := by
  unfold mayTerm
  rw [valI_zero] at h
  simp [h]
theorem mayTerm_int {t : RTerm} (h : mayI t.c = false) : mayTerm t = false := by
  unfold mayTerm
  simp [h]
theorem mayTerm_mono {t : RTerm} (h : mayM t.m = false) : mayTerm t = false := by
  unfold mayTerm
  simp [h]
theorem mayTerm_yes {t : RTerm} (h1 : signI (valI t.c) ≠ 0) (h2 : mayI t.c = true) (h3 : mayM t.m = true) : mayTerm t = true := by
  unfold mayTerm
  rw [Ne, valI_zero] at h1
  simp [h1, h2, h3]

theorem orderM_range (a b : Mono) : -1 ≤ orderM a b ∧ orderM a b ≤ 1 := by
  unfold orderM
  split
  · rename_i hmm
    simp only [Bool.and_eq_true] at hmm
    rcases compareM_cases hmm.1 hmm.2 with h | h | h <;> omega
  · omega

set_option maxRecDepth 100000 in
set_option maxHeartbeats 8000000 in
theorem poly_may {S : Nat → Prop} (v : Value) (ts : List RTerm) (w : World) (h : Terms S w v ts) (hS : ∀ k, S k → k < w.heap.size) (hr : smallT ts) :
    Calls Tryz.prog 41 #[v] w fun e w' => e = .returned (.bool (mayT ts)) ∧ Ext w w' := by
  have hnot : ∀ (x : Bool) (w : World), (Op.unary .not (.bool x)).run Tryz.prog w = .ok (.bool (!x)) w := fun _ _ => rfl
  have hl := h.len_le
  have H := hid h
  have HRS := hid hr
  obtain ⟨a, cap, rfl⟩ := h.form
  clear h hr
  go_enter Tryz.func41, Tryz.ntmps41
  go_wp2
  go_loopw [7] (fun i wr => ∃ k : Nat, k ≤ ts.length ∧ i = .int .i64 k ∧ Ext w wr ∧ mayT ts = mayFrom (befT ts k) (ts.drop k)) (fun i _ => ts.length - (intOf i).toNat)
  case atStart => exact ⟨0, Nat.zero_le _, rfl, Ext.refl _, rfl⟩
  case round =>
    obtain ⟨k, hk, rfl, hx, hm⟩ := hrel
    by_cases hlt : k < ts.length
    · obtain ⟨t, ht⟩ := some_of_lt hlt
      obtain ⟨b, off, vm, vo, rfl, -, hn1, hm1, hSb, h1, h2, h3, h4, h5⟩ := H.out.cellAt ht
      have hat := mayFrom_at ht
      have hsm := HRS.out t (List.mem_of_getElem? ht)
      rw [hat] at hm
      have HM := hid hm
      have HT := hid ht
      obtain ⟨⟨ng, zs⟩, m⟩ := t
      simp only at h1 h2 h3 h4 h5 hsm
      have H4 := hid h4
      have H5 := hid h5
      obtain ⟨am, cm, rfl⟩ := h4.form
      obtain ⟨ao, co, rfl⟩ := h5.form
      have g1 := Ext.cell hx h1
      have g2 := Ext.cell hx h2
      have g3 := Ext.cell hx h3
      have X0 := hid (hx.alloc (.cells #[.bool ng, .slice am zs.length cm, .slice ao m.length co] 76))
      have L0 := fun X : Later (wr.alloc (.cells #[.bool ng, .slice am zs.length cm, .slice ao m.length co] 76)) => X.h.new_cell (i := 0) (v := .bool ng) rfl
      have L1 := fun X : Later (wr.alloc (.cells #[.bool ng, .slice am zs.length cm, .slice ao m.length co] 76)) => X.h.new_cell (i := 1) (v := .slice am zs.length cm) rfl
      have L2 := fun X : Later (wr.alloc (.cells #[.bool ng, .slice am zs.length cm, .slice ao m.length co] 76)) => X.h.new_cell (i := 2) (v := .slice ao m.length co) rfl
      have HX := hid hx
      have HSM := hid hsm
      clear hm ht h1 h2 h3 h4 h5 hx hat hsm

      cases k with
      | zero =>
        simp only [Nat.zero_mul, Nat.add_zero] at g1 g2 g3
        obtain ⟨sgn, hs⟩ : ∃ s, signI (valI ⟨ng, zs⟩) = s := ⟨_, rfl⟩
        by_cases hc0 : sgn = 0
        · subst hc0
          have CS := fun (W : World) (h : IntV S W (.agg #[.bool ng, .slice am zs.length cm]) ⟨ng, zs⟩) hs => whole_sign (S := S) _ _ W h hs (Nat.le_trans HSM.out (by decide))
          simp only [hs] at CS
          have HCS := hid CS
          clear CS
          have HF : Hid (mayT ts = false) := hid (by rw [HM.out, mayTerm_sign hs]; rfl)
          clear hs
          go_wp2
          refine wp_region_later (by kernel_rfl) (by kernel_rfl) ?_
          repeat (go_big_quiet_step (first | (go_at_call 92; exact Later.done (HCS.out _ (intV_mk (H4.out.ext (X0.out.trans (Later.h _)) hS)) (lt_ext hS (X0.out.trans (Later.h _)))))))
          refine wpQuiet_nil ?_
          intro W hW
          have HW := hid (X0.out.trans hW)
          clear hW
          go_wp2
          all_goals
            go_ret
            exact ⟨by rw [HF.out]; rfl, HW.out⟩
        · have hb0 : (sgn == 0) = false := by rw [beq_eq_false_iff_ne]; exact hc0
          have hsr : -1 ≤ sgn ∧ sgn ≤ 1 := by rw [← hs]; unfold signI; rcases cmpI_cases (valI ⟨ng, zs⟩) 0 with h | h | h <;> omega
          obtain ⟨hsr1, hsr2⟩ := hsr
          cases hi : mayI ⟨ng, zs⟩ with
          | false =>
            have CS := fun (W : World) (h : IntV S W (.agg #[.bool ng, .slice am zs.length cm]) ⟨ng, zs⟩) hs => whole_sign (S := S) _ _ W h hs (Nat.le_trans HSM.out (by decide))
            simp only [hs] at CS
            have HCS := hid CS
            clear CS
            have CM := fun (W : World) (h : IntV S W (.agg #[.bool ng, .slice am zs.length cm]) ⟨ng, zs⟩) hs => whole_may (S := S) _ _ W h hs
            simp only [hi] at CM
            have HCM := hid CM
            clear CM
            have HF : Hid (mayT ts = false) := hid (by rw [HM.out, mayTerm_int hi]; rfl)
            clear hs
            clear hi
            go_wp2
            refine wp_region_later (by kernel_rfl) (by kernel_rfl) ?_
            repeat (go_big_quiet_step (first | (go_at_call 92; exact Later.done (HCS.out _ (intV_mk (H4.out.ext (X0.out.trans (Later.h _)) hS)) (lt_ext hS (X0.out.trans (Later.h _))))) | (go_at_call 93; exact Later.done (HCM.out _ (intV_mk (H4.out.ext (X0.out.trans (Later.h _)) hS)) (lt_ext hS (X0.out.trans (Later.h _)))))))
            refine wpQuiet_nil ?_
            intro W hW
            have HW := hid (X0.out.trans hW)
            clear hW
            go_wp2
            all_goals
              go_ret
              exact ⟨by rw [HF.out]; rfl, HW.out⟩
          | true =>
            cases hq : mayM m with
            | false =>
              have CS := fun (W : World) (h : IntV S W (.agg #[.bool ng, .slice am zs.length cm]) ⟨ng, zs⟩) hs => whole_sign (S := S) _ _ W h hs (Nat.le_trans HSM.out (by decide))
              simp only [hs] at CS
              have HCS := hid CS
              clear CS
              have CM := fun (W : World) (h : IntV S W (.agg #[.bool ng, .slice am zs.length cm]) ⟨ng, zs⟩) hs => whole_may (S := S) _ _ W h hs
              simp only [hi] at CM
              have HCM := hid CM
              clear CM
              have CQ := fun (W : World) (h : Pows S W (.slice ao m.length co) m) hs => mono_may (S := S) _ _ W h hs
              simp only [hq] at CQ
              have HCQ := hid CQ
              clear CQ
              have HF : Hid (mayT ts = false) := hid (by rw [HM.out, mayTerm_mono hq]; rfl)
              clear hs
              clear hi
              clear hq
              go_wp2
              refine wp_region_later (by kernel_rfl) (by kernel_rfl) ?_
              repeat (go_big_quiet_step (first | (go_at_call 92; exact Later.done (HCS.out _ (intV_mk (H4.out.ext (X0.out.trans (Later.h _)) hS)) (lt_ext hS (X0.out.trans (Later.h _))))) | (go_at_call 93; exact Later.done (HCM.out _ (intV_mk (H4.out.ext (X0.out.trans (Later.h _)) hS)) (lt_ext hS (X0.out.trans (Later.h _))))) | (go_at_call 94; exact Later.done (HCQ.out _ (H5.out.ext (X0.out.trans (Later.h _)) hS) (lt_ext hS (X0.out.trans (Later.h _)))))))
              refine wpQuiet_nil ?_
              intro W hW
              have HW := hid (X0.out.trans hW)
              clear hW
              go_wp2
              all_goals
                go_ret
                exact ⟨by rw [HF.out]; rfl, HW.out⟩
            | true =>
              have CS := fun (W : World) (h : IntV S W (.agg #[.bool ng, .slice am zs.length cm]) ⟨ng, zs⟩) hs => whole_sign (S := S) _ _ W h hs (Nat.le_trans HSM.out (by decide))
              simp only [hs] at CS
              have HCS := hid CS
              clear CS
              have CM := fun (W : World) (h : IntV S W (.agg #[.bool ng, .slice am zs.length cm]) ⟨ng, zs⟩) hs => whole_may (S := S) _ _ W h hs
              simp only [hi] at CM
              have HCM := hid CM
              clear CM
              have CQ := fun (W : World) (h : Pows S W (.slice ao m.length co) m) hs => mono_may (S := S) _ _ W h hs
              simp only [hq] at CQ
              have HCQ := hid CQ
              clear CQ
              have HF : Hid (mayT ts = mayFrom (befT ts (0 + 1)) (ts.drop (0 + 1))) := hid (by rw [HM.out, mayTerm_yes (by rw [hs]; exact hc0) hi hq]; rfl)
              clear hs
              clear hi
              clear hq
              go_wp2
              refine wp_region_later (by kernel_rfl) (by kernel_rfl) ?_
              repeat (go_big_quiet_step (first | (go_at_call 92; exact Later.done (HCS.out _ (intV_mk (H4.out.ext (X0.out.trans (Later.h _)) hS)) (lt_ext hS (X0.out.trans (Later.h _))))) | (go_at_call 93; exact Later.done (HCM.out _ (intV_mk (H4.out.ext (X0.out.trans (Later.h _)) hS)) (lt_ext hS (X0.out.trans (Later.h _))))) | (go_at_call 94; exact Later.done (HCQ.out _ (H5.out.ext (X0.out.trans (Later.h _)) hS) (lt_ext hS (X0.out.trans (Later.h _)))))))
              refine wpQuiet_nil ?_
              intro W hW
              have HW := hid (X0.out.trans hW)
              clear hW
              go_wp2
              go_roundw
              case rel => exact ⟨_, by omega, by go_num, HW.out, HF.out⟩
              case measure => simp only [intOf]; omega
      | succ k =>
        obtain ⟨u, hu⟩ := some_of_lt (show k < ts.length by omega)
        obtain ⟨b', off', vmu, vou, hbb, -, -, -, -, u1, u2, u3, u4, u5⟩ := H.out.cellAt hu
        obtain ⟨rfl, rfl⟩ : b = b' ∧ off = off' := by simpa using hbb
        have HP5 := hid u5
        obtain ⟨ap, cp, rfl⟩ := u5.form
        have HBF : Hid (befT ts (k + 1) = some u) := hid hu
        have L3 := fun X : Later (wr.alloc (.cells #[.bool ng, .slice am zs.length cm, .slice ao m.length co] 76)) => X.cell (X0.out.cell u3)
        have hq0 : ((k : Nat) : Int) + 1 - 1 = (k : Int) := by omega
        clear u1 u2 u3 u4 u5 hu hbb

        obtain ⟨sgn, hs⟩ : ∃ s, signI (valI ⟨ng, zs⟩) = s := ⟨_, rfl⟩
        by_cases hc0 : sgn = 0
        · subst hc0
          have CS := fun (W : World) (h : IntV S W (.agg #[.bool ng, .slice am zs.length cm]) ⟨ng, zs⟩) hs => whole_sign (S := S) _ _ W h hs (Nat.le_trans HSM.out (by decide))
          simp only [hs] at CS
          have HCS := hid CS
          clear CS
          have HF : Hid (mayT ts = false) := hid (by rw [HM.out, mayTerm_sign hs]; rfl)
          clear hs
          go_wp2
          refine wp_region_later (by kernel_rfl) (by kernel_rfl) ?_
          repeat (go_big_quiet_step (first | (go_at_call 92; exact Later.done (HCS.out _ (intV_mk (H4.out.ext (X0.out.trans (Later.h _)) hS)) (lt_ext hS (X0.out.trans (Later.h _)))))))
          refine wpQuiet_nil ?_
          intro W hW
          have HW := hid (X0.out.trans hW)
          clear hW
          go_wp2
          all_goals
            go_ret
            exact ⟨by rw [HF.out]; rfl, HW.out⟩
        · have hb0 : (sgn == 0) = false := by rw [beq_eq_false_iff_ne]; exact hc0
          have hsr : -1 ≤ sgn ∧ sgn ≤ 1 := by rw [← hs]; unfold signI; rcases cmpI_cases (valI ⟨ng, zs⟩) 0 with h | h | h <;> omega
          obtain ⟨hsr1, hsr2⟩ := hsr
          cases hi : mayI ⟨ng, zs⟩ with
          | false =>
            have CS := fun (W : World) (h : IntV S W (.agg #[.bool ng, .slice am zs.length cm]) ⟨ng, zs⟩) hs => whole_sign (S := S) _ _ W h hs (Nat.le_trans HSM.out (by decide))
            simp only [hs] at CS
            have HCS := hid CS
            clear CS
            have CM := fun (W : World) (h : IntV S W (.agg #[.bool ng, .slice am zs.length cm]) ⟨ng, zs⟩) hs => whole_may (S := S) _ _ W h hs
            simp only [hi] at CM
            have HCM := hid CM
            clear CM
            have HF : Hid (mayT ts = false) := hid (by rw [HM.out, mayTerm_int hi]; rfl)
            clear hs
            clear hi
            go_wp2
            refine wp_region_later (by kernel_rfl) (by kernel_rfl) ?_
            repeat (go_big_quiet_step (first | (go_at_call 92; exact Later.done (HCS.out _ (intV_mk (H4.out.ext (X0.out.trans (Later.h _)) hS)) (lt_ext hS (X0.out.trans (Later.h _))))) | (go_at_call 93; exact Later.done (HCM.out _ (intV_mk (H4.out.ext (X0.out.trans (Later.h _)) hS)) (lt_ext hS (X0.out.trans (Later.h _)))))))
            refine wpQuiet_nil ?_
            intro W hW
            have HW := hid (X0.out.trans hW)
            clear hW
            go_wp2
            all_goals
              go_ret
              exact ⟨by rw [HF.out]; rfl, HW.out⟩
          | true =>
            cases hq : mayM m with
            | false =>
              have CS := fun (W : World) (h : IntV S W (.agg #[.bool ng, .slice am zs.length cm]) ⟨ng, zs⟩) hs => whole_sign (S := S) _ _ W h hs (Nat.le_trans HSM.out (by decide))
              simp only [hs] at CS
              have HCS := hid CS
              clear CS
              have CM := fun (W : World) (h : IntV S W (.agg #[.bool ng, .slice am zs.length cm]) ⟨ng, zs⟩) hs => whole_may (S := S) _ _ W h hs
              simp only [hi] at CM
              have HCM := hid CM
              clear CM
              have CQ := fun (W : World) (h : Pows S W (.slice ao m.length co) m) hs => mono_may (S := S) _ _ W h hs
              simp only [hq] at CQ
              have HCQ := hid CQ
              clear CQ
              have HF : Hid (mayT ts = false) := hid (by rw [HM.out, mayTerm_mono hq]; rfl)
              clear hs
              clear hi
              clear hq
              go_wp2
              refine wp_region_later (by kernel_rfl) (by kernel_rfl) ?_
              repeat (go_big_quiet_step (first | (go_at_call 92; exact Later.done (HCS.out _ (intV_mk (H4.out.ext (X0.out.trans (Later.h _)) hS)) (lt_ext hS (X0.out.trans (Later.h _))))) | (go_at_call 93; exact Later.done (HCM.out _ (intV_mk (H4.out.ext (X0.out.trans (Later.h _)) hS)) (lt_ext hS (X0.out.trans (Later.h _))))) | (go_at_call 94; exact Later.done (HCQ.out _ (H5.out.ext (X0.out.trans (Later.h _)) hS) (lt_ext hS (X0.out.trans (Later.h _)))))))
              refine wpQuiet_nil ?_
              intro W hW
              have HW := hid (X0.out.trans hW)
              clear hW
              go_wp2
              all_goals
                go_ret
                exact ⟨by rw [HF.out]; rfl, HW.out⟩
            | true =>
              obtain ⟨od, ho⟩ : ∃ s, orderM u.m m = s := ⟨_, rfl⟩
              have hor : -1 ≤ od ∧ od ≤ 1 := by rw [← ho]; exact orderM_range _ _
              obtain ⟨hor1, hor2⟩ := hor
              by_cases hc1 : od ≤ 0
              · have hb1 : decide (od ≤ 0) = true := by simpa using hc1
                have CS := fun (W : World) (h : IntV S W (.agg #[.bool ng, .slice am zs.length cm]) ⟨ng, zs⟩) hs => whole_sign (S := S) _ _ W h hs (Nat.le_trans HSM.out (by decide))
                simp only [hs] at CS
                have HCS := hid CS
                clear CS
                have CM := fun (W : World) (h : IntV S W (.agg #[.bool ng, .slice am zs.length cm]) ⟨ng, zs⟩) hs => whole_may (S := S) _ _ W h hs
                simp only [hi] at CM
                have HCM := hid CM
                clear CM
                have CQ := fun (W : World) (h : Pows S W (.slice ao m.length co) m) hs => mono_may (S := S) _ _ W h hs
                simp only [hq] at CQ
                have HCQ := hid CQ
                clear CQ
                have CO := fun (W : World) (h1 : Pows S W (.slice ap u.m.length cp) u.m) (h2 : Pows S W (.slice ao m.length co) m) hs => poly_order (S := S) _ _ _ _ W h1 h2 hs
                simp only [ho] at CO
                have HCO := hid CO
                clear CO
                have HF : Hid (mayT ts = false) := hid (by rw [HM.out, HBF.out]; simp only; rw [ho, decide_eq_false (by omega)]; simp)
                clear hs
                clear hi
                clear hq
                clear ho
                go_wp2
                refine wp_region_later (by kernel_rfl) (by kernel_rfl) ?_
                repeat (go_big_quiet_step (first | (go_at_call 92; exact Later.done (HCS.out _ (intV_mk (H4.out.ext (X0.out.trans (Later.h _)) hS)) (lt_ext hS (X0.out.trans (Later.h _))))) | (go_at_call 93; exact Later.done (HCM.out _ (intV_mk (H4.out.ext (X0.out.trans (Later.h _)) hS)) (lt_ext hS (X0.out.trans (Later.h _))))) | (go_at_call 94; exact Later.done (HCQ.out _ (H5.out.ext (X0.out.trans (Later.h _)) hS) (lt_ext hS (X0.out.trans (Later.h _))))) | (go_at_call 95; exact Later.done (HCO.out _ (HP5.out.ext (X0.out.trans (Later.h _)) hS) (H5.out.ext (X0.out.trans (Later.h _)) hS) (lt_ext hS (X0.out.trans (Later.h _)))))))
                refine wpQuiet_nil ?_
                intro W hW
                have HW := hid (X0.out.trans hW)
                clear hW
                go_wp2
                all_goals
                  go_ret
                  exact ⟨by rw [HF.out]; rfl, HW.out⟩
              · have hb1 : decide (od ≤ 0) = false := by simpa using hc1
                have CS := fun (W : World) (h : IntV S W (.agg #[.bool ng, .slice am zs.length cm]) ⟨ng, zs⟩) hs => whole_sign (S := S) _ _ W h hs (Nat.le_trans HSM.out (by decide))
                simp only [hs] at CS
                have HCS := hid CS
                clear CS
                have CM := fun (W : World) (h : IntV S W (.agg #[.bool ng, .slice am zs.length cm]) ⟨ng, zs⟩) hs => whole_may (S := S) _ _ W h hs
                simp only [hi] at CM
                have HCM := hid CM
                clear CM
                have CQ := fun (W : World) (h : Pows S W (.slice ao m.length co) m) hs => mono_may (S := S) _ _ W h hs
                simp only [hq] at CQ
                have HCQ := hid CQ
                clear CQ
                have CO := fun (W : World) (h1 : Pows S W (.slice ap u.m.length cp) u.m) (h2 : Pows S W (.slice ao m.length co) m) hs => poly_order (S := S) _ _ _ _ W h1 h2 hs
                simp only [ho] at CO
                have HCO := hid CO
                clear CO
                have HF : Hid (mayT ts = mayFrom (befT ts (k + 1 + 1)) (ts.drop (k + 1 + 1))) := hid (by rw [HM.out, HBF.out, mayTerm_yes (by rw [hs]; exact hc0) hi hq]; simp only; rw [ho, decide_eq_true (by omega)]; simp)
                clear hs
                clear hi
                clear hq
                clear ho
                go_wp2
                refine wp_region_later (by kernel_rfl) (by kernel_rfl) ?_
                repeat (go_big_quiet_step (first | (go_at_call 92; exact Later.done (HCS.out _ (intV_mk (H4.out.ext (X0.out.trans (Later.h _)) hS)) (lt_ext hS (X0.out.trans (Later.h _))))) | (go_at_call 93; exact Later.done (HCM.out _ (intV_mk (H4.out.ext (X0.out.trans (Later.h _)) hS)) (lt_ext hS (X0.out.trans (Later.h _))))) | (go_at_call 94; exact Later.done (HCQ.out _ (H5.out.ext (X0.out.trans (Later.h _)) hS) (lt_ext hS (X0.out.trans (Later.h _))))) | (go_at_call 95; exact Later.done (HCO.out _ (HP5.out.ext (X0.out.trans (Later.h _)) hS) (H5.out.ext (X0.out.trans (Later.h _)) hS) (lt_ext hS (X0.out.trans (Later.h _)))))))
                refine wpQuiet_nil ?_
                intro W hW
                have HW := hid (X0.out.trans hW)
                clear hW
                go_wp2
                go_roundw
                case rel => exact ⟨_, by omega, by go_num, HW.out, HF.out⟩
                case measure => simp only [intOf]; omega
    · obtain rfl : k = ts.length := by omega
      have HX := hid hx
      have HF : Hid (mayT ts = true) := hid (by rw [hm, List.drop_length]; rfl)
      clear hx hm
      go_wp2
      all_goals
        go_ret
        exact ⟨by rw [HF.out]; rfl, HX.out⟩
end Go.Proofs.YthplgldclilccaaGreat

namespace Go.Proofs.YthplgldclilccaaGreat
open Go.RowKit

section
variable {P : Program}
/-- a slice value whose cells are these -/
def SrcAt (w : World) (A : Option Addr) (m size : Nat) (news : List Value) : Prop :=
  news.length = m * size ∧ (∀ u ∈ news, u.oneCell' = true) ∧ (0 < m → ∃ ad, A = some ad ∧ ∀ j u, news[j]? = some u → w.cell? (ad.add j) = some u)

theorem append_nothing (w : World) {base : Nat} {t e ty : TypeId} {i : TypeInfo} {size : Nat} (ht : P.underlying t = some (.slice e)) (hi : P.info? e = some i)
    {v : Value} {n : Nat} {xs : List Value} (h : w.ownsRow base e size v n xs) (c : Nat) : (Builtin.append_ #[t, t] ty #[v, .slice none 0 c]).run P w = .ok v w := by
  obtain ⟨_, ⟨rfl, rfl⟩ | ⟨g, k, row, rfl, _, _, hk, _⟩⟩ := h
  all_goals simp [Builtin.append_, run_underlying ht, sizeOf, typeInfo, Builtin.lenOf, Builtin.firstCells, storeCells, *]

theorem run_append_src (w : World) (base : Nat) (t ty e : TypeId) (i : TypeInfo) (z : Value) (size bytes : Nat) (ht : P.underlying t = some (.slice e)) (hi : P.info? e = some i) (hz : i.zero = some z)
    (hsize : i.size = size) (hby : i.bytes = bytes) (hzs : z.cells.size = size) (hsz : 0 < size)
    (v : Value) (n : Nat) (xs : List Value) (hown : w.ownsRow base e size v n xs)
    (A : Option Addr) (m c : Nat) (news : List Value) (hsrc : SrcAt w A m size news) (h63 : n + m ≤ maxLen) (hbytes : (n + m) * bytes ≤ 140737488355328) (hbase : base ≤ w.heap.size) :
    ∃ v' w', (Builtin.append_ #[t, t] ty #[v, .slice A m c]).run P w = .ok v' w' ∧ w'.ownsRow base e size v' (n + m) (xs ++ news) ∧ w.grownBy w' v.ownBlock ∧ (v'.ownBlock = v.ownBlock ∨ v'.ownBlock = some w.heap.size) := by
  obtain ⟨hl, h1, hat⟩ := hsrc
  cases A with
  | some ad =>
    obtain ⟨v', w', k1, k2, k3, _, k5⟩ := run_append_own_at (P := P) w base t ty e i z size bytes ht hi hz hsize hby hzs hsz v n xs hown ad m c news hl (fun j u hu => by
      have hm : 0 < m := by
        rcases Nat.eq_zero_or_pos m with rfl | h0
        · have := lt_of_some hu; omega
        · exact h0
      obtain ⟨ad', e, hc⟩ := hat hm
      cases e
      exact hc j u hu) h1 h63 hbytes hbase
    exact ⟨v', w', k1, k2, k3, k5⟩
  | none =>
    obtain rfl : m = 0 := by
      rcases Nat.eq_zero_or_pos m with h0 | h0
      · exact h0
      · obtain ⟨ad', e, _⟩ := hat h0
        cases e
    obtain rfl : news = [] := List.length_eq_zero_iff.1 (by omega)
    exact ⟨v, w, append_nothing w ht hi hown c, by simpa using hown, ⟨rfl, rfl, rfl, Nat.le_refl _, fun _ _ _ => rfl⟩, .inl rfl⟩

theorem wpList_append_src (w : World) {ops : Array Oper} {rest : List Oper} {o : Oper} {a : Act} {Q : Exit → Act → World → Prop} (hgd : o.guard = none) (s x : Operand) (t : TypeId)
    (ho : o.op = .call { callee := .builtin .append, args := #[s, x], argTypes := #[t, t] })
    (base : Nat) (e : TypeId) (i : TypeInfo) (z : Value) (size bytes : Nat) (ht : P.underlying t = some (.slice e)) (hi : P.info? e = some i) (hz : i.zero = some z)
    (hsize : i.size = size) (hby : i.bytes = bytes) (hzs : z.cells.size = size) (hsz : 0 < size)
    (v : Value) (n : Nat) (xs : List Value) (hs : a.eval s = v) (hown : w.ownsRow base e size v n xs)
    (A : Option Addr) (m c : Nat) (news : List Value) (hx : a.eval x = .slice A m c) (hsrc : SrcAt w A m size news)
    (h63 : n + m ≤ maxLen) (hbytes : (n + m) * bytes ≤ 140737488355328) (hbase : base ≤ w.heap.size)
    (h : ∀ v' w', w'.ownsRow base e size v' (n + m) (xs ++ news) → w.grownBy w' v.ownBlock → (v'.ownBlock = v.ownBlock ∨ v'.ownBlock = some w.heap.size) → wpList P ops Q rest (a.put o.dst v') w') : wpList P ops Q (o :: rest) a w := by
  obtain ⟨v', w', hrun, h2, h3, h4⟩ := run_append_src (P := P) w base t o.type e i z size bytes ht hi hz hsize hby hzs hsz v n xs hown A m c news hsrc h63 hbytes hbase
  refine wpList_plain hgd fun K hK => ?_
  unfold Oper.wp execOp
  simp only [ho, resolve, invoke, builtin, Sem.run_bind, Sem.run_pure, Result.andThen_ok, List.map_toArray, List.map_cons, List.map_nil, hs, hx, hrun]
  exact hK _ _ (h v' w' h2 h3 h4)

/-- one element more, laid in a block of its own ahead -/
theorem wpList_append_new (W : World) {ops : Array Oper} {rest : List Oper} {o : Oper} {a : Act} {Q : Exit → Act → World → Prop} (hgd : o.guard = none) (s x : Operand) (t : TypeId)
    (ho : o.op = .call { callee := .builtin .append, args := #[s, x], argTypes := #[t, t] })
    (base : Nat) (e : TypeId) (z : Value) (size bytes : Nat) (ht : P.underlying t = some (.slice e)) (hinfo : (P.info? e).map (fun i => (i.zero, i.size, i.bytes)) = some (some z, size, bytes)) (hzs : z.cells.size = size) (hsz : 0 < size)
    (v : Value) (n : Nat) (xs : List Value) (hs : a.eval s = v) (hown : W.ownsRow base e size v n xs)
    (cs : Array Value) (hcs : cs.size = size) (h1 : ∀ u ∈ cs.toList, u.oneCell' = true) (hx : a.eval x = .slice (some ⟨W.heap.size, 0, none⟩) 1 1)
    (hn : n ≤ 1000000000) (hbytes : bytes ≤ 10000) (hbase : base ≤ W.heap.size)
    (h : ∀ v' w', w'.ownsRow base e size v' (n + 1) (xs ++ cs.toList) → W.grownBy w' v.ownBlock → (v'.ownBlock = v.ownBlock ∨ v'.ownBlock = some (W.heap.size + 1)) → wpList P ops Q rest (a.put o.dst v') w') : wpList P ops Q (o :: rest) a (W.alloc (.cells cs e)) := by
  obtain ⟨i, hi, hz0, hz1, hz2⟩ := info_parts hinfo
  have hg0 := World.grownBy_alloc W (.cells cs e) v.ownBlock
  refine wpList_append_src _ hgd s x t ho base e i z size bytes ht hi hz0 hz1 hz2 hzs hsz v n xs hs (hown.alloc _) _ 1 1 cs.toList hx ⟨by simpa using hcs, h1, fun _ => ⟨_, rfl, fun j u hu => ?_⟩⟩ (by unfold maxLen; omega) ?_ (Nat.le_trans hbase hg0.size) (fun v' w' k1 k2 k3 => h v' w' k1 ?_ ?_)
  · rw [show (⟨W.heap.size, 0, none⟩ : Addr).add j = ⟨W.heap.size, j, none⟩ by unfold Addr.add; split <;> simp_all]
    exact cell_new W cs e rfl (by simpa using hu)
  · have : (n + 1) * bytes ≤ 1000000001 * 10000 := Nat.mul_le_mul (by omega) hbytes
    omega
  · exact ⟨k2.os.trans hg0.os, k2.tape.trans hg0.tape, k2.output.trans hg0.output, Nat.le_trans hg0.size k2.size, fun k hk hne => (k2.block k (Nat.lt_of_lt_of_le hk hg0.size) hne).trans (hg0.block k hk hne)⟩
  · rw [size_alloc] at k3
    exact k3
end

theorem add_off (b off j : Nat) : (⟨b, off, none⟩ : Addr).add j = ⟨b, off + j, none⟩ := by
  unfold Addr.add
  split
  · rename_i h
    subst h
    rfl
  · rfl

theorem flatP_one (m : Mono) : ∀ u ∈ flatP m, u.oneCell' = true := by
  intro u hu
  obtain ⟨x, _, hx⟩ := List.mem_flatMap.1 hu
  simp at hx
  rcases hx with rfl | rfl <;> rfl
theorem flatP_at {m : Mono} {j : Nat} {u : Value} (h : (flatP m)[j]? = some u) : ∃ k x, m[k]? = some x ∧ (j = k * 2 ∧ u = .int .i64 x.1 ∨ j = k * 2 + 1 ∧ u = .int .i64 x.2) := by
  have hj := lt_of_some h
  rw [flatP_length] at hj
  obtain ⟨x, hx⟩ := some_of_lt (show j / 2 < m.length by omega)
  obtain ⟨h1, h2⟩ := flatP_get hx
  refine ⟨j / 2, x, hx, ?_⟩
  rcases (show j = j / 2 * 2 ∨ j = j / 2 * 2 + 1 by omega) with e | e
  · rw [← e] at h1
    exact .inl ⟨e, Option.some.inj (h.symm.trans h1)⟩
  · rw [← e] at h2
    exact .inr ⟨e, Option.some.inj (h.symm.trans h2)⟩
theorem Pows.src {S : Nat → Prop} {w : World} {A : Option Addr} {n cap : Nat} {m : Mono} (h : Pows S w (.slice A n cap) m) : n = m.length ∧ SrcAt w A n 2 (flatP m) := by
  obtain ⟨b, off, ⟨a', cap', h1, h2, h3, h4, h5⟩, hc⟩ := h
  obtain ⟨rfl, rfl, rfl⟩ : A = a' ∧ n = m.length ∧ cap = cap' := by simpa using h1
  refine ⟨rfl, flatP_length m, flatP_one m, fun h0 => ⟨_, h4 h0, fun j u hu => ?_⟩⟩
  obtain ⟨k, x, hx, ⟨rfl, rfl⟩ | ⟨rfl, rfl⟩⟩ := flatP_at hu
  · rw [add_off]
    exact (hc k x hx).2.1
  · rw [add_off]
    exact (hc k x hx).2.2

theorem Tryz.infoPower : (Tryz.prog.info? 104).map (fun i => (i.zero, i.size, i.bytes)) = some (some (.agg #[.int .i64 0, .int .i64 0]), 2, 16) := by kernel_rfl

theorem Pows.of_none {S : Nat → Prop} {w : World} {n cap : Nat} {m : Mono} (h : Pows S w (.slice Option.none n cap) m) : m = [] := by
  obtain ⟨b, off, ⟨a', cap', h1, h2, h3, h4, h5⟩, hc⟩ := h
  obtain ⟨rfl, rfl, rfl⟩ : Option.none = a' ∧ n = m.length ∧ cap = cap' := by simpa using h1
  rcases Nat.eq_zero_or_pos m.length with h0 | h0
  · exact List.length_eq_zero_iff.1 h0
  · cases h4 h0

set_option maxRecDepth 100000 in
set_option maxHeartbeats 1000000 in
theorem clone_mono {S : Nat → Prop} (v : Value) (m : Mono) (w : World) (h : Pows S w v m) (hS : ∀ k, S k → k < w.heap.size) (hr : m.length ≤ 1000000) :
    Calls Tryz.prog 111 #[v] w fun e w' => ∃ v', e = .returned v' ∧ Pows (New w w') w' v' m ∧ Ext w w' := by
  obtain ⟨i0, hi, hz0, hz1, hz2⟩ := info_parts Tryz.infoPower
  have hb := h.inBounds
  have H := hid h
  have HB := hid hb
  obtain ⟨A, c, rfl⟩ := h.form
  clear h hb
  have hnil := fun (w : World) => Lib.run_eql_slice_nil (P := Tryz.prog) w 74 104 A m.length c 0 0 Tryz.underlying74
  cases A with
  | none =>
    have HM := hid H.out.of_none
    go_enter Tryz.func111, Tryz.ntmps111
    go_wp2
    all_goals
      go_ret
      exact ⟨_, rfl, by rw [HM.out]; exact Pows.empty _ _ _, Ext.refl _⟩
  | some ad =>
    have HS := hid ((H.out.to (Kept.ext (Ext.alloc (Ext.refl w) (.cells #[] 104)) hS) (fun _ h => h)).src.2)
    have HO := hid (World.ownsRow_made (base := w.heap.size) (e := 104) (size := 2) w #[] 0 (Nat.le_refl _) (by unfold maxLen; omega) (by simp))
    have HR := hid hr
    go_enter Tryz.func111, Tryz.ntmps111
    go_wp2_with (at_builtin; refine wpList_append_src _ rfl (.tmp 5) (.tmp 6) 74 rfl w.heap.size 104 i0 (.agg #[.int .i64 0, .int .i64 0]) 2 16 Tryz.underlying74 hi hz0 hz1 hz2 rfl (by decide) (.slice (some ⟨w.heap.size, 0, none⟩) 0 0) 0 [] rfl HO.out (some ad) m.length c (flatP m) rfl HS.out (by have := HR.out; unfold maxLen; omega) (by have := HR.out; omega) (by simp) ?_; intro v1 w1 hown hg _; have HW := hid hown; have HG := hid hg; clear hown hg)
    go_ret
    have hx : Ext w w1 := by
      refine ext_grown (Ext.alloc (Ext.refl w) _) HG.out (fun k hk => ?_)
      have e : w.heap.size = k := by simpa [Value.ownBlock] using hk
      omega
    refine ⟨v1, rfl, ?_, hx⟩
    refine own_pows (e := 104) ?_ HB.out
    simpa using HW.out
end Go.Proofs.YthplgldclilccaaGreat

namespace Go.Proofs.YthplgldclilccaaGreat
open Go.RowKit

/-- a term by value -/
def TermV (S : Nat → Prop) (w : World) (v : Value) (t : RTerm) : Prop := ∃ vm vo, v = .agg #[.bool t.c.neg, vm, vo] ∧ U32s S w vm t.c.mag ∧ Pows S w vo t.m
theorem TermV.to {S S' : Nat → Prop} {w w' : World} {v : Value} {r : RTerm} (h : TermV S w v r) (hk : Kept S w w') (hS : ∀ k, S k → S' k) : TermV S' w' v r := by
  obtain ⟨vm, vo, h1, h2, h3⟩ := h
  exact ⟨vm, vo, h1, h2.to hk hS, h3.to hk hS⟩
theorem TermV.ext {S : Nat → Prop} {w W : World} {v : Value} {r : RTerm} (h : TermV S w v r) (hx : Ext w W) (hS : ∀ k, S k → k < w.heap.size) : TermV S W v r := h.to (Kept.ext hx hS) (fun _ h => h)
/-- what is new stays new -/
theorem New.kept {a w W : World} (hx : Ext w W) : Kept (New a w) w W := Kept.ext hx (fun _ h => h.2)
theorem New.grow {a w W : World} (hx : Ext w W) : ∀ k, New a w k → New a W k := fun _ h => ⟨h.1, Nat.lt_of_lt_of_le h.2 hx.size⟩

theorem three_set {w : World} {b : Nat} {u0 u1 u2 : Value} (x y z : Value) (c0 : w.cell? ⟨b, 0, none⟩ = some u0) (c1 : w.cell? ⟨b, 1, none⟩ = some u1) (c2 : w.cell? ⟨b, 2, none⟩ = some u2) :
    (((w.setCell ⟨b, 0, none⟩ x).setCell ⟨b, 1, none⟩ y).setCell ⟨b, 2, none⟩ z).cell? ⟨b, 0, none⟩ = some x ∧ (((w.setCell ⟨b, 0, none⟩ x).setCell ⟨b, 1, none⟩ y).setCell ⟨b, 2, none⟩ z).cell? ⟨b, 1, none⟩ = some y ∧
    (((w.setCell ⟨b, 0, none⟩ x).setCell ⟨b, 1, none⟩ y).setCell ⟨b, 2, none⟩ z).cell? ⟨b, 2, none⟩ = some z :=
  ⟨other (other (same_of c0) (ao (by decide))) (ao (by decide)), other (same_of (other c1 (ao (by decide)))) (ao (by decide)), same_of (other (other c2 (ao (by decide))) (ao (by decide)))⟩
theorem Ext.set3 {a w : World} (h : Ext a w) {b : Nat} (hb : a.heap.size ≤ b) (x y z : Value) : Ext a (((w.setCell ⟨b, 0, none⟩ x).setCell ⟨b, 1, none⟩ y).setCell ⟨b, 2, none⟩ z) :=
  (h.set2 hb x y).setCell (p := ⟨b, 2, none⟩) hb z
theorem Kept.set3 {S : Nat → Prop} {w : World} {b : Nat} (h : ¬ S b) (x y z : Value) : Kept S w (((w.setCell ⟨b, 0, none⟩ x).setCell ⟨b, 1, none⟩ y).setCell ⟨b, 2, none⟩ z) :=
  (Kept.set2 h x y).trans (Kept.setCell (a := ⟨b, 2, none⟩) h z)
theorem size_set3 {w : World} {b : Nat} (x y z : Value) : (((w.setCell ⟨b, 0, none⟩ x).setCell ⟨b, 1, none⟩ y).setCell ⟨b, 2, none⟩ z).heap.size = w.heap.size := by rw [size_setCell, size_set2]

theorem keep_set3 {w : World} {b c i j k : Nat} {u0 u1 u2 : Value} (h : w.cell? ⟨c, i, none⟩ = some u0 ∧ w.cell? ⟨c, j, none⟩ = some u1 ∧ w.cell? ⟨c, k, none⟩ = some u2) (hne : b ≠ c) (x y z : Value) :
    (((w.setCell ⟨b, 0, none⟩ x).setCell ⟨b, 1, none⟩ y).setCell ⟨b, 2, none⟩ z).cell? ⟨c, i, none⟩ = some u0 ∧ (((w.setCell ⟨b, 0, none⟩ x).setCell ⟨b, 1, none⟩ y).setCell ⟨b, 2, none⟩ z).cell? ⟨c, j, none⟩ = some u1 ∧
    (((w.setCell ⟨b, 0, none⟩ x).setCell ⟨b, 1, none⟩ y).setCell ⟨b, 2, none⟩ z).cell? ⟨c, k, none⟩ = some u2 :=
  ⟨other (other (other h.1 (ab hne)) (ab hne)) (ab hne), other (other (other h.2.1 (ab hne)) (ab hne)) (ab hne), other (other (other h.2.2 (ab hne)) (ab hne)) (ab hne)⟩

/-- canonical data of a term -/
def canT (t : RTerm) : RTerm := ⟨ofI (valI t.c), t.m⟩

theorem zero_int (S : Nat → Prop) (w : World) : IntV S w (.agg #[.bool false, .slice none 0 0]) ⟨false, []⟩ := ⟨_, rfl, U32s.nilv _ _ _ _ (by omega)⟩
theorem valI_zeroI : valI ⟨false, []⟩ = 0 := rfl

theorem ret_term {w0 w1 w2 : World} {b : Nat} {v : Value} {t : RTerm} (hv : TermV (New w1 w2) w2 v t) (h01 : Ext w0 w1) (h12 : Ext w1 w2) (hb0 : w0.heap.size ≤ b) (hb1 : b < w1.heap.size) (x y z : Value) :
    TermV (New w0 (((w2.setCell ⟨b, 0, none⟩ x).setCell ⟨b, 1, none⟩ y).setCell ⟨b, 2, none⟩ z)) (((w2.setCell ⟨b, 0, none⟩ x).setCell ⟨b, 1, none⟩ y).setCell ⟨b, 2, none⟩ z) v t ∧ Ext w0 (((w2.setCell ⟨b, 0, none⟩ x).setCell ⟨b, 1, none⟩ y).setCell ⟨b, 2, none⟩ z) := by
  refine ⟨hv.to (Kept.set3 (fun h => ?_) _ _ _) (fun k hk => ⟨Nat.le_trans h01.size hk.1, ?_⟩), (h01.trans h12).set3 hb0 _ _ _⟩
  · have := h.1
    omega
  · rw [size_set3]
    exact hk.2

theorem term_of {w0 w1 w2 : World} {vm vo : Value} {ng : Bool} {zs : List Nat} {m : Mono} (h1 : U32s (New w0 w1) w1 vm zs) (x2 : Ext w1 w2) (h2 : Pows (New w1 w2) w2 vo m) (x1 : Ext w0 w1) : TermV (New w0 w2) w2 (.agg #[.bool ng, vm, vo]) ⟨⟨ng, zs⟩, m⟩ :=
  ⟨_, _, rfl, h1.to (New.kept x2) (New.grow x2), h2.to (Kept.refl _ _) (New.mono x1)⟩

set_option maxRecDepth 100000 in
set_option maxHeartbeats 4000000 in
theorem poly_copied {S : Nat → Prop} (v : Value) (t : RTerm) (w : World) (h : TermV S w v t) (hS : ∀ k, S k → k < w.heap.size) (hr : t.c.mag.length ≤ 100000000000) (hm : t.m.length ≤ 1000000) :
    Calls Tryz.prog 108 #[v] w fun e w' => ∃ v', e = .returned v' ∧ TermV (New w w') w' v' (canT t) ∧ Ext w w' := by
  obtain ⟨⟨ng, zs⟩, m⟩ := t
  obtain ⟨vm, vo, rfl, hu, hp⟩ := h
  simp only at hu hp hr hm ⊢
  have HU := hid hu
  have HP := hid hp
  obtain ⟨am, cm, rfl⟩ := hu.form
  obtain ⟨ao, co, rfl⟩ := hp.form
  clear hu hp
  have HK := hid (Ext.alloc (Ext.alloc (Ext.refl w) (.cells #[.bool ng, .slice am zs.length cm, .slice ao m.length co] 76)) (.cells #[.bool false, .slice none 0 0, .slice none 0 0] 76))
  have HSZ : Hid (w.heap.size + 1 < ((w.alloc (.cells #[.bool ng, .slice am zs.length cm, .slice ao m.length co] 76)).alloc (.cells #[.bool false, .slice none 0 0, .slice none 0 0] 76)).heap.size) := hid (by simp)
  have HL : Hid (∀ W, Ext ((w.alloc (.cells #[.bool ng, .slice am zs.length cm, .slice ao m.length co] 76)).alloc (.cells #[.bool false, .slice none 0 0, .slice none 0 0] 76)) W →
      W.cell? ⟨w.heap.size, 0, none⟩ = some (.bool ng) ∧ W.cell? ⟨w.heap.size, 1, none⟩ = some (.slice am zs.length cm) ∧ W.cell? ⟨w.heap.size, 2, none⟩ = some (.slice ao m.length co)) := hid (fun W hW => by
    have e1 : Ext (w.alloc (.cells #[.bool ng, .slice am zs.length cm, .slice ao m.length co] 76)) W := (Ext.alloc (Ext.refl _) _).trans hW
    exact ⟨e1.new_cell rfl, e1.new_cell rfl, e1.new_cell rfl⟩)
  have HN : Hid (∀ W, Ext ((w.alloc (.cells #[.bool ng, .slice am zs.length cm, .slice ao m.length co] 76)).alloc (.cells #[.bool false, .slice none 0 0, .slice none 0 0] 76)) W →
      W.cell? ⟨w.heap.size + 1, 0, none⟩ = some (.bool false) ∧ W.cell? ⟨w.heap.size + 1, 1, none⟩ = some (.slice none 0 0) ∧ W.cell? ⟨w.heap.size + 1, 2, none⟩ = some (.slice none 0 0) ∧ ∀ i, W.frozen? ⟨w.heap.size + 1, i, none⟩ = false) := hid (fun W hW => by
    have k := fun i v hv => hW.new_cell (i := i) (v := v) hv
    have f := fun i => hW.new_free i
    rw [size_alloc] at k f
    exact ⟨k 0 _ rfl, k 1 _ rfl, k 2 _ rfl, f⟩)
  go_enter Tryz.func108, Tryz.ntmps108
  go_wp2
  go_outline
  have x0 := Ext.drew (Ext.refl ((w.alloc (.cells #[.bool ng, .slice am zs.length cm, .slice ao m.length co] 76)).alloc (.cells #[.bool false, .slice none 0 0, .slice none 0 0] 76)))
  have S0 := HL.out _ x0
  have HX0 := hid x0
  clear x0
  go_region_held3 (fun W => W.cell? ⟨w.heap.size, 0, none⟩ = some (.bool ng) ∧ W.cell? ⟨w.heap.size, 1, none⟩ = some (.slice am zs.length cm) ∧ W.cell? ⟨w.heap.size, 2, none⟩ = some (.slice ao m.length co)) (first | exact S0 | exact S1 | exact S2 | exact keep_set3 S2 (by omega) _ _ _)
    (first
      | (go_at_call 110; (with_reducible refine (whole_add _ _ ⟨ng, zs⟩ ⟨false, []⟩ _ (intV_mk (HU.out.ext (HK.out.trans HX0.out) hS)) (zero_int _ _) (lt_ext hS (HK.out.trans HX0.out)) hr (by decide)).mono ?_); rintro e w1 ⟨v1, rfl, ⟨vm1, rfl, hv1⟩, hx1⟩; have HX1 := hid hx1; have S1 := HL.out _ (HX0.out.trans hx1); have HV1 := hid hv1; obtain ⟨a1, n1, rfl⟩ := hv1.form; clear hx1 hv1)
      | (go_at_call 111; (with_reducible refine (clone_mono _ m _ (HP.out.ext (HK.out.trans (HX0.out.trans HX1.out)) hS) (lt_ext hS (HK.out.trans (HX0.out.trans HX1.out))) hm).mono ?_); rintro e w2 ⟨v2, rfl, hv2, hx2⟩; have HX2 := hid hx2; have S2 := HL.out _ (HX0.out.trans (HX1.out.trans hx2)); obtain ⟨c0, c1, c2, cf⟩ := HN.out _ (HX0.out.trans (HX1.out.trans hx2)); have f0 := cf 0; have f1 := cf 1; have f2 := cf 2; have HE := hid (And.intro c0 (And.intro c1 c2)); clear cf; have HV2 := hid hv2; obtain ⟨a2, n2, rfl⟩ := hv2.form; clear hx2 hv2))
  go_wp2
  have hd := fun x y z => three_set x y z HE.out.1 HE.out.2.1 HE.out.2.2
  refine bodyPost_ret (by simp [results, Tryz.results108, go_sem, (hd _ _ _).1, (hd _ _ _).2.1, (hd _ _ _).2.2]; rfl) rfl ?_
  have e0 : canT ⟨⟨ng, zs⟩, m⟩ = ⟨ofI (valI ⟨ng, zs⟩ + valI ⟨false, []⟩), m⟩ := by rw [valI_zeroI, Int.add_zero]; rfl
  have hv := term_of (ng := (ofI (valI ⟨ng, zs⟩ + valI ⟨false, []⟩)).neg) HV1.out HX2.out HV2.out HX1.out
  have hg := ret_term (w0 := w) (b := w.heap.size + 1) hv (HK.out.trans HX0.out) (HX1.out.trans HX2.out) (by omega) (Nat.lt_of_lt_of_le HSZ.out HX0.out.size) (.bool (ofI (valI ⟨ng, zs⟩ + valI ⟨false, []⟩)).neg) (.slice a1 (ofI (valI ⟨ng, zs⟩ + valI ⟨false, []⟩)).mag.length n1) (.slice a2 m.length n2)
  rw [e0]
  exact ⟨_, rfl, hg.1, hg.2⟩

/-- the first term; nothing, if there is none or the polynomial may not be -/
def leadT (ts : List RTerm) : RTerm := match plainT ts with
  | [] => ⟨⟨false, []⟩, []⟩
  | t :: _ => canT t
def LeadPost (w : World) (ts : List RTerm) : Ending → World → Prop := fun e w' => ∃ v', e = .returned (.tuple #[v', .bool (decide (0 < (plainT ts).length))]) ∧ TermV (New w w') w' v' (leadT ts) ∧ Ext w w'

theorem zero_term (S : Nat → Prop) (w : World) : TermV S w (.agg #[.bool false, .slice none 0 0, .slice none 0 0]) ⟨⟨false, []⟩, []⟩ := ⟨_, _, rfl, U32s.nilv _ _ _ _ (by omega), Pows.empty _ _ _⟩
theorem mayT_len_m {ts : List RTerm} (h : mayT ts = true) : ∀ t ∈ ts, t.m.length ≤ 200 := by
  intro t ht
  have := (mayFrom_pair h).1 t ht
  simp only [mayTerm, Bool.and_eq_true] at this
  exact mayM_len this.2

set_option maxRecDepth 100000 in
set_option maxHeartbeats 4000000 in
theorem poly_lead {S : Nat → Prop} (v : Value) (ts : List RTerm) (w : World) (h : Terms S w v ts) (hS : ∀ k, S k → k < w.heap.size) (hr : smallT ts) :
    Calls Tryz.prog 63 #[v] w (LeadPost w ts) := by
  have hnot : ∀ (x : Bool) (w : World), (Op.unary .not (.bool x)).run Tryz.prog w = .ok (.bool (!x)) w := fun _ _ => rfl
  have H := hid h
  have HR := hid hr
  obtain ⟨a, cap, rfl⟩ := h.form
  have hl := h.len_le
  clear h hr
  have HK := hid (Ext.alloc (Ext.refl w) (.cells #[.bool false, .slice none 0 0, .slice none 0 0] 76))
  have HN : Hid (∀ W, Ext (w.alloc (.cells #[.bool false, .slice none 0 0, .slice none 0 0] 76)) W →
      W.cell? ⟨w.heap.size, 0, none⟩ = some (.bool false) ∧ W.cell? ⟨w.heap.size, 1, none⟩ = some (.slice none 0 0) ∧ W.cell? ⟨w.heap.size, 2, none⟩ = some (.slice none 0 0) ∧ ∀ i, W.frozen? ⟨w.heap.size, i, none⟩ = false) := hid (fun W hW => ⟨hW.new_cell rfl, hW.new_cell rfl, hW.new_cell rfl, fun i => hW.new_free i⟩)
  have HSZ : Hid (w.heap.size < (w.alloc (.cells #[.bool false, .slice none 0 0, .slice none 0 0] 76)).heap.size) := hid (by simp)
  by_cases h0 : ts.length = 0
  · obtain rfl : ts = [] := List.length_eq_zero_iff.1 h0
    clear h0
    obtain ⟨c0, c1, c2, cf⟩ := HN.out _ (Ext.refl _)
    have f0 := cf 0
    have f1 := cf 1
    have f2 := cf 2
    have HE := hid (And.intro c0 (And.intro c1 c2))
    clear cf
    go_enter Tryz.func63, Tryz.ntmps63
    go_wp2
    refine bodyPost_ret (by simp [results, Tryz.results63, go_sem]; rfl) rfl ?_
    exact ⟨_, rfl, zero_term _ _, HK.out⟩
  · have hb : ((ts.length : Int) == 0) = false := by rw [beq_eq_false_iff_ne]; omega
    have hlt : 0 < ts.length := by omega
    have hM := fun W (hW : Ext (w.alloc (.cells #[.bool false, .slice none 0 0, .slice none 0 0] 76)) W) => poly_may (S := S) _ ts W (H.out.ext (HK.out.trans hW) hS) (lt_ext hS (HK.out.trans hW)) HR.out
    cases hm : mayT ts with
    | false =>
      simp only [hm] at hM
      have HM := hid hM
      have e1 : plainT ts = [] := by simp [plainT, hm]
      have E := hid e1
      clear hM hm h0 e1
      go_enter Tryz.func63, Tryz.ntmps63
      go_wp2_with fail
      refine (HM.out _ (Ext.refl _)).mono ?_
      rintro e w1 ⟨rfl, hx1⟩
      obtain ⟨c0, c1, c2, cf⟩ := HN.out _ hx1
      have f0 := cf 0
      have f1 := cf 1
      have f2 := cf 2
      have HE := hid (And.intro c0 (And.intro c1 c2))
      have HX1 := hid hx1
      clear cf hx1
      go_wp2
      have hd := fun x y z => three_set x y z HE.out.1 HE.out.2.1 HE.out.2.2
      refine bodyPost_ret (by simp [results, Tryz.results63, go_sem, (hd _ _ _).1, (hd _ _ _).2.1, (hd _ _ _).2.2]; rfl) rfl ?_
      refine ⟨_, by rw [E.out]; rfl, ?_, (HK.out.trans HX1.out).set3 (Nat.le_refl _) _ _ _⟩
      unfold leadT
      rw [E.out]
      exact zero_term _ _
    | true =>
      simp only [hm] at hM
      have HM := hid hM
      have e1 : plainT ts = ts := by simp [plainT, hm]
      have E := hid e1
      obtain ⟨t, ht⟩ := some_of_lt hlt
      have htl := mayT_len_m hm t (List.mem_of_getElem? ht)
      have htr := HR.out t (List.mem_of_getElem? ht)
      obtain ⟨b, off, vm, vo, rfl, -, hn1, hm1, hSb, h1, h2, h3, h4, h5⟩ := H.out.cellAt ht
      have HT := hid ht
      simp only [Nat.zero_mul, Nat.add_zero] at h1 h2 h3
      have HC := hid (And.intro h1 (And.intro h2 h3))
      obtain ⟨⟨ng, zs⟩, m⟩ := t
      simp only at h1 h2 h3 h4 h5 HC htl htr
      have H4 := hid h4
      have H5 := hid h5
      obtain ⟨am, cm, rfl⟩ := h4.form
      obtain ⟨ao, co, rfl⟩ := h5.form
      have HTL := hid (And.intro htl htr)
      clear hM hm h0 e1 ht h4 h5 h1 h2 h3 htl htr
      go_enter Tryz.func63, Tryz.ntmps63
      go_wp2_with fail
      refine (HM.out _ (Ext.refl _)).mono ?_
      rintro e w1 ⟨rfl, hx1⟩
      have HX1 := hid hx1
      have g1 := (HK.out.trans hx1).cell HC.out.1
      have g2 := (HK.out.trans hx1).cell HC.out.2.1
      have g3 := (HK.out.trans hx1).cell HC.out.2.2
      clear hx1
      go_wp2_with fail
      refine (poly_copied _ ⟨⟨ng, zs⟩, m⟩ _ ⟨_, _, rfl, H4.out.ext (HK.out.trans HX1.out) hS, H5.out.ext (HK.out.trans HX1.out) hS⟩ (lt_ext hS (HK.out.trans HX1.out)) HTL.out.2 (Nat.le_trans HTL.out.1 (by decide))).mono ?_
      rintro e w2 ⟨v2, rfl, hv2, hx2⟩
      obtain ⟨c0, c1, c2, cf⟩ := HN.out _ (HX1.out.trans hx2)
      have f0 := cf 0
      have f1 := cf 1
      have f2 := cf 2
      have HE := hid (And.intro c0 (And.intro c1 c2))
      have HX2 := hid hx2
      have HV2 := hid hv2
      obtain ⟨vm2, vo2, rfl, hq1, hq2⟩ := hv2
      obtain ⟨a1, n1, rfl⟩ := hq1.form
      obtain ⟨a2, n2, rfl⟩ := hq2.form
      clear cf hx2 hq1 hq2
      go_wp2
      have hd := fun x y z => three_set x y z HE.out.1 HE.out.2.1 HE.out.2.2
      refine bodyPost_ret (by simp [results, Tryz.results63, go_sem, (hd _ _ _).1, (hd _ _ _).2.1, (hd _ _ _).2.2]; rfl) rfl ?_
      have hg := ret_term (w0 := w) (b := w.heap.size) HV2.out (HK.out.trans HX1.out) HX2.out (by omega) (Nat.lt_of_lt_of_le HSZ.out HX1.out.size) (.bool (canT ⟨⟨ng, zs⟩, m⟩).c.neg) (.slice a1 (canT ⟨⟨ng, zs⟩, m⟩).c.mag.length n1) (.slice a2 (canT ⟨⟨ng, zs⟩, m⟩).m.length n2)
      have el : leadT ts = canT ⟨⟨ng, zs⟩, m⟩ := by
        unfold leadT
        rw [E.out]
        cases ts with
        | nil => simp at hlt
        | cons t r =>
          obtain rfl : t = ⟨⟨ng, zs⟩, m⟩ := by simpa using HT.out
          rfl
      refine ⟨_, by rw [E.out, decide_eq_true hlt], ?_, hg.2⟩
      rw [el]
      exact hg.1

/-- the class of the first term -/
def clsT (ts : List RTerm) : Int := classM (leadT ts).m

set_option maxRecDepth 100000 in
set_option maxHeartbeats 4000000 in
theorem view_class {S : Nat → Prop} (v : Value) (ts : List RTerm) (w : World) (h : Terms S w v ts) (hS : ∀ k, S k → k < w.heap.size) (hr : smallT ts) :
    Calls Tryz.prog 24 #[v] w fun e w' => e = .returned (.int .i64 (leadP (plainP ts))) ∧ Ext w w' := by
  have ec : classM (plainM (leadT ts).m) = leadP (plainP ts) := by
    unfold leadT
    rw [← toP_plainT]
    cases hp : plainT ts with
    | nil => rfl
    | cons t r =>
      have hm : mayM t.m = true := by
        have h1 := (plainP_can ts).may (valI t.c, t.m) (by rw [← toP_plainT, hp]; exact List.mem_cons_self)
        exact h1
      show classM (plainM (canT t).m) = classM t.m
      unfold plainM canT
      rw [if_pos hm]
  have EC := hid ec
  have H := hid h
  have HR := hid hr
  obtain ⟨a, cap, rfl⟩ := h.form
  clear h hr ec
  go_enter Tryz.func24, Tryz.ntmps24
  go_wp2_with fail
  refine (poly_lead _ ts w H.out hS HR.out).mono ?_
  rintro e w1 ⟨v1, rfl, ⟨vm, vo, rfl, hq1, hq2⟩, hx1⟩
  obtain ⟨a1, n1, rfl⟩ := hq1.form
  obtain ⟨a2, n2, rfl⟩ := hq2.form
  have HX1 := hid hx1
  have HQ := hid hq2
  have HA := hid (Ext.alloc (Ext.refl w1) (.cells #[.bool (leadT ts).c.neg, .slice a1 (leadT ts).c.mag.length n1, .slice a2 (leadT ts).m.length n2] 76))
  clear hx1 hq1 hq2
  go_wp2_with fail
  refine (mono_class _ (leadT ts).m _ (HQ.out.ext HA.out (fun _ h => h.2)) (lt_ext (fun _ h => h.2) HA.out)).mono ?_
  rintro e w2 ⟨rfl, hx2⟩
  have HX2 := hid hx2
  clear hx2
  go_wp2
  all_goals
    go_ret
    exact ⟨by rw [EC.out]; rfl, HX1.out.trans (HA.out.trans HX2.out)⟩

set_option maxRecDepth 100000 in
theorem view_plain {S : Nat → Prop} (v : Value) (ts : List RTerm) (w : World) (h : Terms S w v ts) (hS : ∀ k, S k → k < w.heap.size) (hr : smallT ts) :
    Calls Tryz.prog 66 #[v] w fun e w' => ∃ v', e = .returned v' ∧ Terms S w' v' (plainT ts) ∧ Ext w w' := by
  have H := hid h
  have HR := hid hr
  obtain ⟨a, cap, rfl⟩ := h.form
  clear h hr
  go_enter Tryz.func66, Tryz.ntmps66
  go_wp2_with fail
  refine (poly_may _ ts w H.out hS HR.out).mono ?_
  rintro e w1 ⟨rfl, hx1⟩
  have HX1 := hid hx1
  clear hx1
  cases hm : mayT ts with
  | false =>
    go_wp2
    all_goals
      go_ret
      refine ⟨_, rfl, ?_, HX1.out⟩
      rw [show plainT ts = [] by simp [plainT, hm]]
      exact ⟨0, 0, ⟨_, 0, rfl, Nat.le_refl _, Nat.zero_le _, fun h => absurd h (Nat.lt_irrefl _), fun h => absurd h (Nat.lt_irrefl _)⟩, fun j x hx => by simp at hx⟩
  | true =>
    go_wp2
    all_goals
      go_ret
      refine ⟨_, rfl, ?_, HX1.out⟩
      rw [show plainT ts = ts by simp [plainT, hm]]
      exact H.out.ext HX1.out hS
end Go.Proofs.YthplgldclilccaaGreat

namespace Go.Proofs.YthplgldclilccaaGreat
open Go.RowKit

theorem Polys.form {S : Nat → Prop} {w : World} {v : Value} {zs : List (List RTerm)} (h : Polys S w v zs) : ∃ a cap, v = .slice a zs.length cap := by
  obtain ⟨b, off, ⟨a, cap, h1, _⟩, _⟩ := h
  exact ⟨a, cap, h1⟩
theorem Polys.ext {S : Nat → Prop} {w W : World} {v : Value} {zs : List (List RTerm)} (h : Polys S w v zs) (hx : Ext w W) (hS : ∀ k, S k → k < w.heap.size) : Polys S W v zs := h.to (Kept.ext hx hS) (fun _ h => h)
theorem Polys.len_le {S : Nat → Prop} {w : World} {v : Value} {zs : List (List RTerm)} (h : Polys S w v zs) : zs.length ≤ 9223372036854775807 := by
  obtain ⟨b, off, ⟨a, cap, h1, h2, h3, _⟩, _⟩ := h
  unfold maxLen at h3
  omega
theorem Polys.cellAt {S : Nat → Prop} {w : World} {ts : List (List RTerm)} {a : Option Addr} {n cap k : Nat} {t : List RTerm} (h : Polys S w (.slice a n cap) ts) (ht : ts[k]? = some t) :
    ∃ b off vp, a = some ⟨b, off, none⟩ ∧ n = ts.length ∧ n ≤ cap ∧ cap ≤ 9223372036854775807 ∧ S b ∧ w.cell? ⟨b, off + k, none⟩ = some vp ∧ Terms S w vp t := by
  obtain ⟨b, off, ⟨a', cap', h1, h2, h3, h4, h5⟩, hc⟩ := h
  obtain ⟨rfl, rfl, rfl⟩ : a = a' ∧ n = ts.length ∧ cap = cap' := by simpa using h1
  have hp : 0 < ts.length := by have := lt_of_some ht; omega
  obtain ⟨vp, g1, g2⟩ := hc k t ht
  exact ⟨b, off, vp, h4 hp, rfl, h2, h3, h5 hp, g1, g2⟩

def smallL (l : List (List RTerm)) : Prop := ∀ p ∈ l, smallT p
def byP (p : PZ) (l : List (List RTerm)) : Bool := l.all fun q => reducedP p (plainP q)

end Go.Proofs.YthplgldclilccaaGreat

namespace Go.Proofs.YthplgldclilccaaGreat
open Go.RowKit Go.Deep Go.ChangeShapes Go.WideShapes Go.ChangeAt

set_option maxRecDepth 100000 in
theorem slice_cells {t e : TypeId} {W : World} {base : Nat} {v : Value} (ht : Tryz.prog.underlying t = some (.slice e)) (hv : Value.okWide Tryz.prog W .any base t v) : v.cells.toList = [v] := by
  obtain ⟨a, len, cap, rfl⟩ := okWide_slice ht hv
  rfl
theorem Tryz.cells_poly : Tryz.prog.cellsOf 26 = 1 := by kernel_rfl
section
variable {H : Type} {enc : TypeId × Value → H} {w : World} {base : Nat} {spare : Nat → Bool} {held : Bool}
theorem open_polys {fuel : Nat} {v : Value} {x : DataW H × List MemPlace} (h : DataW.trod enc Tryz.prog w base spare held fuel 22 [v] = some x) : ∃ ls, Polys (· < w.heap.size) w v ls := by
  obtain ⟨n, b, off, f', hs, hx⟩ := open_slice_at Tryz.underlying22 Tryz.cells_poly (by omega) h
  obtain ⟨ls, hl, hp⟩ := list_of_lt (p := fun j (t : List RTerm) => ∃ vp, w.cell? ⟨b, off + j, none⟩ = some vp ∧ Terms (· < w.heap.size) w vp t) (n := n) (fun j hj => by
    obtain ⟨cs, y, h1, h2, h3⟩ := hx j hj
    match cs, h1 with
    | [c], _ =>
      obtain ⟨ts, hts⟩ := open_terms h3
      have h4 := h2 0 (by omega)
      simp only [Nat.mul_one, Nat.add_zero] at h4
      exact ⟨ts, c, h4, hts⟩)
  subst hl
  exact ⟨ls, b, off, hs, hp⟩
end

end Go.Proofs.YthplgldclilccaaGreat

namespace Go.Proofs.YthplgldclilccaaGreat

section
variable {α : Type} {le : α → α → Bool}

/-- a total preorder -/
structure TotalLe (le : α → α → Bool) : Prop where
  trans : ∀ a b c, le a b = true → le b c = true → le a c = true
  total : ∀ a b, le a b = true ∨ le b a = true

theorem TotalLe.not {x y : α} (h : TotalLe le) (hn : le x y = false) : le y x = true := by
  rcases h.total x y with h | h
  · rw [hn] at h; cases h
  · exact h
theorem TotalLe.not_of (h : TotalLe le) {x y z : α} (h1 : le x y = false) (h2 : le x z = true) : le z y = false := by
  cases h3 : le z y with
  | false => rfl
  | true =>
    have := h.trans _ _ _ h2 h3
    rw [h1] at this; cases this
theorem TotalLe.not_of' (h : TotalLe le) {x y z : α} (h1 : le x y = false) (h2 : le z y = true) : le x z = false := by
  cases h3 : le x z with
  | false => rfl
  | true =>
    have := h.trans _ _ _ h3 h2
    rw [h1] at this; cases this

abbrev mergeL (le : α → α → Bool) (xs ys : List α) : List α := List.merge xs ys le

theorem mergeL_nil (ys : List α) : mergeL le [] ys = ys := List.nil_merge ys
theorem mergeL_right (xs : List α) : mergeL le xs [] = xs := List.merge_right xs
theorem mergeL_pos {x y : α} (xs ys : List α) (h : le x y = true) : mergeL le (x :: xs) (y :: ys) = x :: mergeL le xs (y :: ys) := List.cons_merge_cons_pos le xs ys h
theorem mergeL_neg {x y : α} (xs ys : List α) (h : le x y = false) : mergeL le (x :: xs) (y :: ys) = y :: mergeL le (x :: xs) ys := by
  unfold mergeL
  rw [List.cons_merge_cons, if_neg (by rw [h]; exact Bool.false_ne_true)]

theorem mergeL_perm (xs ys : List α) : (mergeL le xs ys).Perm (xs ++ ys) := List.merge_perm_append le
theorem mergeL_len (xs ys : List α) : (mergeL le xs ys).length = xs.length + ys.length := by rw [(mergeL_perm xs ys).length_eq, List.length_append]

def SortedL (le : α → α → Bool) (l : List α) : Prop := l.Pairwise (fun a b => le a b = true)

theorem mergeL_sorted (h : TotalLe le) {xs ys : List α} (hx : SortedL le xs) (hy : SortedL le ys) : SortedL le (mergeL le xs ys) :=
  List.pairwise_merge (fun a b c => h.trans a b c) (fun a b => by rcases h.total a b with h | h <;> simp [h]) _ _ hx hy

/-- parts that lie apart are merged each by itself -/
theorem mergeL_split (A1 A2 B1 B2 : List α) (h1 : ∀ x ∈ A1, ∀ y ∈ B2, le x y = true) (h2 : ∀ y ∈ B1, ∀ x ∈ A2, le x y = false) :
    mergeL le (A1 ++ A2) (B1 ++ B2) = mergeL le A1 B1 ++ mergeL le A2 B2 := by
  induction A1 generalizing B1 with
  | nil =>
    rw [mergeL_nil]
    induction B1 with
    | nil => rfl
    | cons b B1 ih =>
      cases A2 with
      | nil => simp
      | cons x A2 =>
        have := ih (fun y hy => h2 y (by simp [hy]))
        simp only [List.nil_append, List.cons_append] at this ⊢
        rw [mergeL_neg _ _ (h2 b (by simp) x (by simp)), this]
  | cons a A1 ihA =>
    induction B1 with
    | nil =>
      rw [mergeL_right]
      cases B2 with
      | nil => simp
      | cons y B2 =>
        have := ihA [] (fun x hx => h1 x (by simp [hx])) (fun y hy => by simp at hy)
        rw [mergeL_right] at this
        simp only [List.nil_append, List.cons_append] at this ⊢
        rw [mergeL_pos _ _ (h1 a (by simp) y (by simp)), this]
    | cons b B1 ihB =>
      cases hab : le a b with
      | true =>
        have := ihA (b :: B1) (fun x hx => h1 x (by simp [hx])) h2
        simp only [List.cons_append] at this ⊢
        rw [mergeL_pos _ _ hab, mergeL_pos _ _ hab, this]
        rfl
      | false =>
        have := ihB (fun y hy => h2 y (by simp [hy]))
        simp only [List.cons_append] at this ⊢
        rw [mergeL_neg _ _ hab, mergeL_neg _ _ hab, this]
        rfl

theorem mergeL_assoc (h : TotalLe le) (A B C : List α) : mergeL le (mergeL le A B) C = mergeL le A (mergeL le B C) := by
  generalize hn : A.length + B.length + C.length = n
  induction n using Nat.strongRecOn generalizing A B C with
  | ind n ih =>
    cases A with
    | nil => rw [mergeL_nil, mergeL_nil]
    | cons a A =>
      cases B with
      | nil => rw [mergeL_nil, mergeL_right]
      | cons b B =>
        cases C with
        | nil => rw [mergeL_right, mergeL_right]
        | cons c C =>
          simp only [List.length_cons] at hn
          cases hab : le a b with
          | true =>
            rw [mergeL_pos _ _ hab]
            cases hac : le a c with
            | true =>
              rw [mergeL_pos _ _ hac, ih _ (by simp only [List.length_cons]; omega) A (b :: B) (c :: C) rfl]
              cases hbc : le b c with
              | true => rw [mergeL_pos _ _ hbc, mergeL_pos _ _ hab]
              | false => rw [mergeL_neg _ _ hbc, mergeL_pos _ _ hac]
            | false =>
              have hbc : le b c = false := h.not_of hac hab
              rw [mergeL_neg _ _ hac, mergeL_neg _ _ hbc, mergeL_neg _ _ hac, ← mergeL_pos _ _ hab, ih _ (by simp only [List.length_cons]; omega) (a :: A) (b :: B) C rfl]
          | false =>
            rw [mergeL_neg _ _ hab]
            cases hbc : le b c with
            | true => rw [mergeL_pos _ _ hbc, mergeL_pos _ _ hbc, mergeL_neg _ _ hab, ih _ (by simp only [List.length_cons]; omega) (a :: A) B (c :: C) rfl]
            | false =>
              have hac : le a c = false := by
                cases h3 : le a c with
                | false => rfl
                | true =>
                  have := h.trans _ _ _ (h.not hab) h3
                  rw [hbc] at this; cases this
              rw [mergeL_neg _ _ hbc, mergeL_neg _ _ hbc, mergeL_neg _ _ hac, ← mergeL_neg _ _ hab, ih _ (by simp only [List.length_cons]; omega) (a :: A) (b :: B) C rfl]

/-- the stable sort -/
def sortL (le : α → α → Bool) : List α → List α
  | [] => []
  | x :: xs => mergeL le [x] (sortL le xs)
theorem sortL_append (h : TotalLe le) (A B : List α) : sortL le (A ++ B) = mergeL le (sortL le A) (sortL le B) := by
  induction A with
  | nil => exact (mergeL_nil _).symm
  | cons a A ih =>
    show mergeL le [a] (sortL le (A ++ B)) = mergeL le (mergeL le [a] (sortL le A)) (sortL le B)
    rw [ih, mergeL_assoc h]
theorem sortL_one (x : α) : sortL le [x] = [x] := mergeL_right [x]
theorem sortL_perm (l : List α) : (sortL le l).Perm l := by
  induction l with
  | nil => exact List.Perm.refl _
  | cons x l ih => exact (mergeL_perm [x] _).trans (ih.cons x)
theorem sortL_len (l : List α) : (sortL le l).length = l.length := (sortL_perm l).length_eq
theorem sortL_sorted (h : TotalLe le) (l : List α) : SortedL le (sortL le l) := by
  induction l with
  | nil => exact List.Pairwise.nil
  | cons x l ih => exact mergeL_sorted h (List.pairwise_singleton _ _) ih
theorem sortL_of_sorted {l : List α} (hs : SortedL le l) : sortL le l = l := by
  induction l with
  | nil => rfl
  | cons x l ih =>
    obtain ⟨h1, h2⟩ := List.pairwise_cons.1 hs
    show mergeL le [x] (sortL le l) = _
    rw [ih h2]
    cases l with
    | nil => exact mergeL_right _
    | cons y l => rw [mergeL_pos _ _ (h1 y (by simp)), mergeL_nil]

/-- an element put behind those that are not above it -/
theorem mergeL_put {S1 S2 : List α} {x : α} (h1 : ∀ y ∈ S1, le y x = true) (h2 : ∀ y ∈ S2, le y x = false) : mergeL le (S1 ++ S2) [x] = S1 ++ x :: S2 := by
  have e := mergeL_split (le := le) S1 S2 [x] [] (fun _ _ y hy => by simp at hy) (fun y hy z hz => by rw [List.mem_singleton.1 hy]; exact h2 z hz)
  rw [List.append_nil, mergeL_right] at e
  rw [e]
  have e2 := mergeL_split (le := le) S1 [] [] [x] (fun y hy z hz => by rw [List.mem_singleton.1 hz]; exact h1 y hy) (fun y hy => by simp at hy)
  rw [List.append_nil, List.nil_append, mergeL_nil, mergeL_right] at e2
  rw [e2]
  simp
/-- an element put ahead of those that are not below it -/
theorem mergeL_put' {S1 S2 : List α} {x : α} (h1 : ∀ y ∈ S1, le x y = false) (h2 : ∀ y ∈ S2, le x y = true) : mergeL le [x] (S1 ++ S2) = S1 ++ x :: S2 := by
  have e := mergeL_split (le := le) [] [x] S1 S2 (fun y hy => by simp at hy) (fun y hy z hz => by rw [List.mem_singleton.1 hz]; exact h1 y hy)
  rw [List.nil_append, mergeL_nil] at e
  rw [e]
  have e2 := mergeL_split (le := le) [x] [] [] S2 (fun y hy z hz => by rw [List.mem_singleton.1 hy]; exact h2 z hz) (fun y hy => by simp at hy)
  rw [List.append_nil, List.nil_append, mergeL_nil, mergeL_right] at e2
  rw [e2]
  rfl
/-- all ahead of a place are not above what is there -/
theorem SortedL.last {A : List α} {x y : α} (h : TotalLe le) (hs : SortedL le (A ++ [x])) (hxy : le x y = true) : ∀ z ∈ A ++ [x], le z y = true := by
  intro z hz
  obtain ⟨_, _, h3⟩ := List.pairwise_append.1 hs
  rcases List.mem_append.1 hz with hz | hz
  · exact h.trans _ _ _ (h3 z hz x (by simp)) hxy
  · rw [List.mem_singleton.1 hz]; exact hxy
end
end Go.Proofs.YthplgldclilccaaGreat

namespace Go.Proofs.YthplgldclilccaaGreat
open Go.RowKit Go.Sort

theorem grown_ext {w W W' : World} {row : Option Nat} (h : w.grownBy W row) (hx : Ext W W') : w.grownBy W' row :=
  ⟨hx.os.trans h.os, hx.tape.trans h.tape, hx.output.trans h.output, Nat.le_trans h.size hx.size, fun i hi hne => (hx.block i (Nat.lt_of_lt_of_le hi h.size)).trans (h.block i hi hne)⟩
theorem grown_refl (w : World) (row : Option Nat) : w.grownBy w row := ⟨rfl, rfl, rfl, Nat.le_refl _, fun _ _ _ => rfl⟩
theorem grown_trans {a b c : World} {row : Option Nat} (h : a.grownBy b row) (k : b.grownBy c row) : a.grownBy c row :=
  ⟨k.os.trans h.os, k.tape.trans h.tape, k.output.trans h.output, Nat.le_trans h.size k.size, fun i hi hne => (k.block i (Nat.lt_of_lt_of_le hi h.size) hne).trans (h.block i hi hne)⟩
theorem grown_set {w W : World} {b o : Nat} (h : w.grownBy W (some b)) (u : Value) : w.grownBy (W.setCell ⟨b, o, none⟩ u) (some b) :=
  ⟨h.os, h.tape, h.output, by rw [size_setCell]; exact h.size, fun i hi hne => (Below.heap_setCell _ _ _ _ (fun e => hne (by rw [e]))).trans (h.block i hi hne)⟩
theorem grown_sets {w : World} {b : Nat} (vs : List Value) : ∀ (o : Nat) (W : World), w.grownBy W (some b) → w.grownBy (W.setCells b o vs) (some b) := by
  induction vs with
  | nil => exact fun _ _ h => h
  | cons v r ih => exact fun o W h => ih (o + 1) _ (grown_set h v)
theorem grown_drew {w W : World} {row : Option Nat} (h : w.grownBy W row) : w.grownBy W.drew row := ⟨h.os, h.tape, h.output, h.size, h.block⟩

theorem at_len {α : Type} (A B : List α) (x : α) : (A ++ x :: B)[A.length]? = some x := by simp
theorem arr_at {α : Type} [Inhabited α] {l : List α} {i : Nat} {x : α} (h : l[i]? = some x) : l.toArray[i]! = x := by simp [h]
theorem swp_up {α : Type} [Inhabited α] (A M B : List α) (x y : α) : swp (A ++ x :: M ++ y :: B).toArray A.length (A.length + 1 + M.length) = (A ++ y :: M ++ x :: B).toArray := by
  have e0 : (A ++ x :: M ++ y :: B)[A.length]? = some x := by simp
  have e1 : (A ++ x :: M ++ y :: B)[A.length + 1 + M.length]? = some y := by
    rw [List.getElem?_append_right (by simp; omega)]
    simp [show A.length + 1 + M.length - (A.length + (M.length + 1)) = 0 by omega]
  unfold swp
  rw [arr_at e0, arr_at e1]
  rw [List.setIfInBounds_toArray, List.setIfInBounds_toArray]
  congr 1
  rw [show (A ++ x :: M ++ y :: B).set A.length y = A ++ y :: M ++ y :: B by rw [List.append_assoc, List.set_append_right _ _ (Nat.le_refl _)]; simp]
  rw [List.set_append_right _ _ (by simp; omega)]
  simp [show A.length + 1 + M.length - (A.length + (M.length + 1)) = 0 by omega]
theorem swp_down {α : Type} [Inhabited α] (A M B : List α) (x y : α) : swp (A ++ x :: M ++ y :: B).toArray (A.length + 1 + M.length) A.length = (A ++ y :: M ++ x :: B).toArray := by
  have e0 : (A ++ x :: M ++ y :: B)[A.length]? = some x := by simp
  have e1 : (A ++ x :: M ++ y :: B)[A.length + 1 + M.length]? = some y := by
    rw [List.getElem?_append_right (by simp; omega)]
    simp [show A.length + 1 + M.length - (A.length + (M.length + 1)) = 0 by omega]
  unfold swp
  rw [arr_at e0, arr_at e1]
  rw [List.setIfInBounds_toArray, List.setIfInBounds_toArray]
  congr 1
  rw [show (A ++ x :: M ++ y :: B).set (A.length + 1 + M.length) x = A ++ x :: M ++ x :: B by
    rw [List.set_append_right _ _ (by simp; omega)]
    simp [show A.length + 1 + M.length - (A.length + (M.length + 1)) = 0 by omega]]
  rw [List.append_assoc, List.set_append_right _ _ (Nat.le_refl _)]
  simp
section
variable {α : Type} [Inhabited α] {enc : α → List Value} {k : Nat}

/-- a world of a sort: the row holds these, all else is as it was -/
structure SortAt (enc : α → List Value) (k : Nat) (w : World) (b o : Nat) (d : List α) (W : World) : Prop where
  grown : w.grownBy W (some b)
  holds : HoldsK enc k W b o d.toArray
  old : b < w.heap.size

variable {w W W' : World} {b o : Nat} {d : List α}
theorem SortAt.later (h : SortAt enc k w b o d W) (hx : Ext W W') : SortAt enc k w b o d W' :=
  ⟨grown_ext h.grown hx, fun j hj => by
    have hb : b < W.heap.size := Nat.lt_of_lt_of_le h.old h.grown.size
    have := h.holds j hj
    exact ⟨(World.cell?_of_block (w := W) (hx.block b hb)).trans this.1, (World.frozen?_of_block (w := W) (hx.block b hb)).trans this.2⟩, h.old⟩
theorem SortAt.drew (h : SortAt enc k w b o d W) : SortAt enc k w b o d W.drew := h.later (Ext.refl W).drew
theorem SortAt.swap (h : SortAt enc k w b o d W) (hk : ∀ x, (enc x).length = k) {d' : List α} {i j : Nat} (hi : i < d.length) (hj : j < d.length) (hd : swp d.toArray i j = d'.toArray) :
    SortAt enc k w b o d' ((W.setCells b (o + i * k) (enc d.toArray[j]!)).setCells b (o + j * k) (enc d.toArray[i]!)) := by
  refine ⟨grown_sets _ _ _ (grown_sets _ _ _ h.grown), ?_, h.old⟩
  have e := putRowK_swp enc k hk W b o d.toArray i j (by simpa using hi) (by simpa using hj)
  rw [putRowK_self enc k W b o d.toArray h.holds, hd] at e
  rw [e]
  exact holdsK_putRowK enc k W b o d.toArray _ h.holds (by rw [← hd]; simp [size_swp])
theorem SortAt.cell (h : SortAt enc k w b o d W) {i c : Nat} {x : α} (hi : d[i]? = some x) (hc : c < k) :
    W.cell? ⟨b, o + i * k + c, none⟩ = some (enc x)[c]! ∧ W.frozen? ⟨b, o + i * k + c, none⟩ = false := by
  have hl := lt_of_some hi
  have := HoldsK.cell h.holds (i := i) (c := c) (by simpa using hl) hc
  rw [arr_at hi] at this
  exact this
end

/-- the three cells of a term -/
structure TCell where
  neg : Bool
  ma : Option Addr
  mn : Nat
  mc : Nat
  oa : Option Addr
  on : Nat
  oc : Nat
abbrev encT {α : Type} (tc : α → TCell) (x : α) : List Value := [.bool (tc x).neg, (.slice (tc x).ma (tc x).mn (tc x).mc), (.slice (tc x).oa (tc x).on (tc x).oc)]
section
variable {α : Type} [Inhabited α] {tc : α → TCell} {w W : World} {b o : Nat} {d : List α}
theorem SortAt.get3 (h : SortAt (encT tc) 3 w b o d W) {i : Nat} {x : α} (hi : d[i]? = some x) :
    (W.cell? ⟨b, o + i * 3, none⟩ = some (.bool (tc x).neg) ∧ W.cell? ⟨b, o + i * 3 + 1, none⟩ = some (.slice (tc x).ma (tc x).mn (tc x).mc) ∧ W.cell? ⟨b, o + i * 3 + 2, none⟩ = some (.slice (tc x).oa (tc x).on (tc x).oc)) ∧
    W.frozen? ⟨b, o + i * 3, none⟩ = false ∧ W.frozen? ⟨b, o + i * 3 + 1, none⟩ = false ∧ W.frozen? ⟨b, o + i * 3 + 2, none⟩ = false := by
  have c0 := h.cell hi (c := 0) (by omega)
  have c1 := h.cell hi (c := 1) (by omega)
  have c2 := h.cell hi (c := 2) (by omega)
  exact ⟨⟨c0.1, c1.1, c2.1⟩, c0.2, c1.2, c2.2⟩
theorem SortAt.swap3 (h : SortAt (encT tc) 3 w b o d W) {d' : List α} {i j : Nat} {x y : α} (hi : d[i]? = some x) (hj : d[j]? = some y) (hd : swp d.toArray i j = d'.toArray) :
    SortAt (encT tc) 3 w b o d' ((((((W.setCell ⟨b, o + i * 3, none⟩ (.bool (tc y).neg)).setCell ⟨b, o + i * 3 + 1, none⟩ (.slice (tc y).ma (tc y).mn (tc y).mc)).setCell ⟨b, o + i * 3 + 2, none⟩ (.slice (tc y).oa (tc y).on (tc y).oc)).setCell
      ⟨b, o + j * 3, none⟩ (.bool (tc x).neg)).setCell ⟨b, o + j * 3 + 1, none⟩ (.slice (tc x).ma (tc x).mn (tc x).mc)).setCell ⟨b, o + j * 3 + 2, none⟩ (.slice (tc x).oa (tc x).on (tc x).oc)) := by
  have := h.swap (fun _ => rfl) (lt_of_some hi) (lt_of_some hj) hd
  rw [arr_at hi, arr_at hj] at this
  exact this
end

/-- the one cell of a polynomial -/
structure PCell where
  a : Option Addr
  n : Nat
  c : Nat
abbrev encP {α : Type} (pc : α → PCell) (x : α) : List Value := [.slice (pc x).a (pc x).n (pc x).c]
section
variable {α : Type} [Inhabited α] {pc : α → PCell} {w W : World} {b o : Nat} {d : List α}
theorem SortAt.get1 (h : SortAt (encP pc) 1 w b o d W) {i : Nat} {x : α} (hi : d[i]? = some x) :
    W.cell? ⟨b, o + i, none⟩ = some (.slice (pc x).a (pc x).n (pc x).c) ∧ W.frozen? ⟨b, o + i, none⟩ = false := by
  have c0 := h.cell hi (c := 0) (by omega)
  rw [Nat.mul_one, Nat.add_zero] at c0
  exact c0
theorem SortAt.swap1 (h : SortAt (encP pc) 1 w b o d W) {d' : List α} {i j : Nat} {x y : α} (hi : d[i]? = some x) (hj : d[j]? = some y) (hd : swp d.toArray i j = d'.toArray) :
    SortAt (encP pc) 1 w b o d' ((W.setCell ⟨b, o + i, none⟩ (.slice (pc y).a (pc y).n (pc y).c)).setCell ⟨b, o + j, none⟩ (.slice (pc x).a (pc x).n (pc x).c)) := by
  have := h.swap (fun _ => rfl) (lt_of_some hi) (lt_of_some hj) hd
  rw [arr_at hi, arr_at hj, Nat.mul_one, Nat.mul_one] at this
  exact this
end
end Go.Proofs.YthplgldclilccaaGreat

namespace Go.Proofs.YthplgldclilccaaGreat
open Go.RowKit Go.Sort

section
variable {α : Type} [Inhabited α] {tc : α → TCell} {w : World} {b o : Nat} {cf : α → α → Int} {le : α → α → Bool}

abbrev CmpT (g : Nat) (tc : α → TCell) (cf : α → α → Int) (w : World) (b : Nat) : Prop :=
  ∀ W, w.grownBy W (some b) → ∀ x y : α, Calls Tryz.prog g #[.agg #[.bool (tc x).neg, .slice (tc x).ma (tc x).mn (tc x).mc, .slice (tc x).oa (tc x).on (tc x).oc], .agg #[.bool (tc y).neg, .slice (tc y).ma (tc y).mn (tc y).mc, .slice (tc y).oa (tc y).on (tc y).oc]] W fun e w' => e = .returned (.int .i64 (cf x y)) ∧ Ext W w'
structure CmpLe (cf : α → α → Int) (le : α → α → Bool) : Prop where
  range : ∀ x y, -1 ≤ cf x y ∧ cf x y ≤ 1
  eq : ∀ x y, le y x = decide (0 ≤ cf x y)
  total : TotalLe le

set_option maxRecDepth 100000 in
set_option maxHeartbeats 4000000 in
theorem insertion_t (cap : Nat) (P X T : List α) (W : World) (hc : CmpT 120 tc cf w b) (hl : CmpLe cf le) (h : SortAt (encT tc) 3 w b o (P ++ X ++ T) W) (_hcap : (P ++ X ++ T).length ≤ cap) (hcap2 : (P ++ X ++ T).length ≤ 1000000000000) :
    Calls Tryz.prog 152 #[.slice (some ⟨b, o, none⟩) (P ++ X ++ T).length cap, .int .i64 P.length, .int .i64 (P.length + X.length : Nat), .func (.func 120) #[] #[]] W
      fun e w' => e = .returned (.tuple #[]) ∧ SortAt (encT tc) 3 w b o (P ++ sortL le X ++ T) w' := by
  have H := hid h
  have HC := hid hc
  have HL := hid hl
  clear h hc hl
  obtain ⟨n, hn⟩ : ∃ n, n = (P ++ X ++ T).length := ⟨_, rfl⟩
  obtain ⟨m, hm⟩ : ∃ m, m = P.length + X.length := ⟨_, rfl⟩
  obtain ⟨a, ha⟩ : ∃ a, a = P.length := ⟨_, rfl⟩
  rw [← hn] at _hcap hcap2 ⊢
  rw [← hm, ← ha]
  have hmn : m ≤ n := by rw [hm, hn]; simp
  have ham : a ≤ m := by rw [ha, hm]; simp
  have HN := hid hn
  have HA := hid ha
  have HM := hid hm
  clear hn ha hm
  cases X with
  | nil =>
    obtain rfl : m = a := by rw [HM.out, HA.out]; simp
    go_enter Tryz.func152, Tryz.ntmps152
    go_wp2
    refine wp_loop_rounds 1 ?_
    rw [rounds_succ]
    go_wp2
    go_end0
    exact ⟨rfl, H.out⟩
  | cons x0 X =>
    have ham : a < m := by rw [HA.out, HM.out]; simp
    go_enter Tryz.func152, Tryz.ntmps152
    go_wp2
    go_loopw [8] (fun vi wr => ∃ (i : Nat) (X1 X2 : List α), vi = .int .i64 i ∧ a < i ∧ i ≤ m ∧ Hid (i = a + X1.length) ∧ Hid (x0 :: X = X1 ++ X2) ∧ SortAt (encT tc) 3 w b o (P ++ sortL le X1 ++ X2 ++ T) wr) (fun vi _ => m - (intOf vi).toNat)
    case atStart => exact ⟨a + 1, [x0], X, by go_num, by omega, by omega, rfl, rfl, by rw [sortL_one]; simpa using H.out⟩
    case round =>
      obtain ⟨i, X1, X2, rfl, hai, him, HI, HX, hs⟩ := hrel
      have HS := hid hs
      clear hs
      by_cases hlt : i < m
      · cases X2 with
        | nil =>
          exfalso
          have h1 := HI.out
          have h2 := congrArg List.length HX.out
          have h3 := HM.out
          have h4 := HA.out
          simp at h2 h3
          omega
        | cons x X2 =>
          go_wp2
          go_loopw [9] (fun vj wr2 => ∃ (j : Nat) (S1 S2 : List α), vj = .int .i64 j ∧ a ≤ j ∧ j ≤ i ∧ Hid (j = a + S1.length) ∧ Hid (sortL le X1 = S1 ++ S2) ∧ Hid (∀ y ∈ S2, le y x = false) ∧ SortAt (encT tc) 3 w b o (P ++ S1 ++ x :: S2 ++ X2 ++ T) wr2) (fun vj _ => (intOf vj).toNat)
          case atStart => exact ⟨i, sortL le X1, [], rfl, by omega, Nat.le_refl _, by rw [HI.out, sortL_len]; rfl, by show _ = _; simp, fun y hy => by simp at hy, by simpa using HS.out⟩
          case round =>
            obtain ⟨j, S1, S2, rfl, haj, hji, HJ, HSS, HS2, hs2⟩ := hrel
            rcases (show S1 = [] ∨ ∃ L z, S1 = L ++ [z] by simpa using List.eq_nil_or_concat S1) with rfl | ⟨S1', y, rfl⟩
            · obtain rfl : j = a := by rw [HJ.out]; rfl
              have hb : decide ((j : Int) > (j : Int)) = false := by simp
              have HD := hid hs2
              clear hs2
              go_wp2
              refine wp_region_later (by kernel_rfl) (by kernel_rfl) ?_
              repeat (go_big_quiet_step (fail))
              refine wpQuiet_nil ?_
              intro W2 hW2
              have HD2 := hid (HD.out.later hW2)
              clear hW2
              go_wp2
              go_roundw
              case rel =>
                refine ⟨i + 1, X1 ++ [x], X2, by go_num, by omega, by omega, ?_, ?_, ?_⟩
                · show _ = _; have := HI.out; simp; omega
                · show _ = _; rw [HX.out]; simp
                · have e := mergeL_put (le := le) (S1 := []) (S2 := S2) (x := x) (by simp) HS2.out
                  rw [sortL_append HL.out.total, sortL_one, HSS.out, e]
                  have := HD2.out
                  simpa using this
              case measure => simp [intOf]; omega
            · obtain ⟨jp, rfl⟩ : ∃ jp, j = jp + 1 := ⟨j - 1, by have := HJ.out; simp at this; omega⟩
              have hj : jp = (P ++ S1').length := by have := HJ.out; have := HA.out; simp at *; omega
              have hjn : jp + 1 < n := by omega
              have g0 : (P ++ (S1' ++ [y]) ++ x :: S2 ++ X2 ++ T)[jp]? = some y := by rw [hj]; simp
              have g1 : (P ++ (S1' ++ [y]) ++ x :: S2 ++ X2 ++ T)[jp + 1]? = some x := by
                rw [show jp + 1 = (P ++ S1' ++ [y]).length by simp [hj, Nat.add_assoc], show P ++ (S1' ++ [y]) ++ x :: S2 ++ X2 ++ T = (P ++ S1' ++ [y]) ++ (x :: (S2 ++ X2 ++ T)) by simp]
                exact at_len _ _ _
              have HD := hid hs2
              have HG := hid (And.intro g0 g1)
              have HJP := hid hj
              have L0 := fun Y : Later wr => (hs2.later Y.h).get3 g0
              have L1 := fun Y : Later wr => (hs2.later Y.h).get3 g1
              have LC := fun Y : Later wr => HC.out Y.w' (hs2.later Y.h).grown x y
              have a0 := fun Y => (L0 Y).1.1
              have a1 := fun Y => (L0 Y).1.2.1
              have a2 := fun Y => (L0 Y).1.2.2
              have b0 := fun Y => (L1 Y).1.1
              have b1 := fun Y => (L1 Y).1.2.1
              have b2 := fun Y => (L1 Y).1.2.2
              obtain ⟨r1, r2⟩ := HL.out.range x y
              have HLE := hid (HL.out.eq x y)
              generalize cf x y = c at *
              have HLC := hid LC
              clear L0 L1 LC hs2 g0 g1 hj
              by_cases hcc : c < 0
              · have hle : le y x = false := by rw [HLE.out]; exact decide_eq_false (by omega)
                have HLF := hid hle
                clear hle
                have q1 : (a : Int) < (jp : Int) + 1 := by have := HJ.out; simp at this; omega
                have q2 : (jp : Int) + 1 < (n : Int) := by omega
                have q3 : (jp : Int) < (n : Int) := by omega
                have q4 : (0 : Int) ≤ (jp : Int) + 1 := by omega
                have q5 : ((jp : Int) + 1).toNat = jp + 1 := by omega
                have q6 : IntKind.i64.wrap (jp : Int) = (jp : Int) := by rw [IntKind.wrap_i64]; omega
                go_wp2
                refine wp_region_later (by kernel_rfl) (by kernel_rfl) ?_
                repeat (go_big_quiet_step (first | (go_at_call 120; exact Later.done (HLC.out _))))
                refine wpQuiet_nil ?_
                intro W2 hW2
                clear a0 a1 a2 b0 b1 b2
                have HD2 := hid (HD.out.later hW2)
                clear hW2
                obtain ⟨⟨c0, c1, c2⟩, f0, f1, f2⟩ := HD2.out.get3 HG.out.1
                obtain ⟨⟨d0, d1, d2⟩, k0, k1, k2⟩ := HD2.out.get3 HG.out.2
                have HD3 := hid (HD2.out.swap3 HG.out.2 HG.out.1 (d' := P ++ S1' ++ x :: (y :: S2) ++ X2 ++ T) (by
                  have e := swp_down (P ++ S1') [] (S2 ++ X2 ++ T) y x
                  simp only [List.append_assoc, List.cons_append, List.nil_append, List.length_nil, Nat.add_zero] at e ⊢
                  rw [HJP.out]
                  exact e))
                go_wp2
                go_big_region
                all_goals go_wp2
                go_roundw
                case rel =>
                  refine ⟨jp, S1', y :: S2, rfl, ?_, by omega, ?_, ?_, ?_, ?_⟩
                  · have := HJ.out; simp at this; omega
                  · have := HJ.out; simp at this; show _ = _; omega
                  · show _ = _; rw [HSS.out]; simp
                  · intro z hz
                    rcases List.mem_cons.1 hz with rfl | hz
                    · exact HLF.out
                    · exact HS2.out z hz
                  · exact HD3.out.drew
                case measure => simp [intOf]
              · have hle : le y x = true := by rw [HLE.out]; exact decide_eq_true (by omega)
                have HLT := hid hle
                clear hle
                have q1 : (a : Int) < (jp : Int) + 1 := by have := HJ.out; simp at this; omega
                have q2 : (jp : Int) + 1 < (n : Int) := by omega
                have q3 : (jp : Int) < (n : Int) := by omega
                have q4 : (0 : Int) ≤ (jp : Int) + 1 := by omega
                have q5 : ((jp : Int) + 1).toNat = jp + 1 := by omega
                have q6 : IntKind.i64.wrap (jp : Int) = (jp : Int) := by rw [IntKind.wrap_i64]; omega
                have q7 : ¬ c < 0 := hcc
                go_wp2
                refine wp_region_later (by kernel_rfl) (by kernel_rfl) ?_
                repeat (go_big_quiet_step (first | (go_at_call 120; exact Later.done (HLC.out _))))
                refine wpQuiet_nil ?_
                intro W2 hW2
                clear a0 a1 a2 b0 b1 b2
                have HD2 := hid (HD.out.later hW2)
                clear hW2
                go_wp2
                go_roundw
                case rel =>
                  refine ⟨i + 1, X1 ++ [x], X2, by go_num, by omega, by omega, ?_, ?_, ?_⟩
                  · show _ = _; have := HI.out; simp; omega
                  · show _ = _; rw [HX.out]; simp
                  · have e := mergeL_put (le := le) (S1 := S1' ++ [y]) (S2 := S2) (x := x) (by
                      refine SortedL.last HL.out.total ?_ HLT.out
                      have := sortL_sorted HL.out.total X1
                      rw [HSS.out] at this
                      exact (List.pairwise_append.1 this).1) HS2.out
                    rw [sortL_append HL.out.total, sortL_one, HSS.out, e]
                    have := HD2.out
                    simpa using this
                case measure => simp [intOf]; omega
      · obtain rfl : i = m := by omega
        have hX2 : X2 = [] := by
          have h1 := HI.out
          have h2 := congrArg List.length HX.out
          have h3 := HM.out
          have h4 := HA.out
          simp at h2 h3
          exact List.length_eq_zero_iff.1 (by omega)
        subst hX2
        have HF : Hid (SortAt (encT tc) 3 w b o (P ++ sortL le (x0 :: X) ++ T) wr) := by
          have h1 := HS.out
          have h2 := HX.out
          rw [List.append_nil] at h2
          rw [h2]
          exact hid (by simpa using h1)
        go_wp2
        go_end0
        exact ⟨rfl, HF.out⟩
end
end Go.Proofs.YthplgldclilccaaGreat

namespace Go.Proofs.YthplgldclilccaaGreat
open Go.RowKit Go.Sort

section
variable {α : Type} [Inhabited α] {tc : α → TCell} {w : World} {b o : Nat}

set_option maxRecDepth 100000 in
set_option maxHeartbeats 4000000 in
theorem swap_range_t (cap : Nat) (P U M V Q : List α) (n : Nat) (cv : Value) (W : World) (hu : U.length = n) (hv : V.length = n) (h : SortAt (encT tc) 3 w b o (P ++ U ++ M ++ V ++ Q) W) (_hcap : (P ++ U ++ M ++ V ++ Q).length ≤ cap) (hcap2 : (P ++ U ++ M ++ V ++ Q).length ≤ 1000000000000) :
    Calls Tryz.prog 158 #[.slice (some ⟨b, o, none⟩) (P ++ U ++ M ++ V ++ Q).length cap, .int .i64 P.length, .int .i64 (P.length + n + M.length : Nat), .int .i64 n, cv] W
      fun e w' => e = .returned (.tuple #[]) ∧ SortAt (encT tc) 3 w b o (P ++ V ++ M ++ U ++ Q) w' := by
  have H := hid h
  have HU := hid hu
  have HV := hid hv
  clear h
  obtain ⟨l, hl⟩ : ∃ l, l = (P ++ U ++ M ++ V ++ Q).length := ⟨_, rfl⟩
  obtain ⟨m, hm⟩ : ∃ m, m = P.length + n + M.length := ⟨_, rfl⟩
  obtain ⟨a, ha⟩ : ∃ a, a = P.length := ⟨_, rfl⟩
  rw [← hl] at _hcap hcap2 ⊢
  rw [← hm, ← ha]
  have hmn : m + n ≤ l := by rw [hm, hl]; simp; omega
  have ham : a + n ≤ m := by rw [ha, hm]; omega
  have HL := hid hl
  have HA := hid ha
  have HM := hid hm
  clear hl ha hm hu hv
  go_enter Tryz.func158, Tryz.ntmps158
  go_wp2
  go_loopw [10] (fun vi wr => ∃ (i : Nat) (U1 U2 V1 V2 : List α), vi = .int .i64 i ∧ i ≤ n ∧ Hid (i = U1.length) ∧ Hid (i = V1.length) ∧ Hid (U = U1 ++ U2) ∧ Hid (V = V1 ++ V2) ∧ SortAt (encT tc) 3 w b o (P ++ V1 ++ U2 ++ M ++ U1 ++ V2 ++ Q) wr) (fun vi _ => n - (intOf vi).toNat)
  case atStart => exact ⟨0, [], U, [], V, rfl, by omega, rfl, rfl, rfl, rfl, by simpa using H.out⟩
  case round =>
    obtain ⟨i, U1, U2, V1, V2, rfl, hin, HI, HI2, HUU, HVV, hs⟩ := hrel
    have HS := hid hs
    clear hs
    by_cases hlt : i < n
    · cases U2 with
      | nil =>
        exfalso
        have h1 := HI.out
        have h2 := HU.out
        rw [HUU.out] at h2
        simp at h2
        omega
      | cons x U2 =>
        cases V2 with
        | nil =>
          exfalso
          have h1 := HI2.out
          have h2 := HV.out
          rw [HVV.out] at h2
          simp at h2
          omega
        | cons y V2 =>
          have hx : a + i = (P ++ V1).length := by have := HA.out; have := HI2.out; simp; omega
          have hy : m + i = (P ++ V1).length + 1 + (U2 ++ M ++ U1).length := by
            have h1 := HI.out
            have h2 := HU.out
            have h3 := HM.out
            have h4 := HI2.out
            rw [HUU.out] at h2
            simp at h2 ⊢
            omega
          have g0 : (P ++ V1 ++ x :: U2 ++ M ++ U1 ++ y :: V2 ++ Q)[a + i]? = some x := by
            rw [hx, show P ++ V1 ++ x :: U2 ++ M ++ U1 ++ y :: V2 ++ Q = (P ++ V1) ++ x :: (U2 ++ M ++ U1 ++ y :: V2 ++ Q) by simp]
            exact at_len _ _ _
          have g1 : (P ++ V1 ++ x :: U2 ++ M ++ U1 ++ y :: V2 ++ Q)[m + i]? = some y := by
            rw [hy, show (P ++ V1).length + 1 + (U2 ++ M ++ U1).length = (P ++ V1 ++ x :: U2 ++ M ++ U1).length by simp; omega, show P ++ V1 ++ x :: U2 ++ M ++ U1 ++ y :: V2 ++ Q = (P ++ V1 ++ x :: U2 ++ M ++ U1) ++ y :: (V2 ++ Q) by simp]
            exact at_len _ _ _
          obtain ⟨⟨c0, c1, c2⟩, f0, f1, f2⟩ := HS.out.get3 g0
          obtain ⟨⟨d0, d1, d2⟩, k0, k1, k2⟩ := HS.out.get3 g1
          have HD := hid (HS.out.swap3 g0 g1 (d' := P ++ V1 ++ y :: U2 ++ M ++ U1 ++ x :: V2 ++ Q) (by
            have e := swp_up (P ++ V1) (U2 ++ M ++ U1) (V2 ++ Q) x y
            rw [hx, hy]
            simp only [List.append_assoc, List.cons_append] at e ⊢
            exact e))
          clear g0 g1 hx hy
          have q1 : (a : Int) + (i : Int) < (l : Int) := by omega
          have q2 : (m : Int) + (i : Int) < (l : Int) := by omega
          have q3 : (0 : Int) ≤ (a : Int) + (i : Int) := by omega
          have q4 : (0 : Int) ≤ (m : Int) + (i : Int) := by omega
          have q5 : ((a : Int) + (i : Int)).toNat = a + i := by omega
          have q6 : ((m : Int) + (i : Int)).toNat = m + i := by omega
          go_wp2
          go_big_region
          all_goals go_wp2
          go_roundw
          case rel =>
            refine ⟨i + 1, U1 ++ [x], U2, V1 ++ [y], V2, by go_num, by omega, ?_, ?_, ?_, ?_, ?_⟩
            · show _ = _; rw [HI.out]; simp
            · show _ = _; rw [HI2.out]; simp
            · show _ = _; rw [HUU.out]; simp
            · show _ = _; rw [HVV.out]; simp
            · have := HD.out.drew
              simpa using this
          case measure => simp [intOf]; omega
    · obtain rfl : i = n := by omega
      have h1 : U2 = [] := by
        have h1 := HI.out
        have h2 := HU.out
        rw [HUU.out] at h2
        simp at h2
        exact List.length_eq_zero_iff.1 (by omega)
      have h2 : V2 = [] := by
        have h1 := HI2.out
        have h2 := HV.out
        rw [HVV.out] at h2
        simp at h2
        exact List.length_eq_zero_iff.1 (by omega)
      subst h1 h2
      have HF : Hid (SortAt (encT tc) 3 w b o (P ++ V ++ M ++ U ++ Q) wr) := by
        have := HS.out
        rw [HUU.out, HVV.out]
        exact hid (by simpa using this)
      go_wp2
      go_end0
      exact ⟨rfl, HF.out⟩

theorem swap_range_t' {cap l : Nat} {za zb zn : Int} {cv : Value} {cur : List α} (P U M V Q : List α) (W : World) (hcur : cur = P ++ U ++ M ++ V ++ Q) (hl : l = cur.length) (hza : za = P.length) (hzb : zb = P.length + U.length + M.length) (hzn : zn = U.length) (hv : V.length = U.length)
    (h : SortAt (encT tc) 3 w b o cur W) (hcap : l ≤ cap) (hcap2 : l ≤ 1000000000000) :
    Calls Tryz.prog 158 #[.slice (some ⟨b, o, none⟩) l cap, .int .i64 za, .int .i64 zb, .int .i64 zn, cv] W
      fun e w' => e = .returned (.tuple #[]) ∧ SortAt (encT tc) 3 w b o (P ++ V ++ M ++ U ++ Q) w' := by
  subst hcur hl hza hzn
  obtain rfl : zb = ((P.length + U.length + M.length : Nat) : Int) := by rw [hzb]; omega
  exact swap_range_t cap P U M V Q U.length cv W rfl hv h hcap hcap2

set_option maxRecDepth 100000 in
set_option maxHeartbeats 4000000 in
theorem rotate_t {cap l : Nat} {za zm zb : Int} {cv : Value} {cur : List α} (P X Y Q : List α) (W : World) (hcur : cur = P ++ X ++ Y ++ Q) (hl : l = cur.length) (hza : za = P.length) (hzm : zm = P.length + X.length) (hzb : zb = P.length + X.length + Y.length)
    (h : SortAt (encT tc) 3 w b o cur W) (hx : X ≠ []) (hy : Y ≠ []) (hcap : l ≤ cap) (hcap2 : l ≤ 1000000000000) :
    Calls Tryz.prog 157 #[.slice (some ⟨b, o, none⟩) l cap, .int .i64 za, .int .i64 zm, .int .i64 zb, cv] W
      fun e w' => e = .returned (.tuple #[]) ∧ SortAt (encT tc) 3 w b o (P ++ Y ++ X ++ Q) w' := by
  have hx0 : 0 < X.length := List.length_pos_iff.2 hx
  have hy0 : 0 < Y.length := List.length_pos_iff.2 hy
  have H := hid h
  obtain ⟨m, hm⟩ : ∃ m, m = P.length + X.length := ⟨_, rfl⟩
  obtain ⟨a, ha⟩ : ∃ a, a = P.length := ⟨_, rfl⟩
  obtain ⟨i0, hi0⟩ : ∃ a, a = X.length := ⟨_, rfl⟩
  obtain ⟨j0, hj0⟩ : ∃ a, a = Y.length := ⟨_, rfl⟩
  obtain rfl : za = a := by omega
  obtain rfl : zm = m := by omega
  obtain ⟨B, hB⟩ : ∃ B, B = m + j0 := ⟨_, rfl⟩
  obtain rfl : zb = (B : Int) := by omega
  have HB := hid hB
  have hmB : m ≤ B := by omega
  have hBl : B ≤ l := by rw [hl, hcur, hB, hm, hj0]; simp; omega
  have hml : m + j0 ≤ l := by rw [hl, hcur, hm, hj0]; simp; omega
  have ham : m = a + i0 := by omega
  have HM := hid ham
  have HLL := hid hl
  have HCUR := hid hcur
  have HAA := hid ha
  have HII := hid hi0
  have HJJ := hid hj0
  have hai : a ≤ m := by omega
  have hi1 : 1 ≤ i0 := by omega
  have hj1 : 1 ≤ j0 := by omega
  have w1 : IntKind.i64.wrap ((m : Int) - (a : Int)) = (i0 : Int) := by rw [IntKind.wrap_i64]; omega
  have W1 := hid w1
  clear h hx hy hx0 hy0 hza hzm hzb hl hcur ha hi0 hj0 hm ham w1 hB
  go_enter Tryz.func157, Tryz.ntmps157
  go_wp2
  go_loopw [10, 11] (fun vi vj wr => ∃ (i j : Nat) (P' X' Y' Q' : List α), vi = .int .i64 i ∧ vj = .int .i64 j ∧ 1 ≤ i ∧ 1 ≤ j ∧ i ≤ m ∧ m + j ≤ l ∧ Hid (i = X'.length) ∧ Hid (j = Y'.length) ∧ Hid (m = P'.length + X'.length) ∧ Hid (P' ++ Y' ++ X' ++ Q' = P ++ Y ++ X ++ Q) ∧ SortAt (encT tc) 3 w b o (P' ++ X' ++ Y' ++ Q') wr) (fun vi vj _ => (intOf vi).toNat + (intOf vj).toNat)
  case atStart => exact ⟨i0, j0, P, X, Y, Q, by have := HM.out; congr 1; omega, by have := HB.out; congr 1; omega, hi1, hj1, by have := HM.out; omega, hml, HII.out, HJJ.out, by show _ = _; rw [HM.out, HAA.out, HII.out], rfl, by have := H.out; rw [HCUR.out] at this; exact this⟩
  case round =>
    obtain ⟨i, j, P', X', Y', Q', rfl, rfl, hi, hj, him, hmj, HI, HJ, HMM, HE, hs⟩ := hrel
    have HS := hid hs
    have HLC : Hid (l = (P' ++ X' ++ Y' ++ Q').length) := hid (by
      have h1 := HLL.out
      have h2 := congrArg List.length HE.out
      rw [HCUR.out] at h1
      simp at h1 h2 ⊢
      omega)
    clear hs
    rcases (show i = j ∨ j < i ∨ i < j by omega) with rfl | hlt | hlt
    · have C := hid (swap_range_t' (cap := cap) (l := l) (za := (m : Int) - (i : Int)) (zb := m) (zn := i) (cv := cv) P' X' [] Y' Q' wr (by simp) HLC.out (by have := HMM.out; have := HI.out; omega) (by have := HMM.out; simp; omega) (by have := HI.out; omega) (by rw [← HI.out, ← HJ.out]) HS.out hcap hcap2)
      have q0 : ((i : Int) != (i : Int)) = false := by simp
      go_wp2_with fail
      refine C.out.mono ?_
      rintro e w2 ⟨rfl, hs2⟩
      have HF := hid hs2
      clear hs2
      go_wp2
      go_end0
      refine ⟨rfl, ?_⟩
      have := HF.out
      rw [← HE.out]
      simpa using this
    · obtain ⟨X1, X2, hX, hX1⟩ : ∃ X1 X2, X' = X1 ++ X2 ∧ X1.length = j := ⟨X'.take j, X'.drop j, (List.take_append_drop j X').symm, by rw [List.length_take]; have := HI.out; omega⟩
      subst hX
      have HX1 := hid hX1
      clear hX1
      have C := hid (swap_range_t' (cap := cap) (l := l) (za := (m : Int) - (i : Int)) (zb := m) (zn := j) (cv := cv) P' X1 X2 Y' Q' wr (by simp) HLC.out (by have := HMM.out; have := HI.out; omega) (by have := HMM.out; simp at this; omega) (by have := HX1.out; omega) (by rw [HX1.out, ← HJ.out]) HS.out hcap hcap2)
      have q0 : ((i : Int) != (j : Int)) = true := by simp; omega
      have q1 : (i : Int) > (j : Int) := by omega
      go_wp2_with fail
      refine C.out.mono ?_
      rintro e w2 ⟨rfl, hs2⟩
      have HF := hid hs2
      clear hs2
      go_wp2
      go_roundw
      case rel =>
        refine ⟨i - j, j, P' ++ Y', X2, X1, Q', by congr 1; omega, rfl, by omega, hj, by omega, hmj, ?_, ?_, ?_, ?_, ?_⟩
        · show _ = _; have := HI.out; have := HX1.out; simp at *; omega
        · exact HX1.out.symm
        · show _ = _; have := HMM.out; have := HX1.out; have := HJ.out; simp at *; omega
        · show _ = _; rw [← HE.out]; simp
        · have := HF.out
          simpa using this
      case measure => simp [intOf]; omega
    · obtain ⟨Y1, Y2, hY, hY2⟩ : ∃ Y1 Y2, Y' = Y1 ++ Y2 ∧ Y2.length = i := ⟨Y'.take (j - i), Y'.drop (j - i), (List.take_append_drop _ Y').symm, by rw [List.length_drop]; have := HJ.out; omega⟩
      subst hY
      have HY2 := hid hY2
      clear hY2
      have C := hid (swap_range_t' (cap := cap) (l := l) (za := (m : Int) - (i : Int)) (zb := (m : Int) + (j : Int) - (i : Int)) (zn := i) (cv := cv) P' X' Y1 Y2 Q' wr (by simp) HLC.out (by have := HMM.out; have := HI.out; omega) (by have := HMM.out; have := HJ.out; have := HY2.out; simp at *; omega) (by have := HI.out; omega) (by rw [HY2.out, ← HI.out]) HS.out hcap hcap2)
      have q0 : ((i : Int) != (j : Int)) = true := by simp; omega
      have q1 : ¬ (i : Int) > (j : Int) := by omega
      go_wp2_with fail
      refine C.out.mono ?_
      rintro e w2 ⟨rfl, hs2⟩
      have HF := hid hs2
      clear hs2
      go_wp2
      go_roundw
      case rel =>
        refine ⟨i, j - i, P', Y2, Y1, X' ++ Q', rfl, by congr 1; omega, hi, by omega, him, by omega, ?_, ?_, ?_, ?_, ?_⟩
        · exact HY2.out.symm
        · show _ = _; have := HJ.out; have := HY2.out; simp at *; omega
        · show _ = _; have := HMM.out; have := HY2.out; have := HI.out; omega
        · show _ = _; rw [← HE.out]; simp
        · have := HF.out
          simpa using this
      case measure => simp [intOf]; omega
end
end Go.Proofs.YthplgldclilccaaGreat
