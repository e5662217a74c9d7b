/- The difference of two numbers. Whole numbers as the program has them: made canonical, may they be, their sign. The sum of two whole numbers. The bits of a number that fits 32: 0 for 0 alone. The sign of a whole number. Which polynomials may be. What is appended: any source, nil, empty or not. A polynomial's first term, class and degree. Slices of polynomials in memory. Arguments that are slices of polynomials, read as data. The contracts of sync/atomic's Int64 and Bool, of sync.Mutex and of sync.Once, for one goroutine: what each call does to memory. Conditions: the lock is free. The contracts of the meter's first refusal: sync.Once's Do around the closure that keeps what would be needed. Conditions: the Once's lock is free. The meter: what each of its methods does to its block, and to nothing else. How many limbs the longest coefficient has: the program's and the document's answer. The meter's methods: each answers an error's number, or a count, and changes its own block alone. The meter's Keep and New, and its methods on a meter that is not there. The document's meter: its methods over its block of eight numbers. A meter that is not there: each of its methods answers that nothing is bound. -/
import Derived.WalkSpells
import Derived.Laws.AppendOwn
import Derived.Maps.AppendAt
import Derived.Test.YthdcaablomgboaaGreatProg
import Derived.Tactics
import Derived.Tactics2
import Derived.Defers
import Derived.Laws.Pointers
import Derived.Laws.LoneSync
import Derived.RegionTactic
import Derived.RegionCalls
import Derived.ChangeAlike
import Derived.Laws.NewBlocks
import Derived.WalkKit
import Derived.BigQuiet
import Derived.Deep.QuietTactic
import Derived.StillTailTactics
import Derived.Test.YthdcaablomgboaaGreatRs1
set_option maxRecDepth 100000
set_option maxHeartbeats 16000000
namespace Go.Proofs.YthdcaablomgboaaGreat
section
open Go.RowKit
theorem zk4 {S : Nat → Prop} (va vb : Value) (xs ys : List Nat) (w : World) (ha : U32s S w va xs) (hb : U32s S w vb ys) (hS : ∀ k, S k → k < w.heap.size) (hlt : val B32 xs < val B32 ys) :
  Calls Tryz.prog 154 #[va, vb] w fun e w' => e = .returned (.tuple #[.slice none 0 0, .int .i64 2]) ∧ Ext w w' := by
 have HA := hid ha
 have HB := hid hb
 obtain ⟨aa, ca, rfl⟩ := ha.form
 obtain ⟨ab, cb, rfl⟩ := hb.form
 have hc : cmpN (val B32 xs) (val B32 ys) = -1 := by unfold cmpN; rw [z2m]; omega
 have hm := zme _ _ xs ys w HA.out HB.out hS
 rw [hc] at hm
 have HM := hid hm
 clear ha hb hc hm hlt
 go_enter Tryz.func154, Tryz.ntmps154
 go_wp2_with fail
 refine HM.out.mono ?_
 rintro e w1 ⟨rfl, hx1⟩
 have HX := hid hx1
 clear hx1
 go_wp2
 go_ret2
 exact ⟨rfl, HX.out⟩
theorem zaz {S : Nat → Prop} (va vb : Value) (xs ys : List Nat) (w : World) (ha : U32s S w va xs) (hb : U32s S w vb ys) (hS : ∀ k, S k → k < w.heap.size) (hr : xs.length ≤ 50000000000000) (hge : val B32 ys ≤ val B32 xs) :
  Calls Tryz.prog 154 #[va, vb] w fun e w' => ∃ v', e = .returned (.tuple #[v', .int .i64 0]) ∧ U32s (New w w') w' v' (rep B32 (val B32 xs - val B32 ys)) ∧ Ext w w' := by
 have hxl : (rep B32 (val B32 xs)).length ≤ xs.length := z0x z0a _ _ (z4l xs ha.lt)
 have HA := hid ha
 have HB := hid hb
 obtain ⟨aa, ca, rfl⟩ := ha.form
 obtain ⟨ab, cb, rfl⟩ := hb.form
 obtain ⟨cc, hc, hcc⟩ : ∃ cc : Int, cmpN (val B32 xs) (val B32 ys) = cc ∧ 0 ≤ cc ∧ cc ≤ 1 := ⟨_, rfl, by unfold cmpN cmpI; split <;> (try split) <;> omega⟩
 have hm := zme _ _ xs ys w HA.out HB.out hS
 rw [hc] at hm
 have HM := hid hm
 have HGE := hid hge
 clear ha hb hc hm hge
 go_enter Tryz.func154, Tryz.ntmps154
 go_wp2_with fail
 refine HM.out.mono ?_
 rintro e w1 ⟨rfl, hx1⟩
 have hS1 : ∀ k, S k → k < w1.heap.size := fun k hk => Nat.lt_of_lt_of_le (hS k hk) hx1.size
 have HX := hid hx1
 go_wp2_with fail
 refine (z3a (S := S) _ xs w1 (HA.out.to (Kept.ext hx1 hS) (fun _ h => h))).mono ?_
 rintro e w' ⟨va, rfl, hu, rfl⟩
 have HU := hid hu
 obtain ⟨a1, c1, rfl⟩ := hu.form
 clear hu
 go_wp2_with fail
 refine (z3a (S := S) _ ys w1 (HB.out.to (Kept.ext hx1 hS) (fun _ h => h))).mono ?_
 rintro e w' ⟨vb, rfl, hv, rfl⟩
 have HV := hid hv
 obtain ⟨a2, c2, rfl⟩ := hv.form
 clear hv hx1
 generalize hn : val B32 xs = n at HU HGE hxl
 generalize hm : val B32 ys = m at HV HGE
 have HN := hid hn
 have HM := hid hm
 clear hn hm
 have hmk := run_make_row' (P := Tryz.prog) 70 111 (.int .u32 0) 4 Tryz.underlying70 Tryz.infoU32 rfl .i64 .i64 (rep B32 n).length (by omega) (by omega) w1
 have hz : w1.heap.size < (w1.alloc (.cells (madeCells #[.int .u32 0] (rep B32 n).length) 111)).heap.size := by simp
 have HR := hid (zay w1 (rep B32 n).length 111)
 have HE := hid (Ext.alloc (Ext.refl w1) (.cells (madeCells #[.int .u32 0] (rep B32 n).length) 111))
 go_wp2
 go_loopw [7, 23] (fun c i wr => ∃ (k cc : Nat) (o : List Nat), k ≤ (rep B32 n).length ∧ i = .int .i64 k ∧ c = .int .u64 cc ∧ cc ≤ 1 ∧ o.length = k ∧ Hid (∀ z ∈ o, z < B32) ∧ wr.rowIs w1.heap.size 111 (rep B32 n).length (rowU o) ∧ Ext w1 wr ∧
  val B32 o + val B32 ((rep B32 m).take k) = val B32 ((rep B32 n).take k) + B32 ^ k * cc) (fun _ i _ => (rep B32 n).length - (intOf i).toNat)
 case atStart => exact ⟨0, 0, [], Nat.zero_le _, rfl, rfl, by omega, rfl, hid (by simp), HR.out, HE.out, by simp [val]⟩
 case round =>
  obtain ⟨k, cc, o, hk, rfl, rfl, hcc, hol, HO, hrow, hx, hv⟩ := hrel
  by_cases hlt : k < (rep B32 n).length
  ·obtain ⟨x, hx1⟩ := z00 hlt
   obtain ⟨b1, o1, rfl, -, hn1, hm1, -, hxb, hc1⟩ := (HU.out.to (Kept.ext hx hS1) (fun _ h => h)).cellAt hx1
   have hcs := hrow.cell (i := k) (by omega)
   have hfs := hrow.frozen k
   have HX1 := hid hx1
   have HROW := hid hrow
   have HXR := hid hx
   have HV1 := hid hv
   have HOL := hid hol
   clear hx1 hrow hx hv hol
   by_cases hlt2 : k < (rep B32 m).length
   ·obtain ⟨y, hy1⟩ := z00 hlt2
    obtain ⟨b2, o2, rfl, -, hn2, hm2, -, hyb, hc2⟩ := (HV.out.to (Kept.ext HXR.out hS1) (fun _ h => h)).cellAt hy1
    have HY1 := hid hy1
    clear hy1
    by_cases hs : y + cc ≤ x
    ·go_wp2
     go_roundw
     case rel =>
      skip
      refine ⟨k + 1, 0, o ++ [x - y - cc], by omega, by go_num, congrArg (Value.int .u64) (by omega), by omega, by simp [HOL.out], ?_, ?_, HXR.out.setCell (p := ⟨w1.heap.size, k, none⟩) (Nat.le_refl _) _, ?_⟩
      ·refine hid (fun z hz => ?_)
       rcases List.mem_append.1 hz with h | h
       ·exact HO.out z h
       ·rw [List.mem_singleton.1 h]
        show _ < 4294967296
        omega
      ·have h1 := z2x HROW.out (x - y - cc)
       rw [HOL.out] at h1
       refine cast (congrArg (fun e => World.rowIs (World.setCell wr ⟨w1.heap.size, k, none⟩ (Value.int .u32 e)) _ _ _ _) ?_) h1
       omega
      ·refine z4z HOL.out HV1.out _ _ ?_
       rw [z1g HX1.out, z1g HY1.out]
       show _ + 4294967296 * _ = _
       omega
     case measure => simp only [intOf]; omega
    ·go_wp2
     go_roundw
     case rel =>
      rw [show IntKind.u64.wrap (IntKind.u64.wrap ((x : Int) - cc) - y) = 18446744073709551616 + (x : Int) - cc - y by rw [IntKind.wrap_u64, IntKind.wrap_u64]; omega]
      refine ⟨k + 1, 1, o ++ [x + 4294967296 - y - cc], by omega, by go_num, congrArg (Value.int .u64) (by omega), by omega, by simp [HOL.out], ?_, ?_, HXR.out.setCell (p := ⟨w1.heap.size, k, none⟩) (Nat.le_refl _) _, ?_⟩
      ·refine hid (fun z hz => ?_)
       rcases List.mem_append.1 hz with h | h
       ·exact HO.out z h
       ·rw [List.mem_singleton.1 h]
        show _ < 4294967296
        omega
      ·have h1 := z2x HROW.out (x + 4294967296 - y - cc)
       rw [HOL.out] at h1
       refine cast (congrArg (fun e => World.rowIs (World.setCell wr ⟨w1.heap.size, k, none⟩ (Value.int .u32 e)) _ _ _ _) ?_) h1
       omega
      ·refine z4z HOL.out HV1.out _ _ ?_
       rw [z1g HX1.out, z1g HY1.out]
       show _ + 4294967296 * _ = _
       omega
     case measure => simp only [intOf]; omega
   ·by_cases hs : cc ≤ x
    ·go_wp2
     go_roundw
     case rel =>
      skip
      refine ⟨k + 1, 0, o ++ [x - 0 - cc], by omega, by go_num, congrArg (Value.int .u64) (by omega), by omega, by simp [HOL.out], ?_, ?_, HXR.out.setCell (p := ⟨w1.heap.size, k, none⟩) (Nat.le_refl _) _, ?_⟩
      ·refine hid (fun z hz => ?_)
       rcases List.mem_append.1 hz with h | h
       ·exact HO.out z h
       ·rw [List.mem_singleton.1 h]
        show _ < 4294967296
        omega
      ·have h1 := z2x HROW.out (x - 0 - cc)
       rw [HOL.out] at h1
       refine cast (congrArg (fun e => World.rowIs (World.setCell wr ⟨w1.heap.size, k, none⟩ (Value.int .u32 e)) _ _ _ _) ?_) h1
       omega
      ·refine z4z HOL.out HV1.out _ _ ?_
       rw [z1g HX1.out, z3t (l := rep B32 m) (by omega)]
       show _ + 4294967296 * _ = _
       omega
     case measure => simp only [intOf]; omega
    ·go_wp2
     go_roundw
     case rel =>
      rw [show IntKind.u64.wrap ((x : Int) - cc) = 18446744073709551616 + (x : Int) - cc by rw [IntKind.wrap_u64]; omega]
      refine ⟨k + 1, 1, o ++ [x + 4294967296 - 0 - cc], by omega, by go_num, congrArg (Value.int .u64) (by omega), by omega, by simp [HOL.out], ?_, ?_, HXR.out.setCell (p := ⟨w1.heap.size, k, none⟩) (Nat.le_refl _) _, ?_⟩
      ·refine hid (fun z hz => ?_)
       rcases List.mem_append.1 hz with h | h
       ·exact HO.out z h
       ·rw [List.mem_singleton.1 h]
        show _ < 4294967296
        omega
      ·have h1 := z2x HROW.out (x + 4294967296 - 0 - cc)
       rw [HOL.out] at h1
       refine cast (congrArg (fun e => World.rowIs (World.setCell wr ⟨w1.heap.size, k, none⟩ (Value.int .u32 e)) _ _ _ _) ?_) h1
       omega
      ·refine z4z HOL.out HV1.out _ _ ?_
       rw [z1g HX1.out, z3t (l := rep B32 m) (by omega)]
       show _ + 4294967296 * _ = _
       omega
     case measure => simp only [intOf]; omega
  ·obtain rfl : k = (rep B32 n).length := by omega
   have HXR := hid hx
   have HROW := hid hrow
   have hml : (rep B32 m).length ≤ (rep B32 n).length := z0x z0a _ _ (Nat.lt_of_le_of_lt HGE.out (z19 z0a n))
   rw [List.take_of_length_le hml, List.take_length, z1a z0a, z1a z0a] at hv
   have HV1 := hid (zm5 HO.out hol HGE.out hv)
   have hu : U32s (fun k => k = w1.heap.size) wr (.slice (some ⟨w1.heap.size, 0, none⟩) (rep B32 n).length (rep B32 n).length) o := by
    have h1 := U32s.of_row HROW.out (by omega) HO.out (by omega)
    rwa [hol] at h1
   have HU1 := hid hu
   clear hx hrow hv hol hu
   go_wp2_with fail
   refine (z3a _ o _ HU1.out).mono ?_
   rintro e w' ⟨v', rfl, hu, rfl⟩
   have H := hid hu
   clear hu
   go_wp2
   all_goals
    go_ret2
    refine ⟨_, rfl, ?_, HX.out.trans HXR.out⟩
    rw [HN.out, HM.out, ← HV1.out]
    refine H.out.to (Kept.refl _ _) (fun k hk => ?_)
    subst hk
    exact ⟨HX.out.size, HROW.out.lt⟩
end
section
open Go.RowKit
def IntV (S : Nat → Prop) (w : World) (v : Value) (r : RInt) : Prop := ∃ vm, v = .agg #[.bool r.neg, vm] ∧ U32s S w vm r.mag
theorem IntV.to {S S' : Nat → Prop} {w w' : World} {v : Value} {r : RInt} (h : IntV S w v r) (hk : Kept S w w') (hS : ∀ k, S k → S' k) : IntV S' w' v r := by
 obtain ⟨vm, h1, h2⟩ := h
 exact ⟨vm, h1, h2.to hk hS⟩
def sg (b : Bool) (n : Nat) : Int := if b then -(n : Int) else (n : Int)
theorem ztk (b : Bool) (n : Nat) : ofI (sg b n) = ⟨b && decide (0 < (rep B32 n).length), rep B32 n⟩ := by
 have h0 : 0 < (rep B32 n).length ↔ n ≠ 0 := by
  rw [List.length_pos_iff, Ne, z3h z0a]
 unfold ofI sg
 cases b with
 | false => simp
 | true =>
  simp only [if_true, Int.natAbs_neg, Int.natAbs_natCast, Bool.true_and, RInt.mk.injEq, and_true]
  rw [decide_eq_decide, h0]
  omega
theorem Ext.new_cell {w W : World} {cs : Array Value} {T : TypeId} (h : Ext (w.alloc (.cells cs T)) W) {i : Nat} {v : Value} (hv : cs[i]? = some v) : W.cell? ⟨w.heap.size, i, none⟩ = some v := h.cell (z01 w cs T rfl hv)
theorem Ext.new_free {w W : World} {cs : Array Value} {T : TypeId} (h : Ext (w.alloc (.cells cs T)) W) (i : Nat) : W.frozen? ⟨w.heap.size, i, none⟩ = false := h.free (by simp) (z2r w cs T)
theorem z1o {w : World} {b : Nat} {u0 u1 : Value} (x y : Value) (c0 : w.cell? ⟨b, 0, none⟩ = some u0) (c1 : w.cell? ⟨b, 1, none⟩ = some u1) :
  ((w.setCell ⟨b, 0, none⟩ x).setCell ⟨b, 1, none⟩ y).cell? ⟨b, 0, none⟩ = some x ∧ ((w.setCell ⟨b, 0, none⟩ x).setCell ⟨b, 1, none⟩ y).cell? ⟨b, 1, none⟩ = some y :=
 ⟨z0b (z1f c0) (ao (by decide)), z1f (z0b c1 (ao (by decide)))⟩
theorem Ext.set2 {a w : World} (h : Ext a w) {b : Nat} (hb : a.heap.size ≤ b) (x y : Value) : Ext a ((w.setCell ⟨b, 0, none⟩ x).setCell ⟨b, 1, none⟩ y) :=
 (h.setCell (p := ⟨b, 0, none⟩) hb x).setCell (p := ⟨b, 1, none⟩) hb y
theorem Kept.set2 {S : Nat → Prop} {w : World} {b : Nat} (h : ¬ S b) (x y : Value) : Kept S w ((w.setCell ⟨b, 0, none⟩ x).setCell ⟨b, 1, none⟩ y) :=
 (Kept.setCell (a := ⟨b, 0, none⟩) h x).trans (Kept.setCell (a := ⟨b, 1, none⟩) h y)
theorem z4n {w : World} {b : Nat} (x y : Value) : ((w.setCell ⟨b, 0, none⟩ x).setCell ⟨b, 1, none⟩ y).heap.size = w.heap.size := by rw [z0s, z0s]
theorem zk5 {S : Nat → Prop} (b : Bool) (v : Value) (zs : List Nat) (w : World) (h : U32s S w v zs) (hS : ∀ k, S k → k < w.heap.size) (hr : zs.length ≤ 50000000000000) :
  Calls Tryz.prog 135 #[.bool b, v] w fun e w' => ∃ v', e = .returned v' ∧ IntV (New w w') w' v' (ofI (sg b (val B32 zs))) ∧ Ext w w' := by
 have H := hid h
 obtain ⟨a, c, rfl⟩ := h.form
 clear h
 have HE := hid (Ext.alloc (Ext.refl w) (.cells #[.bool false, .slice none 0 0] 72))
 go_enter Tryz.func135, Tryz.ntmps135
 go_wp2_with fail
 refine (z8i _ zs _ (H.out.to (Kept.ext HE.out hS) (fun _ h => h)) (fun k hk => Nat.lt_of_lt_of_le (hS k hk) HE.out.size) hr).mono ?_
 rintro e w1 ⟨v', rfl, hu, hx⟩
 generalize hn : val B32 zs = n at hu
 have HN := hid hn
 have HX := hid hx
 have c0 := hx.new_cell (i := 0) rfl
 have c1 := hx.new_cell (i := 1) rfl
 have f0 := hx.new_free 0
 have f1 := hx.new_free 1
 have HU := hid hu
 obtain ⟨a', c', rfl⟩ := hu.form
 clear hn hu hx
 have HC := hid (And.intro c0 c1)
 cases b
 all_goals
  go_wp2
  have hd := fun x => z1o x (.slice a' (rep B32 n).length c') HC.out.1 HC.out.2
  refine bodyPost_ret (by simp [results, Tryz.results135, go_sem, (hd _).1, (hd _).2]; rfl) rfl ?_
  refine ⟨_, rfl, ⟨_, by rw [ztk, HN.out]; rfl, ?_⟩, (HE.out.trans HX.out).set2 (Nat.le_refl _) _ _⟩
  rw [ztk, HN.out]
  refine HU.out.to (Kept.set2 (fun h => ?_) _ _) (fun k hk => ⟨?_, ?_⟩)
  ·have h1 := h.1
   rw [z02] at h1
   omega
  ·have h1 := hk.1
   rw [z02] at h1
   omega
  ·rw [z4n]
   exact hk.2
theorem z4o {S : Nat → Prop} (v : Value) (r : RInt) (w : World) (h : IntV S w v r) (hS : ∀ k, S k → k < w.heap.size) :
  Calls Tryz.prog 83 #[v] w fun e w' => e = .returned (.bool (mayI r)) ∧ Ext w w' := by
 obtain ⟨ng, zs⟩ := r
 obtain ⟨vm, rfl, hu⟩ := h
 simp only at hu ⊢
 have hl := hu.len_le
 have H := hid hu
 obtain ⟨a, c, rfl⟩ := hu.form
 clear hu
 have HE := hid (Ext.alloc (Ext.refl w) (.cells #[.bool ng, .slice a zs.length c] 72))
 by_cases h0 : 0 < zs.length
 ·obtain ⟨z, hz⟩ := z00 (show zs.length - 1 < zs.length by omega)
  obtain ⟨b, off, rfl, -, hn, hm, -, hzb, hc⟩ := (H.out.to (Kept.ext HE.out hS) (fun _ h => h)).cellAt hz
  have hR : mayI ⟨ng, zs⟩ = decide (z ≠ 0) := by
   unfold mayI
   rw [List.getLast?_eq_getElem?, hz]
  have HR := hid hR
  clear hR hz
  go_enter Tryz.func83, Tryz.ntmps83
  go_wp2
  all_goals
   go_ret
   refine ⟨?_, HE.out⟩
   rw [HR.out]
   refine congrArg Ending.returned (congrArg Value.bool ?_)
   rw [Bool.eq_iff_iff]
   simp
 ·have HR : Hid (mayI ⟨ng, zs⟩ = !ng) := by
   obtain rfl : zs = [] := List.length_eq_zero_iff.1 (by omega)
   exact hid rfl
  have hnot : ∀ (x : Bool) (w : World), (Op.unary .not (.bool x)).run Tryz.prog w = .ok (.bool (!x)) w := fun _ _ => rfl
  have hb : (((zs.length : Nat) : Int) == 0) = true := by rw [beq_iff_eq]; omega
  go_enter Tryz.func83, Tryz.ntmps83
  go_wp2
  all_goals
   go_ret
   refine ⟨?_, HE.out⟩
   rw [HR.out]
   rfl
end
section
open Go.RowKit
theorem U32s.ext {S : Nat → Prop} {w W : World} {v : Value} {zs : List Nat} (h : U32s S w v zs) (hx : Ext w W) (hS : ∀ k, S k → k < w.heap.size) : U32s S W v zs := h.to (Kept.ext hx hS) (fun _ h => h)
theorem z08 {S : Nat → Prop} {w W : World} (hS : ∀ k, S k → k < w.heap.size) (hx : Ext w W) : ∀ k, S k → k < W.heap.size := fun k hk => Nat.lt_of_lt_of_le (hS k hk) hx.size
theorem New.lt {w w' : World} : ∀ k, New w w' k → k < w'.heap.size := fun _ h => h.2
theorem New.mono {a w w' : World} (h : Ext a w) : ∀ k, New w w' k → New a w' k := fun _ hk => ⟨Nat.le_trans h.size hk.1, hk.2⟩
theorem blk3 {w W : World} {c1 c2 c3 : Array Value} {T1 T2 T3 : TypeId} (h : Ext (((w.alloc (.cells c1 T1)).alloc (.cells c2 T2)).alloc (.cells c3 T3)) W) :
  (∀ i v, c1[i]? = some v → W.cell? ⟨w.heap.size, i, none⟩ = some v) ∧ (∀ i v, c2[i]? = some v → W.cell? ⟨w.heap.size + 1, i, none⟩ = some v) ∧ (∀ i v, c3[i]? = some v → W.cell? ⟨w.heap.size + 1 + 1, i, none⟩ = some v) ∧ ∀ i, W.frozen? ⟨w.heap.size + 1 + 1, i, none⟩ = false := by
 have e2 : Ext ((w.alloc (.cells c1 T1)).alloc (.cells c2 T2)) W := (Ext.alloc (Ext.refl _) _).trans h
 have e1 : Ext (w.alloc (.cells c1 T1)) W := (Ext.alloc (Ext.refl _) _).trans e2
 refine ⟨fun i v hv => e1.new_cell hv, fun i v hv => ?_, fun i v hv => ?_, fun i => ?_⟩
 ·have := e2.new_cell hv
  rwa [z02] at this
 ·have := h.new_cell hv
  rwa [z02, z02] at this
 ·have := h.new_free i
  rwa [z02, z02] at this
theorem Ext.drew {a w : World} (h : Ext a w) : Ext a w.drew := ⟨h.os, h.tape, h.output, h.size, h.block⟩
theorem zu7 {W : World} {a b c : Addr} {x y z : Value} (h1 : W.cell? a = some x) (h2 : W.cell? b = some y) (h3 : W.cell? c = some z) : W.drew.cell? a = some x ∧ W.drew.cell? b = some y ∧ W.drew.cell? c = some z :=
 ⟨by simpa using h1, by simpa using h2, by simpa using h3⟩
theorem z5w {w0 w1 w2 : World} {b : Nat} {v : Value} {r : RInt} {vm : Value} (hv : v = .agg #[.bool r.neg, vm]) (hu : U32s (New w1 w2) w2 vm r.mag) (h01 : Ext w0 w1) (h12 : Ext w1 w2) (hb0 : w0.heap.size ≤ b) (hb1 : b < w1.heap.size) (x y : Value) :
  IntV (New w0 ((w2.setCell ⟨b, 0, none⟩ x).setCell ⟨b, 1, none⟩ y)) ((w2.setCell ⟨b, 0, none⟩ x).setCell ⟨b, 1, none⟩ y) v r ∧ Ext w0 ((w2.setCell ⟨b, 0, none⟩ x).setCell ⟨b, 1, none⟩ y) := by
 refine ⟨⟨vm, hv, hu.to (Kept.set2 (fun h => ?_) _ _) (fun k hk => ⟨Nat.le_trans h01.size hk.1, ?_⟩)⟩, (h01.trans h12).set2 hb0 _ _⟩
 ·have := h.1
  omega
 ·rw [z4n]
  exact hk.2
theorem z77 {S : Nat → Prop} (b : Bool) (v : Value) (n : Nat) (w : World) (h : U32s S w v (rep B32 n)) (hS : ∀ k, S k → k < w.heap.size) (hr : (rep B32 n).length ≤ 50000000000000) :
  Calls Tryz.prog 135 #[.bool b, v] w fun e w' => ∃ v', e = .returned v' ∧ IntV (New w w') w' v' (ofI (sg b n)) ∧ Ext w w' := by
 have h1 := zk5 b v (rep B32 n) w h hS hr
 rwa [z1a z0a] at h1
theorem zh6 {a b k : Nat} (ha : (rep B32 a).length ≤ k) (hb : (rep B32 b).length ≤ k) : (rep B32 (a + b)).length ≤ k + 1 := by
 refine z0x z0a _ _ ?_
 have h1 := z19 z0a a
 have h2 := z19 z0a b
 have h3 : B32 ^ (rep B32 a).length ≤ B32 ^ k := Nat.pow_le_pow_right (by decide) ha
 have h4 : B32 ^ (rep B32 b).length ≤ B32 ^ k := Nat.pow_le_pow_right (by decide) hb
 rw [Nat.pow_succ]
 generalize B32 ^ k = P at *
 have : P * 2 ≤ P * B32 := Nat.mul_le_mul_left _ (by decide)
 omega
theorem z9s {a b : Nat} (h : a ≤ b) : (rep B32 a).length ≤ (rep B32 b).length := z0x z0a _ _ (Nat.lt_of_le_of_lt h (z19 z0a b))
theorem z4p {zs : List Nat} (h : ∀ z ∈ zs, z < B32) : (rep B32 (val B32 zs)).length ≤ zs.length := z0x z0a _ _ (z4l zs h)
theorem z8j {S : Nat → Prop} (vx vy : Value) (x y : RInt) (w : World) (hx : IntV S w vx x) (hy : IntV S w vy y) (hS : ∀ k, S k → k < w.heap.size) (hr : x.mag.length ≤ 40000000000000) (hr2 : y.mag.length ≤ 40000000000000) :
  Calls Tryz.prog 114 #[vx, vy] w fun e w' => ∃ v', e = .returned v' ∧ IntV (New w w') w' v' (ofI (valI x + valI y)) ∧ Ext w w' := by
 obtain ⟨xn, xs⟩ := x
 obtain ⟨yn, ys⟩ := y
 obtain ⟨vxm, rfl, hxu⟩ := hx
 obtain ⟨vym, rfl, hyu⟩ := hy
 simp only at hxu hyu hr hr2 ⊢
 have HX := hid hxu
 have HY := hid hyu
 obtain ⟨ax, cx, rfl⟩ := hxu.form
 obtain ⟨ay, cy, rfl⟩ := hyu.form
 clear hxu hyu
 have HK := hid (Ext.alloc (Ext.alloc (Ext.alloc (Ext.refl w) (.cells #[.bool xn, .slice ax xs.length cx] 72)) (.cells #[.bool yn, .slice ay ys.length cy] 72)) (.cells #[.bool false, .slice none 0 0] 72))
 have HXK := hid (HX.out.ext HK.out hS)
 have HYK := hid (HY.out.ext HK.out hS)
 have HSK := hid (z08 hS HK.out)
 have hsz : w.heap.size + 1 + 1 < (((w.alloc (.cells #[.bool xn, .slice ax xs.length cx] 72)).alloc (.cells #[.bool yn, .slice ay ys.length cy] 72)).alloc (.cells #[.bool false, .slice none 0 0] 72)).heap.size := by simp
 have HSZ := hid hsz
 clear hsz
 by_cases hxy : xn = yn
 ·have hb : (xn == yn) = true := by rw [beq_iff_eq]; exact hxy
  have HQ : Hid (valI ⟨xn, xs⟩ + valI ⟨yn, ys⟩ = sg xn (val B32 xs + val B32 ys)) := hid (by
   subst hxy
   unfold valI sg
   cases xn <;> (simp; try omega))
  subst hxy
  obtain ⟨b1, b2, b3, b4⟩ := blk3 (Ext.refl (((w.alloc (.cells #[.bool xn, .slice ax xs.length cx] 72)).alloc (.cells #[.bool xn, .slice ay ys.length cy] 72)).alloc (.cells #[.bool false, .slice none 0 0] 72)))
  have c1 := b1 0 _ rfl
  have c2 := b1 1 _ rfl
  have c3 := b2 1 _ rfl
  clear b1 b2 b3 b4
  have S0 := zu7 c1 c2 c3
  clear c1 c2 c3
  have HS0 := hid S0
  clear S0
  go_enter Tryz.func114, Tryz.ntmps114
  go_wp2
  have S0 := HS0.out
  have HL : Hid ((rep B32 (val B32 xs + val B32 ys)).length ≤ 50000000000000) := hid (Nat.le_trans (zh6 (k := 40000000000000) (Nat.le_trans (z4p HX.out.lt) hr) (Nat.le_trans (z4p HY.out.lt) hr2)) (by decide))
  go_region_held3 (fun W => W.cell? ⟨w.heap.size, 0, none⟩ = some (.bool xn) ∧ W.cell? ⟨w.heap.size, 1, none⟩ = some (.slice ax xs.length cx) ∧ W.cell? ⟨w.heap.size + 1, 1, none⟩ = some (.slice ay ys.length cy)) (first | exact S0 | exact S1 | exact S2 | exact ⟨z0b (z0b S2.1 (ab (by omega))) (ab (by omega)), z0b (z0b S2.2.1 (ab (by omega))) (ab (by omega)), z0b (z0b S2.2.2 (ab (by omega))) (ab (by omega))⟩)
   (first
    | (go_at_call 153; (with_reducible refine (zu6 _ _ xs ys _ (HX.out.ext (HK.out.drew) hS) (HY.out.ext (HK.out.drew) hS) (z08 hS (HK.out.drew)) (by omega) (by omega)).mono ?_); rintro e w1 ⟨v1, rfl, hu1, hx1⟩; have S1 := And.intro (hx1.cell S0.1) (And.intro (hx1.cell S0.2.1) (hx1.cell S0.2.2)); have HX1 := hid hx1; have HU1 := hid hu1; obtain ⟨a1, n1, rfl⟩ := hu1.form; clear hx1 hu1)
    | (go_at_call 135; (with_reducible refine (z77 xn _ _ _ HU1.out New.lt HL.out).mono ?_); rintro e w2 ⟨v2, rfl, ⟨vm2, rfl, hu2⟩, hx2⟩; have S2 := And.intro (hx2.cell S1.1) (And.intro (hx2.cell S1.2.1) (hx2.cell S1.2.2)); have HX2 := hid hx2; have HU2 := hid hu2; obtain ⟨a2, n2, rfl⟩ := hu2.form; obtain ⟨-, -, d3, d4⟩ := blk3 ((Ext.drew (Ext.refl _)).trans (HX1.out.trans hx2)); have e0 := d3 0 _ rfl; have e1 := d3 1 _ rfl; have HE := hid (And.intro e0 e1); have f0 := d4 0; have f1 := d4 1; clear d3 d4 hx2 hu2))
  go_wp2
  have hd := fun x y => z1o x y HE.out.1 HE.out.2
  refine bodyPost_ret (by simp [results, Tryz.results114, go_sem, (hd _ _).1, (hd _ _).2]; rfl) rfl ?_
  have hg := z5w (w0 := w) (b := w.heap.size + 1 + 1) rfl HU2.out (HK.out.drew.trans HX1.out) HX2.out (by omega) (Nat.lt_of_lt_of_le HSZ.out HX1.out.size) (.bool (ofI (sg xn (val B32 xs + val B32 ys))).neg) (.slice a2 (ofI (sg xn (val B32 xs + val B32 ys))).mag.length n2)
  rw [HQ.out]
  exact ⟨_, rfl, hg.1, hg.2⟩
 ·have hb : (xn == yn) = false := by rw [beq_eq_false_iff_ne]; exact hxy
  obtain ⟨b1, b2, b3, b4⟩ := blk3 (Ext.refl (((w.alloc (.cells #[.bool xn, .slice ax xs.length cx] 72)).alloc (.cells #[.bool yn, .slice ay ys.length cy] 72)).alloc (.cells #[.bool false, .slice none 0 0] 72)))
  have c1 := b1 0 _ rfl
  have c2 := b1 1 _ rfl
  have c3 := b2 1 _ rfl
  have c4 := b2 0 _ rfl
  clear b1 b2 b3 b4
  by_cases hge : val B32 ys ≤ val B32 xs
  ·have HQ : Hid (valI ⟨xn, xs⟩ + valI ⟨yn, ys⟩ = sg xn (val B32 xs - val B32 ys)) := hid (by
    unfold valI sg
    cases xn <;> cases yn <;> first | (exact absurd rfl hxy) | (simp; omega))
   have HGE := hid hge
   have HXY := hid hxy
   clear hge hxy
   go_enter Tryz.func114, Tryz.ntmps114
   go_wp2_with fail
   refine (zaz _ _ xs ys _ HXK.out HYK.out HSK.out (by omega) HGE.out).mono ?_
   rintro e w1 ⟨v1, rfl, hu1, hx1⟩
   obtain ⟨g1, g2, -, -⟩ := blk3 hx1
   have k1 := g1 0 _ rfl
   clear g1 g2
   have HXX := hid hx1
   have HU1 := hid hu1
   obtain ⟨a1, n1, rfl⟩ := hu1.form
   have HL : Hid ((rep B32 (val B32 xs - val B32 ys)).length ≤ 50000000000000) := hid (Nat.le_trans (Nat.le_trans (z9s (Nat.sub_le _ _)) (z4p HX.out.lt)) (by omega))
   clear hx1 hu1
   go_wp2_with fail
   refine (z77 xn _ _ _ HU1.out New.lt HL.out).mono ?_
   rintro e w2 ⟨v2, rfl, ⟨vm2, rfl, hu2⟩, hx2⟩
   have HX2 := hid hx2
   have HU2 := hid hu2
   obtain ⟨a2, n2, rfl⟩ := hu2.form
   obtain ⟨-, -, d3, d4⟩ := blk3 (HXX.out.trans hx2)
   have e0 := d3 0 _ rfl
   have e1 := d3 1 _ rfl
   have HE := hid (And.intro e0 e1)
   have f0 := d4 0
   have f1 := d4 1
   clear d3 d4 hx2 hu2
   go_wp2
   have hd := fun x y => z1o x y HE.out.1 HE.out.2
   refine bodyPost_ret (by simp [results, Tryz.results114, go_sem, (hd _ _).1, (hd _ _).2]; rfl) rfl ?_
   have hg := z5w (w0 := w) (b := w.heap.size + 1 + 1) rfl HU2.out (HK.out.trans HXX.out) HX2.out (by omega) (Nat.lt_of_lt_of_le HSZ.out HXX.out.size) (.bool (ofI (sg xn (val B32 xs - val B32 ys))).neg) (.slice a2 (ofI (sg xn (val B32 xs - val B32 ys))).mag.length n2)
   rw [HQ.out]
   exact ⟨_, rfl, hg.1, hg.2⟩
  ·have HQ : Hid (valI ⟨xn, xs⟩ + valI ⟨yn, ys⟩ = sg yn (val B32 ys - val B32 xs)) := hid (by
    unfold valI sg
    cases xn <;> cases yn <;> first | (exact absurd rfl hxy) | (simp; omega))
   have HGE := hid hge
   have HXY := hid hxy
   clear hge hxy
   go_enter Tryz.func114, Tryz.ntmps114
   go_wp2_with fail
   refine (zk4 _ _ xs ys _ HXK.out HYK.out HSK.out (by have := HGE.out; omega)).mono ?_
   rintro e w1 ⟨rfl, hx1⟩
   obtain ⟨g1, g2, -, -⟩ := blk3 hx1
   have k1 := g1 1 _ rfl
   have k2 := g2 1 _ rfl
   have k3 := g2 0 _ rfl
   clear g1 g2
   have HX1 := hid hx1
   clear hx1
   go_wp2_with fail
   refine (zaz _ _ ys xs _ (HY.out.ext (HK.out.trans HX1.out) hS) (HX.out.ext (HK.out.trans HX1.out) hS) (z08 hS (HK.out.trans HX1.out)) (by omega) (by have := HGE.out; omega)).mono ?_
   rintro e w1' ⟨v1, rfl, hu1, hx1⟩
   obtain ⟨g1, g2, -, -⟩ := blk3 (HX1.out.trans hx1)
   have k4 := g2 0 _ rfl
   clear g1 g2
   have HXX := hid (HX1.out.trans hx1)
   have HU1 := hid hu1
   obtain ⟨a1, n1, rfl⟩ := hu1.form
   have HL : Hid ((rep B32 (val B32 ys - val B32 xs)).length ≤ 50000000000000) := hid (Nat.le_trans (Nat.le_trans (z9s (Nat.sub_le _ _)) (z4p HY.out.lt)) (by omega))
   clear hx1 hu1
   go_wp2_with fail
   refine (z77 yn _ _ _ HU1.out New.lt HL.out).mono ?_
   rintro e w2 ⟨v2, rfl, ⟨vm2, rfl, hu2⟩, hx2⟩
   have HX2 := hid hx2
   have HU2 := hid hu2
   obtain ⟨a2, n2, rfl⟩ := hu2.form
   obtain ⟨-, -, d3, d4⟩ := blk3 (HXX.out.trans hx2)
   have e0 := d3 0 _ rfl
   have e1 := d3 1 _ rfl
   have HE := hid (And.intro e0 e1)
   have f0 := d4 0
   have f1 := d4 1
   clear d3 d4 hx2 hu2
   go_wp2
   have hd := fun x y => z1o x y HE.out.1 HE.out.2
   refine bodyPost_ret (by simp [results, Tryz.results114, go_sem, (hd _ _).1, (hd _ _).2]; rfl) rfl ?_
   have hg := z5w (w0 := w) (b := w.heap.size + 1 + 1) rfl HU2.out (HK.out.trans HXX.out) HX2.out (by omega) (Nat.lt_of_lt_of_le HSZ.out HXX.out.size) (.bool (ofI (sg yn (val B32 ys - val B32 xs))).neg) (.slice a2 (ofI (sg yn (val B32 ys - val B32 xs))).mag.length n2)
   rw [HQ.out]
   exact ⟨_, rfl, hg.1, hg.2⟩
end
section
open Go.RowKit
def tab8 : ByteArray := ⟨#[0, 1, 2, 2, 3, 3, 3, 3, 4, 4, 4, 4, 4, 4, 4, 4, 5, 5, 5, 5, 5, 5, 5, 5, 5, 5, 5, 5, 5, 5, 5, 5, 6, 6, 6, 6, 6, 6, 6, 6, 6, 6, 6, 6, 6, 6, 6, 6, 6, 6, 6, 6, 6, 6, 6, 6, 6, 6, 6, 6, 6, 6, 6, 6, 7, 7, 7, 7, 7, 7, 7, 7, 7, 7, 7, 7, 7, 7, 7, 7, 7, 7, 7, 7, 7, 7, 7, 7, 7, 7, 7, 7, 7, 7, 7, 7, 7, 7, 7, 7, 7, 7, 7, 7, 7, 7, 7, 7, 7, 7, 7, 7, 7, 7, 7, 7, 7, 7, 7, 7, 7, 7, 7, 7, 7, 7, 7, 7, 8, 8, 8, 8, 8, 8, 8, 8, 8, 8, 8, 8, 8, 8, 8, 8, 8, 8, 8, 8, 8, 8, 8, 8, 8, 8, 8, 8, 8, 8, 8, 8, 8, 8, 8, 8, 8, 8, 8, 8, 8, 8, 8, 8, 8, 8, 8, 8, 8, 8, 8, 8, 8, 8, 8, 8, 8, 8, 8, 8, 8, 8, 8, 8, 8, 8, 8, 8, 8, 8, 8, 8, 8, 8, 8, 8, 8, 8, 8, 8, 8, 8, 8, 8, 8, 8, 8, 8, 8, 8, 8, 8, 8, 8, 8, 8, 8, 8, 8, 8, 8, 8, 8, 8, 8, 8, 8, 8, 8, 8, 8, 8, 8, 8, 8, 8, 8, 8, 8, 8, 8, 8, 8, 8, 8, 8, 8, 8]⟩
theorem z8k : tab8.size = 256 := by decide +kernel
theorem zu8 : ∀ i : Fin 256, (tab8.get! i.val).toNat ≤ 8 ∧ (0 < i.val → 1 ≤ (tab8.get! i.val).toNat) := by decide +kernel
theorem zdw (x : Int) (h0 : 0 ≤ x) (h1 : x < 256) (h : x.toNat < tab8.size) : (tab8[x.toNat]'h).toNat ≤ 8 ∧ (0 < x → 1 ≤ (tab8[x.toNat]'h).toNat) := by
 have := zu8 ⟨x.toNat, by omega⟩
 have e : tab8.get! x.toNat = tab8[x.toNat]'h := by
  have h2 : x.toNat < tab8.data.size := h
  show tab8.data[x.toNat]! = tab8.data[x.toNat]'h2
  exact getElem!_pos _ _ _
 simp only [e] at this
 exact ⟨this.1, fun hx => this.2 (by omega)⟩
theorem zmf (x : Int) (w : World) (h0 : 0 ≤ x) (h1 : x < 4294967296) :
  Calls Tryz.prog 160 #[.int .u32 x] w fun e w' => ∃ n : Int, e = .returned (.int .i64 n) ∧ 0 ≤ n ∧ n ≤ 32 ∧ (0 < x → 0 < n) ∧ w = w' := by
 go_enter Tryz.func160, Tryz.ntmps160
 rcases (show 16777216 ≤ x ∨ 65536 ≤ x ∧ x < 16777216 ∨ 256 ≤ x ∧ x < 65536 ∨ x < 256 by omega) with h | ⟨h, h'⟩ | ⟨h, h'⟩ | h
 ·go_wp2
  go_ret
  simp only [Array.getD_eq_getD_getElem?, List.getElem?_toArray, List.getElem?_cons_succ, List.getElem?_cons_zero, Option.getD_some]
  generalize hv : UInt8.toNat _ = t
  have hb := zdw (x / 65536 / 256) (by omega) (by omega) (by rw [z8k]; omega)
  have hc : t ≤ 8 ∧ (0 < x / 65536 / 256 → 1 ≤ t) := hv ▸ hb
  obtain ⟨h3, h4⟩ := hc
  clear hb hv
  refine ⟨_, rfl, ?_, ?_, fun hx => ?_, trivial⟩ <;> (unfold wrap64; omega)
 ·go_wp2
  go_ret
  simp only [Array.getD_eq_getD_getElem?, List.getElem?_toArray, List.getElem?_cons_succ, List.getElem?_cons_zero, Option.getD_some]
  generalize hv : UInt8.toNat _ = t
  have hb := zdw (x / 65536) (by omega) (by omega) (by rw [z8k]; omega)
  have hc : t ≤ 8 ∧ (0 < x / 65536 → 1 ≤ t) := hv ▸ hb
  obtain ⟨h3, h4⟩ := hc
  clear hb hv
  refine ⟨_, rfl, ?_, ?_, fun hx => ?_, trivial⟩ <;> (unfold wrap64; omega)
 ·go_wp2
  go_ret
  simp only [Array.getD_eq_getD_getElem?, List.getElem?_toArray, List.getElem?_cons_succ, List.getElem?_cons_zero, Option.getD_some]
  generalize hv : UInt8.toNat _ = t
  have hb := zdw (x / 256) (by omega) (by omega) (by rw [z8k]; omega)
  have hc : t ≤ 8 ∧ (0 < x / 256 → 1 ≤ t) := hv ▸ hb
  obtain ⟨h3, h4⟩ := hc
  clear hb hv
  refine ⟨_, rfl, ?_, ?_, fun hx => ?_, trivial⟩ <;> (unfold wrap64; omega)
 ·go_wp2
  go_ret
  simp only [Array.getD_eq_getD_getElem?, List.getElem?_toArray, List.getElem?_cons_succ, List.getElem?_cons_zero, Option.getD_some]
  generalize hv : UInt8.toNat _ = t
  have hb := zdw (x) (by omega) (by omega) (by rw [z8k]; omega)
  have hc : t ≤ 8 ∧ (0 < x → 1 ≤ t) := hv ▸ hb
  obtain ⟨h3, h4⟩ := hc
  clear hb hv
  refine ⟨_, rfl, ?_, ?_, fun hx => ?_, trivial⟩ <;> (unfold wrap64; omega)
end
section
open Go.RowKit
theorem zqh {S : Nat → Prop} (v : Value) (zs : List Nat) (w : World) (h : U32s S w v zs) (hr : zs.length ≤ 50000000000000) :
  Calls Tryz.prog 130 #[v] w fun e w' => ∃ n : Int, e = .returned (.int .i64 n) ∧ 0 ≤ n ∧ n ≤ 9223372036854775807 ∧ (n = 0 ↔ val B32 zs = 0) ∧ w = w' := by
 have hle : (rep B32 (val B32 zs)).length ≤ zs.length := z0x z0a _ _ (z4l zs h.lt)
 have H := hid h
 obtain ⟨a, c, rfl⟩ := h.form
 clear h
 go_enter Tryz.func130, Tryz.ntmps130
 go_wp2_with fail
 refine (z3a _ zs _ H.out).mono ?_
 rintro e w' ⟨v', rfl, hu, rfl⟩
 generalize hn : val B32 zs = n at hu hle
 have HN := hid hn
 have HU := hid hu
 obtain ⟨a', c', rfl⟩ := hu.form
 clear hu hn
 by_cases h0 : n = 0
 ·have hl : (rep B32 n).length = 0 := by rw [h0]; rfl
  have hb : (((rep B32 n).length : Int) == 0) = true := by rw [beq_iff_eq]; omega
  have HZ := hid h0
  clear h0 hl
  go_wp2
  go_ret
  exact ⟨0, rfl, by omega, by omega, by rw [HN.out, HZ.out]; simp, rfl⟩
 ·have hl : 0 < (rep B32 n).length := by
   rw [List.length_pos_iff, Ne, z3h z0a]
   exact h0
  obtain ⟨z, hz⟩ := z00 (show (rep B32 n).length - 1 < (rep B32 n).length by omega)
  have hz0 : 0 < z := by
   have h1 := zi8 z0a n
   rw [List.getLast?_eq_getElem?, hz] at h1
   have : z ≠ 0 := fun e => h1 (by rw [e])
   omega
  obtain ⟨b, off, rfl, -, hn, hm, -, hzb, hc⟩ := HU.out.cellAt hz
  have hb : (((rep B32 n).length : Int) == 0) = false := by rw [beq_eq_false_iff_ne]; omega
  have HZ := hid h0
  clear h0 hz
  go_wp2_with fail
  refine (zmf (z : Nat) _ (by omega) (by omega)).mono ?_
  rintro e w' ⟨k, rfl, hk1, hk2, hk3, rfl⟩
  have hk := hk3 (by omega)
  clear hk3
  go_wp2
  go_ret
  refine ⟨32 * (((rep B32 n).length : Int) - 1) + k, rfl, by omega, by omega, ?_, rfl⟩
  rw [HN.out]
  have := HZ.out
  omega
theorem z25 {S : Nat → Prop} (v : Value) (r : RInt) (w : World) (h : IntV S w v r) (hS : ∀ k, S k → k < w.heap.size) (hr : r.mag.length ≤ 50000000000000) :
  Calls Tryz.prog 82 #[v] w fun e w' => e = .returned (.int .i64 (z2d (valI r))) ∧ Ext w w' := by
 obtain ⟨ng, zs⟩ := r
 obtain ⟨vm, rfl, hu⟩ := h
 simp only at hu hr ⊢
 have H := hid hu
 obtain ⟨a, c, rfl⟩ := hu.form
 clear hu
 have HE := hid (Ext.alloc (Ext.refl w) (.cells #[.bool ng, .slice a zs.length c] 72))
 go_enter Tryz.func82, Tryz.ntmps82
 go_wp2_with fail
 refine (zqh _ zs _ (H.out.to (Kept.ext HE.out hS) (fun _ h => h)) hr).mono ?_
 rintro e w' ⟨n, rfl, hn1, hn2, hn3, rfl⟩
 have HN := hid hn3
 clear hn3
 by_cases h0 : n = 0
 ·have hb : (n == 0) = true := by rw [beq_iff_eq]; exact h0
  have HZ := hid h0
  clear h0
  have HR : Hid (z2d (valI ⟨ng, zs⟩) = 0) := hid (by
   have := HN.out.1 HZ.out
   unfold z2d valI
   simp [this, cmpI])
  go_wp2
  go_ret
  exact ⟨by rw [HR.out]; rfl, HE.out⟩
 ·have hb : (n == 0) = false := by rw [beq_eq_false_iff_ne]; exact h0
  have HZ := hid h0
  clear h0
  have hv : val B32 zs ≠ 0 := fun e => HZ.out (HN.out.2 e)
  cases ng with
  | true =>
   have HR : Hid (z2d (valI ⟨true, zs⟩) = -1) := hid (by
    unfold z2d valI
    rw [z2m]
    simp
    omega)
   clear hv
   go_wp2
   go_ret
   exact ⟨by rw [HR.out]; rfl, HE.out⟩
  | false =>
   have HR : Hid (z2d (valI ⟨false, zs⟩) = 1) := hid (by
    unfold z2d valI
    rw [z3p]
    simp
    omega)
   clear hv
   go_wp2
   go_ret
   exact ⟨by rw [HR.out]; rfl, HE.out⟩
end
section
open Go.RowKit
attribute [local go_sem ↓] Go.wp_at_zero Go.wp_at_succ
theorem Pows.ext {S : Nat → Prop} {w W : World} {v : Value} {zs : Mono} (h : Pows S w v zs) (hx : Ext w W) (hS : ∀ k, S k → k < w.heap.size) : Pows S W v zs := h.to (Kept.ext hx hS) (fun _ h => h)
theorem z05.ext {S : Nat → Prop} {w W : World} {v : Value} {zs : List RTerm} (h : z05 S w v zs) (hx : Ext w W) (hS : ∀ k, S k → k < w.heap.size) : z05 S W v zs := h.to (Kept.ext hx hS) (fun _ h => h)
theorem z05.cellAt {S : Nat → Prop} {w : World} {ts : List RTerm} {a : Option Addr} {n cap k : Nat} {t : RTerm} (h : z05 S w (.slice a n cap) ts) (ht : ts[k]? = some t) :
  ∃ b off vm vo, a = some ⟨b, off, none⟩ ∧ n = ts.length ∧ n ≤ cap ∧ cap ≤ 9223372036854775807 ∧ S b ∧ w.cell? ⟨b, off + k * 3, none⟩ = some (.bool t.c.neg) ∧ w.cell? ⟨b, off + k * 3 + 1, none⟩ = some vm ∧ w.cell? ⟨b, off + k * 3 + 2, none⟩ = some vo ∧ U32s S w vm t.c.mag ∧ Pows S w vo t.m := by
 obtain ⟨b, off, ⟨a', cap', h1, h2, h3, h4, h5⟩, hc⟩ := h
 obtain ⟨rfl, rfl, rfl⟩ : a = a' ∧ n = ts.length ∧ cap = cap' := by simpa using h1
 have hp : 0 < ts.length := by have := z04 ht; omega
 obtain ⟨vm, vo, g1, g2, g3, g4, g5⟩ := hc k t ht
 exact ⟨b, off, vm, vo, h4 hp, rfl, h2, h3, h5 hp, g1, g2, g3, g4, g5⟩
theorem z05.len_le {S : Nat → Prop} {w : World} {v : Value} {zs : List RTerm} (h : z05 S w v zs) : zs.length ≤ 9223372036854775807 := by
 obtain ⟨b, off, ⟨a, cap, h1, h2, h3, _⟩, _⟩ := h
 unfold maxLen at h3
 omega
theorem z05.okT {S : Nat → Prop} {w : World} {v : Value} {zs : List RTerm} (h : z05 S w v zs) : okT zs := by
 obtain ⟨b, off, hs, hc⟩ := h
 intro t ht
 obtain ⟨j, hj⟩ := List.getElem?_of_mem ht
 obtain ⟨vm, vo, g1, g2, g3, g4, g5⟩ := hc j t hj
 exact g4.lt
theorem z21 {S : Nat → Prop} {w : World} {ng : Bool} {zs : List Nat} {vm : Value} (h : U32s S w vm zs) : IntV S w (.agg #[.bool ng, vm]) ⟨ng, zs⟩ := ⟨vm, rfl, h⟩
def z48 (ts : List RTerm) : Prop := ∀ t ∈ ts, t.c.mag.length ≤ 40000000000000
def befT (ts : List RTerm) : Nat → Option RTerm
 | 0 => none
 | k + 1 => ts[k]?
theorem z5k {ts : List RTerm} {k : Nat} {t : RTerm} (ht : ts[k]? = some t) : z45 (befT ts k) (ts.drop k) = (z1h t && (match befT ts k with | none => true | some u => decide (0 < z3f u.m t.m)) && z45 (befT ts (k + 1)) (ts.drop (k + 1))) := by
 rw [z5t ht]
 simp only [befT, ht]
 rfl
theorem zf2 {r : RInt} : z2d (valI r) = 0 ↔ val B32 r.mag = 0 := by
 unfold z2d valI
 rw [z8d]
 cases r.neg <;> simp
theorem z9t {t : RTerm} (h : z2d (valI t.c) = 0) : z1h t = false := by
 unfold z1h
 rw [zf2] at h
 simp [h]
theorem z7x {t : RTerm} (h : mayI t.c = false) : z1h t = false := by
 unfold z1h
 simp [h]
theorem z6i {t : RTerm} (h : mayM t.m = false) : z1h t = false := by
 unfold z1h
 simp [h]
theorem zb0 {t : RTerm} (h1 : z2d (valI t.c) ≠ 0) (h2 : mayI t.c = true) (h3 : mayM t.m = true) : z1h t = true := by
 unfold z1h
 rw [Ne, zf2] at h1
 simp [h1, h2, h3]
theorem z6j (a b : Mono) : -1 ≤ z3f a b ∧ z3f a b ≤ 1 := by
 unfold z3f
 split
 ·rename_i hmm
  simp only [Bool.and_eq_true] at hmm
  rcases z1c hmm.1 hmm.2 with h | h | h <;> omega
 ·omega
theorem z54 {S : Nat → Prop} (v : Value) (ts : List RTerm) (w : World) (h : z05 S w v ts) (hS : ∀ k, S k → k < w.heap.size) (hr : z48 ts) :
  Calls Tryz.prog 42 #[v] w fun e w' => e = .returned (.bool (mayT ts)) ∧ Ext w w' := by
 have hnot : ∀ (x : Bool) (w : World), (Op.unary .not (.bool x)).run Tryz.prog w = .ok (.bool (!x)) w := fun _ _ => rfl
 have hl := h.len_le
 have H := hid h
 have HRS := hid hr
 obtain ⟨a, cap, rfl⟩ := h.form
 clear h hr
 go_enter Tryz.func42, Tryz.ntmps42
 go_wp2
 go_loopw [7] (fun i wr => ∃ k : Nat, k ≤ ts.length ∧ i = .int .i64 k ∧ Ext w wr ∧ mayT ts = z45 (befT ts k) (ts.drop k)) (fun i _ => ts.length - (intOf i).toNat)
 case atStart => exact ⟨0, Nat.zero_le _, rfl, Ext.refl _, rfl⟩
 case round =>
  obtain ⟨k, hk, rfl, hx, hm⟩ := hrel
  by_cases hlt : k < ts.length
  ·obtain ⟨t, ht⟩ := z00 hlt
   obtain ⟨b, off, vm, vo, rfl, -, hn1, hm1, hSb, h1, h2, h3, h4, h5⟩ := H.out.cellAt ht
   have hat := z5k ht
   have hsm := HRS.out t (List.mem_of_getElem? ht)
   rw [hat] at hm
   have HM := hid hm
   have HT := hid ht
   obtain ⟨⟨ng, zs⟩, m⟩ := t
   simp only at h1 h2 h3 h4 h5 hsm
   have H4 := hid h4
   have H5 := hid h5
   obtain ⟨am, cm, rfl⟩ := h4.form
   obtain ⟨ao, co, rfl⟩ := h5.form
   have g1 := Ext.cell hx h1
   have g2 := Ext.cell hx h2
   have g3 := Ext.cell hx h3
   have X0 := hid (hx.alloc (.cells #[.bool ng, .slice am zs.length cm, .slice ao m.length co] 83))
   have L0 := fun X : Later (wr.alloc (.cells #[.bool ng, .slice am zs.length cm, .slice ao m.length co] 83)) => X.h.new_cell (i := 0) (v := .bool ng) rfl
   have L1 := fun X : Later (wr.alloc (.cells #[.bool ng, .slice am zs.length cm, .slice ao m.length co] 83)) => X.h.new_cell (i := 1) (v := .slice am zs.length cm) rfl
   have L2 := fun X : Later (wr.alloc (.cells #[.bool ng, .slice am zs.length cm, .slice ao m.length co] 83)) => X.h.new_cell (i := 2) (v := .slice ao m.length co) rfl
   have HX := hid hx
   have HSM := hid hsm
   clear hm ht h1 h2 h3 h4 h5 hx hat hsm
   cases k with
   | zero =>
    simp only [Nat.zero_mul, Nat.add_zero] at g1 g2 g3
    obtain ⟨sgn, hs⟩ : ∃ s, z2d (valI ⟨ng, zs⟩) = s := ⟨_, rfl⟩
    by_cases hc0 : sgn = 0
    ·subst hc0
     have CS := fun (W : World) (h : IntV S W (.agg #[.bool ng, .slice am zs.length cm]) ⟨ng, zs⟩) hs => z25 (S := S) _ _ W h hs (Nat.le_trans HSM.out (by decide))
     simp only [hs] at CS
     have HCS := hid CS
     clear CS
     have HF : Hid (mayT ts = false) := hid (by rw [HM.out, z9t hs]; rfl)
     clear hs
     go_wp2
     refine z03 (by kernel_rfl) (by kernel_rfl) ?_
     repeat (go_big_quiet_step (first | (go_at_call 82; exact Later.done (HCS.out _ (z21 (H4.out.ext (X0.out.trans (Later.h _)) hS)) (z08 hS (X0.out.trans (Later.h _)))))))
     refine wpQuiet_nil ?_
     intro W hW
     have HW := hid (X0.out.trans hW)
     clear hW
     go_wp2
     all_goals
      go_ret
      exact ⟨by rw [HF.out]; rfl, HW.out⟩
    ·have hb0 : (sgn == 0) = false := by rw [beq_eq_false_iff_ne]; exact hc0
     have hsr : -1 ≤ sgn ∧ sgn ≤ 1 := by rw [← hs]; unfold z2d; rcases z4h (valI ⟨ng, zs⟩) 0 with h | h | h <;> omega
     obtain ⟨hsr1, hsr2⟩ := hsr
     cases hi : mayI ⟨ng, zs⟩ with
     | false =>
      have CS := fun (W : World) (h : IntV S W (.agg #[.bool ng, .slice am zs.length cm]) ⟨ng, zs⟩) hs => z25 (S := S) _ _ W h hs (Nat.le_trans HSM.out (by decide))
      simp only [hs] at CS
      have HCS := hid CS
      clear CS
      have CM := fun (W : World) (h : IntV S W (.agg #[.bool ng, .slice am zs.length cm]) ⟨ng, zs⟩) hs => z4o (S := S) _ _ W h hs
      simp only [hi] at CM
      have HCM := hid CM
      clear CM
      have HF : Hid (mayT ts = false) := hid (by rw [HM.out, z7x hi]; rfl)
      clear hs
      clear hi
      go_wp2
      refine z03 (by kernel_rfl) (by kernel_rfl) ?_
      repeat (go_big_quiet_step (first | (go_at_call 82; exact Later.done (HCS.out _ (z21 (H4.out.ext (X0.out.trans (Later.h _)) hS)) (z08 hS (X0.out.trans (Later.h _))))) | (go_at_call 83; exact Later.done (HCM.out _ (z21 (H4.out.ext (X0.out.trans (Later.h _)) hS)) (z08 hS (X0.out.trans (Later.h _)))))))
      refine wpQuiet_nil ?_
      intro W hW
      have HW := hid (X0.out.trans hW)
      clear hW
      go_wp2
      all_goals
       go_ret
       exact ⟨by rw [HF.out]; rfl, HW.out⟩
     | true =>
      cases hq : mayM m with
      | false =>
       have CS := fun (W : World) (h : IntV S W (.agg #[.bool ng, .slice am zs.length cm]) ⟨ng, zs⟩) hs => z25 (S := S) _ _ W h hs (Nat.le_trans HSM.out (by decide))
       simp only [hs] at CS
       have HCS := hid CS
       clear CS
       have CM := fun (W : World) (h : IntV S W (.agg #[.bool ng, .slice am zs.length cm]) ⟨ng, zs⟩) hs => z4o (S := S) _ _ W h hs
       simp only [hi] at CM
       have HCM := hid CM
       clear CM
       have CQ := fun (W : World) (h : Pows S W (.slice ao m.length co) m) hs => z2s (S := S) _ _ W h hs
       simp only [hq] at CQ
       have HCQ := hid CQ
       clear CQ
       have HF : Hid (mayT ts = false) := hid (by rw [HM.out, z6i hq]; rfl)
       clear hs
       clear hi
       clear hq
       go_wp2
       refine z03 (by kernel_rfl) (by kernel_rfl) ?_
       repeat (go_big_quiet_step (first | (go_at_call 82; exact Later.done (HCS.out _ (z21 (H4.out.ext (X0.out.trans (Later.h _)) hS)) (z08 hS (X0.out.trans (Later.h _))))) | (go_at_call 83; exact Later.done (HCM.out _ (z21 (H4.out.ext (X0.out.trans (Later.h _)) hS)) (z08 hS (X0.out.trans (Later.h _))))) | (go_at_call 84; exact Later.done (HCQ.out _ (H5.out.ext (X0.out.trans (Later.h _)) hS) (z08 hS (X0.out.trans (Later.h _)))))))
       refine wpQuiet_nil ?_
       intro W hW
       have HW := hid (X0.out.trans hW)
       clear hW
       go_wp2
       all_goals
        go_ret
        exact ⟨by rw [HF.out]; rfl, HW.out⟩
      | true =>
       have CS := fun (W : World) (h : IntV S W (.agg #[.bool ng, .slice am zs.length cm]) ⟨ng, zs⟩) hs => z25 (S := S) _ _ W h hs (Nat.le_trans HSM.out (by decide))
       simp only [hs] at CS
       have HCS := hid CS
       clear CS
       have CM := fun (W : World) (h : IntV S W (.agg #[.bool ng, .slice am zs.length cm]) ⟨ng, zs⟩) hs => z4o (S := S) _ _ W h hs
       simp only [hi] at CM
       have HCM := hid CM
       clear CM
       have CQ := fun (W : World) (h : Pows S W (.slice ao m.length co) m) hs => z2s (S := S) _ _ W h hs
       simp only [hq] at CQ
       have HCQ := hid CQ
       clear CQ
       have HF : Hid (mayT ts = z45 (befT ts (0 + 1)) (ts.drop (0 + 1))) := hid (by rw [HM.out, zb0 (by rw [hs]; exact hc0) hi hq]; rfl)
       clear hs
       clear hi
       clear hq
       go_wp2
       refine z03 (by kernel_rfl) (by kernel_rfl) ?_
       repeat (go_big_quiet_step (first | (go_at_call 82; exact Later.done (HCS.out _ (z21 (H4.out.ext (X0.out.trans (Later.h _)) hS)) (z08 hS (X0.out.trans (Later.h _))))) | (go_at_call 83; exact Later.done (HCM.out _ (z21 (H4.out.ext (X0.out.trans (Later.h _)) hS)) (z08 hS (X0.out.trans (Later.h _))))) | (go_at_call 84; exact Later.done (HCQ.out _ (H5.out.ext (X0.out.trans (Later.h _)) hS) (z08 hS (X0.out.trans (Later.h _)))))))
       refine wpQuiet_nil ?_
       intro W hW
       have HW := hid (X0.out.trans hW)
       clear hW
       go_wp2
       go_roundw
       case rel => exact ⟨_, by omega, by go_num, HW.out, HF.out⟩
       case measure => simp only [intOf]; omega
   | succ k =>
    obtain ⟨u, hu⟩ := z00 (show k < ts.length by omega)
    obtain ⟨b', off', vmu, vou, hbb, -, -, -, -, u1, u2, u3, u4, u5⟩ := H.out.cellAt hu
    obtain ⟨rfl, rfl⟩ : b = b' ∧ off = off' := by simpa using hbb
    have HP5 := hid u5
    obtain ⟨ap, cp, rfl⟩ := u5.form
    have HBF : Hid (befT ts (k + 1) = some u) := hid hu
    have L3 := fun X : Later (wr.alloc (.cells #[.bool ng, .slice am zs.length cm, .slice ao m.length co] 83)) => X.cell (X0.out.cell u3)
    have hq0 : ((k : Nat) : Int) + 1 - 1 = (k : Int) := by omega
    clear u1 u2 u3 u4 u5 hu hbb
    obtain ⟨sgn, hs⟩ : ∃ s, z2d (valI ⟨ng, zs⟩) = s := ⟨_, rfl⟩
    by_cases hc0 : sgn = 0
    ·subst hc0
     have CS := fun (W : World) (h : IntV S W (.agg #[.bool ng, .slice am zs.length cm]) ⟨ng, zs⟩) hs => z25 (S := S) _ _ W h hs (Nat.le_trans HSM.out (by decide))
     simp only [hs] at CS
     have HCS := hid CS
     clear CS
     have HF : Hid (mayT ts = false) := hid (by rw [HM.out, z9t hs]; rfl)
     clear hs
     go_wp2
     refine z03 (by kernel_rfl) (by kernel_rfl) ?_
     repeat (go_big_quiet_step (first | (go_at_call 82; exact Later.done (HCS.out _ (z21 (H4.out.ext (X0.out.trans (Later.h _)) hS)) (z08 hS (X0.out.trans (Later.h _)))))))
     refine wpQuiet_nil ?_
     intro W hW
     have HW := hid (X0.out.trans hW)
     clear hW
     go_wp2
     all_goals
      go_ret
      exact ⟨by rw [HF.out]; rfl, HW.out⟩
    ·have hb0 : (sgn == 0) = false := by rw [beq_eq_false_iff_ne]; exact hc0
     have hsr : -1 ≤ sgn ∧ sgn ≤ 1 := by rw [← hs]; unfold z2d; rcases z4h (valI ⟨ng, zs⟩) 0 with h | h | h <;> omega
     obtain ⟨hsr1, hsr2⟩ := hsr
     cases hi : mayI ⟨ng, zs⟩ with
     | false =>
      have CS := fun (W : World) (h : IntV S W (.agg #[.bool ng, .slice am zs.length cm]) ⟨ng, zs⟩) hs => z25 (S := S) _ _ W h hs (Nat.le_trans HSM.out (by decide))
      simp only [hs] at CS
      have HCS := hid CS
      clear CS
      have CM := fun (W : World) (h : IntV S W (.agg #[.bool ng, .slice am zs.length cm]) ⟨ng, zs⟩) hs => z4o (S := S) _ _ W h hs
      simp only [hi] at CM
      have HCM := hid CM
      clear CM
      have HF : Hid (mayT ts = false) := hid (by rw [HM.out, z7x hi]; rfl)
      clear hs
      clear hi
      go_wp2
      refine z03 (by kernel_rfl) (by kernel_rfl) ?_
      repeat (go_big_quiet_step (first | (go_at_call 82; exact Later.done (HCS.out _ (z21 (H4.out.ext (X0.out.trans (Later.h _)) hS)) (z08 hS (X0.out.trans (Later.h _))))) | (go_at_call 83; exact Later.done (HCM.out _ (z21 (H4.out.ext (X0.out.trans (Later.h _)) hS)) (z08 hS (X0.out.trans (Later.h _)))))))
      refine wpQuiet_nil ?_
      intro W hW
      have HW := hid (X0.out.trans hW)
      clear hW
      go_wp2
      all_goals
       go_ret
       exact ⟨by rw [HF.out]; rfl, HW.out⟩
     | true =>
      cases hq : mayM m with
      | false =>
       have CS := fun (W : World) (h : IntV S W (.agg #[.bool ng, .slice am zs.length cm]) ⟨ng, zs⟩) hs => z25 (S := S) _ _ W h hs (Nat.le_trans HSM.out (by decide))
       simp only [hs] at CS
       have HCS := hid CS
       clear CS
       have CM := fun (W : World) (h : IntV S W (.agg #[.bool ng, .slice am zs.length cm]) ⟨ng, zs⟩) hs => z4o (S := S) _ _ W h hs
       simp only [hi] at CM
       have HCM := hid CM
       clear CM
       have CQ := fun (W : World) (h : Pows S W (.slice ao m.length co) m) hs => z2s (S := S) _ _ W h hs
       simp only [hq] at CQ
       have HCQ := hid CQ
       clear CQ
       have HF : Hid (mayT ts = false) := hid (by rw [HM.out, z6i hq]; rfl)
       clear hs
       clear hi
       clear hq
       go_wp2
       refine z03 (by kernel_rfl) (by kernel_rfl) ?_
       repeat (go_big_quiet_step (first | (go_at_call 82; exact Later.done (HCS.out _ (z21 (H4.out.ext (X0.out.trans (Later.h _)) hS)) (z08 hS (X0.out.trans (Later.h _))))) | (go_at_call 83; exact Later.done (HCM.out _ (z21 (H4.out.ext (X0.out.trans (Later.h _)) hS)) (z08 hS (X0.out.trans (Later.h _))))) | (go_at_call 84; exact Later.done (HCQ.out _ (H5.out.ext (X0.out.trans (Later.h _)) hS) (z08 hS (X0.out.trans (Later.h _)))))))
       refine wpQuiet_nil ?_
       intro W hW
       have HW := hid (X0.out.trans hW)
       clear hW
       go_wp2
       all_goals
        go_ret
        exact ⟨by rw [HF.out]; rfl, HW.out⟩
      | true =>
       obtain ⟨od, ho⟩ : ∃ s, z3f u.m m = s := ⟨_, rfl⟩
       have hor : -1 ≤ od ∧ od ≤ 1 := by rw [← ho]; exact z6j _ _
       obtain ⟨hor1, hor2⟩ := hor
       by_cases hc1 : od ≤ 0
       ·have hb1 : decide (od ≤ 0) = true := by simpa using hc1
        have CS := fun (W : World) (h : IntV S W (.agg #[.bool ng, .slice am zs.length cm]) ⟨ng, zs⟩) hs => z25 (S := S) _ _ W h hs (Nat.le_trans HSM.out (by decide))
        simp only [hs] at CS
        have HCS := hid CS
        clear CS
        have CM := fun (W : World) (h : IntV S W (.agg #[.bool ng, .slice am zs.length cm]) ⟨ng, zs⟩) hs => z4o (S := S) _ _ W h hs
        simp only [hi] at CM
        have HCM := hid CM
        clear CM
        have CQ := fun (W : World) (h : Pows S W (.slice ao m.length co) m) hs => z2s (S := S) _ _ W h hs
        simp only [hq] at CQ
        have HCQ := hid CQ
        clear CQ
        have CO := fun (W : World) (h1 : Pows S W (.slice ap u.m.length cp) u.m) (h2 : Pows S W (.slice ao m.length co) m) hs => z72 (S := S) _ _ _ _ W h1 h2 hs
        simp only [ho] at CO
        have HCO := hid CO
        clear CO
        have HF : Hid (mayT ts = false) := hid (by rw [HM.out, HBF.out]; simp only; rw [ho, decide_eq_false (by omega)]; simp)
        clear hs
        clear hi
        clear hq
        clear ho
        go_wp2
        refine z03 (by kernel_rfl) (by kernel_rfl) ?_
        repeat (go_big_quiet_step (first | (go_at_call 82; exact Later.done (HCS.out _ (z21 (H4.out.ext (X0.out.trans (Later.h _)) hS)) (z08 hS (X0.out.trans (Later.h _))))) | (go_at_call 83; exact Later.done (HCM.out _ (z21 (H4.out.ext (X0.out.trans (Later.h _)) hS)) (z08 hS (X0.out.trans (Later.h _))))) | (go_at_call 84; exact Later.done (HCQ.out _ (H5.out.ext (X0.out.trans (Later.h _)) hS) (z08 hS (X0.out.trans (Later.h _))))) | (go_at_call 85; exact Later.done (HCO.out _ (HP5.out.ext (X0.out.trans (Later.h _)) hS) (H5.out.ext (X0.out.trans (Later.h _)) hS) (z08 hS (X0.out.trans (Later.h _)))))))
        refine wpQuiet_nil ?_
        intro W hW
        have HW := hid (X0.out.trans hW)
        clear hW
        go_wp2
        all_goals
         go_ret
         exact ⟨by rw [HF.out]; rfl, HW.out⟩
       ·have hb1 : decide (od ≤ 0) = false := by simpa using hc1
        have CS := fun (W : World) (h : IntV S W (.agg #[.bool ng, .slice am zs.length cm]) ⟨ng, zs⟩) hs => z25 (S := S) _ _ W h hs (Nat.le_trans HSM.out (by decide))
        simp only [hs] at CS
        have HCS := hid CS
        clear CS
        have CM := fun (W : World) (h : IntV S W (.agg #[.bool ng, .slice am zs.length cm]) ⟨ng, zs⟩) hs => z4o (S := S) _ _ W h hs
        simp only [hi] at CM
        have HCM := hid CM
        clear CM
        have CQ := fun (W : World) (h : Pows S W (.slice ao m.length co) m) hs => z2s (S := S) _ _ W h hs
        simp only [hq] at CQ
        have HCQ := hid CQ
        clear CQ
        have CO := fun (W : World) (h1 : Pows S W (.slice ap u.m.length cp) u.m) (h2 : Pows S W (.slice ao m.length co) m) hs => z72 (S := S) _ _ _ _ W h1 h2 hs
        simp only [ho] at CO
        have HCO := hid CO
        clear CO
        have HF : Hid (mayT ts = z45 (befT ts (k + 1 + 1)) (ts.drop (k + 1 + 1))) := hid (by rw [HM.out, HBF.out, zb0 (by rw [hs]; exact hc0) hi hq]; simp only; rw [ho, decide_eq_true (by omega)]; simp)
        clear hs
        clear hi
        clear hq
        clear ho
        go_wp2
        refine z03 (by kernel_rfl) (by kernel_rfl) ?_
        repeat (go_big_quiet_step (first | (go_at_call 82; exact Later.done (HCS.out _ (z21 (H4.out.ext (X0.out.trans (Later.h _)) hS)) (z08 hS (X0.out.trans (Later.h _))))) | (go_at_call 83; exact Later.done (HCM.out _ (z21 (H4.out.ext (X0.out.trans (Later.h _)) hS)) (z08 hS (X0.out.trans (Later.h _))))) | (go_at_call 84; exact Later.done (HCQ.out _ (H5.out.ext (X0.out.trans (Later.h _)) hS) (z08 hS (X0.out.trans (Later.h _))))) | (go_at_call 85; exact Later.done (HCO.out _ (HP5.out.ext (X0.out.trans (Later.h _)) hS) (H5.out.ext (X0.out.trans (Later.h _)) hS) (z08 hS (X0.out.trans (Later.h _)))))))
        refine wpQuiet_nil ?_
        intro W hW
        have HW := hid (X0.out.trans hW)
        clear hW
        go_wp2
        go_roundw
        case rel => exact ⟨_, by omega, by go_num, HW.out, HF.out⟩
        case measure => simp only [intOf]; omega
  ·obtain rfl : k = ts.length := by omega
   have HX := hid hx
   have HF : Hid (mayT ts = true) := hid (by rw [hm, List.drop_length]; rfl)
   clear hx hm
   go_wp2
   all_goals
    go_ret
    exact ⟨by rw [HF.out]; rfl, HX.out⟩
end
section
open Go.RowKit
section
variable {P : Program}
def zci (w : World) (A : Option Addr) (m size : Nat) (news : List Value) : Prop :=
 news.length = m * size ∧ (∀ u ∈ news, u.oneCell' = true) ∧ (0 < m → ∃ ad, A = some ad ∧ ∀ j u, news[j]? = some u → w.cell? (ad.add j) = some u)
theorem zcj (w : World) {base : Nat} {t e ty : TypeId} {i : TypeInfo} {size : Nat} (ht : P.underlying t = some (.slice e)) (hi : P.info? e = some i)
  {v : Value} {n : Nat} {xs : List Value} (h : w.ownsRow base e size v n xs) (c : Nat) : (Builtin.append_ #[t, t] ty #[v, .slice none 0 c]).run P w = .ok v w := by
 obtain ⟨_, ⟨rfl, rfl⟩ | ⟨g, k, row, rfl, _, _, hk, _⟩⟩ := h
 all_goals simp [Builtin.append_, run_underlying ht, sizeOf, typeInfo, Builtin.lenOf, Builtin.firstCells, storeCells, *]
theorem z5b (w : World) (base : Nat) (t ty e : TypeId) (i : TypeInfo) (z : Value) (size bytes : Nat) (ht : P.underlying t = some (.slice e)) (hi : P.info? e = some i) (hz : i.zero = some z)
  (hsize : i.size = size) (hby : i.bytes = bytes) (hzs : z.cells.size = size) (hsz : 0 < size)
  (v : Value) (n : Nat) (xs : List Value) (hown : w.ownsRow base e size v n xs)
  (A : Option Addr) (m c : Nat) (news : List Value) (hsrc : zci w A m size news) (h63 : n + m ≤ maxLen) (hbytes : (n + m) * bytes ≤ 140737488355328) (hbase : base ≤ w.heap.size) :
  ∃ v' w', (Builtin.append_ #[t, t] ty #[v, .slice A m c]).run P w = .ok v' w' ∧ w'.ownsRow base e size v' (n + m) (xs ++ news) ∧ w.grownBy w' v.ownBlock ∧ (v'.ownBlock = v.ownBlock ∨ v'.ownBlock = some w.heap.size) := by
 obtain ⟨hl, h1, hat⟩ := hsrc
 cases A with
 | some ad =>
  obtain ⟨v', w', k1, k2, k3, _, k5⟩ := run_append_own_at (P := P) w base t ty e i z size bytes ht hi hz hsize hby hzs hsz v n xs hown ad m c news hl (fun j u hu => by
   have hm : 0 < m := by
    rcases Nat.eq_zero_or_pos m with rfl | h0
    ·have := z04 hu; omega
    ·exact h0
   obtain ⟨ad', e, hc⟩ := hat hm
   cases e
   exact hc j u hu) h1 h63 hbytes hbase
  exact ⟨v', w', k1, k2, k3, k5⟩
 | none =>
  obtain rfl : m = 0 := by
   rcases Nat.eq_zero_or_pos m with h0 | h0
   ·exact h0
   ·obtain ⟨ad', e, _⟩ := hat h0
    cases e
  obtain rfl : news = [] := List.length_eq_zero_iff.1 (by omega)
  exact ⟨v, w, zcj w ht hi hown c, by simpa using hown, ⟨rfl, rfl, rfl, Nat.le_refl _, fun _ _ _ => rfl⟩, .inl rfl⟩
theorem z0v (w : World) {ops : Array Oper} {rest : List Oper} {o : Oper} {a : Act} {Q : Exit → Act → World → Prop} (hgd : o.guard = none) (s x : Operand) (t : TypeId)
  (ho : o.op = .call { callee := .builtin .append, args := #[s, x], argTypes := #[t, t] })
  (base : Nat) (e : TypeId) (i : TypeInfo) (z : Value) (size bytes : Nat) (ht : P.underlying t = some (.slice e)) (hi : P.info? e = some i) (hz : i.zero = some z)
  (hsize : i.size = size) (hby : i.bytes = bytes) (hzs : z.cells.size = size) (hsz : 0 < size)
  (v : Value) (n : Nat) (xs : List Value) (hs : a.eval s = v) (hown : w.ownsRow base e size v n xs)
  (A : Option Addr) (m c : Nat) (news : List Value) (hx : a.eval x = .slice A m c) (hsrc : zci w A m size news)
  (h63 : n + m ≤ maxLen) (hbytes : (n + m) * bytes ≤ 140737488355328) (hbase : base ≤ w.heap.size)
  (h : ∀ v' w', w'.ownsRow base e size v' (n + m) (xs ++ news) → w.grownBy w' v.ownBlock → (v'.ownBlock = v.ownBlock ∨ v'.ownBlock = some w.heap.size) → wpList P ops Q rest (a.put o.dst v') w') : wpList P ops Q (o :: rest) a w := by
 obtain ⟨v', w', hrun, h2, h3, h4⟩ := z5b (P := P) w base t o.type e i z size bytes ht hi hz hsize hby hzs hsz v n xs hown A m c news hsrc h63 hbytes hbase
 refine wpList_plain hgd fun K hK => ?_
 unfold Oper.wp execOp
 simp only [ho, resolve, invoke, builtin, Sem.run_bind, Sem.run_pure, Result.andThen_ok, List.map_toArray, List.map_cons, List.map_nil, hs, hx, hrun]
 exact hK _ _ (h v' w' h2 h3 h4)
theorem z0h (W : World) {ops : Array Oper} {rest : List Oper} {o : Oper} {a : Act} {Q : Exit → Act → World → Prop} (hgd : o.guard = none) (s x : Operand) (t : TypeId)
  (ho : o.op = .call { callee := .builtin .append, args := #[s, x], argTypes := #[t, t] })
  (base : Nat) (e : TypeId) (z : Value) (size bytes : Nat) (ht : P.underlying t = some (.slice e)) (hinfo : (P.info? e).map (fun i => (i.zero, i.size, i.bytes)) = some (some z, size, bytes)) (hzs : z.cells.size = size) (hsz : 0 < size)
  (v : Value) (n : Nat) (xs : List Value) (hs : a.eval s = v) (hown : W.ownsRow base e size v n xs)
  (cs : Array Value) (hcs : cs.size = size) (h1 : ∀ u ∈ cs.toList, u.oneCell' = true) (hx : a.eval x = .slice (some ⟨W.heap.size, 0, none⟩) 1 1)
  (hn : n ≤ 1000000000) (hbytes : bytes ≤ 10000) (hbase : base ≤ W.heap.size)
  (h : ∀ v' w', w'.ownsRow base e size v' (n + 1) (xs ++ cs.toList) → W.grownBy w' v.ownBlock → (v'.ownBlock = v.ownBlock ∨ v'.ownBlock = some (W.heap.size + 1)) → wpList P ops Q rest (a.put o.dst v') w') : wpList P ops Q (o :: rest) a (W.alloc (.cells cs e)) := by
 obtain ⟨i, hi, hz0, hz1, hz2⟩ := info_parts hinfo
 have hg0 := World.grownBy_alloc W (.cells cs e) v.ownBlock
 refine z0v _ hgd s x t ho base e i z size bytes ht hi hz0 hz1 hz2 hzs hsz v n xs hs (hown.alloc _) _ 1 1 cs.toList hx ⟨by simpa using hcs, h1, fun _ => ⟨_, rfl, fun j u hu => ?_⟩⟩ (by unfold maxLen; omega) ?_ (Nat.le_trans hbase hg0.size) (fun v' w' k1 k2 k3 => h v' w' k1 ?_ ?_)
 ·rw [show (⟨W.heap.size, 0, none⟩ : Addr).add j = ⟨W.heap.size, j, none⟩ by unfold Addr.add; split <;> simp_all]
  exact z01 W cs e rfl (by simpa using hu)
 ·have : (n + 1) * bytes ≤ 1000000001 * 10000 := Nat.mul_le_mul (by omega) hbytes
  omega
 ·exact ⟨k2.os.trans hg0.os, k2.tape.trans hg0.tape, k2.output.trans hg0.output, Nat.le_trans hg0.size k2.size, fun k hk hne => (k2.block k (Nat.lt_of_lt_of_le hk hg0.size) hne).trans (hg0.block k hk hne)⟩
 ·rw [z02] at k3
  exact k3
theorem z1q (W : World) {ops : Array Oper} {rest : List Oper} {o : Oper} {a : Act} {Q : Exit → Act → World → Prop} (hgd : o.guard = none) (s x : Operand) (t : TypeId)
  (ho : o.op = .call { callee := .builtin .append, args := #[s, x], argTypes := #[t, t] })
  (base : Nat) (e : TypeId) (z : Value) (size bytes : Nat) (ht : P.underlying t = some (.slice e)) (hinfo : (P.info? e).map (fun i => (i.zero, i.size, i.bytes)) = some (some z, size, bytes)) (hzs : z.cells.size = size) (hsz : 0 < size)
  (v : Value) (n : Nat) (xs : List Value) (hs : a.eval s = v) (hown : W.ownsRow base e size v n xs)
  (cs : Array Value) (hcs : cs.size = size) (h1 : ∀ u ∈ cs.toList, u.oneCell' = true) (hx : a.eval x = .slice (some ⟨W.heap.size, 0, none⟩) 1 1)
  (hn : n ≤ 1000000000000) (hbytes : bytes ≤ 100) (hbase : base ≤ W.heap.size)
  (h : ∀ v' w', w'.ownsRow base e size v' (n + 1) (xs ++ cs.toList) → W.grownBy w' v.ownBlock → (v'.ownBlock = v.ownBlock ∨ v'.ownBlock = some (W.heap.size + 1)) → wpList P ops Q rest (a.put o.dst v') w') : wpList P ops Q (o :: rest) a (W.alloc (.cells cs e)) := by
 obtain ⟨i, hi, hz0, hz1, hz2⟩ := info_parts hinfo
 have hg0 := World.grownBy_alloc W (.cells cs e) v.ownBlock
 refine z0v _ hgd s x t ho base e i z size bytes ht hi hz0 hz1 hz2 hzs hsz v n xs hs (hown.alloc _) _ 1 1 cs.toList hx ⟨by simpa using hcs, h1, fun _ => ⟨_, rfl, fun j u hu => ?_⟩⟩ (by unfold maxLen; omega) ?_ (Nat.le_trans hbase hg0.size) (fun v' w' k1 k2 k3 => h v' w' k1 ?_ ?_)
 ·rw [show (⟨W.heap.size, 0, none⟩ : Addr).add j = ⟨W.heap.size, j, none⟩ by unfold Addr.add; split <;> simp_all]
  exact z01 W cs e rfl (by simpa using hu)
 ·have : (n + 1) * bytes ≤ 1000000000001 * 100 := Nat.mul_le_mul (by omega) hbytes
  omega
 ·exact ⟨k2.os.trans hg0.os, k2.tape.trans hg0.tape, k2.output.trans hg0.output, Nat.le_trans hg0.size k2.size, fun k hk hne => (k2.block k (Nat.lt_of_lt_of_le hk hg0.size) hne).trans (hg0.block k hk hne)⟩
 ·rw [z02] at k3
  exact k3
end
theorem z7y (b off j : Nat) : (⟨b, off, none⟩ : Addr).add j = ⟨b, off + j, none⟩ := by
 unfold Addr.add
 split
 ·rename_i h
  subst h
  rfl
 ·rfl
theorem zmg (m : Mono) : ∀ u ∈ z44 m, u.oneCell' = true := by
 intro u hu
 obtain ⟨x, _, hx⟩ := List.mem_flatMap.1 hu
 simp at hx
 rcases hx with rfl | rfl <;> rfl
theorem zqi {m : Mono} {j : Nat} {u : Value} (h : (z44 m)[j]? = some u) : ∃ k x, m[k]? = some x ∧ (j = k * 2 ∧ u = .int .i64 x.1 ∨ j = k * 2 + 1 ∧ u = .int .i64 x.2) := by
 have hj := z04 h
 rw [z9r] at hj
 obtain ⟨x, hx⟩ := z00 (show j / 2 < m.length by omega)
 obtain ⟨h1, h2⟩ := zau hx
 refine ⟨j / 2, x, hx, ?_⟩
 rcases (show j = j / 2 * 2 ∨ j = j / 2 * 2 + 1 by omega) with e | e
 ·rw [← e] at h1
  exact .inl ⟨e, Option.some.inj (h.symm.trans h1)⟩
 ·rw [← e] at h2
  exact .inr ⟨e, Option.some.inj (h.symm.trans h2)⟩
theorem Pows.src {S : Nat → Prop} {w : World} {A : Option Addr} {n cap : Nat} {m : Mono} (h : Pows S w (.slice A n cap) m) : n = m.length ∧ zci w A n 2 (z44 m) := by
 obtain ⟨b, off, ⟨a', cap', h1, h2, h3, h4, h5⟩, hc⟩ := h
 obtain ⟨rfl, rfl, rfl⟩ : A = a' ∧ n = m.length ∧ cap = cap' := by simpa using h1
 refine ⟨rfl, z9r m, zmg m, fun h0 => ⟨_, h4 h0, fun j u hu => ?_⟩⟩
 obtain ⟨k, x, hx, ⟨rfl, rfl⟩ | ⟨rfl, rfl⟩⟩ := zqi hu
 ·rw [z7y]
  exact (hc k x hx).2.1
 ·rw [z7y]
  exact (hc k x hx).2.2
theorem Tryz.infoPower : (Tryz.prog.info? 85).map (fun i => (i.zero, i.size, i.bytes)) = some (some (.agg #[.int .i64 0, .int .i64 0]), 2, 16) := by kernel_rfl
theorem Pows.of_none {S : Nat → Prop} {w : World} {n cap : Nat} {m : Mono} (h : Pows S w (.slice Option.none n cap) m) : m = [] := by
 obtain ⟨b, off, ⟨a', cap', h1, h2, h3, h4, h5⟩, hc⟩ := h
 obtain ⟨rfl, rfl, rfl⟩ : Option.none = a' ∧ n = m.length ∧ cap = cap' := by simpa using h1
 rcases Nat.eq_zero_or_pos m.length with h0 | h0
 ·exact List.length_eq_zero_iff.1 h0
 ·cases h4 h0
theorem z78 {S : Nat → Prop} (v : Value) (m : Mono) (w : World) (h : Pows S w v m) (hS : ∀ k, S k → k < w.heap.size) (hr : m.length ≤ 1000000) :
  Calls Tryz.prog 115 #[v] w fun e w' => ∃ v', e = .returned v' ∧ Pows (New w w') w' v' m ∧ Ext w w' := by
 obtain ⟨i0, hi, hz0, hz1, hz2⟩ := info_parts Tryz.infoPower
 have hb := h.inBounds
 have H := hid h
 have HB := hid hb
 obtain ⟨A, c, rfl⟩ := h.form
 clear h hb
 have hnil := fun (w : World) => Lib.run_eql_slice_nil (P := Tryz.prog) w 81 85 A m.length c 0 0 Tryz.underlying81
 cases A with
 | none =>
  have HM := hid H.out.of_none
  go_enter Tryz.func115, Tryz.ntmps115
  go_wp2
  all_goals
   go_ret
   exact ⟨_, rfl, by rw [HM.out]; exact Pows.empty _ _ _, Ext.refl _⟩
 | some ad =>
  have HS := hid ((H.out.to (Kept.ext (Ext.alloc (Ext.refl w) (.cells #[] 85)) hS) (fun _ h => h)).src.2)
  have HO := hid (World.ownsRow_made (base := w.heap.size) (e := 85) (size := 2) w #[] 0 (Nat.le_refl _) (by unfold maxLen; omega) (by simp))
  have HR := hid hr
  go_enter Tryz.func115, Tryz.ntmps115
  go_wp2_with (at_builtin; refine z0v _ rfl (.tmp 5) (.tmp 6) 81 rfl w.heap.size 85 i0 (.agg #[.int .i64 0, .int .i64 0]) 2 16 Tryz.underlying81 hi hz0 hz1 hz2 rfl (by decide) (.slice (some ⟨w.heap.size, 0, none⟩) 0 0) 0 [] rfl HO.out (some ad) m.length c (z44 m) rfl HS.out (by have := HR.out; unfold maxLen; omega) (by have := HR.out; omega) (by simp) ?_; intro v1 w1 hown hg _; have HW := hid hown; have HG := hid hg; clear hown hg)
  go_ret
  have hx : Ext w w1 := by
   refine z0p (Ext.alloc (Ext.refl w) _) HG.out (fun k hk => ?_)
   have e : w.heap.size = k := by simpa [Value.ownBlock] using hk
   omega
  refine ⟨v1, rfl, ?_, hx⟩
  refine z8b (e := 85) ?_ HB.out
  simpa using HW.out
end
section
open Go.RowKit
def z6k (S : Nat → Prop) (w : World) (v : Value) (t : RTerm) : Prop := ∃ vm vo, v = .agg #[.bool t.c.neg, vm, vo] ∧ U32s S w vm t.c.mag ∧ Pows S w vo t.m
theorem z6k.to {S S' : Nat → Prop} {w w' : World} {v : Value} {r : RTerm} (h : z6k S w v r) (hk : Kept S w w') (hS : ∀ k, S k → S' k) : z6k S' w' v r := by
 obtain ⟨vm, vo, h1, h2, h3⟩ := h
 exact ⟨vm, vo, h1, h2.to hk hS, h3.to hk hS⟩
theorem New.kept {a w W : World} (hx : Ext w W) : Kept (New a w) w W := Kept.ext hx (fun _ h => h.2)
theorem New.grow {a w W : World} (hx : Ext w W) : ∀ k, New a w k → New a W k := fun _ h => ⟨h.1, Nat.lt_of_lt_of_le h.2 hx.size⟩
theorem zb1 {w : World} {b : Nat} {u0 u1 u2 : Value} (x y z : Value) (c0 : w.cell? ⟨b, 0, none⟩ = some u0) (c1 : w.cell? ⟨b, 1, none⟩ = some u1) (c2 : w.cell? ⟨b, 2, none⟩ = some u2) :
  (((w.setCell ⟨b, 0, none⟩ x).setCell ⟨b, 1, none⟩ y).setCell ⟨b, 2, none⟩ z).cell? ⟨b, 0, none⟩ = some x ∧ (((w.setCell ⟨b, 0, none⟩ x).setCell ⟨b, 1, none⟩ y).setCell ⟨b, 2, none⟩ z).cell? ⟨b, 1, none⟩ = some y ∧
  (((w.setCell ⟨b, 0, none⟩ x).setCell ⟨b, 1, none⟩ y).setCell ⟨b, 2, none⟩ z).cell? ⟨b, 2, none⟩ = some z :=
 ⟨z0b (z0b (z1f c0) (ao (by decide))) (ao (by decide)), z0b (z1f (z0b c1 (ao (by decide)))) (ao (by decide)), z1f (z0b (z0b c2 (ao (by decide))) (ao (by decide)))⟩
theorem Ext.set3 {a w : World} (h : Ext a w) {b : Nat} (hb : a.heap.size ≤ b) (x y z : Value) : Ext a (((w.setCell ⟨b, 0, none⟩ x).setCell ⟨b, 1, none⟩ y).setCell ⟨b, 2, none⟩ z) :=
 (h.set2 hb x y).setCell (p := ⟨b, 2, none⟩) hb z
theorem Kept.set3 {S : Nat → Prop} {w : World} {b : Nat} (h : ¬ S b) (x y z : Value) : Kept S w (((w.setCell ⟨b, 0, none⟩ x).setCell ⟨b, 1, none⟩ y).setCell ⟨b, 2, none⟩ z) :=
 (Kept.set2 h x y).trans (Kept.setCell (a := ⟨b, 2, none⟩) h z)
theorem zmh {w : World} {b : Nat} (x y z : Value) : (((w.setCell ⟨b, 0, none⟩ x).setCell ⟨b, 1, none⟩ y).setCell ⟨b, 2, none⟩ z).heap.size = w.heap.size := by rw [z0s, z4n]
theorem zmi {w : World} {b c i j k : Nat} {u0 u1 u2 : Value} (h : w.cell? ⟨c, i, none⟩ = some u0 ∧ w.cell? ⟨c, j, none⟩ = some u1 ∧ w.cell? ⟨c, k, none⟩ = some u2) (hne : b ≠ c) (x y z : Value) :
  (((w.setCell ⟨b, 0, none⟩ x).setCell ⟨b, 1, none⟩ y).setCell ⟨b, 2, none⟩ z).cell? ⟨c, i, none⟩ = some u0 ∧ (((w.setCell ⟨b, 0, none⟩ x).setCell ⟨b, 1, none⟩ y).setCell ⟨b, 2, none⟩ z).cell? ⟨c, j, none⟩ = some u1 ∧
  (((w.setCell ⟨b, 0, none⟩ x).setCell ⟨b, 1, none⟩ y).setCell ⟨b, 2, none⟩ z).cell? ⟨c, k, none⟩ = some u2 :=
 ⟨z0b (z0b (z0b h.1 (ab hne)) (ab hne)) (ab hne), z0b (z0b (z0b h.2.1 (ab hne)) (ab hne)) (ab hne), z0b (z0b (z0b h.2.2 (ab hne)) (ab hne)) (ab hne)⟩
def canT (t : RTerm) : RTerm := ⟨ofI (valI t.c), t.m⟩
theorem zdx (S : Nat → Prop) (w : World) : IntV S w (.agg #[.bool false, .slice none 0 0]) ⟨false, []⟩ := ⟨_, rfl, U32s.nilv _ _ _ _ (by omega)⟩
theorem z9b : valI ⟨false, []⟩ = 0 := rfl
theorem zif {w0 w1 w2 : World} {b : Nat} {v : Value} {t : RTerm} (hv : z6k (New w1 w2) w2 v t) (h01 : Ext w0 w1) (h12 : Ext w1 w2) (hb0 : w0.heap.size ≤ b) (hb1 : b < w1.heap.size) (x y z : Value) :
  z6k (New w0 (((w2.setCell ⟨b, 0, none⟩ x).setCell ⟨b, 1, none⟩ y).setCell ⟨b, 2, none⟩ z)) (((w2.setCell ⟨b, 0, none⟩ x).setCell ⟨b, 1, none⟩ y).setCell ⟨b, 2, none⟩ z) v t ∧ Ext w0 (((w2.setCell ⟨b, 0, none⟩ x).setCell ⟨b, 1, none⟩ y).setCell ⟨b, 2, none⟩ z) := by
 refine ⟨hv.to (Kept.set3 (fun h => ?_) _ _ _) (fun k hk => ⟨Nat.le_trans h01.size hk.1, ?_⟩), (h01.trans h12).set3 hb0 _ _ _⟩
 ·have := h.1
  omega
 ·rw [zmh]
  exact hk.2
theorem zu9 {w0 w1 w2 : World} {vm vo : Value} {ng : Bool} {zs : List Nat} {m : Mono} (h1 : U32s (New w0 w1) w1 vm zs) (x2 : Ext w1 w2) (h2 : Pows (New w1 w2) w2 vo m) (x1 : Ext w0 w1) : z6k (New w0 w2) w2 (.agg #[.bool ng, vm, vo]) ⟨⟨ng, zs⟩, m⟩ :=
 ⟨_, _, rfl, h1.to (New.kept x2) (New.grow x2), h2.to (Kept.refl _ _) (New.mono x1)⟩
theorem zh7 {S : Nat → Prop} (v : Value) (t : RTerm) (w : World) (h : z6k S w v t) (hS : ∀ k, S k → k < w.heap.size) (hr : t.c.mag.length ≤ 40000000000000) (hm : t.m.length ≤ 1000000) :
  Calls Tryz.prog 141 #[v] w fun e w' => ∃ v', e = .returned v' ∧ z6k (New w w') w' v' (canT t) ∧ Ext w w' := by
 obtain ⟨⟨ng, zs⟩, m⟩ := t
 obtain ⟨vm, vo, rfl, hu, hp⟩ := h
 simp only at hu hp hr hm ⊢
 have HU := hid hu
 have HP := hid hp
 obtain ⟨am, cm, rfl⟩ := hu.form
 obtain ⟨ao, co, rfl⟩ := hp.form
 clear hu hp
 have HK := hid (Ext.alloc (Ext.alloc (Ext.refl w) (.cells #[.bool ng, .slice am zs.length cm, .slice ao m.length co] 83)) (.cells #[.bool false, .slice none 0 0, .slice none 0 0] 83))
 have HSZ : Hid (w.heap.size + 1 < ((w.alloc (.cells #[.bool ng, .slice am zs.length cm, .slice ao m.length co] 83)).alloc (.cells #[.bool false, .slice none 0 0, .slice none 0 0] 83)).heap.size) := hid (by simp)
 have HL : Hid (∀ W, Ext ((w.alloc (.cells #[.bool ng, .slice am zs.length cm, .slice ao m.length co] 83)).alloc (.cells #[.bool false, .slice none 0 0, .slice none 0 0] 83)) W →
   W.cell? ⟨w.heap.size, 0, none⟩ = some (.bool ng) ∧ W.cell? ⟨w.heap.size, 1, none⟩ = some (.slice am zs.length cm) ∧ W.cell? ⟨w.heap.size, 2, none⟩ = some (.slice ao m.length co)) := hid (fun W hW => by
  have e1 : Ext (w.alloc (.cells #[.bool ng, .slice am zs.length cm, .slice ao m.length co] 83)) W := (Ext.alloc (Ext.refl _) _).trans hW
  exact ⟨e1.new_cell rfl, e1.new_cell rfl, e1.new_cell rfl⟩)
 have HN : Hid (∀ W, Ext ((w.alloc (.cells #[.bool ng, .slice am zs.length cm, .slice ao m.length co] 83)).alloc (.cells #[.bool false, .slice none 0 0, .slice none 0 0] 83)) W →
   W.cell? ⟨w.heap.size + 1, 0, none⟩ = some (.bool false) ∧ W.cell? ⟨w.heap.size + 1, 1, none⟩ = some (.slice none 0 0) ∧ W.cell? ⟨w.heap.size + 1, 2, none⟩ = some (.slice none 0 0) ∧ ∀ i, W.frozen? ⟨w.heap.size + 1, i, none⟩ = false) := hid (fun W hW => by
  have k := fun i v hv => hW.new_cell (i := i) (v := v) hv
  have f := fun i => hW.new_free i
  rw [z02] at k f
  exact ⟨k 0 _ rfl, k 1 _ rfl, k 2 _ rfl, f⟩)
 go_enter Tryz.func141, Tryz.ntmps141
 go_wp2
 go_outline
 have x0 := Ext.drew (Ext.refl ((w.alloc (.cells #[.bool ng, .slice am zs.length cm, .slice ao m.length co] 83)).alloc (.cells #[.bool false, .slice none 0 0, .slice none 0 0] 83)))
 have S0 := HL.out _ x0
 have HX0 := hid x0
 clear x0
 go_region_held3 (fun W => W.cell? ⟨w.heap.size, 0, none⟩ = some (.bool ng) ∧ W.cell? ⟨w.heap.size, 1, none⟩ = some (.slice am zs.length cm) ∧ W.cell? ⟨w.heap.size, 2, none⟩ = some (.slice ao m.length co)) (first | exact S0 | exact S1 | exact S2 | exact zmi S2 (by omega) _ _ _)
  (first
   | (go_at_call 114; (with_reducible refine (z8j _ _ ⟨ng, zs⟩ ⟨false, []⟩ _ (z21 (HU.out.ext (HK.out.trans HX0.out) hS)) (zdx _ _) (z08 hS (HK.out.trans HX0.out)) hr (by decide)).mono ?_); rintro e w1 ⟨v1, rfl, ⟨vm1, rfl, hv1⟩, hx1⟩; have HX1 := hid hx1; have S1 := HL.out _ (HX0.out.trans hx1); have HV1 := hid hv1; obtain ⟨a1, n1, rfl⟩ := hv1.form; clear hx1 hv1)
   | (go_at_call 115; (with_reducible refine (z78 _ m _ (HP.out.ext (HK.out.trans (HX0.out.trans HX1.out)) hS) (z08 hS (HK.out.trans (HX0.out.trans HX1.out))) hm).mono ?_); rintro e w2 ⟨v2, rfl, hv2, hx2⟩; have HX2 := hid hx2; have S2 := HL.out _ (HX0.out.trans (HX1.out.trans hx2)); obtain ⟨c0, c1, c2, cf⟩ := HN.out _ (HX0.out.trans (HX1.out.trans hx2)); have f0 := cf 0; have f1 := cf 1; have f2 := cf 2; have HE := hid (And.intro c0 (And.intro c1 c2)); clear cf; have HV2 := hid hv2; obtain ⟨a2, n2, rfl⟩ := hv2.form; clear hx2 hv2))
 go_wp2
 have hd := fun x y z => zb1 x y z HE.out.1 HE.out.2.1 HE.out.2.2
 refine bodyPost_ret (by simp [results, Tryz.results141, go_sem, (hd _ _ _).1, (hd _ _ _).2.1, (hd _ _ _).2.2]; rfl) rfl ?_
 have e0 : canT ⟨⟨ng, zs⟩, m⟩ = ⟨ofI (valI ⟨ng, zs⟩ + valI ⟨false, []⟩), m⟩ := by rw [z9b, Int.add_zero]; rfl
 have hv := zu9 (ng := (ofI (valI ⟨ng, zs⟩ + valI ⟨false, []⟩)).neg) HV1.out HX2.out HV2.out HX1.out
 have hg := zif (w0 := w) (b := w.heap.size + 1) hv (HK.out.trans HX0.out) (HX1.out.trans HX2.out) (by omega) (Nat.lt_of_lt_of_le HSZ.out HX0.out.size) (.bool (ofI (valI ⟨ng, zs⟩ + valI ⟨false, []⟩)).neg) (.slice a1 (ofI (valI ⟨ng, zs⟩ + valI ⟨false, []⟩)).mag.length n1) (.slice a2 m.length n2)
 rw [e0]
 exact ⟨_, rfl, hg.1, hg.2⟩
def zck (ts : List RTerm) : RTerm := match z2l ts with
 | [] => ⟨⟨false, []⟩, []⟩
 | t :: _ => canT t
def zqj (w : World) (ts : List RTerm) : Ending → World → Prop := fun e w' => ∃ v', e = .returned (.tuple #[v', .bool (decide (0 < (z2l ts).length))]) ∧ z6k (New w w') w' v' (zck ts) ∧ Ext w w'
theorem zf3 (S : Nat → Prop) (w : World) : z6k S w (.agg #[.bool false, .slice none 0 0, .slice none 0 0]) ⟨⟨false, []⟩, []⟩ := ⟨_, _, rfl, U32s.nilv _ _ _ _ (by omega), Pows.empty _ _ _⟩
theorem zk6 {ts : List RTerm} (h : mayT ts = true) : ∀ t ∈ ts, t.m.length ≤ 200 := by
 intro t ht
 have := (z53 h).1 t ht
 simp only [z1h, Bool.and_eq_true] at this
 exact z3m this.2
theorem zmj {S : Nat → Prop} (v : Value) (ts : List RTerm) (w : World) (h : z05 S w v ts) (hS : ∀ k, S k → k < w.heap.size) (hr : z48 ts) :
  Calls Tryz.prog 93 #[v] w (zqj w ts) := by
 have hnot : ∀ (x : Bool) (w : World), (Op.unary .not (.bool x)).run Tryz.prog w = .ok (.bool (!x)) w := fun _ _ => rfl
 have H := hid h
 have HR := hid hr
 obtain ⟨a, cap, rfl⟩ := h.form
 have hl := h.len_le
 clear h hr
 have HK := hid (Ext.alloc (Ext.refl w) (.cells #[.bool false, .slice none 0 0, .slice none 0 0] 83))
 have HN : Hid (∀ W, Ext (w.alloc (.cells #[.bool false, .slice none 0 0, .slice none 0 0] 83)) W →
   W.cell? ⟨w.heap.size, 0, none⟩ = some (.bool false) ∧ W.cell? ⟨w.heap.size, 1, none⟩ = some (.slice none 0 0) ∧ W.cell? ⟨w.heap.size, 2, none⟩ = some (.slice none 0 0) ∧ ∀ i, W.frozen? ⟨w.heap.size, i, none⟩ = false) := hid (fun W hW => ⟨hW.new_cell rfl, hW.new_cell rfl, hW.new_cell rfl, fun i => hW.new_free i⟩)
 have HSZ : Hid (w.heap.size < (w.alloc (.cells #[.bool false, .slice none 0 0, .slice none 0 0] 83)).heap.size) := hid (by simp)
 by_cases h0 : ts.length = 0
 ·obtain rfl : ts = [] := List.length_eq_zero_iff.1 h0
  clear h0
  obtain ⟨c0, c1, c2, cf⟩ := HN.out _ (Ext.refl _)
  have f0 := cf 0
  have f1 := cf 1
  have f2 := cf 2
  have HE := hid (And.intro c0 (And.intro c1 c2))
  clear cf
  go_enter Tryz.func93, Tryz.ntmps93
  go_wp2
  refine bodyPost_ret (by simp [results, Tryz.results93, go_sem]; rfl) rfl ?_
  exact ⟨_, rfl, zf3 _ _, HK.out⟩
 ·have hb : ((ts.length : Int) == 0) = false := by rw [beq_eq_false_iff_ne]; omega
  have hlt : 0 < ts.length := by omega
  have hM := fun W (hW : Ext (w.alloc (.cells #[.bool false, .slice none 0 0, .slice none 0 0] 83)) W) => z54 (S := S) _ ts W (H.out.ext (HK.out.trans hW) hS) (z08 hS (HK.out.trans hW)) HR.out
  cases hm : mayT ts with
  | false =>
   simp only [hm] at hM
   have HM := hid hM
   have e1 : z2l ts = [] := by simp [z2l, hm]
   have E := hid e1
   clear hM hm h0 e1
   go_enter Tryz.func93, Tryz.ntmps93
   go_wp2_with fail
   refine (HM.out _ (Ext.refl _)).mono ?_
   rintro e w1 ⟨rfl, hx1⟩
   obtain ⟨c0, c1, c2, cf⟩ := HN.out _ hx1
   have f0 := cf 0
   have f1 := cf 1
   have f2 := cf 2
   have HE := hid (And.intro c0 (And.intro c1 c2))
   have HX1 := hid hx1
   clear cf hx1
   go_wp2
   have hd := fun x y z => zb1 x y z HE.out.1 HE.out.2.1 HE.out.2.2
   refine bodyPost_ret (by simp [results, Tryz.results93, go_sem, (hd _ _ _).1, (hd _ _ _).2.1, (hd _ _ _).2.2]; rfl) rfl ?_
   refine ⟨_, by rw [E.out]; rfl, ?_, (HK.out.trans HX1.out).set3 (Nat.le_refl _) _ _ _⟩
   unfold zck
   rw [E.out]
   exact zf3 _ _
  | true =>
   simp only [hm] at hM
   have HM := hid hM
   have e1 : z2l ts = ts := by simp [z2l, hm]
   have E := hid e1
   obtain ⟨t, ht⟩ := z00 hlt
   have htl := zk6 hm t (List.mem_of_getElem? ht)
   have htr := HR.out t (List.mem_of_getElem? ht)
   obtain ⟨b, off, vm, vo, rfl, -, hn1, hm1, hSb, h1, h2, h3, h4, h5⟩ := H.out.cellAt ht
   have HT := hid ht
   simp only [Nat.zero_mul, Nat.add_zero] at h1 h2 h3
   have HC := hid (And.intro h1 (And.intro h2 h3))
   obtain ⟨⟨ng, zs⟩, m⟩ := t
   simp only at h1 h2 h3 h4 h5 HC htl htr
   have H4 := hid h4
   have H5 := hid h5
   obtain ⟨am, cm, rfl⟩ := h4.form
   obtain ⟨ao, co, rfl⟩ := h5.form
   have HTL := hid (And.intro htl htr)
   clear hM hm h0 e1 ht h4 h5 h1 h2 h3 htl htr
   go_enter Tryz.func93, Tryz.ntmps93
   go_wp2_with fail
   refine (HM.out _ (Ext.refl _)).mono ?_
   rintro e w1 ⟨rfl, hx1⟩
   have HX1 := hid hx1
   have g1 := (HK.out.trans hx1).cell HC.out.1
   have g2 := (HK.out.trans hx1).cell HC.out.2.1
   have g3 := (HK.out.trans hx1).cell HC.out.2.2
   clear hx1
   go_wp2_with fail
   refine (zh7 _ ⟨⟨ng, zs⟩, m⟩ _ ⟨_, _, rfl, H4.out.ext (HK.out.trans HX1.out) hS, H5.out.ext (HK.out.trans HX1.out) hS⟩ (z08 hS (HK.out.trans HX1.out)) HTL.out.2 (Nat.le_trans HTL.out.1 (by decide))).mono ?_
   rintro e w2 ⟨v2, rfl, hv2, hx2⟩
   obtain ⟨c0, c1, c2, cf⟩ := HN.out _ (HX1.out.trans hx2)
   have f0 := cf 0
   have f1 := cf 1
   have f2 := cf 2
   have HE := hid (And.intro c0 (And.intro c1 c2))
   have HX2 := hid hx2
   have HV2 := hid hv2
   obtain ⟨vm2, vo2, rfl, hq1, hq2⟩ := hv2
   obtain ⟨a1, n1, rfl⟩ := hq1.form
   obtain ⟨a2, n2, rfl⟩ := hq2.form
   clear cf hx2 hq1 hq2
   go_wp2
   have hd := fun x y z => zb1 x y z HE.out.1 HE.out.2.1 HE.out.2.2
   refine bodyPost_ret (by simp [results, Tryz.results93, go_sem, (hd _ _ _).1, (hd _ _ _).2.1, (hd _ _ _).2.2]; rfl) rfl ?_
   have hg := zif (w0 := w) (b := w.heap.size) HV2.out (HK.out.trans HX1.out) HX2.out (by omega) (Nat.lt_of_lt_of_le HSZ.out HX1.out.size) (.bool (canT ⟨⟨ng, zs⟩, m⟩).c.neg) (.slice a1 (canT ⟨⟨ng, zs⟩, m⟩).c.mag.length n1) (.slice a2 (canT ⟨⟨ng, zs⟩, m⟩).m.length n2)
   have el : zck ts = canT ⟨⟨ng, zs⟩, m⟩ := by
    unfold zck
    rw [E.out]
    cases ts with
    | nil => simp at hlt
    | cons t r =>
     obtain rfl : t = ⟨⟨ng, zs⟩, m⟩ := by simpa using HT.out
     rfl
   refine ⟨_, by rw [E.out, decide_eq_true hlt], ?_, hg.2⟩
   rw [el]
   exact hg.1
theorem z9c {S : Nat → Prop} (v : Value) (ts : List RTerm) (w : World) (h : z05 S w v ts) (hS : ∀ k, S k → k < w.heap.size) (hr : z48 ts) :
  Calls Tryz.prog 46 #[v] w fun e w' => e = .returned (.int .i64 (z0r (z0n ts))) ∧ Ext w w' := by
 have ec : z11 (z10 (zck ts).m) = z0r (z0n ts) := by
  unfold zck
  rw [← z5j]
  cases hp : z2l ts with
  | nil => rfl
  | cons t r =>
   have hm : mayM t.m = true := by
    have h1 := (z2t ts).may (valI t.c, t.m) (by rw [← z5j, hp]; exact List.mem_cons_self)
    exact h1
   show z11 (z10 (canT t).m) = z11 t.m
   unfold z10 canT
   rw [if_pos hm]
 have EC := hid ec
 have H := hid h
 have HR := hid hr
 obtain ⟨a, cap, rfl⟩ := h.form
 clear h hr ec
 go_enter Tryz.func46, Tryz.ntmps46
 go_wp2_with fail
 refine (zmj _ ts w H.out hS HR.out).mono ?_
 rintro e w1 ⟨v1, rfl, ⟨vm, vo, rfl, hq1, hq2⟩, hx1⟩
 obtain ⟨a1, n1, rfl⟩ := hq1.form
 obtain ⟨a2, n2, rfl⟩ := hq2.form
 have HX1 := hid hx1
 have HQ := hid hq2
 have HA := hid (Ext.alloc (Ext.refl w1) (.cells #[.bool (zck ts).c.neg, .slice a1 (zck ts).c.mag.length n1, .slice a2 (zck ts).m.length n2] 83))
 clear hx1 hq1 hq2
 go_wp2_with fail
 refine (zjt _ (zck ts).m _ (HQ.out.ext HA.out (fun _ h => h.2)) (z08 (fun _ h => h.2) HA.out)).mono ?_
 rintro e w2 ⟨rfl, hx2⟩
 have HX2 := hid hx2
 clear hx2
 go_wp2
 all_goals
  go_ret
  exact ⟨by rw [EC.out]; rfl, HX1.out.trans (HA.out.trans HX2.out)⟩
theorem zcx {S : Nat → Prop} (v : Value) (ts : List RTerm) (w : World) (h : z05 S w v ts) (hS : ∀ k, S k → k < w.heap.size) (hr : z48 ts) :
  Calls Tryz.prog 113 #[v] w fun e w' => ∃ v', e = .returned v' ∧ z05 S w' v' (z2l ts) ∧ Ext w w' := by
 have H := hid h
 have HR := hid hr
 obtain ⟨a, cap, rfl⟩ := h.form
 clear h hr
 go_enter Tryz.func113, Tryz.ntmps113
 go_wp2_with fail
 refine (z54 _ ts w H.out hS HR.out).mono ?_
 rintro e w1 ⟨rfl, hx1⟩
 have HX1 := hid hx1
 clear hx1
 cases hm : mayT ts with
 | false =>
  go_wp2
  all_goals
   go_ret
   refine ⟨_, rfl, ?_, HX1.out⟩
   rw [show z2l ts = [] by simp [z2l, hm]]
   exact ⟨0, 0, ⟨_, 0, rfl, Nat.le_refl _, Nat.zero_le _, fun h => absurd h (Nat.lt_irrefl _), fun h => absurd h (Nat.lt_irrefl _)⟩, fun j x hx => by simp at hx⟩
 | true =>
  go_wp2
  all_goals
   go_ret
   refine ⟨_, rfl, ?_, HX1.out⟩
   rw [show z2l ts = ts by simp [z2l, hm]]
   exact H.out.ext HX1.out hS
end
section
open Go.RowKit
theorem z16.form {S : Nat → Prop} {w : World} {v : Value} {zs : List (List RTerm)} (h : z16 S w v zs) : ∃ a cap, v = .slice a zs.length cap := by
 obtain ⟨b, off, ⟨a, cap, h1, _⟩, _⟩ := h
 exact ⟨a, cap, h1⟩
theorem z16.ext {S : Nat → Prop} {w W : World} {v : Value} {zs : List (List RTerm)} (h : z16 S w v zs) (hx : Ext w W) (hS : ∀ k, S k → k < w.heap.size) : z16 S W v zs := h.to (Kept.ext hx hS) (fun _ h => h)
theorem z16.len_le {S : Nat → Prop} {w : World} {v : Value} {zs : List (List RTerm)} (h : z16 S w v zs) : zs.length ≤ 9223372036854775807 := by
 obtain ⟨b, off, ⟨a, cap, h1, h2, h3, _⟩, _⟩ := h
 unfold maxLen at h3
 omega
theorem z16.cellAt {S : Nat → Prop} {w : World} {ts : List (List RTerm)} {a : Option Addr} {n cap k : Nat} {t : List RTerm} (h : z16 S w (.slice a n cap) ts) (ht : ts[k]? = some t) :
  ∃ b off vp, a = some ⟨b, off, none⟩ ∧ n = ts.length ∧ n ≤ cap ∧ cap ≤ 9223372036854775807 ∧ S b ∧ w.cell? ⟨b, off + k, none⟩ = some vp ∧ z05 S w vp t := by
 obtain ⟨b, off, ⟨a', cap', h1, h2, h3, h4, h5⟩, hc⟩ := h
 obtain ⟨rfl, rfl, rfl⟩ : a = a' ∧ n = ts.length ∧ cap = cap' := by simpa using h1
 have hp : 0 < ts.length := by have := z04 ht; omega
 obtain ⟨vp, g1, g2⟩ := hc k t ht
 exact ⟨b, off, vp, h4 hp, rfl, h2, h3, h5 hp, g1, g2⟩
def z55 (l : List (List RTerm)) : Prop := ∀ p ∈ l, z48 p
end
section
open Go.RowKit Go.Deep Go.ChangeShapes Go.WideShapes Go.ChangeAt
theorem zb2 {t e : TypeId} {W : World} {base : Nat} {v : Value} (ht : Tryz.prog.underlying t = some (.slice e)) (hv : Value.okWide Tryz.prog W .any base t v) : v.cells.toList = [v] := by
 obtain ⟨a, len, cap, rfl⟩ := okWide_slice ht hv
 rfl
theorem Tryz.cells_poly : Tryz.prog.cellsOf 23 = 1 := by kernel_rfl
section
variable {H : Type} {enc : TypeId × Value → H} {w : World} {base : Nat} {spare : Nat → Bool} {held : Bool}
theorem zk7 {fuel : Nat} {v : Value} {x : DataW H × List MemPlace} (h : DataW.trod enc Tryz.prog w base spare held fuel 24 [v] = some x) : ∃ ls, z16 (· < w.heap.size) w v ls := by
 obtain ⟨n, b, off, f', hs, hx⟩ := z4a Tryz.underlying24 Tryz.cells_poly (by omega) h
 obtain ⟨ls, hl, hp⟩ := z5g (p := fun j (t : List RTerm) => ∃ vp, w.cell? ⟨b, off + j, none⟩ = some vp ∧ z05 (· < w.heap.size) w vp t) (n := n) (fun j hj => by
  obtain ⟨cs, y, h1, h2, h3⟩ := hx j hj
  match cs, h1 with
  | [c], _ =>
   obtain ⟨ts, hts⟩ := zcu h3
   have h4 := h2 0 (by omega)
   simp only [Nat.mul_one, Nat.add_zero] at h4
   exact ⟨ts, c, h4, hts⟩)
 subst hl
 exact ⟨ls, b, off, hs, hp⟩
end
end
section
open Go.RowKit
theorem disable (w : World) : (callFunc 217 #[]).run Tryz.prog w = .ok (.value (.tuple #[])) w := run_call_mark0 Tryz.func217 (by kernel_rfl) (by kernel_rfl) (by kernel_rfl) .disable (by kernel_rfl) w
theorem enable (w : World) : (callFunc 219 #[]).run Tryz.prog w = .ok (.value (.tuple #[])) w := run_call_mark0 Tryz.func219 (by kernel_rfl) (by kernel_rfl) (by kernel_rfl) .enable (by kernel_rfl) w
theorem acquire (a : Addr) (w : World) : (callFunc 220 #[.pointer (some a)]).run Tryz.prog w = .ok (.value (.tuple #[])) w := run_call_marked Tryz.func220 (by kernel_rfl) (by kernel_rfl) (by kernel_rfl) .acquire (by kernel_rfl) a w
theorem releaseMerge (a : Addr) (w : World) : (callFunc 222 #[.pointer (some a)]).run Tryz.prog w = .ok (.value (.tuple #[])) w := run_call_marked Tryz.func222 (by kernel_rfl) (by kernel_rfl) (by kernel_rfl) .releaseMerge (by kernel_rfl) a w
theorem zcl (a : Addr) (x : Value) (u : FrameMode) (w : World) (hc : w.cell? a = some x) (hz : w.frozen? a = false) :
  CallsD Tryz.prog 197 #[.pointer (some a), .bool true] u w fun e u' w' => u' = u ∧ (e = .returned (.tuple #[]) ∧ w' = w.drew.setCell a (.int .u32 1)) := by
 have hc' : w.drew.cell? a = some x := by go_simp
 have hz' : w.drew.frozen? a = false := by go_simp
 have hst := run_call_store (P := Tryz.prog) Tryz.func212 (by kernel_rfl) (by kernel_rfl) (by kernel_rfl) (by kernel_rfl) (k := .u32) (y := 1) hc' hz'
 go_enter_d Tryz.func197, Tryz.ntmps197
 go_wp2
 go_region_calls
 all_goals (go_end0; exact ⟨rfl, rfl⟩)
theorem zb3 (a : Addr) (u : FrameMode) (w : World) (hc : w.cell? a = some (.int .i32 1)) (hz : w.frozen? a = false) :
  CallsD Tryz.prog 196 #[.pointer (some a)] u w fun e u' w' => u' = u ∧ (e = .returned (.tuple #[]) ∧ w' = w.setCell a (.int .i32 0)) := by
 have hd := disable
 have he := enable
 have hr := releaseMerge
 have hadd := run_call_add (P := Tryz.prog) Tryz.func223 (by kernel_rfl) (by kernel_rfl) (by kernel_rfl) .i32 (by kernel_rfl) (y := -1) (s := 0) hc hz (by simp [go_sem]; rfl)
 have hcv := run_convert_to_unsafe (P := Tryz.prog) (src := 271) (dst := 275) Tryz.underlying271 Tryz.underlying275 (by kernel_rfl) hc
 go_enter_d Tryz.func196, Tryz.ntmps196
 go_wp2
 go_end0
 go_wp2
 go_end0
 exact ⟨rfl, rfl⟩
theorem zmk (a : Addr) (w : World) (hc : w.cell? a = some (.int .i32 0)) (hz : w.frozen? a = false) :
  Calls Tryz.prog 195 #[.pointer (some a)] w fun e w' => e = .returned (.tuple #[]) ∧ w' = w.setCell a (.int .i32 1) := by
 have hd := disable
 have he := enable
 have ha := acquire
 have hcas := run_call_cas_hit (P := Tryz.prog) Tryz.func218 (by kernel_rfl) (by kernel_rfl) (by kernel_rfl) .i32 (by kernel_rfl) (y := 1) hc hz
 have hc' : (w.setCell a (.int .i32 1)).cell? a = some (.int .i32 1) := World.cell?_setCell_same w a _ hc
 have hcv := run_convert_to_unsafe (P := Tryz.prog) (src := 271) (dst := 275) Tryz.underlying271 Tryz.underlying275 (by kernel_rfl) hc'
 go_enter Tryz.func195, Tryz.ntmps195
 go_wp2
 first | go_end0 | (simp only [Exit.inBlock, Exit.then]; refine bodyPost_ret (results_none rfl _ _ _) rfl ?_) | refine bodyPost_ret (results_none rfl _ _ _) rfl ?_
 go_wp2
 go_end0
 exact ⟨rfl, rfl⟩
theorem zdy (a : Addr) (n : Int) (w : World) (hc : w.cell? a = some (.int .i64 n)) :
  Calls Tryz.prog 58 #[.pointer (some a)] w fun e w' => e = .returned (.int .i64 n) ∧ w = w' := by
 have hl := run_call_load (P := Tryz.prog) Tryz.func103 (by kernel_rfl) (by kernel_rfl) (by kernel_rfl) .i64 (by kernel_rfl) hc
 go_enter Tryz.func58, Tryz.ntmps58
 go_wp2
 go_ret
 exact ⟨rfl, rfl⟩
theorem zqk (a : Addr) (n : Int) (w : World) (hc : w.cell? a = some (.int .i64 n)) (hz : w.frozen? a = false) (h0 : 0 ≤ n) (h1 : n ≤ 1000000000) :
  Calls Tryz.prog 199 #[.pointer (some a), .int .i64 1] w fun e w' => e = .returned (.int .i64 (n + 1)) ∧ w.setCell a (.int .i64 (n + 1)) = w' := by
 have hl := run_call_add (P := Tryz.prog) Tryz.func215 (by kernel_rfl) (by kernel_rfl) (by kernel_rfl) .i64 (by kernel_rfl) (y := 1) (s := n + 1) hc hz (by simp only [Op.intArith]; have e : IntKind.i64.wrap (n + 1) = n + 1 := IntWalk.i64_in _ (by omega); simp [go_sem, e])
 go_enter Tryz.func199, Tryz.ntmps199
 go_wp2
 go_ret
 exact ⟨rfl, rfl⟩
end
section
open Go.RowKit
theorem zml (b : Nat) (pe pn pm : Addr) (e n x y : Int) (w : World)
  (he : w.cell? pe = some (.int .i64 e)) (hn : w.cell? pn = some (.int .i64 n)) (hm : w.cell? pm = some (.pointer (some ⟨b, 0, none⟩)))
  (h9 : w.cell? ⟨b, 9, none⟩ = some (.int .i64 x)) (h10 : w.cell? ⟨b, 10, none⟩ = some (.int .i64 y))
  (f9 : w.frozen? ⟨b, 9, none⟩ = false) (f10 : w.frozen? ⟨b, 10, none⟩ = false) :
  Calls Tryz.prog 168 #[.pointer (some pe), .pointer (some pn), .pointer (some pm)] w fun r w' => r = .returned (.tuple #[]) ∧ (w.setCell ⟨b, 9, none⟩ (.int .i64 e)).setCell ⟨b, 10, none⟩ (.int .i64 n) = w' := by
 go_enter Tryz.func168, Tryz.ntmps168
 go_wp2
 go_end0
 exact ⟨rfl, rfl⟩
def z5x (w : World) (b : Nat) (e n : Int) : World :=
 (((((w.setCell ⟨b, 7, none⟩ (.int .i32 1)).setCell ⟨b, 9, none⟩ (.int .i64 e)).setCell ⟨b, 10, none⟩ (.int .i64 n)).drew.setCell ⟨b, 6, none⟩ (.int .u32 1)).setCell ⟨b, 7, none⟩ (.int .i32 0))
theorem zdz {b c i : Nat} {p : Addr} (h : p.block ≠ b) (_ : c = b) : (⟨c, i, none⟩ : Addr) ≠ p := by
 intro e
 subst e
 simp_all
theorem zql (b : Nat) (pe pn pm : Addr) (e n x y : Int) (w : World) (hpe : pe.block ≠ b) (hpn : pn.block ≠ b) (hpm : pm.block ≠ b)
  (he : w.cell? pe = some (.int .i64 e)) (hn : w.cell? pn = some (.int .i64 n)) (hm : w.cell? pm = some (.pointer (some ⟨b, 0, none⟩)))
  (h6 : w.cell? ⟨b, 6, none⟩ = some (.int .u32 0)) (h7 : w.cell? ⟨b, 7, none⟩ = some (.int .i32 0))
  (h9 : w.cell? ⟨b, 9, none⟩ = some (.int .i64 x)) (h10 : w.cell? ⟨b, 10, none⟩ = some (.int .i64 y))
  (fz : ∀ i, w.frozen? ⟨b, i, none⟩ = false) :
  Calls Tryz.prog 183 #[.pointer (some ⟨b, 6, none⟩), .func (.func 168) #[] #[.pointer (some pe), .pointer (some pn), .pointer (some pm)]] w fun r w' => r = .returned (.tuple #[]) ∧ z5x w b e n = w' := by
 have f6 := fz 6
 have f7 := fz 7
 have f9 := fz 9
 have f10 := fz 10
 clear fz
 have hl := run_call_load (P := Tryz.prog) Tryz.func194 (by kernel_rfl) (by kernel_rfl) (by kernel_rfl) .u32 (by kernel_rfl) (w := w.setCell ⟨b, 7, none⟩ (.int .i32 1)) (a := ⟨b, 6, none⟩) (x := 0) (z0b h6 (by simp))
 have he1 := z0b (a := ⟨b, 7, none⟩) (v := .int .i32 1) he (zdz hpe rfl)
 have hn1 := z0b (a := ⟨b, 7, none⟩) (v := .int .i32 1) hn (zdz hpn rfl)
 have hm1 := z0b (a := ⟨b, 7, none⟩) (v := .int .i32 1) hm (zdz hpm rfl)
 have h91 := z0b (a := ⟨b, 7, none⟩) (v := .int .i32 1) h9 (by simp)
 have h101 := z0b (a := ⟨b, 7, none⟩) (v := .int .i32 1) h10 (by simp)
 have hnot : ∀ (x : Bool) (w : World), (Op.unary .not (.bool x)).run Tryz.prog w = .ok (.bool (!x)) w := fun _ _ => rfl
 go_enter_defers Tryz.func183, Tryz.ntmps183
 go_wp2_with (first | (go_at_call 195; refine (zmk ⟨b, 7, none⟩ _ (by go_simp) (by go_simp)).mono ?_; rintro e w' ⟨rfl, rfl⟩) | (go_at_call 168; refine (zml b pe pn pm e n x y _ he1 hn1 hm1 h91 h101 (by simp [f9]) (by simp [f10])).mono ?_; rintro e w' ⟨rfl, rfl⟩) | (go_at_call 182; go_in))
 -- the door: two deferred calls, the last laid first
 refine leaves_cons (f := 197) (args := #[.pointer (some ⟨b, 6, none⟩), .bool true]) (by simp) (by simp [go_sem]) ?_
 refine (zcl ⟨b, 6, none⟩ (.int .u32 0) .returning _ ?_ (by simp [f6])).mono ?_
 ·exact z0b (z0b (z0b h6 (by simp)) (by simp)) (by simp)
 rintro e u' w'' ⟨rfl, rfl, rfl⟩
 refine leaves_cons (f := 196) (args := #[.pointer (some ⟨b, 7, none⟩)]) (by simp [settle]) (by simp [go_sem]) ?_
 refine (zb3 ⟨b, 7, none⟩ _ _ ?_ (by simp [f7])).mono ?_
 ·refine z0b ?_ (by simp)
  rw [World.cell?_drew]
  exact z0b (z0b (World.cell?_setCell_same w _ _ h7) (by simp)) (by simp)
 rintro e u' w'' ⟨rfl, rfl, rfl⟩
 simp [Leaves, settle, results, Tryz.results183, z5x]
theorem zqm (b : Nat) (pe pn pm : Addr) (e n x y : Int) (w : World) (hpe : pe.block ≠ b) (hpn : pn.block ≠ b) (hpm : pm.block ≠ b)
  (he : w.cell? pe = some (.int .i64 e)) (hn : w.cell? pn = some (.int .i64 n)) (hm : w.cell? pm = some (.pointer (some ⟨b, 0, none⟩)))
  (h6 : w.cell? ⟨b, 6, none⟩ = some (.int .u32 0)) (h7 : w.cell? ⟨b, 7, none⟩ = some (.int .i32 0))
  (h9 : w.cell? ⟨b, 9, none⟩ = some (.int .i64 x)) (h10 : w.cell? ⟨b, 10, none⟩ = some (.int .i64 y))
  (fz : ∀ i, w.frozen? ⟨b, i, none⟩ = false) :
  Calls Tryz.prog 167 #[.pointer (some ⟨b, 6, none⟩), .func (.func 168) #[] #[.pointer (some pe), .pointer (some pn), .pointer (some pm)]] w fun r w' => r = .returned (.tuple #[]) ∧ z5x w b e n = w' := by
 have hl := run_call_load (P := Tryz.prog) Tryz.func194 (by kernel_rfl) (by kernel_rfl) (by kernel_rfl) .u32 (by kernel_rfl) h6
 have hnot : ∀ (x : Bool) (w : World), (Op.unary .not (.bool x)).run Tryz.prog w = .ok (.bool (!x)) w := fun _ _ => rfl
 go_enter Tryz.func167, Tryz.ntmps167
 go_wp2_with (first | (go_at_call 183; refine (zql b pe pn pm e n x y _ hpe hpn hpm he hn hm h6 h7 h9 h10 fz).mono ?_; rintro e w' ⟨rfl, rfl⟩) | (go_at_call 182; go_in))
 go_end0
 exact ⟨rfl, rfl⟩
theorem zua (a : Addr) (fv : Value) (w : World) (h6 : w.cell? a = some (.int .u32 1)) :
  Calls Tryz.prog 167 #[.pointer (some a), fv] w fun r w' => r = .returned (.tuple #[]) ∧ w = w' := by
 have hl := run_call_load (P := Tryz.prog) Tryz.func194 (by kernel_rfl) (by kernel_rfl) (by kernel_rfl) .u32 (by kernel_rfl) h6
 have hnot : ∀ (x : Bool) (w : World), (Op.unary .not (.bool x)).run Tryz.prog w = .ok (.bool (!x)) w := fun _ _ => rfl
 go_enter Tryz.func167, Tryz.ntmps167
 go_wp2
 go_end0
 exact ⟨rfl, rfl⟩
end
section
open Go.RowKit
theorem z26 (w : World) (r : Option Nat) : w.grownBy w r := ⟨rfl, rfl, rfl, Nat.le_refl _, fun _ _ _ => rfl⟩
theorem z06 {a b c : World} {r : Option Nat} (h : a.grownBy b r) (k : b.grownBy c r) : a.grownBy c r :=
 ⟨k.os.trans h.os, k.tape.trans h.tape, k.output.trans h.output, Nat.le_trans h.size k.size, fun i hi hr => (k.block i (Nat.lt_of_lt_of_le hi h.size) hr).trans (h.block i hi hr)⟩
theorem ze0 {a w : World} {r : Option Nat} (h : a.grownBy w r) (o : Obj) : a.grownBy (w.alloc o) r := z06 h (World.grownBy_alloc w o r)
theorem zb4 {a w : World} {r : Option Nat} (h : a.grownBy w r) : a.grownBy w.drew r := ⟨h.os, h.tape, h.output, h.size, h.block⟩
theorem z27 {a w : World} {b : Nat} (h : a.grownBy w (some b)) {p : Addr} (hp : p.block = b) (u : Value) : a.grownBy (w.setCell p u) (some b) :=
 z06 h ⟨rfl, rfl, rfl, by simp [World.setCell], fun k _ hr => Below.heap_setCell _ _ _ _ (fun e => hr (by rw [e, hp]))⟩
structure MSt where
 fu : Int
 li : Int
 te : Int
 pi : Int
 st : Int
 pc : Int
 wh : Int
 nn : Int
 deriving DecidableEq, Inhabited
def MSt.done (s : MSt) : Int := if s.wh = 0 then 0 else 1
structure MeterAt (w : World) (b : Nat) (s : MSt) : Prop where
 c0 : w.cell? ⟨b, 0, none⟩ = some (.int .i64 s.fu)
 c1 : w.cell? ⟨b, 1, none⟩ = some (.int .i64 s.li)
 c2 : w.cell? ⟨b, 2, none⟩ = some (.int .i64 s.te)
 c3 : w.cell? ⟨b, 3, none⟩ = some (.int .i64 s.pi)
 c4 : w.cell? ⟨b, 4, none⟩ = some (.int .i64 s.st)
 c5 : w.cell? ⟨b, 5, none⟩ = some (.int .i64 s.pc)
 c6 : w.cell? ⟨b, 6, none⟩ = some (.int .u32 s.done)
 c7 : w.cell? ⟨b, 7, none⟩ = some (.int .i32 0)
 c8 : w.cell? ⟨b, 8, none⟩ = some (.int .u32 0)
 c9 : w.cell? ⟨b, 9, none⟩ = some (.int .i64 s.wh)
 c10 : w.cell? ⟨b, 10, none⟩ = some (.int .i64 s.nn)
 fz : ∀ i, w.frozen? ⟨b, i, none⟩ = false
theorem MeterAt.alloc {w : World} {b : Nat} {s : MSt} (h : MeterAt w b s) (o : Obj) : MeterAt (w.alloc o) b s := by
 have hb : b < w.heap.size := z09 h.c0
 have e : Ext w (w.alloc o) := Ext.alloc (Ext.refl w) o
 exact ⟨e.cell h.c0, e.cell h.c1, e.cell h.c2, e.cell h.c3, e.cell h.c4, e.cell h.c5, e.cell h.c6, e.cell h.c7, e.cell h.c8, e.cell h.c9, e.cell h.c10, fun i => (Below.frozen e (p := ⟨b, i, none⟩) hb).trans (h.fz i)⟩
theorem MeterAt.kept {w w' : World} {b : Nat} {s : MSt} (h : MeterAt w b s) {B : Nat} (e : Below B w w') (hb : b < B) : MeterAt w' b s :=
 ⟨z69 e hb h.c0, z69 e hb h.c1, z69 e hb h.c2, z69 e hb h.c3, z69 e hb h.c4, z69 e hb h.c5, z69 e hb h.c6, z69 e hb h.c7, z69 e hb h.c8, z69 e hb h.c9, z69 e hb h.c10, fun i => (Below.frozen e (p := ⟨b, i, none⟩) hb).trans (h.fz i)⟩
theorem MeterAt.grown {w w' : World} {b : Nat} {s : MSt} (h : MeterAt w b s) {r : Option Nat} (e : w.grownBy w' r) (hb : some b ≠ r) : MeterAt w' b s := by
 have hl := z09 h.c0
 have hc : ∀ i, w'.cell? ⟨b, i, none⟩ = w.cell? ⟨b, i, none⟩ := fun i => World.cell?_of_block (e.block b hl hb)
 exact ⟨(hc _).trans h.c0, (hc _).trans h.c1, (hc _).trans h.c2, (hc _).trans h.c3, (hc _).trans h.c4, (hc _).trans h.c5, (hc _).trans h.c6, (hc _).trans h.c7, (hc _).trans h.c8, (hc _).trans h.c9, (hc _).trans h.c10, fun i => (World.frozen?_of_block (w := w) (a := ⟨b, i, none⟩) (e.block b hl hb)).trans (h.fz i)⟩
def MSt.refuse (s : MSt) (e n : Int) : MSt := if s.wh = 0 then { s with wh := e, nn := n } else s
theorem zk8 {w : World} {b : Nat} {s : MSt} (h : MeterAt w b s) (h0 : s.wh = 0) (e n : Int) (he : e ≠ 0) : MeterAt (z5x w b e n) b (s.refuse e n) := by
 have hr : s.refuse e n = { s with wh := e, nn := n } := by simp [MSt.refuse, h0]
 rw [hr]
 unfold z5x
 have k : ∀ i v, i ≠ 7 → i ≠ 9 → i ≠ 10 → i ≠ 6 → w.cell? ⟨b, i, none⟩ = some v → (((((w.setCell ⟨b, 7, none⟩ (.int .i32 1)).setCell ⟨b, 9, none⟩ (.int .i64 e)).setCell ⟨b, 10, none⟩ (.int .i64 n)).drew.setCell ⟨b, 6, none⟩ (.int .u32 1)).setCell ⟨b, 7, none⟩ (.int .i32 0)).cell? ⟨b, i, none⟩ = some v := by
  intro i v h7 h9 h10 h6 hv
  refine z0b (z0b ?_ (ao (by omega))) (ao (by omega))
  rw [World.cell?_drew]
  exact z0b (z0b (z0b hv (ao (by omega))) (ao (by omega))) (ao (by omega))
 have a6 : (((w.setCell ⟨b, 7, none⟩ (.int .i32 1)).setCell ⟨b, 9, none⟩ (.int .i64 e)).setCell ⟨b, 10, none⟩ (.int .i64 n)).drew.cell? ⟨b, 6, none⟩ = some (.int .u32 s.done) := by
  rw [World.cell?_drew]
  exact z0b (z0b (z0b h.c6 (ao (by omega))) (ao (by omega))) (ao (by omega))
 have a7 : (((w.setCell ⟨b, 7, none⟩ (.int .i32 1)).setCell ⟨b, 9, none⟩ (.int .i64 e)).setCell ⟨b, 10, none⟩ (.int .i64 n)).drew.cell? ⟨b, 7, none⟩ = some (.int .i32 1) := by
  rw [World.cell?_drew]
  exact z0b (z0b (z1f h.c7) (ao (by omega))) (ao (by omega))
 have a9 : (((w.setCell ⟨b, 7, none⟩ (.int .i32 1)).setCell ⟨b, 9, none⟩ (.int .i64 e)).setCell ⟨b, 10, none⟩ (.int .i64 n)).drew.cell? ⟨b, 9, none⟩ = some (.int .i64 e) := by
  rw [World.cell?_drew]
  exact z0b (z1f (z0b h.c9 (ao (by omega)))) (ao (by omega))
 have a10 : (((w.setCell ⟨b, 7, none⟩ (.int .i32 1)).setCell ⟨b, 9, none⟩ (.int .i64 e)).setCell ⟨b, 10, none⟩ (.int .i64 n)).drew.cell? ⟨b, 10, none⟩ = some (.int .i64 n) := by
  rw [World.cell?_drew]
  exact z1f (z0b (z0b h.c10 (ao (by omega))) (ao (by omega)))
 refine ⟨k 0 _ (by omega) (by omega) (by omega) (by omega) h.c0, k 1 _ (by omega) (by omega) (by omega) (by omega) h.c1, k 2 _ (by omega) (by omega) (by omega) (by omega) h.c2, k 3 _ (by omega) (by omega) (by omega) (by omega) h.c3,
  k 4 _ (by omega) (by omega) (by omega) (by omega) h.c4, k 5 _ (by omega) (by omega) (by omega) (by omega) h.c5, ?_, ?_, k 8 _ (by omega) (by omega) (by omega) (by omega) h.c8, ?_, ?_, fun i => ?_⟩
 ·have : MSt.done { s with wh := e, nn := n } = 1 := by simp [MSt.done, he]
  rw [this]
  exact z0b (z1f a6) (ao (by omega))
 ·exact z1f (z0b a7 (ao (by omega)))
 ·exact z0b (z0b a9 (ao (by omega))) (ao (by omega))
 ·exact z0b (z0b a10 (ao (by omega))) (ao (by omega))
 ·simp [h.fz i]
theorem zk9 (w : World) (b : Nat) (e n : Int) : w.grownBy (z5x w b e n) (some b) := by
 unfold z5x
 have h1 := z27 (z26 w (some b)) (p := ⟨b, 7, none⟩) rfl (.int .i32 1)
 have h2 := z27 h1 (p := ⟨b, 9, none⟩) rfl (.int .i64 e)
 have h3 := zb4 (z27 h2 (p := ⟨b, 10, none⟩) rfl (.int .i64 n))
 have h4 := z27 h3 (p := ⟨b, 6, none⟩) rfl (.int .u32 1)
 exact z27 h4 (p := ⟨b, 7, none⟩) rfl (.int .i32 0)
def Met (w : World) (b : Nat) (r : Int) (s : MSt) : Ending → World → Prop := fun e w' => e = .returned (.int .i64 r) ∧ MeterAt w' b s ∧ w.grownBy w' (some b)
theorem z79 (b : Nat) (s : MSt) (e n : Int) (w : World) (h : MeterAt w b s) (he : e ≠ 0) :
  Calls Tryz.prog 134 #[.pointer (some ⟨b, 0, none⟩), .int .i64 e, .int .i64 n] w (Met w b e (s.refuse e n)) := by
 have hmf : ∀ (fn : Fn) (first cap : Array Value) (w : World), (Instr.makeFunc fn first cap).run Tryz.prog w = .ok (.func fn first cap) w := fun _ _ _ _ => rfl
 have hb := z09 h.c0
 have h3 := ((h.alloc (.cells #[.pointer (some ⟨b, 0, none⟩)] 41)).alloc (.cells #[.int .i64 e] 42)).alloc (.cells #[.int .i64 n] 3)
 have g3 : w.grownBy (((w.alloc (.cells #[.pointer (some ⟨b, 0, none⟩)] 41)).alloc (.cells #[.int .i64 e] 42)).alloc (.cells #[.int .i64 n] 3)) (some b) := ze0 (ze0 (ze0 (z26 w _) _) _) _
 have q3 := h3.c6
 have p0 : (((w.alloc (.cells #[.pointer (some ⟨b, 0, none⟩)] 41)).alloc (.cells #[.int .i64 e] 42)).alloc (.cells #[.int .i64 n] 3)).cell? ⟨w.heap.size, 0, none⟩ = some (.pointer (some ⟨b, 0, none⟩)) := cell_old _ (cell_old _ (z01 w _ _ rfl rfl))
 have p1 : (((w.alloc (.cells #[.pointer (some ⟨b, 0, none⟩)] 41)).alloc (.cells #[.int .i64 e] 42)).alloc (.cells #[.int .i64 n] 3)).cell? ⟨w.heap.size + 1, 0, none⟩ = some (.int .i64 e) := cell_old _ (z01 _ _ _ (by simp) rfl)
 have p2 : (((w.alloc (.cells #[.pointer (some ⟨b, 0, none⟩)] 41)).alloc (.cells #[.int .i64 e] 42)).alloc (.cells #[.int .i64 n] 3)).cell? ⟨w.heap.size + 2, 0, none⟩ = some (.int .i64 n) := z01 _ _ _ (by simp) rfl
 by_cases h0 : s.wh = 0
 ·have hd : s.done = 0 := by simp [MSt.done, h0]
  rw [hd] at q3
  have hf := zk8 h3 h0 e n he
  have hg := z06 g3 (zk9 (((w.alloc (.cells #[.pointer (some ⟨b, 0, none⟩)] 41)).alloc (.cells #[.int .i64 e] 42)).alloc (.cells #[.int .i64 n] 3)) b e n)
  have ev : (z5x (((w.alloc (.cells #[.pointer (some ⟨b, 0, none⟩)] 41)).alloc (.cells #[.int .i64 e] 42)).alloc (.cells #[.int .i64 n] 3)) b e n).cell? ⟨w.heap.size + 1, 0, none⟩ = some (.int .i64 e) := by
   unfold z5x
   refine z0b (z0b ?_ (ab (by omega))) (ab (by omega))
   rw [World.cell?_drew]
   exact z0b (z0b (z0b p1 (ab (by omega))) (ab (by omega))) (ab (by omega))
  have H3 := hid h3
  have H := hid h
  have HF := hid hf
  have HG := hid hg
  clear h3 h hf hg g3 hd
  go_enter Tryz.func134, Tryz.ntmps134
  go_wp2_with (go_at_call 167; refine (zqm b ⟨w.heap.size + 1, 0, none⟩ ⟨w.heap.size + 2, 0, none⟩ ⟨w.heap.size, 0, none⟩ e n _ _ _ (by simp; omega) (by simp; omega) (by simp; omega) p1 p2 p0 q3 H3.out.c7 H3.out.c9 H3.out.c10 H3.out.fz).mono ?_; rintro e w' ⟨rfl, rfl⟩)
  go_ret
  exact ⟨rfl, HF.out, HG.out⟩
 ·have hd : s.done = 1 := by simp [MSt.done, h0]
  have hr : s.refuse e n = s := by simp [MSt.refuse, h0]
  rw [hd] at q3
  have H3 := hid h3
  have HR := hid hr
  have HG := hid g3
  clear h3 h g3 hd hr
  go_enter Tryz.func134, Tryz.ntmps134
  go_wp2_with (go_at_call 167; refine (zua _ _ _ q3).mono ?_; rintro e w' ⟨rfl, rfl⟩)
  go_ret
  rw [HR.out]
  exact ⟨rfl, H3.out, HG.out⟩
end
section
open Go.RowKit
def z2g (zs : List Nat) : Nat → Nat
 | 0 => 0
 | k + 1 => if zs.getD k 0 = 0 then z2g zs k else k + 1
theorem zcy (zs : List Nat) (k : Nat) : z2g zs k ≤ k := by
 induction k with
 | zero => simp [z2g]
 | succ k ih => simp only [z2g]; split <;> omega
def z0w (ts : List RTerm) : Nat → Nat
 | 0 => 0
 | k + 1 => max (z0w ts k) (z2g (ts.getD k default).c.mag (ts.getD k default).c.mag.length)
theorem z6l {S : Nat → Prop} {w : World} {v : Value} {ts : List RTerm} (h : z05 S w v ts) (k : Nat) (hk : k ≤ ts.length) : z0w ts k ≤ 9223372036854775807 := by
 induction k with
 | zero => simp [z0w]
 | succ k ih =>
  have ih := ih (by omega)
  obtain ⟨b, off, hs, hc⟩ := h
  obtain ⟨t, ht⟩ := z00 (show k < ts.length by omega)
  obtain ⟨vm, vo, h1, h2, h3, h4, h5⟩ := hc k t ht
  have h6 := h4.len_le
  have h7 := zcy t.c.mag t.c.mag.length
  simp only [z0w, List.getD, ht, Option.getD_some]
  omega
theorem zka {S : Nat → Prop} (bn : Nat) (v : Value) (zs : List Nat) (n : Nat) (w : World) (h : U32s S w v zs)
  (hn : w.cell? ⟨bn, 0, none⟩ = some (.int .i64 n)) (hf : w.frozen? ⟨bn, 0, none⟩ = false) :
  Calls Tryz.prog 174 #[v, .pointer (some ⟨bn, 0, none⟩)] w fun e w' => e = .returned (.tuple #[]) ∧ w.setCell ⟨bn, 0, none⟩ (.int .i64 (max n (z2g zs zs.length) : Nat)) = w' := by
 have hl := h.len_le
 obtain ⟨b, off, ⟨a, cap, rfl, hcap, hmax, ha, _⟩, hc⟩ := h
 go_enter Tryz.func174, Tryz.ntmps174
 go_wp2
 go_loop [3] (fun i => ∃ k : Nat, k ≤ zs.length ∧ i = .int .i64 k ∧ z2g zs k = z2g zs zs.length) (fun i => (intOf i).toNat)
 case atStart => exact ⟨zs.length, Nat.le_refl _, rfl, rfl⟩
 case round =>
  obtain ⟨k, hk, rfl, ht⟩ := hrel
  cases k with
  | zero =>
   have H := hid ht
   clear ht hc ha
   go_wp2
   all_goals
    go_end0
    refine ⟨rfl, ?_⟩
    rw [← H.out]
    simp [z2g]
  | succ k =>
   obtain rfl := ha (by omega)
   obtain ⟨z, hz⟩ := z00 (show k < zs.length by omega)
   obtain ⟨hzb, hcell⟩ := hc k z hz
   have H := hid ht
   have HZ := hid hz
   clear ht hc ha hz
   by_cases h0 : z = 0
   ·have hb : ((z : Int) == 0) = true := by simpa using h0
    have H0 := hid h0
    clear h0
    go_wp2
    go_round
    case rel => exact ⟨k, by omega, rfl, by rw [← H.out]; simp [z2g, HZ.out, H0.out]⟩
    case measure => simp only [intOf]; omega
   ·have hb : ((z : Int) == 0) = false := by simpa using h0
    have H0 := hid h0
    clear h0
    go_wp2
    all_goals
     go_end0
     refine ⟨rfl, ?_⟩
     rw [← H.out]
     simp only [z2g, List.getD, HZ.out, Option.getD_some]
     rw [if_neg H0.out]
     congr 2
     omega
theorem zb5 {S : Nat → Prop} (v : Value) (ts : List RTerm) (w : World) (h : z05 S w v ts) (hS : ∀ k, S k → k < w.heap.size) :
  Calls Tryz.prog 145 #[v] w fun e w' => e = .returned (.int .i64 (z0w ts ts.length : Nat)) ∧ Ext w w' := by
 have hmf : ∀ (fn : Fn) (first cap : Array Value) (w : World), (Instr.makeFunc fn first cap).run Tryz.prog w = .ok (.func fn first cap) w := fun _ _ _ _ => rfl
 have hl := h.len_le
 have HT := hid h
 obtain ⟨b, off, ⟨a, cap, rfl, hcap, hmax, ha, hin⟩, hc⟩ := h
 have HC := hid hc
 clear hc
 go_enter Tryz.func145, Tryz.ntmps145
 go_wp2
 go_loopw [9] (fun i wr => ∃ k : Nat, k ≤ ts.length ∧ i = .int .i64 k ∧ wr.cell? ⟨w.heap.size, 0, none⟩ = some (.int .i64 (z0w ts k : Nat)) ∧ wr.frozen? ⟨w.heap.size, 0, none⟩ = false ∧ Ext w wr) (fun i _ => ts.length - (intOf i).toNat)
 case atStart => exact ⟨0, Nat.zero_le _, rfl, by simp [z0w], by simp, Ext.alloc (Ext.refl _) _⟩
 case round =>
  obtain ⟨k, hk, rfl, hn, hf, hx⟩ := hrel
  have HX := hid hx
  by_cases hlt : k < ts.length
  ·obtain ⟨t, ht⟩ := z00 hlt
   obtain ⟨vm, vo, h1, h2, h3, h4, h5⟩ := HC.out k t ht
   have HK := hid ht
   obtain rfl := ha (by omega)
   have g1 := Ext.cell hx h1
   have g2 := Ext.cell hx h2
   have g3 := Ext.cell hx h3
   have H4 := hid (h4.to (Kept.of_below hx |>.mono hS) (fun k hk => hk))
   obtain ⟨am, cm, rfl⟩ := h4.form
   obtain ⟨ao, co, rfl⟩ := h5.form
   clear h1 h2 h3 h4 h5 hx ht
   go_wp2_with fail
   refine (zka (S := S) w.heap.size _ t.c.mag (z0w ts k) _ ?_ (cell_old _ hn) (zi7 _ (z09 hn) hf)).mono ?_
   ·exact H4.out.to (Kept.alloc (fun k hk => Nat.lt_of_lt_of_le (hS k hk) HX.out.size) _) (fun k hk => hk)
   rintro e w' ⟨rfl, rfl⟩
   have hb := z09 hn
   go_wp2
   go_roundw
   case rel =>
    refine ⟨k + 1, by omega, by go_num, ?_, zi7 _ (by rw [z0s]; exact hb) (z1k hf), (HX.out.setCell (p := ⟨w.heap.size, 0, none⟩) (Nat.le_refl _) _).alloc (by rw [z0s]; omega) _⟩
    have e : z0w ts (k + 1) = max (z0w ts k) (z2g t.c.mag t.c.mag.length) := by simp [z0w, List.getD, HK.out]
    rw [e]
    exact cell_old _ (z1f hn)
   case measure => simp only [intOf]; omega
  ·obtain rfl : k = ts.length := by omega
   go_wp2
   refine bodyPost_ret (v := .int .i64 (z0w ts ts.length : Nat)) (by simp [results, Tryz.results145, go_sem, z1f hn]) rfl ⟨rfl, HX.out.setCell (p := ⟨w.heap.size, 0, none⟩) (Nat.le_refl _) _⟩
end
section
open Go.RowKit
theorem zqn (b o : Nat) (n most e : Int) (w : World) (hn : w.cell? ⟨b, o, none⟩ = some (.int .i64 n)) (hf : w.frozen? ⟨b, o, none⟩ = false) (h0 : 0 ≤ n) (h1 : n ≤ 1000000000) (hlt : n < most) :
  Calls Tryz.prog 186 #[.pointer (some ⟨b, 0, none⟩), .pointer (some ⟨b, o, none⟩), .int .i64 most, .int .i64 e] w fun r w' => r = .returned (.int .i64 0) ∧ w.setCell ⟨b, o, none⟩ (.int .i64 (n + 1)) = w' := by
 go_enter Tryz.func186, Tryz.ntmps186
 go_wp2_with (first | (go_at_call 58; refine (zdy _ n _ hn).mono ?_; rintro e w' ⟨rfl, rfl⟩) | (go_at_call 199; refine (zqk _ n _ hn hf h0 h1).mono ?_; rintro e w' ⟨rfl, rfl⟩))
 go_ret
 exact ⟨rfl, rfl⟩
theorem zqo (b o : Nat) (s : MSt) (n most e : Int) (w : World) (h : MeterAt w b s) (hn : w.cell? ⟨b, o, none⟩ = some (.int .i64 n)) (he : e ≠ 0) (hlt : most ≤ n) (hm : -1 ≤ most) (hm' : most ≤ 1000000000) :
  Calls Tryz.prog 186 #[.pointer (some ⟨b, 0, none⟩), .pointer (some ⟨b, o, none⟩), .int .i64 most, .int .i64 e] w (Met w b e (s.refuse e (most + 1))) := by
 have H := hid h
 have HE := hid he
 clear h he
 go_enter Tryz.func186, Tryz.ntmps186
 go_wp2_with (first | (go_at_call 58; refine (zdy _ n _ hn).mono ?_; rintro e w' ⟨rfl, rfl⟩) | (go_at_call 134; refine (z79 b s e (most + 1) _ H.out HE.out).mono ?_; rintro e w' ⟨rfl, hq⟩))
 go_ret
 exact ⟨rfl, hq⟩
def MSt.step (s : MSt) : Int × MSt := if s.st < s.fu then (0, { s with st := s.st + 1 }) else (9, s.refuse 9 (s.fu + 1))
structure MSt.Ok (s : MSt) : Prop where
 f0 : 0 ≤ s.fu
 f1 : s.fu ≤ 1000000
 l0 : 0 ≤ s.li
 l1 : s.li ≤ 10000
 t0 : 0 ≤ s.te
 t1 : s.te ≤ 100000
 p0 : 0 ≤ s.pi
 p1 : s.pi ≤ 1000
 s0 : 0 ≤ s.st
 s1 : s.st ≤ s.fu
 c0 : 0 ≤ s.pc
 c1 : s.pc ≤ s.pi
theorem MeterAt.drew {w : World} {b : Nat} {s : MSt} (h : MeterAt w b s) : MeterAt w.drew b s := h.grown (r := none) (zb4 (z26 w none)) (by simp)
theorem MeterAt.setSt {w : World} {b : Nat} {s : MSt} (h : MeterAt w b s) (n : Int) : MeterAt (w.setCell ⟨b, 4, none⟩ (.int .i64 n)) b { s with st := n } :=
 ⟨z0b h.c0 (ao (by omega)), z0b h.c1 (ao (by omega)), z0b h.c2 (ao (by omega)), z0b h.c3 (ao (by omega)), z1f h.c4, z0b h.c5 (ao (by omega)), z0b h.c6 (ao (by omega)), z0b h.c7 (ao (by omega)), z0b h.c8 (ao (by omega)), z0b h.c9 (ao (by omega)), z0b h.c10 (ao (by omega)), fun i => z1k (h.fz i)⟩
theorem Met.of_drew {w : World} {b : Nat} {r : Int} {s : MSt} {e : Ending} {w' : World} (h : Met w.drew b r s e w') : Met w b r s e w' :=
 ⟨h.1, h.2.1, z06 (zb4 (z26 w _)) h.2.2⟩
theorem zqp (b : Nat) (s : MSt) (w : World) (h : MeterAt w b s) (ok : s.Ok) :
  Calls Tryz.prog 172 #[.pointer (some ⟨b, 0, none⟩)] w (Met w b s.step.1 s.step.2) := by
 have hfu := h.c0
 have hst : w.drew.cell? ⟨b, 4, none⟩ = some (.int .i64 s.st) := by rw [World.cell?_drew]; exact h.c4
 have hf : w.drew.frozen? ⟨b, 4, none⟩ = false := by rw [World.frozen?_drew]; exact h.fz 4
 have b1 := ok.f0
 have b2 := ok.f1
 have b3 := ok.s0
 have b4 := ok.s1
 have H := hid h.drew
 clear h ok
 by_cases hlt : s.st < s.fu
 ·have e1 : s.step = (0, { s with st := s.st + 1 }) := by simp [MSt.step, hlt]
  rw [e1]
  clear e1
  go_enter Tryz.func172, Tryz.ntmps172
  go_wp2
  go_still_tail 9, (by kernel_rfl)
  change wpList _ _ _ _ _ w.drew
  go_wp2_with (go_at_call 186; refine (zqn b 4 s.st s.fu 9 w.drew hst hf b3 (by omega) hlt).mono ?_; rintro e w' ⟨rfl, rfl⟩)
  go_ret
  exact Met.of_drew ⟨rfl, H.out.setSt _, z27 (z26 _ _) rfl _⟩
 ·have e1 : s.step = (9, s.refuse 9 (s.fu + 1)) := by simp [MSt.step, hlt]
  rw [e1]
  clear e1
  go_enter Tryz.func172, Tryz.ntmps172
  go_wp2
  go_still_tail 9, (by kernel_rfl)
  change wpList _ _ _ _ _ w.drew
  go_wp2_with (go_at_call 186; refine (zqo b 4 s s.st s.fu 9 w.drew H.out hst (by decide) (by omega) (by omega) (by omega)).mono ?_; rintro e w' ⟨rfl, hq⟩)
  go_ret
  exact Met.of_drew ⟨rfl, hq⟩
def MSt.refused (s : MSt) (e : Int) : MSt := if e = 8 then s.refuse 8 0 else s
theorem zkb (b : Nat) (s : MSt) (e : Int) (w : World) (h : MeterAt w b s) :
  Calls Tryz.prog 87 #[.pointer (some ⟨b, 0, none⟩), .int .i64 e] w (Met w b e (s.refused e)) := by
 have H := hid h
 clear h
 by_cases he : e = 8
 ·subst he
  have e1 : s.refused 8 = s.refuse 8 0 := by simp [MSt.refused]
  rw [e1]
  clear e1
  go_enter Tryz.func87, Tryz.ntmps87
  go_wp2_with (go_at_call 134; refine (z79 b s 8 0 _ H.out (by decide)).mono ?_; rintro e w' ⟨rfl, hq⟩)
  go_ret
  exact ⟨rfl, hq⟩
 ·have e1 : s.refused e = s := by simp [MSt.refused, he]
  have hb : (e == 8) = false := by simpa using he
  rw [e1]
  clear e1 he
  go_enter Tryz.func87, Tryz.ntmps87
  go_wp2
  go_ret
  exact ⟨rfl, H.out, z26 _ _⟩
theorem zig (b : Nat) (s : MSt) (w : World) (h : MeterAt w b s) :
  Calls Tryz.prog 22 #[.pointer (some ⟨b, 0, none⟩)] w fun e w' => e = .returned (.int .i64 s.st) ∧ w = w' := by
 have h4 := h.c4
 clear h
 go_enter Tryz.func22, Tryz.ntmps22
 go_wp2_with (go_at_call 58; refine (zdy _ s.st _ h4).mono ?_; rintro e w' ⟨rfl, rfl⟩)
 go_ret
 exact ⟨rfl, rfl⟩
theorem zih (b : Nat) (s : MSt) (w : World) (h : MeterAt w b s) :
  Calls Tryz.prog 23 #[.pointer (some ⟨b, 0, none⟩)] w fun e w' => e = .returned (.agg #[.int .i64 s.wh, .int .i64 s.nn]) ∧ Ext w w' := by
 have h9 := fun o => cell_old (w := w) o h.c9
 have h10 := fun o => cell_old (w := w) o h.c10
 clear h
 go_enter Tryz.func23, Tryz.ntmps23
 go_wp2
 exact bodyPost_ret (v := .agg #[.int .i64 s.wh, .int .i64 s.nn]) (by simp [results, Tryz.results23, go_sem]) rfl ⟨rfl, Ext.alloc (Ext.refl _) _⟩
end
section
open Go.RowKit
theorem z07 {w w' : World} (h : Ext w w') (r : Option Nat) : w.grownBy w' r := ⟨h.os, h.tape, h.output, h.size, fun k hk _ => h.block k hk⟩
def MSt.keep (s : MSt) (n len : Nat) : Int × MSt := if s.li < n then (10, s.refuse 10 n) else if s.te < len then (11, s.refuse 11 len) else (0, s)
theorem zqq {S : Nat → Prop} (b : Nat) (s : MSt) (v : Value) (ts : List RTerm) (w : World) (h : MeterAt w b s) (ht : z05 S w v ts) (hS : ∀ k, S k → k < w.heap.size) :
  Calls Tryz.prog 96 #[.pointer (some ⟨b, 0, none⟩), v] w (Met w b (s.keep (z0w ts ts.length) ts.length).1 (s.keep (z0w ts ts.length) ts.length).2) := by
 have hb := z09 h.c0
 have hll := z6l ht ts.length (Nat.le_refl _)
 have hlen := ht.len_le
 obtain ⟨a, cap, rfl⟩ := ht.form
 have HT := hid ht
 generalize hn : z0w ts ts.length = n at hll
 have HN := hid hn
 have H := hid h
 clear ht h hn
 by_cases h1 : s.li < n
 ·have e1 : s.keep n ts.length = (10, s.refuse 10 n) := by simp [MSt.keep, h1]
  rw [e1]
  clear e1
  go_enter Tryz.func96, Tryz.ntmps96
  go_wp2_with fail
  refine (zb5 _ ts _ HT.out hS).mono ?_
  rintro e w' ⟨rfl, hx⟩
  rw [HN.out]
  have q1 := (H.out.kept hx hb).c1
  have HX := hid hx
  clear hx
  go_wp2_with (go_at_call 134; refine (z79 b s 10 n _ (H.out.kept HX.out hb) (by decide)).mono ?_; rintro e w'' ⟨rfl, hq⟩)
  go_ret
  exact ⟨rfl, hq.1, z06 (z07 HX.out _) hq.2⟩
 by_cases h2 : s.te < ts.length
 ·have e1 : s.keep n ts.length = (11, s.refuse 11 ts.length) := by simp [MSt.keep, h1, h2]
  rw [e1]
  clear e1
  go_enter Tryz.func96, Tryz.ntmps96
  go_wp2_with fail
  refine (zb5 _ ts _ HT.out hS).mono ?_
  rintro e w' ⟨rfl, hx⟩
  rw [HN.out]
  have q1 := (H.out.kept hx hb).c1
  have q2 := (H.out.kept hx hb).c2
  have HX := hid hx
  clear hx
  go_wp2_with (go_at_call 134; refine (z79 b s 11 ts.length _ (H.out.kept HX.out hb) (by decide)).mono ?_; rintro e w'' ⟨rfl, hq⟩)
  go_ret
  exact ⟨rfl, hq.1, z06 (z07 HX.out _) hq.2⟩
 ·have e1 : s.keep n ts.length = (0, s) := by simp [MSt.keep, h1, h2]
  rw [e1]
  clear e1
  go_enter Tryz.func96, Tryz.ntmps96
  go_wp2_with fail
  refine (zb5 _ ts _ HT.out hS).mono ?_
  rintro e w' ⟨rfl, hx⟩
  rw [HN.out]
  have q1 := (H.out.kept hx hb).c1
  have q2 := (H.out.kept hx hb).c2
  have HX := hid hx
  clear hx
  go_wp2_with fail
  go_ret
  exact ⟨rfl, H.out.kept HX.out hb, z07 HX.out _⟩
def MSt.new (a b c d : Int) : MSt := ⟨a, b, c, d, 0, 0, 0, 0⟩
def z4q (a b c d : Int) : Prop := (0 ≤ a ∧ a ≤ 1000000) ∧ (0 ≤ b ∧ b ≤ 10000) ∧ (0 ≤ c ∧ c ≤ 100000) ∧ 0 ≤ d ∧ d ≤ 1000
def zmm (a b c d : Int) (w : World) : Ending → World → Prop := fun e w' =>
 Ext w w' ∧ ((z4q a b c d ∧ ∃ k, w.heap.size ≤ k ∧ MeterAt w' k (MSt.new a b c d) ∧ e = .returned (.tuple #[.pointer (some ⟨k, 0, none⟩), .int .i64 0])) ∨
  (¬ z4q a b c d ∧ e = .returned (.tuple #[.pointer none, .int .i64 2])))
def okTo (a b c d : Int) (k : Nat) : Prop := (0 < k → 0 ≤ a ∧ a ≤ 1000000) ∧ (1 < k → 0 ≤ b ∧ b ≤ 10000) ∧ (2 < k → 0 ≤ c ∧ c ≤ 100000) ∧ (3 < k → 0 ≤ d ∧ d ≤ 1000)
theorem z34 {a b c d : Int} {w w' : World} {e : Ending} (h : ¬ z4q a b c d) (hx : Ext w w') (he : e = .returned (.tuple #[.pointer none, .int .i64 2])) : zmm a b c d w e w' := ⟨hx, .inr ⟨h, he⟩⟩
theorem zub (a b c d : Int) (w : World) :
  Calls Tryz.prog 14 #[.agg #[.int .i64 a, .int .i64 b, .int .i64 c, .int .i64 d]] w (zmm a b c d w) := by
 have i0 : ∀ w, (Instr.index 104 (.agg #[.int .i64 a, .int .i64 1000000, .int .i64 b, .int .i64 10000, .int .i64 c, .int .i64 100000, .int .i64 d, .int .i64 1000]) (.int .i64 0)).run Tryz.prog w = .ok (.agg #[.int .i64 a, .int .i64 1000000]) w := fun _ => by kernel_rfl
 have i1 : ∀ w, (Instr.index 104 (.agg #[.int .i64 a, .int .i64 1000000, .int .i64 b, .int .i64 10000, .int .i64 c, .int .i64 100000, .int .i64 d, .int .i64 1000]) (.int .i64 1)).run Tryz.prog w = .ok (.agg #[.int .i64 b, .int .i64 10000]) w := fun _ => by kernel_rfl
 have i2 : ∀ w, (Instr.index 104 (.agg #[.int .i64 a, .int .i64 1000000, .int .i64 b, .int .i64 10000, .int .i64 c, .int .i64 100000, .int .i64 d, .int .i64 1000]) (.int .i64 2)).run Tryz.prog w = .ok (.agg #[.int .i64 c, .int .i64 100000]) w := fun _ => by kernel_rfl
 have i3 : ∀ w, (Instr.index 104 (.agg #[.int .i64 a, .int .i64 1000000, .int .i64 b, .int .i64 10000, .int .i64 c, .int .i64 100000, .int .i64 d, .int .i64 1000]) (.int .i64 3)).run Tryz.prog w = .ok (.agg #[.int .i64 d, .int .i64 1000]) w := fun _ => by kernel_rfl
 have HX0 : Hid (Ext w (w.alloc (.cells #[.int .i64 a, .int .i64 b, .int .i64 c, .int .i64 d] 46))) := hid (Ext.alloc (Ext.refl _) _)
 go_enter Tryz.func14, Tryz.ntmps14
 go_wp2
 go_loopw [19] (fun i wr => ∃ k : Nat, k ≤ 4 ∧ i = .int .i64 k ∧ okTo a b c d k ∧ Ext (w.alloc (.cells #[.int .i64 a, .int .i64 b, .int .i64 c, .int .i64 d] 46)) wr) (fun i _ => 4 - (intOf i).toNat)
 case atStart => exact ⟨0, by omega, rfl, ⟨by omega, by omega, by omega, by omega⟩, Ext.refl _⟩
 case round =>
  obtain ⟨k, hk, rfl, hok, hx⟩ := hrel
  have HO := hid hok
  have HX := hid hx
  have e0 := Ext.cell hx (z01 w #[.int .i64 a, .int .i64 b, .int .i64 c, .int .i64 d] 46 rfl (i := 0) rfl)
  have e1 := Ext.cell hx (z01 w #[.int .i64 a, .int .i64 b, .int .i64 c, .int .i64 d] 46 rfl (i := 1) rfl)
  have e2 := Ext.cell hx (z01 w #[.int .i64 a, .int .i64 b, .int .i64 c, .int .i64 d] 46 rfl (i := 2) rfl)
  have e3 := Ext.cell hx (z01 w #[.int .i64 a, .int .i64 b, .int .i64 c, .int .i64 d] 46 rfl (i := 3) rfl)
  clear hok hx
  obtain rfl | rfl | rfl | rfl | rfl : k = 0 ∨ k = 1 ∨ k = 2 ∨ k = 3 ∨ k = 4 := by omega
  ·by_cases h1 : a < 0
   ·go_wp2
    go_ret2
    exact z34 (fun h => by have := h.1; omega) (HX0.out.trans (Ext.alloc HX.out _)) rfl
   by_cases h2 : a ≤ 1000000
   ·go_wp2
    go_roundw
    case rel => exact ⟨1, by omega, rfl, ⟨by omega, by omega, by omega, by omega⟩, Ext.alloc HX.out _⟩
    case measure => simp [intOf]
   ·go_wp2
    go_ret2
    exact z34 (fun h => by have := h.1; omega) (HX0.out.trans (Ext.alloc HX.out _)) rfl
  ·by_cases h1 : b < 0
   ·go_wp2
    go_ret2
    exact z34 (fun h => by have := h.2.1; omega) (HX0.out.trans (Ext.alloc HX.out _)) rfl
   by_cases h2 : b ≤ 10000
   ·go_wp2
    go_roundw
    case rel => exact ⟨2, by omega, rfl, ⟨fun _ => HO.out.1 (by omega), by omega, by omega, by omega⟩, Ext.alloc HX.out _⟩
    case measure => simp [intOf]
   ·go_wp2
    go_ret2
    exact z34 (fun h => by have := h.2.1; omega) (HX0.out.trans (Ext.alloc HX.out _)) rfl
  ·by_cases h1 : c < 0
   ·go_wp2
    go_ret2
    exact z34 (fun h => by have := h.2.2.1; omega) (HX0.out.trans (Ext.alloc HX.out _)) rfl
   by_cases h2 : c ≤ 100000
   ·go_wp2
    go_roundw
    case rel => exact ⟨3, by omega, rfl, ⟨fun _ => HO.out.1 (by omega), fun _ => HO.out.2.1 (by omega), by omega, by omega⟩, Ext.alloc HX.out _⟩
    case measure => simp [intOf]
   ·go_wp2
    go_ret2
    exact z34 (fun h => by have := h.2.2.1; omega) (HX0.out.trans (Ext.alloc HX.out _)) rfl
  ·by_cases h1 : d < 0
   ·go_wp2
    go_ret2
    exact z34 (fun h => by have := h.2.2.2; omega) (HX0.out.trans (Ext.alloc HX.out _)) rfl
   by_cases h2 : d ≤ 1000
   ·go_wp2
    go_roundw
    case rel => exact ⟨4, by omega, rfl, ⟨fun _ => HO.out.1 (by omega), fun _ => HO.out.2.1 (by omega), fun _ => HO.out.2.2.1 (by omega), by omega⟩, Ext.alloc HX.out _⟩
    case measure => simp [intOf]
   ·go_wp2
    go_ret2
    exact z34 (fun h => by have := h.2.2.2; omega) (HX0.out.trans (Ext.alloc HX.out _)) rfl
  ·go_wp2
   go_ret2
   refine ⟨HX0.out.trans (Ext.alloc HX.out _), .inl ⟨⟨HO.out.1 (by omega), HO.out.2.1 (by omega), HO.out.2.2.1 (by omega), HO.out.2.2.2 (by omega)⟩, _, Nat.le_trans HX0.out.size HX.out.size, ?_, rfl⟩⟩
   exact ⟨z01 _ _ _ rfl rfl, z01 _ _ _ rfl rfl, z01 _ _ _ rfl rfl, z01 _ _ _ rfl rfl, z01 _ _ _ rfl rfl, z01 _ _ _ rfl rfl, z01 _ _ _ rfl rfl, z01 _ _ _ rfl rfl, z01 _ _ _ rfl rfl, z01 _ _ _ rfl rfl, z01 _ _ _ rfl rfl, fun i => z2r _ _ _⟩
end
section
open Go.RowKit
theorem zf4 {S : Nat → Prop} (v : Value) (ts : List RTerm) (w : World) (h : z05 S w v ts) :
  Calls Tryz.prog 148 #[v] w fun e w' => e = .returned (.int .i64 (z0w ts ts.length : Nat)) ∧ w = w' := by
 have hl := h.len_le
 have HM := hid (fun k (hk : k ≤ ts.length) => z6l h k hk)
 obtain ⟨b, off, ⟨a, cap, rfl, hcap, hmax, ha, hin⟩, hc⟩ := h
 have HC := hid hc
 clear hc
 go_enter Tryz.func148, Tryz.ntmps148
 go_wp2
 go_loop [3, 4] (fun m i => ∃ k : Nat, k ≤ ts.length ∧ i = .int .i64 k ∧ m = .int .i64 (z0w ts k : Nat)) (fun _ i => ts.length - (intOf i).toNat)
 case atStart => exact ⟨0, Nat.zero_le _, rfl, rfl⟩
 case round =>
  obtain ⟨k, hk, rfl, rfl⟩ := hrel
  by_cases hlt : k < ts.length
  ·obtain ⟨t, ht⟩ := z00 hlt
   obtain ⟨vm, vo, h1, h2, h3, h4, h5⟩ := HC.out k t ht
   have HK := hid ht
   obtain rfl := ha (by omega)
   have hml := h4.len_le
   have hb0 := HM.out (k + 1) hlt
   have e : z0w ts (k + 1) = max (z0w ts k) (z2g t.c.mag t.c.mag.length) := by simp [z0w, List.getD, HK.out]
   obtain ⟨bm, om, ⟨am, cm, rfl, hmc, hmm, ham, _⟩, hcm⟩ := h4
   obtain ⟨ao, co, rfl⟩ := h5.form
   generalize hq : z0w ts k = q at e
   have hq0 := HM.out k hk
   rw [hq] at hq0
   rw [e] at hb0
   have HE := hid e
   have HQ := hid hq
   have HCM := hid hcm
   clear h1 h3 h5 ht e hq hcm
   go_wp2
   go_loop [3, 5] (fun m i => ∃ j : Nat, j ≤ t.c.mag.length ∧ i = .int .i64 j ∧ m = .int .i64 (max q (z2g t.c.mag j) : Nat)) (fun _ i => t.c.mag.length - (intOf i).toNat)
   case atStart => exact ⟨0, Nat.zero_le _, rfl, by simp [z2g]⟩
   case round =>
    obtain ⟨j, hj, rfl, rfl⟩ := hrel
    have hjb := zcy t.c.mag j
    by_cases hjl : j < t.c.mag.length
    ·obtain ⟨z, hz⟩ := z00 hjl
     obtain ⟨hz1, hz2⟩ := HCM.out j z hz
     obtain rfl := ham (by omega)
     have e2 : z2g t.c.mag (j + 1) = if z = 0 then z2g t.c.mag j else j + 1 := by simp [z2g, List.getD, hz]
     have HZ := hid e2
     generalize z2g t.c.mag j = r at hjb HZ
     clear e2 hz
     by_cases h0 : z = 0
     ·have hb : ((z : Int) != 0) = false := by simp [h0]
      have H0 := hid h0
      clear h0
      go_wp2
      go_round
      case rel => exact ⟨j + 1, by omega, by go_num, by rw [HZ.out, if_pos H0.out]⟩
      case measure => simp only [intOf]; omega
     ·have hb : ((z : Int) != 0) = true := by simp [h0]
      have H0 := hid h0
      clear h0
      by_cases hg : max q r < j + 1
      ·go_wp2
       go_round
       case rel => exact ⟨j + 1, by omega, by go_num, by rw [HZ.out, if_neg H0.out]; have : max q (j + 1) = j + 1 := by omega
                                                         rw [this]; go_num⟩
       case measure => simp only [intOf]; omega
      ·go_wp2
       go_round
       case rel => exact ⟨j + 1, by omega, by go_num, by rw [HZ.out, if_neg H0.out]; have : max q (j + 1) = max q r := by omega
                                                         rw [this]⟩
       case measure => simp only [intOf]; omega
    ·obtain rfl : j = t.c.mag.length := by omega
     go_wp2
     go_round
     case rel => exact ⟨k + 1, by omega, by go_num, by rw [HE.out]⟩
     case measure => simp only [intOf]; omega
  ·obtain rfl : k = ts.length := by omega
   go_wp2
   go_ret
   exact ⟨rfl, rfl⟩
structure RefAt (w : World) (b : Nat) (s : MSt) : Prop where
 c0 : w.cell? ⟨b, 0, none⟩ = some (.int .i64 s.fu)
 c1 : w.cell? ⟨b, 1, none⟩ = some (.int .i64 s.li)
 c2 : w.cell? ⟨b, 2, none⟩ = some (.int .i64 s.te)
 c3 : w.cell? ⟨b, 3, none⟩ = some (.int .i64 s.pi)
 c4 : w.cell? ⟨b, 4, none⟩ = some (.int .i64 s.st)
 c5 : w.cell? ⟨b, 5, none⟩ = some (.int .i64 s.pc)
 c6 : w.cell? ⟨b, 6, none⟩ = some (.int .i64 s.wh)
 c7 : w.cell? ⟨b, 7, none⟩ = some (.int .i64 s.nn)
 fz : ∀ i, w.frozen? ⟨b, i, none⟩ = false
theorem RefAt.grown {w w' : World} {b : Nat} {s : MSt} (h : RefAt w b s) {r : Option Nat} (e : w.grownBy w' r) (hb : some b ≠ r) : RefAt w' b s := by
 have hl := z09 h.c0
 have hc : ∀ i, w'.cell? ⟨b, i, none⟩ = w.cell? ⟨b, i, none⟩ := fun i => World.cell?_of_block (e.block b hl hb)
 exact ⟨(hc _).trans h.c0, (hc _).trans h.c1, (hc _).trans h.c2, (hc _).trans h.c3, (hc _).trans h.c4, (hc _).trans h.c5, (hc _).trans h.c6, (hc _).trans h.c7, fun i => (World.frozen?_of_block (w := w) (a := ⟨b, i, none⟩) (e.block b hl hb)).trans (h.fz i)⟩
theorem RefAt.drewN {w : World} {b : Nat} {s : MSt} (h : RefAt w b s) (n : Nat) : RefAt (w.drewN n) b s := h.grown (r := none) ⟨rfl, rfl, rfl, Nat.le_refl _, fun _ _ _ => rfl⟩ (by simp)
theorem RefAt.setSt {w : World} {b : Nat} {s : MSt} (h : RefAt w b s) (n : Int) : RefAt (w.setCell ⟨b, 4, none⟩ (.int .i64 n)) b { s with st := n } :=
 ⟨z0b h.c0 (ao (by omega)), z0b h.c1 (ao (by omega)), z0b h.c2 (ao (by omega)), z0b h.c3 (ao (by omega)), z1f h.c4, z0b h.c5 (ao (by omega)), z0b h.c6 (ao (by omega)), z0b h.c7 (ao (by omega)), fun i => z1k (h.fz i)⟩
theorem RefAt.setNeed {w : World} {b : Nat} {s : MSt} (h : RefAt w b s) (e n : Int) : RefAt ((w.setCell ⟨b, 6, none⟩ (.int .i64 e)).setCell ⟨b, 7, none⟩ (.int .i64 n)) b { s with wh := e, nn := n } :=
 ⟨z0b (z0b h.c0 (ao (by omega))) (ao (by omega)), z0b (z0b h.c1 (ao (by omega))) (ao (by omega)), z0b (z0b h.c2 (ao (by omega))) (ao (by omega)), z0b (z0b h.c3 (ao (by omega))) (ao (by omega)), z0b (z0b h.c4 (ao (by omega))) (ao (by omega)), z0b (z0b h.c5 (ao (by omega))) (ao (by omega)),
  z0b (z1f h.c6) (ao (by omega)), z1f (z0b h.c7 (ao (by omega))), fun i => z1k (z1k (h.fz i))⟩
def RMet (w : World) (b : Nat) (r : Int) (s : MSt) : Ending → World → Prop := fun e w' => e = .returned (.int .i64 r) ∧ RefAt w' b s ∧ w.grownBy w' (some b)
theorem z8l (w : World) (n : Nat) (r : Option Nat) : w.grownBy (w.drewN n) r := ⟨rfl, rfl, rfl, Nat.le_refl _, fun _ _ _ => rfl⟩
theorem z4c (b : Nat) (s : MSt) (e n : Int) (w : World) (h : RefAt w b s) :
  Calls Tryz.prog 147 #[.pointer (some ⟨b, 0, none⟩), .int .i64 e, .int .i64 n] w (RMet w b e (s.refuse e n)) := by
 have h6 := h.c6
 have h7 := h.c7
 have f6 := h.fz 6
 have f7 := h.fz 7
 have H := hid h
 clear h
 by_cases h0 : s.wh = 0
 ·have e1 : s.refuse e n = { s with wh := e, nn := n } := by simp [MSt.refuse, h0]
  rw [e1]
  clear e1
  have hb : (s.wh == 0) = true := by simp [h0]
  clear h0
  go_enter Tryz.func147, Tryz.ntmps147
  go_wp2
  go_ret
  exact ⟨rfl, H.out.setNeed e n, z27 (p := ⟨b, 7, none⟩) (z27 (p := ⟨b, 6, none⟩) (z26 _ _) rfl _) rfl _⟩
 ·have e1 : s.refuse e n = s := by simp [MSt.refuse, h0]
  rw [e1]
  clear e1
  have hb : (s.wh == 0) = false := by simp [h0]
  clear h0
  go_enter Tryz.func147, Tryz.ntmps147
  go_wp2
  go_ret
  exact ⟨rfl, H.out, z26 _ _⟩
theorem zh8 (b : Nat) (s : MSt) (w : World) (h : RefAt w b s) (ok : s.Ok) :
  Calls Tryz.prog 146 #[.pointer (some ⟨b, 0, none⟩)] w (RMet w b s.step.1 s.step.2) := by
 have h0 := h.c0
 have h4 := h.c4
 have f4 := h.fz 4
 have b1 := ok.f0
 have b2 := ok.f1
 have b3 := ok.s0
 have b4 := ok.s1
 have H := hid h
 clear h ok
 by_cases hlt : s.st < s.fu
 ·have e1 : s.step = (0, { s with st := s.st + 1 }) := by simp [MSt.step, hlt]
  rw [e1]
  clear e1
  have hb : (s.st == s.fu) = false := by simp; omega
  go_enter Tryz.func146, Tryz.ntmps146
  go_wp2
  go_quiet (fail)
  go_wp2
  go_ret
  exact ⟨rfl, (H.out.drewN _).setSt _, z27 (z8l _ _ _) rfl _⟩
 ·have e1 : s.step = (9, s.refuse 9 (s.fu + 1)) := by simp [MSt.step, hlt]
  rw [e1]
  clear e1
  have hb : (s.st == s.fu) = true := by simp; omega
  go_enter Tryz.func146, Tryz.ntmps146
  go_wp2
  go_quiet (fail)
  go_wp2_with (go_at_call 147; refine (z4c b s 9 (s.fu + 1) _ (H.out.drewN _)).mono ?_; rintro e w' ⟨rfl, hq⟩)
  go_ret
  exact ⟨rfl, hq.1, z06 (z8l _ _ _) hq.2⟩
theorem zcm (b : Nat) (s : MSt) (e : Int) (w : World) (h : RefAt w b s) :
  Calls Tryz.prog 101 #[.pointer (some ⟨b, 0, none⟩), .int .i64 e] w (RMet w b e (s.refused e)) := by
 have H := hid h
 clear h
 by_cases he : e = 8
 ·subst he
  have e1 : s.refused 8 = s.refuse 8 0 := by simp [MSt.refused]
  rw [e1]
  clear e1
  go_enter Tryz.func101, Tryz.ntmps101
  go_wp2_with (go_at_call 147; refine (z4c b s 8 0 _ H.out).mono ?_; rintro e w' ⟨rfl, hq⟩)
  go_ret
  exact ⟨rfl, hq⟩
 ·have e1 : s.refused e = s := by simp [MSt.refused, he]
  have hb : (e == 8) = false := by simpa using he
  rw [e1]
  clear e1 he
  go_enter Tryz.func101, Tryz.ntmps101
  go_wp2
  go_ret
  exact ⟨rfl, H.out, z26 _ _⟩
theorem zh9 {S : Nat → Prop} (b : Nat) (s : MSt) (v : Value) (ts : List RTerm) (w : World) (h : RefAt w b s) (ht : z05 S w v ts) :
  Calls Tryz.prog 102 #[.pointer (some ⟨b, 0, none⟩), v] w (RMet w b (s.keep (z0w ts ts.length) ts.length).1 (s.keep (z0w ts ts.length) ts.length).2) := by
 have h1 := h.c1
 have h2 := h.c2
 have hll := z6l ht ts.length (Nat.le_refl _)
 have hlen := ht.len_le
 obtain ⟨a, cap, rfl⟩ := ht.form
 have HL := fun W (h : z05 S W (.slice a ts.length cap) ts) => (zf4 _ ts W h).mono (fun _ _ (h : _ ∧ _) => (⟨h.1, h.2.symm⟩ : _ ∧ _))
 have HT : ∀ n, Hid (z05 S (w.drewN n) (.slice a ts.length cap) ts) := fun n => ht.to (fun _ _ => rfl) (fun _ h => h)
 have HT0 := hid ht
 generalize hn : z0w ts ts.length = n at hll HL
 have HH := hid HL
 have H := hid h
 clear ht h hn HL
 by_cases c1 : s.li < n
 ·have e1 : s.keep n ts.length = (10, s.refuse 10 n) := by simp [MSt.keep, c1]
  rw [e1]
  clear e1
  go_enter Tryz.func102, Tryz.ntmps102
  go_wp2
  go_quiet ((go_at_call 148; exact Calls.quiet_of_same (HH.out _ HT0.out)))
  go_wp2_with fail
  refine (HH.out _ (HT _).out).mono ?_
  rintro e w' ⟨rfl, rfl⟩
  go_wp2_with (go_at_call 147; refine (z4c b s 10 n _ (H.out.drewN _)).mono ?_; rintro e w' ⟨rfl, hq⟩)
  go_ret
  exact ⟨rfl, hq.1, z06 (z8l _ _ _) hq.2⟩
 by_cases c2 : s.te < ts.length
 ·have e1 : s.keep n ts.length = (11, s.refuse 11 ts.length) := by simp [MSt.keep, c1, c2]
  rw [e1]
  clear e1
  go_enter Tryz.func102, Tryz.ntmps102
  go_wp2
  go_quiet ((go_at_call 148; exact Calls.quiet_of_same (HH.out _ HT0.out)))
  go_wp2_with (go_at_call 147; refine (z4c b s 11 ts.length _ (H.out.drewN _)).mono ?_; rintro e w' ⟨rfl, hq⟩)
  go_ret
  exact ⟨rfl, hq.1, z06 (z8l _ _ _) hq.2⟩
 ·have e1 : s.keep n ts.length = (0, s) := by simp [MSt.keep, c1, c2]
  rw [e1]
  clear e1
  go_enter Tryz.func102, Tryz.ntmps102
  go_wp2
  go_quiet ((go_at_call 148; exact Calls.quiet_of_same (HH.out _ HT0.out)))
  go_wp2
  go_ret
  exact ⟨rfl, H.out.drewN _, z8l _ _ _⟩
theorem zwm (a b c d : Int) (w : World) (h : ¬ z4q a b c d) :
  Calls Tryz.prog 19 #[.agg #[.int .i64 a, .int .i64 b, .int .i64 c, .int .i64 d]] w fun e w' => e = .returned (.bool false) ∧ Ext w w' := by
 have H := hid h
 clear h
 by_cases a0 : a < 0
 ·have q : decide (0 ≤ a) = false := by simpa using a0
  go_enter Tryz.func19, Tryz.ntmps19
  go_wp2
  go_ret
  exact ⟨rfl, Ext.alloc (Ext.refl _) _⟩
 by_cases a1 : 1000000 < a
 ·go_enter Tryz.func19, Tryz.ntmps19
  go_wp2
  go_ret
  exact ⟨rfl, Ext.alloc (Ext.refl _) _⟩
 by_cases b0 : b < 0
 ·go_enter Tryz.func19, Tryz.ntmps19
  go_wp2
  go_ret
  exact ⟨rfl, Ext.alloc (Ext.refl _) _⟩
 by_cases b1 : 10000 < b
 ·go_enter Tryz.func19, Tryz.ntmps19
  go_wp2
  go_ret
  exact ⟨rfl, Ext.alloc (Ext.refl _) _⟩
 by_cases c0 : c < 0
 ·go_enter Tryz.func19, Tryz.ntmps19
  go_wp2
  go_ret
  exact ⟨rfl, Ext.alloc (Ext.refl _) _⟩
 by_cases c1 : 100000 < c
 ·go_enter Tryz.func19, Tryz.ntmps19
  go_wp2
  go_ret
  exact ⟨rfl, Ext.alloc (Ext.refl _) _⟩
 by_cases d0 : d < 0
 ·go_enter Tryz.func19, Tryz.ntmps19
  go_wp2
  go_ret
  exact ⟨rfl, Ext.alloc (Ext.refl _) _⟩
 by_cases d1 : 1000 < d
 ·have q : decide (d ≤ 1000) = false := by simpa using d1
  go_enter Tryz.func19, Tryz.ntmps19
  go_wp2
  go_ret
  exact ⟨rfl, Ext.alloc (Ext.refl _) _⟩
 ·exact absurd ⟨⟨by omega, by omega⟩, ⟨by omega, by omega⟩, ⟨by omega, by omega⟩, by omega, by omega⟩ H.out
end
section
open Go.RowKit
theorem zqr (w : World) : Calls Tryz.prog 172 #[.pointer none] w fun e w' => e = .returned (.int .i64 0) ∧ w = w' := by
 go_enter Tryz.func172, Tryz.ntmps172
 go_wp2
 go_ret
 exact ⟨rfl, rfl⟩
theorem zqs (v : Value) (w : World) : Calls Tryz.prog 96 #[.pointer none, v] w fun e w' => e = .returned (.int .i64 0) ∧ w = w' := by
 go_enter Tryz.func96, Tryz.ntmps96
 go_wp2
 go_ret
 exact ⟨rfl, rfl⟩
theorem zkc (e : Int) (w : World) : Calls Tryz.prog 87 #[.pointer none, .int .i64 e] w fun r w' => r = .returned (.int .i64 e) ∧ w = w' := by
 go_enter Tryz.func87, Tryz.ntmps87
 go_wp2
 go_ret
 exact ⟨rfl, rfl⟩
end
end Go.Proofs.YthdcaablomgboaaGreat
