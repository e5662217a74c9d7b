/- Decimal digits: the product. A polynomial's first term, class and degree. Degree, rank, the order of ranks, what is reduced. The document's whole numbers: a sign and digits. A region that draws its order: what reads first, then calls that make memory, one behind the other. The document's whole numbers: as data, small ones, sign, the same, canonical. The document's whole numbers: small ones, products, sums. The document's whole numbers: sums. The document: which polynomials may be. The document: out of terms, sums, a number, a variable, too great. -/
import Derived.StillTail
import Derived.OrdersHeld
import Derived.Test.YtbfflodidkfphaaGreatSl2
set_option maxRecDepth 100000
set_option maxHeartbeats 16000000
namespace Go.Proofs.YtbfflodidkfphaaGreat
section
open Go.RowKit
theorem World.rowIs.drewN {w : World} {g n : Nat} {T : TypeId} {f : Nat → Value} (h : w.rowIs g T n f) (q : Nat) : (w.drewN q).rowIs g T n f := h
theorem mul_step {o : List Nat} {p cc u X : Nat} (hp : p < o.length) (h : val 10 o + 10 ^ p * cc = X) : val 10 (o.set p ((cc + dg o p + u) % 10)) + 10 ^ (p + 1) * ((cc + dg o p + u) / 10) = X + 10 ^ p * u := by
 have h1 := set_val (B := 10) o p ((cc + dg o p + u) % 10) hp
 have h2 := congrArg (10 ^ p * ·) (Nat.mod_add_div (cc + dg o p + u) 10)
 simp only [Nat.mul_add] at h2
 rw [Nat.pow_succ, Nat.mul_assoc]
 omega
theorem set_lt {B : Nat} {o : List Nat} {p z : Nat} (h : ∀ x ∈ o, x < B) (hz : z < B) : ∀ x ∈ o.set p z, x < B := by
 intro x hx
 rcases List.mem_or_eq_of_mem_set hx with h1 | h1
 ·exact h x h1
 ·rw [h1]; exact hz
theorem dg_set_ne {o : List Nat} {p j z : Nat} (h : j ≠ p) : dg (o.set p z) j = dg o j := by
 unfold dg
 rw [List.getElem?_set_ne (fun e => h e.symm)]
def mulAt (V d Y i : Nat) : Nat := V + 10 ^ i * (d * Y)
theorem mulAt_step {V d i k : Nat} {ys : List Nat} : mulAt V d (val 10 (ys.take k)) i + 10 ^ (i + k) * (d * dg ys k) = mulAt V d (val 10 (ys.take (k + 1))) i := by
 unfold mulAt
 rw [val_take_dg, Nat.pow_add, Nat.mul_add, Nat.mul_add, Nat.mul_assoc, ← Nat.mul_assoc d, Nat.mul_comm d (10 ^ k), Nat.mul_assoc]
 omega
theorem mulAt_end {xs : List Nat} {i x Y : Nat} (hx : xs[i]? = some x) : mulAt (val 10 (xs.take i) * Y) x Y i = val 10 (xs.take (i + 1)) * Y := by
 unfold mulAt
 rw [val_take_succ hx, Nat.add_mul, Nat.mul_assoc]
theorem mul_above {xs ys o : List Nat} {i : Nat} (hx : ∀ z ∈ xs, z < 10) (hy : ∀ z ∈ ys, z < 10) (hi : i ≤ xs.length) (h : val 10 o = val 10 (xs.take i) * val 10 ys) : ∀ j, i + ys.length ≤ j → dg o j = 0 := by
 intro j hj
 by_cases hjl : j < o.length
 ·refine val_zero_above (B := 10) (k := i + ys.length) (by decide) ?_ j hj hjl
  rw [h, Nat.pow_add]
  have h1 := val_lt (xs.take i) (fun z hz => hx z (List.mem_of_mem_take hz))
  rw [List.length_take, Nat.min_eq_left hi] at h1
  have h2 := val_lt ys hy
  exact Nat.mul_lt_mul'' h1 h2
 ·exact dg_out (by omega)
theorem dig_mul {S : Nat → Prop} (va vb : Value) (xs ys : List Nat) (w : World) (ha : Digs S w va xs) (hb : Digs S w vb ys) (hS : ∀ k, S k → k < w.heap.size) (hr : xs.length ≤ 10000000) (hr2 : ys.length ≤ 10000000) :
  Calls Tryz.prog 109 #[va, vb] w fun e w' => ∃ v', e = .returned v' ∧ Digs (New w w') w' v' (rep 10 (val 10 xs * val 10 ys)) ∧ Ext w w' := by
 have HA := hid ha
 have HB := hid hb
 have HLA := hid ha.lt
 have HLB := hid hb.lt
 obtain ⟨aa, ca, rfl⟩ := ha.form
 obtain ⟨ab, cb, rfl⟩ := hb.form
 clear ha hb
 have hmk := run_make_row' (P := Tryz.prog) 54 3 (.int .i64 0) 8 Tryz.underlying54 Tryz.infoInt rfl .i64 .i64 (xs.length + ys.length + 1) (by omega) (by omega) w
 rw [show ((xs.length + ys.length + 1 : Nat) : Int) = (xs.length : Int) + (ys.length : Int) + 1 by omega] at hmk
 obtain ⟨L, hL⟩ : ∃ L, L = xs.length + ys.length + 1 := ⟨_, rfl⟩
 have hLI : (xs.length : Int) + (ys.length : Int) + 1 = (L : Int) := by omega
 rw [← hL, hLI] at hmk
 have HR := hid (rowD_zeros w L 3)
 have HE := hid (Ext.alloc (Ext.refl w) (.cells (madeCells #[.int .i64 0] L) 3))
 have HL := hid hL
 have hLb : L ≤ 20000001 := by omega
 have hLa : xs.length < L := by omega
 clear hL
 go_enter Tryz.func109, Tryz.ntmps109
 go_wp2
 go_loopw [6] (fun i wr => ∃ (n : Nat) (o : List Nat), n ≤ xs.length ∧ i = .int .i64 n ∧ Hid (o.length = L) ∧ Hid (∀ z ∈ o, z < 10) ∧ Hid (wr.rowIs w.heap.size 3 L (rowD o)) ∧ Ext w wr ∧ Hid (val 10 o = val 10 (xs.take n) * val 10 ys)) (fun i _ => xs.length - (intOf i).toNat)
 case atStart => exact ⟨0, List.replicate L 0, Nat.zero_le _, rfl, hid (by simp), hid (by simp), HR, HE.out, hid (by simp [val_zeros, val])⟩
 case round =>
  obtain ⟨n, o, hn, rfl, HOL, HO, HROW, hx, HV⟩ := hrel
  by_cases hlt : n < xs.length
  ·obtain ⟨x, hx1⟩ := some_of_lt hlt
   obtain ⟨b1, o1, rfl, -, hn1, hm1, hS1, hxb, hc1⟩ := HA.out.cellAt hx1
   have HX1 := hid hx1
   have HC1 := hid hc1
   have HX := hid hx
   have HAB := hid (mul_above HLA.out HLB.out hn HV.out)
   have hLn : n + ys.length + 1 ≤ L := by have := HL.out; omega
   obtain ⟨wo, rfl⟩ : ∃ wo : World, wo = wr := ⟨_, rfl⟩
   clear hx1 hc1 hx
   go_wp2
   go_loopw [7, 8] (fun c kk wr => ∃ (k cc : Nat) (o : List Nat), k ≤ ys.length + 1 ∧ kk = .int .i64 k ∧ c = .int .i64 cc ∧ cc ≤ 9 ∧ Hid (ys.length < k → cc = 0) ∧ Hid (o.length = L) ∧ Hid (∀ z ∈ o, z < 10) ∧ Hid (wr.rowIs w.heap.size 3 L (rowD o)) ∧ Ext w wr ∧
    Hid (k ≤ ys.length → ∀ j, n + ys.length ≤ j → dg o j = 0) ∧ Hid (val 10 o + 10 ^ (n + k) * cc = mulAt (val 10 (xs.take n) * val 10 ys) x (val 10 (ys.take k)) n)) (fun _ kk _ => ys.length + 1 - (intOf kk).toNat)
   case atStart => exact ⟨0, 0, o, Nat.zero_le _, rfl, rfl, by omega, hid (fun h => absurd h (by omega)), HOL, HO, HROW, HX.out, hid (fun _ => HAB.out), hid (by rw [HV.out]; simp [mulAt, val])⟩
   case round =>
    obtain ⟨k, cc, o, hk, rfl, rfl, hcc, HZ, HOL, HO, HROW, hx, HAB, HV⟩ := hrel
    have HX := hid hx
    have hc1 := hx.cell HC1.out
    by_cases h2 : k < ys.length
    ·obtain ⟨y, hy1⟩ := some_of_lt h2
     obtain ⟨b2, o2, rfl, -, hn2, hm2, -, hyb, hc2⟩ := (HB.out.ext hx hS).cellAt hy1
     have HY1 := hid hy1
     have hpl : n + k < L := by omega
     have hcs := HROW.out.cell (i := n + k) hpl
     have hfs := HROW.out.frozen (n + k)
     have hdg := dg_lt (B := 10) (by decide) HO.out (n + k)
     obtain ⟨s, hs⟩ : ∃ s, s = dg o (n + k) := ⟨_, rfl⟩
     obtain ⟨p, hp⟩ : ∃ p : Nat, p = x * y := ⟨_, rfl⟩
     have hpb : p ≤ 9 * 9 := by rw [hp]; exact Nat.mul_le_mul (by omega) (by omega)
     have hmul : (x : Int) * (y : Int) = (p : Int) := by rw [hp]; simp
     unfold rowD dval at hcs
     rw [← hs] at hcs hdg
     have HS := hid hs
     have HP := hid hp
     clear hy1 hs hp hx
     go_wp2
     go_quiet (fail)
     go_wp2
     go_roundw
     case rel =>
      have hpl2 : n + k < o.length := by rw [HOL.out]; exact hpl
      have hst := rowD_set (World.rowIs.drewN HROW.out nq) (n + k) ((cc + s + p) % 10) hpl2
      refine ⟨k + 1, (cc + s + p) / 10, o.set (n + k) ((cc + s + p) % 10), by omega, by go_num, congrArg (Value.int .i64) (by omega), by omega, hid (fun h => absurd h (by omega)), hid (by simpa using HOL.out), hid (set_lt HO.out (Nat.mod_lt _ (by decide))), hid ?_, (HX.out.drewN nq).setCell (p := ⟨w.heap.size, n + k, none⟩) (Nat.le_refl _) _, hid (fun _ j hj => ?_), hid ?_⟩
      ·refine cast (congrArg (fun e => World.rowIs (World.setCell (wr.drewN nq) ⟨w.heap.size, n + k, none⟩ (Value.int .i64 e)) _ _ _ _) ?_) hst
       omega
      ·rw [dg_set_ne (by omega)]
       exact HAB.out (by omega) j hj
      ·have h1 := mul_step (u := p) hpl2 HV.out
       rw [← HS.out] at h1
       rw [show n + (k + 1) = n + k + 1 by omega, h1, HP.out, ← dg_some HY1.out]
       exact mulAt_step
     case measure => simp only [intOf]; omega
    ·have hk0 : ys.length ≤ k := by omega
     clear hx
     by_cases h3 : 0 < cc
     ·have hke : k = ys.length := by
       rcases Nat.lt_or_ge ys.length k with g1 | g1
       ·have := HZ.out g1; omega
       ·omega
      have hpl : n + k < L := by omega
      have hcs := HROW.out.cell (i := n + k) hpl
      have hfs := HROW.out.frozen (n + k)
      have hs0 : dg o (n + k) = 0 := HAB.out (by omega) _ (by omega)
      unfold rowD dval at hcs
      rw [hs0] at hcs
      have HS := hid hs0
      have HKE := hid hke
      clear hs0 hke
      go_wp2
      go_roundw
      case rel =>
       have hpl2 : n + k < o.length := by rw [HOL.out]; exact hpl
       have hst := rowD_set HROW.out (n + k) ((cc + 0 + 0) % 10) hpl2
       refine ⟨k + 1, (cc + 0 + 0) / 10, o.set (n + k) ((cc + 0 + 0) % 10), by have := HKE.out; omega, by go_num, congrArg (Value.int .i64) (by omega), by omega, hid (fun _ => by omega), hid (by simpa using HOL.out), hid (set_lt HO.out (Nat.mod_lt _ (by decide))), hid ?_, HX.out.setCell (p := ⟨w.heap.size, n + k, none⟩) (Nat.le_refl _) _, hid (fun h => absurd h (by have := HKE.out; omega)), hid ?_⟩
       ·refine cast (congrArg (fun e => World.rowIs (World.setCell wr ⟨w.heap.size, n + k, none⟩ (Value.int .i64 e)) _ _ _ _) ?_) hst
        omega
       ·have h1 := mul_step (u := 0) hpl2 HV.out
        rw [HS.out] at h1
        rw [show n + (k + 1) = n + k + 1 by omega, h1, ← mulAt_step, (dg_out hk0 : dg ys k = 0)]
        simp
      case measure => have := HKE.out; simp only [intOf]; omega
     ·obtain rfl : cc = 0 := by omega
      go_wp2
      go_roundw
      case rel =>
       refine ⟨n + 1, o, by omega, by go_num, HOL, HO, HROW, HX.out, hid ?_⟩
       have h1 := HV.out
       rw [List.take_of_length_le hk0, mulAt_end HX1.out] at h1
       simpa using h1
      case measure => simp only [intOf]; omega
  ·obtain rfl : n = xs.length := by omega
   have HX := hid hx
   have hd := Digs.of_row HROW.out HOL.out HO.out (by omega)
   have HD := hid hd
   have HV0 : Hid (val 10 o = val 10 xs * val 10 ys) := hid (by simpa using HV.out)
   clear hx hd
   go_wp2_with fail
   refine (dig_trim _ o _ HD.out).mono ?_
   rintro e w' ⟨v', rfl, hu, rfl⟩
   have HU := hid hu
   clear hu
   go_wp2
   all_goals
    go_ret
    refine ⟨_, rfl, ?_, HX.out⟩
    rw [← HV0.out]
    refine HU.out.to (Kept.refl _ _) (fun k hk => ?_)
    subst hk
    exact ⟨Nat.le_refl _, HROW.out.lt⟩
end
section
open Go.RowKit
def TermV (S : Nat → Prop) (w : World) (v : Value) (t : RTerm) : Prop := ∃ vm vo, v = .agg #[.bool t.c.neg, vm, vo] ∧ U32s S w vm t.c.mag ∧ Pows S w vo t.m
theorem New.kept {a w W : World} (hx : Ext w W) : Kept (New a w) w W := Kept.ext hx (fun _ h => h.2)
theorem zero_int (S : Nat → Prop) (w : World) : IntV S w (.agg #[.bool false, .slice none 0 0]) ⟨false, []⟩ := ⟨_, rfl, U32s.nilv _ _ _ _ (by omega)⟩
theorem valI_zeroI : valI ⟨false, []⟩ = 0 := rfl
end
section
open Go.RowKit
theorem new2 {w W : World} {u v : Value} {T : TypeId} (h : Ext (w.alloc (.cells #[u, v] T)) W) :
  W.cell? ⟨w.heap.size, 0, none⟩ = some u ∧ W.cell? ⟨w.heap.size, 1, none⟩ = some v ∧ W.frozen? ⟨w.heap.size, 0, none⟩ = false ∧ W.frozen? ⟨w.heap.size, 1, none⟩ = false :=
 ⟨h.new_cell rfl, h.new_cell rfl, h.new_free 0, h.new_free 1⟩
end
section
open Go.RowKit
def ZV (S : Nat → Prop) (w : World) (v : Value) (z : Int) : Prop := ∃ vd, v = .agg #[.bool (decide (z < 0)), vd] ∧ Digs S w vd (rep 10 z.natAbs)
theorem ZV.to {S S' : Nat → Prop} {w w' : World} {v : Value} {z : Int} (h : ZV S w v z) (hk : Kept S w w') (hS : ∀ k, S k → S' k) : ZV S' w' v z := by
 obtain ⟨vd, h1, h2⟩ := h
 exact ⟨vd, h1, h2.to hk hS⟩
theorem ZV.ext {S : Nat → Prop} {w W : World} {v : Value} {z : Int} (h : ZV S w v z) (hx : Ext w W) (hS : ∀ k, S k → k < w.heap.size) : ZV S W v z := h.to (Kept.ext hx hS) (fun _ h => h)
theorem ZV.form {S : Nat → Prop} {w : World} {v : Value} {z : Int} (h : ZV S w v z) : ∃ a n c, v = .agg #[.bool (decide (z < 0)), .slice a n c] := by
 obtain ⟨vd, h1, h2⟩ := h
 obtain ⟨a, c, rfl⟩ := h2.form
 exact ⟨a, _, c, h1⟩
theorem sg_neg (b : Bool) (n : Nat) : decide (sg b n < 0) = (b && decide (0 < n)) := by
 unfold sg
 cases b <;> simp <;> omega
theorem sg_abs (b : Bool) (n : Nat) : (sg b n).natAbs = n := by
 unfold sg
 cases b <;> simp
theorem rep10_pos (n : Nat) : decide (0 < (rep 10 n).length) = decide (0 < n) := by
 rw [decide_eq_decide, List.length_pos_iff, Ne, rep_eq_nil two_le_10]
 omega
theorem zv_mk {S : Nat → Prop} {w : World} {vd : Value} {b : Bool} {n : Nat} (h : Digs S w vd (rep 10 n)) : ZV S w (.agg #[.bool (b && decide (0 < n)), vd]) (sg b n) :=
 ⟨vd, by rw [sg_neg], by rw [sg_abs]; exact h⟩
theorem valI_sg (x : RInt) : valI x = sg x.neg (val B32 x.mag) := rfl
theorem ret_zed {w0 w1 w2 : World} {b : Nat} {v : Value} {z : Int} (hv : ZV (New w1 w2) w2 v z) (h01 : Ext w0 w1) (h12 : Ext w1 w2) (hb0 : w0.heap.size ≤ b) (hb1 : b < w1.heap.size) (x y : Value) :
  ZV (New w0 ((w2.setCell ⟨b, 0, none⟩ x).setCell ⟨b, 1, none⟩ y)) ((w2.setCell ⟨b, 0, none⟩ x).setCell ⟨b, 1, none⟩ y) v z ∧ Ext w0 ((w2.setCell ⟨b, 0, none⟩ x).setCell ⟨b, 1, none⟩ y) := by
 refine ⟨hv.to (Kept.set2 (fun h => ?_) _ _) (fun k hk => ⟨Nat.le_trans h01.size hk.1, ?_⟩), (h01.trans h12).set2 hb0 _ _⟩
 ·have := h.1
  omega
 ·rw [size_set2]
  exact hk.2
theorem new2' {w W : World} {u0 v0 : Value} {T0 : TypeId} {u v : Value} {T : TypeId} (h : Ext ((w.alloc (.cells #[u0, v0] T0)).alloc (.cells #[u, v] T)) W) :
  W.cell? ⟨w.heap.size + 1, 0, none⟩ = some u ∧ W.cell? ⟨w.heap.size + 1, 1, none⟩ = some v ∧ W.frozen? ⟨w.heap.size + 1, 0, none⟩ = false ∧ W.frozen? ⟨w.heap.size + 1, 1, none⟩ = false := by
 have := new2 h
 rw [size_alloc] at this
 exact this
theorem old2 {w W : World} {u0 v0 : Value} {T0 : TypeId} {o : Obj} (h : Ext ((w.alloc (.cells #[u0, v0] T0)).alloc o) W) : W.cell? ⟨w.heap.size, 0, none⟩ = some u0 ∧ W.cell? ⟨w.heap.size, 1, none⟩ = some v0 :=
 ⟨(new2 ((Ext.alloc (Ext.refl _) o).trans h)).1, (new2 ((Ext.alloc (Ext.refl _) o).trans h)).2.1⟩
def szZ (z : Int) : Prop := (rep 10 z.natAbs).length ≤ 2000000
theorem zed_of {S : Nat → Prop} (v : Value) (x : RInt) (w : World) (h : IntV S w v x) (hS : ∀ k, S k → k < w.heap.size) (hr : x.mag.length ≤ 100000) :
  Calls Tryz.prog 41 #[v] w fun e w' => ∃ v', e = .returned v' ∧ ZV (New w w') w' v' (valI x) ∧ Ext w w' := by
 obtain ⟨ng, zs⟩ := x
 obtain ⟨vm, rfl, hu⟩ := h
 simp only at hu hr ⊢
 have HU := hid hu
 obtain ⟨a, c, rfl⟩ := hu.form
 clear hu
 have HK := hid (Ext.alloc (Ext.alloc (Ext.refl w) (.cells #[.bool ng, .slice a zs.length c] 26)) (.cells #[.bool false, .slice none 0 0] 56))
 have HSZ : Hid (w.heap.size + 1 < ((w.alloc (.cells #[.bool ng, .slice a zs.length c] 26)).alloc (.cells #[.bool false, .slice none 0 0] 56)).heap.size) := hid (by simp)
 have hc := dig_of _ zs _ (HU.out.ext HK.out hS) (lt_ext hS HK.out) hr
 obtain ⟨n, hn⟩ : ∃ n, n = val B32 zs := ⟨_, rfl⟩
 rw [← hn] at hc
 have HC := hid hc
 have er : valI ⟨ng, zs⟩ = sg ng n := by rw [valI_sg, hn]
 rw [er]
 clear hc hn er
 go_enter Tryz.func41, Tryz.ntmps41
 go_wp2_with fail
 refine HC.out.mono ?_
 rintro e w1 ⟨v1, rfl, hd, hx⟩
 have HX := hid hx
 obtain ⟨c0, c1⟩ := old2 hx
 obtain ⟨r0, r1, f0, f1⟩ := new2' hx
 have HE := hid (And.intro r0 r1)
 have HD := hid hd
 obtain ⟨a1, n1, rfl⟩ := hd.form
 clear hx hd
 have hlen := rep10_pos n
 have hz := zv_mk (b := ng) HD.out
 by_cases h0 : 0 < n
 ·have hp : 0 < (rep 10 n).length := by simpa [h0] using hlen
  rw [show (ng && decide (0 < n)) = ng by simp [h0]] at hz
  have HZ := hid hz
  clear hlen hz
  cases ng
  all_goals
   go_wp2
   have hd := fun x y => two_set x y HE.out.1 HE.out.2
   refine bodyPost_ret (by simp [results, Tryz.results41, go_sem, (hd _ _).1, (hd _ _).2]; rfl) rfl ?_
   have hg := fun x y => ret_zed (w0 := w) (b := w.heap.size + 1) HZ.out HK.out HX.out (by omega) HSZ.out x y
   exact ⟨_, rfl, (hg _ _).1, (hg _ _).2⟩
 ·obtain rfl : n = 0 := by omega
  rw [show (ng && decide (0 < 0)) = false by simp] at hz
  have HZ := hid hz
  have hp : (rep 10 0).length = 0 := rfl
  clear hlen hz
  cases ng
  all_goals
   go_wp2
   have hd := fun x y => two_set x y HE.out.1 HE.out.2
   refine bodyPost_ret (by simp [results, Tryz.results41, go_sem, (hd _ _).1, (hd _ _).2]; rfl) rfl ?_
   have hg := fun x y => ret_zed (w0 := w) (b := w.heap.size + 1) HZ.out HK.out HX.out (by omega) HSZ.out x y
   exact ⟨_, rfl, (hg _ _).1, (hg _ _).2⟩
end
section
open Go.RowKit
def plainOp (o : Oper) : Bool := match o.op with
 | .move _ => true
 | .assign _ => true
 | .pick _ _ _ => true
 | .load _ _ => true
 | .build _ _ => true
 | .fieldAddr _ _ _ => true
 | .indexAddr _ _ _ => true
 | .binOp _ _ _ _ _ => true
 | .unOp _ _ _ => true
 | .convert _ _ _ => true
 | .extract _ _ => true
 | .call c => match c.callee with
  | .builtin .len => true
  | _ => false
 | _ => false
theorem plain_bind {P : Program} (s : Sem Value) (W : World) : (∃ x w', (do pure (Next.value (← s)) : Sem Next).run P W = .ok (.value x) w') ∨ (∃ h w', (do pure (Next.value (← s)) : Sem Next).run P W = .halt h w') := by
 simp only [Sem.run_bind]
 cases s.run P W with
 | ok x w' => exact .inl ⟨x, w', by simp⟩
 | halt h w' => exact .inr ⟨h, w', rfl⟩
theorem plain_run {P : Program} {o : Oper} (h : plainOp o = true) (ρ : Operand → Value) (W : World) : (∃ x w', (execOp ρ o).run P W = .ok (.value x) w') ∨ (∃ h w', (execOp ρ o).run P W = .halt h w') := by
 unfold plainOp at h
 unfold execOp
 cases hop : o.op with
 | move x => exact .inl ⟨_, _, rfl⟩
 | assign x => exact .inl ⟨_, _, rfl⟩
 | pick c a b =>
  simp only [Sem.run_bind]
  cases (asBool (ρ c)).run P W with
  | ok x w' => exact .inl ⟨_, w', rfl⟩
  | halt h w' => exact .inr ⟨h, w', rfl⟩
 | load t a => exact plain_bind _ W
 | build t a => exact plain_bind _ W
 | fieldAddr t a b => exact plain_bind _ W
 | indexAddr t a b => exact plain_bind _ W
 | binOp a b c d e => exact plain_bind _ W
 | unOp a b c => exact plain_bind _ W
 | convert a b c => exact plain_bind _ W
 | extract a b => exact plain_bind _ W
 | call c =>
  rw [hop] at h
  simp only at h
  split at h
  ·rename_i hc
   simp only [resolve, hc, Sem.run_bind, Sem.run_pure, Result.andThen_ok, invoke, builtin]
   cases (Builtin.len_ c.argTypes o.type (Array.map ρ c.args)).run P W with
   | ok x w' => exact .inl ⟨x, w', rfl⟩
   | halt h w' => exact .inr ⟨h, w', rfl⟩
  ·cases h
 | _ => rw [hop] at h; simp at h
theorem plain_yields {P : Program} {ops : Array Oper} {S : World → Prop} {o : Oper} {v : Value} {a : Act} (hp : plainOp o = true) (h : YieldsIn P ops S o v a) : YieldsIf P ops S o v a := by
 rcases h with ⟨hw, hv⟩ | ⟨hw, hv⟩
 ·refine .inl ⟨hw, fun W hW => ?_⟩
  have h1 := hv W hW
  unfold Oper.quietAt at h1
  rcases plain_run (P := P) hp a.eval W with ⟨x, w', e⟩ | ⟨x, w', e⟩
  ·rw [e] at h1 ⊢
   simp only [Oper.quietUpon] at h1
   rw [h1.1, h1.2]
  ·rw [e] at h1
   exact absurd h1 (by simp [Oper.quietUpon])
 ·exact .inr ⟨hw, hv⟩
def headB (md : Region.Mode) (ops : Array Oper) (g : Nat) : List Oper → Nat → Array Bool → Bool
 | [], k, listed => Region.seqB md ops g k listed
 | o :: l, k, listed => plainOp o && (Region.ready md ops listed).contains k && Region.free md ops listed k && headB md ops g l (k + 1) (listed.setIfInBounds k true)
def thenQ (S : World → Prop) (K : Act → World → Prop) (Q : Exit → Act → World → Prop) : Exit → Act → World → Prop
 | .normal, a, w => S w ∧ K a w
 | ex, a, w => Q ex a w
def tailWp (P : Program) (ops : Array Oper) (S : World → Prop) (Q : Exit → Act → World → Prop) : List Oper → Act → World → Prop
 | [], a, w => Q .normal a w
 | o :: l, a, w => wpList P ops (thenQ S (tailWp P ops S Q l) Q) [o] a w
section
variable {P : Program} {md : Region.Mode} {ops : Array Oper} {S : World → Prop} {Q : Exit → Act → World → Prop}
theorem held_of_tail : ∀ (l : List Oper) (k : Nat) (listed : Array Bool) (a : Act) (w : World), (∀ j, l[j]? = ops[k + j]?) →
  Region.seqB md ops l.length k listed = true → tailWp P ops S Q l a w → wpAnyH P md ops Q S l.length listed a w
 | [], _, _, _, _, _, hB, h => ⟨by simpa [Region.seqB] using hB, h⟩
 | o :: l, k, listed, a, w, hl, hB, h => by
  have h0 : ops[k]? = some o := by simpa using (hl 0).symm
  simp only [List.length_cons, Region.seqB, Bool.and_eq_true, decide_eq_true_eq] at hB
  refine ⟨fun h1 => (by rw [hB.1] at h1; cases h1), fun i hi => ?_⟩
  rw [hB.1] at hi
  have hik : i = k := by simpa using hi
  subst hik
  have hrest : ∀ a' w', (S w' ∧ tailWp P ops S Q l a' w') → (S w' ∧ wpAnyH P md ops Q S l.length (listed.setIfInBounds i true) a' w') := fun a' w' h' =>
   ⟨h'.1, held_of_tail l (i + 1) _ a' w' (fun j => by have := hl (j + 1); simpa [Nat.add_assoc, Nat.add_comm 1 j] using this) hB.2 h'.2⟩
  unfold tailWp wpList at h
  unfold wpOp
  simp only [h0]
  have hu : ∀ (K : Act → World → Prop) (r : Result Next), o.upon P a K (thenQ S (tailWp P ops S Q l) Q) r → o.upon P a K Q r := by
   intro K r hr
   cases r with
   | ok n w' => cases n <;> exact hr
   | halt x w' => cases x <;> exact hr
  split
  ·rename_i hw
   rw [if_pos hw] at h
   rcases h with h | h
   ·exact .inl (Oper.wp_mono (fun a' w' h' => hrest a' w' h') (hu _ _ h))
   ·exact .inr h
  ·rename_i hw
   rw [if_neg hw] at h
   exact hrest _ _ h
theorem held_of_head (hsel : Region.noSelect ops = true) (hQ : ∀ c a t v w, Q (.panic c) (a.put (some t) v) w → Q (.panic c) a w) {g : Nat} {w : World} (hS : S w) {L : Act → Prop} :
  ∀ (l : List Oper) (k : Nat) (listed : Array Bool) (a : Act), (∀ j, j < l.length → l[j]? = ops[k + j]?) → headB md ops g l k listed = true → wpQuiet P ops S L l a →
   (∀ listed' a', Region.seqB md ops g (k + l.length) listed' = true → L a' → wpAnyH P md ops Q S g listed' a' w) → wpAnyH P md ops Q S (l.length + g) listed a w
 | [], k, listed, a, _, hB, h, hL => by
  simp only [List.length_nil, Nat.zero_add]
  exact hL listed a hB h
 | o :: l, k, listed, a, hl, hB, h, hL => by
  have h0 : ops[k]? = some o := by simpa using (hl 0 (by simp)).symm
  simp only [headB, Bool.and_eq_true] at hB
  obtain ⟨⟨⟨hp, hr⟩, hf⟩, hB'⟩ := hB
  have hq : qOp P ops S k (wpQuiet P ops S L l) a := by unfold qOp; simp only [h0]; exact h
  obtain ⟨v, hy, hK⟩ := yieldsIn_of_qOp h0 hq
  rw [show (o :: l).length + g = (l.length + g) + 1 by simp only [List.length_cons]; omega]
  refine wpAnyH_take h0 hsel hf hr (fun c a w hp => ?_) (plain_yields hp hy) hS ?_
  ·cases hd : o.dst with
   | none => rw [hd] at hp; exact hp
   | some t => rw [hd] at hp; exact hQ c a t v w hp
  exact held_of_head hsel hQ hS l (k + 1) _ _ (fun j hj => by have := hl (j + 1) (by simp; omega); simpa [Nat.add_assoc, Nat.add_comm 1 j] using this) hB' hK
   (fun listed' a' hs hLa => hL listed' a' (by rw [show k + (o :: l).length = k + 1 + l.length by simp only [List.length_cons]; omega]; exact hs) hLa)
theorem wp_region_mix {id : Nat} {a : Act} {w : World} {l : List Oper} (S : World → Prop) (n : Nat) (hm : P.follows .mixedOrders = true) (hsel : Region.noSelect l.toArray = true) (hn : n ≤ l.length)
  (hB : headB .any l.toArray (l.length - n) (l.take n) 0 (Array.replicate l.length false) = true) (hQ : ∀ c a t v w, Q (.panic c) (a.put (some t) v) w → Q (.panic c) a w) (hS : S w.drew)
  (h : wpQuiet P l.toArray S (fun a' => tailWp P l.toArray S Q (l.drop n) a' w.drew) (l.take n) a) : (Code.region id l.toArray true).wp P Q a w := by
 refine wp_region_held (S := S) hm ?_
 have htl : (l.take n).length = n := by simp; omega
 have hdl : (l.drop n).length = l.length - n := by simp
 have H := held_of_head (P := P) (md := .any) (ops := l.toArray) (S := S) (Q := Q) hsel hQ (g := l.length - n) (w := w.drew) hS (l.take n) 0 (Array.replicate l.length false) a (fun j hj => by
  have hj' : j < n := by rw [htl] at hj; exact hj
  simp [hj']) hB h (fun listed' a' hs hL => by
   have := held_of_tail (P := P) (md := .any) (ops := l.toArray) (S := S) (Q := Q) (l.drop n) n listed' a' w.drew (fun j => by simp [List.getElem?_drop]) (by rw [hdl]; rw [htl, Nat.zero_add] at hs; exact hs) hL
   rwa [hdl] at this)
 rw [htl, show n + (l.length - n) = l.length by omega] at H
 simpa using H
end
structure LaterB (B : Nat) (w : World) where
 w' : World
 h : Below B w w'
theorem LaterB.cell {B : Nat} {w : World} (X : LaterB B w) {b i : Nat} {v : Value} (hb : b < B) (hc : w.cell? ⟨b, i, none⟩ = some v) : X.w'.cell? ⟨b, i, none⟩ = some v := bcell' X.h hb hc
end
section
open Go.RowKit
theorem ret_int3' {w0 w1 w2 : World} {b : Nat} {z : Int} {vm : Value} (hu : U32s (New w1 w2) w2 vm (rep B32 z.natAbs)) (h01 : Ext w0 w1) (h12 : Ext w1 w2) (hb0 : w0.heap.size ≤ b) (hb1 : b < w1.heap.size) (x y : Value) :
  IntV (New w0 ((w2.setCell ⟨b, 0, none⟩ x).setCell ⟨b, 1, none⟩ y)) ((w2.setCell ⟨b, 0, none⟩ x).setCell ⟨b, 1, none⟩ y) (.agg #[.bool (decide (z < 0)), vm]) (ofI z) ∧ Ext w0 ((w2.setCell ⟨b, 0, none⟩ x).setCell ⟨b, 1, none⟩ y) :=
 ret_int3 (r := ofI z) rfl hu h01 h12 hb0 hb1 x y
theorem zed_int {S : Nat → Prop} (v : Value) (z : Int) (w : World) (h : ZV S w v z) (hS : ∀ k, S k → k < w.heap.size) (hr : szZ z) :
  Calls Tryz.prog 52 #[v] w fun e w' => ∃ v', e = .returned v' ∧ IntV (New w w') w' v' (ofI z) ∧ Ext w w' := by
 obtain ⟨vd, rfl, hd⟩ := h
 have HD := hid hd
 obtain ⟨a, c, rfl⟩ := hd.form
 obtain ⟨n, hn⟩ : ∃ n, n = (rep 10 z.natAbs).length := ⟨_, rfl⟩
 have hl := hd.len_le
 have hpos := rep10_pos z.natAbs
 rw [← hn] at hpos hl ⊢
 have HDN := hid hd
 rw [← hn] at HDN
 have hng : z < 0 → 0 < n := fun h => by
  rw [decide_eq_decide] at hpos
  exact hpos.2 (by omega)
 obtain ⟨ng, hq⟩ : ∃ b, b = decide (z < 0) := ⟨_, rfl⟩
 rw [← hq]
 have HQ := hid hq
 have hng2 : ng = true → 0 < n := fun h => hng (by rw [h] at hq; simpa using hq.symm)
 clear hd hn hpos hng hq HD
 have HK := hid (Ext.alloc (Ext.alloc (Ext.refl w) (.cells #[.bool ng, .slice a n c] 56)) (.cells #[.bool false, .slice none 0 0] 26))
 have HSZ : Hid (w.heap.size + 1 < ((w.alloc (.cells #[.bool ng, .slice a n c] 56)).alloc (.cells #[.bool false, .slice none 0 0] 26)).heap.size) := hid (by simp)
 have x0 := (Ext.refl ((w.alloc (.cells #[.bool ng, .slice a n c] 56)).alloc (.cells #[.bool false, .slice none 0 0] 26))).drew
 have HX0 := hid x0
 have S0 := old2 x0
 clear x0
 cases ng with
 | true =>
  have hp := hng2 rfl
  clear hng2
  go_enter Tryz.func52, Tryz.ntmps52
  go_wp2
  go_region_held3 (fun W => W.cell? ⟨w.heap.size, 0, none⟩ = some (.bool true) ∧ W.cell? ⟨w.heap.size, 1, none⟩ = some (.slice a n c)) (first | exact S0 | exact S1 | exact ⟨other (other S1.1 (ab (by omega))) (ab (by omega)), other (other S1.2 (ab (by omega))) (ab (by omega))⟩)
   (first
    | (go_at_call 88; (with_reducible refine (dig_limbs _ z.natAbs _ (HDN.out.ext (HK.out.trans HX0.out) hS) (lt_ext hS (HK.out.trans HX0.out)) (Nat.le_trans hr (by decide))).mono ?_); rintro e w1 ⟨v1, rfl, hu1, hx1⟩; have S1 := old2 (HX0.out.trans hx1); obtain ⟨r0, r1, f0, f1⟩ := new2' (HX0.out.trans hx1); have HE := hid (And.intro r0 r1); have HX1 := hid hx1; have HU1 := hid hu1; obtain ⟨a1, n1, rfl⟩ := hu1.form; clear hx1 hu1))
  go_wp2
  have hd := fun x y => two_set x y HE.out.1 HE.out.2
  refine bodyPost_ret (by simp [results, Tryz.results52, go_sem, (hd _ _).1, (hd _ _).2]; rfl) rfl ?_
  have hg := fun x y => ret_int3' (w0 := w) (b := w.heap.size + 1) HU1.out (HK.out.trans HX0.out) HX1.out (by omega) (Nat.lt_of_lt_of_le HSZ.out HX0.out.size) x y
  rw [← HQ.out] at hg
  exact ⟨_, rfl, (hg _ _).1, (hg _ _).2⟩
 | false =>
  clear hng2 S0
  have hBs : w.heap.size + 1 ≤ ((w.alloc (.cells #[.bool false, .slice a n c] 56)).alloc (.cells #[.bool false, .slice none 0 0] 26)).heap.size := by simp
  have HBS := hid hBs
  have e0 := old2 (Ext.refl ((w.alloc (.cells #[.bool false, .slice a n c] 56)).alloc (.cells #[.bool false, .slice none 0 0] 26)))
  have L0 := fun X : LaterB (w.heap.size + 1) ((w.alloc (.cells #[.bool false, .slice a n c] 56)).alloc (.cells #[.bool false, .slice none 0 0] 26)) => X.cell (Nat.lt_succ_self _) e0.1
  have L1 := fun X : LaterB (w.heap.size + 1) ((w.alloc (.cells #[.bool false, .slice a n c] 56)).alloc (.cells #[.bool false, .slice none 0 0] 26)) => X.cell (Nat.lt_succ_self _) e0.2
  have hne : Nonempty (LaterB (w.heap.size + 1) ((w.alloc (.cells #[.bool false, .slice a n c] 56)).alloc (.cells #[.bool false, .slice none 0 0] 26))) := ⟨⟨_, (Below.refl _ _).mono hBs⟩⟩
  clear e0 hBs
  go_enter Tryz.func52, Tryz.ntmps52
  go_wp2
  refine wp_region_mix (fun W => ∃ X : LaterB (w.heap.size + 1) ((w.alloc (.cells #[.bool false, .slice a n c] 56)).alloc (.cells #[.bool false, .slice none 0 0] 26)), W = X.w') 10 (by kernel_rfl) (by kernel_rfl) (by simp) (by kernel_rfl) (fun _ _ _ _ _ h => h) ⟨⟨_, HX0.out.mono HBS.out⟩, rfl⟩ ?_
  simp only [List.take_succ_cons, List.take_zero, List.drop_succ_cons, List.drop_zero]
  repeat (go_big_quiet_step (fail))
  refine wpQuiet_nil ?_
  refine (show wpList _ _ _ [_] _ _ from ?_)
  go_wp2_with fail
  refine (dig_limbs _ z.natAbs _ (HDN.out.ext (HK.out.trans HX0.out) hS) (lt_ext hS (HK.out.trans HX0.out)) (Nat.le_trans hr (by decide))).mono ?_
  rintro e w1 ⟨v1, rfl, hu1, hx1⟩
  obtain ⟨r0, r1, f0, f1⟩ := new2' (HX0.out.trans hx1)
  have HE := hid (And.intro r0 r1)
  have HX1 := hid hx1
  have HU1 := hid hu1
  obtain ⟨a1, n1, rfl⟩ := hu1.form
  clear hx1 hu1
  have HBW : Hid (Below (w.heap.size + 1) ((w.alloc (.cells #[.bool false, .slice a n c] 56)).alloc (.cells #[.bool false, .slice none 0 0] 26)) w1) := hid ((HX0.out.trans HX1.out).mono HBS.out)
  go_wp2
  refine ⟨⟨⟨w1, HBW.out⟩, rfl⟩, ?_⟩
  refine (show wpList _ _ _ [_] _ _ from ?_)
  go_wp2
  refine ⟨⟨⟨w1, HBW.out⟩, rfl⟩, ?_⟩
  refine (show wpList _ _ _ [_] _ _ from ?_)
  go_wp2
  refine ⟨⟨⟨_, (HBW.out.setCell (p := ⟨w.heap.size + 1, 0, none⟩) (Nat.le_refl _) _).setCell (p := ⟨w.heap.size + 1, 1, none⟩) (Nat.le_refl _) _⟩, rfl⟩, ?_⟩
  unfold tailWp
  go_wp2
  have hd := fun x y => two_set x y HE.out.1 HE.out.2
  refine bodyPost_ret (by simp [results, Tryz.results52, go_sem, (hd _ _).1, (hd _ _).2]; rfl) rfl ?_
  have hg := fun x y => ret_int3' (w0 := w) (b := w.heap.size + 1) HU1.out (HK.out.trans HX0.out) HX1.out (by omega) (Nat.lt_of_lt_of_le HSZ.out HX0.out.size) x y
  rw [← HQ.out] at hg
  exact ⟨_, rfl, (hg _ _).1, (hg _ _).2⟩
theorem zed_sign {S : Nat → Prop} (v : Value) (z : Int) (w : World) (h : ZV S w v z) :
  Calls Tryz.prog 34 #[v] w fun e w' => e = .returned (.int .i64 (signI z)) ∧ Ext w w' := by
 obtain ⟨vd, rfl, hd⟩ := h
 obtain ⟨a, c, rfl⟩ := hd.form
 have hl := hd.len_le
 have hpos := rep10_pos z.natAbs
 obtain ⟨n, hn⟩ : ∃ n, n = (rep 10 z.natAbs).length := ⟨_, rfl⟩
 rw [← hn] at hpos hl ⊢
 rw [decide_eq_decide] at hpos
 have HP := hid hpos
 clear hd hpos hn
 rcases (show z < 0 ∨ z = 0 ∨ 0 < z by omega) with hz | hz | hz
 ·have hn0 : 0 < n := HP.out.2 (by omega)
  have hb : ((n : Int) == 0) = false := by rw [beq_eq_false_iff_ne]; omega
  have hdz : decide (z < 0) = true := decide_eq_true hz
  have HS : Hid (signI z = -1) := hid (by unfold signI; rw [cmpI_mone]; exact hz)
  rw [hdz]
  have HK := hid (Ext.alloc (Ext.refl w) (.cells #[.bool true, .slice a n c] 56))
  clear hdz hz
  go_enter Tryz.func34, Tryz.ntmps34
  go_wp2
  all_goals
   go_ret
   exact ⟨by rw [HS.out]; rfl, HK.out⟩
 ·have hn0 : n = 0 := by
   have := HP.out
   omega
  subst hn0
  have hdz : decide (z < 0) = false := decide_eq_false (by omega)
  have HS : Hid (signI z = 0) := hid (by unfold signI; rw [cmpI_zero]; exact hz)
  rw [hdz]
  have HK := hid (Ext.alloc (Ext.refl w) (.cells #[.bool false, .slice a 0 c] 56))
  clear hdz hz
  go_enter Tryz.func34, Tryz.ntmps34
  go_wp2
  all_goals
   go_ret
   exact ⟨by rw [HS.out]; rfl, HK.out⟩
 ·have hn0 : 0 < n := HP.out.2 (by omega)
  have hb : ((n : Int) == 0) = false := by rw [beq_eq_false_iff_ne]; omega
  have hdz : decide (z < 0) = false := decide_eq_false (by omega)
  have HS : Hid (signI z = 1) := hid (by unfold signI; rw [cmpI_one]; exact hz)
  rw [hdz]
  have HK := hid (Ext.alloc (Ext.refl w) (.cells #[.bool false, .slice a n c] 56))
  clear hdz hz
  go_enter Tryz.func34, Tryz.ntmps34
  go_wp2
  all_goals
   go_ret
   exact ⟨by rw [HS.out]; rfl, HK.out⟩
theorem zed_same {S : Nat → Prop} (va vb : Value) (x y : RInt) (w : World) (ha : IntV S w va x) (hb : IntV S w vb y) (hS : ∀ k, S k → k < w.heap.size) :
  Calls Tryz.prog 54 #[va, vb] w fun e w' => e = .returned (.bool (decide (x = y))) ∧ Ext w w' := by
 obtain ⟨xn, xs⟩ := x
 obtain ⟨yn, ys⟩ := y
 obtain ⟨vx, rfl, hu⟩ := ha
 obtain ⟨vy, rfl, hv⟩ := hb
 simp only at hu hv ⊢
 have HU := hid hu
 have HV := hid hv
 obtain ⟨a, c, rfl⟩ := hu.form
 obtain ⟨a2, c2, rfl⟩ := hv.form
 clear hu hv
 have HK := hid (Ext.alloc (Ext.alloc (Ext.refl w) (.cells #[.bool xn, .slice a xs.length c] 26)) (.cells #[.bool yn, .slice a2 ys.length c2] 26))
 by_cases hxy : xn = yn
 ·subst hxy
  have HS : Hid (decide ((⟨xn, xs⟩ : RInt) = ⟨xn, ys⟩) = decide (xs = ys)) := hid (by simp)
  go_enter Tryz.func54, Tryz.ntmps54
  go_wp2_with fail
  refine (u32_same _ _ xs ys _ (HU.out.ext HK.out hS) (HV.out.ext HK.out hS) (lt_ext hS HK.out)).mono ?_
  rintro e w1 ⟨rfl, hx⟩
  have HX := hid hx
  clear hx
  go_wp2
  all_goals
   go_ret
   exact ⟨by rw [HS.out]; rfl, HK.out.trans HX.out⟩
 ·have hb : (xn == yn) = false := by rw [beq_eq_false_iff_ne]; exact hxy
  have HS : Hid (decide ((⟨xn, xs⟩ : RInt) = ⟨yn, ys⟩) = false) := hid (decide_eq_false (fun e => hxy (by cases e; rfl)))
  clear hxy
  go_enter Tryz.func54, Tryz.ntmps54
  go_wp2
  all_goals
   go_ret
   exact ⟨by rw [HS.out]; rfl, HK.out⟩
theorem mayI_same {x : RInt} (h : okI x) : decide (x = ofI (valI x)) = mayI x := by
 cases hm : mayI x with
 | true => exact decide_eq_true (ofI_valI h hm).symm
 | false =>
  refine decide_eq_false (fun e => ?_)
  rw [e, mayI_ofI] at hm
  cases hm
theorem szZ_of {x : RInt} (h : okI x) (hr : x.mag.length ≤ 100000) : szZ (valI x) := by
 unfold szZ
 have : (valI x).natAbs = val B32 x.mag := by rw [valI_sg, sg_abs]
 rw [this]
 exact Nat.le_trans (rep10_len (val_lt _ h)) (by omega)
theorem zed_may {S : Nat → Prop} (v : Value) (x : RInt) (w : World) (h : IntV S w v x) (hS : ∀ k, S k → k < w.heap.size) (hr : x.mag.length ≤ 100000) :
  Calls Tryz.prog 42 #[v] w fun e w' => e = .returned (.bool (mayI x)) ∧ Ext w w' := by
 obtain ⟨vm, hv, hu⟩ := h
 have hok : okI x := hu.lt
 have HM := hid (mayI_same hok)
 have HZ := hid (szZ_of hok hr)
 have HR := hid hr
 have HU := hid hu
 obtain ⟨a, c, rfl⟩ := hu.form
 subst hv
 obtain ⟨xn, xs⟩ := x
 simp only at HU ⊢
 have HK := hid (Ext.alloc (Ext.refl w) (.cells #[.bool xn, .slice a xs.length c] 26))
 have x0 := (Ext.refl (w.alloc (.cells #[.bool xn, .slice a xs.length c] 26))).drew
 have HX0 := hid x0
 have S0 := And.intro (new2 x0).1 (new2 x0).2.1
 clear hu hr hok x0
 go_enter Tryz.func42, Tryz.ntmps42
 go_wp2
 go_region_held3 (fun W => W.cell? ⟨w.heap.size, 0, none⟩ = some (.bool xn) ∧ W.cell? ⟨w.heap.size, 1, none⟩ = some (.slice a xs.length c)) (first | exact S0 | exact S1 | exact S2 | exact S3)
  (first
   | (go_at_call 41; (with_reducible refine (zed_of _ ⟨xn, xs⟩ _ (intV_mk (HU.out.ext (HK.out.trans HX0.out) hS)) (lt_ext hS (HK.out.trans HX0.out)) HR.out).mono ?_); rintro e w1 ⟨v1, rfl, hz1, hx1⟩; have S1 := And.intro (hx1.cell S0.1) (hx1.cell S0.2); have HX1 := hid hx1; have HZ1 := hid hz1; clear hx1 hz1)
   | (go_at_call 52; (with_reducible refine (zed_int _ _ _ HZ1.out New.lt HZ.out).mono ?_); rintro e w2 ⟨v2, rfl, hz2, hx2⟩; have S2 := And.intro (hx2.cell S1.1) (hx2.cell S1.2); have HX2 := hid hx2; have HZ2 := hid hz2; clear hx2 hz2)
   | (go_at_call 54; (with_reducible refine (zed_same (S := fun k => k < w2.heap.size) _ _ ⟨xn, xs⟩ _ _ (IntV.to (intV_mk (HU.out.ext (HK.out.trans (HX0.out.trans (HX1.out.trans HX2.out))) hS)) (Kept.refl _ _) (lt_ext hS (HK.out.trans (HX0.out.trans (HX1.out.trans HX2.out))))) (HZ2.out.to (Kept.refl _ _) New.lt) (fun _ h => h)).mono ?_); rintro e w3 ⟨rfl, hx3⟩; have S3 := And.intro (hx3.cell S2.1) (hx3.cell S2.2); have HX3 := hid hx3; clear hx3))
 go_wp2
 all_goals
  go_ret
  exact ⟨by rw [← HM.out]; rfl, HK.out.trans (HX0.out.trans (HX1.out.trans (HX2.out.trans HX3.out)))⟩
end
section
open Go.RowKit
theorem zed_small (n : Nat) (w : World) (hn : n < 9223372036854775808) :
  Calls Tryz.prog 36 #[.int .i64 (n : Nat)] w fun e w' => ∃ v', e = .returned v' ∧ ZV (New w w') w' v' (n : Int) ∧ Ext w w' := by
 have HK := hid (Ext.alloc (Ext.refl w) (.cells #[.bool false, .slice none 0 0] 56))
 have HSZ : Hid (w.heap.size < (w.alloc (.cells #[.bool false, .slice none 0 0] 56)).heap.size) := hid (by simp)
 have HC := hid (dig_small n (w.alloc (.cells #[.bool false, .slice none 0 0] 56)) (by omega))
 go_enter Tryz.func36, Tryz.ntmps36
 go_wp2_with fail
 refine HC.out.mono ?_
 rintro e w1 ⟨v1, rfl, hd, hx⟩
 obtain ⟨r0, r1, f0, f1⟩ := new2 hx
 have HE := hid (And.intro r0 r1)
 have HX := hid hx
 have HD := hid hd
 obtain ⟨a1, n1, rfl⟩ := hd.form
 clear hd hx
 go_wp2
 have hd := fun x y => two_set x y HE.out.1 HE.out.2
 refine bodyPost_ret (by simp [results, Tryz.results36, go_sem, (hd _ _).1, (hd _ _).2]; rfl) rfl ?_
 have hz := zv_mk (b := false) HD.out
 have hg := fun x y => ret_zed (w0 := w) (b := w.heap.size) hz HK.out HX.out (Nat.le_refl _) HSZ.out x y
 exact ⟨_, rfl, (hg _ _).1, (hg _ _).2⟩
theorem mul_sg (x y : Int) : x * y = sg (decide (x < 0) != decide (y < 0)) (x.natAbs * y.natAbs) := by
 unfold sg
 rcases Int.lt_or_le x 0 with hx | hx <;> rcases Int.lt_or_le y 0 with hy | hy
 ·have e : (decide (x < 0) != decide (y < 0)) = false := by simp [hx, hy]
  rw [e]
  simp only [Bool.false_eq_true, if_false, Int.natCast_mul]
  rw [Int.ofNat_natAbs_of_nonpos (by omega), Int.ofNat_natAbs_of_nonpos (by omega), Int.neg_mul_neg]
 ·have e : (decide (x < 0) != decide (y < 0)) = true := by simp [hx, Int.not_lt.2 hy]
  rw [e]
  simp only [if_true, Int.natCast_mul]
  rw [Int.ofNat_natAbs_of_nonpos (by omega), Int.natAbs_of_nonneg hy, Int.neg_mul, Int.neg_neg]
 ·have e : (decide (x < 0) != decide (y < 0)) = true := by simp [hy, Int.not_lt.2 hx]
  rw [e]
  simp only [if_true, Int.natCast_mul]
  rw [Int.natAbs_of_nonneg hx, Int.ofNat_natAbs_of_nonpos (by omega), Int.mul_neg, Int.neg_neg]
 ·have e : (decide (x < 0) != decide (y < 0)) = false := by simp [Int.not_lt.2 hx, Int.not_lt.2 hy]
  rw [e]
  simp only [Bool.false_eq_true, if_false, Int.natCast_mul]
  rw [Int.natAbs_of_nonneg hx, Int.natAbs_of_nonneg hy]
theorem old4 {w W : World} {u0 v0 u1 v1 : Value} {T0 T1 : TypeId} {o : Obj} (h : Ext (((w.alloc (.cells #[u0, v0] T0)).alloc (.cells #[u1, v1] T1)).alloc o) W) :
  W.cell? ⟨w.heap.size, 0, none⟩ = some u0 ∧ W.cell? ⟨w.heap.size, 1, none⟩ = some v0 ∧ W.cell? ⟨w.heap.size + 1, 0, none⟩ = some u1 ∧ W.cell? ⟨w.heap.size + 1, 1, none⟩ = some v1 := by
 have e1 := (Ext.alloc (Ext.refl _) o).trans h
 exact ⟨(old2 e1).1, (old2 e1).2, (new2' e1).1, (new2' e1).2.1⟩
theorem new3' {w W : World} {u0 v0 u1 v1 u v : Value} {T0 T1 T : TypeId} (h : Ext (((w.alloc (.cells #[u0, v0] T0)).alloc (.cells #[u1, v1] T1)).alloc (.cells #[u, v] T)) W) :
  W.cell? ⟨w.heap.size + 1 + 1, 0, none⟩ = some u ∧ W.cell? ⟨w.heap.size + 1 + 1, 1, none⟩ = some v ∧ W.frozen? ⟨w.heap.size + 1 + 1, 0, none⟩ = false ∧ W.frozen? ⟨w.heap.size + 1 + 1, 1, none⟩ = false := by
 have := new2 h
 rw [size_alloc, size_alloc] at this
 exact this
theorem zed_mul {S : Nat → Prop} (vx vy : Value) (x y : Int) (w : World) (hx : ZV S w vx x) (hy : ZV S w vy y) (hS : ∀ k, S k → k < w.heap.size) (hrx : szZ x) (hry : szZ y) :
  Calls Tryz.prog 75 #[vx, vy] w fun e w' => ∃ v', e = .returned v' ∧ ZV (New w w') w' v' (x * y) ∧ Ext w w' := by
 obtain ⟨vdx, rfl, hdx⟩ := hx
 obtain ⟨vdy, rfl, hdy⟩ := hy
 have HX := hid hdx
 have HY := hid hdy
 obtain ⟨ax, cx, rfl⟩ := hdx.form
 obtain ⟨ay, cy, rfl⟩ := hdy.form
 rw [mul_sg x y]
 obtain ⟨n, hn⟩ : ∃ n, n = x.natAbs * y.natAbs := ⟨_, rfl⟩
 rw [← hn]
 obtain ⟨bx, hbx⟩ : ∃ b, b = decide (x < 0) := ⟨_, rfl⟩
 obtain ⟨bz, hbz⟩ : ∃ b, b = decide (y < 0) := ⟨_, rfl⟩
 obtain ⟨nx, hnx⟩ : ∃ n, n = (rep 10 x.natAbs).length := ⟨_, rfl⟩
 obtain ⟨ny, hny⟩ : ∃ n, n = (rep 10 y.natAbs).length := ⟨_, rfl⟩
 rw [← hbx, ← hbz, ← hnx, ← hny]
 have HK := hid (Ext.alloc (Ext.alloc (Ext.alloc (Ext.refl w) (.cells #[.bool bx, .slice ax nx cx] 56)) (.cells #[.bool bz, .slice ay ny cy] 56)) (.cells #[.bool false, .slice none 0 0] 56))
 have hc := dig_mul _ _ (rep 10 x.natAbs) (rep 10 y.natAbs) _ (HX.out.ext HK.out hS) (HY.out.ext HK.out hS) (lt_ext hS HK.out) (Nat.le_trans hrx (by decide)) (Nat.le_trans hry (by decide))
 rw [val_rep two_le_10, val_rep two_le_10, ← hn, ← hnx, ← hny] at hc
 have HC := hid hc
 have HSZ : Hid (w.heap.size + 1 + 1 < (((w.alloc (.cells #[.bool bx, .slice ax nx cx] 56)).alloc (.cells #[.bool bz, .slice ay ny cy] 56)).alloc (.cells #[.bool false, .slice none 0 0] 56)).heap.size) := hid (by simp)
 have l1 := hdx.len_le
 have l2 := hdy.len_le
 rw [← hnx] at l1
 rw [← hny] at l2
 clear hdx hdy hn hbx hbz hnx hny hc hrx hry HX HY
 obtain ⟨q0, q1, q2, q3⟩ := old4 (Ext.refl (((w.alloc (.cells #[.bool bx, .slice ax nx cx] 56)).alloc (.cells #[.bool bz, .slice ay ny cy] 56)).alloc (.cells #[.bool false, .slice none 0 0] 56)))
 go_enter Tryz.func75, Tryz.ntmps75
 go_wp2_with fail
 refine HC.out.mono ?_
 rintro e w1 ⟨v1, rfl, hd, hxx⟩
 obtain ⟨p0, p1, p2, p3⟩ := old4 hxx
 obtain ⟨r0, r1, f0, f1⟩ := new3' hxx
 have HE := hid (And.intro r0 r1)
 have HXX := hid hxx
 have HD := hid hd
 obtain ⟨a1, n1, rfl⟩ := hd.form
 have hlen := rep10_pos n
 have hz := zv_mk (b := (bx != bz)) HD.out
 clear hd hxx q0 q1 q2 q3
 by_cases h0 : 0 < n
 ·have hp : 0 < (rep 10 n).length := by simpa [h0] using hlen
  rw [show ((bx != bz) && decide (0 < n)) = (bx != bz) by simp [h0]] at hz
  have HZ := hid hz
  clear hlen hz
  cases bx <;> cases bz
  all_goals
   go_wp2
   have hd := fun x y => two_set x y HE.out.1 HE.out.2
   refine bodyPost_ret (by simp [results, Tryz.results75, go_sem, (hd _ _).1, (hd _ _).2]; rfl) rfl ?_
   have hg := fun x y => ret_zed (w0 := w) (b := w.heap.size + 1 + 1) HZ.out HK.out HXX.out (by omega) HSZ.out x y
   exact ⟨_, rfl, (hg _ _).1, (hg _ _).2⟩
 ·obtain rfl : n = 0 := by omega
  rw [show ((bx != bz) && decide (0 < 0)) = false by simp] at hz
  have HZ := hid hz
  have hp : (rep 10 0).length = 0 := rfl
  clear hlen hz
  cases bx <;> cases bz
  all_goals
   go_wp2
   have hd := fun x y => two_set x y HE.out.1 HE.out.2
   refine bodyPost_ret (by simp [results, Tryz.results75, go_sem, (hd _ _).1, (hd _ _).2]; rfl) rfl ?_
   have hg := fun x y => ret_zed (w0 := w) (b := w.heap.size + 1 + 1) HZ.out HK.out HXX.out (by omega) HSZ.out x y
   exact ⟨_, rfl, (hg _ _).1, (hg _ _).2⟩
end
section
open Go.RowKit
theorem add_same {x y : Int} (h : decide (x < 0) = decide (y < 0)) : x + y = sg (decide (x < 0)) (x.natAbs + y.natAbs) := by
 unfold sg
 rw [decide_eq_decide] at h
 by_cases hx : x < 0
 ·have hy := h.1 hx
  rw [decide_eq_true hx, if_pos rfl]
  omega
 ·have hy : ¬ y < 0 := fun e => hx (h.2 e)
  rw [decide_eq_false hx, if_neg (by simp)]
  omega
theorem add_ge {x y : Int} (h : ¬ decide (x < 0) = decide (y < 0)) (hge : y.natAbs ≤ x.natAbs) : x + y = sg (decide (x < 0)) (x.natAbs - y.natAbs) := by
 unfold sg
 rw [decide_eq_decide] at h
 by_cases hx : x < 0
 ·rw [decide_eq_true hx, if_pos rfl]
  omega
 ·rw [decide_eq_false hx, if_neg (by simp)]
  omega
theorem add_lt {x y : Int} (h : ¬ decide (x < 0) = decide (y < 0)) (hlt : x.natAbs < y.natAbs) : x + y = sg (decide (y < 0)) (y.natAbs - x.natAbs) := by
 rw [Int.add_comm]
 exact add_ge (fun e => h e.symm) (Nat.le_of_lt hlt)
theorem same_sign {x y : Int} (_h : decide (x < 0) = decide (y < 0)) : (decide (x < 0) && decide (0 < x.natAbs + y.natAbs)) = decide (x < 0) := by
 by_cases hx : x < 0
 ·have : 0 < x.natAbs + y.natAbs := by omega
  simp [hx, this]
 ·simp [hx]
theorem zed_add_same {S : Nat → Prop} (vx vy : Value) (x y : Int) (w : World) (hx : ZV S w vx x) (hy : ZV S w vy y) (hS : ∀ k, S k → k < w.heap.size) (hrx : szZ x) (hry : szZ y) (hs : decide (x < 0) = decide (y < 0)) :
  Calls Tryz.prog 77 #[vx, vy] w fun e w' => ∃ v', e = .returned v' ∧ ZV (New w w') w' v' (x + y) ∧ Ext w w' := by
 obtain ⟨vdx, rfl, hdx⟩ := hx
 obtain ⟨vdy, rfl, hdy⟩ := hy
 have HX := hid hdx
 have HY := hid hdy
 obtain ⟨ax, cx, rfl⟩ := hdx.form
 obtain ⟨ay, cy, rfl⟩ := hdy.form
 rw [add_same hs]
 have hsg := same_sign hs
 obtain ⟨n, hn⟩ : ∃ n, n = x.natAbs + y.natAbs := ⟨_, rfl⟩
 obtain ⟨bx, hbx⟩ : ∃ b, b = decide (x < 0) := ⟨_, rfl⟩
 obtain ⟨nx, hnx⟩ : ∃ n, n = (rep 10 x.natAbs).length := ⟨_, rfl⟩
 obtain ⟨ny, hny⟩ : ∃ n, n = (rep 10 y.natAbs).length := ⟨_, rfl⟩
 have HL : Hid ((rep 10 x.natAbs).length ≤ 10000000 ∧ (rep 10 y.natAbs).length ≤ 10000000) := hid ⟨Nat.le_trans hrx (by decide), Nat.le_trans hry (by decide)⟩
 rw [← hs, ← hn, ← hbx, ← hnx, ← hny]
 rw [← hn, ← hbx] at hsg
 have HSG := hid hsg
 have HN := hid hn
 have HNX := hid hnx
 have HNY := hid hny
 have hb : (bx == bx) = true := by simp
 have HK := hid (Ext.alloc (Ext.alloc (Ext.alloc (Ext.refl w) (.cells #[.bool bx, .slice ax nx cx] 56)) (.cells #[.bool bx, .slice ay ny cy] 56)) (.cells #[.bool false, .slice none 0 0] 56))
 have HSZ : Hid (w.heap.size + 1 + 1 < (((w.alloc (.cells #[.bool bx, .slice ax nx cx] 56)).alloc (.cells #[.bool bx, .slice ay ny cy] 56)).alloc (.cells #[.bool false, .slice none 0 0] 56)).heap.size) := hid (by simp)
 have x0 := (Ext.refl (((w.alloc (.cells #[.bool bx, .slice ax nx cx] 56)).alloc (.cells #[.bool bx, .slice ay ny cy] 56)).alloc (.cells #[.bool false, .slice none 0 0] 56))).drew
 have HX0 := hid x0
 have hc := dig_add _ _ (rep 10 x.natAbs) (rep 10 y.natAbs) _ (HX.out.ext (HK.out.trans x0) hS) (HY.out.ext (HK.out.trans x0) hS) (lt_ext hS (HK.out.trans x0)) HL.out.1 HL.out.2
 rw [val_rep two_le_10, val_rep two_le_10, ← hn, ← hnx, ← hny] at hc
 have HC := hid hc
 have S0 : _ ∧ _ ∧ _ := And.intro (old4 x0).1 (And.intro (old4 x0).2.1 (old4 x0).2.2.2)
 have HS0 := hid S0
 clear hdx hdy hn hbx hnx hny hrx hry hs hsg hc x0 S0
 go_enter Tryz.func77, Tryz.ntmps77
 go_wp2
 have S0 := HS0.out
 go_region_held3 (fun W => W.cell? ⟨w.heap.size, 0, none⟩ = some (.bool bx) ∧ W.cell? ⟨w.heap.size, 1, none⟩ = some (.slice ax nx cx) ∧ W.cell? ⟨w.heap.size + 1, 1, none⟩ = some (.slice ay ny cy)) (first | exact S0 | exact S1 | exact ⟨other (other S1.1 (ab (by omega))) (ab (by omega)), other (other S1.2.1 (ab (by omega))) (ab (by omega)), other (other S1.2.2 (ab (by omega))) (ab (by omega))⟩)
  (first
   | (go_at_call 74; (with_reducible refine HC.out.mono ?_); rintro e w1 ⟨v1, rfl, hd, hxx⟩; have S1 := And.intro (hxx.cell S0.1) (And.intro (hxx.cell S0.2.1) (hxx.cell S0.2.2)); obtain ⟨r0, r1, f0, f1⟩ := new3' (HX0.out.trans hxx); have HE := hid (And.intro r0 r1); have HXX := hid hxx; have HD := hid hd; obtain ⟨a1, n1, rfl⟩ := hd.form; clear hd hxx))
 go_wp2
 have hd := fun x y => two_set x y HE.out.1 HE.out.2
 refine bodyPost_ret (by simp [results, Tryz.results77, go_sem, (hd _ _).1, (hd _ _).2]; rfl) rfl ?_
 have hz := zv_mk (b := bx) HD.out
 rw [HSG.out] at hz
 have hg := fun x y => ret_zed (w0 := w) (b := w.heap.size + 1 + 1) hz (HK.out.trans HX0.out) HXX.out (by omega) (Nat.lt_of_lt_of_le HSZ.out HX0.out.size) x y
 exact ⟨_, rfl, (hg _ _).1, (hg _ _).2⟩
theorem zed_add_ge {S : Nat → Prop} (vx vy : Value) (x y : Int) (w : World) (hx : ZV S w vx x) (hy : ZV S w vy y) (hS : ∀ k, S k → k < w.heap.size) (hrx : szZ x) (hry : szZ y) (hs : ¬ decide (x < 0) = decide (y < 0)) (hge : y.natAbs ≤ x.natAbs) :
  Calls Tryz.prog 77 #[vx, vy] w fun e w' => ∃ v', e = .returned v' ∧ ZV (New w w') w' v' (x + y) ∧ Ext w w' := by
 obtain ⟨vdx, rfl, hdx⟩ := hx
 obtain ⟨vdy, rfl, hdy⟩ := hy
 have HX := hid hdx
 have HY := hid hdy
 obtain ⟨ax, cx, rfl⟩ := hdx.form
 obtain ⟨ay, cy, rfl⟩ := hdy.form
 rw [add_ge hs hge]
 have HCM : Hid (-1 < cmpN x.natAbs y.natAbs) := hid (by
  unfold cmpN
  have := cmpI_mone (x := (x.natAbs : Int)) (y := (y.natAbs : Int))
  rcases cmpI_cases (x.natAbs : Int) (y.natAbs : Int) with h | h | h
  ·have := this.1 h; omega
  ·omega
  ·omega)
 have HLE : Hid ((rep 10 y.natAbs).length ≤ (rep 10 x.natAbs).length) := hid (rep_len_le two_le_10 _ _ (Nat.lt_of_le_of_lt hge (le_of_rep_len two_le_10 _)))
 have HVL : Hid (val 10 (rep 10 y.natAbs) ≤ val 10 (rep 10 x.natAbs)) := hid (by rw [val_rep two_le_10, val_rep two_le_10]; exact hge)
 obtain ⟨n, hn⟩ : ∃ n, n = x.natAbs - y.natAbs := ⟨_, rfl⟩
 obtain ⟨bx, hbx⟩ : ∃ b, b = decide (x < 0) := ⟨_, rfl⟩
 obtain ⟨bz, hbz⟩ : ∃ b, b = decide (y < 0) := ⟨_, rfl⟩
 obtain ⟨nx, hnx⟩ : ∃ n, n = (rep 10 x.natAbs).length := ⟨_, rfl⟩
 obtain ⟨ny, hny⟩ : ∃ n, n = (rep 10 y.natAbs).length := ⟨_, rfl⟩
 have HL : Hid ((rep 10 x.natAbs).length ≤ 10000000 ∧ (rep 10 y.natAbs).length ≤ 10000000) := hid ⟨Nat.le_trans hrx (by decide), Nat.le_trans hry (by decide)⟩
 rw [← hn, ← hbx, ← hbz, ← hnx, ← hny]
 rw [← hbx, ← hbz] at hs
 have hb : (bx == bz) = false := by rw [beq_eq_false_iff_ne]; exact hs
 have HK := hid (Ext.alloc (Ext.alloc (Ext.alloc (Ext.refl w) (.cells #[.bool bx, .slice ax nx cx] 56)) (.cells #[.bool bz, .slice ay ny cy] 56)) (.cells #[.bool false, .slice none 0 0] 56))
 have HSZ : Hid (w.heap.size + 1 + 1 < (((w.alloc (.cells #[.bool bx, .slice ax nx cx] 56)).alloc (.cells #[.bool bz, .slice ay ny cy] 56)).alloc (.cells #[.bool false, .slice none 0 0] 56)).heap.size) := hid (by simp)
 have hc1 := dig_cmp _ _ x.natAbs y.natAbs _ (HX.out.ext HK.out hS) (HY.out.ext HK.out hS) (lt_ext hS HK.out)
 rw [← hnx, ← hny] at hc1
 obtain ⟨cm, hcm⟩ : ∃ c, c = cmpN x.natAbs y.natAbs := ⟨_, rfl⟩
 rw [← hcm] at hc1 HCM
 have HC1 := hid hc1
 have hc2 := fun W (hW : Ext (((w.alloc (.cells #[.bool bx, .slice ax nx cx] 56)).alloc (.cells #[.bool bz, .slice ay ny cy] 56)).alloc (.cells #[.bool false, .slice none 0 0] 56)) W) =>
  dig_sub _ _ (rep 10 x.natAbs) (rep 10 y.natAbs) W (HX.out.ext (HK.out.trans hW) hS) (HY.out.ext (HK.out.trans hW) hS) (lt_ext hS (HK.out.trans hW)) HL.out.1 HLE.out HVL.out
 rw [val_rep two_le_10, val_rep two_le_10, ← hn, ← hnx, ← hny] at hc2
 have HC2 := hid hc2
 clear hdx hdy hn hbx hbz hnx hny hrx hry hs hge hc1 hc2 hcm
 have hcm0 := HCM.out
 go_enter Tryz.func77, Tryz.ntmps77
 go_wp2_with fail
 refine HC1.out.mono ?_
 rintro e w1 ⟨rfl, hx1⟩
 obtain ⟨p0, p1, p2, p3⟩ := old4 hx1
 have HX1 := hid hx1
 clear hx1
 go_wp2_with fail
 refine (HC2.out w1 HX1.out).mono ?_
 rintro e w2 ⟨v2, rfl, hd, hx2⟩
 obtain ⟨q0, q1, q2, q3⟩ := old4 (HX1.out.trans hx2)
 obtain ⟨r0, r1, f0, f1⟩ := new3' (HX1.out.trans hx2)
 have HE := hid (And.intro r0 r1)
 have HX2 := hid hx2
 have HD := hid hd
 obtain ⟨a1, n1, rfl⟩ := hd.form
 have hlen := rep10_pos n
 have hz := zv_mk (b := bx) HD.out
 clear hd hx2 p0 p1 p2 p3
 by_cases h0 : 0 < n
 ·have hp : 0 < (rep 10 n).length := by simpa [h0] using hlen
  rw [show (bx && decide (0 < n)) = bx by simp [h0]] at hz
  have HZ := hid hz
  clear hlen hz
  cases bx
  all_goals
   go_wp2
   have hd := fun x y => two_set x y HE.out.1 HE.out.2
   refine bodyPost_ret (by simp [results, Tryz.results77, go_sem, (hd _ _).1, (hd _ _).2]; rfl) rfl ?_
   have hg := fun x y => ret_zed (w0 := w) (b := w.heap.size + 1 + 1) HZ.out (HK.out.trans HX1.out) HX2.out (by omega) (Nat.lt_of_lt_of_le HSZ.out HX1.out.size) x y
   exact ⟨_, rfl, (hg _ _).1, (hg _ _).2⟩
 ·obtain rfl : n = 0 := by omega
  rw [show (bx && decide (0 < 0)) = false by simp] at hz
  have HZ := hid hz
  have hp : (rep 10 0).length = 0 := rfl
  clear hlen hz
  cases bx
  all_goals
   go_wp2
   have hd := fun x y => two_set x y HE.out.1 HE.out.2
   refine bodyPost_ret (by simp [results, Tryz.results77, go_sem, (hd _ _).1, (hd _ _).2]; rfl) rfl ?_
   have hg := fun x y => ret_zed (w0 := w) (b := w.heap.size + 1 + 1) HZ.out (HK.out.trans HX1.out) HX2.out (by omega) (Nat.lt_of_lt_of_le HSZ.out HX1.out.size) x y
   exact ⟨_, rfl, (hg _ _).1, (hg _ _).2⟩
theorem fr4 {w W : World} {u0 v0 u1 v1 : Value} {T0 T1 : TypeId} {o : Obj} (h : Ext (((w.alloc (.cells #[u0, v0] T0)).alloc (.cells #[u1, v1] T1)).alloc o) W) :
  W.frozen? ⟨w.heap.size, 0, none⟩ = false ∧ W.frozen? ⟨w.heap.size, 1, none⟩ = false ∧ W.frozen? ⟨w.heap.size + 1, 0, none⟩ = false ∧ W.frozen? ⟨w.heap.size + 1, 1, none⟩ = false := by
 have e1 := (Ext.alloc (Ext.refl _) o).trans h
 have e0 := (Ext.alloc (Ext.refl _) _).trans e1
 exact ⟨(new2 e0).2.2.1, (new2 e0).2.2.2, (new2' e1).2.2.1, (new2' e1).2.2.2⟩
def swapW (w : World) (b : Nat) (x0 x1 y0 y1 : Value) : World := (((w.setCell ⟨b, 0, none⟩ x0).setCell ⟨b, 1, none⟩ x1).setCell ⟨b + 1, 0, none⟩ y0).setCell ⟨b + 1, 1, none⟩ y1
theorem swap_ext {a w : World} (h : Ext a w) {b : Nat} (hb : a.heap.size ≤ b) (x0 x1 y0 y1 : Value) : Ext a (swapW w b x0 x1 y0 y1) :=
 (h.set2 hb x0 x1).set2 (Nat.le_trans hb (Nat.le_succ _)) y0 y1
theorem swap_size {w : World} {b : Nat} (x0 x1 y0 y1 : Value) : (swapW w b x0 x1 y0 y1).heap.size = w.heap.size := by
 unfold swapW
 rw [size_set2, size_set2]
theorem swap_cells {w : World} {b : Nat} {u0 u1 v0 v1 : Value} (x0 x1 y0 y1 : Value) (c0 : w.cell? ⟨b, 0, none⟩ = some u0) (c1 : w.cell? ⟨b, 1, none⟩ = some u1) (d0 : w.cell? ⟨b + 1, 0, none⟩ = some v0) (d1 : w.cell? ⟨b + 1, 1, none⟩ = some v1) :
  (swapW w b x0 x1 y0 y1).cell? ⟨b, 0, none⟩ = some x0 ∧ (swapW w b x0 x1 y0 y1).cell? ⟨b, 1, none⟩ = some x1 ∧ (swapW w b x0 x1 y0 y1).cell? ⟨b + 1, 0, none⟩ = some y0 ∧ (swapW w b x0 x1 y0 y1).cell? ⟨b + 1, 1, none⟩ = some y1 := by
 unfold swapW
 have h1 := two_set x0 x1 c0 c1
 have e0 := other (v := x1) (other (v := x0) d0 (ab (b := b) (i := 0) (show b ≠ b + 1 by omega))) (ab (b := b) (i := 1) (show b ≠ b + 1 by omega))
 have e1 := other (v := x1) (other (v := x0) d1 (ab (b := b) (i := 0) (show b ≠ b + 1 by omega))) (ab (b := b) (i := 1) (show b ≠ b + 1 by omega))
 have h2 := two_set y0 y1 e0 e1
 exact ⟨other (other h1.1 (ab (by omega))) (ab (by omega)), other (other h1.2 (ab (by omega))) (ab (by omega)), h2.1, h2.2⟩
theorem swap_far {w : World} {b c i : Nat} {u : Value} (x0 x1 y0 y1 : Value) (h : w.cell? ⟨c, i, none⟩ = some u) (h1 : b ≠ c) (h2 : b + 1 ≠ c) : (swapW w b x0 x1 y0 y1).cell? ⟨c, i, none⟩ = some u := by
 unfold swapW
 exact other (other (other (other h (ab h1)) (ab h1)) (ab h2)) (ab h2)
theorem swap_free {w : World} {b : Nat} {c : Addr} (x0 x1 y0 y1 : Value) (h : w.frozen? c = false) : (swapW w b x0 x1 y0 y1).frozen? c = false := by
 unfold swapW
 exact free_set (free_set (free_set (free_set h)))
theorem zed_add_lt {S : Nat → Prop} (vx vy : Value) (x y : Int) (w : World) (hx : ZV S w vx x) (hy : ZV S w vy y) (hS : ∀ k, S k → k < w.heap.size) (hrx : szZ x) (hry : szZ y) (hs : ¬ decide (x < 0) = decide (y < 0)) (hlt : x.natAbs < y.natAbs) :
  Calls Tryz.prog 77 #[vx, vy] w fun e w' => ∃ v', e = .returned v' ∧ ZV (New w w') w' v' (x + y) ∧ Ext w w' := by
 obtain ⟨vdx, rfl, hdx⟩ := hx
 obtain ⟨vdy, rfl, hdy⟩ := hy
 have HX := hid hdx
 have HY := hid hdy
 obtain ⟨ax, cx, rfl⟩ := hdx.form
 obtain ⟨ay, cy, rfl⟩ := hdy.form
 rw [add_lt hs hlt]
 have HCM : Hid (cmpN x.natAbs y.natAbs = -1) := hid (by
  unfold cmpN
  rw [cmpI_mone]
  omega)
 have HLE : Hid ((rep 10 x.natAbs).length ≤ (rep 10 y.natAbs).length) := hid (rep_len_le two_le_10 _ _ (Nat.lt_trans hlt (le_of_rep_len two_le_10 _)))
 have HVL : Hid (val 10 (rep 10 x.natAbs) ≤ val 10 (rep 10 y.natAbs)) := hid (by rw [val_rep two_le_10, val_rep two_le_10]; omega)
 obtain ⟨n, hn⟩ : ∃ n, n = y.natAbs - x.natAbs := ⟨_, rfl⟩
 obtain ⟨bx, hbx⟩ : ∃ b, b = decide (x < 0) := ⟨_, rfl⟩
 obtain ⟨bz, hbz⟩ : ∃ b, b = decide (y < 0) := ⟨_, rfl⟩
 obtain ⟨nx, hnx⟩ : ∃ n, n = (rep 10 x.natAbs).length := ⟨_, rfl⟩
 obtain ⟨ny, hny⟩ : ∃ n, n = (rep 10 y.natAbs).length := ⟨_, rfl⟩
 have HL : Hid ((rep 10 x.natAbs).length ≤ 10000000 ∧ (rep 10 y.natAbs).length ≤ 10000000) := hid ⟨Nat.le_trans hrx (by decide), Nat.le_trans hry (by decide)⟩
 rw [← hn, ← hbx, ← hbz, ← hnx, ← hny]
 rw [← hbx, ← hbz] at hs
 have hb : (bx == bz) = false := by rw [beq_eq_false_iff_ne]; exact hs
 have HK := hid (Ext.alloc (Ext.alloc (Ext.alloc (Ext.refl w) (.cells #[.bool bx, .slice ax nx cx] 56)) (.cells #[.bool bz, .slice ay ny cy] 56)) (.cells #[.bool false, .slice none 0 0] 56))
 have HSZ : Hid (w.heap.size + 1 + 1 < (((w.alloc (.cells #[.bool bx, .slice ax nx cx] 56)).alloc (.cells #[.bool bz, .slice ay ny cy] 56)).alloc (.cells #[.bool false, .slice none 0 0] 56)).heap.size) := hid (by simp)
 have hc1 := dig_cmp _ _ x.natAbs y.natAbs _ (HX.out.ext HK.out hS) (HY.out.ext HK.out hS) (lt_ext hS HK.out)
 rw [← hnx, ← hny, HCM.out] at hc1
 have HC1 := hid hc1
 have hc2 := fun W (hW : Ext w W) =>
  dig_sub _ _ (rep 10 y.natAbs) (rep 10 x.natAbs) W (HY.out.ext hW hS) (HX.out.ext hW hS) (lt_ext hS hW) HL.out.2 HLE.out HVL.out
 rw [val_rep two_le_10, val_rep two_le_10, ← hn, ← hnx, ← hny] at hc2
 have HC2 := hid hc2
 clear hdx hdy hn hbx hbz hnx hny hrx hry hs hlt hc1 hc2 HCM
 go_enter Tryz.func77, Tryz.ntmps77
 go_wp2_with fail
 refine HC1.out.mono ?_
 rintro e w1 ⟨rfl, hx1⟩
 obtain ⟨p0, p1, p2, p3⟩ := old4 hx1
 obtain ⟨g0, g1, g2, g3⟩ := fr4 hx1
 have HX1 := hid hx1
 have HP := hid (And.intro p0 (And.intro p1 (And.intro p2 p3)))
 clear hx1
 go_wp2_with fail
 have hsw := swap_ext (HK.out.trans HX1.out) (Nat.le_refl _) (.bool bz) (.slice ay ny cy) (.bool bx) (.slice ax nx cx)
 have hq := swap_cells (.bool bz) (.slice ay ny cy) (.bool bx) (.slice ax nx cx) HP.out.1 HP.out.2.1 HP.out.2.2.1 HP.out.2.2.2
 obtain ⟨r0, r1, f0, f1⟩ := new3' HX1.out
 have hr0 := swap_far (.bool bz) (.slice ay ny cy) (.bool bx) (.slice ax nx cx) r0 (show w.heap.size ≠ w.heap.size + 1 + 1 by omega) (show w.heap.size + 1 ≠ w.heap.size + 1 + 1 by omega)
 have hr1 := swap_far (.bool bz) (.slice ay ny cy) (.bool bx) (.slice ax nx cx) r1 (show w.heap.size ≠ w.heap.size + 1 + 1 by omega) (show w.heap.size + 1 ≠ w.heap.size + 1 + 1 by omega)
 have hf0 := swap_free (b := w.heap.size) (.bool bz) (.slice ay ny cy) (.bool bx) (.slice ax nx cx) f0
 have hf1 := swap_free (b := w.heap.size) (.bool bz) (.slice ay ny cy) (.bool bx) (.slice ax nx cx) f1
 have hsz := swap_size (w := w1) (b := w.heap.size) (.bool bz) (.slice ay ny cy) (.bool bx) (.slice ax nx cx)
 have HSW := hid hsw
 have HQ := hid hq
 have HR := hid (And.intro hr0 hr1)
 have HF := hid (And.intro hf0 hf1)
 have HZS := hid hsz
 clear hsw hq r0 r1 f0 f1 hr0 hr1 hf0 hf1 hsz p0 p1 p2 p3 g0 g1 g2 g3
 obtain ⟨W0, hW0⟩ : ∃ W, W = swapW w1 w.heap.size (.bool bz) (.slice ay ny cy) (.bool bx) (.slice ax nx cx) := ⟨_, rfl⟩
 rw [← hW0] at HSW HQ HR HF HZS
 refine (Calls.mono (by have := HC2.out W0 HSW.out; rw [hW0] at this; exact this) ?_)
 rintro e w2 ⟨v2, rfl, hd, hx2⟩
 rw [← hW0] at hd hx2
 have q0 := hx2.cell HQ.out.1
 have q1 := hx2.cell HQ.out.2.1
 have r0 := hx2.cell HR.out.1
 have r1 := hx2.cell HR.out.2
 have hszw : w.heap.size + 1 + 1 < W0.heap.size := by rw [HZS.out]; exact Nat.lt_of_lt_of_le HSZ.out HX1.out.size
 have f0 := hx2.free hszw HF.out.1
 have f1 := hx2.free hszw HF.out.2
 have HE := hid (And.intro r0 r1)
 have HX2 := hid hx2
 have HSZ2 := hid hszw
 have HD := hid hd
 obtain ⟨a1, n1, rfl⟩ := hd.form
 have hlen := rep10_pos n
 have hz := zv_mk (b := bz) HD.out
 clear hd hx2 hW0 hszw
 by_cases h0 : 0 < n
 ·have hp : 0 < (rep 10 n).length := by simpa [h0] using hlen
  rw [show (bz && decide (0 < n)) = bz by simp [h0]] at hz
  have HZ := hid hz
  clear hlen hz
  cases bz
  all_goals
   go_wp2
   have hd := fun x y => two_set x y HE.out.1 HE.out.2
   refine bodyPost_ret (by simp [results, Tryz.results77, go_sem, (hd _ _).1, (hd _ _).2]; rfl) rfl ?_
   have hg := fun x y => ret_zed (w0 := w) (b := w.heap.size + 1 + 1) HZ.out HSW.out HX2.out (by omega) HSZ2.out x y
   exact ⟨_, rfl, (hg _ _).1, (hg _ _).2⟩
 ·obtain rfl : n = 0 := by omega
  rw [show (bz && decide (0 < 0)) = false by simp] at hz
  have HZ := hid hz
  have hp : (rep 10 0).length = 0 := rfl
  clear hlen hz
  cases bz
  all_goals
   go_wp2
   have hd := fun x y => two_set x y HE.out.1 HE.out.2
   refine bodyPost_ret (by simp [results, Tryz.results77, go_sem, (hd _ _).1, (hd _ _).2]; rfl) rfl ?_
   have hg := fun x y => ret_zed (w0 := w) (b := w.heap.size + 1 + 1) HZ.out HSW.out HX2.out (by omega) HSZ2.out x y
   exact ⟨_, rfl, (hg _ _).1, (hg _ _).2⟩
theorem zed_add {S : Nat → Prop} (vx vy : Value) (x y : Int) (w : World) (hx : ZV S w vx x) (hy : ZV S w vy y) (hS : ∀ k, S k → k < w.heap.size) (hrx : szZ x) (hry : szZ y) :
  Calls Tryz.prog 77 #[vx, vy] w fun e w' => ∃ v', e = .returned v' ∧ ZV (New w w') w' v' (x + y) ∧ Ext w w' := by
 by_cases hs : decide (x < 0) = decide (y < 0)
 ·exact zed_add_same vx vy x y w hx hy hS hrx hry hs
 ·by_cases hge : y.natAbs ≤ x.natAbs
  ·exact zed_add_ge vx vy x y w hx hy hS hrx hry hs hge
  ·exact zed_add_lt vx vy x y w hx hy hS hrx hry hs (by omega)
end
section
open Go.RowKit
def tinyT (ts : List RTerm) : Prop := ∀ t ∈ ts, t.c.mag.length ≤ 100000
theorem mag_nil {x : RInt} (hok : okI x) (h : mayI x = true) : x.mag.length = 0 ↔ val B32 x.mag = 0 := by
 have e := ofI_valI hok h
 have e2 : (valI x).natAbs = val B32 x.mag := by rw [valI_sg, sg_abs]
 have e3 : x.mag = rep B32 (val B32 x.mag) := by
  rw [← e2]
  exact (congrArg RInt.mag e).symm
 constructor
 ·intro h0
  rw [List.length_eq_zero_iff.1 h0]
  rfl
 ·intro h0
  rw [h0, rep_zero] at e3
  rw [e3]
  rfl
theorem mayTerm_nil {t : RTerm} (_hok : okI t.c) (h : t.c.mag.length = 0) : mayTerm t = false := by
 have : t.c.mag = [] := List.length_eq_zero_iff.1 h
 unfold mayTerm
 rw [this]
 rfl
theorem mayTerm_ok {t : RTerm} (hok : okI t.c) (h1 : t.c.mag.length ≠ 0) (h2 : mayI t.c = true) (h3 : mayM t.m = true) : mayTerm t = true := by
 have h0 : val B32 t.c.mag ≠ 0 := fun e => h1 ((mag_nil hok h2).2 e)
 unfold mayTerm
 rw [h2, h3, decide_eq_true h0]
 rfl
theorem order_rcmp {a b : Mono} (ha : mayM a = true) (hb : mayM b = true) : decide (0 < orderM a b) = (rcmp a b == 1) := by
 rw [rcmp_eq ha hb]
 unfold orderM
 rw [ha, hb]
 simp only [Bool.and_self, if_true]
 rcases compareM_cases ha hb with h | h | h <;> rw [h] <;> rfl
theorem may_before {ts : List RTerm} {k : Nat} {u : RTerm} (hu : ts[k]? = some u) : befT ts (k + 1) = some u := hu
def soFar (ts : List RTerm) (k : Nat) : Prop := mayT ts = mayFrom (befT ts k) (ts.drop k) ∧ ∀ u, befT ts k = some u → mayM u.m = true
theorem soFar_zero (ts : List RTerm) : soFar ts 0 := ⟨rfl, fun u hu => by cases hu⟩
theorem soFar_not {ts : List RTerm} {k : Nat} {t : RTerm} (h : soFar ts k) (ht : ts[k]? = some t) (hm : mayTerm t = false) : mayT ts = false := by
 rw [h.1, mayFrom_at ht, hm]
 rfl
theorem soFar_first {ts : List RTerm} {t : RTerm} (h : soFar ts 0) (ht : ts[0]? = some t) (hm : mayTerm t = true) (h3 : mayM t.m = true) : soFar ts 1 := by
 refine ⟨?_, fun u hu => ?_⟩
 ·rw [h.1, mayFrom_at ht, hm]
  rfl
 ·have : some t = some u := ht.symm.trans hu
  cases this
  exact h3
theorem soFar_next {ts : List RTerm} {k : Nat} {t u : RTerm} (h : soFar ts (k + 1)) (ht : ts[k + 1]? = some t) (hu : ts[k]? = some u) (hm : mayTerm t = true) (h3 : mayM t.m = true) (hc : rcmp u.m t.m = 1) : soFar ts (k + 1 + 1) := by
 have hum := h.2 u hu
 refine ⟨?_, fun v hv => ?_⟩
 ·rw [h.1, mayFrom_at ht, hm, may_before hu]
  simp only
  rw [order_rcmp hum h3, hc]
  rfl
 ·have : some t = some v := ht.symm.trans hv
  cases this
  exact h3
theorem soFar_stop {ts : List RTerm} {k : Nat} {t u : RTerm} (h : soFar ts (k + 1)) (ht : ts[k + 1]? = some t) (hu : ts[k]? = some u) (h3 : mayM t.m = true) (hc : ¬ rcmp u.m t.m = 1) : mayT ts = false := by
 have hum := h.2 u hu
 rw [h.1, mayFrom_at ht, may_before hu]
 simp only
 rw [order_rcmp hum h3, beq_eq_false_iff_ne.2 hc]
 simp
theorem rpoly_may {S : Nat → Prop} (v : Value) (ts : List RTerm) (w : World) (h : Terms S w v ts) (hS : ∀ k, S k → k < w.heap.size) (hr : tinyT ts) :
  Calls Tryz.prog 13 #[v] w fun e w' => e = .returned (.bool (mayT ts)) ∧ Ext w w' := by
 have hnot : ∀ (x : Bool) (w : World), (Op.unary .not (.bool x)).run Tryz.prog w = .ok (.bool (!x)) w := fun _ _ => rfl
 have hl := h.len_le
 have H := hid h
 have HRS := hid hr
 obtain ⟨a, cap, rfl⟩ := h.form
 clear h hr
 go_enter Tryz.func13, Tryz.ntmps13
 go_wp2
 go_loopw [3] (fun i wr => ∃ k : Nat, k ≤ ts.length ∧ i = .int .i64 k ∧ Ext w wr ∧ soFar ts k) (fun i _ => ts.length - (intOf i).toNat)
 case atStart => exact ⟨0, Nat.zero_le _, rfl, Ext.refl _, soFar_zero _⟩
 case round =>
  obtain ⟨k, hk, rfl, hx, hm⟩ := hrel
  have HM := hid hm
  have HX := hid hx
  by_cases hlt : k < ts.length
  ·obtain ⟨t, ht⟩ := some_of_lt hlt
   obtain ⟨b, off, vm, vo, rfl, -, hn1, hm1, hSb, h1, h2, h3, h4, h5⟩ := H.out.cellAt ht
   have hsm := HRS.out t (List.mem_of_getElem? ht)
   have HT := hid ht
   have HOK : Hid (okI t.c) := hid h4.lt
   obtain ⟨⟨ng, zs⟩, m⟩ := t
   simp only at h1 h2 h3 h4 h5 hsm
   have H4 := hid h4
   have H5 := hid h5
   obtain ⟨am, cm, rfl⟩ := h4.form
   obtain ⟨ao, co, rfl⟩ := h5.form
   have hzl := h4.len_le
   have g1 := Ext.cell hx h1
   have g2 := Ext.cell hx h2
   have g3 := Ext.cell hx h3
   have CZ := zed_may (S := S) _ ⟨ng, zs⟩ wr (intV_mk (H4.out.ext HX.out hS)) (lt_ext hS HX.out) hsm
   clear hm ht h1 h2 h3 h4 h5 hx hsm
   cases hi : mayI ⟨ng, zs⟩ with
   | false =>
    rw [hi] at CZ
    have HCZ := hid CZ
    have HF := hid (soFar_not HM.out HT.out (mayTerm_int hi))
    clear CZ hi
    go_wp2_with fail
    refine HCZ.out.mono ?_
    rintro e w1 ⟨rfl, hx1⟩
    have HX1 := hid (HX.out.trans hx1)
    clear hx1
    go_wp2
    all_goals
     go_ret
     exact ⟨by rw [HF.out]; rfl, HX1.out⟩
   | true =>
    rw [hi] at CZ
    have HCZ := hid CZ
    have HI := hid hi
    clear CZ hi
    by_cases hz : zs.length = 0
    ·have HF := hid (soFar_not HM.out HT.out (mayTerm_nil HOK.out hz))
     have HCZ0 := HCZ.out
     simp only [hz] at g2 HCZ0
     have HCZ1 := hid HCZ0
     clear HCZ0
     go_wp2_with fail
     refine HCZ1.out.mono ?_
     rintro e w1 ⟨rfl, hx1⟩
     have HX1 := hid (HX.out.trans hx1)
     have k1 := hx1.cell g1
     have k2 := hx1.cell g2
     have k3 := hx1.cell g3
     clear hx1 g1 g2 g3
     go_wp2
     all_goals
      go_ret
      exact ⟨by rw [HF.out]; rfl, HX1.out⟩
    ·have hzb : ((zs.length : Int) == 0) = false := by rw [beq_eq_false_iff_ne]; omega
     go_wp2_with fail
     refine HCZ.out.mono ?_
     rintro e w1 ⟨rfl, hx1⟩
     have HX1 := hid (HX.out.trans hx1)
     have k1 := hx1.cell g1
     have k2 := hx1.cell g2
     have k3 := hx1.cell g3
     have CQ := rmono_may (S := S) _ m w1 (H5.out.ext HX1.out hS) (lt_ext hS HX1.out)
     clear hx1 g1 g2 g3
     cases hq : mayM m with
     | false =>
      rw [hq] at CQ
      have HCQ := hid CQ
      have HF := hid (soFar_not HM.out HT.out (mayTerm_mono hq))
      clear CQ hq
      go_wp2_with fail
      refine HCQ.out.mono ?_
      rintro e w2 ⟨rfl, hx2⟩
      have HX2 := hid (HX1.out.trans hx2)
      clear hx2
      go_wp2
      all_goals
       go_ret
       exact ⟨by rw [HF.out]; rfl, HX2.out⟩
     | true =>
      rw [hq] at CQ
      have HCQ := hid CQ
      have HQ := hid hq
      have HMT : Hid (mayTerm ⟨⟨ng, zs⟩, m⟩ = true) := hid (mayTerm_ok HOK.out hz HI.out hq)
      clear CQ hq
      go_wp2_with fail
      refine HCQ.out.mono ?_
      rintro e w2 ⟨rfl, hx2⟩
      have HX2 := hid (HX1.out.trans hx2)
      have L3 := fun X : Later w2 => X.cell (hx2.cell k3)
      clear hx2 k1 k2 k3
      cases k with
      | zero =>
       have HF := hid (soFar_first HM.out HT.out HMT.out HQ.out)
       go_wp2
       refine wp_region_later (by kernel_rfl) (by kernel_rfl) ?_
       repeat (go_big_quiet_step (fail))
       refine wpQuiet_nil ?_
       intro W hW
       have HW := hid (HX2.out.trans hW)
       clear hW
       go_wp2
       go_roundw
       case rel => exact ⟨_, by omega, by go_num, HW.out, HF.out⟩
       case measure => simp only [intOf]; omega
      | succ k =>
       obtain ⟨u, hu⟩ := some_of_lt (show k < ts.length by omega)
       obtain ⟨b', off', vmu, vou, hbb, -, -, -, -, u1, u2, u3, u4, u5⟩ := H.out.cellAt hu
       obtain ⟨rfl, rfl⟩ : b = b' ∧ off = off' := by simpa using hbb
       have HP5 := hid u5
       have HU := hid hu
       obtain ⟨ap, cp, rfl⟩ := u5.form
       have L4 := fun X : Later w2 => X.cell (HX2.out.cell u3)
       have hq0 : ((k : Nat) : Int) + 1 - 1 = (k : Int) := by omega
       clear u1 u2 u3 u4 u5 hu hbb
       obtain ⟨rc, hrc⟩ : ∃ s, rcmp u.m m = s := ⟨_, rfl⟩
       have CO := fun (W : World) (h1 : Pows S W (.slice ap u.m.length cp) u.m) (h2 : Pows S W (.slice ao m.length co) m) hs => rmono_compare (S := S) _ _ _ _ W h1 h2 hs
       simp only [hrc] at CO
       have HCO := hid CO
       clear CO
       by_cases hc1 : rc = 1
       ·subst hc1
        have HF := hid (soFar_next HM.out HT.out HU.out HMT.out HQ.out hrc)
        clear hrc
        go_wp2
        refine wp_region_later (by kernel_rfl) (by kernel_rfl) ?_
        repeat (go_big_quiet_step (first | (go_at_call 44; exact Later.done (HCO.out _ (HP5.out.ext (HX2.out.trans (Later.h _)) hS) (H5.out.ext (HX2.out.trans (Later.h _)) hS) (lt_ext hS (HX2.out.trans (Later.h _)))))))
        refine wpQuiet_nil ?_
        intro W hW
        have HW := hid (HX2.out.trans hW)
        clear hW
        go_wp2
        go_roundw
        case rel => exact ⟨_, by omega, by go_num, HW.out, HF.out⟩
        case measure => simp only [intOf]; omega
       ·have hbn : (rc != 1) = true := by rw [bne_iff_ne]; exact hc1
        have HF := hid (soFar_stop HM.out HT.out HU.out HQ.out (by rw [hrc]; exact hc1))
        clear hrc
        go_wp2
        refine wp_region_later (by kernel_rfl) (by kernel_rfl) ?_
        repeat (go_big_quiet_step (first | (go_at_call 44; exact Later.done (HCO.out _ (HP5.out.ext (HX2.out.trans (Later.h _)) hS) (H5.out.ext (HX2.out.trans (Later.h _)) hS) (lt_ext hS (HX2.out.trans (Later.h _)))))))
        refine wpQuiet_nil ?_
        intro W hW
        have HW := hid (HX2.out.trans hW)
        clear hW
        go_wp2
        all_goals
         go_ret
         exact ⟨by rw [HF.out]; rfl, HW.out⟩
  ·obtain rfl : k = ts.length := by omega
   have HF : Hid (mayT ts = true) := hid (by rw [hm.1, List.drop_length]; rfl)
   clear hx hm
   go_wp2
   all_goals
    go_ret
    exact ⟨by rw [HF.out]; rfl, HX.out⟩
end
section
open Go.RowKit
def RTs (S : Nat → Prop) (w : World) (v : Value) (p : PZ) : Prop :=
 ∃ b off, SliceAt S v p.length b off ∧ ∀ j t, p[j]? = some t → ∃ vd vo, w.cell? ⟨b, off + j * 3, none⟩ = some (.bool (decide (t.1 < 0))) ∧
  w.cell? ⟨b, off + j * 3 + 1, none⟩ = some vd ∧ w.cell? ⟨b, off + j * 3 + 2, none⟩ = some vo ∧ Digs S w vd (rep 10 t.1.natAbs) ∧ Pows S w vo t.2
section
variable {S S' : Nat → Prop} {w w' : World} {v : Value} {p : PZ}
theorem RTs.form (h : RTs S w v p) : ∃ a cap, v = .slice a p.length cap := by
 obtain ⟨b, off, ⟨a, cap, h1, _⟩, _⟩ := h
 exact ⟨a, cap, h1⟩
theorem RTs.to (h : RTs S w v p) (hk : Kept S w w') (hS : ∀ k, S k → S' k) : RTs S' w' v p := by
 obtain ⟨b, off, hs, hc⟩ := h
 refine ⟨b, off, hs.mono hS, fun j t hj => ?_⟩
 obtain ⟨vm, vo, h1, h2, h3, h4, h5⟩ := hc j t hj
 have hb := hs.in (lt_of_some hj)
 exact ⟨vm, vo, hk.cell hb h1, hk.cell hb h2, hk.cell hb h3, h4.to hk hS, h5.to hk hS⟩
theorem RTs.ext (h : RTs S w v p) (hx : Ext w w') (hS : ∀ k, S k → k < w.heap.size) : RTs S w' v p := h.to (Kept.ext hx hS) (fun _ h => h)
theorem RTs.len_le (h : RTs S w v p) : p.length ≤ 9223372036854775807 := by
 obtain ⟨b, off, ⟨a, cap, h1, h2, h3, _⟩, _⟩ := h
 unfold maxLen at h3
 omega
theorem RTs.cellAt {a : Option Addr} {n cap k : Nat} {t : Int × Mono} (h : RTs S w (.slice a n cap) p) (ht : p[k]? = some t) :
  ∃ b off vd vo, a = some ⟨b, off, none⟩ ∧ n = p.length ∧ n ≤ cap ∧ cap ≤ 9223372036854775807 ∧ S b ∧ w.cell? ⟨b, off + k * 3, none⟩ = some (.bool (decide (t.1 < 0))) ∧ w.cell? ⟨b, off + k * 3 + 1, none⟩ = some vd ∧ w.cell? ⟨b, off + k * 3 + 2, none⟩ = some vo ∧ Digs S w vd (rep 10 t.1.natAbs) ∧ Pows S w vo t.2 := by
 obtain ⟨b, off, ⟨a', cap', h1, h2, h3, h4, h5⟩, hc⟩ := h
 obtain ⟨rfl, rfl, rfl⟩ : a = a' ∧ n = p.length ∧ cap = cap' := by simpa using h1
 have hp : 0 < p.length := by have := lt_of_some ht; omega
 obtain ⟨vm, vo, g1, g2, g3, g4, g5⟩ := hc k t ht
 exact ⟨b, off, vm, vo, h4 hp, rfl, h2, h3, h5 hp, g1, g2, g3, g4, g5⟩
theorem RTs.nilv (S : Nat → Prop) (w : World) (a : Option Addr) (cap : Nat) (h : cap ≤ 9223372036854775807) : RTs S w (.slice a 0 cap) [] :=
 ⟨0, 0, ⟨a, cap, rfl, Nat.zero_le _, h, fun h => absurd h (Nat.lt_irrefl 0), fun h => absurd h (Nat.lt_irrefl 0)⟩, fun j t hj => by simp at hj⟩
end
def Cells3 (S : Nat → Prop) (w : World) : List Value → PZ → Prop
 | xs, [] => xs = []
 | xs, t :: r => ∃ vd vo ys, xs = .bool (decide (t.1 < 0)) :: vd :: vo :: ys ∧ Digs S w vd (rep 10 t.1.natAbs) ∧ Pows S w vo t.2 ∧ Cells3 S w ys r
section
variable {S S' : Nat → Prop} {w w' : World}
theorem Cells3.append {xs ys : List Value} {p q : PZ} (h : Cells3 S w xs p) (k : Cells3 S w ys q) : Cells3 S w (xs ++ ys) (p ++ q) := by
 induction p generalizing xs with
 | nil =>
  have e : xs = [] := h
  subst e
  exact k
 | cons t r ih =>
  obtain ⟨vd, vo, zs, rfl, h1, h2, h3⟩ := h
  exact ⟨vd, vo, zs ++ ys, rfl, h1, h2, ih h3⟩
theorem Cells3.to {xs : List Value} {p : PZ} (h : Cells3 S w xs p) (hk : Kept S w w') (hS : ∀ k, S k → S' k) : Cells3 S' w' xs p := by
 induction p generalizing xs with
 | nil => exact h
 | cons t r ih =>
  obtain ⟨vd, vo, zs, rfl, h1, h2, h3⟩ := h
  exact ⟨vd, vo, zs, rfl, h1.to hk hS, h2.to hk hS, ih h3⟩
theorem Cells3.length {xs : List Value} {p : PZ} (h : Cells3 S w xs p) : xs.length = p.length * 3 := by
 induction p generalizing xs with
 | nil =>
  have e : xs = [] := h
  subst e
  rfl
 | cons t r ih =>
  obtain ⟨vd, vo, zs, rfl, h1, h2, h3⟩ := h
  simp only [List.length_cons, ih h3]
  omega
theorem Cells3.get {xs : List Value} {p : PZ} (h : Cells3 S w xs p) {j : Nat} {t : Int × Mono} (ht : p[j]? = some t) :
  ∃ vd vo, xs[j * 3]? = some (.bool (decide (t.1 < 0))) ∧ xs[j * 3 + 1]? = some vd ∧ xs[j * 3 + 2]? = some vo ∧ Digs S w vd (rep 10 t.1.natAbs) ∧ Pows S w vo t.2 := by
 induction p generalizing xs j with
 | nil => simp at ht
 | cons u r ih =>
  obtain ⟨vd, vo, zs, rfl, h1, h2, h3⟩ := h
  cases j with
  | zero =>
   obtain rfl : u = t := by simpa using ht
   exact ⟨vd, vo, rfl, rfl, rfl, h1, h2⟩
  | succ j =>
   obtain ⟨vd', vo', g⟩ := ih h3 (j := j) (by simpa using ht)
   refine ⟨vd', vo', ?_⟩
   rw [show (j + 1) * 3 = j * 3 + 1 + 1 + 1 by omega]
   simpa using g
theorem Cells3.one {xs : List Value} {p : PZ} (h : Cells3 S w xs p) : ∀ u ∈ xs, u.oneCell' = true := by
 induction p generalizing xs with
 | nil =>
  have e : xs = [] := h
  subst e
  intro u hu
  simp at hu
 | cons t r ih =>
  obtain ⟨vd, vo, zs, rfl, h1, h2, h3⟩ := h
  intro u hu
  simp only [List.mem_cons] at hu
  rcases hu with rfl | rfl | rfl | hu
  ·rfl
  ·obtain ⟨a, c, rfl⟩ := h1.form; rfl
  ·obtain ⟨a, c, rfl⟩ := h2.form; rfl
  ·exact ih h3 u hu
theorem Cells3.single {vd vo : Value} {t : Int × Mono} (h1 : Digs S w vd (rep 10 t.1.natAbs)) (h2 : Pows S w vo t.2) : Cells3 S w [.bool (decide (t.1 < 0)), vd, vo] [t] := ⟨vd, vo, [], rfl, h1, h2, rfl⟩
end
theorem own_rts {S : Nat → Prop} {w : World} {base : Nat} {e : TypeId} {v : Value} {xs : List Value} {p : PZ} (h : w.ownsRow base e 3 v p.length xs) (hc : Cells3 S w xs p) (hB : ∀ k, base ≤ k → k < w.heap.size → S k) : RTs S w v p := by
 have hlt := h.lt
 rcases h.2 with ⟨rfl, h0⟩ | ⟨g, cap, cur, rfl, hg, hh, h1, h2, h3, h4⟩
 ·obtain rfl : p = [] := List.length_eq_zero_iff.1 h0
  exact RTs.nilv _ _ _ _ (by omega)
 ·refine ⟨g, 0, ⟨_, cap, rfl, h1, h2, fun _ => rfl, fun _ => hB g (hlt g rfl).1 (hlt g rfl).2⟩, fun j t hj => ?_⟩
  obtain ⟨vd, vo, g1, g2, g3, g4, g5⟩ := hc.get hj
  have hb := lt_of_some hj
  refine ⟨vd, vo, ?_, ?_, ?_, g4, g5⟩
  ·rw [h.cellAt (0 + j * 3) (by omega), Nat.zero_add]
   exact g1
  ·rw [h.cellAt (0 + j * 3 + 1) (by omega), Nat.zero_add]
   exact g2
  ·rw [h.cellAt (0 + j * 3 + 2) (by omega), Nat.zero_add]
   exact g3
theorem cells_from {S : Nat → Prop} {w : World} {b : Nat} : ∀ (p : PZ) (off : Nat), (∀ j t, p[j]? = some t → ∃ vd vo, w.cell? ⟨b, off + j * 3, none⟩ = some (.bool (decide (t.1 < 0))) ∧
  w.cell? ⟨b, off + j * 3 + 1, none⟩ = some vd ∧ w.cell? ⟨b, off + j * 3 + 2, none⟩ = some vo ∧ Digs S w vd (rep 10 t.1.natAbs) ∧ Pows S w vo t.2) →
  ∃ xs, Cells3 S w xs p ∧ ∀ j u, xs[j]? = some u → w.cell? ⟨b, off + j, none⟩ = some u
 | [], _, _ => ⟨[], rfl, fun j u hu => by simp at hu⟩
 | t :: r, off, h => by
  obtain ⟨vd, vo, h1, h2, h3, h4, h5⟩ := h 0 t rfl
  obtain ⟨ys, k1, k2⟩ := cells_from r (off + 3) (fun j u hu => by
   have := h (j + 1) u (by simpa using hu)
   rw [show off + (j + 1) * 3 = off + 3 + j * 3 by omega] at this
   exact this)
  refine ⟨_, ⟨vd, vo, ys, rfl, h4, h5, k1⟩, fun j u hu => ?_⟩
  match j, hu with
  | 0, hu =>
   have e : _ = u := Option.some.inj hu
   rw [← e]
   exact h1
  | 1, hu =>
   have e : _ = u := Option.some.inj hu
   rw [← e]
   exact h2
  | 2, hu =>
   have e : _ = u := Option.some.inj hu
   rw [← e]
   exact h3
  | j + 3, hu =>
   have := k2 j u (by simpa using hu)
   rw [show off + (j + 3) = off + 3 + j by omega]
   exact this
theorem RTs.src {S : Nat → Prop} {w : World} {b off n cap k : Nat} {p : PZ} (h : RTs S w (.slice (some ⟨b, off, none⟩) n cap) p) (hk : k ≤ p.length) :
  ∃ news, SrcAt w (some ⟨b, off + k * 3, none⟩) (p.length - k) 3 news ∧ Cells3 S w news (p.drop k) := by
 obtain ⟨b', off', ⟨a', cap', h1, h2, h3, h4, h5⟩, hc⟩ := h
 by_cases h0 : 0 < p.length
 ·have e := h4 h0
  obtain ⟨e1, -, -⟩ : some (⟨b, off, none⟩ : Addr) = a' ∧ n = p.length ∧ cap = cap' := by simpa using h1
  rw [← e1] at e
  obtain ⟨rfl, rfl⟩ : b = b' ∧ off = off' := by simpa using e
  obtain ⟨xs, k1, k2⟩ := cells_from (S := S) (w := w) (b := b) (p.drop k) (off + k * 3) (fun j t hj => by
   rw [List.getElem?_drop] at hj
   have := hc (k + j) t hj
   rw [show off + (k + j) * 3 = off + k * 3 + j * 3 by omega] at this
   exact this)
  refine ⟨xs, ⟨?_, k1.one, fun _ => ⟨_, rfl, fun j u hu => ?_⟩⟩, k1⟩
  ·rw [k1.length, List.length_drop]
  ·rw [add_off]
   exact k2 j u hu
 ·obtain rfl : p = [] := List.length_eq_zero_iff.1 (by omega)
  refine ⟨[], ⟨by simp, fun u hu => by simp at hu, fun hh => by simp at hh⟩, ?_⟩
  rw [List.drop_nil]
  rfl
theorem putP_split {p : PZ} {c : Int} {m : Mono} : ∀ {k : Nat}, (∀ j t, j < k → p[j]? = some t → compareM t.2 m = 1) → putP p c m = p.take k ++ putP (p.drop k) c m
 | 0, _ => rfl
 | k + 1, h => by
  cases p with
  | nil => simp
  | cons t r =>
   have h0 := h 0 t (by omega) rfl
   have ih := putP_split (p := r) (c := c) (m := m) (k := k) (fun j u hj hu => h (j + 1) u (by omega) (by simpa using hu))
   simp only [putP, h0, if_true, List.take_succ_cons, List.drop_succ_cons, List.cons_append, ih]
def midP (c : Int) (m : Mono) : PZ := if c = 0 then [] else [(c, m)]
theorem put_end {p : PZ} {c : Int} {m : Mono} {k : Nat} (h : ∀ j t, j < k → p[j]? = some t → compareM t.2 m = 1) (hk : k = p.length) : putP p c m = p.take k ++ midP c m ++ p.drop k := by
 rw [putP_split h, hk, List.drop_length]
 simp [putP, midP]
theorem put_same {p : PZ} {c : Int} {m : Mono} {k : Nat} {t : Int × Mono} (h : ∀ j t, j < k → p[j]? = some t → compareM t.2 m = 1) (ht : p[k]? = some t) (hc : compareM t.2 m = 0) : putP p c m = p.take k ++ midP (c + t.1) m ++ p.drop (k + 1) := by
 rw [putP_split h, drop_at ht, List.append_assoc]
 simp only [putP, hc, midP, if_true]
 rw [if_neg (by decide)]
 split <;> rfl
theorem put_here {p : PZ} {c : Int} {m : Mono} {k : Nat} {t : Int × Mono} (h : ∀ j t, j < k → p[j]? = some t → compareM t.2 m = 1) (ht : p[k]? = some t) (h1 : compareM t.2 m ≠ 1) (h2 : compareM t.2 m ≠ 0) : putP p c m = p.take k ++ midP c m ++ p.drop k := by
 rw [putP_split h, drop_at ht, List.append_assoc]
 simp only [putP, midP]
 rw [if_neg h1, if_neg h2]
 split <;> rfl
theorem midP_zero {c : Int} (h : c = 0) (m : Mono) : midP c m = [] := by unfold midP; rw [if_pos h]
theorem midP_some {c : Int} (h : c ≠ 0) (m : Mono) : midP c m = [(c, m)] := by unfold midP; rw [if_neg h]
theorem Tryz.infoT : (Tryz.prog.info? 95).map (fun i => (i.zero, i.size, i.bytes)) = some (some (.agg #[.bool false, .slice none 0 0, .slice none 0 0]), 3, 56) := by kernel_rfl
theorem three_cell {u v x : Value} (h : u.oneCell' = true) (k : v.oneCell' = true) (l : x.oneCell' = true) : ∀ y ∈ (#[u, v, x] : Array Value).toList, y.oneCell' = true := by
 intro y hy
 simp at hy
 rcases hy with rfl | rfl | rfl <;> assumption
end
section
open Go.RowKit
abbrev Old (w : World) : Nat → Prop := fun k => k < w.heap.size
theorem old_lt {w W : World} (h : Ext w W) : ∀ k, Old w k → k < W.heap.size := fun _ hk => Nat.lt_of_lt_of_le hk h.size
theorem RTs.on {w W : World} {v : Value} {p : PZ} (h : RTs (Old w) w v p) (hx : Ext w W) : RTs (Old W) W v p := h.to (Kept.ext hx (fun _ h => h)) (old_lt hx)
theorem Pows.on {w W : World} {v : Value} {z : Mono} (h : Pows (Old w) w v z) (hx : Ext w W) : Pows (Old W) W v z := h.to (Kept.ext hx (fun _ h => h)) (old_lt hx)
def szP (p : PZ) : Prop := p.length ≤ 1000000000000 ∧ ∀ t ∈ p, szZ t.1
theorem wpList_slice_from {P : Program} (w : World) {ops : Array Oper} {rest : List Oper} {o : Oper} {a : Act} {Q : Exit → Act → World → Prop} (hgd : o.guard = none) (x y : Operand) (t e : TypeId)
  (ho : o.op = .slice t x (some y) none none) (ht : P.underlying t = some (.slice e)) {z : Option Value} {size bytes : Nat} (hinfo : (P.info? e).map (fun i => (i.zero, i.size, i.bytes)) = some (z, size, bytes))
  (A : Option Addr) (n cap k : Nat) (hx : a.eval x = .slice A n cap) (hy : a.eval y = .int .i64 (k : Nat)) (hk : k ≤ n)
  (h : ∀ A', A' = (if cap = k then A else A.map (·.add (k * size))) → wpList P ops Q rest (a.put o.dst (.slice A' (n - k) (cap - k))) w) : wpList P ops Q (o :: rest) a w := by
 refine wpList_plain hgd fun K hK => ?_
 have he : P.elem t = e := by simp [Program.elem, ht]
 have ht' : P.underlying t = some (.slice (P.elem t)) := by rw [he]; exact ht
 have hi : ∃ i, P.info? e = some i ∧ i.size = size := by
  cases hh : P.info? e with
  | none => rw [hh] at hinfo; simp at hinfo
  | some i =>
   rw [hh] at hinfo
   simp at hinfo
   exact ⟨i, rfl, hinfo.2.1⟩
 obtain ⟨i, hi1, hi2⟩ := hi
 unfold Oper.wp execOp
 simp only [ho, Option.map, hx, hy]
 rw [Sem.run_bind, run_sliceAt_slice _ _ _ _ _ _ ht', run_slice_l _ _ _ _ _ ht' _ _ (by omega) (by omega)]
 simp only [he, sizeOf, typeInfo, Sem.run_bind, sliced, Int.toNat_natCast]
 have := hK _ _ (h _ rfl)
 simpa [go_sem, hi1, hi2] using this
theorem src_sliced {S : Nat → Prop} {w : World} {A A' : Option Addr} {n cap k : Nat} {p : PZ} (h : RTs S w (.slice A n cap) p) (hk : k ≤ p.length) (e : A' = (if cap = k then A else A.map (·.add (k * 3)))) :
  ∃ news, SrcAt w A' (p.length - k) 3 news ∧ Cells3 S w news (p.drop k) := by
 have h' := h
 obtain ⟨b, off, ⟨a', cap', h1, h2, h3, h4, h5⟩, hc⟩ := h
 obtain ⟨rfl, rfl, rfl⟩ : A = a' ∧ n = p.length ∧ cap = cap' := by simpa using h1
 by_cases hlt : k < p.length
 ·have ha := h4 (by omega)
  subst ha
  rw [if_neg (by omega)] at e
  have e2 : A' = some ⟨b, off + k * 3, none⟩ := by rw [e, Option.map_some, add_off]
  rw [e2]
  exact h'.src hk
 ·obtain rfl : k = p.length := by omega
  refine ⟨[], ⟨by simp, fun u hu => by simp at hu, fun hh => by omega⟩, ?_⟩
  rw [List.drop_length]
  rfl
theorem own_ext {w w' : World} {base : Nat} {e : TypeId} {size : Nat} {v : Value} {n : Nat} {xs : List Value} (h : w.ownsRow base e size v n xs) (hx : Ext w w') : w'.ownsRow base e size v n xs :=
 h.kept (row := none) ⟨hx.os, hx.tape, hx.output, hx.size, fun k hk _ => hx.block k hk⟩ (by
  cases hv : v.ownBlock with
  | none => exact .inl rfl
  | some k => exact .inr (by simp))
theorem sign_ne {c : Int} (h : c ≠ 0) : (signI c != 0) = true := by
 rw [bne_iff_ne]
 unfold signI
 rw [Ne, cmpI_zero]
 exact h
abbrev Plus (S : Nat → Prop) (w w1 : World) : Nat → Prop := fun k => S k ∨ New w w1 k
theorem plus_lt {S : Nat → Prop} {w w1 : World} (hS : ∀ k, S k → k < w.heap.size) (hx : Ext w w1) : ∀ k, Plus S w w1 k → k < w1.heap.size := fun k hk => by
 rcases hk with h | h
 ·exact Nat.lt_of_lt_of_le (hS k h) hx.size
 ·exact h.2
theorem plus_grow {S : Nat → Prop} {w w1 w2 : World} (hx : w1.heap.size ≤ w2.heap.size) : ∀ k, Plus S w w1 k → Plus S w w2 k := fun k hk => by
 rcases hk with h | h
 ·exact .inl h
 ·exact .inr ⟨h.1, Nat.lt_of_lt_of_le h.2 hx⟩
abbrev Off (S : Nat → Prop) (w w1 : World) (o : Value) : Nat → Prop := fun k => Plus S w w1 k ∧ some k ≠ o.ownBlock
theorem off_ext {S : Nat → Prop} {w w0 w1 : World} {o v : Value} {z : List Nat} (hS : ∀ k, S k → k < w.heap.size) (h0 : Ext w w0) (h : Digs (Off S w w0 o) w0 v z) (hx : Ext w0 w1) : Digs (Off S w w1 o) w1 v z :=
 h.to (Kept.ext hx (fun k h => plus_lt hS h0 k h.1)) (fun k h => ⟨plus_grow hx.size k h.1, h.2⟩)
theorem own_ne {w w1 : World} {o : Value} {e : TypeId} {size n : Nat} {xs : List Value} (ho : w1.ownsRow (w.heap.size + 1) e size o n xs) {k : Nat} (hk : k < w.heap.size) : some k ≠ o.ownBlock := fun e => by
 have := (ho.lt k e.symm).1
 omega
theorem off_old {S : Nat → Prop} {w w1 : World} {o v : Value} {z : List Nat} {e : TypeId} {size n : Nat} {xs : List Value} (hS : ∀ k, S k → k < w.heap.size) (h : Digs S w v z) (hx : Ext w w1) (ho : w1.ownsRow (w.heap.size + 1) e size o n xs) : Digs (Off S w w1 o) w1 v z :=
 h.to (Kept.ext hx hS) (fun k hk => ⟨.inl hk, own_ne ho (hS k hk)⟩)
theorem own_grown {w w1 w2 : World} {o : Value} {e : TypeId} {size n : Nat} {xs : List Value} (hx : Ext w w1) (ho : w1.ownsRow (w.heap.size + 1) e size o n xs) (hg : w1.grownBy w2 o.ownBlock) : Ext w w2 :=
 ext_grown hx hg (fun k hk => by have := (ho.lt k hk).1; omega)
theorem own_far {S : Nat → Prop} {w w1 : World} {o : Value} {e : TypeId} {size n : Nat} {xs : List Value} (hS : ∀ k, S k → k < w.heap.size) (ho : w1.ownsRow (w.heap.size + 1) e size o n xs) (hx : Ext w w1) : ∀ k, S k → k < w1.heap.size ∧ some k ≠ o.ownBlock := fun k hk =>
 ⟨Nat.lt_of_lt_of_le (hS k hk) hx.size, own_ne ho (hS k hk)⟩
theorem off_still {S : Nat → Prop} {w w1 : World} {o v2 : Value} {k : Nat} (hS : ∀ k, S k → k < w.heap.size) (hx : Ext w w1) (h : Off S w w1 o k) (hb : v2.ownBlock = o.ownBlock ∨ v2.ownBlock = some (w1.heap.size + 1)) : some k ≠ v2.ownBlock := by
 rcases hb with e | e
 ·rw [e]; exact h.2
 ·rw [e]
  intro e2
  have := plus_lt hS hx k h.1
  have e3 : k = w1.heap.size + 1 := Option.some.inj e2
  omega
theorem set_grown (w : World) (a : Addr) (u : Value) : w.grownBy (w.setCell a u) (some a.block) :=
 ⟨rfl, rfl, rfl, Nat.le_of_eq (size_setCell w a u).symm, fun k _ hne => Below.heap_setCell _ _ _ _ (fun e => hne (by rw [e]))⟩
theorem own_set {w1 : World} {b i base : Nat} {o : Value} {e : TypeId} {size n : Nat} {xs : List Value} (ho : w1.ownsRow base e size o n xs) (hb : b < base) (u : Value) : (w1.setCell ⟨b, i, none⟩ u).ownsRow base e size o n xs :=
 ho.kept (set_grown w1 ⟨b, i, none⟩ u) (by
  cases hv : o.ownBlock with
  | none => exact .inl rfl
  | some k =>
   have := (ho.lt k hv).1
   exact .inr (fun e => by
    have e2 : k = b := Option.some.inj e
    omega))
theorem off_new {S : Nat → Prop} {w wb wc : World} {b i j : Nat} {o v x y : Value} {z : List Nat} {base : Nat} {e : TypeId} {size n : Nat} {xs : List Value} (h : Digs (New wb wc) wc v z) (ho : wb.ownsRow base e size o n xs) (hb : b < wb.heap.size) (hw : w.heap.size ≤ wb.heap.size) :
  Digs (Off S w ((wc.setCell ⟨b, i, none⟩ x).setCell ⟨b, j, none⟩ y) o) ((wc.setCell ⟨b, i, none⟩ x).setCell ⟨b, j, none⟩ y) v z := by
 have k1 : Kept (New wb wc) wc (wc.setCell ⟨b, i, none⟩ x) := Kept.setCell (a := ⟨b, i, none⟩) (fun hh => by have := hh.1; simp only at this; omega) x
 have k2 : Kept (New wb wc) (wc.setCell ⟨b, i, none⟩ x) ((wc.setCell ⟨b, i, none⟩ x).setCell ⟨b, j, none⟩ y) := Kept.setCell (a := ⟨b, j, none⟩) (fun hh => by have := hh.1; simp only at this; omega) y
 refine h.to (k1.trans k2) (fun k hk => ⟨.inr ⟨Nat.le_trans hw hk.1, ?_⟩, fun e => ?_⟩)
 ·rw [size_setCell, size_setCell]
  exact hk.2
 ·have := (ho.lt k e.symm).2
  have := hk.1
  omega
theorem put_done {S : Nat → Prop} {w w2 w3 : World} {k j n : Nat} {T : TypeId} {v3 : Value} {xs ms news : List Value} {p md q : PZ} (hS : ∀ k, S k → k < w.heap.size) (hx : Cells3 S w xs (p.take k)) (x3 : Ext w w3) (hm : Cells3 (Plus S w w3) w3 ms md) (hn : Cells3 S w2 news (p.drop j)) (hk : Kept S w2 w3)
  (ho : w3.ownsRow (w.heap.size + 1) T 3 v3 n (xs ++ ms ++ news)) (hq : q = p.take k ++ md ++ p.drop j) : RTs (Plus S w w3) w3 v3 q := by
 have hc : Cells3 (Plus S w w3) w3 (xs ++ ms ++ news) q := by
  rw [hq]
  exact ((hx.to (Kept.ext x3 hS) (fun _ h => .inl h)).append hm).append (hn.to hk (fun _ h => .inl h))
 have hl := hc.length
 have hn' : n = q.length := by
  have := ho.1
  omega
 subst hn'
 exact own_rts ho hc (fun k h1 h2 => .inr ⟨by omega, h2⟩)
theorem rpoly_put {S : Nat → Prop} (vp vc vm : Value) (p : PZ) (c : Int) (m : Mono) (w : World) (hS : ∀ k, S k → k < w.heap.size) (hp : RTs S w vp p) (hc : ZV S w vc c) (hm : Pows S w vm m) (hmay : mayAll p) (hmm : mayM m = true) (hs : szP p) (hsc : szZ c) :
  Calls Tryz.prog 40 #[vp, vc, vm] w fun e w' => ∃ v', e = .returned v' ∧ RTs (Plus S w w') w' v' (putP p c m) ∧ Ext w w' := by
 obtain ⟨i0, hi, hz0, hz1, hz2⟩ := info_parts Tryz.infoT
 have HP := hid hp
 have HM := hid hm
 have HC := hid hc
 have HMY := hid hmay
 have HMM := hid hmm
 have HS := hid hs
 have HSC := hid hsc
 obtain ⟨ap, cp, rfl⟩ := hp.form
 obtain ⟨ac, nc, cc, rfl⟩ := hc.form
 obtain ⟨am, cm, rfl⟩ := hm.form
 have hl := hp.len_le
 clear hp hc hm hmay hmm hs hsc
 obtain ⟨bc, hbc⟩ : ∃ b, b = decide (c < 0) := ⟨_, rfl⟩
 rw [← hbc] at HC ⊢
 have HK := hid (Ext.alloc (Ext.refl w) (.cells #[.bool bc, .slice ac nc cc] 56))
 have HCC := fun (W : World) (hW : Ext (w.alloc (.cells #[.bool bc, .slice ac nc cc] 56)) W) => new2 hW
 have HCC := hid HCC
 have HBZ := hid hbc
 have HDC : Hid (Digs S w (.slice ac nc cc) (rep 10 c.natAbs)) := by
  obtain ⟨vd, e1, e2⟩ := HC.out
  have e3 : Value.slice ac nc cc = vd := by simp at e1; exact e1.2
  rw [e3]
  exact hid e2
 clear hbc
 go_enter Tryz.func40, Tryz.ntmps40
 go_wp2
 go_loopw [7, 8] (fun o v wr => ∃ k xs, k ≤ p.length ∧ v = .int .i64 (k : Nat) ∧ Ext (w.alloc (.cells #[.bool bc, .slice ac nc cc] 56)) wr ∧ Hid (∀ j t, j < k → p[j]? = some t → compareM t.2 m = 1) ∧ Hid (wr.ownsRow (w.heap.size + 1) 95 3 o k xs) ∧ Hid (Cells3 S w xs (p.take k))) (fun _ v _ => p.length - (intOf v).toNat)
 case atStart => exact ⟨0, [], Nat.zero_le _, rfl, Ext.refl _, hid (fun j t hj => by omega), hid (World.ownsRow_nil _ _ _ _), hid rfl⟩
 case round =>
  obtain ⟨k, xs, hk, rfl, hx, HPR, HW, HXS⟩ := hrel
  have HX := hid hx
  by_cases hlt : k < p.length
  ·obtain ⟨t, ht⟩ := some_of_lt hlt
   obtain ⟨b, off, vd, vo, rfl, -, hn1, hm1, hSb, h1, h2, h3, h4, h5⟩ := HP.out.cellAt ht
   have HT := hid ht
   have H4 := hid h4
   have H5 := hid h5
   obtain ⟨ad, cd, rfl⟩ := h4.form
   obtain ⟨ao, co, rfl⟩ := h5.form
   have HXW0 := hid (HK.out.trans hx)
   have g1 := HXW0.out.cell h1
   have g2 := HXW0.out.cell h2
   have g3 := HXW0.out.cell h3
   have HTM := hid (HMY.out t (List.mem_of_getElem? ht))
   have HSZT := hid (HS.out.2 t (List.mem_of_getElem? ht))
   have CO := fun (W : World) (hW : Ext w W) => rmono_compare (S := S) _ _ t.2 m W (H5.out.ext hW hS) (HM.out.ext hW hS) (lt_ext hS hW)
   rw [rcmp_eq HTM.out HMM.out] at CO
   obtain ⟨rc, hrc⟩ : ∃ r, compareM t.2 m = r := ⟨_, rfl⟩
   rw [hrc] at CO
   have hcs : rc = 1 ∨ rc = 0 ∨ rc = -1 := by rw [← hrc]; rcases compareM_cases HTM.out HMM.out with h | h | h <;> omega
   have HCO := hid CO
   have HRC := hid hrc
   obtain ⟨bt, hbt⟩ : ∃ b, b = decide (t.1 < 0) := ⟨_, rfl⟩
   obtain ⟨nt, hnt⟩ : ∃ n, n = (rep 10 t.1.natAbs).length := ⟨_, rfl⟩
   rw [← hbt] at g1
   rw [← hnt] at g2 H4
   have HBT := hid hbt
   have HTK : Hid (p.take (k + 1) = p.take k ++ [t]) := hid (by rw [List.take_add_one, ht]; rfl)
   have HSZ0 : Hid (w.heap.size + 1 ≤ wr.heap.size) := hid (by have := hx.size; rw [size_alloc] at this; exact this)
   clear CO hrc hx ht h1 h2 h3 h4 h5 hbt hnt
   rcases hcs with rfl | rfl | rfl
   ·go_wp2_with fail
    refine (HCO.out wr HXW0.out).mono ?_
    rintro e w1 ⟨rfl, hx1⟩
    have HX1 := hid (HX.out.trans hx1)
    have HW1 := hid (own_ext HW.out hx1)
    have HSZ1 : Hid (w.heap.size + 1 ≤ w1.heap.size) := hid (Nat.le_trans HSZ0.out hx1.size)
    have k1 := hx1.cell g1
    have k2 := hx1.cell g2
    have k3 := hx1.cell g3
    clear hx1 g1 g2 g3
    go_wp2_with (at_builtin; refine wpList_append_far _ rfl (.tmp 23) (.tmp 28) 61 rfl (w.heap.size + 1) 95 (.agg #[.bool false, .slice none 0 0, .slice none 0 0]) 3 56 Tryz.underlying61 Tryz.infoT rfl (by decide) _ k xs rfl HW1.out #[.bool bt, .slice ad nt cd, .slice ao t.2.length co] rfl (three_cell rfl rfl rfl) rfl (by have := HS.out.1; omega) (by decide) HSZ1.out ?_; intro v2 w2 hown hg _; have HW2 := hid hown; have HX2 := hid (ext_grown HX1.out hg (fun j hj => by have := (HW1.out.lt j hj).1; rw [size_alloc]; exact this)); clear hown hg)
    go_roundw
    case rel =>
     refine ⟨k + 1, xs ++ (#[.bool bt, .slice ad nt cd, .slice ao t.2.length co] : Array Value).toList, by omega, by go_num, HX2.out, hid (fun j u hj hu => ?_), HW2, hid ?_⟩
     ·by_cases e : j = k
      ·subst e
       have := HT.out.symm.trans hu
       cases this
       exact HRC.out
      ·exact HPR.out j u (by omega) hu
     ·rw [HTK.out]
      refine HXS.out.append ?_
      rw [HBT.out]
      exact Cells3.single H4.out H5.out
    case measure => simp only [intOf]; omega
   ·go_wp2_with fail
    refine (HCO.out wr HXW0.out).mono ?_
    rintro e wa ⟨rfl, hxa⟩
    have HXA := hid (HX.out.trans hxa)
    have k1 := hxa.cell g1
    have k2 := hxa.cell g2
    have k3 := hxa.cell g3
    have HWA := hid (own_ext HW.out hxa)
    clear hxa g1 g2 g3
    go_wp2_with fail
    refine (HCO.out wa (HK.out.trans HXA.out)).mono ?_
    rintro e wb ⟨rfl, hxb⟩
    have HXB := hid (HXA.out.trans hxb)
    have l1 := hxb.cell k1
    have l2 := hxb.cell k2
    have l3 := hxb.cell k3
    have HWB := hid (own_ext HWA.out hxb)
    obtain ⟨c0, c1, f0, f1⟩ := HCC.out wb HXB.out
    have HKB := hid (HK.out.trans HXB.out.drew)
    have CA := zed_add (S := S) _ _ c t.1 wb.drew (HC.out.ext HKB.out hS) (show ZV S wb.drew (.agg #[.bool (decide (t.1 < 0)), .slice ad nt cd]) t.1 from ⟨_, rfl, H4.out.ext HKB.out hS⟩) (lt_ext hS HKB.out) HSC.out HSZT.out
    rw [← HBT.out] at CA
    have HCA := hid CA
    clear hxb k1 k2 k3 CA
    go_wp2
    go_still_tail 6, (by kernel_rfl)
    change wpList _ _ _ _ _ wb.drew
    go_wp2_with fail
    refine HCA.out.mono ?_
    rintro e wc ⟨vs, rfl, hzv, hxc⟩
    obtain ⟨vd2, rfl, hd2⟩ := hzv
    have HD2 := hid hd2
    obtain ⟨aq, cs, rfl⟩ := hd2.form
    obtain ⟨ns, hns⟩ : ∃ n, n = (rep 10 (c + t.1).natAbs).length := ⟨_, rfl⟩
    obtain ⟨bs, hbs⟩ : ∃ b, b = decide (c + t.1 < 0) := ⟨_, rfl⟩
    have HBZ := hid hbs
    rw [← hns] at HD2 ⊢
    rw [← hbs]
    obtain ⟨q0, q1, p0, p1⟩ := HCC.out wc (HXB.out.drew.trans hxc)
    obtain ⟨e0, e1⟩ := two_set (.bool bs) (.slice aq ns cs) q0 q1
    have HWC := hid (own_set (i := 1) (own_set (i := 0) (own_ext HWB.out ((Ext.refl wb).drew.trans hxc)) (Nat.lt_succ_self w.heap.size) (.bool bs)) (Nat.lt_succ_self w.heap.size) (.slice aq ns cs))
    have HSZC : Hid (w.heap.size + 1 ≤ wb.heap.size) := hid (by have := HXB.out.size; rw [size_alloc] at this; exact this)
    have HXC := hid (((HKB.out.trans hxc).setCell (p := ⟨w.heap.size, 0, none⟩) (Nat.le_refl _) (.bool bs)).setCell (p := ⟨w.heap.size, 1, none⟩) (Nat.le_refl _) (.slice aq ns cs))
    have HSZ2 : Hid (w.heap.size + 1 ≤ ((wc.setCell ⟨w.heap.size, 0, none⟩ (.bool bs)).setCell ⟨w.heap.size, 1, none⟩ (.slice aq ns cs)).heap.size) := hid (by rw [size_setCell, size_setCell]; exact Nat.le_trans HSZC.out hxc.size)
    have HDC2 := hid (off_new (wb := wb.drew) (b := w.heap.size) (i := 0) (j := 1) (x := .bool bs) (y := .slice aq ns cs) HD2.out (own_ext HWB.out ((Ext.refl wb).drew)) HSZC.out (Nat.le_trans (Nat.le_succ _) HSZC.out) (S := S) (w := w))
    have HPE := hid (put_same (c := c) HPR.out HT.out HRC.out)
    have HJ : Hid (k + 1 ≤ p.length) := hid hlt
    clear hxc hd2 hns hbs c0 c1
    go_wp2_with fail
    obtain ⟨wz, hwz⟩ : ∃ W, W = (wc.setCell ⟨w.heap.size, 0, none⟩ (.bool bs)).setCell ⟨w.heap.size, 1, none⟩ (.slice aq ns cs) := ⟨_, rfl⟩
    rw [← hwz] at HWC HXC HSZ2 HDC2 e0 e1 ⊢
    have HW := HWC
    have HXW : Hid (Ext w wz) := HXC
    have HSZ := HSZ2
    have HDZ := HDC2
    have c0 := e0
    have c1 := e1
    clear hwz q0 q1 p0 p1 f0 f1 HWC HXC HSZ2 HDC2 e0 e1 HD2
    by_cases hz : c + t.1 = 0
    ·have CS := hid (show Calls Tryz.prog 34 #[.agg #[.bool bs, .slice aq ns cs]] wz fun e w' => e = .returned (.int .i64 0) ∧ Ext wz w' from by have h := zed_sign (S := Off S w wz u7) _ (c + t.1) wz ⟨_, rfl, HDZ.out⟩; rw [← HBZ.out, show signI (c + t.1) = 0 by rw [hz]; rfl] at h; exact h)
     have HZ := hid hz
     clear hz
     refine CS.out.mono ?_
     rintro e w1 ⟨rfl, hx1⟩
     have HX1 := hid (HXW.out.trans hx1)
     have HW1 := hid (own_ext HW.out hx1)
     have HSZ1 : Hid (w.heap.size + 1 ≤ w1.heap.size) := hid (Nat.le_trans HSZ.out hx1.size)
     have HD1 := hid (off_ext hS HXW.out HDZ.out hx1)
     clear hx1
     go_wp2_with (first | (refine wpList_slice_from _ rfl (.tmp 65) (.tmp 66) 61 95 rfl Tryz.underlying61 Tryz.infoT (some ⟨b, off, none⟩) p.length cp (k + 1) rfl rfl HJ.out ?_; intro A' hA'; obtain ⟨news, hsrc, hcs⟩ := src_sliced (HP.out.ext HX1.out hS) HJ.out hA'; have HSRC := hid hsrc; have HCS := hid hcs; clear hA' hsrc hcs) | (at_builtin; refine wpList_append_src _ rfl (.tmp 64) (.tmp 67) 61 rfl (w.heap.size + 1) 95 i0 (.agg #[.bool false, .slice none 0 0, .slice none 0 0]) 3 56 Tryz.underlying61 hi hz0 hz1 hz2 rfl (by decide) _ ((k)) xs rfl HW1.out A' (p.length - (k + 1)) _ news rfl HSRC.out (by have := HS.out.1; unfold maxLen; omega) (by have := HS.out.1; omega) HSZ1.out ?_; intro v3 w3 hown hg _; have HW3 := hid hown; have HG3 := hid hg; clear hown hg))
     go_ret
     have hx3 := own_grown HX1.out HW1.out HG3.out
     refine ⟨_, rfl, put_done (w := w) hS (ms := []) (md := []) HXS.out hx3 rfl HCS.out (Kept.grown HG3.out (own_far hS HW1.out HX1.out)) (by simpa using HW3.out) (by rw [HPE.out, midP_zero HZ.out]), hx3⟩
    ·have CS := hid (show Calls Tryz.prog 34 #[.agg #[.bool bs, .slice aq ns cs]] wz fun e w' => e = .returned (.int .i64 (signI (c + t.1))) ∧ Ext wz w' from by rw [HBZ.out]; exact zed_sign (S := Off S w wz u7) _ (c + t.1) wz ⟨_, rfl, HDZ.out⟩)
     have hsn := sign_ne hz
     have HZ := hid hz
     clear hz
     refine CS.out.mono ?_
     rintro e w1 ⟨rfl, hx1⟩
     have HX1 := hid (HXW.out.trans hx1)
     have HW1 := hid (own_ext HW.out hx1)
     have HSZ1 : Hid (w.heap.size + 1 ≤ w1.heap.size) := hid (Nat.le_trans HSZ.out hx1.size)
     have HD1 := hid (off_ext hS HXW.out HDZ.out hx1)
     have k0 := hx1.cell c0
     have k1 := hx1.cell c1
     clear hx1
     go_wp2_with (first | (refine wpList_slice_from _ rfl (.tmp 65) (.tmp 66) 61 95 rfl Tryz.underlying61 Tryz.infoT (some ⟨b, off, none⟩) p.length cp (k + 1) rfl rfl HJ.out ?_; intro A' hA'; obtain ⟨news, hsrc, hcs⟩ := src_sliced (HP.out.ext HX2.out hS) HJ.out hA'; have HSRC := hid hsrc; have HCS := hid hcs; clear hA' hsrc hcs) | (first | (at_builtin; refine wpList_append_far _ rfl (.tmp 58) (.tmp 62) 61 rfl (w.heap.size + 1) 95 (.agg #[.bool false, .slice none 0 0, .slice none 0 0]) 3 56 Tryz.underlying61 Tryz.infoT rfl (by decide) _ (k) xs rfl HW1.out #[.bool bs, .slice aq ns cs, .slice am m.length cm] rfl (three_cell rfl rfl rfl) rfl (by have := HS.out.1; omega) (by decide) HSZ1.out ?_; intro v2 w2 hown hg hbk; have HW2 := hid hown; have HG2 := hid hg; have HBK := hid hbk; have HX2 := hid (own_grown HX1.out HW1.out hg); have HSZ2 : Hid (w.heap.size + 1 ≤ w2.heap.size) := hid (Nat.le_trans HSZ1.out hg.size); clear hown hg hbk) | (at_builtin; refine wpList_append_src _ rfl (.tmp 64) (.tmp 67) 61 rfl (w.heap.size + 1) 95 i0 (.agg #[.bool false, .slice none 0 0, .slice none 0 0]) 3 56 Tryz.underlying61 hi hz0 hz1 hz2 rfl (by decide) _ ((k) + 1) (xs ++ (#[.bool bs, .slice aq ns cs, .slice am m.length cm] : Array Value).toList) rfl HW2.out A' (p.length - (k + 1)) _ news rfl HSRC.out (by have := HS.out.1; unfold maxLen; omega) (by have := HS.out.1; omega) HSZ2.out ?_; intro v3 w3 hown hg _; have HW3 := hid hown; have HG3 := hid hg; clear hown hg)))
     go_ret
     have hx3 := own_grown HX2.out HW2.out HG3.out
     have hmid : Cells3 (Plus S w w3) w3 [.bool bs, .slice aq ns cs, .slice am m.length cm] [(c + t.1, m)] := by
      have hd := Digs.to HD1.out (Kept.grown HG2.out (fun j hj => ⟨plus_lt hS HX1.out j hj.1, hj.2⟩)) (fun _ h => h)
      have hd3 := Digs.to hd (Kept.grown HG3.out (fun j hj => ⟨Nat.lt_of_lt_of_le (plus_lt hS HX1.out j hj.1) HG2.out.size, off_still hS HX1.out hj HBK.out⟩)) (S' := Plus S w w3) (fun j hj => plus_grow (Nat.le_trans HG2.out.size HG3.out.size) j hj.1)
      rw [HBZ.out]
      exact Cells3.single (t := (c + t.1, m)) hd3 (HM.out.to (Kept.ext hx3 hS) (fun _ h => .inl h))
     refine ⟨_, rfl, put_done (w := w) hS (ms := [.bool bs, .slice aq ns cs, .slice am m.length cm]) (md := [(c + t.1, m)]) HXS.out hx3 hmid HCS.out (Kept.grown HG3.out (own_far hS HW2.out HX2.out)) HW3.out (by rw [HPE.out, midP_some HZ.out]), hx3⟩
   ·go_wp2_with fail
    refine (HCO.out wr HXW0.out).mono ?_
    rintro e wa ⟨rfl, hxa⟩
    have HXA := hid (HX.out.trans hxa)
    have k1 := hxa.cell g1
    have k2 := hxa.cell g2
    have k3 := hxa.cell g3
    have HWA := hid (own_ext HW.out hxa)
    clear hxa g1 g2 g3
    go_wp2_with fail
    refine (HCO.out wa (HK.out.trans HXA.out)).mono ?_
    rintro e wz ⟨rfl, hxb⟩
    have HXB := hid (HXA.out.trans hxb)
    have HW := hid (own_ext HWA.out hxb)
    have HXW := hid (HK.out.trans HXB.out)
    have HSZ : Hid (w.heap.size + 1 ≤ wz.heap.size) := hid (by have := HXB.out.size; rw [size_alloc] at this; exact this)
    obtain ⟨c0, c1, f0, f1⟩ := HCC.out wz HXB.out
    have HDZ := hid (off_old hS HDC.out HXW.out HW.out)
    have HPE := hid (put_here (c := c) HPR.out HT.out (by rw [HRC.out]; decide) (by rw [HRC.out]; decide))
    have HJ : Hid (k ≤ p.length) := hid hk
    clear hxb k1 k2 k3
    by_cases hz : c = 0
    ·have CS := hid (show Calls Tryz.prog 34 #[.agg #[.bool bc, .slice ac nc cc]] wz fun e w' => e = .returned (.int .i64 0) ∧ Ext wz w' from by have h := zed_sign (S := Off S w wz u7) _ (c) wz ⟨_, rfl, HDZ.out⟩; rw [← HBZ.out, show signI (c) = 0 by rw [hz]; rfl] at h; exact h)
     have HZ := hid hz
     clear hz
     go_wp2_with fail
     refine CS.out.mono ?_
     rintro e w1 ⟨rfl, hx1⟩
     have HX1 := hid (HXW.out.trans hx1)
     have HW1 := hid (own_ext HW.out hx1)
     have HSZ1 : Hid (w.heap.size + 1 ≤ w1.heap.size) := hid (Nat.le_trans HSZ.out hx1.size)
     have HD1 := hid (off_ext hS HXW.out HDZ.out hx1)
     clear hx1
     go_wp2_with (first | (refine wpList_slice_from _ rfl (.tmp 65) (.tmp 66) 61 95 rfl Tryz.underlying61 Tryz.infoT (some ⟨b, off, none⟩) p.length cp (k) rfl rfl HJ.out ?_; intro A' hA'; obtain ⟨news, hsrc, hcs⟩ := src_sliced (HP.out.ext HX1.out hS) HJ.out hA'; have HSRC := hid hsrc; have HCS := hid hcs; clear hA' hsrc hcs) | (at_builtin; refine wpList_append_src _ rfl (.tmp 64) (.tmp 67) 61 rfl (w.heap.size + 1) 95 i0 (.agg #[.bool false, .slice none 0 0, .slice none 0 0]) 3 56 Tryz.underlying61 hi hz0 hz1 hz2 rfl (by decide) _ ((k)) xs rfl HW1.out A' (p.length - (k)) _ news rfl HSRC.out (by have := HS.out.1; unfold maxLen; omega) (by have := HS.out.1; omega) HSZ1.out ?_; intro v3 w3 hown hg _; have HW3 := hid hown; have HG3 := hid hg; clear hown hg))
     go_ret
     have hx3 := own_grown HX1.out HW1.out HG3.out
     refine ⟨_, rfl, put_done (w := w) hS (ms := []) (md := []) HXS.out hx3 rfl HCS.out (Kept.grown HG3.out (own_far hS HW1.out HX1.out)) (by simpa using HW3.out) (by rw [HPE.out, midP_zero HZ.out]), hx3⟩
    ·have CS := hid (show Calls Tryz.prog 34 #[.agg #[.bool bc, .slice ac nc cc]] wz fun e w' => e = .returned (.int .i64 (signI (c))) ∧ Ext wz w' from by rw [HBZ.out]; exact zed_sign (S := Off S w wz u7) _ (c) wz ⟨_, rfl, HDZ.out⟩)
     have hsn := sign_ne hz
     have HZ := hid hz
     clear hz
     go_wp2_with fail
     refine CS.out.mono ?_
     rintro e w1 ⟨rfl, hx1⟩
     have HX1 := hid (HXW.out.trans hx1)
     have HW1 := hid (own_ext HW.out hx1)
     have HSZ1 : Hid (w.heap.size + 1 ≤ w1.heap.size) := hid (Nat.le_trans HSZ.out hx1.size)
     have HD1 := hid (off_ext hS HXW.out HDZ.out hx1)
     have k0 := hx1.cell c0
     have k1 := hx1.cell c1
     clear hx1
     go_wp2_with (first | (refine wpList_slice_from _ rfl (.tmp 65) (.tmp 66) 61 95 rfl Tryz.underlying61 Tryz.infoT (some ⟨b, off, none⟩) p.length cp (k) rfl rfl HJ.out ?_; intro A' hA'; obtain ⟨news, hsrc, hcs⟩ := src_sliced (HP.out.ext HX2.out hS) HJ.out hA'; have HSRC := hid hsrc; have HCS := hid hcs; clear hA' hsrc hcs) | (first | (at_builtin; refine wpList_append_far _ rfl (.tmp 58) (.tmp 62) 61 rfl (w.heap.size + 1) 95 (.agg #[.bool false, .slice none 0 0, .slice none 0 0]) 3 56 Tryz.underlying61 Tryz.infoT rfl (by decide) _ (k) xs rfl HW1.out #[.bool bc, .slice ac nc cc, .slice am m.length cm] rfl (three_cell rfl rfl rfl) rfl (by have := HS.out.1; omega) (by decide) HSZ1.out ?_; intro v2 w2 hown hg hbk; have HW2 := hid hown; have HG2 := hid hg; have HBK := hid hbk; have HX2 := hid (own_grown HX1.out HW1.out hg); have HSZ2 : Hid (w.heap.size + 1 ≤ w2.heap.size) := hid (Nat.le_trans HSZ1.out hg.size); clear hown hg hbk) | (at_builtin; refine wpList_append_src _ rfl (.tmp 64) (.tmp 67) 61 rfl (w.heap.size + 1) 95 i0 (.agg #[.bool false, .slice none 0 0, .slice none 0 0]) 3 56 Tryz.underlying61 hi hz0 hz1 hz2 rfl (by decide) _ ((k) + 1) (xs ++ (#[.bool bc, .slice ac nc cc, .slice am m.length cm] : Array Value).toList) rfl HW2.out A' (p.length - (k)) _ news rfl HSRC.out (by have := HS.out.1; unfold maxLen; omega) (by have := HS.out.1; omega) HSZ2.out ?_; intro v3 w3 hown hg _; have HW3 := hid hown; have HG3 := hid hg; clear hown hg)))
     go_ret
     have hx3 := own_grown HX2.out HW2.out HG3.out
     have hmid : Cells3 (Plus S w w3) w3 [.bool bc, .slice ac nc cc, .slice am m.length cm] [(c, m)] := by
      have hd := Digs.to HD1.out (Kept.grown HG2.out (fun j hj => ⟨plus_lt hS HX1.out j hj.1, hj.2⟩)) (fun _ h => h)
      have hd3 := Digs.to hd (Kept.grown HG3.out (fun j hj => ⟨Nat.lt_of_lt_of_le (plus_lt hS HX1.out j hj.1) HG2.out.size, off_still hS HX1.out hj HBK.out⟩)) (S' := Plus S w w3) (fun j hj => plus_grow (Nat.le_trans HG2.out.size HG3.out.size) j hj.1)
      rw [HBZ.out]
      exact Cells3.single (t := (c, m)) hd3 (HM.out.to (Kept.ext hx3 hS) (fun _ h => .inl h))
     refine ⟨_, rfl, put_done (w := w) hS (ms := [.bool bc, .slice ac nc cc, .slice am m.length cm]) (md := [(c, m)]) HXS.out hx3 hmid HCS.out (Kept.grown HG3.out (own_far hS HW2.out HX2.out)) HW3.out (by rw [HPE.out, midP_some HZ.out]), hx3⟩
  ·obtain rfl : k = p.length := by omega
   obtain ⟨c0, c1, f0, f1⟩ := HCC.out wr hx
   have HPE := hid (put_end (c := c) HPR.out rfl)
   have HJ : Hid (p.length ≤ p.length) := hid (Nat.le_refl _)
   have HXW := hid (HK.out.trans hx)
   have HSZ : Hid (w.heap.size + 1 ≤ wr.heap.size) := hid (by have := hx.size; rw [size_alloc] at this; exact this)
   have HDZ := hid (off_old hS HDC.out HXW.out HW.out)
   clear hx
   by_cases hz : c = 0
   ·have CS := hid (show Calls Tryz.prog 34 #[.agg #[.bool bc, .slice ac nc cc]] wr fun e w' => e = .returned (.int .i64 0) ∧ Ext wr w' from by have h := zed_sign (S := Off S w wr u7) _ (c) wr ⟨_, rfl, HDZ.out⟩; rw [← HBZ.out, show signI (c) = 0 by rw [hz]; rfl] at h; exact h)
    have HZ := hid hz
    clear hz
    go_wp2_with fail
    refine CS.out.mono ?_
    rintro e w1 ⟨rfl, hx1⟩
    have HX1 := hid (HXW.out.trans hx1)
    have HW1 := hid (own_ext HW.out hx1)
    have HSZ1 : Hid (w.heap.size + 1 ≤ w1.heap.size) := hid (Nat.le_trans HSZ.out hx1.size)
    have HD1 := hid (off_ext hS HXW.out HDZ.out hx1)
    clear hx1
    go_wp2_with (first | (refine wpList_slice_from _ rfl (.tmp 65) (.tmp 66) 61 95 rfl Tryz.underlying61 Tryz.infoT ap p.length cp (p.length) rfl rfl HJ.out ?_; intro A' hA'; obtain ⟨news, hsrc, hcs⟩ := src_sliced (HP.out.ext HX1.out hS) HJ.out hA'; have HSRC := hid hsrc; have HCS := hid hcs; clear hA' hsrc hcs) | (at_builtin; refine wpList_append_src _ rfl (.tmp 64) (.tmp 67) 61 rfl (w.heap.size + 1) 95 i0 (.agg #[.bool false, .slice none 0 0, .slice none 0 0]) 3 56 Tryz.underlying61 hi hz0 hz1 hz2 rfl (by decide) _ ((p.length)) xs rfl HW1.out A' (p.length - (p.length)) _ news rfl HSRC.out (by have := HS.out.1; unfold maxLen; omega) (by have := HS.out.1; omega) HSZ1.out ?_; intro v3 w3 hown hg _; have HW3 := hid hown; have HG3 := hid hg; clear hown hg))
    go_ret
    have hx3 := own_grown HX1.out HW1.out HG3.out
    refine ⟨_, rfl, put_done (w := w) hS (ms := []) (md := []) HXS.out hx3 rfl HCS.out (Kept.grown HG3.out (own_far hS HW1.out HX1.out)) (by simpa using HW3.out) (by rw [HPE.out, midP_zero HZ.out]), hx3⟩
   ·have CS := hid (show Calls Tryz.prog 34 #[.agg #[.bool bc, .slice ac nc cc]] wr fun e w' => e = .returned (.int .i64 (signI (c))) ∧ Ext wr w' from by rw [HBZ.out]; exact zed_sign (S := Off S w wr u7) _ (c) wr ⟨_, rfl, HDZ.out⟩)
    have hsn := sign_ne hz
    have HZ := hid hz
    clear hz
    go_wp2_with fail
    refine CS.out.mono ?_
    rintro e w1 ⟨rfl, hx1⟩
    have HX1 := hid (HXW.out.trans hx1)
    have HW1 := hid (own_ext HW.out hx1)
    have HSZ1 : Hid (w.heap.size + 1 ≤ w1.heap.size) := hid (Nat.le_trans HSZ.out hx1.size)
    have HD1 := hid (off_ext hS HXW.out HDZ.out hx1)
    have k0 := hx1.cell c0
    have k1 := hx1.cell c1
    clear hx1
    go_wp2_with (first | (refine wpList_slice_from _ rfl (.tmp 65) (.tmp 66) 61 95 rfl Tryz.underlying61 Tryz.infoT ap p.length cp (p.length) rfl rfl HJ.out ?_; intro A' hA'; obtain ⟨news, hsrc, hcs⟩ := src_sliced (HP.out.ext HX2.out hS) HJ.out hA'; have HSRC := hid hsrc; have HCS := hid hcs; clear hA' hsrc hcs) | (first | (at_builtin; refine wpList_append_far _ rfl (.tmp 58) (.tmp 62) 61 rfl (w.heap.size + 1) 95 (.agg #[.bool false, .slice none 0 0, .slice none 0 0]) 3 56 Tryz.underlying61 Tryz.infoT rfl (by decide) _ (p.length) xs rfl HW1.out #[.bool bc, .slice ac nc cc, .slice am m.length cm] rfl (three_cell rfl rfl rfl) rfl (by have := HS.out.1; omega) (by decide) HSZ1.out ?_; intro v2 w2 hown hg hbk; have HW2 := hid hown; have HG2 := hid hg; have HBK := hid hbk; have HX2 := hid (own_grown HX1.out HW1.out hg); have HSZ2 : Hid (w.heap.size + 1 ≤ w2.heap.size) := hid (Nat.le_trans HSZ1.out hg.size); clear hown hg hbk) | (at_builtin; refine wpList_append_src _ rfl (.tmp 64) (.tmp 67) 61 rfl (w.heap.size + 1) 95 i0 (.agg #[.bool false, .slice none 0 0, .slice none 0 0]) 3 56 Tryz.underlying61 hi hz0 hz1 hz2 rfl (by decide) _ ((p.length) + 1) (xs ++ (#[.bool bc, .slice ac nc cc, .slice am m.length cm] : Array Value).toList) rfl HW2.out A' (p.length - (p.length)) _ news rfl HSRC.out (by have := HS.out.1; unfold maxLen; omega) (by have := HS.out.1; omega) HSZ2.out ?_; intro v3 w3 hown hg _; have HW3 := hid hown; have HG3 := hid hg; clear hown hg)))
    go_ret
    have hx3 := own_grown HX2.out HW2.out HG3.out
    have hmid : Cells3 (Plus S w w3) w3 [.bool bc, .slice ac nc cc, .slice am m.length cm] [(c, m)] := by
     have hd := Digs.to HD1.out (Kept.grown HG2.out (fun j hj => ⟨plus_lt hS HX1.out j hj.1, hj.2⟩)) (fun _ h => h)
     have hd3 := Digs.to hd (Kept.grown HG3.out (fun j hj => ⟨Nat.lt_of_lt_of_le (plus_lt hS HX1.out j hj.1) HG2.out.size, off_still hS HX1.out hj HBK.out⟩)) (S' := Plus S w w3) (fun j hj => plus_grow (Nat.le_trans HG2.out.size HG3.out.size) j hj.1)
     rw [HBZ.out]
     exact Cells3.single (t := (c, m)) hd3 (HM.out.to (Kept.ext hx3 hS) (fun _ h => .inl h))
    refine ⟨_, rfl, put_done (w := w) hS (ms := [.bool bc, .slice ac nc cc, .slice am m.length cm]) (md := [(c, m)]) HXS.out hx3 hmid HCS.out (Kept.grown HG3.out (own_far hS HW2.out HX2.out)) HW3.out (by rw [HPE.out, midP_some HZ.out]), hx3⟩
end
section
open Go.RowKit
theorem putP_may {p : PZ} {c : Int} {m : Mono} (hp : mayAll p) (hm : mayM m = true) : mayAll (putP p c m) := fun t ht => by
 rcases putP_mem ht with h | h
 ·exact hp t h
 ·rw [h]; exact hm
theorem addP_may {p l : PZ} (hp : mayAll p) (hl : mayAll l) : mayAll (addP p l) := by
 induction l generalizing p with
 | nil => exact hp
 | cons t r ih => exact ih (putP_may hp (hl t (by simp))) (fun u hu => hl u (by simp [hu]))
theorem addP_snoc (p l : PZ) (t : Int × Mono) : addP p (l ++ [t]) = putP (addP p l) t.1 t.2 := by
 unfold addP
 rw [List.foldl_append]
 rfl
theorem may_take {l : PZ} (h : mayAll l) (k : Nat) : mayAll (l.take k) := fun t ht => h t (List.mem_of_mem_take ht)
theorem toP_at {ts : List RTerm} {k : Nat} {t : RTerm} (h : ts[k]? = some t) : (toP ts).take (k + 1) = (toP ts).take k ++ [(valI t.c, t.m)] := by
 rw [List.take_add_one]
 unfold toP
 rw [List.getElem?_map, h]
 rfl
theorem plus_plus {S : Nat → Prop} {w w1 w2 : World} (h1 : Ext w w1) (h2 : Ext w1 w2) : ∀ k, Plus (Plus S w w1) w1 w2 k → Plus S w w2 k := fun k hk => by
 rcases hk with (h | h) | h
 ·exact .inl h
 ·exact .inr ⟨h.1, Nat.lt_of_lt_of_le h.2 h2.size⟩
 ·exact .inr ⟨Nat.le_trans h1.size h.1, h.2⟩
theorem new_plus {S : Nat → Prop} {w w1 w2 : World} (h1 : w.heap.size ≤ w1.heap.size) : ∀ k, New w1 w2 k → Plus S w w2 k := fun _k hk => .inr ⟨Nat.le_trans h1 hk.1, hk.2⟩
theorem RTs.later {S : Nat → Prop} {w w1 w2 : World} {v : Value} {p : PZ} (hS : ∀ k, S k → k < w.heap.size) (h : RTs (Plus S w w1) w1 v p) (h1 : Ext w w1) (h2 : Ext w1 w2) : RTs (Plus S w w2) w2 v p :=
 h.to (Kept.ext h2 (plus_lt hS h1)) (plus_grow h2.size)
theorem toP_length (ts : List RTerm) : (toP ts).length = ts.length := by unfold toP; rw [List.length_map]
theorem rpoly_of {S : Nat → Prop} (v : Value) (ts : List RTerm) (w : World) (h : Terms S w v ts) (hS : ∀ k, S k → k < w.heap.size) (hr : tinyT ts) (hmay : mayAll (toP ts)) (hsz : ∀ k, k ≤ ts.length → szP (addP [] ((toP ts).take k))) :
  Calls Tryz.prog 12 #[v] w fun e w' => ∃ v', e = .returned v' ∧ RTs (Plus S w w') w' v' (normP (toP ts)) ∧ Ext w w' := by
 have hl := h.len_le
 have H := hid h
 have HR := hid hr
 have HMY := hid hmay
 have HSZ := hid hsz
 have HST := hid (fun k (x : RTerm) => toP_at (ts := ts) (k := k) (t := x))
 obtain ⟨P, hP⟩ : ∃ P, P = toP ts := ⟨_, rfl⟩
 rw [← hP] at HMY HSZ ⊢
 have HP := hid hP
 obtain ⟨a, cap, rfl⟩ := h.form
 clear h hr hmay hsz hP
 go_enter Tryz.func12, Tryz.ntmps12
 go_wp2
 go_loopw [3, 4] (fun o i wr => ∃ k : Nat, k ≤ ts.length ∧ i = .int .i64 k ∧ Ext w wr ∧ Hid (RTs (Plus S w wr) wr o (addP [] (P.take k)))) (fun _ i _ => ts.length - (intOf i).toNat)
 case atStart => exact ⟨0, Nat.zero_le _, rfl, Ext.refl _, hid (RTs.nilv _ _ _ _ (by omega))⟩
 case round =>
  obtain ⟨k, hk, rfl, hx, HO⟩ := hrel
  have HX := hid hx
  by_cases hlt : k < ts.length
  ·obtain ⟨t, ht⟩ := some_of_lt hlt
   obtain ⟨b, off, vm, vo, rfl, -, hn1, hm1, hSb, h1, h2, h3, h4, h5⟩ := H.out.cellAt ht
   have hsm := HR.out t (List.mem_of_getElem? ht)
   have HTK := hid (HST.out k t ht)
   have HTM : Hid (mayM t.m = true) := hid (HMY.out (valI t.c, t.m) (by rw [HP.out]; exact List.mem_map.2 ⟨t, List.mem_of_getElem? ht, rfl⟩))
   have HV : Hid (szZ (valI t.c)) := hid (szZ_of h4.lt hsm)
   obtain ⟨⟨ng, zs⟩, m⟩ := t
   simp only at h1 h2 h3 h4 h5 hsm HTM HV HTK
   have H4 := hid h4
   have H5 := hid h5
   obtain ⟨am, cm, rfl⟩ := h4.form
   obtain ⟨ao, co, rfl⟩ := h5.form
   have x0 : Ext w wr.drew := hx.drew
   have HX0 := hid x0
   have S0 : _ ∧ _ ∧ _ := And.intro (x0.cell h1) (And.intro (x0.cell h2) (x0.cell h3))
   have C1 := hid (zed_of (S := S) _ ⟨ng, zs⟩ wr.drew (intV_mk (H4.out.ext x0 hS)) (lt_ext hS x0) hsm)
   clear ht h1 h2 h3 h4 h5 hx hsm x0
   go_wp2
   go_region_held3 (fun W => W.cell? ⟨b, off + k * 3, none⟩ = some (.bool ng) ∧ W.cell? ⟨b, off + k * 3 + 1, none⟩ = some (.slice am zs.length cm) ∧ W.cell? ⟨b, off + k * 3 + 2, none⟩ = some (.slice ao m.length co)) (first | exact S0 | exact S1 | exact S2)
    (first
     | (go_at_call 41; (with_reducible refine C1.out.mono ?_); rintro e w1 ⟨v1, rfl, hz1, hx1⟩; have S1 : _ ∧ _ ∧ _ := And.intro (hx1.cell S0.1) (And.intro (hx1.cell S0.2.1) (hx1.cell S0.2.2)); have HX1 : Hid (Ext w w1) := hid (HX0.out.trans hx1); have C2 := hid (rpoly_put (S := Plus S w w1) _ _ _ (addP [] (P.take k)) (valI ⟨ng, zs⟩) m w1 (plus_lt hS HX1.out) (RTs.later hS HO.out HX.out (((Ext.refl wr).drew).trans hx1)) (hz1.to (Kept.refl _ _) (new_plus HX0.out.size)) ((H5.out.ext HX1.out hS).to (Kept.refl _ _) (fun _ h => .inl h)) (addP_may (p := []) canP_nil.may (may_take HMY.out k)) HTM.out (HSZ.out k hk) HV.out); clear hx1 hz1)
     | (go_at_call 40; (with_reducible refine C2.out.mono ?_); rintro e w2 ⟨v2, rfl, hp2, hx2⟩; have S2 : _ ∧ _ ∧ _ := And.intro (hx2.cell S1.1) (And.intro (hx2.cell S1.2.1) (hx2.cell S1.2.2)); have HX2 := hid (HX1.out.trans hx2); have HP2 := hid (hp2.to (Kept.refl _ _) (plus_plus HX1.out hx2)); clear hx2 hp2))
   go_wp2
   go_roundw
   case rel => exact ⟨k + 1, by omega, by go_num, HX2.out, hid (by rw [HP.out, HTK.out, addP_snoc, ← HP.out]; exact HP2.out)⟩
   case measure => simp only [intOf]; omega
  ·obtain rfl : k = ts.length := by omega
   have HE : Hid (addP [] (P.take ts.length) = normP P) := hid (by rw [List.take_of_length_le (by rw [HP.out, toP_length]; exact Nat.le_refl _)]; rfl)
   clear hx
   go_wp2
   all_goals
    go_ret
    exact ⟨_, rfl, by rw [← HE.out]; exact HO.out, HX.out⟩
theorem rpoly_add {S : Nat → Prop} (vp vq : Value) (p q : PZ) (w : World) (hS : ∀ k, S k → k < w.heap.size) (hp : RTs S w vp p) (hq : RTs S w vq q) (hmp : mayAll p) (hmq : mayAll q) (hszq : szP q) (hsz : ∀ k, k ≤ q.length → szP (addP p (q.take k))) :
  Calls Tryz.prog 61 #[vp, vq] w fun e w' => ∃ v', e = .returned v' ∧ RTs (Plus S w w') w' v' (addP p q) ∧ Ext w w' := by
 have hl := hq.len_le
 have HP := hid hp
 have HQ := hid hq
 have HMP := hid hmp
 have HMQ := hid hmq
 have HZQ := hid hszq
 have HSZ := hid hsz
 obtain ⟨ap, cp, rfl⟩ := hp.form
 obtain ⟨aq, cq, rfl⟩ := hq.form
 clear hp hq hmp hmq hszq hsz
 go_enter Tryz.func61, Tryz.ntmps61
 go_wp2
 go_loopw [5, 6] (fun o i wr => ∃ k : Nat, k ≤ q.length ∧ i = .int .i64 k ∧ Ext w wr ∧ Hid (RTs (Plus S w wr) wr o (addP p (q.take k)))) (fun _ i _ => q.length - (intOf i).toNat)
 case atStart => exact ⟨0, Nat.zero_le _, rfl, Ext.refl _, hid (HP.out.to (Kept.refl _ _) (fun _ h => .inl h))⟩
 case round =>
  obtain ⟨k, hk, rfl, hx, HO⟩ := hrel
  have HX := hid hx
  by_cases hlt : k < q.length
  ·obtain ⟨t, ht⟩ := some_of_lt hlt
   obtain ⟨b, off, vd, vo, rfl, -, hn1, hm1, hSb, h1, h2, h3, h4, h5⟩ := HQ.out.cellAt ht
   have HTK : Hid (q.take (k + 1) = q.take k ++ [t]) := hid (by rw [List.take_add_one, ht]; rfl)
   have HTM := hid (HMQ.out t (List.mem_of_getElem? ht))
   have HV := hid (HZQ.out.2 t (List.mem_of_getElem? ht))
   have H4 := hid h4
   have H5 := hid h5
   obtain ⟨am, cm, rfl⟩ := h4.form
   obtain ⟨ao, co, rfl⟩ := h5.form
   have x0 : Ext w wr.drew := hx.drew
   have HX0 := hid x0
   have S0 : _ ∧ _ ∧ _ := And.intro (x0.cell h1) (And.intro (x0.cell h2) (x0.cell h3))
   have c2 := rpoly_put (S := Plus S w wr.drew) _ _ _ (addP p (q.take k)) t.1 t.2 wr.drew (plus_lt hS x0) (RTs.later hS HO.out HX.out ((Ext.refl wr).drew)) (show ZV (Plus S w wr.drew) wr.drew (.agg #[.bool (decide (t.1 < 0)), .slice am (rep 10 t.1.natAbs).length cm]) t.1 from ⟨_, rfl, H4.out.to (Kept.ext HX0.out hS) (fun _ h => .inl h)⟩) (H5.out.to (Kept.ext HX0.out hS) (fun _ h => .inl h)) (addP_may HMP.out (may_take HMQ.out k)) HTM.out (HSZ.out k hk) HV.out
   obtain ⟨bt, hbt⟩ : ∃ b, b = decide (t.1 < 0) := ⟨_, rfl⟩
   obtain ⟨nt, hnt⟩ : ∃ n, n = (rep 10 t.1.natAbs).length := ⟨_, rfl⟩
   obtain ⟨nm, hnm⟩ : ∃ n, n = t.2.length := ⟨_, rfl⟩
   rw [← hbt, ← hnt, ← hnm] at S0
   rw [← hbt, ← hnt, ← hnm] at c2
   have C2 := hid c2
   clear ht h1 h2 h3 h4 h5 hx x0 c2 H4 H5 hbt hnt hnm
   go_wp2
   go_region_held3 (fun W => W.cell? ⟨b, off + k * 3, none⟩ = some (.bool bt) ∧ W.cell? ⟨b, off + k * 3 + 1, none⟩ = some (.slice am nt cm) ∧ W.cell? ⟨b, off + k * 3 + 2, none⟩ = some (.slice ao nm co)) (first | exact S0 | exact S2)
    (first
     | (go_at_call 40; (with_reducible refine C2.out.mono ?_); rintro e w2 ⟨v2, rfl, hp2, hx2⟩; have S2 : _ ∧ _ ∧ _ := And.intro (hx2.cell S0.1) (And.intro (hx2.cell S0.2.1) (hx2.cell S0.2.2)); have HX2 := hid (HX0.out.trans hx2); have HP2 := hid (hp2.to (Kept.refl _ _) (plus_plus HX0.out hx2)); clear hx2 hp2))
   go_wp2
   go_roundw
   case rel => exact ⟨k + 1, by omega, by go_num, HX2.out, hid (by rw [HTK.out, addP_snoc]; exact HP2.out)⟩
   case measure => simp only [intOf]; omega
  ·obtain rfl : k = q.length := by omega
   have HE : Hid (addP p (q.take q.length) = addP p q) := hid (by rw [List.take_length])
   clear hx
   go_wp2
   all_goals
    go_ret
    exact ⟨_, rfl, by rw [← HE.out]; exact HO.out, HX.out⟩
end
end Go.Proofs.YtbfflodidkfphaaGreat
