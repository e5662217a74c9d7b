/- The product of two whole numbers (one of them of fewer than 24 limbs); a number's own. A small number as a whole number. The derivative: the program's answer. The document: classes, degrees and ranks of polynomials. Which polynomials are too great for the law. Bounds on the limbs of coefficients, and what a small polynomial is. The product of two polynomials: the program's answer. Polynomials as sums: linear functionals on lists of terms, products, and that a canonical list is told by them. Plain. Degrees, initials, classes and derivatives of products and sums. Plain. Lists that are the same so far. Are two polynomials the same data? -/
import Derived.Test.YthplgldclilccaaGreatProg
import Derived.Test.YthplgldclilccaaGreatSet6
namespace Go.Proofs.YthplgldclilccaaGreat
open Go.RowKit

set_option maxRecDepth 100000 in
set_option maxHeartbeats 4000000 in
theorem cutter_few {S : Nat → Prop} (va vb : Value) (xs ys : List Nat) (w : World) (ha : U32s S w va xs) (hb : U32s S w vb ys) (hS : ∀ k, S k → k < w.heap.size) (hr : xs.length + ys.length ≤ 1000000000000) (hc : xs.length < 24 ∨ ys.length < 24) :
    Calls Tryz.prog 140 #[.int .i64 24, va, vb] w fun e w' => ∃ v', e = .returned v' ∧ U32s (New w w') w' v' (rep B32 (val B32 xs * val B32 ys)) ∧ Ext w w' := by
  have HC := hid (times_rows va vb xs ys w ha hb hS hr)
  have hla := ha.len_le
  have hlb := hb.len_le
  obtain ⟨aa, ca, rfl⟩ := ha.form
  obtain ⟨a2, cb, rfl⟩ := hb.form
  clear ha hb
  obtain ⟨n, hn⟩ : ∃ n, n = xs.length := ⟨_, rfl⟩
  obtain ⟨m, hm⟩ : ∃ n, n = ys.length := ⟨_, rfl⟩
  rw [← hn, ← hm] at hc hr
  rw [← hn] at hla
  rw [← hm] at hlb
  rw [← hn, ← hm] at HC ⊢
  clear hn hm
  go_enter Tryz.func140, Tryz.ntmps140
  rcases Nat.lt_or_ge n m with h | h
  · have q0 : min (n : Int) (m : Int) = (n : Int) := by omega
    have q1 : (n : Int) < 24 := by omega
    go_wp2_with fail
    with_reducible refine HC.out.mono ?_
    rintro e w1 ⟨v1, rfl, hp1, hx1⟩
    have HP1 := hid hp1
    have HX1 := hid hx1
    clear hp1 hx1
    go_wp2
    all_goals
      go_ret
      exact ⟨_, rfl, HP1.out, HX1.out⟩
  · rcases Nat.lt_or_ge m n with h2 | h2
    · have q0 : min (n : Int) (m : Int) = (m : Int) := by omega
      have q1 : (m : Int) < 24 := by omega
      go_wp2_with fail
      with_reducible refine HC.out.mono ?_
      rintro e w1 ⟨v1, rfl, hp1, hx1⟩
      have HP1 := hid hp1
      have HX1 := hid hx1
      clear hp1 hx1
      go_wp2
      all_goals
        go_ret
        exact ⟨_, rfl, HP1.out, HX1.out⟩
    · obtain rfl : n = m := by omega
      have q1 : (n : Int) < 24 := by omega
      go_wp2_with fail
      with_reducible refine HC.out.mono ?_
      rintro e w1 ⟨v1, rfl, hp1, hx1⟩
      have HP1 := hid hp1
      have HX1 := hid hx1
      clear hp1 hx1
      go_wp2
      all_goals
        go_ret
        exact ⟨_, rfl, HP1.out, HX1.out⟩

def lenN (n : Nat) : Nat := (rep B32 n).length
theorem lenN_le {zs : List Nat} (h : ∀ z ∈ zs, z < B32) : lenN (val B32 zs) ≤ zs.length := rep_val_len h
theorem mul_lens {a b k : Nat} (ha : lenN a + lenN b ≤ k) : lenN (a * b) ≤ k := by
  refine rep_len_le two_le_B32 _ k (Nat.lt_of_lt_of_le (Nat.mul_lt_mul'' (le_of_rep_len two_le_B32 a) (le_of_rep_len two_le_B32 b)) ?_)
  rw [← Nat.pow_add]
  exact Nat.pow_le_pow_right (by decide) ha
set_option maxRecDepth 100000 in
set_option maxHeartbeats 4000000 in
theorem times_mul {S : Nat → Prop} (va vb : Value) (xs ys : List Nat) (w : World) (ha : U32s S w va xs) (hb : U32s S w vb ys) (hS : ∀ k, S k → k < w.heap.size) (hr : xs.length + ys.length ≤ 1000000000000) (hc : lenN (val B32 xs) < 24 ∨ lenN (val B32 ys) < 24) :
    Calls Tryz.prog 116 #[va, vb] w fun e w' => ∃ v', e = .returned v' ∧ U32s (New w w') w' v' (rep B32 (val B32 xs * val B32 ys)) ∧ Ext w w' := by
  have C1 := hid (nat_trim va xs w ha hS (by omega))
  have C2 := hid (fun (W : World) (hW : Ext w W) => nat_trim vb ys W (hb.ext hW hS) (lt_ext hS hW) (by omega))
  have C3 := hid (fun (W : World) (u v : Value) (hu : U32s (Old W) W u (rep B32 (val B32 xs))) (hv : U32s (Old W) W v (rep B32 (val B32 ys))) => cutter_few u v _ _ W hu hv (fun _ h => h) (by have := lenN_le ha.lt; have := lenN_le hb.lt; unfold lenN at *; omega) hc)
  simp only [val_rep two_le_B32] at C3
  obtain ⟨aa, ca, rfl⟩ := ha.form
  obtain ⟨a2, cb, rfl⟩ := hb.form
  clear ha hb
  go_enter Tryz.func116, Tryz.ntmps116
  go_wp2_with fail
  with_reducible refine C1.out.mono ?_
  rintro e w1 ⟨v1, rfl, hp1, hx1⟩
  have HX1 := hid hx1
  have HP1 := hid (hp1.to (S' := Old w1) (Kept.refl _ _) New.lt)
  obtain ⟨a1, c1, rfl⟩ := hp1.form
  clear hp1 hx1
  go_wp2_with fail
  with_reducible refine (C2.out _ HX1.out).mono ?_
  rintro e w2 ⟨v2, rfl, hp2, hx2⟩
  have HX2 := hid (HX1.out.trans hx2)
  have C4 := hid (C3.out w2 _ v2 ((HP1.out.ext hx2 (fun _ h => h)).to (Kept.refl _ _) (fun k h => Nat.lt_of_lt_of_le h hx2.size)) (hp2.to (Kept.refl _ _) New.lt))
  obtain ⟨a3, c3, rfl⟩ := hp2.form
  clear hp2 hx2
  go_wp2_with fail
  with_reducible refine C4.out.mono ?_
  rintro e w3 ⟨v3, rfl, hp3, hx3⟩
  have HX3 := hid (HX2.out.trans hx3)
  have HP3 := hid (hp3.to (S' := New w w3) (Kept.refl _ _) (fun k h => ⟨Nat.le_trans HX2.out.size h.1, h.2⟩))
  clear hp3 hx3
  go_wp2
  all_goals
    go_ret
    exact ⟨_, rfl, HP3.out, HX3.out⟩

theorem sg_mul (xn yn : Bool) (a b : Nat) : sg (xn != yn) (a * b) = sg xn a * sg yn b := by
  unfold sg
  cases xn <;> cases yn <;> simp [Int.neg_mul, Int.mul_neg]

set_option maxRecDepth 100000 in
set_option maxHeartbeats 4000000 in
theorem whole_mul {S : Nat → Prop} (vx vy : Value) (x y : RInt) (w : World) (hx : IntV S w vx x) (hy : IntV S w vy y) (hS : ∀ k, S k → k < w.heap.size) (hr : x.mag.length ≤ 100000000000) (hr2 : y.mag.length ≤ 100000000000)
    (hc : lenI (valI x) < 24 ∨ lenI (valI y) < 24) :
    Calls Tryz.prog 75 #[vx, vy] w fun e w' => ∃ v', e = .returned v' ∧ IntV (New w w') w' v' (ofI (valI x * valI y)) ∧ Ext w w' := by
  obtain ⟨xn, xs⟩ := x
  obtain ⟨yn, ys⟩ := y
  obtain ⟨vxm, rfl, hxu⟩ := hx
  obtain ⟨vym, rfl, hyu⟩ := hy
  simp only at hxu hyu hr hr2 ⊢
  have hc' : lenN (val B32 xs) < 24 ∨ lenN (val B32 ys) < 24 := by
    have e1 : lenI (valI ⟨xn, xs⟩) = lenN (val B32 xs) := by
      rw [← ofI_len]
      unfold ofI valI lenN
      cases xn <;> simp
    have e2 : lenI (valI ⟨yn, ys⟩) = lenN (val B32 ys) := by
      rw [← ofI_len]
      unfold ofI valI lenN
      cases yn <;> simp
    rwa [e1, e2] at hc
  have HCL := hid hc'
  have HX := hid hxu
  have HY := hid hyu
  obtain ⟨ax, cx, rfl⟩ := hxu.form
  obtain ⟨ay, cy, rfl⟩ := hyu.form
  clear hxu hyu hc hc'
  have HK := hid (Ext.alloc (Ext.alloc (Ext.alloc (Ext.refl w) (.cells #[.bool xn, .slice ax xs.length cx] 72)) (.cells #[.bool yn, .slice ay ys.length cy] 72)) (.cells #[.bool false, .slice none 0 0] 72))
  have HXK := hid (HX.out.ext HK.out hS)
  have HYK := hid (HY.out.ext HK.out hS)
  have HSK := hid (lt_ext hS HK.out)
  have hsz : w.heap.size + 1 + 1 < (((w.alloc (.cells #[.bool xn, .slice ax xs.length cx] 72)).alloc (.cells #[.bool yn, .slice ay ys.length cy] 72)).alloc (.cells #[.bool false, .slice none 0 0] 72)).heap.size := by simp
  have HSZ := hid hsz
  clear hsz
  have HQ : Hid (valI ⟨xn, xs⟩ * valI ⟨yn, ys⟩ = sg (xn != yn) (val B32 xs * val B32 ys)) := hid (by
    rw [sg_mul]
    rfl)
  obtain ⟨b1, b2, b3, b4⟩ := blk3 (Ext.refl (((w.alloc (.cells #[.bool xn, .slice ax xs.length cx] 72)).alloc (.cells #[.bool yn, .slice ay ys.length cy] 72)).alloc (.cells #[.bool false, .slice none 0 0] 72)))
  have c1 := b1 0 _ rfl
  have c2 := b1 1 _ rfl
  have c3 := b2 1 _ rfl
  have c4 := b2 0 _ rfl
  clear b1 b2 b3 b4
  have S0 := drew3 c1 c2 c3
  have S0' := drew3 c4 c4 c4
  have HS0 := hid (And.intro S0.1 (And.intro S0.2.1 (And.intro S0.2.2 S0'.1)))
  clear S0 S0' c1 c2 c3 c4
  go_enter Tryz.func75, Tryz.ntmps75
  go_wp2
  have S0 := HS0.out
  have HL : Hid ((rep B32 (val B32 xs * val B32 ys)).length ≤ 50000000000000) := hid (mul_lens (by have h1 := lenN_le HX.out.lt; have h2 := lenN_le HY.out.lt; omega))
  obtain ⟨xy, hxy⟩ : ∃ b, b = (xn != yn) := ⟨_, rfl⟩
  rw [← hxy] at HQ
  have hxyq : (!(xn == yn)) = xy := hxy.symm
  clear hxy
  go_region_held3 (fun W => W.cell? ⟨w.heap.size, 0, none⟩ = some (.bool xn) ∧ W.cell? ⟨w.heap.size, 1, none⟩ = some (.slice ax xs.length cx) ∧ W.cell? ⟨w.heap.size + 1, 1, none⟩ = some (.slice ay ys.length cy) ∧ W.cell? ⟨w.heap.size + 1, 0, none⟩ = some (.bool yn)) (first | exact S0 | exact S1 | exact S2 | exact ⟨other (other S2.1 (ab (by omega))) (ab (by omega)), other (other S2.2.1 (ab (by omega))) (ab (by omega)), other (other S2.2.2.1 (ab (by omega))) (ab (by omega)), other (other S2.2.2.2 (ab (by omega))) (ab (by omega))⟩)
    (first
      | (go_at_call 116; (with_reducible refine (times_mul _ _ xs ys _ (HX.out.ext (HK.out.drew) hS) (HY.out.ext (HK.out.drew) hS) (lt_ext hS (HK.out.drew)) (by omega) HCL.out).mono ?_); rintro e w1 ⟨v1, rfl, hu1, hx1⟩; have S1 := And.intro (hx1.cell S0.1) (And.intro (hx1.cell S0.2.1) (And.intro (hx1.cell S0.2.2.1) (hx1.cell S0.2.2.2))); have HX1 := hid hx1; have HU1 := hid hu1; obtain ⟨a1, n1, rfl⟩ := hu1.form; clear hx1 hu1)
      | (go_at_call 115; (with_reducible refine (made_rep xy _ _ _ HU1.out New.lt HL.out).mono ?_); rintro e w2 ⟨v2, rfl, ⟨vm2, rfl, hu2⟩, hx2⟩; have S2 := And.intro (hx2.cell S1.1) (And.intro (hx2.cell S1.2.1) (And.intro (hx2.cell S1.2.2.1) (hx2.cell S1.2.2.2))); have HX2 := hid hx2; have HU2 := hid hu2; obtain ⟨a2, n2, rfl⟩ := hu2.form; obtain ⟨-, -, d3, d4⟩ := blk3 ((Ext.drew (Ext.refl _)).trans (HX1.out.trans hx2)); have e0 := d3 0 _ rfl; have e1 := d3 1 _ rfl; have HE := hid (And.intro e0 e1); have f0 := d4 0; have f1 := d4 1; clear d3 d4 hx2 hu2))
  all_goals
    go_wp2
    have hd := fun x y => two_set x y HE.out.1 HE.out.2
    refine bodyPost_ret (by simp [results, Tryz.results75, go_sem, (hd _ _).1, (hd _ _).2]; rfl) rfl ?_
    have hg := ret_int3 (w0 := w) (b := w.heap.size + 1 + 1) rfl HU2.out (HK.out.drew.trans HX1.out) HX2.out (by omega) (Nat.lt_of_lt_of_le HSZ.out HX1.out.size) (.bool (ofI (sg xy (val B32 xs * val B32 ys))).neg) (.slice a2 (ofI (sg xy (val B32 xs * val B32 ys))).mag.length n2)
    rw [HQ.out]
    exact ⟨_, rfl, hg.1, hg.2⟩
end Go.Proofs.YthplgldclilccaaGreat

namespace Go.Proofs.YthplgldclilccaaGreat
open Go.RowKit

theorem one_new {w : World} {cs : Array Value} {T : TypeId} {W : World} (hx : Ext (w.alloc (.cells cs T)) W) {i : Nat} {v : Value} (hv : cs[i]? = some v) : W.cell? ⟨w.heap.size, i, none⟩ = some v := Ext.new_cell hx hv

set_option maxRecDepth 100000 in
set_option maxHeartbeats 4000000 in
theorem whole_of (n : Int) (w : World) (hn : -9223372036854775808 ≤ n ∧ n ≤ 9223372036854775807) :
    Calls Tryz.prog 76 #[.int .i64 n] w fun e w' => ∃ v', e = .returned v' ∧ IntV (New w w') w' v' (ofI n) ∧ Ext w w' := by
  obtain ⟨hn1, hn2⟩ := hn
  have HX0 := hid (Ext.alloc (Ext.refl w) (.cells #[.bool false, .slice none 0 0] 72))
  have HSZ : Hid (w.heap.size < (w.alloc (.cells #[.bool false, .slice none 0 0] 72)).heap.size) := hid (by rw [size_alloc]; omega)
  by_cases h : n < 0
  · obtain ⟨x, hx⟩ : ∃ x : Nat, (x : Int) = -n := ⟨(-n).toNat, by omega⟩
    have hxl : x < 18446744073709551616 := by omega
    have q1 : n % 18446744073709551616 = 18446744073709551616 - (x : Int) := by omega
    have q2 : IntKind.u64.wrap (-IntKind.u64.wrap n) = (x : Int) := by
      rw [IntKind.wrap_u64, IntKind.wrap_u64]
      omega
    have HS := hid (fun W : World => nat_small x W hxl)
    have HL : Hid ((rep B32 x).length ≤ 50000000000000) := hid (Nat.le_trans (rep_len_le two_le_B32 x 2 (by show x < 4294967296 ^ 2; omega)) (by decide))
    have HQ : Hid (n = sg true x) := hid (by unfold sg; rw [if_pos rfl]; omega)
    clear hx hxl
    go_enter Tryz.func76, Tryz.ntmps76
    go_wp2_with fail
    with_reducible refine (HS.out _).mono ?_
    rintro e w1 ⟨v1, rfl, hp1, hx1⟩
    have HX1 := hid hx1
    have HP1 := hid hp1
    obtain ⟨a1, c1, rfl⟩ := hp1.form
    clear hp1 hx1
    go_wp2_with fail
    with_reducible refine (made_rep true _ _ _ HP1.out New.lt HL.out).mono ?_
    rintro e w2 ⟨v2, rfl, ⟨vm2, rfl, hu2⟩, hx2⟩
    have HX2 := hid hx2
    have HU2 := hid hu2
    obtain ⟨a2, n2, rfl⟩ := hu2.form
    have e0 := (HX1.out.trans hx2).new_cell (i := 0) rfl
    have e1 := (HX1.out.trans hx2).new_cell (i := 1) rfl
    have f0 := (HX1.out.trans hx2).new_free 0
    have f1 := (HX1.out.trans hx2).new_free 1
    have HE := hid (And.intro e0 e1)
    rw [← HQ.out] at HU2 ⊢
    clear hx2 hu2
    go_wp2
    have hd := fun x y => two_set x y HE.out.1 HE.out.2
    refine bodyPost_ret (by simp [results, Tryz.results76, go_sem, (hd _ _).1, (hd _ _).2]; rfl) rfl ?_
    have hg := ret_int3 (w0 := w) (b := w.heap.size) rfl HU2.out (HX0.out.trans HX1.out) HX2.out (Nat.le_refl _) (Nat.lt_of_lt_of_le HSZ.out HX1.out.size) (.bool (ofI n).neg) (.slice a2 (ofI n).mag.length n2)
    exact ⟨_, rfl, hg.1, hg.2⟩
  · obtain ⟨x, hx⟩ : ∃ x : Nat, (x : Int) = n := ⟨n.toNat, by omega⟩
    have hxl : x < 18446744073709551616 := by omega
    have q2 : IntKind.u64.wrap n = (x : Int) := by
      rw [IntKind.wrap_u64]
      omega
    have HS := hid (fun W : World => nat_small x W hxl)
    have HL : Hid ((rep B32 x).length ≤ 50000000000000) := hid (Nat.le_trans (rep_len_le two_le_B32 x 2 (by show x < 4294967296 ^ 2; omega)) (by decide))
    have HQ : Hid (n = sg false x) := hid (by unfold sg; simp; omega)
    clear hx hxl
    go_enter Tryz.func76, Tryz.ntmps76
    go_wp2_with fail
    with_reducible refine (HS.out _).mono ?_
    rintro e w1 ⟨v1, rfl, hp1, hx1⟩
    have HX1 := hid hx1
    have HP1 := hid hp1
    obtain ⟨a1, c1, rfl⟩ := hp1.form
    clear hp1 hx1
    go_wp2_with fail
    with_reducible refine (made_rep false _ _ _ HP1.out New.lt HL.out).mono ?_
    rintro e w2 ⟨v2, rfl, ⟨vm2, rfl, hu2⟩, hx2⟩
    have HX2 := hid hx2
    have HU2 := hid hu2
    obtain ⟨a2, n2, rfl⟩ := hu2.form
    have e0 := (HX1.out.trans hx2).new_cell (i := 0) rfl
    have e1 := (HX1.out.trans hx2).new_cell (i := 1) rfl
    have f0 := (HX1.out.trans hx2).new_free 0
    have f1 := (HX1.out.trans hx2).new_free 1
    have HE := hid (And.intro e0 e1)
    rw [← HQ.out] at HU2 ⊢
    clear hx2 hu2
    go_wp2
    have hd := fun x y => two_set x y HE.out.1 HE.out.2
    refine bodyPost_ret (by simp [results, Tryz.results76, go_sem, (hd _ _).1, (hd _ _).2]; rfl) rfl ?_
    have hg := ret_int3 (w0 := w) (b := w.heap.size) rfl HU2.out (HX0.out.trans HX1.out) HX2.out (Nat.le_refl _) (Nat.lt_of_lt_of_le HSZ.out HX1.out.size) (.bool (ofI n).neg) (.slice a2 (ofI n).mag.length n2)
    exact ⟨_, rfl, hg.1, hg.2⟩
end Go.Proofs.YthplgldclilccaaGreat

namespace Go.Proofs.YthplgldclilccaaGreat
open Go.RowKit

def derTF (v : Int) (t : RTerm) : Option RTerm := if ex t.m v = 0 then none else some ⟨ofI (valI t.c * ex t.m v), decM t.m v⟩
def derT (v : Int) (ts : List RTerm) : List RTerm := ts.filterMap (derTF v)
theorem toP_derT (v : Int) (ts : List RTerm) : toP (derT v ts) = derP (toP ts) v := by
  unfold derT derP toP
  induction ts with
  | nil => rfl
  | cons t r ih =>
    rw [List.filterMap_cons, List.map_cons, List.filterMap_cons]
    unfold derTF derF
    by_cases h : ex t.m v = 0
    · simp only [if_pos h]
      exact ih
    · simp only [if_neg h, List.map_cons, valI_ofI]
      exact congrArg _ ih
theorem derT_take {v : Int} {ts : List RTerm} {k : Nat} {t : RTerm} (h : ts[k]? = some t) : derT v (ts.take (k + 1)) = derT v (ts.take k) ++ (if ex t.m v = 0 then [] else [⟨ofI (valI t.c * ex t.m v), decM t.m v⟩]) := by
  unfold derT
  rw [List.take_add_one, h, List.filterMap_append]
  congr 1
  by_cases h2 : ex t.m v = 0
  · simp [derTF, h2]
  · simp [derTF, h2]
theorem derT_len (v : Int) (ts : List RTerm) : (derT v ts).length ≤ ts.length := List.length_filterMap_le _ _
theorem derT_mem {v : Int} {ts : List RTerm} {u : RTerm} (h : u ∈ derT v ts) : ∃ t ∈ ts, ex t.m v ≠ 0 ∧ u = ⟨ofI (valI t.c * ex t.m v), decM t.m v⟩ := by
  obtain ⟨t, ht, e⟩ := List.mem_filterMap.1 h
  unfold derTF at e
  split at e
  · cases e
  · rename_i h1
    cases e
    exact ⟨t, ht, h1, rfl⟩
theorem lenI_small {z : Int} (h : 0 ≤ z ∧ z ≤ 10000) : lenI z ≤ 1 := lenI_lt (by show z.natAbs < 4294967296 ^ 1; omega)
theorem lenI_prod {a b : Int} {j k : Nat} (ha : lenI a ≤ j) (hb : lenI b ≤ k) : lenI (a * b) ≤ j + k := by
  refine lenI_lt ?_
  rw [Int.natAbs_mul, Nat.pow_add]
  exact Nat.mul_lt_mul'' (lenI_mono ha (Nat.le_refl _)) (lenI_mono hb (Nat.le_refl _))
theorem one_pows {w : World} {v e : Int} (hv : inI64 v) (he : inI64 e) (T : TypeId) : Pows (Old (w.alloc (.cells #[.int .i64 v, .int .i64 e] T))) (w.alloc (.cells #[.int .i64 v, .int .i64 e] T)) (.slice (some ⟨w.heap.size, 0, none⟩) 1 1) [(v, e)] := by
  refine ⟨w.heap.size, 0, ⟨_, 1, rfl, Nat.le_refl _, by decide, fun _ => rfl, fun _ => by show w.heap.size < (w.alloc _).heap.size; rw [size_alloc]; omega⟩, fun j x hj => ?_⟩
  have hj2 := lt_of_some hj
  simp only [List.length_cons, List.length_nil] at hj2
  match j, hj with
  | 0, hj =>
    obtain rfl : (v, e) = x := by simpa using hj
    exact ⟨⟨hv, he⟩, cell_new _ _ _ rfl rfl, cell_new _ _ _ rfl rfl⟩
  | j + 1, _ => omega

theorem grown_cell {w w' : World} {row : Option Nat} {b i : Nat} {v : Value} (hg : w.grownBy w' row) (hc : w.cell? ⟨b, i, none⟩ = some v) (hne : some b ≠ row) : w'.cell? ⟨b, i, none⟩ = some v :=
  (World.cell?_of_block (a := ⟨b, i, none⟩) (hg.block b (lt_of_cell hc) hne)).trans hc

set_option maxRecDepth 100000 in
set_option maxHeartbeats 8000000 in
theorem view_derive {S : Nat → Prop} (v : Value) (ts : List RTerm) (x : Int) (w : World) (L : Nat) (h : Terms S w v ts) (hS : ∀ k, S k → k < w.heap.size) (hr : ∀ t ∈ ts, t.c.mag.length ≤ L) (hL : L ≤ 1000000000) (hn : ts.length ≤ 1000000000) (hx : inI64 x) :
    Calls Tryz.prog 32 #[v, .int .i64 x] w fun e w' => ∃ v', e = .returned v' ∧ Terms (New w w') w' v' (ofP (derP (plainP ts) x)) ∧ Ext w w' := by
  obtain ⟨j0, hj, jz0, jz1, jz2⟩ := info_parts Tryz.infoTerm
  have hrs : smallT ts := fun t ht => Nat.le_trans (hr t ht) (by omega)
  have HC := hid (view_plain v ts w h hS hrs)
  have HMP : Hid (∀ t ∈ plainT ts, mayM t.m = true ∧ t.c.mag.length ≤ L ∧ lenI (valI t.c) ≤ L) := hid (by
    unfold plainT
    split
    · rename_i hm
      exact fun t ht => ⟨mayT_mono hm t ht, hr t ht, Nat.le_trans (valI_len (h.okT t ht)) (hr t ht)⟩
    · exact fun t ht => by simp at ht)
  have HLP : Hid ((plainT ts).length ≤ 1000000000) := hid (by unfold plainT; split; exact hn; simp)
  have HPP : Hid (derP (plainP ts) x = normP (toP (derT x (plainT ts)))) := hid (by rw [toP_derT, toP_plainT, normP_of_can (derP_can (plainP_can ts) x)])
  have HXI := hid hx
  obtain ⟨A, c, rfl⟩ := h.form
  rw [HPP.out]
  have HS := hid hS
  clear h hr hn HPP hS hrs
  obtain ⟨ps, hps⟩ : ∃ ps, ps = plainT ts := ⟨_, rfl⟩
  rw [← hps] at HC HMP HLP ⊢
  clear hps
  unfold inI64 at hx
  obtain ⟨hx1, hx2⟩ := hx
  go_enter Tryz.func32, Tryz.ntmps32
  go_wp2_with fail
  with_reducible refine HC.out.mono ?_
  rintro e w1 ⟨v1, rfl, hp1, hx1⟩
  have HX1 := hid hx1
  have HT := hid (hp1.to (S' := Old w1) (Kept.refl _ _) (fun k h => Nat.lt_of_lt_of_le (HS.out k h) hx1.size))
  have hll := hp1.len_le
  obtain ⟨a1, c1, rfl⟩ := hp1.form
  obtain ⟨n, hnn⟩ : ∃ n, n = ps.length := ⟨_, rfl⟩
  rw [← hnn] at HT hll HLP ⊢
  have HN := hid hnn
  clear hp1 hx1 hnn HC
  go_wp2
  go_loopw [5, 15] (fun o i wr => ∃ (k m : Nat) (xs : List Value), k ≤ n ∧ i = .int .i64 k ∧ Ext w1 wr ∧ Hid (m = (derT x (ps.take k)).length) ∧ Hid (wr.ownsRow w1.heap.size 76 3 o m xs) ∧ Hid (CellsT (NewOff w1 wr o) wr xs (derT x (ps.take k)))) (fun _ i _ => n - (intOf i).toNat)
  case atStart => exact ⟨0, 0, [], Nat.zero_le _, rfl, Ext.refl _, rfl, World.ownsRow_nil _ _ _ _, rfl⟩
  case round =>
    obtain ⟨k, m, xs, hk, rfl, hx, HM, HW, HY⟩ := hrel
    have HX := hid hx
    by_cases hlt : k < n
    · obtain ⟨t, ht⟩ := some_of_lt (l := ps) (j := k) (by rw [← HN.out]; exact hlt)
      obtain ⟨b, off, vd, vo, rfl, -, hn1, hm1, hSb, h1, h2, h3, h4, h5⟩ := (HT.out.onS hx (fun _ h => h)).cellAt ht
      have HTK := hid (derT_take (v := x) ht)
      have HMT := hid (HMP.out t (List.mem_of_getElem? ht))
      have hxa : Ext wr (wr.alloc (.cells #[.bool t.c.neg, vd, vo] 76)) := Ext.alloc (Ext.refl wr) _
      have hSw : ∀ k, Old w1 k → k < wr.heap.size := fun k h => Nat.lt_of_lt_of_le h hx.size
      have HCD := hid (mono_degree (S := Old w1) vo t.m x _ (h5.ext hxa hSw) (fun k h => Nat.lt_of_lt_of_le h (hx.trans hxa).size) HXI.out)
      have HCW := hid (fun (W : World) (hW : Ext wr W) => mono_without (S := Old w1) vo t.m x W (h5.ext hW hSw) (fun k h => Nat.lt_of_lt_of_le h (hx.trans hW).size) HXI.out)
      rw [plainM_yes HMT.out.1] at HCD HCW
      have hex := ex_range HMT.out.1 x
      have H4 := hid h4
      have HXA := hid hxa
      obtain ⟨ad, cd, rfl⟩ := h4.form
      obtain ⟨ao, co, rfl⟩ := h5.form
      obtain ⟨ng, hng⟩ : ∃ b, b = t.c.neg := ⟨_, rfl⟩
      obtain ⟨nd, hnd⟩ : ∃ b, b = t.c.mag.length := ⟨_, rfl⟩
      obtain ⟨nm, hnm⟩ : ∃ b, b = t.m.length := ⟨_, rfl⟩
      have HNG := hid hng
      rw [← hnd] at H4
      rw [← hng, ← hnd, ← hnm] at HCD HXA
      rw [← hnm] at HCW
      rw [← hng] at h1
      rw [← hnd] at h2
      rw [← hnm] at h3
      obtain ⟨y, hy⟩ : ∃ y, y = ex t.m x := ⟨_, rfl⟩
      rw [← hy] at HCD hex HTK
      have HYE := hid hy
      have HDE : Hid (decM t.m x = if 1 < y then timesM (withoutM t.m x) [(x, y - 1)] else withoutM t.m x) := hid (by rw [hy]; rfl)
      clear ht h4 h5 hx hxa hng hnd hnm hy hSw
      by_cases hy0 : y = 0
      · have q0 : (y == 0) = true := by rw [beq_iff_eq]; exact hy0
        rw [if_pos hy0, List.append_nil] at HTK
        go_wp2_with fail
        with_reducible refine HCD.out.mono ?_
        rintro e w2 ⟨rfl, hx2⟩
        have HXB := hid (HXA.out.trans hx2)
        clear hx2 hy0
        go_wp2
        go_roundw
        case rel =>
          refine ⟨k + 1, m, xs, by omega, by go_num, HX.out.trans HXB.out, ?_, own_ext HW.out HXB.out, ?_⟩
          · show _ = _; rw [HTK.out]; exact HM.out
          · show CellsT _ _ _ _; rw [HTK.out]; exact newOff_ext HY.out HXB.out
        case measure => simp only [intOf]; omega
      · have q0 : (y == 0) = false := by rw [beq_eq_false_iff_ne]; exact hy0
        rw [if_neg hy0] at HTK
        have HV := hid (ex_pos_var HMT.out.1 (v := x) (by rw [← HYE.out]; omega))
        have HKB : Hid (m ≤ 1000000000) := hid (by
          rw [HM.out]
          have h3 := derT_len x (ps.take k)
          have h4 := HLP.out
          rw [List.length_take] at h3
          omega)
        have HYI : Hid (inI64 y) := hid (by unfold inI64; omega)
        have HYL : Hid (lenI y ≤ 1) := hid (lenI_small (by omega))
        have HNB : Hid (some wr.heap.size ≠ u5.ownBlock) := hid (fun e => by have := (HW.out.lt _ e.symm).2; omega)
        by_cases hy1 : 1 < y
        · have q1 : decide (1 < y) = true := decide_eq_true hy1
          rw [if_pos hy1] at HDE
          go_wp2_with fail
          with_reducible refine HCD.out.mono ?_
          rintro e w2 ⟨rfl, hx2⟩
          have HXB := hid (HXA.out.trans hx2)
          have HXA2 := hid hx2
          have k2 := hx2.new_cell (i := 2) rfl
          clear hx2
          go_wp2_with fail
          with_reducible refine (HCW.out _ HXB.out).mono ?_
          rintro e w3 ⟨v3, rfl, hp3, hx3⟩
          have HX3 := hid hx3
          have HP3 := hid (hp3.to (S' := Old w3) (Kept.refl _ _) New.lt)
          obtain ⟨a3, c3, rfl⟩ := hp3.form
          obtain ⟨n3, hn3⟩ : ∃ n, n = (withoutM t.m x).length := ⟨_, rfl⟩
          rw [← hn3] at HP3 ⊢
          have HCT := hid (mono_times (S := Old (w3.alloc (.cells #[.int .i64 x, .int .i64 (y - 1)] 104))) _ _ (withoutM t.m x) [(x, y - 1)] _ (HP3.out.on (Ext.alloc (Ext.refl w3) _)) (one_pows (w := w3) (v := x) (e := y - 1) HXI.out (by unfold inI64; omega) 104) (fun _ h => h))
          have hmo : mayM [(x, y - 1)] = true := one_may HV.out (by omega)
          have hmd : mayM (timesM (withoutM t.m x) [(x, y - 1)]) = true := by rw [← HDE.out]; exact dec_may HMT.out.1
          have he : errTimes (withoutM t.m x) [(x, y - 1)] = 0 := by unfold errTimes; rw [mayM_without HMT.out.1, hmo, hmd]; rfl
          have hvt : valTimes (withoutM t.m x) [(x, y - 1)] = decM t.m x := by unfold valTimes; rw [mayM_without HMT.out.1, hmo, hmd, HDE.out]; rfl
          rw [he, hvt] at HCT
          clear hp3 hx3 hn3 hmo hmd he hvt k2
          go_wp2_with fail
          with_reducible refine HCT.out.mono ?_
          rintro e wt ⟨v9, rfl, hp9, hx9⟩
          have HXT := hid (HX3.out.trans ((Ext.alloc (Ext.refl w3) _).trans hx9))
          have HXAT := hid (HXA2.out.trans HXT.out)
          have HP9 := hid (hp9.to (S' := New w2 wt) (Kept.refl _ _) (fun k h => ⟨Nat.le_trans (HX3.out.trans (Ext.alloc (Ext.refl w3) _)).size h.1, h.2⟩))
          obtain ⟨a9, c9, rfl⟩ := hp9.form
          obtain ⟨n9, hn9⟩ : ∃ n, n = (decM t.m x).length := ⟨_, rfl⟩
          rw [← hn9] at HP9 ⊢
          clear hp9 hx9 hn9
          have x0 : Ext wt wt.drew := (Ext.refl wt).drew
          have HX0 := hid x0
          have e0 := (HXAT.out.trans x0).new_cell (i := 0) rfl
          have e1 := (HXAT.out.trans x0).new_cell (i := 1) rfl
          have S0 : _ ∧ _ := And.intro e0 e1
          have HS0 := hid S0
          have HB3 : Hid (m + 1 ≤ maxLen) := hid (by have := HKB.out; unfold maxLen; omega)
          have HB4 : Hid ((m + 1) * 56 ≤ 140737488355328) := hid (by have := HKB.out; omega)
          have HWT := hid (own_ext (own_ext HW.out HXB.out) (HXT.out.trans x0))
          have HYT := hid (newOff_ext HY.out (HXB.out.trans (HXT.out.trans x0)))
          have HWB := hid (own_ext HW.out HXB.out)
          have HXWT := hid (HX.out.trans (HXB.out.trans (HXT.out.trans x0)))
          have HXRT := hid (HXB.out.trans (HXT.out.trans x0))
          have C10 := hid (fun W : World => whole_of y W HYI.out)
          have hlt24 : lenI (valI (ofI y)) < 24 := by rw [valI_ofI]; exact Nat.lt_of_le_of_lt HYL.out (by decide)
          have C11 := hid (fun (W : World) (v : Value) (hW : Ext wt.drew W) (hv : IntV (Old W) W v (ofI y)) => whole_mul (S := Old W) (.agg #[.bool ng, .slice ad nd cd]) v t.c (ofI y) W ⟨_, by rw [HNG.out], (H4.out.ext (HXRT.out.trans hW) (fun k h => Nat.lt_of_lt_of_le h HX.out.size)).to (Kept.refl _ _) (fun k h => Nat.lt_of_lt_of_le h (HXWT.out.trans hW).size)⟩ hv (fun _ h => h) (Nat.le_trans HMT.out.2.1 (by omega)) (by rw [ofI_len]; exact Nat.le_trans HYL.out (by decide)) (.inr hlt24))
          rw [valI_ofI] at C11
          clear e0 e1 x0 hlt24
          go_wp2
          first
            | go_region_held3 (fun Y => Y.cell? ⟨wr.heap.size, 0, none⟩ = some (.bool ng) ∧ Y.cell? ⟨wr.heap.size, 1, none⟩ = some (.slice ad nd cd)) (first | exact S0 | exact S1 | exact S2 | exact ⟨cell_old _ S2.1, cell_old _ S2.2⟩ | exact S5)
                (first
              | (go_at_call 76; refine (C10.out _).mono ?_
                 rintro e u1 ⟨v10, rfl, ⟨vm10, rfl, hu10⟩, hx10⟩; have S1 := And.intro (hx10.cell HS0.out.1) (hx10.cell HS0.out.2); have HX10 := hid hx10; have HU10 : Hid (IntV (Old u1) u1 (.agg #[.bool (ofI y).neg, vm10]) (ofI y)) := hid ⟨_, rfl, hu10.to (Kept.refl _ _) New.lt⟩; have C12 := hid (C11.out u1 _ hx10 HU10.out); have qf := hu10.form; obtain ⟨a10, c10, rfl⟩ := qf; have HS1 := hid S1; clear hx10 hu10)
              | (go_at_call 75; refine C12.out.mono ?_
                 rintro e u2 ⟨v11, rfl, ⟨vm11, rfl, hu11⟩, hx11⟩; have S2 := And.intro (hx11.cell HS1.out.1) (hx11.cell HS1.out.2); have HS2 := hid S2; have HS2 := hid S2; have HX11 := hid (HX10.out.trans hx11); have HU11 := hid (hu11.to (S' := New w2 u2) (Kept.refl _ _) (fun k h => ⟨Nat.le_trans (HXT.out.trans (HX0.out.trans HX10.out)).size h.1, h.2⟩)); have qf := hu11.form; obtain ⟨a11, c11, rfl⟩ := qf; obtain ⟨n11, hn11⟩ : ∃ n, n = (ofI (valI t.c * y)).mag.length := ⟨_, rfl⟩; obtain ⟨b11, hb11⟩ : ∃ n, n = (ofI (valI t.c * y)).neg := ⟨_, rfl⟩; rw [← hn11, ← hb11]; rw [← hn11] at HU11; have HB11 := hid hb11; have HXT2 := hid (HXT.out.trans (HX0.out.trans HX11.out)); have HSRC3 := hid (src_one u2 #[.bool b11, .slice a11 n11 c11, .slice a9 n9 c9] 76 (three_cell rfl rfl rfl) rfl); have HW3 := hid (own_ext (own_ext HWT.out HX11.out) (Ext.alloc (Ext.refl u2) (.cells #[.bool b11, .slice a11 n11 c11, .slice a9 n9 c9] 76))); have HB5 := hid (Nat.le_trans (HXWT.out.trans HX11.out).size (World.grownBy_alloc u2 (.cells #[.bool b11, .slice a11 n11 c11, .slice a9 n9 c9] 76) none).size); clear hx11 hu11 hn11 hb11)
              | (refine step_append_src rfl (.tmp 41) (.tmp 49) 25 rfl w1.heap.size 76 j0 (.agg #[.bool false, .slice none 0 0, .slice none 0 0]) 3 56 Tryz.underlying25 hj jz0 jz1 jz2 rfl (Nat.succ_pos _) _ m xs rfl HW3.out (some ⟨u2.heap.size, 0, none⟩) 1 1 _ rfl HSRC3.out HB3.out HB4.out HB5.out ?_; intro v5 w5 hown hg hbk; have HW5 := hid hown; have HG5 := hid hg; have HBK := hid hbk; have HX5 := hid (own_grown0 ((HXWT.out.trans HX11.out).alloc (.cells #[.bool b11, .slice a11 n11 c11, .slice a9 n9 c9] 76)) HW3.out hg); have S5 := And.intro (grown_cell hg (cell_old _ HS2.out.1) HNB.out) (grown_cell hg (cell_old _ HS2.out.2) HNB.out); clear hown hg hbk))
            | fail
          all_goals
            go_wp2
            go_roundw
            case rel =>
              refine ⟨k + 1, m + 1, xs ++ (#[.bool b11, .slice a11 n11 c11, .slice a9 n9 c9] : Array Value).toList, by omega, by go_num, HX5.out, ?_, HW5.out, ?_⟩
              · show _ = _; rw [HTK.out, List.length_append, ← HM.out]; rfl
              · show CellsT _ _ _ _
                rw [HTK.out]
                have hone : CellsT (New w2 u2) u2 [.bool b11, .slice a11 n11 c11, .slice a9 n9 c9] [⟨ofI (valI t.c * y), decM t.m x⟩] := by
                  rw [HB11.out]
                  exact CellsT.single (t := ⟨ofI (valI t.c * y), decM t.m x⟩) HU11.out (HP9.out.to (Kept.ext (HX0.out.trans HX11.out) (fun _ h => h.2)) (fun k h => ⟨h.1, Nat.lt_of_lt_of_le h.2 (HX0.out.trans HX11.out).size⟩))
                have hall := (newOff_ext HYT.out HX11.out).append (newOff_of (HX.out.trans HXB.out).size HWB.out hone)
                exact newOff_grown (newOff_ext hall (Ext.alloc (Ext.refl u2) (.cells #[.bool b11, .slice a11 n11 c11, .slice a9 n9 c9] 76))) HG5.out HBK.out (Nat.le_refl _)
            case measure => simp only [intOf]; omega
        · have q1 : decide (1 < y) = false := decide_eq_false hy1
          rw [if_neg hy1] at HDE
          go_wp2_with fail
          with_reducible refine HCD.out.mono ?_
          rintro e w2 ⟨rfl, hx2⟩
          have HXB := hid (HXA.out.trans hx2)
          have HXA2 := hid hx2
          have k2 := hx2.new_cell (i := 2) rfl
          clear hx2
          go_wp2_with fail
          with_reducible refine (HCW.out _ HXB.out).mono ?_
          rintro e wt ⟨v9, rfl, hp9, hx9⟩
          have HXT := hid hx9
          have HXAT := hid (HXA2.out.trans hx9)
          rw [← HDE.out] at hp9
          have HP9 := hid hp9
          obtain ⟨a9, c9, rfl⟩ := hp9.form
          obtain ⟨n9, hn9⟩ : ∃ n, n = (decM t.m x).length := ⟨_, rfl⟩
          rw [← hn9] at HP9 ⊢
          clear hp9 hx9 hn9 k2
          have x0 : Ext wt wt.drew := (Ext.refl wt).drew
          have HX0 := hid x0
          have e0 := (HXAT.out.trans x0).new_cell (i := 0) rfl
          have e1 := (HXAT.out.trans x0).new_cell (i := 1) rfl
          have S0 : _ ∧ _ := And.intro e0 e1
          have HS0 := hid S0
          have HB3 : Hid (m + 1 ≤ maxLen) := hid (by have := HKB.out; unfold maxLen; omega)
          have HB4 : Hid ((m + 1) * 56 ≤ 140737488355328) := hid (by have := HKB.out; omega)
          have HWT := hid (own_ext (own_ext HW.out HXB.out) (HXT.out.trans x0))
          have HYT := hid (newOff_ext HY.out (HXB.out.trans (HXT.out.trans x0)))
          have HWB := hid (own_ext HW.out HXB.out)
          have HXWT := hid (HX.out.trans (HXB.out.trans (HXT.out.trans x0)))
          have HXRT := hid (HXB.out.trans (HXT.out.trans x0))
          have C10 := hid (fun W : World => whole_of y W HYI.out)
          have hlt24 : lenI (valI (ofI y)) < 24 := by rw [valI_ofI]; exact Nat.lt_of_le_of_lt HYL.out (by decide)
          have C11 := hid (fun (W : World) (v : Value) (hW : Ext wt.drew W) (hv : IntV (Old W) W v (ofI y)) => whole_mul (S := Old W) (.agg #[.bool ng, .slice ad nd cd]) v t.c (ofI y) W ⟨_, by rw [HNG.out], (H4.out.ext (HXRT.out.trans hW) (fun k h => Nat.lt_of_lt_of_le h HX.out.size)).to (Kept.refl _ _) (fun k h => Nat.lt_of_lt_of_le h (HXWT.out.trans hW).size)⟩ hv (fun _ h => h) (Nat.le_trans HMT.out.2.1 (by omega)) (by rw [ofI_len]; exact Nat.le_trans HYL.out (by decide)) (.inr hlt24))
          rw [valI_ofI] at C11
          clear e0 e1 x0 hlt24
          go_wp2
          first
            | go_region_held3 (fun Y => Y.cell? ⟨wr.heap.size, 0, none⟩ = some (.bool ng) ∧ Y.cell? ⟨wr.heap.size, 1, none⟩ = some (.slice ad nd cd)) (first | exact S0 | exact S1 | exact S2 | exact ⟨cell_old _ S2.1, cell_old _ S2.2⟩ | exact S5)
                (first
              | (go_at_call 76; refine (C10.out _).mono ?_
                 rintro e u1 ⟨v10, rfl, ⟨vm10, rfl, hu10⟩, hx10⟩; have S1 := And.intro (hx10.cell HS0.out.1) (hx10.cell HS0.out.2); have HX10 := hid hx10; have HU10 : Hid (IntV (Old u1) u1 (.agg #[.bool (ofI y).neg, vm10]) (ofI y)) := hid ⟨_, rfl, hu10.to (Kept.refl _ _) New.lt⟩; have C12 := hid (C11.out u1 _ hx10 HU10.out); have qf := hu10.form; obtain ⟨a10, c10, rfl⟩ := qf; have HS1 := hid S1; clear hx10 hu10)
              | (go_at_call 75; refine C12.out.mono ?_
                 rintro e u2 ⟨v11, rfl, ⟨vm11, rfl, hu11⟩, hx11⟩; have S2 := And.intro (hx11.cell HS1.out.1) (hx11.cell HS1.out.2); have HS2 := hid S2; have HS2 := hid S2; have HX11 := hid (HX10.out.trans hx11); have HU11 := hid (hu11.to (S' := New w2 u2) (Kept.refl _ _) (fun k h => ⟨Nat.le_trans (HXT.out.trans (HX0.out.trans HX10.out)).size h.1, h.2⟩)); have qf := hu11.form; obtain ⟨a11, c11, rfl⟩ := qf; obtain ⟨n11, hn11⟩ : ∃ n, n = (ofI (valI t.c * y)).mag.length := ⟨_, rfl⟩; obtain ⟨b11, hb11⟩ : ∃ n, n = (ofI (valI t.c * y)).neg := ⟨_, rfl⟩; rw [← hn11, ← hb11]; rw [← hn11] at HU11; have HB11 := hid hb11; have HXT2 := hid (HXT.out.trans (HX0.out.trans HX11.out)); have HSRC3 := hid (src_one u2 #[.bool b11, .slice a11 n11 c11, .slice a9 n9 c9] 76 (three_cell rfl rfl rfl) rfl); have HW3 := hid (own_ext (own_ext HWT.out HX11.out) (Ext.alloc (Ext.refl u2) (.cells #[.bool b11, .slice a11 n11 c11, .slice a9 n9 c9] 76))); have HB5 := hid (Nat.le_trans (HXWT.out.trans HX11.out).size (World.grownBy_alloc u2 (.cells #[.bool b11, .slice a11 n11 c11, .slice a9 n9 c9] 76) none).size); clear hx11 hu11 hn11 hb11)
              | (refine step_append_src rfl (.tmp 41) (.tmp 49) 25 rfl w1.heap.size 76 j0 (.agg #[.bool false, .slice none 0 0, .slice none 0 0]) 3 56 Tryz.underlying25 hj jz0 jz1 jz2 rfl (Nat.succ_pos _) _ m xs rfl HW3.out (some ⟨u2.heap.size, 0, none⟩) 1 1 _ rfl HSRC3.out HB3.out HB4.out HB5.out ?_; intro v5 w5 hown hg hbk; have HW5 := hid hown; have HG5 := hid hg; have HBK := hid hbk; have HX5 := hid (own_grown0 ((HXWT.out.trans HX11.out).alloc (.cells #[.bool b11, .slice a11 n11 c11, .slice a9 n9 c9] 76)) HW3.out hg); have S5 := And.intro (grown_cell hg (cell_old _ HS2.out.1) HNB.out) (grown_cell hg (cell_old _ HS2.out.2) HNB.out); clear hown hg hbk))
            | fail
          all_goals
            go_wp2
            go_roundw
            case rel =>
              refine ⟨k + 1, m + 1, xs ++ (#[.bool b11, .slice a11 n11 c11, .slice a9 n9 c9] : Array Value).toList, by omega, by go_num, HX5.out, ?_, HW5.out, ?_⟩
              · show _ = _; rw [HTK.out, List.length_append, ← HM.out]; rfl
              · show CellsT _ _ _ _
                rw [HTK.out]
                have hone : CellsT (New w2 u2) u2 [.bool b11, .slice a11 n11 c11, .slice a9 n9 c9] [⟨ofI (valI t.c * y), decM t.m x⟩] := by
                  rw [HB11.out]
                  exact CellsT.single (t := ⟨ofI (valI t.c * y), decM t.m x⟩) HU11.out (HP9.out.to (Kept.ext (HX0.out.trans HX11.out) (fun _ h => h.2)) (fun k h => ⟨h.1, Nat.lt_of_lt_of_le h.2 (HX0.out.trans HX11.out).size⟩))
                have hall := (newOff_ext HYT.out HX11.out).append (newOff_of (HX.out.trans HXB.out).size HWB.out hone)
                exact newOff_grown (newOff_ext hall (Ext.alloc (Ext.refl u2) (.cells #[.bool b11, .slice a11 n11 c11, .slice a9 n9 c9] 76))) HG5.out HBK.out (Nat.le_refl _)
            case measure => simp only [intOf]; omega
    · obtain rfl : n = k := by omega
      have hcells : CellsT (NewOff w1 wr u5) wr xs (derT x ps) := by
        have := HY.out
        rwa [List.take_of_length_le (by rw [← HN.out]; exact Nat.le_refl _)] at this
      have hm : m = (derT x ps).length := by
        have := HM.out
        rwa [List.take_of_length_le (by rw [← HN.out]; exact Nat.le_refl _)] at this
      have ho := own_terms (S := Old wr) (by rw [← hm]; exact HW.out) (hcells.to (Kept.refl _ _) (fun _ h => h.1.2)) (fun k h1 h2 => h2)
      have HCO := hid (poly_of u5 (derT x ps) wr (L + 1) ho (fun _ h => h) (fun u hu => by
        obtain ⟨t, ht, h1, rfl⟩ := derT_mem hu
        rw [ofI_len]
        exact lenI_prod (HMP.out t ht).2.2 (lenI_small (ex_range (HMP.out t ht).1 x))) (by omega) (by have := derT_len x ps; have := HLP.out; have := HN.out; omega) (List.all_eq_true.2 (fun u hu => by
          obtain ⟨t, ht, h1, rfl⟩ := derT_mem hu
          exact dec_may (HMP.out t ht).1)))
      clear hx hcells hm ho
      go_wp2_with fail
      with_reducible refine HCO.out.mono ?_
      rintro e w2 ⟨v2, rfl, hp2, hx2⟩
      have HP2 := hid (hp2.to (S' := New w w2) (Kept.refl _ _) (fun k h => ⟨Nat.le_trans (HX1.out.trans HX.out).size h.1, h.2⟩))
      have HX2 := hid ((HX1.out.trans HX.out).trans hx2)
      clear hp2 hx2
      go_wp2
      all_goals
        go_ret
        exact ⟨_, rfl, HP2.out, HX2.out⟩
end Go.Proofs.YthplgldclilccaaGreat

namespace Go.Proofs.YthplgldclilccaaGreat
open Go.RowKit

theorem clsP_take {p : PZ} {k : Nat} {t : Int × Mono} (h : p[k]? = some t) : clsP (p.take (k + 1)) = max (clsP (p.take k)) (classM t.2) := by
  rw [List.take_add_one, h]
  unfold clsP
  simp [List.foldl_append]
theorem clsP_range {p : PZ} (h : mayAll p) : 0 ≤ clsP p ∧ clsP p ≤ 200 :=
  ⟨foldl_max_le (fun t : Int × Mono => classM t.2) p 0, foldl_max_ub (fun t : Int × Mono => classM t.2) p 0 200 (by omega) (fun t ht => (class_range (h t ht)).2)⟩
theorem RTs.cell2 {w : World} {a : Option Addr} {n cap k : Nat} {p : PZ} {t : Int × Mono} (h : RTs (Old w) w (.slice a n cap) p) (ht : p[k]? = some t) :
    ∃ b off ao co, a = some ⟨b, off, none⟩ ∧ n ≤ cap ∧ cap ≤ 9223372036854775807 ∧ w.cell? ⟨b, off + k * 3 + 2, none⟩ = some (.slice ao t.2.length co) ∧ Pows (Old w) w (.slice ao t.2.length co) t.2 := by
  obtain ⟨b, off, vd, vo, rfl, -, hn1, hm1, hSb, h1, h2, h3, h4, h5⟩ := h.cellAt ht
  obtain ⟨ao, co, rfl⟩ := h5.form
  exact ⟨b, off, ao, co, rfl, hn1, hm1, h3, h5⟩

set_option maxRecDepth 100000 in
set_option maxHeartbeats 4000000 in
theorem rview_class (v : Value) (p : PZ) (w : World) (h : RTs (Old w) w v p) (hmay : mayAll p) :
    Calls Tryz.prog 25 #[v] w fun e w' => e = .returned (.int .i64 (clsP p)) ∧ Ext w w' := by
  have H := hid h
  have HM := hid hmay
  have hl := h.len_le
  obtain ⟨a, cap, rfl⟩ := h.form
  clear h hmay
  go_enter Tryz.func25, Tryz.ntmps25
  go_wp2
  go_loopw [3, 4] (fun d i wr => ∃ k : Nat, k ≤ p.length ∧ i = .int .i64 k ∧ d = .int .i64 (clsP (p.take k)) ∧ Ext w wr) (fun _ i _ => p.length - (intOf i).toNat)
  case atStart => exact ⟨0, Nat.zero_le _, rfl, rfl, Ext.refl _⟩
  case round =>
    obtain ⟨k, hk, rfl, rfl, hx⟩ := hrel
    have HX := hid hx
    obtain ⟨hd1, hd2⟩ := clsP_range (mayAll_take HM.out k)
    by_cases hlt : k < p.length
    · obtain ⟨t, ht⟩ := some_of_lt hlt
      obtain ⟨b, off, ao, co, rfl, hn1, hm1, h3, h5⟩ := H.out.cell2 ht
      have hmm := HM.out t (List.mem_of_getElem? ht)
      have HS := hid (clsP_take ht)
      obtain ⟨he1, he2⟩ := class_range hmm
      have g3 := Ext.cell hx h3
      have H5 := hid h5
      have C := fun (W : World) (hW : Ext w W) => rmono_class (S := Old w) _ t.2 W (H5.out.ext hW (fun _ h => h)) (lt_ext (fun _ h => h) hW)
      rw [plainM_yes hmm] at C
      have HC := hid C
      clear h3 h5 hx ht C hmm
      generalize clsP (p.take k) = d at *
      generalize classM t.2 = q at *
      go_wp2_with fail
      refine (HC.out wr HX.out).mono ?_
      rintro e w1 ⟨rfl, hx1⟩
      have k3 := hx1.cell g3
      have HX1 := hid (HX.out.trans hx1)
      clear hx1 g3
      by_cases hgt : d < q
      · go_wp2_with fail
        refine (HC.out w1 HX1.out).mono ?_
        rintro e w2 ⟨rfl, hx2⟩
        have HX2 := hid (HX1.out.trans hx2)
        clear hx2
        go_wp2
        go_roundw
        case rel => exact ⟨k + 1, by omega, by go_num, by rw [HS.out]; exact congrArg (Value.int .i64) (by omega), HX2.out⟩
        case measure => simp only [intOf]; omega
      · go_wp2
        go_roundw
        case rel => exact ⟨k + 1, by omega, by go_num, by rw [HS.out]; exact congrArg (Value.int .i64) (by omega), HX1.out⟩
        case measure => simp only [intOf]; omega
    · obtain rfl : k = p.length := by omega
      have HE : Hid (clsP (p.take p.length) = clsP p) := hid (by rw [List.take_length])
      clear hx
      go_wp2
      all_goals
        go_ret
        exact ⟨by rw [HE.out]; rfl, HX.out⟩

set_option maxRecDepth 100000 in
set_option maxHeartbeats 4000000 in
theorem rview_degree (v : Value) (p : PZ) (x : Int) (w : World) (h : RTs (Old w) w v p) (hmay : mayAll p) (hxb : -9223372036854775808 ≤ x ∧ x ≤ 9223372036854775807) :
    Calls Tryz.prog 23 #[v, .int .i64 x] w fun e w' => e = .returned (.int .i64 (degP p x)) ∧ Ext w w' := by
  have H := hid h
  have HM := hid hmay
  have HXB := hid hxb
  have hl := h.len_le
  obtain ⟨a, cap, rfl⟩ := h.form
  clear h hmay hxb
  go_enter Tryz.func23, Tryz.ntmps23
  go_wp2
  go_loopw [5, 6] (fun d i wr => ∃ k : Nat, k ≤ p.length ∧ i = .int .i64 k ∧ d = .int .i64 (degP (p.take k) x) ∧ Ext w wr) (fun _ i _ => p.length - (intOf i).toNat)
  case atStart => exact ⟨0, Nat.zero_le _, rfl, rfl, Ext.refl _⟩
  case round =>
    obtain ⟨k, hk, rfl, rfl, hx⟩ := hrel
    have HX := hid hx
    obtain ⟨hd1, hd2⟩ := degP_range (mayAll_take HM.out k) x
    by_cases hlt : k < p.length
    · obtain ⟨t, ht⟩ := some_of_lt hlt
      obtain ⟨b, off, ao, co, rfl, hn1, hm1, h3, h5⟩ := H.out.cell2 ht
      have hmm := HM.out t (List.mem_of_getElem? ht)
      have HS := hid (degP_take ht x)
      obtain ⟨he1, he2⟩ := ex_range hmm x
      have g3 := Ext.cell hx h3
      have H5 := hid h5
      have C := fun (W : World) (hW : Ext w W) => rmono_degree (S := Old w) _ t.2 x W (H5.out.ext hW (fun _ h => h)) (lt_ext (fun _ h => h) hW) HXB.out
      rw [plainM_yes hmm] at C
      have HC := hid C
      clear h3 h5 hx ht C hmm
      generalize degP (p.take k) x = d at *
      generalize ex t.2 x = q at *
      go_wp2_with fail
      refine (HC.out wr HX.out).mono ?_
      rintro e w1 ⟨rfl, hx1⟩
      have k3 := hx1.cell g3
      have HX1 := hid (HX.out.trans hx1)
      clear hx1 g3
      by_cases hgt : d < q
      · go_wp2_with fail
        refine (HC.out w1 HX1.out).mono ?_
        rintro e w2 ⟨rfl, hx2⟩
        have HX2 := hid (HX1.out.trans hx2)
        clear hx2
        go_wp2
        go_roundw
        case rel => exact ⟨k + 1, by omega, by go_num, by rw [HS.out]; exact congrArg (Value.int .i64) (by omega), HX2.out⟩
        case measure => simp only [intOf]; omega
      · go_wp2
        go_roundw
        case rel => exact ⟨k + 1, by omega, by go_num, by rw [HS.out]; exact congrArg (Value.int .i64) (by omega), HX1.out⟩
        case measure => simp only [intOf]; omega
    · obtain rfl : k = p.length := by omega
      have HE : Hid (degP (p.take p.length) x = degP p x) := hid (by rw [List.take_length])
      clear hx
      go_wp2
      all_goals
        go_ret
        exact ⟨by rw [HE.out]; rfl, HX.out⟩

theorem leadP_zero {p : PZ} (h : canP p) (h0 : leadP p = 0) : degP p (leadP p) = 0 := by rw [h0]; exact degP_zero h.may (by omega)

set_option maxRecDepth 100000 in
set_option maxHeartbeats 4000000 in
theorem rrank_of (v : Value) (p : PZ) (w : World) (h : RTs (Old w) w v p) (hcan : canP p) :
    Calls Tryz.prog 52 #[v] w fun e w' => e = .returned (RankV (rankP p)) ∧ Ext w w' := by
  have HK := hid (Ext.alloc (Ext.refl w) (.cells #[.int .i64 0, .int .i64 0] 68))
  have H := hid (RTs.on h HK.out)
  have HC := hid hcan
  have hcl := rview_class _ p _ H.out hcan.may
  rw [clsP_lead hcan] at hcl
  have HCL := hid hcl
  have hDeg := fun (W : World) (hW : Ext (w.alloc (.cells #[.int .i64 0, .int .i64 0] 68)) W) => rview_degree v p (leadP p) W (RTs.on H.out hW) hcan.may (by have := leadP_range hcan; omega)
  have HDEG := hid hDeg
  have HZ := hid (leadP_zero hcan)
  have er : rankP p = (leadP p, degP p (leadP p)) := rfl
  obtain ⟨hl1, hl2⟩ := leadP_range hcan
  obtain ⟨a, cap, rfl⟩ := h.form
  rw [er]
  clear h hcan hcl hDeg er
  generalize leadP p = c at *
  generalize degP p c = d at *
  go_enter Tryz.func52, Tryz.ntmps52
  go_wp2_with fail
  refine HCL.out.mono ?_
  rintro e w1 ⟨rfl, hx1⟩
  have HX1 := hid hx1
  by_cases hc : c = 0
  · subst hc
    have hd0 : d = 0 := HZ.out rfl
    subst hd0
    obtain ⟨c0, c1, f0, f1⟩ := new2 hx1
    have HE := hid (And.intro c0 c1)
    clear hx1
    go_wp2
    have hd := fun x y => two_set x y HE.out.1 HE.out.2
    refine bodyPost_ret (by simp [results, Tryz.results52, go_sem, (hd _ _).1, (hd _ _).2]; rfl) rfl ?_
    exact ⟨rfl, (HK.out.trans HX1.out).set2 (Nat.le_refl _) _ _⟩
  · have hb : (c == 0) = false := by rw [beq_eq_false_iff_ne]; exact hc
    clear hx1
    go_wp2_with fail
    refine (HDEG.out w1 HX1.out).mono ?_
    rintro e w2 ⟨rfl, hx2⟩
    obtain ⟨c0, c1, f0, f1⟩ := new2 (HX1.out.trans hx2)
    have HE := hid (And.intro c0 c1)
    have HX2 := hid (HX1.out.trans hx2)
    clear hx2
    go_wp2
    have hd := fun x y => two_set x y HE.out.1 HE.out.2
    refine bodyPost_ret (by simp [results, Tryz.results52, go_sem, (hd _ _).1, (hd _ _).2]; rfl) rfl ?_
    exact ⟨rfl, (HK.out.trans HX2.out).set2 (Nat.le_refl _) _ _⟩
end Go.Proofs.YthplgldclilccaaGreat

namespace Go.Proofs.YthplgldclilccaaGreat
open Go.RowKit

set_option maxRecDepth 100000 in
set_option maxHeartbeats 4000000 in
theorem rrank_less (a b : Int × Int) (w : World) (ha : inRank a) (hb : inRank b) :
    Calls Tryz.prog 51 #[RankV a, RankV b] w fun e w' => e = .returned (.bool (lessR a b)) ∧ Ext w w' := by
  obtain ⟨a1, a2⟩ := a
  obtain ⟨b1, b2⟩ := b
  unfold RankV
  simp only
  have HK := hid (Ext.alloc (Ext.alloc (Ext.refl w) (.cells #[.int .i64 a1, .int .i64 a2] 68)) (.cells #[.int .i64 b1, .int .i64 b2] 68))
  have ia1 : -9223372036854775808 ≤ a1 ∧ a1 ≤ 9223372036854775807 := ha.1
  have ia2 : -9223372036854775808 ≤ a2 ∧ a2 ≤ 9223372036854775807 := ha.2
  have ib1 : -9223372036854775808 ≤ b1 ∧ b1 ≤ 9223372036854775807 := hb.1
  have ib2 : -9223372036854775808 ≤ b2 ∧ b2 ≤ 9223372036854775807 := hb.2
  clear ha hb
  rcases Int.lt_trichotomy a1 b1 with h | h | h
  · have HF : Hid (lessR (a1, a2) (b1, b2) = true) := hid (decide_eq_true (.inl h))
    have hb1 : decide (a1 < b1) = true := decide_eq_true h
    go_enter Tryz.func51, Tryz.ntmps51
    go_wp2
    all_goals
      go_ret
      exact ⟨by rw [HF.out]; rfl, HK.out⟩
  · subst h
    by_cases h2 : a2 < b2
    · have HF : Hid (lessR (a1, a2) (a1, b2) = true) := hid (decide_eq_true (.inr ⟨rfl, h2⟩))
      go_enter Tryz.func51, Tryz.ntmps51
      go_wp2
      all_goals
        go_ret
        exact ⟨by rw [HF.out]; rfl, HK.out⟩
    · have HF : Hid (lessR (a1, a2) (a1, b2) = false) := hid (decide_eq_false (by
        rintro (e | ⟨e, e2⟩)
        · have e' : a1 < a1 := e
          omega
        · exact h2 e2))
      go_enter Tryz.func51, Tryz.ntmps51
      go_wp2
      all_goals
        go_ret
        exact ⟨by rw [HF.out]; rfl, HK.out⟩
  · have HF : Hid (lessR (a1, a2) (b1, b2) = false) := hid (decide_eq_false (by
      rintro (e | ⟨e, e2⟩)
      · have e' : a1 < b1 := e
        omega
      · have e' : a1 = b1 := e
        omega))
    have hb1 : (a1 == b1) = false := by rw [beq_eq_false_iff_ne]; omega
    go_enter Tryz.func51, Tryz.ntmps51
    go_wp2
    all_goals
      go_ret
      exact ⟨by rw [HF.out]; show Ending.returned (.bool (decide (a1 < b1))) = _; rw [decide_eq_false (by omega)], HK.out⟩

/-- slices of polynomials of the document -/
def RPs (S : Nat → Prop) (w : World) (v : Value) (l : List PZ) : Prop :=
  ∃ b off, SliceAt S v l.length b off ∧ ∀ j p, l[j]? = some p → ∃ vp, w.cell? ⟨b, off + j, none⟩ = some vp ∧ RTs S w vp p
section
variable {S S' : Nat → Prop} {w w' : World} {v : Value} {l : List PZ}
theorem RPs.to (h : RPs S w v l) (hk : Kept S w w') (hS : ∀ k, S k → S' k) : RPs S' w' v l := by
  obtain ⟨b, off, hs, hc⟩ := h
  refine ⟨b, off, hs.mono hS, fun j p hj => ?_⟩
  obtain ⟨vp, h1, h2⟩ := hc j p hj
  exact ⟨vp, hk.cell (hs.in (lt_of_some hj)) h1, h2.to hk hS⟩
theorem RPs.form (h : RPs S w v l) : ∃ a cap, v = .slice a l.length cap := by
  obtain ⟨b, off, ⟨a, cap, h1, _⟩, _⟩ := h
  exact ⟨a, cap, h1⟩
theorem RPs.len_le (h : RPs S w v l) : l.length ≤ 9223372036854775807 := by
  obtain ⟨b, off, ⟨a, cap, h1, h2, h3, _⟩, _⟩ := h
  unfold maxLen at h3
  omega
theorem RPs.cellAt {a : Option Addr} {n cap k : Nat} {p : PZ} (h : RPs S w (.slice a n cap) l) (ht : l[k]? = some p) :
    ∃ b off vp, a = some ⟨b, off, none⟩ ∧ n = l.length ∧ n ≤ cap ∧ cap ≤ 9223372036854775807 ∧ S b ∧ w.cell? ⟨b, off + k, none⟩ = some vp ∧ RTs S w vp p := by
  obtain ⟨b, off, ⟨a', cap', h1, h2, h3, h4, h5⟩, hc⟩ := h
  obtain ⟨rfl, rfl, rfl⟩ : a = a' ∧ n = l.length ∧ cap = cap' := by simpa using h1
  have hp : 0 < l.length := by have := lt_of_some ht; omega
  obtain ⟨vp, g1, g2⟩ := hc k p ht
  exact ⟨b, off, vp, h4 hp, rfl, h2, h3, h5 hp, g1, g2⟩
end
theorem RPs.on {w W : World} {v : Value} {l : List PZ} (h : RPs (Old w) w v l) (hx : Ext w W) : RPs (Old W) W v l := h.to (Kept.ext hx (fun _ h => h)) (old_lt hx)

end Go.Proofs.YthplgldclilccaaGreat

namespace Go.Proofs.YthplgldclilccaaGreat
open Go.RowKit

def bigTerm (t : RTerm) : Bool := decide (20 < t.c.mag.length) || decide (12 < t.m.length)
def greatT (n : Int) (ts : List RTerm) : Bool := ts.any bigTerm || decide (n < (ts.length : Int))

set_option maxRecDepth 100000 in
set_option maxHeartbeats 4000000 in
theorem rpoly_great {S : Nat → Prop} (v : Value) (ts : List RTerm) (n : Int) (w : World) (h : Terms S w v ts) (_hS : ∀ k, S k → k < w.heap.size) (hn : -9223372036854775808 ≤ n ∧ n ≤ 9223372036854775807) :
    Calls Tryz.prog 18 #[v, .int .i64 n] w fun e w' => e = .returned (.bool (greatT n ts)) ∧ Ext w w' := by
  have H := hid h
  have hl := h.len_le
  obtain ⟨hn1, hn2⟩ := hn
  obtain ⟨a, cap, rfl⟩ := h.form
  clear h
  go_enter Tryz.func18, Tryz.ntmps18
  go_wp2
  go_loopw [5] (fun i wr => ∃ k : Nat, k ≤ ts.length ∧ i = .int .i64 k ∧ Ext w wr ∧ Hid ((ts.take k).any bigTerm = false)) (fun i _ => ts.length - (intOf i).toNat)
  case atStart => exact ⟨0, Nat.zero_le _, rfl, Ext.refl _, hid rfl⟩
  case round =>
    obtain ⟨k, hk, rfl, hx, HM⟩ := hrel
    have HX := hid hx
    by_cases hlt : k < ts.length
    · obtain ⟨t, ht⟩ := some_of_lt hlt
      obtain ⟨b, off, vm, vo, rfl, -, hq1, hm1, hSb, h1, h2, h3, h4, h5⟩ := H.out.cellAt ht
      have HT : Hid (ts.take (k + 1) = ts.take k ++ [t]) := hid (by rw [List.take_add_one, ht]; rfl)
      have HQ := hid (List.mem_of_getElem? ht)
      have hl1 := h4.len_le
      have hl2 := h5.len_le
      have HBT : Hid (bigTerm t = (decide (20 < t.c.mag.length) || decide (12 < t.m.length))) := hid rfl
      have g1 := Ext.cell hx h1
      have g2 := Ext.cell hx h2
      have g3 := Ext.cell hx h3
      obtain ⟨am, cm, rfl⟩ := h4.form
      obtain ⟨ao, co, rfl⟩ := h5.form
      generalize t.c.mag.length = x at *
      generalize t.m.length = y at *
      clear hx ht h1 h2 h3 h4 h5
      by_cases hbig : 20 < x
      · have HF : Hid (greatT n ts = true) := hid (by
          unfold greatT
          rw [List.any_eq_true.2 ⟨t, HQ.out, by rw [HBT.out, decide_eq_true hbig]; rfl⟩]
          rfl)
        go_wp2
        all_goals
          go_ret
          exact ⟨by rw [HF.out]; rfl, HX.out⟩
      · by_cases hbig2 : 12 < y
        · have HF : Hid (greatT n ts = true) := hid (by
            unfold greatT
            rw [List.any_eq_true.2 ⟨t, HQ.out, by rw [HBT.out, decide_eq_true hbig2, Bool.or_true]⟩]
            rfl)
          go_wp2
          all_goals
            go_ret
            exact ⟨by rw [HF.out]; rfl, HX.out⟩
        · go_wp2
          go_roundw
          case rel => exact ⟨k + 1, by omega, by go_num, HX.out, hid (by rw [HT.out, List.any_append, HM.out]; simp [HBT.out]; omega)⟩
          case measure => simp only [intOf]; omega
    · obtain rfl : k = ts.length := by omega
      have HF : Hid (greatT n ts = decide (n < (ts.length : Int))) := hid (by
        have := HM.out
        rw [List.take_length] at this
        unfold greatT
        rw [this, Bool.false_or])
      clear hx
      go_wp2
      all_goals
        go_ret
        exact ⟨by rw [HF.out]; rfl, HX.out⟩

def greatL (ls : List (List RTerm)) : Bool := ls.any (greatT 12) || decide (8 < ls.length)

set_option maxRecDepth 100000 in
set_option maxHeartbeats 4000000 in
theorem law15_great {S : Nat → Prop} (v : Value) (ls : List (List RTerm)) (w : World) (h : Polys S w v ls) (hS : ∀ k, S k → k < w.heap.size) :
    Calls Tryz.prog 8 #[v] w fun e w' => e = .returned (.bool (greatL ls)) ∧ Ext w w' := by
  have H := hid h
  have hl := h.len_le
  obtain ⟨a, cap, rfl⟩ := h.form
  clear h
  go_enter Tryz.func8, Tryz.ntmps8
  go_wp2
  go_loopw [7] (fun i wr => ∃ k : Nat, k ≤ ls.length ∧ i = .int .i64 k ∧ Ext w wr ∧ Hid ((ls.take k).any (greatT 12) = false)) (fun i _ => ls.length - (intOf i).toNat)
  case atStart => exact ⟨0, Nat.zero_le _, rfl, Ext.refl _, hid rfl⟩
  case round =>
    obtain ⟨k, hk, rfl, hx, HM⟩ := hrel
    have HX := hid hx
    by_cases hlt : k < ls.length
    · obtain ⟨t, ht⟩ := some_of_lt hlt
      obtain ⟨b, off, vp, rfl, -, hq1, hm1, hSb, h1, h2⟩ := H.out.cellAt ht
      have HT : Hid (ls.take (k + 1) = ls.take k ++ [t]) := hid (by rw [List.take_add_one, ht]; rfl)
      have HQ := hid (List.mem_of_getElem? ht)
      have g1 := Ext.cell hx h1
      have C := rpoly_great (S := S) vp t 12 wr (h2.ext hx hS) (lt_ext hS hx) (by omega)
      obtain ⟨am, cm, rfl⟩ := h2.form
      generalize hr : greatT 12 t = r at *
      have HR := hid hr
      have HC := hid C
      clear hx ht h1 h2 C hr
      cases r with
      | true =>
        have HF : Hid (greatL ls = true) := hid (by
          unfold greatL
          rw [List.any_eq_true.2 ⟨t, HQ.out, HR.out⟩]
          rfl)
        go_wp2_with fail
        refine HC.out.mono ?_
        rintro e w1 ⟨rfl, hx1⟩
        have HX1 := hid (HX.out.trans hx1)
        clear hx1
        go_wp2
        all_goals
          go_ret
          exact ⟨by rw [HF.out]; rfl, HX1.out⟩
      | false =>
        go_wp2_with fail
        refine HC.out.mono ?_
        rintro e w1 ⟨rfl, hx1⟩
        have HX1 := hid (HX.out.trans hx1)
        clear hx1
        go_wp2
        go_roundw
        case rel => exact ⟨k + 1, by omega, by go_num, HX1.out, hid (by rw [HT.out, List.any_append, HM.out]; simp [HR.out])⟩
        case measure => simp only [intOf]; omega
    · obtain rfl : k = ls.length := by omega
      have HF : Hid (greatL ls = decide (8 < (ls.length : Int))) := hid (by
        have := HM.out
        rw [List.take_length] at this
        unfold greatL
        rw [this, Bool.false_or, decide_eq_decide]
        omega)
      clear hx
      go_wp2
      all_goals
        go_ret
        exact ⟨by rw [HF.out]; rfl, HX.out⟩

/-- what is not too great -/
theorem fit_of {ls : List (List RTerm)} (h : greatL ls = false) : ls.length ≤ 8 ∧ ∀ ts ∈ ls, ts.length ≤ 12 ∧ ∀ t ∈ ts, t.c.mag.length ≤ 20 ∧ t.m.length ≤ 12 := by
  unfold greatL at h
  rw [Bool.or_eq_false_iff] at h
  obtain ⟨h1, h2⟩ := h
  refine ⟨by simpa using h2, fun ts hts => ?_⟩
  have := (List.any_eq_false.1 h1) ts hts
  unfold greatT at this
  simp only [Bool.not_eq_true, Bool.or_eq_false_iff] at this
  obtain ⟨k1, k2⟩ := this
  refine ⟨?_, fun t ht => ?_⟩
  · rw [decide_eq_false_iff_not] at k2
    omega
  · have k3 := (List.any_eq_false.1 k1) t ht
    unfold bigTerm at k3
    simp at k3
    omega
end Go.Proofs.YthplgldclilccaaGreat

namespace Go.Proofs.YthplgldclilccaaGreat
open Go.RowKit

def CellsP (S : Nat → Prop) (w : World) (xs : List Value) (l : List PZ) : Prop := xs.length = l.length ∧ ∀ (j : Nat) (p : PZ), l[j]? = some p → ∃ vp, xs[j]? = some vp ∧ RTs S w vp p
theorem CellsP.nil (S : Nat → Prop) (w : World) : CellsP S w [] [] := ⟨rfl, fun j p h => by simp at h⟩
theorem CellsP.to {S S' : Nat → Prop} {w w' : World} {xs : List Value} {l : List PZ} (h : CellsP S w xs l) (hk : Kept S w w') (hS : ∀ k, S k → S' k) : CellsP S' w' xs l :=
  ⟨h.1, fun j p hj => by
    obtain ⟨vp, h1, h2⟩ := h.2 j p hj
    exact ⟨vp, h1, h2.to hk hS⟩⟩
theorem CellsP.snoc {S : Nat → Prop} {w : World} {xs : List Value} {l : List PZ} {v : Value} {p : PZ} (h : CellsP S w xs l) (hv : RTs S w v p) : CellsP S w (xs ++ [v]) (l ++ [p]) := by
  refine ⟨by simp [h.1], fun j q hj => ?_⟩
  by_cases hlt : j < l.length
  · rw [List.getElem?_append_left hlt] at hj
    rw [List.getElem?_append_left (by rw [h.1]; exact hlt)]
    exact h.2 j q hj
  · have hj2 := lt_of_some hj
    simp only [List.length_append, List.length_cons, List.length_nil] at hj2
    obtain rfl : j = l.length := by omega
    rw [List.getElem?_append_right (Nat.le_refl _), Nat.sub_self] at hj
    obtain rfl : p = q := by simpa using hj
    refine ⟨v, ?_, hv⟩
    rw [← h.1, List.getElem?_append_right (Nat.le_refl _), Nat.sub_self]
    rfl
theorem own_rps {S : Nat → Prop} {w : World} {base : Nat} {e : TypeId} {v : Value} {xs : List Value} {l : List PZ} (h : w.ownsRow base e 1 v l.length xs) (hc : CellsP S w xs l) (hB : ∀ k, base ≤ k → k < w.heap.size → S k) : RPs S w v l := by
  have hlt := h.lt
  rcases h.2 with ⟨rfl, h0⟩ | ⟨g, cap, cur, rfl, hg, hh, h1, h2, h3, h4⟩
  · obtain rfl : l = [] := List.length_eq_zero_iff.1 h0
    exact ⟨0, 0, ⟨none, 0, rfl, Nat.zero_le _, by decide, fun h => absurd h (Nat.lt_irrefl 0), fun h => absurd h (Nat.lt_irrefl 0)⟩, fun j t hj => by simp at hj⟩
  · refine ⟨g, 0, ⟨_, cap, rfl, h1, h2, fun _ => rfl, fun _ => hB g (hlt g rfl).1 (hlt g rfl).2⟩, fun j t hj => ?_⟩
    obtain ⟨vp, g1, g2⟩ := hc.2 j t hj
    have hb := lt_of_some hj
    refine ⟨vp, ?_, g2⟩
    rw [h.cellAt (0 + j) (by omega), Nat.zero_add]
    exact g1
theorem Tryz.infoP : (Tryz.prog.info? 36).map (fun i => (i.zero, i.size, i.bytes)) = some (some (.slice none 0 0), 1, 24) := by kernel_rfl

section
variable {S : Nat → Prop} {w w1 w2 : World} {o : Value} {e : TypeId} {size n : Nat} {xs : List Value}
theorem cellsP_ext {l : List PZ} (hS : ∀ k, S k → k < w.heap.size) (h0 : Ext w w1) (h : CellsP (Off S w w1 o) w1 xs l) (hx : Ext w1 w2) : CellsP (Off S w w2 o) w2 xs l :=
  h.to (Kept.ext hx (fun k h => plus_lt hS h0 k h.1)) (fun k h => ⟨plus_grow hx.size k h.1, h.2⟩)
/-- a polynomial that was made behind a slice -/
theorem rts_off {v : Value} {p : PZ} (hS : ∀ k, S k → k < w.heap.size) (h0 : Ext w w1) (ho : w1.ownsRow w.heap.size e size o n xs) (_hx : Ext w1 w2) (h : RTs (Plus S w1 w2) w2 v p) : RTs (Off S w w2 o) w2 v p :=
  h.to (Kept.refl _ _) (fun k hk => by
    rcases hk with hk | hk
    · refine ⟨.inl hk, fun e => ?_⟩
      have := (ho.lt k e.symm).1
      have := hS k hk
      omega
    · refine ⟨.inr ⟨Nat.le_trans h0.size hk.1, hk.2⟩, fun e => ?_⟩
      have := (ho.lt k e.symm).2
      have := hk.1
      omega)
theorem cellsP_grown {v3 : Value} {w3 : World} {l : List PZ} (hS : ∀ k, S k → k < w.heap.size) (hx : Ext w w2) (h : CellsP (Off S w w2 o) w2 xs l) (hg : w2.grownBy w3 o.ownBlock) (hb : v3.ownBlock = o.ownBlock ∨ v3.ownBlock = some (w2.heap.size + 1)) : CellsP (Off S w w3 v3) w3 xs l :=
  h.to (Kept.grown hg (fun k hk => ⟨plus_lt hS hx k hk.1, hk.2⟩)) (fun k hk => ⟨plus_grow hg.size k hk.1, off_still hS hx hk hb⟩)
end

/-- sizes that the document's numbers take -/
def fitT (ts : List RTerm) : Prop := tinyT ts ∧ ts.length ≤ 1000000
theorem szP_toP {ts : List RTerm} (hok : okT ts) (h : fitT ts) : szP (toP ts) := by
  refine ⟨by rw [toP_length]; exact Nat.le_trans h.2 (by decide), fun t ht => ?_⟩
  obtain ⟨u, hu, rfl⟩ := List.mem_map.1 ht
  exact szZ_of (hok u hu) (h.1 u hu)
theorem szP_take {p : PZ} (h : szP p) (k : Nat) : szP (p.take k) := ⟨Nat.le_trans (by rw [List.length_take]; exact Nat.min_le_right _ _) h.1, fun t ht => h.2 t (List.mem_of_mem_take ht)⟩
theorem addP_take {p : PZ} (h : canP p) (k : Nat) : addP [] (p.take k) = p.take k := normP_of_can (canP_sublist h (List.take_sublist _ _))
theorem plainP_yes {ts : List RTerm} (h : mayT ts = true) : plainP ts = toP ts := by unfold plainP; simp [h]
theorem plainP_no {ts : List RTerm} (h : mayT ts = false) : plainP ts = [] := by unfold plainP; simp [h]

set_option maxRecDepth 100000 in
set_option maxHeartbeats 8000000 in
theorem law15_plain {S : Nat → Prop} (v : Value) (ls : List (List RTerm)) (w : World) (h : Polys S w v ls) (hS : ∀ k, S k → k < w.heap.size) (hfit : ∀ ts ∈ ls, fitT ts) (hlen : ls.length ≤ 1000000) :
    Calls Tryz.prog 13 #[v] w fun e w' => ∃ v', e = .returned v' ∧ RPs (Plus S w w') w' v' (ls.map plainP) ∧ Ext w w' := by
  have H := hid h
  have HF := hid hfit
  have HL := hid hlen
  have hl := h.len_le
  obtain ⟨a, cap, rfl⟩ := h.form
  clear h hfit hlen
  go_enter Tryz.func13, Tryz.ntmps13
  go_wp2
  go_loopw [3, 7] (fun o i wr => ∃ k xs, k ≤ ls.length ∧ i = .int .i64 (k : Nat) ∧ Ext w wr ∧ Hid (wr.ownsRow w.heap.size 36 1 o k xs) ∧ Hid (CellsP (Off S w wr o) wr xs ((ls.take k).map plainP))) (fun _ i _ => ls.length - (intOf i).toNat)
  case atStart => exact ⟨0, [], Nat.zero_le _, rfl, Ext.refl _, hid (World.ownsRow_nil _ _ _ _), hid (CellsP.nil _ _)⟩
  case round =>
    obtain ⟨k, xs, hk, rfl, hx, HW, HXS⟩ := hrel
    have HX := hid hx
    by_cases hlt : k < ls.length
    · obtain ⟨t, ht⟩ := some_of_lt hlt
      obtain ⟨b, off, vp, rfl, -, hq1, hm1, hSb, h1, h2⟩ := H.out.cellAt ht
      have HT : Hid ((ls.take (k + 1)).map plainP = (ls.take k).map plainP ++ [plainP t]) := hid (by rw [List.take_add_one, ht, List.map_append]; rfl)
      have HFT := hid (HF.out t (List.mem_of_getElem? ht))
      have g1 := Ext.cell hx h1
      have C := rpoly_may (S := S) vp t wr (h2.ext hx hS) (lt_ext hS hx) HFT.out.1
      have HOK := hid h2.okT
      have H2 := hid h2
      obtain ⟨am, cm, rfl⟩ := h2.form
      generalize hr : mayT t = r at *
      have HR := hid hr
      have HC := hid C
      clear hx ht h1 h2 C hr
      cases r with
      | true =>
        have HPP := hid (plainP_yes HR.out)
        have HCAN := hid (mayT_can HR.out)
        go_wp2_with fail
        refine HC.out.mono ?_
        rintro e w1 ⟨rfl, hx1⟩
        have HX1 := hid (HX.out.trans hx1)
        have k1 := hx1.cell g1
        have HW1 := hid (own_ext HW.out hx1)
        have HXS1 := hid (cellsP_ext hS HX.out HXS.out hx1)
        have CO := hid (rpoly_of (S := S) _ t w1 (H2.out.ext HX1.out hS) (lt_ext hS HX1.out) HFT.out.1 HCAN.out.may (fun k _ => by rw [addP_take HCAN.out]; exact szP_take (szP_toP HOK.out HFT.out) k))
        clear hx1 g1
        go_wp2_with fail
        refine CO.out.mono ?_
        rintro e w2 ⟨v2, rfl, hp2, hx2⟩
        have HX2 := hid (HX1.out.trans hx2)
        have HW2 := hid (own_ext HW1.out hx2)
        have HXS2 := hid (cellsP_ext hS HX1.out HXS1.out hx2)
        have HP2 := hid (rts_off hS HX1.out HW1.out hx2 hp2)
        obtain ⟨a2, c2, rfl⟩ := hp2.form
        obtain ⟨n2, hn2⟩ : ∃ n, n = (normP (toP t)).length := ⟨_, rfl⟩
        rw [← hn2] at HP2 ⊢
        clear hx2 hp2 hn2
        go_wp2_with (at_builtin; refine wpList_append_new _ rfl (.tmp 15) (.tmp 21) 29 rfl w.heap.size 36 (.slice none 0 0) 1 24 Tryz.underlying29 Tryz.infoP rfl (by decide) _ k xs rfl HW2.out #[.slice a2 n2 c2] rfl (one_cell rfl) rfl (by have := HL.out; omega) (by decide) HX2.out.size ?_; intro v3 w3 hown hg hbk; have HW3 := hid hown; have HG3 := hid hg; have HBK := hid hbk; clear hown hg hbk)
        go_roundw
        case rel =>
          refine ⟨k + 1, xs ++ [.slice a2 n2 c2], by omega, by go_num, own_grown0 HX2.out HW2.out HG3.out, HW3, hid ?_⟩
          rw [HT.out, HPP.out, ← normP_of_can HCAN.out]
          exact cellsP_grown hS HX2.out (HXS2.out.snoc HP2.out) HG3.out HBK.out
        case measure => simp only [intOf]; omega
      | false =>
        have HPP := hid (plainP_no HR.out)
        go_wp2_with fail
        refine HC.out.mono ?_
        rintro e w1 ⟨rfl, hx1⟩
        have HX1 := hid (HX.out.trans hx1)
        have HW1 := hid (own_ext HW.out hx1)
        have HXS1 := hid (cellsP_ext hS HX.out HXS.out hx1)
        clear hx1
        go_wp2_with (at_builtin; refine wpList_append_new _ rfl (.tmp 23) (.tmp 24) 29 rfl w.heap.size 36 (.slice none 0 0) 1 24 Tryz.underlying29 Tryz.infoP rfl (by decide) _ k xs rfl HW1.out #[.slice none 0 0] rfl (one_cell rfl) rfl (by have := HL.out; omega) (by decide) HX1.out.size ?_; intro v3 w3 hown hg hbk; have HW3 := hid hown; have HG3 := hid hg; have HBK := hid hbk; clear hown hg hbk)
        go_roundw
        case rel =>
          refine ⟨k + 1, xs ++ [.slice none 0 0], by omega, by go_num, own_grown0 HX1.out HW1.out HG3.out, HW3, hid ?_⟩
          rw [HT.out, HPP.out]
          exact cellsP_grown hS HX1.out (HXS1.out.snoc (RTs.nilv _ _ _ _ (by omega))) HG3.out HBK.out
        case measure => simp only [intOf]; omega
    · obtain rfl : k = ls.length := by omega
      have HE : Hid (ls.take ls.length = ls) := hid (List.take_length)
      clear hx
      go_wp2
      go_ret
      refine ⟨_, rfl, ?_, HX.out⟩
      have hc := HXS.out
      rw [HE.out] at hc
      refine own_rps (by rw [List.length_map]; exact HW.out) (hc.to (Kept.refl _ _) (fun _ h => h.1)) (fun k h1 h2 => .inr ⟨h1, h2⟩)
theorem fit_T {ts : List RTerm} (h : ts.length ≤ 12 ∧ ∀ t ∈ ts, t.c.mag.length ≤ 20 ∧ t.m.length ≤ 12) : fitT ts ∧ smallT ts :=
  ⟨⟨fun t ht => Nat.le_trans (h.2 t ht).1 (by omega), Nat.le_trans h.1 (by omega)⟩, fun t ht => Nat.le_trans (h.2 t ht).1 (by omega)⟩
end Go.Proofs.YthplgldclilccaaGreat

namespace Go.Proofs.YthplgldclilccaaGreat
open Go.RowKit

theorem small_bnd {p : PZ} {k : Nat} (h : bndZ k p) (hk : k ≤ 40000000000000) : smallT (ofP p) := fun t ht => by
  obtain ⟨u, hu, rfl⟩ := List.mem_map.1 ht
  show (ofI u.1).mag.length ≤ _
  rw [ofI_len]
  exact Nat.le_trans (lenI_lt (h u hu)) hk
theorem bnd_plain {ts : List RTerm} {k : Nat} (hok : okT ts) (h : ∀ t ∈ ts, t.c.mag.length ≤ k) : bndZ k (plainP ts) := fun u hu => by
  unfold plainP at hu
  split at hu
  · obtain ⟨t, ht, rfl⟩ := List.mem_map.1 hu
    exact lenI_mono (valI_len (hok t ht)) (h t ht)
  · simp at hu
theorem bnd_coef {p : PZ} {k : Nat} (h : bndZ k p) (v e : Int) : bndZ k (coefP p v e) := fun u hu => by
  obtain ⟨t, ht, -, rfl⟩ := coefP_mem hu
  exact h t ht
theorem bnd_init {p : PZ} {k : Nat} (h : bndZ k p) : bndZ k (initP p) := by
  unfold initP
  split
  · exact h
  · exact bnd_coef h _ _
theorem bnd_tail {p : PZ} {k : Nat} (h : bndZ k p) : bndZ k (tailP p) := fun u hu => h u ((tailP_sub p).mem hu)
theorem bnd_der {p : PZ} {k : Nat} (hm : mayAll p) (h : bndZ k p) (v : Int) : bndZ (k + 1) (derP p v) := fun u hu => by
  obtain ⟨t, ht, -, rfl⟩ := derP_mem hu
  exact lenI_mono (lenI_prod (lenI_lt (h t ht)) (lenI_small (ex_range (hm t ht) v))) (Nat.le_refl _)

theorem bnd_lens {p : PZ} {k : Nat} (h : bndZ k p) : ∀ t ∈ ofP p, t.c.mag.length ≤ k := fun t ht => by
  obtain ⟨u, hu, rfl⟩ := List.mem_map.1 ht
  show (ofI u.1).mag.length ≤ _
  rw [ofI_len]
  exact lenI_lt (h u hu)
theorem great_fit {n : Nat} {ts : List RTerm} (h : greatT n ts = false) : ts.length ≤ n ∧ ∀ t ∈ ts, t.c.mag.length ≤ 20 ∧ t.m.length ≤ 12 := by
  unfold greatT at h
  rw [Bool.or_eq_false_iff] at h
  obtain ⟨k1, k2⟩ := h
  refine ⟨?_, fun t ht => ?_⟩
  · rw [decide_eq_false_iff_not] at k2
    omega
  · have k3 := (List.any_eq_false.1 k1) t ht
    unfold bigTerm at k3
    simp at k3
    omega
theorem der_len (p : PZ) (v : Int) : (derP p v).length ≤ p.length := List.length_filterMap_le _ _
theorem ofP_len (p : PZ) : (ofP p).length = p.length := by unfold ofP; rw [List.length_map]
theorem plain_len (ts : List RTerm) : (plainP ts).length ≤ ts.length := by
  unfold plainP
  split
  · unfold toP; rw [List.length_map]; exact Nat.le_refl _
  · simp
end Go.Proofs.YthplgldclilccaaGreat

namespace Go.Proofs.YthplgldclilccaaGreat
open Go.RowKit

/-- a product, or an error: an exponent is too great -/
def TimesPost (w : World) : Option PZ → Ending → World → Prop
  | none => ErrPoly w 8
  | some p => OkPoly w p
theorem toP_at' {ts : List RTerm} {k : Nat} {t : RTerm} (h : ts[k]? = some t) : (toP ts)[k]? = some (valI t.c, t.m) := by
  unfold toP
  rw [List.getElem?_map, h]
  rfl
theorem ofP_snoc (xs : PZ) (x : Int × Mono) : ofP (xs ++ [x]) = ofP xs ++ [⟨ofI x.1, x.2⟩] := by
  unfold ofP
  rw [List.map_append]
  rfl
theorem mayT_at {ts : List RTerm} (h : mayT ts = true) {k : Nat} {t : RTerm} (ht : ts[k]? = some t) : mayM t.m = true := mayT_mono h t (List.mem_of_getElem? ht)

set_option maxRecDepth 100000 in
set_option maxHeartbeats 8000000 in
theorem poly_times {S : Nat → Prop} (vp vq : Value) (ps qs : List RTerm) (w : World) (L : Nat) (hp : Terms S w vp ps) (hq : Terms S w vq qs) (hS : ∀ k, S k → k < w.heap.size) (hmp : mayT ps = true) (hmq : mayT qs = true)
    (hrp : ∀ t ∈ ps, t.c.mag.length ≤ L) (hrq : ∀ t ∈ qs, t.c.mag.length ≤ L) (hL : L ≤ 1000000000) (hc : (∀ t ∈ ps, lenI (valI t.c) < 24) ∨ (∀ t ∈ qs, lenI (valI t.c) < 24)) (hn : ps.length * qs.length ≤ 1000000000) :
    Calls Tryz.prog 33 #[vp, vq] w (TimesPost w (timesP (toP ps) (toP qs))) := by
  have hnot : ∀ (x : Bool) (w : World), (Op.unary .not (.bool x)).run Tryz.prog w = .ok (.bool (!x)) w := fun _ _ => rfl
  have HP := hid hp
  have HQ := hid hq
  have HMP := hid (fun (k : Nat) (t : RTerm) (ht : ps[k]? = some t) => mayT_at hmp ht)
  have HMQ := hid (fun (k : Nat) (t : RTerm) (ht : qs[k]? = some t) => mayT_at hmq ht)
  have HRP := hid hrp
  have HRQ := hid hrq
  have HCC := hid hc
  have HNM := hid hn
  have hpl := hp.len_le
  have hql := hq.len_le
  have CA := poly_all (S := fun k => S k ∨ k = w.heap.size) _ [ps, qs] (w.alloc (.cells #[vp, vq] 26)) (two_polys hp hq hS 26) (two_lt hS _) (fun p hp => by
    rcases List.mem_cons.1 hp with rfl | hp
    · exact fun t ht => Nat.le_trans (hrp t ht) (by omega)
    · rw [List.mem_singleton.1 hp]; exact fun t ht => Nat.le_trans (hrq t ht) (by omega))
  rw [show [ps, qs].all mayT = true by simp [hmp, hmq]] at CA
  obtain ⟨ap, cp, rfl⟩ := hp.form
  obtain ⟨aq, cq, rfl⟩ := hq.form
  obtain ⟨n, hnn⟩ : ∃ n, n = ps.length := ⟨_, rfl⟩
  obtain ⟨m, hmm⟩ : ∃ n, n = qs.length := ⟨_, rfl⟩
  rw [← hnn] at HP CA hpl HNM ⊢
  rw [← hmm] at HQ CA hql HNM ⊢
  have HN := hid hnn
  have HM := hid hmm
  have HCA := hid CA
  have HS := hid hS
  clear hp hq hmp hmq hrp hrq hc hn hnn hmm CA hS
  go_enter Tryz.func33, Tryz.ntmps33
  go_wp2_with fail
  with_reducible refine HCA.out.mono ?_
  rintro e w1 ⟨rfl, hx1⟩
  have HX1 := hid ((Ext.alloc (Ext.refl w) _).trans hx1)
  have HP1 := hid (HP.out.onS HX1.out HS.out)
  have HQ1 := hid (HQ.out.onS HX1.out HS.out)
  have HS1 := hid (lt_ext HS.out HX1.out)
  clear hx1
  go_wp2
  go_loopw [6, 20] (fun o i wr => ∃ (k : Nat) (xs : PZ) (cs : List Value), k ≤ n ∧ i = .int .i64 k ∧ Ext w1 wr ∧ Hid (firstN (toP ps) (toP qs) (k * m) xs) ∧ Hid (xs.length = k * m) ∧ Hid (wr.ownsRow w1.heap.size 76 3 o xs.length cs) ∧ Hid (CellsT (NewOff w1 wr o) wr cs (ofP xs))) (fun _ i _ => n - (intOf i).toNat)
  case atStart => exact ⟨0, [], [], Nat.zero_le _, rfl, Ext.refl _, hid (by rw [Nat.zero_mul]; exact firstN_zero _ _), hid (by rw [Nat.zero_mul]; rfl), World.ownsRow_nil _ _ _ _, rfl⟩
  case round =>
    obtain ⟨k, xs, cs, hk, rfl, hx, HF, HXL, HW, HY⟩ := hrel
    have HX := hid hx
    by_cases hlt : k < n
    · obtain ⟨t, ht⟩ := some_of_lt (l := ps) (j := k) (by rw [← HN.out]; exact hlt)
      obtain ⟨b, off, vd, vo, rfl, -, hn1, hm1, hSb, h1, h2, h3, h4, h5⟩ := HP1.out.cellAt ht
      have h1 := hx.cell h1
      have h2 := hx.cell h2
      have h3 := hx.cell h3
      have HT := hid ht
      have H4 := hid h4
      have H5 := hid h5
      obtain ⟨ad, cd, rfl⟩ := h4.form
      obtain ⟨ao, co, rfl⟩ := h5.form
      obtain ⟨ng, hng⟩ : ∃ b, b = t.c.neg := ⟨_, rfl⟩
      obtain ⟨nd, hnd⟩ : ∃ b, b = t.c.mag.length := ⟨_, rfl⟩
      obtain ⟨nm, hnm⟩ : ∃ b, b = t.m.length := ⟨_, rfl⟩
      have HNG := hid hng
      rw [← hnd] at H4
      rw [← hnm] at H5
      rw [← hng] at h1
      rw [← hnd] at h2
      rw [← hnm] at h3
      have HXA := hid (Ext.alloc (Ext.refl wr) (.cells #[.bool ng, .slice ad nd cd, .slice ao nm co] 76))
      clear ht h4 h5 hx hng hnd hnm
      go_wp2
      obtain ⟨wo, rfl⟩ : ∃ wo : World, wo = wr := ⟨_, rfl⟩
      go_loopw [6, 26] (fun o i wr => ∃ (j : Nat) (xs : PZ) (cs : List Value), j ≤ m ∧ i = .int .i64 j ∧ Ext w1 wr ∧ Hid (wo.heap.size < wr.heap.size) ∧ Hid (wr.cell? ⟨wo.heap.size, 0, none⟩ = some (.bool ng) ∧ wr.cell? ⟨wo.heap.size, 1, none⟩ = some (.slice ad nd cd) ∧ wr.cell? ⟨wo.heap.size, 2, none⟩ = some (.slice ao nm co)) ∧ Hid (some wo.heap.size ≠ o.ownBlock) ∧
        Hid (firstN (toP ps) (toP qs) (k * m + j) xs) ∧ Hid (xs.length = k * m + j) ∧ Hid (wr.ownsRow w1.heap.size 76 3 o xs.length cs) ∧ Hid (CellsT (NewOff w1 wr o) wr cs (ofP xs))) (fun _ i _ => m - (intOf i).toNat)
      case atStart => exact ⟨0, xs, cs, Nat.zero_le _, rfl, HX.out.trans HXA.out, hid (by rw [size_alloc]; exact Nat.lt_succ_self _), hid ⟨cell_new _ _ _ rfl rfl, cell_new _ _ _ rfl rfl, cell_new _ _ _ rfl rfl⟩, hid (fun e => by have := (HW.out.lt _ e.symm).2; omega), HF, HXL, own_ext HW.out HXA.out, newOff_ext HY.out HXA.out⟩
      case round =>
        clear HF HXL HW HY
        obtain ⟨j, xs, cs, hj, rfl, hx, HGS, HKC, HNB, HF, HXL, HW, HY⟩ := hrel
        have HXW := hid hx
        by_cases hlt2 : j < m
        · obtain ⟨u, hu⟩ := some_of_lt (l := qs) (j := j) (by rw [← HM.out]; exact hlt2)
          obtain ⟨b2, off2, ve, vp2, rfl, -, hn2, hm2, hSb2, g1, g2, g3, g4, g5⟩ := (HQ1.out.onS HXW.out HS1.out).cellAt hu
          have HU := hid hu
          have HAT := hid (prodL_get (toP_at' HT.out) (toP_at' hu))
          rw [show (toP qs).length = m by rw [toP_length, HM.out]] at HAT
          have hmt := HMP.out k t HT.out
          have hmu := HMQ.out j u hu
          obtain ⟨k0, k1, k2⟩ := HKC.out
          obtain ⟨ae, ce, rfl⟩ := g4.form
          obtain ⟨aq2, cq2, rfl⟩ := g5.form
          obtain ⟨mg, hmg⟩ : ∃ b, b = u.c.neg := ⟨_, rfl⟩
          obtain ⟨ne, hne⟩ : ∃ b, b = u.c.mag.length := ⟨_, rfl⟩
          obtain ⟨nq, hnq⟩ : ∃ b, b = u.m.length := ⟨_, rfl⟩
          have HMG := hid hmg
          have G4 := hid g4
          have G5 := hid g5
          rw [← hne] at G4
          rw [← hnq] at G5
          rw [← hmg] at g1
          rw [← hne] at g2
          rw [← hnq] at g3
          have HXB := hid (Ext.alloc (Ext.refl wr) (.cells #[.bool mg, .slice ae ne ce, .slice aq2 nq cq2] 76))
          have k3 := HXB.out.cell k0
          have k4 := HXB.out.cell k1
          have k5 := HXB.out.cell k2
          have hS2 := lt_ext HS1.out HXW.out
          have HCT := hid (mono_times (S := S) (.slice ao nm co) (.slice aq2 nq cq2) t.m u.m _ (H5.out.ext (hx.trans HXB.out) HS1.out) (G5.out.ext HXB.out hS2) (lt_ext hS2 HXB.out))
          have HCM := hid (fun (W : World) (hW : Ext wr W) => whole_mul (S := S) (.agg #[.bool ng, .slice ad nd cd]) (.agg #[.bool mg, .slice ae ne ce]) t.c u.c W ⟨_, by rw [HNG.out], H4.out.ext (hx.trans hW) HS1.out⟩ ⟨_, by rw [HMG.out], G4.out.ext hW hS2⟩ (lt_ext hS2 hW) (Nat.le_trans (HRP.out t (List.mem_of_getElem? HT.out)) (by omega)) (Nat.le_trans (HRQ.out u (List.mem_of_getElem? hu)) (by omega))
            (HCC.out.imp (fun h => h t (List.mem_of_getElem? HT.out)) (fun h => h u (List.mem_of_getElem? hu))))
          have hkm : k * m + j < n * m := by
            have : (k + 1) * m ≤ n * m := Nat.mul_le_mul_right _ (by omega)
            rw [Nat.add_mul] at this
            omega
          have HKB : Hid (xs.length ≤ 1000000000) := hid (by have h1 := HNM.out; have h2 := HXL.out; omega)
          cases hmx : mayM (timesM t.m u.m) with
          | false =>
            have he : errTimes t.m u.m = 8 := by unfold errTimes; rw [hmt, hmu, hmx]; rfl
            have HNO := hid (firstN_none HF.out (HAT.out.trans (congrArg some (pair_no hmt hmu hmx))))
            rw [he] at HCT
            clear he hmx hmt hmu hx hu g4 g5 hmg hne hnq k0 k1 k2 hkm hS2
            go_wp2_with fail
            with_reducible refine HCT.out.mono ?_
            rintro e w2 ⟨v2, rfl, hp2, hx2⟩
            have HX2 := hid (HX1.out.trans (HXW.out.trans (HXB.out.trans hx2)))
            clear hp2 hx2
            go_wp2
            all_goals
              go_ret2
              rw [HNO.out]
              exact ⟨rfl, HX2.out⟩
          | true =>
            have he : errTimes t.m u.m = 0 := by unfold errTimes; rw [hmt, hmu, hmx]; rfl
            have hv : valTimes t.m u.m = timesM t.m u.m := by unfold valTimes; rw [hmt, hmu, hmx]; rfl
            have HYES := hid (firstN_next HF.out (HAT.out.trans (congrArg some (pair_yes hmt hmu hmx))))
            rw [he, hv] at HCT
            clear he hv hmx hmt hmu hx hu g4 g5 hmg hne hnq k0 k1 k2 hkm hS2
            go_wp2_with fail
            with_reducible refine HCT.out.mono ?_
            rintro e w2 ⟨v2, rfl, hp2, hx2⟩
            have HX2 := hid (HXB.out.trans hx2)
            have l0 := hx2.cell k3
            have l1 := hx2.cell k4
            have r0 := hx2.new_cell (i := 0) rfl
            have r1 := hx2.new_cell (i := 1) rfl
            have HP2 := hid (hp2.to (S' := New wr w2) (Kept.refl _ _) (fun k h => ⟨Nat.le_trans HXB.out.size h.1, h.2⟩))
            obtain ⟨a2, c2, rfl⟩ := hp2.form
            obtain ⟨n2, hn2'⟩ : ∃ b, b = (timesM t.m u.m).length := ⟨_, rfl⟩
            rw [← hn2'] at HP2 ⊢
            have HCM2 := hid (HCM.out w2 (HXB.out.trans hx2))
            clear hp2 hx2 hn2' k3 k4 k5
            go_wp2_with fail
            with_reducible refine HCM2.out.mono ?_
            rintro e w3 ⟨v3, rfl, ⟨vm3, rfl, hu3⟩, hx3⟩
            have HX3 := hid (HX2.out.trans hx3)
            have HXW3 := hid (HXW.out.trans (HX2.out.trans hx3))
            have HW3 := hid (own_ext HW.out HX3.out)
            obtain ⟨b3, hb3⟩ : ∃ b, b = (ofI (valI t.c * valI u.c)).neg := ⟨_, rfl⟩
            have hone : CellsT (New wr w3) w3 [.bool (ofI (valI t.c * valI u.c)).neg, vm3, .slice a2 n2 c2] [⟨ofI (valI t.c * valI u.c), timesM t.m u.m⟩] :=
              CellsT.single (t := ⟨ofI (valI t.c * valI u.c), timesM t.m u.m⟩) (hu3.to (Kept.refl _ _) (fun k h => ⟨Nat.le_trans HX2.out.size h.1, h.2⟩)) (HP2.out.to (Kept.ext hx3 (fun _ h => h.2)) (fun k h => ⟨h.1, Nat.lt_of_lt_of_le h.2 hx3.size⟩))
            have HY3 := hid ((newOff_ext HY.out HX3.out).append (newOff_of HXW.out.size HW.out hone))
            rw [← ofP_snoc xs (valI t.c * valI u.c, timesM t.m u.m)] at HY3
            obtain ⟨a3, c3, rfl⟩ := hu3.form
            obtain ⟨n3, hn3⟩ : ∃ b, b = (ofI (valI t.c * valI u.c)).mag.length := ⟨_, rfl⟩
            rw [← hb3, ← hn3] at HY3 ⊢
            clear hone hu3 hx3 hb3 hn3 l0 l1 r0 r1
            go_wp2_with (at_builtin; refine wpList_append_new _ rfl (.tmp 41) (.tmp 49) 25 rfl w1.heap.size 76 (.agg #[.bool false, .slice none 0 0, .slice none 0 0]) 3 56 Tryz.underlying25 Tryz.infoTerm rfl (by decide) _ xs.length cs rfl HW3.out #[.bool b3, .slice a3 n3 c3, .slice a2 n2 c2] rfl (three_cell rfl rfl rfl) rfl HKB.out (by decide) HXW3.out.size ?_; intro v5 w5 hown hg hbk; have HW5 := hid hown; have HG5 := hid hg; have HBK := hid hbk; clear hown hg hbk)
            go_roundw
            case rel =>
              refine ⟨j + 1, xs ++ [(valI t.c * valI u.c, timesM t.m u.m)], cs ++ (#[.bool b3, .slice a3 n3 c3, .slice a2 n2 c2] : Array Value).toList, by omega, by go_num, own_grown0 HXW3.out HW3.out HG5.out, hid (Nat.lt_of_lt_of_le HGS.out (Nat.le_trans HX3.out.size HG5.out.size)), hid ⟨grown_cell HG5.out (HX3.out.cell HKC.out.1) HNB.out, grown_cell HG5.out (HX3.out.cell HKC.out.2.1) HNB.out, grown_cell HG5.out (HX3.out.cell HKC.out.2.2) HNB.out⟩, hid (fun e => by rcases HBK.out with h | h; exact HNB.out (e.trans h); exact absurd (Option.some.inj (e.trans h)) (by have := HGS.out; have := HX3.out.size; omega)), HYES, ?_, ?_, newOff_grown HY3.out HG5.out HBK.out (Nat.le_succ _)⟩
              · show _ = _; rw [List.length_append, HXL.out]; rfl
              · show World.ownsRow _ _ _ _ _ _ _; rw [List.length_append]; exact HW5.out
            case measure => simp only [intOf]; omega
        · obtain rfl : m = j := by omega
          clear hx
          go_wp2
          go_roundw
          case rel =>
            have e : (k + 1) * m = k * m + m := by rw [Nat.add_mul, Nat.one_mul]
            exact ⟨k + 1, xs, cs, by omega, by go_num, HXW.out, by rw [e]; exact HF, by rw [e]; exact HXL, HW, HY⟩
          case measure => simp only [intOf]; omega
    · obtain rfl : n = k := by omega
      have hall := firstN_all HF.out (by rw [toP_length, toP_length, ← HN.out, ← HM.out])
      have HALL := hid hall
      have ho := own_terms (S := Old wr) (p := ofP xs) (by rw [ofP_length]; exact HW.out) (HY.out.to (Kept.refl _ _) (fun _ h => h.1.2)) (fun k h1 h2 => h2)
      have HCO := hid (poly_collect u6 (ofP xs) wr (L + L) ho (fun _ h => h) (fun t ht => by
        obtain ⟨x, hx, rfl⟩ := List.mem_map.1 ht
        exact (firstN_mem HF.out hx).1) (fun t ht => by
        obtain ⟨x, hx, rfl⟩ := List.mem_map.1 ht
        obtain ⟨-, a, ha, b, hb, e⟩ := firstN_mem HF.out hx
        obtain ⟨a', ha', rfl⟩ := List.mem_map.1 ha
        obtain ⟨b', hb', rfl⟩ := List.mem_map.1 hb
        show (ofI x.1).mag.length ≤ _
        rw [ofI_len, e]
        exact lenI_prod (Nat.le_trans (valI_len (HP.out.okT a' ha')) (HRP.out a' ha')) (Nat.le_trans (valI_len (HQ.out.okT b' hb')) (HRQ.out b' hb'))) (by omega) (by rw [ofP_length, HXL.out]; have := HNM.out; omega))
      rw [toP_ofP] at HCO
      clear hx hall ho
      go_wp2_with fail
      with_reducible refine HCO.out.mono ?_
      rintro e w2 ⟨v2, rfl, hp2, hx2⟩
      have HP2 := hid (hp2.to (S' := New w w2) (Kept.refl _ _) (fun k h => ⟨Nat.le_trans (HX1.out.trans HX.out).size h.1, h.2⟩))
      have HX2 := hid ((HX1.out.trans HX.out).trans hx2)
      clear hp2 hx2
      go_wp2
      all_goals
        go_ret2
        rw [HALL.out]
        exact ⟨_, rfl, HP2.out, HX2.out⟩
end Go.Proofs.YthplgldclilccaaGreat

namespace Go.Proofs.YthplgldclilccaaGreat

/-! Monomials without a greatest exponent -/
def okTail (last : Int) : Mono → Bool
  | [] => true
  | x :: r => decide (last < x.1 ∧ x.1 ≤ 200 ∧ 1 ≤ x.2) && okTail x.1 r
def okM (m : Mono) : Bool := okTail 0 m
theorem may_okTail {l : Int} {m : Mono} (h : mayTail l m = true) : okTail l m = true := by
  induction m generalizing l with
  | nil => rfl
  | cons x r ih =>
    simp only [mayTail, okTail, Bool.and_eq_true, decide_eq_true_eq] at h ⊢
    exact ⟨by omega, ih h.2⟩
theorem may_ok {m : Mono} (h : mayM m = true) : okM m = true := may_okTail h
theorem ok_may {l : Int} {m : Mono} (h : okTail l m = true) (he : ∀ u, ex m u ≤ 10000) : mayTail l m = true := by
  induction m generalizing l with
  | nil => rfl
  | cons x r ih =>
    simp only [mayTail, okTail, Bool.and_eq_true, decide_eq_true_eq] at h ⊢
    have h0 : ∀ u, u ≤ x.1 → ex r u = 0 := by
      have : ∀ (r : Mono) (k : Int), okTail k r = true → ∀ u, u ≤ k → ex r u = 0 := by
        intro r
        induction r with
        | nil => intro k _ u _; rfl
        | cons y s ih =>
          intro k hk u hu
          simp only [okTail, Bool.and_eq_true, decide_eq_true_eq] at hk
          rw [ex, if_neg (by omega)]
          exact ih _ hk.2 u (by omega)
      exact fun u hu => this r x.1 h.2 u hu
    have h1 := he x.1
    rw [ex, if_pos rfl] at h1
    refine ⟨by omega, ih h.2 (fun u => ?_)⟩
    by_cases hu : x.1 = u
    · rw [h0 u (by omega)]; omega
    · have := he u
      rwa [ex, if_neg hu] at this
theorem ok_low {l : Int} {m : Mono} (h : okTail l m = true) {u : Int} (hu : u ≤ l) : ex m u = 0 := by
  induction m generalizing l with
  | nil => rfl
  | cons y s ih =>
    simp only [okTail, Bool.and_eq_true, decide_eq_true_eq] at h
    rw [ex, if_neg (by omega)]
    exact ih h.2 (by omega)
theorem ok_nonneg {l : Int} {m : Mono} (h : okTail l m = true) (u : Int) : 0 ≤ ex m u := by
  induction m generalizing l with
  | nil => simp [ex]
  | cons y s ih =>
    simp only [okTail, Bool.and_eq_true, decide_eq_true_eq] at h
    rw [ex]
    split
    · omega
    · exact ih h.2
theorem ok_ext {l : Int} {a b : Mono} (ha : okTail l a = true) (hb : okTail l b = true) (h : ∀ v, ex a v = ex b v) : a = b := by
  induction a generalizing b l with
  | nil =>
    cases b with
    | nil => rfl
    | cons y b =>
      have := h y.1
      simp only [okTail, Bool.and_eq_true, decide_eq_true_eq] at hb
      simp [ex] at this
      omega
  | cons x a ih =>
    cases b with
    | nil =>
      have := h x.1
      simp only [okTail, Bool.and_eq_true, decide_eq_true_eq] at ha
      simp [ex] at this
      omega
    | cons y b =>
      simp only [okTail, Bool.and_eq_true, decide_eq_true_eq] at ha hb
      have h1 := h x.1
      have h2 := h y.1
      have e : x.1 = y.1 := by
        rcases Int.lt_trichotomy x.1 y.1 with g | g | g
        · rw [ex, if_pos rfl, ex, if_neg (by omega), ok_low hb.2 (by omega)] at h1
          omega
        · exact g
        · rw [ex, if_neg (by omega), ok_low ha.2 (by omega), ex, if_pos rfl] at h2
          omega
      have e2 : x.2 = y.2 := by
        rw [ex, if_pos rfl, ex, if_pos e.symm] at h1
        exact h1
      have : x = y := Prod.ext e e2
      subst this
      congr 1
      refine ih ha.2 hb.2 (fun v => ?_)
      have := h v
      rw [ex, ex] at this
      split at this
      · rename_i hv
        rw [ok_low ha.2 (by omega), ok_low hb.2 (by omega)]
      · exact this
theorem both_lko {last : Int} {a b : Mono} (ha : okTail last a = true) (hb : okTail last b = true) : ris last (both a b) ∧ (∀ u, lk (both a b) u = (ex a u, ex b u)) ∧ ∀ t ∈ both a b, 1 ≤ t.2.1 + t.2.2 := by
  generalize hn : a.length + b.length = n
  induction n using Nat.strongRecOn generalizing a b last with
  | ind n ih =>
  cases a with
  | nil =>
    cases b with
    | nil => rw [both_nil]; exact ⟨trivial, fun u => rfl, fun t ht => by simp at ht⟩
    | cons y b =>
      simp only [okTail, Bool.and_eq_true, decide_eq_true_eq] at hb
      simp only [List.length_cons, List.length_nil] at hn
      obtain ⟨h1, h2, h3⟩ := ih (0 + b.length) (by omega) (a := []) (b := b) (last := y.1) rfl hb.2 (by simp)
      rw [both_right]
      refine ⟨⟨hb.1.1, hb.1.2.1, h1⟩, fun u => ?_, fun t ht => ?_⟩
      · rw [lk, h2, ex]
        simp only [ex]
        split <;> rfl
      · rcases List.mem_cons.1 ht with rfl | ht
        · simp only; omega
        · exact h3 t ht
  | cons x a =>
    cases b with
    | nil =>
      simp only [okTail, Bool.and_eq_true, decide_eq_true_eq] at ha
      simp only [List.length_cons, List.length_nil] at hn
      obtain ⟨h1, h2, h3⟩ := ih (a.length + 0) (by omega) (a := a) (b := []) (last := x.1) ha.2 rfl (by simp)
      rw [both_left]
      refine ⟨⟨ha.1.1, ha.1.2.1, h1⟩, fun u => ?_, fun t ht => ?_⟩
      · rw [lk, h2]
        simp only [ex]
        split <;> rfl
      · rcases List.mem_cons.1 ht with rfl | ht
        · simp only; omega
        · exact h3 t ht
    | cons y b =>
      have hA := ha
      have hB := hb
      simp only [okTail, Bool.and_eq_true, decide_eq_true_eq] at ha hb
      simp only [List.length_cons] at hn
      rw [both_cons]
      split
      · rename_i hlt
        have hb' : okTail x.1 (y :: b) = true := by simp only [okTail, Bool.and_eq_true, decide_eq_true_eq]; exact ⟨⟨hlt, hb.1.2⟩, hb.2⟩
        obtain ⟨h1, h2, h3⟩ := ih (a.length + (b.length + 1)) (by omega) (a := a) (b := y :: b) (last := x.1) ha.2 hb' (by simp)
        refine ⟨⟨ha.1.1, ha.1.2.1, h1⟩, fun u => ?_, fun t ht => ?_⟩
        · rw [lk, h2]
          by_cases hu : x.1 = u
          · rw [if_pos hu, ← hu, ok_low hb' (Int.le_refl _), ex, if_pos rfl]
          · rw [if_neg hu]; conv => rhs; rw [ex, if_neg hu]
        · rcases List.mem_cons.1 ht with rfl | ht
          · simp only; omega
          · exact h3 t ht
      · split
        · rename_i hnlt hlt
          have ha' : okTail y.1 (x :: a) = true := by simp only [okTail, Bool.and_eq_true, decide_eq_true_eq]; exact ⟨⟨hlt, ha.1.2⟩, ha.2⟩
          obtain ⟨h1, h2, h3⟩ := ih (a.length + 1 + b.length) (by omega) (a := x :: a) (b := b) (last := y.1) ha' hb.2 (by simp)
          refine ⟨⟨hb.1.1, hb.1.2.1, h1⟩, fun u => ?_, fun t ht => ?_⟩
          · rw [lk, h2]
            by_cases hu : y.1 = u
            · rw [if_pos hu, ← hu, ok_low ha' (Int.le_refl _), ex, if_pos rfl]
            · rw [if_neg hu, show ex (y :: b) u = ex b u by rw [ex, if_neg hu]]
          · rcases List.mem_cons.1 ht with rfl | ht
            · simp only; omega
            · exact h3 t ht
        · rename_i h3 h4
          have hxy : x.1 = y.1 := by omega
          rw [← hxy] at hb
          obtain ⟨h1, h2, h5⟩ := ih (a.length + b.length) (by omega) (a := a) (b := b) (last := x.1) ha.2 hb.2 (by simp)
          refine ⟨⟨ha.1.1, ha.1.2.1, h1⟩, fun u => ?_, fun t ht => ?_⟩
          · rw [lk, h2]
            by_cases hu : x.1 = u
            · rw [if_pos hu, ex, if_pos hu, ex, if_pos (by omega)]
            · rw [if_neg hu, show ex (y :: b) u = ex b u by rw [ex, if_neg (by omega)], show ex (x :: a) u = ex a u by rw [ex, if_neg hu]]
          · rcases List.mem_cons.1 ht with rfl | ht
            · simp only; omega
            · exact h5 t ht
theorem times_ex' {a b : Mono} (ha : okM a = true) (hb : okM b = true) (u : Int) : ex (timesM a b) u = ex a u + ex b u := by
  obtain ⟨h1, h2, -⟩ := both_lko ha hb
  unfold timesM
  rw [madeM_ex (by simp) h1, h2]
  have h3 := ok_nonneg ha u
  have h4 := ok_nonneg hb u
  simp only
  split <;> omega
theorem made_ok {last : Int} {l : List (Int × Int × Int)} (h : ris last l) : okTail last (madeM (· + ·) l) = true := by
  have weak : ∀ {l k : Int} {m : Mono}, okTail l m = true → k ≤ l → okTail k m = true := by
    intro l k m h hk
    cases m with
    | nil => rfl
    | cons x r =>
      simp only [okTail, Bool.and_eq_true, decide_eq_true_eq] at h ⊢
      exact ⟨by omega, h.2⟩
  induction l generalizing last with
  | nil => rfl
  | cons t r ih =>
    obtain ⟨h1, h2, h3⟩ := h
    have hr := ih h3
    rw [madeM]
    split
    · rename_i h4
      simp only [okTail, Bool.and_eq_true, decide_eq_true_eq]
      exact ⟨by omega, hr⟩
    · exact weak hr (by omega)
theorem times_ok {a b : Mono} (ha : okM a = true) (hb : okM b = true) : okM (timesM a b) = true := made_ok (both_lko ha hb).1
theorem times_comm {a b : Mono} (ha : okM a = true) (hb : okM b = true) : timesM a b = timesM b a :=
  ok_ext (times_ok ha hb) (times_ok hb ha) (fun v => by rw [times_ex' ha hb, times_ex' hb ha]; omega)
theorem times_assoc {a b c : Mono} (ha : okM a = true) (hb : okM b = true) (hc : okM c = true) : timesM (timesM a b) c = timesM a (timesM b c) :=
  ok_ext (times_ok (times_ok ha hb) hc) (times_ok ha (times_ok hb hc)) (fun v => by
    rw [times_ex' (times_ok ha hb) hc, times_ex' ha hb, times_ex' ha (times_ok hb hc), times_ex' hb hc]; omega)
theorem times_one_left {a : Mono} (ha : okM a = true) : timesM [] a = a := ok_ext (times_ok rfl ha) ha (fun v => by rw [times_ex' rfl ha]; simp [ex])
theorem times_one_right {a : Mono} (ha : okM a = true) : timesM a [] = a := ok_ext (times_ok ha rfl) ha (fun v => by rw [times_ex' ha rfl]; simp [ex])
theorem may_of_le {a b : Mono} (ha : okM a = true) (hb : mayM b = true) (h : ∀ u, ex a u ≤ ex b u) : mayM a = true := ok_may ha (fun u => Int.le_trans (h u) (ex_range hb u).2)

/-! Linear functionals -/
def okAll (p : PZ) : Prop := ∀ t ∈ p, okM t.2 = true
theorem may_okAll {p : PZ} (h : mayAll p) : okAll p := fun t ht => may_ok (h t ht)
def ev (f : Mono → Int) : PZ → Int
  | [] => 0
  | t :: r => t.1 * f t.2 + ev f r
theorem ev_nil (f : Mono → Int) : ev f [] = 0 := rfl
theorem ev_append (f : Mono → Int) (p q : PZ) : ev f (p ++ q) = ev f p + ev f q := by
  induction p with
  | nil => simp [ev]
  | cons t r ih => simp only [List.cons_append, ev, ih]; omega
theorem ev_congr {f g : Mono → Int} {p : PZ} (h : ∀ t ∈ p, f t.2 = g t.2) : ev f p = ev g p := by
  induction p with
  | nil => rfl
  | cons t r ih => simp only [ev]; rw [h t (by simp), ih (fun u hu => h u (by simp [hu]))]
theorem ev_add (f g : Mono → Int) (p : PZ) : ev (fun m => f m + g m) p = ev f p + ev g p := by
  induction p with
  | nil => rfl
  | cons t r ih => simp only [ev, ih, Int.mul_add]; omega
theorem ev_smul (c : Int) (f : Mono → Int) (p : PZ) : ev (fun m => c * f m) p = c * ev f p := by
  induction p with
  | nil => simp [ev]
  | cons t r ih => simp only [ev, ih, Int.mul_add, Int.mul_left_comm]
theorem ev_zero {f : Mono → Int} {p : PZ} (h : ∀ t ∈ p, f t.2 = 0) : ev f p = 0 := by
  induction p with
  | nil => rfl
  | cons t r ih => simp only [ev]; rw [h t (by simp), ih (fun u hu => h u (by simp [hu]))]; simp
theorem ev_swap (F : Mono → Mono → Int) (p q : PZ) : ev (fun a => ev (fun b => F a b) q) p = ev (fun b => ev (fun a => F a b) p) q := by
  induction p with
  | nil =>
    simp only [ev]
    exact (ev_zero (fun _ _ => rfl)).symm
  | cons t r ih =>
    simp only [ev]
    rw [ih, ← ev_smul, ← ev_add]
/-- term by term -/
theorem ev_map (f : Mono → Int) (g : Int × Mono → Int × Mono) (c : Mono → Int) (k : Mono → Mono) (h : ∀ t, g t = (t.1 * c t.2, k t.2)) (p : PZ) : ev f (p.map g) = ev (fun m => c m * f (k m)) p := by
  induction p with
  | nil => rfl
  | cons t r ih => simp only [List.map_cons, ev, ih, h, Int.mul_assoc]
theorem ev_filterMap (f : Mono → Int) (g : Int × Mono → Option (Int × Mono)) (s : Mono → Bool) (c : Mono → Int) (k : Mono → Mono) (h : ∀ t, g t = if s t.2 then some (t.1 * c t.2, k t.2) else none) (p : PZ) : ev f (p.filterMap g) = ev (fun m => if s m then c m * f (k m) else 0) p := by
  induction p with
  | nil => rfl
  | cons t r ih =>
    rw [List.filterMap_cons, h]
    cases hs : s t.2 with
    | true => simp only [if_true, ev, ih, hs, Int.mul_assoc]
    | false => simp only [Bool.false_eq_true, if_false, ev, ih, hs, Int.mul_zero, Int.zero_add]

/-- the functional of a monomial -/
def dl (m : Mono) : Mono → Int := fun x => if x = m then 1 else 0
theorem ev_dl (m : Mono) (p : PZ) : ev (dl m) p = cf p m := by
  induction p with
  | nil => rfl
  | cons t r ih =>
    simp only [ev, cf, ih, dl]
    split <;> simp
/-- lists that no functional tells apart -/
def Eqv (p q : PZ) : Prop := ∀ f, ev f p = ev f q
theorem Eqv.refl (p : PZ) : Eqv p p := fun _ => rfl
theorem Eqv.symm {p q : PZ} (h : Eqv p q) : Eqv q p := fun f => (h f).symm
theorem Eqv.trans {p q r : PZ} (h : Eqv p q) (k : Eqv q r) : Eqv p r := fun f => (h f).trans (k f)
theorem Eqv.cf {p q : PZ} (h : Eqv p q) (m : Mono) : cf p m = cf q m := by rw [← ev_dl, ← ev_dl]; exact h _
theorem Eqv.append {p q p' q' : PZ} (h : Eqv p p') (k : Eqv q q') : Eqv (p ++ q) (p' ++ q') := fun f => by rw [ev_append, ev_append, h f, k f]
theorem cf_filter (p : PZ) (m x : Mono) : cf (p.filter fun t => decide (t.2 ≠ m)) x = if x = m then 0 else cf p x := by
  induction p with
  | nil => simp [cf]
  | cons t r ih =>
    by_cases h : t.2 = m
    · rw [List.filter_cons_of_neg (by simpa using h), ih]
      by_cases hx : x = m
      · rw [if_pos hx, if_pos hx]
      · rw [if_neg hx, if_neg hx, cf, if_neg (by rw [h]; exact fun e => hx e.symm)]
        omega
    · rw [List.filter_cons_of_pos (by simpa using h), cf, ih]
      by_cases hx : x = m
      · rw [if_pos hx, if_pos hx, if_neg (by rw [hx]; exact h)]
        rfl
      · rw [if_neg hx, if_neg hx, cf]
theorem ev_filter (f : Mono → Int) (p : PZ) (m : Mono) : ev f p = cf p m * f m + ev f (p.filter fun t => decide (t.2 ≠ m)) := by
  induction p with
  | nil => simp [ev, cf]
  | cons t r ih =>
    by_cases h : t.2 = m
    · rw [List.filter_cons_of_neg (by simpa using h), ev, cf, if_pos h, ih, h, Int.add_mul]
      omega
    · rw [List.filter_cons_of_pos (by simpa using h), ev, cf, if_neg h, ih, ev]
      simp only [Int.zero_add]
      omega
theorem ev_of_zero {p : PZ} (h : ∀ m, cf p m = 0) (f : Mono → Int) : ev f p = 0 := by
  generalize hn : p.length = n
  induction n using Nat.strongRecOn generalizing p with
  | ind n ih =>
  cases p with
  | nil => rfl
  | cons t r =>
    rw [ev_filter f (t :: r) t.2, h]
    have hl : ((t :: r).filter fun u => decide (u.2 ≠ t.2)).length < n := by
      rw [List.filter_cons_of_neg (by simp), ← hn]
      exact Nat.lt_succ_of_le (List.length_filter_le _ _)
    rw [ih _ hl (fun m => by
      rw [cf_filter]
      split
      · rfl
      · exact h m) rfl]
    simp
theorem ev_neg (f : Mono → Int) (p : PZ) : ev f (p.map fun t => (-t.1, t.2)) = - ev f p := by
  induction p with
  | nil => rfl
  | cons t r ih => simp only [List.map_cons, ev, ih, Int.neg_mul]; omega
theorem eqv_of_cf {p q : PZ} (h : ∀ m, cf p m = cf q m) : Eqv p q := fun f => by
  have h1 : ev f (p ++ q.map fun t => (-t.1, t.2)) = 0 := ev_of_zero (fun m => by
    rw [← ev_dl, ev_append, ev_neg, ev_dl, ev_dl, h]
    omega) f
  rw [ev_append, ev_neg] at h1
  omega
theorem can_eq {p q : PZ} (hp : canP p) (hq : canP q) (h : Eqv p q) : p = q := canP_ext hp hq (fun m _ => h.cf m)

/-! Products -/
def mulL (p q : PZ) : PZ := p.flatMap fun t => q.map fun u => (t.1 * u.1, timesM t.2 u.2)
theorem ev_mulL (f : Mono → Int) (p q : PZ) : ev f (mulL p q) = ev (fun a => ev (fun b => f (timesM a b)) q) p := by
  unfold mulL
  induction p with
  | nil => rfl
  | cons t r ih =>
    rw [List.flatMap_cons, ev_append, ih]
    simp only [ev]
    congr 1
    rw [← ev_smul]
    clear ih
    induction q with
    | nil => rfl
    | cons u s ih2 =>
      simp only [List.map_cons, ev, ih2]
      rw [Int.mul_assoc, Int.mul_left_comm]
theorem Eqv.mul {p q p' q' : PZ} (h : Eqv p p') (k : Eqv q q') : Eqv (mulL p q) (mulL p' q') := fun f => by
  rw [ev_mulL, ev_mulL, h]
  have : (fun a => ev (fun b => f (timesM a b)) q) = fun a => ev (fun b => f (timesM a b)) q' := funext fun a => k _
  rw [this]
theorem mulL_ok {p q : PZ} (hp : okAll p) (hq : okAll q) : okAll (mulL p q) := fun t ht => by
  obtain ⟨a, ha, h⟩ := List.mem_flatMap.1 ht
  obtain ⟨b, hb, rfl⟩ := List.mem_map.1 h
  exact times_ok (hp a ha) (hq b hb)
theorem mul_comm_eqv {p q : PZ} (hp : okAll p) (hq : okAll q) : Eqv (mulL p q) (mulL q p) := fun f => by
  rw [ev_mulL, ev_mulL, ev_swap]
  refine ev_congr (fun u hu => ev_congr (fun t ht => ?_))
  rw [times_comm (hp t ht) (hq u hu)]
theorem mul_assoc_eqv {p q r : PZ} (hp : okAll p) (hq : okAll q) (hr : okAll r) : Eqv (mulL (mulL p q) r) (mulL p (mulL q r)) := fun f => by
  rw [ev_mulL, ev_mulL, ev_mulL]
  refine ev_congr (fun t ht => ?_)
  rw [ev_mulL]
  refine ev_congr (fun u hu => ev_congr (fun s hs => ?_))
  rw [times_assoc (hp t ht) (hq u hu) (hr s hs)]
theorem mul_add_left (p q r : PZ) : mulL (p ++ q) r = mulL p r ++ mulL q r := by
  unfold mulL
  rw [List.flatMap_append]
theorem mul_add_right (p q r : PZ) : Eqv (mulL p (q ++ r)) (mulL p q ++ mulL p r) := fun f => by
  rw [ev_append, ev_mulL, ev_mulL, ev_mulL, ← ev_add]
  refine ev_congr (fun t _ => ?_)
  rw [ev_append]

/-! The canonical list of any -/
theorem norm_can {p : PZ} (h : mayAll p) : canP (normP p) := (addP_can canP_nil h).1
theorem norm_cf {p : PZ} (h : mayAll p) (m : Mono) : cf (normP p) m = cf p m := by
  have := (addP_can canP_nil h).2 m
  rw [show cf [] m = 0 from rfl, Int.zero_add] at this
  exact this
theorem norm_eqv {p : PZ} (h : mayAll p) : Eqv (normP p) p := eqv_of_cf (norm_cf h)
theorem norm_eq {p q : PZ} (hp : mayAll p) (hq : canP q) (h : Eqv p q) : normP p = q := can_eq (norm_can hp) hq ((norm_eqv hp).trans h)
theorem norm_congr {p q : PZ} (hp : mayAll p) (hq : mayAll q) (h : Eqv p q) : normP p = normP q := norm_eq hp (norm_can hq) (h.trans (norm_eqv hq).symm)

theorem flatMap_same {α β : Type} {f g : α → List β} {l : List α} (h : ∀ x ∈ l, f x = g x) : l.flatMap f = l.flatMap g := by
  induction l with
  | nil => rfl
  | cons x r ih => rw [List.flatMap_cons, List.flatMap_cons, h x (by simp), ih (fun y hy => h y (by simp [hy]))]
/-- the program's product is the list's -/
theorem prodL_some {p q : PZ} (hp : mayAll p) (hq : mayAll q) (h : mayAll (mulL p q)) : prodL p q = (mulL p q).map some := by
  unfold prodL mulL
  rw [List.map_flatMap]
  refine flatMap_same (fun t ht => ?_)
  rw [List.map_map]
  refine List.map_congr_left (fun u hu => ?_)
  exact pair_yes (hp t ht) (hq u hu) (h _ (List.mem_flatMap.2 ⟨t, ht, List.mem_map.2 ⟨u, hu, rfl⟩⟩))
theorem times_norm {p q : PZ} (hp : mayAll p) (hq : mayAll q) (h : mayAll (mulL p q)) : timesP p q = some (normP (mulL p q)) := by
  unfold timesP
  rw [prodL_some hp hq h, allO_some]
  rfl
theorem times_some {p q c : PZ} (hp : mayAll p) (hq : mayAll q) (h : timesP p q = some c) : mayAll (mulL p q) ∧ c = normP (mulL p q) := by
  have hm : mayAll (mulL p q) := fun x hx => by
    obtain ⟨t, ht, h2⟩ := List.mem_flatMap.1 hx
    obtain ⟨u, hu, rfl⟩ := List.mem_map.1 h2
    cases hm : mayM (timesM t.2 u.2) with
    | true => rfl
    | false =>
      exfalso
      have h3 : (none : Option (Int × Mono)) ∈ prodL p q := List.mem_flatMap.2 ⟨t, ht, List.mem_map.2 ⟨u, hu, pair_no (hp t ht) (hq u hu) hm⟩⟩
      obtain ⟨l, r, e⟩ := List.append_of_mem h3
      unfold timesP at h
      rw [e, allO_none] at h
      cases h
  refine ⟨hm, ?_⟩
  rw [times_norm hp hq hm] at h
  exact (Option.some.inj h).symm
end Go.Proofs.YthplgldclilccaaGreat

namespace Go.Proofs.YthplgldclilccaaGreat

theorem norm_mem {p : PZ} (h : mayAll p) {t : Int × Mono} (ht : t ∈ normP p) : ∃ u ∈ p, u.2 = t.2 := by
  have h1 := (norm_can h).cf_mem ht
  rw [norm_cf h] at h1
  have h2 := ((norm_can h).1 t ht).1
  exact canP.mem_of_cf (by rw [h1]; exact h2)
theorem mulL_mem {p q : PZ} {x : Int × Mono} (h : x ∈ mulL p q) : ∃ t ∈ p, ∃ u ∈ q, x = (t.1 * u.1, timesM t.2 u.2) := by
  obtain ⟨t, ht, h2⟩ := List.mem_flatMap.1 h
  obtain ⟨u, hu, rfl⟩ := List.mem_map.1 h2
  exact ⟨t, ht, u, hu, rfl⟩
theorem mulL_get {p q : PZ} {t u : Int × Mono} (ht : t ∈ p) (hu : u ∈ q) : (t.1 * u.1, timesM t.2 u.2) ∈ mulL p q := List.mem_flatMap.2 ⟨t, ht, List.mem_map.2 ⟨u, hu, rfl⟩⟩
/-- a greater times a not lower one is greater -/
theorem times_gt {s a t b : Mono} (hs : mayM s = true) (ha : mayM a = true) (ht : mayM t = true) (hb : mayM b = true) (h1 : compareM s a = 1) (h2 : b = t ∨ compareM t b = 1) : timesM a b ≠ timesM s t := by
  intro e
  have hex : ∀ u, ex a u + ex b u = ex s u + ex t u := fun u => by
    rw [← times_ex ha hb, ← times_ex hs ht, e]
  obtain ⟨u, h3, h4⟩ := (compareM_one hs ha).1 h1
  rcases h2 with rfl | h2
  · have := hex u; omega
  · obtain ⟨v, h5, h6⟩ := (compareM_one ht hb).1 h2
    rcases Int.lt_trichotomy u v with g | g | g
    · have := hex v; have := h4 v g; omega
    · subst g; have := hex u; omega
    · have := hex u; have := h6 u g; omega
theorem mul_lead {s t : Int × Mono} {A B : PZ} (hA : canP (s :: A)) (hB : canP (t :: B)) : cf (mulL (s :: A) (t :: B)) (timesM s.2 t.2) = s.1 * t.1 := by
  have hs := (hA.1 s (by simp)).2
  have ht := (hB.1 t (by simp)).2
  rw [← ev_dl, ev_mulL]
  simp only [ev]
  have e1 : ev (fun a => t.1 * dl (timesM s.2 t.2) (timesM a t.2) + ev (fun b => dl (timesM s.2 t.2) (timesM a b)) B) A = 0 := by
    refine ev_zero (fun a ha => ?_)
    have hma := (hA.1 a (by simp [ha])).2
    have h1 := hA.head a ha
    have e2 : dl (timesM s.2 t.2) (timesM a.2 t.2) = 0 := if_neg (times_gt hs hma ht ht h1 (.inl rfl))
    have e3 : ev (fun b => dl (timesM s.2 t.2) (timesM a.2 b)) B = 0 := ev_zero (fun b hb => if_neg (times_gt hs hma ht (hB.1 b (by simp [hb])).2 h1 (.inr (hB.head b hb))))
    rw [e2, e3]
    simp
  have e4 : ev (fun b => dl (timesM s.2 t.2) (timesM s.2 b)) B = 0 := by
    refine ev_zero (fun b hb => if_neg (fun e => ?_))
    have hmb := (hB.1 b (by simp [hb])).2
    obtain ⟨u, h3, h4⟩ := (compareM_one ht hmb).1 (hB.head b hb)
    have := times_ex hs hmb u
    rw [e, times_ex hs ht] at this
    omega
  rw [e1, e4, show dl (timesM s.2 t.2) (timesM s.2 t.2) = 1 from if_pos rfl]
  simp
theorem mul_ne {A B D : PZ} (hA : canP A) (hB : canP B) (hA0 : A ≠ []) (hB0 : B ≠ []) (h : Eqv D (mulL A B)) : D ≠ [] := by
  rintro rfl
  cases A with
  | nil => exact hA0 rfl
  | cons s A =>
    cases B with
    | nil => exact hB0 rfl
    | cons t B =>
      have h1 := h.cf (timesM s.2 t.2)
      rw [mul_lead hA hB] at h1
      exact Int.mul_ne_zero (hA.1 s (by simp)).1 (hB.1 t (by simp)).1 h1.symm

/-- functionals of coefficients and derivatives -/
theorem ev_coef (f : Mono → Int) (p : PZ) (v e : Int) : ev f (coefP p v e) = ev (fun m => if ex m v = e then f (withoutM m v) else 0) p := by
  unfold coefP
  rw [ev_filterMap f (coefF v e) (fun m => decide (ex m v = e)) (fun _ => 1) (fun m => withoutM m v) (fun t => by
    unfold coefF
    by_cases h : ex t.2 v = e
    · rw [if_pos h, decide_eq_true h, if_pos rfl, Int.mul_one]
    · rw [if_neg h, decide_eq_false h, if_neg (by simp)])]
  refine ev_congr (fun t _ => ?_)
  by_cases h : ex t.2 v = e
  · rw [decide_eq_true h, if_pos rfl, if_pos h, Int.one_mul]
  · rw [decide_eq_false h, if_neg (by simp), if_neg h]
theorem ev_der (f : Mono → Int) (p : PZ) (v : Int) : ev f (derP p v) = ev (fun m => if ex m v = 0 then 0 else ex m v * f (decM m v)) p := by
  unfold derP
  rw [ev_filterMap f (derF v) (fun m => !decide (ex m v = 0)) (fun m => ex m v) (fun m => decM m v) (fun t => by
    unfold derF
    by_cases h : ex t.2 v = 0
    · rw [if_pos h, decide_eq_true h]; rfl
    · rw [if_neg h, decide_eq_false h]; rfl)]
  refine ev_congr (fun t _ => ?_)
  by_cases h : ex t.2 v = 0
  · rw [decide_eq_true h, if_pos h]; rfl
  · rw [decide_eq_false h, if_neg h]; rfl
theorem coef_eqv {p q : PZ} (h : Eqv p q) (v e : Int) : Eqv (coefP p v e) (coefP q v e) := fun f => by rw [ev_coef, ev_coef, h]
theorem der_eqv {p q : PZ} (h : Eqv p q) (v : Int) : Eqv (derP p v) (derP q v) := fun f => by rw [ev_der, ev_der, h]
theorem without_times {a b : Mono} (ha : mayM a = true) (hb : mayM b = true) (hab : mayM (timesM a b) = true) (v : Int) : withoutM (timesM a b) v = timesM (withoutM a v) (withoutM b v) := by
  have h1 := mayM_without ha v
  have h2 := mayM_without hb v
  have h3 : mayM (timesM (withoutM a v) (withoutM b v)) = true := may_of_le (times_ok (may_ok h1) (may_ok h2)) hab (fun u => by
    rw [times_ex h1 h2, times_ex ha hb, ex_without, ex_without]
    have := ex_nonneg ha u; have := ex_nonneg hb u
    split <;> omega)
  refine mayM_ext' (mayM_without hab v) h3 (fun u => ?_)
  rw [ex_without, times_ex ha hb, times_ex h1 h2, ex_without, ex_without]
  split <;> omega

theorem deg_met {p : PZ} (h : mayAll p) (h0 : p ≠ []) (v : Int) : ∃ t ∈ p, ex t.2 v = degP p v := by
  rcases Int.lt_or_le 0 (degP p v) with g | g
  · exact degP_met g
  · cases p with
    | nil => exact absurd rfl h0
    | cons t r =>
      have h1 := degP_le_mem (p := t :: r) (t := t) (by simp) v
      have h2 := ex_nonneg (h t (by simp)) v
      have h3 := (degP_range h v).1
      exact ⟨t, by simp, by omega⟩
theorem coef_top_ne {p : PZ} (h : mayAll p) (h0 : p ≠ []) (v : Int) : coefP p v (degP p v) ≠ [] := by
  obtain ⟨t, ht, e⟩ := deg_met h h0 v
  have : (t.1, withoutM t.2 v) ∈ coefP p v (degP p v) := List.mem_filterMap.2 ⟨t, ht, by unfold coefF; rw [if_pos e]⟩
  intro e2
  rw [e2] at this
  simp at this

section
variable {P Q C : PZ}
theorem top_eqv (hP : canP P) (hQ : canP Q) (h : timesP P Q = some C) (v : Int) : Eqv (coefP C v (degP P v + degP Q v)) (mulL (coefP P v (degP P v)) (coefP Q v (degP Q v))) := by
  obtain ⟨hm, rfl⟩ := times_some hP.may hQ.may h
  refine (coef_eqv (norm_eqv hm) v _).trans (fun f => ?_)
  rw [ev_coef, ev_mulL, ev_mulL, ev_coef]
  refine ev_congr (fun a ha => ?_)
  have ha1 := degP_le_mem ha v
  by_cases h1 : ex a.2 v = degP P v
  · rw [if_pos h1, ev_coef]
    refine ev_congr (fun b hb => ?_)
    have hb1 := degP_le_mem hb v
    have hab := hm _ (mulL_get ha hb)
    rw [times_ex (hP.1 a ha).2 (hQ.1 b hb).2]
    by_cases h2 : ex b.2 v = degP Q v
    · rw [if_pos h2, if_pos (by omega), without_times (hP.1 a ha).2 (hQ.1 b hb).2 hab]
    · rw [if_neg h2, if_neg (by omega)]
  · rw [if_neg h1]
    refine ev_zero (fun b hb => ?_)
    have hb1 := degP_le_mem hb v
    rw [times_ex (hP.1 a ha).2 (hQ.1 b hb).2, if_neg (by omega)]
theorem times_can (hP : canP P) (hQ : canP Q) (h : timesP P Q = some C) : canP C := by
  obtain ⟨hm, rfl⟩ := times_some hP.may hQ.may h
  exact norm_can hm
theorem times_mem (hP : canP P) (hQ : canP Q) (h : timesP P Q = some C) {t : Int × Mono} (ht : t ∈ C) : ∃ a ∈ P, ∃ b ∈ Q, ∀ u, ex t.2 u = ex a.2 u + ex b.2 u := by
  obtain ⟨hm, rfl⟩ := times_some hP.may hQ.may h
  obtain ⟨x, hx, e⟩ := norm_mem hm ht
  obtain ⟨a, ha, b, hb, rfl⟩ := mulL_mem hx
  exact ⟨a, ha, b, hb, fun u => by rw [← e]; exact times_ex (hP.1 a ha).2 (hQ.1 b hb).2 u⟩
theorem times_deg (hP : canP P) (hQ : canP Q) (hP0 : P ≠ []) (hQ0 : Q ≠ []) (h : timesP P Q = some C) (v : Int) : degP C v = degP P v + degP Q v := by
  have h1 := (degP_range hP.may v).1
  have h2 := (degP_range hQ.may v).1
  refine Int.le_antisymm (degP_le (by omega) (fun t ht => ?_)) ?_
  · obtain ⟨a, ha, b, hb, e⟩ := times_mem hP hQ h ht
    have := degP_le_mem ha v
    have := degP_le_mem hb v
    rw [e]
    omega
  · have h3 := mul_ne (coefP_can hP v _) (coefP_can hQ v _) (coef_top_ne hP.may hP0 v) (coef_top_ne hQ.may hQ0 v) (top_eqv hP hQ h v)
    obtain ⟨t, ht⟩ := List.exists_mem_of_ne_nil _ h3
    obtain ⟨u, hu, e, -⟩ := coefP_mem ht
    rw [← e]
    exact degP_le_mem hu v
theorem times_ne (hP : canP P) (hQ : canP Q) (hP0 : P ≠ []) (hQ0 : Q ≠ []) (h : timesP P Q = some C) : C ≠ [] := by
  obtain ⟨hm, rfl⟩ := times_some hP.may hQ.may h
  exact mul_ne hP hQ hP0 hQ0 (norm_eqv hm)
theorem class_le_lead {p : PZ} (h : canP p) {t : Int × Mono} (ht : t ∈ p) : classM t.2 ≤ leadP p := by
  rw [← clsP_lead h]
  exact foldl_max_mem (fun t : Int × Mono => classM t.2) p 0 t ht
theorem ex_le_lead {p : PZ} (h : canP p) {t : Int × Mono} (ht : t ∈ p) {v : Int} (hv : 0 < ex t.2 v) : v ≤ leadP p := by
  rcases Int.lt_or_le (leadP p) v with g | g
  · rw [ex_above_lead h ht g] at hv; omega
  · exact g
theorem times_lead (hP : canP P) (hQ : canP Q) (hP0 : P ≠ []) (hQ0 : Q ≠ []) (h : timesP P Q = some C) : leadP C = max (leadP P) (leadP Q) := by
  have hC := times_can hP hQ h
  have h1 := leadP_range hP
  have h2 := leadP_range hQ
  refine Int.le_antisymm (lead_le hC (by omega) (fun t ht u hu => ?_)) ?_
  · obtain ⟨a, ha, b, hb, e⟩ := times_mem hP hQ h ht
    rw [e, ex_above_lead hP ha (by omega), ex_above_lead hQ hb (by omega)]
    rfl
  · rcases Int.lt_or_le 0 (max (leadP P) (leadP Q)) with g | g
    · have hd := times_deg hP hQ hP0 hQ0 h (max (leadP P) (leadP Q))
      have hpos : 0 < degP C (max (leadP P) (leadP Q)) := by
        have a1 := (degP_range hP.may (max (leadP P) (leadP Q))).1
        have a2 := (degP_range hQ.may (max (leadP P) (leadP Q))).1
        rcases Int.le_total (leadP P) (leadP Q) with k | k
        · have e : max (leadP P) (leadP Q) = leadP Q := by omega
          rw [e] at hd g a1 a2 ⊢
          have := deg_lead_pos hQ g
          omega
        · have e : max (leadP P) (leadP Q) = leadP P := by omega
          rw [e] at hd g a1 a2 ⊢
          have := deg_lead_pos hP g
          omega
      obtain ⟨t, ht, e⟩ := degP_met hpos
      exact ex_le_lead hC ht (by omega)
    · have := leadP_range hC
      omega
/-- exponents of a part are not greater -/
def below (p q : PZ) : Prop := ∀ t ∈ p, ∃ u ∈ q, ∀ v, ex t.2 v ≤ ex u.2 v
theorem below_refl (p : PZ) : below p p := fun t ht => ⟨t, ht, fun _ => Int.le_refl _⟩
theorem below_coef {p : PZ} (h : mayAll p) (v e : Int) : below (coefP p v e) p := fun t ht => by
  obtain ⟨u, hu, -, rfl⟩ := coefP_mem ht
  refine ⟨u, hu, fun w => ?_⟩
  rw [ex_without]
  have := ex_nonneg (h u hu) w
  split <;> omega
theorem below_init {p : PZ} (h : canP p) : below (initP p) p := by
  unfold initP
  split
  · exact below_refl p
  · exact below_coef h.may _ _
theorem below_der {p : PZ} (h : canP p) (v : Int) : below (derP p v) p := fun t ht => by
  obtain ⟨u, hu, h1, rfl⟩ := derP_mem ht
  refine ⟨u, hu, fun w => ?_⟩
  have h2 := ex_nonneg (h.1 u hu).2 v
  rw [dec_ex (h.1 u hu).2 (by omega)]
  split
  · rename_i e; subst e; omega
  · exact Int.le_refl _
theorem below_mul {P' Q' : PZ} (hP : mayAll P) (hQ : mayAll Q) (hP' : mayAll P') (hQ' : mayAll Q') (h1 : below P' P) (h2 : below Q' Q) (hm : mayAll (mulL P Q)) : mayAll (mulL P' Q') := fun x hx => by
  obtain ⟨t, ht, u, hu, rfl⟩ := mulL_mem hx
  obtain ⟨a, ha, h3⟩ := h1 t ht
  obtain ⟨b, hb, h4⟩ := h2 u hu
  refine may_of_le (times_ok (may_ok (hP' t ht)) (may_ok (hQ' u hu))) (hm _ (mulL_get ha hb)) (fun v => ?_)
  rw [times_ex (hP' t ht) (hQ' u hu), times_ex (hP a ha) (hQ b hb)]
  have := h3 v
  have := h4 v
  omega
theorem times_init (hP : canP P) (hQ : canP Q) (hP0 : P ≠ []) (hQ0 : Q ≠ []) (h : timesP P Q = some C) : ∃ I, timesP (initP P) (initP Q) = some I ∧ (leadP P = leadP Q → I = initP C) := by
  obtain ⟨hm, hC⟩ := times_some hP.may hQ.may h
  have hm2 := below_mul hP.may hQ.may (initP_can hP).may (initP_can hQ).may (below_init hP) (below_init hQ) hm
  refine ⟨_, times_norm (initP_can hP).may (initP_can hQ).may hm2, fun e => ?_⟩
  have hCc := times_can hP hQ h
  have hl := times_lead hP hQ hP0 hQ0 h
  rw [← e, show max (leadP P) (leadP P) = leadP P by omega] at hl
  by_cases h0 : leadP P = 0
  · have e1 : initP P = P := by unfold initP; rw [if_pos h0]
    have e2 : initP Q = Q := by unfold initP; rw [if_pos (by omega)]
    have e3 : initP C = C := by unfold initP; rw [if_pos (by omega)]
    rw [e1, e2, e3]
    exact hC.symm
  · have h1 := top_eqv hP hQ h (leadP P)
    have hd := times_deg hP hQ hP0 hQ0 h (leadP P)
    refine norm_eq hm2 (initP_can hCc) ?_
    have e1 : initP P = coefP P (leadP P) (degP P (leadP P)) := by unfold initP; rw [if_neg h0]
    have e2 : initP Q = coefP Q (leadP P) (degP Q (leadP P)) := by unfold initP; rw [if_neg (by omega), ← e]
    have e3 : initP C = coefP C (leadP P) (degP P (leadP P) + degP Q (leadP P)) := by unfold initP; rw [if_neg (by omega), hl, hd]
    rw [e1, e2, e3]
    exact h1.symm
theorem dec_times {a b : Mono} (ha : mayM a = true) (hb : mayM b = true) (hab : mayM (timesM a b) = true) {v : Int} (h : 0 < ex a v) : decM (timesM a b) v = timesM (decM a v) b := by
  have h1 := dec_may (v := v) ha
  have h2 : mayM (timesM (decM a v) b) = true := may_of_le (times_ok (may_ok h1) (may_ok hb)) hab (fun u => by
    rw [times_ex h1 hb, times_ex ha hb, dec_ex ha h]
    split
    · rename_i e; subst e; omega
    · omega)
  have h3 := ex_nonneg hb v
  refine mayM_ext' (dec_may hab) h2 (fun u => ?_)
  rw [dec_ex hab (by rw [times_ex ha hb]; omega), times_ex ha hb, times_ex h1 hb, dec_ex ha h]
  split
  · rename_i e; subst e; omega
  · exact times_ex ha hb u
theorem der_mul (hP : canP P) (hQ : canP Q) (hm : mayAll (mulL P Q)) (v : Int) : Eqv (derP (mulL P Q) v) (mulL (derP P v) Q ++ mulL P (derP Q v)) := fun f => by
  rw [ev_append, ev_der, ev_mulL, ev_mulL, ev_mulL, ev_der]
  rw [← ev_add]
  refine ev_congr (fun a ha => ?_)
  rw [ev_der]
  have hma := (hP.1 a ha).2
  by_cases h1 : ex a.2 v = 0
  · rw [if_pos h1, Int.zero_add]
    refine ev_congr (fun b hb => ?_)
    have hmb := (hQ.1 b hb).2
    have hab := hm _ (mulL_get ha hb)
    have hba : mayM (timesM b.2 a.2) = true := by rw [times_comm (may_ok hmb) (may_ok hma)]; exact hab
    rw [times_ex hma hmb, h1, Int.zero_add]
    by_cases h2 : ex b.2 v = 0
    · rw [if_pos h2, if_pos h2]
    · have := ex_nonneg hmb v
      rw [if_neg h2, if_neg h2, times_comm (may_ok hma) (may_ok hmb), dec_times hmb hma hba (by omega), times_comm (may_ok (dec_may hmb)) (may_ok hma)]
  · have hp := ex_nonneg hma v
    rw [if_neg h1, ← ev_smul, ← ev_add]
    refine ev_congr (fun b hb => ?_)
    have hmb := (hQ.1 b hb).2
    have hab := hm _ (mulL_get ha hb)
    have hba : mayM (timesM b.2 a.2) = true := by rw [times_comm (may_ok hmb) (may_ok hma)]; exact hab
    have hq := ex_nonneg hmb v
    rw [times_ex hma hmb, if_neg (by omega)]
    by_cases h2 : ex b.2 v = 0
    · rw [if_pos h2, h2, Int.add_zero, Int.add_zero, dec_times hma hmb hab (by omega)]
    · have e : timesM (decM a.2 v) b.2 = timesM a.2 (decM b.2 v) := by
        rw [← dec_times hma hmb hab (by omega), times_comm (may_ok hma) (may_ok hmb), dec_times hmb hma hba (by omega), times_comm (may_ok (dec_may hmb)) (may_ok hma)]
      rw [if_neg h2, dec_times hma hmb hab (by omega), ← e, Int.add_mul]
theorem times_der (hP : canP P) (hQ : canP Q) (h : timesP P Q = some C) (v : Int) : ∃ X Y, timesP (derP P v) Q = some X ∧ timesP P (derP Q v) = some Y ∧ derP C v = normP (X ++ Y) := by
  obtain ⟨hm, rfl⟩ := times_some hP.may hQ.may h
  have d1 := derP_can hP v
  have d2 := derP_can hQ v
  have m1 := below_mul hP.may hQ.may d1.may hQ.may (below_der hP v) (below_refl Q) hm
  have m2 := below_mul hP.may hQ.may hP.may d2.may (below_refl P) (below_der hQ v) hm
  refine ⟨_, _, times_norm d1.may hQ.may m1, times_norm hP.may d2.may m2, ?_⟩
  have hx : mayAll (normP (mulL (derP P v) Q) ++ normP (mulL P (derP Q v))) := fun t ht => by
    rcases List.mem_append.1 ht with g | g
    · exact ((norm_can m1).1 t g).2
    · exact ((norm_can m2).1 t g).2
  refine (norm_eq hx (derP_can (norm_can hm) v) ?_).symm
  exact ((norm_eqv m1).append (norm_eqv m2)).trans ((der_mul hP hQ hm v).symm.trans (der_eqv (norm_eqv hm) v).symm)
theorem sum_der (hP : canP P) (hQ : canP Q) (v : Int) : derP (normP (P ++ Q)) v = normP (derP P v ++ derP Q v) := by
  have hm : mayAll (P ++ Q) := fun t ht => by
    rcases List.mem_append.1 ht with g | g
    · exact (hP.1 t g).2
    · exact (hQ.1 t g).2
  have hd : mayAll (derP P v ++ derP Q v) := fun t ht => by
    rcases List.mem_append.1 ht with g | g
    · exact ((derP_can hP v).1 t g).2
    · exact ((derP_can hQ v).1 t g).2
  refine (norm_eq hd (derP_can (norm_can hm) v) ?_).symm
  refine Eqv.trans ?_ (der_eqv (norm_eqv hm) v).symm
  unfold derP
  rw [List.filterMap_append]
  exact Eqv.refl _
end
end Go.Proofs.YthplgldclilccaaGreat

namespace Go.Proofs.YthplgldclilccaaGreat

theorem take_eq_succ {α : Type} {xs ys : List α} {k : Nat} {x : α} (h : xs.take k = ys.take k) (hx : xs[k]? = some x) (hy : ys[k]? = some x) : xs.take (k + 1) = ys.take (k + 1) := by
  rw [List.take_add_one, List.take_add_one, h, hx, hy]
theorem ne_of_at {α : Type} {xs ys : List α} {k : Nat} {x y : α} (hx : xs[k]? = some x) (hy : ys[k]? = some y) (h : x ≠ y) : xs ≠ ys := by
  rintro rfl
  rw [hx] at hy
  exact h (Option.some.inj hy)
end Go.Proofs.YthplgldclilccaaGreat

namespace Go.Proofs.YthplgldclilccaaGreat
open Go.RowKit

set_option maxRecDepth 100000 in
set_option maxHeartbeats 1000000 in
theorem equal_u32 {S : Nat → Prop} (va vb : Value) (xs ys : List Nat) (w : World) (ha : U32s S w va xs) (hb : U32s S w vb ys) (hS : ∀ k, S k → k < w.heap.size) :
    Calls Tryz.prog 82 #[va, vb] w fun e w' => e = .returned (.bool (decide (xs = ys))) ∧ Ext w w' := by
  have HA := hid ha
  have HB := hid hb
  have hla := ha.len_le
  have hlb := hb.len_le
  obtain ⟨aa, ca, rfl⟩ := ha.form
  obtain ⟨ab, cb, rfl⟩ := hb.form
  obtain ⟨na, hna⟩ : ∃ n, n = xs.length := ⟨_, rfl⟩
  obtain ⟨nb, hnb⟩ : ∃ n, n = ys.length := ⟨_, rfl⟩
  rw [← hna] at HA hla ⊢
  rw [← hnb] at HB hlb ⊢
  have HNA := hid hna
  have HNB := hid hnb
  clear ha hb hna hnb
  by_cases hne : na = nb
  · subst hne
    go_enter Tryz.func82, Tryz.ntmps82
    go_wp2
    go_loopw [5, 13] (fun _ i wr => ∃ k : Nat, k ≤ na ∧ i = .int .i64 k ∧ Ext w wr ∧ Hid (xs.take k = ys.take k)) (fun _ i _ => na - (intOf i).toNat)
    case atStart => exact ⟨0, Nat.zero_le _, rfl, Ext.refl _, rfl⟩
    case round =>
      obtain ⟨k, hk, rfl, hx, HE⟩ := hrel
      have HX := hid hx
      by_cases hlt : k < na
      · obtain ⟨x, hxk⟩ := some_of_lt (l := xs) (j := k) (by rw [← HNA.out]; exact hlt)
        obtain ⟨y, hyk⟩ := some_of_lt (l := ys) (j := k) (by rw [← HNB.out]; exact hlt)
        obtain ⟨b1, o1, rfl, -, hc1, hm1, hz1, h1⟩ := (HA.out.ext hx hS).cellAt hxk
        obtain ⟨b2, o2, rfl, -, hc2, hm2, hz2, h2⟩ := (HB.out.ext hx hS).cellAt hyk
        have HXK := hid hxk
        have HYK := hid hyk
        clear hxk hyk hx
        by_cases he : x = y
        · have q1 : ((x : Int) != (y : Int)) = false := by rw [he]; simp
          have H0 := hid he
          clear he
          go_wp2
          go_quiet (fail)
          go_wp2
          go_roundw
          case rel => exact ⟨k + 1, by omega, by go_num, HX.out.drewN _, take_eq_succ HE.out HXK.out (by rw [H0.out]; exact HYK.out)⟩
          case measure => simp only [intOf]; omega
        · have q1 : ((x : Int) != (y : Int)) = true := by rw [bne_iff_ne]; omega
          have HF : Hid (xs ≠ ys) := hid (ne_of_at HXK.out HYK.out he)
          clear he
          go_wp2
          go_quiet (fail)
          go_wp2
          go_ret
          exact ⟨by rw [decide_eq_false HF.out]; rfl, HX.out.drewN _⟩
      · obtain rfl : k = na := by omega
        have HF : Hid (xs = ys) := hid (by have := HE.out; rwa [List.take_of_length_le (by rw [← HNA.out]; exact Nat.le_refl _), List.take_of_length_le (by rw [← HNB.out]; exact Nat.le_refl _)] at this)
        clear hx
        go_wp2
        go_ret
        exact ⟨by rw [decide_eq_true HF.out]; rfl, HX.out⟩
  · have hb : ((na : Int) != (nb : Int)) = true := by rw [bne_iff_ne]; omega
    have HF : Hid (xs ≠ ys) := hid (fun e => hne (by rw [HNA.out, HNB.out, e]))
    clear hne
    go_enter Tryz.func82, Tryz.ntmps82
    go_wp2
    go_ret
    exact ⟨by rw [decide_eq_false HF.out]; rfl, Ext.refl _⟩
set_option maxRecDepth 100000 in
set_option maxHeartbeats 1000000 in
theorem equal_mono {S : Nat → Prop} (va vb : Value) (xs ys : Mono) (w : World) (ha : Pows S w va xs) (hb : Pows S w vb ys) (hS : ∀ k, S k → k < w.heap.size) :
    Calls Tryz.prog 83 #[va, vb] w fun e w' => e = .returned (.bool (decide (xs = ys))) ∧ Ext w w' := by
  have HA := hid ha
  have HB := hid hb
  have hla := ha.len_le
  have hlb := hb.len_le
  obtain ⟨aa, ca, rfl⟩ := ha.form
  obtain ⟨ab, cb, rfl⟩ := hb.form
  obtain ⟨na, hna⟩ : ∃ n, n = xs.length := ⟨_, rfl⟩
  obtain ⟨nb, hnb⟩ : ∃ n, n = ys.length := ⟨_, rfl⟩
  rw [← hna] at HA hla ⊢
  rw [← hnb] at HB hlb ⊢
  have HNA := hid hna
  have HNB := hid hnb
  clear ha hb hna hnb
  by_cases hne : na = nb
  · subst hne
    go_enter Tryz.func83, Tryz.ntmps83
    go_wp2
    go_loopw [5, 13] (fun _ i wr => ∃ k : Nat, k ≤ na ∧ i = .int .i64 k ∧ Ext w wr ∧ Hid (xs.take k = ys.take k)) (fun _ i _ => na - (intOf i).toNat)
    case atStart => exact ⟨0, Nat.zero_le _, rfl, Ext.refl _, rfl⟩
    case round =>
      obtain ⟨k, hk, rfl, hx, HE⟩ := hrel
      have HX := hid hx
      by_cases hlt : k < na
      · obtain ⟨x, hxk⟩ := some_of_lt (l := xs) (j := k) (by rw [← HNA.out]; exact hlt)
        obtain ⟨y, hyk⟩ := some_of_lt (l := ys) (j := k) (by rw [← HNB.out]; exact hlt)
        obtain ⟨b1, o1, c1', hv1, hc1, hm1, ⟨⟨hz1, hz2⟩, hz3, hz4⟩, h1, h1'⟩ := (HA.out.ext hx hS).at hxk
        obtain ⟨rfl, -, rfl⟩ : aa = some ⟨b1, o1, none⟩ ∧ na = xs.length ∧ ca = c1' := by simpa using hv1
        obtain ⟨b2, o2, c2', hv2, hc2, hm2, ⟨⟨hy1, hy2⟩, hy3, hy4⟩, h2, h2'⟩ := (HB.out.ext hx hS).at hyk
        obtain ⟨rfl, -, rfl⟩ : ab = some ⟨b2, o2, none⟩ ∧ na = ys.length ∧ cb = c2' := by simpa using hv2
        clear hv1 hv2
        rw [← HNA.out] at hc1
        rw [← HNB.out] at hc2
        have HXK := hid hxk
        have HYK := hid hyk
        clear hxk hyk hx
        by_cases he : x = y
        · have H0 := hid he
          obtain ⟨x1, x2⟩ := x
          obtain ⟨y1, y2⟩ := y
          obtain ⟨rfl, rfl⟩ : x1 = y1 ∧ x2 = y2 := by simpa using he
          simp only at h1 h1' h2 h2' hz1 hz2 hz3 hz4 hy1 hy2 hy3 hy4
          clear he
          go_wp2
          go_quiet (fail)
          go_wp2
          go_roundw
          case rel => exact ⟨k + 1, by omega, by go_num, HX.out.drewN _, take_eq_succ HE.out HXK.out HYK.out⟩
          case measure => simp only [intOf]; omega
        · have HF : Hid (xs ≠ ys) := hid (ne_of_at HXK.out HYK.out he)
          obtain ⟨x1, x2⟩ := x
          obtain ⟨y1, y2⟩ := y
          simp only at h1 h1' h2 h2' hz1 hz2 hz3 hz4 hy1 hy2 hy3 hy4
          have he' : x1 ≠ y1 ∨ (x1 = y1 ∧ x2 ≠ y2) := by
            by_cases h : x1 = y1
            · exact .inr ⟨h, fun h' => he (by rw [h, h'])⟩
            · exact .inl h
          clear he
          rcases he' with he | ⟨rfl, he⟩
          all_goals
            go_wp2
            go_quiet (fail)
            go_wp2
            go_ret
            exact ⟨by rw [decide_eq_false HF.out]; rfl, HX.out.drewN _⟩
      · obtain rfl : k = na := by omega
        have HF : Hid (xs = ys) := hid (by have := HE.out; rwa [List.take_of_length_le (by rw [← HNA.out]; exact Nat.le_refl _), List.take_of_length_le (by rw [← HNB.out]; exact Nat.le_refl _)] at this)
        clear hx
        go_wp2
        go_ret
        exact ⟨by rw [decide_eq_true HF.out]; rfl, HX.out⟩
  · have hb : ((na : Int) != (nb : Int)) = true := by rw [bne_iff_ne]; omega
    have HF : Hid (xs ≠ ys) := hid (fun e => hne (by rw [HNA.out, HNB.out, e]))
    clear hne
    go_enter Tryz.func83, Tryz.ntmps83
    go_wp2
    go_ret
    exact ⟨by rw [decide_eq_false HF.out]; rfl, Ext.refl _⟩

theorem TermV.of_cells {S : Nat → Prop} {w : World} {vm vo : Value} {t : RTerm} (h4 : U32s S w vm t.c.mag) (h5 : Pows S w vo t.m) : TermV S w (.agg #[.bool t.c.neg, vm, vo]) t := ⟨vm, vo, rfl, h4, h5⟩
theorem new3 {w W : World} {u v x : Value} {T : TypeId} (h : Ext (w.alloc (.cells #[u, v, x] T)) W) :
    W.cell? ⟨w.heap.size, 0, none⟩ = some u ∧ W.cell? ⟨w.heap.size, 1, none⟩ = some v ∧ W.cell? ⟨w.heap.size, 2, none⟩ = some x :=
  ⟨h.new_cell rfl, h.new_cell rfl, h.new_cell rfl⟩

set_option maxRecDepth 100000 in
set_option maxHeartbeats 2000000 in
theorem same_term {S : Nat → Prop} (va vb : Value) (s t : RTerm) (w : World) (ha : TermV S w va s) (hb : TermV S w vb t) (hS : ∀ k, S k → k < w.heap.size) :
    Calls Tryz.prog 81 #[va, vb] w fun e w' => e = .returned (.bool (decide (s = t))) ∧ Ext w w' := by
  obtain ⟨⟨sn, sm⟩, so⟩ := s
  obtain ⟨⟨tn, tm⟩, tq⟩ := t
  obtain ⟨v1, v2, rfl, hu1, hp1⟩ := ha
  obtain ⟨v3, v4, rfl, hu2, hp2⟩ := hb
  simp only at hu1 hp1 hu2 hp2 ⊢
  have CU := fun (W : World) (hW : Ext w W) => equal_u32 _ _ sm tm W (hu1.ext hW hS) (hu2.ext hW hS) (lt_ext hS hW)
  have CP := fun (W : World) (hW : Ext w W) => equal_mono _ _ so tq W (hp1.ext hW hS) (hp2.ext hW hS) (lt_ext hS hW)
  obtain ⟨a1, c1, rfl⟩ := hu1.form
  obtain ⟨a2, c2, rfl⟩ := hp1.form
  obtain ⟨a3, c3, rfl⟩ := hu2.form
  obtain ⟨a4, c4, rfl⟩ := hp2.form
  have HCU := hid CU
  have HCP := hid CP
  have hx : Ext w ((w.alloc (.cells #[.bool sn, .slice a1 sm.length c1, .slice a2 so.length c2] 76)).alloc (.cells #[.bool tn, .slice a3 tm.length c3, .slice a4 tq.length c4] 76)) := Ext.alloc (Ext.alloc (Ext.refl w) _) _
  have HX := hid hx
  have HM : Hid (∀ W, Ext ((w.alloc (.cells #[.bool sn, .slice a1 sm.length c1, .slice a2 so.length c2] 76)).alloc (.cells #[.bool tn, .slice a3 tm.length c3, .slice a4 tq.length c4] 76)) W →
      (W.cell? ⟨w.heap.size, 0, none⟩ = some (.bool sn) ∧ W.cell? ⟨w.heap.size, 1, none⟩ = some (.slice a1 sm.length c1) ∧ W.cell? ⟨w.heap.size, 2, none⟩ = some (.slice a2 so.length c2)) ∧
      (W.cell? ⟨w.heap.size + 1, 0, none⟩ = some (.bool tn) ∧ W.cell? ⟨w.heap.size + 1, 1, none⟩ = some (.slice a3 tm.length c3) ∧ W.cell? ⟨w.heap.size + 1, 2, none⟩ = some (.slice a4 tq.length c4))) := hid (fun W hW => by
    have k2 := new3 hW
    rw [size_alloc] at k2
    exact ⟨new3 ((Ext.alloc (Ext.refl _) _).trans hW), k2⟩)
  have HD : Hid ((decide ((⟨⟨sn, sm⟩, so⟩ : RTerm) = ⟨⟨tn, tm⟩, tq⟩)) = (decide (sn = tn) && (decide (sm = tm) && decide (so = tq)))) := hid (by
    rw [Bool.eq_iff_iff]
    simp [and_assoc])
  clear CU CP hu1 hp1 hu2 hp2 hx
  obtain ⟨m0, m1, m2⟩ := HM.out _ (Ext.refl _)
  by_cases h1 : sn = tn
  · subst h1
    cases hm : decide (sm = tm) with
    | false =>
      simp only [hm] at HCU
      have HF := hid hm
      clear hm
      go_enter Tryz.func81, Tryz.ntmps81
      go_wp2_with fail
      with_reducible refine (HCU.out _ HX.out).mono ?_
      rintro e w1 ⟨rfl, hx1⟩
      have HX1 := hid (HX.out.trans hx1)
      clear hx1
      go_wp2
      all_goals
        go_ret
        exact ⟨by rw [HD.out, HF.out]; simp, HX1.out⟩
    | true =>
      simp only [hm] at HCU
      have HF := hid hm
      clear hm
      go_enter Tryz.func81, Tryz.ntmps81
      go_wp2_with fail
      with_reducible refine (HCU.out _ HX.out).mono ?_
      rintro e w1 ⟨rfl, hx1⟩
      have HX1 := hid (HX.out.trans hx1)
      obtain ⟨⟨k0, k1, k2⟩, k3, k4, k5⟩ := HM.out _ hx1
      clear hx1
      go_wp2_with fail
      with_reducible refine (HCP.out _ HX1.out).mono ?_
      rintro e w2 ⟨rfl, hx2⟩
      have HX2 := hid (HX1.out.trans hx2)
      clear hx2
      go_wp2
      all_goals
        go_ret
        exact ⟨by rw [HD.out, HF.out]; simp, HX2.out⟩
  · have hb : (sn == tn) = false := by rw [beq_eq_false_iff_ne]; exact h1
    have HF := hid (decide_eq_false h1)
    clear h1
    go_enter Tryz.func81, Tryz.ntmps81
    go_wp2
    all_goals
      go_ret
      exact ⟨by rw [HD.out, HF.out]; simp, HX.out⟩

set_option maxRecDepth 100000 in
set_option maxHeartbeats 2000000 in
theorem equal_terms {S : Nat → Prop} (va vb : Value) (xs ys : List RTerm) (w : World) (ha : Terms S w va xs) (hb : Terms S w vb ys) (hS : ∀ k, S k → k < w.heap.size) :
    Calls Tryz.prog 80 #[va, vb, .func (.func 81) #[] #[]] w fun e w' => e = .returned (.bool (decide (xs = ys))) ∧ Ext w w' := by
  have hnot : ∀ (x : Bool) (w : World), (Op.unary .not (.bool x)).run Tryz.prog w = .ok (.bool (!x)) w := fun _ _ => rfl
  have HA := hid ha
  have HB := hid hb
  have hla := ha.len_le
  have hlb := hb.len_le
  obtain ⟨aa, ca, rfl⟩ := ha.form
  obtain ⟨ab, cb, rfl⟩ := hb.form
  obtain ⟨na, hna⟩ : ∃ n, n = xs.length := ⟨_, rfl⟩
  obtain ⟨nb, hnb⟩ : ∃ n, n = ys.length := ⟨_, rfl⟩
  rw [← hna] at HA hla ⊢
  rw [← hnb] at HB hlb ⊢
  have HNA := hid hna
  have HNB := hid hnb
  clear ha hb hna hnb
  by_cases hne : na = nb
  · subst hne
    go_enter Tryz.func80, Tryz.ntmps80
    go_wp2
    go_loopw [7, 8, 9, 17] (fun _ _ _ i wr => ∃ k : Nat, k ≤ na ∧ i = .int .i64 k ∧ Ext w wr ∧ Hid (xs.take k = ys.take k)) (fun _ _ _ i _ => na - (intOf i).toNat)
    case atStart => exact ⟨0, Nat.zero_le _, rfl, Ext.refl _, rfl⟩
    case round =>
      obtain ⟨k, hk, rfl, hx, HE⟩ := hrel
      have HX := hid hx
      by_cases hlt : k < na
      · obtain ⟨x, hxk⟩ := some_of_lt (l := xs) (j := k) (by rw [← HNA.out]; exact hlt)
        obtain ⟨y, hyk⟩ := some_of_lt (l := ys) (j := k) (by rw [← HNB.out]; exact hlt)
        obtain ⟨b1, o1, v1, v2, rfl, -, hc1, hm1, hz1, h1, h2, h3, h4, h5⟩ := (HA.out.ext hx hS).cellAt hxk
        obtain ⟨b2, o2, v3, v4, rfl, -, hc2, hm2, hz2, g1, g2, g3, g4, g5⟩ := (HB.out.ext hx hS).cellAt hyk
        have HXK := hid hxk
        have HYK := hid hyk
        have HC := hid (fun W (hW : Ext wr W) => same_term (S := S) _ _ x y W (TermV.of_cells (h4.ext hW (lt_ext hS hx)) (h5.ext hW (lt_ext hS hx))) (TermV.of_cells (g4.ext hW (lt_ext hS hx)) (g5.ext hW (lt_ext hS hx))) (lt_ext hS (hx.trans hW)))
        obtain ⟨a1, c1, rfl⟩ := h4.form
        obtain ⟨a2, c2, rfl⟩ := h5.form
        obtain ⟨a3, c3, rfl⟩ := g4.form
        obtain ⟨a4, c4, rfl⟩ := g5.form
        have HX2 := hid (Ext.alloc (Ext.alloc (Ext.refl wr) (.cells #[.bool x.c.neg, .slice a1 x.c.mag.length c1, .slice a2 x.m.length c2] 76)) (.cells #[.bool y.c.neg, .slice a3 y.c.mag.length c3, .slice a4 y.m.length c4] 76))
        have n1 := new3 (w := wr) (u := .bool x.c.neg) (v := .slice a1 x.c.mag.length c1) (x := .slice a2 x.m.length c2) (T := 76) (Ext.refl _)
        have m1' := (Ext.alloc (Ext.refl wr) (.cells #[.bool x.c.neg, .slice a1 x.c.mag.length c1, .slice a2 x.m.length c2] 76)).cell g1
        have m2' := (Ext.alloc (Ext.refl wr) (.cells #[.bool x.c.neg, .slice a1 x.c.mag.length c1, .slice a2 x.m.length c2] 76)).cell g2
        have m3' := (Ext.alloc (Ext.refl wr) (.cells #[.bool x.c.neg, .slice a1 x.c.mag.length c1, .slice a2 x.m.length c2] 76)).cell g3
        clear h4 h5 g4 g5 hxk hyk hx n1
        by_cases he : x = y
        · have H0 := hid he
          have hd : decide (x = y) = true := decide_eq_true he
          have HCT := HC
          simp only [hd] at HCT
          have HCC := hid HCT.out
          clear he hd HCT
          go_wp2_with fail
          with_reducible refine (HCC.out _ HX2.out).mono ?_
          rintro e w2 ⟨rfl, hx2⟩
          have HX3 := hid (HX.out.trans (HX2.out.trans hx2))
          clear hx2
          go_wp2
          go_roundw
          case rel => exact ⟨k + 1, by omega, by go_num, HX3.out, take_eq_succ HE.out HXK.out (by rw [H0.out]; exact HYK.out)⟩
          case measure => simp only [intOf]; omega
        · have HF : Hid (xs ≠ ys) := hid (ne_of_at HXK.out HYK.out he)
          have hd : decide (x = y) = false := decide_eq_false he
          have HCT := HC
          simp only [hd] at HCT
          have HCC := hid HCT.out
          clear he hd HCT
          go_wp2_with fail
          with_reducible refine (HCC.out _ HX2.out).mono ?_
          rintro e w2 ⟨rfl, hx2⟩
          have HX3 := hid (HX.out.trans (HX2.out.trans hx2))
          clear hx2
          go_wp2
          go_ret
          exact ⟨by rw [decide_eq_false HF.out]; rfl, HX3.out⟩
      · obtain rfl : k = na := by omega
        have HF : Hid (xs = ys) := hid (by have := HE.out; rwa [List.take_of_length_le (by rw [← HNA.out]; exact Nat.le_refl _), List.take_of_length_le (by rw [← HNB.out]; exact Nat.le_refl _)] at this)
        clear hx
        go_wp2
        go_ret
        exact ⟨by rw [decide_eq_true HF.out]; rfl, HX.out⟩
  · have hb : ((na : Int) != (nb : Int)) = true := by rw [bne_iff_ne]; omega
    have HF : Hid (xs ≠ ys) := hid (fun e => hne (by rw [HNA.out, HNB.out, e]))
    clear hne
    go_enter Tryz.func80, Tryz.ntmps80
    go_wp2
    go_ret
    exact ⟨by rw [decide_eq_false HF.out]; rfl, Ext.refl _⟩

set_option maxRecDepth 100000 in
theorem poly_same {S : Nat → Prop} (va vb : Value) (xs ys : List RTerm) (w : World) (ha : Terms S w va xs) (hb : Terms S w vb ys) (hS : ∀ k, S k → k < w.heap.size) :
    Calls Tryz.prog 34 #[va, vb] w fun e w' => e = .returned (.bool (decide (xs = ys))) ∧ Ext w w' := by
  have C := hid (equal_terms va vb xs ys w ha hb hS)
  obtain ⟨aa, ca, rfl⟩ := ha.form
  obtain ⟨ab, cb, rfl⟩ := hb.form
  generalize decide (xs = ys) = b at *
  clear ha hb
  go_enter Tryz.func34, Tryz.ntmps34
  go_wp2_with fail
  with_reducible refine C.out.mono ?_
  rintro e w2 ⟨rfl, hx2⟩
  have HX := hid hx2
  clear hx2
  go_wp2
  go_ret
  exact ⟨rfl, HX.out⟩
end Go.Proofs.YthplgldclilccaaGreat
