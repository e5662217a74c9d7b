/- The product of two whole numbers (one of them of fewer than 24 limbs); a number's own. A small number as a whole number. The derivative: the program's answer. The document: classes, degrees and ranks of polynomials. Which polynomials are too great for the law. Bounds on the limbs of coefficients, and what a small polynomial is. The product of two polynomials: the program's answer. Polynomials as sums: linear functionals on lists of terms, products, and that a canonical list is told by them. Plain. Degrees, initials, classes and derivatives of products and sums. Plain. Lists that are the same so far. Are two polynomials the same data? The program's calls on canonical polynomials: one form of contract for all. A polynomial is built again out of its coefficients. Plain. The document: a variable's power, coefficient, initial, tail. Pseudo-division, plain: its steps, by a meter or without one; that they end. Pseudo-division, plain: what its steps keep: the identity, exponents, sizes. The document's calls on canonical polynomials within bounds: one form of contract for all. A meter, or none, as one value: what its methods do; polynomials that lie apart from it. -/
import Derived.Test.YthdcaablomgboaaGreatProg
import Derived.Test.YthdcaablomgboaaGreatRs6
set_option maxRecDepth 100000
set_option maxHeartbeats 16000000
namespace Go.Proofs.YthdcaablomgboaaGreat
section
open Go.RowKit
theorem zlb {S : Nat → Prop} (va vb : Value) (xs ys : List Nat) (w : World) (ha : U32s S w va xs) (hb : U32s S w vb ys) (hS : ∀ k, S k → k < w.heap.size) (hr : xs.length + ys.length ≤ 1000000000000) (hc : xs.length < 24 ∨ ys.length < 24) :
  Calls Tryz.prog 181 #[.int .i64 24, va, vb] w fun e w' => ∃ v', e = .returned v' ∧ U32s (New w w') w' v' (rep B32 (val B32 xs * val B32 ys)) ∧ Ext w w' := by
 have HC := hid (zla va vb xs ys w ha hb hS hr)
 have hla := ha.len_le
 have hlb := hb.len_le
 obtain ⟨aa, ca, rfl⟩ := ha.form
 obtain ⟨a2, cb, rfl⟩ := hb.form
 clear ha hb
 obtain ⟨n, hn⟩ : ∃ n, n = xs.length := ⟨_, rfl⟩
 obtain ⟨m, hm⟩ : ∃ n, n = ys.length := ⟨_, rfl⟩
 rw [← hn, ← hm] at hc hr
 rw [← hn] at hla
 rw [← hm] at hlb
 rw [← hn, ← hm] at HC ⊢
 clear hn hm
 go_enter Tryz.func181, Tryz.ntmps181
 rcases Nat.lt_or_ge n m with h | h
 ·have q0 : min (n : Int) (m : Int) = (n : Int) := by omega
  have q1 : (n : Int) < 24 := by omega
  go_wp2_with fail
  with_reducible refine HC.out.mono ?_
  rintro e w1 ⟨v1, rfl, hp1, hx1⟩
  have HP1 := hid hp1
  have HX1 := hid hx1
  clear hp1 hx1
  go_wp2
  all_goals
   go_ret
   exact ⟨_, rfl, HP1.out, HX1.out⟩
 ·rcases Nat.lt_or_ge m n with h2 | h2
  ·have q0 : min (n : Int) (m : Int) = (m : Int) := by omega
   have q1 : (m : Int) < 24 := by omega
   go_wp2_with fail
   with_reducible refine HC.out.mono ?_
   rintro e w1 ⟨v1, rfl, hp1, hx1⟩
   have HP1 := hid hp1
   have HX1 := hid hx1
   clear hp1 hx1
   go_wp2
   all_goals
    go_ret
    exact ⟨_, rfl, HP1.out, HX1.out⟩
  ·obtain rfl : n = m := by omega
   have q1 : (n : Int) < 24 := by omega
   go_wp2_with fail
   with_reducible refine HC.out.mono ?_
   rintro e w1 ⟨v1, rfl, hp1, hx1⟩
   have HP1 := hid hp1
   have HX1 := hid hx1
   clear hp1 hx1
   go_wp2
   all_goals
    go_ret
    exact ⟨_, rfl, HP1.out, HX1.out⟩
def lenN (n : Nat) : Nat := (rep B32 n).length
theorem zea {zs : List Nat} (h : ∀ z ∈ zs, z < B32) : lenN (val B32 zs) ≤ zs.length := z4p h
theorem zrn {a b k : Nat} (ha : lenN a + lenN b ≤ k) : lenN (a * b) ≤ k := by
 refine z0x z0a _ k (Nat.lt_of_lt_of_le (Nat.mul_lt_mul'' (z19 z0a a) (z19 z0a b)) ?_)
 rw [← Nat.pow_add]
 exact Nat.pow_le_pow_right (by decide) ha
theorem zo7 {S : Nat → Prop} (va vb : Value) (xs ys : List Nat) (w : World) (ha : U32s S w va xs) (hb : U32s S w vb ys) (hS : ∀ k, S k → k < w.heap.size) (hr : xs.length + ys.length ≤ 1000000000000) (hc : lenN (val B32 xs) < 24 ∨ lenN (val B32 ys) < 24) :
  Calls Tryz.prog 166 #[va, vb] w fun e w' => ∃ v', e = .returned v' ∧ U32s (New w w') w' v' (rep B32 (val B32 xs * val B32 ys)) ∧ Ext w w' := by
 have C1 := hid (z8i va xs w ha hS (by omega))
 have C2 := hid (fun (W : World) (hW : Ext w W) => z8i vb ys W (hb.ext hW hS) (z08 hS hW) (by omega))
 have C3 := hid (fun (W : World) (u v : Value) (hu : U32s (Old W) W u (rep B32 (val B32 xs))) (hv : U32s (Old W) W v (rep B32 (val B32 ys))) => zlb u v _ _ W hu hv (fun _ h => h) (by have := zea ha.lt; have := zea hb.lt; unfold lenN at *; omega) hc)
 simp only [z1a z0a] at C3
 obtain ⟨aa, ca, rfl⟩ := ha.form
 obtain ⟨a2, cb, rfl⟩ := hb.form
 clear ha hb
 go_enter Tryz.func166, Tryz.ntmps166
 go_wp2_with fail
 with_reducible refine C1.out.mono ?_
 rintro e w1 ⟨v1, rfl, hp1, hx1⟩
 have HX1 := hid hx1
 have HP1 := hid (hp1.to (S' := Old w1) (Kept.refl _ _) New.lt)
 obtain ⟨a1, c1, rfl⟩ := hp1.form
 clear hp1 hx1
 go_wp2_with fail
 with_reducible refine (C2.out _ HX1.out).mono ?_
 rintro e w2 ⟨v2, rfl, hp2, hx2⟩
 have HX2 := hid (HX1.out.trans hx2)
 have C4 := hid (C3.out w2 _ v2 ((HP1.out.ext hx2 (fun _ h => h)).to (Kept.refl _ _) (fun k h => Nat.lt_of_lt_of_le h hx2.size)) (hp2.to (Kept.refl _ _) New.lt))
 obtain ⟨a3, c3, rfl⟩ := hp2.form
 clear hp2 hx2
 go_wp2_with fail
 with_reducible refine C4.out.mono ?_
 rintro e w3 ⟨v3, rfl, hp3, hx3⟩
 have HX3 := hid (HX2.out.trans hx3)
 have HP3 := hid (hp3.to (S' := New w w3) (Kept.refl _ _) (fun k h => ⟨Nat.le_trans HX2.out.size h.1, h.2⟩))
 clear hp3 hx3
 go_wp2
 all_goals
  go_ret
  exact ⟨_, rfl, HP3.out, HX3.out⟩
theorem zwz (xn yn : Bool) (a b : Nat) : sg (xn != yn) (a * b) = sg xn a * sg yn b := by
 unfold sg
 cases xn <;> cases yn <;> simp [Int.neg_mul, Int.mul_neg]
theorem zo8 {S : Nat → Prop} (vx vy : Value) (x y : RInt) (w : World) (hx : IntV S w vx x) (hy : IntV S w vy y) (hS : ∀ k, S k → k < w.heap.size) (hr : x.mag.length ≤ 100000000000) (hr2 : y.mag.length ≤ 100000000000)
  (hc : lenI (valI x) < 24 ∨ lenI (valI y) < 24) :
  Calls Tryz.prog 133 #[vx, vy] w fun e w' => ∃ v', e = .returned v' ∧ IntV (New w w') w' v' (ofI (valI x * valI y)) ∧ Ext w w' := by
 obtain ⟨xn, xs⟩ := x
 obtain ⟨yn, ys⟩ := y
 obtain ⟨vxm, rfl, hxu⟩ := hx
 obtain ⟨vym, rfl, hyu⟩ := hy
 simp only at hxu hyu hr hr2 ⊢
 have hc' : lenN (val B32 xs) < 24 ∨ lenN (val B32 ys) < 24 := by
  have e1 : lenI (valI ⟨xn, xs⟩) = lenN (val B32 xs) := by
   rw [← z5e]
   unfold ofI valI lenN
   cases xn <;> simp
  have e2 : lenI (valI ⟨yn, ys⟩) = lenN (val B32 ys) := by
   rw [← z5e]
   unfold ofI valI lenN
   cases yn <;> simp
  rwa [e1, e2] at hc
 have HCL := hid hc'
 have HX := hid hxu
 have HY := hid hyu
 obtain ⟨ax, cx, rfl⟩ := hxu.form
 obtain ⟨ay, cy, rfl⟩ := hyu.form
 clear hxu hyu hc hc'
 have HK := hid (Ext.alloc (Ext.alloc (Ext.alloc (Ext.refl w) (.cells #[.bool xn, .slice ax xs.length cx] 72)) (.cells #[.bool yn, .slice ay ys.length cy] 72)) (.cells #[.bool false, .slice none 0 0] 72))
 have HXK := hid (HX.out.ext HK.out hS)
 have HYK := hid (HY.out.ext HK.out hS)
 have HSK := hid (z08 hS HK.out)
 have hsz : w.heap.size + 1 + 1 < (((w.alloc (.cells #[.bool xn, .slice ax xs.length cx] 72)).alloc (.cells #[.bool yn, .slice ay ys.length cy] 72)).alloc (.cells #[.bool false, .slice none 0 0] 72)).heap.size := by simp
 have HSZ := hid hsz
 clear hsz
 have HQ : Hid (valI ⟨xn, xs⟩ * valI ⟨yn, ys⟩ = sg (xn != yn) (val B32 xs * val B32 ys)) := hid (by
  rw [zwz]
  rfl)
 obtain ⟨b1, b2, b3, b4⟩ := blk3 (Ext.refl (((w.alloc (.cells #[.bool xn, .slice ax xs.length cx] 72)).alloc (.cells #[.bool yn, .slice ay ys.length cy] 72)).alloc (.cells #[.bool false, .slice none 0 0] 72)))
 have c1 := b1 0 _ rfl
 have c2 := b1 1 _ rfl
 have c3 := b2 1 _ rfl
 have c4 := b2 0 _ rfl
 clear b1 b2 b3 b4
 have S0 := zu7 c1 c2 c3
 have S0' := zu7 c4 c4 c4
 have HS0 := hid (And.intro S0.1 (And.intro S0.2.1 (And.intro S0.2.2 S0'.1)))
 clear S0 S0' c1 c2 c3 c4
 go_enter Tryz.func133, Tryz.ntmps133
 go_wp2
 have S0 := HS0.out
 have HL : Hid ((rep B32 (val B32 xs * val B32 ys)).length ≤ 50000000000000) := hid (zrn (by have h1 := zea HX.out.lt; have h2 := zea HY.out.lt; omega))
 obtain ⟨xy, hxy⟩ : ∃ b, b = (xn != yn) := ⟨_, rfl⟩
 rw [← hxy] at HQ
 have hxyq : (!(xn == yn)) = xy := hxy.symm
 clear hxy
 go_region_held3 (fun W => W.cell? ⟨w.heap.size, 0, none⟩ = some (.bool xn) ∧ W.cell? ⟨w.heap.size, 1, none⟩ = some (.slice ax xs.length cx) ∧ W.cell? ⟨w.heap.size + 1, 1, none⟩ = some (.slice ay ys.length cy) ∧ W.cell? ⟨w.heap.size + 1, 0, none⟩ = some (.bool yn)) (first | exact S0 | exact S1 | exact S2 | exact ⟨z0b (z0b S2.1 (ab (by omega))) (ab (by omega)), z0b (z0b S2.2.1 (ab (by omega))) (ab (by omega)), z0b (z0b S2.2.2.1 (ab (by omega))) (ab (by omega)), z0b (z0b S2.2.2.2 (ab (by omega))) (ab (by omega))⟩)
  (first
   | (go_at_call 166; (with_reducible refine (zo7 _ _ xs ys _ (HX.out.ext (HK.out.drew) hS) (HY.out.ext (HK.out.drew) hS) (z08 hS (HK.out.drew)) (by omega) HCL.out).mono ?_); rintro e w1 ⟨v1, rfl, hu1, hx1⟩; have S1 := And.intro (hx1.cell S0.1) (And.intro (hx1.cell S0.2.1) (And.intro (hx1.cell S0.2.2.1) (hx1.cell S0.2.2.2))); have HX1 := hid hx1; have HU1 := hid hu1; obtain ⟨a1, n1, rfl⟩ := hu1.form; clear hx1 hu1)
   | (go_at_call 135; (with_reducible refine (z77 xy _ _ _ HU1.out New.lt HL.out).mono ?_); rintro e w2 ⟨v2, rfl, ⟨vm2, rfl, hu2⟩, hx2⟩; have S2 := And.intro (hx2.cell S1.1) (And.intro (hx2.cell S1.2.1) (And.intro (hx2.cell S1.2.2.1) (hx2.cell S1.2.2.2))); have HX2 := hid hx2; have HU2 := hid hu2; obtain ⟨a2, n2, rfl⟩ := hu2.form; obtain ⟨-, -, d3, d4⟩ := blk3 ((Ext.drew (Ext.refl _)).trans (HX1.out.trans hx2)); have e0 := d3 0 _ rfl; have e1 := d3 1 _ rfl; have HE := hid (And.intro e0 e1); have f0 := d4 0; have f1 := d4 1; clear d3 d4 hx2 hu2))
 all_goals
  go_wp2
  have hd := fun x y => z1o x y HE.out.1 HE.out.2
  refine bodyPost_ret (by simp [results, Tryz.results133, go_sem, (hd _ _).1, (hd _ _).2]; rfl) rfl ?_
  have hg := z5w (w0 := w) (b := w.heap.size + 1 + 1) rfl HU2.out (HK.out.drew.trans HX1.out) HX2.out (by omega) (Nat.lt_of_lt_of_le HSZ.out HX1.out.size) (.bool (ofI (sg xy (val B32 xs * val B32 ys))).neg) (.slice a2 (ofI (sg xy (val B32 xs * val B32 ys))).mag.length n2)
  rw [HQ.out]
  exact ⟨_, rfl, hg.1, hg.2⟩
end
section
open Go.RowKit
theorem zeb (n : Int) (w : World) (hn : -9223372036854775808 ≤ n ∧ n ≤ 9223372036854775807) :
  Calls Tryz.prog 89 #[.int .i64 n] w fun e w' => ∃ v', e = .returned v' ∧ IntV (New w w') w' v' (ofI n) ∧ Ext w w' := by
 obtain ⟨hn1, hn2⟩ := hn
 have HX0 := hid (Ext.alloc (Ext.refl w) (.cells #[.bool false, .slice none 0 0] 72))
 have HSZ : Hid (w.heap.size < (w.alloc (.cells #[.bool false, .slice none 0 0] 72)).heap.size) := hid (by rw [z02]; omega)
 by_cases h : n < 0
 ·obtain ⟨x, hx⟩ : ∃ x : Nat, (x : Int) = -n := ⟨(-n).toNat, by omega⟩
  have hxl : x < 18446744073709551616 := by omega
  have q1 : n % 18446744073709551616 = 18446744073709551616 - (x : Int) := by omega
  have q2 : IntKind.u64.wrap (-IntKind.u64.wrap n) = (x : Int) := by
   rw [IntKind.wrap_u64, IntKind.wrap_u64]
   omega
  have HS := hid (fun W : World => zg7 x W hxl)
  have HL : Hid ((rep B32 x).length ≤ 50000000000000) := hid (Nat.le_trans (z0x z0a x 2 (by show x < 4294967296 ^ 2; omega)) (by decide))
  have HQ : Hid (n = sg true x) := hid (by unfold sg; rw [if_pos rfl]; omega)
  clear hx hxl
  go_enter Tryz.func89, Tryz.ntmps89
  go_wp2_with fail
  with_reducible refine (HS.out _).mono ?_
  rintro e w1 ⟨v1, rfl, hp1, hx1⟩
  have HX1 := hid hx1
  have HP1 := hid hp1
  obtain ⟨a1, c1, rfl⟩ := hp1.form
  clear hp1 hx1
  go_wp2_with fail
  with_reducible refine (z77 true _ _ _ HP1.out New.lt HL.out).mono ?_
  rintro e w2 ⟨v2, rfl, ⟨vm2, rfl, hu2⟩, hx2⟩
  have HX2 := hid hx2
  have HU2 := hid hu2
  obtain ⟨a2, n2, rfl⟩ := hu2.form
  have e0 := (HX1.out.trans hx2).new_cell (i := 0) rfl
  have e1 := (HX1.out.trans hx2).new_cell (i := 1) rfl
  have f0 := (HX1.out.trans hx2).new_free 0
  have f1 := (HX1.out.trans hx2).new_free 1
  have HE := hid (And.intro e0 e1)
  rw [← HQ.out] at HU2 ⊢
  clear hx2 hu2
  go_wp2
  have hd := fun x y => z1o x y HE.out.1 HE.out.2
  refine bodyPost_ret (by simp [results, Tryz.results89, go_sem, (hd _ _).1, (hd _ _).2]; rfl) rfl ?_
  have hg := z5w (w0 := w) (b := w.heap.size) rfl HU2.out (HX0.out.trans HX1.out) HX2.out (Nat.le_refl _) (Nat.lt_of_lt_of_le HSZ.out HX1.out.size) (.bool (ofI n).neg) (.slice a2 (ofI n).mag.length n2)
  exact ⟨_, rfl, hg.1, hg.2⟩
 ·obtain ⟨x, hx⟩ : ∃ x : Nat, (x : Int) = n := ⟨n.toNat, by omega⟩
  have hxl : x < 18446744073709551616 := by omega
  have q2 : IntKind.u64.wrap n = (x : Int) := by
   rw [IntKind.wrap_u64]
   omega
  have HS := hid (fun W : World => zg7 x W hxl)
  have HL : Hid ((rep B32 x).length ≤ 50000000000000) := hid (Nat.le_trans (z0x z0a x 2 (by show x < 4294967296 ^ 2; omega)) (by decide))
  have HQ : Hid (n = sg false x) := hid (by unfold sg; simp; omega)
  clear hx hxl
  go_enter Tryz.func89, Tryz.ntmps89
  go_wp2_with fail
  with_reducible refine (HS.out _).mono ?_
  rintro e w1 ⟨v1, rfl, hp1, hx1⟩
  have HX1 := hid hx1
  have HP1 := hid hp1
  obtain ⟨a1, c1, rfl⟩ := hp1.form
  clear hp1 hx1
  go_wp2_with fail
  with_reducible refine (z77 false _ _ _ HP1.out New.lt HL.out).mono ?_
  rintro e w2 ⟨v2, rfl, ⟨vm2, rfl, hu2⟩, hx2⟩
  have HX2 := hid hx2
  have HU2 := hid hu2
  obtain ⟨a2, n2, rfl⟩ := hu2.form
  have e0 := (HX1.out.trans hx2).new_cell (i := 0) rfl
  have e1 := (HX1.out.trans hx2).new_cell (i := 1) rfl
  have f0 := (HX1.out.trans hx2).new_free 0
  have f1 := (HX1.out.trans hx2).new_free 1
  have HE := hid (And.intro e0 e1)
  rw [← HQ.out] at HU2 ⊢
  clear hx2 hu2
  go_wp2
  have hd := fun x y => z1o x y HE.out.1 HE.out.2
  refine bodyPost_ret (by simp [results, Tryz.results89, go_sem, (hd _ _).1, (hd _ _).2]; rfl) rfl ?_
  have hg := z5w (w0 := w) (b := w.heap.size) rfl HU2.out (HX0.out.trans HX1.out) HX2.out (Nat.le_refl _) (Nat.lt_of_lt_of_le HSZ.out HX1.out.size) (.bool (ofI n).neg) (.slice a2 (ofI n).mag.length n2)
  exact ⟨_, rfl, hg.1, hg.2⟩
end
section
open Go.RowKit
theorem zlc {z : Int} (h : 0 ≤ z ∧ z ≤ 10000) : lenI z ≤ 1 := z46 (by show z.natAbs < 4294967296 ^ 1; omega)
theorem zbv {a b : Int} {j k : Nat} (ha : lenI a ≤ j) (hb : lenI b ≤ k) : lenI (a * b) ≤ j + k := by
 refine z46 ?_
 rw [Int.natAbs_mul, Nat.pow_add]
 exact Nat.mul_lt_mul'' (z2j ha (Nat.le_refl _)) (z2j hb (Nat.le_refl _))
theorem z9j {w w' : World} {row : Option Nat} {b i : Nat} {v : Value} (hg : w.grownBy w' row) (hc : w.cell? ⟨b, i, none⟩ = some v) (hne : some b ≠ row) : w'.cell? ⟨b, i, none⟩ = some v :=
 (World.cell?_of_block (a := ⟨b, i, none⟩) (hg.block b (z09 hc) hne)).trans hc
end
section
open Go.RowKit
theorem zo9 {p : PZ} {k : Nat} {t : Int × Mono} (h : p[k]? = some t) : clsP (p.take (k + 1)) = max (clsP (p.take k)) (z11 t.2) := by
 rw [List.take_add_one, h]
 unfold clsP
 simp [List.foldl_append]
theorem zld {p : PZ} (h : z0i p) : 0 ≤ clsP p ∧ clsP p ≤ 200 :=
 ⟨z50 (fun t : Int × Mono => z11 t.2) p 0, z51 (fun t : Int × Mono => z11 t.2) p 0 200 (by omega) (fun t ht => (z4m (h t ht)).2)⟩
theorem RTs.cell2 {w : World} {a : Option Addr} {n cap k : Nat} {p : PZ} {t : Int × Mono} (h : RTs (Old w) w (.slice a n cap) p) (ht : p[k]? = some t) :
  ∃ b off ao co, a = some ⟨b, off, none⟩ ∧ n ≤ cap ∧ cap ≤ 9223372036854775807 ∧ w.cell? ⟨b, off + k * 3 + 2, none⟩ = some (.slice ao t.2.length co) ∧ Pows (Old w) w (.slice ao t.2.length co) t.2 := by
 obtain ⟨b, off, vd, vo, rfl, -, hn1, hm1, hSb, h1, h2, h3, h4, h5⟩ := h.cellAt ht
 obtain ⟨ao, co, rfl⟩ := h5.form
 exact ⟨b, off, ao, co, rfl, hn1, hm1, h3, h5⟩
theorem z64 (v : Value) (p : PZ) (w : World) (h : RTs (Old w) w v p) (hmay : z0i p) :
  Calls Tryz.prog 54 #[v] w fun e w' => e = .returned (.int .i64 (clsP p)) ∧ Ext w w' := by
 have H := hid h
 have HM := hid hmay
 have hl := h.len_le
 obtain ⟨a, cap, rfl⟩ := h.form
 clear h hmay
 go_enter Tryz.func54, Tryz.ntmps54
 go_wp2
 go_loopw [3, 4] (fun d i wr => ∃ k : Nat, k ≤ p.length ∧ i = .int .i64 k ∧ d = .int .i64 (clsP (p.take k)) ∧ Ext w wr) (fun _ i _ => p.length - (intOf i).toNat)
 case atStart => exact ⟨0, Nat.zero_le _, rfl, rfl, Ext.refl _⟩
 case round =>
  obtain ⟨k, hk, rfl, rfl, hx⟩ := hrel
  have HX := hid hx
  obtain ⟨hd1, hd2⟩ := zld (z80 HM.out k)
  by_cases hlt : k < p.length
  ·obtain ⟨t, ht⟩ := z00 hlt
   obtain ⟨b, off, ao, co, rfl, hn1, hm1, h3, h5⟩ := H.out.cell2 ht
   have hmm := HM.out t (List.mem_of_getElem? ht)
   have HS := hid (zo9 ht)
   obtain ⟨he1, he2⟩ := z4m hmm
   have g3 := Ext.cell hx h3
   have H5 := hid h5
   have C := fun (W : World) (hW : Ext w W) => zhb (S := Old w) _ t.2 W (H5.out.ext hW (fun _ h => h)) (z08 (fun _ h => h) hW)
   rw [z2k hmm] at C
   have HC := hid C
   clear h3 h5 hx ht C hmm
   generalize clsP (p.take k) = d at *
   generalize z11 t.2 = q at *
   go_wp2_with fail
   refine (HC.out wr HX.out).mono ?_
   rintro e w1 ⟨rfl, hx1⟩
   have k3 := hx1.cell g3
   have HX1 := hid (HX.out.trans hx1)
   clear hx1 g3
   by_cases hgt : d < q
   ·go_wp2_with fail
    refine (HC.out w1 HX1.out).mono ?_
    rintro e w2 ⟨rfl, hx2⟩
    have HX2 := hid (HX1.out.trans hx2)
    clear hx2
    go_wp2
    go_roundw
    case rel => exact ⟨k + 1, by omega, by go_num, by rw [HS.out]; exact congrArg (Value.int .i64) (by omega), HX2.out⟩
    case measure => simp only [intOf]; omega
   ·go_wp2
    go_roundw
    case rel => exact ⟨k + 1, by omega, by go_num, by rw [HS.out]; exact congrArg (Value.int .i64) (by omega), HX1.out⟩
    case measure => simp only [intOf]; omega
  ·obtain rfl : k = p.length := by omega
   have HE : Hid (clsP (p.take p.length) = clsP p) := hid (by rw [List.take_length])
   clear hx
   go_wp2
   all_goals
    go_ret
    exact ⟨by rw [HE.out]; rfl, HX.out⟩
theorem za5 (v : Value) (p : PZ) (x : Int) (w : World) (h : RTs (Old w) w v p) (hmay : z0i p) (hxb : -9223372036854775808 ≤ x ∧ x ≤ 9223372036854775807) :
  Calls Tryz.prog 79 #[v, .int .i64 x] w fun e w' => e = .returned (.int .i64 (degP p x)) ∧ Ext w w' := by
 have H := hid h
 have HM := hid hmay
 have HXB := hid hxb
 have hl := h.len_le
 obtain ⟨a, cap, rfl⟩ := h.form
 clear h hmay hxb
 go_enter Tryz.func79, Tryz.ntmps79
 go_wp2
 go_loopw [5, 6] (fun d i wr => ∃ k : Nat, k ≤ p.length ∧ i = .int .i64 k ∧ d = .int .i64 (degP (p.take k) x) ∧ Ext w wr) (fun _ i _ => p.length - (intOf i).toNat)
 case atStart => exact ⟨0, Nat.zero_le _, rfl, rfl, Ext.refl _⟩
 case round =>
  obtain ⟨k, hk, rfl, rfl, hx⟩ := hrel
  have HX := hid hx
  obtain ⟨hd1, hd2⟩ := z0u (z80 HM.out k) x
  by_cases hlt : k < p.length
  ·obtain ⟨t, ht⟩ := z00 hlt
   obtain ⟨b, off, ao, co, rfl, hn1, hm1, h3, h5⟩ := H.out.cell2 ht
   have hmm := HM.out t (List.mem_of_getElem? ht)
   have HS := hid (zfa ht x)
   obtain ⟨he1, he2⟩ := z1n hmm x
   have g3 := Ext.cell hx h3
   have H5 := hid h5
   have C := fun (W : World) (hW : Ext w W) => z9w (S := Old w) _ t.2 x W (H5.out.ext hW (fun _ h => h)) (z08 (fun _ h => h) hW) HXB.out
   rw [z2k hmm] at C
   have HC := hid C
   clear h3 h5 hx ht C hmm
   generalize degP (p.take k) x = d at *
   generalize ex t.2 x = q at *
   go_wp2_with fail
   refine (HC.out wr HX.out).mono ?_
   rintro e w1 ⟨rfl, hx1⟩
   have k3 := hx1.cell g3
   have HX1 := hid (HX.out.trans hx1)
   clear hx1 g3
   by_cases hgt : d < q
   ·go_wp2_with fail
    refine (HC.out w1 HX1.out).mono ?_
    rintro e w2 ⟨rfl, hx2⟩
    have HX2 := hid (HX1.out.trans hx2)
    clear hx2
    go_wp2
    go_roundw
    case rel => exact ⟨k + 1, by omega, by go_num, by rw [HS.out]; exact congrArg (Value.int .i64) (by omega), HX2.out⟩
    case measure => simp only [intOf]; omega
   ·go_wp2
    go_roundw
    case rel => exact ⟨k + 1, by omega, by go_num, by rw [HS.out]; exact congrArg (Value.int .i64) (by omega), HX1.out⟩
    case measure => simp only [intOf]; omega
  ·obtain rfl : k = p.length := by omega
   have HE : Hid (degP (p.take p.length) x = degP p x) := hid (by rw [List.take_length])
   clear hx
   go_wp2
   all_goals
    go_ret
    exact ⟨by rw [HE.out]; rfl, HX.out⟩
end
section
open Go.RowKit
def RPs (S : Nat → Prop) (w : World) (v : Value) (l : List PZ) : Prop :=
 ∃ b off, z31 S v l.length b off ∧ ∀ j p, l[j]? = some p → ∃ vp, w.cell? ⟨b, off + j, none⟩ = some vp ∧ RTs S w vp p
section
variable {S S' : Nat → Prop} {w w' : World} {v : Value} {l : List PZ}
theorem RPs.to (h : RPs S w v l) (hk : Kept S w w') (hS : ∀ k, S k → S' k) : RPs S' w' v l := by
 obtain ⟨b, off, hs, hc⟩ := h
 refine ⟨b, off, hs.mono hS, fun j p hj => ?_⟩
 obtain ⟨vp, h1, h2⟩ := hc j p hj
 exact ⟨vp, hk.cell (hs.in (z04 hj)) h1, h2.to hk hS⟩
theorem RPs.form (h : RPs S w v l) : ∃ a cap, v = .slice a l.length cap := by
 obtain ⟨b, off, ⟨a, cap, h1, _⟩, _⟩ := h
 exact ⟨a, cap, h1⟩
theorem RPs.len_le (h : RPs S w v l) : l.length ≤ 9223372036854775807 := by
 obtain ⟨b, off, ⟨a, cap, h1, h2, h3, _⟩, _⟩ := h
 unfold maxLen at h3
 omega
theorem RPs.cellAt {a : Option Addr} {n cap k : Nat} {p : PZ} (h : RPs S w (.slice a n cap) l) (ht : l[k]? = some p) :
  ∃ b off vp, a = some ⟨b, off, none⟩ ∧ n = l.length ∧ n ≤ cap ∧ cap ≤ 9223372036854775807 ∧ S b ∧ w.cell? ⟨b, off + k, none⟩ = some vp ∧ RTs S w vp p := by
 obtain ⟨b, off, ⟨a', cap', h1, h2, h3, h4, h5⟩, hc⟩ := h
 obtain ⟨rfl, rfl, rfl⟩ : a = a' ∧ n = l.length ∧ cap = cap' := by simpa using h1
 have hp : 0 < l.length := by have := z04 ht; omega
 obtain ⟨vp, g1, g2⟩ := hc k p ht
 exact ⟨b, off, vp, h4 hp, rfl, h2, h3, h5 hp, g1, g2⟩
end
theorem RPs.on {w W : World} {v : Value} {l : List PZ} (h : RPs (Old w) w v l) (hx : Ext w W) : RPs (Old W) W v l := h.to (Kept.ext hx (fun _ h => h)) (z5l hx)
end
section
open Go.RowKit
def zec (t : RTerm) : Bool := decide (20 < t.c.mag.length) || decide (12 < t.m.length)
def z6b (n : Int) (ts : List RTerm) : Bool := ts.any zec || decide (n < (ts.length : Int))
theorem zhv {S : Nat → Prop} (v : Value) (ts : List RTerm) (n : Int) (w : World) (h : z05 S w v ts) (_hS : ∀ k, S k → k < w.heap.size) (hn : -9223372036854775808 ≤ n ∧ n ≤ 9223372036854775807) :
  Calls Tryz.prog 30 #[v, .int .i64 n] w fun e w' => e = .returned (.bool (z6b n ts)) ∧ Ext w w' := by
 have H := hid h
 have hl := h.len_le
 obtain ⟨hn1, hn2⟩ := hn
 obtain ⟨a, cap, rfl⟩ := h.form
 clear h
 go_enter Tryz.func30, Tryz.ntmps30
 go_wp2
 go_loopw [5] (fun i wr => ∃ k : Nat, k ≤ ts.length ∧ i = .int .i64 k ∧ Ext w wr ∧ Hid ((ts.take k).any zec = false)) (fun i _ => ts.length - (intOf i).toNat)
 case atStart => exact ⟨0, Nat.zero_le _, rfl, Ext.refl _, hid rfl⟩
 case round =>
  obtain ⟨k, hk, rfl, hx, HM⟩ := hrel
  have HX := hid hx
  by_cases hlt : k < ts.length
  ·obtain ⟨t, ht⟩ := z00 hlt
   obtain ⟨b, off, vm, vo, rfl, -, hq1, hm1, hSb, h1, h2, h3, h4, h5⟩ := H.out.cellAt ht
   have HT : Hid (ts.take (k + 1) = ts.take k ++ [t]) := hid (by rw [List.take_add_one, ht]; rfl)
   have HQ := hid (List.mem_of_getElem? ht)
   have hl1 := h4.len_le
   have hl2 := h5.len_le
   have HBT : Hid (zec t = (decide (20 < t.c.mag.length) || decide (12 < t.m.length))) := hid rfl
   have g1 := Ext.cell hx h1
   have g2 := Ext.cell hx h2
   have g3 := Ext.cell hx h3
   obtain ⟨am, cm, rfl⟩ := h4.form
   obtain ⟨ao, co, rfl⟩ := h5.form
   generalize t.c.mag.length = x at *
   generalize t.m.length = y at *
   clear hx ht h1 h2 h3 h4 h5
   by_cases hbig : 20 < x
   ·have HF : Hid (z6b n ts = true) := hid (by
     unfold z6b
     rw [List.any_eq_true.2 ⟨t, HQ.out, by rw [HBT.out, decide_eq_true hbig]; rfl⟩]
     rfl)
    go_wp2
    all_goals
     go_ret
     exact ⟨by rw [HF.out]; rfl, HX.out⟩
   ·by_cases hbig2 : 12 < y
    ·have HF : Hid (z6b n ts = true) := hid (by
      unfold z6b
      rw [List.any_eq_true.2 ⟨t, HQ.out, by rw [HBT.out, decide_eq_true hbig2, Bool.or_true]⟩]
      rfl)
     go_wp2
     all_goals
      go_ret
      exact ⟨by rw [HF.out]; rfl, HX.out⟩
    ·go_wp2
     go_roundw
     case rel => exact ⟨k + 1, by omega, by go_num, HX.out, hid (by rw [HT.out, List.any_append, HM.out]; simp [HBT.out]; omega)⟩
     case measure => simp only [intOf]; omega
  ·obtain rfl : k = ts.length := by omega
   have HF : Hid (z6b n ts = decide (n < (ts.length : Int))) := hid (by
    have := HM.out
    rw [List.take_length] at this
    unfold z6b
    rw [this, Bool.false_or])
   clear hx
   go_wp2
   all_goals
    go_ret
    exact ⟨by rw [HF.out]; rfl, HX.out⟩
end
section
open Go.RowKit
def z4v (S : Nat → Prop) (w : World) (xs : List Value) (l : List PZ) : Prop := xs.length = l.length ∧ ∀ (j : Nat) (p : PZ), l[j]? = some p → ∃ vp, xs[j]? = some vp ∧ RTs S w vp p
theorem z4v.nil (S : Nat → Prop) (w : World) : z4v S w [] [] := ⟨rfl, fun j p h => by simp at h⟩
theorem z4v.to {S S' : Nat → Prop} {w w' : World} {xs : List Value} {l : List PZ} (h : z4v S w xs l) (hk : Kept S w w') (hS : ∀ k, S k → S' k) : z4v S' w' xs l :=
 ⟨h.1, fun j p hj => by
  obtain ⟨vp, h1, h2⟩ := h.2 j p hj
  exact ⟨vp, h1, h2.to hk hS⟩⟩
theorem z4v.snoc {S : Nat → Prop} {w : World} {xs : List Value} {l : List PZ} {v : Value} {p : PZ} (h : z4v S w xs l) (hv : RTs S w v p) : z4v S w (xs ++ [v]) (l ++ [p]) := by
 refine ⟨by simp [h.1], fun j q hj => ?_⟩
 by_cases hlt : j < l.length
 ·rw [List.getElem?_append_left hlt] at hj
  rw [List.getElem?_append_left (by rw [h.1]; exact hlt)]
  exact h.2 j q hj
 ·have hj2 := z04 hj
  simp only [List.length_append, List.length_cons, List.length_nil] at hj2
  obtain rfl : j = l.length := by omega
  rw [List.getElem?_append_right (Nat.le_refl _), Nat.sub_self] at hj
  obtain rfl : p = q := by simpa using hj
  refine ⟨v, ?_, hv⟩
  rw [← h.1, List.getElem?_append_right (Nat.le_refl _), Nat.sub_self]
  rfl
theorem zv9 {S : Nat → Prop} {w : World} {base : Nat} {e : TypeId} {v : Value} {xs : List Value} {l : List PZ} (h : w.ownsRow base e 1 v l.length xs) (hc : z4v S w xs l) (hB : ∀ k, base ≤ k → k < w.heap.size → S k) : RPs S w v l := by
 have hlt := h.lt
 rcases h.2 with ⟨rfl, h0⟩ | ⟨g, cap, cur, rfl, hg, hh, h1, h2, h3, h4⟩
 ·obtain rfl : l = [] := List.length_eq_zero_iff.1 h0
  exact ⟨0, 0, ⟨none, 0, rfl, Nat.zero_le _, by decide, fun h => absurd h (Nat.lt_irrefl 0), fun h => absurd h (Nat.lt_irrefl 0)⟩, fun j t hj => by simp at hj⟩
 ·refine ⟨g, 0, ⟨_, cap, rfl, h1, h2, fun _ => rfl, fun _ => hB g (hlt g rfl).1 (hlt g rfl).2⟩, fun j t hj => ?_⟩
  obtain ⟨vp, g1, g2⟩ := hc.2 j t hj
  have hb := z04 hj
  refine ⟨vp, ?_, g2⟩
  rw [h.cellAt (0 + j) (by omega), Nat.zero_add]
  exact g1
theorem Tryz.infoP : (Tryz.prog.info? 35).map (fun i => (i.zero, i.size, i.bytes)) = some (some (.slice none 0 0), 1, 24) := by kernel_rfl
section
variable {S : Nat → Prop} {w w1 w2 : World} {o : Value} {e : TypeId} {size n : Nat} {xs : List Value}
theorem zdc {l : List PZ} (hS : ∀ k, S k → k < w.heap.size) (h0 : Ext w w1) (h : z4v (Off S w w1 o) w1 xs l) (hx : Ext w1 w2) : z4v (Off S w w2 o) w2 xs l :=
 h.to (Kept.ext hx (fun k h => z1i hS h0 k h.1)) (fun k h => ⟨z3c hx.size k h.1, h.2⟩)
theorem zva {v : Value} {p : PZ} (hS : ∀ k, S k → k < w.heap.size) (h0 : Ext w w1) (ho : w1.ownsRow w.heap.size e size o n xs) (_hx : Ext w1 w2) (h : RTs (Plus S w1 w2) w2 v p) : RTs (Off S w w2 o) w2 v p :=
 h.to (Kept.refl _ _) (fun k hk => by
  rcases hk with hk | hk
  ·refine ⟨.inl hk, fun e => ?_⟩
   have := (ho.lt k e.symm).1
   have := hS k hk
   omega
  ·refine ⟨.inr ⟨Nat.le_trans h0.size hk.1, hk.2⟩, fun e => ?_⟩
   have := (ho.lt k e.symm).2
   have := hk.1
   omega)
theorem zg8 {v3 : Value} {w3 : World} {l : List PZ} (hS : ∀ k, S k → k < w.heap.size) (hx : Ext w w2) (h : z4v (Off S w w2 o) w2 xs l) (hg : w2.grownBy w3 o.ownBlock) (hb : v3.ownBlock = o.ownBlock ∨ v3.ownBlock = some (w2.heap.size + 1)) : z4v (Off S w w3 v3) w3 xs l :=
 h.to (Kept.grown hg (fun k hk => ⟨z1i hS hx k hk.1, hk.2⟩)) (fun k hk => ⟨z3c hg.size k hk.1, z8q hS hx hk hb⟩)
end
def fitT (ts : List RTerm) : Prop := zuo ts ∧ ts.length ≤ 1000000
theorem zvb {ts : List RTerm} (hok : okT ts) (h : fitT ts) : szP (toP ts) := by
 refine ⟨by rw [z5m]; exact Nat.le_trans h.2 (by decide), fun t ht => ?_⟩
 obtain ⟨u, hu, rfl⟩ := List.mem_map.1 ht
 exact zn8 (hok u hu) (h.1 u hu)
theorem zed {p : PZ} (h : szP p) (k : Nat) : szP (p.take k) := ⟨Nat.le_trans (by rw [List.length_take]; exact Nat.min_le_right _ _) h.1, fun t ht => h.2 t (List.mem_of_mem_take ht)⟩
theorem zoa {p : PZ} (h : canP p) (k : Nat) : addP [] (p.take k) = p.take k := z2n (zf1 h (List.take_sublist _ _))
theorem zle {ts : List RTerm} (h : mayT ts = true) : z0n ts = toP ts := by unfold z0n; simp [h]
end
section
open Go.RowKit
theorem zob {p : PZ} {k : Nat} (h : bndZ k p) (hk : k ≤ 40000000000000) : z48 (ofP p) := fun t ht => by
 obtain ⟨u, hu, rfl⟩ := List.mem_map.1 ht
 show (ofI u.1).mag.length ≤ _
 rw [z5e]
 exact Nat.le_trans (z46 (h u hu)) hk
theorem zoc {ts : List RTerm} {k : Nat} (hok : okT ts) (h : ∀ t ∈ ts, t.c.mag.length ≤ k) : bndZ k (z0n ts) := fun u hu => by
 unfold z0n at hu
 split at hu
 ·obtain ⟨t, ht, rfl⟩ := List.mem_map.1 hu
  exact z2j (z4e (hok t ht)) (h t ht)
 ·simp at hu
theorem zj3 {p : PZ} {k : Nat} (h : bndZ k p) (v e : Int) : bndZ k (z1y p v e) := fun u hu => by
 obtain ⟨t, ht, -, rfl⟩ := z6p hu
 exact h t ht
theorem zro {p : PZ} {k : Nat} (h : bndZ k p) : bndZ k (z1m p) := by
 unfold z1m
 split
 ·exact h
 ·exact zj3 h _ _
theorem zrp {p : PZ} {k : Nat} (h : bndZ k p) : ∀ t ∈ ofP p, t.c.mag.length ≤ k := fun t ht => by
 obtain ⟨u, hu, rfl⟩ := List.mem_map.1 ht
 show (ofI u.1).mag.length ≤ _
 rw [z5e]
 exact z46 (h u hu)
theorem zod {n : Nat} {ts : List RTerm} (h : z6b n ts = false) : ts.length ≤ n ∧ ∀ t ∈ ts, t.c.mag.length ≤ 20 ∧ t.m.length ≤ 12 := by
 unfold z6b at h
 rw [Bool.or_eq_false_iff] at h
 obtain ⟨k1, k2⟩ := h
 refine ⟨?_, fun t ht => ?_⟩
 ·rw [decide_eq_false_iff_not] at k2
  omega
 ·have k3 := (List.any_eq_false.1 k1) t ht
  unfold zec at k3
  simp at k3
  omega
theorem zhw (p : PZ) : (ofP p).length = p.length := by unfold ofP; rw [List.length_map]
theorem zoe (ts : List RTerm) : (z0n ts).length ≤ ts.length := by
 unfold z0n
 split
 ·unfold toP; rw [List.length_map]; exact Nat.le_refl _
 ·simp
end
section
open Go.RowKit
def z5p (w : World) : Option PZ → Ending → World → Prop
 | none => zv5 w 8
 | some p => z8v w p
theorem zof {ts : List RTerm} {k : Nat} {t : RTerm} (h : ts[k]? = some t) : (toP ts)[k]? = some (valI t.c, t.m) := by
 unfold toP
 rw [List.getElem?_map, h]
 rfl
theorem zrq (xs : PZ) (x : Int × Mono) : ofP (xs ++ [x]) = ofP xs ++ [⟨ofI x.1, x.2⟩] := by
 unfold ofP
 rw [List.map_append]
 rfl
theorem zog {ts : List RTerm} (h : mayT ts = true) {k : Nat} {t : RTerm} (ht : ts[k]? = some t) : mayM t.m = true := z8u h t (List.mem_of_getElem? ht)
theorem zlf {S : Nat → Prop} (vp vq : Value) (ps qs : List RTerm) (w : World) (L : Nat) (hp : z05 S w vp ps) (hq : z05 S w vq qs) (hS : ∀ k, S k → k < w.heap.size) (hmp : mayT ps = true) (hmq : mayT qs = true)
  (hrp : ∀ t ∈ ps, t.c.mag.length ≤ L) (hrq : ∀ t ∈ qs, t.c.mag.length ≤ L) (hL : L ≤ 1000000000) (hc : (∀ t ∈ ps, lenI (valI t.c) < 24) ∨ (∀ t ∈ qs, lenI (valI t.c) < 24)) (hn : ps.length * qs.length ≤ 1000000000000) :
  Calls Tryz.prog 86 #[vp, vq] w (z5p w (z0e (toP ps) (toP qs))) := by
 have hnot : ∀ (x : Bool) (w : World), (Op.unary .not (.bool x)).run Tryz.prog w = .ok (.bool (!x)) w := fun _ _ => rfl
 have HP := hid hp
 have HQ := hid hq
 have HMP := hid (fun (k : Nat) (t : RTerm) (ht : ps[k]? = some t) => zog hmp ht)
 have HMQ := hid (fun (k : Nat) (t : RTerm) (ht : qs[k]? = some t) => zog hmq ht)
 have HRP := hid hrp
 have HRQ := hid hrq
 have HCC := hid hc
 have HNM := hid hn
 have hpl := hp.len_le
 have hql := hq.len_le
 have CA := ziz (S := fun k => S k ∨ k = w.heap.size) _ [ps, qs] (w.alloc (.cells #[vp, vq] 23)) (zbq hp hq hS 23) (zj0 hS _) (fun p hp => by
  rcases List.mem_cons.1 hp with rfl | hp
  ·exact fun t ht => Nat.le_trans (hrp t ht) (by omega)
  ·rw [List.mem_singleton.1 hp]; exact fun t ht => Nat.le_trans (hrq t ht) (by omega))
 rw [show [ps, qs].all mayT = true by simp [hmp, hmq]] at CA
 obtain ⟨ap, cp, rfl⟩ := hp.form
 obtain ⟨aq, cq, rfl⟩ := hq.form
 obtain ⟨n, hnn⟩ : ∃ n, n = ps.length := ⟨_, rfl⟩
 obtain ⟨m, hmm⟩ : ∃ n, n = qs.length := ⟨_, rfl⟩
 rw [← hnn] at HP CA hpl HNM ⊢
 rw [← hmm] at HQ CA hql HNM ⊢
 have HN := hid hnn
 have HM := hid hmm
 have HCA := hid CA
 have HS := hid hS
 clear hp hq hmp hmq hrp hrq hc hn hnn hmm CA hS
 go_enter Tryz.func86, Tryz.ntmps86
 go_wp2_with fail
 with_reducible refine HCA.out.mono ?_
 rintro e w1 ⟨rfl, hx1⟩
 have HX1 := hid ((Ext.alloc (Ext.refl w) _).trans hx1)
 have HP1 := hid (HP.out.onS HX1.out HS.out)
 have HQ1 := hid (HQ.out.onS HX1.out HS.out)
 have HS1 := hid (z08 HS.out HX1.out)
 clear hx1
 go_wp2
 go_loopw [6, 20] (fun o i wr => ∃ (k : Nat) (xs : PZ) (cs : List Value), k ≤ n ∧ i = .int .i64 k ∧ Ext w1 wr ∧ Hid (z56 (toP ps) (toP qs) (k * m) xs) ∧ Hid (xs.length = k * m) ∧ Hid (wr.ownsRow w1.heap.size 83 3 o xs.length cs) ∧ Hid (z0y (z5n w1 wr o) wr cs (ofP xs))) (fun _ i _ => n - (intOf i).toNat)
 case atStart => exact ⟨0, [], [], Nat.zero_le _, rfl, Ext.refl _, hid (by rw [Nat.zero_mul]; exact zbh _ _), hid (by rw [Nat.zero_mul]; rfl), World.ownsRow_nil _ _ _ _, rfl⟩
 case round =>
  obtain ⟨k, xs, cs, hk, rfl, hx, HF, HXL, HW, HY⟩ := hrel
  have HX := hid hx
  by_cases hlt : k < n
  ·obtain ⟨t, ht⟩ := z00 (l := ps) (j := k) (by rw [← HN.out]; exact hlt)
   obtain ⟨b, off, vd, vo, rfl, -, hn1, hm1, hSb, h1, h2, h3, h4, h5⟩ := HP1.out.cellAt ht
   have h1 := hx.cell h1
   have h2 := hx.cell h2
   have h3 := hx.cell h3
   have HT := hid ht
   have H4 := hid h4
   have H5 := hid h5
   obtain ⟨ad, cd, rfl⟩ := h4.form
   obtain ⟨ao, co, rfl⟩ := h5.form
   obtain ⟨ng, hng⟩ : ∃ b, b = t.c.neg := ⟨_, rfl⟩
   obtain ⟨nd, hnd⟩ : ∃ b, b = t.c.mag.length := ⟨_, rfl⟩
   obtain ⟨nm, hnm⟩ : ∃ b, b = t.m.length := ⟨_, rfl⟩
   have HNG := hid hng
   rw [← hnd] at H4
   rw [← hnm] at H5
   rw [← hng] at h1
   rw [← hnd] at h2
   rw [← hnm] at h3
   have HXA := hid (Ext.alloc (Ext.refl wr) (.cells #[.bool ng, .slice ad nd cd, .slice ao nm co] 83))
   clear ht h4 h5 hx hng hnd hnm
   go_wp2
   obtain ⟨wo, rfl⟩ : ∃ wo : World, wo = wr := ⟨_, rfl⟩
   go_loopw [6, 26] (fun o i wr => ∃ (j : Nat) (xs : PZ) (cs : List Value), j ≤ m ∧ i = .int .i64 j ∧ Ext w1 wr ∧ Hid (wo.heap.size < wr.heap.size) ∧ Hid (wr.cell? ⟨wo.heap.size, 0, none⟩ = some (.bool ng) ∧ wr.cell? ⟨wo.heap.size, 1, none⟩ = some (.slice ad nd cd) ∧ wr.cell? ⟨wo.heap.size, 2, none⟩ = some (.slice ao nm co)) ∧ Hid (some wo.heap.size ≠ o.ownBlock) ∧
    Hid (z56 (toP ps) (toP qs) (k * m + j) xs) ∧ Hid (xs.length = k * m + j) ∧ Hid (wr.ownsRow w1.heap.size 83 3 o xs.length cs) ∧ Hid (z0y (z5n w1 wr o) wr cs (ofP xs))) (fun _ i _ => m - (intOf i).toNat)
   case atStart => exact ⟨0, xs, cs, Nat.zero_le _, rfl, HX.out.trans HXA.out, hid (by rw [z02]; exact Nat.lt_succ_self _), hid ⟨z01 _ _ _ rfl rfl, z01 _ _ _ rfl rfl, z01 _ _ _ rfl rfl⟩, hid (fun e => by have := (HW.out.lt _ e.symm).2; omega), HF, HXL, z0z HW.out HXA.out, z1d HY.out HXA.out⟩
   case round =>
    clear HF HXL HW HY
    obtain ⟨j, xs, cs, hj, rfl, hx, HGS, HKC, HNB, HF, HXL, HW, HY⟩ := hrel
    have HXW := hid hx
    by_cases hlt2 : j < m
    ·obtain ⟨u, hu⟩ := z00 (l := qs) (j := j) (by rw [← HM.out]; exact hlt2)
     obtain ⟨b2, off2, ve, vp2, rfl, -, hn2, hm2, hSb2, g1, g2, g3, g4, g5⟩ := (HQ1.out.onS HXW.out HS1.out).cellAt hu
     have HU := hid hu
     have HAT := hid (zfl (zof HT.out) (zof hu))
     rw [show (toP qs).length = m by rw [z5m, HM.out]] at HAT
     have hmt := HMP.out k t HT.out
     have hmu := HMQ.out j u hu
     obtain ⟨k0, k1, k2⟩ := HKC.out
     obtain ⟨ae, ce, rfl⟩ := g4.form
     obtain ⟨aq2, cq2, rfl⟩ := g5.form
     obtain ⟨mg, hmg⟩ : ∃ b, b = u.c.neg := ⟨_, rfl⟩
     obtain ⟨ne, hne⟩ : ∃ b, b = u.c.mag.length := ⟨_, rfl⟩
     obtain ⟨nq, hnq⟩ : ∃ b, b = u.m.length := ⟨_, rfl⟩
     have HMG := hid hmg
     have G4 := hid g4
     have G5 := hid g5
     rw [← hne] at G4
     rw [← hnq] at G5
     rw [← hmg] at g1
     rw [← hne] at g2
     rw [← hnq] at g3
     have HXB := hid (Ext.alloc (Ext.refl wr) (.cells #[.bool mg, .slice ae ne ce, .slice aq2 nq cq2] 83))
     have k3 := HXB.out.cell k0
     have k4 := HXB.out.cell k1
     have k5 := HXB.out.cell k2
     have hS2 := z08 HS1.out HXW.out
     have HCT := hid (zl7 (S := S) (.slice ao nm co) (.slice aq2 nq cq2) t.m u.m _ (H5.out.ext (hx.trans HXB.out) HS1.out) (G5.out.ext HXB.out hS2) (z08 hS2 HXB.out))
     have HCM := hid (fun (W : World) (hW : Ext wr W) => zo8 (S := S) (.agg #[.bool ng, .slice ad nd cd]) (.agg #[.bool mg, .slice ae ne ce]) t.c u.c W ⟨_, by rw [HNG.out], H4.out.ext (hx.trans hW) HS1.out⟩ ⟨_, by rw [HMG.out], G4.out.ext hW hS2⟩ (z08 hS2 hW) (Nat.le_trans (HRP.out t (List.mem_of_getElem? HT.out)) (by omega)) (Nat.le_trans (HRQ.out u (List.mem_of_getElem? hu)) (by omega))
      (HCC.out.imp (fun h => h t (List.mem_of_getElem? HT.out)) (fun h => h u (List.mem_of_getElem? hu))))
     have hkm : k * m + j < n * m := by
      have : (k + 1) * m ≤ n * m := Nat.mul_le_mul_right _ (by omega)
      rw [Nat.add_mul] at this
      omega
     have HKB : Hid (xs.length ≤ 1000000000000) := hid (by have h1 := HNM.out; have h2 := HXL.out; omega)
     cases hmx : mayM (z0q t.m u.m) with
     | false =>
      have he : z7g t.m u.m = 8 := by unfold z7g; rw [hmt, hmu, hmx]; rfl
      have HNO := hid (zbj HF.out (HAT.out.trans (congrArg some (znr hmt hmu hmx))))
      rw [he] at HCT
      clear he hmx hmt hmu hx hu g4 g5 hmg hne hnq k0 k1 k2 hkm hS2
      go_wp2_with fail
      with_reducible refine HCT.out.mono ?_
      rintro e w2 ⟨v2, rfl, hp2, hx2⟩
      have HX2 := hid (HX1.out.trans (HXW.out.trans (HXB.out.trans hx2)))
      clear hp2 hx2
      go_wp2
      all_goals
       go_ret2
       rw [HNO.out]
       exact ⟨rfl, HX2.out⟩
     | true =>
      have he : z7g t.m u.m = 0 := by unfold z7g; rw [hmt, hmu, hmx]; rfl
      have hv : zal t.m u.m = z0q t.m u.m := by unfold zal; rw [hmt, hmu, hmx]; rfl
      have HYES := hid (zbi HF.out (HAT.out.trans (congrArg some (ziu hmt hmu hmx))))
      rw [he, hv] at HCT
      clear he hv hmx hmt hmu hx hu g4 g5 hmg hne hnq k0 k1 k2 hkm hS2
      go_wp2_with fail
      with_reducible refine HCT.out.mono ?_
      rintro e w2 ⟨v2, rfl, hp2, hx2⟩
      have HX2 := hid (HXB.out.trans hx2)
      have l0 := hx2.cell k3
      have l1 := hx2.cell k4
      have r0 := hx2.new_cell (i := 0) rfl
      have r1 := hx2.new_cell (i := 1) rfl
      have HP2 := hid (hp2.to (S' := New wr w2) (Kept.refl _ _) (fun k h => ⟨Nat.le_trans HXB.out.size h.1, h.2⟩))
      obtain ⟨a2, c2, rfl⟩ := hp2.form
      obtain ⟨n2, hn2'⟩ : ∃ b, b = (z0q t.m u.m).length := ⟨_, rfl⟩
      rw [← hn2'] at HP2 ⊢
      have HCM2 := hid (HCM.out w2 (HXB.out.trans hx2))
      clear hp2 hx2 hn2' k3 k4 k5
      go_wp2_with fail
      with_reducible refine HCM2.out.mono ?_
      rintro e w3 ⟨v3, rfl, ⟨vm3, rfl, hu3⟩, hx3⟩
      have HX3 := hid (HX2.out.trans hx3)
      have HXW3 := hid (HXW.out.trans (HX2.out.trans hx3))
      have HW3 := hid (z0z HW.out HX3.out)
      obtain ⟨b3, hb3⟩ : ∃ b, b = (ofI (valI t.c * valI u.c)).neg := ⟨_, rfl⟩
      have hone : z0y (New wr w3) w3 [.bool (ofI (valI t.c * valI u.c)).neg, vm3, .slice a2 n2 c2] [⟨ofI (valI t.c * valI u.c), z0q t.m u.m⟩] :=
       z0y.single (t := ⟨ofI (valI t.c * valI u.c), z0q t.m u.m⟩) (hu3.to (Kept.refl _ _) (fun k h => ⟨Nat.le_trans HX2.out.size h.1, h.2⟩)) (HP2.out.to (Kept.ext hx3 (fun _ h => h.2)) (fun k h => ⟨h.1, Nat.lt_of_lt_of_le h.2 hx3.size⟩))
      have HY3 := hid ((z1d HY.out HX3.out).append (zbe HXW.out.size HW.out hone))
      rw [← zrq xs (valI t.c * valI u.c, z0q t.m u.m)] at HY3
      obtain ⟨a3, c3, rfl⟩ := hu3.form
      obtain ⟨n3, hn3⟩ : ∃ b, b = (ofI (valI t.c * valI u.c)).mag.length := ⟨_, rfl⟩
      rw [← hb3, ← hn3] at HY3 ⊢
      clear hone hu3 hx3 hb3 hn3 l0 l1 r0 r1
      go_wp2_with (at_builtin; refine z1q _ rfl (.tmp 41) (.tmp 49) 22 rfl w1.heap.size 83 (.agg #[.bool false, .slice none 0 0, .slice none 0 0]) 3 56 Tryz.underlying22 Tryz.infoTerm rfl (by decide) _ xs.length cs rfl HW3.out #[.bool b3, .slice a3 n3 c3, .slice a2 n2 c2] rfl (z28 rfl rfl rfl) rfl HKB.out (by decide) HXW3.out.size ?_; intro v5 w5 hown hg hbk; have HW5 := hid hown; have HG5 := hid hg; have HBK := hid hbk; clear hown hg hbk)
      go_roundw
      case rel =>
       refine ⟨j + 1, xs ++ [(valI t.c * valI u.c, z0q t.m u.m)], cs ++ (#[.bool b3, .slice a3 n3 c3, .slice a2 n2 c2] : Array Value).toList, by omega, by go_num, z2a HXW3.out HW3.out HG5.out, hid (Nat.lt_of_lt_of_le HGS.out (Nat.le_trans HX3.out.size HG5.out.size)), hid ⟨z9j HG5.out (HX3.out.cell HKC.out.1) HNB.out, z9j HG5.out (HX3.out.cell HKC.out.2.1) HNB.out, z9j HG5.out (HX3.out.cell HKC.out.2.2) HNB.out⟩, hid (fun e => by rcases HBK.out with h | h; exact HNB.out (e.trans h); exact absurd (Option.some.inj (e.trans h)) (by have := HGS.out; have := HX3.out.size; omega)), HYES, ?_, ?_, z3v HY3.out HG5.out HBK.out (Nat.le_succ _)⟩
       ·show _ = _; rw [List.length_append, HXL.out]; rfl
       ·show World.ownsRow _ _ _ _ _ _ _; rw [List.length_append]; exact HW5.out
      case measure => simp only [intOf]; omega
    ·obtain rfl : m = j := by omega
     clear hx
     go_wp2
     go_roundw
     case rel =>
      have e : (k + 1) * m = k * m + m := by rw [Nat.add_mul, Nat.one_mul]
      exact ⟨k + 1, xs, cs, by omega, by go_num, HXW.out, by rw [e]; exact HF, by rw [e]; exact HXL, HW, HY⟩
     case measure => simp only [intOf]; omega
  ·obtain rfl : n = k := by omega
   have hall := zd7 HF.out (by rw [z5m, z5m, ← HN.out, ← HM.out])
   have HALL := hid hall
   have ho := z6o (S := Old wr) (p := ofP xs) (by rw [z7e]; exact HW.out) (HY.out.to (Kept.refl _ _) (fun _ h => h.1.2)) (fun k h1 h2 => h2)
   have HCO := hid (z59 u6 (ofP xs) wr (L + L) ho (fun _ h => h) (fun t ht => by
    obtain ⟨x, hx, rfl⟩ := List.mem_map.1 ht
    exact (z7f HF.out hx).1) (fun t ht => by
    obtain ⟨x, hx, rfl⟩ := List.mem_map.1 ht
    obtain ⟨-, a, ha, b, hb, e⟩ := z7f HF.out hx
    obtain ⟨a', ha', rfl⟩ := List.mem_map.1 ha
    obtain ⟨b', hb', rfl⟩ := List.mem_map.1 hb
    show (ofI x.1).mag.length ≤ _
    rw [z5e, e]
    exact zbv (Nat.le_trans (z4e (HP.out.okT a' ha')) (HRP.out a' ha')) (Nat.le_trans (z4e (HQ.out.okT b' hb')) (HRQ.out b' hb'))) (by omega) (by rw [z7e, HXL.out]; have := HNM.out; omega))
   rw [z6h] at HCO
   clear hx hall ho
   go_wp2_with fail
   with_reducible refine HCO.out.mono ?_
   rintro e w2 ⟨v2, rfl, hp2, hx2⟩
   have HP2 := hid (hp2.to (S' := New w w2) (Kept.refl _ _) (fun k h => ⟨Nat.le_trans (HX1.out.trans HX.out).size h.1, h.2⟩))
   have HX2 := hid ((HX1.out.trans HX.out).trans hx2)
   clear hp2 hx2
   go_wp2
   all_goals
    go_ret2
    rw [HALL.out]
    exact ⟨_, rfl, HP2.out, HX2.out⟩
end
section
/-! Monomials without a greatest exponent -/
def z1v (last : Int) : Mono → Bool
 | [] => true
 | x :: r => decide (last < x.1 ∧ x.1 ≤ 200 ∧ 1 ≤ x.2) && z1v x.1 r
def okM (m : Mono) : Bool := z1v 0 m
theorem zlg {l : Int} {m : Mono} (h : z0d l m = true) : z1v l m = true := by
 induction m generalizing l with
 | nil => rfl
 | cons x r ih =>
  simp only [z0d, z1v, Bool.and_eq_true, decide_eq_true_eq] at h ⊢
  exact ⟨by omega, ih h.2⟩
theorem zj4 {m : Mono} (h : mayM m = true) : okM m = true := zlg h
theorem zx0 {l : Int} {m : Mono} (h : z1v l m = true) (he : ∀ u, ex m u ≤ 10000) : z0d l m = true := by
 induction m generalizing l with
 | nil => rfl
 | cons x r ih =>
  simp only [z0d, z1v, Bool.and_eq_true, decide_eq_true_eq] at h ⊢
  have h0 : ∀ u, u ≤ x.1 → ex r u = 0 := by
   have : ∀ (r : Mono) (k : Int), z1v k r = true → ∀ u, u ≤ k → ex r u = 0 := by
    intro r
    induction r with
    | nil => intro k _ u _; rfl
    | cons y s ih =>
     intro k hk u hu
     simp only [z1v, Bool.and_eq_true, decide_eq_true_eq] at hk
     rw [ex, if_neg (by omega)]
     exact ih _ hk.2 u (by omega)
   exact fun u hu => this r x.1 h.2 u hu
  have h1 := he x.1
  rw [ex, if_pos rfl] at h1
  refine ⟨by omega, ih h.2 (fun u => ?_)⟩
  by_cases hu : x.1 = u
  ·rw [h0 u (by omega)]; omega
  ·have := he u
   rwa [ex, if_neg hu] at this
theorem zdd {l : Int} {m : Mono} (h : z1v l m = true) {u : Int} (hu : u ≤ l) : ex m u = 0 := by
 induction m generalizing l with
 | nil => rfl
 | cons y s ih =>
  simp only [z1v, Bool.and_eq_true, decide_eq_true_eq] at h
  rw [ex, if_neg (by omega)]
  exact ih h.2 (by omega)
theorem zg9 {l : Int} {m : Mono} (h : z1v l m = true) (u : Int) : 0 ≤ ex m u := by
 induction m generalizing l with
 | nil => simp [ex]
 | cons y s ih =>
  simp only [z1v, Bool.and_eq_true, decide_eq_true_eq] at h
  rw [ex]
  split
  ·omega
  ·exact ih h.2
theorem ztr {l : Int} {a b : Mono} (ha : z1v l a = true) (hb : z1v l b = true) (h : ∀ v, ex a v = ex b v) : a = b := by
 induction a generalizing b l with
 | nil =>
  cases b with
  | nil => rfl
  | cons y b =>
   have := h y.1
   simp only [z1v, Bool.and_eq_true, decide_eq_true_eq] at hb
   simp [ex] at this
   omega
 | cons x a ih =>
  cases b with
  | nil =>
   have := h x.1
   simp only [z1v, Bool.and_eq_true, decide_eq_true_eq] at ha
   simp [ex] at this
   omega
  | cons y b =>
   simp only [z1v, Bool.and_eq_true, decide_eq_true_eq] at ha hb
   have h1 := h x.1
   have h2 := h y.1
   have e : x.1 = y.1 := by
    rcases Int.lt_trichotomy x.1 y.1 with g | g | g
    ·rw [ex, if_pos rfl, ex, if_neg (by omega), zdd hb.2 (by omega)] at h1
     omega
    ·exact g
    ·rw [ex, if_neg (by omega), zdd ha.2 (by omega), ex, if_pos rfl] at h2
     omega
   have e2 : x.2 = y.2 := by
    rw [ex, if_pos rfl, ex, if_pos e.symm] at h1
    exact h1
   have : x = y := Prod.ext e e2
   subst this
   congr 1
   refine ih ha.2 hb.2 (fun v => ?_)
   have := h v
   rw [ex, ex] at this
   split at this
   ·rename_i hv
    rw [zdd ha.2 (by omega), zdd hb.2 (by omega)]
   ·exact this
theorem zj5 {last : Int} {a b : Mono} (ha : z1v last a = true) (hb : z1v last b = true) : ris last (both a b) ∧ (∀ u, lk (both a b) u = (ex a u, ex b u)) ∧ ∀ t ∈ both a b, 1 ≤ t.2.1 + t.2.2 := by
 generalize hn : a.length + b.length = n
 induction n using Nat.strongRecOn generalizing a b last with
 | ind n ih =>
 cases a with
 | nil =>
  cases b with
  | nil => rw [z88]; exact ⟨trivial, fun u => rfl, fun t ht => by simp at ht⟩
  | cons y b =>
   simp only [z1v, Bool.and_eq_true, decide_eq_true_eq] at hb
   simp only [List.length_cons, List.length_nil] at hn
   obtain ⟨h1, h2, h3⟩ := ih (0 + b.length) (by omega) (a := []) (b := b) (last := y.1) rfl hb.2 (by simp)
   rw [z71]
   refine ⟨⟨hb.1.1, hb.1.2.1, h1⟩, fun u => ?_, fun t ht => ?_⟩
   ·rw [lk, h2, ex]
    simp only [ex]
    split <;> rfl
   ·rcases List.mem_cons.1 ht with rfl | ht
    ·simp only; omega
    ·exact h3 t ht
 | cons x a =>
  cases b with
  | nil =>
   simp only [z1v, Bool.and_eq_true, decide_eq_true_eq] at ha
   simp only [List.length_cons, List.length_nil] at hn
   obtain ⟨h1, h2, h3⟩ := ih (a.length + 0) (by omega) (a := a) (b := []) (last := x.1) ha.2 rfl (by simp)
   rw [z89]
   refine ⟨⟨ha.1.1, ha.1.2.1, h1⟩, fun u => ?_, fun t ht => ?_⟩
   ·rw [lk, h2]
    simp only [ex]
    split <;> rfl
   ·rcases List.mem_cons.1 ht with rfl | ht
    ·simp only; omega
    ·exact h3 t ht
  | cons y b =>
   have hA := ha
   have hB := hb
   simp only [z1v, Bool.and_eq_true, decide_eq_true_eq] at ha hb
   simp only [List.length_cons] at hn
   rw [z8a]
   split
   ·rename_i hlt
    have hb' : z1v x.1 (y :: b) = true := by simp only [z1v, Bool.and_eq_true, decide_eq_true_eq]; exact ⟨⟨hlt, hb.1.2⟩, hb.2⟩
    obtain ⟨h1, h2, h3⟩ := ih (a.length + (b.length + 1)) (by omega) (a := a) (b := y :: b) (last := x.1) ha.2 hb' (by simp)
    refine ⟨⟨ha.1.1, ha.1.2.1, h1⟩, fun u => ?_, fun t ht => ?_⟩
    ·rw [lk, h2]
     by_cases hu : x.1 = u
     ·rw [if_pos hu, ← hu, zdd hb' (Int.le_refl _), ex, if_pos rfl]
     ·rw [if_neg hu]; conv => rhs; rw [ex, if_neg hu]
    ·rcases List.mem_cons.1 ht with rfl | ht
     ·simp only; omega
     ·exact h3 t ht
   ·split
    ·rename_i hnlt hlt
     have ha' : z1v y.1 (x :: a) = true := by simp only [z1v, Bool.and_eq_true, decide_eq_true_eq]; exact ⟨⟨hlt, ha.1.2⟩, ha.2⟩
     obtain ⟨h1, h2, h3⟩ := ih (a.length + 1 + b.length) (by omega) (a := x :: a) (b := b) (last := y.1) ha' hb.2 (by simp)
     refine ⟨⟨hb.1.1, hb.1.2.1, h1⟩, fun u => ?_, fun t ht => ?_⟩
     ·rw [lk, h2]
      by_cases hu : y.1 = u
      ·rw [if_pos hu, ← hu, zdd ha' (Int.le_refl _), ex, if_pos rfl]
      ·rw [if_neg hu, show ex (y :: b) u = ex b u by rw [ex, if_neg hu]]
     ·rcases List.mem_cons.1 ht with rfl | ht
      ·simp only; omega
      ·exact h3 t ht
    ·rename_i h3 h4
     have hxy : x.1 = y.1 := by omega
     rw [← hxy] at hb
     obtain ⟨h1, h2, h5⟩ := ih (a.length + b.length) (by omega) (a := a) (b := b) (last := x.1) ha.2 hb.2 (by simp)
     refine ⟨⟨ha.1.1, ha.1.2.1, h1⟩, fun u => ?_, fun t ht => ?_⟩
     ·rw [lk, h2]
      by_cases hu : x.1 = u
      ·rw [if_pos hu, ex, if_pos hu, ex, if_pos (by omega)]
      ·rw [if_neg hu, show ex (y :: b) u = ex b u by rw [ex, if_neg (by omega)], show ex (x :: a) u = ex a u by rw [ex, if_neg hu]]
     ·rcases List.mem_cons.1 ht with rfl | ht
      ·simp only; omega
      ·exact h5 t ht
theorem zbw {a b : Mono} (ha : okM a = true) (hb : okM b = true) (u : Int) : ex (z0q a b) u = ex a u + ex b u := by
 obtain ⟨h1, h2, -⟩ := zj5 ha hb
 unfold z0q
 rw [zit (by simp) h1, h2]
 have h3 := zg9 ha u
 have h4 := zg9 hb u
 simp only
 split <;> omega
theorem zvc {last : Int} {l : List (Int × Int × Int)} (h : ris last l) : z1v last (z3s (· + ·) l) = true := by
 have weak : ∀ {l k : Int} {m : Mono}, z1v l m = true → k ≤ l → z1v k m = true := by
  intro l k m h hk
  cases m with
  | nil => rfl
  | cons x r =>
   simp only [z1v, Bool.and_eq_true, decide_eq_true_eq] at h ⊢
   exact ⟨by omega, h.2⟩
 induction l generalizing last with
 | nil => rfl
 | cons t r ih =>
  obtain ⟨h1, h2, h3⟩ := h
  have hr := ih h3
  rw [z3s]
  split
  ·rename_i h4
   simp only [z1v, Bool.and_eq_true, decide_eq_true_eq]
   exact ⟨by omega, hr⟩
  ·exact weak hr (by omega)
theorem zam {a b : Mono} (ha : okM a = true) (hb : okM b = true) : okM (z0q a b) = true := zvc (zj5 ha hb).1
theorem zlh {a b : Mono} (ha : okM a = true) (hb : okM b = true) : z0q a b = z0q b a :=
 ztr (zam ha hb) (zam hb ha) (fun v => by rw [zbw ha hb, zbw hb ha]; omega)
theorem z6r {a : Mono} (ha : okM a = true) : z0q a [] = a := ztr (zam ha rfl) ha (fun v => by rw [zbw ha rfl]; simp [ex])
theorem zoh {a b : Mono} (ha : okM a = true) (hb : mayM b = true) (h : ∀ u, ex a u ≤ ex b u) : mayM a = true := zx0 ha (fun u => Int.le_trans (h u) (z1n hb u).2)
/-! Linear functionals -/
def zrr (p : PZ) : Prop := ∀ t ∈ p, okM t.2 = true
theorem zbx {p : PZ} (h : z0i p) : zrr p := fun t ht => zj4 (h t ht)
def ev (f : Mono → Int) : PZ → Int
 | [] => 0
 | t :: r => t.1 * f t.2 + ev f r
theorem z8w (f : Mono → Int) (p q : PZ) : ev f (p ++ q) = ev f p + ev f q := by
 induction p with
 | nil => simp [ev]
 | cons t r ih => simp only [List.cons_append, ev, ih]; omega
theorem z8x {f g : Mono → Int} {p : PZ} (h : ∀ t ∈ p, f t.2 = g t.2) : ev f p = ev g p := by
 induction p with
 | nil => rfl
 | cons t r ih => simp only [ev]; rw [h t (by simp), ih (fun u hu => h u (by simp [hu]))]
theorem zx1 (f g : Mono → Int) (p : PZ) : ev (fun m => f m + g m) p = ev f p + ev g p := by
 induction p with
 | nil => rfl
 | cons t r ih => simp only [ev, ih, Int.mul_add]; omega
theorem zoi (c : Int) (f : Mono → Int) (p : PZ) : ev (fun m => c * f m) p = c * ev f p := by
 induction p with
 | nil => simp [ev]
 | cons t r ih => simp only [ev, ih, Int.mul_add, Int.mul_left_comm]
theorem zby {f : Mono → Int} {p : PZ} (h : ∀ t ∈ p, f t.2 = 0) : ev f p = 0 := by
 induction p with
 | nil => rfl
 | cons t r ih => simp only [ev]; rw [h t (by simp), ih (fun u hu => h u (by simp [hu]))]; simp
theorem zvd (F : Mono → Mono → Int) (p q : PZ) : ev (fun a => ev (fun b => F a b) q) p = ev (fun b => ev (fun a => F a b) p) q := by
 induction p with
 | nil =>
  simp only [ev]
  exact (zby (fun _ _ => rfl)).symm
 | cons t r ih =>
  simp only [ev]
  rw [ih, ← zoi, ← zx1]
theorem zga (f : Mono → Int) (g : Int × Mono → Option (Int × Mono)) (s : Mono → Bool) (c : Mono → Int) (k : Mono → Mono) (h : ∀ t, g t = if s t.2 then some (t.1 * c t.2, k t.2) else none) (p : PZ) : ev f (p.filterMap g) = ev (fun m => if s m then c m * f (k m) else 0) p := by
 induction p with
 | nil => rfl
 | cons t r ih =>
  rw [List.filterMap_cons, h]
  cases hs : s t.2 with
  | true => simp only [if_true, ev, ih, hs, Int.mul_assoc]
  | false => simp only [Bool.false_eq_true, if_false, ev, ih, hs, Int.mul_zero, Int.zero_add]
def dl (m : Mono) : Mono → Int := fun x => if x = m then 1 else 0
theorem zli (m : Mono) (p : PZ) : ev (dl m) p = cf p m := by
 induction p with
 | nil => rfl
 | cons t r ih =>
  simp only [ev, cf, ih, dl]
  split <;> simp
def Eqv (p q : PZ) : Prop := ∀ f, ev f p = ev f q
theorem Eqv.refl (p : PZ) : Eqv p p := fun _ => rfl
theorem Eqv.trans {p q r : PZ} (h : Eqv p q) (k : Eqv q r) : Eqv p r := fun f => (h f).trans (k f)
theorem Eqv.cf {p q : PZ} (h : Eqv p q) (m : Mono) : cf p m = cf q m := by rw [← zli, ← zli]; exact h _
theorem zoj (p : PZ) (m x : Mono) : cf (p.filter fun t => decide (t.2 ≠ m)) x = if x = m then 0 else cf p x := by
 induction p with
 | nil => simp [cf]
 | cons t r ih =>
  by_cases h : t.2 = m
  ·rw [List.filter_cons_of_neg (by simpa using h), ih]
   by_cases hx : x = m
   ·rw [if_pos hx, if_pos hx]
   ·rw [if_neg hx, if_neg hx, cf, if_neg (by rw [h]; exact fun e => hx e.symm)]
    omega
  ·rw [List.filter_cons_of_pos (by simpa using h), cf, ih]
   by_cases hx : x = m
   ·rw [if_pos hx, if_pos hx, if_neg (by rw [hx]; exact h)]
    rfl
   ·rw [if_neg hx, if_neg hx, cf]
theorem zok (f : Mono → Int) (p : PZ) (m : Mono) : ev f p = cf p m * f m + ev f (p.filter fun t => decide (t.2 ≠ m)) := by
 induction p with
 | nil => simp [ev, cf]
 | cons t r ih =>
  by_cases h : t.2 = m
  ·rw [List.filter_cons_of_neg (by simpa using h), ev, cf, if_pos h, ih, h, Int.add_mul]
   omega
  ·rw [List.filter_cons_of_pos (by simpa using h), ev, cf, if_neg h, ih, ev]
   simp only [Int.zero_add]
   omega
theorem zlj {p : PZ} (h : ∀ m, cf p m = 0) (f : Mono → Int) : ev f p = 0 := by
 generalize hn : p.length = n
 induction n using Nat.strongRecOn generalizing p with
 | ind n ih =>
 cases p with
 | nil => rfl
 | cons t r =>
  rw [zok f (t :: r) t.2, h]
  have hl : ((t :: r).filter fun u => decide (u.2 ≠ t.2)).length < n := by
   rw [List.filter_cons_of_neg (by simp), ← hn]
   exact Nat.lt_succ_of_le (List.length_filter_le _ _)
  rw [ih _ hl (fun m => by
   rw [zoj]
   split
   ·rfl
   ·exact h m) rfl]
  simp
theorem zol (f : Mono → Int) (p : PZ) : ev f (p.map fun t => (-t.1, t.2)) = - ev f p := by
 induction p with
 | nil => rfl
 | cons t r ih => simp only [List.map_cons, ev, ih, Int.neg_mul]; omega
theorem zom {p q : PZ} (h : ∀ m, cf p m = cf q m) : Eqv p q := fun f => by
 have h1 : ev f (p ++ q.map fun t => (-t.1, t.2)) = 0 := zlj (fun m => by
  rw [← zli, z8w, zol, zli, zli, h]
  omega) f
 rw [z8w, zol] at h1
 omega
theorem zx2 {p q : PZ} (hp : canP p) (hq : canP q) (h : Eqv p q) : p = q := zae hp hq (fun m _ => h.cf m)
/-! Products -/
def mulL (p q : PZ) : PZ := p.flatMap fun t => q.map fun u => (t.1 * u.1, z0q t.2 u.2)
theorem z82 (f : Mono → Int) (p q : PZ) : ev f (mulL p q) = ev (fun a => ev (fun b => f (z0q a b)) q) p := by
 unfold mulL
 induction p with
 | nil => rfl
 | cons t r ih =>
  rw [List.flatMap_cons, z8w, ih]
  simp only [ev]
  congr 1
  rw [← zoi]
  clear ih
  induction q with
  | nil => rfl
  | cons u s ih2 =>
   simp only [List.map_cons, ev, ih2]
   rw [Int.mul_assoc, Int.mul_left_comm]
theorem Eqv.mul {p q p' q' : PZ} (h : Eqv p p') (k : Eqv q q') : Eqv (mulL p q) (mulL p' q') := fun f => by
 rw [z82, z82, h]
 have : (fun a => ev (fun b => f (z0q a b)) q) = fun a => ev (fun b => f (z0q a b)) q' := funext fun a => k _
 rw [this]
theorem zgb {p q : PZ} (hp : zrr p) (hq : zrr q) : Eqv (mulL p q) (mulL q p) := fun f => by
 rw [z82, z82, zvd]
 refine z8x (fun u hu => z8x (fun t ht => ?_))
 rw [zlh (hp t ht) (hq u hu)]
/-! The canonical list of any -/
theorem z3r {p : PZ} (h : z0i p) : canP (z0m p) := (z75 z2f h).1
theorem zon {p : PZ} (h : z0i p) (m : Mono) : cf (z0m p) m = cf p m := by
 have := (z75 z2f h).2 m
 rw [show cf [] m = 0 from rfl, Int.zero_add] at this
 exact this
theorem zan {p : PZ} (h : z0i p) : Eqv (z0m p) p := zom (zon h)
theorem zgc {α β : Type} {f g : α → List β} {l : List α} (h : ∀ x ∈ l, f x = g x) : l.flatMap f = l.flatMap g := by
 induction l with
 | nil => rfl
 | cons x r ih => rw [List.flatMap_cons, List.flatMap_cons, h x (by simp), ih (fun y hy => h y (by simp [hy]))]
theorem zlk {p q : PZ} (hp : z0i p) (hq : z0i q) (h : z0i (mulL p q)) : z4d p q = (mulL p q).map some := by
 unfold z4d mulL
 rw [List.map_flatMap]
 refine zgc (fun t ht => ?_)
 rw [List.map_map]
 refine List.map_congr_left (fun u hu => ?_)
 exact ziu (hp t ht) (hq u hu) (h _ (List.mem_flatMap.2 ⟨t, ht, List.mem_map.2 ⟨u, hu, rfl⟩⟩))
theorem z7h {p q : PZ} (hp : z0i p) (hq : z0i q) (h : z0i (mulL p q)) : z0e p q = some (z0m (mulL p q)) := by
 unfold z0e
 rw [zlk hp hq h, zfh]
 rfl
theorem z4k {p q c : PZ} (hp : z0i p) (hq : z0i q) (h : z0e p q = some c) : z0i (mulL p q) ∧ c = z0m (mulL p q) := by
 have hm : z0i (mulL p q) := fun x hx => by
  obtain ⟨t, ht, h2⟩ := List.mem_flatMap.1 hx
  obtain ⟨u, hu, rfl⟩ := List.mem_map.1 h2
  cases hm : mayM (z0q t.2 u.2) with
  | true => rfl
  | false =>
   exfalso
   have h3 : (none : Option (Int × Mono)) ∈ z4d p q := List.mem_flatMap.2 ⟨t, ht, List.mem_map.2 ⟨u, hu, znr (hp t ht) (hq u hu) hm⟩⟩
   obtain ⟨l, r, e⟩ := List.append_of_mem h3
   unfold z0e at h
   rw [e, zfi] at h
   cases h
 refine ⟨hm, ?_⟩
 rw [z7h hp hq hm] at h
 exact (Option.some.inj h).symm
end
section
theorem zao {p : PZ} (h : z0i p) {t : Int × Mono} (ht : t ∈ z0m p) : ∃ u ∈ p, u.2 = t.2 := by
 have h1 := (z3r h).cf_mem ht
 rw [zon h] at h1
 have h2 := ((z3r h).1 t ht).1
 exact canP.mem_of_cf (by rw [h1]; exact h2)
theorem z7i {p q : PZ} {x : Int × Mono} (h : x ∈ mulL p q) : ∃ t ∈ p, ∃ u ∈ q, x = (t.1 * u.1, z0q t.2 u.2) := by
 obtain ⟨t, ht, h2⟩ := List.mem_flatMap.1 h
 obtain ⟨u, hu, rfl⟩ := List.mem_map.1 h2
 exact ⟨t, ht, u, hu, rfl⟩
theorem zrs {p q : PZ} {t u : Int × Mono} (ht : t ∈ p) (hu : u ∈ q) : (t.1 * u.1, z0q t.2 u.2) ∈ mulL p q := List.mem_flatMap.2 ⟨t, ht, List.mem_map.2 ⟨u, hu, rfl⟩⟩
theorem zj6 {s a t b : Mono} (hs : mayM s = true) (ha : mayM a = true) (ht : mayM t = true) (hb : mayM b = true) (h1 : z0f s a = 1) (h2 : b = t ∨ z0f t b = 1) : z0q a b ≠ z0q s t := by
 intro e
 have hex : ∀ u, ex a u + ex b u = ex s u + ex t u := fun u => by
  rw [← z2h ha hb, ← z2h hs ht, e]
 obtain ⟨u, h3, h4⟩ := (z3x hs ha).1 h1
 rcases h2 with rfl | h2
 ·have := hex u; omega
 ·obtain ⟨v, h5, h6⟩ := (z3x ht hb).1 h2
  rcases Int.lt_trichotomy u v with g | g | g
  ·have := hex v; have := h4 v g; omega
  ·subst g; have := hex u; omega
  ·have := hex u; have := h6 u g; omega
theorem zrt {s t : Int × Mono} {A B : PZ} (hA : canP (s :: A)) (hB : canP (t :: B)) : cf (mulL (s :: A) (t :: B)) (z0q s.2 t.2) = s.1 * t.1 := by
 have hs := (hA.1 s (by simp)).2
 have ht := (hB.1 t (by simp)).2
 rw [← zli, z82]
 simp only [ev]
 have e1 : ev (fun a => t.1 * dl (z0q s.2 t.2) (z0q a t.2) + ev (fun b => dl (z0q s.2 t.2) (z0q a b)) B) A = 0 := by
  refine zby (fun a ha => ?_)
  have hma := (hA.1 a (by simp [ha])).2
  have h1 := hA.head a ha
  have e2 : dl (z0q s.2 t.2) (z0q a.2 t.2) = 0 := if_neg (zj6 hs hma ht ht h1 (.inl rfl))
  have e3 : ev (fun b => dl (z0q s.2 t.2) (z0q a.2 b)) B = 0 := zby (fun b hb => if_neg (zj6 hs hma ht (hB.1 b (by simp [hb])).2 h1 (.inr (hB.head b hb))))
  rw [e2, e3]
  simp
 have e4 : ev (fun b => dl (z0q s.2 t.2) (z0q s.2 b)) B = 0 := by
  refine zby (fun b hb => if_neg (fun e => ?_))
  have hmb := (hB.1 b (by simp [hb])).2
  obtain ⟨u, h3, h4⟩ := (z3x ht hmb).1 (hB.head b hb)
  have := z2h hs hmb u
  rw [e, z2h hs ht] at this
  omega
 rw [e1, e4, show dl (z0q s.2 t.2) (z0q s.2 t.2) = 1 from if_pos rfl]
 simp
theorem zts {A B D : PZ} (hA : canP A) (hB : canP B) (hA0 : A ≠ []) (hB0 : B ≠ []) (h : Eqv D (mulL A B)) : D ≠ [] := by
 rintro rfl
 cases A with
 | nil => exact hA0 rfl
 | cons s A =>
  cases B with
  | nil => exact hB0 rfl
  | cons t B =>
   have h1 := h.cf (z0q s.2 t.2)
   rw [zrt hA hB] at h1
   exact Int.mul_ne_zero (hA.1 s (by simp)).1 (hB.1 t (by simp)).1 h1.symm
theorem z6s (f : Mono → Int) (p : PZ) (v e : Int) : ev f (z1y p v e) = ev (fun m => if ex m v = e then f (z0j m v) else 0) p := by
 unfold z1y
 rw [zga f (z9h v e) (fun m => decide (ex m v = e)) (fun _ => 1) (fun m => z0j m v) (fun t => by
  unfold z9h
  by_cases h : ex t.2 v = e
  ·rw [if_pos h, decide_eq_true h, if_pos rfl, Int.mul_one]
  ·rw [if_neg h, decide_eq_false h, if_neg (by simp)])]
 refine z8x (fun t _ => ?_)
 by_cases h : ex t.2 v = e
 ·rw [decide_eq_true h, if_pos rfl, if_pos h, Int.one_mul]
 ·rw [decide_eq_false h, if_neg (by simp), if_neg h]
theorem zj7 {p q : PZ} (h : Eqv p q) (v e : Int) : Eqv (z1y p v e) (z1y q v e) := fun f => by rw [z6s, z6s, h]
theorem zee {a b : Mono} (ha : mayM a = true) (hb : mayM b = true) (hab : mayM (z0q a b) = true) (v : Int) : z0j (z0q a b) v = z0q (z0j a v) (z0j b v) := by
 have h1 := z1p ha v
 have h2 := z1p hb v
 have h3 : mayM (z0q (z0j a v) (z0j b v)) = true := zoh (zam (zj4 h1) (zj4 h2)) hab (fun u => by
  rw [z2h h1 h2, z2h ha hb, z1s, z1s]
  have := z3w ha u; have := z3w hb u
  split <;> omega)
 refine zfn (z1p hab v) h3 (fun u => ?_)
 rw [z1s, z2h ha hb, z2h h1 h2, z1s, z1s]
 split <;> omega
theorem zve {p : PZ} (h : z0i p) (h0 : p ≠ []) (v : Int) : ∃ t ∈ p, ex t.2 v = degP p v := by
 rcases Int.lt_or_le 0 (degP p v) with g | g
 ·exact zre g
 ·cases p with
  | nil => exact absurd rfl h0
  | cons t r =>
   have h1 := z1l (p := t :: r) (t := t) (by simp) v
   have h2 := z3w (h t (by simp)) v
   have h3 := (z0u h v).1
   exact ⟨t, by simp, by omega⟩
theorem z65 {p : PZ} (h : z0i p) (h0 : p ≠ []) (v : Int) : z1y p v (degP p v) ≠ [] := by
 obtain ⟨t, ht, e⟩ := zve h h0 v
 have : (t.1, z0j t.2 v) ∈ z1y p v (degP p v) := List.mem_filterMap.2 ⟨t, ht, by unfold z9h; rw [if_pos e]⟩
 intro e2
 rw [e2] at this
 simp at this
section
variable {P Q C : PZ}
theorem zef (hP : canP P) (hQ : canP Q) (h : z0e P Q = some C) (v : Int) : Eqv (z1y C v (degP P v + degP Q v)) (mulL (z1y P v (degP P v)) (z1y Q v (degP Q v))) := by
 obtain ⟨hm, rfl⟩ := z4k hP.may hQ.may h
 refine (zj7 (zan hm) v _).trans (fun f => ?_)
 rw [z6s, z82, z82, z6s]
 refine z8x (fun a ha => ?_)
 have ha1 := z1l ha v
 by_cases h1 : ex a.2 v = degP P v
 ·rw [if_pos h1, z6s]
  refine z8x (fun b hb => ?_)
  have hb1 := z1l hb v
  have hab := hm _ (zrs ha hb)
  rw [z2h (hP.1 a ha).2 (hQ.1 b hb).2]
  by_cases h2 : ex b.2 v = degP Q v
  ·rw [if_pos h2, if_pos (by omega), zee (hP.1 a ha).2 (hQ.1 b hb).2 hab]
  ·rw [if_neg h2, if_neg (by omega)]
 ·rw [if_neg h1]
  refine zby (fun b hb => ?_)
  have hb1 := z1l hb v
  rw [z2h (hP.1 a ha).2 (hQ.1 b hb).2, if_neg (by omega)]
theorem z3z (hP : canP P) (hQ : canP Q) (h : z0e P Q = some C) : canP C := by
 obtain ⟨hm, rfl⟩ := z4k hP.may hQ.may h
 exact z3r hm
theorem zoo (hP : canP P) (hQ : canP Q) (h : z0e P Q = some C) {t : Int × Mono} (ht : t ∈ C) : ∃ a ∈ P, ∃ b ∈ Q, ∀ u, ex t.2 u = ex a.2 u + ex b.2 u := by
 obtain ⟨hm, rfl⟩ := z4k hP.may hQ.may h
 obtain ⟨x, hx, e⟩ := zao hm ht
 obtain ⟨a, ha, b, hb, rfl⟩ := z7i hx
 exact ⟨a, ha, b, hb, fun u => by rw [← e]; exact z2h (hP.1 a ha).2 (hQ.1 b hb).2 u⟩
theorem zbz (hP : canP P) (hQ : canP Q) (hP0 : P ≠ []) (hQ0 : Q ≠ []) (h : z0e P Q = some C) (v : Int) : degP C v = degP P v + degP Q v := by
 have h1 := (z0u hP.may v).1
 have h2 := (z0u hQ.may v).1
 refine Int.le_antisymm (zbn (by omega) (fun t ht => ?_)) ?_
 ·obtain ⟨a, ha, b, hb, e⟩ := zoo hP hQ h ht
  have := z1l ha v
  have := z1l hb v
  rw [e]
  omega
 ·have h3 := zts (z1u hP v _) (z1u hQ v _) (z65 hP.may hP0 v) (z65 hQ.may hQ0 v) (zef hP hQ h v)
  obtain ⟨t, ht⟩ := List.exists_mem_of_ne_nil _ h3
  obtain ⟨u, hu, e, -⟩ := z6p ht
  rw [← e]
  exact z1l hu v
theorem zru (hP : canP P) (hQ : canP Q) (hP0 : P ≠ []) (hQ0 : Q ≠ []) (h : z0e P Q = some C) : C ≠ [] := by
 obtain ⟨hm, rfl⟩ := z4k hP.may hQ.may h
 exact zts hP hQ hP0 hQ0 (zan hm)
def zop (p q : PZ) : Prop := ∀ t ∈ p, ∃ u ∈ q, ∀ v, ex t.2 v ≤ ex u.2 v
end
end
section
theorem z37 {α : Type} {xs ys : List α} {k : Nat} {x : α} (h : xs.take k = ys.take k) (hx : xs[k]? = some x) (hy : ys[k]? = some x) : xs.take (k + 1) = ys.take (k + 1) := by
 rw [List.take_add_one, List.take_add_one, h, hx, hy]
theorem z66 {α : Type} {xs ys : List α} {k : Nat} {x y : α} (hx : xs[k]? = some x) (hy : ys[k]? = some y) (h : x ≠ y) : xs ≠ ys := by
 rintro rfl
 rw [hx] at hy
 exact h (Option.some.inj hy)
end
section
open Go.RowKit
theorem zoq {S : Nat → Prop} (va vb : Value) (xs ys : List Nat) (w : World) (ha : U32s S w va xs) (hb : U32s S w vb ys) (hS : ∀ k, S k → k < w.heap.size) :
  Calls Tryz.prog 52 #[va, vb] w fun e w' => e = .returned (.bool (decide (xs = ys))) ∧ Ext w w' := by
 have HA := hid ha
 have HB := hid hb
 have hla := ha.len_le
 have hlb := hb.len_le
 obtain ⟨aa, ca, rfl⟩ := ha.form
 obtain ⟨ab, cb, rfl⟩ := hb.form
 obtain ⟨na, hna⟩ : ∃ n, n = xs.length := ⟨_, rfl⟩
 obtain ⟨nb, hnb⟩ : ∃ n, n = ys.length := ⟨_, rfl⟩
 rw [← hna] at HA hla ⊢
 rw [← hnb] at HB hlb ⊢
 have HNA := hid hna
 have HNB := hid hnb
 clear ha hb hna hnb
 by_cases hne : na = nb
 ·subst hne
  go_enter Tryz.func52, Tryz.ntmps52
  go_wp2
  go_loopw [5, 13] (fun _ i wr => ∃ k : Nat, k ≤ na ∧ i = .int .i64 k ∧ Ext w wr ∧ Hid (xs.take k = ys.take k)) (fun _ i _ => na - (intOf i).toNat)
  case atStart => exact ⟨0, Nat.zero_le _, rfl, Ext.refl _, rfl⟩
  case round =>
   obtain ⟨k, hk, rfl, hx, HE⟩ := hrel
   have HX := hid hx
   by_cases hlt : k < na
   ·obtain ⟨x, hxk⟩ := z00 (l := xs) (j := k) (by rw [← HNA.out]; exact hlt)
    obtain ⟨y, hyk⟩ := z00 (l := ys) (j := k) (by rw [← HNB.out]; exact hlt)
    obtain ⟨b1, o1, rfl, -, hc1, hm1, hz1, h1⟩ := (HA.out.ext hx hS).cellAt hxk
    obtain ⟨b2, o2, rfl, -, hc2, hm2, hz2, h2⟩ := (HB.out.ext hx hS).cellAt hyk
    have HXK := hid hxk
    have HYK := hid hyk
    clear hxk hyk hx
    by_cases he : x = y
    ·have q1 : ((x : Int) != (y : Int)) = false := by rw [he]; simp
     have H0 := hid he
     clear he
     go_wp2
     go_quiet (fail)
     go_wp2
     go_roundw
     case rel => exact ⟨k + 1, by omega, by go_num, HX.out.drewN _, z37 HE.out HXK.out (by rw [H0.out]; exact HYK.out)⟩
     case measure => simp only [intOf]; omega
    ·have q1 : ((x : Int) != (y : Int)) = true := by rw [bne_iff_ne]; omega
     have HF : Hid (xs ≠ ys) := hid (z66 HXK.out HYK.out he)
     clear he
     go_wp2
     go_quiet (fail)
     go_wp2
     go_ret
     exact ⟨by rw [decide_eq_false HF.out]; rfl, HX.out.drewN _⟩
   ·obtain rfl : k = na := by omega
    have HF : Hid (xs = ys) := hid (by have := HE.out; rwa [List.take_of_length_le (by rw [← HNA.out]; exact Nat.le_refl _), List.take_of_length_le (by rw [← HNB.out]; exact Nat.le_refl _)] at this)
    clear hx
    go_wp2
    go_ret
    exact ⟨by rw [decide_eq_true HF.out]; rfl, HX.out⟩
 ·have hb : ((na : Int) != (nb : Int)) = true := by rw [bne_iff_ne]; omega
  have HF : Hid (xs ≠ ys) := hid (fun e => hne (by rw [HNA.out, HNB.out, e]))
  clear hne
  go_enter Tryz.func52, Tryz.ntmps52
  go_wp2
  go_ret
  exact ⟨by rw [decide_eq_false HF.out]; rfl, Ext.refl _⟩
theorem zll {S : Nat → Prop} (va vb : Value) (xs ys : Mono) (w : World) (ha : Pows S w va xs) (hb : Pows S w vb ys) (hS : ∀ k, S k → k < w.heap.size) :
  Calls Tryz.prog 53 #[va, vb] w fun e w' => e = .returned (.bool (decide (xs = ys))) ∧ Ext w w' := by
 have HA := hid ha
 have HB := hid hb
 have hla := ha.len_le
 have hlb := hb.len_le
 obtain ⟨aa, ca, rfl⟩ := ha.form
 obtain ⟨ab, cb, rfl⟩ := hb.form
 obtain ⟨na, hna⟩ : ∃ n, n = xs.length := ⟨_, rfl⟩
 obtain ⟨nb, hnb⟩ : ∃ n, n = ys.length := ⟨_, rfl⟩
 rw [← hna] at HA hla ⊢
 rw [← hnb] at HB hlb ⊢
 have HNA := hid hna
 have HNB := hid hnb
 clear ha hb hna hnb
 by_cases hne : na = nb
 ·subst hne
  go_enter Tryz.func53, Tryz.ntmps53
  go_wp2
  go_loopw [5, 13] (fun _ i wr => ∃ k : Nat, k ≤ na ∧ i = .int .i64 k ∧ Ext w wr ∧ Hid (xs.take k = ys.take k)) (fun _ i _ => na - (intOf i).toNat)
  case atStart => exact ⟨0, Nat.zero_le _, rfl, Ext.refl _, rfl⟩
  case round =>
   obtain ⟨k, hk, rfl, hx, HE⟩ := hrel
   have HX := hid hx
   by_cases hlt : k < na
   ·obtain ⟨x, hxk⟩ := z00 (l := xs) (j := k) (by rw [← HNA.out]; exact hlt)
    obtain ⟨y, hyk⟩ := z00 (l := ys) (j := k) (by rw [← HNB.out]; exact hlt)
    obtain ⟨b1, o1, c1', hv1, hc1, hm1, ⟨⟨hz1, hz2⟩, hz3, hz4⟩, h1, h1'⟩ := (HA.out.ext hx hS).at hxk
    obtain ⟨rfl, -, rfl⟩ : aa = some ⟨b1, o1, none⟩ ∧ na = xs.length ∧ ca = c1' := by simpa using hv1
    obtain ⟨b2, o2, c2', hv2, hc2, hm2, ⟨⟨hy1, hy2⟩, hy3, hy4⟩, h2, h2'⟩ := (HB.out.ext hx hS).at hyk
    obtain ⟨rfl, -, rfl⟩ : ab = some ⟨b2, o2, none⟩ ∧ na = ys.length ∧ cb = c2' := by simpa using hv2
    clear hv1 hv2
    rw [← HNA.out] at hc1
    rw [← HNB.out] at hc2
    have HXK := hid hxk
    have HYK := hid hyk
    clear hxk hyk hx
    by_cases he : x = y
    ·have H0 := hid he
     obtain ⟨x1, x2⟩ := x
     obtain ⟨y1, y2⟩ := y
     obtain ⟨rfl, rfl⟩ : x1 = y1 ∧ x2 = y2 := by simpa using he
     simp only at h1 h1' h2 h2' hz1 hz2 hz3 hz4 hy1 hy2 hy3 hy4
     clear he
     go_wp2
     go_quiet (fail)
     go_wp2
     go_roundw
     case rel => exact ⟨k + 1, by omega, by go_num, HX.out.drewN _, z37 HE.out HXK.out HYK.out⟩
     case measure => simp only [intOf]; omega
    ·have HF : Hid (xs ≠ ys) := hid (z66 HXK.out HYK.out he)
     obtain ⟨x1, x2⟩ := x
     obtain ⟨y1, y2⟩ := y
     simp only at h1 h1' h2 h2' hz1 hz2 hz3 hz4 hy1 hy2 hy3 hy4
     have he' : x1 ≠ y1 ∨ (x1 = y1 ∧ x2 ≠ y2) := by
      by_cases h : x1 = y1
      ·exact .inr ⟨h, fun h' => he (by rw [h, h'])⟩
      ·exact .inl h
     clear he
     rcases he' with he | ⟨rfl, he⟩
     all_goals
      go_wp2
      go_quiet (fail)
      go_wp2
      go_ret
      exact ⟨by rw [decide_eq_false HF.out]; rfl, HX.out.drewN _⟩
   ·obtain rfl : k = na := by omega
    have HF : Hid (xs = ys) := hid (by have := HE.out; rwa [List.take_of_length_le (by rw [← HNA.out]; exact Nat.le_refl _), List.take_of_length_le (by rw [← HNB.out]; exact Nat.le_refl _)] at this)
    clear hx
    go_wp2
    go_ret
    exact ⟨by rw [decide_eq_true HF.out]; rfl, HX.out⟩
 ·have hb : ((na : Int) != (nb : Int)) = true := by rw [bne_iff_ne]; omega
  have HF : Hid (xs ≠ ys) := hid (fun e => hne (by rw [HNA.out, HNB.out, e]))
  clear hne
  go_enter Tryz.func53, Tryz.ntmps53
  go_wp2
  go_ret
  exact ⟨by rw [decide_eq_false HF.out]; rfl, Ext.refl _⟩
theorem z6k.of_cells {S : Nat → Prop} {w : World} {vm vo : Value} {t : RTerm} (h4 : U32s S w vm t.c.mag) (h5 : Pows S w vo t.m) : z6k S w (.agg #[.bool t.c.neg, vm, vo]) t := ⟨vm, vo, rfl, h4, h5⟩
theorem new3 {w W : World} {u v x : Value} {T : TypeId} (h : Ext (w.alloc (.cells #[u, v, x] T)) W) :
  W.cell? ⟨w.heap.size, 0, none⟩ = some u ∧ W.cell? ⟨w.heap.size, 1, none⟩ = some v ∧ W.cell? ⟨w.heap.size, 2, none⟩ = some x :=
 ⟨h.new_cell rfl, h.new_cell rfl, h.new_cell rfl⟩
theorem zor {S : Nat → Prop} (va vb : Value) (s t : RTerm) (w : World) (ha : z6k S w va s) (hb : z6k S w vb t) (hS : ∀ k, S k → k < w.heap.size) :
  Calls Tryz.prog 51 #[va, vb] w fun e w' => e = .returned (.bool (decide (s = t))) ∧ Ext w w' := by
 obtain ⟨⟨sn, sm⟩, so⟩ := s
 obtain ⟨⟨tn, tm⟩, tq⟩ := t
 obtain ⟨v1, v2, rfl, hu1, hp1⟩ := ha
 obtain ⟨v3, v4, rfl, hu2, hp2⟩ := hb
 simp only at hu1 hp1 hu2 hp2 ⊢
 have CU := fun (W : World) (hW : Ext w W) => zoq _ _ sm tm W (hu1.ext hW hS) (hu2.ext hW hS) (z08 hS hW)
 have CP := fun (W : World) (hW : Ext w W) => zll _ _ so tq W (hp1.ext hW hS) (hp2.ext hW hS) (z08 hS hW)
 obtain ⟨a1, c1, rfl⟩ := hu1.form
 obtain ⟨a2, c2, rfl⟩ := hp1.form
 obtain ⟨a3, c3, rfl⟩ := hu2.form
 obtain ⟨a4, c4, rfl⟩ := hp2.form
 have HCU := hid CU
 have HCP := hid CP
 have hx : Ext w ((w.alloc (.cells #[.bool sn, .slice a1 sm.length c1, .slice a2 so.length c2] 83)).alloc (.cells #[.bool tn, .slice a3 tm.length c3, .slice a4 tq.length c4] 83)) := Ext.alloc (Ext.alloc (Ext.refl w) _) _
 have HX := hid hx
 have HM : Hid (∀ W, Ext ((w.alloc (.cells #[.bool sn, .slice a1 sm.length c1, .slice a2 so.length c2] 83)).alloc (.cells #[.bool tn, .slice a3 tm.length c3, .slice a4 tq.length c4] 83)) W →
   (W.cell? ⟨w.heap.size, 0, none⟩ = some (.bool sn) ∧ W.cell? ⟨w.heap.size, 1, none⟩ = some (.slice a1 sm.length c1) ∧ W.cell? ⟨w.heap.size, 2, none⟩ = some (.slice a2 so.length c2)) ∧
   (W.cell? ⟨w.heap.size + 1, 0, none⟩ = some (.bool tn) ∧ W.cell? ⟨w.heap.size + 1, 1, none⟩ = some (.slice a3 tm.length c3) ∧ W.cell? ⟨w.heap.size + 1, 2, none⟩ = some (.slice a4 tq.length c4))) := hid (fun W hW => by
  have k2 := new3 hW
  rw [z02] at k2
  exact ⟨new3 ((Ext.alloc (Ext.refl _) _).trans hW), k2⟩)
 have HD : Hid ((decide ((⟨⟨sn, sm⟩, so⟩ : RTerm) = ⟨⟨tn, tm⟩, tq⟩)) = (decide (sn = tn) && (decide (sm = tm) && decide (so = tq)))) := hid (by
  rw [Bool.eq_iff_iff]
  simp [and_assoc])
 clear CU CP hu1 hp1 hu2 hp2 hx
 obtain ⟨m0, m1, m2⟩ := HM.out _ (Ext.refl _)
 by_cases h1 : sn = tn
 ·subst h1
  cases hm : decide (sm = tm) with
  | false =>
   simp only [hm] at HCU
   have HF := hid hm
   clear hm
   go_enter Tryz.func51, Tryz.ntmps51
   go_wp2_with fail
   with_reducible refine (HCU.out _ HX.out).mono ?_
   rintro e w1 ⟨rfl, hx1⟩
   have HX1 := hid (HX.out.trans hx1)
   clear hx1
   go_wp2
   all_goals
    go_ret
    exact ⟨by rw [HD.out, HF.out]; simp, HX1.out⟩
  | true =>
   simp only [hm] at HCU
   have HF := hid hm
   clear hm
   go_enter Tryz.func51, Tryz.ntmps51
   go_wp2_with fail
   with_reducible refine (HCU.out _ HX.out).mono ?_
   rintro e w1 ⟨rfl, hx1⟩
   have HX1 := hid (HX.out.trans hx1)
   obtain ⟨⟨k0, k1, k2⟩, k3, k4, k5⟩ := HM.out _ hx1
   clear hx1
   go_wp2_with fail
   with_reducible refine (HCP.out _ HX1.out).mono ?_
   rintro e w2 ⟨rfl, hx2⟩
   have HX2 := hid (HX1.out.trans hx2)
   clear hx2
   go_wp2
   all_goals
    go_ret
    exact ⟨by rw [HD.out, HF.out]; simp, HX2.out⟩
 ·have hb : (sn == tn) = false := by rw [beq_eq_false_iff_ne]; exact h1
  have HF := hid (decide_eq_false h1)
  clear h1
  go_enter Tryz.func51, Tryz.ntmps51
  go_wp2
  all_goals
   go_ret
   exact ⟨by rw [HD.out, HF.out]; simp, HX.out⟩
theorem zhx {S : Nat → Prop} (va vb : Value) (xs ys : List RTerm) (w : World) (ha : z05 S w va xs) (hb : z05 S w vb ys) (hS : ∀ k, S k → k < w.heap.size) :
  Calls Tryz.prog 50 #[va, vb, .func (.func 51) #[] #[]] w fun e w' => e = .returned (.bool (decide (xs = ys))) ∧ Ext w w' := by
 have hnot : ∀ (x : Bool) (w : World), (Op.unary .not (.bool x)).run Tryz.prog w = .ok (.bool (!x)) w := fun _ _ => rfl
 have HA := hid ha
 have HB := hid hb
 have hla := ha.len_le
 have hlb := hb.len_le
 obtain ⟨aa, ca, rfl⟩ := ha.form
 obtain ⟨ab, cb, rfl⟩ := hb.form
 obtain ⟨na, hna⟩ : ∃ n, n = xs.length := ⟨_, rfl⟩
 obtain ⟨nb, hnb⟩ : ∃ n, n = ys.length := ⟨_, rfl⟩
 rw [← hna] at HA hla ⊢
 rw [← hnb] at HB hlb ⊢
 have HNA := hid hna
 have HNB := hid hnb
 clear ha hb hna hnb
 by_cases hne : na = nb
 ·subst hne
  go_enter Tryz.func50, Tryz.ntmps50
  go_wp2
  go_loopw [7, 8, 9, 17] (fun _ _ _ i wr => ∃ k : Nat, k ≤ na ∧ i = .int .i64 k ∧ Ext w wr ∧ Hid (xs.take k = ys.take k)) (fun _ _ _ i _ => na - (intOf i).toNat)
  case atStart => exact ⟨0, Nat.zero_le _, rfl, Ext.refl _, rfl⟩
  case round =>
   obtain ⟨k, hk, rfl, hx, HE⟩ := hrel
   have HX := hid hx
   by_cases hlt : k < na
   ·obtain ⟨x, hxk⟩ := z00 (l := xs) (j := k) (by rw [← HNA.out]; exact hlt)
    obtain ⟨y, hyk⟩ := z00 (l := ys) (j := k) (by rw [← HNB.out]; exact hlt)
    obtain ⟨b1, o1, v1, v2, rfl, -, hc1, hm1, hz1, h1, h2, h3, h4, h5⟩ := (HA.out.ext hx hS).cellAt hxk
    obtain ⟨b2, o2, v3, v4, rfl, -, hc2, hm2, hz2, g1, g2, g3, g4, g5⟩ := (HB.out.ext hx hS).cellAt hyk
    have HXK := hid hxk
    have HYK := hid hyk
    have HC := hid (fun W (hW : Ext wr W) => zor (S := S) _ _ x y W (z6k.of_cells (h4.ext hW (z08 hS hx)) (h5.ext hW (z08 hS hx))) (z6k.of_cells (g4.ext hW (z08 hS hx)) (g5.ext hW (z08 hS hx))) (z08 hS (hx.trans hW)))
    obtain ⟨a1, c1, rfl⟩ := h4.form
    obtain ⟨a2, c2, rfl⟩ := h5.form
    obtain ⟨a3, c3, rfl⟩ := g4.form
    obtain ⟨a4, c4, rfl⟩ := g5.form
    have HX2 := hid (Ext.alloc (Ext.alloc (Ext.refl wr) (.cells #[.bool x.c.neg, .slice a1 x.c.mag.length c1, .slice a2 x.m.length c2] 83)) (.cells #[.bool y.c.neg, .slice a3 y.c.mag.length c3, .slice a4 y.m.length c4] 83))
    have n1 := new3 (w := wr) (u := .bool x.c.neg) (v := .slice a1 x.c.mag.length c1) (x := .slice a2 x.m.length c2) (T := 83) (Ext.refl _)
    have m1' := (Ext.alloc (Ext.refl wr) (.cells #[.bool x.c.neg, .slice a1 x.c.mag.length c1, .slice a2 x.m.length c2] 83)).cell g1
    have m2' := (Ext.alloc (Ext.refl wr) (.cells #[.bool x.c.neg, .slice a1 x.c.mag.length c1, .slice a2 x.m.length c2] 83)).cell g2
    have m3' := (Ext.alloc (Ext.refl wr) (.cells #[.bool x.c.neg, .slice a1 x.c.mag.length c1, .slice a2 x.m.length c2] 83)).cell g3
    clear h4 h5 g4 g5 hxk hyk hx n1
    by_cases he : x = y
    ·have H0 := hid he
     have hd : decide (x = y) = true := decide_eq_true he
     have HCT := HC
     simp only [hd] at HCT
     have HCC := hid HCT.out
     clear he hd HCT
     go_wp2_with fail
     with_reducible refine (HCC.out _ HX2.out).mono ?_
     rintro e w2 ⟨rfl, hx2⟩
     have HX3 := hid (HX.out.trans (HX2.out.trans hx2))
     clear hx2
     go_wp2
     go_roundw
     case rel => exact ⟨k + 1, by omega, by go_num, HX3.out, z37 HE.out HXK.out (by rw [H0.out]; exact HYK.out)⟩
     case measure => simp only [intOf]; omega
    ·have HF : Hid (xs ≠ ys) := hid (z66 HXK.out HYK.out he)
     have hd : decide (x = y) = false := decide_eq_false he
     have HCT := HC
     simp only [hd] at HCT
     have HCC := hid HCT.out
     clear he hd HCT
     go_wp2_with fail
     with_reducible refine (HCC.out _ HX2.out).mono ?_
     rintro e w2 ⟨rfl, hx2⟩
     have HX3 := hid (HX.out.trans (HX2.out.trans hx2))
     clear hx2
     go_wp2
     go_ret
     exact ⟨by rw [decide_eq_false HF.out]; rfl, HX3.out⟩
   ·obtain rfl : k = na := by omega
    have HF : Hid (xs = ys) := hid (by have := HE.out; rwa [List.take_of_length_le (by rw [← HNA.out]; exact Nat.le_refl _), List.take_of_length_le (by rw [← HNB.out]; exact Nat.le_refl _)] at this)
    clear hx
    go_wp2
    go_ret
    exact ⟨by rw [decide_eq_true HF.out]; rfl, HX.out⟩
 ·have hb : ((na : Int) != (nb : Int)) = true := by rw [bne_iff_ne]; omega
  have HF : Hid (xs ≠ ys) := hid (fun e => hne (by rw [HNA.out, HNB.out, e]))
  clear hne
  go_enter Tryz.func50, Tryz.ntmps50
  go_wp2
  go_ret
  exact ⟨by rw [decide_eq_false HF.out]; rfl, Ext.refl _⟩
theorem zos {S : Nat → Prop} (va vb : Value) (xs ys : List RTerm) (w : World) (ha : z05 S w va xs) (hb : z05 S w vb ys) (hS : ∀ k, S k → k < w.heap.size) :
  Calls Tryz.prog 17 #[va, vb] w fun e w' => e = .returned (.bool (decide (xs = ys))) ∧ Ext w w' := by
 have C := hid (zhx va vb xs ys w ha hb hS)
 obtain ⟨aa, ca, rfl⟩ := ha.form
 obtain ⟨ab, cb, rfl⟩ := hb.form
 generalize decide (xs = ys) = b at *
 clear ha hb
 go_enter Tryz.func17, Tryz.ntmps17
 go_wp2_with fail
 with_reducible refine C.out.mono ?_
 rintro e w2 ⟨rfl, hx2⟩
 have HX := hid hx2
 clear hx2
 go_wp2
 go_ret
 exact ⟨rfl, HX.out⟩
end
section
open Go.RowKit
def Fit (k n : Nat) (p : PZ) : Prop := canP p ∧ bndZ k p ∧ p.length ≤ n
abbrev PV (W : World) (v : Value) (p : PZ) : Prop := z05 (Old W) W v (ofP p)
section
variable {k l n m : Nat} {p q : PZ}
theorem Fit.can (h : Fit k n p) : canP p := h.1
theorem Fit.mono (h : Fit k n p) (hk : k ≤ l) (hn : n ≤ m) : Fit l m p := ⟨h.1, h.2.1.mono hk, Nat.le_trans h.2.2 hn⟩
theorem Fit.lens (h : Fit k n p) : ∀ t ∈ ofP p, t.c.mag.length ≤ k := zrp h.2.1
theorem Fit.small (h : Fit k n p) (hk : k ≤ 1000000) : z48 (ofP p) := zob h.2.1 (by omega)
theorem Fit.may (h : Fit k n p) : mayT (ofP p) = true := zag h.1
theorem Fit.plain (h : Fit k n p) : z0n (ofP p) = p := zd9 h.1
theorem Fit.len (h : Fit k n p) : (ofP p).length ≤ n := by rw [zhw]; exact h.2.2
theorem z6t : Fit 0 0 [] := ⟨z2f, fun t ht => by simp at ht, by simp⟩
theorem z8y {α β : Type} (f : α → Option β) (l : List α) : (l.filterMap f).length ≤ l.length := List.length_filterMap_le _ _
theorem Fit.init (h : Fit k n p) : Fit k n (z1m p) := ⟨znm h.1, zro h.2.1, by
 unfold z1m
 split
 ·exact h.2.2
 ·exact Nat.le_trans (z8y _ _) h.2.2⟩
theorem Fit.coef (h : Fit k n p) (v e : Int) : Fit k n (z1y p v e) := ⟨z1u h.1 v e, zj3 h.2.1 v e, Nat.le_trans (z8y _ _) h.2.2⟩
theorem zrv (p l : PZ) : (addP p l).length ≤ p.length + l.length := by
 unfold addP
 induction l generalizing p with
 | nil => simp
 | cons t r ih =>
  rw [List.foldl_cons]
  have h1 := ih (putP p t.1 t.2)
  have h2 := zip p t.1 t.2
  simp only [List.length_cons]
  omega
theorem zgd (p : PZ) : (z0m p).length ≤ p.length := by
 have := zrv [] p
 rw [List.length_nil, Nat.zero_add] at this
 exact this
theorem z3l (hp : z0i p) (hq : z0i q) : z0i (p ++ q) := fun t ht => by
 rcases List.mem_append.1 ht with g | g
 ·exact hp t g
 ·exact hq t g
theorem Fit.add (hp : Fit k n p) (hq : Fit k m q) (hn : n + m ≤ 1000000000000) : Fit (k + 2) (n + m) (z0m (p ++ q)) := by
 have hm := z3l hp.1.may hq.1.may
 have hl : (p ++ q).length ≤ n + m := by rw [List.length_append]; have := hp.2.2; have := hq.2.2; omega
 exact ⟨z3r hm, zg0 hm (hp.2.1.append hq.2.1) (by show _ < 4294967296 ^ 2; omega), Nat.le_trans (zgd _) hl⟩
theorem zrw (p q : PZ) : (mulL p q).length = p.length * q.length := by
 unfold mulL
 induction p with
 | nil => simp
 | cons t r ih => rw [List.flatMap_cons, List.length_append, ih, List.length_map, List.length_cons, Nat.add_mul]; omega
theorem zrx (hp : bndZ k p) (hq : bndZ l q) : bndZ (k + l) (mulL p q) := fun x hx => by
 obtain ⟨t, ht, u, hu, rfl⟩ := z7i hx
 exact z2j (zbv (z46 (hp t ht)) (z46 (hq u hu))) (Nat.le_refl _)
theorem Fit.times {c : PZ} (hp : Fit k n p) (hq : Fit l m q) (h : z0e p q = some c) (hn : n * m ≤ 1000000000000) : Fit (k + l + 2) (n * m) c := by
 obtain ⟨hm, rfl⟩ := z4k hp.1.may hq.1.may h
 have hl : (mulL p q).length ≤ n * m := by rw [zrw]; exact Nat.mul_le_mul hp.2.2 hq.2.2
 exact ⟨z3r hm, zg0 hm (zrx hp.2.1 hq.2.1) (by show _ < 4294967296 ^ 2; omega), Nat.le_trans (zgd _) hl⟩
end
theorem zot (k : Nat) : B32 ^ k < 10 ^ (10 * k + 1) := by
 have h1 : B32 ^ k ≤ (10 ^ 10) ^ k := Nat.pow_le_pow_left (by unfold B32; decide) k
 rw [← Nat.pow_mul] at h1
 exact Nat.lt_of_le_of_lt h1 (Nat.pow_lt_pow_right (by decide) (Nat.lt_succ_self _))
theorem zry {k n : Nat} {p : PZ} (h : Fit k n p) (j : Nat) : Fit k n (p.take j) := ⟨zak h.1 (List.take_sublist _ _), fun t ht => h.2.1 t (List.mem_of_mem_take ht), Nat.le_trans (by rw [List.length_take]; exact Nat.min_le_right _ _) h.2.2⟩
theorem zxt {w : World} {v : Value} {ps : List RTerm} (h : z05 (Old w) w v ps) (hm : mayT ps = true) : ps = ofP (z0n ps) := by
 unfold z0n
 rw [if_pos hm]
 exact (zu5 h.okT hm).symm
theorem zou {ps : List RTerm} {k n : Nat} (hok : okT ps) (h : ∀ t ∈ ps, t.c.mag.length ≤ k) (hn : ps.length ≤ n) : Fit k n (z0n ps) := ⟨z2t ps, zoc hok h, Nat.le_trans (zoe ps) hn⟩
section
variable {W : World} {u v : Value} {p q : PZ} {k l n m : Nat}
theorem zeg (hp : PV W u p) (hq : PV W v q) (fp : Fit k n p) (fq : Fit l m q) (hc : k < 24 ∨ l < 24) (hk : k ≤ 1000000) (hl : l ≤ 1000000) (hnm : n * m ≤ 1000000000000) :
  Calls Tryz.prog 86 #[u, v] W (z5p W (z0e p q)) := by
 have h := zlf u v _ _ W 1000000 hp hq (fun _ h => h) fp.may fq.may (fun t ht => Nat.le_trans (fp.lens t ht) hk) (fun t ht => Nat.le_trans (fq.lens t ht) hl) (by decide)
  (hc.imp (fun h t ht => by
   obtain ⟨x, hx, rfl⟩ := List.mem_map.1 ht
   show lenI (valI (ofI x.1)) < 24
   rw [z52]
   exact Nat.lt_of_le_of_lt (z46 (fp.2.1 x hx)) h) (fun h t ht => by
   obtain ⟨x, hx, rfl⟩ := List.mem_map.1 ht
   show lenI (valI (ofI x.1)) < 24
   rw [z52]
   exact Nat.lt_of_le_of_lt (z46 (fq.2.1 x hx)) h))
  (Nat.le_trans (Nat.mul_le_mul fp.len fq.len) hnm)
 rwa [z6h, z6h] at h
theorem zov (hp : PV W u p) (hq : PV W v q) (fp : Fit k n p) (fq : Fit l m q) (hk : k ≤ 1000000) (hl : l ≤ 1000000) (hn : n + m ≤ 1000000000000) :
  Calls Tryz.prog 45 #[u, v] W (z8v W (z0m (p ++ q))) := by
 have h := zrk u v _ _ W 1000000 hp hq (fun _ h => h) fp.may fq.may (fun t ht => Nat.le_trans (fp.lens t ht) hk) (fun t ht => Nat.le_trans (fq.lens t ht) hl) (by decide) (by have := fp.len; have := fq.len; omega)
 rwa [z6h, z6h] at h
theorem zx3 (hp : PV W u p) (hq : PV W v q) : Calls Tryz.prog 17 #[u, v] W fun e w' => e = .returned (.bool (decide (p = q))) ∧ Ext W w' := by
 have h := zos u v _ _ W hp hq (fun _ h => h)
 have e : decide (ofP p = ofP q) = decide (p = q) := by
  by_cases g : p = q
  ·rw [decide_eq_true g, decide_eq_true (congrArg ofP g)]
  ·rw [decide_eq_false g, decide_eq_false (fun e => g (by rw [← z6h p, e, z6h]))]
 rwa [e] at h
theorem zow (hp : PV W u p) (fp : Fit k n p) (hk : k ≤ 1000000) : Calls Tryz.prog 46 #[u] W fun e w' => e = .returned (.int .i64 (z0r p)) ∧ Ext W w' := by
 have h := z9c u _ W hp (fun _ h => h) (fp.small hk)
 rwa [fp.plain] at h
theorem zap (hp : PV W u p) (fp : Fit k n p) (hk : k ≤ 1000000) {x : Int} (hx : z12 x) : Calls Tryz.prog 70 #[u, .int .i64 x] W fun e w' => e = .returned (.int .i64 (degP p x)) ∧ Ext W w' := by
 have h := zb6 u _ x W hp (fun _ h => h) (fp.small hk) hx
 rwa [fp.plain] at h
theorem zge (hp : PV W u p) (fp : Fit k n p) (hk : k ≤ 1000000) (hn : n ≤ 1000000000000) : Calls Tryz.prog 29 #[u] W fun e w' => ∃ v', e = .returned v' ∧ z05 (New W w') w' v' (ofP (z1m p)) ∧ Ext W w' := by
 have h := zg4 u _ W hp (fun _ h => h) (fp.small hk) (Nat.le_trans fp.len hn)
 rwa [fp.plain] at h
theorem zx4 (hp : PV W u p) (fp : Fit k n p) (hk : k ≤ 1000000) (hn : n ≤ 1000000000000) {x d : Int} (hx : 1 ≤ x ∧ x ≤ 200) (hd : z12 d) : Calls Tryz.prog 69 #[u, .int .i64 x, .int .i64 d] W fun e w' => ∃ v', e = .returned v' ∧ z05 (New W w') w' v' (ofP (z1y p x d)) ∧ Ext W w' := by
 have h := z6a u _ x d W hp (fun _ h => h) (fp.small hk) (Nat.le_trans fp.len hn) hx hd
 rwa [fp.plain] at h
theorem zlm (hp : PV W u p) (fp : Fit k n p) (hk : k ≤ 1000000) : Calls Tryz.prog 42 #[u] W fun e w' => e = .returned (.bool true) ∧ Ext W w' := by
 have h := z54 u _ W hp (fun _ h => h) (fp.small hk)
 rwa [fp.may] at h
end
end
section
def powP (v : Int) (i : Nat) : PZ := if i = 0 then [(1, [])] else [(1, [(v, (i : Int))])]
theorem zj8 (p : PZ) (c : Int) (m : Mono) : mulL p [(c, m)] = p.map fun t => (t.1 * c, z0q t.2 m) := by
 unfold mulL
 induction p with
 | nil => rfl
 | cons t r ih => rw [List.flatMap_cons, ih]; rfl
theorem zvf {v : Int} (hv : 1 ≤ v ∧ v ≤ 200) {i : Nat} (hi : i ≤ 10000) : z0i (powP v i) := by
 intro t ht
 unfold powP at ht
 split at ht
 ·rw [List.mem_singleton.1 ht]; rfl
 ·rw [List.mem_singleton.1 ht]; exact znq hv (by omega)
theorem zc0 {v : Int} (hv : 1 ≤ v ∧ v ≤ 200) {i : Nat} (hi : i ≤ 10000) : canP (powP v i) := by
 refine ⟨fun t ht => ⟨?_, zvf hv hi t ht⟩, ?_⟩
 ·unfold powP at ht
  split at ht
  ·rw [List.mem_singleton.1 ht]; show (1 : Int) ≠ 0; decide
  ·rw [List.mem_singleton.1 ht]; show (1 : Int) ≠ 0; decide
 ·unfold powP
  split <;> exact List.pairwise_singleton _ _
theorem zox {v : Int} (hv : 1 ≤ v ∧ v ≤ 200) {i : Nat} (hi : i ≤ 10000) : Fit 1 1 (powP v i) := by
 refine ⟨zc0 hv hi, fun t ht => ?_, ?_⟩
 ·unfold powP at ht
  split at ht
  ·rw [List.mem_singleton.1 ht]; show (1 : Int).natAbs < _; decide
  ·rw [List.mem_singleton.1 ht]; show (1 : Int).natAbs < _; decide
 ·unfold powP
  split <;> exact Nat.le_refl _
theorem zgf {m : Mono} (h : mayM m = true) {v : Int} (he : ex m v = 0) : z0j m v = m := by
 refine zfn (z1p h v) h (fun u => ?_)
 rw [z1s]
 by_cases hu : u = v
 ·subst hu; rw [if_pos rfl, he]
 ·rw [if_neg hu]
end
section
open Go.RowKit
theorem zvg (x : Int) : numP 1 = powP x 0 := rfl
theorem zoy {S : Nat → Prop} {w : World} {T : TypeId} {vd vo : Value} {c : Int} {m : Mono} (hS : ∀ k, S k → k < w.heap.size) (hd : Digs S w vd (rep 10 c.natAbs)) (hm : Pows S w vo m) :
  RTs (fun k => S k ∨ k = w.heap.size) (w.alloc (.cells #[.bool (decide (c < 0)), vd, vo] T)) (.slice (some ⟨w.heap.size, 0, none⟩) 1 1) [(c, m)] := by
 have x2 : Ext w (w.alloc (.cells #[.bool (decide (c < 0)), vd, vo] T)) := Ext.alloc (Ext.refl w) _
 refine ⟨w.heap.size, 0, ⟨_, 1, rfl, Nat.le_refl _, by decide, fun _ => rfl, fun _ => .inr rfl⟩, fun j t hj => ?_⟩
 have hj0 : j = 0 := by have := z04 hj; simp at this; exact this
 subst hj0
 obtain rfl : (c, m) = t := by simpa using hj
 exact ⟨vd, vo, z01 _ _ _ rfl rfl, z01 _ _ _ rfl rfl, z01 _ _ _ rfl rfl, hd.to (Kept.ext x2 hS) (fun _ h => .inl h), hm.to (Kept.ext x2 hS) (fun _ h => .inl h)⟩
theorem zhy (x : Int) (i : Nat) (w : World) (hx : z12 x) (hi : i ≤ 10000) :
  Calls Tryz.prog 100 #[.int .i64 x, .int .i64 (i : Nat)] w fun e w' => ∃ v', e = .returned v' ∧ RTs (New w w') w' v' (powP x i) ∧ Ext w w' := by
 have C1 := hid (zb8 1 w (by omega))
 have C0 := hid (z60 1 w (by omega))
 have HXX := hid hx
 clear hx
 by_cases h0 : i = 0
 ·subst h0
  go_enter Tryz.func100, Tryz.ntmps100
  go_wp2_with fail
  refine C0.out.mono ?_
  rintro e w1 ⟨v1, rfl, hp1, hx1⟩
  rw [zvg x] at hp1
  have HP1 := hid hp1
  have HX1 := hid hx1
  clear hp1 hx1
  go_wp2
  all_goals
   go_ret
   exact ⟨_, rfl, HP1.out, HX1.out⟩
 ·have hin : Hid (z12 (i : Int)) := hid (by unfold z12; omega)
  have hib : ((i : Int) == 0) = false := by rw [beq_eq_false_iff_ne]; omega
  have HPW : Hid (powP x i = [(1, [(x, (i : Int))])]) := hid (by unfold powP; rw [if_neg h0])
  go_enter Tryz.func100, Tryz.ntmps100
  go_wp2_with fail
  refine C1.out.mono ?_
  rintro e w1 ⟨v1, rfl, hz1, hx1⟩
  obtain ⟨vd, rfl, hd⟩ := hz1
  have HX1 := hid hx1
  have HD := hid hd
  obtain ⟨ad, cd, rfl⟩ := hd.form
  obtain ⟨nd, hnd⟩ : ∃ n, n = (rep 10 ((1 : Nat) : Int).natAbs).length := ⟨_, rfl⟩
  obtain ⟨bd, hbd⟩ : ∃ b, b = decide (((1 : Nat) : Int) < 0) := ⟨_, rfl⟩
  rw [← hnd] at HD ⊢
  rw [← hbd]
  have HB := hid hbd
  clear hx1 hd hnd hbd
  go_wp2
  go_ret
  have x1 : Ext w1 (w1.alloc (.cells #[.int .i64 x, .int .i64 (i : Nat)] 85)) := Ext.alloc (Ext.refl w1) _
  have hb : (w1.alloc (.cells #[.int .i64 x, .int .i64 (i : Nat)] 85)).heap.size = w1.heap.size + 1 := z02 _ _
  have hm : Pows (New w (w1.alloc (.cells #[.int .i64 x, .int .i64 (i : Nat)] 85))) (w1.alloc (.cells #[.int .i64 x, .int .i64 (i : Nat)] 85)) (.slice (some ⟨w1.heap.size, 0, none⟩) 1 1) [(x, (i : Int))] := by
   refine ⟨w1.heap.size, 0, ⟨_, 1, rfl, Nat.le_refl _, by decide, fun _ => rfl, fun _ => ⟨HX1.out.size, by rw [hb] <;> omega⟩⟩, fun j t hj => ?_⟩
   have hj0 : j = 0 := by have := z04 hj; simp at this; exact this
   subst hj0
   obtain rfl : (x, (i : Int)) = t := by simpa using hj
   exact ⟨⟨HXX.out, hin.out⟩, z01 _ _ _ rfl rfl, z01 _ _ _ rfl rfl⟩
  have hone := zoy (S := New w (w1.alloc (.cells #[.int .i64 x, .int .i64 (i : Nat)] 85))) (T := 141) (c := 1) (fun k hk => hk.2) (HD.out.to (Kept.ext x1 (fun _ h => h.2)) (fun k h => ⟨h.1, Nat.lt_of_lt_of_le h.2 x1.size⟩)) hm
  rw [HPW.out, HB.out]
  refine ⟨_, rfl, ?_, (HX1.out.trans x1).trans (Ext.alloc (Ext.refl _) _)⟩
  refine RTs.to (w := _) ?_ (Kept.refl _ _) (fun k hk => ?_) (S := fun k => New w (w1.alloc (.cells #[.int .i64 x, .int .i64 (i : Nat)] 85)) k ∨ k = w1.heap.size + 1)
  ·rw [hb] at hone
   exact hone
  ·unfold New
   simp only [z02]
   rcases hk with h | rfl
   ·have h2 := h.2
    rw [hb] at h2
    exact ⟨h.1, Nat.lt_succ_of_lt h2⟩
   ·exact ⟨Nat.le_succ_of_le HX1.out.size, Nat.lt_succ_self _⟩
theorem zrz {p : PZ} (h : canP p) {k : Nat} {t : Int × Mono} {x d : Int} (ht : p[k]? = some t) (hd : ex t.2 x = d) : addP (z1y (p.take k) x d) [(t.1, z0j t.2 x)] = z1y (p.take (k + 1)) x d := by
 have hc := z1u (zak h (List.take_sublist k p)) x d
 have hc' := z1u (zak h (List.take_sublist (k + 1) p)) x d
 have e : z1y (p.take (k + 1)) x d = z1y (p.take k) x d ++ [(t.1, z0j t.2 x)] := by
  unfold z1y
  rw [List.take_add_one, ht, List.filterMap_append]
  simp [z9h, hd]
 have hm : z0i [(t.1, z0j t.2 x)] := fun u hu => by
  obtain rfl := List.mem_singleton.1 hu
  exact z1p (h.may t (List.mem_of_getElem? ht)) x
 rw [zdu hc hm, ← e, z2n hc']
theorem zvh {p : PZ} {k : Nat} {t : Int × Mono} {x d : Int} (ht : p[k]? = some t) (hd : ex t.2 x ≠ d) : z1y (p.take (k + 1)) x d = z1y (p.take k) x d := by
 unfold z1y
 rw [List.take_add_one, ht, List.filterMap_append]
 simp [z9h, hd]
theorem zj9 {p : PZ} (h : szP p) (x d : Int) : szP (z1y p x d) := ⟨Nat.le_trans (List.length_filterMap_le _ _) h.1, fun u hu => by
 obtain ⟨t, ht, _, rfl⟩ := z6p hu
 exact h.2 t ht⟩
theorem z5q {S : Nat → Prop} (v : Value) (p : PZ) (x d : Int) (w : World) (h : RTs S w v p) (hS : ∀ k, S k → k < w.heap.size) (hc : canP p) (hsz : szP p) (hx : 1 ≤ x ∧ x ≤ 200) (hd : -9223372036854775808 ≤ d ∧ d ≤ 9223372036854775807) :
  Calls Tryz.prog 78 #[v, .int .i64 x, .int .i64 d] w fun e w' => ∃ v', e = .returned v' ∧ RTs (Plus S w w') w' v' (z1y p x d) ∧ Ext w w' := by
 have hl := h.len_le
 have H := hid h
 have HSZ := hid hsz
 have HC := hid hc
 have HX200 := hid hx
 obtain ⟨hx1, hx2⟩ := hx
 obtain ⟨hd1, hd2⟩ := hd
 obtain ⟨a, cap, rfl⟩ := h.form
 clear h hsz hc
 go_enter Tryz.func78, Tryz.ntmps78
 go_wp2
 go_loopw [7, 8] (fun o i wr => ∃ k : Nat, k ≤ p.length ∧ i = .int .i64 k ∧ Ext w wr ∧ Hid (RTs (Plus S w wr) wr o (z1y (p.take k) x d))) (fun _ i _ => p.length - (intOf i).toNat)
 case atStart => exact ⟨0, Nat.zero_le _, rfl, Ext.refl _, hid (RTs.nilv _ _ _ _ (by omega))⟩
 case round =>
  obtain ⟨k, hk, rfl, hx0, HO⟩ := hrel
  have HX := hid hx0
  by_cases hlt : k < p.length
  ·obtain ⟨t, ht⟩ := z00 hlt
   obtain ⟨b, off, vd, vo, rfl, -, hn1, hm1, hSb, h1, h2, h3, h4, h5⟩ := H.out.cellAt ht
   have HT := hid ht
   have H4 := hid h4
   have H5 := hid h5
   have HTM := hid (HC.out.may t (List.mem_of_getElem? ht))
   have hr := z1n HTM.out x
   obtain ⟨ad, cd, rfl⟩ := h4.form
   obtain ⟨ao, co, rfl⟩ := h5.form
   have g3 := hx0.cell h3
   have C1 := fun (W : World) (hW : Ext w W) => z9w (S := S) _ t.2 x W (H5.out.ext hW hS) (z08 hS hW) ⟨by omega, by omega⟩
   rw [z2k HTM.out] at C1
   have C2 := fun (W : World) (hW : Ext w W) => ze5 (S := S) _ t.2 x W (H5.out.ext hW hS) (z08 hS hW) HTM.out ⟨hx1, hx2⟩
   have h0 : _ ∧ _ ∧ _ := And.intro h1 (And.intro h2 h3)
   obtain ⟨bt, hbt⟩ : ∃ b, b = decide (t.1 < 0) := ⟨_, rfl⟩
   obtain ⟨nt, hnt⟩ : ∃ n, n = (rep 10 t.1.natAbs).length := ⟨_, rfl⟩
   obtain ⟨nm, hnm⟩ : ∃ n, n = t.2.length := ⟨_, rfl⟩
   obtain ⟨xe, hxe⟩ : ∃ n, n = ex t.2 x := ⟨_, rfl⟩
   have HBT := hid hbt
   have HNT := hid hnt
   have HXE := hid hxe
   rw [← hbt, ← hnt, ← hnm] at h0
   rw [← hnm] at g3 H5 C1 C2
   rw [← hxe] at C1 hr
   rw [← hnt] at H4
   have HC0 := hid h0
   have HC1 := hid C1
   have HC2 := hid C2
   have HSZT := hid (HSZ.out.2 t (List.mem_of_getElem? ht))
   clear ht h0 h1 h2 h3 h4 h5 hx0 C1 C2 hbt hnt hnm hxe
   go_wp2_with fail
   refine (HC1.out wr HX.out).mono ?_
   rintro e w1 ⟨rfl, hx1⟩
   have HX1 := hid (HX.out.trans hx1)
   have HO1 := hid (RTs.later hS HO.out HX.out hx1)
   clear hx1 g3
   by_cases he : xe = d
   ·have HE := hid (zrz HC.out HT.out (x := x) (d := d) (by rw [← HXE.out]; exact he))
    subst he
    have x0 : Ext w w1.drew := HX1.out.drew
    have HX0 := hid x0
    have S0 : _ ∧ _ ∧ _ := And.intro (x0.cell HC0.out.1) (And.intro (x0.cell HC0.out.2.1) (x0.cell HC0.out.2.2))
    have HC3 := hid (HC2.out w1.drew x0)
    have HO2 := hid (RTs.later hS HO1.out HX1.out ((Ext.refl w1).drew))
    have HSC := hid (zj9 (zed HSZ.out k) x xe)
    have HSC1 := hid (zj9 (zed HSZ.out (k + 1)) x xe)
    have HMC := hid (z1u (zak HC.out (List.take_sublist k p)) x xe).may
    clear x0
    go_wp2
    go_region_held3 (fun W => W.cell? ⟨b, off + k * 3, none⟩ = some (.bool bt) ∧ W.cell? ⟨b, off + k * 3 + 1, none⟩ = some (.slice ad nt cd) ∧ W.cell? ⟨b, off + k * 3 + 2, none⟩ = some (.slice ao nm co)) (first | exact S0 | exact S1 | exact ⟨cell_old _ S1.1, cell_old _ S1.2.1, cell_old _ S1.2.2⟩ | exact S3)
     (first
      | (go_at_call 127; (with_reducible refine HC3.out.mono ?_); rintro e w2 ⟨v2, rfl, hp2, hx2⟩; obtain ⟨a2, c2, rfl⟩ := hp2.form; have HX2 := hid (HX0.out.trans hx2); have S1 : _ ∧ _ ∧ _ := And.intro (hx2.cell S0.1) (And.intro (hx2.cell S0.2.1) (hx2.cell S0.2.2)); obtain ⟨n2, hn2⟩ : ∃ n, n = (z0j t.2 x).length := ⟨_, rfl⟩; rw [← hn2] at hp2 ⊢
         have HP2 : Hid (Pows (Plus S w w2) w2 (.slice a2 n2 c2) (z0j t.2 x)) := hid (hp2.to (Kept.refl _ _) (zaj HX0.out.size))
         have hone := zoy (S := Plus S w w2) (T := 141) (c := t.1) (z1i hS HX2.out) ((H4.out.ext HX2.out hS).to (Kept.refl _ _) (fun _ h => .inl h)) HP2.out
         rw [← HBT.out] at hone
         have x3 : Ext w2 (w2.alloc (.cells #[.bool bt, .slice ad nt cd, .slice a2 n2 c2] 141)) := Ext.alloc (Ext.refl w2) _
         have HX3 := hid (HX2.out.trans x3)
         have HC4 := hid (zbd (S := Plus S w (w2.alloc (.cells #[.bool bt, .slice ad nt cd, .slice a2 n2 c2] 141))) _ _ (z1y (p.take k) x xe) [(t.1, z0j t.2 x)] (w2.alloc (.cells #[.bool bt, .slice ad nt cd, .slice a2 n2 c2] 141)) (z1i hS HX3.out) (RTs.later hS HO2.out HX0.out (hx2.trans x3)) (hone.to (Kept.refl _ _) (fun q hq => by
         rcases hq with hq | rfl
         ·exact z3c x3.size q hq
         ·exact .inr ⟨HX2.out.size, by rw [z02]; exact Nat.lt_succ_self _⟩)) HMC.out (fun u hu => by
         obtain rfl := List.mem_singleton.1 hu
         exact z1p HTM.out x) ⟨by simp, fun u hu => by
         obtain rfl := List.mem_singleton.1 hu
         exact HSZT.out⟩ (fun j hj => by
         rcases Nat.lt_or_ge j 1 with h | h
         ·obtain rfl : j = 0 := by omega
          exact HSC.out
         ·have e : [(t.1, z0j t.2 x)].take j = [(t.1, z0j t.2 x)] := List.take_of_length_le (by simpa using h)
          rw [e, HE.out]
          exact HSC1.out))
         clear hx2 hp2 hone x3 hn2)
      | (go_at_call 40; (with_reducible refine HC4.out.mono ?_); rintro e w3 ⟨v3, rfl, hp3, hx3⟩; have HX4 := hid (HX3.out.trans hx3); have S3 : _ ∧ _ ∧ _ := And.intro (HX4.out.cell HC0.out.1) (And.intro (HX4.out.cell HC0.out.2.1) (HX4.out.cell HC0.out.2.2)); have HP3 := hid (hp3.to (Kept.refl _ _) (z6n HX3.out hx3)); clear hx3 hp3))
    all_goals
     go_wp2
     go_roundw
     case rel => exact ⟨k + 1, by omega, by go_num, HX4.out, hid (by rw [← HE.out]; exact HP3.out)⟩
     case measure => simp only [intOf]; omega
   ·have HE := hid (zvh HT.out (x := x) (d := d) (by rw [← HXE.out]; exact he))
    go_wp2
    go_roundw
    case rel => exact ⟨k + 1, by omega, by go_num, HX1.out, hid (by rw [HE.out]; exact HO1.out)⟩
    case measure => simp only [intOf]; omega
  ·obtain rfl : k = p.length := by omega
   have HE : Hid (p.take p.length = p) := hid List.take_length
   clear hx0
   go_wp2
   all_goals
    go_ret
    refine ⟨_, rfl, ?_, HX.out⟩
    have := HO.out
    rw [HE.out] at this
    exact this
theorem zeh {S : Nat → Prop} (v : Value) (p : PZ) (w : World) (h : RTs S w v p) (hS : ∀ k, S k → k < w.heap.size) (hc : canP p) (hsz : szP p) :
  Calls Tryz.prog 38 #[v] w fun e w' => ∃ v', e = .returned v' ∧ RTs (Plus S w w') w' v' (z1m p) ∧ Ext w w' := by
 have H := hid h
 have hlr := z3i hc
 have hdr := z0u hc.may (z0r p)
 have C1 := z64 v p w (h.old hS) hc.may
 rw [z8h hc] at C1
 have C2 := fun (W : World) (hW : Ext w W) => za5 v p (z0r p) W ((h.ext hW hS).old (z08 hS hW)) hc.may ⟨by omega, by omega⟩
 have C3 := fun (W : World) (hW : Ext w W) (hl : 1 ≤ z0r p) => z5q (S := S) v p (z0r p) (degP p (z0r p)) W (h.ext hW hS) (z08 hS hW) hc hsz ⟨hl, hlr.2⟩ ⟨by omega, by omega⟩
 have HI0 : Hid (z0r p = 0 → z1m p = p) := hid (fun h0 => by unfold z1m; rw [if_pos h0])
 have HI : Hid (z0r p ≠ 0 → z1m p = z1y p (z0r p) (degP p (z0r p))) := hid (fun h0 => by unfold z1m; rw [if_neg h0])
 obtain ⟨l, hl⟩ : ∃ l, l = z0r p := ⟨_, rfl⟩
 rw [← hl] at C1 C2 C3 HI HI0 hlr hdr
 obtain ⟨d, hd⟩ : ∃ d, d = degP p l := ⟨_, rfl⟩
 rw [← hd] at C2 C3 HI hdr
 have HC1 := hid C1
 have HC2 := hid C2
 have HC3 := hid C3
 clear C1 C2 C3 hl hd h hc hsz
 go_enter Tryz.func38, Tryz.ntmps38
 go_wp2_with fail
 refine HC1.out.mono ?_
 rintro e w1 ⟨rfl, hx1⟩
 have HX1 := hid hx1
 clear hx1
 by_cases h0 : l = 0
 ·have HE := hid (HI0.out h0)
  subst h0
  go_wp2
  all_goals
   go_ret
   exact ⟨_, rfl, by rw [HE.out]; exact (H.out.ext HX1.out hS).to (Kept.refl _ _) (fun _ h => .inl h), HX1.out⟩
 ·have hl1 : 1 ≤ l := by omega
  have hb : (l == 0) = false := by rw [beq_eq_false_iff_ne]; exact h0
  go_wp2_with fail
  refine (HC2.out w1 HX1.out).mono ?_
  rintro e w2 ⟨rfl, hx2⟩
  have HX2 := hid (HX1.out.trans hx2)
  clear hx2
  go_wp2_with fail
  refine (HC3.out w2 HX2.out hl1).mono ?_
  rintro e w3 ⟨v3, rfl, hp3, hx3⟩
  have HX3 := hid (HX2.out.trans hx3)
  have HP3 : Hid (RTs (Plus S w w3) w3 v3 (z1y p l d)) := hid (hp3.to (Kept.refl _ _) (fun q hq => by
   rcases hq with hq | hq
   ·exact .inl hq
   ·exact .inr ⟨Nat.le_trans HX2.out.size hq.1, hq.2⟩))
  clear hx3 hp3
  go_wp2
  all_goals
   go_ret
   exact ⟨_, rfl, by rw [HI.out h0]; exact HP3.out, HX3.out⟩
end
section
def z18 (p : PZ) (v : Int) : PZ := z1y p v (degP p v)
def z4w (r : PZ) (v d : Int) : Option PZ := z0e (z18 r v) (powP v (degP r v - d).toNat)
def z2o (keep : Bool) (g h : PZ) (v d : Int) (q r : PZ) : Option (PZ × PZ) :=
 match z4w r v d with
 | none => none
 | some t => match z0e t g with
  | none => none
  | some l => match z0e h r with
   | none => none
   | some m => if keep then (match z0e h q with
     | none => none
     | some u => some (z0m (u ++ t), z0m (m ++ negP l)))
    else some ([], z0m (m ++ negP l))
def z15 (o : Option Nat) (s : MSt) : Int × MSt := match o with
 | none => (0, s)
 | some _ => s.step
def z0o (o : Option Nat) (s : MSt) (p : PZ) : Int × MSt := match o with
 | none => (0, s)
 | some _ => s.keep (z0w (ofP p) (ofP p).length) (ofP p).length
def mexp (o : Option Nat) (s : MSt) : MSt := match o with
 | none => s
 | some _ => s.refused 8
theorem z4f {o : Option Nat} {s : MSt} {p : PZ} (h : (z0o o s p).1 = 0) : (z0o o s p).2 = s := by
 unfold z0o at h ⊢
 cases o with
 | none => rfl
 | some b =>
  simp only [MSt.keep] at h ⊢
  split
  ·rename_i h1; rw [if_pos h1] at h; simp at h
  ·rename_i h1
   rw [if_neg h1] at h
   split
   ·rename_i h2; rw [if_pos h2] at h; simp at h
   ·rfl
theorem z6u {b : Nat} {s : MSt} {p : PZ} (h : (z0o (some b) s p).1 = 0) : (z0w (ofP p) (ofP p).length : Int) ≤ s.li ∧ (p.length : Int) ≤ s.te := by
 have e : (ofP p).length = p.length := zhw p
 simp only [z0o, MSt.keep] at h
 split at h
 ·simp at h
 ·split at h
  ·simp at h
  ·rw [e] at *; omega
structure DRes where
 e : Int
 q : PZ
 r : PZ
 n : Nat
 s : MSt
def runD (o : Option Nat) (keep : Bool) (g h : PZ) (v d : Int) : Nat → MSt → PZ → PZ → Nat → DRes
 | 0, s, q, r, n => ⟨0, q, r, n, s⟩
 | k + 1, s, q, r, n =>
  if r = [] ∨ degP r v < d then ⟨0, q, r, n, s⟩ else
  if (z15 o s).1 ≠ 0 then ⟨(z15 o s).1, [], [], 0, (z15 o s).2⟩ else
  match z2o keep g h v d q r with
  | none => ⟨8, [], [], 0, mexp o (z15 o s).2⟩
  | some x =>
   if (z0o o (z15 o s).2 x.2).1 ≠ 0 then ⟨(z0o o (z15 o s).2 x.2).1, [], [], 0, (z0o o (z15 o s).2 x.2).2⟩ else
   if (z0o o (z15 o s).2 x.1).1 ≠ 0 then ⟨(z0o o (z15 o s).2 x.1).1, [], [], 0, (z0o o (z15 o s).2 x.1).2⟩ else
   runD o keep g h v d k (z15 o s).2 x.1 x.2 (n + 1)
def z3g (o : Option Nat) (keep : Bool) (g h : PZ) (v d : Int) (B M : Nat) : Nat → MSt → PZ → PZ → Prop
 | 0, _, q, r => Fit B M q ∧ Fit B M r
 | k + 1, s, q, r => Fit B M q ∧ Fit B M r ∧ (r ≠ [] → d ≤ degP r v → (z15 o s).1 = 0 → ∀ x, z2o keep g h v d q r = some x →
   (z0o o (z15 o s).2 x.2).1 = 0 → (z0o o (z15 o s).2 x.1).1 = 0 → z3g o keep g h v d B M k (z15 o s).2 x.1 x.2)
theorem z7j {keep : Bool} {g h : PZ} {v d : Int} {q r : PZ} {x : PZ × PZ} (hs : z2o keep g h v d q r = some x) :
  ∃ t l m, z4w r v d = some t ∧ z0e t g = some l ∧ z0e h r = some m ∧ x.2 = z0m (m ++ negP l) ∧ (keep = false → x.1 = []) ∧ (keep = true → ∃ u, z0e h q = some u ∧ x.1 = z0m (u ++ t)) := by
 unfold z2o at hs
 cases ht : z4w r v d with
 | none => rw [ht] at hs; cases hs
 | some t =>
  rw [ht] at hs
  simp only at hs
  cases hl : z0e t g with
  | none => rw [hl] at hs; cases hs
  | some l =>
   rw [hl] at hs
   simp only at hs
   cases hm : z0e h r with
   | none => rw [hm] at hs; cases hs
   | some m =>
    rw [hm] at hs
    simp only at hs
    refine ⟨t, l, m, rfl, hl, rfl, ?_⟩
    cases keep with
    | false =>
     simp only [Bool.false_eq_true, if_false] at hs
     cases hs
     exact ⟨rfl, fun _ => rfl, fun h => (by cases h)⟩
    | true =>
     simp only [if_true] at hs
     cases hu : z0e h q with
     | none => rw [hu] at hs; cases hs
     | some u =>
      rw [hu] at hs
      cases hs
      exact ⟨rfl, fun h => (by cases h), fun _ => ⟨u, rfl, rfl⟩⟩
theorem z7k {p : PZ} (h : canP p) : canP (negP p) := by
 refine ⟨fun t ht => ?_, ?_⟩
 ·obtain ⟨u, hu, rfl⟩ := List.mem_map.1 ht
  have := (h.1 u hu).1
  exact ⟨by show -u.1 ≠ 0; omega, (h.1 u hu).2⟩
 ·unfold negP
  rw [List.pairwise_map]
  exact h.2
theorem zvi (f : Mono → Int) (p : PZ) : ev f (negP p) = - ev f p := zol f p
theorem zja {p : PZ} {t : Int × Mono} (h : t ∈ negP p) : ∃ u ∈ p, u.2 = t.2 := by
 obtain ⟨u, hu, rfl⟩ := List.mem_map.1 h
 exact ⟨u, hu, rfl⟩
section
variable {g h q r t l m : PZ} {v d : Int}
theorem z8z {p : PZ} (_hp : canP p) (v e : Int) : degP (z1y p v e) v = 0 := zfp (fun _ ht => z8s ht)
theorem zgg {p : PZ} (hp : canP p) {v : Int} (h0 : ∀ t ∈ p, ex t.2 v = 0) : z1y p v 0 = p := by
 have hm := hp.may
 clear hp
 unfold z1y
 induction p with
 | nil => rfl
 | cons t r ih =>
  have hr := ih (fun u hu => h0 u (by simp [hu])) (fun u hu => hm u (by simp [hu]))
  have h1 := h0 t (by simp)
  rw [List.filterMap_cons, show z9h v 0 t = some (t.1, z0j t.2 v) from if_pos h1, hr, zgf (hm t (by simp)) h1]
theorem zoz {v : Int} (_hv : 1 ≤ v ∧ v ≤ 200) {i : Nat} (_hi : i ≤ 10000) : degP (powP v i) v = (i : Int) := by
 unfold powP
 split
 ·rename_i h0
  subst h0
  exact zfp (fun t ht => by rw [List.mem_singleton.1 ht]; rfl)
 ·refine Int.le_antisymm (zbn (by omega) (fun t ht => by rw [List.mem_singleton.1 ht, zfr, if_pos rfl]; exact Int.le_refl _)) ?_
  have := z1l (p := [(1, [(v, (i : Int))])]) (t := (1, [(v, (i : Int))])) (by simp) v
  rwa [zfr, if_pos rfl] at this
theorem zvj {v : Int} (_hv : 1 ≤ v ∧ v ≤ 200) {i : Nat} (_hi : i ≤ 10000) : z1y (powP v i) v (i : Int) = [(1, [])] := by
 unfold powP
 split
 ·rename_i h0
  subst h0
  rfl
 ·unfold z1y
  rw [List.filterMap_cons, show z9h v (i : Int) (1, [(v, (i : Int))]) = some (1, z0j [(v, (i : Int))] v) from if_pos (by rw [zfr, if_pos rfl])]
  rw [show z0j [(v, (i : Int))] v = [] by unfold z0j; simp]
  rfl
theorem zs0 {p : PZ} (hp : zrr p) : mulL p [(1, [])] = p := by
 rw [zj8]
 induction p with
 | nil => rfl
 | cons t r ih =>
  rw [List.map_cons, ih (fun u hu => hp u (by simp [hu])), z6r (hp t (by simp)), Int.mul_one]
theorem zs1 (hr : canP r) (hr0 : r ≠ []) (hv : 1 ≤ v ∧ v ≤ 200) (hd : 0 ≤ d) (hdr : d ≤ degP r v) (ht : z4w r v d = some t) :
  canP t ∧ t ≠ [] ∧ degP t v = degP r v - d ∧ Eqv (z1y t v (degP r v - d)) (z18 r v) := by
 have hrg := z0u hr.may v
 obtain ⟨i, hi⟩ : ∃ i : Nat, i = (degP r v - d).toNat := ⟨_, rfl⟩
 have hi2 : (i : Int) = degP r v - d := by omega
 have hi3 : i ≤ 10000 := by omega
 unfold z4w at ht
 rw [← hi] at ht
 have hc := z1u hr v (degP r v)
 have hp := zc0 hv hi3
 have hc0 := z65 hr.may hr0 v
 have hp0 : powP v i ≠ [] := by unfold powP; split <;> simp
 have h1 := zbz hc hp hc0 hp0 ht v
 rw [z8z hr, zoz hv hi3, Int.zero_add] at h1
 refine ⟨z3z hc hp ht, zru hc hp hc0 hp0 ht, by omega, ?_⟩
 have h2 := zef hc hp ht v
 rw [z8z hr, zoz hv hi3, Int.zero_add, zvj hv hi3, zgg hc (fun _ h => z8s h), zs0 (zbx hc.may)] at h2
 rw [← hi2]
 exact h2
theorem zs2 (hg : canP g) (hr : canP r) (hr0 : r ≠ []) (hv : 1 ≤ v ∧ v ≤ 200) (hd1 : 1 ≤ degP g v) (hdr : degP g v ≤ degP r v)
  (ht : z4w r v (degP g v) = some t) (hl : z0e t g = some l) (hm : z0e (z18 g v) r = some m) : canP (z0m (m ++ negP l)) ∧ degP (z0m (m ++ negP l)) v < degP r v := by
 obtain ⟨ct, t0, dt, et⟩ := zs1 hr hr0 hv (by omega) hdr ht
 have hg0 : g ≠ [] := fun e => by rw [e] at hd1; simp [degP] at hd1
 have ch := z1u hg v (degP g v)
 have h0 := z65 hg.may hg0 v
 have cl := z3z ct hg hl
 have cm := z3z ch hr hm
 have hmay := z3l cm.may (z7k cl).may
 have hcan := z3r hmay
 refine ⟨hcan, znn (by omega) (fun x hx => ?_)⟩
 have hle : ex x.2 v ≤ degP r v := by
  obtain ⟨u, hu, e⟩ := zao hmay hx
  rw [← e]
  rcases List.mem_append.1 hu with h1 | h1
  ·have := z1l h1 v
   rw [zbz ch hr h0 hr0 hm v, z8z hg, Int.zero_add] at this
   exact this
  ·obtain ⟨y, hy, e2⟩ := zja h1
   rw [← e2]
   have := z1l hy v
   rw [zbz ct hg t0 hg0 hl v, dt] at this
   omega
 rcases Int.lt_or_eq_of_le hle with h1 | h1
 ·exact h1
 ·exfalso
  have e1 := zef ch hr hm v
  have e2 := zef ct hg hl v
  rw [z8z hg, Int.zero_add, zgg ch (fun _ h => z8s h)] at e1
  rw [dt, show degP r v - degP g v + degP g v = degP r v by omega] at e2
  have e3 : Eqv (z1y (z0m (m ++ negP l)) v (degP r v)) [] := fun f => by
   rw [(zj7 (zan hmay) v _) f, z6s, z8w, zvi, ← z6s, ← z6s, e1, e2, (Eqv.mul et (Eqv.refl _)) f, zgb (zbx ch.may) (zbx (z1u hr v _).may)]
   show _ = (0 : Int)
   unfold z18
   omega
  have e4 := zx2 (z1u hcan v (degP r v)) z2f e3
  have e5 : (x.1, z0j x.2 v) ∈ z1y (z0m (m ++ negP l)) v (degP r v) := List.mem_filterMap.2 ⟨x, hx, if_pos h1⟩
  rw [e4] at e5
  simp at e5
end
theorem z90 {keep : Bool} {g q r : PZ} {v : Int} {x : PZ × PZ} (hg : canP g) (hr : canP r) (hr0 : r ≠ []) (hv : 1 ≤ v ∧ v ≤ 200) (hd1 : 1 ≤ degP g v) (hdr : degP g v ≤ degP r v) (hs : z2o keep g (z18 g v) v (degP g v) q r = some x) :
  canP x.2 ∧ degP x.2 v < degP r v := by
 obtain ⟨t, l, m, ht, hl, hm, e, -, -⟩ := z7j hs
 rw [e]
 exact zs2 hg hr hr0 hv hd1 hdr ht hl hm
end
section
def hpow (h : PZ) : Nat → PZ
 | 0 => [(1, [])]
 | n + 1 => mulL (hpow h n) h
theorem z7l : canP [((1 : Int), ([] : Mono))] := ⟨fun t ht => by rw [List.mem_singleton.1 ht]; exact ⟨by decide, rfl⟩, List.pairwise_singleton _ _⟩
theorem zgh {r t : PZ} {v d : Int} (hr : canP r) (hv : 1 ≤ v ∧ v ≤ 200) (hd : 0 ≤ d) (ht : z4w r v d = some t) : canP t := by
 have hrg := z0u hr.may v
 exact z3z (z1u hr v _) (zc0 hv (by omega)) ht
section
variable {g h f q r : PZ} {v d : Int} {x : PZ × PZ}
theorem zp0 {keep : Bool} (hg : canP g) (hh : canP h) (hq : canP q) (hr : canP r) (hv : 1 ≤ v ∧ v ≤ 200) (hd : 0 ≤ d) (hs : z2o keep g h v d q r = some x) : canP x.1 ∧ canP x.2 := by
 obtain ⟨t, l, m, ht, hl, hm, e2, e3, e4⟩ := z7j hs
 have ct := zgh hr hv hd ht
 have cl := z3z ct hg hl
 have cm := z3z hh hr hm
 refine ⟨?_, by rw [e2]; exact z3r (z3l cm.may (z7k cl).may)⟩
 cases keep with
 | false => rw [e3 rfl]; exact z2f
 | true =>
  obtain ⟨u, hu, e⟩ := e4 rfl
  rw [e]
  exact z3r (z3l (z3z hh hq hu).may ct.may)
/-! Exponents -/
def exB (E : Int) (p : PZ) : Prop := ∀ t ∈ p, ∀ u, ex t.2 u ≤ E
end
section
variable {g h f q r p : PZ} {v d : Int} {x : PZ × PZ} {E G R : Int}
theorem exB.le (hp : exB E p) (h : E ≤ R) : exB R p := fun t ht u => Int.le_trans (hp t ht u) h
theorem zhz (E : Int) : exB E [] := fun t ht => by simp at ht
theorem exB.deg (hp : exB E p) (hE : 0 ≤ E) (v : Int) : degP p v ≤ E := zbn hE (fun t ht => hp t ht v)
theorem exB.mul_may (hp : exB E p) (hq : exB G q) (mp : z0i p) (mq : z0i q) (hE : E + G ≤ 10000) : z0i (mulL p q) := fun t ht => by
 obtain ⟨a, ha, b, hb, rfl⟩ := z7i ht
 refine (z8t (mp a ha) (mq b hb)).2 (fun u => ?_)
 have := hp a ha u
 have := hq b hb u
 omega
theorem exB.norm (hp : exB E p) (mp : z0i p) : exB E (z0m p) := fun t ht u => by
 obtain ⟨y, hy, e⟩ := zao mp ht
 rw [← e]
 exact hp y hy u
theorem exB.mul (hp : exB E p) (hq : exB G q) (mp : z0i p) (mq : z0i q) : exB (E + G) (mulL p q) := fun t ht u => by
 obtain ⟨a, ha, b, hb, rfl⟩ := z7i ht
 show ex (z0q a.2 b.2) u ≤ _
 rw [z2h (mp a ha) (mq b hb)]
 have := hp a ha u
 have := hq b hb u
 omega
theorem exB.append (hp : exB E p) (hq : exB E q) : exB E (p ++ q) := fun t ht => by
 rcases List.mem_append.1 ht with h | h
 ·exact hp t h
 ·exact hq t h
theorem exB.neg (hp : exB E p) : exB E (negP p) := fun t ht u => by
 obtain ⟨y, hy, e⟩ := zja ht
 rw [← e]
 exact hp y hy u
theorem exB.coef (hp : exB E p) (hE : 0 ≤ E) (v e : Int) : exB E (z1y p v e) := fun t ht u => by
 obtain ⟨y, hy, -, rfl⟩ := z6p ht
 show ex (z0j y.2 v) u ≤ E
 rw [z1s]
 split
 ·exact hE
 ·exact hp y hy u
theorem exB.times (hp : exB E p) (hq : exB G q) (cp : canP p) (cq : canP q) (hE : E + G ≤ 10000) : ∃ c, z0e p q = some c ∧ canP c ∧ exB (E + G) c ∧ Eqv c (mulL p q) ∧ c = z0m (mulL p q) := by
 have hm := hp.mul_may hq cp.may cq.may hE
 exact ⟨_, z7h cp.may cq.may hm, z3r hm, (hp.mul hq cp.may cq.may).norm hm, zan hm, rfl⟩
theorem zvk (hr : canP r) (er : exB R r) (hR : 0 ≤ R) (hR2 : R ≤ 10000) (hv : 1 ≤ v ∧ v ≤ 200) (hd : 0 ≤ d) : ∃ t, z4w r v d = some t ∧ canP t ∧ exB R t := by
 have hrg := z0u hr.may v
 have hdr := er.deg hR v
 have hc := z1u hr v (degP r v)
 have hp := zc0 hv (i := (degP r v - d).toNat) (by omega)
 have hm : z0i (mulL (z18 r v) (powP v (degP r v - d).toNat)) := fun t ht => by
  obtain ⟨a, ha, b, hb, rfl⟩ := z7i ht
  refine (z8t (hc.1 a ha).2 (hp.1 b hb).2).2 (fun u => ?_)
  have h1 := (er.coef hR v (degP r v)) a ha u
  unfold powP at hb
  split at hb
  ·rw [List.mem_singleton.1 hb]
   show ex a.2 u + ex [] u ≤ _
   simp only [ex]
   omega
  ·rw [List.mem_singleton.1 hb, zfr]
   by_cases hu : v = u
   ·subst hu
    rw [if_pos rfl, z8s ha]
    omega
   ·rw [if_neg hu]
    omega
 refine ⟨_, z7h hc.may hp.may hm, z3r hm, fun t ht u => ?_⟩
 obtain ⟨y, hy, e⟩ := zao hm ht
 obtain ⟨a, ha, b, hb, rfl⟩ := z7i hy
 rw [← e]
 show ex (z0q a.2 b.2) u ≤ R
 rw [z2h (hc.1 a ha).2 (hp.1 b hb).2]
 have h1 := (er.coef hR v (degP r v)) a ha u
 unfold powP at hb
 split at hb
 ·rw [List.mem_singleton.1 hb]
  show ex a.2 u + ex [] u ≤ _
  simp only [ex]
  omega
 ·rw [List.mem_singleton.1 hb, zfr]
  by_cases hu : v = u
  ·subst hu
   rw [if_pos rfl, z8s ha]
   omega
  ·rw [if_neg hu]
   omega
theorem zs3 (keep : Bool) (hg : canP g) (hh : canP h) (hq : canP q) (hr : canP r) (eg : exB G g) (eh : exB G h) (eq : exB R q) (er : exB R r) (hG : 0 ≤ G) (hR : 0 ≤ R) (hRG : R + G ≤ 10000) (hv : 1 ≤ v ∧ v ≤ 200) (hd : 0 ≤ d) :
  ∃ x, z2o keep g h v d q r = some x ∧ exB (R + G) x.1 ∧ exB (R + G) x.2 := by
 obtain ⟨t, ht, ct, et⟩ := zvk hr er hR (by omega) hv hd
 obtain ⟨l, hl, cl, el, -⟩ := et.times eg ct hg (by omega)
 obtain ⟨m, hm, cm, em, -⟩ := eh.times er hh hr (by omega)
 obtain ⟨u, hu, cu, eu, -⟩ := eh.times eq hh hq (by omega)
 have e2 : exB (R + G) (z0m (m ++ negP l)) := ((em.le (by omega)).append el.neg).norm (z3l cm.may (z7k cl).may)
 unfold z2o
 rw [ht]
 simp only
 rw [hl]
 simp only
 rw [hm]
 simp only
 cases keep with
 | false => exact ⟨_, rfl, zhz _, e2⟩
 | true =>
  simp only [if_true]
  rw [hu]
  exact ⟨_, rfl, ((eu.le (by omega)).append (et.le (by omega))).norm (z3l cu.may ct.may), e2⟩
/-! Sizes -/
theorem Fit.neg {k n : Nat} (h : Fit k n p) : Fit k n (negP p) := ⟨z7k h.1, fun t ht => by
 obtain ⟨u, hu, rfl⟩ := List.mem_map.1 ht
 have := h.2.1 u hu
 show (-u.1).natAbs < _
 rwa [Int.natAbs_neg], by rw [z33]; exact h.2.2⟩
theorem z91 {t : PZ} {K L : Nat} (fr : Fit K L r) (hL : L ≤ 1000000000000) (hv : 1 ≤ v ∧ v ≤ 200) (hd : 0 ≤ d) (ht : z4w r v d = some t) : Fit (K + 3) L t := by
 have hrg := z0u fr.can.may v
 have h := (fr.coef v (degP r v)).times (zox hv (i := (degP r v - d).toNat) (by omega)) ht (by omega)
 rw [Nat.mul_one] at h
 exact h
theorem zp1 {keep : Bool} {A T K L : Nat} (fg : Fit A T g) (fh : Fit A T h) (fq : Fit K L q) (fr : Fit K L r) (hT : 1 ≤ T) (hL : 2 * T * L ≤ 1000000000000) (hv : 1 ≤ v ∧ v ≤ 200) (hd : 0 ≤ d) (hs : z2o keep g h v d q r = some x) :
  Fit (K + A + 7) (2 * T * L) x.1 ∧ Fit (K + A + 7) (2 * T * L) x.2 := by
 obtain ⟨t, l, m, ht, hl, hm, e2, e3, e4⟩ := z7j hs
 have h1 : L ≤ T * L := Nat.le_mul_of_pos_left L hT
 have h2 : 2 * T * L = T * L + T * L := by rw [Nat.mul_assoc]; omega
 have h3 : L * T = T * L := Nat.mul_comm _ _
 have ft := z91 fr (by omega) hv hd ht
 have fl := ft.times fg hl (by omega)
 have fm := fh.times fr hm (by omega)
 have f2 := (fm.mono (l := K + A + 5) (m := T * L) (by omega) (by omega)).add (fl.neg.mono (l := K + A + 5) (m := T * L) (by omega) (by omega)) (by omega)
 refine ⟨?_, by rw [e2]; exact f2.mono (by omega) (by omega)⟩
 cases keep with
 | false => rw [e3 rfl]; exact z6t.mono (by omega) (by omega)
 | true =>
  obtain ⟨u, hu, e⟩ := e4 rfl
  have fu := fh.times fq hu (by omega)
  rw [e]
  exact ((fu.mono (l := K + A + 5) (m := T * L) (by omega) (by omega)).add (ft.mono (l := K + A + 5) (m := T * L) (by omega) (by omega)) (by omega)).mono (by omega) (by omega)
theorem za6 {o : Option Nat} {keep : Bool} {A T B M : Nat} (fg : Fit A T g) (fh : Fit A T (z18 g v)) (hT : 1 ≤ T) (hv : 1 ≤ v ∧ v ≤ 200) (hd1 : 1 ≤ degP g v) (hM : M ≤ 1000000000000) :
  ∀ (k j : Nat) (K L : Nat) (s : MSt) (q r : PZ), Fit K L q → Fit K L r → (r ≠ [] → degP r v < degP g v + (j : Int)) → K + j * (A + 7) ≤ B → L * (2 * T) ^ j ≤ M → z3g o keep g (z18 g v) v (degP g v) B M k s q r := by
 intro k
 induction k with
 | zero =>
  intro j K L s q r fq fr _ hK hL
  have hp : 1 ≤ (2 * T) ^ j := Nat.one_le_iff_ne_zero.2 (Nat.pos_iff_ne_zero.1 (Nat.pow_pos (by omega)))
  have hLM : L ≤ M := Nat.le_trans (Nat.le_mul_of_pos_right L hp) hL
  exact ⟨fq.mono (by omega) hLM, fr.mono (by omega) hLM⟩
 | succ k ih =>
  intro j K L s q r fq fr hj hK hL
  have hp : 1 ≤ (2 * T) ^ j := Nat.one_le_iff_ne_zero.2 (Nat.pos_iff_ne_zero.1 (Nat.pow_pos (by omega)))
  have hLM : L ≤ M := Nat.le_trans (Nat.le_mul_of_pos_right L hp) hL
  refine ⟨fq.mono (by omega) hLM, fr.mono (by omega) hLM, fun hr0 hdr _ x hs _ _ => ?_⟩
  have h1 := hj hr0
  obtain ⟨i, rfl⟩ : ∃ i, j = i + 1 := ⟨j - 1, by omega⟩
  have hq : 1 ≤ (2 * T) ^ i := Nat.one_le_iff_ne_zero.2 (Nat.pos_iff_ne_zero.1 (Nat.pow_pos (by omega)))
  have e1 : L * (2 * T) ^ (i + 1) = 2 * T * L * (2 * T) ^ i := by rw [Nat.pow_succ, Nat.mul_comm ((2 * T) ^ i), ← Nat.mul_assoc, Nat.mul_comm L]
  have hb : 2 * T * L ≤ M := Nat.le_trans (Nat.le_mul_of_pos_right _ hq) (e1 ▸ hL)
  obtain ⟨f1, f2⟩ := zp1 fg fh fq fr hT (by omega) hv (by omega) hs
  have hdg := (z90 fg.can fr.can hr0 hv hd1 hdr hs).2
  refine ih i _ _ _ _ _ f1 f2 (fun _ => by omega) ?_ (by rw [← e1]; exact hL)
  rw [Nat.add_mul, Nat.one_mul] at hK
  omega
end
end
section
open Go.RowKit
section
variable {p q c : PZ} {k l n m : Nat}
theorem z6v (h : Fit k n p) (hk : k ≤ 100000) (hn : n ≤ 1000000000000) : szP p :=
 ⟨Nat.le_trans h.2.2 hn, fun t ht => zio (n := 10 * k + 1) (Nat.lt_trans (h.2.1 t ht) (zot k)) (by omega)⟩
theorem zs4 (fp : Fit k n p) (fq : Fit l m q) (hk : k + l ≤ 100000) (hnm : n * m ≤ 1000000000000) : szM p q := by
 have hl : p.length * q.length ≤ n * m := Nat.mul_le_mul fp.2.2 fq.2.2
 refine ⟨B32 ^ (k + l), 10 * (k + l) + 14, fun t ht u hu => ?_, by omega, ?_, by omega⟩
 ·have := zbv (z46 (fp.2.1 t ht)) (z46 (fq.2.1 u hu))
  exact Nat.le_of_lt (z2j this (Nat.le_refl _))
 ·have h1 := zot (k + l)
  have e : 10 ^ (10 * (k + l) + 14) = 10 ^ 13 * 10 ^ (10 * (k + l) + 1) := by rw [← Nat.pow_add]; congr 1; omega
  rw [e]
  have h2 : p.length * q.length < 10 ^ 13 := by omega
  exact Nat.lt_of_lt_of_le ((Nat.mul_lt_mul_right (Nat.pow_pos (by unfold B32; decide))).2 h2) (Nat.mul_le_mul_left _ (Nat.le_of_lt h1))
theorem zde (fp : Fit k n p) (fq : Fit l m q) (hk : k ≤ 90000) (hl : l ≤ 90000) (hn : n + m ≤ 1000000000000) : ∀ j, j ≤ q.length → szP (addP p (q.take j)) := fun j _ => by
 have f2 := zry fq j
 rw [zdu fp.can f2.can.may]
 exact z6v ((fp.mono (l := max k l) (Nat.le_max_left _ _) (Nat.le_refl _)).add (f2.mono (l := max k l) (Nat.le_max_right _ _) (Nat.le_refl _)) hn) (by omega) hn
end
abbrev RV (W : World) (v : Value) (p : PZ) : Prop := RTs (Old W) W v p
section
variable {W : World} {u v : Value} {p q : PZ} {k l n m : Nat}
theorem z5r (hp : RV W u p) (fp : Fit k n p) {x : Int} (hx : z12 x) :
  Calls Tryz.prog 79 #[u, .int .i64 x] W fun e w' => e = .returned (.int .i64 (degP p x)) ∧ Ext W w' := za5 u p x W hp fp.can.may hx
theorem zei (hp : RV W u p) (fp : Fit k n p) (hk : k ≤ 90000) (hn : n ≤ 1000000000000) :
  Calls Tryz.prog 26 #[u] W fun e w' => ∃ v', e = .returned v' ∧ PV w' v' p ∧ Ext W w' :=
 (z5o (S := Old W) u p W hp (fun _ h => h) (z6v fp (by omega) hn) (fun t ht => Nat.le_trans (z3m (fp.can.may t ht)) (by decide))).mono (by
  rintro e w' ⟨v', rfl, h, hx⟩
  exact ⟨v', rfl, h.to (Kept.refl _ _) New.lt, hx⟩)
end
end
section
open Go.RowKit
def mval (o : Option Nat) : Value := .pointer (o.map fun b => ⟨b, 0, none⟩)
def MV (W : World) (o : Option Nat) (s : MSt) : Prop := ∀ b, o = some b → MeterAt W b s ∧ s.Ok
def RMV (W : World) (o : Option Nat) (s : MSt) : Prop := ∀ b, o = some b → RefAt W b s ∧ s.Ok
abbrev NB (o : Option Nat) (W : World) : Nat → Prop := fun k => k < W.heap.size ∧ some k ≠ o
abbrev PM (o : Option Nat) (W : World) (v : Value) (p : PZ) : Prop := z05 (NB o W) W v (ofP p)
abbrev PMN (N : Nat) (o : Option Nat) (W : World) (v : Value) (p : PZ) : Prop := z05 (fun k => N ≤ k ∧ NB o W k) W v (ofP p)
abbrev RM (o : Option Nat) (W : World) (v : Value) (p : PZ) : Prop := RTs (NB o W) W v p
section
variable {o : Option Nat} {W W' : World} {v : Value} {p : PZ} {s : MSt}
theorem zp2 (g : W.grownBy W' o) : ∀ k, NB o W k → NB o W' k := fun _ h => ⟨Nat.lt_of_lt_of_le h.1 g.size, h.2⟩
theorem zi0 (g : W.grownBy W' o) : Kept (NB o W) W W' := fun k h => g.block k h.1 h.2
theorem PM.pv (h : PM o W v p) : PV W v p := h.to (Kept.refl _ _) (fun _ h => h.1)
theorem PMN.pm {N : Nat} (h : PMN N o W v p) : PM o W v p := h.to (Kept.refl _ _) (fun _ h => h.2)
theorem PMN.pv {N : Nat} (h : PMN N o W v p) : PV W v p := h.to (Kept.refl _ _) (fun _ h => h.2.1)
theorem RM.rv (h : RM o W v p) : RV W v p := h.to (Kept.refl _ _) (fun _ h => h.1)
theorem PM.on (h : PM o W v p) (g : W.grownBy W' o) : PM o W' v p := h.to (zi0 g) (zp2 g)
theorem PMN.on {N : Nat} (h : PMN N o W v p) (g : W.grownBy W' o) : PMN N o W' v p := h.to (fun k hk => zi0 g k hk.2) (fun k hk => ⟨hk.1, zp2 g k hk.2⟩)
theorem PMN.ext {N : Nat} (h : PMN N o W v p) (g : Ext W W') : PMN N o W' v p := h.on (z07 g o)
theorem MV.block (h : MV W o s) {b : Nat} (hb : o = some b) : b < W.heap.size := z09 (h b hb).1.c0
theorem RMV.block (h : RMV W o s) {b : Nat} (hb : o = some b) : b < W.heap.size := z09 (h b hb).1.c0
theorem zp3 {A : World} (h : ∀ b, o = some b → b < A.heap.size) : ∀ k, New A W' k → NB o W' k := fun k hk => ⟨hk.2, fun e => by have := h k e.symm; have := hk.1; omega⟩
theorem MV.ext (h : MV W o s) (g : Ext W W') : MV W' o s := fun b hb => ⟨(h b hb).1.kept g (h.block hb), (h b hb).2⟩
theorem RMV.ext (h : RMV W o s) (g : Ext W W') : RMV W' o s := fun b hb => ⟨(h b hb).1.grown (z07 g none) (by simp), (h b hb).2⟩
theorem MV.none (W : World) (s : MSt) : MV W none s := fun _ h => by cases h
theorem RMV.none (W : World) (s : MSt) : RMV W none s := fun _ h => by cases h
theorem z92 {A B : World} {r : Option Nat} (g : A.grownBy B r) (h : ∀ b, o = some b → b < A.heap.size) : ∀ b, o = some b → b < B.heap.size := fun b hb => Nat.lt_of_lt_of_le (h b hb) g.size
theorem z7m {s : MSt} (h : s.Ok) (e n : Int) : (s.refuse e n).Ok := by
 unfold MSt.refuse
 split
 ·exact ⟨h.f0, h.f1, h.l0, h.l1, h.t0, h.t1, h.p0, h.p1, h.s0, h.s1, h.c0, h.c1⟩
 ·exact h
theorem zjb {s : MSt} (h : s.Ok) : s.step.2.Ok := by
 unfold MSt.step
 split
 ·rename_i hlt
  exact ⟨h.f0, h.f1, h.l0, h.l1, h.t0, h.t1, h.p0, h.p1, by show 0 ≤ s.st + 1; have := h.s0; omega, by show s.st + 1 ≤ s.fu; omega, h.c0, h.c1⟩
 ·exact z7m h _ _
theorem zjc {s : MSt} (h : s.Ok) (n len : Nat) : (s.keep n len).2.Ok := by
 unfold MSt.keep
 split
 ·exact z7m h _ _
 ·split
  ·exact z7m h _ _
  ·exact h
theorem zc1 {s : MSt} (h : s.Ok) (e : Int) : (s.refused e).Ok := by
 unfold MSt.refused
 split
 ·exact z7m h _ _
 ·exact h
def OMet (W : World) (o : Option Nat) (r : Int) (s : MSt) : Ending → World → Prop := fun e W' => e = .returned (.int .i64 r) ∧ MV W' o s ∧ W.grownBy W' o
def zln (W : World) (o : Option Nat) (r : Int) (s : MSt) : Ending → World → Prop := fun e W' => e = .returned (.int .i64 r) ∧ RMV W' o s ∧ W.grownBy W' o
theorem zx5 (h : MV W o s) : Calls Tryz.prog 172 #[mval o] W (OMet W o (z15 o s).1 (z15 o s).2) := by
 cases o with
 | none => exact (zqr W).mono (by rintro e w' ⟨rfl, rfl⟩; exact ⟨rfl, MV.none _ _, z26 _ _⟩)
 | some b => exact (zqp b s W (h b rfl).1 (h b rfl).2).mono (by rintro e w' ⟨rfl, k1, k2⟩; exact ⟨rfl, fun c hc => by cases hc; exact ⟨k1, zjb (h b rfl).2⟩, k2⟩)
theorem ztt (h : MV W o s) (hp : PM o W v p) : Calls Tryz.prog 96 #[mval o, v] W (OMet W o (z0o o s p).1 (z0o o s p).2) := by
 cases o with
 | none => exact (zqs v W).mono (by rintro e w' ⟨rfl, rfl⟩; exact ⟨rfl, MV.none _ _, z26 _ _⟩)
 | some b => exact (zqq b s v (ofP p) W (h b rfl).1 hp (fun _ h => h.1)).mono (by rintro e w' ⟨rfl, k1, k2⟩; exact ⟨rfl, fun c hc => by cases hc; exact ⟨k1, zjc (h b rfl).2 _ _⟩, k2⟩)
theorem zs5 (h : MV W o s) : Calls Tryz.prog 87 #[mval o, .int .i64 8] W (OMet W o 8 (mexp o s)) := by
 cases o with
 | none => exact (zkc 8 W).mono (by rintro e w' ⟨rfl, rfl⟩; exact ⟨rfl, MV.none _ _, z26 _ _⟩)
 | some b => exact (zkb b s 8 W (h b rfl).1).mono (by rintro e w' ⟨rfl, k1, k2⟩; exact ⟨rfl, fun c hc => by cases hc; exact ⟨k1, zc1 (h b rfl).2 _⟩, k2⟩)
/-! The document's -/
theorem zx6 (h : RMV W o s) : Calls Tryz.prog 99 #[mval o] W (zln W o (z15 o s).1 (z15 o s).2) := by
 cases o with
 | none =>
  show Calls _ _ #[.pointer none] _ _
  go_enter Tryz.func99, Tryz.ntmps99
  go_wp2
  go_ret
  exact ⟨rfl, RMV.none _ _, z26 _ _⟩
 | some b =>
  have HC := hid (zh8 b s W (h b rfl).1 (h b rfl).2)
  have HO := hid (zjb (h b rfl).2)
  clear h
  show Calls _ _ #[.pointer (some ⟨b, 0, none⟩)] _ _
  go_enter Tryz.func99, Tryz.ntmps99
  go_wp2_with fail
  with_reducible refine HC.out.mono ?_
  rintro e w' ⟨rfl, k1, k2⟩
  have K1 := hid k1
  have K2 := hid k2
  clear k1 k2
  go_wp2
  go_ret
  exact ⟨rfl, fun c hc => by cases hc; exact ⟨K1.out, HO.out⟩, K2.out⟩
theorem zs6 (h : RMV W o s) : Calls Tryz.prog 56 #[mval o] W (zln W o 8 (mexp o s)) := by
 cases o with
 | none =>
  show Calls _ _ #[.pointer none] _ _
  go_enter Tryz.func56, Tryz.ntmps56
  go_wp2
  go_ret
  exact ⟨rfl, RMV.none _ _, z26 _ _⟩
 | some b =>
  have HC := hid (zcm b s 8 W (h b rfl).1)
  have HO := hid (zc1 (h b rfl).2 8)
  clear h
  show Calls _ _ #[.pointer (some ⟨b, 0, none⟩)] _ _
  go_enter Tryz.func56, Tryz.ntmps56
  go_wp2_with fail
  with_reducible refine HC.out.mono ?_
  rintro e w' ⟨rfl, k1, k2⟩
  have K1 := hid k1
  have K2 := hid k2
  clear k1 k2
  go_wp2
  go_ret
  exact ⟨rfl, fun c hc => by cases hc; exact ⟨K1.out, HO.out⟩, K2.out⟩
theorem zp4 (h : RMV W o s) (hp : RM o W v p) {k n : Nat} (fp : Fit k n p) (hk : k ≤ 90000) (hn : n ≤ 1000000000000) : Calls Tryz.prog 57 #[mval o, v] W (zln W o (z0o o s p).1 (z0o o s p).2) := by
 obtain ⟨a, c, rfl⟩ := hp.form
 cases o with
 | none =>
  clear hp fp
  show Calls _ _ #[.pointer none, _] _ _
  go_enter Tryz.func57, Tryz.ntmps57
  go_wp2
  go_ret
  exact ⟨rfl, RMV.none _ _, z26 _ _⟩
 | some b =>
  have HC := hid (zei hp.rv fp hk hn)
  have HK := hid (fun (Y : World) (u : Value) (hY : Ext W Y) (hu : PV Y u p) => zh9 b s u (ofP p) Y ((h.ext hY) b rfl).1 hu)
  have HO := hid (fun n l => zjc (h b rfl).2 n l)
  obtain ⟨np, hnp⟩ : ∃ n, n = p.length := ⟨_, rfl⟩
  rw [← hnp] at HC ⊢
  clear h hp fp hnp
  show Calls _ _ #[.pointer (some ⟨b, 0, none⟩), _] _ _
  go_enter Tryz.func57, Tryz.ntmps57
  go_wp2_with fail
  with_reducible refine HC.out.mono ?_
  rintro e w1 ⟨v1, rfl, hp1, hx1⟩
  have HX1 := hid hx1
  have HK1 := hid (HK.out w1 v1 hx1 hp1)
  obtain ⟨a1, c1, rfl⟩ := hp1.form
  clear hx1 hp1
  go_wp2_with fail
  with_reducible refine HK1.out.mono ?_
  rintro e w' ⟨rfl, k1, k2⟩
  have K1 := hid k1
  have K2 := hid k2
  clear k1 k2
  go_wp2
  go_ret
  exact ⟨rfl, fun c hc => by cases hc; exact ⟨K1.out, HO.out _ _⟩, z06 (z07 HX1.out _) K2.out⟩
end
end
end Go.Proofs.YthdcaablomgboaaGreat
