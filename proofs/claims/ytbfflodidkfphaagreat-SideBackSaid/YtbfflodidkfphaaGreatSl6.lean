/- Exact quotients of whole numbers. Limbs added to others from a place on. Limbs cut in two. The product of numbers of many limbs: by cutting. The product of two whole numbers, of any lengths. Slices of words in memory: where one stands, whether two are the same; a layout. A whole number with the other sign. Quotients: the canonical one of two whole numbers. From the form's own reading of an argument to what lies in memory: limbs, powers, terms, polynomials. What every law's row asks: the answer true, the arguments as they were. Arguments that are slices of polynomials, read as data. The document: is it the same data? Decimal digits: quotient and rest. The document's whole numbers: a quotient that leaves nothing. The document: the content of a polynomial. The document: a polynomial made whole: what the walk needs. -/
import Derived.ProofKit
import Derived.Deep.Slices
import Derived.Deep.Strs
import Derived.Test.YtbfflodidkfphaaGreatRows
import Derived.Lib.SmallJoins
import Derived.JoinedCond
import Derived.Deep.RegionWith
import Derived.Deep.DeepCutAuto
import Derived.Deep.CutBlock
import Derived.Test.YtbfflodidkfphaaGreatSl5
set_option maxRecDepth 100000
set_option maxHeartbeats 16000000
namespace Go.Proofs.YtbfflodidkfphaaGreat
section
open Go.RowKit
theorem sg_exact {xn yn : Bool} {a d : Nat} {q : Int} (hd : 0 < d) (h : sg xn a = q * sg yn d) : a % d = 0 ∧ sg (xn != yn) (a / d) = q := by
 have key : ∀ p : Int, (a : Int) = p * (d : Int) → a % d = 0 ∧ ((a / d : Nat) : Int) = p := by
  intro p hp
  have hd0 : (d : Int) ≠ 0 := by omega
  refine ⟨?_, ?_⟩
  ·have h1 : ((a % d : Nat) : Int) = 0 := by rw [Int.natCast_emod, hp, Int.mul_emod_left]
   omega
  ·rw [Int.natCast_ediv, hp, Int.mul_ediv_cancel _ hd0]
 unfold sg at h ⊢
 cases xn <;> cases yn <;> simp only [if_true, if_false, Bool.false_eq_true, bne_self_eq_false, Bool.true_bne, Bool.false_bne, Bool.not_true, Bool.not_false] at h ⊢
 ·exact key q h
 ·obtain ⟨h1, h2⟩ := key (-q) (by rw [h, Int.mul_neg, Int.neg_mul])
  exact ⟨h1, by rw [h2, Int.neg_neg]⟩
 ·obtain ⟨h1, h2⟩ := key (-q) (by rw [Int.neg_mul, ← h, Int.neg_neg])
  exact ⟨h1, by rw [h2, Int.neg_neg]⟩
 ·refine key q ?_
  rw [Int.mul_neg] at h
  omega
theorem whole_exact {S : Nat → Prop} (vx vy : Value) (x y : RInt) (w : World) (hx : IntV S w vx x) (hy : IntV S w vy y) (hS : ∀ k, S k → k < w.heap.size) (hr : x.mag.length ≤ 10000000000) (hr2 : y.mag.length ≤ 10000000000) (q : Int) (h0 : valI y ≠ 0) (hq : valI x = q * valI y) :
  Calls Tryz.prog 69 #[vx, vy] w fun e w' => ∃ v', e = .returned (.tuple #[v', .int .i64 0]) ∧ IntV (New w w') w' v' (ofI q) ∧ Ext w w' := by
 obtain ⟨xn, xs⟩ := x
 obtain ⟨yn, ys⟩ := y
 obtain ⟨vxm, rfl, hxu⟩ := hx
 obtain ⟨vym, rfl, hyu⟩ := hy
 simp only at hxu hyu hr hr2 ⊢
 have hd0 : 0 < val B32 ys := by
  rcases Nat.eq_zero_or_pos (val B32 ys) with h | h
  ·exact absurd (by unfold valI; simp [h]) h0
  ·exact h
 have HQ := hid (sg_exact hd0 (show sg xn (val B32 xs) = q * sg yn (val B32 ys) from hq))
 have HX := hid hxu
 have HY := hid hyu
 obtain ⟨ax, cx, rfl⟩ := hxu.form
 obtain ⟨ay, cy, rfl⟩ := hyu.form
 have HLX := hid (Nat.le_trans (lenN_le hxu.lt) hr)
 obtain ⟨w0, hw0⟩ : ∃ W, W = (((w.alloc (.cells #[.bool xn, .slice ax xs.length cx] 26)).alloc (.cells #[.bool yn, .slice ay ys.length cy] 26)).alloc (.cells #[.bool false, .slice none 0 0] 26)) := ⟨_, rfl⟩
 have HX0 : Hid (Ext w w0) := hid (by rw [hw0]; exact Ext.alloc (Ext.alloc (Ext.alloc (Ext.refl w) _) _) _)
 have HSZ : Hid (w.heap.size + 1 + 1 < w0.heap.size) := hid (by rw [hw0]; simp)
 have HB := hid (fun (W : World) (h : Ext w0 W) => by
  rw [hw0] at h
  exact blk3 h)
 have CD := hid (div_exact (S := S) (.slice ax xs.length cx) (.slice ay ys.length cy) xs ys w0 (hxu.ext HX0.out hS) (hyu.ext HX0.out hS) (lt_ext hS HX0.out) (by omega) (by omega) hd0 HQ.out.1)
 have HD0 := hid hd0
 obtain ⟨b1, b2, -, -⟩ := HB.out w0 (Ext.refl _)
 have c1 := b1 0 _ rfl
 have c2 := b1 1 _ rfl
 have c3 := b2 0 _ rfl
 have c4 := b2 1 _ rfl
 rw [hw0] at c1 c2 c3 c4 CD
 clear hxu hyu h0 hq hd0 b1 b2
 have HW0 := hid hw0
 clear hw0
 go_enter Tryz.func69, Tryz.ntmps69
 go_wp2_with fail
 refine CD.out.mono ?_
 rintro e w1 ⟨v1, rfl, hu1, hx1⟩
 rw [← HW0.out] at hu1 hx1
 obtain ⟨b1, b2, b3, b4⟩ := HB.out w1 hx1
 have d1 := b1 0 _ rfl
 have d3 := b2 0 _ rfl
 have HX1 := hid hx1
 have HL1 : Hid ((rep B32 (val B32 xs / val B32 ys)).length ≤ 50000000000000) := hid (by
  have h1 := rep_mono_len (Nat.div_le_self (val B32 xs) (val B32 ys))
  have h2 := HLX.out
  unfold lenN at h2
  omega)
 have CM := hid (made_rep (xn != yn) _ _ w1 hu1 New.lt HL1.out)
 rw [HQ.out.2] at CM
 obtain ⟨xy, hxy⟩ : ∃ b, b = (xn != yn) := ⟨_, rfl⟩
 rw [← hxy] at CM
 have hxyq : (!(xn == yn)) = xy := hxy.symm
 obtain ⟨a1, n1, rfl⟩ := hu1.form
 clear hu1 hx1 b1 b2 b3 b4 hxy
 go_wp2_with fail
 refine CM.out.mono ?_
 rintro e w2 ⟨v2, rfl, ⟨vm2, rfl, hu2⟩, hx2⟩
 obtain ⟨-, -, b3, b4⟩ := HB.out w2 (HX1.out.trans hx2)
 have e0 := b3 0 _ rfl
 have e1 := b3 1 _ rfl
 have f0 := b4 0
 have f1 := b4 1
 have HX2 := hid hx2
 have HU2 := hid hu2
 have HE := hid (And.intro e0 e1)
 obtain ⟨a2, n2, rfl⟩ := hu2.form
 clear hu2 hx2 b3 b4
 go_wp2
 all_goals
  have hd := fun x y => two_set x y HE.out.1 HE.out.2
  refine bodyPost_ret (by simp [results, Tryz.results69, go_sem, (hd _ _).1, (hd _ _).2]; rfl) rfl ?_
  have hg := ret_int3 (w0 := w) (b := w.heap.size + 1 + 1) rfl HU2.out (HX0.out.trans HX1.out) HX2.out (by omega) (Nat.lt_of_lt_of_le HSZ.out HX1.out.size) (.bool (ofI q).neg) (.slice a2 (ofI q).mag.length n2)
  exact ⟨_, rfl, hg.1, hg.2⟩
end
section
open Go.RowKit
end
section
open Go.RowKit
end
section
open Go.RowKit
end
section
open Go.RowKit
end
section
open Go.RowKit
def Strs (S : Nat → Prop) (w : World) (v : Value) (xs : List ByteArray) : Prop :=
 ∃ b off, SliceAt S v xs.length b off ∧ ∀ j x, xs[j]? = some x → w.cell? ⟨b, off + j, none⟩ = some (.string x)
section
variable {S S' : Nat → Prop} {w w' : World} {v : Value} {xs : List ByteArray}
theorem Strs.form (h : Strs S w v xs) : ∃ a cap, v = .slice a xs.length cap := by
 obtain ⟨b, off, ⟨a, cap, h1, _⟩, _⟩ := h
 exact ⟨a, cap, h1⟩
theorem Strs.to (h : Strs S w v xs) (hk : Kept S w w') (hS : ∀ k, S k → S' k) : Strs S' w' v xs := by
 obtain ⟨b, off, hs, hc⟩ := h
 exact ⟨b, off, hs.mono hS, fun j z hz => hk.cell (hs.in (lt_of_some hz)) (hc j z hz)⟩
theorem Strs.ext (h : Strs S w v xs) (hx : Ext w w') (hS : ∀ k, S k → k < w.heap.size) : Strs S w' v xs := h.to (Kept.ext hx hS) (fun _ h => h)
theorem Strs.len_le (h : Strs S w v xs) : xs.length ≤ 9223372036854775807 := by
 obtain ⟨b, off, ⟨a, cap, -, h2, h3, -, -⟩, -⟩ := h
 unfold maxLen at h3
 omega
theorem Strs.cellAt {a : Option Addr} {n cap k : Nat} {x : ByteArray} (h : Strs S w (.slice a n cap) xs) (hx : xs[k]? = some x) :
  ∃ b off, a = some ⟨b, off, none⟩ ∧ n = xs.length ∧ n ≤ cap ∧ cap ≤ 9223372036854775807 ∧ S b ∧ w.cell? ⟨b, off + k, none⟩ = some (.string x) := by
 obtain ⟨b, off, ⟨a', cap', h1, h2, h3, h4, h5⟩, hc⟩ := h
 obtain ⟨rfl, rfl, rfl⟩ : a = a' ∧ n = xs.length ∧ cap = cap' := by simpa using h1
 have hlt : 0 < xs.length := by have := lt_of_some hx; omega
 exact ⟨b, off, h4 hlt, rfl, h2, by simpa [maxLen] using h3, h5 hlt, hc k x hx⟩
end
def posS : List ByteArray → ByteArray → Option Nat
 | [], _ => none
 | z :: zs, x => if z = x then some 0 else (posS zs x).map (· + 1)
theorem posS_hit {x : ByteArray} : ∀ {zs : List ByteArray} {k : Nat}, zs[k]? = some x → (∀ y ∈ zs.take k, y ≠ x) → posS zs x = some k
 | [], k, h, _ => by simp at h
 | z :: zs, 0, h, _ => by
  have : z = x := by simpa using h
  simp [posS, this]
 | z :: zs, k + 1, h, hn => by
  have hz : z ≠ x := hn z (by simp)
  have := posS_hit (zs := zs) (k := k) (by simpa using h) (fun y hy => hn y (by simp [hy]))
  simp [posS, hz, this]
theorem posS_miss {x : ByteArray} : ∀ {zs : List ByteArray}, (∀ y ∈ zs, y ≠ x) → posS zs x = none
 | [], _ => rfl
 | z :: zs, hn => by
  have hz : z ≠ x := hn z (by simp)
  have := posS_miss (zs := zs) (fun y hy => hn y (by simp [hy]))
  simp [posS, hz, this]
def idxI (zs : List ByteArray) (x : ByteArray) : Int := match posS zs x with
 | some k => k
 | none => -1
theorem str_eq {x y : ByteArray} (h : x = y) : (x.toList == y.toList) = true := by rw [h, beq_self_eq_true]
theorem str_ne {x y : ByteArray} (h : x ≠ y) : (x.toList == y.toList) = false := by
 rw [beq_eq_false_iff_ne, ByteArray.toList_eq, ByteArray.toList_eq]
 exact fun e => h (ByteArray.ext (Array.toList_inj.mp e))
theorem index_str {S : Nat → Prop} {w : World} {v : Value} {xs : List ByteArray} (h : Strs S w v xs) (x : ByteArray) (hS : ∀ k, S k → k < w.heap.size) :
  Calls Tryz.prog 89 #[v, .string x] w fun e w' => e = .returned (.int .i64 (idxI xs x)) ∧ Ext w w' := by
 have H := hid h
 have hl := h.len_le
 obtain ⟨a, c, rfl⟩ := h.form
 obtain ⟨n, hn⟩ : ∃ n, n = xs.length := ⟨_, rfl⟩
 rw [← hn] at H hl ⊢
 have HN := hid hn
 clear h hn
 go_enter Tryz.func89, Tryz.ntmps89
 go_wp2
 go_loopw [5, 8] (fun _ i wr => ∃ k : Nat, k ≤ n ∧ i = .int .i64 k ∧ Ext w wr ∧ Hid (∀ y ∈ xs.take k, y ≠ x)) (fun _ i _ => n - (intOf i).toNat)
 case atStart => exact ⟨0, Nat.zero_le _, rfl, Ext.refl _, fun y hy => by simp at hy⟩
 case round =>
  obtain ⟨k, hk, rfl, hx, HE⟩ := hrel
  have HX := hid hx
  by_cases hlt : k < n
  ·obtain ⟨y, hy⟩ := some_of_lt (l := xs) (j := k) (by rw [← HN.out]; exact hlt)
   obtain ⟨b1, o1, rfl, -, hc1, hm1, -, h1⟩ := (H.out.ext hx hS).cellAt hy
   have HY := hid hy
   clear hy hx
   by_cases he : x = y
   ·have q1 := str_eq he
    have H0 := hid he
    clear he
    go_wp2
    go_ret
    exact ⟨by unfold idxI; rw [posS_hit (by rw [HY.out, H0.out]) HE.out]; rfl, HX.out⟩
   ·have q1 := str_ne he
    have H0 := hid he
    clear he
    go_wp2
    go_roundw
    case rel => exact ⟨k + 1, by omega, by go_num, HX.out, fun z hz => by
     rw [List.take_add_one, HY.out] at hz
     rcases List.mem_append.1 hz with hz | hz
     ·exact HE.out z hz
     ·have : z = y := by simpa using hz
      rw [this]; exact fun e => H0.out e.symm⟩
    case measure => simp only [intOf]; omega
  ·obtain rfl : k = n := by omega
   have HF : Hid (idxI xs x = -1) := hid (by
    have := HE.out
    rw [List.take_of_length_le (by rw [← HN.out]; exact Nat.le_refl _)] at this
    unfold idxI; rw [posS_miss this])
   clear hx
   go_wp2
   go_ret
   exact ⟨by rw [HF.out]; rfl, HX.out⟩
theorem equal_str {S : Nat → Prop} (va vb : Value) (xs ys : List ByteArray) (w : World) (ha : Strs S w va xs) (hb : Strs S w vb ys) (hS : ∀ k, S k → k < w.heap.size) :
  Calls Tryz.prog 59 #[va, vb] w fun e w' => e = .returned (.bool (decide (xs = ys))) ∧ Ext w w' := by
 have HA := hid ha
 have HB := hid hb
 have hla := ha.len_le
 have hlb := hb.len_le
 obtain ⟨aa, ca, rfl⟩ := ha.form
 obtain ⟨ab, cb, rfl⟩ := hb.form
 obtain ⟨na, hna⟩ : ∃ n, n = xs.length := ⟨_, rfl⟩
 obtain ⟨nb, hnb⟩ : ∃ n, n = ys.length := ⟨_, rfl⟩
 rw [← hna] at HA hla ⊢
 rw [← hnb] at HB hlb ⊢
 have HNA := hid hna
 have HNB := hid hnb
 clear ha hb hna hnb
 by_cases hne : na = nb
 ·subst hne
  go_enter Tryz.func59, Tryz.ntmps59
  go_wp2
  go_loopw [5, 13] (fun _ i wr => ∃ k : Nat, k ≤ na ∧ i = .int .i64 k ∧ Ext w wr ∧ Hid (xs.take k = ys.take k)) (fun _ i _ => na - (intOf i).toNat)
  case atStart => exact ⟨0, Nat.zero_le _, rfl, Ext.refl _, rfl⟩
  case round =>
   obtain ⟨k, hk, rfl, hx, HE⟩ := hrel
   have HX := hid hx
   by_cases hlt : k < na
   ·obtain ⟨x, hxk⟩ := some_of_lt (l := xs) (j := k) (by rw [← HNA.out]; exact hlt)
    obtain ⟨y, hyk⟩ := some_of_lt (l := ys) (j := k) (by rw [← HNB.out]; exact hlt)
    obtain ⟨b1, o1, rfl, -, hc1, hm1, hz1, h1⟩ := (HA.out.ext hx hS).cellAt hxk
    obtain ⟨b2, o2, rfl, -, hc2, hm2, hz2, h2⟩ := (HB.out.ext hx hS).cellAt hyk
    have HXK := hid hxk
    have HYK := hid hyk
    clear hxk hyk hx
    by_cases he : x = y
    ·have q1 := str_eq he
     have q2 : (x.toList != y.toList) = false := by rw [bne, q1]; rfl
     have H0 := hid he
     clear he
     go_wp2
     go_quiet (fail)
     go_wp2
     go_roundw
     case rel => exact ⟨k + 1, by omega, by go_num, HX.out.drewN _, take_eq_succ HE.out HXK.out (by rw [H0.out]; exact HYK.out)⟩
     case measure => simp only [intOf]; omega
    ·have q1 := str_ne he
     have q2 : (x.toList != y.toList) = true := by rw [bne, q1]; rfl
     have HF : Hid (xs ≠ ys) := hid (ne_of_at HXK.out HYK.out he)
     clear he
     go_wp2
     go_quiet (fail)
     go_wp2
     go_ret
     exact ⟨by rw [decide_eq_false HF.out]; rfl, HX.out.drewN _⟩
   ·obtain rfl : k = na := by omega
    have HF : Hid (xs = ys) := hid (by have := HE.out; rwa [List.take_of_length_le (by rw [← HNA.out]; exact Nat.le_refl _), List.take_of_length_le (by rw [← HNB.out]; exact Nat.le_refl _)] at this)
    clear hx
    go_wp2
    go_ret
    exact ⟨by rw [decide_eq_true HF.out]; rfl, HX.out⟩
 ·have hb : ((na : Int) != (nb : Int)) = true := by rw [bne_iff_ne]; omega
  have HF : Hid (xs ≠ ys) := hid (fun e => hne (by rw [HNA.out, HNB.out, e]))
  clear hne
  go_enter Tryz.func59, Tryz.ntmps59
  go_wp2
  go_ret
  exact ⟨by rw [decide_eq_false HF.out]; rfl, Ext.refl _⟩
end
section
open Go.RowKit
theorem sg_not (b : Bool) (n : Nat) : sg (!b) n = - sg b n := by
 unfold sg
 cases b <;> simp
theorem whole_neg {S : Nat → Prop} (vx : Value) (x : RInt) (w : World) (hx : IntV S w vx x) (hS : ∀ k, S k → k < w.heap.size) (hr : x.mag.length ≤ 50000000000000) :
  Calls Tryz.prog 68 #[vx] w fun e w' => ∃ v', e = .returned v' ∧ IntV (New w w') w' v' (ofI (- valI x)) ∧ Ext w w' := by
 obtain ⟨xn, xs⟩ := x
 obtain ⟨vxm, rfl, hxu⟩ := hx
 simp only at hxu hr ⊢
 have HX := hid hxu
 obtain ⟨ax, cx, rfl⟩ := hxu.form
 have HQ : Hid (- valI ⟨xn, xs⟩ = sg (!xn) (val B32 xs)) := hid (by rw [sg_not]; rfl)
 rw [HQ.out]
 obtain ⟨w0, hw0⟩ : ∃ W, W = (w.alloc (.cells #[.bool xn, .slice ax xs.length cx] 26)).alloc (.cells #[.bool false, .slice none 0 0] 26) := ⟨_, rfl⟩
 have HX0 : Hid (Ext w w0) := hid (by rw [hw0]; exact Ext.alloc (Ext.alloc (Ext.refl w) _) _)
 have HSZ : Hid (w.heap.size + 1 < w0.heap.size) := hid (by rw [hw0]; simp)
 have HB := hid (fun (W : World) (h : Ext w0 W) => by
  rw [hw0] at h
  have e1 := h.new_cell (i := 0) (v := .bool false) rfl
  have e2 := h.new_cell (i := 1) (v := .slice none 0 0) rfl
  have e3 := h.new_free 0
  have e4 := h.new_free 1
  rw [size_alloc] at e1 e2 e3 e4
  exact And.intro e1 (And.intro e2 (And.intro e3 e4)))
 have CM := hid (whole_made (!xn) (.slice ax xs.length cx) xs w0 (hxu.ext HX0.out hS) (lt_ext hS HX0.out) hr)
 obtain ⟨nx, hnx⟩ : ∃ b, b = (!xn) := ⟨_, rfl⟩
 rw [← hnx] at CM ⊢
 have hnot : (!xn) = nx := hnx.symm
 rw [hw0] at CM
 have HW0 := hid hw0
 clear hxu hw0 hnx
 go_enter Tryz.func68, Tryz.ntmps68
 go_wp2_with fail
 refine CM.out.mono ?_
 rintro e w2 ⟨v2, rfl, ⟨vm2, rfl, hu2⟩, hx2⟩
 rw [← HW0.out] at hu2 hx2
 obtain ⟨e0, e1, f0, f1⟩ := HB.out w2 hx2
 have HX2 := hid hx2
 have HU2 := hid hu2
 have HE := hid (And.intro e0 e1)
 obtain ⟨a2, n2, rfl⟩ := hu2.form
 clear hu2 hx2
 go_wp2
 all_goals
  have hd := fun x y => two_set x y HE.out.1 HE.out.2
  refine bodyPost_ret (by simp [results, Tryz.results68, go_sem, (hd _ _).1, (hd _ _).2]; rfl) rfl ?_
  have hg := ret_int3 (w0 := w) (b := w.heap.size + 1) rfl HU2.out HX0.out HX2.out (by omega) HSZ.out (.bool (ofI (sg nx (val B32 xs))).neg) (.slice a2 (ofI (sg nx (val B32 xs))).mag.length n2)
  exact ⟨_, rfl, hg.1, hg.2⟩
end
section
open Go.RowKit
theorem free2 {w : World} {b : Nat} {c : Addr} (h : w.frozen? c = false) (x y : Value) : ((w.setCell ⟨b, 0, none⟩ x).setCell ⟨b, 1, none⟩ y).frozen? c = false := free_set (free_set h)
theorem abs_valI (r : RInt) : (valI r).natAbs = val B32 r.mag := by
 unfold valI
 split <;> simp
theorem u_set2 {S : Nat → Prop} {w : World} {b : Nat} {v : Value} {zs : List Nat} (h : U32s S w v zs) (hb : ¬ S b) (x y : Value) : U32s S ((w.setCell ⟨b, 0, none⟩ x).setCell ⟨b, 1, none⟩ y) v zs := h.to (Kept.set2 hb _ _) (fun _ h => h)
end
section
open Go.RowKit Go.Deep Go.ChangeShapes Go.WideShapes
theorem list_of_lt {α : Type} {n : Nat} {p : Nat → α → Prop} (h : ∀ i, i < n → ∃ x, p i x) : ∃ l : List α, l.length = n ∧ ∀ i x, l[i]? = some x → p i x := by
 induction n with
 | zero => exact ⟨[], rfl, fun i x hx => by simp at hx⟩
 | succ n ih =>
  obtain ⟨l, hl, hp⟩ := ih (fun i hi => h i (Nat.lt_succ_of_lt hi))
  obtain ⟨x, hx⟩ := h n (Nat.lt_succ_self n)
  refine ⟨l ++ [x], by simp [hl], fun i y hy => ?_⟩
  rw [List.getElem?_append] at hy
  split at hy
  ·exact hp i y hy
  ·rename_i hi
   have : i = n := by
    have := lt_of_some hy
    simp at this
    omega
   subst this
   simp [hl] at hy
   exact hy ▸ hx
theorem list_two {α : Type} {l : List α} (h : l.length = 2) : ∃ a b, l = [a, b] := by
 match l, h with
 | [a, b], _ => exact ⟨a, b, rfl⟩
theorem list_three {α : Type} {l : List α} (h : l.length = 3) : ∃ a b c, l = [a, b, c] := by
 match l, h with
 | [a, b, c], _ => exact ⟨a, b, c, rfl⟩
section
variable {H : Type} {enc : TypeId × Value → H} {w : World} {base : Nat} {spare : Nat → Bool} {held : Bool}
theorem open_slice_at {t e : TypeId} {fuel sz : Nat} {v : Value} {x : DataW H × List MemPlace} (ht : Tryz.prog.underlying t = some (.slice e)) (hsz : Tryz.prog.cellsOf e = sz) (hpos : 0 < sz)
  (h : DataW.trod enc Tryz.prog w base spare held fuel t [v] = some x) :
  ∃ (n b off fuel' : Nat), SliceAt (· < w.heap.size) v n b off ∧ ∀ j, j < n → ∃ (cs : List Value) (y : DataW H × List MemPlace), cs.length = sz ∧ (∀ i, i < sz → w.cell? ⟨b, off + j * sz + i, none⟩ = cs[i]?) ∧ DataW.trod enc Tryz.prog w base spare held fuel' e cs = some y := by
 rcases open_slice ht h with ⟨hcs, _⟩ | ⟨a, len, cap, m, fuel', D, Pl, hcs, hb, hl, hm, hmm, _, hx⟩
 ·obtain rfl : v = .slice none 0 0 := by simpa using hcs
  exact ⟨0, 0, 0, 0, ⟨none, 0, rfl, Nat.le_refl _, Nat.zero_le _, fun h => absurd h (by omega), fun h => absurd h (by omega)⟩, fun j hj => absurd hj (by omega)⟩
 ·obtain rfl : v = .slice (some a) len cap := by simpa using hcs
  rw [hsz] at hx
  have hlm : len ≤ m := by rw [hmm]; split <;> omega
  have key : ∀ j, j < len → ∃ (cs : List Value) (y : DataW H × List MemPlace), cs.length = sz ∧ (∀ i, i < sz → w.cell? ((a.add (j * sz)).add i) = cs[i]?) ∧ DataW.trod enc Tryz.prog w base spare held fuel' e cs = some y := by
   intro j hj
   obtain ⟨cs, h1, h2⟩ := hx j (by omega)
   obtain ⟨_, h3, h4⟩ := World.cells?_some h1
   exact ⟨cs, _, h3, h4, h2⟩
  by_cases h0 : 0 < len
  ·have hsp : a.spot = none := by
    obtain ⟨cs, _, h3, h4, _⟩ := key 0 h0
    have h5 := h4 0 hpos
    have e0 : (a.add (0 * sz)).add 0 = a := by simp [Addr.add]
    rw [e0, List.getElem?_eq_getElem (by omega)] at h5
    unfold World.cell? at h5
    split at h5
    ·cases hs : a.spot with
     | none => rfl
     | some z => simp [hs] at h5
    ·exact absurd h5 (by simp)
   obtain ⟨b, off, spot⟩ := a
   obtain rfl : spot = none := hsp
   have add_eq : ∀ j i, ((⟨b, off, none⟩ : Addr).add (j * sz)).add i = ⟨b, off + j * sz + i, none⟩ := by
    intro j i
    unfold Addr.add
    by_cases h1 : j * sz = 0 <;> by_cases h2 : i = 0 <;> simp [h1, h2]
   refine ⟨len, b, off, fuel', ⟨_, cap, rfl, hl, hm, fun _ => rfl, fun _ => ?_⟩, fun j hj => ?_⟩
   ·obtain ⟨cs, _, h3, h4, _⟩ := key 0 h0
    have h5 := h4 0 hpos
    rw [add_eq, List.getElem?_eq_getElem (by omega)] at h5
    exact lt_of_cell h5
   ·obtain ⟨cs, y, h3, h4, h5⟩ := key j hj
    exact ⟨cs, y, h3, fun i hi => by rw [← add_eq]; exact h4 i hi, h5⟩
  ·exact ⟨len, 0, 0, fuel', ⟨_, cap, rfl, hl, hm, fun h => absurd h h0, fun h => absurd h h0⟩, fun j hj => absurd hj (by omega)⟩
theorem bounds_i64 {n : Int} (h : (Lit.int .i64 n).wf = true) : -9223372036854775808 ≤ n ∧ n ≤ 9223372036854775807 := by
 simpa [Lit.wf, IntKind.min, IntKind.max, IntKind.signed, IntKind.bits] using h
theorem bounds_u32 {n : Int} (h : (Lit.int .u32 n).wf = true) : 0 ≤ n ∧ n < 4294967296 := by
 have : 0 ≤ n ∧ n ≤ 4294967295 := by simpa [Lit.wf, IntKind.min, IntKind.max, IntKind.signed, IntKind.bits] using h
 omega
theorem Tryz.cells_u32 : Tryz.prog.cellsOf 148 = 1 := by kernel_rfl
theorem Tryz.cells_power : Tryz.prog.cellsOf 51 = 2 := by kernel_rfl
theorem Tryz.cells_term : Tryz.prog.cellsOf 49 = 3 := by kernel_rfl
theorem Tryz.cells_int : Tryz.prog.cellsOf 26 = 2 := by kernel_rfl
theorem Tryz.cells_mono : Tryz.prog.cellsOf 47 = 1 := by kernel_rfl
theorem Tryz.cells_bool : Tryz.prog.cellsOf 4 = 1 := by kernel_rfl
theorem Tryz.cells_i64 : Tryz.prog.cellsOf 3 = 1 := by kernel_rfl
theorem Tryz.cells_su32 : Tryz.prog.cellsOf 24 = 1 := by kernel_rfl
theorem open_u32s {fuel : Nat} {v : Value} {x : DataW H × List MemPlace} (h : DataW.trod enc Tryz.prog w base spare held fuel 24 [v] = some x) : ∃ zs, U32s (· < w.heap.size) w v zs := by
 obtain ⟨n, b, off, f', hs, hx⟩ := open_slice_at Tryz.underlying24 Tryz.cells_u32 (by omega) h
 obtain ⟨zs, hl, hz⟩ := list_of_lt (p := fun j (z : Nat) => z < 4294967296 ∧ w.cell? ⟨b, off + j, none⟩ = some (.int .u32 (z : Nat))) (n := n) (fun j hj => by
  obtain ⟨cs, y, h1, h2, h3⟩ := hx j hj
  obtain ⟨m, rfl, _, hw⟩ := DataW.trod_int Tryz.underlying148 h3
  have := bounds_u32 hw
  have h4 := h2 0 (by omega)
  refine ⟨m.toNat, by omega, ?_⟩
  simp only [Nat.mul_one, Nat.add_zero] at h4
  rw [h4]
  simp
  omega)
 subst hl
 exact ⟨zs, b, off, hs, hz⟩
theorem open_pows {fuel : Nat} {v : Value} {x : DataW H × List MemPlace} (h : DataW.trod enc Tryz.prog w base spare held fuel 47 [v] = some x) : ∃ ps, Pows (· < w.heap.size) w v ps := by
 obtain ⟨n, b, off, f', hs, hx⟩ := open_slice_at Tryz.underlying47 Tryz.cells_power (by omega) h
 obtain ⟨ps, hl, hp⟩ := list_of_lt (p := fun j (x : Int × Int) => ((-9223372036854775808 ≤ x.1 ∧ x.1 ≤ 9223372036854775807) ∧ -9223372036854775808 ≤ x.2 ∧ x.2 ≤ 9223372036854775807) ∧
  w.cell? ⟨b, off + j * 2, none⟩ = some (.int .i64 x.1) ∧ w.cell? ⟨b, off + j * 2 + 1, none⟩ = some (.int .i64 x.2)) (n := n) (fun j hj => by
  obtain ⟨cs, y, h1, h2, h3⟩ := hx j hj
  obtain ⟨y0, y1, m, _, _, g0, g1⟩ := trod_struct2 Tryz.underlying51 h3
  obtain ⟨n0, e0, _, w0⟩ := DataW.trod_int Tryz.underlying3 g0
  obtain ⟨n1, e1, _, w1⟩ := DataW.trod_int Tryz.underlying3 g1
  obtain ⟨c0, c1, rfl⟩ := list_two h1
  simp [Tryz.cells_i64] at e0 e1
  subst e0 e1
  exact ⟨(n0, n1), ⟨bounds_i64 w0, bounds_i64 w1⟩, h2 0 (by omega), h2 1 (by omega)⟩)
 subst hl
 exact ⟨ps, b, off, hs, hp⟩
theorem open_terms {fuel : Nat} {v : Value} {x : DataW H × List MemPlace} (h : DataW.trod enc Tryz.prog w base spare held fuel 23 [v] = some x) : ∃ ts, Terms (· < w.heap.size) w v ts := by
 obtain ⟨n, b, off, f', hs, hx⟩ := open_slice_at Tryz.underlying23 Tryz.cells_term (by omega) h
 obtain ⟨ts, hl, hp⟩ := list_of_lt (p := fun j (t : RTerm) => ∃ vm vo, w.cell? ⟨b, off + j * 3, none⟩ = some (.bool t.c.neg) ∧
  w.cell? ⟨b, off + j * 3 + 1, none⟩ = some vm ∧ w.cell? ⟨b, off + j * 3 + 2, none⟩ = some vo ∧ U32s (· < w.heap.size) w vm t.c.mag ∧ Pows (· < w.heap.size) w vo t.m) (n := n) (fun j hj => by
  obtain ⟨cs, y, h1, h2, h3⟩ := hx j hj
  obtain ⟨y0, y1, m, _, _, g0, g1⟩ := trod_struct2 Tryz.underlying49 h3
  obtain ⟨c0, c1, c2, rfl⟩ := list_three h1
  simp [Tryz.cells_int, Tryz.cells_mono] at g0 g1
  obtain ⟨z0, z1, m', _, _, k0, k1⟩ := trod_struct2 Tryz.underlying26 g0
  simp [Tryz.cells_bool, Tryz.cells_su32] at k0 k1
  obtain ⟨ng, e0, _⟩ := DataW.trod_bool Tryz.underlying4 k0
  simp at e0
  subst e0
  obtain ⟨zs, hzs⟩ := open_u32s k1
  obtain ⟨ps, hps⟩ := open_pows g1
  exact ⟨⟨⟨ng, zs⟩, ps⟩, c1, c2, h2 0 (by omega), h2 1 (by omega), h2 2 (by omega), hzs, hps⟩)
 subst hl
 exact ⟨ts, b, off, hs, hp⟩
end
end
section
open Go.RowKit Go.Deep Go.ChangeShapes Go.WideShapes Go.ChangeAt
theorem Tryz.own : ownKnob Tryz.prog.godebug = none := by kernel_rfl
theorem Tryz.laidOut : laidOutB Tryz.prog = true := by kernel_rfl
theorem trodAll_below {H : Type} {enc : TypeId × Value → H} {W W' : World} (hb : Below W.heap.size W W') :
  ∀ {ts : List TypeId} {vs : List Value} {ds : List (DataW H)} {p : List MemPlace}, (∀ t ∈ ts, Tryz.prog.readableRec t = true ∧ t < Tryz.prog.types.size) → (∀ x ∈ p, x.block < W.heap.size) →
  DataW.TrodAll enc Tryz.prog W 0 (fun _ => true) true ts vs ds p → DataW.TrodAll enc Tryz.prog W' 0 (fun b => decide (b < W.heap.size)) true ts vs ds p := by
 intro ts
 induction ts with
 | nil =>
  intro vs ds p _ _ h
  cases vs <;> cases ds <;> first | exact h | exact h.elim
 | cons t ts ih =>
  intro vs ds p ht hlt h
  cases vs with
  | nil => exact h.elim
  | cons v vs =>
   cases ds with
   | nil => exact h.elim
   | cons d ds =>
    obtain ⟨p1, q1, h1, h2, rfl⟩ := h
    refine ⟨p1, q1, ?_, ih (fun x hx => ht x (List.mem_cons_of_mem _ hx)) (fun x hx => hlt x (List.mem_append_right _ hx)) h2, rfl⟩
    exact Below.trod Tryz.laidOut (ht t (List.mem_cons_self)).1 (ht t (List.mem_cons_self)).2 h1 hb (fun x hx => hlt x (List.mem_append_left _ hx))
theorem law_post {H : Type} {enc : TypeId × Value → H} {F : Func} {s : ChangeSpec} {W W' : World} {args : Array Value} {ds gs : List (DataW H)} {before : List MemPlace}
  (hW : DataW.Whole enc Tryz.prog F.params.toList s.vars false W args.toList ds gs before) (hv : s.vars = []) (hr : F.resultTypes = #[4])
  (hs : s.fn H (ds ++ gs) = { results := [.lit (.bool true)], args := ds }) (ht : ∀ t ∈ F.params.toList, Tryz.prog.readableRec t = true ∧ t < Tryz.prog.types.size)
  (hb : Below W.heap.size W W') : s.post enc Tryz.prog F false true false false W args (.bool true) W' := by
 have hlt := fun p hp => hW.lt p hp
 have hW' := hW
 obtain ⟨p, q, hA, hV, rfl, _, _⟩ := hW
 rw [hv] at hV
 obtain ⟨rfl, rfl⟩ := trodVars_none hV
 refine ⟨ds, _, _, [], p, [], hW', ?_, ?_, ?_, hb.frame _, fun h => by cases h⟩
 ·rw [hs, hr]
  exact trodAll_mk1 (shut_bool Tryz.underlying4 true)
 ·rw [hs]
  exact trodAll_below hb ht (fun x hx => hlt x (List.mem_append_left _ hx)) hA
 ·rw [hs, hv]
  rfl
end
section
open Go.RowKit Go.Deep Go.ChangeShapes Go.WideShapes Go.ChangeAt
theorem slice_cells {t e : TypeId} {W : World} {base : Nat} {v : Value} (ht : Tryz.prog.underlying t = some (.slice e)) (hv : Value.okWide Tryz.prog W .any base t v) : v.cells.toList = [v] := by
 obtain ⟨a, len, cap, rfl⟩ := okWide_slice ht hv
 rfl
section
variable {H : Type} {enc : TypeId × Value → H} {w : World} {base : Nat} {spare : Nat → Bool} {held : Bool}
end
end
section
open Go.RowKit
theorem rsame01 {S : Nat → Prop} (va vb : Value) (xs ys : List Nat) (w : World) (ha : U32s S w va xs) (hb : U32s S w vb ys) (hS : ∀ k, S k → k < w.heap.size) :
  Calls Tryz.prog 91 #[va, vb] w fun e w' => e = .returned (.bool (decide (xs = ys))) ∧ Ext w w' := by
 have HA := hid ha
 have HB := hid hb
 have hla := ha.len_le
 have hlb := hb.len_le
 obtain ⟨aa, ca, rfl⟩ := ha.form
 obtain ⟨ab, cb, rfl⟩ := hb.form
 obtain ⟨na, hna⟩ : ∃ n, n = xs.length := ⟨_, rfl⟩
 obtain ⟨nb, hnb⟩ : ∃ n, n = ys.length := ⟨_, rfl⟩
 rw [← hna] at HA hla ⊢
 rw [← hnb] at HB hlb ⊢
 have HNA := hid hna
 have HNB := hid hnb
 clear ha hb hna hnb
 by_cases hne : na = nb
 ·subst hne
  go_enter Tryz.func91, Tryz.ntmps91
  go_wp2
  go_loopw [5] (fun i wr => ∃ k : Nat, k ≤ na ∧ i = .int .i64 k ∧ Ext w wr ∧ Hid (xs.take k = ys.take k)) (fun i _ => na - (intOf i).toNat)
  case atStart => exact ⟨0, Nat.zero_le _, rfl, Ext.refl _, rfl⟩
  case round =>
   obtain ⟨k, hk, rfl, hx, HE⟩ := hrel
   have HX := hid hx
   by_cases hlt : k < na
   ·obtain ⟨x, hxk⟩ := some_of_lt (l := xs) (j := k) (by rw [← HNA.out]; exact hlt)
    obtain ⟨y, hyk⟩ := some_of_lt (l := ys) (j := k) (by rw [← HNB.out]; exact hlt)
    obtain ⟨b1, o1, rfl, -, hc1, hm1, hz1, h1⟩ := (HA.out.ext hx hS).cellAt hxk
    obtain ⟨b2, o2, rfl, -, hc2, hm2, hz2, h2⟩ := (HB.out.ext hx hS).cellAt hyk
    have HXK := hid hxk
    have HYK := hid hyk
    clear hxk hyk hx
    by_cases he : x = y
    ·have q1 : ((x : Int) != (y : Int)) = false := by rw [he]; simp
     have H0 := hid he
     clear he
     go_wp2
     go_quiet (fail)
     go_wp2
     go_roundw
     case rel => exact ⟨k + 1, by omega, by go_num, HX.out.drewN _, take_eq_succ HE.out HXK.out (by rw [H0.out]; exact HYK.out)⟩
     case measure => simp only [intOf]; omega
    ·have q1 : ((x : Int) != (y : Int)) = true := by rw [bne_iff_ne]; omega
     have HF : Hid (xs ≠ ys) := hid (ne_of_at HXK.out HYK.out he)
     clear he
     go_wp2
     go_quiet (fail)
     go_wp2
     go_ret
     exact ⟨by rw [decide_eq_false HF.out]; rfl, HX.out.drewN _⟩
   ·obtain rfl : k = na := by omega
    have HF : Hid (xs = ys) := hid (by have := HE.out; rwa [List.take_of_length_le (by rw [← HNA.out]; exact Nat.le_refl _), List.take_of_length_le (by rw [← HNB.out]; exact Nat.le_refl _)] at this)
    clear hx
    go_wp2
    go_ret
    exact ⟨by rw [decide_eq_true HF.out]; rfl, HX.out⟩
 ·have hb : ((na : Int) != (nb : Int)) = true := by rw [bne_iff_ne]; omega
  have HF : Hid (xs ≠ ys) := hid (fun e => hne (by rw [HNA.out, HNB.out, e]))
  clear hne
  go_enter Tryz.func91, Tryz.ntmps91
  go_wp2
  go_ret
  exact ⟨by rw [decide_eq_false HF.out]; rfl, Ext.refl _⟩
theorem rsame07 {S : Nat → Prop} (va vb : Value) (xs ys : Mono) (w : World) (ha : Pows S w va xs) (hb : Pows S w vb ys) (hS : ∀ k, S k → k < w.heap.size) :
  Calls Tryz.prog 55 #[va, vb] w fun e w' => e = .returned (.bool (decide (xs = ys))) ∧ Ext w w' := by
 have HA := hid ha
 have HB := hid hb
 have hla := ha.len_le
 have hlb := hb.len_le
 obtain ⟨aa, ca, rfl⟩ := ha.form
 obtain ⟨ab, cb, rfl⟩ := hb.form
 obtain ⟨na, hna⟩ : ∃ n, n = xs.length := ⟨_, rfl⟩
 obtain ⟨nb, hnb⟩ : ∃ n, n = ys.length := ⟨_, rfl⟩
 rw [← hna] at HA hla ⊢
 rw [← hnb] at HB hlb ⊢
 have HNA := hid hna
 have HNB := hid hnb
 clear ha hb hna hnb
 by_cases hne : na = nb
 ·subst hne
  go_enter Tryz.func55, Tryz.ntmps55
  go_wp2
  go_loopw [5] (fun i wr => ∃ k : Nat, k ≤ na ∧ i = .int .i64 k ∧ Ext w wr ∧ Hid (xs.take k = ys.take k)) (fun i _ => na - (intOf i).toNat)
  case atStart => exact ⟨0, Nat.zero_le _, rfl, Ext.refl _, rfl⟩
  case round =>
   obtain ⟨k, hk, rfl, hx, HE⟩ := hrel
   have HX := hid hx
   by_cases hlt : k < na
   ·obtain ⟨x, hxk⟩ := some_of_lt (l := xs) (j := k) (by rw [← HNA.out]; exact hlt)
    obtain ⟨y, hyk⟩ := some_of_lt (l := ys) (j := k) (by rw [← HNB.out]; exact hlt)
    obtain ⟨b1, o1, c1', hv1, hc1, hm1, ⟨⟨hz1, hz2⟩, hz3, hz4⟩, h1, h1'⟩ := (HA.out.ext hx hS).at hxk
    obtain ⟨rfl, -, rfl⟩ : aa = some ⟨b1, o1, none⟩ ∧ na = xs.length ∧ ca = c1' := by simpa using hv1
    obtain ⟨b2, o2, c2', hv2, hc2, hm2, ⟨⟨hy1, hy2⟩, hy3, hy4⟩, h2, h2'⟩ := (HB.out.ext hx hS).at hyk
    obtain ⟨rfl, -, rfl⟩ : ab = some ⟨b2, o2, none⟩ ∧ na = ys.length ∧ cb = c2' := by simpa using hv2
    clear hv1 hv2
    rw [← HNA.out] at hc1
    rw [← HNB.out] at hc2
    have HXK := hid hxk
    have HYK := hid hyk
    clear hxk hyk hx
    by_cases he : x = y
    ·have H0 := hid he
     obtain ⟨x1, x2⟩ := x
     obtain ⟨y1, y2⟩ := y
     obtain ⟨rfl, rfl⟩ : x1 = y1 ∧ x2 = y2 := by simpa using he
     simp only at h1 h1' h2 h2' hz1 hz2 hz3 hz4 hy1 hy2 hy3 hy4
     clear he
     go_wp2
     go_quiet (fail)
     go_wp2
     go_roundw
     case rel => exact ⟨k + 1, by omega, by go_num, HX.out.drewN _, take_eq_succ HE.out HXK.out HYK.out⟩
     case measure => simp only [intOf]; omega
    ·have HF : Hid (xs ≠ ys) := hid (ne_of_at HXK.out HYK.out he)
     obtain ⟨x1, x2⟩ := x
     obtain ⟨y1, y2⟩ := y
     simp only at h1 h1' h2 h2' hz1 hz2 hz3 hz4 hy1 hy2 hy3 hy4
     have he' : x1 ≠ y1 ∨ (x1 = y1 ∧ x2 ≠ y2) := by
      by_cases h : x1 = y1
      ·exact .inr ⟨h, fun h' => he (by rw [h, h'])⟩
      ·exact .inl h
     clear he
     rcases he' with he | ⟨rfl, he⟩
     all_goals
      go_wp2
      go_quiet (fail)
      go_wp2
      go_ret
      exact ⟨by rw [decide_eq_false HF.out]; rfl, HX.out.drewN _⟩
   ·obtain rfl : k = na := by omega
    have HF : Hid (xs = ys) := hid (by have := HE.out; rwa [List.take_of_length_le (by rw [← HNA.out]; exact Nat.le_refl _), List.take_of_length_le (by rw [← HNB.out]; exact Nat.le_refl _)] at this)
    clear hx
    go_wp2
    go_ret
    exact ⟨by rw [decide_eq_true HF.out]; rfl, HX.out⟩
 ·have hb : ((na : Int) != (nb : Int)) = true := by rw [bne_iff_ne]; omega
  have HF : Hid (xs ≠ ys) := hid (fun e => hne (by rw [HNA.out, HNB.out, e]))
  clear hne
  go_enter Tryz.func55, Tryz.ntmps55
  go_wp2
  go_ret
  exact ⟨by rw [decide_eq_false HF.out]; rfl, Ext.refl _⟩
theorem rsame04 {S : Nat → Prop} (v1 v2 : Value) (sn tn : Bool) (sm tm : List Nat) (w : World) (h1 : U32s S w v1 sm) (h2 : U32s S w v2 tm) (hS : ∀ k, S k → k < w.heap.size) :
  Calls Tryz.prog 54 #[.agg #[.bool sn, v1], .agg #[.bool tn, v2]] w fun e w' => e = .returned (.bool (decide (sn = tn) && decide (sm = tm))) ∧ Ext w w' := by
 have CU := fun (W : World) (hW : Ext w W) => rsame01 _ _ sm tm W (h1.ext hW hS) (h2.ext hW hS) (lt_ext hS hW)
 obtain ⟨a1, c1, rfl⟩ := h1.form
 obtain ⟨a2, c2, rfl⟩ := h2.form
 have hx : Ext w ((w.alloc (.cells #[.bool sn, .slice a1 sm.length c1] 26)).alloc (.cells #[.bool tn, .slice a2 tm.length c2] 26)) := Ext.alloc (Ext.alloc (Ext.refl w) _) _
 have HX := hid hx
 clear h1 h2 hx
 by_cases hs : sn = tn
 ·subst hs
  cases hm : decide (sm = tm) with
  | false =>
   simp only [hm] at CU
   have HCU := hid CU
   clear CU hm
   go_enter Tryz.func54, Tryz.ntmps54
   go_wp2_with fail
   with_reducible refine (HCU.out _ HX.out).mono ?_
   rintro e w1 ⟨rfl, hx1⟩
   have HX1 := hid (HX.out.trans hx1)
   clear hx1
   go_wp2
   all_goals
    go_ret
    exact ⟨by simp, HX1.out⟩
  | true =>
   simp only [hm] at CU
   have HCU := hid CU
   clear CU hm
   go_enter Tryz.func54, Tryz.ntmps54
   go_wp2_with fail
   with_reducible refine (HCU.out _ HX.out).mono ?_
   rintro e w1 ⟨rfl, hx1⟩
   have HX1 := hid (HX.out.trans hx1)
   clear hx1
   go_wp2
   all_goals
    go_ret
    exact ⟨by simp, HX1.out⟩
 ·have hb : (sn == tn) = false := by rw [beq_eq_false_iff_ne]; exact hs
  have HF := hid (decide_eq_false hs)
  clear hs CU
  go_enter Tryz.func54, Tryz.ntmps54
  go_wp2
  all_goals
   go_ret
   exact ⟨by rw [HF.out]; simp, HX.out⟩
theorem rpoly_same {S : Nat → Prop} (va vb : Value) (xs ys : List RTerm) (w : World) (ha : Terms S w va xs) (hb : Terms S w vb ys) (hS : ∀ k, S k → k < w.heap.size) :
  Calls Tryz.prog 22 #[va, vb] w fun e w' => e = .returned (.bool (decide (xs = ys))) ∧ Ext w w' := by
 have HA := hid ha
 have HB := hid hb
 have hla := ha.len_le
 have hlb := hb.len_le
 obtain ⟨aa, ca, rfl⟩ := ha.form
 obtain ⟨ab, cb, rfl⟩ := hb.form
 obtain ⟨na, hna⟩ : ∃ n, n = xs.length := ⟨_, rfl⟩
 obtain ⟨nb, hnb⟩ : ∃ n, n = ys.length := ⟨_, rfl⟩
 rw [← hna] at HA hla ⊢
 rw [← hnb] at HB hlb ⊢
 have HNA := hid hna
 have HNB := hid hnb
 clear ha hb hna hnb
 by_cases hne : na = nb
 ·subst hne
  go_enter Tryz.func22, Tryz.ntmps22
  go_wp2
  go_loopw [5] (fun i wr => ∃ k : Nat, k ≤ na ∧ i = .int .i64 k ∧ Ext w wr ∧ Hid (xs.take k = ys.take k)) (fun i _ => na - (intOf i).toNat)
  case atStart => exact ⟨0, Nat.zero_le _, rfl, Ext.refl _, rfl⟩
  case round =>
   obtain ⟨k, hk, rfl, hx, HE⟩ := hrel
   have HX := hid hx
   by_cases hlt : k < na
   ·obtain ⟨x, hxk⟩ := some_of_lt (l := xs) (j := k) (by rw [← HNA.out]; exact hlt)
    obtain ⟨y, hyk⟩ := some_of_lt (l := ys) (j := k) (by rw [← HNB.out]; exact hlt)
    obtain ⟨b1, o1, v1, v2, rfl, -, hc1, hm1, hz1, h1, h2, h3, h4, h5⟩ := (HA.out.ext hx hS).cellAt hxk
    obtain ⟨b2, o2, v3, v4, rfl, -, hc2, hm2, hz2, g1, g2, g3, g4, g5⟩ := (HB.out.ext hx hS).cellAt hyk
    have HXK := hid hxk
    have HYK := hid hyk
    obtain ⟨⟨xn, xm⟩, xo⟩ := x
    obtain ⟨⟨yn, ym⟩, yo⟩ := y
    simp only at h1 h2 h3 h4 h5 g1 g2 g3 g4 g5
    have hSr := lt_ext hS hx
    have C4 := fun Y : Later wr => rsame04 (S := S) v1 v3 xn yn xm ym Y.w' (h4.ext Y.h hSr) (g4.ext Y.h hSr) (lt_ext hSr Y.h)
    have C7 := fun Y : Later wr => rsame07 (S := S) v2 v4 xo yo Y.w' (h5.ext Y.h hSr) (g5.ext Y.h hSr) (lt_ext hSr Y.h)
    have L1 := fun Y : Later wr => Y.h.cell h1
    have L2 := fun Y : Later wr => Y.h.cell h2
    have L3 := fun Y : Later wr => Y.h.cell h3
    have M1 := fun Y : Later wr => Y.h.cell g1
    have M2 := fun Y : Later wr => Y.h.cell g2
    have M3 := fun Y : Later wr => Y.h.cell g3
    obtain ⟨a1, c1, rfl⟩ := h4.form
    obtain ⟨a2, c2, rfl⟩ := h5.form
    obtain ⟨a3, c3, rfl⟩ := g4.form
    obtain ⟨a4, c4, rfl⟩ := g5.form
    have hlen : Hid (xs.length = na ∧ ys.length = na) := hid ⟨HNA.out.symm, HNB.out.symm⟩
    have q1 : (k : Int) < (na : Int) := by omega
    clear h1 h2 h3 h4 h5 g1 g2 g3 g4 g5 hxk hyk hx hSr
    cases hd4 : (decide (xn = yn) && decide (xm = ym)) with
    | false =>
     have HF : Hid (xs ≠ ys) := hid (ne_of_at HXK.out HYK.out (fun e => by
      simp at e
      obtain ⟨⟨e1, e2⟩, e3⟩ := e
      rw [e1, e2] at hd4
      simp at hd4))
     simp only [hd4] at C4
     have HC4 := hid C4
     have HC7 := hid C7
     clear C4 C7 hd4
     go_wp2
     refine wp_region_later (by kernel_rfl) (by kernel_rfl) ?_
     repeat (go_big_quiet_step (first | (go_at_call 54; exact Later.done (HC4.out _))))
     refine wpQuiet_nil ?_
     intro W2 hW2
     have HW2 := hid (HX.out.trans hW2)
     clear L1 L2 L3 M1 M2 M3 hW2
     go_wp2
     go_ret
     exact ⟨by rw [decide_eq_false HF.out]; rfl, HW2.out⟩
    | true =>
     have HE4 := hid hd4
     simp only [hd4] at C4
     have HC4 := hid C4
     clear C4 hd4
     cases hd7 : decide (xo = yo) with
     | false =>
      have HF : Hid (xs ≠ ys) := hid (ne_of_at HXK.out HYK.out (fun e => by
       simp at e
       obtain ⟨⟨e1, e2⟩, e3⟩ := e
       rw [e3] at hd7
       simp at hd7))
      simp only [hd7] at C7
      have HC7 := hid C7
      clear C7 hd7
      go_wp2
      refine wp_region_later (by kernel_rfl) (by kernel_rfl) ?_
      repeat (go_big_quiet_step (first | (go_at_call 54; exact Later.done (HC4.out _)) | (go_at_call 55; exact Later.done (HC7.out _))))
      refine wpQuiet_nil ?_
      intro W2 hW2
      have HW2 := hid (HX.out.trans hW2)
      clear L1 L2 L3 M1 M2 M3 hW2
      go_wp2
      go_ret
      exact ⟨by rw [decide_eq_false HF.out]; rfl, HW2.out⟩
     | true =>
      have HF : Hid (xs.take (k + 1) = ys.take (k + 1)) := hid (take_eq_succ HE.out HXK.out (by
       have h4 := HE4.out
       simp at h4 hd7
       rw [h4.1, h4.2, hd7]
       exact HYK.out))
      simp only [hd7] at C7
      have HC7 := hid C7
      clear C7 hd7
      go_wp2
      refine wp_region_later (by kernel_rfl) (by kernel_rfl) ?_
      repeat (go_big_quiet_step (first | (go_at_call 54; exact Later.done (HC4.out _)) | (go_at_call 55; exact Later.done (HC7.out _))))
      refine wpQuiet_nil ?_
      intro W2 hW2
      have HW2 := hid (HX.out.trans hW2)
      clear L1 L2 L3 M1 M2 M3 hW2
      go_wp2
      go_roundw
      case rel => exact ⟨k + 1, by omega, by go_num, HW2.out, HF⟩
      case measure => simp only [intOf]; omega
   ·obtain rfl : k = na := by omega
    have HF : Hid (xs = ys) := hid (by have := HE.out; rwa [List.take_of_length_le (by rw [← HNA.out]; exact Nat.le_refl _), List.take_of_length_le (by rw [← HNB.out]; exact Nat.le_refl _)] at this)
    clear hx
    go_wp2
    go_ret
    exact ⟨by rw [decide_eq_true HF.out]; rfl, HX.out⟩
 ·have hb : ((na : Int) != (nb : Int)) = true := by rw [bne_iff_ne]; omega
  have HF : Hid (xs ≠ ys) := hid (fun e => hne (by rw [HNA.out, HNB.out, e]))
  clear hne
  go_enter Tryz.func22, Tryz.ntmps22
  go_wp2
  go_ret
  exact ⟨by rw [decide_eq_false HF.out]; rfl, Ext.refl _⟩
end
section
open Go.RowKit
theorem Digs.src {S : Nat → Prop} {w : World} {A : Option Addr} {n cap : Nat} {zs : List Nat} (h : Digs S w (.slice A n cap) zs) : SrcAt w A n 1 (zs.map dval) := by
 obtain ⟨b, off, ⟨a', cap', h1, h2, h3, h4, h5⟩, hc⟩ := h
 obtain ⟨rfl, rfl, rfl⟩ : A = a' ∧ n = zs.length ∧ cap = cap' := by simpa using h1
 refine ⟨by simp, fun u hu => ?_, fun h0 => ⟨_, h4 h0, fun j u hj => ?_⟩⟩
 ·obtain ⟨z, -, rfl⟩ := List.mem_map.1 hu
  rfl
 ·rw [List.getElem?_map] at hj
  cases hz : zs[j]? with
  | none => rw [hz] at hj; cases hj
  | some z =>
   rw [hz] at hj
   obtain rfl : dval z = u := by simpa using hj
   rw [add_off]
   exact (hc j z hz).2
theorem cmpN_at {a b : Nat} : (a < b ∧ cmpN a b = -1) ∨ (b ≤ a ∧ (cmpN a b = 0 ∨ cmpN a b = 1)) := by
 unfold cmpN cmpI
 split
 ·exact .inl ⟨by omega, rfl⟩
 ·split <;> exact .inr ⟨by omega, by first | exact .inl rfl | exact .inr rfl⟩
theorem div_uniq {a m j R : Nat} (h : a = j * m + R) (hR : R < m) : j = a / m ∧ R = a % m := by
 have hm : 0 < m := by omega
 rw [h, Nat.mul_comm, Nat.mul_add_div hm, Nat.div_eq_of_lt hR, Nat.mul_add_mod, Nat.mod_eq_of_lt hR]
 exact ⟨rfl, rfl⟩
theorem set_same {o : List Nat} {q : Nat} (hq : q < o.length) (h : dg o q = 0) : o.set q 0 = o := by
 refine List.ext_getElem? (fun i => ?_)
 rw [List.getElem?_set]
 split
 ·next e =>
  subst e
  unfold dg at h
  obtain ⟨z, hz⟩ := some_of_lt hq
  rw [hz] at h ⊢
  have e0 : z = 0 := h
  rw [e0]
 ·rfl
theorem rep10_mono {a b : Nat} (h : a ≤ b) : (rep 10 a).length ≤ (rep 10 b).length := rep_len_le two_le_10 _ _ (Nat.lt_of_le_of_lt h (le_of_rep_len two_le_10 b))
theorem rep10_up {a b : Nat} (h : a < 10 * b) : (rep 10 a).length ≤ (rep 10 b).length + 1 := rep_len_le two_le_10 _ _ (by
 have := le_of_rep_len two_le_10 b
 rw [Nat.pow_succ]
 omega)
theorem rowIs_ext {w w' : World} {g n : Nat} {T : TypeId} {f : Nat → Value} (h : w.rowIs g T n f) (hx : Ext w w') : w'.rowIs g T n f := by
 obtain ⟨c, h1, h2⟩ := h
 exact ⟨c, (hx.block g (Array.getElem?_eq_some_iff.1 h1).1).trans h1, h2⟩
theorem dig_divmod {S : Nat → Prop} (va vb : Value) (zs : List Nat) (m : Nat) (w : World) (ha : Digs S w va zs) (hb : Digs S w vb (rep 10 m)) (hS : ∀ k, S k → k < w.heap.size) (hr : zs.length ≤ 10000000) (hr2 : (rep 10 m).length ≤ 2000000) (hm : 0 < m) :
  Calls Tryz.prog 120 #[va, vb] w fun e w' => ∃ v1 v2, e = .returned (.tuple #[v1, v2]) ∧ Digs (New w w') w' v1 (rep 10 (val 10 zs / m)) ∧ Digs (New w w') w' v2 (rep 10 (val 10 zs % m)) ∧ Ext w w' := by
 have HA := hid ha
 have HB := hid hb
 have HLA := hid ha.lt
 obtain ⟨aa, ca, rfl⟩ := ha.form
 obtain ⟨ab, cb, rfl⟩ := hb.form
 obtain ⟨nb, hnb⟩ : ∃ n, n = (rep 10 m).length := ⟨_, rfl⟩
 rw [← hnb] at HB ⊢
 have HNB := hid hnb
 clear ha hb hnb
 obtain ⟨i0, hi, hz0, hz1, hz2⟩ := info_parts Tryz.infoInt
 have hmk := run_make_row' (P := Tryz.prog) 54 3 (.int .i64 0) 8 Tryz.underlying54 Tryz.infoInt rfl .i64 .i64 zs.length (by omega) (by omega) w
 obtain ⟨g, hg⟩ : ∃ g, g = w.heap.size := ⟨_, rfl⟩
 obtain ⟨wa, hwa⟩ : ∃ Y, Y = w.alloc (.cells (madeCells #[.int .i64 0] zs.length) 3) := ⟨_, rfl⟩
 have HR : Hid (wa.rowIs g 3 zs.length (rowD (List.replicate zs.length 0))) := hid (by rw [hg, hwa]; exact rowD_zeros w zs.length 3)
 have HE : Hid (Ext w wa) := hid (by rw [hwa]; exact Ext.alloc (Ext.refl w) _)
 have HZ : Hid (g < wa.heap.size) := hid (by rw [hg, hwa, size_alloc]; omega)
 rw [← hg, ← hwa] at hmk
 have HG := hid hg
 clear hg hwa
 go_enter Tryz.func120, Tryz.ntmps120
 go_wp2
 go_loopw [7, 8] (fun rr i wr => ∃ (k R : Nat) (o : List Nat), k ≤ zs.length ∧ i = .int .i64 ((k : Int) - 1) ∧ R < m ∧ Hid (o.length = zs.length) ∧ Hid (∀ z ∈ o, z < 10) ∧ Hid (wr.rowIs g 3 zs.length (rowD o)) ∧ Hid (Ext w wr) ∧
  Hid (Digs (fun j => g < j ∧ j < wr.heap.size) wr rr (rep 10 R)) ∧ Hid (∀ j, j < k → dg o j = 0) ∧ Hid (val 10 (zs.drop k) = val 10 (o.drop k) * m + R)) (fun _ i _ => (intOf i + 1).toNat)
 case atStart => exact ⟨zs.length, 0, List.replicate zs.length 0, Nat.le_refl _, rfl, hm, hid (by simp), hid (by simp), HR, HE, hid (Digs.nilv _ _ _ _ (by omega)), hid (fun j hj => by simp [dg, hj]), hid (by rw [List.drop_length, List.drop_eq_nil_of_le (by simp)]; simp [val])⟩
 case round =>
  obtain ⟨k, R, o, hk, rfl, hRm, HOL, HO, HROW, HX, HRD, HZR, HV⟩ := hrel
  cases k with
  | succ q =>
   have hq1 : ((q + 1 : Nat) : Int) - 1 = (q : Int) := by omega
   have hqn : q < zs.length := by omega
   obtain ⟨x, hx1⟩ := some_of_lt hqn
   obtain ⟨b, off, rfl, -, hn1, hm1, hSb, hxb, hc1⟩ := HA.out.cellAt hx1
   have g1 := HX.out.cell hc1
   have HX1 := hid hx1
   obtain ⟨ar, cr, rfl⟩ := HRD.out.form
   obtain ⟨nr, hnr⟩ : ∃ n, n = (rep 10 R).length := ⟨_, rfl⟩
   rw [← hnr] at HRD ⊢
   have HNR := hid hnr
   have hnrb : nr ≤ 2000000 := by
    have h1 := rep10_mono (Nat.le_of_lt hRm)
    rw [hnr]; omega
   have HXL := hid (hxb : x < 10)
   have HSRC := hid ((HRD.out.to (S' := fun _ => True) (Kept.ext (Ext.alloc (Ext.refl wr) (.cells #[.int .i64 (x : Nat)] 3)) (fun _ h => h.2)) (fun _ _ => trivial)).src)
   have HLIT := hid (World.ownsRow_lit (size := 1) (e := 3) wr #[.int .i64 (x : Nat)] 1 (Nat.le_refl _) (by decide) rfl)
   have HXA := hid (show Ext wr (wr.alloc (.cells #[.int .i64 (x : Nat)] 3)) from Ext.alloc (Ext.refl wr) _)
   clear hx1 hc1 hnr hxb
   simp only [hq1]
   go_wp2_with (at_builtin; refine wpList_append_src _ rfl (.tmp 23) (.tmp 24) 54 rfl wr.heap.size 3 i0 (.int .i64 0) 1 8 Tryz.underlying54 hi hz0 hz1 hz2 rfl (by decide) (.slice (some ⟨wr.heap.size, 0, none⟩) 1 1) 1 [.int .i64 (x : Nat)] rfl HLIT.out ar nr cr ((rep 10 R).map dval) rfl HSRC.out (by unfold maxLen; omega) (by omega) HXA.out.size ?_; intro v1 w1 hown hgr _; have HOW := hid hown; have HXG := hid (ext_grown HXA.out hgr (fun k hk => (HLIT.out.lt k hk).1)); clear hown hgr)
   have HD1 : Hid (Digs (fun k => wr.heap.size ≤ k ∧ k < w1.heap.size) w1 v1 (x :: rep 10 R)) := hid (own_digs (ds := x :: rep 10 R) (by rw [List.length_cons, ← HNR.out, Nat.add_comm]; exact HOW.out) (fun z hz => by
    rcases List.mem_cons.1 hz with rfl | h
    ·exact HXL.out
    ·exact rep_lt two_le_10 R z h))
   have CT := hid (dig_trim v1 (x :: rep 10 R) w1 HD1.out)
   rw [show val 10 (x :: rep 10 R) = x + 10 * R from by rw [val, val_rep two_le_10]] at CT
   obtain ⟨a1, c1, e1⟩ := HD1.out.form
   rw [List.length_cons, ← HNR.out] at e1
   subst e1
   go_wp2_with fail
   with_reducible refine CT.out.mono ?_
   rintro e w2 ⟨v2, rfl, hu, rfl⟩
   have HG1 : Hid (g < wr.heap.size) := hid (HROW.out.lt)
   have HR1 : Hid (w1.rowIs g 3 zs.length (rowD o)) := hid (rowIs_ext HROW.out HXG.out)
   have HI0 : Hid (Digs (fun k => g < k ∧ k < w1.heap.size) w1 v2 (rep 10 (x + 10 * R))) := hid (hu.to (Kept.refl _ _) (fun k hk => ⟨Nat.lt_of_lt_of_le HG1.out hk.1, hk.2⟩))
   have HXW : Hid (Ext w w1) := hid (HX.out.trans HXG.out)
   clear hu
   obtain ⟨wo, rfl⟩ : ∃ wo : World, wo = wr := ⟨_, rfl⟩
   go_wp2
   go_loopw [7] (fun rr wy => ∃ (j R' : Nat), x + 10 * R = j * m + R' ∧ Hid (Digs (fun k => g < k ∧ k < wy.heap.size) wy rr (rep 10 R')) ∧ Hid (wy.rowIs g 3 zs.length (rowD (o.set q j))) ∧ Hid (Ext w wy)) (fun _ wy => 9 - (intOf ((wy.cell? ⟨g, q, none⟩).getD (.int .i64 0))).toNat)
   case atStart => exact ⟨0, x + 10 * R, by omega, HI0, by rw [set_same (by rw [HOL.out]; exact hqn) (HZR.out q (by omega))]; exact HR1, HXW⟩
   case round =>
    obtain ⟨j, R', hjR, HRR, HRO, HXY⟩ := hrel
    obtain ⟨ay, cy, rfl⟩ := HRR.out.form
    obtain ⟨ny, hny⟩ : ∃ n, n = (rep 10 R').length := ⟨_, rfl⟩
    rw [← hny] at HRR
    rw [← hny]
    have HNY := hid hny
    have HBY := hid (HB.out.to (S' := Old wr) (Kept.ext HXY.out hS) (fun k hk => Nat.lt_of_lt_of_le (hS k hk) HXY.out.size))
    have hxR : x + 10 * R < 10 * m := by have := HXL.out; omega
    have HJR := hid hjR
    have CC := dig_cmp (S := Old wr) _ _ R' m wr (HRR.out.to (Kept.refl _ _) (fun k h => h.2)) HBY.out (fun _ h => h)
    rcases cmpN_at (a := R') (b := m) with ⟨hlt, hc⟩ | ⟨hge, hc⟩
    ·rw [hc] at CC
     have CC := hid CC
     clear hc hny
     go_wp2_with fail
     with_reducible refine CC.out.mono ?_
     rintro e w3 ⟨rfl, hx3⟩
     have HX3 := hid hx3
     clear hx3
     go_wp2
     go_roundw
     case rel =>
      obtain ⟨ej, eR⟩ := div_uniq HJR.out hlt
      refine ⟨q, R', o.set q j, by omega, rfl, hlt, hid (by simpa using HOL.out), hid (fun z hz => ?_), hid (rowIs_ext HRO.out HX3.out), hid (HXY.out.trans HX3.out), hid (HRR.out.to (Kept.ext HX3.out (fun k h => h.2)) (fun k h => ⟨h.1, Nat.lt_of_lt_of_le h.2 HX3.out.size⟩)), hid (fun i hi => ?_), hid ?_⟩
      ·rcases List.mem_or_eq_of_mem_set hz with h | h
       ·exact HO.out z h
       ·rw [h]
        have h1 : j * m < 10 * m := by omega
        exact Nat.lt_of_mul_lt_mul_right h1
      ·rw [dg_set_ne (by omega)]
       exact HZR.out i (by omega)
      ·have h1 := by_step HX1.out (by rw [HOL.out]; exact hqn) HV.out
       rw [show R * 10 + x = x + 10 * R by omega, ← ej, ← eR] at h1
       exact h1
     case measure => simp only [intOf]; omega
    ·obtain ⟨c, hc1, hc2⟩ : ∃ c, cmpN R' m = c ∧ decide (0 ≤ c) = true := by
      rcases hc with h | h
      ·exact ⟨0, h, rfl⟩
      ·exact ⟨1, h, rfl⟩
     rw [hc1] at CC
     have CC := hid CC
     have HGE := hid hge
     have CS := hid (fun (Y : World) (hY : Ext wr Y) => dig_sub (S := Old Y) (.slice ay ny cy) (.slice ab nb cb) (rep 10 R') (rep 10 m) Y (HRR.out.to (Kept.ext hY (fun k h => h.2)) (fun k h => Nat.lt_of_lt_of_le h.2 hY.size)) (HBY.out.to (Kept.ext hY (fun _ h => h)) (fun k h => Nat.lt_of_lt_of_le h hY.size)) (fun _ h => h) (by have := rep10_up (a := R') (b := m) (by omega); omega) (rep10_mono hge) (by rw [val_rep two_le_10, val_rep two_le_10]; exact hge))
     simp only [val_rep two_le_10] at CS
     have hjm : (j + 1) * m < 10 * m := by
      rw [Nat.succ_mul]
      omega
     have hj9 : j ≤ 8 := by have := Nat.lt_of_mul_lt_mul_right hjm; omega
     clear hc hc1 hny hjm
     go_wp2_with fail
     with_reducible refine CC.out.mono ?_
     rintro e w3 ⟨rfl, hx3⟩
     have HX3 := hid hx3
     clear hx3
     go_wp2_with fail
     with_reducible refine (CS.out w3 HX3.out).mono ?_
     rintro e w4 ⟨v4, rfl, hd4, hx4⟩
     have HX4 := hid (HX3.out.trans hx4)
     have HD4 := hid (show Digs (fun k => g < k ∧ k < w4.heap.size) w4 v4 (rep 10 (R' - m)) from hd4.to (Kept.refl _ _) (fun k hk => ⟨Nat.lt_of_lt_of_le (Nat.lt_of_lt_of_le HRO.out.lt HX3.out.size) hk.1, hk.2⟩))
     have HR4 := hid (rowIs_ext HRO.out HX4.out)
     have hcs := HR4.out.cell (i := q) hqn
     have hfs := HR4.out.frozen q
     have hcy := HRO.out.cell (i := q) hqn
     have hdg : dg (o.set q j) q = j := by
      unfold dg
      rw [List.getElem?_set_self (by rw [HOL.out]; exact hqn)]
      rfl
     unfold rowD dval at hcs hcy
     rw [hdg] at hcs hcy
     have HCY := hid hcy
     clear hd4 hx4 hcy hdg
     go_wp2
     have hpl : q < (o.set q j).length := by simpa [HOL.out] using hqn
     have hst := rowD_set HR4.out q (j + 1) hpl
     rw [List.set_set] at hst
     have HST := hid hst
     clear hst
     go_roundw
     case rel =>
      refine ⟨j + 1, R' - m, by rw [Nat.add_mul j 1 m, Nat.one_mul]; have := HJR.out; have := HGE.out; omega, hid (HD4.out.to (Kept.setCell (fun h => absurd h.1 (Nat.lt_irrefl _)) _) (fun k h => ⟨h.1, by simpa using h.2⟩)), ?_, hid ((HXY.out.trans HX4.out).setCell (p := ⟨g, q, none⟩) (by show w.heap.size ≤ g; rw [HG.out]; exact Nat.le_refl _) _)⟩
      exact HST
     case measure =>
      rw [HCY.out, same_of (HR4.out.cell (i := q) hqn)]
      simp only [Option.getD_some, intOf]
      omega
  | zero =>
   have hd := Digs.of_row HROW.out HOL.out HO.out (by omega)
   have HD := hid hd
   obtain ⟨ar, cr, rfl⟩ := HRD.out.form
   have HV0 : Hid (val 10 zs = val 10 o * m + R) := hid (by simpa using HV.out)
   clear hd
   go_wp2_with fail
   refine (dig_trim _ o _ HD.out).mono ?_
   rintro e w' ⟨v', rfl, hu, rfl⟩
   have HU := hid hu
   clear hu
   go_wp2
   all_goals
    go_ret2
    obtain ⟨e1, e2⟩ := div_uniq HV0.out hRm
    refine ⟨_, _, rfl, ?_, ?_, HX.out⟩
    ·rw [← e1]
     refine HU.out.to (Kept.refl _ _) (fun k hk => ?_)
     subst hk
     exact ⟨by rw [HG.out]; exact Nat.le_refl _, HROW.out.lt⟩
    ·rw [← e2]
     exact HRD.out.to (Kept.refl _ _) (fun k hk => ⟨by have := HG.out; omega, hk.2⟩)
end
section
open Go.RowKit
theorem quo_sg {x y q : Int} (h : x = q * y) (hy : y ≠ 0) : sg (decide (x < 0) != decide (y < 0)) q.natAbs = q ∧ x.natAbs / y.natAbs = q.natAbs ∧ x.natAbs % y.natAbs = 0 := by
 have ha : x.natAbs = q.natAbs * y.natAbs := by rw [h, Int.natAbs_mul]
 have hp : 0 < y.natAbs := by omega
 refine ⟨?_, by rw [ha, Nat.mul_div_cancel _ hp], by rw [ha, Nat.mul_mod_left]⟩
 rcases Int.lt_trichotomy q 0 with hq | hq | hq <;> rcases Int.lt_or_gt_of_ne hy with h1 | h1
 ·have := Int.mul_pos_of_neg_of_neg hq h1
  rw [decide_eq_false (show ¬ x < 0 by omega), decide_eq_true h1]
  unfold sg; simp; omega
 ·have := Int.mul_neg_of_neg_of_pos hq h1
  rw [decide_eq_true (show x < 0 by omega), decide_eq_false (show ¬ y < 0 by omega)]
  unfold sg; simp; omega
 ·subst hq; unfold sg; simp
 ·subst hq; unfold sg; simp
 ·have := Int.mul_neg_of_pos_of_neg hq h1
  rw [decide_eq_true (show x < 0 by omega), decide_eq_true h1]
  unfold sg; simp; omega
 ·have := Int.mul_pos hq h1
  rw [decide_eq_false (show ¬ x < 0 by omega), decide_eq_false (show ¬ y < 0 by omega)]
  unfold sg; simp; omega
theorem four_setZ {w : World} {b c : Nat} {u0 u1 u2 u3 : Value} (hbc : b ≠ c) (c0 : w.cell? ⟨b, 0, none⟩ = some u0) (c1 : w.cell? ⟨b, 1, none⟩ = some u1) (c2 : w.cell? ⟨c, 0, none⟩ = some u2) (c3 : w.cell? ⟨c, 1, none⟩ = some u3) (x y x' y' : Value) :
  ((((w.setCell ⟨b, 0, none⟩ x).setCell ⟨b, 1, none⟩ y).setCell ⟨c, 0, none⟩ x').setCell ⟨c, 1, none⟩ y').cell? ⟨b, 0, none⟩ = some x ∧ ((((w.setCell ⟨b, 0, none⟩ x).setCell ⟨b, 1, none⟩ y).setCell ⟨c, 0, none⟩ x').setCell ⟨c, 1, none⟩ y').cell? ⟨b, 1, none⟩ = some y ∧
  ((((w.setCell ⟨b, 0, none⟩ x).setCell ⟨b, 1, none⟩ y).setCell ⟨c, 0, none⟩ x').setCell ⟨c, 1, none⟩ y').cell? ⟨c, 0, none⟩ = some x' ∧ ((((w.setCell ⟨b, 0, none⟩ x).setCell ⟨b, 1, none⟩ y).setCell ⟨c, 0, none⟩ x').setCell ⟨c, 1, none⟩ y').cell? ⟨c, 1, none⟩ = some y' := by
 have hb : ∀ {i j : Nat}, (⟨b, i, none⟩ : Addr) ≠ ⟨c, j, none⟩ := fun e => hbc (congrArg Addr.block e)
 have hc : ∀ {i j : Nat}, (⟨c, i, none⟩ : Addr) ≠ ⟨b, j, none⟩ := fun e => hbc (congrArg Addr.block e).symm
 obtain ⟨e0, e1⟩ := two_set x y c0 c1
 obtain ⟨e2, e3⟩ := two_set x' y' (w := (w.setCell ⟨b, 0, none⟩ x).setCell ⟨b, 1, none⟩ y) (b := c) (other (other c2 hb) hb) (other (other c3 hb) hb)
 exact ⟨other (other e0 hc) hc, other (other e1 hc) hc, e2, e3⟩
theorem ret_zed2 {w0 w1 w2 : World} {b c : Nat} {v : Value} {z : Int} (hv : ZV (New w1 w2) w2 v z) (h01 : Ext w0 w1) (h12 : Ext w1 w2) (hb0 : w0.heap.size ≤ b) (hb1 : b < w1.heap.size) (hc0 : w0.heap.size ≤ c) (hc1 : c < w1.heap.size) (x y x' y' : Value) :
  ZV (New w0 ((((w2.setCell ⟨b, 0, none⟩ x).setCell ⟨b, 1, none⟩ y).setCell ⟨c, 0, none⟩ x').setCell ⟨c, 1, none⟩ y')) ((((w2.setCell ⟨b, 0, none⟩ x).setCell ⟨b, 1, none⟩ y).setCell ⟨c, 0, none⟩ x').setCell ⟨c, 1, none⟩ y') v z ∧
  Ext w0 ((((w2.setCell ⟨b, 0, none⟩ x).setCell ⟨b, 1, none⟩ y).setCell ⟨c, 0, none⟩ x').setCell ⟨c, 1, none⟩ y') := by
 refine ⟨hv.to ((Kept.set2 (fun h => ?_) _ _).trans (Kept.set2 (fun h => ?_) _ _)) (fun k hk => ⟨Nat.le_trans h01.size hk.1, ?_⟩), ((h01.trans h12).set2 hb0 _ _).set2 hc0 _ _⟩
 ·exact absurd h.1 (by omega)
 ·exact absurd h.1 (by omega)
 ·simpa only [size_setCell] using hk.2
theorem zed_exact {S : Nat → Prop} (vx vy : Value) (x y q : Int) (w : World) (hx : ZV S w vx x) (hy : ZV S w vy y) (hS : ∀ k, S k → k < w.heap.size) (hrx : szZ x) (hry : szZ y) (hq : x = q * y) (h0 : y ≠ 0) :
  Calls Tryz.prog 94 #[vx, vy] w fun e w' => ∃ v1 a c, e = .returned (.tuple #[v1, .agg #[.bool false, .slice a 0 c]]) ∧ ZV (New w w') w' v1 q ∧ Ext w w' := by
 obtain ⟨vdx, rfl, hdx⟩ := hx
 obtain ⟨vdy, rfl, hdy⟩ := hy
 obtain ⟨hsg, hdv, hmd⟩ := quo_sg hq h0
 have HX := hid hdx
 have HY := hid hdy
 obtain ⟨ax, cx, rfl⟩ := hdx.form
 obtain ⟨ay, cy, rfl⟩ := hdy.form
 obtain ⟨bx, hbx⟩ : ∃ b, b = decide (x < 0) := ⟨_, rfl⟩
 obtain ⟨bz, hbz⟩ : ∃ b, b = decide (y < 0) := ⟨_, rfl⟩
 obtain ⟨nx, hnx⟩ : ∃ n, n = (rep 10 x.natAbs).length := ⟨_, rfl⟩
 obtain ⟨ny, hny⟩ : ∃ n, n = (rep 10 y.natAbs).length := ⟨_, rfl⟩
 rw [← hbx, ← hbz] at hsg
 rw [← hbx, ← hbz, ← hnx, ← hny]
 obtain ⟨w0, hw0⟩ : ∃ Y, Y = (((w.alloc (.cells #[.bool bx, .slice ax nx cx] 56)).alloc (.cells #[.bool bz, .slice ay ny cy] 56)).alloc (.cells #[.bool false, .slice none 0 0] 56)).alloc (.cells #[.bool false, .slice none 0 0] 56) := ⟨_, rfl⟩
 have HK : Hid (Ext w w0) := hid (by rw [hw0]; exact (((Ext.alloc (Ext.refl w) _).alloc _).alloc _).alloc _)
 have HB := hid (fun (Y : World) (hY : Ext w0 Y) => by
  rw [hw0] at hY
  have k0 : ∀ (i : Nat) (u : Value), #[Value.bool bx, .slice ax nx cx][i]? = some u → Y.cell? ⟨w.heap.size, i, none⟩ = some u := fun i u hu => hY.cell (cell_old _ (cell_old _ (cell_old _ (cell_new w _ _ rfl hu))))
  have k1 : ∀ (i : Nat) (u : Value), #[Value.bool bz, .slice ay ny cy][i]? = some u → Y.cell? ⟨w.heap.size + 1, i, none⟩ = some u := fun i u hu => hY.cell (cell_old _ (cell_old _ (cell_new _ _ _ (by rw [size_alloc]) hu)))
  have k2 : ∀ (i : Nat) (u : Value), #[Value.bool false, .slice none 0 0][i]? = some u → Y.cell? ⟨w.heap.size + 1 + 1, i, none⟩ = some u := fun i u hu => hY.cell (cell_old _ (cell_new _ _ _ (by rw [size_alloc, size_alloc]) hu))
  have k3 : ∀ (i : Nat) (u : Value), #[Value.bool false, .slice none 0 0][i]? = some u → Y.cell? ⟨w.heap.size + 1 + 1 + 1, i, none⟩ = some u := fun i u hu => hY.cell (cell_new _ _ _ (by rw [size_alloc, size_alloc, size_alloc]) hu)
  have f2 : ∀ (i : Nat), Y.frozen? ⟨w.heap.size + 1 + 1, i, none⟩ = false := fun i => (Ext.trans (Ext.alloc (Ext.refl _) _) hY).free (by simp only [size_alloc]; omega) (by have := free_new ((w.alloc (.cells #[.bool bx, .slice ax nx cx] 56)).alloc (.cells #[.bool bz, .slice ay ny cy] 56)) #[.bool false, .slice none 0 0] 56 (i := i); simpa only [size_alloc] using this)
  have f3 : ∀ (i : Nat), Y.frozen? ⟨w.heap.size + 1 + 1 + 1, i, none⟩ = false := fun i => hY.free (by simp only [size_alloc]; omega) (by have := free_new (((w.alloc (.cells #[.bool bx, .slice ax nx cx] 56)).alloc (.cells #[.bool bz, .slice ay ny cy] 56)).alloc (.cells #[.bool false, .slice none 0 0] 56)) #[.bool false, .slice none 0 0] 56 (i := i); simpa only [size_alloc] using this)
  exact And.intro (And.intro (k0 0 _ rfl) (And.intro (k0 1 _ rfl) (And.intro (k1 0 _ rfl) (k1 1 _ rfl)))) (And.intro (And.intro (k2 0 _ rfl) (And.intro (k2 1 _ rfl) (And.intro (k3 0 _ rfl) (k3 1 _ rfl)))) (And.intro (f2 0) (And.intro (f2 1) (And.intro (f3 0) (f3 1))))))
 have HSZ : Hid (w.heap.size + 1 + 1 + 1 < w0.heap.size) := hid (by rw [hw0]; simp only [size_alloc]; omega)
 have hc := dig_divmod _ _ (rep 10 x.natAbs) y.natAbs w0 (HX.out.ext HK.out hS) (HY.out.ext HK.out hS) (lt_ext hS HK.out) (Nat.le_trans hrx (by decide)) hry (by omega)
 rw [val_rep two_le_10, hdv, hmd, ← hnx, ← hny] at hc
 have HC := hid hc
 have l1 := hdx.len_le
 have l2 := hdy.len_le
 rw [← hnx] at l1
 rw [← hny] at l2
 have HSG := hid hsg
 have HW0 := hid hw0
 clear hdx hdy hbx hbz hnx hny hc hrx hry HX HY hsg hdv hmd hq h0 hw0
 go_enter Tryz.func94, Tryz.ntmps94
 go_upto_region 1 with fail
 rw [← HW0.out]
 obtain ⟨⟨q0, q1, q2, q3⟩, -⟩ := HB.out w0 (Ext.refl _)
 go_wp2_with fail
 refine HC.out.mono ?_
 rintro e w1 ⟨v1, v2, rfl, hd, hd2, hxx⟩
 obtain ⟨⟨p0, p1, p2, p3⟩, ⟨r0, r1, r2, r3⟩, f0, f1, f2, f3⟩ := HB.out w1 hxx
 have HE := hid (And.intro r0 (And.intro r1 (And.intro r2 r3)))
 have HXX := hid hxx
 have HD := hid hd
 obtain ⟨a1, n1, rfl⟩ := hd.form
 obtain ⟨a2, n2, e2⟩ : ∃ a c, v2 = .slice a 0 c := hd2.form
 subst e2
 obtain ⟨nq, hnq⟩ : ∃ n, n = (rep 10 q.natAbs).length := ⟨_, rfl⟩
 have hl := hd.len_le
 rw [← hnq] at hl
 have hlen := rep10_pos q.natAbs
 rw [← hnq] at hlen
 obtain ⟨t, ht⟩ : ∃ t, t = decide (0 < q.natAbs) := ⟨_, rfl⟩
 have hz := zv_mk (b := (bx != bz)) HD.out
 rw [HSG.out, ← ht] at hz
 rw [← hnq] at hz ⊢
 have HZ := hid hz
 have hp : decide (0 < nq) = t := by rw [ht, ← hlen]
 clear hd hd2 hxx q0 q1 q2 q3 hnq hlen ht hz
 cases bx <;> cases bz <;> cases t
 all_goals
  go_wp2
  have hd := fun x y x' y' => four_setZ (w := w1) (b := w.heap.size + 1 + 1) (c := w.heap.size + 1 + 1 + 1) (by omega) HE.out.1 HE.out.2.1 HE.out.2.2.1 HE.out.2.2.2 x y x' y'
  refine bodyPost_ret (by simp [results, Tryz.results94, go_sem, (hd _ _ _ _).1, (hd _ _ _ _).2.1, (hd _ _ _ _).2.2.1, (hd _ _ _ _).2.2.2]; rfl) rfl ?_
  have hg := fun x y x' y' => ret_zed2 (w0 := w) (b := w.heap.size + 1 + 1) (c := w.heap.size + 1 + 1 + 1) HZ.out HK.out HXX.out (by omega) (by have := HSZ.out; omega) (by omega) HSZ.out x y x' y'
  exact ⟨_, _, _, rfl, (hg _ _ _ _).1, (hg _ _ _ _).2⟩
def digVal (w : World) (v : Value) : Nat := match v with
 | .slice (some a) n _ => val 10 ((List.range n).map fun j => (intOf ((w.cell? ⟨a.block, a.off + j, none⟩).getD (.int .i64 0))).toNat)
 | _ => 0
theorem digVal_of {S : Nat → Prop} {w : World} {v : Value} {zs : List Nat} (h : Digs S w v zs) : digVal w v = val 10 zs := by
 obtain ⟨b, off, ⟨a, cap, h1, h2, h3, h4, h5⟩, hc⟩ := h
 subst h1
 cases a with
 | none =>
  have e : zs.length = 0 := by
   rcases Nat.eq_zero_or_pos zs.length with h | h
   ·exact h
   ·have := h4 h; cases this
  rw [List.length_eq_zero_iff.1 e]
  rfl
 | some ad =>
  rcases Nat.eq_zero_or_pos zs.length with h | h
  ·unfold digVal
   rw [h, List.length_eq_zero_iff.1 h]
   rfl
  ·obtain rfl : ad = ⟨b, off, none⟩ := by have := h4 h; simpa using this
   show val 10 ((List.range zs.length).map fun j => (intOf ((w.cell? ⟨b, off + j, none⟩).getD (.int .i64 0))).toNat) = val 10 zs
   congr 1
   refine List.ext_getElem? (fun j => ?_)
   rw [List.getElem?_map]
   cases hz : zs[j]? with
   | none =>
    have : zs.length ≤ j := List.getElem?_eq_none_iff.1 hz
    rw [List.getElem?_eq_none (by simpa using this)]
    rfl
   | some z =>
    rw [List.getElem?_range (lt_of_some hz)]
    show some ((intOf ((w.cell? ⟨b, off + j, none⟩).getD (.int .i64 0))).toNat) = some z
    rw [(hc j z hz).2]
    simp [intOf]
theorem zed_gcd {S : Nat → Prop} (vx vy : Value) (x y : Int) (w : World) (hx : ZV S w vx x) (hy : ZV S w vy y) (hS : ∀ k, S k → k < w.heap.size) (hrx : szZ x) (hry : szZ y) :
  Calls Tryz.prog 119 #[vx, vy] w fun e w' => ∃ v', e = .returned v' ∧ ZV (Plus S w w') w' v' (Nat.gcd x.natAbs y.natAbs : Nat) ∧ Ext w w' := by
 obtain ⟨vdx, rfl, hdx⟩ := hx
 obtain ⟨vdy, rfl, hdy⟩ := hy
 have HX := hid hdx
 have HY := hid hdy
 obtain ⟨ax, cx, rfl⟩ := hdx.form
 obtain ⟨ay, cy, rfl⟩ := hdy.form
 obtain ⟨bx, hbx⟩ : ∃ b, b = decide (x < 0) := ⟨_, rfl⟩
 obtain ⟨bz, hbz⟩ : ∃ b, b = decide (y < 0) := ⟨_, rfl⟩
 obtain ⟨nx, hnx⟩ : ∃ n, n = (rep 10 x.natAbs).length := ⟨_, rfl⟩
 obtain ⟨ny, hny⟩ : ∃ n, n = (rep 10 y.natAbs).length := ⟨_, rfl⟩
 obtain ⟨X, hX⟩ : ∃ X, X = x.natAbs := ⟨_, rfl⟩
 obtain ⟨Y, hY⟩ : ∃ X, X = y.natAbs := ⟨_, rfl⟩
 rw [← hbx, ← hbz, ← hnx, ← hny, ← hX, ← hY]
 rw [← hX] at HX hnx
 rw [← hY] at HY hny
 rw [← hnx] at HX
 rw [← hny] at HY
 obtain ⟨w0, hw0⟩ : ∃ Y, Y = ((w.alloc (.cells #[.bool bx, .slice ax nx cx] 56)).alloc (.cells #[.bool bz, .slice ay ny cy] 56)).alloc (.cells #[.bool false, .slice none 0 0] 56) := ⟨_, rfl⟩
 have HK : Hid (Ext w w0) := hid (by rw [hw0]; exact ((Ext.alloc (Ext.refl w) _).alloc _).alloc _)
 have HB := hid (fun (Y : World) (hY : Ext w0 Y) => by
  rw [hw0] at hY
  exact And.intro (old4 hY) (new3' hY))
 have HSZ : Hid (w.heap.size + 1 + 1 < w0.heap.size) := hid (by rw [hw0]; simp only [size_alloc]; omega)
 have HRX : Hid (∀ A, (A ≤ X ∨ A ≤ Y) → (rep 10 A).length ≤ 2000000) := hid (fun A h => by
  rw [hX, hY] at h
  rcases h with h | h
  ·exact Nat.le_trans (rep10_mono h) hrx
  ·exact Nat.le_trans (rep10_mono h) hry)
 have HW0 := hid hw0
 clear hdx hdy hbx hbz hnx hny hrx hry hX hY hw0
 go_enter Tryz.func119, Tryz.ntmps119
 go_upto_region 1 with fail
 rw [← HW0.out]
 obtain ⟨⟨q0, q1, q2, q3⟩, -⟩ := HB.out w0 (Ext.refl _)
 go_wp2
 go_quiet (fail)
 go_wp2
 go_loopw [5, 6] (fun u5 u6 wr => ∃ A B : Nat, Hid (Digs (Plus S w0 wr) wr u5 (rep 10 A)) ∧ Hid (Digs (Plus S w0 wr) wr u6 (rep 10 B)) ∧ Hid (Nat.gcd A B = Nat.gcd X Y) ∧ Hid ((A ≤ X ∨ A ≤ Y) ∧ (B ≤ X ∨ B ≤ Y)) ∧ Hid (Ext w0 wr)) (fun _ u6 wr => digVal wr u6)
 case atStart => exact ⟨X, Y, hid (HX.out.to (Kept.ext (HK.out.drewN nq) hS) (fun _ h => .inl h)), hid (HY.out.to (Kept.ext (HK.out.drewN nq) hS) (fun _ h => .inl h)), hid rfl, hid ⟨.inl (Nat.le_refl _), .inr (Nat.le_refl _)⟩, hid ((Ext.refl w0).drewN nq)⟩
 case round =>
  obtain ⟨A, B, HA, HBB, HGC, HLE, HX0⟩ := hrel
  have HPL := hid (plus_lt (lt_ext hS HK.out) HX0.out)
  obtain ⟨aA, cA, rfl⟩ := HA.out.form
  obtain ⟨aB, cB, rfl⟩ := HBB.out.form
  have hrA := HRX.out A HLE.out.1
  have hrB := HRX.out B HLE.out.2
  obtain ⟨nA', hnA⟩ : ∃ n, n = (rep 10 A).length := ⟨_, rfl⟩
  obtain ⟨nB', hnB⟩ : ∃ n, n = (rep 10 B).length := ⟨_, rfl⟩
  have hlen := rep10_pos B
  rw [← hnB] at hlen HBB
  rw [← hnA] at HA
  rw [← hnB]
  rw [← hnA]
  by_cases h0 : 0 < B
  ·have hp : 0 < nB' := by simpa [h0] using hlen
   have CD := dig_divmod _ _ (rep 10 A) B wr HA.out HBB.out HPL.out (by omega) hrB h0
   rw [val_rep two_le_10] at CD
   have CD := hid CD
   have HHB := hid (digVal_of HBB.out)
   rw [val_rep two_le_10] at HHB
   have H0 := hid h0
   clear hlen hnA hnB hrA hrB h0
   go_wp2_with fail
   refine CD.out.mono ?_
   rintro e w1 ⟨v1, v2, rfl, hd1, hd2, hx1⟩
   have HX1 := hid hx1
   have HD2 := hid hd2
   obtain ⟨a1, c1, rfl⟩ := hd1.form
   obtain ⟨a2, c2, rfl⟩ := hd2.form
   obtain ⟨n2, hn2⟩ : ∃ n, n = (rep 10 (A % B)).length := ⟨_, rfl⟩
   rw [← hn2] at HD2 ⊢
   clear hd1 hd2 hx1 hn2
   go_wp2
   go_roundw
   case rel =>
    have hlt := Nat.mod_lt A H0.out
    refine ⟨B, A % B, hid (HBB.out.to (Kept.ext HX1.out HPL.out) (plus_grow HX1.out.size)), hid (HD2.out.to (Kept.refl _ _) (fun k hk => .inr ⟨Nat.le_trans HX0.out.size hk.1, hk.2⟩)), hid ?_, hid ⟨HLE.out.2, ?_⟩, hid (HX0.out.trans HX1.out)⟩
    ·rw [← HGC.out, Nat.gcd_comm A B, Nat.gcd_rec B A, Nat.gcd_comm]
    ·rcases HLE.out.2 with h | h
     ·exact .inl (by omega)
     ·exact .inr (by omega)
   case measure =>
    rw [HHB.out, digVal_of HD2.out, val_rep two_le_10]
    exact Nat.mod_lt A H0.out
  ·obtain rfl : B = 0 := by omega
   have hp : nB' = 0 := hnB
   subst hp
   have hg : A = Nat.gcd X Y := by rw [← HGC.out, Nat.gcd_zero_right]
   obtain ⟨⟨-, -, -, -⟩, r0, r1, f0, f1⟩ := HB.out wr HX0.out
   have HE := hid (And.intro r0 r1)
   have HGV := hid hg
   clear hlen hnA hnB hrA hrB h0 hg
   go_wp2
   have hd := fun x y => two_set x y HE.out.1 HE.out.2
   refine bodyPost_ret (by simp [results, Tryz.results119, go_sem, (hd _ _).1, (hd _ _).2]; rfl) rfl ?_
   refine ⟨_, rfl, ⟨_, by rw [decide_eq_false (by omega)], ?_⟩, (HK.out.trans HX0.out).set2 (by omega) _ _⟩
   rw [Int.natAbs_natCast, ← HGV.out]
   refine HA.out.to (Kept.set2 (fun h => ?_) _ _) (fun k hk => ?_)
   ·rcases h with h | h
    ·exact absurd (hS _ h) (by omega)
    ·exact absurd h.1 (by have := HSZ.out; omega)
   ·rcases hk with h | h
    ·exact .inl h
    ·exact .inr ⟨Nat.le_trans HK.out.size h.1, by simpa only [size_setCell] using h.2⟩
end
section
open Go.RowKit
def contF (p : PZ) : Nat := p.foldl (fun g t => Nat.gcd g t.1.natAbs) 0
theorem contF_at {p : PZ} {k : Nat} {t : Int × Mono} (h : p[k]? = some t) : contF (p.take (k + 1)) = Nat.gcd (contF (p.take k)) t.1.natAbs := by
 rw [List.take_add_one, h]
 unfold contF
 rw [List.foldl_append]
 rfl
theorem gcd_sz {a b : Nat} (h : (rep 10 a).length ≤ 2000000) (h2 : (rep 10 b).length ≤ 2000000) : (rep 10 (Nat.gcd a b)).length ≤ 2000000 := by
 rcases Nat.eq_zero_or_pos a with rfl | h0
 ·rw [Nat.gcd_zero_left]; exact h2
 ·exact Nat.le_trans (rep10_mono (Nat.gcd_le_left b h0)) h
theorem zed_gcd' {S : Nat → Prop} (vx vy : Value) (x y : Int) (g : Nat) (hg : g = Nat.gcd x.natAbs y.natAbs) (w : World) (hx : ZV S w vx x) (hy : ZV S w vy y) (hS : ∀ k, S k → k < w.heap.size) (hrx : szZ x) (hry : szZ y) :
  Calls Tryz.prog 119 #[vx, vy] w fun e w' => ∃ a c, e = .returned (.agg #[.bool false, .slice a (rep 10 g).length c]) ∧ Digs (Plus S w w') w' (.slice a (rep 10 g).length c) (rep 10 g) ∧ Ext w w' :=
 (zed_gcd vx vy x y w hx hy hS hrx hry).mono (by
  rintro e w' ⟨v', rfl, ⟨vd, rfl, hd⟩, hx⟩
  rw [← hg] at hd ⊢
  rw [Int.natAbs_natCast] at hd
  obtain ⟨a, c, rfl⟩ := hd.form
  exact ⟨a, c, by rw [decide_eq_false (by omega)], hd, hx⟩)
abbrev Past (S : Nat → Prop) (b : Nat) (W : World) : Nat → Prop := fun k => S k ∨ (b < k ∧ k < W.heap.size)
theorem rpoly_content {S : Nat → Prop} (v : Value) (p : PZ) (w : World) (h : RTs S w v p) (hS : ∀ k, S k → k < w.heap.size) (hsz : szP p) :
  Calls Tryz.prog 92 #[v] w fun e w' => ∃ v', e = .returned v' ∧ ZV (Plus S w w') w' v' (contF p : Nat) ∧ Ext w w' := by
 have hl := h.len_le
 have H := hid h
 have HSZ := hid hsz
 obtain ⟨a, cap, rfl⟩ := h.form
 obtain ⟨np, hnp⟩ : ∃ n, n = p.length := ⟨_, rfl⟩
 rw [← hnp] at H hl ⊢
 have HNP := hid hnp
 obtain ⟨w0, hw0⟩ : ∃ Y, Y = w.alloc (.cells #[.bool false, .slice none 0 0] 56) := ⟨_, rfl⟩
 have HK : Hid (Ext w w0) := hid (by rw [hw0]; exact Ext.alloc (Ext.refl w) _)
 have HB := hid (fun (Y : World) (hY : Ext w0 Y) => by
  rw [hw0] at hY
  exact new2 hY)
 have HSZ0 : Hid (w.heap.size < w0.heap.size) := hid (by rw [hw0]; simp only [size_alloc]; omega)
 have C0 := hid (zed_small 0 w0 (by decide))
 have HW0 := hid hw0
 clear h hsz hnp hw0
 go_enter Tryz.func92, Tryz.ntmps92
 go_upto_region 1 with fail
 rw [← HW0.out]
 go_wp2_with fail
 refine C0.out.mono ?_
 rintro e w1 ⟨v1, rfl, hz1, hx1⟩
 obtain ⟨vd1, e1, hd1⟩ := hz1
 obtain ⟨a1, c1, e2⟩ : ∃ a c, vd1 = .slice a 0 c := hd1.form
 subst e1 e2
 rw [show decide (((0 : Nat) : Int) < 0) = false from rfl]
 obtain ⟨w2, hw2⟩ : ∃ Y, Y = w1.alloc (.cells #[.bool false, .slice a1 0 c1] 56) := ⟨_, rfl⟩
 obtain ⟨b3, hb3⟩ : ∃ b, b = w1.heap.size := ⟨_, rfl⟩
 have HB3 := hid hb3
 have HC2 : Hid (w2.cell? ⟨b3, 0, none⟩ = some (.bool false) ∧ w2.cell? ⟨b3, 1, none⟩ = some (.slice a1 0 c1) ∧ w2.frozen? ⟨b3, 0, none⟩ = false ∧ w2.frozen? ⟨b3, 1, none⟩ = false) := hid (by
  rw [hw2, hb3]
  exact ⟨cell_new _ _ _ rfl rfl, cell_new _ _ _ rfl rfl, free_new _ _ _, free_new _ _ _⟩)
 have HX1 := hid hx1
 have HX2 : Hid (Ext w1 w2) := hid (by rw [hw2]; exact Ext.alloc (Ext.refl _) _)
 have HL2 := hid hd1.len_le
 have HC1 : Hid (c1 ≤ 9223372036854775807) := hid (by
  obtain ⟨b, off, ⟨a', cap', h1, h2, h3, h4, h5⟩, hc⟩ := hd1
  obtain ⟨rfl, -, rfl⟩ : a1 = a' ∧ _ ∧ c1 = cap' := by simpa using h1
  exact h3)
 clear hd1 hx1
 go_upto_region 2 with fail
 rw [← hb3]
 rw [← hw2]
 clear hb3 hw2
 go_wp2
 go_loopw [4] (fun i wr => ∃ (k : Nat) (vd : Value), k ≤ np ∧ i = .int .i64 (k : Nat) ∧ Hid (wr.cell? ⟨b3, 0, none⟩ = some (.bool false) ∧ wr.cell? ⟨b3, 1, none⟩ = some vd ∧ wr.frozen? ⟨b3, 0, none⟩ = false ∧ wr.frozen? ⟨b3, 1, none⟩ = false) ∧ Hid (Digs (Past S b3 wr) wr vd (rep 10 (contF (p.take k)))) ∧ Hid ((rep 10 (contF (p.take k))).length ≤ 2000000) ∧ Hid (Ext w1 wr)) (fun i _ => np - (intOf i).toNat)
 case atStart => exact ⟨0, _, Nat.zero_le _, rfl, HC2, hid (Digs.nilv _ _ _ _ HC1.out), hid (Nat.zero_le _), HX2⟩
 case round =>
  obtain ⟨k, vd, hk, rfl, HC, HD, HR, HX⟩ := hrel
  have HXW := hid (HK.out.trans (HX1.out.trans HX.out))
  have HPL : Hid (∀ j, Past S b3 wr j → j < wr.heap.size) := hid (fun j h => h.elim (fun h => Nat.lt_of_lt_of_le (hS j h) HXW.out.size) (fun h => h.2))
  obtain ⟨av, cv, rfl⟩ := HD.out.form
  obtain ⟨G, hG⟩ : ∃ G, G = contF (p.take k) := ⟨_, rfl⟩
  rw [← hG] at HD HR HC
  obtain ⟨ng, hng⟩ : ∃ n, n = (rep 10 G).length := ⟨_, rfl⟩
  rw [← hng] at HD HC
  have HGG := hid hG
  by_cases hlt : k < np
  ·obtain ⟨t, ht⟩ := some_of_lt (l := p) (j := k) (by rw [← HNP.out]; exact hlt)
   obtain ⟨b, off, vd, vo, rfl, -, hn1, hm1, hSb, h1, h2, h3, h4, h5⟩ := H.out.cellAt ht
   have HGA := hid (contF_at ht)
   have HST := hid (HSZ.out.2 t (List.mem_of_getElem? ht))
   obtain ⟨ad, cd, rfl⟩ := h4.form
   obtain ⟨bt, hbt⟩ : ∃ b, b = decide (t.1 < 0) := ⟨_, rfl⟩
   obtain ⟨nt, hnt⟩ : ∃ n, n = (rep 10 t.1.natAbs).length := ⟨_, rfl⟩
   rw [← hbt] at h1
   rw [← hnt] at h2 h4
   have H4 := hid h4
   obtain ⟨g, hg⟩ : ∃ g, g = Nat.gcd ((G : Nat) : Int).natAbs t.1.natAbs := ⟨_, rfl⟩
   have HGN : Hid (contF (p.take (k + 1)) = g) := hid (by rw [HGA.out, hg, Int.natAbs_natCast, ← HGG.out])
   have HGR : Hid ((rep 10 g).length ≤ 2000000) := hid (by rw [hg, Int.natAbs_natCast]; exact gcd_sz HR.out HST.out)
   have C1 := fun (W : World) (hW : Ext wr W) => zed_gcd' (S := Past S b3 W) (.agg #[.bool false, .slice av ng cv]) (.agg #[.bool bt, .slice ad nt cd]) (G : Nat) t.1 g hg W ⟨_, by rw [decide_eq_false (by omega)], by rw [Int.natAbs_natCast]; exact HD.out.to (Kept.ext hW HPL.out) (fun j h => h.elim .inl (fun h => .inr ⟨h.1, Nat.lt_of_lt_of_le h.2 hW.size⟩))⟩ ⟨_, by rw [hbt], H4.out.to (Kept.ext (HXW.out.trans hW) hS) (fun j h => .inl h)⟩ (fun j h => h.elim (fun h => Nat.lt_of_lt_of_le (hS j h) (HXW.out.trans hW).size) (fun h => h.2)) (by unfold szZ; rw [Int.natAbs_natCast]; exact HR.out) HST.out
   obtain ⟨n5, hn5⟩ : ∃ n, n = (rep 10 g).length := ⟨_, rfl⟩
   rw [← hn5] at C1
   have C1 := hid C1
   have x0 : Ext wr wr.drew := (Ext.refl wr).drew
   have HX0 := hid x0
   have S0 : _ ∧ _ := And.intro ((HXW.out.trans x0).cell h1) ((HXW.out.trans x0).cell h2)
   have k0 := x0.cell HC.out.1
   have k1 := x0.cell HC.out.2.1
   have hne : b3 ≠ b := by
    have g1 := hS b hSb
    have g2 := HB3.out
    have g3 := (HK.out.trans HX1.out).size
    omega
   have HNE := hid hne
   have HCB := hid (And.intro h1 h2)
   clear ht h1 h2 h3 h4 h5 hbt hnt x0 hG hng hSb hg hn5 hne
   go_wp2
   obtain ⟨k2, k3⟩ := S0
   go_region_with (first
     | (go_at_call 119; (with_reducible refine (C1.out _ HX0.out).mono ?_); rintro e w5 ⟨a5, c5, rfl, hd5, hx5⟩; have HX5 := hid (HX0.out.trans hx5); have z0 := HX5.out.cell HC.out.1; have z1 := HX5.out.cell HC.out.2.1; have zf0 := HX5.out.free (lt_of_cell HC.out.1) HC.out.2.2.1; have zf1 := HX5.out.free (lt_of_cell HC.out.1) HC.out.2.2.2; have HD5 := hid hd5; have HZ5 := hid (And.intro z0 z1); have HF5 := hid (And.intro zf0 zf1); clear hd5 hx5)
     | fail)
   all_goals
    go_wp2
    go_roundw
    case rel =>
     have hlb := lt_of_cell HC.out.1
     refine ⟨k + 1, _, by omega, by go_num, hid ⟨other (same_of HZ5.out.1) (ao (by decide)), same_of (other HZ5.out.2 (ao (by decide))), ?_, ?_⟩, hid ?_, hid ?_, hid ((HX.out.trans HX5.out).set2 (by rw [HB3.out]; exact Nat.le_refl _) _ _)⟩
     ·simp only [World.frozen?_setCell]; exact HF5.out.1
     ·simp only [World.frozen?_setCell]; exact HF5.out.2
     ·rw [HGN.out]
      refine HD5.out.to (Kept.set2 (fun h => ?_) _ _) (fun j h => ?_)
      ·rcases h with h | h
       ·rcases h with h | h
        ·exact absurd (hS _ h) (by have := HB3.out; have := (HK.out.trans HX1.out).size; omega)
        ·exact absurd h.1 (Nat.lt_irrefl _)
       ·exact absurd h.1 (by have := HX0.out.size; omega)
      ·rcases h with h | h
       ·rcases h with h | h
        ·exact .inl h
        ·exact .inr ⟨h.1, by have g1 := HX5.out.size; have g2 : j < wr.heap.size := h.2; simp only [size_setCell]; omega⟩
       ·exact .inr ⟨by have := h.1; have := HX0.out.size; omega, by simpa only [size_setCell] using h.2⟩
     ·rw [HGN.out]; exact HGR.out
    case measure => simp only [intOf]; omega
  ·obtain rfl : k = np := by omega
   obtain ⟨y0, y1, yf0, yf1⟩ := HB.out wr (HX1.out.trans HX.out)
   have HY := hid (And.intro y0 y1)
   obtain ⟨x0, x1, -, -⟩ := HC.out
   have HGE : Hid (G = contF p) := hid (by rw [HGG.out, HNP.out, List.take_length])
   clear hG hng
   go_wp2
   all_goals
    have hd := fun x y => two_set x y HY.out.1 HY.out.2
    refine bodyPost_ret (by simp [results, Tryz.results92, go_sem, (hd _ _).1, (hd _ _).2]; rfl) rfl ?_
    refine ⟨_, rfl, ⟨_, by rw [decide_eq_false (by omega)], ?_⟩, HXW.out.set2 (Nat.le_refl _) _ _⟩
    rw [Int.natAbs_natCast, ← HGE.out]
    refine HD.out.to (Kept.set2 (fun h => ?_) _ _) (fun j h => ?_)
    ·rcases h with h | h
     ·exact absurd (hS _ h) (Nat.lt_irrefl _)
     ·exact absurd h.1 (by have := HB3.out; have := HX1.out.size; have := HSZ0.out; omega)
    ·rcases h with h | h
     ·exact .inl h
     ·exact .inr ⟨by have := h.1; have := HB3.out; have := (HK.out.trans HX1.out).size; omega, by simpa only [size_setCell] using h.2⟩
end
section
open Go.RowKit
def sgF (p : PZ) : Int := match p with
 | [] => 0
 | t :: _ => if t.1 < 0 then -(contF p : Int) else (contF p : Int)
def wholeF (p : PZ) : PZ := p.map fun t => (t.1 / sgF p, t.2)
theorem contF_foldl (p : PZ) : ∀ g : Nat, p.foldl (fun g t => Nat.gcd g t.1.natAbs) g ∣ g ∧ ∀ t ∈ p, p.foldl (fun g t => Nat.gcd g t.1.natAbs) g ∣ t.1.natAbs := by
 induction p with
 | nil => intro g; exact ⟨Nat.dvd_refl _, fun t h => by cases h⟩
 | cons u r ih =>
  intro g
  obtain ⟨h1, h2⟩ := ih (Nat.gcd g u.1.natAbs)
  refine ⟨Nat.dvd_trans h1 (Nat.gcd_dvd_left _ _), fun t ht => ?_⟩
  rcases List.mem_cons.1 ht with rfl | h
  ·exact Nat.dvd_trans h1 (Nat.gcd_dvd_right _ _)
  ·exact h2 t h
theorem sgF_abs {p : PZ} (h : p ≠ []) : (sgF p).natAbs = contF p := by
 cases p with
 | nil => exact absurd rfl h
 | cons t r =>
  unfold sgF
  simp only
  split <;> simp
theorem sgF_dvd {p : PZ} {t : Int × Mono} (h : t ∈ p) : sgF p ∣ t.1 := by
 refine Int.natAbs_dvd_natAbs.1 ?_
 rw [sgF_abs (fun e => by rw [e] at h; cases h)]
 exact (contF_foldl p 0).2 t h
theorem sgF_ne {p : PZ} (h0 : p ≠ []) (h : ∀ t ∈ p, t.1 ≠ 0) : sgF p ≠ 0 := by
 cases p with
 | nil => exact absurd rfl h0
 | cons t r =>
  intro e
  have h1 := sgF_dvd (p := t :: r) (List.mem_cons_self ..)
  rw [e] at h1
  exact h t (List.mem_cons_self ..) (Int.zero_dvd.1 h1)
theorem wholeF_at {p : PZ} {k : Nat} {t : Int × Mono} (h : p[k]? = some t) : (wholeF p).take (k + 1) = (wholeF p).take k ++ [(t.1 / sgF p, t.2)] := by
 have h1 : (wholeF p)[k]? = some (t.1 / sgF p, t.2) := by
  unfold wholeF
  rw [List.getElem?_map, h]
  rfl
 rw [List.take_add_one, h1]
 rfl
abbrev SOff (S : Nat → Prop) (w w1 : World) (o : Value) : Nat → Prop := fun k => S k ∨ NewOff w w1 o k
theorem sOff_ext {S : Nat → Prop} {w w1 w2 : World} {o : Value} {xs : List Value} {l : PZ} (h : Cells3 (SOff S w w1 o) w1 xs l) (hS : ∀ k, S k → k < w1.heap.size) (hx : Ext w1 w2) : Cells3 (SOff S w w2 o) w2 xs l :=
 h.to (Kept.ext hx (fun k h => h.elim (hS k) (fun h => h.1.2))) (fun _ h => h.elim .inl (fun h => .inr ⟨⟨h.1.1, Nat.lt_of_lt_of_le h.1.2 hx.size⟩, h.2⟩))
theorem sOff_grown {S : Nat → Prop} {w w2 w3 : World} {o v3 : Value} {xs : List Value} {l : PZ} {B : Nat} (h : Cells3 (SOff S w w2 o) w2 xs l) (hS : ∀ k, S k → k < w2.heap.size ∧ some k ≠ o.ownBlock) (hg : w2.grownBy w3 o.ownBlock) (hb : v3.ownBlock = o.ownBlock ∨ v3.ownBlock = some B) (hB : w2.heap.size ≤ B) : Cells3 (SOff S w w3 v3) w3 xs l :=
 h.to (Kept.grown hg (fun k h => h.elim (hS k) (fun h => ⟨h.1.2, h.2⟩))) (fun k hk => hk.elim .inl (fun hk => .inr ⟨⟨hk.1.1, Nat.lt_of_lt_of_le hk.1.2 hg.size⟩, by
  rcases hb with e | e
  ·rw [e]; exact hk.2
  ·rw [e]
   intro e2
   have e3 : k = B := Option.some.inj e2
   have := hk.1.2
   omega⟩))
theorem box_a {wr W : World} {u v : Value} {T : TypeId} (h : Ext ((wr.alloc (.cells #[u, v] T)).drew) W) : W.cell? ⟨wr.heap.size, 0, none⟩ = some u ∧ W.cell? ⟨wr.heap.size, 1, none⟩ = some v ∧ W.frozen? ⟨wr.heap.size, 0, none⟩ = false ∧ W.frozen? ⟨wr.heap.size, 1, none⟩ = false := new2 ((Ext.drew (Ext.refl _)).trans h)
theorem box_b {wr W : World} {u v u' v' : Value} {T T' : TypeId} (h : Ext (((wr.alloc (.cells #[u, v] T)).alloc (.cells #[u', v'] T')).drew) W) : W.cell? ⟨wr.heap.size, 0, none⟩ = some u ∧ W.cell? ⟨wr.heap.size, 1, none⟩ = some v ∧ W.frozen? ⟨wr.heap.size, 0, none⟩ = false ∧ W.frozen? ⟨wr.heap.size, 1, none⟩ = false ∧ W.cell? ⟨wr.heap.size + 1, 0, none⟩ = some u' ∧ W.cell? ⟨wr.heap.size + 1, 1, none⟩ = some v' ∧ W.frozen? ⟨wr.heap.size + 1, 0, none⟩ = false ∧ W.frozen? ⟨wr.heap.size + 1, 1, none⟩ = false := by
 have h := (Ext.drew (Ext.refl _)).trans h
 obtain ⟨a0, a1, a2, a3⟩ := new2 ((Ext.alloc (Ext.refl _) (.cells #[u', v'] T')).trans h)
 have b := new2 h
 rw [size_alloc] at b
 obtain ⟨b0, b1, b2, b3⟩ := b
 exact ⟨a0, a1, a2, a3, b0, b1, b2, b3⟩
theorem contF_szg : ∀ {p : PZ} (_ : ∀ t ∈ p, szZ t.1) {g : Nat} (_ : (rep 10 g).length ≤ 2000000), (rep 10 (p.foldl (fun g t => Nat.gcd g t.1.natAbs) g)).length ≤ 2000000
 | [], _, _, hg => hg
 | t :: r, h, g, hg => contF_szg (p := r) (fun u hu => h u (List.mem_cons_of_mem _ hu)) (gcd_sz hg (h t (List.mem_cons_self ..)))
theorem contF_sz {p : PZ} (h : szP p) : (rep 10 (contF p)).length ≤ 2000000 := contF_szg h.2 (Nat.zero_le _)
end
end Go.Proofs.YtbfflodidkfphaaGreat
