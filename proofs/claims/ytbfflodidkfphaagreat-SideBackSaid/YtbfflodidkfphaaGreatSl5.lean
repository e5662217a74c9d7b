/- Are two polynomials the same data? The contracts of sync/atomic's Int64 and Bool, of sync.Mutex and of sync.Once, for one goroutine: what each call does to memory. Conditions: the lock is free. The contracts of the meter's first refusal: sync.Once's Do around the closure that keeps what would be needed. Conditions: the Once's lock is free. The meter: what each of its methods does to its block, and to nothing else. How many limbs the longest coefficient has: the program's and the document's answer. The meter's methods: each answers an error's number, or a count, and changes its own block alone. The meter's Keep and New, and its methods on a meter that is not there. The document's meter: its methods over its block of eight numbers. A meter that is not there: each of its methods answers that nothing is bound. Long division, plainly: a limb of the quotient by a guess, one step of the division, all steps. Long division of limbs: the guess of a limb. Long division of limbs: a multiple taken off, and given back. Limbs shifted by less than a limb: to the left. Limbs shifted by less than a limb: to the right. A number by a limb. The bits of a number, exactly. One limb of a quotient, plainly and of rows. Quotient and rest of two numbers: the easy cases. Quotient and rest of two numbers: Knuth's way. Quotient and rest of two numbers. Exact quotients; the greatest common divisor. -/
import Derived.Test.YtbfflodidkfphaaGreatProg
import Derived.Tactics
import Derived.Tactics2
import Derived.Defers
import Derived.Laws.Pointers
import Derived.Laws.LoneSync
import Derived.RegionTactic
import Derived.RegionCalls
import Derived.ChangeAlike
import Derived.Laws.NewBlocks
import Derived.WalkKit
import Derived.BigQuiet
import Derived.Deep.QuietTactic
import Derived.StillTailTactics
import Derived.Laws.BitsLemmas
import Derived.WalkMore
import Derived.ArgAppend
import Derived.Deep.LoopGhost
import Derived.Test.YtbfflodidkfphaaGreatSl4
set_option maxRecDepth 100000
set_option maxHeartbeats 16000000
namespace Go.Proofs.YtbfflodidkfphaaGreat
section
open Go.RowKit
theorem equal_u32 {S : Nat → Prop} (va vb : Value) (xs ys : List Nat) (w : World) (ha : U32s S w va xs) (hb : U32s S w vb ys) (hS : ∀ k, S k → k < w.heap.size) :
  Calls Tryz.prog 98 #[va, vb] w fun e w' => e = .returned (.bool (decide (xs = ys))) ∧ Ext w w' := by
 have HA := hid ha
 have HB := hid hb
 have hla := ha.len_le
 have hlb := hb.len_le
 obtain ⟨aa, ca, rfl⟩ := ha.form
 obtain ⟨ab, cb, rfl⟩ := hb.form
 obtain ⟨na, hna⟩ : ∃ n, n = xs.length := ⟨_, rfl⟩
 obtain ⟨nb, hnb⟩ : ∃ n, n = ys.length := ⟨_, rfl⟩
 rw [← hna] at HA hla ⊢
 rw [← hnb] at HB hlb ⊢
 have HNA := hid hna
 have HNB := hid hnb
 clear ha hb hna hnb
 by_cases hne : na = nb
 ·subst hne
  go_enter Tryz.func98, Tryz.ntmps98
  go_wp2
  go_loopw [5, 13] (fun _ i wr => ∃ k : Nat, k ≤ na ∧ i = .int .i64 k ∧ Ext w wr ∧ Hid (xs.take k = ys.take k)) (fun _ i _ => na - (intOf i).toNat)
  case atStart => exact ⟨0, Nat.zero_le _, rfl, Ext.refl _, rfl⟩
  case round =>
   obtain ⟨k, hk, rfl, hx, HE⟩ := hrel
   have HX := hid hx
   by_cases hlt : k < na
   ·obtain ⟨x, hxk⟩ := some_of_lt (l := xs) (j := k) (by rw [← HNA.out]; exact hlt)
    obtain ⟨y, hyk⟩ := some_of_lt (l := ys) (j := k) (by rw [← HNB.out]; exact hlt)
    obtain ⟨b1, o1, rfl, -, hc1, hm1, hz1, h1⟩ := (HA.out.ext hx hS).cellAt hxk
    obtain ⟨b2, o2, rfl, -, hc2, hm2, hz2, h2⟩ := (HB.out.ext hx hS).cellAt hyk
    have HXK := hid hxk
    have HYK := hid hyk
    clear hxk hyk hx
    by_cases he : x = y
    ·have q1 : ((x : Int) != (y : Int)) = false := by rw [he]; simp
     have H0 := hid he
     clear he
     go_wp2
     go_quiet (fail)
     go_wp2
     go_roundw
     case rel => exact ⟨k + 1, by omega, by go_num, HX.out.drewN _, take_eq_succ HE.out HXK.out (by rw [H0.out]; exact HYK.out)⟩
     case measure => simp only [intOf]; omega
    ·have q1 : ((x : Int) != (y : Int)) = true := by rw [bne_iff_ne]; omega
     have HF : Hid (xs ≠ ys) := hid (ne_of_at HXK.out HYK.out he)
     clear he
     go_wp2
     go_quiet (fail)
     go_wp2
     go_ret
     exact ⟨by rw [decide_eq_false HF.out]; rfl, HX.out.drewN _⟩
   ·obtain rfl : k = na := by omega
    have HF : Hid (xs = ys) := hid (by have := HE.out; rwa [List.take_of_length_le (by rw [← HNA.out]; exact Nat.le_refl _), List.take_of_length_le (by rw [← HNB.out]; exact Nat.le_refl _)] at this)
    clear hx
    go_wp2
    go_ret
    exact ⟨by rw [decide_eq_true HF.out]; rfl, HX.out⟩
 ·have hb : ((na : Int) != (nb : Int)) = true := by rw [bne_iff_ne]; omega
  have HF : Hid (xs ≠ ys) := hid (fun e => hne (by rw [HNA.out, HNB.out, e]))
  clear hne
  go_enter Tryz.func98, Tryz.ntmps98
  go_wp2
  go_ret
  exact ⟨by rw [decide_eq_false HF.out]; rfl, Ext.refl _⟩
theorem equal_mono {S : Nat → Prop} (va vb : Value) (xs ys : Mono) (w : World) (ha : Pows S w va xs) (hb : Pows S w vb ys) (hS : ∀ k, S k → k < w.heap.size) :
  Calls Tryz.prog 99 #[va, vb] w fun e w' => e = .returned (.bool (decide (xs = ys))) ∧ Ext w w' := by
 have HA := hid ha
 have HB := hid hb
 have hla := ha.len_le
 have hlb := hb.len_le
 obtain ⟨aa, ca, rfl⟩ := ha.form
 obtain ⟨ab, cb, rfl⟩ := hb.form
 obtain ⟨na, hna⟩ : ∃ n, n = xs.length := ⟨_, rfl⟩
 obtain ⟨nb, hnb⟩ : ∃ n, n = ys.length := ⟨_, rfl⟩
 rw [← hna] at HA hla ⊢
 rw [← hnb] at HB hlb ⊢
 have HNA := hid hna
 have HNB := hid hnb
 clear ha hb hna hnb
 by_cases hne : na = nb
 ·subst hne
  go_enter Tryz.func99, Tryz.ntmps99
  go_wp2
  go_loopw [5, 13] (fun _ i wr => ∃ k : Nat, k ≤ na ∧ i = .int .i64 k ∧ Ext w wr ∧ Hid (xs.take k = ys.take k)) (fun _ i _ => na - (intOf i).toNat)
  case atStart => exact ⟨0, Nat.zero_le _, rfl, Ext.refl _, rfl⟩
  case round =>
   obtain ⟨k, hk, rfl, hx, HE⟩ := hrel
   have HX := hid hx
   by_cases hlt : k < na
   ·obtain ⟨x, hxk⟩ := some_of_lt (l := xs) (j := k) (by rw [← HNA.out]; exact hlt)
    obtain ⟨y, hyk⟩ := some_of_lt (l := ys) (j := k) (by rw [← HNB.out]; exact hlt)
    obtain ⟨b1, o1, c1', hv1, hc1, hm1, ⟨⟨hz1, hz2⟩, hz3, hz4⟩, h1, h1'⟩ := (HA.out.ext hx hS).at hxk
    obtain ⟨rfl, -, rfl⟩ : aa = some ⟨b1, o1, none⟩ ∧ na = xs.length ∧ ca = c1' := by simpa using hv1
    obtain ⟨b2, o2, c2', hv2, hc2, hm2, ⟨⟨hy1, hy2⟩, hy3, hy4⟩, h2, h2'⟩ := (HB.out.ext hx hS).at hyk
    obtain ⟨rfl, -, rfl⟩ : ab = some ⟨b2, o2, none⟩ ∧ na = ys.length ∧ cb = c2' := by simpa using hv2
    clear hv1 hv2
    rw [← HNA.out] at hc1
    rw [← HNB.out] at hc2
    have HXK := hid hxk
    have HYK := hid hyk
    clear hxk hyk hx
    by_cases he : x = y
    ·have H0 := hid he
     obtain ⟨x1, x2⟩ := x
     obtain ⟨y1, y2⟩ := y
     obtain ⟨rfl, rfl⟩ : x1 = y1 ∧ x2 = y2 := by simpa using he
     simp only at h1 h1' h2 h2' hz1 hz2 hz3 hz4 hy1 hy2 hy3 hy4
     clear he
     go_wp2
     go_quiet (fail)
     go_wp2
     go_roundw
     case rel => exact ⟨k + 1, by omega, by go_num, HX.out.drewN _, take_eq_succ HE.out HXK.out HYK.out⟩
     case measure => simp only [intOf]; omega
    ·have HF : Hid (xs ≠ ys) := hid (ne_of_at HXK.out HYK.out he)
     obtain ⟨x1, x2⟩ := x
     obtain ⟨y1, y2⟩ := y
     simp only at h1 h1' h2 h2' hz1 hz2 hz3 hz4 hy1 hy2 hy3 hy4
     have he' : x1 ≠ y1 ∨ (x1 = y1 ∧ x2 ≠ y2) := by
      by_cases h : x1 = y1
      ·exact .inr ⟨h, fun h' => he (by rw [h, h'])⟩
      ·exact .inl h
     clear he
     rcases he' with he | ⟨rfl, he⟩
     all_goals
      go_wp2
      go_quiet (fail)
      go_wp2
      go_ret
      exact ⟨by rw [decide_eq_false HF.out]; rfl, HX.out.drewN _⟩
   ·obtain rfl : k = na := by omega
    have HF : Hid (xs = ys) := hid (by have := HE.out; rwa [List.take_of_length_le (by rw [← HNA.out]; exact Nat.le_refl _), List.take_of_length_le (by rw [← HNB.out]; exact Nat.le_refl _)] at this)
    clear hx
    go_wp2
    go_ret
    exact ⟨by rw [decide_eq_true HF.out]; rfl, HX.out⟩
 ·have hb : ((na : Int) != (nb : Int)) = true := by rw [bne_iff_ne]; omega
  have HF : Hid (xs ≠ ys) := hid (fun e => hne (by rw [HNA.out, HNB.out, e]))
  clear hne
  go_enter Tryz.func99, Tryz.ntmps99
  go_wp2
  go_ret
  exact ⟨by rw [decide_eq_false HF.out]; rfl, Ext.refl _⟩
theorem TermV.of_cells {S : Nat → Prop} {w : World} {vm vo : Value} {t : RTerm} (h4 : U32s S w vm t.c.mag) (h5 : Pows S w vo t.m) : TermV S w (.agg #[.bool t.c.neg, vm, vo]) t := ⟨vm, vo, rfl, h4, h5⟩
theorem new3 {w W : World} {u v x : Value} {T : TypeId} (h : Ext (w.alloc (.cells #[u, v, x] T)) W) :
  W.cell? ⟨w.heap.size, 0, none⟩ = some u ∧ W.cell? ⟨w.heap.size, 1, none⟩ = some v ∧ W.cell? ⟨w.heap.size, 2, none⟩ = some x :=
 ⟨h.new_cell rfl, h.new_cell rfl, h.new_cell rfl⟩
theorem same_term {S : Nat → Prop} (va vb : Value) (s t : RTerm) (w : World) (ha : TermV S w va s) (hb : TermV S w vb t) (hS : ∀ k, S k → k < w.heap.size) :
  Calls Tryz.prog 97 #[va, vb] w fun e w' => e = .returned (.bool (decide (s = t))) ∧ Ext w w' := by
 obtain ⟨⟨sn, sm⟩, so⟩ := s
 obtain ⟨⟨tn, tm⟩, tq⟩ := t
 obtain ⟨v1, v2, rfl, hu1, hp1⟩ := ha
 obtain ⟨v3, v4, rfl, hu2, hp2⟩ := hb
 simp only at hu1 hp1 hu2 hp2 ⊢
 have CU := fun (W : World) (hW : Ext w W) => equal_u32 _ _ sm tm W (hu1.ext hW hS) (hu2.ext hW hS) (lt_ext hS hW)
 have CP := fun (W : World) (hW : Ext w W) => equal_mono _ _ so tq W (hp1.ext hW hS) (hp2.ext hW hS) (lt_ext hS hW)
 obtain ⟨a1, c1, rfl⟩ := hu1.form
 obtain ⟨a2, c2, rfl⟩ := hp1.form
 obtain ⟨a3, c3, rfl⟩ := hu2.form
 obtain ⟨a4, c4, rfl⟩ := hp2.form
 have HCU := hid CU
 have HCP := hid CP
 have hx : Ext w ((w.alloc (.cells #[.bool sn, .slice a1 sm.length c1, .slice a2 so.length c2] 49)).alloc (.cells #[.bool tn, .slice a3 tm.length c3, .slice a4 tq.length c4] 49)) := Ext.alloc (Ext.alloc (Ext.refl w) _) _
 have HX := hid hx
 have HM : Hid (∀ W, Ext ((w.alloc (.cells #[.bool sn, .slice a1 sm.length c1, .slice a2 so.length c2] 49)).alloc (.cells #[.bool tn, .slice a3 tm.length c3, .slice a4 tq.length c4] 49)) W →
   (W.cell? ⟨w.heap.size, 0, none⟩ = some (.bool sn) ∧ W.cell? ⟨w.heap.size, 1, none⟩ = some (.slice a1 sm.length c1) ∧ W.cell? ⟨w.heap.size, 2, none⟩ = some (.slice a2 so.length c2)) ∧
   (W.cell? ⟨w.heap.size + 1, 0, none⟩ = some (.bool tn) ∧ W.cell? ⟨w.heap.size + 1, 1, none⟩ = some (.slice a3 tm.length c3) ∧ W.cell? ⟨w.heap.size + 1, 2, none⟩ = some (.slice a4 tq.length c4))) := hid (fun W hW => by
  have k2 := new3 hW
  rw [size_alloc] at k2
  exact ⟨new3 ((Ext.alloc (Ext.refl _) _).trans hW), k2⟩)
 have HD : Hid ((decide ((⟨⟨sn, sm⟩, so⟩ : RTerm) = ⟨⟨tn, tm⟩, tq⟩)) = (decide (sn = tn) && (decide (sm = tm) && decide (so = tq)))) := hid (by
  rw [Bool.eq_iff_iff]
  simp [and_assoc])
 clear CU CP hu1 hp1 hu2 hp2 hx
 obtain ⟨m0, m1, m2⟩ := HM.out _ (Ext.refl _)
 by_cases h1 : sn = tn
 ·subst h1
  cases hm : decide (sm = tm) with
  | false =>
   simp only [hm] at HCU
   have HF := hid hm
   clear hm
   go_enter Tryz.func97, Tryz.ntmps97
   go_wp2_with fail
   with_reducible refine (HCU.out _ HX.out).mono ?_
   rintro e w1 ⟨rfl, hx1⟩
   have HX1 := hid (HX.out.trans hx1)
   clear hx1
   go_wp2
   all_goals
    go_ret
    exact ⟨by rw [HD.out, HF.out]; simp, HX1.out⟩
  | true =>
   simp only [hm] at HCU
   have HF := hid hm
   clear hm
   go_enter Tryz.func97, Tryz.ntmps97
   go_wp2_with fail
   with_reducible refine (HCU.out _ HX.out).mono ?_
   rintro e w1 ⟨rfl, hx1⟩
   have HX1 := hid (HX.out.trans hx1)
   obtain ⟨⟨k0, k1, k2⟩, k3, k4, k5⟩ := HM.out _ hx1
   clear hx1
   go_wp2_with fail
   with_reducible refine (HCP.out _ HX1.out).mono ?_
   rintro e w2 ⟨rfl, hx2⟩
   have HX2 := hid (HX1.out.trans hx2)
   clear hx2
   go_wp2
   all_goals
    go_ret
    exact ⟨by rw [HD.out, HF.out]; simp, HX2.out⟩
 ·have hb : (sn == tn) = false := by rw [beq_eq_false_iff_ne]; exact h1
  have HF := hid (decide_eq_false h1)
  clear h1
  go_enter Tryz.func97, Tryz.ntmps97
  go_wp2
  all_goals
   go_ret
   exact ⟨by rw [HD.out, HF.out]; simp, HX.out⟩
theorem equal_terms {S : Nat → Prop} (va vb : Value) (xs ys : List RTerm) (w : World) (ha : Terms S w va xs) (hb : Terms S w vb ys) (hS : ∀ k, S k → k < w.heap.size) :
  Calls Tryz.prog 96 #[va, vb, .func (.func 97) #[] #[]] w fun e w' => e = .returned (.bool (decide (xs = ys))) ∧ Ext w w' := by
 have hnot : ∀ (x : Bool) (w : World), (Op.unary .not (.bool x)).run Tryz.prog w = .ok (.bool (!x)) w := fun _ _ => rfl
 have HA := hid ha
 have HB := hid hb
 have hla := ha.len_le
 have hlb := hb.len_le
 obtain ⟨aa, ca, rfl⟩ := ha.form
 obtain ⟨ab, cb, rfl⟩ := hb.form
 obtain ⟨na, hna⟩ : ∃ n, n = xs.length := ⟨_, rfl⟩
 obtain ⟨nb, hnb⟩ : ∃ n, n = ys.length := ⟨_, rfl⟩
 rw [← hna] at HA hla ⊢
 rw [← hnb] at HB hlb ⊢
 have HNA := hid hna
 have HNB := hid hnb
 clear ha hb hna hnb
 by_cases hne : na = nb
 ·subst hne
  go_enter Tryz.func96, Tryz.ntmps96
  go_wp2
  go_loopw [7, 8, 9, 17] (fun _ _ _ i wr => ∃ k : Nat, k ≤ na ∧ i = .int .i64 k ∧ Ext w wr ∧ Hid (xs.take k = ys.take k)) (fun _ _ _ i _ => na - (intOf i).toNat)
  case atStart => exact ⟨0, Nat.zero_le _, rfl, Ext.refl _, rfl⟩
  case round =>
   obtain ⟨k, hk, rfl, hx, HE⟩ := hrel
   have HX := hid hx
   by_cases hlt : k < na
   ·obtain ⟨x, hxk⟩ := some_of_lt (l := xs) (j := k) (by rw [← HNA.out]; exact hlt)
    obtain ⟨y, hyk⟩ := some_of_lt (l := ys) (j := k) (by rw [← HNB.out]; exact hlt)
    obtain ⟨b1, o1, v1, v2, rfl, -, hc1, hm1, hz1, h1, h2, h3, h4, h5⟩ := (HA.out.ext hx hS).cellAt hxk
    obtain ⟨b2, o2, v3, v4, rfl, -, hc2, hm2, hz2, g1, g2, g3, g4, g5⟩ := (HB.out.ext hx hS).cellAt hyk
    have HXK := hid hxk
    have HYK := hid hyk
    have HC := hid (fun W (hW : Ext wr W) => same_term (S := S) _ _ x y W (TermV.of_cells (h4.ext hW (lt_ext hS hx)) (h5.ext hW (lt_ext hS hx))) (TermV.of_cells (g4.ext hW (lt_ext hS hx)) (g5.ext hW (lt_ext hS hx))) (lt_ext hS (hx.trans hW)))
    obtain ⟨a1, c1, rfl⟩ := h4.form
    obtain ⟨a2, c2, rfl⟩ := h5.form
    obtain ⟨a3, c3, rfl⟩ := g4.form
    obtain ⟨a4, c4, rfl⟩ := g5.form
    have HX2 := hid (Ext.alloc (Ext.alloc (Ext.refl wr) (.cells #[.bool x.c.neg, .slice a1 x.c.mag.length c1, .slice a2 x.m.length c2] 49)) (.cells #[.bool y.c.neg, .slice a3 y.c.mag.length c3, .slice a4 y.m.length c4] 49))
    have n1 := new3 (w := wr) (u := .bool x.c.neg) (v := .slice a1 x.c.mag.length c1) (x := .slice a2 x.m.length c2) (T := 49) (Ext.refl _)
    have m1' := (Ext.alloc (Ext.refl wr) (.cells #[.bool x.c.neg, .slice a1 x.c.mag.length c1, .slice a2 x.m.length c2] 49)).cell g1
    have m2' := (Ext.alloc (Ext.refl wr) (.cells #[.bool x.c.neg, .slice a1 x.c.mag.length c1, .slice a2 x.m.length c2] 49)).cell g2
    have m3' := (Ext.alloc (Ext.refl wr) (.cells #[.bool x.c.neg, .slice a1 x.c.mag.length c1, .slice a2 x.m.length c2] 49)).cell g3
    clear h4 h5 g4 g5 hxk hyk hx n1
    by_cases he : x = y
    ·have H0 := hid he
     have hd : decide (x = y) = true := decide_eq_true he
     have HCT := HC
     simp only [hd] at HCT
     have HCC := hid HCT.out
     clear he hd HCT
     go_wp2_with fail
     with_reducible refine (HCC.out _ HX2.out).mono ?_
     rintro e w2 ⟨rfl, hx2⟩
     have HX3 := hid (HX.out.trans (HX2.out.trans hx2))
     clear hx2
     go_wp2
     go_roundw
     case rel => exact ⟨k + 1, by omega, by go_num, HX3.out, take_eq_succ HE.out HXK.out (by rw [H0.out]; exact HYK.out)⟩
     case measure => simp only [intOf]; omega
    ·have HF : Hid (xs ≠ ys) := hid (ne_of_at HXK.out HYK.out he)
     have hd : decide (x = y) = false := decide_eq_false he
     have HCT := HC
     simp only [hd] at HCT
     have HCC := hid HCT.out
     clear he hd HCT
     go_wp2_with fail
     with_reducible refine (HCC.out _ HX2.out).mono ?_
     rintro e w2 ⟨rfl, hx2⟩
     have HX3 := hid (HX.out.trans (HX2.out.trans hx2))
     clear hx2
     go_wp2
     go_ret
     exact ⟨by rw [decide_eq_false HF.out]; rfl, HX3.out⟩
   ·obtain rfl : k = na := by omega
    have HF : Hid (xs = ys) := hid (by have := HE.out; rwa [List.take_of_length_le (by rw [← HNA.out]; exact Nat.le_refl _), List.take_of_length_le (by rw [← HNB.out]; exact Nat.le_refl _)] at this)
    clear hx
    go_wp2
    go_ret
    exact ⟨by rw [decide_eq_true HF.out]; rfl, HX.out⟩
 ·have hb : ((na : Int) != (nb : Int)) = true := by rw [bne_iff_ne]; omega
  have HF : Hid (xs ≠ ys) := hid (fun e => hne (by rw [HNA.out, HNB.out, e]))
  clear hne
  go_enter Tryz.func96, Tryz.ntmps96
  go_wp2
  go_ret
  exact ⟨by rw [decide_eq_false HF.out]; rfl, Ext.refl _⟩
theorem poly_same {S : Nat → Prop} (va vb : Value) (xs ys : List RTerm) (w : World) (ha : Terms S w va xs) (hb : Terms S w vb ys) (hS : ∀ k, S k → k < w.heap.size) :
  Calls Tryz.prog 60 #[va, vb] w fun e w' => e = .returned (.bool (decide (xs = ys))) ∧ Ext w w' := by
 have C := hid (equal_terms va vb xs ys w ha hb hS)
 obtain ⟨aa, ca, rfl⟩ := ha.form
 obtain ⟨ab, cb, rfl⟩ := hb.form
 generalize decide (xs = ys) = b at *
 clear ha hb
 go_enter Tryz.func60, Tryz.ntmps60
 go_wp2_with fail
 with_reducible refine C.out.mono ?_
 rintro e w2 ⟨rfl, hx2⟩
 have HX := hid hx2
 clear hx2
 go_wp2
 go_ret
 exact ⟨rfl, HX.out⟩
end
section
open Go.RowKit
end
section
open Go.RowKit
end
section
open Go.RowKit
structure MSt where
 fu : Int
 li : Int
 te : Int
 pi : Int
 st : Int
 pc : Int
 wh : Int
 nn : Int
 deriving DecidableEq, Inhabited
def MSt.done (s : MSt) : Int := if s.wh = 0 then 0 else 1
def MSt.refuse (s : MSt) (e n : Int) : MSt := if s.wh = 0 then { s with wh := e, nn := n } else s
end
section
open Go.RowKit
end
section
open Go.RowKit
def MSt.step (s : MSt) : Int × MSt := if s.st < s.fu then (0, { s with st := s.st + 1 }) else (9, s.refuse 9 (s.fu + 1))
end
section
open Go.RowKit
def MSt.keep (s : MSt) (n len : Nat) : Int × MSt := if s.li < n then (10, s.refuse 10 n) else if s.te < len then (11, s.refuse 11 len) else (0, s)
def MSt.new (a b c d : Int) : MSt := ⟨a, b, c, d, 0, 0, 0, 0⟩
end
section
open Go.RowKit
end
section
open Go.RowKit
end
section
theorem guess_up {P U3 Ul V2 Vl q : Nat} (hUl : Ul < P) (h : U3 < (q + 1) * V2) : U3 * P + Ul < (q + 1) * (V2 * P + Vl) := by
 have h1 : (U3 + 1) * P ≤ (q + 1) * V2 * P := Nat.mul_le_mul_right P h
 rw [Nat.add_mul U3 1 P, Nat.one_mul] at h1
 rw [Nat.mul_add, ← Nat.mul_assoc]
 omega
theorem guess_low {B P U3 Ul V2 Vl q : Nat} (hVl : Vl < P) (hq : q * V2 ≤ U3) (hqB : q ≤ B) (hV2 : B ≤ V2) : q * (V2 * P + Vl) ≤ (U3 * P + Ul) + (V2 * P + Vl) := by
 cases q with
 | zero => rw [Nat.zero_mul]; exact Nat.zero_le _
 | succ p =>
  have h1 : (p + 1) * V2 * P ≤ U3 * P := Nat.mul_le_mul_right P hq
  have h2 : p * Vl ≤ V2 * P := Nat.mul_le_mul (by omega) (Nat.le_of_lt hVl)
  rw [Nat.mul_add, ← Nat.mul_assoc, Nat.add_mul p 1 Vl, Nat.one_mul]
  omega
def GuessOk (B top u2 v1 v2 q : Nat) : Prop := B ≤ q + 1 ∨ top * B + u2 < (q + 1) * (v1 * B + v2)
theorem guess_start {B top u2 v1 v2 : Nat} (hu2 : u2 < B) (hv1 : 0 < v1) : GuessOk B top u2 v1 v2 (top / v1) := by
 refine .inr ?_
 have h1 : top < (top / v1 + 1) * v1 := by
  have h := Nat.div_add_mod top v1
  have h2 := Nat.mod_lt top hv1
  rw [Nat.add_mul, Nat.one_mul, Nat.mul_comm]
  omega
 have h3 : (top + 1) * B ≤ (top / v1 + 1) * v1 * B := Nat.mul_le_mul_right B h1
 rw [Nat.add_mul top 1 B, Nat.one_mul] at h3
 rw [Nat.mul_add, ← Nat.mul_assoc]
 omega
theorem guess_next {B top u2 v1 v2 q r : Nat} (ht : r + q * v1 = top) (hq : 0 < q) (hc : B ≤ q ∨ r * B + u2 < q * v2) : GuessOk B top u2 v1 v2 (q - 1) := by
 have e : q - 1 + 1 = q := by omega
 unfold GuessOk
 rw [e]
 rcases hc with h | h
 ·exact .inl h
 ·refine .inr ?_
  rw [← ht, Nat.add_mul, Nat.mul_add, ← Nat.mul_assoc]
  omega
theorem guess_done {B top u2 v1 v2 q r : Nat} (ht : r + q * v1 = top) (hc : r * B + u2 ≥ q * v2) : q * (v1 * B + v2) ≤ top * B + u2 := by
 rw [← ht, Nat.add_mul, Nat.mul_add, ← Nat.mul_assoc]
 omega
theorem guess_dec {v1 q r top : Nat} (ht : r + q * v1 = top) (hq : 0 < q) : r + v1 + (q - 1) * v1 = top := by
 obtain ⟨p, rfl⟩ : ∃ p, q = p + 1 := ⟨q - 1, by omega⟩
 rw [Nat.add_mul, Nat.one_mul] at ht
 rw [Nat.add_sub_cancel]
 omega
theorem guess_break {B top u0 u1 u2 v1 v2 q r : Nat} (ht : r + q * v1 = top) (htop : top = u0 * B + u1) (hle : u0 ≤ v1) (hu1 : u1 < B) (hv2 : v2 < B) (hr : B ≤ r) : q < B ∧ q * v2 ≤ r * B + u2 := by
 have hq : q < B := by
  rcases Nat.lt_or_ge q B with h | h
  ·exact h
  ·have h1 : B * v1 ≤ q * v1 := Nat.mul_le_mul_right v1 h
   have h2 : u0 * B ≤ v1 * B := Nat.mul_le_mul_right B hle
   rw [Nat.mul_comm B v1] at h1
   omega
 refine ⟨hq, ?_⟩
 have h1 : q * v2 ≤ B * B := Nat.mul_le_mul (by omega) (by omega)
 have h2 : B * B ≤ r * B := Nat.mul_le_mul_right B hr
 omega
theorem digit_ok {U V q o b M : Nat} (ho : o < M) (hb : b ≤ 1) (h : o + q * V = U + M * b) (hup : U < (q + 1) * V) (hlow : q * V ≤ U + V) (_hU : U < M) (hV : V ≤ M) :
  (b = 0 → q = U / V ∧ o = U % V) ∧ (b = 1 → 0 < q ∧ q - 1 = U / V ∧ (o + V) % M = U % V) := by
 have hV0 : 0 < V := by
  rcases Nat.eq_zero_or_pos V with h0 | h0
  ·rw [h0, Nat.mul_zero] at hup; omega
  ·exact h0
 rw [Nat.add_mul, Nat.one_mul] at hup
 refine ⟨fun h0 => ?_, fun h1 => ?_⟩
 ·subst h0
  have e : U = V * q + o := by rw [Nat.mul_comm V q]; omega
  have hlt : o < V := by omega
  refine ⟨?_, ?_⟩
  ·rw [e, Nat.mul_add_div hV0, Nat.div_eq_of_lt hlt]; omega
  ·rw [e, Nat.mul_add_mod, Nat.mod_eq_of_lt hlt]
 ·subst h1
  rw [Nat.mul_one] at h
  have hq : 0 < q := by
   rcases Nat.eq_zero_or_pos q with h0 | h0
   ·rw [h0, Nat.zero_mul] at h; omega
   ·exact h0
  obtain ⟨p, rfl⟩ : ∃ p, q = p + 1 := ⟨q - 1, by omega⟩
  rw [Nat.add_mul, Nat.one_mul] at h hup hlow
  have e : U = V * p + (o + V - M) := by rw [Nat.mul_comm V p]; omega
  have hlt : o + V - M < V := by omega
  have hge : M ≤ o + V := by omega
  refine ⟨hq, ?_, ?_⟩
  ·rw [e, Nat.mul_add_div hV0, Nat.div_eq_of_lt hlt]; omega
  ·rw [Nat.mod_eq_sub_mod hge, Nat.mod_eq_of_lt (by omega)]
   conv => rhs; rw [e, Nat.mul_add_mod, Nat.mod_eq_of_lt hlt]
section
variable {B : Nat}
theorem val_split (l : List Nat) (k : Nat) : val B l = val B (l.take k) + B ^ (min k l.length) * val B (l.drop k) := by
 have h := val_append (B := B) (l.take k) (l.drop k)
 rw [List.take_append_drop, List.length_take] at h
 exact h
theorem val_top3 (_hB : 0 < B) {l : List Nat} {n : Nat} (hl : l.length = n + 1) (hn : 2 ≤ n) : val B l = ((dg l n * B + dg l (n - 1)) * B + dg l (n - 2)) * B ^ (n - 2) + val B (l.take (n - 2)) := by
 obtain ⟨m, rfl⟩ : ∃ m, n = m + 2 := ⟨n - 2, by omega⟩
 rw [val_split l m, show min m l.length = m by omega, val_drop_dg l m, val_drop_dg l (m + 1), val_drop_dg l (m + 1 + 1)]
 have e : l.drop (m + 1 + 1 + 1) = [] := List.drop_eq_nil_of_le (by omega)
 rw [e, show m + 2 - 1 = m + 1 by omega, show m + 2 - 2 = m by omega, show m + 1 + 1 = m + 2 by omega, show val B ([] : List Nat) = 0 from rfl]
 rw [Nat.mul_zero, Nat.add_zero, Nat.mul_comm (B ^ m), Nat.add_comm (val B _)]
 congr 1
 rw [Nat.add_comm (dg l m), Nat.mul_comm B, Nat.add_comm (dg l (m + 1)), Nat.mul_comm B, Nat.add_zero]
theorem val_top2 {l : List Nat} {n : Nat} (hl : l.length = n) (hn : 2 ≤ n) : val B l = (dg l (n - 1) * B + dg l (n - 2)) * B ^ (n - 2) + val B (l.take (n - 2)) := by
 obtain ⟨m, rfl⟩ : ∃ m, n = m + 2 := ⟨n - 2, by omega⟩
 rw [val_split l m, show min m l.length = m by omega, val_drop_dg l m, val_drop_dg l (m + 1)]
 have e : l.drop (m + 1 + 1) = [] := List.drop_eq_nil_of_le (by omega)
 rw [e, show m + 2 - 1 = m + 1 by omega, show m + 2 - 2 = m by omega, show val B ([] : List Nat) = 0 from rfl]
 rw [Nat.mul_zero, Nat.add_zero, Nat.mul_comm (B ^ m), Nat.add_comm (val B _)]
 congr 1
 rw [Nat.add_comm (dg l m), Nat.mul_comm B]
theorem guess_limbs (hB : 2 ≤ B) {us vs : List Nat} {n q r : Nat} (hus : ∀ z ∈ us, z < B) (hvs : ∀ z ∈ vs, z < B) (hu : us.length = n + 1) (hv : vs.length = n) (hn : 2 ≤ n) (hV1 : 0 < dg vs (n - 1)) (hUV : val B us < B * val B vs)
  (ht : r + q * dg vs (n - 1) = dg us n * B + dg us (n - 1)) (hqB : q < B) (hc : q * dg vs (n - 2) ≤ r * B + dg us (n - 2)) (hok : GuessOk B (dg us n * B + dg us (n - 1)) (dg us (n - 2)) (dg vs (n - 1)) (dg vs (n - 2)) q) :
  val B us < (q + 1) * val B vs ∧ q * val B vs ≤ val B us + val B vs := by
 have e1 := val_top3 (by omega : 0 < B) hu hn
 have e2 := val_top2 (B := B) hv hn
 have hP1 : val B (us.take (n - 2)) < B ^ (n - 2) := by
  have h := val_lt (B := B) (us.take (n - 2)) (fun z hz => hus z (List.mem_of_mem_take hz))
  rwa [List.length_take, show min (n - 2) us.length = n - 2 by omega] at h
 have hP2 : val B (vs.take (n - 2)) < B ^ (n - 2) := by
  have h := val_lt (B := B) (vs.take (n - 2)) (fun z hz => hvs z (List.mem_of_mem_take hz))
  rwa [List.length_take, show min (n - 2) vs.length = n - 2 by omega] at h
 have hd := guess_done ht hc
 have hV2 : B ≤ dg vs (n - 1) * B + dg vs (n - 2) := by
  have := Nat.le_mul_of_pos_left B hV1
  omega
 refine ⟨?_, ?_⟩
 ·rcases hok with h | h
  ·refine Nat.lt_of_lt_of_le hUV (Nat.mul_le_mul_right _ h)
  ·rw [e1, e2]
   exact guess_up hP1 h
 ·rw [e1, e2]
  exact guess_low hP2 hd (Nat.le_of_lt hqB) hV2
theorem off_step {ps us vs : List Nat} {q i b c x u d b' c' : Nat} (hl : ps.length = i) (h : val B ps + q * val B (vs.take i) = val B (us.take i) + B ^ i * (b + c)) (hx : dg vs i = x) (hu : dg us i = u) (he : b + c + q * x + d = u + B * (b' + c')) :
  val B (ps ++ [d]) + q * val B (vs.take (i + 1)) = val B (us.take (i + 1)) + B ^ (i + 1) * (b' + c') := by
 rw [val_snoc, hl, val_take_dg, val_take_dg, hx, hu, Nat.pow_succ, Nat.mul_assoc (B ^ i) B, Nat.mul_add q]
 have h1 : B ^ i * (b + c + q * x + d) = B ^ i * (u + B * (b' + c')) := by rw [he]
 rw [Nat.mul_add, Nat.mul_add (B ^ i) (b + c), Nat.mul_add (B ^ i) u, Nat.mul_left_comm (B ^ i) q x] at h1
 omega
theorem on_step {ps us vs : List Nat} {i c u x : Nat} (hl : ps.length = i) (h : val B ps + B ^ i * c = val B (us.take i) + val B (vs.take i)) (hx : dg vs i = x) (hu : dg us i = u) :
  val B (ps ++ [(c + u + x) % B]) + B ^ (i + 1) * ((c + u + x) / B) = val B (us.take (i + 1)) + val B (vs.take (i + 1)) := by
 rw [val_snoc, hl, val_take_dg, val_take_dg, hx, hu, Nat.pow_succ, Nat.mul_assoc (B ^ i) B]
 have h1 : B ^ i * (B * ((c + u + x) / B) + (c + u + x) % B) = B ^ i * (c + u + x) := by rw [Nat.div_add_mod]
 rw [Nat.mul_add, Nat.mul_add, Nat.mul_add] at h1
 omega
structure NDivAt (B A V n : Nat) (u qs : List Nat) (j : Nat) : Prop where
 sum : val B u + B ^ j * (V * val B (qs.drop j)) = A
 low : val B (u.drop j) < V
def partL (u : List Nat) (k n : Nat) : List Nat := (u.drop k).take (n + 1)
def putL (u : List Nat) (k : Nat) (ps : List Nat) : List Nat := u.take k ++ ps ++ u.drop (k + ps.length)
theorem part_len {u : List Nat} {k n : Nat} (h : k + n < u.length) : (partL u k n).length = n + 1 := by
 unfold partL
 rw [List.length_take, List.length_drop]
 omega
theorem part_dg {u : List Nat} {k n i : Nat} (hi : i < n + 1) : dg (partL u k n) i = dg u (k + i) := by
 unfold partL dg
 rw [List.getElem?_take, if_pos hi, List.getElem?_drop]
theorem put_len {u ps : List Nat} {k : Nat} (h : k + ps.length ≤ u.length) : (putL u k ps).length = u.length := by
 unfold putL
 rw [List.length_append, List.length_append, List.length_take, List.length_drop]
 omega
theorem part_val (hB : 2 ≤ B) {u : List Nat} {k n V : Nat} (hu : ∀ z ∈ u, z < B) (hk : k + n < u.length) (hV : V < B ^ n) (hlow : val B (u.drop (k + 1)) < V) :
  val B u = val B (u.take k) + B ^ k * val B (partL u k n) ∧ val B (partL u k n) < B * V ∧ ∀ i, k + n < i → dg u i = 0 := by
 have h1 := val_split (B := B) u k
 rw [show min k u.length = k by omega] at h1
 have h2 := val_split (B := B) (u.drop (k + 1)) n
 rw [List.length_drop, show min n (u.length - (k + 1)) = n by omega, List.drop_drop] at h2
 have h3 : val B (u.drop (k + 1 + n)) = 0 := by
  rcases Nat.eq_zero_or_pos (val B (u.drop (k + 1 + n))) with h | h
  ·exact h
  ·have := Nat.le_mul_of_pos_right (B ^ n) h
   omega
 have h4 : val B (partL u k n) = val B (u.drop k) := by
  have h5 := val_split (B := B) (u.drop k) (n + 1)
  rw [List.drop_drop, show k + (n + 1) = k + 1 + n by omega, h3, Nat.mul_zero, Nat.add_zero] at h5
  exact h5.symm
 refine ⟨by rw [h4]; exact h1, ?_, ?_⟩
 ·rw [h4, val_drop_dg u k]
  have h5 := dg_lt (by omega : 0 < B) hu k
  have h6 : B * (val B (u.drop (k + 1)) + 1) ≤ B * V := Nat.mul_le_mul_left B hlow
  rw [Nat.mul_add, Nat.mul_one] at h6
  omega
 ·intro i hi
  have h5 := val_zero_above (by omega : 0 < B) (l := u.drop (k + 1 + n)) (k := 0) (by rw [h3]; simp) (i - (k + 1 + n)) (Nat.zero_le _)
  by_cases hl : i < u.length
  ·have h6 := h5 (by rw [List.length_drop]; omega)
   unfold dg at h6 ⊢
   rw [List.getElem?_drop, show k + 1 + n + (i - (k + 1 + n)) = i by omega] at h6
   exact h6
  ·exact dg_out (by omega)
theorem ndiv_step (hB : 2 ≤ B) {A V n k : Nat} {u qs ps : List Nat} (hu : ∀ z ∈ u, z < B) (hk : k + n < u.length) (hkq : k < qs.length) (hV : V < B ^ n) (h : NDivAt B A V n u qs (k + 1)) (hps : ps.length = n + 1) (hpv : val B ps = val B (partL u k n) % V) (hV0 : 0 < V) :
  NDivAt B A V n (putL u k ps) (qs.set k (val B (partL u k n) / V)) k := by
 obtain ⟨h1, h2⟩ := h
 obtain ⟨p1, p2, p3⟩ := part_val hB hu hk hV h2
 have hmd := Nat.div_add_mod (val B (partL u k n)) V
 have hup : val B (u.drop (k + ps.length)) = 0 := by
  have h3 : ∀ z ∈ u.drop (k + ps.length), z = 0 := fun z hz => by
   obtain ⟨i, hi⟩ := List.getElem?_of_mem hz
   rw [List.getElem?_drop] at hi
   have h4 := p3 (k + ps.length + i) (by omega)
   rwa [dg_some hi] at h4
  have h5 : u.drop (k + ps.length) = List.replicate (u.drop (k + ps.length)).length 0 := List.eq_replicate_iff.2 ⟨rfl, h3⟩
  rw [h5, val_zeros]
 have hq1 : (qs.set k (val B (partL u k n) / V)).drop k = (val B (partL u k n) / V) :: qs.drop (k + 1) := by
  rw [List.drop_set, if_neg (Nat.lt_irrefl k), Nat.sub_self, List.drop_eq_getElem_cons hkq, List.set_cons_zero]
 have hput : val B (putL u k ps) = val B (u.take k) + B ^ k * val B ps := by
  unfold putL
  rw [val_append, val_append, hup, Nat.mul_zero, Nat.add_zero, List.length_take, show min k u.length = k by omega]
 refine ⟨?_, ?_⟩
 ·rw [hq1, hput, hpv, show val B ((val B (partL u k n) / V) :: qs.drop (k + 1)) = val B (partL u k n) / V + B * val B (qs.drop (k + 1)) from rfl]
  rw [← h1, p1, Nat.pow_succ]
  generalize val B (partL u k n) / V = q at hmd ⊢
  generalize val B (partL u k n) % V = r at hmd ⊢
  generalize val B (qs.drop (k + 1)) = t
  rw [← hmd, Nat.mul_add V, Nat.mul_add (B ^ k), Nat.mul_add (B ^ k), Nat.mul_assoc (B ^ k) B, Nat.mul_left_comm B V]
  omega
 ·have hd : (putL u k ps).drop k = ps ++ u.drop (k + ps.length) := by
   unfold putL
   rw [List.append_assoc, List.drop_append_of_le_length (by rw [List.length_take]; omega), List.drop_take, Nat.sub_self, List.take_zero, List.nil_append]
  rw [hd, val_append, hup, Nat.mul_zero, Nat.add_zero, hpv]
  exact Nat.mod_lt _ hV0
theorem div_whole {A V n : Nat} {u qs : List Nat} (hV0 : 0 < V) (h : NDivAt B A V n u qs 0) : val B qs = A / V ∧ val B u = A % V := by
 obtain ⟨h1, h2⟩ := h
 rw [Nat.pow_zero, Nat.one_mul, List.drop_zero] at h1
 rw [List.drop_zero] at h2
 rw [← h1, Nat.add_comm, Nat.mul_add_div hV0, Nat.div_eq_of_lt h2, Nat.mul_add_mod, Nat.mod_eq_of_lt h2]
 exact ⟨rfl, rfl⟩
end
theorem div_scaled {a b c : Nat} (hc : 0 < c) : a * c / (b * c) = a / b ∧ a * c % (b * c) = a % b * c := ⟨Nat.mul_div_mul_right a b hc, Nat.mul_mod_mul_right c a b⟩
end
section
open Go.RowKit
theorem wraps_u64' (n : Int) (h₀ : 0 ≤ n) (h₁ : n < 2 ^ 64) : IntKind.u64.wrap n = n := by rw [IntKind.wrap_u64]; omega
theorem wrap_nat64 {n : Nat} (h : n < 18446744073709551616) : IntKind.u64.wrap (n : Int) = (n : Int) := by rw [IntKind.wrap_u64]; omega
theorem or_limbs (x y : Nat) (hx : x < 4294967296) (hy : y < 4294967296) : bits .or .u64 ((x : Int) * 4294967296) (y : Int) = ((x * 4294967296 + y : Nat) : Int) := by
 have h := bits_join .u64 64 (by decide) wraps_u64' 32 ((x : Int) * 4294967296) (y : Int) (by omega) (by show (x : Int) * 4294967296 % 4294967296 = 0; omega) (by show (x : Int) * 4294967296 < 18446744073709551616; omega) (by omega) (by show (y : Int) < 4294967296; omega) (by show (y : Int) < 18446744073709551616; omega)
 rw [h]
 omega
theorem div_guess {S : Nat → Prop} (vu vv : Value) (us vs : List Nat) (m : Nat) (w : World) (hu : U32s S w vu us) (hv : U32s S w vv vs) (_hS : ∀ k, S k → k < w.heap.size) (lu : us.length = m + 3) (lv : vs.length = m + 2)
  (hV1 : 2147483648 ≤ dg vs (m + 1)) (hle : dg us (m + 2) ≤ dg vs (m + 1)) :
  Calls Tryz.prog 143 #[vu, vv] w fun e w' => ∃ q r : Nat, e = .returned (.int .u64 (q : Nat)) ∧ Ext w w' ∧ q < B32 ∧ r + q * dg vs (m + 1) = dg us (m + 2) * B32 + dg us (m + 1) ∧ q * dg vs m ≤ r * B32 + dg us m ∧
   GuessOk B32 (dg us (m + 2) * B32 + dg us (m + 1)) (dg us m) (dg vs (m + 1)) (dg vs m) q := by
 obtain ⟨u0, hu0⟩ := some_of_lt (l := us) (j := m + 2) (by omega)
 obtain ⟨u1, hu1⟩ := some_of_lt (l := us) (j := m + 1) (by omega)
 obtain ⟨u2, hu2⟩ := some_of_lt (l := us) (j := m) (by omega)
 obtain ⟨v1, hv1⟩ := some_of_lt (l := vs) (j := m + 1) (by omega)
 obtain ⟨v2, hv2⟩ := some_of_lt (l := vs) (j := m) (by omega)
 rw [dg_some hu0, dg_some hu1, dg_some hu2, dg_some hv1, dg_some hv2]
 rw [dg_some hv1] at hV1 hle
 rw [dg_some hu0] at hle
 have hfu := hu.len_le
 obtain ⟨au, cu, rfl⟩ := hu.form
 obtain ⟨av, cv, rfl⟩ := hv.form
 obtain ⟨bu, ou, rfl, -, hn1, hm1, -, xu0, k0⟩ := hu.cellAt hu0
 obtain ⟨b', o', e1, -, -, -, -, xu1, k1⟩ := hu.cellAt hu1
 obtain ⟨rfl, rfl⟩ : bu = b' ∧ ou = o' := by simpa using e1
 obtain ⟨b', o', e2, -, -, -, -, xu2, k2⟩ := hu.cellAt hu2
 obtain ⟨rfl, rfl⟩ : bu = b' ∧ ou = o' := by simpa using e2
 obtain ⟨bv, ov, rfl, -, hn2, hm2, -, xv1, k3⟩ := hv.cellAt hv1
 obtain ⟨b', o', e3, -, -, -, -, xv2, k4⟩ := hv.cellAt hv2
 obtain ⟨rfl, rfl⟩ : bv = b' ∧ ov = o' := by simpa using e3
 rw [lu] at hn1 hfu ⊢
 rw [lv] at hn2 ⊢
 have HK := hid (And.intro k0 (And.intro k1 (And.intro k2 (And.intro k3 k4))))
 have q1 : ((m + 2 : Nat) : Int) - 1 = ((m + 1 : Nat) : Int) := by omega
 have q2 : ((m + 2 : Nat) : Int) - 2 = (m : Int) := by omega
 clear e1 e2 e3 hu hv lu lv hu0 hu1 hu2 hv1 hv2
 go_enter Tryz.func143, Tryz.ntmps143
 go_wp2
 go_step3
 go_wp2
 go_quiet (fail)
 rw [or_limbs _ _ xu0 xu1]
 obtain ⟨top, htop⟩ : ∃ t, t = u0 * 4294967296 + u1 := ⟨_, rfl⟩
 have HT := hid htop
 rw [← htop]
 have ht2 : top ≤ 18446744073709551615 := by omega
 have hv0 : (v1 : Int) ≠ 0 := by omega
 have hq0 : top / v1 < 4294967298 := Nat.div_lt_of_lt_mul (by omega)
 have HQ0 := hid hq0
 have HXS := hid (And.intro xu0 (And.intro xu1 (And.intro xu2 (And.intro xv1 xv2))))
 clear htop
 go_wp2
 go_quiet (fail)
 go_wp2
 go_step3
 go_wp2
 go_loopw [7, 8] (fun s7 s8 wr => ∃ q r : Nat, s7 = .int .u64 (q : Nat) ∧ s8 = .int .u64 (r : Nat) ∧ Ext w wr ∧ r + q * v1 = top ∧ r < 4294967296 ∧ q ≤ 4294967297 ∧ GuessOk B32 top u2 v1 v2 q) (fun s7 _ _ => (intOf s7).toNat)
 case atStart =>
  refine ⟨top / v1, top % v1, congrArg (Value.int .u64) (wrap_nat64 (n := top / v1) (by omega)), rfl, ((Ext.refl w).drewN _).drewN _, ?_, ?_, by omega, guess_start xu2 (by omega)⟩
  ·have := Nat.div_add_mod top v1
   rw [Nat.mul_comm]
   omega
  ·have := Nat.mod_lt top (show 0 < v1 by omega)
   omega
 case round =>
  obtain ⟨q, r, rfl, rfl, hx, ht, hr, hq, hok⟩ := hrel
  have k0 := hx.cell HK.out.1
  have k1 := hx.cell HK.out.2.1
  have k2 := hx.cell HK.out.2.2.1
  have k3 := hx.cell HK.out.2.2.2.1
  have k4 := hx.cell HK.out.2.2.2.2
  have HX := hid hx
  have HTT := hid ht
  have HOK := hid hok
  have HR := hid (And.intro hr hq)
  clear hx ht hok hr hq
  by_cases h1 : 4294967296 ≤ q
  ·have g1 : decide ((4294967296 : Int) ≤ (q : Int)) = true := decide_eq_true (by omega)
   have H1 := hid h1
   clear h1
   go_wp2
   refine wp_region_later (by kernel_rfl) (by kernel_rfl) ?_
   repeat (go_big_quiet_step (fail))
   refine wpQuiet_nil ?_
   intro w4 hx4
   have h1 := H1.out
   have HC := hid (guess_next (B := B32) (u2 := u2) (v2 := v2) HTT.out (by omega) (.inl h1))
   have HX4 := hid (HX.out.trans hx4)
   have k3 := hx4.cell k3
   have hq1 : (1 : Int) ≤ (q : Int) := by omega
   have hq2 : (q : Int) ≤ 4294967297 := by have := HR.out.2; omega
   have hr1 : (r : Int) < 4294967296 := by have := HR.out.1; omega
   have HD := hid (guess_dec HTT.out (by omega))
   clear hx4 g1 h1
   by_cases h3 : (4294967296 : Int) ≤ (r : Int) + (v1 : Int)
   ·go_wp2
    all_goals
     rw [Exit.noGoto_ret]
     go_ret
     obtain ⟨z1, z2⟩ := guess_break (u2 := u2) (v2 := v2) (B := B32) HD.out HT.out hle HXS.out.2.1 HXS.out.2.2.2.2 (by show 4294967296 ≤ r + v1; omega)
     refine ⟨q - 1, r + v1, ?_, HX4.out, z1, by rw [HD.out]; exact HT.out, z2, by rw [← HT.out]; exact HC.out⟩
     show Ending.returned (Value.int .u64 ((q : Int) - 1)) = _
     rw [show ((q - 1 : Nat) : Int) = (q : Int) - 1 by omega]
   ·go_wp2
    go_roundw
    case rel => exact ⟨q - 1, r + v1, congrArg (Value.int .u64) (by omega), congrArg (Value.int .u64) (by omega), HX4.out, HD.out, by omega, by omega, HC.out⟩
    case measure => simp only [intOf]; omega
  ·have g1 : decide ((4294967296 : Int) ≤ (q : Int)) = false := decide_eq_false (by omega)
   have H1 : Hid (q < 4294967296) := hid (by omega)
   obtain ⟨P, hP⟩ : ∃ P : Nat, P = q * v2 := ⟨_, rfl⟩
   obtain ⟨T, hT⟩ : ∃ T : Nat, T = r * 4294967296 + u2 := ⟨_, rfl⟩
   have hqv : q * v2 ≤ 4294967295 * 4294967295 := Nat.mul_le_mul (show q ≤ 4294967295 by omega) (by have := HXS.out.2.2.2.2; omega)
   have hw : IntKind.u64.wrap ((q : Int) * (v2 : Int)) = (P : Int) := by
    have e : (q : Int) * (v2 : Int) = ((q * v2 : Nat) : Int) := (Int.natCast_mul q v2).symm
    rw [e, ← hP]
    exact wrap_nat64 (by omega)
   have hor : bits .or .u64 ((r : Int) * 4294967296) (u2 : Int) = (T : Int) := by rw [or_limbs r u2 HR.out.1 HXS.out.2.2.1, hT]
   have hr1 : (r : Int) < 4294967296 := by have := HR.out.1; omega
   have HP := hid hP
   have HTd := hid hT
   have m1 : (0 : Int) ≤ (m : Int) + 2 - 2 := by omega
   clear h1 hP hT hqv
   by_cases h2 : T < P
   ·have L2 := fun Y : Later wr => Y.h.cell k2
    have L4 := fun Y : Later wr => Y.h.cell k4
    go_wp2
    refine wp_region_later (by kernel_rfl) (by kernel_rfl) ?_
    repeat (go_big_quiet_step (fail))
    refine wpQuiet_nil ?_
    intro w4 hx4
    have h1 := H1.out
    have hqp : 0 < q := by
     rcases Nat.eq_zero_or_pos q with h | h
     ·have h4 := HP.out
      rw [h, Nat.zero_mul] at h4
      omega
     ·exact h
    have hcc : r * B32 + u2 < q * v2 := by have h4 := HP.out; have h5 := HTd.out; show r * 4294967296 + u2 < q * v2; omega
    have HC := hid (guess_next (B := B32) (u2 := u2) (v2 := v2) HTT.out hqp (.inr hcc))
    have HX4 := hid (HX.out.trans hx4)
    have k3 := hx4.cell k3
    have hq1 : (1 : Int) ≤ (q : Int) := by omega
    have hq2 : (q : Int) ≤ 4294967297 := by have := HR.out.2; omega
    have hr1 : (r : Int) < 4294967296 := by have := HR.out.1; omega
    have HD := hid (guess_dec HTT.out (by omega))
    clear hx4 g1 h1 hw hor h2 hqp hcc L2 L4
    by_cases h3 : (4294967296 : Int) ≤ (r : Int) + (v1 : Int)
    ·go_wp2
     all_goals
      rw [Exit.noGoto_ret]
      go_ret
      obtain ⟨z1, z2⟩ := guess_break (u2 := u2) (v2 := v2) (B := B32) HD.out HT.out hle HXS.out.2.1 HXS.out.2.2.2.2 (by show 4294967296 ≤ r + v1; omega)
      refine ⟨q - 1, r + v1, ?_, HX4.out, z1, by rw [HD.out]; exact HT.out, z2, by rw [← HT.out]; exact HC.out⟩
      show Ending.returned (Value.int .u64 ((q : Int) - 1)) = _
      rw [show ((q - 1 : Nat) : Int) = (q : Int) - 1 by omega]
    ·go_wp2
     go_roundw
     case rel => exact ⟨q - 1, r + v1, congrArg (Value.int .u64) (by omega), congrArg (Value.int .u64) (by omega), HX4.out, HD.out, by omega, by omega, HC.out⟩
     case measure => simp only [intOf]; omega
   ·have g2 : decide (T < P) = false := decide_eq_false h2
    have L2 := fun Y : Later wr => Y.h.cell k2
    have L4 := fun Y : Later wr => Y.h.cell k4
    go_wp2
    refine wp_region_later (by kernel_rfl) (by kernel_rfl) ?_
    repeat (go_big_quiet_step (fail))
    refine wpQuiet_nil ?_
    intro w4 hx4
    have HX4 := hid (HX.out.trans hx4)
    have hcc : q * v2 ≤ r * B32 + u2 := by have h4 := HP.out; have h5 := HTd.out; show q * v2 ≤ r * 4294967296 + u2; omega
    have HCC := hid hcc
    clear hx4 g1 hw hor hcc L2 L4
    go_wp2
    all_goals
     rw [Exit.noGoto_ret]
     go_ret
     exact ⟨q, r, rfl, HX4.out, H1.out, by rw [HTT.out]; exact HT.out, HCC.out, by rw [← HT.out]; exact HOK.out⟩
end
section
open Go.RowKit
theorem and_low (t : Nat) (ht : t < 18446744073709551616) : bits .and .u64 (t : Int) 4294967295 = ((t % 4294967296 : Nat) : Int) := by
 have h := (bits_nat .u64 64 (by decide) wraps_u64' t 4294967295 (by omega) (by decide)).1
 rw [show ((4294967295 : Nat) : Int) = 4294967295 from rfl] at h
 rw [h]
 congr 1
 exact Nat.and_two_pow_sub_one_eq_mod t 32
theorem put_snoc {w : World} {T : TypeId} {n g k : Nat} {o ps : List Nat} (h : w.rowIs g T n (rowU (putL o k ps))) (hk : k + ps.length < o.length) (z : Nat) :
  (w.setCell ⟨g, k + ps.length, none⟩ (.int .u32 (z : Nat))).rowIs g T n (rowU (putL o k (ps ++ [z]))) := by
 have h1 := rowU_set h (k + ps.length) z (by rw [put_len (by omega)]; exact hk)
 have e : (putL o k ps).set (k + ps.length) z = putL o k (ps ++ [z]) := by
  unfold putL
  have hl : (o.take k ++ ps).length = k + ps.length := by rw [List.length_append, List.length_take]; omega
  rw [List.set_append, if_neg (by omega), hl, Nat.sub_self, List.drop_eq_getElem_cons hk, List.set_cons_zero, List.length_append, List.length_singleton]
  simp [Nat.add_assoc]
 rwa [e] at h1
theorem put_dg {o ps : List Nat} {k j : Nat} (hk : k + ps.length ≤ o.length) (hj : k + ps.length ≤ j) : dg (putL o k ps) j = dg o j := by
 unfold putL dg
 have hl : (o.take k ++ ps).length = k + ps.length := by rw [List.length_append, List.length_take]; omega
 rw [List.getElem?_append_right (by omega), hl, List.getElem?_drop, show k + ps.length + (j - (k + ps.length)) = j by omega]
theorem gr_refl (w : World) (r : Option Nat) : w.grownBy w r := ⟨rfl, rfl, rfl, Nat.le_refl _, fun _ _ _ => rfl⟩
theorem gr_set {a w : World} {r : Option Nat} (h : a.grownBy w r) {p : Addr} (hp : r = some p.block) (v : Value) : a.grownBy (w.setCell p v) r := ⟨h.os, h.tape, h.output, by rw [size_setCell]; exact h.size, fun k hk hne => (Below.heap_setCell _ _ _ _ (fun e => hne (by rw [hp, e]))).trans (h.block k hk hne)⟩
theorem put_nil (o : List Nat) (k : Nat) : putL o k [] = o := by simp [putL]
theorem div_off {S : Nat → Prop} {w : World} {g k n cap q : Nat} {o vs : List Nat} (vv : Value) (hrow : w.rowIs g 148 cap (rowU o)) (ho : o.length ≤ cap) (hol : ∀ z ∈ o, z < B32) (hkn : k + n < o.length) (hv : U32s S w vv vs) (hS : ∀ j, S j → j < w.heap.size ∧ j ≠ g) (lv : vs.length = n) (hq : q < B32) (hcap : cap ≤ 9223372036854775807) :
  Calls Tryz.prog 144 #[.slice (some ⟨g, k, none⟩) (n + 1) (n + 1), vv, .int .u64 (q : Nat)] w fun e w' => ∃ (ps : List Nat) (b : Nat), e = .returned (.bool (decide (b = 1))) ∧ b ≤ 1 ∧ ps.length = n + 1 ∧ (∀ z ∈ ps, z < B32) ∧ val B32 ps + q * val B32 vs = val B32 (partL o k n) + B32 ^ (n + 1) * b ∧
   w'.rowIs g 148 cap (rowU (putL o k ps)) ∧ w.grownBy w' (some g) ∧ w'.heap.size = w.heap.size := by
 have hnb : n + 1 ≤ 9223372036854775807 := by omega
 have HROW := hid hrow
 have HOL := hid hol
 have HKN := hid (And.intro ho hkn)
 have HV := hid hv
 have HQ := hid hq
 have hlv := hv.len_le
 obtain ⟨av, cv, rfl⟩ := hv.form
 rw [lv] at HV hlv ⊢
 have HLV := hid lv
 clear hrow hol hv ho hq lv
 go_enter Tryz.func144, Tryz.ntmps144
 go_wp2
 go_loopw [7, 8, 14] (fun s7 s8 s14 wr => ∃ (i c b : Nat) (ps : List Nat), s7 = .int .u64 (c : Nat) ∧ s8 = .int .u64 (b : Nat) ∧ s14 = .int .i64 (i : Nat) ∧ i ≤ n + 1 ∧ Hid (c < 4294967296 ∧ b ≤ 1 ∧ (n < i → c = 0) ∧ ps.length = i ∧ (∀ z ∈ ps, z < B32) ∧ val B32 ps + q * val B32 (vs.take i) = val B32 ((partL o k n).take i) + B32 ^ i * (b + c)) ∧
  wr.rowIs g 148 cap (rowU (putL o k ps)) ∧ w.grownBy wr (some g) ∧ wr.heap.size = w.heap.size) (fun _ _ s14 _ => n + 1 - (intOf s14).toNat)
 case atStart => exact ⟨0, 0, 0, [], rfl, rfl, rfl, Nat.zero_le _, hid ⟨by decide, by decide, fun h => rfl, rfl, by simp, by simp [val]⟩, by rw [put_nil]; exact HROW.out, gr_refl _ _, rfl⟩
 case round =>
  obtain ⟨i, c, b, ps, rfl, rfl, rfl, hi, HI, hrow, hgb, hsz⟩ := hrel
  have HR := hid hrow
  have HG := hid (And.intro hgb hsz)
  clear hrow hgb hsz
  by_cases hlt : i < n + 1
  ·obtain ⟨u, hu⟩ : ∃ u, u = dg (partL o k n) i := ⟨_, rfl⟩
   have hul : u < 4294967296 := by rw [hu, part_dg hlt]; exact dg_lt (by decide) HOL.out _
   have hcu : wr.cell? ⟨g, k + i, none⟩ = some (.int .u32 (u : Nat)) := by
    have h1 := HR.out.cell (i := k + i) (by have := HKN.out; omega)
    rw [h1, hu, part_dg hlt]
    have h2 := put_dg (o := o) (ps := ps) (k := k) (j := k + i) (by have := HI.out.2.2.2.1; omega) (by have := HI.out.2.2.2.1; omega)
    show some (Value.int .u32 (dg (putL o k ps) (k + i) : Nat)) = _
    rw [h2]
   have hfu := HR.out.frozen (k + i)
   have HU := hid hu
   by_cases hin : i < n
   ·obtain ⟨x, hx⟩ := some_of_lt (l := vs) (j := i) (by rw [HLV.out]; exact hin)
    obtain ⟨b1, o1, rfl, -, hn1, hm1, -, hxl, hcx⟩ := (HV.out.to (S' := S) (fun j hj => HG.out.1.block j (hS j hj).1 (fun e => (hS j hj).2 (Option.some.inj e))) (fun _ h => h)).cellAt hx
    have HX := hid (dg_some hx)
    obtain ⟨P, hP⟩ : ∃ P : Nat, P = q * x := ⟨_, rfl⟩
    have hPl : P ≤ 4294967295 * 4294967295 := by rw [hP]; exact Nat.mul_le_mul (by have h : q < 4294967296 := HQ.out; omega) (by omega)
    have hw1 : IntKind.u64.wrap ((q : Int) * (x : Int)) = (P : Int) := by
     have e : (q : Int) * (x : Int) = ((q * x : Nat) : Int) := (Int.natCast_mul q x).symm
     rw [e, ← hP]
     exact wrap_nat64 (by omega)
    obtain ⟨t, ht⟩ : ∃ t : Nat, t = c + P := ⟨_, rfl⟩
    have htl : t < 18446744073709551616 := by have := HI.out.1; omega
    have hw2 : IntKind.u64.wrap ((c : Int) + (P : Int)) = (t : Int) := by rw [← Int.natCast_add, ← ht]; exact wrap_nat64 htl
    obtain ⟨lo, hlo⟩ : ∃ lo : Nat, lo = t % 4294967296 := ⟨_, rfl⟩
    have hand : bits .and .u64 (t : Int) 4294967295 = (lo : Int) := by rw [and_low t htl, hlo]
    have HP := hid hP
    have HT := hid ht
    have HLO := hid hlo
    have HTL := hid htl
    have HUL := hid hul
    clear hx hu hP hPl ht hlo htl hul
    obtain ⟨b', d, hb', hd, e1, e2, hbal⟩ : ∃ b' d : Nat, b' ≤ 1 ∧ d < 4294967296 ∧ IntKind.u64.wrap (IntKind.u64.wrap (IntKind.u64.wrap (u : Int) - (lo : Int)) - (b : Int)) / 9223372036854775808 = (b' : Int) ∧ IntKind.u64.wrap (IntKind.u64.wrap (IntKind.u64.wrap (u : Int) - (lo : Int)) - (b : Int)) % 4294967296 = (d : Int) ∧ b + lo + d = u + 4294967296 * b' := by
     have h1 := HUL.out
     have h2 := HI.out.2.1
     have h3 : lo < 4294967296 := by rw [HLO.out]; exact Nat.mod_lt _ (by decide)
     simp only [IntKind.wrap_u64]
     by_cases hs : lo + b ≤ u
     ·exact ⟨0, u - lo - b, by omega, by omega, by omega, by omega, by omega⟩
     ·exact ⟨1, u + 4294967296 - lo - b, by omega, by omega, by omega, by omega, by omega⟩
    go_wp2
    go_roundw
    case rel =>
     refine ⟨i + 1, t / 4294967296, b', ps ++ [d], congrArg (Value.int .u64) (by omega), rfl, by go_num, by omega, hid ⟨by have h1 := HTL.out; omega, hb', (fun h => by omega), by simp [HI.out.2.2.2.1], ?_, ?_⟩, ?_, gr_set HG.out.1 rfl _, by rw [size_setCell]; exact HG.out.2⟩
     ·intro z hz
      rcases List.mem_append.1 hz with h | h
      ·exact HI.out.2.2.2.2.1 z h
      ·rw [List.mem_singleton.1 h]
       exact hd
     ·exact off_step HI.out.2.2.2.1 HI.out.2.2.2.2.2 HX.out HU.out.symm (by
       have h1 := HP.out
       have h2 := HT.out
       have h3 := HLO.out
       show b + c + q * x + d = u + 4294967296 * (b' + t / 4294967296)
       omega)
     ·have h1 := put_snoc HR.out (by have h2 := HI.out.2.2.2.1; have h3 := HKN.out; omega) d
      rwa [HI.out.2.2.2.1] at h1
    case measure => simp only [intOf]; omega
   ·obtain rfl : i = n := by omega
    obtain ⟨t, ht⟩ : ∃ t : Nat, t = c := ⟨_, rfl⟩
    obtain ⟨lo, hlo⟩ : ∃ lo : Nat, lo = t % 4294967296 := ⟨_, rfl⟩
    have htl : t < 18446744073709551616 := by have := HI.out.1; omega
    have hand : bits .and .u64 (c : Int) 4294967295 = (lo : Int) := by rw [← ht, and_low t htl, hlo]
    have HX : Hid (dg vs i = 0) := hid (dg_out (by rw [HLV.out]; exact Nat.le_refl _))
    have hc64 : IntKind.u64.wrap (c : Int) = (c : Int) := wrap_nat64 (by have := HI.out.1; omega)
    have HT := hid ht
    have HLO := hid hlo
    have HTL := hid htl
    have HUL := hid hul
    have HC0 : Hid (t / 4294967296 = 0) := hid (by have := HI.out.1; omega)
    clear hu ht hlo htl hul
    obtain ⟨b', d, hb', hd, e1, e2, hbal⟩ : ∃ b' d : Nat, b' ≤ 1 ∧ d < 4294967296 ∧ IntKind.u64.wrap (IntKind.u64.wrap (IntKind.u64.wrap (u : Int) - (lo : Int)) - (b : Int)) / 9223372036854775808 = (b' : Int) ∧ IntKind.u64.wrap (IntKind.u64.wrap (IntKind.u64.wrap (u : Int) - (lo : Int)) - (b : Int)) % 4294967296 = (d : Int) ∧ b + lo + d = u + 4294967296 * b' := by
     have h1 := HUL.out
     have h2 := HI.out.2.1
     have h3 : lo < 4294967296 := by rw [HLO.out]; exact Nat.mod_lt _ (by decide)
     simp only [IntKind.wrap_u64]
     by_cases hs : lo + b ≤ u
     ·exact ⟨0, u - lo - b, by omega, by omega, by omega, by omega, by omega⟩
     ·exact ⟨1, u + 4294967296 - lo - b, by omega, by omega, by omega, by omega, by omega⟩
    go_wp2
    go_roundw
    case rel =>
     refine ⟨i + 1, t / 4294967296, b', ps ++ [d], congrArg (Value.int .u64) (by have := HT.out; omega), rfl, by go_num, by omega, hid ⟨by have h1 := HTL.out; omega, hb', (fun h => HC0.out), by simp [HI.out.2.2.2.1], ?_, ?_⟩, ?_, gr_set HG.out.1 rfl _, by rw [size_setCell]; exact HG.out.2⟩
     ·intro z hz
      rcases List.mem_append.1 hz with h | h
      ·exact HI.out.2.2.2.2.1 z h
      ·rw [List.mem_singleton.1 h]
       exact hd
     ·exact off_step HI.out.2.2.2.1 HI.out.2.2.2.2.2 HX.out HU.out.symm (by
       have h2 := HT.out
       have h3 := HLO.out
       show b + c + q * 0 + d = u + 4294967296 * (b' + t / 4294967296)
       omega)
     ·have h1 := put_snoc HR.out (by have h2 := HI.out.2.2.2.1; have h3 := HKN.out; omega) d
      rwa [HI.out.2.2.2.1] at h1
    case measure => simp only [intOf]; omega
  ·obtain rfl : i = n + 1 := by omega
   go_wp2
   all_goals
    go_ret
    obtain ⟨h1, h2, h3, h4, h5, h6⟩ := HI.out
    have hc0 := h3 (by omega)
    rw [hc0, Nat.add_zero, List.take_of_length_le (by rw [HLV.out]; omega), List.take_of_length_le (by rw [part_len HKN.out.2]; exact Nat.le_refl _)] at h6
    refine ⟨ps, b, ?_, h2, h4, h5, h6, HR.out, HG.out⟩
    show Ending.returned (Value.bool ((b : Int) == 1)) = _
    rcases (show b = 0 ∨ b = 1 by omega) with rfl | rfl <;> rfl
theorem div_on {S : Nat → Prop} {w : World} {g k n cap : Nat} {o vs : List Nat} (vv : Value) (hrow : w.rowIs g 148 cap (rowU o)) (ho : o.length ≤ cap) (hol : ∀ z ∈ o, z < B32) (hkn : k + n < o.length) (hv : U32s S w vv vs) (hS : ∀ j, S j → j < w.heap.size ∧ j ≠ g) (lv : vs.length = n) (hcap : cap ≤ 9223372036854775807) :
  Calls Tryz.prog 145 #[.slice (some ⟨g, k, none⟩) (n + 1) (n + 1), vv] w fun e w' => ∃ ps : List Nat, e = .returned (.tuple #[]) ∧ ps.length = n + 1 ∧ (∀ z ∈ ps, z < B32) ∧ val B32 ps = (val B32 (partL o k n) + val B32 vs) % B32 ^ (n + 1) ∧
   w'.rowIs g 148 cap (rowU (putL o k ps)) ∧ w.grownBy w' (some g) ∧ w'.heap.size = w.heap.size := by
 have hnb : n + 1 ≤ 9223372036854775807 := by omega
 have HROW := hid hrow
 have HOL := hid hol
 have HKN := hid (And.intro ho hkn)
 have HV := hid hv
 have hlv := hv.len_le
 obtain ⟨av, cv, rfl⟩ := hv.form
 rw [lv] at HV hlv ⊢
 have HLV := hid lv
 clear hrow hol hv ho lv
 go_enter Tryz.func145, Tryz.ntmps145
 go_wp2
 go_loopw [4, 8] (fun s4 s8 wr => ∃ (i c : Nat) (ps : List Nat), s4 = .int .u64 (c : Nat) ∧ s8 = .int .i64 (i : Nat) ∧ i ≤ n + 1 ∧ Hid (c ≤ 1 ∧ ps.length = i ∧ (∀ z ∈ ps, z < B32) ∧ val B32 ps + B32 ^ i * c = val B32 ((partL o k n).take i) + val B32 (vs.take i)) ∧
  wr.rowIs g 148 cap (rowU (putL o k ps)) ∧ w.grownBy wr (some g) ∧ wr.heap.size = w.heap.size) (fun _ s8 _ => n + 1 - (intOf s8).toNat)
 case atStart => exact ⟨0, 0, [], rfl, rfl, Nat.zero_le _, hid ⟨by decide, rfl, by simp, by simp [val]⟩, by rw [put_nil]; exact HROW.out, gr_refl _ _, rfl⟩
 case round =>
  obtain ⟨i, c, ps, rfl, rfl, hi, HI, hrow, hgb, hsz⟩ := hrel
  have HR := hid hrow
  have HG := hid (And.intro hgb hsz)
  clear hrow hgb hsz
  by_cases hlt : i < n + 1
  ·obtain ⟨u, hu⟩ : ∃ u, u = dg (partL o k n) i := ⟨_, rfl⟩
   have hul : u < 4294967296 := by rw [hu, part_dg hlt]; exact dg_lt (by decide) HOL.out _
   have hcu : wr.cell? ⟨g, k + i, none⟩ = some (.int .u32 (u : Nat)) := by
    have h1 := HR.out.cell (i := k + i) (by have := HKN.out; omega)
    rw [h1, hu, part_dg hlt]
    have h2 := put_dg (o := o) (ps := ps) (k := k) (j := k + i) (by have := HI.out.2.1; omega) (by have := HI.out.2.1; omega)
    show some (Value.int .u32 (dg (putL o k ps) (k + i) : Nat)) = _
    rw [h2]
   have hfu := HR.out.frozen (k + i)
   have HU := hid hu
   have HUL := hid hul
   obtain ⟨P, hP⟩ : ∃ P : Nat, P = c + u := ⟨_, rfl⟩
   have hw1 : IntKind.u64.wrap ((c : Int) + (u : Int)) = (P : Int) := by rw [← Int.natCast_add, ← hP]; exact wrap_nat64 (by have := HI.out.1; omega)
   have hu64 : IntKind.u64.wrap (u : Int) = (u : Int) := wrap_nat64 (by omega)
   have HP := hid hP
   clear hu hul hP
   by_cases hin : i < n
   ·obtain ⟨x, hx⟩ := some_of_lt (l := vs) (j := i) (by rw [HLV.out]; exact hin)
    obtain ⟨b1, o1, rfl, -, hn1, hm1, -, hxl, hcx⟩ := (HV.out.to (S' := S) (fun j hj => HG.out.1.block j (hS j hj).1 (fun e => (hS j hj).2 (Option.some.inj e))) (fun _ h => h)).cellAt hx
    have HX := hid (dg_some hx)
    have hx64 : IntKind.u64.wrap (x : Int) = (x : Int) := wrap_nat64 (by omega)
    obtain ⟨t, ht⟩ : ∃ t : Nat, t = P + x := ⟨_, rfl⟩
    have htl : t < 18446744073709551616 := by have h1 := HI.out.1; have h2 := HUL.out; have h3 := HP.out; omega
    have hw2 : IntKind.u64.wrap ((P : Int) + (x : Int)) = (t : Int) := by rw [← Int.natCast_add, ← ht]; exact wrap_nat64 htl
    have HT := hid ht
    have HXL := hid hxl
    clear hx hxl ht htl
    go_wp2
    go_roundw
    case rel =>
     refine ⟨i + 1, t / 4294967296, ps ++ [t % 4294967296], rfl, by go_num, by omega, hid ⟨by have h1 := HI.out.1; have h2 := HUL.out; have h3 := HP.out; have h4 := HT.out; have h5 := HXL.out; omega, by simp [HI.out.2.1], ?_, ?_⟩, ?_, gr_set HG.out.1 rfl _, by rw [size_setCell]; exact HG.out.2⟩
     ·intro z hz
      rcases List.mem_append.1 hz with h | h
      ·exact HI.out.2.2.1 z h
      ·rw [List.mem_singleton.1 h]
       exact Nat.mod_lt _ (by decide)
     ·have h1 := on_step (B := B32) HI.out.2.1 HI.out.2.2.2 HX.out HU.out.symm
      have h2 : c + u + x = t := by rw [HT.out, HP.out]
      rwa [h2] at h1
     ·have h1 := put_snoc HR.out (by have h2 := HI.out.2.1; have h3 := HKN.out; omega) (t % 4294967296)
      rwa [HI.out.2.1] at h1
    case measure => simp only [intOf]; omega
   ·obtain rfl : i = n := by omega
    have HX : Hid (dg vs i = 0) := hid (dg_out (by rw [HLV.out]; exact Nat.le_refl _))
    obtain ⟨t, ht⟩ : ∃ t : Nat, t = P := ⟨_, rfl⟩
    have HT : Hid (t = P + 0) := hid ht
    have hc64 : IntKind.u64.wrap (P : Int) = (P : Int) := wrap_nat64 (by have h1 := HI.out.1; have h2 := HUL.out; have h3 := HP.out; omega)
    subst ht
    go_wp2
    go_roundw
    case rel =>
     refine ⟨i + 1, t / 4294967296, ps ++ [t % 4294967296], rfl, by go_num, by omega, hid ⟨by have h1 := HI.out.1; have h2 := HUL.out; have h3 := HP.out; have h4 := HT.out; omega, by simp [HI.out.2.1], ?_, ?_⟩, ?_, gr_set HG.out.1 rfl _, by rw [size_setCell]; exact HG.out.2⟩
     ·intro z hz
      rcases List.mem_append.1 hz with h | h
      ·exact HI.out.2.2.1 z h
      ·rw [List.mem_singleton.1 h]
       exact Nat.mod_lt _ (by decide)
     ·have h1 := on_step (B := B32) HI.out.2.1 HI.out.2.2.2 HX.out HU.out.symm
      have h2 : c + u + 0 = t := by rw [HT.out, HP.out]
      rwa [h2] at h1
     ·have h1 := put_snoc HR.out (by have h2 := HI.out.2.1; have h3 := HKN.out; omega) (t % 4294967296)
      rwa [HI.out.2.1] at h1
    case measure => simp only [intOf]; omega
  ·obtain rfl : i = n + 1 := by omega
   go_wp2
   all_goals
    first | go_end0 | refine bodyPost_ret (results_none rfl _ _ _) rfl ?_
    obtain ⟨h1, h2, h3, h4⟩ := HI.out
    rw [List.take_of_length_le (by rw [part_len HKN.out.2]; exact Nat.le_refl _), List.take_of_length_le (by rw [HLV.out]; omega)] at h4
    have h5 := val_lt (B := B32) ps h3
    rw [h2] at h5
    refine ⟨ps, rfl, h2, h3, ?_, HR.out, HG.out⟩
    rw [← h4, Nat.add_mul_mod_self_left, Nat.mod_eq_of_lt h5]
end
section
open Go.RowKit
theorem nat_may (s : Nat) (hs : s < 32) (w : World) : Calls Tryz.prog 153 #[.int .i64 (s : Nat)] w fun e w' => e = .returned (.bool true) ∧ w = w' := by
 have h1 : (0 : Int) ≤ (s : Int) := by omega
 have h2 : (s : Int) ≤ 31 := by omega
 go_enter Tryz.func153, Tryz.ntmps153
 go_wp2
 all_goals
  go_ret
  exact ⟨congrArg (fun b => Ending.returned (Value.bool b)) (decide_eq_true (by omega)), rfl⟩
theorem two_split {s : Nat} (hs : s < 32) : 2 ^ (32 - s) * 2 ^ s = B32 := by
 rw [← Nat.pow_add, show 32 - s + s = 32 by omega]
theorem shl_limb {x s c : Nat} (hx : x < B32) (hs : s < 32) (hc : c < 2 ^ s) : c + x * 2 ^ s % B32 < B32 ∧ x * 2 ^ s / B32 < 2 ^ s ∧ x * 2 ^ s % B32 % 2 ^ s = 0 := by
 have hB := two_split hs
 have hP : 0 < 2 ^ s := Nat.pow_pos (by decide)
 rw [← hB, Nat.mul_mod_mul_right, Nat.mul_div_mul_right _ _ hP]
 have hK : x % 2 ^ (32 - s) < 2 ^ (32 - s) := Nat.mod_lt _ (Nat.pow_pos (by decide))
 refine ⟨?_, ?_, Nat.mul_mod_left _ _⟩
 ·have h1 : (x % 2 ^ (32 - s) + 1) * 2 ^ s ≤ 2 ^ (32 - s) * 2 ^ s := Nat.mul_le_mul_right _ hK
  rw [Nat.add_mul, Nat.one_mul] at h1
  omega
 ·refine Nat.div_lt_of_lt_mul ?_
  rw [hB]
  exact hx
theorem or_low (s c m : Nat) (hs : s < 32) (hc : c < 2 ^ s) (hm : m < B32) (hd : m % 2 ^ s = 0) : bits .or .u32 (c : Int) (m : Int) = ((c + m : Nat) : Int) := by
 have hk : ∀ n : Int, 0 ≤ n → n < 2 ^ 32 → IntKind.u32.wrap n = n := fun n h0 h1 => by rw [IntKind.wrap_u32]; omega
 have hc32 : c < 2 ^ 32 := Nat.lt_of_lt_of_le hc (Nat.pow_le_pow_right (by decide) (by omega))
 have hm32 : m < 2 ^ 32 := hm
 rw [(bits_nat .u32 32 (by decide) hk c m hc32 hm32).2, Nat.or_comm]
 have h := bits_join .u32 32 (by decide) hk s (m : Int) (c : Int) (by omega) (by exact_mod_cast hd) (by exact_mod_cast hm32) (by omega) (by exact_mod_cast hc) (by exact_mod_cast hc32)
 rw [(bits_nat .u32 32 (by decide) hk m c hm32 hc32).2] at h
 rw [h]
 omega
theorem rowU_same {o o' : List Nat} (h : ∀ j, dg o j = dg o' j) : rowU o = rowU o' := funext fun j => by unfold rowU; rw [h]
theorem dg_snoc (o : List Nat) (z j : Nat) : dg (o ++ [z]) j = if j < o.length then dg o j else if j = o.length then z else 0 := by
 unfold dg
 rw [List.getElem?_append]
 split
 ·rfl
 ·rename_i h
  split
  ·rename_i h2
   rw [h2, Nat.sub_self]
   rfl
  ·rename_i h2
   rw [List.getElem?_eq_none (by simp; omega)]
   rfl
theorem dg_val {B : Nat} (hB : 0 < B) (l : List Nat) (hl : ∀ d ∈ l, d < B) (j : Nat) : dg l j = val B l / B ^ j % B := by
 induction l generalizing j with
 | nil => simp [dg, val]
 | cons d l ih =>
  have hd := hl d (List.mem_cons_self ..)
  cases j with
  | zero =>
   show d = (d + B * val B l) / B ^ 0 % B
   rw [Nat.pow_zero, Nat.div_one, Nat.add_mul_mod_self_left, Nat.mod_eq_of_lt hd]
  | succ j =>
   show dg l j = (d + B * val B l) / B ^ (j + 1) % B
   rw [ih (fun z hz => hl z (List.mem_cons_of_mem _ hz)) j, Nat.pow_succ, Nat.mul_comm (B ^ j) B, ← Nat.div_div_eq_div_mul, Nat.add_mul_div_left _ _ hB, Nat.div_eq_of_lt hd, Nat.zero_add]
theorem dg_rep {o : List Nat} (ho : ∀ z ∈ o, z < B32) (n : Nat) (hn : val B32 o = n) (j : Nat) : dg o j = dg (rep B32 n) j := by
 rw [dg_val (by decide) _ ho, dg_val (by decide) _ (rep_lt two_le_B32 n), val_rep two_le_B32, hn]
theorem trim_len (zs : List Nat) (hl : ∀ z ∈ zs, z < B32) {k : Nat} (ht : trimTo zs k = trimTo zs zs.length) : trimTo zs k = (rep B32 (val B32 zs)).length := by
 rw [← trimL_rep two_le_B32 zs hl, ← List.take_length (l := zs), ← trimTo_take zs _ (Nat.le_refl _), List.take_length, List.length_take, ht]
 have := trimTo_le zs zs.length
 omega
theorem nat_short_in {S : Nat → Prop} (a : Option Addr) (cap : Nat) (zs : List Nat) (w : World) (h : U32s S w (.slice a zs.length cap) zs) :
  Calls Tryz.prog 121 #[.slice a zs.length cap] w fun e w' => e = .returned (.slice a (rep B32 (val B32 zs)).length cap) ∧ w = w' := by
 have hl := h.len_le
 have H := hid h
 clear h
 go_enter Tryz.func121, Tryz.ntmps121
 go_wp2
 go_loop [0] (fun x => ∃ k : Nat, k ≤ zs.length ∧ x = .slice a k cap ∧ trimTo zs k = trimTo zs zs.length) (fun x => sliceLen x)
 case atStart => exact ⟨zs.length, Nat.le_refl _, rfl, rfl⟩
 case round =>
  obtain ⟨k, hk, rfl, ht⟩ := hrel
  cases k with
  | zero =>
   have HT := hid ht
   clear ht
   go_wp2
   all_goals
    go_ret
    refine ⟨?_, rfl⟩
    rw [← trim_len zs H.out.lt HT.out]
    rfl
  | succ k =>
   obtain ⟨z, hz⟩ := some_of_lt (show k < zs.length by omega)
   obtain ⟨b, off, cap', hv, hcap, hmax, hzb, hcell⟩ := H.out.at hz
   obtain ⟨rfl, -, rfl⟩ : a = some ⟨b, off, none⟩ ∧ True ∧ cap = cap' := by simpa using hv
   have HT := hid ht
   have HZ := hid hz
   clear ht hz hv
   by_cases h0 : z = 0
   ·have hb : ((z : Int) == 0) = true := by simpa using h0
    have H0 := hid h0
    clear h0
    go_wp2
    go_round
    case rel => exact ⟨k, by omega, rfl, by rw [← HT.out, trimTo, HZ.out, H0.out, if_pos rfl]⟩
    case measure => simp only [sliceLen]; omega
   ·have hb : ((z : Int) == 0) = false := by simpa using h0
    have H0 := hid h0
    clear h0
    go_wp2
    all_goals
     go_ret
     refine ⟨?_, rfl⟩
     have h2 : trimTo zs (k + 1) = k + 1 := by rw [trimTo, HZ.out, if_neg (by simpa using H0.out)]
     rw [← trim_len zs H.out.lt HT.out, h2]
     rfl
theorem nat_shl {S : Nat → Prop} (v : Value) (zs : List Nat) (s : Nat) (w : World) (h : U32s S w v zs) (hS : ∀ k, S k → k < w.heap.size) (hr : zs.length ≤ 1000000000000) (hs : s < 32) :
  Calls Tryz.prog 142 #[v, .int .i64 (s : Nat)] w fun e w' => ∃ g, e = .returned (.tuple #[.slice (some ⟨g, 0, none⟩) (rep B32 (val B32 zs * 2 ^ s)).length ((rep B32 (val B32 zs)).length + 1), .int .i64 0]) ∧ w.heap.size ≤ g ∧ g < w'.heap.size ∧
   w'.rowIs g 148 ((rep B32 (val B32 zs)).length + 1) (rowU (rep B32 (val B32 zs * 2 ^ s))) ∧ Ext w w' := by
 have hle : (rep B32 (val B32 zs)).length ≤ zs.length := rep_len_le two_le_B32 _ _ (val_lt zs h.lt)
 have H := hid h
 obtain ⟨a, cap, rfl⟩ := h.form
 clear h
 have CM := hid (nat_may s hs w)
 go_enter Tryz.func142, Tryz.ntmps142
 go_wp2_with fail
 refine CM.out.mono ?_
 rintro e w1 ⟨rfl, rfl⟩
 go_wp2_with fail
 refine (nat_short _ zs _ H.out).mono ?_
 rintro e w' ⟨v', rfl, hu, rfl⟩
 have hx1 : ((s : Int)).tdiv 32 = 0 := by rw [Int.tdiv_eq_ediv_of_nonneg (by omega)]; omega
 have hx2 : ((s : Int)).tmod 32 = (s : Int) := by rw [Int.tmod_eq_emod_of_nonneg (by omega)]; omega
 obtain ⟨L, hL⟩ : ∃ L, L = (rep B32 (val B32 zs)).length := ⟨_, rfl⟩
 have HU := hid hu
 obtain ⟨a', c', rfl⟩ := hu.form
 rw [← hL] at HU hle ⊢
 have hmk := run_make_row' (P := Tryz.prog) 24 148 (.int .u32 0) 4 Tryz.underlying24 Tryz.infoU32 rfl .i64 .i64 (L + 1) (by omega) (by omega) w
 rw [show ((L + 1 : Nat) : Int) = (L : Int) + 1 by omega] at hmk
 obtain ⟨V, hV⟩ : ∃ V, V = val B32 zs := ⟨_, rfl⟩
 rw [← hV] at HU hL
 have HL := hid hL
 have HLE := hid hle
 have HV := hid hV
 have HZ0 := hid (rowU_zeros w (L + 1) 148)
 have HX0 := hid (Ext.alloc (Ext.refl w) (.cells (madeCells #[.int .u32 0] (L + 1)) 148))
 clear hu hL hV
 go_wp2
 go_loopw [24] (fun s24 wr => ∃ (i c : Nat) (o : List Nat), s24 = .int .i64 (i : Nat) ∧ i ≤ L ∧ Hid (c < 2 ^ s ∧ o.length = i ∧ (∀ z ∈ o, z < B32) ∧ val B32 o + B32 ^ i * c = val B32 ((rep B32 V).take i) * 2 ^ s) ∧
  wr.rowIs w.heap.size 148 (L + 1) (rowU (o ++ [c])) ∧ Ext w wr) (fun s24 _ => L - (intOf s24).toNat)
 case atStart =>
  refine ⟨0, 0, [], rfl, Nat.zero_le _, hid ⟨Nat.pow_pos (by decide), rfl, by simp, by simp [val]⟩, ?_, HX0.out⟩
  have e : rowU ([] ++ [0]) = rowU (List.replicate (L + 1) 0) := rowU_same fun j => by rw [w_dg_zeros, dg_snoc]; simp
  rw [e]
  exact HZ0.out
 case round =>
  obtain ⟨i, c, o, rfl, hi, HI, hrow, hx⟩ := hrel
  have HR := hid hrow
  have HX := hid hx
  by_cases hlt : i < L
  ·obtain ⟨x, hx1⟩ := some_of_lt (l := rep B32 V) (j := i) (by rw [← HL.out]; exact hlt)
   obtain ⟨b1, o1, rfl, -, hn1, hm1, -, hxb, hc1⟩ := (HU.out.to (Kept.ext hx hS) (fun _ h => h)).cellAt hx1
   have hc2 : wr.cell? ⟨w.heap.size, i, none⟩ = some (.int .u32 (c : Nat)) := by
    have h1 := hrow.cell (i := i) (by omega)
    rw [h1]
    show some (Value.int .u32 (dg (o ++ [c]) i : Nat)) = _
    rw [dg_snoc, if_neg (by have := HI.out.2.1; omega), if_pos HI.out.2.1.symm]
   have hf2 := hrow.frozen i
   have hc3 : wr.cell? ⟨w.heap.size, i + 1, none⟩ = some (.int .u32 0) := by
    have h1 := hrow.cell (i := i + 1) (by omega)
    rw [h1]
    show some (Value.int .u32 (dg (o ++ [c]) (i + 1) : Nat)) = _
    rw [dg_snoc, if_neg (by have := HI.out.2.1; omega), if_neg (by have := HI.out.2.1; omega)]
    rfl
   have hf3 := hrow.frozen (i + 1)
   obtain ⟨q1, q2, q3⟩ := shl_limb hxb hs HI.out.1
   obtain ⟨t, ht⟩ : ∃ t, t = x * 2 ^ s := ⟨_, rfl⟩
   rw [← ht] at q1 q2 q3
   have htl : t < 18446744073709551616 := by
    have h1 : x * 2 ^ s < 4294967296 * 2 ^ s := Nat.mul_lt_mul_of_pos_right hxb (Nat.pow_pos (by decide))
    have h2 : 2 ^ s < 2 ^ 32 := Nat.pow_lt_pow_right (by decide) hs
    have h3 : (2 : Nat) ^ 32 = 4294967296 := by decide
    omega
   have hsh : IntKind.u64.wrap ((x : Int) * 2 ^ s) = (t : Int) := by
    have e : (x : Int) * 2 ^ s = ((x * 2 ^ s : Nat) : Int) := by push_cast; rfl
    rw [e, ← ht]
    exact wrap_nat64 htl
   obtain ⟨lo, hlo⟩ : ∃ lo, lo = t % B32 := ⟨_, rfl⟩
   obtain ⟨h, hh⟩ : ∃ h, h = t / B32 := ⟨_, rfl⟩
   rw [← hlo] at q1 q3
   rw [← hh] at q2
   have hlo' : (t : Int) % 4294967296 = (lo : Int) := by rw [hlo]; rfl
   have hhi' : (t : Int) / 4294967296 = (h : Int) := by rw [hh]; rfl
   have hh2 : (h : Int) % 4294967296 = (h : Int) := by
    have h1 : h < 4294967296 := by rw [hh]; show t / 4294967296 < 4294967296; omega
    omega
   have hor : bits .or .u32 (c : Int) (lo : Int) = ((c + lo : Nat) : Int) := or_low s c lo hs HI.out.1 (by omega) q3
   have HQ := hid (And.intro q1 q2)
   have HT := hid (And.intro ht (And.intro hlo hh))
   have HX1 := hid hx1
   have HXB := hid hxb
   have hx64 : IntKind.u64.wrap (x : Int) = (x : Int) := wrap_nat64 (Nat.lt_trans hxb (by decide))
   clear hrow hx q1 q2 q3 ht hlo hh hx1 htl hxb
   go_wp2
   obtain ⟨HI1, HI2, HI3, HI4⟩ := HI.out
   refine ⟨⟨i + 1, h, o ++ [c + lo], rfl, by omega, hid ⟨HQ.out.2, by simp [HI2], ?_, ?_⟩, ?_, ?_⟩, ?_⟩
   ·intro z hz
    rcases List.mem_append.1 hz with h1 | h1
    ·exact HI3 z h1
    ·rw [List.mem_singleton.1 h1]; exact HQ.out.1
   ·rw [val_snoc, HI2, val_take_succ HX1.out, Nat.add_mul, ← HI4, Nat.mul_assoc, ← HT.out.1]
    have h3 : t = lo + B32 * h := by rw [HT.out.2.1, HT.out.2.2]; exact (Nat.mod_add_div t B32).symm
    rw [h3, Nat.pow_succ, Nat.mul_add, Nat.mul_add, Nat.mul_assoc]
    omega
   ·have h1 := rowU_set HR.out i (c + lo) (by simp; omega)
    have e : (o ++ [c]).set i (c + lo) = o ++ [c + lo] := by rw [← HI2]; simp
    rw [e] at h1
    have h2 := rowU_snoc h1 h
    have e2 : (o ++ [c + lo]).length = i + 1 := by simp [HI2]
    rw [e2] at h2
    have e3 : ((c + lo : Nat) : Int) = (c : Int) + (lo : Int) := by push_cast; rfl
    rw [e3] at h2
    exact h2
   ·exact (HX.out.setCell (Nat.le_refl _) _).setCell (Nat.le_refl _) _
   ·simp only [intOf]; omega
  ·obtain rfl : i = L := by omega
   obtain ⟨HI1, HI2, HI3, HI4⟩ := HI.out
   have hol : ∀ z ∈ o ++ [c], z < B32 := by
    intro z hz
    rcases List.mem_append.1 hz with h1 | h1
    ·exact HI3 z h1
    ·rw [List.mem_singleton.1 h1]
     exact Nat.lt_of_lt_of_le HI1 (show 2 ^ s ≤ 2 ^ 32 from Nat.pow_le_pow_right (by decide) (by omega))
   have hval : val B32 (o ++ [c]) = V * 2 ^ s := by
    rw [val_snoc, HI2, HI4, HL.out, List.take_length, val_rep two_le_B32]
   have hu : U32s (fun k => k = w.heap.size) wr (.slice (some ⟨w.heap.size, 0, none⟩) (o ++ [c]).length (i + 1)) (o ++ [c]) := U32s.of_row hrow (by simp; omega) hol (by omega)
   have CS := hid (nat_short_in _ _ _ _ hu)
   have e2 : (o ++ [c]).length = i + 1 := by simp [HI2]
   rw [e2, hval] at CS
   have HS : Hid (wr.rowIs w.heap.size 148 (i + 1) (rowU (rep B32 (V * 2 ^ s)))) := hid (by
    rw [← rowU_same (dg_rep hol _ hval)]
    exact hrow)
   clear hrow hx HI1 HI2 HI3 HI4 hol hval hu e2
   go_wp2_with fail
   refine CS.out.mono ?_
   rintro e w' ⟨rfl, rfl⟩
   go_wp2
   all_goals
    go_ret2
    have hl := HL.out
    have hs2 := HS.out
    rw [HV.out] at hl hs2
    rw [← hl, ← HV.out]
    rw [← HV.out] at hs2
    exact ⟨_, rfl, Nat.le_refl _, HS.out.lt, hs2, HX.out⟩
end
section
open Go.RowKit
theorem shr_digit {N s i x y r : Nat} (hs : s < 32) (h : N / B32 ^ i = x + B32 * (y + B32 * r)) : N / 2 ^ s / B32 ^ i % B32 = (x + B32 * y) / 2 ^ s % B32 := by
 have hB := two_split hs
 have hP : 0 < 2 ^ s := Nat.pow_pos (by decide)
 have e : N / 2 ^ s / B32 ^ i = N / B32 ^ i / 2 ^ s := by rw [Nat.div_div_eq_div_mul, Nat.div_div_eq_div_mul, Nat.mul_comm]
 have e2 : x + B32 * (y + B32 * r) = (x + B32 * y) + 2 ^ s * (2 ^ (32 - s) * (B32 * r)) := by
  rw [Nat.mul_add, ← Nat.mul_assoc (2 ^ s), Nat.mul_comm (2 ^ s), hB]
  omega
 rw [e, h, e2, Nat.add_mul_div_left _ _ hP, show 2 ^ (32 - s) * (B32 * r) = B32 * (2 ^ (32 - s) * r) from Nat.mul_left_comm _ _ _, Nat.add_mul_mod_self_left]
theorem shr_next {M i d : Nat} {o : List Nat} (hv : val B32 o = M % B32 ^ i) (ho : o.length = i) (hd : d = M / B32 ^ i % B32) : val B32 (o ++ [d]) = M % B32 ^ (i + 1) := by
 rw [val_snoc, ho, hv, hd, Nat.pow_succ, Nat.mod_mul]
theorem drop_two (l : List Nat) (hl : ∀ z ∈ l, z < B32) (i : Nat) : val B32 l / B32 ^ i = dg l i + B32 * (dg l (i + 1) + B32 * val B32 (l.drop (i + 2))) := by
 rw [← val_drop_dg, ← val_drop_dg]
 have h := val_split (B := B32) l i
 by_cases hi : i ≤ l.length
 ·rw [Nat.min_eq_left hi] at h
  have h2 : val B32 (l.take i) < B32 ^ i := by
   have h3 := val_lt (l.take i) (fun z hz => hl z (List.mem_of_mem_take hz))
   rwa [List.length_take, Nat.min_eq_left hi] at h3
  rw [h, Nat.add_mul_div_left _ _ (Nat.pow_pos (by decide)), Nat.div_eq_of_lt h2, Nat.zero_add]
 ·rw [List.drop_eq_nil_of_le (by omega)]
  have h3 := val_lt l hl
  have h4 : B32 ^ l.length ≤ B32 ^ i := Nat.pow_le_pow_right (by decide) (by omega)
  rw [Nat.div_eq_of_lt (by omega)]
  rfl
theorem or_high64 (x y : Nat) (hx : x < B32) (hy : y < B32) : bits .or .u64 (x : Int) ((y : Int) * 4294967296) = ((x + B32 * y : Nat) : Int) := by
 have hx64 : x < 2 ^ 64 := Nat.lt_trans hx (by decide)
 have hy64 : y * 4294967296 < 2 ^ 64 := by
  have h : y < 4294967296 := hy
  show y * 4294967296 < 18446744073709551616
  omega
 have e : (y : Int) * 4294967296 = ((y * 4294967296 : Nat) : Int) := by omega
 rw [e, (bits_nat .u64 64 (by decide) wraps_u64' x _ hx64 hy64).2, Nat.or_comm]
 have h := or_limbs y x hy hx
 rw [e, (bits_nat .u64 64 (by decide) wraps_u64' _ x hy64 hx64).2] at h
 rw [h]
 show ((y * 4294967296 + x : Nat) : Int) = ((x + 4294967296 * y : Nat) : Int)
 omega
theorem nat_shr {S : Nat → Prop} (v : Value) (zs : List Nat) (s : Nat) (w : World) (h : U32s S w v zs) (hS : ∀ k, S k → k < w.heap.size) (hr : zs.length ≤ 1000000000000) (hs : s < 32) :
  Calls Tryz.prog 146 #[v, .int .i64 (s : Nat)] w fun e w' => ∃ v', e = .returned (.tuple #[v', .int .i64 0]) ∧ U32s (New w w') w' v' (rep B32 (val B32 zs / 2 ^ s)) ∧ Ext w w' := by
 have hle : (rep B32 (val B32 zs)).length ≤ zs.length := rep_len_le two_le_B32 _ _ (val_lt zs h.lt)
 have H := hid h
 obtain ⟨a, cap, rfl⟩ := h.form
 clear h
 have CM := hid (nat_may s hs w)
 go_enter Tryz.func146, Tryz.ntmps146
 go_wp2_with fail
 refine CM.out.mono ?_
 rintro e w1 ⟨rfl, rfl⟩
 go_wp2_with fail
 refine (nat_short _ zs _ H.out).mono ?_
 rintro e w' ⟨v', rfl, hu, rfl⟩
 have hx1 : ((s : Int)).tdiv 32 = 0 := by rw [Int.tdiv_eq_ediv_of_nonneg (by omega)]; omega
 have hx2 : ((s : Int)).tmod 32 = (s : Int) := by rw [Int.tmod_eq_emod_of_nonneg (by omega)]; omega
 obtain ⟨L, hL⟩ : ∃ L, L = (rep B32 (val B32 zs)).length := ⟨_, rfl⟩
 have HU := hid hu
 obtain ⟨a', c', rfl⟩ := hu.form
 rw [← hL] at HU hle ⊢
 have hmk := run_make_row' (P := Tryz.prog) 24 148 (.int .u32 0) 4 Tryz.underlying24 Tryz.infoU32 rfl .i64 .i64 L (by omega) (by omega) w
 obtain ⟨V, hV⟩ : ∃ V, V = val B32 zs := ⟨_, rfl⟩
 rw [← hV] at HU hL
 have HL := hid hL
 have HV := hid hV
 have HLE := hid hle
 have HZ0 := hid (rowU_zeros w L 148)
 have HX0 := hid (Ext.alloc (Ext.refl w) (.cells (madeCells #[.int .u32 0] L) 148))
 clear hu hL hV
 go_wp2
 go_loopw [26] (fun s26 wr => ∃ (i : Nat) (o : List Nat), s26 = .int .i64 (i : Nat) ∧ i ≤ L ∧ Hid (o.length = i ∧ (∀ z ∈ o, z < B32) ∧ val B32 o = V / 2 ^ s % B32 ^ i) ∧
  wr.rowIs w.heap.size 148 L (rowU o) ∧ Ext w wr) (fun s26 _ => L - (intOf s26).toNat)
 case atStart =>
  refine ⟨0, [], rfl, Nat.zero_le _, hid ⟨rfl, by simp, by simp [val, Nat.mod_one]⟩, ?_, HX0.out⟩
  have e : rowU [] = rowU (List.replicate L 0) := rowU_same fun j => by rw [w_dg_zeros]; rfl
  rw [e]
  exact HZ0.out
 case round =>
  obtain ⟨i, o, rfl, hi, HI, hrow, hx⟩ := hrel
  have HR := hid hrow
  have HX := hid hx
  by_cases hlt : i < L
  ·obtain ⟨x, hx1⟩ := some_of_lt (l := rep B32 V) (j := i) (by rw [← HL.out]; exact hlt)
   obtain ⟨b1, o1, hav, -, hn1, hm1, -, hxb, hc1⟩ := (HU.out.to (Kept.ext hx hS) (fun _ h => h)).cellAt hx1
   have hf2 := hrow.frozen i
   have hc2 : wr.cell? ⟨w.heap.size, i, none⟩ = some (.int .u32 0) := by
    rw [hrow.cell (i := i) hlt]
    show some (Value.int .u32 (dg o i : Nat)) = _
    rw [dg_out (by have := HI.out.1; omega)]
    rfl
   have HX1 := hid hx1
   have HXB := hid hxb
   have HD := hid (drop_two (rep B32 V) (rep_lt two_le_B32 V) i)
   rw [val_rep two_le_B32, dg_some hx1] at HD
   have fin : ∀ t : Nat, t / 2 ^ s % B32 = V / 2 ^ s / B32 ^ i % B32 → (∃ (i_1 : Nat) (o : List Nat), Value.int IntKind.i64 ((i : Int) + 1) = Value.int IntKind.i64 (i_1 : Nat) ∧ i_1 ≤ L ∧
     Hid (o.length = i_1 ∧ (∀ (z : Nat), z ∈ o → z < B32) ∧ val B32 o = V / 2 ^ s % B32 ^ i_1) ∧
      (wr.setCell ⟨w.heap.size, i, none⟩ (Value.int IntKind.u32 ((t : Int) / 2 ^ s % 4294967296))).rowIs w.heap.size 148 L (rowU o) ∧
       Ext w (wr.setCell ⟨w.heap.size, i, none⟩ (Value.int IntKind.u32 ((t : Int) / 2 ^ s % 4294967296)))) ∧
     L - (intOf (Value.int IntKind.i64 ((i : Int) + 1))).toNat < L - (intOf (Value.int IntKind.i64 (i : Int))).toNat := by
    intro t ht
    obtain ⟨HI2, HI3, HI4⟩ := HI.out
    have e : (t : Int) / 2 ^ s % 4294967296 = ((t / 2 ^ s % B32 : Nat) : Int) := by
     have e1 : (t : Int) / 2 ^ s = ((t / 2 ^ s : Nat) : Int) := by push_cast; rfl
     rw [e1]
     show ((t / 2 ^ s : Nat) : Int) % 4294967296 = ((t / 2 ^ s % 4294967296 : Nat) : Int)
     omega
    rw [e]
    refine ⟨⟨i + 1, o ++ [t / 2 ^ s % B32], rfl, by omega, hid ⟨by simp [HI2], ?_, shr_next HI4 HI2 ht⟩, ?_, HX.out.setCell (Nat.le_refl _) _⟩, ?_⟩
    ·intro z hz
     rcases List.mem_append.1 hz with h1 | h1
     ·exact HI3 z h1
     ·rw [List.mem_singleton.1 h1]; exact Nat.mod_lt _ (by decide)
    ·have h1 := rowU_snoc HR.out (t / 2 ^ s % B32)
     rw [HI2] at h1
     exact h1
    ·simp only [intOf]; omega
   have FIN := hid fin
   clear hrow hx hx1 fin
   subst hav
   by_cases h2 : i + 1 < L
   ·obtain ⟨y, hy1⟩ := some_of_lt (l := rep B32 V) (j := i + 1) (by rw [← HL.out]; exact h2)
    obtain ⟨b3, o3, hav, -, -, -, -, hyb, hc3⟩ := (HU.out.to (Kept.ext HX.out hS) (fun _ h => h)).cellAt hy1
    obtain ⟨rfl, rfl⟩ : b1 = b3 ∧ o1 = o3 := by simpa using hav
    have hx64 : IntKind.u64.wrap (x : Int) = (x : Int) := wrap_nat64 (Nat.lt_trans hxb (by decide))
    have hy64 : IntKind.u64.wrap (y : Int) = (y : Int) := wrap_nat64 (Nat.lt_trans hyb (by decide))
    have hor := or_high64 x y hxb hyb
    obtain ⟨t, ht⟩ : ∃ t, t = x + B32 * y := ⟨_, rfl⟩
    rw [← ht] at hor
    have HT := hid ht
    have HY1 := hid hy1
    have HYB := hid hyb
    clear hxb hy1 ht
    go_wp2
    refine FIN.out t ?_
    have hd := HD.out
    rw [dg_some HY1.out] at hd
    rw [shr_digit hs hd, HT.out]
   ·have hx64 : IntKind.u64.wrap (x : Int) = (x : Int) := wrap_nat64 (Nat.lt_trans hxb (by decide))
    clear hxb
    go_wp2
    refine FIN.out x ?_
    have hd := HD.out
    rw [dg_out (by have := HL.out; omega)] at hd
    rw [shr_digit hs hd, Nat.mul_zero, Nat.add_zero]
  ·obtain rfl : i = L := by omega
   obtain ⟨HI2, HI3, HI4⟩ := HI.out
   have hval : val B32 o = V / 2 ^ s := by
    rw [HI4]
    refine Nat.mod_eq_of_lt (Nat.lt_of_le_of_lt (Nat.div_le_self _ _) ?_)
    have h1 := val_lt (rep B32 V) (rep_lt two_le_B32 V)
    rwa [val_rep two_le_B32, ← HL.out] at h1
   have hu : U32s (fun k => k = w.heap.size) wr (.slice (some ⟨w.heap.size, 0, none⟩) i i) o := by
    have h1 := U32s.of_row hrow (by omega) HI3 (by omega)
    rwa [HI2] at h1
   have CS := hid (nat_short _ _ _ hu)
   rw [hval] at CS
   have HG := hid hrow.lt
   clear hrow hx HI2 HI3 HI4 hval hu
   go_wp2_with fail
   refine CS.out.mono ?_
   rintro e w' ⟨v', rfl, hu, rfl⟩
   have H := hid hu
   clear hu
   go_wp2
   all_goals
    go_ret2
    refine ⟨_, rfl, ?_, HX.out⟩
    rw [← HV.out]
    refine H.out.to (Kept.refl _ _) (fun k hk => ?_)
    subst hk
    exact ⟨Nat.le_refl _, HG.out⟩
end
section
open Go.RowKit
theorem nat_trim_row {S : Nat → Prop} (v : Value) (zs : List Nat) (w : World) (h : U32s S w v zs) (hS : ∀ k, S k → k < w.heap.size) (hr : zs.length ≤ 50000000000000) :
  Calls Tryz.prog 127 #[v] w fun e w' => ∃ g, e = .returned (.slice (some ⟨g, 0, none⟩) (rep B32 (val B32 zs)).length (rep B32 (val B32 zs)).length) ∧ w.heap.size ≤ g ∧ g < w'.heap.size ∧
   w'.rowIs g 148 (rep B32 (val B32 zs)).length (rowU (rep B32 (val B32 zs))) ∧ Ext w w' := by
 have hle : (rep B32 (val B32 zs)).length ≤ zs.length := rep_len_le two_le_B32 _ _ (val_lt zs h.lt)
 have H := hid h
 obtain ⟨a, cap, rfl⟩ := h.form
 clear h
 have hmk := fun (n : Nat) (hn : n ≤ 50000000000000) (W : World) => run_make_row' (P := Tryz.prog) 24 148 (.int .u32 0) 4 Tryz.underlying24 Tryz.infoU32 rfl .i64 .i64 n (by omega) (by omega) W
 go_enter Tryz.func127, Tryz.ntmps127
 go_wp2_with fail
 refine (nat_short _ zs _ H.out).mono ?_
 rintro e w' ⟨v', rfl, hu, rfl⟩
 generalize hR : rep B32 (val B32 zs) = R at hu hle
 have HR := hid hR
 have HU := hid hu
 obtain ⟨a', c', rfl⟩ := hu.form
 have hmk1 := hmk R.length (by omega) w
 have HA := hid (Ext.alloc (Ext.refl w) (.cells (madeCells #[.int .u32 0] R.length) 148))
 have HUA := hid (HU.out.to (Kept.alloc hS (.cells (madeCells #[.int .u32 0] R.length) 148)) (fun _ h => h))
 have hc' := HU.out.len_le
 clear hR hu hmk
 go_wp2_with (refine wpList_copy_splice (by rfl) (.tmp 9) (.tmp 10) 24 24 (by rfl) 148 Tryz.underlying24 (by kernel_rfl) (some ⟨w.heap.size, 0, none⟩) a' R.length R.length R.length c' (by rfl) (by rfl) w.heap.size 0 (List.replicate R.length (.int .u32 0)) 148 (by rw [heap_alloc_new, made_list]) (R.map uval) (by simp) (fun hp => ⟨rfl, HUA.out.src hp⟩) (by simp) (by intro v hv; obtain ⟨z, _, rfl⟩ := List.mem_map.1 hv; rfl) w.heap.size w HA.out (Nat.le_refl _) ?_; intro w2 hg hb)
 have HG := hid hg
 have HB := hid hb
 clear hg hb
 go_wp2
 go_ret
 rw [HR.out]
 have hg := HG.out.out
 rw [splice_all _ _ (by simp)] at hg
 refine ⟨_, rfl, Nat.le_refl _, (Array.getElem?_eq_some_iff.1 hg).1, ⟨_, hg, by simp, fun i hi => ?_⟩, HB.out⟩
 rw [List.getElem?_toArray, List.getElem?_map, List.getElem?_eq_getElem hi]
 show some (uval R[i]) = some (Value.int .u32 (dg R i : Nat))
 rw [dg_some (List.getElem?_eq_getElem hi)]
 rfl
theorem limb_step {d m r x Q : Nat} {R o : List Nat} (hd : 0 < d) (hm : m < o.length) (hx : dg R m = x) (hq : val B32 (o.drop (m + 1)) = Q) (hr : r < d) (hx2 : x < B32) (h : val B32 (R.drop (m + 1)) = d * Q + r) :
  (r * B32 + x) / d < B32 ∧ val B32 (R.drop m) = d * val B32 ((o.set m ((r * B32 + x) / d)).drop m) + (r * B32 + x) % d := by
 refine ⟨Nat.div_lt_of_lt_mul ?_, ?_⟩
 ·have h1 : (r + 1) * B32 ≤ d * B32 := Nat.mul_le_mul_right _ hr
  rw [Nat.add_mul, Nat.one_mul] at h1
  omega
 ·rw [val_drop_dg R m, h, hx, val_drop_dg (o.set m _) m]
  have e1 : dg (o.set m ((r * B32 + x) / d)) m = (r * B32 + x) / d := by unfold dg; rw [List.getElem?_set]; simp [hm]
  have e2 : (o.set m ((r * B32 + x) / d)).drop (m + 1) = o.drop (m + 1) := by rw [List.drop_set_of_lt (by omega)]
  rw [e1, e2, hq]
  have e3 := Nat.div_add_mod (r * B32 + x) d
  rw [Nat.mul_add, Nat.mul_add, Nat.mul_left_comm d B32 Q]
  have e4 : B32 * r = r * B32 := Nat.mul_comm _ _
  omega
theorem div_limb {S : Nat → Prop} (v : Value) (zs : List Nat) (d : Nat) (w : World) (h : U32s S w v zs) (hS : ∀ k, S k → k < w.heap.size) (hr : zs.length ≤ 1000000000000) (hd : 0 < d) (hd2 : d < B32) :
  Calls Tryz.prog 140 #[v, .int .u32 (d : Nat)] w fun e w' => ∃ v', e = .returned (.tuple #[v', .int .u32 (val B32 zs % d : Nat), .int .i64 0]) ∧ U32s (New w w') w' v' (rep B32 (val B32 zs / d)) ∧ Ext w w' := by
 have hle : (rep B32 (val B32 zs)).length ≤ zs.length := rep_len_le two_le_B32 _ _ (val_lt zs h.lt)
 have H := hid h
 clear h
 have hd0 : (d : Int) ≠ 0 := by omega
 have hd64 : IntKind.u64.wrap (d : Int) = (d : Int) := wrap_nat64 (Nat.lt_trans hd2 (by decide))
 have HD := hid (And.intro hd hd2)
 clear hd hd2
 go_enter Tryz.func140, Tryz.ntmps140
 go_wp2_with fail
 refine (nat_trim_row _ zs _ H.out hS (by omega)).mono ?_
 rintro e w1 ⟨g, rfl, hg1, hg2, hrow, hx⟩
 obtain ⟨L, hL⟩ : ∃ L, L = (rep B32 (val B32 zs)).length := ⟨_, rfl⟩
 rw [← hL] at hrow hle ⊢
 obtain ⟨V, hV⟩ : ∃ V, V = val B32 zs := ⟨_, rfl⟩
 rw [← hV] at hrow hL
 have HL := hid hL
 have HV := hid hV
 have HX1 := hid hx
 have HR1 := hid hrow
 have HS1 := hid hx.size
 clear hL hV hx hrow
 go_wp2
 go_loopw [7, 16] (fun s7 s16 wr => ∃ (i r : Nat) (o : List Nat), s7 = .int .u64 (r : Nat) ∧ s16 = .int .i64 (i : Nat) ∧ i ≤ L ∧ Hid (r < d ∧ o.length = L ∧ (∀ z ∈ o, z < B32) ∧ (∀ j, j < L - i → dg o j = dg (rep B32 V) j) ∧ val B32 ((rep B32 V).drop (L - i)) = d * val B32 (o.drop (L - i)) + r) ∧
  wr.rowIs g 148 L (rowU o) ∧ Ext w wr) (fun s7 s16 _ => L - (intOf s16).toNat)
 case atStart =>
  refine ⟨0, 0, rep B32 V, rfl, rfl, Nat.zero_le _, hid ⟨HD.out.1, HL.out.symm, rep_lt two_le_B32 V, fun _ _ => rfl, ?_⟩, HR1.out, HX1.out⟩
  rw [List.drop_eq_nil_of_le (by rw [← HL.out]; omega)]
  rfl
 case round =>
  obtain ⟨i, r, o, rfl, rfl, hi, HI, hrow, hx⟩ := hrel
  have HR := hid hrow
  have HX := hid hx
  by_cases hlt : i < L
  ·obtain ⟨m, hm⟩ : ∃ m, m + 1 = L - i := ⟨L - i - 1, by omega⟩
   have hm2 : (L : Int) - 1 - (i : Int) = (m : Int) := by omega
   obtain ⟨x, hx1⟩ := some_of_lt (l := rep B32 V) (j := m) (by rw [← HL.out]; omega)
   have hxd := dg_some hx1
   have hxb : x < 4294967296 := rep_lt two_le_B32 V x (List.mem_of_getElem? hx1)
   have hc1 : wr.cell? ⟨g, m, none⟩ = some (.int .u32 (x : Nat)) := by
    rw [hrow.cell (i := m) (by omega)]
    show some (Value.int .u32 (dg o m : Nat)) = _
    rw [HI.out.2.2.2.1 m (by omega), hxd]
   have hf1 := hrow.frozen m
   have hx64 : IntKind.u64.wrap (x : Int) = (x : Int) := wrap_nat64 (Nat.lt_trans hxb (by decide))
   have hrb : r < 4294967296 := Nat.lt_trans HI.out.1 HD.out.2
   have hor := or_limbs r x hrb hxb
   obtain ⟨t, ht⟩ : ∃ t, t = r * 4294967296 + x := ⟨_, rfl⟩
   rw [← ht] at hor
   have hsh : IntKind.u64.wrap ((r : Int) * 4294967296) = (r : Int) * 4294967296 := by rw [IntKind.wrap_u64]; omega
   have HT := hid ht
   have HXD := hid hxd
   have HXB := hid hxb
   have hi0 : 0 ≤ (L : Int) - 1 - (i : Int) := by omega
   have hml : (m : Int) < (L : Int) := by omega
   clear hrow hx hx1 hxd hxb hrb ht
   go_wp2
   obtain ⟨HI1, HI2, HI3, HI4, HI5⟩ := HI.out
   rw [← hm] at HI5
   obtain ⟨q1, q2⟩ := limb_step (o := o) HD.out.1 (by omega) HXD.out rfl HI1 HXB.out HI5
   have ht := HT.out
   have q1' : t / d < 4294967296 := by rw [ht]; exact q1
   have e1 : IntKind.u64.wrap ((t : Int) / (d : Int)) % 4294967296 = ((t / d : Nat) : Int) := by
    rw [← Int.natCast_ediv, wrap_nat64 (Nat.lt_trans q1' (by decide))]
    generalize t / d = q at q1'
    omega
   rw [e1]
   refine ⟨⟨i + 1, t % d, o.set m (t / d), by rw [Int.natCast_emod], rfl, by omega, hid ⟨Nat.mod_lt _ HD.out.1, by simp [HI2], ?_, ?_, ?_⟩, rowU_set HR.out m (t / d) (by omega), HX.out.setCell hg1 _⟩, ?_⟩
   ·intro z hz
    rcases List.mem_or_eq_of_mem_set hz with h1 | h1
    ·exact HI3 z h1
    ·rw [h1]; exact q1'
   ·intro j hj
    rw [dg_set_ne (by omega), HI4 j (by omega)]
   ·rw [show L - (i + 1) = m by omega, ht]
    exact q2
   ·simp only [intOf]; omega
  ·obtain rfl : i = L := by omega
   obtain ⟨HI1, HI2, HI3, HI4, HI5⟩ := HI.out
   rw [Nat.sub_self, List.drop_zero, List.drop_zero, val_rep two_le_B32] at HI5
   have hq : val B32 o = V / d := by rw [HI5, Nat.mul_add_div HD.out.1, Nat.div_eq_of_lt HI1, Nat.add_zero]
   have hm : r = V % d := by rw [HI5, Nat.mul_add_mod, Nat.mod_eq_of_lt HI1]
   have hu : U32s (fun k => k = g) wr (.slice (some ⟨g, 0, none⟩) i i) o := by
    have h1 := U32s.of_row hrow (by omega) HI3 (by omega)
    rwa [HI2] at h1
   have CS := hid (nat_trim _ _ _ hu (fun k hk => by rw [hk]; exact hrow.lt) (by omega))
   rw [hq] at CS
   have hr32 : (r : Int) % 4294967296 = (r : Int) := by have h1 : r < 4294967296 := Nat.lt_trans HI1 HD.out.2; omega
   have HM := hid hm
   clear hrow hx HI1 HI2 HI3 HI4 HI5 hq hm hu
   go_wp2_with fail
   refine CS.out.mono ?_
   rintro e w' ⟨v', rfl, hu, hx2⟩
   have H2 := hid hu
   have HX2 := hid hx2
   clear hu hx2
   go_wp2
   all_goals
    go_ret3
    rw [← HV.out, ← HM.out]
    exact ⟨_, rfl, H2.out.to (Kept.refl _ _) (fun k hk => ⟨Nat.le_trans HX.out.size hk.1, hk.2⟩), HX.out.trans HX2.out⟩
end
section
open Go.RowKit
theorem tab8_two : ∀ i : Fin 256, 0 < i.val → 1 ≤ (tab8.get! i.val).toNat ∧ (tab8.get! i.val).toNat ≤ 8 ∧ 2 ^ ((tab8.get! i.val).toNat - 1) ≤ i.val ∧ i.val < 2 ^ (tab8.get! i.val).toNat := by decide +kernel
theorem tab8_at (x : Int) (h0 : 0 < x) (h1 : x < 256) (h : x.toNat < tab8.size) : 1 ≤ (tab8[x.toNat]'h).toNat ∧ (tab8[x.toNat]'h).toNat ≤ 8 ∧ 2 ^ ((tab8[x.toNat]'h).toNat - 1) ≤ x.toNat ∧ x.toNat < 2 ^ (tab8[x.toNat]'h).toNat := by
 have := tab8_two ⟨x.toNat, by omega⟩
 have e : tab8.get! x.toNat = tab8[x.toNat]'h := by
  have h2 : x.toNat < tab8.data.size := h
  show tab8.data[x.toNat]! = tab8.data[x.toNat]'h2
  exact getElem!_pos _ _ _
 simp only [e] at this
 exact this (by omega)
theorem tab8_is (x : Int) (h0 : 0 < x) (h1 : x < 256) (h : x.toNat < tab8.size) (t : Nat) (hv : (tab8[x.toNat]'h).toNat = t) : 1 ≤ t ∧ t ≤ 8 ∧ 2 ^ (t - 1) ≤ x.toNat ∧ x.toNat < 2 ^ t := by
 subst hv
 exact tab8_at x h0 h1 h
theorem len_up {x i t j : Nat} (hi : x / 2 ^ j = i) (h1 : 1 ≤ t) (h2 : 2 ^ (t - 1) ≤ i) (h3 : i < 2 ^ t) : 2 ^ (t + j - 1) ≤ x ∧ x < 2 ^ (t + j) := by
 have hP : 0 < 2 ^ j := Nat.pow_pos (by decide)
 subst hi
 refine ⟨?_, ?_⟩
 ·rw [show t + j - 1 = (t - 1) + j by omega, Nat.pow_add]
  exact Nat.le_trans (Nat.mul_le_mul_right _ h2) (Nat.div_mul_le_self _ _)
 ·rw [Nat.pow_add, ← Nat.div_lt_iff_lt_mul hP]
  exact h3
theorem len32_is (x : Int) (w : World) (h0 : 0 < x) (h1 : x < 4294967296) :
  Calls Tryz.prog 122 #[.int .u32 x] w fun e w' => ∃ k : Nat, e = .returned (.int .i64 (k : Nat)) ∧ 1 ≤ k ∧ k ≤ 32 ∧ 2 ^ (k - 1) ≤ x.toNat ∧ x.toNat < 2 ^ k ∧ w = w' := by
 go_enter Tryz.func122, Tryz.ntmps122
 rcases (show 16777216 ≤ x ∨ 65536 ≤ x ∧ x < 16777216 ∨ 256 ≤ x ∧ x < 65536 ∨ x < 256 by omega) with h | ⟨h, h'⟩ | ⟨h, h'⟩ | h
 ·go_wp2
  go_ret
  simp only [Array.getD_eq_getD_getElem?, List.getElem?_toArray, List.getElem?_cons_succ, List.getElem?_cons_zero, Option.getD_some]
  generalize hv : UInt8.toNat _ = t
  have hi : x.toNat / 2 ^ 24 = (x / 65536 / 256).toNat := by show x.toNat / 16777216 = _; omega
  obtain ⟨h3, h4, h5, h6⟩ := tab8_is (x / 65536 / 256) (by omega) (by omega) (by rw [tab8_size]; omega) t hv
  clear hv
  have P := hid (len_up hi h3 h5 h6)
  clear h5 h6 hi
  have e : wrap64 (24 + wrap64 (t : Int)) = ((t + 24 : Nat) : Int) := by unfold wrap64; omega
  exact ⟨t + 24, congrArg (fun n => Ending.returned (Value.int .i64 n)) e, by omega, by omega, P.out.1, P.out.2, trivial⟩
 ·go_wp2
  go_ret
  simp only [Array.getD_eq_getD_getElem?, List.getElem?_toArray, List.getElem?_cons_succ, List.getElem?_cons_zero, Option.getD_some]
  generalize hv : UInt8.toNat _ = t
  have hi : x.toNat / 2 ^ 16 = (x / 65536).toNat := by show x.toNat / 65536 = _; omega
  obtain ⟨h3, h4, h5, h6⟩ := tab8_is (x / 65536) (by omega) (by omega) (by rw [tab8_size]; omega) t hv
  clear hv
  have P := hid (len_up hi h3 h5 h6)
  clear h5 h6 hi
  have e : wrap64 (16 + wrap64 (t : Int)) = ((t + 16 : Nat) : Int) := by unfold wrap64; omega
  exact ⟨t + 16, congrArg (fun n => Ending.returned (Value.int .i64 n)) e, by omega, by omega, P.out.1, P.out.2, trivial⟩
 ·go_wp2
  go_ret
  simp only [Array.getD_eq_getD_getElem?, List.getElem?_toArray, List.getElem?_cons_succ, List.getElem?_cons_zero, Option.getD_some]
  generalize hv : UInt8.toNat _ = t
  have hi : x.toNat / 2 ^ 8 = (x / 256).toNat := by show x.toNat / 256 = _; omega
  obtain ⟨h3, h4, h5, h6⟩ := tab8_is (x / 256) (by omega) (by omega) (by rw [tab8_size]; omega) t hv
  clear hv
  have P := hid (len_up hi h3 h5 h6)
  clear h5 h6 hi
  have e : wrap64 (8 + wrap64 (t : Int)) = ((t + 8 : Nat) : Int) := by unfold wrap64; omega
  exact ⟨t + 8, congrArg (fun n => Ending.returned (Value.int .i64 n)) e, by omega, by omega, P.out.1, P.out.2, trivial⟩
 ·go_wp2
  go_ret
  simp only [Array.getD_eq_getD_getElem?, List.getElem?_toArray, List.getElem?_cons_succ, List.getElem?_cons_zero, Option.getD_some]
  generalize hv : UInt8.toNat _ = t
  have hi : x.toNat / 2 ^ 0 = x.toNat := by show x.toNat / 1 = _; omega
  obtain ⟨h3, h4, h5, h6⟩ := tab8_is x (by omega) (by omega) (by rw [tab8_size]; omega) t hv
  clear hv
  have P := hid (len_up hi h3 h5 h6)
  clear h5 h6 hi
  have e : wrap64 (wrap64 (t : Int)) = ((t + 0 : Nat) : Int) := by unfold wrap64; omega
  exact ⟨t + 0, congrArg (fun n => Ending.returned (Value.int .i64 n)) e, by omega, by omega, P.out.1, P.out.2, trivial⟩
theorem nat_bits_is {S : Nat → Prop} (v : Value) (zs : List Nat) (w : World) (h : U32s S w v zs) (hr : zs.length ≤ 50000000000000) (h0 : 0 < val B32 zs) :
  Calls Tryz.prog 100 #[v] w fun e w' => ∃ m k : Nat, e = .returned (.int .i64 (32 * m + k : Nat)) ∧ (rep B32 (val B32 zs)).length = m + 1 ∧ 1 ≤ k ∧ k ≤ 32 ∧ 2 ^ (k - 1) ≤ dg (rep B32 (val B32 zs)) m ∧ dg (rep B32 (val B32 zs)) m < 2 ^ k ∧ w = w' := by
 have hle : (rep B32 (val B32 zs)).length ≤ zs.length := rep_len_le two_le_B32 _ _ (val_lt zs h.lt)
 have H := hid h
 obtain ⟨a, c, rfl⟩ := h.form
 clear h
 go_enter Tryz.func100, Tryz.ntmps100
 go_wp2_with fail
 refine (nat_short _ zs _ H.out).mono ?_
 rintro e w' ⟨v', rfl, hu, rfl⟩
 obtain ⟨n, hn⟩ : ∃ n, n = val B32 zs := ⟨_, rfl⟩
 rw [← hn] at hu hle h0
 have HN := hid hn
 have HU := hid hu
 obtain ⟨a', c', rfl⟩ := hu.form
 clear hu hn
 have hl : 0 < (rep B32 n).length := by
  rw [List.length_pos_iff, Ne, rep_eq_nil two_le_B32]
  omega
 obtain ⟨m, hm⟩ : ∃ m, (rep B32 n).length = m + 1 := ⟨(rep B32 n).length - 1, by omega⟩
 obtain ⟨z, hz⟩ := some_of_lt (show m < (rep B32 n).length by omega)
 have hz0 : 0 < z := by
  have h1 := rep_last two_le_B32 n
  rw [List.getLast?_eq_getElem?, show (rep B32 n).length - 1 = m by omega, hz] at h1
  have : z ≠ 0 := fun e => h1 (by rw [e])
  omega
 obtain ⟨b, off, rfl, -, hn, hm2, -, hzb, hc⟩ := HU.out.cellAt hz
 have HM := hid hm
 have HZ := hid hz
 have hb : (((rep B32 n).length : Int) == 0) = false := by rw [beq_eq_false_iff_ne]; omega
 have hi1 : ((rep B32 n).length : Int) - 1 = (m : Int) := by omega
 clear hz
 go_wp2_with fail
 refine (len32_is z _ (by omega) (by omega)).mono ?_
 rintro e w' ⟨k, rfl, hk1, hk2, hk3, hk4, rfl⟩
 rw [Int.toNat_natCast] at hk3 hk4
 have HK := hid (And.intro hk3 hk4)
 clear hk3 hk4
 go_wp2
 go_ret
 rw [← HN.out]
 refine ⟨m, k, congrArg (fun n => Ending.returned (Value.int .i64 n)) (by push_cast; rfl), HM.out, hk1, hk2, ?_, ?_, rfl⟩
 ·rw [dg_some HZ.out]; exact HK.out.1
 ·rw [dg_some HZ.out]; exact HK.out.2
theorem norm_top {V m k : Nat} (hl : (rep B32 V).length = m + 1) (hk1 : 1 ≤ k) (hk2 : k ≤ 32) (h1 : 2 ^ (k - 1) ≤ dg (rep B32 V) m) (h2 : dg (rep B32 V) m < 2 ^ k) :
  (rep B32 (V * 2 ^ (32 - k))).length = m + 1 ∧ 2147483648 ≤ dg (rep B32 (V * 2 ^ (32 - k))) m := by
 have hV := val_rep two_le_B32 V
 have hd := val_drop_dg (B := B32) (rep B32 V) m
 have hs := val_split (B := B32) (rep B32 V) m
 rw [hV, hl, show min m (m + 1) = m by omega, hd, List.drop_eq_nil_of_le (by omega), show val B32 [] = 0 from rfl, Nat.mul_zero, Nat.add_zero] at hs
 have hlow : val B32 ((rep B32 V).take m) < B32 ^ m := by
  have h3 := val_lt ((rep B32 V).take m) (fun z hz => rep_lt two_le_B32 V z (List.mem_of_mem_take hz))
  rwa [List.length_take, show min m (rep B32 V).length = m by omega] at h3
 generalize val B32 ((rep B32 V).take m) = lo at hs hlow
 generalize dg (rep B32 V) m = z at hs h1 h2
 have hP : 0 < 2 ^ (32 - k) := Nat.pow_pos (by decide)
 have hB : 2 ^ k * 2 ^ (32 - k) = B32 := by rw [← Nat.pow_add, show k + (32 - k) = 32 by omega]
 have hH : 2 ^ (k - 1) * 2 ^ (32 - k) = 2147483648 := by rw [← Nat.pow_add, show k - 1 + (32 - k) = 31 by omega]
 have hup : V * 2 ^ (32 - k) < B32 ^ (m + 1) := by
  have h3 : V < B32 ^ m * 2 ^ k := by
   have h4 : B32 ^ m * (z + 1) ≤ B32 ^ m * 2 ^ k := Nat.mul_le_mul_left _ h2
   rw [Nat.mul_add, Nat.mul_one] at h4
   omega
  have h5 := Nat.mul_lt_mul_of_pos_right h3 hP
  rwa [Nat.mul_assoc, hB, ← Nat.pow_succ] at h5
 have hdn : 2147483648 * B32 ^ m ≤ V * 2 ^ (32 - k) := by
  have h3 : B32 ^ m * 2 ^ (k - 1) ≤ V := by
   have h4 : B32 ^ m * 2 ^ (k - 1) ≤ B32 ^ m * z := Nat.mul_le_mul_left _ h1
   omega
  have h5 := Nat.mul_le_mul_right (2 ^ (32 - k)) h3
  rwa [Nat.mul_assoc, hH, Nat.mul_comm] at h5
 have hBm : 0 < B32 ^ m := Nat.pow_pos (by decide)
 have hq : 2147483648 ≤ V * 2 ^ (32 - k) / B32 ^ m := (Nat.le_div_iff_mul_le hBm).2 hdn
 have hle : (rep B32 V).length ≤ (rep B32 (V * 2 ^ (32 - k))).length := rep_mono_len (Nat.le_mul_of_pos_right _ hP)
 have hge : (rep B32 (V * 2 ^ (32 - k))).length ≤ m + 1 := rep_len_le two_le_B32 _ _ hup
 refine ⟨by omega, ?_⟩
 rw [dg_val (by decide) _ (rep_lt two_le_B32 _), val_rep two_le_B32, Nat.mod_eq_of_lt (Nat.div_lt_of_lt_mul (by rw [← Nat.pow_succ]; exact hup))]
 exact hq
end
section
open Go.RowKit
theorem part_lt {B : Nat} {u : List Nat} (hu : ∀ z ∈ u, z < B) (k n : Nat) : ∀ z ∈ partL u k n, z < B := fun z hz => hu z (List.mem_of_mem_drop (List.mem_of_mem_take hz))
theorem put_lt {B : Nat} {u ps : List Nat} (hu : ∀ z ∈ u, z < B) (hp : ∀ z ∈ ps, z < B) (k : Nat) : ∀ z ∈ putL u k ps, z < B := by
 intro z hz
 unfold putL at hz
 rcases List.mem_append.1 hz with h | h
 ·rcases List.mem_append.1 h with h | h
  ·exact hu z (List.mem_of_mem_take h)
  ·exact hp z h
 ·exact hu z (List.mem_of_mem_drop h)
theorem u_set_lt {B : Nat} {u : List Nat} (hu : ∀ z ∈ u, z < B) {k q : Nat} (hq : q < B) : ∀ z ∈ u.set k q, z < B := by
 intro z hz
 rcases List.mem_or_eq_of_mem_set hz with h1 | h1
 ·exact hu z h1
 ·rw [h1]; exact hq
theorem part_put {u ps : List Nat} {k n : Nat} (hk : k + n < u.length) (hp : ps.length = n + 1) : partL (putL u k ps) k n = ps := by
 unfold partL putL
 have hl : (u.take k).length = k := by rw [List.length_take]; omega
 rw [List.append_assoc, List.drop_append_of_le_length (by omega), List.drop_eq_nil_of_le (by omega), List.nil_append, List.take_append_of_le_length (by omega), List.take_of_length_le (by omega)]
theorem put_put {u ps rs : List Nat} {k n : Nat} (hk : k + n < u.length) (hp : ps.length = n + 1) (hr : rs.length = n + 1) : putL (putL u k ps) k rs = putL u k rs := by
 unfold putL
 have hl : (u.take k).length = k := by rw [List.length_take]; omega
 have hl2 : (u.take k ++ ps).length = k + ps.length := by rw [List.length_append, hl]
 have e1 : (u.take k ++ ps ++ u.drop (k + ps.length)).take k = u.take k := by
  rw [List.append_assoc, List.take_append_of_le_length (by omega), List.take_of_length_le (by omega)]
 have e2 : (u.take k ++ ps ++ u.drop (k + ps.length)).drop (k + rs.length) = u.drop (k + rs.length) := by
  rw [show k + rs.length = (u.take k ++ ps).length by omega, List.drop_left, hl2]
 rw [e1, e2]
theorem top_le {k n V : Nat} {o vs : List Nat} (ho : ∀ z ∈ o, z < B32) (hvs : ∀ z ∈ vs, z < B32) (hk : k + (n + 1) < o.length) (lv : vs.length = n + 1) (hV : val B32 vs = V) (hlow : val B32 (o.drop (k + 1)) < V) :
  dg (partL o k (n + 1)) (n + 1) ≤ dg vs n := by
 have hVB : V < B32 ^ (n + 1) := by rw [← hV, ← lv]; exact val_lt vs hvs
 obtain ⟨-, p2, -⟩ := part_val two_le_B32 ho hk hVB hlow
 have hs := val_split (B := B32) (partL o k (n + 1)) (n + 1)
 rw [part_len hk, show min (n + 1) (n + 1 + 1) = n + 1 by omega, val_drop_dg, List.drop_eq_nil_of_le (by rw [part_len hk]; omega), show val B32 [] = 0 from rfl, Nat.mul_zero, Nat.add_zero] at hs
 have hs2 := val_split (B := B32) vs n
 rw [lv, show min n (n + 1) = n by omega, val_drop_dg, List.drop_eq_nil_of_le (by omega), show val B32 [] = 0 from rfl, Nat.mul_zero, Nat.add_zero, hV] at hs2
 have hl : val B32 (vs.take n) < B32 ^ n := by
  have h3 := val_lt (vs.take n) (fun z hz => hvs z (List.mem_of_mem_take hz))
  rwa [List.length_take, show min n vs.length = n by omega] at h3
 simp only [Nat.add_zero] at hs
 generalize dg (partL o k (n + 1)) (n + 1) = t at hs ⊢
 generalize dg vs n = z at hs2 ⊢
 have h1 : V < B32 ^ n * (z + 1) := by rw [Nat.mul_add, Nat.mul_one]; omega
 have h2 : B32 * V ≤ B32 * (B32 ^ n * (z + 1)) := Nat.mul_le_mul_left _ (Nat.le_of_lt h1)
 have h3 : B32 ^ (n + 1) * t < B32 ^ (n + 1) * (z + 1) := by
  rw [Nat.pow_succ, Nat.mul_comm (B32 ^ n) B32, Nat.mul_assoc B32 (B32 ^ n) (z + 1)]
  rw [Nat.pow_succ, Nat.mul_comm (B32 ^ n) B32] at hs
  omega
 have := Nat.lt_of_mul_lt_mul_left h3
 omega
theorem knuth_step {A V m k q r : Nat} {o qs vs : List Nat} (ho : ∀ z ∈ o, z < B32) (hvs : ∀ z ∈ vs, z < B32) (hk : k + (m + 2) < o.length) (hkq : k < qs.length) (lv : vs.length = m + 2) (hV : val B32 vs = V) (hV1 : 2147483648 ≤ dg vs (m + 1))
  (h : NDivAt B32 A V (m + 2) o qs (k + 1)) (ht : r + q * dg vs (m + 1) = dg (partL o k (m + 2)) (m + 2) * B32 + dg (partL o k (m + 2)) (m + 1)) (hqB : q < B32) (hc : q * dg vs m ≤ r * B32 + dg (partL o k (m + 2)) m)
  (hok : GuessOk B32 (dg (partL o k (m + 2)) (m + 2) * B32 + dg (partL o k (m + 2)) (m + 1)) (dg (partL o k (m + 2)) m) (dg vs (m + 1)) (dg vs m) q)
  {ps : List Nat} {b : Nat} (hb : b ≤ 1) (hpl : ps.length = m + 2 + 1) (hps : ∀ z ∈ ps, z < B32) (hp : val B32 ps + q * val B32 vs = val B32 (partL o k (m + 2)) + B32 ^ (m + 2 + 1) * b) :
  (b = 0 → NDivAt B32 A V (m + 2) (putL o k ps) (qs.set k q) k) ∧
  (b = 1 → 0 < q ∧ ∀ rs : List Nat, rs.length = m + 2 + 1 → val B32 rs = (val B32 ps + val B32 vs) % B32 ^ (m + 2 + 1) → NDivAt B32 A V (m + 2) (putL o k rs) (qs.set k (q - 1)) k) := by
 have hVB : V < B32 ^ (m + 2) := by rw [← hV, ← lv]; exact val_lt vs hvs
 obtain ⟨-, p2, -⟩ := part_val two_le_B32 ho hk hVB h.low
 have hus := part_lt ho k (m + 2)
 obtain ⟨g1, g2⟩ := guess_limbs two_le_B32 (us := partL o k (m + 2)) (vs := vs) (n := m + 2) (q := q) (r := r) hus hvs (part_len hk) lv (by omega) (show 0 < dg vs (m + 1) by omega) (by rw [hV]; exact p2) ht hqB hc hok
 rw [hV] at g1 g2 hp ⊢
 have hU : val B32 (partL o k (m + 2)) < B32 ^ (m + 2 + 1) := by rw [← part_len hk]; exact val_lt _ hus
 have hP : val B32 ps < B32 ^ (m + 2 + 1) := by rw [← hpl]; exact val_lt _ hps
 have hVM : V ≤ B32 ^ (m + 2 + 1) := Nat.le_trans (Nat.le_of_lt hVB) (Nat.pow_le_pow_right (by decide) (by omega))
 have hV0 : 0 < V := by
  have := h.low
  omega
 obtain ⟨d1, d2⟩ := digit_ok hP hb hp g1 g2 hU hVM
 refine ⟨fun e => ?_, fun e => ?_⟩
 ·obtain ⟨e1, e2⟩ := d1 e
  rw [e1]
  exact ndiv_step two_le_B32 ho hk hkq hVB h hpl e2 hV0
 ·obtain ⟨e0, e1, e2⟩ := d2 e
  refine ⟨e0, fun rs hl hr => ?_⟩
  rw [e1]
  exact ndiv_step two_le_B32 ho hk hkq hVB h hl (hr.trans e2) hV0
theorem knuth_start {A V n La s lu Bv : Nat} {o qs : List Nat} (ho : ∀ z ∈ o, z < B32) (lo : o.length = La + 1) (hA : val B32 o = A * 2 ^ s) (lA : (rep B32 A).length = La) (hn : 1 ≤ n) (hla : n ≤ La) (hV : V = Bv * 2 ^ s) (lB : (rep B32 Bv).length = n) (hq : qs.length = La + 1 - n) (_h : lu = 0) :
  NDivAt B32 (A * 2 ^ s) V n o qs (La + 1 - n) := by
 refine ⟨?_, ?_⟩
 ·rw [List.drop_eq_nil_of_le (by omega), show val B32 [] = 0 from rfl, Nat.mul_zero, Nat.mul_zero, Nat.add_zero, hA]
 ·have hs := val_split (B := B32) o (La + 1 - n)
  rw [lo, show min (La + 1 - n) (La + 1) = La + 1 - n by omega, hA] at hs
  have h1 : A < B32 ^ La := by rw [← lA]; have := val_lt (rep B32 A) (rep_lt two_le_B32 A); rwa [val_rep two_le_B32] at this
  have h2 : B32 ^ (n - 1) ≤ Bv := by
   by_cases h : B32 ^ (n - 1) ≤ Bv
   ·exact h
   ·have := rep_len_le two_le_B32 Bv (n - 1) (by omega)
    omega
  have hP : 0 < 2 ^ s := Nat.pow_pos (by decide)
  have h3 : A * 2 ^ s < B32 ^ (La + 1 - n) * V := by
   rw [hV]
   have h4 : B32 ^ La * 2 ^ s ≤ B32 ^ (La + 1 - n) * (Bv * 2 ^ s) := by
    rw [← Nat.mul_assoc]
    refine Nat.mul_le_mul_right _ ?_
    have e : B32 ^ La = B32 ^ (La + 1 - n) * B32 ^ (n - 1) := by rw [← Nat.pow_add, show La + 1 - n + (n - 1) = La by omega]
    rw [e]
    exact Nat.mul_le_mul_left _ h2
   exact Nat.lt_of_lt_of_le (Nat.mul_lt_mul_of_pos_right h1 hP) h4
  have h5 : B32 ^ (La + 1 - n) * val B32 (o.drop (La + 1 - n)) < B32 ^ (La + 1 - n) * V := by omega
  exact Nat.lt_of_mul_lt_mul_left h5
theorem part_u32 {w : World} {T : TypeId} {g k n cap : Nat} {o : List Nat} (hrow : w.rowIs g T cap (rowU o)) (ho : ∀ z ∈ o, z < B32) (hk : k + n < o.length) (hc : o.length ≤ cap) (hcap : cap ≤ 9223372036854775807) :
  U32s (fun j => j = g) w (.slice (some ⟨g, k, none⟩) (n + 1) (n + 1)) (partL o k n) := by
 refine ⟨g, k, ⟨_, n + 1, by rw [part_len hk], by rw [part_len hk]; omega, by unfold maxLen; omega, fun _ => rfl, fun _ => rfl⟩, fun j z hz => ⟨part_lt ho k n z (List.mem_of_getElem? hz), ?_⟩⟩
 have hj := lt_of_some hz
 rw [part_len hk] at hj
 rw [hrow.cell (i := k + j) (by omega)]
 show some (Value.int .u32 (dg o (k + j) : Nat)) = _
 rw [← part_dg (n := n) hj, dg_some hz]
end
section
open Go.RowKit
def DivPost (A B : Nat) (w : World) : Ending → World → Prop := fun e w' =>
 ∃ vq vr, e = .returned (.tuple #[vq, vr, .int .i64 0]) ∧ U32s (New w w') w' vq (rep B32 (A / B)) ∧ U32s (New w w') w' vr (rep B32 (A % B)) ∧ Ext w w'
theorem div_mod_lt {S : Nat → Prop} (va vb : Value) (xs ys : List Nat) (w : World) (ha : U32s S w va xs) (hb : U32s S w vb ys) (hS : ∀ k, S k → k < w.heap.size) (hr : xs.length ≤ 100000000000) (hr2 : ys.length ≤ 100000000000) (hlt : val B32 xs < val B32 ys) :
  Calls Tryz.prog 128 #[va, vb] w (DivPost (val B32 xs) (val B32 ys) w) := by
 have HA := hid ha
 have HB := hid hb
 have HLT := hid hlt
 clear ha hb hlt
 go_enter Tryz.func128, Tryz.ntmps128
 go_wp2_with fail
 refine (nat_trim _ xs _ HA.out hS (by omega)).mono ?_
 rintro e w1 ⟨v1, rfl, hu1, hx1⟩
 have HA1 := hid hu1
 have HX1 := hid hx1
 clear hu1 hx1
 go_wp2_with fail
 refine (nat_trim _ ys w1 (HB.out.ext HX1.out hS) (fun k hk => Nat.lt_of_lt_of_le (hS k hk) HX1.out.size) (by omega)).mono ?_
 rintro e w2 ⟨v2, rfl, hu2, hx2⟩
 have HX2 := hid (HX1.out.trans hx2)
 have HA2 := hid (HA1.out.to (S' := Old w2) (Kept.ext hx2 (fun _ h => h.2)) (fun k h => Nat.lt_of_lt_of_le h.2 hx2.size))
 have HA3 := hid (HA1.out.to (S' := New w w2) (Kept.ext hx2 (fun _ h => h.2)) (fun k h => ⟨h.1, Nat.lt_of_lt_of_le h.2 hx2.size⟩))
 have HB2 := hid (hu2.to (S' := Old w2) (Kept.refl _ _) (fun k h => h.2))
 obtain ⟨a2, c2, rfl⟩ := hu2.form
 clear hu2 hx2
 have hl0 : (((rep B32 (val B32 ys)).length : Int) == 0) = false := by
  have h1 : rep B32 (val B32 ys) ≠ [] := by
   rw [Ne, rep_eq_nil two_le_B32]
   have := HLT.out
   omega
  have h2 := List.length_pos_iff.2 h1
  rw [beq_eq_false_iff_ne]
  omega
 have CC := hid (nat_cmp _ _ _ _ w2 HA2.out HB2.out (fun _ h => h))
 have hcmp : cmpN (val B32 (rep B32 (val B32 xs))) (val B32 (rep B32 (val B32 ys))) = -1 := by
  rw [val_rep two_le_B32, val_rep two_le_B32]
  unfold cmpN cmpI
  have := HLT.out
  rw [if_pos (by omega)]
 rw [hcmp] at CC
 go_wp2_with fail
 refine CC.out.mono ?_
 rintro e w3 ⟨rfl, hx3⟩
 have HX3 := hid hx3
 clear hx3
 go_wp2
 all_goals
  go_ret3
  refine ⟨_, _, rfl, ?_, ?_, HX2.out.trans HX3.out⟩
  ·rw [Nat.div_eq_of_lt HLT.out]
   exact U32s.nilv _ _ _ _ (by omega)
  ·rw [Nat.mod_eq_of_lt HLT.out]
   exact HA3.out.to (Kept.ext HX3.out (fun _ h => h.2)) (fun k h => ⟨h.1, Nat.lt_of_lt_of_le h.2 HX3.out.size⟩)
theorem div_mod_one {S : Nat → Prop} (va vb : Value) (xs ys : List Nat) (w : World) (ha : U32s S w va xs) (hb : U32s S w vb ys) (hS : ∀ k, S k → k < w.heap.size) (hr : xs.length ≤ 100000000000) (hr2 : ys.length ≤ 100000000000) (hge : val B32 ys ≤ val B32 xs) (h1 : (rep B32 (val B32 ys)).length = 1) :
  Calls Tryz.prog 128 #[va, vb] w (DivPost (val B32 xs) (val B32 ys) w) := by
 have HA := hid ha
 have HB := hid hb
 have HGE := hid hge
 have HLA : Hid ((rep B32 (val B32 xs)).length ≤ xs.length) := hid (rep_len_le two_le_B32 _ _ (val_lt xs ha.lt))
 obtain ⟨d, hd⟩ : ∃ d, rep B32 (val B32 ys) = [d] := by
  match h : rep B32 (val B32 ys), h1 with
  | [d], _ => exact ⟨d, rfl⟩
 have hdb : d < B32 := rep_lt two_le_B32 (val B32 ys) d (by rw [hd]; exact List.mem_singleton.2 rfl)
 have hv : val B32 ys = d := by
  have h2 := val_rep two_le_B32 (val B32 ys)
  rw [hd] at h2
  rw [← h2]
  simp [val]
 have hd0 : 0 < d := by
  rcases Nat.eq_zero_or_pos d with h | h
  ·rw [hv, h] at hd
   simp [rep_zero] at hd
  ·exact h
 obtain ⟨r, hr0⟩ : ∃ r, r = val B32 xs % d := ⟨_, rfl⟩
 have hrb : r < 18446744073709551616 := by rw [hr0]; exact Nat.lt_trans (Nat.lt_trans (Nat.mod_lt _ hd0) hdb) (by decide)
 have hd64 : IntKind.u64.wrap (r : Int) = (r : Int) := wrap_nat64 hrb
 have HRB := hid hrb
 have HR0 := hid hr0
 have HD := hid (And.intro hd (And.intro hdb (And.intro hv hd0)))
 clear ha hb hge h1 hd hdb hv hd0 hr0 hrb
 go_enter Tryz.func128, Tryz.ntmps128
 go_wp2_with fail
 refine (nat_trim _ xs _ HA.out hS (by omega)).mono ?_
 rintro e w1 ⟨v1, rfl, hu1, hx1⟩
 have HA1 := hid hu1
 have HX1 := hid hx1
 clear hu1 hx1
 go_wp2_with fail
 refine (nat_trim _ ys w1 (HB.out.ext HX1.out hS) (fun k hk => Nat.lt_of_lt_of_le (hS k hk) HX1.out.size) (by omega)).mono ?_
 rintro e w2 ⟨v2, rfl, hu2, hx2⟩
 rw [HD.out.1] at hu2
 have HX2 := hid (HX1.out.trans hx2)
 have HA2 := hid (HA1.out.to (S' := Old w2) (Kept.ext hx2 (fun _ h => h.2)) (fun k h => Nat.lt_of_lt_of_le h.2 hx2.size))
 have HB2 := hid (hu2.to (S' := Old w2) (Kept.refl _ _) (fun k h => h.2))
 obtain ⟨a2, c2, rfl⟩ := hu2.form
 obtain ⟨b2, o2, rfl, -, hn2, hm2, hs2, hb2, hcell⟩ := hu2.cellAt (k := 0) (z := d) rfl
 rw [Nat.add_zero] at hcell
 have HS2 := hid hs2.2
 clear hu2 hx2 hs2
 have CC := hid (nat_cmp _ _ _ _ w2 HA2.out HB2.out (fun _ h => h))
 obtain ⟨c, hc⟩ : ∃ c, c = cmpN (val B32 (rep B32 (val B32 xs))) (val B32 [d]) := ⟨_, rfl⟩
 have hcmp : 0 ≤ c := by
  have e : val B32 [d] = d := by simp [val]
  rw [hc, val_rep two_le_B32, e, ← HD.out.2.2.1]
  unfold cmpN cmpI
  have := HGE.out
  split
  ·omega
  ·split <;> omega
 rw [← hc] at CC
 clear hc
 go_wp2_with fail
 refine CC.out.mono ?_
 rintro e w3 ⟨rfl, hx3⟩
 have hcell3 := hx3.cell hcell
 have HX3 := hid (HX2.out.trans hx3)
 have HA3 := hid (HA2.out.to (S' := Old w3) (Kept.ext hx3 (fun _ h => h)) (fun k h => Nat.lt_of_lt_of_le h hx3.size))
 have CL := hid (div_limb _ _ d w3 HA3.out (fun _ h => h) (by have := HLA.out; omega) HD.out.2.2.2 HD.out.2.1)
 rw [val_rep two_le_B32, ← HR0.out] at CL
 clear hx3 hcell
 go_wp2_with fail
 refine CL.out.mono ?_
 rintro e w4 ⟨v4, rfl, hu4, hx4⟩
 have HU4 := hid hu4
 have HX4 := hid hx4
 clear hu4 hx4
 have CS := hid (nat_small r w4 HRB.out)
 go_wp2_with fail
 refine CS.out.mono ?_
 rintro e w5 ⟨v5, rfl, hu5, hx5⟩
 have HU5 := hid hu5
 have HX5 := hid hx5
 clear hu5 hx5
 go_wp2
 all_goals
  go_ret3
  have x3 := HX3.out
  have x4 := HX4.out
  have x5 := HX5.out
  refine ⟨_, _, rfl, ?_, ?_, (x3.trans x4).trans x5⟩
  ·rw [HD.out.2.2.1]
   exact HU4.out.to (Kept.ext x5 (fun _ h => h.2)) (fun k h => ⟨Nat.le_trans x3.size h.1, Nat.lt_of_lt_of_le h.2 x5.size⟩)
  ·rw [HD.out.2.2.1, ← HR0.out]
   exact HU5.out.to (Kept.refl _ _) (fun k h => ⟨Nat.le_trans (Nat.le_trans x3.size x4.size) h.1, h.2⟩)
end
section
open Go.RowKit
theorem div_mod_big {S : Nat → Prop} (va vb : Value) (xs ys : List Nat) (w : World) (ha : U32s S w va xs) (hb : U32s S w vb ys) (hS : ∀ k, S k → k < w.heap.size) (hr : xs.length ≤ 100000000000) (hr2 : ys.length ≤ 100000000000) (hge : val B32 ys ≤ val B32 xs) (m : Nat) (h2 : (rep B32 (val B32 ys)).length = m + 2) :
  Calls Tryz.prog 128 #[va, vb] w (DivPost (val B32 xs) (val B32 ys) w) := by
 have HA := hid ha
 have HB := hid hb
 have HLA : Hid ((rep B32 (val B32 xs)).length ≤ xs.length) := hid (rep_len_le two_le_B32 _ _ (val_lt xs ha.lt))
 have HLB : Hid ((rep B32 (val B32 ys)).length ≤ ys.length) := hid (rep_len_le two_le_B32 _ _ (val_lt ys hb.lt))
 have HAB : Hid ((rep B32 (val B32 ys)).length ≤ (rep B32 (val B32 xs)).length) := hid (rep_mono_len hge)
 obtain ⟨A, hA⟩ : ∃ A, A = val B32 xs := ⟨_, rfl⟩
 obtain ⟨D, hD⟩ : ∃ D, D = val B32 ys := ⟨_, rfl⟩
 rw [← hA] at hge HLA HAB ⊢
 rw [← hD] at hge h2 HLB HAB ⊢
 have HAE := hid hA
 have HDE := hid hD
 have HGE := hid hge
 obtain ⟨La, hLa⟩ : ∃ La, La = (rep B32 A).length := ⟨_, rfl⟩
 rw [← hLa, h2] at HAB
 rw [← hLa] at HLA
 rw [h2] at HLB
 have hla1 : m + 2 ≤ La := HAB.out
 have hla2 : La ≤ 100000000000 := Nat.le_trans HLA.out hr
 have HLL := hid hLa
 have HL2 := hid h2
 have hD0 : 0 < D := by
  rcases Nat.eq_zero_or_pos D with h | h
  ·rw [h, rep_zero] at h2
   cases h2
  ·exact h
 have HD0 := hid hD0
 clear ha hb hge hLa h2 hD0 hA hD
 go_enter Tryz.func128, Tryz.ntmps128
 go_wp2_with fail
 refine (nat_trim _ xs _ HA.out hS (by omega)).mono ?_
 rintro e w1 ⟨v1, rfl, hu1, hx1⟩
 rw [← HAE.out] at hu1
 have HA1 := hid hu1
 have HX1 := hid hx1
 clear hu1 hx1
 go_wp2_with fail
 refine (nat_trim _ ys w1 (HB.out.ext HX1.out hS) (fun k hk => Nat.lt_of_lt_of_le (hS k hk) HX1.out.size) (by omega)).mono ?_
 rintro e w2 ⟨v2, rfl, hu2, hx2⟩
 rw [← HDE.out] at hu2
 have HX2 := hid (HX1.out.trans hx2)
 have HA2 := hid (HA1.out.to (S' := Old w2) (Kept.ext hx2 (fun _ h => h.2)) (fun k h => Nat.lt_of_lt_of_le h.2 hx2.size))
 have HB2 := hid (hu2.to (S' := Old w2) (Kept.refl _ _) (fun k h => h.2))
 obtain ⟨a2, c2, rfl⟩ := hu2.form
 rw [HL2.out] at HB2 ⊢
 obtain ⟨a1, c1, rfl⟩ := HA2.out.form
 rw [← HLL.out] at HA2 ⊢
 clear hu2 hx2 HA1
 have CC := hid (nat_cmp _ _ _ _ w2 HA2.out HB2.out (fun _ h => h))
 obtain ⟨c, hc⟩ : ∃ c, c = cmpN (val B32 (rep B32 A)) (val B32 (rep B32 D)) := ⟨_, rfl⟩
 have hcmp : 0 ≤ c := by
  rw [hc, val_rep two_le_B32, val_rep two_le_B32]
  unfold cmpN cmpI
  have := HGE.out
  split
  ·omega
  ·split <;> omega
 rw [← hc] at CC
 clear hc
 go_wp2_with fail
 refine CC.out.mono ?_
 rintro e w3 ⟨rfl, hx3⟩
 have HX3 := hid (HX2.out.trans hx3)
 have HA3 := hid (HA2.out.to (S' := Old w3) (Kept.ext hx3 (fun _ h => h)) (fun k h => Nat.lt_of_lt_of_le h hx3.size))
 have HB3 := hid (HB2.out.to (S' := Old w3) (Kept.ext hx3 (fun _ h => h)) (fun k h => Nat.lt_of_lt_of_le h hx3.size))
 have CB := hid (nat_bits_is _ _ w3 HB3.out (by rw [HL2.out]; omega) (by rw [val_rep two_le_B32]; exact HD0.out))
 rw [val_rep two_le_B32] at CB
 clear hx3
 go_wp2_with fail
 refine CB.out.mono ?_
 rintro e w3' ⟨m', k, rfl, hm', hk1, hk2, ht1, ht2, rfl⟩
 obtain rfl : m' = m + 1 := by have := HL2.out; omega
 obtain ⟨s, hs⟩ : ∃ s, s = 32 - k := ⟨_, rfl⟩
 have HN := hid (norm_top HL2.out hk1 hk2 ht1 ht2)
 rw [← hs, show m + 1 + 1 = m + 2 from rfl] at HN
 have hs32 : s < 32 := by omega
 have hsh : 32 * ((m : Int) + 2) - (32 * ((m : Int) + 1) + (k : Int)) = (s : Int) := by omega
 clear ht1 ht2 hs
 have CV := hid (nat_shl _ _ s w3 HB3.out (fun _ h => h) (by rw [HL2.out]; omega) hs32)
 rw [val_rep two_le_B32, HL2.out, HN.out.1] at CV
 go_wp2_with fail
 refine CV.out.mono ?_
 rintro e w4 ⟨gv, rfl, hgv1, hgv2, hrv, hx4⟩
 have HX4 := hid (HX3.out.trans hx4)
 have HGV := hid (And.intro hgv1 hgv2)
 have HRV := hid hrv
 have HA4 := hid (HA3.out.to (S' := Old w4) (Kept.ext hx4 (fun _ h => h)) (fun k h => Nat.lt_of_lt_of_le h hx4.size))
 clear hx4 hgv1 hgv2 hrv
 have CU := hid (nat_shl _ _ s w4 HA4.out (fun _ h => h) (by rw [← HLL.out]; omega) hs32)
 rw [val_rep two_le_B32, ← HLL.out] at CU
 go_wp2_with fail
 refine CU.out.mono ?_
 rintro e w5 ⟨gu, rfl, hgu1, hgu2, hru, hx5⟩
 obtain ⟨lu, hlu⟩ : ∃ lu, lu = (rep B32 (A * 2 ^ s)).length := ⟨_, rfl⟩
 rw [← hlu]
 have hlu1 : lu ≤ La + 1 := by
  rw [hlu]
  refine rep_len_le two_le_B32 _ _ ?_
  have h1 : A < B32 ^ La := by
   have h2 := val_lt (rep B32 A) (rep_lt two_le_B32 A)
   rwa [val_rep two_le_B32, ← HLL.out] at h2
  have h3 : 2 ^ s ≤ B32 := show 2 ^ s ≤ 2 ^ 32 from Nat.pow_le_pow_right (by decide) (by omega)
  rw [Nat.pow_succ]
  exact Nat.lt_of_lt_of_le (Nat.mul_lt_mul_of_pos_right h1 (Nat.pow_pos (by decide))) (Nat.mul_le_mul_left _ h3)
 have hlu2 : La ≤ lu := by
  rw [hlu, HLL.out]
  exact rep_mono_len (Nat.le_mul_of_pos_right _ (Nat.pow_pos (by decide)))
 have HLU := hid hlu
 have HRU := hid hru
 have HGU := hid (And.intro hgu1 hgu2)
 have HX5 := hid hx5
 clear hlu hru hgu1 hgu2 hx5
 go_wp2
 go_loopw [13] (fun s13 wr => ∃ l : Nat, s13 = .slice (some ⟨gu, 0, none⟩) l (La + 1) ∧ lu ≤ l ∧ l ≤ La + 1 ∧ wr.rowIs gu 148 (La + 1) (rowU (rep B32 (A * 2 ^ s))) ∧ Ext w4 wr) (fun s13 _ => La + 1 - (sliceLen s13))
 case atStart => exact ⟨lu, rfl, Nat.le_refl _, hlu1, HRU.out, HX5.out⟩
 case round =>
  obtain ⟨l, rfl, hl1, hl2, hrow, hx⟩ := hrel
  have HR := hid hrow
  have HX := hid hx
  clear hrow hx
  by_cases hlt : l ≤ La
  ·have hra := HR.out.alloc (.cells #[.int .u32 0] 148)
   have hfz := hra.frozen l
   have hfc := hra.cell (i := l) (by omega)
   have HRA := hid hra
   clear hra
   go_wp2
   refine ⟨⟨l + 1, rfl, by omega, by omega, ?_, ?_⟩, by simp only [sliceLen]; omega⟩
   ·refine (HRA.out.set l (.int .u32 0)).congr (fun i hi => ?_)
    by_cases e : i = l
    ·rw [if_pos e, e]
     unfold rowU
     rw [dg_out (by rw [← HLU.out]; exact hl1)]
     rfl
    ·rw [if_neg e]
   ·exact (Ext.alloc HX.out _).setCell HGU.out.1 _
  ·obtain rfl : l = La + 1 := by omega
   obtain ⟨nq, hnq⟩ : ∃ nq, nq = La + 1 - (m + 2) := ⟨_, rfl⟩
   have hnq2 : (La : Int) + 1 - ((m : Int) + 2) = (nq : Int) := by omega
   have hnq3 : nq + (m + 2) = La + 1 := by omega
   have hmk := run_make_row' (P := Tryz.prog) 24 148 (.int .u32 0) 4 Tryz.underlying24 Tryz.infoU32 rfl .i64 .i64 nq (by omega) (by omega) wr
   have HQ0 := hid (rowU_zeros wr nq 148)
   have HQX := hid (Ext.alloc HX.out (.cells (madeCells #[.int .u32 0] nq) 148))
   have HQU := hid (HR.out.alloc (.cells (madeCells #[.int .u32 0] nq) 148))
   have HGW := hid HR.out.lt
   have HXS := hid HX.out.size
   have HVW := hid (World.rowIs.of_block HRV.out (HQX.out.block gv HGV.out.2))
   obtain ⟨gq, hgq⟩ : ∃ gq, gq = wr.heap.size := ⟨_, rfl⟩
   obtain ⟨w6, hw6⟩ : ∃ w6, w6 = wr.alloc (.cells (madeCells #[.int .u32 0] nq) 148) := ⟨_, rfl⟩
   rw [← hw6, ← hgq] at hmk HQ0
   rw [← hw6] at HQX HQU HVW
   rw [← hgq] at HGW HXS
   clear hnq hgq hw6
   go_wp2
   obtain ⟨V, hV⟩ : ∃ V, V = D * 2 ^ s := ⟨_, rfl⟩
   obtain ⟨vs, hvs⟩ : ∃ vs, vs = rep B32 V := ⟨_, rfl⟩
   have hvv : val B32 vs = V := by rw [hvs, val_rep two_le_B32]
   have hvl : ∀ z ∈ vs, z < B32 := by rw [hvs]; exact rep_lt two_le_B32 V
   rw [← hV, ← hvs] at HN HVW
   have HVS := hid (And.intro hvv hvl)
   have HVE := hid hV
   clear hV hvs hvv hvl
   go_loopw [87] (fun s87 wq => ∃ (i : Nat) (o qs : List Nat), s87 = .int .i64 (i : Nat) ∧ i ≤ nq ∧ Hid (o.length = La + 1 ∧ (∀ z ∈ o, z < B32) ∧ qs.length = nq ∧ (∀ z ∈ qs, z < B32) ∧ NDivAt B32 (A * 2 ^ s) V (m + 2) o qs (nq - i)) ∧
    wq.rowIs gu 148 (La + 1) (rowU o) ∧ wq.rowIs gq 148 nq (rowU qs) ∧ wq.rowIs gv 148 (m + 2 + 1) (rowU vs) ∧ Ext w4 wq) (fun s87 _ => nq - (intOf s87).toNat)
   case atStart =>
    obtain ⟨ro, hro⟩ : ∃ ro, ro = rep B32 (A * 2 ^ s) := ⟨_, rfl⟩
    obtain ⟨o, ho⟩ : ∃ o, o = ro ++ List.replicate (La + 1 - lu) 0 := ⟨_, rfl⟩
    have hrl : ro.length = lu := by rw [hro]; exact HLU.out.symm
    have hol : o.length = La + 1 := by rw [ho, List.length_append, List.length_replicate, hrl]; omega
    have hob : ∀ z ∈ o, z < B32 := by
     intro z hz
     rw [ho] at hz
     rcases List.mem_append.1 hz with h | h
     ·rw [hro] at h
      exact rep_lt two_le_B32 _ z h
     ·rw [(List.mem_replicate.1 h).2]; decide
    have hov : val B32 o = A * 2 ^ s := by rw [ho, val_append, val_zeros, Nat.mul_zero, Nat.add_zero, hro, val_rep two_le_B32]
    refine ⟨0, o, List.replicate nq 0, rfl, Nat.zero_le _, hid ⟨hol, hob, by simp, fun z hz => by rw [(List.mem_replicate.1 hz).2]; decide, ?_⟩, ?_, HQ0.out, HVW.out, HQX.out⟩
    ·have h1 := knuth_start (A := A) (V := V) (n := m + 2) (La := La) (s := s) (Bv := D) (lu := 0) (qs := List.replicate nq 0) hob hol hov HLL.out.symm (by omega) hla1 HVE.out HL2.out (by simp; omega) rfl
     rwa [show La + 1 - (m + 2) = nq by omega] at h1
    ·rw [rowU_same (dg_rep hob _ hov)]
     exact HQU.out
   case round =>
    obtain ⟨i, o, qs, rfl, hi, HI, hrow, hrq, hrv, hx⟩ := hrel
    have HRO := hid hrow
    have HRQ := hid hrq
    have HRW := hid hrv
    have HXQ := hid hx
    by_cases hlt : i < nq
    ·obtain ⟨j, hj⟩ : ∃ j, j + 1 = nq - i := ⟨nq - i - 1, by omega⟩
     have hj2 : (nq : Int) - 1 - (i : Int) = (j : Int) := by omega
     obtain ⟨p, hp⟩ : ∃ p, p = j + (m + 2) + 1 := ⟨_, rfl⟩
     have hj3 : (j : Int) + ((m : Int) + 2) + 1 = (p : Int) := by omega
     have hj4 : p ≤ La + 1 := by omega
     have hj5 : j ≤ p := by omega
     have hj6 : p - j = m + 2 + 1 := by omega
     have HP := hid hp
     clear hp
     have HJ := hid hj
     clear hrow hrq hrv hx
     have HO := hid (And.intro HI.out.1 HI.out.2.1)
     have hkn : j + (m + 2) < o.length := by rw [HO.out.1]; omega
     have HKN := hid hkn
     have hcap : La + 1 ≤ 9223372036854775807 := by omega
     have hdiv : NDivAt B32 (A * 2 ^ s) V (m + 2) o qs (j + 1) := by rw [hj]; exact HI.out.2.2.2.2
     have HDIV := hid hdiv
     have HUP := hid (part_u32 HRO.out HO.out.2 hkn (by rw [HO.out.1]; omega) hcap)
     have HVP : Hid (U32s (fun j => j = gv) wr (.slice (some ⟨gv, 0, none⟩) (m + 2) (m + 2 + 1)) vs) := hid (by
      have h1 := U32s.of_row HRW.out (by rw [HN.out.1]; omega) HVS.out.2 (by omega)
      rwa [HN.out.1] at h1)
     have CG := hid (div_guess (S := Old wr) _ _ _ _ m wr (HUP.out.to (Kept.refl _ _) (fun k hk => by rw [hk]; exact HRO.out.lt)) (HVP.out.to (Kept.refl _ _) (fun k hk => by rw [hk]; exact HRW.out.lt)) (fun _ h => h) (part_len hkn) HN.out.1 HN.out.2
      (top_le HO.out.2 HVS.out.2 hkn HN.out.1 HVS.out.1 hdiv.low))
     clear hkn hdiv hj
     go_wp2_with fail
     refine CG.out.mono ?_
     rintro e w7 ⟨q, r, rfl, hx7, hq7, ht7, hc7, hok7⟩
     have HX7 := hid hx7
     have HRO7 := hid (HRO.out.of_block (hx7.block gu HRO.out.lt))
     have HRQ7 := hid (HRQ.out.of_block (hx7.block gq HRQ.out.lt))
     have HRW7 := hid (HRW.out.of_block (hx7.block gv HRW.out.lt))
     have HVP7 := hid (HVP.out.to (Kept.ext hx7 (fun k hk => by rw [hk]; exact HRW.out.lt)) (fun k h => h))
     have HQ7 := hid (And.intro ht7 (And.intro hc7 hok7))
     have HQB := hid hq7
     have CO := hid (div_off (S := fun j => j = gv) (w := w7) (g := gu) (k := j) (n := m + 2) (cap := La + 1) (q := q) (o := o) (vs := vs) _ HRO7.out (by rw [HO.out.1]; omega) HO.out.2 HKN.out HVP7.out (fun k hk => ⟨by rw [hk]; exact HRW7.out.lt, by rw [hk]; have := HGV.out.2; have := HGU.out.1; omega⟩) HN.out.1 hq7 hcap)
     clear hx7 hq7 ht7 hc7 hok7 CG
     go_wp2_with fail
     refine CO.out.mono ?_
     rintro e w8 ⟨ps, b, rfl, hb1, hpl, hps, hpv, hro8, hgb8, hsz8⟩
     have HP8 := hid (And.intro hpl (And.intro hps hpv))
     have HRO8 := hid hro8
     have HGB8 := hid (And.intro hgb8 hsz8)
     have HRQ8 := hid (HRQ7.out.of_block (hgb8.block gq HRQ7.out.lt (fun e => by have := HGW.out; cases e; omega)))
     have HRW8 := hid (HRW7.out.of_block (hgb8.block gv HRW7.out.lt (fun e => by have := HGV.out.2; have := HGU.out.1; cases e; omega)))
     have HX8 := hid (ext_grown (HXQ.out.trans HX7.out) hgb8 (fun k hk => by cases hk; exact HGU.out.1))
     have HK := hid (knuth_step HO.out.2 HVS.out.2 HKN.out (by rw [HI.out.2.2.1]; omega) HN.out.1 HVS.out.1 HN.out.2 HDIV.out HQ7.out.1 HQB.out HQ7.out.2.1 HQ7.out.2.2 hb1 hpl hps hpv)
     clear hpl hps hpv hro8 hgb8 hsz8 CO
     rcases (show b = 0 ∨ b = 1 by omega) with rfl | rfl
     ·have hd0 : decide ((0 : Nat) = 1) = false := rfl
      have hq32 : (q : Int) % 4294967296 = (q : Int) := by have h1 : q < 4294967296 := HQB.out; omega
      have hcq := HRQ8.out.cell (i := j) (by omega)
      have hfq := HRQ8.out.frozen j
      go_wp2
      refine ⟨⟨i + 1, putL o j ps, qs.set j q, rfl, by omega, hid ⟨?_, put_lt HO.out.2 HP8.out.2.1 j, by rw [List.length_set]; exact HI.out.2.2.1, u_set_lt HI.out.2.2.2.1 HQB.out, ?_⟩, ?_, ?_, ?_, ?_⟩, ?_⟩
      ·rw [put_len (by rw [HP8.out.1]; have := HKN.out; omega)]; exact HO.out.1
      ·rw [show nq - (i + 1) = j by omega]
       exact HK.out.1 (by first | rfl | trivial)
      ·exact HRO8.out.setOther (by have := HGW.out; show gu ≠ gq; omega) _
      ·exact rowU_set HRQ8.out j q (by rw [HI.out.2.2.1]; omega)
      ·exact HRW8.out.setOther (by have h1 := HGW.out; have h2 := HGV.out.2; have h3 := HGU.out.1; show gv ≠ gq; omega) _
      ·exact HX8.out.setCell HXS.out _
      ·simp only [intOf]; omega
     ·obtain ⟨hq0, hk⟩ := HK.out.2 rfl
      have HKK := hid hk
      obtain ⟨q', hq'⟩ : ∃ q', q' = q - 1 := ⟨_, rfl⟩
      have hq1 : (q : Int) - 1 = (q' : Int) := by omega
      have hqb' : q' < B32 := by have := HQB.out; omega
      have hq64 : IntKind.u64.wrap (q' : Int) = (q' : Int) := wrap_nat64 (Nat.lt_trans hqb' (by decide))
      have hq32 : (q' : Int) % 4294967296 = (q' : Int) := by have h1 : q' < 4294967296 := hqb'; omega
      have HQB' := hid hqb'
      have HQ' := hid hq'
      have hd0 : decide ((1 : Nat) = 1) = true := rfl
      clear hqb' hk hq'
      have hol8 : (putL o j ps).length = La + 1 := by rw [put_len (by rw [HP8.out.1]; have := HKN.out; omega)]; exact HO.out.1
      have HVP8 := hid (HVP7.out.to (S' := fun k => k = gv) (show Kept (fun k => k = gv) w7 w8 from fun k hk => by rw [hk]; exact HGB8.out.1.block gv HRW7.out.lt (fun e => by have := HGV.out.2; have := HGU.out.1; cases e; omega)) (fun k h => h))
      have CN := hid (div_on (S := fun j => j = gv) (w := w8) (g := gu) (k := j) (n := m + 2) (cap := La + 1) (o := putL o j ps) (vs := vs) (.slice (some ⟨gv, 0, none⟩) (m + 2) (m + 2 + 1)) HRO8.out (by omega) (put_lt HO.out.2 HP8.out.2.1 j) (by omega) HVP8.out (fun k hk => ⟨by rw [hk]; exact HRW8.out.lt, by rw [hk]; have := HGV.out.2; have := HGU.out.1; omega⟩) HN.out.1 hcap)
      have HOL8 := hid hol8
      clear hol8
      go_wp2_with fail
      refine CN.out.mono ?_
      rintro e w9 ⟨rs, rfl, hrl, hrs, hrv9, hro9, hgb9, hsz9⟩
      rw [part_put HKN.out HP8.out.1] at hrv9
      rw [put_put HKN.out HP8.out.1 hrl] at hro9
      have HR9 := hid (And.intro hrl (And.intro hrs hrv9))
      have HRO9 := hid hro9
      have HRQ9 := hid (HRQ8.out.of_block (hgb9.block gq HRQ8.out.lt (fun e => by have := HGW.out; cases e; omega)))
      have HRW9 := hid (HRW8.out.of_block (hgb9.block gv HRW8.out.lt (fun e => by have := HGV.out.2; have := HGU.out.1; cases e; omega)))
      have HX9 := hid (ext_grown HX8.out hgb9 (fun k hk => by cases hk; exact HGU.out.1))
      have hcq := HRQ9.out.cell (i := j) (by omega)
      have hfq := HRQ9.out.frozen j
      clear hrl hrs hrv9 hro9 hgb9 hsz9 CN
      go_wp2
      refine ⟨⟨i + 1, putL o j rs, qs.set j q', rfl, by omega, hid ⟨?_, put_lt HO.out.2 HR9.out.2.1 j, by rw [List.length_set]; exact HI.out.2.2.1, u_set_lt HI.out.2.2.2.1 HQB'.out, ?_⟩, ?_, ?_, ?_, ?_⟩, ?_⟩
      ·rw [put_len (by rw [HR9.out.1]; have := HKN.out; omega)]; exact HO.out.1
      ·rw [show nq - (i + 1) = j by omega, HQ'.out]
       exact HKK.out rs HR9.out.1 HR9.out.2.2
      ·exact HRO9.out.setOther (by have := HGW.out; show gu ≠ gq; omega) _
      ·exact rowU_set HRQ9.out j q' (by rw [HI.out.2.2.1]; omega)
      ·exact HRW9.out.setOther (by have h1 := HGW.out; have h2 := HGV.out.2; have h3 := HGU.out.1; show gv ≠ gq; omega) _
      ·exact HX9.out.setCell HXS.out _
      ·simp only [intOf]; omega
    ·obtain rfl : i = nq := by omega
     clear hrow hrq hrv hx
     obtain ⟨I1, I2, I3, I4, I5⟩ := HI.out
     rw [Nat.sub_self] at I5
     have hV0 : 0 < V := by rw [HVE.out]; exact Nat.mul_pos HD0.out (Nat.pow_pos (by decide))
     obtain ⟨dq, dr⟩ := div_whole hV0 I5
     have hs2 := div_scaled (a := A) (b := D) (c := 2 ^ s) (Nat.pow_pos (by decide))
     have hq : val B32 qs = A / D := by rw [dq, HVE.out]; exact hs2.1
     have hrest : val B32 (o.take (m + 2)) / 2 ^ s = A % D := by
      have h1 := val_split (B := B32) o (m + 2)
      rw [I1, show min (m + 2) (La + 1) = m + 2 by omega] at h1
      have hVB : V < B32 ^ (m + 2) := by rw [← HVS.out.1, ← HN.out.1]; exact val_lt vs HVS.out.2
      have h2 : val B32 o < V := by rw [dr]; exact Nat.mod_lt _ hV0
      have h3 : val B32 (o.drop (m + 2)) = 0 := by
       rcases Nat.eq_zero_or_pos (val B32 (o.drop (m + 2))) with h | h
       ·exact h
       ·have := Nat.le_mul_of_pos_right (B32 ^ (m + 2)) h
        omega
      rw [h3, Nat.mul_zero, Nat.add_zero] at h1
      rw [← h1, dr, HVE.out, hs2.2, Nat.mul_div_cancel _ (Nat.pow_pos (by decide))]
     have hur : U32s (Old wr) wr (.slice (some ⟨gu, 0, none⟩) (m + 2) (La + 1)) (o.take (m + 2)) := by
      have h1 := U32s.of_row HRO.out (by omega) I2 (by omega)
      rw [I1] at h1
      exact (h1.take (by omega)).to (Kept.refl _ _) (fun k hk => by rw [hk]; exact HRO.out.lt)
     have huq : U32s (fun k => k = gq) wr (.slice (some ⟨gq, 0, none⟩) i i) qs := by
      have h1 := U32s.of_row HRQ.out (by omega) I4 (by omega)
      rwa [I3] at h1
     have CR := hid (nat_shr _ _ s wr hur (fun _ h => h) (by rw [List.length_take]; omega) hs32)
     rw [hrest] at CR
     have HUQ := hid huq
     have HLQ := hid I3
     have HQV := hid hq
     clear I1 I2 I3 I4 I5 hV0 dq dr hs2 hq hrest hur huq
     go_wp2_with fail
     refine CR.out.mono ?_
     rintro e w7 ⟨v7, rfl, hu7, hx7⟩
     have HU7 := hid hu7
     have HX7 := hid hx7
     have CQ := hid (nat_trim _ _ w7 (HUQ.out.to (S' := Old w7) (Kept.ext hx7 (fun k hk => by rw [hk]; exact HRQ.out.lt)) (fun k hk => by rw [hk]; exact Nat.lt_of_lt_of_le HRQ.out.lt hx7.size)) (fun _ h => h) (by have := HLQ.out; omega))
     rw [HQV.out] at CQ
     clear hu7 hx7 CR
     go_wp2_with fail
     refine CQ.out.mono ?_
     rintro e w8 ⟨v8, rfl, hu8, hx8⟩
     have HU8 := hid hu8
     have HX8 := hid hx8
     clear hu8 hx8 CQ
     go_wp2
     all_goals
      go_ret3
      have x4 := HX4.out
      have x6 := HXQ.out
      have x7 := HX7.out
      have x8 := HX8.out
      refine ⟨_, _, rfl, HU8.out.to (Kept.refl _ _) (fun k h => ⟨Nat.le_trans (Nat.le_trans (Nat.le_trans x4.size x6.size) x7.size) h.1, h.2⟩), HU7.out.to (Kept.ext x8 (fun _ h => h.2)) (fun k h => ⟨Nat.le_trans (Nat.le_trans x4.size x6.size) h.1, Nat.lt_of_lt_of_le h.2 x8.size⟩), ((x4.trans x6).trans x7).trans x8⟩
end
section
open Go.RowKit
theorem div_mod {S : Nat → Prop} (va vb : Value) (xs ys : List Nat) (w : World) (ha : U32s S w va xs) (hb : U32s S w vb ys) (hS : ∀ k, S k → k < w.heap.size) (hr : xs.length ≤ 100000000000) (hr2 : ys.length ≤ 100000000000) (h0 : 0 < val B32 ys) :
  Calls Tryz.prog 128 #[va, vb] w (DivPost (val B32 xs) (val B32 ys) w) := by
 by_cases hlt : val B32 xs < val B32 ys
 ·exact div_mod_lt va vb xs ys w ha hb hS hr hr2 hlt
 ·by_cases h1 : (rep B32 (val B32 ys)).length = 1
  ·exact div_mod_one va vb xs ys w ha hb hS hr hr2 (by omega) h1
  ·have hl : 0 < (rep B32 (val B32 ys)).length := by
    rw [List.length_pos_iff, Ne, rep_eq_nil two_le_B32]
    omega
   exact div_mod_big va vb xs ys w ha hb hS hr hr2 (by omega) ((rep B32 (val B32 ys)).length - 2) (by omega)
end
section
open Go.RowKit
theorem div_exact {S : Nat → Prop} (va vb : Value) (xs ys : List Nat) (w : World) (ha : U32s S w va xs) (hb : U32s S w vb ys) (hS : ∀ k, S k → k < w.heap.size) (hr : xs.length ≤ 100000000000) (hr2 : ys.length ≤ 100000000000) (h0 : 0 < val B32 ys) (hd : val B32 xs % val B32 ys = 0) :
  Calls Tryz.prog 105 #[va, vb] w fun e w' => ∃ v', e = .returned (.tuple #[v', .int .i64 0]) ∧ U32s (New w w') w' v' (rep B32 (val B32 xs / val B32 ys)) ∧ Ext w w' := by
 have C := hid (div_mod va vb xs ys w ha hb hS hr hr2 h0)
 have HD := hid hd
 clear ha hb h0 hd
 go_enter Tryz.func105, Tryz.ntmps105
 go_wp2_with fail
 refine C.out.mono ?_
 rintro e w1 ⟨vq, vr, rfl, hq, hr1, hx⟩
 rw [HD.out, rep_zero] at hr1
 obtain ⟨a, c, rfl⟩ := hr1.form
 have HQ := hid hq
 have HX := hid hx
 clear hq hr1 hx
 go_wp2
 all_goals
  go_ret2
  exact ⟨_, rfl, HQ.out, HX.out⟩
theorem whole_gcd {S : Nat → Prop} (vx vy : Value) (x y : RInt) (w : World) (hx : IntV S w vx x) (hy : IntV S w vy y) (hS : ∀ k, S k → k < w.heap.size) (hr : x.mag.length ≤ 10000000000) (hr2 : y.mag.length ≤ 10000000000) :
  Calls Tryz.prog 103 #[vx, vy] w fun e w' => ∃ v', e = .returned v' ∧ IntV (New w w') w' v' (ofI (Int.gcd (valI x) (valI y) : Nat)) ∧ Ext w w' := by
 obtain ⟨xn, xs⟩ := x
 obtain ⟨yn, ys⟩ := y
 obtain ⟨vxm, rfl, hxu⟩ := hx
 obtain ⟨vym, rfl, hyu⟩ := hy
 simp only at hxu hyu hr hr2 ⊢
 have HG : Hid (Int.gcd (valI ⟨xn, xs⟩) (valI ⟨yn, ys⟩) = Nat.gcd (val B32 xs) (val B32 ys)) := hid (by
  unfold valI
  cases xn <;> cases yn <;> simp [Int.gcd])
 rw [HG.out]
 have HX := hid hxu
 have HY := hid hyu
 obtain ⟨ax, cx, rfl⟩ := hxu.form
 obtain ⟨ay, cy, rfl⟩ := hyu.form
 have HLX := hid (Nat.le_trans (lenN_le hxu.lt) hr)
 have HLY := hid (Nat.le_trans (lenN_le hyu.lt) hr2)
 clear hxu hyu
 have HK := hid (Ext.alloc (Ext.alloc (Ext.alloc (Ext.refl w) (.cells #[.bool xn, .slice ax xs.length cx] 26)) (.cells #[.bool yn, .slice ay ys.length cy] 26)) (.cells #[.bool false, .slice none 0 0] 26))
 have hsz : w.heap.size + 1 + 1 < (((w.alloc (.cells #[.bool xn, .slice ax xs.length cx] 26)).alloc (.cells #[.bool yn, .slice ay ys.length cy] 26)).alloc (.cells #[.bool false, .slice none 0 0] 26)).heap.size := by simp
 have HSZ := hid hsz
 clear hsz
 obtain ⟨b1, b2, b3, b4⟩ := blk3 (Ext.refl (((w.alloc (.cells #[.bool xn, .slice ax xs.length cx] 26)).alloc (.cells #[.bool yn, .slice ay ys.length cy] 26)).alloc (.cells #[.bool false, .slice none 0 0] 26)))
 have c2 := b1 1 _ rfl
 have c3 := b2 1 _ rfl
 clear b1 b2 b3 b4
 have S0' := drew3 c2 c3 c3
 have HS0 := hid (And.intro S0'.1 S0'.2.1)
 clear S0' c2 c3
 go_enter Tryz.func103, Tryz.ntmps103
 go_wp2
 have S0 := HS0.out
 go_region_held3 (fun W => W.cell? ⟨w.heap.size, 1, none⟩ = some (.slice ax xs.length cx) ∧ W.cell? ⟨w.heap.size + 1, 1, none⟩ = some (.slice ay ys.length cy)) (first | exact S0 | exact S1 | exact S2 | exact ⟨other (other S2.1 (ab (by omega))) (ab (by omega)), other (other S2.2 (ab (by omega))) (ab (by omega))⟩)
  (first
   | (go_at_call 127; (with_reducible refine (nat_trim (.slice ax xs.length cx) xs _ (HX.out.ext (HK.out.drew) hS) (lt_ext hS (HK.out.drew)) (by omega)).mono ?_); rintro e w1 ⟨v1, rfl, hu1, hx1⟩; have S1 := And.intro (hx1.cell S0.1) (hx1.cell S0.2); have HX1 := hid (HK.out.drew.trans hx1); have HU1 := hid (hu1.to (S' := New w w1) (Kept.refl _ _) (New.mono HK.out.drew)); have HX1' := hid hx1; obtain ⟨a1, n1, rfl⟩ := hu1.form; clear hx1 hu1)
   | (go_at_call 127; (with_reducible refine (nat_trim (.slice ay ys.length cy) ys _ (HY.out.ext HX1.out hS) (lt_ext hS HX1.out) (by omega)).mono ?_); rintro e w2 ⟨v2, rfl, hu2, hx2⟩; have S2 := And.intro (hx2.cell S1.1) (hx2.cell S1.2); have HX2 := hid (HX1.out.trans hx2); have HX2' := hid (HX1'.out.trans hx2); have HU1' := hid (HU1.out.to (S' := New w w2) (Kept.ext hx2 New.lt) (fun k h => ⟨h.1, Nat.lt_of_lt_of_le h.2 hx2.size⟩)); have HU2 := hid (hu2.to (S' := New w w2) (Kept.refl _ _) (New.mono HX1.out)); obtain ⟨a2, n2, rfl⟩ := hu2.form; clear hx2 hu2))
 all_goals
  clear S0 S1 S2
  obtain ⟨w0, hw0⟩ : ∃ W, W = (((w.alloc (.cells #[.bool xn, .slice ax xs.length cx] 26)).alloc (.cells #[.bool yn, .slice ay ys.length cy] 26)).alloc (.cells #[.bool false, .slice none 0 0] 26)).drew := ⟨_, rfl⟩
  have HB := hid (fun (W : World) (h : Ext w0 W) => by
   rw [hw0] at h
   obtain ⟨-, -, d3, d4⟩ := blk3 ((Ext.drew (Ext.refl _)).trans h)
   exact And.intro (d3 0 _ rfl) (And.intro (d3 1 _ rfl) (And.intro (d4 0) (d4 1))))
  have HSZ0 : Hid (w.heap.size + 1 + 1 < w0.heap.size) := hid (by rw [hw0]; exact HSZ.out)
  have HX0 : Hid (Ext w w0) := hid (by rw [hw0]; exact HK.out.drew)
  rw [← hw0] at HX2'
  obtain ⟨Y, hY⟩ : ∃ Y, Y = val B32 ys := ⟨_, rfl⟩
  obtain ⟨X, hX⟩ : ∃ X, X = val B32 xs := ⟨_, rfl⟩
  rw [← hX] at HU1' HLX ⊢
  rw [← hY] at HU2 HLY ⊢
  have HXE := hid hX
  have HYE := hid hY
  clear hw0 hX hY HX1' HSZ HS0 HG HK HX1 HU1
  go_wp2
  go_loopg [5, 6] Y (fun k s5 s6 wr => ∃ (A : Nat) (a b : Option Addr) (ca cb : Nat), s5 = .slice a (rep B32 A).length ca ∧ s6 = .slice b (rep B32 k).length cb ∧ Hid (Nat.gcd A k = Nat.gcd X Y ∧ lenN A ≤ 10000000000 ∧ lenN k ≤ 10000000000 ∧ U32s (New w wr) wr (.slice a (rep B32 A).length ca) (rep B32 A) ∧ U32s (New w wr) wr (.slice b (rep B32 k).length cb) (rep B32 k) ∧ Ext w0 wr))
  case atStart => exact ⟨X, a1, a2, n1, n2, rfl, rfl, hid ⟨rfl, HLX.out, HLY.out, HU1'.out, HU2.out, HX2'.out⟩⟩
  case round =>
   obtain ⟨A, a, b, ca, cb, rfl, rfl, HI⟩ := hrel
   obtain ⟨lb, hlb⟩ : ∃ l, l = (rep B32 gk).length := ⟨_, rfl⟩
   obtain ⟨la, hla⟩ : ∃ l, l = (rep B32 A).length := ⟨_, rfl⟩
   rw [← hlb, ← hla] at HI ⊢
   have HLB := hid hlb
   have HLA := hid hla
   clear hlb hla
   by_cases h0 : gk = 0
   ·subst h0
    have hl0 : lb = 0 := by rw [HLB.out]; rfl
    subst hl0
    obtain ⟨I1, I2, I3, I4, I5, I6⟩ := HI.out
    rw [Nat.gcd_zero_right] at I1
    rw [HLA.out] at I4
    have CM := hid (made_rep false _ A wr I4 New.lt (by unfold lenN at I2; omega))
    rw [← HLA.out] at CM
    have HA := hid I1
    have HX6 := hid I6
    clear I1 I2 I3 I4 I5 I6
    go_wp2_with fail
    refine CM.out.mono ?_
    rintro e w3 ⟨v3, rfl, ⟨vm3, rfl, hu3⟩, hx3⟩
    obtain ⟨f0, f1, f2, f3⟩ := HB.out w3 (HX6.out.trans hx3)
    have HX3 := hid hx3
    have HU3 := hid hu3
    have HE := hid (And.intro f0 f1)
    obtain ⟨a3, n3, rfl⟩ := hu3.form
    clear hu3 hx3
    go_wp2
    all_goals
     have hd := fun x y => two_set x y HE.out.1 HE.out.2
     refine bodyPost_ret (by simp [results, Tryz.results103, go_sem, (hd _ _).1, (hd _ _).2]; rfl) rfl ?_
     have hg := ret_int3 (w0 := w) (b := w.heap.size + 1 + 1) rfl HU3.out (HX0.out.trans HX6.out) HX3.out (by omega) (Nat.lt_of_lt_of_le HSZ0.out HX6.out.size) (.bool (ofI (sg false A)).neg) (.slice a3 (ofI (sg false A)).mag.length n3)
     have e : ((Nat.gcd X Y : Nat) : Int) = sg false A := by rw [← HA.out]; rfl
     rw [← HXE.out, ← HYE.out, e]
     exact ⟨_, rfl, hg.1, hg.2⟩
   ·have hl0 : 0 < lb := by
     rw [HLB.out, List.length_pos_iff, Ne, rep_eq_nil two_le_B32]
     exact h0
    obtain ⟨I1, I2, I3, I4, I5, I6⟩ := HI.out
    have hgk : 0 < gk := by omega
    have CD := hid (div_mod (S := New w wr) _ _ _ _ wr I4 I5 New.lt (by unfold lenN at I2; omega) (by unfold lenN at I3; omega) (by rw [val_rep two_le_B32]; omega))
    rw [val_rep two_le_B32, val_rep two_le_B32] at CD
    have HI1 := hid (And.intro I1 I3)
    have HI5 := hid I5
    have HX6 := hid I6
    have H0 := hid hgk
    clear h0 I1 I2 I3 I4 I5 I6 hgk
    go_wp2_with fail
    refine CD.out.mono ?_
    rintro e w3 ⟨vq, vr, rfl, hq, hr3, hx3⟩
    have HR3 := hid (hr3.to (S' := New w w3) (Kept.refl _ _) (New.mono (HX0.out.trans HX6.out)))
    have HX3 := hid hx3
    have HB3 := hid (HI5.out.to (S' := New w w3) (Kept.ext hx3 New.lt) (fun k h => ⟨h.1, Nat.lt_of_lt_of_le h.2 hx3.size⟩))
    obtain ⟨ar, nr, rfl⟩ := hr3.form
    clear hq hr3 hx3
    go_wp2
    go_roundg (A % gk)
    case measure => exact Nat.mod_lt _ H0.out
    case rel =>
     refine ⟨gk, b, ar, cb, nr, by rw [HLB.out], rfl, hid ⟨?_, HI1.out.2, ?_, ?_, HR3.out, HX6.out.trans HX3.out⟩⟩
     ·rw [← HI1.out.1, Nat.gcd_comm A gk, Nat.gcd_rec gk A, Nat.gcd_comm]
     ·exact Nat.le_trans (rep_mono_len (Nat.le_of_lt (Nat.mod_lt _ H0.out))) HI1.out.2
     ·rw [← HLB.out]; exact HB3.out
end
end Go.Proofs.YtbfflodidkfphaaGreat
