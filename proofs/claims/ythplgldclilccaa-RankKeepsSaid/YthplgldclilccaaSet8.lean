/- RankKeeps holds: for every polynomial and every list of them the law answers true, and its arguments read as they did. No condition. -/
import Derived.Test.YthplgldclilccaaSet7
namespace Go.Proofs.Ythplgldclilccaa
open Go.RowKit

set_option maxRecDepth 100000 in
set_option maxHeartbeats 1000000 in
theorem equal_u32 {S : Nat → Prop} (va vb : Value) (xs ys : List Nat) (w : World) (ha : U32s S w va xs) (hb : U32s S w vb ys) (hS : ∀ k, S k → k < w.heap.size) :
    Calls Try.prog 51 #[va, vb] w fun e w' => e = .returned (.bool (decide (xs = ys))) ∧ Ext w w' := by
  have HA := hid ha
  have HB := hid hb
  have hla := ha.len_le
  have hlb := hb.len_le
  obtain ⟨aa, ca, rfl⟩ := ha.form
  obtain ⟨ab, cb, rfl⟩ := hb.form
  obtain ⟨na, hna⟩ : ∃ n, n = xs.length := ⟨_, rfl⟩
  obtain ⟨nb, hnb⟩ : ∃ n, n = ys.length := ⟨_, rfl⟩
  rw [← hna] at HA hla ⊢
  rw [← hnb] at HB hlb ⊢
  have HNA := hid hna
  have HNB := hid hnb
  clear ha hb hna hnb
  by_cases hne : na = nb
  · subst hne
    go_enter Try.func51, Try.ntmps51
    go_wp2
    go_loopw [5, 13] (fun _ i wr => ∃ k : Nat, k ≤ na ∧ i = .int .i64 k ∧ Ext w wr ∧ Hid (xs.take k = ys.take k)) (fun _ i _ => na - (intOf i).toNat)
    case atStart => exact ⟨0, Nat.zero_le _, rfl, Ext.refl _, rfl⟩
    case round =>
      obtain ⟨k, hk, rfl, hx, HE⟩ := hrel
      have HX := hid hx
      by_cases hlt : k < na
      · obtain ⟨x, hxk⟩ := some_of_lt (l := xs) (j := k) (by rw [← HNA.out]; exact hlt)
        obtain ⟨y, hyk⟩ := some_of_lt (l := ys) (j := k) (by rw [← HNB.out]; exact hlt)
        obtain ⟨b1, o1, rfl, -, hc1, hm1, hz1, h1⟩ := (HA.out.ext hx hS).cellAt hxk
        obtain ⟨b2, o2, rfl, -, hc2, hm2, hz2, h2⟩ := (HB.out.ext hx hS).cellAt hyk
        have HXK := hid hxk
        have HYK := hid hyk
        clear hxk hyk hx
        by_cases he : x = y
        · have q1 : ((x : Int) != (y : Int)) = false := by rw [he]; simp
          have H0 := hid he
          clear he
          go_wp2
          go_quiet (fail)
          go_wp2
          go_roundw
          case rel => exact ⟨k + 1, by omega, by go_num, HX.out.drewN _, take_eq_succ HE.out HXK.out (by rw [H0.out]; exact HYK.out)⟩
          case measure => simp only [intOf]; omega
        · have q1 : ((x : Int) != (y : Int)) = true := by rw [bne_iff_ne]; omega
          have HF : Hid (xs ≠ ys) := hid (ne_of_at HXK.out HYK.out he)
          clear he
          go_wp2
          go_quiet (fail)
          go_wp2
          go_ret
          exact ⟨by rw [decide_eq_false HF.out]; rfl, HX.out.drewN _⟩
      · obtain rfl : k = na := by omega
        have HF : Hid (xs = ys) := hid (by have := HE.out; rwa [List.take_of_length_le (by rw [← HNA.out]; exact Nat.le_refl _), List.take_of_length_le (by rw [← HNB.out]; exact Nat.le_refl _)] at this)
        clear hx
        go_wp2
        go_ret
        exact ⟨by rw [decide_eq_true HF.out]; rfl, HX.out⟩
  · have hb : ((na : Int) != (nb : Int)) = true := by rw [bne_iff_ne]; omega
    have HF : Hid (xs ≠ ys) := hid (fun e => hne (by rw [HNA.out, HNB.out, e]))
    clear hne
    go_enter Try.func51, Try.ntmps51
    go_wp2
    go_ret
    exact ⟨by rw [decide_eq_false HF.out]; rfl, Ext.refl _⟩
set_option maxRecDepth 100000 in
set_option maxHeartbeats 1000000 in
theorem equal_mono {S : Nat → Prop} (va vb : Value) (xs ys : Mono) (w : World) (ha : Pows S w va xs) (hb : Pows S w vb ys) (hS : ∀ k, S k → k < w.heap.size) :
    Calls Try.prog 52 #[va, vb] w fun e w' => e = .returned (.bool (decide (xs = ys))) ∧ Ext w w' := by
  have HA := hid ha
  have HB := hid hb
  have hla := ha.len_le
  have hlb := hb.len_le
  obtain ⟨aa, ca, rfl⟩ := ha.form
  obtain ⟨ab, cb, rfl⟩ := hb.form
  obtain ⟨na, hna⟩ : ∃ n, n = xs.length := ⟨_, rfl⟩
  obtain ⟨nb, hnb⟩ : ∃ n, n = ys.length := ⟨_, rfl⟩
  rw [← hna] at HA hla ⊢
  rw [← hnb] at HB hlb ⊢
  have HNA := hid hna
  have HNB := hid hnb
  clear ha hb hna hnb
  by_cases hne : na = nb
  · subst hne
    go_enter Try.func52, Try.ntmps52
    go_wp2
    go_loopw [5, 13] (fun _ i wr => ∃ k : Nat, k ≤ na ∧ i = .int .i64 k ∧ Ext w wr ∧ Hid (xs.take k = ys.take k)) (fun _ i _ => na - (intOf i).toNat)
    case atStart => exact ⟨0, Nat.zero_le _, rfl, Ext.refl _, rfl⟩
    case round =>
      obtain ⟨k, hk, rfl, hx, HE⟩ := hrel
      have HX := hid hx
      by_cases hlt : k < na
      · obtain ⟨x, hxk⟩ := some_of_lt (l := xs) (j := k) (by rw [← HNA.out]; exact hlt)
        obtain ⟨y, hyk⟩ := some_of_lt (l := ys) (j := k) (by rw [← HNB.out]; exact hlt)
        obtain ⟨b1, o1, c1', hv1, hc1, hm1, ⟨⟨hz1, hz2⟩, hz3, hz4⟩, h1, h1'⟩ := (HA.out.ext hx hS).at hxk
        obtain ⟨rfl, -, rfl⟩ : aa = some ⟨b1, o1, none⟩ ∧ na = xs.length ∧ ca = c1' := by simpa using hv1
        obtain ⟨b2, o2, c2', hv2, hc2, hm2, ⟨⟨hy1, hy2⟩, hy3, hy4⟩, h2, h2'⟩ := (HB.out.ext hx hS).at hyk
        obtain ⟨rfl, -, rfl⟩ : ab = some ⟨b2, o2, none⟩ ∧ na = ys.length ∧ cb = c2' := by simpa using hv2
        clear hv1 hv2
        rw [← HNA.out] at hc1
        rw [← HNB.out] at hc2
        have HXK := hid hxk
        have HYK := hid hyk
        clear hxk hyk hx
        by_cases he : x = y
        · have H0 := hid he
          obtain ⟨x1, x2⟩ := x
          obtain ⟨y1, y2⟩ := y
          obtain ⟨rfl, rfl⟩ : x1 = y1 ∧ x2 = y2 := by simpa using he
          simp only at h1 h1' h2 h2' hz1 hz2 hz3 hz4 hy1 hy2 hy3 hy4
          clear he
          go_wp2
          go_quiet (fail)
          go_wp2
          go_roundw
          case rel => exact ⟨k + 1, by omega, by go_num, HX.out.drewN _, take_eq_succ HE.out HXK.out HYK.out⟩
          case measure => simp only [intOf]; omega
        · have HF : Hid (xs ≠ ys) := hid (ne_of_at HXK.out HYK.out he)
          obtain ⟨x1, x2⟩ := x
          obtain ⟨y1, y2⟩ := y
          simp only at h1 h1' h2 h2' hz1 hz2 hz3 hz4 hy1 hy2 hy3 hy4
          have he' : x1 ≠ y1 ∨ (x1 = y1 ∧ x2 ≠ y2) := by
            by_cases h : x1 = y1
            · exact .inr ⟨h, fun h' => he (by rw [h, h'])⟩
            · exact .inl h
          clear he
          rcases he' with he | ⟨rfl, he⟩
          all_goals
            go_wp2
            go_quiet (fail)
            go_wp2
            go_ret
            exact ⟨by rw [decide_eq_false HF.out]; rfl, HX.out.drewN _⟩
      · obtain rfl : k = na := by omega
        have HF : Hid (xs = ys) := hid (by have := HE.out; rwa [List.take_of_length_le (by rw [← HNA.out]; exact Nat.le_refl _), List.take_of_length_le (by rw [← HNB.out]; exact Nat.le_refl _)] at this)
        clear hx
        go_wp2
        go_ret
        exact ⟨by rw [decide_eq_true HF.out]; rfl, HX.out⟩
  · have hb : ((na : Int) != (nb : Int)) = true := by rw [bne_iff_ne]; omega
    have HF : Hid (xs ≠ ys) := hid (fun e => hne (by rw [HNA.out, HNB.out, e]))
    clear hne
    go_enter Try.func52, Try.ntmps52
    go_wp2
    go_ret
    exact ⟨by rw [decide_eq_false HF.out]; rfl, Ext.refl _⟩

theorem TermV.of_cells {S : Nat → Prop} {w : World} {vm vo : Value} {t : RTerm} (h4 : U32s S w vm t.c.mag) (h5 : Pows S w vo t.m) : TermV S w (.agg #[.bool t.c.neg, vm, vo]) t := ⟨vm, vo, rfl, h4, h5⟩
theorem new3 {w W : World} {u v x : Value} {T : TypeId} (h : Ext (w.alloc (.cells #[u, v, x] T)) W) :
    W.cell? ⟨w.heap.size, 0, none⟩ = some u ∧ W.cell? ⟨w.heap.size, 1, none⟩ = some v ∧ W.cell? ⟨w.heap.size, 2, none⟩ = some x :=
  ⟨h.new_cell rfl, h.new_cell rfl, h.new_cell rfl⟩

set_option maxRecDepth 100000 in
set_option maxHeartbeats 2000000 in
theorem same_term {S : Nat → Prop} (va vb : Value) (s t : RTerm) (w : World) (ha : TermV S w va s) (hb : TermV S w vb t) (hS : ∀ k, S k → k < w.heap.size) :
    Calls Try.prog 50 #[va, vb] w fun e w' => e = .returned (.bool (decide (s = t))) ∧ Ext w w' := by
  obtain ⟨⟨sn, sm⟩, so⟩ := s
  obtain ⟨⟨tn, tm⟩, tq⟩ := t
  obtain ⟨v1, v2, rfl, hu1, hp1⟩ := ha
  obtain ⟨v3, v4, rfl, hu2, hp2⟩ := hb
  simp only at hu1 hp1 hu2 hp2 ⊢
  have CU := fun (W : World) (hW : Ext w W) => equal_u32 _ _ sm tm W (hu1.ext hW hS) (hu2.ext hW hS) (lt_ext hS hW)
  have CP := fun (W : World) (hW : Ext w W) => equal_mono _ _ so tq W (hp1.ext hW hS) (hp2.ext hW hS) (lt_ext hS hW)
  obtain ⟨a1, c1, rfl⟩ := hu1.form
  obtain ⟨a2, c2, rfl⟩ := hp1.form
  obtain ⟨a3, c3, rfl⟩ := hu2.form
  obtain ⟨a4, c4, rfl⟩ := hp2.form
  have HCU := hid CU
  have HCP := hid CP
  have hx : Ext w ((w.alloc (.cells #[.bool sn, .slice a1 sm.length c1, .slice a2 so.length c2] 72)).alloc (.cells #[.bool tn, .slice a3 tm.length c3, .slice a4 tq.length c4] 72)) := Ext.alloc (Ext.alloc (Ext.refl w) _) _
  have HX := hid hx
  have HM : Hid (∀ W, Ext ((w.alloc (.cells #[.bool sn, .slice a1 sm.length c1, .slice a2 so.length c2] 72)).alloc (.cells #[.bool tn, .slice a3 tm.length c3, .slice a4 tq.length c4] 72)) W →
      (W.cell? ⟨w.heap.size, 0, none⟩ = some (.bool sn) ∧ W.cell? ⟨w.heap.size, 1, none⟩ = some (.slice a1 sm.length c1) ∧ W.cell? ⟨w.heap.size, 2, none⟩ = some (.slice a2 so.length c2)) ∧
      (W.cell? ⟨w.heap.size + 1, 0, none⟩ = some (.bool tn) ∧ W.cell? ⟨w.heap.size + 1, 1, none⟩ = some (.slice a3 tm.length c3) ∧ W.cell? ⟨w.heap.size + 1, 2, none⟩ = some (.slice a4 tq.length c4))) := hid (fun W hW => by
    have k2 := new3 hW
    rw [size_alloc] at k2
    exact ⟨new3 ((Ext.alloc (Ext.refl _) _).trans hW), k2⟩)
  have HD : Hid ((decide ((⟨⟨sn, sm⟩, so⟩ : RTerm) = ⟨⟨tn, tm⟩, tq⟩)) = (decide (sn = tn) && (decide (sm = tm) && decide (so = tq)))) := hid (by
    rw [Bool.eq_iff_iff]
    simp [and_assoc])
  clear CU CP hu1 hp1 hu2 hp2 hx
  obtain ⟨m0, m1, m2⟩ := HM.out _ (Ext.refl _)
  by_cases h1 : sn = tn
  · subst h1
    cases hm : decide (sm = tm) with
    | false =>
      simp only [hm] at HCU
      have HF := hid hm
      clear hm
      go_enter Try.func50, Try.ntmps50
      go_wp2_with fail
      with_reducible refine (HCU.out _ HX.out).mono ?_
      rintro e w1 ⟨rfl, hx1⟩
      have HX1 := hid (HX.out.trans hx1)
      clear hx1
      go_wp2
      all_goals
        go_ret
        exact ⟨by rw [HD.out, HF.out]; simp, HX1.out⟩
    | true =>
      simp only [hm] at HCU
      have HF := hid hm
      clear hm
      go_enter Try.func50, Try.ntmps50
      go_wp2_with fail
      with_reducible refine (HCU.out _ HX.out).mono ?_
      rintro e w1 ⟨rfl, hx1⟩
      have HX1 := hid (HX.out.trans hx1)
      obtain ⟨⟨k0, k1, k2⟩, k3, k4, k5⟩ := HM.out _ hx1
      clear hx1
      go_wp2_with fail
      with_reducible refine (HCP.out _ HX1.out).mono ?_
      rintro e w2 ⟨rfl, hx2⟩
      have HX2 := hid (HX1.out.trans hx2)
      clear hx2
      go_wp2
      all_goals
        go_ret
        exact ⟨by rw [HD.out, HF.out]; simp, HX2.out⟩
  · have hb : (sn == tn) = false := by rw [beq_eq_false_iff_ne]; exact h1
    have HF := hid (decide_eq_false h1)
    clear h1
    go_enter Try.func50, Try.ntmps50
    go_wp2
    all_goals
      go_ret
      exact ⟨by rw [HD.out, HF.out]; simp, HX.out⟩

set_option maxRecDepth 100000 in
set_option maxHeartbeats 2000000 in
theorem equal_terms {S : Nat → Prop} (va vb : Value) (xs ys : List RTerm) (w : World) (ha : Terms S w va xs) (hb : Terms S w vb ys) (hS : ∀ k, S k → k < w.heap.size) :
    Calls Try.prog 49 #[va, vb, .func (.func 50) #[] #[]] w fun e w' => e = .returned (.bool (decide (xs = ys))) ∧ Ext w w' := by
  have hnot : ∀ (x : Bool) (w : World), (Op.unary .not (.bool x)).run Try.prog w = .ok (.bool (!x)) w := fun _ _ => rfl
  have HA := hid ha
  have HB := hid hb
  have hla := ha.len_le
  have hlb := hb.len_le
  obtain ⟨aa, ca, rfl⟩ := ha.form
  obtain ⟨ab, cb, rfl⟩ := hb.form
  obtain ⟨na, hna⟩ : ∃ n, n = xs.length := ⟨_, rfl⟩
  obtain ⟨nb, hnb⟩ : ∃ n, n = ys.length := ⟨_, rfl⟩
  rw [← hna] at HA hla ⊢
  rw [← hnb] at HB hlb ⊢
  have HNA := hid hna
  have HNB := hid hnb
  clear ha hb hna hnb
  by_cases hne : na = nb
  · subst hne
    go_enter Try.func49, Try.ntmps49
    go_wp2
    go_loopw [7, 8, 9, 17] (fun _ _ _ i wr => ∃ k : Nat, k ≤ na ∧ i = .int .i64 k ∧ Ext w wr ∧ Hid (xs.take k = ys.take k)) (fun _ _ _ i _ => na - (intOf i).toNat)
    case atStart => exact ⟨0, Nat.zero_le _, rfl, Ext.refl _, rfl⟩
    case round =>
      obtain ⟨k, hk, rfl, hx, HE⟩ := hrel
      have HX := hid hx
      by_cases hlt : k < na
      · obtain ⟨x, hxk⟩ := some_of_lt (l := xs) (j := k) (by rw [← HNA.out]; exact hlt)
        obtain ⟨y, hyk⟩ := some_of_lt (l := ys) (j := k) (by rw [← HNB.out]; exact hlt)
        obtain ⟨b1, o1, v1, v2, rfl, -, hc1, hm1, hz1, h1, h2, h3, h4, h5⟩ := (HA.out.ext hx hS).cellAt hxk
        obtain ⟨b2, o2, v3, v4, rfl, -, hc2, hm2, hz2, g1, g2, g3, g4, g5⟩ := (HB.out.ext hx hS).cellAt hyk
        have HXK := hid hxk
        have HYK := hid hyk
        have HC := hid (fun W (hW : Ext wr W) => same_term (S := S) _ _ x y W (TermV.of_cells (h4.ext hW (lt_ext hS hx)) (h5.ext hW (lt_ext hS hx))) (TermV.of_cells (g4.ext hW (lt_ext hS hx)) (g5.ext hW (lt_ext hS hx))) (lt_ext hS (hx.trans hW)))
        obtain ⟨a1, c1, rfl⟩ := h4.form
        obtain ⟨a2, c2, rfl⟩ := h5.form
        obtain ⟨a3, c3, rfl⟩ := g4.form
        obtain ⟨a4, c4, rfl⟩ := g5.form
        have HX2 := hid (Ext.alloc (Ext.alloc (Ext.refl wr) (.cells #[.bool x.c.neg, .slice a1 x.c.mag.length c1, .slice a2 x.m.length c2] 72)) (.cells #[.bool y.c.neg, .slice a3 y.c.mag.length c3, .slice a4 y.m.length c4] 72))
        have n1 := new3 (w := wr) (u := .bool x.c.neg) (v := .slice a1 x.c.mag.length c1) (x := .slice a2 x.m.length c2) (T := 72) (Ext.refl _)
        have m1' := (Ext.alloc (Ext.refl wr) (.cells #[.bool x.c.neg, .slice a1 x.c.mag.length c1, .slice a2 x.m.length c2] 72)).cell g1
        have m2' := (Ext.alloc (Ext.refl wr) (.cells #[.bool x.c.neg, .slice a1 x.c.mag.length c1, .slice a2 x.m.length c2] 72)).cell g2
        have m3' := (Ext.alloc (Ext.refl wr) (.cells #[.bool x.c.neg, .slice a1 x.c.mag.length c1, .slice a2 x.m.length c2] 72)).cell g3
        clear h4 h5 g4 g5 hxk hyk hx n1
        by_cases he : x = y
        · have H0 := hid he
          have hd : decide (x = y) = true := decide_eq_true he
          have HCT := HC
          simp only [hd] at HCT
          have HCC := hid HCT.out
          clear he hd HCT
          go_wp2_with fail
          with_reducible refine (HCC.out _ HX2.out).mono ?_
          rintro e w2 ⟨rfl, hx2⟩
          have HX3 := hid (HX.out.trans (HX2.out.trans hx2))
          clear hx2
          go_wp2
          go_roundw
          case rel => exact ⟨k + 1, by omega, by go_num, HX3.out, take_eq_succ HE.out HXK.out (by rw [H0.out]; exact HYK.out)⟩
          case measure => simp only [intOf]; omega
        · have HF : Hid (xs ≠ ys) := hid (ne_of_at HXK.out HYK.out he)
          have hd : decide (x = y) = false := decide_eq_false he
          have HCT := HC
          simp only [hd] at HCT
          have HCC := hid HCT.out
          clear he hd HCT
          go_wp2_with fail
          with_reducible refine (HCC.out _ HX2.out).mono ?_
          rintro e w2 ⟨rfl, hx2⟩
          have HX3 := hid (HX.out.trans (HX2.out.trans hx2))
          clear hx2
          go_wp2
          go_ret
          exact ⟨by rw [decide_eq_false HF.out]; rfl, HX3.out⟩
      · obtain rfl : k = na := by omega
        have HF : Hid (xs = ys) := hid (by have := HE.out; rwa [List.take_of_length_le (by rw [← HNA.out]; exact Nat.le_refl _), List.take_of_length_le (by rw [← HNB.out]; exact Nat.le_refl _)] at this)
        clear hx
        go_wp2
        go_ret
        exact ⟨by rw [decide_eq_true HF.out]; rfl, HX.out⟩
  · have hb : ((na : Int) != (nb : Int)) = true := by rw [bne_iff_ne]; omega
    have HF : Hid (xs ≠ ys) := hid (fun e => hne (by rw [HNA.out, HNB.out, e]))
    clear hne
    go_enter Try.func49, Try.ntmps49
    go_wp2
    go_ret
    exact ⟨by rw [decide_eq_false HF.out]; rfl, Ext.refl _⟩

set_option maxRecDepth 100000 in
theorem poly_same {S : Nat → Prop} (va vb : Value) (xs ys : List RTerm) (w : World) (ha : Terms S w va xs) (hb : Terms S w vb ys) (hS : ∀ k, S k → k < w.heap.size) :
    Calls Try.prog 22 #[va, vb] w fun e w' => e = .returned (.bool (decide (xs = ys))) ∧ Ext w w' := by
  have C := hid (equal_terms va vb xs ys w ha hb hS)
  obtain ⟨aa, ca, rfl⟩ := ha.form
  obtain ⟨ab, cb, rfl⟩ := hb.form
  generalize decide (xs = ys) = b at *
  clear ha hb
  go_enter Try.func22, Try.ntmps22
  go_wp2_with fail
  with_reducible refine C.out.mono ?_
  rintro e w2 ⟨rfl, hx2⟩
  have HX := hid hx2
  clear hx2
  go_wp2
  go_ret
  exact ⟨rfl, HX.out⟩
end Go.Proofs.Ythplgldclilccaa

namespace Go.Proofs.Ythplgldclilccaa
open Go.RowKit

theorem sortR_ok {ls : List (List RTerm)} : ∀ p ∈ sortR ls, okP p = true ∧ p ∈ ls := fun p hp => by
  have := (sortL_perm _).mem_iff.1 hp
  exact ⟨(List.mem_filter.1 this).2, (List.mem_filter.1 this).1⟩
theorem sortR_again (ls : List (List RTerm)) : sortR (sortR ls) = sortR ls := by
  have h1 : (sortR ls).filter okP = sortR ls := List.filter_eq_self.2 (fun p hp => (sortR_ok p hp).1)
  conv => lhs; unfold sortR; rw [show (sortL rankL (ls.filter okP)).filter okP = sortL rankL (ls.filter okP) from h1]
  exact sortL_of_sorted (sortL_sorted rank_le.total _)
theorem sortR_count {ls : List (List RTerm)} {p : List RTerm} (h : okP p = true) : (sortR ls).count p = ls.count p := by
  unfold sortR
  rw [(sortL_perm (le := rankL) (ls.filter okP)).count_eq]
  exact List.count_filter h
theorem sortR_len (ls : List (List RTerm)) : (sortR ls).length = (ls.filter okP).length := sortL_len _
theorem count_take {ls : List (List RTerm)} {k : Nat} {p x : List RTerm} (h : ls[k]? = some p) : (ls.take (k + 1)).count x = (ls.take k).count x + if p = x then 1 else 0 := by
  rw [List.take_add_one, h, List.count_append]
  by_cases e : p = x
  · subst e; simp
  · rw [if_neg e]
    simp [e]
theorem one_polys {w : World} {vp : Value} {ps : List RTerm} (hp : Terms (Old w) w vp ps) (T : TypeId) :
    Polys (Old (w.alloc (.cells #[vp] T))) (w.alloc (.cells #[vp] T)) (.slice (some ⟨w.heap.size, 0, none⟩) 1 1) [ps] := by
  have hx : Ext w (w.alloc (.cells #[vp] T)) := Ext.alloc (Ext.refl w) _
  refine ⟨w.heap.size, 0, ⟨_, 1, rfl, Nat.le_refl _, by decide, fun _ => rfl, fun _ => by show w.heap.size < (w.alloc _).heap.size; rw [size_alloc]; omega⟩, fun j p hj => ?_⟩
  have hj2 := lt_of_some hj
  simp only [List.length_cons, List.length_nil] at hj2
  match j, hj with
  | 0, hj =>
    obtain rfl : ps = p := by simpa using hj
    exact ⟨vp, cell_new _ _ _ rfl rfl, hp.on hx⟩
  | j + 1, _ => omega
theorem byP_take {p : PZ} {ls : List (List RTerm)} {k : Nat} {q : List RTerm} (h : ls[k]? = some q) : byP p (ls.take (k + 1)) = (byP p (ls.take k) && reducedP p (plainP q)) := by
  unfold byP
  rw [List.take_add_one, h, List.all_append]
  simp

set_option maxRecDepth 100000 in
set_option maxHeartbeats 8000000 in
theorem law_keeps (vp vl : Value) (ps : List RTerm) (ls : List (List RTerm)) (w : World) (hp : Terms (Old w) w vp ps) (hl : Polys (Old w) w vl ls) :
    Calls Try.prog 5 #[vp, vl] w fun e w' => e = .returned (.bool true) ∧ Ext w w' := by
  have hnot : ∀ (x : Bool) (w : World), (Op.unary .not (.bool x)).run Try.prog w = .ok (.bool (!x)) w := fun _ _ => rfl
  have HP := hid hp
  have HL := hid hl
  obtain ⟨ap, cp, rfl⟩ := hp.form
  obtain ⟨al, cl, rfl⟩ := hl.form
  have hlp := hp.len_le
  have hll := hl.len_le
  obtain ⟨np, hnp⟩ : ∃ n, n = ps.length := ⟨_, rfl⟩
  obtain ⟨nl, hnl⟩ : ∃ n, n = ls.length := ⟨_, rfl⟩
  rw [← hnp] at HP hlp ⊢
  rw [← hnl] at HL hll ⊢
  have HNL := hid hnl
  have HK := hid (Ext.alloc (Ext.refl w) (.cells #[.slice ap np cp] 23))
  have CP := hid (law15_great (S := Old _) _ [ps] (w.alloc (.cells #[.slice ap np cp] 23)) (one_polys HP.out _) (fun _ h => h))
  have CG := hid (fun (W : World) (hW : Ext w W) => law15_great (S := Old _) _ ls W (HL.out.on hW) (fun _ h => h))
  clear hp hl hnp hnl
  cases hg : greatL [ps] with
  | true =>
    simp only [hg] at CP
    have HCP := hid CP.out
    clear CP hg
    go_enter Try.func5, Try.ntmps5
    go_wp2_with fail
    with_reducible refine HCP.out.mono ?_
    rintro e w1 ⟨rfl, hx1⟩
    have HX1 := hid (HK.out.trans hx1)
    clear hx1
    go_wp2_with fail
    with_reducible refine (law15_known w1).mono ?_
    rintro e w2 ⟨rfl, hx2⟩
    have HX2 := hid (HX1.out.trans hx2)
    clear hx2
    go_wp2
    all_goals
      go_ret
      exact ⟨rfl, HX2.out⟩
  | false =>
    simp only [hg] at CP
    have HCP := hid CP.out
    have HFP := hid (fit_of hg)
    clear CP hg
    cases hg : greatL ls with
    | true =>
      simp only [hg] at CG
      have HCG := hid CG.out
      clear CG hg
      go_enter Try.func5, Try.ntmps5
      go_wp2_with fail
      with_reducible refine HCP.out.mono ?_
      rintro e w1 ⟨rfl, hx1⟩
      have HX1 := hid (HK.out.trans hx1)
      clear hx1
      go_wp2_with fail
      with_reducible refine (HCG.out _ HX1.out).mono ?_
      rintro e w2 ⟨rfl, hx2⟩
      have HX2 := hid (HX1.out.trans hx2)
      clear hx2
      go_wp2_with fail
      with_reducible refine (law15_known w2).mono ?_
      rintro e w3 ⟨rfl, hx3⟩
      have HX3 := hid (HX2.out.trans hx3)
      clear hx3
      go_wp2
      all_goals
        go_ret
        exact ⟨rfl, HX3.out⟩
    | false =>
      simp only [hg] at CG
      have HCG := hid CG.out
      have HFL := hid (fit_of hg)
      clear CG hg
      have HSP : Hid (smallT ps) := hid (fit_T (HFP.out.2 ps (by simp))).2
      have HSL : Hid (smallL ls) := hid (fun p hp => (fit_T (HFL.out.2 p hp)).2)
      have HNL8 : Hid (nl ≤ 8) := hid (by rw [HNL.out]; exact HFL.out.1)
      have HSS : Hid (smallL (sortR ls)) := hid (fun p hp => HSL.out p (sortR_ok p hp).2)
      have HCS := hid (fun (W : World) (hW : Ext w W) => rank_sort (S := Old W) _ ls W (HL.out.on hW) (fun _ h => h) (fun p hp => ⟨fun t ht => Nat.le_trans ((HFL.out.2 p hp).2 t ht).1 (by decide), Nat.le_trans (HFL.out.2 p hp).1 (by decide)⟩) (Nat.le_trans HFL.out.1 (by decide)))
      have HCS2 := hid (fun (W : World) (v : Value) (hv : Polys (Old W) W v (sortR ls)) => rank_sort (S := Old W) v (sortR ls) W hv (fun _ h => h) (fun p hp => ⟨fun t ht => Nat.le_trans ((HFL.out.2 p (sortR_ok p hp).2).2 t ht).1 (by decide), Nat.le_trans (HFL.out.2 p (sortR_ok p hp).2).1 (by decide)⟩) (by rw [sortR_len]; have := List.length_filter_le okP ls; have := HFL.out.1; omega))
      go_enter Try.func5, Try.ntmps5
      go_wp2_with fail
      with_reducible refine HCP.out.mono ?_
      rintro e w1 ⟨rfl, hx1⟩
      have HX1 := hid (HK.out.trans hx1)
      clear hx1
      go_wp2_with fail
      with_reducible refine (HCG.out _ HX1.out).mono ?_
      rintro e w2 ⟨rfl, hx2⟩
      have HX2 := hid (HX1.out.trans hx2)
      clear hx2
      go_wp2_with fail
      with_reducible refine (HCS.out _ HX2.out).mono ?_
      rintro e w3 ⟨v3, rfl, hp3, hx3⟩
      have HX3 := hid (HX2.out.trans hx3)
      have hp3' : Polys (Old w3) w3 v3 (sortR ls) := hp3.to (Kept.refl _ _) New.lt
      have HCS3 := hid (HCS2.out w3 v3 hp3')
      have hls := hp3.len_le
      have HP3 := hid hp3'
      obtain ⟨sa, sc, rfl⟩ := hp3.form
      obtain ⟨sn, hsn⟩ : ∃ n, n = (sortR ls).length := ⟨_, rfl⟩
      rw [← hsn] at HP3 HCS3 hls ⊢
      have HSN := hid hsn
      clear hp3 hx3 hp3' hsn
      go_wp2_with fail
      with_reducible refine HCS3.out.mono ?_
      rintro e w4 ⟨v4, rfl, hp4, hx4⟩
      rw [sortR_again] at hp4
      have HX4 := hid (HX3.out.trans hx4)
      have HP4s := hid (HP3.out.on hx4)
      have HP4 := hid (show Polys (Old w4) w4 v4 (sortR ls) from hp4.to (Kept.refl _ _) New.lt)
      obtain ⟨ta, tc, rfl⟩ := hp4.form
      rw [← HSN.out] at HP4 ⊢
      clear hp4 hx4
      go_wp2
      go_loopw [7, 8, 28] (fun n by_ i wr => ∃ (k m : Nat) (b : Bool), k ≤ nl ∧ i = .int .i64 k ∧ n = .int .i64 m ∧ by_ = .bool b ∧ m ≤ k ∧ Ext w4 wr ∧ Hid (m = ((ls.take k).filter okP).length) ∧ Hid (b = byP (plainP ps) (ls.take k))) (fun _ _ i _ => nl - (intOf i).toNat)
      case atStart => exact ⟨0, 0, true, Nat.zero_le _, rfl, rfl, rfl, Nat.le_refl _, Ext.refl _, rfl, rfl⟩
      case round =>
        obtain ⟨k, m, b, hk, rfl, rfl, rfl, hmk, hx, HM, HB⟩ := hrel
        have HX := hid hx
        by_cases hlt : k < nl
        · obtain ⟨q, hq⟩ := some_of_lt (l := ls) (j := k) (by rw [← HNL.out]; exact hlt)
          have hw : Ext w wr := HX4.out.trans hx
          have HXW := hid hw
          obtain ⟨bl, off, vq, rfl, -, hn1, hm1, hSb, h1, h2⟩ := (HL.out.on hw).cellAt hq
          have HQ := hid hq
          have HBT := hid (byP_take (p := plainP ps) hq)
          have HSQ := hid (HSL.out q (List.mem_of_getElem? hq))
          have HMT : Hid (((ls.take (k + 1)).filter okP).length = ((ls.take k).filter okP).length + if okP q then 1 else 0) := hid (by
            rw [List.take_add_one, hq, List.filter_append, List.length_append]
            congr 1
            cases h : okP q <;> simp [h])
          have CR := hid (rank_reduced (S := Old wr) _ vq ps q wr (HP.out.on hw) h2 (fun _ h => h) HSP.out HSQ.out)
          have H2 := hid h2
          obtain ⟨aq, cq, rfl⟩ := h2.form
          have hlq := h2.len_le
          obtain ⟨nq, hnq⟩ : ∃ n, n = q.length := ⟨_, rfl⟩
          rw [← hnq] at h1 H2 CR hlq
          have HNQ := hid hnq
          have H1 := hid h1
          generalize reducedP (plainP ps) (plainP q) = rd at *
          clear h2 hq hx hw hnq
          go_upto_region 9 with fail
          go_cut [8] (fun s8 wx => ∃ b' : Bool, s8 = .bool b' ∧ Hid (b' = byP (plainP ps) (ls.take (k + 1))) ∧ Ext wr wx)
          case first =>
            cases b with
            | false =>
              go_wp2_with fail
              go_meet
              exact ⟨false, rfl, by show _ = _; rw [HBT.out, ← HB.out]; rfl, Ext.refl _⟩
            | true =>
              go_wp2_with fail
              with_reducible refine CR.out.mono ?_
              rintro e w5 ⟨rfl, hx5⟩
              have HX5 := hid hx5
              clear hx5
              go_wp2_with fail
              go_meet
              exact ⟨rd, rfl, by show _ = _; rw [HBT.out, ← HB.out]; rfl, HX5.out⟩
          case rest =>
            obtain ⟨b', rfl, HB', hxc⟩ := hcut
            have HXC := hid (HX.out.trans hxc)
            have HWC := hid (HXW.out.trans hxc)
            have h1c := hxc.cell h1
            have H2C := hid (H2.out.on hxc)
            have HH1 := hid h1c
            clear hxc h1
            by_cases h0 : nq = 0
            · have HF : Hid (okP q = false) := hid (by unfold okP; rw [← HNQ.out, h0]; rfl)
              subst h0
              go_wp2
              go_roundw
              case rel => exact ⟨k + 1, m, b', by omega, by go_num, rfl, rfl, by omega, HXC.out, by show _ = _; rw [HMT.out, HF.out, HM.out]; rfl, HB'⟩
              case measure => simp only [intOf]; omega
            · have q0 : ((nq : Int) == 0) = false := by rw [beq_eq_false_iff_ne]; omega
              have CM := poly_may (S := Old wc) _ q wc H2C.out (fun _ h => h) HSQ.out
              cases hm : mayT q with
              | false =>
                have HF : Hid (okP q = false) := hid (by unfold okP; rw [hm]; simp)
                rw [hm] at CM
                have HCM := hid CM
                clear CM hm
                go_wp2_with fail
                with_reducible refine HCM.out.mono ?_
                rintro e w5 ⟨rfl, hx5⟩
                have HX5 := hid (HXC.out.trans hx5)
                clear hx5
                go_wp2
                go_roundw
                case rel => exact ⟨k + 1, m, b', by omega, by go_num, rfl, rfl, by omega, HX5.out, by show _ = _; rw [HMT.out, HF.out, HM.out]; rfl, HB'⟩
                case measure => simp only [intOf]; omega
              | true =>
                have HF : Hid (okP q = true) := hid (by unfold okP; rw [hm, ← HNQ.out]; simp; omega)
                rw [hm] at CM
                have HCM := hid CM
                clear CM hm
                go_wp2_with fail
                with_reducible refine HCM.out.mono ?_
                rintro e w5 ⟨rfl, hx5⟩
                have HX5 := hid (HXC.out.trans hx5)
                have HW5 := hid (HWC.out.trans hx5)
                have H15 := hid (hx5.cell h1c)
                have H25 := hid (H2C.out.on hx5)
                clear hx5 h1c
                go_wp2
                go_loopw [10, 11, 58] (fun many _ j wy => ∃ j0 c : Nat, j0 ≤ nl ∧ j = .int .i64 j0 ∧ many = .int .i64 c ∧ c ≤ j0 ∧ Ext w5 wy ∧ Hid (c = (ls.take j0).count q)) (fun _ _ j _ => nl - (intOf j).toNat)
                case atStart => exact ⟨0, 0, Nat.zero_le _, rfl, rfl, Nat.le_refl _, Ext.refl _, rfl⟩
                case round =>
                  obtain ⟨j0, c, hj, rfl, rfl, hcj, hy, HCC⟩ := hrel
                  have HY := hid hy
                  by_cases hlt2 : j0 < nl
                  · obtain ⟨x, hx⟩ := some_of_lt (l := ls) (j := j0) (by rw [← HNL.out]; exact hlt2)
                    obtain ⟨b2, o2, vx, hb2, -, -, -, -, g1, g2⟩ := (HL.out.on (HW5.out.trans hy)).cellAt hx
                    obtain ⟨rfl, rfl⟩ : bl = b2 ∧ off = o2 := by simpa using hb2
                    have HCT := hid (count_take (x := q) hx)
                    have HC := hid (fun Y : Later wr => poly_same (S := Old wr) vx (.slice aq nq cq) x q Y.w' (g2.ext Y.h (fun _ h => h)) ((H25.out.on hy).ext Y.h (fun _ h => h)) (fun _ h => Nat.lt_of_lt_of_le h Y.h.size))
                    obtain ⟨ax, cx, rfl⟩ := g2.form
                    have L1 := fun Y : Later wr => Y.h.cell g1
                    have L2 := fun Y : Later wr => Y.h.cell (hy.cell H15.out)
                    have q1 : (j0 : Int) < (nl : Int) := by omega
                    have q2 : (k : Int) < (nl : Int) := by omega
                    clear g1 g2 hx hy hb2
                    by_cases he : x = q
                    · have hd : decide (x = q) = true := decide_eq_true he
                      have HCV := HC.out
                      simp only [hd] at HCV
                      have HCW := hid HCV
                      have HE := hid he
                      clear hd he HCV HC
                      go_wp2
                      refine wp_region_later (by kernel_rfl) (by kernel_rfl) ?_
                      repeat (go_big_quiet_step (first | (go_at_call 22; exact Later.done (HCW.out _))))
                      refine wpQuiet_nil ?_
                      intro W2 hW2
                      have HW2 := hid (HY.out.trans hW2)
                      clear L1 L2 hW2 q1 q2
                      go_wp2
                      go_roundw
                      case rel => exact ⟨j0 + 1, c + 1, by omega, by go_num, by go_num, by omega, HW2.out, by show _ = _; rw [HCT.out, if_pos HE.out, HCC.out]⟩
                      case measure => simp only [intOf]; omega
                    · have hd : decide (x = q) = false := decide_eq_false he
                      have HCV := HC.out
                      simp only [hd] at HCV
                      have HCW := hid HCV
                      have HE := hid he
                      clear hd he HCV HC
                      go_wp2
                      refine wp_region_later (by kernel_rfl) (by kernel_rfl) ?_
                      repeat (go_big_quiet_step (first | (go_at_call 22; exact Later.done (HCW.out _))))
                      refine wpQuiet_nil ?_
                      intro W2 hW2
                      have HW2 := hid (HY.out.trans hW2)
                      clear L1 L2 hW2 q1 q2
                      go_wp2
                      go_roundw
                      case rel => exact ⟨j0 + 1, c, by omega, by go_num, rfl, by omega, HW2.out, by show _ = _; rw [HCT.out, if_neg HE.out, HCC.out]; rfl⟩
                      case measure => simp only [intOf]; omega
                  · obtain rfl : nl = j0 := by omega
                    have HCN : Hid (c = (sortR ls).count q) := hid (by
                      have := HCC.out
                      rw [List.take_of_length_le (by rw [← HNL.out]; exact Nat.le_refl _)] at this
                      rw [this, sortR_count HF.out])
                    clear hy
                    have HYW := hid (HW5.out.trans HY.out)
                    have HY4 := hid (HX5.out.trans HY.out)
                    have H16 := hid (HY.out.cell H15.out)
                    have H26 := hid (H25.out.on HY.out)
                    generalize wr = w6 at *
                    go_wp2
                    go_loopw [10, 12, 75] (fun many _ j wy => ∃ (j0 d : Nat) (z : Int), j0 ≤ sn ∧ j = .int .i64 j0 ∧ many = .int .i64 z ∧ Hid (z = (c : Int) - (d : Int)) ∧ d ≤ j0 ∧ (-(j0 : Int) ≤ z ∧ z ≤ (c : Int)) ∧ Ext w6 wy ∧ Hid (d = ((sortR ls).take j0).count q)) (fun _ _ j _ => sn - (intOf j).toNat)
                    case atStart => exact ⟨0, 0, c, Nat.zero_le _, rfl, rfl, by show _ = _; omega, Nat.le_refl _, by omega, Ext.refl _, rfl⟩
                    case round =>
                      obtain ⟨j0, d, z, hj, rfl, rfl, HZ, hdj, ⟨hz1, hz2⟩, hy, HDD⟩ := hrel
                      have HY := hid hy
                      by_cases hlt2 : j0 < sn
                      · obtain ⟨x, hx⟩ := some_of_lt (l := sortR ls) (j := j0) (by rw [← HSN.out]; exact hlt2)
                        obtain ⟨b2, o2, vx, rfl, -, hs1, hs2, -, g1, g2⟩ := (HP4s.out.on (HY4.out.trans hy)).cellAt hx
                        have HCT := hid (count_take (x := q) hx)
                        have HC := hid (fun Y : Later wr => poly_same (S := Old wr) vx (.slice aq nq cq) x q Y.w' (g2.ext Y.h (fun _ h => h)) ((H26.out.on hy).ext Y.h (fun _ h => h)) (fun _ h => Nat.lt_of_lt_of_le h Y.h.size))
                        obtain ⟨ax, cx, rfl⟩ := g2.form
                        have L1 := fun Y : Later wr => Y.h.cell g1
                        have L2 := fun Y : Later wr => Y.h.cell (hy.cell H16.out)
                        have q1 : (j0 : Int) < (sn : Int) := by omega
                        have q2 : (k : Int) < (nl : Int) := by omega
                        clear g1 g2 hx hy
                        by_cases he : x = q
                        · have hd : decide (x = q) = true := decide_eq_true he
                          have HCV := HC.out
                          simp only [hd] at HCV
                          have HCW := hid HCV
                          have HE := hid he
                          clear hd he HCV HC
                          go_wp2
                          refine wp_region_later (by kernel_rfl) (by kernel_rfl) ?_
                          repeat (go_big_quiet_step (first | (go_at_call 22; exact Later.done (HCW.out _))))
                          refine wpQuiet_nil ?_
                          intro W2 hW2
                          have HW2 := hid (HY.out.trans hW2)
                          clear L1 L2 hW2 q1 q2
                          go_wp2
                          go_roundw
                          case rel => exact ⟨j0 + 1, d + 1, z - 1, by omega, by go_num, rfl, by have := HZ.out; show _ = _; omega, by omega, by omega, HW2.out, by show _ = _; rw [HCT.out, if_pos HE.out, HDD.out]⟩
                          case measure => simp only [intOf]; omega
                        · have hd : decide (x = q) = false := decide_eq_false he
                          have HCV := HC.out
                          simp only [hd] at HCV
                          have HCW := hid HCV
                          have HE := hid he
                          clear hd he HCV HC
                          go_wp2
                          refine wp_region_later (by kernel_rfl) (by kernel_rfl) ?_
                          repeat (go_big_quiet_step (first | (go_at_call 22; exact Later.done (HCW.out _))))
                          refine wpQuiet_nil ?_
                          intro W2 hW2
                          have HW2 := hid (HY.out.trans hW2)
                          clear L1 L2 hW2 q1 q2
                          go_wp2
                          go_roundw
                          case rel => exact ⟨j0 + 1, d, z, by omega, by go_num, rfl, HZ, by omega, by omega, HW2.out, by show _ = _; rw [HCT.out, if_neg HE.out, HDD.out]; rfl⟩
                          case measure => simp only [intOf]; omega
                      · obtain rfl : sn = j0 := by omega
                        obtain rfl : z = 0 := by
                          have h1 := HDD.out
                          rw [List.take_of_length_le (by rw [← HSN.out]; exact Nat.le_refl _)] at h1
                          have h2 := HCN.out
                          have h3 := HZ.out
                          omega
                        clear hy
                        go_wp2
                        go_roundw
                        case rel => exact ⟨k + 1, m + 1, b', by omega, by go_num, by go_num, rfl, by omega, HY4.out.trans HY.out, by show _ = _; rw [HMT.out, HF.out, HM.out]; rfl, HB'⟩
                        case measure => simp only [intOf]; omega
        · obtain rfl : k = nl := by omega
          have hfull : ls.take k = ls := List.take_of_length_le (by rw [← HNL.out]; exact Nat.le_refl _)
          obtain rfl : m = sn := by rw [HM.out, HSN.out, sortR_len, hfull]
          obtain rfl : b = byP (plainP ps) ls := by rw [HB.out, hfull]
          have HCB := hid (rank_by (S := Old wr) _ _ ps ls wr (HP.out.on (HX4.out.trans hx)) (HL.out.on (HX4.out.trans hx)) (fun _ h => h) HSP.out HSL.out)
          generalize byP (plainP ps) ls = rb at *
          clear hfull hx
          have q1 : ((m : Int) != (m : Int)) = false := by simp
          have q2 : (rb != rb) = false := by simp
          go_wp2_with fail
          with_reducible refine HCB.out.mono ?_
          rintro e w5 ⟨rfl, hx5⟩
          have HX5 := hid (HX.out.trans hx5)
          clear hx5
          go_wp2
          go_loopw [112] (fun i wy => ∃ j : Nat, j ≤ m ∧ i = .int .i64 j ∧ Ext w5 wy) (fun i _ => m - (intOf i).toNat)
          case atStart => exact ⟨0, Nat.zero_le _, rfl, Ext.refl _⟩
          case round =>
            obtain ⟨j, hj, rfl, hy⟩ := hrel
            have HY := hid hy
            have HY4 := hid (HX5.out.trans hy)
            by_cases hlt2 : j < m
            · obtain ⟨x, hx⟩ := some_of_lt (l := sortR ls) (j := j) (by rw [← HSN.out]; exact hlt2)
              obtain ⟨b1, o1, v1, rfl, -, hs1, hs2, -, g1, g2⟩ := (HP4s.out.on HY4.out).cellAt hx
              obtain ⟨b2, o2, v2, rfl, -, ht1, ht2, -, g3, g4⟩ := (HP4.out.on HY4.out).cellAt hx
              have HSX := hid (HSS.out x (List.mem_of_getElem? hx))
              have CSM := fun Y : Later wr => poly_same (S := Old wr) v1 v2 x x Y.w' (g2.ext Y.h (fun _ h => h)) (g4.ext Y.h (fun _ h => h)) (fun _ h => Nat.lt_of_lt_of_le h Y.h.size)
              rw [show decide (x = x) = true by simp] at CSM
              have HCS := hid CSM
              have C1 := fun Y : Later wr => rank_of (S := Old wr) v1 x Y.w' (g2.ext Y.h (fun _ h => h)) (fun _ h => Nat.lt_of_lt_of_le h Y.h.size) HSX.out
              have C2 := fun Y : Later wr => rank_of (S := Old wr) v2 x Y.w' (g4.ext Y.h (fun _ h => h)) (fun _ h => Nat.lt_of_lt_of_le h Y.h.size) HSX.out
              unfold RankV at C1 C2
              have HC1 := hid C1
              have HC2 := hid C2
              obtain ⟨a1, c1, rfl⟩ := g2.form
              obtain ⟨a2, c2, rfl⟩ := g4.form
              have L1 := fun Y : Later wr => Y.h.cell g1
              have L2 := fun Y : Later wr => Y.h.cell g3
              have q3 : (j : Int) < (m : Int) := by omega
              clear g1 g2 g3 g4 hx hy CSM C1 C2
              generalize rankP (plainP x) = rr at *
              obtain ⟨r1, r2⟩ := rr
              simp only at HC1 HC2
              go_wp2
              refine wp_region_later (by kernel_rfl) (by kernel_rfl) ?_
              repeat (go_big_quiet_step (first | (go_at_call 22; exact Later.done (HCS.out _)) | (go_at_call_of 13 (Value.slice a1 x.length c1); exact Later.done (HC1.out _)) | (go_at_call 13; exact Later.done (HC2.out _))))
              refine wpQuiet_nil ?_
              intro W2 hW2
              have HW2 := hid (HY.out.trans hW2)
              clear L1 L2 hW2
              go_wp2
              go_roundw
              case rel => exact ⟨j + 1, by omega, by go_num, HW2.out⟩
              case measure => simp only [intOf]; omega
            · obtain rfl : j = m := by omega
              clear hy
              go_wp2_with fail
              with_reducible refine (law15_known wr).mono ?_
              rintro e w6 ⟨rfl, hx6⟩
              have HX6 := hid (HX4.out.trans (HY4.out.trans hx6))
              clear hx6
              go_wp2
              all_goals
                go_ret
                exact ⟨rfl, HX6.out⟩
end Go.Proofs.Ythplgldclilccaa

namespace Go.Proofs.Ythplgldclilccaa
open Go.RowKit Go.Deep Go.ChangeShapes Go.WideShapes Go.ChangeAt

set_option maxRecDepth 100000 in
theorem keeps_lifted (os : Os) (started : os.Started) (H : Type) (enc : TypeId × Value → H) :
    ReturnsInHanded {} Try.checked os 5 .any (Rows.rankKeepsSpec.pre6 enc Try.prog Try.f5 Rows.rankKeepsRow.domain false) (Rows.rankKeepsSpec.post enc Try.prog Try.f5 false true false false) := by
  refine returnsInHanded_of_change (C := Try.checked) Try.own started (by kernel_rfl) Try.func5
    (ChangeSpec.witness6 (enc := enc) (C := Try.checked) false ⟨#[], #[.slice none 0 0, .slice none 0 0], []⟩ 8 (by kernel_rfl) (by kernel_rfl) (by kernel_rfl) (by kernel_rfl)) ?_
  intro W base args ds gs before hval0 hW _ _
  have hval : ∀ (j : Nat) t v, Try.f5.params[j]? = some t → args[j]? = some v → Value.okWide Try.prog W .any base t v := hval0
  have hW' := hW
  obtain ⟨p, q, hA0, hV, _, _, _⟩ := hW'
  have hA : DataW.TrodAll enc Try.prog W 0 (fun _ => true) true Try.f5.params.toList args.toList ds p := hA0
  rw [Try.params5] at hA hval
  obtain ⟨v0, v1, d0, d1, p0, p1, rfl, rfl, rfl, h0, h1⟩ := trodAll_two hA
  obtain ⟨rfl, rfl⟩ := trodVars_none hV
  obtain ⟨fuel0, hf0⟩ := h0
  rw [slice_cells Try.underlying23 (hval 0 _ v0 rfl rfl)] at hf0
  obtain ⟨fuel1, hf1⟩ := h1
  rw [slice_cells Try.underlying24 (hval 1 _ v1 rfl rfl)] at hf1
  obtain ⟨ps, hp⟩ := open_terms hf0
  obtain ⟨ls, hl⟩ := open_polys hf1
  refine (law_keeps v0 v1 ps ls W hp hl).mono fun e W' h => ?_
  obtain ⟨rfl, hb⟩ := h
  exact ⟨_, rfl, law_post hW rfl rfl rfl (by rw [Try.params5]; intro t ht; simp at ht; rcases ht with rfl | rfl <;> exact ⟨by kernel_rfl, by decide +kernel⟩) hb⟩

theorem keeps_holds : Rows.RankKeepsSaid :=
  OpenClaim.holds_of_wide 5 Try.f5 rfl rfl rfl rfl rfl rfl rfl ⟨rfl, rfl, rfl, rfl, rfl⟩ rfl rfl rfl rfl rfl (by kernel_rfl) Try.func5 (by kernel_rfl)
    (of_decide_eq_true (by kernel_rfl)) (by unfold Func.isWrapper; first | (rw [if_pos (by decide +kernel)]; kernel_rfl) | (rw [if_neg (by decide +kernel)]; exact ⟨rfl, rfl⟩))
    (fun os started H enc _ => keeps_lifted os started H enc)
end Go.Proofs.Ythplgldclilccaa
