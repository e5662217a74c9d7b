/- ViewBuilds holds: for every polynomial, every list of polynomials and every whole number the law answers true, and its arguments read as they did. No condition. -/
import Derived.Test.YthplgldclilccaaGreatSet9
namespace Go.Proofs.YthplgldclilccaaGreat
open Go.RowKit

set_option maxRecDepth 100000 in
set_option maxHeartbeats 4000000 in
theorem law09_plain {S : Nat → Prop} (v : Value) (ts : List RTerm) (w : World) (h : Terms S w v ts) (hS : ∀ k, S k → k < w.heap.size) (hf : fitT ts) :
    Calls Tryz.prog 20 #[v] w fun e w' => ∃ v', e = .returned v' ∧ RTs (Plus S w w') w' v' (plainP ts) ∧ Ext w w' := by
  have C := rpoly_may (S := S) v ts w h hS hf.1
  have hok := h.okT
  cases hr : mayT ts with
  | true =>
    have HPP := hid (plainP_yes hr)
    have hcan := mayT_can hr
    have CO := fun (W : World) (hW : Ext w W) => rpoly_of (S := S) v ts W (h.ext hW hS) (lt_ext hS hW) hf.1 hcan.may (fun k _ => by rw [addP_take hcan]; exact szP_take (szP_toP hok hf) k)
    rw [normP_of_can hcan] at CO
    rw [hr] at C
    obtain ⟨a, c, rfl⟩ := h.form
    have HC := hid C
    have HCO := hid CO
    clear h hS hf C CO hr hok hcan
    go_enter Tryz.func20, Tryz.ntmps20
    go_wp2_with fail
    (with_reducible refine HC.out.mono ?_)
    rintro e w1 ⟨rfl, hx1⟩
    have HX1 := hid hx1
    clear hx1
    go_wp2_with fail
    (with_reducible refine (HCO.out w1 HX1.out).mono ?_)
    rintro e w2 ⟨v2, rfl, hp2, hx2⟩
    have HX2 := hid (HX1.out.trans hx2)
    have HP2 : Hid (RTs (Plus S w w2) w2 v2 (toP ts)) := hid (hp2.to (Kept.refl _ _) (fun q hq => by
      rcases hq with hq | hq
      · exact .inl hq
      · exact .inr ⟨Nat.le_trans HX1.out.size hq.1, hq.2⟩))
    clear hx2 hp2
    go_wp2
    all_goals
      go_ret
      exact ⟨_, rfl, by rw [HPP.out]; exact HP2.out, HX2.out⟩
  | false =>
    have HPP := hid (plainP_no hr)
    rw [hr] at C
    obtain ⟨a, c, rfl⟩ := h.form
    have HC := hid C
    clear h hS hf C hr hok
    go_enter Tryz.func20, Tryz.ntmps20
    go_wp2_with fail
    (with_reducible refine HC.out.mono ?_)
    rintro e w1 ⟨rfl, hx1⟩
    have HX1 := hid hx1
    clear hx1
    go_wp2
    all_goals
      go_ret
      exact ⟨_, rfl, by rw [HPP.out]; exact RTs.nilv _ _ _ _ (by omega), HX1.out⟩

/-- a coefficient by any variable: 0 by one that is none -/
def coefA (p : PZ) (v e : Int) : PZ := if 1 ≤ v ∧ v ≤ 200 then coefP p v e else []
theorem none_pick (p : PZ) : pickP (fun _ => none) p = [] := by
  unfold pickP
  induction p with
  | nil => rfl
  | cons t r ih => rw [List.filterMap_cons]; exact ih

set_option maxRecDepth 100000 in
set_option maxHeartbeats 4000000 in
theorem view_coefficient_any {S : Nat → Prop} (v : Value) (ts : List RTerm) (x d : Int) (w : World) (h : Terms S w v ts) (hS : ∀ k, S k → k < w.heap.size) (hr : smallT ts) (hn : ts.length ≤ 1000000000) (hi : inI64 x) (hd : inI64 d) :
    Calls Tryz.prog 31 #[v, .int .i64 x, .int .i64 d] w fun e w' => ∃ v', e = .returned v' ∧ Terms (New w w') w' v' (ofP (coefA (plainP ts) x d)) ∧ Ext w w' := by
  by_cases hx : 1 ≤ x ∧ x ≤ 200
  · have := view_coefficient v ts x d w h hS hr hn hx hd
    unfold coefA
    rw [if_pos hx]
    exact this
  · have hmf : ∀ (fn : Fn) (first cap : Array Value) (w : World), (Instr.makeFunc fn first cap).run Tryz.prog w = .ok (.func fn first cap) w := fun _ _ _ _ => rfl
    have hK : Ext w ((w.alloc (.cells #[.int .i64 x] 3)).alloc (.cells #[.int .i64 d] 3)) := (Ext.alloc (Ext.refl w) _).alloc _
    have c1 : ((w.alloc (.cells #[.int .i64 x] 3)).alloc (.cells #[.int .i64 d] 3)).cell? ⟨w.heap.size, 0, none⟩ = some (.int .i64 x) := cell_old _ (cell_new _ _ _ rfl rfl)
    have c2 : ((w.alloc (.cells #[.int .i64 x] 3)).alloc (.cells #[.int .i64 d] 3)).cell? ⟨w.heap.size + 1, 0, none⟩ = some (.int .i64 d) := cell_new _ _ _ (by rw [size_alloc]) rfl
    have HC := hid (view_picked (S := S) 72 #[.pointer (some ⟨w.heap.size, 0, none⟩), .pointer (some ⟨w.heap.size + 1, 0, none⟩)] (enters_of Tryz.func72 (by kernel_rfl) rfl) (fun _ => none) v ts _ (h.ext hK hS) (lt_ext hS hK) hr hn (picks_coef_no _ x d _ _ hx hi c1 c2))
    rw [none_pick] at HC
    unfold coefA
    rw [if_neg hx]
    have HK := hid hK
    obtain ⟨A, c, rfl⟩ := h.form
    clear h hS hr hn hx hd hK c1 c2 hi
    go_enter Tryz.func31, Tryz.ntmps31
    go_wp2_with fail
    with_reducible refine HC.out.mono ?_
    rintro e w1 ⟨v1, rfl, hp1, hx1⟩
    have HP1 := hid (hp1.to (S' := New w w1) (Kept.refl _ _) (fun k h => ⟨Nat.le_trans HK.out.size h.1, h.2⟩))
    have HX1 := hid (HK.out.trans hx1)
    clear hp1 hx1
    go_wp2
    all_goals
      go_ret
      exact ⟨_, rfl, HP1.out, HX1.out⟩

theorem nine_20 : (1 + 1000) * (10000 * B32 ^ 20) < 10 ^ 250 := by unfold B32; decide
theorem fit_nine {p : PZ} {n : Nat} (h : Fit 20 n p) (hn : n ≤ 1000) : Sz9 p := ⟨1000, B32 ^ 20, 250, ⟨Nat.le_trans h.2.2 hn, fun t ht => Nat.le_of_lt (h.2.1 t ht)⟩, by omega, nine_20, by omega⟩
theorem may_lens {p : PZ} (h : mayAll p) : ∀ t ∈ p, t.2.length ≤ 1000000 := fun t ht => Nat.le_trans (mayM_len (h t ht)) (by decide)
/-- the derivative, 0 by a variable that is none -/
theorem der_none_var {p : PZ} (h : mayAll p) {x : Int} (hx : ¬ (1 ≤ x ∧ x ≤ 200)) : derP p x = [] := by
  unfold derP
  rw [List.filterMap_eq_nil_iff]
  intro t ht
  have h0 : ex t.2 x = 0 := by
    have := ex_nonneg (h t ht) x
    rcases Int.lt_or_eq_of_le this with g | g
    · exact absurd (ex_pos_var (h t ht) g) hx
    · exact g.symm
  unfold derF
  rw [if_pos h0]
theorem deg_none_var {p : PZ} (h : mayAll p) {x : Int} (hx : ¬ (1 ≤ x ∧ x ≤ 200)) : degP p x = 0 := degP_none (fun t ht => by
  have := ex_nonneg (h t ht) x
  rcases Int.lt_or_eq_of_le this with g | g
  · exact absurd (ex_pos_var (h t ht) g) hx
  · exact g.symm)
end Go.Proofs.YthplgldclilccaaGreat

namespace Go.Proofs.YthplgldclilccaaGreat
open Go.RowKit

/-- all coefficients by any variable: none by one that is none -/
def coefsA (p : PZ) (v : Int) : List PZ := if 1 ≤ v ∧ v ≤ 200 then coefsP p v else []
theorem coefsA_nil {p : PZ} {x : Int} (h : ¬ ((1 ≤ x ∧ x ≤ 200) ∧ p ≠ [])) : coefsA p x = [] := by
  unfold coefsA
  split
  · rename_i hx
    have : p = [] := Classical.byContradiction fun e => h ⟨hx, e⟩
    subst this
    rfl
  · rfl

theorem coefs_any {W : World} {u : Value} {ts : List RTerm} {x : Int} (hp : Terms (Old W) W u ts) (h20 : ∀ t ∈ ts, t.c.mag.length ≤ 20) (hn : ts.length ≤ 20) :
    Calls Tryz.prog 39 #[u, .int .i64 x] W fun e w' => ∃ v', e = .returned v' ∧ Polys (New W w') w' v' ((coefsA (plainP ts) x).map ofP) ∧ Ext W w' := by
  by_cases h : (1 ≤ x ∧ x ≤ 200) ∧ mayT ts = true
  · have e := pv_of hp h.2
    have fP : Fit 20 20 (plainP ts) := fit_plain (k := 20) (n := 20) hp.okT h20 hn
    have hp' : PV W u (plainP ts) := by show Terms (Old W) W u (ofP (plainP ts)); rw [← e]; exact hp
    have := z_coefs hp' fP (by decide) (by decide) h.1
    unfold coefsA
    rw [if_pos h.1]
    exact this
  · have hr : smallT ts := fun t ht => Nat.le_trans (h20 t ht) (by decide)
    refine (coefs_no hp hr h).mono ?_
    rintro e w1 ⟨rfl, hx1⟩
    have e0 : coefsA (plainP ts) x = [] := coefsA_nil (fun g => h ⟨g.1, by
      cases hm : mayT ts with
      | true => rfl
      | false => exact absurd (plainP_no hm) g.2⟩)
    rw [e0]
    exact ⟨_, rfl, Polys.nilv _ _ _ _ (by omega), hx1⟩
theorem polys_ok {W : World} {u : Value} {ls : List (List RTerm)} (h : Polys (Old W) W u ls) : ∀ q ∈ ls, okT q := fun q hq => by
  obtain ⟨b, off, -, hc⟩ := h
  obtain ⟨j, hj⟩ := List.getElem?_of_mem hq
  obtain ⟨vp, -, h2⟩ := hc j q hj
  exact h2.okT
/-- polynomials that may be, as data -/
theorem all_plain {W : World} {u : Value} {ls : List (List RTerm)} (h : Polys (Old W) W u ls) (hm : ls.all mayT = true) : ls = (ls.map plainP).map ofP := by
  rw [List.map_map]
  conv => lhs; rw [← List.map_id ls]
  refine List.map_congr_left (fun q hq => ?_)
  have h1 := List.all_eq_true.1 hm q hq
  show q = ofP (plainP q)
  unfold plainP
  rw [if_pos h1]
  exact (mayT_of (polys_ok h q hq) h1).symm
end Go.Proofs.YthplgldclilccaaGreat

namespace Go.Proofs.YthplgldclilccaaGreat
open Go.RowKit

set_option maxRecDepth 100000 in
set_option maxHeartbeats 1000000 in
theorem rsame01 {S : Nat → Prop} (va vb : Value) (xs ys : List Nat) (w : World) (ha : U32s S w va xs) (hb : U32s S w vb ys) (hS : ∀ k, S k → k < w.heap.size) :
    Calls Tryz.prog 101 #[va, vb] w fun e w' => e = .returned (.bool (decide (xs = ys))) ∧ Ext w w' := by
  have HA := hid ha
  have HB := hid hb
  have hla := ha.len_le
  have hlb := hb.len_le
  obtain ⟨aa, ca, rfl⟩ := ha.form
  obtain ⟨ab, cb, rfl⟩ := hb.form
  obtain ⟨na, hna⟩ : ∃ n, n = xs.length := ⟨_, rfl⟩
  obtain ⟨nb, hnb⟩ : ∃ n, n = ys.length := ⟨_, rfl⟩
  rw [← hna] at HA hla ⊢
  rw [← hnb] at HB hlb ⊢
  have HNA := hid hna
  have HNB := hid hnb
  clear ha hb hna hnb
  by_cases hne : na = nb
  · subst hne
    go_enter Tryz.func101, Tryz.ntmps101
    go_wp2
    go_loopw [5] (fun i wr => ∃ k : Nat, k ≤ na ∧ i = .int .i64 k ∧ Ext w wr ∧ Hid (xs.take k = ys.take k)) (fun i _ => na - (intOf i).toNat)
    case atStart => exact ⟨0, Nat.zero_le _, rfl, Ext.refl _, rfl⟩
    case round =>
      obtain ⟨k, hk, rfl, hx, HE⟩ := hrel
      have HX := hid hx
      by_cases hlt : k < na
      · obtain ⟨x, hxk⟩ := some_of_lt (l := xs) (j := k) (by rw [← HNA.out]; exact hlt)
        obtain ⟨y, hyk⟩ := some_of_lt (l := ys) (j := k) (by rw [← HNB.out]; exact hlt)
        obtain ⟨b1, o1, rfl, -, hc1, hm1, hz1, h1⟩ := (HA.out.ext hx hS).cellAt hxk
        obtain ⟨b2, o2, rfl, -, hc2, hm2, hz2, h2⟩ := (HB.out.ext hx hS).cellAt hyk
        have HXK := hid hxk
        have HYK := hid hyk
        clear hxk hyk hx
        by_cases he : x = y
        · have q1 : ((x : Int) != (y : Int)) = false := by rw [he]; simp
          have H0 := hid he
          clear he
          go_wp2
          go_quiet (fail)
          go_wp2
          go_roundw
          case rel => exact ⟨k + 1, by omega, by go_num, HX.out.drewN _, take_eq_succ HE.out HXK.out (by rw [H0.out]; exact HYK.out)⟩
          case measure => simp only [intOf]; omega
        · have q1 : ((x : Int) != (y : Int)) = true := by rw [bne_iff_ne]; omega
          have HF : Hid (xs ≠ ys) := hid (ne_of_at HXK.out HYK.out he)
          clear he
          go_wp2
          go_quiet (fail)
          go_wp2
          go_ret
          exact ⟨by rw [decide_eq_false HF.out]; rfl, HX.out.drewN _⟩
      · obtain rfl : k = na := by omega
        have HF : Hid (xs = ys) := hid (by have := HE.out; rwa [List.take_of_length_le (by rw [← HNA.out]; exact Nat.le_refl _), List.take_of_length_le (by rw [← HNB.out]; exact Nat.le_refl _)] at this)
        clear hx
        go_wp2
        go_ret
        exact ⟨by rw [decide_eq_true HF.out]; rfl, HX.out⟩
  · have hb : ((na : Int) != (nb : Int)) = true := by rw [bne_iff_ne]; omega
    have HF : Hid (xs ≠ ys) := hid (fun e => hne (by rw [HNA.out, HNB.out, e]))
    clear hne
    go_enter Tryz.func101, Tryz.ntmps101
    go_wp2
    go_ret
    exact ⟨by rw [decide_eq_false HF.out]; rfl, Ext.refl _⟩
set_option maxRecDepth 100000 in
set_option maxHeartbeats 1000000 in
theorem rsame07 {S : Nat → Prop} (va vb : Value) (xs ys : Mono) (w : World) (ha : Pows S w va xs) (hb : Pows S w vb ys) (hS : ∀ k, S k → k < w.heap.size) :
    Calls Tryz.prog 56 #[va, vb] w fun e w' => e = .returned (.bool (decide (xs = ys))) ∧ Ext w w' := by
  have HA := hid ha
  have HB := hid hb
  have hla := ha.len_le
  have hlb := hb.len_le
  obtain ⟨aa, ca, rfl⟩ := ha.form
  obtain ⟨ab, cb, rfl⟩ := hb.form
  obtain ⟨na, hna⟩ : ∃ n, n = xs.length := ⟨_, rfl⟩
  obtain ⟨nb, hnb⟩ : ∃ n, n = ys.length := ⟨_, rfl⟩
  rw [← hna] at HA hla ⊢
  rw [← hnb] at HB hlb ⊢
  have HNA := hid hna
  have HNB := hid hnb
  clear ha hb hna hnb
  by_cases hne : na = nb
  · subst hne
    go_enter Tryz.func56, Tryz.ntmps56
    go_wp2
    go_loopw [5] (fun i wr => ∃ k : Nat, k ≤ na ∧ i = .int .i64 k ∧ Ext w wr ∧ Hid (xs.take k = ys.take k)) (fun i _ => na - (intOf i).toNat)
    case atStart => exact ⟨0, Nat.zero_le _, rfl, Ext.refl _, rfl⟩
    case round =>
      obtain ⟨k, hk, rfl, hx, HE⟩ := hrel
      have HX := hid hx
      by_cases hlt : k < na
      · obtain ⟨x, hxk⟩ := some_of_lt (l := xs) (j := k) (by rw [← HNA.out]; exact hlt)
        obtain ⟨y, hyk⟩ := some_of_lt (l := ys) (j := k) (by rw [← HNB.out]; exact hlt)
        obtain ⟨b1, o1, c1', hv1, hc1, hm1, ⟨⟨hz1, hz2⟩, hz3, hz4⟩, h1, h1'⟩ := (HA.out.ext hx hS).at hxk
        obtain ⟨rfl, -, rfl⟩ : aa = some ⟨b1, o1, none⟩ ∧ na = xs.length ∧ ca = c1' := by simpa using hv1
        obtain ⟨b2, o2, c2', hv2, hc2, hm2, ⟨⟨hy1, hy2⟩, hy3, hy4⟩, h2, h2'⟩ := (HB.out.ext hx hS).at hyk
        obtain ⟨rfl, -, rfl⟩ : ab = some ⟨b2, o2, none⟩ ∧ na = ys.length ∧ cb = c2' := by simpa using hv2
        clear hv1 hv2
        rw [← HNA.out] at hc1
        rw [← HNB.out] at hc2
        have HXK := hid hxk
        have HYK := hid hyk
        clear hxk hyk hx
        by_cases he : x = y
        · have H0 := hid he
          obtain ⟨x1, x2⟩ := x
          obtain ⟨y1, y2⟩ := y
          obtain ⟨rfl, rfl⟩ : x1 = y1 ∧ x2 = y2 := by simpa using he
          simp only at h1 h1' h2 h2' hz1 hz2 hz3 hz4 hy1 hy2 hy3 hy4
          clear he
          go_wp2
          go_quiet (fail)
          go_wp2
          go_roundw
          case rel => exact ⟨k + 1, by omega, by go_num, HX.out.drewN _, take_eq_succ HE.out HXK.out HYK.out⟩
          case measure => simp only [intOf]; omega
        · have HF : Hid (xs ≠ ys) := hid (ne_of_at HXK.out HYK.out he)
          obtain ⟨x1, x2⟩ := x
          obtain ⟨y1, y2⟩ := y
          simp only at h1 h1' h2 h2' hz1 hz2 hz3 hz4 hy1 hy2 hy3 hy4
          have he' : x1 ≠ y1 ∨ (x1 = y1 ∧ x2 ≠ y2) := by
            by_cases h : x1 = y1
            · exact .inr ⟨h, fun h' => he (by rw [h, h'])⟩
            · exact .inl h
          clear he
          rcases he' with he | ⟨rfl, he⟩
          all_goals
            go_wp2
            go_quiet (fail)
            go_wp2
            go_ret
            exact ⟨by rw [decide_eq_false HF.out]; rfl, HX.out.drewN _⟩
      · obtain rfl : k = na := by omega
        have HF : Hid (xs = ys) := hid (by have := HE.out; rwa [List.take_of_length_le (by rw [← HNA.out]; exact Nat.le_refl _), List.take_of_length_le (by rw [← HNB.out]; exact Nat.le_refl _)] at this)
        clear hx
        go_wp2
        go_ret
        exact ⟨by rw [decide_eq_true HF.out]; rfl, HX.out⟩
  · have hb : ((na : Int) != (nb : Int)) = true := by rw [bne_iff_ne]; omega
    have HF : Hid (xs ≠ ys) := hid (fun e => hne (by rw [HNA.out, HNB.out, e]))
    clear hne
    go_enter Tryz.func56, Tryz.ntmps56
    go_wp2
    go_ret
    exact ⟨by rw [decide_eq_false HF.out]; rfl, Ext.refl _⟩

set_option maxRecDepth 100000 in
set_option maxHeartbeats 2000000 in
theorem rsame04 {S : Nat → Prop} (v1 v2 : Value) (sn tn : Bool) (sm tm : List Nat) (w : World) (h1 : U32s S w v1 sm) (h2 : U32s S w v2 tm) (hS : ∀ k, S k → k < w.heap.size) :
    Calls Tryz.prog 55 #[.agg #[.bool sn, v1], .agg #[.bool tn, v2]] w fun e w' => e = .returned (.bool (decide (sn = tn) && decide (sm = tm))) ∧ Ext w w' := by
  have CU := fun (W : World) (hW : Ext w W) => rsame01 _ _ sm tm W (h1.ext hW hS) (h2.ext hW hS) (lt_ext hS hW)
  obtain ⟨a1, c1, rfl⟩ := h1.form
  obtain ⟨a2, c2, rfl⟩ := h2.form
  have hx : Ext w ((w.alloc (.cells #[.bool sn, .slice a1 sm.length c1] 72)).alloc (.cells #[.bool tn, .slice a2 tm.length c2] 72)) := Ext.alloc (Ext.alloc (Ext.refl w) _) _
  have HX := hid hx
  clear h1 h2 hx
  by_cases hs : sn = tn
  · subst hs
    cases hm : decide (sm = tm) with
    | false =>
      simp only [hm] at CU
      have HCU := hid CU
      clear CU hm
      go_enter Tryz.func55, Tryz.ntmps55
      go_wp2_with fail
      with_reducible refine (HCU.out _ HX.out).mono ?_
      rintro e w1 ⟨rfl, hx1⟩
      have HX1 := hid (HX.out.trans hx1)
      clear hx1
      go_wp2
      all_goals
        go_ret
        exact ⟨by simp, HX1.out⟩
    | true =>
      simp only [hm] at CU
      have HCU := hid CU
      clear CU hm
      go_enter Tryz.func55, Tryz.ntmps55
      go_wp2_with fail
      with_reducible refine (HCU.out _ HX.out).mono ?_
      rintro e w1 ⟨rfl, hx1⟩
      have HX1 := hid (HX.out.trans hx1)
      clear hx1
      go_wp2
      all_goals
        go_ret
        exact ⟨by simp, HX1.out⟩
  · have hb : (sn == tn) = false := by rw [beq_eq_false_iff_ne]; exact hs
    have HF := hid (decide_eq_false hs)
    clear hs CU
    go_enter Tryz.func55, Tryz.ntmps55
    go_wp2
    all_goals
      go_ret
      exact ⟨by rw [HF.out]; simp, HX.out⟩

set_option maxRecDepth 100000 in
set_option maxHeartbeats 4000000 in
theorem rpoly_same {S : Nat → Prop} (va vb : Value) (xs ys : List RTerm) (w : World) (ha : Terms S w va xs) (hb : Terms S w vb ys) (hS : ∀ k, S k → k < w.heap.size) :
    Calls Tryz.prog 16 #[va, vb] w fun e w' => e = .returned (.bool (decide (xs = ys))) ∧ Ext w w' := by
  have HA := hid ha
  have HB := hid hb
  have hla := ha.len_le
  have hlb := hb.len_le
  obtain ⟨aa, ca, rfl⟩ := ha.form
  obtain ⟨ab, cb, rfl⟩ := hb.form
  obtain ⟨na, hna⟩ : ∃ n, n = xs.length := ⟨_, rfl⟩
  obtain ⟨nb, hnb⟩ : ∃ n, n = ys.length := ⟨_, rfl⟩
  rw [← hna] at HA hla ⊢
  rw [← hnb] at HB hlb ⊢
  have HNA := hid hna
  have HNB := hid hnb
  clear ha hb hna hnb
  by_cases hne : na = nb
  · subst hne
    go_enter Tryz.func16, Tryz.ntmps16
    go_wp2
    go_loopw [5] (fun i wr => ∃ k : Nat, k ≤ na ∧ i = .int .i64 k ∧ Ext w wr ∧ Hid (xs.take k = ys.take k)) (fun i _ => na - (intOf i).toNat)
    case atStart => exact ⟨0, Nat.zero_le _, rfl, Ext.refl _, rfl⟩
    case round =>
      obtain ⟨k, hk, rfl, hx, HE⟩ := hrel
      have HX := hid hx
      by_cases hlt : k < na
      · obtain ⟨x, hxk⟩ := some_of_lt (l := xs) (j := k) (by rw [← HNA.out]; exact hlt)
        obtain ⟨y, hyk⟩ := some_of_lt (l := ys) (j := k) (by rw [← HNB.out]; exact hlt)
        obtain ⟨b1, o1, v1, v2, rfl, -, hc1, hm1, hz1, h1, h2, h3, h4, h5⟩ := (HA.out.ext hx hS).cellAt hxk
        obtain ⟨b2, o2, v3, v4, rfl, -, hc2, hm2, hz2, g1, g2, g3, g4, g5⟩ := (HB.out.ext hx hS).cellAt hyk
        have HXK := hid hxk
        have HYK := hid hyk
        obtain ⟨⟨xn, xm⟩, xo⟩ := x
        obtain ⟨⟨yn, ym⟩, yo⟩ := y
        simp only at h1 h2 h3 h4 h5 g1 g2 g3 g4 g5
        have hSr := lt_ext hS hx
        have C4 := fun Y : Later wr => rsame04 (S := S) v1 v3 xn yn xm ym Y.w' (h4.ext Y.h hSr) (g4.ext Y.h hSr) (lt_ext hSr Y.h)
        have C7 := fun Y : Later wr => rsame07 (S := S) v2 v4 xo yo Y.w' (h5.ext Y.h hSr) (g5.ext Y.h hSr) (lt_ext hSr Y.h)
        have L1 := fun Y : Later wr => Y.h.cell h1
        have L2 := fun Y : Later wr => Y.h.cell h2
        have L3 := fun Y : Later wr => Y.h.cell h3
        have M1 := fun Y : Later wr => Y.h.cell g1
        have M2 := fun Y : Later wr => Y.h.cell g2
        have M3 := fun Y : Later wr => Y.h.cell g3
        obtain ⟨a1, c1, rfl⟩ := h4.form
        obtain ⟨a2, c2, rfl⟩ := h5.form
        obtain ⟨a3, c3, rfl⟩ := g4.form
        obtain ⟨a4, c4, rfl⟩ := g5.form
        have hlen : Hid (xs.length = na ∧ ys.length = na) := hid ⟨HNA.out.symm, HNB.out.symm⟩
        have q1 : (k : Int) < (na : Int) := by omega
        clear h1 h2 h3 h4 h5 g1 g2 g3 g4 g5 hxk hyk hx hSr
        cases hd4 : (decide (xn = yn) && decide (xm = ym)) with
        | false =>
          have HF : Hid (xs ≠ ys) := hid (ne_of_at HXK.out HYK.out (fun e => by
            simp at e
            obtain ⟨⟨e1, e2⟩, e3⟩ := e
            rw [e1, e2] at hd4
            simp at hd4))
          simp only [hd4] at C4
          have HC4 := hid C4
          have HC7 := hid C7
          clear C4 C7 hd4
          go_wp2
          refine wp_region_later (by kernel_rfl) (by kernel_rfl) ?_
          repeat (go_big_quiet_step (first | (go_at_call 55; exact Later.done (HC4.out _))))
          refine wpQuiet_nil ?_
          intro W2 hW2
          have HW2 := hid (HX.out.trans hW2)
          clear L1 L2 L3 M1 M2 M3 hW2
          go_wp2
          go_ret
          exact ⟨by rw [decide_eq_false HF.out]; rfl, HW2.out⟩
        | true =>
          have HE4 := hid hd4
          simp only [hd4] at C4
          have HC4 := hid C4
          clear C4 hd4
          cases hd7 : decide (xo = yo) with
          | false =>
            have HF : Hid (xs ≠ ys) := hid (ne_of_at HXK.out HYK.out (fun e => by
              simp at e
              obtain ⟨⟨e1, e2⟩, e3⟩ := e
              rw [e3] at hd7
              simp at hd7))
            simp only [hd7] at C7
            have HC7 := hid C7
            clear C7 hd7
            go_wp2
            refine wp_region_later (by kernel_rfl) (by kernel_rfl) ?_
            repeat (go_big_quiet_step (first | (go_at_call 55; exact Later.done (HC4.out _)) | (go_at_call 56; exact Later.done (HC7.out _))))
            refine wpQuiet_nil ?_
            intro W2 hW2
            have HW2 := hid (HX.out.trans hW2)
            clear L1 L2 L3 M1 M2 M3 hW2
            go_wp2
            go_ret
            exact ⟨by rw [decide_eq_false HF.out]; rfl, HW2.out⟩
          | true =>
            have HF : Hid (xs.take (k + 1) = ys.take (k + 1)) := hid (take_eq_succ HE.out HXK.out (by
              have h4 := HE4.out
              simp at h4 hd7
              rw [h4.1, h4.2, hd7]
              exact HYK.out))
            simp only [hd7] at C7
            have HC7 := hid C7
            clear C7 hd7
            go_wp2
            refine wp_region_later (by kernel_rfl) (by kernel_rfl) ?_
            repeat (go_big_quiet_step (first | (go_at_call 55; exact Later.done (HC4.out _)) | (go_at_call 56; exact Later.done (HC7.out _))))
            refine wpQuiet_nil ?_
            intro W2 hW2
            have HW2 := hid (HX.out.trans hW2)
            clear L1 L2 L3 M1 M2 M3 hW2
            go_wp2
            go_roundw
            case rel => exact ⟨k + 1, by omega, by go_num, HW2.out, HF⟩
            case measure => simp only [intOf]; omega
      · obtain rfl : k = na := by omega
        have HF : Hid (xs = ys) := hid (by have := HE.out; rwa [List.take_of_length_le (by rw [← HNA.out]; exact Nat.le_refl _), List.take_of_length_le (by rw [← HNB.out]; exact Nat.le_refl _)] at this)
        clear hx
        go_wp2
        go_ret
        exact ⟨by rw [decide_eq_true HF.out]; rfl, HX.out⟩
  · have hb : ((na : Int) != (nb : Int)) = true := by rw [bne_iff_ne]; omega
    have HF : Hid (xs ≠ ys) := hid (fun e => hne (by rw [HNA.out, HNB.out, e]))
    clear hne
    go_enter Tryz.func16, Tryz.ntmps16
    go_wp2
    go_ret
    exact ⟨by rw [decide_eq_false HF.out]; rfl, Ext.refl _⟩
end Go.Proofs.YthplgldclilccaaGreat

namespace Go.Proofs.YthplgldclilccaaGreat
open Go.RowKit

def tinyP (p : PZ) : Bool := decide (p.length ≤ 10) && p.all fun t => decide (t.1.natAbs ≤ 100) && mayM t.2
theorem tiny_bnd {p : PZ} (h : tinyP p = true) : bndP p 10 100 := by
  unfold tinyP at h
  simp only [Bool.and_eq_true, decide_eq_true_eq, List.all_eq_true] at h
  exact ⟨h.1, fun t ht => (h.2 t ht).1⟩
theorem tiny_may {p : PZ} (h : tinyP p = true) : mayAll p := by
  unfold tinyP at h
  simp only [Bool.and_eq_true, decide_eq_true_eq, List.all_eq_true] at h
  exact fun t ht => (h.2 t ht).2
theorem tiny_sz {p : PZ} (h : tinyP p = true) : szP p := sz_of_bnd (tiny_bnd h) (n := 3) (by omega) (by decide) (by omega)
theorem tiny_add {p q : PZ} (hp : tinyP p = true) (hq : tinyP q = true) (k : Nat) (_ : k ≤ q.length) : szP (addP p (q.take k)) := by
  have h1 := addP_bnd (l := q.take k) (N := 100) (tiny_bnd hp) (fun t ht => (tiny_bnd hq).2 t (List.mem_of_mem_take ht))
  have h2 : (q.take k).length ≤ 10 := Nat.le_trans (by rw [List.length_take]; omega) (tiny_bnd hq).1
  refine sz_of_bnd h1 (n := 5) (by omega) ?_ (by omega)
  have : (q.take k).length * 100 ≤ 10 * 100 := Nat.mul_le_mul_right _ h2
  omega
theorem tiny_mul {p q : PZ} (hp : tinyP p = true) (hq : tinyP q = true) : szM p q := by
  obtain ⟨a1, a2⟩ := tiny_bnd hp
  obtain ⟨b1, b2⟩ := tiny_bnd hq
  have h1 : p.length * q.length ≤ 10 * 10 := Nat.mul_le_mul a1 b1
  refine ⟨10000, 7, fun t ht u hu => ?_, by omega, ?_, by omega⟩
  · rw [Int.natAbs_mul]
    exact Nat.mul_le_mul (a2 t ht) (b2 u hu)
  · have : p.length * q.length * 10000 ≤ 100 * 10000 := Nat.mul_le_mul_right _ h1
    omega
theorem tiny_small {p : PZ} (h : tinyP p = true) : smallT (ofP p) := fun t ht => by
  obtain ⟨u, hu, rfl⟩ := List.mem_map.1 ht
  have h1 := (tiny_bnd h).2 u hu
  show (ofI u.1).mag.length ≤ _
  rw [ofI_len]
  exact Nat.le_trans (lenI_lt (k := 1) (by show u.1.natAbs < 4294967296 ^ 1; omega)) (by omega)
theorem tiny_lens {p : PZ} (h : tinyP p = true) : ∀ t ∈ ofP p, t.c.mag.length ≤ 1 := fun t ht => by
  obtain ⟨u, hu, rfl⟩ := List.mem_map.1 ht
  have h1 := (tiny_bnd h).2 u hu
  show (ofI u.1).mag.length ≤ _
  rw [ofI_len]
  exact lenI_lt (k := 1) (by show u.1.natAbs < 4294967296 ^ 1; omega)
abbrev k9X : PZ := [(1, [(1, 1)])]
abbrev k9Y : PZ := [(1, [(2, 1)])]
abbrev k9A : PZ := [(1, [(1, 1)]), (3, [])]
abbrev k9YY : PZ := [(1, [(2, 2)])]
abbrev k9B : PZ := [(1, [(1, 1), (2, 2)]), (3, [(2, 2)])]
abbrev k9C : PZ := [(5, [(1, 1)])]
abbrev k9P : PZ := [(1, [(1, 1), (2, 2)]), (3, [(2, 2)]), (5, [(1, 1)])]
abbrev k97 : PZ := [(7, [])]
theorem k9_3 : numP 3 = [(3, [])] := by kernel_rfl
theorem k9_5 : numP 5 = [(5, [])] := by kernel_rfl
theorem k9_7 : numP 7 = k97 := by kernel_rfl
theorem k9_a : addP k9X [(3, [])] = k9A := by kernel_rfl
theorem k9_yy : timesV (timesP k9Y k9Y) = k9YY := by kernel_rfl
theorem k9_b : timesV (timesP k9A k9YY) = k9B := by kernel_rfl
theorem k9_c : timesV (timesP [(5, [])] k9X) = k9C := by kernel_rfl
theorem k9_p : addP k9B k9C = k9P := by kernel_rfl
theorem k9P_can : canP k9P := by
  rw [← k9_p]
  refine (addP_can (p := k9B) ?_ (tiny_may (by kernel_rfl))).1
  exact ⟨fun t ht => by simp at ht; rcases ht with rfl | rfl <;> exact ⟨by decide, by kernel_rfl⟩, by simp; kernel_rfl⟩
theorem k97_can : canP k97 := ⟨fun t ht => by simp at ht; subst ht; exact ⟨by decide, by kernel_rfl⟩, List.pairwise_singleton _ _⟩
theorem k9_i : initP k9P = k9A := by kernel_rfl
theorem k9_t : (ofP (tailP k9P)).length = 1 := by kernel_rfl
theorem k9_d : (ofP (derP k9P 2)).length = 2 := by kernel_rfl
theorem k9_l : leadP k9P = 2 := by kernel_rfl
theorem k9_l7 : leadP k97 = 0 := by kernel_rfl

set_option maxRecDepth 100000 in
set_option maxHeartbeats 8000000 in
theorem law09_known (w : World) :
    Calls Tryz.prog 19 #[] w fun e w' => e = .returned (.bool true) ∧ Ext w w' := by
  have hnot : ∀ (x : Bool) (w : World), (Op.unary .not (.bool x)).run Tryz.prog w = .ok (.bool (!x)) w := fun _ _ => rfl
  have PC := plainP_ofP k9P_can
  have P7 := plainP_ofP k97_can
  have HPC := hid PC
  have HP7 := hid P7
  clear PC P7
  go_enter Tryz.func19, Tryz.ntmps19
  have HX0 := hid (Ext.refl w)
  go_wp2_with fail
  refine (rpoly_x 1 w (by unfold inI64; omega)).mono ?_
  rintro e w1 ⟨v1, rfl, hp1, hx1⟩
  have HX1 := hid (HX0.out.trans hx1)
  have HJ1 := hid (RTs.old hp1 New.lt)
  obtain ⟨a1, c1, rfl⟩ := hp1.form
  clear hx1 hp1
  go_wp2_with fail
  refine (rpoly_x 2 w1 (by unfold inI64; omega)).mono ?_
  rintro e w2 ⟨v2, rfl, hp2, hx2⟩
  have HX2 := hid (HX1.out.trans hx2)
  have HJ2 := hid (RTs.on HJ1.out hx2)
  have HY2 := hid (RTs.old hp2 New.lt)
  obtain ⟨a2, c2, rfl⟩ := hp2.form
  clear hx2 hp2
  go_wp2_with fail
  refine (rpoly_small 3 w2 (by omega)).mono ?_
  rw [k9_3]
  rintro e w3 ⟨v3, rfl, hp3, hx3⟩
  have HX3 := hid (HX2.out.trans hx3)
  have HJ3 := hid (RTs.on HJ2.out hx3)
  have HY3 := hid (RTs.on HY2.out hx3)
  have HS3 := hid (RTs.old hp3 New.lt)
  obtain ⟨a3, c3, rfl⟩ := hp3.form
  clear hx3 hp3
  go_wp2_with fail
  refine (rpoly_add (S := Old w3) _ _ k9X [(3, [])] w3 (fun _ h => h) HJ3.out HS3.out (tiny_may (by kernel_rfl)) (tiny_may (by kernel_rfl)) (tiny_sz (by kernel_rfl)) (tiny_add (by kernel_rfl) (by kernel_rfl))).mono ?_
  rw [k9_a]
  rintro e w4 ⟨v4, rfl, hp4, hx4⟩
  have HX4 := hid (HX3.out.trans hx4)
  have HJ4 := hid (RTs.on HJ3.out hx4)
  have HY4 := hid (RTs.on HY3.out hx4)
  have HA4 := hid (RTs.old hp4 (plus_lt (fun _ h => h) hx4))
  obtain ⟨a4, c4, rfl⟩ := hp4.form
  clear hx4 hp4
  go_wp2_with fail
  refine (rpoly_mul (S := Old w4) _ _ k9Y k9Y w4 (fun _ h => h) HY4.out HY4.out (tiny_may (by kernel_rfl)) (tiny_may (by kernel_rfl)) (tiny_sz (by kernel_rfl)) (tiny_sz (by kernel_rfl)) (tiny_mul (by kernel_rfl) (by kernel_rfl))).mono ?_
  rw [k9_yy]
  rintro e w5 ⟨v5, rfl, hp5, hx5⟩
  have HX5 := hid (HX4.out.trans hx5)
  have HJ5 := hid (RTs.on HJ4.out hx5)
  have HA5 := hid (RTs.on HA4.out hx5)
  have HQ5 := hid (RTs.old hp5 (plus_lt (fun _ h => h) hx5))
  obtain ⟨a5, c5, rfl⟩ := hp5.form
  clear hx5 hp5
  go_wp2_with fail
  refine (rpoly_mul (S := Old w5) _ _ k9A k9YY w5 (fun _ h => h) HA5.out HQ5.out (tiny_may (by kernel_rfl)) (tiny_may (by kernel_rfl)) (tiny_sz (by kernel_rfl)) (tiny_sz (by kernel_rfl)) (tiny_mul (by kernel_rfl) (by kernel_rfl))).mono ?_
  rw [k9_b]
  rintro e w6 ⟨v6, rfl, hp6, hx6⟩
  have HX6 := hid (HX5.out.trans hx6)
  have HJ6 := hid (RTs.on HJ5.out hx6)
  have HB6 := hid (RTs.old hp6 (plus_lt (fun _ h => h) hx6))
  obtain ⟨a6, c6, rfl⟩ := hp6.form
  clear hx6 hp6
  go_wp2_with fail
  refine (rpoly_small 5 w6 (by omega)).mono ?_
  rw [k9_5]
  rintro e w7 ⟨v7, rfl, hp7, hx7⟩
  have HX7 := hid (HX6.out.trans hx7)
  have HJ7 := hid (RTs.on HJ6.out hx7)
  have HB7 := hid (RTs.on HB6.out hx7)
  have HF7 := hid (RTs.old hp7 New.lt)
  obtain ⟨a7, c7, rfl⟩ := hp7.form
  clear hx7 hp7
  go_wp2_with fail
  refine (rpoly_mul (S := Old w7) _ _ [(5, [])] k9X w7 (fun _ h => h) HF7.out HJ7.out (tiny_may (by kernel_rfl)) (tiny_may (by kernel_rfl)) (tiny_sz (by kernel_rfl)) (tiny_sz (by kernel_rfl)) (tiny_mul (by kernel_rfl) (by kernel_rfl))).mono ?_
  rw [k9_c]
  rintro e w8 ⟨v8, rfl, hp8, hx8⟩
  have HX8 := hid (HX7.out.trans hx8)
  have HJ8 := hid (RTs.on HJ7.out hx8)
  have HB8 := hid (RTs.on HB7.out hx8)
  have HC8 := hid (RTs.old hp8 (plus_lt (fun _ h => h) hx8))
  obtain ⟨a8, c8, rfl⟩ := hp8.form
  clear hx8 hp8
  go_wp2_with fail
  refine (rpoly_add (S := Old w8) _ _ k9B k9C w8 (fun _ h => h) HB8.out HC8.out (tiny_may (by kernel_rfl)) (tiny_may (by kernel_rfl)) (tiny_sz (by kernel_rfl)) (tiny_add (by kernel_rfl) (by kernel_rfl))).mono ?_
  rw [k9_p]
  rintro e w9 ⟨v9, rfl, hp9, hx9⟩
  have HX9 := hid (HX8.out.trans hx9)
  have HJ9 := hid (RTs.on HJ8.out hx9)
  have HP9 := hid (RTs.old hp9 (plus_lt (fun _ h => h) hx9))
  obtain ⟨a9, c9, rfl⟩ := hp9.form
  clear hx9 hp9
  go_wp2_with fail
  refine (rpoly_poly (S := Old w9) _ k9P w9 HP9.out (fun _ h => h) (tiny_sz (by kernel_rfl)) (kn_len (tiny_may (by kernel_rfl)))).mono ?_
  rintro e w10 ⟨v10, rfl, hp10, hx10⟩
  have HX10 := hid (HX9.out.trans hx10)
  have HJ10 := hid (RTs.on HJ9.out hx10)
  have HP10 := hid (RTs.on HP9.out hx10)
  have HG10 := hid (Terms.old hp10 New.lt)
  obtain ⟨a10, c10, rfl⟩ := hp10.form
  clear hx10 hp10
  go_wp2_with fail
  refine (view_initial _ (ofP k9P) _ HG10.out (fun _ h => h) (tiny_small (by kernel_rfl)) (by decide)).mono ?_
  rw [HPC.out, k9_i]
  rintro e w11 ⟨v11, rfl, hp11, hx11⟩
  have HX11 := hid (HX10.out.trans hx11)
  have HJ11 := hid (RTs.on HJ10.out hx11)
  have HP11 := hid (RTs.on HP10.out hx11)
  have HI11 := hid (Terms.old hp11 New.lt)
  obtain ⟨a11, c11, rfl⟩ := hp11.form
  clear hx11 hp11
  go_wp2_with fail
  refine (rpoly_poly (S := Old w11) _ k9P w11 HP11.out (fun _ h => h) (tiny_sz (by kernel_rfl)) (kn_len (tiny_may (by kernel_rfl)))).mono ?_
  rintro e w12 ⟨v12, rfl, hp12, hx12⟩
  have HX12 := hid (HX11.out.trans hx12)
  have HJ12 := hid (RTs.on HJ11.out hx12)
  have HP12 := hid (RTs.on HP11.out hx12)
  have HI12 := hid (Terms.on HI11.out hx12)
  have HG12 := hid (Terms.old hp12 New.lt)
  obtain ⟨a12, c12, rfl⟩ := hp12.form
  clear hx12 hp12
  go_wp2_with fail
  refine (view_class _ (ofP k9P) _ HG12.out (fun _ h => h) (tiny_small (by kernel_rfl))).mono ?_
  rw [HPC.out, k9_l]
  rintro e w13 ⟨rfl, hx13⟩
  have HX13 := hid (HX12.out.trans hx13)
  have HJ13 := hid (RTs.on HJ12.out hx13)
  have HP13 := hid (RTs.on HP12.out hx13)
  have HI13 := hid (Terms.on HI12.out hx13)
  clear hx13
  go_wp2_with fail
  refine (rpoly_small 3 w13 (by omega)).mono ?_
  rw [k9_3]
  rintro e w14 ⟨v14, rfl, hp14, hx14⟩
  have HX14 := hid (HX13.out.trans hx14)
  have HJ14 := hid (RTs.on HJ13.out hx14)
  have HP14 := hid (RTs.on HP13.out hx14)
  have HI14 := hid (Terms.on HI13.out hx14)
  have HS14 := hid (RTs.old hp14 New.lt)
  obtain ⟨a14, c14, rfl⟩ := hp14.form
  clear hx14 hp14
  go_wp2_with fail
  refine (rpoly_add (S := Old w14) _ _ k9X [(3, [])] w14 (fun _ h => h) HJ14.out HS14.out (tiny_may (by kernel_rfl)) (tiny_may (by kernel_rfl)) (tiny_sz (by kernel_rfl)) (tiny_add (by kernel_rfl) (by kernel_rfl))).mono ?_
  rw [k9_a]
  rintro e w15 ⟨v15, rfl, hp15, hx15⟩
  have HX15 := hid (HX14.out.trans hx15)
  have HP15 := hid (RTs.on HP14.out hx15)
  have HI15 := hid (Terms.on HI14.out hx15)
  have HA15 := hid (RTs.old hp15 (plus_lt (fun _ h => h) hx15))
  obtain ⟨a15, c15, rfl⟩ := hp15.form
  clear hx15 hp15
  go_wp2_with fail
  refine (rpoly_poly (S := Old w15) _ k9A w15 HA15.out (fun _ h => h) (tiny_sz (by kernel_rfl)) (kn_len (tiny_may (by kernel_rfl)))).mono ?_
  rintro e w16 ⟨v16, rfl, hp16, hx16⟩
  have HX16 := hid (HX15.out.trans hx16)
  have HP16 := hid (RTs.on HP15.out hx16)
  have HI16 := hid (Terms.on HI15.out hx16)
  have HG16 := hid (Terms.old hp16 New.lt)
  obtain ⟨a16, c16, rfl⟩ := hp16.form
  clear hx16 hp16
  go_wp2_with fail
  refine (rpoly_same _ _ (ofP k9A) (ofP k9A) _ HI16.out HG16.out (fun _ h => h)).mono ?_
  rw [show decide (ofP k9A = ofP k9A) = true from decide_eq_true rfl]
  rintro e w17 ⟨rfl, hx17⟩
  have HX17 := hid (HX16.out.trans hx17)
  have HP17 := hid (RTs.on HP16.out hx17)
  clear hx17
  go_wp2_with fail
  refine (rpoly_poly (S := Old w17) _ k9P w17 HP17.out (fun _ h => h) (tiny_sz (by kernel_rfl)) (kn_len (tiny_may (by kernel_rfl)))).mono ?_
  rintro e w18 ⟨v18, rfl, hp18, hx18⟩
  have HX18 := hid (HX17.out.trans hx18)
  have HP18 := hid (RTs.on HP17.out hx18)
  have HG18 := hid (Terms.old hp18 New.lt)
  obtain ⟨a18, c18, rfl⟩ := hp18.form
  clear hx18 hp18
  go_wp2_with fail
  refine (view_tail _ (ofP k9P) _ HG18.out (fun _ h => h) (tiny_small (by kernel_rfl)) (by decide)).mono ?_
  rw [HPC.out]
  rintro e w19 ⟨v19, rfl, hp19, hx19⟩
  have HX19 := hid (HX18.out.trans hx19)
  have HP19 := hid (RTs.on HP18.out hx19)
  have HU19 := hid (Terms.old hp19 New.lt)
  obtain ⟨a19, c19, rfl⟩ := hp19.form
  clear hx19 hp19
  rw [k9_t]
  go_wp2_with fail
  refine (rpoly_poly (S := Old w19) _ k9P w19 HP19.out (fun _ h => h) (tiny_sz (by kernel_rfl)) (kn_len (tiny_may (by kernel_rfl)))).mono ?_
  rintro e w20 ⟨v20, rfl, hp20, hx20⟩
  have HX20 := hid (HX19.out.trans hx20)
  have HG20 := hid (Terms.old hp20 New.lt)
  obtain ⟨a20, c20, rfl⟩ := hp20.form
  clear hx20 hp20
  go_wp2_with fail
  refine (view_derive _ (ofP k9P) 2 _ 1 HG20.out (fun _ h => h) (tiny_lens (by kernel_rfl)) (by omega) (by decide) (by unfold inI64; omega)).mono ?_
  rw [HPC.out]
  rintro e w21 ⟨v21, rfl, hp21, hx21⟩
  have HX21 := hid (HX20.out.trans hx21)
  have HU21 := hid (Terms.old hp21 New.lt)
  obtain ⟨a21, c21, rfl⟩ := hp21.form
  clear hx21 hp21
  rw [k9_d]
  go_wp2_with fail
  refine (rpoly_small 7 w21 (by omega)).mono ?_
  rw [k9_7]
  rintro e w22 ⟨v22, rfl, hp22, hx22⟩
  have HX22 := hid (HX21.out.trans hx22)
  have HZ22 := hid (RTs.old hp22 New.lt)
  obtain ⟨a22, c22, rfl⟩ := hp22.form
  clear hx22 hp22
  go_wp2_with fail
  refine (rpoly_poly (S := Old w22) _ k97 w22 HZ22.out (fun _ h => h) (tiny_sz (by kernel_rfl)) (kn_len (tiny_may (by kernel_rfl)))).mono ?_
  rintro e w23 ⟨v23, rfl, hp23, hx23⟩
  have HX23 := hid (HX22.out.trans hx23)
  have HG23 := hid (Terms.old hp23 New.lt)
  obtain ⟨a23, c23, rfl⟩ := hp23.form
  clear hx23 hp23
  go_wp2_with fail
  refine (view_class _ (ofP k97) _ HG23.out (fun _ h => h) (tiny_small (by kernel_rfl))).mono ?_
  rw [HP7.out, k9_l7]
  rintro e w24 ⟨rfl, hx24⟩
  have HX24 := hid (HX23.out.trans hx24)
  clear hx24
  go_wp2
  all_goals
    go_ret
    exact ⟨rfl, HX24.out⟩
end Go.Proofs.YthplgldclilccaaGreat

namespace Go.Proofs.YthplgldclilccaaGreat
open Go.RowKit

/-- lists of ranks: the first that differs tells; else the longer one is lower -/
def lowerR : List (Int × Int) → List (Int × Int) → Int
  | [], [] => 0
  | [], _ :: _ => 1
  | _ :: _, [] => -1
  | a :: r, b :: q => if orderR a b = 0 then lowerR r q else orderR a b
def ranksL (l : List (List RTerm)) : List (Int × Int) := l.map fun p => rankP (plainP p)
def lowerL (l m : List (List RTerm)) : Int := lowerR (ranksL l) (ranksL m)
theorem lowerR_range (a b : List (Int × Int)) : -1 ≤ lowerR a b ∧ lowerR a b ≤ 1 := by
  induction a generalizing b with
  | nil => cases b <;> simp [lowerR]
  | cons x a ih =>
    cases b with
    | nil => simp [lowerR]
    | cons y b =>
      simp only [lowerR]
      split
      · exact ih b
      · exact orderR_range x y
theorem lowerL_at {l m : List (List RTerm)} {k : Nat} {p q : List RTerm} (hp : l[k]? = some p) (hq : m[k]? = some q) : lowerL (l.drop k) (m.drop k) = if rankC p q = 0 then lowerL (l.drop (k + 1)) (m.drop (k + 1)) else rankC p q := by
  rw [drop_at hp, drop_at hq]
  rfl
theorem lowerL_nil_left (m : List (List RTerm)) : lowerL [] m = cmpI m.length 0 := by
  cases m with
  | nil => rfl
  | cons q m =>
    show (1 : Int) = _
    unfold cmpI
    rw [if_neg (by omega), if_pos (by simp)]
theorem lowerL_nil_right (l : List (List RTerm)) : lowerL l [] = cmpI 0 l.length := by
  cases l with
  | nil => rfl
  | cons q m =>
    show (-1 : Int) = _
    unfold cmpI
    rw [if_pos (by simp)]
theorem cmpI_shift (a b c : Int) : cmpI (a - c) (b - c) = cmpI a b := by
  unfold cmpI
  simp only [show a - c < b - c ↔ a < b by omega, show b - c < a - c ↔ b < a by omega]

set_option maxRecDepth 100000 in
set_option maxHeartbeats 2000000 in
theorem rank_lower {S : Nat → Prop} (va vb : Value) (la lb : List (List RTerm)) (w : World) (ha : Polys S w va la) (hb : Polys S w vb lb) (hS : ∀ k, S k → k < w.heap.size) (hra : smallL la) (hrb : smallL lb) :
    Calls Tryz.prog 14 #[va, vb] w fun e w' => e = .returned (.int .i64 (lowerL la lb)) ∧ Ext w w' := by
  have HA := hid ha
  have HB := hid hb
  have HRA := hid hra
  have HRB := hid hrb
  have hla := ha.len_le
  have hlb := hb.len_le
  obtain ⟨aa, ca, rfl⟩ := ha.form
  obtain ⟨ab, cb, rfl⟩ := hb.form
  obtain ⟨na, hna⟩ : ∃ n, n = la.length := ⟨_, rfl⟩
  obtain ⟨nb, hnb⟩ : ∃ n, n = lb.length := ⟨_, rfl⟩
  rw [← hna] at HA hla ⊢
  rw [← hnb] at HB hlb ⊢
  have HNA := hid hna
  have HNB := hid hnb
  clear ha hb hra hrb hna hnb
  obtain ⟨n, hn⟩ : ∃ n, n = min na nb := ⟨_, rfl⟩
  have q0 : min (na : Int) (nb : Int) = (n : Int) := by omega
  have hna' : n ≤ na := by omega
  have hnb' : n ≤ nb := by omega
  have HMIN := hid hn
  clear hn
  go_enter Tryz.func14, Tryz.ntmps14
  go_wp2
  go_loopw [5, 6, 12] (fun _ _ i wr => ∃ k : Nat, k ≤ n ∧ i = .int .i64 k ∧ Ext w wr ∧ Hid (lowerL la lb = lowerL (la.drop k) (lb.drop k))) (fun _ _ i _ => n - (intOf i).toNat)
  case atStart => exact ⟨0, Nat.zero_le _, rfl, Ext.refl _, rfl⟩
  case round =>
    obtain ⟨k, hk, rfl, hx, HL⟩ := hrel
    have HX := hid hx
    by_cases hlt : k < n
    · obtain ⟨p, hp⟩ := some_of_lt (l := la) (j := k) (by rw [← HNA.out]; omega)
      obtain ⟨q, hq⟩ := some_of_lt (l := lb) (j := k) (by rw [← HNB.out]; omega)
      obtain ⟨b1, o1, vp, rfl, -, hn1, hm1, hS1, h1, h2⟩ := (HA.out.ext hx hS).cellAt hp
      obtain ⟨b2, o2, vq, rfl, -, hn2, hm2, hS2, h3, h4⟩ := (HB.out.ext hx hS).cellAt hq
      have HLA := hid (lowerL_at hp hq)
      have HC := hid (fun Y : Later wr => rank_compare (S := S) vp vq p q Y.w' (h2.ext Y.h (lt_ext hS hx)) (h4.ext Y.h (lt_ext hS hx)) (lt_ext hS (hx.trans Y.h)) (HRA.out p (List.mem_of_getElem? hp)) (HRB.out q (List.mem_of_getElem? hq)))
      obtain ⟨ap, cp, rfl⟩ := h2.form
      obtain ⟨aq, cq, rfl⟩ := h4.form
      obtain ⟨r1, r2⟩ := orderR_range (rankP (plainP p)) (rankP (plainP q))
      have HRC : Hid (rankC p q = orderR (rankP (plainP p)) (rankP (plainP q))) := hid rfl
      generalize orderR (rankP (plainP p)) (rankP (plainP q)) = c at *
      have L1 := fun Y : Later wr => Y.h.cell h1
      have L2 := fun Y : Later wr => Y.h.cell h3
      have q1 : (k : Int) < (na : Int) := by omega
      have q2 : (k : Int) < (nb : Int) := by omega
      clear h1 h2 h3 h4 hp hq hx
      by_cases h0 : c = 0
      · subst h0
        go_wp2
        refine wp_region_later (by kernel_rfl) (by kernel_rfl) ?_
        repeat (go_big_quiet_step (first | (go_at_call 47; exact Later.done (HC.out _))))
        refine wpQuiet_nil ?_
        intro W2 hW2
        have HW2 := hid (HX.out.trans hW2)
        clear L1 L2 hW2
        go_wp2
        go_roundw
        case rel => exact ⟨k + 1, by omega, by go_num, HW2.out, by show _ = _; rw [HL.out, HLA.out, if_pos HRC.out]⟩
        case measure => simp only [intOf]; omega
      · have h0b : (c != 0) = true := by rw [bne_iff_ne]; exact h0
        have H0 := hid h0
        clear h0
        go_wp2
        refine wp_region_later (by kernel_rfl) (by kernel_rfl) ?_
        repeat (go_big_quiet_step (first | (go_at_call 47; exact Later.done (HC.out _))))
        refine wpQuiet_nil ?_
        intro W2 hW2
        have HW2 := hid (HX.out.trans hW2)
        clear L1 L2 hW2
        go_wp2
        go_ret
        exact ⟨by rw [HL.out, HLA.out, if_neg (by rw [HRC.out]; exact H0.out), HRC.out]; rfl, HW2.out⟩
    · obtain rfl : k = n := by omega
      have HF : Hid (lowerL la lb = cmpI nb na) := hid (by
        rw [HL.out]
        have h1 := HMIN.out
        have h2 := HNA.out
        have h3 := HNB.out
        rcases (show k = na ∨ k = nb by omega) with h | h
        · rw [List.drop_of_length_le (show la.length ≤ k by omega), lowerL_nil_left, List.length_drop]
          rw [show ((lb.length - k : Nat) : Int) = (nb : Int) - (na : Int) by omega, show (0 : Int) = (na : Int) - (na : Int) by omega, cmpI_shift]
        · rw [List.drop_of_length_le (show lb.length ≤ k by omega), lowerL_nil_right, List.length_drop]
          rw [show ((la.length - k : Nat) : Int) = (na : Int) - (nb : Int) by omega, show (0 : Int) = (nb : Int) - (nb : Int) by omega, cmpI_shift])
      have C := hid (cmp_int (nb : Int) (na : Int) wr (by omega) (by omega))
      clear hx
      go_wp2_with fail
      with_reducible refine C.out.mono ?_
      rintro e w2 ⟨rfl, rfl⟩
      go_wp2
      go_ret
      exact ⟨by rw [HF.out]; rfl, HX.out⟩
end Go.Proofs.YthplgldclilccaaGreat

namespace Go.Proofs.YthplgldclilccaaGreat
open Go.RowKit

def lowerZ (a b : List PZ) : Int := lowerR (a.map rankP) (b.map rankP)
theorem lowerZ_at {l m : List PZ} {k : Nat} {p q : PZ} (hp : l[k]? = some p) (hq : m[k]? = some q) : lowerZ (l.drop k) (m.drop k) = if orderR (rankP p) (rankP q) = 0 then lowerZ (l.drop (k + 1)) (m.drop (k + 1)) else orderR (rankP p) (rankP q) := by
  rw [drop_at hp, drop_at hq]
  rfl
theorem lowerZ_nil_left (m : List PZ) : lowerZ [] m = cmpI m.length 0 := by
  cases m with
  | nil => rfl
  | cons q m =>
    show (1 : Int) = _
    unfold cmpI
    rw [if_neg (by omega), if_pos (by simp)]
theorem lowerZ_nil_right (l : List PZ) : lowerZ l [] = cmpI 0 l.length := by
  cases l with
  | nil => rfl
  | cons q m =>
    show (-1 : Int) = _
    unfold cmpI
    rw [if_pos (by simp)]
theorem lowerZ_end (a b : List PZ) (k : Nat) (h : k = min a.length b.length) : lowerZ (a.drop k) (b.drop k) = cmpI b.length a.length := by
  rcases (show k = a.length ∨ k = b.length by omega) with h1 | h1
  · rw [List.drop_of_length_le (show a.length ≤ k by omega), lowerZ_nil_left, List.length_drop]
    rw [show ((b.length - k : Nat) : Int) = (b.length : Int) - (a.length : Int) by omega, show (0 : Int) = (a.length : Int) - (a.length : Int) by omega, cmpI_shift]
  · rw [List.drop_of_length_le (show b.length ≤ k by omega), lowerZ_nil_right, List.length_drop]
    rw [show ((a.length - k : Nat) : Int) = (a.length : Int) - (b.length : Int) by omega, show (0 : Int) = (b.length : Int) - (b.length : Int) by omega, cmpI_shift]

set_option maxRecDepth 100000 in
set_option maxHeartbeats 4000000 in
theorem rref_lower (va vb : Value) (la lb : List PZ) (w : World) (ha : RPs (Old w) w va la) (hb : RPs (Old w) w vb lb) (hca : ∀ p ∈ la, canP p) (hcb : ∀ p ∈ lb, canP p) :
    Calls Tryz.prog 15 #[va, vb] w fun e w' => e = .returned (.int .i64 (lowerZ la lb)) ∧ Ext w w' := by
  have HA := hid ha
  have HB := hid hb
  have HCA := hid hca
  have HCB := hid hcb
  have hla := ha.len_le
  have hlb := hb.len_le
  obtain ⟨aa, ca, rfl⟩ := ha.form
  obtain ⟨ab, cb, rfl⟩ := hb.form
  obtain ⟨na, hna⟩ : ∃ n, n = la.length := ⟨_, rfl⟩
  obtain ⟨nb, hnb⟩ : ∃ n, n = lb.length := ⟨_, rfl⟩
  rw [← hna] at HA hla ⊢
  rw [← hnb] at HB hlb ⊢
  have HNA := hid hna
  have HNB := hid hnb
  clear ha hb hca hcb hna hnb
  go_enter Tryz.func15, Tryz.ntmps15
  go_wp2
  go_loopw [5] (fun i wr => ∃ k : Nat, k ≤ na ∧ k ≤ nb ∧ i = .int .i64 k ∧ Ext w wr ∧ Hid (lowerZ la lb = lowerZ (la.drop k) (lb.drop k))) (fun i _ => na - (intOf i).toNat)
  case atStart => exact ⟨0, Nat.zero_le _, Nat.zero_le _, rfl, Ext.refl _, rfl⟩
  case round =>
    obtain ⟨k, hk, hk2, rfl, hx, HL⟩ := hrel
    have HX := hid hx
    by_cases hlt : k < na ∧ k < nb
    · obtain ⟨hlt1, hlt2⟩ := hlt
      obtain ⟨p, hp⟩ := some_of_lt (l := la) (j := k) (by rw [← HNA.out]; omega)
      obtain ⟨q, hq⟩ := some_of_lt (l := lb) (j := k) (by rw [← HNB.out]; omega)
      obtain ⟨b1, o1, vp, rfl, -, hn1, hm1, -, h1, h2⟩ := (HA.out.on hx).cellAt hp
      obtain ⟨b2, o2, vq, rfl, -, hn2, hm2, -, h3, h4⟩ := (HB.out.on hx).cellAt hq
      have hcp := HCA.out p (List.mem_of_getElem? hp)
      have hcq := HCB.out q (List.mem_of_getElem? hq)
      have HLA := hid (lowerZ_at hp hq)
      have C1 := fun (W : World) (hW : Ext wr W) => rrank_of vp p W (h2.on hW) hcp
      have C2 := fun (W : World) (hW : Ext wr W) => rrank_of vq q W (h4.on hW) hcq
      have C3 := fun W => rrank_less (rankP p) (rankP q) W (rankP_in hcp) (rankP_in hcq)
      have C4 := fun W => rrank_less (rankP q) (rankP p) W (rankP_in hcq) (rankP_in hcp)
      have HOR := hid (orderR_eq (rankP p) (rankP q))
      unfold RankV at C1 C2 C3 C4
      generalize rankP p = ra at *
      generalize rankP q = rb at *
      obtain ⟨ra1, ra2⟩ := ra
      obtain ⟨rb1, rb2⟩ := rb
      simp only at C1 C2 C3 C4
      have HC1 := hid C1
      have HC2 := hid C2
      obtain ⟨ap, cp, rfl⟩ := h2.form
      obtain ⟨aq, cq, rfl⟩ := h4.form
      have L1 := fun Y : Later wr => Y.h.cell h1
      have L2 := fun Y : Later wr => Y.h.cell h3
      have HK := hid (And.intro h1 h3)
      have q1 : (k : Int) < (na : Int) := by omega
      have q2 : (k : Int) < (nb : Int) := by omega
      have HT2 := hid (And.intro h2 h4)
      clear hp hq hx hcp hcq C1 C2 h1 h3 h2 h4
      cases hs : lessR (ra1, ra2) (rb1, rb2) with
      | true =>
        simp only [hs] at C3
        have HC3 := hid C3
        have HO : Hid (orderR (ra1, ra2) (rb1, rb2) = -1) := hid (by rw [HOR.out, hs]; rfl)
        clear C3 C4 hs
        go_wp2
        refine wp_region_later (by kernel_rfl) (by kernel_rfl) ?_
        repeat (go_big_quiet_step (first | (go_at_call_of 52 (Value.slice ap p.length cp); exact Later.done (HC1.out _ (Later.h _))) | (go_at_call 52; exact Later.done (HC2.out _ (Later.h _))) | (go_at_call 51; exact Later.done (HC3.out _))))
        refine wpQuiet_nil ?_
        intro W2 hW2
        have HW2 := hid (HX.out.trans hW2)
        clear L1 L2 hW2
        go_wp2
        go_ret
        exact ⟨by rw [HL.out, HLA.out, HO.out]; rfl, HW2.out⟩
      | false =>
        simp only [hs] at C3
        have HC3 := hid C3
        have HS := hid hs
        clear C3 hs
        go_wp2
        refine wp_region_later (by kernel_rfl) (by kernel_rfl) ?_
        repeat (go_big_quiet_step (first | (go_at_call_of 52 (Value.slice ap p.length cp); exact Later.done (HC1.out _ (Later.h _))) | (go_at_call 52; exact Later.done (HC2.out _ (Later.h _))) | (go_at_call 51; exact Later.done (HC3.out _))))
        refine wpQuiet_nil ?_
        intro W2 hW2
        have HW2 := hid (HX.out.trans hW2)
        have M1 := fun Y : Later W2 => (hW2.trans Y.h).cell HK.out.1
        have M2 := fun Y : Later W2 => (hW2.trans Y.h).cell HK.out.2
        have HD1 := hid (fun (W : World) (hW : Ext W2 W) => HC1.out W (hW2.trans hW))
        have HD2 := hid (fun (W : World) (hW : Ext W2 W) => HC2.out W (hW2.trans hW))
        clear L1 L2 HC1 HC2 hW2
        cases ht : lessR (rb1, rb2) (ra1, ra2) with
        | true =>
          simp only [ht] at C4
          have HC4 := hid C4
          have HO : Hid (orderR (ra1, ra2) (rb1, rb2) = 1) := hid (by rw [HOR.out, HS.out, ht]; rfl)
          clear C4 ht
          go_wp2
          refine wp_region_later (by kernel_rfl) (by kernel_rfl) ?_
          repeat (go_big_quiet_step (first | (go_at_call_of 52 (Value.slice ap p.length cp); exact Later.done (HD1.out _ (Later.h _))) | (go_at_call 52; exact Later.done (HD2.out _ (Later.h _))) | (go_at_call 51; exact Later.done (HC4.out _))))
          refine wpQuiet_nil ?_
          intro W3 hW3
          have HW3 := hid (HW2.out.trans hW3)
          clear M1 M2 hW3
          go_wp2
          go_ret
          exact ⟨by rw [HL.out, HLA.out, HO.out]; rfl, HW3.out⟩
        | false =>
          simp only [ht] at C4
          have HC4 := hid C4
          have HO : Hid (orderR (ra1, ra2) (rb1, rb2) = 0) := hid (by rw [HOR.out, HS.out, ht]; rfl)
          clear C4 ht
          go_wp2
          refine wp_region_later (by kernel_rfl) (by kernel_rfl) ?_
          repeat (go_big_quiet_step (first | (go_at_call_of 52 (Value.slice ap p.length cp); exact Later.done (HD1.out _ (Later.h _))) | (go_at_call 52; exact Later.done (HD2.out _ (Later.h _))) | (go_at_call 51; exact Later.done (HC4.out _))))
          refine wpQuiet_nil ?_
          intro W3 hW3
          have HW3 := hid (HW2.out.trans hW3)
          clear M1 M2 hW3
          go_wp2
          go_roundw
          case rel => exact ⟨k + 1, by omega, by omega, by go_num, HW3.out, by show _ = _; rw [HL.out, HLA.out, if_pos HO.out]⟩
          case measure => simp only [intOf]; omega
    · have HF : Hid (lowerZ la lb = cmpI nb na) := hid (by
        rw [HL.out, lowerZ_end _ _ _ (by have h1 := HNA.out; have h2 := HNB.out; omega), HNA.out, HNB.out])
      rcases (show (k < na ∧ k = nb) ∨ (k = na ∧ k < nb) ∨ (k = na ∧ k = nb) by omega) with ⟨hl1, rfl⟩ | ⟨rfl, hl2⟩ | ⟨rfl, rfl⟩
      all_goals
        clear hx hlt
        go_wp2
        all_goals
          go_ret
          refine ⟨?_, HX.out⟩
          rw [HF.out]
          unfold cmpI
          first | (rw [if_pos (by omega)]; rfl) | (rw [if_neg (by omega), if_pos (by omega)]; rfl) | (rw [if_neg (by omega), if_neg (by omega)]; rfl)
end Go.Proofs.YthplgldclilccaaGreat

namespace Go.Proofs.YthplgldclilccaaGreat
open Go.RowKit

def fullZ (p : PZ) : Bool := decide (0 < p.length)
def rankLZ (p q : PZ) : Bool := decide (0 ≤ orderR (rankP q) (rankP p))
def sortZ (l : List PZ) : List PZ := sortL rankLZ (l.filter fullZ)
theorem rankLZ_total : TotalLe rankLZ := by
  refine ⟨fun a b c h1 h2 => ?_, fun a b => ?_⟩
  · unfold rankLZ at *
    simp only [decide_eq_true_eq, orderR_le] at *
    omega
  · unfold rankLZ
    simp only [decide_eq_true_eq, orderR_le]
    omega
theorem rankLZ_less (p z : PZ) : rankLZ z p = !lessR (rankP p) (rankP z) := by
  unfold rankLZ
  rw [orderR_eq]
  cases h : lessR (rankP p) (rankP z) with
  | true => simp
  | false =>
    simp only [Bool.false_eq_true, if_false, Bool.not_false, decide_eq_true_eq]
    split <;> omega
theorem sortZ_skip {ls : List PZ} {k : Nat} {p : PZ} (hp : ls[k]? = some p) (h : fullZ p = false) : sortZ (ls.take (k + 1)) = sortZ (ls.take k) := by
  unfold sortZ
  rw [List.take_add_one, hp, List.filter_append]
  simp [h]
theorem sortZ_put {ls L : List PZ} {k j : Nat} {p : PZ} (hp : ls[k]? = some p) (h : fullZ p = true) (hL : L = sortZ (ls.take k)) (h1 : ∀ z ∈ L.take j, rankLZ z p = true) (h2 : ∀ z ∈ L.drop j, rankLZ z p = false) :
    sortZ (ls.take (k + 1)) = L.take j ++ p :: L.drop j := by
  rw [← mergeL_put h1 h2, List.take_append_drop, hL]
  unfold sortZ
  rw [List.take_add_one, hp, List.filter_append, sortL_append rankLZ_total]
  simp [h, sortL_one]
theorem sortZ_mem {ls : List PZ} {p : PZ} (h : p ∈ sortZ ls) : p ∈ ls := by
  unfold sortZ at h
  exact (List.mem_filter.1 ((sortL_perm _).mem_iff.1 h)).1
theorem sortZ_len (ls : List PZ) : (sortZ ls).length ≤ ls.length := by
  unfold sortZ
  rw [sortL_len]
  exact List.length_filter_le _ _
/-- all ahead of a place that is not above -/
theorem sorted_ahead {L : List PZ} {j : Nat} {p q : PZ} (hs : SortedL rankLZ L) (hq : L[j]? = some q) (h : rankLZ q p = true) : ∀ z ∈ L.take (j + 1), rankLZ z p = true := by
  have e : L.take (j + 1) = L.take j ++ [q] := by rw [List.take_add_one, hq]; rfl
  rw [e]
  have h3 : SortedL rankLZ (L.take (j + 1)) := List.Pairwise.sublist (List.take_sublist _ _) hs
  rw [e] at h3
  exact h3.last rankLZ_total h
theorem drop_less {L : List PZ} {j : Nat} {p q : PZ} (hq : L[j]? = some q) (h : rankLZ q p = false) (h2 : ∀ z ∈ L.drop (j + 1), rankLZ z p = false) : ∀ z ∈ L.drop j, rankLZ z p = false := by
  rw [drop_at hq]
  intro z hz
  rcases List.mem_cons.1 hz with rfl | hz
  · exact h
  · exact h2 z hz

theorem RPs.nilv (S : Nat → Prop) (w : World) (a : Option Addr) (cap : Nat) (h : cap ≤ 9223372036854775807) : RPs S w (.slice a 0 cap) [] :=
  ⟨0, 0, ⟨a, cap, rfl, Nat.zero_le _, h, fun h => absurd h (Nat.lt_irrefl 0), fun h => absurd h (Nat.lt_irrefl 0)⟩, fun j t hj => by simp at hj⟩
theorem RPs.caps {S : Nat → Prop} {w : World} {a : Option Addr} {n cap : Nat} {l : List PZ} (h : RPs S w (.slice a n cap) l) : n = l.length ∧ n ≤ cap ∧ cap ≤ 9223372036854775807 := by
  obtain ⟨b, off, ⟨a', cap', h1, h2, h3, _⟩, _⟩ := h
  obtain ⟨rfl, rfl, rfl⟩ : a = a' ∧ n = l.length ∧ cap = cap' := by simpa using h1
  unfold maxLen at h3
  exact ⟨rfl, h2, by omega⟩
theorem cellsP_from {S : Nat → Prop} {w : World} {b : Nat} : ∀ (l : List PZ) (off : Nat), (∀ j p, l[j]? = some p → ∃ vp, w.cell? ⟨b, off + j, none⟩ = some vp ∧ RTs S w vp p) →
    ∃ xs, CellsP S w xs l ∧ (∀ u ∈ xs, u.oneCell' = true) ∧ ∀ j u, xs[j]? = some u → w.cell? ⟨b, off + j, none⟩ = some u
  | [], _, _ => ⟨[], CellsP.nil _ _, fun u hu => by simp at hu, fun j u hj => by simp at hj⟩
  | p :: l, off, h => by
    obtain ⟨vp, h1, h2⟩ := h 0 p rfl
    obtain ⟨xs, k1, k2, k3⟩ := cellsP_from l (off + 1) (fun j q hj => by
      have := h (j + 1) q (by simpa using hj)
      rwa [show off + (j + 1) = off + 1 + j by omega] at this)
    refine ⟨vp :: xs, ⟨by simp [k1.1], fun j q hj => ?_⟩, fun u hu => ?_, fun j u hj => ?_⟩
    · cases j with
      | zero => obtain rfl : p = q := by simpa using hj
                exact ⟨vp, rfl, h2⟩
      | succ j => exact k1.2 j q (by simpa using hj)
    · rcases List.mem_cons.1 hu with rfl | hu
      · obtain ⟨a, c, rfl⟩ := h2.form
        rfl
      · exact k2 u hu
    · cases j with
      | zero => obtain rfl : vp = u := by simpa using hj
                exact h1
      | succ j =>
        have := k3 j u (by simpa using hj)
        rwa [show off + 1 + j = off + (j + 1) by omega] at this
/-- what is appended from the first ones -/
theorem RPs.src_take {S : Nat → Prop} {w : World} {A : Option Addr} {n cap k : Nat} {l : List PZ} (h : RPs S w (.slice A n cap) l) (hk : k ≤ l.length) :
    ∃ xs, SrcAt w A k 1 xs ∧ CellsP S w xs (l.take k) := by
  obtain ⟨b, off, ⟨a', cap', h1, h2, h3, h4, h5⟩, hc⟩ := h
  obtain ⟨rfl, rfl, rfl⟩ : A = a' ∧ n = l.length ∧ cap = cap' := by simpa using h1
  obtain ⟨xs, k1, k2, k3⟩ := cellsP_from (S := S) (w := w) (b := b) (l.take k) off (fun j p hj => by
    rw [List.getElem?_take] at hj
    split at hj
    · exact hc j p hj
    · cases hj)
  refine ⟨xs, ⟨by rw [k1.1, List.length_take]; omega, k2, fun h0 => ⟨_, h4 (by omega), fun j u hj => ?_⟩⟩, k1⟩
  rw [add_off]
  exact k3 j u hj
/-- and from the others -/
theorem RPs.src_drop {S : Nat → Prop} {w : World} {A A' : Option Addr} {n cap k : Nat} {l : List PZ} (h : RPs S w (.slice A n cap) l) (hk : k ≤ l.length) (e : A' = (if cap = k then A else A.map (·.add (k * 1)))) :
    ∃ xs, (∀ W, Ext w W → SrcAt W A' (l.length - k) 1 xs) ∧ CellsP S w xs (l.drop k) := by
  obtain ⟨b, off, ⟨a', cap', h1, h2, h3, h4, h5⟩, hc⟩ := h
  obtain ⟨rfl, rfl, rfl⟩ : A = a' ∧ n = l.length ∧ cap = cap' := by simpa using h1
  by_cases hlt : k < l.length
  · have ha := h4 (by omega)
    subst ha
    rw [if_neg (by omega)] at e
    have e2 : A' = some ⟨b, off + k, none⟩ := by rw [e, Option.map_some, add_off, Nat.mul_one]
    obtain ⟨xs, k1, k2, k3⟩ := cellsP_from (S := S) (w := w) (b := b) (l.drop k) (off + k) (fun j p hj => by
      rw [List.getElem?_drop] at hj
      rw [show off + k + j = off + (k + j) by omega]
      exact hc (k + j) p hj)
    refine ⟨xs, fun W hW => ⟨by rw [k1.1, List.length_drop, Nat.mul_one], k2, fun h0 => ⟨_, e2, fun j u hj => ?_⟩⟩, k1⟩
    rw [add_off]
    exact hW.cell (k3 j u hj)
  · obtain rfl : k = l.length := by omega
    refine ⟨[], fun W hW => ⟨by simp, fun u hu => by simp at hu, fun hh => by omega⟩, ?_⟩
    rw [List.drop_length]
    exact CellsP.nil _ _
theorem CellsP.append {S : Nat → Prop} {w : World} {xs ys : List Value} {l m : List PZ} (h : CellsP S w xs l) (h' : CellsP S w ys m) : CellsP S w (xs ++ ys) (l ++ m) := by
  refine ⟨by simp [h.1, h'.1], fun j q hj => ?_⟩
  by_cases hlt : j < l.length
  · rw [List.getElem?_append_left hlt] at hj
    rw [List.getElem?_append_left (by rw [h.1]; exact hlt)]
    exact h.2 j q hj
  · rw [List.getElem?_append_right (by omega)] at hj
    rw [List.getElem?_append_right (by rw [h.1]; omega), h.1]
    exact h'.2 _ q hj
/-- a slice up to an index -/
theorem wpList_slice_to {P : Program} (w : World) {ops : Array Oper} {rest : List Oper} {o : Oper} {a : Act} {Q : Exit → Act → World → Prop} (hgd : o.guard = none) (x y : Operand) (t e : TypeId)
    (ho : o.op = .slice t x none (some y) none) (ht : P.underlying t = some (.slice e)) {z : Option Value} {size bytes : Nat} (hinfo : (P.info? e).map (fun i => (i.zero, i.size, i.bytes)) = some (z, size, bytes))
    (A : Option Addr) (n cap k : Nat) (hx : a.eval x = .slice A n cap) (hy : a.eval y = .int .i64 (k : Nat)) (hk : k ≤ cap)
    (h : wpList P ops Q rest (a.put o.dst (.slice A k cap)) w) : wpList P ops Q (o :: rest) a w := by
  refine wpList_plain hgd fun K hK => ?_
  have he : P.elem t = e := by simp [Program.elem, ht]
  have ht' : P.underlying t = some (.slice (P.elem t)) := by rw [he]; exact ht
  have hi : ∃ i, P.info? e = some i ∧ i.size = size := by
    cases hh : P.info? e with
    | none => rw [hh] at hinfo; simp at hinfo
    | some i =>
      rw [hh] at hinfo
      simp at hinfo
      exact ⟨i, rfl, hinfo.2.1⟩
  obtain ⟨i, hi1, hi2⟩ := hi
  have hA : ∀ s, (if cap = 0 then A else A.map (·.add (0 * s))) = A := by
    intro s
    split
    · rfl
    · cases A with
      | none => rfl
      | some ad => simp [Addr.add]
  unfold Oper.wp execOp
  simp only [ho, Option.map, hx, hy]
  rw [Sem.run_bind, run_sliceAt_slice _ _ _ _ _ _ ht', run_slice_h (ht := ht') (h0 := by omega) (h2 := by omega)]
  simp only [he, sizeOf, typeInfo, Sem.run_bind, sliced, Int.toNat_natCast, hA]
  have := hK _ _ h
  simpa [go_sem, hi1, hi2] using this
end Go.Proofs.YthplgldclilccaaGreat

namespace Go.Proofs.YthplgldclilccaaGreat
open Go.RowKit

theorem build_fit_go {v : Int} (hv : 1 ≤ v ∧ v ≤ 200) {y : PZ} : ∀ (l : List PZ) (acc : PZ) (i : Nat), (∀ q ∈ l, Fit 20 20 q) → i + l.length ≤ 100 → Fit (23 + 2 * i) (20 * i) acc → buildF v acc i l = some y → Fit 1000 10000 y
  | [], acc, i, _, hi, ha, h => by
    simp only [buildF, Option.some.injEq] at h
    subst h
    simp only [List.length_nil] at hi
    exact ha.mono (by omega) (by omega)
  | q :: r, acc, i, hq, hi, ha, h => by
    simp only [List.length_cons] at hi
    have fq := hq q (by simp)
    cases ho : timesP q (powP v i) with
    | none => rw [buildF, ho] at h; cases h
    | some c =>
      rw [buildF, ho] at h
      have fc := (fq.times (fit_pow hv (i := i) (by omega)) ho (by decide))
      refine build_fit_go hv r _ (i + 1) (fun u hu => hq u (by simp [hu])) (by omega) ?_ h
      exact (ha.add (fc.mono (l := 23 + 2 * i) (m := 20) (by omega) (by omega)) (by omega)).mono (by omega) (by omega)
theorem build_fit {v : Int} {l : List PZ} {y : PZ} (hf : ∀ q ∈ l, Fit 20 20 q) (hv : 1 ≤ v ∧ v ≤ 200) (hl : l.length ≤ 100) (h : buildP l v = some y) : Fit 1000 10000 y :=
  build_fit_go hv l [] 0 hf (by omega) (fit_nil.mono (by omega) (by omega)) h
theorem coefs_fit9 {p : PZ} {k n : Nat} (h : Fit k n p) (v : Int) : ∀ q ∈ coefsP p v, Fit k n q := fun q hq => by
  unfold coefsP at hq
  split at hq
  · simp at hq
  · obtain ⟨e, -, rfl⟩ := List.mem_map.1 hq
    exact h.coef v _

set_option maxRecDepth 100000 in
set_option maxHeartbeats 16000000 in
theorem law_builds (vp vl : Value) (ps : List RTerm) (ls : List (List RTerm)) (x : Int) (w : World) (hp : Terms (Old w) w vp ps) (hl : Polys (Old w) w vl ls) (hx : inI64 x) :
    Calls Tryz.prog 6 #[vp, vl, .int .i64 x] w fun e w' => e = .returned (.bool true) ∧ Ext w w' := by
  have hnot : ∀ (x : Bool) (w : World), (Op.unary .not (.bool x)).run Tryz.prog w = .ok (.bool (!x)) w := fun _ _ => rfl
  have HX0 := hid (Ext.refl w)
  have HP0 := hid hp
  have HL0 := hid hl
  have HXI := hid hx
  have hll := hl.len_le
  have CG := rpoly_great vp ps 20 w hp (fun _ h => h) (by omega)
  unfold inI64 at hx
  obtain ⟨hxl, hxu⟩ := hx
  obtain ⟨ap, cp, rfl⟩ := hp.form
  obtain ⟨al, cl, rfl⟩ := hl.form
  obtain ⟨N, hN⟩ : ∃ n, n = ls.length := ⟨_, rfl⟩
  rw [← hN] at HL0 hll ⊢
  have HN := hid hN
  cases hg : greatT 20 ps with
  | true =>
    rw [hg] at CG
    have HCG := hid CG
    clear CG hg hp hl hN
    go_enter Tryz.func6, Tryz.ntmps6
    go_wp2_with fail
    with_reducible refine (HCG.out).mono ?_
    rintro e w1 ⟨rfl, hx1⟩
    have HX1 := hid (HX0.out.trans hx1)
    clear hx1
    go_wp2_with fail
    with_reducible refine (law09_known w1).mono ?_
    rintro e w2 ⟨rfl, hx2⟩
    have HX2 := hid (HX1.out.trans hx2)
    clear hx2
    go_wp2
    all_goals
      go_ret
      exact ⟨rfl, HX2.out⟩
  | false =>
    rw [hg] at CG
    have HCG := hid CG
    have HF := hid (great_fit (n := 20) hg)
    clear hg CG
    by_cases hl8 : 8 < N
    · have q0 : decide ((8 : Int) < (N : Int)) = true := decide_eq_true (by omega)
      clear hp hl hN
      go_enter Tryz.func6, Tryz.ntmps6
      go_wp2_with fail
      with_reducible refine (HCG.out).mono ?_
      rintro e w1 ⟨rfl, hx1⟩
      have HX1 := hid (HX0.out.trans hx1)
      clear hx1
      go_wp2_with fail
      with_reducible refine (law09_known w1).mono ?_
      rintro e w2 ⟨rfl, hx2⟩
      have HX2 := hid (HX1.out.trans hx2)
      clear hx2
      go_wp2
      all_goals
        go_ret
        exact ⟨rfl, HX2.out⟩
    · have q0 : decide ((8 : Int) < (N : Int)) = false := decide_eq_false (by omega)
      have q0' : (N : Int) ≤ 8 := by omega
      have hsp : smallT ps := fun t ht => Nat.le_trans (HF.out.2 t ht).1 (by decide)
      have hl20 : ∀ t ∈ ps, t.c.mag.length ≤ 20 := fun t ht => (HF.out.2 t ht).1
      have HFT : Hid (fitT ps) := hid ⟨fun t ht => Nat.le_trans (HF.out.2 t ht).1 (by decide), Nat.le_trans HF.out.1 (by decide)⟩
      have HVD := hid (fun (W : World) (u : Value) (hu : Terms (Old W) W u ps) => view_degree u ps x W hu (fun _ h => h) hsp ⟨hxl, hxu⟩)
      have HCF := hid (fun (W : World) (u : Value) (hu : Terms (Old W) W u ps) => coefs_any (x := x) hu hl20 HF.out.1)
      have HPL := hid (fun (W : World) (u : Value) (hu : Terms (Old W) W u ps) => law09_plain u ps W hu (fun _ h => h) HFT.out)
      have fP : Fit 20 20 (plainP ps) := fit_plain (k := 20) (n := 20) hp.okT hl20 HF.out.1
      have HRC := hid (fun (W : World) (u : Value) (hu : RTs (Old W) W u (plainP ps)) (h1 : 1 ≤ x ∧ x ≤ 200) => rview_coefs u (plainP ps) x W hu (fun _ h => h) fP.can (fit_sz fP (by decide) (by decide)) h1)
      obtain ⟨cs, hcs⟩ : ∃ cs, cs = coefsA (plainP ps) x := ⟨_, rfl⟩
      have HCA : Hid ((1 ≤ x ∧ x ≤ 200) → coefsP (plainP ps) x = cs) := hid (fun h => by rw [hcs]; unfold coefsA; rw [if_pos h])
      have HCN : Hid (¬ (1 ≤ x ∧ x ≤ 200) → cs = []) := hid (fun h => by rw [hcs]; unfold coefsA; rw [if_neg h])
      have HCFT : Hid (∀ q ∈ cs, Fit 20 20 q) := hid (fun q hq => by
        rw [hcs] at hq
        unfold coefsA at hq
        split at hq
        · exact coefs_fit9 fP x q hq
        · simp at hq)
      rw [← hcs] at HCF
      obtain ⟨dg, hdg⟩ : ∃ d, d = degP (plainP ps) x := ⟨_, rfl⟩
      rw [← hdg] at HVD
      clear hp hl hN hsp hl20 fP hcs hdg
      by_cases hd5 : 50 < dg
      · have q1 : decide ((50 : Int) < dg) = true := decide_eq_true hd5
        go_enter Tryz.func6, Tryz.ntmps6
        go_wp2_with fail
        with_reducible refine (HCG.out).mono ?_
        rintro e w1 ⟨rfl, hx1⟩
        have HX1 := hid (HX0.out.trans hx1)
        have HP1 := hid (Terms.on HP0.out hx1)
        have HL1 := hid (Polys.on HL0.out hx1)
        clear hx1
        go_wp2_with fail
        with_reducible refine (HVD.out _ _ HP1.out).mono ?_
        rintro e w2 ⟨rfl, hx2⟩
        have HX2 := hid (HX1.out.trans hx2)
        have HP2 := hid (Terms.on HP1.out hx2)
        have HL2 := hid (Polys.on HL1.out hx2)
        clear hx2
        go_wp2_with fail
        with_reducible refine (law09_known w2).mono ?_
        rintro e w3 ⟨rfl, hx3⟩
        have HX3 := hid (HX2.out.trans hx3)
        have HP3 := hid (Terms.on HP2.out hx3)
        have HL3 := hid (Polys.on HL2.out hx3)
        clear hx3
        go_wp2
        all_goals
          go_ret
          exact ⟨rfl, HX3.out⟩
      · have q1 : decide ((50 : Int) < dg) = false := decide_eq_false hd5
        have q1' : dg ≤ 50 := by omega
        go_enter Tryz.func6, Tryz.ntmps6
        go_wp2_with fail
        with_reducible refine (HCG.out).mono ?_
        rintro e w1 ⟨rfl, hx1⟩
        have HX1 := hid (HX0.out.trans hx1)
        have HP1 := hid (Terms.on HP0.out hx1)
        have HL1 := hid (Polys.on HL0.out hx1)
        clear hx1
        go_wp2_with fail
        with_reducible refine (HVD.out _ _ HP1.out).mono ?_
        rintro e w2 ⟨rfl, hx2⟩
        have HX2 := hid (HX1.out.trans hx2)
        have HP2 := hid (Terms.on HP1.out hx2)
        have HL2 := hid (Polys.on HL1.out hx2)
        clear hx2
        by_cases hin : 1 ≤ x ∧ x ≤ 200
        · have r1 : decide (1 ≤ x) = true := decide_eq_true hin.1
          have r2 : decide (x ≤ 200) = true := decide_eq_true hin.2
          go_wp2
          go_loopw [7, 8, 39] (fun m o i wr => ∃ (k : Nat) (xs : List Value) (mb : Bool), k ≤ N ∧ m = .bool mb ∧ i = .int .i64 (k : Nat) ∧ Ext w wr ∧ Hid (mb = (true && (ls.take k).all mayT)) ∧ Hid (wr.ownsRow w.heap.size 36 1 o k xs) ∧ Hid (CellsP (Off (Old w) w wr o) wr xs ((ls.take k).map plainP)) ∧ Hid (∀ q ∈ ls.take k, greatT 8 q = false)) (fun _ _ i _ => N - (intOf i).toNat)
          case atStart => exact ⟨0, [], true, Nat.zero_le _, rfl, rfl, HX2.out, hid rfl, hid (World.ownsRow_nil _ _ _ _), hid (CellsP.nil _ _), hid (fun q hq => by simp at hq)⟩
          case round =>
            obtain ⟨k, xs, mb, hk, rfl, rfl, hx20, HM, HW, HXS, HGR⟩ := hrel
            obtain ⟨w20, rfl⟩ : ∃ W, W = wr := ⟨_, rfl⟩
            have HX20 := hid hx20
            have HP20 := hid (Terms.on HP0.out hx20)
            have HL20 := hid (Polys.on HL0.out hx20)
            clear hx20
            by_cases hlt : k < N
            · obtain ⟨q, hq⟩ := some_of_lt (l := ls) (by rw [← HN.out]; exact hlt)
              obtain ⟨b, off, vq, rfl, -, hn1, hm1, hSb, h1, h2⟩ := HL0.out.cellAt hq
              have HC0 := hid h1
              have HQ0 := hid h2
              have HTQ : Hid (ls.take (k + 1) = ls.take k ++ [q]) := hid (by rw [List.take_add_one, hq]; rfl)
              obtain ⟨aq, cq, rfl⟩ := h2.form
              obtain ⟨nq, hnq⟩ : ∃ n, n = q.length := ⟨_, rfl⟩
              rw [← hnq] at HQ0 HC0
              have g20 := HX20.out.cell HC0.out
              have HGQ := hid (rpoly_great _ q 8 w20 (HQ0.out.on HX20.out) (fun _ h => h) (by omega))
              clear hq h1 h2 hnq hn1
              cases hgq : greatT 8 q with
              | true =>
                rw [hgq] at HGQ
                clear hgq
                go_wp2_with fail
                with_reducible refine (HGQ.out).mono ?_
                rintro e w21 ⟨rfl, hx21⟩
                have HX21 := hid (HX20.out.trans hx21)
                have HP21 := hid (Terms.on HP20.out hx21)
                have HL21 := hid (Polys.on HL20.out hx21)
                clear hx21
                go_wp2_with fail
                with_reducible refine (law09_known w21).mono ?_
                rintro e w22 ⟨rfl, hx22⟩
                have HX22 := hid (HX21.out.trans hx22)
                have HP22 := hid (Terms.on HP21.out hx22)
                have HL22 := hid (Polys.on HL21.out hx22)
                clear hx22
                go_wp2
                all_goals
                  go_ret
                  exact ⟨rfl, HX22.out⟩
              | false =>
                rw [hgq] at HGQ
                have HFQ := hid (great_fit (n := 8) hgq)
                have HFQT : Hid (fitT q) := hid ⟨fun t ht => Nat.le_trans (HFQ.out.2 t ht).1 (by decide), Nat.le_trans HFQ.out.1 (by decide)⟩
                have HGR1 : Hid (∀ y ∈ ls.take (k + 1), greatT 8 y = false) := hid (fun y hy => by
                  rw [HTQ.out] at hy
                  rcases List.mem_append.1 hy with g | g
                  · exact HGR.out y g
                  · obtain rfl := List.mem_singleton.1 g; exact hgq)
                clear hgq
                go_wp2_with fail
                with_reducible refine (HGQ.out).mono ?_
                rintro e w21 ⟨rfl, hx21⟩
                have HX21 := hid (HX20.out.trans hx21)
                have HR21 := hid (hx21)
                have g21 := hx21.cell g20
                clear hx21 g20
                cases mb with
                | true =>
                  have HMC := hid (rpoly_may (S := Old w) _ q w21 (HQ0.out.ext HX21.out (fun _ h => h)) (lt_ext (fun _ h => h) HX21.out) HFQT.out.1)
                  obtain ⟨mq, hmq⟩ : ∃ m, m = mayT q := ⟨_, rfl⟩
                  rw [← hmq] at HMC
                  have HMQ : Hid (mayT q = mq) := hid hmq.symm
                  clear hmq
                  cases mq with
                  | true =>
                    go_wp2_with fail
                    with_reducible refine (HMC.out).mono ?_
                    rintro e w22 ⟨rfl, hx22⟩
                    have HX22 := hid (HX21.out.trans hx22)
                    have HR22 := hid (HR21.out.trans hx22)
                    have g22 := hx22.cell g21
                    clear hx22 g21
                    have HWn22 := hid (own_ext HW.out HR22.out)
                    have HXn22 := hid (cellsP_ext (fun _ h => h) HX20.out HXS.out HR22.out)
                    have HPQ := hid (law09_plain (S := Old w) _ q w22 (HQ0.out.ext HX22.out (fun _ h => h)) (lt_ext (fun _ h => h) HX22.out) HFQT.out)
                    go_wp2_with fail
                    with_reducible refine HPQ.out.mono ?_
                    rintro e w23 ⟨v23, rfl, hp23, hx23⟩
                    have HX23 := hid (HX22.out.trans hx23)
                    have HW23 := hid (own_ext HWn22.out hx23)
                    have HXS23 := hid (cellsP_ext (fun _ h => h) HX22.out HXn22.out hx23)
                    have HP23 := hid (rts_off (fun _ h => h) HX22.out HWn22.out hx23 hp23)
                    obtain ⟨a23, c23, rfl⟩ := hp23.form
                    obtain ⟨n23, hn23⟩ : ∃ n, n = (plainP q).length := ⟨_, rfl⟩
                    rw [← hn23] at HP23 ⊢
                    clear hx23 hp23 hn23
                    go_wp2_with (at_builtin; refine wpList_append_new _ rfl (.tmp 56) (.tmp 62) 29 rfl w.heap.size 36 (.slice none 0 0) 1 24 Tryz.underlying29 Tryz.infoP rfl (by decide) _ k xs rfl HW23.out #[.slice a23 n23 c23] rfl (one_cell rfl) rfl (by omega) (by decide) HX23.out.size ?_; intro v3 w3 hown hg hbk; have HW3 := hid hown; have HG3 := hid hg; have HBK := hid hbk; clear hown hg hbk)
                    go_roundw
                    case rel =>
                      refine ⟨k + 1, xs ++ [.slice a23 n23 c23], true, by omega, rfl, by go_num, own_grown0 HX23.out HW23.out HG3.out, hid ?_, HW3, hid ?_, HGR1⟩
                      · rw [HTQ.out, List.all_append, ← Bool.and_assoc, ← HM.out]; simp [HMQ.out]
                      · rw [HTQ.out, List.map_append]
                        exact cellsP_grown (fun _ h => h) HX23.out (HXS23.out.snoc HP23.out) HG3.out HBK.out
                    case measure => simp only [intOf]; omega
                  | false =>
                    go_wp2_with fail
                    with_reducible refine (HMC.out).mono ?_
                    rintro e w22 ⟨rfl, hx22⟩
                    have HX22 := hid (HX21.out.trans hx22)
                    have HR22 := hid (HR21.out.trans hx22)
                    have g22 := hx22.cell g21
                    clear hx22 g21
                    have HWn22 := hid (own_ext HW.out HR22.out)
                    have HXn22 := hid (cellsP_ext (fun _ h => h) HX20.out HXS.out HR22.out)
                    have HPQ := hid (law09_plain (S := Old w) _ q w22 (HQ0.out.ext HX22.out (fun _ h => h)) (lt_ext (fun _ h => h) HX22.out) HFQT.out)
                    go_wp2_with fail
                    with_reducible refine HPQ.out.mono ?_
                    rintro e w23 ⟨v23, rfl, hp23, hx23⟩
                    have HX23 := hid (HX22.out.trans hx23)
                    have HW23 := hid (own_ext HWn22.out hx23)
                    have HXS23 := hid (cellsP_ext (fun _ h => h) HX22.out HXn22.out hx23)
                    have HP23 := hid (rts_off (fun _ h => h) HX22.out HWn22.out hx23 hp23)
                    obtain ⟨a23, c23, rfl⟩ := hp23.form
                    obtain ⟨n23, hn23⟩ : ∃ n, n = (plainP q).length := ⟨_, rfl⟩
                    rw [← hn23] at HP23 ⊢
                    clear hx23 hp23 hn23
                    go_wp2_with (at_builtin; refine wpList_append_new _ rfl (.tmp 56) (.tmp 62) 29 rfl w.heap.size 36 (.slice none 0 0) 1 24 Tryz.underlying29 Tryz.infoP rfl (by decide) _ k xs rfl HW23.out #[.slice a23 n23 c23] rfl (one_cell rfl) rfl (by omega) (by decide) HX23.out.size ?_; intro v3 w3 hown hg hbk; have HW3 := hid hown; have HG3 := hid hg; have HBK := hid hbk; clear hown hg hbk)
                    go_roundw
                    case rel =>
                      refine ⟨k + 1, xs ++ [.slice a23 n23 c23], false, by omega, rfl, by go_num, own_grown0 HX23.out HW23.out HG3.out, hid ?_, HW3, hid ?_, HGR1⟩
                      · rw [HTQ.out, List.all_append, ← Bool.and_assoc, ← HM.out]; simp [HMQ.out]
                      · rw [HTQ.out, List.map_append]
                        exact cellsP_grown (fun _ h => h) HX23.out (HXS23.out.snoc HP23.out) HG3.out HBK.out
                    case measure => simp only [intOf]; omega
                | false =>
                  have HWn21 := hid (own_ext HW.out HR21.out)
                  have HXn21 := hid (cellsP_ext (fun _ h => h) HX20.out HXS.out HR21.out)
                  have HPQ := hid (law09_plain (S := Old w) _ q w21 (HQ0.out.ext HX21.out (fun _ h => h)) (lt_ext (fun _ h => h) HX21.out) HFQT.out)
                  go_wp2_with fail
                  with_reducible refine HPQ.out.mono ?_
                  rintro e w22 ⟨v22, rfl, hp22, hx22⟩
                  have HX22 := hid (HX21.out.trans hx22)
                  have HW22 := hid (own_ext HWn21.out hx22)
                  have HXS22 := hid (cellsP_ext (fun _ h => h) HX21.out HXn21.out hx22)
                  have HP22 := hid (rts_off (fun _ h => h) HX21.out HWn21.out hx22 hp22)
                  obtain ⟨a22, c22, rfl⟩ := hp22.form
                  obtain ⟨n22, hn22⟩ : ∃ n, n = (plainP q).length := ⟨_, rfl⟩
                  rw [← hn22] at HP22 ⊢
                  clear hx22 hp22 hn22
                  go_wp2_with (at_builtin; refine wpList_append_new _ rfl (.tmp 56) (.tmp 62) 29 rfl w.heap.size 36 (.slice none 0 0) 1 24 Tryz.underlying29 Tryz.infoP rfl (by decide) _ k xs rfl HW22.out #[.slice a22 n22 c22] rfl (one_cell rfl) rfl (by omega) (by decide) HX22.out.size ?_; intro v3 w3 hown hg hbk; have HW3 := hid hown; have HG3 := hid hg; have HBK := hid hbk; clear hown hg hbk)
                  go_roundw
                  case rel =>
                    refine ⟨k + 1, xs ++ [.slice a22 n22 c22], false, by omega, rfl, by go_num, own_grown0 HX22.out HW22.out HG3.out, hid ?_, HW3, hid ?_, HGR1⟩
                    · rw [HTQ.out, List.all_append, ← Bool.and_assoc, ← HM.out]; simp
                    · rw [HTQ.out, List.map_append]
                      exact cellsP_grown (fun _ h => h) HX22.out (HXS22.out.snoc HP22.out) HG3.out HBK.out
                  case measure => simp only [intOf]; omega
            · obtain rfl : k = N := by omega
              have HTA : Hid (ls.take k = ls) := hid (List.take_of_length_le (by rw [← HN.out]; exact Nat.le_refl _))
              have HRL : Hid (RPs (Old w20) w20 u8 (ls.map plainP)) := hid (by
                have hc := HXS.out
                rw [HTA.out] at hc
                exact own_rps (by rw [List.length_map, ← HN.out]; exact HW.out) (hc.to (Kept.refl _ _) (fun q hq => plus_lt (fun _ h => h) HX20.out q hq.1)) (fun _ _ h2 => h2))
              have HA20 := HRL
              have HSM : Hid (smallL ls) := hid (fun q hq t ht => by
                have h1 := HGR.out q (by rw [HTA.out]; exact hq)
                exact Nat.le_trans ((great_fit (n := 8) h1).2 t ht).1 (by decide))
              cases mb with
              | true =>
                have hm : ls.all mayT = true := by
                  have := HM.out
                  rw [HTA.out] at this
                  simpa using this.symm
                have hfl : ∀ q ∈ ls.map plainP, Fit 20 20 q := fun q hq => by
                  obtain ⟨t, ht, rfl⟩ := List.mem_map.1 hq
                  have h1 := great_fit (n := 8) (HGR.out t (by rw [HTA.out]; exact ht))
                  exact fit_plain (k := 20) (n := 20) (polys_ok HL20.out t ht) (fun y hy => (h1.2 y hy).1) (Nat.le_trans h1.1 (by decide))
                have hlm : (ls.map plainP).length ≤ 100 := by rw [List.length_map, ← HN.out]; omega
                have HLM := hid hlm
                have HLP : Hid (PVs w20 (.slice al k cl) (ls.map plainP)) := hid (by
                  show Polys (Old w20) w20 _ ((ls.map plainP).map ofP)
                  rw [← all_plain HL20.out hm]
                  exact HL20.out)
                have CB := z_build (x := x) HLP.out hfl (by decide) (by decide) (Nat.le_trans hlm (by decide)) hin
                have CR := fun (W : World) (u : Value) (hu : RPs (Old W) W u (ls.map plainP)) => rview_build u (ls.map plainP) x W hu (fun _ h => h) hfl hlm hin
                obtain ⟨bo, hbo⟩ : ∃ bo, bo = buildP (ls.map plainP) x := ⟨_, rfl⟩
                rw [← hbo] at CB CR
                have HFL := hid hfl
                have HBO := hid hbo
                clear hm hfl hbo hlm
                cases bo with
                | none =>
                  unfold TimesPost ErrPoly at CB
                  simp only [timesB, timesV] at CB CR
                  have HCB := hid CB
                  have HCR := hid CR
                  clear CB CR
                  go_wp2_with fail
                  with_reducible refine (HCB.out).mono ?_
                  rintro e w21 ⟨rfl, hx21⟩
                  have HX21 := hid (HX20.out.trans hx21)
                  have HP21 := hid (Terms.on HP20.out hx21)
                  have HL21 := hid (Polys.on HL20.out hx21)
                  have HA21 := hid (RPs.on HA20.out hx21)
                  clear hx21
                  go_wp2_with fail
                  with_reducible refine (HCR.out _ _ HA21.out).mono ?_
                  rintro e w22 ⟨v22, rfl, hp22, hx22⟩
                  have HX22 := hid (HX21.out.trans hx22)
                  have HP22 := hid (Terms.on HP21.out hx22)
                  have HL22 := hid (Polys.on HL21.out hx22)
                  have HA22 := hid (RPs.on HA21.out hx22)
                  have HY22 := hid (hp22.to (S' := Old w22) (Kept.refl _ _) (plus_lt (fun _ h => h) hx22))
                  obtain ⟨a22, c22, rfl⟩ := hp22.form
                  clear hx22 hp22
                  go_wp2_with fail
                  with_reducible refine (HCF.out _ _ HP22.out).mono ?_
                  rintro e w23 ⟨v23, rfl, hp23, hx23⟩
                  have HX23 := hid (HX22.out.trans hx23)
                  have HP23 := hid (Terms.on HP22.out hx23)
                  have HG23 := hid (hp23.to (S' := Old w23) (Kept.refl _ _) New.lt)
                  have hle23 := hp23.len_le
                  obtain ⟨a23, c23, rfl⟩ := hp23.form
                  obtain ⟨ng, hng⟩ : ∃ n, n = (cs.map ofP).length := ⟨_, rfl⟩
                  rw [← hng] at HG23 hle23 ⊢
                  have Hng := hid hng
                  clear hng
                  clear hx23 hp23
                  have CRC := fun (W : World) (u : Value) (hu : RTs (Old W) W u (plainP ps)) => HRC.out W u hu hin
                  rw [HCA.out hin] at CRC
                  have HCRC := hid CRC
                  clear CRC
                  go_wp2_with fail
                  with_reducible refine (HPL.out _ _ HP23.out).mono ?_
                  rintro e w24 ⟨v24, rfl, hp24, hx24⟩
                  have HX24 := hid (HX23.out.trans hx24)
                  have HP24 := hid (Terms.on HP23.out hx24)
                  have HG24 := hid (Polys.on HG23.out hx24)
                  have HW24 := hid (hp24.to (S' := Old w24) (Kept.refl _ _) (plus_lt (fun _ h => h) hx24))
                  obtain ⟨a24, c24, rfl⟩ := hp24.form
                  clear hx24 hp24
                  go_wp2_with fail
                  with_reducible refine (HCRC.out _ _ HW24.out).mono ?_
                  rintro e w25 ⟨v25, rfl, hp25, hx25⟩
                  have HX25 := hid (HX24.out.trans hx25)
                  have HG25 := hid (Polys.on HG24.out hx25)
                  have HQ25 := hid (hp25.to (S' := Old w25) (Kept.refl _ _) (plus_lt (fun _ h => h) hx25))
                  have hle25 := hp25.len_le
                  obtain ⟨a25, c25, rfl⟩ := hp25.form
                  obtain ⟨nw, hnw⟩ : ∃ n, n = (cs).length := ⟨_, rfl⟩
                  rw [← hnw] at HQ25 hle25 ⊢
                  have Hnw := hid hnw
                  clear hnw
                  clear hx25 hp25
                  obtain rfl : nw = ng := by rw [Hnw.out, Hng.out, List.length_map]
                  go_wp2
                  go_loopw [131] (fun i wr => ∃ k : Nat, k ≤ nw ∧ i = .int .i64 (k : Nat) ∧ Ext w25 wr) (fun i _ => nw - (intOf i).toNat)
                  case atStart => exact ⟨0, Nat.zero_le _, rfl, Ext.refl _⟩
                  case round =>
                    obtain ⟨j, hj, rfl, hx40⟩ := hrel
                    obtain ⟨w40, rfl⟩ : ∃ W, W = wr := ⟨_, rfl⟩
                    have HX40 := hid (HX25.out.trans hx40)
                    have HR40 := hid hx40
                    clear hx40
                    by_cases hlj : j < nw
                    · obtain ⟨c, hc⟩ := some_of_lt (l := cs) (by rw [← Hnw.out]; exact hlj)
                      have hg0 : (cs.map ofP)[j]? = some (ofP c) := by rw [List.getElem?_map, hc]; rfl
                      obtain ⟨bg, og, vg, rfl, -, hga, hgb, hgc, hg1, hg2⟩ := HG25.out.cellAt hg0
                      obtain ⟨bq, oq, vq, rfl, -, hqa, hqb, hqc, hq1, hq2⟩ := HQ25.out.cellAt hc
                      have HFC := hid (HCFT.out c (List.mem_of_getElem? hc))
                      have x0 : Ext w25 w40.drew := HR40.out.drew
                      have HX0' := hid x0
                      have HPO := rpoly_poly (S := Old w25) vq c w40.drew (hq2.ext x0 (fun _ h => h)) (lt_ext (fun _ h => h) x0) (fit_sz HFC.out (by decide) (by decide)) (may_lens HFC.out.can.may)
                      have HSA := fun (W : World) (v : Value) (hW : Ext w25 W) (hv : Terms (Old W) W v (ofP c)) => rpoly_same (S := Old W) vg v (ofP c) (ofP c) W (Terms.on hg2 hW) hv (fun _ h => h)
                      simp only [decide_true] at HSA
                      obtain ⟨ag, cg, rfl⟩ := hg2.form
                      obtain ⟨aq, cq, rfl⟩ := hq2.form
                      obtain ⟨lg, hlg⟩ : ∃ n, n = (ofP c).length := ⟨_, rfl⟩
                      obtain ⟨lc, hlc⟩ : ∃ n, n = c.length := ⟨_, rfl⟩
                      rw [← hlg] at HSA hg1
                      rw [← hlc] at HPO hq1
                      have HC1 := hid (And.intro hg1 hq1)
                      have S0 : _ ∧ _ := And.intro (x0.cell hg1) (x0.cell hq1)
                      have HPO1 := hid HPO
                      have HSA1 := hid HSA
                      clear hc hg0 hg1 hg2 hq1 hq2 x0 HPO HSA hlg hlc
                      go_wp2
                      go_region_held3 (fun W => W.cell? ⟨bg, og + j, none⟩ = some (.slice ag lg cg) ∧ W.cell? ⟨bq, oq + j, none⟩ = some (.slice aq lc cq)) (first | (with_reducible exact S0) | (with_reducible exact S1) | (with_reducible exact S2))
                        (first
                          | (go_at_call 17; (with_reducible refine HPO1.out.mono ?_); rintro e wa ⟨va, rfl, hpa, hxa⟩; have HXa := hid (HX0'.out.trans hxa); have S1 : _ ∧ _ := And.intro (HXa.out.cell HC1.out.1) (HXa.out.cell HC1.out.2); have HQa := hid (HSA1.out wa va HXa.out (hpa.to (Kept.refl _ _) New.lt)); obtain ⟨aa, ca, rfl⟩ := hpa.form; clear hpa hxa)
                          | (go_at_call 16; (with_reducible refine HQa.out.mono ?_); rintro e wb ⟨rfl, hxb⟩; have HXb := hid (HXa.out.trans hxb); have S2 : _ ∧ _ := And.intro (HXb.out.cell HC1.out.1) (HXb.out.cell HC1.out.2); clear hxb))
                      all_goals
                        go_wp2
                        go_roundw
                        case rel => exact ⟨j + 1, by omega, by go_num, HXb.out⟩
                        case measure => simp only [intOf]; omega
                    · obtain rfl : j = nw := by omega
                      go_wp2_with fail
                      with_reducible refine (law09_known w40).mono ?_
                      rintro e w41 ⟨rfl, hx41⟩
                      have HX41 := hid (HX40.out.trans hx41)
                      clear hx41
                      go_wp2
                      all_goals
                        go_ret
                        exact ⟨rfl, HX41.out⟩
                | some y =>
                  unfold TimesPost OkPoly at CB
                  simp only [timesB, timesV] at CB CR
                  have HCB := hid CB
                  have HCR := hid CR
                  have fy := build_fit HFL.out hin HLM.out HBO.out.symm
                  have CY := hid (fun (W : World) (u : Value) (hu : RTs (Old W) W u y) => rpoly_poly u y W hu (fun _ h => h) (fit_sz fy (by decide) (by decide)) (may_lens fy.can.may))
                  have CS := fun (W : World) (u v : Value) (hu : Terms (Old W) W u (ofP y)) (hv : Terms (Old W) W v (ofP y)) => rpoly_same u v (ofP y) (ofP y) W hu hv (fun _ h => h)
                  simp only [decide_true] at CS
                  have HCS := hid CS
                  clear CB CR CS fy
                  go_wp2_with fail
                  with_reducible refine (HCB.out).mono ?_
                  rintro e w21 ⟨v21, rfl, hp21, hx21⟩
                  have HX21 := hid (HX20.out.trans hx21)
                  have HP21 := hid (Terms.on HP20.out hx21)
                  have HL21 := hid (Polys.on HL20.out hx21)
                  have HA21 := hid (RPs.on HA20.out hx21)
                  have HB21 := hid (hp21.to (S' := Old w21) (Kept.refl _ _) New.lt)
                  obtain ⟨a21, c21, rfl⟩ := hp21.form
                  clear hx21 hp21
                  go_wp2_with fail
                  with_reducible refine (HCR.out _ _ HA21.out).mono ?_
                  rintro e w22 ⟨v22, rfl, hp22, hx22⟩
                  have HX22 := hid (HX21.out.trans hx22)
                  have HP22 := hid (Terms.on HP21.out hx22)
                  have HL22 := hid (Polys.on HL21.out hx22)
                  have HA22 := hid (RPs.on HA21.out hx22)
                  have HB22 := hid (Terms.on HB21.out hx22)
                  have HY22 := hid (hp22.to (S' := Old w22) (Kept.refl _ _) (plus_lt (fun _ h => h) hx22))
                  obtain ⟨a22, c22, rfl⟩ := hp22.form
                  clear hx22 hp22
                  go_wp2_with fail
                  with_reducible refine (CY.out _ _ HY22.out).mono ?_
                  rintro e w23 ⟨v23, rfl, hp23, hx23⟩
                  have HX23 := hid (HX22.out.trans hx23)
                  have HP23 := hid (Terms.on HP22.out hx23)
                  have HL23 := hid (Polys.on HL22.out hx23)
                  have HB23 := hid (Terms.on HB22.out hx23)
                  have HY23 := hid (RTs.on HY22.out hx23)
                  have HZ23 := hid (hp23.to (S' := Old w23) (Kept.refl _ _) New.lt)
                  obtain ⟨a23, c23, rfl⟩ := hp23.form
                  clear hx23 hp23
                  go_wp2_with fail
                  with_reducible refine (HCS.out _ _ _ HB23.out HZ23.out).mono ?_
                  rintro e w24 ⟨rfl, hx24⟩
                  have HX24 := hid (HX23.out.trans hx24)
                  have HP24 := hid (Terms.on HP23.out hx24)
                  have HL24 := hid (Polys.on HL23.out hx24)
                  clear hx24
                  go_wp2_with fail
                  with_reducible refine (HCF.out _ _ HP24.out).mono ?_
                  rintro e w25 ⟨v25, rfl, hp25, hx25⟩
                  have HX25 := hid (HX24.out.trans hx25)
                  have HP25 := hid (Terms.on HP24.out hx25)
                  have HG25 := hid (hp25.to (S' := Old w25) (Kept.refl _ _) New.lt)
                  have hle25 := hp25.len_le
                  obtain ⟨a25, c25, rfl⟩ := hp25.form
                  obtain ⟨ng, hng⟩ : ∃ n, n = (cs.map ofP).length := ⟨_, rfl⟩
                  rw [← hng] at HG25 hle25 ⊢
                  have Hng := hid hng
                  clear hng
                  clear hx25 hp25
                  have CRC := fun (W : World) (u : Value) (hu : RTs (Old W) W u (plainP ps)) => HRC.out W u hu hin
                  rw [HCA.out hin] at CRC
                  have HCRC := hid CRC
                  clear CRC
                  go_wp2_with fail
                  with_reducible refine (HPL.out _ _ HP25.out).mono ?_
                  rintro e w26 ⟨v26, rfl, hp26, hx26⟩
                  have HX26 := hid (HX25.out.trans hx26)
                  have HP26 := hid (Terms.on HP25.out hx26)
                  have HG26 := hid (Polys.on HG25.out hx26)
                  have HW26 := hid (hp26.to (S' := Old w26) (Kept.refl _ _) (plus_lt (fun _ h => h) hx26))
                  obtain ⟨a26, c26, rfl⟩ := hp26.form
                  clear hx26 hp26
                  go_wp2_with fail
                  with_reducible refine (HCRC.out _ _ HW26.out).mono ?_
                  rintro e w27 ⟨v27, rfl, hp27, hx27⟩
                  have HX27 := hid (HX26.out.trans hx27)
                  have HG27 := hid (Polys.on HG26.out hx27)
                  have HQ27 := hid (hp27.to (S' := Old w27) (Kept.refl _ _) (plus_lt (fun _ h => h) hx27))
                  have hle27 := hp27.len_le
                  obtain ⟨a27, c27, rfl⟩ := hp27.form
                  obtain ⟨nw, hnw⟩ : ∃ n, n = (cs).length := ⟨_, rfl⟩
                  rw [← hnw] at HQ27 hle27 ⊢
                  have Hnw := hid hnw
                  clear hnw
                  clear hx27 hp27
                  obtain rfl : nw = ng := by rw [Hnw.out, Hng.out, List.length_map]
                  go_wp2
                  go_loopw [131] (fun i wr => ∃ k : Nat, k ≤ nw ∧ i = .int .i64 (k : Nat) ∧ Ext w27 wr) (fun i _ => nw - (intOf i).toNat)
                  case atStart => exact ⟨0, Nat.zero_le _, rfl, Ext.refl _⟩
                  case round =>
                    obtain ⟨j, hj, rfl, hx40⟩ := hrel
                    obtain ⟨w40, rfl⟩ : ∃ W, W = wr := ⟨_, rfl⟩
                    have HX40 := hid (HX27.out.trans hx40)
                    have HR40 := hid hx40
                    clear hx40
                    by_cases hlj : j < nw
                    · obtain ⟨c, hc⟩ := some_of_lt (l := cs) (by rw [← Hnw.out]; exact hlj)
                      have hg0 : (cs.map ofP)[j]? = some (ofP c) := by rw [List.getElem?_map, hc]; rfl
                      obtain ⟨bg, og, vg, rfl, -, hga, hgb, hgc, hg1, hg2⟩ := HG27.out.cellAt hg0
                      obtain ⟨bq, oq, vq, rfl, -, hqa, hqb, hqc, hq1, hq2⟩ := HQ27.out.cellAt hc
                      have HFC := hid (HCFT.out c (List.mem_of_getElem? hc))
                      have x0 : Ext w27 w40.drew := HR40.out.drew
                      have HX0' := hid x0
                      have HPO := rpoly_poly (S := Old w27) vq c w40.drew (hq2.ext x0 (fun _ h => h)) (lt_ext (fun _ h => h) x0) (fit_sz HFC.out (by decide) (by decide)) (may_lens HFC.out.can.may)
                      have HSA := fun (W : World) (v : Value) (hW : Ext w27 W) (hv : Terms (Old W) W v (ofP c)) => rpoly_same (S := Old W) vg v (ofP c) (ofP c) W (Terms.on hg2 hW) hv (fun _ h => h)
                      simp only [decide_true] at HSA
                      obtain ⟨ag, cg, rfl⟩ := hg2.form
                      obtain ⟨aq, cq, rfl⟩ := hq2.form
                      obtain ⟨lg, hlg⟩ : ∃ n, n = (ofP c).length := ⟨_, rfl⟩
                      obtain ⟨lc, hlc⟩ : ∃ n, n = c.length := ⟨_, rfl⟩
                      rw [← hlg] at HSA hg1
                      rw [← hlc] at HPO hq1
                      have HC1 := hid (And.intro hg1 hq1)
                      have S0 : _ ∧ _ := And.intro (x0.cell hg1) (x0.cell hq1)
                      have HPO1 := hid HPO
                      have HSA1 := hid HSA
                      clear hc hg0 hg1 hg2 hq1 hq2 x0 HPO HSA hlg hlc
                      go_wp2
                      go_region_held3 (fun W => W.cell? ⟨bg, og + j, none⟩ = some (.slice ag lg cg) ∧ W.cell? ⟨bq, oq + j, none⟩ = some (.slice aq lc cq)) (first | (with_reducible exact S0) | (with_reducible exact S1) | (with_reducible exact S2))
                        (first
                          | (go_at_call 17; (with_reducible refine HPO1.out.mono ?_); rintro e wa ⟨va, rfl, hpa, hxa⟩; have HXa := hid (HX0'.out.trans hxa); have S1 : _ ∧ _ := And.intro (HXa.out.cell HC1.out.1) (HXa.out.cell HC1.out.2); have HQa := hid (HSA1.out wa va HXa.out (hpa.to (Kept.refl _ _) New.lt)); obtain ⟨aa, ca, rfl⟩ := hpa.form; clear hpa hxa)
                          | (go_at_call 16; (with_reducible refine HQa.out.mono ?_); rintro e wb ⟨rfl, hxb⟩; have HXb := hid (HXa.out.trans hxb); have S2 : _ ∧ _ := And.intro (HXb.out.cell HC1.out.1) (HXb.out.cell HC1.out.2); clear hxb))
                      all_goals
                        go_wp2
                        go_roundw
                        case rel => exact ⟨j + 1, by omega, by go_num, HXb.out⟩
                        case measure => simp only [intOf]; omega
                    · obtain rfl : j = nw := by omega
                      go_wp2_with fail
                      with_reducible refine (law09_known w40).mono ?_
                      rintro e w41 ⟨rfl, hx41⟩
                      have HX41 := hid (HX40.out.trans hx41)
                      clear hx41
                      go_wp2
                      all_goals
                        go_ret
                        exact ⟨rfl, HX41.out⟩
              | false =>
                have CB := build_no (x := x) HL20.out HSM.out (by rw [← HN.out]; omega) (fun g => by have := HM.out; rw [HTA.out, g.2] at this; simp at this)
                unfold ErrPoly at CB
                have HCB := hid CB
                clear CB
                go_wp2_with fail
                with_reducible refine (HCB.out).mono ?_
                rintro e w21 ⟨rfl, hx21⟩
                have HX21 := hid (HX20.out.trans hx21)
                have HP21 := hid (Terms.on HP20.out hx21)
                have HL21 := hid (Polys.on HL20.out hx21)
                clear hx21
                go_wp2_with fail
                with_reducible refine (HCF.out _ _ HP21.out).mono ?_
                rintro e w22 ⟨v22, rfl, hp22, hx22⟩
                have HX22 := hid (HX21.out.trans hx22)
                have HP22 := hid (Terms.on HP21.out hx22)
                have HG22 := hid (hp22.to (S' := Old w22) (Kept.refl _ _) New.lt)
                have hle22 := hp22.len_le
                obtain ⟨a22, c22, rfl⟩ := hp22.form
                obtain ⟨ng, hng⟩ : ∃ n, n = (cs.map ofP).length := ⟨_, rfl⟩
                rw [← hng] at HG22 hle22 ⊢
                have Hng := hid hng
                clear hng
                clear hx22 hp22
                have CRC := fun (W : World) (u : Value) (hu : RTs (Old W) W u (plainP ps)) => HRC.out W u hu hin
                rw [HCA.out hin] at CRC
                have HCRC := hid CRC
                clear CRC
                go_wp2_with fail
                with_reducible refine (HPL.out _ _ HP22.out).mono ?_
                rintro e w23 ⟨v23, rfl, hp23, hx23⟩
                have HX23 := hid (HX22.out.trans hx23)
                have HP23 := hid (Terms.on HP22.out hx23)
                have HG23 := hid (Polys.on HG22.out hx23)
                have HW23 := hid (hp23.to (S' := Old w23) (Kept.refl _ _) (plus_lt (fun _ h => h) hx23))
                obtain ⟨a23, c23, rfl⟩ := hp23.form
                clear hx23 hp23
                go_wp2_with fail
                with_reducible refine (HCRC.out _ _ HW23.out).mono ?_
                rintro e w24 ⟨v24, rfl, hp24, hx24⟩
                have HX24 := hid (HX23.out.trans hx24)
                have HG24 := hid (Polys.on HG23.out hx24)
                have HQ24 := hid (hp24.to (S' := Old w24) (Kept.refl _ _) (plus_lt (fun _ h => h) hx24))
                have hle24 := hp24.len_le
                obtain ⟨a24, c24, rfl⟩ := hp24.form
                obtain ⟨nw, hnw⟩ : ∃ n, n = (cs).length := ⟨_, rfl⟩
                rw [← hnw] at HQ24 hle24 ⊢
                have Hnw := hid hnw
                clear hnw
                clear hx24 hp24
                obtain rfl : nw = ng := by rw [Hnw.out, Hng.out, List.length_map]
                go_wp2
                go_loopw [131] (fun i wr => ∃ k : Nat, k ≤ nw ∧ i = .int .i64 (k : Nat) ∧ Ext w24 wr) (fun i _ => nw - (intOf i).toNat)
                case atStart => exact ⟨0, Nat.zero_le _, rfl, Ext.refl _⟩
                case round =>
                  obtain ⟨j, hj, rfl, hx40⟩ := hrel
                  obtain ⟨w40, rfl⟩ : ∃ W, W = wr := ⟨_, rfl⟩
                  have HX40 := hid (HX24.out.trans hx40)
                  have HR40 := hid hx40
                  clear hx40
                  by_cases hlj : j < nw
                  · obtain ⟨c, hc⟩ := some_of_lt (l := cs) (by rw [← Hnw.out]; exact hlj)
                    have hg0 : (cs.map ofP)[j]? = some (ofP c) := by rw [List.getElem?_map, hc]; rfl
                    obtain ⟨bg, og, vg, rfl, -, hga, hgb, hgc, hg1, hg2⟩ := HG24.out.cellAt hg0
                    obtain ⟨bq, oq, vq, rfl, -, hqa, hqb, hqc, hq1, hq2⟩ := HQ24.out.cellAt hc
                    have HFC := hid (HCFT.out c (List.mem_of_getElem? hc))
                    have x0 : Ext w24 w40.drew := HR40.out.drew
                    have HX0' := hid x0
                    have HPO := rpoly_poly (S := Old w24) vq c w40.drew (hq2.ext x0 (fun _ h => h)) (lt_ext (fun _ h => h) x0) (fit_sz HFC.out (by decide) (by decide)) (may_lens HFC.out.can.may)
                    have HSA := fun (W : World) (v : Value) (hW : Ext w24 W) (hv : Terms (Old W) W v (ofP c)) => rpoly_same (S := Old W) vg v (ofP c) (ofP c) W (Terms.on hg2 hW) hv (fun _ h => h)
                    simp only [decide_true] at HSA
                    obtain ⟨ag, cg, rfl⟩ := hg2.form
                    obtain ⟨aq, cq, rfl⟩ := hq2.form
                    obtain ⟨lg, hlg⟩ : ∃ n, n = (ofP c).length := ⟨_, rfl⟩
                    obtain ⟨lc, hlc⟩ : ∃ n, n = c.length := ⟨_, rfl⟩
                    rw [← hlg] at HSA hg1
                    rw [← hlc] at HPO hq1
                    have HC1 := hid (And.intro hg1 hq1)
                    have S0 : _ ∧ _ := And.intro (x0.cell hg1) (x0.cell hq1)
                    have HPO1 := hid HPO
                    have HSA1 := hid HSA
                    clear hc hg0 hg1 hg2 hq1 hq2 x0 HPO HSA hlg hlc
                    go_wp2
                    go_region_held3 (fun W => W.cell? ⟨bg, og + j, none⟩ = some (.slice ag lg cg) ∧ W.cell? ⟨bq, oq + j, none⟩ = some (.slice aq lc cq)) (first | (with_reducible exact S0) | (with_reducible exact S1) | (with_reducible exact S2))
                      (first
                        | (go_at_call 17; (with_reducible refine HPO1.out.mono ?_); rintro e wa ⟨va, rfl, hpa, hxa⟩; have HXa := hid (HX0'.out.trans hxa); have S1 : _ ∧ _ := And.intro (HXa.out.cell HC1.out.1) (HXa.out.cell HC1.out.2); have HQa := hid (HSA1.out wa va HXa.out (hpa.to (Kept.refl _ _) New.lt)); obtain ⟨aa, ca, rfl⟩ := hpa.form; clear hpa hxa)
                        | (go_at_call 16; (with_reducible refine HQa.out.mono ?_); rintro e wb ⟨rfl, hxb⟩; have HXb := hid (HXa.out.trans hxb); have S2 : _ ∧ _ := And.intro (HXb.out.cell HC1.out.1) (HXb.out.cell HC1.out.2); clear hxb))
                    all_goals
                      go_wp2
                      go_roundw
                      case rel => exact ⟨j + 1, by omega, by go_num, HXb.out⟩
                      case measure => simp only [intOf]; omega
                  · obtain rfl : j = nw := by omega
                    go_wp2_with fail
                    with_reducible refine (law09_known w40).mono ?_
                    rintro e w41 ⟨rfl, hx41⟩
                    have HX41 := hid (HX40.out.trans hx41)
                    clear hx41
                    go_wp2
                    all_goals
                      go_ret
                      exact ⟨rfl, HX41.out⟩
        · by_cases hlo : 1 ≤ x
          · have r1 : decide (1 ≤ x) = true := decide_eq_true hlo
            have r2 : decide (x ≤ 200) = false := decide_eq_false (fun h => hin ⟨hlo, h⟩)
            go_wp2
            go_loopw [7, 8, 39] (fun m o i wr => ∃ (k : Nat) (xs : List Value) (mb : Bool), k ≤ N ∧ m = .bool mb ∧ i = .int .i64 (k : Nat) ∧ Ext w wr ∧ Hid (mb = (false && (ls.take k).all mayT)) ∧ Hid (wr.ownsRow w.heap.size 36 1 o k xs) ∧ Hid (CellsP (Off (Old w) w wr o) wr xs ((ls.take k).map plainP)) ∧ Hid (∀ q ∈ ls.take k, greatT 8 q = false)) (fun _ _ i _ => N - (intOf i).toNat)
            case atStart => exact ⟨0, [], false, Nat.zero_le _, rfl, rfl, HX2.out, hid rfl, hid (World.ownsRow_nil _ _ _ _), hid (CellsP.nil _ _), hid (fun q hq => by simp at hq)⟩
            case round =>
              obtain ⟨k, xs, mb, hk, rfl, rfl, hx20, HM, HW, HXS, HGR⟩ := hrel
              obtain ⟨w20, rfl⟩ : ∃ W, W = wr := ⟨_, rfl⟩
              have HX20 := hid hx20
              have HP20 := hid (Terms.on HP0.out hx20)
              have HL20 := hid (Polys.on HL0.out hx20)
              clear hx20
              by_cases hlt : k < N
              · obtain ⟨q, hq⟩ := some_of_lt (l := ls) (by rw [← HN.out]; exact hlt)
                obtain ⟨b, off, vq, rfl, -, hn1, hm1, hSb, h1, h2⟩ := HL0.out.cellAt hq
                have HC0 := hid h1
                have HQ0 := hid h2
                have HTQ : Hid (ls.take (k + 1) = ls.take k ++ [q]) := hid (by rw [List.take_add_one, hq]; rfl)
                obtain ⟨aq, cq, rfl⟩ := h2.form
                obtain ⟨nq, hnq⟩ : ∃ n, n = q.length := ⟨_, rfl⟩
                rw [← hnq] at HQ0 HC0
                have g20 := HX20.out.cell HC0.out
                have HGQ := hid (rpoly_great _ q 8 w20 (HQ0.out.on HX20.out) (fun _ h => h) (by omega))
                clear hq h1 h2 hnq hn1
                cases hgq : greatT 8 q with
                | true =>
                  rw [hgq] at HGQ
                  clear hgq
                  go_wp2_with fail
                  with_reducible refine (HGQ.out).mono ?_
                  rintro e w21 ⟨rfl, hx21⟩
                  have HX21 := hid (HX20.out.trans hx21)
                  have HP21 := hid (Terms.on HP20.out hx21)
                  have HL21 := hid (Polys.on HL20.out hx21)
                  clear hx21
                  go_wp2_with fail
                  with_reducible refine (law09_known w21).mono ?_
                  rintro e w22 ⟨rfl, hx22⟩
                  have HX22 := hid (HX21.out.trans hx22)
                  have HP22 := hid (Terms.on HP21.out hx22)
                  have HL22 := hid (Polys.on HL21.out hx22)
                  clear hx22
                  go_wp2
                  all_goals
                    go_ret
                    exact ⟨rfl, HX22.out⟩
                | false =>
                  rw [hgq] at HGQ
                  have HFQ := hid (great_fit (n := 8) hgq)
                  have HFQT : Hid (fitT q) := hid ⟨fun t ht => Nat.le_trans (HFQ.out.2 t ht).1 (by decide), Nat.le_trans HFQ.out.1 (by decide)⟩
                  have HGR1 : Hid (∀ y ∈ ls.take (k + 1), greatT 8 y = false) := hid (fun y hy => by
                    rw [HTQ.out] at hy
                    rcases List.mem_append.1 hy with g | g
                    · exact HGR.out y g
                    · obtain rfl := List.mem_singleton.1 g; exact hgq)
                  clear hgq
                  go_wp2_with fail
                  with_reducible refine (HGQ.out).mono ?_
                  rintro e w21 ⟨rfl, hx21⟩
                  have HX21 := hid (HX20.out.trans hx21)
                  have HR21 := hid (hx21)
                  have g21 := hx21.cell g20
                  clear hx21 g20
                  obtain rfl : mb = false := by rw [HM.out]; rfl
                  have HWn21 := hid (own_ext HW.out HR21.out)
                  have HXn21 := hid (cellsP_ext (fun _ h => h) HX20.out HXS.out HR21.out)
                  have HPQ := hid (law09_plain (S := Old w) _ q w21 (HQ0.out.ext HX21.out (fun _ h => h)) (lt_ext (fun _ h => h) HX21.out) HFQT.out)
                  go_wp2_with fail
                  with_reducible refine HPQ.out.mono ?_
                  rintro e w22 ⟨v22, rfl, hp22, hx22⟩
                  have HX22 := hid (HX21.out.trans hx22)
                  have HW22 := hid (own_ext HWn21.out hx22)
                  have HXS22 := hid (cellsP_ext (fun _ h => h) HX21.out HXn21.out hx22)
                  have HP22 := hid (rts_off (fun _ h => h) HX21.out HWn21.out hx22 hp22)
                  obtain ⟨a22, c22, rfl⟩ := hp22.form
                  obtain ⟨n22, hn22⟩ : ∃ n, n = (plainP q).length := ⟨_, rfl⟩
                  rw [← hn22] at HP22 ⊢
                  clear hx22 hp22 hn22
                  go_wp2_with (at_builtin; refine wpList_append_new _ rfl (.tmp 56) (.tmp 62) 29 rfl w.heap.size 36 (.slice none 0 0) 1 24 Tryz.underlying29 Tryz.infoP rfl (by decide) _ k xs rfl HW22.out #[.slice a22 n22 c22] rfl (one_cell rfl) rfl (by omega) (by decide) HX22.out.size ?_; intro v3 w3 hown hg hbk; have HW3 := hid hown; have HG3 := hid hg; have HBK := hid hbk; clear hown hg hbk)
                  go_roundw
                  case rel =>
                    refine ⟨k + 1, xs ++ [.slice a22 n22 c22], false, by omega, rfl, by go_num, own_grown0 HX22.out HW22.out HG3.out, hid ?_, HW3, hid ?_, HGR1⟩
                    · rw [HTQ.out, List.all_append, ← Bool.and_assoc, ← HM.out]; simp
                    · rw [HTQ.out, List.map_append]
                      exact cellsP_grown (fun _ h => h) HX22.out (HXS22.out.snoc HP22.out) HG3.out HBK.out
                  case measure => simp only [intOf]; omega
              · obtain rfl : k = N := by omega
                have HTA : Hid (ls.take k = ls) := hid (List.take_of_length_le (by rw [← HN.out]; exact Nat.le_refl _))
                have HRL : Hid (RPs (Old w20) w20 u8 (ls.map plainP)) := hid (by
                  have hc := HXS.out
                  rw [HTA.out] at hc
                  exact own_rps (by rw [List.length_map, ← HN.out]; exact HW.out) (hc.to (Kept.refl _ _) (fun q hq => plus_lt (fun _ h => h) HX20.out q hq.1)) (fun _ _ h2 => h2))
                have HA20 := HRL
                have HSM : Hid (smallL ls) := hid (fun q hq t ht => by
                  have h1 := HGR.out q (by rw [HTA.out]; exact hq)
                  exact Nat.le_trans ((great_fit (n := 8) h1).2 t ht).1 (by decide))
                obtain rfl : mb = false := by rw [HM.out]; rfl
                have CB := build_no (x := x) HL20.out HSM.out (by rw [← HN.out]; omega) (fun g => hin g.1)
                unfold ErrPoly at CB
                have HCB := hid CB
                clear CB
                go_wp2_with fail
                with_reducible refine (HCB.out).mono ?_
                rintro e w21 ⟨rfl, hx21⟩
                have HX21 := hid (HX20.out.trans hx21)
                have HP21 := hid (Terms.on HP20.out hx21)
                have HL21 := hid (Polys.on HL20.out hx21)
                clear hx21
                go_wp2_with fail
                with_reducible refine (HCF.out _ _ HP21.out).mono ?_
                rintro e w22 ⟨v22, rfl, hp22, hx22⟩
                have HX22 := hid (HX21.out.trans hx22)
                have HP22 := hid (Terms.on HP21.out hx22)
                have HG22 := hid (hp22.to (S' := Old w22) (Kept.refl _ _) New.lt)
                have hle22 := hp22.len_le
                obtain ⟨a22, c22, rfl⟩ := hp22.form
                obtain ⟨ng, hng⟩ : ∃ n, n = (cs.map ofP).length := ⟨_, rfl⟩
                rw [← hng] at HG22 hle22 ⊢
                have Hng := hid hng
                clear hng
                clear hx22 hp22
                obtain ⟨nw, hnw⟩ : ∃ n, n = cs.length := ⟨_, rfl⟩
                have Hnw := hid hnw
                have hnw0 : nw = 0 := by rw [hnw, HCN.out hin]; rfl
                clear hnw
                have HQ22 : Hid (RPs (Old w22) w22 (.slice none nw 0) cs) := hid (by rw [HCN.out hin, hnw0]; exact RPs.nilv _ _ _ _ (by omega))
                have HNW0 := hid hnw0
                obtain rfl : nw = ng := by rw [Hnw.out, Hng.out, List.length_map]
                subst hnw0
                go_wp2
                go_loopw [131] (fun i wr => ∃ k : Nat, k ≤ 0 ∧ i = .int .i64 (k : Nat) ∧ Ext w22 wr) (fun i _ => 0 - (intOf i).toNat)
                case atStart => exact ⟨0, Nat.zero_le _, rfl, Ext.refl _⟩
                case round =>
                  obtain ⟨j, hj, rfl, hx40⟩ := hrel
                  obtain ⟨w40, rfl⟩ : ∃ W, W = wr := ⟨_, rfl⟩
                  have HX40 := hid (HX22.out.trans hx40)
                  have HR40 := hid hx40
                  clear hx40
                  by_cases hlj : j < 0
                  · exact absurd hlj (Nat.not_lt_zero _)
                  · obtain rfl : j = 0 := by omega
                    go_wp2_with fail
                    with_reducible refine (law09_known w40).mono ?_
                    rintro e w41 ⟨rfl, hx41⟩
                    have HX41 := hid (HX40.out.trans hx41)
                    clear hx41
                    go_wp2
                    all_goals
                      go_ret
                      exact ⟨rfl, HX41.out⟩
          · have r1 : decide (1 ≤ x) = false := decide_eq_false hlo
            go_wp2
            go_loopw [7, 8, 39] (fun m o i wr => ∃ (k : Nat) (xs : List Value) (mb : Bool), k ≤ N ∧ m = .bool mb ∧ i = .int .i64 (k : Nat) ∧ Ext w wr ∧ Hid (mb = (false && (ls.take k).all mayT)) ∧ Hid (wr.ownsRow w.heap.size 36 1 o k xs) ∧ Hid (CellsP (Off (Old w) w wr o) wr xs ((ls.take k).map plainP)) ∧ Hid (∀ q ∈ ls.take k, greatT 8 q = false)) (fun _ _ i _ => N - (intOf i).toNat)
            case atStart => exact ⟨0, [], false, Nat.zero_le _, rfl, rfl, HX2.out, hid rfl, hid (World.ownsRow_nil _ _ _ _), hid (CellsP.nil _ _), hid (fun q hq => by simp at hq)⟩
            case round =>
              obtain ⟨k, xs, mb, hk, rfl, rfl, hx20, HM, HW, HXS, HGR⟩ := hrel
              obtain ⟨w20, rfl⟩ : ∃ W, W = wr := ⟨_, rfl⟩
              have HX20 := hid hx20
              have HP20 := hid (Terms.on HP0.out hx20)
              have HL20 := hid (Polys.on HL0.out hx20)
              clear hx20
              by_cases hlt : k < N
              · obtain ⟨q, hq⟩ := some_of_lt (l := ls) (by rw [← HN.out]; exact hlt)
                obtain ⟨b, off, vq, rfl, -, hn1, hm1, hSb, h1, h2⟩ := HL0.out.cellAt hq
                have HC0 := hid h1
                have HQ0 := hid h2
                have HTQ : Hid (ls.take (k + 1) = ls.take k ++ [q]) := hid (by rw [List.take_add_one, hq]; rfl)
                obtain ⟨aq, cq, rfl⟩ := h2.form
                obtain ⟨nq, hnq⟩ : ∃ n, n = q.length := ⟨_, rfl⟩
                rw [← hnq] at HQ0 HC0
                have g20 := HX20.out.cell HC0.out
                have HGQ := hid (rpoly_great _ q 8 w20 (HQ0.out.on HX20.out) (fun _ h => h) (by omega))
                clear hq h1 h2 hnq hn1
                cases hgq : greatT 8 q with
                | true =>
                  rw [hgq] at HGQ
                  clear hgq
                  go_wp2_with fail
                  with_reducible refine (HGQ.out).mono ?_
                  rintro e w21 ⟨rfl, hx21⟩
                  have HX21 := hid (HX20.out.trans hx21)
                  have HP21 := hid (Terms.on HP20.out hx21)
                  have HL21 := hid (Polys.on HL20.out hx21)
                  clear hx21
                  go_wp2_with fail
                  with_reducible refine (law09_known w21).mono ?_
                  rintro e w22 ⟨rfl, hx22⟩
                  have HX22 := hid (HX21.out.trans hx22)
                  have HP22 := hid (Terms.on HP21.out hx22)
                  have HL22 := hid (Polys.on HL21.out hx22)
                  clear hx22
                  go_wp2
                  all_goals
                    go_ret
                    exact ⟨rfl, HX22.out⟩
                | false =>
                  rw [hgq] at HGQ
                  have HFQ := hid (great_fit (n := 8) hgq)
                  have HFQT : Hid (fitT q) := hid ⟨fun t ht => Nat.le_trans (HFQ.out.2 t ht).1 (by decide), Nat.le_trans HFQ.out.1 (by decide)⟩
                  have HGR1 : Hid (∀ y ∈ ls.take (k + 1), greatT 8 y = false) := hid (fun y hy => by
                    rw [HTQ.out] at hy
                    rcases List.mem_append.1 hy with g | g
                    · exact HGR.out y g
                    · obtain rfl := List.mem_singleton.1 g; exact hgq)
                  clear hgq
                  go_wp2_with fail
                  with_reducible refine (HGQ.out).mono ?_
                  rintro e w21 ⟨rfl, hx21⟩
                  have HX21 := hid (HX20.out.trans hx21)
                  have HR21 := hid (hx21)
                  have g21 := hx21.cell g20
                  clear hx21 g20
                  obtain rfl : mb = false := by rw [HM.out]; rfl
                  have HWn21 := hid (own_ext HW.out HR21.out)
                  have HXn21 := hid (cellsP_ext (fun _ h => h) HX20.out HXS.out HR21.out)
                  have HPQ := hid (law09_plain (S := Old w) _ q w21 (HQ0.out.ext HX21.out (fun _ h => h)) (lt_ext (fun _ h => h) HX21.out) HFQT.out)
                  go_wp2_with fail
                  with_reducible refine HPQ.out.mono ?_
                  rintro e w22 ⟨v22, rfl, hp22, hx22⟩
                  have HX22 := hid (HX21.out.trans hx22)
                  have HW22 := hid (own_ext HWn21.out hx22)
                  have HXS22 := hid (cellsP_ext (fun _ h => h) HX21.out HXn21.out hx22)
                  have HP22 := hid (rts_off (fun _ h => h) HX21.out HWn21.out hx22 hp22)
                  obtain ⟨a22, c22, rfl⟩ := hp22.form
                  obtain ⟨n22, hn22⟩ : ∃ n, n = (plainP q).length := ⟨_, rfl⟩
                  rw [← hn22] at HP22 ⊢
                  clear hx22 hp22 hn22
                  go_wp2_with (at_builtin; refine wpList_append_new _ rfl (.tmp 56) (.tmp 62) 29 rfl w.heap.size 36 (.slice none 0 0) 1 24 Tryz.underlying29 Tryz.infoP rfl (by decide) _ k xs rfl HW22.out #[.slice a22 n22 c22] rfl (one_cell rfl) rfl (by omega) (by decide) HX22.out.size ?_; intro v3 w3 hown hg hbk; have HW3 := hid hown; have HG3 := hid hg; have HBK := hid hbk; clear hown hg hbk)
                  go_roundw
                  case rel =>
                    refine ⟨k + 1, xs ++ [.slice a22 n22 c22], false, by omega, rfl, by go_num, own_grown0 HX22.out HW22.out HG3.out, hid ?_, HW3, hid ?_, HGR1⟩
                    · rw [HTQ.out, List.all_append, ← Bool.and_assoc, ← HM.out]; simp
                    · rw [HTQ.out, List.map_append]
                      exact cellsP_grown (fun _ h => h) HX22.out (HXS22.out.snoc HP22.out) HG3.out HBK.out
                  case measure => simp only [intOf]; omega
              · obtain rfl : k = N := by omega
                have HTA : Hid (ls.take k = ls) := hid (List.take_of_length_le (by rw [← HN.out]; exact Nat.le_refl _))
                have HRL : Hid (RPs (Old w20) w20 u8 (ls.map plainP)) := hid (by
                  have hc := HXS.out
                  rw [HTA.out] at hc
                  exact own_rps (by rw [List.length_map, ← HN.out]; exact HW.out) (hc.to (Kept.refl _ _) (fun q hq => plus_lt (fun _ h => h) HX20.out q hq.1)) (fun _ _ h2 => h2))
                have HA20 := HRL
                have HSM : Hid (smallL ls) := hid (fun q hq t ht => by
                  have h1 := HGR.out q (by rw [HTA.out]; exact hq)
                  exact Nat.le_trans ((great_fit (n := 8) h1).2 t ht).1 (by decide))
                obtain rfl : mb = false := by rw [HM.out]; rfl
                have CB := build_no (x := x) HL20.out HSM.out (by rw [← HN.out]; omega) (fun g => hin g.1)
                unfold ErrPoly at CB
                have HCB := hid CB
                clear CB
                go_wp2_with fail
                with_reducible refine (HCB.out).mono ?_
                rintro e w21 ⟨rfl, hx21⟩
                have HX21 := hid (HX20.out.trans hx21)
                have HP21 := hid (Terms.on HP20.out hx21)
                have HL21 := hid (Polys.on HL20.out hx21)
                clear hx21
                go_wp2_with fail
                with_reducible refine (HCF.out _ _ HP21.out).mono ?_
                rintro e w22 ⟨v22, rfl, hp22, hx22⟩
                have HX22 := hid (HX21.out.trans hx22)
                have HP22 := hid (Terms.on HP21.out hx22)
                have HG22 := hid (hp22.to (S' := Old w22) (Kept.refl _ _) New.lt)
                have hle22 := hp22.len_le
                obtain ⟨a22, c22, rfl⟩ := hp22.form
                obtain ⟨ng, hng⟩ : ∃ n, n = (cs.map ofP).length := ⟨_, rfl⟩
                rw [← hng] at HG22 hle22 ⊢
                have Hng := hid hng
                clear hng
                clear hx22 hp22
                obtain ⟨nw, hnw⟩ : ∃ n, n = cs.length := ⟨_, rfl⟩
                have Hnw := hid hnw
                have hnw0 : nw = 0 := by rw [hnw, HCN.out hin]; rfl
                clear hnw
                have HQ22 : Hid (RPs (Old w22) w22 (.slice none nw 0) cs) := hid (by rw [HCN.out hin, hnw0]; exact RPs.nilv _ _ _ _ (by omega))
                have HNW0 := hid hnw0
                obtain rfl : nw = ng := by rw [Hnw.out, Hng.out, List.length_map]
                subst hnw0
                go_wp2
                go_loopw [131] (fun i wr => ∃ k : Nat, k ≤ 0 ∧ i = .int .i64 (k : Nat) ∧ Ext w22 wr) (fun i _ => 0 - (intOf i).toNat)
                case atStart => exact ⟨0, Nat.zero_le _, rfl, Ext.refl _⟩
                case round =>
                  obtain ⟨j, hj, rfl, hx40⟩ := hrel
                  obtain ⟨w40, rfl⟩ : ∃ W, W = wr := ⟨_, rfl⟩
                  have HX40 := hid (HX22.out.trans hx40)
                  have HR40 := hid hx40
                  clear hx40
                  by_cases hlj : j < 0
                  · exact absurd hlj (Nat.not_lt_zero _)
                  · obtain rfl : j = 0 := by omega
                    go_wp2_with fail
                    with_reducible refine (law09_known w40).mono ?_
                    rintro e w41 ⟨rfl, hx41⟩
                    have HX41 := hid (HX40.out.trans hx41)
                    clear hx41
                    go_wp2
                    all_goals
                      go_ret
                      exact ⟨rfl, HX41.out⟩
end Go.Proofs.YthplgldclilccaaGreat

namespace Go.Proofs.YthplgldclilccaaGreat
open Go.RowKit Go.Deep Go.ChangeShapes Go.WideShapes Go.ChangeAt

set_option maxRecDepth 100000 in
theorem int_arg {H : Type} {enc : TypeId × Value → H} {W : World} {base b0 : Nat} {sp : Nat → Bool} {held : Bool} {fuel : Nat} {v : Value} {x : DataW H × List MemPlace} (hv : Value.okWide Tryz.prog W .any base 3 v) (h : DataW.trod enc Tryz.prog W b0 sp held fuel 3 v.cells.toList = some x) : ∃ n, v = .int .i64 n ∧ inI64 n := by
  obtain ⟨n, rfl⟩ := okWide_int Tryz.underlying3 hv
  obtain ⟨m, e, -, hw⟩ := DataW.trod_int Tryz.underlying3 h
  have e' : [Value.int .i64 n] = [.int .i64 m] := e
  obtain rfl : n = m := by simpa using e'
  exact ⟨n, rfl, bounds_i64 hw⟩

set_option maxRecDepth 100000 in
theorem builds_lifted (os : Os) (started : os.Started) (H : Type) (enc : TypeId × Value → H) :
    ReturnsInHanded {} Tryz.checked os 6 .any (Rows.viewBuildsSpec.pre6 enc Tryz.prog Tryz.f6 Rows.viewBuildsRow.domain false) (Rows.viewBuildsSpec.post enc Tryz.prog Tryz.f6 false true false false) := by
  refine returnsInHanded_of_change (C := Tryz.checked) Tryz.own started (by kernel_rfl) Tryz.func6
    (ChangeSpec.witness6 (enc := enc) (C := Tryz.checked) false ⟨#[], #[.slice none 0 0, .slice none 0 0, .int .i64 0], []⟩ 8 (by kernel_rfl) (by kernel_rfl) (by kernel_rfl) (by kernel_rfl)) ?_
  intro W base args ds gs before hval0 hW _ _
  have hval : ∀ (j : Nat) t v, Tryz.f6.params[j]? = some t → args[j]? = some v → Value.okWide Tryz.prog W .any base t v := hval0
  have hW' := hW
  obtain ⟨p, q, hA0, hV, _, _, _⟩ := hW'
  have hA : DataW.TrodAll enc Tryz.prog W 0 (fun _ => true) true Tryz.f6.params.toList args.toList ds p := hA0
  rw [Tryz.params6] at hA hval
  obtain ⟨v0, v1, v2, d0, d1, d2, p0, p1, p2, rfl, rfl, rfl, h0, h1, h2⟩ := trodAll_three hA
  obtain ⟨rfl, rfl⟩ := trodVars_none hV
  obtain ⟨fuel0, hf0⟩ := h0
  rw [slice_cells Tryz.underlying26 (hval 0 _ v0 rfl rfl)] at hf0
  obtain ⟨x0, hx0⟩ := open_terms hf0
  obtain ⟨fuel1, hf1⟩ := h1
  rw [slice_cells Tryz.underlying22 (hval 1 _ v1 rfl rfl)] at hf1
  obtain ⟨x1, hx1⟩ := open_polys hf1
  obtain ⟨fuel2, hf2⟩ := h2
  obtain ⟨y2, rfl, hy2⟩ := int_arg (hval 2 _ v2 rfl rfl) hf2
  refine (law_builds v0 v1 x0 x1 y2 W hx0 hx1 hy2).mono fun e W' h => ?_
  obtain ⟨rfl, hb⟩ := h
  exact ⟨_, rfl, law_post hW rfl rfl rfl (by rw [Tryz.params6]; intro t ht; simp at ht; rcases ht with rfl | rfl | rfl <;> exact ⟨by kernel_rfl, by decide +kernel⟩) hb⟩

theorem builds_holds : Rows.ViewBuildsSaid :=
  OpenClaim.holds_of_wide 6 Tryz.f6 rfl rfl rfl rfl rfl rfl rfl ⟨rfl, rfl, rfl, rfl, rfl⟩ rfl rfl rfl rfl rfl (by kernel_rfl) Tryz.func6 (by kernel_rfl)
    (of_decide_eq_true (by kernel_rfl)) (by unfold Func.isWrapper; first | (rw [if_pos (by decide +kernel)]; kernel_rfl) | (rw [if_neg (by decide +kernel)]; exact ⟨rfl, rfl⟩))
    (fun os started H enc _ => builds_lifted os started H enc)
end Go.Proofs.YthplgldclilccaaGreat
