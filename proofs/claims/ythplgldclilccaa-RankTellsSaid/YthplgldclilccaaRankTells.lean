/- RankTells walked. -/
import Derived.Test.YthplgldclilccaaKnown
import Derived.Test.YthplgldclilccaaRefPlain
import Derived.Deep.DeepCutAuto
namespace Go.Proofs.Ythplgldclilccaa
open Go.RowKit

theorem fit_T {ts : List RTerm} (h : ts.length ≤ 12 ∧ ∀ t ∈ ts, t.c.mag.length ≤ 20 ∧ t.m.length ≤ 12) : fitT ts ∧ smallT ts :=
  ⟨⟨fun t ht => Nat.le_trans (h.2 t ht).1 (by omega), Nat.le_trans h.1 (by omega)⟩, fun t ht => Nat.le_trans (h.2 t ht).1 (by omega)⟩
theorem cons_polys {w : World} {vp vq : Value} {ps qs : List RTerm} (hp : Terms (Old w) w vp ps) (hq : Terms (Old w) w vq qs) (T : TypeId) :
    Polys (Old (w.alloc (.cells #[vp, vq] T))) (w.alloc (.cells #[vp, vq] T)) (.slice (some ⟨w.heap.size, 0, none⟩) 2 2) [ps, qs] := by
  have hx : Ext w (w.alloc (.cells #[vp, vq] T)) := Ext.alloc (Ext.refl w) _
  refine ⟨w.heap.size, 0, ⟨_, 2, rfl, Nat.le_refl _, by decide, fun _ => rfl, fun _ => by show w.heap.size < (w.alloc _).heap.size; rw [size_alloc]; omega⟩, fun j p hj => ?_⟩
  have hj2 := lt_of_some hj
  simp only [List.length_cons, List.length_nil] at hj2
  match j, hj with
  | 0, hj =>
    obtain rfl : ps = p := by simpa using hj
    exact ⟨vp, cell_new _ _ _ rfl rfl, hp.on hx⟩
  | 1, hj =>
    obtain rfl : qs = p := by simpa using hj
    exact ⟨vq, cell_new _ _ _ rfl rfl, hq.on hx⟩
  | j + 2, _ => omega

theorem Polys.on {w W : World} {v : Value} {z : List (List RTerm)} (h : Polys (Old w) w v z) (hx : Ext w W) : Polys (Old W) W v z := h.to (Kept.ext hx (fun _ h => h)) (old_lt hx)

/-- a block of two that was laid ahead -/
abbrev Laid2 (W : World) (g : Nat) : Prop := W.cell? ⟨g, 0, none⟩ = some (.int .i64 0) ∧ W.cell? ⟨g, 1, none⟩ = some (.int .i64 0) ∧ W.frozen? ⟨g, 0, none⟩ = false ∧ W.frozen? ⟨g, 1, none⟩ = false
theorem laid_ext {w W : World} {g : Nat} (h : Laid2 w g) (hx : Ext w W) : Laid2 W g :=
  ⟨hx.cell h.1, hx.cell h.2.1, hx.free (lt_of_cell h.1) h.2.2.1, hx.free (lt_of_cell h.2.1) h.2.2.2⟩
theorem laid_new {w W : World} {T : TypeId} (hx : Ext (w.alloc (.cells #[.int .i64 0, .int .i64 0] T)) W) : Laid2 W w.heap.size := new2 hx
theorem laid_old {w W : World} {T : TypeId} {o : Obj} (hx : Ext ((w.alloc (.cells #[.int .i64 0, .int .i64 0] T)).alloc o) W) : Laid2 W w.heap.size := new2 ((Ext.alloc (Ext.refl _) o).trans hx)
theorem laid_set {W : World} {g g' : Nat} (h : Laid2 W g') (hne : g ≠ g') (x y : Value) : Laid2 ((W.setCell ⟨g, 0, none⟩ x).setCell ⟨g, 1, none⟩ y) g' :=
  ⟨other (other h.1 (ab hne)) (ab hne), other (other h.2.1 (ab hne)) (ab hne), free_set (free_set h.2.2.1), free_set (free_set h.2.2.2)⟩
theorem keep_far {W : World} {b o g : Nat} {x y u : Value} (h : W.cell? ⟨b, o, none⟩ = some u) (hne : g ≠ b) : ((W.setCell ⟨g, 0, none⟩ x).setCell ⟨g, 1, none⟩ y).cell? ⟨b, o, none⟩ = some u := other (other h (ab hne)) (ab hne)
theorem undrew {a W : World} (h : Ext a.drew W) : Ext a W := ((Ext.refl a).drew).trans h
theorem keep_drew {W : World} {a : Addr} {u : Value} (h : W.cell? a = some u) : W.drew.cell? a = some u := h
theorem and5 {A B C D E : Prop} (h : A ∧ B ∧ C ∧ D) (e : E) : A ∧ B ∧ C ∧ D ∧ E := ⟨h.1, h.2.1, h.2.2.1, h.2.2.2, e⟩
theorem and5s {A B C D E : Prop} (h : C ∧ D ∧ A ∧ B) (e : E) : A ∧ B ∧ C ∧ D ∧ E := ⟨h.2.2.1, h.2.2.2, h.1, h.2.1, e⟩
theorem four_ext {w W : World} {a b c d i j k l : Nat} {x y z u : Value} (s : w.cell? ⟨a, i, none⟩ = some x ∧ w.cell? ⟨b, j, none⟩ = some y ∧ w.cell? ⟨c, k, none⟩ = some z ∧ w.cell? ⟨d, l, none⟩ = some u) (h : Ext w W) :
    W.cell? ⟨a, i, none⟩ = some x ∧ W.cell? ⟨b, j, none⟩ = some y ∧ W.cell? ⟨c, k, none⟩ = some z ∧ W.cell? ⟨d, l, none⟩ = some u := ⟨h.cell s.1, h.cell s.2.1, h.cell s.2.2.1, h.cell s.2.2.2⟩
theorem laid_lt {W : World} {g : Nat} (h : Laid2 W g) : g < W.heap.size := lt_of_cell h.1
theorem done_ii {W : World} {g g' : Nat} (h : Laid2 W g) (h' : Laid2 W g') (hne : g ≠ g') (a b c d : Value) :
    (((((W.setCell ⟨g, 0, none⟩ a).setCell ⟨g, 1, none⟩ b).setCell ⟨g', 0, none⟩ c).setCell ⟨g', 1, none⟩ d).cell? ⟨g, 0, none⟩ = some a) ∧ (((((W.setCell ⟨g, 0, none⟩ a).setCell ⟨g, 1, none⟩ b).setCell ⟨g', 0, none⟩ c).setCell ⟨g', 1, none⟩ d).cell? ⟨g, 1, none⟩ = some b) ∧
    (((((W.setCell ⟨g, 0, none⟩ a).setCell ⟨g, 1, none⟩ b).setCell ⟨g', 0, none⟩ c).setCell ⟨g', 1, none⟩ d).cell? ⟨g', 0, none⟩ = some c) ∧ (((((W.setCell ⟨g, 0, none⟩ a).setCell ⟨g, 1, none⟩ b).setCell ⟨g', 0, none⟩ c).setCell ⟨g', 1, none⟩ d).cell? ⟨g', 1, none⟩ = some d) := by
  have h1 := two_set a b h.1 h.2.1
  have h2 := laid_set h' hne a b
  have h3 := two_set c d h2.1 h2.2.1
  exact ⟨other (other h1.1 (ab hne.symm)) (ab hne.symm), other (other h1.2 (ab hne.symm)) (ab hne.symm), h3.1, h3.2⟩
theorem done_iv {W : World} {g' : Nat} {T : TypeId} (h' : Laid2 W g') (a b c d : Value) :
    ((((W.alloc (.cells #[a, b] T)).setCell ⟨g', 0, none⟩ c).setCell ⟨g', 1, none⟩ d).cell? ⟨W.heap.size, 0, none⟩ = some a) ∧ ((((W.alloc (.cells #[a, b] T)).setCell ⟨g', 0, none⟩ c).setCell ⟨g', 1, none⟩ d).cell? ⟨W.heap.size, 1, none⟩ = some b) ∧
    ((((W.alloc (.cells #[a, b] T)).setCell ⟨g', 0, none⟩ c).setCell ⟨g', 1, none⟩ d).cell? ⟨g', 0, none⟩ = some c) ∧ ((((W.alloc (.cells #[a, b] T)).setCell ⟨g', 0, none⟩ c).setCell ⟨g', 1, none⟩ d).cell? ⟨g', 1, none⟩ = some d) := by
  have hne : g' ≠ W.heap.size := Nat.ne_of_lt (laid_lt h')
  have h2 := laid_ext h' (Ext.alloc (Ext.refl W) (.cells #[a, b] T))
  have h3 := two_set c d h2.1 h2.2.1
  exact ⟨other (other (cell_new _ _ _ rfl rfl) (ab hne)) (ab hne), other (other (cell_new _ _ _ rfl rfl) (ab hne)) (ab hne), h3.1, h3.2⟩
theorem done_i {W : World} {T : TypeId} (a b c d : Value) :
    (((W.alloc (.cells #[a, b] T)).alloc (.cells #[c, d] T)).cell? ⟨W.heap.size, 0, none⟩ = some a) ∧ (((W.alloc (.cells #[a, b] T)).alloc (.cells #[c, d] T)).cell? ⟨W.heap.size, 1, none⟩ = some b) ∧
    (((W.alloc (.cells #[a, b] T)).alloc (.cells #[c, d] T)).cell? ⟨W.heap.size + 1, 0, none⟩ = some c) ∧ (((W.alloc (.cells #[a, b] T)).alloc (.cells #[c, d] T)).cell? ⟨W.heap.size + 1, 1, none⟩ = some d) :=
  ⟨cell_old _ (cell_new _ _ _ rfl rfl), cell_old _ (cell_new _ _ _ rfl rfl), cell_new _ _ _ (by rw [size_alloc]) rfl, cell_new _ _ _ (by rw [size_alloc]) rfl⟩
theorem laid_fresh (W : World) (T : TypeId) : Laid2 (W.alloc (.cells #[.int .i64 0, .int .i64 0] T)) W.heap.size := new2 (Ext.refl _)
theorem laid_two {w W : World} {T : TypeId} {o : Obj} (hx : Ext ((w.alloc o).alloc (.cells #[.int .i64 0, .int .i64 0] T)) W) : Laid2 W (w.heap.size + 1) := by
  have h := new2 hx
  rw [size_alloc] at h
  exact h

set_option maxRecDepth 100000 in
set_option maxHeartbeats 8000000 in
theorem law_tells (vp vq vl : Value) (ps qs : List RTerm) (ls : List (List RTerm)) (w : World) (hp : Terms (Old w) w vp ps) (hq : Terms (Old w) w vq qs) (hl : Polys (Old w) w vl ls) :
    Calls Try.prog 3 #[vp, vq, vl] w fun e w' => e = .returned (.bool true) ∧ Ext w w' := by
  have hnot : ∀ (x : Bool) (w : World), (Op.unary .not (.bool x)).run Try.prog w = .ok (.bool (!x)) w := fun _ _ => rfl
  have HP := hid hp
  have HQ := hid hq
  have HL := hid hl
  obtain ⟨ap, cp, rfl⟩ := hp.form
  obtain ⟨aq, cq, rfl⟩ := hq.form
  obtain ⟨al, cl, rfl⟩ := hl.form
  have hlp := hp.len_le
  have hlq := hq.len_le
  have hll := hl.len_le
  obtain ⟨np, hnp⟩ : ∃ n, n = ps.length := ⟨_, rfl⟩
  obtain ⟨nq, hnq⟩ : ∃ n, n = qs.length := ⟨_, rfl⟩
  obtain ⟨nl, hnl⟩ : ∃ n, n = ls.length := ⟨_, rfl⟩
  rw [← hnp] at HP ⊢
  rw [← hnq] at HQ ⊢
  rw [← hnl] at HL ⊢
  have HK := hid (Ext.alloc (Ext.refl w) (.cells #[.slice ap np cp, .slice aq nq cq] 23))
  have CG := law15_great (S := Old _) _ [ps, qs] (w.alloc (.cells #[.slice ap np cp, .slice aq nq cq] 23)) (cons_polys HP.out HQ.out _) (fun _ h => h)
  clear hp hq hl hlp hlq hll hnp hnq hnl
  cases hg : greatL [ps, qs] with
  | true =>
    rw [hg] at CG
    have HCG := hid CG
    clear CG hg
    go_enter Try.func3, Try.ntmps3
    go_wp2_with fail
    refine HCG.out.mono ?_
    rintro e w1 ⟨rfl, hx1⟩
    have HX1 := hid (HK.out.trans hx1)
    clear hx1
    go_wp2_with fail
    refine (law15_known w1).mono ?_
    rintro e w2 ⟨rfl, hx2⟩
    have HX2 := hid (HX1.out.trans hx2)
    clear hx2
    go_wp2
    all_goals
      go_ret
      exact ⟨rfl, HX2.out⟩
  | false =>
    rw [hg] at CG
    have HCG := hid CG
    have HFIT := hid (fit_of hg)
    clear CG hg
    cases hg2 : greatL ls with
    | true =>
      have HG2 := hid hg2
      clear hg2
      go_enter Try.func3, Try.ntmps3
      go_wp2_with fail
      refine HCG.out.mono ?_
      rintro e w1 ⟨rfl, hx1⟩
      have HX1 := hid (HK.out.trans hx1)
      have CL := law15_great (S := Old w1) _ ls w1 (HL.out.on HX1.out) (fun _ h => h)
      rw [HG2.out] at CL
      have HCL := hid CL
      clear hx1 CL
      go_wp2_with fail
      refine HCL.out.mono ?_
      rintro e w2 ⟨rfl, hx2⟩
      have HX2 := hid (HX1.out.trans hx2)
      clear hx2
      go_wp2_with fail
      refine (law15_known w2).mono ?_
      rintro e w3 ⟨rfl, hx3⟩
      have HX3 := hid (HX2.out.trans hx3)
      clear hx3
      go_wp2
      all_goals
        go_ret
        exact ⟨rfl, HX3.out⟩
    | false =>
      have HG2 := hid hg2
      have HFIT2 := hid (fit_of hg2)
      have HFP := hid (fit_T (HFIT.out.2 ps (by simp)))
      have HFQ := hid (fit_T (HFIT.out.2 qs (by simp)))
      clear hg2
      go_enter Try.func3, Try.ntmps3
      go_wp2_with fail
      refine HCG.out.mono ?_
      rintro e w1 ⟨rfl, hx1⟩
      have HX1 := hid (HK.out.trans hx1)
      have CL := law15_great (S := Old w1) _ ls w1 (HL.out.on HX1.out) (fun _ h => h)
      rw [HG2.out] at CL
      have HCL := hid CL
      clear hx1 CL
      go_wp2_with fail
      refine HCL.out.mono ?_
      rintro e w2 ⟨rfl, hx2⟩
      have HX2 := hid (HX1.out.trans hx2)
      have HK2 := hid (Ext.alloc (Ext.refl w2) (.cells #[.slice ap np cp, .slice aq nq cq] 23))
      have CPL := hid (law15_plain (S := Old _) _ [ps, qs] (w2.alloc (.cells #[.slice ap np cp, .slice aq nq cq] 23)) (cons_polys (HP.out.on HX2.out) (HQ.out.on HX2.out) _) (fun _ h => h) (fun ts hts => by
        simp at hts
        rcases hts with rfl | rfl
        · exact HFP.out.1
        · exact HFQ.out.1) (by simp))
      clear hx2
      go_wp2_with fail
      refine CPL.out.mono ?_
      rintro e w3 ⟨v3, rfl, hp3, hx3⟩
      have HX3 : Hid (Ext w w3) := hid (HX2.out.trans (HK2.out.trans hx3))
      have HP3 : Hid (RPs (Old w3) w3 v3 [plainP ps, plainP qs]) := hid (hp3.to (Kept.refl _ _) (plus_lt (fun _ h => h) hx3))
      clear hx3 hp3
      obtain ⟨a3, c3, rfl⟩ := HP3.out.form
      obtain ⟨b3, o3, v0, rfl, -, hn3, hm3, -, h30, HT0⟩ := HP3.out.cellAt (k := 0) rfl
      obtain ⟨b3', o3', v1, hb3, -, -, -, -, h31, HT1⟩ := HP3.out.cellAt (k := 1) rfl
      obtain ⟨rfl, rfl⟩ : b3 = b3' ∧ o3 = o3' := by simpa using hb3
      rw [Nat.add_zero] at h30
      have HTA := hid HT0
      have HTB := hid HT1
      obtain ⟨aa, ca, rfl⟩ := HT0.form
      obtain ⟨ab, cb, rfl⟩ := HT1.form
      obtain ⟨na, hna⟩ : ∃ n, n = (plainP ps).length := ⟨_, rfl⟩
      obtain ⟨nb, hnb⟩ : ∃ n, n = (plainP qs).length := ⟨_, rfl⟩
      rw [← hna] at h30 HTA
      rw [← hnb] at h31 HTB
      have HC3 := hid (And.intro h30 h31)
      clear hb3 HT0 HT1 hna hnb
      have x0 : Ext w3 w3.drew := (Ext.refl w3).drew
      have S0 : _ ∧ _ := And.intro (x0.cell HC3.out.1) (x0.cell HC3.out.2)
      obtain ⟨ra, hra⟩ : ∃ r, r = rankP (plainP ps) := ⟨_, rfl⟩
      obtain ⟨rb, hrb⟩ : ∃ r, r = rankP (plainP qs) := ⟨_, rfl⟩
      have CA := fun (W : World) (hW : Ext w3 W) => rrank_of _ (plainP ps) W (HTA.out.on hW) (plainP_can ps)
      have CB := fun (W : World) (hW : Ext w3 W) => rrank_of _ (plainP qs) W (HTB.out.on hW) (plainP_can qs)
      rw [← hra] at CA
      rw [← hrb] at CB
      unfold RankV at CA CB
      have HRA := hid hra
      have HRB := hid hrb
      have HCA := hid CA
      have HCB := hid CB
      clear CA CB hra hrb
      have hb3 : w3.heap.size ≠ b3 ∧ w3.heap.size + 1 ≠ b3 := by have := lt_of_cell HC3.out.1; omega
      obtain ⟨hb31, hb32⟩ := hb3
      go_upto_region 4 with fail
      go_cut [8, 9] (fun s8 s9 wx => ∃ g1 g2 : Nat, s8 = .pointer (some ⟨g1, 0, none⟩) ∧ s9 = .pointer (some ⟨g2, 0, none⟩) ∧ wx.cell? ⟨g1, 0, none⟩ = some (.int .i64 ra.1) ∧ wx.cell? ⟨g1, 1, none⟩ = some (.int .i64 ra.2) ∧ wx.cell? ⟨g2, 0, none⟩ = some (.int .i64 rb.1) ∧ wx.cell? ⟨g2, 1, none⟩ = some (.int .i64 rb.2) ∧ Ext w3 wx)
      case first =>
        go_region_held3 (fun W => W.cell? ⟨b3, o3, none⟩ = some (.slice aa na ca) ∧ W.cell? ⟨b3, o3 + 1, none⟩ = some (.slice ab nb cb)) (first | (with_reducible exact S0) | (with_reducible exact S1) | (with_reducible exact S2) | (refine And.intro ?_ ?_ <;> repeat (first | (with_reducible exact S2.1) | (with_reducible exact S2.2) | (with_reducible exact S1.1) | (with_reducible exact S1.2) | (with_reducible exact S0.1) | (with_reducible exact S0.2) | (with_reducible refine cell_old _ ?_) | (with_reducible assumption) | (with_reducible exact HC3.out.1) | (with_reducible exact HC3.out.2) | (with_reducible refine keep_far ?_ ?_) | (with_reducible refine keep_drew ?_))))
          (first
            | (go_at_call_of 11 (Value.slice aa na ca); refine (HCA.out _ ?_).mono ?_; · (first | exact x0 | exact ((Ext.refl w3).alloc _).drew | exact (((Ext.refl w3).alloc _).alloc _).drew)
               rintro e w4 ⟨rfl, hx4⟩; have x1 : Ext w3 w4 := Ext.trans (by first | exact x0 | exact ((Ext.refl w3).alloc _).drew | exact (((Ext.refl w3).alloc _).alloc _).drew) hx4; have S1 : _ ∧ _ := And.intro (x1.cell HC3.out.1) (x1.cell HC3.out.2); have hb4 : w4.heap.size ≠ b3 := Nat.ne_of_gt (lt_of_cell S1.1); have hb41 : w4.heap.size + 1 ≠ b3 := Nat.ne_of_gt (Nat.lt_succ_of_lt (lt_of_cell S1.1))
               (try (have M1 : Laid2 w4 w3.heap.size := laid_old (undrew hx4))); (try (have M1 : Laid2 w4 w3.heap.size := laid_new (undrew hx4))); (try (have M2 : Laid2 w4 (w3.heap.size + 1) := laid_two (w := w3) (undrew hx4))))
            | (go_at_call_of 11 (Value.slice ab nb cb); refine (HCB.out _ ?_).mono ?_; · (first | exact x1 | exact x1.alloc _ | exact (x1.alloc _).alloc _)
               rintro e w5 ⟨rfl, hx5⟩; have x2 : Ext w3 w5 := Ext.trans (by first | exact x1 | exact x1.alloc _ | exact (x1.alloc _).alloc _) hx5; have S2 : _ ∧ _ := And.intro (x2.cell HC3.out.1) (x2.cell HC3.out.2); have hb5 : w5.heap.size ≠ b3 := Nat.ne_of_gt (lt_of_cell S2.1); have hb51 : w5.heap.size + 1 ≠ b3 := Nat.ne_of_gt (Nat.lt_succ_of_lt (lt_of_cell S2.1))
               have x45 : Ext w4 w5 := (by first | exact hx5 | exact (Ext.alloc (Ext.refl w4) _).trans hx5 | exact (Ext.alloc (Ext.alloc (Ext.refl w4) _) _).trans hx5)
               (try (have N1 := hid (laid_ext M1 x45); obtain ⟨n11, n12, n13, n14⟩ := N1.out)); (try (have N2 := hid (laid_ext M2 x45); obtain ⟨n21, n22, n23, n24⟩ := N2.out)); (try (have N3 : Hid (Laid2 w5 w4.heap.size) := laid_old hx5; obtain ⟨n31, n32, n33, n34⟩ := N3.out)); (try (have N3 : Hid (Laid2 w5 w4.heap.size) := laid_new hx5; obtain ⟨n31, n32, n33, n34⟩ := N3.out)); (try (have N4 : Hid (Laid2 w5 (w4.heap.size + 1)) := laid_two (w := w4) hx5; obtain ⟨n41, n42, n43, n44⟩ := N4.out))
               (try (have hnea := Nat.ne_of_lt (Nat.lt_succ_self w3.heap.size); have q1a := laid_set N2.out hnea (.int .i64 ra.1) (.int .i64 ra.2); have q2a := laid_set N1.out hnea.symm (.int .i64 ra.1) (.int .i64 ra.2); obtain ⟨p1a, p2a, p3a, p4a⟩ := q1a; obtain ⟨r1a, r2a, r3a, r4a⟩ := q2a; clear hnea))
               (try (have hneb := Nat.ne_of_lt (laid_lt M1); have q1b := laid_set N3.out hneb (.int .i64 ra.1) (.int .i64 ra.2); have q2b := laid_set N1.out hneb.symm (.int .i64 ra.1) (.int .i64 ra.2); obtain ⟨p1b, p2b, p3b, p4b⟩ := q1b; obtain ⟨r1b, r2b, r3b, r4b⟩ := q2b; clear hneb))
               (try (have hnec := Nat.ne_of_lt (Nat.lt_succ_self w4.heap.size); have q1c := laid_set N4.out hnec (.int .i64 ra.1) (.int .i64 ra.2); have q2c := laid_set N3.out hnec.symm (.int .i64 ra.1) (.int .i64 ra.2); obtain ⟨p1c, p2c, p3c, p4c⟩ := q1c; obtain ⟨r1c, r2c, r3c, r4c⟩ := q2c; clear hnec))
               (try (have q1 := laid_ext N1.out (Ext.alloc (Ext.refl w5) (.cells #[.int .i64 0, .int .i64 0] 30)); have q2 := laid_ext N1.out (Ext.alloc (Ext.refl w5) (.cells #[.int .i64 ra.1, .int .i64 ra.2] 30)); have q3 := laid_set (laid_fresh w5 30) (Nat.ne_of_lt (laid_lt N1.out)) (.int .i64 ra.1) (.int .i64 ra.2); obtain ⟨v11, v21, v31, v41⟩ := q1; obtain ⟨x11, x21, x31, x41⟩ := q2; obtain ⟨y11, y21, y31, y41⟩ := q3))
               (try (have q1 := laid_ext N3.out (Ext.alloc (Ext.refl w5) (.cells #[.int .i64 0, .int .i64 0] 30)); have q2 := laid_ext N3.out (Ext.alloc (Ext.refl w5) (.cells #[.int .i64 ra.1, .int .i64 ra.2] 30)); have q3 := laid_set (laid_fresh w5 30) (Nat.ne_of_lt (laid_lt N3.out)) (.int .i64 ra.1) (.int .i64 ra.2); obtain ⟨v13, v23, v33, v43⟩ := q1; obtain ⟨x13, x23, x33, x43⟩ := q2; obtain ⟨y13, y23, y33, y43⟩ := q3))))
        all_goals
          go_wp2_with fail
          go_meet
          refine ⟨_, _, rfl, rfl, ?_⟩
          first
            | (with_reducible exact and5 (done_i _ _ _ _) ((x2.alloc _).alloc _))
            | (with_reducible exact and5s (done_i _ _ _ _) ((x2.alloc _).alloc _))
            | (with_reducible exact and5 (done_ii N1.out N2.out (Nat.ne_of_lt (Nat.lt_succ_self _)) _ _ _ _) ((x2.set2 (by first | exact Nat.le_refl _ | exact Nat.le_succ _ | exact x1.size | exact Nat.le_succ_of_le x1.size | exact x2.size) _ _).set2 (by first | exact Nat.le_refl _ | exact Nat.le_succ _ | exact x1.size | exact Nat.le_succ_of_le x1.size | exact x2.size) _ _))
            | (with_reducible exact and5 (done_ii N2.out N1.out (Nat.ne_of_lt (Nat.lt_succ_self _)).symm _ _ _ _) ((x2.set2 (by first | exact Nat.le_refl _ | exact Nat.le_succ _ | exact x1.size | exact Nat.le_succ_of_le x1.size | exact x2.size) _ _).set2 (by first | exact Nat.le_refl _ | exact Nat.le_succ _ | exact x1.size | exact Nat.le_succ_of_le x1.size | exact x2.size) _ _))
            | (with_reducible exact and5 (done_ii N1.out N3.out (Nat.ne_of_lt (laid_lt M1)) _ _ _ _) ((x2.set2 (by first | exact Nat.le_refl _ | exact Nat.le_succ _ | exact x1.size | exact Nat.le_succ_of_le x1.size | exact x2.size) _ _).set2 (by first | exact Nat.le_refl _ | exact Nat.le_succ _ | exact x1.size | exact Nat.le_succ_of_le x1.size | exact x2.size) _ _))
            | (with_reducible exact and5 (done_ii N3.out N1.out (Nat.ne_of_lt (laid_lt M1)).symm _ _ _ _) ((x2.set2 (by first | exact Nat.le_refl _ | exact Nat.le_succ _ | exact x1.size | exact Nat.le_succ_of_le x1.size | exact x2.size) _ _).set2 (by first | exact Nat.le_refl _ | exact Nat.le_succ _ | exact x1.size | exact Nat.le_succ_of_le x1.size | exact x2.size) _ _))
            | (with_reducible exact and5 (done_ii N3.out N4.out (Nat.ne_of_lt (Nat.lt_succ_self _)) _ _ _ _) ((x2.set2 (by first | exact Nat.le_refl _ | exact Nat.le_succ _ | exact x1.size | exact Nat.le_succ_of_le x1.size | exact x2.size) _ _).set2 (by first | exact Nat.le_refl _ | exact Nat.le_succ _ | exact x1.size | exact Nat.le_succ_of_le x1.size | exact x2.size) _ _))
            | (with_reducible exact and5 (done_ii N4.out N3.out (Nat.ne_of_lt (Nat.lt_succ_self _)).symm _ _ _ _) ((x2.set2 (by first | exact Nat.le_refl _ | exact Nat.le_succ _ | exact x1.size | exact Nat.le_succ_of_le x1.size | exact x2.size) _ _).set2 (by first | exact Nat.le_refl _ | exact Nat.le_succ _ | exact x1.size | exact Nat.le_succ_of_le x1.size | exact x2.size) _ _))
            | (with_reducible exact and5 (done_ii (laid_ext N1.out (Ext.alloc (Ext.refl w5) _)) (laid_fresh w5 _) (Nat.ne_of_lt (laid_lt N1.out)) _ _ _ _) (((x2.alloc _).set2 (by first | exact Nat.le_refl _ | exact Nat.le_succ _ | exact x1.size | exact Nat.le_succ_of_le x1.size | exact x2.size) _ _).set2 (by first | exact Nat.le_refl _ | exact Nat.le_succ _ | exact x1.size | exact Nat.le_succ_of_le x1.size | exact x2.size) _ _))
            | (with_reducible exact and5 (done_iv N1.out _ _ _ _) ((x2.alloc _).set2 (by first | exact Nat.le_refl _ | exact Nat.le_succ _ | exact x1.size | exact Nat.le_succ_of_le x1.size | exact x2.size) _ _))
            | (with_reducible exact and5 (done_ii (laid_ext N3.out (Ext.alloc (Ext.refl w5) _)) (laid_fresh w5 _) (Nat.ne_of_lt (laid_lt N3.out)) _ _ _ _) (((x2.alloc _).set2 (by first | exact Nat.le_refl _ | exact Nat.le_succ _ | exact x1.size | exact Nat.le_succ_of_le x1.size | exact x2.size) _ _).set2 (by first | exact Nat.le_refl _ | exact Nat.le_succ _ | exact x1.size | exact Nat.le_succ_of_le x1.size | exact x2.size) _ _))
            | (with_reducible exact and5 (done_iv N3.out _ _ _ _) ((x2.alloc _).set2 (by first | exact Nat.le_refl _ | exact Nat.le_succ _ | exact x1.size | exact Nat.le_succ_of_le x1.size | exact x2.size) _ _))
      case rest =>
        obtain ⟨g1, g2, rfl, rfl, k1, k2, k3, k4, hx⟩ := hcut
        have HXC : Hid (Ext w3 wc) := hid hx
        have HCG1 := hid (And.intro k1 (And.intro k2 (And.intro k3 k4)))
        have hia : inRank ra := by rw [HRA.out]; exact rankP_in (plainP_can ps)
        have hib : inRank rb := by rw [HRB.out]; exact rankP_in (plainP_can qs)
        have CL1 := fun W => rrank_less ra rb W hia hib
        have CL2 := fun W => rrank_less rb ra W hib hia
        unfold RankV at CL1 CL2
        have HX3W := hid HX3.out
        have K1 := fun (W : World) (hW : Ext w3 W) => rank_of (S := Old W) _ ps W (HP.out.on (HX3.out.trans hW)) (fun _ h => h) HFP.out.2
        rw [← HRA.out] at K1
        unfold RankV at K1
        have K2 := fun (W : World) (hW : Ext w3 W) => rank_compare (S := Old W) _ _ ps qs W (HP.out.on (HX3.out.trans hW)) (HQ.out.on (HX3.out.trans hW)) (fun _ h => h) HFP.out.2 HFQ.out.2
        rw [← HRA.out, ← HRB.out] at K2
        have K3 := fun (W : World) (hW : Ext w3 W) => rank_reduced (S := Old W) _ _ ps qs W (HP.out.on (HX3.out.trans hW)) (HQ.out.on (HX3.out.trans hW)) (fun _ h => h) HFP.out.2 HFQ.out.2
        have K4 := fun (W : World) (hW : Ext w3 W) => rrank_reduced _ _ (plainP ps) (plainP qs) W (HTA.out.on hW) (HTB.out.on hW) (plainP_can ps) (plainP_can qs)
        obtain ⟨rd, hrd⟩ : ∃ r, r = reducedP (plainP ps) (plainP qs) := ⟨_, rfl⟩
        rw [← hrd] at K3 K4
        have K5 := fun (W : World) (hW : Ext w3 W) => rank_by (S := Old W) _ _ ps ls W (HP.out.on (HX3.out.trans hW)) (HL.out.on (HX3.out.trans hW)) (fun _ h => h) HFP.out.2 (fun p hp => (fit_T (HFIT2.out.2 p hp)).2)
        have K6 := fun (W : World) (hW : Ext w3 W) => law15_plain (S := Old W) _ ls W (HL.out.on (HX3.out.trans hW)) (fun _ h => h) (fun p hp => (fit_T (HFIT2.out.2 p hp)).1) (Nat.le_trans HFIT2.out.1 (by omega))
        have K7 := fun (W : World) (hW : Ext w3 W) (v : Value) (hv : RPs (Old W) W v (ls.map plainP)) => rrank_by _ v (plainP ps) (ls.map plainP) W (HTA.out.on hW) hv (plainP_can ps) (fun q hq => by
          obtain ⟨t, _, rfl⟩ := List.mem_map.1 hq
          exact plainP_can t)
        have e7 : ((ls.map plainP).all fun q => reducedP (plainP ps) q) = byP (plainP ps) ls := by unfold byP; rw [List.all_map]; rfl
        rw [e7] at K7
        obtain ⟨rby, hrby⟩ : ∃ r, r = byP (plainP ps) ls := ⟨_, rfl⟩
        rw [← hrby] at K5 K7
        have hcs : (lessR ra rb = true ∧ lessR rb ra = false ∧ orderR ra rb = -1) ∨ (lessR ra rb = false ∧ lessR rb ra = true ∧ orderR ra rb = 1) ∨ (lessR ra rb = false ∧ lessR rb ra = false ∧ orderR ra rb = 0) := by
          have h1 := orderR_eq ra rb
          have h2 : ¬ (lessR ra rb = true ∧ lessR rb ra = true) := by
            unfold lessR
            simp only [decide_eq_true_eq]
            omega
          cases hA : lessR ra rb <;> cases hB : lessR rb ra <;> simp [hA, hB] at h1 h2 ⊢ <;> exact h1
        have HK1 := hid K1
        have HK3 := hid K3
        have HK4 := hid K4
        have HK5 := hid K5
        have HK6 := hid K6
        have HK7 := hid K7
        have HCS3 := hid (And.intro (HXC.out.cell HC3.out.1) (HXC.out.cell HC3.out.2))
        clear K1 K3 K4 K5 K6 K7 e7 hrd hrby hia hib hx k3 k4
        rcases hcs with ⟨l1, l2, l3⟩ | ⟨l1, l2, l3⟩ | ⟨l1, l2, l3⟩
        all_goals
          rw [l1] at CL1
          rw [l2] at CL2
          rw [l3] at K2
          have HK2 := hid K2
          have HL1 := hid CL1
          have HL2 := hid CL2
          clear CL1 CL2 K2 l1 l2 l3
          obtain ⟨k1, k2, k3, k4⟩ := HCG1.out
          go_wp2_with fail
          refine (HL1.out wc).mono ?_
          rintro e wd ⟨rfl, hxd⟩
          have HXD := hid (HXC.out.trans hxd)
          have HCD := hid hxd
          have d1 := hxd.cell k1
          have d2 := hxd.cell k2
          have d3 := hxd.cell k3
          have d4 := hxd.cell k4
          clear hxd k1 k2 k3 k4
          go_wp2_with fail
          refine (HL2.out wd).mono ?_
          rintro e we ⟨rfl, hxe⟩
          have y0 : Ext w3 we.drew := (HXD.out.trans hxe).drew
          have hde := HCD.out.trans hxe
          have e1 := hxe.cell d1
          have e2 := hxe.cell d2
          have T0 : _ ∧ _ ∧ _ ∧ _ := And.intro (keep_drew e1) (And.intro (keep_drew e2) (And.intro (keep_drew (hde.cell HCS3.out.1)) (keep_drew (hde.cell HCS3.out.2))))
          clear hxe hde d1 d2 d3 d4 e1 e2
          go_wp2
          go_region_held3 (fun W => W.cell? ⟨g1, 0, none⟩ = some (.int .i64 ra.1) ∧ W.cell? ⟨g1, 1, none⟩ = some (.int .i64 ra.2) ∧ W.cell? ⟨b3, o3, none⟩ = some (.slice aa na ca) ∧ W.cell? ⟨b3, o3 + 1, none⟩ = some (.slice ab nb cb)) (first | exact T0 | exact T1 | exact T2 | exact T3 | exact T4 | exact T5 | exact T6 | exact T7 | exact T8)
            (first
              | (go_at_call 13; (with_reducible refine (HK1.out _ y0).mono ?_); rintro e z1 ⟨rfl, h1⟩; have y1 := y0.trans h1; have T1 := four_ext T0 h1)
              | (go_at_call 14; (with_reducible refine (HK2.out _ y1).mono ?_); rintro e z2 ⟨rfl, h2⟩; have y2 := y1.trans h2; have T2 := four_ext T1 h2)
              | (go_at_call 15; (with_reducible refine (HK3.out _ y2).mono ?_); rintro e z3 ⟨rfl, h3⟩; have y3 := y2.trans h3; have T3 := four_ext T2 h3)
              | (go_at_call 16; (with_reducible refine (HK4.out _ y3).mono ?_); rintro e z4 ⟨rfl, h4⟩; have y4 := y3.trans h4; have T4 := four_ext T3 h4)
              | (go_at_call 17; (with_reducible refine (HK5.out _ y4).mono ?_); rintro e z5 ⟨rfl, h5⟩; have y5 := y4.trans h5; have T5 := four_ext T4 h5)
              | (go_at_call 10; (with_reducible refine (HK6.out _ y5).mono ?_); rintro e z6 ⟨v6, rfl, hp6, h6⟩; have y6 := y5.trans h6; have T6 := four_ext T5 h6; have HB6 := hid (HK7.out _ y6 v6 (hp6.to (Kept.refl _ _) (plus_lt (fun _ h => h) h6))))
              | (go_at_call 18; (with_reducible refine HB6.out.mono ?_); rintro e z7 ⟨rfl, h7⟩; have y7 := y6.trans h7; have T7 := four_ext T6 h7)
              | (go_at_call 9; (with_reducible refine (law15_known _).mono ?_); rintro e z8 ⟨rfl, h8⟩; have y8 := y7.trans h8; have T8 := four_ext T7 h8))
          go_wp2
          go_ret
          exact ⟨rfl, HX3W.out.trans y8⟩
end Go.Proofs.Ythplgldclilccaa
