/- A polynomial's first term, class and degree. -/
import Derived.Test.YthplgldclilccaaAppend
import Derived.Test.YthplgldclilccaaRankPlain
namespace Go.Proofs.Ythplgldclilccaa
open Go.RowKit

/-- a term by value -/
def TermV (S : Nat → Prop) (w : World) (v : Value) (t : RTerm) : Prop := ∃ vm vo, v = .agg #[.bool t.c.neg, vm, vo] ∧ U32s S w vm t.c.mag ∧ Pows S w vo t.m
theorem TermV.to {S S' : Nat → Prop} {w w' : World} {v : Value} {r : RTerm} (h : TermV S w v r) (hk : Kept S w w') (hS : ∀ k, S k → S' k) : TermV S' w' v r := by
  obtain ⟨vm, vo, h1, h2, h3⟩ := h
  exact ⟨vm, vo, h1, h2.to hk hS, h3.to hk hS⟩
theorem TermV.ext {S : Nat → Prop} {w W : World} {v : Value} {r : RTerm} (h : TermV S w v r) (hx : Ext w W) (hS : ∀ k, S k → k < w.heap.size) : TermV S W v r := h.to (Kept.ext hx hS) (fun _ h => h)
/-- what is new stays new -/
theorem New.kept {a w W : World} (hx : Ext w W) : Kept (New a w) w W := Kept.ext hx (fun _ h => h.2)
theorem New.grow {a w W : World} (hx : Ext w W) : ∀ k, New a w k → New a W k := fun _ h => ⟨h.1, Nat.lt_of_lt_of_le h.2 hx.size⟩

theorem three_set {w : World} {b : Nat} {u0 u1 u2 : Value} (x y z : Value) (c0 : w.cell? ⟨b, 0, none⟩ = some u0) (c1 : w.cell? ⟨b, 1, none⟩ = some u1) (c2 : w.cell? ⟨b, 2, none⟩ = some u2) :
    (((w.setCell ⟨b, 0, none⟩ x).setCell ⟨b, 1, none⟩ y).setCell ⟨b, 2, none⟩ z).cell? ⟨b, 0, none⟩ = some x ∧ (((w.setCell ⟨b, 0, none⟩ x).setCell ⟨b, 1, none⟩ y).setCell ⟨b, 2, none⟩ z).cell? ⟨b, 1, none⟩ = some y ∧
    (((w.setCell ⟨b, 0, none⟩ x).setCell ⟨b, 1, none⟩ y).setCell ⟨b, 2, none⟩ z).cell? ⟨b, 2, none⟩ = some z :=
  ⟨other (other (same_of c0) (ao (by decide))) (ao (by decide)), other (same_of (other c1 (ao (by decide)))) (ao (by decide)), same_of (other (other c2 (ao (by decide))) (ao (by decide)))⟩
theorem Ext.set3 {a w : World} (h : Ext a w) {b : Nat} (hb : a.heap.size ≤ b) (x y z : Value) : Ext a (((w.setCell ⟨b, 0, none⟩ x).setCell ⟨b, 1, none⟩ y).setCell ⟨b, 2, none⟩ z) :=
  (h.set2 hb x y).setCell (p := ⟨b, 2, none⟩) hb z
theorem Kept.set3 {S : Nat → Prop} {w : World} {b : Nat} (h : ¬ S b) (x y z : Value) : Kept S w (((w.setCell ⟨b, 0, none⟩ x).setCell ⟨b, 1, none⟩ y).setCell ⟨b, 2, none⟩ z) :=
  (Kept.set2 h x y).trans (Kept.setCell (a := ⟨b, 2, none⟩) h z)
theorem size_set3 {w : World} {b : Nat} (x y z : Value) : (((w.setCell ⟨b, 0, none⟩ x).setCell ⟨b, 1, none⟩ y).setCell ⟨b, 2, none⟩ z).heap.size = w.heap.size := by rw [size_setCell, size_set2]

theorem keep_set3 {w : World} {b c i j k : Nat} {u0 u1 u2 : Value} (h : w.cell? ⟨c, i, none⟩ = some u0 ∧ w.cell? ⟨c, j, none⟩ = some u1 ∧ w.cell? ⟨c, k, none⟩ = some u2) (hne : b ≠ c) (x y z : Value) :
    (((w.setCell ⟨b, 0, none⟩ x).setCell ⟨b, 1, none⟩ y).setCell ⟨b, 2, none⟩ z).cell? ⟨c, i, none⟩ = some u0 ∧ (((w.setCell ⟨b, 0, none⟩ x).setCell ⟨b, 1, none⟩ y).setCell ⟨b, 2, none⟩ z).cell? ⟨c, j, none⟩ = some u1 ∧
    (((w.setCell ⟨b, 0, none⟩ x).setCell ⟨b, 1, none⟩ y).setCell ⟨b, 2, none⟩ z).cell? ⟨c, k, none⟩ = some u2 :=
  ⟨other (other (other h.1 (ab hne)) (ab hne)) (ab hne), other (other (other h.2.1 (ab hne)) (ab hne)) (ab hne), other (other (other h.2.2 (ab hne)) (ab hne)) (ab hne)⟩

/-- canonical data of a term -/
def canT (t : RTerm) : RTerm := ⟨ofI (valI t.c), t.m⟩

theorem zero_int (S : Nat → Prop) (w : World) : IntV S w (.agg #[.bool false, .slice none 0 0]) ⟨false, []⟩ := ⟨_, rfl, U32s.nilv _ _ _ _ (by omega)⟩
theorem valI_zeroI : valI ⟨false, []⟩ = 0 := rfl

theorem ret_term {w0 w1 w2 : World} {b : Nat} {v : Value} {t : RTerm} (hv : TermV (New w1 w2) w2 v t) (h01 : Ext w0 w1) (h12 : Ext w1 w2) (hb0 : w0.heap.size ≤ b) (hb1 : b < w1.heap.size) (x y z : Value) :
    TermV (New w0 (((w2.setCell ⟨b, 0, none⟩ x).setCell ⟨b, 1, none⟩ y).setCell ⟨b, 2, none⟩ z)) (((w2.setCell ⟨b, 0, none⟩ x).setCell ⟨b, 1, none⟩ y).setCell ⟨b, 2, none⟩ z) v t ∧ Ext w0 (((w2.setCell ⟨b, 0, none⟩ x).setCell ⟨b, 1, none⟩ y).setCell ⟨b, 2, none⟩ z) := by
  refine ⟨hv.to (Kept.set3 (fun h => ?_) _ _ _) (fun k hk => ⟨Nat.le_trans h01.size hk.1, ?_⟩), (h01.trans h12).set3 hb0 _ _ _⟩
  · have := h.1
    omega
  · rw [size_set3]
    exact hk.2

theorem term_of {w0 w1 w2 : World} {vm vo : Value} {ng : Bool} {zs : List Nat} {m : Mono} (h1 : U32s (New w0 w1) w1 vm zs) (x2 : Ext w1 w2) (h2 : Pows (New w1 w2) w2 vo m) (x1 : Ext w0 w1) : TermV (New w0 w2) w2 (.agg #[.bool ng, vm, vo]) ⟨⟨ng, zs⟩, m⟩ :=
  ⟨_, _, rfl, h1.to (New.kept x2) (New.grow x2), h2.to (Kept.refl _ _) (New.mono x1)⟩

set_option maxRecDepth 100000 in
set_option maxHeartbeats 4000000 in
theorem poly_copied {S : Nat → Prop} (v : Value) (t : RTerm) (w : World) (h : TermV S w v t) (hS : ∀ k, S k → k < w.heap.size) (hr : t.c.mag.length ≤ 100000000000) (hm : t.m.length ≤ 1000000) :
    Calls Try.prog 86 #[v] w fun e w' => ∃ v', e = .returned v' ∧ TermV (New w w') w' v' (canT t) ∧ Ext w w' := by
  obtain ⟨⟨ng, zs⟩, m⟩ := t
  obtain ⟨vm, vo, rfl, hu, hp⟩ := h
  simp only at hu hp hr hm ⊢
  have HU := hid hu
  have HP := hid hp
  obtain ⟨am, cm, rfl⟩ := hu.form
  obtain ⟨ao, co, rfl⟩ := hp.form
  clear hu hp
  have HK := hid (Ext.alloc (Ext.alloc (Ext.refl w) (.cells #[.bool ng, .slice am zs.length cm, .slice ao m.length co] 72)) (.cells #[.bool false, .slice none 0 0, .slice none 0 0] 72))
  have HSZ : Hid (w.heap.size + 1 < ((w.alloc (.cells #[.bool ng, .slice am zs.length cm, .slice ao m.length co] 72)).alloc (.cells #[.bool false, .slice none 0 0, .slice none 0 0] 72)).heap.size) := hid (by simp)
  have HL : Hid (∀ W, Ext ((w.alloc (.cells #[.bool ng, .slice am zs.length cm, .slice ao m.length co] 72)).alloc (.cells #[.bool false, .slice none 0 0, .slice none 0 0] 72)) W →
      W.cell? ⟨w.heap.size, 0, none⟩ = some (.bool ng) ∧ W.cell? ⟨w.heap.size, 1, none⟩ = some (.slice am zs.length cm) ∧ W.cell? ⟨w.heap.size, 2, none⟩ = some (.slice ao m.length co)) := hid (fun W hW => by
    have e1 : Ext (w.alloc (.cells #[.bool ng, .slice am zs.length cm, .slice ao m.length co] 72)) W := (Ext.alloc (Ext.refl _) _).trans hW
    exact ⟨e1.new_cell rfl, e1.new_cell rfl, e1.new_cell rfl⟩)
  have HN : Hid (∀ W, Ext ((w.alloc (.cells #[.bool ng, .slice am zs.length cm, .slice ao m.length co] 72)).alloc (.cells #[.bool false, .slice none 0 0, .slice none 0 0] 72)) W →
      W.cell? ⟨w.heap.size + 1, 0, none⟩ = some (.bool false) ∧ W.cell? ⟨w.heap.size + 1, 1, none⟩ = some (.slice none 0 0) ∧ W.cell? ⟨w.heap.size + 1, 2, none⟩ = some (.slice none 0 0) ∧ ∀ i, W.frozen? ⟨w.heap.size + 1, i, none⟩ = false) := hid (fun W hW => by
    have k := fun i v hv => hW.new_cell (i := i) (v := v) hv
    have f := fun i => hW.new_free i
    rw [size_alloc] at k f
    exact ⟨k 0 _ rfl, k 1 _ rfl, k 2 _ rfl, f⟩)
  go_enter Try.func86, Try.ntmps86
  go_wp2
  go_outline
  have x0 := Ext.drew (Ext.refl ((w.alloc (.cells #[.bool ng, .slice am zs.length cm, .slice ao m.length co] 72)).alloc (.cells #[.bool false, .slice none 0 0, .slice none 0 0] 72)))
  have S0 := HL.out _ x0
  have HX0 := hid x0
  clear x0
  go_region_held3 (fun W => W.cell? ⟨w.heap.size, 0, none⟩ = some (.bool ng) ∧ W.cell? ⟨w.heap.size, 1, none⟩ = some (.slice am zs.length cm) ∧ W.cell? ⟨w.heap.size, 2, none⟩ = some (.slice ao m.length co)) (first | exact S0 | exact S1 | exact S2 | exact keep_set3 S2 (by omega) _ _ _)
    (first
      | (go_at_call 88; (with_reducible refine (whole_add _ _ ⟨ng, zs⟩ ⟨false, []⟩ _ (intV_mk (HU.out.ext (HK.out.trans HX0.out) hS)) (zero_int _ _) (lt_ext hS (HK.out.trans HX0.out)) hr (by decide)).mono ?_); rintro e w1 ⟨v1, rfl, ⟨vm1, rfl, hv1⟩, hx1⟩; have HX1 := hid hx1; have S1 := HL.out _ (HX0.out.trans hx1); have HV1 := hid hv1; obtain ⟨a1, n1, rfl⟩ := hv1.form; clear hx1 hv1)
      | (go_at_call 89; (with_reducible refine (clone_mono _ m _ (HP.out.ext (HK.out.trans (HX0.out.trans HX1.out)) hS) (lt_ext hS (HK.out.trans (HX0.out.trans HX1.out))) hm).mono ?_); rintro e w2 ⟨v2, rfl, hv2, hx2⟩; have HX2 := hid hx2; have S2 := HL.out _ (HX0.out.trans (HX1.out.trans hx2)); obtain ⟨c0, c1, c2, cf⟩ := HN.out _ (HX0.out.trans (HX1.out.trans hx2)); have f0 := cf 0; have f1 := cf 1; have f2 := cf 2; have HE := hid (And.intro c0 (And.intro c1 c2)); clear cf; have HV2 := hid hv2; obtain ⟨a2, n2, rfl⟩ := hv2.form; clear hx2 hv2))
  go_wp2
  have hd := fun x y z => three_set x y z HE.out.1 HE.out.2.1 HE.out.2.2
  refine bodyPost_ret (by simp [results, Try.results86, go_sem, (hd _ _ _).1, (hd _ _ _).2.1, (hd _ _ _).2.2]; rfl) rfl ?_
  have e0 : canT ⟨⟨ng, zs⟩, m⟩ = ⟨ofI (valI ⟨ng, zs⟩ + valI ⟨false, []⟩), m⟩ := by rw [valI_zeroI, Int.add_zero]; rfl
  have hv := term_of (ng := (ofI (valI ⟨ng, zs⟩ + valI ⟨false, []⟩)).neg) HV1.out HX2.out HV2.out HX1.out
  have hg := ret_term (w0 := w) (b := w.heap.size + 1) hv (HK.out.trans HX0.out) (HX1.out.trans HX2.out) (by omega) (Nat.lt_of_lt_of_le HSZ.out HX0.out.size) (.bool (ofI (valI ⟨ng, zs⟩ + valI ⟨false, []⟩)).neg) (.slice a1 (ofI (valI ⟨ng, zs⟩ + valI ⟨false, []⟩)).mag.length n1) (.slice a2 m.length n2)
  rw [e0]
  exact ⟨_, rfl, hg.1, hg.2⟩

/-- the first term; nothing, if there is none or the polynomial may not be -/
def leadT (ts : List RTerm) : RTerm := match plainT ts with
  | [] => ⟨⟨false, []⟩, []⟩
  | t :: _ => canT t
def LeadPost (w : World) (ts : List RTerm) : Ending → World → Prop := fun e w' => ∃ v', e = .returned (.tuple #[v', .bool (decide (0 < (plainT ts).length))]) ∧ TermV (New w w') w' v' (leadT ts) ∧ Ext w w'

theorem zero_term (S : Nat → Prop) (w : World) : TermV S w (.agg #[.bool false, .slice none 0 0, .slice none 0 0]) ⟨⟨false, []⟩, []⟩ := ⟨_, _, rfl, U32s.nilv _ _ _ _ (by omega), Pows.empty _ _ _⟩
theorem mayT_len_m {ts : List RTerm} (h : mayT ts = true) : ∀ t ∈ ts, t.m.length ≤ 200 := by
  intro t ht
  have := (mayFrom_pair h).1 t ht
  simp only [mayTerm, Bool.and_eq_true] at this
  exact mayM_len this.2

set_option maxRecDepth 100000 in
set_option maxHeartbeats 4000000 in
theorem poly_lead {S : Nat → Prop} (v : Value) (ts : List RTerm) (w : World) (h : Terms S w v ts) (hS : ∀ k, S k → k < w.heap.size) (hr : smallT ts) :
    Calls Try.prog 53 #[v] w (LeadPost w ts) := by
  have hnot : ∀ (x : Bool) (w : World), (Op.unary .not (.bool x)).run Try.prog w = .ok (.bool (!x)) w := fun _ _ => rfl
  have H := hid h
  have HR := hid hr
  obtain ⟨a, cap, rfl⟩ := h.form
  have hl := h.len_le
  clear h hr
  have HK := hid (Ext.alloc (Ext.refl w) (.cells #[.bool false, .slice none 0 0, .slice none 0 0] 72))
  have HN : Hid (∀ W, Ext (w.alloc (.cells #[.bool false, .slice none 0 0, .slice none 0 0] 72)) W →
      W.cell? ⟨w.heap.size, 0, none⟩ = some (.bool false) ∧ W.cell? ⟨w.heap.size, 1, none⟩ = some (.slice none 0 0) ∧ W.cell? ⟨w.heap.size, 2, none⟩ = some (.slice none 0 0) ∧ ∀ i, W.frozen? ⟨w.heap.size, i, none⟩ = false) := hid (fun W hW => ⟨hW.new_cell rfl, hW.new_cell rfl, hW.new_cell rfl, fun i => hW.new_free i⟩)
  have HSZ : Hid (w.heap.size < (w.alloc (.cells #[.bool false, .slice none 0 0, .slice none 0 0] 72)).heap.size) := hid (by simp)
  by_cases h0 : ts.length = 0
  · obtain rfl : ts = [] := List.length_eq_zero_iff.1 h0
    clear h0
    obtain ⟨c0, c1, c2, cf⟩ := HN.out _ (Ext.refl _)
    have f0 := cf 0
    have f1 := cf 1
    have f2 := cf 2
    have HE := hid (And.intro c0 (And.intro c1 c2))
    clear cf
    go_enter Try.func53, Try.ntmps53
    go_wp2
    refine bodyPost_ret (by simp [results, Try.results53, go_sem]; rfl) rfl ?_
    exact ⟨_, rfl, zero_term _ _, HK.out⟩
  · have hb : ((ts.length : Int) == 0) = false := by rw [beq_eq_false_iff_ne]; omega
    have hlt : 0 < ts.length := by omega
    have hM := fun W (hW : Ext (w.alloc (.cells #[.bool false, .slice none 0 0, .slice none 0 0] 72)) W) => poly_may (S := S) _ ts W (H.out.ext (HK.out.trans hW) hS) (lt_ext hS (HK.out.trans hW)) HR.out
    cases hm : mayT ts with
    | false =>
      simp only [hm] at hM
      have HM := hid hM
      have e1 : plainT ts = [] := by simp [plainT, hm]
      have E := hid e1
      clear hM hm h0 e1
      go_enter Try.func53, Try.ntmps53
      go_wp2_with fail
      refine (HM.out _ (Ext.refl _)).mono ?_
      rintro e w1 ⟨rfl, hx1⟩
      obtain ⟨c0, c1, c2, cf⟩ := HN.out _ hx1
      have f0 := cf 0
      have f1 := cf 1
      have f2 := cf 2
      have HE := hid (And.intro c0 (And.intro c1 c2))
      have HX1 := hid hx1
      clear cf hx1
      go_wp2
      have hd := fun x y z => three_set x y z HE.out.1 HE.out.2.1 HE.out.2.2
      refine bodyPost_ret (by simp [results, Try.results53, go_sem, (hd _ _ _).1, (hd _ _ _).2.1, (hd _ _ _).2.2]; rfl) rfl ?_
      refine ⟨_, by rw [E.out]; rfl, ?_, (HK.out.trans HX1.out).set3 (Nat.le_refl _) _ _ _⟩
      unfold leadT
      rw [E.out]
      exact zero_term _ _
    | true =>
      simp only [hm] at hM
      have HM := hid hM
      have e1 : plainT ts = ts := by simp [plainT, hm]
      have E := hid e1
      obtain ⟨t, ht⟩ := some_of_lt hlt
      have htl := mayT_len_m hm t (List.mem_of_getElem? ht)
      have htr := HR.out t (List.mem_of_getElem? ht)
      obtain ⟨b, off, vm, vo, rfl, -, hn1, hm1, hSb, h1, h2, h3, h4, h5⟩ := H.out.cellAt ht
      have HT := hid ht
      simp only [Nat.zero_mul, Nat.add_zero] at h1 h2 h3
      have HC := hid (And.intro h1 (And.intro h2 h3))
      obtain ⟨⟨ng, zs⟩, m⟩ := t
      simp only at h1 h2 h3 h4 h5 HC htl htr
      have H4 := hid h4
      have H5 := hid h5
      obtain ⟨am, cm, rfl⟩ := h4.form
      obtain ⟨ao, co, rfl⟩ := h5.form
      have HTL := hid (And.intro htl htr)
      clear hM hm h0 e1 ht h4 h5 h1 h2 h3 htl htr
      go_enter Try.func53, Try.ntmps53
      go_wp2_with fail
      refine (HM.out _ (Ext.refl _)).mono ?_
      rintro e w1 ⟨rfl, hx1⟩
      have HX1 := hid hx1
      have g1 := (HK.out.trans hx1).cell HC.out.1
      have g2 := (HK.out.trans hx1).cell HC.out.2.1
      have g3 := (HK.out.trans hx1).cell HC.out.2.2
      clear hx1
      go_wp2_with fail
      refine (poly_copied _ ⟨⟨ng, zs⟩, m⟩ _ ⟨_, _, rfl, H4.out.ext (HK.out.trans HX1.out) hS, H5.out.ext (HK.out.trans HX1.out) hS⟩ (lt_ext hS (HK.out.trans HX1.out)) HTL.out.2 (Nat.le_trans HTL.out.1 (by decide))).mono ?_
      rintro e w2 ⟨v2, rfl, hv2, hx2⟩
      obtain ⟨c0, c1, c2, cf⟩ := HN.out _ (HX1.out.trans hx2)
      have f0 := cf 0
      have f1 := cf 1
      have f2 := cf 2
      have HE := hid (And.intro c0 (And.intro c1 c2))
      have HX2 := hid hx2
      have HV2 := hid hv2
      obtain ⟨vm2, vo2, rfl, hq1, hq2⟩ := hv2
      obtain ⟨a1, n1, rfl⟩ := hq1.form
      obtain ⟨a2, n2, rfl⟩ := hq2.form
      clear cf hx2 hq1 hq2
      go_wp2
      have hd := fun x y z => three_set x y z HE.out.1 HE.out.2.1 HE.out.2.2
      refine bodyPost_ret (by simp [results, Try.results53, go_sem, (hd _ _ _).1, (hd _ _ _).2.1, (hd _ _ _).2.2]; rfl) rfl ?_
      have hg := ret_term (w0 := w) (b := w.heap.size) HV2.out (HK.out.trans HX1.out) HX2.out (by omega) (Nat.lt_of_lt_of_le HSZ.out HX1.out.size) (.bool (canT ⟨⟨ng, zs⟩, m⟩).c.neg) (.slice a1 (canT ⟨⟨ng, zs⟩, m⟩).c.mag.length n1) (.slice a2 (canT ⟨⟨ng, zs⟩, m⟩).m.length n2)
      have el : leadT ts = canT ⟨⟨ng, zs⟩, m⟩ := by
        unfold leadT
        rw [E.out]
        cases ts with
        | nil => simp at hlt
        | cons t r =>
          obtain rfl : t = ⟨⟨ng, zs⟩, m⟩ := by simpa using HT.out
          rfl
      refine ⟨_, by rw [E.out, decide_eq_true hlt], ?_, hg.2⟩
      rw [el]
      exact hg.1

/-- the class of the first term -/
def clsT (ts : List RTerm) : Int := classM (leadT ts).m

set_option maxRecDepth 100000 in
set_option maxHeartbeats 4000000 in
theorem view_class {S : Nat → Prop} (v : Value) (ts : List RTerm) (w : World) (h : Terms S w v ts) (hS : ∀ k, S k → k < w.heap.size) (hr : smallT ts) :
    Calls Try.prog 23 #[v] w fun e w' => e = .returned (.int .i64 (leadP (plainP ts))) ∧ Ext w w' := by
  have ec : classM (plainM (leadT ts).m) = leadP (plainP ts) := by
    unfold leadT
    rw [← toP_plainT]
    cases hp : plainT ts with
    | nil => rfl
    | cons t r =>
      have hm : mayM t.m = true := by
        have h1 := (plainP_can ts).may (valI t.c, t.m) (by rw [← toP_plainT, hp]; exact List.mem_cons_self)
        exact h1
      show classM (plainM (canT t).m) = classM t.m
      unfold plainM canT
      rw [if_pos hm]
  have EC := hid ec
  have H := hid h
  have HR := hid hr
  obtain ⟨a, cap, rfl⟩ := h.form
  clear h hr ec
  go_enter Try.func23, Try.ntmps23
  go_wp2_with fail
  refine (poly_lead _ ts w H.out hS HR.out).mono ?_
  rintro e w1 ⟨v1, rfl, ⟨vm, vo, rfl, hq1, hq2⟩, hx1⟩
  obtain ⟨a1, n1, rfl⟩ := hq1.form
  obtain ⟨a2, n2, rfl⟩ := hq2.form
  have HX1 := hid hx1
  have HQ := hid hq2
  have HA := hid (Ext.alloc (Ext.refl w1) (.cells #[.bool (leadT ts).c.neg, .slice a1 (leadT ts).c.mag.length n1, .slice a2 (leadT ts).m.length n2] 72))
  clear hx1 hq1 hq2
  go_wp2_with fail
  refine (mono_class _ (leadT ts).m _ (HQ.out.ext HA.out (fun _ h => h.2)) (lt_ext (fun _ h => h.2) HA.out)).mono ?_
  rintro e w2 ⟨rfl, hx2⟩
  have HX2 := hid hx2
  clear hx2
  go_wp2
  all_goals
    go_ret
    exact ⟨by rw [EC.out]; rfl, HX1.out.trans (HA.out.trans HX2.out)⟩

set_option maxRecDepth 100000 in
theorem view_plain {S : Nat → Prop} (v : Value) (ts : List RTerm) (w : World) (h : Terms S w v ts) (hS : ∀ k, S k → k < w.heap.size) (hr : smallT ts) :
    Calls Try.prog 60 #[v] w fun e w' => ∃ v', e = .returned v' ∧ Terms S w' v' (plainT ts) ∧ Ext w w' := by
  have H := hid h
  have HR := hid hr
  obtain ⟨a, cap, rfl⟩ := h.form
  clear h hr
  go_enter Try.func60, Try.ntmps60
  go_wp2_with fail
  refine (poly_may _ ts w H.out hS HR.out).mono ?_
  rintro e w1 ⟨rfl, hx1⟩
  have HX1 := hid hx1
  clear hx1
  cases hm : mayT ts with
  | false =>
    go_wp2
    all_goals
      go_ret
      refine ⟨_, rfl, ?_, HX1.out⟩
      rw [show plainT ts = [] by simp [plainT, hm]]
      exact ⟨0, 0, ⟨_, 0, rfl, Nat.le_refl _, Nat.zero_le _, fun h => absurd h (Nat.lt_irrefl _), fun h => absurd h (Nat.lt_irrefl _)⟩, fun j x hx => by simp at hx⟩
  | true =>
    go_wp2
    all_goals
      go_ret
      refine ⟨_, rfl, ?_, HX1.out⟩
      rw [show plainT ts = ts by simp [plainT, hm]]
      exact H.out.ext HX1.out hS
end Go.Proofs.Ythplgldclilccaa
