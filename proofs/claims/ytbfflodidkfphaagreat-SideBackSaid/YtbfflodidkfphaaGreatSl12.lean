/- The document: two conditions are told alike. The document: the polynomial that is told by a condition. The document: a polynomial's points. The document: rows tried one by one, each place's names in their order. The document: what a polynomial is told as. Layer 28: what SideTells and SideBack stand on. -/
import Derived.Test.YtbfflodidkfphaaGreatSl11
set_option maxRecDepth 100000
set_option maxHeartbeats 16000000
namespace Go.Proofs.YtbfflodidkfphaaGreat
section
open Go.RowKit
theorem take_same {α : Type} {l m : List α} {k : Nat} {x : α} (h : l.take k = m.take k) (h1 : l[k]? = some x) (h2 : m[k]? = some x) : l.take (k + 1) = m.take (k + 1) := by
 rw [List.take_add_one, List.take_add_one, h, h1, h2]
theorem ref_sameside {W : World} {va vb : Value} {a b : SideD} (ha : SideV (Old W) W va a) (hb : SideV (Old W) W vb b) :
  Calls Tryz.prog 26 #[va, vb] W fun e w' => e = .returned (.bool (sameD a b)) ∧ Ext W w' := by
 have hnot : ∀ (x : Bool) (w : World), (Op.unary .not (.bool x)).run Tryz.prog w = .ok (.bool (!x)) w := fun _ _ => rfl
 obtain ⟨vn, vp, rfl, h1, h2⟩ := ha
 obtain ⟨vm, vq, rfl, h3, h4⟩ := hb
 have C2 := hid (fun (Y : World) (hY : Ext W Y) => rpoly_same (S := Old Y) vp vq a.poly b.poly Y (h2.on hY) (h4.on hY) (fun _ h => h))
 have HN1 := hid (fun (Y : World) (hY : Ext W Y) => h1.to (Kept.ext hY (fun _ h => h)) (old_lt hY))
 have HN3 := hid (fun (Y : World) (hY : Ext W Y) => h3.to (Kept.ext hY (fun _ h => h)) (old_lt hY))
 obtain ⟨a1, c1, rfl⟩ := h1.form
 obtain ⟨a2, c2, rfl⟩ := h2.form
 obtain ⟨a3, c3, rfl⟩ := h3.form
 obtain ⟨a4, c4, rfl⟩ := h4.form
 have hl1 := h1.len_le
 obtain ⟨n1, hn1⟩ : ∃ n, n = a.pts.length := ⟨_, rfl⟩
 obtain ⟨n2, hn2⟩ : ∃ n, n = a.poly.length := ⟨_, rfl⟩
 obtain ⟨n3, hn3⟩ : ∃ n, n = b.pts.length := ⟨_, rfl⟩
 obtain ⟨n4, hn4⟩ : ∃ n, n = b.poly.length := ⟨_, rfl⟩
 rw [← hn2, ← hn4] at C2 ⊢
 rw [← hn1] at HN1 hl1 ⊢
 rw [← hn3] at HN3 ⊢
 have HL1 := hid hn1
 have HL3 := hid hn3
 obtain ⟨w0, hw0⟩ : ∃ Y, Y = (W.alloc (.cells #[.string a.word, .slice a1 n1 c1, .slice a2 n2 c2] 40)).alloc (.cells #[.string b.word, .slice a3 n3 c3, .slice a4 n4 c4] 40) := ⟨_, rfl⟩
 have HX0 : Hid (Ext W w0) := hid (by rw [hw0]; exact (Ext.alloc (Ext.refl _) _).alloc _)
 have HB := hid (fun (Y : World) (hY : Ext w0 Y) => by
  rw [hw0] at hY
  have k1 : ∀ (i : Nat) (u : Value), #[Value.string a.word, .slice a1 n1 c1, .slice a2 n2 c2][i]? = some u → Y.cell? ⟨W.heap.size, i, none⟩ = some u := fun i u hu => hY.cell (cell_old _ (cell_new W _ _ rfl hu))
  have k2 : ∀ (i : Nat) (u : Value), #[Value.string b.word, .slice a3 n3 c3, .slice a4 n4 c4][i]? = some u → Y.cell? ⟨W.heap.size + 1, i, none⟩ = some u := fun i u hu => hY.cell (cell_new _ _ _ (by rw [size_alloc]) hu)
  exact And.intro (And.intro (k1 0 _ rfl) (And.intro (k1 1 _ rfl) (k1 2 _ rfl))) (And.intro (k2 0 _ rfl) (And.intro (k2 1 _ rfl) (k2 2 _ rfl))))
 have HW0 := hid hw0
 have HC2 := hid (C2.out w0 HX0.out)
 clear h1 h2 h3 h4 hn1 hn2 hn3 hn4 hw0
 go_enter Tryz.func26, Tryz.ntmps26
 go_upto_region 1 with fail
 rw [← HW0.out]
 obtain ⟨⟨d0, d1, d2⟩, e0, e1, e2⟩ := HB.out w0 (Ext.refl _)
 by_cases he : a.word = b.word
 ·have q1 := str_eq he
  by_cases hn : n1 = n3
  ·have HN := hid hn
   have q2 : ((n1 : Int) == (n3 : Int)) = true := by rw [hn]; simp
   have q2b : ((n1 : Int) != (n3 : Int)) = false := by unfold bne; rw [q2]; rfl
   have HE := hid he
   clear he hn
   go_wp2_with fail
   with_reducible refine HC2.out.mono ?_
   rintro e w1 ⟨rfl, hx1⟩
   have HX1 := hid hx1
   clear hx1 d0 d1 d2 e0 e1 e2
   by_cases hp : a.poly = b.poly
   ·have HP := hid hp
    rw [decide_eq_true hp]
    clear hp q1 q2 q2b
    go_wp2
    go_loopw [5] (fun i wr => ∃ k : Nat, k ≤ n1 ∧ i = .int .i64 (k : Nat) ∧ Hid (Ext w0 wr) ∧ Hid (a.pts.take k = b.pts.take k)) (fun i _ => n1 - (intOf i).toNat)
    case atStart => exact ⟨0, Nat.zero_le _, rfl, HX1, hid rfl⟩
    case round =>
     obtain ⟨k, hk, rfl, HX, HT⟩ := hrel
     obtain ⟨⟨d0, d1, d2⟩, e0, e1, e2⟩ := HB.out wr HX.out
     by_cases hlt : k < n1
     ·obtain ⟨x, hx⟩ := some_of_lt (l := a.pts) (j := k) (by rw [← HL1.out]; exact hlt)
      obtain ⟨y, hy⟩ := some_of_lt (l := b.pts) (j := k) (by rw [← HL3.out, ← HN.out]; exact hlt)
      obtain ⟨ba, oa, rfl, -, ha1, ha2, -, hpa⟩ := (HN1.out wr (HX0.out.trans HX.out)).cellAt hx
      obtain ⟨bb, ob, rfl, -, hb1, hb2, -, hpb⟩ := (HN3.out wr (HX0.out.trans HX.out)).cellAt hy
      have HXX := hid hx
      have HYY := hid hy
      have hlt3 : k < n3 := by rw [← HN.out]; exact hlt
      clear hx hy
      by_cases hxy : x = y
      ·have q3 := str_eq hxy
       have HXY := hid hxy
       clear hxy
       go_wp2
       go_quiet (fail)
       go_wp2
       go_roundw
       case rel =>
        exact ⟨k + 1, by omega, by go_num, hid (HX.out.drewN _), hid (take_same HT.out HXX.out (by rw [HXY.out]; exact HYY.out))⟩
       case measure => simp only [intOf]; omega
      ·have q3 := str_ne hxy
       have HXY := hid hxy
       clear hxy
       go_wp2
       go_quiet (fail)
       go_wp2
       all_goals
        go_ret
        refine ⟨?_, HX0.out.trans (HX.out.drewN _)⟩
        have e : sameD a b = false := by
         unfold sameD
         rw [decide_eq_false (show ¬ a.pts = b.pts from fun h => HXY.out (by
          have h1 := HXX.out
          rw [h, HYY.out] at h1
          exact (Option.some.inj h1).symm))]
         simp
        rw [e]
        rfl
     ·obtain rfl : k = n1 := by omega
      go_wp2
      all_goals
       go_ret
       refine ⟨?_, HX0.out.trans HX.out⟩
       have e : sameD a b = true := by
        have h := HT.out
        rw [List.take_of_length_le (by rw [← HL1.out]; exact Nat.le_refl _), List.take_of_length_le (by rw [← HL3.out, ← HN.out]; exact Nat.le_refl _)] at h
        unfold sameD
        rw [decide_eq_true HE.out, decide_eq_true h, decide_eq_true HP.out]
        rfl
       rw [e]
       rfl
   ·have HP := hid hp
    rw [decide_eq_false hp]
    clear hp q1 q2 q2b
    go_wp2
    all_goals
     go_ret
     exact ⟨by unfold sameD; rw [decide_eq_false HP.out, Bool.and_false]; rfl, HX0.out.trans HX1.out⟩
  ·have HN : Hid (decide (a.pts = b.pts) = false) := hid (decide_eq_false (fun h => hn (by rw [HL1.out, HL3.out, h])))
   have q2 : ((n1 : Int) == (n3 : Int)) = false := beq_eq_false_iff_ne.2 (by omega)
   have q2b : ((n1 : Int) != (n3 : Int)) = true := by unfold bne; rw [q2]; rfl
   clear he hn
   go_wp2
   all_goals
    go_ret
    exact ⟨by unfold sameD; rw [HN.out, Bool.and_false, Bool.false_and]; rfl, HX0.out⟩
 ·have q1 := str_ne he
  have HD : Hid (decide (a.word = b.word) = false) := hid (decide_eq_false he)
  clear he
  go_wp2
  all_goals
   go_ret
   exact ⟨by unfold sameD; rw [HD.out]; rfl, HX0.out⟩
end
section
open Go.RowKit
theorem ref_poly28 {W : World} {v vs : Value} {x : Lay} {s : SideD} {k n : Nat} (hx : LayV (Old W) W v x) (hok : ∀ c ∈ x.ats, Ok2 c) (hs : SideV (Old W) W vs s) (hlk : ∀ t ∈ s.poly, t.c.mag.length ≤ k) (hk : k ≤ 90000) (hln : s.poly.length ≤ n) (hn : n ≤ 1000000000000) (hnl : s.pts.length ≤ 1000) :
  Calls Tryz.prog 25 #[v, vs] W fun e w' => ∃ v', e = .returned (.tuple #[v', .int .i64 (polyX x s).1]) ∧ PV w' v' (polyX x s).2 ∧ Ext W w' := by
 have hnot : ∀ (x : Bool) (w : World), (Op.unary .not (.bool x)).run Tryz.prog w = .ok (.bool (!x)) w := fun _ _ => rfl
 have HL := hid (fun (Y : World) (hY : Ext W Y) => hx.on hY)
 have HS := hid (fun (Y : World) (hY : Ext W Y) => hs.on hY)
 have HOK := hid hok
 have HSM : Hid (tinyT s.poly) := hid (fun t ht => Nat.le_trans (hlk t ht) (Nat.le_trans hk (by decide)))
 obtain ⟨vq, va, rfl, hq, ha⟩ := hx
 obtain ⟨ap, cp, rfl⟩ := hq.form
 obtain ⟨aa, ca, rfl⟩ := ha.form
 obtain ⟨vn, vp, rfl, hsn, hsp⟩ := hs
 have HSN := hid (fun (Y : World) (hY : Ext W Y) => hsn.to (Kept.ext hY (fun _ h => h)) (old_lt hY))
 have HSP := hid (fun (Y : World) (hY : Ext W Y) => Terms.on hsp hY)
 obtain ⟨an, cn, rfl⟩ := hsn.form
 obtain ⟨av, cs, rfl⟩ := hsp.form
 obtain ⟨np, hnp⟩ : ∃ n, n = x.pts.length := ⟨_, rfl⟩
 obtain ⟨na, hna⟩ : ∃ n, n = x.ats.length := ⟨_, rfl⟩
 obtain ⟨nn, hnn⟩ : ∃ n, n = s.pts.length := ⟨_, rfl⟩
 obtain ⟨nt, hnt⟩ : ∃ n, n = s.poly.length := ⟨_, rfl⟩
 rw [← hnp, ← hna] at HL ⊢
 rw [← hnn] at HSN ⊢
 rw [← hnt] at HSP ⊢
 obtain ⟨w0, hw0⟩ : ∃ Y, Y = (W.alloc (.cells #[.slice ap np cp, .slice aa na ca, .int .i64 x.par, .int .i64 x.vrs] 35)).alloc (.cells #[.string s.word, .slice an nn cn, .slice av nt cs] 40) := ⟨_, rfl⟩
 have HX0 : Hid (Ext W w0) := hid (by rw [hw0]; exact (Ext.alloc (Ext.refl _) _).alloc _)
 have HB := hid (fun (Y : World) (hY : Ext w0 Y) => by
  rw [hw0] at hY
  have k0 : ∀ (i : Nat) (u : Value), #[Value.slice ap np cp, .slice aa na ca, .int .i64 x.par, .int .i64 x.vrs][i]? = some u → Y.cell? ⟨W.heap.size, i, none⟩ = some u := fun i u hu => hY.cell (cell_old _ (cell_new W _ _ rfl hu))
  have k2 : ∀ (i : Nat) (u : Value), #[Value.string s.word, .slice an nn cn, .slice av nt cs][i]? = some u → Y.cell? ⟨W.heap.size + 1, i, none⟩ = some u := fun i u hu => hY.cell (cell_new _ _ _ (by rw [size_alloc]) hu)
  exact And.intro (And.intro (k0 0 _ rfl) (And.intro (k0 1 _ rfl) (And.intro (k0 2 _ rfl) (k0 3 _ rfl)))) (And.intro (k2 0 _ rfl) (And.intro (k2 1 _ rfl) (k2 2 _ rfl))))
 have HNT := hid hnt
 have CC := ref_condition (W := w0) (wd := s.word) (names := s.pts) (HL.out w0 HX0.out) HOK.out (HSN.out w0 HX0.out) hnl
 have CM := hid (fun (Y : World) (hY : Ext W Y) => rpoly_may (S := Old Y) (.slice av nt cs) s.poly Y (HSP.out Y hY) (fun _ h => h) HSM.out)
 have HFC := hid (fun (q : PZ) (h : condX x s.word s.pts = (0, q)) => cond_fit hok h)
 have HFP : Hid (mayT s.poly = true → s.poly = ofP (plainP s.poly) ∧ Fit k n (plainP s.poly)) := hid (fun h => ⟨(by have e := mayT_of hsp.okT h; rw [plainP_yes h]; exact e.symm), fit_plain hsp.okT hlk hln⟩)
 have HK := hid (And.intro hk hn)
 have HW0 := hid hw0
 obtain ⟨we, hwe⟩ : ∃ b, b = (s.word.toList == []) := ⟨_, rfl⟩
 have q0 := hwe.symm
 have HWE := hid hwe
 have HBX := hid (HB.out w0 (Ext.refl _))
 clear hq ha hsn hsp hnp hna hnn hnt hw0 hok hlk hln hk hn hnl hwe
 go_enter Tryz.func25, Tryz.ntmps25
 go_upto_region 1 with fail
 rw [← HW0.out]
 obtain ⟨⟨d0, d1, d2, d3⟩, e0, e1, e2⟩ := HBX.out
 cases we with
 | true =>
  have HPX : Hid (polyX x s = if mayT s.poly = false ∨ s.poly = [] then (2, []) else (0, wholeP (plainP s.poly))) := hid (by unfold polyX; rw [if_pos HWE.out.symm])
  clear CC
  go_wp2_with fail
  with_reducible refine (CM.out w0 HX0.out).mono ?_
  rintro e w1 ⟨rfl, hx1⟩
  have HX1 := hid (HX0.out.trans hx1)
  clear hx1 q0 d0 d1 d2 d3 e0 e1 e2
  cases hm : mayT s.poly with
  | false =>
   have HE : Hid (polyX x s = (2, [])) := hid (by rw [HPX.out, if_pos (.inl hm)])
   clear hm
   go_wp2
   all_goals
    go_ret2
    exact ⟨.slice none 0 0, by rw [HE.out]; rfl, by rw [HE.out]; exact Terms.nilv _ _ _ _ (by omega), HX1.out⟩
  | true =>
   have HM := hid hm
   clear hm
   by_cases h0 : s.poly = []
   ·have HE : Hid (polyX x s = (2, [])) := hid (by rw [HPX.out, if_pos (.inr h0)])
    have hn0 : nt = 0 := by rw [HNT.out, h0]; rfl
    subst hn0
    clear h0
    go_wp2
    all_goals
     go_ret2
     exact ⟨.slice none 0 0, by rw [HE.out]; rfl, by rw [HE.out]; exact Terms.nilv _ _ _ _ (by omega), HX1.out⟩
   ·have HE : Hid (polyX x s = (0, wholeP (plainP s.poly))) := hid (by rw [HPX.out, if_neg (by rw [HM.out]; rintro (h | h); cases h; exact h0 h)])
    have hn0 : 0 < nt := by rw [HNT.out]; exact List.length_pos_iff.2 h0
    have CW := hid (ref_whole28 (p := plainP s.poly) (v := .slice av nt cs) (W := w1) (by have h := HSP.out w1 HX1.out; rw [(HFP.out HM.out).1] at h; exact h) (HFP.out HM.out).2 HK.out.1 HK.out.2)
    clear h0
    go_wp2_with fail
    with_reducible refine CW.out.mono ?_
    rintro e w2 ⟨v2, rfl, ht2, hx2⟩
    have HX2 := hid (HX1.out.trans hx2)
    have HT2 := hid ht2
    obtain ⟨a2, c2, rfl⟩ := ht2.form
    clear ht2 hx2
    go_wp2
    all_goals
     go_ret2
     exact ⟨_, by rw [HE.out]; rfl, by rw [HE.out]; exact HT2.out, HX2.out⟩
 | false =>
  obtain ⟨er, q, hc⟩ : ∃ er q, condX x s.word s.pts = (er, q) := ⟨_, _, rfl⟩
  have HPX : Hid (polyX x s = if er ≠ 0 then (er, []) else if q = [] then (2, []) else (0, wholeP q)) := hid (by unfold polyX; rw [if_neg (by rw [← HWE.out]; exact Bool.false_ne_true), hc])
  rw [hc] at CC
  have CC := hid CC
  have HC := hid hc
  clear hc
  go_wp2_with fail
  with_reducible refine CC.out.mono ?_
  rintro e w1 ⟨v1, rfl, ht1, hx1⟩
  have HX1 := hid (HX0.out.trans hx1)
  have HT1 := hid (show Terms (Old w1) w1 v1 (ofP q) from ht1)
  obtain ⟨a1, c1, rfl⟩ := ht1.form
  obtain ⟨n1, hn1⟩ : ∃ n, n = (ofP q).length := ⟨_, rfl⟩
  rw [← hn1] at HT1 ⊢
  have HN1 := hid hn1
  clear ht1 hx1 q0 d0 d1 d2 d3 e0 e1 e2 hn1
  by_cases he : er = 0
  ·subst he
   have HF := hid (HFC.out q HC.out)
   have CM1 := hid (rpoly_may (S := Old w1) (.slice a1 n1 c1) (ofP q) w1 HT1.out (fun _ h => h) (fun t ht => Nat.le_trans (HF.out.lens t ht) (by decide)))
   rw [HF.out.may] at CM1
   go_wp2_with fail
   with_reducible refine CM1.out.mono ?_
   rintro e w2 ⟨rfl, hx2⟩
   have HX2 := hid (HX1.out.trans hx2)
   have HT2 := hid (Terms.on HT1.out hx2)
   clear hx2
   by_cases h0 : q = []
   ·have HE : Hid (polyX x s = (2, [])) := hid (by rw [HPX.out, if_neg (by simp), if_pos h0])
    have hn0 : n1 = 0 := by rw [HN1.out, h0]; rfl
    subst hn0
    clear h0
    go_wp2
    all_goals
     go_ret2
     exact ⟨.slice none 0 0, by rw [HE.out]; rfl, by rw [HE.out]; exact Terms.nilv _ _ _ _ (by omega), HX2.out⟩
   ·have HE : Hid (polyX x s = (0, wholeP q)) := hid (by rw [HPX.out, if_neg (by simp), if_neg h0])
    have hn0 : 0 < n1 := by rw [HN1.out, ofP_len]; exact List.length_pos_iff.2 h0
    have CW := hid (ref_whole28 (p := q) (v := .slice a1 n1 c1) (W := w2) HT2.out HF.out (by decide) (by decide))
    clear h0
    go_wp2_with fail
    with_reducible refine CW.out.mono ?_
    rintro e w3 ⟨v3, rfl, ht3, hx3⟩
    have HX3 := hid (HX2.out.trans hx3)
    have HT3 := hid ht3
    obtain ⟨a3, c3, rfl⟩ := ht3.form
    clear ht3 hx3
    go_wp2
    all_goals
     go_ret2
     exact ⟨_, by rw [HE.out]; rfl, by rw [HE.out]; exact HT3.out, HX3.out⟩
  ·have HE : Hid (polyX x s = (er, [])) := hid (by rw [HPX.out, if_pos he])
   have q1 : (er == 0) = false := beq_eq_false_iff_ne.2 he
   clear he
   go_wp2
   all_goals
    go_ret2
    exact ⟨.slice none 0 0, by rw [HE.out]; rfl, by rw [HE.out]; exact Terms.nilv _ _ _ _ (by omega), HX1.out⟩
end
section
open Go.RowKit
theorem any_take {α : Type} {p : α → Bool} {l : List α} {k : Nat} {t : α} (h : l[k]? = some t) (h0 : (l.take k).any p = false) (h1 : p t = false) : (l.take (k + 1)).any p = false := by
 rw [List.take_add_one, List.any_append, h0, h]
 simp [h1]
theorem any_hit {α : Type} {p : α → Bool} {l : List α} {k : Nat} {t : α} (h : l[k]? = some t) (h1 : p t = true) : l.any p = true := List.any_eq_true.2 ⟨t, List.mem_of_getElem? h, h1⟩
theorem ref_has {S : Nat → Prop} {w : World} {vp : Value} {ts : List RTerm} (h : Terms S w vp ts) (x : Int) :
  Calls Tryz.prog 95 #[vp, .int .i64 x] w fun e w' => e = .returned (.bool (hasV x ts)) ∧ Ext w w' := by
 have HP := hid h
 have hl := h.len_le
 obtain ⟨a, c, rfl⟩ := h.form
 obtain ⟨n, hn⟩ : ∃ n, n = ts.length := ⟨_, rfl⟩
 rw [← hn] at HP hl ⊢
 have HN := hid hn
 clear h hn
 go_enter Tryz.func95, Tryz.ntmps95
 go_wp2
 go_loopw [5] (fun i wr => wr = w ∧ ∃ k : Nat, k ≤ n ∧ i = .int .i64 k ∧ Hid ((ts.take k).any (fun t => hasM x t.m) = false)) (fun i _ => n - (intOf i).toNat)
 case atStart => exact ⟨rfl, 0, Nat.zero_le _, rfl, hid rfl⟩
 case round =>
  obtain ⟨rfl, k, hk, rfl, HF⟩ := hrel
  by_cases hlt : k < n
  ·obtain ⟨t, ht⟩ := some_of_lt (l := ts) (j := k) (by rw [← HN.out]; exact hlt)
   obtain ⟨b, o, vm, vo, rfl, -, h2, h3, -, h5, h6, h7, h8, h9⟩ := HP.out.cellAt ht
   have HT := hid ht
   have H9 := hid h9
   have hlm := h9.len_le
   obtain ⟨ao, co, rfl⟩ := h9.form
   obtain ⟨nm, hnm⟩ : ∃ n, n = t.m.length := ⟨_, rfl⟩
   rw [← hnm] at h7 hlm H9
   have HNM := hid hnm
   clear h8 h9 ht hnm
   go_wp2
   go_loopw [6] (fun i wr2 => wr2 = wr ∧ ∃ j : Nat, j ≤ nm ∧ i = .int .i64 j ∧ Hid ((t.m.take j).any (fun w => decide (w.1 = x)) = false)) (fun i _ => nm - (intOf i).toNat)
   case atStart => exact ⟨rfl, 0, Nat.zero_le _, rfl, hid rfl⟩
   case round =>
    obtain ⟨rfl, j, hj, rfl, HG⟩ := hrel
    by_cases hlj : j < nm
    ·obtain ⟨y, hy⟩ := some_of_lt (l := t.m) (j := j) (by rw [← HNM.out]; exact hlj)
     obtain ⟨b', o', rfl, -, g2, g3, -, gz, g5, g6⟩ := H9.out.cellAt hy
     have HY := hid hy
     clear hy
     obtain ⟨y1, y2⟩ := y
     simp only at g5 g6
     by_cases he : y1 = x
     ·have q : (y1 == x) = true := beq_iff_eq.2 he
      have HE := hid he
      clear he
      go_wp2
      all_goals
       go_ret
       refine ⟨?_, Ext.refl _⟩
       rw [show hasV x ts = true from any_hit HT.out (any_hit HY.out (decide_eq_true HE.out))]
       rfl
     ·have q : (y1 == x) = false := beq_eq_false_iff_ne.2 he
      have HE := hid he
      clear he
      go_wp2
      go_roundw
      case rel => exact ⟨trivial, j + 1, by omega, by go_num, hid (any_take HY.out HG.out (decide_eq_false HE.out))⟩
      case measure => simp only [intOf]; omega
    ·obtain rfl : j = nm := by omega
     have HA : Hid (hasM x t.m = false) := hid (by have h := HG.out; rwa [List.take_of_length_le (by rw [← HNM.out]; exact Nat.le_refl _)] at h)
     go_wp2
     go_roundw
     case rel => exact ⟨trivial, k + 1, by omega, by go_num, hid (any_take HT.out HF.out HA.out)⟩
     case measure => simp only [intOf]; omega
  ·obtain rfl : k = n := by omega
   have HA : Hid (hasV x ts = false) := hid (by have h := HF.out; rwa [List.take_of_length_le (by rw [← HN.out]; exact Nat.le_refl _)] at h)
   go_wp2
   all_goals
    go_ret
    refine ⟨?_, Ext.refl _⟩
    rw [HA.out]
    rfl
theorem ref_points {W : World} {v vp : Value} {x : Lay} {ts : List RTerm} (hx : LayV (Old W) W v x) (ht : Terms (Old W) W vp ts) (hpl : x.pts.length ≤ 1000) (hal : x.ats.length ≤ 1000) :
  Calls Tryz.prog 57 #[v, vp] W fun e w' => ∃ v', e = .returned v' ∧ Strs (New W w') w' v' (namesP x ts) ∧ Ext W w' := by
 obtain ⟨vq, va, rfl, hp, ha⟩ := hx
 have HP := hid hp
 have HA := hid ha
 have HT := hid ht
 obtain ⟨ap, cp, rfl⟩ := hp.form
 obtain ⟨aa, ca, rfl⟩ := ha.form
 obtain ⟨at_, ct, rfl⟩ := ht.form
 obtain ⟨np, hnp⟩ : ∃ n, n = x.pts.length := ⟨_, rfl⟩
 obtain ⟨na, hna⟩ : ∃ n, n = x.ats.length := ⟨_, rfl⟩
 obtain ⟨nt, hnt⟩ : ∃ n, n = ts.length := ⟨_, rfl⟩
 rw [← hnp] at HP hpl ⊢
 rw [← hna] at HA hal ⊢
 rw [← hnt] at HT ⊢
 have HNP := hid hnp
 have HNA := hid hna
 obtain ⟨w0, hw0⟩ : ∃ Y, Y = W.alloc (.cells #[.slice ap np cp, .slice aa na ca, .int .i64 x.par, .int .i64 x.vrs] 35) := ⟨_, rfl⟩
 have HX0 : Hid (Ext W w0) := hid (by rw [hw0]; exact Ext.alloc (Ext.refl _) _)
 have HB := hid (fun (Y : World) (hY : Ext w0 Y) => blk_new4 W (.slice ap np cp) (.slice aa na ca) (.int .i64 x.par) (.int .i64 x.vrs) 35 (Y := Y) (by rw [← hw0]; exact hY))
 obtain ⟨d0, d1⟩ := HB.out w0 (Ext.refl _)
 rw [hw0] at d0 d1
 obtain ⟨m, hm⟩ : ∃ m, m = min np na := ⟨_, rfl⟩
 have HM := hid hm
 clear hp ha ht hnp hna hnt hm
 go_enter Tryz.func57, Tryz.ntmps57
 go_wp2
 rw [← hw0]
 clear d0 d1
 go_loopw [5, 6] (fun o i wr => ∃ k : Nat, k ≤ m ∧ i = .int .i64 k ∧ Hid (wr.ownsRow w0.heap.size 9 1 o (namesK x ts k).length ((namesK x ts k).map strV)) ∧ Ext w0 wr) (fun _ i _ => m - (intOf i).toNat)
 case atStart => exact ⟨0, Nat.zero_le _, rfl, hid (World.ownsRow_nil _ _ _ _), Ext.refl _⟩
 case round =>
  obtain ⟨k, hk, rfl, HO, hxr⟩ := hrel
  have HX := hid hxr
  obtain ⟨c0, c1⟩ := HB.out _ hxr
  clear hxr
  by_cases hlt : k < m
  ·have hk1 : k < np := by have := HM.out; omega
   have hk2 : k < na := by have := HM.out; omega
   obtain ⟨nm, hnm⟩ := some_of_lt (l := x.pts) (j := k) (by rw [← HNP.out]; exact hk1)
   obtain ⟨c, hc⟩ := some_of_lt (l := x.ats) (j := k) (by rw [← HNA.out]; exact hk2)
   obtain ⟨b1, o1, rfl, -, hq1, hq2, -, hq3⟩ := (HP.out.to (Kept.ext (HX0.out.trans HX.out) (fun _ h => h)) (old_lt (HX0.out.trans HX.out))).cellAt hnm
   obtain ⟨b2, o2, rfl, -, hq4, hq5, -, -, z0, z1⟩ := (HA.out.on (HX0.out.trans HX.out)).cellAt hc
   have HZ : Hid ((x.pts.zip x.ats)[k]? = some (nm, c)) := hid (by rw [List.getElem?_zip_eq_some]; exact ⟨hnm, hc⟩)
   obtain ⟨u, z⟩ := c
   simp only at z0 z1
   have HNK : Hid (namesK x ts (k + 1) = namesK x ts k ++ (match pickN ts (nm, (u, z)) with | some a => [a] | none => [])) := hid (by
    unfold namesK
    rw [List.take_add_one, HZ.out, List.filterMap_append]
    show _ ++ List.filterMap (pickN ts) [(nm, (u, z))] = _
    rw [List.filterMap_cons]
    cases pickN ts (nm, (u, z)) <;> rfl)
   have HH1 := hid (ref_has (HT.out.on (HX0.out.trans HX.out)) u)
   have HH2 := hid (fun (Y : World) (hY : Ext wr Y) => ref_has (HT.out.on ((HX0.out.trans HX.out).trans hY)) z)
   have HDL : Hid ((namesK x ts k).length ≤ 1000000000) := hid (Nat.le_trans (namesK_len x ts k) (by omega))
   have HQ3 := hid hq3
   have HZ1 := hid z1
   obtain ⟨bx, hbx⟩ : ∃ b, b = hasV u ts := ⟨_, rfl⟩
   obtain ⟨bz, hbz⟩ : ∃ b, b = hasV z ts := ⟨_, rfl⟩
   rw [← hbx] at HH1
   rw [← hbz] at HH2
   have HBX := hid hbx
   have HBZ := hid hbz
   clear hnm hc hbx hbz hq3 z1
   go_wp2_with fail
   with_reducible refine HH1.out.mono ?_
   rintro e w1 ⟨rfl, hx1⟩
   have HX1 := hid (HX.out.trans hx1)
   have HX1' := hid hx1
   obtain ⟨e0, e1⟩ := HB.out _ HX1.out
   have hq3 := hx1.cell HQ3.out
   have z1 := hx1.cell HZ1.out
   have HO1 : Hid (w1.ownsRow w0.heap.size 9 1 _ (namesK x ts k).length ((namesK x ts k).map strV)) := hid (own_ext HO.out hx1)
   have HBS2 : Hid (w0.heap.size ≤ w1.heap.size) := hid HX1.out.size
   clear hx1 c0 c1 z0
   cases bx with
   | true =>
    have HPK : Hid (namesK x ts (k + 1) = namesK x ts k ++ [nm]) := hid (by rw [HNK.out]; unfold pickN; simp only [← HBX.out]; rfl)
    go_wp2_with (at_builtin; refine wpList_append_new _ rfl (.tmp 39) (.tmp 45) 32 rfl w0.heap.size 9 (.string ByteArray.empty) 1 16 Tryz.underlying32 Tryz.infoStr rfl (by decide) _ _ _ rfl HO1.out #[.string nm] rfl (str_cell _) rfl HDL.out (by decide) HBS2.out ?_; intro v1 w5 hown hg _; have HOW := hid hown; have HG := hid hg; clear hown hg)
    go_roundw
    case rel =>
     refine ⟨k + 1, by omega, by go_num, hid ?_, own_grown0 HX1.out HO1.out HG.out⟩
     rw [HPK.out, List.length_append, List.map_append]
     exact HOW.out
    case measure => simp only [intOf]; omega
   | false =>
    go_wp2_with fail
    with_reducible refine (HH2.out w1 HX1'.out).mono ?_
    rintro e w2 ⟨rfl, hx2⟩
    have HX1 := hid (HX1.out.trans hx2)
    obtain ⟨f0, f1⟩ := HB.out _ HX1.out
    have hq3 := hx2.cell hq3
    have HO1 : Hid (w2.ownsRow w0.heap.size 9 1 _ (namesK x ts k).length ((namesK x ts k).map strV)) := hid (own_ext HO1.out hx2)
    have HBS2 : Hid (w0.heap.size ≤ w2.heap.size) := hid HX1.out.size
    clear hx2 e0 e1 z1
    cases bz with
    | true =>
     have HPK : Hid (namesK x ts (k + 1) = namesK x ts k ++ [nm]) := hid (by rw [HNK.out]; unfold pickN; simp only [← HBX.out, ← HBZ.out]; rfl)
     go_wp2_with (at_builtin; refine wpList_append_new _ rfl (.tmp 39) (.tmp 45) 32 rfl w0.heap.size 9 (.string ByteArray.empty) 1 16 Tryz.underlying32 Tryz.infoStr rfl (by decide) _ _ _ rfl HO1.out #[.string nm] rfl (str_cell _) rfl HDL.out (by decide) HBS2.out ?_; intro v1 w5 hown hg _; have HOW := hid hown; have HG := hid hg; clear hown hg)
     go_roundw
     case rel =>
      refine ⟨k + 1, by omega, by go_num, hid ?_, own_grown0 HX1.out HO1.out HG.out⟩
      rw [HPK.out, List.length_append, List.map_append]
      exact HOW.out
     case measure => simp only [intOf]; omega
    | false =>
     have HPK : Hid (namesK x ts (k + 1) = namesK x ts k) := hid (by rw [HNK.out]; unfold pickN; simp only [← HBX.out, ← HBZ.out]; exact List.append_nil _)
     go_wp2
     go_roundw
     case rel => exact ⟨k + 1, by omega, by go_num, hid (by rw [HPK.out]; exact HO1.out), HX1.out⟩
     case measure => simp only [intOf]; omega
  ·obtain rfl : m = k := by omega
   have HTN : Hid (namesK x ts m = namesP x ts) := hid (by
    unfold namesK namesP
    rw [List.take_of_length_le (by rw [List.length_zip, ← HNP.out, ← HNA.out, HM.out]; exact Nat.le_refl _)])
   by_cases e1 : m < np
   ·have e2 : na ≤ m := by have := HM.out; omega
    go_wp2
    all_goals
     go_ret
     have h1 := HO.out
     rw [HTN.out] at h1
     exact ⟨_, rfl, (own_strs h1).to (Kept.refl _ _) (fun j hj => ⟨Nat.le_trans HX0.out.size hj.1, hj.2⟩), HX0.out.trans HX.out⟩
   ·go_wp2
    all_goals
     go_ret
     have h1 := HO.out
     rw [HTN.out] at h1
     exact ⟨_, rfl, (own_strs h1).to (Kept.refl _ _) (fun j hj => ⟨Nat.le_trans HX0.out.size hj.1, hj.2⟩), HX0.out.trans HX.out⟩
end
section
open Go.RowKit
def tryD (x : Lay) (p : PZ) (wd : ByteArray) (names : List ByteArray) : Nat → List ByteArray → Option (List ByteArray)
 | 0, row => if hitP x p wd row then some row else none
 | r + 1, row => names.findSome? fun nm => tryD x p wd names r (row ++ [nm])
theorem range_mul (M : Nat) : ∀ L : Nat, List.range (L * M) = (List.range L).flatMap fun i => (List.range M).map fun k => i * M + k
 | 0 => by simp
 | L + 1 => by
  rw [Nat.add_mul, Nat.one_mul, List.range_add, range_mul M L, List.range_succ, List.flatMap_append]
  simp
theorem row_cons {names : List ByteArray} {r i k : Nat} (hi : i < names.length) (hk : k < names.length ^ r) : rowK names (r + 1) (i * names.length ^ r + k) = names.getD i ByteArray.empty :: rowK names r k := by
 have hL : 0 < names.length := by omega
 unfold rowK
 rw [List.range_succ_eq_map, List.map_cons, List.map_map]
 congr 1
 ·congr 1
  unfold dgt
  rw [show r + 1 - 1 - 0 = r by omega, Nat.mul_comm i, Nat.mul_add_div (Nat.pow_pos hL), Nat.div_eq_of_lt hk, Nat.add_zero, Nat.mod_eq_of_lt hi]
 ·refine List.map_congr_left fun j hj => ?_
  have hjr := List.mem_range.1 hj
  show names.getD (dgt names.length (r + 1) (i * names.length ^ r + k) (j + 1)) ByteArray.empty = names.getD (dgt names.length r k j) ByteArray.empty
  congr 1
  unfold dgt
  rw [show r + 1 - 1 - (j + 1) = r - 1 - j by omega]
  obtain ⟨e, he⟩ : ∃ e, e = r - 1 - j := ⟨_, rfl⟩
  rw [← he]
  have h2 : names.length ^ r = names.length ^ e * (names.length ^ j * names.length) := by
   rw [← Nat.pow_succ, ← Nat.pow_add]
   congr 1
   omega
  rw [h2, Nat.mul_comm i, Nat.mul_assoc, Nat.mul_add_div (Nat.pow_pos hL), show names.length ^ j * names.length * i = names.length * (names.length ^ j * i) by rw [Nat.mul_comm (names.length ^ j), Nat.mul_assoc], Nat.mul_add_mod]
theorem find_congr {α β : Type} {f g : α → Option β} : ∀ {l : List α}, (∀ x ∈ l, f x = g x) → l.findSome? f = l.findSome? g
 | [], _ => rfl
 | a :: l, h => by
  rw [List.findSome?_cons, List.findSome?_cons, h a (by simp), find_congr (fun x hx => h x (by simp [hx]))]
theorem range_getD (l : List ByteArray) : (List.range l.length).map (fun i => l.getD i ByteArray.empty) = l := by
 apply List.ext_getElem
 ·simp
 ·intro i h1 h2
  simp [List.getD_eq_getElem?_getD, h2]
theorem try_find {x : Lay} {p : PZ} {wd : ByteArray} {names : List ByteArray} : ∀ (r : Nat) (row : List ByteArray), tryD x p wd names r row = ((List.range (names.length ^ r)).map fun k => row ++ rowK names r k).find? (hitP x p wd)
 | 0, row => by
  show (if hitP x p wd row then some row else none) = _
  rw [Nat.pow_zero, show (List.range 1).map (fun k => row ++ rowK names 0 k) = [row] by simp [rowK]]
  by_cases h : hitP x p wd row = true <;> simp [h]
 | r + 1, row => by
  show names.findSome? (fun nm => tryD x p wd names r (row ++ [nm])) = _
  rw [Nat.pow_succ, Nat.mul_comm, range_mul, List.map_flatMap, List.find?_flatMap]
  rw [show names.findSome? (fun nm => tryD x p wd names r (row ++ [nm])) = ((List.range names.length).map fun i => names.getD i ByteArray.empty).findSome? (fun nm => tryD x p wd names r (row ++ [nm])) by rw [range_getD], List.findSome?_map]
  refine find_congr fun i hi => ?_
  have hil := List.mem_range.1 hi
  show tryD x p wd names r (row ++ [names.getD i ByteArray.empty]) = _
  rw [try_find r]
  congr 1
  rw [List.map_map]
  refine List.map_congr_left fun k hk => ?_
  show row ++ [names.getD i ByteArray.empty] ++ rowK names r k = row ++ rowK names (r + 1) (i * names.length ^ r + k)
  rw [row_cons hil (List.mem_range.1 hk), List.append_assoc]
  rfl
theorem try_hit (x : Lay) (p : PZ) (wd : ByteArray) (names : List ByteArray) (m : Nat) : tryD x p wd names m [] = hitW x p names wd m := by
 rw [try_find]
 unfold hitW
 rw [List.find?_map]
 rfl
theorem Strs.src {S : Nat → Prop} {w : World} {xs : List ByteArray} {a : Option Addr} {n cap : Nat} (h : Strs S w (.slice a n cap) xs) : SrcAt w a n 1 (xs.map strV) := by
 obtain ⟨b, off, ⟨a', cap', h1, h2, h3, h4, h5⟩, hc⟩ := h
 obtain ⟨rfl, rfl, rfl⟩ : a = a' ∧ n = xs.length ∧ cap = cap' := by simpa using h1
 refine ⟨by simp, fun u hu => ?_, fun h0 => ⟨_, h4 h0, fun j u hu => ?_⟩⟩
 ·obtain ⟨y, -, rfl⟩ := List.mem_map.1 hu
  rfl
 ·rw [List.getElem?_map] at hu
  obtain ⟨y, hy, rfl⟩ := Option.map_eq_some_iff.1 hu
  rw [add_off]
  exact hc j y hy
theorem ofP_same (a b : PZ) : decide (ofP a = ofP b) = decide (a = b) := by
 rw [decide_eq_decide]
 exact ⟨fun h => by rw [← toP_ofP a, h, toP_ofP], fun h => by rw [h]⟩
theorem find_take {α β : Type} {f : α → Option β} {l : List α} {k : Nat} {t : α} (h : l[k]? = some t) (h0 : (l.take k).findSome? f = none) (h1 : f t = none) : (l.take (k + 1)).findSome? f = none := by
 rw [List.take_add_one, List.findSome?_append, h0, h]
 simp [h1]
theorem find_hit {α β : Type} {f : α → Option β} {l : List α} {k : Nat} {t : α} {y : β} (h : l[k]? = some t) (h0 : (l.take k).findSome? f = none) (h1 : f t = some y) : l.findSome? f = some y := by
 have e : l = l.take k ++ t :: l.drop (k + 1) := by
  conv => lhs; rw [← List.take_append_drop k l]
  rw [List.drop_eq_getElem_cons (lt_of_some h)]
  rw [List.getElem?_eq_getElem (lt_of_some h)] at h
  rw [Option.some.inj h]
 rw [e, List.findSome?_append, h0, List.findSome?_cons, h1]
 rfl
theorem src_at1 {w : World} {b : Nat} {s : ByteArray} (h : w.cell? ⟨b, 0, none⟩ = some (.string s)) : SrcAt w (some ⟨b, 0, none⟩) 1 1 [Value.string s] :=
 ⟨rfl, fun u hu => by rw [List.mem_singleton.1 hu]; rfl, fun _ => ⟨_, rfl, fun j u hu => by
  cases j with
  | zero => rw [add_off]; obtain rfl := Option.some.inj hu; exact h
  | succ j => simp at hu⟩⟩
theorem try_row {w : World} {base nr : Nat} {e : TypeId} {v : Value} {row : List ByteArray} {nm : ByteArray} (h : w.ownsRow base e 1 v (0 + nr + 1) ([] ++ row.map strV ++ [Value.string nm])) (hn : nr = row.length) : Strs (fun k => base ≤ k ∧ k < w.heap.size) w v (row ++ [nm]) :=
 own_strs (xs := row ++ [nm]) (by
  rw [List.length_append, List.map_append, ← hn]
  rw [List.nil_append, Nat.zero_add] at h
  exact h)
def TryV (S : Nat → Prop) (W : World) (v : Value) (o : Option (List ByteArray)) : Prop := ∀ row, o = some row → Strs S W v row
theorem ref_try {x : Lay} {p : PZ} {wd : ByteArray} {names : List ByteArray} {kp np m : Nat} (hok : ∀ c ∈ x.ats, Ok2 c) (fp : Fit kp np p) (hm : m ≤ 10) :
  ∀ (r : Nat) (row : List ByteArray) (W : World) (v vp vn vr : Value) (R : Nat → Prop), (∀ k, R k → k < W.heap.size) → row.length + r = m → LayV (Old W) W v x → PV W vp p → Strs (Old W) W vn names → Strs R W vr row →
  Calls Tryz.prog 58 #[v, vp, .string wd, vn, vr, .int .i64 (m : Nat)] W fun e w' => ∃ v', e = .returned (.tuple #[v', .bool (tryD x p wd names r row).isSome]) ∧ TryV (Plus R W w') w' v' (tryD x p wd names r row) ∧ Ext W w' := by
 intro r
 induction r with
 | zero =>
  intro row W v vp vn vr R hR hrow hx hp hn hr
  have HL := hid (fun (Y : World) (hY : Ext W Y) => hx.on hY)
  have HP := hid (fun (Y : World) (hY : Ext W Y) => Terms.on hp hY)
  have HR := hid (fun (Y : World) (hY : Ext W Y) => hr.to (Kept.ext hY hR) (fun _ h => h))
  have HRL := hid hR
  obtain ⟨vq, va, rfl, hq, ha⟩ := hx
  obtain ⟨ap, cp, rfl⟩ := hq.form
  obtain ⟨aa, ca, rfl⟩ := ha.form
  obtain ⟨at_, ct, rfl⟩ := hp.form
  obtain ⟨an, cn, rfl⟩ := hn.form
  obtain ⟨ar, cr, e0⟩ := hr.form
  rw [show row.length = m by omega] at e0
  subst e0
  obtain ⟨nq, hnq⟩ : ∃ n, n = x.pts.length := ⟨_, rfl⟩
  obtain ⟨na, hna⟩ : ∃ n, n = x.ats.length := ⟨_, rfl⟩
  obtain ⟨nn, hnn⟩ : ∃ n, n = names.length := ⟨_, rfl⟩
  obtain ⟨nt, hnt⟩ : ∃ n, n = (ofP p).length := ⟨_, rfl⟩
  rw [← hnq, ← hna] at HL ⊢
  rw [← hnt] at HP ⊢
  rw [← hnn]
  obtain ⟨w0, hw0⟩ : ∃ Y, Y = W.alloc (.cells #[.slice ap nq cp, .slice aa na ca, .int .i64 x.par, .int .i64 x.vrs] 35) := ⟨_, rfl⟩
  have HX0 : Hid (Ext W w0) := hid (by rw [hw0]; exact Ext.alloc (Ext.refl _) _)
  have HB := hid (fun (Y : World) (hY : Ext w0 Y) => by
   rw [hw0] at hY
   have k0 : ∀ (i : Nat) (u : Value), #[Value.slice ap nq cp, .slice aa na ca, .int .i64 x.par, .int .i64 x.vrs][i]? = some u → Y.cell? ⟨W.heap.size, i, none⟩ = some u := fun i u hu => hY.cell (cell_new W _ _ rfl hu)
   exact And.intro (k0 0 _ rfl) (And.intro (k0 1 _ rfl) (And.intro (k0 2 _ rfl) (k0 3 _ rfl))))
  have CC := ref_condition (W := w0) (wd := wd) (names := row) (HL.out w0 HX0.out) hok ((HR.out w0 HX0.out).to (Kept.refl _ _) (fun k h => Nat.lt_of_lt_of_le (HRL.out k h) HX0.out.size)) (by omega)
  have HC := hid (fun (q : PZ) (h : condX x wd row = (0, q)) => cond_fit hok h)
  have HW0 := hid hw0
  obtain ⟨er, q, hcq⟩ : ∃ er q, condX x wd row = (er, q) := ⟨_, _, rfl⟩
  rw [hcq] at CC
  have CC := hid CC
  have HCQ := hid hcq
  have HT : Hid (tryD x p wd names 0 row = if hitP x p wd row then some row else none) := hid rfl
  have HB0 := hid (HB.out w0 (Ext.refl _))
  clear hq ha hp hn hr hnq hna hnn hnt hw0 hcq hrow hR
  go_enter Tryz.func58, Tryz.ntmps58
  go_upto_region 1 with fail
  rw [← HW0.out]
  obtain ⟨d0, d1, d2, d3⟩ := HB0.out
  go_wp2_with fail
  with_reducible refine CC.out.mono ?_
  rintro e w1 ⟨v1, rfl, ht1, hx1⟩
  have HX1 := hid (HX0.out.trans hx1)
  have HT1 := hid ht1
  obtain ⟨a1, c1, rfl⟩ := ht1.form
  obtain ⟨n1, hn1⟩ : ∃ n, n = (ofP q).length := ⟨_, rfl⟩
  rw [← hn1] at HT1 ⊢
  have HN1 := hid hn1
  clear ht1 hx1 d0 d1 d2 d3 hn1
  by_cases he : er = 0
  ·subst he
   by_cases h0 : q = []
   ·have HE : Hid (tryD x p wd names 0 row = none) := hid (by rw [HT.out, hit_nil (p := p) (by have h := HCQ.out; rw [h0] at h; exact h)]; rfl)
    have hn0 : n1 = 0 := by rw [HN1.out, h0]; rfl
    subst hn0
    clear h0
    go_wp2
    all_goals
     go_ret2
     exact ⟨.slice none 0 0, by rw [HE.out]; rfl, (by rw [HE.out]; intro _ h; cases h), HX1.out⟩
   ·have hn0 : 0 < n1 := by rw [HN1.out, ofP_len]; exact List.length_pos_iff.2 h0
    have HF := hid (HC.out q HCQ.out)
    have CW := hid (ref_whole28 (p := q) (v := .slice a1 n1 c1) (W := w1) HT1.out HF.out (by decide) (by decide))
    have HH := hid (hit_same (p := p) HCQ.out h0)
    obtain ⟨tt, htt⟩ : ∃ b, b = decide (wholeP q = p) := ⟨_, rfl⟩
    rw [← htt] at HH
    have HTT := hid htt
    clear h0 htt
    go_wp2_with fail
    with_reducible refine CW.out.mono ?_
    rintro e w2 ⟨v2, rfl, ht2, hx2⟩
    have HX2 := hid (HX1.out.trans hx2)
    have CS := rpoly_same (S := Old w2) v2 (.slice at_ nt ct) (ofP (wholeP q)) (ofP p) w2 ht2 (HP.out w2 HX2.out) (fun _ h => h)
    rw [ofP_same, ← HTT.out] at CS
    have CS := hid CS
    obtain ⟨a2, c2, rfl⟩ := ht2.form
    clear ht2 hx2
    go_wp2_with fail
    with_reducible refine CS.out.mono ?_
    rintro e w3 ⟨rfl, hx3⟩
    have HX3 := hid (HX2.out.trans hx3)
    clear hx3
    cases tt with
    | true =>
     have HE : Hid (tryD x p wd names 0 row = some row) := hid (by rw [HT.out, HH.out]; rfl)
     go_wp2
     all_goals
      go_ret2
      exact ⟨_, by rw [HE.out]; rfl, (by rw [HE.out]; intro _ h; obtain rfl := Option.some.inj h; exact (HR.out _ HX3.out).to (Kept.refl _ _) (fun _ h => .inl h)), HX3.out⟩
    | false =>
     have HE : Hid (tryD x p wd names 0 row = none) := hid (by rw [HT.out, HH.out]; rfl)
     go_wp2
     all_goals
      go_ret2
      exact ⟨.slice none 0 0, by rw [HE.out]; rfl, (by rw [HE.out]; intro _ h; cases h), HX3.out⟩
  ·have HE : Hid (tryD x p wd names 0 row = none) := hid (by rw [HT.out, hit_err (p := p) HCQ.out he]; rfl)
   have q1 : (er == 0) = false := beq_eq_false_iff_ne.2 he
   clear he
   go_wp2
   all_goals
    go_ret2
    exact ⟨.slice none 0 0, by rw [HE.out]; rfl, (by rw [HE.out]; intro _ h; cases h), HX1.out⟩
 | succ r ih =>
  intro row W v vp vn vr R hR hrow hx hp hn hr
  obtain ⟨j0, hj, jz0, jz1, jz2⟩ := info_parts Tryz.infoStr
  have HL := hid (fun (Y : World) (hY : Ext W Y) => hx.on hY)
  have HP := hid (fun (Y : World) (hY : Ext W Y) => Terms.on hp hY)
  have HN := hid (fun (Y : World) (hY : Ext W Y) => hn.to (Kept.ext hY (fun _ h => h)) (old_lt hY))
  have HR := hid (fun (Y : World) (hY : Ext W Y) => hr.to (Kept.ext hY hR) (fun _ h => h))
  have HRL := hid hR
  have hln := hn.len_le
  obtain ⟨vq, va, rfl, hq, ha⟩ := hx
  obtain ⟨ap, cp, rfl⟩ := hq.form
  obtain ⟨aa, ca, rfl⟩ := ha.form
  obtain ⟨at_, ct, rfl⟩ := hp.form
  obtain ⟨an, cn, rfl⟩ := hn.form
  obtain ⟨ar, cr, rfl⟩ := hr.form
  obtain ⟨nq, hnq⟩ : ∃ n, n = x.pts.length := ⟨_, rfl⟩
  obtain ⟨na, hna⟩ : ∃ n, n = x.ats.length := ⟨_, rfl⟩
  obtain ⟨nn, hnn⟩ : ∃ n, n = names.length := ⟨_, rfl⟩
  obtain ⟨nt, hnt⟩ : ∃ n, n = (ofP p).length := ⟨_, rfl⟩
  obtain ⟨nr, hnr⟩ : ∃ n, n = row.length := ⟨_, rfl⟩
  rw [← hnq, ← hna] at HL ⊢
  rw [← hnt] at HP ⊢
  rw [← hnn] at HN hln ⊢
  rw [← hnr] at HR hrow ⊢
  have HNN := hid hnn
  have HNR := hid hnr
  have HROW := hid hrow
  have IH := hid (fun (Y : World) (nm : ByteArray) (u : Value) (R' : Nat → Prop) (hR' : ∀ k, R' k → k < Y.heap.size) (hY : Ext W Y) (hu : Strs R' Y u (row ++ [nm])) => ih (row ++ [nm]) Y _ _ _ u R' hR' (by rw [List.length_append, ← hnr]; simp only [List.length_cons, List.length_nil]; omega) (HL.out Y hY) (HP.out Y hY) (HN.out Y hY) hu)
  obtain ⟨F, hF⟩ : ∃ F, F = fun nm => tryD x p wd names r (row ++ [nm]) := ⟨_, rfl⟩
  have HT : Hid (tryD x p wd names (r + 1) row = names.findSome? F) := hid (by rw [hF]; rfl)
  have HF := hid (fun nm => show tryD x p wd names r (row ++ [nm]) = F nm by rw [hF])
  obtain ⟨b6, hb6⟩ : ∃ b, b = W.heap.size := ⟨_, rfl⟩
  obtain ⟨w0, hw0⟩ : ∃ Y, Y = W.alloc (.cells #[.slice ap nq cp, .slice aa na ca, .int .i64 x.par, .int .i64 x.vrs] 35) := ⟨_, rfl⟩
  have HX0 : Hid (Ext W w0) := hid (by rw [hw0]; exact Ext.alloc (Ext.refl _) _)
  have HB := hid (fun (Y : World) (hY : Ext w0 Y) => by
   rw [hw0] at hY
   have k0 : ∀ (i : Nat) (u : Value), #[Value.slice ap nq cp, .slice aa na ca, .int .i64 x.par, .int .i64 x.vrs][i]? = some u → Y.cell? ⟨b6, i, none⟩ = some u := fun i u hu => hY.cell (cell_new W _ _ hb6 hu)
   exact And.intro (k0 0 _ rfl) (And.intro (k0 1 _ rfl) (And.intro (k0 2 _ rfl) (k0 3 _ rfl))))
  have HW0 := hid hw0
  have HB6 := hid hb6
  have q0 : ((nr : Int) == (m : Int)) = false := beq_eq_false_iff_ne.2 (by omega)
  clear hq ha hp hn hr hnq hna hnn hnt hnr hw0 hb6 hF hrow ih hR
  go_enter Tryz.func58, Tryz.ntmps58
  go_upto_region 1 with fail
  rw [← HB6.out]
  rw [← HW0.out]
  go_wp2
  go_loopw [16] (fun i wr => ∃ k : Nat, k ≤ nn ∧ i = .int .i64 (k : Nat) ∧ Hid (Ext w0 wr) ∧ Hid ((names.take k).findSome? F = none)) (fun i _ => nn - (intOf i).toNat)
  case atStart => exact ⟨0, Nat.zero_le _, rfl, hid (Ext.refl _), hid rfl⟩
  case round =>
   obtain ⟨k, hk, rfl, HX, HFN⟩ := hrel
   by_cases hlt : k < nn
   ·obtain ⟨nm, hnm⟩ := some_of_lt (l := names) (j := k) (by rw [← HNN.out]; exact hlt)
    obtain ⟨bn, on, rfl, -, hq1, hq2, -, hq3⟩ := (HN.out wr (HX0.out.trans HX.out)).cellAt hnm
    have HNM := hid hnm
    have HS := hid (fun (Y : World) (hY : Ext wr Y) => And.intro (HB.out Y (HX.out.trans hY)) (hY.cell hq3))
    have HE1 : Hid (Ext wr (wr.alloc (.cells #[] 9)).drew) := hid ((Ext.refl wr).alloc _).drew
    have HE2 : Hid (Ext wr ((wr.alloc (.cells #[] 9)).alloc (.cells #[.string nm] 9)).drew) := hid (((Ext.refl wr).alloc _).alloc _).drew
    have HE3 : Hid (Ext wr ((wr.alloc (.cells #[.string nm] 9)).alloc (.cells #[] 9)).drew) := hid (((Ext.refl wr).alloc _).alloc _).drew
    have HO1 : Hid ((wr.alloc (.cells #[] 9)).drew.ownsRow wr.heap.size 9 1 (.slice (some ⟨wr.heap.size, 0, none⟩) 0 0) 0 []) := hid (World.ownsRow_made (base := wr.heap.size) (e := 9) (size := 1) wr #[] 0 (Nat.le_refl _) (by unfold maxLen; omega) (by simp))
    have HO2 : Hid (((wr.alloc (.cells #[] 9)).alloc (.cells #[.string nm] 9)).drew.ownsRow wr.heap.size 9 1 (.slice (some ⟨wr.heap.size, 0, none⟩) 0 0) 0 []) := hid (own_ext (show (wr.alloc (.cells #[] 9)).ownsRow wr.heap.size 9 1 (.slice (some ⟨wr.heap.size, 0, none⟩) 0 0) 0 [] from HO1.out) ((Ext.refl _).alloc _).drew)
    have HO3 : Hid (((wr.alloc (.cells #[.string nm] 9)).alloc (.cells #[] 9)).drew.ownsRow wr.heap.size 9 1 (.slice (some ⟨wr.heap.size + 1, 0, none⟩) 0 0) 0 []) := hid (by
     have h := World.ownsRow_made (base := wr.heap.size) (e := 9) (size := 1) (wr.alloc (.cells #[.string nm] 9)) #[] 0 (by rw [size_alloc]; omega) (by unfold maxLen; omega) (by simp)
     rw [size_alloc] at h
     exact h)
    have HSR := hid (fun (Y : World) (hY : Ext wr Y) => (HR.out Y ((HX0.out.trans HX.out).trans hY)).src)
    have HB63 : Hid (0 + nr ≤ maxLen) := hid (by have := HROW.out; unfold maxLen; omega)
    have HB64 : Hid ((0 + nr) * 16 ≤ 140737488355328) := hid (by have := HROW.out; omega)
    have HB73 : Hid (0 + nr + 1 ≤ maxLen) := hid (by have := HROW.out; unfold maxLen; omega)
    have HB74 : Hid ((0 + nr + 1) * 16 ≤ 140737488355328) := hid (by have := HROW.out; omega)
    have HXD := hid (show Ext wr wr.drew from (Ext.refl wr).drew)
    clear hnm hq3
    go_upto_region 9 with fail
    go_region_held3 (fun Y => (Y.cell? ⟨b6, 0, none⟩ = some (.slice ap nq cp) ∧ Y.cell? ⟨b6, 1, none⟩ = some (.slice aa na ca) ∧ Y.cell? ⟨b6, 2, none⟩ = some (.int .i64 x.par) ∧ Y.cell? ⟨b6, 3, none⟩ = some (.int .i64 x.vrs)) ∧ Y.cell? ⟨bn, on + k, none⟩ = some (.string nm)) (first | exact HS.out _ HXD.out | exact HS.out _ HE1.out | exact HS.out _ HE2.out | exact HS.out _ HE3.out | exact HS.out _ HX1.out | exact HS.out _ (HX1.out.alloc _) | exact HS.out _ HX2.out | exact HS.out _ HX3.out | exact HS.out _ (((Ext.refl wr).alloc _).drew))
     (first
     | (refine step_append_src rfl (.tmp 55) (.tmp 56) 32 rfl wr.heap.size 9 j0 (.string ByteArray.empty) 1 16 Tryz.underlying32 hj jz0 jz1 jz2 rfl (Nat.succ_pos _) (.slice (some ⟨wr.heap.size, 0, none⟩) 0 0) 0 [] rfl HO1.out ar nr cr _ rfl (HSR.out _ HE1.out) HB63.out HB64.out HE1.out.size ?_; intro v1 w1 hown hg hbk; have HX1 := hid (own_grown0 HE1.out HO1.out hg); have HW1 := hid hown; have HSRC : Hid (SrcAt (w1.alloc (.cells #[.string nm] 9)) (some ⟨w1.heap.size, 0, none⟩) 1 1 [Value.string nm]) := hid (src_one w1 #[.string nm] 9 (str_cell nm) (size := 1) rfl); have HWX := hid (own_ext HW1.out ((Ext.refl w1).alloc (.cells #[.string nm] 9))); have HXX := hid (HX1.out.alloc (.cells #[.string nm] 9)); clear hown hg hbk)
     | (refine step_append_src rfl (.tmp 55) (.tmp 56) 32 rfl wr.heap.size 9 j0 (.string ByteArray.empty) 1 16 Tryz.underlying32 hj jz0 jz1 jz2 rfl (Nat.succ_pos _) (.slice (some ⟨wr.heap.size, 0, none⟩) 0 0) 0 [] rfl HO2.out ar nr cr _ rfl (HSR.out _ HE2.out) HB63.out HB64.out HE2.out.size ?_; intro v1 w1 hown hg hbk; have HX1 := hid (own_grown0 HE2.out HO2.out hg); have HW1 := hid hown; have HSRC : Hid (SrcAt w1 (some ⟨wr.heap.size + 1, 0, none⟩) 1 1 [Value.string nm]) := hid (src_at1 (grown_cell hg (show ((wr.alloc (.cells #[] 9)).alloc (.cells #[.string nm] 9)).cell? ⟨wr.heap.size + 1, 0, none⟩ = some (.string nm) from cell_new _ _ _ (by rw [size_alloc]) rfl) (fun e => absurd (Option.some.inj (show some (wr.heap.size + 1) = some wr.heap.size from e)) (by omega)))); have HWX := HW1; have HXX := HX1; clear hown hg hbk)
     | (refine step_append_src rfl (.tmp 55) (.tmp 56) 32 rfl wr.heap.size 9 j0 (.string ByteArray.empty) 1 16 Tryz.underlying32 hj jz0 jz1 jz2 rfl (Nat.succ_pos _) (.slice (some ⟨wr.heap.size + 1, 0, none⟩) 0 0) 0 [] rfl HO3.out ar nr cr _ rfl (HSR.out _ HE3.out) HB63.out HB64.out HE3.out.size ?_; intro v1 w1 hown hg hbk; have HX1 := hid (own_grown0 HE3.out HO3.out hg); have HW1 := hid hown; have HSRC : Hid (SrcAt w1 (some ⟨wr.heap.size, 0, none⟩) 1 1 [Value.string nm]) := hid (src_at1 (grown_cell hg (show ((wr.alloc (.cells #[.string nm] 9)).alloc (.cells #[] 9)).cell? ⟨wr.heap.size, 0, none⟩ = some (.string nm) from cell_old _ (cell_new _ _ _ rfl rfl)) (fun e => absurd (Option.some.inj (show some wr.heap.size = some (wr.heap.size + 1) from e)) (by omega)))); have HWX := HW1; have HXX := HX1; clear hown hg hbk)
     | (refine step_append_src rfl (.tmp 57) (.tmp 62) 32 rfl wr.heap.size 9 j0 (.string ByteArray.empty) 1 16 Tryz.underlying32 hj jz0 jz1 jz2 rfl (Nat.succ_pos _) v1 (0 + nr) ([] ++ row.map strV) rfl HWX.out _ 1 1 _ rfl HSRC.out HB73.out HB74.out HXX.out.size ?_; intro v2 w2 hown hg hbk; have HX2 := hid (own_grown0 HXX.out HWX.out hg); have HST := hid (try_row hown HNR.out); clear hown hg hbk)
     | (go_at_call 58; (with_reducible refine (IH.out w2 nm v2 _ (fun k h => h.2) ((HX0.out.trans HX.out).trans HX2.out) HST.out).mono ?_); rintro e w3 ⟨v3, rfl, htv, hx3⟩; have HX3 := hid (HX2.out.trans hx3); have HX23 := hid hx3; have HTV := hid htv; clear htv hx3)
     | fail)
    all_goals
     rw [HF.out] at HTV ⊢
     cases hft : F nm with
     | some rw_ =>
      have HE : Hid (tryD x p wd names (r + 1) row = some rw_) := hid (by rw [HT.out]; exact find_hit HNM.out HFN.out hft)
      have HTV := hid (show Strs (Plus R W w3) w3 v3 rw_ from (HTV.out rw_ hft).to (Kept.refl _ _) (fun k h => h.elim (fun h => .inr ⟨Nat.le_trans (HX0.out.trans HX.out).size h.1, Nat.lt_of_lt_of_le h.2 HX23.out.size⟩) (fun h => .inr ⟨Nat.le_trans ((HX0.out.trans HX.out).trans HX2.out).size h.1, h.2⟩)))
      obtain ⟨a3, c3, rfl⟩ := HTV.out.form
      clear hft
      go_wp2
      all_goals
       go_ret2
       exact ⟨_, by rw [HE.out]; rfl, (by rw [HE.out]; intro _ h; obtain rfl := Option.some.inj h; exact HTV.out), (HX0.out.trans HX.out).trans HX3.out⟩
     | none =>
      have HFT := hid hft
      clear hft
      go_wp2
      go_roundw
      case rel => exact ⟨k + 1, by omega, by go_num, hid (HX.out.trans HX3.out), hid (find_take HNM.out HFN.out HFT.out)⟩
      case measure => simp only [intOf]; omega
   ·obtain rfl : k = nn := by omega
    have HE : Hid (tryD x p wd names (r + 1) row = none) := hid (by rw [HT.out]; have h := HFN.out; rwa [List.take_of_length_le (by rw [← HNN.out]; exact Nat.le_refl _)] at h)
    go_wp2
    all_goals
     go_ret2
     exact ⟨.slice none 0 0, by rw [HE.out]; rfl, (by rw [HE.out]; intro _ h; cases h), HX0.out.trans HX.out⟩
end
section
open Go.RowKit
def hitG (x : Lay) (p : PZ) (names : List ByteArray) (t : ByteArray × Nat) : Option (ByteArray × List ByteArray) := (hitW x p names t.1 t.2).map fun row => (t.1, row)
theorem told_find (x : Lay) (p : PZ) (names : List ByteArray) : ∀ l, toldL x p names l = l.findSome? (hitG x p names)
 | [] => rfl
 | (wd, m) :: r => by
  rw [List.findSome?_cons]
  unfold toldL hitG
  cases h : hitW x p names wd m with
  | some row => simp
  | none =>
   simp only [Option.map_none]
   exact told_find x p names r
theorem nil_strs (S : Nat → Prop) (W : World) : Strs S W (.slice none 0 0) [] := ⟨0, 0, ⟨none, 0, rfl, Nat.le_refl _, Nat.zero_le _, fun h => absurd h (by simp), fun h => absurd h (by simp)⟩, fun j x hj => by simp at hj⟩
theorem ref_of28 {W : World} {v vp : Value} {x : Lay} {ts : List RTerm} {k n : Nat} (hx : LayV (Old W) W v x) (hok : ∀ c ∈ x.ats, Ok2 c) (hp : Terms (Old W) W vp ts) (hlk : ∀ t ∈ ts, t.c.mag.length ≤ k) (hk : k ≤ 90000) (hln : ts.length ≤ n) (hn : n ≤ 1000000000000) (hpl : x.pts.length ≤ 1000) (hal : x.ats.length ≤ 1000) :
  Calls Tryz.prog 24 #[v, vp] W fun e w' => ∃ v', e = .returned (.tuple #[v', .int .i64 (sideP x ts).1]) ∧ SideV (Old w') w' v' (sideP x ts).2 ∧ Ext W w' := by
 have hnot : ∀ (x : Bool) (w : World), (Op.unary .not (.bool x)).run Tryz.prog w = .ok (.bool (!x)) w := fun _ _ => rfl
 have HXL := hid hx
 have HP := hid hp
 have HOK := hid hok
 have hsm : tinyT ts := fun t ht => Nat.le_trans (hlk t ht) (Nat.le_trans hk (by decide))
 have CM := fun (Y : World) (hY : Ext W Y) => rpoly_may (S := Old Y) vp ts Y (hp.on hY) (fun _ h => h) hsm
 obtain ⟨vq, va, rfl, hq, ha⟩ := hx
 obtain ⟨ap, cp, rfl⟩ := hq.form
 obtain ⟨aa, ca, rfl⟩ := ha.form
 obtain ⟨at_, ct, e0⟩ := hp.form
 obtain ⟨nt, hnt⟩ : ∃ n, n = ts.length := ⟨_, rfl⟩
 rw [← hnt] at e0
 subst e0
 obtain ⟨nq, hnq⟩ : ∃ n, n = x.pts.length := ⟨_, rfl⟩
 obtain ⟨na, hna⟩ : ∃ n, n = x.ats.length := ⟨_, rfl⟩
 rw [← hnq, ← hna] at HXL ⊢
 have HNT := hid hnt
 obtain ⟨w0, hw0⟩ : ∃ Y, Y = (W.alloc (.cells #[.slice ap nq cp, .slice aa na ca, .int .i64 x.par, .int .i64 x.vrs] 35)).alloc (.cells #[.string { data := #[] }, .slice none 0 0, .slice none 0 0] 40) := ⟨_, rfl⟩
 have HX0 : Hid (Ext W w0) := hid (by rw [hw0]; exact (Ext.alloc (Ext.refl _) _).alloc _)
 have HB := hid (fun (Y : World) (hY : Ext w0 Y) => by
  rw [hw0] at hY
  have k0 : ∀ (i : Nat) (u : Value), #[Value.slice ap nq cp, .slice aa na ca, .int .i64 x.par, .int .i64 x.vrs][i]? = some u → Y.cell? ⟨W.heap.size, i, none⟩ = some u := fun i u hu => hY.cell (cell_old _ (cell_new W _ _ rfl hu))
  have k2 : ∀ (i : Nat) (u : Value), #[Value.string { data := #[] }, .slice none 0 0, .slice none 0 0][i]? = some u → Y.cell? ⟨W.heap.size + 1, i, none⟩ = some u := fun i u hu => hY.cell (cell_new _ _ _ (by rw [size_alloc]) hu)
  have f2 : ∀ (i : Nat), Y.frozen? ⟨W.heap.size + 1, i, none⟩ = false := fun i => hY.free (by simp only [size_alloc]; omega) (by have := free_new (W.alloc (.cells #[.slice ap nq cp, .slice aa na ca, .int .i64 x.par, .int .i64 x.vrs] 35)) #[.string { data := #[] }, .slice none 0 0, .slice none 0 0] 40 (i := i); rwa [size_alloc] at this)
  exact And.intro (And.intro (k0 0 _ rfl) (And.intro (k0 1 _ rfl) (And.intro (k0 2 _ rfl) (k0 3 _ rfl)))) (And.intro (And.intro (k2 0 _ rfl) (And.intro (k2 1 _ rfl) (k2 2 _ rfl))) (And.intro (f2 0) (And.intro (f2 1) (f2 2)))))
 have CM0 := hid (CM w0 HX0.out)
 rw [hw0] at CM0
 have HW0 := hid hw0
 have HSET := hid (fun (Y : World) (a b c : Value) (hY : Ext w0 Y) => by
  obtain ⟨-, ⟨c0, c1, c2⟩, -⟩ := HB.out Y hY
  have hb3 : Below W.heap.size Y (((Y.setCell ⟨W.heap.size + 1, 0, none⟩ a).setCell ⟨W.heap.size + 1, 1, none⟩ b).setCell ⟨W.heap.size + 1, 2, none⟩ c) := (((Below.refl _ Y).setCell (p := ⟨W.heap.size + 1, 0, none⟩) (by show W.heap.size ≤ W.heap.size + 1; omega) _).setCell (p := ⟨W.heap.size + 1, 1, none⟩) (by show W.heap.size ≤ W.heap.size + 1; omega) _).setCell (p := ⟨W.heap.size + 1, 2, none⟩) (by show W.heap.size ≤ W.heap.size + 1; omega) _
  have k0 : (((Y.setCell ⟨W.heap.size + 1, 0, none⟩ a).setCell ⟨W.heap.size + 1, 1, none⟩ b).setCell ⟨W.heap.size + 1, 2, none⟩ c).cell? ⟨W.heap.size + 1, 0, none⟩ = some a := other (other (same_of c0) (ao (by decide))) (ao (by decide))
  have k1 : (((Y.setCell ⟨W.heap.size + 1, 0, none⟩ a).setCell ⟨W.heap.size + 1, 1, none⟩ b).setCell ⟨W.heap.size + 1, 2, none⟩ c).cell? ⟨W.heap.size + 1, 1, none⟩ = some b := other (same_of (other c1 (ao (by decide)))) (ao (by decide))
  have k2 : (((Y.setCell ⟨W.heap.size + 1, 0, none⟩ a).setCell ⟨W.heap.size + 1, 1, none⟩ b).setCell ⟨W.heap.size + 1, 2, none⟩ c).cell? ⟨W.heap.size + 1, 2, none⟩ = some c := same_of (other (other c2 (ao (by decide))) (ao (by decide)))
  exact And.intro k0 (And.intro k1 (And.intro k2 (show Ext W _ from Below.trans (HX0.out.trans hY) hb3))))
 have HKEEP := hid (fun (Y : World) (S : Nat → Prop) (a b c : Value) (hS : ∀ k, S k → k ≠ W.heap.size + 1) => show Kept S Y (((Y.setCell ⟨W.heap.size + 1, 0, none⟩ a).setCell ⟨W.heap.size + 1, 1, none⟩ b).setCell ⟨W.heap.size + 1, 2, none⟩ c) from ((Kept.setCell (fun h => hS _ h rfl) _).trans (Kept.setCell (fun h => hS _ h rfl) _)).trans (Kept.setCell (fun h => hS _ h rfl) _))
 have HZ0 : Hid (W.heap.size + 1 < w0.heap.size) := hid (by rw [hw0]; simp only [size_alloc]; omega)
 clear hp hq ha hnt hnq hna hw0 hsm CM hok
 by_cases hbad : mayT ts = false
 ·have HSD : Hid (sideP x ts = (2, ⟨ByteArray.empty, [], []⟩)) := hid (by unfold sideP; rw [if_pos (.inl hbad)])
  rw [hbad] at CM0
  clear hbad
  go_enter Tryz.func24, Tryz.ntmps24
  go_wp2_with fail
  with_reducible refine CM0.out.mono ?_
  rintro e w1 ⟨rfl, hx1⟩
  rw [← HW0.out] at hx1
  have HX1 := hid hx1
  obtain ⟨-, ⟨c0, c1, c2⟩, f0, f1, f2⟩ := HB.out _ hx1
  clear hx1
  go_wp2
  all_goals
   rw [HSD.out]
   obtain ⟨k0, k1, k2, hf⟩ := HSET.out w1 (.string { data := #[] }) (.slice none 0 0) (.slice none 0 0) HX1.out
   refine bodyPost_ret (v := .tuple #[.agg #[.string { data := #[] }, .slice none 0 0, .slice none 0 0], .int .i64 2]) (by simp [results, Tryz.results24, go_sem, k0, k1, k2]) rfl ?_
   exact ⟨_, rfl, ⟨_, _, rfl, ⟨0, 0, ⟨none, 0, rfl, Nat.le_refl _, Nat.zero_le _, fun h => absurd h (by simp), fun h => absurd h (by simp)⟩, fun j x hj => by simp at hj⟩, Terms.nilv _ _ _ _ (by decide)⟩, hf⟩
 ·have hm : mayT ts = true := by simpa using hbad
  rw [hm] at CM0
  by_cases h0 : ts = []
  ·have HSD : Hid (sideP x ts = (2, ⟨ByteArray.empty, [], []⟩)) := hid (by unfold sideP; rw [if_pos (.inr h0)])
   have hb : ((nt : Int) == 0) = true := by rw [HNT.out, h0]; rfl
   clear hbad hm h0
   go_enter Tryz.func24, Tryz.ntmps24
   go_wp2_with fail
   with_reducible refine CM0.out.mono ?_
   rintro e w1 ⟨rfl, hx1⟩
   rw [← HW0.out] at hx1
   have HX1 := hid hx1
   obtain ⟨-, ⟨c0, c1, c2⟩, f0, f1, f2⟩ := HB.out _ hx1
   clear hx1
   go_wp2
   all_goals
    rw [HSD.out]
    obtain ⟨k0, k1, k2, hf⟩ := HSET.out w1 (.string { data := #[] }) (.slice none 0 0) (.slice none 0 0) HX1.out
    refine bodyPost_ret (v := .tuple #[.agg #[.string { data := #[] }, .slice none 0 0, .slice none 0 0], .int .i64 2]) (by simp [results, Tryz.results24, go_sem, k0, k1, k2]) rfl ?_
    exact ⟨_, rfl, ⟨_, _, rfl, ⟨0, 0, ⟨none, 0, rfl, Nat.le_refl _, Nat.zero_le _, fun h => absurd h (by simp), fun h => absurd h (by simp)⟩, fun j x hj => by simp at hj⟩, Terms.nilv _ _ _ _ (by decide)⟩, hf⟩
  ·have HSD : Hid (sideP x ts = (0, toldP x (wholeP (plainP ts)))) := hid (by unfold sideP; rw [if_neg (by rintro (h | h); exact hbad h; exact h0 h)])
   have hb : ((nt : Int) == 0) = false := by rw [beq_eq_false_iff_ne, HNT.out]; have := List.length_pos_iff.2 h0; omega
   have hpl2 := pv_of HP.out hm
   have hfp : Fit k n (plainP ts) := fit_plain HP.out.okT hlk hln
   have CW := hid (fun (Y : World) (hY : Ext W Y) => ref_whole28n (W := Y) (p := plainP ts) (v := .slice at_ nt ct) (show Terms (Old Y) Y (.slice at_ nt ct) (ofP (plainP ts)) by rw [← hpl2]; exact HP.out.on hY) hfp hk hn)
   obtain ⟨P, hP⟩ : ∃ P, P = wholeP (plainP ts) := ⟨_, rfl⟩
   have HPF : Hid (Fit k n P) := hid (by rw [hP]; exact hfp.whole)
   rw [← hP] at CW HSD
   have HKN := hid (And.intro hk hn)
   have CPT := hid (fun (Y : World) (u : Value) (hY : Ext W Y) (hu : Terms (Old Y) Y u (ofP P)) => ref_points (HXL.out.on hY) hu hpl hal)
   have CTR := hid (fun (Y : World) (u vn : Value) (names : List ByteArray) (wd : ByteArray) (m : Nat) (hm : m ≤ 10) (hY : Ext W Y) (hu : Terms (Old Y) Y u (ofP P)) (hv : Strs (Old Y) Y vn names) => ref_try (x := x) (p := P) (wd := wd) (names := names) (m := m) HOK.out HPF.out hm m [] Y _ u vn (.slice none 0 0) (fun _ => False) (fun _ h => h.elim) (Nat.zero_add m) (HXL.out.on hY) hu hv (nil_strs _ _))
   clear hbad hm h0 hpl2 hfp hP
   go_enter Tryz.func24, Tryz.ntmps24
   go_wp2_with fail
   with_reducible refine CM0.out.mono ?_
   rintro e w1 ⟨rfl, hx1⟩
   rw [← HW0.out] at hx1
   have HX1 := hid hx1
   clear hx1
   go_wp2_with fail
   with_reducible refine (CW.out w1 (HX0.out.trans HX1.out)).mono ?_
   rintro e w2 ⟨v2, rfl, hp2, hx2⟩
   have HX2 := hid (HX1.out.trans hx2)
   have HP2 := hid (hp2.to (S' := Old w2) (Kept.refl _ _) New.lt)
   have HPT2 : Hid (Terms (fun k => w0.heap.size ≤ k ∧ k < w2.heap.size) w2 v2 (ofP P)) := hid (hp2.to (Kept.refl _ _) (fun k h => ⟨Nat.le_trans HX1.out.size h.1, h.2⟩))
   obtain ⟨a2, c2, rfl⟩ := hp2.form
   obtain ⟨nw, hnw⟩ : ∃ n, n = (ofP P).length := ⟨_, rfl⟩
   rw [← hnw] at HP2 HPT2 ⊢
   have HNW := hid hnw
   obtain ⟨b7, hb7⟩ : ∃ b, b = w2.heap.size := ⟨_, rfl⟩
   obtain ⟨w3, hw3⟩ : ∃ Y, Y = w2.alloc (.cells #[.string { data := #[] }, .slice none 0 0, .slice a2 nw c2] 40) := ⟨_, rfl⟩
   have HX3 : Hid (Ext w0 w3) := hid (by rw [hw3]; exact HX2.out.alloc _)
   have HB7 := hid (fun (Y : World) (hY : Ext w3 Y) => by
    rw [hw3] at hY
    have k0 : ∀ (i : Nat) (u : Value), #[Value.string { data := #[] }, .slice none 0 0, .slice a2 nw c2][i]? = some u → Y.cell? ⟨b7, i, none⟩ = some u := fun i u hu => hY.cell (cell_new w2 _ _ hb7 hu)
    have f2 : ∀ (i : Nat), Y.frozen? ⟨b7, i, none⟩ = false := fun i => hY.free (by rw [hb7]; simp only [size_alloc]; omega) (by rw [hb7]; exact free_new w2 #[.string { data := #[] }, .slice none 0 0, .slice a2 nw c2] 40 (i := i))
    exact And.intro (And.intro (k0 0 _ rfl) (And.intro (k0 1 _ rfl) (k0 2 _ rfl))) (And.intro (f2 0) (And.intro (f2 1) (f2 2))))
   have HP3 := hid (fun (Y : World) (hY : Ext w3 Y) => show Terms (Old Y) Y (.slice a2 nw c2) (ofP P) from HP2.out.on ((by rw [hw3]; exact Ext.alloc (Ext.refl _) _ : Ext w2 w3).trans hY))
   have HN7 : Hid (W.heap.size + 1 < b7 ∧ b7 < w3.heap.size) := hid ⟨by have h1 := HX2.out.size; have h2 := HZ0.out; omega, by rw [hb7, hw3]; simp only [size_alloc]; omega⟩
   have HW3 := hid hw3
   have HB7E := hid hb7
   obtain ⟨⟨d0, d1, d2, d3⟩, -⟩ := HB.out w3 HX3.out
   have CP3 := hid (CPT.out w3 _ (HX0.out.trans HX3.out) (HP3.out w3 (Ext.refl _)))
   clear hx2 hp2 hb7 hw3 hnw
   go_upto_region 5 with fail
   rw [← HB7E.out]
   rw [← HW3.out]
   go_wp2_with fail
   with_reducible refine CP3.out.mono ?_
   rintro e w4 ⟨v4, rfl, hs4, hx4⟩
   have HX4 := hid (HX3.out.trans hx4)
   have HX34 := hid hx4
   have HS4 := hid (hs4.to (Kept.refl _ _) New.lt)
   obtain ⟨a4, c4, rfl⟩ := hs4.form
   obtain ⟨names, hnames⟩ : ∃ l, l = namesP x (ofP P) := ⟨_, rfl⟩
   rw [← hnames] at HS4 ⊢
   have HNAMES := hid hnames
   obtain ⟨nn, hnn⟩ : ∃ n, n = names.length := ⟨_, rfl⟩
   rw [← hnn] at HS4 ⊢
   have HNN := hid hnn
   clear hs4 hx4 d0 d1 d2 d3 hnames hnn
   have HX24 : Hid (Ext w2 w4) := hid ((show Ext w2 w3 by rw [HW3.out]; exact Ext.alloc (Ext.refl _) _).trans HX34.out)
   have HPT4 : Hid (Terms (fun k => w0.heap.size ≤ k ∧ k < w2.heap.size) w4 (.slice a2 nw c2) (ofP P)) := hid (HPT2.out.to (Kept.ext HX24.out (fun k h => h.2)) (fun _ h => h))
   by_cases hb1 : nn < 2
   ·have HTD : Hid (toldP x P = ⟨ByteArray.empty, [], ofP P⟩) := hid (by unfold toldP; rw [if_pos (.inl (by rw [← HNAMES.out, ← HNN.out]; exact hb1))])
    obtain ⟨-, ⟨c0, c1, c2'⟩, f0, f1, f2⟩ := HB.out _ HX4.out
    obtain ⟨⟨g0, g1, g2⟩, -⟩ := HB7.out _ HX34.out
    go_wp2
    all_goals
     rw [HSD.out, HTD.out]
     obtain ⟨k0, k1, k2, hf⟩ := HSET.out (w4) (.string { data := #[] }) (.slice none 0 0) (.slice a2 nw c2) (HX4.out)
     have HK := HKEEP.out (w4) (fun k => w0.heap.size ≤ k ∧ k < w2.heap.size) (.string { data := #[] }) (.slice none 0 0) (.slice a2 nw c2) (fun k hk => by have h1 := hk.1; have h2 := HZ0.out; omega)
     refine bodyPost_ret (v := .tuple #[.agg #[.string { data := #[] }, .slice none 0 0, .slice a2 nw c2], .int .i64 0]) (by simp [results, Tryz.results24, go_sem, k0, k1, k2]) rfl ?_
     exact ⟨_, rfl, ⟨_, _, rfl, nil_strs _ _, (HPT4.out).to HK (fun k hk => by show k < _; simp only [size_setCell]; exact Nat.lt_of_lt_of_le hk.2 (Nat.le_trans HX24.out.size (by first | exact Nat.le_refl _ | exact HX4R.out.size | fail)))⟩, hf⟩
   by_cases hb2 : 6 < nn
   ·have HTD : Hid (toldP x P = ⟨ByteArray.empty, [], ofP P⟩) := hid (by unfold toldP; rw [if_pos (.inr (by rw [← HNAMES.out, ← HNN.out]; exact hb2))])
    obtain ⟨-, ⟨c0, c1, c2'⟩, f0, f1, f2⟩ := HB.out _ HX4.out
    obtain ⟨⟨g0, g1, g2⟩, -⟩ := HB7.out _ HX34.out
    go_wp2
    all_goals
     rw [HSD.out, HTD.out]
     obtain ⟨k0, k1, k2, hf⟩ := HSET.out (w4) (.string { data := #[] }) (.slice none 0 0) (.slice a2 nw c2) (HX4.out)
     have HK := HKEEP.out (w4) (fun k => w0.heap.size ≤ k ∧ k < w2.heap.size) (.string { data := #[] }) (.slice none 0 0) (.slice a2 nw c2) (fun k hk => by have h1 := hk.1; have h2 := HZ0.out; omega)
     refine bodyPost_ret (v := .tuple #[.agg #[.string { data := #[] }, .slice none 0 0, .slice a2 nw c2], .int .i64 0]) (by simp [results, Tryz.results24, go_sem, k0, k1, k2]) rfl ?_
     exact ⟨_, rfl, ⟨_, _, rfl, nil_strs _ _, (HPT4.out).to HK (fun k hk => by show k < _; simp only [size_setCell]; exact Nat.lt_of_lt_of_le hk.2 (Nat.le_trans HX24.out.size (by first | exact Nat.le_refl _ | exact HX4R.out.size | fail)))⟩, hf⟩
   have HBD : Hid (¬((namesP x (ofP P)).length < 2 ∨ 6 < (namesP x (ofP P)).length)) := hid (by rw [← HNAMES.out, ← HNN.out]; rintro (h | h); exact hb1 h; exact hb2 h)
   obtain ⟨w5, hw5⟩ : ∃ Y, Y = (w4.alloc (.cells #[.string { data := #[117, 110, 108, 105, 107, 101] }, .string { data := #[97, 112, 97, 114, 116] }, .string { data := #[99, 114, 111, 115, 115] }, .string { data := #[100, 111, 116] }] 9)).alloc (.cells #[.int .i64 2, .int .i64 3, .int .i64 4, .int .i64 4] 3) := ⟨_, rfl⟩
   have HX5 : Hid (Ext w4 w5) := hid (by rw [hw5]; exact ((Ext.refl w4).alloc _).alloc _)
   have HWDS := hid (fun (Y : World) (hY : Ext w5 Y) (j : Nat) (wd : ByteArray) (m : Nat) (h : wordsL[j]? = some (wd, m)) => show m ≤ 10 ∧ Y.cell? ⟨w4.heap.size, j, none⟩ = some (.string wd) ∧ Y.cell? ⟨w4.heap.size + 1, j, none⟩ = some (.int .i64 (m : Nat)) by
    rw [hw5] at hY
    have k0 : ∀ (i : Nat) (u : Value), #[Value.string { data := #[117, 110, 108, 105, 107, 101] }, .string { data := #[97, 112, 97, 114, 116] }, .string { data := #[99, 114, 111, 115, 115] }, .string { data := #[100, 111, 116] }][i]? = some u → Y.cell? ⟨w4.heap.size, i, none⟩ = some u := fun i u hu => hY.cell (cell_old _ (cell_new w4 _ _ rfl hu))
    have k1 : ∀ (i : Nat) (u : Value), #[Value.int .i64 2, .int .i64 3, .int .i64 4, .int .i64 4][i]? = some u → Y.cell? ⟨w4.heap.size + 1, i, none⟩ = some u := fun i u hu => hY.cell (cell_new _ _ _ (by rw [size_alloc]) hu)
    have hj := lt_of_some h
    rcases (show j = 0 ∨ j = 1 ∨ j = 2 ∨ j = 3 by have e : wordsL.length = 4 := rfl; omega) with rfl | rfl | rfl | rfl
    ·obtain ⟨rfl, rfl⟩ : wUnlike = wd ∧ 2 = m := by simpa [wordsL] using h
     exact ⟨by decide, k0 0 _ rfl, k1 0 _ rfl⟩
    ·obtain ⟨rfl, rfl⟩ : wApart = wd ∧ 3 = m := by simpa [wordsL] using h
     exact ⟨by decide, k0 1 _ rfl, k1 1 _ rfl⟩
    ·obtain ⟨rfl, rfl⟩ : wCross = wd ∧ 4 = m := by simpa [wordsL] using h
     exact ⟨by decide, k0 2 _ rfl, k1 2 _ rfl⟩
    ·obtain ⟨rfl, rfl⟩ : wDot = wd ∧ 4 = m := by simpa [wordsL] using h
     exact ⟨by decide, k0 3 _ rfl, k1 3 _ rfl⟩)
   have HW5 := hid hw5
   clear hw5
   go_wp2
   rw [← HW5.out]
   go_loopw [11] (fun i wr => ∃ k : Nat, k ≤ 4 ∧ i = .int .i64 (k : Nat) ∧ Hid (Ext w5 wr) ∧ Hid ((wordsL.take k).findSome? (hitG x P names) = none)) (fun i _ => 4 - (intOf i).toNat)
   case atStart => exact ⟨0, by omega, rfl, hid (Ext.refl _), hid rfl⟩
   case round =>
    obtain ⟨k, hk, rfl, HX, HFN⟩ := hrel
    have HX4R := hid (HX5.out.trans HX.out)
    by_cases hlt : k < 4
    ·obtain ⟨⟨wd, m⟩, ht⟩ := some_of_lt (l := wordsL) (j := k) hlt
     obtain ⟨hm10, cw, cm⟩ := HWDS.out wr HX.out k wd m ht
     have CT := hid (fun (Y : World) (hY : Ext wr Y) => CTR.out Y (.slice a2 nw c2) (.slice a4 nn c4) names wd m hm10 (((HX0.out.trans HX4.out).trans HX4R.out).trans hY) (HP3.out Y ((HX34.out.trans HX4R.out).trans hY)) (HS4.out.to (Kept.ext (HX4R.out.trans hY) (fun _ h => h)) (old_lt (HX4R.out.trans hY))))
     have HTH := hid ht
     have HS := hid (fun (Y : World) (hY : Ext wr Y) => And.intro (HB.out Y ((HX4.out.trans HX4R.out).trans hY)).1 (And.intro (hY.cell cw) (hY.cell cm)))
     have HXD := hid (show Ext wr wr.drew from (Ext.refl wr).drew)
     have hhit := try_hit x P wd names m
     have HHIT := hid hhit
     clear ht cw cm hhit
     go_upto_region 13 with fail
     go_region_held3 (fun Y => (Y.cell? ⟨W.heap.size, 0, none⟩ = some (.slice ap nq cp) ∧ Y.cell? ⟨W.heap.size, 1, none⟩ = some (.slice aa na ca) ∧ Y.cell? ⟨W.heap.size, 2, none⟩ = some (.int .i64 x.par) ∧ Y.cell? ⟨W.heap.size, 3, none⟩ = some (.int .i64 x.vrs)) ∧ Y.cell? ⟨w4.heap.size, k, none⟩ = some (.string wd) ∧ Y.cell? ⟨w4.heap.size + 1, k, none⟩ = some (.int .i64 (m : Nat))) (first | exact HS.out _ HXD.out | exact HS.out _ HX6.out)
      (first
       | (go_at_call 58; (with_reducible refine (CT.out _ HXD.out).mono ?_); rintro e w6 ⟨v6, rfl, htv, hx6⟩; have HX6 := hid (HXD.out.trans hx6); have HTV := hid htv; clear htv hx6)
       | fail)
     all_goals
      rw [HHIT.out] at HTV ⊢
      cases hft : hitW x P names wd m with
      | some row =>
       have HTD : Hid (toldP x P = ⟨wd, row, ofP P⟩) := hid (told_rest HBD.out (by rw [← HNAMES.out, told_find]; exact find_hit HTH.out HFN.out (by unfold hitG; rw [hft]; rfl)))
       have HROW := hid (show Strs (fun k => w4.heap.size ≤ k ∧ k < w6.heap.size) w6 v6 row from (HTV.out row hft).to (Kept.refl _ _) (fun k h => h.elim (fun h => h.elim) (fun h => ⟨Nat.le_trans HX4R.out.size h.1, h.2⟩)))
       obtain ⟨a6, c6, rfl⟩ := HROW.out.form
       have HX46 := hid (HX4R.out.trans HX6.out)
       obtain ⟨-, ⟨c0, c1, c2'⟩, f0, f1, f2⟩ := HB.out _ (HX4.out.trans HX46.out)
       obtain ⟨⟨g0, g1, g2⟩, j0, j1, j2⟩ := HB7.out _ (HX34.out.trans HX46.out)
       obtain ⟨-, cw, -⟩ := HS.out w6 HX6.out
       have hne := Nat.ne_of_lt HN7.out.1
       have hne2 := Nat.ne_of_gt HN7.out.1
       clear hft
       go_wp2
       all_goals
        rw [HSD.out, HTD.out]
        have hb7e := HB7E.out
        have hb7w := HX24.out.size
        have hn7 := HN7.out
        have hsz34 := HX34.out.size
        obtain ⟨w7, hw7⟩ : ∃ Y, Y = (w6.setCell ⟨b7, 0, none⟩ (.string wd)).setCell ⟨b7, 1, none⟩ (.slice a6 row.length c6) := ⟨_, rfl⟩
        have hx7 : Ext w0 w7 := by rw [hw7]; exact (HX4.out.trans HX46.out).set2 (by have h1 := HX2.out.size; omega) _ _
        have hT7 : Terms (fun k => w0.heap.size ≤ k ∧ k < w2.heap.size) w7 (.slice a2 nw c2) (ofP P) := by
         rw [hw7]
         exact (HPT4.out.to (Kept.ext HX46.out (fun k h => Nat.lt_of_lt_of_le h.2 hb7w)) (fun _ h => h)).to (Kept.set2 (fun h => by have := h.2; omega) _ _) (fun _ h => h)
        have hS7 : Strs (fun k => w4.heap.size ≤ k ∧ k < w6.heap.size) w7 (.slice a6 row.length c6) row := by
         rw [hw7]
         exact HROW.out.to (Kept.set2 (fun h => by have := h.1; omega) _ _) (fun _ h => h)
        have hs76 : w7.heap.size = w6.heap.size := by rw [hw7]; simp only [size_setCell]
        rw [← hw7]
        obtain ⟨k0, k1, k2, hf⟩ := HSET.out w7 (.string wd) (.slice a6 row.length c6) (.slice a2 nw c2) hx7
        have HK := HKEEP.out w7 (fun k => w0.heap.size ≤ k ∧ k < w2.heap.size) (.string wd) (.slice a6 row.length c6) (.slice a2 nw c2) (fun k hk => by have h1 := hk.1; have h2 := HZ0.out; omega)
        have HK2 := HKEEP.out w7 (fun k => w4.heap.size ≤ k ∧ k < w6.heap.size) (.string wd) (.slice a6 row.length c6) (.slice a2 nw c2) (fun k hk => by have h1 := hk.1; omega)
        refine bodyPost_ret (v := .tuple #[.agg #[.string wd, .slice a6 row.length c6, .slice a2 nw c2], .int .i64 0]) (by simp [results, Tryz.results24, go_sem, k0, k1, k2]) rfl ?_
        exact ⟨_, rfl, ⟨_, _, rfl, hS7.to HK2 (fun k hk => by show k < _; simp only [size_setCell]; rw [hs76]; exact hk.2), hT7.to HK (fun k hk => by show k < _; simp only [size_setCell]; rw [hs76]; exact Nat.lt_of_lt_of_le hk.2 (Nat.le_trans hb7w HX46.out.size))⟩, hf⟩
      | none =>
       have HFT : Hid (hitG x P names (wd, m) = none) := hid (by unfold hitG; rw [hft]; rfl)
       clear hft
       go_wp2
       go_roundw
       case rel => exact ⟨k + 1, by omega, by go_num, hid (HX.out.trans HX6.out), hid (find_take HTH.out HFN.out HFT.out)⟩
       case measure => simp only [intOf]; omega
    ·obtain rfl : k = 4 := by omega
     have HTD : Hid (toldP x P = ⟨ByteArray.empty, [], ofP P⟩) := hid (told_none HBD.out (by rw [← HNAMES.out, told_find]; exact HFN.out))
     obtain ⟨-, ⟨c0, c1, c2'⟩, f0, f1, f2⟩ := HB.out _ (HX4.out.trans HX4R.out)
     obtain ⟨⟨g0, g1, g2⟩, -⟩ := HB7.out _ (HX34.out.trans HX4R.out)
     go_wp2
     all_goals
      rw [HSD.out, HTD.out]
      obtain ⟨k0, k1, k2, hf⟩ := HSET.out (wr) (.string { data := #[] }) (.slice none 0 0) (.slice a2 nw c2) (HX4.out.trans HX4R.out)
      have HK := HKEEP.out (wr) (fun k => w0.heap.size ≤ k ∧ k < w2.heap.size) (.string { data := #[] }) (.slice none 0 0) (.slice a2 nw c2) (fun k hk => by have h1 := hk.1; have h2 := HZ0.out; omega)
      refine bodyPost_ret (v := .tuple #[.agg #[.string { data := #[] }, .slice none 0 0, .slice a2 nw c2], .int .i64 0]) (by simp [results, Tryz.results24, go_sem, k0, k1, k2]) rfl ?_
      exact ⟨_, rfl, ⟨_, _, rfl, nil_strs _ _, (HPT4.out.to (Kept.ext HX4R.out (fun k h => Nat.lt_of_lt_of_le h.2 HX24.out.size)) (fun _ h => h)).to HK (fun k hk => by show k < _; simp only [size_setCell]; exact Nat.lt_of_lt_of_le hk.2 (Nat.le_trans HX24.out.size (by first | exact Nat.le_refl _ | exact HX4R.out.size | fail)))⟩, hf⟩
end
section
end
end Go.Proofs.YtbfflodidkfphaaGreat
