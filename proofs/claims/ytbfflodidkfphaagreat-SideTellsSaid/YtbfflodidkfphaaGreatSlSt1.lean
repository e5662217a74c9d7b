/- SideTells holds: what a polynomial is told as in a layout, or why it is not, and a condition's polynomial, are the document's; the law answers true, and its arguments read as they did. No condition. -/
import Derived.Test.YtbfflodidkfphaaGreatSl12
set_option maxRecDepth 100000
set_option maxHeartbeats 16000000
namespace Go.Proofs.YtbfflodidkfphaaGreat
section
open Go.RowKit
theorem sideP_zero {x : Lay} {ts : List RTerm} (h : ¬(mayT ts = false ∨ ts = [])) : sideP x ts = (0, toldP x (wholeP (plainP ts))) := if_neg h
theorem sideP_two {x : Lay} {ts : List RTerm} (h : mayT ts = false ∨ ts = []) : sideP x ts = (2, ⟨ByteArray.empty, [], []⟩) := if_pos h
theorem sameD_self (s : SideD) : sameD s s = true := by
 unfold sameD
 simp
theorem law28_tells {W : World} {v vp vs : Value} {x : Lay} {ts : List RTerm} {s : SideD} (hx : LayV (Old W) W v x) (hp : Terms (Old W) W vp ts) (hs : SideV (Old W) W vs s) :
  Calls Tryz.prog 5 #[v, vp, vs] W fun e w' => e = .returned (.bool true) ∧ Ext W w' := by
 have hnot : ∀ (x : Bool) (w : World), (Op.unary .not (.bool x)).run Tryz.prog w = .ok (.bool (!x)) w := fun _ _ => rfl
 have HL := hid (fun (Y : World) (hY : Ext W Y) => hx.on hY)
 have HP := hid (fun (Y : World) (hY : Ext W Y) => Terms.on hp hY)
 have HSV := hid (fun (Y : World) (hY : Ext W Y) => hs.on hY)
 have CG := hid (fun (Y : World) (hY : Ext W Y) => law28_great (HL.out Y hY) (HP.out Y hY))
 obtain ⟨vq, va, rfl, hq, ha⟩ := hx
 obtain ⟨vn, vt, rfl, hsn, hsp⟩ := hs
 have CG2 := hid (fun (Y : World) (hY : Ext W Y) => law28_great (HL.out Y hY) (Terms.on hsp hY))
 obtain ⟨ap, cp, rfl⟩ := hq.form
 obtain ⟨aa, ca, rfl⟩ := ha.form
 obtain ⟨at_, ct, rfl⟩ := hp.form
 obtain ⟨an, cn, rfl⟩ := hsn.form
 obtain ⟨av, cv, rfl⟩ := hsp.form
 obtain ⟨nt, hnt⟩ : ∃ n, n = ts.length := ⟨_, rfl⟩
 obtain ⟨np, hnp⟩ : ∃ n, n = x.pts.length := ⟨_, rfl⟩
 obtain ⟨na, hna⟩ : ∃ n, n = x.ats.length := ⟨_, rfl⟩
 obtain ⟨nn, hnn⟩ : ∃ n, n = s.pts.length := ⟨_, rfl⟩
 obtain ⟨ns, hns⟩ : ∃ n, n = s.poly.length := ⟨_, rfl⟩
 rw [← hnt, ← hnp, ← hna] at CG
 rw [← hnp, ← hna, ← hns] at CG2
 rw [← hnp, ← hna] at HL
 rw [← hnt] at HP
 rw [← hnn, ← hns] at HSV
 rw [← hnt, ← hnp, ← hna, ← hnn, ← hns]
 have HNN := hid hnn
 obtain ⟨g, hg⟩ : ∃ g, g = great28 x ts := ⟨_, rfl⟩
 rw [← hg] at CG
 have HG := hid hg
 obtain ⟨g2, hg2⟩ : ∃ g, g = great28 x s.poly := ⟨_, rfl⟩
 rw [← hg2] at CG2
 have HG2 := hid hg2
 obtain ⟨b1, hb1⟩ : ∃ b, b = W.heap.size := ⟨_, rfl⟩
 obtain ⟨b5, hb5⟩ : ∃ b, b = W.heap.size + 1 := ⟨_, rfl⟩
 obtain ⟨w0, hw0⟩ : ∃ Y, Y = (W.alloc (.cells #[.slice ap np cp, .slice aa na ca, .int .i64 x.par, .int .i64 x.vrs] 35)).alloc (.cells #[.string s.word, .slice an nn cn, .slice av ns cv] 40) := ⟨_, rfl⟩
 have HX0 : Hid (Ext W w0) := hid (by rw [hw0]; exact (Ext.alloc (Ext.refl _) _).alloc _)
 have HSA := hid (fun (Y : World) (h : Ext w0 Y) => by
  rw [hw0] at h
  have k0 : ∀ (i : Nat) (u : Value), #[Value.slice ap np cp, .slice aa na ca, .int .i64 x.par, .int .i64 x.vrs][i]? = some u → Y.cell? ⟨b1, i, none⟩ = some u := fun i u hu => h.cell (cell_old _ (cell_new W _ _ hb1 hu))
  have k2 : ∀ (i : Nat) (u : Value), #[Value.string s.word, .slice an nn cn, .slice av ns cv][i]? = some u → Y.cell? ⟨b5, i, none⟩ = some u := fun i u hu => h.cell (cell_new _ _ _ (by rw [size_alloc]; exact hb5) hu)
  exact And.intro (And.intro (k0 0 _ rfl) (And.intro (k0 1 _ rfl) (And.intro (k0 2 _ rfl) (k0 3 _ rfl)))) (And.intro (k2 0 _ rfl) (And.intro (k2 1 _ rfl) (k2 2 _ rfl))))
 have HW0 := hid hw0
 have HB1 := hid hb1
 have HB5 := hid hb5
 clear hq ha hp hsn hsp hnt hnp hna hnn hns hg hg2 hw0 hb1 hb5
 go_enter Tryz.func5, Tryz.ntmps5
 go_upto_region 1 with fail
 rw [← HB5.out]
 rw [← HB1.out]
 rw [← HW0.out]
 obtain ⟨⟨d0, d1, d2, d3⟩, e0, e1, e2⟩ := HSA.out w0 (Ext.refl _)
 go_wp2_with fail
 with_reducible refine (CG.out w0 HX0.out).mono ?_
 rintro e w1 ⟨rfl, hx1⟩
 have HX1 := hid hx1
 have HXW1 := hid (HX0.out.trans hx1)
 clear hx1 d0 d1 d2 d3 e0 e1 e2
 cases g with
 | true =>
  go_wp2_with fail
  with_reducible refine (law28_known _).mono ?_
  rintro e wz ⟨rfl, hxz⟩
  have HXZ := hid (HXW1.out.trans hxz)
  clear hxz
  go_wp2
  all_goals
   go_ret
   exact ⟨rfl, HXZ.out⟩
 | false =>
  obtain ⟨⟨d0, d1, d2, d3⟩, e0, e1, e2⟩ := HSA.out w1 HX1.out
  go_wp2_with fail
  with_reducible refine (CG2.out w1 HXW1.out).mono ?_
  rintro e w2 ⟨rfl, hx2⟩
  have HX2 := hid (HX1.out.trans hx2)
  have HXW2 := hid (HX0.out.trans HX2.out)
  clear hx2 d0 d1 d2 d3 e0 e1 e2
  cases g2 with
  | true =>
   go_wp2_with fail
   with_reducible refine (law28_known _).mono ?_
   rintro e wz ⟨rfl, hxz⟩
   have HXZ := hid (HXW2.out.trans hxz)
   clear hxz
   go_wp2
   all_goals
    go_ret
    exact ⟨rfl, HXZ.out⟩
  | false =>
   obtain ⟨⟨d0, d1, d2, d3⟩, e0, e1, e2⟩ := HSA.out w2 HX2.out
   by_cases hb10 : 10 < nn
   ·clear d0 d1 d2 d3
    go_wp2_with fail
    with_reducible refine (law28_known _).mono ?_
    rintro e wz ⟨rfl, hxz⟩
    have HXZ := hid (HXW2.out.trans hxz)
    clear hxz
    go_wp2
    all_goals
     go_ret
     exact ⟨rfl, HXZ.out⟩
   by_cases hb100 : 100 < s.word.size
   ·clear d0 d1 d2 d3
    go_wp2_with fail
    with_reducible refine (law28_known _).mono ?_
    rintro e wz ⟨rfl, hxz⟩
    have HXZ := hid (HXW2.out.trans hxz)
    clear hxz
    go_wp2
    all_goals
     go_ret
     exact ⟨rfl, HXZ.out⟩
   obtain ⟨hpl, hal, hgt, hok⟩ := great28_no HG.out.symm
   obtain ⟨hgl, hgm⟩ := great_fit hgt
   obtain ⟨-, -, hgt2, -⟩ := great28_no HG2.out.symm
   obtain ⟨hsl, hsm⟩ := great_fit hgt2
   have HOK := hid hok
   have HPL := hid hpl
   have HAL := hid hal
   have HGL := hid hgl
   have HGM := hid hgm
   have HSL := hid hsl
   have HSM := hid hsm
   have HWS : Hid (s.word.size ≤ 100) := hid (by omega)
   have HPS : Hid (s.pts.length ≤ 10) := hid (by rw [← HNN.out]; omega)
   clear hpl hal hgt hok hgl hgm hgt2 hsl hsm
   have CO := side_of (k := 20) (n := 40) (HL.out w2 HXW2.out) HOK.out (HP.out w2 HXW2.out) (fun t ht => (HGM.out t ht).1) (by decide) HGL.out (by decide) (by have := HPL.out; omega) (by have := HAL.out; omega)
   obtain ⟨er, T, hE⟩ : ∃ er T, sideP x ts = (er, T) := ⟨_, _, rfl⟩
   have HE := hid hE
   rw [hE] at CO
   have CO := hid CO
   have CR := hid (fun (Y : World) (hY : Ext W Y) => ref_of28 (k := 20) (n := 40) (HL.out Y hY) HOK.out (HP.out Y hY) (fun t ht => (HGM.out t ht).1) (by decide) HGL.out (by decide) (by have := HPL.out; omega) (by have := HAL.out; omega))
   rw [hE] at CR
   clear hE
   go_upto_region 3 with fail
   clear hb10 hb100
   go_wp2_with fail
   with_reducible refine CO.out.mono ?_
   rintro e w3 ⟨v3, rfl, ⟨vn3, vp3, rfl, hs3, ht3⟩, hx3⟩
   have HX3 := hid (HX2.out.trans hx3)
   obtain ⟨an3, cn3, rfl⟩ := hs3.form
   obtain ⟨ap3, cp3, rfl⟩ := ht3.form
   obtain ⟨b7, hb7⟩ : ∃ b, b = w3.heap.size := ⟨_, rfl⟩
   obtain ⟨w4, hw4⟩ : ∃ Y, Y = w3.alloc (.cells #[.string T.word, .slice an3 T.pts.length cn3, .slice ap3 T.poly.length cp3] 40) := ⟨_, rfl⟩
   have SA : Hid (SV w0 b7 w4 T (.slice an3 T.pts.length cn3) (.slice ap3 T.poly.length cp3)) := hid (by rw [hw4, hb7]; exact SV.fresh HX3.out (hs3.to (Kept.refl _ _) New.lt) (ht3.to (Kept.refl _ _) New.lt) _)
   have HW4 := hid hw4
   have HB7 := hid hb7
   have HX4 := hid SA.out.1
   have HXW4 := hid (HX0.out.trans HX4.out)
   obtain ⟨⟨f0, f1, f2, f3⟩, -⟩ := HSA.out w4 HX4.out
   clear hs3 ht3 hx3 d0 d1 d2 d3 e0 e1 e2 hw4 hb7
   go_upto_region 4 with fail
   rw [← HB7.out]
   rw [← HW4.out]
   go_wp2_with fail
   with_reducible refine (CR.out w4 HXW4.out).mono ?_
   rintro e w5 ⟨v5, rfl, ⟨vn5, vp5, rfl, hs5, ht5⟩, hx5⟩
   have HX5 := hid (HX4.out.trans hx5)
   have SA5 := hid (SA.out.ext hx5)
   obtain ⟨an5, cn5, rfl⟩ := hs5.form
   obtain ⟨ap5, cp5, rfl⟩ := ht5.form
   obtain ⟨b9, hb9⟩ : ∃ b, b = w5.heap.size := ⟨_, rfl⟩
   obtain ⟨w6, hw6⟩ : ∃ Y, Y = w5.alloc (.cells #[.string T.word, .slice an5 T.pts.length cn5, .slice ap5 T.poly.length cp5] 40) := ⟨_, rfl⟩
   have SB : Hid (SV w0 b9 w6 T (.slice an5 T.pts.length cn5) (.slice ap5 T.poly.length cp5)) := hid (by rw [hw6, hb9]; exact SV.fresh HX5.out hs5 ht5 _)
   have SA6 : Hid (SV w0 b7 w6 T (.slice an3 T.pts.length cn3) (.slice ap3 T.poly.length cp3)) := hid (SA5.out.ext (by rw [hw6]; exact Ext.alloc (Ext.refl _) _))
   have HW6 := hid hw6
   have HB9 := hid hb9
   have HX6 := hid SB.out.1
   have HXW6 := hid (HX0.out.trans HX6.out)
   obtain ⟨⟨g0, g1, g2, g3⟩, e0, e1, e2⟩ := HSA.out w6 HX6.out
   obtain ⟨eq, qs, hq⟩ : ∃ eq qs, polyX x s = (eq, qs) := ⟨_, _, rfl⟩
   have CP := hid (side_poly (k := 20) (n := 40) (HL.out w6 HXW6.out) HOK.out (HSV.out w6 HXW6.out) (fun t ht => (HSM.out t ht).1) (by decide) HSL.out (by decide) (by have := HWS.out; omega) (by have := HPS.out; omega))
   have CQ := hid (fun (Y : World) (hY : Ext W Y) => ref_poly28 (k := 20) (n := 40) (HL.out Y hY) HOK.out (HSV.out Y hY) (fun t ht => (HSM.out t ht).1) (by decide) HSL.out (by decide) (by have := HPS.out; omega))
   rw [hq] at CP CQ
   clear hs5 ht5 hx5 f0 f1 f2 f3 hw6 hb9 hq
   go_upto_region 5 with fail
   rw [← HB9.out]
   rw [← HW6.out]
   go_wp2_with fail
   with_reducible refine CP.out.mono ?_
   rintro e w7 ⟨v7, rfl, ht7, hx7⟩
   have HX7 := hid (HX6.out.trans hx7)
   have HX67 := hid hx7
   have HT7 := hid ht7
   obtain ⟨a7, c7, rfl⟩ := ht7.form
   obtain ⟨⟨f0, f1, f2, f3⟩, h0, h1, h2⟩ := HSA.out w7 HX7.out
   clear ht7 hx7 g0 g1 g2 g3 e0 e1 e2
   go_upto_region 6 with fail
   go_wp2_with fail
   with_reducible refine (CQ.out w7 (HX0.out.trans HX7.out)).mono ?_
   rintro e w8 ⟨v8, rfl, ht8, hx8⟩
   have HX8 := hid (HX7.out.trans hx8)
   have HT8 := hid ht8
   have HT78 := hid (Terms.on HT7.out hx8)
   obtain ⟨a8, c8, rfl⟩ := ht8.form
   have SA8 := hid (SA6.out.ext (HX67.out.trans hx8))
   have SB8 := hid (SB.out.ext (HX67.out.trans hx8))
   obtain ⟨nq, hnq⟩ : ∃ n, n = (ofP qs).length := ⟨_, rfl⟩
   rw [← hnq] at HT8 HT78 ⊢
   have C1 := hid (fun (Y : World) (hY : Ext w8 Y) => ref_sameside (SA8.out.ext hY).side (SB8.out.ext hY).side)
   have C2 := hid (fun (Y : World) (hY : Ext w8 Y) => rpoly_same (S := Old Y) (.slice a7 nq c7) (.slice a8 nq c8) (ofP qs) (ofP qs) Y (Terms.on HT78.out hY) (Terms.on HT8.out hY) (fun _ h => h))
   have C3 := hid (fun (Y : World) (hY : Ext w8 Y) => side_same (SA8.out.ext hY).side (HSV.out Y ((HX0.out.trans HX8.out).trans hY)))
   have C4 := hid (fun (Y : World) (hY : Ext w8 Y) => ref_sameside (SA8.out.ext hY).side (HSV.out Y ((HX0.out.trans HX8.out).trans hY)))
   have C5 := hid (fun (Y : World) (hY : Ext w8 Y) => side_same (SA8.out.ext hY).side (SB8.out.ext hY).side)
   obtain ⟨bs, hbs⟩ : ∃ b, b = sameD T s := ⟨_, rfl⟩
   rw [sameD_self] at C1 C5
   rw [← hbs] at C3 C4
   rw [show decide (ofP qs = ofP qs) = true from decide_eq_true rfl] at C2
   have L1 := fun Y : Later w8 => And.intro ((SA8.out.ext Y.h).2.2.1.1) (And.intro ((SA8.out.ext Y.h).2.2.1.2.1) ((SA8.out.ext Y.h).2.2.1.2.2))
   have L2 := fun Y : Later w8 => And.intro ((SB8.out.ext Y.h).2.2.1.1) (And.intro ((SB8.out.ext Y.h).2.2.1.2.1) ((SB8.out.ext Y.h).2.2.1.2.2))
   have L3 := fun Y : Later w8 => (HSA.out Y.w' (HX8.out.trans Y.h)).2
   clear ht8 hx8 f0 f1 f2 f3 h0 h1 h2 hnq hbs
   go_upto_region 7 with fail
   refine wp_region_later (by kernel_rfl) (by kernel_rfl) ?_
   repeat (go_big_quiet_step (first | (go_at_call 26; first | (with_reducible exact Later.done (C1.out _ (Later.h _))) | (with_reducible exact Later.done (C4.out _ (Later.h _)))) | (go_at_call 22; with_reducible exact Later.done (C2.out _ (Later.h _))) | (go_at_call 27; first | (with_reducible exact Later.done (C3.out _ (Later.h _))) | (with_reducible exact Later.done (C5.out _ (Later.h _))))))
   refine wpQuiet_nil ?_
   intro w9 hx9
   have HX9 := hid (HX8.out.trans hx9)
   have HXW9 := hid (HX0.out.trans HX9.out)
   have SA9 := hid (SA8.out.ext hx9)
   have SB9 := hid (SB8.out.ext hx9)
   clear L1 L2 L3 hx9
   by_cases hbad : mayT ts = false ∨ ts = []
   ·obtain ⟨rfl, rfl⟩ : 2 = er ∧ _ = T := by have h := HE.out; rw [sideP_two hbad] at h; simpa using h
    clear hbad
    go_wp2_with fail
    with_reducible refine (law28_known _).mono ?_
    rintro e wz ⟨rfl, hxz⟩
    have HXZ := hid (HXW9.out.trans hxz)
    clear hxz
    go_wp2
    all_goals
     go_ret
     exact ⟨rfl, HXZ.out⟩
   obtain ⟨P, hP⟩ : ∃ P, P = plainP ts := ⟨_, rfl⟩
   have hTT : 0 = er ∧ toldP x (wholeP P) = T := by rw [hP]; have h := HE.out; rw [sideP_zero hbad] at h; simpa using h
   obtain ⟨rfl, hT⟩ := hTT
   have hmay : mayT ts = true := by
    cases hm : mayT ts with
    | true => rfl
    | false => exact absurd (.inl hm) hbad
   have hok2 : okT ts := (HP.out W (Ext.refl _)).okT
   have HF : Hid (Fit 20 40 P) := hid (by rw [hP]; exact fit_plain hok2 (fun t ht => (HGM.out t ht).1) HGL.out)
   have HP0 : Hid (P ≠ []) := hid (fun e => hbad (.inr (by rw [pv_of (HP.out W (Ext.refl _)) hmay, ← hP, e]; rfl)))
   have hb := told_bounds x (wholeP P)
   rw [hT] at hb
   have HTP : Hid (T.poly = ofP (wholeP P)) := hid (by rw [← hT]; exact told_poly _ _)
   have CW := side_poly (k := 20) (n := 40) (HL.out w9 HXW9.out) HOK.out SA9.out.side (fun t ht => by rw [HTP.out] at ht; exact HF.out.whole.lens t ht) (by decide) (by rw [HTP.out, ofP_len]; exact HF.out.whole.2.2) (by decide) hb.1 hb.2
   rw [show polyX x T = (0, wholeP P) from by rw [← hT]; exact poly_told HF.out.can HP0.out] at CW
   have CW := hid CW
   obtain ⟨⟨d0, d1, d2, d3⟩, -⟩ := HSA.out w9 HX9.out
   obtain ⟨p0, p1, p2⟩ := SA9.out.2.2.1
   clear hbad hmay hok2 hb hT hP
   go_upto_region 11 with fail
   go_wp2_with fail
   with_reducible refine CW.out.mono ?_
   rintro e wa ⟨va, rfl, hta, hxa⟩
   have HXA := hid (HXW9.out.trans hxa)
   have SBA := hid (SB9.out.ext hxa)
   have C6 := rpoly_same (S := Old wa) va (.slice ap5 T.poly.length cp5) (ofP (wholeP P)) T.poly wa hta SBA.out.2.2.2.2 (fun _ h => h)
   rw [HTP.out, show decide (ofP (wholeP P) = ofP (wholeP P)) = true from decide_eq_true rfl, ← HTP.out] at C6
   have C6 := hid C6
   obtain ⟨q0, q1, q2⟩ := SBA.out.2.2.1
   obtain ⟨aa', ca', rfl⟩ := hta.form
   clear hta hxa d0 d1 d2 d3 p0 p1 p2
   go_upto_region 12 with fail
   go_wp2_with fail
   with_reducible refine C6.out.mono ?_
   rintro e wb ⟨rfl, hxb⟩
   have HXB := hid (HXA.out.trans hxb)
   clear hxb q0 q1 q2
   go_wp2_with fail
   with_reducible refine (law28_known _).mono ?_
   rintro e wz ⟨rfl, hxz⟩
   have HXZ := hid (HXB.out.trans hxz)
   clear hxz
   go_wp2
   all_goals
    go_ret
    exact ⟨rfl, HXZ.out⟩
end
section
open Go.RowKit Go.Deep Go.ChangeShapes Go.WideShapes Go.ChangeAt
theorem tells28_lifted (os : Os) (started : os.Started) (H : Type) (enc : TypeId × Value → H) :
  ReturnsInHanded {} Tryz.checked os 5 .any (Rows.sideTellsSpec.pre6 enc Tryz.prog Tryz.f5 Rows.sideTellsRow.domain false) (Rows.sideTellsSpec.post enc Tryz.prog Tryz.f5 false true false false) := by
 refine returnsInHanded_of_change (C := Tryz.checked) Tryz.own started (by kernel_rfl) Tryz.func5
  (ChangeSpec.witness6 (enc := enc) (C := Tryz.checked) false ⟨#[], #[.agg #[.slice none 0 0, .slice none 0 0, .int .i64 0, .int .i64 0], .slice none 0 0, .agg #[.string { data := #[] }, .slice none 0 0, .slice none 0 0]], []⟩ 8 (by kernel_rfl) (by kernel_rfl) (by kernel_rfl) (by kernel_rfl)) ?_
 intro W base args ds gs before hval0 hW _ _
 have hval : ∀ (j : Nat) t v, Tryz.f5.params[j]? = some t → args[j]? = some v → Value.okWide Tryz.prog W .any base t v := hval0
 have hW' := hW
 obtain ⟨p, q, hA0, hV, _, _, _⟩ := hW'
 have hA : DataW.TrodAll enc Tryz.prog W 0 (fun _ => true) true Tryz.f5.params.toList args.toList ds p := hA0
 rw [Tryz.params5] at hA hval
 obtain ⟨v0, v1, v2, d0, d1, d2, p0, p1, p2, rfl, rfl, rfl, h0, h1, h2⟩ := trodAll_three hA
 obtain ⟨rfl, rfl⟩ := trodVars_none hV
 obtain ⟨x0, hx0, _, _⟩ := layout_arg (hval 0 _ v0 rfl rfl) h0
 obtain ⟨fuel1, hf1⟩ := h1
 rw [slice_cells Tryz.underlying23 (hval 1 _ v1 rfl rfl)] at hf1
 obtain ⟨x1, hx1⟩ := open_terms hf1
 obtain ⟨x2, hx2⟩ := side_arg (hval 2 _ v2 rfl rfl) h2
 refine (law28_tells hx0 hx1 hx2).mono fun e W' h => ?_
 obtain ⟨rfl, hb⟩ := h
 exact ⟨_, rfl, law_post hW rfl rfl rfl (by rw [Tryz.params5]; intro t ht; simp at ht; rcases ht with rfl | rfl | rfl <;> exact ⟨by kernel_rfl, by decide +kernel⟩) hb⟩
theorem sidetells_holds : Rows.SideTellsSaid :=
 OpenClaim.holds_of_wide 5 Tryz.f5 rfl rfl rfl rfl rfl rfl rfl ⟨rfl, rfl, rfl, rfl, rfl⟩ rfl rfl rfl rfl rfl (by kernel_rfl) Tryz.func5 (by kernel_rfl)
  (of_decide_eq_true (by kernel_rfl)) (by unfold Func.isWrapper; first | (rw [if_pos (by decide +kernel)]; kernel_rfl) | (rw [if_neg (by decide +kernel)]; exact ⟨rfl, rfl⟩))
  (fun os started H enc _ => tells28_lifted os started H enc)
end
end Go.Proofs.YtbfflodidkfphaaGreat
