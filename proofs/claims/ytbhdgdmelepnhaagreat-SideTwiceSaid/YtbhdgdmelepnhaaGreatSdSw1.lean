/- SideTwice holds: a polynomial times a number that is not 0, and what is told of it, are told as the polynomial itself is; the law answers true, and its arguments read as they did. No condition. -/
import Derived.Test.YtbhdgdmelepnhaaGreatSd10
namespace Go.Proofs.YtbhdgdmelepnhaaGreat
open Go.RowKit

set_option maxRecDepth 100000 in
set_option maxHeartbeats 16000000 in
theorem law28_twice {W : World} {v vp : Value} {x : Lay} {ts : List RTerm} {T : Int} (hx : LayV (Old W) W v x) (hp : Terms (Old W) W vp ts) :
    Calls Tryz.prog 4 #[v, vp, .int .i64 T] W fun e w' => e = .returned (.bool true) ∧ Ext W w' := by
  have HL := hid (fun (Y : World) (hY : Ext W Y) => hx.on hY)
  have HP := hid (fun (Y : World) (hY : Ext W Y) => Terms.on hp hY)
  have HOKT := hid hp.okT
  have CG := hid (fun (Y : World) (hY : Ext W Y) => law28_great (HL.out Y hY) (HP.out Y hY))
  obtain ⟨vq, va, rfl, hq, ha⟩ := hx
  obtain ⟨ap, cp, rfl⟩ := hq.form
  obtain ⟨aa, ca, rfl⟩ := ha.form
  obtain ⟨at_, ct, rfl⟩ := hp.form
  obtain ⟨nt, hnt⟩ : ∃ n, n = ts.length := ⟨_, rfl⟩
  obtain ⟨np, hnp⟩ : ∃ n, n = x.pts.length := ⟨_, rfl⟩
  obtain ⟨na, hna⟩ : ∃ n, n = x.ats.length := ⟨_, rfl⟩
  rw [← hnt, ← hnp, ← hna] at CG
  rw [← hnp, ← hna] at HL
  rw [← hnt] at HP
  rw [← hnt, ← hnp, ← hna]
  have HNT := hid hnt
  obtain ⟨g, hg⟩ : ∃ g, g = great28 x ts := ⟨_, rfl⟩
  rw [← hg] at CG
  have HG := hid hg
  obtain ⟨wa, hwa⟩ : ∃ Y, Y = W.alloc (.cells #[.slice ap np cp, .slice aa na ca, .int .i64 x.par, .int .i64 x.vrs] 35) := ⟨_, rfl⟩
  obtain ⟨b1, hb1⟩ : ∃ b, b = W.heap.size := ⟨_, rfl⟩
  have HXA : Hid (Ext W wa) := hid (by rw [hwa]; exact Ext.alloc (Ext.refl _) _)
  have HSA : Hid (∀ Y, Ext wa Y → Y.cell? ⟨b1, 0, none⟩ = some (.slice ap np cp) ∧ Y.cell? ⟨b1, 1, none⟩ = some (.slice aa na ca) ∧ Y.cell? ⟨b1, 2, none⟩ = some (.int .i64 x.par) ∧ Y.cell? ⟨b1, 3, none⟩ = some (.int .i64 x.vrs)) := hid (fun Y h => by
    rw [hwa] at h
    have k0 : ∀ (i : Nat) (u : Value), #[Value.slice ap np cp, .slice aa na ca, .int .i64 x.par, .int .i64 x.vrs][i]? = some u → Y.cell? ⟨b1, i, none⟩ = some u := fun i u hu => h.cell (cell_new W _ _ hb1 hu)
    exact ⟨k0 0 _ rfl, k0 1 _ rfl, k0 2 _ rfl, k0 3 _ rfl⟩)
  have HLA := hid (fun (Y : World) (hY : Ext wa Y) => HL.out Y (HXA.out.trans hY))
  have HPA := hid (fun (Y : World) (hY : Ext wa Y) => HP.out Y (HXA.out.trans hY))
  have HWA := hid hwa
  have HB1 := hid hb1
  obtain ⟨t0, ht0⟩ : ∃ b, b = (T == 0) := ⟨_, rfl⟩
  obtain ⟨t1, ht1⟩ : ∃ b, b = decide (1099511627776 < T) := ⟨_, rfl⟩
  obtain ⟨t2, ht2⟩ : ∃ b, b = decide (T < -1099511627776) := ⟨_, rfl⟩
  have q0 := ht0.symm
  have q1 := ht1.symm
  have q2 := ht2.symm
  clear hq ha hp hnt hnp hna hg hwa hb1 ht0 ht1 ht2
  go_enter Tryz.func4, Tryz.ntmps4
  go_upto_region 1 with fail
  rw [← HB1.out]
  rw [← HWA.out]
  obtain ⟨d0, d1, d2, d3⟩ := HSA.out wa (Ext.refl _)
  go_wp2_with fail
  with_reducible refine (CG.out wa HXA.out).mono ?_
  rintro e w1 ⟨rfl, hx1⟩
  have HX1 := hid hx1
  clear hx1 d0 d1 d2 d3
  cases g with
  | true =>
    go_wp2_with fail
    with_reducible refine (law28_known _).mono ?_
    rintro e w2 ⟨rfl, hx2⟩
    have HX2 := hid (HXA.out.trans (HX1.out.trans hx2))
    clear hx2
    go_wp2
    all_goals
      go_ret
      exact ⟨rfl, HX2.out⟩
  | false =>
    cases t0 with
    | true =>
      go_wp2_with fail
      with_reducible refine (law28_known _).mono ?_
      rintro e w2 ⟨rfl, hx2⟩
      have HX2 := hid (HXA.out.trans (HX1.out.trans hx2))
      clear hx2
      go_wp2
      all_goals
        go_ret
        exact ⟨rfl, HX2.out⟩
    | false =>
      cases t1 with
      | true =>
        go_wp2_with fail
        with_reducible refine (law28_known _).mono ?_
        rintro e w2 ⟨rfl, hx2⟩
        have HX2 := hid (HXA.out.trans (HX1.out.trans hx2))
        clear hx2
        go_wp2
        all_goals
          go_ret
          exact ⟨rfl, HX2.out⟩
      | false =>
        cases t2 with
        | true =>
          go_wp2_with fail
          with_reducible refine (law28_known _).mono ?_
          rintro e w2 ⟨rfl, hx2⟩
          have HX2 := hid (HXA.out.trans (HX1.out.trans hx2))
          clear hx2
          go_wp2
          all_goals
            go_ret
            exact ⟨rfl, HX2.out⟩
        | false =>
          have hT0 : T ≠ 0 := fun e => by rw [e] at q0; cases q0
          have hT1 : T ≤ 1099511627776 := by have := of_decide_eq_false q1; omega
          have hT2 : -1099511627776 ≤ T := by have := of_decide_eq_false q2; omega
          have HT0 := hid hT0
          have HT12 := hid (And.intro hT1 hT2)
          clear hT0 hT1 hT2
          obtain ⟨hpl, hal, hgt, hok⟩ := great28_no HG.out.symm
          obtain ⟨hgl, hgm⟩ := great_fit hgt
          have HOK := hid hok
          have HPL := hid hpl
          have HAL := hid hal
          have HGL := hid hgl
          have HGM := hid hgm
          clear hpl hal hgt hok hgl hgm
          obtain ⟨d0, d1, d2, d3⟩ := HSA.out w1 HX1.out
          have CO := side_of (k := 20) (n := 40) (HLA.out w1 HX1.out) HOK.out (HPA.out w1 HX1.out) (fun t ht => (HGM.out t ht).1) (by decide) HGL.out (by decide) (by have := HPL.out; omega) (by have := HAL.out; omega)
          by_cases hbad : mayT ts = false ∨ ts = []
          · rw [show sideP x ts = (2, ⟨ByteArray.empty, [], []⟩) from if_pos hbad] at CO
            have CO := hid CO
            clear hbad
            go_upto_region 3 with fail
            go_wp2_with fail
            with_reducible refine CO.out.mono ?_
            rintro e w2 ⟨v2, rfl, ⟨vn2, vp2, rfl, hs2, ht2⟩, hx2⟩
            obtain ⟨an2, cn2, en2⟩ : ∃ a c, vn2 = .slice a 0 c := hs2.form
            obtain ⟨ap2, cp2, ep2⟩ : ∃ a c, vp2 = .slice a 0 c := ht2.form
            subst en2 ep2
            have HX2 := hid (HXA.out.trans (HX1.out.trans hx2))
            clear hs2 ht2 hx2 d0 d1 d2 d3
            go_wp2_with fail
            with_reducible refine (law28_known _).mono ?_
            rintro e w3 ⟨rfl, hx3⟩
            have HX3 := hid (HX2.out.trans ((Ext.alloc (Ext.refl _) _).trans hx3))
            clear hx3
            go_wp2
            all_goals
              go_ret
              exact ⟨rfl, HX3.out⟩
          obtain ⟨hmay, hne⟩ : mayT ts = true ∧ ts ≠ [] := ⟨by cases h : mayT ts with
            | true => rfl
            | false => exact absurd (.inl h) hbad, fun h => hbad (.inr h)⟩
          obtain ⟨P, hP⟩ : ∃ P, P = plainP ts := ⟨_, rfl⟩
          have e0 : ts = ofP P := by rw [hP, plainP_yes hmay]; exact (mayT_of HOKT.out hmay).symm
          have fP : Fit 20 40 P := by rw [hP]; exact fit_plain HOKT.out (fun t ht => (HGM.out t ht).1) HGL.out
          have hP0 : P ≠ [] := fun e => hne (by rw [e0, e]; rfl)
          obtain ⟨s, hs⟩ : ∃ s, s = toldP x (wholeP P) := ⟨_, rfl⟩
          rw [show sideP x ts = (0, s) from by unfold sideP; rw [if_neg hbad, ← hP, hs]] at CO
          have CO := hid CO
          have hsp : s.poly = ofP (wholeP P) := by rw [hs]; exact told_poly _ _
          have HSP := hid hsp
          obtain ⟨we, hwe⟩ : ∃ b, b = (s.word.toList == []) := ⟨_, rfl⟩
          have hpe : (((s.pts.length : Nat) : Int) == 0) = we := by rw [hwe, hs]; exact (told_empty x (wholeP P)).symm
          have HSE := hid hs
          have HFP := hid fP
          have HPP := hid (fun (Y : World) (hY : Ext wa Y) => (show PV Y (.slice at_ nt ct) P from by have h := HPA.out Y hY; rw [e0] at h; exact h))
          have CS := fun (Y : World) (u : Value) (p : PZ) (hY : Ext wa Y) (hu : PV Y u p) {k n : Nat} (fp : Fit k n p) (h0 : p ≠ []) (hk : k ≤ 1000000) (hn : n ≤ 1000000000000) => side_ofP (HLA.out Y hY) HOK.out hu fp h0 hk hn (by have := HPL.out; omega) (by have := HAL.out; omega)
          have HCS := hid CS
          have CW := hid (fun (Y : World) (hY : Ext wa Y) => (poly_whole (HPP.out Y hY) fP (by decide) (by decide)))
          have fC : Fit 24 40 (scaleP T P) := by
            have h := (fit_one (c := T) (m := []) (k := 2) rfl (lenI_lt (by show T.natAbs < 4294967296 ^ 2; have := HT12.out; omega))).times fP (scale_times HT0.out fP.can) (by decide)
            exact h.mono (by decide) (by decide)
          have hC0 : scaleP T P ≠ [] := fun e => hP0 (by
            unfold scaleP at e
            exact List.map_eq_nil_iff.1 e)
          have HC := hid (And.intro fC hC0)
          have HP0N := hid hP0
          have q3 := hwe.symm
          have HPE := hid hpe
          clear hbad hmay hne hP e0 fP hP0 hs hsp CS fC hC0 hpe hwe
          go_upto_region 3 with fail
          go_wp2_with fail
          with_reducible refine CO.out.mono ?_
          rintro e w4 ⟨v4, rfl, ⟨vn4, vp4, rfl, hs4, ht4⟩, hx4⟩
          have HX4 := hid (HX1.out.trans hx4)
          obtain ⟨an4, cn4, en4⟩ := hs4.form
          obtain ⟨ap4, cp4, ep4⟩ := ht4.form
          have HSV := hid (SV.fresh (Ext.refl w4) (hs4.to (Kept.refl _ _) New.lt) (ht4.to (Kept.refl _ _) New.lt) 40)
          have HXF := hid (show Ext w4 (w4.alloc (.cells #[.string s.word, vn4, vp4] 40)) from Ext.alloc (Ext.refl _) _)
          subst en4 ep4
          obtain ⟨w5, hw5⟩ : ∃ Y, Y = w4.alloc (.cells #[.string s.word, .slice an4 s.pts.length cn4, .slice ap4 s.poly.length cp4] 40) := ⟨_, rfl⟩
          rw [← hw5] at HSV HXF
          obtain ⟨b6, hb6⟩ : ∃ b, b = w4.heap.size := ⟨_, rfl⟩
          rw [← hb6] at HSV
          clear hx4 hs4 ht4 d0 d1 d2 d3
          go_upto_region 6 with fail
          rw [← hb6]
          rw [← hw5]
          clear hw5 hb6
          have HX5 := hid (HX4.out.trans HXF.out)
          have HSW : Hid (∀ Y, Ext w5 Y → Y.cell? ⟨b1, 0, none⟩ = some (.slice ap np cp) ∧ Y.cell? ⟨b1, 1, none⟩ = some (.slice aa na ca) ∧ Y.cell? ⟨b1, 2, none⟩ = some (.int .i64 x.par) ∧ Y.cell? ⟨b1, 3, none⟩ = some (.int .i64 x.vrs)) := hid (fun Y h => HSA.out Y (HX5.out.trans h))
          have C1 := hid (fun (Y : World) => rz_smallZ Y (n := T) (by have := HT12.out; omega))
          have C2 := hid (fun (Y : World) (hY : Ext w5 Y) => rz_ofP (HPP.out Y (HX5.out.trans hY)) HFP.out (by decide) (by decide))
          have C3 := hid (fun (Y : World) (u v : Value) (hu : RV Y u (oneZ T [])) (hv : RV Y v P) => rz_mulV hu hv (fit_one (c := T) (m := []) (k := 2) rfl (lenI_lt (by show T.natAbs < 4294967296 ^ 2; have := HT12.out; omega))) HFP.out (by decide) (by decide) (by decide) (by decide) (scale_times HT0.out HFP.out.can))
          have C4 := hid (fun (Y : World) (u : Value) (hu : RV Y u (scaleP T P)) => rz_poly hu HC.out.1 (by decide) (by decide))
          have C5 := fun (Y : World) (u : Value) (hY : Ext w5 Y) (hu : PV Y u (scaleP T P)) => HCS.out Y u (scaleP T P) (HX5.out.trans hY) hu HC.out.1 HC.out.2 (by decide) (by decide)
          rw [whole_scale HT0.out HFP.out.can HP0N.out, ← HSE.out] at C5
          have C5 := hid C5
          go_cut [9, 10] (fun us ue wx => ∃ (bs : Nat) (an : Option Addr) (cn : Nat) (ap : Option Addr) (cp : Nat), us = .pointer (some ⟨bs, 0, none⟩) ∧ ue = .int .i64 0 ∧ Hid (SV w5 bs wx s (.slice an (s).pts.length cn) (.slice ap (s).poly.length cp)))
          case first =>
            have HXD := hid (show Ext w5 w5.drew from Ext.drew (Ext.refl _))
            go_region_held3 (fun Y => Y.cell? ⟨b1, 0, none⟩ = some (.slice ap np cp) ∧ Y.cell? ⟨b1, 1, none⟩ = some (.slice aa na ca) ∧ Y.cell? ⟨b1, 2, none⟩ = some (.int .i64 x.par) ∧ Y.cell? ⟨b1, 3, none⟩ = some (.int .i64 x.vrs)) (first | exact HSW.out _ HXD.out | exact HSW.out _ (((Ext.refl w5).alloc _).drew) | exact HSW.out _ HX1.out | exact HSW.out _ (HX1.out.alloc _) | exact HSW.out _ HX2.out | exact HSW.out _ (HX2.out.alloc _) | exact HSW.out _ HX3.out | exact HSW.out _ (HX3.out.alloc _) | exact HSW.out _ HX4.out | exact HSW.out _ (HX4.out.alloc _) | exact HSW.out _ HX5.out | exact HSW.out _ (HX5.out.alloc _) | exact HSW.out _ (ext_set3 HX5.out BX.out.lo _ _ _) | exact HSW.out _ (ext_set3 (HX5.out.alloc _) HX5.out.size _ _ _))
              (first
                | (go_at_call 19; ((with_reducible refine (C1.out _).mono ?_)); rintro e w1 ⟨v1, rfl, hp1, hx1⟩; (first | (have HX1 := hid (HXD.out.trans hx1)) | (have HX1 := hid ((((Ext.refl w5).alloc _).drew).trans hx1)) | fail); (try (have BX := hid (sbx_drew hx1))); have HP1_1 := hid hp1; obtain ⟨a1, c1, rfl⟩ := hp1.form; clear hx1 hp1)
                | (go_at_call 13; (first | (with_reducible refine (C2.out w1  HX1.out ).mono ?_) | (with_reducible refine (C2.out _  (HX1.out.alloc _) ).mono ?_) | fail); rintro e w2 ⟨v2, rfl, hp2, hx2⟩; (first | (have HX2 := hid (HX1.out.trans hx2)) | (have HX2 := hid ((HX1.out.alloc _).trans hx2)) | fail); (first | (have BX := hid (BX.out.ext hx2)) | (have BX := hid (sbx_new HX1.out hx2)) | skip); (first | (have HP1_2 := hid (RTs.on HP1_1.out hx2)) | (have HP1_2 := hid (RTs.on HP1_1.out ((Ext.alloc (Ext.refl w1) _).trans hx2))) | fail); have HP2_2 := hid hp2; obtain ⟨a2, c2, rfl⟩ := hp2.form; clear hx2 hp2)
                | (go_at_call 18; (first | (with_reducible refine (C3.out w2 _ _  HP1_2.out HP2_2.out).mono ?_) | (with_reducible refine (C3.out _ _ _  (RTs.on HP1_2.out (Ext.alloc (Ext.refl w2) _)) (RTs.on HP2_2.out (Ext.alloc (Ext.refl w2) _))).mono ?_) | fail); rintro e w3 ⟨v3, rfl, hp3, hx3⟩; (first | (have HX3 := hid (HX2.out.trans hx3)) | (have HX3 := hid ((HX2.out.alloc _).trans hx3)) | fail); (first | (have BX := hid (BX.out.ext hx3)) | (have BX := hid (sbx_new HX2.out hx3)) | skip); have HP3_3 := hid hp3; obtain ⟨a3, c3, rfl⟩ := hp3.form; clear hx3 hp3)
                | (go_at_call 20; (first | (with_reducible refine (C4.out w3 _  HP3_3.out).mono ?_) | (with_reducible refine (C4.out _ _  (RTs.on HP3_3.out (Ext.alloc (Ext.refl w3) _))).mono ?_) | fail); rintro e w4 ⟨v4, rfl, hp4, hx4⟩; (first | (have HX4 := hid (HX3.out.trans hx4)) | (have HX4 := hid ((HX3.out.alloc _).trans hx4)) | fail); (first | (have BX := hid (BX.out.ext hx4)) | (have BX := hid (sbx_new HX3.out hx4)) | skip); have HP4_4 := hid hp4; obtain ⟨a4, c4, rfl⟩ := hp4.form; clear hx4 hp4)
                | (go_at_call 10; (first | (with_reducible refine (C5.out w4 _ HX4.out HP4_4.out).mono ?_) | (with_reducible refine (C5.out _ _ (HX4.out.alloc _) (Terms.on HP4_4.out (Ext.alloc (Ext.refl w4) _))).mono ?_) | fail); rintro e w5 ⟨v5, rfl, ⟨vn, vp, rfl, hs, ht⟩, hx5⟩; (try (have BX0 := BX)); (first | (have HX5 := hid (HX4.out.trans hx5)) | (have HX5 := hid ((HX4.out.alloc _).trans hx5)) | fail); (first | (have BX := hid (BX.out.ext hx5)) | (have BX := hid (sbx_new HX4.out hx5)) | skip); (try (obtain ⟨y0, y1, y2, yf0, yf1, yf2, -⟩ := BX.out)); have HS := hid hs; have HT := hid ht; have HXL := hid hx5; obtain ⟨an, cn, rfl⟩ := hs.form; obtain ⟨ap, cp, rfl⟩ := ht.form; clear hx5 hs ht)
                | fail)
            all_goals
              go_wp2_with fail
              go_meet
              first
                | exact ⟨_, _, _, _, _, rfl, rfl, hid (SV.put BX.out HX5.out (HS.out.to (Kept.refl _ _) (fun k hk => ⟨hk.2, fun e => by have h1 := hk.1; rw [size_alloc] at h1; omega⟩)) (HT.out.to (Kept.refl _ _) (fun k hk => ⟨hk.2, fun e => by have h1 := hk.1; rw [size_alloc] at h1; omega⟩)))⟩
                | exact ⟨_, _, _, _, _, rfl, rfl, hid (SV.put BX.out HX5.out (HS.out.to (Kept.refl _ _) (fun k hk => ⟨hk.2, fun e => by have h1 := hk.1; have h2 := lt_of_cell BX0.out.c0; omega⟩)) (HT.out.to (Kept.refl _ _) (fun k hk => ⟨hk.2, fun e => by have h1 := hk.1; have h2 := lt_of_cell BX0.out.c0; omega⟩)))⟩
                | exact ⟨_, _, _, _, _, rfl, rfl, hid (SV.fresh HX5.out (HS.out.to (Kept.refl _ _) (fun k hk => hk.2)) (HT.out.to (Kept.refl _ _) (fun k hk => hk.2)) _)⟩
                | fail
          case rest =>
            obtain ⟨b7, an7, cn7, ap7, cp7, rfl, rfl, HSV2⟩ := hcut
            have HX6 := hid (HX5.out.trans HSV2.out.1)
            have HSV := hid (HSV.out.ext HSV2.out.1)
            go_upto_region 7 with fail
            obtain ⟨w6, hw6⟩ : ∃ Y, Y = wc := ⟨_, rfl⟩
            rw [← hw6] at HX6 HSV HSV2 ⊢
            clear hw6
            obtain ⟨d0, d1, d2, d3⟩ := HSA.out w6 HX6.out
            obtain ⟨p0, p1, p2⟩ := HSV.out.2.2.1
            have C6 := HCS.out w6 (.slice ap4 s.poly.length cp4) (wholeP P) HX6.out (by have h := HSV.out.2.2.2.2; rw [HSP.out] at h ⊢; exact h) HFP.out.whole (whole_ne HP0N.out) (by decide) (by decide)
            rw [whole_whole HFP.out.can HP0N.out, ← HSE.out] at C6
            have C6 := hid C6
            go_wp2_with fail
            with_reducible refine C6.out.mono ?_
            rintro e w7 ⟨v7, rfl, ⟨vn7, vp7, rfl, hs7, ht7⟩, hx7⟩
            obtain ⟨an8, cn8, en7⟩ := hs7.form
            obtain ⟨ap8, cp8, ep7⟩ := ht7.form
            have HSV3 := hid (SV.fresh (Ext.refl w7) (hs7.to (Kept.refl _ _) New.lt) (ht7.to (Kept.refl _ _) New.lt) 40)
            have HXF3 := hid (show Ext w7 (w7.alloc (.cells #[.string s.word, vn7, vp7] 40)) from Ext.alloc (Ext.refl _) _)
            subst en7 ep7
            obtain ⟨w8, hw8⟩ : ∃ Y, Y = w7.alloc (.cells #[.string s.word, .slice an8 s.pts.length cn8, .slice ap8 s.poly.length cp8] 40) := ⟨_, rfl⟩
            rw [← hw8] at HSV3 HXF3
            obtain ⟨b8, hb8⟩ : ∃ b, b = w7.heap.size := ⟨_, rfl⟩
            rw [← hb8] at HSV3
            have HX8 := hid (HX6.out.trans (hx7.trans HXF3.out))
            have HSV := hid (HSV.out.ext (hx7.trans HXF3.out))
            have HSV2 := hid (HSV2.out.ext (hx7.trans HXF3.out))
            clear hx7 hs7 ht7 d0 d1 d2 d3 p0 p1 p2
            go_upto_region 8 with fail
            rw [← hb8]
            rw [← hw8]
            clear hw8 hb8
            have CW := hid (CW.out w8 HX8.out)
            go_wp2_with fail
            with_reducible refine CW.out.mono ?_
            rintro e w9 ⟨v9, rfl, ht9, hx9⟩
            obtain ⟨a9, c9, rfl⟩ := ht9.form
            have HT9 := hid (show PV w9 (.slice a9 (ofP (wholeP P)).length c9) (wholeP P) from ht9.to (Kept.refl _ _) New.lt)
            have HX9 := hid (HX8.out.trans hx9)
            have HSV := hid (HSV.out.ext hx9)
            have HSV2 := hid (HSV2.out.ext hx9)
            have HSV3 := hid (HSV3.out.ext hx9)
            have ln := congrArg List.length HSP.out
            rw [← ln] at HT9
            rw [← ln]
            clear ht9 hx9 ln
            go_upto_region 9 with fail
            obtain ⟨p0, p1, p2⟩ := HSV.out.2.2.1
            obtain ⟨r0, r1, r2⟩ := HSV2.out.2.2.1
            have CA := side_same HSV.out.side HSV2.out.side
            rw [show sameD s s = true from by unfold sameD; simp] at CA
            have CA := hid CA
            go_wp2_with fail
            with_reducible refine CA.out.mono ?_
            rintro e w10 ⟨rfl, hx10⟩
            have HX10 := hid (HX9.out.trans hx10)
            have HSV := hid (HSV.out.ext hx10)
            have HSV3 := hid (HSV3.out.ext hx10)
            have HT9 := hid (Terms.on HT9.out hx10)
            clear hx10 p0 p1 p2 r0 r1 r2
            obtain ⟨p0, p1, p2⟩ := HSV.out.2.2.1
            obtain ⟨r0, r1, r2⟩ := HSV3.out.2.2.1
            have CB := side_same HSV.out.side HSV3.out.side
            rw [show sameD s s = true from by unfold sameD; simp] at CB
            have CB := hid CB
            go_wp2_with fail
            with_reducible refine CB.out.mono ?_
            rintro e w11 ⟨rfl, hx11⟩
            have HX11 := hid (HX10.out.trans hx11)
            have HSV := hid (HSV.out.ext hx11)
            have HT9 := hid (Terms.on HT9.out hx11)
            clear hx11 p0 p1 p2 r0 r1 r2
            obtain ⟨p0, p1, p2⟩ := HSV.out.2.2.1
            have CC := z_same (p := wholeP P) (q := wholeP P) (u := .slice ap4 s.poly.length cp4) (v := .slice a9 s.poly.length c9) (by have h := HSV.out.2.2.2.2; rw [HSP.out] at h ⊢; exact h) HT9.out
            rw [decide_eq_true rfl] at CC
            have CC := hid CC
            go_wp2_with fail
            with_reducible refine CC.out.mono ?_
            rintro e w12 ⟨rfl, hx12⟩
            have HX12 := hid (HX11.out.trans hx12)
            have HSV := hid (HSV.out.ext hx12)
            clear hx12 p0 p1 p2
            obtain ⟨p0, p1, p2⟩ := HSV.out.2.2.1
            have q4 := HPE.out
            cases we with
            | true =>
              go_wp2_with fail
              with_reducible refine (law28_known _).mono ?_
              rintro e w13 ⟨rfl, hx13⟩
              have HX13 := hid (HXA.out.trans (HX12.out.trans hx13))
              clear hx13
              go_wp2
              all_goals
                go_ret
                exact ⟨rfl, HX13.out⟩
            | false =>
              go_wp2_with fail
              with_reducible refine (law28_known _).mono ?_
              rintro e w13 ⟨rfl, hx13⟩
              have HX13 := hid (HXA.out.trans (HX12.out.trans hx13))
              clear hx13
              go_wp2
              all_goals
                go_ret
                exact ⟨rfl, HX13.out⟩
end Go.Proofs.YtbhdgdmelepnhaaGreat

namespace Go.Proofs.YtbhdgdmelepnhaaGreat
open Go.RowKit Go.Deep Go.ChangeShapes Go.WideShapes Go.ChangeAt

set_option maxRecDepth 100000 in
theorem twice_lifted (os : Os) (started : os.Started) (H : Type) (enc : TypeId × Value → H) :
    ReturnsInHanded {} Tryz.checked os 4 .any (Rows.sideTwiceSpec.pre6 enc Tryz.prog Tryz.f4 Rows.sideTwiceRow.domain false) (Rows.sideTwiceSpec.post enc Tryz.prog Tryz.f4 false true false false) := by
  refine returnsInHanded_of_change (C := Tryz.checked) Tryz.own started (by kernel_rfl) Tryz.func4
    (ChangeSpec.witness6 (enc := enc) (C := Tryz.checked) false ⟨#[], #[.agg #[.slice none 0 0, .slice none 0 0, .int .i64 0, .int .i64 0], .slice none 0 0, .int .i64 0], []⟩ 8 (by kernel_rfl) (by kernel_rfl) (by kernel_rfl) (by kernel_rfl)) ?_
  intro W base args ds gs before hval0 hW _ _
  have hval : ∀ (j : Nat) t v, Tryz.f4.params[j]? = some t → args[j]? = some v → Value.okWide Tryz.prog W .any base t v := hval0
  have hW' := hW
  obtain ⟨p, q, hA0, hV, _, _, _⟩ := hW'
  have hA : DataW.TrodAll enc Tryz.prog W 0 (fun _ => true) true Tryz.f4.params.toList args.toList ds p := hA0
  rw [Tryz.params4] at hA hval
  obtain ⟨v0, v1, v2, d0, d1, d2, p0, p1, p2, rfl, rfl, rfl, h0, h1, h2⟩ := trodAll_three hA
  obtain ⟨rfl, rfl⟩ := trodVars_none hV
  obtain ⟨x0, hx0, _, _⟩ := layout_arg (hval 0 _ v0 rfl rfl) h0
  obtain ⟨fuel1, hf1⟩ := h1
  rw [slice_cells Tryz.underlying23 (hval 1 _ v1 rfl rfl)] at hf1
  obtain ⟨x1, hx1⟩ := open_terms hf1
  obtain ⟨fuel2, hf2⟩ := h2
  obtain ⟨y2, rfl, hy2⟩ := int_arg12 (hval 2 _ v2 rfl rfl) hf2
  refine (law28_twice (T := y2) hx0 hx1).mono fun e W' h => ?_
  obtain ⟨rfl, hb⟩ := h
  exact ⟨_, rfl, law_post hW rfl rfl rfl (by rw [Tryz.params4]; intro t ht; simp at ht; rcases ht with rfl | rfl | rfl <;> exact ⟨by kernel_rfl, by decide +kernel⟩) hb⟩

theorem sidetwice_holds : Rows.SideTwiceSaid :=
  OpenClaim.holds_of_wide 4 Tryz.f4 rfl rfl rfl rfl rfl rfl rfl ⟨rfl, rfl, rfl, rfl, rfl⟩ rfl rfl rfl rfl rfl (by kernel_rfl) Tryz.func4 (by kernel_rfl)
    (of_decide_eq_true (by kernel_rfl)) (by unfold Func.isWrapper; first | (rw [if_pos (by decide +kernel)]; kernel_rfl) | (rw [if_neg (by decide +kernel)]; exact ⟨rfl, rfl⟩))
    (fun os started H enc _ => twice_lifted os started H enc)
end Go.Proofs.YtbhdgdmelepnhaaGreat
