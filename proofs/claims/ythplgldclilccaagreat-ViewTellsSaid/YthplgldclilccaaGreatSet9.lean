/- ViewTells holds: for every polynomial and any two whole numbers the law answers true, and its arguments read as they did. No condition. -/
import Derived.Test.YthplgldclilccaaGreatSet8
namespace Go.Proofs.YthplgldclilccaaGreat
open Go.RowKit

set_option maxRecDepth 100000 in
set_option maxHeartbeats 8000000 in
theorem law_tells9 (vp : Value) (ps : List RTerm) (x d : Int) (w : World) (hp : Terms (Old w) w vp ps) (hx : inI64 x) (hd : inI64 d) :
    Calls Tryz.prog 4 #[vp, .int .i64 x, .int .i64 d] w fun e w' => e = .returned (.bool true) ∧ Ext w w' := by
  have HX0 := hid (Ext.refl w)
  have HP0 := hid hp
  have HXI := hid hx
  have HDI := hid hd
  have CG := rpoly_great vp ps 20 w hp (fun _ h => h) (by omega)
  unfold inI64 at hx hd
  obtain ⟨hxl, hxu⟩ := hx
  obtain ⟨hdl, hdu⟩ := hd
  cases hg : greatT 20 ps with
  | true =>
    rw [hg] at CG
    obtain ⟨ap, cp, rfl⟩ := hp.form
    have HCG := hid CG
    clear CG hg hp
    go_enter Tryz.func4, Tryz.ntmps4
    go_wp2_with fail
    with_reducible refine (HCG.out).mono ?_
    rintro e w1 ⟨rfl, hx1⟩
    have HX1 := hid (HX0.out.trans hx1)
    clear hx1
    go_wp2_with fail
    with_reducible refine (law09_known w1).mono ?_
    rintro e w2 ⟨rfl, hx2⟩
    have HX2 := hid (HX1.out.trans hx2)
    clear hx2
    go_wp2
    all_goals
      go_ret
      exact ⟨rfl, HX2.out⟩
  | false =>
    rw [hg] at CG
    have HF := hid (great_fit (n := 20) hg)
    clear hg
    have hsp : smallT ps := fun t ht => Nat.le_trans (HF.out.2 t ht).1 (by decide)
    have hl20 : ∀ t ∈ ps, t.c.mag.length ≤ 20 := fun t ht => (HF.out.2 t ht).1
    have hfit : fitT ps := ⟨fun t ht => Nat.le_trans (HF.out.2 t ht).1 (by decide), Nat.le_trans HF.out.1 (by decide)⟩
    have hln : ps.length ≤ 1000000000 := Nat.le_trans HF.out.1 (by decide)
    have fP : Fit 20 20 (plainP ps) := fit_plain (k := 20) (n := 20) hp.okT hl20 HF.out.1
    have hcan := fP.can
    have h9 : Sz9 (plainP ps) := fit_nine fP (by decide)
    have CC := fun (W : World) (u : Value) (hu : Terms (Old W) W u ps) => rpoly_copy u ps W hu (fun _ h => h) (Nat.le_trans HF.out.1 (by decide)) (fun t ht => ⟨Nat.le_trans (HF.out.2 t ht).1 (by decide), Nat.le_trans (HF.out.2 t ht).2 (by decide)⟩)
    have CP := fun (W : World) (u : Value) (hu : Terms (Old W) W u ps) => law09_plain u ps W hu (fun _ h => h) hfit
    have RCO := fun (W : World) (u : Value) (hu : RTs (Old W) W u (plainP ps)) (h1 : 1 ≤ x ∧ x ≤ 200) => rview_coefficient u (plainP ps) x d W hu (fun _ h => h) hcan h9.sz h1 ⟨hdl, hdu⟩
    have RDE := fun (W : World) (u : Value) (hu : RTs (Old W) W u (plainP ps)) (h1 : 1 ≤ x ∧ x ≤ 200) => rview_derive u (plainP ps) x W hu (fun _ h => h) hcan h9 h1
    have RDG := fun (W : World) (u : Value) (hu : RTs (Old W) W u (plainP ps)) => rview_degree u (plainP ps) x W hu hcan.may ⟨hxl, hxu⟩
    have RCL := fun (W : World) (u : Value) (hu : RTs (Old W) W u (plainP ps)) => rview_class u (plainP ps) W hu hcan.may
    simp only [clsP_lead hcan] at RCL
    have RIN := fun (W : World) (u : Value) (hu : RTs (Old W) W u (plainP ps)) => rview_initial u (plainP ps) W hu (fun _ h => h) hcan h9.sz
    have RTA := fun (W : World) (u : Value) (hu : RTs (Old W) W u (plainP ps)) => rview_tail u (plainP ps) W hu (fun _ h => h) hcan h9
    have VCL := fun (W : World) (u : Value) (hu : Terms (Old W) W u ps) => view_class u ps W hu (fun _ h => h) hsp
    have VDG := fun (W : World) (u : Value) (hu : Terms (Old W) W u ps) => view_degree u ps x W hu (fun _ h => h) hsp ⟨hxl, hxu⟩
    have VIN := fun (W : World) (u : Value) (hu : Terms (Old W) W u ps) => view_initial u ps W hu (fun _ h => h) hsp hln
    have VTA := fun (W : World) (u : Value) (hu : Terms (Old W) W u ps) => view_tail u ps W hu (fun _ h => h) hsp hln
    have VCO := fun (W : World) (u : Value) (hu : Terms (Old W) W u ps) => view_coefficient_any u ps x d W hu (fun _ h => h) hsp hln HXI.out HDI.out
    have VDE := fun (W : World) (u : Value) (hu : Terms (Old W) W u ps) => view_derive u ps x W 20 hu (fun _ h => h) hl20 (by decide) hln HXI.out
    have PIN := fun (W : World) (u : Value) (hu : RTs (Old W) W u (initP (plainP ps))) => rpoly_poly u _ W hu (fun _ h => h) (fit_nine fP.init (by decide)).sz (may_lens fP.init.can.may)
    have PTA := fun (W : World) (u : Value) (hu : RTs (Old W) W u (tailP (plainP ps))) => rpoly_poly u _ W hu (fun _ h => h) (fit_nine fP.tail (by decide)).sz (may_lens fP.tail.can.may)
    have PCO := fun (W : World) (u : Value) (hu : RTs (Old W) W u (coefP (plainP ps) x d)) => rpoly_poly u _ W hu (fun _ h => h) (fit_nine (fP.coef x d) (by decide)).sz (may_lens (fP.coef x d).can.may)
    have hdz : szP (derP (plainP ps) x) := by have := h9.der hcan.may x (plainP ps).length; rwa [List.take_length] at this
    have PDE := fun (W : World) (u : Value) (hu : RTs (Old W) W u (derP (plainP ps) x)) => rpoly_poly u _ W hu (fun _ h => h) hdz (may_lens (derP_can hcan x).may)
    have PNI := fun (W : World) => rpoly_poly (S := Old W) (.slice none 0 0) [] W (RTs.nilv _ _ _ _ (by omega)) (fun _ h => h) ⟨by simp, fun t ht => by simp at ht⟩ (fun t ht => by simp at ht)
    have CS := fun (W : World) (xs : List RTerm) (u v : Value) (hu : Terms (Old W) W u xs) (hv : Terms (Old W) W v xs) => rpoly_same u v xs xs W hu hv (fun _ h => h)
    simp only [decide_true] at CS
    have HIN : Hid ((1 ≤ x ∧ x ≤ 200) → coefA (plainP ps) x d = coefP (plainP ps) x d) := hid (fun h => by unfold coefA; rw [if_pos h])
    have HNO : Hid (¬ (1 ≤ x ∧ x ≤ 200) → coefA (plainP ps) x d = [] ∧ derP (plainP ps) x = [] ∧ degP (plainP ps) x = 0) := hid (fun h => ⟨by unfold coefA; rw [if_neg h], der_none_var hcan.may h, deg_none_var hcan.may h⟩)
    generalize initP (plainP ps) = pI at *
    generalize tailP (plainP ps) = pT at *
    generalize coefA (plainP ps) x d = pA at *
    generalize coefP (plainP ps) x d = pC at *
    generalize derP (plainP ps) x = pD at *
    generalize degP (plainP ps) x = dg at *
    generalize leadP (plainP ps) = cl at *
    generalize plainP ps = pP at *
    obtain ⟨ap, cp, rfl⟩ := hp.form
    have HCG := hid CG
    have HCC := hid CC
    have HCP := hid CP
    have HRCO := hid RCO
    have HRDE := hid RDE
    have HRDG := hid RDG
    have HRCL := hid RCL
    have HRIN := hid RIN
    have HRTA := hid RTA
    have HVCL := hid VCL
    have HVDG := hid VDG
    have HVIN := hid VIN
    have HVTA := hid VTA
    have HVCO := hid VCO
    have HVDE := hid VDE
    have HPIN := hid PIN
    have HPTA := hid PTA
    have HPCO := hid PCO
    have HPDE := hid PDE
    have HPNI := hid PNI
    have HCS := hid CS
    obtain ⟨np, hnp⟩ : ∃ n, n = ps.length := ⟨_, rfl⟩
    rw [← hnp] at HP0 HCG ⊢
    have HNP := hid hnp
    have q5 : (cl == cl) = true := by simp
    clear CG CC CP RCO RDE RDG RCL RIN RTA VCL VDG VIN VTA VCO VDE PIN PTA PCO PDE PNI CS hp hnp hsp hl20 hfit hln fP hcan h9 hdz
    go_enter Tryz.func4, Tryz.ntmps4
    go_wp2_with fail
    with_reducible refine (HCG.out).mono ?_
    rintro e w1 ⟨rfl, hx1⟩
    have HX1 := hid (HX0.out.trans hx1)
    have HP1 := hid (Terms.on HP0.out hx1)
    clear hx1
    go_wp2_with fail
    with_reducible refine (HCC.out _ _ HP1.out).mono ?_
    rintro e w2 ⟨v2, rfl, hp2, hx2⟩
    have HX2 := hid (HX1.out.trans hx2)
    have HP2 := hid (Terms.on HP1.out hx2)
    have HI2 := hid (hp2.to (S' := Old w2) (Kept.refl _ _) New.lt)
    obtain ⟨a2, c2, rfl⟩ := hp2.form
    clear hx2 hp2
    go_wp2_with fail
    with_reducible refine (HCP.out _ _ HP2.out).mono ?_
    rintro e w3 ⟨v3, rfl, hp3, hx3⟩
    have HX3 := hid (HX2.out.trans hx3)
    have HP3 := hid (Terms.on HP2.out hx3)
    have HI3 := hid (Terms.on HI2.out hx3)
    have HW3 := hid (hp3.to (S' := Old w3) (Kept.refl _ _) (plus_lt (fun _ h => h) hx3))
    obtain ⟨a3, c3, rfl⟩ := hp3.form
    clear hx3 hp3
    by_cases hin : 1 ≤ x ∧ x ≤ 200
    · have q1 : decide (1 ≤ x) = true := decide_eq_true hin.1
      have q2 : decide (x ≤ 200) = true := decide_eq_true hin.2
      obtain rfl := HIN.out hin
      have q6 : (dg == dg) = true := by simp
      go_wp2_with fail
      with_reducible refine (HRCO.out _ _ HW3.out hin).mono ?_
      rintro e w4 ⟨v4, rfl, hp4, hx4⟩
      have HX4 := hid (HX3.out.trans hx4)
      have HP4 := hid (Terms.on HP3.out hx4)
      have HI4 := hid (Terms.on HI3.out hx4)
      have HW4 := hid (RTs.on HW3.out hx4)
      have HD4 := hid (hp4.to (S' := Old w4) (Kept.refl _ _) (plus_lt (fun _ h => h) hx4))
      obtain ⟨a4, c4, rfl⟩ := hp4.form
      clear hx4 hp4
      go_wp2_with fail
      with_reducible refine (HRDE.out _ _ HW4.out hin).mono ?_
      rintro e w5 ⟨v5, rfl, hp5, hx5⟩
      have HX5 := hid (HX4.out.trans hx5)
      have HP5 := hid (Terms.on HP4.out hx5)
      have HI5 := hid (Terms.on HI4.out hx5)
      have HW5 := hid (RTs.on HW4.out hx5)
      have HD5 := hid (RTs.on HD4.out hx5)
      have HE5 := hid (hp5.to (S' := Old w5) (Kept.refl _ _) (plus_lt (fun _ h => h) hx5))
      obtain ⟨a5, c5, rfl⟩ := hp5.form
      clear hx5 hp5
      go_wp2_with fail
      with_reducible refine (HRDG.out _ _ HW5.out).mono ?_
      rintro e w6 ⟨rfl, hx6⟩
      have HX6 := hid (HX5.out.trans hx6)
      have HP6 := hid (Terms.on HP5.out hx6)
      have HI6 := hid (Terms.on HI5.out hx6)
      have HW6 := hid (RTs.on HW5.out hx6)
      have HD6 := hid (RTs.on HD5.out hx6)
      have HE6 := hid (RTs.on HE5.out hx6)
      clear hx6
      go_wp2_with fail
      with_reducible refine (HVCL.out _ _ HI6.out).mono ?_
      rintro e w7 ⟨rfl, hx7⟩
      have HX7 := hid (HX6.out.trans hx7)
      have HP7 := hid (Terms.on HP6.out hx7)
      have HI7 := hid (Terms.on HI6.out hx7)
      have HW7 := hid (RTs.on HW6.out hx7)
      have HD7 := hid (RTs.on HD6.out hx7)
      have HE7 := hid (RTs.on HE6.out hx7)
      clear hx7
      go_wp2_with fail
      with_reducible refine (HRCL.out _ _ HW7.out).mono ?_
      rintro e w8 ⟨rfl, hx8⟩
      have HX8 := hid (HX7.out.trans hx8)
      have HP8 := hid (Terms.on HP7.out hx8)
      have HI8 := hid (Terms.on HI7.out hx8)
      have HW8 := hid (RTs.on HW7.out hx8)
      have HD8 := hid (RTs.on HD7.out hx8)
      have HE8 := hid (RTs.on HE7.out hx8)
      clear hx8
      go_wp2_with fail
      with_reducible refine (HVDG.out _ _ HI8.out).mono ?_
      rintro e w9 ⟨rfl, hx9⟩
      have HX9 := hid (HX8.out.trans hx9)
      have HP9 := hid (Terms.on HP8.out hx9)
      have HI9 := hid (Terms.on HI8.out hx9)
      have HW9 := hid (RTs.on HW8.out hx9)
      have HD9 := hid (RTs.on HD8.out hx9)
      have HE9 := hid (RTs.on HE8.out hx9)
      clear hx9
      go_wp2_with fail
      with_reducible refine (HVIN.out _ _ HI9.out).mono ?_
      rintro e w10 ⟨v10, rfl, hp10, hx10⟩
      have HX10 := hid (HX9.out.trans hx10)
      have HP10 := hid (Terms.on HP9.out hx10)
      have HI10 := hid (Terms.on HI9.out hx10)
      have HW10 := hid (RTs.on HW9.out hx10)
      have HD10 := hid (RTs.on HD9.out hx10)
      have HE10 := hid (RTs.on HE9.out hx10)
      have HA10 := hid (hp10.to (S' := Old w10) (Kept.refl _ _) New.lt)
      obtain ⟨a10, c10, rfl⟩ := hp10.form
      clear hx10 hp10
      go_wp2_with fail
      with_reducible refine (HRIN.out _ _ HW10.out).mono ?_
      rintro e w11 ⟨v11, rfl, hp11, hx11⟩
      have HX11 := hid (HX10.out.trans hx11)
      have HP11 := hid (Terms.on HP10.out hx11)
      have HI11 := hid (Terms.on HI10.out hx11)
      have HW11 := hid (RTs.on HW10.out hx11)
      have HD11 := hid (RTs.on HD10.out hx11)
      have HE11 := hid (RTs.on HE10.out hx11)
      have HA11 := hid (Terms.on HA10.out hx11)
      have HB11 := hid (hp11.to (S' := Old w11) (Kept.refl _ _) (plus_lt (fun _ h => h) hx11))
      obtain ⟨a11, c11, rfl⟩ := hp11.form
      clear hx11 hp11
      go_wp2_with fail
      with_reducible refine (HPIN.out _ _ HB11.out).mono ?_
      rintro e w12 ⟨v12, rfl, hp12, hx12⟩
      have HX12 := hid (HX11.out.trans hx12)
      have HP12 := hid (Terms.on HP11.out hx12)
      have HI12 := hid (Terms.on HI11.out hx12)
      have HW12 := hid (RTs.on HW11.out hx12)
      have HD12 := hid (RTs.on HD11.out hx12)
      have HE12 := hid (RTs.on HE11.out hx12)
      have HA12 := hid (Terms.on HA11.out hx12)
      have HC12 := hid (hp12.to (S' := Old w12) (Kept.refl _ _) New.lt)
      obtain ⟨a12, c12, rfl⟩ := hp12.form
      clear hx12 hp12
      go_wp2_with fail
      with_reducible refine (HCS.out _ _ _ _ HA12.out HC12.out).mono ?_
      rintro e w13 ⟨rfl, hx13⟩
      have HX13 := hid (HX12.out.trans hx13)
      have HP13 := hid (Terms.on HP12.out hx13)
      have HI13 := hid (Terms.on HI12.out hx13)
      have HW13 := hid (RTs.on HW12.out hx13)
      have HD13 := hid (RTs.on HD12.out hx13)
      have HE13 := hid (RTs.on HE12.out hx13)
      clear hx13
      go_wp2_with fail
      with_reducible refine (HVTA.out _ _ HI13.out).mono ?_
      rintro e w14 ⟨v14, rfl, hp14, hx14⟩
      have HX14 := hid (HX13.out.trans hx14)
      have HP14 := hid (Terms.on HP13.out hx14)
      have HI14 := hid (Terms.on HI13.out hx14)
      have HW14 := hid (RTs.on HW13.out hx14)
      have HD14 := hid (RTs.on HD13.out hx14)
      have HE14 := hid (RTs.on HE13.out hx14)
      have HA14 := hid (hp14.to (S' := Old w14) (Kept.refl _ _) New.lt)
      obtain ⟨a14, c14, rfl⟩ := hp14.form
      clear hx14 hp14
      go_wp2_with fail
      with_reducible refine (HRTA.out _ _ HW14.out).mono ?_
      rintro e w15 ⟨v15, rfl, hp15, hx15⟩
      have HX15 := hid (HX14.out.trans hx15)
      have HP15 := hid (Terms.on HP14.out hx15)
      have HI15 := hid (Terms.on HI14.out hx15)
      have HW15 := hid (RTs.on HW14.out hx15)
      have HD15 := hid (RTs.on HD14.out hx15)
      have HE15 := hid (RTs.on HE14.out hx15)
      have HA15 := hid (Terms.on HA14.out hx15)
      have HB15 := hid (hp15.to (S' := Old w15) (Kept.refl _ _) (plus_lt (fun _ h => h) hx15))
      obtain ⟨a15, c15, rfl⟩ := hp15.form
      clear hx15 hp15
      go_wp2_with fail
      with_reducible refine (HPTA.out _ _ HB15.out).mono ?_
      rintro e w16 ⟨v16, rfl, hp16, hx16⟩
      have HX16 := hid (HX15.out.trans hx16)
      have HP16 := hid (Terms.on HP15.out hx16)
      have HI16 := hid (Terms.on HI15.out hx16)
      have HW16 := hid (RTs.on HW15.out hx16)
      have HD16 := hid (RTs.on HD15.out hx16)
      have HE16 := hid (RTs.on HE15.out hx16)
      have HA16 := hid (Terms.on HA15.out hx16)
      have HC16 := hid (hp16.to (S' := Old w16) (Kept.refl _ _) New.lt)
      obtain ⟨a16, c16, rfl⟩ := hp16.form
      clear hx16 hp16
      go_wp2_with fail
      with_reducible refine (HCS.out _ _ _ _ HA16.out HC16.out).mono ?_
      rintro e w17 ⟨rfl, hx17⟩
      have HX17 := hid (HX16.out.trans hx17)
      have HP17 := hid (Terms.on HP16.out hx17)
      have HI17 := hid (Terms.on HI16.out hx17)
      have HW17 := hid (RTs.on HW16.out hx17)
      have HD17 := hid (RTs.on HD16.out hx17)
      have HE17 := hid (RTs.on HE16.out hx17)
      clear hx17
      go_wp2_with fail
      with_reducible refine (HVCO.out _ _ HI17.out).mono ?_
      rintro e w18 ⟨v18, rfl, hp18, hx18⟩
      have HX18 := hid (HX17.out.trans hx18)
      have HP18 := hid (Terms.on HP17.out hx18)
      have HI18 := hid (Terms.on HI17.out hx18)
      have HW18 := hid (RTs.on HW17.out hx18)
      have HD18 := hid (RTs.on HD17.out hx18)
      have HE18 := hid (RTs.on HE17.out hx18)
      have HA18 := hid (hp18.to (S' := Old w18) (Kept.refl _ _) New.lt)
      obtain ⟨a18, c18, rfl⟩ := hp18.form
      clear hx18 hp18
      go_wp2_with fail
      with_reducible refine (HPCO.out _ _ HD18.out).mono ?_
      rintro e w19 ⟨v19, rfl, hp19, hx19⟩
      have HX19 := hid (HX18.out.trans hx19)
      have HP19 := hid (Terms.on HP18.out hx19)
      have HI19 := hid (Terms.on HI18.out hx19)
      have HW19 := hid (RTs.on HW18.out hx19)
      have HE19 := hid (RTs.on HE18.out hx19)
      have HA19 := hid (Terms.on HA18.out hx19)
      have HC19 := hid (hp19.to (S' := Old w19) (Kept.refl _ _) New.lt)
      obtain ⟨a19, c19, rfl⟩ := hp19.form
      clear hx19 hp19
      go_wp2_with fail
      with_reducible refine (HCS.out _ _ _ _ HA19.out HC19.out).mono ?_
      rintro e w20 ⟨rfl, hx20⟩
      have HX20 := hid (HX19.out.trans hx20)
      have HP20 := hid (Terms.on HP19.out hx20)
      have HI20 := hid (Terms.on HI19.out hx20)
      have HW20 := hid (RTs.on HW19.out hx20)
      have HE20 := hid (RTs.on HE19.out hx20)
      clear hx20
      go_wp2_with fail
      with_reducible refine (HVDE.out _ _ HI20.out).mono ?_
      rintro e w21 ⟨v21, rfl, hp21, hx21⟩
      have HX21 := hid (HX20.out.trans hx21)
      have HP21 := hid (Terms.on HP20.out hx21)
      have HI21 := hid (Terms.on HI20.out hx21)
      have HW21 := hid (RTs.on HW20.out hx21)
      have HE21 := hid (RTs.on HE20.out hx21)
      have HA21 := hid (hp21.to (S' := Old w21) (Kept.refl _ _) New.lt)
      obtain ⟨a21, c21, rfl⟩ := hp21.form
      clear hx21 hp21
      go_wp2_with fail
      with_reducible refine (HPDE.out _ _ HE21.out).mono ?_
      rintro e w22 ⟨v22, rfl, hp22, hx22⟩
      have HX22 := hid (HX21.out.trans hx22)
      have HP22 := hid (Terms.on HP21.out hx22)
      have HI22 := hid (Terms.on HI21.out hx22)
      have HW22 := hid (RTs.on HW21.out hx22)
      have HA22 := hid (Terms.on HA21.out hx22)
      have HC22 := hid (hp22.to (S' := Old w22) (Kept.refl _ _) New.lt)
      obtain ⟨a22, c22, rfl⟩ := hp22.form
      clear hx22 hp22
      go_wp2_with fail
      with_reducible refine (HCS.out _ _ _ _ HA22.out HC22.out).mono ?_
      rintro e w23 ⟨rfl, hx23⟩
      have HX23 := hid (HX22.out.trans hx23)
      have HP23 := hid (Terms.on HP22.out hx23)
      have HI23 := hid (Terms.on HI22.out hx23)
      have HW23 := hid (RTs.on HW22.out hx23)
      clear hx23
      go_wp2_with fail
      with_reducible refine (HCS.out _ _ _ _ HI23.out HP23.out).mono ?_
      rintro e w24 ⟨rfl, hx24⟩
      have HX24 := hid (HX23.out.trans hx24)
      have HP24 := hid (Terms.on HP23.out hx24)
      have HI24 := hid (Terms.on HI23.out hx24)
      have HW24 := hid (RTs.on HW23.out hx24)
      clear hx24
      go_wp2_with fail
      with_reducible refine (law09_known w24).mono ?_
      rintro e w25 ⟨rfl, hx25⟩
      have HX25 := hid (HX24.out.trans hx25)
      have HP25 := hid (Terms.on HP24.out hx25)
      have HI25 := hid (Terms.on HI24.out hx25)
      have HW25 := hid (RTs.on HW24.out hx25)
      clear hx25
      go_wp2
      all_goals
        go_ret
        exact ⟨rfl, HX25.out⟩
    · obtain ⟨rfl, rfl, rfl⟩ := HNO.out hin
      by_cases hlo : 1 ≤ x
      · have q1 : decide (1 ≤ x) = true := decide_eq_true hlo
        have q2 : decide (x ≤ 200) = false := decide_eq_false (fun h => hin ⟨hlo, h⟩)
        go_wp2_with fail
        with_reducible refine (HVCL.out _ _ HI3.out).mono ?_
        rintro e w4 ⟨rfl, hx4⟩
        have HX4 := hid (HX3.out.trans hx4)
        have HP4 := hid (Terms.on HP3.out hx4)
        have HI4 := hid (Terms.on HI3.out hx4)
        have HW4 := hid (RTs.on HW3.out hx4)
        clear hx4
        go_wp2_with fail
        with_reducible refine (HRCL.out _ _ HW4.out).mono ?_
        rintro e w5 ⟨rfl, hx5⟩
        have HX5 := hid (HX4.out.trans hx5)
        have HP5 := hid (Terms.on HP4.out hx5)
        have HI5 := hid (Terms.on HI4.out hx5)
        have HW5 := hid (RTs.on HW4.out hx5)
        clear hx5
        go_wp2_with fail
        with_reducible refine (HVDG.out _ _ HI5.out).mono ?_
        rintro e w6 ⟨rfl, hx6⟩
        have HX6 := hid (HX5.out.trans hx6)
        have HP6 := hid (Terms.on HP5.out hx6)
        have HI6 := hid (Terms.on HI5.out hx6)
        have HW6 := hid (RTs.on HW5.out hx6)
        clear hx6
        go_wp2_with fail
        with_reducible refine (HVIN.out _ _ HI6.out).mono ?_
        rintro e w7 ⟨v7, rfl, hp7, hx7⟩
        have HX7 := hid (HX6.out.trans hx7)
        have HP7 := hid (Terms.on HP6.out hx7)
        have HI7 := hid (Terms.on HI6.out hx7)
        have HW7 := hid (RTs.on HW6.out hx7)
        have HA7 := hid (hp7.to (S' := Old w7) (Kept.refl _ _) New.lt)
        obtain ⟨a7, c7, rfl⟩ := hp7.form
        clear hx7 hp7
        go_wp2_with fail
        with_reducible refine (HRIN.out _ _ HW7.out).mono ?_
        rintro e w8 ⟨v8, rfl, hp8, hx8⟩
        have HX8 := hid (HX7.out.trans hx8)
        have HP8 := hid (Terms.on HP7.out hx8)
        have HI8 := hid (Terms.on HI7.out hx8)
        have HW8 := hid (RTs.on HW7.out hx8)
        have HA8 := hid (Terms.on HA7.out hx8)
        have HB8 := hid (hp8.to (S' := Old w8) (Kept.refl _ _) (plus_lt (fun _ h => h) hx8))
        obtain ⟨a8, c8, rfl⟩ := hp8.form
        clear hx8 hp8
        go_wp2_with fail
        with_reducible refine (HPIN.out _ _ HB8.out).mono ?_
        rintro e w9 ⟨v9, rfl, hp9, hx9⟩
        have HX9 := hid (HX8.out.trans hx9)
        have HP9 := hid (Terms.on HP8.out hx9)
        have HI9 := hid (Terms.on HI8.out hx9)
        have HW9 := hid (RTs.on HW8.out hx9)
        have HA9 := hid (Terms.on HA8.out hx9)
        have HC9 := hid (hp9.to (S' := Old w9) (Kept.refl _ _) New.lt)
        obtain ⟨a9, c9, rfl⟩ := hp9.form
        clear hx9 hp9
        go_wp2_with fail
        with_reducible refine (HCS.out _ _ _ _ HA9.out HC9.out).mono ?_
        rintro e w10 ⟨rfl, hx10⟩
        have HX10 := hid (HX9.out.trans hx10)
        have HP10 := hid (Terms.on HP9.out hx10)
        have HI10 := hid (Terms.on HI9.out hx10)
        have HW10 := hid (RTs.on HW9.out hx10)
        clear hx10
        go_wp2_with fail
        with_reducible refine (HVTA.out _ _ HI10.out).mono ?_
        rintro e w11 ⟨v11, rfl, hp11, hx11⟩
        have HX11 := hid (HX10.out.trans hx11)
        have HP11 := hid (Terms.on HP10.out hx11)
        have HI11 := hid (Terms.on HI10.out hx11)
        have HW11 := hid (RTs.on HW10.out hx11)
        have HA11 := hid (hp11.to (S' := Old w11) (Kept.refl _ _) New.lt)
        obtain ⟨a11, c11, rfl⟩ := hp11.form
        clear hx11 hp11
        go_wp2_with fail
        with_reducible refine (HRTA.out _ _ HW11.out).mono ?_
        rintro e w12 ⟨v12, rfl, hp12, hx12⟩
        have HX12 := hid (HX11.out.trans hx12)
        have HP12 := hid (Terms.on HP11.out hx12)
        have HI12 := hid (Terms.on HI11.out hx12)
        have HW12 := hid (RTs.on HW11.out hx12)
        have HA12 := hid (Terms.on HA11.out hx12)
        have HB12 := hid (hp12.to (S' := Old w12) (Kept.refl _ _) (plus_lt (fun _ h => h) hx12))
        obtain ⟨a12, c12, rfl⟩ := hp12.form
        clear hx12 hp12
        go_wp2_with fail
        with_reducible refine (HPTA.out _ _ HB12.out).mono ?_
        rintro e w13 ⟨v13, rfl, hp13, hx13⟩
        have HX13 := hid (HX12.out.trans hx13)
        have HP13 := hid (Terms.on HP12.out hx13)
        have HI13 := hid (Terms.on HI12.out hx13)
        have HW13 := hid (RTs.on HW12.out hx13)
        have HA13 := hid (Terms.on HA12.out hx13)
        have HC13 := hid (hp13.to (S' := Old w13) (Kept.refl _ _) New.lt)
        obtain ⟨a13, c13, rfl⟩ := hp13.form
        clear hx13 hp13
        go_wp2_with fail
        with_reducible refine (HCS.out _ _ _ _ HA13.out HC13.out).mono ?_
        rintro e w14 ⟨rfl, hx14⟩
        have HX14 := hid (HX13.out.trans hx14)
        have HP14 := hid (Terms.on HP13.out hx14)
        have HI14 := hid (Terms.on HI13.out hx14)
        have HW14 := hid (RTs.on HW13.out hx14)
        clear hx14
        go_wp2_with fail
        with_reducible refine (HVCO.out _ _ HI14.out).mono ?_
        rintro e w15 ⟨v15, rfl, hp15, hx15⟩
        have HX15 := hid (HX14.out.trans hx15)
        have HP15 := hid (Terms.on HP14.out hx15)
        have HI15 := hid (Terms.on HI14.out hx15)
        have HW15 := hid (RTs.on HW14.out hx15)
        have HA15 := hid (hp15.to (S' := Old w15) (Kept.refl _ _) New.lt)
        obtain ⟨a15, c15, rfl⟩ := hp15.form
        clear hx15 hp15
        go_wp2_with fail
        with_reducible refine (HPNI.out _).mono ?_
        rintro e w16 ⟨v16, rfl, hp16, hx16⟩
        have HX16 := hid (HX15.out.trans hx16)
        have HP16 := hid (Terms.on HP15.out hx16)
        have HI16 := hid (Terms.on HI15.out hx16)
        have HW16 := hid (RTs.on HW15.out hx16)
        have HA16 := hid (Terms.on HA15.out hx16)
        have HC16 := hid (hp16.to (S' := Old w16) (Kept.refl _ _) New.lt)
        obtain ⟨a16, c16, rfl⟩ := hp16.form
        clear hx16 hp16
        go_wp2_with fail
        with_reducible refine (HCS.out _ _ _ _ HA16.out HC16.out).mono ?_
        rintro e w17 ⟨rfl, hx17⟩
        have HX17 := hid (HX16.out.trans hx17)
        have HP17 := hid (Terms.on HP16.out hx17)
        have HI17 := hid (Terms.on HI16.out hx17)
        have HW17 := hid (RTs.on HW16.out hx17)
        clear hx17
        go_wp2_with fail
        with_reducible refine (HVDE.out _ _ HI17.out).mono ?_
        rintro e w18 ⟨v18, rfl, hp18, hx18⟩
        have HX18 := hid (HX17.out.trans hx18)
        have HP18 := hid (Terms.on HP17.out hx18)
        have HI18 := hid (Terms.on HI17.out hx18)
        have HW18 := hid (RTs.on HW17.out hx18)
        have HA18 := hid (hp18.to (S' := Old w18) (Kept.refl _ _) New.lt)
        obtain ⟨a18, c18, rfl⟩ := hp18.form
        clear hx18 hp18
        go_wp2_with fail
        with_reducible refine (HPNI.out _).mono ?_
        rintro e w19 ⟨v19, rfl, hp19, hx19⟩
        have HX19 := hid (HX18.out.trans hx19)
        have HP19 := hid (Terms.on HP18.out hx19)
        have HI19 := hid (Terms.on HI18.out hx19)
        have HW19 := hid (RTs.on HW18.out hx19)
        have HA19 := hid (Terms.on HA18.out hx19)
        have HC19 := hid (hp19.to (S' := Old w19) (Kept.refl _ _) New.lt)
        obtain ⟨a19, c19, rfl⟩ := hp19.form
        clear hx19 hp19
        go_wp2_with fail
        with_reducible refine (HCS.out _ _ _ _ HA19.out HC19.out).mono ?_
        rintro e w20 ⟨rfl, hx20⟩
        have HX20 := hid (HX19.out.trans hx20)
        have HP20 := hid (Terms.on HP19.out hx20)
        have HI20 := hid (Terms.on HI19.out hx20)
        have HW20 := hid (RTs.on HW19.out hx20)
        clear hx20
        go_wp2_with fail
        with_reducible refine (HCS.out _ _ _ _ HI20.out HP20.out).mono ?_
        rintro e w21 ⟨rfl, hx21⟩
        have HX21 := hid (HX20.out.trans hx21)
        have HP21 := hid (Terms.on HP20.out hx21)
        have HI21 := hid (Terms.on HI20.out hx21)
        have HW21 := hid (RTs.on HW20.out hx21)
        clear hx21
        go_wp2_with fail
        with_reducible refine (law09_known w21).mono ?_
        rintro e w22 ⟨rfl, hx22⟩
        have HX22 := hid (HX21.out.trans hx22)
        have HP22 := hid (Terms.on HP21.out hx22)
        have HI22 := hid (Terms.on HI21.out hx22)
        have HW22 := hid (RTs.on HW21.out hx22)
        clear hx22
        go_wp2
        all_goals
          go_ret
          exact ⟨rfl, HX22.out⟩
      · have q1 : decide (1 ≤ x) = false := decide_eq_false hlo
        go_wp2_with fail
        with_reducible refine (HVCL.out _ _ HI3.out).mono ?_
        rintro e w4 ⟨rfl, hx4⟩
        have HX4 := hid (HX3.out.trans hx4)
        have HP4 := hid (Terms.on HP3.out hx4)
        have HI4 := hid (Terms.on HI3.out hx4)
        have HW4 := hid (RTs.on HW3.out hx4)
        clear hx4
        go_wp2_with fail
        with_reducible refine (HRCL.out _ _ HW4.out).mono ?_
        rintro e w5 ⟨rfl, hx5⟩
        have HX5 := hid (HX4.out.trans hx5)
        have HP5 := hid (Terms.on HP4.out hx5)
        have HI5 := hid (Terms.on HI4.out hx5)
        have HW5 := hid (RTs.on HW4.out hx5)
        clear hx5
        go_wp2_with fail
        with_reducible refine (HVDG.out _ _ HI5.out).mono ?_
        rintro e w6 ⟨rfl, hx6⟩
        have HX6 := hid (HX5.out.trans hx6)
        have HP6 := hid (Terms.on HP5.out hx6)
        have HI6 := hid (Terms.on HI5.out hx6)
        have HW6 := hid (RTs.on HW5.out hx6)
        clear hx6
        go_wp2_with fail
        with_reducible refine (HVIN.out _ _ HI6.out).mono ?_
        rintro e w7 ⟨v7, rfl, hp7, hx7⟩
        have HX7 := hid (HX6.out.trans hx7)
        have HP7 := hid (Terms.on HP6.out hx7)
        have HI7 := hid (Terms.on HI6.out hx7)
        have HW7 := hid (RTs.on HW6.out hx7)
        have HA7 := hid (hp7.to (S' := Old w7) (Kept.refl _ _) New.lt)
        obtain ⟨a7, c7, rfl⟩ := hp7.form
        clear hx7 hp7
        go_wp2_with fail
        with_reducible refine (HRIN.out _ _ HW7.out).mono ?_
        rintro e w8 ⟨v8, rfl, hp8, hx8⟩
        have HX8 := hid (HX7.out.trans hx8)
        have HP8 := hid (Terms.on HP7.out hx8)
        have HI8 := hid (Terms.on HI7.out hx8)
        have HW8 := hid (RTs.on HW7.out hx8)
        have HA8 := hid (Terms.on HA7.out hx8)
        have HB8 := hid (hp8.to (S' := Old w8) (Kept.refl _ _) (plus_lt (fun _ h => h) hx8))
        obtain ⟨a8, c8, rfl⟩ := hp8.form
        clear hx8 hp8
        go_wp2_with fail
        with_reducible refine (HPIN.out _ _ HB8.out).mono ?_
        rintro e w9 ⟨v9, rfl, hp9, hx9⟩
        have HX9 := hid (HX8.out.trans hx9)
        have HP9 := hid (Terms.on HP8.out hx9)
        have HI9 := hid (Terms.on HI8.out hx9)
        have HW9 := hid (RTs.on HW8.out hx9)
        have HA9 := hid (Terms.on HA8.out hx9)
        have HC9 := hid (hp9.to (S' := Old w9) (Kept.refl _ _) New.lt)
        obtain ⟨a9, c9, rfl⟩ := hp9.form
        clear hx9 hp9
        go_wp2_with fail
        with_reducible refine (HCS.out _ _ _ _ HA9.out HC9.out).mono ?_
        rintro e w10 ⟨rfl, hx10⟩
        have HX10 := hid (HX9.out.trans hx10)
        have HP10 := hid (Terms.on HP9.out hx10)
        have HI10 := hid (Terms.on HI9.out hx10)
        have HW10 := hid (RTs.on HW9.out hx10)
        clear hx10
        go_wp2_with fail
        with_reducible refine (HVTA.out _ _ HI10.out).mono ?_
        rintro e w11 ⟨v11, rfl, hp11, hx11⟩
        have HX11 := hid (HX10.out.trans hx11)
        have HP11 := hid (Terms.on HP10.out hx11)
        have HI11 := hid (Terms.on HI10.out hx11)
        have HW11 := hid (RTs.on HW10.out hx11)
        have HA11 := hid (hp11.to (S' := Old w11) (Kept.refl _ _) New.lt)
        obtain ⟨a11, c11, rfl⟩ := hp11.form
        clear hx11 hp11
        go_wp2_with fail
        with_reducible refine (HRTA.out _ _ HW11.out).mono ?_
        rintro e w12 ⟨v12, rfl, hp12, hx12⟩
        have HX12 := hid (HX11.out.trans hx12)
        have HP12 := hid (Terms.on HP11.out hx12)
        have HI12 := hid (Terms.on HI11.out hx12)
        have HW12 := hid (RTs.on HW11.out hx12)
        have HA12 := hid (Terms.on HA11.out hx12)
        have HB12 := hid (hp12.to (S' := Old w12) (Kept.refl _ _) (plus_lt (fun _ h => h) hx12))
        obtain ⟨a12, c12, rfl⟩ := hp12.form
        clear hx12 hp12
        go_wp2_with fail
        with_reducible refine (HPTA.out _ _ HB12.out).mono ?_
        rintro e w13 ⟨v13, rfl, hp13, hx13⟩
        have HX13 := hid (HX12.out.trans hx13)
        have HP13 := hid (Terms.on HP12.out hx13)
        have HI13 := hid (Terms.on HI12.out hx13)
        have HW13 := hid (RTs.on HW12.out hx13)
        have HA13 := hid (Terms.on HA12.out hx13)
        have HC13 := hid (hp13.to (S' := Old w13) (Kept.refl _ _) New.lt)
        obtain ⟨a13, c13, rfl⟩ := hp13.form
        clear hx13 hp13
        go_wp2_with fail
        with_reducible refine (HCS.out _ _ _ _ HA13.out HC13.out).mono ?_
        rintro e w14 ⟨rfl, hx14⟩
        have HX14 := hid (HX13.out.trans hx14)
        have HP14 := hid (Terms.on HP13.out hx14)
        have HI14 := hid (Terms.on HI13.out hx14)
        have HW14 := hid (RTs.on HW13.out hx14)
        clear hx14
        go_wp2_with fail
        with_reducible refine (HVCO.out _ _ HI14.out).mono ?_
        rintro e w15 ⟨v15, rfl, hp15, hx15⟩
        have HX15 := hid (HX14.out.trans hx15)
        have HP15 := hid (Terms.on HP14.out hx15)
        have HI15 := hid (Terms.on HI14.out hx15)
        have HW15 := hid (RTs.on HW14.out hx15)
        have HA15 := hid (hp15.to (S' := Old w15) (Kept.refl _ _) New.lt)
        obtain ⟨a15, c15, rfl⟩ := hp15.form
        clear hx15 hp15
        go_wp2_with fail
        with_reducible refine (HPNI.out _).mono ?_
        rintro e w16 ⟨v16, rfl, hp16, hx16⟩
        have HX16 := hid (HX15.out.trans hx16)
        have HP16 := hid (Terms.on HP15.out hx16)
        have HI16 := hid (Terms.on HI15.out hx16)
        have HW16 := hid (RTs.on HW15.out hx16)
        have HA16 := hid (Terms.on HA15.out hx16)
        have HC16 := hid (hp16.to (S' := Old w16) (Kept.refl _ _) New.lt)
        obtain ⟨a16, c16, rfl⟩ := hp16.form
        clear hx16 hp16
        go_wp2_with fail
        with_reducible refine (HCS.out _ _ _ _ HA16.out HC16.out).mono ?_
        rintro e w17 ⟨rfl, hx17⟩
        have HX17 := hid (HX16.out.trans hx17)
        have HP17 := hid (Terms.on HP16.out hx17)
        have HI17 := hid (Terms.on HI16.out hx17)
        have HW17 := hid (RTs.on HW16.out hx17)
        clear hx17
        go_wp2_with fail
        with_reducible refine (HVDE.out _ _ HI17.out).mono ?_
        rintro e w18 ⟨v18, rfl, hp18, hx18⟩
        have HX18 := hid (HX17.out.trans hx18)
        have HP18 := hid (Terms.on HP17.out hx18)
        have HI18 := hid (Terms.on HI17.out hx18)
        have HW18 := hid (RTs.on HW17.out hx18)
        have HA18 := hid (hp18.to (S' := Old w18) (Kept.refl _ _) New.lt)
        obtain ⟨a18, c18, rfl⟩ := hp18.form
        clear hx18 hp18
        go_wp2_with fail
        with_reducible refine (HPNI.out _).mono ?_
        rintro e w19 ⟨v19, rfl, hp19, hx19⟩
        have HX19 := hid (HX18.out.trans hx19)
        have HP19 := hid (Terms.on HP18.out hx19)
        have HI19 := hid (Terms.on HI18.out hx19)
        have HW19 := hid (RTs.on HW18.out hx19)
        have HA19 := hid (Terms.on HA18.out hx19)
        have HC19 := hid (hp19.to (S' := Old w19) (Kept.refl _ _) New.lt)
        obtain ⟨a19, c19, rfl⟩ := hp19.form
        clear hx19 hp19
        go_wp2_with fail
        with_reducible refine (HCS.out _ _ _ _ HA19.out HC19.out).mono ?_
        rintro e w20 ⟨rfl, hx20⟩
        have HX20 := hid (HX19.out.trans hx20)
        have HP20 := hid (Terms.on HP19.out hx20)
        have HI20 := hid (Terms.on HI19.out hx20)
        have HW20 := hid (RTs.on HW19.out hx20)
        clear hx20
        go_wp2_with fail
        with_reducible refine (HCS.out _ _ _ _ HI20.out HP20.out).mono ?_
        rintro e w21 ⟨rfl, hx21⟩
        have HX21 := hid (HX20.out.trans hx21)
        have HP21 := hid (Terms.on HP20.out hx21)
        have HI21 := hid (Terms.on HI20.out hx21)
        have HW21 := hid (RTs.on HW20.out hx21)
        clear hx21
        go_wp2_with fail
        with_reducible refine (law09_known w21).mono ?_
        rintro e w22 ⟨rfl, hx22⟩
        have HX22 := hid (HX21.out.trans hx22)
        have HP22 := hid (Terms.on HP21.out hx22)
        have HI22 := hid (Terms.on HI21.out hx22)
        have HW22 := hid (RTs.on HW21.out hx22)
        clear hx22
        go_wp2
        all_goals
          go_ret
          exact ⟨rfl, HX22.out⟩
end Go.Proofs.YthplgldclilccaaGreat

namespace Go.Proofs.YthplgldclilccaaGreat
open Go.RowKit Go.Deep Go.ChangeShapes Go.WideShapes Go.ChangeAt

set_option maxRecDepth 100000 in
theorem int_arg {H : Type} {enc : TypeId × Value → H} {W : World} {base b0 : Nat} {sp : Nat → Bool} {held : Bool} {fuel : Nat} {v : Value} {x : DataW H × List MemPlace} (hv : Value.okWide Tryz.prog W .any base 3 v) (h : DataW.trod enc Tryz.prog W b0 sp held fuel 3 v.cells.toList = some x) : ∃ n, v = .int .i64 n ∧ inI64 n := by
  obtain ⟨n, rfl⟩ := okWide_int Tryz.underlying3 hv
  obtain ⟨m, e, -, hw⟩ := DataW.trod_int Tryz.underlying3 h
  have e' : [Value.int .i64 n] = [.int .i64 m] := e
  obtain rfl : n = m := by simpa using e'
  exact ⟨n, rfl, bounds_i64 hw⟩

set_option maxRecDepth 100000 in
theorem tells_lifted (os : Os) (started : os.Started) (H : Type) (enc : TypeId × Value → H) :
    ReturnsInHanded {} Tryz.checked os 4 .any (Rows.viewTellsSpec.pre6 enc Tryz.prog Tryz.f4 Rows.viewTellsRow.domain false) (Rows.viewTellsSpec.post enc Tryz.prog Tryz.f4 false true false false) := by
  refine returnsInHanded_of_change (C := Tryz.checked) Tryz.own started (by kernel_rfl) Tryz.func4
    (ChangeSpec.witness6 (enc := enc) (C := Tryz.checked) false ⟨#[], #[.slice none 0 0, .int .i64 0, .int .i64 0], []⟩ 8 (by kernel_rfl) (by kernel_rfl) (by kernel_rfl) (by kernel_rfl)) ?_
  intro W base args ds gs before hval0 hW _ _
  have hval : ∀ (j : Nat) t v, Tryz.f4.params[j]? = some t → args[j]? = some v → Value.okWide Tryz.prog W .any base t v := hval0
  have hW' := hW
  obtain ⟨p, q, hA0, hV, _, _, _⟩ := hW'
  have hA : DataW.TrodAll enc Tryz.prog W 0 (fun _ => true) true Tryz.f4.params.toList args.toList ds p := hA0
  rw [Tryz.params4] at hA hval
  obtain ⟨v0, v1, v2, d0, d1, d2, p0, p1, p2, rfl, rfl, rfl, h0, h1, h2⟩ := trodAll_three hA
  obtain ⟨rfl, rfl⟩ := trodVars_none hV
  obtain ⟨fuel0, hf0⟩ := h0
  rw [slice_cells Tryz.underlying26 (hval 0 _ v0 rfl rfl)] at hf0
  obtain ⟨x0, hx0⟩ := open_terms hf0
  obtain ⟨fuel1, hf1⟩ := h1
  obtain ⟨fuel2, hf2⟩ := h2
  obtain ⟨y1, rfl, hy1⟩ := int_arg (hval 1 _ v1 rfl rfl) hf1
  obtain ⟨y2, rfl, hy2⟩ := int_arg (hval 2 _ v2 rfl rfl) hf2
  refine (law_tells9 v0 x0 y1 y2 W hx0 hy1 hy2).mono fun e W' h => ?_
  obtain ⟨rfl, hb⟩ := h
  exact ⟨_, rfl, law_post hW rfl rfl rfl (by rw [Tryz.params4]; intro t ht; simp at ht; rcases ht with rfl | rfl <;> exact ⟨by kernel_rfl, by decide +kernel⟩) hb⟩

theorem tells_holds : Rows.ViewTellsSaid :=
  OpenClaim.holds_of_wide 4 Tryz.f4 rfl rfl rfl rfl rfl rfl rfl ⟨rfl, rfl, rfl, rfl, rfl⟩ rfl rfl rfl rfl rfl (by kernel_rfl) Tryz.func4 (by kernel_rfl)
    (of_decide_eq_true (by kernel_rfl)) (by unfold Func.isWrapper; first | (rw [if_pos (by decide +kernel)]; kernel_rfl) | (rw [if_neg (by decide +kernel)]; exact ⟨rfl, rfl⟩))
    (fun os started H enc _ => tells_lifted os started H enc)
end Go.Proofs.YthplgldclilccaaGreat
