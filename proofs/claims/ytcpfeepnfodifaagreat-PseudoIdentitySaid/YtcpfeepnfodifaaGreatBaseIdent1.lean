/- PseudoIdentity holds: I to the power s times f is q g and r, r has a lower degree in v than g, and s is at most the degrees' difference and 1; the law answers true, and its arguments read as they did. No condition. -/
import Derived.Test.YtcpfeepnfodifaaGreatBase10
namespace Go.Proofs.YtcpfeepnfodifaaGreat
open Go.RowKit

/-- the statement's equations, of plain polynomials -/
theorem ident12 {F G : PZ} {x : Int} (fF : Fit 8 8 F) (eF : exB 8 F) (fG : Fit 8 8 G) (eG : exB 8 G) (hx : 1 ≤ x ∧ x ≤ 200) (hd : 1 ≤ degP G x) (h0 : (div0 true F G x).e = 0) :
    ∃ P X Y, powN (headP G x) (div0 true F G x).n = some P ∧ timesP P F = some X ∧ timesP (div0 true F G x).q G = some Y ∧ X = normP (Y ++ (div0 true F G x).r) ∧ (div0 true F G x).n ≤ 8 ∧
      Fit 81 16777216 P ∧ Fit 128 34359738368 (div0 true F G x).q ∧ Fit 128 34359738368 (div0 true F G x).r ∧ ((div0 true F G x).r = [] ∨ degP (div0 true F G x).r x < degP G x) ∧ ((div0 true F G x).n : Int) ≤ max (degP F x - degP G x + 1) 0 := by
  have H := div_good (o := none) (s := default) fF.can fG.can hx hd h0
  have hE := div12_ex true none default fF eF fG eG hx hd
  have hF := div12_fit true none default fF eF fG hx hd
  have hn : (div0 true F G x).n ≤ 8 := by
    have h1 : ((div0 true F G x).n : Int) ≤ _ := H.steps
    have h2 := eF.deg (by decide) x
    omega
  have hn' : ((divD none true default F G x).n : Int) ≤ 8 := by have h5 : (divD none true default F G x).n ≤ 8 := hn; omega
  obtain ⟨P, X, Y, h1, h2, h3, h4⟩ := ident_law (E := 80) fF.can fG.can H (eG.le (by decide)) (eF.le (by decide)) hE.1 (by decide) (by omega) (by decide)
  have h8 : (8 : Nat) ^ (div0 true F G x).n ≤ 8 ^ 8 := Nat.pow_le_pow_right (by decide) hn
  have fP := powN_fit (fG.coef x (degP G x)) (by decide) _ P (Nat.le_trans h8 (by decide)) h1
  exact ⟨P, X, Y, h1, h2, h3, h4, hn, fP.mono (by omega) (Nat.le_trans h8 (by decide)), hF.1, hF.2, H.deg, H.steps⟩

set_option maxRecDepth 100000 in
set_option maxHeartbeats 8000000 in
theorem law_identity (vp vq : Value) (ps qs : List RTerm) (x : Int) (w : World) (hp : Terms (Old w) w vp ps) (hq : Terms (Old w) w vq qs) (hx : inI64 x) :
    Calls Tryz.prog 4 #[vp, vq, .int .i64 x] w fun e w' => e = .returned (.bool true) ∧ Ext w w' := by
  have hnot : ∀ (x : Bool) (w : World), (Op.unary .not (.bool x)).run Tryz.prog w = .ok (.bool (!x)) w := fun _ _ => rfl
  have HX0 := hid (Ext.refl w)
  have HXI := hid hx
  have CG := law12_great vp ps x hp
  have CH := fun (W : World) (hW : Ext w W) => law12_great vq qs x (hq.on hW)
  unfold inI64 at hx
  obtain ⟨hxl, hxu⟩ := hx
  cases hg : great12 ps with
  | true =>
    rw [hg] at CG
    obtain ⟨ap, cp, rfl⟩ := hp.form
    obtain ⟨aq, cq, rfl⟩ := hq.form
    have HCG := hid CG
    clear CG CH hg hp hq
    go_enter Tryz.func4, Tryz.ntmps4
    go_wp2_with fail
    with_reducible refine (HCG.out).mono ?_
    rintro e w1 ⟨rfl, hx1⟩
    have HX1 := hid (HX0.out.trans hx1)
    clear hx1
    go_wp2_with fail
    with_reducible refine (law12_known w1).mono ?_
    rintro e w2 ⟨rfl, hx2⟩
    have HX2 := hid (HX1.out.trans hx2)
    clear hx2
    go_wp2
    all_goals
      go_ret
      exact ⟨rfl, HX2.out⟩
  | false =>
    rw [hg] at CG
    have HGP := hid hg
    clear hg
    cases hg : great12 qs with
    | true =>
      simp only [hg] at CH
      obtain ⟨ap, cp, rfl⟩ := hp.form
      obtain ⟨aq, cq, rfl⟩ := hq.form
      have HCG := hid CG
      have HCH := hid CH
      clear CG CH hg hp hq
      go_enter Tryz.func4, Tryz.ntmps4
      go_wp2_with fail
      with_reducible refine (HCG.out).mono ?_
      rintro e w1 ⟨rfl, hx1⟩
      have HX1 := hid (HX0.out.trans hx1)
      clear hx1
      go_wp2_with fail
      with_reducible refine (HCH.out _ HX1.out).mono ?_
      rintro e w2 ⟨rfl, hx2⟩
      have HX2 := hid (HX1.out.trans hx2)
      clear hx2
      go_wp2_with fail
      with_reducible refine (law12_known w2).mono ?_
      rintro e w3 ⟨rfl, hx3⟩
      have HX3 := hid (HX2.out.trans hx3)
      clear hx3
      go_wp2
      all_goals
        go_ret
        exact ⟨rfl, HX3.out⟩
    | false =>
      simp only [hg] at CH
      have HGQ := hid hg
      clear hg
      by_cases hok : mayT ps = true ∧ mayT qs = true ∧ (1 ≤ x ∧ x ≤ 200) ∧ 1 ≤ degP (plainP qs) x
      · obtain ⟨hm1, hm2, hx1, hd⟩ := hok
        have e1 := pv_of hp hm1
        have e2 := pv_of hq hm2
        obtain ⟨fF, eF⟩ := plain12 hp.okT HGP.out
        obtain ⟨fG, eG⟩ := plain12 hq.okT HGQ.out
        generalize plainP ps = F at *
        generalize plainP qs = G at *
        subst e1 e2
        have CD := hid (fun (W : World) (hW : Ext w W) => div12_divide fF eF fG hx1 hd (hp.on hW) (hq.on hW))
        rcases run_none_err (g := G) (v := x) (keep := true) (h := headP G x) (d := degP G x) ((degP F x).toNat + 1) default [] F 0 with h0 | h8
        · obtain ⟨P, X, Y, hP, hX, hY, hXY, hn8, fP, fQ, fR, hRd, hsn⟩ := ident12 fF eF fG eG hx1 hd h0
          have h0' : (div0 true F G x).e = 0 := h0
          generalize div0 true F G x = R at *
          obtain ⟨re, rq, rr, rn, rs⟩ := R
          simp only at *
          subst h0'
          have fX := fP.times fF hX (by decide)
          have fY := fQ.times fG hY (by decide)
          have hdF := degP_range fF.can.may x
          have hdG := degP_range fG.can.may x
          have hdR := degP_range fR.can.may x
          have B1 := hid (fun (W : World) (u : Value) (hu : PV W u G) => z_degree hu fG (by decide) HXI.out)
          have B2 := hid (fun (W : World) (u : Value) (hu : PV W u G) => z_coef hu fG (by decide) (by decide) hx1 (d := degP G x) (by unfold inI64; omega))
          have B3 := fun (W : World) (u : Value) (hu : PV W u (headP G x)) => z_pow hu (fG.coef x (degP G x)) (by decide) (by decide) (n := rn) (by omega) (Nat.le_trans (Nat.pow_le_pow_right (by decide) hn8) (by decide : (8 : Nat) ^ 8 ≤ 1000000000000))
          have B4 := fun (W : World) (u v : Value) (hu : PV W u P) (hv : PV W v F) => z_times hu hv fP fF (.inr (by decide)) (by decide) (by decide) (by decide)
          have B5 := fun (W : World) (u v : Value) (hu : PV W u rq) (hv : PV W v G) => z_times hu hv fQ fG (.inr (by decide)) (by decide) (by decide) (by decide)
          have B6 := fun (W : World) (u v : Value) (hu : PV W u Y) (hv : PV W v rr) => z_add hu hv (fY.mono (l := 138) (m := 274877906944) (by decide) (by decide)) (fR.mono (l := 138) (m := 34359738368) (by decide) (by decide)) (by decide) (by decide) (by decide)
          rw [← hXY] at B6
          have B7 := fun (W : World) (u v : Value) (hu : PV W u X) (hv : PV W v X) => z_same hu hv
          simp only [decide_true] at B7
          have B8 := hid (fun (W : World) (u : Value) (hu : PV W u rr) => z_degree hu fR (by decide) HXI.out)
          have B9 := hid (fun (W : World) (u : Value) (hu : PV W u F) => z_degree hu fF (by decide) HXI.out)
          rw [hP] at B3
          rw [hX] at B4
          rw [hY] at B5
          have H3 := hid B3
          have H4 := hid B4
          have H5 := hid B5
          have H6 := hid B6
          have H7 := hid B7
          obtain ⟨dg, hdg⟩ : ∃ d, d = degP G x := ⟨_, rfl⟩
          obtain ⟨df, hdf⟩ : ∃ d, d = degP F x := ⟨_, rfl⟩
          obtain ⟨dr, hdr⟩ : ∃ d, d = degP rr x := ⟨_, rfl⟩
          have B2' : Hid (∀ (W : World) (u : Value), PV W u G → Calls Tryz.prog 26 #[u, .int .i64 x, .int .i64 dg] W fun e w' => ∃ v', e = .returned v' ∧ Terms (New W w') w' v' (ofP (headP G x)) ∧ Ext W w') := hid (by rw [hdg]; exact B2.out)
          rw [← hdg] at B1 hdG hsn hRd
          rw [← hdf] at B9 hdF hsn
          rw [← hdr] at B8 hdR hRd
          obtain ⟨hG1, hG2⟩ := hdG
          obtain ⟨hF1, hF2⟩ := hdF
          obtain ⟨hR1, hR2⟩ := hdR
          have q1 : decide ((rn : Int) ≤ max (df - dg + 1) 0) = true := decide_eq_true hsn
          have q2 : (rn : Int) ≤ max (df - dg + 1) 0 := hsn
          have HRD : Hid (rr.length = 0 ∨ dr < dg) := hid (by rcases hRd with h | h; exact .inl (by rw [h]; rfl); exact .inr h)
          have HF0 := hid hp
          have HG0 := hid hq
          obtain ⟨af, cf, rfl⟩ := hp.form
          obtain ⟨ag, cg, rfl⟩ := hq.form
          obtain ⟨nf, hnf⟩ : ∃ n, n = (ofP F).length := ⟨_, rfl⟩
          obtain ⟨ng, hng⟩ : ∃ n, n = (ofP G).length := ⟨_, rfl⟩
          rw [← hnf] at CG CD HF0 ⊢
          rw [← hng] at CH CD HG0 ⊢
          have HCG := hid CG
          have HCH := hid CH
          clear CG CH B2 B3 B4 B5 B6 B7 hp hq fF eF fG eG fP fQ fR fX fY hP hX hY hXY hRd hm1 hm2 hnf hng hdg hdf hdr h0 hn8
          go_enter Tryz.func4, Tryz.ntmps4
          go_wp2_with fail
          with_reducible refine (HCG.out).mono ?_
          rintro e w1 ⟨rfl, hx1⟩
          have HX1 := hid (HX0.out.trans hx1)
          have HF1 := hid (Terms.on HF0.out hx1)
          have HG1 := hid (Terms.on HG0.out hx1)
          clear hx1
          go_wp2_with fail
          with_reducible refine (HCH.out _ HX1.out).mono ?_
          rintro e w2 ⟨rfl, hx2⟩
          have HX2 := hid (HX1.out.trans hx2)
          have HF2 := hid (Terms.on HF1.out hx2)
          have HG2 := hid (Terms.on HG1.out hx2)
          clear hx2
          go_wp2_with fail
          with_reducible refine (CD.out _ HX2.out).mono ?_
          rintro e w3 ⟨uq, ur, rfl, hq1, hr1, hx3⟩
          have HX3 := hid (HX2.out.trans hx3)
          have HF3 := hid (Terms.on HF2.out hx3)
          have HG3 := hid (Terms.on HG2.out hx3)
          have HQ3 : Hid (Terms (Old w3) w3 uq (ofP rq)) := hid hq1
          have HR3 : Hid (Terms (Old w3) w3 ur (ofP rr)) := hid hr1
          obtain ⟨aq1, cq1, rfl⟩ := hq1.form
          obtain ⟨ar1, cr1, rfl⟩ := hr1.form
          obtain ⟨nq1, hnq1⟩ : ∃ n, n = (ofP rq).length := ⟨_, rfl⟩
          obtain ⟨nr1, hnr1⟩ : ∃ n, n = (ofP rr).length := ⟨_, rfl⟩
          have HNR := hid hnr1
          rw [← hnq1] at HQ3 ⊢
          rw [← hnr1] at HR3 ⊢
          clear hx3 hq1 hr1 hnq1 hnr1
          go_wp2_with fail
          with_reducible refine (B1.out _ _ HG3.out).mono ?_
          rintro e w4 ⟨rfl, hx4⟩
          have HX4 := hid (HX3.out.trans hx4)
          have HF4 := hid (Terms.on HF3.out hx4)
          have HG4 := hid (Terms.on HG3.out hx4)
          have HQ4 := hid (Terms.on HQ3.out hx4)
          have HR4 := hid (Terms.on HR3.out hx4)
          clear hx4
          go_wp2_with fail
          with_reducible refine (B2'.out _ _ HG4.out).mono ?_
          rintro e w5 ⟨v5, rfl, hp5, hx5⟩
          have HX5 := hid (HX4.out.trans hx5)
          have HF5 := hid (Terms.on HF4.out hx5)
          have HG5 := hid (Terms.on HG4.out hx5)
          have HQ5 := hid (Terms.on HQ4.out hx5)
          have HR5 := hid (Terms.on HR4.out hx5)
          have HI5 := hid (hp5.to (S' := Old w5) (Kept.refl _ _) New.lt)
          have hle5 := hp5.len_le
          obtain ⟨a5, c5, rfl⟩ := hp5.form
          obtain ⟨ni, hni⟩ : ∃ n, n = (ofP (headP G x)).length := ⟨_, rfl⟩
          rw [← hni] at HI5 hle5 ⊢
          have Hni := hid hni
          clear hni
          clear hx5 hp5
          go_wp2_with fail
          with_reducible refine (H3.out _ _ HI5.out).mono ?_
          rintro e w6 ⟨v6, rfl, hp6, hx6⟩
          have HX6 := hid (HX5.out.trans hx6)
          have HF6 := hid (Terms.on HF5.out hx6)
          have HG6 := hid (Terms.on HG5.out hx6)
          have HQ6 := hid (Terms.on HQ5.out hx6)
          have HR6 := hid (Terms.on HR5.out hx6)
          have HP6 := hid (hp6.to (S' := Old w6) (Kept.refl _ _) New.lt)
          have hle6 := hp6.len_le
          obtain ⟨a6, c6, rfl⟩ := hp6.form
          obtain ⟨np, hnp⟩ : ∃ n, n = (ofP P).length := ⟨_, rfl⟩
          rw [← hnp] at HP6 hle6 ⊢
          have Hnp := hid hnp
          clear hnp
          clear hx6 hp6
          go_wp2_with fail
          with_reducible refine (H4.out _ _ _ HP6.out HF6.out).mono ?_
          rintro e w7 ⟨v7, rfl, hp7, hx7⟩
          have HX7 := hid (HX6.out.trans hx7)
          have HF7 := hid (Terms.on HF6.out hx7)
          have HG7 := hid (Terms.on HG6.out hx7)
          have HQ7 := hid (Terms.on HQ6.out hx7)
          have HR7 := hid (Terms.on HR6.out hx7)
          have HV7 := hid (hp7.to (S' := Old w7) (Kept.refl _ _) New.lt)
          have hle7 := hp7.len_le
          obtain ⟨a7, c7, rfl⟩ := hp7.form
          obtain ⟨nx, hnx⟩ : ∃ n, n = (ofP X).length := ⟨_, rfl⟩
          rw [← hnx] at HV7 hle7 ⊢
          have Hnx := hid hnx
          clear hnx
          clear hx7 hp7
          go_wp2_with fail
          with_reducible refine (H5.out _ _ _ HQ7.out HG7.out).mono ?_
          rintro e w8 ⟨v8, rfl, hp8, hx8⟩
          have HX8 := hid (HX7.out.trans hx8)
          have HF8 := hid (Terms.on HF7.out hx8)
          have HR8 := hid (Terms.on HR7.out hx8)
          have HV8 := hid (Terms.on HV7.out hx8)
          have HY8 := hid (hp8.to (S' := Old w8) (Kept.refl _ _) New.lt)
          have hle8 := hp8.len_le
          obtain ⟨a8, c8, rfl⟩ := hp8.form
          obtain ⟨ny, hny⟩ : ∃ n, n = (ofP Y).length := ⟨_, rfl⟩
          rw [← hny] at HY8 hle8 ⊢
          have Hny := hid hny
          clear hny
          clear hx8 hp8
          go_wp2_with fail
          with_reducible refine (H6.out _ _ _ HY8.out HR8.out).mono ?_
          rintro e w9 ⟨v9, rfl, hp9, hx9⟩
          have HX9 := hid (HX8.out.trans hx9)
          have HF9 := hid (Terms.on HF8.out hx9)
          have HR9 := hid (Terms.on HR8.out hx9)
          have HV9 := hid (Terms.on HV8.out hx9)
          have HZ9 := hid (hp9.to (S' := Old w9) (Kept.refl _ _) New.lt)
          have hle9 := hp9.len_le
          obtain ⟨a9, c9, rfl⟩ := hp9.form
          obtain ⟨nz, hnz⟩ : ∃ n, n = (ofP X).length := ⟨_, rfl⟩
          rw [← hnz] at HZ9 hle9 ⊢
          have Hnz := hid hnz
          clear hnz
          clear hx9 hp9
          go_wp2_with fail
          with_reducible refine (H7.out _ _ _ HV9.out HZ9.out).mono ?_
          rintro e w10 ⟨rfl, hx10⟩
          have HX10 := hid (HX9.out.trans hx10)
          have HF10 := hid (Terms.on HF9.out hx10)
          have HR10 := hid (Terms.on HR9.out hx10)
          have HV10 := hid (Terms.on HV9.out hx10)
          have HZ10 := hid (Terms.on HZ9.out hx10)
          clear hx10
          by_cases hr0 : nr1 = 0
          · subst hr0
            go_wp2_with fail
            with_reducible refine (B9.out _ _ HF10.out).mono ?_
            rintro e w11 ⟨rfl, hx11⟩
            have HX11 := hid (HX10.out.trans hx11)
            have HF11 := hid (Terms.on HF10.out hx11)
            clear hx11
            go_wp2_with fail
            with_reducible refine (law12_known w11).mono ?_
            rintro e w12 ⟨rfl, hx12⟩
            have HX12 := hid (HX11.out.trans hx12)
            have HF12 := hid (Terms.on HF11.out hx12)
            clear hx12
            go_wp2
            all_goals
              go_ret
              exact ⟨rfl, HX12.out⟩
          · have q3 : ((nr1 : Int) == 0) = false := by rw [beq_eq_false_iff_ne]; omega
            have q4 : decide (dr < dg) = true := decide_eq_true (by rcases HRD.out with h | h; exact absurd (HNR.out.trans (by rw [ofP_len]; exact h)) hr0; exact h)
            go_wp2_with fail
            with_reducible refine (B8.out _ _ HR10.out).mono ?_
            rintro e w11 ⟨rfl, hx11⟩
            have HX11 := hid (HX10.out.trans hx11)
            have HF11 := hid (Terms.on HF10.out hx11)
            have HR11 := hid (Terms.on HR10.out hx11)
            clear hx11
            go_wp2_with fail
            with_reducible refine (B9.out _ _ HF11.out).mono ?_
            rintro e w12 ⟨rfl, hx12⟩
            have HX12 := hid (HX11.out.trans hx12)
            have HF12 := hid (Terms.on HF11.out hx12)
            have HR12 := hid (Terms.on HR11.out hx12)
            clear hx12
            go_wp2_with fail
            with_reducible refine (law12_known w12).mono ?_
            rintro e w13 ⟨rfl, hx13⟩
            have HX13 := hid (HX12.out.trans hx13)
            have HF13 := hid (Terms.on HF12.out hx13)
            have HR13 := hid (Terms.on HR12.out hx13)
            clear hx13
            go_wp2
            all_goals
              go_ret
              exact ⟨rfl, HX13.out⟩
        · have h8' : (div0 true F G x).e = 8 := h8
          generalize div0 true F G x = R at *
          obtain ⟨re, rq, rr, rn, rs⟩ := R
          simp only at *
          subst h8'
          have HF0 := hid hp
          have HG0 := hid hq
          obtain ⟨af, cf, rfl⟩ := hp.form
          obtain ⟨ag, cg, rfl⟩ := hq.form
          obtain ⟨nf, hnf⟩ : ∃ n, n = (ofP F).length := ⟨_, rfl⟩
          obtain ⟨ng, hng⟩ : ∃ n, n = (ofP G).length := ⟨_, rfl⟩
          rw [← hnf] at CG CD HF0 ⊢
          rw [← hng] at CH CD HG0 ⊢
          have HCG := hid CG
          have HCH := hid CH
          clear CG CH hp hq fF eF fG eG hm1 hm2 hnf hng h8
          go_enter Tryz.func4, Tryz.ntmps4
          go_wp2_with fail
          with_reducible refine (HCG.out).mono ?_
          rintro e w1 ⟨rfl, hx1⟩
          have HX1 := hid (HX0.out.trans hx1)
          clear hx1
          go_wp2_with fail
          with_reducible refine (HCH.out _ HX1.out).mono ?_
          rintro e w2 ⟨rfl, hx2⟩
          have HX2 := hid (HX1.out.trans hx2)
          clear hx2
          go_wp2_with fail
          with_reducible refine (CD.out _ HX2.out).mono ?_
          rintro e w3 ⟨uq, ur, rfl, hq1, hr1, hx3⟩
          have HX3 := hid (HX2.out.trans hx3)
          obtain ⟨aq1, cq1, rfl⟩ := hq1.form
          obtain ⟨ar1, cr1, rfl⟩ := hr1.form
          clear hx3 hq1 hr1
          go_wp2_with fail
          with_reducible refine (law12_known w3).mono ?_
          rintro e w4 ⟨rfl, hx4⟩
          have HX4 := hid (HX3.out.trans hx4)
          clear hx4
          go_wp2
          all_goals
            go_ret
            exact ⟨rfl, HX4.out⟩
      · have CN := hid (fun (W : World) (hW : Ext w W) => divide_no (vm := .pointer none) ⟨_, rfl⟩ (hp.on hW) (hq.on hW) (small12 HGP.out) (small12 HGQ.out) HXI.out hok)
        obtain ⟨ap, cp, rfl⟩ := hp.form
        obtain ⟨aq, cq, rfl⟩ := hq.form
        have HCG := hid CG
        have HCH := hid CH
        clear CG CH hp hq hok
        go_enter Tryz.func4, Tryz.ntmps4
        go_wp2_with fail
        with_reducible refine (HCG.out).mono ?_
        rintro e w1 ⟨rfl, hx1⟩
        have HX1 := hid (HX0.out.trans hx1)
        clear hx1
        go_wp2_with fail
        with_reducible refine (HCH.out _ HX1.out).mono ?_
        rintro e w2 ⟨rfl, hx2⟩
        have HX2 := hid (HX1.out.trans hx2)
        clear hx2
        go_wp2_with fail
        with_reducible refine (CN.out _ HX2.out).mono ?_
        rintro e w3 ⟨rfl, hx3⟩
        have HX3 := hid (HX2.out.trans hx3)
        clear hx3
        go_wp2_with fail
        with_reducible refine (law12_known w3).mono ?_
        rintro e w4 ⟨rfl, hx4⟩
        have HX4 := hid (HX3.out.trans hx4)
        clear hx4
        go_wp2
        all_goals
          go_ret
          exact ⟨rfl, HX4.out⟩
end Go.Proofs.YtcpfeepnfodifaaGreat

namespace Go.Proofs.YtcpfeepnfodifaaGreat
open Go.RowKit Go.Deep Go.ChangeShapes Go.WideShapes Go.ChangeAt

set_option maxRecDepth 100000 in
theorem int_arg {H : Type} {enc : TypeId × Value → H} {W : World} {base b0 : Nat} {sp : Nat → Bool} {held : Bool} {fuel : Nat} {v : Value} {x : DataW H × List MemPlace} (hv : Value.okWide Tryz.prog W .any base 3 v) (h : DataW.trod enc Tryz.prog W b0 sp held fuel 3 v.cells.toList = some x) : ∃ n, v = .int .i64 n ∧ inI64 n := by
  obtain ⟨n, rfl⟩ := okWide_int Tryz.underlying3 hv
  obtain ⟨m, e, -, hw⟩ := DataW.trod_int Tryz.underlying3 h
  have e' : [Value.int .i64 n] = [.int .i64 m] := e
  obtain rfl : n = m := by simpa using e'
  exact ⟨n, rfl, bounds_i64 hw⟩

set_option maxRecDepth 100000 in
theorem identity_lifted (os : Os) (started : os.Started) (H : Type) (enc : TypeId × Value → H) :
    ReturnsInHanded {} Tryz.checked os 4 .any (Rows.pseudoIdentitySpec.pre6 enc Tryz.prog Tryz.f4 Rows.pseudoIdentityRow.domain false) (Rows.pseudoIdentitySpec.post enc Tryz.prog Tryz.f4 false true false false) := by
  refine returnsInHanded_of_change (C := Tryz.checked) Tryz.own started (by kernel_rfl) Tryz.func4
    (ChangeSpec.witness6 (enc := enc) (C := Tryz.checked) false ⟨#[], #[.slice none 0 0, .slice none 0 0, .int .i64 0], []⟩ 8 (by kernel_rfl) (by kernel_rfl) (by kernel_rfl) (by kernel_rfl)) ?_
  intro W base args ds gs before hval0 hW _ _
  have hval : ∀ (j : Nat) t v, Tryz.f4.params[j]? = some t → args[j]? = some v → Value.okWide Tryz.prog W .any base t v := hval0
  have hW' := hW
  obtain ⟨p, q, hA0, hV, _, _, _⟩ := hW'
  have hA : DataW.TrodAll enc Tryz.prog W 0 (fun _ => true) true Tryz.f4.params.toList args.toList ds p := hA0
  rw [Tryz.params4] at hA hval
  obtain ⟨v0, v1, v2, d0, d1, d2, p0, p1, p2, rfl, rfl, rfl, h0, h1, h2⟩ := trodAll_three hA
  obtain ⟨rfl, rfl⟩ := trodVars_none hV
  obtain ⟨fuel0, hf0⟩ := h0
  rw [slice_cells Tryz.underlying23 (hval 0 _ v0 rfl rfl)] at hf0
  obtain ⟨x0, hx0⟩ := open_terms hf0
  obtain ⟨fuel1, hf1⟩ := h1
  rw [slice_cells Tryz.underlying23 (hval 1 _ v1 rfl rfl)] at hf1
  obtain ⟨x1, hx1⟩ := open_terms hf1
  obtain ⟨fuel2, hf2⟩ := h2
  obtain ⟨y2, rfl, hy2⟩ := int_arg (hval 2 _ v2 rfl rfl) hf2
  refine (law_identity v0 v1 x0 x1 y2 W hx0 hx1 hy2).mono fun e W' h => ?_
  obtain ⟨rfl, hb⟩ := h
  exact ⟨_, rfl, law_post hW rfl rfl rfl (by rw [Tryz.params4]; intro t ht; simp at ht; rcases ht with rfl | rfl <;> exact ⟨by kernel_rfl, by decide +kernel⟩) hb⟩

theorem identity_holds : Rows.PseudoIdentitySaid :=
  OpenClaim.holds_of_wide 4 Tryz.f4 rfl rfl rfl rfl rfl rfl rfl ⟨rfl, rfl, rfl, rfl, rfl⟩ rfl rfl rfl rfl rfl (by kernel_rfl) Tryz.func4 (by kernel_rfl)
    (of_decide_eq_true (by kernel_rfl)) (by unfold Func.isWrapper; first | (rw [if_pos (by decide +kernel)]; kernel_rfl) | (rw [if_neg (by decide +kernel)]; exact ⟨rfl, rfl⟩))
    (fun os started H enc _ => identity_lifted os started H enc)
end Go.Proofs.YtcpfeepnfodifaaGreat
