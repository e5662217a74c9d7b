/- PseudoExact holds: a product, divided by one of its factors, leaves no rest, and its quotient is the other factor times a power of the head; the law answers true, and its arguments read as they did. No condition. -/
import Derived.Test.YtcpfeepnfodifaaGreatBase10
namespace Go.Proofs.YtcpfeepnfodifaaGreat
open Go.RowKit

theorem unit_left {p : PZ} (hp : okAll p) : mulL [((1 : Int), ([] : Mono))] p = p := by
  have h1 : mulL [((1 : Int), ([] : Mono))] p = p.map fun t => ((1 : Int) * t.1, timesM [] t.2) := by
    unfold mulL
    rw [List.flatMap_cons, List.flatMap_nil, List.append_nil]
  rw [h1]
  clear h1
  induction p with
  | nil => rfl
  | cons t r ih => rw [List.map_cons, ih (fun u hu => hp u (by simp [hu])), times_one_left (hp t (by simp)), Int.one_mul]

section
variable {P G F : PZ} {x : Int}
set_option maxRecDepth 100000 in
theorem exact12_run (fP : Fit 8 4 P) (eP : exB 8 P) (fG : Fit 8 4 G) (eG : exB 8 G) (hF : timesP P G = some F) (hx : 1 ≤ x ∧ x ≤ 200) (hd : 1 ≤ degP G x) :
    FitRun none true G (headP G x) x (degP G x) 100 65536 ((degP F x).toNat + 1) default [] F := by
  obtain ⟨mf, rfl⟩ := times_some fP.can.may fG.can.may hF
  refine fitRun_exact (A := 8) (T := 4) (G := 8) (E := 8) fG (fG.coef x _) (by decide) hx hd (by decide) eG (by decide) (by decide) 4 (by decide) _ 0 18 16 _ _ _ P (fit_nil.mono (by decide) (by decide)) ((fP.times fG hF (by decide)).mono (by decide) (by decide)) fP.can eP ?_ (by have := fP.2.2; omega) (by have := fP.2.2; omega) ?_
  · refine (norm_eqv mf).trans (Eqv.mul ?_ (Eqv.refl G))
    show Eqv P (mulL [(1, [])] P)
    rw [unit_left (may_okAll fP.can.may)]
    exact Eqv.refl _
  · have h1 : (2 * 4) ^ P.length ≤ (2 * 4) ^ 4 := Nat.pow_le_pow_right (by decide) fP.2.2
    omega
set_option maxRecDepth 100000 in
theorem exact12 (fP : Fit 8 4 P) (eP : exB 8 P) (fG : Fit 8 4 G) (eG : exB 8 G) (hF : timesP P G = some F) (hx : 1 ≤ x ∧ x ≤ 200) (hd : 1 ≤ degP G x) (h0 : (div0 true F G x).e = 0) :
    ∃ I X, powN (headP G x) (div0 true F G x).n = some I ∧ timesP I P = some X ∧ (div0 true F G x).r = [] ∧ (div0 true F G x).q = X ∧ (div0 true F G x).n ≤ 17 ∧ Fit 171 17179869184 I ∧ Fit 100 65536 X := by
  have fF : Fit 18 16 F := (fP.times fG hF (by decide)).mono (by decide) (by decide)
  have eF : exB 16 F := by
    obtain ⟨c, hc, -, h, -⟩ := eP.times eG fP.can fG.can (by decide)
    obtain rfl : c = F := Option.some.inj (hc.symm.trans hF)
    exact h
  obtain ⟨mf, hmf⟩ := times_some fP.can.may fG.can.may hF
  have H := div_good (o := none) (s := default) fF.can fG.can hx hd h0
  have hr := exact12_run fP eP fG eG hF hx hd
  have hfit := run_fit _ _ _ _ 0 hr
  have hn : (div0 true F G x).n ≤ 17 := by
    have h1 : ((div0 true F G x).n : Int) ≤ _ := H.steps
    have h2 := eF.deg (by decide) x
    omega
  have hn' : ((div0 true F G x).n : Int) ≤ 17 := by omega
  have ch := fG.can
  obtain ⟨I, hI, cI, qI, eI⟩ := powN_ex (coefP_can fG.can x (degP G x)) (eG.coef (by decide) x (degP G x)) (by decide) (div0 true F G x).n (by omega)
  obtain ⟨X, hX, cX, eX, qX, -⟩ := eI.times eP cI fP.can (by omega)
  have h1 := (degP_range fF.can.may x).1
  have h2 := eF.deg (by decide) x
  have hE := (run_ex (o := none) (keep := true) fG.can eG (by decide) hx hd ((degP F x).toNat + 1) default [] F 0 16 canP_nil fF.can (exB_nil _) eF (by decide) (by omega)).1
  have hg := exact_good (E := 160) (p := P) (R := div0 true F G x) fG.can (by rw [hmf]; exact norm_eqv mf) (may_okAll fP.can.may) hx hd H cX (qX.trans (Eqv.mul qI (Eqv.refl P))) (eX.le (by omega)) (hE.le (by omega)) (eG.le (by decide)) (by decide)
  have h4 : (4 : Nat) ^ (div0 true F G x).n ≤ 4 ^ 17 := Nat.pow_le_pow_right (by decide) hn
  have fI := powN_fit (fG.coef x (degP G x)) (by decide) _ I (Nat.le_trans h4 (by decide)) hI
  refine ⟨I, X, hI, hX, hg.1, hg.2, hn, fI.mono (by omega) (Nat.le_trans h4 (by decide)), ?_⟩
  rw [← hg.2]
  exact hfit.1
end

set_option maxRecDepth 100000 in
set_option maxHeartbeats 8000000 in
theorem law_exact (vp vq : Value) (ps qs : List RTerm) (x : Int) (w : World) (hp : Terms (Old w) w vp ps) (hq : Terms (Old w) w vq qs) (hx : inI64 x) :
    Calls Tryz.prog 5 #[vp, vq, .int .i64 x] w fun e w' => e = .returned (.bool true) ∧ Ext w w' := by
  have hnot : ∀ (x : Bool) (w : World), (Op.unary .not (.bool x)).run Tryz.prog w = .ok (.bool (!x)) w := fun _ _ => rfl
  have HX0 := hid (Ext.refl w)
  have HXI := hid hx
  have CG := law12_great vp ps x hp
  have CH := fun (W : World) (hW : Ext w W) => law12_great vq qs x (hq.on hW)
  unfold inI64 at hx
  obtain ⟨hxl, hxu⟩ := hx
  cases hg : great12 ps with
  | true =>
    rw [hg] at CG
    obtain ⟨ap, cp, rfl⟩ := hp.form
    obtain ⟨aq, cq, rfl⟩ := hq.form
    have HCG := hid CG
    clear CG CH hg hp hq
    go_enter Tryz.func5, Tryz.ntmps5
    go_wp2_with fail
    with_reducible refine (HCG.out).mono ?_
    rintro e w1 ⟨rfl, hx1⟩
    have HX1 := hid (HX0.out.trans hx1)
    clear hx1
    go_wp2_with fail
    with_reducible refine (law12_known w1).mono ?_
    rintro e w2 ⟨rfl, hx2⟩
    have HX2 := hid (HX1.out.trans hx2)
    clear hx2
    go_wp2
    all_goals
      go_ret
      exact ⟨rfl, HX2.out⟩
  | false =>
    rw [hg] at CG
    have HGP := hid hg
    clear hg
    cases hg : great12 qs with
    | true =>
      simp only [hg] at CH
      obtain ⟨ap, cp, rfl⟩ := hp.form
      obtain ⟨aq, cq, rfl⟩ := hq.form
      have HCG := hid CG
      have HCH := hid CH
      clear CG CH hg hp hq
      go_enter Tryz.func5, Tryz.ntmps5
      go_wp2_with fail
      with_reducible refine (HCG.out).mono ?_
      rintro e w1 ⟨rfl, hx1⟩
      have HX1 := hid (HX0.out.trans hx1)
      clear hx1
      go_wp2_with fail
      with_reducible refine (HCH.out _ HX1.out).mono ?_
      rintro e w2 ⟨rfl, hx2⟩
      have HX2 := hid (HX1.out.trans hx2)
      clear hx2
      go_wp2_with fail
      with_reducible refine (law12_known w2).mono ?_
      rintro e w3 ⟨rfl, hx3⟩
      have HX3 := hid (HX2.out.trans hx3)
      clear hx3
      go_wp2
      all_goals
        go_ret
        exact ⟨rfl, HX3.out⟩
    | false =>
      simp only [hg] at CH
      have HGQ := hid hg
      clear hg
      have hlp := hp.len_le
      have hlq := hq.len_le
      have HP := hid hp
      have HQ := hid hq
      obtain ⟨ap, cp, rfl⟩ := hp.form
      obtain ⟨aq, cq, rfl⟩ := hq.form
      obtain ⟨np, hnp⟩ : ∃ n, n = ps.length := ⟨_, rfl⟩
      obtain ⟨nq, hnq⟩ : ∃ n, n = qs.length := ⟨_, rfl⟩
      have HNP := hid hnp
      have HNQ := hid hnq
      rw [← hnp] at CG hlp HP ⊢
      rw [← hnq] at CH hlq HQ ⊢
      have HCG := hid CG
      have HCH := hid CH
      clear CG CH hp hq hnp hnq
      by_cases h4 : 4 < np
      · clear HP HQ HNP HNQ
        go_enter Tryz.func5, Tryz.ntmps5
        go_wp2_with fail
        with_reducible refine (HCG.out).mono ?_
        rintro e w1 ⟨rfl, hx1⟩
        have HX1 := hid (HX0.out.trans hx1)
        clear hx1
        go_wp2_with fail
        with_reducible refine (HCH.out _ HX1.out).mono ?_
        rintro e w2 ⟨rfl, hx2⟩
        have HX2 := hid (HX1.out.trans hx2)
        clear hx2
        go_wp2_with fail
        with_reducible refine (law12_known w2).mono ?_
        rintro e w3 ⟨rfl, hx3⟩
        have HX3 := hid (HX2.out.trans hx3)
        clear hx3
        go_wp2
        all_goals
          go_ret
          exact ⟨rfl, HX3.out⟩
      · have h4' : (np : Int) ≤ 4 := by omega
        by_cases h5 : 4 < nq
        · clear HP HQ HNP HNQ h4
          go_enter Tryz.func5, Tryz.ntmps5
          go_wp2_with fail
          with_reducible refine (HCG.out).mono ?_
          rintro e w1 ⟨rfl, hx1⟩
          have HX1 := hid (HX0.out.trans hx1)
          clear hx1
          go_wp2_with fail
          with_reducible refine (HCH.out _ HX1.out).mono ?_
          rintro e w2 ⟨rfl, hx2⟩
          have HX2 := hid (HX1.out.trans hx2)
          clear hx2
          go_wp2_with fail
          with_reducible refine (law12_known w2).mono ?_
          rintro e w3 ⟨rfl, hx3⟩
          have HX3 := hid (HX2.out.trans hx3)
          clear hx3
          go_wp2
          all_goals
            go_ret
            exact ⟨rfl, HX3.out⟩
        · have h5' : (nq : Int) ≤ 4 := by omega
          have HL4 : Hid (ps.length ≤ 4 ∧ qs.length ≤ 4) := hid (by rw [← HNP.out, ← HNQ.out]; omega)
          clear h4 h5
          cases hm : (mayT ps && mayT qs) with
          | false =>
            have CT := hid (fun (W : World) (hW : Ext w W) => poly_times_no _ _ ps qs W (HP.out.on hW) (HQ.out.on hW) (fun _ h => h) hm (small12 HGP.out) (small12 HGQ.out))
            clear HP HQ HNP HNQ hm
            go_enter Tryz.func5, Tryz.ntmps5
            go_wp2_with fail
            with_reducible refine (HCG.out).mono ?_
            rintro e w1 ⟨rfl, hx1⟩
            have HX1 := hid (HX0.out.trans hx1)
            clear hx1
            go_wp2_with fail
            with_reducible refine (HCH.out _ HX1.out).mono ?_
            rintro e w2 ⟨rfl, hx2⟩
            have HX2 := hid (HX1.out.trans hx2)
            clear hx2
            go_wp2_with fail
            with_reducible refine (CT.out _ HX2.out).mono ?_
            rintro e w3 ⟨rfl, hx3⟩
            have HX3 := hid (HX2.out.trans hx3)
            clear hx3
            go_wp2_with fail
            with_reducible refine (law12_known w3).mono ?_
            rintro e w4 ⟨rfl, hx4⟩
            have HX4 := hid (HX3.out.trans hx4)
            clear hx4
            go_wp2
            all_goals
              go_ret
              exact ⟨rfl, HX4.out⟩
          | true =>
            simp only [Bool.and_eq_true] at hm
            obtain ⟨hm1, hm2⟩ := hm
            have e1 := pv_of HP.out hm1
            have e2 := pv_of HQ.out hm2
            have hok1 := HP.out.okT
            have hok2 := HQ.out.okT
            have eF := (plain12 hok1 HGP.out).2
            have eG := (plain12 hok2 HGQ.out).2
            have fP : Fit 8 4 (plainP ps) := fit_plain hok1 (fun t ht => ((fit12 HGP.out).2 t ht).1) HL4.out.1
            have fG : Fit 8 4 (plainP qs) := fit_plain hok2 (fun t ht => ((fit12 HGQ.out).2 t ht).1) HL4.out.2
            generalize plainP ps = P at *
            generalize plainP qs = G at *
            subst e1 e2
            obtain ⟨F, hF, -⟩ := eF.times eG fP.can fG.can (by decide)
            have fF : Fit 18 16 F := (fP.times fG hF (by decide)).mono (by decide) (by decide)
            have CT := hid (fun (W : World) (hW : Ext w W) => z_times (HP.out.on hW) (HQ.out.on hW) fP fG (.inl (by decide)) (by decide) (by decide) (by decide))
            rw [hF] at CT
            obtain ⟨nF, hnF⟩ : ∃ n, n = (ofP F).length := ⟨_, rfl⟩
            have HNF := hid hnF
            clear hnF
            by_cases hok : (1 ≤ x ∧ x ≤ 200) ∧ 1 ≤ degP G x
            · obtain ⟨hx1, hd⟩ := hok
              have CD := hid (fun (W : World) (u v : Value) (hu : PV W u F) (hv : PV W v G) => z_divide0 hu hv fG (exact12_run fP eF fG eG hF hx1 hd) (by decide) (by decide) (by decide) (by decide) (by decide) hx1 hd)
              rcases run_none_err (g := G) (v := x) (keep := true) (h := headP G x) (d := degP G x) ((degP F x).toNat + 1) default [] F 0 with h0 | h8
              · obtain ⟨I, X, hI, hX, hr, hqX, hn17, fI, fX⟩ := exact12 fP eF fG eG hF hx1 hd h0
                have h0' : (div0 true F G x).e = 0 := h0
                generalize div0 true F G x = R at *
                obtain ⟨re, rq, rr, rn, rs⟩ := R
                simp only at *
                subst h0' hr hqX
                have hdG := degP_range fG.can.may x
                have B1 := fun (W : World) (u : Value) (hu : PV W u G) => z_degree hu fG (by decide) HXI.out
                have B2 := fun (W : World) (u : Value) (hu : PV W u G) => z_coef hu fG (by decide) (by decide) hx1 (d := degP G x) (by unfold inI64; omega)
                have B3 := fun (W : World) (u : Value) (hu : PV W u (headP G x)) => z_pow hu (fG.coef x (degP G x)) (by decide) (by decide) (n := rn) (by omega) (Nat.le_trans (Nat.pow_le_pow_right (by decide) hn17) (by decide : (4 : Nat) ^ 17 ≤ 1000000000000))
                have B4 := fun (W : World) (u v : Value) (hu : PV W u I) (hv : PV W v P) => z_times hu hv fI fP (.inr (by decide)) (by decide) (by decide) (by decide)
                have B7 := fun (W : World) (u v : Value) (hu : PV W u rq) (hv : PV W v rq) => z_same hu hv
                simp only [decide_true] at B7
                rw [hI] at B3
                rw [hX] at B4
                obtain ⟨dg, hdg⟩ : ∃ d, d = degP G x := ⟨_, rfl⟩
                have B2' : Hid (∀ (W : World) (u : Value), PV W u G → Calls Tryz.prog 26 #[u, .int .i64 x, .int .i64 dg] W fun e w' => ∃ v', e = .returned v' ∧ Terms (New W w') w' v' (ofP (headP G x)) ∧ Ext W w') := hid (by rw [hdg]; exact B2)
                rw [← hdg] at B1
                have H1 := hid B1
                have H3 := hid B3
                have H4 := hid B4
                have H7 := hid B7
                have HP0 := hid (show Terms (Old w) w _ (ofP P) from HP.out)
                have HG0 := hid (show Terms (Old w) w _ (ofP G) from HQ.out)
                clear B1 B2 B3 B4 B7 fP fG fF fI fX eF eG hI hX hF hdg hdG hm1 hm2 hn17 HP HQ h0 hok1 hok2 hd
                go_enter Tryz.func5, Tryz.ntmps5
                go_wp2_with fail
                with_reducible refine (HCG.out).mono ?_
                rintro e w1 ⟨rfl, hx1⟩
                have HX1 := hid (HX0.out.trans hx1)
                have HP1 := hid (Terms.on HP0.out hx1)
                have HG1 := hid (Terms.on HG0.out hx1)
                clear hx1
                go_wp2_with fail
                with_reducible refine (HCH.out _ HX1.out).mono ?_
                rintro e w2 ⟨rfl, hx2⟩
                have HX2 := hid (HX1.out.trans hx2)
                have HP2 := hid (Terms.on HP1.out hx2)
                have HG2 := hid (Terms.on HG1.out hx2)
                clear hx2
                go_wp2_with fail
                with_reducible refine (CT.out _ HX2.out).mono ?_
                rintro e w3 ⟨v3, rfl, hp3, hx3⟩
                have HX3 := hid (HX2.out.trans hx3)
                have HP3 := hid (Terms.on HP2.out hx3)
                have HG3 := hid (Terms.on HG2.out hx3)
                have HF3 := hid (hp3.to (S' := Old w3) (Kept.refl _ _) New.lt)
                have hle3 := hp3.len_le
                obtain ⟨a3, c3, rfl⟩ := hp3.form
                obtain ⟨mF, hmF⟩ : ∃ n, n = (ofP F).length := ⟨_, rfl⟩
                rw [← hmF] at HF3 hle3 ⊢
                have HmF := hid hmF
                clear hmF
                clear hx3 hp3
                go_wp2_with fail
                with_reducible refine (CD.out _ _ _ HF3.out HG3.out).mono ?_
                rintro e w4 ⟨uq, ur, rfl, hq1, hr1, hx4⟩
                have HX4 := hid (HX3.out.trans hx4)
                have HP4 := hid (Terms.on HP3.out hx4)
                have HG4 := hid (Terms.on HG3.out hx4)
                have HQ4 : Hid (Terms (Old w4) w4 uq (ofP rq)) := hid hq1
                obtain ⟨aq1, cq1, rfl⟩ := hq1.form
                obtain ⟨ar1, cr1, hr2⟩ := hr1.form
                have hr3 : ur = .slice ar1 0 cr1 := hr2
                subst hr3
                obtain ⟨nq1, hnq1⟩ : ∃ n, n = (ofP rq).length := ⟨_, rfl⟩
                rw [← hnq1] at HQ4 ⊢
                clear hx4 hq1 hr1 hnq1 hr2
                go_wp2_with fail
                with_reducible refine (H1.out _ _ HG4.out).mono ?_
                rintro e w5 ⟨rfl, hx5⟩
                have HX5 := hid (HX4.out.trans hx5)
                have HP5 := hid (Terms.on HP4.out hx5)
                have HG5 := hid (Terms.on HG4.out hx5)
                have HQ5 := hid (Terms.on HQ4.out hx5)
                clear hx5
                go_wp2_with fail
                with_reducible refine (B2'.out _ _ HG5.out).mono ?_
                rintro e w6 ⟨v6, rfl, hp6, hx6⟩
                have HX6 := hid (HX5.out.trans hx6)
                have HP6 := hid (Terms.on HP5.out hx6)
                have HQ6 := hid (Terms.on HQ5.out hx6)
                have HI6 := hid (hp6.to (S' := Old w6) (Kept.refl _ _) New.lt)
                have hle6 := hp6.len_le
                obtain ⟨a6, c6, rfl⟩ := hp6.form
                obtain ⟨ni, hni⟩ : ∃ n, n = (ofP (headP G x)).length := ⟨_, rfl⟩
                rw [← hni] at HI6 hle6 ⊢
                have Hni := hid hni
                clear hni
                clear hx6 hp6
                go_wp2_with fail
                with_reducible refine (H3.out _ _ HI6.out).mono ?_
                rintro e w7 ⟨v7, rfl, hp7, hx7⟩
                have HX7 := hid (HX6.out.trans hx7)
                have HP7 := hid (Terms.on HP6.out hx7)
                have HQ7 := hid (Terms.on HQ6.out hx7)
                have HW7 := hid (hp7.to (S' := Old w7) (Kept.refl _ _) New.lt)
                have hle7 := hp7.len_le
                obtain ⟨a7, c7, rfl⟩ := hp7.form
                obtain ⟨nw, hnw⟩ : ∃ n, n = (ofP I).length := ⟨_, rfl⟩
                rw [← hnw] at HW7 hle7 ⊢
                have Hnw := hid hnw
                clear hnw
                clear hx7 hp7
                go_wp2_with fail
                with_reducible refine (H4.out _ _ _ HW7.out HP7.out).mono ?_
                rintro e w8 ⟨v8, rfl, hp8, hx8⟩
                have HX8 := hid (HX7.out.trans hx8)
                have HQ8 := hid (Terms.on HQ7.out hx8)
                have HV8 := hid (hp8.to (S' := Old w8) (Kept.refl _ _) New.lt)
                have hle8 := hp8.len_le
                obtain ⟨a8, c8, rfl⟩ := hp8.form
                obtain ⟨nv, hnv⟩ : ∃ n, n = (ofP rq).length := ⟨_, rfl⟩
                rw [← hnv] at HV8 hle8 ⊢
                have Hnv := hid hnv
                clear hnv
                clear hx8 hp8
                go_wp2_with fail
                with_reducible refine (H7.out _ _ _ HQ8.out HV8.out).mono ?_
                rintro e w9 ⟨rfl, hx9⟩
                have HX9 := hid (HX8.out.trans hx9)
                have HQ9 := hid (Terms.on HQ8.out hx9)
                have HV9 := hid (Terms.on HV8.out hx9)
                clear hx9
                go_wp2_with fail
                with_reducible refine (law12_known w9).mono ?_
                rintro e w10 ⟨rfl, hx10⟩
                have HX10 := hid (HX9.out.trans hx10)
                clear hx10
                go_wp2
                all_goals
                  go_ret
                  exact ⟨rfl, HX10.out⟩
              · have h8' : (div0 true F G x).e = 8 := h8
                generalize div0 true F G x = R at *
                obtain ⟨re, rq, rr, rn, rs⟩ := R
                simp only at *
                subst h8'
                have HG0 := hid (show Terms (Old w) w _ (ofP G) from HQ.out)
                clear fP fG fF eF eG hF hm1 hm2 HP HQ h8 hok1 hok2 hd
                go_enter Tryz.func5, Tryz.ntmps5
                go_wp2_with fail
                with_reducible refine (HCG.out).mono ?_
                rintro e w1 ⟨rfl, hx1⟩
                have HX1 := hid (HX0.out.trans hx1)
                have HG1 := hid (Terms.on HG0.out hx1)
                clear hx1
                go_wp2_with fail
                with_reducible refine (HCH.out _ HX1.out).mono ?_
                rintro e w2 ⟨rfl, hx2⟩
                have HX2 := hid (HX1.out.trans hx2)
                have HG2 := hid (Terms.on HG1.out hx2)
                clear hx2
                go_wp2_with fail
                with_reducible refine (CT.out _ HX2.out).mono ?_
                rintro e w3 ⟨v3, rfl, hp3, hx3⟩
                have HX3 := hid (HX2.out.trans hx3)
                have HG3 := hid (Terms.on HG2.out hx3)
                have HF3 := hid (hp3.to (S' := Old w3) (Kept.refl _ _) New.lt)
                have hle3 := hp3.len_le
                obtain ⟨a3, c3, rfl⟩ := hp3.form
                obtain ⟨mF, hmF⟩ : ∃ n, n = (ofP F).length := ⟨_, rfl⟩
                rw [← hmF] at HF3 hle3 ⊢
                have HmF := hid hmF
                clear hmF
                clear hx3 hp3
                go_wp2_with fail
                with_reducible refine (CD.out _ _ _ HF3.out HG3.out).mono ?_
                rintro e w4 ⟨uq, ur, rfl, hq1, hr1, hx4⟩
                have HX4 := hid (HX3.out.trans hx4)
                obtain ⟨aq1, cq1, rfl⟩ := hq1.form
                obtain ⟨ar1, cr1, rfl⟩ := hr1.form
                clear hx4 hq1 hr1
                go_wp2_with fail
                with_reducible refine (law12_known w4).mono ?_
                rintro e w5 ⟨rfl, hx5⟩
                have HX5 := hid (HX4.out.trans hx5)
                clear hx5
                go_wp2
                all_goals
                  go_ret
                  exact ⟨rfl, HX5.out⟩
            · have CN := hid (fun (W : World) (u v : Value) (hu : PV W u F) (hv : PV W v G) => divide_no (vm := .pointer none) ⟨_, rfl⟩ hu hv (fF.small (by decide)) (fG.small (by decide)) HXI.out (by rintro ⟨-, -, h1, h2⟩; rw [fG.plain] at h2; exact hok ⟨h1, h2⟩))
              have HG0 := hid (show Terms (Old w) w _ (ofP G) from HQ.out)
              clear fP fG fF eF eG hF hm1 hm2 HP HQ hok1 hok2 hok
              go_enter Tryz.func5, Tryz.ntmps5
              go_wp2_with fail
              with_reducible refine (HCG.out).mono ?_
              rintro e w1 ⟨rfl, hx1⟩
              have HX1 := hid (HX0.out.trans hx1)
              have HG1 := hid (Terms.on HG0.out hx1)
              clear hx1
              go_wp2_with fail
              with_reducible refine (HCH.out _ HX1.out).mono ?_
              rintro e w2 ⟨rfl, hx2⟩
              have HX2 := hid (HX1.out.trans hx2)
              have HG2 := hid (Terms.on HG1.out hx2)
              clear hx2
              go_wp2_with fail
              with_reducible refine (CT.out _ HX2.out).mono ?_
              rintro e w3 ⟨v3, rfl, hp3, hx3⟩
              have HX3 := hid (HX2.out.trans hx3)
              have HG3 := hid (Terms.on HG2.out hx3)
              have HF3 := hid (hp3.to (S' := Old w3) (Kept.refl _ _) New.lt)
              have hle3 := hp3.len_le
              obtain ⟨a3, c3, rfl⟩ := hp3.form
              obtain ⟨mF, hmF⟩ : ∃ n, n = (ofP F).length := ⟨_, rfl⟩
              rw [← hmF] at HF3 hle3 ⊢
              have HmF := hid hmF
              clear hmF
              clear hx3 hp3
              go_wp2_with fail
              with_reducible refine (CN.out _ _ _ HF3.out HG3.out).mono ?_
              rintro e w4 ⟨rfl, hx4⟩
              have HX4 := hid (HX3.out.trans hx4)
              have HG4 := hid (Terms.on HG3.out hx4)
              have HF4 := hid (Terms.on HF3.out hx4)
              clear hx4
              go_wp2_with fail
              with_reducible refine (law12_known w4).mono ?_
              rintro e w5 ⟨rfl, hx5⟩
              have HX5 := hid (HX4.out.trans hx5)
              clear hx5
              go_wp2
              all_goals
                go_ret
                exact ⟨rfl, HX5.out⟩
end Go.Proofs.YtcpfeepnfodifaaGreat

namespace Go.Proofs.YtcpfeepnfodifaaGreat
open Go.RowKit Go.Deep Go.ChangeShapes Go.WideShapes Go.ChangeAt

set_option maxRecDepth 100000 in
theorem int_arg {H : Type} {enc : TypeId × Value → H} {W : World} {base b0 : Nat} {sp : Nat → Bool} {held : Bool} {fuel : Nat} {v : Value} {x : DataW H × List MemPlace} (hv : Value.okWide Tryz.prog W .any base 3 v) (h : DataW.trod enc Tryz.prog W b0 sp held fuel 3 v.cells.toList = some x) : ∃ n, v = .int .i64 n ∧ inI64 n := by
  obtain ⟨n, rfl⟩ := okWide_int Tryz.underlying3 hv
  obtain ⟨m, e, -, hw⟩ := DataW.trod_int Tryz.underlying3 h
  have e' : [Value.int .i64 n] = [.int .i64 m] := e
  obtain rfl : n = m := by simpa using e'
  exact ⟨n, rfl, bounds_i64 hw⟩

set_option maxRecDepth 100000 in
theorem exact_lifted (os : Os) (started : os.Started) (H : Type) (enc : TypeId × Value → H) :
    ReturnsInHanded {} Tryz.checked os 5 .any (Rows.pseudoExactSpec.pre6 enc Tryz.prog Tryz.f5 Rows.pseudoExactRow.domain false) (Rows.pseudoExactSpec.post enc Tryz.prog Tryz.f5 false true false false) := by
  refine returnsInHanded_of_change (C := Tryz.checked) Tryz.own started (by kernel_rfl) Tryz.func5
    (ChangeSpec.witness6 (enc := enc) (C := Tryz.checked) false ⟨#[], #[.slice none 0 0, .slice none 0 0, .int .i64 0], []⟩ 8 (by kernel_rfl) (by kernel_rfl) (by kernel_rfl) (by kernel_rfl)) ?_
  intro W base args ds gs before hval0 hW _ _
  have hval : ∀ (j : Nat) t v, Tryz.f5.params[j]? = some t → args[j]? = some v → Value.okWide Tryz.prog W .any base t v := hval0
  have hW' := hW
  obtain ⟨p, q, hA0, hV, _, _, _⟩ := hW'
  have hA : DataW.TrodAll enc Tryz.prog W 0 (fun _ => true) true Tryz.f5.params.toList args.toList ds p := hA0
  rw [Tryz.params5] at hA hval
  obtain ⟨v0, v1, v2, d0, d1, d2, p0, p1, p2, rfl, rfl, rfl, h0, h1, h2⟩ := trodAll_three hA
  obtain ⟨rfl, rfl⟩ := trodVars_none hV
  obtain ⟨fuel0, hf0⟩ := h0
  rw [slice_cells Tryz.underlying23 (hval 0 _ v0 rfl rfl)] at hf0
  obtain ⟨x0, hx0⟩ := open_terms hf0
  obtain ⟨fuel1, hf1⟩ := h1
  rw [slice_cells Tryz.underlying23 (hval 1 _ v1 rfl rfl)] at hf1
  obtain ⟨x1, hx1⟩ := open_terms hf1
  obtain ⟨fuel2, hf2⟩ := h2
  obtain ⟨y2, rfl, hy2⟩ := int_arg (hval 2 _ v2 rfl rfl) hf2
  refine (law_exact v0 v1 x0 x1 y2 W hx0 hx1 hy2).mono fun e W' h => ?_
  obtain ⟨rfl, hb⟩ := h
  exact ⟨_, rfl, law_post hW rfl rfl rfl (by rw [Tryz.params5]; intro t ht; simp at ht; rcases ht with rfl | rfl <;> exact ⟨by kernel_rfl, by decide +kernel⟩) hb⟩

theorem exact_holds : Rows.PseudoExactSaid :=
  OpenClaim.holds_of_wide 5 Tryz.f5 rfl rfl rfl rfl rfl rfl rfl ⟨rfl, rfl, rfl, rfl, rfl⟩ rfl rfl rfl rfl rfl (by kernel_rfl) Tryz.func5 (by kernel_rfl)
    (of_decide_eq_true (by kernel_rfl)) (by unfold Func.isWrapper; first | (rw [if_pos (by decide +kernel)]; kernel_rfl) | (rw [if_neg (by decide +kernel)]; exact ⟨rfl, rfl⟩))
    (fun os started H enc _ => exact_lifted os started H enc)
end Go.Proofs.YtcpfeepnfodifaaGreat
