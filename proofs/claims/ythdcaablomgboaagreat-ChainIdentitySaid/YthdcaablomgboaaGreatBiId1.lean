/- ChainIdentity holds: whether any data are an identity is the document's; the law answers true, and its arguments read as they did. No condition. -/
import Derived.Test.YthdcaablomgboaaGreatBi10
namespace Go.Proofs.YthdcaablomgboaaGreat
open Go.RowKit Go.Deep

theorem polys_ok {w : World} {v : Value} {ls : List (List RTerm)} (h : Polys (Old w) w v ls) (hm : ls.all mayT = true) : ∀ p ∈ ls, okT p ∧ p = ofP (plainP p) := fun p hp => by
  obtain ⟨j, hj⟩ := List.getElem?_of_mem hp
  obtain ⟨b, off, -, hc⟩ := h
  obtain ⟨vp, -, ht⟩ := hc j p hj
  exact ⟨ht.okT, pv_of ht (List.all_eq_true.1 hm p hp)⟩
theorem fitL16 {ls : List (List RTerm)} (h : (∀ p ∈ ls, big16 p = false) ∧ ls.length ≤ 5) : (∀ p ∈ ls, fitT p) ∧ ls.length ≤ 1000000 := ⟨fun p hp => fitT16 (h.1 p hp), Nat.le_trans h.2 (by decide)⟩

theorem shape_no1 {f rs : List RTerm} {l cs : List (List RTerm)} {ns : List Int} (h : (f :: l).all mayT = false) : shapeC f l ns cs rs = false := by
  unfold shapeC
  rw [List.all_cons] at h
  generalize mayT f = a at h ⊢
  generalize l.all mayT = b at h ⊢
  cases a <;> cases b <;> simp at h ⊢
theorem shape_no2 {f rs : List RTerm} {l cs : List (List RTerm)} {ns : List Int} (h : (rs :: cs).all mayT = false) : shapeC f l ns cs rs = false := by
  unfold shapeC
  rw [List.all_cons] at h
  generalize mayT rs = a at h ⊢
  generalize cs.all mayT = b at h ⊢
  cases a <;> cases b <;> simp at h ⊢

set_option maxRecDepth 100000 in
set_option maxHeartbeats 16000000 in
theorem law_identity16 {W : World} {vf vl vp vc vr : Value} {f rs : List RTerm} {l cs : List (List RTerm)} {ns : List Int} (hf : Terms (Old W) W vf f) (hl : Polys (Old W) W vl l) (hp : Ints (Old W) W vp ns) (hc : Polys (Old W) W vc cs) (hr : Terms (Old W) W vr rs)
    (ml : l.length ≤ 5864062014800) (mc : cs.length ≤ 5864062014800) :
    Calls Tryz.prog 3 #[vf, vl, .agg #[vp, vc, vr]] W fun e W' => e = .returned (.bool true) ∧ Ext W W' := by
  have HF := hid hf
  have HL := hid hl
  have HP := hid hp
  have HC := hid hc
  have HR := hid hr
  obtain ⟨af, cf, rfl⟩ := hf.form
  obtain ⟨al, cl, rfl⟩ := hl.form
  obtain ⟨ap, cp, rfl⟩ := hp.form
  obtain ⟨ac, cc, rfl⟩ := hc.form
  obtain ⟨ar, cr, rfl⟩ := hr.form
  have hpl := hp.len_le
  obtain ⟨nf, hnf⟩ : ∃ n, n = f.length := ⟨_, rfl⟩
  obtain ⟨nl, hnl⟩ : ∃ n, n = l.length := ⟨_, rfl⟩
  obtain ⟨np, hnp⟩ : ∃ n, n = ns.length := ⟨_, rfl⟩
  obtain ⟨nc, hnc⟩ : ∃ n, n = cs.length := ⟨_, rfl⟩
  obtain ⟨nr, hnr⟩ : ∃ n, n = rs.length := ⟨_, rfl⟩
  rw [← hnf] at HF ⊢
  rw [← hnl] at HL ml ⊢
  rw [← hnp] at HP hpl ⊢
  rw [← hnc] at HC mc ⊢
  rw [← hnr] at HR ⊢
  have HN := hid (And.intro hnf (And.intro hnl (And.intro hnp (And.intro hnc hnr))))
  have j0 : (W.alloc (.cells #[.slice ap np cp, .slice ac nc cc, .slice ar nr cr] 27)).cell? ⟨W.heap.size, 0, none⟩ = some (.slice ap np cp) := cell_new _ _ _ rfl rfl
  have j1 : (W.alloc (.cells #[.slice ap np cp, .slice ac nc cc, .slice ar nr cr] 27)).cell? ⟨W.heap.size, 1, none⟩ = some (.slice ac nc cc) := cell_new _ _ _ rfl rfl
  have j2 : (W.alloc (.cells #[.slice ap np cp, .slice ac nc cc, .slice ar nr cr] 27)).cell? ⟨W.heap.size, 2, none⟩ = some (.slice ar nr cr) := cell_new _ _ _ rfl rfl
  have HX0 := hid (Ext.alloc (Ext.refl W) (.cells #[.slice ap np cp, .slice ac nc cc, .slice ar nr cr] 27))
  obtain ⟨w0, hw0⟩ : ∃ Y, Y = W.alloc (.cells #[.slice ap np cp, .slice ac nc cc, .slice ar nr cr] 27) := ⟨_, rfl⟩
  have HW0 := hid hw0
  rw [← hw0] at j0 j1 j2 HX0
  have HJ := hid (And.intro j0 (And.intro j1 j2))
  have HF0 := hid (Terms.on HF.out HX0.out)
  have HL0 := hid (Polys.on HL.out HX0.out)
  have HML := hid ml
  have HMC := hid mc
  clear hf hl hp hc hr hnf hnl hnp hnc hnr hw0 j0 j1 j2
  go_enter Tryz.func3, Tryz.ntmps3
  go_upto_region 1 with fail
  rw [← HW0.out]
  go_wp2_with (first | (at_builtin; refine wpList_append_cons _ rfl (.tmp 15) (.tmp 16) rfl (.slice af nf cf) al nl cl f l rfl rfl HF0.out HL0.out (fun _ h => h) HML.out ?_; intro v1 w1 hp1 hx1; have HP1 := hid (hp1.to (S' := Old w1) (Kept.refl _ _) (plus_lt (fun _ h => h) hx1)); have HX1 := hid hx1; obtain ⟨a1, c1, rfl⟩ := hp1.form; obtain ⟨n1, hn1⟩ : ∃ n, n = (f :: l).length := ⟨_, rfl⟩; rw [← hn1] at HP1; rw [← hn1]; clear hp1 hx1 hn1))
  cases hg : great16 (f :: l) with
  | true =>
    have C := law16_great (S := Old w1) _ _ HP1.out (fun _ h => h)
    rw [hg] at C
    have HC1 := hid C
    clear C hg
    with_reducible refine HC1.out.mono ?_
    rintro e w2 ⟨rfl, hx2⟩
    have HX2 := hid (HX0.out.trans (HX1.out.trans hx2))
    clear hx2
    go_wp2_with fail
    with_reducible refine (law16_known _).mono ?_
    rintro e w3 ⟨rfl, hx3⟩
    have HX3 := hid (HX2.out.trans hx3)
    clear hx3
    go_wp2
    all_goals
      go_ret
      exact ⟨rfl, HX3.out⟩
  | false =>
    have HG1 := hid (great16_no hg)
    have C := law16_great (S := Old w1) _ _ HP1.out (fun _ h => h)
    rw [hg] at C
    have HC1 := hid C
    clear C hg
    with_reducible refine HC1.out.mono ?_
    rintro e w2 ⟨rfl, hx2⟩
    have HX2 := hid (HX0.out.trans (HX1.out.trans hx2))
    have HY2 := hid (HX1.out.trans hx2)
    clear hx2
    have j1 := HY2.out.cell HJ.out.2.1
    have j2 := HY2.out.cell HJ.out.2.2
    have j1a := cell_old (.cells #[.slice ar nr cr] 23) j1
    have HR2 := hid (Terms.on HR.out HX2.out)
    have HC2 := hid (Polys.on HC.out HX2.out)
    go_wp2_with (first | (at_builtin; refine wpList_append_cons _ rfl (.tmp 22) (.tmp 24) rfl (.slice ar nr cr) ac nc cc rs cs rfl rfl HR2.out HC2.out (fun _ h => h) HMC.out ?_; intro v3 w3 hp3 hx3; have HP3 := hid (hp3.to (S' := Old w3) (Kept.refl _ _) (plus_lt (fun _ h => h) hx3)); have HX3 := hid hx3; obtain ⟨a3, c3, rfl⟩ := hp3.form; obtain ⟨n3, hn3⟩ : ∃ n, n = (rs :: cs).length := ⟨_, rfl⟩; rw [← hn3] at HP3; rw [← hn3]; clear hp3 hx3 hn3))
    cases hg : great16 (rs :: cs) with
    | true =>
      have C := law16_great (S := Old w3) _ _ HP3.out (fun _ h => h)
      rw [hg] at C
      have HC3 := hid C
      clear C hg
      with_reducible refine HC3.out.mono ?_
      rintro e w4 ⟨rfl, hx4⟩
      have HX4 := hid (HX2.out.trans (HX3.out.trans hx4))
      clear hx4 j1 j2 j1a
      go_wp2_with fail
      with_reducible refine (law16_known _).mono ?_
      rintro e w5 ⟨rfl, hxk⟩
      have HXK := hid (HX4.out.trans hxk)
      clear hxk
      go_wp2
      all_goals
        go_ret
        exact ⟨rfl, HXK.out⟩
    | false =>
      have HG2 := hid (great16_no hg)
      have C := law16_great (S := Old w3) _ _ HP3.out (fun _ h => h)
      rw [hg] at C
      have HC3 := hid C
      clear C hg
      with_reducible refine HC3.out.mono ?_
      rintro e w4 ⟨rfl, hx4⟩
      have HX4 := hid (HX2.out.trans (HX3.out.trans hx4))
      have HJ4 := hid (And.intro ((HY2.out.trans (HX3.out.trans hx4)).cell HJ.out.1) (And.intro ((HY2.out.trans (HX3.out.trans hx4)).cell HJ.out.2.1) ((HY2.out.trans (HX3.out.trans hx4)).cell HJ.out.2.2)))
      clear hx4 j1 j2 j1a
      have j0 := HJ4.out.1
      by_cases h5 : 5 < np
      · have q5 : decide (5 < (np : Int)) = true := decide_eq_true (by omega)
        clear h5
        go_wp2_with fail
        with_reducible refine (law16_known _).mono ?_
        rintro e w5 ⟨rfl, hxk⟩
        have HXK := hid (HX4.out.trans hxk)
        clear hxk
        go_wp2
        all_goals
          go_ret
          exact ⟨rfl, HXK.out⟩
      · have hle : (np : Int) ≤ 5 := by omega
        have HN5 := hid h5
        clear h5
        go_wp2
        go_loopw [38] (fun i wr => ∃ k : Nat, k ≤ np ∧ i = .int .i64 k ∧ Ext w4 wr ∧ Hid (∀ j, j < k → ns.getD j 0 ≤ 3 ∨ 100 < ns.getD j 0)) (fun i _ => np - (intOf i).toNat)
        case atStart => exact ⟨0, Nat.zero_le _, rfl, Ext.refl _, hid (fun j hj => absurd hj (Nat.not_lt_zero _))⟩
        case round =>
          obtain ⟨k, hk, rfl, hx, HB⟩ := hrel
          have HX := hid (HX4.out.trans hx)
          have HXR := hid hx
          have HJr := hid (And.intro (hx.cell HJ4.out.1) (And.intro (hx.cell HJ4.out.2.1) (hx.cell HJ4.out.2.2)))
          by_cases hlt : k < np
          · obtain ⟨bp, op, rfl, -, hp1, hp2, -, hin, hcell⟩ := (HP.out.to (Kept.ext HX.out (fun _ h => h)) (fun _ h => h)).cellAt (ints_get (k := k) (by rw [← HN.out.2.2.1]; exact hlt))
            have HNK : Hid (∀ j, j < k + 1 → j = k ∨ j < k) := hid (fun j h => by omega)
            obtain ⟨z, hz⟩ : ∃ z, z = ns.getD k 0 := ⟨_, rfl⟩
            rw [← hz] at hcell hin
            have HZ := hid hz
            obtain ⟨hi1, hi2⟩ := hin
            clear hx hz j0
            by_cases hz3 : 3 < z
            · by_cases hz4 : z ≤ 100
              · go_wp2_with fail
                with_reducible refine (law16_known _).mono ?_
                rintro e w5 ⟨rfl, hxk⟩
                have HXK := hid (HX.out.trans hxk)
                clear hxk
                go_wp2
                all_goals
                  go_ret
                  exact ⟨rfl, HXK.out⟩
              · have hz5 : 100 < z := by omega
                have HZ5 := hid hz5
                clear hz4
                go_wp2
                go_roundw
                case rel => exact ⟨k + 1, by omega, by go_num, HXR.out, hid (fun j hj => (HNK.out j hj).elim (fun h => .inr (by rw [h, ← HZ.out]; exact HZ5.out)) (fun h => HB.out j h))⟩
                case measure => simp only [intOf]; omega
            · have hz5 : z ≤ 3 := by omega
              have HZ5 := hid hz5
              clear hz3
              go_wp2
              go_roundw
              case rel => exact ⟨k + 1, by omega, by go_num, HXR.out, hid (fun j hj => (HNK.out j hj).elim (fun h => .inl (by rw [h, ← HZ.out]; exact HZ5.out)) (fun h => HB.out j h))⟩
              case measure => simp only [intOf]; omega
          · obtain rfl : k = np := by omega
            clear hx j0
            have HFr := hid (Terms.on HF.out HX.out)
            have HLr := hid (Polys.on HL.out HX.out)
            have HG3 := hid (fitL16 HG1.out)
            have HG4 := hid (fitL16 HG2.out)
            go_wp2_with (first | (at_builtin; refine wpList_append_cons _ rfl (.tmp 52) (.tmp 53) rfl (.slice af nf cf) al nl cl f l rfl rfl HFr.out HLr.out (fun _ h => h) HML.out ?_; intro v6 w6 hp6 hx6; have HP6 := hid (hp6.to (S' := Old w6) (Kept.refl _ _) (plus_lt (fun _ h => h) hx6)); have HX6 := hid hx6; obtain ⟨a6, c6, rfl⟩ := hp6.form; obtain ⟨n6, hn6⟩ : ∃ n, n = (f :: l).length := ⟨_, rfl⟩; rw [← hn6] at HP6; rw [← hn6]; clear hp6 hx6 hn6))
            have HPL1 := hid (ref_plain16 (S := Old w6) _ _ w6 HP6.out (fun _ h => h) HG3.out.1 HG3.out.2)
            obtain ⟨ba, hba⟩ : ∃ b, b = (f :: l).all mayT := ⟨_, rfl⟩
            rw [← hba] at HPL1
            have HBA := hid hba
            clear hba
            with_reducible refine HPL1.out.mono ?_
            rintro e w7 ⟨vw, rfl, hw7, hx7⟩
            have HW7 := hid hw7
            have HXP7 := hid hx7
            have HX7 := hid (HX.out.trans (HX6.out.trans hx7))
            have HY7 := hid (HX6.out.trans hx7)
            clear hw7 hx7
            have HJ7 := hid (And.intro ((HXR.out.trans HY7.out).cell HJ4.out.1) (And.intro ((HXR.out.trans HY7.out).cell HJ4.out.2.1) ((HXR.out.trans HY7.out).cell HJ4.out.2.2)))
            have j1 := HJ7.out.2.1
            have j2 := HJ7.out.2.2
            have j1a := cell_old (.cells #[.slice ar nr cr] 23) j1
            have HR7 := hid (Terms.on HR.out HX7.out)
            have HC7 := hid (Polys.on HC.out HX7.out)
            go_wp2_with (first | (at_builtin; refine wpList_append_cons _ rfl (.tmp 61) (.tmp 63) rfl (.slice ar nr cr) ac nc cc rs cs rfl rfl HR7.out HC7.out (fun _ h => h) HMC.out ?_; intro v8 w8 hp8 hx8; have HP8 := hid (hp8.to (S' := Old w8) (Kept.refl _ _) (plus_lt (fun _ h => h) hx8)); have HX8 := hid hx8; obtain ⟨a8, c8, rfl⟩ := hp8.form; obtain ⟨n8, hn8⟩ : ∃ n, n = (rs :: cs).length := ⟨_, rfl⟩; rw [← hn8] at HP8; rw [← hn8]; clear hp8 hx8 hn8))
            have HPL2 := hid (ref_plain16 (S := Old w8) _ _ w8 HP8.out (fun _ h => h) HG4.out.1 HG4.out.2)
            obtain ⟨bb, hbb⟩ : ∃ b, b = (rs :: cs).all mayT := ⟨_, rfl⟩
            rw [← hbb] at HPL2
            have HBB := hid hbb
            clear hbb
            with_reducible refine HPL2.out.mono ?_
            rintro e w9 ⟨vc9, rfl, hc9, hx9⟩
            have HC9 := hid hc9
            have HXP9 := hid hx9
            have HX9 := hid (HX7.out.trans (HX8.out.trans hx9))
            have HY9 := hid (HX8.out.trans hx9)
            have HJ9 := hid (And.intro (HY9.out.cell HJ7.out.1) (And.intro (HY9.out.cell HJ7.out.2.1) (HY9.out.cell HJ7.out.2.2)))
            clear hc9 hx9 j1 j2 j1a
            have j0 := HJ9.out.1
            have HSM : Hid (smallT f ∧ smallT rs ∧ smallL l ∧ smallL cs) := hid ⟨small16 (HG1.out.1 f (List.mem_cons_self)), small16 (HG2.out.1 rs (List.mem_cons_self)), fun p hp => small16 (HG1.out.1 p (List.mem_cons_of_mem _ hp)), fun p hp => small16 (HG2.out.1 p (List.mem_cons_of_mem _ hp))⟩
            cases ba with
            | false =>
              have HSH : Hid (shapeC f l ns cs rs = false) := hid (shape_no1 HBA.out.symm)
              go_wp2
              refine wp_region_held_drew (S := fun _ => True) (by kernel_rfl) trivial (fun hHeld => ?_)
              refine wpAnyH_take (i := 0) (v := ?vv1) (by simp only [List.getElem?_toArray, List.getElem?_cons_zero]; rfl) (by kernel_rfl) (by kernel_rfl) (by kernel_rfl) (by intro _ _ _ h; exact h) (Or.inl ⟨by rfl, ?hy1⟩) hHeld ?rest1
              case hy1 => (intro w hSw; (try dsimp only at hSw); go_simp; first | done | with_reducible rfl)
              (try simp only [Act.put, List.setIfInBounds_toArray, List.set_cons_zero, List.set_cons_succ])
              refine wpAnyH_take (i := 1) (v := ?vv2) (by simp only [List.getElem?_toArray, List.getElem?_cons_succ, List.getElem?_cons_zero]; rfl) (by kernel_rfl) (by kernel_rfl) (by kernel_rfl) (by intro _ _ _ h; exact h) (Or.inl ⟨by rfl, ?hy2⟩) hHeld ?rest2
              case hy2 => (intro w hSw; (try dsimp only at hSw); go_simp; first | done | with_reducible rfl)
              (try simp only [Act.put, List.setIfInBounds_toArray, List.set_cons_zero, List.set_cons_succ])
              refine wpAnyH_take (i := 2) (v := undef) (by simp only [List.getElem?_toArray, List.getElem?_cons_succ, List.getElem?_cons_zero]; rfl) (by kernel_rfl) (by kernel_rfl) (by kernel_rfl) (by intro _ _ _ h; exact h) (Or.inr ⟨by rfl, rfl⟩) hHeld ?_
              (try simp only [Act.put, List.setIfInBounds_toArray, List.set_cons_zero, List.set_cons_succ])
              refine wpAnyH_take (i := 3) (v := ?vv3) (by simp only [List.getElem?_toArray, List.getElem?_cons_succ, List.getElem?_cons_zero]; rfl) (by kernel_rfl) (by kernel_rfl) (by kernel_rfl) (by intro _ _ _ h; exact h) (Or.inl ⟨by rfl, ?hy3⟩) hHeld ?rest3
              case hy3 => (intro w hSw; (try dsimp only at hSw); go_simp; first | done | with_reducible rfl)
              (try simp only [Act.put, List.setIfInBounds_toArray, List.set_cons_zero, List.set_cons_succ])
              refine wpAnyH_take (i := 4) (v := ?vv4) (by simp only [List.getElem?_toArray, List.getElem?_cons_succ, List.getElem?_cons_zero]; rfl) (by kernel_rfl) (by kernel_rfl) (by kernel_rfl) (by intro _ _ _ h; exact h) (Or.inl ⟨by rfl, ?hy4⟩) hHeld ?rest4
              case hy4 => (intro w hSw; (try dsimp only at hSw); go_simp; first | done | with_reducible rfl)
              (try simp only [Act.put, List.setIfInBounds_toArray, List.set_cons_zero, List.set_cons_succ])
              refine wpAnyH_take (i := 5) (v := undef) (by simp only [List.getElem?_toArray, List.getElem?_cons_succ, List.getElem?_cons_zero]; rfl) (by kernel_rfl) (by kernel_rfl) (by kernel_rfl) (by intro _ _ _ h; exact h) (Or.inr ⟨by rfl, rfl⟩) hHeld ?_
              (try simp only [Act.put, List.setIfInBounds_toArray, List.set_cons_zero, List.set_cons_succ])
              refine wpAnyH_take (i := 6) (v := undef) (by simp only [List.getElem?_toArray, List.getElem?_cons_succ, List.getElem?_cons_zero]; rfl) (by kernel_rfl) (by kernel_rfl) (by kernel_rfl) (by intro _ _ _ h; exact h) (Or.inr ⟨by rfl, rfl⟩) hHeld ?_
              (try simp only [Act.put, List.setIfInBounds_toArray, List.set_cons_zero, List.set_cons_succ])
              refine wpAnyH_take (i := 7) (v := undef) (by simp only [List.getElem?_toArray, List.getElem?_cons_succ, List.getElem?_cons_zero]; rfl) (by kernel_rfl) (by kernel_rfl) (by kernel_rfl) (by intro _ _ _ h; exact h) (Or.inr ⟨by rfl, rfl⟩) hHeld ?_
              (try simp only [Act.put, List.setIfInBounds_toArray, List.set_cons_zero, List.set_cons_succ])
              refine wpAnyH_take (i := 8) (v := undef) (by simp only [List.getElem?_toArray, List.getElem?_cons_succ, List.getElem?_cons_zero]; rfl) (by kernel_rfl) (by kernel_rfl) (by kernel_rfl) (by intro _ _ _ h; exact h) (Or.inr ⟨by rfl, rfl⟩) hHeld ?_
              (try simp only [Act.put, List.setIfInBounds_toArray, List.set_cons_zero, List.set_cons_succ])
              refine wpAnyH_take (i := 9) (v := undef) (by simp only [List.getElem?_toArray, List.getElem?_cons_succ, List.getElem?_cons_zero]; rfl) (by kernel_rfl) (by kernel_rfl) (by kernel_rfl) (by intro _ _ _ h; exact h) (Or.inr ⟨by rfl, rfl⟩) hHeld ?_
              (try simp only [Act.put, List.setIfInBounds_toArray, List.set_cons_zero, List.set_cons_succ])
              refine wpAnyH_take (i := 10) (v := undef) (by simp only [List.getElem?_toArray, List.getElem?_cons_succ, List.getElem?_cons_zero]; rfl) (by kernel_rfl) (by kernel_rfl) (by kernel_rfl) (by intro _ _ _ h; exact h) (Or.inr ⟨by rfl, rfl⟩) hHeld ?_
              (try simp only [Act.put, List.setIfInBounds_toArray, List.set_cons_zero, List.set_cons_succ])
              refine wpAnyH_take (i := 11) (v := undef) (by simp only [List.getElem?_toArray, List.getElem?_cons_succ, List.getElem?_cons_zero]; rfl) (by kernel_rfl) (by kernel_rfl) (by kernel_rfl) (by intro _ _ _ h; exact h) (Or.inr ⟨by rfl, rfl⟩) hHeld ?_
              (try simp only [Act.put, List.setIfInBounds_toArray, List.set_cons_zero, List.set_cons_succ])
              refine wpAnyH_take (i := 12) (v := undef) (by simp only [List.getElem?_toArray, List.getElem?_cons_succ, List.getElem?_cons_zero]; rfl) (by kernel_rfl) (by kernel_rfl) (by kernel_rfl) (by intro _ _ _ h; exact h) (Or.inr ⟨by rfl, rfl⟩) hHeld ?_
              (try simp only [Act.put, List.setIfInBounds_toArray, List.set_cons_zero, List.set_cons_succ])
              refine wpAnyH_take (i := 13) (v := undef) (by simp only [List.getElem?_toArray, List.getElem?_cons_succ, List.getElem?_cons_zero]; rfl) (by kernel_rfl) (by kernel_rfl) (by kernel_rfl) (by intro _ _ _ h; exact h) (Or.inr ⟨by rfl, rfl⟩) hHeld ?_
              (try simp only [Act.put, List.setIfInBounds_toArray, List.set_cons_zero, List.set_cons_succ])
              refine wpAnyH_take (i := 14) (v := undef) (by simp only [List.getElem?_toArray, List.getElem?_cons_succ, List.getElem?_cons_zero]; rfl) (by kernel_rfl) (by kernel_rfl) (by kernel_rfl) (by intro _ _ _ h; exact h) (Or.inr ⟨by rfl, rfl⟩) hHeld ?_
              (try simp only [Act.put, List.setIfInBounds_toArray, List.set_cons_zero, List.set_cons_succ])
              refine wpAnyH_take (i := 15) (v := undef) (by simp only [List.getElem?_toArray, List.getElem?_cons_succ, List.getElem?_cons_zero]; rfl) (by kernel_rfl) (by kernel_rfl) (by kernel_rfl) (by intro _ _ _ h; exact h) (Or.inr ⟨by rfl, rfl⟩) hHeld ?_
              (try simp only [Act.put, List.setIfInBounds_toArray, List.set_cons_zero, List.set_cons_succ])
              refine wpAnyH_take (i := 16) (v := undef) (by simp only [List.getElem?_toArray, List.getElem?_cons_succ, List.getElem?_cons_zero]; rfl) (by kernel_rfl) (by kernel_rfl) (by kernel_rfl) (by intro _ _ _ h; exact h) (Or.inr ⟨by rfl, rfl⟩) hHeld ?_
              (try simp only [Act.put, List.setIfInBounds_toArray, List.set_cons_zero, List.set_cons_succ])
              refine wpAnyH_take (i := 17) (v := undef) (by simp only [List.getElem?_toArray, List.getElem?_cons_succ, List.getElem?_cons_zero]; rfl) (by kernel_rfl) (by kernel_rfl) (by kernel_rfl) (by intro _ _ _ h; exact h) (Or.inr ⟨by rfl, rfl⟩) hHeld ?_
              (try simp only [Act.put, List.setIfInBounds_toArray, List.set_cons_zero, List.set_cons_succ])
              refine wpAnyH_take (i := 18) (v := undef) (by simp only [List.getElem?_toArray, List.getElem?_cons_succ, List.getElem?_cons_zero]; rfl) (by kernel_rfl) (by kernel_rfl) (by kernel_rfl) (by intro _ _ _ h; exact h) (Or.inr ⟨by rfl, rfl⟩) hHeld ?_
              (try simp only [Act.put, List.setIfInBounds_toArray, List.set_cons_zero, List.set_cons_succ])
              refine wpAnyH_take (i := 19) (v := ?vv5) (by simp only [List.getElem?_toArray, List.getElem?_cons_succ, List.getElem?_cons_zero]; rfl) (by kernel_rfl) (by kernel_rfl) (by kernel_rfl) (by intro _ _ _ h; exact h) (Or.inl ⟨by rfl, ?hy5⟩) hHeld ?rest5
              case hy5 => (intro w hSw; (try dsimp only at hSw); go_simp; first | done | with_reducible rfl)
              (try simp only [Act.put, List.setIfInBounds_toArray, List.set_cons_zero, List.set_cons_succ])
              refine wpAnyH_take (i := 20) (v := ?vv6) (by simp only [List.getElem?_toArray, List.getElem?_cons_succ, List.getElem?_cons_zero]; rfl) (by kernel_rfl) (by kernel_rfl) (by kernel_rfl) (by intro _ _ _ h; exact h) (Or.inl ⟨by rfl, ?hy6⟩) hHeld ?rest6
              case hy6 => (intro w hSw; (try dsimp only at hSw); go_simp; first | done | with_reducible rfl)
              (try simp only [Act.put, List.setIfInBounds_toArray, List.set_cons_zero, List.set_cons_succ])
              refine wpAnyH_done (by kernel_rfl) ?_ _
              have j1 := HJ9.out.2.1
              have j2 := HJ9.out.2.2
              have HNO := hid (chain_identity_no (W := w9.drew) (Terms.on HF.out HX9.out.drew) (Polys.on HL.out HX9.out.drew) (HP.out.to (Kept.ext HX9.out.drew (fun _ h => h)) (old_lt HX9.out.drew)) (Polys.on HC.out HX9.out.drew) (Terms.on HR.out HX9.out.drew) HSM.out.1 HSM.out.2.1 HSM.out.2.2.1 HSM.out.2.2.2 HSH.out)
              go_wp2_with fail
              with_reducible refine HNO.out.mono ?_
              rintro e w10 ⟨rfl, hx10⟩
              have HX10 := hid (HX9.out.drew.trans hx10)
              clear hx10
              go_wp2_with fail
              with_reducible refine (law16_known _).mono ?_
              rintro e w11 ⟨rfl, hx11⟩
              have HX11 := hid (HX10.out.trans hx11)
              clear hx11
              go_wp2
              all_goals
                go_ret
                exact ⟨rfl, HX11.out⟩
            | true =>
              cases bb with
              | false =>
                have HSH : Hid (shapeC f l ns cs rs = false) := hid (shape_no2 HBB.out.symm)
                go_wp2
                refine wp_region_held_drew (S := fun _ => True) (by kernel_rfl) trivial (fun hHeld => ?_)
                refine wpAnyH_take (i := 0) (v := ?vv101) (by simp only [List.getElem?_toArray, List.getElem?_cons_zero]; rfl) (by kernel_rfl) (by kernel_rfl) (by kernel_rfl) (by intro _ _ _ h; exact h) (Or.inl ⟨by rfl, ?hy101⟩) hHeld ?rest101
                case hy101 => (intro w hSw; (try dsimp only at hSw); go_simp; first | done | with_reducible rfl)
                (try simp only [Act.put, List.setIfInBounds_toArray, List.set_cons_zero, List.set_cons_succ])
                refine wpAnyH_take (i := 1) (v := ?vv102) (by simp only [List.getElem?_toArray, List.getElem?_cons_succ, List.getElem?_cons_zero]; rfl) (by kernel_rfl) (by kernel_rfl) (by kernel_rfl) (by intro _ _ _ h; exact h) (Or.inl ⟨by rfl, ?hy102⟩) hHeld ?rest102
                case hy102 => (intro w hSw; (try dsimp only at hSw); go_simp; first | done | with_reducible rfl)
                (try simp only [Act.put, List.setIfInBounds_toArray, List.set_cons_zero, List.set_cons_succ])
                refine wpAnyH_take (i := 2) (v := ?vv103) (by simp only [List.getElem?_toArray, List.getElem?_cons_succ, List.getElem?_cons_zero]; rfl) (by kernel_rfl) (by kernel_rfl) (by kernel_rfl) (by intro _ _ _ h; exact h) (Or.inl ⟨by rfl, ?hy103⟩) hHeld ?rest103
                case hy103 => (intro w hSw; (try dsimp only at hSw); go_simp; first | done | with_reducible rfl)
                (try simp only [Act.put, List.setIfInBounds_toArray, List.set_cons_zero, List.set_cons_succ])
                refine wpAnyH_take (i := 3) (v := ?vv104) (by simp only [List.getElem?_toArray, List.getElem?_cons_succ, List.getElem?_cons_zero]; rfl) (by kernel_rfl) (by kernel_rfl) (by kernel_rfl) (by intro _ _ _ h; exact h) (Or.inl ⟨by rfl, ?hy104⟩) hHeld ?rest104
                case hy104 => (intro w hSw; (try dsimp only at hSw); go_simp; first | done | with_reducible rfl)
                (try simp only [Act.put, List.setIfInBounds_toArray, List.set_cons_zero, List.set_cons_succ])
                refine wpAnyH_take (i := 4) (v := ?vv105) (by simp only [List.getElem?_toArray, List.getElem?_cons_succ, List.getElem?_cons_zero]; rfl) (by kernel_rfl) (by kernel_rfl) (by kernel_rfl) (by intro _ _ _ h; exact h) (Or.inl ⟨by rfl, ?hy105⟩) hHeld ?rest105
                case hy105 => (intro w hSw; (try dsimp only at hSw); go_simp; first | done | with_reducible rfl)
                (try simp only [Act.put, List.setIfInBounds_toArray, List.set_cons_zero, List.set_cons_succ])
                refine wpAnyH_take (i := 5) (v := undef) (by simp only [List.getElem?_toArray, List.getElem?_cons_succ, List.getElem?_cons_zero]; rfl) (by kernel_rfl) (by kernel_rfl) (by kernel_rfl) (by intro _ _ _ h; exact h) (Or.inr ⟨by rfl, rfl⟩) hHeld ?_
                (try simp only [Act.put, List.setIfInBounds_toArray, List.set_cons_zero, List.set_cons_succ])
                refine wpAnyH_take (i := 6) (v := undef) (by simp only [List.getElem?_toArray, List.getElem?_cons_succ, List.getElem?_cons_zero]; rfl) (by kernel_rfl) (by kernel_rfl) (by kernel_rfl) (by intro _ _ _ h; exact h) (Or.inr ⟨by rfl, rfl⟩) hHeld ?_
                (try simp only [Act.put, List.setIfInBounds_toArray, List.set_cons_zero, List.set_cons_succ])
                refine wpAnyH_take (i := 7) (v := undef) (by simp only [List.getElem?_toArray, List.getElem?_cons_succ, List.getElem?_cons_zero]; rfl) (by kernel_rfl) (by kernel_rfl) (by kernel_rfl) (by intro _ _ _ h; exact h) (Or.inr ⟨by rfl, rfl⟩) hHeld ?_
                (try simp only [Act.put, List.setIfInBounds_toArray, List.set_cons_zero, List.set_cons_succ])
                refine wpAnyH_take (i := 8) (v := undef) (by simp only [List.getElem?_toArray, List.getElem?_cons_succ, List.getElem?_cons_zero]; rfl) (by kernel_rfl) (by kernel_rfl) (by kernel_rfl) (by intro _ _ _ h; exact h) (Or.inr ⟨by rfl, rfl⟩) hHeld ?_
                (try simp only [Act.put, List.setIfInBounds_toArray, List.set_cons_zero, List.set_cons_succ])
                refine wpAnyH_take (i := 9) (v := undef) (by simp only [List.getElem?_toArray, List.getElem?_cons_succ, List.getElem?_cons_zero]; rfl) (by kernel_rfl) (by kernel_rfl) (by kernel_rfl) (by intro _ _ _ h; exact h) (Or.inr ⟨by rfl, rfl⟩) hHeld ?_
                (try simp only [Act.put, List.setIfInBounds_toArray, List.set_cons_zero, List.set_cons_succ])
                refine wpAnyH_take (i := 10) (v := undef) (by simp only [List.getElem?_toArray, List.getElem?_cons_succ, List.getElem?_cons_zero]; rfl) (by kernel_rfl) (by kernel_rfl) (by kernel_rfl) (by intro _ _ _ h; exact h) (Or.inr ⟨by rfl, rfl⟩) hHeld ?_
                (try simp only [Act.put, List.setIfInBounds_toArray, List.set_cons_zero, List.set_cons_succ])
                refine wpAnyH_take (i := 11) (v := undef) (by simp only [List.getElem?_toArray, List.getElem?_cons_succ, List.getElem?_cons_zero]; rfl) (by kernel_rfl) (by kernel_rfl) (by kernel_rfl) (by intro _ _ _ h; exact h) (Or.inr ⟨by rfl, rfl⟩) hHeld ?_
                (try simp only [Act.put, List.setIfInBounds_toArray, List.set_cons_zero, List.set_cons_succ])
                refine wpAnyH_take (i := 12) (v := undef) (by simp only [List.getElem?_toArray, List.getElem?_cons_succ, List.getElem?_cons_zero]; rfl) (by kernel_rfl) (by kernel_rfl) (by kernel_rfl) (by intro _ _ _ h; exact h) (Or.inr ⟨by rfl, rfl⟩) hHeld ?_
                (try simp only [Act.put, List.setIfInBounds_toArray, List.set_cons_zero, List.set_cons_succ])
                refine wpAnyH_take (i := 13) (v := undef) (by simp only [List.getElem?_toArray, List.getElem?_cons_succ, List.getElem?_cons_zero]; rfl) (by kernel_rfl) (by kernel_rfl) (by kernel_rfl) (by intro _ _ _ h; exact h) (Or.inr ⟨by rfl, rfl⟩) hHeld ?_
                (try simp only [Act.put, List.setIfInBounds_toArray, List.set_cons_zero, List.set_cons_succ])
                refine wpAnyH_take (i := 14) (v := undef) (by simp only [List.getElem?_toArray, List.getElem?_cons_succ, List.getElem?_cons_zero]; rfl) (by kernel_rfl) (by kernel_rfl) (by kernel_rfl) (by intro _ _ _ h; exact h) (Or.inr ⟨by rfl, rfl⟩) hHeld ?_
                (try simp only [Act.put, List.setIfInBounds_toArray, List.set_cons_zero, List.set_cons_succ])
                refine wpAnyH_take (i := 15) (v := undef) (by simp only [List.getElem?_toArray, List.getElem?_cons_succ, List.getElem?_cons_zero]; rfl) (by kernel_rfl) (by kernel_rfl) (by kernel_rfl) (by intro _ _ _ h; exact h) (Or.inr ⟨by rfl, rfl⟩) hHeld ?_
                (try simp only [Act.put, List.setIfInBounds_toArray, List.set_cons_zero, List.set_cons_succ])
                refine wpAnyH_take (i := 16) (v := undef) (by simp only [List.getElem?_toArray, List.getElem?_cons_succ, List.getElem?_cons_zero]; rfl) (by kernel_rfl) (by kernel_rfl) (by kernel_rfl) (by intro _ _ _ h; exact h) (Or.inr ⟨by rfl, rfl⟩) hHeld ?_
                (try simp only [Act.put, List.setIfInBounds_toArray, List.set_cons_zero, List.set_cons_succ])
                refine wpAnyH_take (i := 17) (v := undef) (by simp only [List.getElem?_toArray, List.getElem?_cons_succ, List.getElem?_cons_zero]; rfl) (by kernel_rfl) (by kernel_rfl) (by kernel_rfl) (by intro _ _ _ h; exact h) (Or.inr ⟨by rfl, rfl⟩) hHeld ?_
                (try simp only [Act.put, List.setIfInBounds_toArray, List.set_cons_zero, List.set_cons_succ])
                refine wpAnyH_take (i := 18) (v := undef) (by simp only [List.getElem?_toArray, List.getElem?_cons_succ, List.getElem?_cons_zero]; rfl) (by kernel_rfl) (by kernel_rfl) (by kernel_rfl) (by intro _ _ _ h; exact h) (Or.inr ⟨by rfl, rfl⟩) hHeld ?_
                (try simp only [Act.put, List.setIfInBounds_toArray, List.set_cons_zero, List.set_cons_succ])
                refine wpAnyH_take (i := 19) (v := ?vv106) (by simp only [List.getElem?_toArray, List.getElem?_cons_succ, List.getElem?_cons_zero]; rfl) (by kernel_rfl) (by kernel_rfl) (by kernel_rfl) (by intro _ _ _ h; exact h) (Or.inl ⟨by rfl, ?hy106⟩) hHeld ?rest106
                case hy106 => (intro w hSw; (try dsimp only at hSw); go_simp; first | done | with_reducible rfl)
                (try simp only [Act.put, List.setIfInBounds_toArray, List.set_cons_zero, List.set_cons_succ])
                refine wpAnyH_take (i := 20) (v := ?vv107) (by simp only [List.getElem?_toArray, List.getElem?_cons_succ, List.getElem?_cons_zero]; rfl) (by kernel_rfl) (by kernel_rfl) (by kernel_rfl) (by intro _ _ _ h; exact h) (Or.inl ⟨by rfl, ?hy107⟩) hHeld ?rest107
                case hy107 => (intro w hSw; (try dsimp only at hSw); go_simp; first | done | with_reducible rfl)
                (try simp only [Act.put, List.setIfInBounds_toArray, List.set_cons_zero, List.set_cons_succ])
                refine wpAnyH_done (by kernel_rfl) ?_ _
                have j1 := HJ9.out.2.1
                have j2 := HJ9.out.2.2
                have HNO := hid (chain_identity_no (W := w9.drew) (Terms.on HF.out HX9.out.drew) (Polys.on HL.out HX9.out.drew) (HP.out.to (Kept.ext HX9.out.drew (fun _ h => h)) (old_lt HX9.out.drew)) (Polys.on HC.out HX9.out.drew) (Terms.on HR.out HX9.out.drew) HSM.out.1 HSM.out.2.1 HSM.out.2.2.1 HSM.out.2.2.2 HSH.out)
                go_wp2_with fail
                with_reducible refine HNO.out.mono ?_
                rintro e w10 ⟨rfl, hx10⟩
                have HX10 := hid (HX9.out.drew.trans hx10)
                clear hx10
                go_wp2_with fail
                with_reducible refine (law16_known _).mono ?_
                rintro e w11 ⟨rfl, hx11⟩
                have HX11 := hid (HX10.out.trans hx11)
                clear hx11
                go_wp2
                all_goals
                  go_ret
                  exact ⟨rfl, HX11.out⟩
              | true =>
                have hw7 : RPs (Old w7) w7 vw ((f :: l).map plainP) := (HW7.out rfl).to (Kept.refl _ _) (plus_lt (fun _ h => h) HXP7.out)
                have hc9 : RPs (Old w9) w9 vc9 ((rs :: cs).map plainP) := (HC9.out rfl).to (Kept.refl _ _) (plus_lt (fun _ h => h) HXP9.out)
                have HWR := hid (RPs.on hw7 (HY9.out.drew))
                have HCR := hid (RPs.on hc9 ((Ext.refl w9).drew))
                obtain ⟨aw, cw, hvw⟩ := hw7.form
                have hvw2 : vw = .slice aw (nl + 1) cw := by rw [hvw, HN.out.2.1]; simp
                clear hvw
                subst hvw2
                obtain ⟨ax, cx, hvc⟩ := hc9.form
                have hvc2 : vc9 = .slice ax (nc + 1) cx := by rw [hvc, HN.out.2.2.2.1]; simp
                clear hvc
                subst hvc2
                obtain ⟨bw, ow, v0, haw, hnw, hw1, hw2, -, hw3, HV0⟩ := HWR.out.cellAt (k := 0) rfl
                obtain ⟨bx, ox, v1, hax, hnx, hx1, hx2, -, hx3, HV1⟩ := HCR.out.cellAt (k := 0) rfl
                subst haw hax
                rw [Nat.add_zero] at hw3 hx3
                obtain ⟨a0, c0, hv0⟩ := HV0.form
                obtain ⟨a1', c1', hv1⟩ := HV1.form
                subst hv0 hv1
                obtain ⟨m0, hm0⟩ : ∃ n, n = (plainP f).length := ⟨_, rfl⟩
                obtain ⟨m1, hm1⟩ : ∃ n, n = (plainP rs).length := ⟨_, rfl⟩
                rw [← hm0] at hw3
                rw [← hm1] at hx3
                have HM0 := hid hm0
                have HM1 := hid hm1
                have S0 : w9.drew.cell? ⟨W.heap.size, 0, none⟩ = some (.slice ap k cp) ∧ w9.drew.cell? ⟨bw, ow, none⟩ = some (.slice a0 m0 c0) ∧ w9.drew.cell? ⟨bx, ox, none⟩ = some (.slice a1' m1 c1') := ⟨j0, hw3, hx3⟩
                have x0 := (Ext.refl w9).drew
                have HV0' : Hid (RV w9.drew (.slice a0 m0 c0) (plainP f)) := hid (by rw [hm0]; exact HV0)
                have HV1' : Hid (RV w9.drew (.slice a1' m1 c1') (plainP rs)) := hid (by rw [hm1]; exact HV1)
                have HB2 := hid (fun j hj => HB.out j (by rw [HN.out.2.2.1]; exact hj))
                obtain ⟨res, hdoc, hprog⟩ := both_ident HG1.out HG2.out HB2.out (polys_ok HP6.out HBA.out.symm) (polys_ok HP8.out HBB.out.symm)
                have HX9d := hid HX9.out.drew
                have HDOC : Hid (∀ A B : Value, RPs (Old w9.drew) w9.drew A (l.map plainP) → RPs (Old w9.drew) w9.drew B (cs.map plainP) → Calls Tryz.prog 11 #[.slice a0 m0 c0, A, .agg #[.slice ap k cp, B, .slice a1' m1 c1']] w9.drew fun e W' => e = .returned (.bool res) ∧ Ext w9.drew W') := hid (fun A B hA hB => hdoc _ _ _ _ _ _ HV0'.out hA (HP.out.to (Kept.ext HX9d.out (fun _ h => h)) (old_lt HX9d.out)) hB HV1'.out)
                have HPRG : Hid (∀ Y : World, Ext W Y → Calls Tryz.prog 12 #[.slice af nf cf, .slice al nl cl, .agg #[.slice ap k cp, .slice ac nc cc, .slice ar nr cr]] Y fun e W' => e = .returned (.bool res) ∧ Ext Y W') := hid (fun Y hY => hprog Y _ _ _ _ _ (Terms.on HF.out hY) (Polys.on HL.out hY) (HP.out.to (Kept.ext hY (fun _ h => h)) (old_lt hY)) (Polys.on HC.out hY) (Terms.on HR.out hY))
                have HJd := hid (And.intro (x0.cell HJ9.out.1) (And.intro (x0.cell HJ9.out.2.1) (x0.cell HJ9.out.2.2)))
                have HFS : Hid (∀ Y : World, Ext w9.drew Y → Y.cell? ⟨W.heap.size, 0, none⟩ = some (.slice ap k cp) ∧ Y.cell? ⟨bw, ow, none⟩ = some (.slice a0 m0 c0) ∧ Y.cell? ⟨bx, ox, none⟩ = some (.slice a1' m1 c1')) := hid (fun Y hY => ⟨hY.cell j0, hY.cell hw3, hY.cell hx3⟩)
                clear hm0 hm1 hw3 hx3 HV0 HV1 x0 hdoc hprog hw7 hc9 hnw hnx
                have gw1 : (1 : Int) ≤ (nl : Int) + 1 := by omega
                have gw2 : (nl : Int) + 1 ≤ (cw : Int) := by omega
                have gw3 : (1 : Int) ≤ (cw : Int) := by omega
                have gx1 : (1 : Int) ≤ (nc : Int) + 1 := by omega
                have gx2 : (nc : Int) + 1 ≤ (cx : Int) := by omega
                have gx3 : (1 : Int) ≤ (cx : Int) := by omega
                by_cases e1 : cw = 1
                · subst e1
                  have HA := hid (RPs.nothing HWR.out rfl (some ⟨bw, ow, none⟩) 0 (by decide))
                  by_cases e2 : cx = 1
                  · subst e2
                    have HBx := hid (RPs.nothing HCR.out rfl (some ⟨bx, ox, none⟩) 0 (by decide))
                    have HC1 := hid (HDOC.out _ _ HA.out HBx.out)
                    go_wp2
                    go_region_held3 (fun Y => Y.cell? ⟨W.heap.size, 0, none⟩ = some (.slice ap k cp) ∧ Y.cell? ⟨bw, ow, none⟩ = some (.slice a0 m0 c0) ∧ Y.cell? ⟨bx, ox, none⟩ = some (.slice a1' m1 c1')) (first | exact S0 | exact S1) ((go_at_call 11; with_reducible refine HC1.out.mono ?_; rintro e w10 ⟨rfl, hx10⟩; have S1 := HFS.out w10 hx10; have HX10 := hid hx10; clear hx10))
                    all_goals
                      have j0' := HX10.out.cell HJd.out.1
                      have j1 := HX10.out.cell HJd.out.2.1
                      have j2 := HX10.out.cell HJd.out.2.2
                      have HY10 := hid (HX9d.out.trans HX10.out)
                      go_wp2_with fail
                      with_reducible refine (HPRG.out _ HY10.out).mono ?_
                      rintro e w11 ⟨rfl, hx11⟩
                      have HX11 := hid (HY10.out.trans hx11)
                      have qres : (res == res) = true := by cases res <;> rfl
                      clear hx11
                      go_wp2_with fail
                      with_reducible refine (law16_known _).mono ?_
                      rintro e w12 ⟨rfl, hx12⟩
                      have HX12 := hid (HX11.out.trans hx12)
                      clear hx12
                      go_wp2
                      all_goals
                        go_ret
                        exact ⟨rfl, HX12.out⟩
                  · have HBx := hid (RPs.drop_one HCR.out)
                    rw [Nat.add_sub_cancel] at HBx
                    have HC1 := hid (HDOC.out _ _ HA.out HBx.out)
                    go_wp2
                    go_region_held3 (fun Y => Y.cell? ⟨W.heap.size, 0, none⟩ = some (.slice ap k cp) ∧ Y.cell? ⟨bw, ow, none⟩ = some (.slice a0 m0 c0) ∧ Y.cell? ⟨bx, ox, none⟩ = some (.slice a1' m1 c1')) (first | exact S0 | exact S1) ((go_at_call 11; with_reducible refine HC1.out.mono ?_; rintro e w10 ⟨rfl, hx10⟩; have S1 := HFS.out w10 hx10; have HX10 := hid hx10; clear hx10))
                    all_goals
                      have j0' := HX10.out.cell HJd.out.1
                      have j1 := HX10.out.cell HJd.out.2.1
                      have j2 := HX10.out.cell HJd.out.2.2
                      have HY10 := hid (HX9d.out.trans HX10.out)
                      go_wp2_with fail
                      with_reducible refine (HPRG.out _ HY10.out).mono ?_
                      rintro e w11 ⟨rfl, hx11⟩
                      have HX11 := hid (HY10.out.trans hx11)
                      have qres : (res == res) = true := by cases res <;> rfl
                      clear hx11
                      go_wp2_with fail
                      with_reducible refine (law16_known _).mono ?_
                      rintro e w12 ⟨rfl, hx12⟩
                      have HX12 := hid (HX11.out.trans hx12)
                      clear hx12
                      go_wp2
                      all_goals
                        go_ret
                        exact ⟨rfl, HX12.out⟩
                · have HA := hid (RPs.drop_one HWR.out)
                  rw [Nat.add_sub_cancel] at HA
                  by_cases e2 : cx = 1
                  · subst e2
                    have HBx := hid (RPs.nothing HCR.out rfl (some ⟨bx, ox, none⟩) 0 (by decide))
                    have HC1 := hid (HDOC.out _ _ HA.out HBx.out)
                    go_wp2
                    go_region_held3 (fun Y => Y.cell? ⟨W.heap.size, 0, none⟩ = some (.slice ap k cp) ∧ Y.cell? ⟨bw, ow, none⟩ = some (.slice a0 m0 c0) ∧ Y.cell? ⟨bx, ox, none⟩ = some (.slice a1' m1 c1')) (first | exact S0 | exact S1) ((go_at_call 11; with_reducible refine HC1.out.mono ?_; rintro e w10 ⟨rfl, hx10⟩; have S1 := HFS.out w10 hx10; have HX10 := hid hx10; clear hx10))
                    all_goals
                      have j0' := HX10.out.cell HJd.out.1
                      have j1 := HX10.out.cell HJd.out.2.1
                      have j2 := HX10.out.cell HJd.out.2.2
                      have HY10 := hid (HX9d.out.trans HX10.out)
                      go_wp2_with fail
                      with_reducible refine (HPRG.out _ HY10.out).mono ?_
                      rintro e w11 ⟨rfl, hx11⟩
                      have HX11 := hid (HY10.out.trans hx11)
                      have qres : (res == res) = true := by cases res <;> rfl
                      clear hx11
                      go_wp2_with fail
                      with_reducible refine (law16_known _).mono ?_
                      rintro e w12 ⟨rfl, hx12⟩
                      have HX12 := hid (HX11.out.trans hx12)
                      clear hx12
                      go_wp2
                      all_goals
                        go_ret
                        exact ⟨rfl, HX12.out⟩
                  · have HBx := hid (RPs.drop_one HCR.out)
                    rw [Nat.add_sub_cancel] at HBx
                    have HC1 := hid (HDOC.out _ _ HA.out HBx.out)
                    go_wp2
                    go_region_held3 (fun Y => Y.cell? ⟨W.heap.size, 0, none⟩ = some (.slice ap k cp) ∧ Y.cell? ⟨bw, ow, none⟩ = some (.slice a0 m0 c0) ∧ Y.cell? ⟨bx, ox, none⟩ = some (.slice a1' m1 c1')) (first | exact S0 | exact S1) ((go_at_call 11; with_reducible refine HC1.out.mono ?_; rintro e w10 ⟨rfl, hx10⟩; have S1 := HFS.out w10 hx10; have HX10 := hid hx10; clear hx10))
                    all_goals
                      have j0' := HX10.out.cell HJd.out.1
                      have j1 := HX10.out.cell HJd.out.2.1
                      have j2 := HX10.out.cell HJd.out.2.2
                      have HY10 := hid (HX9d.out.trans HX10.out)
                      go_wp2_with fail
                      with_reducible refine (HPRG.out _ HY10.out).mono ?_
                      rintro e w11 ⟨rfl, hx11⟩
                      have HX11 := hid (HY10.out.trans hx11)
                      have qres : (res == res) = true := by cases res <;> rfl
                      clear hx11
                      go_wp2_with fail
                      with_reducible refine (law16_known _).mono ?_
                      rintro e w12 ⟨rfl, hx12⟩
                      have HX12 := hid (HX11.out.trans hx12)
                      clear hx12
                      go_wp2
                      all_goals
                        go_ret
                        exact ⟨rfl, HX12.out⟩
end Go.Proofs.YthdcaablomgboaaGreat

namespace Go.Proofs.YthdcaablomgboaaGreat
open Go.RowKit Go.Deep Go.ChangeShapes Go.WideShapes Go.ChangeAt

set_option maxRecDepth 100000 in
theorem identity16_lifted (os : Os) (started : os.Started) (H : Type) (enc : TypeId × Value → H) :
    ReturnsInHanded {} Tryz.checked os 3 .any (Rows.chainIdentitySpec.pre6 enc Tryz.prog Tryz.f3 Rows.chainIdentityRow.domain false) (Rows.chainIdentitySpec.post enc Tryz.prog Tryz.f3 false true false false) := by
  refine returnsInHanded_of_change_sized (C := Tryz.checked) Tryz.own started (by kernel_rfl) Tryz.func3
    (ChangeSpec.witness6 (enc := enc) (C := Tryz.checked) false ⟨#[], #[.slice none 0 0, .slice none 0 0, .agg #[.slice none 0 0, .slice none 0 0, .slice none 0 0]], []⟩ 8 (by kernel_rfl) (by kernel_rfl) (by kernel_rfl) (by kernel_rfl)) ?_
  intro W base args ds gs before hval0 hW _ hsz _
  have hval : ∀ (j : Nat) t v, Tryz.f3.params[j]? = some t → args[j]? = some v → Value.okWide Tryz.prog W .any base t v := hval0
  have hW' := hW
  obtain ⟨p, q, hA0, hV, _, _, _⟩ := hW'
  have hA : DataW.TrodAll enc Tryz.prog W 0 (fun _ => true) true Tryz.f3.params.toList args.toList ds p := hA0
  rw [Tryz.params3] at hA hval
  obtain ⟨v0, v1, v2, d0, d1, d2, p0, p1, p2, rfl, rfl, rfl, h0, h1, h2⟩ := trodAll_three hA
  obtain ⟨rfl, rfl⟩ := trodVars_none hV
  have hl1 : Light 24 d1 := fun k hk => by
    have := List.all_eq_true.1 hsz k (DataW.weights_mem_each (j := 1) (t := 24) (d := d1) rfl rfl k hk)
    simpa using this
  have hl2 : Light 27 d2 := fun k hk => by
    have := List.all_eq_true.1 hsz k (DataW.weights_mem_each (j := 2) (t := 27) (d := d2) rfl rfl k hk)
    simpa using this
  obtain ⟨fuel0, hf0⟩ := h0
  rw [slice_cells Tryz.underlying23 (hval 0 _ v0 rfl rfl)] at hf0
  obtain ⟨x0, hx0⟩ := open_terms hf0
  obtain ⟨fuel1, hf1⟩ := h1
  rw [slice_cells Tryz.underlying24 (hval 1 _ v1 rfl rfl)] at hf1
  obtain ⟨x1, hx1, hm1⟩ := open_polys_sized hf1 hl1
  obtain ⟨vp, vc, vr, ns, cs, rs, rfl, hp, hc, hr, hm2⟩ := division_arg_sized (hval 2 _ v2 rfl rfl) h2 hl2
  refine (law_identity16 hx0 hx1 hp hc hr hm1 hm2).mono fun e W' h => ?_
  obtain ⟨rfl, hb⟩ := h
  exact ⟨_, rfl, law_post hW rfl rfl rfl (by rw [Tryz.params3]; intro t ht; simp at ht; rcases ht with rfl | rfl | rfl <;> exact ⟨by kernel_rfl, by decide +kernel⟩) hb⟩

theorem identity16_holds : Rows.ChainIdentitySaid :=
  OpenClaim.holds_of_wide 3 Tryz.f3 rfl rfl rfl rfl rfl rfl rfl ⟨rfl, rfl, rfl, rfl, rfl⟩ rfl rfl rfl rfl rfl (by kernel_rfl) Tryz.func3 (by kernel_rfl)
    (of_decide_eq_true (by kernel_rfl)) (by unfold Func.isWrapper; first | (rw [if_pos (by decide +kernel)]; kernel_rfl) | (rw [if_neg (by decide +kernel)]; exact ⟨rfl, rfl⟩))
    (fun os started H enc _ => identity16_lifted os started H enc)
end Go.Proofs.YthdcaablomgboaaGreat
