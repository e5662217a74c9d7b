/- ChainStill holds: what a chain has reduced it leaves as it is, and a chain without one of its polynomials is one; the law answers true, and its arguments read as they did. No condition. -/
import Derived.Test.YthdcaablomgboaaGreatSo10
namespace Go.Proofs.YthdcaablomgboaaGreat
open Go.RowKit Go.Deep

theorem mayC_le {l : List (List RTerm)} {c c' : Int} (hc : c' ≤ c) (h : mayC c l = true) : mayC c' l = true := by
  cases l with
  | nil => rfl
  | cons p r =>
    rw [mayC] at h ⊢
    split at h
    · rename_i h1
      rw [Bool.and_eq_true] at h1
      have h2 := of_decide_eq_true h1.2
      rw [h1.1, decide_eq_true (show c' < leadP (plainP p) by omega)]
      exact h
    · cases h
theorem mayC_without {l : List (List RTerm)} : ∀ {c : Int} (i : Nat), mayC c l = true → mayC c (l.take i ++ l.drop (i + 1)) = true := by
  induction l with
  | nil => intro c i _; simp [mayC]
  | cons p r ih =>
    intro c i h
    rw [mayC] at h
    split at h
    · rename_i h1
      rw [Bool.and_eq_true] at h1
      have h2 := of_decide_eq_true h1.2
      cases i with
      | zero =>
        rw [List.take_zero, List.nil_append, List.drop_succ_cons, List.drop_zero]
        exact mayC_le (by omega) h
      | succ i =>
        rw [List.take_succ_cons, List.drop_succ_cons, List.cons_append, mayC, h1.1, h1.2]
        exact ih i h
    · cases h
theorem smallL_without {l : List (List RTerm)} (h : smallL l) (i : Nat) : smallL (l.take i ++ l.drop (i + 1)) := fun p hp => by
  rcases List.mem_append.1 hp with h1 | h1
  · exact h p (List.mem_of_mem_take h1)
  · exact h p (List.mem_of_mem_drop h1)

set_option maxRecDepth 100000 in
set_option maxHeartbeats 16000000 in
theorem law_still16 {W : World} {vf vl : Value} {f : List RTerm} {l : List (List RTerm)} {z : Int} (hf : Terms (Old W) W vf f) (hl : Polys (Old W) W vl l) (ml : l.length ≤ 5864062014800) (hz : inI64 z) :
    Calls Tryz.prog 4 #[vf, vl, .int .i64 z] W fun e W' => e = .returned (.bool true) ∧ Ext W W' := by
  have hnot : ∀ (x : Bool) (w : World), (Op.unary .not (.bool x)).run Tryz.prog w = .ok (.bool (!x)) w := fun _ _ => rfl
  have HF := hid hf
  have HL := hid hl
  obtain ⟨af, cf, rfl⟩ := hf.form
  obtain ⟨al, cl, rfl⟩ := hl.form
  obtain ⟨nf, hnf⟩ : ∃ n, n = f.length := ⟨_, rfl⟩
  obtain ⟨nl, hnl⟩ : ∃ n, n = l.length := ⟨_, rfl⟩
  rw [← hnf] at HF ⊢
  rw [← hnl] at HL ml ⊢
  have HN := hid (And.intro hnf hnl)
  have HML := hid ml
  have HZ := hid hz
  have CN := hid (fun Y => new_any 12 1000 1000 0 Y)
  have CN0 := hid (fun Y => new_any 0 0 0 0 Y)
  clear hf hl hnf hnl
  go_enter Tryz.func4, Tryz.ntmps4
  go_wp2_with (first | (at_builtin; refine wpList_append_cons _ rfl (.tmp 22) (.tmp 23) rfl (.slice af nf cf) al nl cl f l rfl rfl HF.out HL.out (fun _ h => h) HML.out ?_; intro v1 w1 hp1 hx1; have HP1 := hid (hp1.to (S' := Old w1) (Kept.refl _ _) (plus_lt (fun _ h => h) hx1)); have HX1 := hid hx1; obtain ⟨a1, c1, rfl⟩ := hp1.form; obtain ⟨n1, hn1⟩ : ∃ n, n = (f :: l).length := ⟨_, rfl⟩; rw [← hn1] at HP1; rw [← hn1]; clear hp1 hx1 hn1))
  have C := law16_great (S := Old w1) _ _ HP1.out (fun _ h => h)
  cases hg : great16 (f :: l) with
  | true =>
    rw [hg] at C
    have HC1 := hid C
    clear C hg
    with_reducible refine HC1.out.mono ?_
    rintro e w2 ⟨rfl, hx2⟩
    have HX2 := hid (HX1.out.trans hx2)
    clear hx2
    go_wp2_with fail
    with_reducible refine (law16_known _).mono ?_
    rintro e w3 ⟨rfl, hx3⟩
    have HX3 := hid (HX2.out.trans hx3)
    clear hx3
    go_wp2
    all_goals
      go_ret
      exact ⟨rfl, HX3.out⟩
  | false =>
    have HG1 := hid (great16_no hg)
    rw [hg] at C
    have HC1 := hid C
    clear C hg
    have HSM : Hid (smallT f ∧ smallL l) := hid ⟨small16 (HG1.out.1 f List.mem_cons_self), fun p hp => small16 (HG1.out.1 p (List.mem_cons_of_mem _ hp))⟩
    with_reducible refine HC1.out.mono ?_
    rintro e w2 ⟨rfl, hx2⟩
    have HX2 := hid (HX1.out.trans hx2)
    clear hx2
    have CM := chain_may (S := Old w2) (.slice al nl cl) l w2 (Polys.on HL.out HX2.out) (fun _ h => h) HSM.out.2
    cases hmm : mayC 0 l with
    | false =>
      rw [hmm] at CM
      have HCM := hid CM
      clear CM hmm
      go_wp2_with fail
      with_reducible refine HCM.out.mono ?_
      rintro e w3 ⟨rfl, hx3⟩
      have HX3 := hid (HX2.out.trans hx3)
      clear hx3
      go_wp2_with fail
      with_reducible refine (law16_known _).mono ?_
      rintro e w4 ⟨rfl, hx4⟩
      have HX4 := hid (HX3.out.trans hx4)
      clear hx4
      go_wp2
      all_goals
        go_ret
        exact ⟨rfl, HX4.out⟩
    | true =>
      have HMM := hid hmm
      rw [hmm] at CM
      have HCM := hid CM
      clear CM hmm
      go_wp2_with fail
      with_reducible refine HCM.out.mono ?_
      rintro e w3 ⟨rfl, hx3⟩
      have HX3 := hid (HX2.out.trans hx3)
      clear hx3
      go_upto_if 34 with (fail)
      go_cut [] (fun wx => Hid (Ext W wx))
      case first =>
        by_cases h0 : 0 < nl
        · go_upto_region 5 with fail
          obtain ⟨i, hi, hin⟩ := pick_index (z := z) h0 HML.out
          rw [hi]
          have HI := hid hi
          have HIN := hid hin
          have HL3 := hid (Polys.on HL.out HX3.out)
          obtain ⟨b0, o0, hal, hncl⟩ : ∃ b0 o0, al = some ⟨b0, o0, none⟩ ∧ nl ≤ cl := by
            obtain ⟨b, off, ⟨a', cap', h1, h2, h3, h4, h5⟩, hc⟩ := HL.out
            obtain ⟨rfl, e2, rfl⟩ : al = a' ∧ nl = l.length ∧ cl = cap' := by simpa using h1
            exact ⟨b, off, h4 (by omega), by omega⟩
          subst hal
          obtain ⟨A, hA⟩ : ∃ A : Option Addr, A = if cl = i + 1 then some ⟨b0, o0, none⟩ else some ⟨b0, o0 + (i + 1), none⟩ := ⟨_, rfl⟩
          have HA := hid hA
          have hi1 : (i : Int) ≤ (cl : Int) := by omega
          have hi2 : (i : Int) + 1 ≤ (nl : Int) := by omega
          have hi3 : (nl : Int) ≤ (cl : Int) := by omega
          have hi4 : (0 : Int) ≤ (i : Int) + 1 := by omega
          have hi5 : (i : Int) + 1 ≤ (cl : Int) := by omega
          obtain ⟨j0, hj, jz0, jz1, jz2⟩ := info_parts Tryz.infoPoly
          have hwr : IntKind.i64.wrap ((i : Int) + 1) = (i : Int) + 1 := by unfold IntKind.wrap; simp [IntKind.bits, IntKind.signed]; omega
          have hto : ((i : Int) + 1).toNat = i + 1 := by omega
          have HM0 : Hid ((0 : Nat) ≤ maxLen) := hid (Nat.zero_le _)
          have HXd : Hid (Ext w3 ((w3.alloc (.cells #[] 23)).drew)) := hid ((Ext.refl w3).alloc _).drew
          have HOA : Hid (((w3.alloc (.cells #[] 23)).drew).ownsRow w3.heap.size 23 1 (.slice (some ⟨w3.heap.size, 0, none⟩) 0 0) 0 []) := hid (own_ext (World.ownsRow_made (base := w3.heap.size) (e := 23) (size := 1) w3 #[] 0 (Nat.le_refl _) HM0.out rfl) (Ext.refl _).drew)
          obtain ⟨xs, ys, hs1, hs2, hc1, hc2, -⟩ := drop_src (HL3.out.to (S' := Old w3) (Kept.ext HXd.out (fun _ h => h)) (fun _ h => h)) HIN.out HA.out
          have HS1 := hid hs1
          have HS2 := hid hs2
          have HC12 := hid (And.intro hc1 hc2)
          have HBA : Hid (∀ ad, A = some ad → ad.block < w3.heap.size) := hid (fun ad e => by
            have hb : b0 < w3.heap.size := by
              obtain ⟨p, hp⟩ := some_of_lt (l := l) (j := 0) (by have := HN.out.2; omega)
              obtain ⟨b', off', ⟨a', cap', h1, h2, h3, h4, h5⟩, hc⟩ := HL3.out
              obtain ⟨e1, e2, e3⟩ : some ⟨b0, o0, none⟩ = a' ∧ nl = l.length ∧ cl = cap' := by simpa using h1
              have e4 := h4 (by omega)
              rw [← e1] at e4
              obtain ⟨rfl, -⟩ : b0 = b' ∧ o0 = off' := by simpa using e4
              exact h5 (by omega)
            rw [HA.out] at e
            split at e <;> (cases e; exact hb))
          have HB1 : Hid (0 + i ≤ maxLen) := hid (by have := HIN.out; have := HML.out; unfold maxLen; omega)
          have HB2 : Hid ((0 + i) * 24 ≤ 140737488355328) := hid (by have := HIN.out; have := HML.out; omega)
          have HB3 : Hid (w3.heap.size ≤ ((w3.alloc (.cells #[] 23)).drew).heap.size) := hid HXd.out.size
          have HB4 : Hid (0 + i + (nl - (i + 1)) ≤ maxLen) := hid (by have := HIN.out; have := HML.out; unfold maxLen; omega)
          have HB5 : Hid ((0 + i + (nl - (i + 1))) * 24 ≤ 140737488355328) := hid (by have := HIN.out; have := HML.out; omega)
          have HME : Hid (mayC 0 (l.take i ++ l.drop (i + 1)) = true) := hid (mayC_without i HMM.out)
          have HSE := hid (smallL_without HSM.out.2 i)
          clear hi hin hA hs1 hs2 hc1 hc2
          by_cases hcap : cl = i + 1
          · have hA2 : A = some ⟨b0, o0, none⟩ := by rw [HA.out, if_pos hcap]
            subst hA2
            have hcT : (cl = i + 1) = True := eq_true hcap
            have HCAP := hid hcap
            clear hcap
            go_region_held3 (fun _ => True) (trivial)
              (first
                | (refine step_append_src rfl (.tmp 42) (.tmp 45) 24 rfl w3.heap.size 23 j0 (.slice none 0 0) 1 24 Tryz.underlying24 hj jz0 jz1 jz2 rfl (Nat.succ_pos _) (.slice (some ⟨w3.heap.size, 0, none⟩) 0 0) 0 [] rfl HOA.out (some ⟨b0, o0, none⟩) i _ xs rfl HS1.out HB1.out HB2.out HB3.out ?_
                   intro v5 w5 hown hg _; have HW5 := hid hown; have HX5 : Hid (Ext w3 w5) := hid (own_grown0 HXd.out HOA.out hg); have HS5 := hid (HS2.out.kept (w' := w5) (fun ad e => (HX5.out.block _ (HBA.out ad e)).trans (HXd.out.block _ (HBA.out ad e)).symm)); have HB6 := hid HX5.out.size; clear hown hg)
                | (refine step_append_src rfl (.tmp 46) (.tmp 50) 24 rfl w3.heap.size 23 j0 (.slice none 0 0) 1 24 Tryz.underlying24 hj jz0 jz1 jz2 rfl (Nat.succ_pos _) v5 (0 + i) ([] ++ xs) rfl HW5.out (some ⟨b0, o0, none⟩) (nl - (i + 1)) _ ys rfl HS5.out HB4.out HB5.out HB6.out ?_
                   intro v6 w6 hown hg _; have HX6 : Hid (Ext w3 w6) := hid (own_grown0 HX5.out HW5.out hg); have HC6 := hid (chain_may (S := Old w6) v6 (l.take i ++ l.drop (i + 1)) w6 (drop_done HN.out.2 HIN.out hown HC12.out.1 HC12.out.2 (fun k hk => (HX6.out.block k hk).trans (HXd.out.block k hk).symm) (fun k hk => Nat.lt_of_lt_of_le hk HX6.out.size)) (fun _ h => h) HSE.out); clear hown hg)
                | (go_at_call 13; with_reducible refine HC6.out.mono ?_
                   rintro e w7 ⟨rfl, hx7⟩; have HX7 := hid (HX3.out.trans (HX6.out.trans hx7)); rw [HME.out]; clear hx7))
            all_goals
              go_wp2_with fail
              go_meet
              exact HX7
          · have hcap' : ¬ (cl : Int) = (i : Int) + 1 := by omega
            have hA2 : A = some ⟨b0, o0 + (i + 1), none⟩ := by rw [HA.out, if_neg hcap]
            subst hA2
            go_region_held3 (fun _ => True) (trivial)
              (first
                | (refine step_append_src rfl (.tmp 42) (.tmp 45) 24 rfl w3.heap.size 23 j0 (.slice none 0 0) 1 24 Tryz.underlying24 hj jz0 jz1 jz2 rfl (Nat.succ_pos _) (.slice (some ⟨w3.heap.size, 0, none⟩) 0 0) 0 [] rfl HOA.out (some ⟨b0, o0, none⟩) i _ xs rfl HS1.out HB1.out HB2.out HB3.out ?_
                   intro v5 w5 hown hg _; have HW5 := hid hown; have HX5 : Hid (Ext w3 w5) := hid (own_grown0 HXd.out HOA.out hg); have HS5 := hid (HS2.out.kept (w' := w5) (fun ad e => (HX5.out.block _ (HBA.out ad e)).trans (HXd.out.block _ (HBA.out ad e)).symm)); have HB6 := hid HX5.out.size; clear hown hg)
                | (refine step_append_src rfl (.tmp 46) (.tmp 50) 24 rfl w3.heap.size 23 j0 (.slice none 0 0) 1 24 Tryz.underlying24 hj jz0 jz1 jz2 rfl (Nat.succ_pos _) v5 (0 + i) ([] ++ xs) rfl HW5.out (some ⟨b0, o0 + (i + 1), none⟩) (nl - (i + 1)) _ ys rfl HS5.out HB4.out HB5.out HB6.out ?_
                   intro v6 w6 hown hg _; have HX6 : Hid (Ext w3 w6) := hid (own_grown0 HX5.out HW5.out hg); have HC6 := hid (chain_may (S := Old w6) v6 (l.take i ++ l.drop (i + 1)) w6 (drop_done HN.out.2 HIN.out hown HC12.out.1 HC12.out.2 (fun k hk => (HX6.out.block k hk).trans (HXd.out.block k hk).symm) (fun k hk => Nat.lt_of_lt_of_le hk HX6.out.size)) (fun _ h => h) HSE.out); clear hown hg)
                | (go_at_call 13; with_reducible refine HC6.out.mono ?_
                   rintro e w7 ⟨rfl, hx7⟩; have HX7 := hid (HX3.out.trans (HX6.out.trans hx7)); rw [HME.out]; clear hx7))
            all_goals
              go_wp2_with fail
              go_meet
              exact HX7
        · have hz0 : nl = 0 := by omega
          subst hz0
          go_wp2_with fail
          go_meet
          exact HX3
      case rest =>
        have HXc := hid hcut.out
        clear hcut
        go_wp2_with fail
        with_reducible refine (CN.out _).mono ?_
        rintro e w4 ⟨hx4, hy4⟩
        have HX4 := hid (HXc.out.trans hx4)
        rcases hy4 with ⟨-, k, hk, hmat, rfl⟩ | ⟨hno, rfl⟩
        rotate_left
        · exact absurd lim_some hno
        have HMT := hid hmat
        have HKK := hid (And.intro (Nat.le_trans HXc.out.size hk) (lt_of_cell hmat.c0))
        clear hx4 hk hmat
        cases hmf : mayT f with
        | false =>
          have HNM : Hid ((mayT f && mayC 0 l) = false) := hid (by rw [hmf]; rfl)
          have HCR := hid (chain_reduce_no (W := w4) (vm := .pointer (some ⟨k, 0, none⟩)) ⟨_, rfl⟩ (Terms.on HF.out HX4.out) (Polys.on HL.out HX4.out) HSM.out.1 HSM.out.2 HNM.out)
          clear hmf
          go_wp2_with fail
          with_reducible refine HCR.out.mono ?_
          rintro e w5 ⟨rfl, hx5⟩
          have HX5 := hid (HX4.out.trans hx5)
          clear hx5
          go_wp2_with fail
          with_reducible refine (law16_known _).mono ?_
          rintro e w6 ⟨rfl, hx6⟩
          have HX6 := hid (HX5.out.trans hx6)
          clear hx6
          go_wp2
          all_goals
            go_ret
            exact ⟨rfl, HX6.out⟩
        | true =>
          have HPA := hid (plain_args16 HF.out HL.out (by rw [hmf, HMM.out]; rfl))
          have HPF0 := hid (plain16 HPA.out.okf (HG1.out.1 f List.mem_cons_self))
          have HPL0 : Hid (∀ p ∈ l.map plainP, Fit 3 6 p ∧ exB 4 p) := hid (fun p hp => by
            obtain ⟨t, ht, rfl⟩ := List.mem_map.1 hp
            exact plain16 (HPA.out.okl t ht) (HG1.out.1 t (List.mem_cons_of_mem _ ht)))
          obtain ⟨F, hF⟩ : ∃ F, F = plainP f := ⟨_, rfl⟩
          obtain ⟨L, hL⟩ : ∃ L, L = l.map plainP := ⟨_, rfl⟩
          rw [← hF] at HPF0 HPA
          rw [← hL] at HPL0 HPA
          have HPF := hid HPF0.out
          have HPL := hid HPL0.out
          have HLN : Hid (L.length = nl) := hid (by rw [hL, List.length_map]; exact HN.out.2.symm)
          have HL4 : Hid (L.length ≤ 4) := hid (by rw [HLN.out, HN.out.2]; have := HG1.out.2; simp at this; omega)
          have HSL : Hid (smallL (L.map ofP)) := hid (by rw [HPA.out.el]; exact HSM.out.2)
          have HCH := hid (chain_of HPA.out.cl HPA.out.hz)
          have HCP := hid (chp16 HPL.out HPA.out.hz)
          have HFA : Hid (∀ (Y : World) (j : Nat), Kept (Old W) W Y → W.heap.size ≤ Y.heap.size → W.heap.size ≤ j → PM (some j) Y (.slice af nf cf) F) := hid (fun Y j hk hz hj => by
            show Terms _ _ _ (ofP F)
            rw [← HPA.out.ef]
            exact HF.out.to hk (fun i hi => ⟨Nat.lt_of_lt_of_le hi hz, fun e => by have h1 : i < W.heap.size := hi; have h2 := Option.some.inj e; omega⟩))
          have HLA : Hid (∀ (Y : World) (j : Nat), Kept (Old W) W Y → W.heap.size ≤ Y.heap.size → W.heap.size ≤ j → Polys (NB (some j) Y) Y (.slice al nl cl) (L.map ofP)) := hid (fun Y j hk hz hj => by
            rw [HPA.out.el]
            exact HL.out.to hk (fun i hi => ⟨Nat.lt_of_lt_of_le hi hz, fun e => by have h1 : i < W.heap.size := hi; have h2 := Option.some.inj e; omega⟩))
          have CR := chain_reduce (W := w4) (o := some k) (s := MSt.new 12 1000 1000 0) (f := F) (ls := L) (A := 3) (T := 6) (fun j hj => by cases hj; exact ⟨HMT.out, new_okS lim_some⟩) (HFA.out w4 k (Kept.ext HX4.out (fun _ h => h)) HX4.out.size HKK.out.1) (HLA.out w4 k (Kept.ext HX4.out (fun _ h => h)) HX4.out.size HKK.out.1) HPF.out.1 (by decide) (by decide) HSL.out HPA.out.hc (Nat.le_trans HL4.out (by decide)) (RestFit.red _ (rest16 (k := k) false lim_some (by decide) HPF.out.1 HPF.out.2 HPL.out HPA.out.hz).1)
          rw [restD_red L.length (MSt.new 12 1000 1000 0) F (List.replicate L.length 0) (List.replicate L.length [])] at CR
          have HZF := hid (rest16 (k := k) false lim_some (by decide) HPF.out.1 HPF.out.2 HPL.out HPA.out.hz).2
          have HZR := hid (rest_red (b := k) (w := false) HCH.out L.length (MSt.new 12 1000 1000 0) F (List.replicate L.length 0) (List.replicate L.length []) (Nat.le_refl _) HPF.out.1.can)
          obtain ⟨Z, hZ⟩ : ∃ Z, Z = restD (some k) false L L.length (MSt.new 12 1000 1000 0) F (List.replicate L.length 0) (List.replicate L.length []) := ⟨_, rfl⟩
          rw [← hZ] at CR HZF HZR
          have HCR : Hid (Calls Tryz.prog 15 #[.pointer (some ⟨k, 0, none⟩), .slice af nf cf, .slice al nl cl] w4 (RedPost w4 (some k) (Z.1, Z.2.1, Z.2.2.1, Z.2.2.2.1))) := hid CR
          clear hmf hF hL hZ CR
          go_wp2_with fail
          with_reducible refine HCR.out.mono ?_
          rintro e w5 ⟨vr, vn, rfl, hm5, hg5, hr5, hp5⟩
          have HR5 := hid hr5
          obtain ⟨ar, cr, rfl⟩ := hr5.form
          obtain ⟨ap, cp, rfl⟩ := hp5.form
          obtain ⟨nr, hnr⟩ : ∃ n, n = (ofP Z.2.2.1).length := ⟨_, rfl⟩
          obtain ⟨np, hnp⟩ : ∃ n, n = Z.2.2.2.1.length := ⟨_, rfl⟩
          obtain ⟨ze, hze⟩ : ∃ z, z = Z.1 := ⟨_, rfl⟩
          rw [show (ofP (Z.1, Z.2.1, Z.2.2.1, Z.2.2.2.1).2.2.1).length = nr from hnr.symm] at HR5 ⊢
          rw [show ((Z.1, Z.2.1, Z.2.2.1, Z.2.2.2.1).2.2.2).length = np from hnp.symm]
          rw [show (Z.1, Z.2.1, Z.2.2.1, Z.2.2.2.1).1 = ze from hze.symm]
          have HZE := hid hze
          have HX5 : Hid (Ext W w5) := hid ⟨hg5.os.trans HX4.out.os, hg5.tape.trans HX4.out.tape, hg5.output.trans HX4.out.output, Nat.le_trans HX4.out.size hg5.size, fun i hi => (hg5.block i (Nat.lt_of_lt_of_le hi HX4.out.size) (fun e => by have h1 := Option.some.inj e; have h2 := HKK.out.1; omega)).trans (HX4.out.block i hi)⟩
          clear hm5 hg5 hr5 hp5 hze hnp
          by_cases hz0 : ze = 0
          rotate_left
          · go_wp2_with fail
            with_reducible refine (law16_known _).mono ?_
            rintro e w6 ⟨rfl, hx6⟩
            have HX6 := hid (HX5.out.trans hx6)
            clear hx6
            go_wp2
            all_goals
              go_ret
              exact ⟨rfl, HX6.out⟩
          have hzz : Z.1 = 0 := HZE.out.symm.trans hz0
          subst hz0
          have HFR := hid (HZF.out hzz).1
          have HRD := hid (HZR.out hzz).2.1
          obtain ⟨R, hR⟩ : ∃ R, R = Z.2.2.1 := ⟨_, rfl⟩
          rw [← hR] at HFR HRD
          rw [show (Z.1, Z.2.1, Z.2.2.1, Z.2.2.2.1).2.2.1 = R from hR.symm] at HR5
          have HNR : Hid (nr = (ofP R).length) := hid (by rw [hnr, hR])
          clear hzz hR hnr
          go_wp2_with fail
          with_reducible refine (CN0.out _).mono ?_
          rintro e w6 ⟨hx6, hy6⟩
          have HX6 := hid (HX5.out.trans hx6)
          rcases hy6 with ⟨-, k2, hk, hmat, rfl⟩ | ⟨hno, rfl⟩
          rotate_left
          · exact absurd lim_none hno
          have HMT2 := hid hmat
          have HKK2 := hid (And.intro hk (lt_of_cell hmat.c0))
          have HKW : Hid (W.heap.size ≤ k2) := hid (Nat.le_trans HX5.out.size hk)
          have HR6 : Hid (PM (some k2) w6 (.slice ar nr cr) R) := hid (HR5.out.to (fun i hi => hx6.block i hi.2.1) (fun i hi => ⟨Nat.lt_of_lt_of_le hi.2.1 hx6.size, fun e => by have h1 := Option.some.inj e; have h2 : i < w5.heap.size := hi.2.1; omega⟩))
          clear hx6 hk hmat
          have HST := hid (fun (w : Bool) => rest_still (o := some k2) (w := w) (ls := L) (m := L.length) L.length (MSt.new 0 0 0 0) R HRD.out)
          have HSF := hid (fun (w : Bool) => rest_still_fit (b := k2) (w := w) (ls := L) (m := L.length) HCP.out L.length (MSt.new 0 0 0 0) R (Nat.le_refl _) HFR.out HRD.out)
          have CR := chain_reduce (W := w6) (o := some k2) (s := MSt.new 0 0 0 0) (f := R) (ls := L) (A := 50) (T := 100000) (fun j hj => by cases hj; exact ⟨HMT2.out, new_okS lim_none⟩) HR6.out (HLA.out w6 k2 (Kept.ext HX6.out (fun _ h => h)) HX6.out.size HKW.out) HFR.out (by decide) (by decide) HSL.out HPA.out.hc (Nat.le_trans HL4.out (by decide)) (RestFit.red _ (HSF.out false))
          rw [restD_red L.length (MSt.new 0 0 0 0) R (List.replicate L.length 0) (List.replicate L.length []), HST.out false] at CR
          have HCR2 : Hid (Calls Tryz.prog 15 #[.pointer (some ⟨k2, 0, none⟩), .slice ar nr cr, .slice al nl cl] w6 (RedPost w6 (some k2) (0, MSt.new 0 0 0 0, R, List.replicate L.length 0))) := hid CR
          clear CR
          go_wp2_with fail
          with_reducible refine HCR2.out.mono ?_
          rintro e w7 ⟨vr2, vn2, rfl, hm7, hg7, hr7, hp7⟩
          have HM7 := hid hm7
          have HG7 := hid hg7
          have HR7 := hid hr7
          have HP7 := hid hp7
          obtain ⟨ar2, cr2, rfl⟩ := hr7.form
          obtain ⟨ap2, cp2, rfl⟩ := hp7.form
          rw [show (ofP ((0 : Int), MSt.new 0 0 0 0, R, List.replicate L.length (0 : Int)).2.2.1).length = nr from HNR.out.symm] at HR7 ⊢
          rw [show ((0 : Int), MSt.new 0 0 0 0, R, List.replicate L.length (0 : Int)).2.2.2.length = nl from by show (List.replicate L.length (0 : Int)).length = nl; rw [List.length_replicate]; exact HLN.out] at HP7 ⊢
          have HX7 : Hid (Ext W w7) := hid ⟨hg7.os.trans HX6.out.os, hg7.tape.trans HX6.out.tape, hg7.output.trans HX6.out.output, Nat.le_trans HX6.out.size hg7.size, fun i hi => (hg7.block i (Nat.lt_of_lt_of_le hi HX6.out.size) (fun e => by have h1 := Option.some.inj e; have h2 := HKW.out; omega)).trans (HX6.out.block i hi)⟩
          have HR67 : Hid (PM (some k2) w7 (.slice ar nr cr) R) := hid (HR6.out.to (fun i hi => hg7.block i hi.1 (fun e => hi.2 e)) (fun i hi => ⟨Nat.lt_of_lt_of_le hi.1 hg7.size, hi.2⟩))
          clear hm7 hg7 hr7 hp7
          have CR := chain_rest (W := w7) (o := some k2) (s := MSt.new 0 0 0 0) (f := R) (ls := L) (A := 50) (T := 100000) HM7.out HR67.out (HLA.out w7 k2 (Kept.ext HX7.out (fun _ h => h)) HX7.out.size HKW.out) HFR.out (by decide) (by decide) HSL.out HPA.out.hc (Nat.le_trans HL4.out (by decide)) (HSF.out true)
          rw [HST.out true] at CR
          have HCR3 : Hid (Calls Tryz.prog 16 #[.pointer (some ⟨k2, 0, none⟩), .slice ar nr cr, .slice al nl cl] w7 (RestPost16 w7 (some k2) (0, MSt.new 0 0 0 0, R, List.replicate L.length 0, List.replicate L.length []))) := hid CR
          clear CR
          go_wp2_with fail
          with_reducible refine HCR3.out.mono ?_
          rintro e w8 ⟨vp3, vc3, vr3, rfl, hm8, hg8, hr8, hp8, hc8⟩
          have HR8 := hid hr8
          have HP8 := hid hp8
          have HC8 := hid hc8
          obtain ⟨ap3, cp3, rfl⟩ := hp8.form
          obtain ⟨ac3, cc3, rfl⟩ := hc8.form
          obtain ⟨ar3, cr3, rfl⟩ := hr8.form
          rw [show (ofP ((0 : Int), MSt.new 0 0 0 0, R, List.replicate L.length (0 : Int), List.replicate L.length ([] : PZ)).2.2.1).length = nr from HNR.out.symm] at HR8 ⊢
          rw [show ((0 : Int), MSt.new 0 0 0 0, R, List.replicate L.length (0 : Int), List.replicate L.length ([] : PZ)).2.2.2.1.length = nl from by show (List.replicate L.length (0 : Int)).length = nl; rw [List.length_replicate]; exact HLN.out] at HP8 ⊢
          rw [show (((0 : Int), MSt.new 0 0 0 0, R, List.replicate L.length (0 : Int), List.replicate L.length ([] : PZ)).2.2.2.2.map ofP).length = nl from by show ((List.replicate L.length ([] : PZ)).map ofP).length = nl; rw [List.length_map, List.length_replicate]; exact HLN.out] at HC8 ⊢
          have HX8 : Hid (Ext W w8) := hid ⟨hg8.os.trans HX7.out.os, hg8.tape.trans HX7.out.tape, hg8.output.trans HX7.out.output, Nat.le_trans HX7.out.size hg8.size, fun i hi => (hg8.block i (Nat.lt_of_lt_of_le hi HX7.out.size) (fun e => by have h1 := Option.some.inj e; have h2 := HKW.out; omega)).trans (HX7.out.block i hi)⟩
          have HRa : Hid (PV w8 (.slice ar nr cr) R) := hid (HR67.out.to (fun i hi => hg8.block i hi.1 (fun e => hi.2 e)) (fun i hi => Nat.lt_of_lt_of_le hi.1 hg8.size))
          have HRb : Hid (PV w8 (.slice ar2 nr cr2) R) := hid (HR7.out.to (fun i hi => hg8.block i hi.2.1 (fun e => hi.2.2 e)) (fun i hi => Nat.lt_of_lt_of_le hi.2.1 hg8.size))
          have HRc : Hid (PV w8 (.slice ar3 nr cr3) R) := hid (HR8.out.to (Kept.refl _ _) (fun i hi => hi.2.1))
          have HPb : Hid (Ints (Old w8) w8 (.slice ap2 nl cp2) (List.replicate L.length 0)) := hid (HP7.out.to (fun i hi => hg8.block i hi.2.1 (fun e => hi.2.2 e)) (fun i hi => Nat.lt_of_lt_of_le hi.2.1 hg8.size))
          have HPc : Hid (Ints (Old w8) w8 (.slice ap3 nl cp3) (List.replicate L.length 0)) := hid (HP8.out.to (Kept.refl _ _) (fun i hi => hi.2.1))
          have HCc : Hid (Polys (Old w8) w8 (.slice ac3 nl cc3) ((List.replicate L.length ([] : PZ)).map ofP)) := hid (HC8.out.to (Kept.refl _ _) (fun i hi => hi.2.1))
          clear hm8 hg8 hr8 hp8 hc8
          have c0 : (w8.alloc (.cells #[.slice ap3 nl cp3, .slice ac3 nl cc3, .slice ar3 nr cr3] 27)).cell? ⟨w8.heap.size, 0, none⟩ = some (.slice ap3 nl cp3) := cell_new _ _ _ rfl rfl
          have c1 : (w8.alloc (.cells #[.slice ap3 nl cp3, .slice ac3 nl cc3, .slice ar3 nr cr3] 27)).cell? ⟨w8.heap.size, 1, none⟩ = some (.slice ac3 nl cc3) := cell_new _ _ _ rfl rfl
          have c2 : (w8.alloc (.cells #[.slice ap3 nl cp3, .slice ac3 nl cc3, .slice ar3 nr cr3] 27)).cell? ⟨w8.heap.size, 2, none⟩ = some (.slice ar3 nr cr3) := cell_new _ _ _ rfl rfl
          have HXA := hid (Ext.alloc (Ext.refl w8) (.cells #[.slice ap3 nl cp3, .slice ac3 nl cc3, .slice ar3 nr cr3] 27))
          obtain ⟨wA, hwA⟩ : ∃ Y, Y = w8.alloc (.cells #[.slice ap3 nl cp3, .slice ac3 nl cc3, .slice ar3 nr cr3] 27) := ⟨_, rfl⟩
          rw [← hwA] at c0 c1 c2 HXA
          have HDD := hid (And.intro c0 (And.intro c1 c2))
          have HWA := hid hwA
          have HS1 := hid (fun (Y : World) (hY : Ext w8 Y) => (show Calls Tryz.prog 17 #[.slice ar nr cr, .slice ar2 nr cr2] Y fun e w' => e = .returned (.bool true) ∧ Ext Y w' from by
            have h := poly_same _ _ _ _ Y (Terms.on HRa.out hY) (Terms.on HRb.out hY) (fun _ h => h)
            rwa [decide_eq_true rfl] at h))
          have HS2 := hid (fun (Y : World) (hY : Ext w8 Y) => (show Calls Tryz.prog 17 #[.slice ar nr cr, .slice ar3 nr cr3] Y fun e w' => e = .returned (.bool true) ∧ Ext Y w' from by
            have h := poly_same _ _ _ _ Y (Terms.on HRa.out hY) (Terms.on HRc.out hY) (fun _ h => h)
            rwa [decide_eq_true rfl] at h))
          have HCI := hid (fun (Y : World) (hY : Ext w8 Y) => (show Calls Tryz.prog 18 #[.slice ap2 nl cp2, .slice ap3 nl cp3] Y fun e w' => e = .returned (.bool true) ∧ Ext Y w' from (law16_ints (HPb.out.to (Kept.ext hY (fun _ h => h)) (old_lt hY)) (HPc.out.to (Kept.ext hY (fun _ h => h)) (old_lt hY))).mono (by rintro e w' ⟨rfl, hx⟩; exact ⟨by simp, hx⟩)))
          clear hwA
          go_wp2_with fail
          rw [← HWA.out]
          with_reducible refine (HS1.out _ HXA.out).mono ?_
          rintro e w9 ⟨rfl, hx9⟩
          have HX9 := hid (HXA.out.trans hx9)
          have c0 := hx9.cell HDD.out.1
          have c1 := hx9.cell HDD.out.2.1
          have c2 := hx9.cell HDD.out.2.2
          have HD9 := hid (And.intro c0 (And.intro c1 c2))
          clear hx9
          go_wp2_with fail
          with_reducible refine (HS2.out _ HX9.out).mono ?_
          rintro e w10 ⟨rfl, hx10⟩
          have HX10 := hid (HX9.out.trans hx10)
          have c0 := hx10.cell HD9.out.1
          have c1 := hx10.cell HD9.out.2.1
          have c2 := hx10.cell HD9.out.2.2
          have HD10 := hid (And.intro c0 (And.intro c1 c2))
          clear hx10
          go_wp2_with fail
          with_reducible refine (HCI.out _ HX10.out).mono ?_
          rintro e w11 ⟨rfl, hx11⟩
          have HX11 := hid (HX10.out.trans hx11)
          have c0 := hx11.cell HD10.out.1
          have c1 := hx11.cell HD10.out.2.1
          have c2 := hx11.cell HD10.out.2.2
          have HD11 := hid (And.intro c0 (And.intro c1 c2))
          clear hx11
          go_wp2_with fail
          go_loopw [133] (fun s133 wr => ∃ i : Nat, i ≤ nl ∧ s133 = .int .i64 (i : Nat) ∧ Ext w11 wr) (fun s133 _ => nl - (intOf s133).toNat)
          case atStart => exact ⟨0, Nat.zero_le _, rfl, Ext.refl _⟩
          case round =>
            obtain ⟨i, hi, rfl, hx⟩ := hrel
            have HXR := hid (HX11.out.trans hx)
            have c1 := hx.cell HD11.out.2.1
            have HXX := hid hx
            clear hx
            by_cases hlt : i < nl
            · obtain ⟨b4, o4, rfl, -, hn4, hm4, -, -, d4⟩ := (HPb.out.to (Kept.ext HXR.out (fun _ h => h)) (old_lt HXR.out)).cellAt (k := i) (n := 0) (by rw [List.getElem?_replicate, if_pos (by rw [HLN.out]; exact hlt)])
              obtain ⟨b5, o5, v5, rfl, -, hn5, hm5, -, d5, ht5⟩ := (Polys.on HCc.out HXR.out).cellAt (k := i) (t := ofP []) (by rw [List.getElem?_map, List.getElem?_replicate, if_pos (by rw [HLN.out]; exact hlt)]; rfl)
              obtain ⟨a5, c5, rfl⟩ := ht5.form
              rw [show (ofP []).length = 0 from rfl] at d5
              clear ht5
              go_wp2
              go_roundw
              case rel => exact ⟨i + 1, by omega, by go_num, HXX.out⟩
              case measure => simp only [intOf]; omega
            · obtain rfl : i = nl := by omega
              go_wp2_with fail
              with_reducible refine (law16_known _).mono ?_
              rintro e w12 ⟨rfl, hx12⟩
              have HX12 := hid (HX8.out.trans (HXR.out.trans hx12))
              clear hx12
              go_wp2
              all_goals
                go_ret
                exact ⟨rfl, HX12.out⟩
end Go.Proofs.YthdcaablomgboaaGreat

namespace Go.Proofs.YthdcaablomgboaaGreat
open Go.RowKit Go.Deep Go.ChangeShapes Go.WideShapes Go.ChangeAt

set_option maxRecDepth 100000 in
theorem still16_lifted (os : Os) (started : os.Started) (H : Type) (enc : TypeId × Value → H) :
    ReturnsInHanded {} Tryz.checked os 4 .any (Rows.chainStillSpec.pre6 enc Tryz.prog Tryz.f4 Rows.chainStillRow.domain false) (Rows.chainStillSpec.post enc Tryz.prog Tryz.f4 false true false false) := by
  refine returnsInHanded_of_change_sized (C := Tryz.checked) Tryz.own started (by kernel_rfl) Tryz.func4
    (ChangeSpec.witness6 (enc := enc) (C := Tryz.checked) false ⟨#[], #[.slice none 0 0, .slice none 0 0, .int .i64 0], []⟩ 8 (by kernel_rfl) (by kernel_rfl) (by kernel_rfl) (by kernel_rfl)) ?_
  intro W base args ds gs before hval0 hW _ hsz _
  have hval : ∀ (j : Nat) t v, Tryz.f4.params[j]? = some t → args[j]? = some v → Value.okWide Tryz.prog W .any base t v := hval0
  have hW' := hW
  obtain ⟨p, q, hA0, hV, _, _, _⟩ := hW'
  have hA : DataW.TrodAll enc Tryz.prog W 0 (fun _ => true) true Tryz.f4.params.toList args.toList ds p := hA0
  rw [Tryz.params4] at hA hval
  obtain ⟨v0, v1, v2, d0, d1, d2, p0, p1, p2, rfl, rfl, rfl, h0, h1, h2⟩ := trodAll_three hA
  obtain ⟨rfl, rfl⟩ := trodVars_none hV
  have hl1 : Light 24 d1 := fun k hk => by
    have := List.all_eq_true.1 hsz k (DataW.weights_mem_each (j := 1) (t := 24) (d := d1) rfl rfl k hk)
    simpa using this
  obtain ⟨fuel0, hf0⟩ := h0
  rw [slice_cells Tryz.underlying23 (hval 0 _ v0 rfl rfl)] at hf0
  obtain ⟨x0, hx0⟩ := open_terms hf0
  obtain ⟨fuel1, hf1⟩ := h1
  rw [slice_cells Tryz.underlying24 (hval 1 _ v1 rfl rfl)] at hf1
  obtain ⟨x1, hx1, hm1⟩ := open_polys_sized hf1 hl1
  obtain ⟨fuel2, hf2⟩ := h2
  obtain ⟨y, rfl, hy⟩ := int_arg12 (hval 2 _ v2 rfl rfl) hf2
  refine (law_still16 hx0 hx1 hm1 hy).mono fun e W' h => ?_
  obtain ⟨rfl, hb⟩ := h
  exact ⟨_, rfl, law_post hW rfl rfl rfl (by rw [Tryz.params4]; intro t ht; simp at ht; rcases ht with rfl | rfl | rfl <;> exact ⟨by kernel_rfl, by decide +kernel⟩) hb⟩

theorem still16_holds : Rows.ChainStillSaid :=
  OpenClaim.holds_of_wide 4 Tryz.f4 rfl rfl rfl rfl rfl rfl rfl ⟨rfl, rfl, rfl, rfl, rfl⟩ rfl rfl rfl rfl rfl (by kernel_rfl) Tryz.func4 (by kernel_rfl)
    (of_decide_eq_true (by kernel_rfl)) (by unfold Func.isWrapper; first | (rw [if_pos (by decide +kernel)]; kernel_rfl) | (rw [if_neg (by decide +kernel)]; exact ⟨rfl, rfl⟩))
    (fun os started H enc _ => still16_lifted os started H enc)
end Go.Proofs.YthdcaablomgboaaGreat
