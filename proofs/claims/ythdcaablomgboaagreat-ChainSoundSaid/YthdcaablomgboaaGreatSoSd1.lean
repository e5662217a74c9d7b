/- ChainSound holds: what Rest tells is an identity, its rest is reduced by each of the chain, the rest alone is the same; the law answers true, and its arguments read as they did. No condition. -/
import Derived.Test.YthdcaablomgboaaGreatSo10
namespace Go.Proofs.YthdcaablomgboaaGreat
open Go.RowKit Go.Deep

set_option maxRecDepth 100000 in
set_option maxHeartbeats 16000000 in
theorem law_sound16 {W : World} {vf vl : Value} {f : List RTerm} {l : List (List RTerm)} (hf : Terms (Old W) W vf f) (hl : Polys (Old W) W vl l) (ml : l.length ≤ 5864062014800) :
    Calls Tryz.prog 6 #[vf, vl] W fun e W' => e = .returned (.bool true) ∧ Ext W W' := by
  have hnot : ∀ (x : Bool) (w : World), (Op.unary .not (.bool x)).run Tryz.prog w = .ok (.bool (!x)) w := fun _ _ => rfl
  have HF := hid hf
  have HL := hid hl
  obtain ⟨af, cf, rfl⟩ := hf.form
  obtain ⟨al, cl, rfl⟩ := hl.form
  obtain ⟨nf, hnf⟩ : ∃ n, n = f.length := ⟨_, rfl⟩
  obtain ⟨nl, hnl⟩ : ∃ n, n = l.length := ⟨_, rfl⟩
  rw [← hnf] at HF ⊢
  rw [← hnl] at HL ml ⊢
  have HN := hid (And.intro hnf hnl)
  have HML := hid ml
  have CN := hid (fun Y => new_any 12 1000 1000 0 Y)
  clear hf hl hnf hnl
  go_enter Tryz.func6, Tryz.ntmps6
  go_wp2_with (first | (at_builtin; refine wpList_append_cons _ rfl (.tmp 15) (.tmp 16) rfl (.slice af nf cf) al nl cl f l rfl rfl HF.out HL.out (fun _ h => h) HML.out ?_; intro v1 w1 hp1 hx1; have HP1 := hid (hp1.to (S' := Old w1) (Kept.refl _ _) (plus_lt (fun _ h => h) hx1)); have HX1 := hid hx1; obtain ⟨a1, c1, rfl⟩ := hp1.form; obtain ⟨n1, hn1⟩ : ∃ n, n = (f :: l).length := ⟨_, rfl⟩; rw [← hn1] at HP1; rw [← hn1]; clear hp1 hx1 hn1))
  have C := law16_great (S := Old w1) _ _ HP1.out (fun _ h => h)
  cases hg : great16 (f :: l) with
  | true =>
    rw [hg] at C
    have HC1 := hid C
    clear C hg
    with_reducible refine HC1.out.mono ?_
    rintro e w2 ⟨rfl, hx2⟩
    have HX2 := hid (HX1.out.trans hx2)
    clear hx2
    go_wp2_with fail
    with_reducible refine (law16_known _).mono ?_
    rintro e w3 ⟨rfl, hx3⟩
    have HX3 := hid (HX2.out.trans hx3)
    clear hx3
    go_wp2
    all_goals
      go_ret
      exact ⟨rfl, HX3.out⟩
  | false =>
    have HG1 := hid (great16_no hg)
    rw [hg] at C
    have HC1 := hid C
    clear C hg
    with_reducible refine HC1.out.mono ?_
    rintro e w2 ⟨rfl, hx2⟩
    have HX2 := hid (HX1.out.trans hx2)
    clear hx2
    go_wp2_with fail
    with_reducible refine (CN.out _).mono ?_
    rintro e w4 ⟨hx4, hy4⟩
    have HX4 := hid (HX2.out.trans hx4)
    rcases hy4 with ⟨-, k, hk, hmat, rfl⟩ | ⟨hno, rfl⟩
    rotate_left
    · exact absurd lim_some hno
    have HMT := hid hmat
    have HKK := hid (And.intro (Nat.le_trans HX2.out.size hk) (lt_of_cell hmat.c0))
    clear hx4 hk hmat
    go_wp2_with fail
    with_reducible refine (CN.out _).mono ?_
    rintro e w8 ⟨hx8, hy8⟩
    have HX8 := hid (HX4.out.trans hx8)
    have HY8 := hid hx8
    rcases hy8 with ⟨-, k', hk', hmat', rfl⟩ | ⟨hno, rfl⟩
    rotate_left
    · exact absurd lim_some hno
    have HMT8 := hid (HMT.out.kept hx8 HKK.out.2)
    have HMT8' := hid hmat'
    have HNE : Hid (k ≠ k') := hid (fun e => by have h1 := HKK.out.2; omega)
    have HKK' := hid (And.intro (Nat.le_trans HX4.out.size hk') (lt_of_cell hmat'.c0))
    clear hx8 hk' hmat'
    have HSM : Hid (smallT f ∧ smallL l) := hid ⟨small16 (HG1.out.1 f List.mem_cons_self), fun p hp => small16 (HG1.out.1 p (List.mem_cons_of_mem _ hp))⟩
    cases hmm : mayT f && mayC 0 l with
    | false =>
      have HNM := hid hmm
      have CR := chain_rest_no (W := w8) (vm := .pointer (some ⟨k, 0, none⟩)) ⟨_, rfl⟩ (Terms.on HF.out HX8.out) (Polys.on HL.out HX8.out) HSM.out.1 HSM.out.2 HNM.out
      have HCR := hid CR
      clear CR hmm
      go_wp2_with fail
      with_reducible refine HCR.out.mono ?_
      rintro e w9 ⟨rfl, hx9⟩
      have HX9 := hid (HX8.out.trans hx9)
      have HXA := hid (Ext.alloc (Ext.refl w9) (.cells #[.slice none 0 0, .slice none 0 0, .slice none 0 0] 27))
      have q0 : (w9.alloc (.cells #[.slice none 0 0, .slice none 0 0, .slice none 0 0] 27)).cell? ⟨w9.heap.size, 0, none⟩ = some (.slice none 0 0) := cell_new _ _ _ rfl rfl
      have q2 : (w9.alloc (.cells #[.slice none 0 0, .slice none 0 0, .slice none 0 0] 27)).cell? ⟨w9.heap.size, 2, none⟩ = some (.slice none 0 0) := cell_new _ _ _ rfl rfl
      have HQ := hid (And.intro q0 q2)
      have HX10 := hid (HX9.out.trans HXA.out)
      have CD := hid (fun (Y : World) (hY : Ext W Y) => chain_reduce_no (W := Y) (vm := .pointer (some ⟨k', 0, none⟩)) ⟨_, rfl⟩ (Terms.on HF.out hY) (Polys.on HL.out hY) HSM.out.1 HSM.out.2 HNM.out)
      clear hx9 q0 q2
      go_wp2_with fail
      with_reducible refine (CD.out _ HX10.out).mono ?_
      rintro e w11 ⟨rfl, hx11⟩
      have HX11 := hid (HX10.out.trans hx11)
      have q0 := hx11.cell HQ.out.1
      have q2 := hx11.cell HQ.out.2
      clear hx11
      go_wp2_with fail
      with_reducible refine (law16_known _).mono ?_
      rintro e w14 ⟨rfl, hx14⟩
      have HX14 := hid (HX11.out.trans hx14)
      clear hx14
      go_wp2
      all_goals
        go_ret
        exact ⟨rfl, HX14.out⟩
    | true =>
      have HPA := hid (plain_args16 HF.out HL.out hmm)
      have HPF0 := hid (plain16 HPA.out.okf (HG1.out.1 f List.mem_cons_self))
      have HPL0 : Hid (∀ p ∈ l.map plainP, Fit 3 6 p ∧ exB 4 p) := hid (fun p hp => by
        obtain ⟨t, ht, rfl⟩ := List.mem_map.1 hp
        exact plain16 (HPA.out.okl t ht) (HG1.out.1 t (List.mem_cons_of_mem _ ht)))
      obtain ⟨F, hF⟩ : ∃ F, F = plainP f := ⟨_, rfl⟩
      obtain ⟨L, hL⟩ : ∃ L, L = l.map plainP := ⟨_, rfl⟩
      rw [← hF] at HPF0 HPA
      rw [← hL] at HPL0 HPA
      have HPF := hid HPF0.out
      have HPL := hid HPL0.out
      have HLN : Hid (L.length = nl) := hid (by rw [hL, List.length_map]; exact HN.out.2.symm)
      obtain ⟨s0, hs0⟩ : ∃ s, s = MSt.new 12 1000 1000 0 := ⟨_, rfl⟩
      rw [← hs0] at HMT8 HMT8'
      have HOK0 : Hid s0.Ok := hid (by rw [hs0]; exact new_okS lim_some)
      have HRT : Hid (∀ (k : Nat) (w : Bool), RestFit (some k) w L L.length s0 F (List.replicate L.length [])) := hid (fun k w => by rw [hs0]; exact (rest16 w lim_some (by decide) HPF.out.1 HPF.out.2 HPL.out HPA.out.hz).1)
      have HL4 : Hid (L.length ≤ 4) := hid (by rw [HLN.out, HN.out.2]; have := HG1.out.2; simp at this; omega)
      have HSO : Hid (∀ k : Nat, (restD (some k) true L L.length s0 F (List.replicate L.length 0) (List.replicate L.length [])).1 = 0 → Sound16 F L (restD (some k) true L L.length s0 F (List.replicate L.length 0) (List.replicate L.length []))) := hid (fun k => by rw [hs0]; exact sound16 lim_some (by decide) HPF.out.1 HPF.out.2 HPL.out HPA.out.hz HL4.out)
      have HSL : Hid (smallL (L.map ofP)) := hid (by rw [HPA.out.el]; exact HSM.out.2)
      have HFA : Hid (∀ (Y : World) (j : Nat), Kept (Old W) W Y → W.heap.size ≤ Y.heap.size → W.heap.size ≤ j → PM (some j) Y (.slice af nf cf) F) := hid (fun Y j hk hz hj => by
        show Terms _ _ _ (ofP F)
        rw [← HPA.out.ef]
        exact HF.out.to hk (fun i hi => ⟨Nat.lt_of_lt_of_le hi hz, fun e => by have h1 : i < W.heap.size := hi; have h2 := Option.some.inj e; omega⟩))
      have HLA : Hid (∀ (Y : World) (j : Nat), Kept (Old W) W Y → W.heap.size ≤ Y.heap.size → W.heap.size ≤ j → Polys (NB (some j) Y) Y (.slice al nl cl) (L.map ofP)) := hid (fun Y j hk hz hj => by
        rw [HPA.out.el]
        exact HL.out.to hk (fun i hi => ⟨Nat.lt_of_lt_of_le hi hz, fun e => by have h1 : i < W.heap.size := hi; have h2 := Option.some.inj e; omega⟩))
      have CR := chain_rest (W := w8) (o := some k) (s := s0) (f := F) (ls := L) (A := 3) (T := 6) (fun j hj => by cases hj; exact ⟨HMT8.out, HOK0.out⟩) (HFA.out w8 k (Kept.ext HX8.out (fun _ h => h)) HX8.out.size HKK.out.1) (HLA.out w8 k (Kept.ext HX8.out (fun _ h => h)) HX8.out.size HKK.out.1) HPF.out.1 (by decide) (by decide) HSL.out HPA.out.hc (Nat.le_trans HL4.out (by decide)) (HRT.out k true)
      have HSX := hid (HSO.out k)
      have HFX := hid (rest_false (b := k) (ls := L) L.length s0 F (List.replicate L.length 0) (List.replicate L.length []) (List.replicate L.length []) HOK0.out.l0 HOK0.out.t0)
      have HEX := hid (restD_err (o := some k) (w := true) (ls := L) L.length s0 F (List.replicate L.length 0) (List.replicate L.length []))
      obtain ⟨X, hX⟩ : ∃ X, X = restD (some k) true L L.length s0 F (List.replicate L.length 0) (List.replicate L.length []) := ⟨_, rfl⟩
      rw [← hX] at CR HSX HFX HEX
      have HCR : Hid (Calls Tryz.prog 16 #[.pointer (some ⟨k, 0, none⟩), .slice af nf cf, .slice al nl cl] w8 (RestPost16 w8 (some k) X)) := hid CR
      clear hmm hF hL hs0 hX CR
      go_wp2_with fail
      with_reducible refine HCR.out.mono ?_
      rintro e w9 ⟨vp, vc, vr, rfl, hm9, hg9, hr9, hp9, hc9⟩
      have HG9 := hid hg9
      have HR9 := hid hr9
      have HP9 := hid hp9
      have HC9 := hid hc9
      obtain ⟨ap, cp, rfl⟩ := hp9.form
      obtain ⟨ac, cc, rfl⟩ := hc9.form
      obtain ⟨ar, cr, rfl⟩ := hr9.form
      obtain ⟨np, hnp⟩ : ∃ n, n = X.2.2.2.1.length := ⟨_, rfl⟩
      obtain ⟨nc, hnc⟩ : ∃ n, n = (X.2.2.2.2.map ofP).length := ⟨_, rfl⟩
      obtain ⟨nr, hnr⟩ : ∃ n, n = (ofP X.2.2.1).length := ⟨_, rfl⟩
      rw [← hnp] at HP9 ⊢
      rw [← hnc] at HC9 ⊢
      rw [← hnr] at HR9 ⊢
      have HNP := hid (And.intro hnp hnr)
      have HKE9 : Hid (Kept (Old W) W w9) := hid (fun i hi => (hg9.block i (Nat.lt_of_lt_of_le hi HX8.out.size) (fun e => by have h1 : i < W.heap.size := hi; have h2 := Option.some.inj e; have h3 := HKK.out.1; omega)).trans (HX8.out.block i hi))
      have HZ9 : Hid (W.heap.size ≤ w9.heap.size) := hid (Nat.le_trans HX8.out.size hg9.size)
      have HMN9 : Hid (MeterAt w9 k' s0) := hid (HMT8'.out.grown hg9 (fun e => HNE.out (Option.some.inj e).symm))
      clear hm9 hg9 hr9 hp9 hc9 hnp hnc hnr
      obtain ⟨xe, hxe⟩ : ∃ z, z = X.1 := ⟨_, rfl⟩
      have HXE := hid hxe
      rw [← hxe]
      clear hxe
      have hdd0 : (w9.alloc (.cells #[.slice ap np cp, .slice ac nc cc, .slice ar nr cr] 27)).cell? ⟨w9.heap.size, 0, none⟩ = some (.slice ap np cp) := cell_new _ _ _ rfl rfl
      have hdd1 : (w9.alloc (.cells #[.slice ap np cp, .slice ac nc cc, .slice ar nr cr] 27)).cell? ⟨w9.heap.size, 1, none⟩ = some (.slice ac nc cc) := cell_new _ _ _ rfl rfl
      have hdd2 : (w9.alloc (.cells #[.slice ap np cp, .slice ac nc cc, .slice ar nr cr] 27)).cell? ⟨w9.heap.size, 2, none⟩ = some (.slice ar nr cr) := cell_new _ _ _ rfl rfl
      have HXA := hid (Ext.alloc (Ext.refl w9) (.cells #[.slice ap np cp, .slice ac nc cc, .slice ar nr cr] 27))
      obtain ⟨wA, hwA⟩ : ∃ Y, Y = w9.alloc (.cells #[.slice ap np cp, .slice ac nc cc, .slice ar nr cr] 27) := ⟨_, rfl⟩
      rw [← hwA] at hdd0 hdd1 hdd2 HXA
      have HDD := hid (And.intro hdd0 (And.intro hdd1 hdd2))
      have HWA := hid hwA
      have HKEA : Hid (Kept (Old W) W wA) := hid (fun i hi => (HXA.out.block i (Nat.lt_of_lt_of_le hi HZ9.out)).trans (HKE9.out i hi))
      have CD := chain_reduce (W := wA) (o := some k') (s := s0) (f := F) (ls := L) (A := 3) (T := 6) (fun j hj => by cases hj; exact ⟨HMN9.out.kept HXA.out (lt_of_cell HMN9.out.c0), HOK0.out⟩) (HFA.out wA k' HKEA.out (Nat.le_trans HZ9.out HXA.out.size) HKK'.out.1) (HLA.out wA k' HKEA.out (Nat.le_trans HZ9.out HXA.out.size) HKK'.out.1) HPF.out.1 (by decide) (by decide) HSL.out HPA.out.hc (Nat.le_trans HL4.out (by decide)) (RestFit.red _ (HRT.out k' false))
      rw [restD_red L.length s0 F (List.replicate L.length 0) (List.replicate L.length []), restD_o (o := some k') (r := some k) ⟨fun h => (by cases h), fun h => (by cases h)⟩] at CD
      obtain ⟨Z, hZ⟩ : ∃ Z, Z = restD (some k) false L L.length s0 F (List.replicate L.length 0) (List.replicate L.length []) := ⟨_, rfl⟩
      rw [← hZ] at CD HFX
      have HCD : Hid (Calls Tryz.prog 15 #[.pointer (some ⟨k', 0, none⟩), .slice af nf cf, .slice al nl cl] wA (RedPost wA (some k') (Z.1, Z.2.1, Z.2.2.1, Z.2.2.2.1))) := hid CD
      clear hdd0 hdd1 hdd2 hwA CD hZ
      go_wp2_with fail
      rw [← HWA.out]
      with_reducible refine HCD.out.mono ?_
      rintro e w11 ⟨vr2, vn2, rfl, hm11, hg11, hr11, hp11⟩
      have HG11 := hid hg11
      have HR11 := hid hr11
      have HP11 := hid hp11
      obtain ⟨ar2, cr2, rfl⟩ := hr11.form
      obtain ⟨ap2, cp2, rfl⟩ := hp11.form
      obtain ⟨nr2, hnr2⟩ : ∃ n, n = (ofP Z.2.2.1).length := ⟨_, rfl⟩
      obtain ⟨np2, hnp2⟩ : ∃ n, n = Z.2.2.2.1.length := ⟨_, rfl⟩
      obtain ⟨ze, hze⟩ : ∃ z, z = Z.1 := ⟨_, rfl⟩
      rw [show (ofP (Z.1, Z.2.1, Z.2.2.1, Z.2.2.2.1).2.2.1).length = nr2 from hnr2.symm] at HR11 ⊢
      rw [show ((Z.1, Z.2.1, Z.2.2.1, Z.2.2.2.1).2.2.2).length = np2 from hnp2.symm] at HP11 ⊢
      rw [show (Z.1, Z.2.1, Z.2.2.1, Z.2.2.2.1).1 = ze from hze.symm]
      have HZE := hid hze
      -- what lies where behind both
      have HS11 : Hid (W.heap.size ≤ w11.heap.size) := hid (Nat.le_trans HZ9.out (Nat.le_trans HXA.out.size hg11.size))
      have HKE : Hid (Kept (Old W) W w11) := hid (fun i hi => (hg11.block i (Nat.lt_of_lt_of_le (Nat.lt_of_lt_of_le hi HZ9.out) HXA.out.size) (fun e => by have h1 : i < W.heap.size := hi; have h2 := Option.some.inj e; have h3 := HKK'.out.1; omega)).trans (HKEA.out i hi))
      have HB11 : Hid (Kept (fun i => w8.heap.size ≤ i ∧ NB (some k) w9 i) w9 w11) := hid (fun i hi => (hg11.block i (Nat.lt_of_lt_of_le hi.2.1 HXA.out.size) (fun e => by have h1 := Option.some.inj e; have h2 := HKK'.out.2; have h3 := hi.1; omega)).trans (HXA.out.block i hi.2.1))
      have HI11 : Hid (∀ i, (w8.heap.size ≤ i ∧ NB (some k) w9 i) → Old w11 i) := hid (fun i hi => Nat.lt_of_lt_of_le hi.2.1 (Nat.le_trans HXA.out.size hg11.size))
      have HDP := hid (HP9.out.to (S' := Old w11) HB11.out HI11.out)
      have HDC := hid (HC9.out.to (S' := Old w11) HB11.out HI11.out)
      have HDR := hid (HR9.out.to (S' := Old w11) HB11.out HI11.out)
      have HDF := hid (HF.out.to (S' := Old w11) HKE.out (fun i hi => Nat.lt_of_lt_of_le hi HS11.out))
      have HDL := hid (HL.out.to (S' := Old w11) HKE.out (fun i hi => Nat.lt_of_lt_of_le hi HS11.out))
      have HKA : Hid (∀ i, w11.cell? ⟨w9.heap.size, i, none⟩ = wA.cell? ⟨w9.heap.size, i, none⟩) := hid (fun i => World.cell?_of_block (hg11.block w9.heap.size (by rw [HWA.out, size_alloc]; exact Nat.lt_succ_self _) (fun e => by have h1 := Option.some.inj e; have h2 := HKK'.out.2; have h3 := HG9.out.size; omega)))
      have HC0 := hid (And.intro ((HKA.out 0).trans HDD.out.1) (And.intro ((HKA.out 1).trans HDD.out.2.1) ((HKA.out 2).trans HDD.out.2.2)))
      have HWX : Hid (Ext W w11) := hid (by
        refine ⟨?_, ?_, ?_, HS11.out, HKE.out⟩
        · exact hg11.os.trans (HXA.out.os.trans (HG9.out.os.trans HX8.out.os))
        · exact hg11.tape.trans (HXA.out.tape.trans (HG9.out.tape.trans HX8.out.tape))
        · exact hg11.output.trans (HXA.out.output.trans (HG9.out.output.trans HX8.out.output)))
      clear hm11 hg11 hr11 hp11 hze
      obtain ⟨c0, c1, c2⟩ := HC0.out
      by_cases hxz : xe = 0
      · have hz0 : X.1 = 0 := HXE.out.symm.trans hxz
        subst hxz
        obtain ⟨z1, -, z2, z3⟩ := HFX.out hz0
        have hze : ze = 0 := HZE.out.trans z1
        subst hze
        have SX := hid (HSX.out hz0)
        have HR2 := HR11.out
        have HP2 := HP11.out
        rw [show (Z.1, Z.2.1, Z.2.2.1, Z.2.2.2.1).2.2.1 = X.2.2.1 from z2] at HR2
        rw [show (Z.1, Z.2.1, Z.2.2.1, Z.2.2.2.1).2.2.2 = X.2.2.2.1 from z3] at HP2
        have HRR := hid (HR2.to (S' := Old w11) (Kept.refl _ _) (fun i hi => hi.2.1))
        have HPP := hid (HP2.to (S' := Old w11) (Kept.refl _ _) (fun i hi => hi.2.1))
        have CS := poly_same _ _ _ _ w11 HRR.out HDR.out (fun _ h => h)
        rw [decide_eq_true rfl] at CS
        have HCS := hid CS
        have HCI := hid (fun (Y : World) (hY : Ext w11 Y) => (show Calls Tryz.prog 18 #[.slice ap2 np2 cp2, .slice ap np cp] Y fun e w' => e = .returned (.bool true) ∧ Ext Y w' from (law16_ints (HPP.out.to (Kept.ext hY (fun _ h => h)) (old_lt hY)) (HDP.out.to (Kept.ext hY (fun _ h => h)) (old_lt hY))).mono (by rintro e w' ⟨rfl, hx⟩; exact ⟨by simp, hx⟩)))
        have HID := hid (fun (Y : World) (hY : Ext w11 Y) => (show Calls Tryz.prog 12 #[.slice af nf cf, .slice al nl cl, .agg #[.slice ap np cp, .slice ac nc cc, .slice ar nr cr]] Y fun e w' => e = .returned (.bool true) ∧ Ext Y w' from by
          have h := chain_identity (W := Y) (f := F) (r := X.2.2.1) (ls := L) (cs := X.2.2.2.2) (ns := X.2.2.2.1) (xs := idXs F X.2.2.1 L X.2.2.2.2 X.2.2.2.1) (Ns := fun k => (X.2.2.2.1.getD k 0).toNat) (is := fun k => (powN (initP (L.getD k [])) (X.2.2.2.1.getD k 0).toNat).getD []) (bs := fun k => (timesP (L.getD k []) (X.2.2.2.2.getD k [])).getD []) (j := L.length) (A := 3) (T := 6) (B := 50) (U := 100000)
            (by show Terms _ _ _ (ofP F); rw [← HPA.out.ef]; exact Terms.on HDF.out hY) (by show Polys _ _ _ (L.map ofP); rw [HPA.out.el]; exact Polys.on HDL.out hY) (HDP.out.to (Kept.ext hY (fun _ h => h)) (old_lt hY)) (Polys.on HDC.out hY) (Terms.on HDR.out hY) SX.out.nl SX.out.cl
            HPF.out.1 (by decide) SX.out.fr (by decide) HSL.out HPA.out.cl (fun t ht => by obtain ⟨p, hp, rfl⟩ := List.mem_map.1 ht; exact (SX.out.fc p hp).small (by decide)) (fun p hp => (SX.out.fc p hp).can) (Nat.le_refl _) rfl SX.out.steps (fun h => absurd h (Nat.lt_irrefl _))
          rw [if_neg (Nat.lt_irrefl _), decide_eq_true SX.out.same] at h
          exact h))
        have HBY := hid (fun (Y : World) (hY : Ext w11 Y) => (show Calls Tryz.prog 27 #[.slice ar nr cr, .slice al nl cl] Y fun e w' => e = .returned (.bool true) ∧ Ext Y w' from by
          have h := rank_by _ _ _ _ Y (Terms.on HDR.out hY) (Polys.on HDL.out hY) (fun _ h => h) (SX.out.fr.small (by decide)) HSM.out.2
          have hb : byP (plainP (ofP X.2.2.1)) l = true := by
            rw [SX.out.fr.plain, ← HPA.out.el]
            unfold byP
            exact List.all_eq_true.2 fun q hq => by
              obtain ⟨p, hp, rfl⟩ := List.mem_map.1 hq
              rw [plainP_ofP (HPA.out.cl p hp)]
              exact SX.out.red p hp
          rw [hb] at h
          exact h))
        clear CS HR2 HP2 hnr2 hnp2 z1 z2 z3 hz0
        have d1 := HDD
        go_wp2_with fail
        with_reducible refine HCS.out.mono ?_
        rintro e w12 ⟨rfl, hx12⟩
        have HX12 := hid hx12
        have c0 := HX12.out.cell HC0.out.1
        have c1 := HX12.out.cell HC0.out.2.1
        have c2 := HX12.out.cell HC0.out.2.2
        clear hx12
        go_wp2_with fail
        with_reducible refine (HCI.out _ HX12.out).mono ?_
        rintro e w13 ⟨rfl, hx13⟩
        have HX13 := hid (HX12.out.trans hx13)
        have c0 := HX13.out.cell HC0.out.1
        have c1 := HX13.out.cell HC0.out.2.1
        have c2 := HX13.out.cell HC0.out.2.2
        clear hx13
        go_wp2_with fail
        with_reducible refine (HID.out _ HX13.out).mono ?_
        rintro e w14 ⟨rfl, hx14⟩
        have HX14 := hid (HX13.out.trans hx14)
        have c0 := HX14.out.cell HC0.out.1
        have c1 := HX14.out.cell HC0.out.2.1
        have c2 := HX14.out.cell HC0.out.2.2
        clear hx14
        go_wp2_with fail
        with_reducible refine (HBY.out _ HX14.out).mono ?_
        rintro e w15 ⟨rfl, hx15⟩
        have HX15 := hid (HX14.out.trans hx15)
        clear hx15
        go_wp2_with fail
        with_reducible refine (law16_known _).mono ?_
        rintro e w16 ⟨rfl, hx16⟩
        have HX16 := hid (HWX.out.trans (HX15.out.trans hx16))
        clear hx16
        go_wp2
        all_goals
          go_ret
          exact ⟨rfl, HX16.out⟩
      · have hx0 : X.1 ≠ 0 := fun h => hxz (HXE.out.trans h)
        have hn := HEX.out hx0
        have e1 : np = 0 := by rw [HNP.out.1, hn]; rfl
        have e2 : nr = 0 := by rw [HNP.out.2, hn]; rfl
        subst e1
        subst e2
        clear hx0 hn hnr2 hnp2
        go_wp2_with fail
        with_reducible refine (law16_known _).mono ?_
        rintro e w14 ⟨rfl, hx14⟩
        have HX14 := hid (HWX.out.trans hx14)
        clear hx14
        go_wp2
        all_goals
          go_ret
          exact ⟨rfl, HX14.out⟩
end Go.Proofs.YthdcaablomgboaaGreat

namespace Go.Proofs.YthdcaablomgboaaGreat
open Go.RowKit Go.Deep Go.ChangeShapes Go.WideShapes Go.ChangeAt

set_option maxRecDepth 100000 in
theorem sound16_lifted (os : Os) (started : os.Started) (H : Type) (enc : TypeId × Value → H) :
    ReturnsInHanded {} Tryz.checked os 6 .any (Rows.chainSoundSpec.pre6 enc Tryz.prog Tryz.f6 Rows.chainSoundRow.domain false) (Rows.chainSoundSpec.post enc Tryz.prog Tryz.f6 false true false false) := by
  refine returnsInHanded_of_change_sized (C := Tryz.checked) Tryz.own started (by kernel_rfl) Tryz.func6
    (ChangeSpec.witness6 (enc := enc) (C := Tryz.checked) false ⟨#[], #[.slice none 0 0, .slice none 0 0], []⟩ 8 (by kernel_rfl) (by kernel_rfl) (by kernel_rfl) (by kernel_rfl)) ?_
  intro W base args ds gs before hval0 hW _ hsz _
  have hval : ∀ (j : Nat) t v, Tryz.f6.params[j]? = some t → args[j]? = some v → Value.okWide Tryz.prog W .any base t v := hval0
  have hW' := hW
  obtain ⟨p, q, hA0, hV, _, _, _⟩ := hW'
  have hA : DataW.TrodAll enc Tryz.prog W 0 (fun _ => true) true Tryz.f6.params.toList args.toList ds p := hA0
  rw [Tryz.params6] at hA hval
  obtain ⟨v0, v1, d0, d1, p0, p1, rfl, rfl, rfl, h0, h1⟩ := trodAll_two hA
  obtain ⟨rfl, rfl⟩ := trodVars_none hV
  have hl1 : Light 24 d1 := fun k hk => by
    have := List.all_eq_true.1 hsz k (DataW.weights_mem_each (j := 1) (t := 24) (d := d1) rfl rfl k hk)
    simpa using this
  obtain ⟨fuel0, hf0⟩ := h0
  rw [slice_cells Tryz.underlying23 (hval 0 _ v0 rfl rfl)] at hf0
  obtain ⟨x0, hx0⟩ := open_terms hf0
  obtain ⟨fuel1, hf1⟩ := h1
  rw [slice_cells Tryz.underlying24 (hval 1 _ v1 rfl rfl)] at hf1
  obtain ⟨x1, hx1, hm1⟩ := open_polys_sized hf1 hl1
  refine (law_sound16 hx0 hx1 hm1).mono fun e W' h => ?_
  obtain ⟨rfl, hb⟩ := h
  exact ⟨_, rfl, law_post hW rfl rfl rfl (by rw [Tryz.params6]; intro t ht; simp at ht; rcases ht with rfl | rfl <;> exact ⟨by kernel_rfl, by decide +kernel⟩) hb⟩

theorem sound16_holds : Rows.ChainSoundSaid :=
  OpenClaim.holds_of_wide 6 Tryz.f6 rfl rfl rfl rfl rfl rfl rfl ⟨rfl, rfl, rfl, rfl, rfl⟩ rfl rfl rfl rfl rfl (by kernel_rfl) Tryz.func6 (by kernel_rfl)
    (of_decide_eq_true (by kernel_rfl)) (by unfold Func.isWrapper; first | (rw [if_pos (by decide +kernel)]; kernel_rfl) | (rw [if_neg (by decide +kernel)]; exact ⟨rfl, rfl⟩))
    (fun os started H enc _ => sound16_lifted os started H enc)
end Go.Proofs.YthdcaablomgboaaGreat
