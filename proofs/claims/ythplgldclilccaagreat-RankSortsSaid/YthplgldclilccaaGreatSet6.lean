/- Terms collected: sorted, and summed by their monomials. May some polynomials be; the sum of two. The insertion sort in place, at polynomials. Exchanges and rotations in place, at polynomials. The merge in place of two neighbours, at polynomials: one element ahead, or one behind. The merge in place of two neighbours, at polynomials. -/
import Derived.Deep.DeepCutAuto
import Derived.Test.YthplgldclilccaaGreatSet5
namespace Go.Proofs.YthplgldclilccaaGreat
open Go.RowKit Go.Sort

/-- new blocks but one -/
abbrev NewBut (a b : World) (B : Nat) : Nat → Prop := fun k => (a.heap.size ≤ k ∧ k < b.heap.size) ∧ k ≠ B
def toQ {S : Nat → Prop} {w : World} (q : List (TermIn S w)) : PZ := toP (q.map (·.t))

set_option maxRecDepth 100000 in
set_option maxHeartbeats 8000000 in
theorem poly_collect {S : Nat → Prop} (v : Value) (ts : List RTerm) (w : World) (L : Nat) (h : Terms S w v ts) (hS : ∀ k, S k → k < w.heap.size) (hm : ∀ t ∈ ts, mayM t.m = true) (hr : ∀ t ∈ ts, t.c.mag.length ≤ L) (hL : L ≤ 10000000000) (hn : ts.length ≤ 1000000000000) :
    Calls Tryz.prog 79 #[v] w fun e w' => ∃ v', e = .returned v' ∧ Terms (New w w') w' v' (ofP (normP (toP ts))) ∧ Ext w w' := by
  obtain ⟨j0, hj, jz0, jz1, jz2⟩ := info_parts Tryz.infoTerm
  have H := hid h
  have HMAY := hid hm
  have HR := hid hr
  have HC := hid (clone_terms v ts w h hS hn)
  obtain ⟨a, cap, rfl⟩ := h.form
  clear h hm hr
  go_enter Tryz.func79, Tryz.ntmps79
  go_wp2_with fail
  with_reducible refine HC.out.mono ?_
  rintro e w1 ⟨v1, xs, rfl, hown, hcells, hx1⟩
  have HOWN := hid hown
  have HX1 := hid hx1
  have HCE := hid hcells
  obtain ⟨d, hd1, hd2⟩ := cells_terms hcells HMAY.out
  clear hcells hx1
  rcases hown.2 with ⟨rfl, h0⟩ | ⟨g, cap', cur, rfl, hg, hgg, hnc, hcm, hsz, hcur⟩
  · obtain rfl : ts = [] := List.length_eq_zero_iff.1 h0
    clear hown h0 hd1 hd2
    go_wp2_with fail
    with_reducible refine (sort_none_t _ _ _).mono ?_
    rintro e w2 ⟨rfl, rfl⟩
    go_wp2
    refine wp_loop_rounds 1 ?_
    rw [rounds_succ]
    go_wp2
    go_ret
    exact ⟨_, rfl, Terms.nilv _ _ _ _ (by decide), HX1.out⟩
  · obtain ⟨n, hnn⟩ : ∃ n, n = ts.length := ⟨_, rfl⟩
    rw [← hnn] at hown ⊢
    have hnd : n = d.length := by rw [hnn, ← hd1]; simp
    obtain ⟨hsa, hc1, hc2⟩ := own_sortAt hown hd2 hnd
    have hSg : ∀ k, S k → k < w1.heap.size ∧ k ≠ g := fun k hk => ⟨Nat.lt_of_lt_of_le (hS k hk) HX1.out.size, by have := hS k hk; omega⟩
    have HSG := hid hSg
    have hn' : n ≤ 1000000000000 := by omega
    have C := hid (sort_t (tc := fun x : TermIn S w1 => x.c) (cf := fallC) (le := fallL) (cap := cap') d w1 (collect_order hSg) fall_le hnd hsa hc1 hn')
    have HD1 := hid hd1
    have HND := hid hnd
    have HGW : Hid (w.heap.size ≤ g) := hid hg
    unfold maxLen at hc2
    have HNN := hid hnn
    clear hown hd1 hd2 hnd hsa hSg hg hgg hnc hcm hsz hcur hnn
    go_wp2_with fail
    with_reducible refine C.out.mono ?_
    rintro e w2 ⟨rfl, hs2⟩
    have hk2 : Kept S w w2 := (Kept.ext HX1.out hS).trans (Kept.grown hs2.grown (fun k hk => ⟨(HSG.out k hk).1, fun e => (HSG.out k hk).2 (Option.some.inj e)⟩))
    have hx2 : Ext w w2 := ext_grown HX1.out hs2.grown (fun k hk => by
      have : g = k := Option.some.inj hk
      have := HGW.out
      omega)
    have HS2 := hid hs2
    have HX2 := hid hx2
    have HKS : Hid (∀ W, Ext w2 W → Kept S w1 W ∧ ∀ k, S k → k < W.heap.size) := hid (fun W hW =>
      ⟨Kept.grown (grown_ext hs2.grown hW) (fun k hk => ⟨(HSG.out k hk).1, fun e => (HSG.out k hk).2 (Option.some.inj e)⟩), fun k hk => Nat.lt_of_lt_of_le (hS k hk) (hx2.trans hW).size⟩)
    have hp := sortL_perm (le := fallL) d
    have hso := sorted_by (sortL_sorted (fall_le (S := S) (w := w1)).total d)
    have hle := sortL_len (le := fallL) d
    generalize sortL fallL d = q at *
    have HP := hid hp
    have HSO := hid hso
    have HQN : Hid (n = q.length) := hid (by rw [hle]; exact HND.out)
    clear hp hso hle hs2 hk2 hx2
    go_wp2
    go_loopw [0, 2, 3, 4] (fun l p _ _ wr => ∃ (q1 q2 : List (TermIn S w1)) (A : Option Addr) (m cl k : Nat) (ys : List Value) (ps : PZ), Hid (q = q1 ++ q2) ∧ l = .slice A m cl ∧ Hid (m = q2.length) ∧ Hid (0 < m → A = some ⟨g, q1.length * 3, none⟩) ∧ m ≤ cl ∧ cl ≤ 9223372036854775807 ∧ Ext w2 wr ∧ Hid (wr.ownsRow w2.heap.size 76 3 p k ys) ∧ Hid (CellsT (NewOff w2 wr p) wr ys (ofP ps)) ∧ Hid (k = ps.length) ∧ Hid (∀ z, Coll (toQ q2) z → Coll (toQ q) (ps ++ z)) ∧ k ≤ q1.length) (fun l _ _ _ _ => sliceLen l)
    case atStart => exact ⟨[], q, _, n, cap', 0, [], [], rfl, rfl, HQN.out, fun _ => by simp, hc1, by omega, Ext.refl _, World.ownsRow_nil _ _ _ _, rfl, rfl, fun z hz => by simpa using hz, Nat.zero_le _⟩
    case round =>
      obtain ⟨q1, q2, A, m, cl, k, ys, ps, HQ, rfl, HMQ, HA, hmc, hcl, hx, HW, HY, HKK, HCO, hkq⟩ := hrel
      have HX := hid hx
      clear hx
      generalize wr = w4 at *
      cases q2 with
      | nil =>
        obtain rfl : m = 0 := HMQ.out
        have HF : Hid (ps = normP (toP ts)) := hid (by
          have h1 := HCO.out [] .nil
          rw [List.append_nil] at h1
          refine h1.norm ?_ ?_ ?_
          · intro u hu
            obtain ⟨t, ht, rfl⟩ := List.mem_map.1 hu
            obtain ⟨y, -, rfl⟩ := List.mem_map.1 ht
            exact y.may
          · unfold toQ toP
            rw [List.pairwise_map]
            exact HSO.out
          · rw [← HD1.out]
            exact (HP.out.map _).map _)
        go_wp2
        go_ret
        refine ⟨_, rfl, ?_, HX2.out.trans HX.out⟩
        have hc := HY.out
        rw [HF.out] at hc
        have ho := HW.out
        rw [HKK.out, HF.out] at ho
        exact own_terms (by rw [ofP_length]; exact ho) (hc.to (Kept.refl _ _) (fun _ h => ⟨Nat.le_trans HX2.out.size h.1.1, h.1.2⟩)) (fun k h1 h2 => ⟨Nat.le_trans HX2.out.size h1, h2⟩)
      | cons x r =>
        obtain ⟨m, rfl⟩ : ∃ m', m = m' + 1 := ⟨m - 1, by have := HMQ.out; simp at this; omega⟩
        obtain rfl : A = some ⟨g, q1.length * 3, none⟩ := HA.out (by omega)
        have HXS := hid (HS2.out.later HX.out)
        have hq1 : q[q1.length]? = some x := by rw [HQ.out]; exact at_len _ _ _
        obtain ⟨⟨c0, c1, c2⟩, -⟩ := HXS.out.get3 hq1
        simp only [Nat.zero_add] at c0 c1 c2
        have HMR : Hid (m = r.length) := hid (by have := HMQ.out; simpa using this)
        have HLX : Hid (∀ y ∈ q, y.t.c.mag.length ≤ L) := hid (fun y hy => by
          refine HR.out _ ?_
          rw [← HD1.out]
          exact List.mem_map_of_mem (HP.out.mem_iff.1 hy))
        have HXQ : Hid (x ∈ q) := hid (by rw [HQ.out]; simp)
        have CA := hid (whole_add (S := S) (.agg #[.bool x.c.neg, .slice x.c.ma x.c.mn x.c.mc]) _ x.t.c ⟨false, []⟩ w4 ⟨_, by rw [x.neg], x.hm.to (HKS.out w4 HX.out).1 (fun _ h => h)⟩ (zero_int _ _) (HKS.out w4 HX.out).2 (by have := HLX.out x HXQ.out; omega) (by decide))
        clear hq1 HMQ HA
        go_wp2_with fail
        with_reducible refine CA.out.mono ?_
        rintro e w3 ⟨vc, rfl, ⟨vm3, rfl, hu3⟩, hx3⟩
        rw [valI_zeroI, Int.add_zero] at hu3 ⊢
        obtain ⟨am, cm, rfl⟩ := hu3.form
        obtain ⟨z0, hz0⟩ : ∃ z, z = valI x.t.c := ⟨_, rfl⟩
        rw [← hz0] at hu3 ⊢
        have HX3 := hid hx3
        have HU3 := hid hu3
        have HZ0 := hid hz0
        have HBX : Hid (w4.heap.size ≤ w3.heap.size) := hid hx3.size
        clear hu3 hx3 hz0
        obtain ⟨ng0, hng0⟩ : ∃ b, b = (ofI z0).neg := ⟨_, rfl⟩
        obtain ⟨nl0, hnl0⟩ : ∃ b, b = (ofI z0).mag.length := ⟨_, rfl⟩
        rw [← hng0, ← hnl0]
        rw [← hnl0] at HU3
        have HNG0 := hid hng0
        have HNL0 := hid hnl0
        clear hng0 hnl0
        have HU4 : Hid (U32s (NewBut w4 (w3.alloc (.cells #[.bool ng0, .slice am nl0 cm] 72)) w3.heap.size) (w3.alloc (.cells #[.bool ng0, .slice am nl0 cm] 72)) (.slice am nl0 cm) (ofI z0).mag) := hid (HU3.out.to (Kept.alloc (fun k hk => hk.2) _) (fun k hk => ⟨⟨hk.1, by rw [size_alloc]; have := hk.2; omega⟩, by have := hk.2; omega⟩))
        have HX4 := hid (HX3.out.alloc (.cells #[.bool ng0, .slice am nl0 cm] 72))
        obtain ⟨k0, k1, k2, k3⟩ := new2 (Ext.refl (w3.alloc (.cells #[.bool ng0, .slice am nl0 cm] 72)))
        have HK4 := hid (And.intro k0 (And.intro k1 (And.intro k2 k3)))
        clear k0 k1 k2 k3
        go_wp2
        go_loopw [3] (fun nn wx => ∃ (r1 r2 : List (TermIn S w1)) (cn : Nat) (z : Int) (ng : Bool) (am : Option Addr) (nl cm : Nat), Hid (r = r1 ++ r2) ∧ nn = .int .i64 cn ∧ Hid (cn = r1.length + 1) ∧ cn ≤ m + 1 ∧ Hid (∀ y ∈ r1, y.t.m = x.t.m) ∧ Hid (z = valI x.t.c + sumP (toQ r1)) ∧ Hid (ng = (ofI z).neg) ∧ Hid (nl = (ofI z).mag.length) ∧ Ext w4 wx ∧
          wx.cell? ⟨w3.heap.size, 0, none⟩ = some (.bool ng) ∧ wx.cell? ⟨w3.heap.size, 1, none⟩ = some (.slice am nl cm) ∧ wx.frozen? ⟨w3.heap.size, 0, none⟩ = false ∧ wx.frozen? ⟨w3.heap.size, 1, none⟩ = false ∧ Hid (U32s (NewBut w4 wx w3.heap.size) wx (.slice am nl cm) (ofI z).mag)) (fun nn _ => m + 1 - (intOf nn).toNat)
        case atStart => exact ⟨[], r, 1, z0, ng0, am, nl0, cm, rfl, rfl, rfl, by omega, fun y hy => by simp at hy, by show _ = _; rw [HZ0.out]; simp [toQ, toP, sumP], HNG0.out, HNL0.out, HX4.out, HK4.out.1, HK4.out.2.1, HK4.out.2.2.1, HK4.out.2.2.2, HU4.out⟩
        case round =>
          clear HU4 HX4 HK4 HNG0 HNL0 HZ0 HU3 CA
          obtain ⟨r1, r2, cn, z, ng, am, nl, cm, HR12, rfl, HCN, hrm, HSM, HZ, HNG, HNL, hx5, k0, k1, k2, k3, HU5⟩ := hrel
          have HX5 := hid hx5
          have HX25 := hid (HX.out.trans hx5)
          have d0 := hx5.cell c0
          have d1 := hx5.cell c1
          have d2 := hx5.cell c2
          have HKC := hid (And.intro k0 (And.intro k1 (And.intro k2 k3)))
          have HD0 := hid (And.intro d0 (And.intro d1 d2))
          clear hx5
          cases r2 with
          | nil =>
            have hcm : cn = m + 1 := by rw [HCN.out, HMR.out, HR12.out]; simp
            have q1' : decide ((cn : Int) < (m : Int) + 1) = false := decide_eq_false (by omega)
            have HEX : Hid (∀ u ∈ (toQ ([] : List (TermIn S w1))).head?, u.2 ≠ x.t.m) := hid (fun u hu => by simp [toQ, toP] at hu)
            clear hcm
            go_wp2
            refine wp_region_later (by kernel_rfl) (by kernel_rfl) ?_
            repeat (go_big_quiet_step (fail))
            refine wpQuiet_nil ?_
            intro W2 hW2
            have HW2 := hid hW2
            clear q1'
            have HBL : Hid (w3.heap.size < wr.heap.size) := hid (lt_of_cell k0)
            have hk0 := hW2.cell k0
            have hk1 := hW2.cell k1
            have HLZ : Hid ((ofI z).mag.length ≤ 100000000000) := hid (by
              rw [ofI_len, HZ.out]
              refine Nat.le_trans (sum_len (k := L) ?_ ?_ ?_) (by omega)
              · exact lenI_mono (valI_len x.hm.lt) (HLX.out x HXQ.out)
              · intro u hu
                obtain ⟨t, ht, rfl⟩ := List.mem_map.1 hu
                obtain ⟨y', hy', rfl⟩ := List.mem_map.1 ht
                exact lenI_mono (valI_len y'.hm.lt) (HLX.out y' (by rw [HQ.out, HR12.out]; simp [hy']))
              · have h1 := HMR.out
                have h2 := HQN.out
                rw [HQ.out] at h2
                rw [HR12.out] at h1 h2
                have hB2 : B32 ^ 2 = 18446744073709551616 := by decide
                rw [hB2]
                simp [toQ, toP] at h1 h2 ⊢
                omega)
            have HMC : Hid (m + 1 - cn = ([] : List (TermIn S w1)).length ∧ cn = r1.length + 1) := hid (by
              have h1 := HMR.out
              rw [HR12.out] at h1
              have h2 := HCN.out
              simp at h1 ⊢
              omega)
            have HCOL : Hid (∀ z', Coll (toQ ([] : List (TermIn S w1))) z' → Coll (toQ (x :: r)) (oneP z x.t.m ++ z')) := hid (fun z' hz' => by
              have h1 := Coll.group (valI x.t.c, x.t.m) (toQ r1) (toQ ([] : List (TermIn S w1))) z' (fun u hu => by
                obtain ⟨t, ht, rfl⟩ := List.mem_map.1 hu
                obtain ⟨y', hy', rfl⟩ := List.mem_map.1 ht
                exact HSM.out y' hy') HEX.out hz'
              rw [HZ.out, HR12.out]
              have e : toQ (x :: (r1 ++ ([] : List (TermIn S w1)))) = (valI x.t.c, x.t.m) :: toQ r1 ++ toQ ([] : List (TermIn S w1)) := by simp [toQ, toP]
              rw [e]
              exact h1)
            have CS := hid (whole_sign (S := NewBut w4 wr w3.heap.size) (.agg #[.bool ng, .slice am nl cm]) (ofI z) W2 ⟨_, by rw [HNG.out], HU5.out.to (Kept.ext hW2 (fun k hk => hk.1.2)) (fun _ h => h)⟩ (fun k hk => Nat.lt_of_lt_of_le hk.1.2 hW2.size) (by have := HLZ.out; omega))
            have HD2 := hid (And.intro (hW2.cell d0) (And.intro (hW2.cell d1) (hW2.cell d2)))
            have hsgv : signI (valI (ofI z)) = signI z := by rw [valI_ofI]
            clear k0 k1 k2 k3 d0 d1 d2 hW2
            go_wp2_with fail
            with_reducible refine CS.out.mono ?_
            rw [hsgv]
            rintro e w6 ⟨rfl, hx6⟩
            have HX6 := hid (HW2.out.trans hx6)
            obtain ⟨sg, hsg⟩ : ∃ s, s = signI z := ⟨_, rfl⟩
            rw [← hsg]
            have hsr : -1 ≤ sg ∧ sg ≤ 1 := by rw [hsg]; unfold signI; rcases cmpI_cases z 0 with h | h | h <;> omega
            obtain ⟨hsr1, hsr2⟩ := hsr
            have HSG2 := hid hsg
            have hk0' := hx6.cell hk0
            have hk1' := hx6.cell hk1
            have hcm1 : cn ≤ m + 1 := hrm
            by_cases hz : z = 0
            · have hb : (sg != 0) = false := by rw [hsg, hz]; decide
              have HZZ := hid hz
              clear hk0 hk1 hsgv hsg hz hx6
              go_wp2
              go_roundw
              case rel =>
                refine ⟨q1 ++ x :: r1, ([] : List (TermIn S w1)), _, m + 1 - cn, cl - cn, k, ys, ps, ?_, rfl, HMC.out.1, ?_, by omega, by omega, HX.out.trans (HX5.out.trans HX6.out), own_ext HW.out (HX5.out.trans HX6.out), newOff_ext HY.out (HX5.out.trans HX6.out), HKK.out, fun z' hz' => ?_, ?_⟩
                · show _ = _; rw [HQ.out, HR12.out]; simp
                · intro h
                  have h2 := HMC.out.2
                  try rw [if_neg (by omega)]
                  congr 2
                  simp
                  omega
                · have h1 := HCOL.out z' hz'
                  rw [HZZ.out] at h1
                  exact HCO.out z' h1
                · simp; omega
              case measure => have h2 := HMC.out.2; simp only [sliceLen]; omega
            · have hb : (sg != 0) = true := by
                rw [hsg, bne_iff_ne]
                unfold signI cmpI
                split <;> (try split) <;> omega
              clear hk0 hk1 hsgv hsg hx6
              have hx40 : Ext w4 w6 := HX5.out.trans HX6.out
              have HX40 := hid hx40
              have HXR := hid ((Ext.refl w6).drew)
              have HXD := hid hx40.drew
              have S0 : _ ∧ _ ∧ _ := And.intro (HXR.out.cell hk0') (And.intro (HXR.out.cell hk1') ((hx40.drew).cell c2))
              have HU7 : Hid (∀ W, Ext w6 W → U32s (NewBut w4 W w3.heap.size) W (.slice am nl cm) (ofI z).mag) := hid (fun W hW => HU5.out.to (Kept.ext (HX6.out.trans hW) (fun k hk => hk.1.2)) (fun k hk => ⟨⟨hk.1.1, Nat.lt_of_lt_of_le hk.1.2 (HX6.out.trans hW).size⟩, hk.2⟩))
              have CCL := hid (clone_mono (S := S) (.slice x.c.oa x.c.on x.c.oc) x.t.m w6.drew (x.ho.to (HKS.out _ (HX.out.trans HXD.out)).1 (fun _ h => h)) (HKS.out _ (HX.out.trans HXD.out)).2 (Nat.le_trans (mayM_len x.may) (by decide)))
              have HWR := hid (own_ext HW.out HXD.out)
              have HYR := hid (newOff_ext HY.out HXD.out)
              have HKC6 := hid (And.intro hk0' hk1')
              have HB3 : Hid (k + 1 ≤ maxLen) := hid (by have h1 := HQN.out; rw [HQ.out] at h1; simp at h1; unfold maxLen; omega)
              have HB4 : Hid ((k + 1) * 56 ≤ 140737488355328) := hid (by have h1 := HQN.out; rw [HQ.out] at h1; simp at h1; omega)
              have HXDD := hid (HX.out.trans HXD.out)
              clear hx40 hk0' hk1'
              have HKB : Hid (some w3.heap.size ≠ u2.ownBlock) := hid (fun e => by have h1 := (HW.out.lt _ e.symm).2; have h2 := HBX.out; omega)
              have HKG : Hid (some g ≠ u2.ownBlock) := hid (fun e => by have h1 := (HW.out.lt _ e.symm).1; have h2 := HS2.out.old; have h3 := HS2.out.grown.size; omega)
              have hcn : 0 < m + 1 := Nat.succ_pos m
              go_wp2_with fail
              go_region_held3 (fun W => W.cell? ⟨w3.heap.size, 0, none⟩ = some (.bool ng) ∧ W.cell? ⟨w3.heap.size, 1, none⟩ = some (.slice am nl cm) ∧ W.cell? ⟨g, q1.length * 3 + 2, none⟩ = some (.slice x.c.oa x.c.on x.c.oc)) (first | exact S0 | exact S7 | exact ⟨cell_old _ S7.1, cell_old _ S7.2.1, cell_old _ S7.2.2⟩ | exact S9)
                (first
                  | (go_at_call 111; (with_reducible refine CCL.out.mono ?_); rintro e w7 ⟨v7, rfl, hp7, hx7⟩; have HX7 := hid hx7; have S7 : _ ∧ _ ∧ _ := And.intro (HX7.out.cell S0.1) (And.intro (HX7.out.cell S0.2.1) (HX7.out.cell S0.2.2)); have HP7 := hid hp7; obtain ⟨a7, c7, rfl⟩ := hp7.form; obtain ⟨n7, hn7⟩ : ∃ n, n = x.t.m.length := ⟨_, rfl⟩; rw [← hn7]; rw [← hn7] at HP7; have HN7 := hid hn7
                     have HW7 := hid (own_ext (own_ext HWR.out HX7.out) (Ext.alloc (Ext.refl w7) (.cells #[.bool ng, .slice am nl cm, .slice a7 n7 c7] 76))); have HY7 := hid (newOff_ext (newOff_ext HYR.out HX7.out) (Ext.alloc (Ext.refl w7) (.cells #[.bool ng, .slice am nl cm, .slice a7 n7 c7] 76))); have HSRC7 := hid (src_one w7 #[.bool ng, .slice am nl cm, .slice a7 n7 c7] 76 (three_cell rfl rfl rfl) rfl); have HB5 := hid (Nat.le_trans (HXDD.out.trans HX7.out).size (World.grownBy_alloc w7 (.cells #[.bool ng, .slice am nl cm, .slice a7 n7 c7] 76) none).size); have HX27 := hid ((HXDD.out.trans HX7.out).alloc (.cells #[.bool ng, .slice am nl cm, .slice a7 n7 c7] 76)); have HC7 := hid (And.intro (cell_old (.cells #[.bool ng, .slice am nl cm, .slice a7 n7 c7] 76) S7.1) (And.intro (cell_old (.cells #[.bool ng, .slice am nl cm, .slice a7 n7 c7] 76) S7.2.1) (cell_old (.cells #[.bool ng, .slice am nl cm, .slice a7 n7 c7] 76) S7.2.2))); clear hx7 hp7 hn7)
                  | (refine step_append_src rfl (.tmp 47) (.tmp 55) 26 rfl w2.heap.size 76 j0 (.agg #[.bool false, .slice none 0 0, .slice none 0 0]) 3 56 Tryz.underlying26 hj jz0 jz1 jz2 rfl (Nat.succ_pos _) _ k ys rfl HW7.out (some ⟨w7.heap.size, 0, none⟩) 1 1 _ rfl HSRC7.out HB3.out HB4.out HB5.out ?_; intro v9 w9 hown hg hbk; have HW9 := hid hown; have HG9 := hid hg; have HBK := hid hbk; have HX9 := hid (own_grown0 HX27.out HW7.out hg); have S9 : _ ∧ _ ∧ _ := And.intro (hg.cell HC7.out.1 HKB.out) (And.intro (hg.cell HC7.out.2.1 HKB.out) (hg.cell HC7.out.2.2 HKG.out)); clear hown hg hbk))
              all_goals
                go_wp2
                go_roundw
                case rel =>
                  refine ⟨q1 ++ x :: r1, ([] : List (TermIn S w1)), _, m + 1 - cn, cl - cn, k + 1, ys ++ (#[.bool ng, .slice am nl cm, .slice a7 n7 c7] : Array Value).toList, ps ++ [(z, x.t.m)], ?_, rfl, HMC.out.1, ?_, by omega, by omega, HX9.out, HW9.out, ?_, ?_, fun z' hz' => ?_, ?_⟩
                  · show _ = _; rw [HQ.out, HR12.out]; simp
                  · intro h
                    have h2 := HMC.out.2
                    try rw [if_neg (by omega)]
                    congr 2
                    simp
                    omega
                  · have hone : CellsT (NewOff w2 (w7.alloc (.cells #[.bool ng, .slice am nl cm, .slice a7 n7 c7] 76)) u2) (w7.alloc (.cells #[.bool ng, .slice am nl cm, .slice a7 n7 c7] 76)) (#[.bool ng, .slice am nl cm, .slice a7 n7 c7] : Array Value).toList [⟨ofI z, x.t.m⟩] := by
                      rw [HNG.out]
                      refine CellsT.single (t := ⟨ofI z, x.t.m⟩) ((HU7.out _ ((HXR.out.trans HX7.out).alloc _)).to (Kept.refl _ _) (fun j hj => ⟨⟨Nat.le_trans HX.out.size hj.1.1, hj.1.2⟩, fun e => ?_⟩)) ((HP7.out.ext (Ext.alloc (Ext.refl w7) _) (fun j hj => hj.2)).to (Kept.refl _ _) (fun j hj => ⟨⟨Nat.le_trans (HX.out.trans HX40.out).size hj.1, by rw [size_alloc]; have := hj.2; omega⟩, fun e => ?_⟩))
                      · have h1 := (HW.out.lt _ e.symm).2
                        have h2 := hj.1.1
                        omega
                      · have h1 := (HW.out.lt _ e.symm).2
                        have h2 := hj.1
                        have h3 := HX40.out.size
                        simp at h2
                        omega
                    have hall := HY7.out.append hone
                    have e : ofP (ps ++ [(z, x.t.m)]) = ofP ps ++ [⟨ofI z, x.t.m⟩] := by unfold ofP; rw [List.map_append]; rfl
                    show CellsT _ _ _ _
                    rw [e]
                    exact newOff_grown hall HG9.out HBK.out (Nat.le_refl _)
                  · show _ = _; rw [HKK.out]; simp
                  · have h1 := HCO.out _ (HCOL.out z' hz')
                    rw [show oneP z x.t.m = [(z, x.t.m)] by unfold oneP; rw [if_neg hz]] at h1
                    simpa using h1
                  · simp; omega
                case measure => have h2 := HMC.out.2; simp only [sliceLen]; omega
          | cons y r2 =>
            have hcm : cn < m + 1 := by rw [HCN.out, HMR.out, HR12.out]; simp
            have q1' : decide ((cn : Int) < (m : Int) + 1) = true := decide_eq_true (by omega)
            have q2' : (cn : Int) < (m : Int) + 1 := by omega
            have q3' : (0 : Int) ≤ (cn : Int) := by omega
            have hyq : q[q1.length + cn]? = some y := by
              rw [HCN.out, HQ.out, HR12.out, show q1 ++ x :: (r1 ++ y :: r2) = (q1 ++ x :: r1) ++ y :: r2 by simp, show q1.length + (r1.length + 1) = (q1 ++ x :: r1).length by simp]
              exact at_len _ _ _
            have L0 := fun Y : Later wr => ((HS2.out.later (HX25.out.trans Y.h)).get3 hyq).1
            simp only [Nat.zero_add, Nat.add_mul] at L0
            have LX := fun Y : Later wr => Y.h.cell d2
            have a2 := fun Y => (L0 Y).2.2
            have HYC := hid (fun W (hW : Ext wr W) => L0 ⟨W, hW⟩)
            have hod := orderM_may y.may x.may
            have CO := hid (fun Y : Later wr => poly_order (S := S) (.slice y.c.oa y.c.on y.c.oc) (.slice x.c.oa x.c.on x.c.oc) y.t.m x.t.m Y.w' (y.ho.to (HKS.out _ (HX25.out.trans Y.h)).1 (fun _ h => h)) (x.ho.to (HKS.out _ (HX25.out.trans Y.h)).1 (fun _ h => h)) (HKS.out _ (HX25.out.trans Y.h)).2)
            obtain ⟨od1, od2⟩ := orderM_range y.t.m x.t.m
            have HOD := hid hod
            generalize orderM y.t.m x.t.m = od at *
            clear hod L0 hyq
            by_cases h0 : od = 0
            · have h0b : (od == 0) = true := by rw [beq_iff_eq]; exact h0
              have H0 := hid h0
              clear h0
              go_wp2
              refine wp_region_later (by kernel_rfl) (by kernel_rfl) ?_
              repeat (go_big_quiet_step (first | (go_at_call 95; exact Later.done (CO.out _))))
              refine wpQuiet_nil ?_
              intro W2 hW2
              have HW2 := hid hW2
              have HBL : Hid (w3.heap.size < wr.heap.size) := hid (lt_of_cell k0)
              have HLZ : Hid ((ofI z).mag.length ≤ 100000000000) := hid (by
                rw [ofI_len, HZ.out]
                refine Nat.le_trans (sum_len (k := L) ?_ ?_ ?_) (by omega)
                · exact lenI_mono (valI_len x.hm.lt) (HLX.out x HXQ.out)
                · intro u hu
                  obtain ⟨t, ht, rfl⟩ := List.mem_map.1 hu
                  obtain ⟨y', hy', rfl⟩ := List.mem_map.1 ht
                  exact lenI_mono (valI_len y'.hm.lt) (HLX.out y' (by rw [HQ.out, HR12.out]; simp [hy']))
                · have h1 := HMR.out
                  have h2 := HQN.out
                  rw [HQ.out] at h2
                  rw [HR12.out] at h1 h2
                  have hB2 : B32 ^ 2 = 18446744073709551616 := by decide
                  rw [hB2]
                  simp [toQ, toP] at h1 h2 ⊢
                  omega)
              have CA2 := hid (fun W (hW : Ext W2 W) => whole_add (S := fun k => S k ∨ NewBut w4 wr w3.heap.size k) (.agg #[.bool ng, .slice am nl cm]) (.agg #[.bool y.c.neg, .slice y.c.ma y.c.mn y.c.mc]) (ofI z) y.t.c W ⟨_, by rw [HNG.out], HU5.out.to (Kept.ext (HW2.out.trans hW) (fun k hk => hk.1.2)) (fun k hk => .inr hk)⟩ ⟨_, by rw [y.neg], y.hm.to (HKS.out _ (HX25.out.trans (HW2.out.trans hW))).1 (fun k hk => .inl hk)⟩ (fun k hk => by
                rcases hk with hk | hk
                · exact (HKS.out _ (HX25.out.trans (HW2.out.trans hW))).2 k hk
                · exact Nat.lt_of_lt_of_le hk.1.2 (HW2.out.trans hW).size) HLZ.out (by have := HLX.out y (by rw [HQ.out, HR12.out]; simp); omega))
              have hd := hW2.drew
              have s0 := hW2.cell k0
              have s1 := hW2.cell k1
              obtain ⟨s2, s3, -⟩ := HYC.out _ hW2
              have HFR := hid (fun W (hW : Ext wr W) => And.intro (hW.cell k0) (And.intro (hW.cell k1) (And.intro (hW.free HBL.out k2) (hW.free HBL.out k3))))
              have HWD := hid hd
              have HX20 := hid ((Ext.refl W2).drew)
              clear a2 LX k0 k1 k2 k3 d0 d1 d2 CO hW2 hd q1' q2' q3'
              have q2' : (cn : Int) < (m : Int) + 1 := by omega
              have q3' : (0 : Int) ≤ (cn : Int) := by omega
              go_wp2_with fail
              go_region_with (first
                  | (go_at_call 110; (with_reducible refine (CA2.out _ HX20.out).mono ?_); rintro e w5 ⟨v5, rfl, ⟨vm5, rfl, hu5⟩, hx5⟩; have HX5' := hid (HWD.out.trans hx5); obtain ⟨e0, e1, e2, e3⟩ := HFR.out _ HX5'.out; rw [valI_ofI] at hu5 ⊢; have HU6 := hid hu5; obtain ⟨am5, cm5, rfl⟩ := hu5.form; obtain ⟨ng5, hng5⟩ : ∃ b, b = (ofI (z + valI y.t.c)).neg := ⟨_, rfl⟩; obtain ⟨nl5, hnl5⟩ : ∃ b, b = (ofI (z + valI y.t.c)).mag.length := ⟨_, rfl⟩; rw [← hng5, ← hnl5]; rw [← hnl5] at HU6; have HNG5 := hid hng5; have HNL5 := hid hnl5; have HE5 := hid (And.intro e0 (And.intro e1 (And.intro e2 e3))); have HX55 := hid hx5; clear hu5 hx5 hng5 hnl5))
              all_goals
                go_wp2
                go_roundw
                case rel =>
                  refine ⟨r1 ++ [y], r2, cn + 1, z + valI y.t.c, ng5, am5, nl5, cm5, ?_, by go_num, ?_, by omega, ?_, ?_, HNG5.out, HNL5.out, HX5.out.trans ((Ext.refl wr).trans (HX5'.out)) |>.set2 HBX.out _ _, (two_set _ _ HE5.out.1 HE5.out.2.1).1, (two_set _ _ HE5.out.1 HE5.out.2.1).2, free_set (free_set HE5.out.2.2.1), free_set (free_set HE5.out.2.2.2), ?_⟩
                  · show _ = _; rw [HR12.out]; simp
                  · show _ = _; rw [HCN.out]; simp
                  · intro u hu
                    rcases List.mem_append.1 hu with hu | hu
                    · exact HSM.out u hu
                    · rw [List.mem_singleton.1 hu]
                      have h1 := HOD.out
                      rw [H0.out] at h1
                      exact (compareM_zero y.may x.may).1 h1.symm
                  · show _ = _
                    rw [HZ.out, show toQ (r1 ++ [y]) = toQ r1 ++ [(valI y.t.c, y.t.m)] by simp [toQ, toP], sumP_snoc]
                    simp only
                    omega
                  · refine hid (HU6.out.to (Kept.set2 (fun h => ?_) _ _) (fun k hk => ⟨⟨?_, ?_⟩, ?_⟩))
                    · have h1 := h.1
                      have h2 := HW2.out.size
                      have h3 := HBL.out
                      simp at h1
                      omega
                    · have h1 := hk.1
                      have h2 := HW2.out.size
                      have h3 := HX5.out.size
                      simp at h1
                      omega
                    · rw [size_set2]; exact hk.2
                    · have h1 := hk.1
                      have h2 := HW2.out.size
                      have h3 := HBL.out
                      simp at h1
                      omega
                case measure => simp only [intOf]; omega
            · have h0b : (od == 0) = false := by rw [beq_eq_false_iff_ne]; exact h0
              have HEX : Hid (∀ u ∈ (toQ (y :: r2)).head?, u.2 ≠ x.t.m) := hid (fun u hu => by
                simp [toQ, toP] at hu
                subst hu
                intro e
                simp only at e
                have h1 := HOD.out
                rw [e, compareM_self _ x.may] at h1
                exact h0 h1)
              have H0 := hid h0
              clear h0
              go_wp2
              refine wp_region_later (by kernel_rfl) (by kernel_rfl) ?_
              repeat (go_big_quiet_step (first | (go_at_call 95; exact Later.done (CO.out _))))
              refine wpQuiet_nil ?_
              intro W2 hW2
              have HW2 := hid hW2
              clear a2 LX CO q1' q2' q3'
              have HBL : Hid (w3.heap.size < wr.heap.size) := hid (lt_of_cell k0)
              have hk0 := hW2.cell k0
              have hk1 := hW2.cell k1
              have HLZ : Hid ((ofI z).mag.length ≤ 100000000000) := hid (by
                rw [ofI_len, HZ.out]
                refine Nat.le_trans (sum_len (k := L) ?_ ?_ ?_) (by omega)
                · exact lenI_mono (valI_len x.hm.lt) (HLX.out x HXQ.out)
                · intro u hu
                  obtain ⟨t, ht, rfl⟩ := List.mem_map.1 hu
                  obtain ⟨y', hy', rfl⟩ := List.mem_map.1 ht
                  exact lenI_mono (valI_len y'.hm.lt) (HLX.out y' (by rw [HQ.out, HR12.out]; simp [hy']))
                · have h1 := HMR.out
                  have h2 := HQN.out
                  rw [HQ.out] at h2
                  rw [HR12.out] at h1 h2
                  have hB2 : B32 ^ 2 = 18446744073709551616 := by decide
                  rw [hB2]
                  simp [toQ, toP] at h1 h2 ⊢
                  omega)
              have HMC : Hid (m + 1 - cn = (y :: r2).length ∧ cn = r1.length + 1) := hid (by
                have h1 := HMR.out
                rw [HR12.out] at h1
                have h2 := HCN.out
                simp at h1 ⊢
                omega)
              have HCOL : Hid (∀ z', Coll (toQ (y :: r2)) z' → Coll (toQ (x :: r)) (oneP z x.t.m ++ z')) := hid (fun z' hz' => by
                have h1 := Coll.group (valI x.t.c, x.t.m) (toQ r1) (toQ (y :: r2)) z' (fun u hu => by
                  obtain ⟨t, ht, rfl⟩ := List.mem_map.1 hu
                  obtain ⟨y', hy', rfl⟩ := List.mem_map.1 ht
                  exact HSM.out y' hy') HEX.out hz'
                rw [HZ.out, HR12.out]
                have e : toQ (x :: (r1 ++ (y :: r2))) = (valI x.t.c, x.t.m) :: toQ r1 ++ toQ (y :: r2) := by simp [toQ, toP]
                rw [e]
                exact h1)
              have CS := hid (whole_sign (S := NewBut w4 wr w3.heap.size) (.agg #[.bool ng, .slice am nl cm]) (ofI z) W2 ⟨_, by rw [HNG.out], HU5.out.to (Kept.ext hW2 (fun k hk => hk.1.2)) (fun _ h => h)⟩ (fun k hk => Nat.lt_of_lt_of_le hk.1.2 hW2.size) (by have := HLZ.out; omega))
              have HD2 := hid (And.intro (hW2.cell d0) (And.intro (hW2.cell d1) (hW2.cell d2)))
              have hsgv : signI (valI (ofI z)) = signI z := by rw [valI_ofI]
              clear k0 k1 k2 k3 d0 d1 d2 hW2
              go_wp2_with fail
              with_reducible refine CS.out.mono ?_
              rw [hsgv]
              rintro e w6 ⟨rfl, hx6⟩
              have HX6 := hid (HW2.out.trans hx6)
              obtain ⟨sg, hsg⟩ : ∃ s, s = signI z := ⟨_, rfl⟩
              rw [← hsg]
              have hsr : -1 ≤ sg ∧ sg ≤ 1 := by rw [hsg]; unfold signI; rcases cmpI_cases z 0 with h | h | h <;> omega
              obtain ⟨hsr1, hsr2⟩ := hsr
              have HSG2 := hid hsg
              have hk0' := hx6.cell hk0
              have hk1' := hx6.cell hk1
              have hcm1 : cn ≤ m + 1 := hrm
              by_cases hz : z = 0
              · have hb : (sg != 0) = false := by rw [hsg, hz]; decide
                have HZZ := hid hz
                clear hk0 hk1 hsgv hsg hz hx6
                go_wp2
                go_roundw
                case rel =>
                  refine ⟨q1 ++ x :: r1, (y :: r2), _, m + 1 - cn, cl - cn, k, ys, ps, ?_, rfl, HMC.out.1, ?_, by omega, by omega, HX.out.trans (HX5.out.trans HX6.out), own_ext HW.out (HX5.out.trans HX6.out), newOff_ext HY.out (HX5.out.trans HX6.out), HKK.out, fun z' hz' => ?_, ?_⟩
                  · show _ = _; rw [HQ.out, HR12.out]; simp
                  · intro h
                    have h2 := HMC.out.2
                    try rw [if_neg (by omega)]
                    congr 2
                    simp
                    omega
                  · have h1 := HCOL.out z' hz'
                    rw [HZZ.out] at h1
                    exact HCO.out z' h1
                  · simp; omega
                case measure => have h2 := HMC.out.2; simp only [sliceLen]; omega
              · have hb : (sg != 0) = true := by
                  rw [hsg, bne_iff_ne]
                  unfold signI cmpI
                  split <;> (try split) <;> omega
                clear hk0 hk1 hsgv hsg hx6
                have hx40 : Ext w4 w6 := HX5.out.trans HX6.out
                have HX40 := hid hx40
                have HXR := hid ((Ext.refl w6).drew)
                have HXD := hid hx40.drew
                have S0 : _ ∧ _ ∧ _ := And.intro (HXR.out.cell hk0') (And.intro (HXR.out.cell hk1') ((hx40.drew).cell c2))
                have HU7 : Hid (∀ W, Ext w6 W → U32s (NewBut w4 W w3.heap.size) W (.slice am nl cm) (ofI z).mag) := hid (fun W hW => HU5.out.to (Kept.ext (HX6.out.trans hW) (fun k hk => hk.1.2)) (fun k hk => ⟨⟨hk.1.1, Nat.lt_of_lt_of_le hk.1.2 (HX6.out.trans hW).size⟩, hk.2⟩))
                have CCL := hid (clone_mono (S := S) (.slice x.c.oa x.c.on x.c.oc) x.t.m w6.drew (x.ho.to (HKS.out _ (HX.out.trans HXD.out)).1 (fun _ h => h)) (HKS.out _ (HX.out.trans HXD.out)).2 (Nat.le_trans (mayM_len x.may) (by decide)))
                have HWR := hid (own_ext HW.out HXD.out)
                have HYR := hid (newOff_ext HY.out HXD.out)
                have HKC6 := hid (And.intro hk0' hk1')
                have HB3 : Hid (k + 1 ≤ maxLen) := hid (by have h1 := HQN.out; rw [HQ.out] at h1; simp at h1; unfold maxLen; omega)
                have HB4 : Hid ((k + 1) * 56 ≤ 140737488355328) := hid (by have h1 := HQN.out; rw [HQ.out] at h1; simp at h1; omega)
                have HXDD := hid (HX.out.trans HXD.out)
                clear hx40 hk0' hk1'
                have HKB : Hid (some w3.heap.size ≠ u2.ownBlock) := hid (fun e => by have h1 := (HW.out.lt _ e.symm).2; have h2 := HBX.out; omega)
                have HKG : Hid (some g ≠ u2.ownBlock) := hid (fun e => by have h1 := (HW.out.lt _ e.symm).1; have h2 := HS2.out.old; have h3 := HS2.out.grown.size; omega)
                have hcn : 0 < m + 1 := Nat.succ_pos m
                go_wp2_with fail
                go_region_held3 (fun W => W.cell? ⟨w3.heap.size, 0, none⟩ = some (.bool ng) ∧ W.cell? ⟨w3.heap.size, 1, none⟩ = some (.slice am nl cm) ∧ W.cell? ⟨g, q1.length * 3 + 2, none⟩ = some (.slice x.c.oa x.c.on x.c.oc)) (first | exact S0 | exact S7 | exact ⟨cell_old _ S7.1, cell_old _ S7.2.1, cell_old _ S7.2.2⟩ | exact S9)
                  (first
                    | (go_at_call 111; (with_reducible refine CCL.out.mono ?_); rintro e w7 ⟨v7, rfl, hp7, hx7⟩; have HX7 := hid hx7; have S7 : _ ∧ _ ∧ _ := And.intro (HX7.out.cell S0.1) (And.intro (HX7.out.cell S0.2.1) (HX7.out.cell S0.2.2)); have HP7 := hid hp7; obtain ⟨a7, c7, rfl⟩ := hp7.form; obtain ⟨n7, hn7⟩ : ∃ n, n = x.t.m.length := ⟨_, rfl⟩; rw [← hn7]; rw [← hn7] at HP7; have HN7 := hid hn7
                       have HW7 := hid (own_ext (own_ext HWR.out HX7.out) (Ext.alloc (Ext.refl w7) (.cells #[.bool ng, .slice am nl cm, .slice a7 n7 c7] 76))); have HY7 := hid (newOff_ext (newOff_ext HYR.out HX7.out) (Ext.alloc (Ext.refl w7) (.cells #[.bool ng, .slice am nl cm, .slice a7 n7 c7] 76))); have HSRC7 := hid (src_one w7 #[.bool ng, .slice am nl cm, .slice a7 n7 c7] 76 (three_cell rfl rfl rfl) rfl); have HB5 := hid (Nat.le_trans (HXDD.out.trans HX7.out).size (World.grownBy_alloc w7 (.cells #[.bool ng, .slice am nl cm, .slice a7 n7 c7] 76) none).size); have HX27 := hid ((HXDD.out.trans HX7.out).alloc (.cells #[.bool ng, .slice am nl cm, .slice a7 n7 c7] 76)); have HC7 := hid (And.intro (cell_old (.cells #[.bool ng, .slice am nl cm, .slice a7 n7 c7] 76) S7.1) (And.intro (cell_old (.cells #[.bool ng, .slice am nl cm, .slice a7 n7 c7] 76) S7.2.1) (cell_old (.cells #[.bool ng, .slice am nl cm, .slice a7 n7 c7] 76) S7.2.2))); clear hx7 hp7 hn7)
                    | (refine step_append_src rfl (.tmp 47) (.tmp 55) 26 rfl w2.heap.size 76 j0 (.agg #[.bool false, .slice none 0 0, .slice none 0 0]) 3 56 Tryz.underlying26 hj jz0 jz1 jz2 rfl (Nat.succ_pos _) _ k ys rfl HW7.out (some ⟨w7.heap.size, 0, none⟩) 1 1 _ rfl HSRC7.out HB3.out HB4.out HB5.out ?_; intro v9 w9 hown hg hbk; have HW9 := hid hown; have HG9 := hid hg; have HBK := hid hbk; have HX9 := hid (own_grown0 HX27.out HW7.out hg); have S9 : _ ∧ _ ∧ _ := And.intro (hg.cell HC7.out.1 HKB.out) (And.intro (hg.cell HC7.out.2.1 HKB.out) (hg.cell HC7.out.2.2 HKG.out)); clear hown hg hbk))
                all_goals
                  go_wp2
                  go_roundw
                  case rel =>
                    refine ⟨q1 ++ x :: r1, (y :: r2), _, m + 1 - cn, cl - cn, k + 1, ys ++ (#[.bool ng, .slice am nl cm, .slice a7 n7 c7] : Array Value).toList, ps ++ [(z, x.t.m)], ?_, rfl, HMC.out.1, ?_, by omega, by omega, HX9.out, HW9.out, ?_, ?_, fun z' hz' => ?_, ?_⟩
                    · show _ = _; rw [HQ.out, HR12.out]; simp
                    · intro h
                      have h2 := HMC.out.2
                      try rw [if_neg (by omega)]
                      congr 2
                      simp
                      omega
                    · have hone : CellsT (NewOff w2 (w7.alloc (.cells #[.bool ng, .slice am nl cm, .slice a7 n7 c7] 76)) u2) (w7.alloc (.cells #[.bool ng, .slice am nl cm, .slice a7 n7 c7] 76)) (#[.bool ng, .slice am nl cm, .slice a7 n7 c7] : Array Value).toList [⟨ofI z, x.t.m⟩] := by
                        rw [HNG.out]
                        refine CellsT.single (t := ⟨ofI z, x.t.m⟩) ((HU7.out _ ((HXR.out.trans HX7.out).alloc _)).to (Kept.refl _ _) (fun j hj => ⟨⟨Nat.le_trans HX.out.size hj.1.1, hj.1.2⟩, fun e => ?_⟩)) ((HP7.out.ext (Ext.alloc (Ext.refl w7) _) (fun j hj => hj.2)).to (Kept.refl _ _) (fun j hj => ⟨⟨Nat.le_trans (HX.out.trans HX40.out).size hj.1, by rw [size_alloc]; have := hj.2; omega⟩, fun e => ?_⟩))
                        · have h1 := (HW.out.lt _ e.symm).2
                          have h2 := hj.1.1
                          omega
                        · have h1 := (HW.out.lt _ e.symm).2
                          have h2 := hj.1
                          have h3 := HX40.out.size
                          simp at h2
                          omega
                      have hall := HY7.out.append hone
                      have e : ofP (ps ++ [(z, x.t.m)]) = ofP ps ++ [⟨ofI z, x.t.m⟩] := by unfold ofP; rw [List.map_append]; rfl
                      show CellsT _ _ _ _
                      rw [e]
                      exact newOff_grown hall HG9.out HBK.out (Nat.le_refl _)
                    · show _ = _; rw [HKK.out]; simp
                    · have h1 := HCO.out _ (HCOL.out z' hz')
                      rw [show oneP z x.t.m = [(z, x.t.m)] by unfold oneP; rw [if_neg hz]] at h1
                      simpa using h1
                    · simp; omega
                  case measure => have h2 := HMC.out.2; simp only [sliceLen]; omega
end Go.Proofs.YthplgldclilccaaGreat

namespace Go.Proofs.YthplgldclilccaaGreat
open Go.RowKit

set_option maxRecDepth 100000 in
set_option maxHeartbeats 1000000 in
theorem poly_all {S : Nat → Prop} (v : Value) (ls : List (List RTerm)) (w : World) (h : Polys S w v ls) (hS : ∀ k, S k → k < w.heap.size) (hr : smallL ls) :
    Calls Tryz.prog 78 #[v] w fun e w' => e = .returned (.bool (ls.all mayT)) ∧ Ext w w' := by
  have hnot : ∀ (x : Bool) (w : World), (Op.unary .not (.bool x)).run Tryz.prog w = .ok (.bool (!x)) w := fun _ _ => rfl
  have H := hid h
  have HR := hid hr
  have hll := h.len_le
  obtain ⟨A, c, rfl⟩ := h.form
  obtain ⟨n, hnn⟩ : ∃ n, n = ls.length := ⟨_, rfl⟩
  rw [← hnn] at H hll ⊢
  have HN := hid hnn
  clear h hr hnn
  go_enter Tryz.func78, Tryz.ntmps78
  go_wp2
  go_loopw [7] (fun i wr => ∃ k : Nat, k ≤ n ∧ i = .int .i64 k ∧ Ext w wr ∧ Hid ((ls.take k).all mayT = true)) (fun i _ => n - (intOf i).toNat)
  case atStart => exact ⟨0, Nat.zero_le _, rfl, Ext.refl _, rfl⟩
  case round =>
    obtain ⟨k, hk, rfl, hx, HA⟩ := hrel
    have HX := hid hx
    by_cases hlt : k < n
    · obtain ⟨p, hp⟩ := some_of_lt (l := ls) (j := k) (by rw [← HN.out]; exact hlt)
      obtain ⟨bl, off, vp, rfl, -, hn1, hm1, hSb, h1, h2⟩ := (H.out.ext hx hS).cellAt hp
      have HP := hid hp
      have HRP := hid (HR.out p (List.mem_of_getElem? hp))
      have C := hid (poly_may (S := S) vp p wr h2 (lt_ext hS hx) HRP.out)
      obtain ⟨ap, cp, rfl⟩ := h2.form
      clear h2 hp hx
      cases hm : mayT p with
      | true =>
        have HM := hid hm
        rw [hm] at C
        clear hm
        go_wp2_with fail
        with_reducible refine C.out.mono ?_
        rintro e w2 ⟨rfl, hx2⟩
        have HX2 := hid (HX.out.trans hx2)
        clear hx2
        go_wp2
        go_roundw
        case rel => exact ⟨k + 1, by omega, by go_num, HX2.out, by show _ = _; rw [List.take_add_one, HP.out, List.all_append, HA.out]; simp [HM.out]⟩
        case measure => simp only [intOf]; omega
      | false =>
        have HM := hid hm
        rw [hm] at C
        clear hm
        go_wp2_with fail
        with_reducible refine C.out.mono ?_
        rintro e w2 ⟨rfl, hx2⟩
        have HX2 := hid (HX.out.trans hx2)
        clear hx2
        go_wp2
        go_ret
        exact ⟨by rw [List.all_eq_false.2 ⟨p, List.mem_of_getElem? HP.out, by rw [HM.out]; exact Bool.false_ne_true⟩]; rfl, HX2.out⟩
    · obtain rfl : k = n := by omega
      have HE : Hid (ls.all mayT = true) := hid (by have := HA.out; rwa [List.take_of_length_le (by rw [← HN.out]; exact Nat.le_refl _)] at this)
      clear hx
      go_wp2
      go_ret
      exact ⟨by rw [HE.out]; rfl, HX.out⟩

theorem two_polys {S : Nat → Prop} {w : World} {vp vq : Value} {ps qs : List RTerm} (hp : Terms S w vp ps) (hq : Terms S w vq qs) (hS : ∀ k, S k → k < w.heap.size) (T : TypeId) :
    Polys (fun k => S k ∨ k = w.heap.size) (w.alloc (.cells #[vp, vq] T)) (.slice (some ⟨w.heap.size, 0, none⟩) 2 2) [ps, qs] := by
  have hk : Kept S w (w.alloc (.cells #[vp, vq] T)) := Kept.alloc hS _
  refine ⟨w.heap.size, 0, ⟨_, 2, rfl, Nat.le_refl _, by decide, fun _ => rfl, fun _ => .inr rfl⟩, fun j p hj => ?_⟩
  have hj2 := lt_of_some hj
  simp only [List.length_cons, List.length_nil] at hj2
  match j, hj with
  | 0, hj =>
    obtain rfl : ps = p := by simpa using hj
    exact ⟨vp, cell_new _ _ _ rfl rfl, hp.to hk (fun _ h => .inl h)⟩
  | 1, hj =>
    obtain rfl : qs = p := by simpa using hj
    exact ⟨vq, cell_new _ _ _ rfl rfl, hq.to hk (fun _ h => .inl h)⟩
  | j + 2, _ => omega
theorem two_lt {S : Nat → Prop} {w : World} (hS : ∀ k, S k → k < w.heap.size) (o : Obj) : ∀ k, (S k ∨ k = w.heap.size) → k < (w.alloc o).heap.size := fun k hk => by
  rw [size_alloc]
  rcases hk with hk | rfl
  · have := hS k hk; omega
  · omega
theorem mayT_mono {ts : List RTerm} (h : mayT ts = true) : ∀ t ∈ ts, mayM t.m = true := fun t ht => by
  have := (mayFrom_pair h).1 t ht
  simp only [mayTerm, Bool.and_eq_true] at this
  exact this.2
theorem toP_append (p q : List RTerm) : toP (p ++ q) = toP p ++ toP q := List.map_append
theorem toP_len (p : List RTerm) : (toP p).length = p.length := List.length_map _

/-- a polynomial that was told with OK -/
def OkPoly (w : World) (p : PZ) : Ending → World → Prop := fun e w' => ∃ v', e = .returned (.tuple #[v', .int .i64 0]) ∧ Terms (New w w') w' v' (ofP p) ∧ Ext w w'
/-- an error, and no polynomial -/
def ErrPoly (w : World) (c : Int) : Ending → World → Prop := fun e w' => e = .returned (.tuple #[.slice none 0 0, .int .i64 c]) ∧ Ext w w'

set_option maxRecDepth 100000 in
set_option maxHeartbeats 1000000 in
theorem poly_add {S : Nat → Prop} (vp vq : Value) (ps qs : List RTerm) (w : World) (L : Nat) (hp : Terms S w vp ps) (hq : Terms S w vq qs) (hS : ∀ k, S k → k < w.heap.size) (hmp : mayT ps = true) (hmq : mayT qs = true)
    (hrp : ∀ t ∈ ps, t.c.mag.length ≤ L) (hrq : ∀ t ∈ qs, t.c.mag.length ≤ L) (hL : L ≤ 10000000000) (hn : ps.length + qs.length ≤ 1000000000000) :
    Calls Tryz.prog 35 #[vp, vq] w (OkPoly w (normP (toP ps ++ toP qs))) := by
  have hnot : ∀ (x : Bool) (w : World), (Op.unary .not (.bool x)).run Tryz.prog w = .ok (.bool (!x)) w := fun _ _ => rfl
  have hx1 : Ext w (w.alloc (.cells #[vp, vq] 26)) := Ext.alloc (Ext.refl w) _
  have CA := poly_all _ [ps, qs] (w.alloc (.cells #[vp, vq] 26)) (two_polys hp hq hS _) (two_lt hS _) (fun p hp => by
    simp only [List.mem_cons, List.not_mem_nil, or_false] at hp
    rcases hp with rfl | rfl
    · exact fun t ht => Nat.le_trans (hrp t ht) (by omega)
    · exact fun t ht => Nat.le_trans (hrq t ht) (by omega))
  rw [show [ps, qs].all mayT = true by simp [hmp, hmq]] at CA
  have HCA := hid CA
  have HX1 := hid hx1
  have CC := fun (W : World) (hW : Ext w W) => concat_polys _ [ps, qs] (W.alloc (.cells #[vp, vq] 26)) (two_polys (hp.ext hW hS) (hq.ext hW hS) (lt_ext hS hW) _) (two_lt (lt_ext hS hW) _) (by simpa using hn)
  have hfl : [ps, qs].flatten = ps ++ qs := by simp
  rw [hfl] at CC
  have HCC := hid CC
  have CL := fun (W : World) (v : Value) (h : Terms (fun k => k < W.heap.size) W v (ps ++ qs)) => poly_collect v (ps ++ qs) W L h (fun _ h => h) (fun t ht => by
    rcases List.mem_append.1 ht with ht | ht
    · exact mayT_mono hmp t ht
    · exact mayT_mono hmq t ht) (fun t ht => by
    rcases List.mem_append.1 ht with ht | ht
    · exact hrp t ht
    · exact hrq t ht) hL (by simpa using hn)
  rw [toP_append] at CL
  have HCL := hid CL
  have HSS := hid hS
  obtain ⟨ap, cp, rfl⟩ := hp.form
  obtain ⟨aq, cq, rfl⟩ := hq.form
  clear CA CC CL hp hq hx1 hmp hmq hrp hrq hfl hS
  unfold OkPoly
  generalize normP (toP ps ++ toP qs) = r at *
  go_enter Tryz.func35, Tryz.ntmps35
  go_wp2_with fail
  with_reducible refine HCA.out.mono ?_
  rintro e w1 ⟨rfl, hx⟩
  have HX := hid (HX1.out.trans hx)
  clear hx
  go_wp2_with fail
  with_reducible refine (HCC.out _ HX.out).mono ?_
  rintro e w2 ⟨v2, xs, rfl, hown, hcells, hx2⟩
  have HT : Hid (Terms (fun k => k < w2.heap.size) w2 v2 (ps ++ qs)) := hid (own_terms hown (hcells.to (Kept.refl _ _) (fun k hk => Nat.lt_of_lt_of_le (two_lt (lt_ext HSS.out HX.out) _ k hk) hx2.size)) (fun _ _ h => h))
  have HX2 := hid (HX.out.trans ((Ext.alloc (Ext.refl _) _).trans hx2))
  clear hown hcells hx2
  go_wp2_with fail
  with_reducible refine (HCL.out _ _ HT.out).mono ?_
  rintro e w3 ⟨v3, rfl, hp3, hx3⟩
  have HX3 := hid (HX2.out.trans hx3)
  have HP3 := hid (hp3.to (Kept.refl _ _) (New.mono HX2.out))
  clear hp3 hx3
  go_wp2
  go_ret2
  exact ⟨v3, rfl, HP3.out, HX3.out⟩

set_option maxRecDepth 100000 in
set_option maxHeartbeats 1000000 in
theorem poly_add_no {S : Nat → Prop} (vp vq : Value) (ps qs : List RTerm) (w : World) (hp : Terms S w vp ps) (hq : Terms S w vq qs) (hS : ∀ k, S k → k < w.heap.size) (hm : (mayT ps && mayT qs) = false)
    (hrp : smallT ps) (hrq : smallT qs) : Calls Tryz.prog 35 #[vp, vq] w (ErrPoly w 2) := by
  have hnot : ∀ (x : Bool) (w : World), (Op.unary .not (.bool x)).run Tryz.prog w = .ok (.bool (!x)) w := fun _ _ => rfl
  have hx1 : Ext w (w.alloc (.cells #[vp, vq] 26)) := Ext.alloc (Ext.refl w) _
  have CA := poly_all _ [ps, qs] (w.alloc (.cells #[vp, vq] 26)) (two_polys hp hq hS _) (two_lt hS _) (fun p hp => by
    simp only [List.mem_cons, List.not_mem_nil, or_false] at hp
    rcases hp with rfl | rfl
    · exact hrp
    · exact hrq)
  rw [show [ps, qs].all mayT = false by simpa using hm] at CA
  have HCA := hid CA
  have HX1 := hid hx1
  obtain ⟨ap, cp, rfl⟩ := hp.form
  obtain ⟨aq, cq, rfl⟩ := hq.form
  clear CA hp hq hx1 hm
  go_enter Tryz.func35, Tryz.ntmps35
  go_wp2_with fail
  with_reducible refine HCA.out.mono ?_
  rintro e w1 ⟨rfl, hx⟩
  have HX := hid (HX1.out.trans hx)
  clear hx
  go_wp2
  go_ret2
  exact ⟨rfl, HX.out⟩
end Go.Proofs.YthplgldclilccaaGreat

namespace Go.Proofs.YthplgldclilccaaGreat
open Go.RowKit Go.Sort

section
variable {α : Type} [Inhabited α] {pc : α → PCell} {w : World} {b o : Nat} {cf : α → α → Int} {le : α → α → Bool}

abbrev CmpP (g : Nat) (pc : α → PCell) (cf : α → α → Int) (w : World) (b : Nat) : Prop :=
  ∀ W, w.grownBy W (some b) → ∀ x y : α, Calls Tryz.prog g #[.slice (pc x).a (pc x).n (pc x).c, .slice (pc y).a (pc y).n (pc y).c] W fun e w' => e = .returned (.int .i64 (cf x y)) ∧ Ext W w'
set_option maxRecDepth 100000 in
set_option maxHeartbeats 4000000 in
theorem insertion_p (cap : Nat) (P X T : List α) (W : World) (hc : CmpP 47 pc cf w b) (hl : CmpLe cf le) (h : SortAt (encP pc) 1 w b o (P ++ X ++ T) W) (_hcap : (P ++ X ++ T).length ≤ cap) (hcap2 : (P ++ X ++ T).length ≤ 1000000000000) :
    Calls Tryz.prog 129 #[.slice (some ⟨b, o, none⟩) (P ++ X ++ T).length cap, .int .i64 P.length, .int .i64 (P.length + X.length : Nat), .func (.func 47) #[] #[]] W
      fun e w' => e = .returned (.tuple #[]) ∧ SortAt (encP pc) 1 w b o (P ++ sortL le X ++ T) w' := by
  have H := hid h
  have HC := hid hc
  have HL := hid hl
  clear h hc hl
  obtain ⟨n, hn⟩ : ∃ n, n = (P ++ X ++ T).length := ⟨_, rfl⟩
  obtain ⟨m, hm⟩ : ∃ m, m = P.length + X.length := ⟨_, rfl⟩
  obtain ⟨a, ha⟩ : ∃ a, a = P.length := ⟨_, rfl⟩
  rw [← hn] at _hcap hcap2 ⊢
  rw [← hm, ← ha]
  have hmn : m ≤ n := by rw [hm, hn]; simp
  have ham : a ≤ m := by rw [ha, hm]; simp
  have HN := hid hn
  have HA := hid ha
  have HM := hid hm
  clear hn ha hm
  cases X with
  | nil =>
    obtain rfl : m = a := by rw [HM.out, HA.out]; simp
    go_enter Tryz.func129, Tryz.ntmps129
    go_wp2
    refine wp_loop_rounds 1 ?_
    rw [rounds_succ]
    go_wp2
    go_end0
    exact ⟨rfl, H.out⟩
  | cons x0 X =>
    have ham : a < m := by rw [HA.out, HM.out]; simp
    go_enter Tryz.func129, Tryz.ntmps129
    go_wp2
    go_loopw [8] (fun vi wr => ∃ (i : Nat) (X1 X2 : List α), vi = .int .i64 i ∧ a < i ∧ i ≤ m ∧ Hid (i = a + X1.length) ∧ Hid (x0 :: X = X1 ++ X2) ∧ SortAt (encP pc) 1 w b o (P ++ sortL le X1 ++ X2 ++ T) wr) (fun vi _ => m - (intOf vi).toNat)
    case atStart => exact ⟨a + 1, [x0], X, by go_num, by omega, by omega, rfl, rfl, by rw [sortL_one]; simpa using H.out⟩
    case round =>
      obtain ⟨i, X1, X2, rfl, hai, him, HI, HX, hs⟩ := hrel
      have HS := hid hs
      clear hs
      by_cases hlt : i < m
      · cases X2 with
        | nil =>
          exfalso
          have h1 := HI.out
          have h2 := congrArg List.length HX.out
          have h3 := HM.out
          have h4 := HA.out
          simp at h2 h3
          omega
        | cons x X2 =>
          go_wp2
          go_loopw [9] (fun vj wr2 => ∃ (j : Nat) (S1 S2 : List α), vj = .int .i64 j ∧ a ≤ j ∧ j ≤ i ∧ Hid (j = a + S1.length) ∧ Hid (sortL le X1 = S1 ++ S2) ∧ Hid (∀ y ∈ S2, le y x = false) ∧ SortAt (encP pc) 1 w b o (P ++ S1 ++ x :: S2 ++ X2 ++ T) wr2) (fun vj _ => (intOf vj).toNat)
          case atStart => exact ⟨i, sortL le X1, [], rfl, by omega, Nat.le_refl _, by rw [HI.out, sortL_len]; rfl, by show _ = _; simp, fun y hy => by simp at hy, by simpa using HS.out⟩
          case round =>
            obtain ⟨j, S1, S2, rfl, haj, hji, HJ, HSS, HS2, hs2⟩ := hrel
            rcases (show S1 = [] ∨ ∃ L z, S1 = L ++ [z] by simpa using List.eq_nil_or_concat S1) with rfl | ⟨S1', y, rfl⟩
            · obtain rfl : j = a := by rw [HJ.out]; rfl
              have hb : decide ((j : Int) > (j : Int)) = false := by simp
              have HD := hid hs2
              clear hs2
              go_wp2
              refine wp_region_later (by kernel_rfl) (by kernel_rfl) ?_
              repeat (go_big_quiet_step (fail))
              refine wpQuiet_nil ?_
              intro W2 hW2
              have HD2 := hid (HD.out.later hW2)
              clear hW2
              go_wp2
              go_roundw
              case rel =>
                refine ⟨i + 1, X1 ++ [x], X2, by go_num, by omega, by omega, ?_, ?_, ?_⟩
                · show _ = _; have := HI.out; simp; omega
                · show _ = _; rw [HX.out]; simp
                · have e := mergeL_put (le := le) (S1 := []) (S2 := S2) (x := x) (by simp) HS2.out
                  rw [sortL_append HL.out.total, sortL_one, HSS.out, e]
                  have := HD2.out
                  simpa using this
              case measure => simp [intOf]; omega
            · obtain ⟨jp, rfl⟩ : ∃ jp, j = jp + 1 := ⟨j - 1, by have := HJ.out; simp at this; omega⟩
              have hj : jp = (P ++ S1').length := by have := HJ.out; have := HA.out; simp at *; omega
              have hjn : jp + 1 < n := by omega
              have g0 : (P ++ (S1' ++ [y]) ++ x :: S2 ++ X2 ++ T)[jp]? = some y := by rw [hj]; simp
              have g1 : (P ++ (S1' ++ [y]) ++ x :: S2 ++ X2 ++ T)[jp + 1]? = some x := by
                rw [show jp + 1 = (P ++ S1' ++ [y]).length by simp [hj, Nat.add_assoc], show P ++ (S1' ++ [y]) ++ x :: S2 ++ X2 ++ T = (P ++ S1' ++ [y]) ++ (x :: (S2 ++ X2 ++ T)) by simp]
                exact at_len _ _ _
              have HD := hid hs2
              have HG := hid (And.intro g0 g1)
              have HJP := hid hj
              have L0 := fun Y : Later wr => (hs2.later Y.h).get1 g0
              have L1 := fun Y : Later wr => (hs2.later Y.h).get1 g1
              have LC := fun Y : Later wr => HC.out Y.w' (hs2.later Y.h).grown x y
              have a0 := fun Y => (L0 Y).1
              have b0 := fun Y => (L1 Y).1
              obtain ⟨r1, r2⟩ := HL.out.range x y
              have HLE := hid (HL.out.eq x y)
              generalize cf x y = c at *
              have HLC := hid LC
              clear L0 L1 LC hs2 g0 g1 hj
              by_cases hcc : c < 0
              · have hle : le y x = false := by rw [HLE.out]; exact decide_eq_false (by omega)
                have HLF := hid hle
                clear hle
                have q1 : (a : Int) < (jp : Int) + 1 := by have := HJ.out; simp at this; omega
                have q2 : (jp : Int) + 1 < (n : Int) := by omega
                have q3 : (jp : Int) < (n : Int) := by omega
                have q4 : (0 : Int) ≤ (jp : Int) + 1 := by omega
                have q5 : ((jp : Int) + 1).toNat = jp + 1 := by omega
                have q6 : IntKind.i64.wrap (jp : Int) = (jp : Int) := by rw [IntKind.wrap_i64]; omega
                go_wp2
                refine wp_region_later (by kernel_rfl) (by kernel_rfl) ?_
                repeat (go_big_quiet_step (first | (go_at_call 47; exact Later.done (HLC.out _))))
                refine wpQuiet_nil ?_
                intro W2 hW2
                clear a0 b0
                have HD2 := hid (HD.out.later hW2)
                clear hW2
                obtain ⟨c0, f0⟩ := HD2.out.get1 HG.out.1
                obtain ⟨d0, k0⟩ := HD2.out.get1 HG.out.2
                have HD3 := hid (HD2.out.swap1 HG.out.2 HG.out.1 (d' := P ++ S1' ++ x :: (y :: S2) ++ X2 ++ T) (by
                  have e := swp_down (P ++ S1') [] (S2 ++ X2 ++ T) y x
                  simp only [List.append_assoc, List.cons_append, List.nil_append, List.length_nil, Nat.add_zero] at e ⊢
                  rw [HJP.out]
                  exact e))
                go_wp2
                go_big_region
                all_goals go_wp2
                go_roundw
                case rel =>
                  refine ⟨jp, S1', y :: S2, rfl, ?_, by omega, ?_, ?_, ?_, ?_⟩
                  · have := HJ.out; simp at this; omega
                  · have := HJ.out; simp at this; show _ = _; omega
                  · show _ = _; rw [HSS.out]; simp
                  · intro z hz
                    rcases List.mem_cons.1 hz with rfl | hz
                    · exact HLF.out
                    · exact HS2.out z hz
                  · exact HD3.out.drew
                case measure => simp [intOf]
              · have hle : le y x = true := by rw [HLE.out]; exact decide_eq_true (by omega)
                have HLT := hid hle
                clear hle
                have q1 : (a : Int) < (jp : Int) + 1 := by have := HJ.out; simp at this; omega
                have q2 : (jp : Int) + 1 < (n : Int) := by omega
                have q3 : (jp : Int) < (n : Int) := by omega
                have q4 : (0 : Int) ≤ (jp : Int) + 1 := by omega
                have q5 : ((jp : Int) + 1).toNat = jp + 1 := by omega
                have q6 : IntKind.i64.wrap (jp : Int) = (jp : Int) := by rw [IntKind.wrap_i64]; omega
                have q7 : ¬ c < 0 := hcc
                go_wp2
                refine wp_region_later (by kernel_rfl) (by kernel_rfl) ?_
                repeat (go_big_quiet_step (first | (go_at_call 47; exact Later.done (HLC.out _))))
                refine wpQuiet_nil ?_
                intro W2 hW2
                clear a0 b0
                have HD2 := hid (HD.out.later hW2)
                clear hW2
                go_wp2
                go_roundw
                case rel =>
                  refine ⟨i + 1, X1 ++ [x], X2, by go_num, by omega, by omega, ?_, ?_, ?_⟩
                  · show _ = _; have := HI.out; simp; omega
                  · show _ = _; rw [HX.out]; simp
                  · have e := mergeL_put (le := le) (S1 := S1' ++ [y]) (S2 := S2) (x := x) (by
                      refine SortedL.last HL.out.total ?_ HLT.out
                      have := sortL_sorted HL.out.total X1
                      rw [HSS.out] at this
                      exact (List.pairwise_append.1 this).1) HS2.out
                    rw [sortL_append HL.out.total, sortL_one, HSS.out, e]
                    have := HD2.out
                    simpa using this
                case measure => simp [intOf]; omega
      · obtain rfl : i = m := by omega
        have hX2 : X2 = [] := by
          have h1 := HI.out
          have h2 := congrArg List.length HX.out
          have h3 := HM.out
          have h4 := HA.out
          simp at h2 h3
          exact List.length_eq_zero_iff.1 (by omega)
        subst hX2
        have HF : Hid (SortAt (encP pc) 1 w b o (P ++ sortL le (x0 :: X) ++ T) wr) := by
          have h1 := HS.out
          have h2 := HX.out
          rw [List.append_nil] at h2
          rw [h2]
          exact hid (by simpa using h1)
        go_wp2
        go_end0
        exact ⟨rfl, HF.out⟩
end
end Go.Proofs.YthplgldclilccaaGreat

namespace Go.Proofs.YthplgldclilccaaGreat
open Go.RowKit Go.Sort

section
variable {α : Type} [Inhabited α] {pc : α → PCell} {w : World} {b o : Nat}

set_option maxRecDepth 100000 in
set_option maxHeartbeats 4000000 in
theorem swap_range_p (cap : Nat) (P U M V Q : List α) (n : Nat) (cv : Value) (W : World) (hu : U.length = n) (hv : V.length = n) (h : SortAt (encP pc) 1 w b o (P ++ U ++ M ++ V ++ Q) W) (_hcap : (P ++ U ++ M ++ V ++ Q).length ≤ cap) (hcap2 : (P ++ U ++ M ++ V ++ Q).length ≤ 1000000000000) :
    Calls Tryz.prog 154 #[.slice (some ⟨b, o, none⟩) (P ++ U ++ M ++ V ++ Q).length cap, .int .i64 P.length, .int .i64 (P.length + n + M.length : Nat), .int .i64 n, cv] W
      fun e w' => e = .returned (.tuple #[]) ∧ SortAt (encP pc) 1 w b o (P ++ V ++ M ++ U ++ Q) w' := by
  have H := hid h
  have HU := hid hu
  have HV := hid hv
  clear h
  obtain ⟨l, hl⟩ : ∃ l, l = (P ++ U ++ M ++ V ++ Q).length := ⟨_, rfl⟩
  obtain ⟨m, hm⟩ : ∃ m, m = P.length + n + M.length := ⟨_, rfl⟩
  obtain ⟨a, ha⟩ : ∃ a, a = P.length := ⟨_, rfl⟩
  rw [← hl] at _hcap hcap2 ⊢
  rw [← hm, ← ha]
  have hmn : m + n ≤ l := by rw [hm, hl]; simp; omega
  have ham : a + n ≤ m := by rw [ha, hm]; omega
  have HL := hid hl
  have HA := hid ha
  have HM := hid hm
  clear hl ha hm hu hv
  go_enter Tryz.func154, Tryz.ntmps154
  go_wp2
  go_loopw [10] (fun vi wr => ∃ (i : Nat) (U1 U2 V1 V2 : List α), vi = .int .i64 i ∧ i ≤ n ∧ Hid (i = U1.length) ∧ Hid (i = V1.length) ∧ Hid (U = U1 ++ U2) ∧ Hid (V = V1 ++ V2) ∧ SortAt (encP pc) 1 w b o (P ++ V1 ++ U2 ++ M ++ U1 ++ V2 ++ Q) wr) (fun vi _ => n - (intOf vi).toNat)
  case atStart => exact ⟨0, [], U, [], V, rfl, by omega, rfl, rfl, rfl, rfl, by simpa using H.out⟩
  case round =>
    obtain ⟨i, U1, U2, V1, V2, rfl, hin, HI, HI2, HUU, HVV, hs⟩ := hrel
    have HS := hid hs
    clear hs
    by_cases hlt : i < n
    · cases U2 with
      | nil =>
        exfalso
        have h1 := HI.out
        have h2 := HU.out
        rw [HUU.out] at h2
        simp at h2
        omega
      | cons x U2 =>
        cases V2 with
        | nil =>
          exfalso
          have h1 := HI2.out
          have h2 := HV.out
          rw [HVV.out] at h2
          simp at h2
          omega
        | cons y V2 =>
          have hx : a + i = (P ++ V1).length := by have := HA.out; have := HI2.out; simp; omega
          have hy : m + i = (P ++ V1).length + 1 + (U2 ++ M ++ U1).length := by
            have h1 := HI.out
            have h2 := HU.out
            have h3 := HM.out
            have h4 := HI2.out
            rw [HUU.out] at h2
            simp at h2 ⊢
            omega
          have g0 : (P ++ V1 ++ x :: U2 ++ M ++ U1 ++ y :: V2 ++ Q)[a + i]? = some x := by
            rw [hx, show P ++ V1 ++ x :: U2 ++ M ++ U1 ++ y :: V2 ++ Q = (P ++ V1) ++ x :: (U2 ++ M ++ U1 ++ y :: V2 ++ Q) by simp]
            exact at_len _ _ _
          have g1 : (P ++ V1 ++ x :: U2 ++ M ++ U1 ++ y :: V2 ++ Q)[m + i]? = some y := by
            rw [hy, show (P ++ V1).length + 1 + (U2 ++ M ++ U1).length = (P ++ V1 ++ x :: U2 ++ M ++ U1).length by simp; omega, show P ++ V1 ++ x :: U2 ++ M ++ U1 ++ y :: V2 ++ Q = (P ++ V1 ++ x :: U2 ++ M ++ U1) ++ y :: (V2 ++ Q) by simp]
            exact at_len _ _ _
          obtain ⟨c0, f0⟩ := HS.out.get1 g0
          obtain ⟨d0, k0⟩ := HS.out.get1 g1
          have HD := hid (HS.out.swap1 g0 g1 (d' := P ++ V1 ++ y :: U2 ++ M ++ U1 ++ x :: V2 ++ Q) (by
            have e := swp_up (P ++ V1) (U2 ++ M ++ U1) (V2 ++ Q) x y
            rw [hx, hy]
            simp only [List.append_assoc, List.cons_append] at e ⊢
            exact e))
          clear g0 g1 hx hy
          have q1 : (a : Int) + (i : Int) < (l : Int) := by omega
          have q2 : (m : Int) + (i : Int) < (l : Int) := by omega
          have q3 : (0 : Int) ≤ (a : Int) + (i : Int) := by omega
          have q4 : (0 : Int) ≤ (m : Int) + (i : Int) := by omega
          have q5 : ((a : Int) + (i : Int)).toNat = a + i := by omega
          have q6 : ((m : Int) + (i : Int)).toNat = m + i := by omega
          go_wp2
          go_big_region
          all_goals go_wp2
          go_roundw
          case rel =>
            refine ⟨i + 1, U1 ++ [x], U2, V1 ++ [y], V2, by go_num, by omega, ?_, ?_, ?_, ?_, ?_⟩
            · show _ = _; rw [HI.out]; simp
            · show _ = _; rw [HI2.out]; simp
            · show _ = _; rw [HUU.out]; simp
            · show _ = _; rw [HVV.out]; simp
            · have := HD.out.drew
              simpa using this
          case measure => simp [intOf]; omega
    · obtain rfl : i = n := by omega
      have h1 : U2 = [] := by
        have h1 := HI.out
        have h2 := HU.out
        rw [HUU.out] at h2
        simp at h2
        exact List.length_eq_zero_iff.1 (by omega)
      have h2 : V2 = [] := by
        have h1 := HI2.out
        have h2 := HV.out
        rw [HVV.out] at h2
        simp at h2
        exact List.length_eq_zero_iff.1 (by omega)
      subst h1 h2
      have HF : Hid (SortAt (encP pc) 1 w b o (P ++ V ++ M ++ U ++ Q) wr) := by
        have := HS.out
        rw [HUU.out, HVV.out]
        exact hid (by simpa using this)
      go_wp2
      go_end0
      exact ⟨rfl, HF.out⟩

theorem swap_range_p' {cap l : Nat} {za zb zn : Int} {cv : Value} {cur : List α} (P U M V Q : List α) (W : World) (hcur : cur = P ++ U ++ M ++ V ++ Q) (hl : l = cur.length) (hza : za = P.length) (hzb : zb = P.length + U.length + M.length) (hzn : zn = U.length) (hv : V.length = U.length)
    (h : SortAt (encP pc) 1 w b o cur W) (hcap : l ≤ cap) (hcap2 : l ≤ 1000000000000) :
    Calls Tryz.prog 154 #[.slice (some ⟨b, o, none⟩) l cap, .int .i64 za, .int .i64 zb, .int .i64 zn, cv] W
      fun e w' => e = .returned (.tuple #[]) ∧ SortAt (encP pc) 1 w b o (P ++ V ++ M ++ U ++ Q) w' := by
  subst hcur hl hza hzn
  obtain rfl : zb = ((P.length + U.length + M.length : Nat) : Int) := by rw [hzb]; omega
  exact swap_range_p cap P U M V Q U.length cv W rfl hv h hcap hcap2

set_option maxRecDepth 100000 in
set_option maxHeartbeats 4000000 in
theorem rotate_p {cap l : Nat} {za zm zb : Int} {cv : Value} {cur : List α} (P X Y Q : List α) (W : World) (hcur : cur = P ++ X ++ Y ++ Q) (hl : l = cur.length) (hza : za = P.length) (hzm : zm = P.length + X.length) (hzb : zb = P.length + X.length + Y.length)
    (h : SortAt (encP pc) 1 w b o cur W) (hx : X ≠ []) (hy : Y ≠ []) (hcap : l ≤ cap) (hcap2 : l ≤ 1000000000000) :
    Calls Tryz.prog 147 #[.slice (some ⟨b, o, none⟩) l cap, .int .i64 za, .int .i64 zm, .int .i64 zb, cv] W
      fun e w' => e = .returned (.tuple #[]) ∧ SortAt (encP pc) 1 w b o (P ++ Y ++ X ++ Q) w' := by
  have hx0 : 0 < X.length := List.length_pos_iff.2 hx
  have hy0 : 0 < Y.length := List.length_pos_iff.2 hy
  have H := hid h
  obtain ⟨m, hm⟩ : ∃ m, m = P.length + X.length := ⟨_, rfl⟩
  obtain ⟨a, ha⟩ : ∃ a, a = P.length := ⟨_, rfl⟩
  obtain ⟨i0, hi0⟩ : ∃ a, a = X.length := ⟨_, rfl⟩
  obtain ⟨j0, hj0⟩ : ∃ a, a = Y.length := ⟨_, rfl⟩
  obtain rfl : za = a := by omega
  obtain rfl : zm = m := by omega
  obtain ⟨B, hB⟩ : ∃ B, B = m + j0 := ⟨_, rfl⟩
  obtain rfl : zb = (B : Int) := by omega
  have HB := hid hB
  have hmB : m ≤ B := by omega
  have hBl : B ≤ l := by rw [hl, hcur, hB, hm, hj0]; simp; omega
  have hml : m + j0 ≤ l := by rw [hl, hcur, hm, hj0]; simp; omega
  have ham : m = a + i0 := by omega
  have HM := hid ham
  have HLL := hid hl
  have HCUR := hid hcur
  have HAA := hid ha
  have HII := hid hi0
  have HJJ := hid hj0
  have hai : a ≤ m := by omega
  have hi1 : 1 ≤ i0 := by omega
  have hj1 : 1 ≤ j0 := by omega
  have w1 : IntKind.i64.wrap ((m : Int) - (a : Int)) = (i0 : Int) := by rw [IntKind.wrap_i64]; omega
  have W1 := hid w1
  clear h hx hy hx0 hy0 hza hzm hzb hl hcur ha hi0 hj0 hm ham w1 hB
  go_enter Tryz.func147, Tryz.ntmps147
  go_wp2
  go_loopw [10, 11] (fun vi vj wr => ∃ (i j : Nat) (P' X' Y' Q' : List α), vi = .int .i64 i ∧ vj = .int .i64 j ∧ 1 ≤ i ∧ 1 ≤ j ∧ i ≤ m ∧ m + j ≤ l ∧ Hid (i = X'.length) ∧ Hid (j = Y'.length) ∧ Hid (m = P'.length + X'.length) ∧ Hid (P' ++ Y' ++ X' ++ Q' = P ++ Y ++ X ++ Q) ∧ SortAt (encP pc) 1 w b o (P' ++ X' ++ Y' ++ Q') wr) (fun vi vj _ => (intOf vi).toNat + (intOf vj).toNat)
  case atStart => exact ⟨i0, j0, P, X, Y, Q, by have := HM.out; congr 1; omega, by have := HB.out; congr 1; omega, hi1, hj1, by have := HM.out; omega, hml, HII.out, HJJ.out, by show _ = _; rw [HM.out, HAA.out, HII.out], rfl, by have := H.out; rw [HCUR.out] at this; exact this⟩
  case round =>
    obtain ⟨i, j, P', X', Y', Q', rfl, rfl, hi, hj, him, hmj, HI, HJ, HMM, HE, hs⟩ := hrel
    have HS := hid hs
    have HLC : Hid (l = (P' ++ X' ++ Y' ++ Q').length) := hid (by
      have h1 := HLL.out
      have h2 := congrArg List.length HE.out
      rw [HCUR.out] at h1
      simp at h1 h2 ⊢
      omega)
    clear hs
    rcases (show i = j ∨ j < i ∨ i < j by omega) with rfl | hlt | hlt
    · have C := hid (swap_range_p' (cap := cap) (l := l) (za := (m : Int) - (i : Int)) (zb := m) (zn := i) (cv := cv) P' X' [] Y' Q' wr (by simp) HLC.out (by have := HMM.out; have := HI.out; omega) (by have := HMM.out; simp; omega) (by have := HI.out; omega) (by rw [← HI.out, ← HJ.out]) HS.out hcap hcap2)
      have q0 : ((i : Int) != (i : Int)) = false := by simp
      go_wp2_with fail
      refine C.out.mono ?_
      rintro e w2 ⟨rfl, hs2⟩
      have HF := hid hs2
      clear hs2
      go_wp2
      go_end0
      refine ⟨rfl, ?_⟩
      have := HF.out
      rw [← HE.out]
      simpa using this
    · obtain ⟨X1, X2, hX, hX1⟩ : ∃ X1 X2, X' = X1 ++ X2 ∧ X1.length = j := ⟨X'.take j, X'.drop j, (List.take_append_drop j X').symm, by rw [List.length_take]; have := HI.out; omega⟩
      subst hX
      have HX1 := hid hX1
      clear hX1
      have C := hid (swap_range_p' (cap := cap) (l := l) (za := (m : Int) - (i : Int)) (zb := m) (zn := j) (cv := cv) P' X1 X2 Y' Q' wr (by simp) HLC.out (by have := HMM.out; have := HI.out; omega) (by have := HMM.out; simp at this; omega) (by have := HX1.out; omega) (by rw [HX1.out, ← HJ.out]) HS.out hcap hcap2)
      have q0 : ((i : Int) != (j : Int)) = true := by simp; omega
      have q1 : (i : Int) > (j : Int) := by omega
      go_wp2_with fail
      refine C.out.mono ?_
      rintro e w2 ⟨rfl, hs2⟩
      have HF := hid hs2
      clear hs2
      go_wp2
      go_roundw
      case rel =>
        refine ⟨i - j, j, P' ++ Y', X2, X1, Q', by congr 1; omega, rfl, by omega, hj, by omega, hmj, ?_, ?_, ?_, ?_, ?_⟩
        · show _ = _; have := HI.out; have := HX1.out; simp at *; omega
        · exact HX1.out.symm
        · show _ = _; have := HMM.out; have := HX1.out; have := HJ.out; simp at *; omega
        · show _ = _; rw [← HE.out]; simp
        · have := HF.out
          simpa using this
      case measure => simp [intOf]; omega
    · obtain ⟨Y1, Y2, hY, hY2⟩ : ∃ Y1 Y2, Y' = Y1 ++ Y2 ∧ Y2.length = i := ⟨Y'.take (j - i), Y'.drop (j - i), (List.take_append_drop _ Y').symm, by rw [List.length_drop]; have := HJ.out; omega⟩
      subst hY
      have HY2 := hid hY2
      clear hY2
      have C := hid (swap_range_p' (cap := cap) (l := l) (za := (m : Int) - (i : Int)) (zb := (m : Int) + (j : Int) - (i : Int)) (zn := i) (cv := cv) P' X' Y1 Y2 Q' wr (by simp) HLC.out (by have := HMM.out; have := HI.out; omega) (by have := HMM.out; have := HJ.out; have := HY2.out; simp at *; omega) (by have := HI.out; omega) (by rw [HY2.out, ← HI.out]) HS.out hcap hcap2)
      have q0 : ((i : Int) != (j : Int)) = true := by simp; omega
      have q1 : ¬ (i : Int) > (j : Int) := by omega
      go_wp2_with fail
      refine C.out.mono ?_
      rintro e w2 ⟨rfl, hs2⟩
      have HF := hid hs2
      clear hs2
      go_wp2
      go_roundw
      case rel =>
        refine ⟨i, j - i, P', Y2, Y1, X' ++ Q', rfl, by congr 1; omega, hi, by omega, him, by omega, ?_, ?_, ?_, ?_, ?_⟩
        · exact HY2.out.symm
        · show _ = _; have := HJ.out; have := HY2.out; simp at *; omega
        · show _ = _; have := HMM.out; have := HY2.out; have := HI.out; omega
        · show _ = _; rw [← HE.out]; simp
        · have := HF.out
          simpa using this
      case measure => simp [intOf]; omega
end
end Go.Proofs.YthplgldclilccaaGreat

namespace Go.Proofs.YthplgldclilccaaGreat
open Go.RowKit Go.Sort

section
variable {α : Type} [Inhabited α] {pc : α → PCell} {w : World} {b o : Nat} {cf : α → α → Int} {le : α → α → Bool}

set_option maxRecDepth 100000 in
set_option maxHeartbeats 4000000 in
theorem sym_one_p {cap l : Nat} {a m e : Nat} (P B T : List α) (x : α) (cur : List α) (W : World) (hc : CmpP 47 pc cf w b) (hcl : CmpLe cf le) (hcur : cur = P ++ x :: B ++ T) (hl : l = cur.length) (ha : a = P.length) (hm : m = a + 1) (he : e = a + 1 + B.length)
    (h : SortAt (encP pc) 1 w b o cur W) (hB : SortedL le B) (_hcap : l ≤ cap) (hcap2 : l ≤ 1000000000000) :
    Calls Tryz.prog 130 #[.slice (some ⟨b, o, none⟩) l cap, .int .i64 a, .int .i64 m, .int .i64 e, .func (.func 47) #[] #[]] W
      fun r w' => r = .returned (.tuple #[]) ∧ SortAt (encP pc) 1 w b o (P ++ mergeL le [x] B ++ T) w' := by
  have H := hid h
  have HC := hid hc
  have HL := hid hcl
  have HCUR := hid hcur
  have HLL := hid hl
  have HA := hid ha
  have hml : e ≤ l := by rw [hl, hcur, he, ha]; simp; omega
  have hae : m ≤ e := by omega
  have HM := hid hm
  have HE := hid he
  clear h hc hcl hcur hl ha he
  have hm1 : m ≤ a + 1 := by omega
  have hm2 : a + 1 ≤ m := by omega
  have q0 : ((m : Int) - (a : Int) == 1) = true := by rw [beq_iff_eq]; omega
  clear hm
  have gx : cur[a]? = some x := by rw [HCUR.out, HA.out, show P ++ x :: B ++ T = P ++ x :: (B ++ T) by simp]; exact at_len _ _ _
  have HGX := hid gx
  clear gx
  go_enter Tryz.func130, Tryz.ntmps130
  go_wp2
  go_loopw [10, 11] (fun vi vj wr => ∃ i j : Nat, vi = .int .i64 i ∧ vj = .int .i64 j ∧ m ≤ i ∧ i ≤ j ∧ j ≤ e ∧ Hid (i = m ∨ ∃ z, cur[i - 1]? = some z ∧ le x z = false) ∧ Hid (j = e ∨ ∃ z, cur[j]? = some z ∧ le x z = true) ∧ SortAt (encP pc) 1 w b o cur wr) (fun vi vj _ => (intOf vj).toNat - (intOf vi).toNat)
  case atStart => exact ⟨m, e, rfl, rfl, Nat.le_refl _, hae, Nat.le_refl _, .inl rfl, .inl rfl, H.out⟩
  case round =>
    obtain ⟨i, j, rfl, rfl, hmi, hij, hje, HI, HJ, hs⟩ := hrel
    have HS := hid hs
    by_cases hlt : i < j
    · obtain ⟨h, hh⟩ : ∃ h, h = (i + j) / 2 := ⟨_, rfl⟩
      have hh1 : i ≤ h := by omega
      have hh2 : h < j := by omega
      obtain ⟨z, hz⟩ := some_of_lt (l := cur) (j := h) (by rw [← HLL.out]; omega)
      have HZ := hid hz
      have q1 : ((i : Int) + (j : Int)) / 2 = (h : Int) := by omega
      have L0 := fun Y : Later wr => (hs.later Y.h).get1 hz
      have L1 := fun Y : Later wr => (hs.later Y.h).get1 HGX.out
      have LC := fun Y : Later wr => HC.out Y.w' (hs.later Y.h).grown z x
      have a0 := fun Y => (L0 Y).1
      have b0 := fun Y => (L1 Y).1
      obtain ⟨r1, r2⟩ := HL.out.range z x
      have HLE := hid (HL.out.eq z x)
      have HH := hid hh
      generalize cf z x = c at *
      have HLC := hid LC
      clear L0 L1 LC hs hz hh
      have q2 : (h : Int) < (l : Int) := by omega
      have q3 : (a : Int) < (l : Int) := by omega
      by_cases hcc : c < 0
      · go_wp2
        refine wp_region_later (by kernel_rfl) (by kernel_rfl) ?_
        repeat (go_big_quiet_step (first | (go_at_call 47; exact Later.done (HLC.out _))))
        refine wpQuiet_nil ?_
        intro W2 hW2
        clear a0 b0
        have HD2 := hid (HS.out.later hW2)
        clear hW2
        go_wp2
        go_roundw
        case rel =>
          refine ⟨h + 1, j, by go_num, rfl, by omega, by omega, hje, .inr ⟨z, by rw [Nat.add_sub_cancel]; exact HZ.out, ?_⟩, HJ, HD2.out⟩
          rw [HLE.out]; exact decide_eq_false (by omega)
        case measure => simp only [intOf]; omega
      · have q4 : ¬ c < 0 := hcc
        go_wp2
        refine wp_region_later (by kernel_rfl) (by kernel_rfl) ?_
        repeat (go_big_quiet_step (first | (go_at_call 47; exact Later.done (HLC.out _))))
        refine wpQuiet_nil ?_
        intro W2 hW2
        clear a0 b0
        have HD2 := hid (HS.out.later hW2)
        clear hW2
        go_wp2
        go_roundw
        case rel =>
          refine ⟨i, h, rfl, rfl, hmi, hh1, by omega, HI, .inr ⟨z, HZ.out, ?_⟩, HD2.out⟩
          rw [HLE.out]; exact decide_eq_true (by omega)
        case measure => simp only [intOf]; omega
    · obtain rfl : i = j := by omega
      obtain ⟨t, ht⟩ : ∃ t, t = i - m := ⟨_, rfl⟩
      have htB : t ≤ B.length := by have := HE.out; omega
      have hcur' : ∀ k, k < B.length → cur[m + k]? = B[k]? := fun k hk => by
        rw [HCUR.out, show P ++ x :: B ++ T = (P ++ [x]) ++ B ++ T by simp]
        exact mid_at (by have := HA.out; simp; omega) hk
      have e1 := cut_low HL.out.total hB (x := x) (t := t) (by
        rcases HI.out with h | ⟨z, h1, h2⟩
        · exact .inl (by omega)
        · rcases (show t = 0 ∨ 0 < t by omega) with h0 | h0
          · exact .inl h0
          · refine .inr ⟨z, ?_, h2⟩
            rw [← hcur' _ (by omega), ← h1]
            congr 1
            omega)
      have e2 := cut_high HL.out.total hB (x := x) (t := t) (by
        rcases HJ.out with h | ⟨z, h1, h2⟩
        · exact .inl (by have := HE.out; omega)
        · rcases (show t = B.length ∨ t < B.length by omega) with h0 | h0
          · exact .inl h0
          · refine .inr ⟨z, ?_, h2⟩
            rw [← hcur' _ h0, ← h1]
            congr 1
            omega)
      have hmg := mergeL_put' e1 e2
      rw [List.take_append_drop] at hmg
      have HMG := hid hmg
      have hb1 : (B.take t).length = t := by rw [List.length_take]; omega
      have HB := hid (List.take_append_drop t B)
      generalize B.take t = B1 at *
      generalize B.drop t = B2 at *
      have HB1 := hid hb1
      have HT := hid ht
      have hti : i = a + t + 1 := by omega
      have HTI := hid hti
      have hs0 := HS.out
      rw [HCUR.out, ← HB.out] at hs0
      have HS0 := hid hs0
      have hil : i ≤ l := by omega
      clear hs hcur' e1 e2 hmg hb1 ht hti hs0 htB
      go_wp2
      go_loopw [13] (fun vk wr => ∃ (k : Nat) (C1 C2 : List α), vk = .int .i64 k ∧ k < i ∧ Hid (k = a + C1.length) ∧ Hid (B1 = C1 ++ C2) ∧ SortAt (encP pc) 1 w b o (P ++ C1 ++ x :: C2 ++ B2 ++ T) wr) (fun vk _ => i - (intOf vk).toNat)
      case atStart => exact ⟨a, [], B1, rfl, by omega, rfl, rfl, by simpa using HS0.out⟩
      case round =>
        obtain ⟨k, C1, C2, rfl, hki, HK, HC12, hs⟩ := hrel
        have HS := hid hs
        clear hs
        by_cases hlt : k + 1 < i
        · cases C2 with
          | nil =>
            exfalso
            have h1 := HC12.out
            have h2 := HB1.out
            have h3 := HK.out
            have h4 := HTI.out
            rw [h1] at h2
            simp at h2
            omega
          | cons y C2 =>
            have hk := HK.out
            have hk' : k = (P ++ C1).length := by rw [hk, HA.out]; simp
            have g0 : (P ++ C1 ++ x :: (y :: C2) ++ B2 ++ T)[k]? = some x := by
              rw [hk', show P ++ C1 ++ x :: (y :: C2) ++ B2 ++ T = (P ++ C1) ++ x :: (y :: C2 ++ B2 ++ T) by simp]
              exact at_len _ _ _
            have g1 : (P ++ C1 ++ x :: (y :: C2) ++ B2 ++ T)[k + 1]? = some y := by
              rw [hk', show (P ++ C1).length + 1 = (P ++ C1 ++ [x]).length by simp; omega, show P ++ C1 ++ x :: (y :: C2) ++ B2 ++ T = (P ++ C1 ++ [x]) ++ y :: (C2 ++ B2 ++ T) by simp]
              exact at_len _ _ _
            obtain ⟨c0, f0⟩ := HS.out.get1 g0
            obtain ⟨d0, k0⟩ := HS.out.get1 g1
            have HD := hid (HS.out.swap1 g0 g1 (d' := P ++ C1 ++ y :: x :: C2 ++ B2 ++ T) (by
              have e := swp_up (P ++ C1) [] (C2 ++ B2 ++ T) x y
              rw [hk']
              simp only [List.append_assoc, List.cons_append, List.nil_append, List.length_nil, Nat.add_zero] at e ⊢
              exact e))
            clear g0 g1 hk hk'
            have q1 : (k : Int) + 1 < (l : Int) := by omega
            have q2 : (k : Int) < (l : Int) := by omega
            have q3 : (0 : Int) ≤ (k : Int) + 1 := by omega
            have q5 : ((k : Int) + 1).toNat = k + 1 := by omega
            have q6 : (k : Int) < (i : Int) - 1 := by omega
            go_wp2
            go_big_region
            all_goals go_wp2
            go_roundw
            case rel =>
              refine ⟨k + 1, C1 ++ [y], C2, by go_num, hlt, ?_, ?_, ?_⟩
              · show _ = _; have := HK.out; simp; omega
              · show _ = _; rw [HC12.out]; simp
              · have := HD.out.drew
                simpa using this
            case measure => simp only [intOf]; omega
        · have hC2 : C2 = [] := by
            have h1 := HC12.out
            have h2 := HB1.out
            have h3 := HK.out
            have h4 := HTI.out
            rw [h1] at h2
            simp at h2
            exact List.length_eq_zero_iff.1 (by omega)
          subst hC2
          have HF : Hid (SortAt (encP pc) 1 w b o (P ++ mergeL le [x] B ++ T) wr) := by
            have := HS.out
            rw [HMG.out, HC12.out]
            exact hid (by simpa using this)
          have q6 : ¬ (k : Int) < (i : Int) - 1 := by omega
          go_wp2
          (try simp only [Exit.inBlock, Exit.then]); refine bodyPost_ret (results_none rfl _ _ _) rfl ?_
          exact ⟨rfl, by first | (with_reducible exact HF.out) | (rw [← List.append_assoc]; with_reducible exact HF.out)⟩

set_option maxRecDepth 100000 in
set_option maxHeartbeats 4000000 in
theorem sym_last_p {cap l : Nat} {a m e : Nat} (P A T : List α) (x : α) (cur : List α) (W : World) (hc : CmpP 47 pc cf w b) (hcl : CmpLe cf le) (hcur : cur = P ++ A ++ x :: T) (hl : l = cur.length) (ha : a = P.length) (hm : m = a + A.length) (he : e = m + 1) (hA2 : 2 ≤ A.length)
    (h : SortAt (encP pc) 1 w b o cur W) (hA : SortedL le A) (_hcap : l ≤ cap) (hcap2 : l ≤ 1000000000000) :
    Calls Tryz.prog 130 #[.slice (some ⟨b, o, none⟩) l cap, .int .i64 a, .int .i64 m, .int .i64 e, .func (.func 47) #[] #[]] W
      fun r w' => r = .returned (.tuple #[]) ∧ SortAt (encP pc) 1 w b o (P ++ mergeL le A [x] ++ T) w' := by
  have hnot : ∀ (x : Bool) (w : World), (Op.unary .not (.bool x)).run Tryz.prog w = .ok (.bool (!x)) w := fun _ _ => rfl
  have H := hid h
  have HC := hid hc
  have HL := hid hcl
  have HCUR := hid hcur
  have HLL := hid hl
  have HA := hid ha
  have hml : e ≤ l := by rw [hl, hcur, he, hm, ha]; simp; omega
  have hae : a + 2 ≤ m := by omega
  have HM := hid hm
  have hem : m < e := by omega
  have q0 : ((m : Int) - (a : Int) == 1) = false := by rw [beq_eq_false_iff_ne]; omega
  have q00 : ((e : Int) - (m : Int) == 1) = true := by rw [beq_iff_eq]; omega
  have hmm : (P ++ A).length = m := by rw [hm, ha]; simp
  clear h hc hcl hcur hl ha he hm hA2
  have gx : cur[m]? = some x := by rw [HCUR.out, ← hmm]; exact at_len _ _ _
  have HGX := hid gx
  have HMM := hid hmm
  clear gx hmm
  go_enter Tryz.func130, Tryz.ntmps130
  go_wp2
  go_loopw [14, 15] (fun vi vj wr => ∃ i j : Nat, vi = .int .i64 i ∧ vj = .int .i64 j ∧ a ≤ i ∧ i ≤ j ∧ j ≤ m ∧ Hid (i = a ∨ ∃ z, cur[i - 1]? = some z ∧ le z x = true) ∧ Hid (j = m ∨ ∃ z, cur[j]? = some z ∧ le z x = false) ∧ SortAt (encP pc) 1 w b o cur wr) (fun vi vj _ => (intOf vj).toNat - (intOf vi).toNat)
  case atStart => exact ⟨a, m, rfl, rfl, Nat.le_refl _, by omega, Nat.le_refl _, .inl rfl, .inl rfl, H.out⟩
  case round =>
    obtain ⟨i, j, rfl, rfl, hmi, hij, hje, HI, HJ, hs⟩ := hrel
    have HS := hid hs
    by_cases hlt : i < j
    · obtain ⟨h, hh⟩ : ∃ h, h = (i + j) / 2 := ⟨_, rfl⟩
      have hh1 : i ≤ h := by omega
      have hh2 : h < j := by omega
      obtain ⟨z, hz⟩ := some_of_lt (l := cur) (j := h) (by rw [← HLL.out]; omega)
      have HZ := hid hz
      have q1 : ((i : Int) + (j : Int)) / 2 = (h : Int) := by omega
      have L0 := fun Y : Later wr => (hs.later Y.h).get1 hz
      have L1 := fun Y : Later wr => (hs.later Y.h).get1 HGX.out
      have LC := fun Y : Later wr => HC.out Y.w' (hs.later Y.h).grown x z
      have a0 := fun Y => (L0 Y).1
      have b0 := fun Y => (L1 Y).1
      obtain ⟨r1, r2⟩ := HL.out.range x z
      have HLE := hid (HL.out.eq x z)
      have HH := hid hh
      generalize cf x z = c at *
      have HLC := hid LC
      clear L0 L1 LC hs hz hh
      have q2 : (h : Int) < (l : Int) := by omega
      have q3 : (m : Int) < (l : Int) := by omega
      by_cases hcc : c < 0
      · go_wp2
        refine wp_region_later (by kernel_rfl) (by kernel_rfl) ?_
        repeat (go_big_quiet_step (first | (go_at_call 47; exact Later.done (HLC.out _))))
        refine wpQuiet_nil ?_
        intro W2 hW2
        clear a0 b0
        have HD2 := hid (HS.out.later hW2)
        clear hW2
        go_wp2
        go_roundw
        case rel =>
          refine ⟨i, h, rfl, rfl, hmi, hh1, by omega, HI, .inr ⟨z, HZ.out, ?_⟩, HD2.out⟩
          rw [HLE.out]; exact decide_eq_false (by omega)
        case measure => simp only [intOf]; omega
      · have q4 : decide (c < 0) = false := decide_eq_false hcc
        have q5 : c + 1 > 0 := by omega
        have HCC := hid hcc
        clear hcc
        go_wp2
        refine wp_region_later (by kernel_rfl) (by kernel_rfl) ?_
        repeat (go_big_quiet_step (first | (go_at_call 47; exact Later.done (HLC.out _))))
        refine wpQuiet_nil ?_
        intro W2 hW2
        clear a0 b0
        have HD2 := hid (HS.out.later hW2)
        clear hW2
        go_wp2
        go_roundw
        case rel =>
          refine ⟨h + 1, j, by go_num, rfl, by omega, by omega, hje, .inr ⟨z, by rw [Nat.add_sub_cancel]; exact HZ.out, ?_⟩, HJ, HD2.out⟩
          rw [HLE.out]; exact decide_eq_true (by have := HCC.out; omega)
        case measure => simp only [intOf]; omega
    · obtain rfl : i = j := by omega
      obtain ⟨t, ht⟩ : ∃ t, t = i - a := ⟨_, rfl⟩
      have htB : t ≤ A.length := by have := HM.out; omega
      have hcur' : ∀ k, k < A.length → cur[a + k]? = A[k]? := fun k hk => by
        rw [HCUR.out]
        exact mid_at HA.out hk
      have e1 := cut_low' HL.out.total hA (x := x) (t := t) (by
        rcases HI.out with h | ⟨z, h1, h2⟩
        · exact .inl (by omega)
        · rcases (show t = 0 ∨ 0 < t by omega) with h0 | h0
          · exact .inl h0
          · refine .inr ⟨z, ?_, h2⟩
            rw [← hcur' _ (by omega), ← h1]
            congr 1
            omega)
      have e2 := cut_high' HL.out.total hA (x := x) (t := t) (by
        rcases HJ.out with h | ⟨z, h1, h2⟩
        · exact .inl (by have := HM.out; omega)
        · rcases (show t = A.length ∨ t < A.length by omega) with h0 | h0
          · exact .inl h0
          · refine .inr ⟨z, ?_, h2⟩
            rw [← hcur' _ h0, ← h1]
            congr 1
            omega)
      have hmg := mergeL_put e1 e2
      rw [List.take_append_drop] at hmg
      have HMG := hid hmg
      have hb1 : (A.take t).length = t := by rw [List.length_take]; omega
      have HB := hid (List.take_append_drop t A)
      generalize A.take t = A1 at *
      generalize A.drop t = A2 at *
      have HB1 := hid hb1
      have HT := hid ht
      have hti : i = a + t := by omega
      have HTI := hid hti
      have hs0 := HS.out
      rw [HCUR.out, ← HB.out] at hs0
      have HS0 := hid hs0
      have hil : i ≤ l := by omega
      clear hs hcur' e1 e2 hmg hb1 ht hti hs0 htB
      go_wp2
      go_loopw [17] (fun vk wr => ∃ (k : Nat) (C1 C2 : List α), vk = .int .i64 k ∧ i ≤ k ∧ k ≤ m ∧ Hid (k = i + C1.length) ∧ Hid (A2 = C1 ++ C2) ∧ SortAt (encP pc) 1 w b o (P ++ A1 ++ C1 ++ x :: C2 ++ T) wr) (fun vk _ => (intOf vk).toNat - i)
      case atStart => exact ⟨m, A2, [], rfl, by omega, Nat.le_refl _, by have h1 := HM.out; have h2 := HTI.out; have h3 := HB1.out; have h4 := congrArg List.length HB.out; simp at h4; show _ = _; omega, by show _ = _; simp, by simpa using HS0.out⟩
      case round =>
        obtain ⟨k, C1, C2, rfl, hki, hkm, HK, HC12, hs⟩ := hrel
        have HS := hid hs
        clear hs
        by_cases hlt : i < k
        · rcases (show C1 = [] ∨ ∃ L z, C1 = L ++ [z] by simpa using List.eq_nil_or_concat C1) with rfl | ⟨C1, y, rfl⟩
          · exfalso
            have h3 := HK.out
            simp at h3
            omega
          · have hk := HK.out
            obtain ⟨kp, rfl⟩ : ∃ kp, k = kp + 1 := ⟨k - 1, by omega⟩
            have hk' : kp = (P ++ A1 ++ C1).length := by have h1 := HTI.out; have h2 := HA.out; have h3 := HB1.out; simp at hk ⊢; omega
            have g1 : (P ++ A1 ++ (C1 ++ [y]) ++ x :: C2 ++ T)[kp]? = some y := by
              rw [hk', show P ++ A1 ++ (C1 ++ [y]) ++ x :: C2 ++ T = (P ++ A1 ++ C1) ++ y :: (x :: C2 ++ T) by simp]
              exact at_len _ _ _
            have g0 : (P ++ A1 ++ (C1 ++ [y]) ++ x :: C2 ++ T)[kp + 1]? = some x := by
              rw [hk', show (P ++ A1 ++ C1).length + 1 = (P ++ A1 ++ C1 ++ [y]).length by simp; omega, show P ++ A1 ++ (C1 ++ [y]) ++ x :: C2 ++ T = (P ++ A1 ++ C1 ++ [y]) ++ x :: (C2 ++ T) by simp]
              exact at_len _ _ _
            obtain ⟨c0, f0⟩ := HS.out.get1 g0
            obtain ⟨d0, k0⟩ := HS.out.get1 g1
            have HD := hid (HS.out.swap1 g0 g1 (d' := P ++ A1 ++ C1 ++ x :: y :: C2 ++ T) (by
              have e := swp_down (P ++ A1 ++ C1) [] (C2 ++ T) y x
              rw [hk']
              simp only [List.append_assoc, List.cons_append, List.nil_append, List.length_nil, Nat.add_zero] at e ⊢
              exact e))
            clear g0 g1 hk hk'
            have q1 : (kp : Int) + 1 < (l : Int) := by omega
            have q2 : (kp : Int) < (l : Int) := by omega
            have q3 : (0 : Int) ≤ (kp : Int) + 1 := by omega
            have q5 : ((kp : Int) + 1).toNat = kp + 1 := by omega
            have q7 : (i : Int) < (kp : Int) + 1 := by omega
            go_wp2
            go_big_region
            all_goals go_wp2
            go_roundw
            case rel =>
              refine ⟨kp, C1, y :: C2, rfl, by omega, by omega, ?_, ?_, ?_⟩
              · show _ = _; have := HK.out; simp at this; omega
              · show _ = _; rw [HC12.out]; simp
              · have := HD.out.drew
                simpa using this
            case measure => simp only [intOf]; omega
        · have hC1 : C1 = [] := by
            have h3 := HK.out
            exact List.length_eq_zero_iff.1 (by omega)
          subst hC1
          have HF : Hid (SortAt (encP pc) 1 w b o (P ++ mergeL le A [x] ++ T) wr) := by
            have := HS.out
            rw [HMG.out, HC12.out]
            exact hid (by simpa using this)
          go_wp2
          (try simp only [Exit.inBlock, Exit.then]); refine bodyPost_ret (results_none rfl _ _ _) rfl ?_
          exact ⟨rfl, by first | (with_reducible exact HF.out) | (rw [← List.append_assoc]; with_reducible exact HF.out)⟩
end
end Go.Proofs.YthplgldclilccaaGreat

namespace Go.Proofs.YthplgldclilccaaGreat
open Go.RowKit Go.Sort

section
variable {α : Type} [Inhabited α] {pc : α → PCell} {w : World} {b o : Nat} {cf : α → α → Int} {le : α → α → Bool}

set_option maxRecDepth 100000 in
set_option maxHeartbeats 8000000 in
theorem sym_step_p {cap l : Nat} {a m e : Nat} (P A B T : List α) (cur : List α) (W : World) (hc : CmpP 47 pc cf w b) (hcl : CmpLe cf le) (hcur : cur = P ++ A ++ B ++ T) (hl : l = cur.length) (ha : a = P.length) (hm : m = a + A.length) (he : e = m + B.length) (hA2 : 2 ≤ A.length) (hB2 : 2 ≤ B.length)
    (ih : ∀ (P A' B' T cur : List α) (W : World) (l a m e : Nat), A'.length + B'.length < A.length + B.length → 0 < A'.length → 0 < B'.length → SortedL le A' → SortedL le B' → cur = P ++ A' ++ B' ++ T → l = cur.length → a = P.length → m = a + A'.length → e = m + B'.length → SortAt (encP pc) 1 w b o cur W → l ≤ cap → l ≤ 1000000000000 →
      Calls Tryz.prog 130 #[.slice (some ⟨b, o, none⟩) l cap, .int .i64 a, .int .i64 m, .int .i64 e, .func (.func 47) #[] #[]] W
        fun r w' => r = .returned (.tuple #[]) ∧ SortAt (encP pc) 1 w b o (P ++ mergeL le A' B' ++ T) w')
    (h : SortAt (encP pc) 1 w b o cur W) (hA : SortedL le A) (hB : SortedL le B) (hcap : l ≤ cap) (hcap2 : l ≤ 1000000000000) :
    Calls Tryz.prog 130 #[.slice (some ⟨b, o, none⟩) l cap, .int .i64 a, .int .i64 m, .int .i64 e, .func (.func 47) #[] #[]] W
      fun r w' => r = .returned (.tuple #[]) ∧ SortAt (encP pc) 1 w b o (P ++ mergeL le A B ++ T) w' := by
  have hnot : ∀ (x : Bool) (w : World), (Op.unary .not (.bool x)).run Tryz.prog w = .ok (.bool (!x)) w := fun _ _ => rfl
  have H := hid h
  have HC := hid hc
  have HL := hid hcl
  have HIH := hid ih
  have HCUR := hid hcur
  have HLL := hid hl
  have HA := hid ha
  have hml : e ≤ l := by rw [hl, hcur, he, hm, ha]; simp; omega
  have hae : a + 2 ≤ m := by omega
  have HM := hid hm
  have HE := hid he
  have hem : m + 2 ≤ e := by omega
  have q0 : ((m : Int) - (a : Int) == 1) = false := by rw [beq_eq_false_iff_ne]; omega
  have q00 : ((e : Int) - (m : Int) == 1) = false := by rw [beq_eq_false_iff_ne]; omega
  obtain ⟨d, hd⟩ : ∃ d, d = (a + e) / 2 := ⟨_, rfl⟩
  have q1 : ((a : Int) + (e : Int)) / 2 = (d : Int) := by omega
  have HD := hid hd
  have had : a < d := by omega
  have hde : d < e := by omega
  have hd2 : 2 * d ≤ a + e ∧ a + e ≤ 2 * d + 1 := by omega
  obtain ⟨hd21, hd22⟩ := hd2
  clear h hc hcl hcur hl ha he hm hA2 hB2 ih hd
  have hcase : (d < m ∧ ∃ lo : Nat, lo + e = d + m) ∨ m ≤ d := by
    rcases (show d < m ∨ m ≤ d by omega) with h | h
    · exact .inl ⟨h, d + m - e, by omega⟩
    · exact .inr h
  rcases hcase with ⟨hdm, lo0, hlo⟩ | hdm
  · have q2 : (d : Int) + (m : Int) - (e : Int) = (lo0 : Int) := by omega
    have HG : Hid (symGood a m e d lo0 d) := .inl ⟨hdm, hlo, rfl⟩
    have q3 : (m : Int) > (d : Int) := by omega
    have hlh : lo0 ≤ d := by omega
    go_enter Tryz.func130, Tryz.ntmps130
    go_wp2
    go_loopw [20, 21] (fun vi vj wr => ∃ i j lo hi : Nat, vi = .int .i64 i ∧ vj = .int .i64 j ∧ Hid (symGood a m e d lo hi) ∧ lo ≤ i ∧ i ≤ j ∧ j ≤ hi ∧ Hid (i = lo ∨ ∃ x z, cur[i - 1]? = some x ∧ cur[d + m - i]? = some z ∧ le x z = true) ∧ Hid (j = hi ∨ ∃ x z, cur[j]? = some x ∧ cur[d + m - j - 1]? = some z ∧ le x z = false) ∧ SortAt (encP pc) 1 w b o cur wr) (fun vi vj _ => (intOf vj).toNat - (intOf vi).toNat)
    case atStart => exact ⟨lo0, d, lo0, d, rfl, rfl, HG, Nat.le_refl _, hlh, Nat.le_refl _, .inl rfl, .inl rfl, H.out⟩
    case round =>
      clear HG q2 q3 hlh hlo hdm
      obtain ⟨i, j, lo, hi, rfl, rfl, HG, hli, hij, hjh, HI, HJ, hs⟩ := hrel
      have HS := hid hs
      have hb : a ≤ lo ∧ hi ≤ m ∧ hi ≤ d ∧ d + m ≤ lo + e := by have := HG.out; unfold symGood at this; omega
      obtain ⟨hb1, hb2, hb3, hb4⟩ := hb
      by_cases hlt : i < j
      · obtain ⟨h, hh⟩ : ∃ h, h = (i + j) / 2 := ⟨_, rfl⟩
        have hh1 : i ≤ h := by omega
        have hh2 : h < j := by omega
        obtain ⟨g, hg⟩ : ∃ g, g = d + m - h - 1 := ⟨_, rfl⟩
        have hge : g < e := by omega
        obtain ⟨x, hx⟩ := some_of_lt (l := cur) (j := h) (by rw [← HLL.out]; omega)
        obtain ⟨z, hz⟩ := some_of_lt (l := cur) (j := g) (by rw [← HLL.out]; omega)
        have HX := hid hx
        have HZ := hid hz
        have p1 : ((i : Int) + (j : Int)) / 2 = (h : Int) := by omega
        have p2 : (d : Int) + (m : Int) - 1 - (h : Int) = (g : Int) := by omega
        have p3 : (g : Int) < (l : Int) := by omega
        have p4 : (h : Int) < (l : Int) := by omega
        have L0 := fun Y : Later wr => (hs.later Y.h).get1 hz
        have L1 := fun Y : Later wr => (hs.later Y.h).get1 hx
        have LC := fun Y : Later wr => HC.out Y.w' (hs.later Y.h).grown z x
        have a0 := fun Y => (L0 Y).1
        have b0 := fun Y => (L1 Y).1
        obtain ⟨r1, r2⟩ := HL.out.range z x
        have HLE := hid (HL.out.eq z x)
        have HH := hid hh
        have HGG := hid hg
        generalize cf z x = c at *
        have HLC := hid LC
        clear L0 L1 LC hs hz hx hh hg
        by_cases hcc : c < 0
        · go_wp2
          refine wp_region_later (by kernel_rfl) (by kernel_rfl) ?_
          repeat (go_big_quiet_step (first | (go_at_call 47; exact Later.done (HLC.out _))))
          refine wpQuiet_nil ?_
          intro W2 hW2
          clear a0 b0
          have HD2 := hid (HS.out.later hW2)
          clear hW2
          go_wp2
          go_roundw
          case rel =>
            refine ⟨i, h, lo, hi, rfl, rfl, HG, hli, hh1, by omega, HI, .inr ⟨x, z, HX.out, by rw [← HGG.out]; exact HZ.out, ?_⟩, HD2.out⟩
            rw [HLE.out]; exact decide_eq_false (by omega)
          case measure => simp only [intOf]; omega
        · have q4 : decide (c < 0) = false := decide_eq_false hcc
          have q5 : c + 1 > 0 := by omega
          have HCC := hid hcc
          clear hcc
          go_wp2
          refine wp_region_later (by kernel_rfl) (by kernel_rfl) ?_
          repeat (go_big_quiet_step (first | (go_at_call 47; exact Later.done (HLC.out _))))
          refine wpQuiet_nil ?_
          intro W2 hW2
          clear a0 b0
          have HD2 := hid (HS.out.later hW2)
          clear hW2
          go_wp2
          go_roundw
          case rel =>
            refine ⟨h + 1, j, lo, hi, by go_num, rfl, HG, by omega, by omega, hjh, .inr ⟨x, z, by rw [Nat.add_sub_cancel]; exact HX.out, by rw [show d + m - (h + 1) = g by have := HGG.out; omega]; exact HZ.out, ?_⟩, HJ, HD2.out⟩
            rw [HLE.out]; exact decide_eq_true (by have := HCC.out; omega)
          case measure => simp only [intOf]; omega
      · obtain rfl : i = j := by omega
        obtain ⟨f, hf⟩ : ∃ f, f + i = d + m := ⟨d + m - i, by omega⟩
        obtain ⟨A1, A2, B1, B2, hA12, hB12, hsA, hfB, hmg⟩ := sym_split (f := f) HL.out.total hA hB HCUR.out HA.out HM.out HE.out HD.out HG.out hli hjh hf (by
          have := HI.out
          rwa [show d + m - i = f by omega] at this) (by
          have := HJ.out
          rwa [show d + m - i - 1 = f - 1 by omega] at this)
        have p1 : (d : Int) + (m : Int) - (i : Int) = (f : Int) := by omega
        have lA := HM.out
        have lB := HE.out
        rw [hA12] at lA
        rw [hB12] at lB
        simp only [List.length_append] at lA lB
        have lP := HA.out
        have HMG := hid hmg
        have HK0 : Hid (SortAt (encP pc) 1 w b o (P ++ A1 ++ A2 ++ B1 ++ B2 ++ T) wr) := hid (by
          have := HS.out
          rw [HCUR.out, hA12, hB12] at this
          simpa using this)
        have HLN : Hid (l = P.length + A1.length + A2.length + B1.length + B2.length + T.length) := hid (by rw [HLL.out, HCUR.out, hA12, hB12]; simp; omega)
        have HSZ : Hid (A.length = A1.length + A2.length ∧ B.length = B1.length + B2.length) := hid (by rw [hA12, hB12]; simp)
        have HSA : Hid (SortedL le A1 ∧ SortedL le A2 ∧ SortedL le B1 ∧ SortedL le B2) := hid (by
          rw [hA12] at hA
          rw [hB12] at hB
          have h1 := List.pairwise_append.1 hA
          have h2 := List.pairwise_append.1 hB
          exact ⟨h1.1, h1.2.1, h2.1, h2.2.1⟩)
        have LP := hid lP
        have LA := hid (And.intro lA lB)
        have LS := hid (And.intro hsA (And.intro hfB hf))
        have hmle : m ≤ l := by omega
        have hfle : f ≤ l := by omega
        clear hs hA12 hB12 hmg hli hij hjh hb1 hb2 hb3 hb4 hlt lA lB lP hsA hfB hf
        rcases (show (0 < A1.length ∧ 0 < A2.length ∧ 0 < B1.length ∧ 0 < B2.length) ∨ (0 < A1.length ∧ 0 < A2.length ∧ 0 < B1.length ∧ B2.length = 0) ∨ (0 < A1.length ∧ A2.length = 0 ∧ 0 < B1.length ∧ 0 < B2.length) ∨ (0 < A1.length ∧ 0 < A2.length ∧ B1.length = 0 ∧ 0 < B2.length) ∨ (0 < A1.length ∧ 0 < A2.length ∧ B1.length = 0 ∧ B2.length = 0) ∨ (0 < A1.length ∧ A2.length = 0 ∧ B1.length = 0 ∧ 0 < B2.length) ∨ (A1.length = 0 ∧ 0 < A2.length ∧ 0 < B1.length ∧ 0 < B2.length) ∨ (A1.length = 0 ∧ 0 < A2.length ∧ 0 < B1.length ∧ B2.length = 0) ∨ (A1.length = 0 ∧ A2.length = 0 ∧ 0 < B1.length ∧ 0 < B2.length) by have := LA.out; have := LS.out; omega) with ⟨n1, n2, n3, n4⟩ | ⟨n1, n2, n3, n4⟩ | ⟨n1, n2, n3, n4⟩ | ⟨n1, n2, n3, n4⟩ | ⟨n1, n2, n3, n4⟩ | ⟨n1, n2, n3, n4⟩ | ⟨n1, n2, n3, n4⟩ | ⟨n1, n2, n3, n4⟩ | ⟨n1, n2, n3, n4⟩
        · have f1 : (i : Int) < (m : Int) := by have := LA.out; have := LS.out; omega
          have f2 : (m : Int) < (f : Int) := by have := LA.out; have := LS.out; omega
          have f3 : (a : Int) < (i : Int) := by have := LA.out; have := LS.out; omega
          have f4 : (i : Int) < (d : Int) := by have := LA.out; have := LS.out; omega
          have f5 : (d : Int) < (f : Int) := by have := LA.out; have := LS.out; omega
          have f6 : (f : Int) < (e : Int) := by have := LA.out; have := LS.out; omega
          have HN1 := hid (And.intro n2 n3)
          have HNN := hid (And.intro n1 (And.intro n2 (And.intro n3 n4)))
          clear n1 n2 n3 n4
          have C1 := hid (rotate_p (pc := pc) (cap := cap) (l := l) (za := (i : Int)) (zm := (m : Int)) (zb := (f : Int)) (cv := .func (.func 47) #[] #[]) (P ++ A1) A2 B1 (B2 ++ T) wr (by simp) (by rw [HLN.out]; simp; omega) (by have := LS.out; have := LP.out; simp; omega) (by have := LS.out; have := LP.out; have := LA.out; simp; omega) (by have := LS.out; have := LP.out; have := LA.out; simp; omega) HK0.out (by intro hn; have := HNN.out; rw [hn] at this; simp at this) (by intro hn; have := HNN.out; rw [hn] at this; simp at this) hcap hcap2)
          go_wp2_with fail
          with_reducible refine C1.out.mono ?_
          rintro r w1 ⟨rfl, hk1⟩
          have HK1 : Hid (SortAt (encP pc) 1 w b o (P ++ A1 ++ B1 ++ A2 ++ B2 ++ T) w1) := hid (by simpa using hk1)
          clear hk1
          have C2 := hid (HIH.out P A1 B1 (A2 ++ B2 ++ T) _ w1 l a i d (by have := HNN.out; have := HSZ.out; omega) HNN.out.1 HNN.out.2.2.1 HSA.out.1 HSA.out.2.2.1 (by simp) (by rw [HLN.out]; simp; omega) LP.out LS.out.1 (by have := LS.out; have := LA.out; omega) HK1.out hcap hcap2)
          go_wp2_with fail
          with_reducible refine C2.out.mono ?_
          rintro r w2 ⟨rfl, hk2⟩
          have HK2 : Hid (SortAt (encP pc) 1 w b o (P ++ mergeL le A1 B1 ++ A2 ++ B2 ++ T) w2) := hid (by simpa using hk2)
          clear hk2
          have C3 := hid (HIH.out (P ++ mergeL le A1 B1) A2 B2 T _ w2 l d f e (by have := HNN.out; have := HSZ.out; omega) HNN.out.2.1 HNN.out.2.2.2 HSA.out.2.1 HSA.out.2.2.2 (by simp) (by rw [HLN.out]; simp; omega) (by have := LS.out; have := LA.out; have := LP.out; simp; omega) (by have := LS.out; have := LA.out; omega) (by have := LS.out; have := LA.out; omega) HK2.out hcap hcap2)
          go_wp2_with fail
          with_reducible refine C3.out.mono ?_
          rintro r w3 ⟨rfl, hk3⟩
          have HK3 : Hid (SortAt (encP pc) 1 w b o (P ++ mergeL le A B ++ T) w3) := hid (by rw [HMG.out]; simpa using hk3)
          clear hk3
          go_wp2
          all_goals
            go_end0
            exact ⟨rfl, by first | (with_reducible exact HK3.out) | (rw [← List.append_assoc]; with_reducible exact HK3.out)⟩
        · have f1 : (i : Int) < (m : Int) := by have := LA.out; have := LS.out; omega
          have f2 : (m : Int) < (f : Int) := by have := LA.out; have := LS.out; omega
          have f3 : (a : Int) < (i : Int) := by have := LA.out; have := LS.out; omega
          have f4 : (i : Int) < (d : Int) := by have := LA.out; have := LS.out; omega
          have f5 : (d : Int) < (f : Int) := by have := LA.out; have := LS.out; omega
          have f6 : (e : Int) ≤ (f : Int) := by have := LA.out; have := LS.out; omega
          have hzB2 : B2 = [] := List.length_eq_zero_iff.1 (by omega)
          have HZ := hid (And.intro (rfl : 0 = 0) hzB2)
          clear hzB2
          have HN1 := hid (And.intro n2 n3)
          have HNN := hid (And.intro n1 (And.intro n2 (And.intro n3 n4)))
          clear n1 n2 n3 n4
          have C1 := hid (rotate_p (pc := pc) (cap := cap) (l := l) (za := (i : Int)) (zm := (m : Int)) (zb := (f : Int)) (cv := .func (.func 47) #[] #[]) (P ++ A1) A2 B1 (B2 ++ T) wr (by simp) (by rw [HLN.out]; simp; omega) (by have := LS.out; have := LP.out; simp; omega) (by have := LS.out; have := LP.out; have := LA.out; simp; omega) (by have := LS.out; have := LP.out; have := LA.out; simp; omega) HK0.out (by intro hn; have := HNN.out; rw [hn] at this; simp at this) (by intro hn; have := HNN.out; rw [hn] at this; simp at this) hcap hcap2)
          go_wp2_with fail
          with_reducible refine C1.out.mono ?_
          rintro r w1 ⟨rfl, hk1⟩
          have HK1 : Hid (SortAt (encP pc) 1 w b o (P ++ A1 ++ B1 ++ A2 ++ B2 ++ T) w1) := hid (by simpa using hk1)
          clear hk1
          have C2 := hid (HIH.out P A1 B1 (A2 ++ B2 ++ T) _ w1 l a i d (by have := HNN.out; have := HSZ.out; omega) HNN.out.1 HNN.out.2.2.1 HSA.out.1 HSA.out.2.2.1 (by simp) (by rw [HLN.out]; simp; omega) LP.out LS.out.1 (by have := LS.out; have := LA.out; omega) HK1.out hcap hcap2)
          go_wp2_with fail
          with_reducible refine C2.out.mono ?_
          rintro r w2 ⟨rfl, hk2⟩
          have HK2 : Hid (SortAt (encP pc) 1 w b o (P ++ mergeL le A1 B1 ++ A2 ++ B2 ++ T) w2) := hid (by simpa using hk2)
          clear hk2
          have HK3 : Hid (SortAt (encP pc) 1 w b o (P ++ mergeL le A B ++ T) w2) := hid (by
            have := HK2.out
            rw [HMG.out]
            obtain ⟨-, hzB2⟩ := HZ.out
            subst hzB2
            simpa [mergeL_nil, mergeL_right] using this)
          go_wp2
          all_goals
            go_end0
            exact ⟨rfl, by first | (with_reducible exact HK3.out) | (rw [← List.append_assoc]; with_reducible exact HK3.out)⟩
        · have f1 : (m : Int) ≤ (i : Int) := by have := LA.out; have := LS.out; omega
          have f2 : (m : Int) < (f : Int) := by have := LA.out; have := LS.out; omega
          have f3 : (a : Int) < (i : Int) := by have := LA.out; have := LS.out; omega
          have f4 : (i : Int) < (d : Int) := by have := LA.out; have := LS.out; omega
          have f5 : (f : Int) ≤ (d : Int) := by have := LA.out; have := LS.out; omega
          have f6 : (f : Int) < (e : Int) := by have := LA.out; have := LS.out; omega
          have hzA2 : A2 = [] := List.length_eq_zero_iff.1 (by omega)
          have HZ := hid (And.intro (rfl : 0 = 0) hzA2)
          clear hzA2
          have HNN := hid (And.intro n1 (And.intro n2 (And.intro n3 n4)))
          clear n1 n2 n3 n4
          have HK1 : Hid (SortAt (encP pc) 1 w b o (P ++ A1 ++ B1 ++ A2 ++ B2 ++ T) wr) := hid (by
            have := HK0.out
            obtain ⟨-, hzA2⟩ := HZ.out
            subst hzA2
            simpa using this)
          have C2 := hid (HIH.out P A1 B1 (A2 ++ B2 ++ T) _ wr l a i d (by have := HNN.out; have := HSZ.out; omega) HNN.out.1 HNN.out.2.2.1 HSA.out.1 HSA.out.2.2.1 (by simp) (by rw [HLN.out]; simp; omega) LP.out LS.out.1 (by have := LS.out; have := LA.out; omega) HK1.out hcap hcap2)
          go_wp2_with fail
          with_reducible refine C2.out.mono ?_
          rintro r w2 ⟨rfl, hk2⟩
          have HK2 : Hid (SortAt (encP pc) 1 w b o (P ++ mergeL le A1 B1 ++ A2 ++ B2 ++ T) w2) := hid (by simpa using hk2)
          clear hk2
          have HK3 : Hid (SortAt (encP pc) 1 w b o (P ++ mergeL le A B ++ T) w2) := hid (by
            have := HK2.out
            rw [HMG.out]
            obtain ⟨-, hzA2⟩ := HZ.out
            subst hzA2
            simpa [mergeL_nil, mergeL_right] using this)
          go_wp2
          all_goals
            go_end0
            exact ⟨rfl, by first | (with_reducible exact HK3.out) | (rw [← List.append_assoc]; with_reducible exact HK3.out)⟩
        · have f1 : (i : Int) < (m : Int) := by have := LA.out; have := LS.out; omega
          have f2 : (f : Int) ≤ (m : Int) := by have := LA.out; have := LS.out; omega
          have f3 : (a : Int) < (i : Int) := by have := LA.out; have := LS.out; omega
          have f4 : (d : Int) ≤ (i : Int) := by have := LA.out; have := LS.out; omega
          have f5 : (d : Int) < (f : Int) := by have := LA.out; have := LS.out; omega
          have f6 : (f : Int) < (e : Int) := by have := LA.out; have := LS.out; omega
          have hzB1 : B1 = [] := List.length_eq_zero_iff.1 (by omega)
          have HZ := hid (And.intro (rfl : 0 = 0) hzB1)
          clear hzB1
          have HNN := hid (And.intro n1 (And.intro n2 (And.intro n3 n4)))
          clear n1 n2 n3 n4
          have HK1 : Hid (SortAt (encP pc) 1 w b o (P ++ A1 ++ B1 ++ A2 ++ B2 ++ T) wr) := hid (by
            have := HK0.out
            obtain ⟨-, hzB1⟩ := HZ.out
            subst hzB1
            simpa using this)
          have HK2 : Hid (SortAt (encP pc) 1 w b o (P ++ mergeL le A1 B1 ++ A2 ++ B2 ++ T) wr) := hid (by
            have := HK1.out
            obtain ⟨-, hzB1⟩ := HZ.out
            subst hzB1
            simpa [mergeL_nil, mergeL_right] using this)
          have C3 := hid (HIH.out (P ++ mergeL le A1 B1) A2 B2 T _ wr l d f e (by have := HNN.out; have := HSZ.out; omega) HNN.out.2.1 HNN.out.2.2.2 HSA.out.2.1 HSA.out.2.2.2 (by simp) (by rw [HLN.out]; simp; omega) (by have := LS.out; have := LA.out; have := LP.out; simp; omega) (by have := LS.out; have := LA.out; omega) (by have := LS.out; have := LA.out; omega) HK2.out hcap hcap2)
          go_wp2_with fail
          with_reducible refine C3.out.mono ?_
          rintro r w3 ⟨rfl, hk3⟩
          have HK3 : Hid (SortAt (encP pc) 1 w b o (P ++ mergeL le A B ++ T) w3) := hid (by rw [HMG.out]; simpa using hk3)
          clear hk3
          go_wp2
          all_goals
            go_end0
            exact ⟨rfl, by first | (with_reducible exact HK3.out) | (rw [← List.append_assoc]; with_reducible exact HK3.out)⟩
        · have f1 : (i : Int) < (m : Int) := by have := LA.out; have := LS.out; omega
          have f2 : (f : Int) ≤ (m : Int) := by have := LA.out; have := LS.out; omega
          have f3 : (a : Int) < (i : Int) := by have := LA.out; have := LS.out; omega
          have f4 : (d : Int) ≤ (i : Int) := by have := LA.out; have := LS.out; omega
          have f5 : (d : Int) < (f : Int) := by have := LA.out; have := LS.out; omega
          have f6 : (e : Int) ≤ (f : Int) := by have := LA.out; have := LS.out; omega
          have hzB1 : B1 = [] := List.length_eq_zero_iff.1 (by omega)
          have hzB2 : B2 = [] := List.length_eq_zero_iff.1 (by omega)
          have HZ := hid (And.intro (rfl : 0 = 0) (And.intro hzB1 hzB2))
          clear hzB1
          clear hzB2
          have HNN := hid (And.intro n1 (And.intro n2 (And.intro n3 n4)))
          clear n1 n2 n3 n4
          have HK1 : Hid (SortAt (encP pc) 1 w b o (P ++ A1 ++ B1 ++ A2 ++ B2 ++ T) wr) := hid (by
            have := HK0.out
            obtain ⟨-, hzB1, hzB2⟩ := HZ.out
            subst hzB1 hzB2
            simpa using this)
          have HK2 : Hid (SortAt (encP pc) 1 w b o (P ++ mergeL le A1 B1 ++ A2 ++ B2 ++ T) wr) := hid (by
            have := HK1.out
            obtain ⟨-, hzB1, hzB2⟩ := HZ.out
            subst hzB1 hzB2
            simpa [mergeL_nil, mergeL_right] using this)
          have HK3 : Hid (SortAt (encP pc) 1 w b o (P ++ mergeL le A B ++ T) wr) := hid (by
            have := HK2.out
            rw [HMG.out]
            obtain ⟨-, hzB1, hzB2⟩ := HZ.out
            subst hzB1 hzB2
            simpa [mergeL_nil, mergeL_right] using this)
          go_wp2
          all_goals
            go_end0
            exact ⟨rfl, by first | (with_reducible exact HK3.out) | (rw [← List.append_assoc]; with_reducible exact HK3.out)⟩
        · have f1 : (m : Int) ≤ (i : Int) := by have := LA.out; have := LS.out; omega
          have f2 : (f : Int) ≤ (m : Int) := by have := LA.out; have := LS.out; omega
          have f3 : (a : Int) < (i : Int) := by have := LA.out; have := LS.out; omega
          have f4 : (d : Int) ≤ (i : Int) := by have := LA.out; have := LS.out; omega
          have f5 : (f : Int) ≤ (d : Int) := by have := LA.out; have := LS.out; omega
          have f6 : (f : Int) < (e : Int) := by have := LA.out; have := LS.out; omega
          have hzA2 : A2 = [] := List.length_eq_zero_iff.1 (by omega)
          have hzB1 : B1 = [] := List.length_eq_zero_iff.1 (by omega)
          have HZ := hid (And.intro (rfl : 0 = 0) (And.intro hzA2 hzB1))
          clear hzA2
          clear hzB1
          have HNN := hid (And.intro n1 (And.intro n2 (And.intro n3 n4)))
          clear n1 n2 n3 n4
          have HK1 : Hid (SortAt (encP pc) 1 w b o (P ++ A1 ++ B1 ++ A2 ++ B2 ++ T) wr) := hid (by
            have := HK0.out
            obtain ⟨-, hzA2, hzB1⟩ := HZ.out
            subst hzA2 hzB1
            simpa using this)
          have HK2 : Hid (SortAt (encP pc) 1 w b o (P ++ mergeL le A1 B1 ++ A2 ++ B2 ++ T) wr) := hid (by
            have := HK1.out
            obtain ⟨-, hzA2, hzB1⟩ := HZ.out
            subst hzA2 hzB1
            simpa [mergeL_nil, mergeL_right] using this)
          have HK3 : Hid (SortAt (encP pc) 1 w b o (P ++ mergeL le A B ++ T) wr) := hid (by
            have := HK2.out
            rw [HMG.out]
            obtain ⟨-, hzA2, hzB1⟩ := HZ.out
            subst hzA2 hzB1
            simpa [mergeL_nil, mergeL_right] using this)
          go_wp2
          all_goals
            go_end0
            exact ⟨rfl, by first | (with_reducible exact HK3.out) | (rw [← List.append_assoc]; with_reducible exact HK3.out)⟩
        · have f1 : (i : Int) < (m : Int) := by have := LA.out; have := LS.out; omega
          have f2 : (m : Int) < (f : Int) := by have := LA.out; have := LS.out; omega
          have f3 : (i : Int) ≤ (a : Int) := by have := LA.out; have := LS.out; omega
          have f4 : (i : Int) < (d : Int) := by have := LA.out; have := LS.out; omega
          have f5 : (d : Int) < (f : Int) := by have := LA.out; have := LS.out; omega
          have f6 : (f : Int) < (e : Int) := by have := LA.out; have := LS.out; omega
          have hzA1 : A1 = [] := List.length_eq_zero_iff.1 (by omega)
          have HZ := hid (And.intro (rfl : 0 = 0) hzA1)
          clear hzA1
          have HN1 := hid (And.intro n2 n3)
          have HNN := hid (And.intro n1 (And.intro n2 (And.intro n3 n4)))
          clear n1 n2 n3 n4
          have C1 := hid (rotate_p (pc := pc) (cap := cap) (l := l) (za := (i : Int)) (zm := (m : Int)) (zb := (f : Int)) (cv := .func (.func 47) #[] #[]) (P ++ A1) A2 B1 (B2 ++ T) wr (by simp) (by rw [HLN.out]; simp; omega) (by have := LS.out; have := LP.out; simp; omega) (by have := LS.out; have := LP.out; have := LA.out; simp; omega) (by have := LS.out; have := LP.out; have := LA.out; simp; omega) HK0.out (by intro hn; have := HNN.out; rw [hn] at this; simp at this) (by intro hn; have := HNN.out; rw [hn] at this; simp at this) hcap hcap2)
          go_wp2_with fail
          with_reducible refine C1.out.mono ?_
          rintro r w1 ⟨rfl, hk1⟩
          have HK1 : Hid (SortAt (encP pc) 1 w b o (P ++ A1 ++ B1 ++ A2 ++ B2 ++ T) w1) := hid (by simpa using hk1)
          clear hk1
          have HK2 : Hid (SortAt (encP pc) 1 w b o (P ++ mergeL le A1 B1 ++ A2 ++ B2 ++ T) w1) := hid (by
            have := HK1.out
            obtain ⟨-, hzA1⟩ := HZ.out
            subst hzA1
            simpa [mergeL_nil, mergeL_right] using this)
          have C3 := hid (HIH.out (P ++ mergeL le A1 B1) A2 B2 T _ w1 l d f e (by have := HNN.out; have := HSZ.out; omega) HNN.out.2.1 HNN.out.2.2.2 HSA.out.2.1 HSA.out.2.2.2 (by simp) (by rw [HLN.out]; simp; omega) (by have := LS.out; have := LA.out; have := LP.out; simp; omega) (by have := LS.out; have := LA.out; omega) (by have := LS.out; have := LA.out; omega) HK2.out hcap hcap2)
          go_wp2_with fail
          with_reducible refine C3.out.mono ?_
          rintro r w3 ⟨rfl, hk3⟩
          have HK3 : Hid (SortAt (encP pc) 1 w b o (P ++ mergeL le A B ++ T) w3) := hid (by rw [HMG.out]; simpa using hk3)
          clear hk3
          go_wp2
          all_goals
            go_end0
            exact ⟨rfl, by first | (with_reducible exact HK3.out) | (rw [← List.append_assoc]; with_reducible exact HK3.out)⟩
        · have f1 : (i : Int) < (m : Int) := by have := LA.out; have := LS.out; omega
          have f2 : (m : Int) < (f : Int) := by have := LA.out; have := LS.out; omega
          have f3 : (i : Int) ≤ (a : Int) := by have := LA.out; have := LS.out; omega
          have f4 : (i : Int) < (d : Int) := by have := LA.out; have := LS.out; omega
          have f5 : (d : Int) < (f : Int) := by have := LA.out; have := LS.out; omega
          have f6 : (e : Int) ≤ (f : Int) := by have := LA.out; have := LS.out; omega
          have hzA1 : A1 = [] := List.length_eq_zero_iff.1 (by omega)
          have hzB2 : B2 = [] := List.length_eq_zero_iff.1 (by omega)
          have HZ := hid (And.intro (rfl : 0 = 0) (And.intro hzA1 hzB2))
          clear hzA1
          clear hzB2
          have HN1 := hid (And.intro n2 n3)
          have HNN := hid (And.intro n1 (And.intro n2 (And.intro n3 n4)))
          clear n1 n2 n3 n4
          have C1 := hid (rotate_p (pc := pc) (cap := cap) (l := l) (za := (i : Int)) (zm := (m : Int)) (zb := (f : Int)) (cv := .func (.func 47) #[] #[]) (P ++ A1) A2 B1 (B2 ++ T) wr (by simp) (by rw [HLN.out]; simp; omega) (by have := LS.out; have := LP.out; simp; omega) (by have := LS.out; have := LP.out; have := LA.out; simp; omega) (by have := LS.out; have := LP.out; have := LA.out; simp; omega) HK0.out (by intro hn; have := HNN.out; rw [hn] at this; simp at this) (by intro hn; have := HNN.out; rw [hn] at this; simp at this) hcap hcap2)
          go_wp2_with fail
          with_reducible refine C1.out.mono ?_
          rintro r w1 ⟨rfl, hk1⟩
          have HK1 : Hid (SortAt (encP pc) 1 w b o (P ++ A1 ++ B1 ++ A2 ++ B2 ++ T) w1) := hid (by simpa using hk1)
          clear hk1
          have HK2 : Hid (SortAt (encP pc) 1 w b o (P ++ mergeL le A1 B1 ++ A2 ++ B2 ++ T) w1) := hid (by
            have := HK1.out
            obtain ⟨-, hzA1, hzB2⟩ := HZ.out
            subst hzA1 hzB2
            simpa [mergeL_nil, mergeL_right] using this)
          have HK3 : Hid (SortAt (encP pc) 1 w b o (P ++ mergeL le A B ++ T) w1) := hid (by
            have := HK2.out
            rw [HMG.out]
            obtain ⟨-, hzA1, hzB2⟩ := HZ.out
            subst hzA1 hzB2
            simpa [mergeL_nil, mergeL_right] using this)
          go_wp2
          all_goals
            go_end0
            exact ⟨rfl, by first | (with_reducible exact HK3.out) | (rw [← List.append_assoc]; with_reducible exact HK3.out)⟩
        · have f1 : (m : Int) ≤ (i : Int) := by have := LA.out; have := LS.out; omega
          have f2 : (m : Int) < (f : Int) := by have := LA.out; have := LS.out; omega
          have f3 : (i : Int) ≤ (a : Int) := by have := LA.out; have := LS.out; omega
          have f4 : (i : Int) < (d : Int) := by have := LA.out; have := LS.out; omega
          have f5 : (f : Int) ≤ (d : Int) := by have := LA.out; have := LS.out; omega
          have f6 : (f : Int) < (e : Int) := by have := LA.out; have := LS.out; omega
          have hzA1 : A1 = [] := List.length_eq_zero_iff.1 (by omega)
          have hzA2 : A2 = [] := List.length_eq_zero_iff.1 (by omega)
          have HZ := hid (And.intro (rfl : 0 = 0) (And.intro hzA1 hzA2))
          clear hzA1
          clear hzA2
          have HNN := hid (And.intro n1 (And.intro n2 (And.intro n3 n4)))
          clear n1 n2 n3 n4
          have HK1 : Hid (SortAt (encP pc) 1 w b o (P ++ A1 ++ B1 ++ A2 ++ B2 ++ T) wr) := hid (by
            have := HK0.out
            obtain ⟨-, hzA1, hzA2⟩ := HZ.out
            subst hzA1 hzA2
            simpa using this)
          have HK2 : Hid (SortAt (encP pc) 1 w b o (P ++ mergeL le A1 B1 ++ A2 ++ B2 ++ T) wr) := hid (by
            have := HK1.out
            obtain ⟨-, hzA1, hzA2⟩ := HZ.out
            subst hzA1 hzA2
            simpa [mergeL_nil, mergeL_right] using this)
          have HK3 : Hid (SortAt (encP pc) 1 w b o (P ++ mergeL le A B ++ T) wr) := hid (by
            have := HK2.out
            rw [HMG.out]
            obtain ⟨-, hzA1, hzA2⟩ := HZ.out
            subst hzA1 hzA2
            simpa [mergeL_nil, mergeL_right] using this)
          go_wp2
          all_goals
            go_end0
            exact ⟨rfl, by first | (with_reducible exact HK3.out) | (rw [← List.append_assoc]; with_reducible exact HK3.out)⟩
  · have q3 : ¬ (m : Int) > (d : Int) := by omega
    have HG : Hid (symGood a m e d a m) := .inr ⟨hdm, rfl, rfl⟩
    have hlh : a ≤ m := by omega
    go_enter Tryz.func130, Tryz.ntmps130
    go_wp2
    go_loopw [20, 21] (fun vi vj wr => ∃ i j lo hi : Nat, vi = .int .i64 i ∧ vj = .int .i64 j ∧ Hid (symGood a m e d lo hi) ∧ lo ≤ i ∧ i ≤ j ∧ j ≤ hi ∧ Hid (i = lo ∨ ∃ x z, cur[i - 1]? = some x ∧ cur[d + m - i]? = some z ∧ le x z = true) ∧ Hid (j = hi ∨ ∃ x z, cur[j]? = some x ∧ cur[d + m - j - 1]? = some z ∧ le x z = false) ∧ SortAt (encP pc) 1 w b o cur wr) (fun vi vj _ => (intOf vj).toNat - (intOf vi).toNat)
    case atStart => exact ⟨a, m, a, m, rfl, rfl, HG, Nat.le_refl _, hlh, Nat.le_refl _, .inl rfl, .inl rfl, H.out⟩
    case round =>
      clear HG q3 hlh hdm
      obtain ⟨i, j, lo, hi, rfl, rfl, HG, hli, hij, hjh, HI, HJ, hs⟩ := hrel
      have HS := hid hs
      have hb : a ≤ lo ∧ hi ≤ m ∧ hi ≤ d ∧ d + m ≤ lo + e := by have := HG.out; unfold symGood at this; omega
      obtain ⟨hb1, hb2, hb3, hb4⟩ := hb
      by_cases hlt : i < j
      · obtain ⟨h, hh⟩ : ∃ h, h = (i + j) / 2 := ⟨_, rfl⟩
        have hh1 : i ≤ h := by omega
        have hh2 : h < j := by omega
        obtain ⟨g, hg⟩ : ∃ g, g = d + m - h - 1 := ⟨_, rfl⟩
        have hge : g < e := by omega
        obtain ⟨x, hx⟩ := some_of_lt (l := cur) (j := h) (by rw [← HLL.out]; omega)
        obtain ⟨z, hz⟩ := some_of_lt (l := cur) (j := g) (by rw [← HLL.out]; omega)
        have HX := hid hx
        have HZ := hid hz
        have p1 : ((i : Int) + (j : Int)) / 2 = (h : Int) := by omega
        have p2 : (d : Int) + (m : Int) - 1 - (h : Int) = (g : Int) := by omega
        have p3 : (g : Int) < (l : Int) := by omega
        have p4 : (h : Int) < (l : Int) := by omega
        have L0 := fun Y : Later wr => (hs.later Y.h).get1 hz
        have L1 := fun Y : Later wr => (hs.later Y.h).get1 hx
        have LC := fun Y : Later wr => HC.out Y.w' (hs.later Y.h).grown z x
        have a0 := fun Y => (L0 Y).1
        have b0 := fun Y => (L1 Y).1
        obtain ⟨r1, r2⟩ := HL.out.range z x
        have HLE := hid (HL.out.eq z x)
        have HH := hid hh
        have HGG := hid hg
        generalize cf z x = c at *
        have HLC := hid LC
        clear L0 L1 LC hs hz hx hh hg
        by_cases hcc : c < 0
        · go_wp2
          refine wp_region_later (by kernel_rfl) (by kernel_rfl) ?_
          repeat (go_big_quiet_step (first | (go_at_call 47; exact Later.done (HLC.out _))))
          refine wpQuiet_nil ?_
          intro W2 hW2
          clear a0 b0
          have HD2 := hid (HS.out.later hW2)
          clear hW2
          go_wp2
          go_roundw
          case rel =>
            refine ⟨i, h, lo, hi, rfl, rfl, HG, hli, hh1, by omega, HI, .inr ⟨x, z, HX.out, by rw [← HGG.out]; exact HZ.out, ?_⟩, HD2.out⟩
            rw [HLE.out]; exact decide_eq_false (by omega)
          case measure => simp only [intOf]; omega
        · have q4 : decide (c < 0) = false := decide_eq_false hcc
          have q5 : c + 1 > 0 := by omega
          have HCC := hid hcc
          clear hcc
          go_wp2
          refine wp_region_later (by kernel_rfl) (by kernel_rfl) ?_
          repeat (go_big_quiet_step (first | (go_at_call 47; exact Later.done (HLC.out _))))
          refine wpQuiet_nil ?_
          intro W2 hW2
          clear a0 b0
          have HD2 := hid (HS.out.later hW2)
          clear hW2
          go_wp2
          go_roundw
          case rel =>
            refine ⟨h + 1, j, lo, hi, by go_num, rfl, HG, by omega, by omega, hjh, .inr ⟨x, z, by rw [Nat.add_sub_cancel]; exact HX.out, by rw [show d + m - (h + 1) = g by have := HGG.out; omega]; exact HZ.out, ?_⟩, HJ, HD2.out⟩
            rw [HLE.out]; exact decide_eq_true (by have := HCC.out; omega)
          case measure => simp only [intOf]; omega
      · obtain rfl : i = j := by omega
        obtain ⟨f, hf⟩ : ∃ f, f + i = d + m := ⟨d + m - i, by omega⟩
        obtain ⟨A1, A2, B1, B2, hA12, hB12, hsA, hfB, hmg⟩ := sym_split (f := f) HL.out.total hA hB HCUR.out HA.out HM.out HE.out HD.out HG.out hli hjh hf (by
          have := HI.out
          rwa [show d + m - i = f by omega] at this) (by
          have := HJ.out
          rwa [show d + m - i - 1 = f - 1 by omega] at this)
        have p1 : (d : Int) + (m : Int) - (i : Int) = (f : Int) := by omega
        have lA := HM.out
        have lB := HE.out
        rw [hA12] at lA
        rw [hB12] at lB
        simp only [List.length_append] at lA lB
        have lP := HA.out
        have HMG := hid hmg
        have HK0 : Hid (SortAt (encP pc) 1 w b o (P ++ A1 ++ A2 ++ B1 ++ B2 ++ T) wr) := hid (by
          have := HS.out
          rw [HCUR.out, hA12, hB12] at this
          simpa using this)
        have HLN : Hid (l = P.length + A1.length + A2.length + B1.length + B2.length + T.length) := hid (by rw [HLL.out, HCUR.out, hA12, hB12]; simp; omega)
        have HSZ : Hid (A.length = A1.length + A2.length ∧ B.length = B1.length + B2.length) := hid (by rw [hA12, hB12]; simp)
        have HSA : Hid (SortedL le A1 ∧ SortedL le A2 ∧ SortedL le B1 ∧ SortedL le B2) := hid (by
          rw [hA12] at hA
          rw [hB12] at hB
          have h1 := List.pairwise_append.1 hA
          have h2 := List.pairwise_append.1 hB
          exact ⟨h1.1, h1.2.1, h2.1, h2.2.1⟩)
        have LP := hid lP
        have LA := hid (And.intro lA lB)
        have LS := hid (And.intro hsA (And.intro hfB hf))
        have hmle : m ≤ l := by omega
        have hfle : f ≤ l := by omega
        clear hs hA12 hB12 hmg hli hij hjh hb1 hb2 hb3 hb4 hlt lA lB lP hsA hfB hf
        rcases (show (0 < A1.length ∧ 0 < A2.length ∧ 0 < B1.length ∧ 0 < B2.length) ∨ (0 < A1.length ∧ 0 < A2.length ∧ 0 < B1.length ∧ B2.length = 0) ∨ (0 < A1.length ∧ A2.length = 0 ∧ 0 < B1.length ∧ 0 < B2.length) ∨ (0 < A1.length ∧ 0 < A2.length ∧ B1.length = 0 ∧ 0 < B2.length) ∨ (0 < A1.length ∧ 0 < A2.length ∧ B1.length = 0 ∧ B2.length = 0) ∨ (0 < A1.length ∧ A2.length = 0 ∧ B1.length = 0 ∧ 0 < B2.length) ∨ (A1.length = 0 ∧ 0 < A2.length ∧ 0 < B1.length ∧ 0 < B2.length) ∨ (A1.length = 0 ∧ 0 < A2.length ∧ 0 < B1.length ∧ B2.length = 0) ∨ (A1.length = 0 ∧ A2.length = 0 ∧ 0 < B1.length ∧ 0 < B2.length) by have := LA.out; have := LS.out; omega) with ⟨n1, n2, n3, n4⟩ | ⟨n1, n2, n3, n4⟩ | ⟨n1, n2, n3, n4⟩ | ⟨n1, n2, n3, n4⟩ | ⟨n1, n2, n3, n4⟩ | ⟨n1, n2, n3, n4⟩ | ⟨n1, n2, n3, n4⟩ | ⟨n1, n2, n3, n4⟩ | ⟨n1, n2, n3, n4⟩
        · have f1 : (i : Int) < (m : Int) := by have := LA.out; have := LS.out; omega
          have f2 : (m : Int) < (f : Int) := by have := LA.out; have := LS.out; omega
          have f3 : (a : Int) < (i : Int) := by have := LA.out; have := LS.out; omega
          have f4 : (i : Int) < (d : Int) := by have := LA.out; have := LS.out; omega
          have f5 : (d : Int) < (f : Int) := by have := LA.out; have := LS.out; omega
          have f6 : (f : Int) < (e : Int) := by have := LA.out; have := LS.out; omega
          have HN1 := hid (And.intro n2 n3)
          have HNN := hid (And.intro n1 (And.intro n2 (And.intro n3 n4)))
          clear n1 n2 n3 n4
          have C1 := hid (rotate_p (pc := pc) (cap := cap) (l := l) (za := (i : Int)) (zm := (m : Int)) (zb := (f : Int)) (cv := .func (.func 47) #[] #[]) (P ++ A1) A2 B1 (B2 ++ T) wr (by simp) (by rw [HLN.out]; simp; omega) (by have := LS.out; have := LP.out; simp; omega) (by have := LS.out; have := LP.out; have := LA.out; simp; omega) (by have := LS.out; have := LP.out; have := LA.out; simp; omega) HK0.out (by intro hn; have := HNN.out; rw [hn] at this; simp at this) (by intro hn; have := HNN.out; rw [hn] at this; simp at this) hcap hcap2)
          go_wp2_with fail
          with_reducible refine C1.out.mono ?_
          rintro r w1 ⟨rfl, hk1⟩
          have HK1 : Hid (SortAt (encP pc) 1 w b o (P ++ A1 ++ B1 ++ A2 ++ B2 ++ T) w1) := hid (by simpa using hk1)
          clear hk1
          have C2 := hid (HIH.out P A1 B1 (A2 ++ B2 ++ T) _ w1 l a i d (by have := HNN.out; have := HSZ.out; omega) HNN.out.1 HNN.out.2.2.1 HSA.out.1 HSA.out.2.2.1 (by simp) (by rw [HLN.out]; simp; omega) LP.out LS.out.1 (by have := LS.out; have := LA.out; omega) HK1.out hcap hcap2)
          go_wp2_with fail
          with_reducible refine C2.out.mono ?_
          rintro r w2 ⟨rfl, hk2⟩
          have HK2 : Hid (SortAt (encP pc) 1 w b o (P ++ mergeL le A1 B1 ++ A2 ++ B2 ++ T) w2) := hid (by simpa using hk2)
          clear hk2
          have C3 := hid (HIH.out (P ++ mergeL le A1 B1) A2 B2 T _ w2 l d f e (by have := HNN.out; have := HSZ.out; omega) HNN.out.2.1 HNN.out.2.2.2 HSA.out.2.1 HSA.out.2.2.2 (by simp) (by rw [HLN.out]; simp; omega) (by have := LS.out; have := LA.out; have := LP.out; simp; omega) (by have := LS.out; have := LA.out; omega) (by have := LS.out; have := LA.out; omega) HK2.out hcap hcap2)
          go_wp2_with fail
          with_reducible refine C3.out.mono ?_
          rintro r w3 ⟨rfl, hk3⟩
          have HK3 : Hid (SortAt (encP pc) 1 w b o (P ++ mergeL le A B ++ T) w3) := hid (by rw [HMG.out]; simpa using hk3)
          clear hk3
          go_wp2
          all_goals
            go_end0
            exact ⟨rfl, by first | (with_reducible exact HK3.out) | (rw [← List.append_assoc]; with_reducible exact HK3.out)⟩
        · have f1 : (i : Int) < (m : Int) := by have := LA.out; have := LS.out; omega
          have f2 : (m : Int) < (f : Int) := by have := LA.out; have := LS.out; omega
          have f3 : (a : Int) < (i : Int) := by have := LA.out; have := LS.out; omega
          have f4 : (i : Int) < (d : Int) := by have := LA.out; have := LS.out; omega
          have f5 : (d : Int) < (f : Int) := by have := LA.out; have := LS.out; omega
          have f6 : (e : Int) ≤ (f : Int) := by have := LA.out; have := LS.out; omega
          have hzB2 : B2 = [] := List.length_eq_zero_iff.1 (by omega)
          have HZ := hid (And.intro (rfl : 0 = 0) hzB2)
          clear hzB2
          have HN1 := hid (And.intro n2 n3)
          have HNN := hid (And.intro n1 (And.intro n2 (And.intro n3 n4)))
          clear n1 n2 n3 n4
          have C1 := hid (rotate_p (pc := pc) (cap := cap) (l := l) (za := (i : Int)) (zm := (m : Int)) (zb := (f : Int)) (cv := .func (.func 47) #[] #[]) (P ++ A1) A2 B1 (B2 ++ T) wr (by simp) (by rw [HLN.out]; simp; omega) (by have := LS.out; have := LP.out; simp; omega) (by have := LS.out; have := LP.out; have := LA.out; simp; omega) (by have := LS.out; have := LP.out; have := LA.out; simp; omega) HK0.out (by intro hn; have := HNN.out; rw [hn] at this; simp at this) (by intro hn; have := HNN.out; rw [hn] at this; simp at this) hcap hcap2)
          go_wp2_with fail
          with_reducible refine C1.out.mono ?_
          rintro r w1 ⟨rfl, hk1⟩
          have HK1 : Hid (SortAt (encP pc) 1 w b o (P ++ A1 ++ B1 ++ A2 ++ B2 ++ T) w1) := hid (by simpa using hk1)
          clear hk1
          have C2 := hid (HIH.out P A1 B1 (A2 ++ B2 ++ T) _ w1 l a i d (by have := HNN.out; have := HSZ.out; omega) HNN.out.1 HNN.out.2.2.1 HSA.out.1 HSA.out.2.2.1 (by simp) (by rw [HLN.out]; simp; omega) LP.out LS.out.1 (by have := LS.out; have := LA.out; omega) HK1.out hcap hcap2)
          go_wp2_with fail
          with_reducible refine C2.out.mono ?_
          rintro r w2 ⟨rfl, hk2⟩
          have HK2 : Hid (SortAt (encP pc) 1 w b o (P ++ mergeL le A1 B1 ++ A2 ++ B2 ++ T) w2) := hid (by simpa using hk2)
          clear hk2
          have HK3 : Hid (SortAt (encP pc) 1 w b o (P ++ mergeL le A B ++ T) w2) := hid (by
            have := HK2.out
            rw [HMG.out]
            obtain ⟨-, hzB2⟩ := HZ.out
            subst hzB2
            simpa [mergeL_nil, mergeL_right] using this)
          go_wp2
          all_goals
            go_end0
            exact ⟨rfl, by first | (with_reducible exact HK3.out) | (rw [← List.append_assoc]; with_reducible exact HK3.out)⟩
        · have f1 : (m : Int) ≤ (i : Int) := by have := LA.out; have := LS.out; omega
          have f2 : (m : Int) < (f : Int) := by have := LA.out; have := LS.out; omega
          have f3 : (a : Int) < (i : Int) := by have := LA.out; have := LS.out; omega
          have f4 : (i : Int) < (d : Int) := by have := LA.out; have := LS.out; omega
          have f5 : (f : Int) ≤ (d : Int) := by have := LA.out; have := LS.out; omega
          have f6 : (f : Int) < (e : Int) := by have := LA.out; have := LS.out; omega
          have hzA2 : A2 = [] := List.length_eq_zero_iff.1 (by omega)
          have HZ := hid (And.intro (rfl : 0 = 0) hzA2)
          clear hzA2
          have HNN := hid (And.intro n1 (And.intro n2 (And.intro n3 n4)))
          clear n1 n2 n3 n4
          have HK1 : Hid (SortAt (encP pc) 1 w b o (P ++ A1 ++ B1 ++ A2 ++ B2 ++ T) wr) := hid (by
            have := HK0.out
            obtain ⟨-, hzA2⟩ := HZ.out
            subst hzA2
            simpa using this)
          have C2 := hid (HIH.out P A1 B1 (A2 ++ B2 ++ T) _ wr l a i d (by have := HNN.out; have := HSZ.out; omega) HNN.out.1 HNN.out.2.2.1 HSA.out.1 HSA.out.2.2.1 (by simp) (by rw [HLN.out]; simp; omega) LP.out LS.out.1 (by have := LS.out; have := LA.out; omega) HK1.out hcap hcap2)
          go_wp2_with fail
          with_reducible refine C2.out.mono ?_
          rintro r w2 ⟨rfl, hk2⟩
          have HK2 : Hid (SortAt (encP pc) 1 w b o (P ++ mergeL le A1 B1 ++ A2 ++ B2 ++ T) w2) := hid (by simpa using hk2)
          clear hk2
          have HK3 : Hid (SortAt (encP pc) 1 w b o (P ++ mergeL le A B ++ T) w2) := hid (by
            have := HK2.out
            rw [HMG.out]
            obtain ⟨-, hzA2⟩ := HZ.out
            subst hzA2
            simpa [mergeL_nil, mergeL_right] using this)
          go_wp2
          all_goals
            go_end0
            exact ⟨rfl, by first | (with_reducible exact HK3.out) | (rw [← List.append_assoc]; with_reducible exact HK3.out)⟩
        · have f1 : (i : Int) < (m : Int) := by have := LA.out; have := LS.out; omega
          have f2 : (f : Int) ≤ (m : Int) := by have := LA.out; have := LS.out; omega
          have f3 : (a : Int) < (i : Int) := by have := LA.out; have := LS.out; omega
          have f4 : (d : Int) ≤ (i : Int) := by have := LA.out; have := LS.out; omega
          have f5 : (d : Int) < (f : Int) := by have := LA.out; have := LS.out; omega
          have f6 : (f : Int) < (e : Int) := by have := LA.out; have := LS.out; omega
          have hzB1 : B1 = [] := List.length_eq_zero_iff.1 (by omega)
          have HZ := hid (And.intro (rfl : 0 = 0) hzB1)
          clear hzB1
          have HNN := hid (And.intro n1 (And.intro n2 (And.intro n3 n4)))
          clear n1 n2 n3 n4
          have HK1 : Hid (SortAt (encP pc) 1 w b o (P ++ A1 ++ B1 ++ A2 ++ B2 ++ T) wr) := hid (by
            have := HK0.out
            obtain ⟨-, hzB1⟩ := HZ.out
            subst hzB1
            simpa using this)
          have HK2 : Hid (SortAt (encP pc) 1 w b o (P ++ mergeL le A1 B1 ++ A2 ++ B2 ++ T) wr) := hid (by
            have := HK1.out
            obtain ⟨-, hzB1⟩ := HZ.out
            subst hzB1
            simpa [mergeL_nil, mergeL_right] using this)
          have C3 := hid (HIH.out (P ++ mergeL le A1 B1) A2 B2 T _ wr l d f e (by have := HNN.out; have := HSZ.out; omega) HNN.out.2.1 HNN.out.2.2.2 HSA.out.2.1 HSA.out.2.2.2 (by simp) (by rw [HLN.out]; simp; omega) (by have := LS.out; have := LA.out; have := LP.out; simp; omega) (by have := LS.out; have := LA.out; omega) (by have := LS.out; have := LA.out; omega) HK2.out hcap hcap2)
          go_wp2_with fail
          with_reducible refine C3.out.mono ?_
          rintro r w3 ⟨rfl, hk3⟩
          have HK3 : Hid (SortAt (encP pc) 1 w b o (P ++ mergeL le A B ++ T) w3) := hid (by rw [HMG.out]; simpa using hk3)
          clear hk3
          go_wp2
          all_goals
            go_end0
            exact ⟨rfl, by first | (with_reducible exact HK3.out) | (rw [← List.append_assoc]; with_reducible exact HK3.out)⟩
        · have f1 : (i : Int) < (m : Int) := by have := LA.out; have := LS.out; omega
          have f2 : (f : Int) ≤ (m : Int) := by have := LA.out; have := LS.out; omega
          have f3 : (a : Int) < (i : Int) := by have := LA.out; have := LS.out; omega
          have f4 : (d : Int) ≤ (i : Int) := by have := LA.out; have := LS.out; omega
          have f5 : (d : Int) < (f : Int) := by have := LA.out; have := LS.out; omega
          have f6 : (e : Int) ≤ (f : Int) := by have := LA.out; have := LS.out; omega
          have hzB1 : B1 = [] := List.length_eq_zero_iff.1 (by omega)
          have hzB2 : B2 = [] := List.length_eq_zero_iff.1 (by omega)
          have HZ := hid (And.intro (rfl : 0 = 0) (And.intro hzB1 hzB2))
          clear hzB1
          clear hzB2
          have HNN := hid (And.intro n1 (And.intro n2 (And.intro n3 n4)))
          clear n1 n2 n3 n4
          have HK1 : Hid (SortAt (encP pc) 1 w b o (P ++ A1 ++ B1 ++ A2 ++ B2 ++ T) wr) := hid (by
            have := HK0.out
            obtain ⟨-, hzB1, hzB2⟩ := HZ.out
            subst hzB1 hzB2
            simpa using this)
          have HK2 : Hid (SortAt (encP pc) 1 w b o (P ++ mergeL le A1 B1 ++ A2 ++ B2 ++ T) wr) := hid (by
            have := HK1.out
            obtain ⟨-, hzB1, hzB2⟩ := HZ.out
            subst hzB1 hzB2
            simpa [mergeL_nil, mergeL_right] using this)
          have HK3 : Hid (SortAt (encP pc) 1 w b o (P ++ mergeL le A B ++ T) wr) := hid (by
            have := HK2.out
            rw [HMG.out]
            obtain ⟨-, hzB1, hzB2⟩ := HZ.out
            subst hzB1 hzB2
            simpa [mergeL_nil, mergeL_right] using this)
          go_wp2
          all_goals
            go_end0
            exact ⟨rfl, by first | (with_reducible exact HK3.out) | (rw [← List.append_assoc]; with_reducible exact HK3.out)⟩
        · have f1 : (m : Int) ≤ (i : Int) := by have := LA.out; have := LS.out; omega
          have f2 : (f : Int) ≤ (m : Int) := by have := LA.out; have := LS.out; omega
          have f3 : (a : Int) < (i : Int) := by have := LA.out; have := LS.out; omega
          have f4 : (d : Int) ≤ (i : Int) := by have := LA.out; have := LS.out; omega
          have f5 : (f : Int) ≤ (d : Int) := by have := LA.out; have := LS.out; omega
          have f6 : (f : Int) < (e : Int) := by have := LA.out; have := LS.out; omega
          have hzA2 : A2 = [] := List.length_eq_zero_iff.1 (by omega)
          have hzB1 : B1 = [] := List.length_eq_zero_iff.1 (by omega)
          have HZ := hid (And.intro (rfl : 0 = 0) (And.intro hzA2 hzB1))
          clear hzA2
          clear hzB1
          have HNN := hid (And.intro n1 (And.intro n2 (And.intro n3 n4)))
          clear n1 n2 n3 n4
          have HK1 : Hid (SortAt (encP pc) 1 w b o (P ++ A1 ++ B1 ++ A2 ++ B2 ++ T) wr) := hid (by
            have := HK0.out
            obtain ⟨-, hzA2, hzB1⟩ := HZ.out
            subst hzA2 hzB1
            simpa using this)
          have HK2 : Hid (SortAt (encP pc) 1 w b o (P ++ mergeL le A1 B1 ++ A2 ++ B2 ++ T) wr) := hid (by
            have := HK1.out
            obtain ⟨-, hzA2, hzB1⟩ := HZ.out
            subst hzA2 hzB1
            simpa [mergeL_nil, mergeL_right] using this)
          have HK3 : Hid (SortAt (encP pc) 1 w b o (P ++ mergeL le A B ++ T) wr) := hid (by
            have := HK2.out
            rw [HMG.out]
            obtain ⟨-, hzA2, hzB1⟩ := HZ.out
            subst hzA2 hzB1
            simpa [mergeL_nil, mergeL_right] using this)
          go_wp2
          all_goals
            go_end0
            exact ⟨rfl, by first | (with_reducible exact HK3.out) | (rw [← List.append_assoc]; with_reducible exact HK3.out)⟩
        · have f1 : (i : Int) < (m : Int) := by have := LA.out; have := LS.out; omega
          have f2 : (m : Int) < (f : Int) := by have := LA.out; have := LS.out; omega
          have f3 : (i : Int) ≤ (a : Int) := by have := LA.out; have := LS.out; omega
          have f4 : (i : Int) < (d : Int) := by have := LA.out; have := LS.out; omega
          have f5 : (d : Int) < (f : Int) := by have := LA.out; have := LS.out; omega
          have f6 : (f : Int) < (e : Int) := by have := LA.out; have := LS.out; omega
          have hzA1 : A1 = [] := List.length_eq_zero_iff.1 (by omega)
          have HZ := hid (And.intro (rfl : 0 = 0) hzA1)
          clear hzA1
          have HN1 := hid (And.intro n2 n3)
          have HNN := hid (And.intro n1 (And.intro n2 (And.intro n3 n4)))
          clear n1 n2 n3 n4
          have C1 := hid (rotate_p (pc := pc) (cap := cap) (l := l) (za := (i : Int)) (zm := (m : Int)) (zb := (f : Int)) (cv := .func (.func 47) #[] #[]) (P ++ A1) A2 B1 (B2 ++ T) wr (by simp) (by rw [HLN.out]; simp; omega) (by have := LS.out; have := LP.out; simp; omega) (by have := LS.out; have := LP.out; have := LA.out; simp; omega) (by have := LS.out; have := LP.out; have := LA.out; simp; omega) HK0.out (by intro hn; have := HNN.out; rw [hn] at this; simp at this) (by intro hn; have := HNN.out; rw [hn] at this; simp at this) hcap hcap2)
          go_wp2_with fail
          with_reducible refine C1.out.mono ?_
          rintro r w1 ⟨rfl, hk1⟩
          have HK1 : Hid (SortAt (encP pc) 1 w b o (P ++ A1 ++ B1 ++ A2 ++ B2 ++ T) w1) := hid (by simpa using hk1)
          clear hk1
          have HK2 : Hid (SortAt (encP pc) 1 w b o (P ++ mergeL le A1 B1 ++ A2 ++ B2 ++ T) w1) := hid (by
            have := HK1.out
            obtain ⟨-, hzA1⟩ := HZ.out
            subst hzA1
            simpa [mergeL_nil, mergeL_right] using this)
          have C3 := hid (HIH.out (P ++ mergeL le A1 B1) A2 B2 T _ w1 l d f e (by have := HNN.out; have := HSZ.out; omega) HNN.out.2.1 HNN.out.2.2.2 HSA.out.2.1 HSA.out.2.2.2 (by simp) (by rw [HLN.out]; simp; omega) (by have := LS.out; have := LA.out; have := LP.out; simp; omega) (by have := LS.out; have := LA.out; omega) (by have := LS.out; have := LA.out; omega) HK2.out hcap hcap2)
          go_wp2_with fail
          with_reducible refine C3.out.mono ?_
          rintro r w3 ⟨rfl, hk3⟩
          have HK3 : Hid (SortAt (encP pc) 1 w b o (P ++ mergeL le A B ++ T) w3) := hid (by rw [HMG.out]; simpa using hk3)
          clear hk3
          go_wp2
          all_goals
            go_end0
            exact ⟨rfl, by first | (with_reducible exact HK3.out) | (rw [← List.append_assoc]; with_reducible exact HK3.out)⟩
        · have f1 : (i : Int) < (m : Int) := by have := LA.out; have := LS.out; omega
          have f2 : (m : Int) < (f : Int) := by have := LA.out; have := LS.out; omega
          have f3 : (i : Int) ≤ (a : Int) := by have := LA.out; have := LS.out; omega
          have f4 : (i : Int) < (d : Int) := by have := LA.out; have := LS.out; omega
          have f5 : (d : Int) < (f : Int) := by have := LA.out; have := LS.out; omega
          have f6 : (e : Int) ≤ (f : Int) := by have := LA.out; have := LS.out; omega
          have hzA1 : A1 = [] := List.length_eq_zero_iff.1 (by omega)
          have hzB2 : B2 = [] := List.length_eq_zero_iff.1 (by omega)
          have HZ := hid (And.intro (rfl : 0 = 0) (And.intro hzA1 hzB2))
          clear hzA1
          clear hzB2
          have HN1 := hid (And.intro n2 n3)
          have HNN := hid (And.intro n1 (And.intro n2 (And.intro n3 n4)))
          clear n1 n2 n3 n4
          have C1 := hid (rotate_p (pc := pc) (cap := cap) (l := l) (za := (i : Int)) (zm := (m : Int)) (zb := (f : Int)) (cv := .func (.func 47) #[] #[]) (P ++ A1) A2 B1 (B2 ++ T) wr (by simp) (by rw [HLN.out]; simp; omega) (by have := LS.out; have := LP.out; simp; omega) (by have := LS.out; have := LP.out; have := LA.out; simp; omega) (by have := LS.out; have := LP.out; have := LA.out; simp; omega) HK0.out (by intro hn; have := HNN.out; rw [hn] at this; simp at this) (by intro hn; have := HNN.out; rw [hn] at this; simp at this) hcap hcap2)
          go_wp2_with fail
          with_reducible refine C1.out.mono ?_
          rintro r w1 ⟨rfl, hk1⟩
          have HK1 : Hid (SortAt (encP pc) 1 w b o (P ++ A1 ++ B1 ++ A2 ++ B2 ++ T) w1) := hid (by simpa using hk1)
          clear hk1
          have HK2 : Hid (SortAt (encP pc) 1 w b o (P ++ mergeL le A1 B1 ++ A2 ++ B2 ++ T) w1) := hid (by
            have := HK1.out
            obtain ⟨-, hzA1, hzB2⟩ := HZ.out
            subst hzA1 hzB2
            simpa [mergeL_nil, mergeL_right] using this)
          have HK3 : Hid (SortAt (encP pc) 1 w b o (P ++ mergeL le A B ++ T) w1) := hid (by
            have := HK2.out
            rw [HMG.out]
            obtain ⟨-, hzA1, hzB2⟩ := HZ.out
            subst hzA1 hzB2
            simpa [mergeL_nil, mergeL_right] using this)
          go_wp2
          all_goals
            go_end0
            exact ⟨rfl, by first | (with_reducible exact HK3.out) | (rw [← List.append_assoc]; with_reducible exact HK3.out)⟩
        · have f1 : (m : Int) ≤ (i : Int) := by have := LA.out; have := LS.out; omega
          have f2 : (m : Int) < (f : Int) := by have := LA.out; have := LS.out; omega
          have f3 : (i : Int) ≤ (a : Int) := by have := LA.out; have := LS.out; omega
          have f4 : (i : Int) < (d : Int) := by have := LA.out; have := LS.out; omega
          have f5 : (f : Int) ≤ (d : Int) := by have := LA.out; have := LS.out; omega
          have f6 : (f : Int) < (e : Int) := by have := LA.out; have := LS.out; omega
          have hzA1 : A1 = [] := List.length_eq_zero_iff.1 (by omega)
          have hzA2 : A2 = [] := List.length_eq_zero_iff.1 (by omega)
          have HZ := hid (And.intro (rfl : 0 = 0) (And.intro hzA1 hzA2))
          clear hzA1
          clear hzA2
          have HNN := hid (And.intro n1 (And.intro n2 (And.intro n3 n4)))
          clear n1 n2 n3 n4
          have HK1 : Hid (SortAt (encP pc) 1 w b o (P ++ A1 ++ B1 ++ A2 ++ B2 ++ T) wr) := hid (by
            have := HK0.out
            obtain ⟨-, hzA1, hzA2⟩ := HZ.out
            subst hzA1 hzA2
            simpa using this)
          have HK2 : Hid (SortAt (encP pc) 1 w b o (P ++ mergeL le A1 B1 ++ A2 ++ B2 ++ T) wr) := hid (by
            have := HK1.out
            obtain ⟨-, hzA1, hzA2⟩ := HZ.out
            subst hzA1 hzA2
            simpa [mergeL_nil, mergeL_right] using this)
          have HK3 : Hid (SortAt (encP pc) 1 w b o (P ++ mergeL le A B ++ T) wr) := hid (by
            have := HK2.out
            rw [HMG.out]
            obtain ⟨-, hzA1, hzA2⟩ := HZ.out
            subst hzA1 hzA2
            simpa [mergeL_nil, mergeL_right] using this)
          go_wp2
          all_goals
            go_end0
            exact ⟨rfl, by first | (with_reducible exact HK3.out) | (rw [← List.append_assoc]; with_reducible exact HK3.out)⟩

theorem sym_merge_p (hc : CmpP 47 pc cf w b) (hcl : CmpLe cf le) {cap : Nat} : ∀ (N : Nat) (P A B T cur : List α) (W : World) (l a m e : Nat), A.length + B.length < N → 0 < A.length → 0 < B.length → SortedL le A → SortedL le B → cur = P ++ A ++ B ++ T → l = cur.length → a = P.length → m = a + A.length → e = m + B.length → SortAt (encP pc) 1 w b o cur W → l ≤ cap → l ≤ 1000000000000 →
      Calls Tryz.prog 130 #[.slice (some ⟨b, o, none⟩) l cap, .int .i64 a, .int .i64 m, .int .i64 e, .func (.func 47) #[] #[]] W
        fun r w' => r = .returned (.tuple #[]) ∧ SortAt (encP pc) 1 w b o (P ++ mergeL le A B ++ T) w' := by
  intro N
  induction N with
  | zero => intro P A B T cur W l a m e hN; omega
  | succ N ih =>
    intro P A B T cur W l a m e hN hA0 hB0 hA hB hcur hl ha hm he h hcap hcap2
    match A, hA0, hA, hcur, hm, hN with
    | [x], _, hA, hcur, hm, hN => exact sym_one_p P B T x cur W hc hcl (by rw [hcur]; simp) hl ha (by simpa using hm) (by rw [he, hm]; simp) h hB hcap hcap2
    | x :: x' :: A, _, hA, hcur, hm, hN =>
      match B, hB0, hB, hcur, he, hN with
      | [y], _, hB, hcur, he, hN => exact sym_last_p P (x :: x' :: A) T y cur W hc hcl (by rw [hcur]; simp) hl ha hm (by simpa using he) (by simp) h hA hcap hcap2
      | y :: y' :: B, _, hB, hcur, he, hN =>
        exact sym_step_p P (x :: x' :: A) (y :: y' :: B) T cur W hc hcl hcur hl ha hm he (by simp) (by simp) (fun P A' B' T cur W l a m e hlt => ih P A' B' T cur W l a m e (by omega)) h hA hB hcap hcap2
end
end Go.Proofs.YthplgldclilccaaGreat
