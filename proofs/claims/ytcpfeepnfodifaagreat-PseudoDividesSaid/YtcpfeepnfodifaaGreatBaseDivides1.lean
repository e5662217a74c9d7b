/- PseudoDivides holds: quotient, rest and count of any division, or why it ended, and what a meter has counted, are the document's, and so is the rest alone; the law answers true, and its arguments read as they did. No condition. -/
import Derived.Test.YtcpfeepnfodifaaGreatBase10
namespace Go.Proofs.YtcpfeepnfodifaaGreat
open Go.RowKit

theorem divD_o {o r : Option Nat} (h : o = none ↔ r = none) (keep : Bool) (s : MSt) (f g : PZ) (v : Int) : divD o keep s f g v = divD r keep s f g v := by
  have e1 : ∀ s, mstep o s = mstep r s := fun s => by
    cases o with
    | none => rw [h.1 rfl]
    | some a => cases r with
      | none => exact absurd (h.2 rfl) (by simp)
      | some b => rfl
  have e2 : ∀ s p, mkeep o s p = mkeep r s p := fun s p => by
    cases o with
    | none => rw [h.1 rfl]
    | some a => cases r with
      | none => exact absurd (h.2 rfl) (by simp)
      | some b => rfl
  have e3 : ∀ s, mexp o s = mexp r s := fun s => by
    cases o with
    | none => rw [h.1 rfl]
    | some a => cases r with
      | none => exact absurd (h.2 rfl) (by simp)
      | some b => rfl
  have key : ∀ (k : Nat) (s : MSt) (q z : PZ) (n : Nat), runD o keep g (headP g v) v (degP g v) k s q z n = runD r keep g (headP g v) v (degP g v) k s q z n := by
    intro k
    induction k with
    | zero => intros; rfl
    | succ k ih =>
      intro s q z n
      rw [runD, runD]
      simp only [e1, e2, e3, ih]
  exact key _ _ _ _ _

section
variable {w W W' : World} {o r : Option Nat} {s : MSt} {v : Value} {p : PZ} {N n0 n4 : Nat}
theorem ext_gb (h : Ext w W) (g : W.grownBy W' o) (ho : ∀ b, o = some b → w.heap.size ≤ b) : Ext w W' := ext_grown h g (fun k hk => ho k hk)
theorem MV.grown (h : MV W o s) (g : W.grownBy W' r) (hne : ∀ b, o = some b → some b ≠ r) : MV W' o s := fun b hb => ⟨(h b hb).1.grown g (hne b hb), (h b hb).2⟩
theorem RMV.grown (h : RMV W o s) (g : W.grownBy W' r) (hne : ∀ b, o = some b → some b ≠ r) : RMV W' o s := fun b hb => ⟨(h b hb).1.grown g (hne b hb), (h b hb).2⟩
/-- a polynomial in blocks from a number on -/
abbrev PL (N : Nat) (W : World) (v : Value) (p : PZ) : Prop := Terms (fun k => N ≤ k ∧ k < W.heap.size) W v (ofP p)
theorem PMN.pl (h : PMN N o W v p) : PL N W v p := h.to (Kept.refl _ _) (fun _ h => ⟨h.1, h.2.1⟩)
theorem PL.pv (h : PL N W v p) : PV W v p := h.to (Kept.refl _ _) (fun _ h => h.2)
theorem PL.low {M : Nat} (h : PL N W v p) (hM : M ≤ N) : PL M W v p := h.to (Kept.refl _ _) (fun _ h => ⟨Nat.le_trans hM h.1, h.2⟩)
theorem PL.on (h : PL N W v p) (g : W.grownBy W' o) (ho : ∀ b, o = some b → b < N) : PL N W' v p :=
  h.to (fun k hk => g.block k hk.2 (fun e => by have := ho k e.symm; have := hk.1; omega)) (fun k hk => ⟨hk.1, Nat.lt_of_lt_of_le hk.2 g.size⟩)
theorem PL.ext (h : PL N W v p) (g : Ext W W') : PL N W' v p := PL.on (o := none) h (gb_of_ext g none) (fun _ e => by cases e)
/-- a document's polynomial in blocks that are no meter's -/
abbrev SS (n0 n4 : Nat) (W : World) : Nat → Prop := fun k => k < W.heap.size ∧ (k < n0 ∨ n4 ≤ k)
abbrev DL (n0 n4 : Nat) (W : World) (v : Value) (p : PZ) : Prop := RTs (SS n0 n4 W) W v p
theorem DL.rv (h : DL n0 n4 W v p) : RV W v p := h.to (Kept.refl _ _) (fun _ h => h.1)
theorem DL.on (h : DL n0 n4 W v p) (g : W.grownBy W' o) (ho : ∀ b, o = some b → n0 ≤ b ∧ b < n4) : DL n0 n4 W' v p :=
  h.to (fun k hk => g.block k hk.1 (fun e => by have := ho k e.symm; rcases hk.2 with h | h <;> omega)) (fun k hk => ⟨Nat.lt_of_lt_of_le hk.1 g.size, hk.2⟩)
theorem DL.ext (h : DL n0 n4 W v p) (g : Ext W W') : DL n0 n4 W' v p := DL.on (o := none) h (gb_of_ext g none) (fun _ e => by cases e)
theorem dl_rq (h : RQ (SS n0 n4 W) W W' v p) (hs : W.heap.size ≤ W'.heap.size) (hn : n4 ≤ W.heap.size) : DL n0 n4 W' v p :=
  h.to (Kept.refl _ _) (fun k hk => by
    rcases hk with h | h
    · exact ⟨Nat.lt_of_lt_of_le h.1 hs, h.2⟩
    · exact ⟨h.2, .inr (Nat.le_trans hn h.1)⟩)
end

set_option maxRecDepth 100000 in
/-- the document's reading of an argument -/
theorem of12 {w W : World} {v : Value} {F : PZ} {n4 : Nat} (fF : Fit 8 8 F) (hf : Terms (Old w) w v (ofP F)) (hx : Ext w W) (hn : n4 ≤ W.heap.size) :
    Calls Tryz.prog 19 #[v] W fun e w' => ∃ v', e = .returned v' ∧ DL w.heap.size n4 w' v' F ∧ Ext W w' := by
  have hT : Terms (fun k => k < w.heap.size) W v (ofP F) := hf.to (Kept.ext hx (fun _ h => h)) (fun _ h => h)
  have h := rpoly_of (S := fun k => k < w.heap.size) v (ofP F) W hT (fun k hk => Nat.lt_of_lt_of_le hk hx.size) (fun t ht => Nat.le_trans (fF.lens t ht) (by decide)) (by rw [toP_ofP]; exact fF.can.may) (fun k hk => by
    rw [toP_ofP, addP_take fF.can]
    exact fit_szP (fit_take fF k) (by decide) (by decide))
  rw [toP_ofP, normP_of_can fF.can] at h
  exact h.mono (by
    rintro e w' ⟨v', rfl, h1, h2⟩
    refine ⟨v', rfl, h1.to (Kept.refl _ _) (fun k hk => ?_), h2⟩
    rcases hk with h | h
    · exact ⟨Nat.lt_of_lt_of_le h (Nat.le_trans hx.size h2.size), .inl h⟩
    · exact ⟨h.2, .inr (Nat.le_trans hn h.1)⟩)

section
variable {w W : World} {o : Option Nat} {s : MSt} {vf vg : Value} {F G : PZ} {x : Int} {n4 : Nat}
theorem div12_z (hM : MV W o s) (hf : Terms (Old w) w vf (ofP F)) (hg : Terms (Old w) w vg (ofP G)) (hX : Ext w W) (ho : ∀ b, o = some b → w.heap.size ≤ b) (fF : Fit 8 8 F) (eF : exB 8 F) (fG : Fit 8 8 G) (hx : 1 ≤ x ∧ x ≤ 200) (hd : 1 ≤ degP G x) :
    Calls Tryz.prog 15 #[mval o, vf, vg, .int .i64 x] W (DividePost W o (divD o true s F G x)) :=
  z_divide hM (hf.to (Kept.ext hX (fun _ h => h)) (fun k hk => ⟨Nat.lt_of_lt_of_le hk hX.size, fun e => by have := ho k e.symm; have : k < w.heap.size := hk; omega⟩)) (hg.to (Kept.ext hX (fun _ h => h)) (fun k hk => ⟨Nat.lt_of_lt_of_le hk hX.size, fun e => by have := ho k e.symm; have : k < w.heap.size := hk; omega⟩))
    fG (run12 o true s fF eF fG hx hd) (by decide) (by decide) (by decide) (by decide) (by decide) hx hd
theorem div12_rest (hM : MV W o s) (hf : Terms (Old w) w vf (ofP F)) (hg : Terms (Old w) w vg (ofP G)) (hX : Ext w W) (ho : ∀ b, o = some b → w.heap.size ≤ b) (fF : Fit 8 8 F) (eF : exB 8 F) (fG : Fit 8 8 G) (hx : 1 ≤ x ∧ x ≤ 200) (hd : 1 ≤ degP G x) :
    Calls Tryz.prog 16 #[mval o, vf, vg, .int .i64 x] W (RestPost W o (divD o false s F G x)) :=
  z_rest hM (hf.to (Kept.ext hX (fun _ h => h)) (fun k hk => ⟨Nat.lt_of_lt_of_le hk hX.size, fun e => by have := ho k e.symm; have : k < w.heap.size := hk; omega⟩)) (hg.to (Kept.ext hX (fun _ h => h)) (fun k hk => ⟨Nat.lt_of_lt_of_le hk hX.size, fun e => by have := ho k e.symm; have : k < w.heap.size := hk; omega⟩))
    fG (run12 o false s fF eF fG hx hd) (by decide) (by decide) (by decide) (by decide) (by decide) hx hd
theorem div12_r {keep : Bool} {n0 : Nat} (hM : RMV W o s) (ho : ∀ b, o = some b → n0 ≤ b ∧ b < n4) (hn : n4 ≤ W.heap.size) (hf : DL n0 n4 W vf F) (hg : DL n0 n4 W vg G) (fF : Fit 8 8 F) (eF : exB 8 F) (fG : Fit 8 8 G) (hx : 1 ≤ x ∧ x ≤ 200) (hd : 1 ≤ degP G x) :
    Calls Tryz.prog 20 #[mval o, vf, vg, .int .i64 x, .bool keep] W fun e W' => ∃ vq vr, e = .returned (.tuple #[vq, vr, .int .i64 ((divD o keep s F G x).n : Nat), .int .i64 (divD o keep s F G x).e]) ∧ RMV W' o (divD o keep s F G x).s ∧ W.grownBy W' o ∧ DL n0 n4 W' vq (divD o keep s F G x).q ∧ DL n0 n4 W' vr (divD o keep s F G x).r :=
  (r_divide hM (fun _ h => h.1) (fun b hb h => by have := ho b hb; rcases h.2 with h | h <;> omega) hf hg fG (run12 o keep s fF eF fG hx hd) (by decide) (by decide) (by decide) (by decide) (by decide) hx hd).mono (by
    rintro e W' ⟨vq, vr, rfl, h1, h2, h3, h4⟩
    exact ⟨vq, vr, rfl, h1, h2, dl_rq h3 h2.size hn, dl_rq h4 h2.size hn⟩)
end
end Go.Proofs.YtcpfeepnfodifaaGreat

namespace Go.Proofs.YtcpfeepnfodifaaGreat
open Go.RowKit

theorem cells4_on {W W' : World} {n : Nat} {a b c d : Value} (g : Ext W W') (h : W.cell? ⟨n, 0, none⟩ = some a ∧ W.cell? ⟨n, 1, none⟩ = some b ∧ W.cell? ⟨n, 2, none⟩ = some c ∧ W.cell? ⟨n, 3, none⟩ = some d) :
    W'.cell? ⟨n, 0, none⟩ = some a ∧ W'.cell? ⟨n, 1, none⟩ = some b ∧ W'.cell? ⟨n, 2, none⟩ = some c ∧ W'.cell? ⟨n, 3, none⟩ = some d := ⟨g.cell h.1, g.cell h.2.1, g.cell h.2.2.1, g.cell h.2.2.2⟩

set_option maxRecDepth 100000 in
set_option maxHeartbeats 16000000 in
theorem law_divides (vp vq : Value) (ps qs : List RTerm) (x a b c d : Int) (no : Bool) (w : World) (hp : Terms (Old w) w vp ps) (hq : Terms (Old w) w vq qs) (hx : inI64 x) :
    Calls Tryz.prog 3 #[vp, vq, .int .i64 x, .agg #[.int .i64 a, .int .i64 b, .int .i64 c, .int .i64 d], .bool no] w fun e w' => e = .returned (.bool true) ∧ Ext w w' := by
  have hnot : ∀ (x : Bool) (w : World), (Op.unary .not (.bool x)).run Tryz.prog w = .ok (.bool (!x)) w := fun _ _ => rfl
  have HXX := hid (Ext.alloc (Ext.refl w) (.cells #[.int .i64 a, .int .i64 b, .int .i64 c, .int .i64 d] 25))
  have HK := hid (show (w.alloc (.cells #[.int .i64 a, .int .i64 b, .int .i64 c, .int .i64 d] 25)).cell? ⟨w.heap.size, 0, none⟩ = some (.int .i64 a) ∧ (w.alloc (.cells #[.int .i64 a, .int .i64 b, .int .i64 c, .int .i64 d] 25)).cell? ⟨w.heap.size, 1, none⟩ = some (.int .i64 b) ∧ (w.alloc (.cells #[.int .i64 a, .int .i64 b, .int .i64 c, .int .i64 d] 25)).cell? ⟨w.heap.size, 2, none⟩ = some (.int .i64 c) ∧ (w.alloc (.cells #[.int .i64 a, .int .i64 b, .int .i64 c, .int .i64 d] 25)).cell? ⟨w.heap.size, 3, none⟩ = some (.int .i64 d) from ⟨cell_new _ _ _ rfl rfl, cell_new _ _ _ rfl rfl, cell_new _ _ _ rfl rfl, cell_new _ _ _ rfl rfl⟩)
  have HXI := hid hx
  have HPS := hid hp
  have HQS := hid hq
  have CG := fun (W : World) (hW : Ext w W) => law12_great vp ps x (hp.on hW)
  have CH := fun (W : World) (hW : Ext w W) => law12_great vq qs x (hq.on hW)
  have CM1 := fun (W : World) (hW : Ext w W) (hg : great12 ps = false) => rpoly_may vp ps W (hp.on hW) (fun _ h => h) (tiny12 hg)
  have CM2 := fun (W : World) (hW : Ext w W) (hg : great12 qs = false) => rpoly_may vq qs W (hq.on hW) (fun _ h => h) (tiny12 hg)
  have HLM := hid (fun (W : World) => law12_meters (W := W) a b c d no)
  unfold inI64 at hx
  obtain ⟨hxl, hxu⟩ := hx
  obtain ⟨ap, cp, rfl⟩ := hp.form
  obtain ⟨aq, cq, rfl⟩ := hq.form
  obtain ⟨np, hnp⟩ : ∃ n, n = ps.length := ⟨_, rfl⟩
  obtain ⟨nq, hnq⟩ : ∃ n, n = qs.length := ⟨_, rfl⟩
  rw [← hnp] at CG CM1 HPS ⊢
  rw [← hnq] at CH CM2 HQS ⊢
  cases hg1 : great12 ps with
  | true =>
    simp only [hg1] at CG
    have HCG := hid CG
    clear CG CH CM1 CM2 hg1 hp hq hnp hnq
    go_enter Tryz.func3, Tryz.ntmps3
    go_wp2_with fail
    with_reducible refine (HCG.out _ HXX.out).mono ?_
    rintro e w1 ⟨rfl, hx⟩
    have HXX := hid (HXX.out.trans hx)
    clear hx
    go_wp2_with fail
    with_reducible refine (law12_known _).mono ?_
    rintro e w2 ⟨rfl, hx⟩
    have HXX := hid (HXX.out.trans hx)
    clear hx
    go_wp2
    all_goals
      go_ret
      exact ⟨rfl, HXX.out⟩
  | false =>
    simp only [hg1] at CG
    have HCG := hid CG
    have HCM1 := hid (fun W hW => CM1 W hW hg1)
    have HG1 := hid hg1
    clear CG CM1 hg1
    cases hg2 : great12 qs with
    | true =>
      simp only [hg2] at CH
      have HCH := hid CH
      clear CH CM2 hg2 hp hq hnp hnq
      go_enter Tryz.func3, Tryz.ntmps3
      go_wp2_with fail
      with_reducible refine (HCG.out _ HXX.out).mono ?_
      rintro e w1 ⟨rfl, hx⟩
      have HXX := hid (HXX.out.trans hx)
      clear hx
      go_wp2_with fail
      with_reducible refine (HCH.out _ HXX.out).mono ?_
      rintro e w2 ⟨rfl, hx⟩
      have HXX := hid (HXX.out.trans hx)
      clear hx
      go_wp2_with fail
      with_reducible refine (law12_known _).mono ?_
      rintro e w3 ⟨rfl, hx⟩
      have HXX := hid (HXX.out.trans hx)
      clear hx
      go_wp2
      all_goals
        go_ret
        exact ⟨rfl, HXX.out⟩
    | false =>
      simp only [hg2] at CH
      have HCH := hid CH
      have HCM2 := hid (fun W hW => CM2 W hW hg2)
      have HG2 := hid hg2
      have HNP := hid hnp
      have HNQ := hid hnq
      clear CH CM2 hg2 hp hq hnp hnq
      by_cases hok : mayT ps = true ∧ mayT qs = true ∧ (1 ≤ x ∧ x ≤ 200) ∧ 1 ≤ degP (plainP qs) x
      · obtain ⟨hm1, hm2, hx1, hd⟩ := hok
        have e1 := pv_of HPS.out hm1
        have e2 := pv_of HQS.out hm2
        obtain ⟨fF, eF⟩ := plain12 HPS.out.okT HG1.out
        obtain ⟨fG, eG⟩ := plain12 HQS.out.okT HG2.out
        rw [hm1] at HCM1
        rw [hm2] at HCM2
        generalize plainP ps = F at *
        generalize plainP qs = G at *
        subst e1 e2
        have HFF := hid fF
        have HEF := hid eF
        have HFG := hid fG
        have HEG := hid eG
        have HX1 := hid hx1
        have HDD := hid hd
        have hdG := degP_range fG.can.may x
        obtain ⟨dg, hdg⟩ : ∃ d, d = degP G x := ⟨_, rfl⟩
        have HDG := hid hdg
        rw [← hdg] at hd hdG
        have q1 : decide (x < 1) = false := decide_eq_false (by omega)
        have q2 : decide (200 < x) = false := decide_eq_false (by omega)
        have q3 : decide (dg < 1) = false := decide_eq_false (by omega)
        obtain ⟨hdG1, hdG2⟩ := hdG
        clear fF eF fG eG hm1 hm2 hx1 hdg
        go_enter Tryz.func3, Tryz.ntmps3
        go_wp2_with fail
        with_reducible refine (HCG.out _ HXX.out).mono ?_
        rintro e w1 ⟨rfl, hx⟩
        have HXX := hid (HXX.out.trans hx)
        have HK := hid (cells4_on hx HK.out)
        clear hx
        go_wp2_with fail
        with_reducible refine (HCH.out _ HXX.out).mono ?_
        rintro e w2 ⟨rfl, hx⟩
        have HXX := hid (HXX.out.trans hx)
        have HK := hid (cells4_on hx HK.out)
        clear hx
        obtain ⟨j0, j1, j2, j3⟩ := HK.out
        go_wp2_with fail
        with_reducible refine (HLM.out _).mono ?_
        rintro e w3 ⟨om, ow, rfl, hm1, hw1, hi1, hr1, hr2, hne1, hx⟩
        have HBASE := hid HXX.out.size
        have HXX := hid (HXX.out.trans hx)
        have HMom := hid hm1
        have HMow := hid hw1
        have HI1 := hid hi1
        have HR1 := hid hr1
        have HR2 := hid hr2
        have HNE1 := hid hne1
        have HK := hid (cells4_on hx HK.out)
        obtain ⟨um, hum⟩ : ∃ v, v = mval om := ⟨_, rfl⟩
        obtain ⟨uw, huw⟩ : ∃ v, v = mval ow := ⟨_, rfl⟩
        rw [← hum, ← huw]
        have HUM := hid hum
        have HUW := hid huw
        have HZ2 := hid hx.size
        clear hm1 hw1 hi1 hr1 hr2 hne1 hx j0 j1 j2 j3 hum huw
        obtain ⟨j0, j1, j2, j3⟩ := HK.out
        go_wp2_with fail
        with_reducible refine (HLM.out _).mono ?_
        rintro e w4 ⟨on, ou, rfl, hm1, hw1, hi1, hr1, hr2, hne1, hx⟩
        have HXX2 := hid HXX.out
        have HXX := hid (HXX.out.trans hx)
        have HMom := hid (HMom.out.ext hx)
        have HMow := hid (HMow.out.ext hx)
        have HMon := hid hm1
        have HMou := hid hw1
        have HI2 := hid hi1
        have omr : Hid (∀ k, om = some k → w.heap.size ≤ k ∧ k < w4.heap.size) := hid (fun k hk => ⟨Nat.le_trans HBASE.out (HR1.out k hk).1, Nat.lt_of_lt_of_le (HR1.out k hk).2 hx.size⟩)
        have owr : Hid (∀ k, ow = some k → w.heap.size ≤ k ∧ k < w4.heap.size) := hid (fun k hk => ⟨Nat.le_trans HBASE.out (HR2.out k hk).1, Nat.lt_of_lt_of_le (HR2.out k hk).2 hx.size⟩)
        have onr : Hid (∀ k, on = some k → w.heap.size ≤ k ∧ k < w4.heap.size) := hid (fun k hk => ⟨Nat.le_trans HXX2.out.size (hr1 k hk).1, (hr1 k hk).2⟩)
        have our : Hid (∀ k, ou = some k → w.heap.size ≤ k ∧ k < w4.heap.size) := hid (fun k hk => ⟨Nat.le_trans HXX2.out.size (hr2 k hk).1, (hr2 k hk).2⟩)
        have omow : Hid (∀ k, om = some k → ow ≠ some k) := hid HNE1.out
        have owom : Hid (∀ k, ow = some k → om ≠ some k) := hid (fun k hk e => HNE1.out k e hk)
        have onou : Hid (∀ k, on = some k → ou ≠ some k) := hid hne1
        have ouon : Hid (∀ k, ou = some k → on ≠ some k) := hid (fun k hk e => hne1 k e hk)
        have omon : Hid (∀ k, om = some k → on ≠ some k) := hid (fun k hk e => by have h1 := (HR1.out k hk).2; have h2 := (hr1 k e).1; omega)
        have omou : Hid (∀ k, om = some k → ou ≠ some k) := hid (fun k hk e => by have h1 := (HR1.out k hk).2; have h2 := (hr2 k e).1; omega)
        have owon : Hid (∀ k, ow = some k → on ≠ some k) := hid (fun k hk e => by have h1 := (HR2.out k hk).2; have h2 := (hr1 k e).1; omega)
        have owou : Hid (∀ k, ow = some k → ou ≠ some k) := hid (fun k hk e => by have h1 := (HR2.out k hk).2; have h2 := (hr2 k e).1; omega)
        have onom : Hid (∀ k, on = some k → om ≠ some k) := hid (fun k hk e => omon.out k e hk)
        have onow : Hid (∀ k, on = some k → ow ≠ some k) := hid (fun k hk e => owon.out k e hk)
        have ouom : Hid (∀ k, ou = some k → om ≠ some k) := hid (fun k hk e => omou.out k e hk)
        have ouow : Hid (∀ k, ou = some k → ow ≠ some k) := hid (fun k hk e => owou.out k e hk)
        obtain ⟨un, hun⟩ : ∃ v, v = mval on := ⟨_, rfl⟩
        obtain ⟨uu, huu⟩ : ∃ v, v = mval ou := ⟨_, rfl⟩
        rw [← hun, ← huu]
        have HUN := hid hun
        have HUU := hid huu
        have HN4 := hid (Nat.le_refl w4.heap.size)
        clear hm1 hw1 hi1 hr1 hr2 hne1 hx j0 j1 j2 j3 hun huu
        obtain ⟨R1, hR1⟩ : ∃ R, R = divD om true (MSt.new a b c d) F G x := ⟨_, rfl⟩
        obtain ⟨R2, hR2⟩ : ∃ R, R = divD on false (MSt.new a b c d) F G x := ⟨_, rfl⟩
        have HF1 := hid (div12_fit true om (MSt.new a b c d) HFF.out HEF.out HFG.out HX1.out HDD.out)
        have HF2 := hid (div12_fit false on (MSt.new a b c d) HFF.out HEF.out HFG.out HX1.out HDD.out)
        have HR1 := hid hR1
        have HR2 := hid hR2
        rw [← hR1] at HF1
        rw [← hR2] at HF2
        clear hR1 hR2
        have CD := div12_z HMom.out HPS.out HQS.out HXX.out (fun k hk => (omr.out k hk).1) HFF.out HEF.out HFG.out HX1.out HDD.out
        rw [← HUM.out, ← HR1.out] at CD
        have HCD := hid CD
        clear CD
        go_wp2_with fail
        with_reducible refine (HCD.out).mono ?_
        rintro e w5 ⟨uq, ur, rfl, hm, hg, hq, hr⟩
        have HXX := hid (ext_gb HXX.out hg (fun k hk => (omr.out k hk).1))
        have HN4 := hid (Nat.le_trans HN4.out hg.size)
        have HMow := hid (HMow.out.grown hg (fun k hk e => by have := owom.out k hk; exact this e.symm))
        have HMon := hid (HMon.out.grown hg (fun k hk e => by have := onom.out k hk; exact this e.symm))
        have HMou := hid (HMou.out.grown hg (fun k hk e => by have := ouom.out k hk; exact this e.symm))
        have HMom := hid hm
        have HQ := hid (PL.low (PMN.pl hq) (Nat.le_refl w4.heap.size))
        have HR := hid (PL.low (PMN.pl hr) (Nat.le_refl w4.heap.size))
        obtain ⟨aq1, cq1, rfl⟩ := hq.form
        obtain ⟨ar1, cr1, rfl⟩ := hr.form
        obtain ⟨nq1, hnq1⟩ : ∃ n, n = (ofP R1.q).length := ⟨_, rfl⟩
        obtain ⟨nr1, hnr1⟩ : ∃ n, n = (ofP R1.r).length := ⟨_, rfl⟩
        rw [← hnq1] at HQ ⊢
        rw [← hnr1] at HR ⊢
        obtain ⟨re1, hre1⟩ : ∃ n, n = R1.e := ⟨_, rfl⟩
        obtain ⟨rn1, hrn1⟩ : ∃ n, n = R1.n := ⟨_, rfl⟩
        rw [← hre1, ← hrn1]
        have HRE1 := hid hre1
        have HRN1 := hid hrn1
        clear hm hg hq hr hnq1 hnr1 hre1 hrn1 HCD
        have HN4O := hid HN4.out
        have CD := div12_rest HMon.out HPS.out HQS.out HXX.out (fun k hk => (onr.out k hk).1) HFF.out HEF.out HFG.out HX1.out HDD.out
        rw [← HUN.out, ← HR2.out] at CD
        have HCD := hid CD
        clear CD
        go_wp2_with fail
        with_reducible refine (HCD.out).mono ?_
        rintro e w6 ⟨ut, rfl, hm, hg, hr⟩
        have HXX := hid (ext_gb HXX.out hg (fun k hk => (onr.out k hk).1))
        have HN4 := hid (Nat.le_trans HN4.out hg.size)
        have HMom := hid (HMom.out.grown hg (fun k hk e => by have := omon.out k hk; exact this e.symm))
        have HMow := hid (HMow.out.grown hg (fun k hk e => by have := owon.out k hk; exact this e.symm))
        have HMou := hid (HMou.out.grown hg (fun k hk e => by have := ouon.out k hk; exact this e.symm))
        have HQ := hid (PL.on HQ.out hg (fun k hk => (onr.out k hk).2))
        have HR := hid (PL.on HR.out hg (fun k hk => (onr.out k hk).2))
        have HMon := hid hm
        have HT := hid (PL.low (PMN.pl hr) HN4O.out)
        obtain ⟨at1, ct1, rfl⟩ := hr.form
        obtain ⟨nt1, hnt1⟩ : ∃ n, n = (ofP R2.r).length := ⟨_, rfl⟩
        rw [← hnt1] at HT ⊢
        obtain ⟨re2, hre2⟩ : ∃ n, n = R2.e := ⟨_, rfl⟩
        obtain ⟨rn2, hrn2⟩ : ∃ n, n = R2.n := ⟨_, rfl⟩
        rw [← hre2, ← hrn2]
        have HRE2 := hid hre2
        have HRN2 := hid hrn2
        clear hm hg hr hnt1 hre2 hrn2 HCD
        go_wp2_with fail
        with_reducible refine (HCM1.out _ HXX.out).mono ?_
        rintro e w7 ⟨rfl, hx⟩
        have HXX := hid (HXX.out.trans hx)
        have HN4 := hid (Nat.le_trans HN4.out hx.size)
        have HMom := hid (HMom.out.ext hx)
        have HMow := hid (HMow.out.ext hx)
        have HMon := hid (HMon.out.ext hx)
        have HMou := hid (HMou.out.ext hx)
        have HQ := hid (PL.ext HQ.out hx)
        have HR := hid (PL.ext HR.out hx)
        have HT := hid (PL.ext HT.out hx)
        clear hx
        go_wp2_with fail
        with_reducible refine (HCM2.out _ HXX.out).mono ?_
        rintro e w8 ⟨rfl, hx⟩
        have HXX := hid (HXX.out.trans hx)
        have HN4 := hid (Nat.le_trans HN4.out hx.size)
        have HMom := hid (HMom.out.ext hx)
        have HMow := hid (HMow.out.ext hx)
        have HMon := hid (HMon.out.ext hx)
        have HMou := hid (HMou.out.ext hx)
        have HQ := hid (PL.ext HQ.out hx)
        have HR := hid (PL.ext HR.out hx)
        have HT := hid (PL.ext HT.out hx)
        clear hx
        go_wp2_with fail
        with_reducible refine (of12 (HFG.out) HQS.out HXX.out HN4.out).mono ?_
        rintro e w9 ⟨v9, rfl, hp, hx⟩
        have HXX := hid (HXX.out.trans hx)
        have HN4 := hid (Nat.le_trans HN4.out hx.size)
        have HMom := hid (HMom.out.ext hx)
        have HMow := hid (HMow.out.ext hx)
        have HMon := hid (HMon.out.ext hx)
        have HMou := hid (HMou.out.ext hx)
        have HQ := hid (PL.ext HQ.out hx)
        have HR := hid (PL.ext HR.out hx)
        have HT := hid (PL.ext HT.out hx)
        have HD0 := hid hp
        obtain ⟨a9, c9, rfl⟩ := hp.form
        obtain ⟨m0, hm0⟩ : ∃ n, n = (G).length := ⟨_, rfl⟩
        rw [← hm0] at HD0 ⊢
        clear hx hp hm0
        go_wp2_with fail
        with_reducible refine (rz_degree (DL.rv HD0.out) HFG.out HXI.out).mono ?_
        rw [← HDG.out]
        rintro e w10 ⟨rfl, hx⟩
        have HXX := hid (HXX.out.trans hx)
        have HN4 := hid (Nat.le_trans HN4.out hx.size)
        have HMom := hid (HMom.out.ext hx)
        have HMow := hid (HMow.out.ext hx)
        have HMon := hid (HMon.out.ext hx)
        have HMou := hid (HMou.out.ext hx)
        have HQ := hid (PL.ext HQ.out hx)
        have HR := hid (PL.ext HR.out hx)
        have HT := hid (PL.ext HT.out hx)
        have HD0 := hid (DL.ext HD0.out hx)
        clear hx
        go_wp2_with fail
        with_reducible refine (of12 (HFF.out) HPS.out HXX.out HN4.out).mono ?_
        rintro e w11 ⟨v11, rfl, hp, hx⟩
        have HXX := hid (HXX.out.trans hx)
        have HN4 := hid (Nat.le_trans HN4.out hx.size)
        have HMom := hid (HMom.out.ext hx)
        have HMow := hid (HMow.out.ext hx)
        have HMon := hid (HMon.out.ext hx)
        have HMou := hid (HMou.out.ext hx)
        have HQ := hid (PL.ext HQ.out hx)
        have HR := hid (PL.ext HR.out hx)
        have HT := hid (PL.ext HT.out hx)
        have HDF := hid hp
        obtain ⟨a11, c11, rfl⟩ := hp.form
        obtain ⟨m1, hm1⟩ : ∃ n, n = (F).length := ⟨_, rfl⟩
        rw [← hm1] at HDF ⊢
        clear hx hp hm1
        go_wp2_with fail
        with_reducible refine (of12 (HFG.out) HQS.out HXX.out HN4.out).mono ?_
        rintro e w12 ⟨v12, rfl, hp, hx⟩
        have HXX := hid (HXX.out.trans hx)
        have HN4 := hid (Nat.le_trans HN4.out hx.size)
        have HMom := hid (HMom.out.ext hx)
        have HMow := hid (HMow.out.ext hx)
        have HMon := hid (HMon.out.ext hx)
        have HMou := hid (HMou.out.ext hx)
        have HQ := hid (PL.ext HQ.out hx)
        have HR := hid (PL.ext HR.out hx)
        have HT := hid (PL.ext HT.out hx)
        have HDF := hid (DL.ext HDF.out hx)
        have HDH := hid hp
        obtain ⟨a12, c12, rfl⟩ := hp.form
        obtain ⟨m2, hm2⟩ : ∃ n, n = (G).length := ⟨_, rfl⟩
        rw [← hm2] at HDH ⊢
        clear hx hp hm2
        have CD := div12_r (keep := true) HMow.out owr.out HN4.out HDF.out HDH.out HFF.out HEF.out HFG.out HX1.out HDD.out
        rw [← HUW.out, ← divD_o HI1.out true (MSt.new a b c d) F G x, ← HR1.out] at CD
        have HCD := hid CD
        clear CD
        go_wp2_with fail
        with_reducible refine (HCD.out).mono ?_
        rintro e w13 ⟨v13, u13, rfl, hm, hg, hq, hr⟩
        have HXX := hid (ext_gb HXX.out hg (fun k hk => (owr.out k hk).1))
        have HN4 := hid (Nat.le_trans HN4.out hg.size)
        have HMom := hid (HMom.out.grown hg (fun k hk e => by have := omow.out k hk; exact this e.symm))
        have HMon := hid (HMon.out.grown hg (fun k hk e => by have := onow.out k hk; exact this e.symm))
        have HMou := hid (HMou.out.grown hg (fun k hk e => by have := ouow.out k hk; exact this e.symm))
        have HQ := hid (PL.on HQ.out hg (fun k hk => (owr.out k hk).2))
        have HR := hid (PL.on HR.out hg (fun k hk => (owr.out k hk).2))
        have HT := hid (PL.on HT.out hg (fun k hk => (owr.out k hk).2))
        have HMow := hid hm
        have HA := hid hq
        have HB := hid hr
        obtain ⟨a13, c13, rfl⟩ := hq.form
        obtain ⟨b13, d13, rfl⟩ := hr.form
        obtain ⟨m3, hm3⟩ : ∃ n, n = (R1.q).length := ⟨_, rfl⟩
        obtain ⟨m4, hm4⟩ : ∃ n, n = (R1.r).length := ⟨_, rfl⟩
        rw [← hm3] at HA ⊢
        rw [← hm4] at HB ⊢
        rw [← HRE1.out, ← HRN1.out]
        clear hm hg hq hr hm3 hm4 HCD
        go_wp2_with fail
        with_reducible refine (of12 (HFF.out) HPS.out HXX.out HN4.out).mono ?_
        rintro e w14 ⟨v14, rfl, hp, hx⟩
        have HXX := hid (HXX.out.trans hx)
        have HN4 := hid (Nat.le_trans HN4.out hx.size)
        have HMom := hid (HMom.out.ext hx)
        have HMow := hid (HMow.out.ext hx)
        have HMon := hid (HMon.out.ext hx)
        have HMou := hid (HMou.out.ext hx)
        have HQ := hid (PL.ext HQ.out hx)
        have HR := hid (PL.ext HR.out hx)
        have HT := hid (PL.ext HT.out hx)
        have HA := hid (DL.ext HA.out hx)
        have HB := hid (DL.ext HB.out hx)
        have HDF := hid hp
        obtain ⟨a14, c14, rfl⟩ := hp.form
        obtain ⟨m5, hm5⟩ : ∃ n, n = (F).length := ⟨_, rfl⟩
        rw [← hm5] at HDF ⊢
        clear hx hp hm5
        go_wp2_with fail
        with_reducible refine (of12 (HFG.out) HQS.out HXX.out HN4.out).mono ?_
        rintro e w15 ⟨v15, rfl, hp, hx⟩
        have HXX := hid (HXX.out.trans hx)
        have HN4 := hid (Nat.le_trans HN4.out hx.size)
        have HMom := hid (HMom.out.ext hx)
        have HMow := hid (HMow.out.ext hx)
        have HMon := hid (HMon.out.ext hx)
        have HMou := hid (HMou.out.ext hx)
        have HQ := hid (PL.ext HQ.out hx)
        have HR := hid (PL.ext HR.out hx)
        have HT := hid (PL.ext HT.out hx)
        have HA := hid (DL.ext HA.out hx)
        have HB := hid (DL.ext HB.out hx)
        have HDF := hid (DL.ext HDF.out hx)
        have HDH := hid hp
        obtain ⟨a15, c15, rfl⟩ := hp.form
        obtain ⟨m6, hm6⟩ : ∃ n, n = (G).length := ⟨_, rfl⟩
        rw [← hm6] at HDH ⊢
        clear hx hp hm6
        have CD := div12_r (keep := false) HMou.out our.out HN4.out HDF.out HDH.out HFF.out HEF.out HFG.out HX1.out HDD.out
        rw [← HUU.out, ← divD_o HI2.out false (MSt.new a b c d) F G x, ← HR2.out] at CD
        have HCD := hid CD
        clear CD
        go_wp2_with fail
        with_reducible refine (HCD.out).mono ?_
        rintro e w16 ⟨v16, u16, rfl, hm, hg, hq, hr⟩
        have HXX := hid (ext_gb HXX.out hg (fun k hk => (our.out k hk).1))
        have HN4 := hid (Nat.le_trans HN4.out hg.size)
        have HMom := hid (HMom.out.grown hg (fun k hk e => by have := omou.out k hk; exact this e.symm))
        have HMow := hid (HMow.out.grown hg (fun k hk e => by have := owou.out k hk; exact this e.symm))
        have HMon := hid (HMon.out.grown hg (fun k hk e => by have := onou.out k hk; exact this e.symm))
        have HQ := hid (PL.on HQ.out hg (fun k hk => (our.out k hk).2))
        have HR := hid (PL.on HR.out hg (fun k hk => (our.out k hk).2))
        have HT := hid (PL.on HT.out hg (fun k hk => (our.out k hk).2))
        have HA := hid (DL.on HA.out hg (our.out))
        have HB := hid (DL.on HB.out hg (our.out))
        have HMou := hid hm
        have HC := hid hq
        have HE := hid hr
        obtain ⟨a16, c16, rfl⟩ := hq.form
        obtain ⟨b16, d16, rfl⟩ := hr.form
        obtain ⟨m7, hm7⟩ : ∃ n, n = (R2.q).length := ⟨_, rfl⟩
        obtain ⟨m8, hm8⟩ : ∃ n, n = (R2.r).length := ⟨_, rfl⟩
        rw [← hm7] at HC ⊢
        rw [← hm8] at HE ⊢
        rw [← HRE2.out, ← HRN2.out]
        clear hm hg hq hr hm7 hm8 HCD
        have q4 : (re1 != re1) = false := by rw [bne_eq_false_iff_eq]
        have q5 : ((rn1 : Int) != (rn1 : Int)) = false := by rw [bne_eq_false_iff_eq]
        go_wp2_with fail
        with_reducible refine (rz_poly (DL.rv HA.out) HF1.out.1 (by decide) (by decide)).mono ?_
        rintro e w17 ⟨v17, rfl, hp, hx⟩
        have HXX := hid (HXX.out.trans hx)
        have HN4 := hid (Nat.le_trans HN4.out hx.size)
        have HMom := hid (HMom.out.ext hx)
        have HMow := hid (HMow.out.ext hx)
        have HMon := hid (HMon.out.ext hx)
        have HMou := hid (HMou.out.ext hx)
        have HQ := hid (PL.ext HQ.out hx)
        have HR := hid (PL.ext HR.out hx)
        have HT := hid (PL.ext HT.out hx)
        have HA := hid (DL.ext HA.out hx)
        have HB := hid (DL.ext HB.out hx)
        have HE := hid (DL.ext HE.out hx)
        have HPO := hid hp
        obtain ⟨a17, c17, rfl⟩ := hp.form
        obtain ⟨k17, hk17⟩ : ∃ n, n = (ofP R1.q).length := ⟨_, rfl⟩
        rw [← hk17] at HPO ⊢
        clear hx hp hk17
        go_wp2_with fail
        with_reducible refine (rpoly_same _ _ (ofP R1.q) (ofP R1.q) _ HQ.out.pv HPO.out (fun _ h => h)).mono ?_
        rw [show decide (ofP R1.q = ofP R1.q) = true from decide_eq_true rfl]
        rintro e w18 ⟨rfl, hx⟩
        have HXX := hid (HXX.out.trans hx)
        have HN4 := hid (Nat.le_trans HN4.out hx.size)
        have HMom := hid (HMom.out.ext hx)
        have HMow := hid (HMow.out.ext hx)
        have HMon := hid (HMon.out.ext hx)
        have HMou := hid (HMou.out.ext hx)
        have HQ := hid (PL.ext HQ.out hx)
        have HR := hid (PL.ext HR.out hx)
        have HT := hid (PL.ext HT.out hx)
        have HB := hid (DL.ext HB.out hx)
        have HE := hid (DL.ext HE.out hx)
        clear hx
        go_wp2_with fail
        with_reducible refine (rz_poly (DL.rv HB.out) HF1.out.2 (by decide) (by decide)).mono ?_
        rintro e w19 ⟨v19, rfl, hp, hx⟩
        have HXX := hid (HXX.out.trans hx)
        have HN4 := hid (Nat.le_trans HN4.out hx.size)
        have HMom := hid (HMom.out.ext hx)
        have HMow := hid (HMow.out.ext hx)
        have HMon := hid (HMon.out.ext hx)
        have HMou := hid (HMou.out.ext hx)
        have HR := hid (PL.ext HR.out hx)
        have HT := hid (PL.ext HT.out hx)
        have HB := hid (DL.ext HB.out hx)
        have HE := hid (DL.ext HE.out hx)
        have HPO := hid hp
        obtain ⟨a19, c19, rfl⟩ := hp.form
        obtain ⟨k19, hk19⟩ : ∃ n, n = (ofP R1.r).length := ⟨_, rfl⟩
        rw [← hk19] at HPO ⊢
        clear hx hp hk19
        go_wp2_with fail
        with_reducible refine (rpoly_same _ _ (ofP R1.r) (ofP R1.r) _ HR.out.pv HPO.out (fun _ h => h)).mono ?_
        rw [show decide (ofP R1.r = ofP R1.r) = true from decide_eq_true rfl]
        rintro e w20 ⟨rfl, hx⟩
        have HXX := hid (HXX.out.trans hx)
        have HN4 := hid (Nat.le_trans HN4.out hx.size)
        have HMom := hid (HMom.out.ext hx)
        have HMow := hid (HMow.out.ext hx)
        have HMon := hid (HMon.out.ext hx)
        have HMou := hid (HMou.out.ext hx)
        have HR := hid (PL.ext HR.out hx)
        have HT := hid (PL.ext HT.out hx)
        have HE := hid (DL.ext HE.out hx)
        clear hx
        have CC := law12_counted HI1.out HMom.out HMow.out
        rw [← HUM.out, ← HUW.out] at CC
        have HCC := hid CC
        clear CC
        go_wp2_with fail
        with_reducible refine (HCC.out).mono ?_
        rintro e w21 ⟨rfl, hx⟩
        have HXX := hid (HXX.out.trans hx)
        have HN4 := hid (Nat.le_trans HN4.out hx.size)
        have HMom := hid (HMom.out.ext hx)
        have HMow := hid (HMow.out.ext hx)
        have HMon := hid (HMon.out.ext hx)
        have HMou := hid (HMou.out.ext hx)
        have HT := hid (PL.ext HT.out hx)
        have HE := hid (DL.ext HE.out hx)
        clear hx
        go_wp2_with fail
        with_reducible refine (rz_poly (DL.rv HE.out) HF2.out.2 (by decide) (by decide)).mono ?_
        rintro e w22 ⟨v22, rfl, hp, hx⟩
        have HXX := hid (HXX.out.trans hx)
        have HN4 := hid (Nat.le_trans HN4.out hx.size)
        have HMom := hid (HMom.out.ext hx)
        have HMow := hid (HMow.out.ext hx)
        have HMon := hid (HMon.out.ext hx)
        have HMou := hid (HMou.out.ext hx)
        have HT := hid (PL.ext HT.out hx)
        have HE := hid (DL.ext HE.out hx)
        have HPO := hid hp
        obtain ⟨a22, c22, rfl⟩ := hp.form
        obtain ⟨k22, hk22⟩ : ∃ n, n = (ofP R2.r).length := ⟨_, rfl⟩
        rw [← hk22] at HPO ⊢
        clear hx hp hk22
        go_wp2_with fail
        with_reducible refine (rpoly_same _ _ (ofP R2.r) (ofP R2.r) _ HT.out.pv HPO.out (fun _ h => h)).mono ?_
        rw [show decide (ofP R2.r = ofP R2.r) = true from decide_eq_true rfl]
        rintro e w23 ⟨rfl, hx⟩
        have HXX := hid (HXX.out.trans hx)
        have HN4 := hid (Nat.le_trans HN4.out hx.size)
        have HMom := hid (HMom.out.ext hx)
        have HMow := hid (HMow.out.ext hx)
        have HMon := hid (HMon.out.ext hx)
        have HMou := hid (HMou.out.ext hx)
        have HT := hid (PL.ext HT.out hx)
        clear hx
        have CC := law12_counted HI2.out HMon.out HMou.out
        rw [← HUN.out, ← HUU.out] at CC
        have HCC := hid CC
        clear CC
        go_wp2_with fail
        with_reducible refine (HCC.out).mono ?_
        rintro e w24 ⟨rfl, hx⟩
        have HXX := hid (HXX.out.trans hx)
        have HN4 := hid (Nat.le_trans HN4.out hx.size)
        have HMom := hid (HMom.out.ext hx)
        have HMow := hid (HMow.out.ext hx)
        have HMon := hid (HMon.out.ext hx)
        have HMou := hid (HMou.out.ext hx)
        clear hx
        go_wp2_with fail
        with_reducible refine (law12_known _).mono ?_
        rintro e w25 ⟨rfl, hx⟩
        have HXX := hid (HXX.out.trans hx)
        have HN4 := hid (Nat.le_trans HN4.out hx.size)
        have HMom := hid (HMom.out.ext hx)
        have HMow := hid (HMow.out.ext hx)
        have HMon := hid (HMon.out.ext hx)
        have HMou := hid (HMou.out.ext hx)
        clear hx
        go_wp2
        all_goals
          go_ret
          exact ⟨rfl, HXX.out⟩
      · have HOK := hid hok
        have CN1 := hid (fun (W : World) (um : Value) (h : ∃ a, um = .pointer a) (hW : Ext w W) => divide_no h (HPS.out.on hW) (HQS.out.on hW) (small12 HG1.out) (small12 HG2.out) HXI.out hok)
        have CN2 := hid (fun (W : World) (um : Value) (h : ∃ a, um = .pointer a) (hW : Ext w W) => rest_no h (HPS.out.on hW) (HQS.out.on hW) (small12 HG1.out) (small12 HG2.out) HXI.out hok)
        cases hm1 : mayT ps with
        | false =>
          rw [hm1] at HCM1
          clear hok hm1
          go_enter Tryz.func3, Tryz.ntmps3
          go_wp2_with fail
          with_reducible refine (HCG.out _ HXX.out).mono ?_
          rintro e w1 ⟨rfl, hx⟩
          have HXX := hid (HXX.out.trans hx)
          have HK := hid (cells4_on hx HK.out)
          clear hx
          go_wp2_with fail
          with_reducible refine (HCH.out _ HXX.out).mono ?_
          rintro e w2 ⟨rfl, hx⟩
          have HXX := hid (HXX.out.trans hx)
          have HK := hid (cells4_on hx HK.out)
          clear hx
          obtain ⟨j0, j1, j2, j3⟩ := HK.out
          go_wp2_with fail
          with_reducible refine (HLM.out _).mono ?_
          rintro e w3 ⟨om, ow, rfl, hm1, hw1, hi1, hr1, hr2, hne1, hx⟩
          have HBASE := hid HXX.out.size
          have HXX := hid (HXX.out.trans hx)
          have HMom := hid hm1
          have HMow := hid hw1
          have HI1 := hid hi1
          have HR1 := hid hr1
          have HR2 := hid hr2
          have HNE1 := hid hne1
          have HK := hid (cells4_on hx HK.out)
          obtain ⟨um, hum⟩ : ∃ v, v = mval om := ⟨_, rfl⟩
          obtain ⟨uw, huw⟩ : ∃ v, v = mval ow := ⟨_, rfl⟩
          rw [← hum, ← huw]
          have HUM := hid hum
          have HUW := hid huw
          have HZ2 := hid hx.size
          clear hm1 hw1 hi1 hr1 hr2 hne1 hx j0 j1 j2 j3 hum huw
          obtain ⟨j0, j1, j2, j3⟩ := HK.out
          go_wp2_with fail
          with_reducible refine (HLM.out _).mono ?_
          rintro e w4 ⟨on, ou, rfl, hm1, hw1, hi1, hr1, hr2, hne1, hx⟩
          have HXX2 := hid HXX.out
          have HXX := hid (HXX.out.trans hx)
          have HMom := hid (HMom.out.ext hx)
          have HMow := hid (HMow.out.ext hx)
          have HMon := hid hm1
          have HMou := hid hw1
          have HI2 := hid hi1
          have omr : Hid (∀ k, om = some k → w.heap.size ≤ k ∧ k < w4.heap.size) := hid (fun k hk => ⟨Nat.le_trans HBASE.out (HR1.out k hk).1, Nat.lt_of_lt_of_le (HR1.out k hk).2 hx.size⟩)
          have owr : Hid (∀ k, ow = some k → w.heap.size ≤ k ∧ k < w4.heap.size) := hid (fun k hk => ⟨Nat.le_trans HBASE.out (HR2.out k hk).1, Nat.lt_of_lt_of_le (HR2.out k hk).2 hx.size⟩)
          have onr : Hid (∀ k, on = some k → w.heap.size ≤ k ∧ k < w4.heap.size) := hid (fun k hk => ⟨Nat.le_trans HXX2.out.size (hr1 k hk).1, (hr1 k hk).2⟩)
          have our : Hid (∀ k, ou = some k → w.heap.size ≤ k ∧ k < w4.heap.size) := hid (fun k hk => ⟨Nat.le_trans HXX2.out.size (hr2 k hk).1, (hr2 k hk).2⟩)
          have omow : Hid (∀ k, om = some k → ow ≠ some k) := hid HNE1.out
          have owom : Hid (∀ k, ow = some k → om ≠ some k) := hid (fun k hk e => HNE1.out k e hk)
          have onou : Hid (∀ k, on = some k → ou ≠ some k) := hid hne1
          have ouon : Hid (∀ k, ou = some k → on ≠ some k) := hid (fun k hk e => hne1 k e hk)
          have omon : Hid (∀ k, om = some k → on ≠ some k) := hid (fun k hk e => by have h1 := (HR1.out k hk).2; have h2 := (hr1 k e).1; omega)
          have omou : Hid (∀ k, om = some k → ou ≠ some k) := hid (fun k hk e => by have h1 := (HR1.out k hk).2; have h2 := (hr2 k e).1; omega)
          have owon : Hid (∀ k, ow = some k → on ≠ some k) := hid (fun k hk e => by have h1 := (HR2.out k hk).2; have h2 := (hr1 k e).1; omega)
          have owou : Hid (∀ k, ow = some k → ou ≠ some k) := hid (fun k hk e => by have h1 := (HR2.out k hk).2; have h2 := (hr2 k e).1; omega)
          have onom : Hid (∀ k, on = some k → om ≠ some k) := hid (fun k hk e => omon.out k e hk)
          have onow : Hid (∀ k, on = some k → ow ≠ some k) := hid (fun k hk e => owon.out k e hk)
          have ouom : Hid (∀ k, ou = some k → om ≠ some k) := hid (fun k hk e => omou.out k e hk)
          have ouow : Hid (∀ k, ou = some k → ow ≠ some k) := hid (fun k hk e => owou.out k e hk)
          obtain ⟨un, hun⟩ : ∃ v, v = mval on := ⟨_, rfl⟩
          obtain ⟨uu, huu⟩ : ∃ v, v = mval ou := ⟨_, rfl⟩
          rw [← hun, ← huu]
          have HUN := hid hun
          have HUU := hid huu
          have HN4 := hid (Nat.le_refl w4.heap.size)
          clear hm1 hw1 hi1 hr1 hr2 hne1 hx j0 j1 j2 j3 hun huu
          go_wp2_with fail
          with_reducible refine (CN1.out _ _ ⟨_, HUM.out⟩ HXX.out).mono ?_
          rintro e w5 ⟨rfl, hx⟩
          have HXX := hid (HXX.out.trans hx)
          have HN4 := hid (Nat.le_trans HN4.out hx.size)
          have HMom := hid (HMom.out.ext hx)
          have HMow := hid (HMow.out.ext hx)
          have HMon := hid (HMon.out.ext hx)
          have HMou := hid (HMou.out.ext hx)
          clear hx
          go_wp2_with fail
          with_reducible refine (CN2.out _ _ ⟨_, HUN.out⟩ HXX.out).mono ?_
          rintro e w6 ⟨rfl, hx⟩
          have HXX := hid (HXX.out.trans hx)
          have HN4 := hid (Nat.le_trans HN4.out hx.size)
          have HMom := hid (HMom.out.ext hx)
          have HMow := hid (HMow.out.ext hx)
          have HMon := hid (HMon.out.ext hx)
          have HMou := hid (HMou.out.ext hx)
          clear hx
          go_wp2_with fail
          with_reducible refine (HCM1.out _ HXX.out).mono ?_
          rintro e w7 ⟨rfl, hx⟩
          have HXX := hid (HXX.out.trans hx)
          have HN4 := hid (Nat.le_trans HN4.out hx.size)
          clear hx
          go_wp2_with fail
          with_reducible refine (law12_known _).mono ?_
          rintro e w8 ⟨rfl, hx⟩
          have HXX := hid (HXX.out.trans hx)
          have HN4 := hid (Nat.le_trans HN4.out hx.size)
          clear hx
          go_wp2
          all_goals
            go_ret
            exact ⟨rfl, HXX.out⟩
        | true =>
          rw [hm1] at HCM1
          cases hm2 : mayT qs with
          | false =>
            rw [hm2] at HCM2
            clear hok hm1 hm2
            go_enter Tryz.func3, Tryz.ntmps3
            go_wp2_with fail
            with_reducible refine (HCG.out _ HXX.out).mono ?_
            rintro e w1 ⟨rfl, hx⟩
            have HXX := hid (HXX.out.trans hx)
            have HK := hid (cells4_on hx HK.out)
            clear hx
            go_wp2_with fail
            with_reducible refine (HCH.out _ HXX.out).mono ?_
            rintro e w2 ⟨rfl, hx⟩
            have HXX := hid (HXX.out.trans hx)
            have HK := hid (cells4_on hx HK.out)
            clear hx
            obtain ⟨j0, j1, j2, j3⟩ := HK.out
            go_wp2_with fail
            with_reducible refine (HLM.out _).mono ?_
            rintro e w3 ⟨om, ow, rfl, hm1, hw1, hi1, hr1, hr2, hne1, hx⟩
            have HBASE := hid HXX.out.size
            have HXX := hid (HXX.out.trans hx)
            have HMom := hid hm1
            have HMow := hid hw1
            have HI1 := hid hi1
            have HR1 := hid hr1
            have HR2 := hid hr2
            have HNE1 := hid hne1
            have HK := hid (cells4_on hx HK.out)
            obtain ⟨um, hum⟩ : ∃ v, v = mval om := ⟨_, rfl⟩
            obtain ⟨uw, huw⟩ : ∃ v, v = mval ow := ⟨_, rfl⟩
            rw [← hum, ← huw]
            have HUM := hid hum
            have HUW := hid huw
            have HZ2 := hid hx.size
            clear hm1 hw1 hi1 hr1 hr2 hne1 hx j0 j1 j2 j3 hum huw
            obtain ⟨j0, j1, j2, j3⟩ := HK.out
            go_wp2_with fail
            with_reducible refine (HLM.out _).mono ?_
            rintro e w4 ⟨on, ou, rfl, hm1, hw1, hi1, hr1, hr2, hne1, hx⟩
            have HXX2 := hid HXX.out
            have HXX := hid (HXX.out.trans hx)
            have HMom := hid (HMom.out.ext hx)
            have HMow := hid (HMow.out.ext hx)
            have HMon := hid hm1
            have HMou := hid hw1
            have HI2 := hid hi1
            have omr : Hid (∀ k, om = some k → w.heap.size ≤ k ∧ k < w4.heap.size) := hid (fun k hk => ⟨Nat.le_trans HBASE.out (HR1.out k hk).1, Nat.lt_of_lt_of_le (HR1.out k hk).2 hx.size⟩)
            have owr : Hid (∀ k, ow = some k → w.heap.size ≤ k ∧ k < w4.heap.size) := hid (fun k hk => ⟨Nat.le_trans HBASE.out (HR2.out k hk).1, Nat.lt_of_lt_of_le (HR2.out k hk).2 hx.size⟩)
            have onr : Hid (∀ k, on = some k → w.heap.size ≤ k ∧ k < w4.heap.size) := hid (fun k hk => ⟨Nat.le_trans HXX2.out.size (hr1 k hk).1, (hr1 k hk).2⟩)
            have our : Hid (∀ k, ou = some k → w.heap.size ≤ k ∧ k < w4.heap.size) := hid (fun k hk => ⟨Nat.le_trans HXX2.out.size (hr2 k hk).1, (hr2 k hk).2⟩)
            have omow : Hid (∀ k, om = some k → ow ≠ some k) := hid HNE1.out
            have owom : Hid (∀ k, ow = some k → om ≠ some k) := hid (fun k hk e => HNE1.out k e hk)
            have onou : Hid (∀ k, on = some k → ou ≠ some k) := hid hne1
            have ouon : Hid (∀ k, ou = some k → on ≠ some k) := hid (fun k hk e => hne1 k e hk)
            have omon : Hid (∀ k, om = some k → on ≠ some k) := hid (fun k hk e => by have h1 := (HR1.out k hk).2; have h2 := (hr1 k e).1; omega)
            have omou : Hid (∀ k, om = some k → ou ≠ some k) := hid (fun k hk e => by have h1 := (HR1.out k hk).2; have h2 := (hr2 k e).1; omega)
            have owon : Hid (∀ k, ow = some k → on ≠ some k) := hid (fun k hk e => by have h1 := (HR2.out k hk).2; have h2 := (hr1 k e).1; omega)
            have owou : Hid (∀ k, ow = some k → ou ≠ some k) := hid (fun k hk e => by have h1 := (HR2.out k hk).2; have h2 := (hr2 k e).1; omega)
            have onom : Hid (∀ k, on = some k → om ≠ some k) := hid (fun k hk e => omon.out k e hk)
            have onow : Hid (∀ k, on = some k → ow ≠ some k) := hid (fun k hk e => owon.out k e hk)
            have ouom : Hid (∀ k, ou = some k → om ≠ some k) := hid (fun k hk e => omou.out k e hk)
            have ouow : Hid (∀ k, ou = some k → ow ≠ some k) := hid (fun k hk e => owou.out k e hk)
            obtain ⟨un, hun⟩ : ∃ v, v = mval on := ⟨_, rfl⟩
            obtain ⟨uu, huu⟩ : ∃ v, v = mval ou := ⟨_, rfl⟩
            rw [← hun, ← huu]
            have HUN := hid hun
            have HUU := hid huu
            have HN4 := hid (Nat.le_refl w4.heap.size)
            clear hm1 hw1 hi1 hr1 hr2 hne1 hx j0 j1 j2 j3 hun huu
            go_wp2_with fail
            with_reducible refine (CN1.out _ _ ⟨_, HUM.out⟩ HXX.out).mono ?_
            rintro e w5 ⟨rfl, hx⟩
            have HXX := hid (HXX.out.trans hx)
            have HN4 := hid (Nat.le_trans HN4.out hx.size)
            have HMom := hid (HMom.out.ext hx)
            have HMow := hid (HMow.out.ext hx)
            have HMon := hid (HMon.out.ext hx)
            have HMou := hid (HMou.out.ext hx)
            clear hx
            go_wp2_with fail
            with_reducible refine (CN2.out _ _ ⟨_, HUN.out⟩ HXX.out).mono ?_
            rintro e w6 ⟨rfl, hx⟩
            have HXX := hid (HXX.out.trans hx)
            have HN4 := hid (Nat.le_trans HN4.out hx.size)
            have HMom := hid (HMom.out.ext hx)
            have HMow := hid (HMow.out.ext hx)
            have HMon := hid (HMon.out.ext hx)
            have HMou := hid (HMou.out.ext hx)
            clear hx
            go_wp2_with fail
            with_reducible refine (HCM1.out _ HXX.out).mono ?_
            rintro e w7 ⟨rfl, hx⟩
            have HXX := hid (HXX.out.trans hx)
            have HN4 := hid (Nat.le_trans HN4.out hx.size)
            clear hx
            go_wp2_with fail
            with_reducible refine (HCM2.out _ HXX.out).mono ?_
            rintro e w8 ⟨rfl, hx⟩
            have HXX := hid (HXX.out.trans hx)
            have HN4 := hid (Nat.le_trans HN4.out hx.size)
            clear hx
            go_wp2_with fail
            with_reducible refine (law12_known _).mono ?_
            rintro e w9 ⟨rfl, hx⟩
            have HXX := hid (HXX.out.trans hx)
            have HN4 := hid (Nat.le_trans HN4.out hx.size)
            clear hx
            go_wp2
            all_goals
              go_ret
              exact ⟨rfl, HXX.out⟩
          | true =>
            rw [hm2] at HCM2
            by_cases h1 : x < 1
            · have q1 : decide (x < 1) = true := decide_eq_true h1
              clear hok hm1 hm2
              go_enter Tryz.func3, Tryz.ntmps3
              go_wp2_with fail
              with_reducible refine (HCG.out _ HXX.out).mono ?_
              rintro e w1 ⟨rfl, hx⟩
              have HXX := hid (HXX.out.trans hx)
              have HK := hid (cells4_on hx HK.out)
              clear hx
              go_wp2_with fail
              with_reducible refine (HCH.out _ HXX.out).mono ?_
              rintro e w2 ⟨rfl, hx⟩
              have HXX := hid (HXX.out.trans hx)
              have HK := hid (cells4_on hx HK.out)
              clear hx
              obtain ⟨j0, j1, j2, j3⟩ := HK.out
              go_wp2_with fail
              with_reducible refine (HLM.out _).mono ?_
              rintro e w3 ⟨om, ow, rfl, hm1, hw1, hi1, hr1, hr2, hne1, hx⟩
              have HBASE := hid HXX.out.size
              have HXX := hid (HXX.out.trans hx)
              have HMom := hid hm1
              have HMow := hid hw1
              have HI1 := hid hi1
              have HR1 := hid hr1
              have HR2 := hid hr2
              have HNE1 := hid hne1
              have HK := hid (cells4_on hx HK.out)
              obtain ⟨um, hum⟩ : ∃ v, v = mval om := ⟨_, rfl⟩
              obtain ⟨uw, huw⟩ : ∃ v, v = mval ow := ⟨_, rfl⟩
              rw [← hum, ← huw]
              have HUM := hid hum
              have HUW := hid huw
              have HZ2 := hid hx.size
              clear hm1 hw1 hi1 hr1 hr2 hne1 hx j0 j1 j2 j3 hum huw
              obtain ⟨j0, j1, j2, j3⟩ := HK.out
              go_wp2_with fail
              with_reducible refine (HLM.out _).mono ?_
              rintro e w4 ⟨on, ou, rfl, hm1, hw1, hi1, hr1, hr2, hne1, hx⟩
              have HXX2 := hid HXX.out
              have HXX := hid (HXX.out.trans hx)
              have HMom := hid (HMom.out.ext hx)
              have HMow := hid (HMow.out.ext hx)
              have HMon := hid hm1
              have HMou := hid hw1
              have HI2 := hid hi1
              have omr : Hid (∀ k, om = some k → w.heap.size ≤ k ∧ k < w4.heap.size) := hid (fun k hk => ⟨Nat.le_trans HBASE.out (HR1.out k hk).1, Nat.lt_of_lt_of_le (HR1.out k hk).2 hx.size⟩)
              have owr : Hid (∀ k, ow = some k → w.heap.size ≤ k ∧ k < w4.heap.size) := hid (fun k hk => ⟨Nat.le_trans HBASE.out (HR2.out k hk).1, Nat.lt_of_lt_of_le (HR2.out k hk).2 hx.size⟩)
              have onr : Hid (∀ k, on = some k → w.heap.size ≤ k ∧ k < w4.heap.size) := hid (fun k hk => ⟨Nat.le_trans HXX2.out.size (hr1 k hk).1, (hr1 k hk).2⟩)
              have our : Hid (∀ k, ou = some k → w.heap.size ≤ k ∧ k < w4.heap.size) := hid (fun k hk => ⟨Nat.le_trans HXX2.out.size (hr2 k hk).1, (hr2 k hk).2⟩)
              have omow : Hid (∀ k, om = some k → ow ≠ some k) := hid HNE1.out
              have owom : Hid (∀ k, ow = some k → om ≠ some k) := hid (fun k hk e => HNE1.out k e hk)
              have onou : Hid (∀ k, on = some k → ou ≠ some k) := hid hne1
              have ouon : Hid (∀ k, ou = some k → on ≠ some k) := hid (fun k hk e => hne1 k e hk)
              have omon : Hid (∀ k, om = some k → on ≠ some k) := hid (fun k hk e => by have h1 := (HR1.out k hk).2; have h2 := (hr1 k e).1; omega)
              have omou : Hid (∀ k, om = some k → ou ≠ some k) := hid (fun k hk e => by have h1 := (HR1.out k hk).2; have h2 := (hr2 k e).1; omega)
              have owon : Hid (∀ k, ow = some k → on ≠ some k) := hid (fun k hk e => by have h1 := (HR2.out k hk).2; have h2 := (hr1 k e).1; omega)
              have owou : Hid (∀ k, ow = some k → ou ≠ some k) := hid (fun k hk e => by have h1 := (HR2.out k hk).2; have h2 := (hr2 k e).1; omega)
              have onom : Hid (∀ k, on = some k → om ≠ some k) := hid (fun k hk e => omon.out k e hk)
              have onow : Hid (∀ k, on = some k → ow ≠ some k) := hid (fun k hk e => owon.out k e hk)
              have ouom : Hid (∀ k, ou = some k → om ≠ some k) := hid (fun k hk e => omou.out k e hk)
              have ouow : Hid (∀ k, ou = some k → ow ≠ some k) := hid (fun k hk e => owou.out k e hk)
              obtain ⟨un, hun⟩ : ∃ v, v = mval on := ⟨_, rfl⟩
              obtain ⟨uu, huu⟩ : ∃ v, v = mval ou := ⟨_, rfl⟩
              rw [← hun, ← huu]
              have HUN := hid hun
              have HUU := hid huu
              have HN4 := hid (Nat.le_refl w4.heap.size)
              clear hm1 hw1 hi1 hr1 hr2 hne1 hx j0 j1 j2 j3 hun huu
              go_wp2_with fail
              with_reducible refine (CN1.out _ _ ⟨_, HUM.out⟩ HXX.out).mono ?_
              rintro e w5 ⟨rfl, hx⟩
              have HXX := hid (HXX.out.trans hx)
              have HN4 := hid (Nat.le_trans HN4.out hx.size)
              have HMom := hid (HMom.out.ext hx)
              have HMow := hid (HMow.out.ext hx)
              have HMon := hid (HMon.out.ext hx)
              have HMou := hid (HMou.out.ext hx)
              clear hx
              go_wp2_with fail
              with_reducible refine (CN2.out _ _ ⟨_, HUN.out⟩ HXX.out).mono ?_
              rintro e w6 ⟨rfl, hx⟩
              have HXX := hid (HXX.out.trans hx)
              have HN4 := hid (Nat.le_trans HN4.out hx.size)
              have HMom := hid (HMom.out.ext hx)
              have HMow := hid (HMow.out.ext hx)
              have HMon := hid (HMon.out.ext hx)
              have HMou := hid (HMou.out.ext hx)
              clear hx
              go_wp2_with fail
              with_reducible refine (HCM1.out _ HXX.out).mono ?_
              rintro e w7 ⟨rfl, hx⟩
              have HXX := hid (HXX.out.trans hx)
              have HN4 := hid (Nat.le_trans HN4.out hx.size)
              clear hx
              go_wp2_with fail
              with_reducible refine (HCM2.out _ HXX.out).mono ?_
              rintro e w8 ⟨rfl, hx⟩
              have HXX := hid (HXX.out.trans hx)
              have HN4 := hid (Nat.le_trans HN4.out hx.size)
              clear hx
              go_wp2_with fail
              with_reducible refine (law12_known _).mono ?_
              rintro e w9 ⟨rfl, hx⟩
              have HXX := hid (HXX.out.trans hx)
              have HN4 := hid (Nat.le_trans HN4.out hx.size)
              clear hx
              go_wp2
              all_goals
                go_ret
                exact ⟨rfl, HXX.out⟩
            · have q1 : decide (x < 1) = false := decide_eq_false h1
              by_cases h2 : 200 < x
              · have q2 : decide (200 < x) = true := decide_eq_true h2
                clear hok hm1 hm2
                go_enter Tryz.func3, Tryz.ntmps3
                go_wp2_with fail
                with_reducible refine (HCG.out _ HXX.out).mono ?_
                rintro e w1 ⟨rfl, hx⟩
                have HXX := hid (HXX.out.trans hx)
                have HK := hid (cells4_on hx HK.out)
                clear hx
                go_wp2_with fail
                with_reducible refine (HCH.out _ HXX.out).mono ?_
                rintro e w2 ⟨rfl, hx⟩
                have HXX := hid (HXX.out.trans hx)
                have HK := hid (cells4_on hx HK.out)
                clear hx
                obtain ⟨j0, j1, j2, j3⟩ := HK.out
                go_wp2_with fail
                with_reducible refine (HLM.out _).mono ?_
                rintro e w3 ⟨om, ow, rfl, hm1, hw1, hi1, hr1, hr2, hne1, hx⟩
                have HBASE := hid HXX.out.size
                have HXX := hid (HXX.out.trans hx)
                have HMom := hid hm1
                have HMow := hid hw1
                have HI1 := hid hi1
                have HR1 := hid hr1
                have HR2 := hid hr2
                have HNE1 := hid hne1
                have HK := hid (cells4_on hx HK.out)
                obtain ⟨um, hum⟩ : ∃ v, v = mval om := ⟨_, rfl⟩
                obtain ⟨uw, huw⟩ : ∃ v, v = mval ow := ⟨_, rfl⟩
                rw [← hum, ← huw]
                have HUM := hid hum
                have HUW := hid huw
                have HZ2 := hid hx.size
                clear hm1 hw1 hi1 hr1 hr2 hne1 hx j0 j1 j2 j3 hum huw
                obtain ⟨j0, j1, j2, j3⟩ := HK.out
                go_wp2_with fail
                with_reducible refine (HLM.out _).mono ?_
                rintro e w4 ⟨on, ou, rfl, hm1, hw1, hi1, hr1, hr2, hne1, hx⟩
                have HXX2 := hid HXX.out
                have HXX := hid (HXX.out.trans hx)
                have HMom := hid (HMom.out.ext hx)
                have HMow := hid (HMow.out.ext hx)
                have HMon := hid hm1
                have HMou := hid hw1
                have HI2 := hid hi1
                have omr : Hid (∀ k, om = some k → w.heap.size ≤ k ∧ k < w4.heap.size) := hid (fun k hk => ⟨Nat.le_trans HBASE.out (HR1.out k hk).1, Nat.lt_of_lt_of_le (HR1.out k hk).2 hx.size⟩)
                have owr : Hid (∀ k, ow = some k → w.heap.size ≤ k ∧ k < w4.heap.size) := hid (fun k hk => ⟨Nat.le_trans HBASE.out (HR2.out k hk).1, Nat.lt_of_lt_of_le (HR2.out k hk).2 hx.size⟩)
                have onr : Hid (∀ k, on = some k → w.heap.size ≤ k ∧ k < w4.heap.size) := hid (fun k hk => ⟨Nat.le_trans HXX2.out.size (hr1 k hk).1, (hr1 k hk).2⟩)
                have our : Hid (∀ k, ou = some k → w.heap.size ≤ k ∧ k < w4.heap.size) := hid (fun k hk => ⟨Nat.le_trans HXX2.out.size (hr2 k hk).1, (hr2 k hk).2⟩)
                have omow : Hid (∀ k, om = some k → ow ≠ some k) := hid HNE1.out
                have owom : Hid (∀ k, ow = some k → om ≠ some k) := hid (fun k hk e => HNE1.out k e hk)
                have onou : Hid (∀ k, on = some k → ou ≠ some k) := hid hne1
                have ouon : Hid (∀ k, ou = some k → on ≠ some k) := hid (fun k hk e => hne1 k e hk)
                have omon : Hid (∀ k, om = some k → on ≠ some k) := hid (fun k hk e => by have h1 := (HR1.out k hk).2; have h2 := (hr1 k e).1; omega)
                have omou : Hid (∀ k, om = some k → ou ≠ some k) := hid (fun k hk e => by have h1 := (HR1.out k hk).2; have h2 := (hr2 k e).1; omega)
                have owon : Hid (∀ k, ow = some k → on ≠ some k) := hid (fun k hk e => by have h1 := (HR2.out k hk).2; have h2 := (hr1 k e).1; omega)
                have owou : Hid (∀ k, ow = some k → ou ≠ some k) := hid (fun k hk e => by have h1 := (HR2.out k hk).2; have h2 := (hr2 k e).1; omega)
                have onom : Hid (∀ k, on = some k → om ≠ some k) := hid (fun k hk e => omon.out k e hk)
                have onow : Hid (∀ k, on = some k → ow ≠ some k) := hid (fun k hk e => owon.out k e hk)
                have ouom : Hid (∀ k, ou = some k → om ≠ some k) := hid (fun k hk e => omou.out k e hk)
                have ouow : Hid (∀ k, ou = some k → ow ≠ some k) := hid (fun k hk e => owou.out k e hk)
                obtain ⟨un, hun⟩ : ∃ v, v = mval on := ⟨_, rfl⟩
                obtain ⟨uu, huu⟩ : ∃ v, v = mval ou := ⟨_, rfl⟩
                rw [← hun, ← huu]
                have HUN := hid hun
                have HUU := hid huu
                have HN4 := hid (Nat.le_refl w4.heap.size)
                clear hm1 hw1 hi1 hr1 hr2 hne1 hx j0 j1 j2 j3 hun huu
                go_wp2_with fail
                with_reducible refine (CN1.out _ _ ⟨_, HUM.out⟩ HXX.out).mono ?_
                rintro e w5 ⟨rfl, hx⟩
                have HXX := hid (HXX.out.trans hx)
                have HN4 := hid (Nat.le_trans HN4.out hx.size)
                have HMom := hid (HMom.out.ext hx)
                have HMow := hid (HMow.out.ext hx)
                have HMon := hid (HMon.out.ext hx)
                have HMou := hid (HMou.out.ext hx)
                clear hx
                go_wp2_with fail
                with_reducible refine (CN2.out _ _ ⟨_, HUN.out⟩ HXX.out).mono ?_
                rintro e w6 ⟨rfl, hx⟩
                have HXX := hid (HXX.out.trans hx)
                have HN4 := hid (Nat.le_trans HN4.out hx.size)
                have HMom := hid (HMom.out.ext hx)
                have HMow := hid (HMow.out.ext hx)
                have HMon := hid (HMon.out.ext hx)
                have HMou := hid (HMou.out.ext hx)
                clear hx
                go_wp2_with fail
                with_reducible refine (HCM1.out _ HXX.out).mono ?_
                rintro e w7 ⟨rfl, hx⟩
                have HXX := hid (HXX.out.trans hx)
                have HN4 := hid (Nat.le_trans HN4.out hx.size)
                clear hx
                go_wp2_with fail
                with_reducible refine (HCM2.out _ HXX.out).mono ?_
                rintro e w8 ⟨rfl, hx⟩
                have HXX := hid (HXX.out.trans hx)
                have HN4 := hid (Nat.le_trans HN4.out hx.size)
                clear hx
                go_wp2_with fail
                with_reducible refine (law12_known _).mono ?_
                rintro e w9 ⟨rfl, hx⟩
                have HXX := hid (HXX.out.trans hx)
                have HN4 := hid (Nat.le_trans HN4.out hx.size)
                clear hx
                go_wp2
                all_goals
                  go_ret
                  exact ⟨rfl, HXX.out⟩
              · have q2 : decide (200 < x) = false := decide_eq_false h2
                have hdlt : degP (plainP qs) x < 1 := by
                  rcases Int.lt_or_le (degP (plainP qs) x) 1 with h | h
                  · exact h
                  · exact absurd ⟨hm1, hm2, ⟨by omega, by omega⟩, h⟩ hok
                have e2 := pv_of HQS.out hm2
                obtain ⟨fG, eG⟩ := plain12 HQS.out.okT HG2.out
                generalize plainP qs = G at *
                subst e2
                have HFG := hid fG
                obtain ⟨dg, hdg⟩ : ∃ d, d = degP G x := ⟨_, rfl⟩
                have HDG := hid hdg
                rw [← hdg] at hdlt
                have q3 : decide (dg < 1) = true := decide_eq_true hdlt
                have hdr := degP_range fG.can.may x
                rw [← hdg] at hdr
                obtain ⟨hdr1, hdr2⟩ := hdr
                clear hok hm1 hm2 fG eG hdg
                go_enter Tryz.func3, Tryz.ntmps3
                go_wp2_with fail
                with_reducible refine (HCG.out _ HXX.out).mono ?_
                rintro e w1 ⟨rfl, hx⟩
                have HXX := hid (HXX.out.trans hx)
                have HK := hid (cells4_on hx HK.out)
                clear hx
                go_wp2_with fail
                with_reducible refine (HCH.out _ HXX.out).mono ?_
                rintro e w2 ⟨rfl, hx⟩
                have HXX := hid (HXX.out.trans hx)
                have HK := hid (cells4_on hx HK.out)
                clear hx
                obtain ⟨j0, j1, j2, j3⟩ := HK.out
                go_wp2_with fail
                with_reducible refine (HLM.out _).mono ?_
                rintro e w3 ⟨om, ow, rfl, hm1, hw1, hi1, hr1, hr2, hne1, hx⟩
                have HBASE := hid HXX.out.size
                have HXX := hid (HXX.out.trans hx)
                have HMom := hid hm1
                have HMow := hid hw1
                have HI1 := hid hi1
                have HR1 := hid hr1
                have HR2 := hid hr2
                have HNE1 := hid hne1
                have HK := hid (cells4_on hx HK.out)
                obtain ⟨um, hum⟩ : ∃ v, v = mval om := ⟨_, rfl⟩
                obtain ⟨uw, huw⟩ : ∃ v, v = mval ow := ⟨_, rfl⟩
                rw [← hum, ← huw]
                have HUM := hid hum
                have HUW := hid huw
                have HZ2 := hid hx.size
                clear hm1 hw1 hi1 hr1 hr2 hne1 hx j0 j1 j2 j3 hum huw
                obtain ⟨j0, j1, j2, j3⟩ := HK.out
                go_wp2_with fail
                with_reducible refine (HLM.out _).mono ?_
                rintro e w4 ⟨on, ou, rfl, hm1, hw1, hi1, hr1, hr2, hne1, hx⟩
                have HXX2 := hid HXX.out
                have HXX := hid (HXX.out.trans hx)
                have HMom := hid (HMom.out.ext hx)
                have HMow := hid (HMow.out.ext hx)
                have HMon := hid hm1
                have HMou := hid hw1
                have HI2 := hid hi1
                have omr : Hid (∀ k, om = some k → w.heap.size ≤ k ∧ k < w4.heap.size) := hid (fun k hk => ⟨Nat.le_trans HBASE.out (HR1.out k hk).1, Nat.lt_of_lt_of_le (HR1.out k hk).2 hx.size⟩)
                have owr : Hid (∀ k, ow = some k → w.heap.size ≤ k ∧ k < w4.heap.size) := hid (fun k hk => ⟨Nat.le_trans HBASE.out (HR2.out k hk).1, Nat.lt_of_lt_of_le (HR2.out k hk).2 hx.size⟩)
                have onr : Hid (∀ k, on = some k → w.heap.size ≤ k ∧ k < w4.heap.size) := hid (fun k hk => ⟨Nat.le_trans HXX2.out.size (hr1 k hk).1, (hr1 k hk).2⟩)
                have our : Hid (∀ k, ou = some k → w.heap.size ≤ k ∧ k < w4.heap.size) := hid (fun k hk => ⟨Nat.le_trans HXX2.out.size (hr2 k hk).1, (hr2 k hk).2⟩)
                have omow : Hid (∀ k, om = some k → ow ≠ some k) := hid HNE1.out
                have owom : Hid (∀ k, ow = some k → om ≠ some k) := hid (fun k hk e => HNE1.out k e hk)
                have onou : Hid (∀ k, on = some k → ou ≠ some k) := hid hne1
                have ouon : Hid (∀ k, ou = some k → on ≠ some k) := hid (fun k hk e => hne1 k e hk)
                have omon : Hid (∀ k, om = some k → on ≠ some k) := hid (fun k hk e => by have h1 := (HR1.out k hk).2; have h2 := (hr1 k e).1; omega)
                have omou : Hid (∀ k, om = some k → ou ≠ some k) := hid (fun k hk e => by have h1 := (HR1.out k hk).2; have h2 := (hr2 k e).1; omega)
                have owon : Hid (∀ k, ow = some k → on ≠ some k) := hid (fun k hk e => by have h1 := (HR2.out k hk).2; have h2 := (hr1 k e).1; omega)
                have owou : Hid (∀ k, ow = some k → ou ≠ some k) := hid (fun k hk e => by have h1 := (HR2.out k hk).2; have h2 := (hr2 k e).1; omega)
                have onom : Hid (∀ k, on = some k → om ≠ some k) := hid (fun k hk e => omon.out k e hk)
                have onow : Hid (∀ k, on = some k → ow ≠ some k) := hid (fun k hk e => owon.out k e hk)
                have ouom : Hid (∀ k, ou = some k → om ≠ some k) := hid (fun k hk e => omou.out k e hk)
                have ouow : Hid (∀ k, ou = some k → ow ≠ some k) := hid (fun k hk e => owou.out k e hk)
                obtain ⟨un, hun⟩ : ∃ v, v = mval on := ⟨_, rfl⟩
                obtain ⟨uu, huu⟩ : ∃ v, v = mval ou := ⟨_, rfl⟩
                rw [← hun, ← huu]
                have HUN := hid hun
                have HUU := hid huu
                have HN4 := hid (Nat.le_refl w4.heap.size)
                clear hm1 hw1 hi1 hr1 hr2 hne1 hx j0 j1 j2 j3 hun huu
                go_wp2_with fail
                with_reducible refine (CN1.out _ _ ⟨_, HUM.out⟩ HXX.out).mono ?_
                rintro e w5 ⟨rfl, hx⟩
                have HXX := hid (HXX.out.trans hx)
                have HN4 := hid (Nat.le_trans HN4.out hx.size)
                have HMom := hid (HMom.out.ext hx)
                have HMow := hid (HMow.out.ext hx)
                have HMon := hid (HMon.out.ext hx)
                have HMou := hid (HMou.out.ext hx)
                clear hx
                go_wp2_with fail
                with_reducible refine (CN2.out _ _ ⟨_, HUN.out⟩ HXX.out).mono ?_
                rintro e w6 ⟨rfl, hx⟩
                have HXX := hid (HXX.out.trans hx)
                have HN4 := hid (Nat.le_trans HN4.out hx.size)
                have HMom := hid (HMom.out.ext hx)
                have HMow := hid (HMow.out.ext hx)
                have HMon := hid (HMon.out.ext hx)
                have HMou := hid (HMou.out.ext hx)
                clear hx
                go_wp2_with fail
                with_reducible refine (HCM1.out _ HXX.out).mono ?_
                rintro e w7 ⟨rfl, hx⟩
                have HXX := hid (HXX.out.trans hx)
                have HN4 := hid (Nat.le_trans HN4.out hx.size)
                clear hx
                go_wp2_with fail
                with_reducible refine (HCM2.out _ HXX.out).mono ?_
                rintro e w8 ⟨rfl, hx⟩
                have HXX := hid (HXX.out.trans hx)
                have HN4 := hid (Nat.le_trans HN4.out hx.size)
                clear hx
                go_wp2_with fail
                with_reducible refine (of12 (HFG.out) HQS.out HXX.out HN4.out).mono ?_
                rintro e w9 ⟨v9, rfl, hp, hx⟩
                have HXX := hid (HXX.out.trans hx)
                have HN4 := hid (Nat.le_trans HN4.out hx.size)
                have HD0 := hid hp
                obtain ⟨a9, c9, rfl⟩ := hp.form
                obtain ⟨m0, hm0⟩ : ∃ n, n = (G).length := ⟨_, rfl⟩
                rw [← hm0] at HD0 ⊢
                clear hx hp hm0
                go_wp2_with fail
                with_reducible refine (rz_degree (DL.rv HD0.out) HFG.out HXI.out).mono ?_
                rw [← HDG.out]
                rintro e w10 ⟨rfl, hx⟩
                have HXX := hid (HXX.out.trans hx)
                have HN4 := hid (Nat.le_trans HN4.out hx.size)
                have HD0 := hid (DL.ext HD0.out hx)
                clear hx
                go_wp2_with fail
                with_reducible refine (law12_known _).mono ?_
                rintro e w11 ⟨rfl, hx⟩
                have HXX := hid (HXX.out.trans hx)
                have HN4 := hid (Nat.le_trans HN4.out hx.size)
                clear hx
                go_wp2
                all_goals
                  go_ret
                  exact ⟨rfl, HXX.out⟩
end Go.Proofs.YtcpfeepnfodifaaGreat

namespace Go.Proofs.YtcpfeepnfodifaaGreat
open Go.RowKit Go.Deep Go.ChangeShapes Go.WideShapes Go.ChangeAt

set_option maxRecDepth 100000 in
theorem divides_lifted (os : Os) (started : os.Started) (H : Type) (enc : TypeId × Value → H) :
    ReturnsInHanded {} Tryz.checked os 3 .any (Rows.pseudoDividesSpec.pre6 enc Tryz.prog Tryz.f3 Rows.pseudoDividesRow.domain false) (Rows.pseudoDividesSpec.post enc Tryz.prog Tryz.f3 false true false false) := by
  refine returnsInHanded_of_change (C := Tryz.checked) Tryz.own started (by kernel_rfl) Tryz.func3
    (ChangeSpec.witness6 (enc := enc) (C := Tryz.checked) false ⟨#[], #[.slice none 0 0, .slice none 0 0, .int .i64 0, .agg #[.int .i64 0, .int .i64 0, .int .i64 0, .int .i64 0], .bool false], []⟩ 8 (by kernel_rfl) (by kernel_rfl) (by kernel_rfl) (by kernel_rfl)) ?_
  intro W base args ds gs before hval0 hW _ _
  have hval : ∀ (j : Nat) t v, Tryz.f3.params[j]? = some t → args[j]? = some v → Value.okWide Tryz.prog W .any base t v := hval0
  have hW' := hW
  obtain ⟨p, q, hA0, hV, _, _, _⟩ := hW'
  have hA : DataW.TrodAll enc Tryz.prog W 0 (fun _ => true) true Tryz.f3.params.toList args.toList ds p := hA0
  rw [Tryz.params3] at hA hval
  obtain ⟨v0, v1, v2, v3, v4, d0, d1, d2, d3, d4, p0, p1, p2, p3, p4, rfl, rfl, rfl, h0, h1, h2, h3, h4⟩ := trodAll_five12 hA
  obtain ⟨rfl, rfl⟩ := trodVars_none hV
  obtain ⟨fuel0, hf0⟩ := h0
  rw [slice_cells Tryz.underlying23 (hval 0 _ v0 rfl rfl)] at hf0
  obtain ⟨x0, hx0⟩ := open_terms hf0
  obtain ⟨fuel1, hf1⟩ := h1
  rw [slice_cells Tryz.underlying23 (hval 1 _ v1 rfl rfl)] at hf1
  obtain ⟨x1, hx1⟩ := open_terms hf1
  obtain ⟨fuel2, hf2⟩ := h2
  obtain ⟨y2, rfl, hy2⟩ := int_arg12 (hval 2 _ v2 rfl rfl) hf2
  obtain ⟨la3, lb3, lc3, ld3, rfl, ka3, kb3, kc3, kd3⟩ := limits_arg12 (hval 3 _ v3 rfl rfl) h3
  obtain ⟨b4, rfl⟩ := bool_arg12 (hval 4 _ v4 rfl rfl)
  refine (law_divides v0 v1 x0 x1 y2 la3 lb3 lc3 ld3 b4 W hx0 hx1 hy2).mono fun e W' h => ?_
  obtain ⟨rfl, hb⟩ := h
  exact ⟨_, rfl, law_post hW rfl rfl rfl (by rw [Tryz.params3]; intro t ht; simp at ht; rcases ht with rfl | rfl | rfl | rfl <;> exact ⟨by kernel_rfl, by decide +kernel⟩) hb⟩

theorem divides_holds : Rows.PseudoDividesSaid :=
  OpenClaim.holds_of_wide 3 Tryz.f3 rfl rfl rfl rfl rfl rfl rfl ⟨rfl, rfl, rfl, rfl, rfl⟩ rfl rfl rfl rfl rfl (by kernel_rfl) Tryz.func3 (by kernel_rfl)
    (of_decide_eq_true (by kernel_rfl)) (by unfold Func.isWrapper; first | (rw [if_pos (by decide +kernel)]; kernel_rfl) | (rw [if_neg (by decide +kernel)]; exact ⟨rfl, rfl⟩))
    (fun os started H enc _ => divides_lifted os started H enc)
end Go.Proofs.YtcpfeepnfodifaaGreat
