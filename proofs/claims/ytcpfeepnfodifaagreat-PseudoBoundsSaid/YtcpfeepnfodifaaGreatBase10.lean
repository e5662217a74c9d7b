/- The document's division: all its steps. Layer 12's law: what is too great, the meters of both sides, powers, limbs. The program's powers, and how many limbs. Layer 12's law: the meters of both sides, of limits; none of both, if there are to be none; have both counted the same. Layer 12's statements: what is not too great, and the divisions of it. The arguments of the statements of layers 12 and 16 that are no polynomials: whole numbers, truths, limits. -/
import Derived.Test.YtcpfeepnfodifaaGreatBase9
namespace Go.Proofs.YtcpfeepnfodifaaGreat
open Go.RowKit

section
variable {W Y Y' : World} {S : Nat → Prop} {o : Option Nat} {u v : Value} {p q : PZ} {k l n m : Nat}
/-- a document's polynomial in given blocks, or in such as are newer than a world -/
abbrev RQ (S : Nat → Prop) (W Y : World) (v : Value) (p : PZ) : Prop := RTs (Plus S W Y) Y v p
theorem rq_lt (hS : ∀ k, S k → k < W.heap.size) (hz : W.heap.size ≤ Y.heap.size) : ∀ k, Plus S W Y k → k < Y.heap.size := fun k hk => by
  rcases hk with h | h
  · exact Nat.lt_of_lt_of_le (hS k h) hz
  · exact h.2
theorem rq_plus (hz : W.heap.size ≤ Y.heap.size) (g : Y.heap.size ≤ Y'.heap.size) : ∀ k, Plus (Plus S W Y) Y Y' k → Plus S W Y' k := fun k hk => by
  rcases hk with (h | h) | h
  · exact .inl h
  · exact .inr ⟨h.1, Nat.lt_of_lt_of_le h.2 g⟩
  · exact .inr ⟨Nat.le_trans hz h.1, h.2⟩
theorem RQ.old (hS : ∀ k, S k → k < W.heap.size) (hz : W.heap.size ≤ Y.heap.size) (h : RQ S W Y v p) : RV Y v p := h.to (Kept.refl _ _) (rq_lt hS hz)
theorem RQ.on (hS : ∀ k, S k → k < W.heap.size) (hz : W.heap.size ≤ Y.heap.size) (ho : ∀ b, o = some b → b < W.heap.size ∧ ¬ S b) (h : RQ S W Y v p) (g : Y.grownBy Y' o) : RQ S W Y' v p :=
  h.to (fun k hk => g.block k (rq_lt hS hz k hk) (fun e => by
    have h1 := ho k e.symm
    rcases hk with h | h
    · exact h1.2 h
    · have := h.1; omega)) (fun k hk => by
    rcases hk with h | h
    · exact .inl h
    · exact .inr ⟨h.1, Nat.lt_of_lt_of_le h.2 g.size⟩)
theorem RQ.ext (hS : ∀ k, S k → k < W.heap.size) (hz : W.heap.size ≤ Y.heap.size) (h : RQ S W Y v p) (g : Ext Y Y') : RQ S W Y' v p := RQ.on (o := none) hS hz (fun _ e => by cases e) h (gb_of_ext g none)
theorem RQ.of (h : RTs S W v p) : RQ S W W v p := h.to (Kept.refl _ _) (fun _ h => .inl h)
theorem RQ.rm (hS : ∀ k, S k → k < W.heap.size) (hz : W.heap.size ≤ Y.heap.size) (ho : ∀ b, o = some b → b < W.heap.size ∧ ¬ S b) (h : RQ S W Y v p) : RM o Y v p :=
  h.to (Kept.refl _ _) (fun k hk => ⟨rq_lt hS hz k hk, fun e => by
    have h1 := ho k e.symm
    rcases hk with h | h
    · exact h1.2 h
    · have := h.1; omega⟩)
theorem rq_times (hS : ∀ k, S k → k < W.heap.size) (hz : W.heap.size ≤ Y.heap.size) (hp : RQ S W Y u p) (hq : RQ S W Y v q) (fp : Fit k n p) (fq : Fit l m q) (hk : k + l ≤ 90000) (hn : n ≤ 1000000000000) (hm : m ≤ 1000000000000) (hnm : n * m ≤ 1000000000000) :
    Calls Tryz.prog 65 #[u, v] Y fun e w' => ∃ v', e = .returned (.tuple #[v', .bool (timesB (timesP p q))]) ∧ RQ S W w' v' (timesV (timesP p q)) ∧ Ext Y w' :=
  (rpoly_times (S := Plus S W Y) u v p q Y (rq_lt hS hz) hp hq fp.can.may fq.can.may (fit_szP fp (by omega) hn) (fit_szP fq (by omega) hm) (fit_szM2 fp fq (by omega) hnm)).mono (by
    rintro e w' ⟨v', rfl, h, hx⟩
    exact ⟨v', rfl, h.to (Kept.refl _ _) (rq_plus hz hx.size), hx⟩)
theorem rq_add (hS : ∀ k, S k → k < W.heap.size) (hz : W.heap.size ≤ Y.heap.size) (hp : RQ S W Y u p) (hq : RQ S W Y v q) (fp : Fit k n p) (fq : Fit l m q) (hk : k ≤ 90000) (hl : l ≤ 90000) (hn : n + m ≤ 1000000000000) :
    Calls Tryz.prog 53 #[u, v] Y fun e w' => ∃ v', e = .returned v' ∧ RQ S W w' v' (normP (p ++ q)) ∧ Ext Y w' :=
  (rpoly_add (S := Plus S W Y) u v p q Y (rq_lt hS hz) hp hq fp.can.may fq.can.may (fit_szP fq (by omega) (by omega)) (fit_sum_sz fp fq hk hl hn)).mono (by
    rintro e w' ⟨v', rfl, h, hx⟩
    rw [addP_eq fp.can fq.can.may] at h
    exact ⟨v', rfl, h.to (Kept.refl _ _) (rq_plus hz hx.size), hx⟩)
theorem rq_sub (hS : ∀ k, S k → k < W.heap.size) (hz : W.heap.size ≤ Y.heap.size) (hp : RQ S W Y u p) (hq : RQ S W Y v q) (fp : Fit k n p) (fq : Fit l m q) (hk : k ≤ 90000) (hl : l ≤ 90000) (hn : n + m ≤ 1000000000000) :
    Calls Tryz.prog 55 #[u, v] Y fun e w' => ∃ v', e = .returned v' ∧ RQ S W w' v' (normP (p ++ negP q)) ∧ Ext Y w' :=
  (rpoly_sub (S := Plus S W Y) u v p q Y (rq_lt hS hz) hp hq fp.can.may fq.can.may (fit_szP fq (by omega) (by omega)) (fun j hj => fit_sum_sz fp fq.neg hk hl hn j (by rw [negP_length]; exact hj))).mono (by
    rintro e w' ⟨v', rfl, h, hx⟩
    rw [addP_eq fp.can fq.neg.can.may] at h
    exact ⟨v', rfl, h.to (Kept.refl _ _) (rq_plus hz hx.size), hx⟩)
theorem rq_coef (hS : ∀ k, S k → k < W.heap.size) (hz : W.heap.size ≤ Y.heap.size) (hp : RQ S W Y u p) (fp : Fit k n p) (hk : k ≤ 90000) (hn : n ≤ 1000000000000) {x d : Int} (hx : 1 ≤ x ∧ x ≤ 200) (hd : inI64 d) :
    Calls Tryz.prog 112 #[u, .int .i64 x, .int .i64 d] Y fun e w' => ∃ v', e = .returned v' ∧ RQ S W w' v' (coefP p x d) ∧ Ext Y w' :=
  (rview_coefficient (S := Plus S W Y) u p x d Y hp (rq_lt hS hz) fp.can (fit_szP fp (by omega) hn) hx hd).mono (by
    rintro e w' ⟨v', rfl, h, hx⟩
    exact ⟨v', rfl, h.to (Kept.refl _ _) (rq_plus hz hx.size), hx⟩)
theorem rq_power (hz : W.heap.size ≤ Y.heap.size) {x : Int} {i : Nat} (hx : 1 ≤ x ∧ x ≤ 200) (hi : i ≤ 10000) :
    Calls Tryz.prog 66 #[.int .i64 x, .int .i64 (i : Nat)] Y fun e w' => ∃ v', e = .returned v' ∧ RQ S W w' v' (powP x i) ∧ Ext Y w' :=
  (rview_power x i Y (by unfold inI64; omega) hi).mono (by
    rintro e w' ⟨v', rfl, h, hx⟩
    exact ⟨v', rfl, h.to (Kept.refl _ _) (fun k hk => .inr ⟨Nat.le_trans hz hk.1, hk.2⟩), hx⟩)

set_option maxRecDepth 100000 in
theorem rq_head (hS : ∀ k, S k → k < W.heap.size) (hz : W.heap.size ≤ Y.heap.size) (hp : RQ S W Y u p) (fp : Fit k n p) (hk : k ≤ 90000) (hn : n ≤ 1000000000000) {x : Int} (hx : 1 ≤ x ∧ x ≤ 200) :
    Calls Tryz.prog 63 #[u, .int .i64 x] Y fun e w' => ∃ v', e = .returned v' ∧ RQ S W w' v' (headP p x) ∧ Ext Y w' := by
  have HD := hid (rz_degree (RQ.old hS hz hp) fp (x := x) (by unfold inI64; omega))
  have hr := degP_range fp.can.may x
  have HC := hid (fun (Z : World) (hY : Ext Y Z) => rq_coef (Y := Z) hS (Nat.le_trans hz hY.size) (RQ.ext hS hz hp hY) fp hk hn hx (d := degP p x) (by unfold inI64; omega))
  obtain ⟨a, c, rfl⟩ := hp.form
  obtain ⟨np, hnp⟩ : ∃ n, n = p.length := ⟨_, rfl⟩
  rw [← hnp] at HD HC ⊢
  clear hp fp hnp
  go_enter Tryz.func63, Tryz.ntmps63
  go_wp2_with fail
  with_reducible refine HD.out.mono ?_
  rintro e w1 ⟨rfl, hx1⟩
  have HX1 := hid hx1
  have HC1 := hid (HC.out w1 hx1)
  clear hx1
  go_wp2_with fail
  with_reducible refine HC1.out.mono ?_
  rintro e w2 ⟨v2, rfl, hp2, hx2⟩
  have HX2 := hid (HX1.out.trans hx2)
  have HP2 := hid hp2
  clear hp2 hx2
  go_wp2
  all_goals
    go_ret
    exact ⟨_, rfl, HP2.out, HX2.out⟩
end

theorem timesV_fit {k n l m : Nat} {p q : PZ} (fp : Fit k n p) (fq : Fit l m q) (hn : n * m ≤ 1000000000000) : Fit (k + l + 2) (n * m) (timesV (timesP p q)) := by
  cases h : timesP p q with
  | none => exact fit_nil.mono (Nat.zero_le _) (Nat.zero_le _)
  | some c => exact fp.times fq h hn

section
variable {o : Option Nat} {keep : Bool} {g h q r : PZ} {v d c1 c2 c3 : Int} {s s1 s2 s3 : MSt} {x : PZ × PZ}
theorem stepO_refused (h1 : mstep o s = (c1, s1)) (hc : c1 ≠ 0) : stepO o keep g h v d s q r = (c1, s1, none) := by
  unfold stepO
  rw [h1]
  exact if_pos hc
theorem stepO_exp (h1 : mstep o s = (c1, s1)) (hc : ¬ c1 ≠ 0) (h2 : stepD keep g h v d q r = none) : stepO o keep g h v d s q r = (8, mexp o s1, none) := by
  unfold stepO
  rw [h1, h2]
  exact if_neg hc
theorem stepO_keep1 (h1 : mstep o s = (c1, s1)) (hc : ¬ c1 ≠ 0) (h2 : stepD keep g h v d q r = some x) (h3 : mkeep o s1 x.2 = (c2, s2)) (hc2 : c2 ≠ 0) : stepO o keep g h v d s q r = (c2, s2, none) := by
  unfold stepO
  rw [h1, h2]
  refine (if_neg hc).trans ?_
  show (if (mkeep o s1 x.2).1 ≠ 0 then _ else _) = _
  rw [h3]
  exact if_pos hc2
theorem stepO_keep2 (h1 : mstep o s = (c1, s1)) (hc : ¬ c1 ≠ 0) (h2 : stepD keep g h v d q r = some x) (h3 : mkeep o s1 x.2 = (c2, s2)) (hc2 : ¬ c2 ≠ 0) (h4 : mkeep o s1 x.1 = (c3, s3)) (hc3 : c3 ≠ 0) : stepO o keep g h v d s q r = (c3, s3, none) := by
  unfold stepO
  rw [h1, h2]
  refine (if_neg hc).trans ?_
  show (if (mkeep o s1 x.2).1 ≠ 0 then _ else if (mkeep o s1 x.1).1 ≠ 0 then _ else _) = _
  rw [h3, h4]
  exact (if_neg hc2).trans (if_pos hc3)
theorem stepO_ok (h1 : mstep o s = (c1, s1)) (hc : ¬ c1 ≠ 0) (h2 : stepD keep g h v d q r = some x) (h3 : mkeep o s1 x.2 = (c2, s2)) (hc2 : ¬ c2 ≠ 0) (h4 : mkeep o s1 x.1 = (c3, s3)) (hc3 : ¬ c3 ≠ 0) : stepO o keep g h v d s q r = (0, s1, some x) := by
  unfold stepO
  rw [h1, h2]
  refine (if_neg hc).trans ?_
  show (if (mkeep o s1 x.2).1 ≠ 0 then _ else if (mkeep o s1 x.1).1 ≠ 0 then _ else _) = _
  rw [h3, h4]
  exact (if_neg hc2).trans (if_neg hc3)
end

/-- what the document's division tells -/
def RDivPost (S : Nat → Prop) (W : World) (o : Option Nat) (R : DRes) : Ending → World → Prop := fun e W' => ∃ vq vr, e = .returned (.tuple #[vq, vr, .int .i64 (R.n : Nat), .int .i64 R.e]) ∧ RMV W' o R.s ∧ W.grownBy W' o ∧ RQ S W W' vq R.q ∧ RQ S W W' vr R.r

set_option maxRecDepth 100000 in
set_option maxHeartbeats 16000000 in
theorem r_divide {W : World} {S : Nat → Prop} {o : Option Nat} {s : MSt} {vf vg : Value} {v : Int} {keep : Bool} {f g : PZ} {A B T M : Nat} (hM : RMV W o s) (hS : ∀ k, S k → k < W.heap.size) (ho : ∀ b, o = some b → ¬ S b) (hf0 : RTs S W vf f) (hg0 : RTs S W vg g) (fg : Fit A T g) (hF : FitRun o keep g (headP g v) v (degP g v) B M ((degP f v).toNat + 1) s [] f)
    (hA : A < 24) (hB : B ≤ 40000) (hT : 1 ≤ T) (hTb : T ≤ 1000000) (hTM : 2 * T * M ≤ 1000000000000) (hv : 1 ≤ v ∧ v ≤ 200) (hd : 1 ≤ degP g v) :
    Calls Tryz.prog 20 #[mval o, vf, vg, .int .i64 v, .bool keep] W (RDivPost S W o (divD o keep s f g v)) := by
  have hf := RQ.of hf0
  have hg := RQ.of hg0
  have HSS := hid hS
  have hMM : M ≤ 2 * T * M := Nat.le_mul_of_pos_left M (by omega)
  have hnot : ∀ (x : Bool) (w : World), (Op.unary .not (.bool x)).run Tryz.prog w = .ok (.bool (!x)) w := fun _ _ => rfl
  have ff := hF.now.2
  have hfr := degP_range ff.can.may v
  have hgr := degP_range fg.can.may v
  have fh : Fit A T (headP g v) := fg.coef v (degP g v)
  have hi : inI64 v := by unfold inI64; omega
  have HOO : Hid (∀ b, o = some b → b < W.heap.size ∧ ¬ S b) := hid (fun b hb => ⟨hM.block (b := b) hb, ho b hb⟩)
  have C1 := rz_degree (RQ.old hS (Nat.le_refl _) hg) fg (x := v) hi
  have C2 := fun (Y : World) (hY : Ext W Y) => rq_head (Y := Y) hS hY.size (RQ.ext hS (Nat.le_refl _) hg hY) fg (by omega) (by omega) hv
  obtain ⟨R, hR⟩ : ∃ R, R = divD o keep s f g v := ⟨_, rfl⟩
  rw [← hR]
  have HR0 := hid hR
  obtain ⟨K, hK⟩ : ∃ K, K = (degP f v).toNat + 1 := ⟨_, rfl⟩
  have HK := hid hK
  have HFR := hid hF
  have HM := hid hM
  have HG := hid hg
  have HFF := hid hf
  have HFG := hid fg
  have HFH := hid fh
  have HV := hid hv
  have HDD := hid hd
  have HDF := hid (And.intro hfr.1 hfr.2)
  have HBD := hid (And.intro hA (And.intro hB (And.intro hT (And.intro hTM (And.intro hMM hTb)))))
  have HI := hid hi
  obtain ⟨vm, hvm⟩ : ∃ x, x = mval o := ⟨_, rfl⟩
  rw [← hvm]
  have HVM := hid hvm
  have HCST : Hid (∀ Y s, RMV Y o s → Calls Tryz.prog 64 #[vm] Y (ORMet Y o (mstep o s).1 (mstep o s).2)) := hid (by rw [hvm]; exact fun Y s hY => r_step hY)
  have HCRF : Hid (∀ Y s, RMV Y o s → Calls Tryz.prog 67 #[vm] Y (ORMet Y o 8 (mexp o s))) := hid (by rw [hvm]; exact fun Y s hY => r_refuse hY)
  have HCKP : Hid (∀ Y s u p k n, RMV Y o s → W.heap.size ≤ Y.heap.size → RQ S W Y u p → Fit k n p → k ≤ 90000 → n ≤ 1000000000000 → Calls Tryz.prog 68 #[vm, u] Y (ORMet Y o (mkeep o s p).1 (mkeep o s p).2)) := hid (by rw [hvm]; exact fun Y s u p k n hY hz hu hp hk hn => r_keep hY (RQ.rm HSS.out hz HOO.out hu) hp hk hn)
  obtain ⟨af, cf, rfl⟩ := hf.form
  obtain ⟨ag, cg, rfl⟩ := hg.form
  obtain ⟨nf, hnf⟩ : ∃ n, n = f.length := ⟨_, rfl⟩
  obtain ⟨ng, hng⟩ : ∃ n, n = g.length := ⟨_, rfl⟩
  rw [← hnf] at HFF ⊢
  rw [← hng] at HG C1 C2 ⊢
  obtain ⟨d, hd2⟩ : ∃ d, d = degP g v := ⟨_, rfl⟩
  have HD2 := hid hd2
  rw [← hd2] at C1 hgr
  obtain ⟨h, hh2⟩ : ∃ h, h = headP g v := ⟨_, rfl⟩
  have HH2 := hid hh2
  rw [← hh2] at C2 HFH HFR
  rw [← hd2] at HFR HDD
  have HRD : Hid (runD o keep g h v d K s [] f 0 = R) := hid (by rw [hR, hK, hh2, hd2]; rfl)
  obtain ⟨nh, hnh⟩ : ∃ n, n = h.length := ⟨_, rfl⟩
  have HNH := hid hnh
  have HC1 := hid C1
  have HC2 := hid C2
  obtain ⟨hv1, hv2⟩ := hv
  obtain ⟨hgr1, hgr2⟩ := hgr
  clear C1 C2 hM hS ho hf0 hg0 hf hg fg hF ff fh hR hK hfr hvm hnf hng hd2 hA hB hT hTb hTM hMM hd hi hh2 hnh
  go_enter Tryz.func20, Tryz.ntmps20
  go_wp2_with fail
  with_reducible refine HC1.out.mono ?_
  rintro e w1 ⟨rfl, hx1⟩
  have HX1 := hid hx1
  have HC3 := hid (HC2.out w1 hx1)
  clear hx1
  go_wp2_with fail
  with_reducible refine HC3.out.mono ?_
  rintro e w2 ⟨vh, rfl, hh, hx2⟩
  have HX2 := hid (HX1.out.trans hx2)
  have HG2 := hid (gb_of_ext HX2.out o)
  have HVH := hid hh
  obtain ⟨ah, ch, rfl⟩ := hh.form
  rw [← HNH.out] at HVH ⊢
  clear hh hx2
  go_wp2
  go_loopw [16, 17, 18] (fun vq vr vn wr => ∃ (k : Nat) (s' : MSt) (q r : PZ) (n : Nat), vn = .int .i64 (n : Nat) ∧ Hid (w2.grownBy wr o) ∧ Hid (runD o keep g h v d k s' q r n = R) ∧ Hid (degP r v < (k : Int)) ∧ Hid (FitRun o keep g h v d B M k s' q r) ∧ Hid (RQ S W wr vq q) ∧ Hid (RQ S W wr vr r) ∧ Hid (RMV wr o s') ∧ Hid (n + k = K) ∧ Hid (keep = false → q = [])) (fun _ _ vn _ => K + 1 - (intOf vn).toNat)
  case atStart => exact ⟨K, s, [], f, 0, rfl, gb_refl _ _, HRD, by show _ < _; have := HDF.out; rw [HK.out]; omega, by rw [HK.out]; exact HFR, RTs.nilv _ _ _ _ (by decide), RQ.ext HSS.out (Nat.le_refl _) HFF.out HX2.out, HM.out.ext HX2.out, Nat.zero_add _, fun _ => rfl⟩
  case round =>
    obtain ⟨k, s', q, r, n, rfl, HGC, HR, HDG, HF, HQ, HRR, HMV, HNK, HKQ⟩ := hrel
    have HFN := hid HF.out.now
    have HVH := hid (RQ.on HSS.out HG2.out.size HOO.out HVH.out HGC.out)
    have HGG := hid (RQ.on HSS.out HG2.out.size HOO.out (RQ.ext HSS.out (Nat.le_refl _) HG.out HX2.out) HGC.out)
    have HZZ := hid (Nat.le_trans HG2.out.size HGC.out.size)
    have hdr := degP_range HFN.out.2.can.may v
    obtain ⟨k1, hk1⟩ : ∃ k1, k = k1 + 1 := ⟨k - 1, by have := HDG.out; omega⟩
    subst hk1
    obtain ⟨aq, cq, rfl⟩ := HQ.out.form
    obtain ⟨nq, hnq⟩ : ∃ n, n = q.length := ⟨_, rfl⟩
    rw [← hnq] at HQ ⊢
    clear hnq
    by_cases hr0 : r = []
    · have hr0' := hr0
      subst hr0
      have HRE : Hid (R = ⟨0, q, [], n, s'⟩) := hid (by rw [← HR.out, runD_succ, if_pos (.inl rfl)])
      obtain ⟨ar, cr, hvr⟩ := HRR.out.form
      have hvr2 : _ = Value.slice ar 0 cr := hvr
      clear hvr hr0' hdr
      subst hvr2
      go_wp2
      all_goals
        refine bodyPost_ret (v := .tuple #[.slice aq nq cq, .slice ar 0 cr, .int .i64 (n : Nat), .int .i64 0]) (by simp [results, Tryz.results20, go_sem]) rfl ?_
        rw [HRE.out]; exact ⟨_, _, rfl, HMV.out, gb_trans HG2.out HGC.out, HQ.out, HRR.out⟩
    · have hnr : 0 < r.length := List.length_pos_iff.2 hr0
      obtain ⟨ar, cr, rfl⟩ := HRR.out.form
      obtain ⟨nr, hnr2⟩ : ∃ n, n = r.length := ⟨_, rfl⟩
      rw [← hnr2] at hnr HRR ⊢
      have HR0' := hid hr0
      have HDRG := hid hdr
      have h1 : M ≤ T * M := Nat.le_mul_of_pos_left M HBD.out.2.2.1
      have h2 : 2 * T * M = T * M + T * M := by rw [Nat.mul_assoc]; omega
      have h3 : M * T = T * M := Nat.mul_comm _ _
      have HTM := hid (And.intro h1 (And.intro h2 (And.intro h3 (And.intro HBD.out.2.2.2.1 HBD.out.2.2.2.2.2))))
      clear hr0 hnr2 h1 h2 h3
      by_cases hlt : degP r v < d
      · have q1 : decide (d ≤ degP r v) = false := decide_eq_false (by omega)
        have HRE : Hid (R = ⟨0, q, r, n, s'⟩) := hid (by rw [← HR.out, runD_succ, if_pos (.inr hlt)])
        obtain ⟨hdr1, hdr2⟩ := hdr
        clear hlt
        go_wp2_with fail
        with_reducible refine (rz_degree (RQ.old HSS.out HZZ.out HRR.out) HFN.out.2 HI.out).mono ?_
        rintro e w3 ⟨rfl, hx⟩
        have HVH := hid (RQ.ext HSS.out HZZ.out HVH.out hx)
        have HGG := hid (RQ.ext HSS.out HZZ.out HGG.out hx)
        have HQ := hid (RQ.ext HSS.out HZZ.out HQ.out hx)
        have HRR := hid (RQ.ext HSS.out HZZ.out HRR.out hx)
        have HGC := hid (gb_trans HGC.out (gb_of_ext hx o))
        have HMV := hid (HMV.out.ext hx)
        have HZZ := hid (Nat.le_trans HZZ.out hx.size)
        clear hx
        go_wp2
        all_goals
          refine bodyPost_ret (v := .tuple #[.slice aq nq cq, .slice ar nr cr, .int .i64 (n : Nat), .int .i64 0]) (by simp [results, Tryz.results20, go_sem]) rfl ?_
          rw [HRE.out]; exact ⟨_, _, rfl, HMV.out, gb_trans HG2.out HGC.out, HQ.out, HRR.out⟩
      · have hle : d ≤ degP r v := by omega
        have q1 : decide (d ≤ degP r v) = true := decide_eq_true hle
        have HLE := hid hle
        have HSTOP : Hid (¬ (r = [] ∨ degP r v < d)) := hid (by rintro (h | h); exact HR0'.out h; exact hlt h)
        have HNB : Hid (n ≤ 1000000) := hid (by have h1 := HNK.out; have h2 := HK.out; have h3 := HDF.out; omega)
        obtain ⟨i, hi⟩ : ∃ i : Nat, i = (degP r v - d).toNat := ⟨_, rfl⟩
        have HI2 : Hid ((i : Int) = degP r v - d) := hid (by omega)
        have HI3 : Hid (i ≤ 10000) := hid (by omega)
        have HTD : Hid (termD r v d = timesP (headP r v) (powP v i)) := hid (by unfold termD; rw [← hi])
        have HFHR := hid (show Fit B M (headP r v) from HFN.out.2.coef v (degP r v))
        have HFPW := hid (fit_pow HV.out HI3.out)
        have hnb := HNB.out
        obtain ⟨hdr1, hdr2⟩ := hdr
        clear hlt hi hle
        cases hms : mstep o s' with
        | mk c1 s1 =>
          have HMS := hid hms
          clear hms
          by_cases hc1 : c1 ≠ 0
          · have q2 : (c1 != 0) = true := by rw [bne_iff_ne]; exact hc1
            have HRE : Hid (R = ⟨c1, [], [], 0, s1⟩) := hid (by rw [← HR.out, runD_succ, if_neg HSTOP.out, stepO_refused HMS.out hc1])
            clear hc1
            go_wp2_with fail
            with_reducible refine (rz_degree (RQ.old HSS.out HZZ.out HRR.out) HFN.out.2 HI.out).mono ?_
            rintro e w3 ⟨rfl, hx⟩
            have HVH := hid (RQ.ext HSS.out HZZ.out HVH.out hx)
            have HGG := hid (RQ.ext HSS.out HZZ.out HGG.out hx)
            have HQ := hid (RQ.ext HSS.out HZZ.out HQ.out hx)
            have HRR := hid (RQ.ext HSS.out HZZ.out HRR.out hx)
            have HGC := hid (gb_trans HGC.out (gb_of_ext hx o))
            have HMV := hid (HMV.out.ext hx)
            have HZZ := hid (Nat.le_trans HZZ.out hx.size)
            clear hx
            have HST := HCST.out w3 s' HMV.out
            rw [HMS.out] at HST
            have HST1 := hid HST
            clear HST
            go_wp2_with fail
            with_reducible refine HST1.out.mono ?_
            rintro e w4 ⟨rfl, hm, hg⟩
            have HVH := hid (RQ.on HSS.out HZZ.out HOO.out HVH.out hg)
            have HGG := hid (RQ.on HSS.out HZZ.out HOO.out HGG.out hg)
            have HQ := hid (RQ.on HSS.out HZZ.out HOO.out HQ.out hg)
            have HRR := hid (RQ.on HSS.out HZZ.out HOO.out HRR.out hg)
            have HGC := hid (gb_trans HGC.out hg)
            have HMV := hid hm
            have HZZ := hid (Nat.le_trans HZZ.out hg.size)
            clear hm hg HST1
            go_wp2
            all_goals
              refine bodyPost_ret (v := .tuple #[.slice none 0 0, .slice none 0 0, .int .i64 0, .int .i64 c1]) (by simp [results, Tryz.results20, go_sem]) rfl ?_
              rw [HRE.out]; exact ⟨_, _, rfl, HMV.out, gb_trans HG2.out HGC.out, RTs.nilv _ _ _ _ (by decide), RTs.nilv _ _ _ _ (by decide)⟩
          · have q2 : (c1 != 0) = false := by rw [bne_eq_false_iff_eq]; exact Decidable.not_not.1 hc1
            have HC1 := hid hc1
            clear hc1
            obtain ⟨T1, hT1⟩ : ∃ x, x = timesP (headP r v) (powP v i) := ⟨_, rfl⟩
            obtain ⟨L1, hL1⟩ : ∃ x, x = timesP (timesV T1) g := ⟨_, rfl⟩
            obtain ⟨M1, hM1⟩ : ∃ x, x = timesP h r := ⟨_, rfl⟩
            obtain ⟨U1, hU1⟩ : ∃ x, x = timesP h q := ⟨_, rfl⟩
            have HT1 := hid hT1.symm
            have HL1 := hid hL1.symm
            have HM1 := hid hM1.symm
            have HU1 := hid hU1.symm
            have HFT : Hid (Fit (B + 3) M (timesV T1)) := hid (by rw [hT1]; exact (timesV_fit HFHR.out HFPW.out (by have := HTM.out; omega)).mono (by omega) (by omega))
            have HFL : Hid (Fit (B + A + 5) (T * M) (timesV L1)) := hid (by rw [hL1]; exact (timesV_fit HFT.out HFG.out (by have := HTM.out; omega)).mono (by omega) (by have := HTM.out; omega))
            have HFM : Hid (Fit (B + A + 5) (T * M) (timesV M1)) := hid (by rw [hM1]; exact (timesV_fit HFH.out HFN.out.2 (by have := HTM.out; omega)).mono (by omega) (by omega))
            have HFU : Hid (Fit (B + A + 5) (T * M) (timesV U1)) := hid (by rw [hU1]; exact (timesV_fit HFH.out HFN.out.1 (by have := HTM.out; omega)).mono (by omega) (by omega))
            clear hT1 hL1 hM1 hU1
            go_wp2_with fail
            with_reducible refine (rz_degree (RQ.old HSS.out HZZ.out HRR.out) HFN.out.2 HI.out).mono ?_
            rintro e w3 ⟨rfl, hx⟩
            have HVH := hid (RQ.ext HSS.out HZZ.out HVH.out hx)
            have HGG := hid (RQ.ext HSS.out HZZ.out HGG.out hx)
            have HQ := hid (RQ.ext HSS.out HZZ.out HQ.out hx)
            have HRR := hid (RQ.ext HSS.out HZZ.out HRR.out hx)
            have HGC := hid (gb_trans HGC.out (gb_of_ext hx o))
            have HMV := hid (HMV.out.ext hx)
            have HZZ := hid (Nat.le_trans HZZ.out hx.size)
            clear hx
            have HST := HCST.out w3 s' HMV.out
            rw [HMS.out] at HST
            have HST1 := hid HST
            clear HST
            go_wp2_with fail
            with_reducible refine HST1.out.mono ?_
            rintro e w4 ⟨rfl, hm, hg⟩
            have HVH := hid (RQ.on HSS.out HZZ.out HOO.out HVH.out hg)
            have HGG := hid (RQ.on HSS.out HZZ.out HOO.out HGG.out hg)
            have HQ := hid (RQ.on HSS.out HZZ.out HOO.out HQ.out hg)
            have HRR := hid (RQ.on HSS.out HZZ.out HOO.out HRR.out hg)
            have HGC := hid (gb_trans HGC.out hg)
            have HMV := hid hm
            have HZZ := hid (Nat.le_trans HZZ.out hg.size)
            clear hm hg HST1
            go_wp2_with fail
            with_reducible refine (rq_head HSS.out HZZ.out HRR.out HFN.out.2 (by have := HBD.out; omega) (by have := HTM.out; omega) HV.out).mono ?_
            rintro e w5 ⟨v5, rfl, hp, hx⟩
            have HVH := hid (RQ.ext HSS.out HZZ.out HVH.out hx)
            have HGG := hid (RQ.ext HSS.out HZZ.out HGG.out hx)
            have HQ := hid (RQ.ext HSS.out HZZ.out HQ.out hx)
            have HRR := hid (RQ.ext HSS.out HZZ.out HRR.out hx)
            have HGC := hid (gb_trans HGC.out (gb_of_ext hx o))
            have HMV := hid (HMV.out.ext hx)
            have HZZ := hid (Nat.le_trans HZZ.out hx.size)
            have HH5 := hid hp
            obtain ⟨a5, c5, rfl⟩ := hp.form
            obtain ⟨n5, hn5⟩ : ∃ n, n = (headP r v).length := ⟨_, rfl⟩
            rw [← hn5] at HH5 ⊢
            clear hx hp hn5
            go_wp2_with fail
            with_reducible refine (rz_degree (RQ.old HSS.out HZZ.out HRR.out) HFN.out.2 HI.out).mono ?_
            rintro e w6 ⟨rfl, hx⟩
            have HVH := hid (RQ.ext HSS.out HZZ.out HVH.out hx)
            have HGG := hid (RQ.ext HSS.out HZZ.out HGG.out hx)
            have HQ := hid (RQ.ext HSS.out HZZ.out HQ.out hx)
            have HRR := hid (RQ.ext HSS.out HZZ.out HRR.out hx)
            have HH5 := hid (RQ.ext HSS.out HZZ.out HH5.out hx)
            have HGC := hid (gb_trans HGC.out (gb_of_ext hx o))
            have HMV := hid (HMV.out.ext hx)
            have HZZ := hid (Nat.le_trans HZZ.out hx.size)
            clear hx
            have HPW := rq_power (S := S) (W := W) (Y := w6) HZZ.out (x := v) (i := i) HV.out HI3.out
            rw [HI2.out] at HPW
            have HPW1 := hid HPW
            clear HPW
            go_wp2_with fail
            with_reducible refine HPW1.out.mono ?_
            rintro e w7 ⟨v7, rfl, hp, hx⟩
            have HVH := hid (RQ.ext HSS.out HZZ.out HVH.out hx)
            have HGG := hid (RQ.ext HSS.out HZZ.out HGG.out hx)
            have HQ := hid (RQ.ext HSS.out HZZ.out HQ.out hx)
            have HRR := hid (RQ.ext HSS.out HZZ.out HRR.out hx)
            have HH5 := hid (RQ.ext HSS.out HZZ.out HH5.out hx)
            have HGC := hid (gb_trans HGC.out (gb_of_ext hx o))
            have HMV := hid (HMV.out.ext hx)
            have HZZ := hid (Nat.le_trans HZZ.out hx.size)
            have HH7 := hid hp
            obtain ⟨a7, c7, rfl⟩ := hp.form
            obtain ⟨n7, hn7⟩ : ∃ n, n = (powP v i).length := ⟨_, rfl⟩
            rw [← hn7] at HH7 ⊢
            clear hx hp hn7 HPW1
            have HTT := rq_times HSS.out HZZ.out HH5.out HH7.out HFHR.out HFPW.out (by have := HBD.out; omega) (by have := HTM.out; omega) (by decide) (by have := HTM.out; omega)
            rw [HT1.out] at HTT
            have HTT1 := hid HTT
            clear HTT
            go_wp2_with fail
            with_reducible refine HTT1.out.mono ?_
            rintro e w8 ⟨v8, rfl, hp, hx⟩
            have HVH := hid (RQ.ext HSS.out HZZ.out HVH.out hx)
            have HGG := hid (RQ.ext HSS.out HZZ.out HGG.out hx)
            have HQ := hid (RQ.ext HSS.out HZZ.out HQ.out hx)
            have HRR := hid (RQ.ext HSS.out HZZ.out HRR.out hx)
            have HH5 := hid (RQ.ext HSS.out HZZ.out HH5.out hx)
            have HH7 := hid (RQ.ext HSS.out HZZ.out HH7.out hx)
            have HGC := hid (gb_trans HGC.out (gb_of_ext hx o))
            have HMV := hid (HMV.out.ext hx)
            have HZZ := hid (Nat.le_trans HZZ.out hx.size)
            have HHT := hid hp
            obtain ⟨a8, c8, rfl⟩ := hp.form
            obtain ⟨n8, hn8⟩ : ∃ n, n = (timesV T1).length := ⟨_, rfl⟩
            rw [← hn8] at HHT ⊢
            obtain ⟨ba, hba⟩ : ∃ b, b = timesB T1 := ⟨_, rfl⟩
            rw [← hba]
            have Hba := hid hba
            clear hx hp hn8 HTT1 hba
            have HTT := rq_times HSS.out HZZ.out HHT.out HGG.out HFT.out HFG.out (by have := HBD.out; omega) (by have := HTM.out; omega) (by have := HTM.out; omega) (by have := HTM.out; omega)
            rw [HL1.out] at HTT
            have HTT1 := hid HTT
            clear HTT
            go_wp2_with fail
            with_reducible refine HTT1.out.mono ?_
            rintro e w9 ⟨v9, rfl, hp, hx⟩
            have HVH := hid (RQ.ext HSS.out HZZ.out HVH.out hx)
            have HGG := hid (RQ.ext HSS.out HZZ.out HGG.out hx)
            have HQ := hid (RQ.ext HSS.out HZZ.out HQ.out hx)
            have HRR := hid (RQ.ext HSS.out HZZ.out HRR.out hx)
            have HH5 := hid (RQ.ext HSS.out HZZ.out HH5.out hx)
            have HH7 := hid (RQ.ext HSS.out HZZ.out HH7.out hx)
            have HHT := hid (RQ.ext HSS.out HZZ.out HHT.out hx)
            have HGC := hid (gb_trans HGC.out (gb_of_ext hx o))
            have HMV := hid (HMV.out.ext hx)
            have HZZ := hid (Nat.le_trans HZZ.out hx.size)
            have HHL := hid hp
            obtain ⟨a9, c9, rfl⟩ := hp.form
            obtain ⟨n9, hn9⟩ : ∃ n, n = (timesV L1).length := ⟨_, rfl⟩
            rw [← hn9] at HHL ⊢
            obtain ⟨bb, hbb⟩ : ∃ b, b = timesB L1 := ⟨_, rfl⟩
            rw [← hbb]
            have Hbb := hid hbb
            clear hx hp hn9 HTT1 hbb
            have HTT := rq_times HSS.out HZZ.out HVH.out HRR.out HFH.out HFN.out.2 (by have := HBD.out; omega) (by have := HTM.out; omega) (by have := HTM.out; omega) (by have := HTM.out; omega)
            rw [HM1.out] at HTT
            have HTT1 := hid HTT
            clear HTT
            go_wp2_with fail
            with_reducible refine HTT1.out.mono ?_
            rintro e w10 ⟨v10, rfl, hp, hx⟩
            have HVH := hid (RQ.ext HSS.out HZZ.out HVH.out hx)
            have HGG := hid (RQ.ext HSS.out HZZ.out HGG.out hx)
            have HQ := hid (RQ.ext HSS.out HZZ.out HQ.out hx)
            have HRR := hid (RQ.ext HSS.out HZZ.out HRR.out hx)
            have HH5 := hid (RQ.ext HSS.out HZZ.out HH5.out hx)
            have HH7 := hid (RQ.ext HSS.out HZZ.out HH7.out hx)
            have HHT := hid (RQ.ext HSS.out HZZ.out HHT.out hx)
            have HHL := hid (RQ.ext HSS.out HZZ.out HHL.out hx)
            have HGC := hid (gb_trans HGC.out (gb_of_ext hx o))
            have HMV := hid (HMV.out.ext hx)
            have HZZ := hid (Nat.le_trans HZZ.out hx.size)
            have HHM := hid hp
            obtain ⟨a10, c10, rfl⟩ := hp.form
            obtain ⟨n10, hn10⟩ : ∃ n, n = (timesV M1).length := ⟨_, rfl⟩
            rw [← hn10] at HHM ⊢
            obtain ⟨bm, hbm⟩ : ∃ b, b = timesB M1 := ⟨_, rfl⟩
            rw [← hbm]
            have Hbm := hid hbm
            clear hx hp hn10 HTT1 hbm
            have HTT := rq_times HSS.out HZZ.out HVH.out HQ.out HFH.out HFN.out.1 (by have := HBD.out; omega) (by have := HTM.out; omega) (by have := HTM.out; omega) (by have := HTM.out; omega)
            rw [HU1.out] at HTT
            have HTT1 := hid HTT
            clear HTT
            go_wp2_with fail
            with_reducible refine HTT1.out.mono ?_
            rintro e w11 ⟨v11, rfl, hp, hx⟩
            have HVH := hid (RQ.ext HSS.out HZZ.out HVH.out hx)
            have HGG := hid (RQ.ext HSS.out HZZ.out HGG.out hx)
            have HQ := hid (RQ.ext HSS.out HZZ.out HQ.out hx)
            have HRR := hid (RQ.ext HSS.out HZZ.out HRR.out hx)
            have HH5 := hid (RQ.ext HSS.out HZZ.out HH5.out hx)
            have HH7 := hid (RQ.ext HSS.out HZZ.out HH7.out hx)
            have HHT := hid (RQ.ext HSS.out HZZ.out HHT.out hx)
            have HHL := hid (RQ.ext HSS.out HZZ.out HHL.out hx)
            have HHM := hid (RQ.ext HSS.out HZZ.out HHM.out hx)
            have HGC := hid (gb_trans HGC.out (gb_of_ext hx o))
            have HMV := hid (HMV.out.ext hx)
            have HZZ := hid (Nat.le_trans HZZ.out hx.size)
            have HHU := hid hp
            obtain ⟨a11, c11, rfl⟩ := hp.form
            obtain ⟨n11, hn11⟩ : ∃ n, n = (timesV U1).length := ⟨_, rfl⟩
            rw [← hn11] at HHU ⊢
            obtain ⟨bu, hbu⟩ : ∃ b, b = timesB U1 := ⟨_, rfl⟩
            rw [← hbu]
            have Hbu := hid hbu
            clear hx hp hn11 HTT1 hbu
            have HRX : Hid (stepD keep g h v d q r = none → R = ⟨8, [], [], 0, mexp o s1⟩) := hid (fun e => by rw [← HR.out, runD_succ, if_neg HSTOP.out, stepO_exp HMS.out HC1.out e])
            cases T1 with
            | none =>
              have hba : ba = false := Hba.out
              subst hba
              have HRE := hid (HRX.out (by unfold stepD; rw [HTD.out, HT1.out]))
              go_wp2_with fail
              with_reducible refine (HCRF.out _ _ HMV.out).mono ?_
              rintro e w12 ⟨rfl, hm, hg⟩
              have HVH := hid (RQ.on HSS.out HZZ.out HOO.out HVH.out hg)
              have HGG := hid (RQ.on HSS.out HZZ.out HOO.out HGG.out hg)
              have HQ := hid (RQ.on HSS.out HZZ.out HOO.out HQ.out hg)
              have HRR := hid (RQ.on HSS.out HZZ.out HOO.out HRR.out hg)
              have HH5 := hid (RQ.on HSS.out HZZ.out HOO.out HH5.out hg)
              have HH7 := hid (RQ.on HSS.out HZZ.out HOO.out HH7.out hg)
              have HHT := hid (RQ.on HSS.out HZZ.out HOO.out HHT.out hg)
              have HHL := hid (RQ.on HSS.out HZZ.out HOO.out HHL.out hg)
              have HHM := hid (RQ.on HSS.out HZZ.out HOO.out HHM.out hg)
              have HHU := hid (RQ.on HSS.out HZZ.out HOO.out HHU.out hg)
              have HGC := hid (gb_trans HGC.out hg)
              have HMV := hid hm
              have HZZ := hid (Nat.le_trans HZZ.out hg.size)
              clear hm hg
              go_wp2
              all_goals
                refine bodyPost_ret (v := .tuple #[.slice none 0 0, .slice none 0 0, .int .i64 0, .int .i64 8]) (by simp [results, Tryz.results20, go_sem]) rfl ?_
                rw [HRE.out]; exact ⟨_, _, rfl, HMV.out, gb_trans HG2.out HGC.out, RTs.nilv _ _ _ _ (by decide), RTs.nilv _ _ _ _ (by decide)⟩
            | some t =>
              have hba : ba = true := Hba.out
              subst hba
              cases L1 with
              | none =>
                have hbb : bb = false := Hbb.out
                subst hbb
                have HRE := hid (HRX.out (by unfold stepD; rw [HTD.out, HT1.out]; simp only; rw [show timesP t g = none from HL1.out]))
                go_wp2_with fail
                with_reducible refine (HCRF.out _ _ HMV.out).mono ?_
                rintro e w12 ⟨rfl, hm, hg⟩
                have HVH := hid (RQ.on HSS.out HZZ.out HOO.out HVH.out hg)
                have HGG := hid (RQ.on HSS.out HZZ.out HOO.out HGG.out hg)
                have HQ := hid (RQ.on HSS.out HZZ.out HOO.out HQ.out hg)
                have HRR := hid (RQ.on HSS.out HZZ.out HOO.out HRR.out hg)
                have HH5 := hid (RQ.on HSS.out HZZ.out HOO.out HH5.out hg)
                have HH7 := hid (RQ.on HSS.out HZZ.out HOO.out HH7.out hg)
                have HHT := hid (RQ.on HSS.out HZZ.out HOO.out HHT.out hg)
                have HHL := hid (RQ.on HSS.out HZZ.out HOO.out HHL.out hg)
                have HHM := hid (RQ.on HSS.out HZZ.out HOO.out HHM.out hg)
                have HHU := hid (RQ.on HSS.out HZZ.out HOO.out HHU.out hg)
                have HGC := hid (gb_trans HGC.out hg)
                have HMV := hid hm
                have HZZ := hid (Nat.le_trans HZZ.out hg.size)
                clear hm hg
                go_wp2
                all_goals
                  refine bodyPost_ret (v := .tuple #[.slice none 0 0, .slice none 0 0, .int .i64 0, .int .i64 8]) (by simp [results, Tryz.results20, go_sem]) rfl ?_
                  rw [HRE.out]; exact ⟨_, _, rfl, HMV.out, gb_trans HG2.out HGC.out, RTs.nilv _ _ _ _ (by decide), RTs.nilv _ _ _ _ (by decide)⟩
              | some l =>
                have hbb : bb = true := Hbb.out
                subst hbb
                cases M1 with
                | none =>
                  have hbm : bm = false := Hbm.out
                  subst hbm
                  have HRE := hid (HRX.out (by unfold stepD; rw [HTD.out, HT1.out]; simp only; rw [show timesP t g = some l from HL1.out]; simp only; rw [HM1.out]))
                  go_wp2_with fail
                  with_reducible refine (HCRF.out _ _ HMV.out).mono ?_
                  rintro e w12 ⟨rfl, hm, hg⟩
                  have HVH := hid (RQ.on HSS.out HZZ.out HOO.out HVH.out hg)
                  have HGG := hid (RQ.on HSS.out HZZ.out HOO.out HGG.out hg)
                  have HQ := hid (RQ.on HSS.out HZZ.out HOO.out HQ.out hg)
                  have HRR := hid (RQ.on HSS.out HZZ.out HOO.out HRR.out hg)
                  have HH5 := hid (RQ.on HSS.out HZZ.out HOO.out HH5.out hg)
                  have HH7 := hid (RQ.on HSS.out HZZ.out HOO.out HH7.out hg)
                  have HHT := hid (RQ.on HSS.out HZZ.out HOO.out HHT.out hg)
                  have HHL := hid (RQ.on HSS.out HZZ.out HOO.out HHL.out hg)
                  have HHM := hid (RQ.on HSS.out HZZ.out HOO.out HHM.out hg)
                  have HHU := hid (RQ.on HSS.out HZZ.out HOO.out HHU.out hg)
                  have HGC := hid (gb_trans HGC.out hg)
                  have HMV := hid hm
                  have HZZ := hid (Nat.le_trans HZZ.out hg.size)
                  clear hm hg
                  go_wp2
                  all_goals
                    refine bodyPost_ret (v := .tuple #[.slice none 0 0, .slice none 0 0, .int .i64 0, .int .i64 8]) (by simp [results, Tryz.results20, go_sem]) rfl ?_
                    rw [HRE.out]; exact ⟨_, _, rfl, HMV.out, gb_trans HG2.out HGC.out, RTs.nilv _ _ _ _ (by decide), RTs.nilv _ _ _ _ (by decide)⟩
                | some m =>
                  have hbm : bm = true := Hbm.out
                  subst hbm
                  have HFT := hid (show Fit (B + 3) M t from HFT.out)
                  have HFL := hid (show Fit (B + A + 5) (T * M) l from HFL.out)
                  have HFM := hid (show Fit (B + A + 5) (T * M) m from HFM.out)
                  have HHT := hid (show RQ S W _ _ t from HHT.out)
                  have HHL := hid (show RQ S W _ _ l from HHL.out)
                  have HHM := hid (show RQ S W _ _ m from HHM.out)
                  have HL1 : Hid (timesP t g = some l) := HL1
                  have HFR2 := hid ((HFM.out.add HFL.out.neg (by have := HTM.out; omega)).mono (l := B + A + 7) (m := 2 * T * M) (by omega) (by have := HTM.out; omega))
                  cases hk1 : mkeep o s1 (normP (m ++ negP l)) with
                  | mk c2 s2 =>
                    have HK1 := hid hk1
                    have HE1 : Hid (c2 = 0 → s2 = s1) := hid (fun h => by have := mkeep_ok (o := o) (s := s1) (p := normP (m ++ negP l)) (by rw [hk1]; exact h); rw [hk1] at this; exact this)
                    clear hk1
                    cases keep with
                    | false =>
                      have HQN : Hid (q = []) := hid (HKQ.out rfl)
                      have HSD : Hid (stepD false g h v d q r = some ([], normP (m ++ negP l))) := hid (by unfold stepD; rw [HTD.out, HT1.out]; simp only; rw [HL1.out]; simp only; rw [HM1.out]; rfl)
                      by_cases hc2 : c2 ≠ 0
                      · have q3 : (c2 != 0) = true := by rw [bne_iff_ne]; exact hc2
                        have q3' : (c2 == 0) = false := by rw [beq_eq_false_iff_ne]; exact hc2
                        have HRE : Hid (R = ⟨c2, [], [], 0, s2⟩) := hid (by rw [← HR.out, runD_succ, if_neg HSTOP.out, stepO_keep1 (x := ([], normP (m ++ negP l))) HMS.out HC1.out HSD.out HK1.out hc2])
                        clear hc2
                        go_wp2_with fail
                        with_reducible refine (rq_sub HSS.out HZZ.out HHM.out HHL.out HFM.out HFL.out (by have := HBD.out; omega) (by have := HBD.out; omega) (by have := HTM.out; omega)).mono ?_
                        rintro e w12 ⟨v12, rfl, hp, hx⟩
                        have HVH := hid (RQ.ext HSS.out HZZ.out HVH.out hx)
                        have HGG := hid (RQ.ext HSS.out HZZ.out HGG.out hx)
                        have HQ := hid (RQ.ext HSS.out HZZ.out HQ.out hx)
                        have HRR := hid (RQ.ext HSS.out HZZ.out HRR.out hx)
                        have HH5 := hid (RQ.ext HSS.out HZZ.out HH5.out hx)
                        have HH7 := hid (RQ.ext HSS.out HZZ.out HH7.out hx)
                        have HHT := hid (RQ.ext HSS.out HZZ.out HHT.out hx)
                        have HHL := hid (RQ.ext HSS.out HZZ.out HHL.out hx)
                        have HHM := hid (RQ.ext HSS.out HZZ.out HHM.out hx)
                        have HHU := hid (RQ.ext HSS.out HZZ.out HHU.out hx)
                        have HGC := hid (gb_trans HGC.out (gb_of_ext hx o))
                        have HMV := hid (HMV.out.ext hx)
                        have HZZ := hid (Nat.le_trans HZZ.out hx.size)
                        have HH12 := hid hp
                        obtain ⟨a12, c12, rfl⟩ := hp.form
                        obtain ⟨n12, hn12⟩ : ∃ n, n = (normP (m ++ negP l)).length := ⟨_, rfl⟩
                        rw [← hn12] at HH12 ⊢
                        clear hx hp hn12
                        have HKT := HCKP.out w12 s1 _ (normP (m ++ negP l)) _ _ HMV.out HZZ.out HH12.out HFR2.out (by have := HBD.out; omega) (by have := HTM.out; omega)
                        rw [HK1.out] at HKT
                        have HKT1 := hid HKT
                        clear HKT
                        go_wp2_with fail
                        with_reducible refine HKT1.out.mono ?_
                        rintro e w13 ⟨rfl, hm, hg⟩
                        have HVH := hid (RQ.on HSS.out HZZ.out HOO.out HVH.out hg)
                        have HGG := hid (RQ.on HSS.out HZZ.out HOO.out HGG.out hg)
                        have HQ := hid (RQ.on HSS.out HZZ.out HOO.out HQ.out hg)
                        have HRR := hid (RQ.on HSS.out HZZ.out HOO.out HRR.out hg)
                        have HH5 := hid (RQ.on HSS.out HZZ.out HOO.out HH5.out hg)
                        have HH7 := hid (RQ.on HSS.out HZZ.out HOO.out HH7.out hg)
                        have HHT := hid (RQ.on HSS.out HZZ.out HOO.out HHT.out hg)
                        have HHL := hid (RQ.on HSS.out HZZ.out HOO.out HHL.out hg)
                        have HHM := hid (RQ.on HSS.out HZZ.out HOO.out HHM.out hg)
                        have HHU := hid (RQ.on HSS.out HZZ.out HOO.out HHU.out hg)
                        have HH12 := hid (RQ.on HSS.out HZZ.out HOO.out HH12.out hg)
                        have HGC := hid (gb_trans HGC.out hg)
                        have HMV := hid hm
                        have HZZ := hid (Nat.le_trans HZZ.out hg.size)
                        clear hm hg HKT1
                        go_wp2
                        all_goals
                          refine bodyPost_ret (v := .tuple #[.slice none 0 0, .slice none 0 0, .int .i64 0, .int .i64 c2]) (by simp [results, Tryz.results20, go_sem]) rfl ?_
                          rw [HRE.out]; exact ⟨_, _, rfl, HMV.out, gb_trans HG2.out HGC.out, RTs.nilv _ _ _ _ (by decide), RTs.nilv _ _ _ _ (by decide)⟩
                      · have hc2e : c2 = 0 := Decidable.not_not.1 hc2
                        subst hc2e
                        have HS2 := hid (HE1.out rfl)
                        have HC2 := hid hc2
                        clear hc2
                        cases hk2 : mkeep o s1 [] with
                        | mk c3 s3 =>
                          have HK2 := hid hk2
                          have HE2 : Hid (c3 = 0 → s3 = s1) := hid (fun h => by have := mkeep_ok (o := o) (s := s1) (p := []) (by rw [hk2]; exact h); rw [hk2] at this; exact this)
                          clear hk2
                          by_cases hc3 : c3 ≠ 0
                          · have q4 : (c3 != 0) = true := by rw [bne_iff_ne]; exact hc3
                            have HRE : Hid (R = ⟨c3, [], [], 0, s3⟩) := hid (by rw [← HR.out, runD_succ, if_neg HSTOP.out, stepO_keep2 (x := ([], normP (m ++ negP l))) HMS.out HC1.out HSD.out HK1.out HC2.out HK2.out hc3])
                            clear hc3
                            go_wp2_with fail
                            with_reducible refine (rq_sub HSS.out HZZ.out HHM.out HHL.out HFM.out HFL.out (by have := HBD.out; omega) (by have := HBD.out; omega) (by have := HTM.out; omega)).mono ?_
                            rintro e w12 ⟨v12, rfl, hp, hx⟩
                            have HVH := hid (RQ.ext HSS.out HZZ.out HVH.out hx)
                            have HGG := hid (RQ.ext HSS.out HZZ.out HGG.out hx)
                            have HQ := hid (RQ.ext HSS.out HZZ.out HQ.out hx)
                            have HRR := hid (RQ.ext HSS.out HZZ.out HRR.out hx)
                            have HH5 := hid (RQ.ext HSS.out HZZ.out HH5.out hx)
                            have HH7 := hid (RQ.ext HSS.out HZZ.out HH7.out hx)
                            have HHT := hid (RQ.ext HSS.out HZZ.out HHT.out hx)
                            have HHL := hid (RQ.ext HSS.out HZZ.out HHL.out hx)
                            have HHM := hid (RQ.ext HSS.out HZZ.out HHM.out hx)
                            have HHU := hid (RQ.ext HSS.out HZZ.out HHU.out hx)
                            have HGC := hid (gb_trans HGC.out (gb_of_ext hx o))
                            have HMV := hid (HMV.out.ext hx)
                            have HZZ := hid (Nat.le_trans HZZ.out hx.size)
                            have HH12 := hid hp
                            obtain ⟨a12, c12, rfl⟩ := hp.form
                            obtain ⟨n12, hn12⟩ : ∃ n, n = (normP (m ++ negP l)).length := ⟨_, rfl⟩
                            rw [← hn12] at HH12 ⊢
                            clear hx hp hn12
                            have HKT := HCKP.out w12 s1 _ (normP (m ++ negP l)) _ _ HMV.out HZZ.out HH12.out HFR2.out (by have := HBD.out; omega) (by have := HTM.out; omega)
                            rw [HK1.out] at HKT
                            have HKT1 := hid HKT
                            clear HKT
                            go_wp2_with fail
                            with_reducible refine HKT1.out.mono ?_
                            rintro e w13 ⟨rfl, hm, hg⟩
                            have HVH := hid (RQ.on HSS.out HZZ.out HOO.out HVH.out hg)
                            have HGG := hid (RQ.on HSS.out HZZ.out HOO.out HGG.out hg)
                            have HQ := hid (RQ.on HSS.out HZZ.out HOO.out HQ.out hg)
                            have HRR := hid (RQ.on HSS.out HZZ.out HOO.out HRR.out hg)
                            have HH5 := hid (RQ.on HSS.out HZZ.out HOO.out HH5.out hg)
                            have HH7 := hid (RQ.on HSS.out HZZ.out HOO.out HH7.out hg)
                            have HHT := hid (RQ.on HSS.out HZZ.out HOO.out HHT.out hg)
                            have HHL := hid (RQ.on HSS.out HZZ.out HOO.out HHL.out hg)
                            have HHM := hid (RQ.on HSS.out HZZ.out HOO.out HHM.out hg)
                            have HHU := hid (RQ.on HSS.out HZZ.out HOO.out HHU.out hg)
                            have HH12 := hid (RQ.on HSS.out HZZ.out HOO.out HH12.out hg)
                            have HGC := hid (gb_trans HGC.out hg)
                            have HMV := hid hm
                            have HZZ := hid (Nat.le_trans HZZ.out hg.size)
                            clear hm hg HKT1
                            have HMV : Hid (RMV _ o s1) := hid (by have h := HMV.out; rw [HS2.out] at h; exact h)
                            have HKT := HCKP.out w13 s1 _ _ _ _ HMV.out HZZ.out HQ.out HFN.out.1 (by have := HBD.out; omega) (by have := HTM.out; omega)
                            rw [HQN.out, HK2.out] at HKT
                            have HKT1 := hid HKT
                            clear HKT
                            go_wp2_with fail
                            with_reducible refine HKT1.out.mono ?_
                            rintro e w14 ⟨rfl, hm, hg⟩
                            have HVH := hid (RQ.on HSS.out HZZ.out HOO.out HVH.out hg)
                            have HGG := hid (RQ.on HSS.out HZZ.out HOO.out HGG.out hg)
                            have HQ := hid (RQ.on HSS.out HZZ.out HOO.out HQ.out hg)
                            have HRR := hid (RQ.on HSS.out HZZ.out HOO.out HRR.out hg)
                            have HH5 := hid (RQ.on HSS.out HZZ.out HOO.out HH5.out hg)
                            have HH7 := hid (RQ.on HSS.out HZZ.out HOO.out HH7.out hg)
                            have HHT := hid (RQ.on HSS.out HZZ.out HOO.out HHT.out hg)
                            have HHL := hid (RQ.on HSS.out HZZ.out HOO.out HHL.out hg)
                            have HHM := hid (RQ.on HSS.out HZZ.out HOO.out HHM.out hg)
                            have HHU := hid (RQ.on HSS.out HZZ.out HOO.out HHU.out hg)
                            have HH12 := hid (RQ.on HSS.out HZZ.out HOO.out HH12.out hg)
                            have HGC := hid (gb_trans HGC.out hg)
                            have HMV := hid hm
                            have HZZ := hid (Nat.le_trans HZZ.out hg.size)
                            clear hm hg HKT1
                            go_wp2
                            all_goals
                              refine bodyPost_ret (v := .tuple #[.slice none 0 0, .slice none 0 0, .int .i64 0, .int .i64 c3]) (by simp [results, Tryz.results20, go_sem]) rfl ?_
                              rw [HRE.out]; exact ⟨_, _, rfl, HMV.out, gb_trans HG2.out HGC.out, RTs.nilv _ _ _ _ (by decide), RTs.nilv _ _ _ _ (by decide)⟩
                          · have hc3e : c3 = 0 := Decidable.not_not.1 hc3
                            subst hc3e
                            have HS3 := hid (HE2.out rfl)
                            have HRE : Hid (runD o false g h v d k1 s1 q (normP (m ++ negP l)) (n + 1) = R) := hid (by rw [← HR.out, runD_succ, if_neg HSTOP.out, stepO_ok (x := ([], normP (m ++ negP l))) HMS.out HC1.out HSD.out HK1.out HC2.out HK2.out hc3]; rw [HQN.out])
                            have HSDG : Hid (degP (normP (m ++ negP l)) v < degP r v) := hid (stepD_deg (keep := false) (g := g) (q := q) (r := r) (v := v) (x := ([], normP (m ++ negP l))) HFG.out.can HFN.out.2.can HR0'.out HV.out (by rw [← HD2.out]; exact HDD.out) (by rw [← HD2.out]; exact HLE.out) (by rw [← HD2.out, ← HH2.out]; exact HSD.out)).2
                            have HFN2 : Hid (FitRun o false g h v d B M k1 s1 q (normP (m ++ negP l))) := hid (by
                              have h1 := HF.out.2.2 HR0'.out HLE.out (by rw [HMS.out]; exact Decidable.not_not.1 HC1.out) ([], normP (m ++ negP l)) HSD.out (by rw [HMS.out, HK1.out]) (by rw [HMS.out, HK2.out])
                              rw [HMS.out] at h1; rw [HQN.out]
                              exact h1)
                            clear hc3
                            go_wp2_with fail
                            with_reducible refine (rq_sub HSS.out HZZ.out HHM.out HHL.out HFM.out HFL.out (by have := HBD.out; omega) (by have := HBD.out; omega) (by have := HTM.out; omega)).mono ?_
                            rintro e w12 ⟨v12, rfl, hp, hx⟩
                            have HVH := hid (RQ.ext HSS.out HZZ.out HVH.out hx)
                            have HGG := hid (RQ.ext HSS.out HZZ.out HGG.out hx)
                            have HQ := hid (RQ.ext HSS.out HZZ.out HQ.out hx)
                            have HRR := hid (RQ.ext HSS.out HZZ.out HRR.out hx)
                            have HH5 := hid (RQ.ext HSS.out HZZ.out HH5.out hx)
                            have HH7 := hid (RQ.ext HSS.out HZZ.out HH7.out hx)
                            have HHT := hid (RQ.ext HSS.out HZZ.out HHT.out hx)
                            have HHL := hid (RQ.ext HSS.out HZZ.out HHL.out hx)
                            have HHM := hid (RQ.ext HSS.out HZZ.out HHM.out hx)
                            have HHU := hid (RQ.ext HSS.out HZZ.out HHU.out hx)
                            have HGC := hid (gb_trans HGC.out (gb_of_ext hx o))
                            have HMV := hid (HMV.out.ext hx)
                            have HZZ := hid (Nat.le_trans HZZ.out hx.size)
                            have HH12 := hid hp
                            obtain ⟨a12, c12, rfl⟩ := hp.form
                            obtain ⟨n12, hn12⟩ : ∃ n, n = (normP (m ++ negP l)).length := ⟨_, rfl⟩
                            rw [← hn12] at HH12 ⊢
                            clear hx hp hn12
                            have HKT := HCKP.out w12 s1 _ (normP (m ++ negP l)) _ _ HMV.out HZZ.out HH12.out HFR2.out (by have := HBD.out; omega) (by have := HTM.out; omega)
                            rw [HK1.out] at HKT
                            have HKT1 := hid HKT
                            clear HKT
                            go_wp2_with fail
                            with_reducible refine HKT1.out.mono ?_
                            rintro e w13 ⟨rfl, hm, hg⟩
                            have HVH := hid (RQ.on HSS.out HZZ.out HOO.out HVH.out hg)
                            have HGG := hid (RQ.on HSS.out HZZ.out HOO.out HGG.out hg)
                            have HQ := hid (RQ.on HSS.out HZZ.out HOO.out HQ.out hg)
                            have HRR := hid (RQ.on HSS.out HZZ.out HOO.out HRR.out hg)
                            have HH5 := hid (RQ.on HSS.out HZZ.out HOO.out HH5.out hg)
                            have HH7 := hid (RQ.on HSS.out HZZ.out HOO.out HH7.out hg)
                            have HHT := hid (RQ.on HSS.out HZZ.out HOO.out HHT.out hg)
                            have HHL := hid (RQ.on HSS.out HZZ.out HOO.out HHL.out hg)
                            have HHM := hid (RQ.on HSS.out HZZ.out HOO.out HHM.out hg)
                            have HHU := hid (RQ.on HSS.out HZZ.out HOO.out HHU.out hg)
                            have HH12 := hid (RQ.on HSS.out HZZ.out HOO.out HH12.out hg)
                            have HGC := hid (gb_trans HGC.out hg)
                            have HMV := hid hm
                            have HZZ := hid (Nat.le_trans HZZ.out hg.size)
                            clear hm hg HKT1
                            have HMV : Hid (RMV _ o s1) := hid (by have h := HMV.out; rw [HS2.out] at h; exact h)
                            have HKT := HCKP.out w13 s1 _ _ _ _ HMV.out HZZ.out HQ.out HFN.out.1 (by have := HBD.out; omega) (by have := HTM.out; omega)
                            rw [HQN.out, HK2.out] at HKT
                            have HKT1 := hid HKT
                            clear HKT
                            go_wp2_with fail
                            with_reducible refine HKT1.out.mono ?_
                            rintro e w14 ⟨rfl, hm, hg⟩
                            have HVH := hid (RQ.on HSS.out HZZ.out HOO.out HVH.out hg)
                            have HGG := hid (RQ.on HSS.out HZZ.out HOO.out HGG.out hg)
                            have HQ := hid (RQ.on HSS.out HZZ.out HOO.out HQ.out hg)
                            have HRR := hid (RQ.on HSS.out HZZ.out HOO.out HRR.out hg)
                            have HH5 := hid (RQ.on HSS.out HZZ.out HOO.out HH5.out hg)
                            have HH7 := hid (RQ.on HSS.out HZZ.out HOO.out HH7.out hg)
                            have HHT := hid (RQ.on HSS.out HZZ.out HOO.out HHT.out hg)
                            have HHL := hid (RQ.on HSS.out HZZ.out HOO.out HHL.out hg)
                            have HHM := hid (RQ.on HSS.out HZZ.out HOO.out HHM.out hg)
                            have HHU := hid (RQ.on HSS.out HZZ.out HOO.out HHU.out hg)
                            have HH12 := hid (RQ.on HSS.out HZZ.out HOO.out HH12.out hg)
                            have HGC := hid (gb_trans HGC.out hg)
                            have HMV := hid hm
                            have HZZ := hid (Nat.le_trans HZZ.out hg.size)
                            clear hm hg HKT1
                            have HMV : Hid (RMV _ o s1) := hid (by have h := HMV.out; rw [HS3.out] at h; exact h)
                            go_wp2
                            go_roundw
                            case rel => have HKQN := HKQ; exact ⟨k1, s1, q, normP (m ++ negP l), n + 1, by go_num, HGC, HRE, by show _ < _; have h1 := HSDG.out; have h2 := HDG.out; omega, HFN2, HQ, HH12, HMV, by show _ = _; have := HNK.out; omega, HKQN⟩
                            case measure => simp only [intOf]; have := HNK.out; omega
                    | true =>
                      cases U1 with
                      | none =>
                        have hbu : bu = false := Hbu.out
                        subst hbu
                        have HRE := hid (HRX.out (by unfold stepD; rw [HTD.out, HT1.out]; simp only; rw [HL1.out]; simp only; rw [HM1.out]; simp only [if_true]; rw [HU1.out]))
                        go_wp2_with fail
                        with_reducible refine (HCRF.out _ _ HMV.out).mono ?_
                        rintro e w12 ⟨rfl, hm, hg⟩
                        have HVH := hid (RQ.on HSS.out HZZ.out HOO.out HVH.out hg)
                        have HGG := hid (RQ.on HSS.out HZZ.out HOO.out HGG.out hg)
                        have HQ := hid (RQ.on HSS.out HZZ.out HOO.out HQ.out hg)
                        have HRR := hid (RQ.on HSS.out HZZ.out HOO.out HRR.out hg)
                        have HH5 := hid (RQ.on HSS.out HZZ.out HOO.out HH5.out hg)
                        have HH7 := hid (RQ.on HSS.out HZZ.out HOO.out HH7.out hg)
                        have HHT := hid (RQ.on HSS.out HZZ.out HOO.out HHT.out hg)
                        have HHL := hid (RQ.on HSS.out HZZ.out HOO.out HHL.out hg)
                        have HHM := hid (RQ.on HSS.out HZZ.out HOO.out HHM.out hg)
                        have HHU := hid (RQ.on HSS.out HZZ.out HOO.out HHU.out hg)
                        have HGC := hid (gb_trans HGC.out hg)
                        have HMV := hid hm
                        have HZZ := hid (Nat.le_trans HZZ.out hg.size)
                        clear hm hg
                        go_wp2
                        all_goals
                          refine bodyPost_ret (v := .tuple #[.slice none 0 0, .slice none 0 0, .int .i64 0, .int .i64 8]) (by simp [results, Tryz.results20, go_sem]) rfl ?_
                          rw [HRE.out]; exact ⟨_, _, rfl, HMV.out, gb_trans HG2.out HGC.out, RTs.nilv _ _ _ _ (by decide), RTs.nilv _ _ _ _ (by decide)⟩
                      | some u =>
                        have hbu : bu = true := Hbu.out
                        subst hbu
                        have HFU := hid (show Fit (B + A + 5) (T * M) u from HFU.out)
                        have HHU := hid (show RQ S W _ _ u from HHU.out)
                        have HFQ2 := hid ((HFU.out.add (HFT.out.mono (l := B + A + 5) (m := T * M) (by omega) (by have := HTM.out; omega)) (by have := HTM.out; omega)).mono (l := B + A + 7) (m := 2 * T * M) (by omega) (by have := HTM.out; omega))
                        have HSD : Hid (stepD true g h v d q r = some (normP (u ++ t), normP (m ++ negP l))) := hid (by unfold stepD; rw [HTD.out, HT1.out]; simp only; rw [HL1.out]; simp only; rw [HM1.out]; simp only [if_true]; rw [HU1.out])
                        by_cases hc2 : c2 ≠ 0
                        · have q3 : (c2 != 0) = true := by rw [bne_iff_ne]; exact hc2
                          have q3' : (c2 == 0) = false := by rw [beq_eq_false_iff_ne]; exact hc2
                          have HRE : Hid (R = ⟨c2, [], [], 0, s2⟩) := hid (by rw [← HR.out, runD_succ, if_neg HSTOP.out, stepO_keep1 (x := (normP (u ++ t), normP (m ++ negP l))) HMS.out HC1.out HSD.out HK1.out hc2])
                          clear hc2
                          go_wp2_with fail
                          with_reducible refine (rq_sub HSS.out HZZ.out HHM.out HHL.out HFM.out HFL.out (by have := HBD.out; omega) (by have := HBD.out; omega) (by have := HTM.out; omega)).mono ?_
                          rintro e w12 ⟨v12, rfl, hp, hx⟩
                          have HVH := hid (RQ.ext HSS.out HZZ.out HVH.out hx)
                          have HGG := hid (RQ.ext HSS.out HZZ.out HGG.out hx)
                          have HQ := hid (RQ.ext HSS.out HZZ.out HQ.out hx)
                          have HRR := hid (RQ.ext HSS.out HZZ.out HRR.out hx)
                          have HH5 := hid (RQ.ext HSS.out HZZ.out HH5.out hx)
                          have HH7 := hid (RQ.ext HSS.out HZZ.out HH7.out hx)
                          have HHT := hid (RQ.ext HSS.out HZZ.out HHT.out hx)
                          have HHL := hid (RQ.ext HSS.out HZZ.out HHL.out hx)
                          have HHM := hid (RQ.ext HSS.out HZZ.out HHM.out hx)
                          have HHU := hid (RQ.ext HSS.out HZZ.out HHU.out hx)
                          have HGC := hid (gb_trans HGC.out (gb_of_ext hx o))
                          have HMV := hid (HMV.out.ext hx)
                          have HZZ := hid (Nat.le_trans HZZ.out hx.size)
                          have HH12 := hid hp
                          obtain ⟨a12, c12, rfl⟩ := hp.form
                          obtain ⟨n12, hn12⟩ : ∃ n, n = (normP (m ++ negP l)).length := ⟨_, rfl⟩
                          rw [← hn12] at HH12 ⊢
                          clear hx hp hn12
                          go_wp2_with fail
                          with_reducible refine (rq_add HSS.out HZZ.out HHU.out HHT.out HFU.out HFT.out (by have := HBD.out; omega) (by have := HBD.out; omega) (by have := HTM.out; omega)).mono ?_
                          rintro e w13 ⟨v13, rfl, hp, hx⟩
                          have HVH := hid (RQ.ext HSS.out HZZ.out HVH.out hx)
                          have HGG := hid (RQ.ext HSS.out HZZ.out HGG.out hx)
                          have HQ := hid (RQ.ext HSS.out HZZ.out HQ.out hx)
                          have HRR := hid (RQ.ext HSS.out HZZ.out HRR.out hx)
                          have HH5 := hid (RQ.ext HSS.out HZZ.out HH5.out hx)
                          have HH7 := hid (RQ.ext HSS.out HZZ.out HH7.out hx)
                          have HHT := hid (RQ.ext HSS.out HZZ.out HHT.out hx)
                          have HHL := hid (RQ.ext HSS.out HZZ.out HHL.out hx)
                          have HHM := hid (RQ.ext HSS.out HZZ.out HHM.out hx)
                          have HHU := hid (RQ.ext HSS.out HZZ.out HHU.out hx)
                          have HH12 := hid (RQ.ext HSS.out HZZ.out HH12.out hx)
                          have HGC := hid (gb_trans HGC.out (gb_of_ext hx o))
                          have HMV := hid (HMV.out.ext hx)
                          have HZZ := hid (Nat.le_trans HZZ.out hx.size)
                          have HH13 := hid hp
                          obtain ⟨a13, c13, rfl⟩ := hp.form
                          obtain ⟨n13, hn13⟩ : ∃ n, n = (normP (u ++ t)).length := ⟨_, rfl⟩
                          rw [← hn13] at HH13 ⊢
                          clear hx hp hn13
                          have HKT := HCKP.out w13 s1 _ (normP (m ++ negP l)) _ _ HMV.out HZZ.out HH12.out HFR2.out (by have := HBD.out; omega) (by have := HTM.out; omega)
                          rw [HK1.out] at HKT
                          have HKT1 := hid HKT
                          clear HKT
                          go_wp2_with fail
                          with_reducible refine HKT1.out.mono ?_
                          rintro e w14 ⟨rfl, hm, hg⟩
                          have HVH := hid (RQ.on HSS.out HZZ.out HOO.out HVH.out hg)
                          have HGG := hid (RQ.on HSS.out HZZ.out HOO.out HGG.out hg)
                          have HQ := hid (RQ.on HSS.out HZZ.out HOO.out HQ.out hg)
                          have HRR := hid (RQ.on HSS.out HZZ.out HOO.out HRR.out hg)
                          have HH5 := hid (RQ.on HSS.out HZZ.out HOO.out HH5.out hg)
                          have HH7 := hid (RQ.on HSS.out HZZ.out HOO.out HH7.out hg)
                          have HHT := hid (RQ.on HSS.out HZZ.out HOO.out HHT.out hg)
                          have HHL := hid (RQ.on HSS.out HZZ.out HOO.out HHL.out hg)
                          have HHM := hid (RQ.on HSS.out HZZ.out HOO.out HHM.out hg)
                          have HHU := hid (RQ.on HSS.out HZZ.out HOO.out HHU.out hg)
                          have HH12 := hid (RQ.on HSS.out HZZ.out HOO.out HH12.out hg)
                          have HH13 := hid (RQ.on HSS.out HZZ.out HOO.out HH13.out hg)
                          have HGC := hid (gb_trans HGC.out hg)
                          have HMV := hid hm
                          have HZZ := hid (Nat.le_trans HZZ.out hg.size)
                          clear hm hg HKT1
                          go_wp2
                          all_goals
                            refine bodyPost_ret (v := .tuple #[.slice none 0 0, .slice none 0 0, .int .i64 0, .int .i64 c2]) (by simp [results, Tryz.results20, go_sem]) rfl ?_
                            rw [HRE.out]; exact ⟨_, _, rfl, HMV.out, gb_trans HG2.out HGC.out, RTs.nilv _ _ _ _ (by decide), RTs.nilv _ _ _ _ (by decide)⟩
                        · have hc2e : c2 = 0 := Decidable.not_not.1 hc2
                          subst hc2e
                          have HS2 := hid (HE1.out rfl)
                          have HC2 := hid hc2
                          clear hc2
                          cases hk2 : mkeep o s1 (normP (u ++ t)) with
                          | mk c3 s3 =>
                            have HK2 := hid hk2
                            have HE2 : Hid (c3 = 0 → s3 = s1) := hid (fun h => by have := mkeep_ok (o := o) (s := s1) (p := (normP (u ++ t))) (by rw [hk2]; exact h); rw [hk2] at this; exact this)
                            clear hk2
                            by_cases hc3 : c3 ≠ 0
                            · have q4 : (c3 != 0) = true := by rw [bne_iff_ne]; exact hc3
                              have HRE : Hid (R = ⟨c3, [], [], 0, s3⟩) := hid (by rw [← HR.out, runD_succ, if_neg HSTOP.out, stepO_keep2 (x := (normP (u ++ t), normP (m ++ negP l))) HMS.out HC1.out HSD.out HK1.out HC2.out HK2.out hc3])
                              clear hc3
                              go_wp2_with fail
                              with_reducible refine (rq_sub HSS.out HZZ.out HHM.out HHL.out HFM.out HFL.out (by have := HBD.out; omega) (by have := HBD.out; omega) (by have := HTM.out; omega)).mono ?_
                              rintro e w12 ⟨v12, rfl, hp, hx⟩
                              have HVH := hid (RQ.ext HSS.out HZZ.out HVH.out hx)
                              have HGG := hid (RQ.ext HSS.out HZZ.out HGG.out hx)
                              have HQ := hid (RQ.ext HSS.out HZZ.out HQ.out hx)
                              have HRR := hid (RQ.ext HSS.out HZZ.out HRR.out hx)
                              have HH5 := hid (RQ.ext HSS.out HZZ.out HH5.out hx)
                              have HH7 := hid (RQ.ext HSS.out HZZ.out HH7.out hx)
                              have HHT := hid (RQ.ext HSS.out HZZ.out HHT.out hx)
                              have HHL := hid (RQ.ext HSS.out HZZ.out HHL.out hx)
                              have HHM := hid (RQ.ext HSS.out HZZ.out HHM.out hx)
                              have HHU := hid (RQ.ext HSS.out HZZ.out HHU.out hx)
                              have HGC := hid (gb_trans HGC.out (gb_of_ext hx o))
                              have HMV := hid (HMV.out.ext hx)
                              have HZZ := hid (Nat.le_trans HZZ.out hx.size)
                              have HH12 := hid hp
                              obtain ⟨a12, c12, rfl⟩ := hp.form
                              obtain ⟨n12, hn12⟩ : ∃ n, n = (normP (m ++ negP l)).length := ⟨_, rfl⟩
                              rw [← hn12] at HH12 ⊢
                              clear hx hp hn12
                              go_wp2_with fail
                              with_reducible refine (rq_add HSS.out HZZ.out HHU.out HHT.out HFU.out HFT.out (by have := HBD.out; omega) (by have := HBD.out; omega) (by have := HTM.out; omega)).mono ?_
                              rintro e w13 ⟨v13, rfl, hp, hx⟩
                              have HVH := hid (RQ.ext HSS.out HZZ.out HVH.out hx)
                              have HGG := hid (RQ.ext HSS.out HZZ.out HGG.out hx)
                              have HQ := hid (RQ.ext HSS.out HZZ.out HQ.out hx)
                              have HRR := hid (RQ.ext HSS.out HZZ.out HRR.out hx)
                              have HH5 := hid (RQ.ext HSS.out HZZ.out HH5.out hx)
                              have HH7 := hid (RQ.ext HSS.out HZZ.out HH7.out hx)
                              have HHT := hid (RQ.ext HSS.out HZZ.out HHT.out hx)
                              have HHL := hid (RQ.ext HSS.out HZZ.out HHL.out hx)
                              have HHM := hid (RQ.ext HSS.out HZZ.out HHM.out hx)
                              have HHU := hid (RQ.ext HSS.out HZZ.out HHU.out hx)
                              have HH12 := hid (RQ.ext HSS.out HZZ.out HH12.out hx)
                              have HGC := hid (gb_trans HGC.out (gb_of_ext hx o))
                              have HMV := hid (HMV.out.ext hx)
                              have HZZ := hid (Nat.le_trans HZZ.out hx.size)
                              have HH13 := hid hp
                              obtain ⟨a13, c13, rfl⟩ := hp.form
                              obtain ⟨n13, hn13⟩ : ∃ n, n = (normP (u ++ t)).length := ⟨_, rfl⟩
                              rw [← hn13] at HH13 ⊢
                              clear hx hp hn13
                              have HKT := HCKP.out w13 s1 _ (normP (m ++ negP l)) _ _ HMV.out HZZ.out HH12.out HFR2.out (by have := HBD.out; omega) (by have := HTM.out; omega)
                              rw [HK1.out] at HKT
                              have HKT1 := hid HKT
                              clear HKT
                              go_wp2_with fail
                              with_reducible refine HKT1.out.mono ?_
                              rintro e w14 ⟨rfl, hm, hg⟩
                              have HVH := hid (RQ.on HSS.out HZZ.out HOO.out HVH.out hg)
                              have HGG := hid (RQ.on HSS.out HZZ.out HOO.out HGG.out hg)
                              have HQ := hid (RQ.on HSS.out HZZ.out HOO.out HQ.out hg)
                              have HRR := hid (RQ.on HSS.out HZZ.out HOO.out HRR.out hg)
                              have HH5 := hid (RQ.on HSS.out HZZ.out HOO.out HH5.out hg)
                              have HH7 := hid (RQ.on HSS.out HZZ.out HOO.out HH7.out hg)
                              have HHT := hid (RQ.on HSS.out HZZ.out HOO.out HHT.out hg)
                              have HHL := hid (RQ.on HSS.out HZZ.out HOO.out HHL.out hg)
                              have HHM := hid (RQ.on HSS.out HZZ.out HOO.out HHM.out hg)
                              have HHU := hid (RQ.on HSS.out HZZ.out HOO.out HHU.out hg)
                              have HH12 := hid (RQ.on HSS.out HZZ.out HOO.out HH12.out hg)
                              have HH13 := hid (RQ.on HSS.out HZZ.out HOO.out HH13.out hg)
                              have HGC := hid (gb_trans HGC.out hg)
                              have HMV := hid hm
                              have HZZ := hid (Nat.le_trans HZZ.out hg.size)
                              clear hm hg HKT1
                              have HMV : Hid (RMV _ o s1) := hid (by have h := HMV.out; rw [HS2.out] at h; exact h)
                              have HKT := HCKP.out w14 s1 _ (normP (u ++ t)) _ _ HMV.out HZZ.out HH13.out HFQ2.out (by have := HBD.out; omega) (by have := HTM.out; omega)
                              rw [HK2.out] at HKT
                              have HKT1 := hid HKT
                              clear HKT
                              go_wp2_with fail
                              with_reducible refine HKT1.out.mono ?_
                              rintro e w15 ⟨rfl, hm, hg⟩
                              have HVH := hid (RQ.on HSS.out HZZ.out HOO.out HVH.out hg)
                              have HGG := hid (RQ.on HSS.out HZZ.out HOO.out HGG.out hg)
                              have HQ := hid (RQ.on HSS.out HZZ.out HOO.out HQ.out hg)
                              have HRR := hid (RQ.on HSS.out HZZ.out HOO.out HRR.out hg)
                              have HH5 := hid (RQ.on HSS.out HZZ.out HOO.out HH5.out hg)
                              have HH7 := hid (RQ.on HSS.out HZZ.out HOO.out HH7.out hg)
                              have HHT := hid (RQ.on HSS.out HZZ.out HOO.out HHT.out hg)
                              have HHL := hid (RQ.on HSS.out HZZ.out HOO.out HHL.out hg)
                              have HHM := hid (RQ.on HSS.out HZZ.out HOO.out HHM.out hg)
                              have HHU := hid (RQ.on HSS.out HZZ.out HOO.out HHU.out hg)
                              have HH12 := hid (RQ.on HSS.out HZZ.out HOO.out HH12.out hg)
                              have HH13 := hid (RQ.on HSS.out HZZ.out HOO.out HH13.out hg)
                              have HGC := hid (gb_trans HGC.out hg)
                              have HMV := hid hm
                              have HZZ := hid (Nat.le_trans HZZ.out hg.size)
                              clear hm hg HKT1
                              go_wp2
                              all_goals
                                refine bodyPost_ret (v := .tuple #[.slice none 0 0, .slice none 0 0, .int .i64 0, .int .i64 c3]) (by simp [results, Tryz.results20, go_sem]) rfl ?_
                                rw [HRE.out]; exact ⟨_, _, rfl, HMV.out, gb_trans HG2.out HGC.out, RTs.nilv _ _ _ _ (by decide), RTs.nilv _ _ _ _ (by decide)⟩
                            · have hc3e : c3 = 0 := Decidable.not_not.1 hc3
                              subst hc3e
                              have HS3 := hid (HE2.out rfl)
                              have HRE : Hid (runD o true g h v d k1 s1 (normP (u ++ t)) (normP (m ++ negP l)) (n + 1) = R) := hid (by rw [← HR.out, runD_succ, if_neg HSTOP.out, stepO_ok (x := (normP (u ++ t), normP (m ++ negP l))) HMS.out HC1.out HSD.out HK1.out HC2.out HK2.out hc3])
                              have HSDG : Hid (degP (normP (m ++ negP l)) v < degP r v) := hid (stepD_deg (keep := true) (g := g) (q := q) (r := r) (v := v) (x := (normP (u ++ t), normP (m ++ negP l))) HFG.out.can HFN.out.2.can HR0'.out HV.out (by rw [← HD2.out]; exact HDD.out) (by rw [← HD2.out]; exact HLE.out) (by rw [← HD2.out, ← HH2.out]; exact HSD.out)).2
                              have HFN2 : Hid (FitRun o true g h v d B M k1 s1 (normP (u ++ t)) (normP (m ++ negP l))) := hid (by
                                have h1 := HF.out.2.2 HR0'.out HLE.out (by rw [HMS.out]; exact Decidable.not_not.1 HC1.out) (normP (u ++ t), normP (m ++ negP l)) HSD.out (by rw [HMS.out, HK1.out]) (by rw [HMS.out, HK2.out])
                                rw [HMS.out] at h1
                                exact h1)
                              clear hc3
                              go_wp2_with fail
                              with_reducible refine (rq_sub HSS.out HZZ.out HHM.out HHL.out HFM.out HFL.out (by have := HBD.out; omega) (by have := HBD.out; omega) (by have := HTM.out; omega)).mono ?_
                              rintro e w12 ⟨v12, rfl, hp, hx⟩
                              have HVH := hid (RQ.ext HSS.out HZZ.out HVH.out hx)
                              have HGG := hid (RQ.ext HSS.out HZZ.out HGG.out hx)
                              have HQ := hid (RQ.ext HSS.out HZZ.out HQ.out hx)
                              have HRR := hid (RQ.ext HSS.out HZZ.out HRR.out hx)
                              have HH5 := hid (RQ.ext HSS.out HZZ.out HH5.out hx)
                              have HH7 := hid (RQ.ext HSS.out HZZ.out HH7.out hx)
                              have HHT := hid (RQ.ext HSS.out HZZ.out HHT.out hx)
                              have HHL := hid (RQ.ext HSS.out HZZ.out HHL.out hx)
                              have HHM := hid (RQ.ext HSS.out HZZ.out HHM.out hx)
                              have HHU := hid (RQ.ext HSS.out HZZ.out HHU.out hx)
                              have HGC := hid (gb_trans HGC.out (gb_of_ext hx o))
                              have HMV := hid (HMV.out.ext hx)
                              have HZZ := hid (Nat.le_trans HZZ.out hx.size)
                              have HH12 := hid hp
                              obtain ⟨a12, c12, rfl⟩ := hp.form
                              obtain ⟨n12, hn12⟩ : ∃ n, n = (normP (m ++ negP l)).length := ⟨_, rfl⟩
                              rw [← hn12] at HH12 ⊢
                              clear hx hp hn12
                              go_wp2_with fail
                              with_reducible refine (rq_add HSS.out HZZ.out HHU.out HHT.out HFU.out HFT.out (by have := HBD.out; omega) (by have := HBD.out; omega) (by have := HTM.out; omega)).mono ?_
                              rintro e w13 ⟨v13, rfl, hp, hx⟩
                              have HVH := hid (RQ.ext HSS.out HZZ.out HVH.out hx)
                              have HGG := hid (RQ.ext HSS.out HZZ.out HGG.out hx)
                              have HQ := hid (RQ.ext HSS.out HZZ.out HQ.out hx)
                              have HRR := hid (RQ.ext HSS.out HZZ.out HRR.out hx)
                              have HH5 := hid (RQ.ext HSS.out HZZ.out HH5.out hx)
                              have HH7 := hid (RQ.ext HSS.out HZZ.out HH7.out hx)
                              have HHT := hid (RQ.ext HSS.out HZZ.out HHT.out hx)
                              have HHL := hid (RQ.ext HSS.out HZZ.out HHL.out hx)
                              have HHM := hid (RQ.ext HSS.out HZZ.out HHM.out hx)
                              have HHU := hid (RQ.ext HSS.out HZZ.out HHU.out hx)
                              have HH12 := hid (RQ.ext HSS.out HZZ.out HH12.out hx)
                              have HGC := hid (gb_trans HGC.out (gb_of_ext hx o))
                              have HMV := hid (HMV.out.ext hx)
                              have HZZ := hid (Nat.le_trans HZZ.out hx.size)
                              have HH13 := hid hp
                              obtain ⟨a13, c13, rfl⟩ := hp.form
                              obtain ⟨n13, hn13⟩ : ∃ n, n = (normP (u ++ t)).length := ⟨_, rfl⟩
                              rw [← hn13] at HH13 ⊢
                              clear hx hp hn13
                              have HKT := HCKP.out w13 s1 _ (normP (m ++ negP l)) _ _ HMV.out HZZ.out HH12.out HFR2.out (by have := HBD.out; omega) (by have := HTM.out; omega)
                              rw [HK1.out] at HKT
                              have HKT1 := hid HKT
                              clear HKT
                              go_wp2_with fail
                              with_reducible refine HKT1.out.mono ?_
                              rintro e w14 ⟨rfl, hm, hg⟩
                              have HVH := hid (RQ.on HSS.out HZZ.out HOO.out HVH.out hg)
                              have HGG := hid (RQ.on HSS.out HZZ.out HOO.out HGG.out hg)
                              have HQ := hid (RQ.on HSS.out HZZ.out HOO.out HQ.out hg)
                              have HRR := hid (RQ.on HSS.out HZZ.out HOO.out HRR.out hg)
                              have HH5 := hid (RQ.on HSS.out HZZ.out HOO.out HH5.out hg)
                              have HH7 := hid (RQ.on HSS.out HZZ.out HOO.out HH7.out hg)
                              have HHT := hid (RQ.on HSS.out HZZ.out HOO.out HHT.out hg)
                              have HHL := hid (RQ.on HSS.out HZZ.out HOO.out HHL.out hg)
                              have HHM := hid (RQ.on HSS.out HZZ.out HOO.out HHM.out hg)
                              have HHU := hid (RQ.on HSS.out HZZ.out HOO.out HHU.out hg)
                              have HH12 := hid (RQ.on HSS.out HZZ.out HOO.out HH12.out hg)
                              have HH13 := hid (RQ.on HSS.out HZZ.out HOO.out HH13.out hg)
                              have HGC := hid (gb_trans HGC.out hg)
                              have HMV := hid hm
                              have HZZ := hid (Nat.le_trans HZZ.out hg.size)
                              clear hm hg HKT1
                              have HMV : Hid (RMV _ o s1) := hid (by have h := HMV.out; rw [HS2.out] at h; exact h)
                              have HKT := HCKP.out w14 s1 _ (normP (u ++ t)) _ _ HMV.out HZZ.out HH13.out HFQ2.out (by have := HBD.out; omega) (by have := HTM.out; omega)
                              rw [HK2.out] at HKT
                              have HKT1 := hid HKT
                              clear HKT
                              go_wp2_with fail
                              with_reducible refine HKT1.out.mono ?_
                              rintro e w15 ⟨rfl, hm, hg⟩
                              have HVH := hid (RQ.on HSS.out HZZ.out HOO.out HVH.out hg)
                              have HGG := hid (RQ.on HSS.out HZZ.out HOO.out HGG.out hg)
                              have HQ := hid (RQ.on HSS.out HZZ.out HOO.out HQ.out hg)
                              have HRR := hid (RQ.on HSS.out HZZ.out HOO.out HRR.out hg)
                              have HH5 := hid (RQ.on HSS.out HZZ.out HOO.out HH5.out hg)
                              have HH7 := hid (RQ.on HSS.out HZZ.out HOO.out HH7.out hg)
                              have HHT := hid (RQ.on HSS.out HZZ.out HOO.out HHT.out hg)
                              have HHL := hid (RQ.on HSS.out HZZ.out HOO.out HHL.out hg)
                              have HHM := hid (RQ.on HSS.out HZZ.out HOO.out HHM.out hg)
                              have HHU := hid (RQ.on HSS.out HZZ.out HOO.out HHU.out hg)
                              have HH12 := hid (RQ.on HSS.out HZZ.out HOO.out HH12.out hg)
                              have HH13 := hid (RQ.on HSS.out HZZ.out HOO.out HH13.out hg)
                              have HGC := hid (gb_trans HGC.out hg)
                              have HMV := hid hm
                              have HZZ := hid (Nat.le_trans HZZ.out hg.size)
                              clear hm hg HKT1
                              have HMV : Hid (RMV _ o s1) := hid (by have h := HMV.out; rw [HS3.out] at h; exact h)
                              go_wp2
                              go_roundw
                              case rel => have HKQN : Hid (true = false → normP (u ++ t) = []) := hid (fun h => (by cases h)); exact ⟨k1, s1, normP (u ++ t), normP (m ++ negP l), n + 1, by go_num, HGC, HRE, by show _ < _; have h1 := HSDG.out; have h2 := HDG.out; omega, HFN2, HH13, HH12, HMV, by show _ = _; have := HNK.out; omega, HKQN⟩
                              case measure => simp only [intOf]; have := HNK.out; omega
end Go.Proofs.YtcpfeepnfodifaaGreat

namespace Go.Proofs.YtcpfeepnfodifaaGreat
open Go.RowKit

def bigT8 (t : RTerm) : Bool := decide (8 < t.c.mag.length) || t.m.any fun x => decide (8 < x.2)
def great12 (ts : List RTerm) : Bool := greatT 8 ts || ts.any bigT8

set_option maxRecDepth 100000 in
set_option maxHeartbeats 8000000 in
theorem law12_great {W : World} (v : Value) (ts : List RTerm) (x : Int) (h : Terms (Old W) W v ts) :
    Calls Tryz.prog 12 #[v, .int .i64 x] W fun e w' => e = .returned (.bool (great12 ts)) ∧ Ext W w' := by
  have H := hid h
  have hl := h.len_le
  have C := rpoly_great (S := Old W) v ts 8 W h (fun _ h => h) (by omega)
  obtain ⟨a, cap, rfl⟩ := h.form
  clear h
  cases hg : greatT 8 ts with
  | true =>
    rw [hg] at C
    have HF : Hid (great12 ts = true) := hid (by unfold great12; rw [hg]; rfl)
    have HC := hid C
    clear C hg
    go_enter Tryz.func12, Tryz.ntmps12
    go_wp2_with fail
    with_reducible refine HC.out.mono ?_
    rintro e w1 ⟨rfl, hx1⟩
    have HX1 := hid hx1
    clear hx1
    go_wp2
    all_goals
      go_ret
      exact ⟨by rw [HF.out]; rfl, HX1.out⟩
  | false =>
    rw [hg] at C
    have HF : Hid (great12 ts = ts.any bigT8) := hid (by unfold great12; rw [hg]; rfl)
    have HC := hid C
    clear C hg
    go_enter Tryz.func12, Tryz.ntmps12
    go_wp2_with fail
    with_reducible refine HC.out.mono ?_
    rintro e w1 ⟨rfl, hx1⟩
    have HX1 := hid hx1
    clear hx1
    go_wp2
    go_loopw [11] (fun i wr => ∃ k : Nat, k ≤ ts.length ∧ i = .int .i64 k ∧ Ext w1 wr ∧ Hid ((ts.take k).any bigT8 = false)) (fun i _ => ts.length - (intOf i).toNat)
    case atStart => exact ⟨0, Nat.zero_le _, rfl, Ext.refl _, hid rfl⟩
    case round =>
      obtain ⟨k, hk, rfl, hx, HM⟩ := hrel
      have HX := hid (HX1.out.trans hx)
      have HXR := hid hx
      by_cases hlt : k < ts.length
      · obtain ⟨t, ht⟩ := some_of_lt hlt
        obtain ⟨b, off, vm, vo, rfl, -, hq1, hm1, hSb, h1, h2, h3, h4, h5⟩ := (Terms.on H.out HX.out).cellAt ht
        have HT : Hid (ts.take (k + 1) = ts.take k ++ [t]) := hid (by rw [List.take_add_one, ht]; rfl)
        have HQ := hid (List.mem_of_getElem? ht)
        have hl1 := h4.len_le
        have hl2 := h5.len_le
        have H5 := hid h5
        obtain ⟨am, cm, rfl⟩ := h4.form
        obtain ⟨ao, co, rfl⟩ := h5.form
        obtain ⟨x1, hx1⟩ : ∃ n, n = t.c.mag.length := ⟨_, rfl⟩
        obtain ⟨y1, hy1⟩ : ∃ n, n = t.m.length := ⟨_, rfl⟩
        have HX1' := hid hx1
        have HY1 := hid hy1
        rw [← hx1] at h2 hl1
        rw [← hy1] at h3 hl2 H5
        have HC3 := hid h3
        clear hx ht h1 h4 h5 hx1 hy1
        by_cases hbig : 8 < x1
        · have HFT : Hid (great12 ts = true) := hid (by rw [HF.out]; exact List.any_eq_true.2 ⟨t, HQ.out, by unfold bigT8; rw [← HX1'.out, decide_eq_true hbig]; rfl⟩)
          go_wp2
          all_goals
            go_ret
            exact ⟨by rw [HFT.out]; rfl, HX.out⟩
        · have HNB : Hid (decide (8 < t.c.mag.length) = false) := hid (by rw [← HX1'.out]; exact decide_eq_false hbig)
          have hle : (x1 : Int) ≤ 8 := by omega
          clear hbig
          go_wp2
          go_loopw [28] (fun j wx => ∃ m : Nat, m ≤ y1 ∧ j = .int .i64 m ∧ Ext wr wx ∧ Hid ((t.m.take m).any (fun x => decide (8 < x.2)) = false)) (fun j _ => y1 - (intOf j).toNat)
          case atStart => exact ⟨0, Nat.zero_le _, rfl, Ext.refl _, hid rfl⟩
          case round =>
            obtain ⟨m, hm, rfl, hx2, HM2⟩ := hrel
            have HX2 := hid (HX.out.trans hx2)
            have HX2' := hid hx2
            have g3 := hx2.cell HC3.out
            by_cases hlt2 : m < y1
            · obtain ⟨z, hz⟩ := some_of_lt (l := t.m) (j := m) (by rw [← HY1.out]; exact hlt2)
              obtain ⟨bo, oo, rfl, -, hn2, hm2, -, ⟨hz0, hz1⟩, k1, k2⟩ := (Pows.on H5.out hx2).cellAt hz
              have HZ : Hid (t.m.take (m + 1) = t.m.take m ++ [z]) := hid (by rw [List.take_add_one, hz]; rfl)
              have HZQ := hid (List.mem_of_getElem? hz)
              obtain ⟨z2, hz2⟩ : ∃ n, n = z.2 := ⟨_, rfl⟩
              have HZ2 := hid hz2
              rw [← hz2] at k2 hz1
              obtain ⟨hz3, hz4⟩ := hz1
              clear hz hx2 k1 hz0 hz2
              by_cases hb2 : 8 < z2
              · have HFT : Hid (great12 ts = true) := hid (by
                  rw [HF.out]
                  refine List.any_eq_true.2 ⟨t, HQ.out, ?_⟩
                  unfold bigT8
                  rw [List.any_eq_true.2 ⟨z, HZQ.out, by rw [← HZ2.out]; exact decide_eq_true hb2⟩, Bool.or_true])
                go_wp2
                all_goals
                  go_ret
                  exact ⟨by rw [HFT.out]; rfl, HX2.out⟩
              · have hle2 : z2 ≤ 8 := by omega
                have HND : Hid (decide (8 < z.2) = false) := hid (by rw [← HZ2.out]; exact decide_eq_false hb2)
                clear hb2
                go_wp2
                go_roundw
                case rel => exact ⟨m + 1, by omega, by go_num, HX2'.out, hid (by rw [HZ.out, List.any_append, HM2.out]; simp only [List.any_cons, List.any_nil, HND.out]; rfl)⟩
                case measure => simp only [intOf]; omega
            · obtain rfl : m = y1 := by omega
              have HNE : Hid (t.m.any (fun x => decide (8 < x.2)) = false) := hid (by have := HM2.out; rw [HY1.out, List.take_length] at this; exact this)
              clear hx2
              go_wp2
              go_roundw
              case rel => exact ⟨k + 1, by omega, by go_num, HXR.out.trans HX2'.out, hid (by rw [HT.out, List.any_append, HM.out]; simp only [List.any_cons, List.any_nil, bigT8, HNB.out, HNE.out]; rfl)⟩
              case measure => simp only [intOf]; omega
      · obtain rfl : k = ts.length := by omega
        have HFE : Hid (great12 ts = false) := hid (by rw [HF.out]; have := HM.out; rw [List.take_length] at this; exact this)
        clear hx
        go_wp2
        all_goals
          go_ret
          exact ⟨by rw [HFE.out]; rfl, HX.out⟩
end Go.Proofs.YtcpfeepnfodifaaGreat

namespace Go.Proofs.YtcpfeepnfodifaaGreat
open Go.RowKit

set_option maxRecDepth 100000 in
set_option maxHeartbeats 4000000 in
theorem z_one {W : World} {vz : Value} {ng : Bool} (hz : U32s (Old W) W vz (ofI 1).mag) (hng : ng = (ofI 1).neg) :
    Calls Tryz.prog 75 #[.agg #[.bool ng, vz]] W fun e w' => ∃ v', e = .returned v' ∧ Terms (New W w') w' v' (ofP [(1, [])]) ∧ Ext W w' := by
  have e1 : toP [⟨ofI 1, []⟩] = [((1 : Int), ([] : Mono))] := by unfold toP; simp [valI_ofI]
  have e2 : normP [((1 : Int), ([] : Mono))] = [(1, [])] := by rw [norm_one]; rfl
  have CC := fun (Y : World) (hY : Ext W Y) => poly_collect (S := Old (Y.alloc (.cells #[.bool (ofI 1).neg, vz, .slice none 0 0] 104))) (.slice (some ⟨Y.heap.size, 0, none⟩) 1 1) [⟨ofI 1, []⟩] (Y.alloc (.cells #[.bool (ofI 1).neg, vz, .slice none 0 0] 104)) 1000000
    (one_terms (t := ⟨ofI 1, []⟩) ((hz.ext hY (fun _ h => h)).to (Kept.refl _ _) (fun k h => Nat.lt_of_lt_of_le h hY.size)) (Pows.empty _ _ _) 104) (fun _ h => h) (fun t ht => by rw [List.mem_singleton.1 ht]; rfl) (fun t ht => by rw [List.mem_singleton.1 ht]; show (ofI 1).mag.length ≤ _; rw [ofI_len]; exact Nat.le_trans (lenI_small (by decide)) (by decide)) (by decide) (by simp)
  simp only [e1, e2] at CC
  rw [← hng] at CC
  obtain ⟨az, cz, rfl⟩ := hz.form
  obtain ⟨nz, hnz⟩ : ∃ n, n = (ofI 1).mag.length := ⟨_, rfl⟩
  rw [← hnz] at CC ⊢
  have HC := hid CC
  have HXA := hid (Ext.alloc (Ext.refl W) (.cells #[.bool ng, .slice az nz cz] 94))
  have HC0 := HC.out _ HXA.out
  rw [size_alloc] at HC0
  have HC1 := hid HC0
  clear HC0 hz hng CC e1 e2 hnz
  go_enter Tryz.func75, Tryz.ntmps75
  go_wp2_with fail
  with_reducible refine HC1.out.mono ?_
  rintro e w2 ⟨v2, rfl, hp2, hx2⟩
  have HX2 := hid ((HXA.out.alloc _).trans hx2)
  have HP2 := hid (hp2.to (S' := New W w2) (Kept.refl _ _) (fun k h => ⟨Nat.le_trans (HXA.out.alloc _).size h.1, h.2⟩))
  clear hp2 hx2
  go_wp2
  all_goals
    go_ret
    exact ⟨_, rfl, HP2.out, HX2.out⟩

theorem powN_none {h : PZ} {k n : Nat} (hk : powN h k = none) (hn : k ≤ n) : powN h n = none := by
  induction n with
  | zero => obtain rfl : k = 0 := by omega
            exact hk
  | succ n ih =>
    rcases Nat.lt_or_ge k (n + 1) with h1 | h1
    · rw [powN, ih (by omega)]
    · obtain rfl : k = n + 1 := by omega
      exact hk

set_option maxRecDepth 100000 in
set_option maxHeartbeats 8000000 in
theorem z_pow {W : World} {u : Value} {h : PZ} {A T n : Nat} (hp : PV W u h) (fh : Fit A T h) (hA : A < 24) (hT : 1 ≤ T) (hn : n ≤ 100) (hTn : T ^ n ≤ 1000000000000) :
    Calls Tryz.prog 25 #[u, .int .i64 (n : Nat)] W (TimesPost W (powN h n)) := by
  have hnot : ∀ (x : Bool) (w : World), (Op.unary .not (.bool x)).run Tryz.prog w = .ok (.bool (!x)) w := fun _ _ => rfl
  have C1 := hid (z_may hp fh (by omega))
  have C2 := hid (fun (Y : World) => whole_of 1 Y (by decide))
  have HP := hid hp
  have HF := hid fh
  have HAA := hid hA
  have HTT := hid hT
  have HTN := hid hTn
  obtain ⟨R, hR⟩ : ∃ R, R = powN h n := ⟨_, rfl⟩
  rw [← hR]
  have HR := hid hR
  obtain ⟨a, c, rfl⟩ := hp.form
  obtain ⟨nh, hnh⟩ : ∃ n, n = (ofP h).length := ⟨_, rfl⟩
  rw [← hnh] at HP C1 ⊢
  clear hp fh hnh hR hA hT hTn
  go_enter Tryz.func25, Tryz.ntmps25
  go_wp2_with fail
  with_reducible refine C1.out.mono ?_
  rintro e w1 ⟨rfl, hx1⟩
  have HX1 := hid hx1
  clear hx1
  go_wp2_with fail
  with_reducible refine (C2.out _).mono ?_
  rintro e w2 ⟨v2, rfl, ⟨vz, rfl, hz⟩, hx2⟩
  have HX2 := hid (HX1.out.trans hx2)
  have C3 := z_one (W := w2) (vz := vz) (ng := (ofI 1).neg) (hz.to (Kept.refl _ _) New.lt) rfl
  obtain ⟨az, cz, rfl⟩ := hz.form
  obtain ⟨nz, hnz⟩ : ∃ n, n = (ofI 1).mag.length := ⟨_, rfl⟩
  obtain ⟨ng, hng⟩ : ∃ n, n = (ofI 1).neg := ⟨_, rfl⟩
  rw [← hnz, ← hng] at C3 ⊢
  have HC3 := hid C3
  clear hz hx2 hnz hng C3
  go_wp2_with fail
  with_reducible refine HC3.out.mono ?_
  rintro e w3 ⟨v3, rfl, hp3, hx3⟩
  have HX3 := hid (HX2.out.trans hx3)
  have HP3 := hid (hp3.to (S' := New W w3) (Kept.refl _ _) (fun k h => ⟨Nat.le_trans HX2.out.size h.1, h.2⟩))
  clear hp3 hx3
  go_wp2
  go_loopw [6, 22] (fun o i wr => ∃ (k : Nat) (P : PZ), k ≤ n ∧ i = .int .i64 (k : Nat) ∧ Ext W wr ∧ Hid (powN h k = some P) ∧ Hid (Terms (New W wr) wr o (ofP P))) (fun _ i _ => n - (intOf i).toNat)
  case atStart => exact ⟨0, [(1, [])], Nat.zero_le _, rfl, HX3.out, rfl, HP3⟩
  case round =>
    obtain ⟨k, P, hk, rfl, hx, HPK, HO⟩ := hrel
    have HX := hid hx
    by_cases hlt : k < n
    · have hle : T ^ k ≤ T ^ n := Nat.pow_le_pow_right HTT.out (by omega)
      have hle2 : T ^ (k + 1) ≤ T ^ n := Nat.pow_le_pow_right HTT.out (by omega)
      have fP := powN_fit HF.out HTT.out k P (Nat.le_trans hle HTN.out) HPK.out
      have hkA : 1 + k * (A + 2) ≤ 10000 := by
        have h1 : k * (A + 2) ≤ 100 * 26 := Nat.mul_le_mul (by omega) (by have := HAA.out; omega)
        omega
      have CT := z_times (HO.out.to (S' := Old wr) (Kept.refl _ _) New.lt) (Terms.on HP.out hx) fP HF.out (.inr HAA.out) (by omega) (by have := HAA.out; omega) (by rw [← Nat.pow_succ]; exact Nat.le_trans hle2 HTN.out)
      have HPS : Hid (powN h (k + 1) = timesP P h) := hid (by rw [powN, HPK.out])
      obtain ⟨Q, hQ⟩ : ∃ Q, Q = timesP P h := ⟨_, rfl⟩
      rw [← hQ] at CT HPS
      have HCT := hid CT
      obtain ⟨ao, co, rfl⟩ := HO.out.form
      obtain ⟨no, hno⟩ : ∃ n, n = (ofP P).length := ⟨_, rfl⟩
      rw [← hno] at HO HCT ⊢
      clear hle hle2 fP hkA CT hQ hno hx
      cases Q with
      | none =>
        have HRN : Hid (R = none) := hid (by rw [HR.out]; exact powN_none HPS.out (by omega))
        go_wp2_with fail
        with_reducible refine HCT.out.mono ?_
        rintro e w4 ⟨rfl, hx4⟩
        have HX4 := hid (HX.out.trans hx4)
        clear hx4
        go_wp2
        all_goals
          go_ret2
          rw [HRN.out]
          exact ⟨rfl, HX4.out⟩
      | some Q =>
        go_wp2_with fail
        with_reducible refine HCT.out.mono ?_
        rintro e w4 ⟨v4, rfl, hp4, hx4⟩
        have HX4 := hid (HX.out.trans hx4)
        have HP4 := hid (hp4.to (S' := New W w4) (Kept.refl _ _) (fun k h => ⟨Nat.le_trans HX.out.size h.1, h.2⟩))
        clear hx4 hp4
        go_wp2
        go_roundw
        case rel => exact ⟨k + 1, Q, by omega, by go_num, HX4.out, HPS, HP4⟩
        case measure => simp only [intOf]; omega
    · obtain rfl : k = n := by omega
      have HRS : Hid (R = some P) := hid (by rw [HR.out]; exact HPK.out)
      clear hx
      go_wp2
      all_goals
        go_ret2
        rw [HRS.out]
        exact ⟨_, rfl, HO.out, HX.out⟩

/-- limbs of the first k terms -/
def limbsT (ts : List RTerm) : Nat → Nat
  | 0 => 0
  | k + 1 => max (limbsT ts k) (ts.getD k default).c.mag.length
theorem limbsT_le {ts : List RTerm} {m : Nat} (h : ∀ t ∈ ts, t.c.mag.length ≤ m) : ∀ k, k ≤ ts.length → limbsT ts k ≤ m
  | 0, _ => Nat.zero_le _
  | k + 1, hk => by
    obtain ⟨t, ht⟩ := some_of_lt (l := ts) (j := k) (by omega)
    have := h t (List.mem_of_getElem? ht)
    have h2 := limbsT_le h k (by omega)
    simp only [limbsT, List.getD, ht, Option.getD_some]
    omega

theorem trim_may {r : RInt} (h : mayI r = true) : trimLen r.mag r.mag.length = r.mag.length := by
  unfold mayI at h
  rcases List.eq_nil_or_concat r.mag with e | ⟨l, z, e⟩
  · rw [e]; rfl
  · rw [e] at h ⊢
    simp at h
    simp [trimLen, List.getD, h]
theorem most_eq (p : PZ) : ∀ k, k ≤ (ofP p).length → mostLimbs (ofP p) k = limbsT (ofP p) k
  | 0, _ => rfl
  | k + 1, hk => by
    obtain ⟨t, ht⟩ := some_of_lt (l := ofP p) (j := k) (by omega)
    obtain ⟨u, hu, rfl⟩ := List.mem_map.1 (List.mem_of_getElem? ht)
    have h2 := most_eq p k (by omega)
    simp only [limbsT, mostLimbs, List.getD, ht, Option.getD_some, h2]
    rw [trim_may (mayI_ofI u.1)]
theorem bnd_most {p : PZ} {m : Nat} (h : mostLimbs (ofP p) (ofP p).length ≤ m) : bndZ m p := fun t ht => by
  have h1 : ∀ k, k ≤ (ofP p).length → ∀ j, j < k → ∀ x, (ofP p)[j]? = some x → x.c.mag.length ≤ limbsT (ofP p) k := by
    intro k
    induction k with
    | zero => intro _ j hj; omega
    | succ k ih =>
      intro hk j hj x hx
      obtain ⟨y, hy⟩ := some_of_lt (l := ofP p) (j := k) (by omega)
      simp only [limbsT, List.getD, hy, Option.getD_some]
      rcases Nat.lt_or_ge j k with h | h
      · have := ih (by omega) j h x hx
        omega
      · obtain rfl : j = k := by omega
        rw [hy] at hx
        cases hx
        omega
  obtain ⟨j, hj⟩ := List.getElem?_of_mem (List.mem_map.2 ⟨t, ht, rfl⟩ : (⟨ofI t.1, t.2⟩ : RTerm) ∈ ofP p)
  have h2 := h1 _ (Nat.le_refl _) j (lt_of_some hj) _ hj
  rw [← most_eq p _ (Nat.le_refl _)] at h2
  have h3 : (ofI t.1).mag.length ≤ m := Nat.le_trans h2 h
  rw [ofI_len] at h3
  exact lenI_mono (Nat.le_refl _) h3

set_option maxRecDepth 100000 in
set_option maxHeartbeats 4000000 in
theorem z_limbs {W : World} {u : Value} {p : PZ} {k n : Nat} (hp : PV W u p) (fp : Fit k n p) (hk : k ≤ 1000000) :
    Calls Tryz.prog 32 #[u] W fun e w' => e = .returned (.int .i64 (limbsT (ofP p) (ofP p).length : Nat)) ∧ Ext W w' := by
  have hnot : ∀ (x : Bool) (w : World), (Op.unary .not (.bool x)).run Tryz.prog w = .ok (.bool (!x)) w := fun _ _ => rfl
  have C1 := hid (z_may hp fp hk)
  have HL := hid (limbsT_le fp.lens)
  have hl := hp.len_le
  have HP : Hid (Terms (Old W) W u (ofP p)) := hid hp
  obtain ⟨a, c, rfl⟩ := hp.form
  clear hp fp
  generalize ofP p = ts at *
  go_enter Tryz.func32, Tryz.ntmps32
  go_wp2_with fail
  with_reducible refine C1.out.mono ?_
  rintro e w1 ⟨rfl, hx1⟩
  have HX1 := hid hx1
  clear hx1
  go_wp2
  go_loopw [2, 10] (fun m i wr => ∃ j : Nat, j ≤ ts.length ∧ i = .int .i64 (j : Nat) ∧ m = .int .i64 (limbsT ts j : Nat) ∧ Ext W wr) (fun _ i _ => ts.length - (intOf i).toNat)
  case atStart => exact ⟨0, Nat.zero_le _, rfl, rfl, HX1.out⟩
  case round =>
    obtain ⟨j, hj, rfl, rfl, hx⟩ := hrel
    have HX := hid hx
    by_cases hlt : j < ts.length
    · obtain ⟨t, ht⟩ := some_of_lt hlt
      obtain ⟨b, off, vm, vo, rfl, -, hq1, hm1, hSb, h1, h2, h3, h4, h5⟩ := (Terms.on HP.out hx).cellAt ht
      have HE : Hid (limbsT ts (j + 1) = max (limbsT ts j) t.c.mag.length) := hid (by simp [limbsT, List.getD, ht])
      have hb1 := HL.out j hj
      have hb2 := HL.out (j + 1) hlt
      rw [HE.out] at hb2
      obtain ⟨am, cm, rfl⟩ := h4.form
      obtain ⟨ao, co, rfl⟩ := h5.form
      obtain ⟨x1, hx1⟩ : ∃ n, n = t.c.mag.length := ⟨_, rfl⟩
      obtain ⟨y1, hy1⟩ : ∃ n, n = t.m.length := ⟨_, rfl⟩
      have HX1' := hid hx1
      rw [← hx1] at h2 hb2
      rw [← hy1] at h3
      obtain ⟨q, hq⟩ : ∃ q, q = limbsT ts j := ⟨_, rfl⟩
      have HQ := hid hq
      rw [← hq] at hb1 hb2 ⊢
      obtain ⟨ng, hng⟩ : ∃ n, n = t.c.neg := ⟨_, rfl⟩
      rw [← hng] at h1
      clear hx ht h4 h5 hx1 hy1 hq hng
      go_wp2
      go_roundw
      case rel => exact ⟨j + 1, by omega, by go_num, by rw [HE.out, ← HX1'.out, ← HQ.out]; congr 1; omega, HX.out.alloc _⟩
      case measure => simp only [intOf]; omega
    · obtain rfl : j = ts.length := by omega
      clear hx
      go_wp2
      all_goals
        go_ret
        exact ⟨rfl, HX.out⟩
end Go.Proofs.YtcpfeepnfodifaaGreat

namespace Go.Proofs.YtcpfeepnfodifaaGreat
open Go.RowKit

theorem ref_new12 (w : World) (a b c d : Int) : RefAt (w.alloc (.cells #[.int .i64 a, .int .i64 b, .int .i64 c, .int .i64 d, .int .i64 0, .int .i64 0, .int .i64 0, .int .i64 0] 85)) w.heap.size (MSt.new a b c d) :=
  ⟨cell_new _ _ _ rfl rfl, cell_new _ _ _ rfl rfl, cell_new _ _ _ rfl rfl, cell_new _ _ _ rfl rfl, cell_new _ _ _ rfl rfl, cell_new _ _ _ rfl rfl, cell_new _ _ _ rfl rfl, cell_new _ _ _ rfl rfl, fun _ => free_new _ _ _⟩
theorem new_okS {a b c d : Int} (h : mayLimits a b c d) : (MSt.new a b c d).Ok := by
  obtain ⟨⟨a0, a1⟩, ⟨b0, b1⟩, ⟨c0, c1⟩, d0, d1⟩ := h
  exact ⟨a0, a1, b0, b1, c0, c1, d0, d1, by show (0 : Int) ≤ 0; decide, a0, by show (0 : Int) ≤ 0; decide, d0⟩

/-- a pair of meters, or none of both -/
def PairPost (W : World) (a b c d : Int) : Ending → World → Prop := fun e W' => ∃ om ow : Option Nat, e = .returned (.tuple #[mval om, mval ow]) ∧ MV W' om (MSt.new a b c d) ∧ RMV W' ow (MSt.new a b c d) ∧
  (om = none ↔ ow = none) ∧ (∀ k, om = some k → W.heap.size ≤ k ∧ k < W'.heap.size) ∧ (∀ k, ow = some k → W.heap.size ≤ k ∧ k < W'.heap.size) ∧ (∀ k, om = some k → ow ≠ some k) ∧ Ext W W'

set_option maxRecDepth 100000 in
set_option maxHeartbeats 4000000 in
theorem law12_meters {W : World} (a b c d : Int) (no : Bool) : Calls Tryz.prog 14 #[.agg #[.int .i64 a, .int .i64 b, .int .i64 c, .int .i64 d], .bool no] W (PairPost W a b c d) := by
  have hnot : ∀ (x : Bool) (w : World), (Op.unary .not (.bool x)).run Tryz.prog w = .ok (.bool (!x)) w := fun _ _ => rfl
  have HXA := hid (Ext.alloc (Ext.refl W) (.cells #[.int .i64 a, .int .i64 b, .int .i64 c, .int .i64 d] 25))
  cases no with
  | true =>
    go_enter Tryz.func14, Tryz.ntmps14
    go_wp2
    all_goals
      go_ret2
      exact ⟨none, none, rfl, MV.none _ _, RMV.none _ _, ⟨fun _ => rfl, fun _ => rfl⟩, fun k h => (by cases h), fun k h => (by cases h), fun k h => (by cases h), HXA.out⟩
  | false =>
    have hs : W.heap.size < (W.alloc (.cells #[.int .i64 a, .int .i64 b, .int .i64 c, .int .i64 d] 25)).heap.size := by rw [size_alloc]; omega
    have k0 : (W.alloc (.cells #[.int .i64 a, .int .i64 b, .int .i64 c, .int .i64 d] 25)).cell? ⟨W.heap.size, 0, none⟩ = some (.int .i64 a) := cell_new _ _ _ rfl rfl
    have k1 : (W.alloc (.cells #[.int .i64 a, .int .i64 b, .int .i64 c, .int .i64 d] 25)).cell? ⟨W.heap.size, 1, none⟩ = some (.int .i64 b) := cell_new _ _ _ rfl rfl
    have k2 : (W.alloc (.cells #[.int .i64 a, .int .i64 b, .int .i64 c, .int .i64 d] 25)).cell? ⟨W.heap.size, 2, none⟩ = some (.int .i64 c) := cell_new _ _ _ rfl rfl
    have k3 : (W.alloc (.cells #[.int .i64 a, .int .i64 b, .int .i64 c, .int .i64 d] 25)).cell? ⟨W.heap.size, 3, none⟩ = some (.int .i64 d) := cell_new _ _ _ rfl rfl
    have HK := hid (And.intro k0 (And.intro k1 (And.intro k2 k3)))
    clear k0 k1 k2 k3 hs
    by_cases hm : mayLimits a b c d
    · have C1 := hid (fun Y => may_yes a b c d Y hm)
      have C2 := hid (fun Y => new_any a b c d Y)
      have HM := hid hm
      clear hm
      go_enter Tryz.func14, Tryz.ntmps14
      go_wp2_with fail
      with_reducible refine (C1.out _).mono ?_
      rintro e w1 ⟨rfl, hx1⟩
      have HX1 := hid (HXA.out.trans hx1)
      have j0 := hx1.cell HK.out.1
      have j1 := hx1.cell HK.out.2.1
      have j2 := hx1.cell HK.out.2.2.1
      have j3 := hx1.cell HK.out.2.2.2
      have HJ := hid (And.intro j0 (And.intro j1 (And.intro j2 j3)))
      clear hx1
      go_wp2_with fail
      with_reducible refine (C2.out _).mono ?_
      rintro e w2 ⟨hx2, hy2⟩
      have HX2 := hid (HX1.out.trans hx2)
      rcases hy2 with ⟨-, k, hk, hma, rfl⟩ | ⟨hno, -⟩
      · have i0 := hx2.cell HJ.out.1
        have i1 := hx2.cell HJ.out.2.1
        have i2 := hx2.cell HJ.out.2.2.1
        have i3 := hx2.cell HJ.out.2.2.2
        have HI := hid (And.intro i0 (And.intro i1 (And.intro i2 i3)))
        have x0 : Ext w2 w2.drew := (Ext.refl w2).drew
        have S0 : _ ∧ _ ∧ _ ∧ _ := And.intro (x0.cell i0) (And.intro (x0.cell i1) (And.intro (x0.cell i2) (x0.cell i3)))
        have HMA := hid hma
        have HKK := hid (And.intro (Nat.le_trans HX1.out.size hk) (lt_of_cell hma.c0))
        clear hx2 hma hk j0 j1 j2 j3
        go_wp2
        go_region_held3 (fun Y => Y.cell? ⟨W.heap.size, 0, none⟩ = some (.int .i64 a) ∧ Y.cell? ⟨W.heap.size, 1, none⟩ = some (.int .i64 b) ∧ Y.cell? ⟨W.heap.size, 2, none⟩ = some (.int .i64 c) ∧ Y.cell? ⟨W.heap.size, 3, none⟩ = some (.int .i64 d)) (first | exact S0 | exact ⟨cell_old _ S0.1, cell_old _ S0.2.1, cell_old _ S0.2.2.1, cell_old _ S0.2.2.2⟩) (fail)
        go_wp2
        all_goals
          go_ret2
          have hx3 : Ext w2 (w2.alloc (.cells #[.int .i64 a, .int .i64 b, .int .i64 c, .int .i64 d, .int .i64 0, .int .i64 0, .int .i64 0, .int .i64 0] 85)) := Ext.alloc (Ext.refl _) _
          have hx4 : Ext (w2.alloc (.cells #[.int .i64 a, .int .i64 b, .int .i64 c, .int .i64 d, .int .i64 0, .int .i64 0, .int .i64 0, .int .i64 0] 85)) (w2.alloc (.cells #[.int .i64 a, .int .i64 b, .int .i64 c, .int .i64 d, .int .i64 0, .int .i64 0, .int .i64 0, .int .i64 0] 85)).drew := (Ext.refl _).drew
          refine ⟨some k, some w2.heap.size, rfl, fun b hb => ?_, fun b hb => ?_, ⟨fun h => (by cases h), fun h => (by cases h)⟩, fun j hj => ?_, fun j hj => ?_, fun j hj => ?_, HX2.out.trans (hx3.trans hx4)⟩
          · cases hb
            exact ⟨HMA.out.kept (hx3.trans hx4) HKK.out.2, new_okS HM.out⟩
          · cases hb
            exact ⟨(ref_new12 w2 a b c d).grown (gb_of_ext hx4 none) (by simp), new_okS HM.out⟩
          · cases hj
            exact ⟨HKK.out.1, Nat.lt_of_lt_of_le HKK.out.2 (hx3.trans hx4).size⟩
          · cases hj
            exact ⟨HX2.out.size, Nat.lt_of_lt_of_le (by rw [size_alloc]; exact Nat.lt_succ_self _) hx4.size⟩
          · cases hj
            intro h
            have := Option.some.inj h
            have := HKK.out.2
            omega
      · exact absurd HM.out hno
    · have C1 := hid (fun Y => may_no a b c d Y hm)
      clear hm
      go_enter Tryz.func14, Tryz.ntmps14
      go_wp2_with fail
      with_reducible refine (C1.out _).mono ?_
      rintro e w1 ⟨rfl, hx1⟩
      have HX1 := hid (HXA.out.trans hx1)
      clear hx1
      go_wp2
      all_goals
        go_ret2
        exact ⟨none, none, rfl, MV.none _ _, RMV.none _ _, ⟨fun _ => rfl, fun _ => rfl⟩, fun k h => (by cases h), fun k h => (by cases h), fun k h => (by cases h), HX1.out⟩

set_option maxRecDepth 100000 in
set_option maxHeartbeats 4000000 in
theorem law12_counted {W : World} {om ow : Option Nat} {s : MSt} (h0 : om = none ↔ ow = none) (hm : MV W om s) (hw : RMV W ow s) : Calls Tryz.prog 23 #[mval om, mval ow] W fun e W' => e = .returned (.bool true) ∧ Ext W W' := by
  cases ow with
  | none =>
    obtain rfl := h0.2 rfl
    show Calls _ _ #[.pointer none, .pointer none] _ _
    go_enter Tryz.func23, Tryz.ntmps23
    go_wp2
    refine wp_region_later (by kernel_rfl) (by kernel_rfl) ?_
    repeat (go_big_quiet_step (fail))
    refine wpQuiet_nil ?_
    intro W2 hW2
    have HW2 := hid hW2
    clear hW2
    go_wp2
    all_goals
      go_ret
      exact ⟨rfl, HW2.out⟩
  | some b =>
    cases om with
    | none => exact absurd (h0.1 rfl) (by simp)
    | some k =>
      have HM := hid (hm k rfl).1
      have HW := hid (hw b rfl).1
      have L4 := fun Y : Later W => Y.h.cell HW.out.c4
      have L6 := fun Y : Later W => Y.h.cell HW.out.c6
      have L7 := fun Y : Later W => Y.h.cell HW.out.c7
      have CF := hid (fun Y : Later W => (Fuel_any k s Y.w' (HM.out.kept Y.h (lt_of_cell HM.out.c0))).mono (R' := fun e w' => e = .returned (.int .i64 s.st) ∧ Ext Y.w' w') (by rintro e w' ⟨rfl, rfl⟩; exact ⟨rfl, Ext.refl _⟩))
      have CN := hid (fun Y : Later W => Need_any k s Y.w' (HM.out.kept Y.h (lt_of_cell HM.out.c0)))
      clear hm hw h0
      show Calls _ _ #[.pointer (some ⟨k, 0, none⟩), .pointer (some ⟨b, 0, none⟩)] _ _
      go_enter Tryz.func23, Tryz.ntmps23
      go_wp2
      refine wp_region_later (by kernel_rfl) (by kernel_rfl) ?_
      repeat (go_big_quiet_step (first | (go_at_call 31; exact Later.done (CF.out _)) | (go_at_call 33; exact Later.done (CN.out _))))
      refine wpQuiet_nil ?_
      intro W2 hW2
      have HW2 := hid hW2
      clear L4 L6 L7 hW2
      go_wp2
      all_goals
        go_ret
        exact ⟨rfl, HW2.out⟩
end Go.Proofs.YtcpfeepnfodifaaGreat

namespace Go.Proofs.YtcpfeepnfodifaaGreat
open Go.RowKit

theorem fit12 {ts : List RTerm} (h : great12 ts = false) : ts.length ≤ 8 ∧ ∀ t ∈ ts, t.c.mag.length ≤ 8 ∧ ∀ y ∈ t.m, y.2 ≤ 8 := by
  unfold great12 at h
  rw [Bool.or_eq_false_iff] at h
  obtain ⟨h1, h2⟩ := h
  have h3 := great_fit (n := 8) h1
  refine ⟨h3.1, fun t ht => ?_⟩
  have h4 := (List.any_eq_false.1 h2) t ht
  unfold bigT8 at h4
  rw [Bool.not_eq_true, Bool.or_eq_false_iff] at h4
  refine ⟨by have := h4.1; rw [decide_eq_false_iff_not] at this; omega, fun y hy => ?_⟩
  have := (List.any_eq_false.1 h4.2) y hy
  rw [decide_eq_true_eq] at this
  omega
theorem ex_le {m : Mono} {E : Int} (h0 : 0 ≤ E) (h : ∀ y ∈ m, y.2 ≤ E) (u : Int) : ex m u ≤ E := by
  induction m with
  | nil => simp [ex]; exact h0
  | cons y r ih =>
    rw [ex]
    split
    · exact h y (by simp)
    · exact ih (fun z hz => h z (by simp [hz]))
theorem small12 {ts : List RTerm} (h : great12 ts = false) : smallT ts := fun t ht => Nat.le_trans ((fit12 h).2 t ht).1 (by decide)
theorem tiny12 {ts : List RTerm} (h : great12 ts = false) : tinyT ts := fun t ht => Nat.le_trans ((fit12 h).2 t ht).1 (by decide)
theorem plain12 {ts : List RTerm} (hok : okT ts) (h : great12 ts = false) : Fit 8 8 (plainP ts) ∧ exB 8 (plainP ts) := by
  have h1 := fit12 h
  refine ⟨fit_plain hok (fun t ht => (h1.2 t ht).1) h1.1, fun t ht u => ?_⟩
  unfold plainP at ht
  split at ht
  · obtain ⟨y, hy, rfl⟩ := List.mem_map.1 ht
    exact ex_le (by decide) (h1.2 y hy).2 u
  · simp at ht

section
variable {F G : PZ} {x : Int}
/-- a division of what is not too great stays within bounds -/
theorem run12 (o : Option Nat) (keep : Bool) (s : MSt) (fF : Fit 8 8 F) (eF : exB 8 F) (fG : Fit 8 8 G) (hx : 1 ≤ x ∧ x ≤ 200) (hd : 1 ≤ degP G x) :
    FitRun o keep G (headP G x) x (degP G x) 128 34359738368 ((degP F x).toNat + 1) s [] F :=
  fitRun_steps fG (fG.coef x _) (by decide) hx hd (by decide) _ 8 8 8 _ _ _ (fit_nil.mono (by decide) (by decide)) fF (fun _ => by have := eF.deg (by decide) x; omega) (by decide) (by decide)
theorem div12_fit (keep : Bool) (o : Option Nat) (s : MSt) (fF : Fit 8 8 F) (eF : exB 8 F) (fG : Fit 8 8 G) (hx : 1 ≤ x ∧ x ≤ 200) (hd : 1 ≤ degP G x) :
    Fit 128 34359738368 (divD o keep s F G x).q ∧ Fit 128 34359738368 (divD o keep s F G x).r := run_fit _ _ _ _ _ (run12 o keep s fF eF fG hx hd)
theorem div12_ex (keep : Bool) (o : Option Nat) (s : MSt) (fF : Fit 8 8 F) (eF : exB 8 F) (fG : Fit 8 8 G) (eG : exB 8 G) (hx : 1 ≤ x ∧ x ≤ 200) (hd : 1 ≤ degP G x) :
    exB 80 (divD o keep s F G x).q ∧ exB 80 (divD o keep s F G x).r := by
  have h1 := eF.deg (by decide) x
  have h2 := (degP_range fF.can.may x).1
  have h := run_ex (o := o) (keep := keep) fG.can eG (by decide) hx hd ((degP F x).toNat + 1) s [] F 0 8 canP_nil fF.can (exB_nil _) eF (by decide) (by omega)
  exact ⟨h.1.le (by omega), h.2.le (by omega)⟩
theorem div12_divide (fF : Fit 8 8 F) (eF : exB 8 F) (fG : Fit 8 8 G) (hx : 1 ≤ x ∧ x ≤ 200) (hd : 1 ≤ degP G x) {W : World} {vf vg : Value} (hf : PV W vf F) (hg : PV W vg G) :
    Calls Tryz.prog 15 #[.pointer none, vf, vg, .int .i64 x] W fun e W' => ∃ vq vr, e = .returned (.tuple #[vq, vr, .int .i64 ((div0 true F G x).n : Nat), .int .i64 (div0 true F G x).e]) ∧ PV W' vq (div0 true F G x).q ∧ PV W' vr (div0 true F G x).r ∧ Ext W W' :=
  z_divide0 hf hg fG (run12 none true default fF eF fG hx hd) (by decide) (by decide) (by decide) (by decide) (by decide) hx hd
end
end Go.Proofs.YtcpfeepnfodifaaGreat

namespace Go.Proofs.YtcpfeepnfodifaaGreat
open Go.RowKit Go.Deep Go.ChangeShapes Go.WideShapes Go.ChangeAt Go.Joins

section
variable {H : Type} {enc : TypeId × Value → H} {P : Program} {w : World} {base : Nat} {spare : Nat → Bool} {held : Bool}
theorem trodAll_four12 {t0 t1 t2 t3 : TypeId} {args : Array Value} {ds : List (DataW H)} {ps : List MemPlace} (h : DataW.TrodAll enc P w base spare held [t0, t1, t2, t3] args.toList ds ps) :
    ∃ v0 v1 v2 v3 d0 d1 d2 d3 p0 p1 p2 p3, args = #[v0, v1, v2, v3] ∧ ds = [d0, d1, d2, d3] ∧ ps = p0 ++ p1 ++ p2 ++ p3 ∧ DataW.Trod enc P w base spare held t0 v0 d0 p0 ∧ DataW.Trod enc P w base spare held t1 v1 d1 p1 ∧ DataW.Trod enc P w base spare held t2 v2 d2 p2 ∧ DataW.Trod enc P w base spare held t3 v3 d3 p3 := by
  obtain ⟨v0, vs, d0, ds0, p0, q0, hargs, rfl, rfl, h0, r0⟩ := trodAll_cons h
  obtain ⟨v1, vs1, d1, ds1, p1, q1, rfl, rfl, rfl, h1, r1⟩ := trodAll_cons r0
  obtain ⟨v2, vs2, d2, ds2, p2, q2, rfl, rfl, rfl, h2, r2⟩ := trodAll_cons r1
  obtain ⟨v3, vs3, d3, ds3, p3, q3, rfl, rfl, rfl, h3, r3⟩ := trodAll_cons r2
  obtain ⟨rfl, rfl, rfl⟩ := trodAll_nil r3
  exact ⟨v0, v1, v2, v3, d0, d1, d2, d3, p0, p1, p2, p3, by cases args; simp_all, rfl, by simp, h0, h1, h2, h3⟩
theorem trodAll_five12 {t0 t1 t2 t3 t4 : TypeId} {args : Array Value} {ds : List (DataW H)} {ps : List MemPlace} (h : DataW.TrodAll enc P w base spare held [t0, t1, t2, t3, t4] args.toList ds ps) :
    ∃ v0 v1 v2 v3 v4 d0 d1 d2 d3 d4 p0 p1 p2 p3 p4, args = #[v0, v1, v2, v3, v4] ∧ ds = [d0, d1, d2, d3, d4] ∧ ps = p0 ++ p1 ++ p2 ++ p3 ++ p4 ∧ DataW.Trod enc P w base spare held t0 v0 d0 p0 ∧ DataW.Trod enc P w base spare held t1 v1 d1 p1 ∧ DataW.Trod enc P w base spare held t2 v2 d2 p2 ∧ DataW.Trod enc P w base spare held t3 v3 d3 p3 ∧ DataW.Trod enc P w base spare held t4 v4 d4 p4 := by
  obtain ⟨v0, vs, d0, ds0, p0, q0, hargs, rfl, rfl, h0, r0⟩ := trodAll_cons h
  obtain ⟨v1, vs1, d1, ds1, p1, q1, rfl, rfl, rfl, h1, r1⟩ := trodAll_cons r0
  obtain ⟨v2, vs2, d2, ds2, p2, q2, rfl, rfl, rfl, h2, r2⟩ := trodAll_cons r1
  obtain ⟨v3, vs3, d3, ds3, p3, q3, rfl, rfl, rfl, h3, r3⟩ := trodAll_cons r2
  obtain ⟨v4, vs4, d4, ds4, p4, q4, rfl, rfl, rfl, h4, r4⟩ := trodAll_cons r3
  obtain ⟨rfl, rfl, rfl⟩ := trodAll_nil r4
  exact ⟨v0, v1, v2, v3, v4, d0, d1, d2, d3, d4, p0, p1, p2, p3, p4, by cases args; simp_all, rfl, by simp, h0, h1, h2, h3, h4⟩
end
theorem Tryz.cells_limits12 : Tryz.prog.cellsOf 25 = 4 := by kernel_rfl
section
variable {H : Type} {enc : TypeId × Value → H} {W : World} {base b0 : Nat} {sp : Nat → Bool} {held : Bool}
set_option maxRecDepth 100000 in
theorem int_arg12 {fuel : Nat} {v : Value} {x : DataW H × List MemPlace} (hv : Value.okWide Tryz.prog W .any base 3 v) (h : DataW.trod enc Tryz.prog W b0 sp held fuel 3 v.cells.toList = some x) : ∃ n, v = .int .i64 n ∧ inI64 n := by
  obtain ⟨n, rfl⟩ := okWide_int Tryz.underlying3 hv
  obtain ⟨m, e, -, hw⟩ := DataW.trod_int Tryz.underlying3 h
  have e' : [Value.int .i64 n] = [.int .i64 m] := e
  obtain rfl : n = m := by simpa using e'
  exact ⟨n, rfl, bounds_i64 hw⟩
set_option maxRecDepth 100000 in
theorem bool_arg12 {v : Value} (hv : Value.okWide Tryz.prog W .any base 4 v) : ∃ b, v = .bool b := okWide_bool Tryz.underlying4 hv
set_option maxRecDepth 100000 in
theorem limits_arg12 {v : Value} {d : DataW H} {p : List MemPlace} (hv : Value.okWide Tryz.prog W .any base 25 v) (h : DataW.Trod enc Tryz.prog W b0 sp held 25 v d p) :
    ∃ a b c e : Int, v = .agg #[.int .i64 a, .int .i64 b, .int .i64 c, .int .i64 e] ∧ inI64 a ∧ inI64 b ∧ inI64 c ∧ inI64 e := by
  obtain ⟨cs, rfl, hsz⟩ := okWide_struct Tryz.underlying25 hv
  obtain ⟨c0, c1, c2, c3, rfl⟩ := array4 (hsz.trans Tryz.cells_limits12)
  obtain ⟨fuel, hf⟩ := h
  obtain ⟨y0, y1, y2, y3, n, _, _, h0, h1, h2, h3⟩ := trod_struct4 Tryz.underlying25 hf
  simp [Tryz.cells_i64, Value.cells] at h0 h1 h2 h3
  obtain ⟨n0, e0, _, w0⟩ := DataW.trod_int Tryz.underlying3 h0
  obtain ⟨n1, e1, _, w1⟩ := DataW.trod_int Tryz.underlying3 h1
  obtain ⟨n2, e2, _, w2⟩ := DataW.trod_int Tryz.underlying3 h2
  obtain ⟨n3, e3, _, w3⟩ := DataW.trod_int Tryz.underlying3 h3
  simp at e0 e1 e2 e3
  subst e0 e1 e2 e3
  exact ⟨n0, n1, n2, n3, rfl, bounds_i64 w0, bounds_i64 w1, bounds_i64 w2, bounds_i64 w3⟩
end
end Go.Proofs.YtcpfeepnfodifaaGreat
