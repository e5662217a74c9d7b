/- The document's division: all its steps. Layer 12's law: what is too great, the meters of both sides, powers, limbs. The program's powers, and how many limbs. Layer 12's law: the meters of both sides, of limits; none of both, if there are to be none; have both counted the same. Layer 12's statements: what is not too great, and the divisions of it. The arguments of the statements of layers 12 and 16 that are no polynomials: whole numbers, truths, limits. The chain's calc: products by a meter, and the first error. Are some polynomials a chain. Chain: is it an identity. The arguments of layer 16's statements: slices of whole numbers, divisions. The arguments of layer 16's statements, with the form's own bound on lists. Chain: the rest alone. -/
import Derived.Deep.RegionHeld3
import Derived.Test.YthdcaablomgboaaGreatRs8
set_option maxRecDepth 100000
set_option maxHeartbeats 16000000
namespace Go.Proofs.YthdcaablomgboaaGreat
section
open Go.RowKit
section
variable {W Y Y' : World} {S : Nat → Prop} {o : Option Nat} {u v : Value} {p q : PZ} {k l n m : Nat}
abbrev RQ (S : Nat → Prop) (W Y : World) (v : Value) (p : PZ) : Prop := RTs (Plus S W Y) Y v p
theorem zgl (hS : ∀ k, S k → k < W.heap.size) (hz : W.heap.size ≤ Y.heap.size) : ∀ k, Plus S W Y k → k < Y.heap.size := fun k hk => by
 rcases hk with h | h
 ·exact Nat.lt_of_lt_of_le (hS k h) hz
 ·exact h.2
theorem z6w (hz : W.heap.size ≤ Y.heap.size) (g : Y.heap.size ≤ Y'.heap.size) : ∀ k, Plus (Plus S W Y) Y Y' k → Plus S W Y' k := fun k hk => by
 rcases hk with (h | h) | h
 ·exact .inl h
 ·exact .inr ⟨h.1, Nat.lt_of_lt_of_le h.2 g⟩
 ·exact .inr ⟨Nat.le_trans hz h.1, h.2⟩
theorem RQ.old (hS : ∀ k, S k → k < W.heap.size) (hz : W.heap.size ≤ Y.heap.size) (h : RQ S W Y v p) : RV Y v p := h.to (Kept.refl _ _) (zgl hS hz)
theorem RQ.on (hS : ∀ k, S k → k < W.heap.size) (hz : W.heap.size ≤ Y.heap.size) (ho : ∀ b, o = some b → b < W.heap.size ∧ ¬ S b) (h : RQ S W Y v p) (g : Y.grownBy Y' o) : RQ S W Y' v p :=
 h.to (fun k hk => g.block k (zgl hS hz k hk) (fun e => by
  have h1 := ho k e.symm
  rcases hk with h | h
  ·exact h1.2 h
  ·have := h.1; omega)) (fun k hk => by
  rcases hk with h | h
  ·exact .inl h
  ·exact .inr ⟨h.1, Nat.lt_of_lt_of_le h.2 g.size⟩)
theorem RQ.ext (hS : ∀ k, S k → k < W.heap.size) (hz : W.heap.size ≤ Y.heap.size) (h : RQ S W Y v p) (g : Ext Y Y') : RQ S W Y' v p := RQ.on (o := none) hS hz (fun _ e => by cases e) h (z07 g none)
theorem RQ.of (h : RTs S W v p) : RQ S W W v p := h.to (Kept.refl _ _) (fun _ h => .inl h)
theorem RQ.rm (hS : ∀ k, S k → k < W.heap.size) (hz : W.heap.size ≤ Y.heap.size) (ho : ∀ b, o = some b → b < W.heap.size ∧ ¬ S b) (h : RQ S W Y v p) : RM o Y v p :=
 h.to (Kept.refl _ _) (fun k hk => ⟨zgl hS hz k hk, fun e => by
  have h1 := ho k e.symm
  rcases hk with h | h
  ·exact h1.2 h
  ·have := h.1; omega⟩)
theorem z7o (hS : ∀ k, S k → k < W.heap.size) (hz : W.heap.size ≤ Y.heap.size) (hp : RQ S W Y u p) (hq : RQ S W Y v q) (fp : Fit k n p) (fq : Fit l m q) (hk : k + l ≤ 90000) (hn : n ≤ 1000000000000) (hm : m ≤ 1000000000000) (hnm : n * m ≤ 1000000000000) :
  Calls Tryz.prog 39 #[u, v] Y fun e w' => ∃ v', e = .returned (.tuple #[v', .bool (zd8 (z0e p q))]) ∧ RQ S W w' v' (z4u (z0e p q)) ∧ Ext Y w' :=
 (zbk (S := Plus S W Y) u v p q Y (zgl hS hz) hp hq fp.can.may fq.can.may (z6v fp (by omega) hn) (z6v fq (by omega) hm) (zs4 fp fq (by omega) hnm)).mono (by
  rintro e w' ⟨v', rfl, h, hx⟩
  exact ⟨v', rfl, h.to (Kept.refl _ _) (z6w hz hx.size), hx⟩)
theorem zpe (hS : ∀ k, S k → k < W.heap.size) (hz : W.heap.size ≤ Y.heap.size) (hp : RQ S W Y u p) (hq : RQ S W Y v q) (fp : Fit k n p) (fq : Fit l m q) (hk : k ≤ 90000) (hl : l ≤ 90000) (hn : n + m ≤ 1000000000000) :
  Calls Tryz.prog 40 #[u, v] Y fun e w' => ∃ v', e = .returned v' ∧ RQ S W w' v' (z0m (p ++ q)) ∧ Ext Y w' :=
 (zbd (S := Plus S W Y) u v p q Y (zgl hS hz) hp hq fp.can.may fq.can.may (z6v fq (by omega) (by omega)) (zde fp fq hk hl hn)).mono (by
  rintro e w' ⟨v', rfl, h, hx⟩
  rw [zdu fp.can fq.can.may] at h
  exact ⟨v', rfl, h.to (Kept.refl _ _) (z6w hz hx.size), hx⟩)
theorem zdh (hS : ∀ k, S k → k < W.heap.size) (hz : W.heap.size ≤ Y.heap.size) (hp : RQ S W Y u p) (hq : RQ S W Y v q) (fp : Fit k n p) (fq : Fit l m q) (hk : k ≤ 90000) (hl : l ≤ 90000) (hn : n + m ≤ 1000000000000) :
  Calls Tryz.prog 32 #[u, v] Y fun e w' => ∃ v', e = .returned v' ∧ RQ S W w' v' (z0m (p ++ negP q)) ∧ Ext Y w' :=
 (zbl (S := Plus S W Y) u v p q Y (zgl hS hz) hp hq fp.can.may fq.can.may (z6v fq (by omega) (by omega)) (fun j hj => zde fp fq.neg hk hl hn j (by rw [z33]; exact hj))).mono (by
  rintro e w' ⟨v', rfl, h, hx⟩
  rw [zdu fp.can fq.neg.can.may] at h
  exact ⟨v', rfl, h.to (Kept.refl _ _) (z6w hz hx.size), hx⟩)
theorem zvt (hS : ∀ k, S k → k < W.heap.size) (hz : W.heap.size ≤ Y.heap.size) (hp : RQ S W Y u p) (fp : Fit k n p) (hk : k ≤ 90000) (hn : n ≤ 1000000000000) {x d : Int} (hx : 1 ≤ x ∧ x ≤ 200) (hd : z12 d) :
  Calls Tryz.prog 78 #[u, .int .i64 x, .int .i64 d] Y fun e w' => ∃ v', e = .returned v' ∧ RQ S W w' v' (z1y p x d) ∧ Ext Y w' :=
 (z5q (S := Plus S W Y) u p x d Y hp (zgl hS hz) fp.can (z6v fp (by omega) hn) hx hd).mono (by
  rintro e w' ⟨v', rfl, h, hx⟩
  exact ⟨v', rfl, h.to (Kept.refl _ _) (z6w hz hx.size), hx⟩)
theorem zsj (hz : W.heap.size ≤ Y.heap.size) {x : Int} {i : Nat} (hx : 1 ≤ x ∧ x ≤ 200) (hi : i ≤ 10000) :
  Calls Tryz.prog 100 #[.int .i64 x, .int .i64 (i : Nat)] Y fun e w' => ∃ v', e = .returned v' ∧ RQ S W w' v' (powP x i) ∧ Ext Y w' :=
 (zhy x i Y (by unfold z12; omega) hi).mono (by
  rintro e w' ⟨v', rfl, h, hx⟩
  exact ⟨v', rfl, h.to (Kept.refl _ _) (fun k hk => .inr ⟨Nat.le_trans hz hk.1, hk.2⟩), hx⟩)
theorem zpf (hS : ∀ k, S k → k < W.heap.size) (hz : W.heap.size ≤ Y.heap.size) (hp : RQ S W Y u p) (fp : Fit k n p) (hk : k ≤ 90000) (hn : n ≤ 1000000000000) {x : Int} (hx : 1 ≤ x ∧ x ≤ 200) :
  Calls Tryz.prog 98 #[u, .int .i64 x] Y fun e w' => ∃ v', e = .returned v' ∧ RQ S W w' v' (z18 p x) ∧ Ext Y w' := by
 have HD := hid (z5r (RQ.old hS hz hp) fp (x := x) (by unfold z12; omega))
 have hr := z0u fp.can.may x
 have HC := hid (fun (Z : World) (hY : Ext Y Z) => zvt (Y := Z) hS (Nat.le_trans hz hY.size) (RQ.ext hS hz hp hY) fp hk hn hx (d := degP p x) (by unfold z12; omega))
 obtain ⟨a, c, rfl⟩ := hp.form
 obtain ⟨np, hnp⟩ : ∃ n, n = p.length := ⟨_, rfl⟩
 rw [← hnp] at HD HC ⊢
 clear hp fp hnp
 go_enter Tryz.func98, Tryz.ntmps98
 go_wp2_with fail
 with_reducible refine HD.out.mono ?_
 rintro e w1 ⟨rfl, hx1⟩
 have HX1 := hid hx1
 have HC1 := hid (HC.out w1 hx1)
 clear hx1
 go_wp2_with fail
 with_reducible refine HC1.out.mono ?_
 rintro e w2 ⟨v2, rfl, hp2, hx2⟩
 have HX2 := hid (HX1.out.trans hx2)
 have HP2 := hid hp2
 clear hp2 hx2
 go_wp2
 all_goals
  go_ret
  exact ⟨_, rfl, HP2.out, HX2.out⟩
end
theorem z7p {k n l m : Nat} {p q : PZ} (fp : Fit k n p) (fq : Fit l m q) (hn : n * m ≤ 1000000000000) : Fit (k + l + 2) (n * m) (z4u (z0e p q)) := by
 cases h : z0e p q with
 | none => exact z6t.mono (Nat.zero_le _) (Nat.zero_le _)
 | some c => exact fp.times fq h hn
section
variable {o : Option Nat} {keep : Bool} {g h q r : PZ} {v d c1 c2 c3 : Int} {s s1 s2 s3 : MSt} {x : PZ × PZ}
theorem zel (h1 : z15 o s = (c1, s1)) (hc : c1 ≠ 0) : z2w o keep g h v d s q r = (c1, s1, none) := by
 unfold z2w
 rw [h1]
 exact if_pos hc
theorem zpg (h1 : z15 o s = (c1, s1)) (hc : ¬ c1 ≠ 0) (h2 : z2o keep g h v d q r = none) : z2w o keep g h v d s q r = (8, mexp o s1, none) := by
 unfold z2w
 rw [h1, h2]
 exact if_neg hc
theorem zc2 (h1 : z15 o s = (c1, s1)) (hc : ¬ c1 ≠ 0) (h2 : z2o keep g h v d q r = some x) (h3 : z0o o s1 x.2 = (c2, s2)) (hc2 : c2 ≠ 0) : z2w o keep g h v d s q r = (c2, s2, none) := by
 unfold z2w
 rw [h1, h2]
 refine (if_neg hc).trans ?_
 show (if (z0o o s1 x.2).1 ≠ 0 then _ else _) = _
 rw [h3]
 exact if_pos hc2
theorem zc3 (h1 : z15 o s = (c1, s1)) (hc : ¬ c1 ≠ 0) (h2 : z2o keep g h v d q r = some x) (h3 : z0o o s1 x.2 = (c2, s2)) (hc2 : ¬ c2 ≠ 0) (h4 : z0o o s1 x.1 = (c3, s3)) (hc3 : c3 ≠ 0) : z2w o keep g h v d s q r = (c3, s3, none) := by
 unfold z2w
 rw [h1, h2]
 refine (if_neg hc).trans ?_
 show (if (z0o o s1 x.2).1 ≠ 0 then _ else if (z0o o s1 x.1).1 ≠ 0 then _ else _) = _
 rw [h3, h4]
 exact (if_neg hc2).trans (if_pos hc3)
theorem zjg (h1 : z15 o s = (c1, s1)) (hc : ¬ c1 ≠ 0) (h2 : z2o keep g h v d q r = some x) (h3 : z0o o s1 x.2 = (c2, s2)) (hc2 : ¬ c2 ≠ 0) (h4 : z0o o s1 x.1 = (c3, s3)) (hc3 : ¬ c3 ≠ 0) : z2w o keep g h v d s q r = (0, s1, some x) := by
 unfold z2w
 rw [h1, h2]
 refine (if_neg hc).trans ?_
 show (if (z0o o s1 x.2).1 ≠ 0 then _ else if (z0o o s1 x.1).1 ≠ 0 then _ else _) = _
 rw [h3, h4]
 exact (if_neg hc2).trans (if_neg hc3)
end
def zjh (S : Nat → Prop) (W : World) (o : Option Nat) (R : DRes) : Ending → World → Prop := fun e W' => ∃ vq vr, e = .returned (.tuple #[vq, vr, .int .i64 (R.n : Nat), .int .i64 R.e]) ∧ RMV W' o R.s ∧ W.grownBy W' o ∧ RQ S W W' vq R.q ∧ RQ S W W' vr R.r
theorem zsk {W : World} {S : Nat → Prop} {o : Option Nat} {s : MSt} {vf vg : Value} {v : Int} {keep : Bool} {f g : PZ} {A B T M : Nat} (hM : RMV W o s) (hS : ∀ k, S k → k < W.heap.size) (ho : ∀ b, o = some b → ¬ S b) (hf0 : RTs S W vf f) (hg0 : RTs S W vg g) (fg : Fit A T g) (hF : z3g o keep g (z18 g v) v (degP g v) B M ((degP f v).toNat + 1) s [] f)
  (hA : A < 24) (hB : B ≤ 40000) (hT : 1 ≤ T) (hTb : T ≤ 1000000) (hTM : 2 * T * M ≤ 1000000000000) (hv : 1 ≤ v ∧ v ≤ 200) (hd : 1 ≤ degP g v) :
  Calls Tryz.prog 55 #[mval o, vf, vg, .int .i64 v, .bool keep] W (zjh S W o (divD o keep s f g v)) := by
 have hf := RQ.of hf0
 have hg := RQ.of hg0
 have HSS := hid hS
 have hMM : M ≤ 2 * T * M := Nat.le_mul_of_pos_left M (by omega)
 have hnot : ∀ (x : Bool) (w : World), (Op.unary .not (.bool x)).run Tryz.prog w = .ok (.bool (!x)) w := fun _ _ => rfl
 have ff := hF.now.2
 have hfr := z0u ff.can.may v
 have hgr := z0u fg.can.may v
 have fh : Fit A T (z18 g v) := fg.coef v (degP g v)
 have hi : z12 v := by unfold z12; omega
 have HOO : Hid (∀ b, o = some b → b < W.heap.size ∧ ¬ S b) := hid (fun b hb => ⟨hM.block (b := b) hb, ho b hb⟩)
 have C1 := z5r (RQ.old hS (Nat.le_refl _) hg) fg (x := v) hi
 have C2 := fun (Y : World) (hY : Ext W Y) => zpf (Y := Y) hS hY.size (RQ.ext hS (Nat.le_refl _) hg hY) fg (by omega) (by omega) hv
 obtain ⟨R, hR⟩ : ∃ R, R = divD o keep s f g v := ⟨_, rfl⟩
 rw [← hR]
 have HR0 := hid hR
 obtain ⟨K, hK⟩ : ∃ K, K = (degP f v).toNat + 1 := ⟨_, rfl⟩
 have HK := hid hK
 have HFR := hid hF
 have HM := hid hM
 have HG := hid hg
 have HFF := hid hf
 have HFG := hid fg
 have HFH := hid fh
 have HV := hid hv
 have HDD := hid hd
 have HDF := hid (And.intro hfr.1 hfr.2)
 have HBD := hid (And.intro hA (And.intro hB (And.intro hT (And.intro hTM (And.intro hMM hTb)))))
 have HI := hid hi
 obtain ⟨vm, hvm⟩ : ∃ x, x = mval o := ⟨_, rfl⟩
 rw [← hvm]
 have HVM := hid hvm
 have HCST : Hid (∀ Y s, RMV Y o s → Calls Tryz.prog 99 #[vm] Y (zln Y o (z15 o s).1 (z15 o s).2)) := hid (by rw [hvm]; exact fun Y s hY => zx6 hY)
 have HCRF : Hid (∀ Y s, RMV Y o s → Calls Tryz.prog 56 #[vm] Y (zln Y o 8 (mexp o s))) := hid (by rw [hvm]; exact fun Y s hY => zs6 hY)
 have HCKP : Hid (∀ Y s u p k n, RMV Y o s → W.heap.size ≤ Y.heap.size → RQ S W Y u p → Fit k n p → k ≤ 90000 → n ≤ 1000000000000 → Calls Tryz.prog 57 #[vm, u] Y (zln Y o (z0o o s p).1 (z0o o s p).2)) := hid (by rw [hvm]; exact fun Y s u p k n hY hz hu hp hk hn => zp4 hY (RQ.rm HSS.out hz HOO.out hu) hp hk hn)
 obtain ⟨af, cf, rfl⟩ := hf.form
 obtain ⟨ag, cg, rfl⟩ := hg.form
 obtain ⟨nf, hnf⟩ : ∃ n, n = f.length := ⟨_, rfl⟩
 obtain ⟨ng, hng⟩ : ∃ n, n = g.length := ⟨_, rfl⟩
 rw [← hnf] at HFF ⊢
 rw [← hng] at HG C1 C2 ⊢
 obtain ⟨d, hd2⟩ : ∃ d, d = degP g v := ⟨_, rfl⟩
 have HD2 := hid hd2
 rw [← hd2] at C1 hgr
 obtain ⟨h, hh2⟩ : ∃ h, h = z18 g v := ⟨_, rfl⟩
 have HH2 := hid hh2
 rw [← hh2] at C2 HFH HFR
 rw [← hd2] at HFR HDD
 have HRD : Hid (runD o keep g h v d K s [] f 0 = R) := hid (by rw [hR, hK, hh2, hd2]; rfl)
 obtain ⟨nh, hnh⟩ : ∃ n, n = h.length := ⟨_, rfl⟩
 have HNH := hid hnh
 have HC1 := hid C1
 have HC2 := hid C2
 obtain ⟨hv1, hv2⟩ := hv
 obtain ⟨hgr1, hgr2⟩ := hgr
 clear C1 C2 hM hS ho hf0 hg0 hf hg fg hF ff fh hR hK hfr hvm hnf hng hd2 hA hB hT hTb hTM hMM hd hi hh2 hnh
 go_enter Tryz.func55, Tryz.ntmps55
 go_wp2_with fail
 with_reducible refine HC1.out.mono ?_
 rintro e w1 ⟨rfl, hx1⟩
 have HX1 := hid hx1
 have HC3 := hid (HC2.out w1 hx1)
 clear hx1
 go_wp2_with fail
 with_reducible refine HC3.out.mono ?_
 rintro e w2 ⟨vh, rfl, hh, hx2⟩
 have HX2 := hid (HX1.out.trans hx2)
 have HG2 := hid (z07 HX2.out o)
 have HVH := hid hh
 obtain ⟨ah, ch, rfl⟩ := hh.form
 rw [← HNH.out] at HVH ⊢
 clear hh hx2
 go_wp2
 go_loopw [16, 17, 18] (fun vq vr vn wr => ∃ (k : Nat) (s' : MSt) (q r : PZ) (n : Nat), vn = .int .i64 (n : Nat) ∧ Hid (w2.grownBy wr o) ∧ Hid (runD o keep g h v d k s' q r n = R) ∧ Hid (degP r v < (k : Int)) ∧ Hid (z3g o keep g h v d B M k s' q r) ∧ Hid (RQ S W wr vq q) ∧ Hid (RQ S W wr vr r) ∧ Hid (RMV wr o s') ∧ Hid (n + k = K) ∧ Hid (keep = false → q = [])) (fun _ _ vn _ => K + 1 - (intOf vn).toNat)
 case atStart => exact ⟨K, s, [], f, 0, rfl, z26 _ _, HRD, by show _ < _; have := HDF.out; rw [HK.out]; omega, by rw [HK.out]; exact HFR, RTs.nilv _ _ _ _ (by decide), RQ.ext HSS.out (Nat.le_refl _) HFF.out HX2.out, HM.out.ext HX2.out, Nat.zero_add _, fun _ => rfl⟩
 case round =>
  obtain ⟨k, s', q, r, n, rfl, HGC, HR, HDG, HF, HQ, HRR, HMV, HNK, HKQ⟩ := hrel
  have HFN := hid HF.out.now
  have HVH := hid (RQ.on HSS.out HG2.out.size HOO.out HVH.out HGC.out)
  have HGG := hid (RQ.on HSS.out HG2.out.size HOO.out (RQ.ext HSS.out (Nat.le_refl _) HG.out HX2.out) HGC.out)
  have HZZ := hid (Nat.le_trans HG2.out.size HGC.out.size)
  have hdr := z0u HFN.out.2.can.may v
  obtain ⟨k1, hk1⟩ : ∃ k1, k = k1 + 1 := ⟨k - 1, by have := HDG.out; omega⟩
  subst hk1
  obtain ⟨aq, cq, rfl⟩ := HQ.out.form
  obtain ⟨nq, hnq⟩ : ∃ n, n = q.length := ⟨_, rfl⟩
  rw [← hnq] at HQ ⊢
  clear hnq
  by_cases hr0 : r = []
  ·have hr0' := hr0
   subst hr0
   have HRE : Hid (R = ⟨0, q, [], n, s'⟩) := hid (by rw [← HR.out, z2c, if_pos (.inl rfl)])
   obtain ⟨ar, cr, hvr⟩ := HRR.out.form
   have hvr2 : _ = Value.slice ar 0 cr := hvr
   clear hvr hr0' hdr
   subst hvr2
   go_wp2
   all_goals
    refine bodyPost_ret (v := .tuple #[.slice aq nq cq, .slice ar 0 cr, .int .i64 (n : Nat), .int .i64 0]) (by simp [results, Tryz.results55, go_sem]) rfl ?_
    rw [HRE.out]; exact ⟨_, _, rfl, HMV.out, z06 HG2.out HGC.out, HQ.out, HRR.out⟩
  ·have hnr : 0 < r.length := List.length_pos_iff.2 hr0
   obtain ⟨ar, cr, rfl⟩ := HRR.out.form
   obtain ⟨nr, hnr2⟩ : ∃ n, n = r.length := ⟨_, rfl⟩
   rw [← hnr2] at hnr HRR ⊢
   have HR0' := hid hr0
   have HDRG := hid hdr
   have h1 : M ≤ T * M := Nat.le_mul_of_pos_left M HBD.out.2.2.1
   have h2 : 2 * T * M = T * M + T * M := by rw [Nat.mul_assoc]; omega
   have h3 : M * T = T * M := Nat.mul_comm _ _
   have HTM := hid (And.intro h1 (And.intro h2 (And.intro h3 (And.intro HBD.out.2.2.2.1 HBD.out.2.2.2.2.2))))
   clear hr0 hnr2 h1 h2 h3
   by_cases hlt : degP r v < d
   ·have q1 : decide (d ≤ degP r v) = false := decide_eq_false (by omega)
    have HRE : Hid (R = ⟨0, q, r, n, s'⟩) := hid (by rw [← HR.out, z2c, if_pos (.inr hlt)])
    obtain ⟨hdr1, hdr2⟩ := hdr
    clear hlt
    go_wp2_with fail
    with_reducible refine (z5r (RQ.old HSS.out HZZ.out HRR.out) HFN.out.2 HI.out).mono ?_
    rintro e w3 ⟨rfl, hx⟩
    have HVH := hid (RQ.ext HSS.out HZZ.out HVH.out hx)
    have HGG := hid (RQ.ext HSS.out HZZ.out HGG.out hx)
    have HQ := hid (RQ.ext HSS.out HZZ.out HQ.out hx)
    have HRR := hid (RQ.ext HSS.out HZZ.out HRR.out hx)
    have HGC := hid (z06 HGC.out (z07 hx o))
    have HMV := hid (HMV.out.ext hx)
    have HZZ := hid (Nat.le_trans HZZ.out hx.size)
    clear hx
    go_wp2
    all_goals
     refine bodyPost_ret (v := .tuple #[.slice aq nq cq, .slice ar nr cr, .int .i64 (n : Nat), .int .i64 0]) (by simp [results, Tryz.results55, go_sem]) rfl ?_
     rw [HRE.out]; exact ⟨_, _, rfl, HMV.out, z06 HG2.out HGC.out, HQ.out, HRR.out⟩
   ·have hle : d ≤ degP r v := by omega
    have q1 : decide (d ≤ degP r v) = true := decide_eq_true hle
    have HLE := hid hle
    have HSTOP : Hid (¬ (r = [] ∨ degP r v < d)) := hid (by rintro (h | h); exact HR0'.out h; exact hlt h)
    have HNB : Hid (n ≤ 1000000) := hid (by have h1 := HNK.out; have h2 := HK.out; have h3 := HDF.out; omega)
    obtain ⟨i, hi⟩ : ∃ i : Nat, i = (degP r v - d).toNat := ⟨_, rfl⟩
    have HI2 : Hid ((i : Int) = degP r v - d) := hid (by omega)
    have HI3 : Hid (i ≤ 10000) := hid (by omega)
    have HTD : Hid (z4w r v d = z0e (z18 r v) (powP v i)) := hid (by unfold z4w; rw [← hi])
    have HFHR := hid (show Fit B M (z18 r v) from HFN.out.2.coef v (degP r v))
    have HFPW := hid (zox HV.out HI3.out)
    have hnb := HNB.out
    obtain ⟨hdr1, hdr2⟩ := hdr
    clear hlt hi hle
    cases hms : z15 o s' with
    | mk c1 s1 =>
     have HMS := hid hms
     clear hms
     by_cases hc1 : c1 ≠ 0
     ·have q2 : (c1 != 0) = true := by rw [bne_iff_ne]; exact hc1
      have HRE : Hid (R = ⟨c1, [], [], 0, s1⟩) := hid (by rw [← HR.out, z2c, if_neg HSTOP.out, zel HMS.out hc1])
      clear hc1
      go_wp2_with fail
      with_reducible refine (z5r (RQ.old HSS.out HZZ.out HRR.out) HFN.out.2 HI.out).mono ?_
      rintro e w3 ⟨rfl, hx⟩
      have HVH := hid (RQ.ext HSS.out HZZ.out HVH.out hx)
      have HGG := hid (RQ.ext HSS.out HZZ.out HGG.out hx)
      have HQ := hid (RQ.ext HSS.out HZZ.out HQ.out hx)
      have HRR := hid (RQ.ext HSS.out HZZ.out HRR.out hx)
      have HGC := hid (z06 HGC.out (z07 hx o))
      have HMV := hid (HMV.out.ext hx)
      have HZZ := hid (Nat.le_trans HZZ.out hx.size)
      clear hx
      have HST := HCST.out w3 s' HMV.out
      rw [HMS.out] at HST
      have HST1 := hid HST
      clear HST
      go_wp2_with fail
      with_reducible refine HST1.out.mono ?_
      rintro e w4 ⟨rfl, hm, hg⟩
      have HVH := hid (RQ.on HSS.out HZZ.out HOO.out HVH.out hg)
      have HGG := hid (RQ.on HSS.out HZZ.out HOO.out HGG.out hg)
      have HQ := hid (RQ.on HSS.out HZZ.out HOO.out HQ.out hg)
      have HRR := hid (RQ.on HSS.out HZZ.out HOO.out HRR.out hg)
      have HGC := hid (z06 HGC.out hg)
      have HMV := hid hm
      have HZZ := hid (Nat.le_trans HZZ.out hg.size)
      clear hm hg HST1
      go_wp2
      all_goals
       refine bodyPost_ret (v := .tuple #[.slice none 0 0, .slice none 0 0, .int .i64 0, .int .i64 c1]) (by simp [results, Tryz.results55, go_sem]) rfl ?_
       rw [HRE.out]; exact ⟨_, _, rfl, HMV.out, z06 HG2.out HGC.out, RTs.nilv _ _ _ _ (by decide), RTs.nilv _ _ _ _ (by decide)⟩
     ·have q2 : (c1 != 0) = false := by rw [bne_eq_false_iff_eq]; exact Decidable.not_not.1 hc1
      have HC1 := hid hc1
      clear hc1
      obtain ⟨T1, hT1⟩ : ∃ x, x = z0e (z18 r v) (powP v i) := ⟨_, rfl⟩
      obtain ⟨L1, hL1⟩ : ∃ x, x = z0e (z4u T1) g := ⟨_, rfl⟩
      obtain ⟨M1, hM1⟩ : ∃ x, x = z0e h r := ⟨_, rfl⟩
      obtain ⟨U1, hU1⟩ : ∃ x, x = z0e h q := ⟨_, rfl⟩
      have HT1 := hid hT1.symm
      have HL1 := hid hL1.symm
      have HM1 := hid hM1.symm
      have HU1 := hid hU1.symm
      have HFT : Hid (Fit (B + 3) M (z4u T1)) := hid (by rw [hT1]; exact (z7p HFHR.out HFPW.out (by have := HTM.out; omega)).mono (by omega) (by omega))
      have HFL : Hid (Fit (B + A + 5) (T * M) (z4u L1)) := hid (by rw [hL1]; exact (z7p HFT.out HFG.out (by have := HTM.out; omega)).mono (by omega) (by have := HTM.out; omega))
      have HFM : Hid (Fit (B + A + 5) (T * M) (z4u M1)) := hid (by rw [hM1]; exact (z7p HFH.out HFN.out.2 (by have := HTM.out; omega)).mono (by omega) (by omega))
      have HFU : Hid (Fit (B + A + 5) (T * M) (z4u U1)) := hid (by rw [hU1]; exact (z7p HFH.out HFN.out.1 (by have := HTM.out; omega)).mono (by omega) (by omega))
      clear hT1 hL1 hM1 hU1
      go_wp2_with fail
      with_reducible refine (z5r (RQ.old HSS.out HZZ.out HRR.out) HFN.out.2 HI.out).mono ?_
      rintro e w3 ⟨rfl, hx⟩
      have HVH := hid (RQ.ext HSS.out HZZ.out HVH.out hx)
      have HGG := hid (RQ.ext HSS.out HZZ.out HGG.out hx)
      have HQ := hid (RQ.ext HSS.out HZZ.out HQ.out hx)
      have HRR := hid (RQ.ext HSS.out HZZ.out HRR.out hx)
      have HGC := hid (z06 HGC.out (z07 hx o))
      have HMV := hid (HMV.out.ext hx)
      have HZZ := hid (Nat.le_trans HZZ.out hx.size)
      clear hx
      have HST := HCST.out w3 s' HMV.out
      rw [HMS.out] at HST
      have HST1 := hid HST
      clear HST
      go_wp2_with fail
      with_reducible refine HST1.out.mono ?_
      rintro e w4 ⟨rfl, hm, hg⟩
      have HVH := hid (RQ.on HSS.out HZZ.out HOO.out HVH.out hg)
      have HGG := hid (RQ.on HSS.out HZZ.out HOO.out HGG.out hg)
      have HQ := hid (RQ.on HSS.out HZZ.out HOO.out HQ.out hg)
      have HRR := hid (RQ.on HSS.out HZZ.out HOO.out HRR.out hg)
      have HGC := hid (z06 HGC.out hg)
      have HMV := hid hm
      have HZZ := hid (Nat.le_trans HZZ.out hg.size)
      clear hm hg HST1
      go_wp2_with fail
      with_reducible refine (zpf HSS.out HZZ.out HRR.out HFN.out.2 (by have := HBD.out; omega) (by have := HTM.out; omega) HV.out).mono ?_
      rintro e w5 ⟨v5, rfl, hp, hx⟩
      have HVH := hid (RQ.ext HSS.out HZZ.out HVH.out hx)
      have HGG := hid (RQ.ext HSS.out HZZ.out HGG.out hx)
      have HQ := hid (RQ.ext HSS.out HZZ.out HQ.out hx)
      have HRR := hid (RQ.ext HSS.out HZZ.out HRR.out hx)
      have HGC := hid (z06 HGC.out (z07 hx o))
      have HMV := hid (HMV.out.ext hx)
      have HZZ := hid (Nat.le_trans HZZ.out hx.size)
      have HH5 := hid hp
      obtain ⟨a5, c5, rfl⟩ := hp.form
      obtain ⟨n5, hn5⟩ : ∃ n, n = (z18 r v).length := ⟨_, rfl⟩
      rw [← hn5] at HH5 ⊢
      clear hx hp hn5
      go_wp2_with fail
      with_reducible refine (z5r (RQ.old HSS.out HZZ.out HRR.out) HFN.out.2 HI.out).mono ?_
      rintro e w6 ⟨rfl, hx⟩
      have HVH := hid (RQ.ext HSS.out HZZ.out HVH.out hx)
      have HGG := hid (RQ.ext HSS.out HZZ.out HGG.out hx)
      have HQ := hid (RQ.ext HSS.out HZZ.out HQ.out hx)
      have HRR := hid (RQ.ext HSS.out HZZ.out HRR.out hx)
      have HH5 := hid (RQ.ext HSS.out HZZ.out HH5.out hx)
      have HGC := hid (z06 HGC.out (z07 hx o))
      have HMV := hid (HMV.out.ext hx)
      have HZZ := hid (Nat.le_trans HZZ.out hx.size)
      clear hx
      have HPW := zsj (S := S) (W := W) (Y := w6) HZZ.out (x := v) (i := i) HV.out HI3.out
      rw [HI2.out] at HPW
      have HPW1 := hid HPW
      clear HPW
      go_wp2_with fail
      with_reducible refine HPW1.out.mono ?_
      rintro e w7 ⟨v7, rfl, hp, hx⟩
      have HVH := hid (RQ.ext HSS.out HZZ.out HVH.out hx)
      have HGG := hid (RQ.ext HSS.out HZZ.out HGG.out hx)
      have HQ := hid (RQ.ext HSS.out HZZ.out HQ.out hx)
      have HRR := hid (RQ.ext HSS.out HZZ.out HRR.out hx)
      have HH5 := hid (RQ.ext HSS.out HZZ.out HH5.out hx)
      have HGC := hid (z06 HGC.out (z07 hx o))
      have HMV := hid (HMV.out.ext hx)
      have HZZ := hid (Nat.le_trans HZZ.out hx.size)
      have HH7 := hid hp
      obtain ⟨a7, c7, rfl⟩ := hp.form
      obtain ⟨n7, hn7⟩ : ∃ n, n = (powP v i).length := ⟨_, rfl⟩
      rw [← hn7] at HH7 ⊢
      clear hx hp hn7 HPW1
      have HTT := z7o HSS.out HZZ.out HH5.out HH7.out HFHR.out HFPW.out (by have := HBD.out; omega) (by have := HTM.out; omega) (by decide) (by have := HTM.out; omega)
      rw [HT1.out] at HTT
      have HTT1 := hid HTT
      clear HTT
      go_wp2_with fail
      with_reducible refine HTT1.out.mono ?_
      rintro e w8 ⟨v8, rfl, hp, hx⟩
      have HVH := hid (RQ.ext HSS.out HZZ.out HVH.out hx)
      have HGG := hid (RQ.ext HSS.out HZZ.out HGG.out hx)
      have HQ := hid (RQ.ext HSS.out HZZ.out HQ.out hx)
      have HRR := hid (RQ.ext HSS.out HZZ.out HRR.out hx)
      have HH5 := hid (RQ.ext HSS.out HZZ.out HH5.out hx)
      have HH7 := hid (RQ.ext HSS.out HZZ.out HH7.out hx)
      have HGC := hid (z06 HGC.out (z07 hx o))
      have HMV := hid (HMV.out.ext hx)
      have HZZ := hid (Nat.le_trans HZZ.out hx.size)
      have HHT := hid hp
      obtain ⟨a8, c8, rfl⟩ := hp.form
      obtain ⟨n8, hn8⟩ : ∃ n, n = (z4u T1).length := ⟨_, rfl⟩
      rw [← hn8] at HHT ⊢
      obtain ⟨ba, hba⟩ : ∃ b, b = zd8 T1 := ⟨_, rfl⟩
      rw [← hba]
      have Hba := hid hba
      clear hx hp hn8 HTT1 hba
      have HTT := z7o HSS.out HZZ.out HHT.out HGG.out HFT.out HFG.out (by have := HBD.out; omega) (by have := HTM.out; omega) (by have := HTM.out; omega) (by have := HTM.out; omega)
      rw [HL1.out] at HTT
      have HTT1 := hid HTT
      clear HTT
      go_wp2_with fail
      with_reducible refine HTT1.out.mono ?_
      rintro e w9 ⟨v9, rfl, hp, hx⟩
      have HVH := hid (RQ.ext HSS.out HZZ.out HVH.out hx)
      have HGG := hid (RQ.ext HSS.out HZZ.out HGG.out hx)
      have HQ := hid (RQ.ext HSS.out HZZ.out HQ.out hx)
      have HRR := hid (RQ.ext HSS.out HZZ.out HRR.out hx)
      have HH5 := hid (RQ.ext HSS.out HZZ.out HH5.out hx)
      have HH7 := hid (RQ.ext HSS.out HZZ.out HH7.out hx)
      have HHT := hid (RQ.ext HSS.out HZZ.out HHT.out hx)
      have HGC := hid (z06 HGC.out (z07 hx o))
      have HMV := hid (HMV.out.ext hx)
      have HZZ := hid (Nat.le_trans HZZ.out hx.size)
      have HHL := hid hp
      obtain ⟨a9, c9, rfl⟩ := hp.form
      obtain ⟨n9, hn9⟩ : ∃ n, n = (z4u L1).length := ⟨_, rfl⟩
      rw [← hn9] at HHL ⊢
      obtain ⟨bb, hbb⟩ : ∃ b, b = zd8 L1 := ⟨_, rfl⟩
      rw [← hbb]
      have Hbb := hid hbb
      clear hx hp hn9 HTT1 hbb
      have HTT := z7o HSS.out HZZ.out HVH.out HRR.out HFH.out HFN.out.2 (by have := HBD.out; omega) (by have := HTM.out; omega) (by have := HTM.out; omega) (by have := HTM.out; omega)
      rw [HM1.out] at HTT
      have HTT1 := hid HTT
      clear HTT
      go_wp2_with fail
      with_reducible refine HTT1.out.mono ?_
      rintro e w10 ⟨v10, rfl, hp, hx⟩
      have HVH := hid (RQ.ext HSS.out HZZ.out HVH.out hx)
      have HGG := hid (RQ.ext HSS.out HZZ.out HGG.out hx)
      have HQ := hid (RQ.ext HSS.out HZZ.out HQ.out hx)
      have HRR := hid (RQ.ext HSS.out HZZ.out HRR.out hx)
      have HH5 := hid (RQ.ext HSS.out HZZ.out HH5.out hx)
      have HH7 := hid (RQ.ext HSS.out HZZ.out HH7.out hx)
      have HHT := hid (RQ.ext HSS.out HZZ.out HHT.out hx)
      have HHL := hid (RQ.ext HSS.out HZZ.out HHL.out hx)
      have HGC := hid (z06 HGC.out (z07 hx o))
      have HMV := hid (HMV.out.ext hx)
      have HZZ := hid (Nat.le_trans HZZ.out hx.size)
      have HHM := hid hp
      obtain ⟨a10, c10, rfl⟩ := hp.form
      obtain ⟨n10, hn10⟩ : ∃ n, n = (z4u M1).length := ⟨_, rfl⟩
      rw [← hn10] at HHM ⊢
      obtain ⟨bm, hbm⟩ : ∃ b, b = zd8 M1 := ⟨_, rfl⟩
      rw [← hbm]
      have Hbm := hid hbm
      clear hx hp hn10 HTT1 hbm
      have HTT := z7o HSS.out HZZ.out HVH.out HQ.out HFH.out HFN.out.1 (by have := HBD.out; omega) (by have := HTM.out; omega) (by have := HTM.out; omega) (by have := HTM.out; omega)
      rw [HU1.out] at HTT
      have HTT1 := hid HTT
      clear HTT
      go_wp2_with fail
      with_reducible refine HTT1.out.mono ?_
      rintro e w11 ⟨v11, rfl, hp, hx⟩
      have HVH := hid (RQ.ext HSS.out HZZ.out HVH.out hx)
      have HGG := hid (RQ.ext HSS.out HZZ.out HGG.out hx)
      have HQ := hid (RQ.ext HSS.out HZZ.out HQ.out hx)
      have HRR := hid (RQ.ext HSS.out HZZ.out HRR.out hx)
      have HH5 := hid (RQ.ext HSS.out HZZ.out HH5.out hx)
      have HH7 := hid (RQ.ext HSS.out HZZ.out HH7.out hx)
      have HHT := hid (RQ.ext HSS.out HZZ.out HHT.out hx)
      have HHL := hid (RQ.ext HSS.out HZZ.out HHL.out hx)
      have HHM := hid (RQ.ext HSS.out HZZ.out HHM.out hx)
      have HGC := hid (z06 HGC.out (z07 hx o))
      have HMV := hid (HMV.out.ext hx)
      have HZZ := hid (Nat.le_trans HZZ.out hx.size)
      have HHU := hid hp
      obtain ⟨a11, c11, rfl⟩ := hp.form
      obtain ⟨n11, hn11⟩ : ∃ n, n = (z4u U1).length := ⟨_, rfl⟩
      rw [← hn11] at HHU ⊢
      obtain ⟨bu, hbu⟩ : ∃ b, b = zd8 U1 := ⟨_, rfl⟩
      rw [← hbu]
      have Hbu := hid hbu
      clear hx hp hn11 HTT1 hbu
      have HRX : Hid (z2o keep g h v d q r = none → R = ⟨8, [], [], 0, mexp o s1⟩) := hid (fun e => by rw [← HR.out, z2c, if_neg HSTOP.out, zpg HMS.out HC1.out e])
      cases T1 with
      | none =>
       have hba : ba = false := Hba.out
       subst hba
       have HRE := hid (HRX.out (by unfold z2o; rw [HTD.out, HT1.out]))
       go_wp2_with fail
       with_reducible refine (HCRF.out _ _ HMV.out).mono ?_
       rintro e w12 ⟨rfl, hm, hg⟩
       have HVH := hid (RQ.on HSS.out HZZ.out HOO.out HVH.out hg)
       have HGG := hid (RQ.on HSS.out HZZ.out HOO.out HGG.out hg)
       have HQ := hid (RQ.on HSS.out HZZ.out HOO.out HQ.out hg)
       have HRR := hid (RQ.on HSS.out HZZ.out HOO.out HRR.out hg)
       have HH5 := hid (RQ.on HSS.out HZZ.out HOO.out HH5.out hg)
       have HH7 := hid (RQ.on HSS.out HZZ.out HOO.out HH7.out hg)
       have HHT := hid (RQ.on HSS.out HZZ.out HOO.out HHT.out hg)
       have HHL := hid (RQ.on HSS.out HZZ.out HOO.out HHL.out hg)
       have HHM := hid (RQ.on HSS.out HZZ.out HOO.out HHM.out hg)
       have HHU := hid (RQ.on HSS.out HZZ.out HOO.out HHU.out hg)
       have HGC := hid (z06 HGC.out hg)
       have HMV := hid hm
       have HZZ := hid (Nat.le_trans HZZ.out hg.size)
       clear hm hg
       go_wp2
       all_goals
        refine bodyPost_ret (v := .tuple #[.slice none 0 0, .slice none 0 0, .int .i64 0, .int .i64 8]) (by simp [results, Tryz.results55, go_sem]) rfl ?_
        rw [HRE.out]; exact ⟨_, _, rfl, HMV.out, z06 HG2.out HGC.out, RTs.nilv _ _ _ _ (by decide), RTs.nilv _ _ _ _ (by decide)⟩
      | some t =>
       have hba : ba = true := Hba.out
       subst hba
       cases L1 with
       | none =>
        have hbb : bb = false := Hbb.out
        subst hbb
        have HRE := hid (HRX.out (by unfold z2o; rw [HTD.out, HT1.out]; simp only; rw [show z0e t g = none from HL1.out]))
        go_wp2_with fail
        with_reducible refine (HCRF.out _ _ HMV.out).mono ?_
        rintro e w12 ⟨rfl, hm, hg⟩
        have HVH := hid (RQ.on HSS.out HZZ.out HOO.out HVH.out hg)
        have HGG := hid (RQ.on HSS.out HZZ.out HOO.out HGG.out hg)
        have HQ := hid (RQ.on HSS.out HZZ.out HOO.out HQ.out hg)
        have HRR := hid (RQ.on HSS.out HZZ.out HOO.out HRR.out hg)
        have HH5 := hid (RQ.on HSS.out HZZ.out HOO.out HH5.out hg)
        have HH7 := hid (RQ.on HSS.out HZZ.out HOO.out HH7.out hg)
        have HHT := hid (RQ.on HSS.out HZZ.out HOO.out HHT.out hg)
        have HHL := hid (RQ.on HSS.out HZZ.out HOO.out HHL.out hg)
        have HHM := hid (RQ.on HSS.out HZZ.out HOO.out HHM.out hg)
        have HHU := hid (RQ.on HSS.out HZZ.out HOO.out HHU.out hg)
        have HGC := hid (z06 HGC.out hg)
        have HMV := hid hm
        have HZZ := hid (Nat.le_trans HZZ.out hg.size)
        clear hm hg
        go_wp2
        all_goals
         refine bodyPost_ret (v := .tuple #[.slice none 0 0, .slice none 0 0, .int .i64 0, .int .i64 8]) (by simp [results, Tryz.results55, go_sem]) rfl ?_
         rw [HRE.out]; exact ⟨_, _, rfl, HMV.out, z06 HG2.out HGC.out, RTs.nilv _ _ _ _ (by decide), RTs.nilv _ _ _ _ (by decide)⟩
       | some l =>
        have hbb : bb = true := Hbb.out
        subst hbb
        cases M1 with
        | none =>
         have hbm : bm = false := Hbm.out
         subst hbm
         have HRE := hid (HRX.out (by unfold z2o; rw [HTD.out, HT1.out]; simp only; rw [show z0e t g = some l from HL1.out]; simp only; rw [HM1.out]))
         go_wp2_with fail
         with_reducible refine (HCRF.out _ _ HMV.out).mono ?_
         rintro e w12 ⟨rfl, hm, hg⟩
         have HVH := hid (RQ.on HSS.out HZZ.out HOO.out HVH.out hg)
         have HGG := hid (RQ.on HSS.out HZZ.out HOO.out HGG.out hg)
         have HQ := hid (RQ.on HSS.out HZZ.out HOO.out HQ.out hg)
         have HRR := hid (RQ.on HSS.out HZZ.out HOO.out HRR.out hg)
         have HH5 := hid (RQ.on HSS.out HZZ.out HOO.out HH5.out hg)
         have HH7 := hid (RQ.on HSS.out HZZ.out HOO.out HH7.out hg)
         have HHT := hid (RQ.on HSS.out HZZ.out HOO.out HHT.out hg)
         have HHL := hid (RQ.on HSS.out HZZ.out HOO.out HHL.out hg)
         have HHM := hid (RQ.on HSS.out HZZ.out HOO.out HHM.out hg)
         have HHU := hid (RQ.on HSS.out HZZ.out HOO.out HHU.out hg)
         have HGC := hid (z06 HGC.out hg)
         have HMV := hid hm
         have HZZ := hid (Nat.le_trans HZZ.out hg.size)
         clear hm hg
         go_wp2
         all_goals
          refine bodyPost_ret (v := .tuple #[.slice none 0 0, .slice none 0 0, .int .i64 0, .int .i64 8]) (by simp [results, Tryz.results55, go_sem]) rfl ?_
          rw [HRE.out]; exact ⟨_, _, rfl, HMV.out, z06 HG2.out HGC.out, RTs.nilv _ _ _ _ (by decide), RTs.nilv _ _ _ _ (by decide)⟩
        | some m =>
         have hbm : bm = true := Hbm.out
         subst hbm
         have HFT := hid (show Fit (B + 3) M t from HFT.out)
         have HFL := hid (show Fit (B + A + 5) (T * M) l from HFL.out)
         have HFM := hid (show Fit (B + A + 5) (T * M) m from HFM.out)
         have HHT := hid (show RQ S W _ _ t from HHT.out)
         have HHL := hid (show RQ S W _ _ l from HHL.out)
         have HHM := hid (show RQ S W _ _ m from HHM.out)
         have HL1 : Hid (z0e t g = some l) := HL1
         have HFR2 := hid ((HFM.out.add HFL.out.neg (by have := HTM.out; omega)).mono (l := B + A + 7) (m := 2 * T * M) (by omega) (by have := HTM.out; omega))
         cases hk1 : z0o o s1 (z0m (m ++ negP l)) with
         | mk c2 s2 =>
          have HK1 := hid hk1
          have HE1 : Hid (c2 = 0 → s2 = s1) := hid (fun h => by have := z4f (o := o) (s := s1) (p := z0m (m ++ negP l)) (by rw [hk1]; exact h); rw [hk1] at this; exact this)
          clear hk1
          cases keep with
          | false =>
           have HQN : Hid (q = []) := hid (HKQ.out rfl)
           have HSD : Hid (z2o false g h v d q r = some ([], z0m (m ++ negP l))) := hid (by unfold z2o; rw [HTD.out, HT1.out]; simp only; rw [HL1.out]; simp only; rw [HM1.out]; rfl)
           by_cases hc2 : c2 ≠ 0
           ·have q3 : (c2 != 0) = true := by rw [bne_iff_ne]; exact hc2
            have q3' : (c2 == 0) = false := by rw [beq_eq_false_iff_ne]; exact hc2
            have HRE : Hid (R = ⟨c2, [], [], 0, s2⟩) := hid (by rw [← HR.out, z2c, if_neg HSTOP.out, zc2 (x := ([], z0m (m ++ negP l))) HMS.out HC1.out HSD.out HK1.out hc2])
            clear hc2
            go_wp2_with fail
            with_reducible refine (zdh HSS.out HZZ.out HHM.out HHL.out HFM.out HFL.out (by have := HBD.out; omega) (by have := HBD.out; omega) (by have := HTM.out; omega)).mono ?_
            rintro e w12 ⟨v12, rfl, hp, hx⟩
            have HVH := hid (RQ.ext HSS.out HZZ.out HVH.out hx)
            have HGG := hid (RQ.ext HSS.out HZZ.out HGG.out hx)
            have HQ := hid (RQ.ext HSS.out HZZ.out HQ.out hx)
            have HRR := hid (RQ.ext HSS.out HZZ.out HRR.out hx)
            have HH5 := hid (RQ.ext HSS.out HZZ.out HH5.out hx)
            have HH7 := hid (RQ.ext HSS.out HZZ.out HH7.out hx)
            have HHT := hid (RQ.ext HSS.out HZZ.out HHT.out hx)
            have HHL := hid (RQ.ext HSS.out HZZ.out HHL.out hx)
            have HHM := hid (RQ.ext HSS.out HZZ.out HHM.out hx)
            have HHU := hid (RQ.ext HSS.out HZZ.out HHU.out hx)
            have HGC := hid (z06 HGC.out (z07 hx o))
            have HMV := hid (HMV.out.ext hx)
            have HZZ := hid (Nat.le_trans HZZ.out hx.size)
            have HH12 := hid hp
            obtain ⟨a12, c12, rfl⟩ := hp.form
            obtain ⟨n12, hn12⟩ : ∃ n, n = (z0m (m ++ negP l)).length := ⟨_, rfl⟩
            rw [← hn12] at HH12 ⊢
            clear hx hp hn12
            have HKT := HCKP.out w12 s1 _ (z0m (m ++ negP l)) _ _ HMV.out HZZ.out HH12.out HFR2.out (by have := HBD.out; omega) (by have := HTM.out; omega)
            rw [HK1.out] at HKT
            have HKT1 := hid HKT
            clear HKT
            go_wp2_with fail
            with_reducible refine HKT1.out.mono ?_
            rintro e w13 ⟨rfl, hm, hg⟩
            have HVH := hid (RQ.on HSS.out HZZ.out HOO.out HVH.out hg)
            have HGG := hid (RQ.on HSS.out HZZ.out HOO.out HGG.out hg)
            have HQ := hid (RQ.on HSS.out HZZ.out HOO.out HQ.out hg)
            have HRR := hid (RQ.on HSS.out HZZ.out HOO.out HRR.out hg)
            have HH5 := hid (RQ.on HSS.out HZZ.out HOO.out HH5.out hg)
            have HH7 := hid (RQ.on HSS.out HZZ.out HOO.out HH7.out hg)
            have HHT := hid (RQ.on HSS.out HZZ.out HOO.out HHT.out hg)
            have HHL := hid (RQ.on HSS.out HZZ.out HOO.out HHL.out hg)
            have HHM := hid (RQ.on HSS.out HZZ.out HOO.out HHM.out hg)
            have HHU := hid (RQ.on HSS.out HZZ.out HOO.out HHU.out hg)
            have HH12 := hid (RQ.on HSS.out HZZ.out HOO.out HH12.out hg)
            have HGC := hid (z06 HGC.out hg)
            have HMV := hid hm
            have HZZ := hid (Nat.le_trans HZZ.out hg.size)
            clear hm hg HKT1
            go_wp2
            all_goals
             refine bodyPost_ret (v := .tuple #[.slice none 0 0, .slice none 0 0, .int .i64 0, .int .i64 c2]) (by simp [results, Tryz.results55, go_sem]) rfl ?_
             rw [HRE.out]; exact ⟨_, _, rfl, HMV.out, z06 HG2.out HGC.out, RTs.nilv _ _ _ _ (by decide), RTs.nilv _ _ _ _ (by decide)⟩
           ·have hc2e : c2 = 0 := Decidable.not_not.1 hc2
            subst hc2e
            have HS2 := hid (HE1.out rfl)
            have HC2 := hid hc2
            clear hc2
            cases hk2 : z0o o s1 [] with
            | mk c3 s3 =>
             have HK2 := hid hk2
             have HE2 : Hid (c3 = 0 → s3 = s1) := hid (fun h => by have := z4f (o := o) (s := s1) (p := []) (by rw [hk2]; exact h); rw [hk2] at this; exact this)
             clear hk2
             by_cases hc3 : c3 ≠ 0
             ·have q4 : (c3 != 0) = true := by rw [bne_iff_ne]; exact hc3
              have HRE : Hid (R = ⟨c3, [], [], 0, s3⟩) := hid (by rw [← HR.out, z2c, if_neg HSTOP.out, zc3 (x := ([], z0m (m ++ negP l))) HMS.out HC1.out HSD.out HK1.out HC2.out HK2.out hc3])
              clear hc3
              go_wp2_with fail
              with_reducible refine (zdh HSS.out HZZ.out HHM.out HHL.out HFM.out HFL.out (by have := HBD.out; omega) (by have := HBD.out; omega) (by have := HTM.out; omega)).mono ?_
              rintro e w12 ⟨v12, rfl, hp, hx⟩
              have HVH := hid (RQ.ext HSS.out HZZ.out HVH.out hx)
              have HGG := hid (RQ.ext HSS.out HZZ.out HGG.out hx)
              have HQ := hid (RQ.ext HSS.out HZZ.out HQ.out hx)
              have HRR := hid (RQ.ext HSS.out HZZ.out HRR.out hx)
              have HH5 := hid (RQ.ext HSS.out HZZ.out HH5.out hx)
              have HH7 := hid (RQ.ext HSS.out HZZ.out HH7.out hx)
              have HHT := hid (RQ.ext HSS.out HZZ.out HHT.out hx)
              have HHL := hid (RQ.ext HSS.out HZZ.out HHL.out hx)
              have HHM := hid (RQ.ext HSS.out HZZ.out HHM.out hx)
              have HHU := hid (RQ.ext HSS.out HZZ.out HHU.out hx)
              have HGC := hid (z06 HGC.out (z07 hx o))
              have HMV := hid (HMV.out.ext hx)
              have HZZ := hid (Nat.le_trans HZZ.out hx.size)
              have HH12 := hid hp
              obtain ⟨a12, c12, rfl⟩ := hp.form
              obtain ⟨n12, hn12⟩ : ∃ n, n = (z0m (m ++ negP l)).length := ⟨_, rfl⟩
              rw [← hn12] at HH12 ⊢
              clear hx hp hn12
              have HKT := HCKP.out w12 s1 _ (z0m (m ++ negP l)) _ _ HMV.out HZZ.out HH12.out HFR2.out (by have := HBD.out; omega) (by have := HTM.out; omega)
              rw [HK1.out] at HKT
              have HKT1 := hid HKT
              clear HKT
              go_wp2_with fail
              with_reducible refine HKT1.out.mono ?_
              rintro e w13 ⟨rfl, hm, hg⟩
              have HVH := hid (RQ.on HSS.out HZZ.out HOO.out HVH.out hg)
              have HGG := hid (RQ.on HSS.out HZZ.out HOO.out HGG.out hg)
              have HQ := hid (RQ.on HSS.out HZZ.out HOO.out HQ.out hg)
              have HRR := hid (RQ.on HSS.out HZZ.out HOO.out HRR.out hg)
              have HH5 := hid (RQ.on HSS.out HZZ.out HOO.out HH5.out hg)
              have HH7 := hid (RQ.on HSS.out HZZ.out HOO.out HH7.out hg)
              have HHT := hid (RQ.on HSS.out HZZ.out HOO.out HHT.out hg)
              have HHL := hid (RQ.on HSS.out HZZ.out HOO.out HHL.out hg)
              have HHM := hid (RQ.on HSS.out HZZ.out HOO.out HHM.out hg)
              have HHU := hid (RQ.on HSS.out HZZ.out HOO.out HHU.out hg)
              have HH12 := hid (RQ.on HSS.out HZZ.out HOO.out HH12.out hg)
              have HGC := hid (z06 HGC.out hg)
              have HMV := hid hm
              have HZZ := hid (Nat.le_trans HZZ.out hg.size)
              clear hm hg HKT1
              have HMV : Hid (RMV _ o s1) := hid (by have h := HMV.out; rw [HS2.out] at h; exact h)
              have HKT := HCKP.out w13 s1 _ _ _ _ HMV.out HZZ.out HQ.out HFN.out.1 (by have := HBD.out; omega) (by have := HTM.out; omega)
              rw [HQN.out, HK2.out] at HKT
              have HKT1 := hid HKT
              clear HKT
              go_wp2_with fail
              with_reducible refine HKT1.out.mono ?_
              rintro e w14 ⟨rfl, hm, hg⟩
              have HVH := hid (RQ.on HSS.out HZZ.out HOO.out HVH.out hg)
              have HGG := hid (RQ.on HSS.out HZZ.out HOO.out HGG.out hg)
              have HQ := hid (RQ.on HSS.out HZZ.out HOO.out HQ.out hg)
              have HRR := hid (RQ.on HSS.out HZZ.out HOO.out HRR.out hg)
              have HH5 := hid (RQ.on HSS.out HZZ.out HOO.out HH5.out hg)
              have HH7 := hid (RQ.on HSS.out HZZ.out HOO.out HH7.out hg)
              have HHT := hid (RQ.on HSS.out HZZ.out HOO.out HHT.out hg)
              have HHL := hid (RQ.on HSS.out HZZ.out HOO.out HHL.out hg)
              have HHM := hid (RQ.on HSS.out HZZ.out HOO.out HHM.out hg)
              have HHU := hid (RQ.on HSS.out HZZ.out HOO.out HHU.out hg)
              have HH12 := hid (RQ.on HSS.out HZZ.out HOO.out HH12.out hg)
              have HGC := hid (z06 HGC.out hg)
              have HMV := hid hm
              have HZZ := hid (Nat.le_trans HZZ.out hg.size)
              clear hm hg HKT1
              go_wp2
              all_goals
               refine bodyPost_ret (v := .tuple #[.slice none 0 0, .slice none 0 0, .int .i64 0, .int .i64 c3]) (by simp [results, Tryz.results55, go_sem]) rfl ?_
               rw [HRE.out]; exact ⟨_, _, rfl, HMV.out, z06 HG2.out HGC.out, RTs.nilv _ _ _ _ (by decide), RTs.nilv _ _ _ _ (by decide)⟩
             ·have hc3e : c3 = 0 := Decidable.not_not.1 hc3
              subst hc3e
              have HS3 := hid (HE2.out rfl)
              have HRE : Hid (runD o false g h v d k1 s1 q (z0m (m ++ negP l)) (n + 1) = R) := hid (by rw [← HR.out, z2c, if_neg HSTOP.out, zjg (x := ([], z0m (m ++ negP l))) HMS.out HC1.out HSD.out HK1.out HC2.out HK2.out hc3]; rw [HQN.out])
              have HSDG : Hid (degP (z0m (m ++ negP l)) v < degP r v) := hid (z90 (keep := false) (g := g) (q := q) (r := r) (v := v) (x := ([], z0m (m ++ negP l))) HFG.out.can HFN.out.2.can HR0'.out HV.out (by rw [← HD2.out]; exact HDD.out) (by rw [← HD2.out]; exact HLE.out) (by rw [← HD2.out, ← HH2.out]; exact HSD.out)).2
              have HFN2 : Hid (z3g o false g h v d B M k1 s1 q (z0m (m ++ negP l))) := hid (by
               have h1 := HF.out.2.2 HR0'.out HLE.out (by rw [HMS.out]; exact Decidable.not_not.1 HC1.out) ([], z0m (m ++ negP l)) HSD.out (by rw [HMS.out, HK1.out]) (by rw [HMS.out, HK2.out])
               rw [HMS.out] at h1; rw [HQN.out]
               exact h1)
              clear hc3
              go_wp2_with fail
              with_reducible refine (zdh HSS.out HZZ.out HHM.out HHL.out HFM.out HFL.out (by have := HBD.out; omega) (by have := HBD.out; omega) (by have := HTM.out; omega)).mono ?_
              rintro e w12 ⟨v12, rfl, hp, hx⟩
              have HVH := hid (RQ.ext HSS.out HZZ.out HVH.out hx)
              have HGG := hid (RQ.ext HSS.out HZZ.out HGG.out hx)
              have HQ := hid (RQ.ext HSS.out HZZ.out HQ.out hx)
              have HRR := hid (RQ.ext HSS.out HZZ.out HRR.out hx)
              have HH5 := hid (RQ.ext HSS.out HZZ.out HH5.out hx)
              have HH7 := hid (RQ.ext HSS.out HZZ.out HH7.out hx)
              have HHT := hid (RQ.ext HSS.out HZZ.out HHT.out hx)
              have HHL := hid (RQ.ext HSS.out HZZ.out HHL.out hx)
              have HHM := hid (RQ.ext HSS.out HZZ.out HHM.out hx)
              have HHU := hid (RQ.ext HSS.out HZZ.out HHU.out hx)
              have HGC := hid (z06 HGC.out (z07 hx o))
              have HMV := hid (HMV.out.ext hx)
              have HZZ := hid (Nat.le_trans HZZ.out hx.size)
              have HH12 := hid hp
              obtain ⟨a12, c12, rfl⟩ := hp.form
              obtain ⟨n12, hn12⟩ : ∃ n, n = (z0m (m ++ negP l)).length := ⟨_, rfl⟩
              rw [← hn12] at HH12 ⊢
              clear hx hp hn12
              have HKT := HCKP.out w12 s1 _ (z0m (m ++ negP l)) _ _ HMV.out HZZ.out HH12.out HFR2.out (by have := HBD.out; omega) (by have := HTM.out; omega)
              rw [HK1.out] at HKT
              have HKT1 := hid HKT
              clear HKT
              go_wp2_with fail
              with_reducible refine HKT1.out.mono ?_
              rintro e w13 ⟨rfl, hm, hg⟩
              have HVH := hid (RQ.on HSS.out HZZ.out HOO.out HVH.out hg)
              have HGG := hid (RQ.on HSS.out HZZ.out HOO.out HGG.out hg)
              have HQ := hid (RQ.on HSS.out HZZ.out HOO.out HQ.out hg)
              have HRR := hid (RQ.on HSS.out HZZ.out HOO.out HRR.out hg)
              have HH5 := hid (RQ.on HSS.out HZZ.out HOO.out HH5.out hg)
              have HH7 := hid (RQ.on HSS.out HZZ.out HOO.out HH7.out hg)
              have HHT := hid (RQ.on HSS.out HZZ.out HOO.out HHT.out hg)
              have HHL := hid (RQ.on HSS.out HZZ.out HOO.out HHL.out hg)
              have HHM := hid (RQ.on HSS.out HZZ.out HOO.out HHM.out hg)
              have HHU := hid (RQ.on HSS.out HZZ.out HOO.out HHU.out hg)
              have HH12 := hid (RQ.on HSS.out HZZ.out HOO.out HH12.out hg)
              have HGC := hid (z06 HGC.out hg)
              have HMV := hid hm
              have HZZ := hid (Nat.le_trans HZZ.out hg.size)
              clear hm hg HKT1
              have HMV : Hid (RMV _ o s1) := hid (by have h := HMV.out; rw [HS2.out] at h; exact h)
              have HKT := HCKP.out w13 s1 _ _ _ _ HMV.out HZZ.out HQ.out HFN.out.1 (by have := HBD.out; omega) (by have := HTM.out; omega)
              rw [HQN.out, HK2.out] at HKT
              have HKT1 := hid HKT
              clear HKT
              go_wp2_with fail
              with_reducible refine HKT1.out.mono ?_
              rintro e w14 ⟨rfl, hm, hg⟩
              have HVH := hid (RQ.on HSS.out HZZ.out HOO.out HVH.out hg)
              have HGG := hid (RQ.on HSS.out HZZ.out HOO.out HGG.out hg)
              have HQ := hid (RQ.on HSS.out HZZ.out HOO.out HQ.out hg)
              have HRR := hid (RQ.on HSS.out HZZ.out HOO.out HRR.out hg)
              have HH5 := hid (RQ.on HSS.out HZZ.out HOO.out HH5.out hg)
              have HH7 := hid (RQ.on HSS.out HZZ.out HOO.out HH7.out hg)
              have HHT := hid (RQ.on HSS.out HZZ.out HOO.out HHT.out hg)
              have HHL := hid (RQ.on HSS.out HZZ.out HOO.out HHL.out hg)
              have HHM := hid (RQ.on HSS.out HZZ.out HOO.out HHM.out hg)
              have HHU := hid (RQ.on HSS.out HZZ.out HOO.out HHU.out hg)
              have HH12 := hid (RQ.on HSS.out HZZ.out HOO.out HH12.out hg)
              have HGC := hid (z06 HGC.out hg)
              have HMV := hid hm
              have HZZ := hid (Nat.le_trans HZZ.out hg.size)
              clear hm hg HKT1
              have HMV : Hid (RMV _ o s1) := hid (by have h := HMV.out; rw [HS3.out] at h; exact h)
              go_wp2
              go_roundw
              case rel => have HKQN := HKQ; exact ⟨k1, s1, q, z0m (m ++ negP l), n + 1, by go_num, HGC, HRE, by show _ < _; have h1 := HSDG.out; have h2 := HDG.out; omega, HFN2, HQ, HH12, HMV, by show _ = _; have := HNK.out; omega, HKQN⟩
              case measure => simp only [intOf]; have := HNK.out; omega
          | true =>
           cases U1 with
           | none =>
            have hbu : bu = false := Hbu.out
            subst hbu
            have HRE := hid (HRX.out (by unfold z2o; rw [HTD.out, HT1.out]; simp only; rw [HL1.out]; simp only; rw [HM1.out]; simp only [if_true]; rw [HU1.out]))
            go_wp2_with fail
            with_reducible refine (HCRF.out _ _ HMV.out).mono ?_
            rintro e w12 ⟨rfl, hm, hg⟩
            have HVH := hid (RQ.on HSS.out HZZ.out HOO.out HVH.out hg)
            have HGG := hid (RQ.on HSS.out HZZ.out HOO.out HGG.out hg)
            have HQ := hid (RQ.on HSS.out HZZ.out HOO.out HQ.out hg)
            have HRR := hid (RQ.on HSS.out HZZ.out HOO.out HRR.out hg)
            have HH5 := hid (RQ.on HSS.out HZZ.out HOO.out HH5.out hg)
            have HH7 := hid (RQ.on HSS.out HZZ.out HOO.out HH7.out hg)
            have HHT := hid (RQ.on HSS.out HZZ.out HOO.out HHT.out hg)
            have HHL := hid (RQ.on HSS.out HZZ.out HOO.out HHL.out hg)
            have HHM := hid (RQ.on HSS.out HZZ.out HOO.out HHM.out hg)
            have HHU := hid (RQ.on HSS.out HZZ.out HOO.out HHU.out hg)
            have HGC := hid (z06 HGC.out hg)
            have HMV := hid hm
            have HZZ := hid (Nat.le_trans HZZ.out hg.size)
            clear hm hg
            go_wp2
            all_goals
             refine bodyPost_ret (v := .tuple #[.slice none 0 0, .slice none 0 0, .int .i64 0, .int .i64 8]) (by simp [results, Tryz.results55, go_sem]) rfl ?_
             rw [HRE.out]; exact ⟨_, _, rfl, HMV.out, z06 HG2.out HGC.out, RTs.nilv _ _ _ _ (by decide), RTs.nilv _ _ _ _ (by decide)⟩
           | some u =>
            have hbu : bu = true := Hbu.out
            subst hbu
            have HFU := hid (show Fit (B + A + 5) (T * M) u from HFU.out)
            have HHU := hid (show RQ S W _ _ u from HHU.out)
            have HFQ2 := hid ((HFU.out.add (HFT.out.mono (l := B + A + 5) (m := T * M) (by omega) (by have := HTM.out; omega)) (by have := HTM.out; omega)).mono (l := B + A + 7) (m := 2 * T * M) (by omega) (by have := HTM.out; omega))
            have HSD : Hid (z2o true g h v d q r = some (z0m (u ++ t), z0m (m ++ negP l))) := hid (by unfold z2o; rw [HTD.out, HT1.out]; simp only; rw [HL1.out]; simp only; rw [HM1.out]; simp only [if_true]; rw [HU1.out])
            by_cases hc2 : c2 ≠ 0
            ·have q3 : (c2 != 0) = true := by rw [bne_iff_ne]; exact hc2
             have q3' : (c2 == 0) = false := by rw [beq_eq_false_iff_ne]; exact hc2
             have HRE : Hid (R = ⟨c2, [], [], 0, s2⟩) := hid (by rw [← HR.out, z2c, if_neg HSTOP.out, zc2 (x := (z0m (u ++ t), z0m (m ++ negP l))) HMS.out HC1.out HSD.out HK1.out hc2])
             clear hc2
             go_wp2_with fail
             with_reducible refine (zdh HSS.out HZZ.out HHM.out HHL.out HFM.out HFL.out (by have := HBD.out; omega) (by have := HBD.out; omega) (by have := HTM.out; omega)).mono ?_
             rintro e w12 ⟨v12, rfl, hp, hx⟩
             have HVH := hid (RQ.ext HSS.out HZZ.out HVH.out hx)
             have HGG := hid (RQ.ext HSS.out HZZ.out HGG.out hx)
             have HQ := hid (RQ.ext HSS.out HZZ.out HQ.out hx)
             have HRR := hid (RQ.ext HSS.out HZZ.out HRR.out hx)
             have HH5 := hid (RQ.ext HSS.out HZZ.out HH5.out hx)
             have HH7 := hid (RQ.ext HSS.out HZZ.out HH7.out hx)
             have HHT := hid (RQ.ext HSS.out HZZ.out HHT.out hx)
             have HHL := hid (RQ.ext HSS.out HZZ.out HHL.out hx)
             have HHM := hid (RQ.ext HSS.out HZZ.out HHM.out hx)
             have HHU := hid (RQ.ext HSS.out HZZ.out HHU.out hx)
             have HGC := hid (z06 HGC.out (z07 hx o))
             have HMV := hid (HMV.out.ext hx)
             have HZZ := hid (Nat.le_trans HZZ.out hx.size)
             have HH12 := hid hp
             obtain ⟨a12, c12, rfl⟩ := hp.form
             obtain ⟨n12, hn12⟩ : ∃ n, n = (z0m (m ++ negP l)).length := ⟨_, rfl⟩
             rw [← hn12] at HH12 ⊢
             clear hx hp hn12
             go_wp2_with fail
             with_reducible refine (zpe HSS.out HZZ.out HHU.out HHT.out HFU.out HFT.out (by have := HBD.out; omega) (by have := HBD.out; omega) (by have := HTM.out; omega)).mono ?_
             rintro e w13 ⟨v13, rfl, hp, hx⟩
             have HVH := hid (RQ.ext HSS.out HZZ.out HVH.out hx)
             have HGG := hid (RQ.ext HSS.out HZZ.out HGG.out hx)
             have HQ := hid (RQ.ext HSS.out HZZ.out HQ.out hx)
             have HRR := hid (RQ.ext HSS.out HZZ.out HRR.out hx)
             have HH5 := hid (RQ.ext HSS.out HZZ.out HH5.out hx)
             have HH7 := hid (RQ.ext HSS.out HZZ.out HH7.out hx)
             have HHT := hid (RQ.ext HSS.out HZZ.out HHT.out hx)
             have HHL := hid (RQ.ext HSS.out HZZ.out HHL.out hx)
             have HHM := hid (RQ.ext HSS.out HZZ.out HHM.out hx)
             have HHU := hid (RQ.ext HSS.out HZZ.out HHU.out hx)
             have HH12 := hid (RQ.ext HSS.out HZZ.out HH12.out hx)
             have HGC := hid (z06 HGC.out (z07 hx o))
             have HMV := hid (HMV.out.ext hx)
             have HZZ := hid (Nat.le_trans HZZ.out hx.size)
             have HH13 := hid hp
             obtain ⟨a13, c13, rfl⟩ := hp.form
             obtain ⟨n13, hn13⟩ : ∃ n, n = (z0m (u ++ t)).length := ⟨_, rfl⟩
             rw [← hn13] at HH13 ⊢
             clear hx hp hn13
             have HKT := HCKP.out w13 s1 _ (z0m (m ++ negP l)) _ _ HMV.out HZZ.out HH12.out HFR2.out (by have := HBD.out; omega) (by have := HTM.out; omega)
             rw [HK1.out] at HKT
             have HKT1 := hid HKT
             clear HKT
             go_wp2_with fail
             with_reducible refine HKT1.out.mono ?_
             rintro e w14 ⟨rfl, hm, hg⟩
             have HVH := hid (RQ.on HSS.out HZZ.out HOO.out HVH.out hg)
             have HGG := hid (RQ.on HSS.out HZZ.out HOO.out HGG.out hg)
             have HQ := hid (RQ.on HSS.out HZZ.out HOO.out HQ.out hg)
             have HRR := hid (RQ.on HSS.out HZZ.out HOO.out HRR.out hg)
             have HH5 := hid (RQ.on HSS.out HZZ.out HOO.out HH5.out hg)
             have HH7 := hid (RQ.on HSS.out HZZ.out HOO.out HH7.out hg)
             have HHT := hid (RQ.on HSS.out HZZ.out HOO.out HHT.out hg)
             have HHL := hid (RQ.on HSS.out HZZ.out HOO.out HHL.out hg)
             have HHM := hid (RQ.on HSS.out HZZ.out HOO.out HHM.out hg)
             have HHU := hid (RQ.on HSS.out HZZ.out HOO.out HHU.out hg)
             have HH12 := hid (RQ.on HSS.out HZZ.out HOO.out HH12.out hg)
             have HH13 := hid (RQ.on HSS.out HZZ.out HOO.out HH13.out hg)
             have HGC := hid (z06 HGC.out hg)
             have HMV := hid hm
             have HZZ := hid (Nat.le_trans HZZ.out hg.size)
             clear hm hg HKT1
             go_wp2
             all_goals
              refine bodyPost_ret (v := .tuple #[.slice none 0 0, .slice none 0 0, .int .i64 0, .int .i64 c2]) (by simp [results, Tryz.results55, go_sem]) rfl ?_
              rw [HRE.out]; exact ⟨_, _, rfl, HMV.out, z06 HG2.out HGC.out, RTs.nilv _ _ _ _ (by decide), RTs.nilv _ _ _ _ (by decide)⟩
            ·have hc2e : c2 = 0 := Decidable.not_not.1 hc2
             subst hc2e
             have HS2 := hid (HE1.out rfl)
             have HC2 := hid hc2
             clear hc2
             cases hk2 : z0o o s1 (z0m (u ++ t)) with
             | mk c3 s3 =>
              have HK2 := hid hk2
              have HE2 : Hid (c3 = 0 → s3 = s1) := hid (fun h => by have := z4f (o := o) (s := s1) (p := (z0m (u ++ t))) (by rw [hk2]; exact h); rw [hk2] at this; exact this)
              clear hk2
              by_cases hc3 : c3 ≠ 0
              ·have q4 : (c3 != 0) = true := by rw [bne_iff_ne]; exact hc3
               have HRE : Hid (R = ⟨c3, [], [], 0, s3⟩) := hid (by rw [← HR.out, z2c, if_neg HSTOP.out, zc3 (x := (z0m (u ++ t), z0m (m ++ negP l))) HMS.out HC1.out HSD.out HK1.out HC2.out HK2.out hc3])
               clear hc3
               go_wp2_with fail
               with_reducible refine (zdh HSS.out HZZ.out HHM.out HHL.out HFM.out HFL.out (by have := HBD.out; omega) (by have := HBD.out; omega) (by have := HTM.out; omega)).mono ?_
               rintro e w12 ⟨v12, rfl, hp, hx⟩
               have HVH := hid (RQ.ext HSS.out HZZ.out HVH.out hx)
               have HGG := hid (RQ.ext HSS.out HZZ.out HGG.out hx)
               have HQ := hid (RQ.ext HSS.out HZZ.out HQ.out hx)
               have HRR := hid (RQ.ext HSS.out HZZ.out HRR.out hx)
               have HH5 := hid (RQ.ext HSS.out HZZ.out HH5.out hx)
               have HH7 := hid (RQ.ext HSS.out HZZ.out HH7.out hx)
               have HHT := hid (RQ.ext HSS.out HZZ.out HHT.out hx)
               have HHL := hid (RQ.ext HSS.out HZZ.out HHL.out hx)
               have HHM := hid (RQ.ext HSS.out HZZ.out HHM.out hx)
               have HHU := hid (RQ.ext HSS.out HZZ.out HHU.out hx)
               have HGC := hid (z06 HGC.out (z07 hx o))
               have HMV := hid (HMV.out.ext hx)
               have HZZ := hid (Nat.le_trans HZZ.out hx.size)
               have HH12 := hid hp
               obtain ⟨a12, c12, rfl⟩ := hp.form
               obtain ⟨n12, hn12⟩ : ∃ n, n = (z0m (m ++ negP l)).length := ⟨_, rfl⟩
               rw [← hn12] at HH12 ⊢
               clear hx hp hn12
               go_wp2_with fail
               with_reducible refine (zpe HSS.out HZZ.out HHU.out HHT.out HFU.out HFT.out (by have := HBD.out; omega) (by have := HBD.out; omega) (by have := HTM.out; omega)).mono ?_
               rintro e w13 ⟨v13, rfl, hp, hx⟩
               have HVH := hid (RQ.ext HSS.out HZZ.out HVH.out hx)
               have HGG := hid (RQ.ext HSS.out HZZ.out HGG.out hx)
               have HQ := hid (RQ.ext HSS.out HZZ.out HQ.out hx)
               have HRR := hid (RQ.ext HSS.out HZZ.out HRR.out hx)
               have HH5 := hid (RQ.ext HSS.out HZZ.out HH5.out hx)
               have HH7 := hid (RQ.ext HSS.out HZZ.out HH7.out hx)
               have HHT := hid (RQ.ext HSS.out HZZ.out HHT.out hx)
               have HHL := hid (RQ.ext HSS.out HZZ.out HHL.out hx)
               have HHM := hid (RQ.ext HSS.out HZZ.out HHM.out hx)
               have HHU := hid (RQ.ext HSS.out HZZ.out HHU.out hx)
               have HH12 := hid (RQ.ext HSS.out HZZ.out HH12.out hx)
               have HGC := hid (z06 HGC.out (z07 hx o))
               have HMV := hid (HMV.out.ext hx)
               have HZZ := hid (Nat.le_trans HZZ.out hx.size)
               have HH13 := hid hp
               obtain ⟨a13, c13, rfl⟩ := hp.form
               obtain ⟨n13, hn13⟩ : ∃ n, n = (z0m (u ++ t)).length := ⟨_, rfl⟩
               rw [← hn13] at HH13 ⊢
               clear hx hp hn13
               have HKT := HCKP.out w13 s1 _ (z0m (m ++ negP l)) _ _ HMV.out HZZ.out HH12.out HFR2.out (by have := HBD.out; omega) (by have := HTM.out; omega)
               rw [HK1.out] at HKT
               have HKT1 := hid HKT
               clear HKT
               go_wp2_with fail
               with_reducible refine HKT1.out.mono ?_
               rintro e w14 ⟨rfl, hm, hg⟩
               have HVH := hid (RQ.on HSS.out HZZ.out HOO.out HVH.out hg)
               have HGG := hid (RQ.on HSS.out HZZ.out HOO.out HGG.out hg)
               have HQ := hid (RQ.on HSS.out HZZ.out HOO.out HQ.out hg)
               have HRR := hid (RQ.on HSS.out HZZ.out HOO.out HRR.out hg)
               have HH5 := hid (RQ.on HSS.out HZZ.out HOO.out HH5.out hg)
               have HH7 := hid (RQ.on HSS.out HZZ.out HOO.out HH7.out hg)
               have HHT := hid (RQ.on HSS.out HZZ.out HOO.out HHT.out hg)
               have HHL := hid (RQ.on HSS.out HZZ.out HOO.out HHL.out hg)
               have HHM := hid (RQ.on HSS.out HZZ.out HOO.out HHM.out hg)
               have HHU := hid (RQ.on HSS.out HZZ.out HOO.out HHU.out hg)
               have HH12 := hid (RQ.on HSS.out HZZ.out HOO.out HH12.out hg)
               have HH13 := hid (RQ.on HSS.out HZZ.out HOO.out HH13.out hg)
               have HGC := hid (z06 HGC.out hg)
               have HMV := hid hm
               have HZZ := hid (Nat.le_trans HZZ.out hg.size)
               clear hm hg HKT1
               have HMV : Hid (RMV _ o s1) := hid (by have h := HMV.out; rw [HS2.out] at h; exact h)
               have HKT := HCKP.out w14 s1 _ (z0m (u ++ t)) _ _ HMV.out HZZ.out HH13.out HFQ2.out (by have := HBD.out; omega) (by have := HTM.out; omega)
               rw [HK2.out] at HKT
               have HKT1 := hid HKT
               clear HKT
               go_wp2_with fail
               with_reducible refine HKT1.out.mono ?_
               rintro e w15 ⟨rfl, hm, hg⟩
               have HVH := hid (RQ.on HSS.out HZZ.out HOO.out HVH.out hg)
               have HGG := hid (RQ.on HSS.out HZZ.out HOO.out HGG.out hg)
               have HQ := hid (RQ.on HSS.out HZZ.out HOO.out HQ.out hg)
               have HRR := hid (RQ.on HSS.out HZZ.out HOO.out HRR.out hg)
               have HH5 := hid (RQ.on HSS.out HZZ.out HOO.out HH5.out hg)
               have HH7 := hid (RQ.on HSS.out HZZ.out HOO.out HH7.out hg)
               have HHT := hid (RQ.on HSS.out HZZ.out HOO.out HHT.out hg)
               have HHL := hid (RQ.on HSS.out HZZ.out HOO.out HHL.out hg)
               have HHM := hid (RQ.on HSS.out HZZ.out HOO.out HHM.out hg)
               have HHU := hid (RQ.on HSS.out HZZ.out HOO.out HHU.out hg)
               have HH12 := hid (RQ.on HSS.out HZZ.out HOO.out HH12.out hg)
               have HH13 := hid (RQ.on HSS.out HZZ.out HOO.out HH13.out hg)
               have HGC := hid (z06 HGC.out hg)
               have HMV := hid hm
               have HZZ := hid (Nat.le_trans HZZ.out hg.size)
               clear hm hg HKT1
               go_wp2
               all_goals
                refine bodyPost_ret (v := .tuple #[.slice none 0 0, .slice none 0 0, .int .i64 0, .int .i64 c3]) (by simp [results, Tryz.results55, go_sem]) rfl ?_
                rw [HRE.out]; exact ⟨_, _, rfl, HMV.out, z06 HG2.out HGC.out, RTs.nilv _ _ _ _ (by decide), RTs.nilv _ _ _ _ (by decide)⟩
              ·have hc3e : c3 = 0 := Decidable.not_not.1 hc3
               subst hc3e
               have HS3 := hid (HE2.out rfl)
               have HRE : Hid (runD o true g h v d k1 s1 (z0m (u ++ t)) (z0m (m ++ negP l)) (n + 1) = R) := hid (by rw [← HR.out, z2c, if_neg HSTOP.out, zjg (x := (z0m (u ++ t), z0m (m ++ negP l))) HMS.out HC1.out HSD.out HK1.out HC2.out HK2.out hc3])
               have HSDG : Hid (degP (z0m (m ++ negP l)) v < degP r v) := hid (z90 (keep := true) (g := g) (q := q) (r := r) (v := v) (x := (z0m (u ++ t), z0m (m ++ negP l))) HFG.out.can HFN.out.2.can HR0'.out HV.out (by rw [← HD2.out]; exact HDD.out) (by rw [← HD2.out]; exact HLE.out) (by rw [← HD2.out, ← HH2.out]; exact HSD.out)).2
               have HFN2 : Hid (z3g o true g h v d B M k1 s1 (z0m (u ++ t)) (z0m (m ++ negP l))) := hid (by
                have h1 := HF.out.2.2 HR0'.out HLE.out (by rw [HMS.out]; exact Decidable.not_not.1 HC1.out) (z0m (u ++ t), z0m (m ++ negP l)) HSD.out (by rw [HMS.out, HK1.out]) (by rw [HMS.out, HK2.out])
                rw [HMS.out] at h1
                exact h1)
               clear hc3
               go_wp2_with fail
               with_reducible refine (zdh HSS.out HZZ.out HHM.out HHL.out HFM.out HFL.out (by have := HBD.out; omega) (by have := HBD.out; omega) (by have := HTM.out; omega)).mono ?_
               rintro e w12 ⟨v12, rfl, hp, hx⟩
               have HVH := hid (RQ.ext HSS.out HZZ.out HVH.out hx)
               have HGG := hid (RQ.ext HSS.out HZZ.out HGG.out hx)
               have HQ := hid (RQ.ext HSS.out HZZ.out HQ.out hx)
               have HRR := hid (RQ.ext HSS.out HZZ.out HRR.out hx)
               have HH5 := hid (RQ.ext HSS.out HZZ.out HH5.out hx)
               have HH7 := hid (RQ.ext HSS.out HZZ.out HH7.out hx)
               have HHT := hid (RQ.ext HSS.out HZZ.out HHT.out hx)
               have HHL := hid (RQ.ext HSS.out HZZ.out HHL.out hx)
               have HHM := hid (RQ.ext HSS.out HZZ.out HHM.out hx)
               have HHU := hid (RQ.ext HSS.out HZZ.out HHU.out hx)
               have HGC := hid (z06 HGC.out (z07 hx o))
               have HMV := hid (HMV.out.ext hx)
               have HZZ := hid (Nat.le_trans HZZ.out hx.size)
               have HH12 := hid hp
               obtain ⟨a12, c12, rfl⟩ := hp.form
               obtain ⟨n12, hn12⟩ : ∃ n, n = (z0m (m ++ negP l)).length := ⟨_, rfl⟩
               rw [← hn12] at HH12 ⊢
               clear hx hp hn12
               go_wp2_with fail
               with_reducible refine (zpe HSS.out HZZ.out HHU.out HHT.out HFU.out HFT.out (by have := HBD.out; omega) (by have := HBD.out; omega) (by have := HTM.out; omega)).mono ?_
               rintro e w13 ⟨v13, rfl, hp, hx⟩
               have HVH := hid (RQ.ext HSS.out HZZ.out HVH.out hx)
               have HGG := hid (RQ.ext HSS.out HZZ.out HGG.out hx)
               have HQ := hid (RQ.ext HSS.out HZZ.out HQ.out hx)
               have HRR := hid (RQ.ext HSS.out HZZ.out HRR.out hx)
               have HH5 := hid (RQ.ext HSS.out HZZ.out HH5.out hx)
               have HH7 := hid (RQ.ext HSS.out HZZ.out HH7.out hx)
               have HHT := hid (RQ.ext HSS.out HZZ.out HHT.out hx)
               have HHL := hid (RQ.ext HSS.out HZZ.out HHL.out hx)
               have HHM := hid (RQ.ext HSS.out HZZ.out HHM.out hx)
               have HHU := hid (RQ.ext HSS.out HZZ.out HHU.out hx)
               have HH12 := hid (RQ.ext HSS.out HZZ.out HH12.out hx)
               have HGC := hid (z06 HGC.out (z07 hx o))
               have HMV := hid (HMV.out.ext hx)
               have HZZ := hid (Nat.le_trans HZZ.out hx.size)
               have HH13 := hid hp
               obtain ⟨a13, c13, rfl⟩ := hp.form
               obtain ⟨n13, hn13⟩ : ∃ n, n = (z0m (u ++ t)).length := ⟨_, rfl⟩
               rw [← hn13] at HH13 ⊢
               clear hx hp hn13
               have HKT := HCKP.out w13 s1 _ (z0m (m ++ negP l)) _ _ HMV.out HZZ.out HH12.out HFR2.out (by have := HBD.out; omega) (by have := HTM.out; omega)
               rw [HK1.out] at HKT
               have HKT1 := hid HKT
               clear HKT
               go_wp2_with fail
               with_reducible refine HKT1.out.mono ?_
               rintro e w14 ⟨rfl, hm, hg⟩
               have HVH := hid (RQ.on HSS.out HZZ.out HOO.out HVH.out hg)
               have HGG := hid (RQ.on HSS.out HZZ.out HOO.out HGG.out hg)
               have HQ := hid (RQ.on HSS.out HZZ.out HOO.out HQ.out hg)
               have HRR := hid (RQ.on HSS.out HZZ.out HOO.out HRR.out hg)
               have HH5 := hid (RQ.on HSS.out HZZ.out HOO.out HH5.out hg)
               have HH7 := hid (RQ.on HSS.out HZZ.out HOO.out HH7.out hg)
               have HHT := hid (RQ.on HSS.out HZZ.out HOO.out HHT.out hg)
               have HHL := hid (RQ.on HSS.out HZZ.out HOO.out HHL.out hg)
               have HHM := hid (RQ.on HSS.out HZZ.out HOO.out HHM.out hg)
               have HHU := hid (RQ.on HSS.out HZZ.out HOO.out HHU.out hg)
               have HH12 := hid (RQ.on HSS.out HZZ.out HOO.out HH12.out hg)
               have HH13 := hid (RQ.on HSS.out HZZ.out HOO.out HH13.out hg)
               have HGC := hid (z06 HGC.out hg)
               have HMV := hid hm
               have HZZ := hid (Nat.le_trans HZZ.out hg.size)
               clear hm hg HKT1
               have HMV : Hid (RMV _ o s1) := hid (by have h := HMV.out; rw [HS2.out] at h; exact h)
               have HKT := HCKP.out w14 s1 _ (z0m (u ++ t)) _ _ HMV.out HZZ.out HH13.out HFQ2.out (by have := HBD.out; omega) (by have := HTM.out; omega)
               rw [HK2.out] at HKT
               have HKT1 := hid HKT
               clear HKT
               go_wp2_with fail
               with_reducible refine HKT1.out.mono ?_
               rintro e w15 ⟨rfl, hm, hg⟩
               have HVH := hid (RQ.on HSS.out HZZ.out HOO.out HVH.out hg)
               have HGG := hid (RQ.on HSS.out HZZ.out HOO.out HGG.out hg)
               have HQ := hid (RQ.on HSS.out HZZ.out HOO.out HQ.out hg)
               have HRR := hid (RQ.on HSS.out HZZ.out HOO.out HRR.out hg)
               have HH5 := hid (RQ.on HSS.out HZZ.out HOO.out HH5.out hg)
               have HH7 := hid (RQ.on HSS.out HZZ.out HOO.out HH7.out hg)
               have HHT := hid (RQ.on HSS.out HZZ.out HOO.out HHT.out hg)
               have HHL := hid (RQ.on HSS.out HZZ.out HOO.out HHL.out hg)
               have HHM := hid (RQ.on HSS.out HZZ.out HOO.out HHM.out hg)
               have HHU := hid (RQ.on HSS.out HZZ.out HOO.out HHU.out hg)
               have HH12 := hid (RQ.on HSS.out HZZ.out HOO.out HH12.out hg)
               have HH13 := hid (RQ.on HSS.out HZZ.out HOO.out HH13.out hg)
               have HGC := hid (z06 HGC.out hg)
               have HMV := hid hm
               have HZZ := hid (Nat.le_trans HZZ.out hg.size)
               clear hm hg HKT1
               have HMV : Hid (RMV _ o s1) := hid (by have h := HMV.out; rw [HS3.out] at h; exact h)
               go_wp2
               go_roundw
               case rel => have HKQN : Hid (true = false → z0m (u ++ t) = []) := hid (fun h => (by cases h)); exact ⟨k1, s1, z0m (u ++ t), z0m (m ++ negP l), n + 1, by go_num, HGC, HRE, by show _ < _; have h1 := HSDG.out; have h2 := HDG.out; omega, HFN2, HH13, HH12, HMV, by show _ = _; have := HNK.out; omega, HKQN⟩
               case measure => simp only [intOf]; have := HNK.out; omega
end
section
open Go.RowKit
end
section
open Go.RowKit
theorem zxv {W : World} {vz : Value} {ng : Bool} (hz : U32s (Old W) W vz (ofI 1).mag) (hng : ng = (ofI 1).neg) :
  Calls Tryz.prog 88 #[.agg #[.bool ng, vz]] W fun e w' => ∃ v', e = .returned v' ∧ z05 (New W w') w' v' (ofP [(1, [])]) ∧ Ext W w' := by
 have e1 : toP [⟨ofI 1, []⟩] = [((1 : Int), ([] : Mono))] := by unfold toP; simp [z52]
 have e2 : z0m [((1 : Int), ([] : Mono))] = [(1, [])] := by rw [zjd]; rfl
 have CC := fun (Y : World) (hY : Ext W Y) => z59 (S := Old (Y.alloc (.cells #[.bool (ofI 1).neg, vz, .slice none 0 0] 83))) (.slice (some ⟨Y.heap.size, 0, none⟩) 1 1) [⟨ofI 1, []⟩] (Y.alloc (.cells #[.bool (ofI 1).neg, vz, .slice none 0 0] 83)) 1000000
  (zgi (t := ⟨ofI 1, []⟩) ((hz.ext hY (fun _ h => h)).to (Kept.refl _ _) (fun k h => Nat.lt_of_lt_of_le h hY.size)) (Pows.empty _ _ _) 83) (fun _ h => h) (fun t ht => by rw [List.mem_singleton.1 ht]; rfl) (fun t ht => by rw [List.mem_singleton.1 ht]; show (ofI 1).mag.length ≤ _; rw [z5e]; exact Nat.le_trans (zlc (by decide)) (by decide)) (by decide) (by simp)
 simp only [e1, e2] at CC
 rw [← hng] at CC
 obtain ⟨az, cz, rfl⟩ := hz.form
 obtain ⟨nz, hnz⟩ : ∃ n, n = (ofI 1).mag.length := ⟨_, rfl⟩
 rw [← hnz] at CC ⊢
 have HC := hid CC
 have HXA := hid (Ext.alloc (Ext.refl W) (.cells #[.bool ng, .slice az nz cz] 72))
 have HC0 := HC.out _ HXA.out
 rw [z02] at HC0
 have HC1 := hid HC0
 clear HC0 hz hng CC e1 e2 hnz
 go_enter Tryz.func88, Tryz.ntmps88
 go_wp2_with fail
 with_reducible refine HC1.out.mono ?_
 rintro e w2 ⟨v2, rfl, hp2, hx2⟩
 have HX2 := hid ((HXA.out.alloc _).trans hx2)
 have HP2 := hid (hp2.to (S' := New W w2) (Kept.refl _ _) (fun k h => ⟨Nat.le_trans (HXA.out.alloc _).size h.1, h.2⟩))
 clear hp2 hx2
 go_wp2
 all_goals
  go_ret
  exact ⟨_, rfl, HP2.out, HX2.out⟩
theorem zgm {h : PZ} {k n : Nat} (hk : powN h k = none) (hn : k ≤ n) : powN h n = none := by
 induction n with
 | zero => obtain rfl : k = 0 := by omega
           exact hk
 | succ n ih =>
  rcases Nat.lt_or_ge k (n + 1) with h1 | h1
  ·rw [powN, ih (by omega)]
  ·obtain rfl : k = n + 1 := by omega
   exact hk
end
section
open Go.RowKit
theorem zgn (w : World) (a b c d : Int) : RefAt (w.alloc (.cells #[.int .i64 a, .int .i64 b, .int .i64 c, .int .i64 d, .int .i64 0, .int .i64 0, .int .i64 0, .int .i64 0] 60)) w.heap.size (MSt.new a b c d) :=
 ⟨z01 _ _ _ rfl rfl, z01 _ _ _ rfl rfl, z01 _ _ _ rfl rfl, z01 _ _ _ rfl rfl, z01 _ _ _ rfl rfl, z01 _ _ _ rfl rfl, z01 _ _ _ rfl rfl, z01 _ _ _ rfl rfl, fun _ => z2r _ _ _⟩
theorem zph {a b c d : Int} (h : z4q a b c d) : (MSt.new a b c d).Ok := by
 obtain ⟨⟨a0, a1⟩, ⟨b0, b1⟩, ⟨c0, c1⟩, d0, d1⟩ := h
 exact ⟨a0, a1, b0, b1, c0, c1, d0, d1, by show (0 : Int) ≤ 0; decide, a0, by show (0 : Int) ≤ 0; decide, d0⟩
end
section
open Go.RowKit
theorem zx8 {m : Mono} {E : Int} (h0 : 0 ≤ E) (h : ∀ y ∈ m, y.2 ≤ E) (u : Int) : ex m u ≤ E := by
 induction m with
 | nil => simp [ex]; exact h0
 | cons y r ih =>
  rw [ex]
  split
  ·exact h y (by simp)
  ·exact ih (fun z hz => h z (by simp [hz]))
section
variable {F G : PZ} {x : Int}
end
end
section
open Go.RowKit Go.Deep Go.ChangeShapes Go.WideShapes Go.ChangeAt Go.Joins
section
variable {H : Type} {enc : TypeId × Value → H} {P : Program} {w : World} {base : Nat} {spare : Nat → Bool} {held : Bool}
end
theorem Tryz.cells_limits12 : Tryz.prog.cellsOf 46 = 4 := by kernel_rfl
section
variable {H : Type} {enc : TypeId × Value → H} {W : World} {base b0 : Nat} {sp : Nat → Bool} {held : Bool}
theorem zgo {v : Value} {d : DataW H} {p : List MemPlace} (hv : Value.okWide Tryz.prog W .any base 46 v) (h : DataW.Trod enc Tryz.prog W b0 sp held 46 v d p) :
  ∃ a b c e : Int, v = .agg #[.int .i64 a, .int .i64 b, .int .i64 c, .int .i64 e] ∧ z12 a ∧ z12 b ∧ z12 c ∧ z12 e := by
 obtain ⟨cs, rfl, hsz⟩ := okWide_struct Tryz.underlying46 hv
 obtain ⟨c0, c1, c2, c3, rfl⟩ := array4 (hsz.trans Tryz.cells_limits12)
 obtain ⟨fuel, hf⟩ := h
 obtain ⟨y0, y1, y2, y3, n, _, _, h0, h1, h2, h3⟩ := trod_struct4 Tryz.underlying46 hf
 simp [Tryz.cells_i64, Value.cells] at h0 h1 h2 h3
 obtain ⟨n0, e0, _, w0⟩ := DataW.trod_int Tryz.underlying3 h0
 obtain ⟨n1, e1, _, w1⟩ := DataW.trod_int Tryz.underlying3 h1
 obtain ⟨n2, e2, _, w2⟩ := DataW.trod_int Tryz.underlying3 h2
 obtain ⟨n3, e3, _, w3⟩ := DataW.trod_int Tryz.underlying3 h3
 simp at e0 e1 e2 e3
 subst e0 e1 e2 e3
 exact ⟨n0, n1, n2, n3, rfl, z4g w0, z4g w1, z4g w2, z4g w3⟩
end
end
section
open Go.RowKit
structure CalcAt (W : World) (bd : Nat) (vm : Value) (c : Int) : Prop where
 c0 : W.cell? ⟨bd, 0, none⟩ = some vm
 c1 : W.cell? ⟨bd, 1, none⟩ = some (.int .i64 c)
 fz : ∀ i, W.frozen? ⟨bd, i, none⟩ = false
section
variable {W W' : World} {bd : Nat} {vm : Value} {c d : Int} {o : Option Nat}
theorem CalcAt.same (h : CalcAt W bd vm c) (e : W'.heap[bd]? = W.heap[bd]?) : CalcAt W' bd vm c := by
 have hc : ∀ i, W'.cell? ⟨bd, i, none⟩ = W.cell? ⟨bd, i, none⟩ := fun i => World.cell?_of_block e
 exact ⟨(hc _).trans h.c0, (hc _).trans h.c1, fun i => (World.frozen?_of_block (w := W) (a := ⟨bd, i, none⟩) e).trans (h.fz i)⟩
theorem CalcAt.lt (h : CalcAt W bd vm c) : bd < W.heap.size := z09 h.c0
theorem CalcAt.ext (h : CalcAt W bd vm c) (g : Ext W W') : CalcAt W' bd vm c := h.same (g.block bd h.lt)
theorem CalcAt.gb (h : CalcAt W bd vm c) (g : W.grownBy W' o) (ho : some bd ≠ o) : CalcAt W' bd vm c := h.same (g.block bd h.lt ho)
theorem CalcAt.set (h : CalcAt W bd vm c) (d : Int) : CalcAt (W.setCell ⟨bd, 1, none⟩ (.int .i64 d)) bd vm d :=
 ⟨z0b h.c0 (ao (by decide)), z1f h.c1, fun i => z1k (h.fz i)⟩
theorem Gd.of_none (h : Gd none bd W W') : Gd o bd W W' := ⟨h.os, h.tape, h.output, h.size, fun k h1 _ h3 => h.block k h1 (by simp) h3⟩
end
def zlq (W : World) (bd : Nat) (vm : Value) (c : PZ) : Ending → World → Prop := fun e W' => ∃ x, e = .returned x ∧ CalcAt W' bd vm 0 ∧ Gd none bd W W' ∧ z05 (New W W') W' x (ofP c)
theorem z7q {W : World} {bd : Nat} {vm u v : Value} {p q c : PZ} {k l n m : Nat} (D : CalcAt W bd vm 0) (hp : PV W u p) (hq : PV W v q) (fp : Fit k n p) (fq : Fit l m q) (hc : k < 24 ∨ l < 24) (hk : k ≤ 1000000) (hl : l ≤ 1000000) (hnm : n * m ≤ 1000000000000) (ht : z0e p q = some c) :
  Calls Tryz.prog 43 #[.pointer (some ⟨bd, 0, none⟩), u, v] W (zlq W bd vm c) := by
 have C := zeg hp hq fp fq hc hk hl hnm
 rw [ht] at C
 have HC := hid C
 have HD := hid D
 have e0 := D.c0
 have e1 := D.c1
 have z1 := D.fz 1
 obtain ⟨au, cu, rfl⟩ := hp.form
 obtain ⟨av, cv, rfl⟩ := hq.form
 obtain ⟨nu, hnu⟩ : ∃ n, n = (ofP p).length := ⟨_, rfl⟩
 obtain ⟨nv, hnv⟩ : ∃ n, n = (ofP q).length := ⟨_, rfl⟩
 rw [← hnu, ← hnv] at HC ⊢
 clear C D hp hq fp fq hc hk hl hnm ht hnu hnv
 go_enter Tryz.func43, Tryz.ntmps43
 go_wp2_with fail
 with_reducible refine HC.out.mono ?_
 rintro e w1 ⟨x, rfl, hx, hg⟩
 have HX := hid hx
 have HG := hid hg
 have HD1 := hid (HD.out.ext hg)
 obtain ⟨ax, cx, rfl⟩ := hx.form
 obtain ⟨nx, hnx⟩ : ∃ n, n = (ofP c).length := ⟨_, rfl⟩
 rw [← hnx] at HX ⊢
 clear e0 e1 z1
 have e0 := HD1.out.c0
 have e1 := HD1.out.c1
 have z1 := HD1.out.fz 1
 clear hx hg hnx
 go_wp2
 all_goals
  go_ret
  exact ⟨_, rfl, HD1.out.set 0, (z23 HG.out).trans (za7 w1 (a := ⟨bd, 1, none⟩) rfl _), HX.out.to (fun k hk => (za7 (o := none) (bd := bd) w1 (a := ⟨bd, 1, none⟩) rfl _).block k hk.2 (by simp) (fun h => by have := HD.out.lt; have := hk.1; omega)) (fun k hk => ⟨hk.1, Nat.lt_of_lt_of_le hk.2 (za7 (o := none) (bd := bd) w1 (a := ⟨bd, 1, none⟩) rfl _).size⟩)⟩
theorem zc4 {W : World} {bd : Nat} {vm u v : Value} {c : Int} (D : CalcAt W bd vm c) (hu : ∃ a n c, u = .slice a n c) (hv : ∃ a n c, v = .slice a n c) (hc : c ≠ 0) :
  Calls Tryz.prog 43 #[.pointer (some ⟨bd, 0, none⟩), u, v] W fun e W' => e = .returned (.slice none 0 0) ∧ W' = W := by
 have q0 : (c != 0) = true := by rw [bne_iff_ne]; exact hc
 have e0 := D.c0
 have e1 := D.c1
 obtain ⟨au, nu, cu, rfl⟩ := hu
 obtain ⟨av, nv, cv, rfl⟩ := hv
 clear D hc
 go_enter Tryz.func43, Tryz.ntmps43
 go_wp2
 all_goals
  go_ret
  exact ⟨rfl, rfl⟩
def zpi (W : World) (o : Option Nat) (bd : Nat) (x : Value) (r : Int) (s : MSt) : Ending → World → Prop := fun e W' => e = .returned x ∧ CalcAt W' bd (mval o) r ∧ MV W' o s ∧ Gd o bd W W'
theorem zgp {W : World} {o : Option Nat} {s : MSt} {bd : Nat} {u : Value} {p : PZ} (D : CalcAt W bd (mval o) 0) (hM : MV W o s) (hob : ∀ b, o = some b → b ≠ bd) (hp : PM o W u p) :
  Calls Tryz.prog 49 #[.pointer (some ⟨bd, 0, none⟩), u] W (zpi W o bd u (z0o o s p).1 (z0o o s p).2) := by
 have HC := hid (ztt hM hp)
 have HD := hid D
 have HOB := hid hob
 have HSB : Hid (some bd ≠ o) := hid (fun e => hob bd e.symm rfl)
 obtain ⟨vm, hvm⟩ : ∃ x, x = mval o := ⟨_, rfl⟩
 have e0 := D.c0
 have e1 := D.c1
 have z1 := D.fz 1
 rw [← hvm] at HC e0
 generalize z0o o s p = m at HC ⊢
 obtain ⟨r, t⟩ := m
 simp only at HC ⊢
 obtain ⟨au, cu, rfl⟩ := hp.form
 obtain ⟨nu, hnu⟩ : ∃ n, n = (ofP p).length := ⟨_, rfl⟩
 rw [← hnu] at HC ⊢
 clear D hM hob hp hvm hnu
 go_enter Tryz.func49, Tryz.ntmps49
 go_wp2_with fail
 with_reducible refine HC.out.mono ?_
 rintro e w1 ⟨rfl, hm, hg⟩
 have HM := hid hm
 have HG := hid hg
 have HD1 := hid (HD.out.gb hg HSB.out)
 clear e0 e1 z1 hm hg
 have e0 := HD1.out.c0
 have e1 := HD1.out.c1
 have z1 := HD1.out.fz 1
 go_wp2
 all_goals
  go_ret
  exact ⟨rfl, HD1.out.set r, HM.out.set HOB.out (a := ⟨bd, 1, none⟩) rfl _, (zcq HG.out).trans (za7 w1 (a := ⟨bd, 1, none⟩) rfl _)⟩
theorem zcr {W : World} {bd : Nat} {vm u : Value} {c : Int} (D : CalcAt W bd vm c) (hu : ∃ a n c, u = .slice a n c) (hc : c ≠ 0) :
  Calls Tryz.prog 49 #[.pointer (some ⟨bd, 0, none⟩), u] W fun e W' => e = .returned u ∧ W' = W := by
 have q0 : (c == 0) = false := by rw [beq_eq_false_iff_ne]; exact hc
 have e0 := D.c0
 have e1 := D.c1
 obtain ⟨au, nu, cu, rfl⟩ := hu
 clear D hc
 go_enter Tryz.func49, Tryz.ntmps49
 go_wp2
 all_goals
  go_ret
  exact ⟨rfl, rfl⟩
def zsl (W : World) (o : Option Nat) (bd : Nat) (P : PZ) (r : Int) (s : MSt) : Ending → World → Prop := fun e W' => ∃ x, e = .returned x ∧ CalcAt W' bd (mval o) r ∧ MV W' o s ∧ Gd o bd W W' ∧ PN W.heap.size o bd W' x P
theorem zdi {W : World} {o : Option Nat} {s : MSt} {bd : Nat} {u : Value} {h P : PZ} {A T n : Nat} (D : CalcAt W bd (mval o) 0) (hM : MV W o s) (hob : ∀ b, o = some b → b ≠ bd) (hp : PC o bd W u h) (fh : Fit A T h) (hA : A < 24) (hT : 1 ≤ T) (hn : n ≤ 100) (hTn : T ^ n ≤ 1000000000000) (hP : powN h n = some P) :
  Calls Tryz.prog 44 #[.pointer (some ⟨bd, 0, none⟩), u, .int .i64 (n : Nat)] W (zsl W o bd P (z0o o s P).1 (z0o o s P).2) := by
 have C2 := hid (fun (Y : World) => zeb 1 Y (by decide))
 have HD := hid D
 have HM := hid hM
 have HOB := hid hob
 have HP := hid hp
 have HF := hid fh
 have HAA := hid hA
 have HTT := hid hT
 have HTN := hid hTn
 have HPP := hid hP
 have HBM := hid (fun b hb => hM.block (b := b) hb)
 obtain ⟨a, c, rfl⟩ := hp.form
 obtain ⟨nh, hnh⟩ : ∃ n, n = (ofP h).length := ⟨_, rfl⟩
 rw [← hnh] at HP ⊢
 clear D hM hob hp fh hnh hA hT hTn hP
 go_enter Tryz.func44, Tryz.ntmps44
 go_wp2_with fail
 with_reducible refine (C2.out _).mono ?_
 rintro e w2 ⟨v2, rfl, ⟨vz, rfl, hz⟩, hx2⟩
 have HX2 := hid hx2
 have C3 := zxv (W := w2) (vz := vz) (ng := (ofI 1).neg) (hz.to (Kept.refl _ _) New.lt) rfl
 obtain ⟨az, cz, rfl⟩ := hz.form
 obtain ⟨nz, hnz⟩ : ∃ n, n = (ofI 1).mag.length := ⟨_, rfl⟩
 obtain ⟨ng, hng⟩ : ∃ n, n = (ofI 1).neg := ⟨_, rfl⟩
 rw [← hnz, ← hng] at C3 ⊢
 have HC3 := hid C3
 clear hz hx2 hnz hng C3
 go_wp2_with fail
 with_reducible refine HC3.out.mono ?_
 rintro e w3 ⟨v3, rfl, hp3, hx3⟩
 have HX3 := hid (HX2.out.trans hx3)
 have HP3 := hid (hp3.to (S' := New W w3) (Kept.refl _ _) (fun k h => ⟨Nat.le_trans HX2.out.size h.1, h.2⟩))
 have HD3 := hid (HD.out.ext HX3.out)
 clear hp3 hx3
 go_wp2
 go_loopw [7, 11] (fun x i wr => ∃ (k : Nat) (Q : PZ), k ≤ n ∧ i = .int .i64 (k : Nat) ∧ Gd none bd W wr ∧ Hid (CalcAt wr bd (mval o) 0) ∧ Hid (powN h k = some Q) ∧ Hid (z05 (fun b => New W wr b ∧ b ≠ bd) wr x (ofP Q))) (fun _ i _ => n - (intOf i).toNat)
 case atStart => exact ⟨0, [(1, [])], Nat.zero_le _, rfl, z23 HX3.out, HD3, rfl, hid (HP3.out.to (Kept.refl _ _) (fun b hb => ⟨hb, fun e => by have := hb.1; have := HD.out.lt; omega⟩))⟩
 case round =>
  obtain ⟨k, Q, hk, rfl, hx, HDk, HPK, HO⟩ := hrel
  have HX := hid hx
  by_cases hlt : k < n
  ·have hle : T ^ k ≤ T ^ n := Nat.pow_le_pow_right HTT.out (by omega)
   have hle2 : T ^ (k + 1) ≤ T ^ n := Nat.pow_le_pow_right HTT.out (by omega)
   have fP := z93 HF.out HTT.out k Q (Nat.le_trans hle HTN.out) HPK.out
   have hkA : 1 + k * (A + 2) ≤ 10000 := by
    have h1 : k * (A + 2) ≤ 100 * 26 := Nat.mul_le_mul (by omega) (by have := HAA.out; omega)
    omega
   have HPS : Hid (powN h (k + 1) = z0e Q h) := hid (by rw [powN, HPK.out])
   obtain ⟨R, hR⟩ : ∃ R, z0e Q h = some R := by
    cases hq : z0e Q h with
    | some R => exact ⟨R, rfl⟩
    | none =>
     exfalso
     have h1 := zgm (HPS.out.trans hq) (n := n) (by omega)
     rw [HPP.out] at h1
     cases h1
   have HPR : Hid (powN h (k + 1) = some R) := hid (HPS.out.trans hR)
   have HCT := hid (z7q HDk.out (HO.out.to (S' := Old wr) (Kept.refl _ _) (fun b hb => hb.1.2)) (PC.on HP.out hx.of_none).pv fP HF.out (.inr HAA.out) (by omega) (by have := HAA.out; omega) (by rw [← Nat.pow_succ]; exact Nat.le_trans hle2 HTN.out) hR)
   obtain ⟨ao, co, rfl⟩ := HO.out.form
   obtain ⟨no, hno⟩ : ∃ n, n = (ofP Q).length := ⟨_, rfl⟩
   rw [← hno] at HO HCT ⊢
   clear hle hle2 fP hkA hR hno hx
   go_wp2_with fail
   with_reducible refine HCT.out.mono ?_
   rintro e w4 ⟨v4, rfl, hd4, hg4, hp4⟩
   have HX4 := hid (HX.out.trans hg4)
   have HD4 := hid hd4
   have HP4 := hid (hp4.to (S' := fun b => New W w4 b ∧ b ≠ bd) (Kept.refl _ _) (fun b h => ⟨⟨Nat.le_trans HX.out.size h.1, h.2⟩, fun e => by have := h.1; have := HX.out.size; have := HD.out.lt; omega⟩))
   clear hg4 hp4 hd4
   go_wp2
   go_roundw
   case rel => exact ⟨k + 1, R, by omega, by go_num, HX4.out, HD4, HPR, HP4⟩
   case measure => simp only [intOf]; omega
  ·obtain rfl : k = n := by omega
   have hPQ : P = Q := by have h1 := HPP.out; rw [HPK.out] at h1; exact (Option.some.inj h1).symm
   subst hPQ
   have HMr : Hid (MV wr o s) := hid (fun b hb => by
    have h1 := (HM.out b hb)
    have h2 := HX.out.block b (HBM.out b hb) (by simp) (HOB.out b hb)
    exact ⟨h1.1.grown (r := some bd) ⟨HX.out.os, HX.out.tape, HX.out.output, HX.out.size, fun j j1 j2 => HX.out.block j j1 (by simp) (fun e => j2 (by rw [e]))⟩ (fun e => HOB.out b hb (Option.some.inj e)), h1.2⟩)
   have HOP := hid (HO.out.to (S' := fun k => W.heap.size ≤ k ∧ NC o bd wr k) (Kept.refl _ _) (fun b hb => ⟨hb.1.1, hb.1.2, fun e => by have := HBM.out b e.symm; have := hb.1.1; omega, hb.2⟩))
   have HCK := hid (zgp HDk.out HMr.out HOB.out (PC.pm (PN.pc HOP.out)))
   obtain ⟨ao, co, rfl⟩ := HO.out.form
   obtain ⟨no, hno⟩ : ∃ n, n = (ofP P).length := ⟨_, rfl⟩
   rw [← hno] at HO HCK HOP ⊢
   clear hx hno
   go_wp2_with fail
   with_reducible refine HCK.out.mono ?_
   rintro e w5 ⟨rfl, hd5, hm5, hg5⟩
   have HD5 := hid hd5
   have HM5 := hid hm5
   have HG5 := hid hg5
   have HP5 := hid (PN.on HOP.out hg5)
   clear hd5 hm5 hg5
   go_wp2
   all_goals
    go_ret
    exact ⟨_, rfl, HD5.out, HM5.out, HX.out.of_none.trans HG5.out, HP5.out⟩
end
section
open Go.RowKit
theorem zgq {S : Nat → Prop} (v : Value) (ls : List (List RTerm)) (w : World) (h : z16 S w v ls) (hS : ∀ k, S k → k < w.heap.size) (hr : z55 ls) :
  Calls Tryz.prog 41 #[v] w fun e w' => e = .returned (.bool (ls.all mayT)) ∧ Ext w w' := by
 have hnot : ∀ (x : Bool) (w : World), (Op.unary .not (.bool x)).run Tryz.prog w = .ok (.bool (!x)) w := fun _ _ => rfl
 have H := hid h
 have HR := hid hr
 have hll := h.len_le
 obtain ⟨A, c, rfl⟩ := h.form
 obtain ⟨n, hnn⟩ : ∃ n, n = ls.length := ⟨_, rfl⟩
 rw [← hnn] at H hll ⊢
 have HN := hid hnn
 clear h hr hnn
 go_enter Tryz.func41, Tryz.ntmps41
 go_wp2
 go_loopw [7] (fun i wr => ∃ k : Nat, k ≤ n ∧ i = .int .i64 k ∧ Ext w wr ∧ Hid ((ls.take k).all mayT = true)) (fun i _ => n - (intOf i).toNat)
 case atStart => exact ⟨0, Nat.zero_le _, rfl, Ext.refl _, rfl⟩
 case round =>
  obtain ⟨k, hk, rfl, hx, HA⟩ := hrel
  have HX := hid hx
  by_cases hlt : k < n
  ·obtain ⟨p, hp⟩ := z00 (l := ls) (j := k) (by rw [← HN.out]; exact hlt)
   obtain ⟨bl, off, vp, rfl, -, hn1, hm1, hSb, h1, h2⟩ := (H.out.ext hx hS).cellAt hp
   have HP := hid hp
   have HRP := hid (HR.out p (List.mem_of_getElem? hp))
   have C := hid (z54 (S := S) vp p wr h2 (z08 hS hx) HRP.out)
   obtain ⟨ap, cp, rfl⟩ := h2.form
   clear h2 hp hx
   cases hm : mayT p with
   | true =>
    have HM := hid hm
    rw [hm] at C
    clear hm
    go_wp2_with fail
    with_reducible refine C.out.mono ?_
    rintro e w2 ⟨rfl, hx2⟩
    have HX2 := hid (HX.out.trans hx2)
    clear hx2
    go_wp2
    go_roundw
    case rel => exact ⟨k + 1, by omega, by go_num, HX2.out, by show _ = _; rw [List.take_add_one, HP.out, List.all_append, HA.out]; simp [HM.out]⟩
    case measure => simp only [intOf]; omega
   | false =>
    have HM := hid hm
    rw [hm] at C
    clear hm
    go_wp2_with fail
    with_reducible refine C.out.mono ?_
    rintro e w2 ⟨rfl, hx2⟩
    have HX2 := hid (HX.out.trans hx2)
    clear hx2
    go_wp2
    go_ret
    exact ⟨by rw [List.all_eq_false.2 ⟨p, List.mem_of_getElem? HP.out, by rw [HM.out]; exact Bool.false_ne_true⟩]; rfl, HX2.out⟩
  ·obtain rfl : k = n := by omega
   have HE : Hid (ls.all mayT = true) := hid (by have := HA.out; rwa [List.take_of_length_le (by rw [← HN.out]; exact Nat.le_refl _)] at this)
   clear hx
   go_wp2
   go_ret
   exact ⟨by rw [HE.out]; rfl, HX.out⟩
def mayC (c : Int) : List (List RTerm) → Bool
 | [] => true
 | p :: l => if mayT p && decide (c < z0r (z0n p)) then mayC (z0r (z0n p)) l else false
theorem zpj {ls : List (List RTerm)} {k : Nat} {p : List RTerm} {c : Int} (hp : ls[k]? = some p) : mayC c (ls.drop k) = if mayT p && decide (c < z0r (z0n p)) then mayC (z0r (z0n p)) (ls.drop (k + 1)) else false := by
 rw [z5t hp]
 rfl
theorem z40 {S : Nat → Prop} (v : Value) (ls : List (List RTerm)) (w : World) (h : z16 S w v ls) (hS : ∀ k, S k → k < w.heap.size) (hr : z55 ls) :
  Calls Tryz.prog 13 #[v] w fun e w' => e = .returned (.bool (mayC 0 ls)) ∧ Ext w w' := by
 have hnot : ∀ (x : Bool) (w : World), (Op.unary .not (.bool x)).run Tryz.prog w = .ok (.bool (!x)) w := fun _ _ => rfl
 have H := hid h
 have HR := hid hr
 have hll := h.len_le
 obtain ⟨A, c, rfl⟩ := h.form
 obtain ⟨n, hnn⟩ : ∃ n, n = ls.length := ⟨_, rfl⟩
 rw [← hnn] at H hll ⊢
 have HN := hid hnn
 clear h hr hnn
 go_enter Tryz.func13, Tryz.ntmps13
 go_wp2
 go_loopw [3, 9] (fun l i wr => ∃ (k : Nat) (d : Int), k ≤ n ∧ i = .int .i64 k ∧ l = .int .i64 d ∧ z12 d ∧ Ext w wr ∧ Hid (mayC d (ls.drop k) = mayC 0 ls)) (fun _ i _ => n - (intOf i).toNat)
 case atStart => exact ⟨0, 0, Nat.zero_le _, rfl, rfl, by unfold z12; omega, Ext.refl _, hid rfl⟩
 case round =>
  obtain ⟨k, d, hk, rfl, rfl, hd, hx, HA⟩ := hrel
  have HX := hid hx
  obtain ⟨hd1, hd2⟩ := hd
  by_cases hlt : k < n
  ·obtain ⟨p, hp⟩ := z00 (l := ls) (j := k) (by rw [← HN.out]; exact hlt)
   obtain ⟨bl, off, vp, rfl, -, hn1, hm1, hSb, h1, h2⟩ := (H.out.ext hx hS).cellAt hp
   have HRP := hid (HR.out p (List.mem_of_getElem? hp))
   have HST := hid (zpj (c := d) hp)
   have C1 := hid (z9c (S := S) vp p wr h2 (z08 hS hx) HRP.out)
   have C2 := hid (fun (Y : World) (hY : Ext wr Y) => z54 (S := S) vp p Y (h2.to (Kept.ext hY (z08 hS hx)) (fun _ h => h)) (fun k hk => Nat.lt_of_lt_of_le (z08 hS hx k hk) hY.size) HRP.out)
   have hcr : 0 ≤ z0r (z0n p) ∧ z0r (z0n p) ≤ 200 := z3i (z2t p)
   generalize z0r (z0n p) = lc at C1 HST hcr
   generalize mayT p = mp at C2 HST
   obtain ⟨hc1, hc2⟩ := hcr
   obtain ⟨ap, cp, rfl⟩ := h2.form
   obtain ⟨np, hnp⟩ : ∃ n, n = p.length := ⟨_, rfl⟩
   rw [← hnp] at C1 C2 h1
   clear h2 hp hx hnp
   cases mp with
   | false =>
    go_wp2_with fail
    with_reducible refine C1.out.mono ?_
    rintro e w2 ⟨rfl, hx2⟩
    have HX2 := hid hx2
    clear hx2
    go_wp2_with fail
    with_reducible refine (C2.out _ HX2.out).mono ?_
    rintro e w3 ⟨rfl, hx3⟩
    have HX3 := hid ((HX.out.trans HX2.out).trans hx3)
    clear hx3
    go_wp2
    all_goals
     go_ret
     exact ⟨by rw [← HA.out, HST.out]; rfl, HX3.out⟩
   | true =>
    by_cases hlc : d < lc
    ·have q1 : decide (lc ≤ d) = false := decide_eq_false (by omega)
     have HST2 : Hid (mayC d (ls.drop k) = mayC lc (ls.drop (k + 1))) := hid (by rw [HST.out, decide_eq_true hlc]; rfl)
     go_wp2_with fail
     with_reducible refine C1.out.mono ?_
     rintro e w2 ⟨rfl, hx2⟩
     have HX2 := hid hx2
     clear hx2
     go_wp2_with fail
     with_reducible refine (C2.out _ HX2.out).mono ?_
     rintro e w3 ⟨rfl, hx3⟩
     have HX3 := hid ((HX.out.trans HX2.out).trans hx3)
     clear hx3
     go_wp2
     go_roundw
     case rel => exact ⟨k + 1, lc, by omega, by go_num, rfl, by unfold z12; omega, HX3.out, hid (HST2.out.symm.trans HA.out)⟩
     case measure => simp only [intOf]; omega
    ·have q1 : decide (lc ≤ d) = true := decide_eq_true (by omega)
     have HST2 : Hid (mayC d (ls.drop k) = false) := hid (by rw [HST.out, decide_eq_false hlc]; rfl)
     go_wp2_with fail
     with_reducible refine C1.out.mono ?_
     rintro e w2 ⟨rfl, hx2⟩
     have HX2 := hid hx2
     clear hx2
     go_wp2_with fail
     with_reducible refine (C2.out _ HX2.out).mono ?_
     rintro e w3 ⟨rfl, hx3⟩
     have HX3 := hid ((HX.out.trans HX2.out).trans hx3)
     clear hx3
     go_wp2
     all_goals
      go_ret
      exact ⟨by rw [← HA.out, HST2.out]; rfl, HX3.out⟩
  ·obtain rfl : k = n := by omega
   have HE : Hid (mayC 0 ls = true) := hid (by rw [← HA.out, HN.out, List.drop_length]; rfl)
   clear hx
   go_wp2
   all_goals
    go_ret
    exact ⟨by rw [HE.out]; rfl, HX.out⟩
end
section
open Go.RowKit
abbrev PVL (W : World) (v : Value) (l : List PZ) : Prop := z16 (Old W) W v (l.map ofP)
def Ints (S : Nat → Prop) (w : World) (v : Value) (ns : List Int) : Prop :=
 ∃ b off, z31 S v ns.length b off ∧ ∀ j n, ns[j]? = some n → z12 n ∧ w.cell? ⟨b, off + j, none⟩ = some (.int .i64 n)
section
variable {S S' : Nat → Prop} {w w' : World} {v : Value} {ns : List Int}
theorem Ints.form (h : Ints S w v ns) : ∃ a cap, v = .slice a ns.length cap := by
 obtain ⟨b, off, ⟨a, cap, h1, _⟩, _⟩ := h
 exact ⟨a, cap, h1⟩
theorem Ints.to (h : Ints S w v ns) (hk : Kept S w w') (hS : ∀ k, S k → S' k) : Ints S' w' v ns := by
 obtain ⟨b, off, hs, hc⟩ := h
 exact ⟨b, off, hs.mono hS, fun j n hj => ⟨(hc j n hj).1, hk.cell (hs.in (z04 hj)) (hc j n hj).2⟩⟩
theorem Ints.len_le (h : Ints S w v ns) : ns.length ≤ 9223372036854775807 := by
 obtain ⟨b, off, ⟨a, cap, h1, h2, h3, _⟩, _⟩ := h
 unfold maxLen at h3
 omega
theorem Ints.cellAt {a : Option Addr} {m cap k : Nat} {n : Int} (h : Ints S w (.slice a m cap) ns) (hn : ns[k]? = some n) :
  ∃ b off, a = some ⟨b, off, none⟩ ∧ m = ns.length ∧ m ≤ cap ∧ cap ≤ 9223372036854775807 ∧ S b ∧ z12 n ∧ w.cell? ⟨b, off + k, none⟩ = some (.int .i64 n) := by
 obtain ⟨b, off, ⟨a', cap', h1, h2, h3, h4, h5⟩, hc⟩ := h
 obtain ⟨rfl, rfl, rfl⟩ : a = a' ∧ m = ns.length ∧ cap = cap' := by simpa using h1
 have hp : 0 < ns.length := by have := z04 hn; omega
 exact ⟨b, off, h4 hp, rfl, h2, h3, h5 hp, hc k n hn⟩
end
structure IdStep (x y : PZ × PZ) (p c : PZ) (n : Int) (N : Nat) (i b : PZ) : Prop where
 hn : n = (N : Int)
 hN : N ≤ 100
 ex : ∃ A T B U C V D X E Y F Z : Nat, Fit A T p ∧ A < 24 ∧ 1 ≤ T ∧ T ≤ 1000000000000 ∧ T ^ N ≤ 1000000000000 ∧ Fit B U x.1 ∧ Fit C V i ∧ (B < 24 ∨ C < 24) ∧ B ≤ 40000 ∧ C ≤ 40000 ∧ U ≤ 1000000000000 ∧ V ≤ 1000000000000 ∧ U * V ≤ 1000000000000 ∧
  Fit D X c ∧ D ≤ 40000 ∧ X ≤ 1000000000000 ∧ T * X ≤ 1000000000000 ∧ Fit E Y x.2 ∧ E ≤ 80000 ∧ Fit F Z b ∧ F ≤ 80000 ∧ Y + Z ≤ 1000000000000
 pow : powN (z1m p) N = some i
 left : z0e x.1 i = some y.1
 prod : z0e p c = some b
 right : y.2 = z0m (x.2 ++ b)
theorem zji {l : List PZ} (h : ∀ p ∈ l, canP p) : (l.map ofP).all mayT = true := List.all_eq_true.2 fun t ht => by
 obtain ⟨p, hp, rfl⟩ := List.mem_map.1 ht
 exact zag (h p hp)
theorem z9k {l : List PZ} {k : Nat} (hk : k < l.length) : (l.map ofP)[k]? = some (ofP (l.getD k [])) := by
 rw [List.getElem?_map, List.getElem?_eq_getElem hk, List.getD_eq_getElem?_getD, List.getElem?_eq_getElem hk]
 rfl
theorem zsm {l : List Int} {k : Nat} (hk : k < l.length) : l[k]? = some (l.getD k 0) := by
 rw [List.getD_eq_getElem?_getD, List.getElem?_eq_getElem hk]
 rfl
theorem zpk {o : Option Nat} {bd : Nat} {W : World} {N : Nat} (hN : N ≤ bd) (hW : N ≤ W.heap.size) (ho : ∀ b, o = some b → N ≤ b) : ∀ k, k < N → NC o bd W k := fun k hk => ⟨Nat.lt_of_lt_of_le hk hW, fun e => by have := ho k e.symm; omega, by omega⟩
theorem zcs {W : World} {vf vl vp vc vr : Value} {f r : PZ} {ls cs : List PZ} {ns : List Int} {xs : Nat → PZ × PZ} {Ns : Nat → Nat} {is bs : Nat → PZ} {j : Nat} {A T B U : Nat}
  (hf : PV W vf f) (hl : PVL W vl ls) (hp : Ints (Old W) W vp ns) (hc : PVL W vc cs) (hr : PV W vr r) (e1 : ns.length = ls.length) (e2 : cs.length = ls.length)
  (ff : Fit A T f) (hA : A ≤ 1000000) (fr : Fit B U r) (hB : B ≤ 1000000) (sl : z55 (ls.map ofP)) (cl : ∀ p ∈ ls, canP p) (sc : z55 (cs.map ofP)) (cc : ∀ p ∈ cs, canP p)
  (hj : j ≤ ls.length) (x0 : xs 0 = (f, r)) (hst : ∀ k, k < j → IdStep (xs k) (xs (k + 1)) (ls.getD k []) (cs.getD k []) (ns.getD k 0) (Ns k) (is k) (bs k)) (hbad : j < ls.length → ns.getD j 0 < 0 ∨ 100 < ns.getD j 0) :
  Calls Tryz.prog 12 #[vf, vl, .agg #[vp, vc, vr]] W fun e W' => e = .returned (.bool (if j < ls.length then false else decide ((xs j).1 = (xs j).2))) ∧ Ext W W' := by
 have hnot : ∀ (x : Bool) (w : World), (Op.unary .not (.bool x)).run Tryz.prog w = .ok (.bool (!x)) w := fun _ _ => rfl
 have CA1 := hid (fun (Y : World) (hY : Ext W Y) => (show Calls Tryz.prog 41 #[vl] Y fun e w' => e = .returned (.bool true) ∧ Ext Y w' from by
  have h := zgq (S := Old W) vl (ls.map ofP) Y (hl.ext hY (fun _ h => h)) (fun k h => Nat.lt_of_lt_of_le h hY.size) sl
  rwa [zji cl] at h))
 have CA2 := hid (fun (Y : World) (hY : Ext W Y) => (show Calls Tryz.prog 41 #[vc] Y fun e w' => e = .returned (.bool true) ∧ Ext Y w' from by
  have h := zgq (S := Old W) vc (cs.map ofP) Y (hc.ext hY (fun _ h => h)) (fun k h => Nat.lt_of_lt_of_le h hY.size) sc
  rwa [zji cc] at h))
 have CM1 := hid (fun (Y : World) (hY : Ext W Y) => zlm (z05.on hf hY) ff hA)
 have CM2 := hid (fun (Y : World) (hY : Ext W Y) => zlm (z05.on hr hY) fr hB)
 have HF := hid hf
 have HL := hid hl
 have HP := hid hp
 have HC := hid hc
 have HR := hid hr
 have HST := hid hst
 have HBAD := hid hbad
 have HX0 := hid x0
 have hll := hp.len_le
 obtain ⟨m, hm⟩ : ∃ m, m = ls.length := ⟨_, rfl⟩
 have HM := hid hm
 have HE1 := hid (e1.trans hm.symm)
 have HE2 := hid (e2.trans hm.symm)
 rw [e1, ← hm] at hll
 rw [← hm] at hj ⊢
 have HRES : Hid (∀ x : PZ × PZ, x = xs j → ¬ j < m → (if j < m then false else decide ((xs j).1 = (xs j).2)) = decide (x.1 = x.2)) := hid (fun x hx hn => by rw [if_neg hn, hx])
 have HRES2 : Hid (j < m → (if j < m then false else decide ((xs j).1 = (xs j).2)) = false) := hid (fun h => if_pos h)
 generalize (if j < m then false else decide ((xs j).1 = (xs j).2)) = RES at HRES HRES2 ⊢
 obtain ⟨af, cf, rfl⟩ := hf.form
 obtain ⟨ar, cr, rfl⟩ := hr.form
 obtain ⟨al, cl', hl'⟩ := hl.form
 obtain ⟨ap, cp, hp'⟩ := hp.form
 obtain ⟨ac, cc', hc'⟩ := hc.form
 rw [List.length_map, ← hm] at hl'
 rw [e1, ← hm] at hp'
 rw [List.length_map, e2, ← hm] at hc'
 subst hl' hp' hc'
 obtain ⟨nf, hnf⟩ : ∃ n, n = (ofP f).length := ⟨_, rfl⟩
 obtain ⟨nr, hnr⟩ : ∃ n, n = (ofP r).length := ⟨_, rfl⟩
 rw [← hnf] at HF CM1 ⊢
 rw [← hnr] at HR CM2 ⊢
 have HXA := hid (Ext.alloc (Ext.refl W) (.cells #[.slice ap m cp, .slice ac m cc', .slice ar nr cr] 27))
 have j0 : (W.alloc (.cells #[.slice ap m cp, .slice ac m cc', .slice ar nr cr] 27)).cell? ⟨W.heap.size, 0, none⟩ = some (.slice ap m cp) := z01 _ _ _ rfl rfl
 have j1 : (W.alloc (.cells #[.slice ap m cp, .slice ac m cc', .slice ar nr cr] 27)).cell? ⟨W.heap.size, 1, none⟩ = some (.slice ac m cc') := z01 _ _ _ rfl rfl
 have j2 : (W.alloc (.cells #[.slice ap m cp, .slice ac m cc', .slice ar nr cr] 27)).cell? ⟨W.heap.size, 2, none⟩ = some (.slice ar nr cr) := z01 _ _ _ rfl rfl
 have HJ := hid (And.intro j0 (And.intro j1 j2))
 have q1 : ((m : Int) != (m : Int)) = false := by rw [bne_eq_false_iff_eq]
 clear hf hl hp hc hr e1 e2 ff hA fr hB sl cl sc cc x0 hst hbad hm hnf hnr
 go_enter Tryz.func12, Tryz.ntmps12
 go_wp2_with fail
 with_reducible refine (CA1.out _ HXA.out).mono ?_
 rintro e w1 ⟨rfl, hx⟩
 have HX1 := hid (HXA.out.trans hx)
 have HJ1 := hid (And.intro (hx.cell HJ.out.1) (And.intro (hx.cell HJ.out.2.1) (hx.cell HJ.out.2.2)))
 clear hx j0 j1 j2
 obtain ⟨j0, j1, j2⟩ := HJ1.out
 go_wp2_with fail
 with_reducible refine (CA2.out _ HX1.out).mono ?_
 rintro e w2 ⟨rfl, hx⟩
 have HX2 := hid (HX1.out.trans hx)
 have HJ2 := hid (And.intro (hx.cell HJ1.out.1) (And.intro (hx.cell HJ1.out.2.1) (hx.cell HJ1.out.2.2)))
 clear hx j0 j1 j2
 obtain ⟨j0, j1, j2⟩ := HJ2.out
 go_wp2_with fail
 with_reducible refine (CM1.out _ HX2.out).mono ?_
 rintro e w3 ⟨rfl, hx⟩
 have HX3 := hid (HX2.out.trans hx)
 have HJ3 := hid (And.intro (hx.cell HJ2.out.1) (And.intro (hx.cell HJ2.out.2.1) (hx.cell HJ2.out.2.2)))
 clear hx j0 j1 j2
 obtain ⟨j0, j1, j2⟩ := HJ3.out
 go_wp2_with fail
 with_reducible refine (CM2.out _ HX3.out).mono ?_
 rintro e w4 ⟨rfl, hx⟩
 have HX4 := hid (HX3.out.trans hx)
 have HJ4 := hid (And.intro (hx.cell HJ3.out.1) (And.intro (hx.cell HJ3.out.2.1) (hx.cell HJ3.out.2.2)))
 clear hx j0 j1 j2
 obtain ⟨j0, j1, j2⟩ := HJ4.out
 have HD4 : Hid (CalcAt (w4.alloc (.cells #[.pointer none, .int .i64 0] 97)) w4.heap.size (mval none) 0) := hid ⟨z01 _ _ _ rfl rfl, z01 _ _ _ rfl rfl, fun i => z2r _ _ _⟩
 have HX5 := hid (Ext.alloc (Ext.refl w4) (.cells #[.pointer none, .int .i64 0] 97))
 have L2 := fun Y : Later (w4.alloc (.cells #[.pointer none, .int .i64 0] 97)) => Y.h.cell (cell_old (.cells #[.pointer none, .int .i64 0] 97) j2)
 go_wp2
 refine z03 (by kernel_rfl) (by kernel_rfl) ?_
 repeat (go_big_quiet_step (fail))
 refine wpQuiet_nil ?_
 intro W5 hW5
 have HD5 := hid (HD4.out.ext hW5)
 have HX6 := hid (HX4.out.trans (HX5.out.trans hW5))
 have HXJ := hid (HX5.out.trans hW5)
 have HBD := hid (show W.heap.size ≤ w4.heap.size from HX4.out.size)
 have HJ5 := hid (And.intro (HXJ.out.cell HJ4.out.1) (And.intro (HXJ.out.cell HJ4.out.2.1) (HXJ.out.cell HJ4.out.2.2)))
 clear j0 j1 j2 L2 hW5
 obtain ⟨j0, j1, j2⟩ := HJ5.out
 obtain ⟨bd, hbd⟩ : ∃ n, n = w4.heap.size := ⟨_, rfl⟩
 have HBB := hid hbd
 rw [← hbd] at HD5 HBD ⊢
 have HBL := hid (show W.heap.size < bd from by rw [hbd]; exact z09 HJ4.out.1)
 clear hbd
 have HXN := hid HX0.out
 go_wp2
 go_loopw [8, 9, 56] (fun a b i wr => ∃ k : Nat, k ≤ j ∧ i = .int .i64 k ∧ Gd none bd W5 wr ∧ Hid (CalcAt wr bd (mval none) 0) ∧ Hid (PC none bd wr a (xs k).1) ∧ Hid (PC none bd wr b (xs k).2)) (fun _ _ i _ => j + 1 - (intOf i).toNat)
 case atStart =>
  refine ⟨0, Nat.zero_le _, rfl, Gd.refl _ _ _, HD5, hid ?_, hid ?_⟩
  ·rw [HX0.out]
   exact HF.out.to (Kept.ext HX6.out (fun _ h => h)) (fun k h => zpk HBD.out HX6.out.size (fun b hb => (by cases hb)) k h)
  ·rw [HX0.out]
   exact HR.out.to (Kept.ext HX6.out (fun _ h => h)) (fun k h => zpk HBD.out HX6.out.size (fun b hb => (by cases hb)) k h)
 case round =>
  obtain ⟨k, hk, rfl, hg, HDk, HLk, HRk⟩ := hrel
  have HG := hid hg
  have HKW : Hid (Kept (Old W) W wr) := hid (fun b hb => (hg.block b (Nat.lt_of_lt_of_le hb HX6.out.size) (by simp) (fun e => by have := HBD.out; have h2 : b < W.heap.size := hb; omega)).trans (HX6.out.block b hb))
  have HSW : Hid (∀ b, Old W b → NC none bd wr b) := hid (fun b hb => zpk HBD.out (Nat.le_trans HX6.out.size hg.size) (fun c hc => (by cases hc)) b hb)
  have HXW : Hid (Ext W wr) := hid ⟨hg.os.trans HX6.out.os, hg.tape.trans HX6.out.tape, hg.output.trans HX6.out.output, Nat.le_trans HX6.out.size hg.size, HKW.out⟩
  by_cases hlt : k < m
  ·obtain ⟨bp, op, rfl, -, hp1, hp2, -, hin, hcell⟩ := (HP.out.to HKW.out (fun _ h => h)).cellAt (zsm (k := k) (by rw [HE1.out]; exact hlt))
   obtain ⟨hi1, hi2⟩ := hin
   obtain ⟨bl, ol, vl, rfl, -, hl1, hl2, hSl, hlc, htl⟩ := (HL.out.to HKW.out (fun _ h => h)).cellAt (z9k (k := k) (l := ls) (by rw [← HM.out]; exact hlt))
   obtain ⟨bc, oc, vc, rfl, -, hc1, hc2, hSc, hcc, htc⟩ := (HC.out.to HKW.out (fun _ h => h)).cellAt (z9k (k := k) (l := cs) (by rw [HE2.out]; exact hlt))
   by_cases hkj : k < j
   ·have HS := hid (HST.out k hkj)
    have hs := HS.out
    obtain ⟨hn, hN, ⟨A, T, B, U, C, V, D, X, E, Y, F, Z, fp, hA, hT, hT2, hTN, fx, fi, hBC, hB, hC, hU, hV, hUV, fc, hD, hX, hTX, fr2, hE, fb, hF, hYZ⟩, hpow, hleft, hprod, hright⟩ := hs
    rw [hn] at hcell hi1 hi2
    have HR1 := hid hright
    have HTL := hid (htl.to (S' := NC none bd wr) (Kept.refl _ _) HSW.out)
    have HTC := hid (htc.to (S' := NC none bd wr) (Kept.refl _ _) HSW.out)
    have CI := hid (zge (PC.pv HTL.out) fp (by omega) hT2)
    have HLT := hid HDk.out.lt
    have CP := hid (fun (Y : World) (u : Value) (hY : Ext wr Y) (hu : PC none bd Y u (z1m (ls.getD k []))) => zdi (o := none) (s := default) (HDk.out.ext hY) (MV.none _ _) (fun b hb => (by cases hb)) hu fp.init hA hT hN hTN hpow)
    have CT := hid (fun (Y : World) (u : Value) (hd : CalcAt Y bd (mval none) 0) (hY : Gd none bd wr Y) (hu : PC none bd Y u (is k)) => z7q hd (PC.pv (PC.on HLk.out hY)) (PC.pv hu) fx fi hBC (by omega) (by omega) hUV hleft)
    have CT2 := hid (fun (Y : World) (hd : CalcAt Y bd (mval none) 0) (hY : Gd none bd wr Y) => z7q hd (PC.pv (PC.on HTL.out hY)) (PC.pv (PC.on HTC.out hY)) fp fc (.inl hA) (by omega) (by omega) hTX hprod)
    have CA := hid (fun (Y : World) (u : Value) (hY : Gd none bd wr Y) (hu : PV Y u (bs k)) => zov (PC.pv (PC.on HRk.out hY)) hu fr2 fb (by omega) (by omega) hYZ)
    obtain ⟨aL, cL, rfl⟩ := HLk.out.form
    obtain ⟨aR, cR, rfl⟩ := HRk.out.form
    obtain ⟨all, cll, rfl⟩ := htl.form
    obtain ⟨acc, ccc, rfl⟩ := htc.form
    obtain ⟨nL, hnL⟩ : ∃ n, n = (ofP (xs k).1).length := ⟨_, rfl⟩
    obtain ⟨nR, hnR⟩ : ∃ n, n = (ofP (xs k).2).length := ⟨_, rfl⟩
    obtain ⟨nl1, hnl1⟩ : ∃ n, n = (ofP (ls.getD k [])).length := ⟨_, rfl⟩
    obtain ⟨nc1, hnc1⟩ : ∃ n, n = (ofP (cs.getD k [])).length := ⟨_, rfl⟩
    rw [← hnL] at CT ⊢
    rw [← hnR] at CA ⊢
    rw [← hnl1] at CI CT2 hlc
    rw [← hnc1] at CT2 hcc
    generalize Ns k = N at CP hcell hi1 hi2 hN
    have q2 : decide ((N : Int) < 0) = false := decide_eq_false (by omega)
    have q3 : decide (100 < (N : Int)) = false := decide_eq_false (by omega)
    have hSl2 : bl < W.heap.size := hSl
    have hSc2 : bc < W.heap.size := hSc
    have hbx := HBL.out
    have HFS : Hid (∀ Y : World, Gd none bd wr Y → Y.cell? ⟨bl, ol + k, none⟩ = some (.slice all nl1 cll) ∧ Y.cell? ⟨W.heap.size, 1, none⟩ = some (.slice (some ⟨bc, oc, none⟩) m cc') ∧ Y.cell? ⟨bc, oc + k, none⟩ = some (.slice acc nc1 ccc)) := hid (fun Y hY => by
     have hs := HXW.out.size
     have hs2 := HXJ.out.size
     have hs3 := hg.size
     have hb5 : W.heap.size < W5.heap.size := z09 HJ5.out.1
     refine ⟨(World.cell?_of_block (hY.block bl (Nat.lt_of_lt_of_le hSl2 hs) (by simp) (by omega))).trans hlc, (World.cell?_of_block ((hg.trans hY).block W.heap.size hb5 (by simp) (by omega))).trans HJ5.out.2.1, (World.cell?_of_block (hY.block bc (Nat.lt_of_lt_of_le hSc2 hs) (by simp) (by omega))).trans hcc⟩)
    have k1 := (HFS.out wr (Gd.refl _ _ _)).1
    clear fp hA hT hT2 hTN fx fi hBC hB hC hU hV hUV fc hD hX hTX fr2 hE fb hF hYZ hpow hleft hprod hright hn htl htc hnL hnR hnl1 hnc1 hg hN hSl hSc hlc hcc
    go_wp2_with fail
    with_reducible refine CI.out.mono ?_
    rintro e w6 ⟨vi, rfl, ht6, hx6⟩
    have HX6' := hid hx6
    have HT6 := hid (ht6.to (S' := NC none bd w6) (Kept.refl _ _) (fun b hb => ⟨hb.2, by simp, fun e => by have := hb.1; have := HLT.out; omega⟩))
    have HCP := hid (CP.out w6 vi hx6 HT6.out)
    obtain ⟨ai, ci, rfl⟩ := ht6.form
    obtain ⟨ni, hni⟩ : ∃ n, n = (ofP (z1m (ls.getD k []))).length := ⟨_, rfl⟩
    rw [← hni] at HCP ⊢
    clear hx6 ht6 hni k1
    go_wp2_with fail
    with_reducible refine HCP.out.mono ?_
    rintro e w7 ⟨vi7, rfl, hd7, -, hg7, hp7⟩
    have HD7 : Hid (CalcAt w7 bd (mval none) 0) := hid hd7
    have HG7 := hid ((z23 HX6'.out).trans hg7)
    have HCT := hid (CT.out w7 vi7 hd7 HG7.out hp7.pc)
    obtain ⟨a7, c7, rfl⟩ := hp7.form
    obtain ⟨n7, hn7⟩ : ∃ n, n = (ofP (is k)).length := ⟨_, rfl⟩
    rw [← hn7] at HCT ⊢
    clear hd7 hg7 hp7 hn7
    go_wp2_with fail
    with_reducible refine HCT.out.mono ?_
    rintro e w8 ⟨v8, rfl, hd8, hg8, ht8⟩
    have HG8 := hid (HG7.out.trans hg8)
    have HLT7 := hid hd8.lt
    have HT8 := hid (ht8.to (S' := NC none bd w8) (Kept.refl _ _) (fun b hb => ⟨hb.2, by simp, fun e => by have := hb.1; have := HD7.out.lt; omega⟩))
    obtain ⟨a8, c8, rfl⟩ := ht8.form
    obtain ⟨n8, hn8⟩ : ∃ n, n = (ofP (xs (k + 1)).1).length := ⟨_, rfl⟩
    rw [← hn8] at HT8 ⊢
    have x0 := Below.drew (Ext.refl w8)
    have HGX := hid (HG8.out.trans (z23 x0))
    have S0 := HFS.out _ HGX.out
    have HC2 := hid (CT2.out _ (hd8.ext x0) HGX.out)
    have HY8 : Hid (Gd none bd w8 _) := hid (z23 x0)
    clear hd8 hg8 ht8 hn8 x0
    go_wp2
    first
     | go_region_held3 (fun Y => Y.cell? ⟨bl, ol + k, none⟩ = some (.slice all nl1 cll) ∧ Y.cell? ⟨W.heap.size, 1, none⟩ = some (.slice (some ⟨bc, oc, none⟩) m cc') ∧ Y.cell? ⟨bc, oc + k, none⟩ = some (.slice acc nc1 ccc)) (first | exact S0 | exact S1 | exact S2)
       (first
      | (go_at_call 43; refine HC2.out.mono ?_
         rintro e u1 ⟨x9, rfl, hd9, hg9, ht9⟩; have HG9 := hid (HGX.out.trans hg9); have HY9 := hid (HY8.out.trans hg9); have S1 := HFS.out _ HG9.out; have HD9 := hid hd9; have HC3 := hid (CA.out u1 x9 HG9.out (ht9.to (S' := Old u1) (Kept.refl _ _) New.lt)); have qf := ht9.form; obtain ⟨a9, c9, rfl⟩ := qf; obtain ⟨n9, hn9⟩ : ∃ n, n = (ofP (bs k)).length := ⟨_, rfl⟩; rw [← hn9] at HC3; rw [← hn9]; clear hd9 hg9 ht9 hn9)
      | (go_at_call 45; refine HC3.out.mono ?_
         rintro e u2 ⟨x10, rfl, ht10, hx10⟩; have HG10 := hid (HG9.out.trans (z23 hx10)); have HY10 := hid (HY9.out.trans (z23 hx10)); have S2 := HFS.out _ HG10.out; have HD10 := hid (HD9.out.ext hx10); have HT10 := hid (ht10.to (S' := NC none bd u2) (Kept.refl _ _) (fun b hb => ⟨hb.2, by simp, fun e => by have := hb.1; have := HD9.out.lt; omega⟩)); have qf := ht10.form; obtain ⟨a10, c10, rfl⟩ := qf; obtain ⟨n10, hn10⟩ : ∃ n, n = (ofP (z0m ((xs k).2 ++ bs k))).length := ⟨_, rfl⟩; rw [← hn10] at HT10; rw [← hn10]; clear ht10 hx10 hn10))
     | fail
    all_goals
     go_wp2
     go_roundw
     case rel =>
      refine ⟨k + 1, hkj, by go_num, HG.out.trans HG10.out, HD10, hid ?_, hid ?_⟩
      ·exact PC.on HT8.out HY10.out
      ·rw [HR1.out]
       exact HT10.out
     case measure => simp only [intOf]; omega
   ·obtain rfl : k = j := by omega
    have HB := hid (HBAD.out (by rw [← HM.out]; exact hlt))
    have HE := hid (HRES2.out hlt)
    generalize ns.getD k 0 = nk at HB hcell hi1 hi2
    clear htl htc hlc hcc hg
    rcases HB.out with hb | hb
    ·have q2 : decide (nk < 0) = true := decide_eq_true hb
     go_wp2
     all_goals
      go_ret
      exact ⟨by rw [HE.out]; rfl, HXW.out⟩
    ·have q2 : decide (nk < 0) = false := decide_eq_false (by omega)
     have q3 : decide (100 < nk) = true := decide_eq_true hb
     go_wp2
     all_goals
      go_ret
      exact ⟨by rw [HE.out]; rfl, HXW.out⟩
  ·obtain rfl : k = j := by omega
   have e1 := HDk.out.c1
   have CS := hid (zx3 (PC.pv HLk.out) (PC.pv HRk.out))
   have HE := hid (HRES.out _ rfl hlt)
   obtain ⟨aL, cL, rfl⟩ := HLk.out.form
   obtain ⟨aR, cR, rfl⟩ := HRk.out.form
   obtain ⟨nL, hnL⟩ : ∃ n, n = (ofP (xs k).1).length := ⟨_, rfl⟩
   obtain ⟨nR, hnR⟩ : ∃ n, n = (ofP (xs k).2).length := ⟨_, rfl⟩
   rw [← hnL, ← hnR] at CS ⊢
   clear hnL hnR hg
   go_wp2_with fail
   with_reducible refine CS.out.mono ?_
   rintro e w9 ⟨rfl, hx9⟩
   have HX9 := hid hx9
   clear hx9
   go_wp2
   all_goals
    go_ret
    exact ⟨by rw [HE.out]; rfl, HXW.out.trans HX9.out⟩
end
section
open Go.RowKit Go.Deep Go.ChangeShapes Go.WideShapes Go.ChangeAt Go.Joins
section
variable {H : Type} {enc : TypeId × Value → H} {w : World} {base : Nat} {spare : Nat → Bool} {held : Bool}
end
section
variable {H : Type} {enc : TypeId × Value → H} {W : World} {base b0 : Nat} {sp : Nat → Bool} {held : Bool}
end
end
section
open Go.RowKit Go.Deep Go.ChangeShapes Go.WideShapes Go.ChangeAt Go.Joins
section
variable {H : Type} {enc : TypeId × Value → H} {w : World} {base : Nat} {spare : Nat → Bool} {held : Bool}
theorem Tryz.bytes_poly : Tryz.prog.bytesOf 23 = 24 := by kernel_rfl
theorem Tryz.cells_poly1 : Tryz.prog.cellsOf 23 = 1 := by kernel_rfl
theorem zad {fuel : Nat} {v : Value} {x : DataW H × List MemPlace} (h : DataW.trod enc Tryz.prog w base spare held fuel 24 [v] = some x) (hL : zjs 24 x.1) : ∃ ls, z16 (· < w.heap.size) w v ls ∧ ls.length ≤ 5864062014800 := by
 obtain ⟨n, b, off, f', hs, hn, -⟩ := zaa Tryz.underlying24 Tryz.cells_poly1 (by omega) h hL
 obtain ⟨ls, hz⟩ := zk7 h
 refine ⟨ls, hz, ?_⟩
 obtain ⟨a, cap, e1, -⟩ := hs
 obtain ⟨a', cap', e2⟩ := hz.form
 have e : n = ls.length := by
  rw [e1] at e2
  simpa using congrArg (fun v => match v with | Value.slice _ n _ => n | _ => 0) e2
 rw [Tryz.bytes_poly] at hn
 rw [← e]
 unfold reachBytes at hn
 omega
end
section
variable {H : Type} {enc : TypeId × Value → H} {W : World} {base b0 : Nat} {sp : Nat → Bool} {held : Bool}
end
end
section
open Go.RowKit
theorem zpl {o : Option Nat} {keep : Bool} {g h : PZ} {v d : Int} : ∀ (k : Nat) (s : MSt) (q r : PZ) (n : Nat), (runD o keep g h v d k s q r n).n ≤ n + k := by
 intro k
 induction k with
 | zero => intros; exact Nat.le_refl _
 | succ k ih =>
  intro s q r n
  rw [runD]
  split
  ·exact Nat.le_add_right _ _
  split
  ·exact Nat.zero_le _
  split
  ·exact Nat.zero_le _
  split
  ·exact Nat.zero_le _
  split
  ·exact Nat.zero_le _
  ·exact Nat.le_trans (ih _ _ _ _) (by omega)
theorem zvu {o : Option Nat} {keep : Bool} {s : MSt} {f g : PZ} {v : Int} (hf : z0i f) : (divD o keep s f g v).n ≤ 10001 := by
 have h : (divD o keep s f g v).n ≤ 0 + _ := zpl _ _ _ _ _
 have h2 := z0u hf v
 omega
def redD (o : Option Nat) (ls : List PZ) : Nat → MSt → PZ → List Int → Int × MSt × PZ × List Int
 | 0, s, r, ns => (0, s, r, ns)
 | k + 1, s, r, ns =>
  if (divD o false s r (ls.getD k []) (z0r (ls.getD k []))).e ≠ 0 then ((divD o false s r (ls.getD k []) (z0r (ls.getD k []))).e, (divD o false s r (ls.getD k []) (z0r (ls.getD k []))).s, [], [])
  else redD o ls k (divD o false s r (ls.getD k []) (z0r (ls.getD k []))).s (divD o false s r (ls.getD k []) (z0r (ls.getD k []))).r (ns.set k ((divD o false s r (ls.getD k []) (z0r (ls.getD k []))).n : Int))
structure RedStep (o : Option Nat) (keep : Bool) (p r : PZ) (s : MSt) : Prop where
 ex : ∃ A T B M : Nat, Fit A T p ∧ A < 24 ∧ B ≤ 40000 ∧ 1 ≤ T ∧ T ≤ 1000000 ∧ 2 * T * M ≤ 1000000000000 ∧ z3g o keep p (z18 p (z0r p)) (z0r p) (degP p (z0r p)) B M ((degP r (z0r p)).toNat + 1) s [] r
 lead : 1 ≤ z0r p ∧ z0r p ≤ 200
 deg : 1 ≤ degP p (z0r p)
def zdj (o : Option Nat) (ls : List PZ) : Nat → MSt → PZ → Prop
 | 0, _, _ => True
 | k + 1, s, r => RedStep o false (ls.getD k []) r s ∧ ((divD o false s r (ls.getD k []) (z0r (ls.getD k []))).e = 0 → zdj o ls k (divD o false s r (ls.getD k []) (z0r (ls.getD k []))).s (divD o false s r (ls.getD k []) (z0r (ls.getD k []))).r)
def rowI (ns : List Int) : Nat → Value := fun j => .int .i64 (ns.getD j 0)
theorem zjj {w : World} {T : TypeId} {n g : Nat} {ns : List Int} (h : w.rowIs g T n (rowI ns)) (k : Nat) (z : Int) (hk : k < ns.length) : (w.setCell ⟨g, k, none⟩ (.int .i64 z)).rowIs g T n (rowI (ns.set k z)) := by
 refine (h.set k (.int .i64 z)).congr (fun i hi => ?_)
 unfold rowI
 simp only [List.getD_eq_getElem?_getD, List.getElem?_set]
 by_cases e : i = k
 ·subst e
  simp [hk]
 ·rw [if_neg e, if_neg (fun h => e h.symm)]
theorem zlr (w : World) (n : Nat) (T : TypeId) : (w.alloc (.cells (madeCells #[.int .i64 0] n) T)).rowIs w.heap.size T n (rowI (List.replicate n 0)) :=
 (World.rowIs_made w (.int .i64 0) n T).congr (fun i hi => by simp [rowI, List.getD_eq_getElem?_getD, hi])
theorem Ints.of_row {w : World} {T : TypeId} {g m : Nat} {ns : List Int} {S : Nat → Prop} (h : w.rowIs g T m (rowI ns)) (hn : ns.length = m) (hi : ∀ z ∈ ns, z12 z) (hm : m ≤ maxLen) (hS : S g) : Ints S w (.slice (some ⟨g, 0, none⟩) m m) ns := by
 refine ⟨g, 0, ⟨_, m, by rw [hn], by omega, hm, fun _ => rfl, fun _ => hS⟩, fun j n hj => ⟨hi n (List.mem_of_getElem? hj), ?_⟩⟩
 have hl := z04 hj
 rw [Nat.zero_add, h.cell (i := j) (by omega)]
 unfold rowI
 rw [List.getD_eq_getElem?_getD, hj]
 rfl
def zpm (W : World) (o : Option Nat) (X : Int × MSt × PZ × List Int) : Ending → World → Prop := fun e W' => ∃ vr vn, e = .returned (.tuple #[vr, vn, .int .i64 X.1]) ∧ MV W' o X.2.1 ∧ W.grownBy W' o ∧ PMN W.heap.size o W' vr X.2.2.1 ∧ Ints (fun k => W.heap.size ≤ k ∧ NB o W' k) W' vn X.2.2.2
theorem zgr {W : World} {o : Option Nat} {s : MSt} {vf vl : Value} {f : PZ} {ls : List PZ} {A T : Nat} (hM : MV W o s) (hf : PM o W vf f) (hl : z16 (NB o W) W vl (ls.map ofP)) (ff : Fit A T f) (hA : A ≤ 1000000) (hT : T ≤ 1000000000)
  (sl : z55 (ls.map ofP)) (hmay : mayC 0 (ls.map ofP) = true) (hlen : ls.length ≤ 1000) (hF : zdj o ls ls.length s f) :
  Calls Tryz.prog 15 #[mval o, vf, vl] W (zpm W o (redD o ls ls.length s f (List.replicate ls.length 0))) := by
 have hnot : ∀ (x : Bool) (w : World), (Op.unary .not (.bool x)).run Tryz.prog w = .ok (.bool (!x)) w := fun _ _ => rfl
 have C1 := hid (zlm hf.pv ff hA)
 have C2 := hid (fun (Y : World) (hY : Ext W Y) => (show Calls Tryz.prog 13 #[vl] Y fun e w' => e = .returned (.bool true) ∧ Ext Y w' from by
  have h := z40 (S := NB o W) vl (ls.map ofP) Y (hl.ext hY (fun _ h => h.1)) (fun k h => Nat.lt_of_lt_of_le h.1 hY.size) sl
  rwa [hmay] at h))
 have hnil : z0m (f ++ []) = f := by rw [List.append_nil]; exact z2n ff.can
 have C3 := hid (fun (Y : World) (hY : Ext W Y) => (show Calls Tryz.prog 45 #[vf, .slice none 0 0] Y (z8v Y f) from by
  have hn : PV Y (.slice none 0 0) [] := z05.nilv _ _ _ _ (by decide)
  have h := zov (q := []) (z05.on hf.pv hY) hn ff z6t hA (by omega) (by omega)
  rwa [hnil] at h))
 have HM := hid hM
 have HL := hid hl
 have HFF := hid hF
 have HBM := hid (fun b hb => hM.block (b := b) hb)
 obtain ⟨X, hX⟩ : ∃ X, X = redD o ls ls.length s f (List.replicate ls.length 0) := ⟨_, rfl⟩
 rw [← hX]
 have HX := hid hX
 obtain ⟨m, hm⟩ : ∃ m, m = ls.length := ⟨_, rfl⟩
 have HMM := hid hm
 rw [← hm] at hlen
 obtain ⟨af, cf, rfl⟩ := hf.form
 obtain ⟨al, cl, hl'⟩ := hl.form
 rw [List.length_map, ← hm] at hl'
 subst hl'
 obtain ⟨nf, hnf⟩ : ∃ n, n = (ofP f).length := ⟨_, rfl⟩
 rw [← hnf] at C1 C3 ⊢
 obtain ⟨vm, hvm⟩ : ∃ x, x = mval o := ⟨_, rfl⟩
 rw [← hvm]
 have HVM := hid hvm
 clear hM hf hl ff hA hT sl hmay hF hX hm hnf hnil hvm
 have hmk := fun (Y : World) => run_make_row' (P := Tryz.prog) 25 3 (.int .i64 0) 8 Tryz.underlying25 Tryz.infoInt rfl .i64 .i64 m (by omega) (by omega) Y
 go_enter Tryz.func15, Tryz.ntmps15
 go_wp2_with fail
 with_reducible refine C1.out.mono ?_
 rintro e w1 ⟨rfl, hx⟩
 have HX1 := hid hx
 clear hx
 go_wp2_with fail
 with_reducible refine (C2.out _ HX1.out).mono ?_
 rintro e w2 ⟨rfl, hx⟩
 have HX2 := hid (HX1.out.trans hx)
 clear hx
 go_wp2_with fail
 with_reducible refine (C3.out _ HX2.out).mono ?_
 rintro e w3 ⟨v3, rfl, ht3, hx⟩
 have HX3 := hid (HX2.out.trans hx)
 have HT3 := hid (ht3.to (S' := fun k => W.heap.size ≤ k ∧ k < w3.heap.size) (Kept.refl _ _) (fun k h => ⟨Nat.le_trans HX2.out.size h.1, h.2⟩))
 obtain ⟨a3, c3, rfl⟩ := ht3.form
 obtain ⟨n3, hn3⟩ : ∃ n, n = (ofP f).length := ⟨_, rfl⟩
 rw [← hn3] at HT3 ⊢
 have HN3 := hid hn3
 clear hx ht3 hn3
 have HR0 := hid (zlr w3 m 3)
 have HXA := hid (Ext.alloc (Ext.refl w3) (.cells (madeCells #[.int .i64 0] m) 3))
 obtain ⟨w5, hw5⟩ : ∃ Y, Y = w3.alloc (.cells (madeCells #[.int .i64 0] m) 3) := ⟨_, rfl⟩
 obtain ⟨bp, hbp⟩ : ∃ n, n = w3.heap.size := ⟨_, rfl⟩
 have HBP := hid hbp
 rw [← hw5, ← hbp] at HR0
 rw [← hw5] at HXA
 have HX5 := hid (HX3.out.trans HXA.out)
 go_wp2
 rw [← hw5, ← hbp]
 have HNP : Hid (W.heap.size ≤ bp) := hid (by rw [hbp]; exact HX3.out.size)
 have HT5 : Hid (z05 (fun k => W.heap.size ≤ k ∧ NC o bp w5 k) w5 (.slice a3 n3 c3) (ofP f)) := hid (by
  rw [HN3.out] at HT3
  have h := HT3.out
  rw [← HN3.out] at h
  exact h.to (Kept.ext HXA.out (fun _ h => h.2)) (fun k h => ⟨h.1, Nat.lt_of_lt_of_le h.2 HXA.out.size, fun e => by have h1 := HBM.out k e.symm; have h2 := h.1; omega, fun e => by have h2 := h.2; rw [← hbp, ← e] at h2; omega⟩))
 have HOB : Hid (∀ b, o = some b → b ≠ bp) := hid (fun b hb e => by have h1 := HBM.out b hb; have h2 := HNP.out; omega)
 clear hw5 hbp hmk
 go_loopw [6, 7, 8, 9] (fun rv pv e i wr => ∃ (k : Nat) (s1 : MSt) (r1 : PZ) (ns1 : List Int), k ≤ m ∧ i = .int .i64 ((k : Int) - 1) ∧ e = .int .i64 0 ∧ pv = .slice (some ⟨bp, 0, none⟩) m m ∧ Hid (MV wr o s1) ∧ Gd o bp w5 wr ∧ Hid (PN W.heap.size o bp wr rv r1) ∧ wr.rowIs bp 3 m (rowI ns1) ∧ Hid (zdj o ls k s1 r1) ∧ Hid (redD o ls k s1 r1 ns1 = X) ∧ Hid (ns1.length = m ∧ ∀ z ∈ ns1, z12 z)) (fun _ _ _ i _ => (intOf i + 1).toNat)
 case atStart =>
  refine ⟨m, s, f, List.replicate m 0, Nat.le_refl _, rfl, rfl, rfl, hid (HM.out.ext HX5.out), Gd.refl _ _ _, HT5, HR0.out, hid ?_, hid ?_, hid ⟨by simp, fun z hz => ?_⟩⟩
  ·rw [HMM.out]; exact HFF.out
  ·rw [HX.out, HMM.out]
  ·rw [List.eq_of_mem_replicate hz]; unfold z12; omega
 case round =>
  obtain ⟨k, s1, r1, ns1, hk, rfl, rfl, rfl, HMV, hg, HRV, hrow, HRF, HRD, HNS⟩ := hrel
  have HG := hid hg
  have HROW := hid hrow
  have HGW : Hid (W.grownBy wr o) := hid ((Gd.trans (z23 HX5.out) hg).gb HNP.out)
  cases k with
  | zero =>
   have HX0 : Hid (X = (0, s1, r1, ns1)) := hid HRD.out.symm
   have HINT := hid (Ints.of_row (S := fun k => W.heap.size ≤ k ∧ NB o wr k) hrow HNS.out.1 HNS.out.2 (by unfold maxLen; omega) ⟨HNP.out, hrow.lt, fun e => HOB.out bp e.symm rfl⟩)
   have HRW := hid HRV.out.pmn
   obtain ⟨ar, cr, rfl⟩ := HRV.out.form
   obtain ⟨nr, hnr⟩ : ∃ n, n = (ofP r1).length := ⟨_, rfl⟩
   rw [← hnr] at HRW ⊢
   clear hg hrow hnr
   go_wp2
   all_goals
    refine bodyPost_ret (v := .tuple #[.slice ar nr cr, .slice (some ⟨bp, 0, none⟩) m m, .int .i64 0]) (by simp [results, Tryz.results15, go_sem]) rfl ?_
    rw [HX0.out]
    exact ⟨_, _, rfl, HMV.out, HGW.out, HRW.out, HINT.out⟩
  | succ q =>
   have hq1 : ((q + 1 : Nat) : Int) - 1 = (q : Int) := by omega
   have hqm : q < m := by omega
   have HRS := hid HRF.out.1
   have hrs := HRS.out
   have HRV0 : Hid (z0i r1) := hid (by obtain ⟨⟨A, T, B, M, fp, hA, hB, hT, hTb, hTM, hFR⟩, hlead, hdeg⟩ := HRS.out; exact hFR.now.2.can.may)
   obtain ⟨⟨A, T, B, M, fp, hA, hB, hT, hTb, hTM, hFR⟩, hlead, hdeg⟩ := hrs
   have HKW : Hid (Kept (NB o W) W wr) := hid (fun b hb => HGW.out.block b hb.1 hb.2)
   have HSW : Hid (∀ b, NB o W b → NC o bp wr b) := hid (fun b hb => ⟨Nat.lt_of_lt_of_le hb.1 HGW.out.size, hb.2, fun e => by have h1 := hb.1; have h2 := HNP.out; omega⟩)
   obtain ⟨bl, ol, vl, rfl, -, hl1, hl2, hSl, hlc, htl⟩ := (HL.out.to HKW.out (fun _ h => h)).cellAt (z9k (k := q) (l := ls) (by rw [← HMM.out]; exact hqm))
   have HTL := hid (htl.to (S' := NC o bp wr) (Kept.refl _ _) HSW.out)
   have CC := hid (fun (Y : World) (hY : Ext wr Y) => zow (PC.pv (PC.on HTL.out (z23 (o := o) (bd := bp) hY))) fp (by omega))
   have CR0 := fun (Y : World) (hY : Ext wr Y) => zx7 (HMV.out.ext hY) (PC.pm (PC.on (PN.pc HRV.out) (z23 (o := o) (bd := bp) hY))) (PC.pm (PC.on HTL.out (z23 (o := o) (bd := bp) hY))) fp hFR hA (by omega) hT hTb hTM hlead hdeg
   rw [← HVM.out] at CR0
   have CR := hid CR0
   have HRF2 := hid HRF.out.2
   have hrd := HRD.out
   rw [redD] at hrd
   have HDN : Hid (z0i r1) := hid HRV0.out
   have hdn := zvu (o := o) (keep := false) (s := s1) (g := ls.getD q []) (v := z0r (ls.getD q [])) HDN.out
   generalize divD o false s1 r1 (ls.getD q []) (z0r (ls.getD q [])) = R at CR HRF2 hrd hdn
   obtain ⟨re, rq, rr, rn, rs⟩ := R
   simp only at HRF2 hrd hdn
   have HDN2 := hid hdn
   clear hdn
   have HFS : Hid (∀ Y : World, wr.grownBy Y o → Y.cell? ⟨bl, ol + q, none⟩ = some vl ∧ Y.cell? ⟨bp, q, none⟩ = some (.int .i64 (ns1.getD q 0)) ∧ Y.frozen? ⟨bp, q, none⟩ = false) := hid (fun Y hY => by
    have hb : Y.heap[bp]? = wr.heap[bp]? := hY.block bp HROW.out.lt (fun e => HOB.out bp e.symm rfl)
    exact ⟨(World.cell?_of_block (hY.block bl (HSW.out bl hSl).1 hSl.2)).trans hlc, (World.cell?_of_block hb).trans (HROW.out.cell (i := q) hqm), (World.frozen?_of_block (w := wr) (a := ⟨bp, q, none⟩) hb).trans (HROW.out.frozen q)⟩)
   obtain ⟨aR, cR, rfl⟩ := HRV.out.form
   obtain ⟨all, cll, rfl⟩ := htl.form
   obtain ⟨nR, hnR⟩ : ∃ n, n = (ofP r1).length := ⟨_, rfl⟩
   obtain ⟨nl1, hnl1⟩ : ∃ n, n = (ofP (ls.getD q [])).length := ⟨_, rfl⟩
   rw [← hnR, ← hnl1] at CR
   rw [← hnl1] at CC HFS
   rw [← hnR]
   have x0 := Below.drew (Ext.refl wr)
   have HX0 : Hid (Ext wr _) := hid x0
   have S0 := (HFS.out _ (z07 HX0.out o)).1
   have HNE : Hid (bp ≠ bl) := hid (fun e => (HSW.out bl hSl).2.2 e.symm)
   have HC1 := hid (CC.out _ x0)
   have HRDX := hid hrd
   clear fp hA hB hT hTb hTM hFR hlead hdeg htl hnR hnl1 hSl hlc hg hrow x0 hrd CR0
   simp only [hq1]
   go_wp2
   go_region_held3 (fun Y => Y.cell? ⟨bl, ol + q, none⟩ = some (.slice all nl1 cll)) (first | exact S0 | exact S1 | exact S2 | exact z0b S2 (ab HNE.out))
     (first
    | (go_at_call 46; refine HC1.out.mono ?_
       rintro e u1 ⟨rfl, hx1⟩; have HX1 : Hid (Ext wr u1) := hid (Ext.trans HX0.out hx1); have S1 := (HFS.out _ (z07 HX1.out o)).1; have HC2 := hid (CR.out u1 HX1.out); clear hx1)
    | (go_at_call 47; refine HC2.out.mono ?_
       rintro e u2 ⟨x2, rfl, hm2, hg2, hr2⟩; have HG2 := hid (z06 (z07 HX1.out o) hg2); have S2 := (HFS.out _ HG2.out).1; have k1 := (HFS.out _ HG2.out).2.1; have k2 := (HFS.out _ HG2.out).2.2; have HM2 := hid hm2; have HR2 := hid hr2; have qf := hr2.form; obtain ⟨a2, c2, rfl⟩ := qf; obtain ⟨n2, hn2⟩ : ∃ n, n = (ofP rr).length := ⟨_, rfl⟩; rw [← hn2] at HR2; rw [← hn2]; clear hm2 hg2 hr2 hn2))
   all_goals
    have HU := hid (show bp < u1.heap.size ∧ W.heap.size ≤ u1.heap.size from ⟨Nat.lt_of_lt_of_le HROW.out.lt HX1.out.size, Nat.le_trans HGW.out.size HX1.out.size⟩)
    obtain ⟨W6, hW6⟩ : ∃ Y, Y = u2.setCell ⟨bp, q, none⟩ (.int .i64 (rn : Nat)) := ⟨_, rfl⟩
    have HM6 : Hid (MV W6 o rs) := hid (by rw [hW6]; exact HM2.out.set HOB.out (a := ⟨bp, q, none⟩) rfl _)
    have HS6 : Hid (Gd o bp u2 W6) := hid (by rw [hW6]; exact za7 u2 (a := ⟨bp, q, none⟩) rfl _)
    have HG6 : Hid (Gd o bp w5 W6) := hid (HG.out.trans ((zcq HG2.out).trans HS6.out))
    have HP6 := hid (PN.on (N := W.heap.size) (o := o) (bd := bp) (HR2.out.to (S' := fun k => W.heap.size ≤ k ∧ NC o bp u2 k) (Kept.refl _ _) (fun k h => ⟨Nat.le_trans HU.out.2 h.1, h.2.1, h.2.2, fun e => by have h1 := h.1; have h2 := HU.out.1; omega⟩)) HS6.out)
    have HR6 : Hid (W6.rowIs bp 3 m (rowI (ns1.set q (rn : Int)))) := hid (by rw [hW6]; exact zjj (HROW.out.of_block (HG2.out.block bp HROW.out.lt (fun e => HOB.out bp e.symm rfl))) q _ (by rw [HNS.out.1]; exact hqm))
    have HGW6 : Hid (W.grownBy W6 o) := hid ((Gd.trans (z23 HX5.out) HG6.out).gb HNP.out)
    rw [← hW6]
    clear hW6
    by_cases h0 : re = 0
    ·have HRD6 : Hid (redD o ls q rs rr (ns1.set q (rn : Int)) = X) := hid (by have h := HRDX.out; rwa [if_neg (by rw [h0]; exact fun h => h rfl)] at h)
     have HRF6 : Hid (zdj o ls q rs rr) := hid (HRF2.out h0)
     subst h0
     go_wp2
     go_roundw
     case rel =>
      refine ⟨q, rs, rr, ns1.set q (rn : Int), by omega, by go_num, rfl, rfl, HM6, HG6.out, HP6, HR6.out, HRF6, HRD6, hid ⟨by rw [List.length_set]; exact HNS.out.1, fun z hz => ?_⟩⟩
      rcases List.mem_or_eq_of_mem_set hz with h | h
      ·exact HNS.out.2 z h
      ·rw [h]; unfold z12; have h1 := HDN2.out; omega
     case measure => simp only [intOf]; omega
    ·have HXE : Hid (X = (re, rs, [], [])) := hid (by have h := HRDX.out; rw [if_pos h0] at h; exact h.symm)
     have q0 : (re != 0) = true := by rw [bne_iff_ne]; exact h0
     clear h0
     go_wp2
     all_goals
      refine bodyPost_ret (v := .tuple #[.slice none 0 0, .slice none 0 0, .int .i64 re]) (by simp [results, Tryz.results15, go_sem]) rfl ?_
      rw [HXE.out]
      exact ⟨_, _, rfl, HM6.out, HGW6.out, z05.nilv _ _ _ _ (by decide), ⟨0, 0, ⟨none, 0, rfl, Nat.le_refl _, by decide, fun h => by simp at h, fun h => by simp at h⟩, fun j n hj => by simp at hj⟩⟩
end
end Go.Proofs.YthdcaablomgboaaGreat
