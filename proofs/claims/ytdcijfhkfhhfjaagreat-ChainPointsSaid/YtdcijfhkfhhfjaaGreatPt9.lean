/- The program's division: all its steps. The program's division, as it is asked. The document: is it the same data? What layer 9's law knows. What layer 12's law knows. The program's powers, and how many limbs. The chain's calc: products by a meter, and the first error. Are some polynomials a chain. Chain: is it an identity. Chain: the rest alone. Chain: the rest with its cofactors, plainly. The rounds of an identity within layer 16's guards. What layer 16's law knows: y^2 by x^2 - 2 and y - x, plainly. Chain: what lies in memory while the rest with its cofactors is made. The insertion sort in place, at polynomials. Exchanges and rotations in place, at polynomials. The merge in place of two neighbours, at polynomials: one element ahead, or one behind. The merge in place of two neighbours, at polynomials. The stable sort in place, at polynomials: blocks of twenty, then merges. Some polynomials by rising ranks. -/
import Derived.Deep.RegionHeld3
import Derived.Deep.DeepCutAuto
import Derived.Test.YtdcijfhkfhhfjaaGreatPt8
set_option maxRecDepth 100000
set_option maxHeartbeats 16000000
namespace Go.Proofs.YtdcijfhkfhhfjaaGreat
section
open Go.RowKit
def zep (w:World) (a:Addr):Nat:=match w.cell? a with
 | some (.int _ n) => n.toNat
 | _ => 0
theorem zdf {w:World} {a:Addr} {k:IntKind} {n:Int} (h:w.cell? a = some (.int k n)):zep w a = n.toNat:=by unfold zep; rw [h]
def meas (K:Nat) (e:Value) (n:Nat):Nat:=if intOf e = 0 then K + 2 - n else 0
theorem zeq (K:Nat) (n:Nat):meas K (.int .i64 0) n = K + 2 - n:=if_pos rfl
theorem ztg {K:Nat} {c:Int} (h:c ≠ 0) {n:Nat}:meas K (.int .i64 c) n = 0:=if_neg h
def zwz (W:World) (o:Option Nat) (R:DRes):Ending → World → Prop:=fun e W' => ∃ bd,e = .returned (.tuple #[.pointer (some ⟨bd,0,none⟩),.int .i64 R.e]) ∧ MV W' o R.s ∧ W.grownBy W' o ∧
 (R.e = 0 → ∃ vq vr,W'.cell? ⟨bd,5,none⟩ = some vq ∧ W'.cell? ⟨bd,6,none⟩ = some vr ∧ W'.cell? ⟨bd,7,none⟩ = some (.int .i64 (R.n:Nat)) ∧ PMN W.heap.size o W' vq R.q ∧ PMN W.heap.size o W' vr R.r)
theorem zps {W:World} {o:Option Nat} {s:MSt} {vf vg:Value} {v:Int} {keep:Bool} {f g:PZ} {A B T M:Nat} (hM:MV W o s) (hf:PM o W vf f) (hg:PM o W vg g) (fg:Fit A T g) (hF:z5i o keep g (z17 g v) v (degP g v) B M ((degP f v).toNat + 1) s [] f)
  (hA:A < 24) (hB:B ≤ 80000) (hT:1 ≤ T) (hTb:T ≤ 1000000) (hTM:2 * T * M ≤ 1000000000000) (hv:1 ≤ v ∧ v ≤ 200) (hd:1 ≤ degP g v) :
  Calls Tryz.prog 51 #[mval o,vf,vg,.int .i64 v,.bool keep] W (zwz W o (divD o keep s f g v)):=by
 have hMM:M ≤ 2 * T * M:=Nat.le_mul_of_pos_left M (by omega)
 have ff:=hF.now.2
 have hfr:=z18 ff.can.may v
 have hgr:=z18 fg.can.may v
 have fh:=fg.coef v (degP g v)
 have CB:=zpr (vm:=mval o) (keep:=keep) ⟨_,rfl⟩ hf.pv hg.pv ff fg (by omega) (by omega) (by omega) (by omega) hv hd
 obtain ⟨R,hR⟩:∃ R,R = divD o keep s f g v:=⟨_,rfl⟩
 rw [← hR]
 have HR0:=hid hR
 obtain ⟨K,hK⟩:∃ K,K = (degP f v).toNat + 1:=⟨_,rfl⟩
 have HK:=hid hK
 have HFR:=hid hF
 have HM:=hid hM
 have HG:=hid hg
 have HBM:=hid (fun b hb => hM.block (b:=b) hb)
 have HFG:=hid fg
 have HFH:=hid (show Fit A T (z17 g v) from fh)
 have HV:=hid hv
 have HDD:=hid hd
 have HFF:=hid (And.intro hfr.1 hfr.2)
 have HBD:=hid (And.intro hA (And.intro hB (And.intro hT hTM)))
 obtain ⟨vm,hvm⟩:∃ x,x = mval o:=⟨_,rfl⟩
 rw [← hvm] at CB ⊢
 have HVM:=hid hvm
 obtain ⟨af,cf,rfl⟩:=hf.form
 obtain ⟨ag,cg,rfl⟩:=hg.form
 obtain ⟨nf,hnf⟩:∃ n,n = (ofP f).length:=⟨_,rfl⟩
 obtain ⟨ng,hng⟩:∃ n,n = (ofP g).length:=⟨_,rfl⟩
 rw [← hnf,← hng] at CB ⊢
 rw [← hng] at HG
 obtain ⟨d,hd2⟩:∃ d,d = degP g v:=⟨_,rfl⟩
 have HD2:=hid hd2
 rw [← hd2] at CB hgr
 have HCB:=hid CB
 obtain ⟨hv1,hv2⟩:=hv
 obtain ⟨hgr1,hgr2⟩:=hgr
 clear CB hM hf hg fg hF ff fh hR hK hfr hvm hnf hng hd2 hA hB hT hTb hTM hMM hd
 go_enter Tryz.func51,Tryz.ntmps51
 go_wp2_with fail
 with_reducible refine HCB.out.mono ?_
 rintro e w1 ⟨bd,vh,vr0,rfl,hb1,hd1,hh1,hr1,hx1⟩
 have HX1:=hid hx1
 have HB1:=hid hb1
 have HOB:Hid (∀ b,o = some b → b ≠ bd):=hid (fun b hb => by have:=HBM.out b hb; omega)
 have HVH:=hid hh1
 have HVR:=hid hr1
 have HDV:=hid hd1
 have HNEW:Hid (∀ k,(New W w1 k ∧ k ≠ bd) → NC o bd w1 k):=hid (fun k hk => ⟨hk.1.2,fun e => by have:=HBM.out k e.symm; have:=hk.1.1; omega,hk.2⟩)
 have HVG:Hid (PC o bd w1 (.slice ag ng cg) g):=hid (HG.out.to (zie (z11 hx1 o)) (fun k h => ⟨Nat.lt_of_lt_of_le h.1 hx1.size,h.2,by have:=h.1; omega⟩))
 clear hx1 hb1 hd1 hh1 hr1
 go_wp2
 go_loopw [13] (fun e wr => Hid (Gd o bd w1 wr) ∧ ((∃ (k:Nat) (s':MSt) (q r:PZ) (n:Nat) (vq vr:Value),e = .int .i64 0 ∧ Hid (runD o keep g (z17 g v) v (degP g v) k s' q r n = R) ∧ Hid (degP r v < (k:Int)) ∧ Hid (z5i o keep g (z17 g v) v (degP g v) B M k s' q r) ∧ Hid (DivAt wr bd vm v d (.slice ag ng cg) vh vq vr (n:Nat) keep) ∧ Hid (PN W.heap.size o bd wr vq q) ∧ Hid (PN W.heap.size o bd wr vr r) ∧ Hid (MV wr o s') ∧ Hid (n + k = K)) ∨
   (∃ c:Int,e = .int .i64 c ∧ c ≠ 0 ∧ Hid (R.e = c) ∧ Hid (MV wr o R.s)))) (fun e wr => meas K e (zep wr ⟨bd,7,none⟩))
 case atStart => exact ⟨Gd.refl _ _ _,.inl ⟨K,s,[],f,0,_,_,rfl,by show _ = _; rw [HR0.out,HK.out]; rfl,by show _ < _; have:=HFF.out; rw [HK.out]; omega,by rw [HK.out]; exact HFR,HDV,z06.nilv _ _ _ _ (by decide),HVR.out.to (Kept.refl _ _) (fun k hk => ⟨hk.1.1,HNEW.out k hk⟩),HM.out.ext HX1.out,Nat.zero_add _⟩⟩
 case round =>
  obtain ⟨HGD,hcase⟩:=hrel
  rcases hcase with ⟨k,s',q,r,n,vq,vr,rfl,HR,HDG,HF,HD,HQ,HRR,HMV,HNK⟩ | ⟨c,rfl,hc0,HE,HMV⟩
  ·have HFN:=hid HF.out.now
   have hdr:=z18 HFN.out.2.can.may v
   obtain ⟨k1,hk1⟩:∃ k1,k = k1 + 1:=⟨k - 1,by have:=HDG.out; omega⟩
   subst hk1
   have e2:=HD.out.c2
   have e6:=HD.out.c6
   have HSZ:=hid HD.out.lt
   by_cases hr0:r = []
   ·have hr0':=hr0
    subst hr0
    have HRE:Hid (R = ⟨0,q,[],n,s'⟩):=hid (by rw [← HR.out,zc9,if_pos (.inl rfl)])
    obtain ⟨ar,cr,hvr⟩:=HRR.out.form
    have hvr2:vr = .slice ar 0 cr:=hvr
    clear hvr hr0' hdr
    subst hvr2
    have L2:=fun Y:Later wr => Y.h.cell e2
    have L6:=fun Y:Later wr => Y.h.cell e6
    go_wp2
    refine z03 (by kernel_rfl) (by kernel_rfl) ?_
    repeat (go_big_quiet_step (fail))
    refine wpQuiet_nil ?_
    intro W2 hW2
    have HW2:=hid hW2
    clear L2 L6 hW2 e2 e6
    go_wp2
    all_goals
     go_ret2
     rw [HRE.out]
     refine ⟨bd,rfl,HMV.out.ext HW2.out,(((z2b HX1.out).trans HGD.out).trans (z2b HW2.out)).gb HB1.out,fun _ => ?_⟩
     have D2:=HD.out.ext HW2.out
     exact ⟨_,_,D2.c5,D2.c6,D2.c7,(PN.on HQ.out (z2b HW2.out)).pmn,(PN.on HRR.out (z2b HW2.out)).pmn⟩
   ·have CD:=fun (Y:Later wr) => zas (z06.on (PN.pc HRR.out).pv Y.h) HFN.out.2 (by have:=HBD.out.2.1; omega) (x:=v) (by unfold z1v; omega)
    have hnr:0 < (ofP r).length:=by rw [zej]; exact List.length_pos_iff.2 hr0
    obtain ⟨ar,cr,rfl⟩:=HRR.out.form
    obtain ⟨nr,hnr2⟩:∃ n,n = (ofP r).length:=⟨_,rfl⟩
    rw [← hnr2] at CD hnr HD HRR e6
    obtain ⟨dr,hdr2⟩:∃ d,d = degP r v:=⟨_,rfl⟩
    rw [← hdr2] at CD hdr
    have HDR:=hid hdr2
    have HCD:=hid CD
    have HR0':=hid hr0
    obtain ⟨hdr1,hdr3⟩:=hdr
    clear hr0 hnr2 hdr2 CD
    have L2:=fun Y:Later wr => Y.h.cell e2
    have L6:=fun Y:Later wr => Y.h.cell e6
    by_cases hlt:dr < d
    ·have q1:decide (d ≤ dr) = false:=decide_eq_false (by omega)
     have HRE:Hid (R = ⟨0,q,r,n,s'⟩):=hid (by rw [← HR.out,zc9,if_pos (.inr (by rw [← HDR.out,← HD2.out]; exact hlt))])
     clear hlt
     go_wp2
     refine z03 (by kernel_rfl) (by kernel_rfl) ?_
     repeat (go_big_quiet_step (first | (go_at_call 29; exact Later.done (HCD.out _))))
     refine wpQuiet_nil ?_
     intro W2 hW2
     have HW2:=hid hW2
     clear L2 L6 hW2 e2 e6
     go_wp2
     all_goals
      go_ret2
      rw [HRE.out]
      refine ⟨bd,rfl,HMV.out.ext HW2.out,(((z2b HX1.out).trans HGD.out).trans (z2b HW2.out)).gb HB1.out,fun _ => ?_⟩
      have D2:=HD.out.ext HW2.out
      exact ⟨_,_,D2.c5,D2.c6,D2.c7,(PN.on HQ.out (z2b HW2.out)).pmn,(PN.on HRR.out (z2b HW2.out)).pmn⟩
    ·have hle:d ≤ dr:=by omega
     have q1:decide (d ≤ dr) = true:=decide_eq_true hle
     have HLE:=hid hle
     have HNB:Hid (n ≤ 1000000):=hid (by have h1:=HNK.out; have h2:=HK.out; have h3:=HFF.out; omega)
     have HCS:=hid (fun (Y:World) (hY:Ext wr Y) => zte (o:=o) (s:=s') (by rw [← HVM.out]; exact HD.out.ext hY) (HMV.out.ext hY) HOB.out (PC.on HVG.out (HGD.out.trans (z2b hY))) (PC.on (HVH.out.to (Kept.refl _ _) HNEW.out) (HGD.out.trans (z2b hY))) (PN.pc (PN.on HQ.out (z2b hY))) (PN.pc (PN.on HRR.out (z2b hY))) HFG.out HFH.out HFN.out.1 HFN.out.2 HBD.out.1 HBD.out.2.1 HBD.out.2.2.1 HBD.out.2.2.2 HV.out (by omega) (by rw [← HDR.out]; exact HLE.out) ⟨by omega,by have:=HNB.out; omega⟩)
     clear hlt hle
     go_wp2
     refine z03 (by kernel_rfl) (by kernel_rfl) ?_
     repeat (go_big_quiet_step (first | (go_at_call 29; exact Later.done (HCD.out _))))
     refine wpQuiet_nil ?_
     intro W2 hW2
     have HW2:=hid hW2
     have HCS2:=hid (HCS.out W2 hW2)
     clear L2 L6 hW2 e2 e6
     go_wp2_with fail
     with_reducible refine HCS2.out.mono ?_
     rintro e w3 ⟨rfl,hm3,hg3,hy3⟩
     have HM3:=hid hm3
     have HG3:=hid ((HGD.out.trans (z2b HW2.out)).trans hg3)
     have HY3:=hid hy3
     clear hm3 hg3 hy3
     have hcn:zep wr ⟨bd,7,none⟩ = n:=by rw [zdf HD.out.c7]; omega
     have HRS:Hid (runD o keep g (z17 g v) v (degP g v) (k1 + 1) s' q r n = match (z53 o keep g (z17 g v) v d s' q r).2.2 with
      | none => ⟨(z53 o keep g (z17 g v) v d s' q r).1,[],[],0,(z53 o keep g (z17 g v) v d s' q r).2.1⟩
      | some x => runD o keep g (z17 g v) v (degP g v) k1 (z53 o keep g (z17 g v) v d s' q r).2.1 x.1 x.2 (n + 1)):=hid (by
       rw [zc9,if_neg (by
        rintro (h | h)
        ·exact HR0'.out h
        ·rw [← HDR.out,← HD2.out] at h; have:=HLE.out; omega),HD2.out]
       first | done | rfl)
     cases hx:(z53 o keep g (z17 g v) v d s' q r).2.2 with
     | none =>
      have hc:=zlq hx
      have HC:=hid hc
      have HRE:Hid (R.e = (z53 o keep g (z17 g v) v d s' q r).1 ∧ R.s = (z53 o keep g (z17 g v) v d s' q r).2.1):=hid (by
       have h:=HRS.out
       rw [hx,HR.out] at h
       rw [h]
       exact ⟨rfl,rfl⟩)
      generalize z53 o keep g (z17 g v) v d s' q r = X at *
      obtain ⟨c,s2,y⟩:=X
      simp only at hc HC HRE HM3
      clear hx
      go_wp2
      go_roundw
      case rel => exact ⟨HG3,.inr ⟨c,rfl,hc,HRE.out.1,by show MV _ _ _; rw [HRE.out.2]; exact HM3.out⟩⟩
      case measure =>
       rw [ztg hc,zeq,hcn]
       have:=HNK.out
       omega
     | some x =>
      have hso:=zlp hx
      have HSO:=hid hso
      obtain ⟨vq3,vr3,d3,hq3,hr3⟩:=HY3.out x hx
      have HDN:=hid d3
      have hsz:W.heap.size ≤ W2.heap.size:=Nat.le_trans HX1.out.size (Nat.le_trans HGD.out.size HW2.out.size)
      have HQ3:=hid (PN.low hq3 hsz)
      have HR3:=hid (PN.low hr3 hsz)
      have HSD:=hid (zgz (keep:=keep) (q:=q) (x:=x) HFG.out.can HFN.out.2.can HR0'.out HV.out (by rw [← HD2.out]; have:=HDD.out; rw [← HD2.out] at this; exact this) (by rw [← HD2.out,← HDR.out]; exact HLE.out) (by rw [← HD2.out]; exact hso.2.2.1))
      have HFN2:=hid (HF.out.2.2 HR0'.out (by rw [← HD2.out,← HDR.out]; exact HLE.out) hso.2.1 x (by rw [← HD2.out]; exact hso.2.2.1) hso.2.2.2.1 hso.2.2.2.2.1)
      have HRE:Hid (runD o keep g (z17 g v) v (degP g v) k1 (z53 o keep g (z17 g v) v d s' q r).2.1 x.1 x.2 (n + 1) = R):=hid (by
       have h:=HRS.out
       rw [hx,HR.out] at h
       exact h.symm)
      rw [hso.2.2.2.2.2] at HRE HM3
      rw [hso.1]
      clear hso d3 hq3 hr3 HRS HY3 hsz
      go_wp2
      go_roundw
      case rel => exact ⟨HG3,.inl ⟨k1,(z1e o s').2,x.1,x.2,n + 1,vq3,vr3,rfl,HRE,by show _ < _; have h1:=HSD.out.2; have h2:=HDG.out; omega,HFN2,by rw [HVM.out]; exact HDN,HQ3,HR3,HM3,by show _ = _; have:=HNK.out; omega⟩⟩
      case measure =>
       rw [zeq,zeq,hcn,zdf HDN.out.c7]
       have:=HNK.out
       omega
  ·have q0:(c == 0) = false:=by rw [beq_eq_false_iff_ne]; exact hc0
   have HC:=hid hc0
   clear hc0
   go_wp2
   refine z03 (by kernel_rfl) (by kernel_rfl) ?_
   repeat (go_big_quiet_step (fail))
   refine wpQuiet_nil ?_
   intro W2 hW2
   have HW2:=hid hW2
   clear hW2
   go_wp2
   all_goals
    go_ret2
    refine ⟨bd,by rw [HE.out]; rfl,HMV.out.ext HW2.out,(((z2b HX1.out).trans HGD.out).trans (z2b HW2.out)).gb HB1.out,fun h => absurd (HE.out.symm.trans h) HC.out⟩
end
section
open Go.RowKit
def zdg (W:World) (o:Option Nat) (R:DRes):Ending → World → Prop:=fun e W' => ∃ vq vr,e = .returned (.tuple #[vq,vr,.int .i64 (R.n:Nat),.int .i64 R.e]) ∧ MV W' o R.s ∧ W.grownBy W' o ∧ PMN W.heap.size o W' vq R.q ∧ PMN W.heap.size o W' vr R.r
def zth (W:World) (o:Option Nat) (R:DRes):Ending → World → Prop:=fun e W' => ∃ vr,e = .returned (.tuple #[vr,.int .i64 (R.n:Nat),.int .i64 R.e]) ∧ MV W' o R.s ∧ W.grownBy W' o ∧ PMN W.heap.size o W' vr R.r
section
variable {W:World} {o:Option Nat} {s:MSt} {vf vg:Value} {v:Int} {f g:PZ} {A B T M:Nat}
theorem zti (hM:MV W o s) (hf:PM o W vf f) (hg:PM o W vg g) (fg:Fit A T g) (hF:z5i o true g (z17 g v) v (degP g v) B M ((degP f v).toNat + 1) s [] f)
  (hA:A < 24) (hB:B ≤ 80000) (hT:1 ≤ T) (hTb:T ≤ 1000000) (hTM:2 * T * M ≤ 1000000000000) (hv:1 ≤ v ∧ v ≤ 200) (hd:1 ≤ degP g v) :
  Calls Tryz.prog 36 #[mval o,vf,vg,.int .i64 v] W (zdg W o (divD o true s f g v)):=by
 have C:=hid (zps (keep:=true) hM hf hg fg hF hA hB hT hTb hTM hv hd)
 have HER:=hid (zpp (o:=o) (keep:=true) (g:=g) (v:=v) (h:=z17 g v) (d:=degP g v) ((degP f v).toNat + 1) s [] f 0)
 obtain ⟨R,hR⟩:∃ R,R = divD o true s f g v:=⟨_,rfl⟩
 rw [show runD o true g (z17 g v) v (degP g v) ((degP f v).toNat + 1) s [] f 0 = R from hR.symm] at HER
 rw [← hR] at C ⊢
 obtain ⟨vm,hvm⟩:∃ x,x = mval o:=⟨_,rfl⟩
 rw [← hvm] at C ⊢
 obtain ⟨af,cf,rfl⟩:=hf.form
 obtain ⟨ag,cg,rfl⟩:=hg.form
 obtain ⟨nf,hnf⟩:∃ n,n = (ofP f).length:=⟨_,rfl⟩
 obtain ⟨ng,hng⟩:∃ n,n = (ofP g).length:=⟨_,rfl⟩
 rw [← hnf,← hng] at C ⊢
 clear hM hf hg fg hF hA hB hT hTb hTM hv hd hR hvm hnf hng
 obtain ⟨re,rq,rr,rn,rs⟩:=R
 simp only at HER
 by_cases h0:re = 0
 ·subst h0
  clear HER
  go_enter Tryz.func36,Tryz.ntmps36
  go_wp2_with fail
  with_reducible refine C.out.mono ?_
  rintro e w1 ⟨bd,rfl,hm1,hg1,hy1⟩
  obtain ⟨vq,vr,e5,e6,e7,hq,hr⟩:=hy1 rfl
  have HM1:=hid hm1
  have HG1:=hid hg1
  have HQ:=hid hq
  have HR:=hid hr
  have L5:=fun Y:Later w1 => Y.h.cell e5
  have L6:=fun Y:Later w1 => Y.h.cell e6
  have L7:=fun Y:Later w1 => Y.h.cell e7
  clear hm1 hg1 hq hr hy1
  go_wp2
  refine z03 (by kernel_rfl) (by kernel_rfl) ?_
  repeat (go_big_quiet_step (fail))
  refine wpQuiet_nil ?_
  intro W2 hW2
  have HW2:=hid hW2
  clear L5 L6 L7 hW2 e5 e6 e7
  go_wp2
  all_goals
   refine bodyPost_ret (v:=.tuple #[vq,vr,.int .i64 (rn:Nat),.int .i64 0]) (by simp [results,Tryz.results36,go_sem]) rfl ?_
   exact ⟨_,_,rfl,HM1.out.ext HW2.out,z1d HG1.out (z11 HW2.out o),PMN.ext HQ.out HW2.out,PMN.ext HR.out HW2.out⟩
 ·have q0:(re != 0) = true:=by rw [bne_iff_ne]; exact h0
  have HE2:Hid (rq = [] ∧ rr = [] ∧ rn = 0):=hid (by rcases HER.out with h | h; exact absurd h h0; exact h)
  clear HER h0
  go_enter Tryz.func36,Tryz.ntmps36
  go_wp2_with fail
  with_reducible refine C.out.mono ?_
  rintro e w1 ⟨bd,rfl,hm1,hg1,-⟩
  have HM1:=hid hm1
  have HG1:=hid hg1
  clear hm1 hg1
  go_wp2
  all_goals
   refine bodyPost_ret (v:=.tuple #[.slice none 0 0,.slice none 0 0,.int .i64 0,.int .i64 re]) (by simp [results,Tryz.results36,go_sem]) rfl ?_
   obtain ⟨rfl,rfl,rfl⟩:=HE2.out
   exact ⟨_,_,rfl,HM1.out,HG1.out,z06.nilv _ _ _ _ (by decide),z06.nilv _ _ _ _ (by decide)⟩
theorem zym (hM:MV W o s) (hf:PM o W vf f) (hg:PM o W vg g) (fg:Fit A T g) (hF:z5i o false g (z17 g v) v (degP g v) B M ((degP f v).toNat + 1) s [] f)
  (hA:A < 24) (hB:B ≤ 80000) (hT:1 ≤ T) (hTb:T ≤ 1000000) (hTM:2 * T * M ≤ 1000000000000) (hv:1 ≤ v ∧ v ≤ 200) (hd:1 ≤ degP g v) :
  Calls Tryz.prog 22 #[mval o,vf,vg,.int .i64 v] W (zth W o (divD o false s f g v)):=by
 have C:=hid (zps (keep:=false) hM hf hg fg hF hA hB hT hTb hTM hv hd)
 have HER:=hid (zpp (o:=o) (keep:=false) (g:=g) (v:=v) (h:=z17 g v) (d:=degP g v) ((degP f v).toNat + 1) s [] f 0)
 obtain ⟨R,hR⟩:∃ R,R = divD o false s f g v:=⟨_,rfl⟩
 rw [show runD o false g (z17 g v) v (degP g v) ((degP f v).toNat + 1) s [] f 0 = R from hR.symm] at HER
 rw [← hR] at C ⊢
 obtain ⟨vm,hvm⟩:∃ x,x = mval o:=⟨_,rfl⟩
 rw [← hvm] at C ⊢
 obtain ⟨af,cf,rfl⟩:=hf.form
 obtain ⟨ag,cg,rfl⟩:=hg.form
 obtain ⟨nf,hnf⟩:∃ n,n = (ofP f).length:=⟨_,rfl⟩
 obtain ⟨ng,hng⟩:∃ n,n = (ofP g).length:=⟨_,rfl⟩
 rw [← hnf,← hng] at C ⊢
 clear hM hf hg fg hF hA hB hT hTb hTM hv hd hR hvm hnf hng
 obtain ⟨re,rq,rr,rn,rs⟩:=R
 simp only at HER
 by_cases h0:re = 0
 ·subst h0
  clear HER
  go_enter Tryz.func22,Tryz.ntmps22
  go_wp2_with fail
  with_reducible refine C.out.mono ?_
  rintro e w1 ⟨bd,rfl,hm1,hg1,hy1⟩
  obtain ⟨vq,vr,e5,e6,e7,hq,hr⟩:=hy1 rfl
  have HM1:=hid hm1
  have HG1:=hid hg1
  have HR:=hid hr
  have L6:=fun Y:Later w1 => Y.h.cell e6
  have L7:=fun Y:Later w1 => Y.h.cell e7
  clear hm1 hg1 hq hr hy1
  go_wp2
  refine z03 (by kernel_rfl) (by kernel_rfl) ?_
  repeat (go_big_quiet_step (fail))
  refine wpQuiet_nil ?_
  intro W2 hW2
  have HW2:=hid hW2
  clear L6 L7 hW2 e5 e6 e7
  go_wp2
  all_goals
   refine bodyPost_ret (v:=.tuple #[vr,.int .i64 (rn:Nat),.int .i64 0]) (by simp [results,Tryz.results22,go_sem]) rfl ?_
   exact ⟨_,rfl,HM1.out.ext HW2.out,z1d HG1.out (z11 HW2.out o),PMN.ext HR.out HW2.out⟩
 ·have q0:(re != 0) = true:=by rw [bne_iff_ne]; exact h0
  have HE2:Hid (rq = [] ∧ rr = [] ∧ rn = 0):=hid (by rcases HER.out with h | h; exact absurd h h0; exact h)
  clear HER h0
  go_enter Tryz.func22,Tryz.ntmps22
  go_wp2_with fail
  with_reducible refine C.out.mono ?_
  rintro e w1 ⟨bd,rfl,hm1,hg1,-⟩
  have HM1:=hid hm1
  have HG1:=hid hg1
  clear hm1 hg1
  go_wp2
  all_goals
   refine bodyPost_ret (v:=.tuple #[.slice none 0 0,.int .i64 0,.int .i64 re]) (by simp [results,Tryz.results22,go_sem]) rfl ?_
   obtain ⟨-,rfl,rfl⟩:=HE2.out
   exact ⟨_,rfl,HM1.out,HG1.out,z06.nilv _ _ _ _ (by decide)⟩
end
section
variable {W:World} {vm vf vg:Value} {v:Int} {fs gs:List RTerm}
end
end
section
open Go.RowKit
theorem zx0 {S:Nat → Prop} (va vb:Value) (xs ys:List Nat) (w:World) (ha:U32s S w va xs) (hb:U32s S w vb ys) (hS:∀ k,S k → k < w.heap.size) :
  Calls Tryz.prog 79 #[va,vb] w fun e w' => e = .returned (.bool (decide (xs = ys))) ∧ Ext w w':=by
 have HA:=hid ha
 have HB:=hid hb
 have hla:=ha.len_le
 have hlb:=hb.len_le
 obtain ⟨aa,ca,rfl⟩:=ha.form
 obtain ⟨ab,cb,rfl⟩:=hb.form
 obtain ⟨na,hna⟩:∃ n,n = xs.length:=⟨_,rfl⟩
 obtain ⟨nb,hnb⟩:∃ n,n = ys.length:=⟨_,rfl⟩
 rw [← hna] at HA hla ⊢
 rw [← hnb] at HB hlb ⊢
 have HNA:=hid hna
 have HNB:=hid hnb
 clear ha hb hna hnb
 by_cases hne:na = nb
 ·subst hne
  go_enter Tryz.func79,Tryz.ntmps79
  go_wp2
  go_loopw [5] (fun i wr => ∃ k:Nat,k ≤ na ∧ i = .int .i64 k ∧ Ext w wr ∧ Hid (xs.take k = ys.take k)) (fun i _ => na - (intOf i).toNat)
  case atStart => exact ⟨0,Nat.zero_le _,rfl,Ext.refl _,rfl⟩
  case round =>
   obtain ⟨k,hk,rfl,hx,HE⟩:=hrel
   have HX:=hid hx
   by_cases hlt:k < na
   ·obtain ⟨x,hxk⟩:=z01 (l:=xs) (j:=k) (by rw [← HNA.out]; exact hlt)
    obtain ⟨y,hyk⟩:=z01 (l:=ys) (j:=k) (by rw [← HNB.out]; exact hlt)
    obtain ⟨b1,o1,rfl,-,hc1,hm1,hz1,h1⟩:=(HA.out.ext hx hS).cellAt hxk
    obtain ⟨b2,o2,rfl,-,hc2,hm2,hz2,h2⟩:=(HB.out.ext hx hS).cellAt hyk
    have HXK:=hid hxk
    have HYK:=hid hyk
    clear hxk hyk hx
    by_cases he:x = y
    ·have q1:((x:Int) != (y:Int)) = false:=by rw [he]; simp
     have H0:=hid he
     clear he
     go_wp2
     go_quiet (fail)
     go_wp2
     go_roundw
     case rel => exact ⟨k + 1,by omega,by go_num,HX.out.drewN _,z3i HE.out HXK.out (by rw [H0.out]; exact HYK.out)⟩
     case measure => simp only [intOf]; omega
    ·have q1:((x:Int) != (y:Int)) = true:=by rw [bne_iff_ne]; omega
     have HF:Hid (xs ≠ ys):=hid (z6f HXK.out HYK.out he)
     clear he
     go_wp2
     go_quiet (fail)
     go_wp2
     go_ret
     exact ⟨by rw [decide_eq_false HF.out]; rfl,HX.out.drewN _⟩
   ·obtain rfl:k = na:=by omega
    have HF:Hid (xs = ys):=hid (by have:=HE.out; rwa [List.take_of_length_le (by rw [← HNA.out]; exact Nat.le_refl _),List.take_of_length_le (by rw [← HNB.out]; exact Nat.le_refl _)] at this)
    clear hx
    go_wp2
    go_ret
    exact ⟨by rw [decide_eq_true HF.out]; rfl,HX.out⟩
 ·have hb:((na:Int) != (nb:Int)) = true:=by rw [bne_iff_ne]; omega
  have HF:Hid (xs ≠ ys):=hid (fun e => hne (by rw [HNA.out,HNB.out,e]))
  clear hne
  go_enter Tryz.func79,Tryz.ntmps79
  go_wp2
  go_ret
  exact ⟨by rw [decide_eq_false HF.out]; rfl,Ext.refl _⟩
theorem zx1 {S:Nat → Prop} (va vb:Value) (xs ys:Mono) (w:World) (ha:Pows S w va xs) (hb:Pows S w vb ys) (hS:∀ k,S k → k < w.heap.size) :
  Calls Tryz.prog 41 #[va,vb] w fun e w' => e = .returned (.bool (decide (xs = ys))) ∧ Ext w w':=by
 have HA:=hid ha
 have HB:=hid hb
 have hla:=ha.len_le
 have hlb:=hb.len_le
 obtain ⟨aa,ca,rfl⟩:=ha.form
 obtain ⟨ab,cb,rfl⟩:=hb.form
 obtain ⟨na,hna⟩:∃ n,n = xs.length:=⟨_,rfl⟩
 obtain ⟨nb,hnb⟩:∃ n,n = ys.length:=⟨_,rfl⟩
 rw [← hna] at HA hla ⊢
 rw [← hnb] at HB hlb ⊢
 have HNA:=hid hna
 have HNB:=hid hnb
 clear ha hb hna hnb
 by_cases hne:na = nb
 ·subst hne
  go_enter Tryz.func41,Tryz.ntmps41
  go_wp2
  go_loopw [5] (fun i wr => ∃ k:Nat,k ≤ na ∧ i = .int .i64 k ∧ Ext w wr ∧ Hid (xs.take k = ys.take k)) (fun i _ => na - (intOf i).toNat)
  case atStart => exact ⟨0,Nat.zero_le _,rfl,Ext.refl _,rfl⟩
  case round =>
   obtain ⟨k,hk,rfl,hx,HE⟩:=hrel
   have HX:=hid hx
   by_cases hlt:k < na
   ·obtain ⟨x,hxk⟩:=z01 (l:=xs) (j:=k) (by rw [← HNA.out]; exact hlt)
    obtain ⟨y,hyk⟩:=z01 (l:=ys) (j:=k) (by rw [← HNB.out]; exact hlt)
    obtain ⟨b1,o1,c1',hv1,hc1,hm1,⟨⟨hz1,hz2⟩,hz3,hz4⟩,h1,h1'⟩:=(HA.out.ext hx hS).at hxk
    obtain ⟨rfl,-,rfl⟩:aa = some ⟨b1,o1,none⟩ ∧ na = xs.length ∧ ca = c1':=by simpa using hv1
    obtain ⟨b2,o2,c2',hv2,hc2,hm2,⟨⟨hy1,hy2⟩,hy3,hy4⟩,h2,h2'⟩:=(HB.out.ext hx hS).at hyk
    obtain ⟨rfl,-,rfl⟩:ab = some ⟨b2,o2,none⟩ ∧ na = ys.length ∧ cb = c2':=by simpa using hv2
    clear hv1 hv2
    rw [← HNA.out] at hc1
    rw [← HNB.out] at hc2
    have HXK:=hid hxk
    have HYK:=hid hyk
    clear hxk hyk hx
    by_cases he:x = y
    ·have H0:=hid he
     obtain ⟨x1,x2⟩:=x
     obtain ⟨y1,y2⟩:=y
     obtain ⟨rfl,rfl⟩:x1 = y1 ∧ x2 = y2:=by simpa using he
     simp only at h1 h1' h2 h2' hz1 hz2 hz3 hz4 hy1 hy2 hy3 hy4
     clear he
     go_wp2
     go_quiet (fail)
     go_wp2
     go_roundw
     case rel => exact ⟨k + 1,by omega,by go_num,HX.out.drewN _,z3i HE.out HXK.out HYK.out⟩
     case measure => simp only [intOf]; omega
    ·have HF:Hid (xs ≠ ys):=hid (z6f HXK.out HYK.out he)
     obtain ⟨x1,x2⟩:=x
     obtain ⟨y1,y2⟩:=y
     simp only at h1 h1' h2 h2' hz1 hz2 hz3 hz4 hy1 hy2 hy3 hy4
     have he':x1 ≠ y1 ∨ (x1 = y1 ∧ x2 ≠ y2):=by
      by_cases h:x1 = y1
      ·exact .inr ⟨h,fun h' => he (by rw [h,h'])⟩
      ·exact .inl h
     clear he
     rcases he' with he | ⟨rfl,he⟩
     all_goals
      go_wp2
      go_quiet (fail)
      go_wp2
      go_ret
      exact ⟨by rw [decide_eq_false HF.out]; rfl,HX.out.drewN _⟩
   ·obtain rfl:k = na:=by omega
    have HF:Hid (xs = ys):=hid (by have:=HE.out; rwa [List.take_of_length_le (by rw [← HNA.out]; exact Nat.le_refl _),List.take_of_length_le (by rw [← HNB.out]; exact Nat.le_refl _)] at this)
    clear hx
    go_wp2
    go_ret
    exact ⟨by rw [decide_eq_true HF.out]; rfl,HX.out⟩
 ·have hb:((na:Int) != (nb:Int)) = true:=by rw [bne_iff_ne]; omega
  have HF:Hid (xs ≠ ys):=hid (fun e => hne (by rw [HNA.out,HNB.out,e]))
  clear hne
  go_enter Tryz.func41,Tryz.ntmps41
  go_wp2
  go_ret
  exact ⟨by rw [decide_eq_false HF.out]; rfl,Ext.refl _⟩
theorem zx2 {S:Nat → Prop} (v1 v2:Value) (sn tn:Bool) (sm tm:List Nat) (w:World) (h1:U32s S w v1 sm) (h2:U32s S w v2 tm) (hS:∀ k,S k → k < w.heap.size) :
  Calls Tryz.prog 40 #[.agg #[.bool sn,v1],.agg #[.bool tn,v2]] w fun e w' => e = .returned (.bool (decide (sn = tn) && decide (sm = tm))) ∧ Ext w w':=by
 have CU:=fun (W:World) (hW:Ext w W) => zx0 _ _ sm tm W (h1.ext hW hS) (h2.ext hW hS) (z08 hS hW)
 obtain ⟨a1,c1,rfl⟩:=h1.form
 obtain ⟨a2,c2,rfl⟩:=h2.form
 have hx:Ext w ((w.alloc (.cells #[.bool sn,.slice a1 sm.length c1] 30)).alloc (.cells #[.bool tn,.slice a2 tm.length c2] 30)):=Ext.alloc (Ext.alloc (Ext.refl w) _) _
 have HX:=hid hx
 clear h1 h2 hx
 by_cases hs:sn = tn
 ·subst hs
  cases hm:decide (sm = tm) with
  | false =>
   simp only [hm] at CU
   have HCU:=hid CU
   clear CU hm
   go_enter Tryz.func40,Tryz.ntmps40
   go_wp2_with fail
   with_reducible refine (HCU.out _ HX.out).mono ?_
   rintro e w1 ⟨rfl,hx1⟩
   have HX1:=hid (HX.out.trans hx1)
   clear hx1
   go_wp2
   all_goals
    go_ret
    exact ⟨by simp,HX1.out⟩
  | true =>
   simp only [hm] at CU
   have HCU:=hid CU
   clear CU hm
   go_enter Tryz.func40,Tryz.ntmps40
   go_wp2_with fail
   with_reducible refine (HCU.out _ HX.out).mono ?_
   rintro e w1 ⟨rfl,hx1⟩
   have HX1:=hid (HX.out.trans hx1)
   clear hx1
   go_wp2
   all_goals
    go_ret
    exact ⟨by simp,HX1.out⟩
 ·have hb:(sn == tn) = false:=by rw [beq_eq_false_iff_ne]; exact hs
  have HF:=hid (decide_eq_false hs)
  clear hs CU
  go_enter Tryz.func40,Tryz.ntmps40
  go_wp2
  all_goals
   go_ret
   exact ⟨by rw [HF.out]; simp,HX.out⟩
theorem zlr {S:Nat → Prop} (va vb:Value) (xs ys:List RTerm) (w:World) (ha:z06 S w va xs) (hb:z06 S w vb ys) (hS:∀ k,S k → k < w.heap.size) :
  Calls Tryz.prog 17 #[va,vb] w fun e w' => e = .returned (.bool (decide (xs = ys))) ∧ Ext w w':=by
 have HA:=hid ha
 have HB:=hid hb
 have hla:=ha.len_le
 have hlb:=hb.len_le
 obtain ⟨aa,ca,rfl⟩:=ha.form
 obtain ⟨ab,cb,rfl⟩:=hb.form
 obtain ⟨na,hna⟩:∃ n,n = xs.length:=⟨_,rfl⟩
 obtain ⟨nb,hnb⟩:∃ n,n = ys.length:=⟨_,rfl⟩
 rw [← hna] at HA hla ⊢
 rw [← hnb] at HB hlb ⊢
 have HNA:=hid hna
 have HNB:=hid hnb
 clear ha hb hna hnb
 by_cases hne:na = nb
 ·subst hne
  go_enter Tryz.func17,Tryz.ntmps17
  go_wp2
  go_loopw [5] (fun i wr => ∃ k:Nat,k ≤ na ∧ i = .int .i64 k ∧ Ext w wr ∧ Hid (xs.take k = ys.take k)) (fun i _ => na - (intOf i).toNat)
  case atStart => exact ⟨0,Nat.zero_le _,rfl,Ext.refl _,rfl⟩
  case round =>
   obtain ⟨k,hk,rfl,hx,HE⟩:=hrel
   have HX:=hid hx
   by_cases hlt:k < na
   ·obtain ⟨x,hxk⟩:=z01 (l:=xs) (j:=k) (by rw [← HNA.out]; exact hlt)
    obtain ⟨y,hyk⟩:=z01 (l:=ys) (j:=k) (by rw [← HNB.out]; exact hlt)
    obtain ⟨b1,o1,v1,v2,rfl,-,hc1,hm1,hz1,h1,h2,h3,h4,h5⟩:=(HA.out.ext hx hS).cellAt hxk
    obtain ⟨b2,o2,v3,v4,rfl,-,hc2,hm2,hz2,g1,g2,g3,g4,g5⟩:=(HB.out.ext hx hS).cellAt hyk
    have HXK:=hid hxk
    have HYK:=hid hyk
    obtain ⟨⟨xn,xm⟩,xo⟩:=x
    obtain ⟨⟨yn,ym⟩,yo⟩:=y
    simp only at h1 h2 h3 h4 h5 g1 g2 g3 g4 g5
    have hSr:=z08 hS hx
    have C4:=fun Y:Later wr => zx2 (S:=S) v1 v3 xn yn xm ym Y.w' (h4.ext Y.h hSr) (g4.ext Y.h hSr) (z08 hSr Y.h)
    have C7:=fun Y:Later wr => zx1 (S:=S) v2 v4 xo yo Y.w' (h5.ext Y.h hSr) (g5.ext Y.h hSr) (z08 hSr Y.h)
    have L1:=fun Y:Later wr => Y.h.cell h1
    have L2:=fun Y:Later wr => Y.h.cell h2
    have L3:=fun Y:Later wr => Y.h.cell h3
    have M1:=fun Y:Later wr => Y.h.cell g1
    have M2:=fun Y:Later wr => Y.h.cell g2
    have M3:=fun Y:Later wr => Y.h.cell g3
    obtain ⟨a1,c1,rfl⟩:=h4.form
    obtain ⟨a2,c2,rfl⟩:=h5.form
    obtain ⟨a3,c3,rfl⟩:=g4.form
    obtain ⟨a4,c4,rfl⟩:=g5.form
    have hlen:Hid (xs.length = na ∧ ys.length = na):=hid ⟨HNA.out.symm,HNB.out.symm⟩
    have q1:(k:Int) < (na:Int):=by omega
    clear h1 h2 h3 h4 h5 g1 g2 g3 g4 g5 hxk hyk hx hSr
    cases hd4:(decide (xn = yn) && decide (xm = ym)) with
    | false =>
     have HF:Hid (xs ≠ ys):=hid (z6f HXK.out HYK.out (fun e => by
      simp at e
      obtain ⟨⟨e1,e2⟩,e3⟩:=e
      rw [e1,e2] at hd4
      simp at hd4))
     simp only [hd4] at C4
     have HC4:=hid C4
     have HC7:=hid C7
     clear C4 C7 hd4
     go_wp2
     refine z03 (by kernel_rfl) (by kernel_rfl) ?_
     repeat (go_big_quiet_step (first | (go_at_call 40; exact Later.done (HC4.out _))))
     refine wpQuiet_nil ?_
     intro W2 hW2
     have HW2:=hid (HX.out.trans hW2)
     clear L1 L2 L3 M1 M2 M3 hW2
     go_wp2
     go_ret
     exact ⟨by rw [decide_eq_false HF.out]; rfl,HW2.out⟩
    | true =>
     have HE4:=hid hd4
     simp only [hd4] at C4
     have HC4:=hid C4
     clear C4 hd4
     cases hd7:decide (xo = yo) with
     | false =>
      have HF:Hid (xs ≠ ys):=hid (z6f HXK.out HYK.out (fun e => by
       simp at e
       obtain ⟨⟨e1,e2⟩,e3⟩:=e
       rw [e3] at hd7
       simp at hd7))
      simp only [hd7] at C7
      have HC7:=hid C7
      clear C7 hd7
      go_wp2
      refine z03 (by kernel_rfl) (by kernel_rfl) ?_
      repeat (go_big_quiet_step (first | (go_at_call 40; exact Later.done (HC4.out _)) | (go_at_call 41; exact Later.done (HC7.out _))))
      refine wpQuiet_nil ?_
      intro W2 hW2
      have HW2:=hid (HX.out.trans hW2)
      clear L1 L2 L3 M1 M2 M3 hW2
      go_wp2
      go_ret
      exact ⟨by rw [decide_eq_false HF.out]; rfl,HW2.out⟩
     | true =>
      have HF:Hid (xs.take (k + 1) = ys.take (k + 1)):=hid (z3i HE.out HXK.out (by
       have h4:=HE4.out
       simp at h4 hd7
       rw [h4.1,h4.2,hd7]
       exact HYK.out))
      simp only [hd7] at C7
      have HC7:=hid C7
      clear C7 hd7
      go_wp2
      refine z03 (by kernel_rfl) (by kernel_rfl) ?_
      repeat (go_big_quiet_step (first | (go_at_call 40; exact Later.done (HC4.out _)) | (go_at_call 41; exact Later.done (HC7.out _))))
      refine wpQuiet_nil ?_
      intro W2 hW2
      have HW2:=hid (HX.out.trans hW2)
      clear L1 L2 L3 M1 M2 M3 hW2
      go_wp2
      go_roundw
      case rel => exact ⟨k + 1,by omega,by go_num,HW2.out,HF⟩
      case measure => simp only [intOf]; omega
   ·obtain rfl:k = na:=by omega
    have HF:Hid (xs = ys):=hid (by have:=HE.out; rwa [List.take_of_length_le (by rw [← HNA.out]; exact Nat.le_refl _),List.take_of_length_le (by rw [← HNB.out]; exact Nat.le_refl _)] at this)
    clear hx
    go_wp2
    go_ret
    exact ⟨by rw [decide_eq_true HF.out]; rfl,HX.out⟩
 ·have hb:((na:Int) != (nb:Int)) = true:=by rw [bne_iff_ne]; omega
  have HF:Hid (xs ≠ ys):=hid (fun e => hne (by rw [HNA.out,HNB.out,e]))
  clear hne
  go_enter Tryz.func17,Tryz.ntmps17
  go_wp2
  go_ret
  exact ⟨by rw [decide_eq_false HF.out]; rfl,Ext.refl _⟩
end
section
open Go.RowKit
def z8i (p:PZ):Bool:=decide (p.length ≤ 10) && p.all fun t => decide (t.1.natAbs ≤ 100) && mayM t.2
theorem z5j {p:PZ} (h:z8i p = true):bndP p 10 100:=by
 unfold z8i at h
 simp only [Bool.and_eq_true,decide_eq_true_eq,List.all_eq_true] at h
 exact ⟨h.1,fun t ht => (h.2 t ht).1⟩
theorem z37 {p:PZ} (h:z8i p = true):z0k p:=by
 unfold z8i at h
 simp only [Bool.and_eq_true,decide_eq_true_eq,List.all_eq_true] at h
 exact fun t ht => (h.2 t ht).2
theorem z5p {p:PZ} (h:z8i p = true):szP p:=zbp (z5j h) (n:=3) (by omega) (by decide) (by omega)
theorem zjn {p q:PZ} (hp:z8i p = true) (hq:z8i q = true) (k:Nat) (_:k ≤ q.length):szP (addP p (q.take k)):=by
 have h1:=zj3 (l:=q.take k) (N:=100) (z5j hp) (fun t ht => (z5j hq).2 t (List.mem_of_mem_take ht))
 have h2:(q.take k).length ≤ 10:=Nat.le_trans (by rw [List.length_take]; omega) (z5j hq).1
 refine zbp h1 (n:=5) (by omega) ?_ (by omega)
 have:(q.take k).length * 100 ≤ 10 * 100:=Nat.mul_le_mul_right _ h2
 omega
theorem zjo {p q:PZ} (hp:z8i p = true) (hq:z8i q = true):szM p q:=by
 obtain ⟨a1,a2⟩:=z5j hp
 obtain ⟨b1,b2⟩:=z5j hq
 have h1:p.length * q.length ≤ 10 * 10:=Nat.mul_le_mul a1 b1
 refine ⟨10000,7,fun t ht u hu => ?_,by omega,?_,by omega⟩
 ·rw [Int.natAbs_mul]
  exact Nat.mul_le_mul (a2 t ht) (b2 u hu)
 ·have:p.length * q.length * 10000 ≤ 100 * 10000:=Nat.mul_le_mul_right _ h1
  omega
abbrev k9X:PZ:=[(1,[(1,1)])]
abbrev k9Y:PZ:=[(1,[(2,1)])]
end
section
open Go.RowKit
theorem zpt {W W':World} (h:W.grownBy W' none):Ext W W':=⟨h.os,h.tape,h.output,h.size,fun k hk => h.block k hk (by simp)⟩
theorem zx3 {W:World} {v:Value} {p:PZ} (h:PV W v p):PM none W v p:=h.to (Kept.refl _ _) (fun _ h => ⟨h,by simp⟩)
section
variable {W:World} {vf vg:Value} {v:Int} {f g:PZ} {A B T M:Nat}
end
abbrev k121:PZ:=[(1,[])]
theorem z2l {p:PZ} (hc:canP p) (h:z8i p = true):Fit 1 10 p:=⟨hc,fun t ht => by
 have h1:=(z5j h).2 t ht
 show t.1.natAbs < B32 ^ 1
 unfold B32
 omega,(z5j h).1⟩
end
section
open Go.RowKit
theorem zze {W:World} {vz:Value} {ng:Bool} (hz:U32s (Old W) W vz (ofI 1).mag) (hng:ng = (ofI 1).neg) :
  Calls Tryz.prog 76 #[.agg #[.bool ng,vz]] W fun e w' => ∃ v',e = .returned v' ∧ z06 (New W w') w' v' (ofP [(1,[])]) ∧ Ext W w':=by
 have e1:toP [⟨ofI 1,[]⟩] = [((1:Int),([]:Mono))]:=by unfold toP; simp [z0p]
 have e2:z1t [((1:Int),([]:Mono))] = [(1,[])]:=by rw [zjm]; rfl
 have CC:=fun (Y:World) (hY:Ext W Y) => z5h (S:=Old (Y.alloc (.cells #[.bool (ofI 1).neg,vz,.slice none 0 0] 50))) (.slice (some ⟨Y.heap.size,0,none⟩) 1 1) [⟨ofI 1,[]⟩] (Y.alloc (.cells #[.bool (ofI 1).neg,vz,.slice none 0 0] 50)) 1000000
  (zh0 (t:=⟨ofI 1,[]⟩) ((hz.ext hY (fun _ h => h)).to (Kept.refl _ _) (fun k h => Nat.lt_of_lt_of_le h hY.size)) (Pows.empty _ _ _) 50) (fun _ h => h) (fun t ht => by rw [List.mem_singleton.1 ht]; rfl) (fun t ht => by rw [List.mem_singleton.1 ht]; show (ofI 1).mag.length ≤ _; rw [z5m]; exact Nat.le_trans (zlg (by decide)) (by decide)) (by decide) (by simp)
 simp only [e1,e2] at CC
 rw [← hng] at CC
 obtain ⟨az,cz,rfl⟩:=hz.form
 obtain ⟨nz,hnz⟩:∃ n,n = (ofI 1).mag.length:=⟨_,rfl⟩
 rw [← hnz] at CC ⊢
 have HC:=hid CC
 have HXA:=hid (Ext.alloc (Ext.refl W) (.cells #[.bool ng,.slice az nz cz] 30))
 have HC0:=HC.out _ HXA.out
 rw [z02] at HC0
 have HC1:=hid HC0
 clear HC0 hz hng CC e1 e2 hnz
 go_enter Tryz.func76,Tryz.ntmps76
 go_wp2_with fail
 with_reducible refine HC1.out.mono ?_
 rintro e w2 ⟨v2,rfl,hp2,hx2⟩
 have HX2:=hid ((HXA.out.alloc _).trans hx2)
 have HP2:=hid (hp2.to (S':=New W w2) (Kept.refl _ _) (fun k h => ⟨Nat.le_trans (HXA.out.alloc _).size h.1,h.2⟩))
 clear hp2 hx2
 go_wp2
 all_goals
  go_ret
  exact ⟨_,rfl,HP2.out,HX2.out⟩
theorem zpu {h:PZ} {k n:Nat} (hk:powN h k = none) (hn:k ≤ n):powN h n = none:=by
 induction n with
 | zero => obtain rfl : k = 0 := by omega
           exact hk
 | succ n ih =>
  rcases Nat.lt_or_ge k (n + 1) with h1 | h1
  ·rw [powN,ih (by omega)]
  ·obtain rfl:k = n + 1:=by omega
   exact hk
end
section
open Go.RowKit
structure CalcAt (W:World) (bd:Nat) (vm:Value) (c:Int):Prop where
 c0:W.cell? ⟨bd,0,none⟩ = some vm
 c1:W.cell? ⟨bd,1,none⟩ = some (.int .i64 c)
 fz:∀ i,W.frozen? ⟨bd,i,none⟩ = false
section
variable {W W':World} {bd:Nat} {vm:Value} {c d:Int} {o:Option Nat}
theorem CalcAt.same (h:CalcAt W bd vm c) (e:W'.heap[bd]? = W.heap[bd]?):CalcAt W' bd vm c:=by
 have hc:∀ i,W'.cell? ⟨bd,i,none⟩ = W.cell? ⟨bd,i,none⟩:=fun i => World.cell?_of_block e
 exact ⟨(hc _).trans h.c0,(hc _).trans h.c1,fun i => (World.frozen?_of_block (w:=W) (a:=⟨bd,i,none⟩) e).trans (h.fz i)⟩
theorem CalcAt.lt (h:CalcAt W bd vm c):bd < W.heap.size:=z0s h.c0
theorem CalcAt.ext (h:CalcAt W bd vm c) (g:Ext W W'):CalcAt W' bd vm c:=h.same (g.block bd h.lt)
theorem CalcAt.gb (h:CalcAt W bd vm c) (g:W.grownBy W' o) (ho:some bd ≠ o):CalcAt W' bd vm c:=h.same (g.block bd h.lt ho)
theorem CalcAt.set (h:CalcAt W bd vm c) (d:Int):CalcAt (W.setCell ⟨bd,1,none⟩ (.int .i64 d)) bd vm d :=
 ⟨z09 h.c0 (ao (by decide)),z1h h.c1,fun i => z16 (h.fz i)⟩
theorem Gd.of_none (h:Gd none bd W W'):Gd o bd W W':=⟨h.os,h.tape,h.output,h.size,fun k h1 _ h3 => h.block k h1 (by simp) h3⟩
end
def zls (W:World) (bd:Nat) (vm:Value) (c:PZ):Ending → World → Prop:=fun e W' => ∃ x,e = .returned x ∧ CalcAt W' bd vm 0 ∧ Gd none bd W W' ∧ z06 (New W W') W' x (ofP c)
theorem z7x {W:World} {bd:Nat} {vm u v:Value} {p q c:PZ} {k l n m:Nat} (D:CalcAt W bd vm 0) (hp:PV W u p) (hq:PV W v q) (fp:Fit k n p) (fq:Fit l m q) (hc:k < 24 ∨ l < 24) (hk:k ≤ 1000000) (hl:l ≤ 1000000) (hnm:n * m ≤ 1000000000000) (ht:z0g p q = some c) :
  Calls Tryz.prog 37 #[.pointer (some ⟨bd,0,none⟩),u,v] W (zls W bd vm c):=by
 have C:=zen hp hq fp fq hc hk hl hnm
 rw [ht] at C
 have HC:=hid C
 have HD:=hid D
 have e0:=D.c0
 have e1:=D.c1
 have z1:=D.fz 1
 obtain ⟨au,cu,rfl⟩:=hp.form
 obtain ⟨av,cv,rfl⟩:=hq.form
 obtain ⟨nu,hnu⟩:∃ n,n = (ofP p).length:=⟨_,rfl⟩
 obtain ⟨nv,hnv⟩:∃ n,n = (ofP q).length:=⟨_,rfl⟩
 rw [← hnu,← hnv] at HC ⊢
 clear C D hp hq fp fq hc hk hl hnm ht hnu hnv
 go_enter Tryz.func37,Tryz.ntmps37
 go_wp2_with fail
 with_reducible refine HC.out.mono ?_
 rintro e w1 ⟨x,rfl,hx,hg⟩
 have HX:=hid hx
 have HG:=hid hg
 have HD1:=hid (HD.out.ext hg)
 obtain ⟨ax,cx,rfl⟩:=hx.form
 obtain ⟨nx,hnx⟩:∃ n,n = (ofP c).length:=⟨_,rfl⟩
 rw [← hnx] at HX ⊢
 clear e0 e1 z1
 have e0:=HD1.out.c0
 have e1:=HD1.out.c1
 have z1:=HD1.out.fz 1
 clear hx hg hnx
 go_wp2
 all_goals
  go_ret
  exact ⟨_,rfl,HD1.out.set 0,(z2b HG.out).trans (zae w1 (a:=⟨bd,1,none⟩) rfl _),HX.out.to (fun k hk => (zae (o:=none) (bd:=bd) w1 (a:=⟨bd,1,none⟩) rfl _).block k hk.2 (by simp) (fun h => by have:=HD.out.lt; have:=hk.1; omega)) (fun k hk => ⟨hk.1,Nat.lt_of_lt_of_le hk.2 (zae (o:=none) (bd:=bd) w1 (a:=⟨bd,1,none⟩) rfl _).size⟩)⟩
theorem zca {W:World} {bd:Nat} {vm u v:Value} {c:Int} (D:CalcAt W bd vm c) (hu:∃ a n c,u = .slice a n c) (hv:∃ a n c,v = .slice a n c) (hc:c ≠ 0) :
  Calls Tryz.prog 37 #[.pointer (some ⟨bd,0,none⟩),u,v] W fun e W' => e = .returned (.slice none 0 0) ∧ W' = W:=by
 have q0:(c != 0) = true:=by rw [bne_iff_ne]; exact hc
 have e0:=D.c0
 have e1:=D.c1
 obtain ⟨au,nu,cu,rfl⟩:=hu
 obtain ⟨av,nv,cv,rfl⟩:=hv
 clear D hc
 go_enter Tryz.func37,Tryz.ntmps37
 go_wp2
 all_goals
  go_ret
  exact ⟨rfl,rfl⟩
def zpv (W:World) (o:Option Nat) (bd:Nat) (x:Value) (r:Int) (s:MSt):Ending → World → Prop:=fun e W' => e = .returned x ∧ CalcAt W' bd (mval o) r ∧ MV W' o s ∧ Gd o bd W W'
theorem zh2 {W:World} {o:Option Nat} {s:MSt} {bd:Nat} {u:Value} {p:PZ} (D:CalcAt W bd (mval o) 0) (hM:MV W o s) (hob:∀ b,o = some b → b ≠ bd) (hp:PM o W u p) :
  Calls Tryz.prog 39 #[.pointer (some ⟨bd,0,none⟩),u] W (zpv W o bd u (z10 o s p).1 (z10 o s p).2):=by
 have HC:=hid (zv3 hM hp)
 have HD:=hid D
 have HOB:=hid hob
 have HSB:Hid (some bd ≠ o):=hid (fun e => hob bd e.symm rfl)
 obtain ⟨vm,hvm⟩:∃ x,x = mval o:=⟨_,rfl⟩
 have e0:=D.c0
 have e1:=D.c1
 have z1:=D.fz 1
 rw [← hvm] at HC e0
 generalize z10 o s p = m at HC ⊢
 obtain ⟨r,t⟩:=m
 simp only at HC ⊢
 obtain ⟨au,cu,rfl⟩:=hp.form
 obtain ⟨nu,hnu⟩:∃ n,n = (ofP p).length:=⟨_,rfl⟩
 rw [← hnu] at HC ⊢
 clear D hM hob hp hvm hnu
 go_enter Tryz.func39,Tryz.ntmps39
 go_wp2_with fail
 with_reducible refine HC.out.mono ?_
 rintro e w1 ⟨rfl,hm,hg⟩
 have HM:=hid hm
 have HG:=hid hg
 have HD1:=hid (HD.out.gb hg HSB.out)
 clear e0 e1 z1 hm hg
 have e0:=HD1.out.c0
 have e1:=HD1.out.c1
 have z1:=HD1.out.fz 1
 go_wp2
 all_goals
  go_ret
  exact ⟨rfl,HD1.out.set r,HM.out.set HOB.out (a:=⟨bd,1,none⟩) rfl _,(zcx HG.out).trans (zae w1 (a:=⟨bd,1,none⟩) rfl _)⟩
theorem zcy {W:World} {bd:Nat} {vm u:Value} {c:Int} (D:CalcAt W bd vm c) (hu:∃ a n c,u = .slice a n c) (hc:c ≠ 0) :
  Calls Tryz.prog 39 #[.pointer (some ⟨bd,0,none⟩),u] W fun e W' => e = .returned u ∧ W' = W:=by
 have q0:(c == 0) = false:=by rw [beq_eq_false_iff_ne]; exact hc
 have e0:=D.c0
 have e1:=D.c1
 obtain ⟨au,nu,cu,rfl⟩:=hu
 clear D hc
 go_enter Tryz.func39,Tryz.ntmps39
 go_wp2
 all_goals
  go_ret
  exact ⟨rfl,rfl⟩
def ztj (W:World) (o:Option Nat) (bd:Nat) (P:PZ) (r:Int) (s:MSt):Ending → World → Prop:=fun e W' => ∃ x,e = .returned x ∧ CalcAt W' bd (mval o) r ∧ MV W' o s ∧ Gd o bd W W' ∧ PN W.heap.size o bd W' x P
theorem zdh {W:World} {o:Option Nat} {s:MSt} {bd:Nat} {u:Value} {h P:PZ} {A T n:Nat} (D:CalcAt W bd (mval o) 0) (hM:MV W o s) (hob:∀ b,o = some b → b ≠ bd) (hp:PC o bd W u h) (fh:Fit A T h) (hA:A < 24) (hT:1 ≤ T) (hn:n ≤ 100) (hTn:T ^ n ≤ 1000000000000) (hP:powN h n = some P) :
  Calls Tryz.prog 38 #[.pointer (some ⟨bd,0,none⟩),u,.int .i64 (n:Nat)] W (ztj W o bd P (z10 o s P).1 (z10 o s P).2):=by
 have C2:=hid (fun (Y:World) => z91 1 Y (by decide))
 have HD:=hid D
 have HM:=hid hM
 have HOB:=hid hob
 have HP:=hid hp
 have HF:=hid fh
 have HAA:=hid hA
 have HTT:=hid hT
 have HTN:=hid hTn
 have HPP:=hid hP
 have HBM:=hid (fun b hb => hM.block (b:=b) hb)
 obtain ⟨a,c,rfl⟩:=hp.form
 obtain ⟨nh,hnh⟩:∃ n,n = (ofP h).length:=⟨_,rfl⟩
 rw [← hnh] at HP ⊢
 clear D hM hob hp fh hnh hA hT hTn hP
 go_enter Tryz.func38,Tryz.ntmps38
 go_wp2_with fail
 with_reducible refine (C2.out _).mono ?_
 rintro e w2 ⟨v2,rfl,⟨vz,rfl,hz⟩,hx2⟩
 have HX2:=hid hx2
 have C3:=zze (W:=w2) (vz:=vz) (ng:=(ofI 1).neg) (hz.to (Kept.refl _ _) New.lt) rfl
 obtain ⟨az,cz,rfl⟩:=hz.form
 obtain ⟨nz,hnz⟩:∃ n,n = (ofI 1).mag.length:=⟨_,rfl⟩
 obtain ⟨ng,hng⟩:∃ n,n = (ofI 1).neg:=⟨_,rfl⟩
 rw [← hnz,← hng] at C3 ⊢
 have HC3:=hid C3
 clear hz hx2 hnz hng C3
 go_wp2_with fail
 with_reducible refine HC3.out.mono ?_
 rintro e w3 ⟨v3,rfl,hp3,hx3⟩
 have HX3:=hid (HX2.out.trans hx3)
 have HP3:=hid (hp3.to (S':=New W w3) (Kept.refl _ _) (fun k h => ⟨Nat.le_trans HX2.out.size h.1,h.2⟩))
 have HD3:=hid (HD.out.ext HX3.out)
 clear hp3 hx3
 go_wp2
 go_loopw [7,11] (fun x i wr => ∃ (k:Nat) (Q:PZ),k ≤ n ∧ i = .int .i64 (k:Nat) ∧ Gd none bd W wr ∧ Hid (CalcAt wr bd (mval o) 0) ∧ Hid (powN h k = some Q) ∧ Hid (z06 (fun b => New W wr b ∧ b ≠ bd) wr x (ofP Q))) (fun _ i _ => n - (intOf i).toNat)
 case atStart => exact ⟨0,[(1,[])],Nat.zero_le _,rfl,z2b HX3.out,HD3,rfl,hid (HP3.out.to (Kept.refl _ _) (fun b hb => ⟨hb,fun e => by have:=hb.1; have:=HD.out.lt; omega⟩))⟩
 case round =>
  obtain ⟨k,Q,hk,rfl,hx,HDk,HPK,HO⟩:=hrel
  have HX:=hid hx
  by_cases hlt:k < n
  ·have hle:T ^ k ≤ T ^ n:=Nat.pow_le_pow_right HTT.out (by omega)
   have hle2:T ^ (k + 1) ≤ T ^ n:=Nat.pow_le_pow_right HTT.out (by omega)
   have fP:=zeo HF.out HTT.out k Q (Nat.le_trans hle HTN.out) HPK.out
   have hkA:1 + k * (A + 2) ≤ 10000:=by
    have h1:k * (A + 2) ≤ 100 * 26:=Nat.mul_le_mul (by omega) (by have:=HAA.out; omega)
    omega
   have HPS:Hid (powN h (k + 1) = z0g Q h):=hid (by rw [powN,HPK.out])
   obtain ⟨R,hR⟩:∃ R,z0g Q h = some R:=by
    cases hq:z0g Q h with
    | some R => exact ⟨R,rfl⟩
    | none =>
     exfalso
     have h1:=zpu (HPS.out.trans hq) (n:=n) (by omega)
     rw [HPP.out] at h1
     cases h1
   have HPR:Hid (powN h (k + 1) = some R):=hid (HPS.out.trans hR)
   have HCT:=hid (z7x HDk.out (HO.out.to (S':=Old wr) (Kept.refl _ _) (fun b hb => hb.1.2)) (PC.on HP.out hx.of_none).pv fP HF.out (.inr HAA.out) (by omega) (by have:=HAA.out; omega) (by rw [← Nat.pow_succ]; exact Nat.le_trans hle2 HTN.out) hR)
   obtain ⟨ao,co,rfl⟩:=HO.out.form
   obtain ⟨no,hno⟩:∃ n,n = (ofP Q).length:=⟨_,rfl⟩
   rw [← hno] at HO HCT ⊢
   clear hle hle2 fP hkA hR hno hx
   go_wp2_with fail
   with_reducible refine HCT.out.mono ?_
   rintro e w4 ⟨v4,rfl,hd4,hg4,hp4⟩
   have HX4:=hid (HX.out.trans hg4)
   have HD4:=hid hd4
   have HP4:=hid (hp4.to (S':=fun b => New W w4 b ∧ b ≠ bd) (Kept.refl _ _) (fun b h => ⟨⟨Nat.le_trans HX.out.size h.1,h.2⟩,fun e => by have:=h.1; have:=HX.out.size; have:=HD.out.lt; omega⟩))
   clear hg4 hp4 hd4
   go_wp2
   go_roundw
   case rel => exact ⟨k + 1,R,by omega,by go_num,HX4.out,HD4,HPR,HP4⟩
   case measure => simp only [intOf]; omega
  ·obtain rfl:k = n:=by omega
   have hPQ:P = Q:=by have h1:=HPP.out; rw [HPK.out] at h1; exact (Option.some.inj h1).symm
   subst hPQ
   have HMr:Hid (MV wr o s):=hid (fun b hb => by
    have h1:=(HM.out b hb)
    have h2:=HX.out.block b (HBM.out b hb) (by simp) (HOB.out b hb)
    exact ⟨h1.1.grown (r:=some bd) ⟨HX.out.os,HX.out.tape,HX.out.output,HX.out.size,fun j j1 j2 => HX.out.block j j1 (by simp) (fun e => j2 (by rw [e]))⟩ (fun e => HOB.out b hb (Option.some.inj e)),h1.2⟩)
   have HOP:=hid (HO.out.to (S':=fun k => W.heap.size ≤ k ∧ NC o bd wr k) (Kept.refl _ _) (fun b hb => ⟨hb.1.1,hb.1.2,fun e => by have:=HBM.out b e.symm; have:=hb.1.1; omega,hb.2⟩))
   have HCK:=hid (zh2 HDk.out HMr.out HOB.out (PC.pm (PN.pc HOP.out)))
   obtain ⟨ao,co,rfl⟩:=HO.out.form
   obtain ⟨no,hno⟩:∃ n,n = (ofP P).length:=⟨_,rfl⟩
   rw [← hno] at HO HCK HOP ⊢
   clear hx hno
   go_wp2_with fail
   with_reducible refine HCK.out.mono ?_
   rintro e w5 ⟨rfl,hd5,hm5,hg5⟩
   have HD5:=hid hd5
   have HM5:=hid hm5
   have HG5:=hid hg5
   have HP5:=hid (PN.on HOP.out hg5)
   clear hd5 hm5 hg5
   go_wp2
   all_goals
    go_ret
    exact ⟨_,rfl,HD5.out,HM5.out,HX.out.of_none.trans HG5.out,HP5.out⟩
end
section
open Go.RowKit
theorem zh3 {S:Nat → Prop} (v:Value) (ls:List (List RTerm)) (w:World) (h:z1r S w v ls) (hS:∀ k,S k → k < w.heap.size) (hr:z70 ls) :
  Calls Tryz.prog 42 #[v] w fun e w' => e = .returned (.bool (ls.all mayT)) ∧ Ext w w':=by
 have hnot:∀ (x:Bool) (w:World),(Op.unary .not (.bool x)).run Tryz.prog w = .ok (.bool (!x)) w:=fun _ _ => rfl
 have H:=hid h
 have HR:=hid hr
 have hll:=h.len_le
 obtain ⟨A,c,rfl⟩:=h.form
 obtain ⟨n,hnn⟩:∃ n,n = ls.length:=⟨_,rfl⟩
 rw [← hnn] at H hll ⊢
 have HN:=hid hnn
 clear h hr hnn
 go_enter Tryz.func42,Tryz.ntmps42
 go_wp2
 go_loopw [7] (fun i wr => ∃ k:Nat,k ≤ n ∧ i = .int .i64 k ∧ Ext w wr ∧ Hid ((ls.take k).all mayT = true)) (fun i _ => n - (intOf i).toNat)
 case atStart => exact ⟨0,Nat.zero_le _,rfl,Ext.refl _,rfl⟩
 case round =>
  obtain ⟨k,hk,rfl,hx,HA⟩:=hrel
  have HX:=hid hx
  by_cases hlt:k < n
  ·obtain ⟨p,hp⟩:=z01 (l:=ls) (j:=k) (by rw [← HN.out]; exact hlt)
   obtain ⟨bl,off,vp,rfl,-,hn1,hm1,hSb,h1,h2⟩:=(H.out.ext hx hS).cellAt hp
   have HP:=hid hp
   have HRP:=hid (HR.out p (List.mem_of_getElem? hp))
   have C:=hid (z4i (S:=S) vp p wr h2 (z08 hS hx) HRP.out)
   obtain ⟨ap,cp,rfl⟩:=h2.form
   clear h2 hp hx
   cases hm:mayT p with
   | true =>
    have HM:=hid hm
    rw [hm] at C
    clear hm
    go_wp2_with fail
    with_reducible refine C.out.mono ?_
    rintro e w2 ⟨rfl,hx2⟩
    have HX2:=hid (HX.out.trans hx2)
    clear hx2
    go_wp2
    go_roundw
    case rel => exact ⟨k + 1,by omega,by go_num,HX2.out,by show _ = _; rw [List.take_add_one,HP.out,List.all_append,HA.out]; simp [HM.out]⟩
    case measure => simp only [intOf]; omega
   | false =>
    have HM:=hid hm
    rw [hm] at C
    clear hm
    go_wp2_with fail
    with_reducible refine C.out.mono ?_
    rintro e w2 ⟨rfl,hx2⟩
    have HX2:=hid (HX.out.trans hx2)
    clear hx2
    go_wp2
    go_ret
    exact ⟨by rw [List.all_eq_false.2 ⟨p,List.mem_of_getElem? HP.out,by rw [HM.out]; exact Bool.false_ne_true⟩]; rfl,HX2.out⟩
  ·obtain rfl:k = n:=by omega
   have HE:Hid (ls.all mayT = true):=hid (by have:=HA.out; rwa [List.take_of_length_le (by rw [← HN.out]; exact Nat.le_refl _)] at this)
   clear hx
   go_wp2
   go_ret
   exact ⟨by rw [HE.out]; rfl,HX.out⟩
def mayC (c:Int):List (List RTerm) → Bool
 | [] => true
 | p :: l => if mayT p && decide (c < z0t (z0q p)) then mayC (z0t (z0q p)) l else false
theorem zpw {ls:List (List RTerm)} {k:Nat} {p:List RTerm} {c:Int} (hp:ls[k]? = some p):mayC c (ls.drop k) = if mayT p && decide (c < z0t (z0q p)) then mayC (z0t (z0q p)) (ls.drop (k + 1)) else false:=by
 rw [z6n hp]
 rfl
theorem z76 {S:Nat → Prop} (v:Value) (ls:List (List RTerm)) (w:World) (h:z1r S w v ls) (hS:∀ k,S k → k < w.heap.size) (hr:z70 ls) :
  Calls Tryz.prog 19 #[v] w fun e w' => e = .returned (.bool (mayC 0 ls)) ∧ Ext w w':=by
 have hnot:∀ (x:Bool) (w:World),(Op.unary .not (.bool x)).run Tryz.prog w = .ok (.bool (!x)) w:=fun _ _ => rfl
 have H:=hid h
 have HR:=hid hr
 have hll:=h.len_le
 obtain ⟨A,c,rfl⟩:=h.form
 obtain ⟨n,hnn⟩:∃ n,n = ls.length:=⟨_,rfl⟩
 rw [← hnn] at H hll ⊢
 have HN:=hid hnn
 clear h hr hnn
 go_enter Tryz.func19,Tryz.ntmps19
 go_wp2
 go_loopw [3,9] (fun l i wr => ∃ (k:Nat) (d:Int),k ≤ n ∧ i = .int .i64 k ∧ l = .int .i64 d ∧ z1v d ∧ Ext w wr ∧ Hid (mayC d (ls.drop k) = mayC 0 ls)) (fun _ i _ => n - (intOf i).toNat)
 case atStart => exact ⟨0,0,Nat.zero_le _,rfl,rfl,by unfold z1v; omega,Ext.refl _,hid rfl⟩
 case round =>
  obtain ⟨k,d,hk,rfl,rfl,hd,hx,HA⟩:=hrel
  have HX:=hid hx
  obtain ⟨hd1,hd2⟩:=hd
  by_cases hlt:k < n
  ·obtain ⟨p,hp⟩:=z01 (l:=ls) (j:=k) (by rw [← HN.out]; exact hlt)
   obtain ⟨bl,off,vp,rfl,-,hn1,hm1,hSb,h1,h2⟩:=(H.out.ext hx hS).cellAt hp
   have HRP:=hid (HR.out p (List.mem_of_getElem? hp))
   have HST:=hid (zpw (c:=d) hp)
   have C1:=hid (z5x (S:=S) vp p wr h2 (z08 hS hx) HRP.out)
   have C2:=hid (fun (Y:World) (hY:Ext wr Y) => z4i (S:=S) vp p Y (h2.to (Kept.ext hY (z08 hS hx)) (fun _ h => h)) (fun k hk => Nat.lt_of_lt_of_le (z08 hS hx k hk) hY.size) HRP.out)
   have hcr:0 ≤ z0t (z0q p) ∧ z0t (z0q p) ≤ 200:=z66 (z3e p)
   generalize z0t (z0q p) = lc at C1 HST hcr
   generalize mayT p = mp at C2 HST
   obtain ⟨hc1,hc2⟩:=hcr
   obtain ⟨ap,cp,rfl⟩:=h2.form
   obtain ⟨np,hnp⟩:∃ n,n = p.length:=⟨_,rfl⟩
   rw [← hnp] at C1 C2 h1
   clear h2 hp hx hnp
   cases mp with
   | false =>
    go_wp2_with fail
    with_reducible refine C1.out.mono ?_
    rintro e w2 ⟨rfl,hx2⟩
    have HX2:=hid hx2
    clear hx2
    go_wp2_with fail
    with_reducible refine (C2.out _ HX2.out).mono ?_
    rintro e w3 ⟨rfl,hx3⟩
    have HX3:=hid ((HX.out.trans HX2.out).trans hx3)
    clear hx3
    go_wp2
    all_goals
     go_ret
     exact ⟨by rw [← HA.out,HST.out]; rfl,HX3.out⟩
   | true =>
    by_cases hlc:d < lc
    ·have q1:decide (lc ≤ d) = false:=decide_eq_false (by omega)
     have HST2:Hid (mayC d (ls.drop k) = mayC lc (ls.drop (k + 1))):=hid (by rw [HST.out,decide_eq_true hlc]; rfl)
     go_wp2_with fail
     with_reducible refine C1.out.mono ?_
     rintro e w2 ⟨rfl,hx2⟩
     have HX2:=hid hx2
     clear hx2
     go_wp2_with fail
     with_reducible refine (C2.out _ HX2.out).mono ?_
     rintro e w3 ⟨rfl,hx3⟩
     have HX3:=hid ((HX.out.trans HX2.out).trans hx3)
     clear hx3
     go_wp2
     go_roundw
     case rel => exact ⟨k + 1,lc,by omega,by go_num,rfl,by unfold z1v; omega,HX3.out,hid (HST2.out.symm.trans HA.out)⟩
     case measure => simp only [intOf]; omega
    ·have q1:decide (lc ≤ d) = true:=decide_eq_true (by omega)
     have HST2:Hid (mayC d (ls.drop k) = false):=hid (by rw [HST.out,decide_eq_false hlc]; rfl)
     go_wp2_with fail
     with_reducible refine C1.out.mono ?_
     rintro e w2 ⟨rfl,hx2⟩
     have HX2:=hid hx2
     clear hx2
     go_wp2_with fail
     with_reducible refine (C2.out _ HX2.out).mono ?_
     rintro e w3 ⟨rfl,hx3⟩
     have HX3:=hid ((HX.out.trans HX2.out).trans hx3)
     clear hx3
     go_wp2
     all_goals
      go_ret
      exact ⟨by rw [← HA.out,HST2.out]; rfl,HX3.out⟩
  ·obtain rfl:k = n:=by omega
   have HE:Hid (mayC 0 ls = true):=hid (by rw [← HA.out,HN.out,List.drop_length]; rfl)
   clear hx
   go_wp2
   all_goals
    go_ret
    exact ⟨by rw [HE.out]; rfl,HX.out⟩
end
section
open Go.RowKit
abbrev PVL (W:World) (v:Value) (l:List PZ):Prop:=z1r (Old W) W v (l.map ofP)
def Ints (S:Nat → Prop) (w:World) (v:Value) (ns:List Int):Prop :=
 ∃ b off,z3a S v ns.length b off ∧ ∀ j n,ns[j]? = some n → z1v n ∧ w.cell? ⟨b,off + j,none⟩ = some (.int .i64 n)
section
variable {S S':Nat → Prop} {w w':World} {v:Value} {ns:List Int}
theorem Ints.form (h:Ints S w v ns):∃ a cap,v = .slice a ns.length cap:=by
 obtain ⟨b,off,⟨a,cap,h1,_⟩,_⟩:=h
 exact ⟨a,cap,h1⟩
theorem Ints.to (h:Ints S w v ns) (hk:Kept S w w') (hS:∀ k,S k → S' k):Ints S' w' v ns:=by
 obtain ⟨b,off,hs,hc⟩:=h
 exact ⟨b,off,hs.mono hS,fun j n hj => ⟨(hc j n hj).1,hk.cell (hs.in (z05 hj)) (hc j n hj).2⟩⟩
theorem Ints.len_le (h:Ints S w v ns):ns.length ≤ 9223372036854775807:=by
 obtain ⟨b,off,⟨a,cap,h1,h2,h3,_⟩,_⟩:=h
 unfold maxLen at h3
 omega
theorem Ints.cellAt {a:Option Addr} {m cap k:Nat} {n:Int} (h:Ints S w (.slice a m cap) ns) (hn:ns[k]? = some n) :
  ∃ b off,a = some ⟨b,off,none⟩ ∧ m = ns.length ∧ m ≤ cap ∧ cap ≤ 9223372036854775807 ∧ S b ∧ z1v n ∧ w.cell? ⟨b,off + k,none⟩ = some (.int .i64 n):=by
 obtain ⟨b,off,⟨a',cap',h1,h2,h3,h4,h5⟩,hc⟩:=h
 obtain ⟨rfl,rfl,rfl⟩:a = a' ∧ m = ns.length ∧ cap = cap':=by simpa using h1
 have hp:0 < ns.length:=by have:=z05 hn; omega
 exact ⟨b,off,h4 hp,rfl,h2,h3,h5 hp,hc k n hn⟩
end
structure IdStep (x y:PZ × PZ) (p c:PZ) (n:Int) (N:Nat) (i b:PZ):Prop where
 hn:n = (N:Int)
 hN:N ≤ 100
 ex:∃ A T B U C V D X E Y F Z:Nat,Fit A T p ∧ A < 24 ∧ 1 ≤ T ∧ T ≤ 1000000000000 ∧ T ^ N ≤ 1000000000000 ∧ Fit B U x.1 ∧ Fit C V i ∧ (B < 24 ∨ C < 24) ∧ B ≤ 40000 ∧ C ≤ 40000 ∧ U ≤ 1000000000000 ∧ V ≤ 1000000000000 ∧ U * V ≤ 1000000000000 ∧
  Fit D X c ∧ D ≤ 40000 ∧ X ≤ 1000000000000 ∧ T * X ≤ 1000000000000 ∧ Fit E Y x.2 ∧ E ≤ 80000 ∧ Fit F Z b ∧ F ≤ 80000 ∧ Y + Z ≤ 1000000000000
 pow:powN (z1w p) N = some i
 left:z0g x.1 i = some y.1
 prod:z0g p c = some b
 right:y.2 = z1t (x.2 ++ b)
theorem zjp {l:List PZ} (h:∀ p ∈ l,canP p):(l.map ofP).all mayT = true:=List.all_eq_true.2 fun t ht => by
 obtain ⟨p,hp,rfl⟩:=List.mem_map.1 ht
 exact z7d (h p hp)
theorem zcb {l:List PZ} {k:Nat} (hk:k < l.length):(l.map ofP)[k]? = some (ofP (l.getD k [])):=by
 rw [List.getElem?_map,List.getElem?_eq_getElem hk,List.getD_eq_getElem?_getD,List.getElem?_eq_getElem hk]
 rfl
theorem ztk {l:List Int} {k:Nat} (hk:k < l.length):l[k]? = some (l.getD k 0):=by
 rw [List.getD_eq_getElem?_getD,List.getElem?_eq_getElem hk]
 rfl
theorem zpx {o:Option Nat} {bd:Nat} {W:World} {N:Nat} (hN:N ≤ bd) (hW:N ≤ W.heap.size) (ho:∀ b,o = some b → N ≤ b):∀ k,k < N → NC o bd W k:=fun k hk => ⟨Nat.lt_of_lt_of_le hk hW,fun e => by have:=ho k e.symm; omega,by omega⟩
theorem zcz {W:World} {vf vl vp vc vr:Value} {f r:PZ} {ls cs:List PZ} {ns:List Int} {xs:Nat → PZ × PZ} {Ns:Nat → Nat} {is bs:Nat → PZ} {j:Nat} {A T B U:Nat}
  (hf:PV W vf f) (hl:PVL W vl ls) (hp:Ints (Old W) W vp ns) (hc:PVL W vc cs) (hr:PV W vr r) (e1:ns.length = ls.length) (e2:cs.length = ls.length)
  (ff:Fit A T f) (hA:A ≤ 1000000) (fr:Fit B U r) (hB:B ≤ 1000000) (sl:z70 (ls.map ofP)) (cl:∀ p ∈ ls,canP p) (sc:z70 (cs.map ofP)) (cc:∀ p ∈ cs,canP p)
  (hj:j ≤ ls.length) (x0:xs 0 = (f,r)) (hst:∀ k,k < j → IdStep (xs k) (xs (k + 1)) (ls.getD k []) (cs.getD k []) (ns.getD k 0) (Ns k) (is k) (bs k)) (hbad:j < ls.length → ns.getD j 0 < 0 ∨ 100 < ns.getD j 0) :
  Calls Tryz.prog 18 #[vf,vl,.agg #[vp,vc,vr]] W fun e W' => e = .returned (.bool (if j < ls.length then false else decide ((xs j).1 = (xs j).2))) ∧ Ext W W':=by
 have hnot:∀ (x:Bool) (w:World),(Op.unary .not (.bool x)).run Tryz.prog w = .ok (.bool (!x)) w:=fun _ _ => rfl
 have CA1:=hid (fun (Y:World) (hY:Ext W Y) => (show Calls Tryz.prog 42 #[vl] Y fun e w' => e = .returned (.bool true) ∧ Ext Y w' from by
  have h:=zh3 (S:=Old W) vl (ls.map ofP) Y (hl.ext hY (fun _ h => h)) (fun k h => Nat.lt_of_lt_of_le h hY.size) sl
  rwa [zjp cl] at h))
 have CA2:=hid (fun (Y:World) (hY:Ext W Y) => (show Calls Tryz.prog 42 #[vc] Y fun e w' => e = .returned (.bool true) ∧ Ext Y w' from by
  have h:=zh3 (S:=Old W) vc (cs.map ofP) Y (hc.ext hY (fun _ h => h)) (fun k h => Nat.lt_of_lt_of_le h hY.size) sc
  rwa [zjp cc] at h))
 have CM1:=hid (fun (Y:World) (hY:Ext W Y) => zlo (z06.on hf hY) ff hA)
 have CM2:=hid (fun (Y:World) (hY:Ext W Y) => zlo (z06.on hr hY) fr hB)
 have HF:=hid hf
 have HL:=hid hl
 have HP:=hid hp
 have HC:=hid hc
 have HR:=hid hr
 have HST:=hid hst
 have HBAD:=hid hbad
 have HX0:=hid x0
 have hll:=hp.len_le
 obtain ⟨m,hm⟩:∃ m,m = ls.length:=⟨_,rfl⟩
 have HM:=hid hm
 have HE1:=hid (e1.trans hm.symm)
 have HE2:=hid (e2.trans hm.symm)
 rw [e1,← hm] at hll
 rw [← hm] at hj ⊢
 have HRES:Hid (∀ x:PZ × PZ,x = xs j → ¬ j < m → (if j < m then false else decide ((xs j).1 = (xs j).2)) = decide (x.1 = x.2)):=hid (fun x hx hn => by rw [if_neg hn,hx])
 have HRES2:Hid (j < m → (if j < m then false else decide ((xs j).1 = (xs j).2)) = false):=hid (fun h => if_pos h)
 generalize (if j < m then false else decide ((xs j).1 = (xs j).2)) = RES at HRES HRES2 ⊢
 obtain ⟨af,cf,rfl⟩:=hf.form
 obtain ⟨ar,cr,rfl⟩:=hr.form
 obtain ⟨al,cl',hl'⟩:=hl.form
 obtain ⟨ap,cp,hp'⟩:=hp.form
 obtain ⟨ac,cc',hc'⟩:=hc.form
 rw [List.length_map,← hm] at hl'
 rw [e1,← hm] at hp'
 rw [List.length_map,e2,← hm] at hc'
 subst hl' hp' hc'
 obtain ⟨nf,hnf⟩:∃ n,n = (ofP f).length:=⟨_,rfl⟩
 obtain ⟨nr,hnr⟩:∃ n,n = (ofP r).length:=⟨_,rfl⟩
 rw [← hnf] at HF CM1 ⊢
 rw [← hnr] at HR CM2 ⊢
 have HXA:=hid (Ext.alloc (Ext.refl W) (.cells #[.slice ap m cp,.slice ac m cc',.slice ar nr cr] 60))
 have j0:(W.alloc (.cells #[.slice ap m cp,.slice ac m cc',.slice ar nr cr] 60)).cell? ⟨W.heap.size,0,none⟩ = some (.slice ap m cp):=z04 _ _ _ rfl rfl
 have j1:(W.alloc (.cells #[.slice ap m cp,.slice ac m cc',.slice ar nr cr] 60)).cell? ⟨W.heap.size,1,none⟩ = some (.slice ac m cc'):=z04 _ _ _ rfl rfl
 have j2:(W.alloc (.cells #[.slice ap m cp,.slice ac m cc',.slice ar nr cr] 60)).cell? ⟨W.heap.size,2,none⟩ = some (.slice ar nr cr):=z04 _ _ _ rfl rfl
 have HJ:=hid (And.intro j0 (And.intro j1 j2))
 have q1:((m:Int) != (m:Int)) = false:=by rw [bne_eq_false_iff_eq]
 clear hf hl hp hc hr e1 e2 ff hA fr hB sl cl sc cc x0 hst hbad hm hnf hnr
 go_enter Tryz.func18,Tryz.ntmps18
 go_wp2_with fail
 with_reducible refine (CA1.out _ HXA.out).mono ?_
 rintro e w1 ⟨rfl,hx⟩
 have HX1:=hid (HXA.out.trans hx)
 have HJ1:=hid (And.intro (hx.cell HJ.out.1) (And.intro (hx.cell HJ.out.2.1) (hx.cell HJ.out.2.2)))
 clear hx j0 j1 j2
 obtain ⟨j0,j1,j2⟩:=HJ1.out
 go_wp2_with fail
 with_reducible refine (CA2.out _ HX1.out).mono ?_
 rintro e w2 ⟨rfl,hx⟩
 have HX2:=hid (HX1.out.trans hx)
 have HJ2:=hid (And.intro (hx.cell HJ1.out.1) (And.intro (hx.cell HJ1.out.2.1) (hx.cell HJ1.out.2.2)))
 clear hx j0 j1 j2
 obtain ⟨j0,j1,j2⟩:=HJ2.out
 go_wp2_with fail
 with_reducible refine (CM1.out _ HX2.out).mono ?_
 rintro e w3 ⟨rfl,hx⟩
 have HX3:=hid (HX2.out.trans hx)
 have HJ3:=hid (And.intro (hx.cell HJ2.out.1) (And.intro (hx.cell HJ2.out.2.1) (hx.cell HJ2.out.2.2)))
 clear hx j0 j1 j2
 obtain ⟨j0,j1,j2⟩:=HJ3.out
 go_wp2_with fail
 with_reducible refine (CM2.out _ HX3.out).mono ?_
 rintro e w4 ⟨rfl,hx⟩
 have HX4:=hid (HX3.out.trans hx)
 have HJ4:=hid (And.intro (hx.cell HJ3.out.1) (And.intro (hx.cell HJ3.out.2.1) (hx.cell HJ3.out.2.2)))
 clear hx j0 j1 j2
 obtain ⟨j0,j1,j2⟩:=HJ4.out
 have HD4:Hid (CalcAt (w4.alloc (.cells #[.pointer none,.int .i64 0] 113)) w4.heap.size (mval none) 0):=hid ⟨z04 _ _ _ rfl rfl,z04 _ _ _ rfl rfl,fun i => z56 _ _ _⟩
 have HX5:=hid (Ext.alloc (Ext.refl w4) (.cells #[.pointer none,.int .i64 0] 113))
 have L2:=fun Y:Later (w4.alloc (.cells #[.pointer none,.int .i64 0] 113)) => Y.h.cell (cell_old (.cells #[.pointer none,.int .i64 0] 113) j2)
 go_wp2
 refine z03 (by kernel_rfl) (by kernel_rfl) ?_
 repeat (go_big_quiet_step (fail))
 refine wpQuiet_nil ?_
 intro W5 hW5
 have HD5:=hid (HD4.out.ext hW5)
 have HX6:=hid (HX4.out.trans (HX5.out.trans hW5))
 have HXJ:=hid (HX5.out.trans hW5)
 have HBD:=hid (show W.heap.size ≤ w4.heap.size from HX4.out.size)
 have HJ5:=hid (And.intro (HXJ.out.cell HJ4.out.1) (And.intro (HXJ.out.cell HJ4.out.2.1) (HXJ.out.cell HJ4.out.2.2)))
 clear j0 j1 j2 L2 hW5
 obtain ⟨j0,j1,j2⟩:=HJ5.out
 obtain ⟨bd,hbd⟩:∃ n,n = w4.heap.size:=⟨_,rfl⟩
 have HBB:=hid hbd
 rw [← hbd] at HD5 HBD ⊢
 have HBL:=hid (show W.heap.size < bd from by rw [hbd]; exact z0s HJ4.out.1)
 clear hbd
 have HXN:=hid HX0.out
 go_wp2
 go_loopw [8,9,56] (fun a b i wr => ∃ k:Nat,k ≤ j ∧ i = .int .i64 k ∧ Gd none bd W5 wr ∧ Hid (CalcAt wr bd (mval none) 0) ∧ Hid (PC none bd wr a (xs k).1) ∧ Hid (PC none bd wr b (xs k).2)) (fun _ _ i _ => j + 1 - (intOf i).toNat)
 case atStart =>
  refine ⟨0,Nat.zero_le _,rfl,Gd.refl _ _ _,HD5,hid ?_,hid ?_⟩
  ·rw [HX0.out]
   exact HF.out.to (Kept.ext HX6.out (fun _ h => h)) (fun k h => zpx HBD.out HX6.out.size (fun b hb => (by cases hb)) k h)
  ·rw [HX0.out]
   exact HR.out.to (Kept.ext HX6.out (fun _ h => h)) (fun k h => zpx HBD.out HX6.out.size (fun b hb => (by cases hb)) k h)
 case round =>
  obtain ⟨k,hk,rfl,hg,HDk,HLk,HRk⟩:=hrel
  have HG:=hid hg
  have HKW:Hid (Kept (Old W) W wr):=hid (fun b hb => (hg.block b (Nat.lt_of_lt_of_le hb HX6.out.size) (by simp) (fun e => by have:=HBD.out; have h2:b < W.heap.size:=hb; omega)).trans (HX6.out.block b hb))
  have HSW:Hid (∀ b,Old W b → NC none bd wr b):=hid (fun b hb => zpx HBD.out (Nat.le_trans HX6.out.size hg.size) (fun c hc => (by cases hc)) b hb)
  have HXW:Hid (Ext W wr):=hid ⟨hg.os.trans HX6.out.os,hg.tape.trans HX6.out.tape,hg.output.trans HX6.out.output,Nat.le_trans HX6.out.size hg.size,HKW.out⟩
  by_cases hlt:k < m
  ·obtain ⟨bp,op,rfl,-,hp1,hp2,-,hin,hcell⟩:=(HP.out.to HKW.out (fun _ h => h)).cellAt (ztk (k:=k) (by rw [HE1.out]; exact hlt))
   obtain ⟨hi1,hi2⟩:=hin
   obtain ⟨bl,ol,vl,rfl,-,hl1,hl2,hSl,hlc,htl⟩:=(HL.out.to HKW.out (fun _ h => h)).cellAt (zcb (k:=k) (l:=ls) (by rw [← HM.out]; exact hlt))
   obtain ⟨bc,oc,vc,rfl,-,hc1,hc2,hSc,hcc,htc⟩:=(HC.out.to HKW.out (fun _ h => h)).cellAt (zcb (k:=k) (l:=cs) (by rw [HE2.out]; exact hlt))
   by_cases hkj:k < j
   ·have HS:=hid (HST.out k hkj)
    have hs:=HS.out
    obtain ⟨hn,hN,⟨A,T,B,U,C,V,D,X,E,Y,F,Z,fp,hA,hT,hT2,hTN,fx,fi,hBC,hB,hC,hU,hV,hUV,fc,hD,hX,hTX,fr2,hE,fb,hF,hYZ⟩,hpow,hleft,zup,hright⟩:=hs
    rw [hn] at hcell hi1 hi2
    have HR1:=hid hright
    have HTL:=hid (htl.to (S':=NC none bd wr) (Kept.refl _ _) HSW.out)
    have HTC:=hid (htc.to (S':=NC none bd wr) (Kept.refl _ _) HSW.out)
    have CI:=hid (zc6 (PC.pv HTL.out) fp (by omega) hT2)
    have HLT:=hid HDk.out.lt
    have CP:=hid (fun (Y:World) (u:Value) (hY:Ext wr Y) (hu:PC none bd Y u (z1w (ls.getD k []))) => zdh (o:=none) (s:=default) (HDk.out.ext hY) (MV.none _ _) (fun b hb => (by cases hb)) hu fp.init hA hT hN hTN hpow)
    have CT:=hid (fun (Y:World) (u:Value) (hd:CalcAt Y bd (mval none) 0) (hY:Gd none bd wr Y) (hu:PC none bd Y u (is k)) => z7x hd (PC.pv (PC.on HLk.out hY)) (PC.pv hu) fx fi hBC (by omega) (by omega) hUV hleft)
    have CT2:=hid (fun (Y:World) (hd:CalcAt Y bd (mval none) 0) (hY:Gd none bd wr Y) => z7x hd (PC.pv (PC.on HTL.out hY)) (PC.pv (PC.on HTC.out hY)) fp fc (.inl hA) (by omega) (by omega) hTX zup)
    have CA:=hid (fun (Y:World) (u:Value) (hY:Gd none bd wr Y) (hu:PV Y u (bs k)) => zpd (PC.pv (PC.on HRk.out hY)) hu fr2 fb (by omega) (by omega) hYZ)
    obtain ⟨aL,cL,rfl⟩:=HLk.out.form
    obtain ⟨aR,cR,rfl⟩:=HRk.out.form
    obtain ⟨all,cll,rfl⟩:=htl.form
    obtain ⟨acc,ccc,rfl⟩:=htc.form
    obtain ⟨nL,hnL⟩:∃ n,n = (ofP (xs k).1).length:=⟨_,rfl⟩
    obtain ⟨nR,hnR⟩:∃ n,n = (ofP (xs k).2).length:=⟨_,rfl⟩
    obtain ⟨nl1,hnl1⟩:∃ n,n = (ofP (ls.getD k [])).length:=⟨_,rfl⟩
    obtain ⟨nc1,hnc1⟩:∃ n,n = (ofP (cs.getD k [])).length:=⟨_,rfl⟩
    rw [← hnL] at CT ⊢
    rw [← hnR] at CA ⊢
    rw [← hnl1] at CI CT2 hlc
    rw [← hnc1] at CT2 hcc
    generalize Ns k = N at CP hcell hi1 hi2 hN
    have q2:decide ((N:Int) < 0) = false:=decide_eq_false (by omega)
    have q3:decide (100 < (N:Int)) = false:=decide_eq_false (by omega)
    have hSl2:bl < W.heap.size:=hSl
    have hSc2:bc < W.heap.size:=hSc
    have hbx:=HBL.out
    have HFS:Hid (∀ Y:World,Gd none bd wr Y → Y.cell? ⟨bl,ol + k,none⟩ = some (.slice all nl1 cll) ∧ Y.cell? ⟨W.heap.size,1,none⟩ = some (.slice (some ⟨bc,oc,none⟩) m cc') ∧ Y.cell? ⟨bc,oc + k,none⟩ = some (.slice acc nc1 ccc)):=hid (fun Y hY => by
     have hs:=HXW.out.size
     have hs2:=HXJ.out.size
     have hs3:=hg.size
     have hb5:W.heap.size < W5.heap.size:=z0s HJ5.out.1
     refine ⟨(World.cell?_of_block (hY.block bl (Nat.lt_of_lt_of_le hSl2 hs) (by simp) (by omega))).trans hlc,(World.cell?_of_block ((hg.trans hY).block W.heap.size hb5 (by simp) (by omega))).trans HJ5.out.2.1,(World.cell?_of_block (hY.block bc (Nat.lt_of_lt_of_le hSc2 hs) (by simp) (by omega))).trans hcc⟩)
    have k1:=(HFS.out wr (Gd.refl _ _ _)).1
    clear fp hA hT hT2 hTN fx fi hBC hB hC hU hV hUV fc hD hX hTX fr2 hE fb hF hYZ hpow hleft zup hright hn htl htc hnL hnR hnl1 hnc1 hg hN hSl hSc hlc hcc
    go_wp2_with fail
    with_reducible refine CI.out.mono ?_
    rintro e w6 ⟨vi,rfl,ht6,hx6⟩
    have HX6':=hid hx6
    have HT6:=hid (ht6.to (S':=NC none bd w6) (Kept.refl _ _) (fun b hb => ⟨hb.2,by simp,fun e => by have:=hb.1; have:=HLT.out; omega⟩))
    have HCP:=hid (CP.out w6 vi hx6 HT6.out)
    obtain ⟨ai,ci,rfl⟩:=ht6.form
    obtain ⟨ni,hni⟩:∃ n,n = (ofP (z1w (ls.getD k []))).length:=⟨_,rfl⟩
    rw [← hni] at HCP ⊢
    clear hx6 ht6 hni k1
    go_wp2_with fail
    with_reducible refine HCP.out.mono ?_
    rintro e w7 ⟨vi7,rfl,hd7,-,hg7,hp7⟩
    have HD7:Hid (CalcAt w7 bd (mval none) 0):=hid hd7
    have HG7:=hid ((z2b HX6'.out).trans hg7)
    have HCT:=hid (CT.out w7 vi7 hd7 HG7.out hp7.pc)
    obtain ⟨a7,c7,rfl⟩:=hp7.form
    obtain ⟨n7,hn7⟩:∃ n,n = (ofP (is k)).length:=⟨_,rfl⟩
    rw [← hn7] at HCT ⊢
    clear hd7 hg7 hp7 hn7
    go_wp2_with fail
    with_reducible refine HCT.out.mono ?_
    rintro e w8 ⟨v8,rfl,hd8,hg8,ht8⟩
    have HG8:=hid (HG7.out.trans hg8)
    have HLT7:=hid hd8.lt
    have HT8:=hid (ht8.to (S':=NC none bd w8) (Kept.refl _ _) (fun b hb => ⟨hb.2,by simp,fun e => by have:=hb.1; have:=HD7.out.lt; omega⟩))
    obtain ⟨a8,c8,rfl⟩:=ht8.form
    obtain ⟨n8,hn8⟩:∃ n,n = (ofP (xs (k + 1)).1).length:=⟨_,rfl⟩
    rw [← hn8] at HT8 ⊢
    have x0:=Below.drew (Ext.refl w8)
    have HGX:=hid (HG8.out.trans (z2b x0))
    have S0:=HFS.out _ HGX.out
    have HC2:=hid (CT2.out _ (hd8.ext x0) HGX.out)
    have HY8:Hid (Gd none bd w8 _):=hid (z2b x0)
    clear hd8 hg8 ht8 hn8 x0
    go_wp2
    first
     | go_region_held3 (fun Y => Y.cell? ⟨bl,ol + k,none⟩ = some (.slice all nl1 cll) ∧ Y.cell? ⟨W.heap.size,1,none⟩ = some (.slice (some ⟨bc,oc,none⟩) m cc') ∧ Y.cell? ⟨bc,oc + k,none⟩ = some (.slice acc nc1 ccc)) (first | exact S0 | exact S1 | exact S2)
       (first
      | (go_at_call 37; refine HC2.out.mono ?_
         rintro e u1 ⟨x9,rfl,hd9,hg9,ht9⟩; have HG9:=hid (HGX.out.trans hg9); have HY9:=hid (HY8.out.trans hg9); have S1:=HFS.out _ HG9.out; have HD9:=hid hd9; have HC3:=hid (CA.out u1 x9 HG9.out (ht9.to (S':=Old u1) (Kept.refl _ _) New.lt)); have qf:=ht9.form; obtain ⟨a9,c9,rfl⟩:=qf; obtain ⟨n9,hn9⟩:∃ n,n = (ofP (bs k)).length:=⟨_,rfl⟩; rw [← hn9] at HC3; rw [← hn9]; clear hd9 hg9 ht9 hn9)
      | (go_at_call 21; refine HC3.out.mono ?_
         rintro e u2 ⟨x10,rfl,ht10,hx10⟩; have HG10:=hid (HG9.out.trans (z2b hx10)); have HY10:=hid (HY9.out.trans (z2b hx10)); have S2:=HFS.out _ HG10.out; have HD10:=hid (HD9.out.ext hx10); have HT10:=hid (ht10.to (S':=NC none bd u2) (Kept.refl _ _) (fun b hb => ⟨hb.2,by simp,fun e => by have:=hb.1; have:=HD9.out.lt; omega⟩)); have qf:=ht10.form; obtain ⟨a10,c10,rfl⟩:=qf; obtain ⟨n10,hn10⟩:∃ n,n = (ofP (z1t ((xs k).2 ++ bs k))).length:=⟨_,rfl⟩; rw [← hn10] at HT10; rw [← hn10]; clear ht10 hx10 hn10))
     | fail
    all_goals
     go_wp2
     go_roundw
     case rel =>
      refine ⟨k + 1,hkj,by go_num,HG.out.trans HG10.out,HD10,hid ?_,hid ?_⟩
      ·exact PC.on HT8.out HY10.out
      ·rw [HR1.out]
       exact HT10.out
     case measure => simp only [intOf]; omega
   ·obtain rfl:k = j:=by omega
    have HB:=hid (HBAD.out (by rw [← HM.out]; exact hlt))
    have HE:=hid (HRES2.out hlt)
    generalize ns.getD k 0 = nk at HB hcell hi1 hi2
    clear htl htc hlc hcc hg
    rcases HB.out with hb | hb
    ·have q2:decide (nk < 0) = true:=decide_eq_true hb
     go_wp2
     all_goals
      go_ret
      exact ⟨by rw [HE.out]; rfl,HXW.out⟩
    ·have q2:decide (nk < 0) = false:=decide_eq_false (by omega)
     have q3:decide (100 < nk) = true:=decide_eq_true hb
     go_wp2
     all_goals
      go_ret
      exact ⟨by rw [HE.out]; rfl,HXW.out⟩
  ·obtain rfl:k = j:=by omega
   have e1:=HDk.out.c1
   have CS:=hid (zyj (PC.pv HLk.out) (PC.pv HRk.out))
   have HE:=hid (HRES.out _ rfl hlt)
   obtain ⟨aL,cL,rfl⟩:=HLk.out.form
   obtain ⟨aR,cR,rfl⟩:=HRk.out.form
   obtain ⟨nL,hnL⟩:∃ n,n = (ofP (xs k).1).length:=⟨_,rfl⟩
   obtain ⟨nR,hnR⟩:∃ n,n = (ofP (xs k).2).length:=⟨_,rfl⟩
   rw [← hnL,← hnR] at CS ⊢
   clear hnL hnR hg
   go_wp2_with fail
   with_reducible refine CS.out.mono ?_
   rintro e w9 ⟨rfl,hx9⟩
   have HX9:=hid hx9
   clear hx9
   go_wp2
   all_goals
    go_ret
    exact ⟨by rw [HE.out]; rfl,HXW.out.trans HX9.out⟩
end
section
open Go.RowKit
theorem zpy {o:Option Nat} {keep:Bool} {g h:PZ} {v d:Int}:∀ (k:Nat) (s:MSt) (q r:PZ) (n:Nat),(runD o keep g h v d k s q r n).n ≤ n + k:=by
 intro k
 induction k with
 | zero => intros; exact Nat.le_refl _
 | succ k ih =>
  intro s q r n
  rw [runD]
  split
  ·exact Nat.le_add_right _ _
  split
  ·exact Nat.zero_le _
  split
  ·exact Nat.zero_le _
  split
  ·exact Nat.zero_le _
  split
  ·exact Nat.zero_le _
  ·exact Nat.le_trans (ih _ _ _ _) (by omega)
theorem zyn {o:Option Nat} {keep:Bool} {s:MSt} {f g:PZ} {v:Int} (hf:z0k f):(divD o keep s f g v).n ≤ 10001:=by
 have h:(divD o keep s f g v).n ≤ 0 + _:=zpy _ _ _ _ _
 have h2:=z18 hf v
 omega
def redD (o:Option Nat) (ls:List PZ):Nat → MSt → PZ → List Int → Int × MSt × PZ × List Int
 | 0,s,r,ns => (0,s,r,ns)
 | k + 1,s,r,ns =>
  if (divD o false s r (ls.getD k []) (z0t (ls.getD k []))).e ≠ 0 then ((divD o false s r (ls.getD k []) (z0t (ls.getD k []))).e,(divD o false s r (ls.getD k []) (z0t (ls.getD k []))).s,[],[])
  else redD o ls k (divD o false s r (ls.getD k []) (z0t (ls.getD k []))).s (divD o false s r (ls.getD k []) (z0t (ls.getD k []))).r (ns.set k ((divD o false s r (ls.getD k []) (z0t (ls.getD k []))).n:Int))
structure RedStep (o:Option Nat) (keep:Bool) (p r:PZ) (s:MSt):Prop where
 ex:∃ A T B M:Nat,Fit A T p ∧ A < 24 ∧ B ≤ 40000 ∧ 1 ≤ T ∧ T ≤ 1000000 ∧ 2 * T * M ≤ 1000000000000 ∧ z5i o keep p (z17 p (z0t p)) (z0t p) (degP p (z0t p)) B M ((degP r (z0t p)).toNat + 1) s [] r
 lead:1 ≤ z0t p ∧ z0t p ≤ 200
 deg:1 ≤ degP p (z0t p)
def zdi (o:Option Nat) (ls:List PZ):Nat → MSt → PZ → Prop
 | 0,_,_ => True
 | k + 1,s,r => RedStep o false (ls.getD k []) r s ∧ ((divD o false s r (ls.getD k []) (z0t (ls.getD k []))).e = 0 → zdi o ls k (divD o false s r (ls.getD k []) (z0t (ls.getD k []))).s (divD o false s r (ls.getD k []) (z0t (ls.getD k []))).r)
def rowI (ns:List Int):Nat → Value:=fun j => .int .i64 (ns.getD j 0)
theorem zjq {w:World} {T:TypeId} {n g:Nat} {ns:List Int} (h:w.rowIs g T n (rowI ns)) (k:Nat) (z:Int) (hk:k < ns.length):(w.setCell ⟨g,k,none⟩ (.int .i64 z)).rowIs g T n (rowI (ns.set k z)):=by
 refine (h.set k (.int .i64 z)).congr (fun i hi => ?_)
 unfold rowI
 simp only [List.getD_eq_getElem?_getD,List.getElem?_set]
 by_cases e:i = k
 ·subst e
  simp [hk]
 ·rw [if_neg e,if_neg (fun h => e h.symm)]
theorem zlt (w:World) (n:Nat) (T:TypeId):(w.alloc (.cells (madeCells #[.int .i64 0] n) T)).rowIs w.heap.size T n (rowI (List.replicate n 0)) :=
 (World.rowIs_made w (.int .i64 0) n T).congr (fun i hi => by simp [rowI,List.getD_eq_getElem?_getD,hi])
theorem Ints.of_row {w:World} {T:TypeId} {g m:Nat} {ns:List Int} {S:Nat → Prop} (h:w.rowIs g T m (rowI ns)) (hn:ns.length = m) (hi:∀ z ∈ ns,z1v z) (hm:m ≤ maxLen) (hS:S g):Ints S w (.slice (some ⟨g,0,none⟩) m m) ns:=by
 refine ⟨g,0,⟨_,m,by rw [hn],by omega,hm,fun _ => rfl,fun _ => hS⟩,fun j n hj => ⟨hi n (List.mem_of_getElem? hj),?_⟩⟩
 have hl:=z05 hj
 rw [Nat.zero_add,h.cell (i:=j) (by omega)]
 unfold rowI
 rw [List.getD_eq_getElem?_getD,hj]
 rfl
def zpz (W:World) (o:Option Nat) (X:Int × MSt × PZ × List Int):Ending → World → Prop:=fun e W' => ∃ vr vn,e = .returned (.tuple #[vr,vn,.int .i64 X.1]) ∧ MV W' o X.2.1 ∧ W.grownBy W' o ∧ PMN W.heap.size o W' vr X.2.2.1 ∧ Ints (fun k => W.heap.size ≤ k ∧ NB o W' k) W' vn X.2.2.2
theorem zh4 {W:World} {o:Option Nat} {s:MSt} {vf vl:Value} {f:PZ} {ls:List PZ} {A T:Nat} (hM:MV W o s) (hf:PM o W vf f) (hl:z1r (NB o W) W vl (ls.map ofP)) (ff:Fit A T f) (hA:A ≤ 1000000) (hT:T ≤ 1000000000)
  (sl:z70 (ls.map ofP)) (hmay:mayC 0 (ls.map ofP) = true) (hlen:ls.length ≤ 1000) (hF:zdi o ls ls.length s f) :
  Calls Tryz.prog 7 #[mval o,vf,vl] W (zpz W o (redD o ls ls.length s f (List.replicate ls.length 0))):=by
 have hnot:∀ (x:Bool) (w:World),(Op.unary .not (.bool x)).run Tryz.prog w = .ok (.bool (!x)) w:=fun _ _ => rfl
 have C1:=hid (zlo hf.pv ff hA)
 have C2:=hid (fun (Y:World) (hY:Ext W Y) => (show Calls Tryz.prog 19 #[vl] Y fun e w' => e = .returned (.bool true) ∧ Ext Y w' from by
  have h:=z76 (S:=NB o W) vl (ls.map ofP) Y (hl.ext hY (fun _ h => h.1)) (fun k h => Nat.lt_of_lt_of_le h.1 hY.size) sl
  rwa [hmay] at h))
 have hnil:z1t (f ++ []) = f:=by rw [List.append_nil]; exact z5a ff.can
 have C3:=hid (fun (Y:World) (hY:Ext W Y) => (show Calls Tryz.prog 21 #[vf,.slice none 0 0] Y (z90 Y f) from by
  have hn:PV Y (.slice none 0 0) []:=z06.nilv _ _ _ _ (by decide)
  have h:=zpd (q:=[]) (z06.on hf.pv hY) hn ff z8h hA (by omega) (by omega)
  rwa [hnil] at h))
 have HM:=hid hM
 have HL:=hid hl
 have HFF:=hid hF
 have HBM:=hid (fun b hb => hM.block (b:=b) hb)
 obtain ⟨X,hX⟩:∃ X,X = redD o ls ls.length s f (List.replicate ls.length 0):=⟨_,rfl⟩
 rw [← hX]
 have HX:=hid hX
 obtain ⟨m,hm⟩:∃ m,m = ls.length:=⟨_,rfl⟩
 have HMM:=hid hm
 rw [← hm] at hlen
 obtain ⟨af,cf,rfl⟩:=hf.form
 obtain ⟨al,cl,hl'⟩:=hl.form
 rw [List.length_map,← hm] at hl'
 subst hl'
 obtain ⟨nf,hnf⟩:∃ n,n = (ofP f).length:=⟨_,rfl⟩
 rw [← hnf] at C1 C3 ⊢
 obtain ⟨vm,hvm⟩:∃ x,x = mval o:=⟨_,rfl⟩
 rw [← hvm]
 have HVM:=hid hvm
 clear hM hf hl ff hA hT sl hmay hF hX hm hnf hnil hvm
 have hmk:=fun (Y:World) => run_make_row' (P:=Tryz.prog) 39 3 (.int .i64 0) 8 Tryz.underlying39 Tryz.infoInt rfl .i64 .i64 m (by omega) (by omega) Y
 go_enter Tryz.func7,Tryz.ntmps7
 go_wp2_with fail
 with_reducible refine C1.out.mono ?_
 rintro e w1 ⟨rfl,hx⟩
 have HX1:=hid hx
 clear hx
 go_wp2_with fail
 with_reducible refine (C2.out _ HX1.out).mono ?_
 rintro e w2 ⟨rfl,hx⟩
 have HX2:=hid (HX1.out.trans hx)
 clear hx
 go_wp2_with fail
 with_reducible refine (C3.out _ HX2.out).mono ?_
 rintro e w3 ⟨v3,rfl,ht3,hx⟩
 have HX3:=hid (HX2.out.trans hx)
 have HT3:=hid (ht3.to (S':=fun k => W.heap.size ≤ k ∧ k < w3.heap.size) (Kept.refl _ _) (fun k h => ⟨Nat.le_trans HX2.out.size h.1,h.2⟩))
 obtain ⟨a3,c3,rfl⟩:=ht3.form
 obtain ⟨n3,hn3⟩:∃ n,n = (ofP f).length:=⟨_,rfl⟩
 rw [← hn3] at HT3 ⊢
 have HN3:=hid hn3
 clear hx ht3 hn3
 have HR0:=hid (zlt w3 m 3)
 have HXA:=hid (Ext.alloc (Ext.refl w3) (.cells (madeCells #[.int .i64 0] m) 3))
 obtain ⟨w5,hw5⟩:∃ Y,Y = w3.alloc (.cells (madeCells #[.int .i64 0] m) 3):=⟨_,rfl⟩
 obtain ⟨bp,hbp⟩:∃ n,n = w3.heap.size:=⟨_,rfl⟩
 have HBP:=hid hbp
 rw [← hw5,← hbp] at HR0
 rw [← hw5] at HXA
 have HX5:=hid (HX3.out.trans HXA.out)
 go_wp2
 rw [← hw5,← hbp]
 have HNP:Hid (W.heap.size ≤ bp):=hid (by rw [hbp]; exact HX3.out.size)
 have HT5:Hid (z06 (fun k => W.heap.size ≤ k ∧ NC o bp w5 k) w5 (.slice a3 n3 c3) (ofP f)):=hid (by
  rw [HN3.out] at HT3
  have h:=HT3.out
  rw [← HN3.out] at h
  exact h.to (Kept.ext HXA.out (fun _ h => h.2)) (fun k h => ⟨h.1,Nat.lt_of_lt_of_le h.2 HXA.out.size,fun e => by have h1:=HBM.out k e.symm; have h2:=h.1; omega,fun e => by have h2:=h.2; rw [← hbp,← e] at h2; omega⟩))
 have HOB:Hid (∀ b,o = some b → b ≠ bp):=hid (fun b hb e => by have h1:=HBM.out b hb; have h2:=HNP.out; omega)
 clear hw5 hbp hmk
 go_loopw [6,7,8,9] (fun rv pv e i wr => ∃ (k:Nat) (s1:MSt) (r1:PZ) (ns1:List Int),k ≤ m ∧ i = .int .i64 ((k:Int) - 1) ∧ e = .int .i64 0 ∧ pv = .slice (some ⟨bp,0,none⟩) m m ∧ Hid (MV wr o s1) ∧ Gd o bp w5 wr ∧ Hid (PN W.heap.size o bp wr rv r1) ∧ wr.rowIs bp 3 m (rowI ns1) ∧ Hid (zdi o ls k s1 r1) ∧ Hid (redD o ls k s1 r1 ns1 = X) ∧ Hid (ns1.length = m ∧ ∀ z ∈ ns1,z1v z)) (fun _ _ _ i _ => (intOf i + 1).toNat)
 case atStart =>
  refine ⟨m,s,f,List.replicate m 0,Nat.le_refl _,rfl,rfl,rfl,hid (HM.out.ext HX5.out),Gd.refl _ _ _,HT5,HR0.out,hid ?_,hid ?_,hid ⟨by simp,fun z hz => ?_⟩⟩
  ·rw [HMM.out]; exact HFF.out
  ·rw [HX.out,HMM.out]
  ·rw [List.eq_of_mem_replicate hz]; unfold z1v; omega
 case round =>
  obtain ⟨k,s1,r1,ns1,hk,rfl,rfl,rfl,HMV,hg,HRV,hrow,HRF,HRD,HNS⟩:=hrel
  have HG:=hid hg
  have HROW:=hid hrow
  have HGW:Hid (W.grownBy wr o):=hid ((Gd.trans (z2b HX5.out) hg).gb HNP.out)
  cases k with
  | zero =>
   have HX0:Hid (X = (0,s1,r1,ns1)):=hid HRD.out.symm
   have HINT:=hid (Ints.of_row (S:=fun k => W.heap.size ≤ k ∧ NB o wr k) hrow HNS.out.1 HNS.out.2 (by unfold maxLen; omega) ⟨HNP.out,hrow.lt,fun e => HOB.out bp e.symm rfl⟩)
   have HRW:=hid HRV.out.pmn
   obtain ⟨ar,cr,rfl⟩:=HRV.out.form
   obtain ⟨nr,hnr⟩:∃ n,n = (ofP r1).length:=⟨_,rfl⟩
   rw [← hnr] at HRW ⊢
   clear hg hrow hnr
   go_wp2
   all_goals
    refine bodyPost_ret (v:=.tuple #[.slice ar nr cr,.slice (some ⟨bp,0,none⟩) m m,.int .i64 0]) (by simp [results,Tryz.results7,go_sem]) rfl ?_
    rw [HX0.out]
    exact ⟨_,_,rfl,HMV.out,HGW.out,HRW.out,HINT.out⟩
  | succ q =>
   have hq1:((q + 1:Nat):Int) - 1 = (q:Int):=by omega
   have hqm:q < m:=by omega
   have HRS:=hid HRF.out.1
   have hrs:=HRS.out
   have HRV0:Hid (z0k r1):=hid (by obtain ⟨⟨A,T,B,M,fp,hA,hB,hT,hTb,hTM,hFR⟩,hlead,hdeg⟩:=HRS.out; exact hFR.now.2.can.may)
   obtain ⟨⟨A,T,B,M,fp,hA,hB,hT,hTb,hTM,hFR⟩,hlead,hdeg⟩:=hrs
   have HKW:Hid (Kept (NB o W) W wr):=hid (fun b hb => HGW.out.block b hb.1 hb.2)
   have HSW:Hid (∀ b,NB o W b → NC o bp wr b):=hid (fun b hb => ⟨Nat.lt_of_lt_of_le hb.1 HGW.out.size,hb.2,fun e => by have h1:=hb.1; have h2:=HNP.out; omega⟩)
   obtain ⟨bl,ol,vl,rfl,-,hl1,hl2,hSl,hlc,htl⟩:=(HL.out.to HKW.out (fun _ h => h)).cellAt (zcb (k:=q) (l:=ls) (by rw [← HMM.out]; exact hqm))
   have HTL:=hid (htl.to (S':=NC o bp wr) (Kept.refl _ _) HSW.out)
   have CC:=hid (fun (Y:World) (hY:Ext wr Y) => zpe (PC.pv (PC.on HTL.out (z2b (o:=o) (bd:=bp) hY))) fp (by omega))
   have CR0:=fun (Y:World) (hY:Ext wr Y) => zym (HMV.out.ext hY) (PC.pm (PC.on (PN.pc HRV.out) (z2b (o:=o) (bd:=bp) hY))) (PC.pm (PC.on HTL.out (z2b (o:=o) (bd:=bp) hY))) fp hFR hA (by omega) hT hTb hTM hlead hdeg
   rw [← HVM.out] at CR0
   have CR:=hid CR0
   have HRF2:=hid HRF.out.2
   have hrd:=HRD.out
   rw [redD] at hrd
   have HDN:Hid (z0k r1):=hid HRV0.out
   have hdn:=zyn (o:=o) (keep:=false) (s:=s1) (g:=ls.getD q []) (v:=z0t (ls.getD q [])) HDN.out
   generalize divD o false s1 r1 (ls.getD q []) (z0t (ls.getD q [])) = R at CR HRF2 hrd hdn
   obtain ⟨re,rq,rr,rn,rs⟩:=R
   simp only at HRF2 hrd hdn
   have HDN2:=hid hdn
   clear hdn
   have HFS:Hid (∀ Y:World,wr.grownBy Y o → Y.cell? ⟨bl,ol + q,none⟩ = some vl ∧ Y.cell? ⟨bp,q,none⟩ = some (.int .i64 (ns1.getD q 0)) ∧ Y.frozen? ⟨bp,q,none⟩ = false):=hid (fun Y hY => by
    have hb:Y.heap[bp]? = wr.heap[bp]?:=hY.block bp HROW.out.lt (fun e => HOB.out bp e.symm rfl)
    exact ⟨(World.cell?_of_block (hY.block bl (HSW.out bl hSl).1 hSl.2)).trans hlc,(World.cell?_of_block hb).trans (HROW.out.cell (i:=q) hqm),(World.frozen?_of_block (w:=wr) (a:=⟨bp,q,none⟩) hb).trans (HROW.out.frozen q)⟩)
   obtain ⟨aR,cR,rfl⟩:=HRV.out.form
   obtain ⟨all,cll,rfl⟩:=htl.form
   obtain ⟨nR,hnR⟩:∃ n,n = (ofP r1).length:=⟨_,rfl⟩
   obtain ⟨nl1,hnl1⟩:∃ n,n = (ofP (ls.getD q [])).length:=⟨_,rfl⟩
   rw [← hnR,← hnl1] at CR
   rw [← hnl1] at CC HFS
   rw [← hnR]
   have x0:=Below.drew (Ext.refl wr)
   have HX0:Hid (Ext wr _):=hid x0
   have S0:=(HFS.out _ (z11 HX0.out o)).1
   have HNE:Hid (bp ≠ bl):=hid (fun e => (HSW.out bl hSl).2.2 e.symm)
   have HC1:=hid (CC.out _ x0)
   have HRDX:=hid hrd
   clear fp hA hB hT hTb hTM hFR hlead hdeg htl hnR hnl1 hSl hlc hg hrow x0 hrd CR0
   simp only [hq1]
   go_wp2
   go_region_held3 (fun Y => Y.cell? ⟨bl,ol + q,none⟩ = some (.slice all nl1 cll)) (first | exact S0 | exact S1 | exact S2 | exact z09 S2 (ab HNE.out))
     (first
    | (go_at_call 23; refine HC1.out.mono ?_
       rintro e u1 ⟨rfl,hx1⟩; have HX1:Hid (Ext wr u1):=hid (Ext.trans HX0.out hx1); have S1:=(HFS.out _ (z11 HX1.out o)).1; have HC2:=hid (CR.out u1 HX1.out); clear hx1)
    | (go_at_call 22; refine HC2.out.mono ?_
       rintro e u2 ⟨x2,rfl,hm2,hg2,hr2⟩; have HG2:=hid (z1d (z11 HX1.out o) hg2); have S2:=(HFS.out _ HG2.out).1; have k1:=(HFS.out _ HG2.out).2.1; have k2:=(HFS.out _ HG2.out).2.2; have HM2:=hid hm2; have HR2:=hid hr2; have qf:=hr2.form; obtain ⟨a2,c2,rfl⟩:=qf; obtain ⟨n2,hn2⟩:∃ n,n = (ofP rr).length:=⟨_,rfl⟩; rw [← hn2] at HR2; rw [← hn2]; clear hm2 hg2 hr2 hn2))
   all_goals
    have HU:=hid (show bp < u1.heap.size ∧ W.heap.size ≤ u1.heap.size from ⟨Nat.lt_of_lt_of_le HROW.out.lt HX1.out.size,Nat.le_trans HGW.out.size HX1.out.size⟩)
    obtain ⟨W6,hW6⟩:∃ Y,Y = u2.setCell ⟨bp,q,none⟩ (.int .i64 (rn:Nat)):=⟨_,rfl⟩
    have HM6:Hid (MV W6 o rs):=hid (by rw [hW6]; exact HM2.out.set HOB.out (a:=⟨bp,q,none⟩) rfl _)
    have HS6:Hid (Gd o bp u2 W6):=hid (by rw [hW6]; exact zae u2 (a:=⟨bp,q,none⟩) rfl _)
    have HG6:Hid (Gd o bp w5 W6):=hid (HG.out.trans ((zcx HG2.out).trans HS6.out))
    have HP6:=hid (PN.on (N:=W.heap.size) (o:=o) (bd:=bp) (HR2.out.to (S':=fun k => W.heap.size ≤ k ∧ NC o bp u2 k) (Kept.refl _ _) (fun k h => ⟨Nat.le_trans HU.out.2 h.1,h.2.1,h.2.2,fun e => by have h1:=h.1; have h2:=HU.out.1; omega⟩)) HS6.out)
    have HR6:Hid (W6.rowIs bp 3 m (rowI (ns1.set q (rn:Int)))):=hid (by rw [hW6]; exact zjq (HROW.out.of_block (HG2.out.block bp HROW.out.lt (fun e => HOB.out bp e.symm rfl))) q _ (by rw [HNS.out.1]; exact hqm))
    have HGW6:Hid (W.grownBy W6 o):=hid ((Gd.trans (z2b HX5.out) HG6.out).gb HNP.out)
    rw [← hW6]
    clear hW6
    by_cases h0:re = 0
    ·have HRD6:Hid (redD o ls q rs rr (ns1.set q (rn:Int)) = X):=hid (by have h:=HRDX.out; rwa [if_neg (by rw [h0]; exact fun h => h rfl)] at h)
     have HRF6:Hid (zdi o ls q rs rr):=hid (HRF2.out h0)
     subst h0
     go_wp2
     go_roundw
     case rel =>
      refine ⟨q,rs,rr,ns1.set q (rn:Int),by omega,by go_num,rfl,rfl,HM6,HG6.out,HP6,HR6.out,HRF6,HRD6,hid ⟨by rw [List.length_set]; exact HNS.out.1,fun z hz => ?_⟩⟩
      rcases List.mem_or_eq_of_mem_set hz with h | h
      ·exact HNS.out.2 z h
      ·rw [h]; unfold z1v; have h1:=HDN2.out; omega
     case measure => simp only [intOf]; omega
    ·have HXE:Hid (X = (re,rs,[],[])):=hid (by have h:=HRDX.out; rw [if_pos h0] at h; exact h.symm)
     have q0:(re != 0) = true:=by rw [bne_iff_ne]; exact h0
     clear h0
     go_wp2
     all_goals
      refine bodyPost_ret (v:=.tuple #[.slice none 0 0,.slice none 0 0,.int .i64 re]) (by simp [results,Tryz.results7,go_sem]) rfl ?_
      rw [HXE.out]
      exact ⟨_,_,rfl,HM6.out,HGW6.out,z06.nilv _ _ _ _ (by decide),⟨0,0,⟨none,0,rfl,Nat.le_refl _,by decide,fun h => by simp at h,fun h => by simp at h⟩,fun j n hj => by simp at hj⟩⟩
end
section
open Go.RowKit
def cofD (o:Option Nat) (P:PZ) (m:Nat):Nat → MSt → List PZ → Int × MSt × List PZ
 | 0,s,cs => (0,s,cs)
 | q + 1,s,cs =>
  if (z10 o s ((z0g (cs.getD (m - (q + 1)) []) P).getD [])).1 ≠ 0 then ((z10 o s ((z0g (cs.getD (m - (q + 1)) []) P).getD [])).1,(z10 o s ((z0g (cs.getD (m - (q + 1)) []) P).getD [])).2,[])
  else cofD o P m q (z10 o s ((z0g (cs.getD (m - (q + 1)) []) P).getD [])).2 (cs.set (m - (q + 1)) ((z0g (cs.getD (m - (q + 1)) []) P).getD []))
structure CofStep (c P:PZ):Prop where
 ex:∃ k n l m:Nat,Fit k n c ∧ Fit l m P ∧ (k < 24 ∨ l < 24) ∧ k ≤ 40000 ∧ l ≤ 40000 ∧ n ≤ 1000000000000 ∧ m ≤ 1000000000000 ∧ n * m ≤ 1000000000000
 some:z0g c P = some ((z0g c P).getD [])
def zaf (o:Option Nat) (P:PZ) (m:Nat):Nat → MSt → List PZ → Prop
 | 0,_,_ => True
 | q + 1,s,cs => CofStep (cs.getD (m - (q + 1)) []) P ∧ ((z10 o s ((z0g (cs.getD (m - (q + 1)) []) P).getD [])).1 = 0 → zaf o P m q (z10 o s ((z0g (cs.getD (m - (q + 1)) []) P).getD [])).2 (cs.set (m - (q + 1)) ((z0g (cs.getD (m - (q + 1)) []) P).getD [])))
def z22 (o:Option Nat) (w:Bool) (p:PZ) (m k:Nat) (D:DRes) (cs:List PZ):Int × MSt × List PZ :=
 if D.e ≠ 0 then (D.e,D.s,[]) else
 if D.n = 0 ∨ w = false then (0,D.s,cs.set k D.q) else
 if (z10 o D.s ((powN (z1w p) D.n).getD [])).1 ≠ 0 then ((z10 o D.s ((powN (z1w p) D.n).getD [])).1,(z10 o D.s ((powN (z1w p) D.n).getD [])).2,[])
 else cofD o ((powN (z1w p) D.n).getD []) m (m - (k + 1)) (z10 o D.s ((powN (z1w p) D.n).getD [])).2 (cs.set k D.q)
structure RoundFit (o:Option Nat) (p:PZ) (m k:Nat) (D:DRes) (cs:List PZ):Prop where
 hn:D.n ≤ 100
 pow:powN (z1w p) D.n = some ((powN (z1w p) D.n).getD [])
 ex:∃ A T:Nat,Fit A T p ∧ A < 24 ∧ 1 ≤ T ∧ T ≤ 1000000000000 ∧ T ^ D.n ≤ 1000000000000
 cof:(z10 o D.s ((powN (z1w p) D.n).getD [])).1 = 0 → zaf o ((powN (z1w p) D.n).getD []) m (m - (k + 1)) (z10 o D.s ((powN (z1w p) D.n).getD [])).2 (cs.set k D.q)
abbrev divK (o:Option Nat) (w:Bool) (ls:List PZ) (k:Nat) (s:MSt) (r:PZ):DRes:=divD o w s r (ls.getD k []) (z0t (ls.getD k []))
def z4n (o:Option Nat) (w:Bool) (ls:List PZ):Nat → MSt → PZ → List Int → List PZ → Int × MSt × PZ × List Int × List PZ
 | 0,s,r,ns,cs => (0,s,r,ns,cs)
 | k + 1,s,r,ns,cs =>
  if (z22 o w (ls.getD k []) ls.length k (divK o w ls k s r) cs).1 ≠ 0 then ((z22 o w (ls.getD k []) ls.length k (divK o w ls k s r) cs).1,(z22 o w (ls.getD k []) ls.length k (divK o w ls k s r) cs).2.1,[],[],[])
  else z4n o w ls k (z22 o w (ls.getD k []) ls.length k (divK o w ls k s r) cs).2.1 (divK o w ls k s r).r (ns.set k ((divK o w ls k s r).n:Int)) (z22 o w (ls.getD k []) ls.length k (divK o w ls k s r) cs).2.2
def z31 (o:Option Nat) (w:Bool) (ls:List PZ):Nat → MSt → PZ → List PZ → Prop
 | 0,_,_,_ => True
 | k + 1,s,r,cs => RedStep o w (ls.getD k []) r s ∧ ((divK o w ls k s r).e = 0 → (divK o w ls k s r).n ≠ 0 → w = true → RoundFit o (ls.getD k []) ls.length k (divK o w ls k s r) cs) ∧
  ((z22 o w (ls.getD k []) ls.length k (divK o w ls k s r) cs).1 = 0 → z31 o w ls k (z22 o w (ls.getD k []) ls.length k (divK o w ls k s r) cs).2.1 (divK o w ls k s r).r (z22 o w (ls.getD k []) ls.length k (divK o w ls k s r) cs).2.2)
theorem ztl {o:Option Nat} {P:PZ} {m:Nat}:∀ (q:Nat) (s:MSt) (cs:List PZ),(cofD o P m q s cs).1 = 0 → (cofD o P m q s cs).2.2.length = cs.length:=by
 intro q
 induction q with
 | zero => intros; rfl
 | succ q ih =>
  intro s cs h
  rw [cofD] at h ⊢
  split
  ·rename_i h0
   rw [if_pos h0] at h
   exact absurd h h0
  ·rename_i h0
   rw [if_neg h0] at h
   rw [ih _ _ h,List.length_set]
theorem zlu {o:Option Nat} {w:Bool} {p:PZ} {m k:Nat} {D:DRes} {cs:List PZ} (h:(z22 o w p m k D cs).1 = 0):(z22 o w p m k D cs).2.2.length = cs.length:=by
 unfold z22 at h ⊢
 split
 ·rename_i h0
  rw [if_pos h0] at h
  exact absurd h h0
 rename_i h0
 rw [if_neg h0] at h
 split
 ·exact List.length_set
 rename_i h1
 rw [if_neg h1] at h
 split
 ·rename_i h2
  rw [if_pos h2] at h
  exact absurd h h2
 ·rename_i h2
  rw [if_neg h2] at h
  rw [ztl _ _ _ h,List.length_set]
theorem zq0 {o:Option Nat} {ls:List PZ}:∀ (k:Nat) (s:MSt) (r:PZ) (ns:List Int) (cs:List PZ),
  redD o ls k s r ns = ((z4n o false ls k s r ns cs).1,(z4n o false ls k s r ns cs).2.1,(z4n o false ls k s r ns cs).2.2.1,(z4n o false ls k s r ns cs).2.2.2.1):=by
 intro k
 induction k with
 | zero => intros; rfl
 | succ k ih =>
  intro s r ns cs
  rw [redD,z4n]
  by_cases h:(divD o false s r (ls.getD k []) (z0t (ls.getD k []))).e = 0
  ·have h1:z22 o false (ls.getD k []) ls.length k (divK o false ls k s r) cs = (0,(divK o false ls k s r).s,cs.set k (divK o false ls k s r).q):=by
    unfold z22
    rw [if_neg (by rw [h]; exact fun h => h rfl),if_pos (.inr rfl)]
   rw [if_neg (by rw [h]; exact fun h => h rfl),h1,if_neg (fun h => h rfl)]
   exact ih _ _ _ _
  ·have h1:z22 o false (ls.getD k []) ls.length k (divK o false ls k s r) cs = ((divK o false ls k s r).e,(divK o false ls k s r).s,[]):=by
    unfold z22
    rw [if_pos h]
   rw [if_pos h,h1,if_pos h]
theorem z31.red {o:Option Nat} {ls:List PZ}:∀ (k:Nat) {s:MSt} {r:PZ} {cs:List PZ},z31 o false ls k s r cs → zdi o ls k s r:=by
 intro k
 induction k with
 | zero => intros; trivial
 | succ k ih =>
  intro s r cs h
  rw [z31] at h
  rw [zdi]
  refine ⟨h.1,fun h0 => ?_⟩
  have h1:z22 o false (ls.getD k []) ls.length k (divK o false ls k s r) cs = (0,(divK o false ls k s r).s,cs.set k (divK o false ls k s r).q):=by
   unfold z22
   rw [if_neg (by rw [h0]; exact fun h => h rfl),if_pos (.inr rfl)]
  have h2:=h.2.2
  rw [h1] at h2
  exact ih (h2 rfl)
end
section
open Go.RowKit
def zag (x:PZ × PZ) (p c:PZ) (N:Nat):PZ × PZ:=((z0g x.1 ((powN (z1w p) N).getD [])).getD [],z1t (x.2 ++ (z0g p c).getD []))
def idXs (f r:PZ) (ls cs:List PZ) (ns:List Int):Nat → PZ × PZ
 | 0 => (f,r)
 | k + 1 => zag (idXs f r ls cs ns k) (ls.getD k []) (cs.getD k []) (ns.getD k 0).toNat
theorem exB.init {p:PZ} {E:Int} (h:exB E p) (hE:0 ≤ E):exB E (z1w p):=by
 unfold z1w
 split
 ·exact h
 ·exact h.coef hE _ _
theorem zh5 {x:PZ × PZ} {p c:PZ} {n:Int} {k:Nat} (hk:k ≤ 3) (fx:Fit (3 + k * 18) (6 * 216 ^ k) x.1) (ex1:exB (4 + 12 * (k:Int)) x.1) (fy:Fit (8 + 2 * k) (6 + 36 * k) x.2) (ey:exB 8 x.2)
  (fp:Fit 3 6 p) (ep:exB 4 p) (fc:Fit 3 6 c) (ec:exB 4 c) (hn:0 ≤ n ∧ n ≤ 3) :
  IdStep x (zag x p c n.toNat) p c n n.toNat ((powN (z1w p) n.toNat).getD []) ((z0g p c).getD []) ∧
   Fit (3 + (k + 1) * 18) (6 * 216 ^ (k + 1)) (zag x p c n.toNat).1 ∧ exB (4 + 12 * ((k + 1:Nat):Int)) (zag x p c n.toNat).1 ∧ Fit (8 + 2 * (k + 1)) (6 + 36 * (k + 1)) (zag x p c n.toNat).2 ∧ exB 8 (zag x p c n.toNat).2:=by
 obtain ⟨N,hN⟩:∃ N,N = n.toNat:=⟨_,rfl⟩
 have hN3:N ≤ 3:=by omega
 rw [← hN]
 obtain ⟨P,hP,cP,-,eP⟩:=zig (h:=z1w p) (G:=4) fp.init.can (ep.init (by decide)) (by decide) N (by omega)
 have h6:(6:Nat) ^ N ≤ 216:=Nat.le_trans (Nat.pow_le_pow_right (by decide) hN3) (by decide)
 have fP:=(zeo fp.init (by decide) N P (by omega) hP).mono (l:=16) (m:=216) (by omega) h6
 have eP':exB 12 P:=eP.le (by omega)
 have hpk:6 * 216 ^ k * 216 ≤ 1000000000000:=by
  have:(216:Nat) ^ k ≤ 216 ^ 3:=Nat.pow_le_pow_right (by decide) hk
  have e:(216:Nat) ^ 3 = 10077696:=by decide
  omega
 obtain ⟨y,hy,cy,ey2,-⟩:=ex1.times eP' fx.can cP (by omega)
 obtain ⟨b,hb,cb,eb,-⟩:=ep.times ec fp.can fc.can (by decide)
 have fy1:=fx.times fP hy hpk
 have fb:=fp.times fc hb (by decide)
 have hnx:zag x p c N = (y,z1t (x.2 ++ b)):=by unfold zag; rw [hP,hb,Option.getD_some,Option.getD_some,hy,Option.getD_some]
 rw [hP,hb,Option.getD_some,Option.getD_some,hnx]
 have hm2:z0k (x.2 ++ b):=z3j fy.can.may cb.may
 refine ⟨⟨by omega,by omega,⟨3,6,3 + k * 18,6 * 216 ^ k,16,216,3,6,8 + 2 * k,6 + 36 * k,8,36,fp,by decide,by decide,by decide,by omega,fx,fP,.inr (by decide),by omega,by decide,by omega,by decide,hpk,fc,by decide,by decide,by decide,fy,by omega,fb,by decide,by omega⟩,hP,hy,hb,rfl⟩,?_,?_,?_,?_⟩
 ·exact fy1.mono (by omega) (by rw [Nat.pow_succ]; omega)
 ·exact ey2.le (by omega)
 ·exact (fy.add (fb.mono (l:=8 + 2 * k) (by omega) (Nat.le_refl _)) (by omega)).mono (by omega) (by omega)
 ·exact (ey.append eb).norm hm2
theorem z6h {l:List PZ} {P:PZ → Prop} (h:∀ p ∈ l,P p) {k:Nat} (hk:k < l.length):P (l.getD k []):=by
 rw [List.getD_eq_getElem?_getD,List.getElem?_eq_getElem hk]
 exact h _ (List.getElem_mem hk)
theorem ztm {f r:PZ} {ls cs:List PZ} {ns:List Int} (ff:Fit 3 6 f) (ef:exB 4 f) (fr:Fit 3 6 r) (er:exB 4 r) (hl:∀ p ∈ ls,Fit 3 6 p ∧ exB 4 p) (hc:∀ p ∈ cs,Fit 3 6 p ∧ exB 4 p) (h4:ls.length ≤ 4) (e2:cs.length = ls.length)
  {j:Nat} (hj:j ≤ ls.length) (hg:∀ k,k < j → 0 ≤ ns.getD k 0 ∧ ns.getD k 0 ≤ 3):∀ k,k ≤ j →
  Fit (3 + k * 18) (6 * 216 ^ k) (idXs f r ls cs ns k).1 ∧ exB (4 + 12 * (k:Int)) (idXs f r ls cs ns k).1 ∧ Fit (8 + 2 * k) (6 + 36 * k) (idXs f r ls cs ns k).2 ∧ exB 8 (idXs f r ls cs ns k).2:=by
 intro k
 induction k with
 | zero => intro _; exact ⟨ff,ef,fr.mono (by decide) (by decide),er.le (by decide)⟩
 | succ k ih =>
  intro hk
  obtain ⟨h1,h2,h3,h5⟩:=ih (by omega)
  have hp:=z6h hl (k:=k) (by omega)
  have hq:=z6h hc (k:=k) (by omega)
  exact (zh5 (by omega) h1 h2 h3 h5 hp.1 hp.2 hq.1 hq.2 (hg k (by omega))).2
theorem zlv {f r:PZ} {ls cs:List PZ} {ns:List Int} (ff:Fit 3 6 f) (ef:exB 4 f) (fr:Fit 3 6 r) (er:exB 4 r) (hl:∀ p ∈ ls,Fit 3 6 p ∧ exB 4 p) (hc:∀ p ∈ cs,Fit 3 6 p ∧ exB 4 p) (h4:ls.length ≤ 4) (e2:cs.length = ls.length)
  {j:Nat} (hj:j ≤ ls.length) (hg:∀ k,k < j → 0 ≤ ns.getD k 0 ∧ ns.getD k 0 ≤ 3) (k:Nat) (hk:k < j) :
  IdStep (idXs f r ls cs ns k) (idXs f r ls cs ns (k + 1)) (ls.getD k []) (cs.getD k []) (ns.getD k 0) (ns.getD k 0).toNat ((powN (z1w (ls.getD k [])) (ns.getD k 0).toNat).getD []) ((z0g (ls.getD k []) (cs.getD k [])).getD []):=by
 obtain ⟨h1,h2,h3,h5⟩:=ztm ff ef fr er hl hc h4 e2 hj hg k (by omega)
 have hp:=z6h hl (k:=k) (by omega)
 have hq:=z6h hc (k:=k) (by omega)
 exact (zh5 (by omega) h1 h2 h3 h5 hp.1 hp.2 hq.1 hq.2 (hg k hk)).1
end
section
abbrev k16A:PZ:=[(1,[(1,2)]),(-2,[])]
abbrev k16B:PZ:=[(1,[(2,1)]),(-1,[(1,1)])]
abbrev k16F:PZ:=[(1,[(2,2)])]
abbrev z9b:PZ:=[(1,[(1,2)])]
abbrev k162:PZ:=[(2,[])]
abbrev k16Q:PZ:=[(1,[(2,1)]),(1,[(1,1)])]
abbrev k16L:List PZ:=[k16A,k16B]
theorem zyo:numP 2 = k162:=by kernel_rfl
theorem zyp:zj5 (z0g k9X k9X) = z9b:=by kernel_rfl
theorem zzf:zj5 (z0g k9Y k9Y) = k16F:=by kernel_rfl
theorem zzg:addP z9b (negP k162) = k16A:=by kernel_rfl
theorem zzh:addP k9Y (negP k9X) = k16B:=by kernel_rfl
theorem zcc {a b:Int × Mono} (ha:a.1 ≠ 0 ∧ mayM a.2 = true) (hb:b.1 ≠ 0 ∧ mayM b.2 = true) (h:z0e a.2 b.2 = 1):canP [a,b] :=
 ⟨fun t ht => by rcases List.mem_cons.1 ht with rfl | ht; exact ha; rw [List.mem_singleton.1 ht]; exact hb,List.pairwise_cons.2 ⟨fun u hu => by rw [List.mem_singleton.1 hu]; exact h,List.pairwise_singleton _ _⟩⟩
theorem zcd {a:Int × Mono} (ha:a.1 ≠ 0 ∧ mayM a.2 = true):canP [a]:=⟨fun t ht => by rw [List.mem_singleton.1 ht]; exact ha,List.pairwise_singleton _ _⟩
theorem z6i:canP k16A:=zcc ⟨by decide,by kernel_rfl⟩ ⟨by decide,by kernel_rfl⟩ (by kernel_rfl)
theorem z6j:canP k16B:=zcc ⟨by decide,by kernel_rfl⟩ ⟨by decide,by kernel_rfl⟩ (by kernel_rfl)
theorem zer:canP k16Q:=zcc ⟨by decide,by kernel_rfl⟩ ⟨by decide,by kernel_rfl⟩ (by kernel_rfl)
theorem zat:canP k16F:=zcd ⟨by decide,by kernel_rfl⟩
theorem zh6:canP z9b:=zcd ⟨by decide,by kernel_rfl⟩
theorem ztn:canP k162:=zcd ⟨by decide,by kernel_rfl⟩
theorem zyq:divK none true k16L 1 default k16F = ⟨0,k16Q,z9b,2,default⟩:=by kernel_rfl
theorem zyr:divK none true k16L 0 default z9b = ⟨0,k121,k162,1,default⟩:=by kernel_rfl
theorem zto:z4n none true k16L 2 default k16F [0,0] [[],[]] = (0,default,k162,[1,2],[k121,k16Q]):=by kernel_rfl
theorem ztp:z5i none true k16B (z17 k16B 2) 2 (degP k16B 2) 100 10000 ((degP k16F 2).toNat + 1) default [] k16F :=
 zad (A:=1) (T:=10) (z2l z6j (by kernel_rfl)) ((z2l z6j (by kernel_rfl)).coef _ _) (by decide) (by decide) (by rw [show degP k16B 2 = 1 by kernel_rfl]; decide) (by decide) _ 2 1 1 _ _ _ (z8h.mono (by decide) (by decide)) (⟨zat,(z2l zat (by kernel_rfl)).2.1,by decide⟩) (fun _ => by rw [show degP k16B 2 = 1 by kernel_rfl,show degP k16F 2 = 2 by kernel_rfl]; decide) (by decide) (by decide)
theorem ztq:z5i none true k16A (z17 k16A 1) 1 (degP k16A 1) 100 10000 ((degP z9b 1).toNat + 1) default [] z9b :=
 zad (A:=1) (T:=10) (z2l z6i (by kernel_rfl)) ((z2l z6i (by kernel_rfl)).coef _ _) (by decide) (by decide) (by rw [show degP k16A 1 = 2 by kernel_rfl]; decide) (by decide) _ 2 1 1 _ _ _ (z8h.mono (by decide) (by decide)) (⟨zh6,(z2l zh6 (by kernel_rfl)).2.1,by decide⟩) (fun _ => by rw [show degP k16A 1 = 2 by kernel_rfl,show degP z9b 1 = 2 by kernel_rfl]; decide) (by decide) (by decide)
theorem zys:k16L.getD 1 [] = k16B:=rfl
theorem zyt:k16L.getD 0 [] = k16A:=rfl
theorem zce:z0t k16B = 2:=by kernel_rfl
theorem zcf:z0t k16A = 1:=by kernel_rfl
theorem zq1:RedStep none true k16B k16F default:=by
 refine ⟨⟨1,10,100,10000,z2l z6j (by kernel_rfl),by decide,by decide,by decide,by decide,by decide,?_⟩,?_,?_⟩
 ·rw [zce]; exact ztp
 ·rw [zce]; decide
 ·rw [zce,show degP k16B 2 = 1 by kernel_rfl]; decide
theorem zq2:RedStep none true k16A z9b default:=by
 refine ⟨⟨1,10,100,10000,z2l z6i (by kernel_rfl),by decide,by decide,by decide,by decide,by decide,?_⟩,?_,?_⟩
 ·rw [zcf]; exact ztq
 ·rw [zcf]; decide
 ·rw [zcf,show degP k16A 1 = 2 by kernel_rfl]; decide
theorem ztr:powN (z1w k16B) 2 = some k121:=by kernel_rfl
theorem zjr:powN (z1w k16A) 1 = some k121:=by kernel_rfl
theorem zlw:RoundFit none k16B 2 1 ⟨0,k16Q,z9b,2,default⟩ [[],[]] :=
 ⟨by decide,by rw [show (DRes.n ⟨0,k16Q,z9b,2,default⟩) = 2 from rfl,ztr]; rfl,⟨1,10,z2l z6j (by kernel_rfl),by decide,by decide,by decide,by decide⟩,fun _ => trivial⟩
theorem zx4:CofStep k16Q k121:=⟨⟨1,10,1,10,z2l zer (by kernel_rfl),z2l z7v (by kernel_rfl),.inl (by decide),by decide,by decide,by decide,by decide,by decide⟩,by rw [show z0g k16Q k121 = some k16Q by kernel_rfl]; rfl⟩
theorem zlx:RoundFit none k16A 2 0 ⟨0,k121,k162,1,default⟩ [[],k16Q] :=
 ⟨by decide,by rw [show (DRes.n ⟨0,k121,k162,1,default⟩) = 1 from rfl,zjr]; rfl,⟨1,10,z2l z6i (by kernel_rfl),by decide,by decide,by decide,by decide⟩,fun _ => by
  rw [show (powN (z1w k16A) (DRes.n ⟨0,k121,k162,1,default⟩)).getD [] = k121 by rw [show (DRes.n ⟨0,k121,k162,1,default⟩) = 1 from rfl,zjr]; rfl]
  exact ⟨zx4,fun _ => trivial⟩⟩
theorem zx5:z22 none true k16B 2 1 ⟨0,k16Q,z9b,2,default⟩ [[],[]] = (0,default,[[],k16Q]):=by kernel_rfl
theorem zx6:z31 none true k16L 2 default k16F [[],[]]:=by
 rw [z31,zyq,zys]
 refine ⟨zq1,fun _ _ _ => zlw,fun _ => ?_⟩
 rw [show k16L.length = 2 from rfl,zx5]
 show z31 none true k16L 1 default z9b [[],k16Q]
 rw [z31,zyr,zyt]
 exact ⟨zq2,fun _ _ _ => zlx,fun _ => trivial⟩
end
section
open Go.RowKit
abbrev NX (o:Option Nat) (lo hi:Nat) (W:World):Nat → Prop:=fun k => k < W.heap.size ∧ some k ≠ o ∧ ¬ (lo ≤ k ∧ k < hi)
structure Gx (o:Option Nat) (lo hi:Nat) (W W':World):Prop where
 os:W'.os = W.os
 tape:W'.tape = W.tape
 output:W'.output = W.output
 size:W.heap.size ≤ W'.heap.size
 block:∀ k,k < W.heap.size → some k ≠ o → ¬ (lo ≤ k ∧ k < hi) → W'.heap[k]? = W.heap[k]?
abbrev PX (o:Option Nat) (lo hi:Nat) (W:World) (v:Value) (p:PZ):Prop:=z06 (NX o lo hi W) W v (ofP p)
section
variable {o:Option Nat} {lo hi bd:Nat} {A B C W W':World} {v:Value} {p:PZ} {s:MSt}
theorem Gx.refl (o:Option Nat) (lo hi:Nat) (W:World):Gx o lo hi W W:=⟨rfl,rfl,rfl,Nat.le_refl _,fun _ _ _ _ => rfl⟩
theorem Gx.trans (h:Gx o lo hi A B) (k:Gx o lo hi B C):Gx o lo hi A C :=
 ⟨k.os.trans h.os,k.tape.trans h.tape,k.output.trans h.output,Nat.le_trans h.size k.size,fun i h1 h2 h3 => (k.block i (Nat.lt_of_lt_of_le h1 h.size) h2 h3).trans (h.block i h1 h2 h3)⟩
theorem zyu (h:A.grownBy B o):Gx o lo hi A B:=⟨h.os,h.tape,h.output,h.size,fun k h1 h2 _ => h.block k h1 h2⟩
theorem z9c (h:Ext A B):Gx o lo hi A B:=zyu (z11 h o)
theorem zx7 (h:Gd o bd A B) (h1:lo ≤ bd) (h2:bd < hi):Gx o lo hi A B:=⟨h.os,h.tape,h.output,h.size,fun k k1 k2 k3 => h.block k k1 k2 (fun e => k3 (by rw [e]; exact ⟨h1,h2⟩))⟩
theorem z86 (w:World) {a:Addr} (h1:lo ≤ a.block) (h2:a.block < hi) (u:Value):Gx o lo hi w (w.setCell a u):=⟨rfl,rfl,rfl,by simp [World.setCell],fun k _ _ h3 => Below.heap_setCell _ _ _ _ (fun e => h3 (by rw [e]; exact ⟨h1,h2⟩))⟩
theorem Gx.gb (h:Gx o lo hi A B) (hb:A.heap.size ≤ lo):A.grownBy B o:=⟨h.os,h.tape,h.output,h.size,fun k h1 h2 => h.block k h1 h2 (by omega)⟩
theorem zx8 (g:Gx o lo hi W W'):Kept (NX o lo hi W) W W':=fun k h => g.block k h.1 h.2.1 h.2.2
theorem zx9 (g:W.heap.size ≤ W'.heap.size):∀ k,NX o lo hi W k → NX o lo hi W' k:=fun _ h => ⟨Nat.lt_of_lt_of_le h.1 g,h.2⟩
theorem PX.pv (h:PX o lo hi W v p):PV W v p:=h.to (Kept.refl _ _) (fun _ h => h.1)
theorem PX.pm (h:PX o lo hi W v p):PM o W v p:=h.to (Kept.refl _ _) (fun _ h => ⟨h.1,h.2.1⟩)
theorem PX.on (h:PX o lo hi W v p) (g:Gx o lo hi W W'):PX o lo hi W' v p:=h.to (zx8 g) (zx9 g.size)
theorem PMN.px {N:Nat} (h:PMN N o W v p) (hN:hi ≤ N):PX o lo hi W v p:=h.to (Kept.refl _ _) (fun _ h => ⟨h.2.1,h.2.2,by have:=h.1; omega⟩)
theorem PMN.gx {N:Nat} (h:PMN N o W v p) (hN:hi ≤ N) (g:Gx o lo hi W W'):PMN N o W' v p:=h.to (fun k h => g.block k h.2.1 h.2.2 (by have:=h.1; omega)) (fun k h => ⟨h.1,Nat.lt_of_lt_of_le h.2.1 g.size,h.2.2⟩)
theorem PMN.low {N M:Nat} (h:PMN N o W v p) (hM:M ≤ N):PMN M o W v p:=h.to (Kept.refl _ _) (fun _ h => ⟨Nat.le_trans hM h.1,h.2⟩)
end
theorem MV.gdn {W W':World} {o:Option Nat} {bd:Nat} {s:MSt} (h:MV W o s) (g:Gd (Option.none) bd W W') (hob:∀ b,o = some b → b ≠ bd):MV W' o s:=fun b hb => by
 have h1:=h b hb
 exact ⟨h1.1.grown (r:=some bd) ⟨g.os,g.tape,g.output,g.size,fun j j1 j2 => g.block j j1 (by simp) (fun e => j2 (by rw [e]))⟩ (fun e => hob b hb (Option.some.inj e)),h1.2⟩
structure RestAt (T:TypeId) (w:World) (br bd bp bq m:Nat) (vr:Value) (ns:List Int) (V:Nat → Value):Prop where
 d0:w.cell? ⟨bd,0,none⟩ = some (.slice (some ⟨bp,0,none⟩) m m)
 d1:w.cell? ⟨bd,1,none⟩ = some (.slice (some ⟨bq,0,none⟩) m m)
 d2:w.cell? ⟨bd,2,none⟩ = some vr
 dz:∀ i,w.frozen? ⟨bd,i,none⟩ = false
 r0:w.cell? ⟨br,0,none⟩ = some (.slice none 0 0)
 r1:w.cell? ⟨br,1,none⟩ = some (.slice none 0 0)
 r2:w.cell? ⟨br,2,none⟩ = some (.slice none 0 0)
 rz:∀ i,w.frozen? ⟨br,i,none⟩ = false
 P:w.rowIs bp 3 m (rowI ns)
 Q:w.rowIs bq T m V
def setV (V:Nat → Value) (k:Nat) (x:Value):Nat → Value:=fun j => if j = k then x else V j
structure Own3 (lo hi br bd bp bq:Nat):Prop where
 r:lo ≤ br ∧ br < hi
 d:lo ≤ bd ∧ bd < hi
 p:lo ≤ bp ∧ bp < hi
 q:lo ≤ bq ∧ bq < hi
 rd:br ≠ bd
 rp:br ≠ bp
 rq:br ≠ bq
 dp:bd ≠ bp
 dq:bd ≠ bq
 pq:bp ≠ bq
structure Own (lo hi br bc bd bp bq:Nat):Prop extends Own3 lo hi br bd bp bq where
 c:lo ≤ bc ∧ bc < hi
 rc:br ≠ bc
 cd:bc ≠ bd
 cp:bc ≠ bp
 cq:bc ≠ bq
section
variable {T:TypeId} {w w':World} {o:Option Nat} {lo hi br bc bd bp bq m:Nat} {vr:Value} {ns:List Int} {V:Nat → Value}
theorem RestAt.same (h:RestAt T w br bd bp bq m vr ns V) (e1:w'.heap[br]? = w.heap[br]?) (e2:w'.heap[bd]? = w.heap[bd]?) (e3:w'.heap[bp]? = w.heap[bp]?) (e4:w'.heap[bq]? = w.heap[bq]?):RestAt T w' br bd bp bq m vr ns V:=by
 have hr:∀ i,w'.cell? ⟨br,i,none⟩ = w.cell? ⟨br,i,none⟩:=fun i => World.cell?_of_block e1
 have hd:∀ i,w'.cell? ⟨bd,i,none⟩ = w.cell? ⟨bd,i,none⟩:=fun i => World.cell?_of_block e2
 exact ⟨(hd _).trans h.d0,(hd _).trans h.d1,(hd _).trans h.d2,fun i => (World.frozen?_of_block (w:=w) (a:=⟨bd,i,none⟩) e2).trans (h.dz i),(hr _).trans h.r0,(hr _).trans h.r1,(hr _).trans h.r2,
  fun i => (World.frozen?_of_block (w:=w) (a:=⟨br,i,none⟩) e1).trans (h.rz i),h.P.of_block e3,h.Q.of_block e4⟩
theorem RestAt.lts (h:RestAt T w br bd bp bq m vr ns V):br < w.heap.size ∧ bd < w.heap.size ∧ bp < w.heap.size ∧ bq < w.heap.size:=⟨z0s h.r0,z0s h.d0,h.P.lt,h.Q.lt⟩
theorem RestAt.gb (h:RestAt T w br bd bp bq m vr ns V) (O:Own3 lo hi br bd bp bq) (ho:∀ b,o = some b → b < lo) (g:w.grownBy w' o):RestAt T w' br bd bp bq m vr ns V:=by
 obtain ⟨l1,l2,l3,l4⟩:=h.lts
 have hn:∀ k,lo ≤ k → some k ≠ o:=fun k hk e => by have:=ho k e.symm; omega
 exact h.same (g.block _ l1 (hn _ O.r.1)) (g.block _ l2 (hn _ O.d.1)) (g.block _ l3 (hn _ O.p.1)) (g.block _ l4 (hn _ O.q.1))
theorem RestAt.gdn (h:RestAt T w br bd bp bq m vr ns V) (O:Own lo hi br bc bd bp bq) (g:Gd none bc w w'):RestAt T w' br bd bp bq m vr ns V:=by
 obtain ⟨l1,l2,l3,l4⟩:=h.lts
 exact h.same (g.block _ l1 (by simp) O.rc) (g.block _ l2 (by simp) O.cd.symm) (g.block _ l3 (by simp) O.cp.symm) (g.block _ l4 (by simp) O.cq.symm)
theorem RestAt.gd (h:RestAt T w br bd bp bq m vr ns V) (O:Own lo hi br bc bd bp bq) (ho:∀ b,o = some b → b < lo) (g:Gd o bc w w'):RestAt T w' br bd bp bq m vr ns V:=by
 obtain ⟨l1,l2,l3,l4⟩:=h.lts
 have hn:∀ k,lo ≤ k → some k ≠ o:=fun k hk e => by have:=ho k e.symm; omega
 exact h.same (g.block _ l1 (hn _ O.r.1) O.rc) (g.block _ l2 (hn _ O.d.1) O.cd.symm) (g.block _ l3 (hn _ O.p.1) O.cp.symm) (g.block _ l4 (hn _ O.q.1) O.cq.symm)
theorem z15 (w:World) (a:Addr) (u:Value) {k:Nat} (h:k ≠ a.block):(w.setCell a u).heap[k]? = w.heap[k]?:=Below.heap_setCell _ _ _ _ (fun e => h e)
theorem RestAt.setQ (h:RestAt T w br bd bp bq m vr ns V) (O:Own3 lo hi br bd bp bq) (k:Nat) (x:Value):RestAt T (w.setCell ⟨bq,k,none⟩ x) br bd bp bq m vr ns (setV V k x):=by
 have e1:=z15 w ⟨bq,k,none⟩ x O.rq
 have e2:=z15 w ⟨bq,k,none⟩ x O.dq
 have e3:=z15 w ⟨bq,k,none⟩ x O.pq
 have hr:∀ i,(w.setCell ⟨bq,k,none⟩ x).cell? ⟨br,i,none⟩ = w.cell? ⟨br,i,none⟩:=fun i => World.cell?_of_block e1
 have hd:∀ i,(w.setCell ⟨bq,k,none⟩ x).cell? ⟨bd,i,none⟩ = w.cell? ⟨bd,i,none⟩:=fun i => World.cell?_of_block e2
 exact ⟨(hd _).trans h.d0,(hd _).trans h.d1,(hd _).trans h.d2,fun i => (World.frozen?_of_block (w:=w) (a:=⟨bd,i,none⟩) e2).trans (h.dz i),(hr _).trans h.r0,(hr _).trans h.r1,(hr _).trans h.r2,
  fun i => (World.frozen?_of_block (w:=w) (a:=⟨br,i,none⟩) e1).trans (h.rz i),h.P.of_block e3,h.Q.set k x⟩
theorem RestAt.setP (h:RestAt T w br bd bp bq m vr ns V) (O:Own3 lo hi br bd bp bq) (k:Nat) (z:Int) (hk:k < ns.length):RestAt T (w.setCell ⟨bp,k,none⟩ (.int .i64 z)) br bd bp bq m vr (ns.set k z) V:=by
 have e1:=z15 w ⟨bp,k,none⟩ (.int .i64 z) O.rp
 have e2:=z15 w ⟨bp,k,none⟩ (.int .i64 z) O.dp
 have e4:=z15 w ⟨bp,k,none⟩ (.int .i64 z) O.pq.symm
 have hr:∀ i,(w.setCell ⟨bp,k,none⟩ (.int .i64 z)).cell? ⟨br,i,none⟩ = w.cell? ⟨br,i,none⟩:=fun i => World.cell?_of_block e1
 have hd:∀ i,(w.setCell ⟨bp,k,none⟩ (.int .i64 z)).cell? ⟨bd,i,none⟩ = w.cell? ⟨bd,i,none⟩:=fun i => World.cell?_of_block e2
 exact ⟨(hd _).trans h.d0,(hd _).trans h.d1,(hd _).trans h.d2,fun i => (World.frozen?_of_block (w:=w) (a:=⟨bd,i,none⟩) e2).trans (h.dz i),(hr _).trans h.r0,(hr _).trans h.r1,(hr _).trans h.r2,
  fun i => (World.frozen?_of_block (w:=w) (a:=⟨br,i,none⟩) e1).trans (h.rz i),zjq h.P k z hk,h.Q.of_block e4⟩
theorem RestAt.setD (h:RestAt T w br bd bp bq m vr ns V) (O:Own3 lo hi br bd bp bq) (x:Value):RestAt T (w.setCell ⟨bd,2,none⟩ x) br bd bp bq m x ns V:=by
 have e1:=z15 w ⟨bd,2,none⟩ x O.rd
 have e3:=z15 w ⟨bd,2,none⟩ x O.dp.symm
 have e4:=z15 w ⟨bd,2,none⟩ x O.dq.symm
 have hr:∀ i,(w.setCell ⟨bd,2,none⟩ x).cell? ⟨br,i,none⟩ = w.cell? ⟨br,i,none⟩:=fun i => World.cell?_of_block e1
 exact ⟨z09 h.d0 (ao (by decide)),z09 h.d1 (ao (by decide)),z1h h.d2,fun i => z16 (h.dz i),(hr _).trans h.r0,(hr _).trans h.r1,(hr _).trans h.r2,
  fun i => (World.frozen?_of_block (w:=w) (a:=⟨br,i,none⟩) e1).trans (h.rz i),h.P.of_block e3,h.Q.of_block e4⟩
end
section
open Go.Deep
theorem zxa (w:World) (a b c:Obj):(((w.alloc a).alloc b).alloc c).heap[w.heap.size + 1 + 1]? = some c:=by
 have h:=blk_alloc_new ((w.alloc a).alloc b) c
 rwa [z02,z02] at h
theorem zxb (w:World) (a b c:Obj):(((w.alloc a).alloc b).alloc c).heap[w.heap.size + 1]? = some b:=by
 have h:=blk_alloc_new (w.alloc a) b
 rw [z02] at h
 rw [blk_alloc_lt _ _ _ (by rw [z02,z02]; omega)]
 exact h
theorem zxc (w:World) (a b c:Obj):(((w.alloc a).alloc b).alloc c).heap[w.heap.size]? = some a:=by
 rw [blk_alloc_lt _ _ _ (by rw [z02,z02]; omega),blk_alloc_lt _ _ _ (by rw [z02]; omega)]
 exact blk_alloc_new w a
theorem z9r (w:World) (z a b c:Obj):((((w.alloc z).alloc a).alloc b).alloc c).heap[w.heap.size + 1]? = some a:=by
 have h:=zxc (w.alloc z) a b c
 rwa [z02] at h
theorem z9s (w:World) (z a b c:Obj):((((w.alloc z).alloc a).alloc b).alloc c).heap[w.heap.size + 1 + 1]? = some b:=by
 have h:=zxb (w.alloc z) a b c
 rwa [z02] at h
theorem z9t (w:World) (z a b c:Obj):((((w.alloc z).alloc a).alloc b).alloc c).heap[w.heap.size + 1 + 1 + 1]? = some c:=by
 have h:=zxa (w.alloc z) a b c
 rwa [z02] at h
theorem zq3 {T TD:TypeId} {w Y:World} {br bd bp bq m:Nat} {vf:Value} (r0:w.cell? ⟨br,0,none⟩ = some (.slice none 0 0)) (r1:w.cell? ⟨br,1,none⟩ = some (.slice none 0 0)) (r2:w.cell? ⟨br,2,none⟩ = some (.slice none 0 0)) (rz:∀ i,w.frozen? ⟨br,i,none⟩ = false)
  (hr:Y.heap[br]? = w.heap[br]?) (hd:Y.heap[bd]? = some (.cells #[.slice (some ⟨bp,0,none⟩) m m,.slice (some ⟨bq,0,none⟩) m m,vf] TD)) (hp:Y.heap[bp]? = some (.cells (madeCells #[.int .i64 0] m) 3))
  (hq:Y.heap[bq]? = some (.cells (madeCells #[.slice none 0 0] m) T)):RestAt T Y br bd bp bq m vf (List.replicate m 0) (fun _ => .slice none 0 0):=by
 have hc:∀ i,Y.cell? ⟨br,i,none⟩ = w.cell? ⟨br,i,none⟩:=fun i => World.cell?_of_block hr
 refine ⟨by simp [World.cell?,hd],by simp [World.cell?,hd],by simp [World.cell?,hd],fun i => by simp [World.frozen?,hd],(hc _).trans r0,(hc _).trans r1,(hc _).trans r2,fun i => (World.frozen?_of_block (w:=w) (a:=⟨br,i,none⟩) hr).trans (rz i),?_,?_⟩
 ·exact ⟨_,hp,by simp [size_madeCells],fun i hi => by simp [madeCells,hi,Nat.mod_one,rowI,List.getD_eq_getElem?_getD]⟩
 ·exact ⟨_,hq,by simp [size_madeCells],fun i hi => by simp [madeCells,hi,Nat.mod_one]⟩
theorem zv6 (w:World) (a b c:Obj):Ext w (((w.alloc a).alloc b).alloc c).drew:=((((Ext.refl w).alloc a).alloc b).alloc c).drew
abbrev zcg (w:World) (br m:Nat) (am:Option Addr) (vf s9:Value) (wx:World):Prop:=∃ bd bp bq,s9 = .pointer (some ⟨bd,0,none⟩) ∧ Hid (Own br wx.heap.size br w.heap.size bd bp bq) ∧ Hid (RestAt 23 wx br bd bp bq m vf (List.replicate m 0) (fun _ => .slice none 0 0)) ∧ Hid (CalcAt wx w.heap.size (.pointer am) 0) ∧ Hid (Ext w wx)
theorem zdj {w:World} {br m:Nat} {am:Option Addr} {vf:Value} (hb:br < w.heap.size) (r0:w.cell? ⟨br,0,none⟩ = some (.slice none 0 0)) (r1:w.cell? ⟨br,1,none⟩ = some (.slice none 0 0)) (r2:w.cell? ⟨br,2,none⟩ = some (.slice none 0 0)) (rz:∀ i,w.frozen? ⟨br,i,none⟩ = false)
  {a b c:Obj} {bd bp bq:Nat} (hd:((((w.alloc (.cells #[.pointer am,.int .i64 0] 113)).alloc a).alloc b).alloc c).heap[bd]? = some (.cells #[.slice (some ⟨bp,0,none⟩) m m,.slice (some ⟨bq,0,none⟩) m m,vf] 60)) (hp:((((w.alloc (.cells #[.pointer am,.int .i64 0] 113)).alloc a).alloc b).alloc c).heap[bp]? = some (.cells (madeCells #[.int .i64 0] m) 3))
  (hq:((((w.alloc (.cells #[.pointer am,.int .i64 0] 113)).alloc a).alloc b).alloc c).heap[bq]? = some (.cells (madeCells #[.slice none 0 0] m) 23))
  (ds:w.heap.size < bd ∧ bd < w.heap.size + 4 ∧ w.heap.size < bp ∧ bp < w.heap.size + 4 ∧ w.heap.size < bq ∧ bq < w.heap.size + 4 ∧ bd ≠ bp ∧ bd ≠ bq ∧ bp ≠ bq) :
  zcg w br m am vf (.pointer (some ⟨bd,0,none⟩)) ((((w.alloc (.cells #[.pointer am,.int .i64 0] 113)).alloc a).alloc b).alloc c).drew:=by
 obtain ⟨d1,d2,d3,d4,d5,d6,d7,d8,d9⟩:=ds
 have hs:((((w.alloc (.cells #[.pointer am,.int .i64 0] 113)).alloc a).alloc b).alloc c).drew.heap.size = w.heap.size + 4:=by
  show ((((w.alloc (.cells #[.pointer am,.int .i64 0] 113)).alloc a).alloc b).alloc c).heap.size = _
  rw [z02,z02,z02,z02]
 have hx:Ext w ((((w.alloc (.cells #[.pointer am,.int .i64 0] 113)).alloc a).alloc b).alloc c).drew:=(Ext.alloc (Ext.refl w) _).trans (zv6 _ _ _ _)
 have hx3:=zv6 (w.alloc (.cells #[.pointer am,.int .i64 0] 113)) a b c
 refine ⟨bd,bp,bq,rfl,hid ?_,hid ?_,hid ?_,hid hx⟩
 ·rw [hs]
  exact ⟨⟨by omega,by omega,by omega,by omega,by omega,by omega,by omega,by omega,by omega,by omega⟩,by omega,by omega,by omega,by omega,by omega⟩
 ·exact zq3 r0 r1 r2 rz (hx.block br hb) hd hp hq
 ·exact CalcAt.ext (W:=w.alloc (.cells #[.pointer am,.int .i64 0] 113)) ⟨z04 _ _ _ rfl rfl,z04 _ _ _ rfl rfl,fun i => z56 _ _ _⟩ hx3
section
variable {w:World} {br m:Nat} {am:Option Addr} {vf:Value} (hb:br < w.heap.size) (r0:w.cell? ⟨br,0,none⟩ = some (.slice none 0 0)) (r1:w.cell? ⟨br,1,none⟩ = some (.slice none 0 0)) (r2:w.cell? ⟨br,2,none⟩ = some (.slice none 0 0)) (rz:∀ i,w.frozen? ⟨br,i,none⟩ = false)
include hb r0 r1 r2 rz
theorem zts:zcg w br m am vf (.pointer (some ⟨w.heap.size + 1,0,none⟩)) ((((w.alloc (.cells #[.pointer am,.int .i64 0] 113)).alloc (.cells #[.slice (some ⟨w.heap.size + 1 + 1,0,none⟩) m m,.slice (some ⟨w.heap.size + 1 + 1 + 1,0,none⟩) m m,vf] 60)).alloc (.cells (madeCells #[.int .i64 0] m) 3)).alloc (.cells (madeCells #[.slice none 0 0] m) 23)).drew :=
 zdj hb r0 r1 r2 rz (z9r w _ _ _ _) (z9s w _ _ _ _) (z9t w _ _ _ _) (by omega)
theorem ztt:zcg w br m am vf (.pointer (some ⟨w.heap.size + 1,0,none⟩)) ((((w.alloc (.cells #[.pointer am,.int .i64 0] 113)).alloc (.cells #[.slice (some ⟨w.heap.size + 1 + 1 + 1,0,none⟩) m m,.slice (some ⟨w.heap.size + 1 + 1,0,none⟩) m m,vf] 60)).alloc (.cells (madeCells #[.slice none 0 0] m) 23)).alloc (.cells (madeCells #[.int .i64 0] m) 3)).drew :=
 zdj hb r0 r1 r2 rz (z9r w _ _ _ _) (z9t w _ _ _ _) (z9s w _ _ _ _) (by omega)
theorem ztu:zcg w br m am vf (.pointer (some ⟨w.heap.size + 1 + 1,0,none⟩)) ((((w.alloc (.cells #[.pointer am,.int .i64 0] 113)).alloc (.cells (madeCells #[.int .i64 0] m) 3)).alloc (.cells #[.slice (some ⟨w.heap.size + 1,0,none⟩) m m,.slice (some ⟨w.heap.size + 1 + 1 + 1,0,none⟩) m m,vf] 60)).alloc (.cells (madeCells #[.slice none 0 0] m) 23)).drew :=
 zdj hb r0 r1 r2 rz (z9s w _ _ _ _) (z9r w _ _ _ _) (z9t w _ _ _ _) (by omega)
theorem ztv:zcg w br m am vf (.pointer (some ⟨w.heap.size + 1 + 1,0,none⟩)) ((((w.alloc (.cells #[.pointer am,.int .i64 0] 113)).alloc (.cells (madeCells #[.slice none 0 0] m) 23)).alloc (.cells #[.slice (some ⟨w.heap.size + 1 + 1 + 1,0,none⟩) m m,.slice (some ⟨w.heap.size + 1,0,none⟩) m m,vf] 60)).alloc (.cells (madeCells #[.int .i64 0] m) 3)).drew :=
 zdj hb r0 r1 r2 rz (z9s w _ _ _ _) (z9t w _ _ _ _) (z9r w _ _ _ _) (by omega)
theorem ztw:zcg w br m am vf (.pointer (some ⟨w.heap.size + 1 + 1 + 1,0,none⟩)) ((((w.alloc (.cells #[.pointer am,.int .i64 0] 113)).alloc (.cells (madeCells #[.int .i64 0] m) 3)).alloc (.cells (madeCells #[.slice none 0 0] m) 23)).alloc (.cells #[.slice (some ⟨w.heap.size + 1,0,none⟩) m m,.slice (some ⟨w.heap.size + 1 + 1,0,none⟩) m m,vf] 60)).drew :=
 zdj hb r0 r1 r2 rz (z9t w _ _ _ _) (z9r w _ _ _ _) (z9s w _ _ _ _) (by omega)
theorem ztx:zcg w br m am vf (.pointer (some ⟨w.heap.size + 1 + 1 + 1,0,none⟩)) ((((w.alloc (.cells #[.pointer am,.int .i64 0] 113)).alloc (.cells (madeCells #[.slice none 0 0] m) 23)).alloc (.cells (madeCells #[.int .i64 0] m) 3)).alloc (.cells #[.slice (some ⟨w.heap.size + 1 + 1,0,none⟩) m m,.slice (some ⟨w.heap.size + 1,0,none⟩) m m,vf] 60)).drew :=
 zdj hb r0 r1 r2 rz (z9t w _ _ _ _) (z9s w _ _ _ _) (z9r w _ _ _ _) (by omega)
end
end
section
open Go.Deep
variable {T TD:TypeId}
variable {w:World} {br m:Nat} {vf:Value} (hb:br < w.heap.size) (r0:w.cell? ⟨br,0,none⟩ = some (.slice none 0 0)) (r1:w.cell? ⟨br,1,none⟩ = some (.slice none 0 0)) (r2:w.cell? ⟨br,2,none⟩ = some (.slice none 0 0)) (rz:∀ i,w.frozen? ⟨br,i,none⟩ = false)
include hb r0 r1 r2 rz
end
def CofV (N:Nat) (o:Option Nat) (w:World) (m:Nat) (V:Nat → Value) (cs:List PZ):Prop:=cs.length = m ∧ ∀ i,i < m → PMN N o w (V i) (cs.getD i [])
def zq4 (m:Nat) (V:Nat → Value):Prop:=∀ i,i < m → ∃ a n c,V i = .slice a n c
section
variable {w w':World} {o:Option Nat} {N lo hi m:Nat} {V:Nat → Value} {cs:List PZ}
theorem CofV.form (h:CofV N o w m V cs):zq4 m V:=fun i hi => by obtain ⟨a,c,e⟩:=(h.2 i hi).form; exact ⟨a,_,c,e⟩
theorem CofV.gx (h:CofV N o w m V cs) (hN:hi ≤ N) (g:Gx o lo hi w w'):CofV N o w' m V cs:=⟨h.1,fun i k => PMN.gx (h.2 i k) hN g⟩
theorem CofV.set (h:CofV N o w m V cs) {k:Nat} {x:Value} {p:PZ} (hk:k < m) (hx:PMN N o w x p):CofV N o w m (setV V k x) (cs.set k p):=by
 refine ⟨by rw [List.length_set]; exact h.1,fun i hi => ?_⟩
 unfold setV
 simp only [List.getD_eq_getElem?_getD,List.getElem?_set]
 by_cases e:i = k
 ·subst e
  rw [if_pos rfl,if_pos rfl,if_pos (by rw [h.1]; exact hk)]
  exact hx
 ·rw [if_neg e,if_neg (fun h => e h.symm),← List.getD_eq_getElem?_getD]
  exact h.2 i hi
theorem zq4.set (h:zq4 m V) (k:Nat) {x:Value} (hx:∃ a n c,x = .slice a n c):zq4 m (setV V k x):=fun i hi => by
 unfold setV
 split
 ·exact hx
 ·exact h i hi
theorem CofV.polys {bq:Nat} {T:TypeId} (h:CofV N o w m V cs) (hr:w.rowIs bq T m V) (hm:m ≤ maxLen) {S:Nat → Prop} (hS:∀ k,N ≤ k ∧ NB o w k → S k) (hq:S bq):z1r S w (.slice (some ⟨bq,0,none⟩) m m) (cs.map ofP):=by
 refine ⟨bq,0,⟨_,m,by rw [List.length_map,h.1],by rw [List.length_map,h.1]; exact Nat.le_refl _,hm,fun _ => rfl,fun _ => hq⟩,fun j p hj => ?_⟩
 have hl:=z05 hj
 rw [List.length_map,h.1] at hl
 rw [zcb (by rw [h.1]; exact hl)] at hj
 obtain rfl:=Option.some.inj hj
 exact ⟨V j,by rw [Nat.zero_add]; exact hr.cell hl,(h.2 j hl).to (Kept.refl _ _) hS⟩
end
end
section
open Go.RowKit Go.Sort
section
variable {α:Type} [Inhabited α] {pc:α → PCell} {w:World} {b o:Nat} {cf:α → α → Int} {le:α → α → Bool}
end
end
section
open Go.RowKit Go.Sort
section
variable {α:Type} [Inhabited α] {pc:α → PCell} {w:World} {b o:Nat}
end
end
section
open Go.RowKit Go.Sort
section
variable {α:Type} [Inhabited α] {pc:α → PCell} {w:World} {b o:Nat} {cf:α → α → Int} {le:α → α → Bool}
end
end
section
open Go.RowKit Go.Sort
section
variable {α:Type} [Inhabited α] {pc:α → PCell} {w:World} {b o:Nat} {cf:α → α → Int} {le:α → α → Bool}
end
end
section
open Go.RowKit Go.Sort
section
variable {α:Type} [Inhabited α] {pc:α → PCell} {w:World} {b o:Nat} {cf:α → α → Int} {le:α → α → Bool}
end
end
section
open Go.RowKit Go.Sort
def zv7 (S:Nat → Prop) (w:World) (xs:List Value) (l:List (List RTerm)):Prop:=xs.length = l.length ∧ ∀ (j:Nat) (p:List RTerm),l[j]? = some p → ∃ vp,xs[j]? = some vp ∧ z06 S w vp p
theorem z1r.nilv (S:Nat → Prop) (w:World) (a:Option Addr) (cap:Nat) (h:cap ≤ 9223372036854775807):z1r S w (.slice a 0 cap) [] :=
 ⟨0,0,⟨a,cap,rfl,Nat.zero_le _,h,fun h => absurd h (Nat.lt_irrefl 0),fun h => absurd h (Nat.lt_irrefl 0)⟩,fun j t hj => by simp at hj⟩
theorem zq5 {S:Nat → Prop} {w:World} {base:Nat} {e:TypeId} {v:Value} {xs:List Value} {l:List (List RTerm)} (h:w.ownsRow base e 1 v l.length xs) (hc:zv7 S w xs l) (hB:∀ k,base ≤ k → k < w.heap.size → S k):z1r S w v l:=by
 have hlt:=h.lt
 rcases h.2 with ⟨rfl,h0⟩ | ⟨g,cap,cur,rfl,hg,hh,h1,h2,h3,h4⟩
 ·obtain rfl:l = []:=List.length_eq_zero_iff.1 h0
  exact z1r.nilv _ _ _ _ (by decide)
 ·refine ⟨g,0,⟨_,cap,rfl,h1,h2,fun _ => rfl,fun _ => hB g (hlt g rfl).1 (hlt g rfl).2⟩,fun j t hj => ?_⟩
  obtain ⟨vp,g1,g2⟩:=hc.2 j t hj
  have hb:=z05 hj
  refine ⟨vp,?_,g2⟩
  rw [h.cellAt (0 + j) (by omega),Nat.zero_add]
  exact g1
theorem Tryz.infoPoly:(Tryz.prog.info? 23).map (fun i => (i.zero,i.size,i.bytes)) = some (some (.slice none 0 0),1,24):=by kernel_rfl
section
variable {w w1 w2:World} {o:Value} {e:TypeId} {size n:Nat} {xs:List Value}
end
structure PolyIn (S:Nat → Prop) (w:World) where
 t:List RTerm
 c:PCell
 h:z06 S w (.slice c.a c.n c.c) t
 small:z3r t
instance (S:Nat → Prop) (w:World):Inhabited (PolyIn S w):=⟨⟨[],⟨none,0,0⟩,z06.nilv _ _ _ _ (by decide),fun t ht => by simp at ht⟩⟩
section
variable {S:Nat → Prop} {w:World}
end
end
end Go.Proofs.YtdcijfhkfhhfjaaGreat
