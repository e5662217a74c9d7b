/- ChainPoints holds: at a point at which all of the chain are 0, and no initial is, the polynomial is 0 just where the rest is; the law answers true, and its arguments read as they did. No condition. -/
import Derived.Test.YtdcijfhkfhhfjaaGreatPt12
set_option maxRecDepth 100000
set_option maxHeartbeats 16000000
namespace Go.Proofs.YtdcijfhkfhhfjaaGreat
section
open Go.RowKit Go.Deep
theorem zus {o:Option Nat} {ls:List PZ}:∀ (k:Nat) (s:MSt) (r:PZ) (ns:List Int),(redD o ls k s r ns).1 ≠ 0 → (redD o ls k s r ns).2.2 = ([],[]):=by
 intro k
 induction k with
 | zero => intro s r ns h; exact absurd rfl h
 | succ k ih =>
  intro s r ns h
  by_cases h1:(divD o false s r (ls.getD k []) (z0t (ls.getD k []))).e ≠ 0
  ·simp only [redD,if_pos h1]
  ·simp only [redD,if_neg h1] at h ⊢
   exact ih _ _ _ h
theorem zhe {W:World} {vf vl vq:Value} {f:List RTerm} {l:List (List RTerm)} {pts:List (RInt × RInt)} (hf:z06 (Old W) W vf f) (hl:z1r (Old W) W vl l) (hq:Rats (Old W) W vq pts) (ml:l.length ≤ 5864062014800) :
  Calls Tryz.prog 3 #[vf,vl,vq] W fun e W' => e = .returned (.bool true) ∧ Ext W W':=by
 have hnot:∀ (x:Bool) (w:World),(Op.unary .not (.bool x)).run Tryz.prog w = .ok (.bool (!x)) w:=fun _ _ => rfl
 have HF:=hid hf
 have HL:=hid hl
 have HQ:=hid hq
 have hqb:=hq.len_le
 obtain ⟨af,cf,rfl⟩:=hf.form
 obtain ⟨al,cl,rfl⟩:=hl.form
 obtain ⟨aq,cq,rfl⟩:=hq.form
 obtain ⟨nf,hnf⟩:∃ n,n = f.length:=⟨_,rfl⟩
 obtain ⟨nl,hnl⟩:∃ n,n = l.length:=⟨_,rfl⟩
 obtain ⟨nq,hnq⟩:∃ n,n = pts.length:=⟨_,rfl⟩
 rw [← hnf] at HF ⊢
 rw [← hnl] at HL ml ⊢
 rw [← hnq] at HQ hqb ⊢
 have HN:=hid (And.intro hnf (And.intro hnl hnq))
 have HML:=hid ml
 have CN:=hid (fun Y => zw9 12 1000 1000 0 Y)
 clear hf hl hq hnf hnl hnq
 go_enter Tryz.func3,Tryz.ntmps3
 go_wp2_with (first | (at_builtin; refine z9e _ rfl (.tmp 24) (.tmp 25) rfl (.slice af nf cf) al nl cl f l rfl rfl HF.out HL.out (fun _ h => h) HML.out ?_; intro v1 w1 hp1 hx1; have HP1:=hid (hp1.to (S':=Old w1) (Kept.refl _ _) (z2s (fun _ h => h) hx1)); have HX1:=hid hx1; obtain ⟨a1,c1,rfl⟩:=hp1.form; obtain ⟨n1,hn1⟩:∃ n,n = (f :: l).length:=⟨_,rfl⟩; rw [← hn1] at HP1; rw [← hn1]; clear hp1 hx1 hn1))
 have C:=zih (S:=Old w1) _ _ HP1.out (fun _ h => h)
 cases hg:z4d (f :: l) with
 | true =>
  rw [hg] at C
  have HC1:=hid C
  clear C hg
  with_reducible refine HC1.out.mono ?_
  rintro e w2 ⟨rfl,hx2⟩
  have HX2:=hid (HX1.out.trans hx2)
  clear hx2
  go_wp2_with fail
  with_reducible refine (z1f _).mono ?_
  rintro e w3 ⟨rfl,hx3⟩
  have HX3:=hid (HX2.out.trans hx3)
  clear hx3
  go_wp2
  all_goals
   go_ret
   exact ⟨rfl,HX3.out⟩
 | false =>
  have HG1:=hid (zm2 hg)
  rw [hg] at C
  have HC1:=hid C
  clear C hg
  by_cases h4:nq ≤ 4
  rotate_left
  ·with_reducible refine HC1.out.mono ?_
   rintro e w2 ⟨rfl,hx2⟩
   have HX2:=hid (HX1.out.trans hx2)
   have h5:(4:Int) < (nq:Int):=by omega
   clear hx2
   go_wp2_with fail
   with_reducible refine (z1f _).mono ?_
   rintro e w3 ⟨rfl,hx3⟩
   have HX3:=hid (HX2.out.trans hx3)
   clear hx3
   go_wp2
   all_goals
    go_ret
    exact ⟨rfl,HX3.out⟩
  with_reducible refine HC1.out.mono ?_
  rintro e w2 ⟨rfl,hx2⟩
  have HX2:=hid (HX1.out.trans hx2)
  have h5:(nq:Int) ≤ 4:=by omega
  clear hx2
  go_wp2
  go_loop [36] (fun i => ∃ k:Nat,k ≤ nq ∧ i = .int .i64 (k:Nat) ∧ Hid (∀ x ∈ pts.take k,x.1.mag.length ≤ 2 ∧ x.2.mag.length ≤ 2)) (fun i => nq - (intOf i).toNat)
  case atStart => exact ⟨0,Nat.zero_le _,rfl,fun x hx => by simp at hx⟩
  case round =>
   obtain ⟨k,hk,rfl,HK⟩:=hrel
   by_cases hlt:k < nq
   ·obtain ⟨r,hr⟩:=z01 (l:=pts) (j:=k) (by rw [← HN.out.2.2]; exact hlt)
    obtain ⟨bq,oq,vqn,vqd,rfl,hq1,hq2,-,q0,q1,q2,q3,q4,q5⟩:=(HQ.out.on HX2.out).cellAt hr
    obtain ⟨an,cn,rfl⟩:=q4.form
    obtain ⟨adn,cdn,rfl⟩:=q5.form
    have HTS:=hid (z80 hr)
    obtain ⟨n1',hn1'⟩:∃ n,n = r.1.mag.length:=⟨_,rfl⟩
    obtain ⟨n2',hn2'⟩:∃ n,n = r.2.mag.length:=⟨_,rfl⟩
    rw [← hn1'] at q1
    rw [← hn2'] at q3
    have q3':w2.cell? ⟨bq,oq + k * 4 + 2 + 1,none⟩ = some (.slice adn n2' cdn):=q3
    have HNN:=hid (And.intro hn1' hn2')
    clear hr q4 q5 hn1' hn2' q0 q2 q3
    by_cases h6:2 < n1'
    ·have h7:(2:Int) < (n1':Int):=by omega
     go_wp2_with fail
     with_reducible refine (z1f _).mono ?_
     rintro e w3 ⟨rfl,hx3⟩
     have HX3:=hid (HX2.out.trans hx3)
     clear hx3
     go_wp2
     all_goals
      go_ret
      exact ⟨rfl,HX3.out⟩
    ·have h7:(n1':Int) ≤ 2:=by omega
     by_cases h8:2 < n2'
     ·have h9:(2:Int) < (n2':Int):=by omega
      go_wp2_with fail
      with_reducible refine (z1f _).mono ?_
      rintro e w3 ⟨rfl,hx3⟩
      have HX3:=hid (HX2.out.trans hx3)
      clear hx3
      go_wp2
      all_goals
       go_ret
       exact ⟨rfl,HX3.out⟩
     ·have h9:(n2':Int) ≤ 2:=by omega
      go_wp2
      go_round
      case rel =>
       refine ⟨k + 1,by omega,by go_num,?_⟩
       show ∀ x ∈ pts.take (k + 1),_
       rw [HTS.out]
       intro x hx
       rcases List.mem_append.1 hx with hx | hx
       ·exact HK.out x hx
       ·obtain rfl:=List.mem_singleton.1 hx
        have h:=HNN.out
        omega
      case measure => simp only [intOf]; omega
   ·obtain rfl:k = nq:=by omega
    have HPT:Hid (PtFit pts):=hid ⟨by rw [← HN.out.2.2]; omega,fun x hx => by
     have h:=HK.out x (by rw [List.take_of_length_le (by rw [← HN.out.2.2]; exact Nat.le_refl _)]; exact hx)
     omega⟩
    clear hlt hk
    go_wp2_with fail
    with_reducible refine (CN.out _).mono ?_
    rintro e w4 ⟨hx4,hy4⟩
    have HX4:=hid (HX2.out.trans hx4)
    rcases hy4 with ⟨-,kb,hkb,hmat,rfl⟩ | ⟨hno,rfl⟩
    rotate_left
    ·exact absurd zau hno
    have HMT:=hid hmat
    have HKK:=hid (And.intro (Nat.le_trans HX2.out.size hkb) (z0s hmat.c0))
    clear hx4 hkb hmat
    have HSM:Hid (z3r f ∧ z70 l):=hid ⟨zqb (HG1.out.1 f List.mem_cons_self),fun p hp => zqb (HG1.out.1 p (List.mem_cons_of_mem _ hp))⟩
    cases hmm:mayT f && mayC 0 l with
    | false =>
     have CR:=zch (W:=w4) (vm:=.pointer (some ⟨kb,0,none⟩)) ⟨_,rfl⟩ (z06.on HF.out HX4.out) (z1r.on HL.out HX4.out) HSM.out.1 HSM.out.2 hmm
     have HCR:=hid CR
     clear CR hmm
     go_wp2_with fail
     with_reducible refine HCR.out.mono ?_
     rintro e w9 ⟨rfl,hx9⟩
     have HX9:=hid (HX4.out.trans hx9)
     clear hx9
     go_wp2_with fail
     with_reducible refine (z1f _).mono ?_
     rintro e w14 ⟨rfl,hx14⟩
     have HX14:=hid (HX9.out.trans hx14)
     clear hx14
     go_wp2
     all_goals
      go_ret
      exact ⟨rfl,HX14.out⟩
    | true =>
     have HPA:=hid (zha HF.out HL.out hmm)
     have HPF0:=hid (zqc HPA.out.okf (HG1.out.1 f List.mem_cons_self))
     have HPL0:Hid (∀ p ∈ l.map z0q,Fit 3 6 p ∧ exB 4 p):=hid (fun p hp => by
      obtain ⟨t,ht,rfl⟩:=List.mem_map.1 hp
      exact zqc (HPA.out.okl t ht) (HG1.out.1 t (List.mem_cons_of_mem _ ht)))
     obtain ⟨F,hF⟩:∃ F,F = z0q f:=⟨_,rfl⟩
     obtain ⟨L,hL⟩:∃ L,L = l.map z0q:=⟨_,rfl⟩
     rw [← hF] at HPF0 HPA
     rw [← hL] at HPL0 HPA
     have HPF:=hid HPF0.out
     have HPL:=hid HPL0.out
     have HLN:Hid (L.length = nl):=hid (by rw [hL,List.length_map]; exact HN.out.2.1.symm)
     obtain ⟨s0,hs0⟩:∃ s,s = MSt.new 12 1000 1000 0:=⟨_,rfl⟩
     rw [← hs0] at HMT
     have HOK0:Hid s0.Ok:=hid (by rw [hs0]; exact zq7 zau)
     have HRT:Hid (z31 (some kb) false L L.length s0 F (List.replicate L.length [])):=hid (by rw [hs0]; exact (zza false zau (by decide) HPF.out.1 HPF.out.2 HPL.out HPA.out.hz).1)
     have HL4:Hid (L.length ≤ 5):=hid (by rw [HLN.out,HN.out.2.1]; have:=HG1.out.2; simp at this; omega)
     have HSL:Hid (z70 (L.map ofP)):=hid (by rw [HPA.out.el]; exact HSM.out.2)
     have HLO:Hid (z1r (Old W) W (.slice al nl cl) (L.map ofP)):=hid (by rw [HPA.out.el]; exact HL.out)
     have HFO:Hid (z06 (Old W) W (.slice af nf cf) (ofP F)):=hid (by rw [← HPA.out.ef]; exact HF.out)
     have CD:=zh4 (W:=w4) (o:=some kb) (s:=s0) (f:=F) (ls:=L) (A:=3) (T:=6) (vf:=.slice af nf cf) (vl:=.slice al nl cl) (fun j hj => by cases hj; exact ⟨HMT.out,HOK0.out⟩)
      (HFO.out.to (Kept.ext HX4.out (fun _ h => h)) (fun i hi => ⟨Nat.lt_of_lt_of_le hi HX4.out.size,fun e => by have h1:i < W.heap.size:=hi; have h2:=Option.some.inj e; have h3:=HKK.out.1; omega⟩))
      (HLO.out.to (Kept.ext HX4.out (fun _ h => h)) (fun i hi => ⟨Nat.lt_of_lt_of_le hi HX4.out.size,fun e => by have h1:i < W.heap.size:=hi; have h2:=Option.some.inj e; have h3:=HKK.out.1; omega⟩))
      HPF.out.1 (by decide) (by decide) HSL.out HPA.out.hc (Nat.le_trans HL4.out (by decide)) (z31.red _ HRT.out)
     have HRX:Hid ((redD (some kb) L L.length s0 F (List.replicate L.length 0)).1 = 0 → Fit 50 100000 (redD (some kb) L L.length s0 F (List.replicate L.length 0)).2.2.1 ∧ exB 52 (redD (some kb) L L.length s0 F (List.replicate L.length 0)).2.2.1):=hid (by
      rw [hs0]
      exact zzk zau (by decide) HPF.out.1 HPF.out.2 HPL.out HPA.out.hz)
     have HCH:Hid (Chain16 L):=hid (zuo (fun p hp => (HPL.out p hp).1.can) HPA.out.hz)
     have HPS:Hid ((redD (some kb) L L.length s0 F (List.replicate L.length 0)).1 = 0 → (∀ p ∈ L,OkAt pts p) → (sgE pts F).2 = 0 → (sgE pts (redD (some kb) L L.length s0 F (List.replicate L.length 0)).2.2.1).2 = 0 → ((sgE pts F).1 = 0 ↔ (sgE pts (redD (some kb) L L.length s0 F (List.replicate L.length 0)).2.2.1).1 = 0)):=hid (zur HCH.out HPF.out.1.can)
     have HEX:=hid (zus (o:=some kb) (ls:=L) L.length s0 F (List.replicate L.length 0))
     obtain ⟨Z,hZ⟩:∃ Z,Z = redD (some kb) L L.length s0 F (List.replicate L.length 0):=⟨_,rfl⟩
     rw [← hZ] at CD HRX HPS HEX
     have HCD:Hid (Calls Tryz.prog 7 #[.pointer (some ⟨kb,0,none⟩),.slice af nf cf,.slice al nl cl] w4 (zpz w4 (some kb) Z)):=hid CD
     clear hmm hF hL hs0 hZ CD
     go_wp2_with fail
     with_reducible refine HCD.out.mono ?_
     rintro e w11 ⟨vr2,vn2,rfl,hm11,hg11,hr11,hp11⟩
     have HG11:=hid hg11
     have HR11:=hid hr11
     obtain ⟨ar2,cr2,rfl⟩:=hr11.form
     obtain ⟨ap2,cp2,rfl⟩:=hp11.form
     obtain ⟨nr2,hnr2⟩:∃ n,n = (ofP Z.2.2.1).length:=⟨_,rfl⟩
     obtain ⟨np2,hnp2⟩:∃ n,n = Z.2.2.2.length:=⟨_,rfl⟩
     obtain ⟨ze,hze⟩:∃ z,z = Z.1:=⟨_,rfl⟩
     rw [← hnr2] at HR11 ⊢
     rw [← hnp2]
     rw [← hze]
     have HZE:=hid hze
     have HS11:Hid (W.heap.size ≤ w11.heap.size):=hid (Nat.le_trans HX4.out.size hg11.size)
     have HKE:Hid (Kept (Old W) W w11):=hid (fun i hi => (hg11.block i (Nat.lt_of_lt_of_le hi HX4.out.size) (fun e => by have h1:i < W.heap.size:=hi; have h2:=Option.some.inj e; have h3:=HKK.out.1; omega)).trans (HX4.out.block i hi))
     have HWX:Hid (Ext W w11):=hid ⟨hg11.os.trans HX4.out.os,hg11.tape.trans HX4.out.tape,hg11.output.trans HX4.out.output,HS11.out,HKE.out⟩
     have HRR:Hid (z06 (Old w11) w11 (.slice ar2 nr2 cr2) (ofP Z.2.2.1)):=hid (HR11.out.to (S':=Old w11) (Kept.refl _ _) (fun i hi => hi.2.1))
     have HQ11:=hid (HQ.out.on HWX.out)
     clear hm11 hg11 hr11 hp11 hze hnr2 hnp2
     by_cases hxz:ze = 0
     rotate_left
     ·have q1:(ze == 0) = false:=by rw [beq_eq_false_iff_ne]; exact hxz
      have q2:(ze != 0) = true:=by rw [bne_iff_ne]; exact hxz
      go_wp2_with fail
      with_reducible refine (z1f _).mono ?_
      rintro e w14 ⟨rfl,hx14⟩
      have HX14:=hid (HWX.out.trans hx14)
      clear hx14
      go_wp2
      all_goals
       go_ret
       exact ⟨rfl,HX14.out⟩
     have hz0:Z.1 = 0:=HZE.out.symm.trans hxz
     subst hxz
     have HRF:=hid (HRX.out hz0)
     have HPZ:=hid (HPS.out hz0)
     clear hz0
     go_wp2
     go_loopw [77] (fun i wr => ∃ k:Nat,k ≤ nl ∧ i = .int .i64 (k:Nat) ∧ Ext w11 wr ∧ Hid (∀ p ∈ L.take k,OkAt pts p)) (fun i _ => nl - (intOf i).toNat)
     case atStart => exact ⟨0,Nat.zero_le _,rfl,Ext.refl _,fun x hx => by simp at hx⟩
     case round =>
      obtain ⟨k,hk,rfl,hx,HOK⟩:=hrel
      have HX:=hid hx
      have HWR:=hid (HWX.out.trans hx)
      by_cases hlt:k < nl
      ·obtain ⟨P,hP⟩:=z01 (l:=L) (j:=k) (by rw [HLN.out]; exact hlt)
       have hPo:(L.map ofP)[k]? = some (ofP P):=by rw [List.getElem?_map,hP]; rfl
       obtain ⟨bl,ol,vp,rfl,-,hl2,hl3,hl4,hl5,hl6⟩:=(HLO.out.on HWR.out).cellAt hPo
       have HTS:=hid (z80 hP)
       have HPP:=hid (HPL.out P (List.mem_of_getElem? hP))
       have fP:Fit 50 100000 P:=HPP.out.1.mono (by decide) (by decide)
       have xP:exB 52 P:=HPP.out.2.le (by decide)
       have iP:exB 52 (z1w P):=xP.init (by decide)
       have C1:=hid (z81 hl6 (HQ.out.on HWR.out) HPT.out fP xP)
       have C2:=hid (fun (Y:World) (hY:Ext wr Y) => zc6 (z06.on hl6 hY) fP (by decide) (by decide))
       have C3:=hid (fun (Y:World) (v:Value) (hY:Ext wr Y) (hv:z06 (Old Y) Y v (ofP (z1w P))) => z81 hv (HQ.out.on (HWR.out.trans hY)) HPT.out fP.init iP)
       obtain ⟨ap,cp,rfl⟩:=hl6.form
       obtain ⟨np,hnp⟩:∃ n,n = (ofP P).length:=⟨_,rfl⟩
       rw [← hnp] at C1 C2 hl5
       obtain ⟨a,ha⟩:∃ z,z = (sgE pts P).1:=⟨_,rfl⟩
       obtain ⟨h,hh⟩:∃ z,z = (sgE pts P).2:=⟨_,rfl⟩
       obtain ⟨b,hb⟩:∃ z,z = (sgE pts (z1w P)).1:=⟨_,rfl⟩
       obtain ⟨j,hj⟩:∃ z,z = (sgE pts (z1w P)).2:=⟨_,rfl⟩
       rw [← ha,← hh] at C1
       rw [← hb,← hj] at C3
       have HV:=hid (And.intro ha (And.intro hh (And.intro hb hj)))
       clear hP hPo hl6 hnp ha hh hb hj fP xP iP hx hl4
       go_wp2_with fail
       with_reducible refine C1.out.mono ?_
       rintro e w12 ⟨rfl,hx12⟩
       have HX12:=hid hx12
       clear hx12
       go_wp2_with fail
       with_reducible refine (C2.out _ HX12.out).mono ?_
       rintro e w13 ⟨v13,rfl,ht13,hx13⟩
       have HX13:=hid (HX12.out.trans hx13)
       have C3':=hid (C3.out w13 v13 HX13.out (ht13.to (Kept.refl _ _) New.lt))
       obtain ⟨a13,c13,rfl⟩:=ht13.form
       obtain ⟨n13,hn13⟩:∃ n,n = (ofP (z1w P)).length:=⟨_,rfl⟩
       rw [← hn13] at C3' ⊢
       clear ht13 hx13 hn13
       go_wp2_with fail
       with_reducible refine C3'.out.mono ?_
       rintro e w15 ⟨rfl,hx15⟩
       have HX15:=hid (HX13.out.trans hx15)
       have HW15:=hid (HWR.out.trans HX15.out)
       clear hx15
       by_cases e1:h = 0
       rotate_left
       ·have q1:(h == 0) = false:=by rw [beq_eq_false_iff_ne]; exact e1
        have q2:(h != 0) = true:=by rw [bne_iff_ne]; exact e1
        clear e1
        go_wp2_with fail
        with_reducible refine (z1f _).mono ?_
        rintro e w16 ⟨rfl,hx16⟩
        have HX16:=hid (HW15.out.trans hx16)
        clear hx16
        go_wp2
        all_goals
         go_ret
         exact ⟨rfl,HX16.out⟩
       subst e1
       by_cases e2:j = 0
       rotate_left
       ·have q1:(j == 0) = false:=by rw [beq_eq_false_iff_ne]; exact e2
        have q2:(j != 0) = true:=by rw [bne_iff_ne]; exact e2
        clear e2
        go_wp2_with fail
        with_reducible refine (z1f _).mono ?_
        rintro e w16 ⟨rfl,hx16⟩
        have HX16:=hid (HW15.out.trans hx16)
        clear hx16
        go_wp2
        all_goals
         go_ret
         exact ⟨rfl,HX16.out⟩
       subst e2
       by_cases e3:a = 0
       rotate_left
       ·have q1:(a == 0) = false:=by rw [beq_eq_false_iff_ne]; exact e3
        have q2:(a != 0) = true:=by rw [bne_iff_ne]; exact e3
        clear e3
        go_wp2_with fail
        with_reducible refine (z1f _).mono ?_
        rintro e w16 ⟨rfl,hx16⟩
        have HX16:=hid (HW15.out.trans hx16)
        clear hx16
        go_wp2
        all_goals
         go_ret
         exact ⟨rfl,HX16.out⟩
       subst e3
       by_cases e4:b = 0
       ·subst e4
        go_wp2_with fail
        with_reducible refine (z1f _).mono ?_
        rintro e w16 ⟨rfl,hx16⟩
        have HX16:=hid (HW15.out.trans hx16)
        clear hx16
        go_wp2
        all_goals
         go_ret
         exact ⟨rfl,HX16.out⟩
       have q1:(b == 0) = false:=by rw [beq_eq_false_iff_ne]; exact e4
       have HE4:=hid e4
       clear e4
       go_wp2
       go_roundw
       case rel =>
        refine ⟨k + 1,by omega,by go_num,HX.out.trans HX15.out,?_⟩
        show ∀ x ∈ L.take (k + 1),_
        rw [HTS.out]
        intro x hx
        rcases List.mem_append.1 hx with hx | hx
        ·exact HOK.out x hx
        ·obtain rfl:=List.mem_singleton.1 hx
         obtain ⟨v1,v2,v3,v4⟩:=HV.out
         exact ⟨v1.symm,v2.symm,by rw [← v3]; exact HE4.out,v4.symm⟩
       case measure => simp only [intOf]; omega
      ·obtain rfl:k = nl:=by omega
       have HOA:Hid (∀ p ∈ L,OkAt pts p):=hid (by have h:=HOK.out; rwa [List.take_of_length_le (by rw [HLN.out]; exact Nat.le_refl _)] at h)
       have HPF2:=hid (HPZ.out HOA.out)
       have fF:Fit 50 100000 F:=HPF.out.1.mono (by decide) (by decide)
       have xF:exB 52 F:=HPF.out.2.le (by decide)
       have C1:=hid (z81 (HFO.out.on HWR.out) (HQ.out.on HWR.out) HPT.out fF xF)
       have C2:=hid (fun (Y:World) (hY:Ext wr Y) => z81 (z06.on HRR.out (HX.out.trans hY)) (HQ.out.on (HWR.out.trans hY)) HPT.out HRF.out.1 HRF.out.2)
       obtain ⟨a,ha⟩:∃ z,z = (sgE pts F).1:=⟨_,rfl⟩
       obtain ⟨h,hh⟩:∃ z,z = (sgE pts F).2:=⟨_,rfl⟩
       obtain ⟨b,hb⟩:∃ z,z = (sgE pts Z.2.2.1).1:=⟨_,rfl⟩
       obtain ⟨j,hj⟩:∃ z,z = (sgE pts Z.2.2.1).2:=⟨_,rfl⟩
       rw [← ha,← hh] at C1
       rw [← hb,← hj] at C2
       rw [← ha,← hh,← hb,← hj] at HPF2
       clear ha hh hb hj fF xF hx hlt
       go_wp2_with fail
       with_reducible refine C1.out.mono ?_
       rintro e w12 ⟨rfl,hx12⟩
       have HX12:=hid hx12
       clear hx12
       go_wp2_with fail
       with_reducible refine (C2.out _ HX12.out).mono ?_
       rintro e w13 ⟨rfl,hx13⟩
       have HX13:=hid (HWR.out.trans (HX12.out.trans hx13))
       clear hx13
       by_cases e1:h = 0
       rotate_left
       ·have q1:(h == 0) = false:=by rw [beq_eq_false_iff_ne]; exact e1
        have q2:(h != 0) = true:=by rw [bne_iff_ne]; exact e1
        clear e1
        go_wp2_with fail
        with_reducible refine (z1f _).mono ?_
        rintro e w16 ⟨rfl,hx16⟩
        have HX16:=hid (HX13.out.trans hx16)
        clear hx16
        go_wp2
        all_goals
         go_ret
         exact ⟨rfl,HX16.out⟩
       subst e1
       by_cases e2:j = 0
       rotate_left
       ·have q1:(j == 0) = false:=by rw [beq_eq_false_iff_ne]; exact e2
        have q2:(j != 0) = true:=by rw [bne_iff_ne]; exact e2
        clear e2
        go_wp2_with fail
        with_reducible refine (z1f _).mono ?_
        rintro e w16 ⟨rfl,hx16⟩
        have HX16:=hid (HX13.out.trans hx16)
        clear hx16
        go_wp2
        all_goals
         go_ret
         exact ⟨rfl,HX16.out⟩
       subst e2
       have HAB:=hid (HPF2.out rfl rfl)
       by_cases e3:a = 0
       ·have e4:b = 0:=HAB.out.1 e3
        subst e3
        subst e4
        go_wp2_with fail
        with_reducible refine (z1f _).mono ?_
        rintro e w16 ⟨rfl,hx16⟩
        have HX16:=hid (HX13.out.trans hx16)
        clear hx16
        go_wp2
        all_goals
         go_ret
         exact ⟨rfl,HX16.out⟩
       ·have e4:b ≠ 0:=fun e => e3 (HAB.out.2 e)
        have q1:(a == 0) = false:=by rw [beq_eq_false_iff_ne]; exact e3
        have q2:(b == 0) = false:=by rw [beq_eq_false_iff_ne]; exact e4
        clear e3 e4
        go_wp2_with fail
        with_reducible refine (z1f _).mono ?_
        rintro e w16 ⟨rfl,hx16⟩
        have HX16:=hid (HX13.out.trans hx16)
        clear hx16
        go_wp2
        all_goals
         go_ret
         exact ⟨rfl,HX16.out⟩
end
section
open Go.RowKit Go.Deep Go.ChangeShapes Go.WideShapes Go.ChangeAt
theorem zcq (os:Os) (started:os.Started) (H:Type) (enc:TypeId × Value → H) :
  ReturnsInHanded {} Tryz.checked os 3 .any (Rows.chainPointsSpec.pre6 enc Tryz.prog Tryz.f3 Rows.chainPointsRow.domain false) (Rows.chainPointsSpec.post enc Tryz.prog Tryz.f3 false true false false):=by
 refine returnsInHanded_of_change_sized (C:=Tryz.checked) Tryz.own started (by kernel_rfl) Tryz.func3
  (ChangeSpec.witness6 (enc:=enc) (C:=Tryz.checked) false ⟨#[],#[.slice none 0 0,.slice none 0 0,.slice none 0 0],[]⟩ 8 (by kernel_rfl) (by kernel_rfl) (by kernel_rfl) (by kernel_rfl)) ?_
 intro W base args ds gs before hval0 hW _ hsz _
 have hval:∀ (j:Nat) t v,Tryz.f3.params[j]? = some t → args[j]? = some v → Value.okWide Tryz.prog W .any base t v:=hval0
 have hW':=hW
 obtain ⟨p,q,hA0,hV,_,_,_⟩:=hW'
 have hA:DataW.TrodAll enc Tryz.prog W 0 (fun _ => true) true Tryz.f3.params.toList args.toList ds p:=hA0
 rw [Tryz.params3] at hA hval
 obtain ⟨v0,v1,v2,d0,d1,d2,p0,p1,p2,rfl,rfl,rfl,h0,h1,h2⟩:=trodAll_three hA
 obtain ⟨rfl,rfl⟩:=trodVars_none hV
 have hl1:zm7 24 d1:=fun k hk => by
  have:=List.all_eq_true.1 hsz k (DataW.weights_mem_each (j:=1) (t:=24) (d:=d1) rfl rfl k hk)
  simpa using this
 obtain ⟨fuel0,hf0⟩:=h0
 rw [z8j Tryz.underlying23 (hval 0 _ v0 rfl rfl)] at hf0
 obtain ⟨x0,hx0⟩:=zdl hf0
 obtain ⟨fuel1,hf1⟩:=h1
 rw [z8j Tryz.underlying24 (hval 1 _ v1 rfl rfl)] at hf1
 obtain ⟨x1,hx1,hm1⟩:=zal hf1 hl1
 obtain ⟨fuel2,hf2⟩:=h2
 rw [z8j Tryz.underlying25 (hval 2 _ v2 rfl rfl)] at hf2
 obtain ⟨x2,hx2⟩:=zqv hf2
 refine (zhe hx0 hx1 hx2 hm1).mono fun e W' h => ?_
 obtain ⟨rfl,hb⟩:=h
 exact ⟨_,rfl,zu0 hW rfl rfl rfl (by rw [Tryz.params3]; intro t ht; simp at ht; rcases ht with rfl | rfl | rfl <;> exact ⟨by kernel_rfl,by decide +kernel⟩) hb⟩
theorem points16_holds:Rows.ChainPointsSaid :=
 OpenClaim.holds_of_wide 3 Tryz.f3 rfl rfl rfl rfl rfl rfl rfl ⟨rfl,rfl,rfl,rfl,rfl⟩ rfl rfl rfl rfl rfl (by kernel_rfl) Tryz.func3 (by kernel_rfl)
  (of_decide_eq_true (by kernel_rfl)) (by unfold Func.isWrapper; first | (rw [if_pos (by decide +kernel)]; kernel_rfl) | (rw [if_neg (by decide +kernel)]; exact ⟨rfl,rfl⟩))
  (fun os started H enc _ => zcq os started H enc)
end
end Go.Proofs.YtdcijfhkfhhfjaaGreat
