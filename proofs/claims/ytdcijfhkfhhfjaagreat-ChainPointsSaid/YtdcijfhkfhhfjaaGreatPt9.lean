/- Chain: the rest with its cofactors. From the form's own reading of an argument to what lies in memory: limbs, powers, terms, polynomials. What every law's row asks: the answer true, the arguments as they were. Arguments that are slices of polynomials, read as data. The document's division: all its steps. Layer 12's law: what is too great, the meters of both sides, powers, limbs. Layer 12's law: the meters of both sides, of limits; none of both, if there are to be none; have both counted the same. Layer 12's statements: what is not too great, and the divisions of it. The arguments of the statements of layers 12 and 16 that are no polynomials: whole numbers, truths, limits. The arguments of layer 16's statements: slices of whole numbers, divisions. What layer 16's law knows. A polynomial ahead of some: append([]Poly{f}, l...). Chain: the rest alone, of what may not be. Layer 16's law: what is too great. Layer 16's statements: what is not too great. The document's chain: powers, and is it an identity. The document's chain: are some polynomials one. Chain: what is no identity, for lengths that differ or polynomials that may not be. The document's check of an identity: lengths that differ. Layer 16: the program's check of an identity and the document's answer alike. Layer 16: what is known of arguments that may be. A polynomial's value at a point of quotients, plainly. Long division, plainly: a limb of the quotient by a guess, one step of the division, all steps. Long division of limbs: the guess of a limb. Long division of limbs: a multiple taken off, and given back. -/
import Derived.ProofKit
import Derived.Deep.Slices
import Derived.Deep.Strs
import Derived.Test.YtdcijfhkfhhfjaaGreatRows
import Derived.Lib.SmallJoins
import Derived.JoinedCond
import Derived.Laws.BitsLemmas
import Derived.WalkMore
import Derived.Test.YtdcijfhkfhhfjaaGreatPt8
set_option maxRecDepth 100000
set_option maxHeartbeats 16000000
namespace Go.Proofs.YtdcijfhkfhhfjaaGreat
section
open Go.RowKit Go.Deep
def z9t (W:World) (o:Option Nat) (X:Int × MSt × PZ × List Int × List PZ):Ending → World → Prop:=fun e W' => ∃ vp vc vr,e = .returned (.tuple #[.agg #[vp,vc,vr],.int .i64 X.1]) ∧ MV W' o X.2.1 ∧ W.grownBy W' o ∧ PMN W.heap.size o W' vr X.2.2.1 ∧
 Ints (fun k => W.heap.size ≤ k ∧ NB o W' k) W' vp X.2.2.2.1 ∧ z1r (fun k => W.heap.size ≤ k ∧ NB o W' k) W' vc (X.2.2.2.2.map ofP)
def st3 (Y:World) (br:Nat) (a b c:Value):World:=((Y.setCell ⟨br,0,none⟩ a).setCell ⟨br,1,none⟩ b).setCell ⟨br,2,none⟩ c
section
variable {W Y:World} {br hi bc bd bp bq m:Nat} {a b c u0 u1 u2 vr:Value} {o:Option Nat} {s:MSt} {ns:List Int} {V:Nat → Value} {cs:List PZ} {r:PZ}
theorem zx8 (h0:Y.cell? ⟨br,0,none⟩ = some u0):(st3 Y br a b c).cell? ⟨br,0,none⟩ = some a:=z09 (z09 (z1h h0) (ao (by decide))) (ao (by decide))
theorem zx9 (h1:Y.cell? ⟨br,1,none⟩ = some u1):(st3 Y br a b c).cell? ⟨br,1,none⟩ = some b:=z09 (z1h (z09 h1 (ao (by decide)))) (ao (by decide))
theorem zxa (h2:Y.cell? ⟨br,2,none⟩ = some u2):(st3 Y br a b c).cell? ⟨br,2,none⟩ = some c:=z1h (z09 (z09 h2 (ao (by decide))) (ao (by decide)))
theorem zv6 (h:MV Y o s) (ho:∀ b,o = some b → b < br):MV (st3 Y br a b c) o s:=by
 have hne:∀ b,o = some b → b ≠ br:=fun b hb => Nat.ne_of_lt (ho b hb)
 exact ((h.set hne (a:=⟨br,0,none⟩) rfl a).set hne (a:=⟨br,1,none⟩) rfl b).set hne (a:=⟨br,2,none⟩) rfl c
theorem zv7 (h1:br < hi):Gx o br hi Y (st3 Y br a b c) :=
 ((z86 Y (a:=⟨br,0,none⟩) (Nat.le_refl _) h1 a).trans (z86 _ (a:=⟨br,1,none⟩) (Nat.le_refl _) h1 b)).trans (z86 _ (a:=⟨br,2,none⟩) (Nat.le_refl _) h1 c)
theorem z9b {k:Nat} (h:k ≠ br):(st3 Y br a b c).heap[k]? = Y.heap[k]? :=
 ((z15 _ ⟨br,2,none⟩ c h).trans (z15 _ ⟨br,1,none⟩ b h)).trans (z15 _ ⟨br,0,none⟩ a h)
theorem zth (S:Nat → Prop) (w:World):Ints S w (.slice none 0 0) []:=⟨0,0,⟨none,0,rfl,Nat.le_refl _,by decide,fun h => by simp at h,fun h => by simp at h⟩,fun j n hj => by simp at hj⟩
theorem zzi (O:Own br hi br bc bd bp bq) (hb:br = W.heap.size) (ho:∀ b,o = some b → b < br) (hm:MV Y o s) (hg:W.grownBy Y o) (hr:RestAt 23 Y br bd bp bq m vr ns V) (hv:PMN hi o Y vr r) (hc:CofV hi o Y m V cs) (hn:ns.length = m) (hi64:∀ z ∈ ns,z1v z) (hml:m ≤ maxLen) :
  z9t W o (0,s,r,ns,cs) (.returned (.tuple #[.agg #[.slice (some ⟨bp,0,none⟩) m m,.slice (some ⟨bq,0,none⟩) m m,vr],.int .i64 0])) (st3 Y br (.slice (some ⟨bp,0,none⟩) m m) (.slice (some ⟨bq,0,none⟩) m m) vr):=by
 have hx:Gx o br hi Y (st3 Y br (.slice (some ⟨bp,0,none⟩) m m) (.slice (some ⟨bq,0,none⟩) m m) vr):=zv7 O.r.2
 have hg2:W.grownBy (st3 Y br (.slice (some ⟨bp,0,none⟩) m m) (.slice (some ⟨bq,0,none⟩) m m) vr) o:=⟨hx.os.trans hg.os,hx.tape.trans hg.tape,hx.output.trans hg.output,Nat.le_trans hg.size hx.size,fun k h1 h2 => by
  rw [z9b (by omega)]
  exact hg.block k h1 h2⟩
 have hno:∀ k,br ≤ k → some k ≠ o:=fun k hk e => by have:=ho k e.symm; omega
 obtain ⟨l1,l2,l3,l4⟩:=hr.lts
 refine ⟨_,_,_,rfl,zv6 hm ho,hg2,(PMN.gx hv (Nat.le_refl _) hx).low (by have:=O.r; omega),?_,?_⟩
 ·exact Ints.of_row (hr.P.of_block (z9b O.rp.symm)) hn hi64 hml ⟨by rw [← hb]; exact O.p.1,Nat.lt_of_lt_of_le l3 hx.size,hno _ O.p.1⟩
 ·exact (hc.gx (Nat.le_refl _) hx).polys (hr.Q.of_block (z9b O.rq.symm)) hml (fun k hk => ⟨by have:=O.r; have:=hk.1; omega,hk.2⟩) ⟨by rw [← hb]; exact O.q.1,Nat.lt_of_lt_of_le l4 hx.size,hno _ O.q.1⟩
theorem zyr {e:Int} (hbr:br < hi) (hb:br = W.heap.size) (ho:∀ b,o = some b → b < br) (hm:MV Y o s) (hg:W.grownBy Y o) :
  z9t W o (e,s,[],[],[]) (.returned (.tuple #[.agg #[.slice none 0 0,.slice none 0 0,.slice none 0 0],.int .i64 e])) (st3 Y br (.slice none 0 0) (.slice none 0 0) (.slice none 0 0)):=by
 have hx:Gx o br hi Y (st3 Y br (.slice none 0 0) (.slice none 0 0) (.slice none 0 0)):=zv7 hbr
 have hg2:W.grownBy (st3 Y br (.slice none 0 0) (.slice none 0 0) (.slice none 0 0)) o:=⟨hx.os.trans hg.os,hx.tape.trans hg.tape,hx.output.trans hg.output,Nat.le_trans hg.size hx.size,fun k h1 h2 => by
  rw [z9b (by omega)]
  exact hg.block k h1 h2⟩
 exact ⟨_,_,_,rfl,zv6 hm ho,hg2,z06.nilv _ _ _ _ (by decide),zth _ _,z1r.nilv _ _ _ _ (by decide)⟩
end
theorem zlu {W:World} {o:Option Nat} {s:MSt} {vf vl:Value} {f:PZ} {ls:List PZ} {A T:Nat} (hM:MV W o s) (hf:PM o W vf f) (hl:z1r (NB o W) W vl (ls.map ofP)) (ff:Fit A T f) (hA:A ≤ 1000000) (hT:T ≤ 1000000000)
  (sl:z70 (ls.map ofP)) (hmay:mayC 0 (ls.map ofP) = true) (hlen:ls.length ≤ 1000) (hF:z31 o true ls ls.length s f (List.replicate ls.length [])) :
  Calls Tryz.prog 16 #[mval o,vf,vl] W (z9t W o (z4m o true ls ls.length s f (List.replicate ls.length 0) (List.replicate ls.length []))):=by
 have hnot:∀ (x:Bool) (w:World),(Op.unary .not (.bool x)).run Tryz.prog w = .ok (.bool (!x)) w:=fun _ _ => rfl
 have C1:=hid (fun (Y:World) (hY:Ext W Y) => zlk (z06.on hf.pv hY) ff hA)
 have C2:=hid (fun (Y:World) (hY:Ext W Y) => (show Calls Tryz.prog 19 #[vl] Y fun e w' => e = .returned (.bool true) ∧ Ext Y w' from by
  have h:=z76 (S:=NB o W) vl (ls.map ofP) Y (hl.ext hY (fun _ h => h.1)) (fun k h => Nat.lt_of_lt_of_le h.1 hY.size) sl
  rwa [hmay] at h))
 have HF:=hid hf
 have HFT:=hid ff
 have HAT:=hid (And.intro hA hT)
 have HM:=hid hM
 have HL:=hid hl
 have HFF:=hid hF
 have HBM:=hid (fun b hb => hM.block (b:=b) hb)
 obtain ⟨X,hX⟩:∃ X,X = z4m o true ls ls.length s f (List.replicate ls.length 0) (List.replicate ls.length []):=⟨_,rfl⟩
 rw [← hX]
 have HX:=hid hX
 obtain ⟨m,hm⟩:∃ m,m = ls.length:=⟨_,rfl⟩
 have HMM:=hid hm
 rw [← hm] at hlen
 obtain ⟨af,cf,rfl⟩:=hf.form
 obtain ⟨al,cl,hl'⟩:=hl.form
 rw [List.length_map,← hm] at hl'
 subst hl'
 obtain ⟨nf,hnf⟩:∃ n,n = (ofP f).length:=⟨_,rfl⟩
 rw [← hnf] at C1 ⊢
 have HNF:=hid hnf
 obtain ⟨vm,hvm⟩:∃ x,x = mval o:=⟨_,rfl⟩
 obtain ⟨am,rfl⟩:∃ a,vm = .pointer a:=⟨_,hvm⟩
 rw [← hvm]
 have HVM:=hid hvm
 clear hM hf hl ff hA hT sl hmay hF hX hm hnf hvm
 have hmk:=fun (Y:World) => run_make_row' (P:=Tryz.prog) 39 3 (.int .i64 0) 8 Tryz.underlying39 Tryz.infoInt rfl .i64 .i64 m (by omega) (by omega) Y
 have hmq:=fun (Y:World) => run_make_row' (P:=Tryz.prog) 24 23 (.slice none 0 0) 24 Tryz.underlying24 Tryz.infoPoly rfl .i64 .i64 m (by omega) (by omega) Y
 have HX0:=hid (Ext.alloc (Ext.refl W) (.cells #[.slice none 0 0,.slice none 0 0,.slice none 0 0] 60))
 have j0:(W.alloc (.cells #[.slice none 0 0,.slice none 0 0,.slice none 0 0] 60)).cell? ⟨W.heap.size,0,none⟩ = some (.slice none 0 0):=z04 _ _ _ rfl rfl
 have j1:(W.alloc (.cells #[.slice none 0 0,.slice none 0 0,.slice none 0 0] 60)).cell? ⟨W.heap.size,1,none⟩ = some (.slice none 0 0):=z04 _ _ _ rfl rfl
 have j2:(W.alloc (.cells #[.slice none 0 0,.slice none 0 0,.slice none 0 0] 60)).cell? ⟨W.heap.size,2,none⟩ = some (.slice none 0 0):=z04 _ _ _ rfl rfl
 have HJ:=hid (And.intro j0 (And.intro j1 j2))
 have HZ:=hid (fun i => z56 W #[.slice none 0 0,.slice none 0 0,.slice none 0 0] 60 (i:=i))
 clear j0 j1 j2
 go_enter Tryz.func16,Tryz.ntmps16
 go_wp2_with fail
 with_reducible refine (C1.out _ HX0.out).mono ?_
 rintro e w1 ⟨rfl,hx⟩
 have HX1:=hid (HX0.out.trans hx)
 have HY1:=hid hx
 clear hx
 go_wp2_with fail
 with_reducible refine (C2.out _ HX1.out).mono ?_
 rintro e w2 ⟨rfl,hx⟩
 have HX2:=hid (HX1.out.trans hx)
 have HY2:=hid (HY1.out.trans hx)
 clear hx
 have HR2:=hid (And.intro (HY2.out.cell HJ.out.1) (And.intro (HY2.out.cell HJ.out.2.1) (HY2.out.cell HJ.out.2.2)))
 have HLB:Hid (W.heap.size < w2.heap.size):=hid (z0s HR2.out.1)
 have HZ2:Hid (∀ i,w2.frozen? ⟨W.heap.size,i,none⟩ = false):=hid (fun i => (World.frozen?_of_block (w:=W.alloc (.cells #[.slice none 0 0,.slice none 0 0,.slice none 0 0] 60)) (a:=⟨W.heap.size,i,none⟩) (HY2.out.block _ (by show W.heap.size < _; rw [z02]; exact Nat.lt_succ_self _))).trans (HZ.out i))
 go_upto_region 4 with fail
 go_cut [9] (fun s9 wx => ∃ bd bp bq,s9 = .pointer (some ⟨bd,0,none⟩) ∧ Hid (Own W.heap.size wx.heap.size W.heap.size w2.heap.size bd bp bq) ∧ Hid (RestAt 23 wx W.heap.size bd bp bq m (.slice af nf cf) (List.replicate m 0) (fun _ => .slice none 0 0)) ∧ Hid (CalcAt wx w2.heap.size (.pointer am) 0) ∧ Hid (Ext w2 wx))
 case first =>
  go_region_held3 (fun _ => True) (exact trivial) (fail)
  all_goals
   go_wp2_with fail
   go_meet
   obtain ⟨k0,k1,k2⟩:=HR2.out
   first
    | with_reducible exact ztb HLB.out k0 k1 k2 HZ2.out
    | with_reducible exact ztc HLB.out k0 k1 k2 HZ2.out
    | with_reducible exact ztd HLB.out k0 k1 k2 HZ2.out
    | with_reducible exact zte HLB.out k0 k1 k2 HZ2.out
    | with_reducible exact ztf HLB.out k0 k1 k2 HZ2.out
    | with_reducible exact ztg HLB.out k0 k1 k2 HZ2.out
 case rest =>
  obtain ⟨bd,bp,bq,rfl,HO,HRT,HCA,HXC⟩:=hcut
  have HX5:=hid (HX2.out.trans HXC.out)
  obtain ⟨bc,hbc⟩:∃ n,n = w2.heap.size:=⟨_,rfl⟩
  obtain ⟨br,hbr⟩:∃ n,n = W.heap.size:=⟨_,rfl⟩
  obtain ⟨hi,hhi⟩:∃ n,n = wc.heap.size:=⟨_,rfl⟩
  rw [← hbr,← hbc,← hhi] at HO
  rw [← hbr] at HRT
  rw [← hbc] at HCA
  rw [← hbc,← hbr]
  have HBR:=hid hbr
  have HHI:=hid hhi
  have HOB:Hid (∀ b,o = some b → b < br):=hid (fun b hb => by rw [hbr]; exact HBM.out b hb)
  have HLH:Hid (br ≤ hi):=hid (by rw [hbr,hhi]; exact HX5.out.size)
  clear hbc hbr hhi hmk hmq
  go_wp2
  go_loopw [10] (fun i wr => ∃ (k:Nat) (s1:MSt) (vr:Value) (r1:PZ) (ns1:List Int) (V:Nat → Value) (cs1:List PZ),k ≤ m ∧ i = .int .i64 ((k:Int) - 1) ∧ Hid (MV wr o s1) ∧ Hid (Gx o br hi wc wr) ∧ Hid (RestAt 23 wr br bd bp bq m vr ns1 V) ∧ Hid (CalcAt wr bc (.pointer am) 0) ∧ Hid (PX o br hi wr vr r1) ∧ Hid (∃ A T,Fit A T r1 ∧ A ≤ 1000000 ∧ T ≤ 1000000000000) ∧ Hid (CofV hi o wr m V cs1) ∧ Hid (z31 o true ls k s1 r1 cs1) ∧ Hid (z4m o true ls k s1 r1 ns1 cs1 = X) ∧ Hid (ns1.length = m ∧ ∀ z ∈ ns1,z1v z)) (fun i _ => (intOf i + 1).toNat)
  case atStart =>
   refine ⟨m,s,.slice af nf cf,f,List.replicate m 0,fun _ => .slice none 0 0,List.replicate m [],Nat.le_refl _,rfl,hid (HM.out.ext HX5.out),hid (Gx.refl _ _ _ _),HRT,HCA,hid ?_,hid ⟨A,T,HFT.out,HAT.out.1,by have:=HAT.out.2; omega⟩,hid ?_,hid ?_,hid ?_,hid ⟨by simp,fun z hz => ?_⟩⟩
   ·rw [HNF.out]
    have h:=HF.out
    refine h.to (Kept.ext HX5.out (fun _ h => h.1)) (fun k hk => ⟨Nat.lt_of_lt_of_le hk.1 HX5.out.size,hk.2,fun e => ?_⟩)
    have h1:=hk.1
    have h2:=e.1
    rw [HBR.out] at h2
    omega
   ·refine ⟨by simp,fun i hi => ?_⟩
    rw [List.getD_eq_getElem?_getD,List.getElem?_replicate]
    split <;> exact z06.nilv _ _ _ _ (by decide)
   ·rw [HMM.out]; exact HFF.out
   ·rw [HX.out,HMM.out]
   ·rw [List.eq_of_mem_replicate hz]; unfold z1v; omega
  case round =>
   obtain ⟨k,s1,vr,r1,ns1,V,cs1,hk,rfl,HMV,HG,HRA,HCK,HRV,HFR,HCV,HRF,HRD,HNS⟩:=hrel
   have HGW:Hid (W.grownBy wr o):=hid (((z9a HX5.out).trans HG.out).gb (by rw [HBR.out]; exact Nat.le_refl _))
   cases k with
   | zero =>
    have HX0:Hid (X = (0,s1,r1,ns1,cs1)):=hid HRD.out.symm
    have HADD:Hid (Calls Tryz.prog 21 #[vr,.slice none 0 0] wr (z8y wr r1)):=hid (by
     obtain ⟨A',T',fr,hA',hT'⟩:=HFR.out
     have hn:PV wr (.slice none 0 0) []:=z06.nilv _ _ _ _ (by decide)
     have h:=zos (q:=[]) HRV.out.pv hn fr z8g hA' (by omega) (by omega)
     rwa [show z1t (r1 ++ []) = r1 by rw [List.append_nil]; exact z5a fr.can] at h)
    obtain ⟨ar,cr,rfl⟩:=HRV.out.form
    obtain ⟨nr,hnr⟩:∃ n,n = (ofP r1).length:=⟨_,rfl⟩
    rw [← hnr] at HADD HRA
    have e2:=HRA.out.d2
    clear hnr
    go_wp2_with fail
    with_reducible refine HADD.out.mono ?_
    rintro e w6 ⟨v6,rfl,ht6,hx6⟩
    have HX6:=hid hx6
    have HR6:=hid (HRA.out.gb HO.out.toOwn3 HOB.out (z11 hx6 o))
    have HT6:=hid ht6
    obtain ⟨a6,c6,rfl⟩:=ht6.form
    obtain ⟨n6,hn6⟩:∃ n,n = (ofP r1).length:=⟨_,rfl⟩
    rw [← hn6] at HT6 ⊢
    have HN6:=hid hn6
    have HHW:Hid (hi ≤ wr.heap.size):=hid (by rw [HHI.out]; exact HG.out.size)
    have HR7:=hid (HR6.out.setD HO.out.toOwn3 (.slice a6 n6 c6))
    obtain ⟨W7,hW7⟩:∃ Y,Y = w6.setCell ⟨bd,2,none⟩ (.slice a6 n6 c6):=⟨_,rfl⟩
    rw [← hW7] at HR7
    have HW7:=hid hW7
    clear e2 ht6 hx6 hn6 hW7
    have k2:=HR6.out.d2
    have kz:=HR6.out.dz 2
    have HM7:=hid ((HMV.out.ext HX6.out).set (W:=w6) (a:=⟨bd,2,none⟩) (bd:=bd) (fun b hb e => by have h1:=HOB.out b hb; have h2:=HO.out.d.1; omega) rfl (.slice a6 n6 c6))
    rw [← HW7.out] at HM7
    have HG7:Hid (Gx o br hi wr W7):=hid (by rw [HW7.out]; exact (z9a HX6.out).trans (z86 w6 (a:=⟨bd,2,none⟩) HO.out.d.1 HO.out.d.2 _))
    have HGW7:Hid (W.grownBy W7 o):=hid ((((z9a HX5.out).trans HG.out).trans HG7.out).gb (by rw [HBR.out]; exact Nat.le_refl _))
    have HC7:=hid (HCV.out.gx (Nat.le_refl _) HG7.out)
    have HP7:Hid (PMN hi o W7 (.slice a6 n6 c6) r1):=hid (by
     rw [HN6.out] at HT6
     have h:=HT6.out
     rw [← HN6.out] at h
     refine h.to (fun k hk => ?_) (fun k hk => ⟨Nat.le_trans HHW.out hk.1,?_,fun e => ?_⟩)
     ·rw [HW7.out]
      exact z15 w6 ⟨bd,2,none⟩ _ (fun e => by have h1:=hk.1; have h2:=HO.out.d.2; have h3:=HHW.out; have e2:k = bd:=e; omega)
     ·rw [HW7.out]
      exact Nat.lt_of_lt_of_le hk.2 (z86 (o:=o) (lo:=br) (hi:=hi) w6 (a:=⟨bd,2,none⟩) HO.out.d.1 HO.out.d.2 _).size
     ·have h1:=HOB.out k e.symm; have h2:=hk.1; have h3:=HHW.out; have h4:=HLH.out; omega)
    have d0:=HR7.out.d0
    have d1:=HR7.out.d1
    have d2:=HR7.out.d2
    have y0:=HR7.out.r0
    have y1:=HR7.out.r1
    have y2:=HR7.out.r2
    have z0:=HR7.out.rz 0
    have z1:=HR7.out.rz 1
    have z2:=HR7.out.rz 2
    rw [HW7.out] at d0 d1 d2 y0 y1 y2 z0 z1 z2
    have f0:=zx8 (a:=.slice (some ⟨bp,0,none⟩) m m) (b:=.slice (some ⟨bq,0,none⟩) m m) (c:=.slice a6 n6 c6) HR7.out.r0
    have f1:=zx9 (a:=.slice (some ⟨bp,0,none⟩) m m) (b:=.slice (some ⟨bq,0,none⟩) m m) (c:=.slice a6 n6 c6) HR7.out.r1
    have f2:=zxa (a:=.slice (some ⟨bp,0,none⟩) m m) (b:=.slice (some ⟨bq,0,none⟩) m m) (c:=.slice a6 n6 c6) HR7.out.r2
    have HFIN:=hid (zzi HO.out HBR.out HOB.out HM7.out HGW7.out HR7.out HP7.out HC7.out HNS.out.1 HNS.out.2 (by unfold maxLen; omega))
    rw [HW7.out] at f0 f1 f2 HFIN
    unfold st3 at f0 f1 f2 HFIN
    go_wp2
    all_goals
     refine bodyPost_ret (v:=.tuple #[.agg #[.slice (some ⟨bp,0,none⟩) m m,.slice (some ⟨bq,0,none⟩) m m,.slice a6 n6 c6],.int .i64 0]) (by simp [results,Tryz.results16,go_sem,f0,f1,f2]) rfl ?_
     rw [HX0.out]
     exact HFIN.out
   | succ q =>
    have hq1:((q + 1:Nat):Int) - 1 = (q:Int):=by omega
    have hqm:q < m:=by omega
    have HRS:=hid HRF.out.1
    obtain ⟨⟨A2,T2,B2,M2,fp,hA2,hB2,hT2,hTb2,hTM2,hFR2⟩,hlead,hdeg⟩:=HRS.out
    have HPF:Hid (Fit A2 T2 (ls.getD q []) ∧ A2 < 24 ∧ 1 ≤ T2 ∧ T2 ≤ 1000000):=hid ⟨fp,hA2,hT2,hTb2⟩
    have hdn:(divK o true ls q s1 r1).n ≤ 10001:=zyj (o:=o) (keep:=true) (s:=s1) (g:=ls.getD q []) (v:=z0t (ls.getD q [])) hFR2.now.2.can.may
    have hfit:Fit B2 M2 (divK o true ls q s1 r1).r:=(zwt _ _ _ _ _ hFR2).2
    have hMM:M2 ≤ 2 * T2 * M2:=Nat.le_mul_of_pos_left M2 (by omega)
    have HKW:Hid (Kept (NB o W) W wr):=hid (fun b hb => HGW.out.block b hb.1 hb.2)
    have HSW:Hid (∀ b,NB o W b → NX o br hi wr b):=hid (fun b hb => ⟨Nat.lt_of_lt_of_le hb.1 HGW.out.size,hb.2,fun e => by have h1:=hb.1; have h2:=e.1; rw [HBR.out] at h2; omega⟩)
    obtain ⟨bl,ol,vl,rfl,-,hl1,hl2,hSl,hlc,htl⟩:=(HL.out.to HKW.out (fun _ h => h)).cellAt (zc8 (k:=q) (l:=ls) (by rw [← HMM.out]; exact hqm))
    have HTL:=hid (htl.to (S':=NX o br hi wr) (Kept.refl _ _) HSW.out)
    have CC:=hid (fun (Y:World) (hY:Ext wr Y) => zot (PX.pv (PX.on HTL.out (z9a hY))) fp (by omega))
    have CR0:∀ Y:World,Ext wr Y → Calls Tryz.prog 36 #[mval o,vr,vl,.int .i64 (z0t (ls.getD q []))] Y (zdf Y o (divK o true ls q s1 r1)):=fun (Y:World) (hY:Ext wr Y) => zt1 (HMV.out.ext hY) (PX.pm (PX.on HRV.out (z9a hY))) (PX.pm (PX.on HTL.out (z9a hY))) fp hFR2 hA2 (by omega) hT2 hTb2 hTM2 hlead hdeg
    rw [← HVM.out] at CR0
    have CR:=hid CR0
    have HRND:=hid HRF.out.2.1
    have HRF3:=hid HRF.out.2.2
    have hrd:=HRD.out
    rw [z4m] at hrd
    have HFRR:Hid (∃ A T,Fit A T (divK o true ls q s1 r1).r ∧ A ≤ 1000000 ∧ T ≤ 1000000000000):=hid ⟨B2,M2,hfit,by omega,by omega⟩
    generalize divK o true ls q s1 r1 = R at CR HRND HRF3 hrd hdn HFRR
    obtain ⟨re,rq,rr,rn,rs⟩:=R
    simp only at HRND HRF3 hrd hdn HFRR
    have HDN2:=hid hdn
    have HRDX:=hid hrd
    have HLW:=hid HRA.out.lts
    have HLC:=hid HCK.out.lt
    obtain ⟨ar,cr,rfl⟩:=HRV.out.form
    obtain ⟨all,cll,rfl⟩:=htl.form
    obtain ⟨nr,hnr⟩:∃ n,n = (ofP r1).length:=⟨_,rfl⟩
    obtain ⟨nl1,hnl1⟩:∃ n,n = (ofP (ls.getD q [])).length:=⟨_,rfl⟩
    rw [← hnr,← hnl1] at CR
    rw [← hnl1] at CC hlc
    rw [← hnr] at HRA
    have HNL:=hid hnl1
    have HFS:Hid (∀ Y:World,wr.grownBy Y o → Y.cell? ⟨bl,ol + q,none⟩ = some (.slice all nl1 cll) ∧ Y.cell? ⟨bd,2,none⟩ = some (.slice ar nr cr)):=hid (fun Y hY =>
     ⟨(World.cell?_of_block (hY.block bl (HSW.out bl hSl).1 hSl.2)).trans hlc,(HRA.out.gb HO.out.toOwn3 HOB.out hY).d2⟩)
    have x0:=Below.drew (Ext.refl wr)
    have HX0:Hid (Ext wr _):=hid x0
    have S0:=HFS.out _ (z11 HX0.out o)
    have HC1:=hid (CC.out _ x0)
    clear fp hA2 hB2 hT2 hTb2 hTM2 hFR2 hlead hdeg htl hnr hnl1 hlc x0 hrd CR0 hdn hfit hMM
    simp only [hq1]
    go_wp2
    go_region_held3 (fun Y => Y.cell? ⟨bl,ol + q,none⟩ = some (.slice all nl1 cll) ∧ Y.cell? ⟨bd,2,none⟩ = some (.slice ar nr cr)) (first | exact S0 | exact S1 | exact S2)
     (first
    | (go_at_call 23; refine HC1.out.mono ?_
       rintro e u1 ⟨rfl,hx1⟩; have HX1:Hid (Ext wr u1):=hid (Ext.trans HX0.out hx1); have S1:=HFS.out _ (z11 HX1.out o); have HC2:=hid (CR.out u1 HX1.out); clear hx1)
    | (go_at_call 36; refine HC2.out.mono ?_
       rintro e u2 ⟨q2,x2,rfl,hm2,hg2,hq2,hr2⟩; have HG2:=hid (z1a (z11 HX1.out o) hg2); have S2:=HFS.out _ HG2.out; have HM2:=hid hm2; have HQ2:=hid (hq2.low (Nat.le_trans (Nat.le_of_eq rfl) HX1.out.size)); have HR2:=hid (hr2.low HX1.out.size); have qf:=hr2.form; obtain ⟨a2,c2,rfl⟩:=qf; obtain ⟨n2,hn2⟩:∃ n,n = (ofP rr).length:=⟨_,rfl⟩; rw [← hn2] at HR2; rw [← hn2]; have qf:=hq2.form; obtain ⟨a3,c3,rfl⟩:=qf; obtain ⟨n3,hn3⟩:∃ n,n = (ofP rq).length:=⟨_,rfl⟩; rw [← hn3] at HQ2; rw [← hn3]; clear hm2 hg2 hq2 hr2 hn2 hn3))
    all_goals
     have HX2:=hid (zyq (lo:=br) (hi:=hi) HG2.out)
     have HRA2:=hid (HRA.out.gb HO.out.toOwn3 HOB.out HG2.out)
     have HCK2:=hid (HCK.out.gb HG2.out (fun e => by have h1:=HOB.out bc e.symm; have h2:=HO.out.c.1; omega))
     have HCV2:=hid (HCV.out.gx (Nat.le_refl _) HX2.out)
     have HHW:Hid (hi ≤ wr.heap.size):=hid (by rw [HHI.out]; exact HG.out.size)
     have HGW2:Hid (W.grownBy u2 o):=hid (z1a HGW.out HG2.out)
     clear S0 S1 S2
     by_cases h0:re = 0
     ·subst h0
      have HR6:=hid (HRA2.out.setQ HO.out.toOwn3 q (.slice a3 n3 c3))
      have HR7:=hid (HR6.out.setD HO.out.toOwn3 (.slice a2 n2 c2))
      have HR8:=hid (HR7.out.setP HO.out.toOwn3 q (rn:Int) (by rw [HNS.out.1]; exact hqm))
      obtain ⟨W6,hW6⟩:∃ Y,Y = u2.setCell ⟨bq,q,none⟩ (.slice a3 n3 c3):=⟨_,rfl⟩
      rw [← hW6] at HR6 HR7 HR8
      obtain ⟨W7,hW7⟩:∃ Y,Y = W6.setCell ⟨bd,2,none⟩ (.slice a2 n2 c2):=⟨_,rfl⟩
      rw [← hW7] at HR7 HR8
      obtain ⟨W8,hW8⟩:∃ Y,Y = W7.setCell ⟨bp,q,none⟩ (.int .i64 (rn:Nat)):=⟨_,rfl⟩
      rw [← hW8] at HR8
      have HX8:Hid (Gx o br hi u2 W8):=hid (by
       have g6:Gx o br hi u2 W6:=by rw [hW6]; exact z86 _ (a:=⟨bq,q,none⟩) HO.out.q.1 HO.out.q.2 _
       have g7:Gx o br hi W6 W7:=by rw [hW7]; exact z86 _ (a:=⟨bd,2,none⟩) HO.out.d.1 HO.out.d.2 _
       have g8:Gx o br hi W7 W8:=by rw [hW8]; exact z86 _ (a:=⟨bp,q,none⟩) HO.out.p.1 HO.out.p.2 _
       exact (g6.trans g7).trans g8)
      have HM8:Hid (MV W8 o rs):=hid (by
       have hne:∀ k,br ≤ k → ∀ b,o = some b → b ≠ k:=fun k hk b hb => by have:=HOB.out b hb; omega
       rw [hW8,hW7,hW6]
       exact ((HM2.out.set (hne bq HO.out.q.1) (a:=⟨bq,q,none⟩) rfl _).set (hne bd HO.out.d.1) (a:=⟨bd,2,none⟩) rfl _).set (hne bp HO.out.p.1) (a:=⟨bp,q,none⟩) rfl _)
      have HK8:Hid (CalcAt W8 bc (.pointer am) 0):=hid (HCK2.out.same (by
       rw [hW8,hW7,hW6]
       exact ((z15 _ ⟨bp,q,none⟩ _ HO.out.cp).trans (z15 _ ⟨bd,2,none⟩ _ HO.out.cd)).trans (z15 _ ⟨bq,q,none⟩ _ HO.out.cq)))
      have HV8:Hid (PX o br hi W8 (.slice a2 n2 c2) rr):=hid (PX.on (PMN.px (hi:=hi) HR2.out HHW.out) HX8.out)
      have HC8:Hid (CofV hi o W8 m (setV V q (.slice a3 n3 c3)) (cs1.set q rq)):=hid ((HCV2.out.gx (Nat.le_refl _) HX8.out).set hqm (PMN.gx (PMN.low HQ2.out HHW.out) (Nat.le_refl _) HX8.out))
      have HG8:Hid (Gx o br hi wc W8):=hid ((HG.out.trans HX2.out).trans HX8.out)
      have HN8:Hid ((ns1.set q (rn:Int)).length = m ∧ ∀ z ∈ ns1.set q (rn:Int),z1v z):=hid ⟨by rw [List.length_set]; exact HNS.out.1,fun z hz => by
       rcases List.mem_or_eq_of_mem_set hz with h | h
       ·exact HNS.out.2 z h
       ·rw [h]; unfold z1v; have h1:=HDN2.out; omega⟩
      have HW6:=hid hW6
      have HW7:=hid hW7
      have HW8:=hid hW8
      have d0:=HRA2.out.d0
      have d1:=HRA2.out.d1
      have d2:=HR6.out.d2
      have dz:=HR6.out.dz 2
      have q1:=HRA2.out.Q.cell hqm
      have qz:=HRA2.out.Q.frozen q
      have p1:=HR7.out.P.cell hqm
      have pz:=HR7.out.P.frozen q
      rw [hW7] at p1 pz
      rw [hW6] at d2 dz p1 pz
      clear hW6 hW7 hW8
      by_cases hn0:rn = 0
      ·have HRC:Hid (z21 o true (ls.getD q []) ls.length q ⟨0,rq,rr,rn,rs⟩ cs1 = (0,rs,cs1.set q rq)):=hid (by
        unfold z21
        rw [if_neg (fun h => h rfl),if_pos (.inl hn0)])
       have HRD8:Hid (z4m o true ls q rs rr (ns1.set q (rn:Int)) (cs1.set q rq) = X):=hid (by
        have h:=HRDX.out
        rw [HRC.out] at h
        exact (if_neg (fun h => h rfl)).symm.trans h)
       have HRF8:Hid (z31 o true ls q rs rr (cs1.set q rq)):=hid (by
        have h:=HRF3.out
        rw [HRC.out] at h
        exact h rfl)
       subst hn0
       go_wp2
       go_roundw
       case rel =>
        have hww:W8 = W7.setCell ⟨bp,q,none⟩ (.int .i64 0):=HW8.out
        rw [HW7.out,HW6.out] at hww
        rw [← hww]
        exact ⟨q,rs,.slice a2 n2 c2,rr,ns1.set q ((0:Nat):Int),setV V q (.slice a3 n3 c3),cs1.set q rq,by omega,by go_num,HM8,HG8,HR8,HK8,HV8,HFRR,HC8,HRF8,HRD8,HN8⟩
       case measure => simp only [intOf]; omega
      ·have hrf:=HRND.out rfl hn0 trivial
       obtain ⟨P,hP⟩:∃ P,P = (powN (z1w (ls.getD q [])) rn).getD []:=⟨_,rfl⟩
       have hn100:rn ≤ 100:=hrf.hn
       have hpow:powN (z1w (ls.getD q [])) rn = some P:=by rw [hP]; exact hrf.pow
       have HCOF:Hid ((z10 o rs P).1 = 0 → zaf o P m (m - (q + 1)) (z10 o rs P).2 (cs1.set q rq)):=hid (by rw [hP,HMM.out]; exact hrf.cof)
       obtain ⟨A3,T3,fp3,hA3,hT3,hT3b,hTn3⟩:=hrf.ex
       have hTn3':T3 ^ rn ≤ 1000000000000:=hTn3
       obtain ⟨Y,hY⟩:∃ Y,Y = z21 o true (ls.getD q []) ls.length q ⟨0,rq,rr,rn,rs⟩ cs1:=⟨_,rfl⟩
       have HY:Hid (Y = if (z10 o rs P).1 ≠ 0 then ((z10 o rs P).1,(z10 o rs P).2,[]) else cofD o P m (m - (q + 1)) (z10 o rs P).2 (cs1.set q rq)):=hid (by
        rw [hY,HMM.out,hP]
        unfold z21
        rw [if_neg (fun h => h rfl),if_neg (fun h => by rcases h with h | h; exact hn0 h; cases h)])
       have HYE:Hid (Y.1 ≠ 0 → X = (Y.1,Y.2.1,[],[],[])):=hid (fun hy => by
        have h:=HRDX.out
        rw [← hY] at h
        exact ((if_pos hy).symm.trans h).symm)
       have HYO:Hid (Y.1 = 0 → z4m o true ls q Y.2.1 rr (ns1.set q (rn:Int)) Y.2.2 = X ∧ z31 o true ls q Y.2.1 rr Y.2.2):=hid (fun hy => by
        have h:=HRDX.out
        have h2:=HRF3.out
        rw [← hY] at h h2
        exact ⟨(if_neg (fun k => k hy)).symm.trans h,h2 hy⟩)
       have HOC:Hid (∀ b,o = some b → b ≠ bc):=hid (fun b hb => by have h1:=HOB.out b hb; have h2:=HO.out.c.1; omega)
       have HK8m:Hid (CalcAt W8 bc (mval o) 0):=hid (by rw [← HVM.out]; exact HK8.out)
       have HTL8:=hid (PX.on HTL.out (HX2.out.trans HX8.out))
       have CI:=zc3 (PX.pv HTL8.out) fp3 (by omega) hT3b
       have CP0:=fun (Y:World) (u:Value) (hY:Ext W8 Y) (hu:PC o bc Y u (z1w (ls.getD q []))) => zdg (HK8m.out.ext hY) (HM8.out.ext hY) HOC.out hu fp3.init hA3 hT3 hn100 hTn3' hpow
       have CP:=hid CP0
       rw [← HNL.out] at CI
       have HCI:=hid CI
       have k1:=World.cell?_of_block ((HX2.out.trans HX8.out).block bl (HSW.out bl hSl).1 (HSW.out bl hSl).2.1 (HSW.out bl hSl).2.2) (a:=⟨bl,ol + q,none⟩)
       rw [(HFS.out wr (z4u _ _)).1] at k1
       have hww:W8 = _:=HW8.out
       rw [HW7.out,HW6.out] at hww
       rw [hww] at k1
       have HWW:=hid hww
       have q0:((rn:Int) == 0) = false:=by rw [beq_eq_false_iff_ne]; omega
       clear hrf hpow fp3 hA3 hT3 hT3b hTn3 hTn3' hn100 CP0 CI hww hP hY
       go_wp2_with fail
       rw [← HWW.out]
       with_reducible refine HCI.out.mono ?_
       rintro e w9 ⟨vi,rfl,ht9,hx9⟩
       have HX9:=hid hx9
       have HLT8:=hid HK8.out.lt
       have HT9:=hid (ht9.to (S':=NC o bc w9) (Kept.refl _ _) (fun b hb => ⟨hb.2,fun e => by have h1:=HOB.out b e.symm; have h2:=HO.out.c.1; have h3:=HLT8.out; have h4:=hb.1; omega,fun e => by have:=hb.1; have:=HLT8.out; omega⟩))
       have HCP:=hid (CP.out w9 vi hx9 HT9.out)
       obtain ⟨ai,ci,rfl⟩:=ht9.form
       obtain ⟨ni,hni⟩:∃ n,n = (ofP (z1w (ls.getD q []))).length:=⟨_,rfl⟩
       rw [← hni] at HCP ⊢
       clear hx9 ht9 hni k1 d0 d1 d2 dz q1 qz p1 pz
       go_wp2_with fail
       with_reducible refine HCP.out.mono ?_
       rintro e w10 ⟨v10,rfl,hd10,hm10,hg10,hp10⟩
       have HHI8:Hid (hi ≤ W8.heap.size):=hid (by rw [HHI.out]; exact HG8.out.size)
       have HHI9:Hid (hi ≤ w9.heap.size):=hid (Nat.le_trans HHI8.out HX9.out.size)
       have HX10:Hid (Gx o br hi W8 w10):=hid ((z9a HX9.out).trans (zx2 hg10 HO.out.c.1 HO.out.c.2))
       have HD10:=hid hd10
       have HM10:=hid hm10
       have HR10:=hid ((HR8.out.gb HO.out.toOwn3 HOB.out (z11 HX9.out o)).gd HO.out HOB.out hg10)
       have HC10:=hid (HC8.out.gx (Nat.le_refl _) HX10.out)
       have HP10:Hid (PX o br hi w10 v10 P):=hid (hp10.to (Kept.refl _ _) (fun k h => ⟨h.2.1,h.2.2.1,by have h1:=HHI9.out; have h2:=h.1; omega⟩))
       obtain ⟨ap,cp,rfl⟩:=hp10.form
       obtain ⟨np,hnp⟩:∃ n,n = (ofP P).length:=⟨_,rfl⟩
       have HNP:=hid hnp
       rw [← hnp]
       clear hd10 hm10 hg10 hp10 hnp
       obtain ⟨e1,he1⟩:∃ z,z = (z10 o rs P).1:=⟨_,rfl⟩
       obtain ⟨s2,hs2⟩:∃ z,z = (z10 o rs P).2:=⟨_,rfl⟩
       rw [← he1,← hs2] at HY HCOF
       rw [← he1] at HD10
       rw [← hs2] at HM10
       clear he1 hs2
       go_wp2
       go_loopw [17] (fun i wr => ∃ (t:Nat) (e2:Int) (s3:MSt) (V3:Nat → Value) (cs3:List PZ),t + (q + 1) ≤ m ∧ i = .int .i64 ((m - t:Nat):Int) ∧ Hid (Gx o br hi w10 wr) ∧ Hid (MV wr o s3) ∧ Hid (RestAt 23 wr br bd bp bq m (.slice a2 n2 c2) (ns1.set q (rn:Int)) V3) ∧ Hid (CalcAt wr bc (.pointer am) e2) ∧ Hid (zpj m V3) ∧ Hid (e2 = 0 → CofV hi o wr m V3 cs3 ∧ zaf o P m t s3 cs3 ∧ cofD o P m t s3 cs3 = Y) ∧ Hid (e2 ≠ 0 → Y = (e2,s3,[]))) (fun i _ => m - (intOf i).toNat)
       case atStart =>
        refine ⟨m - (q + 1),e1,s2,setV V q (.slice a3 n3 c3),cs1.set q rq,by omega,by go_num,hid (Gx.refl _ _ _ _),HM10,HR10,hid (by rw [HVM.out]; exact HD10.out),hid HC10.out.form,hid (fun h0 => ⟨HC10.out,HCOF.out h0,?_⟩),hid (fun h0 => ?_)⟩
        ·rw [HY.out,if_neg (fun k => k h0)]
        ·rw [HY.out,if_pos h0]
       case round =>
        obtain ⟨t,e2,s3,V3,cs3,htm,rfl,HGI,HMI,HRI,HKI,HFI,HCI2,HEI⟩:=hrel
        have HGA:=hid (HX10.out.trans HGI.out)
        cases t with
        | zero =>
         by_cases h2:e2 = 0
         ·have hh:=HCI2.out h2
          have HYV:Hid (Y = (0,s3,cs3)):=hid hh.2.2.symm
          have hy:=HYO.out (by rw [HYV.out])
          rw [HYV.out] at hy
          have HC9:=hid hh.1
          have HRD9:=hid hy.1
          have HRF9:=hid hy.2
          subst h2
          have c1:=HKI.out.c1
          clear hh hy
          go_wp2
          go_roundw
          case rel => exact ⟨q,s3,.slice a2 n2 c2,rr,ns1.set q (rn:Int),V3,cs3,by omega,by go_num,HMI,hid (HG8.out.trans HGA.out),HRI,HKI,hid (PX.on HV8.out HGA.out),HFRR,HC9,HRF9,HRD9,HN8⟩
          case measure => simp only [intOf]; omega
         ·have HXE:Hid (X = (e2,s3,[],[],[])):=hid (by
           have h:=HYE.out (by rw [HEI.out h2]; exact h2)
           rwa [HEI.out h2] at h)
          have HGWI:Hid (W.grownBy wr.drew o):=hid (zdr ((((z9a HX5.out).trans HG8.out).trans HGA.out).gb (by rw [HBR.out]; exact Nat.le_refl _)))
          have qe:(e2 != 0) = true:=by rw [bne_iff_ne]; exact h2
          have c1:=HKI.out.c1
          have y0:wr.cell? ⟨br,0,none⟩ = some (.slice none 0 0):=HRI.out.r0
          have y1:wr.cell? ⟨br,1,none⟩ = some (.slice none 0 0):=HRI.out.r1
          have y2:wr.cell? ⟨br,2,none⟩ = some (.slice none 0 0):=HRI.out.r2
          have z0:wr.frozen? ⟨br,0,none⟩ = false:=HRI.out.rz 0
          have z1:wr.frozen? ⟨br,1,none⟩ = false:=HRI.out.rz 1
          have z2:wr.frozen? ⟨br,2,none⟩ = false:=HRI.out.rz 2
          have f0:=zx8 (a:=.slice none 0 0) (b:=.slice none 0 0) (c:=.slice none 0 0) y0
          have f1:=zx9 (a:=.slice none 0 0) (b:=.slice none 0 0) (c:=.slice none 0 0) y1
          have f2:=zxa (a:=.slice none 0 0) (b:=.slice none 0 0) (c:=.slice none 0 0) y2
          have HFIN:=hid (zyr (Y:=wr.drew) (e:=e2) HO.out.r.2 HBR.out HOB.out (HMI.out.ext (Below.drew (Ext.refl wr))) HGWI.out)
          unfold st3 at f0 f1 f2 HFIN
          have HNC:=hid HO.out.rc
          have S0:wr.drew.cell? ⟨bc,1,none⟩ = some (.int .i64 e2):=HKI.out.c1
          clear h2
          go_wp2
          go_region_held3 (fun Y => Y.cell? ⟨bc,1,none⟩ = some (.int .i64 e2)) (first | exact S0 | exact z09 (z09 (z09 S0 (ab HNC.out)) (ab HNC.out)) (ab HNC.out)) (fail)
          all_goals
           go_wp2
           refine bodyPost_ret (v:=.tuple #[.agg #[.slice none 0 0,.slice none 0 0,.slice none 0 0],.int .i64 e2]) (by simp [results,Tryz.results16,go_sem,f0,f1,f2]) rfl ?_
           rw [HXE.out]
           exact HFIN.out
        | succ t =>
         obtain ⟨j,hj⟩:∃ j,j = m - (t + 1):=⟨_,rfl⟩
         have HJT:Hid (m - t = j + 1):=hid (by omega)
         have hjm:j < m:=by omega
         rw [← hj]
         have HJ:=hid hj
         have HHIr:Hid (hi ≤ wr.heap.size):=hid (by rw [HHI.out]; exact Nat.le_trans HG8.out.size HGA.out.size)
         obtain ⟨aj,nj,cj,hvj⟩:=HFI.out j hjm
         have k0:wr.cell? ⟨bq,j,none⟩ = some (.slice aj nj cj):=by rw [← hvj]; exact HRI.out.Q.cell hjm
         have S0:wr.cell? ⟨bd,1,none⟩ = some (.slice (some ⟨bq,0,none⟩) m m):=HRI.out.d1
         have HQD:Hid (bq ≠ bd):=hid HO.out.dq.symm
         have HKF:=hid (And.intro k0 (HRI.out.Q.frozen j))
         by_cases h2:e2 = 0
         ·obtain ⟨HCV3',hcf,hcd⟩:=HCI2.out h2
          rw [zaf,← hj] at hcf
          rw [cofD,← hj] at hcd
          obtain ⟨⟨⟨k5,n5,l5,m5,fc,fP,h24,hk5,hl5,hn5,hm5,hnm⟩,hsome⟩,hnext⟩:=hcf
          obtain ⟨c,hc⟩:∃ c,c = (z0g (cs3.getD j []) P).getD []:=⟨_,rfl⟩
          rw [← hc] at hsome hnext hcd
          have HCV3:=hid HCV3'
          have HNX:=hid hnext
          have HCD:=hid hcd
          subst h2
          have hpj:=HCV3'.2 j hjm
          have hPP:=PX.on HP10.out HGI.out
          rw [hvj] at hpj
          have CT0:=fun (Y:World) (hY:Ext wr Y) => z7w (HKI.out.ext hY) (z06.on (PMN.pv hpj) hY) (z06.on (PX.pv hPP) hY) fc fP h24 (by omega) (by omega) hnm hsome
          rw [← HNP.out] at CT0
          have HCT:=hid CT0
          have HCK:=hid (fun (Y:World) (u:Value) (hY:Gd none bc wr Y) (hD:CalcAt Y bc (mval o) 0) (hu:PM o Y u c) => zgu hD (HMI.out.gdn hY HOC.out) HOC.out hu)
          have HC1:=hid (HCT.out _ (Below.drew (Ext.refl wr)))
          have HBC:=hid HKI.out.lt
          clear hcd fc fP h24 hk5 hl5 hn5 hm5 hnm hsome hnext hc HCV3' hpj hPP CT0 hvj hj
          go_wp2
          first
           | go_region_with
             (first
            | (go_at_call 37; refine HC1.out.mono ?_
               rintro e u1 ⟨x1,rfl,hd1,hg1,ht1⟩; have HGU1:Hid (Gd none bc wr u1):=hid ((z2b (Below.drew (Ext.refl wr))).trans hg1); have HRU1:=hid (HRI.out.gdn HO.out HGU1.out); have S1:=HRU1.out.d1; have HPN:Hid (PMN hi o u1 x1 c):=hid (ht1.to (Kept.refl _ _) (fun k h => ⟨Nat.le_trans HHIr.out h.1,h.2,fun e => by have a1:=HOB.out k e.symm; have a2:=h.1; have a3:=HHIr.out; have a4:=HLH.out; have a5:wr.heap.size ≤ k:=h.1; omega⟩)); have HC2:=hid (HCK.out u1 x1 HGU1.out (by rw [← HVM.out]; exact hd1) HPN.out.pm); have qf:=ht1.form; obtain ⟨a5,c5,rfl⟩:=qf; obtain ⟨n5,hn5⟩:∃ n,n = (ofP c).length:=⟨_,rfl⟩; have HN5:=hid hn5; rw [← hn5] at HC2; rw [← hn5]; clear hd1 hg1 ht1 hn5)
            | (go_at_call 39; refine HC2.out.mono ?_
               rintro e u2 ⟨rfl,hd2,hm2,hg2⟩; have HRU2:=hid (HRU1.out.gd HO.out HOB.out hg2); have S2:=HRU2.out.d1; have HD2:=hid hd2; have HM2:=hid hm2; have HGU2:Hid (Gd o bc wr u2):=hid (HGU1.out.of_none.trans hg2); have HGW:=hid hg2; have k1:=HRU2.out.Q.cell hjm; have k2:=HRU2.out.Q.frozen j; clear hd2 hm2 hg2))
           | fail
          all_goals
           have HR9:=hid (HRU2.out.setQ HO.out.toOwn3 j (.slice a5 n5 c5))
           have HG9:Hid (Gx o br hi wr u2):=hid (zx2 HGU2.out HO.out.c.1 HO.out.c.2)
           have HS9:Hid (Gx o br hi u2 (u2.setCell ⟨bq,j,none⟩ (.slice a5 n5 c5))):=hid (z86 u2 (a:=⟨bq,j,none⟩) HO.out.q.1 HO.out.q.2 _)
           have HM9:Hid (MV (u2.setCell ⟨bq,j,none⟩ (.slice a5 n5 c5)) o (z10 o s3 c).2):=hid (HM2.out.set (a:=⟨bq,j,none⟩) (bd:=bq) (fun b hb e => by have h1:=HOB.out b hb; have h2:=HO.out.q.1; omega) rfl _)
           have HK9:Hid (CalcAt (u2.setCell ⟨bq,j,none⟩ (.slice a5 n5 c5)) bc (.pointer am) (z10 o s3 c).1):=hid (by rw [HVM.out]; exact HD2.out.same (z15 u2 ⟨bq,j,none⟩ _ HO.out.cq))
           have HPN9:Hid (PMN hi o (u2.setCell ⟨bq,j,none⟩ (.slice a5 n5 c5)) (.slice a5 n5 c5) c):=hid (by
            have h:=HPN.out
            rw [← HN5.out] at h
            exact PMN.gx h (Nat.le_refl _) ((zx2 HGW.out HO.out.c.1 HO.out.c.2).trans HS9.out))
           have HC9:=hid ((HCV3.out.gx (Nat.le_refl _) (HG9.out.trans HS9.out)).set hjm HPN9.out)
           go_wp2
           go_roundw
           case rel =>
            refine ⟨t,(z10 o s3 c).1,(z10 o s3 c).2,setV V3 j (.slice a5 n5 c5),cs3.set j c,by omega,by rw [HJT.out]; go_num,hid ((HGI.out.trans HG9.out).trans HS9.out),HM9,HR9,HK9,hid (HFI.out.set j ⟨_,_,_,rfl⟩),hid (fun h0 => ⟨HC9.out,HNX.out h0,?_⟩),hid (fun h0 => ?_)⟩
            ·have h:=HCD.out
             rwa [if_neg (fun k => k h0)] at h
            ·have h:=HCD.out
             rw [if_pos h0] at h
             exact h.symm
           case measure => simp only [intOf]; omega
         ·have HC1:Hid (∀ Y:World,Ext wr Y → Calls Tryz.prog 37 #[.pointer (some ⟨bc,0,none⟩),.slice aj nj cj,.slice ap np cp] Y fun e w' => e = .returned (.slice none 0 0) ∧ Ext Y w'):=hid (fun Y hY => (zc7 (HKI.out.ext hY) ⟨_,_,_,rfl⟩ ⟨_,_,_,rfl⟩ h2).mono (by rintro e w' ⟨rfl,rfl⟩; exact ⟨rfl,Ext.refl _⟩))
          have HC2:Hid (∀ Y:World,Ext wr Y → Calls Tryz.prog 39 #[.pointer (some ⟨bc,0,none⟩),.slice none 0 0] Y fun e w' => e = .returned (.slice none 0 0) ∧ Ext Y w'):=hid (fun Y hY => (zcy (HKI.out.ext hY) ⟨_,_,_,rfl⟩ h2).mono (by rintro e w' ⟨rfl,rfl⟩; exact ⟨rfl,Ext.refl _⟩))
          have HC1a:=hid (HC1.out _ (Below.drew (Ext.refl wr)))
          have HYV:=hid (HEI.out h2)
          have HE2:=hid h2
          clear h2 hj hvj
          go_wp2
          first
           | go_region_with
             (first
            | (go_at_call 37; with_reducible refine HC1a.out.mono ?_
               rintro e u1 ⟨rfl,hx1⟩; have HU1:Hid (Ext wr u1):=hid ((Below.drew (Ext.refl wr)).trans hx1); have S1:=(HRI.out.gb HO.out.toOwn3 HOB.out (z11 HU1.out o)).d1; have HC2a:=hid (HC2.out u1 HU1.out); clear hx1)
            | (go_at_call 39; with_reducible refine HC2a.out.mono ?_
               rintro e u2 ⟨rfl,hx2⟩; have HU2:Hid (Ext wr u2):=hid (HU1.out.trans hx2); have HRU2:=hid (HRI.out.gb HO.out.toOwn3 HOB.out (z11 HU2.out o)); have S2:=HRU2.out.d1; have k1:=HRU2.out.Q.cell hjm; have k2:=HRU2.out.Q.frozen j; clear hx2))
           | fail
          all_goals
           have HR9:=hid (HRU2.out.setQ HO.out.toOwn3 j (.slice none 0 0))
           have HG9:Hid (Gx o br hi wr u2):=hid (z9a HU2.out)
           have HS9:Hid (Gx o br hi u2 (u2.setCell ⟨bq,j,none⟩ (.slice none 0 0))):=hid (z86 u2 (a:=⟨bq,j,none⟩) HO.out.q.1 HO.out.q.2 _)
           have HM9:Hid (MV (u2.setCell ⟨bq,j,none⟩ (.slice none 0 0)) o s3):=hid ((HMI.out.ext HU2.out).set (a:=⟨bq,j,none⟩) (bd:=bq) (fun b hb e => by have h1:=HOB.out b hb; have h2:=HO.out.q.1; omega) rfl _)
           have HK9:Hid (CalcAt (u2.setCell ⟨bq,j,none⟩ (.slice none 0 0)) bc (.pointer am) e2):=hid ((HKI.out.ext HU2.out).same (z15 u2 ⟨bq,j,none⟩ _ HO.out.cq))
           go_wp2
           go_roundw
           case rel =>
            exact ⟨t,e2,s3,setV V3 j (.slice none 0 0),cs3,by omega,by rw [HJT.out]; go_num,hid ((HGI.out.trans HG9.out).trans HS9.out),HM9,HR9,HK9,hid (HFI.out.set j ⟨_,_,_,rfl⟩),hid (fun h0 => absurd h0 HE2.out),hid (fun _ => HYV.out)⟩
           case measure => simp only [intOf]; omega
     ·have HXE:Hid (X = (re,rs,[],[],[])):=hid (by
       have h:=HRDX.out
       have h1:z21 o true (ls.getD q []) ls.length q ⟨re,rq,rr,rn,rs⟩ cs1 = (re,rs,[]):=by unfold z21; exact if_pos h0
       rw [h1,if_pos h0] at h
       exact h.symm)
      have q0:(re != 0) = true:=by rw [bne_iff_ne]; exact h0
      have y0:=HRA2.out.r0
      have y1:=HRA2.out.r1
      have y2:=HRA2.out.r2
      have z0:=HRA2.out.rz 0
      have z1:=HRA2.out.rz 1
      have z2:=HRA2.out.rz 2
      have f0:=zx8 (a:=.slice none 0 0) (b:=.slice none 0 0) (c:=.slice none 0 0) y0
      have f1:=zx9 (a:=.slice none 0 0) (b:=.slice none 0 0) (c:=.slice none 0 0) y1
      have f2:=zxa (a:=.slice none 0 0) (b:=.slice none 0 0) (c:=.slice none 0 0) y2
      have HFIN:=hid (zyr (e:=re) HO.out.r.2 HBR.out HOB.out HM2.out HGW2.out)
      unfold st3 at f0 f1 f2 HFIN
      clear h0
      go_wp2
      all_goals
       refine bodyPost_ret (v:=.tuple #[.agg #[.slice none 0 0,.slice none 0 0,.slice none 0 0],.int .i64 re]) (by simp [results,Tryz.results16,go_sem,f0,f1,f2]) rfl ?_
       rw [HXE.out]
       exact HFIN.out
end
section
open Go.RowKit Go.Deep Go.ChangeShapes Go.WideShapes
theorem z4t {α:Type} {n:Nat} {p:Nat → α → Prop} (h:∀ i,i < n → ∃ x,p i x):∃ l:List α,l.length = n ∧ ∀ i x,l[i]? = some x → p i x:=by
 induction n with
 | zero => exact ⟨[],rfl,fun i x hx => by simp at hx⟩
 | succ n ih =>
  obtain ⟨l,hl,hp⟩:=ih (fun i hi => h i (Nat.lt_succ_of_lt hi))
  obtain ⟨x,hx⟩:=h n (Nat.lt_succ_self n)
  refine ⟨l ++ [x],by simp [hl],fun i y hy => ?_⟩
  rw [List.getElem?_append] at hy
  split at hy
  ·exact hp i y hy
  ·rename_i hi
   have:i = n:=by
    have:=z05 hy
    simp at this
    omega
   subst this
   simp [hl] at hy
   exact hy ▸ hx
theorem zti {α:Type} {l:List α} (h:l.length = 2):∃ a b,l = [a,b]:=by
 match l,h with
 | [a,b],_ => exact ⟨a,b,rfl⟩
theorem zlv {α:Type} {l:List α} (h:l.length = 3):∃ a b c,l = [a,b,c]:=by
 match l,h with
 | [a,b,c],_ => exact ⟨a,b,c,rfl⟩
section
variable {H:Type} {enc:TypeId × Value → H} {w:World} {base:Nat} {spare:Nat → Bool} {held:Bool}
theorem z3o {t e:TypeId} {fuel sz:Nat} {v:Value} {x:DataW H × List MemPlace} (ht:Tryz.prog.underlying t = some (.slice e)) (hsz:Tryz.prog.cellsOf e = sz) (hpos:0 < sz)
  (h:DataW.trod enc Tryz.prog w base spare held fuel t [v] = some x) :
  ∃ (n b off fuel':Nat),z3a (· < w.heap.size) v n b off ∧ ∀ j,j < n → ∃ (cs:List Value) (y:DataW H × List MemPlace),cs.length = sz ∧ (∀ i,i < sz → w.cell? ⟨b,off + j * sz + i,none⟩ = cs[i]?) ∧ DataW.trod enc Tryz.prog w base spare held fuel' e cs = some y:=by
 rcases open_slice ht h with ⟨hcs,_⟩ | ⟨a,len,cap,m,fuel',D,Pl,hcs,hb,hl,hm,hmm,_,hx⟩
 ·obtain rfl:v = .slice none 0 0:=by simpa using hcs
  exact ⟨0,0,0,0,⟨none,0,rfl,Nat.le_refl _,Nat.zero_le _,fun h => absurd h (by omega),fun h => absurd h (by omega)⟩,fun j hj => absurd hj (by omega)⟩
 ·obtain rfl:v = .slice (some a) len cap:=by simpa using hcs
  rw [hsz] at hx
  have hlm:len ≤ m:=by rw [hmm]; split <;> omega
  have key:∀ j,j < len → ∃ (cs:List Value) (y:DataW H × List MemPlace),cs.length = sz ∧ (∀ i,i < sz → w.cell? ((a.add (j * sz)).add i) = cs[i]?) ∧ DataW.trod enc Tryz.prog w base spare held fuel' e cs = some y:=by
   intro j hj
   obtain ⟨cs,h1,h2⟩:=hx j (by omega)
   obtain ⟨_,h3,h4⟩:=World.cells?_some h1
   exact ⟨cs,_,h3,h4,h2⟩
  by_cases h0:0 < len
  ·have hsp:a.spot = none:=by
    obtain ⟨cs,_,h3,h4,_⟩:=key 0 h0
    have h5:=h4 0 hpos
    have e0:(a.add (0 * sz)).add 0 = a:=by simp [Addr.add]
    rw [e0,List.getElem?_eq_getElem (by omega)] at h5
    unfold World.cell? at h5
    split at h5
    ·cases hs:a.spot with
     | none => rfl
     | some z => simp [hs] at h5
    ·exact absurd h5 (by simp)
   obtain ⟨b,off,spot⟩:=a
   obtain rfl:spot = none:=hsp
   have add_eq:∀ j i,((⟨b,off,none⟩:Addr).add (j * sz)).add i = ⟨b,off + j * sz + i,none⟩:=by
    intro j i
    unfold Addr.add
    by_cases h1:j * sz = 0 <;> by_cases h2:i = 0 <;> simp [h1,h2]
   refine ⟨len,b,off,fuel',⟨_,cap,rfl,hl,hm,fun _ => rfl,fun _ => ?_⟩,fun j hj => ?_⟩
   ·obtain ⟨cs,_,h3,h4,_⟩:=key 0 h0
    have h5:=h4 0 hpos
    rw [add_eq,List.getElem?_eq_getElem (by omega)] at h5
    exact z0s h5
   ·obtain ⟨cs,y,h3,h4,h5⟩:=key j hj
    exact ⟨cs,y,h3,fun i hi => by rw [← add_eq]; exact h4 i hi,h5⟩
  ·exact ⟨len,0,0,fuel',⟨_,cap,rfl,hl,hm,fun h => absurd h h0,fun h => absurd h h0⟩,fun j hj => absurd hj (by omega)⟩
theorem zdj {n:Int} (h:(Lit.int .i64 n).wf = true):-9223372036854775808 ≤ n ∧ n ≤ 9223372036854775807:=by
 simpa [Lit.wf,IntKind.min,IntKind.max,IntKind.signed,IntKind.bits] using h
theorem zlw {n:Int} (h:(Lit.int .u32 n).wf = true):0 ≤ n ∧ n < 4294967296:=by
 have:0 ≤ n ∧ n ≤ 4294967295:=by simpa [Lit.wf,IntKind.min,IntKind.max,IntKind.signed,IntKind.bits] using h
 omega
theorem Tryz.cells_u32:Tryz.prog.cellsOf 74 = 1:=by kernel_rfl
theorem Tryz.cells_power:Tryz.prog.cellsOf 52 = 2:=by kernel_rfl
theorem Tryz.cells_term:Tryz.prog.cellsOf 50 = 3:=by kernel_rfl
theorem Tryz.cells_int:Tryz.prog.cellsOf 30 = 2:=by kernel_rfl
theorem Tryz.cells_mono:Tryz.prog.cellsOf 48 = 1:=by kernel_rfl
theorem Tryz.cells_bool:Tryz.prog.cellsOf 4 = 1:=by kernel_rfl
theorem Tryz.cells_i64:Tryz.prog.cellsOf 3 = 1:=by kernel_rfl
theorem Tryz.cells_su32:Tryz.prog.cellsOf 28 = 1:=by kernel_rfl
theorem zgz {fuel:Nat} {v:Value} {x:DataW H × List MemPlace} (h:DataW.trod enc Tryz.prog w base spare held fuel 28 [v] = some x):∃ zs,U32s (· < w.heap.size) w v zs:=by
 obtain ⟨n,b,off,f',hs,hx⟩:=z3o Tryz.underlying28 Tryz.cells_u32 (by omega) h
 obtain ⟨zs,hl,hz⟩:=z4t (p:=fun j (z:Nat) => z < 4294967296 ∧ w.cell? ⟨b,off + j,none⟩ = some (.int .u32 (z:Nat))) (n:=n) (fun j hj => by
  obtain ⟨cs,y,h1,h2,h3⟩:=hx j hj
  obtain ⟨m,rfl,_,hw⟩:=DataW.trod_int Tryz.underlying74 h3
  have:=zlw hw
  have h4:=h2 0 (by omega)
  refine ⟨m.toNat,by omega,?_⟩
  simp only [Nat.mul_one,Nat.add_zero] at h4
  rw [h4]
  simp
  omega)
 subst hl
 exact ⟨zs,b,off,hs,hz⟩
theorem zpl {fuel:Nat} {v:Value} {x:DataW H × List MemPlace} (h:DataW.trod enc Tryz.prog w base spare held fuel 48 [v] = some x):∃ ps,Pows (· < w.heap.size) w v ps:=by
 obtain ⟨n,b,off,f',hs,hx⟩:=z3o Tryz.underlying48 Tryz.cells_power (by omega) h
 obtain ⟨ps,hl,hp⟩:=z4t (p:=fun j (x:Int × Int) => ((-9223372036854775808 ≤ x.1 ∧ x.1 ≤ 9223372036854775807) ∧ -9223372036854775808 ≤ x.2 ∧ x.2 ≤ 9223372036854775807) ∧
  w.cell? ⟨b,off + j * 2,none⟩ = some (.int .i64 x.1) ∧ w.cell? ⟨b,off + j * 2 + 1,none⟩ = some (.int .i64 x.2)) (n:=n) (fun j hj => by
  obtain ⟨cs,y,h1,h2,h3⟩:=hx j hj
  obtain ⟨y0,y1,m,_,_,g0,g1⟩:=trod_struct2 Tryz.underlying52 h3
  obtain ⟨n0,e0,_,w0⟩:=DataW.trod_int Tryz.underlying3 g0
  obtain ⟨n1,e1,_,w1⟩:=DataW.trod_int Tryz.underlying3 g1
  obtain ⟨c0,c1,rfl⟩:=zti h1
  simp [Tryz.cells_i64] at e0 e1
  subst e0 e1
  exact ⟨(n0,n1),⟨zdj w0,zdj w1⟩,h2 0 (by omega),h2 1 (by omega)⟩)
 subst hl
 exact ⟨ps,b,off,hs,hp⟩
theorem zdk {fuel:Nat} {v:Value} {x:DataW H × List MemPlace} (h:DataW.trod enc Tryz.prog w base spare held fuel 23 [v] = some x):∃ ts,z06 (· < w.heap.size) w v ts:=by
 obtain ⟨n,b,off,f',hs,hx⟩:=z3o Tryz.underlying23 Tryz.cells_term (by omega) h
 obtain ⟨ts,hl,hp⟩:=z4t (p:=fun j (t:RTerm) => ∃ vm vo,w.cell? ⟨b,off + j * 3,none⟩ = some (.bool t.c.neg) ∧
  w.cell? ⟨b,off + j * 3 + 1,none⟩ = some vm ∧ w.cell? ⟨b,off + j * 3 + 2,none⟩ = some vo ∧ U32s (· < w.heap.size) w vm t.c.mag ∧ Pows (· < w.heap.size) w vo t.m) (n:=n) (fun j hj => by
  obtain ⟨cs,y,h1,h2,h3⟩:=hx j hj
  obtain ⟨y0,y1,m,_,_,g0,g1⟩:=trod_struct2 Tryz.underlying50 h3
  obtain ⟨c0,c1,c2,rfl⟩:=zlv h1
  simp [Tryz.cells_int,Tryz.cells_mono] at g0 g1
  obtain ⟨z0,z1,m',_,_,k0,k1⟩:=trod_struct2 Tryz.underlying30 g0
  simp [Tryz.cells_bool,Tryz.cells_su32] at k0 k1
  obtain ⟨ng,e0,_⟩:=DataW.trod_bool Tryz.underlying4 k0
  simp at e0
  subst e0
  obtain ⟨zs,hzs⟩:=zgz k1
  obtain ⟨ps,hps⟩:=zpl g1
  exact ⟨⟨⟨ng,zs⟩,ps⟩,c1,c2,h2 0 (by omega),h2 1 (by omega),h2 2 (by omega),hzs,hps⟩)
 subst hl
 exact ⟨ts,b,off,hs,hp⟩
end
end
section
open Go.RowKit Go.Deep Go.ChangeShapes Go.WideShapes Go.ChangeAt
theorem Tryz.own:ownKnob Tryz.prog.godebug = none:=by kernel_rfl
theorem Tryz.laidOut:laidOutB Tryz.prog = true:=by kernel_rfl
theorem zel {H:Type} {enc:TypeId × Value → H} {W W':World} (hb:Below W.heap.size W W') :
  ∀ {ts:List TypeId} {vs:List Value} {ds:List (DataW H)} {p:List MemPlace},(∀ t ∈ ts,Tryz.prog.readableRec t = true ∧ t < Tryz.prog.types.size) → (∀ x ∈ p,x.block < W.heap.size) →
  DataW.TrodAll enc Tryz.prog W 0 (fun _ => true) true ts vs ds p → DataW.TrodAll enc Tryz.prog W' 0 (fun b => decide (b < W.heap.size)) true ts vs ds p:=by
 intro ts
 induction ts with
 | nil =>
  intro vs ds p _ _ h
  cases vs <;> cases ds <;> first | exact h | exact h.elim
 | cons t ts ih =>
  intro vs ds p ht hlt h
  cases vs with
  | nil => exact h.elim
  | cons v vs =>
   cases ds with
   | nil => exact h.elim
   | cons d ds =>
    obtain ⟨p1,q1,h1,h2,rfl⟩:=h
    refine ⟨p1,q1,?_,ih (fun x hx => ht x (List.mem_cons_of_mem _ hx)) (fun x hx => hlt x (List.mem_append_right _ hx)) h2,rfl⟩
    exact Below.trod Tryz.laidOut (ht t (List.mem_cons_self)).1 (ht t (List.mem_cons_self)).2 h1 hb (fun x hx => hlt x (List.mem_append_left _ hx))
theorem ztj {H:Type} {enc:TypeId × Value → H} {F:Func} {s:ChangeSpec} {W W':World} {args:Array Value} {ds gs:List (DataW H)} {before:List MemPlace}
  (hW:DataW.Whole enc Tryz.prog F.params.toList s.vars false W args.toList ds gs before) (hv:s.vars = []) (hr:F.resultTypes = #[4])
  (hs:s.fn H (ds ++ gs) = { results:=[.lit (.bool true)],args:=ds }) (ht:∀ t ∈ F.params.toList,Tryz.prog.readableRec t = true ∧ t < Tryz.prog.types.size)
  (hb:Below W.heap.size W W'):s.post enc Tryz.prog F false true false false W args (.bool true) W':=by
 have hlt:=fun p hp => hW.lt p hp
 have hW':=hW
 obtain ⟨p,q,hA,hV,rfl,_,_⟩:=hW
 rw [hv] at hV
 obtain ⟨rfl,rfl⟩:=trodVars_none hV
 refine ⟨ds,_,_,[],p,[],hW',?_,?_,?_,hb.frame _,fun h => by cases h⟩
 ·rw [hs,hr]
  exact trodAll_mk1 (shut_bool Tryz.underlying4 true)
 ·rw [hs]
  exact zel hb ht (fun x hx => hlt x (List.mem_append_left _ hx)) hA
 ·rw [hs,hv]
  rfl
end
section
open Go.RowKit Go.Deep Go.ChangeShapes Go.WideShapes Go.ChangeAt
theorem z8i {t e:TypeId} {W:World} {base:Nat} {v:Value} (ht:Tryz.prog.underlying t = some (.slice e)) (hv:Value.okWide Tryz.prog W .any base t v):v.cells.toList = [v]:=by
 obtain ⟨a,len,cap,rfl⟩:=okWide_slice ht hv
 rfl
theorem Tryz.cells_poly:Tryz.prog.cellsOf 23 = 1:=by kernel_rfl
section
variable {H:Type} {enc:TypeId × Value → H} {w:World} {base:Nat} {spare:Nat → Bool} {held:Bool}
theorem zlx {fuel:Nat} {v:Value} {x:DataW H × List MemPlace} (h:DataW.trod enc Tryz.prog w base spare held fuel 24 [v] = some x):∃ ls,z1r (· < w.heap.size) w v ls:=by
 obtain ⟨n,b,off,f',hs,hx⟩:=z3o Tryz.underlying24 Tryz.cells_poly (by omega) h
 obtain ⟨ls,hl,hp⟩:=z4t (p:=fun j (t:List RTerm) => ∃ vp,w.cell? ⟨b,off + j,none⟩ = some vp ∧ z06 (· < w.heap.size) w vp t) (n:=n) (fun j hj => by
  obtain ⟨cs,y,h1,h2,h3⟩:=hx j hj
  match cs,h1 with
  | [c],_ =>
   obtain ⟨ts,hts⟩:=zdk h3
   have h4:=h2 0 (by omega)
   simp only [Nat.mul_one,Nat.add_zero] at h4
   exact ⟨ts,c,h4,hts⟩)
 subst hl
 exact ⟨ls,b,off,hs,hp⟩
end
end
section
open Go.RowKit
section
variable {W Y Y':World} {S:Nat → Prop} {o:Option Nat} {u v:Value} {p q:PZ} {k l n m:Nat}
end
section
variable {o:Option Nat} {keep:Bool} {g h q r:PZ} {v d c1 c2 c3:Int} {s s1 s2 s3:MSt} {x:PZ × PZ}
end
end
section
open Go.RowKit
end
section
open Go.RowKit
theorem zpm {a b c d:Int} (h:z45 a b c d):(MSt.new a b c d).Ok:=by
 obtain ⟨⟨a0,a1⟩,⟨b0,b1⟩,⟨c0,c1⟩,d0,d1⟩:=h
 exact ⟨a0,a1,b0,b1,c0,c1,d0,d1,by show (0:Int) ≤ 0; decide,a0,by show (0:Int) ≤ 0; decide,d0⟩
end
section
open Go.RowKit
theorem zys {m:Mono} {E:Int} (h0:0 ≤ E) (h:∀ y ∈ m,y.2 ≤ E) (u:Int):ex m u ≤ E:=by
 induction m with
 | nil => simp [ex]; exact h0
 | cons y r ih =>
  rw [ex]
  split
  ·exact h y (by simp)
  ·exact ih (fun z hz => h z (by simp [hz]))
section
variable {F G:PZ} {x:Int}
end
end
section
open Go.RowKit Go.Deep Go.ChangeShapes Go.WideShapes Go.ChangeAt Go.Joins
section
variable {H:Type} {enc:TypeId × Value → H} {P:Program} {w:World} {base:Nat} {spare:Nat → Bool} {held:Bool}
end
section
variable {H:Type} {enc:TypeId × Value → H} {W:World} {base b0:Nat} {sp:Nat → Bool} {held:Bool}
end
end
section
open Go.RowKit Go.Deep Go.ChangeShapes Go.WideShapes Go.ChangeAt Go.Joins
section
variable {H:Type} {enc:TypeId × Value → H} {w:World} {base:Nat} {spare:Nat → Bool} {held:Bool}
end
section
variable {H:Type} {enc:TypeId × Value → H} {W:World} {base b0:Nat} {sp:Nat → Bool} {held:Bool}
end
end
section
open Go.RowKit Go.Deep
theorem z38 (w:World) (a b:Value) (T:TypeId):(w.alloc (.cells #[a,b] T)).cell? ⟨w.heap.size,0,none⟩ = some a ∧ (w.alloc (.cells #[a,b] T)).cell? ⟨w.heap.size,1,none⟩ = some b:=⟨z04 _ _ _ rfl rfl,z04 _ _ _ rfl rfl⟩
theorem zpn:mayC 0 (k16L.map ofP) = true:=by kernel_rfl
theorem zxb:mayC 0 ([k16B,k16A].map ofP) = false:=by kernel_rfl
theorem z77 {l:List PZ} (h:∀ p ∈ l,z8h p = true ∧ canP p):z70 (l.map ofP):=fun t ht => by
 obtain ⟨p,hp,rfl⟩:=List.mem_map.1 ht
 exact (z2l (h p hp).2 (h p hp).1).small (by decide)
theorem zem:∀ p ∈ k16L,z8h p = true ∧ canP p:=fun p hp => by
 rcases List.mem_cons.1 hp with rfl | hp
 ·exact ⟨by kernel_rfl,z6i⟩
 ·rw [List.mem_singleton.1 hp]; exact ⟨by kernel_rfl,z6j⟩
theorem ztk:∀ p ∈ [k16B,k16A],z8h p = true ∧ canP p:=fun p hp => by
 rcases List.mem_cons.1 hp with rfl | hp
 ·exact ⟨by kernel_rfl,z6j⟩
 ·rw [List.mem_singleton.1 hp]; exact ⟨by kernel_rfl,z6i⟩
theorem zjp:∀ p ∈ [k121,k16Q],z8h p = true ∧ canP p:=fun p hp => by
 rcases List.mem_cons.1 hp with rfl | hp
 ·exact ⟨by kernel_rfl,z7u⟩
 ·rw [List.mem_singleton.1 hp]; exact ⟨by kernel_rfl,zek⟩
theorem z7x {p:PZ} (hc:canP p) (h:z8h p = true) (hl:p.length ≤ 6) (he:p.all (fun t => t.2.all fun y => decide (y.2 ≤ 4)) = true):Fit 3 6 p ∧ exB 4 p:=by
 have f:=z2l hc h
 refine ⟨⟨f.1,f.2.1.mono (by decide),hl⟩,fun t ht u => ?_⟩
 have h1:=(List.all_eq_true.1 he) t ht
 exact zys (by decide) (fun y hy => of_decide_eq_true ((List.all_eq_true.1 h1) y hy)) u
theorem zxc:∀ p ∈ k16L,Fit 3 6 p ∧ exB 4 p:=fun p hp => by
 rcases List.mem_cons.1 hp with rfl | hp
 ·exact z7x z6i (by kernel_rfl) (by decide) (by decide)
 ·rw [List.mem_singleton.1 hp]; exact z7x z6j (by kernel_rfl) (by decide) (by decide)
theorem zxd:∀ p ∈ [k121,k16Q],Fit 3 6 p ∧ exB 4 p:=fun p hp => by
 rcases List.mem_cons.1 hp with rfl | hp
 ·exact z7x z7u (by kernel_rfl) (by decide) (by decide)
 ·rw [List.mem_singleton.1 hp]; exact z7x zek (by kernel_rfl) (by decide) (by decide)
theorem zpo:Fit 3 6 k16F ∧ exB 4 k16F:=z7x zar (by kernel_rfl) (by decide) (by decide)
theorem zpp:Fit 3 6 k162 ∧ exB 4 k162:=z7x zt6 (by kernel_rfl) (by decide) (by decide)
theorem zyt:∀ k,k < 2 → 0 ≤ ([1,2]:List Int).getD k 0 ∧ ([1,2]:List Int).getD k 0 ≤ 3:=fun k hk => by
 match k,hk with
 | 0,_ => decide
 | 1,_ => decide
theorem zxe:(idXs k16F k162 k16L [k121,k16Q] [1,2] 2).1 = (idXs k16F k162 k16L [k121,k16Q] [1,2] 2).2:=by kernel_rfl
theorem zh0 {W:World} {vf vl vp vc vr:Value} (hf:PV W vf k16F) (hl:PVL W vl k16L) (hp:Ints (Old W) W vp [1,2]) (hc:PVL W vc [k121,k16Q]) (hr:PV W vr k162) :
  Calls Tryz.prog 18 #[vf,vl,.agg #[vp,vc,vr]] W fun e W' => e = .returned (.bool true) ∧ Ext W W':=by
 have h:=zcz (xs:=idXs k16F k162 k16L [k121,k16Q] [1,2]) (j:=2) hf hl hp hc hr rfl rfl zpo.1 (by decide) zpp.1 (by decide) (z77 zem) (fun p h => (zem p h).2) (z77 zjp) (fun p h => (zjp p h).2) (Nat.le_refl _) rfl
  (zlr zpo.1 zpo.2 zpp.1 zpp.2 zxc zxd (by decide) rfl (Nat.le_refl _) zyt) (fun h => absurd h (by decide))
 rw [if_neg (by decide),decide_eq_true zxe] at h
 exact h
theorem ztl {W:World} {vl:Value} (hl:PVL W vl k16L):Calls Tryz.prog 19 #[vl] W fun e W' => e = .returned (.bool true) ∧ Ext W W':=by
 have h:=z76 (S:=Old W) vl (k16L.map ofP) W hl (fun _ h => h) (z77 zem)
 rwa [zpn] at h
theorem ztm {W:World} {vl:Value} (hl:PVL W vl [k16B,k16A]):Calls Tryz.prog 19 #[vl] W fun e W' => e = .returned (.bool false) ∧ Ext W W':=by
 have h:=z76 (S:=Old W) vl ([k16B,k16A].map ofP) W hl (fun _ h => h) (z77 ztk)
 rwa [zxb] at h
theorem zh1 {S:Nat → Prop} {w:World} {b:Nat} {v0 v1:Value} {p q:List RTerm} (hb:S b) (h0:w.cell? ⟨b,0,none⟩ = some v0) (h1:w.cell? ⟨b,1,none⟩ = some v1) (t0:z06 S w v0 p) (t1:z06 S w v1 q):z1r S w (.slice (some ⟨b,0,none⟩) 2 2) [p,q] :=
 ⟨b,0,⟨_,2,rfl,Nat.le_refl _,by decide,fun _ => rfl,fun _ => hb⟩,fun j t hj => by
  match j,hj with
  | 0,hj => cases hj; exact ⟨v0,h0,t0⟩
  | 1,hj => cases hj; exact ⟨v1,h1,t1⟩⟩
theorem zen {W:World} {vf vl:Value} (hf:PV W vf k16F) (hl:PVL W vl k16L) :
  Calls Tryz.prog 16 #[.pointer none,vf,vl] W fun e W' => ∃ vp vc vr,e = .returned (.tuple #[.agg #[vp,vc,vr],.int .i64 0]) ∧ PV W' vr k162 ∧ Ints (Old W') W' vp [1,2] ∧ PVL W' vc [k121,k16Q] ∧ Ext W W':=by
 have h:=zlu (o:=none) (s:=default) (f:=k16F) (ls:=k16L) (A:=1) (T:=10) (MV.none W _) (zwy hf) (hl.to (S':=NB none W) (Kept.refl _ _) (fun _ h => ⟨h,by simp⟩)) (z2l zar (by kernel_rfl)) (by decide) (by decide) (z77 zem) zpn (by decide) zx1
 rw [show z4m none true k16L k16L.length default k16F (List.replicate k16L.length 0) (List.replicate k16L.length []) = (0,default,k162,[1,2],[k121,k16Q]) from zt7] at h
 exact h.mono (by
  rintro e W' ⟨vp,vc,vr,rfl,-,h2,h3,h4,h5⟩
  exact ⟨vp,vc,vr,rfl,h3.pv,h4.to (Kept.refl _ _) (fun _ h => h.2.1),h5.to (Kept.refl _ _) (fun _ h => h.2.1),zp8 h2⟩)
theorem z1f (w:World) :
  Calls Tryz.prog 5 #[] w fun e w' => e = .returned (.bool true) ∧ Ext w w':=by
 have hnot:∀ (x:Bool) (w:World),(Op.unary .not (.bool x)).run Tryz.prog w = .ok (.bool (!x)) w:=fun _ _ => rfl
 go_enter Tryz.func5,Tryz.ntmps5
 have HX0:=hid (Ext.refl w)
 go_wp2_with fail
 refine (zni 1 w (by unfold z1v; omega)).mono ?_
 rintro e w1 ⟨v1,rfl,hp1,hx1⟩
 have HX1:=hid (HX0.out.trans hx1)
 have HJ1:=hid (RTs.old hp1 New.lt)
 obtain ⟨a1,c1,rfl⟩:=hp1.form
 clear hx1 hp1
 go_wp2_with fail
 refine (zni 2 w1 (by unfold z1v; omega)).mono ?_
 rintro e w2 ⟨v2,rfl,hp2,hx2⟩
 have HX2:=hid (HX1.out.trans hx2)
 have HJ2:=hid (RTs.on HJ1.out hx2)
 have HY2:=hid (RTs.old hp2 New.lt)
 obtain ⟨a2,c2,rfl⟩:=hp2.form
 clear hx2 hp2
 go_wp2_with fail
 refine (zfz (S:=Old w2) _ _ k9X k9X w2 (fun _ h => h) HJ2.out HJ2.out (z37 (by kernel_rfl)) (z37 (by kernel_rfl)) (z5p (by kernel_rfl)) (z5p (by kernel_rfl)) (zjl (by kernel_rfl) (by kernel_rfl))).mono ?_
 rw [zyl]
 rintro e w3 ⟨v3,rfl,hp3,hx3⟩
 have HX3:=hid (HX2.out.trans hx3)
 have HJ3:=hid (RTs.on HJ2.out hx3)
 have HY3:=hid (RTs.on HY2.out hx3)
 have HU3:=hid (RTs.old hp3 (z2s (fun _ h => h) hx3))
 obtain ⟨a3,c3,rfl⟩:=hp3.form
 clear hx3 hp3
 go_wp2_with fail
 refine (zbk 2 w3 (by omega)).mono ?_
 rw [zyk]
 rintro e w4 ⟨v4,rfl,hp4,hx4⟩
 have HX4:=hid (HX3.out.trans hx4)
 have HJ4:=hid (RTs.on HJ3.out hx4)
 have HY4:=hid (RTs.on HY3.out hx4)
 have HU4:=hid (RTs.on HU3.out hx4)
 have HS4:=hid (RTs.old hp4 New.lt)
 obtain ⟨a4,c4,rfl⟩:=hp4.form
 clear hx4 hp4
 go_wp2_with fail
 refine (zg0 (S:=Old w4) _ _ z99 k162 w4 (fun _ h => h) HU4.out HS4.out (z37 (by kernel_rfl)) (z37 (by kernel_rfl)) (z5p (by kernel_rfl)) (fun k hk => zjk (q:=negP k162) (by kernel_rfl) (by kernel_rfl) k (by rw [z3t]; exact hk))).mono ?_
 rw [zzg]
 rintro e w5 ⟨v5,rfl,hp5,hx5⟩
 have HX5:=hid (HX4.out.trans hx5)
 have HJ5:=hid (RTs.on HJ4.out hx5)
 have HY5:=hid (RTs.on HY4.out hx5)
 have HA5:=hid (RTs.old hp5 (z2s (fun _ h => h) hx5))
 obtain ⟨a5,c5,rfl⟩:=hp5.form
 clear hx5 hp5
 go_wp2_with fail
 refine (z7l (S:=Old w5) _ k16A w5 HA5.out (fun _ h => h) (z5p (by kernel_rfl)) (zj1 (z37 (by kernel_rfl)))).mono ?_
 rintro e w6 ⟨v6,rfl,hp6,hx6⟩
 have HX6:=hid (HX5.out.trans hx6)
 have HJ6:=hid (RTs.on HJ5.out hx6)
 have HY6:=hid (RTs.on HY5.out hx6)
 have HPA6:=hid (z06.old hp6 New.lt)
 obtain ⟨a6,c6,rfl⟩:=hp6.form
 clear hx6 hp6
 go_wp2_with fail
 refine (zg0 (S:=Old w6) _ _ k9Y k9X w6 (fun _ h => h) HY6.out HJ6.out (z37 (by kernel_rfl)) (z37 (by kernel_rfl)) (z5p (by kernel_rfl)) (fun k hk => zjk (q:=negP k9X) (by kernel_rfl) (by kernel_rfl) k (by rw [z3t]; exact hk))).mono ?_
 rw [zzh]
 rintro e w7 ⟨v7,rfl,hp7,hx7⟩
 have HX7:=hid (HX6.out.trans hx7)
 have HJ7:=hid (RTs.on HJ6.out hx7)
 have HY7:=hid (RTs.on HY6.out hx7)
 have HPA7:=hid (z06.on HPA6.out hx7)
 have HB7:=hid (RTs.old hp7 (z2s (fun _ h => h) hx7))
 obtain ⟨a7,c7,rfl⟩:=hp7.form
 clear hx7 hp7
 go_wp2_with fail
 refine (z7l (S:=Old w7) _ k16B w7 HB7.out (fun _ h => h) (z5p (by kernel_rfl)) (zj1 (z37 (by kernel_rfl)))).mono ?_
 rintro e w8 ⟨v8,rfl,hp8,hx8⟩
 have HX8:=hid (HX7.out.trans hx8)
 have HY8:=hid (RTs.on HY7.out hx8)
 have HPA8:=hid (z06.on HPA7.out hx8)
 have HPB8:=hid (z06.old hp8 New.lt)
 obtain ⟨a8,c8,rfl⟩:=hp8.form
 clear hx8 hp8
 obtain ⟨nA,hnA⟩:∃ n,n = (ofP k16A).length:=⟨_,rfl⟩
 obtain ⟨nB,hnB⟩:∃ n,n = (ofP k16B).length:=⟨_,rfl⟩
 rw [← hnA] at HPA8
 rw [← hnB] at HPB8
 rw [← hnA,← hnB]
 have HL0:Hid (z1r (Old (w8.alloc (.cells #[.slice a6 nA c6,.slice a8 nB c8] 23))) (w8.alloc (.cells #[.slice a6 nA c6,.slice a8 nB c8] 23)) (.slice (some ⟨w8.heap.size,0,none⟩) 2 2) (k16L.map ofP)):=hid (zh1 (by show _ < _; rw [z02]; exact Nat.lt_succ_self _) (z04 _ _ _ rfl rfl) (z04 _ _ _ rfl rfl) (z06.on HPA8.out ((Ext.refl _).alloc _)) (z06.on HPB8.out ((Ext.refl _).alloc _)))
 have HLC:Hid ((w8.alloc (.cells #[.slice a6 nA c6,.slice a8 nB c8] 23)).cell? ⟨w8.heap.size,0,none⟩ = some (.slice a6 nA c6) ∧ (w8.alloc (.cells #[.slice a6 nA c6,.slice a8 nB c8] 23)).cell? ⟨w8.heap.size,1,none⟩ = some (.slice a8 nB c8)):=hid ⟨z04 _ _ _ rfl rfl,z04 _ _ _ rfl rfl⟩
 have HXA:=hid (Ext.alloc (Ext.refl w8) (.cells #[.slice a6 nA c6,.slice a8 nB c8] 23))
 obtain ⟨w9,hw9⟩:∃ Y,Y = w8.alloc (.cells #[.slice a6 nA c6,.slice a8 nB c8] 23):=⟨_,rfl⟩
 rw [← hw9] at HL0 HXA HLC
 obtain ⟨bL,hbL⟩:∃ b,b = w8.heap.size:=⟨_,rfl⟩
 rw [← hbL] at HL0 HLC
 have HX9:=hid (HX8.out.trans HXA.out)
 have HPA9:=hid (z06.on HPA8.out HXA.out)
 have HPB9:=hid (z06.on HPB8.out HXA.out)
 have HY9:=hid (RTs.on HY8.out HXA.out)
 have HL9:=HL0
 have HWA:=hid hw9
 have HBL:=hid hbL
 clear hnA hnB hw9 hbL
 go_wp2_with fail
 rw [← HWA.out,← HBL.out]
 refine (zfz (S:=Old w9) _ _ k9Y k9Y w9 (fun _ h => h) HY9.out HY9.out (z37 (by kernel_rfl)) (z37 (by kernel_rfl)) (z5p (by kernel_rfl)) (z5p (by kernel_rfl)) (zjl (by kernel_rfl) (by kernel_rfl))).mono ?_
 rw [zzf]
 rintro e w10 ⟨v10,rfl,hp10,hx10⟩
 have HX10:=hid (HX9.out.trans hx10)
 have HE1:=hid hx10
 have HPA10:=hid (z06.on HPA9.out hx10)
 have HPB10:=hid (z06.on HPB9.out hx10)
 have HL10:=hid (z1r.on HL9.out hx10)
 have HF10:=hid (RTs.old hp10 (z2s (fun _ h => h) hx10))
 obtain ⟨a10,c10,rfl⟩:=hp10.form
 clear hx10 hp10
 go_wp2_with fail
 refine (z7l (S:=Old w10) _ k16F w10 HF10.out (fun _ h => h) (z5p (by kernel_rfl)) (zj1 (z37 (by kernel_rfl)))).mono ?_
 rintro e w11 ⟨v11,rfl,hp11,hx11⟩
 have HX11:=hid (HX10.out.trans hx11)
 have HE2:=hid hx11
 have HPA11:=hid (z06.on HPA10.out hx11)
 have HPB11:=hid (z06.on HPB10.out hx11)
 have HL11:=hid (z1r.on HL10.out hx11)
 have HPF11:=hid (z06.old hp11 New.lt)
 obtain ⟨a11,c11,rfl⟩:=hp11.form
 clear hx11 hp11
 go_wp2_with fail
 refine (zen HPF11.out HL11.out).mono ?_
 rintro e w12 ⟨vp,vc,vr,rfl,hr,hp,hc,hx12⟩
 have HX12:=hid (HX11.out.trans hx12)
 have HE3:=hid hx12
 have HPA12:=hid (z06.on HPA11.out hx12)
 have HPB12:=hid (z06.on HPB11.out hx12)
 have HL12:=hid (z1r.on HL11.out hx12)
 have HPF12:=hid (z06.on HPF11.out hx12)
 have HVR12:=hid (show z06 (Old w12) w12 vr (ofP k162) from hr)
 have HVP12:=hid hp
 have HVC12:=hid (show z1r (Old w12) w12 vc ([k121,k16Q].map ofP) from hc)
 have hxL:=Ext.trans (Ext.refl _) hx12
 obtain ⟨ap,cp,hvp⟩:=hp.form
 have hvp2:vp = .slice ap 2 cp:=hvp
 clear hvp
 subst hvp2
 obtain ⟨ac,cc,hvc⟩:=hc.form
 have hvc2:vc = .slice ac 2 cc:=hvc
 clear hvc
 subst hvc2
 obtain ⟨ar,cr,rfl⟩:=hr.form
 obtain ⟨bp,op,rfl,-,hcp1,hcp2,-,-,hp0⟩:=HVP12.out.cellAt (k:=0) rfl
 obtain ⟨bp',op',hbp,-,-,-,-,-,hp1⟩:=HVP12.out.cellAt (k:=1) rfl
 obtain ⟨rfl,rfl⟩:bp = bp' ∧ op = op':=by simpa using hbp
 rw [Nat.add_zero] at hp0
 have HP01:=hid (And.intro hp0 hp1)
 obtain ⟨nr,hnr⟩:∃ n,n = (ofP k162).length:=⟨_,rfl⟩
 rw [← hnr] at HVR12
 rw [← hnr]
 have HNR:=hid hnr
 clear hx12 hr hp hc hbp hp0 hp1 hnr hxL
 have HLC12:Hid (w12.cell? ⟨bL,0,none⟩ = some (.slice a6 nA c6) ∧ w12.cell? ⟨bL,1,none⟩ = some (.slice a8 nB c8)):=hid (by
  have h:=Ext.trans (Ext.trans HE1.out HE2.out) HE3.out
  exact ⟨h.cell HLC.out.1,h.cell HLC.out.2⟩)
 have h0:(w12.alloc (.cells #[.slice (some ⟨bp,op,none⟩) 2 cp,.slice ac 2 cc,.slice ar nr cr] 60)).cell? ⟨w12.heap.size,0,none⟩ = some (.slice (some ⟨bp,op,none⟩) 2 cp):=z04 _ _ _ rfl rfl
 have h1:(w12.alloc (.cells #[.slice (some ⟨bp,op,none⟩) 2 cp,.slice ac 2 cc,.slice ar nr cr] 60)).cell? ⟨w12.heap.size,1,none⟩ = some (.slice ac 2 cc):=z04 _ _ _ rfl rfl
 have h2:(w12.alloc (.cells #[.slice (some ⟨bp,op,none⟩) 2 cp,.slice ac 2 cc,.slice ar nr cr] 60)).cell? ⟨w12.heap.size,2,none⟩ = some (.slice ar nr cr):=z04 _ _ _ rfl rfl
 have HXD:=hid (Ext.alloc (Ext.refl w12) (.cells #[.slice (some ⟨bp,op,none⟩) 2 cp,.slice ac 2 cc,.slice ar nr cr] 60))
 obtain ⟨wd,hwd⟩:∃ Y,Y = w12.alloc (.cells #[.slice (some ⟨bp,op,none⟩) 2 cp,.slice ac 2 cc,.slice ar nr cr] 60):=⟨_,rfl⟩
 rw [← hwd] at h0 h1 h2 HXD
 obtain ⟨bd,hbd⟩:∃ b,b = w12.heap.size:=⟨_,rfl⟩
 rw [← hbd] at h0 h1 h2
 have HFS:Hid (∀ Y:World,Ext wd Y → Y.cell? ⟨bd,0,none⟩ = some (.slice (some ⟨bp,op,none⟩) 2 cp) ∧ Y.cell? ⟨bd,1,none⟩ = some (.slice ac 2 cc) ∧ Y.cell? ⟨bd,2,none⟩ = some (.slice ar nr cr) ∧ Y.cell? ⟨bp,op,none⟩ = some (.int .i64 1) ∧ Y.cell? ⟨bp,op + 1,none⟩ = some (.int .i64 2) ∧ Y.cell? ⟨bL,0,none⟩ = some (.slice a6 nA c6) ∧ Y.cell? ⟨bL,1,none⟩ = some (.slice a8 nB c8)):=hid (fun Y hY =>
  ⟨hY.cell h0,hY.cell h1,hY.cell h2,(HXD.out.trans hY).cell HP01.out.1,(HXD.out.trans hY).cell HP01.out.2,(HXD.out.trans hY).cell HLC12.out.1,(HXD.out.trans hY).cell HLC12.out.2⟩)
 have HXW:=hid (HX12.out.trans HXD.out)
 have CS:Hid (∀ Y:World,Calls Tryz.prog 14 #[.int .i64 2] Y fun e w' => ∃ v',e = .returned v' ∧ RTs (New Y w') w' v' k162 ∧ Ext Y w'):=hid (fun Y => by have h:=zbk 2 Y (by omega); rw [zyk] at h; exact h)
 have CP:=hid (fun (Y Y':World) (v:Value) (hv:RTs (Old Y) Y v k162) (hY:Ext Y Y') => z7l (S:=Old Y') v k162 Y' (RTs.on hv hY) (fun _ h => h) (z5p (by kernel_rfl)) (zj1 (z37 (by kernel_rfl))))
 have CE:Hid (∀ (Y Y':World) (v:Value),Ext w12 Y → z06 (Old Y) Y v (ofP k162) → Ext Y Y' → Calls Tryz.prog 17 #[.slice ar nr cr,v] Y' fun e w' => e = .returned (.bool true) ∧ Ext Y' w'):=hid (fun Y Y' v hW hv hY => (zln _ v (ofP k162) (ofP k162) Y' (z06.on HVR12.out (hW.trans hY)) (z06.on hv hY) (fun _ h => h)).mono (by rintro e w' ⟨rfl,hx⟩; exact ⟨by simp,hx⟩))
 have CI:=hid (fun (Y:World) (hY:Ext w12 Y) => zh0 (z06.on HPF12.out hY) (z1r.on HL12.out hY) (HVP12.out.to (Kept.ext hY (fun _ h => h)) (zbe hY)) (z1r.on HVC12.out hY) (z06.on HVR12.out hY))
 have CM:=hid (fun (Y:World) (hY:Ext w12 Y) => ztl (z1r.on HL12.out hY))
 have CN:=hid (fun (Y:World) (b:Nat) (hY:Ext w12 Y) (g0:Y.cell? ⟨b,0,none⟩ = some (.slice a8 nB c8)) (g1:Y.cell? ⟨b,1,none⟩ = some (.slice a6 nA c6)) => ztm (zh1 (z0s g0) g0 g1 (z06.on HPB12.out hY) (z06.on HPA12.out hY)))
 have x0:Ext wd wd.drew:=Below.drew (Ext.refl wd)
 have S0:=HFS.out _ x0
 have HWD:=hid hwd
 have HBD:=hid hbd
 clear hwd hbd h0 h1 h2
 go_wp2
 rw [← HWD.out,← HBD.out]
 go_region_held3 (fun Y => Y.cell? ⟨bd,0,none⟩ = some (.slice (some ⟨bp,op,none⟩) 2 cp) ∧ Y.cell? ⟨bd,1,none⟩ = some (.slice ac 2 cc) ∧ Y.cell? ⟨bd,2,none⟩ = some (.slice ar nr cr) ∧ Y.cell? ⟨bp,op,none⟩ = some (.int .i64 1) ∧ Y.cell? ⟨bp,op + 1,none⟩ = some (.int .i64 2) ∧ Y.cell? ⟨bL,0,none⟩ = some (.slice a6 nA c6) ∧ Y.cell? ⟨bL,1,none⟩ = some (.slice a8 nB c8)) (first | exact S0 | exact S1 | exact S2 | exact S3 | exact S4 | exact S5 | exact S6 | exact HFS.out _ ((Ext.refl wd).alloc _).drew | exact HFS.out _ (HZ.out.alloc _))
  (first
   | (go_at_call 14; with_reducible refine (CS.out _).mono ?_
      rintro e u1 ⟨v1,rfl,hv,hx⟩
      have HZ:Hid (Ext wd u1):=hid (Ext.trans (by first | exact x0 | exact ((Ext.refl wd).alloc _).drew) hx)
      have S1:=HFS.out _ HZ.out
      (try (have HN:Hid (u1.cell? ⟨wd.heap.size,0,none⟩ = some (.slice a8 nB c8) ∧ u1.cell? ⟨wd.heap.size,1,none⟩ = some (.slice a6 nA c6)):=hid ⟨hx.cell (z38 wd _ _ _).1,hx.cell (z38 wd _ _ _).2⟩))
      have HQ:=hid (RTs.old hv New.lt); have qf:∃ a c,v1 = Value.slice a 1 c:=hv.form; obtain ⟨aq,cq,rfl⟩:=qf; clear hx hv)
   | (go_at_call 15; with_reducible refine (CP.out _ _ _ HQ.out (by first | exact Ext.refl _ | exact (Ext.refl _).alloc _)).mono ?_
      rintro e u2 ⟨v2,rfl,hv,hx⟩
      have HZ:Hid (Ext wd u2):=hid ((HZ.out.trans (by first | exact Ext.refl _ | exact (Ext.refl _).alloc _)).trans hx)
      have S2:=HFS.out _ HZ.out
      (try (have HN:=hid (And.intro (hx.cell HN.out.1) (hx.cell HN.out.2))))
      (try (have HN:Hid (u2.cell? ⟨u1.heap.size,0,none⟩ = some (.slice a8 nB c8) ∧ u2.cell? ⟨u1.heap.size,1,none⟩ = some (.slice a6 nA c6)):=hid ⟨hx.cell (z38 u1 _ _ _).1,hx.cell (z38 u1 _ _ _).2⟩))
      have HQ:=hid (z06.old hv New.lt); obtain ⟨at2,ct2,rfl⟩:=hv.form; obtain ⟨nt2,hnt⟩:∃ n,n = (ofP k162).length:=⟨_,rfl⟩; rw [← hnt] at HQ; rw [← hnt]; clear hx hv hnt)
   | (go_at_call 17; with_reducible refine (CE.out _ _ _ (HXD.out.trans HZ.out) HQ.out (by first | exact Ext.refl _ | exact (Ext.refl _).alloc _)).mono ?_
      rintro e u3 ⟨rfl,hx⟩
      have HZ:Hid (Ext wd u3):=hid ((HZ.out.trans (by first | exact Ext.refl _ | exact (Ext.refl _).alloc _)).trans hx)
      have S3:=HFS.out _ HZ.out
      (try (have HN:=hid (And.intro (hx.cell HN.out.1) (hx.cell HN.out.2))))
      (try (have HN:Hid (u3.cell? ⟨u2.heap.size,0,none⟩ = some (.slice a8 nB c8) ∧ u3.cell? ⟨u2.heap.size,1,none⟩ = some (.slice a6 nA c6)):=hid ⟨hx.cell (z38 u2 _ _ _).1,hx.cell (z38 u2 _ _ _).2⟩))
      clear hx)
   | (go_at_call 18; with_reducible refine (CI.out _ ((HXD.out.trans HZ.out).trans (by first | exact Ext.refl _ | exact (Ext.refl _).alloc _))).mono ?_
      rintro e u4 ⟨rfl,hx⟩
      have HZ:Hid (Ext wd u4):=hid ((HZ.out.trans (by first | exact Ext.refl _ | exact (Ext.refl _).alloc _)).trans hx)
      have S4:=HFS.out _ HZ.out
      (try (have HN:=hid (And.intro (hx.cell HN.out.1) (hx.cell HN.out.2))))
      (try (have HN:Hid (u4.cell? ⟨u3.heap.size,0,none⟩ = some (.slice a8 nB c8) ∧ u4.cell? ⟨u3.heap.size,1,none⟩ = some (.slice a6 nA c6)):=hid ⟨hx.cell (z38 u3 _ _ _).1,hx.cell (z38 u3 _ _ _).2⟩))
      clear hx)
   | (go_at_call_of 19 (Value.slice (some ⟨bL,0,none⟩) 2 2); with_reducible refine (CM.out _ ((HXD.out.trans HZ.out).trans (by first | exact Ext.refl _ | exact (Ext.refl _).alloc _))).mono ?_
      rintro e u5 ⟨rfl,hx⟩
      have HZ:Hid (Ext wd u5):=hid ((HZ.out.trans (by first | exact Ext.refl _ | exact (Ext.refl _).alloc _)).trans hx)
      have S5:=HFS.out _ HZ.out
      (try (have HN:=hid (And.intro (hx.cell HN.out.1) (hx.cell HN.out.2))))
      (try (have HN:Hid (u5.cell? ⟨u4.heap.size,0,none⟩ = some (.slice a8 nB c8) ∧ u5.cell? ⟨u4.heap.size,1,none⟩ = some (.slice a6 nA c6)):=hid ⟨hx.cell (z38 u4 _ _ _).1,hx.cell (z38 u4 _ _ _).2⟩))
      clear hx)
   | (go_at_call 19
      first
       | with_reducible refine (CN.out _ _ (HXD.out.trans HZ.out) HN.out.1 HN.out.2).mono ?_
       | with_reducible refine (CN.out _ _ ((HXD.out.trans HZ.out).trans ((Ext.refl _).alloc _)) (z38 u5 _ _ _).1 (z38 u5 _ _ _).2).mono ?_
      rintro e u6 ⟨rfl,hx⟩
      have HZ:Hid (Ext wd u6):=hid ((HZ.out.trans (by first | exact Ext.refl _ | exact (Ext.refl _).alloc _)).trans hx)
      have S6:=HFS.out _ HZ.out
      clear hx))
 all_goals
  go_wp2
  go_ret
  exact ⟨rfl,HXW.out.trans HZ.out⟩
 end
section
open Go.RowKit Go.Deep
theorem z1r.src_all {S:Nat → Prop} {w:World} {A:Option Addr} {n cap:Nat} {l:List (List RTerm)} (h:z1r S w (.slice A n cap) l):∃ xs,zcs w A n 1 xs ∧ zv5 S w xs l:=by
 obtain ⟨b,off,⟨a',cap',h1,h2,h3,h4,h5⟩,hc⟩:=h
 obtain ⟨rfl,rfl,rfl⟩:A = a' ∧ n = l.length ∧ cap = cap':=by simpa using h1
 obtain ⟨xs,hl,hx⟩:=z4t (n:=l.length) (p:=fun j (vp:Value) => w.cell? ⟨b,off + j,none⟩ = some vp ∧ (∃ a n c,vp = .slice a n c) ∧ ∀ p,l[j]? = some p → z06 S w vp p) (fun j hj => by
  obtain ⟨p,hp⟩:=z01 hj
  obtain ⟨vp,k1,k2⟩:=hc j p hp
  obtain ⟨a,c,e⟩:=k2.form
  exact ⟨vp,k1,⟨a,_,c,e⟩,fun q hq => by rw [hp] at hq; cases hq; exact k2⟩)
 refine ⟨xs,⟨by rw [hl,Nat.mul_one],fun u hu => ?_,fun h0 => ⟨_,h4 h0,fun j u hj => ?_⟩⟩,hl,fun j p hj => ?_⟩
 ·obtain ⟨j,hj⟩:=List.getElem?_of_mem hu
  obtain ⟨-,⟨a,n,c,rfl⟩,-⟩:=hx j u hj
  rfl
 ·rw [z8d]
  exact (hx j u hj).1
 ·obtain ⟨vp,hv⟩:=z01 (l:=xs) (j:=j) (by rw [hl]; exact z05 hj)
  exact ⟨vp,hv,(hx j vp hv).2.2 p hj⟩
section
variable {P:Program}
theorem z8j (w:World) {ops:Array Oper} {rest:List Oper} {o:Oper} {a:Act} {Q:Exit → Act → World → Prop} (hw:Region.wanted o (yielded ops a.tmps) = true) (s x:Operand) (t:TypeId)
  (ho:o.op = .call { callee:=.builtin .append,args:=#[s,x],argTypes:=#[t,t] })
  (base:Nat) (e:TypeId) (i:TypeInfo) (z:Value) (size bytes:Nat) (ht:P.underlying t = some (.slice e)) (hi:P.info? e = some i) (hz:i.zero = some z)
  (hsize:i.size = size) (hby:i.bytes = bytes) (hzs:z.cells.size = size) (hsz:0 < size)
  (v:Value) (n:Nat) (xs:List Value) (hs:a.eval s = v) (hown:w.ownsRow base e size v n xs)
  (A:Option Addr) (m c:Nat) (news:List Value) (hx:a.eval x = .slice A m c) (hsrc:zcs w A m size news)
  (h63:n + m ≤ maxLen) (hbytes:(n + m) * bytes ≤ 140737488355328) (hbase:base ≤ w.heap.size)
  (h:∀ v' w',w'.ownsRow base e size v' (n + m) (xs ++ news) → w.grownBy w' v.ownBlock → (v'.ownBlock = v.ownBlock ∨ v'.ownBlock = some w.heap.size) → wpList P ops Q rest (a.put o.dst v') w'):wpList P ops Q (o :: rest) a w:=by
 obtain ⟨v',w',hrun,h2,h3,h4⟩:=z5l (P:=P) w base t o.type e i z size bytes ht hi hz hsize hby hzs hsz v n xs hown A m c news hsrc h63 hbytes hbase
 refine wpList_step fun K hK => ?_
 rw [if_pos hw]
 unfold Oper.wp execOp
 simp only [ho,resolve,invoke,builtin,Sem.run_bind,Sem.run_pure,Result.andThen_ok,List.map_toArray,List.map_cons,List.map_nil,hs,hx,hrun]
 exact hK _ _ (h v' w' h2 h3 h4)
end
theorem z9c {S:Nat → Prop} (W:World) {ops:Array Oper} {rest:List Oper} {o:Oper} {a:Act} {Q:Exit → Act → World → Prop} (hgd:Region.wanted o (yielded ops a.tmps) = true) (s x:Operand)
  (ho:o.op = .call { callee:=.builtin .append,args:=#[s,x],argTypes:=#[24,24] }) (vf:Value) (A:Option Addr) (m c:Nat) (f:List RTerm) (l:List (List RTerm))
  (hs:a.eval s = .slice (some ⟨W.heap.size,0,none⟩) 1 1) (hx:a.eval x = .slice A m c) (hf:z06 S W vf f) (hl:z1r S W (.slice A m c) l) (hS:∀ k,S k → k < W.heap.size) (hm:m ≤ 5864062014800)
  (h:∀ v' w',z1r (Plus S W w') w' v' (f :: l) → Ext W w' → wpList Tryz.prog ops Q rest (a.put o.dst v') w'):wpList Tryz.prog ops Q (o :: rest) a (W.alloc (.cells #[vf] 23)):=by
 obtain ⟨i,hi,hz0,hz1,hz2⟩:=info_parts Tryz.infoPoly
 have hxa:=Ext.alloc (Ext.refl W) (.cells #[vf] 23)
 obtain ⟨xs,hsrc,hc⟩:=(hl.to (Kept.ext hxa hS) (fun _ h => h)).src_all
 obtain ⟨af,cf,hvf⟩:=hf.form
 have hml:m = l.length:=by
  obtain ⟨a',c',e⟩:=hl.form
  simpa using congrArg (fun v => match v with | Value.slice _ n _ => n | _ => 0) e
 refine z8j _ hgd s x 24 ho W.heap.size 23 i (.slice none 0 0) 1 24 Tryz.underlying24 hi hz0 hz1 hz2 rfl (by decide) _ 1 [vf] hs (World.ownsRow_lit (size:=1) W #[vf] 1 (Nat.le_refl _) (by decide) rfl) A m c xs hx hsrc (by unfold maxLen; omega) (by omega) (by rw [z02]; omega) (fun v' w' k1 k2 _ => h v' w' ?_ ?_)
 ·have hg:Ext W w':=z2r hxa (World.ownsRow_lit (size:=1) W #[vf] 1 (Nat.le_refl _) (by decide) rfl) k2
  refine zpk (l:=f :: l) (by rw [List.length_cons,← hml,Nat.add_comm]; exact k1) ⟨by rw [List.length_append,hc.1]; simp; omega,fun j p hj => ?_⟩ (fun k h1 h2 => .inr ⟨h1,h2⟩)
  cases j with
  | zero =>
   obtain rfl:f = p:=by simpa using hj
   exact ⟨vf,rfl,hf.to (Kept.ext hg hS) (fun _ h => .inl h)⟩
  | succ j =>
   obtain ⟨vp,g1,-⟩:=hc.2 j p (by simpa using hj)
   have hl2:=hl
   obtain ⟨vp2,g3,g4⟩:=hc.2 j p (by simpa using hj)
   refine ⟨vp,by simpa using g1,?_⟩
   rw [g3] at g1
   obtain rfl:vp2 = vp:=by simpa using g1
   have hgx:Kept S (W.alloc (.cells #[vf] 23)) w':=fun k hk => (hg.block k (hS k hk)).trans (hxa.block k (hS k hk)).symm
   exact g4.to hgx (fun _ h => .inl h)
 ·exact z2r hxa (World.ownsRow_lit (size:=1) W #[vf] 1 (Nat.le_refl _) (by decide) rfl) k2
end
section
open Go.RowKit
theorem zce {W:World} {vm vf vl:Value} {fs:List RTerm} {ls:List (List RTerm)} (hvm:∃ a,vm = .pointer a) (hf:z06 (Old W) W vf fs) (hl:z1r (Old W) W vl ls)
  (sf:z3r fs) (sl:z70 ls) (hno:(mayT fs && mayC 0 ls) = false) :
  Calls Tryz.prog 7 #[vm,vf,vl] W fun e W' => e = .returned (.tuple #[.slice none 0 0,.slice none 0 0,.int .i64 2]) ∧ Ext W W':=by
 have hnot:∀ (x:Bool) (w:World),(Op.unary .not (.bool x)).run Tryz.prog w = .ok (.bool (!x)) w:=fun _ _ => rfl
 have C1:=z4i (S:=Old W) vf fs W hf (fun _ h => h) sf
 have C2:=fun (Y:World) (hY:Ext W Y) => z76 (S:=Old W) vl ls Y (hl.ext hY (fun _ h => h)) (fun k h => Nat.lt_of_lt_of_le h hY.size) sl
 generalize mayT fs = b1 at C1 hno
 generalize mayC 0 ls = b2 at C2 hno
 obtain ⟨pa,rfl⟩:=hvm
 obtain ⟨af,cf,rfl⟩:=hf.form
 obtain ⟨al,cl,rfl⟩:=hl.form
 generalize fs.length = nf at *
 generalize ls.length = nl at *
 have HC1:=hid C1
 have HC2:=hid C2
 clear hf hl sf sl C1 C2
 cases b1 with
 | false =>
  clear hno
  go_enter Tryz.func7,Tryz.ntmps7
  go_wp2_with fail
  with_reducible refine HC1.out.mono ?_
  rintro e w1 ⟨rfl,hx⟩
  have HX1:=hid hx
  clear hx
  go_wp2
  all_goals
   refine bodyPost_ret (v:=.tuple #[.slice none 0 0,.slice none 0 0,.int .i64 2]) (by simp [results,Tryz.results7,go_sem]) rfl ?_
   exact ⟨rfl,HX1.out⟩
 | true =>
  obtain rfl:b2 = false:=by simpa using hno
  clear hno
  go_enter Tryz.func7,Tryz.ntmps7
  go_wp2_with fail
  with_reducible refine HC1.out.mono ?_
  rintro e w1 ⟨rfl,hx⟩
  have HX1:=hid hx
  clear hx
  go_wp2_with fail
  with_reducible refine (HC2.out _ HX1.out).mono ?_
  rintro e w2 ⟨rfl,hx⟩
  have HX2:=hid (HX1.out.trans hx)
  clear hx
  go_wp2
  all_goals
   refine bodyPost_ret (v:=.tuple #[.slice none 0 0,.slice none 0 0,.int .i64 2]) (by simp [results,Tryz.results7,go_sem]) rfl ?_
   exact ⟨rfl,HX2.out⟩
end
section
open Go.RowKit
def zdl (t:RTerm):Bool:=decide (3 < t.c.mag.length) || t.m.any fun x => decide (4 < x.2)
def zaj (ts:List RTerm):Bool:=z6m 6 ts || ts.any zdl
def z4d (ls:List (List RTerm)):Bool:=ls.any zaj || decide (5 < ls.length)
theorem zi8 {W:World} {S:Nat → Prop} (v:Value) (ls:List (List RTerm)) (h:z1r S W v ls) (hS:∀ k,S k → k < W.heap.size) :
  Calls Tryz.prog 4 #[v] W fun e w' => e = .returned (.bool (z4d ls)) ∧ Ext W w':=by
 have H:=hid h
 have hll:=h.len_le
 obtain ⟨a,cap,rfl⟩:=h.form
 obtain ⟨n,hnn⟩:∃ n,n = ls.length:=⟨_,rfl⟩
 rw [← hnn] at H hll ⊢
 have HN:=hid hnn
 clear h hnn
 go_enter Tryz.func4,Tryz.ntmps4
 go_wp2
 go_loopw [9] (fun i wr => ∃ k:Nat,k ≤ n ∧ i = .int .i64 k ∧ Ext W wr ∧ Hid ((ls.take k).any zaj = false)) (fun i _ => n - (intOf i).toNat)
 case atStart => exact ⟨0,Nat.zero_le _,rfl,Ext.refl _,hid rfl⟩
 case round =>
  obtain ⟨k,hk,rfl,hx,HA⟩:=hrel
  have HX:=hid hx
  by_cases hlt:k < n
  ·obtain ⟨p,hp⟩:=z01 (l:=ls) (j:=k) (by rw [← HN.out]; exact hlt)
   obtain ⟨bl,off,vp,rfl,-,hn1,hm1,hSb,h1,h2⟩:=(H.out.ext hx hS).cellAt hp
   have HTP:Hid (ls.take (k + 1) = ls.take k ++ [p]):=hid (by rw [List.take_add_one,hp]; rfl)
   have HQP:=hid (List.mem_of_getElem? hp)
   have HSX:=hid (z08 hS hx)
   have hlp:=h2.len_le
   have C:=zi2 (S:=S) vp p 6 wr h2 HSX.out (by omega)
   have HV:=hid h2
   obtain ⟨ap,cp,rfl⟩:=h2.form
   obtain ⟨np,hnp⟩:∃ n,n = p.length:=⟨_,rfl⟩
   rw [← hnp] at HV C h1 hlp
   have HNP:=hid hnp
   clear h2 hp hx hnp
   cases hg:z6m 6 p with
   | true =>
    rw [hg] at C
    have HFT:Hid (z4d ls = true):=hid (by unfold z4d; rw [List.any_eq_true.2 ⟨p,HQP.out,by unfold zaj; rw [hg]; rfl⟩]; rfl)
    have HC:=hid C
    clear C hg
    go_wp2_with fail
    with_reducible refine HC.out.mono ?_
    rintro e w1 ⟨rfl,hx1⟩
    have HX1:=hid (HX.out.trans hx1)
    clear hx1
    go_wp2
    all_goals
     go_ret
     exact ⟨by rw [HFT.out]; rfl,HX1.out⟩
   | false =>
    rw [hg] at C
    have HG:Hid (z6m 6 p = false):=hid hg
    have HC:=hid C
    clear C hg
    go_wp2_with fail
    with_reducible refine HC.out.mono ?_
    rintro e w1 ⟨rfl,hx1⟩
    have HX1:=hid (HX.out.trans hx1)
    have HX1':=hid hx1
    clear hx1
    go_wp2
    go_loopw [17] (fun i wy => ∃ k:Nat,k ≤ np ∧ i = .int .i64 k ∧ Ext w1 wy ∧ Hid ((p.take k).any zdl = false)) (fun i _ => np - (intOf i).toNat)
    case atStart => exact ⟨0,Nat.zero_le _,rfl,Ext.refl _,hid rfl⟩
    case round =>
     obtain ⟨j,hj,rfl,hx,HM⟩:=hrel
     have HXY:=hid (HX1.out.trans hx)
     have HXR:=hid hx
     by_cases hltj:j < np
     ·obtain ⟨t,ht⟩:=z01 (l:=p) (j:=j) (by rw [← HNP.out]; exact hltj)
      obtain ⟨b,offt,vm,vo,rfl,-,hq1,hmm1,hSbt,h1',h2,h3,h4,h5⟩:=(HV.out.to (S':=Old wr) (Kept.ext (HX1'.out.trans hx) HSX.out) (fun k hk => Nat.lt_of_lt_of_le (HSX.out k hk) (HX1'.out.trans hx).size)).cellAt ht
      have HT:Hid (p.take (j + 1) = p.take j ++ [t]):=hid (by rw [List.take_add_one,ht]; rfl)
      have HQ:=hid (List.mem_of_getElem? ht)
      have hl1:=h4.len_le
      have hl2:=h5.len_le
      have H5:=hid h5
      obtain ⟨am,cm,rfl⟩:=h4.form
      obtain ⟨ao,co,rfl⟩:=h5.form
      obtain ⟨x1,hx1⟩:∃ n,n = t.c.mag.length:=⟨_,rfl⟩
      obtain ⟨y1,hy1⟩:∃ n,n = t.m.length:=⟨_,rfl⟩
      have HX1'':=hid hx1
      have HY1:=hid hy1
      rw [← hx1] at h2 hl1
      rw [← hy1] at h3 hl2 H5
      have HC3:=hid h3
      clear hx ht h1' h4 h5 hx1 hy1
      by_cases hbig:3 < x1
      ·have HFT:Hid (z4d ls = true):=hid (by unfold z4d; rw [List.any_eq_true.2 ⟨p,HQP.out,by unfold zaj; rw [List.any_eq_true.2 ⟨t,HQ.out,by unfold zdl; rw [← HX1''.out,decide_eq_true hbig]; rfl⟩,Bool.or_true]⟩]; rfl)
       go_wp2
       all_goals
        go_ret
        exact ⟨by rw [HFT.out]; rfl,HXY.out⟩
      ·have HNB:Hid (decide (3 < t.c.mag.length) = false):=hid (by rw [← HX1''.out]; exact decide_eq_false hbig)
       have hle:(x1:Int) ≤ 3:=by omega
       clear hbig
       go_wp2
       go_loopw [34] (fun j wx => ∃ m:Nat,m ≤ y1 ∧ j = .int .i64 m ∧ Ext wr wx ∧ Hid ((t.m.take m).any (fun x => decide (4 < x.2)) = false)) (fun j _ => y1 - (intOf j).toNat)
       case atStart => exact ⟨0,Nat.zero_le _,rfl,Ext.refl _,hid rfl⟩
       case round =>
        obtain ⟨m,hm,rfl,hx2,HM2⟩:=hrel
        have HX2:=hid (HXY.out.trans hx2)
        have HX2':=hid hx2
        have g3:=hx2.cell HC3.out
        by_cases hlt2:m < y1
        ·obtain ⟨z,hz⟩:=z01 (l:=t.m) (j:=m) (by rw [← HY1.out]; exact hlt2)
         obtain ⟨bo,oo,rfl,-,hn2,hm2,-,⟨hz0,hz1⟩,k1,k2⟩:=(Pows.on H5.out hx2).cellAt hz
         have HZ:Hid (t.m.take (m + 1) = t.m.take m ++ [z]):=hid (by rw [List.take_add_one,hz]; rfl)
         have HZQ:=hid (List.mem_of_getElem? hz)
         obtain ⟨z2,hz2⟩:∃ n,n = z.2:=⟨_,rfl⟩
         have HZ2:=hid hz2
         rw [← hz2] at k2 hz1
         obtain ⟨hz3,hz4⟩:=hz1
         clear hz hx2 k1 hz0 hz2
         by_cases hb2:4 < z2
         ·have HFT:Hid (z4d ls = true):=hid (by
           unfold z4d
           rw [List.any_eq_true.2 ⟨p,HQP.out,?_⟩]
           ·rfl
           unfold zaj
           rw [List.any_eq_true.2 ⟨t,HQ.out,?_⟩,Bool.or_true]
           unfold zdl
           rw [List.any_eq_true.2 ⟨z,HZQ.out,by rw [← HZ2.out]; exact decide_eq_true hb2⟩,Bool.or_true])
          go_wp2
          all_goals
           go_ret
           exact ⟨by rw [HFT.out]; rfl,HX2.out⟩
         ·have hle2:z2 ≤ 4:=by omega
          have HND:Hid (decide (4 < z.2) = false):=hid (by rw [← HZ2.out]; exact decide_eq_false hb2)
          clear hb2
          go_wp2
          go_roundw
          case rel => exact ⟨m + 1,by omega,by go_num,HX2'.out,hid (by rw [HZ.out,List.any_append,HM2.out]; simp only [List.any_cons,List.any_nil,HND.out]; rfl)⟩
          case measure => simp only [intOf]; omega
        ·obtain rfl:m = y1:=by omega
         have HNE:Hid (t.m.any (fun x => decide (4 < x.2)) = false):=hid (by have:=HM2.out; rw [HY1.out,List.take_length] at this; exact this)
         clear hx2
         go_wp2
         go_roundw
         case rel => exact ⟨j + 1,by omega,by go_num,HXR.out.trans HX2'.out,hid (by rw [HT.out,List.any_append,HM.out]; simp only [List.any_cons,List.any_nil,zdl,HNB.out,HNE.out]; rfl)⟩
         case measure => simp only [intOf]; omega
     ·obtain rfl:j = np:=by omega
      have HPE:Hid (zaj p = false):=hid (by unfold zaj; have:=HM.out; rw [HNP.out,List.take_length] at this; rw [this,HG.out]; rfl)
      clear hx
      go_wp2
      go_roundw
      case rel => exact ⟨k + 1,by omega,by go_num,HXY.out,hid (by rw [HTP.out,List.any_append,HA.out]; simp only [List.any_cons,List.any_nil,HPE.out]; rfl)⟩
      case measure => simp only [intOf]; omega
  ·obtain rfl:k = n:=by omega
   have HFE:Hid (z4d ls = decide ((k:Int) > 5)):=hid (by unfold z4d; have:=HA.out; rw [HN.out,List.take_length] at this; rw [this,← HN.out,Bool.false_or]; exact decide_eq_decide.2 (by omega))
   clear hx
   go_wp2
   all_goals
    go_ret
    exact ⟨by rw [HFE.out]; rfl,HX.out⟩
end
section
open Go.RowKit
theorem zyu {ts:List RTerm} (h:zaj ts = false):ts.length ≤ 6 ∧ ∀ t ∈ ts,t.c.mag.length ≤ 3 ∧ ∀ y ∈ t.m,y.2 ≤ 4:=by
 unfold zaj at h
 rw [Bool.or_eq_false_iff] at h
 obtain ⟨h1,h2⟩:=h
 have h3:=zoc (n:=6) h1
 refine ⟨h3.1,fun t ht => ?_⟩
 have h4:=(List.any_eq_false.1 h2) t ht
 unfold zdl at h4
 rw [Bool.not_eq_true,Bool.or_eq_false_iff] at h4
 refine ⟨by have:=h4.1; rw [decide_eq_false_iff_not] at this; omega,fun y hy => ?_⟩
 have:=(List.any_eq_false.1 h4.2) y hy
 rw [decide_eq_true_eq] at this
 omega
theorem zpq {ts:List RTerm} (h:zaj ts = false):z3r ts:=fun t ht => Nat.le_trans ((zyu h).2 t ht).1 (by decide)
theorem zpr {ts:List RTerm} (hok:okT ts) (h:zaj ts = false):Fit 3 6 (z0q ts) ∧ exB 4 (z0q ts):=by
 have h1:=zyu h
 refine ⟨zor hok (fun t ht => (h1.2 t ht).1) h1.1,fun t ht u => ?_⟩
 unfold z0q at ht
 split at ht
 ·obtain ⟨y,hy,rfl⟩:=List.mem_map.1 ht
  exact zys (by decide) (h1.2 y hy).2 u
 ·simp at ht
theorem zly {ls:List (List RTerm)} (h:z4d ls = false):(∀ p ∈ ls,zaj p = false) ∧ ls.length ≤ 5:=by
 unfold z4d at h
 rw [Bool.or_eq_false_iff] at h
 refine ⟨fun p hp => by have:=(List.any_eq_false.1 h.1) p hp; rwa [Bool.not_eq_true] at this,?_⟩
 have:=h.2
 rw [decide_eq_false_iff_not] at this
 omega
end
section
open Go.RowKit
end
section
open Go.RowKit
def mayZ (c:Int):List PZ → Bool
 | [] => true
 | p :: l => if c < z0t p then mayZ (z0t p) l else false
theorem zyv {l:List PZ} (h:∀ p ∈ l,canP p):∀ c,mayC c (l.map ofP) = mayZ c l:=by
 induction l with
 | nil => intro c; rfl
 | cons p l ih =>
  intro c
  have hp:=h p (List.mem_cons_self ..)
  show (if mayT (ofP p) && decide (c < z0t (z0q (ofP p))) then mayC (z0t (z0q (ofP p))) (l.map ofP) else false) = _
  rw [z7e hp,z7n hp,ih (fun q hq => h q (List.mem_cons_of_mem _ hq)),mayZ,Bool.true_and]
  by_cases g:c < z0t p
  ·rw [decide_eq_true g,if_pos rfl,if_pos g]
  ·rw [decide_eq_false g,if_neg (by decide),if_neg g]
end
section
open Go.RowKit
end
section
open Go.RowKit
end
section
open Go.RowKit
theorem zps {l:List (List RTerm)} (h:∀ p ∈ l,p = ofP (z0q p)):(l.map z0q).map ofP = l:=by
 induction l with
 | nil => rfl
 | cons p r ih => rw [List.map_cons,List.map_cons,← h p (by simp),ih (fun q hq => h q (by simp [hq]))]
end
section
open Go.RowKit Go.Deep
theorem ztn {l:List (List RTerm)}:∀ {c:Int},mayC c l = true → l.all mayT = true:=by
 induction l with
 | nil => intro c _; rfl
 | cons p r ih =>
  intro c h
  rw [mayC] at h
  split at h
  ·rename_i h1
   rw [Bool.and_eq_true] at h1
   rw [List.all_cons,h1.1,ih h]
   rfl
  ·cases h
theorem zto {w:World} {v:Value} {ls:List (List RTerm)} (h:z1r (Old w) w v ls) (hm:ls.all mayT = true):∀ p ∈ ls,okT p ∧ p = ofP (z0q p):=fun p hp => by
 obtain ⟨j,hj⟩:=List.getElem?_of_mem hp
 obtain ⟨b,off,-,hc⟩:=h
 obtain ⟨vp,-,ht⟩:=hc j p hj
 exact ⟨ht.okT,zye ht (List.all_eq_true.1 hm p hp)⟩
theorem zas:z45 12 1000 1000 0:=⟨⟨by decide,by decide⟩,⟨by decide,by decide⟩,⟨by decide,by decide⟩,by decide,by decide⟩
structure Plain16 (f:List RTerm) (l:List (List RTerm)) (F:PZ) (L:List PZ):Prop where
 ef:f = ofP F
 el:L.map ofP = l
 cf:canP F
 cl:∀ p ∈ L,canP p
 hz:mayZ 0 L = true
 hc:mayC 0 (L.map ofP) = true
 okf:okT f
 okl:∀ t ∈ l,okT t
 pf:F = z0q f
 pl:L = l.map z0q
theorem zh2 {w:World} {vf vl:Value} {f:List RTerm} {l:List (List RTerm)} (hf:z06 (Old w) w vf f) (hl:z1r (Old w) w vl l) (h:(mayT f && mayC 0 l) = true):Plain16 f l (z0q f) (l.map z0q):=by
 rw [Bool.and_eq_true] at h
 have h1:=zto hl (ztn h.2)
 have h2:(l.map z0q).map ofP = l:=zps (fun p hp => (h1 p hp).2)
 have h3:∀ p ∈ l.map z0q,canP p:=fun p hp => by
  obtain ⟨t,-,rfl⟩:=List.mem_map.1 hp
  exact z3e t
 have h4:=zyv h3 0
 exact ⟨zye hf h.1,h2,z3e f,h3,by rw [← h4,h2]; exact h.2,by rw [h2]; exact h.2,hf.okT,fun t ht => (h1 t ht).1,rfl,rfl⟩
end
section
def evQ (g:Mono → Rat):PZ → Rat
 | [] => 0
 | t :: r => (t.1:Rat) * g t.2 + evQ g r
theorem z9u (g:Mono → Rat) (p q:PZ):evQ g (p ++ q) = evQ g p + evQ g q:=by
 induction p with
 | nil => simp [evQ,Rat.zero_add]
 | cons t r ih => simp only [List.cons_append,evQ,ih,Rat.add_assoc]
theorem zi9 (q:Rat):((q.den:Int):Rat) * q = (q.num:Rat):=by
 have hd:((q.den:Int):Rat) ≠ 0:=fun e => q.den_nz (Int.natCast_eq_zero.1 (Rat.intCast_eq_zero_iff.1 e))
 have h4:q = (q.num:Rat) / ((q.den:Int):Rat):=by rw [← Rat.divInt_eq_div,Rat.num_divInt_den]
 have h5:((q.den:Int):Rat) * ((q.num:Rat) / ((q.den:Int):Rat)) = (q.num:Rat):=by
  rw [Rat.div_def,← Rat.mul_assoc,Rat.mul_comm _ (q.num:Rat),Rat.mul_assoc,Rat.mul_inv_cancel _ hd,Rat.mul_one]
 rw [← h4] at h5
 exact h5
theorem zlz (g:Mono → Rat) (L:List Mono):∃ D:Int,D ≠ 0 ∧ ∀ m ∈ L,∃ z:Int,(z:Rat) = (D:Rat) * g m:=by
 induction L with
 | nil => exact ⟨1,by decide,fun m hm => by cases hm⟩
 | cons a r ih =>
  obtain ⟨D,hD,h⟩:=ih
  refine ⟨D * ((g a).den:Int),Int.mul_ne_zero hD (Int.natCast_ne_zero.2 (g a).den_nz),fun m hm => ?_⟩
  rcases List.mem_cons.1 hm with rfl | hm
  ·refine ⟨D * (g m).num,?_⟩
   rw [Rat.intCast_mul,Rat.intCast_mul,Rat.mul_assoc,zi9]
  ·obtain ⟨z,hz⟩:=h m hm
   refine ⟨z * ((g a).den:Int),?_⟩
   rw [Rat.intCast_mul,Rat.intCast_mul,hz,Rat.mul_assoc,Rat.mul_assoc,Rat.mul_comm (g m)]
theorem zh3 (g:Mono → Rat) (f:Mono → Int) (D:Int) (p:PZ) (h:∀ t ∈ p,(f t.2:Rat) = (D:Rat) * g t.2):((ev f p:Int):Rat) = (D:Rat) * evQ g p:=by
 induction p with
 | nil => simp [ev,evQ,Rat.mul_zero]
 | cons t r ih =>
  simp only [ev,evQ]
  rw [Rat.intCast_add,Rat.intCast_mul,h t (List.mem_cons_self ..),ih (fun u hu => h u (List.mem_cons_of_mem _ hu)),Rat.mul_add,← Rat.mul_assoc,Rat.mul_comm (t.1:Rat) (D:Rat),Rat.mul_assoc]
theorem zpt {p q:PZ} (h:Eqv p q) (g:Mono → Rat):evQ g p = evQ g q:=by
 obtain ⟨D,hD,hz⟩:=zlz g ((p ++ q).map fun t => t.2)
 have hz2:∀ t ∈ p ++ q,∃ z:Int,(z:Rat) = (D:Rat) * g t.2:=fun t ht => hz t.2 (List.mem_map.2 ⟨t,ht,rfl⟩)
 classical
 let f:Mono → Int:=fun m => if h:∃ z:Int,(z:Rat) = (D:Rat) * g m then Classical.choose h else 0
 have hf:∀ t ∈ p ++ q,(f t.2:Rat) = (D:Rat) * g t.2:=fun t ht => by
  have h1:=hz2 t ht
  show ((if h:∃ z:Int,(z:Rat) = (D:Rat) * g t.2 then Classical.choose h else 0:Int):Rat) = _
  rw [dif_pos h1]
  exact Classical.choose_spec h1
 have e1:=zh3 g f D p (fun t ht => hf t (List.mem_append.2 (.inl ht)))
 have e2:=zh3 g f D q (fun t ht => hf t (List.mem_append.2 (.inr ht)))
 rw [h f,e2] at e1
 have hD2:(D:Rat) ≠ 0:=fun e => hD (Rat.intCast_eq_zero_iff.1 e)
 have h3:(D:Rat)⁻¹ * ((D:Rat) * evQ g q) = (D:Rat)⁻¹ * ((D:Rat) * evQ g p):=by rw [e1]
 rw [← Rat.mul_assoc,← Rat.mul_assoc,Rat.mul_comm _ (D:Rat),Rat.mul_inv_cancel _ hD2,Rat.one_mul,Rat.one_mul] at h3
 exact h3.symm
theorem ztp (g:Mono → Rat) (p q:PZ) (hp:zed p) (hq:zed q) (hg:∀ a b,okM a = true → okM b = true → g (z0m a b) = g a * g b):evQ g (mulL p q) = evQ g p * evQ g q:=by
 have one:∀ (t:Int × Mono) (q:PZ),okM t.2 = true → zed q → evQ g (q.map fun u => (t.1 * u.1,z0m t.2 u.2)) = (t.1:Rat) * g t.2 * evQ g q:=by
  intro t q ht hq
  induction q with
  | nil => simp [evQ,Rat.mul_zero]
  | cons u r ih =>
   simp only [List.map_cons,evQ]
   rw [ih (fun x hx => hq x (List.mem_cons_of_mem _ hx)),hg _ _ ht (hq u (List.mem_cons_self ..)),Rat.intCast_mul,Rat.mul_add]
   congr 1
   rw [Rat.mul_assoc,Rat.mul_assoc]
   congr 1
   rw [← Rat.mul_assoc,Rat.mul_comm (u.1:Rat) (g t.2),Rat.mul_assoc]
 induction p with
 | nil => simp [mulL,evQ,Rat.zero_mul]
 | cons t r ih =>
  have e:mulL (t :: r) q = (q.map fun u => (t.1 * u.1,z0m t.2 u.2)) ++ mulL r q:=rfl
  rw [e,z9u,one t q (hp t (List.mem_cons_self ..)) hq,ih (fun x hx => hp x (List.mem_cons_of_mem _ hx))]
  simp only [evQ]
  rw [Rat.add_mul]
end
section
theorem ztq {P U3 Ul V2 Vl q:Nat} (hUl:Ul < P) (h:U3 < (q + 1) * V2):U3 * P + Ul < (q + 1) * (V2 * P + Vl):=by
 have h1:(U3 + 1) * P ≤ (q + 1) * V2 * P:=Nat.mul_le_mul_right P h
 rw [Nat.add_mul U3 1 P,Nat.one_mul] at h1
 rw [Nat.mul_add,← Nat.mul_assoc]
 omega
theorem zpu {B P U3 Ul V2 Vl q:Nat} (hVl:Vl < P) (hq:q * V2 ≤ U3) (hqB:q ≤ B) (hV2:B ≤ V2):q * (V2 * P + Vl) ≤ (U3 * P + Ul) + (V2 * P + Vl):=by
 cases q with
 | zero => rw [Nat.zero_mul]; exact Nat.zero_le _
 | succ p =>
  have h1:(p + 1) * V2 * P ≤ U3 * P:=Nat.mul_le_mul_right P hq
  have h2:p * Vl ≤ V2 * P:=Nat.mul_le_mul (by omega) (Nat.le_of_lt hVl)
  rw [Nat.mul_add,← Nat.mul_assoc,Nat.add_mul p 1 Vl,Nat.one_mul]
  omega
def z8k (B top u2 v1 v2 q:Nat):Prop:=B ≤ q + 1 ∨ top * B + u2 < (q + 1) * (v1 * B + v2)
theorem zia {B top u2 v1 v2:Nat} (hu2:u2 < B) (hv1:0 < v1):z8k B top u2 v1 v2 (top / v1):=by
 refine .inr ?_
 have h1:top < (top / v1 + 1) * v1:=by
  have h:=Nat.div_add_mod top v1
  have h2:=Nat.mod_lt top hv1
  rw [Nat.add_mul,Nat.one_mul,Nat.mul_comm]
  omega
 have h3:(top + 1) * B ≤ (top / v1 + 1) * v1 * B:=Nat.mul_le_mul_right B h1
 rw [Nat.add_mul top 1 B,Nat.one_mul] at h3
 rw [Nat.mul_add,← Nat.mul_assoc]
 omega
theorem zdm {B top u2 v1 v2 q r:Nat} (ht:r + q * v1 = top) (hq:0 < q) (hc:B ≤ q ∨ r * B + u2 < q * v2):z8k B top u2 v1 v2 (q - 1):=by
 have e:q - 1 + 1 = q:=by omega
 unfold z8k
 rw [e]
 rcases hc with h | h
 ·exact .inl h
 ·refine .inr ?_
  rw [← ht,Nat.add_mul,Nat.mul_add,← Nat.mul_assoc]
  omega
theorem zm0 {B top u2 v1 v2 q r:Nat} (ht:r + q * v1 = top) (hc:r * B + u2 ≥ q * v2):q * (v1 * B + v2) ≤ top * B + u2:=by
 rw [← ht,Nat.add_mul,Nat.mul_add,← Nat.mul_assoc]
 omega
theorem zh4 {v1 q r top:Nat} (ht:r + q * v1 = top) (hq:0 < q):r + v1 + (q - 1) * v1 = top:=by
 obtain ⟨p,rfl⟩:∃ p,q = p + 1:=⟨q - 1,by omega⟩
 rw [Nat.add_mul,Nat.one_mul] at ht
 rw [Nat.add_sub_cancel]
 omega
theorem zcf {B top u0 u1 u2 v1 v2 q r:Nat} (ht:r + q * v1 = top) (htop:top = u0 * B + u1) (hle:u0 ≤ v1) (hu1:u1 < B) (hv2:v2 < B) (hr:B ≤ r):q < B ∧ q * v2 ≤ r * B + u2:=by
 have hq:q < B:=by
  rcases Nat.lt_or_ge q B with h | h
  ·exact h
  ·have h1:B * v1 ≤ q * v1:=Nat.mul_le_mul_right v1 h
   have h2:u0 * B ≤ v1 * B:=Nat.mul_le_mul_right B hle
   rw [Nat.mul_comm B v1] at h1
   omega
 refine ⟨hq,?_⟩
 have h1:q * v2 ≤ B * B:=Nat.mul_le_mul (by omega) (by omega)
 have h2:B * B ≤ r * B:=Nat.mul_le_mul_right B hr
 omega
theorem ztr {U V q o b M:Nat} (ho:o < M) (hb:b ≤ 1) (h:o + q * V = U + M * b) (hup:U < (q + 1) * V) (hlow:q * V ≤ U + V) (_hU:U < M) (hV:V ≤ M) :
  (b = 0 → q = U / V ∧ o = U % V) ∧ (b = 1 → 0 < q ∧ q - 1 = U / V ∧ (o + V) % M = U % V):=by
 have hV0:0 < V:=by
  rcases Nat.eq_zero_or_pos V with h0 | h0
  ·rw [h0,Nat.mul_zero] at hup; omega
  ·exact h0
 rw [Nat.add_mul,Nat.one_mul] at hup
 refine ⟨fun h0 => ?_,fun h1 => ?_⟩
 ·subst h0
  have e:U = V * q + o:=by rw [Nat.mul_comm V q]; omega
  have hlt:o < V:=by omega
  refine ⟨?_,?_⟩
  ·rw [e,Nat.mul_add_div hV0,Nat.div_eq_of_lt hlt]; omega
  ·rw [e,Nat.mul_add_mod,Nat.mod_eq_of_lt hlt]
 ·subst h1
  rw [Nat.mul_one] at h
  have hq:0 < q:=by
   rcases Nat.eq_zero_or_pos q with h0 | h0
   ·rw [h0,Nat.zero_mul] at h; omega
   ·exact h0
  obtain ⟨p,rfl⟩:∃ p,q = p + 1:=⟨q - 1,by omega⟩
  rw [Nat.add_mul,Nat.one_mul] at h hup hlow
  have e:U = V * p + (o + V - M):=by rw [Nat.mul_comm V p]; omega
  have hlt:o + V - M < V:=by omega
  have hge:M ≤ o + V:=by omega
  refine ⟨hq,?_,?_⟩
  ·rw [e,Nat.mul_add_div hV0,Nat.div_eq_of_lt hlt]; omega
  ·rw [Nat.mod_eq_sub_mod hge,Nat.mod_eq_of_lt (by omega)]
   conv => rhs; rw [e,Nat.mul_add_mod,Nat.mod_eq_of_lt hlt]
section
variable {B:Nat}
theorem z22 (l:List Nat) (k:Nat):val B l = val B (l.take k) + B ^ (min k l.length) * val B (l.drop k):=by
 have h:=z3d (B:=B) (l.take k) (l.drop k)
 rw [List.take_append_drop,List.length_take] at h
 exact h
theorem zts (_hB:0 < B) {l:List Nat} {n:Nat} (hl:l.length = n + 1) (hn:2 ≤ n):val B l = ((dg l n * B + dg l (n - 1)) * B + dg l (n - 2)) * B ^ (n - 2) + val B (l.take (n - 2)):=by
 obtain ⟨m,rfl⟩:∃ m,n = m + 2:=⟨n - 2,by omega⟩
 rw [z22 l m,show min m l.length = m by omega,z1d l m,z1d l (m + 1),z1d l (m + 1 + 1)]
 have e:l.drop (m + 1 + 1 + 1) = []:=List.drop_eq_nil_of_le (by omega)
 rw [e,show m + 2 - 1 = m + 1 by omega,show m + 2 - 2 = m by omega,show m + 1 + 1 = m + 2 by omega,show val B ([]:List Nat) = 0 from rfl]
 rw [Nat.mul_zero,Nat.add_zero,Nat.mul_comm (B ^ m),Nat.add_comm (val B _)]
 congr 1
 rw [Nat.add_comm (dg l m),Nat.mul_comm B,Nat.add_comm (dg l (m + 1)),Nat.mul_comm B,Nat.add_zero]
theorem ztt {l:List Nat} {n:Nat} (hl:l.length = n) (hn:2 ≤ n):val B l = (dg l (n - 1) * B + dg l (n - 2)) * B ^ (n - 2) + val B (l.take (n - 2)):=by
 obtain ⟨m,rfl⟩:∃ m,n = m + 2:=⟨n - 2,by omega⟩
 rw [z22 l m,show min m l.length = m by omega,z1d l m,z1d l (m + 1)]
 have e:l.drop (m + 1 + 1) = []:=List.drop_eq_nil_of_le (by omega)
 rw [e,show m + 2 - 1 = m + 1 by omega,show m + 2 - 2 = m by omega,show val B ([]:List Nat) = 0 from rfl]
 rw [Nat.mul_zero,Nat.add_zero,Nat.mul_comm (B ^ m),Nat.add_comm (val B _)]
 congr 1
 rw [Nat.add_comm (dg l m),Nat.mul_comm B]
theorem zib (hB:2 ≤ B) {us vs:List Nat} {n q r:Nat} (hus:∀ z ∈ us,z < B) (hvs:∀ z ∈ vs,z < B) (hu:us.length = n + 1) (hv:vs.length = n) (hn:2 ≤ n) (hV1:0 < dg vs (n - 1)) (hUV:val B us < B * val B vs)
  (ht:r + q * dg vs (n - 1) = dg us n * B + dg us (n - 1)) (hqB:q < B) (hc:q * dg vs (n - 2) ≤ r * B + dg us (n - 2)) (hok:z8k B (dg us n * B + dg us (n - 1)) (dg us (n - 2)) (dg vs (n - 1)) (dg vs (n - 2)) q) :
  val B us < (q + 1) * val B vs ∧ q * val B vs ≤ val B us + val B vs:=by
 have e1:=zts (by omega:0 < B) hu hn
 have e2:=ztt (B:=B) hv hn
 have hP1:val B (us.take (n - 2)) < B ^ (n - 2):=by
  have h:=z1k (B:=B) (us.take (n - 2)) (fun z hz => hus z (List.mem_of_mem_take hz))
  rwa [List.length_take,show min (n - 2) us.length = n - 2 by omega] at h
 have hP2:val B (vs.take (n - 2)) < B ^ (n - 2):=by
  have h:=z1k (B:=B) (vs.take (n - 2)) (fun z hz => hvs z (List.mem_of_mem_take hz))
  rwa [List.length_take,show min (n - 2) vs.length = n - 2 by omega] at h
 have hd:=zm0 ht hc
 have hV2:B ≤ dg vs (n - 1) * B + dg vs (n - 2):=by
  have:=Nat.le_mul_of_pos_left B hV1
  omega
 refine ⟨?_,?_⟩
 ·rcases hok with h | h
  ·refine Nat.lt_of_lt_of_le hUV (Nat.mul_le_mul_right _ h)
  ·rw [e1,e2]
   exact ztq hP1 h
 ·rw [e1,e2]
  exact zpu hP2 hd (Nat.le_of_lt hqB) hV2
theorem zjq {ps us vs:List Nat} {q i b c x u d b' c':Nat} (hl:ps.length = i) (h:val B ps + q * val B (vs.take i) = val B (us.take i) + B ^ i * (b + c)) (hx:dg vs i = x) (hu:dg us i = u) (he:b + c + q * x + d = u + B * (b' + c')) :
  val B (ps ++ [d]) + q * val B (vs.take (i + 1)) = val B (us.take (i + 1)) + B ^ (i + 1) * (b' + c'):=by
 rw [z57,hl,z1s,z1s,hx,hu,Nat.pow_succ,Nat.mul_assoc (B ^ i) B,Nat.mul_add q]
 have h1:B ^ i * (b + c + q * x + d) = B ^ i * (u + B * (b' + c')):=by rw [he]
 rw [Nat.mul_add,Nat.mul_add (B ^ i) (b + c),Nat.mul_add (B ^ i) u,Nat.mul_left_comm (B ^ i) q x] at h1
 omega
theorem zpv {ps us vs:List Nat} {i c u x:Nat} (hl:ps.length = i) (h:val B ps + B ^ i * c = val B (us.take i) + val B (vs.take i)) (hx:dg vs i = x) (hu:dg us i = u) :
  val B (ps ++ [(c + u + x) % B]) + B ^ (i + 1) * ((c + u + x) / B) = val B (us.take (i + 1)) + val B (vs.take (i + 1)):=by
 rw [z57,hl,z1s,z1s,hx,hu,Nat.pow_succ,Nat.mul_assoc (B ^ i) B]
 have h1:B ^ i * (B * ((c + u + x) / B) + (c + u + x) % B) = B ^ i * (c + u + x):=by rw [Nat.div_add_mod]
 rw [Nat.mul_add,Nat.mul_add,Nat.mul_add] at h1
 omega
structure NDivAt (B A V n:Nat) (u qs:List Nat) (j:Nat):Prop where
 sum:val B u + B ^ j * (V * val B (qs.drop j)) = A
 low:val B (u.drop j) < V
def z2q (u:List Nat) (k n:Nat):List Nat:=(u.drop k).take (n + 1)
def putL (u:List Nat) (k:Nat) (ps:List Nat):List Nat:=u.take k ++ ps ++ u.drop (k + ps.length)
theorem z42 {u:List Nat} {k n:Nat} (h:k + n < u.length):(z2q u k n).length = n + 1:=by
 unfold z2q
 rw [List.length_take,List.length_drop]
 omega
theorem zcg {u:List Nat} {k n i:Nat} (hi:i < n + 1):dg (z2q u k n) i = dg u (k + i):=by
 unfold z2q dg
 rw [List.getElem?_take,if_pos hi,List.getElem?_drop]
theorem zeo {u ps:List Nat} {k:Nat} (h:k + ps.length ≤ u.length):(putL u k ps).length = u.length:=by
 unfold putL
 rw [List.length_append,List.length_append,List.length_take,List.length_drop]
 omega
theorem zep (hB:2 ≤ B) {u:List Nat} {k n V:Nat} (hu:∀ z ∈ u,z < B) (hk:k + n < u.length) (hV:V < B ^ n) (hlow:val B (u.drop (k + 1)) < V) :
  val B u = val B (u.take k) + B ^ k * val B (z2q u k n) ∧ val B (z2q u k n) < B * V ∧ ∀ i,k + n < i → dg u i = 0:=by
 have h1:=z22 (B:=B) u k
 rw [show min k u.length = k by omega] at h1
 have h2:=z22 (B:=B) (u.drop (k + 1)) n
 rw [List.length_drop,show min n (u.length - (k + 1)) = n by omega,List.drop_drop] at h2
 have h3:val B (u.drop (k + 1 + n)) = 0:=by
  rcases Nat.eq_zero_or_pos (val B (u.drop (k + 1 + n))) with h | h
  ·exact h
  ·have:=Nat.le_mul_of_pos_right (B ^ n) h
   omega
 have h4:val B (z2q u k n) = val B (u.drop k):=by
  have h5:=z22 (B:=B) (u.drop k) (n + 1)
  rw [List.drop_drop,show k + (n + 1) = k + 1 + n by omega,h3,Nat.mul_zero,Nat.add_zero] at h5
  exact h5.symm
 refine ⟨by rw [h4]; exact h1,?_,?_⟩
 ·rw [h4,z1d u k]
  have h5:=zk6 (by omega:0 < B) hu k
  have h6:B * (val B (u.drop (k + 1)) + 1) ≤ B * V:=Nat.mul_le_mul_left B hlow
  rw [Nat.mul_add,Nat.mul_one] at h6
  omega
 ·intro i hi
  have h5:=z83 (by omega:0 < B) (l:=u.drop (k + 1 + n)) (k:=0) (by rw [h3]; simp) (i - (k + 1 + n)) (Nat.zero_le _)
  by_cases hl:i < u.length
  ·have h6:=h5 (by rw [List.length_drop]; omega)
   unfold dg at h6 ⊢
   rw [List.getElem?_drop,show k + 1 + n + (i - (k + 1 + n)) = i by omega] at h6
   exact h6
  ·exact z2n (by omega)
theorem zh5 (hB:2 ≤ B) {A V n k:Nat} {u qs ps:List Nat} (hu:∀ z ∈ u,z < B) (hk:k + n < u.length) (hkq:k < qs.length) (hV:V < B ^ n) (h:NDivAt B A V n u qs (k + 1)) (hps:ps.length = n + 1) (hpv:val B ps = val B (z2q u k n) % V) (hV0:0 < V) :
  NDivAt B A V n (putL u k ps) (qs.set k (val B (z2q u k n) / V)) k:=by
 obtain ⟨h1,h2⟩:=h
 obtain ⟨p1,p2,p3⟩:=zep hB hu hk hV h2
 have hmd:=Nat.div_add_mod (val B (z2q u k n)) V
 have hup:val B (u.drop (k + ps.length)) = 0:=by
  have h3:∀ z ∈ u.drop (k + ps.length),z = 0:=fun z hz => by
   obtain ⟨i,hi⟩:=List.getElem?_of_mem hz
   rw [List.getElem?_drop] at hi
   have h4:=p3 (k + ps.length + i) (by omega)
   rwa [z0o hi] at h4
  have h5:u.drop (k + ps.length) = List.replicate (u.drop (k + ps.length)).length 0:=List.eq_replicate_iff.2 ⟨rfl,h3⟩
  rw [h5,z5s]
 have hq1:(qs.set k (val B (z2q u k n) / V)).drop k = (val B (z2q u k n) / V) :: qs.drop (k + 1):=by
  rw [List.drop_set,if_neg (Nat.lt_irrefl k),Nat.sub_self,List.drop_eq_getElem_cons hkq,List.set_cons_zero]
 have hput:val B (putL u k ps) = val B (u.take k) + B ^ k * val B ps:=by
  unfold putL
  rw [z3d,z3d,hup,Nat.mul_zero,Nat.add_zero,List.length_take,show min k u.length = k by omega]
 refine ⟨?_,?_⟩
 ·rw [hq1,hput,hpv,show val B ((val B (z2q u k n) / V) :: qs.drop (k + 1)) = val B (z2q u k n) / V + B * val B (qs.drop (k + 1)) from rfl]
  rw [← h1,p1,Nat.pow_succ]
  generalize val B (z2q u k n) / V = q at hmd ⊢
  generalize val B (z2q u k n) % V = r at hmd ⊢
  generalize val B (qs.drop (k + 1)) = t
  rw [← hmd,Nat.mul_add V,Nat.mul_add (B ^ k),Nat.mul_add (B ^ k),Nat.mul_assoc (B ^ k) B,Nat.mul_left_comm B V]
  omega
 ·have hd:(putL u k ps).drop k = ps ++ u.drop (k + ps.length):=by
   unfold putL
   rw [List.append_assoc,List.drop_append_of_le_length (by rw [List.length_take]; omega),List.drop_take,Nat.sub_self,List.take_zero,List.nil_append]
  rw [hd,z3d,hup,Nat.mul_zero,Nat.add_zero,hpv]
  exact Nat.mod_lt _ hV0
theorem zpw {A V n:Nat} {u qs:List Nat} (hV0:0 < V) (h:NDivAt B A V n u qs 0):val B qs = A / V ∧ val B u = A % V:=by
 obtain ⟨h1,h2⟩:=h
 rw [Nat.pow_zero,Nat.one_mul,List.drop_zero] at h1
 rw [List.drop_zero] at h2
 rw [← h1,Nat.add_comm,Nat.mul_add_div hV0,Nat.div_eq_of_lt h2,Nat.mul_add_mod,Nat.mod_eq_of_lt h2]
 exact ⟨rfl,rfl⟩
end
theorem zm1 {a b c:Nat} (hc:0 < c):a * c / (b * c) = a / b ∧ a * c % (b * c) = a % b * c:=⟨Nat.mul_div_mul_right a b hc,Nat.mul_mod_mul_right c a b⟩
end
section
open Go.RowKit
theorem z7y (n:Int) (h₀:0 ≤ n) (h₁:n < 2 ^ 64):IntKind.u64.wrap n = n:=by rw [IntKind.wrap_u64]; omega
theorem z0w {n:Nat} (h:n < 18446744073709551616):IntKind.u64.wrap (n:Int) = (n:Int):=by rw [IntKind.wrap_u64]; omega
theorem zat (x y:Nat) (hx:x < 4294967296) (hy:y < 4294967296):bits .or .u64 ((x:Int) * 4294967296) (y:Int) = ((x * 4294967296 + y:Nat):Int):=by
 have h:=bits_join .u64 64 (by decide) z7y 32 ((x:Int) * 4294967296) (y:Int) (by omega) (by show (x:Int) * 4294967296 % 4294967296 = 0; omega) (by show (x:Int) * 4294967296 < 18446744073709551616; omega) (by omega) (by show (y:Int) < 4294967296; omega) (by show (y:Int) < 18446744073709551616; omega)
 rw [h]
 omega
theorem zpx {S:Nat → Prop} (vu vv:Value) (us vs:List Nat) (m:Nat) (w:World) (hu:U32s S w vu us) (hv:U32s S w vv vs) (_hS:∀ k,S k → k < w.heap.size) (lu:us.length = m + 3) (lv:vs.length = m + 2)
  (hV1:2147483648 ≤ dg vs (m + 1)) (hle:dg us (m + 2) ≤ dg vs (m + 1)) :
  Calls Tryz.prog 153 #[vu,vv] w fun e w' => ∃ q r:Nat,e = .returned (.int .u64 (q:Nat)) ∧ Ext w w' ∧ q < B32 ∧ r + q * dg vs (m + 1) = dg us (m + 2) * B32 + dg us (m + 1) ∧ q * dg vs m ≤ r * B32 + dg us m ∧
   z8k B32 (dg us (m + 2) * B32 + dg us (m + 1)) (dg us m) (dg vs (m + 1)) (dg vs m) q:=by
 obtain ⟨u0,hu0⟩:=z01 (l:=us) (j:=m + 2) (by omega)
 obtain ⟨u1,hu1⟩:=z01 (l:=us) (j:=m + 1) (by omega)
 obtain ⟨u2,hu2⟩:=z01 (l:=us) (j:=m) (by omega)
 obtain ⟨v1,hv1⟩:=z01 (l:=vs) (j:=m + 1) (by omega)
 obtain ⟨v2,hv2⟩:=z01 (l:=vs) (j:=m) (by omega)
 rw [z0o hu0,z0o hu1,z0o hu2,z0o hv1,z0o hv2]
 rw [z0o hv1] at hV1 hle
 rw [z0o hu0] at hle
 have hfu:=hu.len_le
 obtain ⟨au,cu,rfl⟩:=hu.form
 obtain ⟨av,cv,rfl⟩:=hv.form
 obtain ⟨bu,ou,rfl,-,hn1,hm1,-,xu0,k0⟩:=hu.cellAt hu0
 obtain ⟨b',o',e1,-,-,-,-,xu1,k1⟩:=hu.cellAt hu1
 obtain ⟨rfl,rfl⟩:bu = b' ∧ ou = o':=by simpa using e1
 obtain ⟨b',o',e2,-,-,-,-,xu2,k2⟩:=hu.cellAt hu2
 obtain ⟨rfl,rfl⟩:bu = b' ∧ ou = o':=by simpa using e2
 obtain ⟨bv,ov,rfl,-,hn2,hm2,-,xv1,k3⟩:=hv.cellAt hv1
 obtain ⟨b',o',e3,-,-,-,-,xv2,k4⟩:=hv.cellAt hv2
 obtain ⟨rfl,rfl⟩:bv = b' ∧ ov = o':=by simpa using e3
 rw [lu] at hn1 hfu ⊢
 rw [lv] at hn2 ⊢
 have HK:=hid (And.intro k0 (And.intro k1 (And.intro k2 (And.intro k3 k4))))
 have q1:((m + 2:Nat):Int) - 1 = ((m + 1:Nat):Int):=by omega
 have q2:((m + 2:Nat):Int) - 2 = (m:Int):=by omega
 clear e1 e2 e3 hu hv lu lv hu0 hu1 hu2 hv1 hv2
 go_enter Tryz.func153,Tryz.ntmps153
 go_wp2
 go_step3
 go_wp2
 go_quiet (fail)
 rw [zat _ _ xu0 xu1]
 obtain ⟨top,htop⟩:∃ t,t = u0 * 4294967296 + u1:=⟨_,rfl⟩
 have HT:=hid htop
 rw [← htop]
 have ht2:top ≤ 18446744073709551615:=by omega
 have hv0:(v1:Int) ≠ 0:=by omega
 have hq0:top / v1 < 4294967298:=Nat.div_lt_of_lt_mul (by omega)
 have HQ0:=hid hq0
 have HXS:=hid (And.intro xu0 (And.intro xu1 (And.intro xu2 (And.intro xv1 xv2))))
 clear htop
 go_wp2
 go_quiet (fail)
 go_wp2
 go_step3
 go_wp2
 go_loopw [7,8] (fun s7 s8 wr => ∃ q r:Nat,s7 = .int .u64 (q:Nat) ∧ s8 = .int .u64 (r:Nat) ∧ Ext w wr ∧ r + q * v1 = top ∧ r < 4294967296 ∧ q ≤ 4294967297 ∧ z8k B32 top u2 v1 v2 q) (fun s7 _ _ => (intOf s7).toNat)
 case atStart =>
  refine ⟨top / v1,top % v1,congrArg (Value.int .u64) (z0w (n:=top / v1) (by omega)),rfl,((Ext.refl w).drewN _).drewN _,?_,?_,by omega,zia xu2 (by omega)⟩
  ·have:=Nat.div_add_mod top v1
   rw [Nat.mul_comm]
   omega
  ·have:=Nat.mod_lt top (show 0 < v1 by omega)
   omega
 case round =>
  obtain ⟨q,r,rfl,rfl,hx,ht,hr,hq,hok⟩:=hrel
  have k0:=hx.cell HK.out.1
  have k1:=hx.cell HK.out.2.1
  have k2:=hx.cell HK.out.2.2.1
  have k3:=hx.cell HK.out.2.2.2.1
  have k4:=hx.cell HK.out.2.2.2.2
  have HX:=hid hx
  have HTT:=hid ht
  have HOK:=hid hok
  have HR:=hid (And.intro hr hq)
  clear hx ht hok hr hq
  by_cases h1:4294967296 ≤ q
  ·have g1:decide ((4294967296:Int) ≤ (q:Int)) = true:=decide_eq_true (by omega)
   have H1:=hid h1
   clear h1
   go_wp2
   refine z03 (by kernel_rfl) (by kernel_rfl) ?_
   repeat (go_big_quiet_step (fail))
   refine wpQuiet_nil ?_
   intro w4 hx4
   have h1:=H1.out
   have HC:=hid (zdm (B:=B32) (u2:=u2) (v2:=v2) HTT.out (by omega) (.inl h1))
   have HX4:=hid (HX.out.trans hx4)
   have k3:=hx4.cell k3
   have hq1:(1:Int) ≤ (q:Int):=by omega
   have hq2:(q:Int) ≤ 4294967297:=by have:=HR.out.2; omega
   have hr1:(r:Int) < 4294967296:=by have:=HR.out.1; omega
   have HD:=hid (zh4 HTT.out (by omega))
   clear hx4 g1 h1
   by_cases h3:(4294967296:Int) ≤ (r:Int) + (v1:Int)
   ·go_wp2
    all_goals
     rw [Exit.noGoto_ret]
     go_ret
     obtain ⟨z1,z2⟩:=zcf (u2:=u2) (v2:=v2) (B:=B32) HD.out HT.out hle HXS.out.2.1 HXS.out.2.2.2.2 (by show 4294967296 ≤ r + v1; omega)
     refine ⟨q - 1,r + v1,?_,HX4.out,z1,by rw [HD.out]; exact HT.out,z2,by rw [← HT.out]; exact HC.out⟩
     show Ending.returned (Value.int .u64 ((q:Int) - 1)) = _
     rw [show ((q - 1:Nat):Int) = (q:Int) - 1 by omega]
   ·go_wp2
    go_roundw
    case rel => exact ⟨q - 1,r + v1,congrArg (Value.int .u64) (by omega),congrArg (Value.int .u64) (by omega),HX4.out,HD.out,by omega,by omega,HC.out⟩
    case measure => simp only [intOf]; omega
  ·have g1:decide ((4294967296:Int) ≤ (q:Int)) = false:=decide_eq_false (by omega)
   have H1:Hid (q < 4294967296):=hid (by omega)
   obtain ⟨P,hP⟩:∃ P:Nat,P = q * v2:=⟨_,rfl⟩
   obtain ⟨T,hT⟩:∃ T:Nat,T = r * 4294967296 + u2:=⟨_,rfl⟩
   have hqv:q * v2 ≤ 4294967295 * 4294967295:=Nat.mul_le_mul (show q ≤ 4294967295 by omega) (by have:=HXS.out.2.2.2.2; omega)
   have hw:IntKind.u64.wrap ((q:Int) * (v2:Int)) = (P:Int):=by
    have e:(q:Int) * (v2:Int) = ((q * v2:Nat):Int):=(Int.natCast_mul q v2).symm
    rw [e,← hP]
    exact z0w (by omega)
   have hor:bits .or .u64 ((r:Int) * 4294967296) (u2:Int) = (T:Int):=by rw [zat r u2 HR.out.1 HXS.out.2.2.1,hT]
   have hr1:(r:Int) < 4294967296:=by have:=HR.out.1; omega
   have HP:=hid hP
   have HTd:=hid hT
   have m1:(0:Int) ≤ (m:Int) + 2 - 2:=by omega
   clear h1 hP hT hqv
   by_cases h2:T < P
   ·have L2:=fun Y:Later wr => Y.h.cell k2
    have L4:=fun Y:Later wr => Y.h.cell k4
    go_wp2
    refine z03 (by kernel_rfl) (by kernel_rfl) ?_
    repeat (go_big_quiet_step (fail))
    refine wpQuiet_nil ?_
    intro w4 hx4
    have h1:=H1.out
    have hqp:0 < q:=by
     rcases Nat.eq_zero_or_pos q with h | h
     ·have h4:=HP.out
      rw [h,Nat.zero_mul] at h4
      omega
     ·exact h
    have hcc:r * B32 + u2 < q * v2:=by have h4:=HP.out; have h5:=HTd.out; show r * 4294967296 + u2 < q * v2; omega
    have HC:=hid (zdm (B:=B32) (u2:=u2) (v2:=v2) HTT.out hqp (.inr hcc))
    have HX4:=hid (HX.out.trans hx4)
    have k3:=hx4.cell k3
    have hq1:(1:Int) ≤ (q:Int):=by omega
    have hq2:(q:Int) ≤ 4294967297:=by have:=HR.out.2; omega
    have hr1:(r:Int) < 4294967296:=by have:=HR.out.1; omega
    have HD:=hid (zh4 HTT.out (by omega))
    clear hx4 g1 h1 hw hor h2 hqp hcc L2 L4
    by_cases h3:(4294967296:Int) ≤ (r:Int) + (v1:Int)
    ·go_wp2
     all_goals
      rw [Exit.noGoto_ret]
      go_ret
      obtain ⟨z1,z2⟩:=zcf (u2:=u2) (v2:=v2) (B:=B32) HD.out HT.out hle HXS.out.2.1 HXS.out.2.2.2.2 (by show 4294967296 ≤ r + v1; omega)
      refine ⟨q - 1,r + v1,?_,HX4.out,z1,by rw [HD.out]; exact HT.out,z2,by rw [← HT.out]; exact HC.out⟩
      show Ending.returned (Value.int .u64 ((q:Int) - 1)) = _
      rw [show ((q - 1:Nat):Int) = (q:Int) - 1 by omega]
    ·go_wp2
     go_roundw
     case rel => exact ⟨q - 1,r + v1,congrArg (Value.int .u64) (by omega),congrArg (Value.int .u64) (by omega),HX4.out,HD.out,by omega,by omega,HC.out⟩
     case measure => simp only [intOf]; omega
   ·have g2:decide (T < P) = false:=decide_eq_false h2
    have L2:=fun Y:Later wr => Y.h.cell k2
    have L4:=fun Y:Later wr => Y.h.cell k4
    go_wp2
    refine z03 (by kernel_rfl) (by kernel_rfl) ?_
    repeat (go_big_quiet_step (fail))
    refine wpQuiet_nil ?_
    intro w4 hx4
    have HX4:=hid (HX.out.trans hx4)
    have hcc:q * v2 ≤ r * B32 + u2:=by have h4:=HP.out; have h5:=HTd.out; show q * v2 ≤ r * 4294967296 + u2; omega
    have HCC:=hid hcc
    clear hx4 g1 hw hor hcc L2 L4
    go_wp2
    all_goals
     rw [Exit.noGoto_ret]
     go_ret
     exact ⟨q,r,rfl,HX4.out,H1.out,by rw [HTT.out]; exact HT.out,HCC.out,by rw [← HT.out]; exact HOK.out⟩
end
section
open Go.RowKit
theorem zpy (t:Nat) (ht:t < 18446744073709551616):bits .and .u64 (t:Int) 4294967295 = ((t % 4294967296:Nat):Int):=by
 have h:=(bits_nat .u64 64 (by decide) z7y t 4294967295 (by omega) (by decide)).1
 rw [show ((4294967295:Nat):Int) = 4294967295 from rfl] at h
 rw [h]
 congr 1
 exact Nat.and_two_pow_sub_one_eq_mod t 32
theorem zau {w:World} {T:TypeId} {n g k:Nat} {o ps:List Nat} (h:w.rowIs g T n (rowU (putL o k ps))) (hk:k + ps.length < o.length) (z:Nat) :
  (w.setCell ⟨g,k + ps.length,none⟩ (.int .u32 (z:Nat))).rowIs g T n (rowU (putL o k (ps ++ [z]))):=by
 have h1:=z5d h (k + ps.length) z (by rw [zeo (by omega)]; exact hk)
 have e:(putL o k ps).set (k + ps.length) z = putL o k (ps ++ [z]):=by
  unfold putL
  have hl:(o.take k ++ ps).length = k + ps.length:=by rw [List.length_append,List.length_take]; omega
  rw [List.set_append,if_neg (by omega),hl,Nat.sub_self,List.drop_eq_getElem_cons hk,List.set_cons_zero,List.length_append,List.length_singleton]
  simp [Nat.add_assoc]
 rwa [e] at h1
theorem zv8 {o ps:List Nat} {k j:Nat} (hk:k + ps.length ≤ o.length) (hj:k + ps.length ≤ j):dg (putL o k ps) j = dg o j:=by
 unfold putL dg
 have hl:(o.take k ++ ps).length = k + ps.length:=by rw [List.length_append,List.length_take]; omega
 rw [List.getElem?_append_right (by omega),hl,List.getElem?_drop,show k + ps.length + (j - (k + ps.length)) = j by omega]
theorem zic (w:World) (r:Option Nat):w.grownBy w r:=⟨rfl,rfl,rfl,Nat.le_refl _,fun _ _ _ => rfl⟩
theorem zh6 {a w:World} {r:Option Nat} (h:a.grownBy w r) {p:Addr} (hp:r = some p.block) (v:Value):a.grownBy (w.setCell p v) r:=⟨h.os,h.tape,h.output,by rw [z07]; exact h.size,fun k hk hne => (Below.heap_setCell _ _ _ _ (fun e => hne (by rw [hp,e]))).trans (h.block k hk hne)⟩
theorem zpz (o:List Nat) (k:Nat):putL o k [] = o:=by simp [putL]
theorem zxf {S:Nat → Prop} {w:World} {g k n cap q:Nat} {o vs:List Nat} (vv:Value) (hrow:w.rowIs g 74 cap (rowU o)) (ho:o.length ≤ cap) (hol:∀ z ∈ o,z < B32) (hkn:k + n < o.length) (hv:U32s S w vv vs) (hS:∀ j,S j → j < w.heap.size ∧ j ≠ g) (lv:vs.length = n) (hq:q < B32) (hcap:cap ≤ 9223372036854775807) :
  Calls Tryz.prog 154 #[.slice (some ⟨g,k,none⟩) (n + 1) (n + 1),vv,.int .u64 (q:Nat)] w fun e w' => ∃ (ps:List Nat) (b:Nat),e = .returned (.bool (decide (b = 1))) ∧ b ≤ 1 ∧ ps.length = n + 1 ∧ (∀ z ∈ ps,z < B32) ∧ val B32 ps + q * val B32 vs = val B32 (z2q o k n) + B32 ^ (n + 1) * b ∧
   w'.rowIs g 74 cap (rowU (putL o k ps)) ∧ w.grownBy w' (some g) ∧ w'.heap.size = w.heap.size:=by
 have hnb:n + 1 ≤ 9223372036854775807:=by omega
 have HROW:=hid hrow
 have HOL:=hid hol
 have HKN:=hid (And.intro ho hkn)
 have HV:=hid hv
 have HQ:=hid hq
 have hlv:=hv.len_le
 obtain ⟨av,cv,rfl⟩:=hv.form
 rw [lv] at HV hlv ⊢
 have HLV:=hid lv
 clear hrow hol hv ho hq lv
 go_enter Tryz.func154,Tryz.ntmps154
 go_wp2
 go_loopw [7,8,14] (fun s7 s8 s14 wr => ∃ (i c b:Nat) (ps:List Nat),s7 = .int .u64 (c:Nat) ∧ s8 = .int .u64 (b:Nat) ∧ s14 = .int .i64 (i:Nat) ∧ i ≤ n + 1 ∧ Hid (c < 4294967296 ∧ b ≤ 1 ∧ (n < i → c = 0) ∧ ps.length = i ∧ (∀ z ∈ ps,z < B32) ∧ val B32 ps + q * val B32 (vs.take i) = val B32 ((z2q o k n).take i) + B32 ^ i * (b + c)) ∧
  wr.rowIs g 74 cap (rowU (putL o k ps)) ∧ w.grownBy wr (some g) ∧ wr.heap.size = w.heap.size) (fun _ _ s14 _ => n + 1 - (intOf s14).toNat)
 case atStart => exact ⟨0,0,0,[],rfl,rfl,rfl,Nat.zero_le _,hid ⟨by decide,by decide,fun h => rfl,rfl,by simp,by simp [val]⟩,by rw [zpz]; exact HROW.out,zic _ _,rfl⟩
 case round =>
  obtain ⟨i,c,b,ps,rfl,rfl,rfl,hi,HI,hrow,hgb,hsz⟩:=hrel
  have HR:=hid hrow
  have HG:=hid (And.intro hgb hsz)
  clear hrow hgb hsz
  by_cases hlt:i < n + 1
  ·obtain ⟨u,hu⟩:∃ u,u = dg (z2q o k n) i:=⟨_,rfl⟩
   have hul:u < 4294967296:=by rw [hu,zcg hlt]; exact zk6 (by decide) HOL.out _
   have hcu:wr.cell? ⟨g,k + i,none⟩ = some (.int .u32 (u:Nat)):=by
    have h1:=HR.out.cell (i:=k + i) (by have:=HKN.out; omega)
    rw [h1,hu,zcg hlt]
    have h2:=zv8 (o:=o) (ps:=ps) (k:=k) (j:=k + i) (by have:=HI.out.2.2.2.1; omega) (by have:=HI.out.2.2.2.1; omega)
    show some (Value.int .u32 (dg (putL o k ps) (k + i):Nat)) = _
    rw [h2]
   have hfu:=HR.out.frozen (k + i)
   have HU:=hid hu
   by_cases hin:i < n
   ·obtain ⟨x,hx⟩:=z01 (l:=vs) (j:=i) (by rw [HLV.out]; exact hin)
    obtain ⟨b1,o1,rfl,-,hn1,hm1,-,hxl,hcx⟩:=(HV.out.to (S':=S) (fun j hj => HG.out.1.block j (hS j hj).1 (fun e => (hS j hj).2 (Option.some.inj e))) (fun _ h => h)).cellAt hx
    have HX:=hid (z0o hx)
    obtain ⟨P,hP⟩:∃ P:Nat,P = q * x:=⟨_,rfl⟩
    have hPl:P ≤ 4294967295 * 4294967295:=by rw [hP]; exact Nat.mul_le_mul (by have h:q < 4294967296:=HQ.out; omega) (by omega)
    have hw1:IntKind.u64.wrap ((q:Int) * (x:Int)) = (P:Int):=by
     have e:(q:Int) * (x:Int) = ((q * x:Nat):Int):=(Int.natCast_mul q x).symm
     rw [e,← hP]
     exact z0w (by omega)
    obtain ⟨t,ht⟩:∃ t:Nat,t = c + P:=⟨_,rfl⟩
    have htl:t < 18446744073709551616:=by have:=HI.out.1; omega
    have hw2:IntKind.u64.wrap ((c:Int) + (P:Int)) = (t:Int):=by rw [← Int.natCast_add,← ht]; exact z0w htl
    obtain ⟨lo,hlo⟩:∃ lo:Nat,lo = t % 4294967296:=⟨_,rfl⟩
    have hand:bits .and .u64 (t:Int) 4294967295 = (lo:Int):=by rw [zpy t htl,hlo]
    have HP:=hid hP
    have HT:=hid ht
    have HLO:=hid hlo
    have HTL:=hid htl
    have HUL:=hid hul
    clear hx hu hP hPl ht hlo htl hul
    obtain ⟨b',d,hb',hd,e1,e2,hbal⟩:∃ b' d:Nat,b' ≤ 1 ∧ d < 4294967296 ∧ IntKind.u64.wrap (IntKind.u64.wrap (IntKind.u64.wrap (u:Int) - (lo:Int)) - (b:Int)) / 9223372036854775808 = (b':Int) ∧ IntKind.u64.wrap (IntKind.u64.wrap (IntKind.u64.wrap (u:Int) - (lo:Int)) - (b:Int)) % 4294967296 = (d:Int) ∧ b + lo + d = u + 4294967296 * b':=by
     have h1:=HUL.out
     have h2:=HI.out.2.1
     have h3:lo < 4294967296:=by rw [HLO.out]; exact Nat.mod_lt _ (by decide)
     simp only [IntKind.wrap_u64]
     by_cases hs:lo + b ≤ u
     ·exact ⟨0,u - lo - b,by omega,by omega,by omega,by omega,by omega⟩
     ·exact ⟨1,u + 4294967296 - lo - b,by omega,by omega,by omega,by omega,by omega⟩
    go_wp2
    go_roundw
    case rel =>
     refine ⟨i + 1,t / 4294967296,b',ps ++ [d],congrArg (Value.int .u64) (by omega),rfl,by go_num,by omega,hid ⟨by have h1:=HTL.out; omega,hb',(fun h => by omega),by simp [HI.out.2.2.2.1],?_,?_⟩,?_,zh6 HG.out.1 rfl _,by rw [z07]; exact HG.out.2⟩
     ·intro z hz
      rcases List.mem_append.1 hz with h | h
      ·exact HI.out.2.2.2.2.1 z h
      ·rw [List.mem_singleton.1 h]
       exact hd
     ·exact zjq HI.out.2.2.2.1 HI.out.2.2.2.2.2 HX.out HU.out.symm (by
       have h1:=HP.out
       have h2:=HT.out
       have h3:=HLO.out
       show b + c + q * x + d = u + 4294967296 * (b' + t / 4294967296)
       omega)
     ·have h1:=zau HR.out (by have h2:=HI.out.2.2.2.1; have h3:=HKN.out; omega) d
      rwa [HI.out.2.2.2.1] at h1
    case measure => simp only [intOf]; omega
   ·obtain rfl:i = n:=by omega
    obtain ⟨t,ht⟩:∃ t:Nat,t = c:=⟨_,rfl⟩
    obtain ⟨lo,hlo⟩:∃ lo:Nat,lo = t % 4294967296:=⟨_,rfl⟩
    have htl:t < 18446744073709551616:=by have:=HI.out.1; omega
    have hand:bits .and .u64 (c:Int) 4294967295 = (lo:Int):=by rw [← ht,zpy t htl,hlo]
    have HX:Hid (dg vs i = 0):=hid (z2n (by rw [HLV.out]; exact Nat.le_refl _))
    have hc64:IntKind.u64.wrap (c:Int) = (c:Int):=z0w (by have:=HI.out.1; omega)
    have HT:=hid ht
    have HLO:=hid hlo
    have HTL:=hid htl
    have HUL:=hid hul
    have HC0:Hid (t / 4294967296 = 0):=hid (by have:=HI.out.1; omega)
    clear hu ht hlo htl hul
    obtain ⟨b',d,hb',hd,e1,e2,hbal⟩:∃ b' d:Nat,b' ≤ 1 ∧ d < 4294967296 ∧ IntKind.u64.wrap (IntKind.u64.wrap (IntKind.u64.wrap (u:Int) - (lo:Int)) - (b:Int)) / 9223372036854775808 = (b':Int) ∧ IntKind.u64.wrap (IntKind.u64.wrap (IntKind.u64.wrap (u:Int) - (lo:Int)) - (b:Int)) % 4294967296 = (d:Int) ∧ b + lo + d = u + 4294967296 * b':=by
     have h1:=HUL.out
     have h2:=HI.out.2.1
     have h3:lo < 4294967296:=by rw [HLO.out]; exact Nat.mod_lt _ (by decide)
     simp only [IntKind.wrap_u64]
     by_cases hs:lo + b ≤ u
     ·exact ⟨0,u - lo - b,by omega,by omega,by omega,by omega,by omega⟩
     ·exact ⟨1,u + 4294967296 - lo - b,by omega,by omega,by omega,by omega,by omega⟩
    go_wp2
    go_roundw
    case rel =>
     refine ⟨i + 1,t / 4294967296,b',ps ++ [d],congrArg (Value.int .u64) (by have:=HT.out; omega),rfl,by go_num,by omega,hid ⟨by have h1:=HTL.out; omega,hb',(fun h => HC0.out),by simp [HI.out.2.2.2.1],?_,?_⟩,?_,zh6 HG.out.1 rfl _,by rw [z07]; exact HG.out.2⟩
     ·intro z hz
      rcases List.mem_append.1 hz with h | h
      ·exact HI.out.2.2.2.2.1 z h
      ·rw [List.mem_singleton.1 h]
       exact hd
     ·exact zjq HI.out.2.2.2.1 HI.out.2.2.2.2.2 HX.out HU.out.symm (by
       have h2:=HT.out
       have h3:=HLO.out
       show b + c + q * 0 + d = u + 4294967296 * (b' + t / 4294967296)
       omega)
     ·have h1:=zau HR.out (by have h2:=HI.out.2.2.2.1; have h3:=HKN.out; omega) d
      rwa [HI.out.2.2.2.1] at h1
    case measure => simp only [intOf]; omega
  ·obtain rfl:i = n + 1:=by omega
   go_wp2
   all_goals
    go_ret
    obtain ⟨h1,h2,h3,h4,h5,h6⟩:=HI.out
    have hc0:=h3 (by omega)
    rw [hc0,Nat.add_zero,List.take_of_length_le (by rw [HLV.out]; omega),List.take_of_length_le (by rw [z42 HKN.out.2]; exact Nat.le_refl _)] at h6
    refine ⟨ps,b,?_,h2,h4,h5,h6,HR.out,HG.out⟩
    show Ending.returned (Value.bool ((b:Int) == 1)) = _
    rcases (show b = 0 ∨ b = 1 by omega) with rfl | rfl <;> rfl
theorem zyw {S:Nat → Prop} {w:World} {g k n cap:Nat} {o vs:List Nat} (vv:Value) (hrow:w.rowIs g 74 cap (rowU o)) (ho:o.length ≤ cap) (hol:∀ z ∈ o,z < B32) (hkn:k + n < o.length) (hv:U32s S w vv vs) (hS:∀ j,S j → j < w.heap.size ∧ j ≠ g) (lv:vs.length = n) (hcap:cap ≤ 9223372036854775807) :
  Calls Tryz.prog 155 #[.slice (some ⟨g,k,none⟩) (n + 1) (n + 1),vv] w fun e w' => ∃ ps:List Nat,e = .returned (.tuple #[]) ∧ ps.length = n + 1 ∧ (∀ z ∈ ps,z < B32) ∧ val B32 ps = (val B32 (z2q o k n) + val B32 vs) % B32 ^ (n + 1) ∧
   w'.rowIs g 74 cap (rowU (putL o k ps)) ∧ w.grownBy w' (some g) ∧ w'.heap.size = w.heap.size:=by
 have hnb:n + 1 ≤ 9223372036854775807:=by omega
 have HROW:=hid hrow
 have HOL:=hid hol
 have HKN:=hid (And.intro ho hkn)
 have HV:=hid hv
 have hlv:=hv.len_le
 obtain ⟨av,cv,rfl⟩:=hv.form
 rw [lv] at HV hlv ⊢
 have HLV:=hid lv
 clear hrow hol hv ho lv
 go_enter Tryz.func155,Tryz.ntmps155
 go_wp2
 go_loopw [4,8] (fun s4 s8 wr => ∃ (i c:Nat) (ps:List Nat),s4 = .int .u64 (c:Nat) ∧ s8 = .int .i64 (i:Nat) ∧ i ≤ n + 1 ∧ Hid (c ≤ 1 ∧ ps.length = i ∧ (∀ z ∈ ps,z < B32) ∧ val B32 ps + B32 ^ i * c = val B32 ((z2q o k n).take i) + val B32 (vs.take i)) ∧
  wr.rowIs g 74 cap (rowU (putL o k ps)) ∧ w.grownBy wr (some g) ∧ wr.heap.size = w.heap.size) (fun _ s8 _ => n + 1 - (intOf s8).toNat)
 case atStart => exact ⟨0,0,[],rfl,rfl,Nat.zero_le _,hid ⟨by decide,rfl,by simp,by simp [val]⟩,by rw [zpz]; exact HROW.out,zic _ _,rfl⟩
 case round =>
  obtain ⟨i,c,ps,rfl,rfl,hi,HI,hrow,hgb,hsz⟩:=hrel
  have HR:=hid hrow
  have HG:=hid (And.intro hgb hsz)
  clear hrow hgb hsz
  by_cases hlt:i < n + 1
  ·obtain ⟨u,hu⟩:∃ u,u = dg (z2q o k n) i:=⟨_,rfl⟩
   have hul:u < 4294967296:=by rw [hu,zcg hlt]; exact zk6 (by decide) HOL.out _
   have hcu:wr.cell? ⟨g,k + i,none⟩ = some (.int .u32 (u:Nat)):=by
    have h1:=HR.out.cell (i:=k + i) (by have:=HKN.out; omega)
    rw [h1,hu,zcg hlt]
    have h2:=zv8 (o:=o) (ps:=ps) (k:=k) (j:=k + i) (by have:=HI.out.2.1; omega) (by have:=HI.out.2.1; omega)
    show some (Value.int .u32 (dg (putL o k ps) (k + i):Nat)) = _
    rw [h2]
   have hfu:=HR.out.frozen (k + i)
   have HU:=hid hu
   have HUL:=hid hul
   obtain ⟨P,hP⟩:∃ P:Nat,P = c + u:=⟨_,rfl⟩
   have hw1:IntKind.u64.wrap ((c:Int) + (u:Int)) = (P:Int):=by rw [← Int.natCast_add,← hP]; exact z0w (by have:=HI.out.1; omega)
   have hu64:IntKind.u64.wrap (u:Int) = (u:Int):=z0w (by omega)
   have HP:=hid hP
   clear hu hul hP
   by_cases hin:i < n
   ·obtain ⟨x,hx⟩:=z01 (l:=vs) (j:=i) (by rw [HLV.out]; exact hin)
    obtain ⟨b1,o1,rfl,-,hn1,hm1,-,hxl,hcx⟩:=(HV.out.to (S':=S) (fun j hj => HG.out.1.block j (hS j hj).1 (fun e => (hS j hj).2 (Option.some.inj e))) (fun _ h => h)).cellAt hx
    have HX:=hid (z0o hx)
    have hx64:IntKind.u64.wrap (x:Int) = (x:Int):=z0w (by omega)
    obtain ⟨t,ht⟩:∃ t:Nat,t = P + x:=⟨_,rfl⟩
    have htl:t < 18446744073709551616:=by have h1:=HI.out.1; have h2:=HUL.out; have h3:=HP.out; omega
    have hw2:IntKind.u64.wrap ((P:Int) + (x:Int)) = (t:Int):=by rw [← Int.natCast_add,← ht]; exact z0w htl
    have HT:=hid ht
    have HXL:=hid hxl
    clear hx hxl ht htl
    go_wp2
    go_roundw
    case rel =>
     refine ⟨i + 1,t / 4294967296,ps ++ [t % 4294967296],rfl,by go_num,by omega,hid ⟨by have h1:=HI.out.1; have h2:=HUL.out; have h3:=HP.out; have h4:=HT.out; have h5:=HXL.out; omega,by simp [HI.out.2.1],?_,?_⟩,?_,zh6 HG.out.1 rfl _,by rw [z07]; exact HG.out.2⟩
     ·intro z hz
      rcases List.mem_append.1 hz with h | h
      ·exact HI.out.2.2.1 z h
      ·rw [List.mem_singleton.1 h]
       exact Nat.mod_lt _ (by decide)
     ·have h1:=zpv (B:=B32) HI.out.2.1 HI.out.2.2.2 HX.out HU.out.symm
      have h2:c + u + x = t:=by rw [HT.out,HP.out]
      rwa [h2] at h1
     ·have h1:=zau HR.out (by have h2:=HI.out.2.1; have h3:=HKN.out; omega) (t % 4294967296)
      rwa [HI.out.2.1] at h1
    case measure => simp only [intOf]; omega
   ·obtain rfl:i = n:=by omega
    have HX:Hid (dg vs i = 0):=hid (z2n (by rw [HLV.out]; exact Nat.le_refl _))
    obtain ⟨t,ht⟩:∃ t:Nat,t = P:=⟨_,rfl⟩
    have HT:Hid (t = P + 0):=hid ht
    have hc64:IntKind.u64.wrap (P:Int) = (P:Int):=z0w (by have h1:=HI.out.1; have h2:=HUL.out; have h3:=HP.out; omega)
    subst ht
    go_wp2
    go_roundw
    case rel =>
     refine ⟨i + 1,t / 4294967296,ps ++ [t % 4294967296],rfl,by go_num,by omega,hid ⟨by have h1:=HI.out.1; have h2:=HUL.out; have h3:=HP.out; have h4:=HT.out; omega,by simp [HI.out.2.1],?_,?_⟩,?_,zh6 HG.out.1 rfl _,by rw [z07]; exact HG.out.2⟩
     ·intro z hz
      rcases List.mem_append.1 hz with h | h
      ·exact HI.out.2.2.1 z h
      ·rw [List.mem_singleton.1 h]
       exact Nat.mod_lt _ (by decide)
     ·have h1:=zpv (B:=B32) HI.out.2.1 HI.out.2.2.2 HX.out HU.out.symm
      have h2:c + u + 0 = t:=by rw [HT.out,HP.out]
      rwa [h2] at h1
     ·have h1:=zau HR.out (by have h2:=HI.out.2.1; have h3:=HKN.out; omega) (t % 4294967296)
      rwa [HI.out.2.1] at h1
    case measure => simp only [intOf]; omega
  ·obtain rfl:i = n + 1:=by omega
   go_wp2
   all_goals
    first | go_end0 | refine bodyPost_ret (results_none rfl _ _ _) rfl ?_
    obtain ⟨h1,h2,h3,h4⟩:=HI.out
    rw [List.take_of_length_le (by rw [z42 HKN.out.2]; exact Nat.le_refl _),List.take_of_length_le (by rw [HLV.out]; omega)] at h4
    have h5:=z1k (B:=B32) ps h3
    rw [h2] at h5
    refine ⟨ps,rfl,h2,h3,?_,HR.out,HG.out⟩
    rw [← h4,Nat.add_mul_mod_self_left,Nat.mod_eq_of_lt h5]
end
end Go.Proofs.YtdcijfhkfhhfjaaGreat
