/- Chain: the rest with its cofactors. From the form's own reading of an argument to what lies in memory: limbs, powers, terms, polynomials. What every law's row asks: the answer true, the arguments as they were. Arguments that are slices of polynomials, read as data. The document's division: all its steps. Layer 12's law: what is too great, the meters of both sides, powers, limbs. Layer 12's law: the meters of both sides, of limits; none of both, if there are to be none; have both counted the same. Layer 12's statements: what is not too great, and the divisions of it. The arguments of the statements of layers 12 and 16 that are no polynomials: whole numbers, truths, limits. The arguments of layer 16's statements: slices of whole numbers, divisions. What layer 16's law knows. A polynomial ahead of some: append([]Poly{f}, l...). Chain: the rest alone, of what may not be. Layer 16's law: what is too great. Layer 16's statements: what is not too great. The document's chain: powers, and is it an identity. The document's chain: are some polynomials one. Chain: what is no identity, for lengths that differ or polynomials that may not be. The document's check of an identity: lengths that differ. Layer 16: the program's check of an identity and the document's answer alike. Layer 16: what is known of arguments that may be. A polynomial's value at a point of quotients, plainly. Quotients: the canonical one of two whole numbers. The canonical one of a quotient. -/
import Derived.ProofKit
import Derived.Deep.Slices
import Derived.Deep.Strs
import Derived.Test.YtdcijfhkfhhfjaaGreatRows
import Derived.Lib.SmallJoins
import Derived.JoinedCond
import Derived.Test.YtdcijfhkfhhfjaaGreatPt9
set_option maxRecDepth 100000
set_option maxHeartbeats 16000000
namespace Go.Proofs.YtdcijfhkfhhfjaaGreat
section
open Go.RowKit Go.Deep
def z9u (W:World) (o:Option Nat) (X:Int × MSt × PZ × List Int × List PZ):Ending → World → Prop:=fun e W' => ∃ vp vc vr,e = .returned (.tuple #[.agg #[vp,vc,vr],.int .i64 X.1]) ∧ MV W' o X.2.1 ∧ W.grownBy W' o ∧ PMN W.heap.size o W' vr X.2.2.1 ∧
 Ints (fun k => W.heap.size ≤ k ∧ NB o W' k) W' vp X.2.2.2.1 ∧ z1r (fun k => W.heap.size ≤ k ∧ NB o W' k) W' vc (X.2.2.2.2.map ofP)
def st3 (Y:World) (br:Nat) (a b c:Value):World:=((Y.setCell ⟨br,0,none⟩ a).setCell ⟨br,1,none⟩ b).setCell ⟨br,2,none⟩ c
section
variable {W Y:World} {br hi bc bd bp bq m:Nat} {a b c u0 u1 u2 vr:Value} {o:Option Nat} {s:MSt} {ns:List Int} {V:Nat → Value} {cs:List PZ} {r:PZ}
theorem zxd (h0:Y.cell? ⟨br,0,none⟩ = some u0):(st3 Y br a b c).cell? ⟨br,0,none⟩ = some a:=z09 (z09 (z1h h0) (ao (by decide))) (ao (by decide))
theorem zxe (h1:Y.cell? ⟨br,1,none⟩ = some u1):(st3 Y br a b c).cell? ⟨br,1,none⟩ = some b:=z09 (z1h (z09 h1 (ao (by decide)))) (ao (by decide))
theorem zxf (h2:Y.cell? ⟨br,2,none⟩ = some u2):(st3 Y br a b c).cell? ⟨br,2,none⟩ = some c:=z1h (z09 (z09 h2 (ao (by decide))) (ao (by decide)))
theorem zv8 (h:MV Y o s) (ho:∀ b,o = some b → b < br):MV (st3 Y br a b c) o s:=by
 have hne:∀ b,o = some b → b ≠ br:=fun b hb => Nat.ne_of_lt (ho b hb)
 exact ((h.set hne (a:=⟨br,0,none⟩) rfl a).set hne (a:=⟨br,1,none⟩) rfl b).set hne (a:=⟨br,2,none⟩) rfl c
theorem zv9 (h1:br < hi):Gx o br hi Y (st3 Y br a b c) :=
 ((z86 Y (a:=⟨br,0,none⟩) (Nat.le_refl _) h1 a).trans (z86 _ (a:=⟨br,1,none⟩) (Nat.le_refl _) h1 b)).trans (z86 _ (a:=⟨br,2,none⟩) (Nat.le_refl _) h1 c)
theorem z9d {k:Nat} (h:k ≠ br):(st3 Y br a b c).heap[k]? = Y.heap[k]? :=
 ((z15 _ ⟨br,2,none⟩ c h).trans (z15 _ ⟨br,1,none⟩ b h)).trans (z15 _ ⟨br,0,none⟩ a h)
theorem zty (S:Nat → Prop) (w:World):Ints S w (.slice none 0 0) []:=⟨0,0,⟨none,0,rfl,Nat.le_refl _,by decide,fun h => by simp at h,fun h => by simp at h⟩,fun j n hj => by simp at hj⟩
theorem zzi (O:Own br hi br bc bd bp bq) (hb:br = W.heap.size) (ho:∀ b,o = some b → b < br) (hm:MV Y o s) (hg:W.grownBy Y o) (hr:RestAt 23 Y br bd bp bq m vr ns V) (hv:PMN hi o Y vr r) (hc:CofV hi o Y m V cs) (hn:ns.length = m) (hi64:∀ z ∈ ns,z1v z) (hml:m ≤ maxLen) :
  z9u W o (0,s,r,ns,cs) (.returned (.tuple #[.agg #[.slice (some ⟨bp,0,none⟩) m m,.slice (some ⟨bq,0,none⟩) m m,vr],.int .i64 0])) (st3 Y br (.slice (some ⟨bp,0,none⟩) m m) (.slice (some ⟨bq,0,none⟩) m m) vr):=by
 have hx:Gx o br hi Y (st3 Y br (.slice (some ⟨bp,0,none⟩) m m) (.slice (some ⟨bq,0,none⟩) m m) vr):=zv9 O.r.2
 have hg2:W.grownBy (st3 Y br (.slice (some ⟨bp,0,none⟩) m m) (.slice (some ⟨bq,0,none⟩) m m) vr) o:=⟨hx.os.trans hg.os,hx.tape.trans hg.tape,hx.output.trans hg.output,Nat.le_trans hg.size hx.size,fun k h1 h2 => by
  rw [z9d (by omega)]
  exact hg.block k h1 h2⟩
 have hno:∀ k,br ≤ k → some k ≠ o:=fun k hk e => by have:=ho k e.symm; omega
 obtain ⟨l1,l2,l3,l4⟩:=hr.lts
 refine ⟨_,_,_,rfl,zv8 hm ho,hg2,(PMN.gx hv (Nat.le_refl _) hx).low (by have:=O.r; omega),?_,?_⟩
 ·exact Ints.of_row (hr.P.of_block (z9d O.rp.symm)) hn hi64 hml ⟨by rw [← hb]; exact O.p.1,Nat.lt_of_lt_of_le l3 hx.size,hno _ O.p.1⟩
 ·exact (hc.gx (Nat.le_refl _) hx).polys (hr.Q.of_block (z9d O.rq.symm)) hml (fun k hk => ⟨by have:=O.r; have:=hk.1; omega,hk.2⟩) ⟨by rw [← hb]; exact O.q.1,Nat.lt_of_lt_of_le l4 hx.size,hno _ O.q.1⟩
theorem zyv {e:Int} (hbr:br < hi) (hb:br = W.heap.size) (ho:∀ b,o = some b → b < br) (hm:MV Y o s) (hg:W.grownBy Y o) :
  z9u W o (e,s,[],[],[]) (.returned (.tuple #[.agg #[.slice none 0 0,.slice none 0 0,.slice none 0 0],.int .i64 e])) (st3 Y br (.slice none 0 0) (.slice none 0 0) (.slice none 0 0)):=by
 have hx:Gx o br hi Y (st3 Y br (.slice none 0 0) (.slice none 0 0) (.slice none 0 0)):=zv9 hbr
 have hg2:W.grownBy (st3 Y br (.slice none 0 0) (.slice none 0 0) (.slice none 0 0)) o:=⟨hx.os.trans hg.os,hx.tape.trans hg.tape,hx.output.trans hg.output,Nat.le_trans hg.size hx.size,fun k h1 h2 => by
  rw [z9d (by omega)]
  exact hg.block k h1 h2⟩
 exact ⟨_,_,_,rfl,zv8 hm ho,hg2,z06.nilv _ _ _ _ (by decide),zty _ _,z1r.nilv _ _ _ _ (by decide)⟩
end
theorem zly {W:World} {o:Option Nat} {s:MSt} {vf vl:Value} {f:PZ} {ls:List PZ} {A T:Nat} (hM:MV W o s) (hf:PM o W vf f) (hl:z1r (NB o W) W vl (ls.map ofP)) (ff:Fit A T f) (hA:A ≤ 1000000) (hT:T ≤ 1000000000)
  (sl:z70 (ls.map ofP)) (hmay:mayC 0 (ls.map ofP) = true) (hlen:ls.length ≤ 1000) (hF:z31 o true ls ls.length s f (List.replicate ls.length [])) :
  Calls Tryz.prog 16 #[mval o,vf,vl] W (z9u W o (z4n o true ls ls.length s f (List.replicate ls.length 0) (List.replicate ls.length []))):=by
 have hnot:∀ (x:Bool) (w:World),(Op.unary .not (.bool x)).run Tryz.prog w = .ok (.bool (!x)) w:=fun _ _ => rfl
 have C1:=hid (fun (Y:World) (hY:Ext W Y) => zlo (z06.on hf.pv hY) ff hA)
 have C2:=hid (fun (Y:World) (hY:Ext W Y) => (show Calls Tryz.prog 19 #[vl] Y fun e w' => e = .returned (.bool true) ∧ Ext Y w' from by
  have h:=z76 (S:=NB o W) vl (ls.map ofP) Y (hl.ext hY (fun _ h => h.1)) (fun k h => Nat.lt_of_lt_of_le h.1 hY.size) sl
  rwa [hmay] at h))
 have HF:=hid hf
 have HFT:=hid ff
 have HAT:=hid (And.intro hA hT)
 have HM:=hid hM
 have HL:=hid hl
 have HFF:=hid hF
 have HBM:=hid (fun b hb => hM.block (b:=b) hb)
 obtain ⟨X,hX⟩:∃ X,X = z4n o true ls ls.length s f (List.replicate ls.length 0) (List.replicate ls.length []):=⟨_,rfl⟩
 rw [← hX]
 have HX:=hid hX
 obtain ⟨m,hm⟩:∃ m,m = ls.length:=⟨_,rfl⟩
 have HMM:=hid hm
 rw [← hm] at hlen
 obtain ⟨af,cf,rfl⟩:=hf.form
 obtain ⟨al,cl,hl'⟩:=hl.form
 rw [List.length_map,← hm] at hl'
 subst hl'
 obtain ⟨nf,hnf⟩:∃ n,n = (ofP f).length:=⟨_,rfl⟩
 rw [← hnf] at C1 ⊢
 have HNF:=hid hnf
 obtain ⟨vm,hvm⟩:∃ x,x = mval o:=⟨_,rfl⟩
 obtain ⟨am,rfl⟩:∃ a,vm = .pointer a:=⟨_,hvm⟩
 rw [← hvm]
 have HVM:=hid hvm
 clear hM hf hl ff hA hT sl hmay hF hX hm hnf hvm
 have hmk:=fun (Y:World) => run_make_row' (P:=Tryz.prog) 39 3 (.int .i64 0) 8 Tryz.underlying39 Tryz.infoInt rfl .i64 .i64 m (by omega) (by omega) Y
 have hmq:=fun (Y:World) => run_make_row' (P:=Tryz.prog) 24 23 (.slice none 0 0) 24 Tryz.underlying24 Tryz.infoPoly rfl .i64 .i64 m (by omega) (by omega) Y
 have HX0:=hid (Ext.alloc (Ext.refl W) (.cells #[.slice none 0 0,.slice none 0 0,.slice none 0 0] 60))
 have j0:(W.alloc (.cells #[.slice none 0 0,.slice none 0 0,.slice none 0 0] 60)).cell? ⟨W.heap.size,0,none⟩ = some (.slice none 0 0):=z04 _ _ _ rfl rfl
 have j1:(W.alloc (.cells #[.slice none 0 0,.slice none 0 0,.slice none 0 0] 60)).cell? ⟨W.heap.size,1,none⟩ = some (.slice none 0 0):=z04 _ _ _ rfl rfl
 have j2:(W.alloc (.cells #[.slice none 0 0,.slice none 0 0,.slice none 0 0] 60)).cell? ⟨W.heap.size,2,none⟩ = some (.slice none 0 0):=z04 _ _ _ rfl rfl
 have HJ:=hid (And.intro j0 (And.intro j1 j2))
 have HZ:=hid (fun i => z56 W #[.slice none 0 0,.slice none 0 0,.slice none 0 0] 60 (i:=i))
 clear j0 j1 j2
 go_enter Tryz.func16,Tryz.ntmps16
 go_wp2_with fail
 with_reducible refine (C1.out _ HX0.out).mono ?_
 rintro e w1 ⟨rfl,hx⟩
 have HX1:=hid (HX0.out.trans hx)
 have HY1:=hid hx
 clear hx
 go_wp2_with fail
 with_reducible refine (C2.out _ HX1.out).mono ?_
 rintro e w2 ⟨rfl,hx⟩
 have HX2:=hid (HX1.out.trans hx)
 have HY2:=hid (HY1.out.trans hx)
 clear hx
 have HR2:=hid (And.intro (HY2.out.cell HJ.out.1) (And.intro (HY2.out.cell HJ.out.2.1) (HY2.out.cell HJ.out.2.2)))
 have HLB:Hid (W.heap.size < w2.heap.size):=hid (z0s HR2.out.1)
 have HZ2:Hid (∀ i,w2.frozen? ⟨W.heap.size,i,none⟩ = false):=hid (fun i => (World.frozen?_of_block (w:=W.alloc (.cells #[.slice none 0 0,.slice none 0 0,.slice none 0 0] 60)) (a:=⟨W.heap.size,i,none⟩) (HY2.out.block _ (by show W.heap.size < _; rw [z02]; exact Nat.lt_succ_self _))).trans (HZ.out i))
 go_upto_region 4 with fail
 go_cut [9] (fun s9 wx => ∃ bd bp bq,s9 = .pointer (some ⟨bd,0,none⟩) ∧ Hid (Own W.heap.size wx.heap.size W.heap.size w2.heap.size bd bp bq) ∧ Hid (RestAt 23 wx W.heap.size bd bp bq m (.slice af nf cf) (List.replicate m 0) (fun _ => .slice none 0 0)) ∧ Hid (CalcAt wx w2.heap.size (.pointer am) 0) ∧ Hid (Ext w2 wx))
 case first =>
  go_region_held3 (fun _ => True) (exact trivial) (fail)
  all_goals
   go_wp2_with fail
   go_meet
   obtain ⟨k0,k1,k2⟩:=HR2.out
   first
    | with_reducible exact zts HLB.out k0 k1 k2 HZ2.out
    | with_reducible exact ztt HLB.out k0 k1 k2 HZ2.out
    | with_reducible exact ztu HLB.out k0 k1 k2 HZ2.out
    | with_reducible exact ztv HLB.out k0 k1 k2 HZ2.out
    | with_reducible exact ztw HLB.out k0 k1 k2 HZ2.out
    | with_reducible exact ztx HLB.out k0 k1 k2 HZ2.out
 case rest =>
  obtain ⟨bd,bp,bq,rfl,HO,HRT,HCA,HXC⟩:=hcut
  have HX5:=hid (HX2.out.trans HXC.out)
  obtain ⟨bc,hbc⟩:∃ n,n = w2.heap.size:=⟨_,rfl⟩
  obtain ⟨br,hbr⟩:∃ n,n = W.heap.size:=⟨_,rfl⟩
  obtain ⟨hi,hhi⟩:∃ n,n = wc.heap.size:=⟨_,rfl⟩
  rw [← hbr,← hbc,← hhi] at HO
  rw [← hbr] at HRT
  rw [← hbc] at HCA
  rw [← hbc,← hbr]
  have HBR:=hid hbr
  have HHI:=hid hhi
  have HOB:Hid (∀ b,o = some b → b < br):=hid (fun b hb => by rw [hbr]; exact HBM.out b hb)
  have HLH:Hid (br ≤ hi):=hid (by rw [hbr,hhi]; exact HX5.out.size)
  clear hbc hbr hhi hmk hmq
  go_wp2
  go_loopw [10] (fun i wr => ∃ (k:Nat) (s1:MSt) (vr:Value) (r1:PZ) (ns1:List Int) (V:Nat → Value) (cs1:List PZ),k ≤ m ∧ i = .int .i64 ((k:Int) - 1) ∧ Hid (MV wr o s1) ∧ Hid (Gx o br hi wc wr) ∧ Hid (RestAt 23 wr br bd bp bq m vr ns1 V) ∧ Hid (CalcAt wr bc (.pointer am) 0) ∧ Hid (PX o br hi wr vr r1) ∧ Hid (∃ A T,Fit A T r1 ∧ A ≤ 1000000 ∧ T ≤ 1000000000000) ∧ Hid (CofV hi o wr m V cs1) ∧ Hid (z31 o true ls k s1 r1 cs1) ∧ Hid (z4n o true ls k s1 r1 ns1 cs1 = X) ∧ Hid (ns1.length = m ∧ ∀ z ∈ ns1,z1v z)) (fun i _ => (intOf i + 1).toNat)
  case atStart =>
   refine ⟨m,s,.slice af nf cf,f,List.replicate m 0,fun _ => .slice none 0 0,List.replicate m [],Nat.le_refl _,rfl,hid (HM.out.ext HX5.out),hid (Gx.refl _ _ _ _),HRT,HCA,hid ?_,hid ⟨A,T,HFT.out,HAT.out.1,by have:=HAT.out.2; omega⟩,hid ?_,hid ?_,hid ?_,hid ⟨by simp,fun z hz => ?_⟩⟩
   ·rw [HNF.out]
    have h:=HF.out
    refine h.to (Kept.ext HX5.out (fun _ h => h.1)) (fun k hk => ⟨Nat.lt_of_lt_of_le hk.1 HX5.out.size,hk.2,fun e => ?_⟩)
    have h1:=hk.1
    have h2:=e.1
    rw [HBR.out] at h2
    omega
   ·refine ⟨by simp,fun i hi => ?_⟩
    rw [List.getD_eq_getElem?_getD,List.getElem?_replicate]
    split <;> exact z06.nilv _ _ _ _ (by decide)
   ·rw [HMM.out]; exact HFF.out
   ·rw [HX.out,HMM.out]
   ·rw [List.eq_of_mem_replicate hz]; unfold z1v; omega
  case round =>
   obtain ⟨k,s1,vr,r1,ns1,V,cs1,hk,rfl,HMV,HG,HRA,HCK,HRV,HFR,HCV,HRF,HRD,HNS⟩:=hrel
   have HGW:Hid (W.grownBy wr o):=hid (((z9c HX5.out).trans HG.out).gb (by rw [HBR.out]; exact Nat.le_refl _))
   cases k with
   | zero =>
    have HX0:Hid (X = (0,s1,r1,ns1,cs1)):=hid HRD.out.symm
    have HADD:Hid (Calls Tryz.prog 21 #[vr,.slice none 0 0] wr (z90 wr r1)):=hid (by
     obtain ⟨A',T',fr,hA',hT'⟩:=HFR.out
     have hn:PV wr (.slice none 0 0) []:=z06.nilv _ _ _ _ (by decide)
     have h:=zpd (q:=[]) HRV.out.pv hn fr z8h hA' (by omega) (by omega)
     rwa [show z1t (r1 ++ []) = r1 by rw [List.append_nil]; exact z5a fr.can] at h)
    obtain ⟨ar,cr,rfl⟩:=HRV.out.form
    obtain ⟨nr,hnr⟩:∃ n,n = (ofP r1).length:=⟨_,rfl⟩
    rw [← hnr] at HADD HRA
    have e2:=HRA.out.d2
    clear hnr
    go_wp2_with fail
    with_reducible refine HADD.out.mono ?_
    rintro e w6 ⟨v6,rfl,ht6,hx6⟩
    have HX6:=hid hx6
    have HR6:=hid (HRA.out.gb HO.out.toOwn3 HOB.out (z11 hx6 o))
    have HT6:=hid ht6
    obtain ⟨a6,c6,rfl⟩:=ht6.form
    obtain ⟨n6,hn6⟩:∃ n,n = (ofP r1).length:=⟨_,rfl⟩
    rw [← hn6] at HT6 ⊢
    have HN6:=hid hn6
    have HHW:Hid (hi ≤ wr.heap.size):=hid (by rw [HHI.out]; exact HG.out.size)
    have HR7:=hid (HR6.out.setD HO.out.toOwn3 (.slice a6 n6 c6))
    obtain ⟨W7,hW7⟩:∃ Y,Y = w6.setCell ⟨bd,2,none⟩ (.slice a6 n6 c6):=⟨_,rfl⟩
    rw [← hW7] at HR7
    have HW7:=hid hW7
    clear e2 ht6 hx6 hn6 hW7
    have k2:=HR6.out.d2
    have kz:=HR6.out.dz 2
    have HM7:=hid ((HMV.out.ext HX6.out).set (W:=w6) (a:=⟨bd,2,none⟩) (bd:=bd) (fun b hb e => by have h1:=HOB.out b hb; have h2:=HO.out.d.1; omega) rfl (.slice a6 n6 c6))
    rw [← HW7.out] at HM7
    have HG7:Hid (Gx o br hi wr W7):=hid (by rw [HW7.out]; exact (z9c HX6.out).trans (z86 w6 (a:=⟨bd,2,none⟩) HO.out.d.1 HO.out.d.2 _))
    have HGW7:Hid (W.grownBy W7 o):=hid ((((z9c HX5.out).trans HG.out).trans HG7.out).gb (by rw [HBR.out]; exact Nat.le_refl _))
    have HC7:=hid (HCV.out.gx (Nat.le_refl _) HG7.out)
    have HP7:Hid (PMN hi o W7 (.slice a6 n6 c6) r1):=hid (by
     rw [HN6.out] at HT6
     have h:=HT6.out
     rw [← HN6.out] at h
     refine h.to (fun k hk => ?_) (fun k hk => ⟨Nat.le_trans HHW.out hk.1,?_,fun e => ?_⟩)
     ·rw [HW7.out]
      exact z15 w6 ⟨bd,2,none⟩ _ (fun e => by have h1:=hk.1; have h2:=HO.out.d.2; have h3:=HHW.out; have e2:k = bd:=e; omega)
     ·rw [HW7.out]
      exact Nat.lt_of_lt_of_le hk.2 (z86 (o:=o) (lo:=br) (hi:=hi) w6 (a:=⟨bd,2,none⟩) HO.out.d.1 HO.out.d.2 _).size
     ·have h1:=HOB.out k e.symm; have h2:=hk.1; have h3:=HHW.out; have h4:=HLH.out; omega)
    have d0:=HR7.out.d0
    have d1:=HR7.out.d1
    have d2:=HR7.out.d2
    have y0:=HR7.out.r0
    have y1:=HR7.out.r1
    have y2:=HR7.out.r2
    have z0:=HR7.out.rz 0
    have z1:=HR7.out.rz 1
    have z2:=HR7.out.rz 2
    rw [HW7.out] at d0 d1 d2 y0 y1 y2 z0 z1 z2
    have f0:=zxd (a:=.slice (some ⟨bp,0,none⟩) m m) (b:=.slice (some ⟨bq,0,none⟩) m m) (c:=.slice a6 n6 c6) HR7.out.r0
    have f1:=zxe (a:=.slice (some ⟨bp,0,none⟩) m m) (b:=.slice (some ⟨bq,0,none⟩) m m) (c:=.slice a6 n6 c6) HR7.out.r1
    have f2:=zxf (a:=.slice (some ⟨bp,0,none⟩) m m) (b:=.slice (some ⟨bq,0,none⟩) m m) (c:=.slice a6 n6 c6) HR7.out.r2
    have HFIN:=hid (zzi HO.out HBR.out HOB.out HM7.out HGW7.out HR7.out HP7.out HC7.out HNS.out.1 HNS.out.2 (by unfold maxLen; omega))
    rw [HW7.out] at f0 f1 f2 HFIN
    unfold st3 at f0 f1 f2 HFIN
    go_wp2
    all_goals
     refine bodyPost_ret (v:=.tuple #[.agg #[.slice (some ⟨bp,0,none⟩) m m,.slice (some ⟨bq,0,none⟩) m m,.slice a6 n6 c6],.int .i64 0]) (by simp [results,Tryz.results16,go_sem,f0,f1,f2]) rfl ?_
     rw [HX0.out]
     exact HFIN.out
   | succ q =>
    have hq1:((q + 1:Nat):Int) - 1 = (q:Int):=by omega
    have hqm:q < m:=by omega
    have HRS:=hid HRF.out.1
    obtain ⟨⟨A2,T2,B2,M2,fp,hA2,hB2,hT2,hTb2,hTM2,hFR2⟩,hlead,hdeg⟩:=HRS.out
    have HPF:Hid (Fit A2 T2 (ls.getD q []) ∧ A2 < 24 ∧ 1 ≤ T2 ∧ T2 ≤ 1000000):=hid ⟨fp,hA2,hT2,hTb2⟩
    have hdn:(divK o true ls q s1 r1).n ≤ 10001:=zyn (o:=o) (keep:=true) (s:=s1) (g:=ls.getD q []) (v:=z0t (ls.getD q [])) hFR2.now.2.can.may
    have hfit:Fit B2 M2 (divK o true ls q s1 r1).r:=(zwy _ _ _ _ _ hFR2).2
    have hMM:M2 ≤ 2 * T2 * M2:=Nat.le_mul_of_pos_left M2 (by omega)
    have HKW:Hid (Kept (NB o W) W wr):=hid (fun b hb => HGW.out.block b hb.1 hb.2)
    have HSW:Hid (∀ b,NB o W b → NX o br hi wr b):=hid (fun b hb => ⟨Nat.lt_of_lt_of_le hb.1 HGW.out.size,hb.2,fun e => by have h1:=hb.1; have h2:=e.1; rw [HBR.out] at h2; omega⟩)
    obtain ⟨bl,ol,vl,rfl,-,hl1,hl2,hSl,hlc,htl⟩:=(HL.out.to HKW.out (fun _ h => h)).cellAt (zcb (k:=q) (l:=ls) (by rw [← HMM.out]; exact hqm))
    have HTL:=hid (htl.to (S':=NX o br hi wr) (Kept.refl _ _) HSW.out)
    have CC:=hid (fun (Y:World) (hY:Ext wr Y) => zpe (PX.pv (PX.on HTL.out (z9c hY))) fp (by omega))
    have CR0:∀ Y:World,Ext wr Y → Calls Tryz.prog 36 #[mval o,vr,vl,.int .i64 (z0t (ls.getD q []))] Y (zdg Y o (divK o true ls q s1 r1)):=fun (Y:World) (hY:Ext wr Y) => zti (HMV.out.ext hY) (PX.pm (PX.on HRV.out (z9c hY))) (PX.pm (PX.on HTL.out (z9c hY))) fp hFR2 hA2 (by omega) hT2 hTb2 hTM2 hlead hdeg
    rw [← HVM.out] at CR0
    have CR:=hid CR0
    have HRND:=hid HRF.out.2.1
    have HRF3:=hid HRF.out.2.2
    have hrd:=HRD.out
    rw [z4n] at hrd
    have HFRR:Hid (∃ A T,Fit A T (divK o true ls q s1 r1).r ∧ A ≤ 1000000 ∧ T ≤ 1000000000000):=hid ⟨B2,M2,hfit,by omega,by omega⟩
    generalize divK o true ls q s1 r1 = R at CR HRND HRF3 hrd hdn HFRR
    obtain ⟨re,rq,rr,rn,rs⟩:=R
    simp only at HRND HRF3 hrd hdn HFRR
    have HDN2:=hid hdn
    have HRDX:=hid hrd
    have HLW:=hid HRA.out.lts
    have HLC:=hid HCK.out.lt
    obtain ⟨ar,cr,rfl⟩:=HRV.out.form
    obtain ⟨all,cll,rfl⟩:=htl.form
    obtain ⟨nr,hnr⟩:∃ n,n = (ofP r1).length:=⟨_,rfl⟩
    obtain ⟨nl1,hnl1⟩:∃ n,n = (ofP (ls.getD q [])).length:=⟨_,rfl⟩
    rw [← hnr,← hnl1] at CR
    rw [← hnl1] at CC hlc
    rw [← hnr] at HRA
    have HNL:=hid hnl1
    have HFS:Hid (∀ Y:World,wr.grownBy Y o → Y.cell? ⟨bl,ol + q,none⟩ = some (.slice all nl1 cll) ∧ Y.cell? ⟨bd,2,none⟩ = some (.slice ar nr cr)):=hid (fun Y hY =>
     ⟨(World.cell?_of_block (hY.block bl (HSW.out bl hSl).1 hSl.2)).trans hlc,(HRA.out.gb HO.out.toOwn3 HOB.out hY).d2⟩)
    have x0:=Below.drew (Ext.refl wr)
    have HX0:Hid (Ext wr _):=hid x0
    have S0:=HFS.out _ (z11 HX0.out o)
    have HC1:=hid (CC.out _ x0)
    clear fp hA2 hB2 hT2 hTb2 hTM2 hFR2 hlead hdeg htl hnr hnl1 hlc x0 hrd CR0 hdn hfit hMM
    simp only [hq1]
    go_wp2
    go_region_held3 (fun Y => Y.cell? ⟨bl,ol + q,none⟩ = some (.slice all nl1 cll) ∧ Y.cell? ⟨bd,2,none⟩ = some (.slice ar nr cr)) (first | exact S0 | exact S1 | exact S2)
     (first
    | (go_at_call 23; refine HC1.out.mono ?_
       rintro e u1 ⟨rfl,hx1⟩; have HX1:Hid (Ext wr u1):=hid (Ext.trans HX0.out hx1); have S1:=HFS.out _ (z11 HX1.out o); have HC2:=hid (CR.out u1 HX1.out); clear hx1)
    | (go_at_call 36; refine HC2.out.mono ?_
       rintro e u2 ⟨q2,x2,rfl,hm2,hg2,hq2,hr2⟩; have HG2:=hid (z1d (z11 HX1.out o) hg2); have S2:=HFS.out _ HG2.out; have HM2:=hid hm2; have HQ2:=hid (hq2.low (Nat.le_trans (Nat.le_of_eq rfl) HX1.out.size)); have HR2:=hid (hr2.low HX1.out.size); have qf:=hr2.form; obtain ⟨a2,c2,rfl⟩:=qf; obtain ⟨n2,hn2⟩:∃ n,n = (ofP rr).length:=⟨_,rfl⟩; rw [← hn2] at HR2; rw [← hn2]; have qf:=hq2.form; obtain ⟨a3,c3,rfl⟩:=qf; obtain ⟨n3,hn3⟩:∃ n,n = (ofP rq).length:=⟨_,rfl⟩; rw [← hn3] at HQ2; rw [← hn3]; clear hm2 hg2 hq2 hr2 hn2 hn3))
    all_goals
     have HX2:=hid (zyu (lo:=br) (hi:=hi) HG2.out)
     have HRA2:=hid (HRA.out.gb HO.out.toOwn3 HOB.out HG2.out)
     have HCK2:=hid (HCK.out.gb HG2.out (fun e => by have h1:=HOB.out bc e.symm; have h2:=HO.out.c.1; omega))
     have HCV2:=hid (HCV.out.gx (Nat.le_refl _) HX2.out)
     have HHW:Hid (hi ≤ wr.heap.size):=hid (by rw [HHI.out]; exact HG.out.size)
     have HGW2:Hid (W.grownBy u2 o):=hid (z1d HGW.out HG2.out)
     clear S0 S1 S2
     by_cases h0:re = 0
     ·subst h0
      have HR6:=hid (HRA2.out.setQ HO.out.toOwn3 q (.slice a3 n3 c3))
      have HR7:=hid (HR6.out.setD HO.out.toOwn3 (.slice a2 n2 c2))
      have HR8:=hid (HR7.out.setP HO.out.toOwn3 q (rn:Int) (by rw [HNS.out.1]; exact hqm))
      obtain ⟨W6,hW6⟩:∃ Y,Y = u2.setCell ⟨bq,q,none⟩ (.slice a3 n3 c3):=⟨_,rfl⟩
      rw [← hW6] at HR6 HR7 HR8
      obtain ⟨W7,hW7⟩:∃ Y,Y = W6.setCell ⟨bd,2,none⟩ (.slice a2 n2 c2):=⟨_,rfl⟩
      rw [← hW7] at HR7 HR8
      obtain ⟨W8,hW8⟩:∃ Y,Y = W7.setCell ⟨bp,q,none⟩ (.int .i64 (rn:Nat)):=⟨_,rfl⟩
      rw [← hW8] at HR8
      have HX8:Hid (Gx o br hi u2 W8):=hid (by
       have g6:Gx o br hi u2 W6:=by rw [hW6]; exact z86 _ (a:=⟨bq,q,none⟩) HO.out.q.1 HO.out.q.2 _
       have g7:Gx o br hi W6 W7:=by rw [hW7]; exact z86 _ (a:=⟨bd,2,none⟩) HO.out.d.1 HO.out.d.2 _
       have g8:Gx o br hi W7 W8:=by rw [hW8]; exact z86 _ (a:=⟨bp,q,none⟩) HO.out.p.1 HO.out.p.2 _
       exact (g6.trans g7).trans g8)
      have HM8:Hid (MV W8 o rs):=hid (by
       have hne:∀ k,br ≤ k → ∀ b,o = some b → b ≠ k:=fun k hk b hb => by have:=HOB.out b hb; omega
       rw [hW8,hW7,hW6]
       exact ((HM2.out.set (hne bq HO.out.q.1) (a:=⟨bq,q,none⟩) rfl _).set (hne bd HO.out.d.1) (a:=⟨bd,2,none⟩) rfl _).set (hne bp HO.out.p.1) (a:=⟨bp,q,none⟩) rfl _)
      have HK8:Hid (CalcAt W8 bc (.pointer am) 0):=hid (HCK2.out.same (by
       rw [hW8,hW7,hW6]
       exact ((z15 _ ⟨bp,q,none⟩ _ HO.out.cp).trans (z15 _ ⟨bd,2,none⟩ _ HO.out.cd)).trans (z15 _ ⟨bq,q,none⟩ _ HO.out.cq)))
      have HV8:Hid (PX o br hi W8 (.slice a2 n2 c2) rr):=hid (PX.on (PMN.px (hi:=hi) HR2.out HHW.out) HX8.out)
      have HC8:Hid (CofV hi o W8 m (setV V q (.slice a3 n3 c3)) (cs1.set q rq)):=hid ((HCV2.out.gx (Nat.le_refl _) HX8.out).set hqm (PMN.gx (PMN.low HQ2.out HHW.out) (Nat.le_refl _) HX8.out))
      have HG8:Hid (Gx o br hi wc W8):=hid ((HG.out.trans HX2.out).trans HX8.out)
      have HN8:Hid ((ns1.set q (rn:Int)).length = m ∧ ∀ z ∈ ns1.set q (rn:Int),z1v z):=hid ⟨by rw [List.length_set]; exact HNS.out.1,fun z hz => by
       rcases List.mem_or_eq_of_mem_set hz with h | h
       ·exact HNS.out.2 z h
       ·rw [h]; unfold z1v; have h1:=HDN2.out; omega⟩
      have HW6:=hid hW6
      have HW7:=hid hW7
      have HW8:=hid hW8
      have d0:=HRA2.out.d0
      have d1:=HRA2.out.d1
      have d2:=HR6.out.d2
      have dz:=HR6.out.dz 2
      have q1:=HRA2.out.Q.cell hqm
      have qz:=HRA2.out.Q.frozen q
      have p1:=HR7.out.P.cell hqm
      have pz:=HR7.out.P.frozen q
      rw [hW7] at p1 pz
      rw [hW6] at d2 dz p1 pz
      clear hW6 hW7 hW8
      by_cases hn0:rn = 0
      ·have HRC:Hid (z22 o true (ls.getD q []) ls.length q ⟨0,rq,rr,rn,rs⟩ cs1 = (0,rs,cs1.set q rq)):=hid (by
        unfold z22
        rw [if_neg (fun h => h rfl),if_pos (.inl hn0)])
       have HRD8:Hid (z4n o true ls q rs rr (ns1.set q (rn:Int)) (cs1.set q rq) = X):=hid (by
        have h:=HRDX.out
        rw [HRC.out] at h
        exact (if_neg (fun h => h rfl)).symm.trans h)
       have HRF8:Hid (z31 o true ls q rs rr (cs1.set q rq)):=hid (by
        have h:=HRF3.out
        rw [HRC.out] at h
        exact h rfl)
       subst hn0
       go_wp2
       go_roundw
       case rel =>
        have hww:W8 = W7.setCell ⟨bp,q,none⟩ (.int .i64 0):=HW8.out
        rw [HW7.out,HW6.out] at hww
        rw [← hww]
        exact ⟨q,rs,.slice a2 n2 c2,rr,ns1.set q ((0:Nat):Int),setV V q (.slice a3 n3 c3),cs1.set q rq,by omega,by go_num,HM8,HG8,HR8,HK8,HV8,HFRR,HC8,HRF8,HRD8,HN8⟩
       case measure => simp only [intOf]; omega
      ·have hrf:=HRND.out rfl hn0 trivial
       obtain ⟨P,hP⟩:∃ P,P = (powN (z1w (ls.getD q [])) rn).getD []:=⟨_,rfl⟩
       have hn100:rn ≤ 100:=hrf.hn
       have hpow:powN (z1w (ls.getD q [])) rn = some P:=by rw [hP]; exact hrf.pow
       have HCOF:Hid ((z10 o rs P).1 = 0 → zaf o P m (m - (q + 1)) (z10 o rs P).2 (cs1.set q rq)):=hid (by rw [hP,HMM.out]; exact hrf.cof)
       obtain ⟨A3,T3,fp3,hA3,hT3,hT3b,hTn3⟩:=hrf.ex
       have hTn3':T3 ^ rn ≤ 1000000000000:=hTn3
       obtain ⟨Y,hY⟩:∃ Y,Y = z22 o true (ls.getD q []) ls.length q ⟨0,rq,rr,rn,rs⟩ cs1:=⟨_,rfl⟩
       have HY:Hid (Y = if (z10 o rs P).1 ≠ 0 then ((z10 o rs P).1,(z10 o rs P).2,[]) else cofD o P m (m - (q + 1)) (z10 o rs P).2 (cs1.set q rq)):=hid (by
        rw [hY,HMM.out,hP]
        unfold z22
        rw [if_neg (fun h => h rfl),if_neg (fun h => by rcases h with h | h; exact hn0 h; cases h)])
       have HYE:Hid (Y.1 ≠ 0 → X = (Y.1,Y.2.1,[],[],[])):=hid (fun hy => by
        have h:=HRDX.out
        rw [← hY] at h
        exact ((if_pos hy).symm.trans h).symm)
       have HYO:Hid (Y.1 = 0 → z4n o true ls q Y.2.1 rr (ns1.set q (rn:Int)) Y.2.2 = X ∧ z31 o true ls q Y.2.1 rr Y.2.2):=hid (fun hy => by
        have h:=HRDX.out
        have h2:=HRF3.out
        rw [← hY] at h h2
        exact ⟨(if_neg (fun k => k hy)).symm.trans h,h2 hy⟩)
       have HOC:Hid (∀ b,o = some b → b ≠ bc):=hid (fun b hb => by have h1:=HOB.out b hb; have h2:=HO.out.c.1; omega)
       have HK8m:Hid (CalcAt W8 bc (mval o) 0):=hid (by rw [← HVM.out]; exact HK8.out)
       have HTL8:=hid (PX.on HTL.out (HX2.out.trans HX8.out))
       have CI:=zc6 (PX.pv HTL8.out) fp3 (by omega) hT3b
       have CP0:=fun (Y:World) (u:Value) (hY:Ext W8 Y) (hu:PC o bc Y u (z1w (ls.getD q []))) => zdh (HK8m.out.ext hY) (HM8.out.ext hY) HOC.out hu fp3.init hA3 hT3 hn100 hTn3' hpow
       have CP:=hid CP0
       rw [← HNL.out] at CI
       have HCI:=hid CI
       have k1:=World.cell?_of_block ((HX2.out.trans HX8.out).block bl (HSW.out bl hSl).1 (HSW.out bl hSl).2.1 (HSW.out bl hSl).2.2) (a:=⟨bl,ol + q,none⟩)
       rw [(HFS.out wr (z51 _ _)).1] at k1
       have hww:W8 = _:=HW8.out
       rw [HW7.out,HW6.out] at hww
       rw [hww] at k1
       have HWW:=hid hww
       have q0:((rn:Int) == 0) = false:=by rw [beq_eq_false_iff_ne]; omega
       clear hrf hpow fp3 hA3 hT3 hT3b hTn3 hTn3' hn100 CP0 CI hww hP hY
       go_wp2_with fail
       rw [← HWW.out]
       with_reducible refine HCI.out.mono ?_
       rintro e w9 ⟨vi,rfl,ht9,hx9⟩
       have HX9:=hid hx9
       have HLT8:=hid HK8.out.lt
       have HT9:=hid (ht9.to (S':=NC o bc w9) (Kept.refl _ _) (fun b hb => ⟨hb.2,fun e => by have h1:=HOB.out b e.symm; have h2:=HO.out.c.1; have h3:=HLT8.out; have h4:=hb.1; omega,fun e => by have:=hb.1; have:=HLT8.out; omega⟩))
       have HCP:=hid (CP.out w9 vi hx9 HT9.out)
       obtain ⟨ai,ci,rfl⟩:=ht9.form
       obtain ⟨ni,hni⟩:∃ n,n = (ofP (z1w (ls.getD q []))).length:=⟨_,rfl⟩
       rw [← hni] at HCP ⊢
       clear hx9 ht9 hni k1 d0 d1 d2 dz q1 qz p1 pz
       go_wp2_with fail
       with_reducible refine HCP.out.mono ?_
       rintro e w10 ⟨v10,rfl,hd10,hm10,hg10,hp10⟩
       have HHI8:Hid (hi ≤ W8.heap.size):=hid (by rw [HHI.out]; exact HG8.out.size)
       have HHI9:Hid (hi ≤ w9.heap.size):=hid (Nat.le_trans HHI8.out HX9.out.size)
       have HX10:Hid (Gx o br hi W8 w10):=hid ((z9c HX9.out).trans (zx7 hg10 HO.out.c.1 HO.out.c.2))
       have HD10:=hid hd10
       have HM10:=hid hm10
       have HR10:=hid ((HR8.out.gb HO.out.toOwn3 HOB.out (z11 HX9.out o)).gd HO.out HOB.out hg10)
       have HC10:=hid (HC8.out.gx (Nat.le_refl _) HX10.out)
       have HP10:Hid (PX o br hi w10 v10 P):=hid (hp10.to (Kept.refl _ _) (fun k h => ⟨h.2.1,h.2.2.1,by have h1:=HHI9.out; have h2:=h.1; omega⟩))
       obtain ⟨ap,cp,rfl⟩:=hp10.form
       obtain ⟨np,hnp⟩:∃ n,n = (ofP P).length:=⟨_,rfl⟩
       have HNP:=hid hnp
       rw [← hnp]
       clear hd10 hm10 hg10 hp10 hnp
       obtain ⟨e1,he1⟩:∃ z,z = (z10 o rs P).1:=⟨_,rfl⟩
       obtain ⟨s2,hs2⟩:∃ z,z = (z10 o rs P).2:=⟨_,rfl⟩
       rw [← he1,← hs2] at HY HCOF
       rw [← he1] at HD10
       rw [← hs2] at HM10
       clear he1 hs2
       go_wp2
       go_loopw [17] (fun i wr => ∃ (t:Nat) (e2:Int) (s3:MSt) (V3:Nat → Value) (cs3:List PZ),t + (q + 1) ≤ m ∧ i = .int .i64 ((m - t:Nat):Int) ∧ Hid (Gx o br hi w10 wr) ∧ Hid (MV wr o s3) ∧ Hid (RestAt 23 wr br bd bp bq m (.slice a2 n2 c2) (ns1.set q (rn:Int)) V3) ∧ Hid (CalcAt wr bc (.pointer am) e2) ∧ Hid (zq4 m V3) ∧ Hid (e2 = 0 → CofV hi o wr m V3 cs3 ∧ zaf o P m t s3 cs3 ∧ cofD o P m t s3 cs3 = Y) ∧ Hid (e2 ≠ 0 → Y = (e2,s3,[]))) (fun i _ => m - (intOf i).toNat)
       case atStart =>
        refine ⟨m - (q + 1),e1,s2,setV V q (.slice a3 n3 c3),cs1.set q rq,by omega,by go_num,hid (Gx.refl _ _ _ _),HM10,HR10,hid (by rw [HVM.out]; exact HD10.out),hid HC10.out.form,hid (fun h0 => ⟨HC10.out,HCOF.out h0,?_⟩),hid (fun h0 => ?_)⟩
        ·rw [HY.out,if_neg (fun k => k h0)]
        ·rw [HY.out,if_pos h0]
       case round =>
        obtain ⟨t,e2,s3,V3,cs3,htm,rfl,HGI,HMI,HRI,HKI,HFI,HCI2,HEI⟩:=hrel
        have HGA:=hid (HX10.out.trans HGI.out)
        cases t with
        | zero =>
         by_cases h2:e2 = 0
         ·have hh:=HCI2.out h2
          have HYV:Hid (Y = (0,s3,cs3)):=hid hh.2.2.symm
          have hy:=HYO.out (by rw [HYV.out])
          rw [HYV.out] at hy
          have HC9:=hid hh.1
          have HRD9:=hid hy.1
          have HRF9:=hid hy.2
          subst h2
          have c1:=HKI.out.c1
          clear hh hy
          go_wp2
          go_roundw
          case rel => exact ⟨q,s3,.slice a2 n2 c2,rr,ns1.set q (rn:Int),V3,cs3,by omega,by go_num,HMI,hid (HG8.out.trans HGA.out),HRI,HKI,hid (PX.on HV8.out HGA.out),HFRR,HC9,HRF9,HRD9,HN8⟩
          case measure => simp only [intOf]; omega
         ·have HXE:Hid (X = (e2,s3,[],[],[])):=hid (by
           have h:=HYE.out (by rw [HEI.out h2]; exact h2)
           rwa [HEI.out h2] at h)
          have HGWI:Hid (W.grownBy wr.drew o):=hid (zec ((((z9c HX5.out).trans HG8.out).trans HGA.out).gb (by rw [HBR.out]; exact Nat.le_refl _)))
          have qe:(e2 != 0) = true:=by rw [bne_iff_ne]; exact h2
          have c1:=HKI.out.c1
          have y0:wr.cell? ⟨br,0,none⟩ = some (.slice none 0 0):=HRI.out.r0
          have y1:wr.cell? ⟨br,1,none⟩ = some (.slice none 0 0):=HRI.out.r1
          have y2:wr.cell? ⟨br,2,none⟩ = some (.slice none 0 0):=HRI.out.r2
          have z0:wr.frozen? ⟨br,0,none⟩ = false:=HRI.out.rz 0
          have z1:wr.frozen? ⟨br,1,none⟩ = false:=HRI.out.rz 1
          have z2:wr.frozen? ⟨br,2,none⟩ = false:=HRI.out.rz 2
          have f0:=zxd (a:=.slice none 0 0) (b:=.slice none 0 0) (c:=.slice none 0 0) y0
          have f1:=zxe (a:=.slice none 0 0) (b:=.slice none 0 0) (c:=.slice none 0 0) y1
          have f2:=zxf (a:=.slice none 0 0) (b:=.slice none 0 0) (c:=.slice none 0 0) y2
          have HFIN:=hid (zyv (Y:=wr.drew) (e:=e2) HO.out.r.2 HBR.out HOB.out (HMI.out.ext (Below.drew (Ext.refl wr))) HGWI.out)
          unfold st3 at f0 f1 f2 HFIN
          have HNC:=hid HO.out.rc
          have S0:wr.drew.cell? ⟨bc,1,none⟩ = some (.int .i64 e2):=HKI.out.c1
          clear h2
          go_wp2
          go_region_held3 (fun Y => Y.cell? ⟨bc,1,none⟩ = some (.int .i64 e2)) (first | exact S0 | exact z09 (z09 (z09 S0 (ab HNC.out)) (ab HNC.out)) (ab HNC.out)) (fail)
          all_goals
           go_wp2
           refine bodyPost_ret (v:=.tuple #[.agg #[.slice none 0 0,.slice none 0 0,.slice none 0 0],.int .i64 e2]) (by simp [results,Tryz.results16,go_sem,f0,f1,f2]) rfl ?_
           rw [HXE.out]
           exact HFIN.out
        | succ t =>
         obtain ⟨j,hj⟩:∃ j,j = m - (t + 1):=⟨_,rfl⟩
         have HJT:Hid (m - t = j + 1):=hid (by omega)
         have hjm:j < m:=by omega
         rw [← hj]
         have HJ:=hid hj
         have HHIr:Hid (hi ≤ wr.heap.size):=hid (by rw [HHI.out]; exact Nat.le_trans HG8.out.size HGA.out.size)
         obtain ⟨aj,nj,cj,hvj⟩:=HFI.out j hjm
         have k0:wr.cell? ⟨bq,j,none⟩ = some (.slice aj nj cj):=by rw [← hvj]; exact HRI.out.Q.cell hjm
         have S0:wr.cell? ⟨bd,1,none⟩ = some (.slice (some ⟨bq,0,none⟩) m m):=HRI.out.d1
         have HQD:Hid (bq ≠ bd):=hid HO.out.dq.symm
         have HKF:=hid (And.intro k0 (HRI.out.Q.frozen j))
         by_cases h2:e2 = 0
         ·obtain ⟨HCV3',hcf,hcd⟩:=HCI2.out h2
          rw [zaf,← hj] at hcf
          rw [cofD,← hj] at hcd
          obtain ⟨⟨⟨k5,n5,l5,m5,fc,fP,h24,hk5,hl5,hn5,hm5,hnm⟩,hsome⟩,hnext⟩:=hcf
          obtain ⟨c,hc⟩:∃ c,c = (z0g (cs3.getD j []) P).getD []:=⟨_,rfl⟩
          rw [← hc] at hsome hnext hcd
          have HCV3:=hid HCV3'
          have HNX:=hid hnext
          have HCD:=hid hcd
          subst h2
          have hpj:=HCV3'.2 j hjm
          have hPP:=PX.on HP10.out HGI.out
          rw [hvj] at hpj
          have CT0:=fun (Y:World) (hY:Ext wr Y) => z7x (HKI.out.ext hY) (z06.on (PMN.pv hpj) hY) (z06.on (PX.pv hPP) hY) fc fP h24 (by omega) (by omega) hnm hsome
          rw [← HNP.out] at CT0
          have HCT:=hid CT0
          have HCK:=hid (fun (Y:World) (u:Value) (hY:Gd none bc wr Y) (hD:CalcAt Y bc (mval o) 0) (hu:PM o Y u c) => zh2 hD (HMI.out.gdn hY HOC.out) HOC.out hu)
          have HC1:=hid (HCT.out _ (Below.drew (Ext.refl wr)))
          have HBC:=hid HKI.out.lt
          clear hcd fc fP h24 hk5 hl5 hn5 hm5 hnm hsome hnext hc HCV3' hpj hPP CT0 hvj hj
          go_wp2
          first
           | go_region_with
             (first
            | (go_at_call 37; refine HC1.out.mono ?_
               rintro e u1 ⟨x1,rfl,hd1,hg1,ht1⟩; have HGU1:Hid (Gd none bc wr u1):=hid ((z2b (Below.drew (Ext.refl wr))).trans hg1); have HRU1:=hid (HRI.out.gdn HO.out HGU1.out); have S1:=HRU1.out.d1; have HPN:Hid (PMN hi o u1 x1 c):=hid (ht1.to (Kept.refl _ _) (fun k h => ⟨Nat.le_trans HHIr.out h.1,h.2,fun e => by have a1:=HOB.out k e.symm; have a2:=h.1; have a3:=HHIr.out; have a4:=HLH.out; have a5:wr.heap.size ≤ k:=h.1; omega⟩)); have HC2:=hid (HCK.out u1 x1 HGU1.out (by rw [← HVM.out]; exact hd1) HPN.out.pm); have qf:=ht1.form; obtain ⟨a5,c5,rfl⟩:=qf; obtain ⟨n5,hn5⟩:∃ n,n = (ofP c).length:=⟨_,rfl⟩; have HN5:=hid hn5; rw [← hn5] at HC2; rw [← hn5]; clear hd1 hg1 ht1 hn5)
            | (go_at_call 39; refine HC2.out.mono ?_
               rintro e u2 ⟨rfl,hd2,hm2,hg2⟩; have HRU2:=hid (HRU1.out.gd HO.out HOB.out hg2); have S2:=HRU2.out.d1; have HD2:=hid hd2; have HM2:=hid hm2; have HGU2:Hid (Gd o bc wr u2):=hid (HGU1.out.of_none.trans hg2); have HGW:=hid hg2; have k1:=HRU2.out.Q.cell hjm; have k2:=HRU2.out.Q.frozen j; clear hd2 hm2 hg2))
           | fail
          all_goals
           have HR9:=hid (HRU2.out.setQ HO.out.toOwn3 j (.slice a5 n5 c5))
           have HG9:Hid (Gx o br hi wr u2):=hid (zx7 HGU2.out HO.out.c.1 HO.out.c.2)
           have HS9:Hid (Gx o br hi u2 (u2.setCell ⟨bq,j,none⟩ (.slice a5 n5 c5))):=hid (z86 u2 (a:=⟨bq,j,none⟩) HO.out.q.1 HO.out.q.2 _)
           have HM9:Hid (MV (u2.setCell ⟨bq,j,none⟩ (.slice a5 n5 c5)) o (z10 o s3 c).2):=hid (HM2.out.set (a:=⟨bq,j,none⟩) (bd:=bq) (fun b hb e => by have h1:=HOB.out b hb; have h2:=HO.out.q.1; omega) rfl _)
           have HK9:Hid (CalcAt (u2.setCell ⟨bq,j,none⟩ (.slice a5 n5 c5)) bc (.pointer am) (z10 o s3 c).1):=hid (by rw [HVM.out]; exact HD2.out.same (z15 u2 ⟨bq,j,none⟩ _ HO.out.cq))
           have HPN9:Hid (PMN hi o (u2.setCell ⟨bq,j,none⟩ (.slice a5 n5 c5)) (.slice a5 n5 c5) c):=hid (by
            have h:=HPN.out
            rw [← HN5.out] at h
            exact PMN.gx h (Nat.le_refl _) ((zx7 HGW.out HO.out.c.1 HO.out.c.2).trans HS9.out))
           have HC9:=hid ((HCV3.out.gx (Nat.le_refl _) (HG9.out.trans HS9.out)).set hjm HPN9.out)
           go_wp2
           go_roundw
           case rel =>
            refine ⟨t,(z10 o s3 c).1,(z10 o s3 c).2,setV V3 j (.slice a5 n5 c5),cs3.set j c,by omega,by rw [HJT.out]; go_num,hid ((HGI.out.trans HG9.out).trans HS9.out),HM9,HR9,HK9,hid (HFI.out.set j ⟨_,_,_,rfl⟩),hid (fun h0 => ⟨HC9.out,HNX.out h0,?_⟩),hid (fun h0 => ?_)⟩
            ·have h:=HCD.out
             rwa [if_neg (fun k => k h0)] at h
            ·have h:=HCD.out
             rw [if_pos h0] at h
             exact h.symm
           case measure => simp only [intOf]; omega
         ·have HC1:Hid (∀ Y:World,Ext wr Y → Calls Tryz.prog 37 #[.pointer (some ⟨bc,0,none⟩),.slice aj nj cj,.slice ap np cp] Y fun e w' => e = .returned (.slice none 0 0) ∧ Ext Y w'):=hid (fun Y hY => (zca (HKI.out.ext hY) ⟨_,_,_,rfl⟩ ⟨_,_,_,rfl⟩ h2).mono (by rintro e w' ⟨rfl,rfl⟩; exact ⟨rfl,Ext.refl _⟩))
          have HC2:Hid (∀ Y:World,Ext wr Y → Calls Tryz.prog 39 #[.pointer (some ⟨bc,0,none⟩),.slice none 0 0] Y fun e w' => e = .returned (.slice none 0 0) ∧ Ext Y w'):=hid (fun Y hY => (zcy (HKI.out.ext hY) ⟨_,_,_,rfl⟩ h2).mono (by rintro e w' ⟨rfl,rfl⟩; exact ⟨rfl,Ext.refl _⟩))
          have HC1a:=hid (HC1.out _ (Below.drew (Ext.refl wr)))
          have HYV:=hid (HEI.out h2)
          have HE2:=hid h2
          clear h2 hj hvj
          go_wp2
          first
           | go_region_with
             (first
            | (go_at_call 37; with_reducible refine HC1a.out.mono ?_
               rintro e u1 ⟨rfl,hx1⟩; have HU1:Hid (Ext wr u1):=hid ((Below.drew (Ext.refl wr)).trans hx1); have S1:=(HRI.out.gb HO.out.toOwn3 HOB.out (z11 HU1.out o)).d1; have HC2a:=hid (HC2.out u1 HU1.out); clear hx1)
            | (go_at_call 39; with_reducible refine HC2a.out.mono ?_
               rintro e u2 ⟨rfl,hx2⟩; have HU2:Hid (Ext wr u2):=hid (HU1.out.trans hx2); have HRU2:=hid (HRI.out.gb HO.out.toOwn3 HOB.out (z11 HU2.out o)); have S2:=HRU2.out.d1; have k1:=HRU2.out.Q.cell hjm; have k2:=HRU2.out.Q.frozen j; clear hx2))
           | fail
          all_goals
           have HR9:=hid (HRU2.out.setQ HO.out.toOwn3 j (.slice none 0 0))
           have HG9:Hid (Gx o br hi wr u2):=hid (z9c HU2.out)
           have HS9:Hid (Gx o br hi u2 (u2.setCell ⟨bq,j,none⟩ (.slice none 0 0))):=hid (z86 u2 (a:=⟨bq,j,none⟩) HO.out.q.1 HO.out.q.2 _)
           have HM9:Hid (MV (u2.setCell ⟨bq,j,none⟩ (.slice none 0 0)) o s3):=hid ((HMI.out.ext HU2.out).set (a:=⟨bq,j,none⟩) (bd:=bq) (fun b hb e => by have h1:=HOB.out b hb; have h2:=HO.out.q.1; omega) rfl _)
           have HK9:Hid (CalcAt (u2.setCell ⟨bq,j,none⟩ (.slice none 0 0)) bc (.pointer am) e2):=hid ((HKI.out.ext HU2.out).same (z15 u2 ⟨bq,j,none⟩ _ HO.out.cq))
           go_wp2
           go_roundw
           case rel =>
            exact ⟨t,e2,s3,setV V3 j (.slice none 0 0),cs3,by omega,by rw [HJT.out]; go_num,hid ((HGI.out.trans HG9.out).trans HS9.out),HM9,HR9,HK9,hid (HFI.out.set j ⟨_,_,_,rfl⟩),hid (fun h0 => absurd h0 HE2.out),hid (fun _ => HYV.out)⟩
           case measure => simp only [intOf]; omega
     ·have HXE:Hid (X = (re,rs,[],[],[])):=hid (by
       have h:=HRDX.out
       have h1:z22 o true (ls.getD q []) ls.length q ⟨re,rq,rr,rn,rs⟩ cs1 = (re,rs,[]):=by unfold z22; exact if_pos h0
       rw [h1,if_pos h0] at h
       exact h.symm)
      have q0:(re != 0) = true:=by rw [bne_iff_ne]; exact h0
      have y0:=HRA2.out.r0
      have y1:=HRA2.out.r1
      have y2:=HRA2.out.r2
      have z0:=HRA2.out.rz 0
      have z1:=HRA2.out.rz 1
      have z2:=HRA2.out.rz 2
      have f0:=zxd (a:=.slice none 0 0) (b:=.slice none 0 0) (c:=.slice none 0 0) y0
      have f1:=zxe (a:=.slice none 0 0) (b:=.slice none 0 0) (c:=.slice none 0 0) y1
      have f2:=zxf (a:=.slice none 0 0) (b:=.slice none 0 0) (c:=.slice none 0 0) y2
      have HFIN:=hid (zyv (e:=re) HO.out.r.2 HBR.out HOB.out HM2.out HGW2.out)
      unfold st3 at f0 f1 f2 HFIN
      clear h0
      go_wp2
      all_goals
       refine bodyPost_ret (v:=.tuple #[.agg #[.slice none 0 0,.slice none 0 0,.slice none 0 0],.int .i64 re]) (by simp [results,Tryz.results16,go_sem,f0,f1,f2]) rfl ?_
       rw [HXE.out]
       exact HFIN.out
end
section
open Go.RowKit Go.Deep Go.ChangeShapes Go.WideShapes
theorem z4t {α:Type} {n:Nat} {p:Nat → α → Prop} (h:∀ i,i < n → ∃ x,p i x):∃ l:List α,l.length = n ∧ ∀ i x,l[i]? = some x → p i x:=by
 induction n with
 | zero => exact ⟨[],rfl,fun i x hx => by simp at hx⟩
 | succ n ih =>
  obtain ⟨l,hl,hp⟩:=ih (fun i hi => h i (Nat.lt_succ_of_lt hi))
  obtain ⟨x,hx⟩:=h n (Nat.lt_succ_self n)
  refine ⟨l ++ [x],by simp [hl],fun i y hy => ?_⟩
  rw [List.getElem?_append] at hy
  split at hy
  ·exact hp i y hy
  ·rename_i hi
   have:i = n:=by
    have:=z05 hy
    simp at this
    omega
   subst this
   simp [hl] at hy
   exact hy ▸ hx
theorem ztz {α:Type} {l:List α} (h:l.length = 2):∃ a b,l = [a,b]:=by
 match l,h with
 | [a,b],_ => exact ⟨a,b,rfl⟩
theorem zlz {α:Type} {l:List α} (h:l.length = 3):∃ a b c,l = [a,b,c]:=by
 match l,h with
 | [a,b,c],_ => exact ⟨a,b,c,rfl⟩
section
variable {H:Type} {enc:TypeId × Value → H} {w:World} {base:Nat} {spare:Nat → Bool} {held:Bool}
theorem z3o {t e:TypeId} {fuel sz:Nat} {v:Value} {x:DataW H × List MemPlace} (ht:Tryz.prog.underlying t = some (.slice e)) (hsz:Tryz.prog.cellsOf e = sz) (hpos:0 < sz)
  (h:DataW.trod enc Tryz.prog w base spare held fuel t [v] = some x) :
  ∃ (n b off fuel':Nat),z3a (· < w.heap.size) v n b off ∧ ∀ j,j < n → ∃ (cs:List Value) (y:DataW H × List MemPlace),cs.length = sz ∧ (∀ i,i < sz → w.cell? ⟨b,off + j * sz + i,none⟩ = cs[i]?) ∧ DataW.trod enc Tryz.prog w base spare held fuel' e cs = some y:=by
 rcases open_slice ht h with ⟨hcs,_⟩ | ⟨a,len,cap,m,fuel',D,Pl,hcs,hb,hl,hm,hmm,_,hx⟩
 ·obtain rfl:v = .slice none 0 0:=by simpa using hcs
  exact ⟨0,0,0,0,⟨none,0,rfl,Nat.le_refl _,Nat.zero_le _,fun h => absurd h (by omega),fun h => absurd h (by omega)⟩,fun j hj => absurd hj (by omega)⟩
 ·obtain rfl:v = .slice (some a) len cap:=by simpa using hcs
  rw [hsz] at hx
  have hlm:len ≤ m:=by rw [hmm]; split <;> omega
  have key:∀ j,j < len → ∃ (cs:List Value) (y:DataW H × List MemPlace),cs.length = sz ∧ (∀ i,i < sz → w.cell? ((a.add (j * sz)).add i) = cs[i]?) ∧ DataW.trod enc Tryz.prog w base spare held fuel' e cs = some y:=by
   intro j hj
   obtain ⟨cs,h1,h2⟩:=hx j (by omega)
   obtain ⟨_,h3,h4⟩:=World.cells?_some h1
   exact ⟨cs,_,h3,h4,h2⟩
  by_cases h0:0 < len
  ·have hsp:a.spot = none:=by
    obtain ⟨cs,_,h3,h4,_⟩:=key 0 h0
    have h5:=h4 0 hpos
    have e0:(a.add (0 * sz)).add 0 = a:=by simp [Addr.add]
    rw [e0,List.getElem?_eq_getElem (by omega)] at h5
    unfold World.cell? at h5
    split at h5
    ·cases hs:a.spot with
     | none => rfl
     | some z => simp [hs] at h5
    ·exact absurd h5 (by simp)
   obtain ⟨b,off,spot⟩:=a
   obtain rfl:spot = none:=hsp
   have add_eq:∀ j i,((⟨b,off,none⟩:Addr).add (j * sz)).add i = ⟨b,off + j * sz + i,none⟩:=by
    intro j i
    unfold Addr.add
    by_cases h1:j * sz = 0 <;> by_cases h2:i = 0 <;> simp [h1,h2]
   refine ⟨len,b,off,fuel',⟨_,cap,rfl,hl,hm,fun _ => rfl,fun _ => ?_⟩,fun j hj => ?_⟩
   ·obtain ⟨cs,_,h3,h4,_⟩:=key 0 h0
    have h5:=h4 0 hpos
    rw [add_eq,List.getElem?_eq_getElem (by omega)] at h5
    exact z0s h5
   ·obtain ⟨cs,y,h3,h4,h5⟩:=key j hj
    exact ⟨cs,y,h3,fun i hi => by rw [← add_eq]; exact h4 i hi,h5⟩
  ·exact ⟨len,0,0,fuel',⟨_,cap,rfl,hl,hm,fun h => absurd h h0,fun h => absurd h h0⟩,fun j hj => absurd hj (by omega)⟩
theorem zdk {n:Int} (h:(Lit.int .i64 n).wf = true):-9223372036854775808 ≤ n ∧ n ≤ 9223372036854775807:=by
 simpa [Lit.wf,IntKind.min,IntKind.max,IntKind.signed,IntKind.bits] using h
theorem zm0 {n:Int} (h:(Lit.int .u32 n).wf = true):0 ≤ n ∧ n < 4294967296:=by
 have:0 ≤ n ∧ n ≤ 4294967295:=by simpa [Lit.wf,IntKind.min,IntKind.max,IntKind.signed,IntKind.bits] using h
 omega
theorem Tryz.cells_u32:Tryz.prog.cellsOf 74 = 1:=by kernel_rfl
theorem Tryz.cells_power:Tryz.prog.cellsOf 52 = 2:=by kernel_rfl
theorem Tryz.cells_term:Tryz.prog.cellsOf 50 = 3:=by kernel_rfl
theorem Tryz.cells_int:Tryz.prog.cellsOf 30 = 2:=by kernel_rfl
theorem Tryz.cells_mono:Tryz.prog.cellsOf 48 = 1:=by kernel_rfl
theorem Tryz.cells_bool:Tryz.prog.cellsOf 4 = 1:=by kernel_rfl
theorem Tryz.cells_i64:Tryz.prog.cellsOf 3 = 1:=by kernel_rfl
theorem Tryz.cells_su32:Tryz.prog.cellsOf 28 = 1:=by kernel_rfl
theorem zh7 {fuel:Nat} {v:Value} {x:DataW H × List MemPlace} (h:DataW.trod enc Tryz.prog w base spare held fuel 28 [v] = some x):∃ zs,U32s (· < w.heap.size) w v zs:=by
 obtain ⟨n,b,off,f',hs,hx⟩:=z3o Tryz.underlying28 Tryz.cells_u32 (by omega) h
 obtain ⟨zs,hl,hz⟩:=z4t (p:=fun j (z:Nat) => z < 4294967296 ∧ w.cell? ⟨b,off + j,none⟩ = some (.int .u32 (z:Nat))) (n:=n) (fun j hj => by
  obtain ⟨cs,y,h1,h2,h3⟩:=hx j hj
  obtain ⟨m,rfl,_,hw⟩:=DataW.trod_int Tryz.underlying74 h3
  have:=zm0 hw
  have h4:=h2 0 (by omega)
  refine ⟨m.toNat,by omega,?_⟩
  simp only [Nat.mul_one,Nat.add_zero] at h4
  rw [h4]
  simp
  omega)
 subst hl
 exact ⟨zs,b,off,hs,hz⟩
theorem zq6 {fuel:Nat} {v:Value} {x:DataW H × List MemPlace} (h:DataW.trod enc Tryz.prog w base spare held fuel 48 [v] = some x):∃ ps,Pows (· < w.heap.size) w v ps:=by
 obtain ⟨n,b,off,f',hs,hx⟩:=z3o Tryz.underlying48 Tryz.cells_power (by omega) h
 obtain ⟨ps,hl,hp⟩:=z4t (p:=fun j (x:Int × Int) => ((-9223372036854775808 ≤ x.1 ∧ x.1 ≤ 9223372036854775807) ∧ -9223372036854775808 ≤ x.2 ∧ x.2 ≤ 9223372036854775807) ∧
  w.cell? ⟨b,off + j * 2,none⟩ = some (.int .i64 x.1) ∧ w.cell? ⟨b,off + j * 2 + 1,none⟩ = some (.int .i64 x.2)) (n:=n) (fun j hj => by
  obtain ⟨cs,y,h1,h2,h3⟩:=hx j hj
  obtain ⟨y0,y1,m,_,_,g0,g1⟩:=trod_struct2 Tryz.underlying52 h3
  obtain ⟨n0,e0,_,w0⟩:=DataW.trod_int Tryz.underlying3 g0
  obtain ⟨n1,e1,_,w1⟩:=DataW.trod_int Tryz.underlying3 g1
  obtain ⟨c0,c1,rfl⟩:=ztz h1
  simp [Tryz.cells_i64] at e0 e1
  subst e0 e1
  exact ⟨(n0,n1),⟨zdk w0,zdk w1⟩,h2 0 (by omega),h2 1 (by omega)⟩)
 subst hl
 exact ⟨ps,b,off,hs,hp⟩
theorem zdl {fuel:Nat} {v:Value} {x:DataW H × List MemPlace} (h:DataW.trod enc Tryz.prog w base spare held fuel 23 [v] = some x):∃ ts,z06 (· < w.heap.size) w v ts:=by
 obtain ⟨n,b,off,f',hs,hx⟩:=z3o Tryz.underlying23 Tryz.cells_term (by omega) h
 obtain ⟨ts,hl,hp⟩:=z4t (p:=fun j (t:RTerm) => ∃ vm vo,w.cell? ⟨b,off + j * 3,none⟩ = some (.bool t.c.neg) ∧
  w.cell? ⟨b,off + j * 3 + 1,none⟩ = some vm ∧ w.cell? ⟨b,off + j * 3 + 2,none⟩ = some vo ∧ U32s (· < w.heap.size) w vm t.c.mag ∧ Pows (· < w.heap.size) w vo t.m) (n:=n) (fun j hj => by
  obtain ⟨cs,y,h1,h2,h3⟩:=hx j hj
  obtain ⟨y0,y1,m,_,_,g0,g1⟩:=trod_struct2 Tryz.underlying50 h3
  obtain ⟨c0,c1,c2,rfl⟩:=zlz h1
  simp [Tryz.cells_int,Tryz.cells_mono] at g0 g1
  obtain ⟨z0,z1,m',_,_,k0,k1⟩:=trod_struct2 Tryz.underlying30 g0
  simp [Tryz.cells_bool,Tryz.cells_su32] at k0 k1
  obtain ⟨ng,e0,_⟩:=DataW.trod_bool Tryz.underlying4 k0
  simp at e0
  subst e0
  obtain ⟨zs,hzs⟩:=zh7 k1
  obtain ⟨ps,hps⟩:=zq6 g1
  exact ⟨⟨⟨ng,zs⟩,ps⟩,c1,c2,h2 0 (by omega),h2 1 (by omega),h2 2 (by omega),hzs,hps⟩)
 subst hl
 exact ⟨ts,b,off,hs,hp⟩
end
end
section
open Go.RowKit Go.Deep Go.ChangeShapes Go.WideShapes Go.ChangeAt
theorem Tryz.own:ownKnob Tryz.prog.godebug = none:=by kernel_rfl
theorem Tryz.laidOut:laidOutB Tryz.prog = true:=by kernel_rfl
theorem zes {H:Type} {enc:TypeId × Value → H} {W W':World} (hb:Below W.heap.size W W') :
  ∀ {ts:List TypeId} {vs:List Value} {ds:List (DataW H)} {p:List MemPlace},(∀ t ∈ ts,Tryz.prog.readableRec t = true ∧ t < Tryz.prog.types.size) → (∀ x ∈ p,x.block < W.heap.size) →
  DataW.TrodAll enc Tryz.prog W 0 (fun _ => true) true ts vs ds p → DataW.TrodAll enc Tryz.prog W' 0 (fun b => decide (b < W.heap.size)) true ts vs ds p:=by
 intro ts
 induction ts with
 | nil =>
  intro vs ds p _ _ h
  cases vs <;> cases ds <;> first | exact h | exact h.elim
 | cons t ts ih =>
  intro vs ds p ht hlt h
  cases vs with
  | nil => exact h.elim
  | cons v vs =>
   cases ds with
   | nil => exact h.elim
   | cons d ds =>
    obtain ⟨p1,q1,h1,h2,rfl⟩:=h
    refine ⟨p1,q1,?_,ih (fun x hx => ht x (List.mem_cons_of_mem _ hx)) (fun x hx => hlt x (List.mem_append_right _ hx)) h2,rfl⟩
    exact Below.trod Tryz.laidOut (ht t (List.mem_cons_self)).1 (ht t (List.mem_cons_self)).2 h1 hb (fun x hx => hlt x (List.mem_append_left _ hx))
theorem zu0 {H:Type} {enc:TypeId × Value → H} {F:Func} {s:ChangeSpec} {W W':World} {args:Array Value} {ds gs:List (DataW H)} {before:List MemPlace}
  (hW:DataW.Whole enc Tryz.prog F.params.toList s.vars false W args.toList ds gs before) (hv:s.vars = []) (hr:F.resultTypes = #[4])
  (hs:s.fn H (ds ++ gs) = { results:=[.lit (.bool true)],args:=ds }) (ht:∀ t ∈ F.params.toList,Tryz.prog.readableRec t = true ∧ t < Tryz.prog.types.size)
  (hb:Below W.heap.size W W'):s.post enc Tryz.prog F false true false false W args (.bool true) W':=by
 have hlt:=fun p hp => hW.lt p hp
 have hW':=hW
 obtain ⟨p,q,hA,hV,rfl,_,_⟩:=hW
 rw [hv] at hV
 obtain ⟨rfl,rfl⟩:=trodVars_none hV
 refine ⟨ds,_,_,[],p,[],hW',?_,?_,?_,hb.frame _,fun h => by cases h⟩
 ·rw [hs,hr]
  exact trodAll_mk1 (shut_bool Tryz.underlying4 true)
 ·rw [hs]
  exact zes hb ht (fun x hx => hlt x (List.mem_append_left _ hx)) hA
 ·rw [hs,hv]
  rfl
end
section
open Go.RowKit Go.Deep Go.ChangeShapes Go.WideShapes Go.ChangeAt
theorem z8j {t e:TypeId} {W:World} {base:Nat} {v:Value} (ht:Tryz.prog.underlying t = some (.slice e)) (hv:Value.okWide Tryz.prog W .any base t v):v.cells.toList = [v]:=by
 obtain ⟨a,len,cap,rfl⟩:=okWide_slice ht hv
 rfl
theorem Tryz.cells_poly:Tryz.prog.cellsOf 23 = 1:=by kernel_rfl
section
variable {H:Type} {enc:TypeId × Value → H} {w:World} {base:Nat} {spare:Nat → Bool} {held:Bool}
theorem zm1 {fuel:Nat} {v:Value} {x:DataW H × List MemPlace} (h:DataW.trod enc Tryz.prog w base spare held fuel 24 [v] = some x):∃ ls,z1r (· < w.heap.size) w v ls:=by
 obtain ⟨n,b,off,f',hs,hx⟩:=z3o Tryz.underlying24 Tryz.cells_poly (by omega) h
 obtain ⟨ls,hl,hp⟩:=z4t (p:=fun j (t:List RTerm) => ∃ vp,w.cell? ⟨b,off + j,none⟩ = some vp ∧ z06 (· < w.heap.size) w vp t) (n:=n) (fun j hj => by
  obtain ⟨cs,y,h1,h2,h3⟩:=hx j hj
  match cs,h1 with
  | [c],_ =>
   obtain ⟨ts,hts⟩:=zdl h3
   have h4:=h2 0 (by omega)
   simp only [Nat.mul_one,Nat.add_zero] at h4
   exact ⟨ts,c,h4,hts⟩)
 subst hl
 exact ⟨ls,b,off,hs,hp⟩
end
end
section
open Go.RowKit
section
variable {W Y Y':World} {S:Nat → Prop} {o:Option Nat} {u v:Value} {p q:PZ} {k l n m:Nat}
end
section
variable {o:Option Nat} {keep:Bool} {g h q r:PZ} {v d c1 c2 c3:Int} {s s1 s2 s3:MSt} {x:PZ × PZ}
end
end
section
open Go.RowKit
end
section
open Go.RowKit
theorem zq7 {a b c d:Int} (h:z46 a b c d):(MSt.new a b c d).Ok:=by
 obtain ⟨⟨a0,a1⟩,⟨b0,b1⟩,⟨c0,c1⟩,d0,d1⟩:=h
 exact ⟨a0,a1,b0,b1,c0,c1,d0,d1,by show (0:Int) ≤ 0; decide,a0,by show (0:Int) ≤ 0; decide,d0⟩
end
section
open Go.RowKit
theorem zyw {m:Mono} {E:Int} (h0:0 ≤ E) (h:∀ y ∈ m,y.2 ≤ E) (u:Int):ex m u ≤ E:=by
 induction m with
 | nil => simp [ex]; exact h0
 | cons y r ih =>
  rw [ex]
  split
  ·exact h y (by simp)
  ·exact ih (fun z hz => h z (by simp [hz]))
section
variable {F G:PZ} {x:Int}
end
end
section
open Go.RowKit Go.Deep Go.ChangeShapes Go.WideShapes Go.ChangeAt Go.Joins
section
variable {H:Type} {enc:TypeId × Value → H} {P:Program} {w:World} {base:Nat} {spare:Nat → Bool} {held:Bool}
end
section
variable {H:Type} {enc:TypeId × Value → H} {W:World} {base b0:Nat} {sp:Nat → Bool} {held:Bool}
end
end
section
open Go.RowKit Go.Deep Go.ChangeShapes Go.WideShapes Go.ChangeAt Go.Joins
section
variable {H:Type} {enc:TypeId × Value → H} {w:World} {base:Nat} {spare:Nat → Bool} {held:Bool}
end
section
variable {H:Type} {enc:TypeId × Value → H} {W:World} {base b0:Nat} {sp:Nat → Bool} {held:Bool}
end
end
section
open Go.RowKit Go.Deep
theorem z38 (w:World) (a b:Value) (T:TypeId):(w.alloc (.cells #[a,b] T)).cell? ⟨w.heap.size,0,none⟩ = some a ∧ (w.alloc (.cells #[a,b] T)).cell? ⟨w.heap.size,1,none⟩ = some b:=⟨z04 _ _ _ rfl rfl,z04 _ _ _ rfl rfl⟩
theorem zq8:mayC 0 (k16L.map ofP) = true:=by kernel_rfl
theorem zxg:mayC 0 ([k16B,k16A].map ofP) = false:=by kernel_rfl
theorem z77 {l:List PZ} (h:∀ p ∈ l,z8i p = true ∧ canP p):z70 (l.map ofP):=fun t ht => by
 obtain ⟨p,hp,rfl⟩:=List.mem_map.1 ht
 exact (z2l (h p hp).2 (h p hp).1).small (by decide)
theorem zet:∀ p ∈ k16L,z8i p = true ∧ canP p:=fun p hp => by
 rcases List.mem_cons.1 hp with rfl | hp
 ·exact ⟨by kernel_rfl,z6i⟩
 ·rw [List.mem_singleton.1 hp]; exact ⟨by kernel_rfl,z6j⟩
theorem zu1:∀ p ∈ [k16B,k16A],z8i p = true ∧ canP p:=fun p hp => by
 rcases List.mem_cons.1 hp with rfl | hp
 ·exact ⟨by kernel_rfl,z6j⟩
 ·rw [List.mem_singleton.1 hp]; exact ⟨by kernel_rfl,z6i⟩
theorem zjs:∀ p ∈ [k121,k16Q],z8i p = true ∧ canP p:=fun p hp => by
 rcases List.mem_cons.1 hp with rfl | hp
 ·exact ⟨by kernel_rfl,z7v⟩
 ·rw [List.mem_singleton.1 hp]; exact ⟨by kernel_rfl,zer⟩
theorem z7y {p:PZ} (hc:canP p) (h:z8i p = true) (hl:p.length ≤ 6) (he:p.all (fun t => t.2.all fun y => decide (y.2 ≤ 4)) = true):Fit 3 6 p ∧ exB 4 p:=by
 have f:=z2l hc h
 refine ⟨⟨f.1,f.2.1.mono (by decide),hl⟩,fun t ht u => ?_⟩
 have h1:=(List.all_eq_true.1 he) t ht
 exact zyw (by decide) (fun y hy => of_decide_eq_true ((List.all_eq_true.1 h1) y hy)) u
theorem zxh:∀ p ∈ k16L,Fit 3 6 p ∧ exB 4 p:=fun p hp => by
 rcases List.mem_cons.1 hp with rfl | hp
 ·exact z7y z6i (by kernel_rfl) (by decide) (by decide)
 ·rw [List.mem_singleton.1 hp]; exact z7y z6j (by kernel_rfl) (by decide) (by decide)
theorem zxi:∀ p ∈ [k121,k16Q],Fit 3 6 p ∧ exB 4 p:=fun p hp => by
 rcases List.mem_cons.1 hp with rfl | hp
 ·exact z7y z7v (by kernel_rfl) (by decide) (by decide)
 ·rw [List.mem_singleton.1 hp]; exact z7y zer (by kernel_rfl) (by decide) (by decide)
theorem zq9:Fit 3 6 k16F ∧ exB 4 k16F:=z7y zat (by kernel_rfl) (by decide) (by decide)
theorem zqa:Fit 3 6 k162 ∧ exB 4 k162:=z7y ztn (by kernel_rfl) (by decide) (by decide)
theorem zyx:∀ k,k < 2 → 0 ≤ ([1,2]:List Int).getD k 0 ∧ ([1,2]:List Int).getD k 0 ≤ 3:=fun k hk => by
 match k,hk with
 | 0,_ => decide
 | 1,_ => decide
theorem zxj:(idXs k16F k162 k16L [k121,k16Q] [1,2] 2).1 = (idXs k16F k162 k16L [k121,k16Q] [1,2] 2).2:=by kernel_rfl
theorem zh8 {W:World} {vf vl vp vc vr:Value} (hf:PV W vf k16F) (hl:PVL W vl k16L) (hp:Ints (Old W) W vp [1,2]) (hc:PVL W vc [k121,k16Q]) (hr:PV W vr k162) :
  Calls Tryz.prog 18 #[vf,vl,.agg #[vp,vc,vr]] W fun e W' => e = .returned (.bool true) ∧ Ext W W':=by
 have h:=zcz (xs:=idXs k16F k162 k16L [k121,k16Q] [1,2]) (j:=2) hf hl hp hc hr rfl rfl zq9.1 (by decide) zqa.1 (by decide) (z77 zet) (fun p h => (zet p h).2) (z77 zjs) (fun p h => (zjs p h).2) (Nat.le_refl _) rfl
  (zlv zq9.1 zq9.2 zqa.1 zqa.2 zxh zxi (by decide) rfl (Nat.le_refl _) zyx) (fun h => absurd h (by decide))
 rw [if_neg (by decide),decide_eq_true zxj] at h
 exact h
theorem zu2 {W:World} {vl:Value} (hl:PVL W vl k16L):Calls Tryz.prog 19 #[vl] W fun e W' => e = .returned (.bool true) ∧ Ext W W':=by
 have h:=z76 (S:=Old W) vl (k16L.map ofP) W hl (fun _ h => h) (z77 zet)
 rwa [zq8] at h
theorem zu3 {W:World} {vl:Value} (hl:PVL W vl [k16B,k16A]):Calls Tryz.prog 19 #[vl] W fun e W' => e = .returned (.bool false) ∧ Ext W W':=by
 have h:=z76 (S:=Old W) vl ([k16B,k16A].map ofP) W hl (fun _ h => h) (z77 zu1)
 rwa [zxg] at h
theorem zh9 {S:Nat → Prop} {w:World} {b:Nat} {v0 v1:Value} {p q:List RTerm} (hb:S b) (h0:w.cell? ⟨b,0,none⟩ = some v0) (h1:w.cell? ⟨b,1,none⟩ = some v1) (t0:z06 S w v0 p) (t1:z06 S w v1 q):z1r S w (.slice (some ⟨b,0,none⟩) 2 2) [p,q] :=
 ⟨b,0,⟨_,2,rfl,Nat.le_refl _,by decide,fun _ => rfl,fun _ => hb⟩,fun j t hj => by
  match j,hj with
  | 0,hj => cases hj; exact ⟨v0,h0,t0⟩
  | 1,hj => cases hj; exact ⟨v1,h1,t1⟩⟩
theorem zeu {W:World} {vf vl:Value} (hf:PV W vf k16F) (hl:PVL W vl k16L) :
  Calls Tryz.prog 16 #[.pointer none,vf,vl] W fun e W' => ∃ vp vc vr,e = .returned (.tuple #[.agg #[vp,vc,vr],.int .i64 0]) ∧ PV W' vr k162 ∧ Ints (Old W') W' vp [1,2] ∧ PVL W' vc [k121,k16Q] ∧ Ext W W':=by
 have h:=zly (o:=none) (s:=default) (f:=k16F) (ls:=k16L) (A:=1) (T:=10) (MV.none W _) (zx3 hf) (hl.to (S':=NB none W) (Kept.refl _ _) (fun _ h => ⟨h,by simp⟩)) (z2l zat (by kernel_rfl)) (by decide) (by decide) (z77 zet) zq8 (by decide) zx6
 rw [show z4n none true k16L k16L.length default k16F (List.replicate k16L.length 0) (List.replicate k16L.length []) = (0,default,k162,[1,2],[k121,k16Q]) from zto] at h
 exact h.mono (by
  rintro e W' ⟨vp,vc,vr,rfl,-,h2,h3,h4,h5⟩
  exact ⟨vp,vc,vr,rfl,h3.pv,h4.to (Kept.refl _ _) (fun _ h => h.2.1),h5.to (Kept.refl _ _) (fun _ h => h.2.1),zpt h2⟩)
theorem z1f (w:World) :
  Calls Tryz.prog 5 #[] w fun e w' => e = .returned (.bool true) ∧ Ext w w':=by
 have hnot:∀ (x:Bool) (w:World),(Op.unary .not (.bool x)).run Tryz.prog w = .ok (.bool (!x)) w:=fun _ _ => rfl
 go_enter Tryz.func5,Tryz.ntmps5
 have HX0:=hid (Ext.refl w)
 go_wp2_with fail
 refine (zoa 1 w (by unfold z1v; omega)).mono ?_
 rintro e w1 ⟨v1,rfl,hp1,hx1⟩
 have HX1:=hid (HX0.out.trans hx1)
 have HJ1:=hid (RTs.old hp1 New.lt)
 obtain ⟨a1,c1,rfl⟩:=hp1.form
 clear hx1 hp1
 go_wp2_with fail
 refine (zoa 2 w1 (by unfold z1v; omega)).mono ?_
 rintro e w2 ⟨v2,rfl,hp2,hx2⟩
 have HX2:=hid (HX1.out.trans hx2)
 have HJ2:=hid (RTs.on HJ1.out hx2)
 have HY2:=hid (RTs.old hp2 New.lt)
 obtain ⟨a2,c2,rfl⟩:=hp2.form
 clear hx2 hp2
 go_wp2_with fail
 refine (zg8 (S:=Old w2) _ _ k9X k9X w2 (fun _ h => h) HJ2.out HJ2.out (z37 (by kernel_rfl)) (z37 (by kernel_rfl)) (z5p (by kernel_rfl)) (z5p (by kernel_rfl)) (zjo (by kernel_rfl) (by kernel_rfl))).mono ?_
 rw [zyp]
 rintro e w3 ⟨v3,rfl,hp3,hx3⟩
 have HX3:=hid (HX2.out.trans hx3)
 have HJ3:=hid (RTs.on HJ2.out hx3)
 have HY3:=hid (RTs.on HY2.out hx3)
 have HU3:=hid (RTs.old hp3 (z2s (fun _ h => h) hx3))
 obtain ⟨a3,c3,rfl⟩:=hp3.form
 clear hx3 hp3
 go_wp2_with fail
 refine (zbo 2 w3 (by omega)).mono ?_
 rw [zyo]
 rintro e w4 ⟨v4,rfl,hp4,hx4⟩
 have HX4:=hid (HX3.out.trans hx4)
 have HJ4:=hid (RTs.on HJ3.out hx4)
 have HY4:=hid (RTs.on HY3.out hx4)
 have HU4:=hid (RTs.on HU3.out hx4)
 have HS4:=hid (RTs.old hp4 New.lt)
 obtain ⟨a4,c4,rfl⟩:=hp4.form
 clear hx4 hp4
 go_wp2_with fail
 refine (zg9 (S:=Old w4) _ _ z9b k162 w4 (fun _ h => h) HU4.out HS4.out (z37 (by kernel_rfl)) (z37 (by kernel_rfl)) (z5p (by kernel_rfl)) (fun k hk => zjn (q:=negP k162) (by kernel_rfl) (by kernel_rfl) k (by rw [z3u]; exact hk))).mono ?_
 rw [zzg]
 rintro e w5 ⟨v5,rfl,hp5,hx5⟩
 have HX5:=hid (HX4.out.trans hx5)
 have HJ5:=hid (RTs.on HJ4.out hx5)
 have HY5:=hid (RTs.on HY4.out hx5)
 have HA5:=hid (RTs.old hp5 (z2s (fun _ h => h) hx5))
 obtain ⟨a5,c5,rfl⟩:=hp5.form
 clear hx5 hp5
 go_wp2_with fail
 refine (z7n (S:=Old w5) _ k16A w5 HA5.out (fun _ h => h) (z5p (by kernel_rfl)) (zj6 (z37 (by kernel_rfl)))).mono ?_
 rintro e w6 ⟨v6,rfl,hp6,hx6⟩
 have HX6:=hid (HX5.out.trans hx6)
 have HJ6:=hid (RTs.on HJ5.out hx6)
 have HY6:=hid (RTs.on HY5.out hx6)
 have HPA6:=hid (z06.old hp6 New.lt)
 obtain ⟨a6,c6,rfl⟩:=hp6.form
 clear hx6 hp6
 go_wp2_with fail
 refine (zg9 (S:=Old w6) _ _ k9Y k9X w6 (fun _ h => h) HY6.out HJ6.out (z37 (by kernel_rfl)) (z37 (by kernel_rfl)) (z5p (by kernel_rfl)) (fun k hk => zjn (q:=negP k9X) (by kernel_rfl) (by kernel_rfl) k (by rw [z3u]; exact hk))).mono ?_
 rw [zzh]
 rintro e w7 ⟨v7,rfl,hp7,hx7⟩
 have HX7:=hid (HX6.out.trans hx7)
 have HJ7:=hid (RTs.on HJ6.out hx7)
 have HY7:=hid (RTs.on HY6.out hx7)
 have HPA7:=hid (z06.on HPA6.out hx7)
 have HB7:=hid (RTs.old hp7 (z2s (fun _ h => h) hx7))
 obtain ⟨a7,c7,rfl⟩:=hp7.form
 clear hx7 hp7
 go_wp2_with fail
 refine (z7n (S:=Old w7) _ k16B w7 HB7.out (fun _ h => h) (z5p (by kernel_rfl)) (zj6 (z37 (by kernel_rfl)))).mono ?_
 rintro e w8 ⟨v8,rfl,hp8,hx8⟩
 have HX8:=hid (HX7.out.trans hx8)
 have HY8:=hid (RTs.on HY7.out hx8)
 have HPA8:=hid (z06.on HPA7.out hx8)
 have HPB8:=hid (z06.old hp8 New.lt)
 obtain ⟨a8,c8,rfl⟩:=hp8.form
 clear hx8 hp8
 obtain ⟨nA,hnA⟩:∃ n,n = (ofP k16A).length:=⟨_,rfl⟩
 obtain ⟨nB,hnB⟩:∃ n,n = (ofP k16B).length:=⟨_,rfl⟩
 rw [← hnA] at HPA8
 rw [← hnB] at HPB8
 rw [← hnA,← hnB]
 have HL0:Hid (z1r (Old (w8.alloc (.cells #[.slice a6 nA c6,.slice a8 nB c8] 23))) (w8.alloc (.cells #[.slice a6 nA c6,.slice a8 nB c8] 23)) (.slice (some ⟨w8.heap.size,0,none⟩) 2 2) (k16L.map ofP)):=hid (zh9 (by show _ < _; rw [z02]; exact Nat.lt_succ_self _) (z04 _ _ _ rfl rfl) (z04 _ _ _ rfl rfl) (z06.on HPA8.out ((Ext.refl _).alloc _)) (z06.on HPB8.out ((Ext.refl _).alloc _)))
 have HLC:Hid ((w8.alloc (.cells #[.slice a6 nA c6,.slice a8 nB c8] 23)).cell? ⟨w8.heap.size,0,none⟩ = some (.slice a6 nA c6) ∧ (w8.alloc (.cells #[.slice a6 nA c6,.slice a8 nB c8] 23)).cell? ⟨w8.heap.size,1,none⟩ = some (.slice a8 nB c8)):=hid ⟨z04 _ _ _ rfl rfl,z04 _ _ _ rfl rfl⟩
 have HXA:=hid (Ext.alloc (Ext.refl w8) (.cells #[.slice a6 nA c6,.slice a8 nB c8] 23))
 obtain ⟨w9,hw9⟩:∃ Y,Y = w8.alloc (.cells #[.slice a6 nA c6,.slice a8 nB c8] 23):=⟨_,rfl⟩
 rw [← hw9] at HL0 HXA HLC
 obtain ⟨bL,hbL⟩:∃ b,b = w8.heap.size:=⟨_,rfl⟩
 rw [← hbL] at HL0 HLC
 have HX9:=hid (HX8.out.trans HXA.out)
 have HPA9:=hid (z06.on HPA8.out HXA.out)
 have HPB9:=hid (z06.on HPB8.out HXA.out)
 have HY9:=hid (RTs.on HY8.out HXA.out)
 have HL9:=HL0
 have HWA:=hid hw9
 have HBL:=hid hbL
 clear hnA hnB hw9 hbL
 go_wp2_with fail
 rw [← HWA.out,← HBL.out]
 refine (zg8 (S:=Old w9) _ _ k9Y k9Y w9 (fun _ h => h) HY9.out HY9.out (z37 (by kernel_rfl)) (z37 (by kernel_rfl)) (z5p (by kernel_rfl)) (z5p (by kernel_rfl)) (zjo (by kernel_rfl) (by kernel_rfl))).mono ?_
 rw [zzf]
 rintro e w10 ⟨v10,rfl,hp10,hx10⟩
 have HX10:=hid (HX9.out.trans hx10)
 have HE1:=hid hx10
 have HPA10:=hid (z06.on HPA9.out hx10)
 have HPB10:=hid (z06.on HPB9.out hx10)
 have HL10:=hid (z1r.on HL9.out hx10)
 have HF10:=hid (RTs.old hp10 (z2s (fun _ h => h) hx10))
 obtain ⟨a10,c10,rfl⟩:=hp10.form
 clear hx10 hp10
 go_wp2_with fail
 refine (z7n (S:=Old w10) _ k16F w10 HF10.out (fun _ h => h) (z5p (by kernel_rfl)) (zj6 (z37 (by kernel_rfl)))).mono ?_
 rintro e w11 ⟨v11,rfl,hp11,hx11⟩
 have HX11:=hid (HX10.out.trans hx11)
 have HE2:=hid hx11
 have HPA11:=hid (z06.on HPA10.out hx11)
 have HPB11:=hid (z06.on HPB10.out hx11)
 have HL11:=hid (z1r.on HL10.out hx11)
 have HPF11:=hid (z06.old hp11 New.lt)
 obtain ⟨a11,c11,rfl⟩:=hp11.form
 clear hx11 hp11
 go_wp2_with fail
 refine (zeu HPF11.out HL11.out).mono ?_
 rintro e w12 ⟨vp,vc,vr,rfl,hr,hp,hc,hx12⟩
 have HX12:=hid (HX11.out.trans hx12)
 have HE3:=hid hx12
 have HPA12:=hid (z06.on HPA11.out hx12)
 have HPB12:=hid (z06.on HPB11.out hx12)
 have HL12:=hid (z1r.on HL11.out hx12)
 have HPF12:=hid (z06.on HPF11.out hx12)
 have HVR12:=hid (show z06 (Old w12) w12 vr (ofP k162) from hr)
 have HVP12:=hid hp
 have HVC12:=hid (show z1r (Old w12) w12 vc ([k121,k16Q].map ofP) from hc)
 have hxL:=Ext.trans (Ext.refl _) hx12
 obtain ⟨ap,cp,hvp⟩:=hp.form
 have hvp2:vp = .slice ap 2 cp:=hvp
 clear hvp
 subst hvp2
 obtain ⟨ac,cc,hvc⟩:=hc.form
 have hvc2:vc = .slice ac 2 cc:=hvc
 clear hvc
 subst hvc2
 obtain ⟨ar,cr,rfl⟩:=hr.form
 obtain ⟨bp,op,rfl,-,hcp1,hcp2,-,-,hp0⟩:=HVP12.out.cellAt (k:=0) rfl
 obtain ⟨bp',op',hbp,-,-,-,-,-,hp1⟩:=HVP12.out.cellAt (k:=1) rfl
 obtain ⟨rfl,rfl⟩:bp = bp' ∧ op = op':=by simpa using hbp
 rw [Nat.add_zero] at hp0
 have HP01:=hid (And.intro hp0 hp1)
 obtain ⟨nr,hnr⟩:∃ n,n = (ofP k162).length:=⟨_,rfl⟩
 rw [← hnr] at HVR12
 rw [← hnr]
 have HNR:=hid hnr
 clear hx12 hr hp hc hbp hp0 hp1 hnr hxL
 have HLC12:Hid (w12.cell? ⟨bL,0,none⟩ = some (.slice a6 nA c6) ∧ w12.cell? ⟨bL,1,none⟩ = some (.slice a8 nB c8)):=hid (by
  have h:=Ext.trans (Ext.trans HE1.out HE2.out) HE3.out
  exact ⟨h.cell HLC.out.1,h.cell HLC.out.2⟩)
 have h0:(w12.alloc (.cells #[.slice (some ⟨bp,op,none⟩) 2 cp,.slice ac 2 cc,.slice ar nr cr] 60)).cell? ⟨w12.heap.size,0,none⟩ = some (.slice (some ⟨bp,op,none⟩) 2 cp):=z04 _ _ _ rfl rfl
 have h1:(w12.alloc (.cells #[.slice (some ⟨bp,op,none⟩) 2 cp,.slice ac 2 cc,.slice ar nr cr] 60)).cell? ⟨w12.heap.size,1,none⟩ = some (.slice ac 2 cc):=z04 _ _ _ rfl rfl
 have h2:(w12.alloc (.cells #[.slice (some ⟨bp,op,none⟩) 2 cp,.slice ac 2 cc,.slice ar nr cr] 60)).cell? ⟨w12.heap.size,2,none⟩ = some (.slice ar nr cr):=z04 _ _ _ rfl rfl
 have HXD:=hid (Ext.alloc (Ext.refl w12) (.cells #[.slice (some ⟨bp,op,none⟩) 2 cp,.slice ac 2 cc,.slice ar nr cr] 60))
 obtain ⟨wd,hwd⟩:∃ Y,Y = w12.alloc (.cells #[.slice (some ⟨bp,op,none⟩) 2 cp,.slice ac 2 cc,.slice ar nr cr] 60):=⟨_,rfl⟩
 rw [← hwd] at h0 h1 h2 HXD
 obtain ⟨bd,hbd⟩:∃ b,b = w12.heap.size:=⟨_,rfl⟩
 rw [← hbd] at h0 h1 h2
 have HFS:Hid (∀ Y:World,Ext wd Y → Y.cell? ⟨bd,0,none⟩ = some (.slice (some ⟨bp,op,none⟩) 2 cp) ∧ Y.cell? ⟨bd,1,none⟩ = some (.slice ac 2 cc) ∧ Y.cell? ⟨bd,2,none⟩ = some (.slice ar nr cr) ∧ Y.cell? ⟨bp,op,none⟩ = some (.int .i64 1) ∧ Y.cell? ⟨bp,op + 1,none⟩ = some (.int .i64 2) ∧ Y.cell? ⟨bL,0,none⟩ = some (.slice a6 nA c6) ∧ Y.cell? ⟨bL,1,none⟩ = some (.slice a8 nB c8)):=hid (fun Y hY =>
  ⟨hY.cell h0,hY.cell h1,hY.cell h2,(HXD.out.trans hY).cell HP01.out.1,(HXD.out.trans hY).cell HP01.out.2,(HXD.out.trans hY).cell HLC12.out.1,(HXD.out.trans hY).cell HLC12.out.2⟩)
 have HXW:=hid (HX12.out.trans HXD.out)
 have CS:Hid (∀ Y:World,Calls Tryz.prog 14 #[.int .i64 2] Y fun e w' => ∃ v',e = .returned v' ∧ RTs (New Y w') w' v' k162 ∧ Ext Y w'):=hid (fun Y => by have h:=zbo 2 Y (by omega); rw [zyo] at h; exact h)
 have CP:=hid (fun (Y Y':World) (v:Value) (hv:RTs (Old Y) Y v k162) (hY:Ext Y Y') => z7n (S:=Old Y') v k162 Y' (RTs.on hv hY) (fun _ h => h) (z5p (by kernel_rfl)) (zj6 (z37 (by kernel_rfl))))
 have CE:Hid (∀ (Y Y':World) (v:Value),Ext w12 Y → z06 (Old Y) Y v (ofP k162) → Ext Y Y' → Calls Tryz.prog 17 #[.slice ar nr cr,v] Y' fun e w' => e = .returned (.bool true) ∧ Ext Y' w'):=hid (fun Y Y' v hW hv hY => (zlr _ v (ofP k162) (ofP k162) Y' (z06.on HVR12.out (hW.trans hY)) (z06.on hv hY) (fun _ h => h)).mono (by rintro e w' ⟨rfl,hx⟩; exact ⟨by simp,hx⟩))
 have CI:=hid (fun (Y:World) (hY:Ext w12 Y) => zh8 (z06.on HPF12.out hY) (z1r.on HL12.out hY) (HVP12.out.to (Kept.ext hY (fun _ h => h)) (zbe hY)) (z1r.on HVC12.out hY) (z06.on HVR12.out hY))
 have CM:=hid (fun (Y:World) (hY:Ext w12 Y) => zu2 (z1r.on HL12.out hY))
 have CN:=hid (fun (Y:World) (b:Nat) (hY:Ext w12 Y) (g0:Y.cell? ⟨b,0,none⟩ = some (.slice a8 nB c8)) (g1:Y.cell? ⟨b,1,none⟩ = some (.slice a6 nA c6)) => zu3 (zh9 (z0s g0) g0 g1 (z06.on HPB12.out hY) (z06.on HPA12.out hY)))
 have x0:Ext wd wd.drew:=Below.drew (Ext.refl wd)
 have S0:=HFS.out _ x0
 have HWD:=hid hwd
 have HBD:=hid hbd
 clear hwd hbd h0 h1 h2
 go_wp2
 rw [← HWD.out,← HBD.out]
 go_region_held3 (fun Y => Y.cell? ⟨bd,0,none⟩ = some (.slice (some ⟨bp,op,none⟩) 2 cp) ∧ Y.cell? ⟨bd,1,none⟩ = some (.slice ac 2 cc) ∧ Y.cell? ⟨bd,2,none⟩ = some (.slice ar nr cr) ∧ Y.cell? ⟨bp,op,none⟩ = some (.int .i64 1) ∧ Y.cell? ⟨bp,op + 1,none⟩ = some (.int .i64 2) ∧ Y.cell? ⟨bL,0,none⟩ = some (.slice a6 nA c6) ∧ Y.cell? ⟨bL,1,none⟩ = some (.slice a8 nB c8)) (first | exact S0 | exact S1 | exact S2 | exact S3 | exact S4 | exact S5 | exact S6 | exact HFS.out _ ((Ext.refl wd).alloc _).drew | exact HFS.out _ (HZ.out.alloc _))
  (first
   | (go_at_call 14; with_reducible refine (CS.out _).mono ?_
      rintro e u1 ⟨v1,rfl,hv,hx⟩
      have HZ:Hid (Ext wd u1):=hid (Ext.trans (by first | exact x0 | exact ((Ext.refl wd).alloc _).drew) hx)
      have S1:=HFS.out _ HZ.out
      (try (have HN:Hid (u1.cell? ⟨wd.heap.size,0,none⟩ = some (.slice a8 nB c8) ∧ u1.cell? ⟨wd.heap.size,1,none⟩ = some (.slice a6 nA c6)):=hid ⟨hx.cell (z38 wd _ _ _).1,hx.cell (z38 wd _ _ _).2⟩))
      have HQ:=hid (RTs.old hv New.lt); have qf:∃ a c,v1 = Value.slice a 1 c:=hv.form; obtain ⟨aq,cq,rfl⟩:=qf; clear hx hv)
   | (go_at_call 15; with_reducible refine (CP.out _ _ _ HQ.out (by first | exact Ext.refl _ | exact (Ext.refl _).alloc _)).mono ?_
      rintro e u2 ⟨v2,rfl,hv,hx⟩
      have HZ:Hid (Ext wd u2):=hid ((HZ.out.trans (by first | exact Ext.refl _ | exact (Ext.refl _).alloc _)).trans hx)
      have S2:=HFS.out _ HZ.out
      (try (have HN:=hid (And.intro (hx.cell HN.out.1) (hx.cell HN.out.2))))
      (try (have HN:Hid (u2.cell? ⟨u1.heap.size,0,none⟩ = some (.slice a8 nB c8) ∧ u2.cell? ⟨u1.heap.size,1,none⟩ = some (.slice a6 nA c6)):=hid ⟨hx.cell (z38 u1 _ _ _).1,hx.cell (z38 u1 _ _ _).2⟩))
      have HQ:=hid (z06.old hv New.lt); obtain ⟨at2,ct2,rfl⟩:=hv.form; obtain ⟨nt2,hnt⟩:∃ n,n = (ofP k162).length:=⟨_,rfl⟩; rw [← hnt] at HQ; rw [← hnt]; clear hx hv hnt)
   | (go_at_call 17; with_reducible refine (CE.out _ _ _ (HXD.out.trans HZ.out) HQ.out (by first | exact Ext.refl _ | exact (Ext.refl _).alloc _)).mono ?_
      rintro e u3 ⟨rfl,hx⟩
      have HZ:Hid (Ext wd u3):=hid ((HZ.out.trans (by first | exact Ext.refl _ | exact (Ext.refl _).alloc _)).trans hx)
      have S3:=HFS.out _ HZ.out
      (try (have HN:=hid (And.intro (hx.cell HN.out.1) (hx.cell HN.out.2))))
      (try (have HN:Hid (u3.cell? ⟨u2.heap.size,0,none⟩ = some (.slice a8 nB c8) ∧ u3.cell? ⟨u2.heap.size,1,none⟩ = some (.slice a6 nA c6)):=hid ⟨hx.cell (z38 u2 _ _ _).1,hx.cell (z38 u2 _ _ _).2⟩))
      clear hx)
   | (go_at_call 18; with_reducible refine (CI.out _ ((HXD.out.trans HZ.out).trans (by first | exact Ext.refl _ | exact (Ext.refl _).alloc _))).mono ?_
      rintro e u4 ⟨rfl,hx⟩
      have HZ:Hid (Ext wd u4):=hid ((HZ.out.trans (by first | exact Ext.refl _ | exact (Ext.refl _).alloc _)).trans hx)
      have S4:=HFS.out _ HZ.out
      (try (have HN:=hid (And.intro (hx.cell HN.out.1) (hx.cell HN.out.2))))
      (try (have HN:Hid (u4.cell? ⟨u3.heap.size,0,none⟩ = some (.slice a8 nB c8) ∧ u4.cell? ⟨u3.heap.size,1,none⟩ = some (.slice a6 nA c6)):=hid ⟨hx.cell (z38 u3 _ _ _).1,hx.cell (z38 u3 _ _ _).2⟩))
      clear hx)
   | (go_at_call_of 19 (Value.slice (some ⟨bL,0,none⟩) 2 2); with_reducible refine (CM.out _ ((HXD.out.trans HZ.out).trans (by first | exact Ext.refl _ | exact (Ext.refl _).alloc _))).mono ?_
      rintro e u5 ⟨rfl,hx⟩
      have HZ:Hid (Ext wd u5):=hid ((HZ.out.trans (by first | exact Ext.refl _ | exact (Ext.refl _).alloc _)).trans hx)
      have S5:=HFS.out _ HZ.out
      (try (have HN:=hid (And.intro (hx.cell HN.out.1) (hx.cell HN.out.2))))
      (try (have HN:Hid (u5.cell? ⟨u4.heap.size,0,none⟩ = some (.slice a8 nB c8) ∧ u5.cell? ⟨u4.heap.size,1,none⟩ = some (.slice a6 nA c6)):=hid ⟨hx.cell (z38 u4 _ _ _).1,hx.cell (z38 u4 _ _ _).2⟩))
      clear hx)
   | (go_at_call 19
      first
       | with_reducible refine (CN.out _ _ (HXD.out.trans HZ.out) HN.out.1 HN.out.2).mono ?_
       | with_reducible refine (CN.out _ _ ((HXD.out.trans HZ.out).trans ((Ext.refl _).alloc _)) (z38 u5 _ _ _).1 (z38 u5 _ _ _).2).mono ?_
      rintro e u6 ⟨rfl,hx⟩
      have HZ:Hid (Ext wd u6):=hid ((HZ.out.trans (by first | exact Ext.refl _ | exact (Ext.refl _).alloc _)).trans hx)
      have S6:=HFS.out _ HZ.out
      clear hx))
 all_goals
  go_wp2
  go_ret
  exact ⟨rfl,HXW.out.trans HZ.out⟩
 end
section
open Go.RowKit Go.Deep
theorem z1r.src_all {S:Nat → Prop} {w:World} {A:Option Addr} {n cap:Nat} {l:List (List RTerm)} (h:z1r S w (.slice A n cap) l):∃ xs,zcr w A n 1 xs ∧ zv7 S w xs l:=by
 obtain ⟨b,off,⟨a',cap',h1,h2,h3,h4,h5⟩,hc⟩:=h
 obtain ⟨rfl,rfl,rfl⟩:A = a' ∧ n = l.length ∧ cap = cap':=by simpa using h1
 obtain ⟨xs,hl,hx⟩:=z4t (n:=l.length) (p:=fun j (vp:Value) => w.cell? ⟨b,off + j,none⟩ = some vp ∧ (∃ a n c,vp = .slice a n c) ∧ ∀ p,l[j]? = some p → z06 S w vp p) (fun j hj => by
  obtain ⟨p,hp⟩:=z01 hj
  obtain ⟨vp,k1,k2⟩:=hc j p hp
  obtain ⟨a,c,e⟩:=k2.form
  exact ⟨vp,k1,⟨a,_,c,e⟩,fun q hq => by rw [hp] at hq; cases hq; exact k2⟩)
 refine ⟨xs,⟨by rw [hl,Nat.mul_one],fun u hu => ?_,fun h0 => ⟨_,h4 h0,fun j u hj => ?_⟩⟩,hl,fun j p hj => ?_⟩
 ·obtain ⟨j,hj⟩:=List.getElem?_of_mem hu
  obtain ⟨-,⟨a,n,c,rfl⟩,-⟩:=hx j u hj
  rfl
 ·rw [z8c]
  exact (hx j u hj).1
 ·obtain ⟨vp,hv⟩:=z01 (l:=xs) (j:=j) (by rw [hl]; exact z05 hj)
  exact ⟨vp,hv,(hx j vp hv).2.2 p hj⟩
section
variable {P:Program}
theorem z8k (w:World) {ops:Array Oper} {rest:List Oper} {o:Oper} {a:Act} {Q:Exit → Act → World → Prop} (hw:Region.wanted o (yielded ops a.tmps) = true) (s x:Operand) (t:TypeId)
  (ho:o.op = .call { callee:=.builtin .append,args:=#[s,x],argTypes:=#[t,t] })
  (base:Nat) (e:TypeId) (i:TypeInfo) (z:Value) (size bytes:Nat) (ht:P.underlying t = some (.slice e)) (hi:P.info? e = some i) (hz:i.zero = some z)
  (hsize:i.size = size) (hby:i.bytes = bytes) (hzs:z.cells.size = size) (hsz:0 < size)
  (v:Value) (n:Nat) (xs:List Value) (hs:a.eval s = v) (hown:w.ownsRow base e size v n xs)
  (A:Option Addr) (m c:Nat) (news:List Value) (hx:a.eval x = .slice A m c) (hsrc:zcr w A m size news)
  (h63:n + m ≤ maxLen) (hbytes:(n + m) * bytes ≤ 140737488355328) (hbase:base ≤ w.heap.size)
  (h:∀ v' w',w'.ownsRow base e size v' (n + m) (xs ++ news) → w.grownBy w' v.ownBlock → (v'.ownBlock = v.ownBlock ∨ v'.ownBlock = some w.heap.size) → wpList P ops Q rest (a.put o.dst v') w'):wpList P ops Q (o :: rest) a w:=by
 obtain ⟨v',w',hrun,h2,h3,h4⟩:=z5k (P:=P) w base t o.type e i z size bytes ht hi hz hsize hby hzs hsz v n xs hown A m c news hsrc h63 hbytes hbase
 refine wpList_step fun K hK => ?_
 rw [if_pos hw]
 unfold Oper.wp execOp
 simp only [ho,resolve,invoke,builtin,Sem.run_bind,Sem.run_pure,Result.andThen_ok,List.map_toArray,List.map_cons,List.map_nil,hs,hx,hrun]
 exact hK _ _ (h v' w' h2 h3 h4)
end
theorem z9e {S:Nat → Prop} (W:World) {ops:Array Oper} {rest:List Oper} {o:Oper} {a:Act} {Q:Exit → Act → World → Prop} (hgd:Region.wanted o (yielded ops a.tmps) = true) (s x:Operand)
  (ho:o.op = .call { callee:=.builtin .append,args:=#[s,x],argTypes:=#[24,24] }) (vf:Value) (A:Option Addr) (m c:Nat) (f:List RTerm) (l:List (List RTerm))
  (hs:a.eval s = .slice (some ⟨W.heap.size,0,none⟩) 1 1) (hx:a.eval x = .slice A m c) (hf:z06 S W vf f) (hl:z1r S W (.slice A m c) l) (hS:∀ k,S k → k < W.heap.size) (hm:m ≤ 5864062014800)
  (h:∀ v' w',z1r (Plus S W w') w' v' (f :: l) → Ext W w' → wpList Tryz.prog ops Q rest (a.put o.dst v') w'):wpList Tryz.prog ops Q (o :: rest) a (W.alloc (.cells #[vf] 23)):=by
 obtain ⟨i,hi,hz0,hz1,hz2⟩:=info_parts Tryz.infoPoly
 have hxa:=Ext.alloc (Ext.refl W) (.cells #[vf] 23)
 obtain ⟨xs,hsrc,hc⟩:=(hl.to (Kept.ext hxa hS) (fun _ h => h)).src_all
 obtain ⟨af,cf,hvf⟩:=hf.form
 have hml:m = l.length:=by
  obtain ⟨a',c',e⟩:=hl.form
  simpa using congrArg (fun v => match v with | Value.slice _ n _ => n | _ => 0) e
 refine z8k _ hgd s x 24 ho W.heap.size 23 i (.slice none 0 0) 1 24 Tryz.underlying24 hi hz0 hz1 hz2 rfl (by decide) _ 1 [vf] hs (World.ownsRow_lit (size:=1) W #[vf] 1 (Nat.le_refl _) (by decide) rfl) A m c xs hx hsrc (by unfold maxLen; omega) (by omega) (by rw [z02]; omega) (fun v' w' k1 k2 _ => h v' w' ?_ ?_)
 ·have hg:Ext W w':=z2r hxa (World.ownsRow_lit (size:=1) W #[vf] 1 (Nat.le_refl _) (by decide) rfl) k2
  refine zq5 (l:=f :: l) (by rw [List.length_cons,← hml,Nat.add_comm]; exact k1) ⟨by rw [List.length_append,hc.1]; simp; omega,fun j p hj => ?_⟩ (fun k h1 h2 => .inr ⟨h1,h2⟩)
  cases j with
  | zero =>
   obtain rfl:f = p:=by simpa using hj
   exact ⟨vf,rfl,hf.to (Kept.ext hg hS) (fun _ h => .inl h)⟩
  | succ j =>
   obtain ⟨vp,g1,-⟩:=hc.2 j p (by simpa using hj)
   have hl2:=hl
   obtain ⟨vp2,g3,g4⟩:=hc.2 j p (by simpa using hj)
   refine ⟨vp,by simpa using g1,?_⟩
   rw [g3] at g1
   obtain rfl:vp2 = vp:=by simpa using g1
   have hgx:Kept S (W.alloc (.cells #[vf] 23)) w':=fun k hk => (hg.block k (hS k hk)).trans (hxa.block k (hS k hk)).symm
   exact g4.to hgx (fun _ h => .inl h)
 ·exact z2r hxa (World.ownsRow_lit (size:=1) W #[vf] 1 (Nat.le_refl _) (by decide) rfl) k2
end
section
open Go.RowKit
theorem zch {W:World} {vm vf vl:Value} {fs:List RTerm} {ls:List (List RTerm)} (hvm:∃ a,vm = .pointer a) (hf:z06 (Old W) W vf fs) (hl:z1r (Old W) W vl ls)
  (sf:z3r fs) (sl:z70 ls) (hno:(mayT fs && mayC 0 ls) = false) :
  Calls Tryz.prog 7 #[vm,vf,vl] W fun e W' => e = .returned (.tuple #[.slice none 0 0,.slice none 0 0,.int .i64 2]) ∧ Ext W W':=by
 have hnot:∀ (x:Bool) (w:World),(Op.unary .not (.bool x)).run Tryz.prog w = .ok (.bool (!x)) w:=fun _ _ => rfl
 have C1:=z4i (S:=Old W) vf fs W hf (fun _ h => h) sf
 have C2:=fun (Y:World) (hY:Ext W Y) => z76 (S:=Old W) vl ls Y (hl.ext hY (fun _ h => h)) (fun k h => Nat.lt_of_lt_of_le h hY.size) sl
 generalize mayT fs = b1 at C1 hno
 generalize mayC 0 ls = b2 at C2 hno
 obtain ⟨pa,rfl⟩:=hvm
 obtain ⟨af,cf,rfl⟩:=hf.form
 obtain ⟨al,cl,rfl⟩:=hl.form
 generalize fs.length = nf at *
 generalize ls.length = nl at *
 have HC1:=hid C1
 have HC2:=hid C2
 clear hf hl sf sl C1 C2
 cases b1 with
 | false =>
  clear hno
  go_enter Tryz.func7,Tryz.ntmps7
  go_wp2_with fail
  with_reducible refine HC1.out.mono ?_
  rintro e w1 ⟨rfl,hx⟩
  have HX1:=hid hx
  clear hx
  go_wp2
  all_goals
   refine bodyPost_ret (v:=.tuple #[.slice none 0 0,.slice none 0 0,.int .i64 2]) (by simp [results,Tryz.results7,go_sem]) rfl ?_
   exact ⟨rfl,HX1.out⟩
 | true =>
  obtain rfl:b2 = false:=by simpa using hno
  clear hno
  go_enter Tryz.func7,Tryz.ntmps7
  go_wp2_with fail
  with_reducible refine HC1.out.mono ?_
  rintro e w1 ⟨rfl,hx⟩
  have HX1:=hid hx
  clear hx
  go_wp2_with fail
  with_reducible refine (HC2.out _ HX1.out).mono ?_
  rintro e w2 ⟨rfl,hx⟩
  have HX2:=hid (HX1.out.trans hx)
  clear hx
  go_wp2
  all_goals
   refine bodyPost_ret (v:=.tuple #[.slice none 0 0,.slice none 0 0,.int .i64 2]) (by simp [results,Tryz.results7,go_sem]) rfl ?_
   exact ⟨rfl,HX2.out⟩
end
section
open Go.RowKit
def zdm (t:RTerm):Bool:=decide (3 < t.c.mag.length) || t.m.any fun x => decide (4 < x.2)
def zaj (ts:List RTerm):Bool:=z6m 6 ts || ts.any zdm
def z4d (ls:List (List RTerm)):Bool:=ls.any zaj || decide (5 < ls.length)
theorem zih {W:World} {S:Nat → Prop} (v:Value) (ls:List (List RTerm)) (h:z1r S W v ls) (hS:∀ k,S k → k < W.heap.size) :
  Calls Tryz.prog 4 #[v] W fun e w' => e = .returned (.bool (z4d ls)) ∧ Ext W w':=by
 have H:=hid h
 have hll:=h.len_le
 obtain ⟨a,cap,rfl⟩:=h.form
 obtain ⟨n,hnn⟩:∃ n,n = ls.length:=⟨_,rfl⟩
 rw [← hnn] at H hll ⊢
 have HN:=hid hnn
 clear h hnn
 go_enter Tryz.func4,Tryz.ntmps4
 go_wp2
 go_loopw [9] (fun i wr => ∃ k:Nat,k ≤ n ∧ i = .int .i64 k ∧ Ext W wr ∧ Hid ((ls.take k).any zaj = false)) (fun i _ => n - (intOf i).toNat)
 case atStart => exact ⟨0,Nat.zero_le _,rfl,Ext.refl _,hid rfl⟩
 case round =>
  obtain ⟨k,hk,rfl,hx,HA⟩:=hrel
  have HX:=hid hx
  by_cases hlt:k < n
  ·obtain ⟨p,hp⟩:=z01 (l:=ls) (j:=k) (by rw [← HN.out]; exact hlt)
   obtain ⟨bl,off,vp,rfl,-,hn1,hm1,hSb,h1,h2⟩:=(H.out.ext hx hS).cellAt hp
   have HTP:Hid (ls.take (k + 1) = ls.take k ++ [p]):=hid (by rw [List.take_add_one,hp]; rfl)
   have HQP:=hid (List.mem_of_getElem? hp)
   have HSX:=hid (z08 hS hx)
   have hlp:=h2.len_le
   have C:=zib (S:=S) vp p 6 wr h2 HSX.out (by omega)
   have HV:=hid h2
   obtain ⟨ap,cp,rfl⟩:=h2.form
   obtain ⟨np,hnp⟩:∃ n,n = p.length:=⟨_,rfl⟩
   rw [← hnp] at HV C h1 hlp
   have HNP:=hid hnp
   clear h2 hp hx hnp
   cases hg:z6m 6 p with
   | true =>
    rw [hg] at C
    have HFT:Hid (z4d ls = true):=hid (by unfold z4d; rw [List.any_eq_true.2 ⟨p,HQP.out,by unfold zaj; rw [hg]; rfl⟩]; rfl)
    have HC:=hid C
    clear C hg
    go_wp2_with fail
    with_reducible refine HC.out.mono ?_
    rintro e w1 ⟨rfl,hx1⟩
    have HX1:=hid (HX.out.trans hx1)
    clear hx1
    go_wp2
    all_goals
     go_ret
     exact ⟨by rw [HFT.out]; rfl,HX1.out⟩
   | false =>
    rw [hg] at C
    have HG:Hid (z6m 6 p = false):=hid hg
    have HC:=hid C
    clear C hg
    go_wp2_with fail
    with_reducible refine HC.out.mono ?_
    rintro e w1 ⟨rfl,hx1⟩
    have HX1:=hid (HX.out.trans hx1)
    have HX1':=hid hx1
    clear hx1
    go_wp2
    go_loopw [17] (fun i wy => ∃ k:Nat,k ≤ np ∧ i = .int .i64 k ∧ Ext w1 wy ∧ Hid ((p.take k).any zdm = false)) (fun i _ => np - (intOf i).toNat)
    case atStart => exact ⟨0,Nat.zero_le _,rfl,Ext.refl _,hid rfl⟩
    case round =>
     obtain ⟨j,hj,rfl,hx,HM⟩:=hrel
     have HXY:=hid (HX1.out.trans hx)
     have HXR:=hid hx
     by_cases hltj:j < np
     ·obtain ⟨t,ht⟩:=z01 (l:=p) (j:=j) (by rw [← HNP.out]; exact hltj)
      obtain ⟨b,offt,vm,vo,rfl,-,hq1,hmm1,hSbt,h1',h2,h3,h4,h5⟩:=(HV.out.to (S':=Old wr) (Kept.ext (HX1'.out.trans hx) HSX.out) (fun k hk => Nat.lt_of_lt_of_le (HSX.out k hk) (HX1'.out.trans hx).size)).cellAt ht
      have HT:Hid (p.take (j + 1) = p.take j ++ [t]):=hid (by rw [List.take_add_one,ht]; rfl)
      have HQ:=hid (List.mem_of_getElem? ht)
      have hl1:=h4.len_le
      have hl2:=h5.len_le
      have H5:=hid h5
      obtain ⟨am,cm,rfl⟩:=h4.form
      obtain ⟨ao,co,rfl⟩:=h5.form
      obtain ⟨x1,hx1⟩:∃ n,n = t.c.mag.length:=⟨_,rfl⟩
      obtain ⟨y1,hy1⟩:∃ n,n = t.m.length:=⟨_,rfl⟩
      have HX1'':=hid hx1
      have HY1:=hid hy1
      rw [← hx1] at h2 hl1
      rw [← hy1] at h3 hl2 H5
      have HC3:=hid h3
      clear hx ht h1' h4 h5 hx1 hy1
      by_cases hbig:3 < x1
      ·have HFT:Hid (z4d ls = true):=hid (by unfold z4d; rw [List.any_eq_true.2 ⟨p,HQP.out,by unfold zaj; rw [List.any_eq_true.2 ⟨t,HQ.out,by unfold zdm; rw [← HX1''.out,decide_eq_true hbig]; rfl⟩,Bool.or_true]⟩]; rfl)
       go_wp2
       all_goals
        go_ret
        exact ⟨by rw [HFT.out]; rfl,HXY.out⟩
      ·have HNB:Hid (decide (3 < t.c.mag.length) = false):=hid (by rw [← HX1''.out]; exact decide_eq_false hbig)
       have hle:(x1:Int) ≤ 3:=by omega
       clear hbig
       go_wp2
       go_loopw [34] (fun j wx => ∃ m:Nat,m ≤ y1 ∧ j = .int .i64 m ∧ Ext wr wx ∧ Hid ((t.m.take m).any (fun x => decide (4 < x.2)) = false)) (fun j _ => y1 - (intOf j).toNat)
       case atStart => exact ⟨0,Nat.zero_le _,rfl,Ext.refl _,hid rfl⟩
       case round =>
        obtain ⟨m,hm,rfl,hx2,HM2⟩:=hrel
        have HX2:=hid (HXY.out.trans hx2)
        have HX2':=hid hx2
        have g3:=hx2.cell HC3.out
        by_cases hlt2:m < y1
        ·obtain ⟨z,hz⟩:=z01 (l:=t.m) (j:=m) (by rw [← HY1.out]; exact hlt2)
         obtain ⟨bo,oo,rfl,-,hn2,hm2,-,⟨hz0,hz1⟩,k1,k2⟩:=(Pows.on H5.out hx2).cellAt hz
         have HZ:Hid (t.m.take (m + 1) = t.m.take m ++ [z]):=hid (by rw [List.take_add_one,hz]; rfl)
         have HZQ:=hid (List.mem_of_getElem? hz)
         obtain ⟨z2,hz2⟩:∃ n,n = z.2:=⟨_,rfl⟩
         have HZ2:=hid hz2
         rw [← hz2] at k2 hz1
         obtain ⟨hz3,hz4⟩:=hz1
         clear hz hx2 k1 hz0 hz2
         by_cases hb2:4 < z2
         ·have HFT:Hid (z4d ls = true):=hid (by
           unfold z4d
           rw [List.any_eq_true.2 ⟨p,HQP.out,?_⟩]
           ·rfl
           unfold zaj
           rw [List.any_eq_true.2 ⟨t,HQ.out,?_⟩,Bool.or_true]
           unfold zdm
           rw [List.any_eq_true.2 ⟨z,HZQ.out,by rw [← HZ2.out]; exact decide_eq_true hb2⟩,Bool.or_true])
          go_wp2
          all_goals
           go_ret
           exact ⟨by rw [HFT.out]; rfl,HX2.out⟩
         ·have hle2:z2 ≤ 4:=by omega
          have HND:Hid (decide (4 < z.2) = false):=hid (by rw [← HZ2.out]; exact decide_eq_false hb2)
          clear hb2
          go_wp2
          go_roundw
          case rel => exact ⟨m + 1,by omega,by go_num,HX2'.out,hid (by rw [HZ.out,List.any_append,HM2.out]; simp only [List.any_cons,List.any_nil,HND.out]; rfl)⟩
          case measure => simp only [intOf]; omega
        ·obtain rfl:m = y1:=by omega
         have HNE:Hid (t.m.any (fun x => decide (4 < x.2)) = false):=hid (by have:=HM2.out; rw [HY1.out,List.take_length] at this; exact this)
         clear hx2
         go_wp2
         go_roundw
         case rel => exact ⟨j + 1,by omega,by go_num,HXR.out.trans HX2'.out,hid (by rw [HT.out,List.any_append,HM.out]; simp only [List.any_cons,List.any_nil,zdm,HNB.out,HNE.out]; rfl)⟩
         case measure => simp only [intOf]; omega
     ·obtain rfl:j = np:=by omega
      have HPE:Hid (zaj p = false):=hid (by unfold zaj; have:=HM.out; rw [HNP.out,List.take_length] at this; rw [this,HG.out]; rfl)
      clear hx
      go_wp2
      go_roundw
      case rel => exact ⟨k + 1,by omega,by go_num,HXY.out,hid (by rw [HTP.out,List.any_append,HA.out]; simp only [List.any_cons,List.any_nil,HPE.out]; rfl)⟩
      case measure => simp only [intOf]; omega
  ·obtain rfl:k = n:=by omega
   have HFE:Hid (z4d ls = decide ((k:Int) > 5)):=hid (by unfold z4d; have:=HA.out; rw [HN.out,List.take_length] at this; rw [this,← HN.out,Bool.false_or]; exact decide_eq_decide.2 (by omega))
   clear hx
   go_wp2
   all_goals
    go_ret
    exact ⟨by rw [HFE.out]; rfl,HX.out⟩
end
section
open Go.RowKit
theorem zyy {ts:List RTerm} (h:zaj ts = false):ts.length ≤ 6 ∧ ∀ t ∈ ts,t.c.mag.length ≤ 3 ∧ ∀ y ∈ t.m,y.2 ≤ 4:=by
 unfold zaj at h
 rw [Bool.or_eq_false_iff] at h
 obtain ⟨h1,h2⟩:=h
 have h3:=zox (n:=6) h1
 refine ⟨h3.1,fun t ht => ?_⟩
 have h4:=(List.any_eq_false.1 h2) t ht
 unfold zdm at h4
 rw [Bool.not_eq_true,Bool.or_eq_false_iff] at h4
 refine ⟨by have:=h4.1; rw [decide_eq_false_iff_not] at this; omega,fun y hy => ?_⟩
 have:=(List.any_eq_false.1 h4.2) y hy
 rw [decide_eq_true_eq] at this
 omega
theorem zqb {ts:List RTerm} (h:zaj ts = false):z3r ts:=fun t ht => Nat.le_trans ((zyy h).2 t ht).1 (by decide)
theorem zqc {ts:List RTerm} (hok:okT ts) (h:zaj ts = false):Fit 3 6 (z0q ts) ∧ exB 4 (z0q ts):=by
 have h1:=zyy h
 refine ⟨zpc hok (fun t ht => (h1.2 t ht).1) h1.1,fun t ht u => ?_⟩
 unfold z0q at ht
 split at ht
 ·obtain ⟨y,hy,rfl⟩:=List.mem_map.1 ht
  exact zyw (by decide) (h1.2 y hy).2 u
 ·simp at ht
theorem zm2 {ls:List (List RTerm)} (h:z4d ls = false):(∀ p ∈ ls,zaj p = false) ∧ ls.length ≤ 5:=by
 unfold z4d at h
 rw [Bool.or_eq_false_iff] at h
 refine ⟨fun p hp => by have:=(List.any_eq_false.1 h.1) p hp; rwa [Bool.not_eq_true] at this,?_⟩
 have:=h.2
 rw [decide_eq_false_iff_not] at this
 omega
end
section
open Go.RowKit
end
section
open Go.RowKit
def mayZ (c:Int):List PZ → Bool
 | [] => true
 | p :: l => if c < z0t p then mayZ (z0t p) l else false
theorem zyz {l:List PZ} (h:∀ p ∈ l,canP p):∀ c,mayC c (l.map ofP) = mayZ c l:=by
 induction l with
 | nil => intro c; rfl
 | cons p l ih =>
  intro c
  have hp:=h p (List.mem_cons_self ..)
  show (if mayT (ofP p) && decide (c < z0t (z0q (ofP p))) then mayC (z0t (z0q (ofP p))) (l.map ofP) else false) = _
  rw [z7d hp,z7p hp,ih (fun q hq => h q (List.mem_cons_of_mem _ hq)),mayZ,Bool.true_and]
  by_cases g:c < z0t p
  ·rw [decide_eq_true g,if_pos rfl,if_pos g]
  ·rw [decide_eq_false g,if_neg (by decide),if_neg g]
end
section
open Go.RowKit
end
section
open Go.RowKit
end
section
open Go.RowKit
theorem zqd {l:List (List RTerm)} (h:∀ p ∈ l,p = ofP (z0q p)):(l.map z0q).map ofP = l:=by
 induction l with
 | nil => rfl
 | cons p r ih => rw [List.map_cons,List.map_cons,← h p (by simp),ih (fun q hq => h q (by simp [hq]))]
end
section
open Go.RowKit Go.Deep
theorem zu4 {l:List (List RTerm)}:∀ {c:Int},mayC c l = true → l.all mayT = true:=by
 induction l with
 | nil => intro c _; rfl
 | cons p r ih =>
  intro c h
  rw [mayC] at h
  split at h
  ·rename_i h1
   rw [Bool.and_eq_true] at h1
   rw [List.all_cons,h1.1,ih h]
   rfl
  ·cases h
theorem zu5 {w:World} {v:Value} {ls:List (List RTerm)} (h:z1r (Old w) w v ls) (hm:ls.all mayT = true):∀ p ∈ ls,okT p ∧ p = ofP (z0q p):=fun p hp => by
 obtain ⟨j,hj⟩:=List.getElem?_of_mem hp
 obtain ⟨b,off,-,hc⟩:=h
 obtain ⟨vp,-,ht⟩:=hc j p hj
 exact ⟨ht.okT,zyi ht (List.all_eq_true.1 hm p hp)⟩
theorem zau:z46 12 1000 1000 0:=⟨⟨by decide,by decide⟩,⟨by decide,by decide⟩,⟨by decide,by decide⟩,by decide,by decide⟩
structure Plain16 (f:List RTerm) (l:List (List RTerm)) (F:PZ) (L:List PZ):Prop where
 ef:f = ofP F
 el:L.map ofP = l
 cf:canP F
 cl:∀ p ∈ L,canP p
 hz:mayZ 0 L = true
 hc:mayC 0 (L.map ofP) = true
 okf:okT f
 okl:∀ t ∈ l,okT t
 pf:F = z0q f
 pl:L = l.map z0q
theorem zha {w:World} {vf vl:Value} {f:List RTerm} {l:List (List RTerm)} (hf:z06 (Old w) w vf f) (hl:z1r (Old w) w vl l) (h:(mayT f && mayC 0 l) = true):Plain16 f l (z0q f) (l.map z0q):=by
 rw [Bool.and_eq_true] at h
 have h1:=zu5 hl (zu4 h.2)
 have h2:(l.map z0q).map ofP = l:=zqd (fun p hp => (h1 p hp).2)
 have h3:∀ p ∈ l.map z0q,canP p:=fun p hp => by
  obtain ⟨t,-,rfl⟩:=List.mem_map.1 hp
  exact z3e t
 have h4:=zyz h3 0
 exact ⟨zyi hf h.1,h2,z3e f,h3,by rw [← h4,h2]; exact h.2,by rw [h2]; exact h.2,hf.okT,fun t ht => (h1 t ht).1,rfl,rfl⟩
end
section
def evQ (g:Mono → Rat):PZ → Rat
 | [] => 0
 | t :: r => (t.1:Rat) * g t.2 + evQ g r
theorem z9v (g:Mono → Rat) (p q:PZ):evQ g (p ++ q) = evQ g p + evQ g q:=by
 induction p with
 | nil => simp [evQ,Rat.zero_add]
 | cons t r ih => simp only [List.cons_append,evQ,ih,Rat.add_assoc]
theorem zii (q:Rat):((q.den:Int):Rat) * q = (q.num:Rat):=by
 have hd:((q.den:Int):Rat) ≠ 0:=fun e => q.den_nz (Int.natCast_eq_zero.1 (Rat.intCast_eq_zero_iff.1 e))
 have h4:q = (q.num:Rat) / ((q.den:Int):Rat):=by rw [← Rat.divInt_eq_div,Rat.num_divInt_den]
 have h5:((q.den:Int):Rat) * ((q.num:Rat) / ((q.den:Int):Rat)) = (q.num:Rat):=by
  rw [Rat.div_def,← Rat.mul_assoc,Rat.mul_comm _ (q.num:Rat),Rat.mul_assoc,Rat.mul_inv_cancel _ hd,Rat.mul_one]
 rw [← h4] at h5
 exact h5
theorem zm3 (g:Mono → Rat) (L:List Mono):∃ D:Int,D ≠ 0 ∧ ∀ m ∈ L,∃ z:Int,(z:Rat) = (D:Rat) * g m:=by
 induction L with
 | nil => exact ⟨1,by decide,fun m hm => by cases hm⟩
 | cons a r ih =>
  obtain ⟨D,hD,h⟩:=ih
  refine ⟨D * ((g a).den:Int),Int.mul_ne_zero hD (Int.natCast_ne_zero.2 (g a).den_nz),fun m hm => ?_⟩
  rcases List.mem_cons.1 hm with rfl | hm
  ·refine ⟨D * (g m).num,?_⟩
   rw [Rat.intCast_mul,Rat.intCast_mul,Rat.mul_assoc,zii]
  ·obtain ⟨z,hz⟩:=h m hm
   refine ⟨z * ((g a).den:Int),?_⟩
   rw [Rat.intCast_mul,Rat.intCast_mul,hz,Rat.mul_assoc,Rat.mul_assoc,Rat.mul_comm (g m)]
theorem zhb (g:Mono → Rat) (f:Mono → Int) (D:Int) (p:PZ) (h:∀ t ∈ p,(f t.2:Rat) = (D:Rat) * g t.2):((ev f p:Int):Rat) = (D:Rat) * evQ g p:=by
 induction p with
 | nil => simp [ev,evQ,Rat.mul_zero]
 | cons t r ih =>
  simp only [ev,evQ]
  rw [Rat.intCast_add,Rat.intCast_mul,h t (List.mem_cons_self ..),ih (fun u hu => h u (List.mem_cons_of_mem _ hu)),Rat.mul_add,← Rat.mul_assoc,Rat.mul_comm (t.1:Rat) (D:Rat),Rat.mul_assoc]
theorem zqe {p q:PZ} (h:Eqv p q) (g:Mono → Rat):evQ g p = evQ g q:=by
 obtain ⟨D,hD,hz⟩:=zm3 g ((p ++ q).map fun t => t.2)
 have hz2:∀ t ∈ p ++ q,∃ z:Int,(z:Rat) = (D:Rat) * g t.2:=fun t ht => hz t.2 (List.mem_map.2 ⟨t,ht,rfl⟩)
 classical
 let f:Mono → Int:=fun m => if h:∃ z:Int,(z:Rat) = (D:Rat) * g m then Classical.choose h else 0
 have hf:∀ t ∈ p ++ q,(f t.2:Rat) = (D:Rat) * g t.2:=fun t ht => by
  have h1:=hz2 t ht
  show ((if h:∃ z:Int,(z:Rat) = (D:Rat) * g t.2 then Classical.choose h else 0:Int):Rat) = _
  rw [dif_pos h1]
  exact Classical.choose_spec h1
 have e1:=zhb g f D p (fun t ht => hf t (List.mem_append.2 (.inl ht)))
 have e2:=zhb g f D q (fun t ht => hf t (List.mem_append.2 (.inr ht)))
 rw [h f,e2] at e1
 have hD2:(D:Rat) ≠ 0:=fun e => hD (Rat.intCast_eq_zero_iff.1 e)
 have h3:(D:Rat)⁻¹ * ((D:Rat) * evQ g q) = (D:Rat)⁻¹ * ((D:Rat) * evQ g p):=by rw [e1]
 rw [← Rat.mul_assoc,← Rat.mul_assoc,Rat.mul_comm _ (D:Rat),Rat.mul_inv_cancel _ hD2,Rat.one_mul,Rat.one_mul] at h3
 exact h3.symm
theorem zu6 (g:Mono → Rat) (p q:PZ) (hp:zek p) (hq:zek q) (hg:∀ a b,okM a = true → okM b = true → g (z0m a b) = g a * g b):evQ g (mulL p q) = evQ g p * evQ g q:=by
 have one:∀ (t:Int × Mono) (q:PZ),okM t.2 = true → zek q → evQ g (q.map fun u => (t.1 * u.1,z0m t.2 u.2)) = (t.1:Rat) * g t.2 * evQ g q:=by
  intro t q ht hq
  induction q with
  | nil => simp [evQ,Rat.mul_zero]
  | cons u r ih =>
   simp only [List.map_cons,evQ]
   rw [ih (fun x hx => hq x (List.mem_cons_of_mem _ hx)),hg _ _ ht (hq u (List.mem_cons_self ..)),Rat.intCast_mul,Rat.mul_add]
   congr 1
   rw [Rat.mul_assoc,Rat.mul_assoc]
   congr 1
   rw [← Rat.mul_assoc,Rat.mul_comm (u.1:Rat) (g t.2),Rat.mul_assoc]
 induction p with
 | nil => simp [mulL,evQ,Rat.zero_mul]
 | cons t r ih =>
  have e:mulL (t :: r) q = (q.map fun u => (t.1 * u.1,z0m t.2 u.2)) ++ mulL r q:=rfl
  rw [e,z9v,one t q (hp t (List.mem_cons_self ..)) hq,ih (fun x hx => hp x (List.mem_cons_of_mem _ hx))]
  simp only [evQ]
  rw [Rat.add_mul]
end
section
open Go.RowKit
def gOf (a b:Int):Int:=if b < 0 then -((Int.gcd a b:Nat):Int) else ((Int.gcd a b:Nat):Int)
theorem z63 (a b:Int) (hb:b ≠ 0):gOf a b ≠ 0 ∧ a = (Rat.divInt a b).num * gOf a b ∧ b = ((Rat.divInt a b).den:Int) * gOf a b:=by
 rw [Rat.num_divInt,Rat.den_divInt,if_neg hb]
 have hg:0 < Int.gcd a b:=Int.gcd_pos_iff.2 (.inr hb)
 have hg2:b.gcd a = a.gcd b:=Int.gcd_comm b a
 rw [hg2]
 have h1:(Int.gcd a b:Int) ∣ a:=Int.gcd_dvd_left ..
 have h2:(Int.gcd a b:Int) ∣ b:=Int.gcd_dvd_right ..
 have h3:Int.gcd a b ∣ b.natAbs:=by
  have h:=Int.natAbs_dvd_natAbs.2 h2
  rwa [Int.natAbs_natCast] at h
 unfold gOf
 generalize Int.gcd a b = g at hg h1 h2 h3 ⊢
 have hz:((b.natAbs / g:Nat):Int) * (g:Int) = (b.natAbs:Int):=by
  rw [← Int.natCast_mul,Nat.div_mul_cancel h3]
 by_cases h:b < 0
 ·rw [if_pos h,Int.sign_eq_neg_one_of_neg h]
  have e:-1 * a / (g:Int) * (g:Int) = -1 * a:=Int.ediv_mul_cancel (Int.dvd_mul_of_dvd_right h1)
  refine ⟨by omega,?_,?_⟩
  ·rw [Int.mul_neg,e]
   omega
  ·rw [Int.mul_neg,hz]
   omega
 ·rw [if_neg h,Int.sign_eq_one_of_pos (by omega)]
  have e:1 * a / (g:Int) * (g:Int) = 1 * a:=Int.ediv_mul_cancel (Int.dvd_mul_of_dvd_right h1)
  refine ⟨by omega,?_,?_⟩
  ·rw [e]
   omega
  ·rw [hz]
   omega
def RatI (S:Nat → Prop) (w:World) (v:Value) (x y:RInt):Prop:=∃ vn vd,v = .agg #[.bool x.neg,vn,.bool y.neg,vd] ∧ U32s S w vn x.mag ∧ U32s S w vd y.mag
def RatQ (S:Nat → Prop) (w:World) (v:Value) (q:Rat):Prop:=RatI S w v (ofI q.num) (ofI (q.den:Int))
theorem RatI.to {S S':Nat → Prop} {w w':World} {v:Value} {x y:RInt} (h:RatI S w v x y) (hk:Kept S w w') (hS:∀ k,S k → S' k):RatI S' w' v x y:=by
 obtain ⟨vn,vd,h1,h2,h3⟩:=h
 exact ⟨vn,vd,h1,h2.to hk hS,h3.to hk hS⟩
theorem z34 {w:World} {b:Nat} {u0 u1 u2 u3:Value} (x y z t:Value) (c0:w.cell? ⟨b,0,none⟩ = some u0) (c1:w.cell? ⟨b,1,none⟩ = some u1) (c2:w.cell? ⟨b,2,none⟩ = some u2) (c3:w.cell? ⟨b,3,none⟩ = some u3) :
  ((((w.setCell ⟨b,0,none⟩ x).setCell ⟨b,1,none⟩ y).setCell ⟨b,2,none⟩ z).setCell ⟨b,3,none⟩ t).cell? ⟨b,0,none⟩ = some x ∧
  ((((w.setCell ⟨b,0,none⟩ x).setCell ⟨b,1,none⟩ y).setCell ⟨b,2,none⟩ z).setCell ⟨b,3,none⟩ t).cell? ⟨b,1,none⟩ = some y ∧
  ((((w.setCell ⟨b,0,none⟩ x).setCell ⟨b,1,none⟩ y).setCell ⟨b,2,none⟩ z).setCell ⟨b,3,none⟩ t).cell? ⟨b,2,none⟩ = some z ∧
  ((((w.setCell ⟨b,0,none⟩ x).setCell ⟨b,1,none⟩ y).setCell ⟨b,2,none⟩ z).setCell ⟨b,3,none⟩ t).cell? ⟨b,3,none⟩ = some t:=by
 have ne:∀ i j:Nat,i ≠ j → (⟨b,i,none⟩:Addr) ≠ ⟨b,j,none⟩:=fun i j h e => h (congrArg Addr.off e)
 refine ⟨?_,?_,?_,?_⟩
 ·exact z09 (z09 (z09 (z1h c0) (ne 1 0 (by decide))) (ne 2 0 (by decide))) (ne 3 0 (by decide))
 ·exact z09 (z09 (z1h (z09 c1 (ne 0 1 (by decide)))) (ne 2 1 (by decide))) (ne 3 1 (by decide))
 ·exact z09 (z1h (z09 (z09 c2 (ne 0 2 (by decide))) (ne 1 2 (by decide)))) (ne 3 2 (by decide))
 ·exact z1h (z09 (z09 (z09 c3 (ne 0 3 (by decide))) (ne 1 3 (by decide))) (ne 2 3 (by decide)))
theorem z82 {w:World} {b c i:Nat} {u:Value} (h:w.cell? ⟨c,i,none⟩ = some u) (hne:b ≠ c) (x y:Value):((w.setCell ⟨b,0,none⟩ x).setCell ⟨b,1,none⟩ y).cell? ⟨c,i,none⟩ = some u:=z09 (z09 h (ab hne)) (ab hne)
theorem zz0 {w:World} {b:Nat} {c:Addr} (h:w.frozen? c = false) (x y:Value):((w.setCell ⟨b,0,none⟩ x).setCell ⟨b,1,none⟩ y).frozen? c = false:=z16 (z16 h)
theorem zu7 {Y:Int} (h0:Y ≠ 0) (h:¬ Y < 0):z1l Y = 1:=by
 unfold z1l cmpI
 rw [if_neg h,if_pos (by omega)]
theorem zev (r:RInt):(valI r).natAbs = val B32 r.mag:=by
 unfold valI
 split <;> simp
theorem zqf {X:Int} {r:RInt} (h0:valI r ≠ 0) (hr:∀ z ∈ r.mag,z < B32):(rep B32 (Int.gcd X (valI r))).length ≤ r.mag.length:=by
 refine Nat.le_trans (z1o ?_) (z14 hr)
 rw [← zev]
 refine Nat.le_of_dvd (by omega) ?_
 have h:=Int.natAbs_dvd_natAbs.2 (Int.gcd_dvd_right (a:=X) (b:=valI r))
 rwa [Int.natAbs_natCast] at h
theorem zjt {a w:World} {b:Nat} (h:Ext a w) (hb:a.heap.size ≤ b) (x y:Value):Ext a ((w.setCell ⟨b,0,none⟩ x).setCell ⟨b,1,none⟩ y):=(h.setCell hb _).setCell hb _
theorem z4f {S:Nat → Prop} {w:World} {a:Addr} {v:Value} {zs:List Nat} (h:U32s S w v zs) (hb:¬ S a.block) (x:Value):U32s S (w.setCell a x) v zs:=h.to (Kept.setCell hb x) (fun _ h => h)
theorem zxk {w w6 w9:World} {b:Nat} {n d:RInt} {vn vd:Value} (h9:Ext w w9) (hw6:b < w6.heap.size) (hbw:w.heap.size + 1 ≤ b) (h6:w.heap.size ≤ w6.heap.size) (hn:U32s (New w6 w9) w9 vn n.mag) (hd:U32s (New w6 w9) w9 vd d.mag) (x1 x2 x3 x4 x5 x6:Value) :
  RatI (New w ((((((w9.setCell ⟨w.heap.size + 1,0,none⟩ x1).setCell ⟨w.heap.size + 1,1,none⟩ x2).setCell ⟨b,0,none⟩ x3).setCell ⟨b,1,none⟩ x4).setCell ⟨b,2,none⟩ x5).setCell ⟨b,3,none⟩ x6))
   ((((((w9.setCell ⟨w.heap.size + 1,0,none⟩ x1).setCell ⟨w.heap.size + 1,1,none⟩ x2).setCell ⟨b,0,none⟩ x3).setCell ⟨b,1,none⟩ x4).setCell ⟨b,2,none⟩ x5).setCell ⟨b,3,none⟩ x6) (.agg #[.bool n.neg,vn,.bool d.neg,vd]) n d ∧
  Ext w ((((((w9.setCell ⟨w.heap.size + 1,0,none⟩ x1).setCell ⟨w.heap.size + 1,1,none⟩ x2).setCell ⟨b,0,none⟩ x3).setCell ⟨b,1,none⟩ x4).setCell ⟨b,2,none⟩ x5).setCell ⟨b,3,none⟩ x6):=by
 have hS1:¬ New w6 w9 (w.heap.size + 1):=fun h => by have:=h.1; omega
 have hSb:¬ New w6 w9 b:=fun h => by have:=h.1; omega
 have hb:w.heap.size ≤ b:=by omega
 have up:∀ v zs,U32s (New w6 w9) w9 v zs → U32s (New w ((((((w9.setCell ⟨w.heap.size + 1,0,none⟩ x1).setCell ⟨w.heap.size + 1,1,none⟩ x2).setCell ⟨b,0,none⟩ x3).setCell ⟨b,1,none⟩ x4).setCell ⟨b,2,none⟩ x5).setCell ⟨b,3,none⟩ x6))
   ((((((w9.setCell ⟨w.heap.size + 1,0,none⟩ x1).setCell ⟨w.heap.size + 1,1,none⟩ x2).setCell ⟨b,0,none⟩ x3).setCell ⟨b,1,none⟩ x4).setCell ⟨b,2,none⟩ x5).setCell ⟨b,3,none⟩ x6) v zs:=fun v zs h =>
  (z4f (z4f (z4f (z4f (z4f (z4f h hS1 _) hS1 _) hSb _) hSb _) hSb _) hSb _).to (Kept.refl _ _) (fun k hk => ⟨Nat.le_trans h6 hk.1,by simp only [z07]; exact hk.2⟩)
 exact ⟨⟨vn,vd,rfl,up _ _ hn,up _ _ hd⟩,(((((h9.setCell (Nat.le_succ _) _).setCell (Nat.le_succ _) _).setCell hb _).setCell hb _).setCell hb _).setCell hb _⟩
theorem zqg {S:Nat → Prop} {w:World} {b:Nat} {v:Value} {zs:List Nat} (h:U32s S w v zs) (hb:¬ S b) (x y:Value):U32s S ((w.setCell ⟨b,0,none⟩ x).setCell ⟨b,1,none⟩ y) v zs:=h.to (Kept.set2 hb _ _) (fun _ h => h)
theorem zav {S:Nat → Prop} (vx vy:Value) (x y:RInt) (w:World) (hx:IntV S w vx x) (hy:IntV S w vy y) (hS:∀ k,S k → k < w.heap.size) (hr:x.mag.length ≤ 10000000000) (hr2:y.mag.length ≤ 10000000000) (h0:valI y ≠ 0) :
  Calls Tryz.prog 94 #[vx,vy] w fun e w' => ∃ v',e = .returned (.tuple #[v',.int .i64 0]) ∧ RatQ (New w w') w' v' (Rat.divInt (valI x) (valI y)) ∧ Ext w w':=by
 obtain ⟨xn,xs⟩:=x
 obtain ⟨yn,ys⟩:=y
 obtain ⟨vxm,rfl,hxu⟩:=hx
 obtain ⟨vym,rfl,hyu⟩:=hy
 simp only at hxu hyu hr hr2 ⊢
 obtain ⟨X,hX⟩:∃ X,X = valI ⟨xn,xs⟩:=⟨_,rfl⟩
 obtain ⟨Y,hY⟩:∃ Y,Y = valI ⟨yn,ys⟩:=⟨_,rfl⟩
 rw [← hY] at h0
 have HP:=hid (z63 X Y h0)
 have HY0:=hid h0
 have HX:=hid hxu
 have HY:=hid hyu
 obtain ⟨ax,cx,rfl⟩:=hxu.form
 obtain ⟨ay,cy,rfl⟩:=hyu.form
 obtain ⟨w0,hw0⟩:∃ W,W = (((w.alloc (.cells #[.bool xn,.slice ax xs.length cx] 30)).alloc (.cells #[.bool yn,.slice ay ys.length cy] 30)).alloc (.cells #[.bool false,.slice none 0 0,.bool false,.slice none 0 0] 32)):=⟨_,rfl⟩
 have HX0:Hid (Ext w w0):=hid (by rw [hw0]; exact Ext.alloc (Ext.alloc (Ext.alloc (Ext.refl w) _) _) _)
 have HSZ:Hid (w0.heap.size = w.heap.size + 1 + 1 + 1):=hid (by rw [hw0]; simp)
 have HB:=hid (fun (W:World) (h:Ext w0 W) => by
  rw [hw0] at h
  exact blk3 h)
 have HBF:=hid (fun (W:World) (h:Ext w0 W) => by
  rw [hw0] at h
  have e2:Ext ((w.alloc (.cells #[.bool xn,.slice ax xs.length cx] 30)).alloc (.cells #[.bool yn,.slice ay ys.length cy] 30)) W:=(Ext.alloc (Ext.refl _) _).trans h
  have e1:Ext (w.alloc (.cells #[.bool xn,.slice ax xs.length cx] 30)) W:=(Ext.alloc (Ext.refl _) _).trans e2
  exact And.intro (fun i => e1.new_free i) (fun i => by have h1:=e2.new_free i; rw [z02] at h1; exact h1))
 have CS:=hid (z1m (.agg #[.bool yn,.slice ay ys.length cy]) ⟨yn,ys⟩ w0 ⟨_,rfl,hyu.ext HX0.out hS⟩ (z08 hS HX0.out) (by show ys.length ≤ _; omega))
 rw [← hY] at CS
 have HW0:=hid hw0
 rw [hw0] at CS
 have HXV:=hid hX
 have HYV:=hid hY
 rw [← hX,← hY]
 obtain ⟨b1,b2,-,-⟩:=HB.out w0 (Ext.refl _)
 have c1:=b1 0 _ rfl
 have c2:=b1 1 _ rfl
 have c3:=b2 0 _ rfl
 have c4:=b2 1 _ rfl
 rw [hw0] at c1 c2 c3 c4
 have hsg:(z1l Y == 0) = false:=by
  rw [beq_eq_false_iff_ne]
  unfold z1l cmpI
  split
  ·omega
  ·split <;> omega
 clear hxu hyu hX hY hw0 b1 b2 h0
 go_enter Tryz.func94,Tryz.ntmps94
 go_wp2_with fail
 refine CS.out.mono ?_
 rintro e w1 ⟨rfl,hx1⟩
 rw [← HW0.out] at hx1
 obtain ⟨b1,b2,-,-⟩:=HB.out w1 hx1
 have d1:=b1 0 _ rfl
 have d2:=b1 1 _ rfl
 have d3:=b2 0 _ rfl
 have d4:=b2 1 _ rfl
 have HX1:=hid (HX0.out.trans hx1)
 have HX01:=hid hx1
 have CG:=hid (znx (.agg #[.bool xn,.slice ax xs.length cx]) (.agg #[.bool yn,.slice ay ys.length cy]) ⟨xn,xs⟩ ⟨yn,ys⟩ w1 ⟨_,rfl,HX.out.ext HX1.out hS⟩ ⟨_,rfl,HY.out.ext HX1.out hS⟩ (z08 hS HX1.out) hr hr2)
 rw [← HXV.out,← HYV.out] at CG
 clear hx1 b1 b2 c1 c2 c3 c4
 go_wp2_with fail
 refine CG.out.mono ?_
 rintro e w2 ⟨v2,rfl,⟨vm2,rfl,hu2⟩,hx2⟩
 have HX2:=hid (HX1.out.trans hx2)
 have HX02:=hid (HX01.out.trans hx2)
 have HU2:=hid hu2
 obtain ⟨ah,ch,rfl⟩:=hu2.form
 obtain ⟨gl,hgl⟩:∃ m,m = (ofI ((Int.gcd X Y:Nat):Int)).mag:=⟨_,rfl⟩
 obtain ⟨gb,hgb⟩:∃ m,m = (ofI ((Int.gcd X Y:Nat):Int)).neg:=⟨_,rfl⟩
 rw [← hgl] at HU2 ⊢
 rw [← hgb]
 have HGM:=hid (And.intro hgl hgb)
 obtain ⟨w3,hw3⟩:∃ W,W = w2.alloc (.cells #[.bool gb,.slice ah gl.length ch] 30):=⟨_,rfl⟩
 have HW3:=hid hw3
 have HX3:=hid (show Ext w w3 by rw [hw3]; exact HX2.out.alloc _)
 have HX03:=hid (show Ext w0 w3 by rw [hw3]; exact HX02.out.alloc _)
 have HG3:=hid (fun (W:World) (h:Ext w3 W) => by
  rw [hw3] at h
  exact And.intro (h.new_cell (i:=0) (v:=.bool gb) rfl) (And.intro (h.new_cell (i:=1) (v:=.slice ah gl.length ch) rfl) (And.intro (h.new_free 0) (h.new_free 1))))
 have HU3:=hid (show U32s (New w0 w3) w3 (.slice ah gl.length ch) gl by rw [hw3]; exact HU2.out.to (Kept.ext (Ext.alloc (Ext.refl _) _) New.lt) (fun k h => ⟨Nat.le_trans HX01.out.size h.1,by rw [z02]; have:=h.2; omega⟩))
 have CS3:=hid (z1m (.agg #[.bool yn,.slice ay ys.length cy]) ⟨yn,ys⟩ w3 ⟨_,rfl,HY.out.ext HX3.out hS⟩ (z08 hS HX3.out) (by show ys.length ≤ _; omega))
 rw [← HYV.out] at CS3
 rw [hw3] at CS3
 obtain ⟨b1,b2,-,-⟩:=HB.out w3 HX03.out
 have d1:=b1 0 _ rfl
 have d2:=b1 1 _ rfl
 have d3:=b2 0 _ rfl
 have d4:=b2 1 _ rfl
 rw [hw3] at d1 d2 d3 d4
 have hz2:w.heap.size + 1 + 1 < w2.heap.size:=by have h1:=HX02.out.size; have h2:=HSZ.out; omega
 clear hu2 hx2 b1 b2 hgl hgb hw3
 go_wp2_with fail
 refine CS3.out.mono ?_
 rintro e w4 ⟨rfl,hx4⟩
 rw [← HW3.out] at hx4
 obtain ⟨b1,b2,-,-⟩:=HB.out w4 (HX03.out.trans hx4)
 have d1:=b1 0 _ rfl
 have d2:=b1 1 _ rfl
 have d3:=b2 0 _ rfl
 have d4:=b2 1 _ rfl
 obtain ⟨g0,g1,gf0,gf1⟩:=HG3.out w4 hx4
 have HX34:=hid hx4
 have HLG:Hid (gl.length ≤ 10000000000):=hid (by
  rw [HGM.out.1]
  show (rep B32 (Int.natAbs ((Int.gcd X Y:Nat):Int))).length ≤ _
  rw [Int.natAbs_natCast,HYV.out]
  exact Nat.le_trans (zqf (r:=⟨yn,ys⟩) (by rw [← HYV.out]; exact HY0.out) HY.out.lt) hr2)
 clear hx4 b1 b2
 by_cases hneg:Y < 0
 case' pos =>
  have hsy:z1l Y = -1:=by unfold z1l cmpI; rw [if_pos hneg]
  rw [hsy]
  have CN:=hid (zo2 (.agg #[.bool gb,.slice ah gl.length ch]) ⟨gb,gl⟩ w4 ⟨_,rfl,u_on (z3s HU3.out) HX34.out⟩ (fun k h => h) (by
   show gl.length ≤ _
   have h1:=HLG.out
   omega))
  have e0:valI ⟨gb,gl⟩ = ((Int.gcd X Y:Nat):Int):=by
   rw [HGM.out.1,HGM.out.2]
   exact z0p ((Int.gcd X Y:Nat):Int)
  rw [e0] at CN
  go_wp2_with fail
  refine CN.out.mono ?_
  rintro e w5 ⟨v5,rfl,⟨vm5,rfl,hu5⟩,hx5⟩
  obtain ⟨b1,b2,b3,b4⟩:=HB.out w5 ((HX03.out.trans HX34.out).trans hx5)
  obtain ⟨g0,g1,gf0,gf1⟩:=HG3.out w5 (HX34.out.trans hx5)
  have hd:=fun x y => z19 x y g0 g1
  obtain ⟨gl,hgl⟩:∃ m,m = (ofI (-((Int.gcd X Y:Nat):Int))).mag:=⟨_,rfl⟩
  obtain ⟨gb,hgb⟩:∃ m,m = (ofI (-((Int.gcd X Y:Nat):Int))).neg:=⟨_,rfl⟩
  rw [← hgl] at hu5
  rw [← hgb]
  have HU5:=hid hu5
  obtain ⟨ah,ch,rfl⟩:=hu5.form
  obtain ⟨w6,hw6⟩:∃ W,W = (w5.setCell ⟨w2.heap.size,0,none⟩ (.bool gb)).setCell ⟨w2.heap.size,1,none⟩ (.slice ah gl.length ch):=⟨_,rfl⟩
  have HX36:Hid (Ext w3 w5):=hid (HX34.out.trans hx5)
  have HX06:Hid (Ext w0 w6):=hid (by rw [hw6]; exact zjt ((HX03.out.trans HX34.out).trans hx5) HX02.out.size _ _)
  have q1:=z82 (b:=w2.heap.size) (b1 0 _ rfl) (by omega) (.bool gb) (.slice ah gl.length ch)
  have q2:=z82 (b:=w2.heap.size) (b1 1 _ rfl) (by omega) (.bool gb) (.slice ah gl.length ch)
  have q3:=(hd (.bool gb) (.slice ah gl.length ch)).1
  have q4:=(hd (.bool gb) (.slice ah gl.length ch)).2
  have HGC:Hid (w6.cell? ⟨w2.heap.size,0,none⟩ = some (.bool gb) ∧ w6.cell? ⟨w2.heap.size,1,none⟩ = some (.slice ah gl.length ch) ∧ w2.heap.size < w6.heap.size):=hid (by
   rw [hw6]
   exact ⟨q3,q4,by rw [z2q]; exact Nat.lt_of_lt_of_le (by rw [HW3.out,z02]; omega) HX36.out.size⟩)
  have HBC:Hid (w6.cell? ⟨w.heap.size + 1,0,none⟩ = some (.bool yn) ∧ w6.cell? ⟨w.heap.size + 1,1,none⟩ = some (.slice ay ys.length cy)):=hid (by
   rw [hw6]
   exact ⟨z82 (b2 0 _ rfl) (by omega) _ _,z82 (b2 1 _ rfl) (by omega) _ _⟩)
  have HG6:Hid (RInt.mk gb gl = ofI (gOf X Y)):=hid (by
   rw [hgl,hgb]
   unfold gOf
   rw [if_pos hneg])
  have HU6:Hid (U32s (New w0 w6) w6 (.slice ah gl.length ch) gl):=hid (by
   rw [hw6]
   exact (zqg HU5.out (fun h => by have h1 := h.1; have h2 := HX34.out.size; have h3 : w3.heap.size = w2.heap.size + 1 := (by rw [HW3.out, z02]); omega) _ _).to (Kept.refl _ _) (fun k h => ⟨Nat.le_trans (Nat.le_trans HX03.out.size HX34.out.size) h.1,Nat.lt_of_lt_of_le h.2 (Nat.le_of_eq (z2q _ _).symm)⟩))
  have HLG6:Hid (gl.length ≤ 10000000000):=hid (by
   rw [hgl]
   show (rep B32 (Int.natAbs (-((Int.gcd X Y:Nat):Int)))).length ≤ _
   rw [Int.natAbs_neg,Int.natAbs_natCast,HYV.out]
   exact Nat.le_trans (zqf (r:=⟨yn,ys⟩) (by rw [← HYV.out]; exact HY0.out) HY.out.lt) hr2)
  clear hgl hgb hu5 hx5 b1 b2 b3 b4 hd CN e0
  go_wp2_with fail
  rw [← hw6]
 case' neg =>
  have hsy:z1l Y = 1:=zu7 HY0.out hneg
  rw [hsy]
  obtain ⟨b1,b2,b3,b4⟩:=HB.out w4 (HX03.out.trans HX34.out)
  obtain ⟨w6,hw6⟩:∃ W,W = w4:=⟨_,rfl⟩
  have HX06:Hid (Ext w0 w6):=hid (by rw [hw6]; exact HX03.out.trans HX34.out)
  have HGC:Hid (w6.cell? ⟨w2.heap.size,0,none⟩ = some (.bool gb) ∧ w6.cell? ⟨w2.heap.size,1,none⟩ = some (.slice ah gl.length ch) ∧ w2.heap.size < w6.heap.size):=hid (by
   rw [hw6]
   exact ⟨g0,g1,Nat.lt_of_lt_of_le (by rw [HW3.out,z02]; omega) HX34.out.size⟩)
  have HBC:Hid (w6.cell? ⟨w.heap.size + 1,0,none⟩ = some (.bool yn) ∧ w6.cell? ⟨w.heap.size + 1,1,none⟩ = some (.slice ay ys.length cy)):=hid (by
   rw [hw6]
   exact ⟨b2 0 _ rfl,b2 1 _ rfl⟩)
  have HG6:Hid (RInt.mk gb gl = ofI (gOf X Y)):=hid (by
   rw [HGM.out.1,HGM.out.2]
   unfold gOf
   rw [if_neg hneg])
  have HU6:Hid (U32s (New w0 w6) w6 (.slice ah gl.length ch) gl):=hid (by
   rw [hw6]
   exact HU3.out.to (Kept.ext HX34.out New.lt) (fun k h => ⟨h.1,Nat.lt_of_lt_of_le h.2 HX34.out.size⟩))
  have HLG6:Hid (gl.length ≤ 10000000000):=HLG
  clear b1 b2 b3 b4
  go_wp2_with fail
  rw [← hw6]
 all_goals
  have HX6:=hid (HX0.out.trans HX06.out)
  have CE:=hid (zbi (S:=Old w6) (.agg #[.bool xn,.slice ax xs.length cx]) (.agg #[.bool gb,.slice ah gl.length ch]) ⟨xn,xs⟩ ⟨gb,gl⟩ w6 ⟨_,rfl,(HX.out.ext HX6.out hS).to (Kept.refl _ _) (z08 hS HX6.out)⟩ ⟨_,rfl,z3s HU6.out⟩ (fun _ h => h) hr HLG6.out (Rat.divInt X Y).num (by rw [HG6.out,z0p]; exact HP.out.1) (by rw [HG6.out,z0p,← HXV.out]; exact HP.out.2.1))
  refine CE.out.mono ?_
  rintro e w7 ⟨v7,rfl,⟨vm7,rfl,hu7⟩,hx7⟩
  obtain ⟨nl,hnl⟩:∃ m,m = (ofI (Rat.divInt X Y).num).mag:=⟨_,rfl⟩
  obtain ⟨nb,hnb⟩:∃ m,m = (ofI (Rat.divInt X Y).num).neg:=⟨_,rfl⟩
  rw [← hnl] at hu7
  rw [← hnb]
  have HU7:=hid hu7
  obtain ⟨a7,c7,rfl⟩:=hu7.form
  obtain ⟨b1,b2,b3,b4⟩:=HB.out w7 (HX06.out.trans hx7)
  have hd:=fun x y => z19 x y (b1 0 _ rfl) (b1 1 _ rfl)
  obtain ⟨ff1,ff2⟩:=HBF.out w7 (HX06.out.trans hx7)
  have e71:=b1 0 _ rfl
  have e72:=b1 1 _ rfl
  have f1:=ff1 0
  have f2:=ff1 1
  have f3:=ff2 0
  have f4:=ff2 1
  have HF7:=hid (fun i => zz0 (b:=w.heap.size) (ff2 i) (.bool nb) (.slice a7 nl.length c7))
  have HZ6:Hid (w.heap.size + 1 + 1 < w6.heap.size):=hid (by have h1:=HX06.out.size; have h2:=HSZ.out; omega)
  obtain ⟨w8,hw8⟩:∃ W,W = (w7.setCell ⟨w.heap.size,0,none⟩ (.bool nb)).setCell ⟨w.heap.size,1,none⟩ (.slice a7 nl.length c7):=⟨_,rfl⟩
  have HX8:Hid (Ext w w8):=hid (by rw [hw8]; exact zjt (HX6.out.trans hx7) (Nat.le_refl _) _ _)
  have k1:=(hd (.bool nb) (.slice a7 nl.length c7)).1
  have k2:=(hd (.bool nb) (.slice a7 nl.length c7)).2
  have k3:=z82 (b:=w.heap.size) (b2 0 _ rfl) (by omega) (.bool nb) (.slice a7 nl.length c7)
  have k4:=z82 (b:=w.heap.size) (b2 1 _ rfl) (by omega) (.bool nb) (.slice a7 nl.length c7)
  have k5:=z82 (b:=w.heap.size) (hx7.cell HGC.out.1) (by omega) (.bool nb) (.slice a7 nl.length c7)
  have k6:=z82 (b:=w.heap.size) (hx7.cell HGC.out.2.1) (by omega) (.bool nb) (.slice a7 nl.length c7)
  have m1:=z82 (b:=w.heap.size) (b3 0 _ rfl) (by omega) (.bool nb) (.slice a7 nl.length c7)
  have m2:=z82 (b:=w.heap.size) (b3 1 _ rfl) (by omega) (.bool nb) (.slice a7 nl.length c7)
  have m3:=z82 (b:=w.heap.size) (b3 2 _ rfl) (by omega) (.bool nb) (.slice a7 nl.length c7)
  have m4:=z82 (b:=w.heap.size) (b3 3 _ rfl) (by omega) (.bool nb) (.slice a7 nl.length c7)
  have mf:=fun i => zz0 (b:=w.heap.size) (b4 i) (.bool nb) (.slice a7 nl.length c7)
  have HM:=hid (And.intro k1 (And.intro k2 (And.intro k3 (And.intro k4 (And.intro m1 (And.intro m2 (And.intro m3 (And.intro m4 mf))))))))
  rw [← hw8] at HM HF7
  have HU8:Hid (U32s (New w6 w8) w8 (.slice a7 nl.length c7) nl):=hid (by
   rw [hw8]
   exact (zqg HU7.out (fun h => by have h1:=h.1; have h2:=HZ6.out; omega) _ _).to (Kept.refl _ _) (fun k h => ⟨h.1,Nat.lt_of_lt_of_le h.2 (Nat.le_of_eq (z2q _ _).symm)⟩))
  have HG8:Hid (U32s (New w0 w8) w8 (.slice ah gl.length ch) gl):=hid (by
   rw [hw8]
   exact (zqg (HU6.out.to (Kept.ext hx7 New.lt) (fun _ h => h)) (fun h => by have h1:=h.1; have h2:=HSZ.out; omega) _ _).to (Kept.refl _ _) (fun k h => ⟨h.1,Nat.lt_of_lt_of_le (Nat.lt_of_lt_of_le h.2 hx7.size) (Nat.le_of_eq (z2q _ _).symm)⟩))
  have HS78:Hid (w6.heap.size ≤ w8.heap.size):=hid (by rw [hw8,z2q]; exact hx7.size)
  have CE2:=hid (zbi (S:=Old w8) (.agg #[.bool yn,.slice ay ys.length cy]) (.agg #[.bool gb,.slice ah gl.length ch]) ⟨yn,ys⟩ ⟨gb,gl⟩ w8 ⟨_,rfl,(HY.out.ext HX8.out hS).to (Kept.refl _ _) (z08 hS HX8.out)⟩ ⟨_,rfl,z3s HG8.out⟩ (fun _ h => h) hr2 HLG6.out ((Rat.divInt X Y).den:Int) (by rw [HG6.out,z0p]; exact HP.out.1) (by rw [HG6.out,z0p,← HYV.out]; exact HP.out.2.2))
  have HNV:=hid (And.intro hnl hnb)
  have hz3:w.heap.size < w2.heap.size:=by omega
  clear ff1 ff2 hu7 hx7 b1 b2 b3 b4 hd hnl hnb m1 m2 m3 m4 mf
  go_wp2_with fail
  rw [← hw8]
  refine CE2.out.mono ?_
  rintro e w9 ⟨v9,rfl,⟨vm9,rfl,hu9⟩,hx9⟩
  obtain ⟨dl,hdl⟩:∃ m,m = (ofI ((Rat.divInt X Y).den:Int)).mag:=⟨_,rfl⟩
  obtain ⟨db,hdb⟩:∃ m,m = (ofI ((Rat.divInt X Y).den:Int)).neg:=⟨_,rfl⟩
  rw [← hdl] at hu9
  rw [← hdb]
  have HU9:=hid hu9
  obtain ⟨a9,c9,rfl⟩:=hu9.form
  have HX9:=hid hx9
  obtain ⟨h1,h2,h3,h4,h5,h6,h7,h8,hf⟩:=HM.out
  have n1:=hx9.cell h1
  have n2:=hx9.cell h2
  have n3:=hx9.cell h3
  have n4:=hx9.cell h4
  have n5:=hx9.cell h5
  have n6:=hx9.cell h6
  have n7:=hx9.cell h7
  have n8:=hx9.cell h8
  have hlt8:w.heap.size + 1 + 1 < w8.heap.size:=Nat.lt_of_lt_of_le HZ6.out HS78.out
  have fr:∀ i,w9.frozen? ⟨w.heap.size + 1 + 1,i,none⟩ = false:=fun i => hx9.free hlt8 (hf i)
  have fd:∀ i,w9.frozen? ⟨w.heap.size + 1,i,none⟩ = false:=fun i => hx9.free (by omega) (HF7.out i)
  have fr0:=fr 0
  have fr1:=fr 1
  have fr2:=fr 2
  have fr3:=fr 3
  have fd0:=fd 0
  have fd1:=fd 1
  have HDV:=hid (And.intro hdl hdb)
  have HLT8:=hid hlt8
  clear h1 h2 h3 h4 h5 h6 h7 h8 hf hu9 hx9 fr fd hdl hdb hlt8
  go_wp2
  all_goals
   have hd4:=fun x y z t => z34 x y z t (z82 (b:=w.heap.size + 1) n5 (by omega) (.bool db) (.slice a9 dl.length c9)) (z82 (b:=w.heap.size + 1) n6 (by omega) (.bool db) (.slice a9 dl.length c9)) (z82 (b:=w.heap.size + 1) n7 (by omega) (.bool db) (.slice a9 dl.length c9)) (z82 (b:=w.heap.size + 1) n8 (by omega) (.bool db) (.slice a9 dl.length c9))
   refine bodyPost_ret (by simp [results,Tryz.results94,go_sem,(hd4 _ _ _ _).1,(hd4 _ _ _ _).2.1,(hd4 _ _ _ _).2.2.1,(hd4 _ _ _ _).2.2.2]; rfl) rfl ?_
   have hg:=zxk (w:=w) (w6:=w6) (b:=w.heap.size + 1 + 1) (n:=⟨nb,nl⟩) (d:=⟨db,dl⟩) (HX8.out.trans HX9.out) HZ6.out (Nat.le_succ _) HX6.out.size (HU8.out.to (S':=New w6 w9) (Kept.ext HX9.out New.lt) (fun k h => ⟨h.1,Nat.lt_of_lt_of_le h.2 HX9.out.size⟩)) (HU9.out.to (S':=New w6 w9) (Kept.refl _ _) (fun k h => ⟨Nat.le_trans HS78.out h.1,h.2⟩)) (.bool db) (.slice a9 dl.length c9) (.bool nb) (.slice a7 nl.length c7) (.bool db) (.slice a9 dl.length c9)
   refine ⟨_,rfl,?_,hg.2⟩
   have en:(RInt.mk nb nl) = ofI (Rat.divInt X Y).num:=by rw [HNV.out.1,HNV.out.2]
   have ed:(RInt.mk db dl) = ofI ((Rat.divInt X Y).den:Int):=by rw [HDV.out.1,HDV.out.2]
   unfold RatQ
   rw [← en,← ed]
   exact hg.1
end
section
open Go.RowKit
def putQ (a b:Int):Rat:=if b = 0 then Rat.divInt a 1 else Rat.divInt a b
theorem zqh (w:World):Calls Tryz.prog 97 #[] w fun e w' => ∃ v',e = .returned v' ∧ IntV (New w w') w' v' (ofI 1) ∧ Ext w w':=by
 obtain ⟨w0,hw0⟩:∃ W,W = w.alloc (.cells #[.bool false,.slice none 0 0] 30):=⟨_,rfl⟩
 have HX0:Hid (Ext w w0):=hid (by rw [hw0]; exact Ext.alloc (Ext.refl w) _)
 have HSZ:Hid (w.heap.size < w0.heap.size):=hid (by rw [hw0]; simp)
 have HB:=hid (fun (W:World) (h:Ext w0 W) => by
  rw [hw0] at h
  exact And.intro (h.new_cell (i:=0) (v:=.bool false) rfl) (And.intro (h.new_cell (i:=1) (v:=.slice none 0 0) rfl) (And.intro (h.new_free 0) (h.new_free 1))))
 have CM:=hid (z91 1 w0 (by decide))
 rw [hw0] at CM
 have HW0:=hid hw0
 clear hw0
 go_enter Tryz.func97,Tryz.ntmps97
 go_wp2_with fail
 refine CM.out.mono ?_
 rintro e w2 ⟨v2,rfl,⟨vm2,rfl,hu2⟩,hx2⟩
 rw [← HW0.out] at hu2 hx2
 obtain ⟨e0,e1,f0,f1⟩:=HB.out w2 hx2
 have HX2:=hid hx2
 have HU2:=hid hu2
 have HE:=hid (And.intro e0 e1)
 obtain ⟨a2,n2,rfl⟩:=hu2.form
 clear hu2 hx2
 go_wp2
 all_goals
  have hd:=fun x y => z19 x y HE.out.1 HE.out.2
  refine bodyPost_ret (by simp [results,Tryz.results97,go_sem,(hd _ _).1,(hd _ _).2]; rfl) rfl ?_
  have hg:=z33 (w0:=w) (b:=w.heap.size) rfl HU2.out HX0.out HX2.out (by omega) HSZ.out (.bool (ofI 1).neg) (.slice a2 (ofI 1).mag.length n2)
  exact ⟨_,rfl,hg.1,hg.2⟩
theorem zew {w w1 w9:World} {b:Nat} {n d:RInt} {vn vd:Value} (h1:Ext w w1) (h9:Ext w1 w9) (hb1:b < w1.heap.size) (hb:w.heap.size ≤ b) (hn:U32s (New w1 w9) w9 vn n.mag) (hd:U32s (New w1 w9) w9 vd d.mag) (x3 x4 x5 x6:Value) :
  RatI (New w ((((w9.setCell ⟨b,0,none⟩ x3).setCell ⟨b,1,none⟩ x4).setCell ⟨b,2,none⟩ x5).setCell ⟨b,3,none⟩ x6))
   ((((w9.setCell ⟨b,0,none⟩ x3).setCell ⟨b,1,none⟩ x4).setCell ⟨b,2,none⟩ x5).setCell ⟨b,3,none⟩ x6) (.agg #[.bool n.neg,vn,.bool d.neg,vd]) n d ∧
  Ext w ((((w9.setCell ⟨b,0,none⟩ x3).setCell ⟨b,1,none⟩ x4).setCell ⟨b,2,none⟩ x5).setCell ⟨b,3,none⟩ x6):=by
 have hSb:¬ New w1 w9 b:=fun h => by have:=h.1; omega
 have up:∀ v zs,U32s (New w1 w9) w9 v zs → U32s (New w ((((w9.setCell ⟨b,0,none⟩ x3).setCell ⟨b,1,none⟩ x4).setCell ⟨b,2,none⟩ x5).setCell ⟨b,3,none⟩ x6))
   ((((w9.setCell ⟨b,0,none⟩ x3).setCell ⟨b,1,none⟩ x4).setCell ⟨b,2,none⟩ x5).setCell ⟨b,3,none⟩ x6) v zs:=fun v zs h =>
  (z4f (z4f (z4f (z4f h hSb _) hSb _) hSb _) hSb _).to (Kept.refl _ _) (fun k hk => ⟨Nat.le_trans h1.size hk.1,by simp only [z07]; exact hk.2⟩)
 exact ⟨⟨vn,vd,rfl,up _ _ hn,up _ _ hd⟩,((((h1.trans h9).setCell hb _).setCell hb _).setCell hb _).setCell hb _⟩
theorem z64 {S:Nat → Prop} (v:Value) (x y:RInt) (w:World) (h:RatI S w v x y) (hS:∀ k,S k → k < w.heap.size) (hr:x.mag.length ≤ 10000000000) (hr2:y.mag.length ≤ 10000000000) :
  Calls Tryz.prog 58 #[v] w fun e w' => ∃ v',e = .returned v' ∧ RatQ (New w w') w' v' (putQ (valI x) (valI y)) ∧ Ext w w':=by
 obtain ⟨xn,xs⟩:=x
 obtain ⟨yn,ys⟩:=y
 obtain ⟨vxm,vym,rfl,hxu,hyu⟩:=h
 simp only at hxu hyu hr hr2 ⊢
 obtain ⟨X,hX⟩:∃ X,X = valI ⟨xn,xs⟩:=⟨_,rfl⟩
 obtain ⟨Y,hY⟩:∃ Y,Y = valI ⟨yn,ys⟩:=⟨_,rfl⟩
 have HX:=hid hxu
 have HY:=hid hyu
 obtain ⟨ax,cx,rfl⟩:=hxu.form
 obtain ⟨ay,cy,rfl⟩:=hyu.form
 obtain ⟨w0,hw0⟩:∃ W,W = ((w.alloc (.cells #[.bool xn,.slice ax xs.length cx,.bool yn,.slice ay ys.length cy] 32)).alloc (.cells #[.bool false,.slice none 0 0,.bool false,.slice none 0 0] 32)):=⟨_,rfl⟩
 have HX0:Hid (Ext w w0):=hid (by rw [hw0]; exact Ext.alloc (Ext.alloc (Ext.refl w) _) _)
 have HSZ:Hid (w0.heap.size = w.heap.size + 1 + 1):=hid (by rw [hw0]; simp)
 have HB:=hid (fun (W:World) (h:Ext w0 W) => by
  rw [hw0] at h
  have e1:Ext (w.alloc (.cells #[.bool xn,.slice ax xs.length cx,.bool yn,.slice ay ys.length cy] 32)) W:=(Ext.alloc (Ext.refl _) _).trans h
  have k:=fun i v hv => h.new_cell (i:=i) (v:=v) hv
  have f:=fun i => h.new_free i
  rw [z02] at k f
  exact And.intro (fun i v hv => e1.new_cell (i:=i) (v:=v) hv) (And.intro (fun i => e1.new_free i) (And.intro k f)))
 have CS:=hid (z1m (.agg #[.bool yn,.slice ay ys.length cy]) ⟨yn,ys⟩ w0 ⟨_,rfl,hyu.ext HX0.out hS⟩ (z08 hS HX0.out) (by show ys.length ≤ _; omega))
 rw [← hY] at CS
 have HW0:=hid hw0
 rw [hw0] at CS
 have HXV:=hid hX
 have HYV:=hid hY
 rw [← hX,← hY]
 obtain ⟨b1,-,-,-⟩:=HB.out w0 (Ext.refl _)
 have c1:=b1 0 _ rfl
 have c2:=b1 1 _ rfl
 have c3:=b1 2 _ rfl
 have c4:=b1 3 _ rfl
 rw [hw0] at c1 c2 c3 c4
 clear hxu hyu hX hY hw0 b1
 by_cases h0:Y = 0
 ·have hsg:(z1l Y == 0) = true:=by rw [h0]; rfl
  have HZ:=hid h0
  clear h0
  go_enter Tryz.func58,Tryz.ntmps58
  go_wp2_with fail
  refine CS.out.mono ?_
  rintro e w1 ⟨rfl,hx1⟩
  rw [← HW0.out] at hx1
  obtain ⟨b1,b2,b3,b4⟩:=HB.out w1 hx1
  have CO1:=hid (zqh w1)
  have HX01:=hid hx1
  clear hx1 b1 b2 b3 b4 c1 c2 c3 c4
  go_wp2_with fail
  refine CO1.out.mono ?_
  rintro e w1' ⟨v1,rfl,⟨vm1,rfl,hu1⟩,hx1'⟩
  obtain ⟨b1,b2,b3,b4⟩:=HB.out w1' (HX01.out.trans hx1')
  have d1:=b1 0 _ rfl
  have d2:=b1 1 _ rfl
  have d3:=b1 2 _ rfl
  have d4:=b1 3 _ rfl
  have q1:=b2 2
  have q2:=b2 3
  obtain ⟨ol,hol⟩:∃ m,m = (ofI 1).mag:=⟨_,rfl⟩
  obtain ⟨ob,hob⟩:∃ m,m = (ofI 1).neg:=⟨_,rfl⟩
  rw [← hol] at hu1
  rw [← hob]
  have HU1:=hid hu1
  have HO:=hid (And.intro hol hob)
  obtain ⟨a1,k1,rfl⟩:=hu1.form
  obtain ⟨W1,hW1⟩:∃ W,W = (w1'.setCell ⟨w.heap.size,2,none⟩ (.bool ob)).setCell ⟨w.heap.size,3,none⟩ (.slice a1 ol.length k1):=⟨_,rfl⟩
  have HXW:Hid (Ext w W1):=hid (by rw [hW1]; exact (((HX0.out.trans HX01.out).trans hx1').setCell (Nat.le_refl _) _).setCell (Nat.le_refl _) _)
  have HSW:Hid (W1.heap.size = w1'.heap.size):=hid (by rw [hW1]; simp only [z07])
  have HBW:Hid (w.heap.size + 1 < W1.heap.size):=hid (by rw [HSW.out]; have h1:=HSZ.out; have h2:=(HX01.out.trans hx1').size; omega)
  have HU1W:Hid (U32s (Old W1) W1 (.slice a1 ol.length k1) ol):=hid (by
   have hn:¬ New w1 w1' w.heap.size:=fun h => by have h1:=h.1; have h2:=HSZ.out; have h3:=HX01.out.size; omega
   rw [hW1]
   exact (z4f (z4f HU1.out hn _) hn _).to (Kept.refl _ _) (fun k h => by show k < (World.heap _).size; simp only [z07]; exact h.2))
  have HCW:Hid (∀ i v,(#[.bool false,.slice none 0 0,.bool false,.slice none 0 0]:Array Value)[i]? = some v → W1.cell? ⟨w.heap.size + 1,i,none⟩ = some v):=hid (by
   rw [hW1]
   exact fun i v h => z09 (z09 (b3 i v h) (ab (by omega))) (ab (by omega)))
  have HFW:Hid (∀ i,W1.frozen? ⟨w.heap.size + 1,i,none⟩ = false):=hid (by
   rw [hW1]
   exact fun i => z16 (z16 (b4 i)))
  have CO:=hid (zav (S:=Old W1) (.agg #[.bool xn,.slice ax xs.length cx]) (.agg #[.bool ob,.slice a1 ol.length k1]) ⟨xn,xs⟩ ⟨ob,ol⟩ W1 ⟨_,rfl,(HX.out.ext HXW.out hS).to (Kept.refl _ _) (z08 hS HXW.out)⟩ ⟨_,rfl,HU1W.out⟩ (fun _ h => h) hr (by show ol.length ≤ _; rw [HO.out.1]; decide) (by rw [HO.out.1,HO.out.2]; decide))
  have eo:valI ⟨ob,ol⟩ = 1:=by rw [HO.out.1,HO.out.2]; exact z0p 1
  rw [← HXV.out,eo,show Rat.divInt X 1 = putQ X Y by unfold putQ; rw [if_pos HZ.out]] at CO
  clear hu1 hx1' b1 b2 b3 b4 hol hob eo
  go_wp2_with fail
  rw [← hW1]
  refine CO.out.mono ?_
  rintro e w2 ⟨v2,rfl,⟨vn2,vd2,rfl,hn2,hd2⟩,hx2⟩
  have e1:=hx2.cell (HCW.out 0 _ rfl)
  have e2:=hx2.cell (HCW.out 1 _ rfl)
  have e3:=hx2.cell (HCW.out 2 _ rfl)
  have e4:=hx2.cell (HCW.out 3 _ rfl)
  have f1:=hx2.free HBW.out (HFW.out 0)
  have f2:=hx2.free HBW.out (HFW.out 1)
  have f3:=hx2.free HBW.out (HFW.out 2)
  have f4:=hx2.free HBW.out (HFW.out 3)
  clear d1 d2 d3 d4 q1 q2
  have HX2:=hid hx2
  have hz2:w.heap.size + 1 < w2.heap.size:=by have h1:=HBW.out; have h2:=hx2.size; omega
  obtain ⟨nl,hnl⟩:∃ m,m = (ofI (putQ X Y).num).mag:=⟨_,rfl⟩
  obtain ⟨nb,hnb⟩:∃ m,m = (ofI (putQ X Y).num).neg:=⟨_,rfl⟩
  obtain ⟨dl,hdl⟩:∃ m,m = (ofI ((putQ X Y).den:Int)).mag:=⟨_,rfl⟩
  obtain ⟨db,hdb⟩:∃ m,m = (ofI ((putQ X Y).den:Int)).neg:=⟨_,rfl⟩
  rw [← hnl] at hn2
  rw [← hdl] at hd2
  rw [← hnb,← hdb]
  have HN2:=hid hn2
  have HD2:=hid hd2
  have HNV:=hid (And.intro hnl (And.intro hnb (And.intro hdl hdb)))
  obtain ⟨a2,k2,rfl⟩:=hn2.form
  obtain ⟨a3,k3,rfl⟩:=hd2.form
  have HE4:=hid (And.intro e1 (And.intro e2 (And.intro e3 e4)))
  clear hx2 hn2 hd2 hnl hnb hdl hdb
  go_wp2
  all_goals
   have hd4:=fun x y z t => z34 x y z t HE4.out.1 HE4.out.2.1 HE4.out.2.2.1 HE4.out.2.2.2
   have ha:=fun (E:World) (C:Obj) (b i:Nat) (v:Value) (h:E.cell? ⟨b,i,none⟩ = some v) => (Ext.alloc (Ext.refl E) C).cell h
   have r1:=fun C x y z t => ha _ C _ _ _ (hd4 x y z t).1
   have r2:=fun C x y z t => ha _ C _ _ _ (hd4 x y z t).2.1
   have r3:=fun C x y z t => ha _ C _ _ _ (hd4 x y z t).2.2.1
   have r4:=fun C x y z t => ha _ C _ _ _ (hd4 x y z t).2.2.2
   refine bodyPost_ret (by simp [results,Tryz.results58,go_sem,r1,r2,r3,r4]; rfl) rfl ?_
   have hg:=zew (w:=w) (w1:=W1) (b:=w.heap.size + 1) (n:=⟨nb,nl⟩) (d:=⟨db,dl⟩) HXW.out HX2.out HBW.out (Nat.le_succ _) HN2.out HD2.out (.bool nb) (.slice a2 nl.length k2) (.bool db) (.slice a3 dl.length k3)
   refine ⟨_,rfl,?_,hg.2.alloc _⟩
   have en:(RInt.mk nb nl) = ofI (putQ X Y).num:=by rw [HNV.out.1,HNV.out.2.1]
   have ed:(RInt.mk db dl) = ofI ((putQ X Y).den:Int):=by rw [HNV.out.2.2.1,HNV.out.2.2.2]
   unfold RatQ
   rw [← en,← ed]
   exact hg.1.to (Kept.alloc New.lt _) (fun k h => ⟨h.1,by rw [z02]; have:=h.2; omega⟩)
 ·have hsg:(z1l Y == 0) = false:=by
   rw [beq_eq_false_iff_ne]
   unfold z1l cmpI
   split
   ·omega
   ·split <;> omega
  have HZ:=hid h0
  clear h0
  go_enter Tryz.func58,Tryz.ntmps58
  go_wp2_with fail
  refine CS.out.mono ?_
  rintro e w1 ⟨rfl,hx1⟩
  rw [← HW0.out] at hx1
  obtain ⟨b1,b2,b3,b4⟩:=HB.out w1 hx1
  have d1:=b1 0 _ rfl
  have d2:=b1 1 _ rfl
  have d3:=b1 2 _ rfl
  have d4:=b1 3 _ rfl
  have HX1:=hid (HX0.out.trans hx1)
  have HX01:=hid hx1
  have CO:=hid (zav (.agg #[.bool xn,.slice ax xs.length cx]) (.agg #[.bool yn,.slice ay ys.length cy]) ⟨xn,xs⟩ ⟨yn,ys⟩ w1 ⟨_,rfl,HX.out.ext HX1.out hS⟩ ⟨_,rfl,HY.out.ext HX1.out hS⟩ (z08 hS HX1.out) hr hr2 (by rw [← HYV.out]; exact HZ.out))
  rw [← HXV.out,← HYV.out,show Rat.divInt X Y = putQ X Y by unfold putQ; rw [if_neg HZ.out]] at CO
  obtain ⟨W1,hW1⟩:∃ W,W = w1:=⟨_,rfl⟩
  have HXW:Hid (Ext w W1):=hid (by rw [hW1]; exact HX1.out)
  have HBW:Hid (w.heap.size + 1 < W1.heap.size):=hid (by rw [hW1]; have h1:=HSZ.out; have h2:=hx1.size; omega)
  clear hx1 b1 b2 b3 b4 c1 c2 c3 c4
  go_wp2_with fail
  refine CO.out.mono ?_
  rintro e w2 ⟨v2,rfl,⟨vn2,vd2,rfl,hn2,hd2⟩,hx2⟩
  rw [← hW1] at hn2 hd2 hx2 HX01
  obtain ⟨b1,b2,b3,b4⟩:=HB.out w2 (HX01.out.trans hx2)
  have e1:=b3 0 _ rfl
  have e2:=b3 1 _ rfl
  have e3:=b3 2 _ rfl
  have e4:=b3 3 _ rfl
  have f1:=b4 0
  have f2:=b4 1
  have f3:=b4 2
  have f4:=b4 3
  clear b1 b2 b3 b4
  have HX2:=hid hx2
  have hz2:w.heap.size + 1 < w2.heap.size:=by have h1:=HBW.out; have h2:=hx2.size; omega
  obtain ⟨nl,hnl⟩:∃ m,m = (ofI (putQ X Y).num).mag:=⟨_,rfl⟩
  obtain ⟨nb,hnb⟩:∃ m,m = (ofI (putQ X Y).num).neg:=⟨_,rfl⟩
  obtain ⟨dl,hdl⟩:∃ m,m = (ofI ((putQ X Y).den:Int)).mag:=⟨_,rfl⟩
  obtain ⟨db,hdb⟩:∃ m,m = (ofI ((putQ X Y).den:Int)).neg:=⟨_,rfl⟩
  rw [← hnl] at hn2
  rw [← hdl] at hd2
  rw [← hnb,← hdb]
  have HN2:=hid hn2
  have HD2:=hid hd2
  have HNV:=hid (And.intro hnl (And.intro hnb (And.intro hdl hdb)))
  obtain ⟨a2,k2,rfl⟩:=hn2.form
  obtain ⟨a3,k3,rfl⟩:=hd2.form
  have HE4:=hid (And.intro e1 (And.intro e2 (And.intro e3 e4)))
  clear hx2 hn2 hd2 hnl hnb hdl hdb
  go_wp2
  all_goals
   have hd4:=fun x y z t => z34 x y z t HE4.out.1 HE4.out.2.1 HE4.out.2.2.1 HE4.out.2.2.2
   have ha:=fun (E:World) (C:Obj) (b i:Nat) (v:Value) (h:E.cell? ⟨b,i,none⟩ = some v) => (Ext.alloc (Ext.refl E) C).cell h
   have r1:=fun C x y z t => ha _ C _ _ _ (hd4 x y z t).1
   have r2:=fun C x y z t => ha _ C _ _ _ (hd4 x y z t).2.1
   have r3:=fun C x y z t => ha _ C _ _ _ (hd4 x y z t).2.2.1
   have r4:=fun C x y z t => ha _ C _ _ _ (hd4 x y z t).2.2.2
   refine bodyPost_ret (by simp [results,Tryz.results58,go_sem,r1,r2,r3,r4]; rfl) rfl ?_
   have hg:=zew (w:=w) (w1:=W1) (b:=w.heap.size + 1) (n:=⟨nb,nl⟩) (d:=⟨db,dl⟩) HXW.out HX2.out HBW.out (Nat.le_succ _) HN2.out HD2.out (.bool nb) (.slice a2 nl.length k2) (.bool db) (.slice a3 dl.length k3)
   refine ⟨_,rfl,?_,hg.2.alloc _⟩
   have en:(RInt.mk nb nl) = ofI (putQ X Y).num:=by rw [HNV.out.1,HNV.out.2.1]
   have ed:(RInt.mk db dl) = ofI ((putQ X Y).den:Int):=by rw [HNV.out.2.2.1,HNV.out.2.2.2]
   unfold RatQ
   rw [← en,← ed]
   exact hg.1.to (Kept.alloc New.lt _) (fun k h => ⟨h.1,by rw [z02]; have:=h.2; omega⟩)
end
end Go.Proofs.YtdcijfhkfhhfjaaGreat
