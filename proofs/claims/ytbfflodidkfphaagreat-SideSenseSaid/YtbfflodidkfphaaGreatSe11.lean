/- A condition's polynomial, the document's. A condition's polynomial of names, the document's. Has a polynomial a variable? The program's division: a step's term, and products with the head. The program's division: what is told behind a step. The program's division: one step. Pseudo-division, plain: what a whole division answers: the identity, degrees, how many steps; with a meter as without one. Pseudo-division of a product by one of its factors, plain: no rest; as many steps as the other factor has terms, at most. Pseudo-division, plain: powers, sizes of what is told, and how the statements' equations come about. The program's division: its beginning, all its steps, and what is told. The program's division: all its steps. The program's division, as it is asked. What layer 9's law knows. What layer 12's law knows. The document's division: all its steps. Layer 12's law: what is too great, the meters of both sides, powers, limbs. The program's powers, and how many limbs. Layer 12's law: the meters of both sides, of limits; none of both, if there are to be none; have both counted the same. Layer 12's statements: what is not too great, and the divisions of it. The arguments of the statements of layers 12 and 16 that are no polynomials: whole numbers, truths, limits. -/
import Derived.Deep.CutBlock
import Derived.Shelf.Abstract
import Derived.Test.YtbfflodidkfphaaGreatSe10
set_option maxRecDepth 100000
set_option maxHeartbeats 16000000
namespace Go.Proofs.YtbfflodidkfphaaGreat
section
open Go.RowKit
def z5y (x:Lay) (nm:ByteArray):Int:=match posS x.pts nm with
 | some i => if i < x.ats.length then (i:Int) else -1
 | none => -1
theorem zms {W:World} {v:Value} {x:Lay} (hx:LayV (Old W) W v x) (nm:ByteArray) :
  Calls Tryz.prog 48 #[v,.string nm] W fun e w' => e = .returned (.int .i64 (z5y x nm)) ∧ Ext W w':=by
 obtain ⟨vp,va,rfl,hp,ha⟩:=hx
 have HP:=hid hp
 have hlp:=hp.len_le
 have hla:=ha.len_le
 obtain ⟨ap,cp,rfl⟩:=hp.form
 obtain ⟨aa,ca,rfl⟩:=ha.form
 obtain ⟨np,hnp⟩:∃ n,n = x.pts.length:=⟨_,rfl⟩
 obtain ⟨na,hna⟩:∃ n,n = x.ats.length:=⟨_,rfl⟩
 rw [← hnp] at HP hlp ⊢
 rw [← hna] at hla ⊢
 have HNP:=hid hnp
 have HNA:=hid hna
 have HB:=hid (fun (Y:World) (hY:Ext (W.alloc (.cells #[.slice ap np cp,.slice aa na ca,.int .i64 x.par,.int .i64 x.vrs] 35)) Y) => z94 W (.slice ap np cp) (.slice aa na ca) (.int .i64 x.par) (.int .i64 x.vrs) 35 hY)
 have HX0:=hid (Ext.alloc (Ext.refl W) (.cells #[.slice ap np cp,.slice aa na ca,.int .i64 x.par,.int .i64 x.vrs] 35))
 obtain ⟨w0,hw0⟩:∃ Y,Y = W.alloc (.cells #[.slice ap np cp,.slice aa na ca,.int .i64 x.par,.int .i64 x.vrs] 35):=⟨_,rfl⟩
 rw [← hw0] at HB HX0
 clear hp ha hnp hna
 go_enter Tryz.func48,Tryz.ntmps48
 go_wp2
 rw [← hw0]
 clear hw0
 go_loopw [5] (fun i wr => ∃ k:Nat,k ≤ np ∧ i = .int .i64 k ∧ Ext w0 wr ∧ Hid (∀ y ∈ x.pts.take k,y ≠ nm)) (fun i _ => np - (intOf i).toNat)
 case atStart => exact ⟨0,Nat.zero_le _,rfl,Ext.refl _,fun y hy => by simp at hy⟩
 case round =>
  obtain ⟨k,hk,rfl,hxr,HE⟩:=hrel
  have HX:=hid hxr
  obtain ⟨c0,c1⟩:=HB.out _ hxr
  by_cases hlt:k < np
  ·obtain ⟨y,hy⟩:=z00 (l:=x.pts) (j:=k) (by rw [← HNP.out]; exact hlt)
   obtain ⟨b1,o1,rfl,-,hq1,hq2,-,hq3⟩:=(HP.out.to (Kept.ext (HX0.out.trans hxr) (fun _ h => h)) (z2b (HX0.out.trans hxr))).cellAt hy
   have HY:=hid hy
   clear hy hxr
   by_cases he:y = nm
   ·have q1:=z9z he
    have HPS:Hid (posS x.pts nm = some k):=hid (z92 (by rw [HY.out,he]) HE.out)
    clear he
    by_cases hkn:k < na
    ·have HI:Hid (z5y x nm = (k:Int)):=hid (by unfold z5y; rw [HPS.out]; exact if_pos (by rw [← HNA.out]; exact hkn))
     have q2:decide (k < na) = true:=decide_eq_true hkn
     go_wp2
     all_goals
      go_ret
      exact ⟨by rw [HI.out]; rfl,HX0.out.trans HX.out⟩
    ·have HI:Hid (z5y x nm = -1):=hid (by unfold z5y; rw [HPS.out]; exact if_neg (by rw [← HNA.out]; exact hkn))
     have q2:decide (k < na) = false:=decide_eq_false hkn
     clear hkn
     go_wp2
     all_goals
      go_ret
      exact ⟨by rw [HI.out]; rfl,HX0.out.trans HX.out⟩
   ·have q1:=za0 he
    have H0:=hid he
    clear he
    go_wp2
    go_roundw
    case rel => exact ⟨k + 1,by omega,by go_num,HX.out,fun z hz => by
     rw [List.take_add_one,HY.out] at hz
     rcases List.mem_append.1 hz with hz | hz
     ·exact HE.out z hz
     ·have:z = y:=by simpa using hz
      rw [this]; exact H0.out⟩
    case measure => simp only [intOf]; omega
  ·obtain rfl:np = k:=by omega
   have HI:Hid (z5y x nm = -1):=hid (by
    have h:=HE.out
    rw [List.take_of_length_le (by rw [← HNP.out]; exact Nat.le_refl _)] at h
    unfold z5y; rw [z7k h])
   clear hxr
   go_wp2
   all_goals
    go_ret
    exact ⟨by rw [HI.out]; rfl,HX0.out.trans HX.out⟩
theorem zpq (x:Lay) (nm:ByteArray):(z5y x nm = -1 ∧ z2d x nm = none) ∨ ∃ (i:Nat) (c:Int × Int),z5y x nm = (i:Int) ∧ x.ats[i]? = some c ∧ z2d x nm = some c:=by
 unfold z5y z2d
 cases h:posS x.pts nm with
 | none => exact .inl ⟨rfl,rfl⟩
 | some i =>
  by_cases hi:i < x.ats.length
  ·obtain ⟨c,hc⟩:=z00 hi
   exact .inr ⟨i,c,if_pos hi,hc,by rw [Option.bind_some,hc]⟩
  ·exact .inl ⟨if_neg hi,by rw [Option.bind_some,List.getElem?_eq_none (by omega)]⟩
end
section
open Go.RowKit
theorem zh7 {x:Lay} {wd:ByteArray} {names:List ByteArray} {a:Nat} {cs:List (Int × Int)} (h1:askW wd = some a) (h2:z0n x names = some cs):z2h x wd names = if names.length = a then (0,z30 wd cs) else (13,[]):=by
 unfold z2h; rw [h1,h2]
theorem zpr {x:Lay} {wd:ByteArray} {names:List ByteArray} (h2:z0n x names = none):z2h x wd names = (5,[]):=by
 unfold z2h; rw [h2]; cases askW wd <;> rfl
theorem z54 {x:Lay}:∀ {l:List ByteArray} {k:Nat},z0n x (l.take k) = none → z0n x l = none
 | [],k,h => by simp [z0n] at h
 | m :: r,0,h => by simp [z0n] at h
 | m :: r,k + 1,h => by
  rw [List.take_succ_cons] at h
  unfold z0n at h ⊢
  cases hm:z2d x m with
  | none => rfl
  | some c =>
   rw [hm] at h
   cases hr:z0n x (r.take k) with
   | none => rw [z54 hr]
   | some l => rw [hr] at h; cases h
theorem z7o {W:World} {v vn:Value} {x:Lay} {wd:ByteArray} {names:List ByteArray} (hx:LayV (Old W) W v x) (hok:∀ c ∈ x.ats,Ok2 c) (hn:Strs (Old W) W vn names) (hnl:names.length ≤ 1000) :
  Calls Tryz.prog 17 #[v,.string wd,vn] W fun e w' => ∃ v',e = .returned (.tuple #[v',.int .i64 (z2h x wd names).1]) ∧ z0h (Old w') w' v' (ofP (z2h x wd names).2) ∧ Ext W w':=by
 have HXL:=hid hx
 have HOK:=hid hok
 obtain ⟨vp,va,rfl,hp,ha⟩:=hx
 have HA:=hid ha
 have HN:=hid hn
 have hla:=ha.len_le
 obtain ⟨ap,cp,rfl⟩:=hp.form
 obtain ⟨aa,ca,rfl⟩:=ha.form
 obtain ⟨an,cn,rfl⟩:=hn.form
 obtain ⟨n,hnn⟩:∃ n,n = names.length:=⟨_,rfl⟩
 obtain ⟨np,hnp⟩:∃ n,n = x.pts.length:=⟨_,rfl⟩
 obtain ⟨na,hna⟩:∃ n,n = x.ats.length:=⟨_,rfl⟩
 rw [← hnn] at HN hnl ⊢
 rw [← hna] at HA HXL hla ⊢
 rw [← hnp] at HXL ⊢
 have HNN:=hid hnn
 have HNA:=hid hna
 obtain ⟨w0,hw0⟩:∃ Y,Y = W.alloc (.cells #[.slice ap np cp,.slice aa na ca,.int .i64 x.par,.int .i64 x.vrs] 35):=⟨_,rfl⟩
 have HX0:Hid (Ext W w0):=hid (by rw [hw0]; exact Ext.alloc (Ext.refl _) _)
 have HB:=hid (fun (Y:World) (hY:Ext w0 Y) => by
  rw [hw0] at hY
  have k0:∀ (i:Nat) (u:Value),#[Value.slice ap np cp,.slice aa na ca,.int .i64 x.par,.int .i64 x.vrs][i]? = some u → Y.cell? ⟨W.heap.size,i,none⟩ = some u:=fun i u hu => hY.cell (z02 W _ _ rfl hu)
  exact And.intro (k0 0 _ rfl) (And.intro (k0 1 _ rfl) (And.intro (k0 2 _ rfl) (k0 3 _ rfl))))
 clear hp ha hn hok hnn hnp hna
 cases haw:askW wd with
 | none =>
  have HE:Hid (z2h x wd names = (5,[])):=hid (by unfold z2h; rw [haw])
  have h1:wd ≠ z0z:=fun e => by rw [e] at haw; cases haw
  have h2:wd ≠ z1a:=fun e => by rw [e] at haw; cases haw
  have h3:wd ≠ z1j:=fun e => by rw [e] at haw; cases haw
  have h4:wd ≠ wDot:=fun e => by rw [e] at haw; cases haw
  have q1:=z2m h1
  have q2:=z5f h2
  have q3:=za8 h3
  have q4:=zud h4
  rw [hw0] at HX0
  clear h1 h2 h3 h4 haw hw0
  go_enter Tryz.func17,Tryz.ntmps17
  go_wp2
  all_goals
   go_ret2
   rw [HE.out]
   exact ⟨_,rfl,z0h.nilv _ _ _ _ (by decide),HX0.out⟩
 | some a =>
  have HAW:=hid haw
  have HW0:=hid hw0
  clear hw0 haw
  go_enter Tryz.func17,Tryz.ntmps17
  go_upto_block 0 with fail
  rw [← HW0.out]
  go_cut [8] (fun u8 wx => u8 = .int .i64 (a:Int) ∧ wx = w0)
  case first =>
   have hask:=HAW.out
   by_cases hU:wd = z0z
   ·obtain rfl:2 = a:=by unfold askW at hask; rw [if_pos hU] at hask; exact Option.some.inj hask
    have q1:=z7n hU
    clear hU hask
    go_wp2
    go_meet
    exact ⟨rfl,rfl⟩
   ·by_cases hP:wd = z1a
    ·obtain rfl:3 = a:=by unfold askW at hask; rw [if_neg hU,if_pos hP] at hask; exact Option.some.inj hask
     have q1:=z2m hU
     have q2:=za7 hP
     clear hU hP hask
     go_wp2
     go_meet
     exact ⟨rfl,rfl⟩
    ·by_cases hC:wd = z1j
     ·obtain rfl:4 = a:=by unfold askW at hask; rw [if_neg hU,if_neg hP,if_pos hC] at hask; exact Option.some.inj hask
      have q1:=z2m hU
      have q2:=z5f hP
      have q3:=zc0 hC
      clear hU hP hC hask
      go_wp2
      go_meet
      exact ⟨rfl,rfl⟩
     ·have hD:wd = wDot:=by
       unfold askW at hask
       rw [if_neg hU,if_neg hP,if_neg hC] at hask
       by_cases h:wd = wDot
       ·exact h
       ·rw [if_neg h] at hask; cases hask
      obtain rfl:4 = a:=by unfold askW at hask; rw [if_neg hU,if_neg hP,if_neg hC,if_pos hD] at hask; exact Option.some.inj hask
      have q1:=z2m hU
      have q2:=z5f hP
      have q3:=za8 hC
      have q4:=zts hD
      clear hU hP hC hD hask
      go_wp2
      go_meet
      exact ⟨rfl,rfl⟩
  case rest =>
   obtain ⟨rfl,e⟩:=hcut
   have e2:=e.symm
   subst e2
   clear e
   go_wp2
   go_loopw [9,10] (fun s i wr => ∃ (k:Nat) (cs:List (Int × Int)),k ≤ n ∧ i = .int .i64 k ∧ Hid (z0n x (names.take k) = some cs) ∧ Hid (wr.ownsRow w0.heap.size 87 2 s cs.length (z3d cs)) ∧ Ext w0 wr ∧ Hid (cs.length ≤ k)) (fun _ i _ => n - (intOf i).toNat)
   case atStart => exact ⟨0,[],Nat.zero_le _,rfl,hid rfl,hid (World.ownsRow_nil _ _ _ _),Ext.refl _,hid (Nat.le_refl _)⟩
   case round =>
    obtain ⟨k,cs,hk,rfl,HPS,HO,hxr,HCL⟩:=hrel
    have HX:=hid hxr
    have HXW:=hid (HX0.out.trans hxr)
    by_cases hlt:k < n
    ·obtain ⟨nm,hnm⟩:=z00 (l:=names) (j:=k) (by rw [← HNN.out]; exact hlt)
     obtain ⟨b1,o1,rfl,-,hq1,hq2,-,hq3⟩:=(HN.out.to (Kept.ext HXW.out (fun _ h => h)) (z2b HXW.out)).cellAt hnm
     have HTK:Hid (names.take (k + 1) = names.take k ++ [nm]):=hid (by rw [List.take_add_one,hnm]; rfl)
     have HIX:=hid (zms (x:=x) (HXL.out.on ((HXW.out.trans (Ext.drew (Ext.refl wr))))) nm)
     have HCC:Hid (∀ Y,Ext wr Y → Y.cell? ⟨W.heap.size,0,none⟩ = some (.slice ap np cp) ∧ Y.cell? ⟨W.heap.size,1,none⟩ = some (.slice aa na ca) ∧ Y.cell? ⟨W.heap.size,2,none⟩ = some (.int .i64 x.par) ∧ Y.cell? ⟨W.heap.size,3,none⟩ = some (.int .i64 x.vrs) ∧ Y.cell? ⟨b1,o1 + k,none⟩ = some (.string nm)):=hid (fun Y h => by
      obtain ⟨c0,c1,c2,c3⟩:=HB.out Y (HX.out.trans h)
      exact ⟨c0,c1,c2,c3,h.cell hq3⟩)
     have S0:=HCC.out wr.drew (Ext.drew (Ext.refl _))
     have HO0:=HO
     clear hnm hxr hq3
     go_upto_region 15 with fail
     go_cut [11] (fun u11 wx => u11 = .int .i64 (z5y x nm) ∧ Ext wr wx)
     case first =>
      go_region_held3 (fun Y => Y.cell? ⟨W.heap.size,0,none⟩ = some (.slice ap np cp) ∧ Y.cell? ⟨W.heap.size,1,none⟩ = some (.slice aa na ca) ∧ Y.cell? ⟨W.heap.size,2,none⟩ = some (.int .i64 x.par) ∧ Y.cell? ⟨W.heap.size,3,none⟩ = some (.int .i64 x.vrs) ∧ Y.cell? ⟨b1,o1 + k,none⟩ = some (.string nm)) (first | exact S0 | exact S1)
       (first | (go_at_call 48; (with_reducible refine HIX.out.mono ?_); rintro e w1 ⟨rfl,hx1⟩; have HX1:=hid ((Ext.drew (Ext.refl wr)).trans hx1); have S1:=HCC.out _ HX1.out; clear hx1) | fail)
      all_goals
       go_wp2_with fail
       go_meet
       exact ⟨rfl,HX1.out⟩
     case rest =>
      obtain ⟨rfl,hx1⟩:=hcut
      have HX1':=hid hx1
      have HX1:=hid (HX.out.trans hx1)
      have HO1:=hid (z0o HO.out hx1)
      obtain ⟨d0,d1,d2,d3⟩:=HB.out _ HX1.out
      have HBS2:Hid (w0.heap.size ≤ wc.heap.size):=hid HX1.out.size
      clear hx1
      rcases zpq x nm with ⟨hI,hP⟩ | ⟨i,c,hI,hc,hP⟩
      ·rw [hI]
       have HE:Hid (z2h x wd names = (5,[])):=hid (zpr (z54 (k:=k + 1) (by rw [HTK.out,z2g,HPS.out,hP])))
       clear hI hP
       go_wp2
       all_goals
        go_ret2
        rw [HE.out]
        exact ⟨_,rfl,z0h.nilv _ _ _ _ (by decide),HX0.out.trans HX1.out⟩
      ·rw [hI]
       have hi0:(0:Int) ≤ (i:Int):=by omega
       have hia:i < na:=by rw [HNA.out]; exact z03 hc
       obtain ⟨b2,o2,rfl,-,hq4,hq5,-,-,z0,z1⟩:=(HA.out.on (HX0.out.trans HX1.out)).cellAt hc
       have HPL:Hid (z0n x (names.take (k + 1)) = some (cs ++ [c])):=hid (by rw [HTK.out,z2g,HPS.out,hP])
       obtain ⟨u,z⟩:=c
       simp only at z0 z1 HPL
       have HDL:Hid (cs.length ≤ 1000000000):=hid (by have:=HCL.out; omega)
       clear hI hP hc
       go_wp2_with (at_builtin; refine z09 _ rfl (.tmp 35) (.tmp 41) 33 rfl w0.heap.size 87 (.agg #[.int .i64 0,.int .i64 0]) 2 16 Tryz.underlying33 Tryz.infoCoord rfl (by decide) _ _ _ rfl HO1.out #[.int .i64 u,.int .i64 z] rfl (z9x _ _) rfl HDL.out (by decide) HBS2.out ?_; intro v1 w2 hown hg _; have HOW:=hid hown; have HG:=hid hg; clear hown hg)
       go_roundw
       case rel =>
        refine ⟨k + 1,cs ++ [(u,z)],by omega,by go_num,hid HPL.out,hid ?_,z1f HX1.out HO1.out HG.out,hid (by have:=HCL.out; rw [List.length_append,List.length_singleton]; omega)⟩
        rw [z4h,List.length_append]
        have h1:=HOW.out
        simpa [z3d] using h1
       case measure => simp only [intOf]; omega
    ·obtain rfl:n = k:=by omega
     have HTN:Hid (names.take n = names):=hid (by rw [HNN.out]; exact List.take_length)
     have HPN:Hid (z0n x names = some cs):=hid (by rw [← HTN.out]; exact HPS.out)
     have HOC:Hid (∀ c ∈ cs,Ok2 c):=hid (fun c hc => HOK.out c (z3j HPN.out c hc))
     have hcl:cs.length = n:=by rw [HNN.out]; exact z70 HPN.out
     have hsp:=(z67 HO.out (fun c hc => by have h:=HOC.out c hc; unfold Ok2 at h; unfold z40; omega)).to (S':=Old wr) (Kept.refl _ _) (fun _ h => h.2)
     obtain ⟨a2,c2,hsf⟩:=hsp.form
     subst hsf
     rw [hcl] at hsp
     have HSP:=hid hsp
     have HCLN:=hid hcl
     rw [hcl]
     clear hxr hsp hcl
     by_cases hna:n = a
     ·have HE:Hid (z2h x wd names = (0,z30 wd cs)):=hid (by rw [zh7 HAW.out HPN.out]; exact if_pos (by rw [← HNN.out]; exact hna))
      subst hna
      have qe:((n:Int) != (n:Int)) = false:=by simp
      have hcl:=HCLN.out
      by_cases hU:wd = z0z
      ·have hn2:cs.length = 2:=by have h:=HAW.out; unfold askW at h; rw [if_pos hU] at h; have:=Option.some.inj h; omega
       obtain rfl:2 = n:=by have:=HCLN.out; omega
       have HE2:Hid (z30 wd cs = dotP (cs.getD 0 (1,1)) (cs.getD 1 (1,1)) (cs.getD 0 (1,1)) (cs.getD 1 (1,1))):=hid (by unfold z30; rw [if_pos hU])
       have C:=hid (fun (Y:World) => zmr Y (z23 HOC.out 0) (z23 HOC.out 1) (z23 HOC.out 0) (z23 HOC.out 1))
       have qUnlike:=z7n hU
       obtain ⟨b0,o0,e0,-,hq0,hr0,-,-,x0,y0⟩:=HSP.out.cellAt (z14 (cs:=cs) (j:=0) (by omega))
       obtain ⟨b1,o1,e1,-,hq1,hr1,-,-,x1,y1⟩:=HSP.out.cellAt (z14 (cs:=cs) (j:=1) (by omega))
       subst e0
       obtain ⟨rfl,rfl⟩:b0 = b1 ∧ o0 = o1:=by simpa using e1
       obtain ⟨c0,hc0⟩:∃ c,c = cs.getD 0 (1,1):=⟨_,rfl⟩
       obtain ⟨c1,hc1⟩:∃ c,c = cs.getD 1 (1,1):=⟨_,rfl⟩
       rw [← hc0,← hc1] at C HE2
       rw [← hc0] at x0 y0
       rw [← hc1] at x1 y1
       obtain ⟨p0,r0⟩:=c0
       obtain ⟨p1,r1⟩:=c1
       simp only at x0 y0 x1 y1 C
       have HFC:=hid (z4q wd HOC.out)
       rw [HE2.out] at HFC
       clear hU hn2 hcl hc0 hc1 e1
       have HCL2:Hid (∀ Y,Ext wr Y → Y.cell? ⟨b0,o0,none⟩ = some (.int .i64 p0) ∧ Y.cell? ⟨b0,o0 + 1,none⟩ = some (.int .i64 r0) ∧ Y.cell? ⟨b0,o0 + 2,none⟩ = some (.int .i64 p1) ∧ Y.cell? ⟨b0,o0 + 3,none⟩ = some (.int .i64 r1)):=hid (fun Y h => ⟨h.cell x0,h.cell y0,h.cell x1,h.cell y1⟩)
       have S0:=fun (T:TypeId) => HCL2.out _ (((Ext.refl wr).alloc (.cells #[] T)).drew)
       go_wp2
       go_region_held3 (fun Y => Y.cell? ⟨b0,o0,none⟩ = some (.int .i64 p0) ∧ Y.cell? ⟨b0,o0 + 1,none⟩ = some (.int .i64 r0) ∧ Y.cell? ⟨b0,o0 + 2,none⟩ = some (.int .i64 p1) ∧ Y.cell? ⟨b0,o0 + 3,none⟩ = some (.int .i64 r1)) (first | exact S0 _ | exact S1) (first | (go_at_call 49; (with_reducible refine (C.out _).mono ?_); rintro e w5 ⟨v5,rfl,hp5,hx5⟩; have HX5:=hid ((((Ext.refl wr).alloc _).drew).trans hx5); have S1:=HCL2.out _ HX5.out; have HP5:=hid hp5; obtain ⟨a5,k5,rfl⟩:=hp5.form; clear hx5 hp5) | fail)
       all_goals
        go_wp2_with (go_at_call 20; (with_reducible refine (z8a HP5.out HFC.out (by decide) (by decide)).mono ?_); rintro e w6 ⟨v6,rfl,hp6,hx6⟩; have HX6:=hid ((HXW.out.trans HX5.out).trans hx6); have HP6:=hid hp6; obtain ⟨a6,k6,rfl⟩:=hp6.form; clear hx6 hp6)
        go_ret2
        rw [HE.out]
        exact ⟨_,rfl,by rw [HE2.out]; exact HP6.out,HX6.out⟩
      ·by_cases hP:wd = z1a
       ·have hn2:cs.length = 3:=by have h:=HAW.out; unfold askW at h; rw [if_neg hU,if_pos hP] at h; have:=Option.some.inj h; omega
        obtain rfl:3 = n:=by have:=HCLN.out; omega
        have HE2:Hid (z30 wd cs = z53 (cs.getD 0 (1,1)) (cs.getD 1 (1,1)) (cs.getD 0 (1,1)) (cs.getD 2 (1,1))):=hid (by unfold z30; rw [if_neg hU,if_pos hP])
        have C:=hid (fun (Y:World) => ze0 Y (z23 HOC.out 0) (z23 HOC.out 1) (z23 HOC.out 0) (z23 HOC.out 2))
        have qUnlike:=z2m hU
        have qApart:=za7 hP
        obtain ⟨b0,o0,e0,-,hq0,hr0,-,-,x0,y0⟩:=HSP.out.cellAt (z14 (cs:=cs) (j:=0) (by omega))
        obtain ⟨b1,o1,e1,-,hq1,hr1,-,-,x1,y1⟩:=HSP.out.cellAt (z14 (cs:=cs) (j:=1) (by omega))
        obtain ⟨b2,o2,e2,-,hq2,hr2,-,-,x2,y2⟩:=HSP.out.cellAt (z14 (cs:=cs) (j:=2) (by omega))
        subst e0
        obtain ⟨rfl,rfl⟩:b0 = b1 ∧ o0 = o1:=by simpa using e1
        obtain ⟨rfl,rfl⟩:b0 = b2 ∧ o0 = o2:=by simpa using e2
        obtain ⟨c0,hc0⟩:∃ c,c = cs.getD 0 (1,1):=⟨_,rfl⟩
        obtain ⟨c1,hc1⟩:∃ c,c = cs.getD 1 (1,1):=⟨_,rfl⟩
        obtain ⟨c2,hc2⟩:∃ c,c = cs.getD 2 (1,1):=⟨_,rfl⟩
        rw [← hc0,← hc1,← hc2] at C HE2
        rw [← hc0] at x0 y0
        rw [← hc1] at x1 y1
        rw [← hc2] at x2 y2
        obtain ⟨p0,r0⟩:=c0
        obtain ⟨p1,r1⟩:=c1
        obtain ⟨p2,r2⟩:=c2
        simp only at x0 y0 x1 y1 x2 y2 C
        have HFC:=hid (z4q wd HOC.out)
        rw [HE2.out] at HFC
        clear hU hP hn2 hcl hc0 hc1 hc2 e1 e2
        have HCL2:Hid (∀ Y,Ext wr Y → Y.cell? ⟨b0,o0,none⟩ = some (.int .i64 p0) ∧ Y.cell? ⟨b0,o0 + 1,none⟩ = some (.int .i64 r0) ∧ Y.cell? ⟨b0,o0 + 2,none⟩ = some (.int .i64 p1) ∧ Y.cell? ⟨b0,o0 + 3,none⟩ = some (.int .i64 r1) ∧ Y.cell? ⟨b0,o0 + 4,none⟩ = some (.int .i64 p2) ∧ Y.cell? ⟨b0,o0 + 5,none⟩ = some (.int .i64 r2)):=hid (fun Y h => ⟨h.cell x0,h.cell y0,h.cell x1,h.cell y1,h.cell x2,h.cell y2⟩)
        have S0:=fun (T:TypeId) => HCL2.out _ (((Ext.refl wr).alloc (.cells #[] T)).drew)
        go_wp2
        go_region_held3 (fun Y => Y.cell? ⟨b0,o0,none⟩ = some (.int .i64 p0) ∧ Y.cell? ⟨b0,o0 + 1,none⟩ = some (.int .i64 r0) ∧ Y.cell? ⟨b0,o0 + 2,none⟩ = some (.int .i64 p1) ∧ Y.cell? ⟨b0,o0 + 3,none⟩ = some (.int .i64 r1) ∧ Y.cell? ⟨b0,o0 + 4,none⟩ = some (.int .i64 p2) ∧ Y.cell? ⟨b0,o0 + 5,none⟩ = some (.int .i64 r2)) (first | exact S0 _ | exact S1) (first | (go_at_call 50; (with_reducible refine (C.out _).mono ?_); rintro e w5 ⟨v5,rfl,hp5,hx5⟩; have HX5:=hid ((((Ext.refl wr).alloc _).drew).trans hx5); have S1:=HCL2.out _ HX5.out; have HP5:=hid hp5; obtain ⟨a5,k5,rfl⟩:=hp5.form; clear hx5 hp5) | fail)
        all_goals
         go_wp2_with (go_at_call 20; (with_reducible refine (z8a HP5.out HFC.out (by decide) (by decide)).mono ?_); rintro e w6 ⟨v6,rfl,hp6,hx6⟩; have HX6:=hid ((HXW.out.trans HX5.out).trans hx6); have HP6:=hid hp6; obtain ⟨a6,k6,rfl⟩:=hp6.form; clear hx6 hp6)
         go_ret2
         rw [HE.out]
         exact ⟨_,rfl,by rw [HE2.out]; exact HP6.out,HX6.out⟩
       ·by_cases hC:wd = z1j
        ·have hn2:cs.length = 4:=by have h:=HAW.out; unfold askW at h; rw [if_neg hU,if_neg hP,if_pos hC] at h; have:=Option.some.inj h; omega
         obtain rfl:4 = n:=by have:=HCLN.out; omega
         have HE2:Hid (z30 wd cs = z53 (cs.getD 0 (1,1)) (cs.getD 1 (1,1)) (cs.getD 2 (1,1)) (cs.getD 3 (1,1))):=hid (by unfold z30; rw [if_neg hU,if_neg hP,if_pos hC])
         have C:=hid (fun (Y:World) => ze0 Y (z23 HOC.out 0) (z23 HOC.out 1) (z23 HOC.out 2) (z23 HOC.out 3))
         have qUnlike:=z2m hU
         have qApart:=z5f hP
         have qCross:=zc0 hC
         obtain ⟨b0,o0,e0,-,hq0,hr0,-,-,x0,y0⟩:=HSP.out.cellAt (z14 (cs:=cs) (j:=0) (by omega))
         obtain ⟨b1,o1,e1,-,hq1,hr1,-,-,x1,y1⟩:=HSP.out.cellAt (z14 (cs:=cs) (j:=1) (by omega))
         obtain ⟨b2,o2,e2,-,hq2,hr2,-,-,x2,y2⟩:=HSP.out.cellAt (z14 (cs:=cs) (j:=2) (by omega))
         obtain ⟨b3,o3,e3,-,hq3,hr3,-,-,x3,y3⟩:=HSP.out.cellAt (z14 (cs:=cs) (j:=3) (by omega))
         subst e0
         obtain ⟨rfl,rfl⟩:b0 = b1 ∧ o0 = o1:=by simpa using e1
         obtain ⟨rfl,rfl⟩:b0 = b2 ∧ o0 = o2:=by simpa using e2
         obtain ⟨rfl,rfl⟩:b0 = b3 ∧ o0 = o3:=by simpa using e3
         obtain ⟨c0,hc0⟩:∃ c,c = cs.getD 0 (1,1):=⟨_,rfl⟩
         obtain ⟨c1,hc1⟩:∃ c,c = cs.getD 1 (1,1):=⟨_,rfl⟩
         obtain ⟨c2,hc2⟩:∃ c,c = cs.getD 2 (1,1):=⟨_,rfl⟩
         obtain ⟨c3,hc3⟩:∃ c,c = cs.getD 3 (1,1):=⟨_,rfl⟩
         rw [← hc0,← hc1,← hc2,← hc3] at C HE2
         rw [← hc0] at x0 y0
         rw [← hc1] at x1 y1
         rw [← hc2] at x2 y2
         rw [← hc3] at x3 y3
         obtain ⟨p0,r0⟩:=c0
         obtain ⟨p1,r1⟩:=c1
         obtain ⟨p2,r2⟩:=c2
         obtain ⟨p3,r3⟩:=c3
         simp only at x0 y0 x1 y1 x2 y2 x3 y3 C
         have HFC:=hid (z4q wd HOC.out)
         rw [HE2.out] at HFC
         clear hU hP hC hn2 hcl hc0 hc1 hc2 hc3 e1 e2 e3
         have HCL2:Hid (∀ Y,Ext wr Y → Y.cell? ⟨b0,o0,none⟩ = some (.int .i64 p0) ∧ Y.cell? ⟨b0,o0 + 1,none⟩ = some (.int .i64 r0) ∧ Y.cell? ⟨b0,o0 + 2,none⟩ = some (.int .i64 p1) ∧ Y.cell? ⟨b0,o0 + 3,none⟩ = some (.int .i64 r1) ∧ Y.cell? ⟨b0,o0 + 4,none⟩ = some (.int .i64 p2) ∧ Y.cell? ⟨b0,o0 + 5,none⟩ = some (.int .i64 r2) ∧ Y.cell? ⟨b0,o0 + 6,none⟩ = some (.int .i64 p3) ∧ Y.cell? ⟨b0,o0 + 7,none⟩ = some (.int .i64 r3)):=hid (fun Y h => ⟨h.cell x0,h.cell y0,h.cell x1,h.cell y1,h.cell x2,h.cell y2,h.cell x3,h.cell y3⟩)
         have S0:=fun (T:TypeId) => HCL2.out _ (((Ext.refl wr).alloc (.cells #[] T)).drew)
         go_wp2
         go_region_held3 (fun Y => Y.cell? ⟨b0,o0,none⟩ = some (.int .i64 p0) ∧ Y.cell? ⟨b0,o0 + 1,none⟩ = some (.int .i64 r0) ∧ Y.cell? ⟨b0,o0 + 2,none⟩ = some (.int .i64 p1) ∧ Y.cell? ⟨b0,o0 + 3,none⟩ = some (.int .i64 r1) ∧ Y.cell? ⟨b0,o0 + 4,none⟩ = some (.int .i64 p2) ∧ Y.cell? ⟨b0,o0 + 5,none⟩ = some (.int .i64 r2) ∧ Y.cell? ⟨b0,o0 + 6,none⟩ = some (.int .i64 p3) ∧ Y.cell? ⟨b0,o0 + 7,none⟩ = some (.int .i64 r3)) (first | exact S0 _ | exact S1) (first | (go_at_call 50; (with_reducible refine (C.out _).mono ?_); rintro e w5 ⟨v5,rfl,hp5,hx5⟩; have HX5:=hid ((((Ext.refl wr).alloc _).drew).trans hx5); have S1:=HCL2.out _ HX5.out; have HP5:=hid hp5; obtain ⟨a5,k5,rfl⟩:=hp5.form; clear hx5 hp5) | fail)
         all_goals
          go_wp2_with (go_at_call 20; (with_reducible refine (z8a HP5.out HFC.out (by decide) (by decide)).mono ?_); rintro e w6 ⟨v6,rfl,hp6,hx6⟩; have HX6:=hid ((HXW.out.trans HX5.out).trans hx6); have HP6:=hid hp6; obtain ⟨a6,k6,rfl⟩:=hp6.form; clear hx6 hp6)
          go_ret2
          rw [HE.out]
          exact ⟨_,rfl,by rw [HE2.out]; exact HP6.out,HX6.out⟩
        ·have hD:wd = wDot:=by
          have hask:=HAW.out
          unfold askW at hask
          rw [if_neg hU,if_neg hP,if_neg hC] at hask
          by_cases h:wd = wDot
          ·exact h
          ·rw [if_neg h] at hask; cases hask
         have hn2:cs.length = 4:=by have h:=HAW.out; unfold askW at h; rw [if_neg hU,if_neg hP,if_neg hC,if_pos hD] at h; have:=Option.some.inj h; omega
         obtain rfl:4 = n:=by have:=HCLN.out; omega
         have HE2:Hid (z30 wd cs = dotP (cs.getD 0 (1,1)) (cs.getD 1 (1,1)) (cs.getD 2 (1,1)) (cs.getD 3 (1,1))):=hid (by unfold z30; rw [if_neg hU,if_neg hP,if_neg hC])
         have C:=hid (fun (Y:World) => zmr Y (z23 HOC.out 0) (z23 HOC.out 1) (z23 HOC.out 2) (z23 HOC.out 3))
         have qUnlike:=z2m hU
         have qApart:=z5f hP
         have qCross:=za8 hC
         obtain ⟨b0,o0,e0,-,hq0,hr0,-,-,x0,y0⟩:=HSP.out.cellAt (z14 (cs:=cs) (j:=0) (by omega))
         obtain ⟨b1,o1,e1,-,hq1,hr1,-,-,x1,y1⟩:=HSP.out.cellAt (z14 (cs:=cs) (j:=1) (by omega))
         obtain ⟨b2,o2,e2,-,hq2,hr2,-,-,x2,y2⟩:=HSP.out.cellAt (z14 (cs:=cs) (j:=2) (by omega))
         obtain ⟨b3,o3,e3,-,hq3,hr3,-,-,x3,y3⟩:=HSP.out.cellAt (z14 (cs:=cs) (j:=3) (by omega))
         subst e0
         obtain ⟨rfl,rfl⟩:b0 = b1 ∧ o0 = o1:=by simpa using e1
         obtain ⟨rfl,rfl⟩:b0 = b2 ∧ o0 = o2:=by simpa using e2
         obtain ⟨rfl,rfl⟩:b0 = b3 ∧ o0 = o3:=by simpa using e3
         obtain ⟨c0,hc0⟩:∃ c,c = cs.getD 0 (1,1):=⟨_,rfl⟩
         obtain ⟨c1,hc1⟩:∃ c,c = cs.getD 1 (1,1):=⟨_,rfl⟩
         obtain ⟨c2,hc2⟩:∃ c,c = cs.getD 2 (1,1):=⟨_,rfl⟩
         obtain ⟨c3,hc3⟩:∃ c,c = cs.getD 3 (1,1):=⟨_,rfl⟩
         rw [← hc0,← hc1,← hc2,← hc3] at C HE2
         rw [← hc0] at x0 y0
         rw [← hc1] at x1 y1
         rw [← hc2] at x2 y2
         rw [← hc3] at x3 y3
         obtain ⟨p0,r0⟩:=c0
         obtain ⟨p1,r1⟩:=c1
         obtain ⟨p2,r2⟩:=c2
         obtain ⟨p3,r3⟩:=c3
         simp only at x0 y0 x1 y1 x2 y2 x3 y3 C
         have HFC:=hid (z4q wd HOC.out)
         rw [HE2.out] at HFC
         clear hU hP hC hD hn2 hcl hc0 hc1 hc2 hc3 e1 e2 e3
         have HCL2:Hid (∀ Y,Ext wr Y → Y.cell? ⟨b0,o0,none⟩ = some (.int .i64 p0) ∧ Y.cell? ⟨b0,o0 + 1,none⟩ = some (.int .i64 r0) ∧ Y.cell? ⟨b0,o0 + 2,none⟩ = some (.int .i64 p1) ∧ Y.cell? ⟨b0,o0 + 3,none⟩ = some (.int .i64 r1) ∧ Y.cell? ⟨b0,o0 + 4,none⟩ = some (.int .i64 p2) ∧ Y.cell? ⟨b0,o0 + 5,none⟩ = some (.int .i64 r2) ∧ Y.cell? ⟨b0,o0 + 6,none⟩ = some (.int .i64 p3) ∧ Y.cell? ⟨b0,o0 + 7,none⟩ = some (.int .i64 r3)):=hid (fun Y h => ⟨h.cell x0,h.cell y0,h.cell x1,h.cell y1,h.cell x2,h.cell y2,h.cell x3,h.cell y3⟩)
         have S0:=fun (T:TypeId) => HCL2.out _ (((Ext.refl wr).alloc (.cells #[] T)).drew)
         go_wp2
         go_region_held3 (fun Y => Y.cell? ⟨b0,o0,none⟩ = some (.int .i64 p0) ∧ Y.cell? ⟨b0,o0 + 1,none⟩ = some (.int .i64 r0) ∧ Y.cell? ⟨b0,o0 + 2,none⟩ = some (.int .i64 p1) ∧ Y.cell? ⟨b0,o0 + 3,none⟩ = some (.int .i64 r1) ∧ Y.cell? ⟨b0,o0 + 4,none⟩ = some (.int .i64 p2) ∧ Y.cell? ⟨b0,o0 + 5,none⟩ = some (.int .i64 r2) ∧ Y.cell? ⟨b0,o0 + 6,none⟩ = some (.int .i64 p3) ∧ Y.cell? ⟨b0,o0 + 7,none⟩ = some (.int .i64 r3)) (first | exact S0 _ | exact S1) (first | (go_at_call 49; (with_reducible refine (C.out _).mono ?_); rintro e w5 ⟨v5,rfl,hp5,hx5⟩; have HX5:=hid ((((Ext.refl wr).alloc _).drew).trans hx5); have S1:=HCL2.out _ HX5.out; have HP5:=hid hp5; obtain ⟨a5,k5,rfl⟩:=hp5.form; clear hx5 hp5) | fail)
         all_goals
          go_wp2_with (go_at_call 20; (with_reducible refine (z8a HP5.out HFC.out (by decide) (by decide)).mono ?_); rintro e w6 ⟨v6,rfl,hp6,hx6⟩; have HX6:=hid ((HXW.out.trans HX5.out).trans hx6); have HP6:=hid hp6; obtain ⟨a6,k6,rfl⟩:=hp6.form; clear hx6 hp6)
          go_ret2
          rw [HE.out]
          exact ⟨_,rfl,by rw [HE2.out]; exact HP6.out,HX6.out⟩
     ·have HE:Hid (z2h x wd names = (13,[])):=hid (by rw [zh7 HAW.out HPN.out]; exact if_neg (by rw [← HNN.out]; exact hna))
      have qe:((n:Int) != (a:Int)) = true:=by rw [bne_iff_ne]; omega
      clear hna
      go_wp2
      all_goals
       go_ret2
       rw [HE.out]
       exact ⟨_,rfl,z0h.nilv _ _ _ _ (by decide),HXW.out⟩
end
section
open Go.RowKit Go.Shelf
def zmt (b:Bool) (w:World) (e:Ending) (w':World):Prop:=∃ i:Int,e = .returned (.int .i64 i) ∧ decide (0 ≤ i) = b ∧ Ext w w'
def hasM (v:Int) (m:Mono):Bool:=m.any fun w => decide (w.1 = v)
def hasV (v:Int) (ts:List RTerm):Bool:=ts.any fun t => hasM v t.m
theorem zj6 {S:Nat → Prop} (g:Nat) (pb:Value) (eg:∀ args w,(callFunc g args).run Tryz.prog w = .ok (.enter g args) w) (pr:Int × Int → Bool) (ls:List (Int × Int)) (v:Value) (w:World) (h:Pows S w v ls) (hS:∀ k,S k → k < w.heap.size)
  (hI:∀ (t:Int × Int) (W:World),t ∈ ls → Ext w W → Calls Tryz.prog g #[.agg #[.int .i64 t.1,.int .i64 t.2],pb] W fun e W' => e = .returned (.bool (pr t)) ∧ Ext W W') :
  Calls Tryz.prog 148 #[v,.func (.func g) #[] #[pb]] w (zmt (ls.any pr) w):=by
 have HP:=hid h
 have HI:=hid hI
 have hll:=h.len_le
 obtain ⟨a,c,rfl⟩:=h.form
 obtain ⟨n,hn⟩:∃ n,n = ls.length:=⟨_,rfl⟩
 rw [← hn] at HP hll ⊢
 have HN:=hid hn
 clear h hI hn
 go_enter Tryz.func148,Tryz.ntmps148
 go_wp2
 go_loopw [8] (fun i wr => ∃ k:Nat,k ≤ n ∧ i = .int .i64 (k:Nat) ∧ Ext w wr ∧ Hid ((ls.take k).any pr = false)) (fun i _ => n - (intOf i).toNat)
 case atStart => exact ⟨0,Nat.zero_le _,rfl,Ext.refl _,rfl⟩
 case round =>
  obtain ⟨k,hk,rfl,hx,HF⟩:=hrel
  have HX:=hid hx
  by_cases hlt:k < n
  ·obtain ⟨t,hp⟩:=z00 (l:=ls) (j:=k) (by rw [← HN.out]; exact hlt)
   obtain ⟨b,o,rfl,-,h2,h3,-,hz,h5,h6⟩:=(HP.out.ext hx hS).cellAt hp
   have CP:=hid (HI.out t wr (List.mem_of_getElem? hp) hx)
   have HMP:=hid (List.mem_of_getElem? hp)
   have HTK:Hid (ls.take (k + 1) = ls.take k ++ [t]):=hid (by rw [List.take_add_one,hp]; rfl)
   obtain ⟨tt,ht⟩:∃ z,z = pr t:=⟨_,rfl⟩
   rw [← ht] at CP
   have HT:=hid ht
   clear hp ht hx
   go_wp2_with fail
   with_reducible refine CP.out.mono ?_
   rintro e w1 ⟨rfl,hx1⟩
   have HX1:=hid (HX.out.trans hx1)
   clear hx1
   cases tt with
   | true =>
    go_wp2
    all_goals
     go_ret
     refine ⟨_,rfl,?_,HX1.out⟩
     rw [List.any_eq_true.2 ⟨t,HMP.out,HT.out.symm⟩]
     exact decide_eq_true (by omega)
   | false =>
    go_wp2
    go_roundw
    case rel =>
     refine ⟨k + 1,by omega,by go_num,HX1.out,?_⟩
     show (ls.take (k + 1)).any pr = false
     rw [HTK.out,List.any_append,HF.out]
     simp [← HT.out]
    case measure => simp only [intOf]; omega
  ·obtain rfl:k = n:=by omega
   have HA:Hid (ls.any pr = false):=hid (by have h:=HF.out; rwa [List.take_of_length_le (by rw [← HN.out]; exact Nat.le_refl _)] at h)
   go_wp2
   all_goals
    go_ret
    exact ⟨_,rfl,by rw [HA.out]; rfl,HX.out⟩
theorem zc2 {S:Nat → Prop} (g:Nat) (pb:Value) (eg:∀ args w,(callFunc g args).run Tryz.prog w = .ok (.enter g args) w) (pr:Int × Int → Bool) (ls:List (Int × Int)) (v:Value) (w:World) (h:Pows S w v ls) (hS:∀ k,S k → k < w.heap.size)
  (hI:∀ (t:Int × Int) (W:World),t ∈ ls → Ext w W → Calls Tryz.prog g #[.agg #[.int .i64 t.1,.int .i64 t.2],pb] W fun e W' => e = .returned (.bool (pr t)) ∧ Ext W W') :
  Calls Tryz.prog 131 #[v,.func (.func g) #[] #[pb]] w fun e w' => e = .returned (.bool (ls.any pr)) ∧ Ext w w':=by
 have CI:=hid (zj6 g pb eg pr ls v w h hS hI)
 obtain ⟨a,c,rfl⟩:=h.form
 obtain ⟨n,hn⟩:∃ n,n = ls.length:=⟨_,rfl⟩
 rw [← hn] at CI ⊢
 clear h hI hn
 go_enter Tryz.func131,Tryz.ntmps131
 go_wp2_with fail
 with_reducible refine CI.out.mono ?_
 rintro e w1 ⟨i,rfl,hi,hx1⟩
 have HX1:=hid hx1
 have HI:=hid hi
 clear hx1 hi
 go_wp2
 all_goals
  go_ret
  exact ⟨by first | rfl | (rw [HI.out]; rfl),HX1.out⟩
theorem zfr {S:Nat → Prop} (g:Nat) (pb:Value) (eg:∀ args w,(callFunc g args).run Tryz.prog w = .ok (.enter g args) w) (pr:RTerm → Bool) (ls:List (RTerm)) (v:Value) (w:World) (h:z0h S w v ls) (hS:∀ k,S k → k < w.heap.size)
  (hI:∀ (t:RTerm) (vm vo:Value) (W:World),t ∈ ls → Ext w W → U32s S W vm t.c.mag → Pows S W vo t.m → Calls Tryz.prog g #[.agg #[.bool t.c.neg,vm,vo],pb] W fun e W' => e = .returned (.bool (pr t)) ∧ Ext W W') :
  Calls Tryz.prog 147 #[v,.func (.func g) #[] #[pb]] w (zmt (ls.any pr) w):=by
 have HP:=hid h
 have HI:=hid hI
 have hll:=h.len_le
 obtain ⟨a,c,rfl⟩:=h.form
 obtain ⟨n,hn⟩:∃ n,n = ls.length:=⟨_,rfl⟩
 rw [← hn] at HP hll ⊢
 have HN:=hid hn
 clear h hI hn
 go_enter Tryz.func147,Tryz.ntmps147
 go_wp2
 go_loopw [8] (fun i wr => ∃ k:Nat,k ≤ n ∧ i = .int .i64 (k:Nat) ∧ Ext w wr ∧ Hid ((ls.take k).any pr = false)) (fun i _ => n - (intOf i).toNat)
 case atStart => exact ⟨0,Nat.zero_le _,rfl,Ext.refl _,rfl⟩
 case round =>
  obtain ⟨k,hk,rfl,hx,HF⟩:=hrel
  have HX:=hid hx
  by_cases hlt:k < n
  ·obtain ⟨t,hp⟩:=z00 (l:=ls) (j:=k) (by rw [← HN.out]; exact hlt)
   obtain ⟨b,o,vm,vo,rfl,-,h2,h3,-,h5,h6,h7,h8,h9⟩:=(HP.out.ext hx hS).cellAt hp
   have CP:=hid (HI.out t vm vo wr (List.mem_of_getElem? hp) hx h8 h9)
   have HMP:=hid (List.mem_of_getElem? hp)
   have HTK:Hid (ls.take (k + 1) = ls.take k ++ [t]):=hid (by rw [List.take_add_one,hp]; rfl)
   obtain ⟨am,cm,rfl⟩:=h8.form
   obtain ⟨ao,co,rfl⟩:=h9.form
   clear h8 h9
   obtain ⟨tt,ht⟩:∃ z,z = pr t:=⟨_,rfl⟩
   rw [← ht] at CP
   have HT:=hid ht
   clear hp ht hx
   go_wp2_with fail
   with_reducible refine CP.out.mono ?_
   rintro e w1 ⟨rfl,hx1⟩
   have HX1:=hid (HX.out.trans hx1)
   clear hx1
   cases tt with
   | true =>
    go_wp2
    all_goals
     go_ret
     refine ⟨_,rfl,?_,HX1.out⟩
     rw [List.any_eq_true.2 ⟨t,HMP.out,HT.out.symm⟩]
     exact decide_eq_true (by omega)
   | false =>
    go_wp2
    go_roundw
    case rel =>
     refine ⟨k + 1,by omega,by go_num,HX1.out,?_⟩
     show (ls.take (k + 1)).any pr = false
     rw [HTK.out,List.any_append,HF.out]
     simp [← HT.out]
    case measure => simp only [intOf]; omega
  ·obtain rfl:k = n:=by omega
   have HA:Hid (ls.any pr = false):=hid (by have h:=HF.out; rwa [List.take_of_length_le (by rw [← HN.out]; exact Nat.le_refl _)] at h)
   go_wp2
   all_goals
    go_ret
    exact ⟨_,rfl,by rw [HA.out]; rfl,HX.out⟩
theorem zae {S:Nat → Prop} (g:Nat) (pb:Value) (eg:∀ args w,(callFunc g args).run Tryz.prog w = .ok (.enter g args) w) (pr:RTerm → Bool) (ls:List (RTerm)) (v:Value) (w:World) (h:z0h S w v ls) (hS:∀ k,S k → k < w.heap.size)
  (hI:∀ (t:RTerm) (vm vo:Value) (W:World),t ∈ ls → Ext w W → U32s S W vm t.c.mag → Pows S W vo t.m → Calls Tryz.prog g #[.agg #[.bool t.c.neg,vm,vo],pb] W fun e W' => e = .returned (.bool (pr t)) ∧ Ext W W') :
  Calls Tryz.prog 129 #[v,.func (.func g) #[] #[pb]] w fun e w' => e = .returned (.bool (ls.any pr)) ∧ Ext w w':=by
 have CI:=hid (zfr g pb eg pr ls v w h hS hI)
 obtain ⟨a,c,rfl⟩:=h.form
 obtain ⟨n,hn⟩:∃ n,n = ls.length:=⟨_,rfl⟩
 rw [← hn] at CI ⊢
 clear h hI hn
 go_enter Tryz.func129,Tryz.ntmps129
 go_wp2_with fail
 with_reducible refine CI.out.mono ?_
 rintro e w1 ⟨i,rfl,hi,hx1⟩
 have HX1:=hid hx1
 have HI:=hid hi
 clear hx1 hi
 go_wp2
 all_goals
  go_ret
  exact ⟨by first | rfl | (rw [HI.out]; rfl),HX1.out⟩
theorem zh8 {S:Nat → Prop} (vp:Value) (ts:List RTerm) (x:Int) (w:World) (h:z0h S w vp ts) (hS:∀ k,S k → k < w.heap.size) :
  Calls Tryz.prog 106 #[vp,.int .i64 x] w fun e w' => e = .returned (.bool (hasV x ts)) ∧ Ext w w':=by
 have hmf:∀ (fn:Fn) (first cap:Array Value) (w:World),(Instr.makeFunc fn first cap).run Tryz.prog w = .ok (.func fn first cap) w:=fun _ _ _ _ => rfl
 obtain ⟨w0,hw0⟩:∃ Y,Y = w.alloc (.cells #[.int .i64 x] 3):=⟨_,rfl⟩
 have hx0:Ext w w0:=by rw [hw0]; exact Ext.alloc (Ext.refl _) _
 have HX0:=hid hx0
 have hcb:w0.cell? ⟨w.heap.size,0,none⟩ = some (.int .i64 x):=by rw [hw0]; exact z02 w _ _ rfl rfl
 have HCB:=hid hcb
 have C:=hid (zae (S:=S) 130 (.pointer (some ⟨w.heap.size,0,none⟩)) (enters_of Tryz.func130 (by kernel_rfl) rfl) (fun t => hasM x t.m) ts vp w0 (h.ext hx0 hS) (z0a hS hx0) (fun t vm vo W _ hW hm ho => by
  obtain ⟨W1,hW1⟩:∃ Y,Y = W.alloc (.cells #[.bool t.c.neg,vm,vo] 49):=⟨_,rfl⟩
  have hx1:Ext W W1:=by rw [hW1]; exact Ext.alloc (Ext.refl _) _
  have HX1:=hid hx1
  have hSW:=z0a hS ((HX0.out.trans hW).trans hx1)
  have c0:W1.cell? ⟨W.heap.size,2,none⟩ = some vo:=by rw [hW1]; exact z02 W _ _ rfl rfl
  have CB:=HCB.out
  have D:=hid (zc2 (S:=S) 132 (.pointer (some ⟨w.heap.size,0,none⟩)) (enters_of Tryz.func132 (by kernel_rfl) rfl) (fun y => decide (y.1 = x)) t.m vo W1 (ho.ext hx1 (z0a hS (HX0.out.trans hW))) hSW (fun y Y _ hY => by
   obtain ⟨y1,y2⟩:=y
   have d0:=((hW.trans hx1).trans hY).cell CB
   have d1:(Y.alloc (.cells #[.int .i64 y1,.int .i64 y2] 51)).cell? ⟨Y.heap.size,0,none⟩ = some (.int .i64 y1):=z02 Y _ _ rfl rfl
   have d2:=cell_old (.cells #[.int .i64 y1,.int .i64 y2] 51) d0
   have q1:(y1 == x) = decide (y1 = x):=by rw [Bool.eq_iff_iff]; simp
   have HXY:=hid (Ext.alloc (Ext.refl Y) (.cells #[.int .i64 y1,.int .i64 y2] 51))
   clear hm ho hx1 hW hY
   go_enter Tryz.func132,Tryz.ntmps132
   go_wp2
   all_goals
    go_ret
    exact ⟨by first | rfl | simp,HXY.out⟩))
  obtain ⟨am,cm,rfl⟩:=hm.form
  obtain ⟨ao,co,rfl⟩:=ho.form
  have e:hasM x t.m = t.m.any (fun y => decide (y.1 = x)):=rfl
  rw [← e] at D
  rw [hW1] at D c0
  clear hm ho hx1 hW e hW1 CB
  go_enter Tryz.func130,Tryz.ntmps130
  go_wp2_with fail
  with_reducible refine D.out.mono ?_
  rintro e w1 ⟨rfl,hx1⟩
  have HX2:=hid ((Ext.alloc (Ext.refl W) _).trans hx1)
  clear hx1
  go_wp2
  all_goals
   go_ret
   exact ⟨rfl,HX2.out⟩))
 rw [hw0] at C
 have e:hasV x ts = ts.any (fun t => hasM x t.m):=rfl
 rw [e]
 obtain ⟨a,c,rfl⟩:=h.form
 obtain ⟨n,hn⟩:∃ n,n = ts.length:=⟨_,rfl⟩
 rw [← hn] at C ⊢
 clear h hn e hcb hx0 hw0
 go_enter Tryz.func106,Tryz.ntmps106
 go_wp2_with fail
 with_reducible refine C.out.mono ?_
 rintro e w1 ⟨rfl,hx1⟩
 have HX2:=hid ((Ext.alloc (Ext.refl w) _).trans hx1)
 clear hx1
 go_wp2
 all_goals
  go_ret
  exact ⟨rfl,HX2.out⟩
end
section
open Go.RowKit
section
variable {W W':World} {bd:Nat} {vm vg vh vq vr:Value} {v d n:Int} {keep:Bool}
end
end
section
open Go.RowKit
section
variable {W:World} {bd:Nat} {vm vg vh vq vr vp vo:Value} {v d n:Int} {keep:Bool} {h p q:PZ} {A B T M L l:Nat}
end
end
section
open Go.RowKit
section
variable {o:Option Nat} {bd:Nat} {A B C W W':World} {v:Value} {p:PZ} {s:MSt}
end
end
section
section
variable {g f:PZ} {v:Int}
/-! By a meter as without one -/
end
end
section
section
variable {a b c:PZ}
end
section
variable {p g f:PZ} {v:Int}
end
end
section
section
variable {g f h q r:PZ} {v d:Int} {o:Option Nat} {keep:Bool} {B M:Nat}
end
end
section
open Go.RowKit
end
section
open Go.RowKit
end
section
open Go.RowKit
section
variable {W:World} {o:Option Nat} {s:MSt} {vf vg:Value} {v:Int} {f g:PZ} {A B T M:Nat}
end
section
variable {W:World} {vm vf vg:Value} {v:Int} {fs gs:List RTerm}
end
end
section
open Go.RowKit
end
section
open Go.RowKit
section
variable {W:World} {vf vg:Value} {v:Int} {f g:PZ} {A B T M:Nat}
end
end
section
open Go.RowKit
section
variable {W Y Y':World} {S:Nat → Prop} {o:Option Nat} {u v:Value} {p q:PZ} {k l n m:Nat}
end
section
variable {o:Option Nat} {keep:Bool} {g h q r:PZ} {v d c1 c2 c3:Int} {s s1 s2 s3:MSt} {x:PZ × PZ}
end
end
section
open Go.RowKit
end
section
open Go.RowKit
end
section
open Go.RowKit
end
section
open Go.RowKit
section
variable {F G:PZ} {x:Int}
end
end
section
open Go.RowKit Go.Deep Go.ChangeShapes Go.WideShapes Go.ChangeAt Go.Joins
section
variable {H:Type} {enc:TypeId × Value → H} {P:Program} {w:World} {base:Nat} {spare:Nat → Bool} {held:Bool}
end
section
variable {H:Type} {enc:TypeId × Value → H} {W:World} {base b0:Nat} {sp:Nat → Bool} {held:Bool}
end
end
end Go.Proofs.YtbfflodidkfphaaGreat
