/- SideSense holds: what a polynomial is told as is nought, at any three spots, just where its geometric value is; the law answers true, and its arguments read as they did. No condition. -/
import Derived.Test.YtbfflodidkfphaaGreatSe14
set_option maxRecDepth 100000
set_option maxHeartbeats 16000000
namespace Go.Proofs.YtbfflodidkfphaaGreat
section
open Go.RowKit
theorem zg0 {W:World} {vp:Value} {ts:List RTerm} {s:Six} (hp:z0h (Old W) W vp ts) (hs:SixAt W s) :
  Calls Tryz.prog 3 #[vp,s.v] W fun e w' => e = .returned (.bool true) ∧ Ext W w':=by
 have hnot:∀ (x:Bool) (w:World),(Op.unary .not (.bool x)).run Tryz.prog w = .ok (.bool (!x)) w:=fun _ _ => rfl
 have HP:=hid (fun (Y:World) (hY:Ext W Y) => z0h.on hp hY)
 have HSIX:=hid hs
 have HOKT:=hid hp.okT
 obtain ⟨at_,ct,rfl⟩:=hp.form
 obtain ⟨nt,hnt⟩:∃ n,n = ts.length:=⟨_,rfl⟩
 rw [← hnt] at HP ⊢
 have HNT:=hid hnt
 have HIX:=hid (zn9 s)
 have HIX2:=hid (zna s)
 unfold Six.v at HIX ⊢
 unfold Six.s8 at HIX HIX2
 obtain ⟨V,hV⟩:∃ V,V = Value.agg #[.bool (s.g 0),.slice (s.a 0) (s.l 0) (s.c 0),.bool (s.h 0),.slice (s.b 0) (s.m 0) (s.d 0),.bool (s.g 1),.slice (s.a 1) (s.l 1) (s.c 1),.bool (s.h 1),.slice (s.b 1) (s.m 1) (s.d 1),.bool (s.g 2),.slice (s.a 2) (s.l 2) (s.c 2),.bool (s.h 2),.slice (s.b 2) (s.m 2) (s.d 2),.bool (s.g 3),.slice (s.a 3) (s.l 3) (s.c 3),.bool (s.h 3),.slice (s.b 3) (s.m 3) (s.d 3),.bool (s.g 4),.slice (s.a 4) (s.l 4) (s.c 4),.bool (s.h 4),.slice (s.b 4) (s.m 4) (s.d 4),.bool (s.g 5),.slice (s.a 5) (s.l 5) (s.c 5),.bool (s.h 5),.slice (s.b 5) (s.m 5) (s.d 5)]:=⟨_,rfl⟩
 rw [← hV] at HIX
 have HV:=hid hV
 clear hV
 unfold Six.r4 at HIX2
 obtain ⟨w0,hw0⟩:∃ Y,Y = W.alloc (.cells #[.bool (s.g 0),.slice (s.a 0) (s.l 0) (s.c 0),.bool (s.h 0),.slice (s.b 0) (s.m 0) (s.d 0),.bool (s.g 1),.slice (s.a 1) (s.l 1) (s.c 1),.bool (s.h 1),.slice (s.b 1) (s.m 1) (s.d 1),.bool (s.g 2),.slice (s.a 2) (s.l 2) (s.c 2),.bool (s.h 2),.slice (s.b 2) (s.m 2) (s.d 2),.bool (s.g 3),.slice (s.a 3) (s.l 3) (s.c 3),.bool (s.h 3),.slice (s.b 3) (s.m 3) (s.d 3),.bool (s.g 4),.slice (s.a 4) (s.l 4) (s.c 4),.bool (s.h 4),.slice (s.b 4) (s.m 4) (s.d 4),.bool (s.g 5),.slice (s.a 5) (s.l 5) (s.c 5),.bool (s.h 5),.slice (s.b 5) (s.m 5) (s.d 5)] 31):=⟨_,rfl⟩
 obtain ⟨b3,hb3⟩:∃ b,b = W.heap.size:=⟨_,rfl⟩
 have HX0:Hid (Ext W w0):=hid (by rw [hw0]; exact Ext.alloc (Ext.refl _) _)
 have HB3:=hid (fun (Y:World) (hY:Ext w0 Y) (i:Nat) (u:Value) (hu:#[.bool (s.g 0),.slice (s.a 0) (s.l 0) (s.c 0),.bool (s.h 0),.slice (s.b 0) (s.m 0) (s.d 0),.bool (s.g 1),.slice (s.a 1) (s.l 1) (s.c 1),.bool (s.h 1),.slice (s.b 1) (s.m 1) (s.d 1),.bool (s.g 2),.slice (s.a 2) (s.l 2) (s.c 2),.bool (s.h 2),.slice (s.b 2) (s.m 2) (s.d 2),.bool (s.g 3),.slice (s.a 3) (s.l 3) (s.c 3),.bool (s.h 3),.slice (s.b 3) (s.m 3) (s.d 3),.bool (s.g 4),.slice (s.a 4) (s.l 4) (s.c 4),.bool (s.h 4),.slice (s.b 4) (s.m 4) (s.d 4),.bool (s.g 5),.slice (s.a 5) (s.l 5) (s.c 5),.bool (s.h 5),.slice (s.b 5) (s.m 5) (s.d 5)][i]? = some u) => show Y.cell? ⟨b3,i,none⟩ = some u by
  rw [hw0] at hY
  exact hY.cell (z02 W _ _ hb3 hu))
 have HG0:Hid (∀ Y,Ext w0 Y → Y.heap[b3]? = some (.cells #[.bool (s.g 0),.slice (s.a 0) (s.l 0) (s.c 0),.bool (s.h 0),.slice (s.b 0) (s.m 0) (s.d 0),.bool (s.g 1),.slice (s.a 1) (s.l 1) (s.c 1),.bool (s.h 1),.slice (s.b 1) (s.m 1) (s.d 1),.bool (s.g 2),.slice (s.a 2) (s.l 2) (s.c 2),.bool (s.h 2),.slice (s.b 2) (s.m 2) (s.d 2),.bool (s.g 3),.slice (s.a 3) (s.l 3) (s.c 3),.bool (s.h 3),.slice (s.b 3) (s.m 3) (s.d 3),.bool (s.g 4),.slice (s.a 4) (s.l 4) (s.c 4),.bool (s.h 4),.slice (s.b 4) (s.m 4) (s.d 4),.bool (s.g 5),.slice (s.a 5) (s.l 5) (s.c 5),.bool (s.h 5),.slice (s.b 5) (s.m 5) (s.d 5)] 31 (0,0))):=hid (fun Y hY => by
  rw [hw0] at hY
  rw [hb3]
  exact (hY.block _ (by rw [size_alloc]; exact Nat.lt_succ_self _)).trans (heap_alloc_new W _))
 have HW0:=hid hw0
 have HBE:=hid hb3
 clear hp hs hnt hw0 hb3
 go_enter Tryz.func3,Tryz.ntmps3
 go_upto_region 1 with fail
 rw [← HBE.out]
 rw [← HW0.out]
 rw [← HV.out]
 go_wp2_with fail
 with_reducible refine (zab _).mono ?_
 rintro e w1 ⟨v1,rfl,⟨vq,va,rfl,hq,ha⟩,hx1⟩
 have HX1:=hid hx1
 have HQ1:=hid (hq.to (S':=Old w1) (Kept.refl _ _) New.lt)
 have HLY:=hid (show LayV (Old w1) w1 (.agg #[vq,va,.int .i64 lay3.par,.int .i64 lay3.vrs]) lay3 from ⟨vq,va,rfl,hq.to (Kept.refl _ _) New.lt,ha.to (Kept.refl _ _) New.lt⟩)
 obtain ⟨ap,cp,e1⟩:∃ a c,vq = .slice a 3 c:=hq.form
 obtain ⟨aa,ca,e2⟩:∃ a c,va = .slice a 3 c:=ha.form
 subst e1 e2
 obtain ⟨b5,hb5⟩:∃ b,b = w1.heap.size:=⟨_,rfl⟩
 obtain ⟨w2,hw2⟩:∃ Y,Y = w1.alloc (.cells #[.slice ap 3 cp,.slice aa 3 ca,.int .i64 lay3.par,.int .i64 lay3.vrs] 35):=⟨_,rfl⟩
 have HX12:Hid (Ext w1 w2):=hid (by rw [hw2]; exact Ext.alloc (Ext.refl _) _)
 have HL:=hid (fun (Y:World) (hY:Ext w2 Y) => HLY.out.on (HX12.out.trans hY))
 have HQ2:=hid (fun (Y:World) (hY:Ext w2 Y) => HQ1.out.to (S':=Old Y) (Kept.ext (HX12.out.trans hY) (fun _ h => h)) (z2b (HX12.out.trans hY)))
 have HSA:=hid (fun (Y:World) (h:Ext w2 Y) => by
  rw [hw2] at h
  have k0:∀ (i:Nat) (u:Value),#[Value.slice ap 3 cp,.slice aa 3 ca,.int .i64 lay3.par,.int .i64 lay3.vrs][i]? = some u → Y.cell? ⟨b5,i,none⟩ = some u:=fun i u hu => h.cell (z02 w1 _ _ hb5 hu)
  exact And.intro (k0 0 _ rfl) (And.intro (k0 1 _ rfl) (And.intro (k0 2 _ rfl) (k0 3 _ rfl))))
 have HW2:=hid hw2
 have HB5:=hid hb5
 have HX02:=hid (HX1.out.trans HX12.out)
 have HX2:=hid (HX0.out.trans HX02.out)
 have CG:=hid (zfv (HL.out w2 (Ext.refl _)) (HP.out w2 HX2.out))
 obtain ⟨g,hg⟩:∃ g,g = z3c lay3 ts:=⟨_,rfl⟩
 rw [← hg] at CG
 have HG:=hid hg
 clear hq ha hx1 hw2 hb5 hg
 go_upto_region 2 with fail
 rw [← HB5.out]
 rw [← HW2.out]
 obtain ⟨d0,d1,d2,d3⟩:=HSA.out w2 (Ext.refl _)
 go_wp2_with fail
 with_reducible refine CG.out.mono ?_
 rintro e w3 ⟨rfl,hx3⟩
 have HX3:=hid hx3
 have HXW3:=hid (HX2.out.trans hx3)
 clear hx3 d0 d1 d2 d3
 cases g with
 | true =>
  go_wp2_with fail
  with_reducible refine (z2i _).mono ?_
  rintro e wz ⟨rfl,hxz⟩
  have HXZ:=hid (HXW3.out.trans hxz)
  clear hxz
  go_wp2
  all_goals
   go_ret
   exact ⟨rfl,HXZ.out⟩
 | false =>
  obtain ⟨-,-,hgt,-⟩:=zj9 HG.out.symm
  obtain ⟨hgl,hgm⟩:=zmg hgt
  have HGL:=hid hgl
  have HGM:=hid hgm
  obtain ⟨d0,d1,d2,d3⟩:=HSA.out w3 HX3.out
  have CO:=zmz (k:=20) (n:=40) (HL.out w3 HX3.out) zsk (HP.out w3 HXW3.out) (fun t ht => (HGM.out t ht).1) (by decide) HGL.out (by decide) (by decide) (by decide)
  obtain ⟨er,T,hE⟩:∃ er T,z8b lay3 ts = (er,T):=⟨_,_,rfl⟩
  have HE:=hid hE
  rw [hE] at CO
  have CO:=hid CO
  clear hgt hgl hgm hE
  go_upto_region 4 with fail
  go_wp2_with fail
  with_reducible refine CO.out.mono ?_
  rintro e w4 ⟨v4,rfl,⟨vn4,vp4,rfl,hs4,ht4⟩,hx4⟩
  have HX4:=hid (HX3.out.trans hx4)
  obtain ⟨an4,cn4,rfl⟩:=hs4.form
  obtain ⟨ap4,cp4,rfl⟩:=ht4.form
  obtain ⟨b6,hb6⟩:∃ b,b = w4.heap.size:=⟨_,rfl⟩
  obtain ⟨w5,hw5⟩:∃ Y,Y = w4.alloc (.cells #[.string T.word,.slice an4 T.pts.length cn4,.slice ap4 T.poly.length cp4] 40):=⟨_,rfl⟩
  have SA:Hid (SV w2 b6 w5 T (.slice an4 T.pts.length cn4) (.slice ap4 T.poly.length cp4)):=hid (by rw [hw5,hb6]; exact SV.fresh HX4.out (hs4.to (Kept.refl _ _) New.lt) (ht4.to (Kept.refl _ _) New.lt) _)
  have HW5:=hid hw5
  have HB6:=hid hb6
  have HX5:=hid SA.out.1
  have HX05:=hid (HX02.out.trans HX5.out)
  have HXW5:=hid (HX2.out.trans HX5.out)
  clear hs4 ht4 hx4 hw5 hb6 d0 d1 d2 d3
  go_upto_region 5 with fail
  rw [← HB6.out]
  rw [← HW5.out]
  by_cases hbad:mayT ts = false ∨ ts = []
  ·obtain ⟨rfl,rfl⟩:2 = er ∧ _ = T:=by have h:=HE.out; rw [zn5 hbad] at h; simpa using h
   clear hbad
   go_wp2_with fail
   with_reducible refine (z2i _).mono ?_
   rintro e wz ⟨rfl,hxz⟩
   have HXZ:=hid (HXW5.out.trans hxz)
   clear hxz
   go_wp2
   all_goals
    go_ret
    exact ⟨rfl,HXZ.out⟩
  obtain ⟨P,hP⟩:∃ P,P = z21 ts:=⟨_,rfl⟩
  have hTT:0 = er ∧ z1s lay3 (z0l P) = T:=by rw [hP]; have h:=HE.out; rw [zjb hbad] at h; simpa using h
  obtain ⟨rfl,hT⟩:=hTT
  have hmay:mayT ts = true:=by
   cases hm:mayT ts with
   | true => rfl
   | false => exact absurd (.inl hm) hbad
  have HF:Hid (Fit 20 40 P):=hid (by rw [hP]; exact zds HOKT.out (fun t ht => (HGM.out t ht).1) HGL.out)
  have HTS:Hid (ts = ofP P):=hid (by rw [hP]; exact zto (HP.out W (Ext.refl _)) hmay)
  have HP0:Hid (P ≠ []):=hid (fun e => hbad (.inr (by rw [HTS.out,e]; rfl)))
  have HTP:Hid (T.poly = ofP (z0l P)):=hid (by rw [← hT]; exact ze5 _ _)
  have HT:=hid hT
  clear hbad hmay hT hP HOKT
  go_wp2_with (refine wpList_load_row rfl 31 (.tmp 3) rfl b3 rfl 31 #[.bool (s.g 0),.slice (s.a 0) (s.l 0) (s.c 0),.bool (s.h 0),.slice (s.b 0) (s.m 0) (s.d 0),.bool (s.g 1),.slice (s.a 1) (s.l 1) (s.c 1),.bool (s.h 1),.slice (s.b 1) (s.m 1) (s.d 1),.bool (s.g 2),.slice (s.a 2) (s.l 2) (s.c 2),.bool (s.h 2),.slice (s.b 2) (s.m 2) (s.d 2),.bool (s.g 3),.slice (s.a 3) (s.l 3) (s.c 3),.bool (s.h 3),.slice (s.b 3) (s.m 3) (s.d 3),.bool (s.g 4),.slice (s.a 4) (s.l 4) (s.c 4),.bool (s.h 4),.slice (s.b 4) (s.m 4) (s.d 4),.bool (s.g 5),.slice (s.a 5) (s.l 5) (s.c 5),.bool (s.h 5),.slice (s.b 5) (s.m 5) (s.d 5)] (0,0) _ (HG0.out w5 HX05.out) Tryz.underlying31 rfl (by kernel_rfl) ?_; rw [← HV.out])
  go_loopw [8,39] (fun o i wr => ∃ k:Nat,k ≤ 3 ∧ i = .int .i64 (k:Nat) ∧ Hid (wr.ownsRow w5.heap.size 28 4 o (2 * k) (s.cs (2 * k))) ∧ Hid (Ext w5 wr) ∧ Hid (∀ j,j < 2 * k → s.l j ≤ 3 ∧ s.m j ≤ 3)) (fun _ i _ => 3 - (intOf i).toNat)
  case atStart => exact ⟨0,by omega,rfl,hid (World.ownsRow_nil _ _ _ _),hid (Ext.refl _),hid (fun j h => by omega)⟩
  case round =>
   obtain ⟨k,hk,rfl,HO,HX,HCK⟩:=hrel
   obtain ⟨ws,hws⟩:∃ Y,Y = wr:=⟨_,rfl⟩
   rw [← hws] at HO HX ⊢
   clear hws
   by_cases hlt:k < 3
   ·have hi:=HIX.out k hlt ws
    obtain ⟨k0,hk0⟩:∃ m,m = 2 * k:=⟨_,rfl⟩
    have hi2:=HIX2.out k
    rw [← hk0] at hi hi2 HO HCK
    have HI2:=hid hi2
    have HK0:=hid hk0
    clear hi2 hk0
    go_wp2
    clear hi
    have HXA:=hid (show Ext w5 (ws.alloc (.cells #[.bool (s.g k0),.slice (s.a k0) (s.l k0) (s.c k0),.bool (s.h k0),.slice (s.b k0) (s.m k0) (s.d k0),.bool (s.g (k0 + 1)),.slice (s.a (k0 + 1)) (s.l (k0 + 1)) (s.c (k0 + 1)),.bool (s.h (k0 + 1)),.slice (s.b (k0 + 1)) (s.m (k0 + 1)) (s.d (k0 + 1))] 30)) from HX.out.alloc _)
    have HOA:=hid (z0o HO.out ((Ext.refl ws).alloc (.cells #[.bool (s.g k0),.slice (s.a k0) (s.l k0) (s.c k0),.bool (s.h k0),.slice (s.b k0) (s.m k0) (s.d k0),.bool (s.g (k0 + 1)),.slice (s.a (k0 + 1)) (s.l (k0 + 1)) (s.c (k0 + 1)),.bool (s.h (k0 + 1)),.slice (s.b (k0 + 1)) (s.m (k0 + 1)) (s.d (k0 + 1))] 30)))
    go_loopw [8,47] (fun o i wr => ∃ j:Nat,j ≤ 2 ∧ i = .int .i64 (j:Nat) ∧ Hid (wr.ownsRow w5.heap.size 28 4 o (k0 + j) (s.cs (k0 + j))) ∧ Hid (Ext w5 wr) ∧ Hid (∀ i,i < k0 + j → s.l i ≤ 3 ∧ s.m i ≤ 3)) (fun _ i _ => 2 - (intOf i).toNat)
    case atStart => exact ⟨0,by omega,rfl,HOA,HXA,HCK⟩
    case round =>
     obtain ⟨j,hj,rfl,HO2,HX2_,HCK2⟩:=hrel
     obtain ⟨wi,hwi⟩:∃ Y,Y = wr:=⟨_,rfl⟩
     rw [← hwi] at HO2 HX2_ ⊢
     clear hwi
     by_cases hlj:j < 2
     ·have hi2:=HI2.out j hlj wi
      obtain ⟨n,hn⟩:∃ n,n = k0 + j:=⟨_,rfl⟩
      rw [← hn] at hi2 HO2 HCK2
      have HN:=hid hn
      clear hn
      have HXW:=hid (HXW5.out.trans HX2_.out)
      by_cases h1:3 < s.l n
      ·go_wp2_with fail
       with_reducible refine (z2i _).mono ?_
       rintro e wz ⟨rfl,hxz⟩
       have HXZ:=hid ((HXW.out.alloc _).trans hxz)
       clear hxz
       go_wp2
       all_goals
        go_ret
        exact ⟨rfl,HXZ.out⟩
      by_cases h2:3 < s.m n
      ·go_wp2_with fail
       with_reducible refine (z2i _).mono ?_
       rintro e wz ⟨rfl,hxz⟩
       have HXZ:=hid ((HXW.out.alloc _).trans hxz)
       clear hxz
       go_wp2
       all_goals
        go_ret
        exact ⟨rfl,HXZ.out⟩
      have HCKN:Hid (∀ i,i < n + 1 → s.l i ≤ 3 ∧ s.m i ≤ 3):=hid (fun i hi => by
       by_cases e:i = n
       ·rw [e]
        exact ⟨by omega,by omega⟩
       ·exact HCK2.out i (by omega))
      have HXA2:=hid (HX2_.out.alloc (.cells #[.bool (s.g n),.slice (s.a n) (s.l n) (s.c n),.bool (s.h n),.slice (s.b n) (s.m n) (s.d n)] 28))
      have HO3:=hid (z0o HO2.out ((Ext.refl wi).alloc (.cells #[.bool (s.g n),.slice (s.a n) (s.l n) (s.c n),.bool (s.h n),.slice (s.b n) (s.m n) (s.d n)] 28)))
      have HNB:Hid (n ≤ 1000000000):=hid (by have:=HN.out; have:=HK0.out; omega)
      go_wp2_with (at_builtin; refine z09 _ rfl (.tmp 63) (.tmp 65) 44 rfl w5.heap.size 28 (.agg #[.bool false,.slice none 0 0,.bool false,.slice none 0 0]) 4 64 Tryz.underlying44 Tryz.infoRatR rfl (by decide) _ _ _ rfl HO3.out #[.bool (s.g n),.slice (s.a n) (s.l n) (s.c n),.bool (s.h n),.slice (s.b n) (s.m n) (s.d n)] rfl (znb s n) (by rw [size_alloc]; rfl) HNB.out (by decide) HXA2.out.size ?_; intro v7 w7 hown hg _; have HOW:=hid hown; have HG7:=hid hg; clear hown hg)
      go_roundw
      case rel =>
       refine ⟨_,_,_,.int .i64 ((j + 1:Nat):Int),⟨j + 1,by omega,rfl,hid ?_,hid (z1f HXA2.out HO3.out HG7.out),hid (by rw [show k0 + (j + 1) = n + 1 by rw [HN.out]; rfl]; exact HCKN.out)⟩,rfl,rfl,rfl,by go_num⟩
       rw [show k0 + (j + 1) = n + 1 by rw [HN.out]; rfl,s.cs_succ]
       exact HOW.out
      case measure => simp only [intOf]; omega
     ·obtain rfl:j = 2:=by omega
      have e2:2 * (k + 1) = k0 + 2:=by rw [HK0.out]; omega
      have HE2:=hid e2
      clear e2
      go_wp2
      go_roundw
      case rel => exact ⟨k + 1,by omega,by go_num,hid (by rw [HE2.out]; exact HO2.out),HX2_,hid (by rw [HE2.out]; exact HCK2.out)⟩
      case measure => simp only [intOf]; omega
   ·obtain rfl:k = 3:=by omega
    have HRT:=zq5 HSIX.out (HXW5.out.trans HX.out) HO.out
    have HRATS:=hid (fun (Y:World) (hY:Ext ws Y) => HRT.on hY)
    have HCK6:=hid (show ∀ j,j < 6 → s.l j ≤ 3 ∧ s.m j ≤ 3 from HCK.out)
    obtain ⟨apt,cpt,ept⟩:∃ a c,_ = Value.slice a 6 c:=HRT.form
    subst ept
    clear HRT
    have HXS:=hid (HXW5.out.trans HX.out)
    have HXS0:=hid HX.out
    clear HO HX HCK HIX2
    go_wp2
    go_loopw [71] (fun i wr => ∃ k:Nat,k ≤ nt ∧ i = .int .i64 (k:Nat) ∧ Hid (Ext ws wr) ∧ Hid (∀ t ∈ ts.take k,∀ z ∈ t.m,z.1 ≤ 6 ∧ z.2 ≤ 6)) (fun i _ => nt - (intOf i).toNat)
    case atStart => exact ⟨0,by omega,rfl,hid (Ext.refl _),hid (fun t h => by simp at h)⟩
    case round =>
     obtain ⟨k,hk,rfl,HX,HM⟩:=hrel
     obtain ⟨wt,hwt⟩:∃ Y,Y = wr:=⟨_,rfl⟩
     rw [← hwt] at HX ⊢
     clear hwt
     have HXT:=hid (HXS.out.trans HX.out)
     by_cases hlt:k < nt
     ·obtain ⟨t,ht⟩:=z00 (l:=ts) (j:=k) (by rw [← HNT.out]; exact hlt)
      obtain ⟨b2,o2,vm,vo,hat,-,hq4,hq5,-,z0,z1,z2,hz3,hz4⟩:=(HP.out wt HXT.out).cellAt ht
      have HTK:Hid (ts.take (k + 1) = ts.take k ++ [t]):=hid (by rw [List.take_add_one,ht]; rfl)
      have HPW:=hid (fun (Y:World) (hY:Ext wt Y) => hz4.to (S':=Old Y) (Kept.ext hY (fun _ h => h)) (z2b hY))
      obtain ⟨am,cm,rfl⟩:=hz3.form
      obtain ⟨ao,co,rfl⟩:=hz4.form
      obtain ⟨nl,hnl⟩:∃ n,n = t.c.mag.length:=⟨_,rfl⟩
      rw [← hnl] at z1
      obtain ⟨m,hm⟩:∃ m,m = t.m:=⟨_,rfl⟩
      rw [← hm] at HPW z2
      obtain ⟨nm,hnm⟩:∃ n,n = m.length:=⟨_,rfl⟩
      rw [← hnm] at z2 HPW
      obtain ⟨ng,hng⟩:∃ x,x = t.c.neg:=⟨_,rfl⟩
      rw [← hng] at z0
      have HME:=hid hm
      have HNM:=hid hnm
      clear ht hz3 hz4 hnl hm hnm hng
      subst hat
      go_wp2
      clear z0 z1 z2
      have HXB:=hid (show Ext wt (wt.alloc (.cells #[.bool ng,.slice am nl cm,.slice ao nm co] 49)) from (Ext.refl wt).alloc _)
      go_loopw [78] (fun i wr => ∃ j:Nat,j ≤ nm ∧ i = .int .i64 (j:Nat) ∧ Hid (Ext wt wr) ∧ Hid (∀ z ∈ m.take j,z.1 ≤ 6 ∧ z.2 ≤ 6)) (fun i _ => nm - (intOf i).toNat)
      case atStart => exact ⟨0,by omega,rfl,HXB,hid (fun t h => by simp at h)⟩
      case round =>
       obtain ⟨j,hj,rfl,HXI,HMI⟩:=hrel
       obtain ⟨wu,hwu⟩:∃ Y,Y = wr:=⟨_,rfl⟩
       rw [← hwu] at HXI ⊢
       clear hwu
       have HXU:=hid (HXT.out.trans HXI.out)
       by_cases hlj:j < nm
       ·obtain ⟨z,hz⟩:=z00 (l:=m) (j:=j) (by rw [← HNM.out]; exact hlj)
        obtain ⟨b4,o4,hao,-,hq6,hq7,-,⟨hz1,hz2⟩,y0,y1⟩:=(HPW.out wu HXI.out).cellAt hz
        have HTJ:Hid (m.take (j + 1) = m.take j ++ [z]):=hid (by rw [List.take_add_one,hz]; rfl)
        obtain ⟨zu,zx⟩:=z
        simp only at y0 y1 hz1 hz2
        clear hz
        subst hao
        by_cases e1:6 < zu
        ·have p1:decide (6 < zu) = true:=decide_eq_true e1
         go_wp2_with fail
         with_reducible refine (z2i _).mono ?_
         rintro e wz ⟨rfl,hxz⟩
         have HXZ:=hid ((HXU.out.alloc _).trans hxz)
         clear hxz
         go_wp2
         all_goals
          go_ret
          exact ⟨rfl,HXZ.out⟩
        by_cases e2:6 < zx
        ·have p1:decide (6 < zu) = false:=decide_eq_false e1
         have p2:decide (6 < zx) = true:=decide_eq_true e2
         go_wp2_with fail
         with_reducible refine (z2i _).mono ?_
         rintro e wz ⟨rfl,hxz⟩
         have HXZ:=hid ((HXU.out.alloc _).trans hxz)
         clear hxz
         go_wp2
         all_goals
          go_ret
          exact ⟨rfl,HXZ.out⟩
        have p1:decide (6 < zu) = false:=decide_eq_false e1
        have p2:decide (6 < zx) = false:=decide_eq_false e2
        have HMN:Hid (∀ z ∈ m.take (j + 1),z.1 ≤ 6 ∧ z.2 ≤ 6):=hid (fun y hy => by
         rw [HTJ.out] at hy
         rcases List.mem_append.1 hy with h | h
         ·exact HMI.out y h
         ·rw [List.mem_singleton.1 h]
          exact ⟨by simpa using e1,by simpa using e2⟩)
        go_wp2
        go_roundw
        case rel => exact ⟨j + 1,by omega,by go_num,hid (HXI.out.alloc _),HMN⟩
        case measure => simp only [intOf]; omega
       ·obtain rfl:j = nm:=by omega
        have HMN:Hid (∀ t ∈ ts.take (k + 1),∀ z ∈ t.m,z.1 ≤ 6 ∧ z.2 ≤ 6):=hid (fun y hy => by
         rw [HTK.out] at hy
         rcases List.mem_append.1 hy with h | h
         ·exact HM.out y h
         ·have h2:=HMI.out
          rw [HNM.out,List.take_length,HME.out] at h2
          rw [List.mem_singleton.1 h]
          exact h2)
        go_wp2
        go_roundw
        case rel => exact ⟨k + 1,by omega,by go_num,hid (HX.out.trans HXI.out),HMN⟩
        case measure => simp only [intOf]; omega
     ·obtain rfl:k = nt:=by omega
      have HM6:Hid (∀ t ∈ ts,∀ z ∈ t.m,z.1 ≤ 6 ∧ z.2 ≤ 6):=hid (by have h:=HM.out; rw [HNT.out,List.take_length] at h; exact h)
      clear HM
      have HX9:=hid HX.out
      have HAT:=hid (zso (s:=s) HF.out HTS.out HM6.out (fun t ht => (HGM.out t ht).2) HSIX.out HCK6.out)
      have HPV:Hid (∀ Y,Ext W Y → z0h (Old Y) Y (.slice at_ k ct) (ofP P)):=hid (fun Y hY => by
       have h:=HP.out Y hY
       rw [HTS.out] at h
       exact h)
      have HSA2:=hid (fun (Y:World) (hY:Ext w5 Y) => SA.out.ext hY)
      have HTM:Hid (mayT T.poly = true):=hid (by rw [HTP.out]; exact HF.out.whole.may)
      have HTT:Hid (zra T.poly):=hid (fun t ht => Nat.le_trans (HF.out.whole.lens t (by rw [← HTP.out]; exact ht)) (by decide))
      have HEV:Hid (evQ (gM s.pts) (z0l P) = 0 ↔ evQ (gM s.pts) P = 0):=hid (zc6 HF.out.can HP0.out)
      have HX59:=hid (HXS0.out.trans HX9.out)
      have HCK6_:=hid HCK6.out
      clear HM6 HX HCK6
      go_wp2_with fail
      with_reducible refine (zn0 (HPV.out wt HXT.out) HF.out (by decide) (by decide)).mono ?_
      rintro e w6 ⟨v6,rfl,hr6,hx6⟩
      have HX6:=hid (HX59.out.trans hx6)
      have HXR6:=hid (HX9.out.trans hx6)
      have CA:=zqn (K:=200) (E:=6) (V:=12) (n:=40) hr6 (HRATS.out w6 HXR6.out) HAT.out.1
      obtain ⟨BB,hBB⟩:∃ b,b = 40 * (200 + 31 * (6 * 12) + 1) + 1:=⟨_,rfl⟩
      rw [← hBB] at CA
      have CA:=hid CA
      have HBB:=hid hBB
      clear hr6 hx6 hBB
      go_wp2_with fail
      with_reducible refine CA.out.mono ?_
      rintro e w7 ⟨v7,rfl,hq7,hx7⟩
      have HX7:=hid (HX6.out.trans hx7)
      have HXR7:=hid (HXR6.out.trans hx7)
      have CS:=hid (zfa v7 _ BB w7 hq7 New.lt)
      clear hq7 hx7 CA
      go_wp2_with fail
      with_reducible refine CS.out.mono ?_
      rintro e w8 ⟨sg,rfl,hsg,hx8⟩
      have HX8:=hid (HX7.out.trans hx8)
      have HXR8:=hid (HXR7.out.trans hx8)
      obtain ⟨Z,hZ⟩:∃ Z,Z = decide (evQ (gM s.pts) P = 0):=⟨_,rfl⟩
      have hz1:(sg == 0) = Z:=by rw [hZ,Bool.eq_iff_iff,beq_iff_eq,decide_eq_true_eq]; exact hsg
      have HZ:=hid hZ
      have HZ1:=hid hz1
      clear hsg hx8 hZ hz1 CS
      go_upto_region 30 with fail
      rw [HZ1.out]
      clear HZ1
      obtain ⟨-,-,⟨e0,e1,e2⟩,-,-⟩:=HSA2.out w8 HX8.out
      have CM:=hid (zkg (S:=Old w8) (.slice ap4 T.poly.length cp4) T.poly w8 (HSA2.out w8 HX8.out).2.2.2.2 (fun _ h => h) HTT.out)
      rw [HTM.out] at CM
      go_wp2_with fail
      with_reducible refine CM.out.mono ?_
      rintro e w9 ⟨rfl,hx9⟩
      have HX10:=hid (HX8.out.trans hx9)
      have HXR9:=hid (HXR8.out.trans hx9)
      have HPW:Hid (z0h (Old w9) w9 (.slice ap4 T.poly.length cp4) (ofP (z0l P))):=hid (by have h:=(HSA2.out w9 HX10.out).2.2.2.2; rw [HTP.out] at h ⊢; exact h)
      obtain ⟨-,-,⟨e0,e1,e2⟩,-,-⟩:=HSA2.out w9 HX10.out
      clear hx9 CM
      go_wp2_with fail
      with_reducible refine (zn0 HPW.out HF.out.whole (by decide) (by decide)).mono ?_
      rintro e w10 ⟨v10,rfl,hr10,hx10⟩
      have HX11:=hid (HX10.out.trans hx10)
      have HXR10:=hid (HXR9.out.trans hx10)
      have CA:=zqn (K:=200) (E:=6) (V:=12) (n:=40) hr10 (HRATS.out w10 HXR10.out) HAT.out.2
      rw [← HBB.out] at CA
      have CA:=hid CA
      clear hr10 hx10 e0 e1 e2 HPW
      go_wp2_with fail
      with_reducible refine CA.out.mono ?_
      rintro e w11 ⟨v11,rfl,hq11,hx11⟩
      have HX12_:=hid (HX11.out.trans hx11)
      have CS:=hid (zfa v11 _ BB w11 hq11 New.lt)
      clear hq11 hx11 CA
      go_wp2_with fail
      with_reducible refine CS.out.mono ?_
      rintro e w12 ⟨sg2,rfl,hsg,hx12⟩
      have HX13:=hid (HX12_.out.trans hx12)
      have HZ1:Hid ((sg2 == 0) = Z):=hid (by rw [HZ.out,Bool.eq_iff_iff,beq_iff_eq,decide_eq_true_eq]; exact hsg.trans HEV.out)
      clear hsg hx12 CS
      obtain ⟨-,-,⟨e0,e1,e2⟩,-,-⟩:=HSA2.out w12 HX13.out
      have z1:(sg2 == 0) = Z:=HZ1.out
      have z2:(Z != Z) = false:=by cases Z <;> rfl
      go_upto_region 32 with fail
      clear z1 z2 e0 e1 e2 HZ1
      obtain ⟨-,-,⟨e0,e1,e2⟩,-,-⟩:=HSA2.out w12 HX13.out
      by_cases hw:(T.word.toList == []) = true
      ·have h0:(((T.pts.length:Nat):Int) == 0) = true:=by
        have h:=zja lay3 (z0l P)
        rw [HT.out] at h
        rw [← h]
        exact hw
       go_wp2_with fail
       with_reducible refine (z2i _).mono ?_
       rintro e wz ⟨rfl,hxz⟩
       have HXZ:=hid ((HXW5.out.trans HX13.out).trans hxz)
       clear hxz
       go_wp2
       all_goals
        go_ret
        exact ⟨rfl,HXZ.out⟩
      have hw2:(T.word.toList == []) = false:=by simpa using hw
      clear hw
      obtain ⟨cs,hcs1,hcs2,hcs3,hcs4⟩:=zjc (pts:=s.pts) HF.out.can HP0.out (by rw [HT.out]; exact hw2)
      rw [HT.out] at hcs1 hcs2 hcs3 hcs4
      have HCS1:=hid hcs1
      have HCS2:=hid hcs2
      have HCS3:=hid hcs3
      have HCS4:=hid hcs4
      have HTB:Hid (T.pts.length ≤ 1000):=hid (by have h:=(zfx lay3 (z0l P)).2; rw [HT.out] at h; exact h)
      have HX213:=hid (HX5.out.trans HX13.out)
      have HX013:=hid (HX05.out.trans HX13.out)
      clear hcs1 hcs2 hcs3 hcs4
      go_upto_region 34 with fail
      clear hw2
      go_wp2
      go_loopw [18,127] (fun o i wr => ∃ (j:Nat) (xs:List Value),j ≤ T.pts.length ∧ i = .int .i64 (j:Nat) ∧ Hid (wr.ownsRow w12.heap.size 67 8 o j xs) ∧ Hid (SpR (z37 w12 wr o) wr xs ((cs.take j).map (spQ s.pts))) ∧ Hid (Ext w12 wr)) (fun _ i _ => T.pts.length - (intOf i).toNat)
      case atStart => exact ⟨0,[],by omega,rfl,hid (World.ownsRow_nil _ _ _ _),hid (SpR.nil _ _),hid (Ext.refl _)⟩
      case round =>
       obtain ⟨j,xs,hj,rfl,HO,HR,HX⟩:=hrel
       obtain ⟨wj,hwj⟩:∃ Y,Y = wr:=⟨_,rfl⟩
       rw [← hwj] at HO HR HX ⊢
       clear hwj
       have HXJ:=hid (HX13.out.trans HX.out)
       by_cases hlt:j < T.pts.length
       ·obtain ⟨nm,hnm⟩:=z00 (l:=T.pts) (j:=j) hlt
        obtain ⟨c,hcj,hpl⟩:=zea HCS3.out hnm
        obtain ⟨r,hr3,hix,hcr⟩:=zjd hpl
        have HTK:Hid ((cs.take (j + 1)).map (spQ s.pts) = (cs.take j).map (spQ s.pts) ++ [(putQ (valI (s.x (2 * r)).1) (valI (s.x (2 * r)).2),putQ (valI (s.x (2 * r + 1)).1) (valI (s.x (2 * r + 1)).2))]):=hid (by
         rw [List.take_add_one,hcj,← zu6 s hr3,← hcr]
         simp)
        have HR3:=hid hr3
        have HIXN:=hid hix
        obtain ⟨bp,op,hao,-,hp1,hp2,-,hp3⟩:=(HSA2.out wj HXJ.out).2.2.2.1.cellAt hnm
        obtain ⟨d0,d1,d2,d3⟩:=HSA.out wj (HX5.out.trans HXJ.out)
        have CI:=zpn (HQ2.out wj (HX5.out.trans HXJ.out)) nm (fun _ h => h)
        rw [hix] at CI
        have CI:=hid CI
        have q0:decide ((r:Int) < 0) = false:=decide_eq_false (by omega)
        clear hnm hcj hpl hcr hix
        subst hao
        go_wp2_with fail
        with_reducible refine CI.out.mono ?_
        rintro e w13 ⟨rfl,hx13⟩
        have HX14:=hid (HX.out.trans hx13)
        have HO4:=hid (z0o HO.out hx13)
        have HR4:=hid (znc HR.out hx13)
        have HC8:=hid (fun (i:Nat) (u:Value) (hu) => HB3.out w13 ((HX05.out.trans HX13.out).trans HX14.out) (r * 8 + i) u (zne s HR3.out i u hu))
        have CO:=hid (zue _ _ _ _ _ w13 (zq8 HSIX.out ((HXW5.out.trans HX13.out).trans HX14.out) HR3.out) (by rw [← HSIX.out.l _ (by omega)]; exact (HCK6_.out _ (by omega)).1) (by rw [← HSIX.out.m _ (by omega)]; exact (HCK6_.out _ (by omega)).2) (by rw [← HSIX.out.l _ (by omega)]; exact (HCK6_.out _ (by omega)).1) (by rw [← HSIX.out.m _ (by omega)]; exact (HCK6_.out _ (by omega)).2))
        have c0:=HC8.out 0 _ rfl
        have c1:=HC8.out 1 _ rfl
        have c2:=HC8.out 2 _ rfl
        have c3:=HC8.out 3 _ rfl
        have c4:=HC8.out 4 _ rfl
        have c5:=HC8.out 5 _ rfl
        have c6:=HC8.out 6 _ rfl
        have c7:=HC8.out 7 _ rfl
        rw [Nat.add_zero] at c0
        clear hx13 HC8 HO HR
        have HJB:Hid (j ≤ 1000000000):=hid (by have:=HTB.out; omega)
        go_upto_region 41 with fail
        go_wp2_with fail
        with_reducible refine CO.out.mono ?_
        rintro e w14 ⟨v14,rfl,hsp,hx14⟩
        have HO5:=hid (z0o HO4.out hx14)
        have HR5:=hid (znc HR4.out hx14)
        have HP5:=hid (zu5 HX14.out HO4.out hsp)
        have HX15:=hid (HX14.out.trans hx14)
        obtain ⟨n1,a1,l1,x1,n2,a2,l2,x2,n3,a3,l3,x3,n4,a4,l4,x4,rfl,-,-⟩:=hsp
        clear hx14 c0 c1 c2 c3 c4 c5 c6 c7
        go_wp2_with (at_builtin; refine z09 _ rfl (.tmp 137) (.tmp 142) 64 rfl w12.heap.size 67 (.agg #[.bool false,.slice none 0 0,.bool false,.slice none 0 0,.bool false,.slice none 0 0,.bool false,.slice none 0 0]) 8 128 Tryz.underlying64 Tryz.infoSpotR rfl (by decide) _ _ _ rfl HO5.out #[.bool n1,.slice a1 l1 x1,.bool n2,.slice a2 l2 x2,.bool n3,.slice a3 l3 x3,.bool n4,.slice a4 l4 x4] rfl zje rfl HJB.out (by decide) HX15.out.size ?_; intro v15 w15 hown hg hbk; have HOW:=hid hown; have HG15:=hid hg; have HBK:=hid hbk; clear hown hg hbk)
        go_roundw
        case rel =>
         refine ⟨j + 1,xs ++ (#[.bool n1,.slice a1 l1 x1,.bool n2,.slice a2 l2 x2,.bool n3,.slice a3 l3 x3,.bool n4,.slice a4 l4 x4]:Array Value).toList,by omega,by go_num,HOW,hid ?_,hid (z1f HX15.out HO5.out HG15.out)⟩
         rw [HTK.out]
         exact znd (HR5.out.snoc HP5.out) HG15.out HBK.out (Nat.le_succ _)
        case measure => simp only [intOf]; omega
       ·obtain rfl:j = T.pts.length:=by omega
        have hrz:=HR.out
        rw [HCS2.out,List.take_length] at hrz
        obtain ⟨g,cap,hv,hcap,hspt⟩:=zq7 HO.out hrz (fun k hk => hk.1.2) (by rw [List.length_map]; exact HCS2.out) (by rw [HCS2.out]; exact zsq HCS1.out)
        have CC:=hid (zsp (wd:=T.word) (n:=T.pts.length) (cap:=cap) (by rw [List.length_map]; exact HCS1.out) (by rw [List.length_map]; exact HCS2.out) hcap hspt)
        subst hv
        obtain ⟨-,-,⟨e0,e1,e2⟩,-,-⟩:=HSA2.out wj HXJ.out
        clear hrz hspt HO HR
        go_wp2_with fail
        with_reducible refine CC.out.mono ?_
        rintro e w16 ⟨v16,rfl,hq16,hx16⟩
        have HQ16:=hid (hq16.to (S':=Old w16) (Kept.refl _ _) New.lt)
        have CS:=hid (fun (Y:World) (hY:Ext w16 Y) => zfa v16 _ 253 Y (HQ16.out.on hY) (fun _ h => h))
        have HX16:=hid (HXJ.out.trans hx16)
        obtain ⟨n1,a1,l1,x1,n2,a2,l2,x2,rfl⟩:=hq16.formB
        clear hq16 hx16 e0 e1 e2 CC
        go_wp2_with fail
        with_reducible refine (CS.out _ ((Ext.refl _).alloc _)).mono ?_
        rintro e w18 ⟨sg3,rfl,hsg,hx18⟩
        have HX18:=hid ((HX16.out.alloc (.cells #[.bool n1,.slice a1 l1 x1,.bool n2,.slice a2 l2 x2] 58)).trans hx18)
        have z1:(sg3 == 0) = Z:=by rw [HZ.out,Bool.eq_iff_iff,beq_iff_eq,decide_eq_true_eq]; exact hsg.trans HCS4.out
        have z2:(Z == Z) = true:=by cases Z <;> rfl
        clear hsg hx18 CS
        go_wp2_with fail
        with_reducible refine (z2i _).mono ?_
        rintro e wz ⟨rfl,hxz⟩
        have HXZ:=hid ((HXW5.out.trans HX18.out).trans hxz)
        clear hxz
        go_wp2
        all_goals
         go_ret
         exact ⟨rfl,HXZ.out⟩
end
section
open Go.RowKit Go.Deep Go.ChangeShapes Go.WideShapes Go.ChangeAt
theorem zaf (os:Os) (started:os.Started) (H:Type) (enc:TypeId × Value → H) :
  ReturnsInHanded {} Tryz.checked os 3 .any (Rows.sideSenseSpec.pre6 enc Tryz.prog Tryz.f3 Rows.sideSenseRow.domain false) (Rows.sideSenseSpec.post enc Tryz.prog Tryz.f3 false true false false):=by
 refine returnsInHanded_of_change (C:=Tryz.checked) Tryz.own started (by kernel_rfl) Tryz.func3
  (ChangeSpec.witness6 (enc:=enc) (C:=Tryz.checked) false ⟨#[],#[.slice none 0 0,.agg #[.bool false,.slice none 0 0,.bool false,.slice none 0 0,.bool false,.slice none 0 0,.bool false,.slice none 0 0,.bool false,.slice none 0 0,.bool false,.slice none 0 0,.bool false,.slice none 0 0,.bool false,.slice none 0 0,.bool false,.slice none 0 0,.bool false,.slice none 0 0,.bool false,.slice none 0 0,.bool false,.slice none 0 0]],[]⟩ 8 (by kernel_rfl) (by kernel_rfl) (by kernel_rfl) (by kernel_rfl)) ?_
 intro W base args ds gs before hval0 hW _ _
 have hval:∀ (j:Nat) t v,Tryz.f3.params[j]? = some t → args[j]? = some v → Value.okWide Tryz.prog W .any base t v:=hval0
 have hW':=hW
 obtain ⟨p,q,hA0,hV,_,_,_⟩:=hW'
 have hA:DataW.TrodAll enc Tryz.prog W 0 (fun _ => true) true Tryz.f3.params.toList args.toList ds p:=hA0
 rw [Tryz.params3] at hA hval
 obtain ⟨v0,v1,d0,d1,p0,p1,rfl,rfl,rfl,h0,h1⟩:=trodAll_two hA
 obtain ⟨rfl,rfl⟩:=trodVars_none hV
 obtain ⟨fuel0,hf0⟩:=h0
 rw [zfh Tryz.underlying23 (hval 0 _ v0 rfl rfl)] at hf0
 obtain ⟨ts,hts⟩:=zhw hf0
 obtain ⟨s,rfl,hs⟩:=zss (hval 1 _ v1 rfl rfl) h1
 refine (zg0 hts hs).mono fun e W' h => ?_
 obtain ⟨rfl,hb⟩:=h
 exact ⟨_,rfl,zp8 hW rfl rfl rfl (by rw [Tryz.params3]; intro t ht; simp at ht; rcases ht with rfl | rfl <;> exact ⟨by kernel_rfl,by decide +kernel⟩) hb⟩
theorem sidesense_holds:Rows.SideSenseSaid :=
 OpenClaim.holds_of_wide 3 Tryz.f3 rfl rfl rfl rfl rfl rfl rfl ⟨rfl,rfl,rfl,rfl,rfl⟩ rfl rfl rfl rfl rfl (by kernel_rfl) Tryz.func3 (by kernel_rfl)
  (of_decide_eq_true (by kernel_rfl)) (by unfold Func.isWrapper; first | (rw [if_pos (by decide +kernel)]; kernel_rfl) | (rw [if_neg (by decide +kernel)]; exact ⟨rfl,rfl⟩))
  (fun os started H enc _ => zaf os started H enc)
end
end Go.Proofs.YtbfflodidkfphaaGreat
