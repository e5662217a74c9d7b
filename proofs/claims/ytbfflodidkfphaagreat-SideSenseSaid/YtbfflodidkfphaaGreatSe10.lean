/- The document's figures over coordinates: two ways crossed, and their dot. A meter, or none, as one value: what its methods do; polynomials that lie apart from it. A polynomial times a term; a variable's power. The program's division: the head, a power, the other sign, the term of a step. Products of polynomials whose numbers have any lengths. Coordinates of a way between two points, as polynomials; sums, differences and products of small polynomials. Products of two ways, as polynomials. A condition's polynomial: of spots that are known. The document's figures over coordinates: spots, names, conditions. The document's figures over coordinates: names and conditions. Products of two ways, the document's. How many points a condition's word asks: a map that is laid, filled and asked once. A condition's polynomial: of names in a layout. -/
import Derived.Deep.RegionWith
import Derived.Deep.DeepCutAuto
import Derived.Carry
import Derived.WalkKit
import Derived.Maps.Own
import Derived.Maps.OwnOps
import Derived.Maps.Views
import Derived.StringKeys
import Derived.Test.YtbfflodidkfphaaGreatSe9
set_option maxRecDepth 100000
set_option maxHeartbeats 16000000
namespace Go.Proofs.YtbfflodidkfphaaGreat
section
open Go.RowKit
theorem zh4 (u1 u2 u3 u4:Value) (p1 q1 p2 q2 p3 q3 p4 q4:Rat) (B:Nat) (w:World) (h1:SP (Old w) w u1 p1 q1 B) (h2:SP (Old w) w u2 p2 q2 B) (h3:SP (Old w) w u3 p3 q3 B) (h4:SP (Old w) w u4 p4 q4 B) (hB:8 * B + 5 ≤ 800000) :
  Calls Tryz.prog 47 #[u1,u2,u3,u4] w fun e w' => ∃ v',e = .returned v' ∧ QR (New w w') w' v' ((p2 - p1) * (q4 - q3) - (q2 - q1) * (p4 - p3)) (8 * B + 5) ∧ Ext w w':=by
 have HU1:=hid (fun (Y:World) (hY:Ext w Y) => h1.on hY)
 have HU2:=hid (fun (Y:World) (hY:Ext w Y) => h2.on hY)
 have HU3:=hid (fun (Y:World) (hY:Ext w Y) => h3.on hY)
 have HU4:=hid (fun (Y:World) (hY:Ext w Y) => h4.on hY)
 obtain ⟨n1,a1,l1,c1,m1,d1,k1,e1,n2,a2,l2,c2,m2,d2,k2,e2,rfl,-,-⟩:=h1
 obtain ⟨n3,a3,l3,c3,m3,d3,k3,e3,n4,a4,l4,c4,m4,d4,k4,e4,rfl,-,-⟩:=h2
 obtain ⟨n5,a5,l5,c5,m5,d5,k5,e5,n6,a6,l6,c6,m6,d6,k6,e6,rfl,-,-⟩:=h3
 obtain ⟨n7,a7,l7,c7,m7,d7,k7,e7,n8,a8,l8,c8,m8,d8,k8,e8,rfl,-,-⟩:=h4
 obtain ⟨wb,hwb⟩:∃ Y,Y = (((w.alloc (.cells #[.bool n1,.slice a1 l1 c1,.bool m1,.slice d1 k1 e1,.bool n2,.slice a2 l2 c2,.bool m2,.slice d2 k2 e2] 67)).alloc (.cells #[.bool n3,.slice a3 l3 c3,.bool m3,.slice d3 k3 e3,.bool n4,.slice a4 l4 c4,.bool m4,.slice d4 k4 e4] 67)).alloc (.cells #[.bool n5,.slice a5 l5 c5,.bool m5,.slice d5 k5 e5,.bool n6,.slice a6 l6 c6,.bool m6,.slice d6 k6 e6] 67)).alloc (.cells #[.bool n7,.slice a7 l7 c7,.bool m7,.slice d7 k7 e7,.bool n8,.slice a8 l8 c8,.bool m8,.slice d8 k8 e8] 67):=⟨_,rfl⟩
 obtain ⟨w0,hw0⟩:∃ Y,Y = wb.alloc (.cells #[.bool false,.slice none 0 0,.bool false,.slice none 0 0] 58):=⟨_,rfl⟩
 have HXB:Hid (Ext w wb):=hid (by rw [hwb]; exact (((Ext.alloc (Ext.refl _) _).alloc _).alloc _).alloc _)
 have HXB0:Hid (Ext wb w0):=hid (by rw [hw0]; exact Ext.alloc (Ext.refl _) _)
 have HX0:=hid (HXB.out.trans HXB0.out)
 have HSB:Hid (wb.heap.size = w.heap.size + 4):=hid (by rw [hwb]; simp only [size_alloc])
 have HS0:Hid (w0.heap.size = w.heap.size + 5):=hid (by rw [hw0,size_alloc,HSB.out])
 have HSS:=hid (fun (Y:World) (hY:Ext wb Y) => by
  rw [hwb] at hY
  exact And.intro (box8_new (b:=w.heap.size) rfl ((((Ext.alloc (Ext.refl _) _).alloc _).alloc _).trans hY)) (And.intro (box8_new (b:=w.heap.size + 1) (by rw [size_alloc]) (((Ext.alloc (Ext.refl _) _).alloc _).trans hY)) (And.intro (box8_new (b:=w.heap.size + 1 + 1) (by rw [size_alloc,size_alloc]) ((Ext.alloc (Ext.refl _) _).trans hY)) (box8_new (b:=w.heap.size + 1 + 1 + 1) (by rw [size_alloc,size_alloc,size_alloc]) hY))))
 have HBR:=hid (fun (Y:World) (hY:Ext w0 Y) => by
  rw [hw0] at hY
  exact box4_new (b:=w.heap.size + 1 + 1 + 1 + 1) (by rw [HSB.out]) hY)
 have HW0:Hid (w0 = _):=hid (by rw [hw0,hwb])
 have C1:=hid (fun (Y:World) (hY:Ext w Y) => rs_x _ _ p1 q1 p2 q2 B Y (HU1.out Y hY) (HU2.out Y hY) (by omega))
 have C2:=hid (fun (Y:World) (hY:Ext w Y) => rs_y _ _ p3 q3 p4 q4 B Y (HU3.out Y hY) (HU4.out Y hY) (by omega))
 have C3:=hid (fun (Y:World) (u v:Value) (hu:QR (Old Y) Y u (p2 - p1) (B + B + 1)) (hv:QR (Old Y) Y v (q4 - q3) (B + B + 1)) => zh3 u v (p2 - p1) (q4 - q3) (B + B + 1) (B + B + 1) Y hu hv (by omega))
 have C4:=hid (fun (Y:World) (hY:Ext w Y) => rs_y _ _ p1 q1 p2 q2 B Y (HU1.out Y hY) (HU2.out Y hY) (by omega))
 have C5:=hid (fun (Y:World) (hY:Ext w Y) => rs_x _ _ p3 q3 p4 q4 B Y (HU3.out Y hY) (HU4.out Y hY) (by omega))
 have C6:=hid (fun (Y:World) (u v:Value) (hu:QR (Old Y) Y u (q2 - q1) (B + B + 1)) (hv:QR (Old Y) Y v (p4 - p3) (B + B + 1)) => zh3 u v (q2 - q1) (p4 - p3) (B + B + 1) (B + B + 1) Y hu hv (by omega))
 have C7:=hid (fun (Y:World) (u v:Value) (hu:QR (Old Y) Y u ((p2 - p1) * (q4 - q3)) ((B + B + 1) + (B + B + 1))) (hv:QR (Old Y) Y v ((q2 - q1) * (p4 - p3)) ((B + B + 1) + (B + B + 1))) => zmo u v ((p2 - p1) * (q4 - q3)) ((q2 - q1) * (p4 - p3)) ((B + B + 1) + (B + B + 1)) ((B + B + 1) + (B + B + 1)) Y hu hv (by omega))
 have HFIN:=hid (show (((B + B + 1) + (B + B + 1)) + ((B + B + 1) + (B + B + 1)) + 1) = 8 * B + 5 by omega)
 clear hwb hw0
 go_enter Tryz.func47,Tryz.ntmps47
 go_upto_region 1 with fail
 rw [← HW0.out]
 have HX00:=hid (show Ext w0 w0.drew from (Ext.refl w0).drew)
 go_cut [] (fun wx => ∃ bn vn bd vd,Hid (z39 wx (w.heap.size + 1 + 1 + 1 + 1) (.bool bn) vn (.bool bd) vd ∧ QR (New w wx) wx (.agg #[.bool bn,vn,.bool bd,vd]) ((p2 - p1) * (q4 - q3) - (q2 - q1) * (p4 - p3)) (8 * B + 5) ∧ Ext w wx))
 case first =>
  go_region_held3 (fun Y => ((Y.cell? ⟨w.heap.size,0,none⟩ = some (.bool n1) ∧ Y.cell? ⟨w.heap.size,1,none⟩ = some (.slice a1 l1 c1) ∧ Y.cell? ⟨w.heap.size,2,none⟩ = some (.bool m1) ∧ Y.cell? ⟨w.heap.size,3,none⟩ = some (.slice d1 k1 e1)) ∧ Y.cell? ⟨w.heap.size,4,none⟩ = some (.bool n2) ∧ Y.cell? ⟨w.heap.size,5,none⟩ = some (.slice a2 l2 c2) ∧ Y.cell? ⟨w.heap.size,6,none⟩ = some (.bool m2) ∧ Y.cell? ⟨w.heap.size,7,none⟩ = some (.slice d2 k2 e2)) ∧ ((Y.cell? ⟨w.heap.size + 1,0,none⟩ = some (.bool n3) ∧ Y.cell? ⟨w.heap.size + 1,1,none⟩ = some (.slice a3 l3 c3) ∧ Y.cell? ⟨w.heap.size + 1,2,none⟩ = some (.bool m3) ∧ Y.cell? ⟨w.heap.size + 1,3,none⟩ = some (.slice d3 k3 e3)) ∧ Y.cell? ⟨w.heap.size + 1,4,none⟩ = some (.bool n4) ∧ Y.cell? ⟨w.heap.size + 1,5,none⟩ = some (.slice a4 l4 c4) ∧ Y.cell? ⟨w.heap.size + 1,6,none⟩ = some (.bool m4) ∧ Y.cell? ⟨w.heap.size + 1,7,none⟩ = some (.slice d4 k4 e4)) ∧ ((Y.cell? ⟨w.heap.size + 1 + 1,0,none⟩ = some (.bool n5) ∧ Y.cell? ⟨w.heap.size + 1 + 1,1,none⟩ = some (.slice a5 l5 c5) ∧ Y.cell? ⟨w.heap.size + 1 + 1,2,none⟩ = some (.bool m5) ∧ Y.cell? ⟨w.heap.size + 1 + 1,3,none⟩ = some (.slice d5 k5 e5)) ∧ Y.cell? ⟨w.heap.size + 1 + 1,4,none⟩ = some (.bool n6) ∧ Y.cell? ⟨w.heap.size + 1 + 1,5,none⟩ = some (.slice a6 l6 c6) ∧ Y.cell? ⟨w.heap.size + 1 + 1,6,none⟩ = some (.bool m6) ∧ Y.cell? ⟨w.heap.size + 1 + 1,7,none⟩ = some (.slice d6 k6 e6)) ∧ ((Y.cell? ⟨w.heap.size + 1 + 1 + 1,0,none⟩ = some (.bool n7) ∧ Y.cell? ⟨w.heap.size + 1 + 1 + 1,1,none⟩ = some (.slice a7 l7 c7) ∧ Y.cell? ⟨w.heap.size + 1 + 1 + 1,2,none⟩ = some (.bool m7) ∧ Y.cell? ⟨w.heap.size + 1 + 1 + 1,3,none⟩ = some (.slice d7 k7 e7)) ∧ Y.cell? ⟨w.heap.size + 1 + 1 + 1,4,none⟩ = some (.bool n8) ∧ Y.cell? ⟨w.heap.size + 1 + 1 + 1,5,none⟩ = some (.slice a8 l8 c8) ∧ Y.cell? ⟨w.heap.size + 1 + 1 + 1,6,none⟩ = some (.bool m8) ∧ Y.cell? ⟨w.heap.size + 1 + 1 + 1,7,none⟩ = some (.slice d8 k8 e8))) (first | exact HSS.out _ (HXB0.out.trans HX00.out) | exact HSS.out _ (HXB0.out.trans HX01.out) | exact HSS.out _ (HXB0.out.trans HX02.out) | exact HSS.out _ (HXB0.out.trans HX03.out) | exact HSS.out _ (HXB0.out.trans HX04.out) | exact HSS.out _ (HXB0.out.trans HX05.out) | exact HSS.out _ (HXB0.out.trans HX06.out) | exact HSS.out _ (HXB0.out.trans HX07.out) | exact HSS.out _ (z1k (HXB0.out.trans HX07.out) (by rw [HSB.out]; omega) _ _ _ _))
   (first
    | (go_at_call 82; (with_reducible refine (C1.out _ (HX0.out.trans HX00.out)).mono ?_); rintro e w1 ⟨v1,rfl,hq1,hx1⟩; have HX01:=hid (HX00.out.trans hx1); have HR1_1:=hid (hq1.to (Kept.refl _ _) New.lt); obtain ⟨x1_,x2_,x3_,x4_,x5_,x6_,x7_,x8_,rfl⟩:=hq1.formB; clear hq1 hx1)
    | (go_at_call 83; (with_reducible refine (C2.out _ (HX0.out.trans HX01.out)).mono ?_); rintro e w2 ⟨v2,rfl,hq2,hx2⟩; have HX02:=hid (HX01.out.trans hx2); have HR1_2:=hid (HR1_1.out.on hx2); have HR2_2:=hid (hq2.to (Kept.refl _ _) New.lt); obtain ⟨x1_,x2_,x3_,x4_,x5_,x6_,x7_,x8_,rfl⟩:=hq2.formB; clear hq2 hx2)
    | (go_at_call 81; (with_reducible refine (C3.out _ _ _ HR1_2.out HR2_2.out).mono ?_); rintro e w3 ⟨v3,rfl,hq3,hx3⟩; have HX03:=hid (HX02.out.trans hx3); have HR3_3:=hid (hq3.to (Kept.refl _ _) New.lt); obtain ⟨x1_,x2_,x3_,x4_,x5_,x6_,x7_,x8_,rfl⟩:=hq3.formB; clear hq3 hx3)
    | (go_at_call 83; (with_reducible refine (C4.out _ (HX0.out.trans HX03.out)).mono ?_); rintro e w4 ⟨v4,rfl,hq4,hx4⟩; have HX04:=hid (HX03.out.trans hx4); have HR3_4:=hid (HR3_3.out.on hx4); have HR4_4:=hid (hq4.to (Kept.refl _ _) New.lt); obtain ⟨x1_,x2_,x3_,x4_,x5_,x6_,x7_,x8_,rfl⟩:=hq4.formB; clear hq4 hx4)
    | (go_at_call 82; (with_reducible refine (C5.out _ (HX0.out.trans HX04.out)).mono ?_); rintro e w5 ⟨v5,rfl,hq5,hx5⟩; have HX05:=hid (HX04.out.trans hx5); have HR3_5:=hid (HR3_4.out.on hx5); have HR4_5:=hid (HR4_4.out.on hx5); have HR5_5:=hid (hq5.to (Kept.refl _ _) New.lt); obtain ⟨x1_,x2_,x3_,x4_,x5_,x6_,x7_,x8_,rfl⟩:=hq5.formB; clear hq5 hx5)
    | (go_at_call 81; (with_reducible refine (C6.out _ _ _ HR4_5.out HR5_5.out).mono ?_); rintro e w6 ⟨v6,rfl,hq6,hx6⟩; have HX06:=hid (HX05.out.trans hx6); have HR3_6:=hid (HR3_5.out.on hx6); have HR6_6:=hid (hq6.to (Kept.refl _ _) New.lt); obtain ⟨x1_,x2_,x3_,x4_,x5_,x6_,x7_,x8_,rfl⟩:=hq6.formB; clear hq6 hx6)
    | (go_at_call 84; (with_reducible refine (C7.out _ _ _ HR3_6.out HR6_6.out).mono ?_); rintro e w7 ⟨v7,rfl,hq7,hx7⟩; have HX07:=hid (HX06.out.trans hx7); have HQZ:=hid (hq7.to (S':=New w0 w7) (Kept.refl _ _) (fun k h => ⟨Nat.le_trans HX06.out.size h.1,h.2⟩)); obtain ⟨x1_,x2_,x3_,x4_,x5_,x6_,x7_,x8_,rfl⟩:=hq7.formB; obtain ⟨⟨g0,g1,g2,g3⟩,f0,f1,f2,f3⟩:=HBR.out _ HX07.out; clear hq7 hx7)
    | fail)
  all_goals
   go_wp2_with fail
   go_meet
   have hr:=z5x (w:=w) (w0:=w0) (b:=w.heap.size + 1 + 1 + 1 + 1) (by omega) HX0.out (by rw [HS0.out]; omega) HX07.out ⟨g0,g1,g2,g3⟩ HQZ.out
   rw [HFIN.out] at hr
   with_reducible exact ⟨_,_,_,_,hid hr⟩
 case rest =>
  obtain ⟨bn,vn,bd,vd,HQ⟩:=hcut
  obtain ⟨k0_,k1_,k2_,k3_⟩:=HQ.out.1
  go_wp2
  all_goals
   refine bodyPost_ret (v:=.agg #[.bool bn,vn,.bool bd,vd]) (by simp [results,Tryz.results47,go_sem,k0_,k1_,k2_,k3_]) rfl ?_
   exact ⟨_,rfl,HQ.out.2.1,HQ.out.2.2⟩
theorem zqo (u1 u2 u3 u4:Value) (p1 q1 p2 q2 p3 q3 p4 q4:Rat) (B:Nat) (w:World) (h1:SP (Old w) w u1 p1 q1 B) (h2:SP (Old w) w u2 p2 q2 B) (h3:SP (Old w) w u3 p3 q3 B) (h4:SP (Old w) w u4 p4 q4 B) (hB:8 * B + 5 ≤ 800000) :
  Calls Tryz.prog 46 #[u1,u2,u3,u4] w fun e w' => ∃ v',e = .returned v' ∧ QR (New w w') w' v' ((p2 - p1) * (p4 - p3) + (q2 - q1) * (q4 - q3)) (8 * B + 5) ∧ Ext w w':=by
 have HU1:=hid (fun (Y:World) (hY:Ext w Y) => h1.on hY)
 have HU2:=hid (fun (Y:World) (hY:Ext w Y) => h2.on hY)
 have HU3:=hid (fun (Y:World) (hY:Ext w Y) => h3.on hY)
 have HU4:=hid (fun (Y:World) (hY:Ext w Y) => h4.on hY)
 obtain ⟨n1,a1,l1,c1,m1,d1,k1,e1,n2,a2,l2,c2,m2,d2,k2,e2,rfl,-,-⟩:=h1
 obtain ⟨n3,a3,l3,c3,m3,d3,k3,e3,n4,a4,l4,c4,m4,d4,k4,e4,rfl,-,-⟩:=h2
 obtain ⟨n5,a5,l5,c5,m5,d5,k5,e5,n6,a6,l6,c6,m6,d6,k6,e6,rfl,-,-⟩:=h3
 obtain ⟨n7,a7,l7,c7,m7,d7,k7,e7,n8,a8,l8,c8,m8,d8,k8,e8,rfl,-,-⟩:=h4
 obtain ⟨wb,hwb⟩:∃ Y,Y = (((w.alloc (.cells #[.bool n1,.slice a1 l1 c1,.bool m1,.slice d1 k1 e1,.bool n2,.slice a2 l2 c2,.bool m2,.slice d2 k2 e2] 67)).alloc (.cells #[.bool n3,.slice a3 l3 c3,.bool m3,.slice d3 k3 e3,.bool n4,.slice a4 l4 c4,.bool m4,.slice d4 k4 e4] 67)).alloc (.cells #[.bool n5,.slice a5 l5 c5,.bool m5,.slice d5 k5 e5,.bool n6,.slice a6 l6 c6,.bool m6,.slice d6 k6 e6] 67)).alloc (.cells #[.bool n7,.slice a7 l7 c7,.bool m7,.slice d7 k7 e7,.bool n8,.slice a8 l8 c8,.bool m8,.slice d8 k8 e8] 67):=⟨_,rfl⟩
 obtain ⟨w0,hw0⟩:∃ Y,Y = wb.alloc (.cells #[.bool false,.slice none 0 0,.bool false,.slice none 0 0] 58):=⟨_,rfl⟩
 have HXB:Hid (Ext w wb):=hid (by rw [hwb]; exact (((Ext.alloc (Ext.refl _) _).alloc _).alloc _).alloc _)
 have HXB0:Hid (Ext wb w0):=hid (by rw [hw0]; exact Ext.alloc (Ext.refl _) _)
 have HX0:=hid (HXB.out.trans HXB0.out)
 have HSB:Hid (wb.heap.size = w.heap.size + 4):=hid (by rw [hwb]; simp only [size_alloc])
 have HS0:Hid (w0.heap.size = w.heap.size + 5):=hid (by rw [hw0,size_alloc,HSB.out])
 have HSS:=hid (fun (Y:World) (hY:Ext wb Y) => by
  rw [hwb] at hY
  exact And.intro (box8_new (b:=w.heap.size) rfl ((((Ext.alloc (Ext.refl _) _).alloc _).alloc _).trans hY)) (And.intro (box8_new (b:=w.heap.size + 1) (by rw [size_alloc]) (((Ext.alloc (Ext.refl _) _).alloc _).trans hY)) (And.intro (box8_new (b:=w.heap.size + 1 + 1) (by rw [size_alloc,size_alloc]) ((Ext.alloc (Ext.refl _) _).trans hY)) (box8_new (b:=w.heap.size + 1 + 1 + 1) (by rw [size_alloc,size_alloc,size_alloc]) hY))))
 have HBR:=hid (fun (Y:World) (hY:Ext w0 Y) => by
  rw [hw0] at hY
  exact box4_new (b:=w.heap.size + 1 + 1 + 1 + 1) (by rw [HSB.out]) hY)
 have HW0:Hid (w0 = _):=hid (by rw [hw0,hwb])
 have C1:=hid (fun (Y:World) (hY:Ext w Y) => rs_x _ _ p1 q1 p2 q2 B Y (HU1.out Y hY) (HU2.out Y hY) (by omega))
 have C2:=hid (fun (Y:World) (hY:Ext w Y) => rs_x _ _ p3 q3 p4 q4 B Y (HU3.out Y hY) (HU4.out Y hY) (by omega))
 have C3:=hid (fun (Y:World) (u v:Value) (hu:QR (Old Y) Y u (p2 - p1) (B + B + 1)) (hv:QR (Old Y) Y v (p4 - p3) (B + B + 1)) => zh3 u v (p2 - p1) (p4 - p3) (B + B + 1) (B + B + 1) Y hu hv (by omega))
 have C4:=hid (fun (Y:World) (hY:Ext w Y) => rs_y _ _ p1 q1 p2 q2 B Y (HU1.out Y hY) (HU2.out Y hY) (by omega))
 have C5:=hid (fun (Y:World) (hY:Ext w Y) => rs_y _ _ p3 q3 p4 q4 B Y (HU3.out Y hY) (HU4.out Y hY) (by omega))
 have C6:=hid (fun (Y:World) (u v:Value) (hu:QR (Old Y) Y u (q2 - q1) (B + B + 1)) (hv:QR (Old Y) Y v (q4 - q3) (B + B + 1)) => zh3 u v (q2 - q1) (q4 - q3) (B + B + 1) (B + B + 1) Y hu hv (by omega))
 have C7:=hid (fun (Y:World) (u v:Value) (hu:QR (Old Y) Y u ((p2 - p1) * (p4 - p3)) ((B + B + 1) + (B + B + 1))) (hv:QR (Old Y) Y v ((q2 - q1) * (q4 - q3)) ((B + B + 1) + (B + B + 1))) => ztr u v ((p2 - p1) * (p4 - p3)) ((q2 - q1) * (q4 - q3)) ((B + B + 1) + (B + B + 1)) ((B + B + 1) + (B + B + 1)) Y hu hv (by omega))
 have HFIN:=hid (show (((B + B + 1) + (B + B + 1)) + ((B + B + 1) + (B + B + 1)) + 1) = 8 * B + 5 by omega)
 clear hwb hw0
 go_enter Tryz.func46,Tryz.ntmps46
 go_upto_region 1 with fail
 rw [← HW0.out]
 have HX00:=hid (show Ext w0 w0.drew from (Ext.refl w0).drew)
 go_cut [] (fun wx => ∃ bn vn bd vd,Hid (z39 wx (w.heap.size + 1 + 1 + 1 + 1) (.bool bn) vn (.bool bd) vd ∧ QR (New w wx) wx (.agg #[.bool bn,vn,.bool bd,vd]) ((p2 - p1) * (p4 - p3) + (q2 - q1) * (q4 - q3)) (8 * B + 5) ∧ Ext w wx))
 case first =>
  go_region_held3 (fun Y => ((Y.cell? ⟨w.heap.size,0,none⟩ = some (.bool n1) ∧ Y.cell? ⟨w.heap.size,1,none⟩ = some (.slice a1 l1 c1) ∧ Y.cell? ⟨w.heap.size,2,none⟩ = some (.bool m1) ∧ Y.cell? ⟨w.heap.size,3,none⟩ = some (.slice d1 k1 e1)) ∧ Y.cell? ⟨w.heap.size,4,none⟩ = some (.bool n2) ∧ Y.cell? ⟨w.heap.size,5,none⟩ = some (.slice a2 l2 c2) ∧ Y.cell? ⟨w.heap.size,6,none⟩ = some (.bool m2) ∧ Y.cell? ⟨w.heap.size,7,none⟩ = some (.slice d2 k2 e2)) ∧ ((Y.cell? ⟨w.heap.size + 1,0,none⟩ = some (.bool n3) ∧ Y.cell? ⟨w.heap.size + 1,1,none⟩ = some (.slice a3 l3 c3) ∧ Y.cell? ⟨w.heap.size + 1,2,none⟩ = some (.bool m3) ∧ Y.cell? ⟨w.heap.size + 1,3,none⟩ = some (.slice d3 k3 e3)) ∧ Y.cell? ⟨w.heap.size + 1,4,none⟩ = some (.bool n4) ∧ Y.cell? ⟨w.heap.size + 1,5,none⟩ = some (.slice a4 l4 c4) ∧ Y.cell? ⟨w.heap.size + 1,6,none⟩ = some (.bool m4) ∧ Y.cell? ⟨w.heap.size + 1,7,none⟩ = some (.slice d4 k4 e4)) ∧ ((Y.cell? ⟨w.heap.size + 1 + 1,0,none⟩ = some (.bool n5) ∧ Y.cell? ⟨w.heap.size + 1 + 1,1,none⟩ = some (.slice a5 l5 c5) ∧ Y.cell? ⟨w.heap.size + 1 + 1,2,none⟩ = some (.bool m5) ∧ Y.cell? ⟨w.heap.size + 1 + 1,3,none⟩ = some (.slice d5 k5 e5)) ∧ Y.cell? ⟨w.heap.size + 1 + 1,4,none⟩ = some (.bool n6) ∧ Y.cell? ⟨w.heap.size + 1 + 1,5,none⟩ = some (.slice a6 l6 c6) ∧ Y.cell? ⟨w.heap.size + 1 + 1,6,none⟩ = some (.bool m6) ∧ Y.cell? ⟨w.heap.size + 1 + 1,7,none⟩ = some (.slice d6 k6 e6)) ∧ ((Y.cell? ⟨w.heap.size + 1 + 1 + 1,0,none⟩ = some (.bool n7) ∧ Y.cell? ⟨w.heap.size + 1 + 1 + 1,1,none⟩ = some (.slice a7 l7 c7) ∧ Y.cell? ⟨w.heap.size + 1 + 1 + 1,2,none⟩ = some (.bool m7) ∧ Y.cell? ⟨w.heap.size + 1 + 1 + 1,3,none⟩ = some (.slice d7 k7 e7)) ∧ Y.cell? ⟨w.heap.size + 1 + 1 + 1,4,none⟩ = some (.bool n8) ∧ Y.cell? ⟨w.heap.size + 1 + 1 + 1,5,none⟩ = some (.slice a8 l8 c8) ∧ Y.cell? ⟨w.heap.size + 1 + 1 + 1,6,none⟩ = some (.bool m8) ∧ Y.cell? ⟨w.heap.size + 1 + 1 + 1,7,none⟩ = some (.slice d8 k8 e8))) (first | exact HSS.out _ (HXB0.out.trans HX00.out) | exact HSS.out _ (HXB0.out.trans HX01.out) | exact HSS.out _ (HXB0.out.trans HX02.out) | exact HSS.out _ (HXB0.out.trans HX03.out) | exact HSS.out _ (HXB0.out.trans HX04.out) | exact HSS.out _ (HXB0.out.trans HX05.out) | exact HSS.out _ (HXB0.out.trans HX06.out) | exact HSS.out _ (HXB0.out.trans HX07.out) | exact HSS.out _ (z1k (HXB0.out.trans HX07.out) (by rw [HSB.out]; omega) _ _ _ _))
   (first
    | (go_at_call 82; (with_reducible refine (C1.out _ (HX0.out.trans HX00.out)).mono ?_); rintro e w1 ⟨v1,rfl,hq1,hx1⟩; have HX01:=hid (HX00.out.trans hx1); have HR1_1:=hid (hq1.to (Kept.refl _ _) New.lt); obtain ⟨x1_,x2_,x3_,x4_,x5_,x6_,x7_,x8_,rfl⟩:=hq1.formB; clear hq1 hx1)
    | (go_at_call 82; (with_reducible refine (C2.out _ (HX0.out.trans HX01.out)).mono ?_); rintro e w2 ⟨v2,rfl,hq2,hx2⟩; have HX02:=hid (HX01.out.trans hx2); have HR1_2:=hid (HR1_1.out.on hx2); have HR2_2:=hid (hq2.to (Kept.refl _ _) New.lt); obtain ⟨x1_,x2_,x3_,x4_,x5_,x6_,x7_,x8_,rfl⟩:=hq2.formB; clear hq2 hx2)
    | (go_at_call 81; (with_reducible refine (C3.out _ _ _ HR1_2.out HR2_2.out).mono ?_); rintro e w3 ⟨v3,rfl,hq3,hx3⟩; have HX03:=hid (HX02.out.trans hx3); have HR3_3:=hid (hq3.to (Kept.refl _ _) New.lt); obtain ⟨x1_,x2_,x3_,x4_,x5_,x6_,x7_,x8_,rfl⟩:=hq3.formB; clear hq3 hx3)
    | (go_at_call 83; (with_reducible refine (C4.out _ (HX0.out.trans HX03.out)).mono ?_); rintro e w4 ⟨v4,rfl,hq4,hx4⟩; have HX04:=hid (HX03.out.trans hx4); have HR3_4:=hid (HR3_3.out.on hx4); have HR4_4:=hid (hq4.to (Kept.refl _ _) New.lt); obtain ⟨x1_,x2_,x3_,x4_,x5_,x6_,x7_,x8_,rfl⟩:=hq4.formB; clear hq4 hx4)
    | (go_at_call 83; (with_reducible refine (C5.out _ (HX0.out.trans HX04.out)).mono ?_); rintro e w5 ⟨v5,rfl,hq5,hx5⟩; have HX05:=hid (HX04.out.trans hx5); have HR3_5:=hid (HR3_4.out.on hx5); have HR4_5:=hid (HR4_4.out.on hx5); have HR5_5:=hid (hq5.to (Kept.refl _ _) New.lt); obtain ⟨x1_,x2_,x3_,x4_,x5_,x6_,x7_,x8_,rfl⟩:=hq5.formB; clear hq5 hx5)
    | (go_at_call 81; (with_reducible refine (C6.out _ _ _ HR4_5.out HR5_5.out).mono ?_); rintro e w6 ⟨v6,rfl,hq6,hx6⟩; have HX06:=hid (HX05.out.trans hx6); have HR3_6:=hid (HR3_5.out.on hx6); have HR6_6:=hid (hq6.to (Kept.refl _ _) New.lt); obtain ⟨x1_,x2_,x3_,x4_,x5_,x6_,x7_,x8_,rfl⟩:=hq6.formB; clear hq6 hx6)
    | (go_at_call 80; (with_reducible refine (C7.out _ _ _ HR3_6.out HR6_6.out).mono ?_); rintro e w7 ⟨v7,rfl,hq7,hx7⟩; have HX07:=hid (HX06.out.trans hx7); have HQZ:=hid (hq7.to (S':=New w0 w7) (Kept.refl _ _) (fun k h => ⟨Nat.le_trans HX06.out.size h.1,h.2⟩)); obtain ⟨x1_,x2_,x3_,x4_,x5_,x6_,x7_,x8_,rfl⟩:=hq7.formB; obtain ⟨⟨g0,g1,g2,g3⟩,f0,f1,f2,f3⟩:=HBR.out _ HX07.out; clear hq7 hx7)
    | fail)
  all_goals
   go_wp2_with fail
   go_meet
   have hr:=z5x (w:=w) (w0:=w0) (b:=w.heap.size + 1 + 1 + 1 + 1) (by omega) HX0.out (by rw [HS0.out]; omega) HX07.out ⟨g0,g1,g2,g3⟩ HQZ.out
   rw [HFIN.out] at hr
   with_reducible exact ⟨_,_,_,_,hid hr⟩
 case rest =>
  obtain ⟨bn,vn,bd,vd,HQ⟩:=hcut
  obtain ⟨k0_,k1_,k2_,k3_⟩:=HQ.out.1
  go_wp2
  all_goals
   refine bodyPost_ret (v:=.agg #[.bool bn,vn,.bool bd,vd]) (by simp [results,Tryz.results46,go_sem,k0_,k1_,k2_,k3_]) rfl ?_
   exact ⟨_,rfl,HQ.out.2.1,HQ.out.2.2⟩
end
section
open Go.RowKit
section
variable {o:Option Nat} {W W':World} {v:Value} {p:PZ} {s:MSt}
/-! The document's -/
end
end
section
open Go.RowKit
theorem zdt {w:World} {vm vo:Value} {t:RTerm} (h1:U32s (Old w) w vm t.c.mag) (h2:Pows (Old w) w vo t.m) (T:TypeId) :
  z0h (Old (w.alloc (.cells #[.bool t.c.neg,vm,vo] T))) (w.alloc (.cells #[.bool t.c.neg,vm,vo] T)) (.slice (some ⟨w.heap.size,0,none⟩) 1 1) [t]:=by
 have hx:Ext w (w.alloc (.cells #[.bool t.c.neg,vm,vo] T)):=Ext.alloc (Ext.refl w) _
 refine ⟨w.heap.size,0,⟨_,1,rfl,Nat.le_refl _,by decide,fun _ => rfl,fun _ => by show w.heap.size < (w.alloc _).heap.size; rw [size_alloc]; omega⟩,fun j u hj => ?_⟩
 have hj2:=z03 hj
 simp only [List.length_cons,List.length_nil] at hj2
 match j,hj with
 | 0,hj =>
  obtain rfl:t = u:=by simpa using hj
  exact ⟨vm,vo,z02 _ _ _ rfl rfl,z02 _ _ _ rfl rfl,z02 _ _ _ rfl rfl,h1.to (Kept.ext hx (fun _ h => h)) (fun k h => Nat.lt_of_lt_of_le h hx.size),h2.to (Kept.ext hx (fun _ h => h)) (fun k h => Nat.lt_of_lt_of_le h hx.size)⟩
 | j + 1,_ => omega
def oneZ (c:Int) (m:Mono):PZ:=if c = 0 then [] else [(c,m)]
theorem zh5 (c:Int) (m:Mono):z25 [(c,m)] = oneZ c m:=by
 unfold oneZ
 show putP [] c m = _
 rfl
theorem zpk {c:Int} {m:Mono} (h:mayM m = true):canP (oneZ c m):=by
 unfold oneZ
 split
 ·exact z33
 ·rename_i h0
  exact ⟨fun t ht => by rw [List.mem_singleton.1 ht]; exact ⟨h0,h⟩,List.pairwise_singleton _ _⟩
theorem zbx {c:Int} {m:Mono} {k:Nat} (h:mayM m = true) (hk:lenI c ≤ k):Fit k 1 (oneZ c m):=by
 refine ⟨zpk h,fun t ht => ?_,?_⟩
 ·unfold oneZ at ht
  split at ht
  ·simp at ht
  ·rw [List.mem_singleton.1 ht]; exact z28 hk (Nat.le_refl _)
 ·unfold oneZ
  split <;> simp
theorem zs9 {W:World} {u vc vm:Value} {p:PZ} {c:Int} {m:Mono} {k n l:Nat} (hp:PV W u p) (hc:IntV (Old W) W vc (ofI c)) (hm:Pows (Old W) W vm m) (fp:Fit k n p) (hmm:mayM m = true) (hcl:lenI c ≤ l) (h24:k < 24 ∨ l < 24) (hk:k ≤ 1000000) (hl:l ≤ 1000000) (hn:n ≤ 1000000000000) :
  Calls Tryz.prog 171 #[u,vc,vm] W (z5w W (z2n p (oneZ c m))):=by
 have hnot:∀ (x:Bool) (w:World),(Op.unary .not (.bool x)).run Tryz.prog w = .ok (.bool (!x)) w:=fun _ _ => rfl
 obtain ⟨vz,rfl,hz⟩:=hc
 have HP:=hid hp
 have HZ:=hid hz
 have HM:=hid hm
 have CM:=fun (Y:World) (hY:Ext W Y) => z2j (S:=Old W) vm m Y (hm.ext hY (fun _ h => h)) (fun k h => Nat.lt_of_lt_of_le h hY.size)
 simp only [hmm] at CM
 have HCM:=hid CM
 have f1:=zbx (m:=m) hmm hcl
 have CC:=hid (fun (Y:World) (hY:Ext W Y) => z4o (S:=Old (Y.alloc (.cells #[.bool (ofI c).neg,vz,vm] 49))) (.slice (some ⟨Y.heap.size,0,none⟩) 1 1) [⟨ofI c,m⟩] (Y.alloc (.cells #[.bool (ofI c).neg,vz,vm] 49)) 1000000
  (zdt (t:=⟨ofI c,m⟩) ((hz.ext hY (fun _ h => h)).to (Kept.refl _ _) (fun k h => Nat.lt_of_lt_of_le h hY.size)) ((hm.ext hY (fun _ h => h)).to (Kept.refl _ _) (fun k h => Nat.lt_of_lt_of_le h hY.size)) 49) (fun _ h => h) (fun t ht => by rw [List.mem_singleton.1 ht]; exact hmm) (fun t ht => by rw [List.mem_singleton.1 ht]; show (ofI c).mag.length ≤ _; rw [z4u]; omega) (by decide) (by simp))
 have e1:toP [⟨ofI c,m⟩] = [(c,m)]:=by unfold toP; simp [z1t]
 simp only [e1,zh5] at CC
 have CT:=hid (fun (Y:World) (u2:Value) (hY:Ext W Y) (hu:PV Y u2 (oneZ c m)) => zml (hp.on hY) hu fp f1 h24 hk hl (by omega))
 obtain ⟨ap,cp,rfl⟩:=hp.form
 obtain ⟨az,cz,rfl⟩:=hz.form
 obtain ⟨am,cm,rfl⟩:=hm.form
 obtain ⟨np,hnp⟩:∃ n,n = (ofP p).length:=⟨_,rfl⟩
 obtain ⟨nz,hnz⟩:∃ n,n = (ofI c).mag.length:=⟨_,rfl⟩
 obtain ⟨nm,hnm⟩:∃ n,n = m.length:=⟨_,rfl⟩
 obtain ⟨ng,hng⟩:∃ n,n = (ofI c).neg:=⟨_,rfl⟩
 rw [← hnp] at CT ⊢
 rw [← hnz,← hng] at CC ⊢
 rw [← hnm] at CC HCM ⊢
 generalize z2n p (oneZ c m) = o at *
 have HK:=hid (Ext.alloc (Ext.refl W) (.cells #[.bool ng,.slice az nz cz] 26))
 clear hp hz hm CM hmm hcl f1 e1 hnp hnz hnm hng
 go_enter Tryz.func171,Tryz.ntmps171
 go_wp2_with fail
 with_reducible refine (HCM.out _ HK.out).mono ?_
 rintro e w1 ⟨rfl,hx1⟩
 have k0:=hx1.new_cell (i:=0) rfl
 have k1:=hx1.new_cell (i:=1) rfl
 have HX1:=hid (HK.out.trans hx1)
 clear hx1
 go_wp2_with fail
 with_reducible refine (CC.out _ HX1.out).mono ?_
 rintro e w2 ⟨v2,rfl,hp2,hx2⟩
 have HX2:=hid ((HX1.out.alloc _).trans hx2)
 have CT2:=hid (CT.out w2 v2 HX2.out (hp2.to (Kept.refl _ _) New.lt))
 obtain ⟨a2,c2,rfl⟩:=hp2.form
 clear hp2 hx2 k0 k1
 go_wp2_with fail
 with_reducible refine CT2.out.mono ?_
 intro e w3 h3
 cases o with
 | none =>
  obtain ⟨rfl,hx3⟩:=h3
  have HX3:=hid (HX2.out.trans hx3)
  clear hx3
  go_wp2
  all_goals
   go_ret2
   exact ⟨rfl,HX3.out⟩
 | some x =>
  obtain ⟨v3,rfl,hp3,hx3⟩:=h3
  have HX3:=hid (HX2.out.trans hx3)
  have HP3:=hid (hp3.to (S':=New W w3) (Kept.refl _ _) (fun k h => ⟨Nat.le_trans HX2.out.size h.1,h.2⟩))
  clear hp3 hx3
  go_wp2
  all_goals
   go_ret2
   exact ⟨_,rfl,HP3.out,HX3.out⟩
theorem zua (W:World) (v e:Int) (hv:1 ≤ v ∧ v ≤ 200) (he:1 ≤ e ∧ e ≤ 10000):Calls Tryz.prog 159 #[.int .i64 v,.int .i64 e] W (z3f W [(1,[(v,e)])]):=by
 unfold z3f
 have hm:mayM [(v,e)] = true:=z86 hv he
 have CO:=hid (zgt 1 W (by decide))
 have CF:=hid (fun (Y:World) (vz:Value) (hz:U32s (Old Y) Y vz (ofI 1).mag) => zs8 (S:=Old ((Y.alloc (.cells #[.int .i64 v,.int .i64 e] 51)).alloc (.cells #[.bool (ofI 1).neg,vz,.slice (some ⟨Y.heap.size,0,none⟩) 1 1] 49))) (.slice (some ⟨(Y.alloc (.cells #[.int .i64 v,.int .i64 e] 51)).heap.size,0,none⟩) 1 1) [⟨ofI 1,[(v,e)]⟩] ((Y.alloc (.cells #[.int .i64 v,.int .i64 e] 51)).alloc (.cells #[.bool (ofI 1).neg,vz,.slice (some ⟨Y.heap.size,0,none⟩) 1 1] 49)) 1000000
  (zdt (t:=⟨ofI 1,[(v,e)]⟩) ((hz.ext (Ext.alloc (Ext.refl Y) _) (fun _ h => h)).to (Kept.refl _ _) (fun k h => Nat.lt_of_lt_of_le h (Ext.alloc (Ext.refl Y) _).size)) (zpc (w:=Y) (by unfold z40; omega) (by unfold z40; omega) 51) 49) (fun _ h => h) (fun t ht => by rw [List.mem_singleton.1 ht]; show (ofI 1).mag.length ≤ _; rw [z4u]; exact Nat.le_trans (z6l (by decide)) (by decide)) (by decide) (by simp) (by unfold ztn; simp [hm]))
 have e1:toP [⟨ofI 1,[(v,e)]⟩] = [(1,[(v,e)])]:=by unfold toP; simp [z1t]
 have e2:z25 [(1,[(v,e)])] = [(1,[(v,e)])]:=by rw [zh5]; rfl
 simp only [e1,e2] at CF
 unfold z3f at CF
 clear e1 e2 hm
 go_enter Tryz.func159,Tryz.ntmps159
 go_wp2_with fail
 with_reducible refine CO.out.mono ?_
 rintro e w1 ⟨v1,rfl,⟨vz,rfl,hz⟩,hx1⟩
 have HX1:=hid hx1
 have CF1:=hid (CF.out w1 vz (hz.to (Kept.refl _ _) New.lt))
 rw [size_alloc] at CF1
 obtain ⟨az,cz,rfl⟩:=hz.form
 clear hz hx1
 go_wp2_with fail
 with_reducible refine CF1.out.mono ?_
 rintro e w2 ⟨v2,rfl,hp2,hx2⟩
 have HX2:=hid (((HX1.out.alloc _).alloc _).trans hx2)
 have HP2:=hid (hp2.to (S':=New W w2) (Kept.refl _ _) (fun k h => ⟨Nat.le_trans ((HX1.out.alloc _).alloc _).size h.1,h.2⟩))
 clear hp2 hx2
 go_wp2
 all_goals
  go_ret2
  exact ⟨_,rfl,HP2.out,HX2.out⟩
end
section
open Go.RowKit
section
variable {W:World} {u v:Value} {p q:PZ} {k l n m:Nat}
theorem zmp {p:PZ} (cp:canP p):z2n p (oneZ (-1) []) = some (negP p):=by
 have e:oneZ (-1) [] = [((-1:Int),([]:Mono))]:=rfl
 rw [e]
 have e2:mulL p [((-1:Int),([]:Mono))] = negP p:=by
  rw [zpj]
  unfold negP
  refine List.map_congr_left (fun t ht => ?_)
  rw [z9v (zqj (cp.1 t ht).2),Int.mul_neg_one]
 have e3:=z87 cp.may (q:=[((-1:Int),([]:Mono))]) (fun t ht => by rw [List.mem_singleton.1 ht]; rfl) (by rw [e2]; exact (z7l cp).may)
 rw [e3,e2,z5m (z7l cp)]
theorem zub (hp:PV W u p) (fp:Fit k n p) (hk:k ≤ 1000000) (hn:n ≤ 1000000000000):Calls Tryz.prog 160 #[u] W (z3f W (negP p)):=by
 have C1:=hid (zgt (-1) W (by decide))
 have C2:=hid (fun (Y:World) (vz:Value) (hY:Ext W Y) (hz:IntV (Old Y) Y vz (ofI (-1))) => zs9 (c:=-1) (m:=[]) (l:=1) (z0h.on hp hY) hz (Pows.empty (Old Y) Y none) fp rfl (by decide) (.inr (by decide)) hk (by decide) hn)
 simp only [zmp fp.can] at C2
 unfold z5w z3f at C2
 obtain ⟨a,c,rfl⟩:=hp.form
 obtain ⟨np,hnp⟩:∃ n,n = (ofP p).length:=⟨_,rfl⟩
 rw [← hnp] at C2 ⊢
 unfold z3f
 clear hp fp hnp
 go_enter Tryz.func160,Tryz.ntmps160
 go_wp2_with fail
 with_reducible refine C1.out.mono ?_
 rintro e w1 ⟨v1,rfl,⟨vz,rfl,hz⟩,hx1⟩
 have HX1:=hid hx1
 have C3:=hid (C2.out w1 (.agg #[.bool (ofI (-1)).neg,vz]) hx1 ⟨vz,rfl,hz.to (Kept.refl _ _) New.lt⟩)
 obtain ⟨az,cz,rfl⟩:=hz.form
 obtain ⟨nz,hnz⟩:∃ n,n = (ofI (-1)).mag.length:=⟨_,rfl⟩
 obtain ⟨ng,hng⟩:∃ n,n = (ofI (-1)).neg:=⟨_,rfl⟩
 rw [← hnz,← hng] at C3 ⊢
 clear hz hx1 hnz hng
 go_wp2_with fail
 with_reducible refine C3.out.mono ?_
 rintro e w2 ⟨v2,rfl,hp2,hx2⟩
 have HX2:=hid (HX1.out.trans hx2)
 have HP2:=hid (hp2.to (S':=New W w2) (Kept.refl _ _) (fun k h => ⟨Nat.le_trans HX1.out.size h.1,h.2⟩))
 clear hp2 hx2
 go_wp2
 all_goals
  go_ret2
  exact ⟨_,rfl,HP2.out,HX2.out⟩
end
end
section
open Go.RowKit
end
section
open Go.RowKit
def Val1 (w:World) (p:PZ):Ending → World → Prop:=fun e w' => ∃ v',e = .returned v' ∧ z0h (New w w') w' v' (ofP p) ∧ Ext w w'
def varP (v:Int):PZ:=[(1,[(v,1)])]
def subP (p q:PZ):PZ:=z25 (p ++ negP q)
def zfo (p q:PZ):PZ:=z25 (p ++ q)
def mulP (p q:PZ):PZ:=z25 (mulL p q)
def linP (a b:Int):PZ:=subP (varP b) (varP a)
theorem z29 {v:Int} (h:1 ≤ v ∧ v ≤ 200):Fit 1 1 (varP v):=by
 have:=zbx (c:=1) (m:=[(v,1)]) (k:=1) (z86 h (by decide)) (z6l (by decide))
 exact this
theorem Fit.sub {k n l m:Nat} {p q:PZ} (fp:Fit k n p) (fq:Fit l m q) (hn:n + m ≤ 1000000000000) (hkl:k = l):Fit (k + 2) (n + m) (subP p q):=by subst hkl; exact fp.add fq.neg hn
theorem Fit.plus {k n m:Nat} {p q:PZ} (fp:Fit k n p) (fq:Fit k m q) (hn:n + m ≤ 1000000000000):Fit (k + 2) (n + m) (zfo p q):=fp.add fq hn
theorem z0x {a b:Int} (ha:1 ≤ a ∧ a ≤ 200) (hb:1 ≤ b ∧ b ≤ 200):Fit 3 2 (linP a b):=(z29 hb).sub (z29 ha) (by decide) rfl
def LinM (p:PZ):Prop:=∀ t ∈ p,∃ v:Int,(1 ≤ v ∧ v ≤ 200) ∧ t.2 = [(v,1)]
theorem z0y {a b:Int} (ha:1 ≤ a ∧ a ≤ 200) (hb:1 ≤ b ∧ b ≤ 200):LinM (linP a b):=fun t ht => by
 obtain ⟨z,hz,ez⟩:=zp6 (z6m (z29 hb).can.may (z7l (z29 ha).can).may) ht
 rw [← ez]
 rcases List.mem_append.1 hz with h | h
 ·rw [varP,List.mem_singleton] at h; subst h; exact ⟨b,hb,rfl⟩
 ·rw [varP,negP,List.map_singleton,List.mem_singleton] at h; subst h; exact ⟨a,ha,rfl⟩
theorem zfp {p q:PZ} (cp:canP p) (cq:canP q) (hp:LinM p) (hq:LinM q):z2n p q = some (mulP p q):=by
 refine z87 cp.may cq.may (fun t ht => ?_)
 unfold mulL at ht
 obtain ⟨x,hx,h2⟩:=List.mem_flatMap.1 ht
 obtain ⟨y,hy,rfl⟩:=List.mem_map.1 h2
 obtain ⟨a,ha,ea⟩:=hp x hx
 obtain ⟨b,hb,eb⟩:=hq y hy
 simp only [ea,eb]
 refine (z7i (z86 ha (by decide)) (z86 hb (by decide))).2 (fun u => ?_)
 rw [zgp,zgp]
 split <;> split <;> omega
section
variable {W:World} {u v:Value} {p q:PZ} {k n l m:Nat}
theorem zuc (hp:PV W u p) (hq:PV W v q) (fp:Fit k n p) (fq:Fit l m q) (hk:k ≤ 1000000) (hl:l ≤ 1000000) (hn:n + m ≤ 1000000000000) :
  Calls Tryz.prog 152 #[u,v] W (z3f W (subP p q)):=by
 have C1:=hid (zub hq fq hl (by omega))
 have C2:=hid (fun (Y:World) (u2:Value) (hY:Ext W Y) (hu:PV Y u2 (negP q)) => ztp (z0h.on hp hY) hu fp fq.neg hk hl hn)
 unfold z3f at C1 C2 ⊢
 unfold subP
 obtain ⟨ap,cp,rfl⟩:=hp.form
 obtain ⟨aq,cq,rfl⟩:=hq.form
 obtain ⟨np,hnp⟩:∃ n,n = (ofP p).length:=⟨_,rfl⟩
 obtain ⟨nq,hnq⟩:∃ n,n = (ofP q).length:=⟨_,rfl⟩
 rw [← hnp] at C2 ⊢
 rw [← hnq] at C1 ⊢
 clear hp hq fp fq hnp hnq
 go_enter Tryz.func152,Tryz.ntmps152
 go_wp2_with fail
 with_reducible refine C1.out.mono ?_
 rintro e w1 ⟨v1,rfl,hp1,hx1⟩
 have HX1:=hid hx1
 have C3:=hid (C2.out w1 v1 hx1 (hp1.to (Kept.refl _ _) New.lt))
 obtain ⟨a1,c1,rfl⟩:=hp1.form
 clear hp1 hx1
 go_wp2_with fail
 with_reducible refine C3.out.mono ?_
 rintro e w2 ⟨v2,rfl,hp2,hx2⟩
 have HP2:=hid (hp2.to (S':=New W w2) (Kept.refl _ _) (New.mono HX1.out))
 have HX2:=hid (HX1.out.trans hx2)
 clear hp2 hx2
 go_wp2
 all_goals
  go_ret2
  exact ⟨_,rfl,HP2.out,HX2.out⟩
theorem za5 (hp:PV W u p) (hq:PV W v q) (fp:Fit k n p) (fq:Fit l m q) (hk:k ≤ 1000000) (hl:l ≤ 1000000) (hn:n + m ≤ 1000000000000) :
  Calls Tryz.prog 137 #[u,v] W (Val1 W (subP p q)):=by
 have C1:=hid (zuc hp hq fp fq hk hl hn)
 unfold z3f at C1
 unfold Val1
 obtain ⟨ap,cp,rfl⟩:=hp.form
 obtain ⟨aq,cq,rfl⟩:=hq.form
 clear hp hq fp fq
 go_enter Tryz.func137,Tryz.ntmps137
 go_wp2_with fail
 with_reducible refine C1.out.mono ?_
 rintro e w1 ⟨v1,rfl,hp1,hx1⟩
 have HX1:=hid hx1
 have HP1:=hid hp1
 clear hp1 hx1
 go_wp2
 all_goals
  go_ret
  exact ⟨_,rfl,HP1.out,HX1.out⟩
theorem zpl (hp:PV W u p) (hq:PV W v q) (fp:Fit k n p) (fq:Fit l m q) (hk:k ≤ 1000000) (hl:l ≤ 1000000) (hn:n + m ≤ 1000000000000) :
  Calls Tryz.prog 133 #[u,v] W (Val1 W (zfo p q)):=by
 have C1:=hid (ztp hp hq fp fq hk hl hn)
 unfold z3f at C1
 unfold Val1 zfo
 obtain ⟨ap,cp,rfl⟩:=hp.form
 obtain ⟨aq,cq,rfl⟩:=hq.form
 clear hp hq fp fq
 go_enter Tryz.func133,Tryz.ntmps133
 go_wp2_with fail
 with_reducible refine C1.out.mono ?_
 rintro e w1 ⟨v1,rfl,hp1,hx1⟩
 have HX1:=hid hx1
 have HP1:=hid hp1
 clear hp1 hx1
 go_wp2
 all_goals
  go_ret
  exact ⟨_,rfl,HP1.out,HX1.out⟩
theorem z4p (hp:PV W u p) (hq:PV W v q) (fp:Fit k n p) (fq:Fit l m q) (gp:LinM p) (gq:LinM q) (hk:k < 24) (hl:l < 24) (hn:n * m ≤ 1000000000000) :
  Calls Tryz.prog 134 #[u,v] W (Val1 W (mulP p q)):=by
 have C1:=zml hp hq fp fq (.inl hk) (by omega) (by omega) hn
 rw [zfp fp.can fq.can gp gq] at C1
 unfold z5w z3f at C1
 have HC:=hid C1
 unfold Val1
 obtain ⟨ap,cp,rfl⟩:=hp.form
 obtain ⟨aq,cq,rfl⟩:=hq.form
 clear hp hq fp fq gp gq C1
 go_enter Tryz.func134,Tryz.ntmps134
 go_wp2_with fail
 with_reducible refine HC.out.mono ?_
 rintro e w1 ⟨v1,rfl,hp1,hx1⟩
 have HX1:=hid hx1
 have HP1:=hid hp1
 clear hp1 hx1
 go_wp2
 all_goals
  go_ret
  exact ⟨_,rfl,HP1.out,HX1.out⟩
end
theorem z45 (W:World) {v:Int} (hv:1 ≤ v ∧ v ≤ 200):Calls Tryz.prog 151 #[.int .i64 v] W (Val1 W (varP v)):=by
 have C1:=hid (zua W v 1 hv (by decide))
 unfold z3f at C1
 unfold Val1 varP
 clear hv
 go_enter Tryz.func151,Tryz.ntmps151
 go_wp2_with fail
 with_reducible refine C1.out.mono ?_
 rintro e w1 ⟨v1,rfl,hp1,hx1⟩
 have HX1:=hid hx1
 have HP1:=hid hp1
 clear hp1 hx1
 go_wp2
 all_goals
  go_ret
  exact ⟨_,rfl,HP1.out,HX1.out⟩
theorem zby {W:World} {vs:Value} {cs:List (Int × Int)} {a b:Nat} {A B:Int × Int} (hs:Pows (Old W) W vs cs) (ha:cs[a]? = some A) (hb:cs[b]? = some B) (hA:1 ≤ A.1 ∧ A.1 ≤ 200) (hB:1 ≤ B.1 ∧ B.1 ≤ 200) :
  Calls Tryz.prog 135 #[vs,.int .i64 (a:Int),.int .i64 (b:Int)] W (Val1 W (linP A.1 B.1)):=by
 have HS:=hid hs
 have h1:=z03 ha
 have h2:=z03 hb
 have HFA:=hid (z29 hA)
 have HFB:=hid (z29 hB)
 have CV:=hid (z45 W.drew hB)
 have CA:=hid (fun Y => z45 Y hA)
 have CL:=hid (fun (Y:World) (u1 u2:Value) (k1:PV Y u1 (varP B.1)) (k2:PV Y u2 (varP A.1)) => za5 k1 k2 HFB.out HFA.out (by decide) (by decide) (by decide))
 unfold Val1 at CV CA CL ⊢
 unfold linP
 obtain ⟨n,hn⟩:∃ n,n = cs.length:=⟨_,rfl⟩
 rw [← hn] at h1 h2
 obtain ⟨ap,cp,e0⟩:=hs.form
 rw [← hn] at e0
 subst e0
 obtain ⟨b0,off,rfl,-,hn1,hn2,hS0,-,hca,-⟩:=HS.out.cellAt ha
 obtain ⟨b1,off1,e1,-,-,-,-,-,hcb,-⟩:=HS.out.cellAt hb
 obtain ⟨rfl,rfl⟩:b0 = b1 ∧ off = off1:=by simpa using e1
 obtain ⟨x,hx⟩:∃ x,x = A.1:=⟨_,rfl⟩
 obtain ⟨y,hy⟩:∃ y,y = B.1:=⟨_,rfl⟩
 rw [← hx] at hca CA CL ⊢
 rw [← hy] at hcb CV CL ⊢
 have HD:=hid (show Ext W W.drew from Ext.drew (Ext.refl _))
 have HC:Hid (∀ Y,Ext W Y → Y.cell? ⟨b0,off + b * 2,none⟩ = some (.int .i64 y) ∧ Y.cell? ⟨b0,off + a * 2,none⟩ = some (.int .i64 x)):=hid (fun Y h => ⟨h.cell hcb,h.cell hca⟩)
 have S0:=HC.out _ HD.out
 clear hs ha hb hA hB hn e1 hca hcb hx hy
 go_enter Tryz.func135,Tryz.ntmps135
 go_wp2
 go_region_held3 (fun Y => Y.cell? ⟨b0,off + b * 2,none⟩ = some (.int .i64 y) ∧ Y.cell? ⟨b0,off + a * 2,none⟩ = some (.int .i64 x)) (first | exact S0 | exact S1 | exact S2 | exact S3)
  (first
   | (go_at_call 151; (with_reducible refine CV.out.mono ?_); rintro e w1 ⟨v1,rfl,hp1,hx1⟩; have S1:=HC.out _ (HD.out.trans hx1); have HX1:=hid (HD.out.trans hx1); have HP1:=hid (hp1.to (S':=Old w1) (Kept.refl _ _) New.lt); obtain ⟨a1,c1,rfl⟩:=hp1.form; clear hx1 hp1)
   | (go_at_call 151; (with_reducible refine (CA.out w1).mono ?_); rintro e w2 ⟨v2,rfl,hp2,hx2⟩; have S2:=HC.out _ (HX1.out.trans hx2); have HX2:=hid (HX1.out.trans hx2); have HX2':=hid hx2; have HP2:=hid (hp2.to (S':=Old w2) (Kept.refl _ _) New.lt); obtain ⟨a2,c2,rfl⟩:=hp2.form; clear hx2 hp2)
   | (go_at_call 137; (with_reducible refine (CL.out w2 _ _ (z0h.on HP1.out HX2'.out) HP2.out).mono ?_); rintro e w3 ⟨v3,rfl,hp3,hx3⟩; have S3:=HC.out _ (HX2.out.trans hx3); have HX3:=hid (HX2.out.trans hx3); have HP3:=hid (hp3.to (S':=New W w3) (Kept.refl _ _) (New.mono HX2.out)); obtain ⟨a3,c3,rfl⟩:=hp3.form; clear hx3 hp3)
   | fail)
 all_goals
  go_wp2_with fail
  go_ret
  exact ⟨_,rfl,HP3.out,HX3.out⟩
theorem zbz {W:World} {vs:Value} {cs:List (Int × Int)} {a b:Nat} {A B:Int × Int} (hs:Pows (Old W) W vs cs) (ha:cs[a]? = some A) (hb:cs[b]? = some B) (hA:1 ≤ A.2 ∧ A.2 ≤ 200) (hB:1 ≤ B.2 ∧ B.2 ≤ 200) :
  Calls Tryz.prog 136 #[vs,.int .i64 (a:Int),.int .i64 (b:Int)] W (Val1 W (linP A.2 B.2)):=by
 have HS:=hid hs
 have h1:=z03 ha
 have h2:=z03 hb
 have HFA:=hid (z29 hA)
 have HFB:=hid (z29 hB)
 have CV:=hid (z45 W.drew hB)
 have CA:=hid (fun Y => z45 Y hA)
 have CL:=hid (fun (Y:World) (u1 u2:Value) (k1:PV Y u1 (varP B.2)) (k2:PV Y u2 (varP A.2)) => za5 k1 k2 HFB.out HFA.out (by decide) (by decide) (by decide))
 unfold Val1 at CV CA CL ⊢
 unfold linP
 obtain ⟨n,hn⟩:∃ n,n = cs.length:=⟨_,rfl⟩
 rw [← hn] at h1 h2
 obtain ⟨ap,cp,e0⟩:=hs.form
 rw [← hn] at e0
 subst e0
 obtain ⟨b0,off,rfl,-,hn1,hn2,hS0,-,-,hca⟩:=HS.out.cellAt ha
 obtain ⟨b1,off1,e1,-,-,-,-,-,-,hcb⟩:=HS.out.cellAt hb
 obtain ⟨rfl,rfl⟩:b0 = b1 ∧ off = off1:=by simpa using e1
 obtain ⟨x,hx⟩:∃ x,x = A.2:=⟨_,rfl⟩
 obtain ⟨y,hy⟩:∃ y,y = B.2:=⟨_,rfl⟩
 rw [← hx] at hca CA CL ⊢
 rw [← hy] at hcb CV CL ⊢
 have HD:=hid (show Ext W W.drew from Ext.drew (Ext.refl _))
 have HC:Hid (∀ Y,Ext W Y → Y.cell? ⟨b0,off + b * 2 + 1,none⟩ = some (.int .i64 y) ∧ Y.cell? ⟨b0,off + a * 2 + 1,none⟩ = some (.int .i64 x)):=hid (fun Y h => ⟨h.cell hcb,h.cell hca⟩)
 have S0:=HC.out _ HD.out
 clear hs ha hb hA hB hn e1 hca hcb hx hy
 go_enter Tryz.func136,Tryz.ntmps136
 go_wp2
 go_region_held3 (fun Y => Y.cell? ⟨b0,off + b * 2 + 1,none⟩ = some (.int .i64 y) ∧ Y.cell? ⟨b0,off + a * 2 + 1,none⟩ = some (.int .i64 x)) (first | exact S0 | exact S1 | exact S2 | exact S3)
  (first
   | (go_at_call 151; (with_reducible refine CV.out.mono ?_); rintro e w1 ⟨v1,rfl,hp1,hx1⟩; have S1:=HC.out _ (HD.out.trans hx1); have HX1:=hid (HD.out.trans hx1); have HP1:=hid (hp1.to (S':=Old w1) (Kept.refl _ _) New.lt); obtain ⟨a1,c1,rfl⟩:=hp1.form; clear hx1 hp1)
   | (go_at_call 151; (with_reducible refine (CA.out w1).mono ?_); rintro e w2 ⟨v2,rfl,hp2,hx2⟩; have S2:=HC.out _ (HX1.out.trans hx2); have HX2:=hid (HX1.out.trans hx2); have HX2':=hid hx2; have HP2:=hid (hp2.to (S':=Old w2) (Kept.refl _ _) New.lt); obtain ⟨a2,c2,rfl⟩:=hp2.form; clear hx2 hp2)
   | (go_at_call 137; (with_reducible refine (CL.out w2 _ _ (z0h.on HP1.out HX2'.out) HP2.out).mono ?_); rintro e w3 ⟨v3,rfl,hp3,hx3⟩; have S3:=HC.out _ (HX2.out.trans hx3); have HX3:=hid (HX2.out.trans hx3); have HP3:=hid (hp3.to (S':=New W w3) (Kept.refl _ _) (New.mono HX2.out)); obtain ⟨a3,c3,rfl⟩:=hp3.form; clear hx3 hp3)
   | fail)
 all_goals
  go_wp2_with fail
  go_ret
  exact ⟨_,rfl,HP3.out,HX3.out⟩
end
section
open Go.RowKit
def Ok2 (A:Int × Int):Prop:=(1 ≤ A.1 ∧ A.1 ≤ 200) ∧ (1 ≤ A.2 ∧ A.2 ≤ 200)
def z53 (A B C D:Int × Int):PZ:=subP (mulP (linP A.1 B.1) (linP C.2 D.2)) (mulP (linP A.2 B.2) (linP C.1 D.1))
def dotP (A B C D:Int × Int):PZ:=zfo (mulP (linP A.1 B.1) (linP C.1 D.1)) (mulP (linP A.2 B.2) (linP C.2 D.2))
theorem z2p {p q:PZ} (fp:Fit 3 2 p) (fq:Fit 3 2 q) (gp:LinM p) (gq:LinM q):Fit 8 4 (mulP p q):=by
 have h:=fp.times fq (zfp fp.can fq.can gp gq) (by decide)
 exact h.mono (by decide) (by decide)
theorem zdu {A B C D:Int × Int} (hA:Ok2 A) (hB:Ok2 B) (hC:Ok2 C) (hD:Ok2 D):Fit 10 8 (z53 A B C D) :=
 (z2p (z0x hA.1 hB.1) (z0x hC.2 hD.2) (z0y hA.1 hB.1) (z0y hC.2 hD.2)).sub (z2p (z0x hA.2 hB.2) (z0x hC.1 hD.1) (z0y hA.2 hB.2) (z0y hC.1 hD.1)) (by decide) rfl
theorem zmq {A B C D:Int × Int} (hA:Ok2 A) (hB:Ok2 B) (hC:Ok2 C) (hD:Ok2 D):Fit 10 8 (dotP A B C D) :=
 (z2p (z0x hA.1 hB.1) (z0x hC.1 hD.1) (z0y hA.1 hB.1) (z0y hC.1 hD.1)).plus (z2p (z0x hA.2 hB.2) (z0x hC.2 hD.2) (z0y hA.2 hB.2) (z0y hC.2 hD.2)) (by decide)
theorem za6 {W:World} {vs:Value} {cs:List (Int × Int)} {a b c d:Nat} {x0 x1 x2 x3 x4:Int} {A B C D:Int × Int} (hs:Pows (Old W) W vs cs) (ha:cs[a]? = some A) (hb:cs[b]? = some B) (hc:cs[c]? = some C) (hd:cs[d]? = some D)
  (hA:Ok2 A) (hB:Ok2 B) (hC:Ok2 C) (hD:Ok2 D) (e1:x1 = (a:Int)) (e2:x2 = (b:Int)) (e3:x3 = (c:Int)) (e4:x4 = (d:Int)) :
  Calls Tryz.prog 118 #[vs,.agg #[.int .u8 x0,.int .i64 x1,.int .i64 x2,.int .i64 x3,.int .i64 x4]] W (Val1 W (z53 A B C D)):=by
 have l1:=z0x hA.1 hB.1
 have l2:=z0x hC.2 hD.2
 have l3:=z0x hA.2 hB.2
 have l4:=z0x hC.1 hD.1
 have g1:=z0y hA.1 hB.1
 have g2:=z0y hC.2 hD.2
 have g3:=z0y hA.2 hB.2
 have g4:=z0y hC.1 hD.1
 have C1:=hid (fun (Y:World) (hY:Ext W Y) => zby (Pows.on hs hY) ha hb hA.1 hB.1)
 have C2:=hid (fun (Y:World) (hY:Ext W Y) => zbz (Pows.on hs hY) hc hd hC.2 hD.2)
 have C3:=hid (fun (Y:World) (u v:Value) (hu:PV Y u (linP A.1 B.1)) (hv:PV Y v (linP C.2 D.2)) => z4p hu hv l1 l2 g1 g2 (by decide) (by decide) (by decide))
 have C4:=hid (fun (Y:World) (hY:Ext W Y) => zbz (Pows.on hs hY) ha hb hA.2 hB.2)
 have C5:=hid (fun (Y:World) (hY:Ext W Y) => zby (Pows.on hs hY) hc hd hC.1 hD.1)
 have C6:=hid (fun (Y:World) (u v:Value) (hu:PV Y u (linP A.2 B.2)) (hv:PV Y v (linP C.1 D.1)) => z4p hu hv l3 l4 g3 g4 (by decide) (by decide) (by decide))
 have C7:=hid (fun (Y:World) (u v:Value) (hu:PV Y u (mulP (linP A.1 B.1) (linP C.2 D.2))) (hv:PV Y v (mulP (linP A.2 B.2) (linP C.1 D.1))) => za5 hu hv (z2p l1 l2 g1 g2) (z2p l3 l4 g3 g4) (by decide) (by decide) (by decide))
 unfold Val1 at C1 C2 C3 C4 C5 C6 C7 ⊢
 unfold z53
 have HX:=hid (((Ext.refl W).alloc (.cells #[.int .u8 x0,.int .i64 x1,.int .i64 x2,.int .i64 x3,.int .i64 x4] 170)).drew)
 obtain ⟨w0,hw0⟩:∃ Y,Y = (W.alloc (.cells #[.int .u8 x0,.int .i64 x1,.int .i64 x2,.int .i64 x3,.int .i64 x4] 170)).drew:=⟨_,rfl⟩
 have HX0:Hid (Ext W w0):=hid (by rw [hw0]; exact HX.out)
 have HC:Hid (∀ Y,Ext w0 Y → Y.cell? ⟨W.heap.size,1,none⟩ = some (.int .i64 x1) ∧ Y.cell? ⟨W.heap.size,2,none⟩ = some (.int .i64 x2) ∧ Y.cell? ⟨W.heap.size,3,none⟩ = some (.int .i64 x3) ∧ Y.cell? ⟨W.heap.size,4,none⟩ = some (.int .i64 x4)):=hid (fun Y h => by
  have k:=fun (i:Nat) (v:Value) (hv:#[Value.int .u8 x0,.int .i64 x1,.int .i64 x2,.int .i64 x3,.int .i64 x4][i]? = some v) => h.cell (v:=v) (b:=W.heap.size) (i:=i) (by rw [hw0]; exact z02 W _ _ rfl hv)
  exact ⟨k 1 _ rfl,k 2 _ rfl,k 3 _ rfl,k 4 _ rfl⟩)
 have S0:=HC.out _ (Ext.refl _)
 rw [hw0] at S0
 have HW0:=hid hw0
 obtain ⟨ap,cp,rfl⟩:=hs.form
 subst e1 e2 e3 e4
 clear hs ha hb hc hd hA hB hC hD l1 l2 l3 l4 g1 g2 g3 g4 hw0
 go_enter Tryz.func118,Tryz.ntmps118
 go_wp2
 go_region_held3 (fun Y => Y.cell? ⟨W.heap.size,1,none⟩ = some (.int .i64 (a:Int)) ∧ Y.cell? ⟨W.heap.size,2,none⟩ = some (.int .i64 (b:Int)) ∧ Y.cell? ⟨W.heap.size,3,none⟩ = some (.int .i64 (c:Int)) ∧ Y.cell? ⟨W.heap.size,4,none⟩ = some (.int .i64 (d:Int))) (first | exact S0 | exact S1 | exact S2 | exact S3 | exact S4 | exact S5 | exact S6 | exact S7)
  (first
   | (go_at_call 135; (with_reducible refine (C1.out _ HX.out).mono ?_); rintro e w1 ⟨v1,rfl,hp1,hx1⟩; rw [← HW0.out] at hx1; have S1:=HC.out _ hx1; have HX1:=hid hx1; have HP1:=hid (hp1.to (S':=Old w1) (Kept.refl _ _) New.lt); obtain ⟨a1,c1,rfl⟩:=hp1.form; clear hx1 hp1)
   | (go_at_call 136; (with_reducible refine (C2.out w1 (HX0.out.trans HX1.out)).mono ?_); rintro e w2 ⟨v2,rfl,hp2,hx2⟩; have HX2:=hid (HX1.out.trans hx2); have S2:=HC.out _ HX2.out; have HX2':=hid hx2; have HP2:=hid (hp2.to (S':=Old w2) (Kept.refl _ _) New.lt); obtain ⟨a2,c2,rfl⟩:=hp2.form; clear hx2 hp2)
   | (go_at_call 134; (with_reducible refine (C3.out w2 _ _ (z0h.on HP1.out HX2'.out) HP2.out).mono ?_); rintro e w3 ⟨v3,rfl,hp3,hx3⟩; have HX3:=hid (HX2.out.trans hx3); have S3:=HC.out _ HX3.out; have HP3:=hid (hp3.to (S':=Old w3) (Kept.refl _ _) New.lt); obtain ⟨a3,c3,rfl⟩:=hp3.form; clear hx3 hp3)
   | (go_at_call 136; (with_reducible refine (C4.out w3 (HX0.out.trans HX3.out)).mono ?_); rintro e w4 ⟨v4,rfl,hp4,hx4⟩; have HX4:=hid (HX3.out.trans hx4); have S4:=HC.out _ HX4.out; have HP3:=hid (z0h.on HP3.out hx4); have HP4:=hid (hp4.to (S':=Old w4) (Kept.refl _ _) New.lt); obtain ⟨a4,c4,rfl⟩:=hp4.form; clear hx4 hp4)
   | (go_at_call 135; (with_reducible refine (C5.out w4 (HX0.out.trans HX4.out)).mono ?_); rintro e w5 ⟨v5,rfl,hp5,hx5⟩; have HX5:=hid (HX4.out.trans hx5); have S5:=HC.out _ HX5.out; have HP3:=hid (z0h.on HP3.out hx5); have HP4:=hid (z0h.on HP4.out hx5); have HP5:=hid (hp5.to (S':=Old w5) (Kept.refl _ _) New.lt); obtain ⟨a5,c5,rfl⟩:=hp5.form; clear hx5 hp5)
   | (go_at_call 134; (with_reducible refine (C6.out w5 _ _ HP4.out HP5.out).mono ?_); rintro e w6 ⟨v6,rfl,hp6,hx6⟩; have HX6:=hid (HX5.out.trans hx6); have S6:=HC.out _ HX6.out; have HP3:=hid (z0h.on HP3.out hx6); have HP6:=hid (hp6.to (S':=Old w6) (Kept.refl _ _) New.lt); obtain ⟨a6,c6,rfl⟩:=hp6.form; clear hx6 hp6)
   | (go_at_call 137; (with_reducible refine (C7.out w6 _ _ HP3.out HP6.out).mono ?_); rintro e w7 ⟨v7,rfl,hp7,hx7⟩; have HX7:=hid (HX6.out.trans hx7); have S7:=HC.out _ HX7.out; have HX8:=hid (HX0.out.trans HX7.out); have HP7:=hid (hp7.to (S':=New W w7) (Kept.refl _ _) (New.mono (HX0.out.trans HX6.out))); obtain ⟨a7,c7,rfl⟩:=hp7.form; clear hx7 hp7)
   | fail)
 all_goals
  go_wp2_with fail
  go_ret
  exact ⟨_,rfl,HP7.out,HX8.out⟩
theorem zdv {W:World} {vs:Value} {cs:List (Int × Int)} {a b c d:Nat} {x0 x1 x2 x3 x4:Int} {A B C D:Int × Int} (hs:Pows (Old W) W vs cs) (ha:cs[a]? = some A) (hb:cs[b]? = some B) (hc:cs[c]? = some C) (hd:cs[d]? = some D)
  (hA:Ok2 A) (hB:Ok2 B) (hC:Ok2 C) (hD:Ok2 D) (e1:x1 = (a:Int)) (e2:x2 = (b:Int)) (e3:x3 = (c:Int)) (e4:x4 = (d:Int)) :
  Calls Tryz.prog 117 #[vs,.agg #[.int .u8 x0,.int .i64 x1,.int .i64 x2,.int .i64 x3,.int .i64 x4]] W (Val1 W (dotP A B C D)):=by
 have l1:=z0x hA.1 hB.1
 have l2:=z0x hC.1 hD.1
 have l3:=z0x hA.2 hB.2
 have l4:=z0x hC.2 hD.2
 have g1:=z0y hA.1 hB.1
 have g2:=z0y hC.1 hD.1
 have g3:=z0y hA.2 hB.2
 have g4:=z0y hC.2 hD.2
 have C1:=hid (fun (Y:World) (hY:Ext W Y) => zby (Pows.on hs hY) ha hb hA.1 hB.1)
 have C2:=hid (fun (Y:World) (hY:Ext W Y) => zby (Pows.on hs hY) hc hd hC.1 hD.1)
 have C3:=hid (fun (Y:World) (u v:Value) (hu:PV Y u (linP A.1 B.1)) (hv:PV Y v (linP C.1 D.1)) => z4p hu hv l1 l2 g1 g2 (by decide) (by decide) (by decide))
 have C4:=hid (fun (Y:World) (hY:Ext W Y) => zbz (Pows.on hs hY) ha hb hA.2 hB.2)
 have C5:=hid (fun (Y:World) (hY:Ext W Y) => zbz (Pows.on hs hY) hc hd hC.2 hD.2)
 have C6:=hid (fun (Y:World) (u v:Value) (hu:PV Y u (linP A.2 B.2)) (hv:PV Y v (linP C.2 D.2)) => z4p hu hv l3 l4 g3 g4 (by decide) (by decide) (by decide))
 have C7:=hid (fun (Y:World) (u v:Value) (hu:PV Y u (mulP (linP A.1 B.1) (linP C.1 D.1))) (hv:PV Y v (mulP (linP A.2 B.2) (linP C.2 D.2))) => zpl hu hv (z2p l1 l2 g1 g2) (z2p l3 l4 g3 g4) (by decide) (by decide) (by decide))
 unfold Val1 at C1 C2 C3 C4 C5 C6 C7 ⊢
 unfold dotP
 have HX:=hid (((Ext.refl W).alloc (.cells #[.int .u8 x0,.int .i64 x1,.int .i64 x2,.int .i64 x3,.int .i64 x4] 170)).drew)
 obtain ⟨w0,hw0⟩:∃ Y,Y = (W.alloc (.cells #[.int .u8 x0,.int .i64 x1,.int .i64 x2,.int .i64 x3,.int .i64 x4] 170)).drew:=⟨_,rfl⟩
 have HX0:Hid (Ext W w0):=hid (by rw [hw0]; exact HX.out)
 have HC:Hid (∀ Y,Ext w0 Y → Y.cell? ⟨W.heap.size,1,none⟩ = some (.int .i64 x1) ∧ Y.cell? ⟨W.heap.size,2,none⟩ = some (.int .i64 x2) ∧ Y.cell? ⟨W.heap.size,3,none⟩ = some (.int .i64 x3) ∧ Y.cell? ⟨W.heap.size,4,none⟩ = some (.int .i64 x4)):=hid (fun Y h => by
  have k:=fun (i:Nat) (v:Value) (hv:#[Value.int .u8 x0,.int .i64 x1,.int .i64 x2,.int .i64 x3,.int .i64 x4][i]? = some v) => h.cell (v:=v) (b:=W.heap.size) (i:=i) (by rw [hw0]; exact z02 W _ _ rfl hv)
  exact ⟨k 1 _ rfl,k 2 _ rfl,k 3 _ rfl,k 4 _ rfl⟩)
 have S0:=HC.out _ (Ext.refl _)
 rw [hw0] at S0
 have HW0:=hid hw0
 obtain ⟨ap,cp,rfl⟩:=hs.form
 subst e1 e2 e3 e4
 clear hs ha hb hc hd hA hB hC hD l1 l2 l3 l4 g1 g2 g3 g4 hw0
 go_enter Tryz.func117,Tryz.ntmps117
 go_wp2
 go_region_held3 (fun Y => Y.cell? ⟨W.heap.size,1,none⟩ = some (.int .i64 (a:Int)) ∧ Y.cell? ⟨W.heap.size,2,none⟩ = some (.int .i64 (b:Int)) ∧ Y.cell? ⟨W.heap.size,3,none⟩ = some (.int .i64 (c:Int)) ∧ Y.cell? ⟨W.heap.size,4,none⟩ = some (.int .i64 (d:Int))) (first | exact S0 | exact S1 | exact S2 | exact S3 | exact S4 | exact S5 | exact S6 | exact S7)
  (first
   | (go_at_call 135; (with_reducible refine (C1.out _ HX.out).mono ?_); rintro e w1 ⟨v1,rfl,hp1,hx1⟩; rw [← HW0.out] at hx1; have S1:=HC.out _ hx1; have HX1:=hid hx1; have HP1:=hid (hp1.to (S':=Old w1) (Kept.refl _ _) New.lt); obtain ⟨a1,c1,rfl⟩:=hp1.form; clear hx1 hp1)
   | (go_at_call 135; (with_reducible refine (C2.out w1 (HX0.out.trans HX1.out)).mono ?_); rintro e w2 ⟨v2,rfl,hp2,hx2⟩; have HX2:=hid (HX1.out.trans hx2); have S2:=HC.out _ HX2.out; have HX2':=hid hx2; have HP2:=hid (hp2.to (S':=Old w2) (Kept.refl _ _) New.lt); obtain ⟨a2,c2,rfl⟩:=hp2.form; clear hx2 hp2)
   | (go_at_call 134; (with_reducible refine (C3.out w2 _ _ (z0h.on HP1.out HX2'.out) HP2.out).mono ?_); rintro e w3 ⟨v3,rfl,hp3,hx3⟩; have HX3:=hid (HX2.out.trans hx3); have S3:=HC.out _ HX3.out; have HP3:=hid (hp3.to (S':=Old w3) (Kept.refl _ _) New.lt); obtain ⟨a3,c3,rfl⟩:=hp3.form; clear hx3 hp3)
   | (go_at_call 136; (with_reducible refine (C4.out w3 (HX0.out.trans HX3.out)).mono ?_); rintro e w4 ⟨v4,rfl,hp4,hx4⟩; have HX4:=hid (HX3.out.trans hx4); have S4:=HC.out _ HX4.out; have HP3:=hid (z0h.on HP3.out hx4); have HP4:=hid (hp4.to (S':=Old w4) (Kept.refl _ _) New.lt); obtain ⟨a4,c4,rfl⟩:=hp4.form; clear hx4 hp4)
   | (go_at_call 136; (with_reducible refine (C5.out w4 (HX0.out.trans HX4.out)).mono ?_); rintro e w5 ⟨v5,rfl,hp5,hx5⟩; have HX5:=hid (HX4.out.trans hx5); have S5:=HC.out _ HX5.out; have HP3:=hid (z0h.on HP3.out hx5); have HP4:=hid (z0h.on HP4.out hx5); have HP5:=hid (hp5.to (S':=Old w5) (Kept.refl _ _) New.lt); obtain ⟨a5,c5,rfl⟩:=hp5.form; clear hx5 hp5)
   | (go_at_call 134; (with_reducible refine (C6.out w5 _ _ HP4.out HP5.out).mono ?_); rintro e w6 ⟨v6,rfl,hp6,hx6⟩; have HX6:=hid (HX5.out.trans hx6); have S6:=HC.out _ HX6.out; have HP3:=hid (z0h.on HP3.out hx6); have HP6:=hid (hp6.to (S':=Old w6) (Kept.refl _ _) New.lt); obtain ⟨a6,c6,rfl⟩:=hp6.form; clear hx6 hp6)
   | (go_at_call 133; (with_reducible refine (C7.out w6 _ _ HP3.out HP6.out).mono ?_); rintro e w7 ⟨v7,rfl,hp7,hx7⟩; have HX7:=hid (HX6.out.trans hx7); have S7:=HC.out _ HX7.out; have HX8:=hid (HX0.out.trans HX7.out); have HP7:=hid (hp7.to (S':=New W w7) (Kept.refl _ _) (New.mono (HX0.out.trans HX6.out))); obtain ⟨a7,c7,rfl⟩:=hp7.form; clear hx7 hp7)
   | fail)
 all_goals
  go_wp2_with fail
  go_ret
  exact ⟨_,rfl,HP7.out,HX8.out⟩
end
section
open Go.RowKit
def z0z:ByteArray:={ data:=#[117,110,108,105,107,101] }
def z1a:ByteArray:={ data:=#[97,112,97,114,116] }
def z1j:ByteArray:={ data:=#[99,114,111,115,115] }
def wDot:ByteArray:={ data:=#[100,111,116] }
theorem z7n {wd:ByteArray} (h:wd = z0z):(wd.toList == [117,110,108,105,107,101]) = true:=by
 have e:z0z.toList = [117,110,108,105,107,101]:=by rw [ByteArray.toList_eq]; rfl
 rw [← e]; exact z9z h
theorem z2m {wd:ByteArray} (h:wd ≠ z0z):(wd.toList == [117,110,108,105,107,101]) = false:=by
 have e:z0z.toList = [117,110,108,105,107,101]:=by rw [ByteArray.toList_eq]; rfl
 rw [← e]; exact za0 h
theorem za7 {wd:ByteArray} (h:wd = z1a):(wd.toList == [97,112,97,114,116]) = true:=by
 have e:z1a.toList = [97,112,97,114,116]:=by rw [ByteArray.toList_eq]; rfl
 rw [← e]; exact z9z h
theorem z5f {wd:ByteArray} (h:wd ≠ z1a):(wd.toList == [97,112,97,114,116]) = false:=by
 have e:z1a.toList = [97,112,97,114,116]:=by rw [ByteArray.toList_eq]; rfl
 rw [← e]; exact za0 h
theorem zc0 {wd:ByteArray} (h:wd = z1j):(wd.toList == [99,114,111,115,115]) = true:=by
 have e:z1j.toList = [99,114,111,115,115]:=by rw [ByteArray.toList_eq]; rfl
 rw [← e]; exact z9z h
theorem za8 {wd:ByteArray} (h:wd ≠ z1j):(wd.toList == [99,114,111,115,115]) = false:=by
 have e:z1j.toList = [99,114,111,115,115]:=by rw [ByteArray.toList_eq]; rfl
 rw [← e]; exact za0 h
theorem zts {wd:ByteArray} (h:wd = wDot):(wd.toList == [100,111,116]) = true:=by
 have e:wDot.toList = [100,111,116]:=by rw [ByteArray.toList_eq]; rfl
 rw [← e]; exact z9z h
theorem zud {wd:ByteArray} (h:wd ≠ wDot):(wd.toList == [100,111,116]) = false:=by
 have e:wDot.toList = [100,111,116]:=by rw [ByteArray.toList_eq]; rfl
 rw [← e]; exact za0 h
def askW (wd:ByteArray):Option Nat:=if wd = z0z then some 2 else if wd = z1a then some 3 else if wd = z1j then some 4 else if wd = wDot then some 4 else none
def z30 (wd:ByteArray) (cs:List (Int × Int)):PZ :=
 if wd = z0z then dotP (cs.getD 0 (1,1)) (cs.getD 1 (1,1)) (cs.getD 0 (1,1)) (cs.getD 1 (1,1))
 else if wd = z1a then z53 (cs.getD 0 (1,1)) (cs.getD 1 (1,1)) (cs.getD 0 (1,1)) (cs.getD 2 (1,1))
 else if wd = z1j then z53 (cs.getD 0 (1,1)) (cs.getD 1 (1,1)) (cs.getD 2 (1,1)) (cs.getD 3 (1,1))
 else dotP (cs.getD 0 (1,1)) (cs.getD 1 (1,1)) (cs.getD 2 (1,1)) (cs.getD 3 (1,1))
theorem z23 {cs:List (Int × Int)} (h:∀ c ∈ cs,Ok2 c) (j:Nat):Ok2 (cs.getD j (1,1)):=by
 rw [List.getD_eq_getElem?_getD]
 cases hj:cs[j]? with
 | none => exact ⟨by decide,by decide⟩
 | some c => exact h c (List.mem_of_getElem? hj)
theorem z4q {cs:List (Int × Int)} (wd:ByteArray) (h:∀ c ∈ cs,Ok2 c):Fit 10 8 (z30 wd cs):=by
 have k:=z23 h
 unfold z30
 split
 ·exact zmq (k _) (k _) (k _) (k _)
 ·split
  ·exact zdu (k _) (k _) (k _) (k _)
  ·split
   ·exact zdu (k _) (k _) (k _) (k _)
   ·exact zmq (k _) (k _) (k _) (k _)
theorem z14 {cs:List (Int × Int)} {j:Nat} (h:j < cs.length):cs[j]? = some (cs.getD j (1,1)):=by
 rw [List.getD_eq_getElem?_getD,List.getElem?_eq_getElem h]; rfl
theorem za9 {W:World} {vs:Value} {cs:List (Int × Int)} (wd:ByteArray) (hs:Pows (Old W) W vs cs) (hok:∀ c ∈ cs,Ok2 c) (hask:askW wd = some cs.length) :
  Calls Tryz.prog 90 #[vs,.string wd] W (Val1 W (z30 wd cs)):=by
 have k:=z23 hok
 obtain ⟨a,c,rfl⟩:=hs.form
 by_cases hUnlike:wd = z0z
 ·have hn:cs.length = 2:=by unfold askW at hask; rw [if_pos hUnlike] at hask; exact (Option.some.inj hask).symm
  have C:=zdv (x0:=0) (x1:=0) (x2:=1) (x3:=0) (x4:=1) hs (z14 (j:=0) (by omega)) (z14 (j:=1) (by omega)) (z14 (j:=0) (by omega)) (z14 (j:=1) (by omega)) (k _) (k _) (k _) (k _) rfl rfl rfl rfl
  have e:z30 wd cs = dotP (cs.getD 0 (1,1)) (cs.getD 1 (1,1)) (cs.getD 0 (1,1)) (cs.getD 1 (1,1)):=by unfold z30; rw [if_pos hUnlike]
  rw [e]
  have qUnlike:=z7n hUnlike
  clear hUnlike
  have HC:=hid C
  unfold Val1 at HC ⊢
  clear hs hok hask k hn C e
  go_enter Tryz.func90,Tryz.ntmps90
  go_wp2_with fail
  with_reducible refine HC.out.mono ?_
  rintro e w1 ⟨v1,rfl,hp1,hx1⟩
  have HX1:=hid hx1
  have HP1:=hid hp1
  clear hx1 hp1
  go_wp2
  all_goals
   go_ret
   exact ⟨_,rfl,HP1.out,HX1.out⟩
 ·by_cases hApart:wd = z1a
  ·have hn:cs.length = 3:=by unfold askW at hask; rw [if_neg hUnlike,if_pos hApart] at hask; exact (Option.some.inj hask).symm
   have C:=za6 (x0:=0) (x1:=0) (x2:=1) (x3:=0) (x4:=2) hs (z14 (j:=0) (by omega)) (z14 (j:=1) (by omega)) (z14 (j:=0) (by omega)) (z14 (j:=2) (by omega)) (k _) (k _) (k _) (k _) rfl rfl rfl rfl
   have e:z30 wd cs = z53 (cs.getD 0 (1,1)) (cs.getD 1 (1,1)) (cs.getD 0 (1,1)) (cs.getD 2 (1,1)):=by unfold z30; rw [if_neg hUnlike,if_pos hApart]
   rw [e]
   have qUnlike:=z2m hUnlike
   have qApart:=za7 hApart
   clear hUnlike hApart
   have HC:=hid C
   unfold Val1 at HC ⊢
   clear hs hok hask k hn C e
   go_enter Tryz.func90,Tryz.ntmps90
   go_wp2_with fail
   with_reducible refine HC.out.mono ?_
   rintro e w1 ⟨v1,rfl,hp1,hx1⟩
   have HX1:=hid hx1
   have HP1:=hid hp1
   clear hx1 hp1
   go_wp2
   all_goals
    go_ret
    exact ⟨_,rfl,HP1.out,HX1.out⟩
  ·by_cases hCross:wd = z1j
   ·have hn:cs.length = 4:=by unfold askW at hask; rw [if_neg hUnlike,if_neg hApart,if_pos hCross] at hask; exact (Option.some.inj hask).symm
    have C:=za6 (x0:=0) (x1:=0) (x2:=1) (x3:=2) (x4:=3) hs (z14 (j:=0) (by omega)) (z14 (j:=1) (by omega)) (z14 (j:=2) (by omega)) (z14 (j:=3) (by omega)) (k _) (k _) (k _) (k _) rfl rfl rfl rfl
    have e:z30 wd cs = z53 (cs.getD 0 (1,1)) (cs.getD 1 (1,1)) (cs.getD 2 (1,1)) (cs.getD 3 (1,1)):=by unfold z30; rw [if_neg hUnlike,if_neg hApart,if_pos hCross]
    rw [e]
    have qUnlike:=z2m hUnlike
    have qApart:=z5f hApart
    have qCross:=zc0 hCross
    clear hUnlike hApart hCross
    have HC:=hid C
    unfold Val1 at HC ⊢
    clear hs hok hask k hn C e
    go_enter Tryz.func90,Tryz.ntmps90
    go_wp2_with fail
    with_reducible refine HC.out.mono ?_
    rintro e w1 ⟨v1,rfl,hp1,hx1⟩
    have HX1:=hid hx1
    have HP1:=hid hp1
    clear hx1 hp1
    go_wp2
    all_goals
     go_ret
     exact ⟨_,rfl,HP1.out,HX1.out⟩
   ·have hDot:wd = wDot:=by
     unfold askW at hask
     rw [if_neg hUnlike,if_neg hApart,if_neg hCross] at hask
     by_cases h:wd = wDot
     ·exact h
     ·rw [if_neg h] at hask; cases hask
    have hn:cs.length = 4:=by unfold askW at hask; rw [if_neg hUnlike,if_neg hApart,if_neg hCross,if_pos hDot] at hask; exact (Option.some.inj hask).symm
    have C:=zdv (x0:=0) (x1:=0) (x2:=1) (x3:=2) (x4:=3) hs (z14 (j:=0) (by omega)) (z14 (j:=1) (by omega)) (z14 (j:=2) (by omega)) (z14 (j:=3) (by omega)) (k _) (k _) (k _) (k _) rfl rfl rfl rfl
    have e:z30 wd cs = dotP (cs.getD 0 (1,1)) (cs.getD 1 (1,1)) (cs.getD 2 (1,1)) (cs.getD 3 (1,1)):=by unfold z30; rw [if_neg hUnlike,if_neg hApart,if_neg hCross]
    rw [e]
    have qUnlike:=z2m hUnlike
    have qApart:=z5f hApart
    have qCross:=za8 hCross
    clear hUnlike hApart hCross hDot
    have HC:=hid C
    unfold Val1 at HC ⊢
    clear hs hok hask k hn C e
    go_enter Tryz.func90,Tryz.ntmps90
    go_wp2_with fail
    with_reducible refine HC.out.mono ?_
    rintro e w1 ⟨v1,rfl,hp1,hx1⟩
    have HX1:=hid hx1
    have HP1:=hid hp1
    clear hx1 hp1
    go_wp2
    all_goals
     go_ret
     exact ⟨_,rfl,HP1.out,HX1.out⟩
end
section
open Go.RowKit
abbrev set8 (w:World) (b:Nat) (x0 x1 x2 x3 x4 x5 x6 x7:Value):World:=((((set4 w b x0 x1 x2 x3).setCell ⟨b,4,none⟩ x4).setCell ⟨b,5,none⟩ x5).setCell ⟨b,6,none⟩ x6).setCell ⟨b,7,none⟩ x7
theorem zdw {S:Nat → Prop} {w:World} {b:Nat} (h:¬ S b) (x0 x1 x2 x3 x4 x5 x6 x7:Value):Kept S w (set8 w b x0 x1 x2 x3 x4 x5 x6 x7):=((((z52 h _ _ _ _).trans (Kept.setCell h _)).trans (Kept.setCell h _)).trans (Kept.setCell h _)).trans (Kept.setCell h _)
theorem zpm {w0 w:World} {b:Nat} (hx:Ext w0 w) (hb:w0.heap.size ≤ b) (x0 x1 x2 x3 x4 x5 x6 x7:Value):Ext w0 (set8 w b x0 x1 x2 x3 x4 x5 x6 x7):=((((z1k hx hb x0 x1 x2 x3).setCell (p:=⟨b,4,none⟩) hb _).setCell (p:=⟨b,5,none⟩) hb _).setCell (p:=⟨b,6,none⟩) hb _).setCell (p:=⟨b,7,none⟩) hb _
theorem zdx (w:World) (b:Nat) (x0 x1 x2 x3 x4 x5 x6 x7:Value):(set8 w b x0 x1 x2 x3 x4 x5 x6 x7).heap.size = w.heap.size:=by simp only [z06]
theorem zj4 {w:World} {b:Nat} {u0 u1 u2 u3 u4 u5 u6 u7:Value} (h:Box8 w b u0 u1 u2 u3 u4 u5 u6 u7) (x0 x1 x2 x3 x4 x5 x6 x7:Value):Box8 (set8 w b x0 x1 x2 x3 x4 x5 x6 x7) b x0 x1 x2 x3 x4 x5 x6 x7:=by
 obtain ⟨⟨c0,c1,c2,c3⟩,c4,c5,c6,c7⟩:=h
 obtain ⟨k0,k1,k2,k3⟩:=z49 (w:=w) (b:=b) ⟨c0,c1,c2,c3⟩ x0 x1 x2 x3
 have o4:∀ {i:Nat} {u:Value},4 ≤ i → w.cell? ⟨b,i,none⟩ = some u → (set4 w b x0 x1 x2 x3).cell? ⟨b,i,none⟩ = some u:=fun hi h => z0b (z0b (z0b (z0b h (ao (by omega))) (ao (by omega))) (ao (by omega))) (ao (by omega))
 have e4:=o4 (by decide) c4
 have e5:=o4 (by decide) c5
 have e6:=o4 (by decide) c6
 have e7:=o4 (by decide) c7
 have up:∀ {i:Nat} {u:Value},i < 4 → (set4 w b x0 x1 x2 x3).cell? ⟨b,i,none⟩ = some u → (set8 w b x0 x1 x2 x3 x4 x5 x6 x7).cell? ⟨b,i,none⟩ = some u:=fun hi h => z0b (z0b (z0b (z0b h (ao (by omega))) (ao (by omega))) (ao (by omega))) (ao (by omega))
 exact ⟨⟨up (by decide) k0,up (by decide) k1,up (by decide) k2,up (by decide) k3⟩,z0b (z0b (z0b (z1c e4) (ao (by decide))) (ao (by decide))) (ao (by decide)),z0b (z0b (z1c (z0b e5 (ao (by decide)))) (ao (by decide))) (ao (by decide)),z0b (z1c (z0b (z0b e6 (ao (by decide))) (ao (by decide)))) (ao (by decide)),z1c (z0b (z0b (z0b e7 (ao (by decide))) (ao (by decide))) (ao (by decide)))⟩
theorem zfq {w Y:World} {b:Nat} {x0 x1 x2 x3 x4 x5 x6 x7:Value} {T:TypeId} (hb:b = w.heap.size) (h:Ext (w.alloc (.cells #[x0,x1,x2,x3,x4,x5,x6,x7] T)) Y):∀ i,Y.frozen? ⟨b,i,none⟩ = false:=by
 subst hb
 exact fun i => h.free (by simp only [size_alloc]; omega) (z1n w _ _)
def ztt (S:Nat → Prop) (w:World) (v:Value) (x1 x2 y1 y2:RInt):Prop:=∃ u1 u2 u3 u4,v = .agg #[.bool x1.neg,u1,.bool x2.neg,u2,.bool y1.neg,u3,.bool y2.neg,u4] ∧ U32s S w u1 x1.mag ∧ U32s S w u2 x2.mag ∧ U32s S w u3 y1.mag ∧ U32s S w u4 y2.mag
theorem zue (v:Value) (x1 x2 y1 y2:RInt) (w:World) (h:ztt (Old w) w v x1 x2 y1 y2) (h1:x1.mag.length ≤ 3) (h2:x2.mag.length ≤ 3) (h3:y1.mag.length ≤ 3) (h4:y2.mag.length ≤ 3) :
  Calls Tryz.prog 15 #[v] w fun e w' => ∃ v',e = .returned v' ∧ SP (New w w') w' v' (putQ (valI x1) (valI x2)) (putQ (valI y1) (valI y2)) 31 ∧ Ext w w':=by
 obtain ⟨u1,u2,u3,u4,rfl,k1,k2,k3,k4⟩:=h
 have C1:=hid (fun (Y:World) (hY:Ext w Y) => zmn (S:=Old w) (.agg #[.bool x1.neg,u1,.bool x2.neg,u2]) x1 x2 Y ⟨_,_,rfl,k1.to (Kept.ext hY (fun _ h => h)) (fun _ h => h),k2.to (Kept.ext hY (fun _ h => h)) (fun _ h => h)⟩ (fun k h => Nat.lt_of_lt_of_le h hY.size) h1 h2)
 have C2:=hid (fun (Y:World) (hY:Ext w Y) => zmn (S:=Old w) (.agg #[.bool y1.neg,u3,.bool y2.neg,u4]) y1 y2 Y ⟨_,_,rfl,k3.to (Kept.ext hY (fun _ h => h)) (fun _ h => h),k4.to (Kept.ext hY (fun _ h => h)) (fun _ h => h)⟩ (fun k h => Nat.lt_of_lt_of_le h hY.size) h3 h4)
 obtain ⟨a1,c1,rfl⟩:=k1.form
 obtain ⟨a2,c2,rfl⟩:=k2.form
 obtain ⟨a3,c3,rfl⟩:=k3.form
 obtain ⟨a4,c4,rfl⟩:=k4.form
 obtain ⟨p,hp⟩:∃ p,p = putQ (valI x1) (valI x2):=⟨_,rfl⟩
 obtain ⟨q,hq⟩:∃ q,q = putQ (valI y1) (valI y2):=⟨_,rfl⟩
 obtain ⟨n1,hn1⟩:∃ n,n = x1.mag.length:=⟨_,rfl⟩
 obtain ⟨n2,hn2⟩:∃ n,n = x2.mag.length:=⟨_,rfl⟩
 obtain ⟨n3,hn3⟩:∃ n,n = y1.mag.length:=⟨_,rfl⟩
 obtain ⟨n4,hn4⟩:∃ n,n = y2.mag.length:=⟨_,rfl⟩
 obtain ⟨g1,hg1⟩:∃ n,n = x1.neg:=⟨_,rfl⟩
 obtain ⟨g2,hg2⟩:∃ n,n = x2.neg:=⟨_,rfl⟩
 obtain ⟨g3,hg3⟩:∃ n,n = y1.neg:=⟨_,rfl⟩
 obtain ⟨g4,hg4⟩:∃ n,n = y2.neg:=⟨_,rfl⟩
 rw [← hp,← hn1,← hn2,← hg1,← hg2] at C1
 rw [← hq,← hn3,← hn4,← hg3,← hg4] at C2
 rw [← hp,← hq,← hn1,← hn2,← hn3,← hn4,← hg1,← hg2,← hg3,← hg4]
 obtain ⟨wb,hwb⟩:∃ Y,Y = w.alloc (.cells #[.bool g1,.slice a1 n1 c1,.bool g2,.slice a2 n2 c2,.bool g3,.slice a3 n3 c3,.bool g4,.slice a4 n4 c4] 30):=⟨_,rfl⟩
 obtain ⟨w0,hw0⟩:∃ Y,Y = wb.alloc (.cells #[.bool false,.slice none 0 0,.bool false,.slice none 0 0,.bool false,.slice none 0 0,.bool false,.slice none 0 0] 67):=⟨_,rfl⟩
 have HXB:Hid (Ext w wb):=hid (by rw [hwb]; exact Ext.alloc (Ext.refl _) _)
 have HXB0:Hid (Ext wb w0):=hid (by rw [hw0]; exact Ext.alloc (Ext.refl _) _)
 have HX0:=hid (HXB.out.trans HXB0.out)
 have HSB:Hid (wb.heap.size = w.heap.size + 1):=hid (by rw [hwb,size_alloc])
 have HS0:Hid (w0.heap.size = w.heap.size + 2):=hid (by rw [hw0,size_alloc,HSB.out])
 have HSS:=hid (fun (Y:World) (hY:Ext wb Y) => by
  rw [hwb] at hY
  exact box8_new (b:=w.heap.size) rfl hY)
 have HBR:=hid (fun (Y:World) (hY:Ext w0 Y) => by
  rw [hw0] at hY
  exact And.intro (box8_new (b:=w.heap.size + 1) HSB.out.symm hY) (zfq (b:=w.heap.size + 1) HSB.out.symm hY))
 have HW0:Hid (w0 = _):=hid (by rw [hw0,hwb])
 clear k1 k2 k3 k4 h1 h2 h3 h4 hp hq hn1 hn2 hn3 hn4 hg1 hg2 hg3 hg4 hwb hw0
 go_enter Tryz.func15,Tryz.ntmps15
 go_upto_region 1 with fail
 rw [← HW0.out]
 have HX00:=hid (show Ext w0 w0.drew from (Ext.refl w0).drew)
 go_cut [] (fun wx => ∃ b1 e1 l1 f1 b2 e2 l2 f2 b3 e3 l3 f3 b4 e4 l4 f4,Hid (Box8 wx (w.heap.size + 1) (.bool b1) (.slice e1 l1 f1) (.bool b2) (.slice e2 l2 f2) (.bool b3) (.slice e3 l3 f3) (.bool b4) (.slice e4 l4 f4) ∧ SP (New w wx) wx (.agg #[.bool b1,.slice e1 l1 f1,.bool b2,.slice e2 l2 f2,.bool b3,.slice e3 l3 f3,.bool b4,.slice e4 l4 f4]) p q 31 ∧ Ext w wx))
 case first =>
  obtain ⟨⟨d0,d1,d2,d3⟩,d4,d5,d6,d7⟩:=HSS.out _ (HXB0.out.trans HX00.out)
  go_region_with
   (first
    | (go_at_call 38; (with_reducible refine (C1.out _ (HX0.out.trans HX00.out)).mono ?_); rintro e w1 ⟨v1,rfl,hq1,hx1⟩; have HX01:=hid (HX00.out.trans hx1); have HQ1:=hid hq1; obtain ⟨⟨d0,d1,d2,d3⟩,d4,d5,d6,d7⟩:=HSS.out _ (HXB0.out.trans HX01.out); obtain ⟨b1,e1,l1,f1,b2,e2,l2,f2,rfl⟩:=hq1.formB; clear hq1 hx1)
    | (go_at_call 38; (with_reducible refine (C2.out _ (HX0.out.trans HX01.out)).mono ?_); rintro e w2 ⟨v2,rfl,hq2,hx2⟩; have HX02:=hid (HX01.out.trans hx2); have HX12:=hid hx2; have HQ2:=hid hq2; obtain ⟨b3,e3,l3,f3,b4,e4,l4,f4,rfl⟩:=hq2.formB; obtain ⟨⟨⟨z0,z1,z2,z3⟩,z4,z5,z6,z7⟩,hfz⟩:=HBR.out _ HX02.out; have i0:=hfz 0; have i1:=hfz 1; have i2:=hfz 2; have i3:=hfz 3; have i4:=hfz 4; have i5:=hfz 5; have i6:=hfz 6; have i7:=hfz 7; clear hq2 hx2 hfz)
    | fail)
  all_goals
   go_wp2_with fail
   go_meet
   have hnb:¬ (fun k => w0.heap.size ≤ k ∧ k < w2.heap.size) (w.heap.size + 1):=fun h => by have h1:=h.1; have h2:=HS0.out; omega
   have r1:=(HQ1.out.to (S':=fun k => w0.heap.size ≤ k ∧ k < w2.heap.size) (Kept.ext HX12.out New.lt) (fun k h => ⟨Nat.le_trans HX00.out.size h.1,Nat.lt_of_lt_of_le h.2 HX12.out.size⟩)).to (S':=New w (set8 w2 (w.heap.size + 1) (.bool b1) (.slice e1 l1 f1) (.bool b2) (.slice e2 l2 f2) (.bool b3) (.slice e3 l3 f3) (.bool b4) (.slice e4 l4 f4))) (zdw hnb (.bool b1) (.slice e1 l1 f1) (.bool b2) (.slice e2 l2 f2) (.bool b3) (.slice e3 l3 f3) (.bool b4) (.slice e4 l4 f4)) (fun k h => ⟨Nat.le_trans HX0.out.size h.1,by rw [zdx]; exact h.2⟩)
   have r2:=(HQ2.out.to (S':=fun k => w0.heap.size ≤ k ∧ k < w2.heap.size) (Kept.refl _ _) (fun k h => ⟨Nat.le_trans HX01.out.size h.1,h.2⟩)).to (S':=New w (set8 w2 (w.heap.size + 1) (.bool b1) (.slice e1 l1 f1) (.bool b2) (.slice e2 l2 f2) (.bool b3) (.slice e3 l3 f3) (.bool b4) (.slice e4 l4 f4))) (zdw hnb (.bool b1) (.slice e1 l1 f1) (.bool b2) (.slice e2 l2 f2) (.bool b3) (.slice e3 l3 f3) (.bool b4) (.slice e4 l4 f4)) (fun k h => ⟨Nat.le_trans HX0.out.size h.1,by rw [zdx]; exact h.2⟩)
   have r3:=zj4 (w:=w2) (b:=w.heap.size + 1) ⟨⟨z0,z1,z2,z3⟩,z4,z5,z6,z7⟩ (.bool b1) (.slice e1 l1 f1) (.bool b2) (.slice e2 l2 f2) (.bool b3) (.slice e3 l3 f3) (.bool b4) (.slice e4 l4 f4)
   have r4:=zpm (HX0.out.trans HX02.out) (Nat.le_succ _) (.bool b1) (.slice e1 l1 f1) (.bool b2) (.slice e2 l2 f2) (.bool b3) (.slice e3 l3 f3) (.bool b4) (.slice e4 l4 f4)
   have r5:SP _ _ _ p q 31:=⟨_,_,_,_,_,_,_,_,_,_,_,_,_,_,_,_,rfl,r1,r2⟩
   with_reducible exact ⟨_,_,_,_,_,_,_,_,_,_,_,_,_,_,_,_,hid ⟨r3,r5,r4⟩⟩
 case rest =>
  obtain ⟨b1,e1,l1,f1,b2,e2,l2,f2,b3,e3,l3,f3,b4,e4,l4,f4,HQ⟩:=hcut
  obtain ⟨⟨z0,z1,z2,z3⟩,z4,z5,z6,z7⟩:=HQ.out.1
  go_wp2
  all_goals
   refine bodyPost_ret (v:=.agg #[.bool b1,.slice e1 l1 f1,.bool b2,.slice e2 l2 f2,.bool b3,.slice e3 l3 f3,.bool b4,.slice e4 l4 f4]) (by simp [results,Tryz.results15,go_sem,z0,z1,z2,z3,z4,z5,z6,z7]) rfl ?_
   exact ⟨_,rfl,HQ.out.2.1,HQ.out.2.2⟩
end
section
open Go.RowKit
theorem zpn {S:Nat → Prop} {w:World} {v:Value} {xs:List ByteArray} (h:Strs S w v xs) (x:ByteArray) (hS:∀ k,S k → k < w.heap.size) :
  Calls Tryz.prog 14 #[v,.string x] w fun e w' => e = .returned (.int .i64 (idxI xs x)) ∧ Ext w w':=by
 have H:=hid h
 have hl:=h.len_le
 obtain ⟨a,c,rfl⟩:=h.form
 obtain ⟨n,hn⟩:∃ n,n = xs.length:=⟨_,rfl⟩
 rw [← hn] at H hl ⊢
 have HN:=hid hn
 clear h hn
 go_enter Tryz.func14,Tryz.ntmps14
 go_wp2
 go_loopw [5] (fun i wr => ∃ k:Nat,k ≤ n ∧ i = .int .i64 k ∧ Ext w wr ∧ Hid (∀ y ∈ xs.take k,y ≠ x)) (fun i _ => n - (intOf i).toNat)
 case atStart => exact ⟨0,Nat.zero_le _,rfl,Ext.refl _,fun y hy => by simp at hy⟩
 case round =>
  obtain ⟨k,hk,rfl,hx,HE⟩:=hrel
  have HX:=hid hx
  by_cases hlt:k < n
  ·obtain ⟨y,hy⟩:=z00 (l:=xs) (j:=k) (by rw [← HN.out]; exact hlt)
   obtain ⟨b1,o1,rfl,-,hc1,hm1,-,h1⟩:=(H.out.ext hx hS).cellAt hy
   have HY:=hid hy
   clear hy hx
   by_cases he:y = x
   ·have q1:=z9z he
    have H0:=hid he
    clear he
    go_wp2
    all_goals
     go_ret
     refine ⟨?_,HX.out⟩
     have e:idxI xs x = (k:Int):=by unfold idxI; rw [z92 (by rw [HY.out,H0.out]) HE.out]
     rw [e]
     rfl
   ·have q1:=za0 he
    have H0:=hid he
    clear he
    go_wp2
    go_roundw
    case rel => exact ⟨k + 1,by omega,by go_num,HX.out,fun z hz => by
     rw [List.take_add_one,HY.out] at hz
     rcases List.mem_append.1 hz with hz | hz
     ·exact HE.out z hz
     ·have:z = y:=by simpa using hz
      rw [this]; exact H0.out⟩
    case measure => simp only [intOf]; omega
  ·obtain rfl:k = n:=by omega
   have HF:Hid (idxI xs x = -1):=hid (by
    have:=HE.out
    rw [List.take_of_length_le (by rw [← HN.out]; exact Nat.le_refl _)] at this
    unfold idxI; rw [z7k this])
   clear hx
   go_wp2
   all_goals
    go_ret
    exact ⟨by rw [HF.out]; rfl,HX.out⟩
def z8o (a b c d:Rat × Rat):Rat:=(b.1 - a.1) * (d.2 - c.2) - (b.2 - a.2) * (d.1 - c.1)
def dotQ (a b c d:Rat × Rat):Rat:=(b.1 - a.1) * (d.1 - c.1) + (b.2 - a.2) * (d.2 - c.2)
def z6n (wd:ByteArray) (l:List (Rat × Rat)):Rat :=
 if wd = z0z then dotQ (l.getD 0 (0,0)) (l.getD 1 (0,0)) (l.getD 0 (0,0)) (l.getD 1 (0,0))
 else if wd = z1a then z8o (l.getD 0 (0,0)) (l.getD 1 (0,0)) (l.getD 0 (0,0)) (l.getD 2 (0,0))
 else if wd = z1j then z8o (l.getD 0 (0,0)) (l.getD 1 (0,0)) (l.getD 2 (0,0)) (l.getD 3 (0,0))
 else dotQ (l.getD 0 (0,0)) (l.getD 1 (0,0)) (l.getD 2 (0,0)) (l.getD 3 (0,0))
def Spts (w:World) (g:Nat) (l:List (Rat × Rat)):Prop:=∀ j r,l[j]? = some r → ∃ b1 a1 l1 c1 b2 a2 l2 c2 b3 a3 l3 c3 b4 a4 l4 c4,
 ((w.cell? ⟨g,j * 8,none⟩ = some (.bool b1) ∧ w.cell? ⟨g,j * 8 + 1,none⟩ = some (.slice a1 l1 c1) ∧ w.cell? ⟨g,j * 8 + 2,none⟩ = some (.bool b2) ∧ w.cell? ⟨g,j * 8 + 3,none⟩ = some (.slice a2 l2 c2)) ∧
   w.cell? ⟨g,j * 8 + 4,none⟩ = some (.bool b3) ∧ w.cell? ⟨g,j * 8 + 5,none⟩ = some (.slice a3 l3 c3) ∧ w.cell? ⟨g,j * 8 + 6,none⟩ = some (.bool b4) ∧ w.cell? ⟨g,j * 8 + 7,none⟩ = some (.slice a4 l4 c4)) ∧
 SP (Old w) w (.agg #[.bool b1,.slice a1 l1 c1,.bool b2,.slice a2 l2 c2,.bool b3,.slice a3 l3 c3,.bool b4,.slice a4 l4 c4]) r.1 r.2 31
theorem zc1 {w:World} {g cap:Nat} {l:List (Rat × Rat)} (hl:l.length = 2) (hc:2 ≤ cap) (hs:Spts w g l) :
  Calls Tryz.prog 16 #[.string z0z,.slice (some ⟨g,0,none⟩) 2 cap] w fun e w' => ∃ v',e = .returned (.tuple #[v',.int .i64 0]) ∧ QR (New w w') w' v' (z6n z0z l) 253 ∧ Ext w w':=by
 obtain ⟨r0,hr0⟩:=z00 (l:=l) (j:=0) (by omega)
 obtain ⟨n1,a1,l1,c1,m1,d1,k1,e1,n2,a2,l2,c2,m2,d2,k2,e2,hc0,hp0⟩:=hs 0 r0 hr0
 obtain ⟨r1,hr1⟩:=z00 (l:=l) (j:=1) (by omega)
 obtain ⟨n3,a3,l3,c3,m3,d3,k3,e3,n4,a4,l4,c4,m4,d4,k4,e4,hc1,hp1⟩:=hs 1 r1 hr1
 have HV:Hid (z6n z0z l = dotQ r0 r1 r0 r1):=hid (by
  unfold z6n
  rw [if_pos rfl]
  simp only [List.getD_eq_getElem?_getD,hr0,hr1,Option.getD_some])
 have HU0:=hid (fun (Y:World) (hY:Ext w Y) => hp0.on hY)
 have HU1:=hid (fun (Y:World) (hY:Ext w Y) => hp1.on hY)
 have HSS:=hid (fun (Y:World) (hY:Ext w Y) => show ((Y.cell? ⟨g,0,none⟩ = some (.bool n1) ∧ Y.cell? ⟨g,1,none⟩ = some (.slice a1 l1 c1) ∧ Y.cell? ⟨g,2,none⟩ = some (.bool m1) ∧ Y.cell? ⟨g,3,none⟩ = some (.slice d1 k1 e1)) ∧ Y.cell? ⟨g,4,none⟩ = some (.bool n2) ∧ Y.cell? ⟨g,5,none⟩ = some (.slice a2 l2 c2) ∧ Y.cell? ⟨g,6,none⟩ = some (.bool m2) ∧ Y.cell? ⟨g,7,none⟩ = some (.slice d2 k2 e2)) ∧ ((Y.cell? ⟨g,8,none⟩ = some (.bool n3) ∧ Y.cell? ⟨g,9,none⟩ = some (.slice a3 l3 c3) ∧ Y.cell? ⟨g,10,none⟩ = some (.bool m3) ∧ Y.cell? ⟨g,11,none⟩ = some (.slice d3 k3 e3)) ∧ Y.cell? ⟨g,12,none⟩ = some (.bool n4) ∧ Y.cell? ⟨g,13,none⟩ = some (.slice a4 l4 c4) ∧ Y.cell? ⟨g,14,none⟩ = some (.bool m4) ∧ Y.cell? ⟨g,15,none⟩ = some (.slice d4 k4 e4)) from by
  obtain ⟨⟨s00,s01,s02,s03⟩,s04,s05,s06,s07⟩:=hc0
  obtain ⟨⟨s10,s11,s12,s13⟩,s14,s15,s16,s17⟩:=hc1
  exact ⟨⟨⟨hY.cell s00,hY.cell s01,hY.cell s02,hY.cell s03⟩,hY.cell s04,hY.cell s05,hY.cell s06,hY.cell s07⟩,⟨⟨hY.cell s10,hY.cell s11,hY.cell s12,hY.cell s13⟩,hY.cell s14,hY.cell s15,hY.cell s16,hY.cell s17⟩⟩)
 obtain ⟨w0,hw0⟩:∃ Y,Y = w.alloc (.cells #[.bool false,.slice none 0 0,.bool false,.slice none 0 0] 58):=⟨_,rfl⟩
 have HX0:Hid (Ext w w0):=hid (by rw [hw0]; exact Ext.alloc (Ext.refl _) _)
 have HS0:Hid (w0.heap.size = w.heap.size + 1):=hid (by rw [hw0,size_alloc])
 have HBR:=hid (fun (Y:World) (hY:Ext w0 Y) => by
  rw [hw0] at hY
  exact box4_new (b:=w.heap.size) rfl hY)
 have HW0:=hid hw0
 have C1:=hid (fun (Y:World) (hY:Ext w Y) => zqo _ _ _ _ r0.1 r0.2 r1.1 r1.2 r0.1 r0.2 r1.1 r1.2 31 Y (HU0.out Y hY) (HU1.out Y hY) (HU0.out Y hY) (HU1.out Y hY) (by decide))
 have hcI:(2:Int) ≤ (cap:Int):=by omega
 clear hr0 hc0 hp0 hr1 hc1 hp1 hw0 hs
 have q1:=z7n (wd:=z0z) rfl
 go_enter Tryz.func16,Tryz.ntmps16
 go_upto_region 15 with fail
 rw [← HW0.out]
 have HX00:=hid (show Ext w0 w0.drew from (Ext.refl w0).drew)
 go_cut [5] (fun u5 wx => ∃ bn vn bd vd,u5 = .int .i64 0 ∧ Hid (z39 wx w.heap.size (.bool bn) vn (.bool bd) vd ∧ QR (New w wx) wx (.agg #[.bool bn,vn,.bool bd,vd]) (dotQ r0 r1 r0 r1) 253 ∧ Ext w wx))
 case first =>
  go_region_held3 (fun Y => ((Y.cell? ⟨g,0,none⟩ = some (.bool n1) ∧ Y.cell? ⟨g,1,none⟩ = some (.slice a1 l1 c1) ∧ Y.cell? ⟨g,2,none⟩ = some (.bool m1) ∧ Y.cell? ⟨g,3,none⟩ = some (.slice d1 k1 e1)) ∧ Y.cell? ⟨g,4,none⟩ = some (.bool n2) ∧ Y.cell? ⟨g,5,none⟩ = some (.slice a2 l2 c2) ∧ Y.cell? ⟨g,6,none⟩ = some (.bool m2) ∧ Y.cell? ⟨g,7,none⟩ = some (.slice d2 k2 e2)) ∧ ((Y.cell? ⟨g,8,none⟩ = some (.bool n3) ∧ Y.cell? ⟨g,9,none⟩ = some (.slice a3 l3 c3) ∧ Y.cell? ⟨g,10,none⟩ = some (.bool m3) ∧ Y.cell? ⟨g,11,none⟩ = some (.slice d3 k3 e3)) ∧ Y.cell? ⟨g,12,none⟩ = some (.bool n4) ∧ Y.cell? ⟨g,13,none⟩ = some (.slice a4 l4 c4) ∧ Y.cell? ⟨g,14,none⟩ = some (.bool m4) ∧ Y.cell? ⟨g,15,none⟩ = some (.slice d4 k4 e4))) (first | exact HSS.out _ (HX0.out.trans HX00.out) | exact HSS.out _ (HX0.out.trans HX01.out) | exact HSS.out _ (z1k (HX0.out.trans HX01.out) (Nat.le_refl _) _ _ _ _))
   (first
    | (go_at_call 46; (with_reducible refine (C1.out _ (HX0.out.trans HX00.out)).mono ?_); rintro e w1 ⟨v1,rfl,hq1,hx1⟩; have HX01:=hid (HX00.out.trans hx1); have HQZ:=hid (hq1.to (S':=New w0 w1) (Kept.refl _ _) (fun k h => ⟨Nat.le_trans HX00.out.size h.1,h.2⟩)); obtain ⟨x1_,x2_,x3_,x4_,x5_,x6_,x7_,x8_,rfl⟩:=hq1.formB; obtain ⟨⟨z0,z1,z2,z3⟩,i0,i1,i2,i3⟩:=HBR.out _ HX01.out; clear hq1 hx1)
    | fail)
  all_goals
   go_wp2_with fail
   go_meet
   have hr:=z5x (w:=w) (w0:=w0) (b:=w.heap.size) (Nat.le_refl _) HX0.out (by rw [HS0.out]; omega) HX01.out ⟨z0,z1,z2,z3⟩ HQZ.out
   exact ⟨_,_,_,_,rfl,hid hr⟩
 case rest =>
  obtain ⟨bn,vn,bd,vd,rfl,HQ⟩:=hcut
  obtain ⟨z0,z1,z2,z3⟩:=HQ.out.1
  go_wp2
  all_goals
   refine bodyPost_ret (v:=.tuple #[.agg #[.bool bn,vn,.bool bd,vd],.int .i64 0]) (by simp [results,Tryz.results16,go_sem,z0,z1,z2,z3]) rfl ?_
   exact ⟨_,rfl,by rw [HV.out]; exact HQ.out.2.1,HQ.out.2.2⟩
theorem zdy {w:World} {g cap:Nat} {l:List (Rat × Rat)} (hl:l.length = 3) (hc:3 ≤ cap) (hs:Spts w g l) :
  Calls Tryz.prog 16 #[.string z1a,.slice (some ⟨g,0,none⟩) 3 cap] w fun e w' => ∃ v',e = .returned (.tuple #[v',.int .i64 0]) ∧ QR (New w w') w' v' (z6n z1a l) 253 ∧ Ext w w':=by
 obtain ⟨r0,hr0⟩:=z00 (l:=l) (j:=0) (by omega)
 obtain ⟨n1,a1,l1,c1,m1,d1,k1,e1,n2,a2,l2,c2,m2,d2,k2,e2,hc0,hp0⟩:=hs 0 r0 hr0
 obtain ⟨r1,hr1⟩:=z00 (l:=l) (j:=1) (by omega)
 obtain ⟨n3,a3,l3,c3,m3,d3,k3,e3,n4,a4,l4,c4,m4,d4,k4,e4,hc1,hp1⟩:=hs 1 r1 hr1
 obtain ⟨r2,hr2⟩:=z00 (l:=l) (j:=2) (by omega)
 obtain ⟨n5,a5,l5,c5,m5,d5,k5,e5,n6,a6,l6,c6,m6,d6,k6,e6,hc2,hp2⟩:=hs 2 r2 hr2
 have HV:Hid (z6n z1a l = z8o r0 r1 r0 r2):=hid (by
  unfold z6n
  rw [if_neg (by decide),if_pos rfl]
  simp only [List.getD_eq_getElem?_getD,hr0,hr1,hr2,Option.getD_some])
 have HU0:=hid (fun (Y:World) (hY:Ext w Y) => hp0.on hY)
 have HU1:=hid (fun (Y:World) (hY:Ext w Y) => hp1.on hY)
 have HU2:=hid (fun (Y:World) (hY:Ext w Y) => hp2.on hY)
 have HSS:=hid (fun (Y:World) (hY:Ext w Y) => show ((Y.cell? ⟨g,0,none⟩ = some (.bool n1) ∧ Y.cell? ⟨g,1,none⟩ = some (.slice a1 l1 c1) ∧ Y.cell? ⟨g,2,none⟩ = some (.bool m1) ∧ Y.cell? ⟨g,3,none⟩ = some (.slice d1 k1 e1)) ∧ Y.cell? ⟨g,4,none⟩ = some (.bool n2) ∧ Y.cell? ⟨g,5,none⟩ = some (.slice a2 l2 c2) ∧ Y.cell? ⟨g,6,none⟩ = some (.bool m2) ∧ Y.cell? ⟨g,7,none⟩ = some (.slice d2 k2 e2)) ∧ ((Y.cell? ⟨g,8,none⟩ = some (.bool n3) ∧ Y.cell? ⟨g,9,none⟩ = some (.slice a3 l3 c3) ∧ Y.cell? ⟨g,10,none⟩ = some (.bool m3) ∧ Y.cell? ⟨g,11,none⟩ = some (.slice d3 k3 e3)) ∧ Y.cell? ⟨g,12,none⟩ = some (.bool n4) ∧ Y.cell? ⟨g,13,none⟩ = some (.slice a4 l4 c4) ∧ Y.cell? ⟨g,14,none⟩ = some (.bool m4) ∧ Y.cell? ⟨g,15,none⟩ = some (.slice d4 k4 e4)) ∧ ((Y.cell? ⟨g,16,none⟩ = some (.bool n5) ∧ Y.cell? ⟨g,17,none⟩ = some (.slice a5 l5 c5) ∧ Y.cell? ⟨g,18,none⟩ = some (.bool m5) ∧ Y.cell? ⟨g,19,none⟩ = some (.slice d5 k5 e5)) ∧ Y.cell? ⟨g,20,none⟩ = some (.bool n6) ∧ Y.cell? ⟨g,21,none⟩ = some (.slice a6 l6 c6) ∧ Y.cell? ⟨g,22,none⟩ = some (.bool m6) ∧ Y.cell? ⟨g,23,none⟩ = some (.slice d6 k6 e6)) from by
  obtain ⟨⟨s00,s01,s02,s03⟩,s04,s05,s06,s07⟩:=hc0
  obtain ⟨⟨s10,s11,s12,s13⟩,s14,s15,s16,s17⟩:=hc1
  obtain ⟨⟨s20,s21,s22,s23⟩,s24,s25,s26,s27⟩:=hc2
  exact ⟨⟨⟨hY.cell s00,hY.cell s01,hY.cell s02,hY.cell s03⟩,hY.cell s04,hY.cell s05,hY.cell s06,hY.cell s07⟩,⟨⟨hY.cell s10,hY.cell s11,hY.cell s12,hY.cell s13⟩,hY.cell s14,hY.cell s15,hY.cell s16,hY.cell s17⟩,⟨⟨hY.cell s20,hY.cell s21,hY.cell s22,hY.cell s23⟩,hY.cell s24,hY.cell s25,hY.cell s26,hY.cell s27⟩⟩)
 obtain ⟨w0,hw0⟩:∃ Y,Y = w.alloc (.cells #[.bool false,.slice none 0 0,.bool false,.slice none 0 0] 58):=⟨_,rfl⟩
 have HX0:Hid (Ext w w0):=hid (by rw [hw0]; exact Ext.alloc (Ext.refl _) _)
 have HS0:Hid (w0.heap.size = w.heap.size + 1):=hid (by rw [hw0,size_alloc])
 have HBR:=hid (fun (Y:World) (hY:Ext w0 Y) => by
  rw [hw0] at hY
  exact box4_new (b:=w.heap.size) rfl hY)
 have HW0:=hid hw0
 have C1:=hid (fun (Y:World) (hY:Ext w Y) => zh4 _ _ _ _ r0.1 r0.2 r1.1 r1.2 r0.1 r0.2 r2.1 r2.2 31 Y (HU0.out Y hY) (HU1.out Y hY) (HU0.out Y hY) (HU2.out Y hY) (by decide))
 have hcI:(3:Int) ≤ (cap:Int):=by omega
 clear hr0 hc0 hp0 hr1 hc1 hp1 hr2 hc2 hp2 hw0 hs
 have q1:=z2m (wd:=z1a) (by decide)
 have q2:=za7 (wd:=z1a) rfl
 go_enter Tryz.func16,Tryz.ntmps16
 go_upto_region 17 with fail
 rw [← HW0.out]
 have HX00:=hid (show Ext w0 w0.drew from (Ext.refl w0).drew)
 go_cut [5] (fun u5 wx => ∃ bn vn bd vd,u5 = .int .i64 0 ∧ Hid (z39 wx w.heap.size (.bool bn) vn (.bool bd) vd ∧ QR (New w wx) wx (.agg #[.bool bn,vn,.bool bd,vd]) (z8o r0 r1 r0 r2) 253 ∧ Ext w wx))
 case first =>
  go_region_held3 (fun Y => ((Y.cell? ⟨g,0,none⟩ = some (.bool n1) ∧ Y.cell? ⟨g,1,none⟩ = some (.slice a1 l1 c1) ∧ Y.cell? ⟨g,2,none⟩ = some (.bool m1) ∧ Y.cell? ⟨g,3,none⟩ = some (.slice d1 k1 e1)) ∧ Y.cell? ⟨g,4,none⟩ = some (.bool n2) ∧ Y.cell? ⟨g,5,none⟩ = some (.slice a2 l2 c2) ∧ Y.cell? ⟨g,6,none⟩ = some (.bool m2) ∧ Y.cell? ⟨g,7,none⟩ = some (.slice d2 k2 e2)) ∧ ((Y.cell? ⟨g,8,none⟩ = some (.bool n3) ∧ Y.cell? ⟨g,9,none⟩ = some (.slice a3 l3 c3) ∧ Y.cell? ⟨g,10,none⟩ = some (.bool m3) ∧ Y.cell? ⟨g,11,none⟩ = some (.slice d3 k3 e3)) ∧ Y.cell? ⟨g,12,none⟩ = some (.bool n4) ∧ Y.cell? ⟨g,13,none⟩ = some (.slice a4 l4 c4) ∧ Y.cell? ⟨g,14,none⟩ = some (.bool m4) ∧ Y.cell? ⟨g,15,none⟩ = some (.slice d4 k4 e4)) ∧ ((Y.cell? ⟨g,16,none⟩ = some (.bool n5) ∧ Y.cell? ⟨g,17,none⟩ = some (.slice a5 l5 c5) ∧ Y.cell? ⟨g,18,none⟩ = some (.bool m5) ∧ Y.cell? ⟨g,19,none⟩ = some (.slice d5 k5 e5)) ∧ Y.cell? ⟨g,20,none⟩ = some (.bool n6) ∧ Y.cell? ⟨g,21,none⟩ = some (.slice a6 l6 c6) ∧ Y.cell? ⟨g,22,none⟩ = some (.bool m6) ∧ Y.cell? ⟨g,23,none⟩ = some (.slice d6 k6 e6))) (first | exact HSS.out _ (HX0.out.trans HX00.out) | exact HSS.out _ (HX0.out.trans HX01.out) | exact HSS.out _ (z1k (HX0.out.trans HX01.out) (Nat.le_refl _) _ _ _ _))
   (first
    | (go_at_call 47; (with_reducible refine (C1.out _ (HX0.out.trans HX00.out)).mono ?_); rintro e w1 ⟨v1,rfl,hq1,hx1⟩; have HX01:=hid (HX00.out.trans hx1); have HQZ:=hid (hq1.to (S':=New w0 w1) (Kept.refl _ _) (fun k h => ⟨Nat.le_trans HX00.out.size h.1,h.2⟩)); obtain ⟨x1_,x2_,x3_,x4_,x5_,x6_,x7_,x8_,rfl⟩:=hq1.formB; obtain ⟨⟨z0,z1,z2,z3⟩,i0,i1,i2,i3⟩:=HBR.out _ HX01.out; clear hq1 hx1)
    | fail)
  all_goals
   go_wp2_with fail
   go_meet
   have hr:=z5x (w:=w) (w0:=w0) (b:=w.heap.size) (Nat.le_refl _) HX0.out (by rw [HS0.out]; omega) HX01.out ⟨z0,z1,z2,z3⟩ HQZ.out
   exact ⟨_,_,_,_,rfl,hid hr⟩
 case rest =>
  obtain ⟨bn,vn,bd,vd,rfl,HQ⟩:=hcut
  obtain ⟨z0,z1,z2,z3⟩:=HQ.out.1
  go_wp2
  all_goals
   refine bodyPost_ret (v:=.tuple #[.agg #[.bool bn,vn,.bool bd,vd],.int .i64 0]) (by simp [results,Tryz.results16,go_sem,z0,z1,z2,z3]) rfl ?_
   exact ⟨_,rfl,by rw [HV.out]; exact HQ.out.2.1,HQ.out.2.2⟩
theorem zdz {w:World} {g cap:Nat} {l:List (Rat × Rat)} (hl:l.length = 4) (hc:4 ≤ cap) (hs:Spts w g l) :
  Calls Tryz.prog 16 #[.string z1j,.slice (some ⟨g,0,none⟩) 4 cap] w fun e w' => ∃ v',e = .returned (.tuple #[v',.int .i64 0]) ∧ QR (New w w') w' v' (z6n z1j l) 253 ∧ Ext w w':=by
 obtain ⟨r0,hr0⟩:=z00 (l:=l) (j:=0) (by omega)
 obtain ⟨n1,a1,l1,c1,m1,d1,k1,e1,n2,a2,l2,c2,m2,d2,k2,e2,hc0,hp0⟩:=hs 0 r0 hr0
 obtain ⟨r1,hr1⟩:=z00 (l:=l) (j:=1) (by omega)
 obtain ⟨n3,a3,l3,c3,m3,d3,k3,e3,n4,a4,l4,c4,m4,d4,k4,e4,hc1,hp1⟩:=hs 1 r1 hr1
 obtain ⟨r2,hr2⟩:=z00 (l:=l) (j:=2) (by omega)
 obtain ⟨n5,a5,l5,c5,m5,d5,k5,e5,n6,a6,l6,c6,m6,d6,k6,e6,hc2,hp2⟩:=hs 2 r2 hr2
 obtain ⟨r3,hr3⟩:=z00 (l:=l) (j:=3) (by omega)
 obtain ⟨n7,a7,l7,c7,m7,d7,k7,e7,n8,a8,l8,c8,m8,d8,k8,e8,hc3,hp3⟩:=hs 3 r3 hr3
 have HV:Hid (z6n z1j l = z8o r0 r1 r2 r3):=hid (by
  unfold z6n
  rw [if_neg (by decide),if_neg (by decide),if_pos rfl]
  simp only [List.getD_eq_getElem?_getD,hr0,hr1,hr2,hr3,Option.getD_some])
 have HU0:=hid (fun (Y:World) (hY:Ext w Y) => hp0.on hY)
 have HU1:=hid (fun (Y:World) (hY:Ext w Y) => hp1.on hY)
 have HU2:=hid (fun (Y:World) (hY:Ext w Y) => hp2.on hY)
 have HU3:=hid (fun (Y:World) (hY:Ext w Y) => hp3.on hY)
 have HSS:=hid (fun (Y:World) (hY:Ext w Y) => show ((Y.cell? ⟨g,0,none⟩ = some (.bool n1) ∧ Y.cell? ⟨g,1,none⟩ = some (.slice a1 l1 c1) ∧ Y.cell? ⟨g,2,none⟩ = some (.bool m1) ∧ Y.cell? ⟨g,3,none⟩ = some (.slice d1 k1 e1)) ∧ Y.cell? ⟨g,4,none⟩ = some (.bool n2) ∧ Y.cell? ⟨g,5,none⟩ = some (.slice a2 l2 c2) ∧ Y.cell? ⟨g,6,none⟩ = some (.bool m2) ∧ Y.cell? ⟨g,7,none⟩ = some (.slice d2 k2 e2)) ∧ ((Y.cell? ⟨g,8,none⟩ = some (.bool n3) ∧ Y.cell? ⟨g,9,none⟩ = some (.slice a3 l3 c3) ∧ Y.cell? ⟨g,10,none⟩ = some (.bool m3) ∧ Y.cell? ⟨g,11,none⟩ = some (.slice d3 k3 e3)) ∧ Y.cell? ⟨g,12,none⟩ = some (.bool n4) ∧ Y.cell? ⟨g,13,none⟩ = some (.slice a4 l4 c4) ∧ Y.cell? ⟨g,14,none⟩ = some (.bool m4) ∧ Y.cell? ⟨g,15,none⟩ = some (.slice d4 k4 e4)) ∧ ((Y.cell? ⟨g,16,none⟩ = some (.bool n5) ∧ Y.cell? ⟨g,17,none⟩ = some (.slice a5 l5 c5) ∧ Y.cell? ⟨g,18,none⟩ = some (.bool m5) ∧ Y.cell? ⟨g,19,none⟩ = some (.slice d5 k5 e5)) ∧ Y.cell? ⟨g,20,none⟩ = some (.bool n6) ∧ Y.cell? ⟨g,21,none⟩ = some (.slice a6 l6 c6) ∧ Y.cell? ⟨g,22,none⟩ = some (.bool m6) ∧ Y.cell? ⟨g,23,none⟩ = some (.slice d6 k6 e6)) ∧ ((Y.cell? ⟨g,24,none⟩ = some (.bool n7) ∧ Y.cell? ⟨g,25,none⟩ = some (.slice a7 l7 c7) ∧ Y.cell? ⟨g,26,none⟩ = some (.bool m7) ∧ Y.cell? ⟨g,27,none⟩ = some (.slice d7 k7 e7)) ∧ Y.cell? ⟨g,28,none⟩ = some (.bool n8) ∧ Y.cell? ⟨g,29,none⟩ = some (.slice a8 l8 c8) ∧ Y.cell? ⟨g,30,none⟩ = some (.bool m8) ∧ Y.cell? ⟨g,31,none⟩ = some (.slice d8 k8 e8)) from by
  obtain ⟨⟨s00,s01,s02,s03⟩,s04,s05,s06,s07⟩:=hc0
  obtain ⟨⟨s10,s11,s12,s13⟩,s14,s15,s16,s17⟩:=hc1
  obtain ⟨⟨s20,s21,s22,s23⟩,s24,s25,s26,s27⟩:=hc2
  obtain ⟨⟨s30,s31,s32,s33⟩,s34,s35,s36,s37⟩:=hc3
  exact ⟨⟨⟨hY.cell s00,hY.cell s01,hY.cell s02,hY.cell s03⟩,hY.cell s04,hY.cell s05,hY.cell s06,hY.cell s07⟩,⟨⟨hY.cell s10,hY.cell s11,hY.cell s12,hY.cell s13⟩,hY.cell s14,hY.cell s15,hY.cell s16,hY.cell s17⟩,⟨⟨hY.cell s20,hY.cell s21,hY.cell s22,hY.cell s23⟩,hY.cell s24,hY.cell s25,hY.cell s26,hY.cell s27⟩,⟨⟨hY.cell s30,hY.cell s31,hY.cell s32,hY.cell s33⟩,hY.cell s34,hY.cell s35,hY.cell s36,hY.cell s37⟩⟩)
 obtain ⟨w0,hw0⟩:∃ Y,Y = w.alloc (.cells #[.bool false,.slice none 0 0,.bool false,.slice none 0 0] 58):=⟨_,rfl⟩
 have HX0:Hid (Ext w w0):=hid (by rw [hw0]; exact Ext.alloc (Ext.refl _) _)
 have HS0:Hid (w0.heap.size = w.heap.size + 1):=hid (by rw [hw0,size_alloc])
 have HBR:=hid (fun (Y:World) (hY:Ext w0 Y) => by
  rw [hw0] at hY
  exact box4_new (b:=w.heap.size) rfl hY)
 have HW0:=hid hw0
 have C1:=hid (fun (Y:World) (hY:Ext w Y) => zh4 _ _ _ _ r0.1 r0.2 r1.1 r1.2 r2.1 r2.2 r3.1 r3.2 31 Y (HU0.out Y hY) (HU1.out Y hY) (HU2.out Y hY) (HU3.out Y hY) (by decide))
 have hcI:(4:Int) ≤ (cap:Int):=by omega
 clear hr0 hc0 hp0 hr1 hc1 hp1 hr2 hc2 hp2 hr3 hc3 hp3 hw0 hs
 have q1:=z2m (wd:=z1j) (by decide)
 have q2:=z5f (wd:=z1j) (by decide)
 have q3:=zc0 (wd:=z1j) rfl
 go_enter Tryz.func16,Tryz.ntmps16
 go_upto_region 19 with fail
 rw [← HW0.out]
 have HX00:=hid (show Ext w0 w0.drew from (Ext.refl w0).drew)
 go_cut [5] (fun u5 wx => ∃ bn vn bd vd,u5 = .int .i64 0 ∧ Hid (z39 wx w.heap.size (.bool bn) vn (.bool bd) vd ∧ QR (New w wx) wx (.agg #[.bool bn,vn,.bool bd,vd]) (z8o r0 r1 r2 r3) 253 ∧ Ext w wx))
 case first =>
  go_region_held3 (fun Y => ((Y.cell? ⟨g,0,none⟩ = some (.bool n1) ∧ Y.cell? ⟨g,1,none⟩ = some (.slice a1 l1 c1) ∧ Y.cell? ⟨g,2,none⟩ = some (.bool m1) ∧ Y.cell? ⟨g,3,none⟩ = some (.slice d1 k1 e1)) ∧ Y.cell? ⟨g,4,none⟩ = some (.bool n2) ∧ Y.cell? ⟨g,5,none⟩ = some (.slice a2 l2 c2) ∧ Y.cell? ⟨g,6,none⟩ = some (.bool m2) ∧ Y.cell? ⟨g,7,none⟩ = some (.slice d2 k2 e2)) ∧ ((Y.cell? ⟨g,8,none⟩ = some (.bool n3) ∧ Y.cell? ⟨g,9,none⟩ = some (.slice a3 l3 c3) ∧ Y.cell? ⟨g,10,none⟩ = some (.bool m3) ∧ Y.cell? ⟨g,11,none⟩ = some (.slice d3 k3 e3)) ∧ Y.cell? ⟨g,12,none⟩ = some (.bool n4) ∧ Y.cell? ⟨g,13,none⟩ = some (.slice a4 l4 c4) ∧ Y.cell? ⟨g,14,none⟩ = some (.bool m4) ∧ Y.cell? ⟨g,15,none⟩ = some (.slice d4 k4 e4)) ∧ ((Y.cell? ⟨g,16,none⟩ = some (.bool n5) ∧ Y.cell? ⟨g,17,none⟩ = some (.slice a5 l5 c5) ∧ Y.cell? ⟨g,18,none⟩ = some (.bool m5) ∧ Y.cell? ⟨g,19,none⟩ = some (.slice d5 k5 e5)) ∧ Y.cell? ⟨g,20,none⟩ = some (.bool n6) ∧ Y.cell? ⟨g,21,none⟩ = some (.slice a6 l6 c6) ∧ Y.cell? ⟨g,22,none⟩ = some (.bool m6) ∧ Y.cell? ⟨g,23,none⟩ = some (.slice d6 k6 e6)) ∧ ((Y.cell? ⟨g,24,none⟩ = some (.bool n7) ∧ Y.cell? ⟨g,25,none⟩ = some (.slice a7 l7 c7) ∧ Y.cell? ⟨g,26,none⟩ = some (.bool m7) ∧ Y.cell? ⟨g,27,none⟩ = some (.slice d7 k7 e7)) ∧ Y.cell? ⟨g,28,none⟩ = some (.bool n8) ∧ Y.cell? ⟨g,29,none⟩ = some (.slice a8 l8 c8) ∧ Y.cell? ⟨g,30,none⟩ = some (.bool m8) ∧ Y.cell? ⟨g,31,none⟩ = some (.slice d8 k8 e8))) (first | exact HSS.out _ (HX0.out.trans HX00.out) | exact HSS.out _ (HX0.out.trans HX01.out) | exact HSS.out _ (z1k (HX0.out.trans HX01.out) (Nat.le_refl _) _ _ _ _))
   (first
    | (go_at_call 47; (with_reducible refine (C1.out _ (HX0.out.trans HX00.out)).mono ?_); rintro e w1 ⟨v1,rfl,hq1,hx1⟩; have HX01:=hid (HX00.out.trans hx1); have HQZ:=hid (hq1.to (S':=New w0 w1) (Kept.refl _ _) (fun k h => ⟨Nat.le_trans HX00.out.size h.1,h.2⟩)); obtain ⟨x1_,x2_,x3_,x4_,x5_,x6_,x7_,x8_,rfl⟩:=hq1.formB; obtain ⟨⟨z0,z1,z2,z3⟩,i0,i1,i2,i3⟩:=HBR.out _ HX01.out; clear hq1 hx1)
    | fail)
  all_goals
   go_wp2_with fail
   go_meet
   have hr:=z5x (w:=w) (w0:=w0) (b:=w.heap.size) (Nat.le_refl _) HX0.out (by rw [HS0.out]; omega) HX01.out ⟨z0,z1,z2,z3⟩ HQZ.out
   exact ⟨_,_,_,_,rfl,hid hr⟩
 case rest =>
  obtain ⟨bn,vn,bd,vd,rfl,HQ⟩:=hcut
  obtain ⟨z0,z1,z2,z3⟩:=HQ.out.1
  go_wp2
  all_goals
   refine bodyPost_ret (v:=.tuple #[.agg #[.bool bn,vn,.bool bd,vd],.int .i64 0]) (by simp [results,Tryz.results16,go_sem,z0,z1,z2,z3]) rfl ?_
   exact ⟨_,rfl,by rw [HV.out]; exact HQ.out.2.1,HQ.out.2.2⟩
theorem zj5 {w:World} {g cap:Nat} {l:List (Rat × Rat)} (hl:l.length = 4) (hc:4 ≤ cap) (hs:Spts w g l) :
  Calls Tryz.prog 16 #[.string wDot,.slice (some ⟨g,0,none⟩) 4 cap] w fun e w' => ∃ v',e = .returned (.tuple #[v',.int .i64 0]) ∧ QR (New w w') w' v' (z6n wDot l) 253 ∧ Ext w w':=by
 obtain ⟨r0,hr0⟩:=z00 (l:=l) (j:=0) (by omega)
 obtain ⟨n1,a1,l1,c1,m1,d1,k1,e1,n2,a2,l2,c2,m2,d2,k2,e2,hc0,hp0⟩:=hs 0 r0 hr0
 obtain ⟨r1,hr1⟩:=z00 (l:=l) (j:=1) (by omega)
 obtain ⟨n3,a3,l3,c3,m3,d3,k3,e3,n4,a4,l4,c4,m4,d4,k4,e4,hc1,hp1⟩:=hs 1 r1 hr1
 obtain ⟨r2,hr2⟩:=z00 (l:=l) (j:=2) (by omega)
 obtain ⟨n5,a5,l5,c5,m5,d5,k5,e5,n6,a6,l6,c6,m6,d6,k6,e6,hc2,hp2⟩:=hs 2 r2 hr2
 obtain ⟨r3,hr3⟩:=z00 (l:=l) (j:=3) (by omega)
 obtain ⟨n7,a7,l7,c7,m7,d7,k7,e7,n8,a8,l8,c8,m8,d8,k8,e8,hc3,hp3⟩:=hs 3 r3 hr3
 have HV:Hid (z6n wDot l = dotQ r0 r1 r2 r3):=hid (by
  unfold z6n
  rw [if_neg (by decide),if_neg (by decide),if_neg (by decide)]
  simp only [List.getD_eq_getElem?_getD,hr0,hr1,hr2,hr3,Option.getD_some])
 have HU0:=hid (fun (Y:World) (hY:Ext w Y) => hp0.on hY)
 have HU1:=hid (fun (Y:World) (hY:Ext w Y) => hp1.on hY)
 have HU2:=hid (fun (Y:World) (hY:Ext w Y) => hp2.on hY)
 have HU3:=hid (fun (Y:World) (hY:Ext w Y) => hp3.on hY)
 have HSS:=hid (fun (Y:World) (hY:Ext w Y) => show ((Y.cell? ⟨g,0,none⟩ = some (.bool n1) ∧ Y.cell? ⟨g,1,none⟩ = some (.slice a1 l1 c1) ∧ Y.cell? ⟨g,2,none⟩ = some (.bool m1) ∧ Y.cell? ⟨g,3,none⟩ = some (.slice d1 k1 e1)) ∧ Y.cell? ⟨g,4,none⟩ = some (.bool n2) ∧ Y.cell? ⟨g,5,none⟩ = some (.slice a2 l2 c2) ∧ Y.cell? ⟨g,6,none⟩ = some (.bool m2) ∧ Y.cell? ⟨g,7,none⟩ = some (.slice d2 k2 e2)) ∧ ((Y.cell? ⟨g,8,none⟩ = some (.bool n3) ∧ Y.cell? ⟨g,9,none⟩ = some (.slice a3 l3 c3) ∧ Y.cell? ⟨g,10,none⟩ = some (.bool m3) ∧ Y.cell? ⟨g,11,none⟩ = some (.slice d3 k3 e3)) ∧ Y.cell? ⟨g,12,none⟩ = some (.bool n4) ∧ Y.cell? ⟨g,13,none⟩ = some (.slice a4 l4 c4) ∧ Y.cell? ⟨g,14,none⟩ = some (.bool m4) ∧ Y.cell? ⟨g,15,none⟩ = some (.slice d4 k4 e4)) ∧ ((Y.cell? ⟨g,16,none⟩ = some (.bool n5) ∧ Y.cell? ⟨g,17,none⟩ = some (.slice a5 l5 c5) ∧ Y.cell? ⟨g,18,none⟩ = some (.bool m5) ∧ Y.cell? ⟨g,19,none⟩ = some (.slice d5 k5 e5)) ∧ Y.cell? ⟨g,20,none⟩ = some (.bool n6) ∧ Y.cell? ⟨g,21,none⟩ = some (.slice a6 l6 c6) ∧ Y.cell? ⟨g,22,none⟩ = some (.bool m6) ∧ Y.cell? ⟨g,23,none⟩ = some (.slice d6 k6 e6)) ∧ ((Y.cell? ⟨g,24,none⟩ = some (.bool n7) ∧ Y.cell? ⟨g,25,none⟩ = some (.slice a7 l7 c7) ∧ Y.cell? ⟨g,26,none⟩ = some (.bool m7) ∧ Y.cell? ⟨g,27,none⟩ = some (.slice d7 k7 e7)) ∧ Y.cell? ⟨g,28,none⟩ = some (.bool n8) ∧ Y.cell? ⟨g,29,none⟩ = some (.slice a8 l8 c8) ∧ Y.cell? ⟨g,30,none⟩ = some (.bool m8) ∧ Y.cell? ⟨g,31,none⟩ = some (.slice d8 k8 e8)) from by
  obtain ⟨⟨s00,s01,s02,s03⟩,s04,s05,s06,s07⟩:=hc0
  obtain ⟨⟨s10,s11,s12,s13⟩,s14,s15,s16,s17⟩:=hc1
  obtain ⟨⟨s20,s21,s22,s23⟩,s24,s25,s26,s27⟩:=hc2
  obtain ⟨⟨s30,s31,s32,s33⟩,s34,s35,s36,s37⟩:=hc3
  exact ⟨⟨⟨hY.cell s00,hY.cell s01,hY.cell s02,hY.cell s03⟩,hY.cell s04,hY.cell s05,hY.cell s06,hY.cell s07⟩,⟨⟨hY.cell s10,hY.cell s11,hY.cell s12,hY.cell s13⟩,hY.cell s14,hY.cell s15,hY.cell s16,hY.cell s17⟩,⟨⟨hY.cell s20,hY.cell s21,hY.cell s22,hY.cell s23⟩,hY.cell s24,hY.cell s25,hY.cell s26,hY.cell s27⟩,⟨⟨hY.cell s30,hY.cell s31,hY.cell s32,hY.cell s33⟩,hY.cell s34,hY.cell s35,hY.cell s36,hY.cell s37⟩⟩)
 obtain ⟨w0,hw0⟩:∃ Y,Y = w.alloc (.cells #[.bool false,.slice none 0 0,.bool false,.slice none 0 0] 58):=⟨_,rfl⟩
 have HX0:Hid (Ext w w0):=hid (by rw [hw0]; exact Ext.alloc (Ext.refl _) _)
 have HS0:Hid (w0.heap.size = w.heap.size + 1):=hid (by rw [hw0,size_alloc])
 have HBR:=hid (fun (Y:World) (hY:Ext w0 Y) => by
  rw [hw0] at hY
  exact box4_new (b:=w.heap.size) rfl hY)
 have HW0:=hid hw0
 have C1:=hid (fun (Y:World) (hY:Ext w Y) => zqo _ _ _ _ r0.1 r0.2 r1.1 r1.2 r2.1 r2.2 r3.1 r3.2 31 Y (HU0.out Y hY) (HU1.out Y hY) (HU2.out Y hY) (HU3.out Y hY) (by decide))
 have hcI:(4:Int) ≤ (cap:Int):=by omega
 clear hr0 hc0 hp0 hr1 hc1 hp1 hr2 hc2 hp2 hr3 hc3 hp3 hw0 hs
 have q1:=z2m (wd:=wDot) (by decide)
 have q2:=z5f (wd:=wDot) (by decide)
 have q3:=za8 (wd:=wDot) (by decide)
 have q4:=zts (wd:=wDot) rfl
 go_enter Tryz.func16,Tryz.ntmps16
 go_upto_region 20 with fail
 rw [← HW0.out]
 have HX00:=hid (show Ext w0 w0.drew from (Ext.refl w0).drew)
 go_cut [5] (fun u5 wx => ∃ bn vn bd vd,u5 = .int .i64 0 ∧ Hid (z39 wx w.heap.size (.bool bn) vn (.bool bd) vd ∧ QR (New w wx) wx (.agg #[.bool bn,vn,.bool bd,vd]) (dotQ r0 r1 r2 r3) 253 ∧ Ext w wx))
 case first =>
  go_region_held3 (fun Y => ((Y.cell? ⟨g,0,none⟩ = some (.bool n1) ∧ Y.cell? ⟨g,1,none⟩ = some (.slice a1 l1 c1) ∧ Y.cell? ⟨g,2,none⟩ = some (.bool m1) ∧ Y.cell? ⟨g,3,none⟩ = some (.slice d1 k1 e1)) ∧ Y.cell? ⟨g,4,none⟩ = some (.bool n2) ∧ Y.cell? ⟨g,5,none⟩ = some (.slice a2 l2 c2) ∧ Y.cell? ⟨g,6,none⟩ = some (.bool m2) ∧ Y.cell? ⟨g,7,none⟩ = some (.slice d2 k2 e2)) ∧ ((Y.cell? ⟨g,8,none⟩ = some (.bool n3) ∧ Y.cell? ⟨g,9,none⟩ = some (.slice a3 l3 c3) ∧ Y.cell? ⟨g,10,none⟩ = some (.bool m3) ∧ Y.cell? ⟨g,11,none⟩ = some (.slice d3 k3 e3)) ∧ Y.cell? ⟨g,12,none⟩ = some (.bool n4) ∧ Y.cell? ⟨g,13,none⟩ = some (.slice a4 l4 c4) ∧ Y.cell? ⟨g,14,none⟩ = some (.bool m4) ∧ Y.cell? ⟨g,15,none⟩ = some (.slice d4 k4 e4)) ∧ ((Y.cell? ⟨g,16,none⟩ = some (.bool n5) ∧ Y.cell? ⟨g,17,none⟩ = some (.slice a5 l5 c5) ∧ Y.cell? ⟨g,18,none⟩ = some (.bool m5) ∧ Y.cell? ⟨g,19,none⟩ = some (.slice d5 k5 e5)) ∧ Y.cell? ⟨g,20,none⟩ = some (.bool n6) ∧ Y.cell? ⟨g,21,none⟩ = some (.slice a6 l6 c6) ∧ Y.cell? ⟨g,22,none⟩ = some (.bool m6) ∧ Y.cell? ⟨g,23,none⟩ = some (.slice d6 k6 e6)) ∧ ((Y.cell? ⟨g,24,none⟩ = some (.bool n7) ∧ Y.cell? ⟨g,25,none⟩ = some (.slice a7 l7 c7) ∧ Y.cell? ⟨g,26,none⟩ = some (.bool m7) ∧ Y.cell? ⟨g,27,none⟩ = some (.slice d7 k7 e7)) ∧ Y.cell? ⟨g,28,none⟩ = some (.bool n8) ∧ Y.cell? ⟨g,29,none⟩ = some (.slice a8 l8 c8) ∧ Y.cell? ⟨g,30,none⟩ = some (.bool m8) ∧ Y.cell? ⟨g,31,none⟩ = some (.slice d8 k8 e8))) (first | exact HSS.out _ (HX0.out.trans HX00.out) | exact HSS.out _ (HX0.out.trans HX01.out) | exact HSS.out _ (z1k (HX0.out.trans HX01.out) (Nat.le_refl _) _ _ _ _))
   (first
    | (go_at_call 46; (with_reducible refine (C1.out _ (HX0.out.trans HX00.out)).mono ?_); rintro e w1 ⟨v1,rfl,hq1,hx1⟩; have HX01:=hid (HX00.out.trans hx1); have HQZ:=hid (hq1.to (S':=New w0 w1) (Kept.refl _ _) (fun k h => ⟨Nat.le_trans HX00.out.size h.1,h.2⟩)); obtain ⟨x1_,x2_,x3_,x4_,x5_,x6_,x7_,x8_,rfl⟩:=hq1.formB; obtain ⟨⟨z0,z1,z2,z3⟩,i0,i1,i2,i3⟩:=HBR.out _ HX01.out; clear hq1 hx1)
    | fail)
  all_goals
   go_wp2_with fail
   go_meet
   have hr:=z5x (w:=w) (w0:=w0) (b:=w.heap.size) (Nat.le_refl _) HX0.out (by rw [HS0.out]; omega) HX01.out ⟨z0,z1,z2,z3⟩ HQZ.out
   exact ⟨_,_,_,_,rfl,hid hr⟩
 case rest =>
  obtain ⟨bn,vn,bd,vd,rfl,HQ⟩:=hcut
  obtain ⟨z0,z1,z2,z3⟩:=HQ.out.1
  go_wp2
  all_goals
   refine bodyPost_ret (v:=.tuple #[.agg #[.bool bn,vn,.bool bd,vd],.int .i64 0]) (by simp [results,Tryz.results16,go_sem,z0,z1,z2,z3]) rfl ?_
   exact ⟨_,rfl,by rw [HV.out]; exact HQ.out.2.1,HQ.out.2.2⟩
end
section
open Go.RowKit
theorem zh6 {W:World} {u v:Value} {p q:PZ} (hp:RV W u p) (hq:RV W v q) (fp:Fit 3 2 p) (fq:Fit 3 2 q) (gp:LinM p) (gq:LinM q) :
  Calls Tryz.prog 18 #[u,v] W fun e w' => ∃ v',e = .returned v' ∧ RV w' v' (mulP p q) ∧ Ext W w' :=
 (zd3 (S:=Old W) u v p q W (fun _ h => h) hp hq fp.can.may fq.can.may (z5e fp (by decide) (by decide)) (z5e fq (by decide) (by decide)) (zh1 fp fq (by decide) (by decide))).mono (by
  rintro e w' ⟨v',rfl,h,hx⟩
  rw [zfp fp.can fq.can gp gq] at h
  exact ⟨v',rfl,h.to (Kept.refl _ _) (z7m hx),hx⟩)
theorem rz_x (W:World) {x:Int} (hx:1 ≤ x ∧ x ≤ 200):Calls Tryz.prog 30 #[.int .i64 x] W fun e w' => ∃ v',e = .returned v' ∧ RV w' v' (varP x) ∧ Ext W w' :=
 (zrg x W (by unfold z40; omega)).mono (by
  rintro e w' ⟨v',rfl,h,hx⟩
  exact ⟨v',rfl,h.to (Kept.refl _ _) New.lt,hx⟩)
theorem box2 {W Y:World} {a b c d:Value} {T:TypeId} (h:Ext (((W.alloc (.cells #[a,b] T)).alloc (.cells #[c,d] T)).drew) Y) :
  Y.cell? ⟨W.heap.size,0,none⟩ = some a ∧ Y.cell? ⟨W.heap.size,1,none⟩ = some b ∧ Y.cell? ⟨W.heap.size + 1,0,none⟩ = some c ∧ Y.cell? ⟨W.heap.size + 1,1,none⟩ = some d:=by
 have h2:Ext ((W.alloc (.cells #[a,b] T)).alloc (.cells #[c,d] T)) Y:=(Ext.drew (Ext.refl _)).trans h
 exact ⟨h2.cell (cell_old _ (z02 _ _ _ rfl rfl)),h2.cell (cell_old _ (z02 _ _ _ rfl rfl)),h2.cell (z02 _ _ _ (by rw [size_alloc]) rfl),h2.cell (z02 _ _ _ (by rw [size_alloc]) rfl)⟩
theorem zpo (W:World) {A B:Int × Int} (hA:Ok2 A) (hB:Ok2 B):Calls Tryz.prog 85 #[.agg #[.int .i64 A.1,.int .i64 A.2],.agg #[.int .i64 B.1,.int .i64 B.2]] W fun e w' => ∃ v',e = .returned v' ∧ RV w' v' (linP A.1 B.1) ∧ Ext W w':=by
 obtain ⟨w0,hw0⟩:∃ Y,Y = ((W.alloc (.cells #[.int .i64 A.1,.int .i64 A.2] 87)).alloc (.cells #[.int .i64 B.1,.int .i64 B.2] 87)).drew:=⟨_,rfl⟩
 have HX0:Hid (Ext W w0):=hid (by rw [hw0]; exact ((Ext.alloc (Ext.refl _) _).alloc _).drew)
 have HC:Hid (∀ Y,Ext w0 Y → Y.cell? ⟨W.heap.size + 1,0,none⟩ = some (.int .i64 B.1) ∧ Y.cell? ⟨W.heap.size,0,none⟩ = some (.int .i64 A.1)):=hid (fun Y h => by
  rw [hw0] at h
  have k:=box2 h
  exact ⟨k.2.2.1,k.1⟩)
 have C1:=hid (rz_x w0 hB.1)
 have C2:=hid (fun Y => rz_x Y hA.1)
 have C3:=hid (fun (Y:World) (u v:Value) (hu:RV Y u (varP B.1)) (hv:RV Y v (varP A.1)) => zh2 hu hv (z29 hB.1) (z29 hA.1) (by decide) (by decide) (by decide))
 have S0:=HC.out w0 (Ext.refl _)
 rw [hw0] at C1 S0
 have HW0:=hid hw0
 unfold linP subP
 obtain ⟨x1,x2⟩:=A
 obtain ⟨y1,y2⟩:=B
 simp only at C1 C2 C3 HC S0 HW0 ⊢
 clear hA hB hw0
 go_enter Tryz.func85,Tryz.ntmps85
 go_wp2
 go_region_held3 (fun Y => Y.cell? ⟨W.heap.size + 1,0,none⟩ = some (.int .i64 y1) ∧ Y.cell? ⟨W.heap.size,0,none⟩ = some (.int .i64 x1)) (first | exact S0 | exact S1 | exact S2 | exact S3)
  (first
   | (go_at_call 30; (with_reducible refine C1.out.mono ?_); rintro e w1 ⟨v1,rfl,hp1,hx1⟩; rw [← HW0.out] at hx1; have S1:=HC.out _ hx1; have HX1:=hid hx1; have HP1:=hid hp1; obtain ⟨a1,c1,rfl⟩:=hp1.form; clear hx1 hp1)
   | (go_at_call 30; (with_reducible refine (C2.out w1).mono ?_); rintro e w2 ⟨v2,rfl,hp2,hx2⟩; have HX2:=hid (HX1.out.trans hx2); have S2:=HC.out _ HX2.out; have HP1:=hid (RTs.on HP1.out hx2); have HP2:=hid hp2; obtain ⟨a2,c2,rfl⟩:=hp2.form; clear hx2 hp2)
   | (go_at_call 29; (with_reducible refine (C3.out w2 _ _ HP1.out HP2.out).mono ?_); rintro e w3 ⟨v3,rfl,hp3,hx3⟩; have HX3:=hid (HX2.out.trans hx3); have S3:=HC.out _ HX3.out; have HP3:=hid hp3; have HX4:=hid (HX0.out.trans HX3.out); obtain ⟨a3,c3,rfl⟩:=hp3.form; clear hx3 hp3)
   | fail)
 all_goals
  go_wp2_with fail
  go_ret
  exact ⟨_,rfl,HP3.out,HX4.out⟩
theorem zpp (W:World) {A B:Int × Int} (hA:Ok2 A) (hB:Ok2 B):Calls Tryz.prog 86 #[.agg #[.int .i64 A.1,.int .i64 A.2],.agg #[.int .i64 B.1,.int .i64 B.2]] W fun e w' => ∃ v',e = .returned v' ∧ RV w' v' (linP A.2 B.2) ∧ Ext W w':=by
 obtain ⟨w0,hw0⟩:∃ Y,Y = ((W.alloc (.cells #[.int .i64 A.1,.int .i64 A.2] 87)).alloc (.cells #[.int .i64 B.1,.int .i64 B.2] 87)).drew:=⟨_,rfl⟩
 have HX0:Hid (Ext W w0):=hid (by rw [hw0]; exact ((Ext.alloc (Ext.refl _) _).alloc _).drew)
 have HC:Hid (∀ Y,Ext w0 Y → Y.cell? ⟨W.heap.size + 1,1,none⟩ = some (.int .i64 B.2) ∧ Y.cell? ⟨W.heap.size,1,none⟩ = some (.int .i64 A.2)):=hid (fun Y h => by
  rw [hw0] at h
  have k:=box2 h
  exact ⟨k.2.2.2,k.2.1⟩)
 have C1:=hid (rz_x w0 hB.2)
 have C2:=hid (fun Y => rz_x Y hA.2)
 have C3:=hid (fun (Y:World) (u v:Value) (hu:RV Y u (varP B.2)) (hv:RV Y v (varP A.2)) => zh2 hu hv (z29 hB.2) (z29 hA.2) (by decide) (by decide) (by decide))
 have S0:=HC.out w0 (Ext.refl _)
 rw [hw0] at C1 S0
 have HW0:=hid hw0
 unfold linP subP
 obtain ⟨x1,x2⟩:=A
 obtain ⟨y1,y2⟩:=B
 simp only at C1 C2 C3 HC S0 HW0 ⊢
 clear hA hB hw0
 go_enter Tryz.func86,Tryz.ntmps86
 go_wp2
 go_region_held3 (fun Y => Y.cell? ⟨W.heap.size + 1,1,none⟩ = some (.int .i64 y2) ∧ Y.cell? ⟨W.heap.size,1,none⟩ = some (.int .i64 x2)) (first | exact S0 | exact S1 | exact S2 | exact S3)
  (first
   | (go_at_call 30; (with_reducible refine C1.out.mono ?_); rintro e w1 ⟨v1,rfl,hp1,hx1⟩; rw [← HW0.out] at hx1; have S1:=HC.out _ hx1; have HX1:=hid hx1; have HP1:=hid hp1; obtain ⟨a1,c1,rfl⟩:=hp1.form; clear hx1 hp1)
   | (go_at_call 30; (with_reducible refine (C2.out w1).mono ?_); rintro e w2 ⟨v2,rfl,hp2,hx2⟩; have HX2:=hid (HX1.out.trans hx2); have S2:=HC.out _ HX2.out; have HP1:=hid (RTs.on HP1.out hx2); have HP2:=hid hp2; obtain ⟨a2,c2,rfl⟩:=hp2.form; clear hx2 hp2)
   | (go_at_call 29; (with_reducible refine (C3.out w2 _ _ HP1.out HP2.out).mono ?_); rintro e w3 ⟨v3,rfl,hp3,hx3⟩; have HX3:=hid (HX2.out.trans hx3); have S3:=HC.out _ HX3.out; have HP3:=hid hp3; have HX4:=hid (HX0.out.trans HX3.out); obtain ⟨a3,c3,rfl⟩:=hp3.form; clear hx3 hp3)
   | fail)
 all_goals
  go_wp2_with fail
  go_ret
  exact ⟨_,rfl,HP3.out,HX4.out⟩
theorem ze0 (W:World) {A B C D:Int × Int} (hA:Ok2 A) (hB:Ok2 B) (hC:Ok2 C) (hD:Ok2 D):Calls Tryz.prog 50 #[.agg #[.int .i64 A.1,.int .i64 A.2],.agg #[.int .i64 B.1,.int .i64 B.2],.agg #[.int .i64 C.1,.int .i64 C.2],.agg #[.int .i64 D.1,.int .i64 D.2]] W fun e w' => ∃ v',e = .returned v' ∧ RV w' v' (z53 A B C D) ∧ Ext W w':=by
 have l1:=z0x hA.1 hB.1
 have l2:=z0x hC.2 hD.2
 have l3:=z0x hA.2 hB.2
 have l4:=z0x hC.1 hD.1
 have g1:=z0y hA.1 hB.1
 have g2:=z0y hC.2 hD.2
 have g3:=z0y hA.2 hB.2
 have g4:=z0y hC.1 hD.1
 obtain ⟨w0,hw0⟩:∃ Y,Y = ((((W.alloc (.cells #[.int .i64 A.1,.int .i64 A.2] 87)).alloc (.cells #[.int .i64 B.1,.int .i64 B.2] 87)).alloc (.cells #[.int .i64 C.1,.int .i64 C.2] 87)).alloc (.cells #[.int .i64 D.1,.int .i64 D.2] 87)).drew:=⟨_,rfl⟩
 have HX0:Hid (Ext W w0):=hid (by rw [hw0]; exact ((((Ext.alloc (Ext.refl _) _).alloc _).alloc _).alloc _).drew)
 have HC:Hid (∀ Y,Ext w0 Y → Y.cell? ⟨W.heap.size,0,none⟩ = some (.int .i64 A.1) ∧ Y.cell? ⟨W.heap.size,1,none⟩ = some (.int .i64 A.2) ∧ Y.cell? ⟨W.heap.size + 1,0,none⟩ = some (.int .i64 B.1) ∧ Y.cell? ⟨W.heap.size + 1,1,none⟩ = some (.int .i64 B.2) ∧ Y.cell? ⟨W.heap.size + 1 + 1,0,none⟩ = some (.int .i64 C.1) ∧ Y.cell? ⟨W.heap.size + 1 + 1,1,none⟩ = some (.int .i64 C.2) ∧ Y.cell? ⟨W.heap.size + 1 + 1 + 1,0,none⟩ = some (.int .i64 D.1) ∧ Y.cell? ⟨W.heap.size + 1 + 1 + 1,1,none⟩ = some (.int .i64 D.2)):=hid (fun Y h => by
  rw [hw0] at h
  have h2:=(Ext.drew (Ext.refl _)).trans h
  exact ⟨h2.cell (cell_old _ (cell_old _ (cell_old _ (z02 _ _ _ rfl rfl)))),h2.cell (cell_old _ (cell_old _ (cell_old _ (z02 _ _ _ rfl rfl)))),h2.cell (cell_old _ (cell_old _ (z02 _ _ _ (by simp only [size_alloc]) rfl))),h2.cell (cell_old _ (cell_old _ (z02 _ _ _ (by simp only [size_alloc]) rfl))),h2.cell (cell_old _ (z02 _ _ _ (by simp only [size_alloc]) rfl)),h2.cell (cell_old _ (z02 _ _ _ (by simp only [size_alloc]) rfl)),h2.cell (z02 _ _ _ (by simp only [size_alloc]) rfl),h2.cell (z02 _ _ _ (by simp only [size_alloc]) rfl)⟩)
 have C1:=hid (zpo w0 hA hB)
 have C2:=hid (fun Y => zpp Y hC hD)
 have C3:=hid (fun (Y:World) (u v:Value) (hu:RV Y u (linP A.1 B.1)) (hv:RV Y v (linP C.2 D.2)) => zh6 hu hv l1 l2 g1 g2)
 have C4:=hid (fun Y => zpp Y hA hB)
 have C5:=hid (fun Y => zpo Y hC hD)
 have C6:=hid (fun (Y:World) (u v:Value) (hu:RV Y u (linP A.2 B.2)) (hv:RV Y v (linP C.1 D.1)) => zh6 hu hv l3 l4 g3 g4)
 have C7:=hid (fun (Y:World) (u v:Value) (hu:RV Y u (mulP (linP A.1 B.1) (linP C.2 D.2))) (hv:RV Y v (mulP (linP A.2 B.2) (linP C.1 D.1))) => zh2 hu hv (z2p l1 l2 g1 g2) (z2p l3 l4 g3 g4) (by decide) (by decide) (by decide))
 have S0:=HC.out w0 (Ext.refl _)
 rw [hw0] at C1 S0
 have HW0:=hid hw0
 unfold z53 subP
 obtain ⟨a1,a2⟩:=A
 obtain ⟨b1,b2⟩:=B
 obtain ⟨c1,c2⟩:=C
 obtain ⟨d1,d2⟩:=D
 simp only at C1 C2 C3 C4 C5 C6 C7 HC S0 HW0 ⊢
 clear hA hB hC hD hw0 l1 l2 l3 l4 g1 g2 g3 g4
 go_enter Tryz.func50,Tryz.ntmps50
 go_wp2
 go_region_held3 (fun Y => Y.cell? ⟨W.heap.size,0,none⟩ = some (.int .i64 a1) ∧ Y.cell? ⟨W.heap.size,1,none⟩ = some (.int .i64 a2) ∧ Y.cell? ⟨W.heap.size + 1,0,none⟩ = some (.int .i64 b1) ∧ Y.cell? ⟨W.heap.size + 1,1,none⟩ = some (.int .i64 b2) ∧ Y.cell? ⟨W.heap.size + 1 + 1,0,none⟩ = some (.int .i64 c1) ∧ Y.cell? ⟨W.heap.size + 1 + 1,1,none⟩ = some (.int .i64 c2) ∧ Y.cell? ⟨W.heap.size + 1 + 1 + 1,0,none⟩ = some (.int .i64 d1) ∧ Y.cell? ⟨W.heap.size + 1 + 1 + 1,1,none⟩ = some (.int .i64 d2)) (first | exact S0 | exact S1 | exact S2 | exact S3 | exact S4 | exact S5 | exact S6 | exact S7)
  (first
   | (go_at_call 85; (with_reducible refine C1.out.mono ?_); rintro e w1 ⟨v1,rfl,hp1,hx1⟩; rw [← HW0.out] at hx1; have S1:=HC.out _ hx1; have HX1:=hid hx1; have HP1:=hid hp1; obtain ⟨k1,m1,rfl⟩:=hp1.form; clear hx1 hp1)
   | (go_at_call 86; (with_reducible refine (C2.out w1).mono ?_); rintro e w2 ⟨v2,rfl,hp2,hx2⟩; have HX2:=hid (HX1.out.trans hx2); have S2:=HC.out _ HX2.out; have HP1:=hid (RTs.on HP1.out hx2); have HP2:=hid hp2; obtain ⟨k2,m2,rfl⟩:=hp2.form; clear hx2 hp2)
   | (go_at_call 18; (with_reducible refine (C3.out w2 _ _ HP1.out HP2.out).mono ?_); rintro e w3 ⟨v3,rfl,hp3,hx3⟩; have HX3:=hid (HX2.out.trans hx3); have S3:=HC.out _ HX3.out; have HP3:=hid hp3; obtain ⟨k3,m3,rfl⟩:=hp3.form; clear hx3 hp3)
   | (go_at_call 86; (with_reducible refine (C4.out w3).mono ?_); rintro e w4 ⟨v4,rfl,hp4,hx4⟩; have HX4:=hid (HX3.out.trans hx4); have S4:=HC.out _ HX4.out; have HP3:=hid (RTs.on HP3.out hx4); have HP4:=hid hp4; obtain ⟨k4,m4,rfl⟩:=hp4.form; clear hx4 hp4)
   | (go_at_call 85; (with_reducible refine (C5.out w4).mono ?_); rintro e w5 ⟨v5,rfl,hp5,hx5⟩; have HX5:=hid (HX4.out.trans hx5); have S5:=HC.out _ HX5.out; have HP3:=hid (RTs.on HP3.out hx5); have HP4:=hid (RTs.on HP4.out hx5); have HP5:=hid hp5; obtain ⟨k5,m5,rfl⟩:=hp5.form; clear hx5 hp5)
   | (go_at_call 18; (with_reducible refine (C6.out w5 _ _ HP4.out HP5.out).mono ?_); rintro e w6 ⟨v6,rfl,hp6,hx6⟩; have HX6:=hid (HX5.out.trans hx6); have S6:=HC.out _ HX6.out; have HP3:=hid (RTs.on HP3.out hx6); have HP6:=hid hp6; obtain ⟨k6,m6,rfl⟩:=hp6.form; clear hx6 hp6)
   | (go_at_call 29; (with_reducible refine (C7.out w6 _ _ HP3.out HP6.out).mono ?_); rintro e w7 ⟨v7,rfl,hp7,hx7⟩; have HX7:=hid (HX6.out.trans hx7); have S7:=HC.out _ HX7.out; have HX8:=hid (HX0.out.trans HX7.out); have HP7:=hid hp7; obtain ⟨k7,m7,rfl⟩:=hp7.form; clear hx7 hp7)
   | fail)
 all_goals
  go_wp2_with fail
  go_ret
  exact ⟨_,rfl,HP7.out,HX8.out⟩
theorem zmr (W:World) {A B C D:Int × Int} (hA:Ok2 A) (hB:Ok2 B) (hC:Ok2 C) (hD:Ok2 D):Calls Tryz.prog 49 #[.agg #[.int .i64 A.1,.int .i64 A.2],.agg #[.int .i64 B.1,.int .i64 B.2],.agg #[.int .i64 C.1,.int .i64 C.2],.agg #[.int .i64 D.1,.int .i64 D.2]] W fun e w' => ∃ v',e = .returned v' ∧ RV w' v' (dotP A B C D) ∧ Ext W w':=by
 have l1:=z0x hA.1 hB.1
 have l2:=z0x hC.1 hD.1
 have l3:=z0x hA.2 hB.2
 have l4:=z0x hC.2 hD.2
 have g1:=z0y hA.1 hB.1
 have g2:=z0y hC.1 hD.1
 have g3:=z0y hA.2 hB.2
 have g4:=z0y hC.2 hD.2
 obtain ⟨w0,hw0⟩:∃ Y,Y = ((((W.alloc (.cells #[.int .i64 A.1,.int .i64 A.2] 87)).alloc (.cells #[.int .i64 B.1,.int .i64 B.2] 87)).alloc (.cells #[.int .i64 C.1,.int .i64 C.2] 87)).alloc (.cells #[.int .i64 D.1,.int .i64 D.2] 87)).drew:=⟨_,rfl⟩
 have HX0:Hid (Ext W w0):=hid (by rw [hw0]; exact ((((Ext.alloc (Ext.refl _) _).alloc _).alloc _).alloc _).drew)
 have HC:Hid (∀ Y,Ext w0 Y → Y.cell? ⟨W.heap.size,0,none⟩ = some (.int .i64 A.1) ∧ Y.cell? ⟨W.heap.size,1,none⟩ = some (.int .i64 A.2) ∧ Y.cell? ⟨W.heap.size + 1,0,none⟩ = some (.int .i64 B.1) ∧ Y.cell? ⟨W.heap.size + 1,1,none⟩ = some (.int .i64 B.2) ∧ Y.cell? ⟨W.heap.size + 1 + 1,0,none⟩ = some (.int .i64 C.1) ∧ Y.cell? ⟨W.heap.size + 1 + 1,1,none⟩ = some (.int .i64 C.2) ∧ Y.cell? ⟨W.heap.size + 1 + 1 + 1,0,none⟩ = some (.int .i64 D.1) ∧ Y.cell? ⟨W.heap.size + 1 + 1 + 1,1,none⟩ = some (.int .i64 D.2)):=hid (fun Y h => by
  rw [hw0] at h
  have h2:=(Ext.drew (Ext.refl _)).trans h
  exact ⟨h2.cell (cell_old _ (cell_old _ (cell_old _ (z02 _ _ _ rfl rfl)))),h2.cell (cell_old _ (cell_old _ (cell_old _ (z02 _ _ _ rfl rfl)))),h2.cell (cell_old _ (cell_old _ (z02 _ _ _ (by simp only [size_alloc]) rfl))),h2.cell (cell_old _ (cell_old _ (z02 _ _ _ (by simp only [size_alloc]) rfl))),h2.cell (cell_old _ (z02 _ _ _ (by simp only [size_alloc]) rfl)),h2.cell (cell_old _ (z02 _ _ _ (by simp only [size_alloc]) rfl)),h2.cell (z02 _ _ _ (by simp only [size_alloc]) rfl),h2.cell (z02 _ _ _ (by simp only [size_alloc]) rfl)⟩)
 have C1:=hid (zpo w0 hA hB)
 have C2:=hid (fun Y => zpo Y hC hD)
 have C3:=hid (fun (Y:World) (u v:Value) (hu:RV Y u (linP A.1 B.1)) (hv:RV Y v (linP C.1 D.1)) => zh6 hu hv l1 l2 g1 g2)
 have C4:=hid (fun Y => zpp Y hA hB)
 have C5:=hid (fun Y => zpp Y hC hD)
 have C6:=hid (fun (Y:World) (u v:Value) (hu:RV Y u (linP A.2 B.2)) (hv:RV Y v (linP C.2 D.2)) => zh6 hu hv l3 l4 g3 g4)
 have C7:=hid (fun (Y:World) (u v:Value) (hu:RV Y u (mulP (linP A.1 B.1) (linP C.1 D.1))) (hv:RV Y v (mulP (linP A.2 B.2) (linP C.2 D.2))) => ztq hu hv (z2p l1 l2 g1 g2) (z2p l3 l4 g3 g4) (by decide) (by decide) (by decide))
 have S0:=HC.out w0 (Ext.refl _)
 rw [hw0] at C1 S0
 have HW0:=hid hw0
 unfold dotP zfo
 obtain ⟨a1,a2⟩:=A
 obtain ⟨b1,b2⟩:=B
 obtain ⟨c1,c2⟩:=C
 obtain ⟨d1,d2⟩:=D
 simp only at C1 C2 C3 C4 C5 C6 C7 HC S0 HW0 ⊢
 clear hA hB hC hD hw0 l1 l2 l3 l4 g1 g2 g3 g4
 go_enter Tryz.func49,Tryz.ntmps49
 go_wp2
 go_region_held3 (fun Y => Y.cell? ⟨W.heap.size,0,none⟩ = some (.int .i64 a1) ∧ Y.cell? ⟨W.heap.size,1,none⟩ = some (.int .i64 a2) ∧ Y.cell? ⟨W.heap.size + 1,0,none⟩ = some (.int .i64 b1) ∧ Y.cell? ⟨W.heap.size + 1,1,none⟩ = some (.int .i64 b2) ∧ Y.cell? ⟨W.heap.size + 1 + 1,0,none⟩ = some (.int .i64 c1) ∧ Y.cell? ⟨W.heap.size + 1 + 1,1,none⟩ = some (.int .i64 c2) ∧ Y.cell? ⟨W.heap.size + 1 + 1 + 1,0,none⟩ = some (.int .i64 d1) ∧ Y.cell? ⟨W.heap.size + 1 + 1 + 1,1,none⟩ = some (.int .i64 d2)) (first | exact S0 | exact S1 | exact S2 | exact S3 | exact S4 | exact S5 | exact S6 | exact S7)
  (first
   | (go_at_call 85; (with_reducible refine C1.out.mono ?_); rintro e w1 ⟨v1,rfl,hp1,hx1⟩; rw [← HW0.out] at hx1; have S1:=HC.out _ hx1; have HX1:=hid hx1; have HP1:=hid hp1; obtain ⟨k1,m1,rfl⟩:=hp1.form; clear hx1 hp1)
   | (go_at_call 85; (with_reducible refine (C2.out w1).mono ?_); rintro e w2 ⟨v2,rfl,hp2,hx2⟩; have HX2:=hid (HX1.out.trans hx2); have S2:=HC.out _ HX2.out; have HP1:=hid (RTs.on HP1.out hx2); have HP2:=hid hp2; obtain ⟨k2,m2,rfl⟩:=hp2.form; clear hx2 hp2)
   | (go_at_call 18; (with_reducible refine (C3.out w2 _ _ HP1.out HP2.out).mono ?_); rintro e w3 ⟨v3,rfl,hp3,hx3⟩; have HX3:=hid (HX2.out.trans hx3); have S3:=HC.out _ HX3.out; have HP3:=hid hp3; obtain ⟨k3,m3,rfl⟩:=hp3.form; clear hx3 hp3)
   | (go_at_call 86; (with_reducible refine (C4.out w3).mono ?_); rintro e w4 ⟨v4,rfl,hp4,hx4⟩; have HX4:=hid (HX3.out.trans hx4); have S4:=HC.out _ HX4.out; have HP3:=hid (RTs.on HP3.out hx4); have HP4:=hid hp4; obtain ⟨k4,m4,rfl⟩:=hp4.form; clear hx4 hp4)
   | (go_at_call 86; (with_reducible refine (C5.out w4).mono ?_); rintro e w5 ⟨v5,rfl,hp5,hx5⟩; have HX5:=hid (HX4.out.trans hx5); have S5:=HC.out _ HX5.out; have HP3:=hid (RTs.on HP3.out hx5); have HP4:=hid (RTs.on HP4.out hx5); have HP5:=hid hp5; obtain ⟨k5,m5,rfl⟩:=hp5.form; clear hx5 hp5)
   | (go_at_call 18; (with_reducible refine (C6.out w5 _ _ HP4.out HP5.out).mono ?_); rintro e w6 ⟨v6,rfl,hp6,hx6⟩; have HX6:=hid (HX5.out.trans hx6); have S6:=HC.out _ HX6.out; have HP3:=hid (RTs.on HP3.out hx6); have HP6:=hid hp6; obtain ⟨k6,m6,rfl⟩:=hp6.form; clear hx6 hp6)
   | (go_at_call 61; (with_reducible refine (C7.out w6 _ _ HP3.out HP6.out).mono ?_); rintro e w7 ⟨v7,rfl,hp7,hx7⟩; have HX7:=hid (HX6.out.trans hx7); have S7:=HC.out _ HX7.out; have HX8:=hid (HX0.out.trans HX7.out); have HP7:=hid hp7; obtain ⟨k7,m7,rfl⟩:=hp7.form; clear hx7 hp7)
   | fail)
 all_goals
  go_wp2_with fail
  go_ret
  exact ⟨_,rfl,HP7.out,HX8.out⟩
end
section
open Go.RowKit Go.Maps Go.WideMaps Go.WideShapes
def keyS (x:ByteArray):Lit:=.string x.data.toList
def d4:DataW Unit:=((((DataW.map []).put (keyS z0z) (.lit (.int .i64 2))).put (keyS z1a) (.lit (.int .i64 3))).put (keyS z1j) (.lit (.int .i64 4))).put (keyS wDot) (.lit (.int .i64 4))
theorem z3p {x y:ByteArray} (h:x ≠ y):keyS x ≠ keyS y:=fun e => h (by
 unfold keyS at e
 injection e with e
 exact ByteArray.ext (Array.toList_inj.mp e))
theorem z93 (x:ByteArray):WideAt.IsKeyLit (keyS x):=trivial
theorem zuf (wd:ByteArray) (zd:DataW Unit):d4.atKey (keyS wd) zd = match askW wd with | some n => .lit (.int .i64 (n:Int)) | none => zd:=by
 unfold d4 askW
 have i0:IsMap (DataW.map []:DataW Unit):=isMap_empty
 by_cases h1:wd = z0z
 ·rw [if_pos h1,atKey_put_other (z3p (by rw [h1]; decide)),atKey_put_other (z3p (by rw [h1]; decide)),atKey_put_other (z3p (by rw [h1]; decide)),h1,atKey_put_same i0 (z93 _)]; rfl
 ·by_cases h2:wd = z1a
  ·rw [if_neg h1,if_pos h2,atKey_put_other (z3p (by rw [h2]; decide)),atKey_put_other (z3p (by rw [h2]; decide)),h2,atKey_put_same (i0.put _ _) (z93 _)]; rfl
  ·by_cases h3:wd = z1j
   ·rw [if_neg h1,if_neg h2,if_pos h3,atKey_put_other (z3p (by rw [h3]; decide)),h3,atKey_put_same ((i0.put _ _).put _ _) (z93 _)]; rfl
   ·by_cases h4:wd = wDot
    ·rw [if_neg h1,if_neg h2,if_neg h3,if_pos h4,h4,atKey_put_same (((i0.put _ _).put _ _).put _ _) (z93 _)]; rfl
    ·rw [if_neg h1,if_neg h2,if_neg h3,if_neg h4,atKey_put_other (z3p h4),atKey_put_other (z3p h3),atKey_put_other (z3p h2),atKey_put_other (z3p h1)]; rfl
def askI (wd:ByteArray):Int:=match askW wd with | some n => (n:Int) | none => 0
theorem zsa (W:World) (b:Nat) (hb:b = W.heap.size):∃ m1 m2 m3 m4,
  (Instr.mapUpdate 74 (.map (some b)) (.string { data:=#[117,110,108,105,107,101] }) (.int .i64 2)).run Tryz.prog (W.alloc (.map #[] 0)) = .ok () m1 ∧
  (Instr.mapUpdate 74 (.map (some b)) (.string { data:=#[97,112,97,114,116] }) (.int .i64 3)).run Tryz.prog m1 = .ok () m2 ∧
  (Instr.mapUpdate 74 (.map (some b)) (.string { data:=#[99,114,111,115,115] }) (.int .i64 4)).run Tryz.prog m2 = .ok () m3 ∧
  (Instr.mapUpdate 74 (.map (some b)) (.string { data:=#[100,111,116] }) (.int .i64 4)).run Tryz.prog m3 = .ok () m4 ∧
  (∀ wd:ByteArray,wd.size ≤ maxLen → (Instr.lookup 74 (.map (some b)) (.string wd) true).run Tryz.prog m4 = .ok (.tuple #[.int .i64 (askI wd),.bool (askW wd).isSome]) m4) ∧ Ext W m4:=by
 subst hb
 have K:Keyed Tryz.prog 9:=string_keyed Tryz.underlying9
 have h0:=World.ownsMap_made (H:=Unit) W Tryz.prog 9 (plainElem Tryz.prog 3)
 have sz:∀ wd:ByteArray,wd.size ≤ maxLen → keyOf Tryz.prog 9 (.string wd) = some (keyS wd):=fun wd h => keyOf_string_mk Tryz.underlying9 h
 have e2:plainElem (H:=Unit) Tryz.prog 3 (.int .i64 2) = some (.lit (.int .i64 2),[]):=plainElem_int Tryz.underlying3 (by decide)
 have e3:plainElem (H:=Unit) Tryz.prog 3 (.int .i64 3) = some (.lit (.int .i64 3),[]):=plainElem_int Tryz.underlying3 (by decide)
 have e4:plainElem (H:=Unit) Tryz.prog 3 (.int .i64 4) = some (.lit (.int .i64 4),[]):=plainElem_int Tryz.underlying3 (by decide)
 obtain ⟨m1,r1,o1,g1⟩:=h0.update K Tryz.underlying74 (by decide) (sz z0z (by decide)) e2
 obtain ⟨m2,r2,o2,g2⟩:=o1.update K Tryz.underlying74 (by decide) (sz z1a (by decide)) e3
 obtain ⟨m3,r3,o3,g3⟩:=o2.update K Tryz.underlying74 (by decide) (sz z1j (by decide)) e4
 obtain ⟨m4,r4,o4,g4⟩:=o3.update K Tryz.underlying74 (by decide) (sz wDot (by decide)) e4
 have hz:(zeroValue 3).run Tryz.prog m4 = .ok (.int .i64 0) m4:=Tryz.zeroValue3 _
 refine ⟨m1,m2,m3,m4,r1,r2,r3,r4,fun wd hwd => ?_,?_⟩
 ·obtain ⟨es,clock,hb,F,-,hD⟩:=o4
  have hat:=zuf wd
  rw [show d4 = _ from hD] at hat
  unfold askI
  rcases Maps.fit_look true K Tryz.underlying74 hz hb F (sz wd hwd) with ⟨hrun,-,h⟩ | ⟨e0,y,-,-,hrun,hR,h,-⟩
  ·cases ha:askW wd with
   | none => exact hrun
   | some n =>
    have k:=(h .nil).symm.trans (hat .nil)
    rw [ha] at k
    cases k
  ·cases ha:askW wd with
   | none =>
    have k:=fun zd => (h zd).symm.trans (hat zd)
    simp only [ha] at k
    have k1:=(k .nil).symm.trans (k (.lit (.bool true)))
    cases k1
   | some n =>
    have k:=(h .nil).symm.trans (hat .nil)
    simp only [ha] at k
    obtain ⟨c,hc,hy,-⟩:=plainElem_int_inv Tryz.underlying3 hR
    rw [hy] at k
    have:c = (n:Int):=by simpa using k
    rw [hrun,hc,this]
    rfl
 ·have k:Ext W (W.alloc (.map #[] 0)):=Ext.alloc (Ext.refl W) _
  have q:∀ {A B:World},Ext W A → A.grownBy B (some W.heap.size) → Ext W B:=fun h g => h.grown g h.size (fun k e => by cases e; exact Nat.le_refl _)
  exact q (q (q (q k g1) g2) g3) g4
end
section
open Go.RowKit
structure Lay where
 pts:List ByteArray
 ats:List (Int × Int)
 par:Int
 vrs:Int
def LayV (S:Nat → Prop) (W:World) (v:Value) (x:Lay):Prop:=∃ vp va,v = .agg #[vp,va,.int .i64 x.par,.int .i64 x.vrs] ∧ Strs S W vp x.pts ∧ Pows S W va x.ats
theorem LayV.on {W Y:World} {v:Value} {x:Lay} (h:LayV (Old W) W v x) (hx:Ext W Y):LayV (Old Y) Y v x:=by
 obtain ⟨vp,va,e,h1,h2⟩:=h
 exact ⟨vp,va,e,h1.to (Kept.ext hx (fun _ h => h)) (z2b hx),h2.on hx⟩
def z2d (x:Lay) (nm:ByteArray):Option (Int × Int):=(posS x.pts nm).bind fun i => x.ats[i]?
def z0n (x:Lay):List ByteArray → Option (List (Int × Int))
 | [] => some []
 | n :: r => match z2d x n,z0n x r with
  | some c,some l => some (c :: l)
  | _,_ => none
theorem z2g (x:Lay) (n:ByteArray):∀ l:List ByteArray,z0n x (l ++ [n]) = match z0n x l,z2d x n with
  | some l,some c => some (l ++ [c])
  | _,_ => none
 | [] => by
  show (match z2d x n,some [] with | some c,some l => some (c :: l) | _,_ => none) = _
  cases z2d x n <;> rfl
 | m :: r => by
  have ih:=z2g x n r
  show (match z2d x m,z0n x (r ++ [n]) with | some c,some l => some (c :: l) | _,_ => none) = match (match z2d x m,z0n x r with | some c,some l => some (c :: l) | _,_ => none),z2d x n with | some l,some c => some (l ++ [c]) | _,_ => none
  rw [ih]
  cases z2d x m <;> cases z0n x r <;> cases z2d x n <;> rfl
theorem z70 {x:Lay}:∀ {l:List ByteArray} {cs:List (Int × Int)},z0n x l = some cs → cs.length = l.length
 | [], cs, h => by obtain rfl : [] = cs := by simpa [z0n] using h
                   rfl
 | m :: r,cs,h => by
  unfold z0n at h
  cases hm:z2d x m with
  | none => rw [hm] at h; cases h
  | some c =>
   cases hr:z0n x r with
   | none => rw [hm,hr] at h; cases h
   | some l =>
    rw [hm,hr] at h
    obtain rfl:c :: l = cs:=by simpa using h
    simp [z70 hr]
theorem z3j {x:Lay}:∀ {l:List ByteArray} {cs:List (Int × Int)},z0n x l = some cs → ∀ c ∈ cs,c ∈ x.ats
 | [], cs, h => by obtain rfl : [] = cs := by simpa [z0n] using h
                   simp
 | m :: r,cs,h => by
  unfold z0n at h
  cases hm:z2d x m with
  | none => rw [hm] at h; cases h
  | some c =>
   cases hr:z0n x r with
   | none => rw [hm,hr] at h; cases h
   | some l =>
    rw [hm,hr] at h
    obtain rfl:c :: l = cs:=by simpa using h
    intro d hd
    rcases List.mem_cons.1 hd with rfl | hd
    ·unfold z2d at hm
     obtain ⟨i,-,hi⟩:=Option.bind_eq_some_iff.1 hm
     exact List.mem_of_getElem? hi
    ·exact z3j hr d hd
def z2h (x:Lay) (wd:ByteArray) (names:List ByteArray):Int × PZ:=match askW wd,z0n x names with
 | some n,some cs => if names.length = n then (0,z30 wd cs) else (13,[])
 | _,_ => (5,[])
theorem Tryz.infoCoord:(Tryz.prog.info? 87).map (fun i => (i.zero,i.size,i.bytes)) = some (some (.agg #[.int .i64 0,.int .i64 0]),2,16):=by kernel_rfl
theorem z94 (W:World) (v0 v1 v2 v3:Value) (T:TypeId) {Y:World} (h:Ext (W.alloc (.cells #[v0,v1,v2,v3] T)) Y):Y.cell? ⟨W.heap.size,0,none⟩ = some v0 ∧ Y.cell? ⟨W.heap.size,1,none⟩ = some v1 :=
 ⟨h.cell (z02 W _ _ rfl rfl),h.cell (z02 W _ _ rfl rfl)⟩
theorem z3q {W:World} {v vn:Value} {x:Lay} {wd:ByteArray} {names:List ByteArray} (hx:LayV (Old W) W v x) (hok:∀ c ∈ x.ats,Ok2 c) (hn:Strs (Old W) W vn names) (hw:wd.size ≤ 1000) (hnl:names.length ≤ 1000) :
  Calls Tryz.prog 53 #[v,.string wd,vn] W fun e w' => ∃ v',e = .returned (.tuple #[v',.int .i64 (z2h x wd names).1]) ∧ z0h (New W w') w' v' (ofP (z2h x wd names).2) ∧ Ext W w':=by
 have hnot:∀ (x:Bool) (w:World),(Op.unary .not (.bool x)).run Tryz.prog w = .ok (.bool (!x)) w:=fun _ _ => rfl
 obtain ⟨vp,va,rfl,hp,ha⟩:=hx
 have HP:=hid hp
 have HA:=hid ha
 have HN:=hid hn
 have HOK:=hid hok
 have hlp:=hp.len_le
 have hla:=ha.len_le
 obtain ⟨ap,cp,rfl⟩:=hp.form
 obtain ⟨aa,ca,rfl⟩:=ha.form
 obtain ⟨an,cn,rfl⟩:=hn.form
 obtain ⟨n,hnn⟩:∃ n,n = names.length:=⟨_,rfl⟩
 obtain ⟨np,hnp⟩:∃ n,n = x.pts.length:=⟨_,rfl⟩
 obtain ⟨na,hna⟩:∃ n,n = x.ats.length:=⟨_,rfl⟩
 rw [← hnn] at HN hnl ⊢
 rw [← hnp] at HP hlp ⊢
 rw [← hna] at HA hla ⊢
 have HNN:=hid hnn
 have HNA:=hid hna
 have hmm:=@run_makeMap Tryz.prog
 obtain ⟨m1,m2,m3,m4,r1,r2,r3,r4,hlk,hx4⟩:=zsa (W.alloc (.cells #[.slice ap np cp,.slice aa na ca,.int .i64 x.par,.int .i64 x.vrs] 35)) (W.heap.size + 1) (by rw [size_alloc])
 have r5:=hlk wd (by unfold maxLen; omega)
 have HB:=hid (fun (Y:World) (hY:Ext m4 Y) => z94 W _ _ _ _ _ (hx4.trans hY))
 have HX4:Hid (Ext W m4):=hid (((Ext.refl W).alloc _).trans hx4)
 clear hp ha hn hok hnn hnp hna hlk hx4 hw
 obtain ⟨q,hq⟩:∃ q,q = askI wd:=⟨_,rfl⟩
 obtain ⟨ok0,hok0⟩:∃ q,q = (askW wd).isSome:=⟨_,rfl⟩
 rw [← hq,← hok0] at r5
 have HQ:=hid hq
 have HOK0:=hid hok0
 clear hq hok0
 go_enter Tryz.func53,Tryz.ntmps53
 go_wp2
 clear r1 r2 r3 r4 r5
 go_loopw [9,10,23] (fun okv s i wr => ∃ (k:Nat) (ok:Bool) (cs:List (Int × Int)),k ≤ n ∧ i = .int .i64 k ∧ okv = .bool ok ∧ Hid (ok = true → ok0 = true ∧ z0n x (names.take k) = some cs) ∧ Hid (ok = false → ok0 = false ∨ z0n x (names.take k) = none) ∧ Hid (wr.ownsRow m4.heap.size 87 2 s cs.length (z3d cs)) ∧ Ext m4 wr ∧ Hid (cs.length ≤ k)) (fun _ _ i _ => n - (intOf i).toNat)
 case atStart => exact ⟨0,ok0,[],Nat.zero_le _,rfl,rfl,hid (fun h => ⟨h,rfl⟩),hid (fun h => .inl h),hid (World.ownsRow_nil _ _ _ _),Ext.refl _,hid (Nat.le_refl _)⟩
 case round =>
  obtain ⟨k,ok,cs,hk,rfl,rfl,HT,HF,HO,hxr,HCL⟩:=hrel
  have HX:=hid hxr
  obtain ⟨c0,c1⟩:=HB.out _ hxr
  by_cases hlt:k < n
  ·obtain ⟨nm,hnm⟩:=z00 (l:=names) (j:=k) (by rw [← HNN.out]; exact hlt)
   obtain ⟨b1,o1,rfl,-,hq1,hq2,-,hq3⟩:=(HN.out.to (Kept.ext (HX4.out.trans hxr) (fun _ h => h)) (z2b (HX4.out.trans hxr))).cellAt hnm
   have HTK:Hid (names.take (k + 1) = names.take k ++ [nm]):=hid (by rw [List.take_add_one,hnm]; rfl)
   have HIX:=hid (zm7 (S:=Old wr) (HP.out.to (Kept.ext (HX4.out.trans hxr) (fun _ h => h)) (z2b (HX4.out.trans hxr))) nm (fun _ h => h))
   clear hnm hxr
   go_wp2_with fail
   with_reducible refine HIX.out.mono ?_
   rintro e w1 ⟨rfl,hx1⟩
   have HX1:=hid (HX.out.trans hx1)
   have HX1':=hid hx1
   obtain ⟨d0,d1⟩:=HB.out _ HX1.out
   have HO1:Hid (w1.ownsRow m4.heap.size 87 2 _ cs.length (z3d cs)):=hid (z0o HO.out hx1)
   clear hx1 c0 c1 hq3
   cases ok with
   | false =>
    have HF2:Hid (ok0 = false ∨ z0n x (names.take (k + 1)) = none):=hid (by
     rcases HF.out rfl with h | h
     ·exact .inl h
     ·refine .inr ?_
      rw [HTK.out,z2g,h])
    go_wp2
    go_roundw
    case rel => exact ⟨k + 1,false,cs,by omega,by go_num,rfl,hid (fun h => by cases h),hid (fun _ => HF2.out),HO1,HX1.out,hid (by have:=HCL.out; omega)⟩
    case measure => simp only [intOf]; omega
   | true =>
    have HT2:=hid (HT.out rfl)
    clear HT HF
    cases hps:posS x.pts nm with
    | none =>
     have hI:idxI x.pts nm = -1:=by unfold idxI; rw [hps]
     rw [hI]
     have HF2:Hid (z0n x (names.take (k + 1)) = none):=hid (by
      rw [HTK.out,z2g]
      unfold z2d
      rw [hps]
      cases z0n x (names.take k) <;> rfl)
     clear hI hps
     go_wp2
     go_roundw
     case rel => exact ⟨k + 1,false,cs,by omega,by go_num,rfl,hid (fun h => by cases h),hid (fun _ => .inr HF2.out),HO1,HX1.out,hid (by have:=HCL.out; omega)⟩
     case measure => simp only [intOf]; omega
    | some i =>
     have hI:idxI x.pts nm = (i:Int):=by unfold idxI; rw [hps]
     rw [hI]
     have hi0:(0:Int) ≤ (i:Int):=by omega
     by_cases hia:i < na
     ·obtain ⟨c,hc⟩:=z00 (l:=x.ats) (j:=i) (by rw [← HNA.out]; exact hia)
      obtain ⟨b2,o2,rfl,-,hq4,hq5,-,-,z0,z1⟩:=(HA.out.on (HX4.out.trans HX1.out)).cellAt hc
      have HPL:Hid (z0n x (names.take (k + 1)) = some (cs ++ [c])):=hid (by
       rw [HTK.out,z2g,HT2.out.2]
       unfold z2d
       rw [hps,Option.bind_some,hc])
      obtain ⟨u,z⟩:=c
      simp only at z0 z1 HPL
      have HDL:Hid (cs.length ≤ 1000000000):=hid (by have:=HCL.out; omega)
      have HBS2:Hid (m4.heap.size ≤ w1.heap.size):=hid HX1.out.size
      have hd:decide (i < na) = true:=decide_eq_true hia
      clear hI hps hc
      go_wp2_with (at_builtin; refine z09 _ rfl (.tmp 44) (.tmp 50) 140 rfl m4.heap.size 87 (.agg #[.int .i64 0,.int .i64 0]) 2 16 Tryz.underlying140 Tryz.infoCoord rfl (by decide) _ _ _ rfl HO1.out #[.int .i64 u,.int .i64 z] rfl (z9x _ _) rfl HDL.out (by decide) HBS2.out ?_; intro v1 w2 hown hg _; have HOW:=hid hown; have HG:=hid hg; clear hown hg)
      go_roundw
      case rel =>
       refine ⟨k + 1,true,cs ++ [(u,z)],by omega,by go_num,rfl,hid (fun _ => ⟨HT2.out.1,HPL.out⟩),hid (fun h => by cases h),hid ?_,z1f HX1.out HO1.out HG.out,hid (by have:=HCL.out; rw [List.length_append,List.length_singleton]; omega)⟩
       rw [z4h,List.length_append]
       have h1:=HOW.out
       simpa [z3d] using h1
      case measure => simp only [intOf]; omega
     ·have HF2:Hid (z0n x (names.take (k + 1)) = none):=hid (by
       rw [HTK.out,z2g]
       unfold z2d
       rw [hps,Option.bind_some,List.getElem?_eq_none (by rw [← HNA.out]; omega)]
       cases z0n x (names.take k) <;> rfl)
      have hd:decide (i < na) = false:=decide_eq_false hia
      clear hI hps hia
      go_wp2
      go_roundw
      case rel => exact ⟨k + 1,false,cs,by omega,by go_num,rfl,hid (fun h => by cases h),hid (fun _ => .inr HF2.out),HO1,HX1.out,hid (by have:=HCL.out; omega)⟩
      case measure => simp only [intOf]; omega
  ·obtain rfl:n = k:=by omega
   have HTN:Hid (names.take n = names):=hid (by rw [HNN.out]; exact List.take_length)
   cases ok with
   | false =>
    have HE:Hid (z2h x wd names = (5,[])):=hid (by
     unfold z2h
     rcases HF.out rfl with h | h
     ·rw [HOK0.out] at h
      cases ha:askW wd with
      | none => rfl
      | some q => rw [ha] at h; cases h
     ·rw [HTN.out] at h
      rw [h]
      cases askW wd <;> rfl)
    clear hxr
    go_wp2
    all_goals
     go_ret2
     rw [HE.out]
     exact ⟨_,rfl,z0h.nilv _ _ _ _ (by decide),HX4.out.trans HX.out⟩
   | true =>
    have HPS:Hid (z0n x names = some cs):=hid (by have h:=(HT.out rfl).2; rwa [HTN.out] at h)
    obtain ⟨a,HAW⟩:∃ a,Hid (askW wd = some a):=by
     have h:=(HT.out rfl).1
     rw [HOK0.out] at h
     cases ha:askW wd with
     | none => rw [ha] at h; cases h
     | some a => exact ⟨a,hid rfl⟩
    have hqa:q = (a:Int):=by rw [HQ.out]; unfold askI; rw [HAW.out]
    subst hqa
    by_cases hna:n = a
    ·have HE:Hid (z2h x wd names = (0,z30 wd cs)):=hid (by
      unfold z2h
      rw [HAW.out,HPS.out]
      exact if_pos (by rw [← HNN.out]; exact hna))
     have hcl:=z70 HPS.out
     have hsp:=(z67 HO.out (fun c hc => by have h:=HOK.out c (z3j HPS.out c hc); unfold Ok2 at h; unfold z40; omega)).to (S':=Old wr) (Kept.refl _ _) (fun _ h => h.2)
     have CC:=hid (za9 wd hsp (fun c hc => HOK.out c (z3j HPS.out c hc)) (by rw [HAW.out,hcl,← HNN.out,hna]))
     unfold Val1 at CC
     have qe:((n:Int) != (a:Int)) = false:=by rw [hna]; simp
     obtain ⟨a2,c2,hsf⟩:=hsp.form
     subst hsf
     clear hxr hcl hsp
     go_wp2_with fail
     with_reducible refine CC.out.mono ?_
     rintro e w2 ⟨v2,rfl,hp2,hx2⟩
     have HP2:=hid (hp2.to (S':=New W w2) (Kept.refl _ _) (New.mono (HX4.out.trans HX.out)))
     have HX2:=hid ((HX4.out.trans HX.out).trans hx2)
     clear hp2 hx2
     go_wp2
     all_goals
      go_ret2
      rw [HE.out]
      exact ⟨_,rfl,HP2.out,HX2.out⟩
    ·have HE:Hid (z2h x wd names = (13,[])):=hid (by
      unfold z2h
      rw [HAW.out,HPS.out]
      exact if_neg (by rw [← HNN.out]; exact hna))
     have qe:((n:Int) != (a:Int)) = true:=by rw [bne_iff_ne]; omega
     clear hxr hna
     go_wp2
     all_goals
      go_ret2
      rw [HE.out]
      exact ⟨_,rfl,z0h.nilv _ _ _ _ (by decide),HX4.out.trans HX.out⟩
end
end Go.Proofs.YtbfflodidkfphaaGreat
