/- Are two polynomials the same data? The contracts of sync/atomic's Int64 and Bool, of sync.Mutex and of sync.Once, for one goroutine: what each call does to memory. Conditions: the lock is free. The contracts of the meter's first refusal: sync.Once's Do around the closure that keeps what would be needed. Conditions: the Once's lock is free. The meter: what each of its methods does to its block, and to nothing else. How many limbs the longest coefficient has: the program's and the document's answer. The meter's methods: each answers an error's number, or a count, and changes its own block alone. The meter's Keep and New, and its methods on a meter that is not there. The document's meter: its methods over its block of eight numbers. A meter that is not there: each of its methods answers that nothing is bound. Slices of words in memory: where one stands, whether two are the same; a layout. A document's small number, below 0 too. What every law's row asks: the answer true, the arguments as they were. Arguments that are slices of polynomials, read as data. The document: is it the same data? -/
import Derived.Test.YtbfflodidkfphaaGreatProg
import Derived.Tactics
import Derived.Tactics2
import Derived.Defers
import Derived.Laws.Pointers
import Derived.Laws.LoneSync
import Derived.RegionTactic
import Derived.RegionCalls
import Derived.ChangeAlike
import Derived.Laws.NewBlocks
import Derived.WalkKit
import Derived.BigQuiet
import Derived.Deep.QuietTactic
import Derived.StillTailTactics
import Derived.Test.YtbfflodidkfphaaGreatRows
import Derived.Lib.SmallJoins
import Derived.JoinedCond
import Derived.Test.YtbfflodidkfphaaGreatSe6
set_option maxRecDepth 100000
set_option maxHeartbeats 16000000
namespace Go.Proofs.YtbfflodidkfphaaGreat
section
open Go.RowKit
theorem zm4 {S:Nat → Prop} (va vb:Value) (xs ys:List Nat) (w:World) (ha:U32s S w va xs) (hb:U32s S w vb ys) (hS:∀ k,S k → k < w.heap.size) :
  Calls Tryz.prog 98 #[va,vb] w fun e w' => e = .returned (.bool (decide (xs = ys))) ∧ Ext w w':=by
 have HA:=hid ha
 have HB:=hid hb
 have hla:=ha.len_le
 have hlb:=hb.len_le
 obtain ⟨aa,ca,rfl⟩:=ha.form
 obtain ⟨ab,cb,rfl⟩:=hb.form
 obtain ⟨na,hna⟩:∃ n,n = xs.length:=⟨_,rfl⟩
 obtain ⟨nb,hnb⟩:∃ n,n = ys.length:=⟨_,rfl⟩
 rw [← hna] at HA hla ⊢
 rw [← hnb] at HB hlb ⊢
 have HNA:=hid hna
 have HNB:=hid hnb
 clear ha hb hna hnb
 by_cases hne:na = nb
 ·subst hne
  go_enter Tryz.func98,Tryz.ntmps98
  go_wp2
  go_loopw [5,13] (fun _ i wr => ∃ k:Nat,k ≤ na ∧ i = .int .i64 k ∧ Ext w wr ∧ Hid (xs.take k = ys.take k)) (fun _ i _ => na - (intOf i).toNat)
  case atStart => exact ⟨0,Nat.zero_le _,rfl,Ext.refl _,rfl⟩
  case round =>
   obtain ⟨k,hk,rfl,hx,HE⟩:=hrel
   have HX:=hid hx
   by_cases hlt:k < na
   ·obtain ⟨x,hxk⟩:=z00 (l:=xs) (j:=k) (by rw [← HNA.out]; exact hlt)
    obtain ⟨y,hyk⟩:=z00 (l:=ys) (j:=k) (by rw [← HNB.out]; exact hlt)
    obtain ⟨b1,o1,rfl,-,hc1,hm1,hz1,h1⟩:=(HA.out.ext hx hS).cellAt hxk
    obtain ⟨b2,o2,rfl,-,hc2,hm2,hz2,h2⟩:=(HB.out.ext hx hS).cellAt hyk
    have HXK:=hid hxk
    have HYK:=hid hyk
    clear hxk hyk hx
    by_cases he:x = y
    ·have q1:((x:Int) != (y:Int)) = false:=by rw [he]; simp
     have H0:=hid he
     clear he
     go_wp2
     go_quiet (fail)
     go_wp2
     go_roundw
     case rel => exact ⟨k + 1,by omega,by go_num,HX.out.drewN _,z5t HE.out HXK.out (by rw [H0.out]; exact HYK.out)⟩
     case measure => simp only [intOf]; omega
    ·have q1:((x:Int) != (y:Int)) = true:=by rw [bne_iff_ne]; omega
     have HF:Hid (xs ≠ ys):=hid (zbs HXK.out HYK.out he)
     clear he
     go_wp2
     go_quiet (fail)
     go_wp2
     go_ret
     exact ⟨by rw [decide_eq_false HF.out]; rfl,HX.out.drewN _⟩
   ·obtain rfl:k = na:=by omega
    have HF:Hid (xs = ys):=hid (by have:=HE.out; rwa [List.take_of_length_le (by rw [← HNA.out]; exact Nat.le_refl _),List.take_of_length_le (by rw [← HNB.out]; exact Nat.le_refl _)] at this)
    clear hx
    go_wp2
    go_ret
    exact ⟨by rw [decide_eq_true HF.out]; rfl,HX.out⟩
 ·have hb:((na:Int) != (nb:Int)) = true:=by rw [bne_iff_ne]; omega
  have HF:Hid (xs ≠ ys):=hid (fun e => hne (by rw [HNA.out,HNB.out,e]))
  clear hne
  go_enter Tryz.func98,Tryz.ntmps98
  go_wp2
  go_ret
  exact ⟨by rw [decide_eq_false HF.out]; rfl,Ext.refl _⟩
theorem ziu {S:Nat → Prop} (va vb:Value) (xs ys:Mono) (w:World) (ha:Pows S w va xs) (hb:Pows S w vb ys) (hS:∀ k,S k → k < w.heap.size) :
  Calls Tryz.prog 99 #[va,vb] w fun e w' => e = .returned (.bool (decide (xs = ys))) ∧ Ext w w':=by
 have HA:=hid ha
 have HB:=hid hb
 have hla:=ha.len_le
 have hlb:=hb.len_le
 obtain ⟨aa,ca,rfl⟩:=ha.form
 obtain ⟨ab,cb,rfl⟩:=hb.form
 obtain ⟨na,hna⟩:∃ n,n = xs.length:=⟨_,rfl⟩
 obtain ⟨nb,hnb⟩:∃ n,n = ys.length:=⟨_,rfl⟩
 rw [← hna] at HA hla ⊢
 rw [← hnb] at HB hlb ⊢
 have HNA:=hid hna
 have HNB:=hid hnb
 clear ha hb hna hnb
 by_cases hne:na = nb
 ·subst hne
  go_enter Tryz.func99,Tryz.ntmps99
  go_wp2
  go_loopw [5,13] (fun _ i wr => ∃ k:Nat,k ≤ na ∧ i = .int .i64 k ∧ Ext w wr ∧ Hid (xs.take k = ys.take k)) (fun _ i _ => na - (intOf i).toNat)
  case atStart => exact ⟨0,Nat.zero_le _,rfl,Ext.refl _,rfl⟩
  case round =>
   obtain ⟨k,hk,rfl,hx,HE⟩:=hrel
   have HX:=hid hx
   by_cases hlt:k < na
   ·obtain ⟨x,hxk⟩:=z00 (l:=xs) (j:=k) (by rw [← HNA.out]; exact hlt)
    obtain ⟨y,hyk⟩:=z00 (l:=ys) (j:=k) (by rw [← HNB.out]; exact hlt)
    obtain ⟨b1,o1,c1',hv1,hc1,hm1,⟨⟨hz1,hz2⟩,hz3,hz4⟩,h1,h1'⟩:=(HA.out.ext hx hS).at hxk
    obtain ⟨rfl,-,rfl⟩:aa = some ⟨b1,o1,none⟩ ∧ na = xs.length ∧ ca = c1':=by simpa using hv1
    obtain ⟨b2,o2,c2',hv2,hc2,hm2,⟨⟨hy1,hy2⟩,hy3,hy4⟩,h2,h2'⟩:=(HB.out.ext hx hS).at hyk
    obtain ⟨rfl,-,rfl⟩:ab = some ⟨b2,o2,none⟩ ∧ na = ys.length ∧ cb = c2':=by simpa using hv2
    clear hv1 hv2
    rw [← HNA.out] at hc1
    rw [← HNB.out] at hc2
    have HXK:=hid hxk
    have HYK:=hid hyk
    clear hxk hyk hx
    by_cases he:x = y
    ·have H0:=hid he
     obtain ⟨x1,x2⟩:=x
     obtain ⟨y1,y2⟩:=y
     obtain ⟨rfl,rfl⟩:x1 = y1 ∧ x2 = y2:=by simpa using he
     simp only at h1 h1' h2 h2' hz1 hz2 hz3 hz4 hy1 hy2 hy3 hy4
     clear he
     go_wp2
     go_quiet (fail)
     go_wp2
     go_roundw
     case rel => exact ⟨k + 1,by omega,by go_num,HX.out.drewN _,z5t HE.out HXK.out HYK.out⟩
     case measure => simp only [intOf]; omega
    ·have HF:Hid (xs ≠ ys):=hid (zbs HXK.out HYK.out he)
     obtain ⟨x1,x2⟩:=x
     obtain ⟨y1,y2⟩:=y
     simp only at h1 h1' h2 h2' hz1 hz2 hz3 hz4 hy1 hy2 hy3 hy4
     have he':x1 ≠ y1 ∨ (x1 = y1 ∧ x2 ≠ y2):=by
      by_cases h:x1 = y1
      ·exact .inr ⟨h,fun h' => he (by rw [h,h'])⟩
      ·exact .inl h
     clear he
     rcases he' with he | ⟨rfl,he⟩
     all_goals
      go_wp2
      go_quiet (fail)
      go_wp2
      go_ret
      exact ⟨by rw [decide_eq_false HF.out]; rfl,HX.out.drewN _⟩
   ·obtain rfl:k = na:=by omega
    have HF:Hid (xs = ys):=hid (by have:=HE.out; rwa [List.take_of_length_le (by rw [← HNA.out]; exact Nat.le_refl _),List.take_of_length_le (by rw [← HNB.out]; exact Nat.le_refl _)] at this)
    clear hx
    go_wp2
    go_ret
    exact ⟨by rw [decide_eq_true HF.out]; rfl,HX.out⟩
 ·have hb:((na:Int) != (nb:Int)) = true:=by rw [bne_iff_ne]; omega
  have HF:Hid (xs ≠ ys):=hid (fun e => hne (by rw [HNA.out,HNB.out,e]))
  clear hne
  go_enter Tryz.func99,Tryz.ntmps99
  go_wp2
  go_ret
  exact ⟨by rw [decide_eq_false HF.out]; rfl,Ext.refl _⟩
theorem zi2.of_cells {S:Nat → Prop} {w:World} {vm vo:Value} {t:RTerm} (h4:U32s S w vm t.c.mag) (h5:Pows S w vo t.m):zi2 S w (.agg #[.bool t.c.neg,vm,vo]) t:=⟨vm,vo,rfl,h4,h5⟩
theorem new3 {w W:World} {u v x:Value} {T:TypeId} (h:Ext (w.alloc (.cells #[u,v,x] T)) W) :
  W.cell? ⟨w.heap.size,0,none⟩ = some u ∧ W.cell? ⟨w.heap.size,1,none⟩ = some v ∧ W.cell? ⟨w.heap.size,2,none⟩ = some x :=
 ⟨h.new_cell rfl,h.new_cell rfl,h.new_cell rfl⟩
theorem zm5 {S:Nat → Prop} (va vb:Value) (s t:RTerm) (w:World) (ha:zi2 S w va s) (hb:zi2 S w vb t) (hS:∀ k,S k → k < w.heap.size) :
  Calls Tryz.prog 97 #[va,vb] w fun e w' => e = .returned (.bool (decide (s = t))) ∧ Ext w w':=by
 obtain ⟨⟨sn,sm⟩,so⟩:=s
 obtain ⟨⟨tn,tm⟩,tq⟩:=t
 obtain ⟨v1,v2,rfl,hu1,hp1⟩:=ha
 obtain ⟨v3,v4,rfl,hu2,hp2⟩:=hb
 simp only at hu1 hp1 hu2 hp2 ⊢
 have CU:=fun (W:World) (hW:Ext w W) => zm4 _ _ sm tm W (hu1.ext hW hS) (hu2.ext hW hS) (z0a hS hW)
 have CP:=fun (W:World) (hW:Ext w W) => ziu _ _ so tq W (hp1.ext hW hS) (hp2.ext hW hS) (z0a hS hW)
 obtain ⟨a1,c1,rfl⟩:=hu1.form
 obtain ⟨a2,c2,rfl⟩:=hp1.form
 obtain ⟨a3,c3,rfl⟩:=hu2.form
 obtain ⟨a4,c4,rfl⟩:=hp2.form
 have HCU:=hid CU
 have HCP:=hid CP
 have hx:Ext w ((w.alloc (.cells #[.bool sn,.slice a1 sm.length c1,.slice a2 so.length c2] 49)).alloc (.cells #[.bool tn,.slice a3 tm.length c3,.slice a4 tq.length c4] 49)):=Ext.alloc (Ext.alloc (Ext.refl w) _) _
 have HX:=hid hx
 have HM:Hid (∀ W,Ext ((w.alloc (.cells #[.bool sn,.slice a1 sm.length c1,.slice a2 so.length c2] 49)).alloc (.cells #[.bool tn,.slice a3 tm.length c3,.slice a4 tq.length c4] 49)) W →
   (W.cell? ⟨w.heap.size,0,none⟩ = some (.bool sn) ∧ W.cell? ⟨w.heap.size,1,none⟩ = some (.slice a1 sm.length c1) ∧ W.cell? ⟨w.heap.size,2,none⟩ = some (.slice a2 so.length c2)) ∧
   (W.cell? ⟨w.heap.size + 1,0,none⟩ = some (.bool tn) ∧ W.cell? ⟨w.heap.size + 1,1,none⟩ = some (.slice a3 tm.length c3) ∧ W.cell? ⟨w.heap.size + 1,2,none⟩ = some (.slice a4 tq.length c4))):=hid (fun W hW => by
  have k2:=new3 hW
  rw [size_alloc] at k2
  exact ⟨new3 ((Ext.alloc (Ext.refl _) _).trans hW),k2⟩)
 have HD:Hid ((decide ((⟨⟨sn,sm⟩,so⟩:RTerm) = ⟨⟨tn,tm⟩,tq⟩)) = (decide (sn = tn) && (decide (sm = tm) && decide (so = tq)))):=hid (by
  rw [Bool.eq_iff_iff]
  simp [and_assoc])
 clear CU CP hu1 hp1 hu2 hp2 hx
 obtain ⟨m0,m1,m2⟩:=HM.out _ (Ext.refl _)
 by_cases h1:sn = tn
 ·subst h1
  cases hm:decide (sm = tm) with
  | false =>
   simp only [hm] at HCU
   have HF:=hid hm
   clear hm
   go_enter Tryz.func97,Tryz.ntmps97
   go_wp2_with fail
   with_reducible refine (HCU.out _ HX.out).mono ?_
   rintro e w1 ⟨rfl,hx1⟩
   have HX1:=hid (HX.out.trans hx1)
   clear hx1
   go_wp2
   all_goals
    go_ret
    exact ⟨by rw [HD.out,HF.out]; simp,HX1.out⟩
  | true =>
   simp only [hm] at HCU
   have HF:=hid hm
   clear hm
   go_enter Tryz.func97,Tryz.ntmps97
   go_wp2_with fail
   with_reducible refine (HCU.out _ HX.out).mono ?_
   rintro e w1 ⟨rfl,hx1⟩
   have HX1:=hid (HX.out.trans hx1)
   obtain ⟨⟨k0,k1,k2⟩,k3,k4,k5⟩:=HM.out _ hx1
   clear hx1
   go_wp2_with fail
   with_reducible refine (HCP.out _ HX1.out).mono ?_
   rintro e w2 ⟨rfl,hx2⟩
   have HX2:=hid (HX1.out.trans hx2)
   clear hx2
   go_wp2
   all_goals
    go_ret
    exact ⟨by rw [HD.out,HF.out]; simp,HX2.out⟩
 ·have hb:(sn == tn) = false:=by rw [beq_eq_false_iff_ne]; exact h1
  have HF:=hid (decide_eq_false h1)
  clear h1
  go_enter Tryz.func97,Tryz.ntmps97
  go_wp2
  all_goals
   go_ret
   exact ⟨by rw [HD.out,HF.out]; simp,HX.out⟩
theorem zfg {S:Nat → Prop} (va vb:Value) (xs ys:List RTerm) (w:World) (ha:z0h S w va xs) (hb:z0h S w vb ys) (hS:∀ k,S k → k < w.heap.size) :
  Calls Tryz.prog 96 #[va,vb,.func (.func 97) #[] #[]] w fun e w' => e = .returned (.bool (decide (xs = ys))) ∧ Ext w w':=by
 have hnot:∀ (x:Bool) (w:World),(Op.unary .not (.bool x)).run Tryz.prog w = .ok (.bool (!x)) w:=fun _ _ => rfl
 have HA:=hid ha
 have HB:=hid hb
 have hla:=ha.len_le
 have hlb:=hb.len_le
 obtain ⟨aa,ca,rfl⟩:=ha.form
 obtain ⟨ab,cb,rfl⟩:=hb.form
 obtain ⟨na,hna⟩:∃ n,n = xs.length:=⟨_,rfl⟩
 obtain ⟨nb,hnb⟩:∃ n,n = ys.length:=⟨_,rfl⟩
 rw [← hna] at HA hla ⊢
 rw [← hnb] at HB hlb ⊢
 have HNA:=hid hna
 have HNB:=hid hnb
 clear ha hb hna hnb
 by_cases hne:na = nb
 ·subst hne
  go_enter Tryz.func96,Tryz.ntmps96
  go_wp2
  go_loopw [7,8,9,17] (fun _ _ _ i wr => ∃ k:Nat,k ≤ na ∧ i = .int .i64 k ∧ Ext w wr ∧ Hid (xs.take k = ys.take k)) (fun _ _ _ i _ => na - (intOf i).toNat)
  case atStart => exact ⟨0,Nat.zero_le _,rfl,Ext.refl _,rfl⟩
  case round =>
   obtain ⟨k,hk,rfl,hx,HE⟩:=hrel
   have HX:=hid hx
   by_cases hlt:k < na
   ·obtain ⟨x,hxk⟩:=z00 (l:=xs) (j:=k) (by rw [← HNA.out]; exact hlt)
    obtain ⟨y,hyk⟩:=z00 (l:=ys) (j:=k) (by rw [← HNB.out]; exact hlt)
    obtain ⟨b1,o1,v1,v2,rfl,-,hc1,hm1,hz1,h1,h2,h3,h4,h5⟩:=(HA.out.ext hx hS).cellAt hxk
    obtain ⟨b2,o2,v3,v4,rfl,-,hc2,hm2,hz2,g1,g2,g3,g4,g5⟩:=(HB.out.ext hx hS).cellAt hyk
    have HXK:=hid hxk
    have HYK:=hid hyk
    have HC:=hid (fun W (hW:Ext wr W) => zm5 (S:=S) _ _ x y W (zi2.of_cells (h4.ext hW (z0a hS hx)) (h5.ext hW (z0a hS hx))) (zi2.of_cells (g4.ext hW (z0a hS hx)) (g5.ext hW (z0a hS hx))) (z0a hS (hx.trans hW)))
    obtain ⟨a1,c1,rfl⟩:=h4.form
    obtain ⟨a2,c2,rfl⟩:=h5.form
    obtain ⟨a3,c3,rfl⟩:=g4.form
    obtain ⟨a4,c4,rfl⟩:=g5.form
    have HX2:=hid (Ext.alloc (Ext.alloc (Ext.refl wr) (.cells #[.bool x.c.neg,.slice a1 x.c.mag.length c1,.slice a2 x.m.length c2] 49)) (.cells #[.bool y.c.neg,.slice a3 y.c.mag.length c3,.slice a4 y.m.length c4] 49))
    have n1:=new3 (w:=wr) (u:=.bool x.c.neg) (v:=.slice a1 x.c.mag.length c1) (x:=.slice a2 x.m.length c2) (T:=49) (Ext.refl _)
    have m1':=(Ext.alloc (Ext.refl wr) (.cells #[.bool x.c.neg,.slice a1 x.c.mag.length c1,.slice a2 x.m.length c2] 49)).cell g1
    have m2':=(Ext.alloc (Ext.refl wr) (.cells #[.bool x.c.neg,.slice a1 x.c.mag.length c1,.slice a2 x.m.length c2] 49)).cell g2
    have m3':=(Ext.alloc (Ext.refl wr) (.cells #[.bool x.c.neg,.slice a1 x.c.mag.length c1,.slice a2 x.m.length c2] 49)).cell g3
    clear h4 h5 g4 g5 hxk hyk hx n1
    by_cases he:x = y
    ·have H0:=hid he
     have hd:decide (x = y) = true:=decide_eq_true he
     have HCT:=HC
     simp only [hd] at HCT
     have HCC:=hid HCT.out
     clear he hd HCT
     go_wp2_with fail
     with_reducible refine (HCC.out _ HX2.out).mono ?_
     rintro e w2 ⟨rfl,hx2⟩
     have HX3:=hid (HX.out.trans (HX2.out.trans hx2))
     clear hx2
     go_wp2
     go_roundw
     case rel => exact ⟨k + 1,by omega,by go_num,HX3.out,z5t HE.out HXK.out (by rw [H0.out]; exact HYK.out)⟩
     case measure => simp only [intOf]; omega
    ·have HF:Hid (xs ≠ ys):=hid (zbs HXK.out HYK.out he)
     have hd:decide (x = y) = false:=decide_eq_false he
     have HCT:=HC
     simp only [hd] at HCT
     have HCC:=hid HCT.out
     clear he hd HCT
     go_wp2_with fail
     with_reducible refine (HCC.out _ HX2.out).mono ?_
     rintro e w2 ⟨rfl,hx2⟩
     have HX3:=hid (HX.out.trans (HX2.out.trans hx2))
     clear hx2
     go_wp2
     go_ret
     exact ⟨by rw [decide_eq_false HF.out]; rfl,HX3.out⟩
   ·obtain rfl:k = na:=by omega
    have HF:Hid (xs = ys):=hid (by have:=HE.out; rwa [List.take_of_length_le (by rw [← HNA.out]; exact Nat.le_refl _),List.take_of_length_le (by rw [← HNB.out]; exact Nat.le_refl _)] at this)
    clear hx
    go_wp2
    go_ret
    exact ⟨by rw [decide_eq_true HF.out]; rfl,HX.out⟩
 ·have hb:((na:Int) != (nb:Int)) = true:=by rw [bne_iff_ne]; omega
  have HF:Hid (xs ≠ ys):=hid (fun e => hne (by rw [HNA.out,HNB.out,e]))
  clear hne
  go_enter Tryz.func96,Tryz.ntmps96
  go_wp2
  go_ret
  exact ⟨by rw [decide_eq_false HF.out]; rfl,Ext.refl _⟩
theorem zm6 {S:Nat → Prop} (va vb:Value) (xs ys:List RTerm) (w:World) (ha:z0h S w va xs) (hb:z0h S w vb ys) (hS:∀ k,S k → k < w.heap.size) :
  Calls Tryz.prog 60 #[va,vb] w fun e w' => e = .returned (.bool (decide (xs = ys))) ∧ Ext w w':=by
 have C:=hid (zfg va vb xs ys w ha hb hS)
 obtain ⟨aa,ca,rfl⟩:=ha.form
 obtain ⟨ab,cb,rfl⟩:=hb.form
 generalize decide (xs = ys) = b at *
 clear ha hb
 go_enter Tryz.func60,Tryz.ntmps60
 go_wp2_with fail
 with_reducible refine C.out.mono ?_
 rintro e w2 ⟨rfl,hx2⟩
 have HX:=hid hx2
 clear hx2
 go_wp2
 go_ret
 exact ⟨rfl,HX.out⟩
end
section
open Go.RowKit
end
section
open Go.RowKit
end
section
open Go.RowKit
structure MSt where
 fu:Int
 li:Int
 te:Int
 pi:Int
 st:Int
 pc:Int
 wh:Int
 nn:Int
 deriving DecidableEq,Inhabited
def MSt.done (s:MSt):Int:=if s.wh = 0 then 0 else 1
def MSt.refuse (s:MSt) (e n:Int):MSt:=if s.wh = 0 then { s with wh:=e,nn:=n } else s
end
section
open Go.RowKit
end
section
open Go.RowKit
def MSt.step (s:MSt):Int × MSt:=if s.st < s.fu then (0,{ s with st:=s.st + 1 }) else (9,s.refuse 9 (s.fu + 1))
end
section
open Go.RowKit
def MSt.keep (s:MSt) (n len:Nat):Int × MSt:=if s.li < n then (10,s.refuse 10 n) else if s.te < len then (11,s.refuse 11 len) else (0,s)
def MSt.new (a b c d:Int):MSt:=⟨a,b,c,d,0,0,0,0⟩
end
section
open Go.RowKit
end
section
open Go.RowKit
end
section
open Go.RowKit
def Strs (S:Nat → Prop) (w:World) (v:Value) (xs:List ByteArray):Prop :=
 ∃ b off,z31 S v xs.length b off ∧ ∀ j x,xs[j]? = some x → w.cell? ⟨b,off + j,none⟩ = some (.string x)
section
variable {S S':Nat → Prop} {w w':World} {v:Value} {xs:List ByteArray}
theorem Strs.form (h:Strs S w v xs):∃ a cap,v = .slice a xs.length cap:=by
 obtain ⟨b,off,⟨a,cap,h1,_⟩,_⟩:=h
 exact ⟨a,cap,h1⟩
theorem Strs.to (h:Strs S w v xs) (hk:Kept S w w') (hS:∀ k,S k → S' k):Strs S' w' v xs:=by
 obtain ⟨b,off,hs,hc⟩:=h
 exact ⟨b,off,hs.mono hS,fun j z hz => hk.cell (hs.in (z03 hz)) (hc j z hz)⟩
theorem Strs.ext (h:Strs S w v xs) (hx:Ext w w') (hS:∀ k,S k → k < w.heap.size):Strs S w' v xs:=h.to (Kept.ext hx hS) (fun _ h => h)
theorem Strs.len_le (h:Strs S w v xs):xs.length ≤ 9223372036854775807:=by
 obtain ⟨b,off,⟨a,cap,-,h2,h3,-,-⟩,-⟩:=h
 unfold maxLen at h3
 omega
theorem Strs.cellAt {a:Option Addr} {n cap k:Nat} {x:ByteArray} (h:Strs S w (.slice a n cap) xs) (hx:xs[k]? = some x) :
  ∃ b off,a = some ⟨b,off,none⟩ ∧ n = xs.length ∧ n ≤ cap ∧ cap ≤ 9223372036854775807 ∧ S b ∧ w.cell? ⟨b,off + k,none⟩ = some (.string x):=by
 obtain ⟨b,off,⟨a',cap',h1,h2,h3,h4,h5⟩,hc⟩:=h
 obtain ⟨rfl,rfl,rfl⟩:a = a' ∧ n = xs.length ∧ cap = cap':=by simpa using h1
 have hlt:0 < xs.length:=by have:=z03 hx; omega
 exact ⟨b,off,h4 hlt,rfl,h2,by simpa [maxLen] using h3,h5 hlt,hc k x hx⟩
end
def posS:List ByteArray → ByteArray → Option Nat
 | [],_ => none
 | z :: zs,x => if z = x then some 0 else (posS zs x).map (· + 1)
theorem z92 {x:ByteArray}:∀ {zs:List ByteArray} {k:Nat},zs[k]? = some x → (∀ y ∈ zs.take k,y ≠ x) → posS zs x = some k
 | [],k,h,_ => by simp at h
 | z :: zs,0,h,_ => by
  have:z = x:=by simpa using h
  simp [posS,this]
 | z :: zs,k + 1,h,hn => by
  have hz:z ≠ x:=hn z (by simp)
  have:=z92 (zs:=zs) (k:=k) (by simpa using h) (fun y hy => hn y (by simp [hy]))
  simp [posS,hz,this]
theorem z7k {x:ByteArray}:∀ {zs:List ByteArray},(∀ y ∈ zs,y ≠ x) → posS zs x = none
 | [],_ => rfl
 | z :: zs,hn => by
  have hz:z ≠ x:=hn z (by simp)
  have:=z7k (zs:=zs) (fun y hy => hn y (by simp [hy]))
  simp [posS,hz,this]
def idxI (zs:List ByteArray) (x:ByteArray):Int:=match posS zs x with
 | some k => k
 | none => -1
theorem z9z {x y:ByteArray} (h:x = y):(x.toList == y.toList) = true:=by rw [h,beq_self_eq_true]
theorem za0 {x y:ByteArray} (h:x ≠ y):(x.toList == y.toList) = false:=by
 rw [beq_eq_false_iff_ne,ByteArray.toList_eq,ByteArray.toList_eq]
 exact fun e => h (ByteArray.ext (Array.toList_inj.mp e))
theorem zm7 {S:Nat → Prop} {w:World} {v:Value} {xs:List ByteArray} (h:Strs S w v xs) (x:ByteArray) (hS:∀ k,S k → k < w.heap.size) :
  Calls Tryz.prog 89 #[v,.string x] w fun e w' => e = .returned (.int .i64 (idxI xs x)) ∧ Ext w w':=by
 have H:=hid h
 have hl:=h.len_le
 obtain ⟨a,c,rfl⟩:=h.form
 obtain ⟨n,hn⟩:∃ n,n = xs.length:=⟨_,rfl⟩
 rw [← hn] at H hl ⊢
 have HN:=hid hn
 clear h hn
 go_enter Tryz.func89,Tryz.ntmps89
 go_wp2
 go_loopw [5,8] (fun _ i wr => ∃ k:Nat,k ≤ n ∧ i = .int .i64 k ∧ Ext w wr ∧ Hid (∀ y ∈ xs.take k,y ≠ x)) (fun _ i _ => n - (intOf i).toNat)
 case atStart => exact ⟨0,Nat.zero_le _,rfl,Ext.refl _,fun y hy => by simp at hy⟩
 case round =>
  obtain ⟨k,hk,rfl,hx,HE⟩:=hrel
  have HX:=hid hx
  by_cases hlt:k < n
  ·obtain ⟨y,hy⟩:=z00 (l:=xs) (j:=k) (by rw [← HN.out]; exact hlt)
   obtain ⟨b1,o1,rfl,-,hc1,hm1,-,h1⟩:=(H.out.ext hx hS).cellAt hy
   have HY:=hid hy
   clear hy hx
   by_cases he:x = y
   ·have q1:=z9z he
    have H0:=hid he
    clear he
    go_wp2
    go_ret
    exact ⟨by unfold idxI; rw [z92 (by rw [HY.out,H0.out]) HE.out]; rfl,HX.out⟩
   ·have q1:=za0 he
    have H0:=hid he
    clear he
    go_wp2
    go_roundw
    case rel => exact ⟨k + 1,by omega,by go_num,HX.out,fun z hz => by
     rw [List.take_add_one,HY.out] at hz
     rcases List.mem_append.1 hz with hz | hz
     ·exact HE.out z hz
     ·have:z = y:=by simpa using hz
      rw [this]; exact fun e => H0.out e.symm⟩
    case measure => simp only [intOf]; omega
  ·obtain rfl:k = n:=by omega
   have HF:Hid (idxI xs x = -1):=hid (by
    have:=HE.out
    rw [List.take_of_length_le (by rw [← HN.out]; exact Nat.le_refl _)] at this
    unfold idxI; rw [z7k this])
   clear hx
   go_wp2
   go_ret
   exact ⟨by rw [HF.out]; rfl,HX.out⟩
end
section
open Go.RowKit
theorem zm8 (w:World) (T:TypeId):Digs (Old (w.alloc (.cells #[.int .i64 1] T))) (w.alloc (.cells #[.int .i64 1] T)) (.slice (some ⟨w.heap.size,0,none⟩) 1 1) [1]:=by
 refine ⟨w.heap.size,0,⟨_,1,rfl,Nat.le_refl _,by decide,fun _ => rfl,fun _ => by show w.heap.size < (w.alloc _).heap.size; rw [size_alloc]; omega⟩,fun j z hj => ?_⟩
 have hj2:=z03 hj
 match j,hj with
 | 0,hj =>
  obtain rfl:1 = z:=by simpa using hj
  exact ⟨by decide,z02 _ _ _ rfl rfl⟩
 | j + 1,_ => simp at hj2
theorem zbt (n:Nat) (w:World) (hn:n < 1000000000000000) :
  Calls Tryz.prog 36 #[.int .i64 (-((n:Int) + 1))] w fun e w' => ∃ v',e = .returned v' ∧ ZV (New w w') w' v' (-((n:Int) + 1)) ∧ Ext w w':=by
 have HK:=hid (Ext.alloc (Ext.refl w) (.cells #[.bool false,.slice none 0 0] 56))
 have HSZ:Hid (w.heap.size < (w.alloc (.cells #[.bool false,.slice none 0 0] 56)).heap.size):=hid (by simp)
 have HC:=hid (zch n (w.alloc (.cells #[.bool false,.slice none 0 0] 56)) (by omega))
 have hge:¬ ((0:Int) ≤ -((n:Int) + 1)):=by omega
 have q1:decide ((0:Int) ≤ -((n:Int) + 1)) = false:=decide_eq_false hge
 have q2:(-(-((n:Int) + 1) + 1)) = (n:Int):=by omega
 have HL:Hid ((rep 10 n).length ≤ 20):=hid (z0d z05 _ _ (Nat.lt_of_lt_of_le hn (by decide)))
 have HV:Hid (rep 10 (val 10 (rep 10 n) + val 10 [1]) = rep 10 (n + 1)):=hid (by rw [z0c (by decide)]; rfl)
 obtain ⟨m,hm⟩:∃ m:Int,m = -((n:Int) + 1):=⟨_,rfl⟩
 have HM:=hid hm
 have hm2:m + 1 = -(n:Int):=by omega
 have hm3:¬ (0 ≤ m):=by omega
 have q3:decide ((0:Int) ≤ m) = false:=decide_eq_false hm3
 rw [← hm]
 clear hge q1 q2 hm
 go_enter Tryz.func36,Tryz.ntmps36
 go_wp2_with fail
 with_reducible refine HC.out.mono ?_
 rintro e w1 ⟨v1,rfl,hd,hx⟩
 have HX:=hid (HK.out.trans hx)
 have HX1:=hid hx
 have HA:=hid (zk1 (S:=Old (w1.alloc (.cells #[.int .i64 1] 3))) v1 (.slice (some ⟨w1.heap.size,0,none⟩) 1 1) (rep 10 n) [1] (w1.alloc (.cells #[.int .i64 1] 3)) (hd.to (Kept.ext (Ext.alloc (Ext.refl _) _) New.lt) (fun k hk => Nat.lt_of_lt_of_le hk.2 (Ext.alloc (Ext.refl _) _).size)) (zm8 w1 3) (fun _ h => h) (by have:=HL.out; omega) (by simp))
 rw [HV.out] at HA
 obtain ⟨r0,r1,f0,f1⟩:=new2 hx
 have HE:=hid (And.intro (And.intro r0 r1) (And.intro f0 f1))
 obtain ⟨a1,n1,rfl⟩:=hd.form
 clear hd hx r0 r1 f0 f1
 go_wp2_with fail
 with_reducible refine HA.out.mono ?_
 rintro e w2 ⟨v2,rfl,hd2,hx2⟩
 have HX2:=hid ((HX1.out.alloc _).trans hx2)
 have hy:Ext w1 w2:=(Ext.alloc (Ext.refl _) _).trans hx2
 have r0:=hy.cell HE.out.1.1
 have r1:=hy.cell HE.out.1.2
 have f0:=hy.free (z08 HE.out.1.1) HE.out.2.1
 have f1:=hy.free (z08 HE.out.1.1) HE.out.2.2
 have HE2:=hid (And.intro r0 r1)
 have HD:=hid (hd2.to (S':=New w1 w2) (Kept.refl _ _) (New.mono (Ext.alloc (Ext.refl _) _)))
 obtain ⟨a2,n2,rfl⟩:=hd2.form
 clear hd2 hx2 hy
 go_wp2
 have hdd:=fun x y => z0v x y HE2.out.1 HE2.out.2
 refine bodyPost_ret (by simp [results,Tryz.results36,go_sem,(hdd _ _).1,(hdd _ _).2]; rfl) rfl ?_
 have hz:=zcm (b:=true) HD.out
 have hsg:sg true (n + 1) = m:=by rw [HM.out]; unfold sg; simp
 rw [hsg] at hz
 have hz2:ZV (New w1 w2) w2 (.agg #[.bool true,.slice a2 (rep 10 (n + 1)).length n2]) m:=by simpa using hz
 have hg:=fun x y => z4e (w0:=w) (b:=w.heap.size) (hz2.to (S':=New (w.alloc (.cells #[.bool false,.slice none 0 0] 56)) w2) (Kept.refl _ _) (fun k hk => ⟨Nat.le_trans HX1.out.size hk.1,hk.2⟩)) HK.out HX2.out (Nat.le_refl _) HSZ.out x y
 exact ⟨_,rfl,(hg _ _).1,(hg _ _).2⟩
end
section
open Go.RowKit Go.Deep Go.ChangeShapes Go.WideShapes Go.ChangeAt
theorem Tryz.own:ownKnob Tryz.prog.godebug = none:=by kernel_rfl
theorem Tryz.laidOut:laidOutB Tryz.prog = true:=by kernel_rfl
theorem zbu {H:Type} {enc:TypeId × Value → H} {W W':World} (hb:Below W.heap.size W W') :
  ∀ {ts:List TypeId} {vs:List Value} {ds:List (DataW H)} {p:List MemPlace},(∀ t ∈ ts,Tryz.prog.readableRec t = true ∧ t < Tryz.prog.types.size) → (∀ x ∈ p,x.block < W.heap.size) →
  DataW.TrodAll enc Tryz.prog W 0 (fun _ => true) true ts vs ds p → DataW.TrodAll enc Tryz.prog W' 0 (fun b => decide (b < W.heap.size)) true ts vs ds p:=by
 intro ts
 induction ts with
 | nil =>
  intro vs ds p _ _ h
  cases vs <;> cases ds <;> first | exact h | exact h.elim
 | cons t ts ih =>
  intro vs ds p ht hlt h
  cases vs with
  | nil => exact h.elim
  | cons v vs =>
   cases ds with
   | nil => exact h.elim
   | cons d ds =>
    obtain ⟨p1,q1,h1,h2,rfl⟩:=h
    refine ⟨p1,q1,?_,ih (fun x hx => ht x (List.mem_cons_of_mem _ hx)) (fun x hx => hlt x (List.mem_append_right _ hx)) h2,rfl⟩
    exact Below.trod Tryz.laidOut (ht t (List.mem_cons_self)).1 (ht t (List.mem_cons_self)).2 h1 hb (fun x hx => hlt x (List.mem_append_left _ hx))
theorem zp8 {H:Type} {enc:TypeId × Value → H} {F:Func} {s:ChangeSpec} {W W':World} {args:Array Value} {ds gs:List (DataW H)} {before:List MemPlace}
  (hW:DataW.Whole enc Tryz.prog F.params.toList s.vars false W args.toList ds gs before) (hv:s.vars = []) (hr:F.resultTypes = #[4])
  (hs:s.fn H (ds ++ gs) = { results:=[.lit (.bool true)],args:=ds }) (ht:∀ t ∈ F.params.toList,Tryz.prog.readableRec t = true ∧ t < Tryz.prog.types.size)
  (hb:Below W.heap.size W W'):s.post enc Tryz.prog F false true false false W args (.bool true) W':=by
 have hlt:=fun p hp => hW.lt p hp
 have hW':=hW
 obtain ⟨p,q,hA,hV,rfl,_,_⟩:=hW
 rw [hv] at hV
 obtain ⟨rfl,rfl⟩:=trodVars_none hV
 refine ⟨ds,_,_,[],p,[],hW',?_,?_,?_,hb.frame _,fun h => by cases h⟩
 ·rw [hs,hr]
  exact trodAll_mk1 (shut_bool Tryz.underlying4 true)
 ·rw [hs]
  exact zbu hb ht (fun x hx => hlt x (List.mem_append_left _ hx)) hA
 ·rw [hs,hv]
  rfl
end
section
open Go.RowKit Go.Deep Go.ChangeShapes Go.WideShapes Go.ChangeAt
theorem zfh {t e:TypeId} {W:World} {base:Nat} {v:Value} (ht:Tryz.prog.underlying t = some (.slice e)) (hv:Value.okWide Tryz.prog W .any base t v):v.cells.toList = [v]:=by
 obtain ⟨a,len,cap,rfl⟩:=okWide_slice ht hv
 rfl
section
variable {H:Type} {enc:TypeId × Value → H} {w:World} {base:Nat} {spare:Nat → Bool} {held:Bool}
end
end
section
open Go.RowKit
end
end Go.Proofs.YtbfflodidkfphaaGreat
