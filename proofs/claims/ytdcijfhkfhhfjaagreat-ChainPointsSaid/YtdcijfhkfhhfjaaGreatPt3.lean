/- Decimal digits: held against each other, summed up, subtracted, multiplied. Decimal digits: sums, differences, products. Decimal digits: the product. A number by a limb. The bits of a number, exactly. One limb of a quotient, plainly and of rows. An array of all variables' exponents, by value and in memory. The document's monomials: which may be, their exponents. The document's monomials: the array of all exponents. The document's monomials: order, class, degree. The document's monomials: class, degree, out of exponents. The document's product of monomials. A polynomial's first term, class and degree. Degree, rank, the order of ranks, what is reduced. The document's whole numbers: a sign and digits. A region that draws its order: what reads first, then calls that make memory, one behind the other. The document's whole numbers: as data, small ones, sign, the same, canonical. The document's whole numbers: small ones, products, sums. -/
import Derived.Deep.WholeRow
import Derived.Deep.MidRow
import Derived.Deep.OwnRows
import Derived.ChangeKeysEq
import Derived.StillTailTactics
import Derived.StillTail
import Derived.OrdersHeld
import Derived.Test.YtdcijfhkfhhfjaaGreatPt2
set_option maxRecDepth 100000
set_option maxHeartbeats 16000000
namespace Go.Proofs.YtdcijfhkfhhfjaaGreat
section
open Go.RowKit
theorem zn2 {n m:Nat} (h:(rep 10 n).length < (rep 10 m).length):cmpN n m = -1:=by
 have:=z7c z0h h
 unfold cmpN
 rw [z2w]
 omega
theorem zkl {n m:Nat} (h:(rep 10 m).length < (rep 10 n).length):cmpN n m = 1:=by
 have:=z7c z0h h
 unfold cmpN
 rw [z3y]
 omega
theorem zfo {n m k x y:Nat} (hlen:(rep 10 n).length = (rep 10 m).length) (hx:(rep 10 n)[k]? = some x) (hy:(rep 10 m)[k]? = some y) (ht:val 10 ((rep 10 n).drop (k + 1)) = val 10 ((rep 10 m).drop (k + 1))) (h:x < y):cmpN n m = -1:=by
 have h1:=zd0 (B:=10) (l:=rep 10 n) (m:=rep 10 m) (k:=k) (by decide) (z3q z0h n) (by rw [z0o hx,z0o hy]; exact h) (z05 hx) (z05 hy) ht hlen
 rw [z0d z0h,z0d z0h] at h1
 unfold cmpN
 rw [z2w]
 omega
theorem zkm {n m k x y:Nat} (hlen:(rep 10 n).length = (rep 10 m).length) (hx:(rep 10 n)[k]? = some x) (hy:(rep 10 m)[k]? = some y) (ht:val 10 ((rep 10 n).drop (k + 1)) = val 10 ((rep 10 m).drop (k + 1))) (h:y < x):cmpN n m = 1:=by
 have:=zfo hlen.symm hy hx ht.symm h
 unfold cmpN at *
 rw [zdr,this]
 rfl
theorem zn3 {S:Nat → Prop} (va vb:Value) (n m:Nat) (w:World) (ha:Digs S w va (rep 10 n)) (hb:Digs S w vb (rep 10 m)) (hS:∀ k,S k → k < w.heap.size) :
  Calls Tryz.prog 106 #[va,vb] w fun e w' => e = .returned (.int .i64 (cmpN n m)) ∧ Ext w w':=by
 have HU:=hid ha
 have HV:=hid hb
 have hl1:=ha.len_le
 have hl2:=hb.len_le
 obtain ⟨aa,ca,rfl⟩:=ha.form
 obtain ⟨ab,cb,rfl⟩:=hb.form
 clear ha hb
 rcases (show (rep 10 n).length < (rep 10 m).length ∨ (rep 10 m).length < (rep 10 n).length ∨ (rep 10 n).length = (rep 10 m).length by omega) with hlt | hlt | heq
 ·have HC:=hid (zn2 hlt)
  have hq:(((rep 10 n).length:Int) != ((rep 10 m).length:Int)) = true:=by rw [bne_iff_ne]; omega
  go_enter Tryz.func106,Tryz.ntmps106
  go_wp2
  all_goals
   go_ret
   exact ⟨by rw [HC.out]; rfl,Ext.refl _⟩
 ·have HC:=hid (zkl hlt)
  have hq:(((rep 10 n).length:Int) != ((rep 10 m).length:Int)) = true:=by rw [bne_iff_ne]; omega
  go_enter Tryz.func106,Tryz.ntmps106
  go_wp2
  all_goals
   go_ret
   exact ⟨by rw [HC.out]; rfl,Ext.refl _⟩
 ·have HE:=hid heq
  obtain ⟨L,hL⟩:∃ L,L = (rep 10 n).length:=⟨_,rfl⟩
  have HL:=hid hL
  rw [← heq,← hL] at HV hl2 ⊢
  rw [← hL] at HU hl1
  clear heq hL
  have hq:((L:Int) != (L:Int)) = false:=by simp
  go_enter Tryz.func106,Tryz.ntmps106
  go_wp2
  go_loopw [5] (fun i wr => ∃ k:Nat,k ≤ L ∧ i = .int .i64 ((k:Int) - 1) ∧ Ext w wr ∧ val 10 ((rep 10 n).drop k) = val 10 ((rep 10 m).drop k)) (fun i _ => (intOf i + 1).toNat)
  case atStart => exact ⟨L,Nat.le_refl _,rfl,Ext.refl _,by rw [List.drop_eq_nil_of_le (by have:=HL.out; omega),List.drop_eq_nil_of_le (by have:=HL.out; have:=HE.out; omega)]⟩
  case round =>
   obtain ⟨k,hk,rfl,hx,ht⟩:=hrel
   cases k with
   | succ q =>
    have hq1:((q + 1:Nat):Int) - 1 = (q:Int):=by omega
    have hqn:q < L:=by omega
    obtain ⟨x,hx1⟩:=z01 (show q < (rep 10 n).length by have:=HL.out; omega)
    obtain ⟨y,hy1⟩:=z01 (show q < (rep 10 m).length by have:=HL.out; have:=HE.out; omega)
    obtain ⟨b1,o1,rfl,-,hn1,hm1,-,hxb,hc1⟩:=(HU.out.to (Kept.ext hx hS) (fun _ h => h)).cellAt hx1
    obtain ⟨b2,o2,rfl,-,hn2,hm2,-,hyb,hc2⟩:=(HV.out.to (Kept.ext hx hS) (fun _ h => h)).cellAt hy1
    have HX:=hid hx
    have HT:=hid ht
    have HX1:=hid hx1
    have HY1:=hid hy1
    clear hx ht hx1 hy1
    simp only [hq1]
    rcases (show x < y ∨ y < x ∨ x = y by omega) with hlt | hlt | heq
    ·have HC:=hid (zfo HE.out HX1.out HY1.out HT.out hlt)
     go_wp2
     go_quiet (fail)
     go_wp2
     all_goals
      go_ret
      exact ⟨by rw [HC.out]; rfl,HX.out.drewN _⟩
    ·have HC:=hid (zkm HE.out HX1.out HY1.out HT.out hlt)
     go_wp2
     go_quiet (fail)
     go_wp2
     go_quiet (fail)
     go_wp2
     all_goals
      go_ret
      exact ⟨by rw [HC.out]; rfl,(HX.out.drewN _).drewN _⟩
    ·subst heq
     go_wp2
     go_quiet (fail)
     go_wp2
     go_quiet (fail)
     go_wp2
     go_roundw
     case rel => exact ⟨q,by omega,rfl,HX.out.drewN _,by rw [z7b HX1.out,z7b HY1.out,HT.out]⟩
     case measure => simp only [intOf]; omega
   | zero =>
    have HX:=hid hx
    have HC:Hid (cmpN n m = 0):=by
     have e:n = m:=by simpa [z0d z0h] using ht
     refine hid ?_
     rw [e]
     exact zfc _
    clear hx ht
    go_wp2
    all_goals
     go_ret
     exact ⟨by rw [HC.out]; rfl,HX.out⟩
end
section
open Go.RowKit
theorem z6w {B:Nat} {o:List Nat} {z:Nat} (h:∀ x ∈ o,x < B) (hz:z < B):∀ x ∈ o ++ [z],x < B:=by
 intro x hx
 rcases List.mem_append.1 hx with h1 | h1
 ·exact h x h1
 ·rw [List.mem_singleton.1 h1]
  exact hz
theorem zrg {B:Nat} {o xs ys:List Nat} {k:Nat} (h:val B o + B ^ k * 0 = val B (xs.take k) + val B (ys.take k)) (hx:xs.length ≤ k) (hy:ys.length ≤ k):val B o = val B xs + val B ys:=by
 rw [List.take_of_length_le hx,List.take_of_length_le hy] at h
 simpa using h
theorem zvo {S:Nat → Prop} (va vb:Value) (xs ys:List Nat) (w:World) (ha:Digs S w va xs) (hb:Digs S w vb ys) (hS:∀ k,S k → k < w.heap.size) (hr:xs.length ≤ 10000000) (hr2:ys.length ≤ 10000000) :
  Calls Tryz.prog 66 #[va,vb] w fun e w' => ∃ v',e = .returned v' ∧ Digs (New w w') w' v' (rep 10 (val 10 xs + val 10 ys)) ∧ Ext w w':=by
 have HA:=hid ha
 have HB:=hid hb
 obtain ⟨aa,ca,rfl⟩:=ha.form
 obtain ⟨ab,cb,rfl⟩:=hb.form
 clear ha hb
 go_enter Tryz.func66,Tryz.ntmps66
 go_wp2
 go_loopw [5,6,7] (fun x c i wr => ∃ (k cc:Nat) (o:List Nat),k ≤ 10000001 ∧ i = .int .i64 k ∧ c = .int .i64 cc ∧ cc ≤ 1 ∧ Hid (o.length = k) ∧ Hid (xs.length < k → ys.length < k → cc = 0) ∧ Hid (∀ z ∈ o,z < 10) ∧ Hid (wr.ownsRow w.heap.size 3 1 x o.length (o.map dval)) ∧ Ext w wr ∧
  Hid (val 10 o + 10 ^ k * cc = val 10 (xs.take k) + val 10 (ys.take k))) (fun _ _ i _ => xs.length + ys.length + 2 - (intOf i).toNat)
 case atStart => exact ⟨0,0,[],by omega,rfl,rfl,by omega,hid rfl,hid (fun h => absurd h (by omega)),hid (by simp),hid (World.ownsRow_nil _ _ _ _),Ext.refl _,hid (by simp [val])⟩
 case round =>
  obtain ⟨k,cc,o,hk,rfl,rfl,hcc,HOL,HZ,HO,HW,hx,HV⟩:=hrel
  have hol2:o.length ≤ 1000000000:=by have:=HOL.out; omega
  have HX:=hid hx
  by_cases h1:k < xs.length
  ·obtain ⟨x,hx1⟩:=z01 h1
   obtain ⟨b1,o1,rfl,-,hn1,hm1,-,hxb,hc1⟩:=(HA.out.ext hx hS).cellAt hx1
   have HX1:=hid hx1
   clear hx1
   by_cases h2:k < ys.length
   ·obtain ⟨y,hy1⟩:=z01 h2
    obtain ⟨b2,o2,rfl,-,hn2,hm2,-,hyb,hc2⟩:=(HB.out.ext hx hS).cellAt hy1
    have HY1:=hid hy1
    clear hy1 hx
    go_wp2_with (at_builtin; refine z0l _ rfl (.tmp 44) (.tmp 47) 100 rfl w.heap.size 3 (.int .i64 0) 1 8 Tryz.underlying100 Tryz.infoInt rfl (by decide) _ o.length (o.map dval) rfl HW.out _ rfl (z42 rfl) rfl hol2 (by decide) HX.out.size ?_; intro v1 w1 hown hg _; have HOW:=hid hown; have HG:=hid hg; clear hown hg)
    go_roundw
    case rel =>
     refine ⟨k + 1,(cc + (x + y)) / 10,o ++ [(cc + (x + y)) % 10],by omega,by go_num,congrArg (Value.int .i64) (by omega),by omega,hid (by simp [HOL.out]),hid (fun h => absurd h (by omega)),hid (z6w HO.out (Nat.mod_lt _ (by decide))),hid (z41 HOW.out (congrArg (Value.int .i64) (by omega))),z0n HX.out HG.out (fun q hq => (HW.out.lt q hq).1),hid ?_⟩
     exact z3x HOL.out HV.out (x + y) (by rw [z0o HX1.out,z0o HY1.out])
    case measure => simp only [intOf]; omega
   ·clear hx
    go_wp2_with (at_builtin; refine z0l _ rfl (.tmp 44) (.tmp 47) 100 rfl w.heap.size 3 (.int .i64 0) 1 8 Tryz.underlying100 Tryz.infoInt rfl (by decide) _ o.length (o.map dval) rfl HW.out _ rfl (z42 rfl) rfl hol2 (by decide) HX.out.size ?_; intro v1 w1 hown hg _; have HOW:=hid hown; have HG:=hid hg; clear hown hg)
    go_roundw
    case rel =>
     refine ⟨k + 1,(cc + (x + 0)) / 10,o ++ [(cc + (x + 0)) % 10],by omega,by go_num,congrArg (Value.int .i64) (by omega),by omega,hid (by simp [HOL.out]),hid (fun h => absurd h (by omega)),hid (z6w HO.out (Nat.mod_lt _ (by decide))),hid (z41 HOW.out (congrArg (Value.int .i64) (by omega))),z0n HX.out HG.out (fun q hq => (HW.out.lt q hq).1),hid ?_⟩
     exact z3x HOL.out HV.out (x + 0) (by rw [z0o HX1.out,z2n (l:=ys) (by omega)])
    case measure => simp only [intOf]; omega
  ·by_cases h2:k < ys.length
   ·obtain ⟨y,hy1⟩:=z01 h2
    obtain ⟨b2,o2,rfl,-,hn2,hm2,-,hyb,hc2⟩:=(HB.out.ext hx hS).cellAt hy1
    have HY1:=hid hy1
    clear hy1 hx
    go_wp2_with (at_builtin; refine z0l _ rfl (.tmp 44) (.tmp 47) 100 rfl w.heap.size 3 (.int .i64 0) 1 8 Tryz.underlying100 Tryz.infoInt rfl (by decide) _ o.length (o.map dval) rfl HW.out _ rfl (z42 rfl) rfl hol2 (by decide) HX.out.size ?_; intro v1 w1 hown hg _; have HOW:=hid hown; have HG:=hid hg; clear hown hg)
    go_roundw
    case rel =>
     refine ⟨k + 1,(cc + (0 + y)) / 10,o ++ [(cc + (0 + y)) % 10],by omega,by go_num,congrArg (Value.int .i64) (by omega),by omega,hid (by simp [HOL.out]),hid (fun _ h => absurd h (by omega)),hid (z6w HO.out (Nat.mod_lt _ (by decide))),hid (z41 HOW.out (congrArg (Value.int .i64) (by omega))),z0n HX.out HG.out (fun q hq => (HW.out.lt q hq).1),hid ?_⟩
     exact z3x HOL.out HV.out (0 + y) (by rw [z2n (l:=xs) (by omega),z0o HY1.out])
    case measure => simp only [intOf]; omega
   ·clear hx
    by_cases h3:0 < cc
    ·have hkb:k ≤ xs.length ∨ k ≤ ys.length:=by
      rcases Nat.lt_or_ge xs.length k with g1 | g1
      ·rcases Nat.lt_or_ge ys.length k with g2 | g2
       ·have:=HZ.out g1 g2; omega
       ·exact .inr g2
      ·exact .inl g1
     go_wp2_with (at_builtin; refine z0l _ rfl (.tmp 44) (.tmp 47) 100 rfl w.heap.size 3 (.int .i64 0) 1 8 Tryz.underlying100 Tryz.infoInt rfl (by decide) _ o.length (o.map dval) rfl HW.out _ rfl (z42 rfl) rfl hol2 (by decide) HX.out.size ?_; intro v1 w1 hown hg _; have HOW:=hid hown; have HG:=hid hg; clear hown hg)
     go_roundw
     case rel =>
      refine ⟨k + 1,(cc + (0 + 0)) / 10,o ++ [(cc + (0 + 0)) % 10],by omega,by go_num,congrArg (Value.int .i64) (by omega),by omega,hid (by simp [HOL.out]),hid (fun _ _ => by omega),hid (z6w HO.out (Nat.mod_lt _ (by decide))),hid (z41 HOW.out (congrArg (Value.int .i64) (by omega))),z0n HX.out HG.out (fun q hq => (HW.out.lt q hq).1),hid ?_⟩
      exact z3x HOL.out HV.out (0 + 0) (by rw [z2n (l:=xs) (by omega),z2n (l:=ys) (by omega)])
     case measure => simp only [intOf]; omega
    ·obtain rfl:cc = 0:=by omega
     have hd:=zdy HW.out HO.out
     have HD:=hid hd
     obtain ⟨a1,c1,rfl⟩:=hd.form
     have HE:=hid (zrg HV.out (by omega) (by omega))
     clear hd
     go_wp2_with fail
     refine (zap _ o _ HD.out).mono ?_
     rintro e w' ⟨v',rfl,hu,rfl⟩
     have HU:=hid hu
     clear hu
     go_wp2
     all_goals
      go_ret
      exact ⟨_,rfl,by rw [← HE.out]; exact HU.out,HX.out⟩
theorem zn4 {S:Nat → Prop} (va vb:Value) (xs ys:List Nat) (w:World) (ha:Digs S w va xs) (hb:Digs S w vb ys) (hS:∀ k,S k → k < w.heap.size) (hr:xs.length ≤ 10000000) (hle:ys.length ≤ xs.length) (hge:val 10 ys ≤ val 10 xs) :
  Calls Tryz.prog 107 #[va,vb] w fun e w' => ∃ v',e = .returned v' ∧ Digs (New w w') w' v' (rep 10 (val 10 xs - val 10 ys)) ∧ Ext w w':=by
 have HA:=hid ha
 have HB:=hid hb
 have HGE:=hid hge
 obtain ⟨aa,ca,rfl⟩:=ha.form
 obtain ⟨ab,cb,rfl⟩:=hb.form
 clear ha hb hge
 go_enter Tryz.func107,Tryz.ntmps107
 go_wp2
 go_loopw [5,6,7] (fun x c i wr => ∃ (k cc:Nat) (o:List Nat),k ≤ xs.length ∧ i = .int .i64 k ∧ c = .int .i64 cc ∧ cc ≤ 1 ∧ Hid (o.length = k) ∧ Hid (∀ z ∈ o,z < 10) ∧ Hid (wr.ownsRow w.heap.size 3 1 x o.length (o.map dval)) ∧ Ext w wr ∧
  Hid (val 10 o + val 10 (ys.take k) = val 10 (xs.take k) + 10 ^ k * cc)) (fun _ _ i _ => xs.length - (intOf i).toNat)
 case atStart => exact ⟨0,0,[],by omega,rfl,rfl,by omega,hid rfl,hid (by simp),hid (World.ownsRow_nil _ _ _ _),Ext.refl _,hid (by simp [val])⟩
 case round =>
  obtain ⟨k,cc,o,hk,rfl,rfl,hcc,HOL,HO,HW,hx,HV⟩:=hrel
  have hol2:o.length ≤ 1000000000:=by have:=HOL.out; omega
  have HX:=hid hx
  by_cases h1:k < xs.length
  ·obtain ⟨x,hx1⟩:=z01 h1
   obtain ⟨b1,o1,rfl,-,hn1,hm1,-,hxb,hc1⟩:=(HA.out.ext hx hS).cellAt hx1
   have HX1:=hid hx1
   clear hx1
   by_cases h2:k < ys.length
   ·obtain ⟨y,hy1⟩:=z01 h2
    obtain ⟨b2,o2,rfl,-,hn2,hm2,-,hyb,hc2⟩:=(HB.out.ext hx hS).cellAt hy1
    have HY1:=hid hy1
    clear hy1 hx
    by_cases hs:y + cc ≤ x
    ·go_wp2_with (at_builtin; refine z0l _ rfl (.tmp 35) (.tmp 37) 100 rfl w.heap.size 3 (.int .i64 0) 1 8 Tryz.underlying100 Tryz.infoInt rfl (by decide) _ o.length (o.map dval) rfl HW.out _ rfl (z42 rfl) rfl hol2 (by decide) HX.out.size ?_; intro v1 w1 hown hg _; have HOW:=hid hown; have HG:=hid hg; clear hown hg)
     go_roundw
     case rel =>
      refine ⟨k + 1,0,o ++ [x - y - cc],by omega,by go_num,rfl,by omega,hid (by simp [HOL.out]),hid (z6w HO.out (by omega)),hid (z41 HOW.out (congrArg (Value.int .i64) (by omega))),z0n HX.out HG.out (fun q hq => (HW.out.lt q hq).1),hid ?_⟩
      exact z58 HOL.out HV.out _ _ (by rw [z0o HX1.out,z0o HY1.out]; omega)
     case measure => simp only [intOf]; omega
    ·go_wp2_with (at_builtin; refine z0l _ rfl (.tmp 35) (.tmp 37) 100 rfl w.heap.size 3 (.int .i64 0) 1 8 Tryz.underlying100 Tryz.infoInt rfl (by decide) _ o.length (o.map dval) rfl HW.out _ rfl (z42 rfl) rfl hol2 (by decide) HX.out.size ?_; intro v1 w1 hown hg _; have HOW:=hid hown; have HG:=hid hg; clear hown hg)
     go_roundw
     case rel =>
      refine ⟨k + 1,1,o ++ [x + 10 - y - cc],by omega,by go_num,rfl,by omega,hid (by simp [HOL.out]),hid (z6w HO.out (by omega)),hid (z41 HOW.out (congrArg (Value.int .i64) (by omega))),z0n HX.out HG.out (fun q hq => (HW.out.lt q hq).1),hid ?_⟩
      exact z58 HOL.out HV.out _ _ (by rw [z0o HX1.out,z0o HY1.out]; omega)
     case measure => simp only [intOf]; omega
   ·clear hx
    by_cases hs:cc ≤ x
    ·go_wp2_with (at_builtin; refine z0l _ rfl (.tmp 35) (.tmp 37) 100 rfl w.heap.size 3 (.int .i64 0) 1 8 Tryz.underlying100 Tryz.infoInt rfl (by decide) _ o.length (o.map dval) rfl HW.out _ rfl (z42 rfl) rfl hol2 (by decide) HX.out.size ?_; intro v1 w1 hown hg _; have HOW:=hid hown; have HG:=hid hg; clear hown hg)
     go_roundw
     case rel =>
      refine ⟨k + 1,0,o ++ [x - 0 - cc],by omega,by go_num,rfl,by omega,hid (by simp [HOL.out]),hid (z6w HO.out (by omega)),hid (z41 HOW.out (congrArg (Value.int .i64) (by omega))),z0n HX.out HG.out (fun q hq => (HW.out.lt q hq).1),hid ?_⟩
      exact z58 HOL.out HV.out _ _ (by rw [z0o HX1.out,z2n (l:=ys) (by omega)]; omega)
     case measure => simp only [intOf]; omega
    ·go_wp2_with (at_builtin; refine z0l _ rfl (.tmp 35) (.tmp 37) 100 rfl w.heap.size 3 (.int .i64 0) 1 8 Tryz.underlying100 Tryz.infoInt rfl (by decide) _ o.length (o.map dval) rfl HW.out _ rfl (z42 rfl) rfl hol2 (by decide) HX.out.size ?_; intro v1 w1 hown hg _; have HOW:=hid hown; have HG:=hid hg; clear hown hg)
     go_roundw
     case rel =>
      refine ⟨k + 1,1,o ++ [x + 10 - 0 - cc],by omega,by go_num,rfl,by omega,hid (by simp [HOL.out]),hid (z6w HO.out (by omega)),hid (z41 HOW.out (congrArg (Value.int .i64) (by omega))),z0n HX.out HG.out (fun q hq => (HW.out.lt q hq).1),hid ?_⟩
      exact z58 HOL.out HV.out _ _ (by rw [z0o HX1.out,z2n (l:=ys) (by omega)]; omega)
     case measure => simp only [intOf]; omega
  ·obtain rfl:k = xs.length:=by omega
   have hd:=zdy HW.out HO.out
   have HD:=hid hd
   obtain ⟨a1,c1,rfl⟩:=hd.form
   have HE:Hid (val 10 o = val 10 xs - val 10 ys):=by
    have h1:=HV.out
    rw [List.take_of_length_le hle,List.take_length] at h1
    exact hid (zmd HO.out HOL.out HGE.out h1)
   clear hd hx
   go_wp2_with fail
   refine (zap _ o _ HD.out).mono ?_
   rintro e w' ⟨v',rfl,hu,rfl⟩
   have HU:=hid hu
   clear hu
   go_wp2
   all_goals
    go_ret
    exact ⟨_,rfl,by rw [← HE.out]; exact HU.out,HX.out⟩
end
section
open Go.RowKit
theorem World.rowIs.drewN {w:World} {g n:Nat} {T:TypeId} {f:Nat → Value} (h:w.rowIs g T n f) (q:Nat):(w.drewN q).rowIs g T n f:=h
theorem ziv {o:List Nat} {p cc u X:Nat} (hp:p < o.length) (h:val 10 o + 10 ^ p * cc = X):val 10 (o.set p ((cc + dg o p + u) % 10)) + 10 ^ (p + 1) * ((cc + dg o p + u) / 10) = X + 10 ^ p * u:=by
 have h1:=zhj (B:=10) o p ((cc + dg o p + u) % 10) hp
 have h2:=congrArg (10 ^ p * ·) (Nat.mod_add_div (cc + dg o p + u) 10)
 simp only [Nat.mul_add] at h2
 rw [Nat.pow_succ,Nat.mul_assoc]
 omega
theorem zuw {B:Nat} {o:List Nat} {p z:Nat} (h:∀ x ∈ o,x < B) (hz:z < B):∀ x ∈ o.set p z,x < B:=by
 intro x hx
 rcases List.mem_or_eq_of_mem_set hx with h1 | h1
 ·exact h x h1
 ·rw [h1]; exact hz
theorem zfp {o:List Nat} {p j z:Nat} (h:j ≠ p):dg (o.set p z) j = dg o j:=by
 unfold dg
 rw [List.getElem?_set_ne (fun e => h e.symm)]
def zhp (V d Y i:Nat):Nat:=V + 10 ^ i * (d * Y)
theorem zd5 {V d i k:Nat} {ys:List Nat}:zhp V d (val 10 (ys.take k)) i + 10 ^ (i + k) * (d * dg ys k) = zhp V d (val 10 (ys.take (k + 1))) i:=by
 unfold zhp
 rw [z1s,Nat.pow_add,Nat.mul_add,Nat.mul_add,Nat.mul_assoc,← Nat.mul_assoc d,Nat.mul_comm d (10 ^ k),Nat.mul_assoc]
 omega
theorem zn5 {xs:List Nat} {i x Y:Nat} (hx:xs[i]? = some x):zhp (val 10 (xs.take i) * Y) x Y i = val 10 (xs.take (i + 1)) * Y:=by
 unfold zhp
 rw [z3k hx,Nat.add_mul,Nat.mul_assoc]
theorem zn6 {xs ys o:List Nat} {i:Nat} (hx:∀ z ∈ xs,z < 10) (hy:∀ z ∈ ys,z < 10) (hi:i ≤ xs.length) (h:val 10 o = val 10 (xs.take i) * val 10 ys):∀ j,i + ys.length ≤ j → dg o j = 0:=by
 intro j hj
 by_cases hjl:j < o.length
 ·refine z83 (B:=10) (k:=i + ys.length) (by decide) ?_ j hj hjl
  rw [h,Nat.pow_add]
  have h1:=z1k (xs.take i) (fun z hz => hx z (List.mem_of_mem_take hz))
  rw [List.length_take,Nat.min_eq_left hi] at h1
  have h2:=z1k ys hy
  exact Nat.mul_lt_mul'' h1 h2
 ·exact z2n (by omega)
theorem zvp {S:Nat → Prop} (va vb:Value) (xs ys:List Nat) (w:World) (ha:Digs S w va xs) (hb:Digs S w vb ys) (hS:∀ k,S k → k < w.heap.size) (hr:xs.length ≤ 10000000) (hr2:ys.length ≤ 10000000) :
  Calls Tryz.prog 105 #[va,vb] w fun e w' => ∃ v',e = .returned v' ∧ Digs (New w w') w' v' (rep 10 (val 10 xs * val 10 ys)) ∧ Ext w w':=by
 have HA:=hid ha
 have HB:=hid hb
 have HLA:=hid ha.lt
 have HLB:=hid hb.lt
 obtain ⟨aa,ca,rfl⟩:=ha.form
 obtain ⟨ab,cb,rfl⟩:=hb.form
 clear ha hb
 have hmk:=run_make_row' (P:=Tryz.prog) 100 3 (.int .i64 0) 8 Tryz.underlying100 Tryz.infoInt rfl .i64 .i64 (xs.length + ys.length + 1) (by omega) (by omega) w
 rw [show ((xs.length + ys.length + 1:Nat):Int) = (xs.length:Int) + (ys.length:Int) + 1 by omega] at hmk
 obtain ⟨L,hL⟩:∃ L,L = xs.length + ys.length + 1:=⟨_,rfl⟩
 have hLI:(xs.length:Int) + (ys.length:Int) + 1 = (L:Int):=by omega
 rw [← hL,hLI] at hmk
 have HR:=hid (zd4 w L 3)
 have HE:=hid (Ext.alloc (Ext.refl w) (.cells (madeCells #[.int .i64 0] L) 3))
 have HL:=hid hL
 have hLb:L ≤ 20000001:=by omega
 have hLa:xs.length < L:=by omega
 clear hL
 go_enter Tryz.func105,Tryz.ntmps105
 go_wp2
 go_loopw [6] (fun i wr => ∃ (n:Nat) (o:List Nat),n ≤ xs.length ∧ i = .int .i64 n ∧ Hid (o.length = L) ∧ Hid (∀ z ∈ o,z < 10) ∧ Hid (wr.rowIs w.heap.size 3 L (rowD o)) ∧ Ext w wr ∧ Hid (val 10 o = val 10 (xs.take n) * val 10 ys)) (fun i _ => xs.length - (intOf i).toNat)
 case atStart => exact ⟨0,List.replicate L 0,Nat.zero_le _,rfl,hid (by simp),hid (by simp),HR,HE.out,hid (by simp [z5s,val])⟩
 case round =>
  obtain ⟨n,o,hn,rfl,HOL,HO,HROW,hx,HV⟩:=hrel
  by_cases hlt:n < xs.length
  ·obtain ⟨x,hx1⟩:=z01 hlt
   obtain ⟨b1,o1,rfl,-,hn1,hm1,hS1,hxb,hc1⟩:=HA.out.cellAt hx1
   have HX1:=hid hx1
   have HC1:=hid hc1
   have HX:=hid hx
   have HAB:=hid (zn6 HLA.out HLB.out hn HV.out)
   have hLn:n + ys.length + 1 ≤ L:=by have:=HL.out; omega
   obtain ⟨wo,rfl⟩:∃ wo:World,wo = wr:=⟨_,rfl⟩
   clear hx1 hc1 hx
   go_wp2
   go_loopw [7,8] (fun c kk wr => ∃ (k cc:Nat) (o:List Nat),k ≤ ys.length + 1 ∧ kk = .int .i64 k ∧ c = .int .i64 cc ∧ cc ≤ 9 ∧ Hid (ys.length < k → cc = 0) ∧ Hid (o.length = L) ∧ Hid (∀ z ∈ o,z < 10) ∧ Hid (wr.rowIs w.heap.size 3 L (rowD o)) ∧ Ext w wr ∧
    Hid (k ≤ ys.length → ∀ j,n + ys.length ≤ j → dg o j = 0) ∧ Hid (val 10 o + 10 ^ (n + k) * cc = zhp (val 10 (xs.take n) * val 10 ys) x (val 10 (ys.take k)) n)) (fun _ kk _ => ys.length + 1 - (intOf kk).toNat)
   case atStart => exact ⟨0,0,o,Nat.zero_le _,rfl,rfl,by omega,hid (fun h => absurd h (by omega)),HOL,HO,HROW,HX.out,hid (fun _ => HAB.out),hid (by rw [HV.out]; simp [zhp,val])⟩
   case round =>
    obtain ⟨k,cc,o,hk,rfl,rfl,hcc,HZ,HOL,HO,HROW,hx,HAB,HV⟩:=hrel
    have HX:=hid hx
    have hc1:=hx.cell HC1.out
    by_cases h2:k < ys.length
    ·obtain ⟨y,hy1⟩:=z01 h2
     obtain ⟨b2,o2,rfl,-,hn2,hm2,-,hyb,hc2⟩:=(HB.out.ext hx hS).cellAt hy1
     have HY1:=hid hy1
     have hpl:n + k < L:=by omega
     have hcs:=HROW.out.cell (i:=n + k) hpl
     have hfs:=HROW.out.frozen (n + k)
     have hdg:=zk4 (B:=10) (by decide) HO.out (n + k)
     obtain ⟨s,hs⟩:∃ s,s = dg o (n + k):=⟨_,rfl⟩
     obtain ⟨p,hp⟩:∃ p:Nat,p = x * y:=⟨_,rfl⟩
     have hpb:p ≤ 9 * 9:=by rw [hp]; exact Nat.mul_le_mul (by omega) (by omega)
     have hmul:(x:Int) * (y:Int) = (p:Int):=by rw [hp]; simp
     unfold rowD dval at hcs
     rw [← hs] at hcs hdg
     have HS:=hid hs
     have HP:=hid hp
     clear hy1 hs hp hx
     go_wp2
     go_quiet (fail)
     go_wp2
     go_roundw
     case rel =>
      have hpl2:n + k < o.length:=by rw [HOL.out]; exact hpl
      have hst:=zdz (World.rowIs.drewN HROW.out nq) (n + k) ((cc + s + p) % 10) hpl2
      refine ⟨k + 1,(cc + s + p) / 10,o.set (n + k) ((cc + s + p) % 10),by omega,by go_num,congrArg (Value.int .i64) (by omega),by omega,hid (fun h => absurd h (by omega)),hid (by simpa using HOL.out),hid (zuw HO.out (Nat.mod_lt _ (by decide))),hid ?_,(HX.out.drewN nq).setCell (p:=⟨w.heap.size,n + k,none⟩) (Nat.le_refl _) _,hid (fun _ j hj => ?_),hid ?_⟩
      ·refine cast (congrArg (fun e => World.rowIs (World.setCell (wr.drewN nq) ⟨w.heap.size,n + k,none⟩ (Value.int .i64 e)) _ _ _ _) ?_) hst
       omega
      ·rw [zfp (by omega)]
       exact HAB.out (by omega) j hj
      ·have h1:=ziv (u:=p) hpl2 HV.out
       rw [← HS.out] at h1
       rw [show n + (k + 1) = n + k + 1 by omega,h1,HP.out,← z0o HY1.out]
       exact zd5
     case measure => simp only [intOf]; omega
    ·have hk0:ys.length ≤ k:=by omega
     clear hx
     by_cases h3:0 < cc
     ·have hke:k = ys.length:=by
       rcases Nat.lt_or_ge ys.length k with g1 | g1
       ·have:=HZ.out g1; omega
       ·omega
      have hpl:n + k < L:=by omega
      have hcs:=HROW.out.cell (i:=n + k) hpl
      have hfs:=HROW.out.frozen (n + k)
      have hs0:dg o (n + k) = 0:=HAB.out (by omega) _ (by omega)
      unfold rowD dval at hcs
      rw [hs0] at hcs
      have HS:=hid hs0
      have HKE:=hid hke
      clear hs0 hke
      go_wp2
      go_roundw
      case rel =>
       have hpl2:n + k < o.length:=by rw [HOL.out]; exact hpl
       have hst:=zdz HROW.out (n + k) ((cc + 0 + 0) % 10) hpl2
       refine ⟨k + 1,(cc + 0 + 0) / 10,o.set (n + k) ((cc + 0 + 0) % 10),by have:=HKE.out; omega,by go_num,congrArg (Value.int .i64) (by omega),by omega,hid (fun _ => by omega),hid (by simpa using HOL.out),hid (zuw HO.out (Nat.mod_lt _ (by decide))),hid ?_,HX.out.setCell (p:=⟨w.heap.size,n + k,none⟩) (Nat.le_refl _) _,hid (fun h => absurd h (by have:=HKE.out; omega)),hid ?_⟩
       ·refine cast (congrArg (fun e => World.rowIs (World.setCell wr ⟨w.heap.size,n + k,none⟩ (Value.int .i64 e)) _ _ _ _) ?_) hst
        omega
       ·have h1:=ziv (u:=0) hpl2 HV.out
        rw [HS.out] at h1
        rw [show n + (k + 1) = n + k + 1 by omega,h1,← zd5,(z2n hk0:dg ys k = 0)]
        simp
      case measure => have:=HKE.out; simp only [intOf]; omega
     ·obtain rfl:cc = 0:=by omega
      go_wp2
      go_roundw
      case rel =>
       refine ⟨n + 1,o,by omega,by go_num,HOL,HO,HROW,HX.out,hid ?_⟩
       have h1:=HV.out
       rw [List.take_of_length_le hk0,zn5 HX1.out] at h1
       simpa using h1
      case measure => simp only [intOf]; omega
  ·obtain rfl:n = xs.length:=by omega
   have HX:=hid hx
   have hd:=Digs.of_row HROW.out HOL.out HO.out (by omega)
   have HD:=hid hd
   have HV0:Hid (val 10 o = val 10 xs * val 10 ys):=hid (by simpa using HV.out)
   clear hx hd
   go_wp2_with fail
   refine (zap _ o _ HD.out).mono ?_
   rintro e w' ⟨v',rfl,hu,rfl⟩
   have HU:=hid hu
   clear hu
   go_wp2
   all_goals
    go_ret
    refine ⟨_,rfl,?_,HX.out⟩
    rw [← HV0.out]
    refine HU.out.to (Kept.refl _ _) (fun k hk => ?_)
    subst hk
    exact ⟨Nat.le_refl _,HROW.out.lt⟩
end
section
open Go.RowKit
theorem zfq {S:Nat → Prop} (v:Value) (zs:List Nat) (w:World) (h:U32s S w v zs) (hS:∀ k,S k → k < w.heap.size) (hr:zs.length ≤ 50000000000000) :
  Calls Tryz.prog 126 #[v] w fun e w' => ∃ g,e = .returned (.slice (some ⟨g,0,none⟩) (rep B32 (val B32 zs)).length (rep B32 (val B32 zs)).length) ∧ w.heap.size ≤ g ∧ g < w'.heap.size ∧
   w'.rowIs g 74 (rep B32 (val B32 zs)).length (rowU (rep B32 (val B32 zs))) ∧ Ext w w':=by
 have hle:(rep B32 (val B32 zs)).length ≤ zs.length:=z0f z00 _ _ (z1k zs h.lt)
 have H:=hid h
 obtain ⟨a,cap,rfl⟩:=h.form
 clear h
 have hmk:=fun (n:Nat) (hn:n ≤ 50000000000000) (W:World) => run_make_row' (P:=Tryz.prog) 28 74 (.int .u32 0) 4 Tryz.underlying28 Tryz.infoU32 rfl .i64 .i64 n (by omega) (by omega) W
 go_enter Tryz.func126,Tryz.ntmps126
 go_wp2_with fail
 refine (z29 _ zs _ H.out).mono ?_
 rintro e w' ⟨v',rfl,hu,rfl⟩
 generalize hR:rep B32 (val B32 zs) = R at hu hle
 have HR:=hid hR
 have HU:=hid hu
 obtain ⟨a',c',rfl⟩:=hu.form
 have hmk1:=hmk R.length (by omega) w
 have HA:=hid (Ext.alloc (Ext.refl w) (.cells (madeCells #[.int .u32 0] R.length) 74))
 have HUA:=hid (HU.out.to (Kept.alloc hS (.cells (madeCells #[.int .u32 0] R.length) 74)) (fun _ h => h))
 have hc':=HU.out.len_le
 clear hR hu hmk
 go_wp2_with (refine wpList_copy_splice (by rfl) (.tmp 9) (.tmp 10) 28 28 (by rfl) 74 Tryz.underlying28 (by kernel_rfl) (some ⟨w.heap.size,0,none⟩) a' R.length R.length R.length c' (by rfl) (by rfl) w.heap.size 0 (List.replicate R.length (.int .u32 0)) 74 (by rw [heap_alloc_new,zfe]) (R.map uval) (by simp) (fun hp => ⟨rfl,HUA.out.src hp⟩) (by simp) (by intro v hv; obtain ⟨z,_,rfl⟩:=List.mem_map.1 hv; rfl) w.heap.size w HA.out (Nat.le_refl _) ?_; intro w2 hg hb)
 have HG:=hid hg
 have HB:=hid hb
 clear hg hb
 go_wp2
 go_ret
 rw [HR.out]
 have hg:=HG.out.out
 rw [zd1 _ _ (by simp)] at hg
 refine ⟨_,rfl,Nat.le_refl _,(Array.getElem?_eq_some_iff.1 hg).1,⟨_,hg,by simp,fun i hi => ?_⟩,HB.out⟩
 rw [List.getElem?_toArray,List.getElem?_map,List.getElem?_eq_getElem hi]
 show some (uval R[i]) = some (Value.int .u32 (dg R i:Nat))
 rw [z0o (List.getElem?_eq_getElem hi)]
 rfl
theorem zn7 {d m r x Q:Nat} {R o:List Nat} (hd:0 < d) (hm:m < o.length) (hx:dg R m = x) (hq:val B32 (o.drop (m + 1)) = Q) (hr:r < d) (hx2:x < B32) (h:val B32 (R.drop (m + 1)) = d * Q + r) :
  (r * B32 + x) / d < B32 ∧ val B32 (R.drop m) = d * val B32 ((o.set m ((r * B32 + x) / d)).drop m) + (r * B32 + x) % d:=by
 refine ⟨Nat.div_lt_of_lt_mul ?_,?_⟩
 ·have h1:(r + 1) * B32 ≤ d * B32:=Nat.mul_le_mul_right _ hr
  rw [Nat.add_mul,Nat.one_mul] at h1
  omega
 ·rw [z1b R m,h,hx,z1b (o.set m _) m]
  have e1:dg (o.set m ((r * B32 + x) / d)) m = (r * B32 + x) / d:=by unfold dg; rw [List.getElem?_set]; simp [hm]
  have e2:(o.set m ((r * B32 + x) / d)).drop (m + 1) = o.drop (m + 1):=by rw [List.drop_set_of_lt (by omega)]
  rw [e1,e2,hq]
  have e3:=Nat.div_add_mod (r * B32 + x) d
  rw [Nat.mul_add,Nat.mul_add,Nat.mul_left_comm d B32 Q]
  have e4:B32 * r = r * B32:=Nat.mul_comm _ _
  omega
theorem zrh {S:Nat → Prop} (v:Value) (zs:List Nat) (d:Nat) (w:World) (h:U32s S w v zs) (hS:∀ k,S k → k < w.heap.size) (hr:zs.length ≤ 1000000000000) (hd:0 < d) (hd2:d < B32) :
  Calls Tryz.prog 151 #[v,.int .u32 (d:Nat)] w fun e w' => ∃ v',e = .returned (.tuple #[v',.int .u32 (val B32 zs % d:Nat),.int .i64 0]) ∧ U32s (New w w') w' v' (rep B32 (val B32 zs / d)) ∧ Ext w w':=by
 have hle:(rep B32 (val B32 zs)).length ≤ zs.length:=z0f z00 _ _ (z1k zs h.lt)
 have H:=hid h
 clear h
 have hd0:(d:Int) ≠ 0:=by omega
 have hd64:IntKind.u64.wrap (d:Int) = (d:Int):=z0w (Nat.lt_trans hd2 (by decide))
 have HD:=hid (And.intro hd hd2)
 clear hd hd2
 go_enter Tryz.func151,Tryz.ntmps151
 go_wp2_with fail
 refine (zfq _ zs _ H.out hS (by omega)).mono ?_
 rintro e w1 ⟨g,rfl,hg1,hg2,hrow,hx⟩
 obtain ⟨L,hL⟩:∃ L,L = (rep B32 (val B32 zs)).length:=⟨_,rfl⟩
 rw [← hL] at hrow hle ⊢
 obtain ⟨V,hV⟩:∃ V,V = val B32 zs:=⟨_,rfl⟩
 rw [← hV] at hrow hL
 have HL:=hid hL
 have HV:=hid hV
 have HX1:=hid hx
 have HR1:=hid hrow
 have HS1:=hid hx.size
 clear hL hV hx hrow
 go_wp2
 go_loopw [7,16] (fun s7 s16 wr => ∃ (i r:Nat) (o:List Nat),s7 = .int .u64 (r:Nat) ∧ s16 = .int .i64 (i:Nat) ∧ i ≤ L ∧ Hid (r < d ∧ o.length = L ∧ (∀ z ∈ o,z < B32) ∧ (∀ j,j < L - i → dg o j = dg (rep B32 V) j) ∧ val B32 ((rep B32 V).drop (L - i)) = d * val B32 (o.drop (L - i)) + r) ∧
  wr.rowIs g 74 L (rowU o) ∧ Ext w wr) (fun s7 s16 _ => L - (intOf s16).toNat)
 case atStart =>
  refine ⟨0,0,rep B32 V,rfl,rfl,Nat.zero_le _,hid ⟨HD.out.1,HL.out.symm,z3q z00 V,fun _ _ => rfl,?_⟩,HR1.out,HX1.out⟩
  rw [List.drop_eq_nil_of_le (by rw [← HL.out]; omega)]
  rfl
 case round =>
  obtain ⟨i,r,o,rfl,rfl,hi,HI,hrow,hx⟩:=hrel
  have HR:=hid hrow
  have HX:=hid hx
  by_cases hlt:i < L
  ·obtain ⟨m,hm⟩:∃ m,m + 1 = L - i:=⟨L - i - 1,by omega⟩
   have hm2:(L:Int) - 1 - (i:Int) = (m:Int):=by omega
   obtain ⟨x,hx1⟩:=z01 (l:=rep B32 V) (j:=m) (by rw [← HL.out]; omega)
   have hxd:=z0o hx1
   have hxb:x < 4294967296:=z3q z00 V x (List.mem_of_getElem? hx1)
   have hc1:wr.cell? ⟨g,m,none⟩ = some (.int .u32 (x:Nat)):=by
    rw [hrow.cell (i:=m) (by omega)]
    show some (Value.int .u32 (dg o m:Nat)) = _
    rw [HI.out.2.2.2.1 m (by omega),hxd]
   have hf1:=hrow.frozen m
   have hx64:IntKind.u64.wrap (x:Int) = (x:Int):=z0w (Nat.lt_trans hxb (by decide))
   have hrb:r < 4294967296:=Nat.lt_trans HI.out.1 HD.out.2
   have hor:=zan r x hrb hxb
   obtain ⟨t,ht⟩:∃ t,t = r * 4294967296 + x:=⟨_,rfl⟩
   rw [← ht] at hor
   have hsh:IntKind.u64.wrap ((r:Int) * 4294967296) = (r:Int) * 4294967296:=by rw [IntKind.wrap_u64]; omega
   have HT:=hid ht
   have HXD:=hid hxd
   have HXB:=hid hxb
   have hi0:0 ≤ (L:Int) - 1 - (i:Int):=by omega
   have hml:(m:Int) < (L:Int):=by omega
   clear hrow hx hx1 hxd hxb hrb ht
   go_wp2
   obtain ⟨HI1,HI2,HI3,HI4,HI5⟩:=HI.out
   rw [← hm] at HI5
   obtain ⟨q1,q2⟩:=zn7 (o:=o) HD.out.1 (by omega) HXD.out rfl HI1 HXB.out HI5
   have ht:=HT.out
   have q1':t / d < 4294967296:=by rw [ht]; exact q1
   have e1:IntKind.u64.wrap ((t:Int) / (d:Int)) % 4294967296 = ((t / d:Nat):Int):=by
    rw [← Int.natCast_ediv,z0w (Nat.lt_trans q1' (by decide))]
    generalize t / d = q at q1'
    omega
   rw [e1]
   refine ⟨⟨i + 1,t % d,o.set m (t / d),by rw [Int.natCast_emod],rfl,by omega,hid ⟨Nat.mod_lt _ HD.out.1,by simp [HI2],?_,?_,?_⟩,z5d HR.out m (t / d) (by omega),HX.out.setCell hg1 _⟩,?_⟩
   ·intro z hz
    rcases List.mem_or_eq_of_mem_set hz with h1 | h1
    ·exact HI3 z h1
    ·rw [h1]; exact q1'
   ·intro j hj
    rw [zfp (by omega),HI4 j (by omega)]
   ·rw [show L - (i + 1) = m by omega,ht]
    exact q2
   ·simp only [intOf]; omega
  ·obtain rfl:i = L:=by omega
   obtain ⟨HI1,HI2,HI3,HI4,HI5⟩:=HI.out
   rw [Nat.sub_self,List.drop_zero,List.drop_zero,z0d z00] at HI5
   have hq:val B32 o = V / d:=by rw [HI5,Nat.mul_add_div HD.out.1,Nat.div_eq_of_lt HI1,Nat.add_zero]
   have hm:r = V % d:=by rw [HI5,Nat.mul_add_mod,Nat.mod_eq_of_lt HI1]
   have hu:U32s (fun k => k = g) wr (.slice (some ⟨g,0,none⟩) i i) o:=by
    have h1:=U32s.of_row hrow (by omega) HI3 (by omega)
    rwa [HI2] at h1
   have CS:=hid (z23 _ _ _ hu (fun k hk => by rw [hk]; exact hrow.lt) (by omega))
   rw [hq] at CS
   have hr32:(r:Int) % 4294967296 = (r:Int):=by have h1:r < 4294967296:=Nat.lt_trans HI1 HD.out.2; omega
   have HM:=hid hm
   clear hrow hx HI1 HI2 HI3 HI4 HI5 hq hm hu
   go_wp2_with fail
   refine CS.out.mono ?_
   rintro e w' ⟨v',rfl,hu,hx2⟩
   have H2:=hid hu
   have HX2:=hid hx2
   clear hu hx2
   go_wp2
   all_goals
    go_ret3
    rw [← HV.out,← HM.out]
    exact ⟨_,rfl,H2.out.to (Kept.refl _ _) (fun k hk => ⟨Nat.le_trans HX.out.size hk.1,hk.2⟩),HX.out.trans HX2.out⟩
end
section
open Go.RowKit
theorem zri:∀ i:Fin 256,0 < i.val → 1 ≤ (tab8.get! i.val).toNat ∧ (tab8.get! i.val).toNat ≤ 8 ∧ 2 ^ ((tab8.get! i.val).toNat - 1) ≤ i.val ∧ i.val < 2 ^ (tab8.get! i.val).toNat:=by decide +kernel
theorem zvq (x:Int) (h0:0 < x) (h1:x < 256) (h:x.toNat < tab8.size):1 ≤ (tab8[x.toNat]'h).toNat ∧ (tab8[x.toNat]'h).toNat ≤ 8 ∧ 2 ^ ((tab8[x.toNat]'h).toNat - 1) ≤ x.toNat ∧ x.toNat < 2 ^ (tab8[x.toNat]'h).toNat:=by
 have:=zri ⟨x.toNat,by omega⟩
 have e:tab8.get! x.toNat = tab8[x.toNat]'h:=by
  have h2:x.toNat < tab8.data.size:=h
  show tab8.data[x.toNat]! = tab8.data[x.toNat]'h2
  exact getElem!_pos _ _ _
 simp only [e] at this
 exact this (by omega)
theorem ze0 (x:Int) (h0:0 < x) (h1:x < 256) (h:x.toNat < tab8.size) (t:Nat) (hv:(tab8[x.toNat]'h).toNat = t):1 ≤ t ∧ t ≤ 8 ∧ 2 ^ (t - 1) ≤ x.toNat ∧ x.toNat < 2 ^ t:=by
 subst hv
 exact zvq x h0 h1 h
theorem ziw {x i t j:Nat} (hi:x / 2 ^ j = i) (h1:1 ≤ t) (h2:2 ^ (t - 1) ≤ i) (h3:i < 2 ^ t):2 ^ (t + j - 1) ≤ x ∧ x < 2 ^ (t + j):=by
 have hP:0 < 2 ^ j:=Nat.pow_pos (by decide)
 subst hi
 refine ⟨?_,?_⟩
 ·rw [show t + j - 1 = (t - 1) + j by omega,Nat.pow_add]
  exact Nat.le_trans (Nat.mul_le_mul_right _ h2) (Nat.div_mul_le_self _ _)
 ·rw [Nat.pow_add,← Nat.div_lt_iff_lt_mul hP]
  exact h3
theorem zrj (x:Int) (w:World) (h0:0 < x) (h1:x < 4294967296) :
  Calls Tryz.prog 114 #[.int .u32 x] w fun e w' => ∃ k:Nat,e = .returned (.int .i64 (k:Nat)) ∧ 1 ≤ k ∧ k ≤ 32 ∧ 2 ^ (k - 1) ≤ x.toNat ∧ x.toNat < 2 ^ k ∧ w = w':=by
 go_enter Tryz.func114,Tryz.ntmps114
 rcases (show 16777216 ≤ x ∨ 65536 ≤ x ∧ x < 16777216 ∨ 256 ≤ x ∧ x < 65536 ∨ x < 256 by omega) with h | ⟨h,h'⟩ | ⟨h,h'⟩ | h
 ·go_wp2
  go_ret
  simp only [Array.getD_eq_getD_getElem?,List.getElem?_toArray,List.getElem?_cons_succ,List.getElem?_cons_zero,Option.getD_some]
  generalize hv:UInt8.toNat _ = t
  have hi:x.toNat / 2 ^ 24 = (x / 65536 / 256).toNat:=by show x.toNat / 16777216 = _; omega
  obtain ⟨h3,h4,h5,h6⟩:=ze0 (x / 65536 / 256) (by omega) (by omega) (by rw [z44]; omega) t hv
  clear hv
  have P:=hid (ziw hi h3 h5 h6)
  clear h5 h6 hi
  have e:wrap64 (24 + wrap64 (t:Int)) = ((t + 24:Nat):Int):=by unfold wrap64; omega
  exact ⟨t + 24,congrArg (fun n => Ending.returned (Value.int .i64 n)) e,by omega,by omega,P.out.1,P.out.2,trivial⟩
 ·go_wp2
  go_ret
  simp only [Array.getD_eq_getD_getElem?,List.getElem?_toArray,List.getElem?_cons_succ,List.getElem?_cons_zero,Option.getD_some]
  generalize hv:UInt8.toNat _ = t
  have hi:x.toNat / 2 ^ 16 = (x / 65536).toNat:=by show x.toNat / 65536 = _; omega
  obtain ⟨h3,h4,h5,h6⟩:=ze0 (x / 65536) (by omega) (by omega) (by rw [z44]; omega) t hv
  clear hv
  have P:=hid (ziw hi h3 h5 h6)
  clear h5 h6 hi
  have e:wrap64 (16 + wrap64 (t:Int)) = ((t + 16:Nat):Int):=by unfold wrap64; omega
  exact ⟨t + 16,congrArg (fun n => Ending.returned (Value.int .i64 n)) e,by omega,by omega,P.out.1,P.out.2,trivial⟩
 ·go_wp2
  go_ret
  simp only [Array.getD_eq_getD_getElem?,List.getElem?_toArray,List.getElem?_cons_succ,List.getElem?_cons_zero,Option.getD_some]
  generalize hv:UInt8.toNat _ = t
  have hi:x.toNat / 2 ^ 8 = (x / 256).toNat:=by show x.toNat / 256 = _; omega
  obtain ⟨h3,h4,h5,h6⟩:=ze0 (x / 256) (by omega) (by omega) (by rw [z44]; omega) t hv
  clear hv
  have P:=hid (ziw hi h3 h5 h6)
  clear h5 h6 hi
  have e:wrap64 (8 + wrap64 (t:Int)) = ((t + 8:Nat):Int):=by unfold wrap64; omega
  exact ⟨t + 8,congrArg (fun n => Ending.returned (Value.int .i64 n)) e,by omega,by omega,P.out.1,P.out.2,trivial⟩
 ·go_wp2
  go_ret
  simp only [Array.getD_eq_getD_getElem?,List.getElem?_toArray,List.getElem?_cons_succ,List.getElem?_cons_zero,Option.getD_some]
  generalize hv:UInt8.toNat _ = t
  have hi:x.toNat / 2 ^ 0 = x.toNat:=by show x.toNat / 1 = _; omega
  obtain ⟨h3,h4,h5,h6⟩:=ze0 x (by omega) (by omega) (by rw [z44]; omega) t hv
  clear hv
  have P:=hid (ziw hi h3 h5 h6)
  clear h5 h6 hi
  have e:wrap64 (wrap64 (t:Int)) = ((t + 0:Nat):Int):=by unfold wrap64; omega
  exact ⟨t + 0,congrArg (fun n => Ending.returned (Value.int .i64 n)) e,by omega,by omega,P.out.1,P.out.2,trivial⟩
theorem zhq {S:Nat → Prop} (v:Value) (zs:List Nat) (w:World) (h:U32s S w v zs) (hr:zs.length ≤ 50000000000000) (h0:0 < val B32 zs) :
  Calls Tryz.prog 84 #[v] w fun e w' => ∃ m k:Nat,e = .returned (.int .i64 (32 * m + k:Nat)) ∧ (rep B32 (val B32 zs)).length = m + 1 ∧ 1 ≤ k ∧ k ≤ 32 ∧ 2 ^ (k - 1) ≤ dg (rep B32 (val B32 zs)) m ∧ dg (rep B32 (val B32 zs)) m < 2 ^ k ∧ w = w':=by
 have hle:(rep B32 (val B32 zs)).length ≤ zs.length:=z0f z00 _ _ (z1k zs h.lt)
 have H:=hid h
 obtain ⟨a,c,rfl⟩:=h.form
 clear h
 go_enter Tryz.func84,Tryz.ntmps84
 go_wp2_with fail
 refine (z29 _ zs _ H.out).mono ?_
 rintro e w' ⟨v',rfl,hu,rfl⟩
 obtain ⟨n,hn⟩:∃ n,n = val B32 zs:=⟨_,rfl⟩
 rw [← hn] at hu hle h0
 have HN:=hid hn
 have HU:=hid hu
 obtain ⟨a',c',rfl⟩:=hu.form
 clear hu hn
 have hl:0 < (rep B32 n).length:=by
  rw [List.length_pos_iff,Ne,z2d z00]
  omega
 obtain ⟨m,hm⟩:∃ m,(rep B32 n).length = m + 1:=⟨(rep B32 n).length - 1,by omega⟩
 obtain ⟨z,hz⟩:=z01 (show m < (rep B32 n).length by omega)
 have hz0:0 < z:=by
  have h1:=zdq z00 n
  rw [List.getLast?_eq_getElem?,show (rep B32 n).length - 1 = m by omega,hz] at h1
  have:z ≠ 0:=fun e => h1 (by rw [e])
  omega
 obtain ⟨b,off,rfl,-,hn,hm2,-,hzb,hc⟩:=HU.out.cellAt hz
 have HM:=hid hm
 have HZ:=hid hz
 have hb:(((rep B32 n).length:Int) == 0) = false:=by rw [beq_eq_false_iff_ne]; omega
 have hi1:((rep B32 n).length:Int) - 1 = (m:Int):=by omega
 clear hz
 go_wp2_with fail
 refine (zrj z _ (by omega) (by omega)).mono ?_
 rintro e w' ⟨k,rfl,hk1,hk2,hk3,hk4,rfl⟩
 rw [Int.toNat_natCast] at hk3 hk4
 have HK:=hid (And.intro hk3 hk4)
 clear hk3 hk4
 go_wp2
 go_ret
 rw [← HN.out]
 refine ⟨m,k,congrArg (fun n => Ending.returned (Value.int .i64 n)) (by push_cast; rfl),HM.out,hk1,hk2,?_,?_,rfl⟩
 ·rw [z0o HZ.out]; exact HK.out.1
 ·rw [z0o HZ.out]; exact HK.out.2
theorem zrk {V m k:Nat} (hl:(rep B32 V).length = m + 1) (hk1:1 ≤ k) (hk2:k ≤ 32) (h1:2 ^ (k - 1) ≤ dg (rep B32 V) m) (h2:dg (rep B32 V) m < 2 ^ k) :
  (rep B32 (V * 2 ^ (32 - k))).length = m + 1 ∧ 2147483648 ≤ dg (rep B32 (V * 2 ^ (32 - k))) m:=by
 have hV:=z0d z00 V
 have hd:=z1b (B:=B32) (rep B32 V) m
 have hs:=z21 (B:=B32) (rep B32 V) m
 rw [hV,hl,show min m (m + 1) = m by omega,hd,List.drop_eq_nil_of_le (by omega),show val B32 [] = 0 from rfl,Nat.mul_zero,Nat.add_zero] at hs
 have hlow:val B32 ((rep B32 V).take m) < B32 ^ m:=by
  have h3:=z1k ((rep B32 V).take m) (fun z hz => z3q z00 V z (List.mem_of_mem_take hz))
  rwa [List.length_take,show min m (rep B32 V).length = m by omega] at h3
 generalize val B32 ((rep B32 V).take m) = lo at hs hlow
 generalize dg (rep B32 V) m = z at hs h1 h2
 have hP:0 < 2 ^ (32 - k):=Nat.pow_pos (by decide)
 have hB:2 ^ k * 2 ^ (32 - k) = B32:=by rw [← Nat.pow_add,show k + (32 - k) = 32 by omega]
 have hH:2 ^ (k - 1) * 2 ^ (32 - k) = 2147483648:=by rw [← Nat.pow_add,show k - 1 + (32 - k) = 31 by omega]
 have hup:V * 2 ^ (32 - k) < B32 ^ (m + 1):=by
  have h3:V < B32 ^ m * 2 ^ k:=by
   have h4:B32 ^ m * (z + 1) ≤ B32 ^ m * 2 ^ k:=Nat.mul_le_mul_left _ h2
   rw [Nat.mul_add,Nat.mul_one] at h4
   omega
  have h5:=Nat.mul_lt_mul_of_pos_right h3 hP
  rwa [Nat.mul_assoc,hB,← Nat.pow_succ] at h5
 have hdn:2147483648 * B32 ^ m ≤ V * 2 ^ (32 - k):=by
  have h3:B32 ^ m * 2 ^ (k - 1) ≤ V:=by
   have h4:B32 ^ m * 2 ^ (k - 1) ≤ B32 ^ m * z:=Nat.mul_le_mul_left _ h1
   omega
  have h5:=Nat.mul_le_mul_right (2 ^ (32 - k)) h3
  rwa [Nat.mul_assoc,hH,Nat.mul_comm] at h5
 have hBm:0 < B32 ^ m:=Nat.pow_pos (by decide)
 have hq:2147483648 ≤ V * 2 ^ (32 - k) / B32 ^ m:=(Nat.le_div_iff_mul_le hBm).2 hdn
 have hle:(rep B32 V).length ≤ (rep B32 (V * 2 ^ (32 - k))).length:=z1o (Nat.le_mul_of_pos_right _ hP)
 have hge:(rep B32 (V * 2 ^ (32 - k))).length ≤ m + 1:=z0f z00 _ _ hup
 refine ⟨by omega,?_⟩
 rw [zmu (by decide) _ (z3q z00 _),z0d z00,Nat.mod_eq_of_lt (Nat.div_lt_of_lt_mul (by rw [← Nat.pow_succ]; exact hup))]
 exact hq
end
section
open Go.RowKit
theorem zn8 {B:Nat} {u:List Nat} (hu:∀ z ∈ u,z < B) (k n:Nat):∀ z ∈ z2p u k n,z < B:=fun z hz => hu z (List.mem_of_mem_drop (List.mem_of_mem_take hz))
theorem zn9 {B:Nat} {u ps:List Nat} (hu:∀ z ∈ u,z < B) (hp:∀ z ∈ ps,z < B) (k:Nat):∀ z ∈ putL u k ps,z < B:=by
 intro z hz
 unfold putL at hz
 rcases List.mem_append.1 hz with h | h
 ·rcases List.mem_append.1 h with h | h
  ·exact hu z (List.mem_of_mem_take h)
  ·exact hp z h
 ·exact hu z (List.mem_of_mem_drop h)
theorem ze1 {B:Nat} {u:List Nat} (hu:∀ z ∈ u,z < B) {k q:Nat} (hq:q < B):∀ z ∈ u.set k q,z < B:=by
 intro z hz
 rcases List.mem_or_eq_of_mem_set hz with h1 | h1
 ·exact hu z h1
 ·rw [h1]; exact hq
theorem zrl {u ps:List Nat} {k n:Nat} (hk:k + n < u.length) (hp:ps.length = n + 1):z2p (putL u k ps) k n = ps:=by
 unfold z2p putL
 have hl:(u.take k).length = k:=by rw [List.length_take]; omega
 rw [List.append_assoc,List.drop_append_of_le_length (by omega),List.drop_eq_nil_of_le (by omega),List.nil_append,List.take_append_of_le_length (by omega),List.take_of_length_le (by omega)]
theorem zvr {u ps rs:List Nat} {k n:Nat} (hk:k + n < u.length) (hp:ps.length = n + 1) (hr:rs.length = n + 1):putL (putL u k ps) k rs = putL u k rs:=by
 unfold putL
 have hl:(u.take k).length = k:=by rw [List.length_take]; omega
 have hl2:(u.take k ++ ps).length = k + ps.length:=by rw [List.length_append,hl]
 have e1:(u.take k ++ ps ++ u.drop (k + ps.length)).take k = u.take k:=by
  rw [List.append_assoc,List.take_append_of_le_length (by omega),List.take_of_length_le (by omega)]
 have e2:(u.take k ++ ps ++ u.drop (k + ps.length)).drop (k + rs.length) = u.drop (k + rs.length):=by
  rw [show k + rs.length = (u.take k ++ ps).length by omega,List.drop_left,hl2]
 rw [e1,e2]
theorem zy2 {k n V:Nat} {o vs:List Nat} (ho:∀ z ∈ o,z < B32) (hvs:∀ z ∈ vs,z < B32) (hk:k + (n + 1) < o.length) (lv:vs.length = n + 1) (hV:val B32 vs = V) (hlow:val B32 (o.drop (k + 1)) < V) :
  dg (z2p o k (n + 1)) (n + 1) ≤ dg vs n:=by
 have hVB:V < B32 ^ (n + 1):=by rw [← hV,← lv]; exact z1k vs hvs
 obtain ⟨-,p2,-⟩:=zdw z00 ho hk hVB hlow
 have hs:=z21 (B:=B32) (z2p o k (n + 1)) (n + 1)
 rw [z40 hk,show min (n + 1) (n + 1 + 1) = n + 1 by omega,z1b,List.drop_eq_nil_of_le (by rw [z40 hk]; omega),show val B32 [] = 0 from rfl,Nat.mul_zero,Nat.add_zero] at hs
 have hs2:=z21 (B:=B32) vs n
 rw [lv,show min n (n + 1) = n by omega,z1b,List.drop_eq_nil_of_le (by omega),show val B32 [] = 0 from rfl,Nat.mul_zero,Nat.add_zero,hV] at hs2
 have hl:val B32 (vs.take n) < B32 ^ n:=by
  have h3:=z1k (vs.take n) (fun z hz => hvs z (List.mem_of_mem_take hz))
  rwa [List.length_take,show min n vs.length = n by omega] at h3
 simp only [Nat.add_zero] at hs
 generalize dg (z2p o k (n + 1)) (n + 1) = t at hs ⊢
 generalize dg vs n = z at hs2 ⊢
 have h1:V < B32 ^ n * (z + 1):=by rw [Nat.mul_add,Nat.mul_one]; omega
 have h2:B32 * V ≤ B32 * (B32 ^ n * (z + 1)):=Nat.mul_le_mul_left _ (Nat.le_of_lt h1)
 have h3:B32 ^ (n + 1) * t < B32 ^ (n + 1) * (z + 1):=by
  rw [Nat.pow_succ,Nat.mul_comm (B32 ^ n) B32,Nat.mul_assoc B32 (B32 ^ n) (z + 1)]
  rw [Nat.pow_succ,Nat.mul_comm (B32 ^ n) B32] at hs
  omega
 have:=Nat.lt_of_mul_lt_mul_left h3
 omega
theorem zkn {A V m k q r:Nat} {o qs vs:List Nat} (ho:∀ z ∈ o,z < B32) (hvs:∀ z ∈ vs,z < B32) (hk:k + (m + 2) < o.length) (hkq:k < qs.length) (lv:vs.length = m + 2) (hV:val B32 vs = V) (hV1:2147483648 ≤ dg vs (m + 1))
  (h:NDivAt B32 A V (m + 2) o qs (k + 1)) (ht:r + q * dg vs (m + 1) = dg (z2p o k (m + 2)) (m + 2) * B32 + dg (z2p o k (m + 2)) (m + 1)) (hqB:q < B32) (hc:q * dg vs m ≤ r * B32 + dg (z2p o k (m + 2)) m)
  (hok:z8a B32 (dg (z2p o k (m + 2)) (m + 2) * B32 + dg (z2p o k (m + 2)) (m + 1)) (dg (z2p o k (m + 2)) m) (dg vs (m + 1)) (dg vs m) q)
  {ps:List Nat} {b:Nat} (hb:b ≤ 1) (hpl:ps.length = m + 2 + 1) (hps:∀ z ∈ ps,z < B32) (hp:val B32 ps + q * val B32 vs = val B32 (z2p o k (m + 2)) + B32 ^ (m + 2 + 1) * b) :
  (b = 0 → NDivAt B32 A V (m + 2) (putL o k ps) (qs.set k q) k) ∧
  (b = 1 → 0 < q ∧ ∀ rs:List Nat,rs.length = m + 2 + 1 → val B32 rs = (val B32 ps + val B32 vs) % B32 ^ (m + 2 + 1) → NDivAt B32 A V (m + 2) (putL o k rs) (qs.set k (q - 1)) k):=by
 have hVB:V < B32 ^ (m + 2):=by rw [← hV,← lv]; exact z1k vs hvs
 obtain ⟨-,p2,-⟩:=zdw z00 ho hk hVB h.low
 have hus:=zn8 ho k (m + 2)
 obtain ⟨g1,g2⟩:=zhl z00 (us:=z2p o k (m + 2)) (vs:=vs) (n:=m + 2) (q:=q) (r:=r) hus hvs (z40 hk) lv (by omega) (show 0 < dg vs (m + 1) by omega) (by rw [hV]; exact p2) ht hqB hc hok
 rw [hV] at g1 g2 hp ⊢
 have hU:val B32 (z2p o k (m + 2)) < B32 ^ (m + 2 + 1):=by rw [← z40 hk]; exact z1k _ hus
 have hP:val B32 ps < B32 ^ (m + 2 + 1):=by rw [← hpl]; exact z1k _ hps
 have hVM:V ≤ B32 ^ (m + 2 + 1):=Nat.le_trans (Nat.le_of_lt hVB) (Nat.pow_le_pow_right (by decide) (by omega))
 have hV0:0 < V:=by
  have:=h.low
  omega
 obtain ⟨d1,d2⟩:=zr7 hP hb hp g1 g2 hU hVM
 refine ⟨fun e => ?_,fun e => ?_⟩
 ·obtain ⟨e1,e2⟩:=d1 e
  rw [e1]
  exact zfg z00 ho hk hkq hVB h hpl e2 hV0
 ·obtain ⟨e0,e1,e2⟩:=d2 e
  refine ⟨e0,fun rs hl hr => ?_⟩
  rw [e1]
  exact zfg z00 ho hk hkq hVB h hl (hr.trans e2) hV0
theorem zhr {A V n La s lu Bv:Nat} {o qs:List Nat} (ho:∀ z ∈ o,z < B32) (lo:o.length = La + 1) (hA:val B32 o = A * 2 ^ s) (lA:(rep B32 A).length = La) (hn:1 ≤ n) (hla:n ≤ La) (hV:V = Bv * 2 ^ s) (lB:(rep B32 Bv).length = n) (hq:qs.length = La + 1 - n) (_h:lu = 0) :
  NDivAt B32 (A * 2 ^ s) V n o qs (La + 1 - n):=by
 refine ⟨?_,?_⟩
 ·rw [List.drop_eq_nil_of_le (by omega),show val B32 [] = 0 from rfl,Nat.mul_zero,Nat.mul_zero,Nat.add_zero,hA]
 ·have hs:=z21 (B:=B32) o (La + 1 - n)
  rw [lo,show min (La + 1 - n) (La + 1) = La + 1 - n by omega,hA] at hs
  have h1:A < B32 ^ La:=by rw [← lA]; have:=z1k (rep B32 A) (z3q z00 A); rwa [z0d z00] at this
  have h2:B32 ^ (n - 1) ≤ Bv:=by
   by_cases h:B32 ^ (n - 1) ≤ Bv
   ·exact h
   ·have:=z0f z00 Bv (n - 1) (by omega)
    omega
  have hP:0 < 2 ^ s:=Nat.pow_pos (by decide)
  have h3:A * 2 ^ s < B32 ^ (La + 1 - n) * V:=by
   rw [hV]
   have h4:B32 ^ La * 2 ^ s ≤ B32 ^ (La + 1 - n) * (Bv * 2 ^ s):=by
    rw [← Nat.mul_assoc]
    refine Nat.mul_le_mul_right _ ?_
    have e:B32 ^ La = B32 ^ (La + 1 - n) * B32 ^ (n - 1):=by rw [← Nat.pow_add,show La + 1 - n + (n - 1) = La by omega]
    rw [e]
    exact Nat.mul_le_mul_left _ h2
   exact Nat.lt_of_lt_of_le (Nat.mul_lt_mul_of_pos_right h1 hP) h4
  have h5:B32 ^ (La + 1 - n) * val B32 (o.drop (La + 1 - n)) < B32 ^ (La + 1 - n) * V:=by omega
  exact Nat.lt_of_mul_lt_mul_left h5
theorem zrm {w:World} {T:TypeId} {g k n cap:Nat} {o:List Nat} (hrow:w.rowIs g T cap (rowU o)) (ho:∀ z ∈ o,z < B32) (hk:k + n < o.length) (hc:o.length ≤ cap) (hcap:cap ≤ 9223372036854775807) :
  U32s (fun j => j = g) w (.slice (some ⟨g,k,none⟩) (n + 1) (n + 1)) (z2p o k n):=by
 refine ⟨g,k,⟨_,n + 1,by rw [z40 hk],by rw [z40 hk]; omega,by unfold maxLen; omega,fun _ => rfl,fun _ => rfl⟩,fun j z hz => ⟨zn8 ho k n z (List.mem_of_getElem? hz),?_⟩⟩
 have hj:=z05 hz
 rw [z40 hk] at hj
 rw [hrow.cell (i:=k + j) (by omega)]
 show some (Value.int .u32 (dg o (k + j):Nat)) = _
 rw [← zb5 (n:=n) hj,z0o hz]
end
section
open Go.RowKit
def iv (f:Nat → Int):Nat → Value:=fun j => .int .i64 (f j)
def tabA (f:Nat → Int):Array Value:=((List.range 201).map (iv f)).toArray
def arrV (f:Nat → Int):Value:=.agg (tabA f)
theorem z45 (f:Nat → Int):(tabA f).size = 201:=by simp [tabA]
theorem ze2 (f:Nat → Int) {i:Nat} (h:i < 201):(tabA f)[i]? = some (iv f i):=by simp [tabA,h]
theorem zrn (f:Nat → Int):(tabA f).all (·.oneCell') = true:=by
 refine Array.all_eq_true_iff_forall_mem.2 (fun v hv => ?_)
 simp only [tabA,List.mem_toArray,List.mem_map] at hv
 obtain ⟨j,_,rfl⟩:=hv
 rfl
theorem zhs {c:Array Value} {f:Nat → Int} (hs:c.size = 201) (h:∀ i,i < 201 → c[i]? = some (iv f i)):c = tabA f:=by
 apply Array.ext_getElem?
 intro i
 by_cases hi:i < 201
 ·rw [h i hi,ze2 f hi]
 ·rw [Array.getElem?_eq_none (by omega),Array.getElem?_eq_none (by rw [z45]; omega)]
theorem Tryz.infoArr:(Tryz.prog.info? 174).map (fun i => (i.zero,i.size)) = some (some (.agg (tabA fun _ => 0)),201):=by kernel_rfl
theorem Tryz.sizeArr:(Tryz.prog.info? 174).map (·.size) = some 201:=by kernel_rfl
theorem z8d (f:Nat → Int) (w:World):(w.alloc (.cells (tabA f) 174)).rowIs w.heap.size 174 201 (iv f) :=
 ⟨tabA f,heap_alloc_new w _,z45 f,fun _i hi => ze2 f hi⟩
section
variable {ops:Array Oper} {rest:List Oper} {op:Oper} {a:Act} {Q:Exit → Act → World → Prop}
theorem z4y {W:World} {g:Nat} {f:Nat → Int} (hgd:op.guard = none) (x:Operand) (ho:op.op = .load 174 x) (hx:a.eval x = .pointer (some ⟨g,0,none⟩)) (hrow:W.rowIs g 174 201 (iv f))
  (h:wpList Tryz.prog ops Q rest (a.put op.dst (arrV f)) W):wpList Tryz.prog ops Q (op :: rest) a W:=by
 obtain ⟨c,hc,hs,hi⟩:=hrow
 obtain rfl:=zhs hs hi
 refine wpList_plain hgd fun K hK => ?_
 unfold Oper.wp execOp
 have hl:=run_loadVar_row (P:=Tryz.prog) W g 174 174 (tabA f) (0,0) _ hc Tryz.underlying174 rfl (by rw [z45]; exact Tryz.sizeArr)
 simp only [ho,hx,Instr.loadAt,Instr.sureAddr,Sem.run_bind,Sem.run_pure,Result.andThen_ok,hl]
 exact hK _ _ h
theorem z26 {W:World} {g:Nat} {f f0:Nat → Int} (hgd:op.guard = none) (x y:Operand) (ho:op.op = .store 174 x y) (hx:a.eval x = .pointer (some ⟨g,0,none⟩)) (hy:a.eval y = arrV f) (hrow:W.rowIs g 174 201 (iv f0))
  (h:∀ W',W'.rowIs g 174 201 (iv f) → W.grownBy W' (some g) → wpList Tryz.prog ops Q rest (a.put op.dst undef) W'):wpList Tryz.prog ops Q (op :: rest) a W:=by
 obtain ⟨c,hc,hs,hi⟩:=hrow
 obtain rfl:=zhs hs hi
 refine wpList_plain hgd fun K hK => ?_
 unfold Oper.wp execOp
 have hl:=run_storeVar_row (P:=Tryz.prog) W g 174 174 (tabA f0) (tabA f) hc (by rw [z45]; exact Tryz.sizeArr) (by rw [z45,z45]) (zrn f)
 unfold arrV at hy
 simp only [ho,hx,hy,Instr.storeAt,Instr.sureAddr,Sem.run_bind,Sem.run_pure,Result.andThen_ok,hl]
 refine hK _ _ (h _ ⟨tabA f,?_,z45 f,fun i hi => ze2 f hi⟩ ?_)
 ·have hg:=(Array.getElem?_eq_some_iff.1 hc).1
  simp only [World.setRow,Array.getElem?_modify]
  simp [hc]
 ·refine ⟨rfl,rfl,rfl,by simp [World.setRow],fun k hk hne => ?_⟩
  simp only [World.setRow,Array.getElem?_modify]
  rw [if_neg (fun e => hne (by rw [e]))]
end
end
section
open Go.RowKit
theorem Pows.ext' {S:Nat → Prop} {w W:World} {v:Value} {zs:Mono} (h:Pows S w v zs) (hx:Ext w W) (hS:∀ k,S k → k < w.heap.size):Pows S W v zs:=h.to (Kept.ext hx hS) (fun _ h => h)
theorem Pows.cellAt {S:Nat → Prop} {w:World} {m:Mono} {a:Option Addr} {n cap k:Nat} {x:Int × Int} (h:Pows S w (.slice a n cap) m) (hx:m[k]? = some x) :
  ∃ b off,a = some ⟨b,off,none⟩ ∧ n = m.length ∧ n ≤ cap ∧ cap ≤ 9223372036854775807 ∧ S b ∧
   ((-9223372036854775808 ≤ x.1 ∧ x.1 ≤ 9223372036854775807) ∧ -9223372036854775808 ≤ x.2 ∧ x.2 ≤ 9223372036854775807) ∧
   w.cell? ⟨b,off + k * 2,none⟩ = some (.int .i64 x.1) ∧ w.cell? ⟨b,off + k * 2 + 1,none⟩ = some (.int .i64 x.2):=by
 obtain ⟨b,off,⟨a',cap',h1,h2,h3,h4,h5⟩,hc⟩:=h
 obtain ⟨rfl,rfl,rfl⟩:a = a' ∧ n = m.length ∧ cap = cap':=by simpa using h1
 have hp:0 < m.length:=by have:=z05 hx; omega
 exact ⟨b,off,h4 hp,rfl,h2,h3,h5 hp,(hc k x hx).1,(hc k x hx).2.1,(hc k x hx).2.2⟩
def z8e (m:Mono):Nat → Int
 | 0 => 0
 | k + 1 => ((m[k]?).map (·.1)).getD 0
theorem zb8 {S:Nat → Prop} (v:Value) (m:Mono) (w:World) (h:Pows S w v m) (hS:∀ k,S k → k < w.heap.size) :
  Calls Tryz.prog 102 #[v] w fun e w' => e = .returned (.bool (mayM m)) ∧ Ext w w':=by
 have hl:=h.len_le
 have H:=hid h
 obtain ⟨a,cap,rfl⟩:=h.form
 clear h
 go_enter Tryz.func102,Tryz.ntmps102
 go_wp2
 go_loopw [3] (fun i wr => ∃ k:Nat,k ≤ m.length ∧ i = .int .i64 k ∧ Ext w wr ∧ mayM m = z0a (z8e m k) (m.drop k) ∧ 0 ≤ z8e m k) (fun i _ => m.length - (intOf i).toNat)
 case atStart => exact ⟨0,Nat.zero_le _,rfl,Ext.refl _,rfl,by simp [z8e]⟩
 case round =>
  obtain ⟨k,hk,rfl,hx,hm,hl0⟩:=hrel
  by_cases hlt:k < m.length
  ·obtain ⟨t,ht⟩:=z01 hlt
   have hT:=z6n ht
   rw [hT,z0a] at hm
   have hl1:z8e m (k + 1) = t.1:=by simp [z8e,ht]
   obtain ⟨b,off,rfl,-,hn1,hm1,hSb,⟨hb1,hb2⟩,h1,h2⟩:=(H.out.ext' hx hS).cellAt ht
   have HM:=hid hm
   have HX:=hid hx
   have HL1:=hid hl1
   obtain ⟨x,z⟩:=t
   simp only at h1 h2 hb1 hb2 HM HL1
   clear hm hT hl1
   by_cases hbad:x < 1 ∨ 200 < x ∨ z < 1 ∨ 10000 < z
   ·have hf:Hid (mayM m = false):=hid (by
     rw [HM.out]
     have:¬ (z8e m k < x ∧ x ≤ 200 ∧ 1 ≤ z ∧ z ≤ 10000):=by omega
     simp [this])
    clear hx ht hl0
    rcases hbad with g | g | g | g <;> go_wp2
    all_goals
     go_ret
     exact ⟨by rw [hf.out]; rfl,HX.out⟩
   ·have g1:1 ≤ x:=by omega
    have g2:x ≤ 200:=by omega
    have g3:1 ≤ z:=by omega
    have g4:z ≤ 10000:=by omega
    clear hbad ht hl0
    cases k with
    | zero =>
     simp only [Nat.zero_mul,Nat.add_zero] at h1 h2
     have hf:Hid (mayM m = z0a (z8e m (0 + 1)) (m.drop (0 + 1))):=hid (by
      rw [HM.out,HL1.out]
      have:z8e m 0 < x ∧ x ≤ 200 ∧ 1 ≤ z ∧ z ≤ 10000:=⟨by show (0:Int) < x; omega,g2,g3,g4⟩
      simp [this])
     have hl2:Hid (0 ≤ z8e m (0 + 1)):=hid (by rw [HL1.out]; omega)
     clear hx
     go_wp2
     go_quiet (fail)
     go_wp2
     go_roundw
     case rel => exact ⟨0 + 1,by omega,by go_num,HX.out.drewN _,hf.out,hl2.out⟩
     case measure => simp only [intOf]; omega
    | succ q =>
     obtain ⟨y,hy⟩:=z01 (show q < m.length by omega)
     obtain ⟨b',off',hbb,-,-,-,-,⟨hc1,hc2⟩,h3,h4⟩:=(H.out.ext' hx hS).cellAt hy
     obtain ⟨rfl,rfl⟩:b = b' ∧ off = off':=by simpa using hbb
     have hl3:z8e m (q + 1) = y.1:=by simp [z8e,hy]
     have HL3:=hid hl3
     obtain ⟨u,t⟩:=y
     simp only at h3 h4 hc1 hc2 HL3
     have hq1:((q:Nat):Int) + 1 - 1 = (q:Int):=by omega
     clear hy hbb hl3 hx
     by_cases hux:u < x
     ·have hf:Hid (mayM m = z0a (z8e m (q + 1 + 1)) (m.drop (q + 1 + 1))):=hid (by
       rw [HM.out,HL1.out]
       have:z8e m (q + 1) < x ∧ x ≤ 200 ∧ 1 ≤ z ∧ z ≤ 10000:=⟨by rw [HL3.out]; exact hux,g2,g3,g4⟩
       simp [this])
      have hl2:Hid (0 ≤ z8e m (q + 1 + 1)):=hid (by rw [HL1.out]; omega)
      have hd:decide (x ≤ u) = false:=decide_eq_false (by omega)
      go_wp2
      go_quiet (fail)
      go_wp2
      go_roundw
      case rel => exact ⟨q + 1 + 1,by omega,by go_num,HX.out.drewN _,hf.out,hl2.out⟩
      case measure => simp only [intOf]; omega
     ·have hf:Hid (mayM m = false):=hid (by
       rw [HM.out]
       have:¬ (z8e m (q + 1) < x ∧ x ≤ 200 ∧ 1 ≤ z ∧ z ≤ 10000):=by rw [HL3.out]; omega
       simp [this])
      have hd:decide (x ≤ u) = true:=decide_eq_true (by omega)
      go_wp2
      go_quiet (fail)
      go_wp2
      all_goals
       go_ret
       exact ⟨by rw [hf.out]; rfl,HX.out.drewN _⟩
  ·obtain rfl:k = m.length:=by omega
   have HX:=hid hx
   have hf:Hid (mayM m = true):=hid (by rw [hm,List.drop_length]; rfl)
   clear hx hm hl0
   go_wp2
   all_goals
    go_ret
    exact ⟨by rw [hf.out]; rfl,HX.out⟩
end
section
open Go.RowKit
def exF (m:Mono):Nat → Int:=fun v => ex (z1a m) v
theorem zix {W:World} {g:Nat} {f:Nat → Int} (hrow:W.rowIs g 174 201 (iv f)):(loadVar 174 ⟨g,0,none⟩).run Tryz.prog W = .ok (arrV f) W:=by
 obtain ⟨c,hc,hs,hi⟩:=hrow
 obtain rfl:=zhs hs hi
 exact run_loadVar_row (P:=Tryz.prog) W g 174 174 (tabA f) (0,0) _ hc Tryz.underlying174 rfl (by rw [z45]; exact Tryz.sizeArr)
theorem zd6 {n k:Nat} (h:some n = some k):n ≤ k:=by
 cases h
 exact Nat.le_refl _
theorem za3 {P:Program} {fn:Func} {tmps:Array Value} {t T g:Nat} {v:Value} {W:World} (hr:fn.results = #[.cell t T]) (ht:tmps.getD t undef = .pointer (some ⟨g,0,none⟩)) (hl:(loadVar T ⟨g,0,none⟩).run P W = .ok v W):(results fn tmps).run P W = .ok v W:=by
 have ht':tmps[t]?.getD undef = .pointer (some ⟨g,0,none⟩):=by rw [← ht]; simp
 simp [results,hr,ht',asAddr,hl]
theorem zfr {w W:World} {g:Nat} {f:Nat → Value} {T:TypeId} {n:Nat} {row:Option Nat} (h:w.rowIs g T n f) (hg:w.grownBy W row) (hne:some g ≠ row):W.rowIs g T n f:=by
 obtain ⟨c,hc,hs,hi⟩:=h
 exact ⟨c,(hg.block g (Array.getElem?_eq_some_iff.1 hc).1 hne).trans hc,hs,hi⟩
theorem z5l {w W:World} {g:Nat} {f:Nat → Value} {T:TypeId} {n:Nat} (h:w.rowIs g T n f) (hx:Ext w W):W.rowIs g T n f:=by
 obtain ⟨c,hc,hs,hi⟩:=h
 exact ⟨c,(hx.block g (Array.getElem?_eq_some_iff.1 hc).1).trans hc,hs,hi⟩
theorem zna {w:World} {g:Nat} {f:Nat → Value} {T:TypeId} {n:Nat} {a:Addr} (h:w.rowIs g T n f) (hne:g ≠ a.block) (u:Value):(w.setCell a u).rowIs g T n f:=by
 obtain ⟨c,hc,hs,hi⟩:=h
 exact ⟨c,(Below.heap_setCell w a u g hne).trans hc,hs,hi⟩
theorem World.rowIs.drewN' {w:World} {g n:Nat} {T:TypeId} {f:Nat → Value} (h:w.rowIs g T n f):w.drew.rowIs g T n f:=h
theorem zvs {l:Mono} {x:Int × Int} {v:Int} (h:∀ y ∈ l,y.1 ≠ x.1):ex (l ++ [x]) v = if x.1 = v then x.2 else ex l v:=by
 induction l with
 | nil => rfl
 | cons y r ih =>
  have ih:=ih (fun z hz => h z (by simp [hz]))
  simp only [List.cons_append,ex,ih]
  by_cases hv:x.1 = v
  ·have:¬ y.1 = v:=fun e => h y (by simp) (e.trans hv.symm)
   simp [this,hv]
  ·rw [if_neg hv,if_neg hv]
theorem zko {last:Int} {m:Mono} (h:z0a last m = true):∀ y ∈ m,last < y.1:=by
 induction m generalizing last with
 | nil => intro y hy; simp at hy
 | cons x r ih =>
  simp only [z0a,Bool.and_eq_true,decide_eq_true_eq] at h
  intro y hy
  rcases List.mem_cons.1 hy with rfl | hy
  ·exact h.1.1
  ·have:=ih h.2 y hy
   omega
theorem z8u {last:Int} {m:Mono} {k:Nat} {x:Int × Int} (h:z0a last m = true) (hx:m[k]? = some x):(∀ y ∈ m.take k,y.1 ≠ x.1) ∧ 1 ≤ x.2 ∧ x.2 ≤ 10000 ∧ last < x.1 ∧ x.1 ≤ 200:=by
 induction m generalizing last k with
 | nil => simp at hx
 | cons y r ih =>
  have h0:=zko h
  simp only [z0a,Bool.and_eq_true,decide_eq_true_eq] at h
  cases k with
  | zero =>
   obtain rfl:y = x:=by simpa using hx
   refine ⟨fun z hz => by simp at hz,?_⟩
   omega
  | succ k =>
   have hx':r[k]? = some x:=by simpa using hx
   obtain ⟨h1,h2,h3,h4,h5⟩:=ih h.2 hx'
   refine ⟨fun z hz => ?_,h2,h3,by omega,h5⟩
   rw [List.take_succ_cons] at hz
   rcases List.mem_cons.1 hz with rfl | hz
   ·omega
   ·exact h1 z hz
theorem zvt {m:Mono} {k:Nat} {x:Int × Int} (h:mayM m = true) (hx:m[k]? = some x) (v:Int):ex (m.take (k + 1)) v = if x.1 = v then x.2 else ex (m.take k) v:=by
 rw [List.take_add_one,hx]
 exact zvs (z8u h hx).1
theorem z4r {m:Mono} (h:mayM m = true):z1a m = m:=by simp [z1a,h]
theorem znb {m:Mono} (h:mayM m = false):z1a m = []:=by simp [z1a,h]
theorem z7g {S:Nat → Prop} (v:Value) (m:Mono) (w:World) (h:Pows S w v m) (hS:∀ k,S k → k < w.heap.size) :
  Calls Tryz.prog 103 #[v] w fun e w' => e = .returned (arrV (exF m)) ∧ Ext w w':=by
 have hz:=(zero_of_info Tryz.infoArr).1
 have hcs:(Value.agg (tabA fun _ => 0)).cells = tabA fun _ => 0:=rfl
 have hnot:∀ (x:Bool) (w:World),(Op.unary .not (.bool x)).run Tryz.prog w = .ok (.bool (!x)) w:=fun _ _ => rfl
 have hl:=h.len_le
 have H:=hid h
 obtain ⟨a,cap,rfl⟩:=h.form
 clear h
 have HK:=hid (Ext.alloc (Ext.alloc (Ext.refl w) (.cells (tabA fun _ => 0) 174)) (.cells (tabA fun _ => 0) 174))
 have HR1:=hid (z5l (z8d (fun _ => 0) w) (Ext.alloc (Ext.refl _) (.cells (tabA fun _ => 0) 174)))
 have hr2:=z8d (fun _ => 0) (w.alloc (.cells (tabA fun _ => 0) 174))
 rw [z02] at hr2
 have HR2:=hid hr2
 have HM:=hid (zb8 _ m _ (H.out.ext' HK.out hS) (z08 hS HK.out))
 clear hr2
 go_enter Tryz.func103,Tryz.ntmps103
 go_wp2_with fail
 refine HM.out.mono ?_
 rintro e w1 ⟨rfl,hx1⟩
 have HX1:=hid hx1
 have HQ1:=hid (z5l HR1.out hx1)
 have HQ2:=hid (z5l HR2.out hx1)
 clear hx1
 cases hm:mayM m with
 | false =>
  have HF:Hid (exF m = fun _ => 0):=hid (by funext v; unfold exF; rw [znb hm]; rfl)
  clear hm
  go_wp2_with (first
   | (refine z4y rfl (.tmp 3) rfl rfl HQ2.out ?_)
   | (refine z26 rfl (.tmp 2) (.tmp 8) rfl rfl rfl HQ1.out ?_; intro W hrow hg; have HROW:=hid hrow; have HG:=hid hg; clear hrow hg))
  have hld:=zix HROW.out
  refine bodyPost_ret (za3 Tryz.results103 rfl hld) rfl ?_
  exact ⟨by rw [HF.out],z0n (HK.out.trans HX1.out) HG.out (fun k hk => zd6 hk)⟩
 | true =>
  have HMM:=hid hm
  clear hm
  obtain ⟨wo,hwo⟩:∃ wo:World,wo = w1:=⟨_,rfl⟩
  subst hwo
  go_wp2
  go_loopw [4] (fun i wr => ∃ k:Nat,k ≤ m.length ∧ i = .int .i64 k ∧ Hid (wr.rowIs (w.heap.size + 1) 174 201 (iv (fun v => ex (m.take k) v))) ∧ Hid (wr.rowIs w.heap.size 174 201 (iv fun _ => 0)) ∧ Ext w wr) (fun i _ => m.length - (intOf i).toNat)
  case atStart => exact ⟨0,Nat.zero_le _,rfl,HQ2,HQ1,HK.out.trans HX1.out⟩
  case round =>
   obtain ⟨k,hk,rfl,HA,HB,hx⟩:=hrel
   by_cases hlt:k < m.length
   ·obtain ⟨t,ht⟩:=z01 hlt
    obtain ⟨b,off,rfl,-,hn1,hm1,hSb,⟨hb1,hb2⟩,h1,h2⟩:=(H.out.ext' hx hS).cellAt ht
    obtain ⟨_,g1,g2,g3,g4⟩:=z8u HMM.out ht
    have HT:=hid (fun v => zvt HMM.out ht v)
    have HX:=hid hx
    have hbs:=hS b hSb
    obtain ⟨x,z⟩:=t
    simp only at h1 h2 hb1 hb2 g1 g2 g3 g4 HT
    obtain ⟨x,rfl⟩:=Int.eq_ofNat_of_zero_le (Int.le_of_lt g3)
    have hx201:x < 201:=by omega
    have hcs:=HA.out.cell (i:=x) hx201
    have hfs:=HA.out.frozen x
    unfold iv at hcs
    have hxI0:(0:Int) ≤ (x:Int):=by omega
    have hxI1:(x:Int) < 201:=by omega
    clear hx ht
    go_wp2
    have S0:wr.drew.cell? ⟨b,off + k * 2,none⟩ = some (.int .i64 (x:Nat)) ∧ wr.drew.cell? ⟨b,off + k * 2 + 1,none⟩ = some (.int .i64 z):=⟨by simpa using h1,by simpa using h2⟩
    go_region_held3 (fun W => W.cell? ⟨b,off + k * 2,none⟩ = some (.int .i64 (x:Nat)) ∧ W.cell? ⟨b,off + k * 2 + 1,none⟩ = some (.int .i64 z)) (first | exact S0 | exact ⟨z09 S0.1 (ab (by omega)),z09 S0.2 (ab (by omega))⟩) (fail)
    go_wp2
    go_roundw
    case rel =>
     refine ⟨k + 1,by omega,by go_num,hid ?_,hid (zna HB.out (by simp) _),(HX.out.drew).setCell (p:=⟨w.heap.size + 1,x,none⟩) (by simp) _⟩
     refine (World.rowIs.set (World.rowIs.drewN' HA.out) x (.int .i64 z)).congr (fun i hi => ?_)
     show (if i = x then Value.int .i64 z else Value.int .i64 (ex (m.take k) (i:Nat))) = Value.int .i64 (ex (m.take (k + 1)) (i:Nat))
     rw [HT.out]
     by_cases e:i = x
     ·subst e
      simp
     ·have:¬ ((x:Int) = (i:Int)):=fun h => e (by omega)
      simp [e,this]
    case measure => simp only [intOf]; omega
   ·obtain rfl:k = m.length:=by omega
    have HX:=hid hx
    have HF:Hid ((fun v:Nat => ex (m.take m.length) v) = exF m):=hid (by funext v; unfold exF; rw [z4r HMM.out,List.take_length])
    have hA:=HA.out
    rw [HF.out] at hA
    have HA2:=hid hA
    clear hx hA
    go_wp2_with (first
     | (refine z4y rfl (.tmp 3) rfl rfl HA2.out ?_)
     | (refine z26 rfl (.tmp 2) (.tmp 26) rfl rfl rfl HB.out ?_; intro W hrow hg; have HROW:=hid hrow; have HG:=hid hg; clear hrow hg))
    have hld:=zix HROW.out
    refine bodyPost_ret (za3 Tryz.results103 rfl hld) rfl ?_
    exact ⟨rfl,z0n HX.out HG.out (fun k hk => zd6 hk)⟩
end
section
open Go.RowKit
def rcmp (a b:Mono):Int:=cmpE (ex (z1a a)) (ex (z1a b)) 200
theorem zvu {a b:Mono} (ha:mayM a = true) (hb:mayM b = true):rcmp a b = z0e a b:=by
 unfold rcmp
 rw [z4r ha,z4r hb,z2a ha hb]
theorem ze3 {S:Nat → Prop} (va vb:Value) (a b:Mono) (w:World) (ha:Pows S w va a) (hb:Pows S w vb b) (hS:∀ k,S k → k < w.heap.size) :
  Calls Tryz.prog 70 #[va,vb] w fun e w' => e = .returned (.int .i64 (rcmp a b)) ∧ Ext w w':=by
 have hz:=(zero_of_info Tryz.infoArr).1
 have hcs:(Value.agg (tabA fun _ => 0)).cells = tabA fun _ => 0:=rfl
 have HA:=hid ha
 have HB:=hid hb
 obtain ⟨aa,ca,rfl⟩:=ha.form
 obtain ⟨ab1,cb,rfl⟩:=hb.form
 clear ha hb
 go_enter Tryz.func70,Tryz.ntmps70
 go_wp2_with fail
 refine (z7g _ a w HA.out hS).mono ?_
 rintro e w1 ⟨rfl,hx1⟩
 have HX1:=hid hx1
 clear hx1
 go_wp2_with (refine z26 rfl (.tmp 5) (.tmp 9) rfl rfl rfl (z8d (fun _ => 0) w1) ?_; intro w2 hrow hg; have HROW:=hid hrow; have HG:=hid hg; clear hrow hg)
 have HX2:Hid (Ext w w2):=hid (z0n (HX1.out.alloc _) HG.out (fun k hk => Nat.le_trans HX1.out.size (zd6 hk)))
 refine (z7g _ b w2 (HB.out.ext' HX2.out hS) (z08 hS HX2.out)).mono ?_
 rintro e w3 ⟨rfl,hx3⟩
 have HX3:=hid (HX2.out.trans hx3)
 have hsz:w1.heap.size < w2.heap.size:=by
  have:=HG.out.size
  rw [z02] at this
  omega
 have HSZ:Hid (w1.heap.size < w3.heap.size):=hid (Nat.lt_of_lt_of_le hsz hx3.size)
 have HROW3:=hid (z5l HROW.out hx3)
 clear hx3 hsz
 go_wp2_with (refine z26 rfl (.tmp 6) (.tmp 11) rfl rfl rfl (z8d (fun _ => 0) w3) ?_; intro w4 hrow hg; have HROWB:=hid hrow; have HG2:=hid hg; clear hrow hg)
 have HX4:Hid (Ext w w4):=hid (z0n (HX3.out.alloc _) HG2.out (fun k hk => Nat.le_trans HX3.out.size (zd6 hk)))
 have HROWA:Hid (w4.rowIs w1.heap.size 174 201 (iv (exF a))):=hid (zfr (z5l HROW3.out (Ext.alloc (Ext.refl _) _)) HG2.out (fun e => by
  have:=HSZ.out
  have h1:w1.heap.size = w3.heap.size:=by simpa using e
  omega))
 obtain ⟨ga,hga⟩:∃ g,g = w1.heap.size:=⟨_,rfl⟩
 obtain ⟨gb,hgb⟩:∃ g,g = w3.heap.size:=⟨_,rfl⟩
 rw [← hga] at HROWA ⊢
 rw [← hgb] at HROWB ⊢
 clear hga hgb
 go_loopw [7] (fun v wr => ∃ k:Nat,k ≤ 200 ∧ v = .int .i64 k ∧ Ext w4 wr ∧ rcmp a b = cmpE (ex (z1a a)) (ex (z1a b)) k) (fun v _ => (intOf v).toNat)
 case atStart => exact ⟨200,by omega,rfl,Ext.refl _,rfl⟩
 case round =>
  obtain ⟨k,hk,rfl,hx,hc⟩:=hrel
  have HX:=hid hx
  by_cases h0:1 ≤ k
  ·have hk201:k < 201:=by omega
   have hca:=(z5l HROWA.out hx).cell (i:=k) hk201
   have hcb:=(z5l HROWB.out hx).cell (i:=k) hk201
   unfold iv exF at hca hcb
   obtain ⟨q,hq⟩:∃ q,k = q + 1:=⟨k - 1,by omega⟩
   have hst:cmpE (ex (z1a a)) (ex (z1a b)) k = if ex (z1a a) (k:Nat) = ex (z1a b) (k:Nat) then cmpE (ex (z1a a)) (ex (z1a b)) q else cmpI (ex (z1a a) (k:Nat)) (ex (z1a b) (k:Nat)):=by
    rw [hq]; rfl
   rw [hst] at hc
   have HC:=hid hc
   have HQ:=hid hq
   clear hx hc hst hq
   generalize ex (z1a a) (k:Nat) = p at *
   generalize ex (z1a b) (k:Nat) = t at *
   have hkI0:(0:Int) ≤ (k:Int):=by omega
   have hkI1:(k:Int) < 201:=by omega
   rcases (show p < t ∨ t < p ∨ p = t by omega) with hlt | hlt | heq
   ·have HF:Hid (rcmp a b = -1):=hid (by rw [HC.out,if_neg (by omega),z2w]; exact hlt)
    go_wp2
    go_quiet (fail)
    go_wp2
    all_goals
     go_ret
     exact ⟨by rw [HF.out]; rfl,HX4.out.trans (HX.out.drewN _)⟩
   ·have HF:Hid (rcmp a b = 1):=hid (by rw [HC.out,if_neg (by omega),z3y]; exact hlt)
    have hd:decide (p < t) = false:=decide_eq_false (by omega)
    go_wp2
    go_quiet (fail)
    go_wp2
    go_quiet (fail)
    go_wp2
    all_goals
     go_ret
     exact ⟨by rw [HF.out]; rfl,HX4.out.trans ((HX.out.drewN _).drewN _)⟩
   ·subst heq
    have HF:Hid (rcmp a b = cmpE (ex (z1a a)) (ex (z1a b)) q):=hid (by rw [HC.out,if_pos rfl])
    go_wp2
    go_quiet (fail)
    go_wp2
    go_quiet (fail)
    go_wp2
    go_roundw
    case rel => exact ⟨q,by have:=HQ.out; omega,congrArg (Value.int .i64) (by have:=HQ.out; omega),HX.out.drewN _,HF.out⟩
    case measure => simp only [intOf]; omega
  ·obtain rfl:k = 0:=by omega
   have HF:Hid (rcmp a b = 0):=hid (by rw [hc]; rfl)
   clear hx hc
   go_wp2
   all_goals
    go_ret
    exact ⟨by rw [HF.out]; rfl,HX4.out.trans HX.out⟩
end
section
open Go.RowKit
def ofE (f:Nat → Int):Nat → Mono
 | 0 => []
 | k + 1 => if 0 < f (k + 1) then ofE f k ++ [(((k + 1:Nat):Int),f (k + 1))] else ofE f k
theorem zvv (f:Nat → Int) (k:Nat):(ofE f k).length ≤ k:=by
 induction k with
 | zero => simp [ofE]
 | succ k ih =>
  simp only [ofE]
  split
  ·simp only [List.length_append,List.length_cons,List.length_nil]; omega
  ·omega
theorem zkp {f:Nat → Int} (h:∀ j,0 ≤ f j ∧ f j ≤ 1000000) (k:Nat) (hk:k ≤ 200):inBounds (ofE f k):=by
 induction k with
 | zero => intro x hx; simp [ofE] at hx
 | succ k ih =>
  have ih:=ih (by omega)
  simp only [ofE]
  split
  ·intro x hx
   rcases List.mem_append.1 hx with hx | hx
   ·exact ih x hx
   ·obtain rfl:=List.mem_singleton.1 hx
    have:=h (k + 1)
    unfold z1v
    simp only
    omega
  ·exact ih
theorem zro {u v:Value} (h:u.oneCell' = true) (k:v.oneCell' = true):∀ x ∈ (#[u,v]:Array Value).toList,x.oneCell' = true:=by
 intro x hx
 simp at hx
 rcases hx with rfl | rfl <;> assumption
theorem zrp (f:Nat → Int) (w:World) (hf:∀ j,0 ≤ f j ∧ f j ≤ 1000000) :
  Calls Tryz.prog 104 #[arrV f] w fun e w' => ∃ v',e = .returned v' ∧ Pows (New w w') w' v' (ofE f 200) ∧ Ext w w':=by
 have HK:=hid (Ext.alloc (Ext.refl w) (.cells (tabA f) 174))
 have HROW:=hid (z8d f w)
 have HF:=hid hf
 clear hf
 unfold arrV
 go_enter Tryz.func104,Tryz.ntmps104
 go_wp2
 go_loopw [3,4] (fun o v wr => ∃ k:Nat,k ≤ 200 ∧ v = .int .i64 ((k:Int) + 1) ∧ Ext (w.alloc (.cells (tabA f) 174)) wr ∧ Hid (wr.ownsRow (w.heap.size + 1) 52 2 o (ofE f k).length (z4b (ofE f k)))) (fun _ v _ => (201 - intOf v).toNat)
 case atStart => exact ⟨0,by omega,rfl,Ext.refl _,hid (World.ownsRow_nil _ _ _ _)⟩
 case round =>
  obtain ⟨k,hk,rfl,hx,HW⟩:=hrel
  have HX:=hid hx
  by_cases h0:k < 200
  ·obtain ⟨q,hq⟩:∃ q,q = k + 1:=⟨_,rfl⟩
   have hqI:(k:Int) + 1 = (q:Int):=by omega
   have hq201:q < 201:=by omega
   have hca:=(z5l HROW.out hx).cell (i:=q) hq201
   unfold iv at hca
   obtain ⟨p,hp⟩:∃ p,p = f q:=⟨_,rfl⟩
   have hpr:=HF.out q
   rw [← hp] at hca hpr
   obtain ⟨hp1,hp2⟩:=hpr
   have HP:=hid hp
   have HQ:=hid hq
   have hq1:1 ≤ q:=by omega
   have hq2:q ≤ 200:=by omega
   have hst:ofE f q = if 0 < p then ofE f k ++ [((q:Int),p)] else ofE f k:=by rw [hq,hp,hq]; rfl
   have HST:=hid hst
   have hol:(ofE f k).length ≤ 1000000000:=Nat.le_trans (zvv f k) (by omega)
   have hbs:w.heap.size + 1 ≤ wr.heap.size:=by have:=hx.size; rw [z02] at this; exact this
   have HBS:=hid hbs
   rw [hqI]
   clear hx hp hq hst hbs
   by_cases hpos:0 < p
   ·go_wp2_with (at_builtin; refine z0l _ rfl (.tmp 13) (.tmp 19) 48 rfl (w.heap.size + 1) 52 (.agg #[.int .i64 0,.int .i64 0]) 2 16 Tryz.underlying48 Tryz.infoPower rfl (by decide) _ (ofE f k).length (z4b (ofE f k)) rfl HW.out _ rfl (zro rfl rfl) rfl hol (by decide) HBS.out ?_; intro v1 w1 hown hg _; have HOW:=hid hown; have HG:=hid hg; clear hown hg)
    go_roundw
    case rel =>
     refine ⟨q,by omega,rfl,z0n HX.out HG.out (fun j hj => ?_),hid ?_⟩
     ·have:=(HW.out.lt j hj).1
      rw [z02]
      exact this
     ·rw [HST.out,if_pos hpos,z6o]
      have h1:=HOW.out
      simpa [z4b] using h1
    case measure => simp only [intOf]; omega
   ·go_wp2
    go_roundw
    case rel => exact ⟨q,by omega,rfl,HX.out,hid (by rw [HST.out,if_neg hpos]; exact HW.out)⟩
    case measure => simp only [intOf]; omega
  ·obtain rfl:k = 200:=by omega
   have hb:=zkp HF.out 200 (Nat.le_refl _)
   have HP:=hid (z8p HW.out hb)
   clear hx hb
   go_wp2
   all_goals
    go_ret
    refine ⟨_,rfl,HP.out.to (Kept.refl _ _) (fun j hj => ⟨by have:=hj.1; omega,hj.2⟩),HK.out.trans HX.out⟩
end
section
open Go.RowKit
def sumF (a b:Mono):Nat → Int:=fun v => ex a (v:Nat) + ex b (v:Nat)
def z68 (f:Nat → Int):Nat → Bool
 | 0 => false
 | k + 1 => z68 f k || decide (10000 < f (k + 1))
def z4z (a b:Mono):Option Mono:=if z68 (sumF a b) 200 then none else some (ofE (sumF a b) 200)
theorem zkq {f:Nat → Int} {k n:Nat} (h:z68 f k = true) (hk:k ≤ n):z68 f n = true:=by
 induction n with
 | zero =>
  obtain rfl:k = 0:=by omega
  exact h
 | succ n ih =>
  by_cases e:k = n + 1
  ·subst e; exact h
  ·simp only [z68,ih (by omega),Bool.true_or]
theorem znc {f g:Nat → Int} {n:Nat} (h:∀ k,1 ≤ k → k ≤ n → f k = g k):ofE f n = ofE g n:=by
 induction n with
 | zero => rfl
 | succ n ih => simp only [ofE,h (n + 1) (by omega) (Nat.le_refl _),ih (fun k h1 h2 => h k h1 (by omega))]
def mixF (a b:Mono) (k:Nat):Nat → Int:=fun j => if 1 ≤ j ∧ j ≤ k then ex a (j:Nat) + ex b (j:Nat) else ex a (j:Nat)
theorem zht {a b:Mono} {k:Nat} (h:z68 (sumF a b) k = true) (hk:k ≤ 200):z4z a b = none:=by
 unfold z4z
 rw [if_pos (zkq h hk)]
theorem zhu {a b:Mono} (h:z68 (sumF a b) 200 = false):z4z a b = some (ofE (mixF a b 200) 200):=by
 unfold z4z
 rw [if_neg (by rw [h]; exact Bool.false_ne_true)]
 exact congrArg some (znc (fun k h1 h2 => by
  unfold sumF mixF
  rw [if_pos ⟨h1,h2⟩]))
def zvw:Option Mono → Int
 | none => 8
 | some _ => 0
def zvx:Option Mono → Mono
 | none => []
 | some m => m
theorem zkr (f:Nat → Int):z68 f 0 = false:=rfl
theorem zks (a b:Mono) (k:Nat):z68 (sumF a b) (k + 1) = (z68 (sumF a b) k || decide (10000 < ex a ((k + 1:Nat):Int) + ex b ((k + 1:Nat):Int))):=rfl
attribute [local irreducible] ofE z68 z4z
theorem zhv {S:Nat → Prop} (va vb:Value) (a b:Mono) (w:World) (ha:Pows S w va a) (hb:Pows S w vb b) (hS:∀ k,S k → k < w.heap.size) (hma:mayM a = true) (hmb:mayM b = true) :
  Calls Tryz.prog 68 #[va,vb] w fun e w' => ∃ v',e = .returned (.tuple #[v',.int .i64 (zvw (z4z a b))]) ∧ Pows (New w w') w' v' (zvx (z4z a b)) ∧ Ext w w':=by
 have hz:=(zero_of_info Tryz.infoArr).1
 have hcs:(Value.agg (tabA fun _ => 0)).cells = tabA fun _ => 0:=rfl
 have hnot:∀ (x:Bool) (w:World),(Op.unary .not (.bool x)).run Tryz.prog w = .ok (.bool (!x)) w:=fun _ _ => rfl
 have HA:=hid ha
 have HB:=hid hb
 obtain ⟨aa,ca,rfl⟩:=ha.form
 obtain ⟨ab1,cb,rfl⟩:=hb.form
 have HMA:=hid hma
 have HMB:=hid hmb
 have M1:=fun W (hW:Ext w W) => zb8 (S:=S) _ a W (HA.out.ext' hW hS) (z08 hS hW)
 rw [hma] at M1
 have M2:=fun W (hW:Ext w W) => zb8 (S:=S) _ b W (HB.out.ext' hW hS) (z08 hS hW)
 rw [hmb] at M2
 have EA:Hid (exF a = fun v => ex a (v:Nat)):=hid (by funext v; unfold exF; rw [z4r hma])
 have EB:Hid (exF b = fun v => ex b (v:Nat)):=hid (by funext v; unfold exF; rw [z4r hmb])
 have HM1:=hid M1
 have HM2:=hid M2
 obtain ⟨R,hR⟩:∃ R,R = z4z a b:=⟨_,rfl⟩
 rw [← hR]
 have HR:=hid hR
 clear ha hb hma hmb M1 M2 hR
 go_enter Tryz.func68,Tryz.ntmps68
 go_wp2_with fail
 refine (HM1.out w (Ext.refl _)).mono ?_
 rintro e w1 ⟨rfl,hx1⟩
 have HX1:=hid hx1
 clear hx1
 go_wp2_with fail
 refine (HM2.out w1 HX1.out).mono ?_
 rintro e w2 ⟨rfl,hx2⟩
 have HX2:=hid (HX1.out.trans hx2)
 clear hx2
 go_wp2_with fail
 refine (z7g _ a w2 (HA.out.ext' HX2.out hS) (z08 hS HX2.out)).mono ?_
 rintro e w3 ⟨rfl,hx3⟩
 have HX3:=hid (HX2.out.trans hx3)
 clear hx3
 rw [EA.out]
 go_wp2_with (refine z26 rfl (.tmp 6) (.tmp 18) rfl rfl rfl (z8d (fun _ => 0) w3) ?_; intro w4 hrow hg; have HROW:=hid hrow; have HG:=hid hg; clear hrow hg)
 have HX4:Hid (Ext w w4):=hid (z0n (HX3.out.alloc _) HG.out (fun k hk => Nat.le_trans HX3.out.size (zd6 hk)))
 refine (z7g _ b w4 (HB.out.ext' HX4.out hS) (z08 hS HX4.out)).mono ?_
 rintro e w5 ⟨rfl,hx5⟩
 have HX5:=hid (HX4.out.trans hx5)
 have hsz:w3.heap.size < w4.heap.size:=by
  have:=HG.out.size
  rw [z02] at this
  omega
 have HSZ:Hid (w3.heap.size < w5.heap.size):=hid (Nat.lt_of_lt_of_le hsz hx5.size)
 have HROW5:=hid (z5l HROW.out hx5)
 clear hx5 hsz
 rw [EB.out]
 go_wp2_with (refine z26 rfl (.tmp 7) (.tmp 20) rfl rfl rfl (z8d (fun _ => 0) w5) ?_; intro w6 hrow hg; have HROWB:=hid hrow; have HG2:=hid hg; clear hrow hg)
 have HX6:Hid (Ext w w6):=hid (z0n (HX5.out.alloc _) HG2.out (fun k hk => Nat.le_trans HX5.out.size (zd6 hk)))
 have HROWA:Hid (w6.rowIs w3.heap.size 174 201 (iv (mixF a b 0))):=hid (by
  have h1:=zfr (z5l HROW5.out (Ext.alloc (Ext.refl _) _)) HG2.out (fun e => by
   have:=HSZ.out
   have h1:w3.heap.size = w5.heap.size:=by simpa using e
   omega)
  have e:mixF a b 0 = fun v:Nat => ex a (v:Nat):=by
   funext j
   unfold mixF
   rw [if_neg (by omega)]
  rw [e]
  exact h1)
 obtain ⟨ga,hga⟩:∃ g,g = w3.heap.size:=⟨_,rfl⟩
 obtain ⟨gb,hgb⟩:∃ g,g = w5.heap.size:=⟨_,rfl⟩
 have hgab:ga ≠ gb:=by
  rw [hga,hgb]
  have:=HSZ.out
  omega
 have HGA:Hid (w.heap.size ≤ ga):=hid (by rw [hga]; exact HX3.out.size)
 rw [← hga] at HROWA ⊢
 rw [← hgb] at HROWB ⊢
 clear hga hgb
 go_loopw [8] (fun v wr => ∃ k:Nat,k ≤ 200 ∧ v = .int .i64 ((k:Int) + 1) ∧ Ext w wr ∧ Hid (wr.rowIs ga 174 201 (iv (mixF a b k))) ∧ Hid (wr.rowIs gb 174 201 (iv fun v => ex b (v:Nat))) ∧ Hid (z68 (sumF a b) k = false)) (fun v _ => (201 - intOf v).toNat)
 case atStart => exact ⟨0,by omega,rfl,HX6.out,HROWA,HROWB,hid (zkr _)⟩
 case round =>
  obtain ⟨k,hk,rfl,hx,HP,HQ,HO⟩:=hrel
  have HX:=hid hx
  by_cases h0:k < 200
  ·obtain ⟨q,hq⟩:∃ q,q = k + 1:=⟨_,rfl⟩
   have hqI:(k:Int) + 1 = (q:Int):=by omega
   have hq201:q < 201:=by omega
   have hca:=HP.out.cell (i:=q) hq201
   have hcb:wr.cell? ⟨gb,q,none⟩ = some (.int .i64 (ex b (q:Nat))):=HQ.out.cell (i:=q) hq201
   have hfa:=HP.out.frozen q
   have hm1:mixF a b k q = ex a (q:Nat):=by unfold mixF; rw [if_neg (by omega)]
   unfold iv at hca
   rw [hm1] at hca
   obtain ⟨x,hxe⟩:∃ x,x = ex a (q:Nat):=⟨_,rfl⟩
   obtain ⟨y,hye⟩:∃ y,y = ex b (q:Nat):=⟨_,rfl⟩
   have hxr:=z2t HMA.out (q:Nat)
   have hyr:=z2t HMB.out (q:Nat)
   rw [← hxe] at hca hxr
   rw [← hye] at hcb hyr
   obtain ⟨hxr1,hxr2⟩:=hxr
   obtain ⟨hyr1,hyr2⟩:=hyr
   have hov:z68 (sumF a b) q = (z68 (sumF a b) k || decide (10000 < x + y)):=by rw [hq,hxe,hye,hq]; exact zks a b k
   rw [HO.out,Bool.false_or] at hov
   have HOV:=hid hov
   have HQE:=hid hq
   have HXE:=hid hxe
   have HYE:=hid hye
   have hq1:1 ≤ q:=by omega
   have hq2:q ≤ 200:=by omega
   have hqI0:(0:Int) ≤ (q:Int):=by omega
   have hqI1:(q:Int) < 201:=by omega
   rw [hqI]
   clear hx hq hm1 hxe hye hov
   go_wp2
   go_still_tail 9,(by kernel_rfl)
   change wpList _ _ _ _ _ wr.drew
   have hst:=World.rowIs.set (World.rowIs.drewN' HP.out) q (.int .i64 (x + y))
   have hrowA:(wr.drew.setCell ⟨ga,q,none⟩ (.int .i64 (x + y))).rowIs ga 174 201 (iv (mixF a b q)):=hst.congr (fun i hi => by
    unfold iv mixF
    by_cases e:i = q
    ·subst e
     rw [if_pos rfl,if_pos ⟨hq1,Nat.le_refl _⟩,← HXE.out,← HYE.out]
    ·rw [if_neg e]
     have:=HQE.out
     by_cases e2:1 ≤ i ∧ i ≤ k
     ·rw [if_pos e2,if_pos (by omega)]
     ·rw [if_neg e2,if_neg (by omega)])
   have HRA:=hid hrowA
   have hca2:=hrowA.cell (i:=q) hq201
   unfold iv mixF at hca2
   rw [if_pos ⟨hq1,Nat.le_refl _⟩,← HXE.out,← HYE.out] at hca2
   clear hst hrowA
   by_cases hbig:10000 < x + y
   ·have HRN:Hid (R = none):=hid (HR.out.trans (zht (by rw [HOV.out]; exact decide_eq_true hbig) hq2))
    go_wp2
    all_goals
     go_ret2
     rw [HRN.out]
     refine ⟨_,rfl,Pows.empty _ _ _,(HX.out.drew).setCell (p:=⟨ga,q,none⟩) HGA.out _⟩
   ·go_wp2
    go_roundw
    case rel => exact ⟨q,by omega,rfl,(HX.out.drew).setCell (p:=⟨ga,q,none⟩) HGA.out _,HRA,hid (zna (World.rowIs.drewN' HQ.out) (fun e => hgab e.symm) _),hid (by rw [HOV.out]; exact decide_eq_false hbig)⟩
    case measure => simp only [intOf]; omega
  ·obtain rfl:k = 200:=by omega
   have HRS:=hid (HR.out.trans (zhu HO.out))
   have hof:=zrp (mixF a b 200) wr (fun j => by
    have h1:=z2t HMA.out (j:Nat)
    have h2:=z2t HMB.out (j:Nat)
    unfold mixF
    split <;> omega)
   have HOF:=hid hof
   clear hx hof
   go_wp2_with (refine z4y rfl (.tmp 6) rfl rfl HP.out ?_)
   refine HOF.out.mono ?_
   rintro e w7 ⟨v7,rfl,hp,hx7⟩
   have HX7:=hid hx7
   have HP7:=hid hp
   clear hp hx7
   go_wp2
   all_goals
    go_ret2
    rw [HRS.out]
    exact ⟨_,rfl,HP7.out.to (Kept.refl _ _) (New.mono HX.out),HX.out.trans HX7.out⟩
end
section
open Go.RowKit
def z6x (S:Nat → Prop) (w:World) (v:Value) (t:RTerm):Prop:=∃ vm vo,v = .agg #[.bool t.c.neg,vm,vo] ∧ U32s S w vm t.c.mag ∧ Pows S w vo t.m
theorem z6x.to {S S':Nat → Prop} {w w':World} {v:Value} {r:RTerm} (h:z6x S w v r) (hk:Kept S w w') (hS:∀ k,S k → S' k):z6x S' w' v r:=by
 obtain ⟨vm,vo,h1,h2,h3⟩:=h
 exact ⟨vm,vo,h1,h2.to hk hS,h3.to hk hS⟩
theorem New.kept {a w W:World} (hx:Ext w W):Kept (New a w) w W:=Kept.ext hx (fun _ h => h.2)
theorem New.grow {a w W:World} (hx:Ext w W):∀ k,New a w k → New a W k:=fun _ h => ⟨h.1,Nat.lt_of_lt_of_le h.2 hx.size⟩
theorem zb9 {w:World} {b:Nat} {u0 u1 u2:Value} (x y z:Value) (c0:w.cell? ⟨b,0,none⟩ = some u0) (c1:w.cell? ⟨b,1,none⟩ = some u1) (c2:w.cell? ⟨b,2,none⟩ = some u2) :
  (((w.setCell ⟨b,0,none⟩ x).setCell ⟨b,1,none⟩ y).setCell ⟨b,2,none⟩ z).cell? ⟨b,0,none⟩ = some x ∧ (((w.setCell ⟨b,0,none⟩ x).setCell ⟨b,1,none⟩ y).setCell ⟨b,2,none⟩ z).cell? ⟨b,1,none⟩ = some y ∧
  (((w.setCell ⟨b,0,none⟩ x).setCell ⟨b,1,none⟩ y).setCell ⟨b,2,none⟩ z).cell? ⟨b,2,none⟩ = some z :=
 ⟨z09 (z09 (z1h c0) (ao (by decide))) (ao (by decide)),z09 (z1h (z09 c1 (ao (by decide)))) (ao (by decide)),z1h (z09 (z09 c2 (ao (by decide))) (ao (by decide)))⟩
theorem Ext.set3 {a w:World} (h:Ext a w) {b:Nat} (hb:a.heap.size ≤ b) (x y z:Value):Ext a (((w.setCell ⟨b,0,none⟩ x).setCell ⟨b,1,none⟩ y).setCell ⟨b,2,none⟩ z) :=
 (h.set2 hb x y).setCell (p:=⟨b,2,none⟩) hb z
theorem Kept.set3 {S:Nat → Prop} {w:World} {b:Nat} (h:¬ S b) (x y z:Value):Kept S w (((w.setCell ⟨b,0,none⟩ x).setCell ⟨b,1,none⟩ y).setCell ⟨b,2,none⟩ z) :=
 (Kept.set2 h x y).trans (Kept.setCell (a:=⟨b,2,none⟩) h z)
theorem znd {w:World} {b:Nat} (x y z:Value):(((w.setCell ⟨b,0,none⟩ x).setCell ⟨b,1,none⟩ y).setCell ⟨b,2,none⟩ z).heap.size = w.heap.size:=by rw [z07,z2q]
theorem zne {w:World} {b c i j k:Nat} {u0 u1 u2:Value} (h:w.cell? ⟨c,i,none⟩ = some u0 ∧ w.cell? ⟨c,j,none⟩ = some u1 ∧ w.cell? ⟨c,k,none⟩ = some u2) (hne:b ≠ c) (x y z:Value) :
  (((w.setCell ⟨b,0,none⟩ x).setCell ⟨b,1,none⟩ y).setCell ⟨b,2,none⟩ z).cell? ⟨c,i,none⟩ = some u0 ∧ (((w.setCell ⟨b,0,none⟩ x).setCell ⟨b,1,none⟩ y).setCell ⟨b,2,none⟩ z).cell? ⟨c,j,none⟩ = some u1 ∧
  (((w.setCell ⟨b,0,none⟩ x).setCell ⟨b,1,none⟩ y).setCell ⟨b,2,none⟩ z).cell? ⟨c,k,none⟩ = some u2 :=
 ⟨z09 (z09 (z09 h.1 (ab hne)) (ab hne)) (ab hne),z09 (z09 (z09 h.2.1 (ab hne)) (ab hne)) (ab hne),z09 (z09 (z09 h.2.2 (ab hne)) (ab hne)) (ab hne)⟩
def canT (t:RTerm):RTerm:=⟨ofI (valI t.c),t.m⟩
theorem ze4 (S:Nat → Prop) (w:World):IntV S w (.agg #[.bool false,.slice none 0 0]) ⟨false,[]⟩:=⟨_,rfl,U32s.nilv _ _ _ _ (by omega)⟩
theorem z9i:valI ⟨false,[]⟩ = 0:=rfl
theorem ziy {w0 w1 w2:World} {b:Nat} {v:Value} {t:RTerm} (hv:z6x (New w1 w2) w2 v t) (h01:Ext w0 w1) (h12:Ext w1 w2) (hb0:w0.heap.size ≤ b) (hb1:b < w1.heap.size) (x y z:Value) :
  z6x (New w0 (((w2.setCell ⟨b,0,none⟩ x).setCell ⟨b,1,none⟩ y).setCell ⟨b,2,none⟩ z)) (((w2.setCell ⟨b,0,none⟩ x).setCell ⟨b,1,none⟩ y).setCell ⟨b,2,none⟩ z) v t ∧ Ext w0 (((w2.setCell ⟨b,0,none⟩ x).setCell ⟨b,1,none⟩ y).setCell ⟨b,2,none⟩ z):=by
 refine ⟨hv.to (Kept.set3 (fun h => ?_) _ _ _) (fun k hk => ⟨Nat.le_trans h01.size hk.1,?_⟩),(h01.trans h12).set3 hb0 _ _ _⟩
 ·have:=h.1
  omega
 ·rw [znd]
  exact hk.2
theorem zvy {w0 w1 w2:World} {vm vo:Value} {ng:Bool} {zs:List Nat} {m:Mono} (h1:U32s (New w0 w1) w1 vm zs) (x2:Ext w1 w2) (h2:Pows (New w1 w2) w2 vo m) (x1:Ext w0 w1):z6x (New w0 w2) w2 (.agg #[.bool ng,vm,vo]) ⟨⟨ng,zs⟩,m⟩ :=
 ⟨_,_,rfl,h1.to (New.kept x2) (New.grow x2),h2.to (Kept.refl _ _) (New.mono x1)⟩
theorem zhw {S:Nat → Prop} (v:Value) (t:RTerm) (w:World) (h:z6x S w v t) (hS:∀ k,S k → k < w.heap.size) (hr:t.c.mag.length ≤ 40000000000000) (hm:t.m.length ≤ 1000000) :
  Calls Tryz.prog 92 #[v] w fun e w' => ∃ v',e = .returned v' ∧ z6x (New w w') w' v' (canT t) ∧ Ext w w':=by
 obtain ⟨⟨ng,zs⟩,m⟩:=t
 obtain ⟨vm,vo,rfl,hu,hp⟩:=h
 simp only at hu hp hr hm ⊢
 have HU:=hid hu
 have HP:=hid hp
 obtain ⟨am,cm,rfl⟩:=hu.form
 obtain ⟨ao,co,rfl⟩:=hp.form
 clear hu hp
 have HK:=hid (Ext.alloc (Ext.alloc (Ext.refl w) (.cells #[.bool ng,.slice am zs.length cm,.slice ao m.length co] 50)) (.cells #[.bool false,.slice none 0 0,.slice none 0 0] 50))
 have HSZ:Hid (w.heap.size + 1 < ((w.alloc (.cells #[.bool ng,.slice am zs.length cm,.slice ao m.length co] 50)).alloc (.cells #[.bool false,.slice none 0 0,.slice none 0 0] 50)).heap.size):=hid (by simp)
 have HL:Hid (∀ W,Ext ((w.alloc (.cells #[.bool ng,.slice am zs.length cm,.slice ao m.length co] 50)).alloc (.cells #[.bool false,.slice none 0 0,.slice none 0 0] 50)) W →
   W.cell? ⟨w.heap.size,0,none⟩ = some (.bool ng) ∧ W.cell? ⟨w.heap.size,1,none⟩ = some (.slice am zs.length cm) ∧ W.cell? ⟨w.heap.size,2,none⟩ = some (.slice ao m.length co)):=hid (fun W hW => by
  have e1:Ext (w.alloc (.cells #[.bool ng,.slice am zs.length cm,.slice ao m.length co] 50)) W:=(Ext.alloc (Ext.refl _) _).trans hW
  exact ⟨e1.new_cell rfl,e1.new_cell rfl,e1.new_cell rfl⟩)
 have HN:Hid (∀ W,Ext ((w.alloc (.cells #[.bool ng,.slice am zs.length cm,.slice ao m.length co] 50)).alloc (.cells #[.bool false,.slice none 0 0,.slice none 0 0] 50)) W →
   W.cell? ⟨w.heap.size + 1,0,none⟩ = some (.bool false) ∧ W.cell? ⟨w.heap.size + 1,1,none⟩ = some (.slice none 0 0) ∧ W.cell? ⟨w.heap.size + 1,2,none⟩ = some (.slice none 0 0) ∧ ∀ i,W.frozen? ⟨w.heap.size + 1,i,none⟩ = false):=hid (fun W hW => by
  have k:=fun i v hv => hW.new_cell (i:=i) (v:=v) hv
  have f:=fun i => hW.new_free i
  rw [z02] at k f
  exact ⟨k 0 _ rfl,k 1 _ rfl,k 2 _ rfl,f⟩)
 go_enter Tryz.func92,Tryz.ntmps92
 go_wp2
 go_outline
 have x0:=Ext.drew (Ext.refl ((w.alloc (.cells #[.bool ng,.slice am zs.length cm,.slice ao m.length co] 50)).alloc (.cells #[.bool false,.slice none 0 0,.slice none 0 0] 50)))
 have S0:=HL.out _ x0
 have HX0:=hid x0
 clear x0
 go_region_held3 (fun W => W.cell? ⟨w.heap.size,0,none⟩ = some (.bool ng) ∧ W.cell? ⟨w.heap.size,1,none⟩ = some (.slice am zs.length cm) ∧ W.cell? ⟨w.heap.size,2,none⟩ = some (.slice ao m.length co)) (first | exact S0 | exact S1 | exact S2 | exact zne S2 (by omega) _ _ _)
  (first
   | (go_at_call 60; (with_reducible refine (z6u _ _ ⟨ng,zs⟩ ⟨false,[]⟩ _ (z2x (HU.out.ext (HK.out.trans HX0.out) hS)) (ze4 _ _) (z08 hS (HK.out.trans HX0.out)) hr (by decide)).mono ?_); rintro e w1 ⟨v1,rfl,⟨vm1,rfl,hv1⟩,hx1⟩; have HX1:=hid hx1; have S1:=HL.out _ (HX0.out.trans hx1); have HV1:=hid hv1; obtain ⟨a1,n1,rfl⟩:=hv1.form; clear hx1 hv1)
   | (go_at_call 61; (with_reducible refine (z7f _ m _ (HP.out.ext (HK.out.trans (HX0.out.trans HX1.out)) hS) (z08 hS (HK.out.trans (HX0.out.trans HX1.out))) hm).mono ?_); rintro e w2 ⟨v2,rfl,hv2,hx2⟩; have HX2:=hid hx2; have S2:=HL.out _ (HX0.out.trans (HX1.out.trans hx2)); obtain ⟨c0,c1,c2,cf⟩:=HN.out _ (HX0.out.trans (HX1.out.trans hx2)); have f0:=cf 0; have f1:=cf 1; have f2:=cf 2; have HE:=hid (And.intro c0 (And.intro c1 c2)); clear cf; have HV2:=hid hv2; obtain ⟨a2,n2,rfl⟩:=hv2.form; clear hx2 hv2))
 go_wp2
 have hd:=fun x y z => zb9 x y z HE.out.1 HE.out.2.1 HE.out.2.2
 refine bodyPost_ret (by simp [results,Tryz.results92,go_sem,(hd _ _ _).1,(hd _ _ _).2.1,(hd _ _ _).2.2]; rfl) rfl ?_
 have e0:canT ⟨⟨ng,zs⟩,m⟩ = ⟨ofI (valI ⟨ng,zs⟩ + valI ⟨false,[]⟩),m⟩:=by rw [z9i,Int.add_zero]; rfl
 have hv:=zvy (ng:=(ofI (valI ⟨ng,zs⟩ + valI ⟨false,[]⟩)).neg) HV1.out HX2.out HV2.out HX1.out
 have hg:=ziy (w0:=w) (b:=w.heap.size + 1) hv (HK.out.trans HX0.out) (HX1.out.trans HX2.out) (by omega) (Nat.lt_of_lt_of_le HSZ.out HX0.out.size) (.bool (ofI (valI ⟨ng,zs⟩ + valI ⟨false,[]⟩)).neg) (.slice a1 (ofI (valI ⟨ng,zs⟩ + valI ⟨false,[]⟩)).mag.length n1) (.slice a2 m.length n2)
 rw [e0]
 exact ⟨_,rfl,hg.1,hg.2⟩
def zct (ts:List RTerm):RTerm:=match z2v ts with
 | [] => ⟨⟨false,[]⟩,[]⟩
 | t :: _ => canT t
def zrq (w:World) (ts:List RTerm):Ending → World → Prop:=fun e w' => ∃ v',e = .returned (.tuple #[v',.bool (decide (0 < (z2v ts).length))]) ∧ z6x (New w w') w' v' (zct ts) ∧ Ext w w'
theorem zfs (S:Nat → Prop) (w:World):z6x S w (.agg #[.bool false,.slice none 0 0,.slice none 0 0]) ⟨⟨false,[]⟩,[]⟩:=⟨_,_,rfl,U32s.nilv _ _ _ _ (by omega),Pows.empty _ _ _⟩
theorem zkt {ts:List RTerm} (h:mayT ts = true):∀ t ∈ ts,t.m.length ≤ 200:=by
 intro t ht
 have:=(z5c h).1 t ht
 simp only [z2e,Bool.and_eq_true] at this
 exact z4g this.2
theorem znf {S:Nat → Prop} (v:Value) (ts:List RTerm) (w:World) (h:z06 S w v ts) (hS:∀ k,S k → k < w.heap.size) (hr:z3r ts) :
  Calls Tryz.prog 52 #[v] w (zrq w ts):=by
 have hnot:∀ (x:Bool) (w:World),(Op.unary .not (.bool x)).run Tryz.prog w = .ok (.bool (!x)) w:=fun _ _ => rfl
 have H:=hid h
 have HR:=hid hr
 obtain ⟨a,cap,rfl⟩:=h.form
 have hl:=h.len_le
 clear h hr
 have HK:=hid (Ext.alloc (Ext.refl w) (.cells #[.bool false,.slice none 0 0,.slice none 0 0] 50))
 have HN:Hid (∀ W,Ext (w.alloc (.cells #[.bool false,.slice none 0 0,.slice none 0 0] 50)) W →
   W.cell? ⟨w.heap.size,0,none⟩ = some (.bool false) ∧ W.cell? ⟨w.heap.size,1,none⟩ = some (.slice none 0 0) ∧ W.cell? ⟨w.heap.size,2,none⟩ = some (.slice none 0 0) ∧ ∀ i,W.frozen? ⟨w.heap.size,i,none⟩ = false):=hid (fun W hW => ⟨hW.new_cell rfl,hW.new_cell rfl,hW.new_cell rfl,fun i => hW.new_free i⟩)
 have HSZ:Hid (w.heap.size < (w.alloc (.cells #[.bool false,.slice none 0 0,.slice none 0 0] 50)).heap.size):=hid (by simp)
 by_cases h0:ts.length = 0
 ·obtain rfl:ts = []:=List.length_eq_zero_iff.1 h0
  clear h0
  obtain ⟨c0,c1,c2,cf⟩:=HN.out _ (Ext.refl _)
  have f0:=cf 0
  have f1:=cf 1
  have f2:=cf 2
  have HE:=hid (And.intro c0 (And.intro c1 c2))
  clear cf
  go_enter Tryz.func52,Tryz.ntmps52
  go_wp2
  refine bodyPost_ret (by simp [results,Tryz.results52,go_sem]; rfl) rfl ?_
  exact ⟨_,rfl,zfs _ _,HK.out⟩
 ·have hb:((ts.length:Int) == 0) = false:=by rw [beq_eq_false_iff_ne]; omega
  have hlt:0 < ts.length:=by omega
  have hM:=fun W (hW:Ext (w.alloc (.cells #[.bool false,.slice none 0 0,.slice none 0 0] 50)) W) => z4i (S:=S) _ ts W (H.out.ext (HK.out.trans hW) hS) (z08 hS (HK.out.trans hW)) HR.out
  cases hm:mayT ts with
  | false =>
   simp only [hm] at hM
   have HM:=hid hM
   have e1:z2v ts = []:=by simp [z2v,hm]
   have E:=hid e1
   clear hM hm h0 e1
   go_enter Tryz.func52,Tryz.ntmps52
   go_wp2_with fail
   refine (HM.out _ (Ext.refl _)).mono ?_
   rintro e w1 ⟨rfl,hx1⟩
   obtain ⟨c0,c1,c2,cf⟩:=HN.out _ hx1
   have f0:=cf 0
   have f1:=cf 1
   have f2:=cf 2
   have HE:=hid (And.intro c0 (And.intro c1 c2))
   have HX1:=hid hx1
   clear cf hx1
   go_wp2
   have hd:=fun x y z => zb9 x y z HE.out.1 HE.out.2.1 HE.out.2.2
   refine bodyPost_ret (by simp [results,Tryz.results52,go_sem,(hd _ _ _).1,(hd _ _ _).2.1,(hd _ _ _).2.2]; rfl) rfl ?_
   refine ⟨_,by rw [E.out]; rfl,?_,(HK.out.trans HX1.out).set3 (Nat.le_refl _) _ _ _⟩
   unfold zct
   rw [E.out]
   exact zfs _ _
  | true =>
   simp only [hm] at hM
   have HM:=hid hM
   have e1:z2v ts = ts:=by simp [z2v,hm]
   have E:=hid e1
   obtain ⟨t,ht⟩:=z01 hlt
   have htl:=zkt hm t (List.mem_of_getElem? ht)
   have htr:=HR.out t (List.mem_of_getElem? ht)
   obtain ⟨b,off,vm,vo,rfl,-,hn1,hm1,hSb,h1,h2,h3,h4,h5⟩:=H.out.cellAt ht
   have HT:=hid ht
   simp only [Nat.zero_mul,Nat.add_zero] at h1 h2 h3
   have HC:=hid (And.intro h1 (And.intro h2 h3))
   obtain ⟨⟨ng,zs⟩,m⟩:=t
   simp only at h1 h2 h3 h4 h5 HC htl htr
   have H4:=hid h4
   have H5:=hid h5
   obtain ⟨am,cm,rfl⟩:=h4.form
   obtain ⟨ao,co,rfl⟩:=h5.form
   have HTL:=hid (And.intro htl htr)
   clear hM hm h0 e1 ht h4 h5 h1 h2 h3 htl htr
   go_enter Tryz.func52,Tryz.ntmps52
   go_wp2_with fail
   refine (HM.out _ (Ext.refl _)).mono ?_
   rintro e w1 ⟨rfl,hx1⟩
   have HX1:=hid hx1
   have g1:=(HK.out.trans hx1).cell HC.out.1
   have g2:=(HK.out.trans hx1).cell HC.out.2.1
   have g3:=(HK.out.trans hx1).cell HC.out.2.2
   clear hx1
   go_wp2_with fail
   refine (zhw _ ⟨⟨ng,zs⟩,m⟩ _ ⟨_,_,rfl,H4.out.ext (HK.out.trans HX1.out) hS,H5.out.ext (HK.out.trans HX1.out) hS⟩ (z08 hS (HK.out.trans HX1.out)) HTL.out.2 (Nat.le_trans HTL.out.1 (by decide))).mono ?_
   rintro e w2 ⟨v2,rfl,hv2,hx2⟩
   obtain ⟨c0,c1,c2,cf⟩:=HN.out _ (HX1.out.trans hx2)
   have f0:=cf 0
   have f1:=cf 1
   have f2:=cf 2
   have HE:=hid (And.intro c0 (And.intro c1 c2))
   have HX2:=hid hx2
   have HV2:=hid hv2
   obtain ⟨vm2,vo2,rfl,hq1,hq2⟩:=hv2
   obtain ⟨a1,n1,rfl⟩:=hq1.form
   obtain ⟨a2,n2,rfl⟩:=hq2.form
   clear cf hx2 hq1 hq2
   go_wp2
   have hd:=fun x y z => zb9 x y z HE.out.1 HE.out.2.1 HE.out.2.2
   refine bodyPost_ret (by simp [results,Tryz.results52,go_sem,(hd _ _ _).1,(hd _ _ _).2.1,(hd _ _ _).2.2]; rfl) rfl ?_
   have hg:=ziy (w0:=w) (b:=w.heap.size) HV2.out (HK.out.trans HX1.out) HX2.out (by omega) (Nat.lt_of_lt_of_le HSZ.out HX1.out.size) (.bool (canT ⟨⟨ng,zs⟩,m⟩).c.neg) (.slice a1 (canT ⟨⟨ng,zs⟩,m⟩).c.mag.length n1) (.slice a2 (canT ⟨⟨ng,zs⟩,m⟩).m.length n2)
   have el:zct ts = canT ⟨⟨ng,zs⟩,m⟩:=by
    unfold zct
    rw [E.out]
    cases ts with
    | nil => simp at hlt
    | cons t r =>
     obtain rfl:t = ⟨⟨ng,zs⟩,m⟩:=by simpa using HT.out
     rfl
   refine ⟨_,by rw [E.out,decide_eq_true hlt],?_,hg.2⟩
   rw [el]
   exact hg.1
theorem z5x {S:Nat → Prop} (v:Value) (ts:List RTerm) (w:World) (h:z06 S w v ts) (hS:∀ k,S k → k < w.heap.size) (hr:z3r ts) :
  Calls Tryz.prog 23 #[v] w fun e w' => e = .returned (.int .i64 (z0t (z0q ts))) ∧ Ext w w':=by
 have ec:z1j (z1a (zct ts).m) = z0t (z0q ts):=by
  unfold zct
  rw [← z5v]
  cases hp:z2v ts with
  | nil => rfl
  | cons t r =>
   have hm:mayM t.m = true:=by
    have h1:=(z3e ts).may (valI t.c,t.m) (by rw [← z5v,hp]; exact List.mem_cons_self)
    exact h1
   show z1j (z1a (canT t).m) = z1j t.m
   unfold z1a canT
   rw [if_pos hm]
 have EC:=hid ec
 have H:=hid h
 have HR:=hid hr
 obtain ⟨a,cap,rfl⟩:=h.form
 clear h hr ec
 go_enter Tryz.func23,Tryz.ntmps23
 go_wp2_with fail
 refine (znf _ ts w H.out hS HR.out).mono ?_
 rintro e w1 ⟨v1,rfl,⟨vm,vo,rfl,hq1,hq2⟩,hx1⟩
 obtain ⟨a1,n1,rfl⟩:=hq1.form
 obtain ⟨a2,n2,rfl⟩:=hq2.form
 have HX1:=hid hx1
 have HQ:=hid hq2
 have HA:=hid (Ext.alloc (Ext.refl w1) (.cells #[.bool (zct ts).c.neg,.slice a1 (zct ts).c.mag.length n1,.slice a2 (zct ts).m.length n2] 50))
 clear hx1 hq1 hq2
 go_wp2_with fail
 refine (zk1 _ (zct ts).m _ (HQ.out.ext HA.out (fun _ h => h.2)) (z08 (fun _ h => h.2) HA.out)).mono ?_
 rintro e w2 ⟨rfl,hx2⟩
 have HX2:=hid hx2
 clear hx2
 go_wp2
 all_goals
  go_ret
  exact ⟨by rw [EC.out]; rfl,HX1.out.trans (HA.out.trans HX2.out)⟩
theorem zd7 {S:Nat → Prop} (v:Value) (ts:List RTerm) (w:World) (h:z06 S w v ts) (hS:∀ k,S k → k < w.heap.size) (hr:z3r ts) :
  Calls Tryz.prog 59 #[v] w fun e w' => ∃ v',e = .returned v' ∧ z06 S w' v' (z2v ts) ∧ Ext w w':=by
 have H:=hid h
 have HR:=hid hr
 obtain ⟨a,cap,rfl⟩:=h.form
 clear h hr
 go_enter Tryz.func59,Tryz.ntmps59
 go_wp2_with fail
 refine (z4i _ ts w H.out hS HR.out).mono ?_
 rintro e w1 ⟨rfl,hx1⟩
 have HX1:=hid hx1
 clear hx1
 cases hm:mayT ts with
 | false =>
  go_wp2
  all_goals
   go_ret
   refine ⟨_,rfl,?_,HX1.out⟩
   rw [show z2v ts = [] by simp [z2v,hm]]
   exact ⟨0,0,⟨_,0,rfl,Nat.le_refl _,Nat.zero_le _,fun h => absurd h (Nat.lt_irrefl _),fun h => absurd h (Nat.lt_irrefl _)⟩,fun j x hx => by simp at hx⟩
 | true =>
  go_wp2
  all_goals
   go_ret
   refine ⟨_,rfl,?_,HX1.out⟩
   rw [show z2v ts = ts by simp [z2v,hm]]
   exact H.out.ext HX1.out hS
end
section
open Go.RowKit
theorem new2 {w W:World} {u v:Value} {T:TypeId} (h:Ext (w.alloc (.cells #[u,v] T)) W) :
  W.cell? ⟨w.heap.size,0,none⟩ = some u ∧ W.cell? ⟨w.heap.size,1,none⟩ = some v ∧ W.frozen? ⟨w.heap.size,0,none⟩ = false ∧ W.frozen? ⟨w.heap.size,1,none⟩ = false :=
 ⟨h.new_cell rfl,h.new_cell rfl,h.new_free 0,h.new_free 1⟩
theorem zng (p:PZ) (t:Int × Mono) (v:Int):degP (p ++ [t]) v = max (degP p v) (ex t.2 v):=by
 simp [degP,List.foldl_append]
theorem znh {p:PZ} {k:Nat} {t:Int × Mono} (h:p[k]? = some t) (v:Int):degP (p.take (k + 1)) v = max (degP (p.take k) v) (ex t.2 v):=by
 rw [List.take_add_one,h]
 exact zng _ _ _
theorem zhx {p:PZ} (h:z0k p) (k:Nat):z0k (p.take k):=fun t ht => h t (List.mem_of_mem_take ht)
theorem zba {S:Nat → Prop} (v:Value) (ts:List RTerm) (x:Int) (w:World) (h:z06 S w v ts) (hS:∀ k,S k → k < w.heap.size) (hr:z3r ts) (hx:-9223372036854775808 ≤ x ∧ x ≤ 9223372036854775807) :
  Calls Tryz.prog 29 #[v,.int .i64 x] w fun e w' => e = .returned (.int .i64 (degP (z0q ts) x)) ∧ Ext w w':=by
 have H:=hid h
 have HR:=hid hr
 have HXB:=hid hx
 obtain ⟨a,cap,rfl⟩:=h.form
 clear h hr hx
 go_enter Tryz.func29,Tryz.ntmps29
 go_wp2_with fail
 refine (zd7 _ ts w H.out hS HR.out).mono ?_
 rintro e w1 ⟨v1,rfl,hp,hx1⟩
 have HX1:=hid hx1
 have HP:=hid hp
 have hcan:z0k (z0q ts):=(z3e ts).may
 rw [← z5v] at hcan
 have ep:z0q ts = toP (z2v ts):=(z5v ts).symm
 have EP:=hid ep
 clear ep
 generalize z2v ts = qs at *
 have HCAN:=hid hcan
 obtain ⟨a1,c1,rfl⟩:=hp.form
 have hl:=hp.len_le
 clear hx1 hp hcan
 go_wp2
 go_loopw [4,10] (fun d i wr => ∃ k:Nat,k ≤ qs.length ∧ i = .int .i64 k ∧ d = .int .i64 (degP ((toP qs).take k) x) ∧ Ext w1 wr) (fun _ i _ => qs.length - (intOf i).toNat)
 case atStart => exact ⟨0,Nat.zero_le _,rfl,rfl,Ext.refl _⟩
 case round =>
  obtain ⟨k,hk,rfl,rfl,hx⟩:=hrel
  obtain ⟨hd1,hd2⟩:=z18 (zhx HCAN.out k) x
  by_cases hlt:k < qs.length
  ·obtain ⟨t,ht⟩:=z01 hlt
   obtain ⟨b,off,vm,vo,rfl,-,hn1,hm1,hSb,h1,h2,h3,h4,h5⟩:=HP.out.cellAt ht
   have hq:(toP qs)[k]? = some (valI t.c,t.m):=by simp [toP,ht]
   have hmm:mayM t.m = true:=HCAN.out _ (List.mem_of_getElem? hq)
   have hep:ex (z1a t.m) x = ex t.m x:=by unfold z1a; rw [if_pos hmm]
   have HS:=hid (znh hq x)
   obtain ⟨he1,he2⟩:=z2t hmm x
   obtain ⟨⟨ng,zs⟩,m⟩:=t
   simp only at h1 h2 h3 h4 h5 hep he1 he2 HS
   have H5:=hid h5
   obtain ⟨am,cm,rfl⟩:=h4.form
   obtain ⟨ao,co,rfl⟩:=h5.form
   have g1:=Ext.cell hx h1
   have g2:=Ext.cell hx h2
   have g3:=Ext.cell hx h3
   have HX:=hid hx
   have HA:=hid (hx.alloc (.cells #[.bool ng,.slice am zs.length cm,.slice ao m.length co] 50))
   have hS1:∀ k,S k → k < w1.heap.size:=z08 hS HX1.out
   have HD:=zaz (S:=S) (.slice ao m.length co) m x _ (H5.out.ext HA.out hS1) (z08 hS1 HA.out) HXB.out
   rw [hep] at HD
   have HDD:=hid HD
   clear h1 h2 h3 h4 h5 hx ht hq hmm hep HD
   generalize degP ((toP qs).take k) x = d at *
   generalize ex m x = q at *
   go_wp2_with fail
   refine HDD.out.mono ?_
   rintro e w2 ⟨rfl,hx2⟩
   have HX2:=hid (HA.out.trans hx2)
   clear hx2
   go_wp2
   go_roundw
   case rel => exact ⟨k + 1,by omega,by go_num,by rw [HS.out]; first | done | exact congrArg (Value.int .i64) (by split <;> omega),HX2.out⟩
   case measure => simp only [intOf]; omega
  ·obtain rfl:k = qs.length:=by omega
   have HX:=hid hx
   clear hx
   go_wp2
   all_goals
    go_ret
    refine ⟨?_,HX1.out.trans HX.out⟩
    rw [EP.out,List.take_of_length_le (by simp [toP])]
    rfl
end
section
open Go.RowKit
def ZV (S:Nat → Prop) (w:World) (v:Value) (z:Int):Prop:=∃ vd,v = .agg #[.bool (decide (z < 0)),vd] ∧ Digs S w vd (rep 10 z.natAbs)
theorem ZV.to {S S':Nat → Prop} {w w':World} {v:Value} {z:Int} (h:ZV S w v z) (hk:Kept S w w') (hS:∀ k,S k → S' k):ZV S' w' v z:=by
 obtain ⟨vd,h1,h2⟩:=h
 exact ⟨vd,h1,h2.to hk hS⟩
theorem ZV.ext {S:Nat → Prop} {w W:World} {v:Value} {z:Int} (h:ZV S w v z) (hx:Ext w W) (hS:∀ k,S k → k < w.heap.size):ZV S W v z:=h.to (Kept.ext hx hS) (fun _ h => h)
theorem ZV.form {S:Nat → Prop} {w:World} {v:Value} {z:Int} (h:ZV S w v z):∃ a n c,v = .agg #[.bool (decide (z < 0)),.slice a n c]:=by
 obtain ⟨vd,h1,h2⟩:=h
 obtain ⟨a,c,rfl⟩:=h2.form
 exact ⟨a,_,c,h1⟩
theorem zy3 (b:Bool) (n:Nat):decide (sg b n < 0) = (b && decide (0 < n)):=by
 unfold sg
 cases b <;> simp <;> omega
theorem zy4 (b:Bool) (n:Nat):(sg b n).natAbs = n:=by
 unfold sg
 cases b <;> simp
theorem z5y (n:Nat):decide (0 < (rep 10 n).length) = decide (0 < n):=by
 rw [decide_eq_decide,List.length_pos_iff,Ne,z2d z0h]
 omega
theorem zni {S:Nat → Prop} {w:World} {vd:Value} {b:Bool} {n:Nat} (h:Digs S w vd (rep 10 n)):ZV S w (.agg #[.bool (b && decide (0 < n)),vd]) (sg b n) :=
 ⟨vd,by rw [zy3],by rw [zy4]; exact h⟩
theorem z6y {w0 w1 w2:World} {b:Nat} {v:Value} {z:Int} (hv:ZV (New w1 w2) w2 v z) (h01:Ext w0 w1) (h12:Ext w1 w2) (hb0:w0.heap.size ≤ b) (hb1:b < w1.heap.size) (x y:Value) :
  ZV (New w0 ((w2.setCell ⟨b,0,none⟩ x).setCell ⟨b,1,none⟩ y)) ((w2.setCell ⟨b,0,none⟩ x).setCell ⟨b,1,none⟩ y) v z ∧ Ext w0 ((w2.setCell ⟨b,0,none⟩ x).setCell ⟨b,1,none⟩ y):=by
 refine ⟨hv.to (Kept.set2 (fun h => ?_) _ _) (fun k hk => ⟨Nat.le_trans h01.size hk.1,?_⟩),(h01.trans h12).set2 hb0 _ _⟩
 ·have:=h.1
  omega
 ·rw [z2q]
  exact hk.2
theorem zku {w W:World} {u0 v0:Value} {T0:TypeId} {u v:Value} {T:TypeId} (h:Ext ((w.alloc (.cells #[u0,v0] T0)).alloc (.cells #[u,v] T)) W) :
  W.cell? ⟨w.heap.size + 1,0,none⟩ = some u ∧ W.cell? ⟨w.heap.size + 1,1,none⟩ = some v ∧ W.frozen? ⟨w.heap.size + 1,0,none⟩ = false ∧ W.frozen? ⟨w.heap.size + 1,1,none⟩ = false:=by
 have:=new2 h
 rw [z02] at this
 exact this
theorem old2 {w W:World} {u0 v0:Value} {T0:TypeId} {o:Obj} (h:Ext ((w.alloc (.cells #[u0,v0] T0)).alloc o) W):W.cell? ⟨w.heap.size,0,none⟩ = some u0 ∧ W.cell? ⟨w.heap.size,1,none⟩ = some v0 :=
 ⟨(new2 ((Ext.alloc (Ext.refl _) o).trans h)).1,(new2 ((Ext.alloc (Ext.refl _) o).trans h)).2.1⟩
def szZ (z:Int):Prop:=(rep 10 z.natAbs).length ≤ 2000000
end
section
open Go.RowKit
def ze5 (o:Oper):Bool:=match o.op with
 | .move _ => true
 | .assign _ => true
 | .pick _ _ _ => true
 | .load _ _ => true
 | .build _ _ => true
 | .fieldAddr _ _ _ => true
 | .indexAddr _ _ _ => true
 | .binOp _ _ _ _ _ => true
 | .unOp _ _ _ => true
 | .convert _ _ _ => true
 | .extract _ _ => true
 | .call c => match c.callee with
  | .builtin .len => true
  | _ => false
 | _ => false
theorem z3f {P:Program} (s:Sem Value) (W:World):(∃ x w',(do pure (Next.value (← s)):Sem Next).run P W = .ok (.value x) w') ∨ (∃ h w',(do pure (Next.value (← s)):Sem Next).run P W = .halt h w'):=by
 simp only [Sem.run_bind]
 cases s.run P W with
 | ok x w' => exact .inl ⟨x,w',by simp⟩
 | halt h w' => exact .inr ⟨h,w',rfl⟩
theorem znj {P:Program} {o:Oper} (h:ze5 o = true) (ρ:Operand → Value) (W:World):(∃ x w',(execOp ρ o).run P W = .ok (.value x) w') ∨ (∃ h w',(execOp ρ o).run P W = .halt h w'):=by
 unfold ze5 at h
 unfold execOp
 cases hop:o.op with
 | move x => exact .inl ⟨_,_,rfl⟩
 | assign x => exact .inl ⟨_,_,rfl⟩
 | pick c a b =>
  simp only [Sem.run_bind]
  cases (asBool (ρ c)).run P W with
  | ok x w' => exact .inl ⟨_,w',rfl⟩
  | halt h w' => exact .inr ⟨h,w',rfl⟩
 | load t a => exact z3f _ W
 | build t a => exact z3f _ W
 | fieldAddr t a b => exact z3f _ W
 | indexAddr t a b => exact z3f _ W
 | binOp a b c d e => exact z3f _ W
 | unOp a b c => exact z3f _ W
 | convert a b c => exact z3f _ W
 | extract a b => exact z3f _ W
 | call c =>
  rw [hop] at h
  simp only at h
  split at h
  ·rename_i hc
   simp only [resolve,hc,Sem.run_bind,Sem.run_pure,Result.andThen_ok,invoke,builtin]
   cases (Builtin.len_ c.argTypes o.type (Array.map ρ c.args)).run P W with
   | ok x w' => exact .inl ⟨x,w',rfl⟩
   | halt h w' => exact .inr ⟨h,w',rfl⟩
  ·cases h
 | _ => rw [hop] at h; simp at h
theorem zft {P:Program} {ops:Array Oper} {S:World → Prop} {o:Oper} {v:Value} {a:Act} (hp:ze5 o = true) (h:YieldsIn P ops S o v a):YieldsIf P ops S o v a:=by
 rcases h with ⟨hw,hv⟩ | ⟨hw,hv⟩
 ·refine .inl ⟨hw,fun W hW => ?_⟩
  have h1:=hv W hW
  unfold Oper.quietAt at h1
  rcases znj (P:=P) hp a.eval W with ⟨x,w',e⟩ | ⟨x,w',e⟩
  ·rw [e] at h1 ⊢
   simp only [Oper.quietUpon] at h1
   rw [h1.1,h1.2]
  ·rw [e] at h1
   exact absurd h1 (by simp [Oper.quietUpon])
 ·exact .inr ⟨hw,hv⟩
def zrr (md:Region.Mode) (ops:Array Oper) (g:Nat):List Oper → Nat → Array Bool → Bool
 | [],k,listed => Region.seqB md ops g k listed
 | o :: l,k,listed => ze5 o && (Region.ready md ops listed).contains k && Region.free md ops listed k && zrr md ops g l (k + 1) (listed.setIfInBounds k true)
def zy5 (S:World → Prop) (K:Act → World → Prop) (Q:Exit → Act → World → Prop):Exit → Act → World → Prop
 | .normal,a,w => S w ∧ K a w
 | ex,a,w => Q ex a w
def zbb (P:Program) (ops:Array Oper) (S:World → Prop) (Q:Exit → Act → World → Prop):List Oper → Act → World → Prop
 | [],a,w => Q .normal a w
 | o :: l,a,w => wpList P ops (zy5 S (zbb P ops S Q l) Q) [o] a w
section
variable {P:Program} {md:Region.Mode} {ops:Array Oper} {S:World → Prop} {Q:Exit → Act → World → Prop}
theorem za4:∀ (l:List Oper) (k:Nat) (listed:Array Bool) (a:Act) (w:World),(∀ j,l[j]? = ops[k + j]?) →
  Region.seqB md ops l.length k listed = true → zbb P ops S Q l a w → wpAnyH P md ops Q S l.length listed a w
 | [],_,_,_,_,_,hB,h => ⟨by simpa [Region.seqB] using hB,h⟩
 | o :: l,k,listed,a,w,hl,hB,h => by
  have h0:ops[k]? = some o:=by simpa using (hl 0).symm
  simp only [List.length_cons,Region.seqB,Bool.and_eq_true,decide_eq_true_eq] at hB
  refine ⟨fun h1 => (by rw [hB.1] at h1; cases h1),fun i hi => ?_⟩
  rw [hB.1] at hi
  have hik:i = k:=by simpa using hi
  subst hik
  have hrest:∀ a' w',(S w' ∧ zbb P ops S Q l a' w') → (S w' ∧ wpAnyH P md ops Q S l.length (listed.setIfInBounds i true) a' w'):=fun a' w' h' =>
   ⟨h'.1,za4 l (i + 1) _ a' w' (fun j => by have:=hl (j + 1); simpa [Nat.add_assoc,Nat.add_comm 1 j] using this) hB.2 h'.2⟩
  unfold zbb wpList at h
  unfold wpOp
  simp only [h0]
  have hu:∀ (K:Act → World → Prop) (r:Result Next),o.upon P a K (zy5 S (zbb P ops S Q l) Q) r → o.upon P a K Q r:=by
   intro K r hr
   cases r with
   | ok n w' => cases n <;> exact hr
   | halt x w' => cases x <;> exact hr
  split
  ·rename_i hw
   rw [if_pos hw] at h
   rcases h with h | h
   ·exact .inl (Oper.wp_mono (fun a' w' h' => hrest a' w' h') (hu _ _ h))
   ·exact .inr h
  ·rename_i hw
   rw [if_neg hw] at h
   exact hrest _ _ h
theorem za5 (hsel:Region.noSelect ops = true) (hQ:∀ c a t v w,Q (.panic c) (a.put (some t) v) w → Q (.panic c) a w) {g:Nat} {w:World} (hS:S w) {L:Act → Prop} :
  ∀ (l:List Oper) (k:Nat) (listed:Array Bool) (a:Act),(∀ j,j < l.length → l[j]? = ops[k + j]?) → zrr md ops g l k listed = true → wpQuiet P ops S L l a →
   (∀ listed' a',Region.seqB md ops g (k + l.length) listed' = true → L a' → wpAnyH P md ops Q S g listed' a' w) → wpAnyH P md ops Q S (l.length + g) listed a w
 | [],k,listed,a,_,hB,h,hL => by
  simp only [List.length_nil,Nat.zero_add]
  exact hL listed a hB h
 | o :: l,k,listed,a,hl,hB,h,hL => by
  have h0:ops[k]? = some o:=by simpa using (hl 0 (by simp)).symm
  simp only [zrr,Bool.and_eq_true] at hB
  obtain ⟨⟨⟨hp,hr⟩,hf⟩,hB'⟩:=hB
  have hq:qOp P ops S k (wpQuiet P ops S L l) a:=by unfold qOp; simp only [h0]; exact h
  obtain ⟨v,hy,hK⟩:=yieldsIn_of_qOp h0 hq
  rw [show (o :: l).length + g = (l.length + g) + 1 by simp only [List.length_cons]; omega]
  refine wpAnyH_take h0 hsel hf hr (fun c a w hp => ?_) (zft hp hy) hS ?_
  ·cases hd:o.dst with
   | none => rw [hd] at hp; exact hp
   | some t => rw [hd] at hp; exact hQ c a t v w hp
  exact za5 hsel hQ hS l (k + 1) _ _ (fun j hj => by have:=hl (j + 1) (by simp; omega); simpa [Nat.add_assoc,Nat.add_comm 1 j] using this) hB' hK
   (fun listed' a' hs hLa => hL listed' a' (by rw [show k + (o :: l).length = k + 1 + l.length by simp only [List.length_cons]; omega]; exact hs) hLa)
theorem ze6 {id:Nat} {a:Act} {w:World} {l:List Oper} (S:World → Prop) (n:Nat) (hm:P.follows .mixedOrders = true) (hsel:Region.noSelect l.toArray = true) (hn:n ≤ l.length)
  (hB:zrr .any l.toArray (l.length - n) (l.take n) 0 (Array.replicate l.length false) = true) (hQ:∀ c a t v w,Q (.panic c) (a.put (some t) v) w → Q (.panic c) a w) (hS:S w.drew)
  (h:wpQuiet P l.toArray S (fun a' => zbb P l.toArray S Q (l.drop n) a' w.drew) (l.take n) a):(Code.region id l.toArray true).wp P Q a w:=by
 refine wp_region_held (S:=S) hm ?_
 have htl:(l.take n).length = n:=by simp; omega
 have hdl:(l.drop n).length = l.length - n:=by simp
 have H:=za5 (P:=P) (md:=.any) (ops:=l.toArray) (S:=S) (Q:=Q) hsel hQ (g:=l.length - n) (w:=w.drew) hS (l.take n) 0 (Array.replicate l.length false) a (fun j hj => by
  have hj':j < n:=by rw [htl] at hj; exact hj
  simp [hj']) hB h (fun listed' a' hs hL => by
   have:=za4 (P:=P) (md:=.any) (ops:=l.toArray) (S:=S) (Q:=Q) (l.drop n) n listed' a' w.drew (fun j => by simp [List.getElem?_drop]) (by rw [hdl]; rw [htl,Nat.zero_add] at hs; exact hs) hL
   rwa [hdl] at this)
 rw [htl,show n + (l.length - n) = l.length by omega] at H
 simpa using H
end
structure LaterB (B:Nat) (w:World) where
 w':World
 h:Below B w w'
theorem LaterB.cell {B:Nat} {w:World} (X:LaterB B w) {b i:Nat} {v:Value} (hb:b < B) (hc:w.cell? ⟨b,i,none⟩ = some v):X.w'.cell? ⟨b,i,none⟩ = some v:=z6k X.h hb hc
end
section
open Go.RowKit
theorem zfu {w0 w1 w2:World} {b:Nat} {z:Int} {vm:Value} (hu:U32s (New w1 w2) w2 vm (rep B32 z.natAbs)) (h01:Ext w0 w1) (h12:Ext w1 w2) (hb0:w0.heap.size ≤ b) (hb1:b < w1.heap.size) (x y:Value) :
  IntV (New w0 ((w2.setCell ⟨b,0,none⟩ x).setCell ⟨b,1,none⟩ y)) ((w2.setCell ⟨b,0,none⟩ x).setCell ⟨b,1,none⟩ y) (.agg #[.bool (decide (z < 0)),vm]) (ofI z) ∧ Ext w0 ((w2.setCell ⟨b,0,none⟩ x).setCell ⟨b,1,none⟩ y) :=
 z33 (r:=ofI z) rfl hu h01 h12 hb0 hb1 x y
theorem zvz {S:Nat → Prop} (v:Value) (z:Int) (w:World) (h:ZV S w v z) (hS:∀ k,S k → k < w.heap.size) (hr:szZ z) :
  Calls Tryz.prog 35 #[v] w fun e w' => ∃ v',e = .returned v' ∧ IntV (New w w') w' v' (ofI z) ∧ Ext w w':=by
 obtain ⟨vd,rfl,hd⟩:=h
 have HD:=hid hd
 obtain ⟨a,c,rfl⟩:=hd.form
 obtain ⟨n,hn⟩:∃ n,n = (rep 10 z.natAbs).length:=⟨_,rfl⟩
 have hl:=hd.len_le
 have hpos:=z5y z.natAbs
 rw [← hn] at hpos hl ⊢
 have HDN:=hid hd
 rw [← hn] at HDN
 have hng:z < 0 → 0 < n:=fun h => by
  rw [decide_eq_decide] at hpos
  exact hpos.2 (by omega)
 obtain ⟨ng,hq⟩:∃ b,b = decide (z < 0):=⟨_,rfl⟩
 rw [← hq]
 have HQ:=hid hq
 have hng2:ng = true → 0 < n:=fun h => hng (by rw [h] at hq; simpa using hq.symm)
 clear hd hn hpos hng hq HD
 have HK:=hid (Ext.alloc (Ext.alloc (Ext.refl w) (.cells #[.bool ng,.slice a n c] 102)) (.cells #[.bool false,.slice none 0 0] 30))
 have HSZ:Hid (w.heap.size + 1 < ((w.alloc (.cells #[.bool ng,.slice a n c] 102)).alloc (.cells #[.bool false,.slice none 0 0] 30)).heap.size):=hid (by simp)
 have x0:=(Ext.refl ((w.alloc (.cells #[.bool ng,.slice a n c] 102)).alloc (.cells #[.bool false,.slice none 0 0] 30))).drew
 have HX0:=hid x0
 have S0:=old2 x0
 clear x0
 cases ng with
 | true =>
  have hp:=hng2 rfl
  clear hng2
  go_enter Tryz.func35,Tryz.ntmps35
  go_wp2
  go_region_held3 (fun W => W.cell? ⟨w.heap.size,0,none⟩ = some (.bool true) ∧ W.cell? ⟨w.heap.size,1,none⟩ = some (.slice a n c)) (first | exact S0 | exact S1 | exact ⟨z09 (z09 S1.1 (ab (by omega))) (ab (by omega)),z09 (z09 S1.2 (ab (by omega))) (ab (by omega))⟩)
   (first
    | (go_at_call 73; (with_reducible refine (zfn _ z.natAbs _ (HDN.out.ext (HK.out.trans HX0.out) hS) (z08 hS (HK.out.trans HX0.out)) (Nat.le_trans hr (by decide))).mono ?_); rintro e w1 ⟨v1,rfl,hu1,hx1⟩; have S1:=old2 (HX0.out.trans hx1); obtain ⟨r0,r1,f0,f1⟩:=zku (HX0.out.trans hx1); have HE:=hid (And.intro r0 r1); have HX1:=hid hx1; have HU1:=hid hu1; obtain ⟨a1,n1,rfl⟩:=hu1.form; clear hx1 hu1))
  go_wp2
  have hd:=fun x y => z19 x y HE.out.1 HE.out.2
  refine bodyPost_ret (by simp [results,Tryz.results35,go_sem,(hd _ _).1,(hd _ _).2]; rfl) rfl ?_
  have hg:=fun x y => zfu (w0:=w) (b:=w.heap.size + 1) HU1.out (HK.out.trans HX0.out) HX1.out (by omega) (Nat.lt_of_lt_of_le HSZ.out HX0.out.size) x y
  rw [← HQ.out] at hg
  exact ⟨_,rfl,(hg _ _).1,(hg _ _).2⟩
 | false =>
  clear hng2 S0
  have hBs:w.heap.size + 1 ≤ ((w.alloc (.cells #[.bool false,.slice a n c] 102)).alloc (.cells #[.bool false,.slice none 0 0] 30)).heap.size:=by simp
  have HBS:=hid hBs
  have e0:=old2 (Ext.refl ((w.alloc (.cells #[.bool false,.slice a n c] 102)).alloc (.cells #[.bool false,.slice none 0 0] 30)))
  have L0:=fun X:LaterB (w.heap.size + 1) ((w.alloc (.cells #[.bool false,.slice a n c] 102)).alloc (.cells #[.bool false,.slice none 0 0] 30)) => X.cell (Nat.lt_succ_self _) e0.1
  have L1:=fun X:LaterB (w.heap.size + 1) ((w.alloc (.cells #[.bool false,.slice a n c] 102)).alloc (.cells #[.bool false,.slice none 0 0] 30)) => X.cell (Nat.lt_succ_self _) e0.2
  have hne:Nonempty (LaterB (w.heap.size + 1) ((w.alloc (.cells #[.bool false,.slice a n c] 102)).alloc (.cells #[.bool false,.slice none 0 0] 30))):=⟨⟨_,(Below.refl _ _).mono hBs⟩⟩
  clear e0 hBs
  go_enter Tryz.func35,Tryz.ntmps35
  go_wp2
  refine ze6 (fun W => ∃ X:LaterB (w.heap.size + 1) ((w.alloc (.cells #[.bool false,.slice a n c] 102)).alloc (.cells #[.bool false,.slice none 0 0] 30)),W = X.w') 10 (by kernel_rfl) (by kernel_rfl) (by simp) (by kernel_rfl) (fun _ _ _ _ _ h => h) ⟨⟨_,HX0.out.mono HBS.out⟩,rfl⟩ ?_
  simp only [List.take_succ_cons,List.take_zero,List.drop_succ_cons,List.drop_zero]
  repeat (go_big_quiet_step (fail))
  refine wpQuiet_nil ?_
  refine (show wpList _ _ _ [_] _ _ from ?_)
  go_wp2_with fail
  refine (zfn _ z.natAbs _ (HDN.out.ext (HK.out.trans HX0.out) hS) (z08 hS (HK.out.trans HX0.out)) (Nat.le_trans hr (by decide))).mono ?_
  rintro e w1 ⟨v1,rfl,hu1,hx1⟩
  obtain ⟨r0,r1,f0,f1⟩:=zku (HX0.out.trans hx1)
  have HE:=hid (And.intro r0 r1)
  have HX1:=hid hx1
  have HU1:=hid hu1
  obtain ⟨a1,n1,rfl⟩:=hu1.form
  clear hx1 hu1
  have HBW:Hid (Below (w.heap.size + 1) ((w.alloc (.cells #[.bool false,.slice a n c] 102)).alloc (.cells #[.bool false,.slice none 0 0] 30)) w1):=hid ((HX0.out.trans HX1.out).mono HBS.out)
  go_wp2
  refine ⟨⟨⟨w1,HBW.out⟩,rfl⟩,?_⟩
  refine (show wpList _ _ _ [_] _ _ from ?_)
  go_wp2
  refine ⟨⟨⟨w1,HBW.out⟩,rfl⟩,?_⟩
  refine (show wpList _ _ _ [_] _ _ from ?_)
  go_wp2
  refine ⟨⟨⟨_,(HBW.out.setCell (p:=⟨w.heap.size + 1,0,none⟩) (Nat.le_refl _) _).setCell (p:=⟨w.heap.size + 1,1,none⟩) (Nat.le_refl _) _⟩,rfl⟩,?_⟩
  unfold zbb
  go_wp2
  have hd:=fun x y => z19 x y HE.out.1 HE.out.2
  refine bodyPost_ret (by simp [results,Tryz.results35,go_sem,(hd _ _).1,(hd _ _).2]; rfl) rfl ?_
  have hg:=fun x y => zfu (w0:=w) (b:=w.heap.size + 1) HU1.out (HK.out.trans HX0.out) HX1.out (by omega) (Nat.lt_of_lt_of_le HSZ.out HX0.out.size) x y
  rw [← HQ.out] at hg
  exact ⟨_,rfl,(hg _ _).1,(hg _ _).2⟩
theorem z7h {S:Nat → Prop} (v:Value) (z:Int) (w:World) (h:ZV S w v z) :
  Calls Tryz.prog 72 #[v] w fun e w' => e = .returned (.int .i64 (z1l z)) ∧ Ext w w':=by
 obtain ⟨vd,rfl,hd⟩:=h
 obtain ⟨a,c,rfl⟩:=hd.form
 have hl:=hd.len_le
 have hpos:=z5y z.natAbs
 obtain ⟨n,hn⟩:∃ n,n = (rep 10 z.natAbs).length:=⟨_,rfl⟩
 rw [← hn] at hpos hl ⊢
 rw [decide_eq_decide] at hpos
 have HP:=hid hpos
 clear hd hpos hn
 rcases (show z < 0 ∨ z = 0 ∨ 0 < z by omega) with hz | hz | hz
 ·have hn0:0 < n:=HP.out.2 (by omega)
  have hb:((n:Int) == 0) = false:=by rw [beq_eq_false_iff_ne]; omega
  have hdz:decide (z < 0) = true:=decide_eq_true hz
  have HS:Hid (z1l z = -1):=hid (by unfold z1l; rw [z2w]; exact hz)
  rw [hdz]
  have HK:=hid (Ext.alloc (Ext.refl w) (.cells #[.bool true,.slice a n c] 102))
  clear hdz hz
  go_enter Tryz.func72,Tryz.ntmps72
  go_wp2
  all_goals
   go_ret
   exact ⟨by rw [HS.out]; rfl,HK.out⟩
 ·have hn0:n = 0:=by
   have:=HP.out
   omega
  subst hn0
  have hdz:decide (z < 0) = false:=decide_eq_false (by omega)
  have HS:Hid (z1l z = 0):=hid (by unfold z1l; rw [z6q]; exact hz)
  rw [hdz]
  have HK:=hid (Ext.alloc (Ext.refl w) (.cells #[.bool false,.slice a 0 c] 102))
  clear hdz hz
  go_enter Tryz.func72,Tryz.ntmps72
  go_wp2
  all_goals
   go_ret
   exact ⟨by rw [HS.out]; rfl,HK.out⟩
 ·have hn0:0 < n:=HP.out.2 (by omega)
  have hb:((n:Int) == 0) = false:=by rw [beq_eq_false_iff_ne]; omega
  have hdz:decide (z < 0) = false:=decide_eq_false (by omega)
  have HS:Hid (z1l z = 1):=hid (by unfold z1l; rw [z3y]; exact hz)
  rw [hdz]
  have HK:=hid (Ext.alloc (Ext.refl w) (.cells #[.bool false,.slice a n c] 102))
  clear hdz hz
  go_enter Tryz.func72,Tryz.ntmps72
  go_wp2
  all_goals
   go_ret
   exact ⟨by rw [HS.out]; rfl,HK.out⟩
end
section
open Go.RowKit
theorem zfv (n:Nat) (w:World) (hn:n < 9223372036854775808) :
  Calls Tryz.prog 30 #[.int .i64 (n:Nat)] w fun e w' => ∃ v',e = .returned v' ∧ ZV (New w w') w' v' (n:Int) ∧ Ext w w':=by
 have HK:=hid (Ext.alloc (Ext.refl w) (.cells #[.bool false,.slice none 0 0] 102))
 have HSZ:Hid (w.heap.size < (w.alloc (.cells #[.bool false,.slice none 0 0] 102)).heap.size):=hid (by simp)
 have HC:=hid (zn0 n (w.alloc (.cells #[.bool false,.slice none 0 0] 102)) (by omega))
 go_enter Tryz.func30,Tryz.ntmps30
 go_wp2_with fail
 refine HC.out.mono ?_
 rintro e w1 ⟨v1,rfl,hd,hx⟩
 obtain ⟨r0,r1,f0,f1⟩:=new2 hx
 have HE:=hid (And.intro r0 r1)
 have HX:=hid hx
 have HD:=hid hd
 obtain ⟨a1,n1,rfl⟩:=hd.form
 clear hd hx
 go_wp2
 have hd:=fun x y => z19 x y HE.out.1 HE.out.2
 refine bodyPost_ret (by simp [results,Tryz.results30,go_sem,(hd _ _).1,(hd _ _).2]; rfl) rfl ?_
 have hz:=zni (b:=false) HD.out
 have hg:=fun x y => z6y (w0:=w) (b:=w.heap.size) hz HK.out HX.out (Nat.le_refl _) HSZ.out x y
 exact ⟨_,rfl,(hg _ _).1,(hg _ _).2⟩
theorem zy6 (x y:Int):x * y = sg (decide (x < 0) != decide (y < 0)) (x.natAbs * y.natAbs):=by
 unfold sg
 rcases Int.lt_or_le x 0 with hx | hx <;> rcases Int.lt_or_le y 0 with hy | hy
 ·have e:(decide (x < 0) != decide (y < 0)) = false:=by simp [hx,hy]
  rw [e]
  simp only [Bool.false_eq_true,if_false,Int.natCast_mul]
  rw [Int.ofNat_natAbs_of_nonpos (by omega),Int.ofNat_natAbs_of_nonpos (by omega),Int.neg_mul_neg]
 ·have e:(decide (x < 0) != decide (y < 0)) = true:=by simp [hx,Int.not_lt.2 hy]
  rw [e]
  simp only [if_true,Int.natCast_mul]
  rw [Int.ofNat_natAbs_of_nonpos (by omega),Int.natAbs_of_nonneg hy,Int.neg_mul,Int.neg_neg]
 ·have e:(decide (x < 0) != decide (y < 0)) = true:=by simp [hy,Int.not_lt.2 hx]
  rw [e]
  simp only [if_true,Int.natCast_mul]
  rw [Int.natAbs_of_nonneg hx,Int.ofNat_natAbs_of_nonpos (by omega),Int.mul_neg,Int.neg_neg]
 ·have e:(decide (x < 0) != decide (y < 0)) = false:=by simp [Int.not_lt.2 hx,Int.not_lt.2 hy]
  rw [e]
  simp only [Bool.false_eq_true,if_false,Int.natCast_mul]
  rw [Int.natAbs_of_nonneg hx,Int.natAbs_of_nonneg hy]
theorem old4 {w W:World} {u0 v0 u1 v1:Value} {T0 T1:TypeId} {o:Obj} (h:Ext (((w.alloc (.cells #[u0,v0] T0)).alloc (.cells #[u1,v1] T1)).alloc o) W) :
  W.cell? ⟨w.heap.size,0,none⟩ = some u0 ∧ W.cell? ⟨w.heap.size,1,none⟩ = some v0 ∧ W.cell? ⟨w.heap.size + 1,0,none⟩ = some u1 ∧ W.cell? ⟨w.heap.size + 1,1,none⟩ = some v1:=by
 have e1:=(Ext.alloc (Ext.refl _) o).trans h
 exact ⟨(old2 e1).1,(old2 e1).2,(zku e1).1,(zku e1).2.1⟩
theorem zrs {w W:World} {u0 v0 u1 v1 u v:Value} {T0 T1 T:TypeId} (h:Ext (((w.alloc (.cells #[u0,v0] T0)).alloc (.cells #[u1,v1] T1)).alloc (.cells #[u,v] T)) W) :
  W.cell? ⟨w.heap.size + 1 + 1,0,none⟩ = some u ∧ W.cell? ⟨w.heap.size + 1 + 1,1,none⟩ = some v ∧ W.frozen? ⟨w.heap.size + 1 + 1,0,none⟩ = false ∧ W.frozen? ⟨w.heap.size + 1 + 1,1,none⟩ = false:=by
 have:=new2 h
 rw [z02,z02] at this
 exact this
theorem zw0 {S:Nat → Prop} (vx vy:Value) (x y:Int) (w:World) (hx:ZV S w vx x) (hy:ZV S w vy y) (hS:∀ k,S k → k < w.heap.size) (hrx:szZ x) (hry:szZ y) :
  Calls Tryz.prog 69 #[vx,vy] w fun e w' => ∃ v',e = .returned v' ∧ ZV (New w w') w' v' (x * y) ∧ Ext w w':=by
 obtain ⟨vdx,rfl,hdx⟩:=hx
 obtain ⟨vdy,rfl,hdy⟩:=hy
 have HX:=hid hdx
 have HY:=hid hdy
 obtain ⟨ax,cx,rfl⟩:=hdx.form
 obtain ⟨ay,cy,rfl⟩:=hdy.form
 rw [zy6 x y]
 obtain ⟨n,hn⟩:∃ n,n = x.natAbs * y.natAbs:=⟨_,rfl⟩
 rw [← hn]
 obtain ⟨bx,hbx⟩:∃ b,b = decide (x < 0):=⟨_,rfl⟩
 obtain ⟨bz,hbz⟩:∃ b,b = decide (y < 0):=⟨_,rfl⟩
 obtain ⟨nx,hnx⟩:∃ n,n = (rep 10 x.natAbs).length:=⟨_,rfl⟩
 obtain ⟨ny,hny⟩:∃ n,n = (rep 10 y.natAbs).length:=⟨_,rfl⟩
 rw [← hbx,← hbz,← hnx,← hny]
 have HK:=hid (Ext.alloc (Ext.alloc (Ext.alloc (Ext.refl w) (.cells #[.bool bx,.slice ax nx cx] 102)) (.cells #[.bool bz,.slice ay ny cy] 102)) (.cells #[.bool false,.slice none 0 0] 102))
 have hc:=zvp _ _ (rep 10 x.natAbs) (rep 10 y.natAbs) _ (HX.out.ext HK.out hS) (HY.out.ext HK.out hS) (z08 hS HK.out) (Nat.le_trans hrx (by decide)) (Nat.le_trans hry (by decide))
 rw [z0d z0h,z0d z0h,← hn,← hnx,← hny] at hc
 have HC:=hid hc
 have HSZ:Hid (w.heap.size + 1 + 1 < (((w.alloc (.cells #[.bool bx,.slice ax nx cx] 102)).alloc (.cells #[.bool bz,.slice ay ny cy] 102)).alloc (.cells #[.bool false,.slice none 0 0] 102)).heap.size):=hid (by simp)
 have l1:=hdx.len_le
 have l2:=hdy.len_le
 rw [← hnx] at l1
 rw [← hny] at l2
 clear hdx hdy hn hbx hbz hnx hny hc hrx hry HX HY
 obtain ⟨q0,q1,q2,q3⟩:=old4 (Ext.refl (((w.alloc (.cells #[.bool bx,.slice ax nx cx] 102)).alloc (.cells #[.bool bz,.slice ay ny cy] 102)).alloc (.cells #[.bool false,.slice none 0 0] 102)))
 go_enter Tryz.func69,Tryz.ntmps69
 go_wp2_with fail
 refine HC.out.mono ?_
 rintro e w1 ⟨v1,rfl,hd,hxx⟩
 obtain ⟨p0,p1,p2,p3⟩:=old4 hxx
 obtain ⟨r0,r1,f0,f1⟩:=zrs hxx
 have HE:=hid (And.intro r0 r1)
 have HXX:=hid hxx
 have HD:=hid hd
 obtain ⟨a1,n1,rfl⟩:=hd.form
 have hlen:=z5y n
 have hz:=zni (b:=(bx != bz)) HD.out
 clear hd hxx q0 q1 q2 q3
 by_cases h0:0 < n
 ·have hp:0 < (rep 10 n).length:=by simpa [h0] using hlen
  rw [show ((bx != bz) && decide (0 < n)) = (bx != bz) by simp [h0]] at hz
  have HZ:=hid hz
  clear hlen hz
  cases bx <;> cases bz
  all_goals
   go_wp2
   have hd:=fun x y => z19 x y HE.out.1 HE.out.2
   refine bodyPost_ret (by simp [results,Tryz.results69,go_sem,(hd _ _).1,(hd _ _).2]; rfl) rfl ?_
   have hg:=fun x y => z6y (w0:=w) (b:=w.heap.size + 1 + 1) HZ.out HK.out HXX.out (by omega) HSZ.out x y
   exact ⟨_,rfl,(hg _ _).1,(hg _ _).2⟩
 ·obtain rfl:n = 0:=by omega
  rw [show ((bx != bz) && decide (0 < 0)) = false by simp] at hz
  have HZ:=hid hz
  have hp:(rep 10 0).length = 0:=rfl
  clear hlen hz
  cases bx <;> cases bz
  all_goals
   go_wp2
   have hd:=fun x y => z19 x y HE.out.1 HE.out.2
   refine bodyPost_ret (by simp [results,Tryz.results69,go_sem,(hd _ _).1,(hd _ _).2]; rfl) rfl ?_
   have hg:=fun x y => z6y (w0:=w) (b:=w.heap.size + 1 + 1) HZ.out HK.out HXX.out (by omega) HSZ.out x y
   exact ⟨_,rfl,(hg _ _).1,(hg _ _).2⟩
end
end Go.Proofs.YtdcijfhkfhhfjaaGreat
