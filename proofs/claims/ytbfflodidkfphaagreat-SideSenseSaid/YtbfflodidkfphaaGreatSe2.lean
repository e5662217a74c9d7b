/- The bits of a number that fits 32: 0 for 0 alone. The sign of a whole number. Which polynomials may be. What is appended: any source, nil, empty or not. Decimal digits in memory, as the document's numbers have them. Decimal digits out of limbs and back. Decimal digits: held against each other, summed up, subtracted, multiplied. Decimal digits: sums, differences, products. Decimal digits: the product. From the form's own reading of an argument to what lies in memory: limbs, powers, terms, polynomials. An array of all variables' exponents, by value and in memory. The document's monomials: which may be, their exponents. The document's monomials: the array of all exponents. The document's monomials: order, class, degree. The document's monomials: class, degree, out of exponents. -/
import Derived.WalkSpells
import Derived.Laws.AppendOwn
import Derived.Maps.AppendAt
import Derived.ProofKit
import Derived.Deep.Slices
import Derived.Deep.Strs
import Derived.Deep.WholeRow
import Derived.Deep.MidRow
import Derived.Deep.OwnRows
import Derived.ChangeKeysEq
import Derived.Test.YtbfflodidkfphaaGreatSe1
set_option maxRecDepth 100000
set_option maxHeartbeats 16000000
namespace Go.Proofs.YtbfflodidkfphaaGreat
section
open Go.RowKit
def tab8:ByteArray:=⟨#[0,1,2,2,3,3,3,3,4,4,4,4,4,4,4,4,5,5,5,5,5,5,5,5,5,5,5,5,5,5,5,5,6,6,6,6,6,6,6,6,6,6,6,6,6,6,6,6,6,6,6,6,6,6,6,6,6,6,6,6,6,6,6,6,7,7,7,7,7,7,7,7,7,7,7,7,7,7,7,7,7,7,7,7,7,7,7,7,7,7,7,7,7,7,7,7,7,7,7,7,7,7,7,7,7,7,7,7,7,7,7,7,7,7,7,7,7,7,7,7,7,7,7,7,7,7,7,7,8,8,8,8,8,8,8,8,8,8,8,8,8,8,8,8,8,8,8,8,8,8,8,8,8,8,8,8,8,8,8,8,8,8,8,8,8,8,8,8,8,8,8,8,8,8,8,8,8,8,8,8,8,8,8,8,8,8,8,8,8,8,8,8,8,8,8,8,8,8,8,8,8,8,8,8,8,8,8,8,8,8,8,8,8,8,8,8,8,8,8,8,8,8,8,8,8,8,8,8,8,8,8,8,8,8,8,8,8,8,8,8,8,8,8,8,8,8,8,8,8,8,8,8,8,8,8,8]⟩
theorem z3s:tab8.size = 256:=by decide +kernel
theorem zr1:∀ i:Fin 256,(tab8.get! i.val).toNat ≤ 8 ∧ (0 < i.val → 1 ≤ (tab8.get! i.val).toNat):=by decide +kernel
theorem zba (x:Int) (h0:0 ≤ x) (h1:x < 256) (h:x.toNat < tab8.size):(tab8[x.toNat]'h).toNat ≤ 8 ∧ (0 < x → 1 ≤ (tab8[x.toNat]'h).toNat):=by
 have:=zr1 ⟨x.toNat,by omega⟩
 have e:tab8.get! x.toNat = tab8[x.toNat]'h:=by
  have h2:x.toNat < tab8.data.size:=h
  show tab8.data[x.toNat]! = tab8.data[x.toNat]'h2
  exact getElem!_pos _ _ _
 simp only [e] at this
 exact ⟨this.1,fun hx => this.2 (by omega)⟩
theorem zjt (x:Int) (w:World) (h0:0 ≤ x) (h1:x < 4294967296) :
  Calls Tryz.prog 122 #[.int .u32 x] w fun e w' => ∃ n:Int,e = .returned (.int .i64 n) ∧ 0 ≤ n ∧ n ≤ 32 ∧ (0 < x → 0 < n) ∧ w = w':=by
 go_enter Tryz.func122,Tryz.ntmps122
 rcases (show 16777216 ≤ x ∨ 65536 ≤ x ∧ x < 16777216 ∨ 256 ≤ x ∧ x < 65536 ∨ x < 256 by omega) with h | ⟨h,h'⟩ | ⟨h,h'⟩ | h
 ·go_wp2
  go_ret
  simp only [Array.getD_eq_getD_getElem?,List.getElem?_toArray,List.getElem?_cons_succ,List.getElem?_cons_zero,Option.getD_some]
  generalize hv:UInt8.toNat _ = t
  have hb:=zba (x / 65536 / 256) (by omega) (by omega) (by rw [z3s]; omega)
  have hc:t ≤ 8 ∧ (0 < x / 65536 / 256 → 1 ≤ t):=hv ▸ hb
  obtain ⟨h3,h4⟩:=hc
  clear hb hv
  refine ⟨_,rfl,?_,?_,fun hx => ?_,trivial⟩ <;> (unfold wrap64; omega)
 ·go_wp2
  go_ret
  simp only [Array.getD_eq_getD_getElem?,List.getElem?_toArray,List.getElem?_cons_succ,List.getElem?_cons_zero,Option.getD_some]
  generalize hv:UInt8.toNat _ = t
  have hb:=zba (x / 65536) (by omega) (by omega) (by rw [z3s]; omega)
  have hc:t ≤ 8 ∧ (0 < x / 65536 → 1 ≤ t):=hv ▸ hb
  obtain ⟨h3,h4⟩:=hc
  clear hb hv
  refine ⟨_,rfl,?_,?_,fun hx => ?_,trivial⟩ <;> (unfold wrap64; omega)
 ·go_wp2
  go_ret
  simp only [Array.getD_eq_getD_getElem?,List.getElem?_toArray,List.getElem?_cons_succ,List.getElem?_cons_zero,Option.getD_some]
  generalize hv:UInt8.toNat _ = t
  have hb:=zba (x / 256) (by omega) (by omega) (by rw [z3s]; omega)
  have hc:t ≤ 8 ∧ (0 < x / 256 → 1 ≤ t):=hv ▸ hb
  obtain ⟨h3,h4⟩:=hc
  clear hb hv
  refine ⟨_,rfl,?_,?_,fun hx => ?_,trivial⟩ <;> (unfold wrap64; omega)
 ·go_wp2
  go_ret
  simp only [Array.getD_eq_getD_getElem?,List.getElem?_toArray,List.getElem?_cons_succ,List.getElem?_cons_zero,Option.getD_some]
  generalize hv:UInt8.toNat _ = t
  have hb:=zba (x) (by omega) (by omega) (by rw [z3s]; omega)
  have hc:t ≤ 8 ∧ (0 < x → 1 ≤ t):=hv ▸ hb
  obtain ⟨h3,h4⟩:=hc
  clear hb hv
  refine ⟨_,rfl,?_,?_,fun hx => ?_,trivial⟩ <;> (unfold wrap64; omega)
end
section
open Go.RowKit
theorem zno {S:Nat → Prop} (v:Value) (zs:List Nat) (w:World) (h:U32s S w v zs) (hr:zs.length ≤ 50000000000000) :
  Calls Tryz.prog 100 #[v] w fun e w' => ∃ n:Int,e = .returned (.int .i64 n) ∧ 0 ≤ n ∧ n ≤ 9223372036854775807 ∧ (n = 0 ↔ val B32 zs = 0) ∧ w = w':=by
 have hle:(rep B32 (val B32 zs)).length ≤ zs.length:=z0d z01 _ _ (z13 zs h.lt)
 have H:=hid h
 obtain ⟨a,c,rfl⟩:=h.form
 clear h
 go_enter Tryz.func100,Tryz.ntmps100
 go_wp2_with fail
 refine (z1p _ zs _ H.out).mono ?_
 rintro e w' ⟨v',rfl,hu,rfl⟩
 generalize hn:val B32 zs = n at hu hle
 have HN:=hid hn
 have HU:=hid hu
 obtain ⟨a',c',rfl⟩:=hu.form
 clear hu hn
 by_cases h0:n = 0
 ·have hl:(rep B32 n).length = 0:=by rw [h0]; rfl
  have hb:(((rep B32 n).length:Int) == 0) = true:=by rw [beq_iff_eq]; omega
  have HZ:=hid h0
  clear h0 hl
  go_wp2
  go_ret
  exact ⟨0,rfl,by omega,by omega,by rw [HN.out,HZ.out]; simp,rfl⟩
 ·have hl:0 < (rep B32 n).length:=by
   rw [List.length_pos_iff,Ne,z1u z01]
   exact h0
  obtain ⟨z,hz⟩:=z00 (show (rep B32 n).length - 1 < (rep B32 n).length by omega)
  have hz0:0 < z:=by
   have h1:=zb5 z01 n
   rw [List.getLast?_eq_getElem?,hz] at h1
   have:z ≠ 0:=fun e => h1 (by rw [e])
   omega
  obtain ⟨b,off,rfl,-,hn,hm,-,hzb,hc⟩:=HU.out.cellAt hz
  have hb:(((rep B32 n).length:Int) == 0) = false:=by rw [beq_eq_false_iff_ne]; omega
  have HZ:=hid h0
  clear h0 hz
  go_wp2_with fail
  refine (zjt (z:Nat) _ (by omega) (by omega)).mono ?_
  rintro e w' ⟨k,rfl,hk1,hk2,hk3,rfl⟩
  have hk:=hk3 (by omega)
  clear hk3
  go_wp2
  go_ret
  refine ⟨32 * (((rep B32 n).length:Int) - 1) + k,rfl,by omega,by omega,?_,rfl⟩
  rw [HN.out]
  have:=HZ.out
  omega
theorem z1l {S:Nat → Prop} (v:Value) (r:RInt) (w:World) (h:IntV S w v r) (hS:∀ k,S k → k < w.heap.size) (hr:r.mag.length ≤ 50000000000000) :
  Calls Tryz.prog 63 #[v] w fun e w' => e = .returned (.int .i64 (z18 (valI r))) ∧ Ext w w':=by
 obtain ⟨ng,zs⟩:=r
 obtain ⟨vm,rfl,hu⟩:=h
 simp only at hu hr ⊢
 have H:=hid hu
 obtain ⟨a,c,rfl⟩:=hu.form
 clear hu
 have HE:=hid (Ext.alloc (Ext.refl w) (.cells #[.bool ng,.slice a zs.length c] 26))
 go_enter Tryz.func63,Tryz.ntmps63
 go_wp2_with fail
 refine (zno _ zs _ (H.out.to (Kept.ext HE.out hS) (fun _ h => h)) hr).mono ?_
 rintro e w' ⟨n,rfl,hn1,hn2,hn3,rfl⟩
 have HN:=hid hn3
 clear hn3
 by_cases h0:n = 0
 ·have hb:(n == 0) = true:=by rw [beq_iff_eq]; exact h0
  have HZ:=hid h0
  clear h0
  have HR:Hid (z18 (valI ⟨ng,zs⟩) = 0):=hid (by
   have:=HN.out.1 HZ.out
   unfold z18 valI
   simp [this,cmpI])
  go_wp2
  go_ret
  exact ⟨by rw [HR.out]; rfl,HE.out⟩
 ·have hb:(n == 0) = false:=by rw [beq_eq_false_iff_ne]; exact h0
  have HZ:=hid h0
  clear h0
  have hv:val B32 zs ≠ 0:=fun e => HZ.out (HN.out.2 e)
  cases ng with
  | true =>
   have HR:Hid (z18 (valI ⟨true,zs⟩) = -1):=hid (by
    unfold z18 valI
    rw [z2r]
    simp
    omega)
   clear hv
   go_wp2
   go_ret
   exact ⟨by rw [HR.out]; rfl,HE.out⟩
  | false =>
   have HR:Hid (z18 (valI ⟨false,zs⟩) = 1):=hid (by
    unfold z18 valI
    rw [z41]
    simp
    omega)
   clear hv
   go_wp2
   go_ret
   exact ⟨by rw [HR.out]; rfl,HE.out⟩
end
section
open Go.RowKit
attribute [local go_sem ↓] Go.wp_at_zero Go.wp_at_succ
theorem Pows.ext {S:Nat → Prop} {w W:World} {v:Value} {zs:Mono} (h:Pows S w v zs) (hx:Ext w W) (hS:∀ k,S k → k < w.heap.size):Pows S W v zs:=h.to (Kept.ext hx hS) (fun _ h => h)
theorem z0h.ext {S:Nat → Prop} {w W:World} {v:Value} {zs:List RTerm} (h:z0h S w v zs) (hx:Ext w W) (hS:∀ k,S k → k < w.heap.size):z0h S W v zs:=h.to (Kept.ext hx hS) (fun _ h => h)
theorem z0h.cellAt {S:Nat → Prop} {w:World} {ts:List RTerm} {a:Option Addr} {n cap k:Nat} {t:RTerm} (h:z0h S w (.slice a n cap) ts) (ht:ts[k]? = some t) :
  ∃ b off vm vo,a = some ⟨b,off,none⟩ ∧ n = ts.length ∧ n ≤ cap ∧ cap ≤ 9223372036854775807 ∧ S b ∧ w.cell? ⟨b,off + k * 3,none⟩ = some (.bool t.c.neg) ∧ w.cell? ⟨b,off + k * 3 + 1,none⟩ = some vm ∧ w.cell? ⟨b,off + k * 3 + 2,none⟩ = some vo ∧ U32s S w vm t.c.mag ∧ Pows S w vo t.m:=by
 obtain ⟨b,off,⟨a',cap',h1,h2,h3,h4,h5⟩,hc⟩:=h
 obtain ⟨rfl,rfl,rfl⟩:a = a' ∧ n = ts.length ∧ cap = cap':=by simpa using h1
 have hp:0 < ts.length:=by have:=z03 ht; omega
 obtain ⟨vm,vo,g1,g2,g3,g4,g5⟩:=hc k t ht
 exact ⟨b,off,vm,vo,h4 hp,rfl,h2,h3,h5 hp,g1,g2,g3,g4,g5⟩
theorem z0h.len_le {S:Nat → Prop} {w:World} {v:Value} {zs:List RTerm} (h:z0h S w v zs):zs.length ≤ 9223372036854775807:=by
 obtain ⟨b,off,⟨a,cap,h1,h2,h3,_⟩,_⟩:=h
 unfold maxLen at h3
 omega
theorem z0h.okT {S:Nat → Prop} {w:World} {v:Value} {zs:List RTerm} (h:z0h S w v zs):okT zs:=by
 obtain ⟨b,off,hs,hc⟩:=h
 intro t ht
 obtain ⟨j,hj⟩:=List.getElem?_of_mem ht
 obtain ⟨vm,vo,g1,g2,g3,g4,g5⟩:=hc j t hj
 exact g4.lt
theorem z1v {S:Nat → Prop} {w:World} {ng:Bool} {zs:List Nat} {vm:Value} (h:U32s S w vm zs):IntV S w (.agg #[.bool ng,vm]) ⟨ng,zs⟩:=⟨vm,rfl,h⟩
def zaj (ts:List RTerm):Prop:=∀ t ∈ ts,t.c.mag.length ≤ 40000000000000
def befT (ts:List RTerm):Nat → Option RTerm
 | 0 => none
 | k + 1 => ts[k]?
theorem z50 {ts:List RTerm} {k:Nat} {t:RTerm} (ht:ts[k]? = some t):z3y (befT ts k) (ts.drop k) = (z17 t && (match befT ts k with | none => true | some u => decide (0 < z3e u.m t.m)) && z3y (befT ts (k + 1)) (ts.drop (k + 1))):=by
 rw [z7u ht]
 simp only [befT,ht]
 rfl
theorem zce {r:RInt}:z18 (valI r) = 0 ↔ val B32 r.mag = 0:=by
 unfold z18 valI
 rw [z5j]
 cases r.neg <;> simp
theorem z8f {t:RTerm} (h:z18 (valI t.c) = 0):z17 t = false:=by
 unfold z17
 rw [zce] at h
 simp [h]
theorem z6t {t:RTerm} (h:mayI t.c = false):z17 t = false:=by
 unfold z17
 simp [h]
theorem z5o {t:RTerm} (h:mayM t.m = false):z17 t = false:=by
 unfold z17
 simp [h]
theorem z9e {t:RTerm} (h1:z18 (valI t.c) ≠ 0) (h2:mayI t.c = true) (h3:mayM t.m = true):z17 t = true:=by
 unfold z17
 rw [Ne,zce] at h1
 simp [h1,h2,h3]
theorem z5p (a b:Mono):-1 ≤ z3e a b ∧ z3e a b ≤ 1:=by
 unfold z3e
 split
 ·rename_i hmm
  simp only [Bool.and_eq_true] at hmm
  rcases z12 hmm.1 hmm.2 with h | h | h <;> omega
 ·omega
theorem z8v {S:Nat → Prop} (v:Value) (ts:List RTerm) (w:World) (h:z0h S w v ts) (hS:∀ k,S k → k < w.heap.size) (hr:zaj ts) :
  Calls Tryz.prog 31 #[v] w fun e w' => e = .returned (.bool (mayT ts)) ∧ Ext w w':=by
 have hnot:∀ (x:Bool) (w:World),(Op.unary .not (.bool x)).run Tryz.prog w = .ok (.bool (!x)) w:=fun _ _ => rfl
 have hl:=h.len_le
 have H:=hid h
 have HRS:=hid hr
 obtain ⟨a,cap,rfl⟩:=h.form
 clear h hr
 go_enter Tryz.func31,Tryz.ntmps31
 go_wp2
 go_loopw [7] (fun i wr => ∃ k:Nat,k ≤ ts.length ∧ i = .int .i64 k ∧ Ext w wr ∧ mayT ts = z3y (befT ts k) (ts.drop k)) (fun i _ => ts.length - (intOf i).toNat)
 case atStart => exact ⟨0,Nat.zero_le _,rfl,Ext.refl _,rfl⟩
 case round =>
  obtain ⟨k,hk,rfl,hx,hm⟩:=hrel
  by_cases hlt:k < ts.length
  ·obtain ⟨t,ht⟩:=z00 hlt
   obtain ⟨b,off,vm,vo,rfl,-,hn1,hm1,hSb,h1,h2,h3,h4,h5⟩:=H.out.cellAt ht
   have hat:=z50 ht
   have hsm:=HRS.out t (List.mem_of_getElem? ht)
   rw [hat] at hm
   have HM:=hid hm
   have HT:=hid ht
   obtain ⟨⟨ng,zs⟩,m⟩:=t
   simp only at h1 h2 h3 h4 h5 hsm
   have H4:=hid h4
   have H5:=hid h5
   obtain ⟨am,cm,rfl⟩:=h4.form
   obtain ⟨ao,co,rfl⟩:=h5.form
   have g1:=Ext.cell hx h1
   have g2:=Ext.cell hx h2
   have g3:=Ext.cell hx h3
   have X0:=hid (hx.alloc (.cells #[.bool ng,.slice am zs.length cm,.slice ao m.length co] 49))
   have L0:=fun X:Later (wr.alloc (.cells #[.bool ng,.slice am zs.length cm,.slice ao m.length co] 49)) => X.h.new_cell (i:=0) (v:=.bool ng) rfl
   have L1:=fun X:Later (wr.alloc (.cells #[.bool ng,.slice am zs.length cm,.slice ao m.length co] 49)) => X.h.new_cell (i:=1) (v:=.slice am zs.length cm) rfl
   have L2:=fun X:Later (wr.alloc (.cells #[.bool ng,.slice am zs.length cm,.slice ao m.length co] 49)) => X.h.new_cell (i:=2) (v:=.slice ao m.length co) rfl
   have HX:=hid hx
   have HSM:=hid hsm
   clear hm ht h1 h2 h3 h4 h5 hx hat hsm
   cases k with
   | zero =>
    simp only [Nat.zero_mul,Nat.add_zero] at g1 g2 g3
    obtain ⟨sgn,hs⟩:∃ s,z18 (valI ⟨ng,zs⟩) = s:=⟨_,rfl⟩
    by_cases hc0:sgn = 0
    ·subst hc0
     have CS:=fun (W:World) (h:IntV S W (.agg #[.bool ng,.slice am zs.length cm]) ⟨ng,zs⟩) hs => z1l (S:=S) _ _ W h hs (Nat.le_trans HSM.out (by decide))
     simp only [hs] at CS
     have HCS:=hid CS
     clear CS
     have HF:Hid (mayT ts = false):=hid (by rw [HM.out,z8f hs]; rfl)
     clear hs
     go_wp2
     refine z04 (by kernel_rfl) (by kernel_rfl) ?_
     repeat (go_big_quiet_step (first | (go_at_call 63; exact Later.done (HCS.out _ (z1v (H4.out.ext (X0.out.trans (Later.h _)) hS)) (z0a hS (X0.out.trans (Later.h _)))))))
     refine wpQuiet_nil ?_
     intro W hW
     have HW:=hid (X0.out.trans hW)
     clear hW
     go_wp2
     all_goals
      go_ret
      exact ⟨by rw [HF.out]; rfl,HW.out⟩
    ·have hb0:(sgn == 0) = false:=by rw [beq_eq_false_iff_ne]; exact hc0
     have hsr:-1 ≤ sgn ∧ sgn ≤ 1:=by rw [← hs]; unfold z18; rcases z46 (valI ⟨ng,zs⟩) 0 with h | h | h <;> omega
     obtain ⟨hsr1,hsr2⟩:=hsr
     cases hi:mayI ⟨ng,zs⟩ with
     | false =>
      have CS:=fun (W:World) (h:IntV S W (.agg #[.bool ng,.slice am zs.length cm]) ⟨ng,zs⟩) hs => z1l (S:=S) _ _ W h hs (Nat.le_trans HSM.out (by decide))
      simp only [hs] at CS
      have HCS:=hid CS
      clear CS
      have CM:=fun (W:World) (h:IntV S W (.agg #[.bool ng,.slice am zs.length cm]) ⟨ng,zs⟩) hs => z4b (S:=S) _ _ W h hs
      simp only [hi] at CM
      have HCM:=hid CM
      clear CM
      have HF:Hid (mayT ts = false):=hid (by rw [HM.out,z6t hi]; rfl)
      clear hs
      clear hi
      go_wp2
      refine z04 (by kernel_rfl) (by kernel_rfl) ?_
      repeat (go_big_quiet_step (first | (go_at_call 63; exact Later.done (HCS.out _ (z1v (H4.out.ext (X0.out.trans (Later.h _)) hS)) (z0a hS (X0.out.trans (Later.h _))))) | (go_at_call 64; exact Later.done (HCM.out _ (z1v (H4.out.ext (X0.out.trans (Later.h _)) hS)) (z0a hS (X0.out.trans (Later.h _)))))))
      refine wpQuiet_nil ?_
      intro W hW
      have HW:=hid (X0.out.trans hW)
      clear hW
      go_wp2
      all_goals
       go_ret
       exact ⟨by rw [HF.out]; rfl,HW.out⟩
     | true =>
      cases hq:mayM m with
      | false =>
       have CS:=fun (W:World) (h:IntV S W (.agg #[.bool ng,.slice am zs.length cm]) ⟨ng,zs⟩) hs => z1l (S:=S) _ _ W h hs (Nat.le_trans HSM.out (by decide))
       simp only [hs] at CS
       have HCS:=hid CS
       clear CS
       have CM:=fun (W:World) (h:IntV S W (.agg #[.bool ng,.slice am zs.length cm]) ⟨ng,zs⟩) hs => z4b (S:=S) _ _ W h hs
       simp only [hi] at CM
       have HCM:=hid CM
       clear CM
       have CQ:=fun (W:World) (h:Pows S W (.slice ao m.length co) m) hs => z2j (S:=S) _ _ W h hs
       simp only [hq] at CQ
       have HCQ:=hid CQ
       clear CQ
       have HF:Hid (mayT ts = false):=hid (by rw [HM.out,z5o hq]; rfl)
       clear hs
       clear hi
       clear hq
       go_wp2
       refine z04 (by kernel_rfl) (by kernel_rfl) ?_
       repeat (go_big_quiet_step (first | (go_at_call 63; exact Later.done (HCS.out _ (z1v (H4.out.ext (X0.out.trans (Later.h _)) hS)) (z0a hS (X0.out.trans (Later.h _))))) | (go_at_call 64; exact Later.done (HCM.out _ (z1v (H4.out.ext (X0.out.trans (Later.h _)) hS)) (z0a hS (X0.out.trans (Later.h _))))) | (go_at_call 65; exact Later.done (HCQ.out _ (H5.out.ext (X0.out.trans (Later.h _)) hS) (z0a hS (X0.out.trans (Later.h _)))))))
       refine wpQuiet_nil ?_
       intro W hW
       have HW:=hid (X0.out.trans hW)
       clear hW
       go_wp2
       all_goals
        go_ret
        exact ⟨by rw [HF.out]; rfl,HW.out⟩
      | true =>
       have CS:=fun (W:World) (h:IntV S W (.agg #[.bool ng,.slice am zs.length cm]) ⟨ng,zs⟩) hs => z1l (S:=S) _ _ W h hs (Nat.le_trans HSM.out (by decide))
       simp only [hs] at CS
       have HCS:=hid CS
       clear CS
       have CM:=fun (W:World) (h:IntV S W (.agg #[.bool ng,.slice am zs.length cm]) ⟨ng,zs⟩) hs => z4b (S:=S) _ _ W h hs
       simp only [hi] at CM
       have HCM:=hid CM
       clear CM
       have CQ:=fun (W:World) (h:Pows S W (.slice ao m.length co) m) hs => z2j (S:=S) _ _ W h hs
       simp only [hq] at CQ
       have HCQ:=hid CQ
       clear CQ
       have HF:Hid (mayT ts = z3y (befT ts (0 + 1)) (ts.drop (0 + 1))):=hid (by rw [HM.out,z9e (by rw [hs]; exact hc0) hi hq]; rfl)
       clear hs
       clear hi
       clear hq
       go_wp2
       refine z04 (by kernel_rfl) (by kernel_rfl) ?_
       repeat (go_big_quiet_step (first | (go_at_call 63; exact Later.done (HCS.out _ (z1v (H4.out.ext (X0.out.trans (Later.h _)) hS)) (z0a hS (X0.out.trans (Later.h _))))) | (go_at_call 64; exact Later.done (HCM.out _ (z1v (H4.out.ext (X0.out.trans (Later.h _)) hS)) (z0a hS (X0.out.trans (Later.h _))))) | (go_at_call 65; exact Later.done (HCQ.out _ (H5.out.ext (X0.out.trans (Later.h _)) hS) (z0a hS (X0.out.trans (Later.h _)))))))
       refine wpQuiet_nil ?_
       intro W hW
       have HW:=hid (X0.out.trans hW)
       clear hW
       go_wp2
       go_roundw
       case rel => exact ⟨_,by omega,by go_num,HW.out,HF.out⟩
       case measure => simp only [intOf]; omega
   | succ k =>
    obtain ⟨u,hu⟩:=z00 (show k < ts.length by omega)
    obtain ⟨b',off',vmu,vou,hbb,-,-,-,-,u1,u2,u3,u4,u5⟩:=H.out.cellAt hu
    obtain ⟨rfl,rfl⟩:b = b' ∧ off = off':=by simpa using hbb
    have HP5:=hid u5
    obtain ⟨ap,cp,rfl⟩:=u5.form
    have HBF:Hid (befT ts (k + 1) = some u):=hid hu
    have L3:=fun X:Later (wr.alloc (.cells #[.bool ng,.slice am zs.length cm,.slice ao m.length co] 49)) => X.cell (X0.out.cell u3)
    have hq0:((k:Nat):Int) + 1 - 1 = (k:Int):=by omega
    clear u1 u2 u3 u4 u5 hu hbb
    obtain ⟨sgn,hs⟩:∃ s,z18 (valI ⟨ng,zs⟩) = s:=⟨_,rfl⟩
    by_cases hc0:sgn = 0
    ·subst hc0
     have CS:=fun (W:World) (h:IntV S W (.agg #[.bool ng,.slice am zs.length cm]) ⟨ng,zs⟩) hs => z1l (S:=S) _ _ W h hs (Nat.le_trans HSM.out (by decide))
     simp only [hs] at CS
     have HCS:=hid CS
     clear CS
     have HF:Hid (mayT ts = false):=hid (by rw [HM.out,z8f hs]; rfl)
     clear hs
     go_wp2
     refine z04 (by kernel_rfl) (by kernel_rfl) ?_
     repeat (go_big_quiet_step (first | (go_at_call 63; exact Later.done (HCS.out _ (z1v (H4.out.ext (X0.out.trans (Later.h _)) hS)) (z0a hS (X0.out.trans (Later.h _)))))))
     refine wpQuiet_nil ?_
     intro W hW
     have HW:=hid (X0.out.trans hW)
     clear hW
     go_wp2
     all_goals
      go_ret
      exact ⟨by rw [HF.out]; rfl,HW.out⟩
    ·have hb0:(sgn == 0) = false:=by rw [beq_eq_false_iff_ne]; exact hc0
     have hsr:-1 ≤ sgn ∧ sgn ≤ 1:=by rw [← hs]; unfold z18; rcases z46 (valI ⟨ng,zs⟩) 0 with h | h | h <;> omega
     obtain ⟨hsr1,hsr2⟩:=hsr
     cases hi:mayI ⟨ng,zs⟩ with
     | false =>
      have CS:=fun (W:World) (h:IntV S W (.agg #[.bool ng,.slice am zs.length cm]) ⟨ng,zs⟩) hs => z1l (S:=S) _ _ W h hs (Nat.le_trans HSM.out (by decide))
      simp only [hs] at CS
      have HCS:=hid CS
      clear CS
      have CM:=fun (W:World) (h:IntV S W (.agg #[.bool ng,.slice am zs.length cm]) ⟨ng,zs⟩) hs => z4b (S:=S) _ _ W h hs
      simp only [hi] at CM
      have HCM:=hid CM
      clear CM
      have HF:Hid (mayT ts = false):=hid (by rw [HM.out,z6t hi]; rfl)
      clear hs
      clear hi
      go_wp2
      refine z04 (by kernel_rfl) (by kernel_rfl) ?_
      repeat (go_big_quiet_step (first | (go_at_call 63; exact Later.done (HCS.out _ (z1v (H4.out.ext (X0.out.trans (Later.h _)) hS)) (z0a hS (X0.out.trans (Later.h _))))) | (go_at_call 64; exact Later.done (HCM.out _ (z1v (H4.out.ext (X0.out.trans (Later.h _)) hS)) (z0a hS (X0.out.trans (Later.h _)))))))
      refine wpQuiet_nil ?_
      intro W hW
      have HW:=hid (X0.out.trans hW)
      clear hW
      go_wp2
      all_goals
       go_ret
       exact ⟨by rw [HF.out]; rfl,HW.out⟩
     | true =>
      cases hq:mayM m with
      | false =>
       have CS:=fun (W:World) (h:IntV S W (.agg #[.bool ng,.slice am zs.length cm]) ⟨ng,zs⟩) hs => z1l (S:=S) _ _ W h hs (Nat.le_trans HSM.out (by decide))
       simp only [hs] at CS
       have HCS:=hid CS
       clear CS
       have CM:=fun (W:World) (h:IntV S W (.agg #[.bool ng,.slice am zs.length cm]) ⟨ng,zs⟩) hs => z4b (S:=S) _ _ W h hs
       simp only [hi] at CM
       have HCM:=hid CM
       clear CM
       have CQ:=fun (W:World) (h:Pows S W (.slice ao m.length co) m) hs => z2j (S:=S) _ _ W h hs
       simp only [hq] at CQ
       have HCQ:=hid CQ
       clear CQ
       have HF:Hid (mayT ts = false):=hid (by rw [HM.out,z5o hq]; rfl)
       clear hs
       clear hi
       clear hq
       go_wp2
       refine z04 (by kernel_rfl) (by kernel_rfl) ?_
       repeat (go_big_quiet_step (first | (go_at_call 63; exact Later.done (HCS.out _ (z1v (H4.out.ext (X0.out.trans (Later.h _)) hS)) (z0a hS (X0.out.trans (Later.h _))))) | (go_at_call 64; exact Later.done (HCM.out _ (z1v (H4.out.ext (X0.out.trans (Later.h _)) hS)) (z0a hS (X0.out.trans (Later.h _))))) | (go_at_call 65; exact Later.done (HCQ.out _ (H5.out.ext (X0.out.trans (Later.h _)) hS) (z0a hS (X0.out.trans (Later.h _)))))))
       refine wpQuiet_nil ?_
       intro W hW
       have HW:=hid (X0.out.trans hW)
       clear hW
       go_wp2
       all_goals
        go_ret
        exact ⟨by rw [HF.out]; rfl,HW.out⟩
      | true =>
       obtain ⟨od,ho⟩:∃ s,z3e u.m m = s:=⟨_,rfl⟩
       have hor:-1 ≤ od ∧ od ≤ 1:=by rw [← ho]; exact z5p _ _
       obtain ⟨hor1,hor2⟩:=hor
       by_cases hc1:od ≤ 0
       ·have hb1:decide (od ≤ 0) = true:=by simpa using hc1
        have CS:=fun (W:World) (h:IntV S W (.agg #[.bool ng,.slice am zs.length cm]) ⟨ng,zs⟩) hs => z1l (S:=S) _ _ W h hs (Nat.le_trans HSM.out (by decide))
        simp only [hs] at CS
        have HCS:=hid CS
        clear CS
        have CM:=fun (W:World) (h:IntV S W (.agg #[.bool ng,.slice am zs.length cm]) ⟨ng,zs⟩) hs => z4b (S:=S) _ _ W h hs
        simp only [hi] at CM
        have HCM:=hid CM
        clear CM
        have CQ:=fun (W:World) (h:Pows S W (.slice ao m.length co) m) hs => z2j (S:=S) _ _ W h hs
        simp only [hq] at CQ
        have HCQ:=hid CQ
        clear CQ
        have CO:=fun (W:World) (h1:Pows S W (.slice ap u.m.length cp) u.m) (h2:Pows S W (.slice ao m.length co) m) hs => z66 (S:=S) _ _ _ _ W h1 h2 hs
        simp only [ho] at CO
        have HCO:=hid CO
        clear CO
        have HF:Hid (mayT ts = false):=hid (by rw [HM.out,HBF.out]; simp only; rw [ho,decide_eq_false (by omega)]; simp)
        clear hs
        clear hi
        clear hq
        clear ho
        go_wp2
        refine z04 (by kernel_rfl) (by kernel_rfl) ?_
        repeat (go_big_quiet_step (first | (go_at_call 63; exact Later.done (HCS.out _ (z1v (H4.out.ext (X0.out.trans (Later.h _)) hS)) (z0a hS (X0.out.trans (Later.h _))))) | (go_at_call 64; exact Later.done (HCM.out _ (z1v (H4.out.ext (X0.out.trans (Later.h _)) hS)) (z0a hS (X0.out.trans (Later.h _))))) | (go_at_call 65; exact Later.done (HCQ.out _ (H5.out.ext (X0.out.trans (Later.h _)) hS) (z0a hS (X0.out.trans (Later.h _))))) | (go_at_call 66; exact Later.done (HCO.out _ (HP5.out.ext (X0.out.trans (Later.h _)) hS) (H5.out.ext (X0.out.trans (Later.h _)) hS) (z0a hS (X0.out.trans (Later.h _)))))))
        refine wpQuiet_nil ?_
        intro W hW
        have HW:=hid (X0.out.trans hW)
        clear hW
        go_wp2
        all_goals
         go_ret
         exact ⟨by rw [HF.out]; rfl,HW.out⟩
       ·have hb1:decide (od ≤ 0) = false:=by simpa using hc1
        have CS:=fun (W:World) (h:IntV S W (.agg #[.bool ng,.slice am zs.length cm]) ⟨ng,zs⟩) hs => z1l (S:=S) _ _ W h hs (Nat.le_trans HSM.out (by decide))
        simp only [hs] at CS
        have HCS:=hid CS
        clear CS
        have CM:=fun (W:World) (h:IntV S W (.agg #[.bool ng,.slice am zs.length cm]) ⟨ng,zs⟩) hs => z4b (S:=S) _ _ W h hs
        simp only [hi] at CM
        have HCM:=hid CM
        clear CM
        have CQ:=fun (W:World) (h:Pows S W (.slice ao m.length co) m) hs => z2j (S:=S) _ _ W h hs
        simp only [hq] at CQ
        have HCQ:=hid CQ
        clear CQ
        have CO:=fun (W:World) (h1:Pows S W (.slice ap u.m.length cp) u.m) (h2:Pows S W (.slice ao m.length co) m) hs => z66 (S:=S) _ _ _ _ W h1 h2 hs
        simp only [ho] at CO
        have HCO:=hid CO
        clear CO
        have HF:Hid (mayT ts = z3y (befT ts (k + 1 + 1)) (ts.drop (k + 1 + 1))):=hid (by rw [HM.out,HBF.out,z9e (by rw [hs]; exact hc0) hi hq]; simp only; rw [ho,decide_eq_true (by omega)]; simp)
        clear hs
        clear hi
        clear hq
        clear ho
        go_wp2
        refine z04 (by kernel_rfl) (by kernel_rfl) ?_
        repeat (go_big_quiet_step (first | (go_at_call 63; exact Later.done (HCS.out _ (z1v (H4.out.ext (X0.out.trans (Later.h _)) hS)) (z0a hS (X0.out.trans (Later.h _))))) | (go_at_call 64; exact Later.done (HCM.out _ (z1v (H4.out.ext (X0.out.trans (Later.h _)) hS)) (z0a hS (X0.out.trans (Later.h _))))) | (go_at_call 65; exact Later.done (HCQ.out _ (H5.out.ext (X0.out.trans (Later.h _)) hS) (z0a hS (X0.out.trans (Later.h _))))) | (go_at_call 66; exact Later.done (HCO.out _ (HP5.out.ext (X0.out.trans (Later.h _)) hS) (H5.out.ext (X0.out.trans (Later.h _)) hS) (z0a hS (X0.out.trans (Later.h _)))))))
        refine wpQuiet_nil ?_
        intro W hW
        have HW:=hid (X0.out.trans hW)
        clear hW
        go_wp2
        go_roundw
        case rel => exact ⟨_,by omega,by go_num,HW.out,HF.out⟩
        case measure => simp only [intOf]; omega
  ·obtain rfl:k = ts.length:=by omega
   have HX:=hid hx
   have HF:Hid (mayT ts = true):=hid (by rw [hm,List.drop_length]; rfl)
   clear hx hm
   go_wp2
   all_goals
    go_ret
    exact ⟨by rw [HF.out]; rfl,HX.out⟩
end
section
open Go.RowKit
section
variable {P:Program}
def zbb (w:World) (A:Option Addr) (m size:Nat) (news:List Value):Prop :=
 news.length = m * size ∧ (∀ u ∈ news,u.oneCell' = true) ∧ (0 < m → ∃ ad,A = some ad ∧ ∀ j u,news[j]? = some u → w.cell? (ad.add j) = some u)
theorem zac (w:World) {base:Nat} {t e ty:TypeId} {i:TypeInfo} {size:Nat} (ht:P.underlying t = some (.slice e)) (hi:P.info? e = some i)
  {v:Value} {n:Nat} {xs:List Value} (h:w.ownsRow base e size v n xs) (c:Nat):(Builtin.append_ #[t,t] ty #[v,.slice none 0 c]).run P w = .ok v w:=by
 obtain ⟨_,⟨rfl,rfl⟩ | ⟨g,k,row,rfl,_,_,hk,_⟩⟩:=h
 all_goals simp [Builtin.append_,run_underlying ht,sizeOf,typeInfo,Builtin.lenOf,Builtin.firstCells,storeCells, *]
theorem z6p (w:World) (base:Nat) (t ty e:TypeId) (i:TypeInfo) (z:Value) (size bytes:Nat) (ht:P.underlying t = some (.slice e)) (hi:P.info? e = some i) (hz:i.zero = some z)
  (hsize:i.size = size) (hby:i.bytes = bytes) (hzs:z.cells.size = size) (hsz:0 < size)
  (v:Value) (n:Nat) (xs:List Value) (hown:w.ownsRow base e size v n xs)
  (A:Option Addr) (m c:Nat) (news:List Value) (hsrc:zbb w A m size news) (h63:n + m ≤ maxLen) (hbytes:(n + m) * bytes ≤ 140737488355328) (hbase:base ≤ w.heap.size) :
  ∃ v' w',(Builtin.append_ #[t,t] ty #[v,.slice A m c]).run P w = .ok v' w' ∧ w'.ownsRow base e size v' (n + m) (xs ++ news) ∧ w.grownBy w' v.ownBlock ∧ (v'.ownBlock = v.ownBlock ∨ v'.ownBlock = some w.heap.size):=by
 obtain ⟨hl,h1,hat⟩:=hsrc
 cases A with
 | some ad =>
  obtain ⟨v',w',k1,k2,k3,_,k5⟩:=run_append_own_at (P:=P) w base t ty e i z size bytes ht hi hz hsize hby hzs hsz v n xs hown ad m c news hl (fun j u hu => by
   have hm:0 < m:=by
    rcases Nat.eq_zero_or_pos m with rfl | h0
    ·have:=z03 hu; omega
    ·exact h0
   obtain ⟨ad',e,hc⟩:=hat hm
   cases e
   exact hc j u hu) h1 h63 hbytes hbase
  exact ⟨v',w',k1,k2,k3,k5⟩
 | none =>
  obtain rfl:m = 0:=by
   rcases Nat.eq_zero_or_pos m with h0 | h0
   ·exact h0
   ·obtain ⟨ad',e,_⟩:=hat h0
    cases e
  obtain rfl:news = []:=List.length_eq_zero_iff.1 (by omega)
  exact ⟨v,w,zac w ht hi hown c,by simpa using hown,⟨rfl,rfl,rfl,Nat.le_refl _,fun _ _ _ => rfl⟩,.inl rfl⟩
theorem z0m (w:World) {ops:Array Oper} {rest:List Oper} {o:Oper} {a:Act} {Q:Exit → Act → World → Prop} (hgd:o.guard = none) (s x:Operand) (t:TypeId)
  (ho:o.op = .call { callee:=.builtin .append,args:=#[s,x],argTypes:=#[t,t] })
  (base:Nat) (e:TypeId) (i:TypeInfo) (z:Value) (size bytes:Nat) (ht:P.underlying t = some (.slice e)) (hi:P.info? e = some i) (hz:i.zero = some z)
  (hsize:i.size = size) (hby:i.bytes = bytes) (hzs:z.cells.size = size) (hsz:0 < size)
  (v:Value) (n:Nat) (xs:List Value) (hs:a.eval s = v) (hown:w.ownsRow base e size v n xs)
  (A:Option Addr) (m c:Nat) (news:List Value) (hx:a.eval x = .slice A m c) (hsrc:zbb w A m size news)
  (h63:n + m ≤ maxLen) (hbytes:(n + m) * bytes ≤ 140737488355328) (hbase:base ≤ w.heap.size)
  (h:∀ v' w',w'.ownsRow base e size v' (n + m) (xs ++ news) → w.grownBy w' v.ownBlock → (v'.ownBlock = v.ownBlock ∨ v'.ownBlock = some w.heap.size) → wpList P ops Q rest (a.put o.dst v') w'):wpList P ops Q (o :: rest) a w:=by
 obtain ⟨v',w',hrun,h2,h3,h4⟩:=z6p (P:=P) w base t o.type e i z size bytes ht hi hz hsize hby hzs hsz v n xs hown A m c news hsrc h63 hbytes hbase
 refine wpList_plain hgd fun K hK => ?_
 unfold Oper.wp execOp
 simp only [ho,resolve,invoke,builtin,Sem.run_bind,Sem.run_pure,Result.andThen_ok,List.map_toArray,List.map_cons,List.map_nil,hs,hx,hrun]
 exact hK _ _ (h v' w' h2 h3 h4)
theorem z09 (W:World) {ops:Array Oper} {rest:List Oper} {o:Oper} {a:Act} {Q:Exit → Act → World → Prop} (hgd:o.guard = none) (s x:Operand) (t:TypeId)
  (ho:o.op = .call { callee:=.builtin .append,args:=#[s,x],argTypes:=#[t,t] })
  (base:Nat) (e:TypeId) (z:Value) (size bytes:Nat) (ht:P.underlying t = some (.slice e)) (hinfo:(P.info? e).map (fun i => (i.zero,i.size,i.bytes)) = some (some z,size,bytes)) (hzs:z.cells.size = size) (hsz:0 < size)
  (v:Value) (n:Nat) (xs:List Value) (hs:a.eval s = v) (hown:W.ownsRow base e size v n xs)
  (cs:Array Value) (hcs:cs.size = size) (h1:∀ u ∈ cs.toList,u.oneCell' = true) (hx:a.eval x = .slice (some ⟨W.heap.size,0,none⟩) 1 1)
  (hn:n ≤ 1000000000) (hbytes:bytes ≤ 10000) (hbase:base ≤ W.heap.size)
  (h:∀ v' w',w'.ownsRow base e size v' (n + 1) (xs ++ cs.toList) → W.grownBy w' v.ownBlock → (v'.ownBlock = v.ownBlock ∨ v'.ownBlock = some (W.heap.size + 1)) → wpList P ops Q rest (a.put o.dst v') w'):wpList P ops Q (o :: rest) a (W.alloc (.cells cs e)):=by
 obtain ⟨i,hi,hz0,hz1,hz2⟩:=info_parts hinfo
 have hg0:=World.grownBy_alloc W (.cells cs e) v.ownBlock
 refine z0m _ hgd s x t ho base e i z size bytes ht hi hz0 hz1 hz2 hzs hsz v n xs hs (hown.alloc _) _ 1 1 cs.toList hx ⟨by simpa using hcs,h1,fun _ => ⟨_,rfl,fun j u hu => ?_⟩⟩ (by unfold maxLen; omega) ?_ (Nat.le_trans hbase hg0.size) (fun v' w' k1 k2 k3 => h v' w' k1 ?_ ?_)
 ·rw [show (⟨W.heap.size,0,none⟩:Addr).add j = ⟨W.heap.size,j,none⟩ by unfold Addr.add; split <;> simp_all]
  exact z02 W cs e rfl (by simpa using hu)
 ·have:(n + 1) * bytes ≤ 1000000001 * 10000:=Nat.mul_le_mul (by omega) hbytes
  omega
 ·exact ⟨k2.os.trans hg0.os,k2.tape.trans hg0.tape,k2.output.trans hg0.output,Nat.le_trans hg0.size k2.size,fun k hk hne => (k2.block k (Nat.lt_of_lt_of_le hk hg0.size) hne).trans (hg0.block k hk hne)⟩
 ·rw [size_alloc] at k3
  exact k3
theorem z1w (W:World) {ops:Array Oper} {rest:List Oper} {o:Oper} {a:Act} {Q:Exit → Act → World → Prop} (hgd:o.guard = none) (s x:Operand) (t:TypeId)
  (ho:o.op = .call { callee:=.builtin .append,args:=#[s,x],argTypes:=#[t,t] })
  (base:Nat) (e:TypeId) (z:Value) (size bytes:Nat) (ht:P.underlying t = some (.slice e)) (hinfo:(P.info? e).map (fun i => (i.zero,i.size,i.bytes)) = some (some z,size,bytes)) (hzs:z.cells.size = size) (hsz:0 < size)
  (v:Value) (n:Nat) (xs:List Value) (hs:a.eval s = v) (hown:W.ownsRow base e size v n xs)
  (cs:Array Value) (hcs:cs.size = size) (h1:∀ u ∈ cs.toList,u.oneCell' = true) (hx:a.eval x = .slice (some ⟨W.heap.size,0,none⟩) 1 1)
  (hn:n ≤ 1000000000000) (hbytes:bytes ≤ 100) (hbase:base ≤ W.heap.size)
  (h:∀ v' w',w'.ownsRow base e size v' (n + 1) (xs ++ cs.toList) → W.grownBy w' v.ownBlock → (v'.ownBlock = v.ownBlock ∨ v'.ownBlock = some (W.heap.size + 1)) → wpList P ops Q rest (a.put o.dst v') w'):wpList P ops Q (o :: rest) a (W.alloc (.cells cs e)):=by
 obtain ⟨i,hi,hz0,hz1,hz2⟩:=info_parts hinfo
 have hg0:=World.grownBy_alloc W (.cells cs e) v.ownBlock
 refine z0m _ hgd s x t ho base e i z size bytes ht hi hz0 hz1 hz2 hzs hsz v n xs hs (hown.alloc _) _ 1 1 cs.toList hx ⟨by simpa using hcs,h1,fun _ => ⟨_,rfl,fun j u hu => ?_⟩⟩ (by unfold maxLen; omega) ?_ (Nat.le_trans hbase hg0.size) (fun v' w' k1 k2 k3 => h v' w' k1 ?_ ?_)
 ·rw [show (⟨W.heap.size,0,none⟩:Addr).add j = ⟨W.heap.size,j,none⟩ by unfold Addr.add; split <;> simp_all]
  exact z02 W cs e rfl (by simpa using hu)
 ·have:(n + 1) * bytes ≤ 1000000000001 * 100:=Nat.mul_le_mul (by omega) hbytes
  omega
 ·exact ⟨k2.os.trans hg0.os,k2.tape.trans hg0.tape,k2.output.trans hg0.output,Nat.le_trans hg0.size k2.size,fun k hk hne => (k2.block k (Nat.lt_of_lt_of_le hk hg0.size) hne).trans (hg0.block k hk hne)⟩
 ·rw [size_alloc] at k3
  exact k3
end
theorem z6u (b off j:Nat):(⟨b,off,none⟩:Addr).add j = ⟨b,off + j,none⟩:=by
 unfold Addr.add
 split
 ·rename_i h
  subst h
  rfl
 ·rfl
theorem zju (m:Mono):∀ u ∈ z3d m,u.oneCell' = true:=by
 intro u hu
 obtain ⟨x,_,hx⟩:=List.mem_flatMap.1 hu
 simp at hx
 rcases hx with rfl | rfl <;> rfl
theorem znp {m:Mono} {j:Nat} {u:Value} (h:(z3d m)[j]? = some u):∃ k x,m[k]? = some x ∧ (j = k * 2 ∧ u = .int .i64 x.1 ∨ j = k * 2 + 1 ∧ u = .int .i64 x.2):=by
 have hj:=z03 h
 rw [z8e] at hj
 obtain ⟨x,hx⟩:=z00 (show j / 2 < m.length by omega)
 obtain ⟨h1,h2⟩:=z99 hx
 refine ⟨j / 2,x,hx,?_⟩
 rcases (show j = j / 2 * 2 ∨ j = j / 2 * 2 + 1 by omega) with e | e
 ·rw [← e] at h1
  exact .inl ⟨e,Option.some.inj (h.symm.trans h1)⟩
 ·rw [← e] at h2
  exact .inr ⟨e,Option.some.inj (h.symm.trans h2)⟩
theorem Pows.src {S:Nat → Prop} {w:World} {A:Option Addr} {n cap:Nat} {m:Mono} (h:Pows S w (.slice A n cap) m):n = m.length ∧ zbb w A n 2 (z3d m):=by
 obtain ⟨b,off,⟨a',cap',h1,h2,h3,h4,h5⟩,hc⟩:=h
 obtain ⟨rfl,rfl,rfl⟩:A = a' ∧ n = m.length ∧ cap = cap':=by simpa using h1
 refine ⟨rfl,z8e m,zju m,fun h0 => ⟨_,h4 h0,fun j u hu => ?_⟩⟩
 obtain ⟨k,x,hx,⟨rfl,rfl⟩ | ⟨rfl,rfl⟩⟩:=znp hu
 ·rw [z6u]
  exact (hc k x hx).2.1
 ·rw [z6u]
  exact (hc k x hx).2.2
theorem Tryz.infoPower:(Tryz.prog.info? 51).map (fun i => (i.zero,i.size,i.bytes)) = some (some (.agg #[.int .i64 0,.int .i64 0]),2,16):=by kernel_rfl
theorem Pows.of_none {S:Nat → Prop} {w:World} {n cap:Nat} {m:Mono} (h:Pows S w (.slice Option.none n cap) m):m = []:=by
 obtain ⟨b,off,⟨a',cap',h1,h2,h3,h4,h5⟩,hc⟩:=h
 obtain ⟨rfl,rfl,rfl⟩:Option.none = a' ∧ n = m.length ∧ cap = cap':=by simpa using h1
 rcases Nat.eq_zero_or_pos m.length with h0 | h0
 ·exact List.length_eq_zero_iff.1 h0
 ·cases h4 h0
theorem z7w {S:Nat → Prop} (v:Value) (m:Mono) (w:World) (h:Pows S w v m) (hS:∀ k,S k → k < w.heap.size) (hr:m.length ≤ 1000000) :
  Calls Tryz.prog 70 #[v] w fun e w' => ∃ v',e = .returned v' ∧ Pows (New w w') w' v' m ∧ Ext w w':=by
 obtain ⟨i0,hi,hz0,hz1,hz2⟩:=info_parts Tryz.infoPower
 have hb:=h.inBounds
 have H:=hid h
 have HB:=hid hb
 obtain ⟨A,c,rfl⟩:=h.form
 clear h hb
 have hnil:=fun (w:World) => Lib.run_eql_slice_nil (P:=Tryz.prog) w 47 51 A m.length c 0 0 Tryz.underlying47
 cases A with
 | none =>
  have HM:=hid H.out.of_none
  go_enter Tryz.func70,Tryz.ntmps70
  go_wp2
  all_goals
   go_ret
   exact ⟨_,rfl,by rw [HM.out]; exact Pows.empty _ _ _,Ext.refl _⟩
 | some ad =>
  have HS:=hid ((H.out.to (Kept.ext (Ext.alloc (Ext.refl w) (.cells #[] 51)) hS) (fun _ h => h)).src.2)
  have HO:=hid (World.ownsRow_made (base:=w.heap.size) (e:=51) (size:=2) w #[] 0 (Nat.le_refl _) (by unfold maxLen; omega) (by simp))
  have HR:=hid hr
  go_enter Tryz.func70,Tryz.ntmps70
  go_wp2_with (at_builtin; refine z0m _ rfl (.tmp 5) (.tmp 6) 47 rfl w.heap.size 51 i0 (.agg #[.int .i64 0,.int .i64 0]) 2 16 Tryz.underlying47 hi hz0 hz1 hz2 rfl (by decide) (.slice (some ⟨w.heap.size,0,none⟩) 0 0) 0 [] rfl HO.out (some ad) m.length c (z3d m) rfl HS.out (by have:=HR.out; unfold maxLen; omega) (by have:=HR.out; omega) (by simp) ?_; intro v1 w1 hown hg _; have HW:=hid hown; have HG:=hid hg; clear hown hg)
  go_ret
  have hx:Ext w w1:=by
   refine z0j (Ext.alloc (Ext.refl w) _) HG.out (fun k hk => ?_)
   have e:w.heap.size = k:=by simpa [Value.ownBlock] using hk
   omega
  refine ⟨v1,rfl,?_,hx⟩
  refine z67 (e:=51) ?_ HB.out
  simpa using HW.out
end
section
open Go.RowKit
def Digs (S:Nat → Prop) (w:World) (v:Value) (zs:List Nat):Prop :=
 ∃ b off,z31 S v zs.length b off ∧ ∀ j z,zs[j]? = some z → z < 10 ∧ w.cell? ⟨b,off + j,none⟩ = some (.int .i64 (z:Nat))
section
variable {S S':Nat → Prop} {w w':World} {v:Value}
theorem Digs.form {zs:List Nat} (h:Digs S w v zs):∃ a cap,v = .slice a zs.length cap:=by
 obtain ⟨b,off,⟨a,cap,h1,_⟩,_⟩:=h
 exact ⟨a,cap,h1⟩
theorem Digs.to {zs:List Nat} (h:Digs S w v zs) (hk:Kept S w w') (hS:∀ k,S k → S' k):Digs S' w' v zs:=by
 obtain ⟨b,off,hs,hc⟩:=h
 exact ⟨b,off,hs.mono hS,fun j z hz => ⟨(hc j z hz).1,hk.cell (hs.in (z03 hz)) (hc j z hz).2⟩⟩
theorem Digs.ext {zs:List Nat} (h:Digs S w v zs) (hx:Ext w w') (hS:∀ k,S k → k < w.heap.size):Digs S w' v zs:=h.to (Kept.ext hx hS) (fun _ h => h)
theorem Digs.len_le {zs:List Nat} (h:Digs S w v zs):zs.length ≤ 9223372036854775807:=by
 obtain ⟨b,off,⟨a,cap,h1,h2,h3,_⟩,_⟩:=h
 unfold maxLen at h3
 omega
theorem Digs.lt {zs:List Nat} (h:Digs S w v zs):∀ z ∈ zs,z < 10:=by
 obtain ⟨b,off,hs,hc⟩:=h
 intro z hz
 obtain ⟨j,hj⟩:=List.getElem?_of_mem hz
 exact (hc j z hj).1
theorem Digs.cellAt {zs:List Nat} {a:Option Addr} {n cap k z:Nat} (h:Digs S w (.slice a n cap) zs) (hz:zs[k]? = some z) :
  ∃ b off,a = some ⟨b,off,none⟩ ∧ n = zs.length ∧ n ≤ cap ∧ cap ≤ 9223372036854775807 ∧ S b ∧ z < 10 ∧ w.cell? ⟨b,off + k,none⟩ = some (.int .i64 (z:Nat)):=by
 obtain ⟨b,off,⟨a',cap',h1,h2,h3,h4,h5⟩,hc⟩:=h
 obtain ⟨rfl,rfl,rfl⟩:a = a' ∧ n = zs.length ∧ cap = cap':=by simpa using h1
 have hp:0 < zs.length:=by have:=z03 hz; omega
 exact ⟨b,off,h4 hp,rfl,h2,h3,h5 hp,hc k z hz⟩
theorem Digs.take {zs:List Nat} {a:Option Addr} {n cap k:Nat} (h:Digs S w (.slice a n cap) zs) (hk:k ≤ n):Digs S w (.slice a k cap) (zs.take k):=by
 obtain ⟨b,off,⟨a',cap',h1,h2,h3,h4,h5⟩,hc⟩:=h
 obtain ⟨rfl,rfl,rfl⟩:a = a' ∧ n = zs.length ∧ cap = cap':=by simpa using h1
 have hl:(zs.take k).length = k:=by rw [List.length_take]; omega
 refine ⟨b,off,⟨a,cap,by rw [hl],by omega,h3,fun h => h4 (by omega),fun h => h5 (by omega)⟩,fun j z hz => hc j z ?_⟩
 rw [List.getElem?_take] at hz
 split at hz
 ·exact hz
 ·simp at hz
theorem Digs.nilv (S:Nat → Prop) (w:World) (a:Option Addr) (cap:Nat) (h:cap ≤ 9223372036854775807):Digs S w (.slice a 0 cap) [] :=
 ⟨0,0,⟨a,cap,rfl,Nat.zero_le _,by unfold maxLen; omega,fun h => absurd h (Nat.lt_irrefl _),fun h => absurd h (Nat.lt_irrefl _)⟩,fun j x hx => by simp at hx⟩
def dval (z:Nat):Value:=.int .i64 (z:Nat)
theorem z79 {base:Nat} {e:TypeId} {ds:List Nat} (h:w.ownsRow base e 1 v ds.length (ds.map dval)) (hl:∀ z ∈ ds,z < 10):Digs (fun k => base ≤ k ∧ k < w.heap.size) w v ds:=by
 have hlt:=h.lt
 rcases h.2 with ⟨rfl,h0⟩ | ⟨g,cap,cur,rfl,hg,hh,h1,h2,h3,h4⟩
 ·obtain rfl:ds = []:=List.length_eq_zero_iff.1 h0
  exact Digs.nilv _ _ _ _ (by omega)
 ·refine ⟨g,0,⟨_,cap,rfl,h1,h2,fun _ => rfl,fun _ => hlt g rfl⟩,fun j z hz => ⟨hl z (List.mem_of_getElem? hz),?_⟩⟩
  rw [h.cellAt (0 + j) (by have:=z03 hz; omega),Nat.zero_add]
  simp [hz,dval]
theorem z2v {base:Nat} {e:TypeId} {o:List Nat} {u:Value} {f:Nat → Value} (h:w.ownsRow base e 1 v (o.length + 1) (o.map f ++ [u])) {z:Nat} (hu:u = f z):w.ownsRow base e 1 v (o ++ [z]).length ((o ++ [z]).map f):=by
 subst hu
 simpa using h
theorem z2w {u:Value} (h:u.oneCell' = true):∀ x ∈ (#[u]:Array Value).toList,x.oneCell' = true:=by
 intro x hx
 obtain rfl:x = u:=by simpa using hx
 exact h
end
theorem z05:2 ≤ 10:=by decide
theorem Tryz.infoInt:(Tryz.prog.info? 3).map (fun i => (i.zero,i.size,i.bytes)) = some (some (.int .i64 0),1,8):=by kernel_rfl
theorem z58 {S:Nat → Prop} (v:Value) (zs:List Nat) (w:World) (h:Digs S w v zs) :
  Calls Tryz.prog 108 #[v] w fun e w' => ∃ v',e = .returned v' ∧ Digs S w v' (rep 10 (val 10 zs)) ∧ w = w':=by
 have hl:=h.len_le
 have H:=hid h
 obtain ⟨a,cap,rfl⟩:=h.form
 clear h
 go_enter Tryz.func108,Tryz.ntmps108
 go_wp2
 go_loop [0] (fun x => ∃ k:Nat,k ≤ zs.length ∧ x = .slice a k cap ∧ z24 zs k = z24 zs zs.length) (fun x => z15 x)
 case atStart => exact ⟨zs.length,Nat.le_refl _,rfl,rfl⟩
 case round =>
  obtain ⟨k,hk,rfl,ht⟩:=hrel
  cases k with
  | zero =>
   have HT:=hid ht
   clear ht
   go_wp2
   all_goals
    go_ret
    refine ⟨_,rfl,?_,rfl⟩
    have h1:=H.out.take (Nat.zero_le _)
    rw [← z4w z05 zs H.out.lt,← List.take_length (l:=zs),← z4a zs _ (Nat.le_refl _),← HT.out]
    exact h1
  | succ k =>
   obtain ⟨z,hz⟩:=z00 (show k < zs.length by omega)
   obtain ⟨b,off,rfl,-,hcap,hmax,-,hzb,hcell⟩:=H.out.cellAt hz
   have HT:=hid ht
   have HZ:=hid hz
   clear ht hz
   by_cases h0:z = 0
   ·have hb:((z:Int) == 0) = true:=by simpa using h0
    have H0:=hid h0
    clear h0
    go_wp2
    go_round
    case rel => exact ⟨k,by omega,rfl,by rw [← HT.out,z24,HZ.out,H0.out,if_pos rfl]⟩
    case measure => simp only [z15]; omega
   ·have hb:((z:Int) == 0) = false:=by simpa using h0
    have H0:=hid h0
    clear h0
    go_wp2
    all_goals
     go_ret
     refine ⟨_,rfl,?_,rfl⟩
     have h1:=H.out.take hk
     have h2:z24 zs (k + 1) = k + 1:=by rw [z24,HZ.out,if_neg (by simpa using H0.out)]
     rw [← z4w z05 zs H.out.lt,← List.take_length (l:=zs),← z4a zs _ (Nat.le_refl _),← HT.out,h2]
     exact h1
theorem zho {B:Nat} {o xs:List Nat} {k x c n m:Nat} (hl:o.length = k) (h:val B o + B ^ k * c = val B (xs.take k) * n + m) (hx:xs[k]? = some x) :
  val B (o ++ [(c + x * n) % B]) + B ^ (k + 1) * ((c + x * n) / B) = val B (xs.take (k + 1)) * n + m:=by
 rw [z7v hl h,z2l hx,Nat.add_mul,Nat.mul_assoc]
 omega
theorem zhp {B:Nat} {o:List Nat} {k c V:Nat} (hl:o.length = k) (h:val B o + B ^ k * c = V):val B (o ++ [c % B]) + B ^ (k + 1) * (c / B) = V:=by
 have:=z7v (s:=0) hl h
 simpa using this
theorem zjv {S:Nat → Prop} (v:Value) (zs:List Nat) (n m:Int) (w:World) (h:Digs S w v zs) (hS:∀ k,S k → k < w.heap.size) (hr:zs.length ≤ 10000000) (hn0:0 ≤ n) (hn:n ≤ 65536) (hm0:0 ≤ m) (hm:m ≤ 65536) :
  Calls Tryz.prog 113 #[v,.int .i64 n,.int .i64 m] w fun e w' => ∃ v',e = .returned v' ∧ Digs (New w w') w' v' (rep 10 (val 10 zs * n.toNat + m.toNat)) ∧ Ext w w':=by
 obtain ⟨n,rfl⟩:=Int.eq_ofNat_of_zero_le hn0
 obtain ⟨m,rfl⟩:=Int.eq_ofNat_of_zero_le hm0
 simp only [Int.toNat_natCast]
 clear hn0 hm0
 have H:=hid h
 have hlt:=hid h.lt
 obtain ⟨a,cap,rfl⟩:=h.form
 clear h
 go_enter Tryz.func113,Tryz.ntmps113
 go_wp2
 go_loopw [7,8,9] (fun x c i wr => ∃ (k cc:Nat) (o:List Nat),k ≤ zs.length ∧ i = .int .i64 k ∧ c = .int .i64 cc ∧ cc ≤ 65536 ∧ o.length = k ∧ Hid (∀ z ∈ o,z < 10) ∧ Hid (wr.ownsRow w.heap.size 3 1 x o.length (o.map dval)) ∧ Ext w wr ∧
  Hid (val 10 o + 10 ^ k * cc = val 10 (zs.take k) * n + m)) (fun _ _ i _ => zs.length - (intOf i).toNat)
 case atStart => exact ⟨0,m,[],Nat.zero_le _,rfl,rfl,by omega,rfl,hid (by simp),hid (World.ownsRow_nil _ _ _ _),Ext.refl _,hid (by simp [val])⟩
 case round =>
  obtain ⟨k,cc,o,hk,rfl,rfl,hcc,hol,HO,HW,hx,HV⟩:=hrel
  by_cases hlt2:k < zs.length
  ·obtain ⟨x,hx1⟩:=z00 hlt2
   obtain ⟨b,off,rfl,-,hn1,hm1,-,hxb,hc1⟩:=(H.out.ext hx hS).cellAt hx1
   have HX1:=hid hx1
   have HX:=hid hx
   have HOL:=hid hol
   have hol2:o.length ≤ 1000000000:=by omega
   obtain ⟨p,hp⟩:∃ p:Nat,p = x * n:=⟨_,rfl⟩
   have hpb:p ≤ 9 * 65536:=by rw [hp]; exact Nat.mul_le_mul (by omega) (by omega)
   have hmul:(x:Int) * (n:Int) = (p:Int):=by rw [hp]; simp
   have HP:=hid hp
   clear hx1 hx hol hp
   go_wp2_with (at_builtin; refine z09 _ rfl (.tmp 25) (.tmp 28) 54 rfl w.heap.size 3 (.int .i64 0) 1 8 Tryz.underlying54 Tryz.infoInt rfl (by decide) _ o.length (o.map dval) rfl HW.out _ rfl (z2w rfl) rfl hol2 (by decide) HX.out.size ?_; intro v1 w1 hown hg _; have HOW:=hid hown; have HG:=hid hg; clear hown hg)
   go_roundw
   case rel =>
    refine ⟨k + 1,(cc + p) / 10,o ++ [(cc + p) % 10],by omega,by go_num,by go_num,by omega,by simp [HOL.out],?_,hid (z2v HOW.out (by unfold dval; congr 1)),z0j HX.out HG.out ?_,?_⟩
    ·refine hid (fun z hz => ?_)
     rcases List.mem_append.1 hz with h | h
     ·exact HO.out z h
     ·rw [List.mem_singleton.1 h]
      exact Nat.mod_lt _ (by decide)
    ·intro q hq
     exact (HW.out.lt q hq).1
    ·rw [HP.out]
     exact hid (zho HOL.out HV.out HX1.out)
   case measure => simp only [intOf]; omega
  ·obtain rfl:k = zs.length:=by omega
   rw [List.take_length] at HV
   have HX:=hid hx
   have HOL:=hid hol
   have hol2:o.length ≤ 10000000:=by omega
   have HO2:=hid hol2
   clear hx hol hol2
   obtain ⟨wo,rfl⟩:∃ wo:World,wo = wr:=⟨_,rfl⟩
   go_wp2
   go_loopw [7,8] (fun x c wr => ∃ (cc:Nat) (o:List Nat),c = .int .i64 cc ∧ cc ≤ 65536 ∧ Hid (o.length + cc ≤ 11000000) ∧ Hid (∀ z ∈ o,z < 10) ∧ Hid (wr.ownsRow w.heap.size 3 1 x o.length (o.map dval)) ∧ Ext w wr ∧
    Hid (val 10 o + 10 ^ o.length * cc = val 10 zs * n + m)) (fun _ c _ => (intOf c).toNat)
   case atStart => exact ⟨cc,o,rfl,hcc,hid (by have:=HO2.out; omega),HO,HW,HX.out,hid (by rw [HOL.out]; exact HV.out)⟩
   case round =>
    obtain ⟨cc,o,rfl,hcc,HB,HO,HW,hx,HV⟩:=hrel
    have HX:=hid hx
    clear hx
    by_cases h0:0 < cc
    ·have hol2:o.length ≤ 1000000000:=by have:=HB.out; omega
     go_wp2_with (at_builtin; refine z09 _ rfl (.tmp 34) (.tmp 37) 54 rfl w.heap.size 3 (.int .i64 0) 1 8 Tryz.underlying54 Tryz.infoInt rfl (by decide) _ o.length (o.map dval) rfl HW.out _ rfl (z2w rfl) rfl hol2 (by decide) HX.out.size ?_; intro v1 w1 hown hg _; have HOW:=hid hown; have HG:=hid hg; clear hown hg)
     go_roundw
     case rel =>
      refine ⟨cc / 10,o ++ [cc % 10],by go_num,by omega,hid (by have:=HB.out; simp; omega),?_,hid (z2v HOW.out (by unfold dval; congr 1)),z0j HX.out HG.out ?_,?_⟩
      ·refine hid (fun z hz => ?_)
       rcases List.mem_append.1 hz with h | h
       ·exact HO.out z h
       ·rw [List.mem_singleton.1 h]
        exact Nat.mod_lt _ (by decide)
      ·intro q hq
       exact (HW.out.lt q hq).1
      ·have:=zhp rfl HV.out
       exact hid (by simpa using this)
     case measure => simp only [intOf]; omega
    ·obtain rfl:cc = 0:=by omega
     have hd:=z79 HW.out HO.out
     have HD:=hid hd
     obtain ⟨a1,c1,rfl⟩:=hd.form
     have HE:Hid (val 10 o = val 10 zs * n + m):=hid (by have:=HV.out; simpa using this)
     clear hd
     go_wp2_with fail
     refine (z58 _ o _ HD.out).mono ?_
     rintro e w' ⟨v',rfl,hu,rfl⟩
     have HU:=hid hu
     clear hu
     go_wp2
     all_goals
      go_ret
      exact ⟨_,rfl,by rw [← HE.out]; exact HU.out,HX.out⟩
end
section
open Go.RowKit
theorem znq (k:Nat):B32 ^ k ≤ 10 ^ (10 * k):=by
 rw [Nat.pow_mul]
 exact Nat.pow_le_pow_left (by decide) k
theorem zcf {V k:Nat} (h:V < B32 ^ k):(rep 10 V).length ≤ 10 * k:=z0d z05 _ _ (Nat.lt_of_lt_of_le h (znq k))
theorem zjw {V k:Nat} (h:V < 10 ^ k):(rep B32 V).length ≤ k:=z0d z01 _ _ (Nat.lt_of_lt_of_le h (Nat.pow_le_pow_left (by decide) k))
theorem zjx {d:List Nat} {y:Nat} (h:∀ z ∈ d,z < 10) (hy:y < 65536):(rep 10 (val 10 d * 65536 + y)).length ≤ d.length + 5:=by
 refine z0d z05 _ _ ?_
 have h1:=z13 d h
 rw [Nat.pow_add]
 generalize 10 ^ d.length = P at *
 have h2:(val 10 d + 1) * 65536 ≤ P * 65536:=Nat.mul_le_mul_right _ h1
 omega
theorem zr2 {B x V:Nat} (h:V = x + B32 * B):(B * 65536 + x / 65536) * 65536 + x % 65536 = V:=by
 subst h
 show _ = x + 4294967296 * B
 omega
theorem zak {S:Nat → Prop} (v:Value) (zs:List Nat) (m:Int) (w:World) (h:Digs S w v zs) (hS:∀ k,S k → k < w.heap.size) (hr:zs.length ≤ 10000000) (hm:0 ≤ m ∧ m ≤ 65536) :
  Calls Tryz.prog 113 #[v,.int .i64 65536,.int .i64 m] w fun e w' => ∃ v',e = .returned v' ∧ Digs (New w w') w' v' (rep 10 (val 10 zs * 65536 + m.toNat)) ∧ Ext w w' :=
 zjv v zs 65536 m w h hS hr (by decide) (by decide) hm.1 hm.2
theorem zsv {S:Nat → Prop} (v:Value) (zs:List Nat) (w:World) (h:U32s S w v zs) (_hS:∀ k,S k → k < w.heap.size) (hr:zs.length ≤ 100000) :
  Calls Tryz.prog 78 #[v] w fun e w' => ∃ v',e = .returned v' ∧ Digs (New w w') w' v' (rep 10 (val B32 zs)) ∧ Ext w w':=by
 have H:=hid h
 have HLT:=hid h.lt
 obtain ⟨a,cap,rfl⟩:=h.form
 clear h
 go_enter Tryz.func78,Tryz.ntmps78
 go_wp2
 go_loopw [3,4] (fun d i wr => ∃ k:Nat,k ≤ zs.length ∧ i = .int .i64 ((k:Int) - 1) ∧ Hid (Digs (New w wr) wr d (rep 10 (val B32 (zs.drop k)))) ∧ Ext w wr) (fun _ i _ => (intOf i + 1).toNat)
 case atStart => exact ⟨zs.length,Nat.le_refl _,rfl,hid (by rw [List.drop_length]; exact Digs.nilv _ _ _ _ (by omega)),Ext.refl _⟩
 case round =>
  obtain ⟨k,hk,rfl,HD,hx⟩:=hrel
  cases k with
  | succ q =>
   have hq1:((q + 1:Nat):Int) - 1 = (q:Int):=by omega
   obtain ⟨x,hx1⟩:=z00 (show q < zs.length by omega)
   obtain ⟨b,off,rfl,-,hn1,hm1,hSb,hxb,hc1⟩:=H.out.cellAt hx1
   have g1:=hx.cell hc1
   have HC:=hid hc1
   have HV:=hid (zr2 (z56 hx1))
   have HX:=hid hx
   obtain ⟨d0,hd0⟩:∃ d,d = rep 10 (val B32 (zs.drop (q + 1))):=⟨_,rfl⟩
   have hdl:d0.length ≤ 1000000:=by
    rw [hd0]
    refine Nat.le_trans (zcf (k:=(zs.drop (q + 1)).length) (z13 _ (fun z hz => HLT.out z (List.mem_of_mem_drop hz)))) ?_
    rw [List.length_drop]
    omega
   have hv0:val 10 d0 = val B32 (zs.drop (q + 1)):=by rw [hd0,z0c z05]
   have hd:=HD.out
   rw [← hd0] at hd
   have HD1:=hid hd
   obtain ⟨ad,cd,rfl⟩:=hd.form
   have HDL:=hid hdl
   have HV0:=hid hv0
   have hqn:q < zs.length:=by omega
   clear hx1 hc1 hx hd0 hd hv0 hdl HD
   simp only [hq1]
   have hw1:IntKind.i64.wrap (IntKind.u32.wrap ((x:Int) / 65536)) = (x:Int) / 65536:=by rw [IntKind.wrap_u32,IntKind.wrap_i64] <;> omega
   have hw2:IntKind.i64.wrap ((x:Int).tmod 65536) = (x:Int) % 65536:=by rw [Int.tmod_eq_emod_of_nonneg (by omega),IntKind.wrap_i64]; omega
   have HB1:Hid (0 ≤ (x:Int) / 65536 ∧ (x:Int) / 65536 ≤ 65536):=hid (by omega)
   have HB2:Hid (0 ≤ (x:Int) % 65536 ∧ (x:Int) % 65536 ≤ 65536):=hid (by omega)
   have HL1:=hid (Nat.le_trans HDL.out (show 1000000 ≤ 10000000 by decide))
   have HL2:Hid ((rep 10 (val 10 d0 * 65536 + ((x:Int) / 65536).toNat)).length ≤ 10000000):=hid (Nat.le_trans (zjx (HD1.out.lt) (by omega)) (by have:=HDL.out; omega))
   go_wp2
   have S0:wr.drew.cell? ⟨b,off + q,none⟩ = some (.int .u32 (x:Nat)):=by simpa using g1
   have X0:=hid (Ext.drew (Ext.refl wr))
   go_region_held3 (fun W => W.cell? ⟨b,off + q,none⟩ = some (.int .u32 (x:Nat))) (first | exact S0 | exact S1 | exact S2)
    (first
     | (go_at_call 113; (with_reducible refine (zak _ d0 _ _ (HD1.out.ext X0.out New.lt) (z0a New.lt X0.out) HL1.out HB1.out).mono ?_); rintro e w1 ⟨v1,rfl,hd1,hx1⟩; have S1:=hx1.cell S0; have HX1:=hid hx1; have HE1:=hid hd1; obtain ⟨a1,c1,rfl⟩:=hd1.form; clear hx1 hd1)
     | (go_at_call 113; (with_reducible refine (zak _ _ _ _ HE1.out New.lt HL2.out HB2.out).mono ?_); rintro e w2 ⟨v2,rfl,hd2,hx2⟩; have S2:=hx2.cell S1; have HX2:=hid hx2; have HE2:=hid hd2; obtain ⟨a2,c2,rfl⟩:=hd2.form; clear hx2 hd2))
   clear hw1 hw2
   go_wp2
   go_roundw
   case rel =>
    refine ⟨q,by omega,rfl,hid ?_,HX.out.trans (X0.out.trans (HX1.out.trans HX2.out))⟩
    have e:(val 10 (rep 10 (val 10 d0 * 65536 + ((x:Int) / 65536).toNat)) * 65536 + ((x:Int) % 65536).toNat) = val B32 (zs.drop q):=by
     rw [z0c z05,← HV.out,HV0.out]
     have e1:((x:Int) / 65536).toNat = x / 65536:=by omega
     have e2:((x:Int) % 65536).toNat = x % 65536:=by omega
     rw [e1,e2]
    have h2:=HE2.out
    rw [e] at h2 ⊢
    exact h2.to (Kept.refl _ _) (New.mono (HX.out.trans (X0.out.trans HX1.out)))
   case measure => simp only [intOf]; omega
  | zero =>
   have HX:=hid hx
   clear hx
   go_wp2
   all_goals
    go_ret
    exact ⟨_,rfl,HD.out,HX.out⟩
theorem zcg {B N m:Nat} {o:List Nat} (hB:2 ≤ B) (h:rep B N = o ++ rep B m) (hm:0 < m):rep B N = (o ++ [m % B]) ++ rep B (m / B):=by
 rw [h,z5i hB hm]
 simp
theorem zch (n:Nat) (w:World) (hn:n < 18446744073709551616) :
  Calls Tryz.prog 73 #[.int .u64 (n:Nat)] w fun e w' => ∃ v',e = .returned v' ∧ Digs (New w w') w' v' (rep 10 n) ∧ Ext w w':=by
 have hlen:(rep 10 n).length ≤ 20:=z0d z05 _ _ (Nat.lt_of_lt_of_le hn (by decide))
 have HL:=hid hlen
 clear hlen
 go_enter Tryz.func73,Tryz.ntmps73
 go_wp2
 go_loopw [0,3] (fun i x wr => ∃ (m:Nat) (o:List Nat),i = .int .u64 m ∧ m < 18446744073709551616 ∧ Hid (rep 10 n = o ++ rep 10 m) ∧ Hid (wr.ownsRow w.heap.size 3 1 x o.length (o.map dval)) ∧ Ext w wr) (fun i _ _ => (intOf i).toNat)
 case atStart => exact ⟨n,[],rfl,hn,hid rfl,hid (World.ownsRow_nil _ _ _ _),Ext.refl _⟩
 case round =>
  obtain ⟨m,o,rfl,hm,HV,HW,hx⟩:=hrel
  have HX:=hid hx
  clear hx
  by_cases h0:0 < m
  ·have hol2:o.length ≤ 1000000000:=by
    have:=HL.out
    rw [HV.out,List.length_append] at this
    omega
   go_wp2_with (at_builtin; refine z09 _ rfl (.tmp 6) (.tmp 10) 54 rfl w.heap.size 3 (.int .i64 0) 1 8 Tryz.underlying54 Tryz.infoInt rfl (by decide) _ o.length (o.map dval) rfl HW.out _ rfl (z2w rfl) rfl hol2 (by decide) HX.out.size ?_; intro v1 w1 hown hg _; have HOW:=hid hown; have HG:=hid hg; clear hown hg)
   go_roundw
   case rel =>
    refine ⟨m / 10,o ++ [m % 10],by go_num,by omega,hid (zcg z05 HV.out h0),hid (z2v HOW.out (by unfold dval; congr 1)),z0j HX.out HG.out ?_⟩
    intro q hq
    exact (HW.out.lt q hq).1
   case measure => simp only [intOf]; omega
  ·obtain rfl:m = 0:=by omega
   have e:rep 10 n = o:=by rw [HV.out,z2k,List.append_nil]
   have E:=hid e
   clear e
   go_wp2
   all_goals
    go_ret
    refine ⟨_,rfl,?_,HX.out⟩
    rw [E.out]
    exact z79 HW.out (fun z hz => z32 z05 n z (by rw [E.out]; exact hz))
def rowD (o:List Nat):Nat → Value:=fun j => dval (dg o j)
theorem z8w {w:World} {T:TypeId} {n g:Nat} {o:List Nat} (h:w.rowIs g T n (rowD o)) (k z:Nat) (hk:k < o.length):(w.setCell ⟨g,k,none⟩ (dval z)).rowIs g T n (rowD (o.set k z)):=by
 refine (h.set k (dval z)).congr (fun i hi => ?_)
 unfold rowD dg
 rw [List.getElem?_set]
 by_cases e:i = k
 ·subst e
  simp [hk]
 ·rw [if_neg e,if_neg (fun h => e h.symm)]
theorem z7x (w:World) (n:Nat) (T:TypeId):(w.alloc (.cells (madeCells #[.int .i64 0] n) T)).rowIs w.heap.size T n (rowD (List.replicate n 0)) :=
 (World.rowIs_made w (.int .i64 0) n T).congr (fun i hi => by simp [rowD,dg,dval,hi])
theorem Digs.of_row {w:World} {T:TypeId} {g cap:Nat} {o:List Nat} (h:w.rowIs g T cap (rowD o)) (ho:o.length = cap) (hl:∀ z ∈ o,z < 10) (hc:cap ≤ 9223372036854775807):Digs (fun k => k = g) w (.slice (some ⟨g,0,none⟩) cap cap) o:=by
 subst ho
 refine ⟨g,0,⟨_,o.length,rfl,Nat.le_refl _,by unfold maxLen; omega,fun _ => rfl,fun _ => rfl⟩,fun j z hz => ⟨hl z (List.mem_of_getElem? hz),?_⟩⟩
 have hj:=z03 hz
 rw [Nat.zero_add,h.cell (i:=j) hj]
 simp [rowD,dval,dg,hz]
theorem drop_set {o:List Nat} {q z:Nat} (h:q < o.length):(o.set q z).drop q = z :: o.drop (q + 1):=by
 rw [List.drop_eq_getElem_cons (by simpa using h)]
 simp [List.drop_set]
theorem zjy {ds o:List Nat} {q x n r:Nat} (hx:ds[q]? = some x) (hq:q < o.length) (h:val 10 (ds.drop (q + 1)) = val 10 (o.drop (q + 1)) * n + r) :
  val 10 (ds.drop q) = val 10 ((o.set q ((r * 10 + x) / n)).drop q) * n + (r * 10 + x) % n:=by
 rw [z56 hx,drop_set hq,val,h]
 have:=zjj (V:=val 10 (o.drop (q + 1)) * n + r) (d:=x) (n:=n) (q:=val 10 (o.drop (q + 1))) (r:=r) rfl
 rw [Nat.mul_comm r 10,Nat.add_comm x,this,Nat.add_comm (10 * val 10 (List.drop (q + 1) o))]
theorem zsw {S:Nat → Prop} (v:Value) (zs:List Nat) (n:Int) (w:World) (h:Digs S w v zs) (_hS:∀ k,S k → k < w.heap.size) (hr:zs.length ≤ 10000000) (hn0:0 < n) (hn:n ≤ 65536) :
  Calls Tryz.prog 116 #[v,.int .i64 n] w fun e w' => ∃ v',e = .returned (.tuple #[v',.int .i64 ((val 10 zs % n.toNat:Nat):Int)]) ∧ Digs (New w w') w' v' (rep 10 (val 10 zs / n.toNat)) ∧ Ext w w':=by
 obtain ⟨n,rfl⟩:=Int.eq_ofNat_of_zero_le (Int.le_of_lt hn0)
 simp only [Int.toNat_natCast]
 have hnp:0 < n:=by omega
 have H:=hid h
 have HLT:=hid h.lt
 obtain ⟨a,cap,rfl⟩:=h.form
 clear h hn0
 have hmk:=run_make_row' (P:=Tryz.prog) 54 3 (.int .i64 0) 8 Tryz.underlying54 Tryz.infoInt rfl .i64 .i64 zs.length (by omega) (by omega) w
 have hz:w.heap.size < (w.alloc (.cells (madeCells #[.int .i64 0] zs.length) 3)).heap.size:=by simp
 have HR:=hid (z7x w zs.length 3)
 have HE:=hid (Ext.alloc (Ext.refl w) (.cells (madeCells #[.int .i64 0] zs.length) 3))
 go_enter Tryz.func116,Tryz.ntmps116
 go_wp2
 go_loopw [7,8] (fun rr i wr => ∃ (k r:Nat) (o:List Nat),k ≤ zs.length ∧ i = .int .i64 ((k:Int) - 1) ∧ rr = .int .i64 r ∧ r < n ∧ Hid (o.length = zs.length) ∧ Hid (∀ z ∈ o,z < 10) ∧ wr.rowIs w.heap.size 3 zs.length (rowD o) ∧ Ext w wr ∧
  Hid (val 10 (zs.drop k) = val 10 (o.drop k) * n + r)) (fun _ i _ => (intOf i + 1).toNat)
 case atStart => exact ⟨zs.length,0,List.replicate zs.length 0,Nat.le_refl _,rfl,rfl,hnp,hid (by simp),hid (by simp),HR.out,HE.out,hid (by rw [List.drop_length,List.drop_eq_nil_of_le (by simp)]; simp [val])⟩
 case round =>
  obtain ⟨k,r,o,hk,rfl,rfl,hrn,HOL,HO,hrow,hx,HV⟩:=hrel
  cases k with
  | succ q =>
   have hq1:((q + 1:Nat):Int) - 1 = (q:Int):=by omega
   have hqn:q < zs.length:=by omega
   obtain ⟨x,hx1⟩:=z00 hqn
   obtain ⟨b,off,rfl,-,hn1,hm1,hSb,hxb,hc1⟩:=H.out.cellAt hx1
   have g1:=hx.cell hc1
   have hcs:=hrow.cell (i:=q) hqn
   have hfs:=hrow.frozen q
   have HX1:=hid hx1
   have HROW:=hid hrow
   have HX:=hid hx
   obtain ⟨p,hp⟩:∃ p:Nat,p = r * 10 + x:=⟨_,rfl⟩
   have hmul:(r:Int) * 10 + (x:Int) = (p:Int):=by rw [hp]; omega
   have hpb:p < n * 10:=by rw [hp]; omega
   obtain ⟨dq,hdq⟩:∃ d,d = p / n:=⟨_,rfl⟩
   obtain ⟨dm,hdm⟩:∃ d,d = p % n:=⟨_,rfl⟩
   have hpd:dq < 10:=by rw [hdq]; exact Nat.div_lt_of_lt_mul hpb
   have hpm:dm < n:=by rw [hdm]; exact Nat.mod_lt _ hnp
   have hdv:(p:Int) / (n:Int) = (dq:Int):=by rw [hdq]; simp
   have hmd:(p:Int) % (n:Int) = (dm:Int):=by rw [hdm]; simp
   have HDQ:=hid hdq
   have HDM:=hid hdm
   clear hdq hdm
   have HP:=hid hp
   clear hx1 hc1 hx hrow hp
   have hne:¬ n = 0:=by omega
   simp only [hq1]
   go_wp2
   go_roundw
   case rel =>
    have hs:(wr.setCell ⟨w.heap.size,q,none⟩ (dval dq)).rowIs w.heap.size 3 zs.length (rowD (o.set q dq)):=z8w HROW.out q dq (by rw [HOL.out]; exact hqn)
    refine ⟨q,dm,o.set q dq,by omega,rfl,congrArg (Value.int .i64) hmd,hpm,hid (by simpa using HOL.out),?_,hs,HX.out.setCell (p:=⟨w.heap.size,q,none⟩) (Nat.le_refl _) _,hid ?_⟩
    ·refine hid (fun z hz => ?_)
     rcases List.mem_or_eq_of_mem_set hz with h | h
     ·exact HO.out z h
     ·rw [h]; exact hpd
    ·rw [HDQ.out,HDM.out,HP.out]
     exact zjy HX1.out (by rw [HOL.out]; exact hqn) HV.out
   case measure => simp only [intOf]; omega
  | zero =>
   have HROW:=hid hrow
   have HX:=hid hx
   have hd:=(Digs.of_row hrow HOL.out HO.out (by omega))
   have HD:=hid hd
   have HV0:Hid (val 10 zs = val 10 o * n + r):=hid (by simpa using HV.out)
   clear hrow hx hd
   go_wp2_with fail
   refine (z58 _ o _ HD.out).mono ?_
   rintro e w' ⟨v',rfl,hu,rfl⟩
   have HU:=hid hu
   clear hu
   go_wp2
   all_goals
    go_ret2
    have e1:val 10 zs / n = val 10 o:=by rw [HV0.out,Nat.mul_comm,Nat.mul_add_div hnp,Nat.div_eq_of_lt hrn]; rfl
    have e2:val 10 zs % n = r:=by rw [HV0.out,Nat.mul_comm,Nat.mul_add_mod,Nat.mod_eq_of_lt hrn]
    refine ⟨v',?_,?_,HX.out⟩
    ·rw [e2]
     rfl
    ·rw [e1]
     refine HU.out.to (Kept.refl _ _) (fun k hk => ?_)
     subst hk
     exact ⟨Nat.le_refl _,HROW.out.lt⟩
theorem znr {w:World} {v:Value} {base:Nat} {e:TypeId} {ds:List Nat} (h:w.ownsRow base e 1 v ds.length (ds.map uval)) (hl:∀ z ∈ ds,z < B32):U32s (fun k => base ≤ k ∧ k < w.heap.size) w v ds:=by
 have hlt:=h.lt
 rcases h.2 with ⟨rfl,h0⟩ | ⟨g,cap,cur,rfl,hg,hh,h1,h2,h3,h4⟩
 ·obtain rfl:ds = []:=List.length_eq_zero_iff.1 h0
  exact U32s.nilv _ _ _ _ (by omega)
 ·refine ⟨g,0,⟨_,cap,rfl,h1,h2,fun _ => rfl,fun _ => hlt g rfl⟩,fun j z hz => ⟨hl z (List.mem_of_getElem? hz),?_⟩⟩
  rw [h.cellAt (0 + j) (by have:=z03 hz; omega),Nat.zero_add]
  simp [hz,uval]
theorem zjz {S:Nat → Prop} (v:Value) (zs:List Nat) (w:World) (h:Digs S w v zs) (hS:∀ k,S k → k < w.heap.size) (hr:zs.length ≤ 10000000) :
  Calls Tryz.prog 116 #[v,.int .i64 65536] w fun e w' => ∃ v',e = .returned (.tuple #[v',.int .i64 ((val 10 zs % 65536:Nat):Int)]) ∧ Digs (New w w') w' v' (rep 10 (val 10 zs / 65536)) ∧ Ext w w' :=
 zsw v zs 65536 w h hS hr (by decide) (by decide)
theorem zhq {N m:Nat} {o:List Nat} (h:rep B32 N = o ++ rep B32 m) (hm:0 < m):rep B32 N = (o ++ [m / 65536 % 65536 * 65536 + m % 65536]) ++ rep B32 (m / 65536 / 65536):=by
 have e1:m / 65536 % 65536 * 65536 + m % 65536 = m % B32:=by show _ = m % 4294967296; omega
 have e2:m / 65536 / 65536 = m / B32:=by show _ = m / 4294967296; omega
 rw [e1,e2]
 exact zcg z01 h hm
theorem zhr {m:Nat} (h:0 < m):(rep 10 (m / 65536 / 65536)).length < (rep 10 m).length:=by
 rw [z5i z05 h,List.length_cons]
 have:(rep 10 (m / 65536 / 65536)).length ≤ (rep 10 (m / 10)).length:=z0d z05 _ _ (Nat.lt_of_le_of_lt (by omega) (z0s z05 _))
 omega
theorem zci {S:Nat → Prop} (v:Value) (n:Nat) (w:World) (h:Digs S w v (rep 10 n)) (hS:∀ k,S k → k < w.heap.size) (hr:(rep 10 n).length ≤ 10000000) :
  Calls Tryz.prog 88 #[v] w fun e w' => ∃ v',e = .returned v' ∧ U32s (New w w') w' v' (rep B32 n) ∧ Ext w w':=by
 have HLN:Hid (n < 10 ^ (rep 10 n).length):=hid (z0s z05 n)
 have HL32:Hid ((rep B32 n).length ≤ 10000000):=hid (Nat.le_trans (zjw HLN.out) hr)
 have H:=hid h
 have HR:=hid hr
 clear h hr
 obtain ⟨a,cap,rfl⟩:=H.out.form
 go_enter Tryz.func88,Tryz.ntmps88
 go_wp2
 go_loopw [0,3] (fun x y wr => ∃ (m:Nat) (o:List Nat),Hid (m ≤ n) ∧ Hid (rep B32 n = o ++ rep B32 m) ∧ Hid (wr.ownsRow w.heap.size 148 1 y o.length (o.map uval)) ∧ Ext w wr ∧ Hid (Digs (fun k => k < wr.heap.size ∧ some k ≠ y.ownBlock) wr x (rep 10 m))) (fun x _ _ => z15 x)
 case atStart => exact ⟨n,[],hid (Nat.le_refl _),hid rfl,hid (World.ownsRow_nil _ _ _ _),Ext.refl _,hid (H.out.to (Kept.refl _ _) (fun k hk => ⟨hS k hk,by simp [Value.ownBlock]⟩))⟩
 case round =>
  obtain ⟨m,o,HMN,HV,HW,hx,HD⟩:=hrel
  obtain ⟨a1,c1,rfl⟩:=HD.out.form
  have HX:=hid hx
  clear hx
  have hlm:(rep 10 m).length ≤ 10000000:=Nat.le_trans (z0d z05 _ _ (Nat.lt_of_le_of_lt HMN.out HLN.out)) HR.out
  by_cases h0:0 < m
  ·have hp:0 < (rep 10 m).length:=by
    rw [List.length_pos_iff,Ne,z1u z05]
    omega
   have hol2:o.length ≤ 1000000000:=by
    have:=HL32.out
    rw [HV.out,List.length_append] at this
    omega
   have hb1:=zjz _ _ wr HD.out (fun k hk => hk.1) hlm
   rw [z0c z05] at hb1
   obtain ⟨lo,hlo⟩:∃ d,d = m % 65536:=⟨_,rfl⟩
   obtain ⟨hi,hhi⟩:∃ d,d = m / 65536 % 65536:=⟨_,rfl⟩
   have hlo1:lo < 65536:=by omega
   have hhi1:hi < 65536:=by omega
   have HLO:=hid hlo
   have HHI:=hid hhi
   rw [← hlo] at hb1
   have HB1:=hid hb1
   clear hlo hhi
   have HLM:=hid hlm
   have HM0:=hid h0
   clear hb1 hlm h0
   go_wp2_with fail
   refine HB1.out.mono ?_
   rintro e w1 ⟨v1,rfl,hd1,hx1⟩
   have HD1:=hid hd1
   obtain ⟨a2,c2,rfl⟩:=hd1.form
   have hb2:=zjz _ _ w1 hd1 New.lt (Nat.le_trans (z0d z05 _ _ (Nat.lt_of_le_of_lt (Nat.div_le_self _ _) (Nat.lt_of_le_of_lt HMN.out HLN.out))) HR.out)
   rw [z0c z05,← HHI.out] at hb2
   have HB2:=hid hb2
   have HX1:=hid hx1
   clear hd1 hx1 hb2
   go_wp2_with fail
   refine HB2.out.mono ?_
   rintro e w2 ⟨v2,rfl,hd2,hx2⟩
   have HD2:=hid hd2
   have HX2:=hid (HX1.out.trans hx2)
   have HX12:=hid hx2
   obtain ⟨a3,c3,rfl⟩:=hd2.form
   clear hd2 hx2
   have hown2:w2.ownsRow w.heap.size 148 1 _ o.length (o.map uval):=HW.out.kept (row:=none) ⟨HX2.out.os,HX2.out.tape,HX2.out.output,HX2.out.size,fun k hk _ => HX2.out.block k hk⟩ (by cases hv:Value.ownBlock _ <;> simp)
   have HW2:=hid hown2
   clear hown2
   go_wp2_with (at_builtin; refine z09 _ rfl (.tmp 19) (.tmp 26) 24 rfl w.heap.size 148 (.int .u32 0) 1 4 Tryz.underlying24 Tryz.infoU32 rfl (by decide) _ o.length (o.map uval) rfl HW2.out _ rfl (z2w rfl) rfl hol2 (by decide) (Nat.le_trans HX.out.size HX2.out.size) ?_; intro v3 w3 hown hg hbk; have HOW:=hid hown; have HG:=hid hg; have HBK:=hid hbk; clear hown hg hbk)
   go_roundw
   case rel =>
    have hxg:Ext w w3:=z0j (HX.out.trans HX2.out) HG.out (fun q hq => (HW2.out.lt q hq).1)
    refine ⟨m / 65536 / 65536,o ++ [hi * 65536 + lo],hid ?_,hid ?_,hid (z2v HOW.out (by unfold uval; congr 1)),hxg,hid ?_⟩
    ·exact Nat.le_trans (Nat.div_le_self _ _) (Nat.le_trans (Nat.div_le_self _ _) HMN.out)
    ·rw [HHI.out,HLO.out]
     exact zhq HV.out HM0.out
    ·refine HD2.out.to (Kept.grown HG.out (fun k hk => ⟨hk.2,fun e => ?_⟩)) (fun k hk => ⟨Nat.lt_of_lt_of_le hk.2 HG.out.size,fun e => ?_⟩)
     ·have:=(HW.out.lt k e.symm).2
      have:=hk.1
      have:=HX1.out.size
      omega
     ·rcases HBK.out with hb | hb
      ·rw [hb] at e
       have:=(HW.out.lt k e.symm).2
       have:=hk.1
       have:=HX1.out.size
       omega
      ·rw [hb] at e
       have h1:k = w2.heap.size + 1:=by simpa using e
       have:=hk.2
       omega
   case measure =>
    simp only [z15]
    exact zhr HM0.out
  ·obtain rfl:m = 0:=by omega
   have e:rep B32 n = o:=by rw [HV.out,z2k,List.append_nil]
   have E:=hid e
   have hz:(rep 10 0).length = 0:=rfl
   clear e
   go_wp2
   all_goals
    go_ret
    refine ⟨_,rfl,?_,HX.out⟩
    rw [E.out]
    exact znr HW.out (fun z hz => z32 z01 n z (by rw [E.out]; exact hz))
end
section
open Go.RowKit
theorem zns {S:Nat → Prop} (va vb:Value) (xs ys:List Nat) (w:World) (ha:U32s S w va xs) (hb:U32s S w vb ys) (hS:∀ k,S k → k < w.heap.size) :
  Calls Tryz.prog 91 #[va,vb] w fun e w' => e = .returned (.bool (decide (xs = ys))) ∧ Ext w w':=by
 have HA:=hid ha
 have HB:=hid hb
 have hl1:=ha.len_le
 have hl2:=hb.len_le
 obtain ⟨aa,ca,rfl⟩:=ha.form
 obtain ⟨ab,cb,rfl⟩:=hb.form
 clear ha hb
 by_cases hne:xs.length = ys.length
 ·have hq:((xs.length:Int) != (ys.length:Int)) = false:=by rw [bne_eq_false_iff_eq]; omega
  have HN:=hid hne
  obtain ⟨L,hL⟩:∃ L,L = xs.length:=⟨_,rfl⟩
  have HL:=hid hL
  rw [← hne,← hL] at HB hl2 hq ⊢
  rw [← hL] at HA hl1
  clear hne hL
  go_enter Tryz.func91,Tryz.ntmps91
  go_wp2
  go_loopw [5] (fun i wr => ∃ k:Nat,k ≤ L ∧ i = .int .i64 k ∧ Ext w wr ∧ xs.take k = ys.take k) (fun i _ => L - (intOf i).toNat)
  case atStart => exact ⟨0,Nat.zero_le _,rfl,Ext.refl _,by simp⟩
  case round =>
   obtain ⟨k,hk,rfl,hx,ht⟩:=hrel
   by_cases hlt:k < L
   ·obtain ⟨x,hx1⟩:=z00 (show k < xs.length by have:=HL.out; omega)
    obtain ⟨y,hy1⟩:=z00 (show k < ys.length by have:=HL.out; have:=HN.out; omega)
    obtain ⟨b1,o1,rfl,-,hn1,hm1,-,hxb,hc1⟩:=(HA.out.to (Kept.ext hx hS) (fun _ h => h)).cellAt hx1
    obtain ⟨b2,o2,rfl,-,hn2,hm2,-,hyb,hc2⟩:=(HB.out.to (Kept.ext hx hS) (fun _ h => h)).cellAt hy1
    have HX:=hid hx
    have HT:=hid ht
    have HX1:=hid hx1
    have HY1:=hid hy1
    clear hx ht hx1 hy1
    by_cases hxy:x = y
    ·have hb:((x:Int) != (y:Int)) = false:=by rw [bne_eq_false_iff_eq]; omega
     have HXY:=hid hxy
     clear hxy
     go_wp2
     go_quiet (fail)
     go_wp2
     go_roundw
     case rel => exact ⟨k + 1,by omega,by go_num,HX.out.drewN _,by rw [List.take_add_one,List.take_add_one,HT.out,HX1.out,HY1.out,HXY.out]⟩
     case measure => simp only [intOf]; omega
    ·have hb:((x:Int) != (y:Int)) = true:=by rw [bne_iff_ne]; omega
     have HF:Hid (decide (xs = ys) = false):=hid (decide_eq_false (fun e => hxy (by
      have:=HX1.out
      rw [e,HY1.out] at this
      exact (Option.some.inj this).symm)))
     clear hxy
     go_wp2
     go_quiet (fail)
     go_wp2
     all_goals
      go_ret
      exact ⟨by rw [HF.out]; rfl,HX.out.drewN _⟩
   ·obtain rfl:k = L:=by omega
    have HX:=hid hx
    have HF:Hid (decide (xs = ys) = true):=hid (decide_eq_true (by
     rw [HL.out,List.take_length,HN.out,List.take_length] at ht
     exact ht))
    clear hx ht
    go_wp2
    all_goals
     go_ret
     exact ⟨by rw [HF.out]; rfl,HX.out⟩
 ·have hq:((xs.length:Int) != (ys.length:Int)) = true:=by rw [bne_iff_ne]; omega
  have HF:Hid (decide (xs = ys) = false):=hid (decide_eq_false (fun e => hne (by rw [e])))
  clear hne
  go_enter Tryz.func91,Tryz.ntmps91
  go_wp2
  all_goals
   go_ret
   exact ⟨by rw [HF.out]; rfl,Ext.refl _⟩
theorem zk0 {n m:Nat} (h:(rep 10 n).length < (rep 10 m).length):cmpN n m = -1:=by
 have:=z69 z05 h
 unfold cmpN
 rw [z2r]
 omega
theorem zhs {n m:Nat} (h:(rep 10 m).length < (rep 10 n).length):cmpN n m = 1:=by
 have:=z69 z05 h
 unfold cmpN
 rw [z41]
 omega
theorem zcj {n m k x y:Nat} (hlen:(rep 10 n).length = (rep 10 m).length) (hx:(rep 10 n)[k]? = some x) (hy:(rep 10 m)[k]? = some y) (ht:val 10 ((rep 10 n).drop (k + 1)) = val 10 ((rep 10 m).drop (k + 1))) (h:x < y):cmpN n m = -1:=by
 have h1:=zag (B:=10) (l:=rep 10 n) (m:=rep 10 m) (k:=k) (by decide) (z32 z05 n) (by rw [z0k hx,z0k hy]; exact h) (z03 hx) (z03 hy) ht hlen
 rw [z0c z05,z0c z05] at h1
 unfold cmpN
 rw [z2r]
 omega
theorem zht {n m k x y:Nat} (hlen:(rep 10 n).length = (rep 10 m).length) (hx:(rep 10 n)[k]? = some x) (hy:(rep 10 m)[k]? = some y) (ht:val 10 ((rep 10 n).drop (k + 1)) = val 10 ((rep 10 m).drop (k + 1))) (h:y < x):cmpN n m = 1:=by
 have:=zcj hlen.symm hy hx ht.symm h
 unfold cmpN at *
 rw [zb6,this]
 rfl
theorem zej {S:Nat → Prop} (va vb:Value) (n m:Nat) (w:World) (ha:Digs S w va (rep 10 n)) (hb:Digs S w vb (rep 10 m)) (hS:∀ k,S k → k < w.heap.size) :
  Calls Tryz.prog 111 #[va,vb] w fun e w' => e = .returned (.int .i64 (cmpN n m)) ∧ Ext w w':=by
 have HU:=hid ha
 have HV:=hid hb
 have hl1:=ha.len_le
 have hl2:=hb.len_le
 obtain ⟨aa,ca,rfl⟩:=ha.form
 obtain ⟨ab,cb,rfl⟩:=hb.form
 clear ha hb
 rcases (show (rep 10 n).length < (rep 10 m).length ∨ (rep 10 m).length < (rep 10 n).length ∨ (rep 10 n).length = (rep 10 m).length by omega) with hlt | hlt | heq
 ·have HC:=hid (zk0 hlt)
  have hq:(((rep 10 n).length:Int) != ((rep 10 m).length:Int)) = true:=by rw [bne_iff_ne]; omega
  go_enter Tryz.func111,Tryz.ntmps111
  go_wp2
  all_goals
   go_ret
   exact ⟨by rw [HC.out]; rfl,Ext.refl _⟩
 ·have HC:=hid (zhs hlt)
  have hq:(((rep 10 n).length:Int) != ((rep 10 m).length:Int)) = true:=by rw [bne_iff_ne]; omega
  go_enter Tryz.func111,Tryz.ntmps111
  go_wp2
  all_goals
   go_ret
   exact ⟨by rw [HC.out]; rfl,Ext.refl _⟩
 ·have HE:=hid heq
  obtain ⟨L,hL⟩:∃ L,L = (rep 10 n).length:=⟨_,rfl⟩
  have HL:=hid hL
  rw [← heq,← hL] at HV hl2 ⊢
  rw [← hL] at HU hl1
  clear heq hL
  have hq:((L:Int) != (L:Int)) = false:=by simp
  go_enter Tryz.func111,Tryz.ntmps111
  go_wp2
  go_loopw [5] (fun i wr => ∃ k:Nat,k ≤ L ∧ i = .int .i64 ((k:Int) - 1) ∧ Ext w wr ∧ val 10 ((rep 10 n).drop k) = val 10 ((rep 10 m).drop k)) (fun i _ => (intOf i + 1).toNat)
  case atStart => exact ⟨L,Nat.le_refl _,rfl,Ext.refl _,by rw [List.drop_eq_nil_of_le (by have:=HL.out; omega),List.drop_eq_nil_of_le (by have:=HL.out; have:=HE.out; omega)]⟩
  case round =>
   obtain ⟨k,hk,rfl,hx,ht⟩:=hrel
   cases k with
   | succ q =>
    have hq1:((q + 1:Nat):Int) - 1 = (q:Int):=by omega
    have hqn:q < L:=by omega
    obtain ⟨x,hx1⟩:=z00 (show q < (rep 10 n).length by have:=HL.out; omega)
    obtain ⟨y,hy1⟩:=z00 (show q < (rep 10 m).length by have:=HL.out; have:=HE.out; omega)
    obtain ⟨b1,o1,rfl,-,hn1,hm1,-,hxb,hc1⟩:=(HU.out.to (Kept.ext hx hS) (fun _ h => h)).cellAt hx1
    obtain ⟨b2,o2,rfl,-,hn2,hm2,-,hyb,hc2⟩:=(HV.out.to (Kept.ext hx hS) (fun _ h => h)).cellAt hy1
    have HX:=hid hx
    have HT:=hid ht
    have HX1:=hid hx1
    have HY1:=hid hy1
    clear hx ht hx1 hy1
    simp only [hq1]
    rcases (show x < y ∨ y < x ∨ x = y by omega) with hlt | hlt | heq
    ·have HC:=hid (zcj HE.out HX1.out HY1.out HT.out hlt)
     go_wp2
     go_quiet (fail)
     go_wp2
     all_goals
      go_ret
      exact ⟨by rw [HC.out]; rfl,HX.out.drewN _⟩
    ·have HC:=hid (zht HE.out HX1.out HY1.out HT.out hlt)
     go_wp2
     go_quiet (fail)
     go_wp2
     go_quiet (fail)
     go_wp2
     all_goals
      go_ret
      exact ⟨by rw [HC.out]; rfl,(HX.out.drewN _).drewN _⟩
    ·subst heq
     go_wp2
     go_quiet (fail)
     go_wp2
     go_quiet (fail)
     go_wp2
     go_roundw
     case rel => exact ⟨q,by omega,rfl,HX.out.drewN _,by rw [z56 HX1.out,z56 HY1.out,HT.out]⟩
     case measure => simp only [intOf]; omega
   | zero =>
    have HX:=hid hx
    have HC:Hid (cmpN n m = 0):=by
     have e:n = m:=by simpa [z0c z05] using ht
     refine hid ?_
     rw [e]
     exact zca _
    clear hx ht
    go_wp2
    all_goals
     go_ret
     exact ⟨by rw [HC.out]; rfl,HX.out⟩
end
section
open Go.RowKit
theorem z5q {B:Nat} {o:List Nat} {z:Nat} (h:∀ x ∈ o,x < B) (hz:z < B):∀ x ∈ o ++ [z],x < B:=by
 intro x hx
 rcases List.mem_append.1 hx with h1 | h1
 ·exact h x h1
 ·rw [List.mem_singleton.1 h1]
  exact hz
theorem znt {B:Nat} {o xs ys:List Nat} {k:Nat} (h:val B o + B ^ k * 0 = val B (xs.take k) + val B (ys.take k)) (hx:xs.length ≤ k) (hy:ys.length ≤ k):val B o = val B xs + val B ys:=by
 rw [List.take_of_length_le hx,List.take_of_length_le hy] at h
 simpa using h
theorem zk1 {S:Nat → Prop} (va vb:Value) (xs ys:List Nat) (w:World) (ha:Digs S w va xs) (hb:Digs S w vb ys) (hS:∀ k,S k → k < w.heap.size) (hr:xs.length ≤ 10000000) (hr2:ys.length ≤ 10000000) :
  Calls Tryz.prog 74 #[va,vb] w fun e w' => ∃ v',e = .returned v' ∧ Digs (New w w') w' v' (rep 10 (val 10 xs + val 10 ys)) ∧ Ext w w':=by
 have HA:=hid ha
 have HB:=hid hb
 obtain ⟨aa,ca,rfl⟩:=ha.form
 obtain ⟨ab,cb,rfl⟩:=hb.form
 clear ha hb
 go_enter Tryz.func74,Tryz.ntmps74
 go_wp2
 go_loopw [5,6,7] (fun x c i wr => ∃ (k cc:Nat) (o:List Nat),k ≤ 10000001 ∧ i = .int .i64 k ∧ c = .int .i64 cc ∧ cc ≤ 1 ∧ Hid (o.length = k) ∧ Hid (xs.length < k → ys.length < k → cc = 0) ∧ Hid (∀ z ∈ o,z < 10) ∧ Hid (wr.ownsRow w.heap.size 3 1 x o.length (o.map dval)) ∧ Ext w wr ∧
  Hid (val 10 o + 10 ^ k * cc = val 10 (xs.take k) + val 10 (ys.take k))) (fun _ _ i _ => xs.length + ys.length + 2 - (intOf i).toNat)
 case atStart => exact ⟨0,0,[],by omega,rfl,rfl,by omega,hid rfl,hid (fun h => absurd h (by omega)),hid (by simp),hid (World.ownsRow_nil _ _ _ _),Ext.refl _,hid (by simp [val])⟩
 case round =>
  obtain ⟨k,cc,o,hk,rfl,rfl,hcc,HOL,HZ,HO,HW,hx,HV⟩:=hrel
  have hol2:o.length ≤ 1000000000:=by have:=HOL.out; omega
  have HX:=hid hx
  by_cases h1:k < xs.length
  ·obtain ⟨x,hx1⟩:=z00 h1
   obtain ⟨b1,o1,rfl,-,hn1,hm1,-,hxb,hc1⟩:=(HA.out.ext hx hS).cellAt hx1
   have HX1:=hid hx1
   clear hx1
   by_cases h2:k < ys.length
   ·obtain ⟨y,hy1⟩:=z00 h2
    obtain ⟨b2,o2,rfl,-,hn2,hm2,-,hyb,hc2⟩:=(HB.out.ext hx hS).cellAt hy1
    have HY1:=hid hy1
    clear hy1 hx
    go_wp2_with (at_builtin; refine z09 _ rfl (.tmp 44) (.tmp 47) 54 rfl w.heap.size 3 (.int .i64 0) 1 8 Tryz.underlying54 Tryz.infoInt rfl (by decide) _ o.length (o.map dval) rfl HW.out _ rfl (z2w rfl) rfl hol2 (by decide) HX.out.size ?_; intro v1 w1 hown hg _; have HOW:=hid hown; have HG:=hid hg; clear hown hg)
    go_roundw
    case rel =>
     refine ⟨k + 1,(cc + (x + y)) / 10,o ++ [(cc + (x + y)) % 10],by omega,by go_num,congrArg (Value.int .i64) (by omega),by omega,hid (by simp [HOL.out]),hid (fun h => absurd h (by omega)),hid (z5q HO.out (Nat.mod_lt _ (by decide))),hid (z2v HOW.out (congrArg (Value.int .i64) (by omega))),z0j HX.out HG.out (fun q hq => (HW.out.lt q hq).1),hid ?_⟩
     exact z3k HOL.out HV.out (x + y) (by rw [z0k HX1.out,z0k HY1.out])
    case measure => simp only [intOf]; omega
   ·clear hx
    go_wp2_with (at_builtin; refine z09 _ rfl (.tmp 44) (.tmp 47) 54 rfl w.heap.size 3 (.int .i64 0) 1 8 Tryz.underlying54 Tryz.infoInt rfl (by decide) _ o.length (o.map dval) rfl HW.out _ rfl (z2w rfl) rfl hol2 (by decide) HX.out.size ?_; intro v1 w1 hown hg _; have HOW:=hid hown; have HG:=hid hg; clear hown hg)
    go_roundw
    case rel =>
     refine ⟨k + 1,(cc + (x + 0)) / 10,o ++ [(cc + (x + 0)) % 10],by omega,by go_num,congrArg (Value.int .i64) (by omega),by omega,hid (by simp [HOL.out]),hid (fun h => absurd h (by omega)),hid (z5q HO.out (Nat.mod_lt _ (by decide))),hid (z2v HOW.out (congrArg (Value.int .i64) (by omega))),z0j HX.out HG.out (fun q hq => (HW.out.lt q hq).1),hid ?_⟩
     exact z3k HOL.out HV.out (x + 0) (by rw [z0k HX1.out,z2a (l:=ys) (by omega)])
    case measure => simp only [intOf]; omega
  ·by_cases h2:k < ys.length
   ·obtain ⟨y,hy1⟩:=z00 h2
    obtain ⟨b2,o2,rfl,-,hn2,hm2,-,hyb,hc2⟩:=(HB.out.ext hx hS).cellAt hy1
    have HY1:=hid hy1
    clear hy1 hx
    go_wp2_with (at_builtin; refine z09 _ rfl (.tmp 44) (.tmp 47) 54 rfl w.heap.size 3 (.int .i64 0) 1 8 Tryz.underlying54 Tryz.infoInt rfl (by decide) _ o.length (o.map dval) rfl HW.out _ rfl (z2w rfl) rfl hol2 (by decide) HX.out.size ?_; intro v1 w1 hown hg _; have HOW:=hid hown; have HG:=hid hg; clear hown hg)
    go_roundw
    case rel =>
     refine ⟨k + 1,(cc + (0 + y)) / 10,o ++ [(cc + (0 + y)) % 10],by omega,by go_num,congrArg (Value.int .i64) (by omega),by omega,hid (by simp [HOL.out]),hid (fun _ h => absurd h (by omega)),hid (z5q HO.out (Nat.mod_lt _ (by decide))),hid (z2v HOW.out (congrArg (Value.int .i64) (by omega))),z0j HX.out HG.out (fun q hq => (HW.out.lt q hq).1),hid ?_⟩
     exact z3k HOL.out HV.out (0 + y) (by rw [z2a (l:=xs) (by omega),z0k HY1.out])
    case measure => simp only [intOf]; omega
   ·clear hx
    by_cases h3:0 < cc
    ·have hkb:k ≤ xs.length ∨ k ≤ ys.length:=by
      rcases Nat.lt_or_ge xs.length k with g1 | g1
      ·rcases Nat.lt_or_ge ys.length k with g2 | g2
       ·have:=HZ.out g1 g2; omega
       ·exact .inr g2
      ·exact .inl g1
     go_wp2_with (at_builtin; refine z09 _ rfl (.tmp 44) (.tmp 47) 54 rfl w.heap.size 3 (.int .i64 0) 1 8 Tryz.underlying54 Tryz.infoInt rfl (by decide) _ o.length (o.map dval) rfl HW.out _ rfl (z2w rfl) rfl hol2 (by decide) HX.out.size ?_; intro v1 w1 hown hg _; have HOW:=hid hown; have HG:=hid hg; clear hown hg)
     go_roundw
     case rel =>
      refine ⟨k + 1,(cc + (0 + 0)) / 10,o ++ [(cc + (0 + 0)) % 10],by omega,by go_num,congrArg (Value.int .i64) (by omega),by omega,hid (by simp [HOL.out]),hid (fun _ _ => by omega),hid (z5q HO.out (Nat.mod_lt _ (by decide))),hid (z2v HOW.out (congrArg (Value.int .i64) (by omega))),z0j HX.out HG.out (fun q hq => (HW.out.lt q hq).1),hid ?_⟩
      exact z3k HOL.out HV.out (0 + 0) (by rw [z2a (l:=xs) (by omega),z2a (l:=ys) (by omega)])
     case measure => simp only [intOf]; omega
    ·obtain rfl:cc = 0:=by omega
     have hd:=z79 HW.out HO.out
     have HD:=hid hd
     obtain ⟨a1,c1,rfl⟩:=hd.form
     have HE:=hid (znt HV.out (by omega) (by omega))
     clear hd
     go_wp2_with fail
     refine (z58 _ o _ HD.out).mono ?_
     rintro e w' ⟨v',rfl,hu,rfl⟩
     have HU:=hid hu
     clear hu
     go_wp2
     all_goals
      go_ret
      exact ⟨_,rfl,by rw [← HE.out]; exact HU.out,HX.out⟩
theorem zek {S:Nat → Prop} (va vb:Value) (xs ys:List Nat) (w:World) (ha:Digs S w va xs) (hb:Digs S w vb ys) (hS:∀ k,S k → k < w.heap.size) (hr:xs.length ≤ 10000000) (hle:ys.length ≤ xs.length) (hge:val 10 ys ≤ val 10 xs) :
  Calls Tryz.prog 112 #[va,vb] w fun e w' => ∃ v',e = .returned v' ∧ Digs (New w w') w' v' (rep 10 (val 10 xs - val 10 ys)) ∧ Ext w w':=by
 have HA:=hid ha
 have HB:=hid hb
 have HGE:=hid hge
 obtain ⟨aa,ca,rfl⟩:=ha.form
 obtain ⟨ab,cb,rfl⟩:=hb.form
 clear ha hb hge
 go_enter Tryz.func112,Tryz.ntmps112
 go_wp2
 go_loopw [5,6,7] (fun x c i wr => ∃ (k cc:Nat) (o:List Nat),k ≤ xs.length ∧ i = .int .i64 k ∧ c = .int .i64 cc ∧ cc ≤ 1 ∧ Hid (o.length = k) ∧ Hid (∀ z ∈ o,z < 10) ∧ Hid (wr.ownsRow w.heap.size 3 1 x o.length (o.map dval)) ∧ Ext w wr ∧
  Hid (val 10 o + val 10 (ys.take k) = val 10 (xs.take k) + 10 ^ k * cc)) (fun _ _ i _ => xs.length - (intOf i).toNat)
 case atStart => exact ⟨0,0,[],by omega,rfl,rfl,by omega,hid rfl,hid (by simp),hid (World.ownsRow_nil _ _ _ _),Ext.refl _,hid (by simp [val])⟩
 case round =>
  obtain ⟨k,cc,o,hk,rfl,rfl,hcc,HOL,HO,HW,hx,HV⟩:=hrel
  have hol2:o.length ≤ 1000000000:=by have:=HOL.out; omega
  have HX:=hid hx
  by_cases h1:k < xs.length
  ·obtain ⟨x,hx1⟩:=z00 h1
   obtain ⟨b1,o1,rfl,-,hn1,hm1,-,hxb,hc1⟩:=(HA.out.ext hx hS).cellAt hx1
   have HX1:=hid hx1
   clear hx1
   by_cases h2:k < ys.length
   ·obtain ⟨y,hy1⟩:=z00 h2
    obtain ⟨b2,o2,rfl,-,hn2,hm2,-,hyb,hc2⟩:=(HB.out.ext hx hS).cellAt hy1
    have HY1:=hid hy1
    clear hy1 hx
    by_cases hs:y + cc ≤ x
    ·go_wp2_with (at_builtin; refine z09 _ rfl (.tmp 35) (.tmp 37) 54 rfl w.heap.size 3 (.int .i64 0) 1 8 Tryz.underlying54 Tryz.infoInt rfl (by decide) _ o.length (o.map dval) rfl HW.out _ rfl (z2w rfl) rfl hol2 (by decide) HX.out.size ?_; intro v1 w1 hown hg _; have HOW:=hid hown; have HG:=hid hg; clear hown hg)
     go_roundw
     case rel =>
      refine ⟨k + 1,0,o ++ [x - y - cc],by omega,by go_num,rfl,by omega,hid (by simp [HOL.out]),hid (z5q HO.out (by omega)),hid (z2v HOW.out (congrArg (Value.int .i64) (by omega))),z0j HX.out HG.out (fun q hq => (HW.out.lt q hq).1),hid ?_⟩
      exact z4j HOL.out HV.out _ _ (by rw [z0k HX1.out,z0k HY1.out]; omega)
     case measure => simp only [intOf]; omega
    ·go_wp2_with (at_builtin; refine z09 _ rfl (.tmp 35) (.tmp 37) 54 rfl w.heap.size 3 (.int .i64 0) 1 8 Tryz.underlying54 Tryz.infoInt rfl (by decide) _ o.length (o.map dval) rfl HW.out _ rfl (z2w rfl) rfl hol2 (by decide) HX.out.size ?_; intro v1 w1 hown hg _; have HOW:=hid hown; have HG:=hid hg; clear hown hg)
     go_roundw
     case rel =>
      refine ⟨k + 1,1,o ++ [x + 10 - y - cc],by omega,by go_num,rfl,by omega,hid (by simp [HOL.out]),hid (z5q HO.out (by omega)),hid (z2v HOW.out (congrArg (Value.int .i64) (by omega))),z0j HX.out HG.out (fun q hq => (HW.out.lt q hq).1),hid ?_⟩
      exact z4j HOL.out HV.out _ _ (by rw [z0k HX1.out,z0k HY1.out]; omega)
     case measure => simp only [intOf]; omega
   ·clear hx
    by_cases hs:cc ≤ x
    ·go_wp2_with (at_builtin; refine z09 _ rfl (.tmp 35) (.tmp 37) 54 rfl w.heap.size 3 (.int .i64 0) 1 8 Tryz.underlying54 Tryz.infoInt rfl (by decide) _ o.length (o.map dval) rfl HW.out _ rfl (z2w rfl) rfl hol2 (by decide) HX.out.size ?_; intro v1 w1 hown hg _; have HOW:=hid hown; have HG:=hid hg; clear hown hg)
     go_roundw
     case rel =>
      refine ⟨k + 1,0,o ++ [x - 0 - cc],by omega,by go_num,rfl,by omega,hid (by simp [HOL.out]),hid (z5q HO.out (by omega)),hid (z2v HOW.out (congrArg (Value.int .i64) (by omega))),z0j HX.out HG.out (fun q hq => (HW.out.lt q hq).1),hid ?_⟩
      exact z4j HOL.out HV.out _ _ (by rw [z0k HX1.out,z2a (l:=ys) (by omega)]; omega)
     case measure => simp only [intOf]; omega
    ·go_wp2_with (at_builtin; refine z09 _ rfl (.tmp 35) (.tmp 37) 54 rfl w.heap.size 3 (.int .i64 0) 1 8 Tryz.underlying54 Tryz.infoInt rfl (by decide) _ o.length (o.map dval) rfl HW.out _ rfl (z2w rfl) rfl hol2 (by decide) HX.out.size ?_; intro v1 w1 hown hg _; have HOW:=hid hown; have HG:=hid hg; clear hown hg)
     go_roundw
     case rel =>
      refine ⟨k + 1,1,o ++ [x + 10 - 0 - cc],by omega,by go_num,rfl,by omega,hid (by simp [HOL.out]),hid (z5q HO.out (by omega)),hid (z2v HOW.out (congrArg (Value.int .i64) (by omega))),z0j HX.out HG.out (fun q hq => (HW.out.lt q hq).1),hid ?_⟩
      exact z4j HOL.out HV.out _ _ (by rw [z0k HX1.out,z2a (l:=ys) (by omega)]; omega)
     case measure => simp only [intOf]; omega
  ·obtain rfl:k = xs.length:=by omega
   have hd:=z79 HW.out HO.out
   have HD:=hid hd
   obtain ⟨a1,c1,rfl⟩:=hd.form
   have HE:Hid (val 10 o = val 10 xs - val 10 ys):=by
    have h1:=HV.out
    rw [List.take_of_length_le hle,List.take_length] at h1
    exact hid (zjl HO.out HOL.out HGE.out h1)
   clear hd hx
   go_wp2_with fail
   refine (z58 _ o _ HD.out).mono ?_
   rintro e w' ⟨v',rfl,hu,rfl⟩
   have HU:=hid hu
   clear hu
   go_wp2
   all_goals
    go_ret
    exact ⟨_,rfl,by rw [← HE.out]; exact HU.out,HX.out⟩
end
section
open Go.RowKit
theorem World.rowIs.drewN {w:World} {g n:Nat} {T:TypeId} {f:Nat → Value} (h:w.rowIs g T n f) (q:Nat):(w.drewN q).rowIs g T n f:=h
theorem zg6 {o:List Nat} {p cc u X:Nat} (hp:p < o.length) (h:val 10 o + 10 ^ p * cc = X):val 10 (o.set p ((cc + dg o p + u) % 10)) + 10 ^ (p + 1) * ((cc + dg o p + u) / 10) = X + 10 ^ p * u:=by
 have h1:=zef (B:=10) o p ((cc + dg o p + u) % 10) hp
 have h2:=congrArg (10 ^ p * ·) (Nat.mod_add_div (cc + dg o p + u) 10)
 simp only [Nat.mul_add] at h2
 rw [Nat.pow_succ,Nat.mul_assoc]
 omega
theorem zqa {B:Nat} {o:List Nat} {p z:Nat} (h:∀ x ∈ o,x < B) (hz:z < B):∀ x ∈ o.set p z,x < B:=by
 intro x hx
 rcases List.mem_or_eq_of_mem_set hx with h1 | h1
 ·exact h x h1
 ·rw [h1]; exact hz
theorem z9f {o:List Nat} {p j z:Nat} (h:j ≠ p):dg (o.set p z) j = dg o j:=by
 unfold dg
 rw [List.getElem?_set_ne (fun e => h e.symm)]
def zel (V d Y i:Nat):Nat:=V + 10 ^ i * (d * Y)
theorem zal {V d i k:Nat} {ys:List Nat}:zel V d (val 10 (ys.take k)) i + 10 ^ (i + k) * (d * dg ys k) = zel V d (val 10 (ys.take (k + 1))) i:=by
 unfold zel
 rw [z1h,Nat.pow_add,Nat.mul_add,Nat.mul_add,Nat.mul_assoc,← Nat.mul_assoc d,Nat.mul_comm d (10 ^ k),Nat.mul_assoc]
 omega
theorem zk2 {xs:List Nat} {i x Y:Nat} (hx:xs[i]? = some x):zel (val 10 (xs.take i) * Y) x Y i = val 10 (xs.take (i + 1)) * Y:=by
 unfold zel
 rw [z2l hx,Nat.add_mul,Nat.mul_assoc]
theorem zk3 {xs ys o:List Nat} {i:Nat} (hx:∀ z ∈ xs,z < 10) (hy:∀ z ∈ ys,z < 10) (hi:i ≤ xs.length) (h:val 10 o = val 10 (xs.take i) * val 10 ys):∀ j,i + ys.length ≤ j → dg o j = 0:=by
 intro j hj
 by_cases hjl:j < o.length
 ·refine z6o (B:=10) (k:=i + ys.length) (by decide) ?_ j hj hjl
  rw [h,Nat.pow_add]
  have h1:=z13 (xs.take i) (fun z hz => hx z (List.mem_of_mem_take hz))
  rw [List.length_take,Nat.min_eq_left hi] at h1
  have h2:=z13 ys hy
  exact Nat.mul_lt_mul'' h1 h2
 ·exact z2a (by omega)
theorem zr3 {S:Nat → Prop} (va vb:Value) (xs ys:List Nat) (w:World) (ha:Digs S w va xs) (hb:Digs S w vb ys) (hS:∀ k,S k → k < w.heap.size) (hr:xs.length ≤ 10000000) (hr2:ys.length ≤ 10000000) :
  Calls Tryz.prog 109 #[va,vb] w fun e w' => ∃ v',e = .returned v' ∧ Digs (New w w') w' v' (rep 10 (val 10 xs * val 10 ys)) ∧ Ext w w':=by
 have HA:=hid ha
 have HB:=hid hb
 have HLA:=hid ha.lt
 have HLB:=hid hb.lt
 obtain ⟨aa,ca,rfl⟩:=ha.form
 obtain ⟨ab,cb,rfl⟩:=hb.form
 clear ha hb
 have hmk:=run_make_row' (P:=Tryz.prog) 54 3 (.int .i64 0) 8 Tryz.underlying54 Tryz.infoInt rfl .i64 .i64 (xs.length + ys.length + 1) (by omega) (by omega) w
 rw [show ((xs.length + ys.length + 1:Nat):Int) = (xs.length:Int) + (ys.length:Int) + 1 by omega] at hmk
 obtain ⟨L,hL⟩:∃ L,L = xs.length + ys.length + 1:=⟨_,rfl⟩
 have hLI:(xs.length:Int) + (ys.length:Int) + 1 = (L:Int):=by omega
 rw [← hL,hLI] at hmk
 have HR:=hid (z7x w L 3)
 have HE:=hid (Ext.alloc (Ext.refl w) (.cells (madeCells #[.int .i64 0] L) 3))
 have HL:=hid hL
 have hLb:L ≤ 20000001:=by omega
 have hLa:xs.length < L:=by omega
 clear hL
 go_enter Tryz.func109,Tryz.ntmps109
 go_wp2
 go_loopw [6] (fun i wr => ∃ (n:Nat) (o:List Nat),n ≤ xs.length ∧ i = .int .i64 n ∧ Hid (o.length = L) ∧ Hid (∀ z ∈ o,z < 10) ∧ Hid (wr.rowIs w.heap.size 3 L (rowD o)) ∧ Ext w wr ∧ Hid (val 10 o = val 10 (xs.take n) * val 10 ys)) (fun i _ => xs.length - (intOf i).toNat)
 case atStart => exact ⟨0,List.replicate L 0,Nat.zero_le _,rfl,hid (by simp),hid (by simp),HR,HE.out,hid (by simp [z76,val])⟩
 case round =>
  obtain ⟨n,o,hn,rfl,HOL,HO,HROW,hx,HV⟩:=hrel
  by_cases hlt:n < xs.length
  ·obtain ⟨x,hx1⟩:=z00 hlt
   obtain ⟨b1,o1,rfl,-,hn1,hm1,hS1,hxb,hc1⟩:=HA.out.cellAt hx1
   have HX1:=hid hx1
   have HC1:=hid hc1
   have HX:=hid hx
   have HAB:=hid (zk3 HLA.out HLB.out hn HV.out)
   have hLn:n + ys.length + 1 ≤ L:=by have:=HL.out; omega
   obtain ⟨wo,rfl⟩:∃ wo:World,wo = wr:=⟨_,rfl⟩
   clear hx1 hc1 hx
   go_wp2
   go_loopw [7,8] (fun c kk wr => ∃ (k cc:Nat) (o:List Nat),k ≤ ys.length + 1 ∧ kk = .int .i64 k ∧ c = .int .i64 cc ∧ cc ≤ 9 ∧ Hid (ys.length < k → cc = 0) ∧ Hid (o.length = L) ∧ Hid (∀ z ∈ o,z < 10) ∧ Hid (wr.rowIs w.heap.size 3 L (rowD o)) ∧ Ext w wr ∧
    Hid (k ≤ ys.length → ∀ j,n + ys.length ≤ j → dg o j = 0) ∧ Hid (val 10 o + 10 ^ (n + k) * cc = zel (val 10 (xs.take n) * val 10 ys) x (val 10 (ys.take k)) n)) (fun _ kk _ => ys.length + 1 - (intOf kk).toNat)
   case atStart => exact ⟨0,0,o,Nat.zero_le _,rfl,rfl,by omega,hid (fun h => absurd h (by omega)),HOL,HO,HROW,HX.out,hid (fun _ => HAB.out),hid (by rw [HV.out]; simp [zel,val])⟩
   case round =>
    obtain ⟨k,cc,o,hk,rfl,rfl,hcc,HZ,HOL,HO,HROW,hx,HAB,HV⟩:=hrel
    have HX:=hid hx
    have hc1:=hx.cell HC1.out
    by_cases h2:k < ys.length
    ·obtain ⟨y,hy1⟩:=z00 h2
     obtain ⟨b2,o2,rfl,-,hn2,hm2,-,hyb,hc2⟩:=(HB.out.ext hx hS).cellAt hy1
     have HY1:=hid hy1
     have hpl:n + k < L:=by omega
     have hcs:=HROW.out.cell (i:=n + k) hpl
     have hfs:=HROW.out.frozen (n + k)
     have hdg:=zjh (B:=10) (by decide) HO.out (n + k)
     obtain ⟨s,hs⟩:∃ s,s = dg o (n + k):=⟨_,rfl⟩
     obtain ⟨p,hp⟩:∃ p:Nat,p = x * y:=⟨_,rfl⟩
     have hpb:p ≤ 9 * 9:=by rw [hp]; exact Nat.mul_le_mul (by omega) (by omega)
     have hmul:(x:Int) * (y:Int) = (p:Int):=by rw [hp]; simp
     unfold rowD dval at hcs
     rw [← hs] at hcs hdg
     have HS:=hid hs
     have HP:=hid hp
     clear hy1 hs hp hx
     go_wp2
     go_quiet (fail)
     go_wp2
     go_roundw
     case rel =>
      have hpl2:n + k < o.length:=by rw [HOL.out]; exact hpl
      have hst:=z8w (World.rowIs.drewN HROW.out nq) (n + k) ((cc + s + p) % 10) hpl2
      refine ⟨k + 1,(cc + s + p) / 10,o.set (n + k) ((cc + s + p) % 10),by omega,by go_num,congrArg (Value.int .i64) (by omega),by omega,hid (fun h => absurd h (by omega)),hid (by simpa using HOL.out),hid (zqa HO.out (Nat.mod_lt _ (by decide))),hid ?_,(HX.out.drewN nq).setCell (p:=⟨w.heap.size,n + k,none⟩) (Nat.le_refl _) _,hid (fun _ j hj => ?_),hid ?_⟩
      ·refine cast (congrArg (fun e => World.rowIs (World.setCell (wr.drewN nq) ⟨w.heap.size,n + k,none⟩ (Value.int .i64 e)) _ _ _ _) ?_) hst
       omega
      ·rw [z9f (by omega)]
       exact HAB.out (by omega) j hj
      ·have h1:=zg6 (u:=p) hpl2 HV.out
       rw [← HS.out] at h1
       rw [show n + (k + 1) = n + k + 1 by omega,h1,HP.out,← z0k HY1.out]
       exact zal
     case measure => simp only [intOf]; omega
    ·have hk0:ys.length ≤ k:=by omega
     clear hx
     by_cases h3:0 < cc
     ·have hke:k = ys.length:=by
       rcases Nat.lt_or_ge ys.length k with g1 | g1
       ·have:=HZ.out g1; omega
       ·omega
      have hpl:n + k < L:=by omega
      have hcs:=HROW.out.cell (i:=n + k) hpl
      have hfs:=HROW.out.frozen (n + k)
      have hs0:dg o (n + k) = 0:=HAB.out (by omega) _ (by omega)
      unfold rowD dval at hcs
      rw [hs0] at hcs
      have HS:=hid hs0
      have HKE:=hid hke
      clear hs0 hke
      go_wp2
      go_roundw
      case rel =>
       have hpl2:n + k < o.length:=by rw [HOL.out]; exact hpl
       have hst:=z8w HROW.out (n + k) ((cc + 0 + 0) % 10) hpl2
       refine ⟨k + 1,(cc + 0 + 0) / 10,o.set (n + k) ((cc + 0 + 0) % 10),by have:=HKE.out; omega,by go_num,congrArg (Value.int .i64) (by omega),by omega,hid (fun _ => by omega),hid (by simpa using HOL.out),hid (zqa HO.out (Nat.mod_lt _ (by decide))),hid ?_,HX.out.setCell (p:=⟨w.heap.size,n + k,none⟩) (Nat.le_refl _) _,hid (fun h => absurd h (by have:=HKE.out; omega)),hid ?_⟩
       ·refine cast (congrArg (fun e => World.rowIs (World.setCell wr ⟨w.heap.size,n + k,none⟩ (Value.int .i64 e)) _ _ _ _) ?_) hst
        omega
       ·have h1:=zg6 (u:=0) hpl2 HV.out
        rw [HS.out] at h1
        rw [show n + (k + 1) = n + k + 1 by omega,h1,← zal,(z2a hk0:dg ys k = 0)]
        simp
      case measure => have:=HKE.out; simp only [intOf]; omega
     ·obtain rfl:cc = 0:=by omega
      go_wp2
      go_roundw
      case rel =>
       refine ⟨n + 1,o,by omega,by go_num,HOL,HO,HROW,HX.out,hid ?_⟩
       have h1:=HV.out
       rw [List.take_of_length_le hk0,zk2 HX1.out] at h1
       simpa using h1
      case measure => simp only [intOf]; omega
  ·obtain rfl:n = xs.length:=by omega
   have HX:=hid hx
   have hd:=Digs.of_row HROW.out HOL.out HO.out (by omega)
   have HD:=hid hd
   have HV0:Hid (val 10 o = val 10 xs * val 10 ys):=hid (by simpa using HV.out)
   clear hx hd
   go_wp2_with fail
   refine (z58 _ o _ HD.out).mono ?_
   rintro e w' ⟨v',rfl,hu,rfl⟩
   have HU:=hid hu
   clear hu
   go_wp2
   all_goals
    go_ret
    refine ⟨_,rfl,?_,HX.out⟩
    rw [← HV0.out]
    refine HU.out.to (Kept.refl _ _) (fun k hk => ?_)
    subst hk
    exact ⟨Nat.le_refl _,HROW.out.lt⟩
end
section
open Go.RowKit Go.Deep Go.ChangeShapes Go.WideShapes
theorem z7y {α:Type} {n:Nat} {p:Nat → α → Prop} (h:∀ i,i < n → ∃ x,p i x):∃ l:List α,l.length = n ∧ ∀ i x,l[i]? = some x → p i x:=by
 induction n with
 | zero => exact ⟨[],rfl,fun i x hx => by simp at hx⟩
 | succ n ih =>
  obtain ⟨l,hl,hp⟩:=ih (fun i hi => h i (Nat.lt_succ_of_lt hi))
  obtain ⟨x,hx⟩:=h n (Nat.lt_succ_self n)
  refine ⟨l ++ [x],by simp [hl],fun i y hy => ?_⟩
  rw [List.getElem?_append] at hy
  split at hy
  ·exact hp i y hy
  ·rename_i hi
   have:i = n:=by
    have:=z03 hy
    simp at this
    omega
   subst this
   simp [hl] at hy
   exact hy ▸ hx
theorem znu {α:Type} {l:List α} (h:l.length = 2):∃ a b,l = [a,b]:=by
 match l,h with
 | [a,b],_ => exact ⟨a,b,rfl⟩
theorem zhu {α:Type} {l:List α} (h:l.length = 3):∃ a b c,l = [a,b,c]:=by
 match l,h with
 | [a,b,c],_ => exact ⟨a,b,c,rfl⟩
section
variable {H:Type} {enc:TypeId × Value → H} {w:World} {base:Nat} {spare:Nat → Bool} {held:Bool}
theorem z59 {t e:TypeId} {fuel sz:Nat} {v:Value} {x:DataW H × List MemPlace} (ht:Tryz.prog.underlying t = some (.slice e)) (hsz:Tryz.prog.cellsOf e = sz) (hpos:0 < sz)
  (h:DataW.trod enc Tryz.prog w base spare held fuel t [v] = some x) :
  ∃ (n b off fuel':Nat),z31 (· < w.heap.size) v n b off ∧ ∀ j,j < n → ∃ (cs:List Value) (y:DataW H × List MemPlace),cs.length = sz ∧ (∀ i,i < sz → w.cell? ⟨b,off + j * sz + i,none⟩ = cs[i]?) ∧ DataW.trod enc Tryz.prog w base spare held fuel' e cs = some y:=by
 rcases open_slice ht h with ⟨hcs,_⟩ | ⟨a,len,cap,m,fuel',D,Pl,hcs,hb,hl,hm,hmm,_,hx⟩
 ·obtain rfl:v = .slice none 0 0:=by simpa using hcs
  exact ⟨0,0,0,0,⟨none,0,rfl,Nat.le_refl _,Nat.zero_le _,fun h => absurd h (by omega),fun h => absurd h (by omega)⟩,fun j hj => absurd hj (by omega)⟩
 ·obtain rfl:v = .slice (some a) len cap:=by simpa using hcs
  rw [hsz] at hx
  have hlm:len ≤ m:=by rw [hmm]; split <;> omega
  have key:∀ j,j < len → ∃ (cs:List Value) (y:DataW H × List MemPlace),cs.length = sz ∧ (∀ i,i < sz → w.cell? ((a.add (j * sz)).add i) = cs[i]?) ∧ DataW.trod enc Tryz.prog w base spare held fuel' e cs = some y:=by
   intro j hj
   obtain ⟨cs,h1,h2⟩:=hx j (by omega)
   obtain ⟨_,h3,h4⟩:=World.cells?_some h1
   exact ⟨cs,_,h3,h4,h2⟩
  by_cases h0:0 < len
  ·have hsp:a.spot = none:=by
    obtain ⟨cs,_,h3,h4,_⟩:=key 0 h0
    have h5:=h4 0 hpos
    have e0:(a.add (0 * sz)).add 0 = a:=by simp [Addr.add]
    rw [e0,List.getElem?_eq_getElem (by omega)] at h5
    unfold World.cell? at h5
    split at h5
    ·cases hs:a.spot with
     | none => rfl
     | some z => simp [hs] at h5
    ·exact absurd h5 (by simp)
   obtain ⟨b,off,spot⟩:=a
   obtain rfl:spot = none:=hsp
   have add_eq:∀ j i,((⟨b,off,none⟩:Addr).add (j * sz)).add i = ⟨b,off + j * sz + i,none⟩:=by
    intro j i
    unfold Addr.add
    by_cases h1:j * sz = 0 <;> by_cases h2:i = 0 <;> simp [h1,h2]
   refine ⟨len,b,off,fuel',⟨_,cap,rfl,hl,hm,fun _ => rfl,fun _ => ?_⟩,fun j hj => ?_⟩
   ·obtain ⟨cs,_,h3,h4,_⟩:=key 0 h0
    have h5:=h4 0 hpos
    rw [add_eq,List.getElem?_eq_getElem (by omega)] at h5
    exact z08 h5
   ·obtain ⟨cs,y,h3,h4,h5⟩:=key j hj
    exact ⟨cs,y,h3,fun i hi => by rw [← add_eq]; exact h4 i hi,h5⟩
  ·exact ⟨len,0,0,fuel',⟨_,cap,rfl,hl,hm,fun h => absurd h h0,fun h => absurd h h0⟩,fun j hj => absurd hj (by omega)⟩
theorem zam {n:Int} (h:(Lit.int .i64 n).wf = true):-9223372036854775808 ≤ n ∧ n ≤ 9223372036854775807:=by
 simpa [Lit.wf,IntKind.min,IntKind.max,IntKind.signed,IntKind.bits] using h
theorem zhv {n:Int} (h:(Lit.int .u32 n).wf = true):0 ≤ n ∧ n < 4294967296:=by
 have:0 ≤ n ∧ n ≤ 4294967295:=by simpa [Lit.wf,IntKind.min,IntKind.max,IntKind.signed,IntKind.bits] using h
 omega
theorem Tryz.cells_u32:Tryz.prog.cellsOf 148 = 1:=by kernel_rfl
theorem Tryz.cells_power:Tryz.prog.cellsOf 51 = 2:=by kernel_rfl
theorem Tryz.cells_term:Tryz.prog.cellsOf 49 = 3:=by kernel_rfl
theorem Tryz.cells_int:Tryz.prog.cellsOf 26 = 2:=by kernel_rfl
theorem Tryz.cells_mono:Tryz.prog.cellsOf 47 = 1:=by kernel_rfl
theorem Tryz.cells_bool:Tryz.prog.cellsOf 4 = 1:=by kernel_rfl
theorem Tryz.cells_i64:Tryz.prog.cellsOf 3 = 1:=by kernel_rfl
theorem Tryz.cells_su32:Tryz.prog.cellsOf 24 = 1:=by kernel_rfl
theorem zck {fuel:Nat} {v:Value} {x:DataW H × List MemPlace} (h:DataW.trod enc Tryz.prog w base spare held fuel 24 [v] = some x):∃ zs,U32s (· < w.heap.size) w v zs:=by
 obtain ⟨n,b,off,f',hs,hx⟩:=z59 Tryz.underlying24 Tryz.cells_u32 (by omega) h
 obtain ⟨zs,hl,hz⟩:=z7y (p:=fun j (z:Nat) => z < 4294967296 ∧ w.cell? ⟨b,off + j,none⟩ = some (.int .u32 (z:Nat))) (n:=n) (fun j hj => by
  obtain ⟨cs,y,h1,h2,h3⟩:=hx j hj
  obtain ⟨m,rfl,_,hw⟩:=DataW.trod_int Tryz.underlying148 h3
  have:=zhv hw
  have h4:=h2 0 (by omega)
  refine ⟨m.toNat,by omega,?_⟩
  simp only [Nat.mul_one,Nat.add_zero] at h4
  rw [h4]
  simp
  omega)
 subst hl
 exact ⟨zs,b,off,hs,hz⟩
theorem zk4 {fuel:Nat} {v:Value} {x:DataW H × List MemPlace} (h:DataW.trod enc Tryz.prog w base spare held fuel 47 [v] = some x):∃ ps,Pows (· < w.heap.size) w v ps:=by
 obtain ⟨n,b,off,f',hs,hx⟩:=z59 Tryz.underlying47 Tryz.cells_power (by omega) h
 obtain ⟨ps,hl,hp⟩:=z7y (p:=fun j (x:Int × Int) => ((-9223372036854775808 ≤ x.1 ∧ x.1 ≤ 9223372036854775807) ∧ -9223372036854775808 ≤ x.2 ∧ x.2 ≤ 9223372036854775807) ∧
  w.cell? ⟨b,off + j * 2,none⟩ = some (.int .i64 x.1) ∧ w.cell? ⟨b,off + j * 2 + 1,none⟩ = some (.int .i64 x.2)) (n:=n) (fun j hj => by
  obtain ⟨cs,y,h1,h2,h3⟩:=hx j hj
  obtain ⟨y0,y1,m,_,_,g0,g1⟩:=trod_struct2 Tryz.underlying51 h3
  obtain ⟨n0,e0,_,w0⟩:=DataW.trod_int Tryz.underlying3 g0
  obtain ⟨n1,e1,_,w1⟩:=DataW.trod_int Tryz.underlying3 g1
  obtain ⟨c0,c1,rfl⟩:=znu h1
  simp [Tryz.cells_i64] at e0 e1
  subst e0 e1
  exact ⟨(n0,n1),⟨zam w0,zam w1⟩,h2 0 (by omega),h2 1 (by omega)⟩)
 subst hl
 exact ⟨ps,b,off,hs,hp⟩
theorem zhw {fuel:Nat} {v:Value} {x:DataW H × List MemPlace} (h:DataW.trod enc Tryz.prog w base spare held fuel 23 [v] = some x):∃ ts,z0h (· < w.heap.size) w v ts:=by
 obtain ⟨n,b,off,f',hs,hx⟩:=z59 Tryz.underlying23 Tryz.cells_term (by omega) h
 obtain ⟨ts,hl,hp⟩:=z7y (p:=fun j (t:RTerm) => ∃ vm vo,w.cell? ⟨b,off + j * 3,none⟩ = some (.bool t.c.neg) ∧
  w.cell? ⟨b,off + j * 3 + 1,none⟩ = some vm ∧ w.cell? ⟨b,off + j * 3 + 2,none⟩ = some vo ∧ U32s (· < w.heap.size) w vm t.c.mag ∧ Pows (· < w.heap.size) w vo t.m) (n:=n) (fun j hj => by
  obtain ⟨cs,y,h1,h2,h3⟩:=hx j hj
  obtain ⟨y0,y1,m,_,_,g0,g1⟩:=trod_struct2 Tryz.underlying49 h3
  obtain ⟨c0,c1,c2,rfl⟩:=zhu h1
  simp [Tryz.cells_int,Tryz.cells_mono] at g0 g1
  obtain ⟨z0,z1,m',_,_,k0,k1⟩:=trod_struct2 Tryz.underlying26 g0
  simp [Tryz.cells_bool,Tryz.cells_su32] at k0 k1
  obtain ⟨ng,e0,_⟩:=DataW.trod_bool Tryz.underlying4 k0
  simp at e0
  subst e0
  obtain ⟨zs,hzs⟩:=zck k1
  obtain ⟨ps,hps⟩:=zk4 g1
  exact ⟨⟨⟨ng,zs⟩,ps⟩,c1,c2,h2 0 (by omega),h2 1 (by omega),h2 2 (by omega),hzs,hps⟩)
 subst hl
 exact ⟨ts,b,off,hs,hp⟩
end
end
section
open Go.RowKit
def iv (f:Nat → Int):Nat → Value:=fun j => .int .i64 (f j)
def tabA (f:Nat → Int):Array Value:=((List.range 201).map (iv f)).toArray
def arrV (f:Nat → Int):Value:=.agg (tabA f)
theorem z3t (f:Nat → Int):(tabA f).size = 201:=by simp [tabA]
theorem zbc (f:Nat → Int) {i:Nat} (h:i < 201):(tabA f)[i]? = some (iv f i):=by simp [tabA,h]
theorem znv (f:Nat → Int):(tabA f).all (·.oneCell') = true:=by
 refine Array.all_eq_true_iff_forall_mem.2 (fun v hv => ?_)
 simp only [tabA,List.mem_toArray,List.mem_map] at hv
 obtain ⟨j,_,rfl⟩:=hv
 rfl
theorem zem {c:Array Value} {f:Nat → Int} (hs:c.size = 201) (h:∀ i,i < 201 → c[i]? = some (iv f i)):c = tabA f:=by
 apply Array.ext_getElem?
 intro i
 by_cases hi:i < 201
 ·rw [h i hi,zbc f hi]
 ·rw [Array.getElem?_eq_none (by omega),Array.getElem?_eq_none (by rw [z3t]; omega)]
theorem Tryz.infoArr:(Tryz.prog.info? 132).map (fun i => (i.zero,i.size)) = some (some (.agg (tabA fun _ => 0)),201):=by kernel_rfl
theorem Tryz.sizeArr:(Tryz.prog.info? 132).map (·.size) = some 201:=by kernel_rfl
theorem z6v (f:Nat → Int) (w:World):(w.alloc (.cells (tabA f) 132)).rowIs w.heap.size 132 201 (iv f) :=
 ⟨tabA f,heap_alloc_new w _,z3t f,fun _i hi => zbc f hi⟩
section
variable {ops:Array Oper} {rest:List Oper} {op:Oper} {a:Act} {Q:Exit → Act → World → Prop}
theorem z4c {W:World} {g:Nat} {f:Nat → Int} (hgd:op.guard = none) (x:Operand) (ho:op.op = .load 132 x) (hx:a.eval x = .pointer (some ⟨g,0,none⟩)) (hrow:W.rowIs g 132 201 (iv f))
  (h:wpList Tryz.prog ops Q rest (a.put op.dst (arrV f)) W):wpList Tryz.prog ops Q (op :: rest) a W:=by
 obtain ⟨c,hc,hs,hi⟩:=hrow
 obtain rfl:=zem hs hi
 refine wpList_plain hgd fun K hK => ?_
 unfold Oper.wp execOp
 have hl:=run_loadVar_row (P:=Tryz.prog) W g 132 132 (tabA f) (0,0) _ hc Tryz.underlying132 rfl (by rw [z3t]; exact Tryz.sizeArr)
 simp only [ho,hx,Instr.loadAt,Instr.sureAddr,Sem.run_bind,Sem.run_pure,Result.andThen_ok,hl]
 exact hK _ _ h
theorem z1m {W:World} {g:Nat} {f f0:Nat → Int} (hgd:op.guard = none) (x y:Operand) (ho:op.op = .store 132 x y) (hx:a.eval x = .pointer (some ⟨g,0,none⟩)) (hy:a.eval y = arrV f) (hrow:W.rowIs g 132 201 (iv f0))
  (h:∀ W',W'.rowIs g 132 201 (iv f) → W.grownBy W' (some g) → wpList Tryz.prog ops Q rest (a.put op.dst undef) W'):wpList Tryz.prog ops Q (op :: rest) a W:=by
 obtain ⟨c,hc,hs,hi⟩:=hrow
 obtain rfl:=zem hs hi
 refine wpList_plain hgd fun K hK => ?_
 unfold Oper.wp execOp
 have hl:=run_storeVar_row (P:=Tryz.prog) W g 132 132 (tabA f0) (tabA f) hc (by rw [z3t]; exact Tryz.sizeArr) (by rw [z3t,z3t]) (znv f)
 unfold arrV at hy
 simp only [ho,hx,hy,Instr.storeAt,Instr.sureAddr,Sem.run_bind,Sem.run_pure,Result.andThen_ok,hl]
 refine hK _ _ (h _ ⟨tabA f,?_,z3t f,fun i hi => zbc f hi⟩ ?_)
 ·have hg:=(Array.getElem?_eq_some_iff.1 hc).1
  simp only [World.setRow,Array.getElem?_modify]
  simp [hc]
 ·refine ⟨rfl,rfl,rfl,by simp [World.setRow],fun k hk hne => ?_⟩
  simp only [World.setRow,Array.getElem?_modify]
  rw [if_neg (fun e => hne (by rw [e]))]
end
end
section
open Go.RowKit
theorem Pows.ext' {S:Nat → Prop} {w W:World} {v:Value} {zs:Mono} (h:Pows S w v zs) (hx:Ext w W) (hS:∀ k,S k → k < w.heap.size):Pows S W v zs:=h.to (Kept.ext hx hS) (fun _ h => h)
theorem Pows.cellAt {S:Nat → Prop} {w:World} {m:Mono} {a:Option Addr} {n cap k:Nat} {x:Int × Int} (h:Pows S w (.slice a n cap) m) (hx:m[k]? = some x) :
  ∃ b off,a = some ⟨b,off,none⟩ ∧ n = m.length ∧ n ≤ cap ∧ cap ≤ 9223372036854775807 ∧ S b ∧
   ((-9223372036854775808 ≤ x.1 ∧ x.1 ≤ 9223372036854775807) ∧ -9223372036854775808 ≤ x.2 ∧ x.2 ≤ 9223372036854775807) ∧
   w.cell? ⟨b,off + k * 2,none⟩ = some (.int .i64 x.1) ∧ w.cell? ⟨b,off + k * 2 + 1,none⟩ = some (.int .i64 x.2):=by
 obtain ⟨b,off,⟨a',cap',h1,h2,h3,h4,h5⟩,hc⟩:=h
 obtain ⟨rfl,rfl,rfl⟩:a = a' ∧ n = m.length ∧ cap = cap':=by simpa using h1
 have hp:0 < m.length:=by have:=z03 hx; omega
 exact ⟨b,off,h4 hp,rfl,h2,h3,h5 hp,(hc k x hx).1,(hc k x hx).2.1,(hc k x hx).2.2⟩
def z6w (m:Mono):Nat → Int
 | 0 => 0
 | k + 1 => ((m[k]?).map (·.1)).getD 0
theorem z7a {S:Nat → Prop} (v:Value) (m:Mono) (w:World) (h:Pows S w v m) (hS:∀ k,S k → k < w.heap.size) :
  Calls Tryz.prog 43 #[v] w fun e w' => e = .returned (.bool (mayM m)) ∧ Ext w w':=by
 have hl:=h.len_le
 have H:=hid h
 obtain ⟨a,cap,rfl⟩:=h.form
 clear h
 go_enter Tryz.func43,Tryz.ntmps43
 go_wp2
 go_loopw [3] (fun i wr => ∃ k:Nat,k ≤ m.length ∧ i = .int .i64 k ∧ Ext w wr ∧ mayM m = z0e (z6w m k) (m.drop k) ∧ 0 ≤ z6w m k) (fun i _ => m.length - (intOf i).toNat)
 case atStart => exact ⟨0,Nat.zero_le _,rfl,Ext.refl _,rfl,by simp [z6w]⟩
 case round =>
  obtain ⟨k,hk,rfl,hx,hm,hl0⟩:=hrel
  by_cases hlt:k < m.length
  ·obtain ⟨t,ht⟩:=z00 hlt
   have hT:=z7u ht
   rw [hT,z0e] at hm
   have hl1:z6w m (k + 1) = t.1:=by simp [z6w,ht]
   obtain ⟨b,off,rfl,-,hn1,hm1,hSb,⟨hb1,hb2⟩,h1,h2⟩:=(H.out.ext' hx hS).cellAt ht
   have HM:=hid hm
   have HX:=hid hx
   have HL1:=hid hl1
   obtain ⟨x,z⟩:=t
   simp only at h1 h2 hb1 hb2 HM HL1
   clear hm hT hl1
   by_cases hbad:x < 1 ∨ 200 < x ∨ z < 1 ∨ 10000 < z
   ·have hf:Hid (mayM m = false):=hid (by
     rw [HM.out]
     have:¬ (z6w m k < x ∧ x ≤ 200 ∧ 1 ≤ z ∧ z ≤ 10000):=by omega
     simp [this])
    clear hx ht hl0
    rcases hbad with g | g | g | g <;> go_wp2
    all_goals
     go_ret
     exact ⟨by rw [hf.out]; rfl,HX.out⟩
   ·have g1:1 ≤ x:=by omega
    have g2:x ≤ 200:=by omega
    have g3:1 ≤ z:=by omega
    have g4:z ≤ 10000:=by omega
    clear hbad ht hl0
    cases k with
    | zero =>
     simp only [Nat.zero_mul,Nat.add_zero] at h1 h2
     have hf:Hid (mayM m = z0e (z6w m (0 + 1)) (m.drop (0 + 1))):=hid (by
      rw [HM.out,HL1.out]
      have:z6w m 0 < x ∧ x ≤ 200 ∧ 1 ≤ z ∧ z ≤ 10000:=⟨by show (0:Int) < x; omega,g2,g3,g4⟩
      simp [this])
     have hl2:Hid (0 ≤ z6w m (0 + 1)):=hid (by rw [HL1.out]; omega)
     clear hx
     go_wp2
     go_quiet (fail)
     go_wp2
     go_roundw
     case rel => exact ⟨0 + 1,by omega,by go_num,HX.out.drewN _,hf.out,hl2.out⟩
     case measure => simp only [intOf]; omega
    | succ q =>
     obtain ⟨y,hy⟩:=z00 (show q < m.length by omega)
     obtain ⟨b',off',hbb,-,-,-,-,⟨hc1,hc2⟩,h3,h4⟩:=(H.out.ext' hx hS).cellAt hy
     obtain ⟨rfl,rfl⟩:b = b' ∧ off = off':=by simpa using hbb
     have hl3:z6w m (q + 1) = y.1:=by simp [z6w,hy]
     have HL3:=hid hl3
     obtain ⟨u,t⟩:=y
     simp only at h3 h4 hc1 hc2 HL3
     have hq1:((q:Nat):Int) + 1 - 1 = (q:Int):=by omega
     clear hy hbb hl3 hx
     by_cases hux:u < x
     ·have hf:Hid (mayM m = z0e (z6w m (q + 1 + 1)) (m.drop (q + 1 + 1))):=hid (by
       rw [HM.out,HL1.out]
       have:z6w m (q + 1) < x ∧ x ≤ 200 ∧ 1 ≤ z ∧ z ≤ 10000:=⟨by rw [HL3.out]; exact hux,g2,g3,g4⟩
       simp [this])
      have hl2:Hid (0 ≤ z6w m (q + 1 + 1)):=hid (by rw [HL1.out]; omega)
      have hd:decide (x ≤ u) = false:=decide_eq_false (by omega)
      go_wp2
      go_quiet (fail)
      go_wp2
      go_roundw
      case rel => exact ⟨q + 1 + 1,by omega,by go_num,HX.out.drewN _,hf.out,hl2.out⟩
      case measure => simp only [intOf]; omega
     ·have hf:Hid (mayM m = false):=hid (by
       rw [HM.out]
       have:¬ (z6w m (q + 1) < x ∧ x ≤ 200 ∧ 1 ≤ z ∧ z ≤ 10000):=by rw [HL3.out]; omega
       simp [this])
      have hd:decide (x ≤ u) = true:=decide_eq_true (by omega)
      go_wp2
      go_quiet (fail)
      go_wp2
      all_goals
       go_ret
       exact ⟨by rw [hf.out]; rfl,HX.out.drewN _⟩
  ·obtain rfl:k = m.length:=by omega
   have HX:=hid hx
   have hf:Hid (mayM m = true):=hid (by rw [hm,List.drop_length]; rfl)
   clear hx hm hl0
   go_wp2
   all_goals
    go_ret
    exact ⟨by rw [hf.out]; rfl,HX.out⟩
end
section
open Go.RowKit
def exF (m:Mono):Nat → Int:=fun v => ex (z2q m) v
theorem zg7 {W:World} {g:Nat} {f:Nat → Int} (hrow:W.rowIs g 132 201 (iv f)):(loadVar 132 ⟨g,0,none⟩).run Tryz.prog W = .ok (arrV f) W:=by
 obtain ⟨c,hc,hs,hi⟩:=hrow
 obtain rfl:=zem hs hi
 exact run_loadVar_row (P:=Tryz.prog) W g 132 132 (tabA f) (0,0) _ hc Tryz.underlying132 rfl (by rw [z3t]; exact Tryz.sizeArr)
theorem zan {n k:Nat} (h:some n = some k):n ≤ k:=by
 cases h
 exact Nat.le_refl _
theorem z8g {P:Program} {fn:Func} {tmps:Array Value} {t T g:Nat} {v:Value} {W:World} (hr:fn.results = #[.cell t T]) (ht:tmps.getD t undef = .pointer (some ⟨g,0,none⟩)) (hl:(loadVar T ⟨g,0,none⟩).run P W = .ok v W):(results fn tmps).run P W = .ok v W:=by
 have ht':tmps[t]?.getD undef = .pointer (some ⟨g,0,none⟩):=by rw [← ht]; simp
 simp [results,hr,ht',asAddr,hl]
theorem zcl {w W:World} {g:Nat} {f:Nat → Value} {T:TypeId} {n:Nat} {row:Option Nat} (h:w.rowIs g T n f) (hg:w.grownBy W row) (hne:some g ≠ row):W.rowIs g T n f:=by
 obtain ⟨c,hc,hs,hi⟩:=h
 exact ⟨c,(hg.block g (Array.getElem?_eq_some_iff.1 hc).1 hne).trans hc,hs,hi⟩
theorem z4t {w W:World} {g:Nat} {f:Nat → Value} {T:TypeId} {n:Nat} (h:w.rowIs g T n f) (hx:Ext w W):W.rowIs g T n f:=by
 obtain ⟨c,hc,hs,hi⟩:=h
 exact ⟨c,(hx.block g (Array.getElem?_eq_some_iff.1 hc).1).trans hc,hs,hi⟩
theorem zk5 {w:World} {g:Nat} {f:Nat → Value} {T:TypeId} {n:Nat} {a:Addr} (h:w.rowIs g T n f) (hne:g ≠ a.block) (u:Value):(w.setCell a u).rowIs g T n f:=by
 obtain ⟨c,hc,hs,hi⟩:=h
 exact ⟨c,(Below.heap_setCell w a u g hne).trans hc,hs,hi⟩
theorem World.rowIs.drewN' {w:World} {g n:Nat} {T:TypeId} {f:Nat → Value} (h:w.rowIs g T n f):w.drew.rowIs g T n f:=h
theorem zr4 {l:Mono} {x:Int × Int} {v:Int} (h:∀ y ∈ l,y.1 ≠ x.1):ex (l ++ [x]) v = if x.1 = v then x.2 else ex l v:=by
 induction l with
 | nil => rfl
 | cons y r ih =>
  have ih:=ih (fun z hz => h z (by simp [hz]))
  simp only [List.cons_append,ex,ih]
  by_cases hv:x.1 = v
  ·have:¬ y.1 = v:=fun e => h y (by simp) (e.trans hv.symm)
   simp [this,hv]
  ·rw [if_neg hv,if_neg hv]
theorem zhx {last:Int} {m:Mono} (h:z0e last m = true):∀ y ∈ m,last < y.1:=by
 induction m generalizing last with
 | nil => intro y hy; simp at hy
 | cons x r ih =>
  simp only [z0e,Bool.and_eq_true,decide_eq_true_eq] at h
  intro y hy
  rcases List.mem_cons.1 hy with rfl | hy
  ·exact h.1.1
  ·have:=ih h.2 y hy
   omega
theorem z7b {last:Int} {m:Mono} {k:Nat} {x:Int × Int} (h:z0e last m = true) (hx:m[k]? = some x):(∀ y ∈ m.take k,y.1 ≠ x.1) ∧ 1 ≤ x.2 ∧ x.2 ≤ 10000 ∧ last < x.1 ∧ x.1 ≤ 200:=by
 induction m generalizing last k with
 | nil => simp at hx
 | cons y r ih =>
  have h0:=zhx h
  simp only [z0e,Bool.and_eq_true,decide_eq_true_eq] at h
  cases k with
  | zero =>
   obtain rfl:y = x:=by simpa using hx
   refine ⟨fun z hz => by simp at hz,?_⟩
   omega
  | succ k =>
   have hx':r[k]? = some x:=by simpa using hx
   obtain ⟨h1,h2,h3,h4,h5⟩:=ih h.2 hx'
   refine ⟨fun z hz => ?_,h2,h3,by omega,h5⟩
   rw [List.take_succ_cons] at hz
   rcases List.mem_cons.1 hz with rfl | hz
   ·omega
   ·exact h1 z hz
theorem zr5 {m:Mono} {k:Nat} {x:Int × Int} (h:mayM m = true) (hx:m[k]? = some x) (v:Int):ex (m.take (k + 1)) v = if x.1 = v then x.2 else ex (m.take k) v:=by
 rw [List.take_add_one,hx]
 exact zr4 (z7b h hx).1
theorem z51 {m:Mono} (h:mayM m = true):z2q m = m:=by simp [z2q,h]
theorem zk6 {m:Mono} (h:mayM m = false):z2q m = []:=by simp [z2q,h]
theorem z6c {S:Nat → Prop} (v:Value) (m:Mono) (w:World) (h:Pows S w v m) (hS:∀ k,S k → k < w.heap.size) :
  Calls Tryz.prog 79 #[v] w fun e w' => e = .returned (arrV (exF m)) ∧ Ext w w':=by
 have hz:=(zero_of_info Tryz.infoArr).1
 have hcs:(Value.agg (tabA fun _ => 0)).cells = tabA fun _ => 0:=rfl
 have hnot:∀ (x:Bool) (w:World),(Op.unary .not (.bool x)).run Tryz.prog w = .ok (.bool (!x)) w:=fun _ _ => rfl
 have hl:=h.len_le
 have H:=hid h
 obtain ⟨a,cap,rfl⟩:=h.form
 clear h
 have HK:=hid (Ext.alloc (Ext.alloc (Ext.refl w) (.cells (tabA fun _ => 0) 132)) (.cells (tabA fun _ => 0) 132))
 have HR1:=hid (z4t (z6v (fun _ => 0) w) (Ext.alloc (Ext.refl _) (.cells (tabA fun _ => 0) 132)))
 have hr2:=z6v (fun _ => 0) (w.alloc (.cells (tabA fun _ => 0) 132))
 rw [size_alloc] at hr2
 have HR2:=hid hr2
 have HM:=hid (z7a _ m _ (H.out.ext' HK.out hS) (z0a hS HK.out))
 clear hr2
 go_enter Tryz.func79,Tryz.ntmps79
 go_wp2_with fail
 refine HM.out.mono ?_
 rintro e w1 ⟨rfl,hx1⟩
 have HX1:=hid hx1
 have HQ1:=hid (z4t HR1.out hx1)
 have HQ2:=hid (z4t HR2.out hx1)
 clear hx1
 cases hm:mayM m with
 | false =>
  have HF:Hid (exF m = fun _ => 0):=hid (by funext v; unfold exF; rw [zk6 hm]; rfl)
  clear hm
  go_wp2_with (first
   | (refine z4c rfl (.tmp 3) rfl rfl HQ2.out ?_)
   | (refine z1m rfl (.tmp 2) (.tmp 8) rfl rfl rfl HQ1.out ?_; intro W hrow hg; have HROW:=hid hrow; have HG:=hid hg; clear hrow hg))
  have hld:=zg7 HROW.out
  refine bodyPost_ret (z8g Tryz.results79 rfl hld) rfl ?_
  exact ⟨by rw [HF.out],z0j (HK.out.trans HX1.out) HG.out (fun k hk => zan hk)⟩
 | true =>
  have HMM:=hid hm
  clear hm
  obtain ⟨wo,hwo⟩:∃ wo:World,wo = w1:=⟨_,rfl⟩
  subst hwo
  go_wp2
  go_loopw [4] (fun i wr => ∃ k:Nat,k ≤ m.length ∧ i = .int .i64 k ∧ Hid (wr.rowIs (w.heap.size + 1) 132 201 (iv (fun v => ex (m.take k) v))) ∧ Hid (wr.rowIs w.heap.size 132 201 (iv fun _ => 0)) ∧ Ext w wr) (fun i _ => m.length - (intOf i).toNat)
  case atStart => exact ⟨0,Nat.zero_le _,rfl,HQ2,HQ1,HK.out.trans HX1.out⟩
  case round =>
   obtain ⟨k,hk,rfl,HA,HB,hx⟩:=hrel
   by_cases hlt:k < m.length
   ·obtain ⟨t,ht⟩:=z00 hlt
    obtain ⟨b,off,rfl,-,hn1,hm1,hSb,⟨hb1,hb2⟩,h1,h2⟩:=(H.out.ext' hx hS).cellAt ht
    obtain ⟨_,g1,g2,g3,g4⟩:=z7b HMM.out ht
    have HT:=hid (fun v => zr5 HMM.out ht v)
    have HX:=hid hx
    have hbs:=hS b hSb
    obtain ⟨x,z⟩:=t
    simp only at h1 h2 hb1 hb2 g1 g2 g3 g4 HT
    obtain ⟨x,rfl⟩:=Int.eq_ofNat_of_zero_le (Int.le_of_lt g3)
    have hx201:x < 201:=by omega
    have hcs:=HA.out.cell (i:=x) hx201
    have hfs:=HA.out.frozen x
    unfold iv at hcs
    have hxI0:(0:Int) ≤ (x:Int):=by omega
    have hxI1:(x:Int) < 201:=by omega
    clear hx ht
    go_wp2
    have S0:wr.drew.cell? ⟨b,off + k * 2,none⟩ = some (.int .i64 (x:Nat)) ∧ wr.drew.cell? ⟨b,off + k * 2 + 1,none⟩ = some (.int .i64 z):=⟨by simpa using h1,by simpa using h2⟩
    go_region_held3 (fun W => W.cell? ⟨b,off + k * 2,none⟩ = some (.int .i64 (x:Nat)) ∧ W.cell? ⟨b,off + k * 2 + 1,none⟩ = some (.int .i64 z)) (first | exact S0 | exact ⟨z0b S0.1 (ab (by omega)),z0b S0.2 (ab (by omega))⟩) (fail)
    go_wp2
    go_roundw
    case rel =>
     refine ⟨k + 1,by omega,by go_num,hid ?_,hid (zk5 HB.out (by simp) _),(HX.out.drew).setCell (p:=⟨w.heap.size + 1,x,none⟩) (by simp) _⟩
     refine (World.rowIs.set (World.rowIs.drewN' HA.out) x (.int .i64 z)).congr (fun i hi => ?_)
     show (if i = x then Value.int .i64 z else Value.int .i64 (ex (m.take k) (i:Nat))) = Value.int .i64 (ex (m.take (k + 1)) (i:Nat))
     rw [HT.out]
     by_cases e:i = x
     ·subst e
      simp
     ·have:¬ ((x:Int) = (i:Int)):=fun h => e (by omega)
      simp [e,this]
    case measure => simp only [intOf]; omega
   ·obtain rfl:k = m.length:=by omega
    have HX:=hid hx
    have HF:Hid ((fun v:Nat => ex (m.take m.length) v) = exF m):=hid (by funext v; unfold exF; rw [z51 HMM.out,List.take_length])
    have hA:=HA.out
    rw [HF.out] at hA
    have HA2:=hid hA
    clear hx hA
    go_wp2_with (first
     | (refine z4c rfl (.tmp 3) rfl rfl HA2.out ?_)
     | (refine z1m rfl (.tmp 2) (.tmp 26) rfl rfl rfl HB.out ?_; intro W hrow hg; have HROW:=hid hrow; have HG:=hid hg; clear hrow hg))
    have hld:=zg7 HROW.out
    refine bodyPost_ret (z8g Tryz.results79 rfl hld) rfl ?_
    exact ⟨rfl,z0j HX.out HG.out (fun k hk => zan hk)⟩
end
section
open Go.RowKit
def rcmp (a b:Mono):Int:=cmpE (ex (z2q a)) (ex (z2q b)) 200
theorem zk7 {a b:Mono} (ha:mayM a = true) (hb:mayM b = true):rcmp a b = z0i a b:=by
 unfold rcmp
 rw [z51 ha,z51 hb,z2e ha hb]
theorem z7c {S:Nat → Prop} (va vb:Value) (a b:Mono) (w:World) (ha:Pows S w va a) (hb:Pows S w vb b) (hS:∀ k,S k → k < w.heap.size) :
  Calls Tryz.prog 44 #[va,vb] w fun e w' => e = .returned (.int .i64 (rcmp a b)) ∧ Ext w w':=by
 have hz:=(zero_of_info Tryz.infoArr).1
 have hcs:(Value.agg (tabA fun _ => 0)).cells = tabA fun _ => 0:=rfl
 have HA:=hid ha
 have HB:=hid hb
 obtain ⟨aa,ca,rfl⟩:=ha.form
 obtain ⟨ab1,cb,rfl⟩:=hb.form
 clear ha hb
 go_enter Tryz.func44,Tryz.ntmps44
 go_wp2_with fail
 refine (z6c _ a w HA.out hS).mono ?_
 rintro e w1 ⟨rfl,hx1⟩
 have HX1:=hid hx1
 clear hx1
 go_wp2_with (refine z1m rfl (.tmp 5) (.tmp 9) rfl rfl rfl (z6v (fun _ => 0) w1) ?_; intro w2 hrow hg; have HROW:=hid hrow; have HG:=hid hg; clear hrow hg)
 have HX2:Hid (Ext w w2):=hid (z0j (HX1.out.alloc _) HG.out (fun k hk => Nat.le_trans HX1.out.size (zan hk)))
 refine (z6c _ b w2 (HB.out.ext' HX2.out hS) (z0a hS HX2.out)).mono ?_
 rintro e w3 ⟨rfl,hx3⟩
 have HX3:=hid (HX2.out.trans hx3)
 have hsz:w1.heap.size < w2.heap.size:=by
  have:=HG.out.size
  rw [size_alloc] at this
  omega
 have HSZ:Hid (w1.heap.size < w3.heap.size):=hid (Nat.lt_of_lt_of_le hsz hx3.size)
 have HROW3:=hid (z4t HROW.out hx3)
 clear hx3 hsz
 go_wp2_with (refine z1m rfl (.tmp 6) (.tmp 11) rfl rfl rfl (z6v (fun _ => 0) w3) ?_; intro w4 hrow hg; have HROWB:=hid hrow; have HG2:=hid hg; clear hrow hg)
 have HX4:Hid (Ext w w4):=hid (z0j (HX3.out.alloc _) HG2.out (fun k hk => Nat.le_trans HX3.out.size (zan hk)))
 have HROWA:Hid (w4.rowIs w1.heap.size 132 201 (iv (exF a))):=hid (zcl (z4t HROW3.out (Ext.alloc (Ext.refl _) _)) HG2.out (fun e => by
  have:=HSZ.out
  have h1:w1.heap.size = w3.heap.size:=by simpa using e
  omega))
 obtain ⟨ga,hga⟩:∃ g,g = w1.heap.size:=⟨_,rfl⟩
 obtain ⟨gb,hgb⟩:∃ g,g = w3.heap.size:=⟨_,rfl⟩
 rw [← hga] at HROWA ⊢
 rw [← hgb] at HROWB ⊢
 clear hga hgb
 go_loopw [7] (fun v wr => ∃ k:Nat,k ≤ 200 ∧ v = .int .i64 k ∧ Ext w4 wr ∧ rcmp a b = cmpE (ex (z2q a)) (ex (z2q b)) k) (fun v _ => (intOf v).toNat)
 case atStart => exact ⟨200,by omega,rfl,Ext.refl _,rfl⟩
 case round =>
  obtain ⟨k,hk,rfl,hx,hc⟩:=hrel
  have HX:=hid hx
  by_cases h0:1 ≤ k
  ·have hk201:k < 201:=by omega
   have hca:=(z4t HROWA.out hx).cell (i:=k) hk201
   have hcb:=(z4t HROWB.out hx).cell (i:=k) hk201
   unfold iv exF at hca hcb
   obtain ⟨q,hq⟩:∃ q,k = q + 1:=⟨k - 1,by omega⟩
   have hst:cmpE (ex (z2q a)) (ex (z2q b)) k = if ex (z2q a) (k:Nat) = ex (z2q b) (k:Nat) then cmpE (ex (z2q a)) (ex (z2q b)) q else cmpI (ex (z2q a) (k:Nat)) (ex (z2q b) (k:Nat)):=by
    rw [hq]; rfl
   rw [hst] at hc
   have HC:=hid hc
   have HQ:=hid hq
   clear hx hc hst hq
   generalize ex (z2q a) (k:Nat) = p at *
   generalize ex (z2q b) (k:Nat) = t at *
   have hkI0:(0:Int) ≤ (k:Int):=by omega
   have hkI1:(k:Int) < 201:=by omega
   rcases (show p < t ∨ t < p ∨ p = t by omega) with hlt | hlt | heq
   ·have HF:Hid (rcmp a b = -1):=hid (by rw [HC.out,if_neg (by omega),z2r]; exact hlt)
    go_wp2
    go_quiet (fail)
    go_wp2
    all_goals
     go_ret
     exact ⟨by rw [HF.out]; rfl,HX4.out.trans (HX.out.drewN _)⟩
   ·have HF:Hid (rcmp a b = 1):=hid (by rw [HC.out,if_neg (by omega),z41]; exact hlt)
    have hd:decide (p < t) = false:=decide_eq_false (by omega)
    go_wp2
    go_quiet (fail)
    go_wp2
    go_quiet (fail)
    go_wp2
    all_goals
     go_ret
     exact ⟨by rw [HF.out]; rfl,HX4.out.trans ((HX.out.drewN _).drewN _)⟩
   ·subst heq
    have HF:Hid (rcmp a b = cmpE (ex (z2q a)) (ex (z2q b)) q):=hid (by rw [HC.out,if_pos rfl])
    go_wp2
    go_quiet (fail)
    go_wp2
    go_quiet (fail)
    go_wp2
    go_roundw
    case rel => exact ⟨q,by have:=HQ.out; omega,congrArg (Value.int .i64) (by have:=HQ.out; omega),HX.out.drewN _,HF.out⟩
    case measure => simp only [intOf]; omega
  ·obtain rfl:k = 0:=by omega
   have HF:Hid (rcmp a b = 0):=hid (by rw [hc]; rfl)
   clear hx hc
   go_wp2
   all_goals
    go_ret
    exact ⟨by rw [HF.out]; rfl,HX4.out.trans HX.out⟩
end
section
open Go.RowKit
def ofE (f:Nat → Int):Nat → Mono
 | 0 => []
 | k + 1 => if 0 < f (k + 1) then ofE f k ++ [(((k + 1:Nat):Int),f (k + 1))] else ofE f k
theorem zr6 (f:Nat → Int) (k:Nat):(ofE f k).length ≤ k:=by
 induction k with
 | zero => simp [ofE]
 | succ k ih =>
  simp only [ofE]
  split
  ·simp only [List.length_append,List.length_cons,List.length_nil]; omega
  ·omega
theorem zhy {f:Nat → Int} (h:∀ j,0 ≤ f j ∧ f j ≤ 1000000) (k:Nat) (hk:k ≤ 200):inBounds (ofE f k):=by
 induction k with
 | zero => intro x hx; simp [ofE] at hx
 | succ k ih =>
  have ih:=ih (by omega)
  simp only [ofE]
  split
  ·intro x hx
   rcases List.mem_append.1 hx with hx | hx
   ·exact ih x hx
   ·obtain rfl:=List.mem_singleton.1 hx
    have:=h (k + 1)
    unfold z40
    simp only
    omega
  ·exact ih
theorem znw {u v:Value} (h:u.oneCell' = true) (k:v.oneCell' = true):∀ x ∈ (#[u,v]:Array Value).toList,x.oneCell' = true:=by
 intro x hx
 simp at hx
 rcases hx with rfl | rfl <;> assumption
theorem znx (f:Nat → Int) (w:World) (hf:∀ j,0 ≤ f j ∧ f j ≤ 1000000) :
  Calls Tryz.prog 115 #[arrV f] w fun e w' => ∃ v',e = .returned v' ∧ Pows (New w w') w' v' (ofE f 200) ∧ Ext w w':=by
 have HK:=hid (Ext.alloc (Ext.refl w) (.cells (tabA f) 132))
 have HROW:=hid (z6v f w)
 have HF:=hid hf
 clear hf
 unfold arrV
 go_enter Tryz.func115,Tryz.ntmps115
 go_wp2
 go_loopw [3,4] (fun o v wr => ∃ k:Nat,k ≤ 200 ∧ v = .int .i64 ((k:Int) + 1) ∧ Ext (w.alloc (.cells (tabA f) 132)) wr ∧ Hid (wr.ownsRow (w.heap.size + 1) 51 2 o (ofE f k).length (z3d (ofE f k)))) (fun _ v _ => (201 - intOf v).toNat)
 case atStart => exact ⟨0,by omega,rfl,Ext.refl _,hid (World.ownsRow_nil _ _ _ _)⟩
 case round =>
  obtain ⟨k,hk,rfl,hx,HW⟩:=hrel
  have HX:=hid hx
  by_cases h0:k < 200
  ·obtain ⟨q,hq⟩:∃ q,q = k + 1:=⟨_,rfl⟩
   have hqI:(k:Int) + 1 = (q:Int):=by omega
   have hq201:q < 201:=by omega
   have hca:=(z4t HROW.out hx).cell (i:=q) hq201
   unfold iv at hca
   obtain ⟨p,hp⟩:∃ p,p = f q:=⟨_,rfl⟩
   have hpr:=HF.out q
   rw [← hp] at hca hpr
   obtain ⟨hp1,hp2⟩:=hpr
   have HP:=hid hp
   have HQ:=hid hq
   have hq1:1 ≤ q:=by omega
   have hq2:q ≤ 200:=by omega
   have hst:ofE f q = if 0 < p then ofE f k ++ [((q:Int),p)] else ofE f k:=by rw [hq,hp,hq]; rfl
   have HST:=hid hst
   have hol:(ofE f k).length ≤ 1000000000:=Nat.le_trans (zr6 f k) (by omega)
   have hbs:w.heap.size + 1 ≤ wr.heap.size:=by have:=hx.size; rw [size_alloc] at this; exact this
   have HBS:=hid hbs
   rw [hqI]
   clear hx hp hq hst hbs
   by_cases hpos:0 < p
   ·go_wp2_with (at_builtin; refine z09 _ rfl (.tmp 13) (.tmp 19) 47 rfl (w.heap.size + 1) 51 (.agg #[.int .i64 0,.int .i64 0]) 2 16 Tryz.underlying47 Tryz.infoPower rfl (by decide) _ (ofE f k).length (z3d (ofE f k)) rfl HW.out _ rfl (znw rfl rfl) rfl hol (by decide) HBS.out ?_; intro v1 w1 hown hg _; have HOW:=hid hown; have HG:=hid hg; clear hown hg)
    go_roundw
    case rel =>
     refine ⟨q,by omega,rfl,z0j HX.out HG.out (fun j hj => ?_),hid ?_⟩
     ·have:=(HW.out.lt j hj).1
      rw [size_alloc]
      exact this
     ·rw [HST.out,if_pos hpos,z4h]
      have h1:=HOW.out
      simpa [z3d] using h1
    case measure => simp only [intOf]; omega
   ·go_wp2
    go_roundw
    case rel => exact ⟨q,by omega,rfl,HX.out,hid (by rw [HST.out,if_neg hpos]; exact HW.out)⟩
    case measure => simp only [intOf]; omega
  ·obtain rfl:k = 200:=by omega
   have hb:=zhy HF.out 200 (Nat.le_refl _)
   have HP:=hid (z67 HW.out hb)
   clear hx hb
   go_wp2
   all_goals
    go_ret
    refine ⟨_,rfl,HP.out.to (Kept.refl _ _) (fun j hj => ⟨by have:=hj.1; omega,hj.2⟩),HK.out.trans HX.out⟩
end
end Go.Proofs.YtbfflodidkfphaaGreat
