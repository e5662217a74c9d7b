/- Limbs shifted by less than a limb: to the left. Limbs shifted by less than a limb: to the right. A number by a limb. The bits of a number, exactly. One limb of a quotient, plainly and of rows. A small number's limbs; a number's own. Quotient and rest of two numbers: the easy cases. Quotient and rest of two numbers: Knuth's way. Quotient and rest of two numbers. Terms that are summed by their monomials: what is collected is the canonical list. Plain. The product of two whole numbers (one of them of fewer than 24 limbs); a number's own. Exact quotients; the greatest common divisor. Exact quotients of whole numbers. Limbs added to others from a place on. Limbs cut in two. The product of numbers of many limbs: by cutting. The product of two whole numbers, of any lengths. A whole number with the other sign. Quotients: the canonical one of two whole numbers. The document's quotients: out of data. -/
import Derived.ArgAppend
import Derived.Deep.LoopGhost
import Derived.Deep.RegionWith
import Derived.Deep.DeepCutAuto
import Derived.Deep.CutBlock
import Derived.Test.YtbfflodidkfphaaGreatSe4
set_option maxRecDepth 100000
set_option maxHeartbeats 16000000
namespace Go.Proofs.YtbfflodidkfphaaGreat
section
open Go.RowKit
theorem zl7 (s:Nat) (hs:s < 32) (w:World):Calls Tryz.prog 153 #[.int .i64 (s:Nat)] w fun e w' => e = .returned (.bool true) ∧ w = w':=by
 have h1:(0:Int) ≤ (s:Int):=by omega
 have h2:(s:Int) ≤ 31:=by omega
 go_enter Tryz.func153,Tryz.ntmps153
 go_wp2
 all_goals
  go_ret
  exact ⟨congrArg (fun b => Ending.returned (Value.bool b)) (decide_eq_true (by omega)),rfl⟩
theorem zd6 {s:Nat} (hs:s < 32):2 ^ (32 - s) * 2 ^ s = B32:=by
 rw [← Nat.pow_add,show 32 - s + s = 32 by omega]
theorem zok {x s c:Nat} (hx:x < B32) (hs:s < 32) (hc:c < 2 ^ s):c + x * 2 ^ s % B32 < B32 ∧ x * 2 ^ s / B32 < 2 ^ s ∧ x * 2 ^ s % B32 % 2 ^ s = 0:=by
 have hB:=zd6 hs
 have hP:0 < 2 ^ s:=Nat.pow_pos (by decide)
 rw [← hB,Nat.mul_mod_mul_right,Nat.mul_div_mul_right _ _ hP]
 have hK:x % 2 ^ (32 - s) < 2 ^ (32 - s):=Nat.mod_lt _ (Nat.pow_pos (by decide))
 refine ⟨?_,?_,Nat.mul_mod_left _ _⟩
 ·have h1:(x % 2 ^ (32 - s) + 1) * 2 ^ s ≤ 2 ^ (32 - s) * 2 ^ s:=Nat.mul_le_mul_right _ hK
  rw [Nat.add_mul,Nat.one_mul] at h1
  omega
 ·refine Nat.div_lt_of_lt_mul ?_
  rw [hB]
  exact hx
theorem zt7 (s c m:Nat) (hs:s < 32) (hc:c < 2 ^ s) (hm:m < B32) (hd:m % 2 ^ s = 0):bits .or .u32 (c:Int) (m:Int) = ((c + m:Nat):Int):=by
 have hk:∀ n:Int,0 ≤ n → n < 2 ^ 32 → IntKind.u32.wrap n = n:=fun n h0 h1 => by rw [IntKind.wrap_u32]; omega
 have hc32:c < 2 ^ 32:=Nat.lt_of_lt_of_le hc (Nat.pow_le_pow_right (by decide) (by omega))
 have hm32:m < 2 ^ 32:=hm
 rw [(bits_nat .u32 32 (by decide) hk c m hc32 hm32).2,Nat.or_comm]
 have h:=bits_join .u32 32 (by decide) hk s (m:Int) (c:Int) (by omega) (by exact_mod_cast hd) (by exact_mod_cast hm32) (by omega) (by exact_mod_cast hc) (by exact_mod_cast hc32)
 rw [(bits_nat .u32 32 (by decide) hk m c hm32 hc32).2] at h
 rw [h]
 omega
theorem z7f {o o':List Nat} (h:∀ j,dg o j = dg o' j):rowU o = rowU o':=funext fun j => by unfold rowU; rw [h]
theorem zey (o:List Nat) (z j:Nat):dg (o ++ [z]) j = if j < o.length then dg o j else if j = o.length then z else 0:=by
 unfold dg
 rw [List.getElem?_append]
 split
 ·rfl
 ·rename_i h
  split
  ·rename_i h2
   rw [h2,Nat.sub_self]
   rfl
  ·rename_i h2
   rw [List.getElem?_eq_none (by simp; omega)]
   rfl
theorem zl8 {B:Nat} (hB:0 < B) (l:List Nat) (hl:∀ d ∈ l,d < B) (j:Nat):dg l j = val B l / B ^ j % B:=by
 induction l generalizing j with
 | nil => simp [dg,val]
 | cons d l ih =>
  have hd:=hl d (List.mem_cons_self ..)
  cases j with
  | zero =>
   show d = (d + B * val B l) / B ^ 0 % B
   rw [Nat.pow_zero,Nat.div_one,Nat.add_mul_mod_self_left,Nat.mod_eq_of_lt hd]
  | succ j =>
   show dg l j = (d + B * val B l) / B ^ (j + 1) % B
   rw [ih (fun z hz => hl z (List.mem_cons_of_mem _ hz)) j,Nat.pow_succ,Nat.mul_comm (B ^ j) B,← Nat.div_div_eq_div_mul,Nat.add_mul_div_left _ _ hB,Nat.div_eq_of_lt hd,Nat.zero_add]
theorem zqg {o:List Nat} (ho:∀ z ∈ o,z < B32) (n:Nat) (hn:val B32 o = n) (j:Nat):dg o j = dg (rep B32 n) j:=by
 rw [zl8 (by decide) _ ho,zl8 (by decide) _ (z32 z01 n),z0c z01,hn]
theorem zgj (zs:List Nat) (hl:∀ z ∈ zs,z < B32) {k:Nat} (ht:z24 zs k = z24 zs zs.length):z24 zs k = (rep B32 (val B32 zs)).length:=by
 rw [← z4w z01 zs hl,← List.take_length (l:=zs),← z4a zs _ (Nat.le_refl _),List.take_length,List.length_take,ht]
 have:=zjg zs zs.length
 omega
theorem zd7 {S:Nat → Prop} (a:Option Addr) (cap:Nat) (zs:List Nat) (w:World) (h:U32s S w (.slice a zs.length cap) zs) :
  Calls Tryz.prog 121 #[.slice a zs.length cap] w fun e w' => e = .returned (.slice a (rep B32 (val B32 zs)).length cap) ∧ w = w':=by
 have hl:=h.len_le
 have H:=hid h
 clear h
 go_enter Tryz.func121,Tryz.ntmps121
 go_wp2
 go_loop [0] (fun x => ∃ k:Nat,k ≤ zs.length ∧ x = .slice a k cap ∧ z24 zs k = z24 zs zs.length) (fun x => z15 x)
 case atStart => exact ⟨zs.length,Nat.le_refl _,rfl,rfl⟩
 case round =>
  obtain ⟨k,hk,rfl,ht⟩:=hrel
  cases k with
  | zero =>
   have HT:=hid ht
   clear ht
   go_wp2
   all_goals
    go_ret
    refine ⟨?_,rfl⟩
    rw [← zgj zs H.out.lt HT.out]
    rfl
  | succ k =>
   obtain ⟨z,hz⟩:=z00 (show k < zs.length by omega)
   obtain ⟨b,off,cap',hv,hcap,hmax,hzb,hcell⟩:=H.out.at hz
   obtain ⟨rfl,-,rfl⟩:a = some ⟨b,off,none⟩ ∧ True ∧ cap = cap':=by simpa using hv
   have HT:=hid ht
   have HZ:=hid hz
   clear ht hz hv
   by_cases h0:z = 0
   ·have hb:((z:Int) == 0) = true:=by simpa using h0
    have H0:=hid h0
    clear h0
    go_wp2
    go_round
    case rel => exact ⟨k,by omega,rfl,by rw [← HT.out,z24,HZ.out,H0.out,if_pos rfl]⟩
    case measure => simp only [z15]; omega
   ·have hb:((z:Int) == 0) = false:=by simpa using h0
    have H0:=hid h0
    clear h0
    go_wp2
    all_goals
     go_ret
     refine ⟨?_,rfl⟩
     have h2:z24 zs (k + 1) = k + 1:=by rw [z24,HZ.out,if_neg (by simpa using H0.out)]
     rw [← zgj zs H.out.lt HT.out,h2]
     rfl
theorem zl9 {S:Nat → Prop} (v:Value) (zs:List Nat) (s:Nat) (w:World) (h:U32s S w v zs) (hS:∀ k,S k → k < w.heap.size) (hr:zs.length ≤ 1000000000000) (hs:s < 32) :
  Calls Tryz.prog 142 #[v,.int .i64 (s:Nat)] w fun e w' => ∃ g,e = .returned (.tuple #[.slice (some ⟨g,0,none⟩) (rep B32 (val B32 zs * 2 ^ s)).length ((rep B32 (val B32 zs)).length + 1),.int .i64 0]) ∧ w.heap.size ≤ g ∧ g < w'.heap.size ∧
   w'.rowIs g 148 ((rep B32 (val B32 zs)).length + 1) (rowU (rep B32 (val B32 zs * 2 ^ s))) ∧ Ext w w':=by
 have hle:(rep B32 (val B32 zs)).length ≤ zs.length:=z0d z01 _ _ (z13 zs h.lt)
 have H:=hid h
 obtain ⟨a,cap,rfl⟩:=h.form
 clear h
 have CM:=hid (zl7 s hs w)
 go_enter Tryz.func142,Tryz.ntmps142
 go_wp2_with fail
 refine CM.out.mono ?_
 rintro e w1 ⟨rfl,rfl⟩
 go_wp2_with fail
 refine (z1p _ zs _ H.out).mono ?_
 rintro e w' ⟨v',rfl,hu,rfl⟩
 have hx1:((s:Int)).tdiv 32 = 0:=by rw [Int.tdiv_eq_ediv_of_nonneg (by omega)]; omega
 have hx2:((s:Int)).tmod 32 = (s:Int):=by rw [Int.tmod_eq_emod_of_nonneg (by omega)]; omega
 obtain ⟨L,hL⟩:∃ L,L = (rep B32 (val B32 zs)).length:=⟨_,rfl⟩
 have HU:=hid hu
 obtain ⟨a',c',rfl⟩:=hu.form
 rw [← hL] at HU hle ⊢
 have hmk:=run_make_row' (P:=Tryz.prog) 24 148 (.int .u32 0) 4 Tryz.underlying24 Tryz.infoU32 rfl .i64 .i64 (L + 1) (by omega) (by omega) w
 rw [show ((L + 1:Nat):Int) = (L:Int) + 1 by omega] at hmk
 obtain ⟨V,hV⟩:∃ V,V = val B32 zs:=⟨_,rfl⟩
 rw [← hV] at HU hL
 have HL:=hid hL
 have HLE:=hid hle
 have HV:=hid hV
 have HZ0:=hid (z6b w (L + 1) 148)
 have HX0:=hid (Ext.alloc (Ext.refl w) (.cells (madeCells #[.int .u32 0] (L + 1)) 148))
 clear hu hL hV
 go_wp2
 go_loopw [24] (fun s24 wr => ∃ (i c:Nat) (o:List Nat),s24 = .int .i64 (i:Nat) ∧ i ≤ L ∧ Hid (c < 2 ^ s ∧ o.length = i ∧ (∀ z ∈ o,z < B32) ∧ val B32 o + B32 ^ i * c = val B32 ((rep B32 V).take i) * 2 ^ s) ∧
  wr.rowIs w.heap.size 148 (L + 1) (rowU (o ++ [c])) ∧ Ext w wr) (fun s24 _ => L - (intOf s24).toNat)
 case atStart =>
  refine ⟨0,0,[],rfl,Nat.zero_le _,hid ⟨Nat.pow_pos (by decide),rfl,by simp,by simp [val]⟩,?_,HX0.out⟩
  have e:rowU ([] ++ [0]) = rowU (List.replicate (L + 1) 0):=z7f fun j => by rw [z84,zey]; simp
  rw [e]
  exact HZ0.out
 case round =>
  obtain ⟨i,c,o,rfl,hi,HI,hrow,hx⟩:=hrel
  have HR:=hid hrow
  have HX:=hid hx
  by_cases hlt:i < L
  ·obtain ⟨x,hx1⟩:=z00 (l:=rep B32 V) (j:=i) (by rw [← HL.out]; exact hlt)
   obtain ⟨b1,o1,rfl,-,hn1,hm1,-,hxb,hc1⟩:=(HU.out.to (Kept.ext hx hS) (fun _ h => h)).cellAt hx1
   have hc2:wr.cell? ⟨w.heap.size,i,none⟩ = some (.int .u32 (c:Nat)):=by
    have h1:=hrow.cell (i:=i) (by omega)
    rw [h1]
    show some (Value.int .u32 (dg (o ++ [c]) i:Nat)) = _
    rw [zey,if_neg (by have:=HI.out.2.1; omega),if_pos HI.out.2.1.symm]
   have hf2:=hrow.frozen i
   have hc3:wr.cell? ⟨w.heap.size,i + 1,none⟩ = some (.int .u32 0):=by
    have h1:=hrow.cell (i:=i + 1) (by omega)
    rw [h1]
    show some (Value.int .u32 (dg (o ++ [c]) (i + 1):Nat)) = _
    rw [zey,if_neg (by have:=HI.out.2.1; omega),if_neg (by have:=HI.out.2.1; omega)]
    rfl
   have hf3:=hrow.frozen (i + 1)
   obtain ⟨q1,q2,q3⟩:=zok hxb hs HI.out.1
   obtain ⟨t,ht⟩:∃ t,t = x * 2 ^ s:=⟨_,rfl⟩
   rw [← ht] at q1 q2 q3
   have htl:t < 18446744073709551616:=by
    have h1:x * 2 ^ s < 4294967296 * 2 ^ s:=Nat.mul_lt_mul_of_pos_right hxb (Nat.pow_pos (by decide))
    have h2:2 ^ s < 2 ^ 32:=Nat.pow_lt_pow_right (by decide) hs
    have h3:(2:Nat) ^ 32 = 4294967296:=by decide
    omega
   have hsh:IntKind.u64.wrap ((x:Int) * 2 ^ s) = (t:Int):=by
    have e:(x:Int) * 2 ^ s = ((x * 2 ^ s:Nat):Int):=by push_cast; rfl
    rw [e,← ht]
    exact z0u htl
   obtain ⟨lo,hlo⟩:∃ lo,lo = t % B32:=⟨_,rfl⟩
   obtain ⟨h,hh⟩:∃ h,h = t / B32:=⟨_,rfl⟩
   rw [← hlo] at q1 q3
   rw [← hh] at q2
   have hlo':(t:Int) % 4294967296 = (lo:Int):=by rw [hlo]; rfl
   have hhi':(t:Int) / 4294967296 = (h:Int):=by rw [hh]; rfl
   have hh2:(h:Int) % 4294967296 = (h:Int):=by
    have h1:h < 4294967296:=by rw [hh]; show t / 4294967296 < 4294967296; omega
    omega
   have hor:bits .or .u32 (c:Int) (lo:Int) = ((c + lo:Nat):Int):=zt7 s c lo hs HI.out.1 (by omega) q3
   have HQ:=hid (And.intro q1 q2)
   have HT:=hid (And.intro ht (And.intro hlo hh))
   have HX1:=hid hx1
   have HXB:=hid hxb
   have hx64:IntKind.u64.wrap (x:Int) = (x:Int):=z0u (Nat.lt_trans hxb (by decide))
   clear hrow hx q1 q2 q3 ht hlo hh hx1 htl hxb
   go_wp2
   obtain ⟨HI1,HI2,HI3,HI4⟩:=HI.out
   refine ⟨⟨i + 1,h,o ++ [c + lo],rfl,by omega,hid ⟨HQ.out.2,by simp [HI2],?_,?_⟩,?_,?_⟩,?_⟩
   ·intro z hz
    rcases List.mem_append.1 hz with h1 | h1
    ·exact HI3 z h1
    ·rw [List.mem_singleton.1 h1]; exact HQ.out.1
   ·rw [z4i,HI2,z2l HX1.out,Nat.add_mul,← HI4,Nat.mul_assoc,← HT.out.1]
    have h3:t = lo + B32 * h:=by rw [HT.out.2.1,HT.out.2.2]; exact (Nat.mod_add_div t B32).symm
    rw [h3,Nat.pow_succ,Nat.mul_add,Nat.mul_add,Nat.mul_assoc]
    omega
   ·have h1:=z57 HR.out i (c + lo) (by simp; omega)
    have e:(o ++ [c]).set i (c + lo) = o ++ [c + lo]:=by rw [← HI2]; simp
    rw [e] at h1
    have h2:=z26 h1 h
    have e2:(o ++ [c + lo]).length = i + 1:=by simp [HI2]
    rw [e2] at h2
    have e3:((c + lo:Nat):Int) = (c:Int) + (lo:Int):=by push_cast; rfl
    rw [e3] at h2
    exact h2
   ·exact (HX.out.setCell (Nat.le_refl _) _).setCell (Nat.le_refl _) _
   ·simp only [intOf]; omega
  ·obtain rfl:i = L:=by omega
   obtain ⟨HI1,HI2,HI3,HI4⟩:=HI.out
   have hol:∀ z ∈ o ++ [c],z < B32:=by
    intro z hz
    rcases List.mem_append.1 hz with h1 | h1
    ·exact HI3 z h1
    ·rw [List.mem_singleton.1 h1]
     exact Nat.lt_of_lt_of_le HI1 (show 2 ^ s ≤ 2 ^ 32 from Nat.pow_le_pow_right (by decide) (by omega))
   have hval:val B32 (o ++ [c]) = V * 2 ^ s:=by
    rw [z4i,HI2,HI4,HL.out,List.take_length,z0c z01]
   have hu:U32s (fun k => k = w.heap.size) wr (.slice (some ⟨w.heap.size,0,none⟩) (o ++ [c]).length (i + 1)) (o ++ [c]):=U32s.of_row hrow (by simp; omega) hol (by omega)
   have CS:=hid (zd7 _ _ _ _ hu)
   have e2:(o ++ [c]).length = i + 1:=by simp [HI2]
   rw [e2,hval] at CS
   have HS:Hid (wr.rowIs w.heap.size 148 (i + 1) (rowU (rep B32 (V * 2 ^ s)))):=hid (by
    rw [← z7f (zqg hol _ hval)]
    exact hrow)
   clear hrow hx HI1 HI2 HI3 HI4 hol hval hu e2
   go_wp2_with fail
   refine CS.out.mono ?_
   rintro e w' ⟨rfl,rfl⟩
   go_wp2
   all_goals
    go_ret2
    have hl:=HL.out
    have hs2:=HS.out
    rw [HV.out] at hl hs2
    rw [← hl,← HV.out]
    rw [← HV.out] at hs2
    exact ⟨_,rfl,Nat.le_refl _,HS.out.lt,hs2,HX.out⟩
end
section
open Go.RowKit
theorem zd8 {N s i x y r:Nat} (hs:s < 32) (h:N / B32 ^ i = x + B32 * (y + B32 * r)):N / 2 ^ s / B32 ^ i % B32 = (x + B32 * y) / 2 ^ s % B32:=by
 have hB:=zd6 hs
 have hP:0 < 2 ^ s:=Nat.pow_pos (by decide)
 have e:N / 2 ^ s / B32 ^ i = N / B32 ^ i / 2 ^ s:=by rw [Nat.div_div_eq_div_mul,Nat.div_div_eq_div_mul,Nat.mul_comm]
 have e2:x + B32 * (y + B32 * r) = (x + B32 * y) + 2 ^ s * (2 ^ (32 - s) * (B32 * r)):=by
  rw [Nat.mul_add,← Nat.mul_assoc (2 ^ s),Nat.mul_comm (2 ^ s),hB]
  omega
 rw [e,h,e2,Nat.add_mul_div_left _ _ hP,show 2 ^ (32 - s) * (B32 * r) = B32 * (2 ^ (32 - s) * r) from Nat.mul_left_comm _ _ _,Nat.add_mul_mod_self_left]
theorem zol {M i d:Nat} {o:List Nat} (hv:val B32 o = M % B32 ^ i) (ho:o.length = i) (hd:d = M / B32 ^ i % B32):val B32 (o ++ [d]) = M % B32 ^ (i + 1):=by
 rw [z4i,ho,hv,hd,Nat.pow_succ,Nat.mod_mul]
theorem zom (l:List Nat) (hl:∀ z ∈ l,z < B32) (i:Nat):val B32 l / B32 ^ i = dg l i + B32 * (dg l (i + 1) + B32 * val B32 (l.drop (i + 2))):=by
 rw [← z16,← z16]
 have h:=z2f (B:=B32) l i
 by_cases hi:i ≤ l.length
 ·rw [Nat.min_eq_left hi] at h
  have h2:val B32 (l.take i) < B32 ^ i:=by
   have h3:=z13 (l.take i) (fun z hz => hl z (List.mem_of_mem_take hz))
   rwa [List.length_take,Nat.min_eq_left hi] at h3
  rw [h,Nat.add_mul_div_left _ _ (Nat.pow_pos (by decide)),Nat.div_eq_of_lt h2,Nat.zero_add]
 ·rw [List.drop_eq_nil_of_le (by omega)]
  have h3:=z13 l hl
  have h4:B32 ^ l.length ≤ B32 ^ i:=Nat.pow_le_pow_right (by decide) (by omega)
  rw [Nat.div_eq_of_lt (by omega)]
  rfl
theorem zla (x y:Nat) (hx:x < B32) (hy:y < B32):bits .or .u64 (x:Int) ((y:Int) * 4294967296) = ((x + B32 * y:Nat):Int):=by
 have hx64:x < 2 ^ 64:=Nat.lt_trans hx (by decide)
 have hy64:y * 4294967296 < 2 ^ 64:=by
  have h:y < 4294967296:=hy
  show y * 4294967296 < 18446744073709551616
  omega
 have e:(y:Int) * 4294967296 = ((y * 4294967296:Nat):Int):=by omega
 rw [e,(bits_nat .u64 64 (by decide) z6i x _ hx64 hy64).2,Nat.or_comm]
 have h:=z8x y x hy hx
 rw [e,(bits_nat .u64 64 (by decide) z6i _ x hy64 hx64).2] at h
 rw [h]
 show ((y * 4294967296 + x:Nat):Int) = ((x + 4294967296 * y:Nat):Int)
 omega
theorem zrn {S:Nat → Prop} (v:Value) (zs:List Nat) (s:Nat) (w:World) (h:U32s S w v zs) (hS:∀ k,S k → k < w.heap.size) (hr:zs.length ≤ 1000000000000) (hs:s < 32) :
  Calls Tryz.prog 146 #[v,.int .i64 (s:Nat)] w fun e w' => ∃ v',e = .returned (.tuple #[v',.int .i64 0]) ∧ U32s (New w w') w' v' (rep B32 (val B32 zs / 2 ^ s)) ∧ Ext w w':=by
 have hle:(rep B32 (val B32 zs)).length ≤ zs.length:=z0d z01 _ _ (z13 zs h.lt)
 have H:=hid h
 obtain ⟨a,cap,rfl⟩:=h.form
 clear h
 have CM:=hid (zl7 s hs w)
 go_enter Tryz.func146,Tryz.ntmps146
 go_wp2_with fail
 refine CM.out.mono ?_
 rintro e w1 ⟨rfl,rfl⟩
 go_wp2_with fail
 refine (z1p _ zs _ H.out).mono ?_
 rintro e w' ⟨v',rfl,hu,rfl⟩
 have hx1:((s:Int)).tdiv 32 = 0:=by rw [Int.tdiv_eq_ediv_of_nonneg (by omega)]; omega
 have hx2:((s:Int)).tmod 32 = (s:Int):=by rw [Int.tmod_eq_emod_of_nonneg (by omega)]; omega
 obtain ⟨L,hL⟩:∃ L,L = (rep B32 (val B32 zs)).length:=⟨_,rfl⟩
 have HU:=hid hu
 obtain ⟨a',c',rfl⟩:=hu.form
 rw [← hL] at HU hle ⊢
 have hmk:=run_make_row' (P:=Tryz.prog) 24 148 (.int .u32 0) 4 Tryz.underlying24 Tryz.infoU32 rfl .i64 .i64 L (by omega) (by omega) w
 obtain ⟨V,hV⟩:∃ V,V = val B32 zs:=⟨_,rfl⟩
 rw [← hV] at HU hL
 have HL:=hid hL
 have HV:=hid hV
 have HLE:=hid hle
 have HZ0:=hid (z6b w L 148)
 have HX0:=hid (Ext.alloc (Ext.refl w) (.cells (madeCells #[.int .u32 0] L) 148))
 clear hu hL hV
 go_wp2
 go_loopw [26] (fun s26 wr => ∃ (i:Nat) (o:List Nat),s26 = .int .i64 (i:Nat) ∧ i ≤ L ∧ Hid (o.length = i ∧ (∀ z ∈ o,z < B32) ∧ val B32 o = V / 2 ^ s % B32 ^ i) ∧
  wr.rowIs w.heap.size 148 L (rowU o) ∧ Ext w wr) (fun s26 _ => L - (intOf s26).toNat)
 case atStart =>
  refine ⟨0,[],rfl,Nat.zero_le _,hid ⟨rfl,by simp,by simp [val,Nat.mod_one]⟩,?_,HX0.out⟩
  have e:rowU [] = rowU (List.replicate L 0):=z7f fun j => by rw [z84]; rfl
  rw [e]
  exact HZ0.out
 case round =>
  obtain ⟨i,o,rfl,hi,HI,hrow,hx⟩:=hrel
  have HR:=hid hrow
  have HX:=hid hx
  by_cases hlt:i < L
  ·obtain ⟨x,hx1⟩:=z00 (l:=rep B32 V) (j:=i) (by rw [← HL.out]; exact hlt)
   obtain ⟨b1,o1,hav,-,hn1,hm1,-,hxb,hc1⟩:=(HU.out.to (Kept.ext hx hS) (fun _ h => h)).cellAt hx1
   have hf2:=hrow.frozen i
   have hc2:wr.cell? ⟨w.heap.size,i,none⟩ = some (.int .u32 0):=by
    rw [hrow.cell (i:=i) hlt]
    show some (Value.int .u32 (dg o i:Nat)) = _
    rw [z2a (by have:=HI.out.1; omega)]
    rfl
   have HX1:=hid hx1
   have HXB:=hid hxb
   have HD:=hid (zom (rep B32 V) (z32 z01 V) i)
   rw [z0c z01,z0k hx1] at HD
   have fin:∀ t:Nat,t / 2 ^ s % B32 = V / 2 ^ s / B32 ^ i % B32 → (∃ (i_1:Nat) (o:List Nat),Value.int IntKind.i64 ((i:Int) + 1) = Value.int IntKind.i64 (i_1:Nat) ∧ i_1 ≤ L ∧
     Hid (o.length = i_1 ∧ (∀ (z:Nat),z ∈ o → z < B32) ∧ val B32 o = V / 2 ^ s % B32 ^ i_1) ∧
      (wr.setCell ⟨w.heap.size,i,none⟩ (Value.int IntKind.u32 ((t:Int) / 2 ^ s % 4294967296))).rowIs w.heap.size 148 L (rowU o) ∧
       Ext w (wr.setCell ⟨w.heap.size,i,none⟩ (Value.int IntKind.u32 ((t:Int) / 2 ^ s % 4294967296)))) ∧
     L - (intOf (Value.int IntKind.i64 ((i:Int) + 1))).toNat < L - (intOf (Value.int IntKind.i64 (i:Int))).toNat:=by
    intro t ht
    obtain ⟨HI2,HI3,HI4⟩:=HI.out
    have e:(t:Int) / 2 ^ s % 4294967296 = ((t / 2 ^ s % B32:Nat):Int):=by
     have e1:(t:Int) / 2 ^ s = ((t / 2 ^ s:Nat):Int):=by push_cast; rfl
     rw [e1]
     show ((t / 2 ^ s:Nat):Int) % 4294967296 = ((t / 2 ^ s % 4294967296:Nat):Int)
     omega
    rw [e]
    refine ⟨⟨i + 1,o ++ [t / 2 ^ s % B32],rfl,by omega,hid ⟨by simp [HI2],?_,zol HI4 HI2 ht⟩,?_,HX.out.setCell (Nat.le_refl _) _⟩,?_⟩
    ·intro z hz
     rcases List.mem_append.1 hz with h1 | h1
     ·exact HI3 z h1
     ·rw [List.mem_singleton.1 h1]; exact Nat.mod_lt _ (by decide)
    ·have h1:=z26 HR.out (t / 2 ^ s % B32)
     rw [HI2] at h1
     exact h1
    ·simp only [intOf]; omega
   have FIN:=hid fin
   clear hrow hx hx1 fin
   subst hav
   by_cases h2:i + 1 < L
   ·obtain ⟨y,hy1⟩:=z00 (l:=rep B32 V) (j:=i + 1) (by rw [← HL.out]; exact h2)
    obtain ⟨b3,o3,hav,-,-,-,-,hyb,hc3⟩:=(HU.out.to (Kept.ext HX.out hS) (fun _ h => h)).cellAt hy1
    obtain ⟨rfl,rfl⟩:b1 = b3 ∧ o1 = o3:=by simpa using hav
    have hx64:IntKind.u64.wrap (x:Int) = (x:Int):=z0u (Nat.lt_trans hxb (by decide))
    have hy64:IntKind.u64.wrap (y:Int) = (y:Int):=z0u (Nat.lt_trans hyb (by decide))
    have hor:=zla x y hxb hyb
    obtain ⟨t,ht⟩:∃ t,t = x + B32 * y:=⟨_,rfl⟩
    rw [← ht] at hor
    have HT:=hid ht
    have HY1:=hid hy1
    have HYB:=hid hyb
    clear hxb hy1 ht
    go_wp2
    refine FIN.out t ?_
    have hd:=HD.out
    rw [z0k HY1.out] at hd
    rw [zd8 hs hd,HT.out]
   ·have hx64:IntKind.u64.wrap (x:Int) = (x:Int):=z0u (Nat.lt_trans hxb (by decide))
    clear hxb
    go_wp2
    refine FIN.out x ?_
    have hd:=HD.out
    rw [z2a (by have:=HL.out; omega)] at hd
    rw [zd8 hs hd,Nat.mul_zero,Nat.add_zero]
  ·obtain rfl:i = L:=by omega
   obtain ⟨HI2,HI3,HI4⟩:=HI.out
   have hval:val B32 o = V / 2 ^ s:=by
    rw [HI4]
    refine Nat.mod_eq_of_lt (Nat.lt_of_le_of_lt (Nat.div_le_self _ _) ?_)
    have h1:=z13 (rep B32 V) (z32 z01 V)
    rwa [z0c z01,← HL.out] at h1
   have hu:U32s (fun k => k = w.heap.size) wr (.slice (some ⟨w.heap.size,0,none⟩) i i) o:=by
    have h1:=U32s.of_row hrow (by omega) HI3 (by omega)
    rwa [HI2] at h1
   have CS:=hid (z1p _ _ _ hu)
   rw [hval] at CS
   have HG:=hid hrow.lt
   clear hrow hx HI2 HI3 HI4 hval hu
   go_wp2_with fail
   refine CS.out.mono ?_
   rintro e w' ⟨v',rfl,hu,rfl⟩
   have H:=hid hu
   clear hu
   go_wp2
   all_goals
    go_ret2
    refine ⟨_,rfl,?_,HX.out⟩
    rw [← HV.out]
    refine H.out.to (Kept.refl _ _) (fun k hk => ?_)
    subst hk
    exact ⟨Nat.le_refl _,HG.out⟩
end
section
open Go.RowKit
theorem zd9 {S:Nat → Prop} (v:Value) (zs:List Nat) (w:World) (h:U32s S w v zs) (hS:∀ k,S k → k < w.heap.size) (hr:zs.length ≤ 50000000000000) :
  Calls Tryz.prog 127 #[v] w fun e w' => ∃ g,e = .returned (.slice (some ⟨g,0,none⟩) (rep B32 (val B32 zs)).length (rep B32 (val B32 zs)).length) ∧ w.heap.size ≤ g ∧ g < w'.heap.size ∧
   w'.rowIs g 148 (rep B32 (val B32 zs)).length (rowU (rep B32 (val B32 zs))) ∧ Ext w w':=by
 have hle:(rep B32 (val B32 zs)).length ≤ zs.length:=z0d z01 _ _ (z13 zs h.lt)
 have H:=hid h
 obtain ⟨a,cap,rfl⟩:=h.form
 clear h
 have hmk:=fun (n:Nat) (hn:n ≤ 50000000000000) (W:World) => run_make_row' (P:=Tryz.prog) 24 148 (.int .u32 0) 4 Tryz.underlying24 Tryz.infoU32 rfl .i64 .i64 n (by omega) (by omega) W
 go_enter Tryz.func127,Tryz.ntmps127
 go_wp2_with fail
 refine (z1p _ zs _ H.out).mono ?_
 rintro e w' ⟨v',rfl,hu,rfl⟩
 generalize hR:rep B32 (val B32 zs) = R at hu hle
 have HR:=hid hR
 have HU:=hid hu
 obtain ⟨a',c',rfl⟩:=hu.form
 have hmk1:=hmk R.length (by omega) w
 have HA:=hid (Ext.alloc (Ext.refl w) (.cells (madeCells #[.int .u32 0] R.length) 148))
 have HUA:=hid (HU.out.to (Kept.alloc hS (.cells (madeCells #[.int .u32 0] R.length) 148)) (fun _ h => h))
 have hc':=HU.out.len_le
 clear hR hu hmk
 go_wp2_with (refine wpList_copy_splice (by rfl) (.tmp 9) (.tmp 10) 24 24 (by rfl) 148 Tryz.underlying24 (by kernel_rfl) (some ⟨w.heap.size,0,none⟩) a' R.length R.length R.length c' (by rfl) (by rfl) w.heap.size 0 (List.replicate R.length (.int .u32 0)) 148 (by rw [heap_alloc_new,zcc]) (R.map uval) (by simp) (fun hp => ⟨rfl,HUA.out.src hp⟩) (by simp) (by intro v hv; obtain ⟨z,_,rfl⟩:=List.mem_map.1 hv; rfl) w.heap.size w HA.out (Nat.le_refl _) ?_; intro w2 hg hb)
 have HG:=hid hg
 have HB:=hid hb
 clear hg hb
 go_wp2
 go_ret
 rw [HR.out]
 have hg:=HG.out.out
 rw [zah _ _ (by simp)] at hg
 refine ⟨_,rfl,Nat.le_refl _,(Array.getElem?_eq_some_iff.1 hg).1,⟨_,hg,by simp,fun i hi => ?_⟩,HB.out⟩
 rw [List.getElem?_toArray,List.getElem?_map,List.getElem?_eq_getElem hi]
 show some (uval R[i]) = some (Value.int .u32 (dg R i:Nat))
 rw [z0k (List.getElem?_eq_getElem hi)]
 rfl
theorem zlb {d m r x Q:Nat} {R o:List Nat} (hd:0 < d) (hm:m < o.length) (hx:dg R m = x) (hq:val B32 (o.drop (m + 1)) = Q) (hr:r < d) (hx2:x < B32) (h:val B32 (R.drop (m + 1)) = d * Q + r) :
  (r * B32 + x) / d < B32 ∧ val B32 (R.drop m) = d * val B32 ((o.set m ((r * B32 + x) / d)).drop m) + (r * B32 + x) % d:=by
 refine ⟨Nat.div_lt_of_lt_mul ?_,?_⟩
 ·have h1:(r + 1) * B32 ≤ d * B32:=Nat.mul_le_mul_right _ hr
  rw [Nat.add_mul,Nat.one_mul] at h1
  omega
 ·rw [z16 R m,h,hx,z16 (o.set m _) m]
  have e1:dg (o.set m ((r * B32 + x) / d)) m = (r * B32 + x) / d:=by unfold dg; rw [List.getElem?_set]; simp [hm]
  have e2:(o.set m ((r * B32 + x) / d)).drop (m + 1) = o.drop (m + 1):=by rw [List.drop_set_of_lt (by omega)]
  rw [e1,e2,hq]
  have e3:=Nat.div_add_mod (r * B32 + x) d
  rw [Nat.mul_add,Nat.mul_add,Nat.mul_left_comm d B32 Q]
  have e4:B32 * r = r * B32:=Nat.mul_comm _ _
  omega
theorem zon {S:Nat → Prop} (v:Value) (zs:List Nat) (d:Nat) (w:World) (h:U32s S w v zs) (hS:∀ k,S k → k < w.heap.size) (hr:zs.length ≤ 1000000000000) (hd:0 < d) (hd2:d < B32) :
  Calls Tryz.prog 140 #[v,.int .u32 (d:Nat)] w fun e w' => ∃ v',e = .returned (.tuple #[v',.int .u32 (val B32 zs % d:Nat),.int .i64 0]) ∧ U32s (New w w') w' v' (rep B32 (val B32 zs / d)) ∧ Ext w w':=by
 have hle:(rep B32 (val B32 zs)).length ≤ zs.length:=z0d z01 _ _ (z13 zs h.lt)
 have H:=hid h
 clear h
 have hd0:(d:Int) ≠ 0:=by omega
 have hd64:IntKind.u64.wrap (d:Int) = (d:Int):=z0u (Nat.lt_trans hd2 (by decide))
 have HD:=hid (And.intro hd hd2)
 clear hd hd2
 go_enter Tryz.func140,Tryz.ntmps140
 go_wp2_with fail
 refine (zd9 _ zs _ H.out hS (by omega)).mono ?_
 rintro e w1 ⟨g,rfl,hg1,hg2,hrow,hx⟩
 obtain ⟨L,hL⟩:∃ L,L = (rep B32 (val B32 zs)).length:=⟨_,rfl⟩
 rw [← hL] at hrow hle ⊢
 obtain ⟨V,hV⟩:∃ V,V = val B32 zs:=⟨_,rfl⟩
 rw [← hV] at hrow hL
 have HL:=hid hL
 have HV:=hid hV
 have HX1:=hid hx
 have HR1:=hid hrow
 have HS1:=hid hx.size
 clear hL hV hx hrow
 go_wp2
 go_loopw [7,16] (fun s7 s16 wr => ∃ (i r:Nat) (o:List Nat),s7 = .int .u64 (r:Nat) ∧ s16 = .int .i64 (i:Nat) ∧ i ≤ L ∧ Hid (r < d ∧ o.length = L ∧ (∀ z ∈ o,z < B32) ∧ (∀ j,j < L - i → dg o j = dg (rep B32 V) j) ∧ val B32 ((rep B32 V).drop (L - i)) = d * val B32 (o.drop (L - i)) + r) ∧
  wr.rowIs g 148 L (rowU o) ∧ Ext w wr) (fun s7 s16 _ => L - (intOf s16).toNat)
 case atStart =>
  refine ⟨0,0,rep B32 V,rfl,rfl,Nat.zero_le _,hid ⟨HD.out.1,HL.out.symm,z32 z01 V,fun _ _ => rfl,?_⟩,HR1.out,HX1.out⟩
  rw [List.drop_eq_nil_of_le (by rw [← HL.out]; omega)]
  rfl
 case round =>
  obtain ⟨i,r,o,rfl,rfl,hi,HI,hrow,hx⟩:=hrel
  have HR:=hid hrow
  have HX:=hid hx
  by_cases hlt:i < L
  ·obtain ⟨m,hm⟩:∃ m,m + 1 = L - i:=⟨L - i - 1,by omega⟩
   have hm2:(L:Int) - 1 - (i:Int) = (m:Int):=by omega
   obtain ⟨x,hx1⟩:=z00 (l:=rep B32 V) (j:=m) (by rw [← HL.out]; omega)
   have hxd:=z0k hx1
   have hxb:x < 4294967296:=z32 z01 V x (List.mem_of_getElem? hx1)
   have hc1:wr.cell? ⟨g,m,none⟩ = some (.int .u32 (x:Nat)):=by
    rw [hrow.cell (i:=m) (by omega)]
    show some (Value.int .u32 (dg o m:Nat)) = _
    rw [HI.out.2.2.2.1 m (by omega),hxd]
   have hf1:=hrow.frozen m
   have hx64:IntKind.u64.wrap (x:Int) = (x:Int):=z0u (Nat.lt_trans hxb (by decide))
   have hrb:r < 4294967296:=Nat.lt_trans HI.out.1 HD.out.2
   have hor:=z8x r x hrb hxb
   obtain ⟨t,ht⟩:∃ t,t = r * 4294967296 + x:=⟨_,rfl⟩
   rw [← ht] at hor
   have hsh:IntKind.u64.wrap ((r:Int) * 4294967296) = (r:Int) * 4294967296:=by rw [IntKind.wrap_u64]; omega
   have HT:=hid ht
   have HXD:=hid hxd
   have HXB:=hid hxb
   have hi0:0 ≤ (L:Int) - 1 - (i:Int):=by omega
   have hml:(m:Int) < (L:Int):=by omega
   clear hrow hx hx1 hxd hxb hrb ht
   go_wp2
   obtain ⟨HI1,HI2,HI3,HI4,HI5⟩:=HI.out
   rw [← hm] at HI5
   obtain ⟨q1,q2⟩:=zlb (o:=o) HD.out.1 (by omega) HXD.out rfl HI1 HXB.out HI5
   have ht:=HT.out
   have q1':t / d < 4294967296:=by rw [ht]; exact q1
   have e1:IntKind.u64.wrap ((t:Int) / (d:Int)) % 4294967296 = ((t / d:Nat):Int):=by
    rw [← Int.natCast_ediv,z0u (Nat.lt_trans q1' (by decide))]
    generalize t / d = q at q1'
    omega
   rw [e1]
   refine ⟨⟨i + 1,t % d,o.set m (t / d),by rw [Int.natCast_emod],rfl,by omega,hid ⟨Nat.mod_lt _ HD.out.1,by simp [HI2],?_,?_,?_⟩,z57 HR.out m (t / d) (by omega),HX.out.setCell hg1 _⟩,?_⟩
   ·intro z hz
    rcases List.mem_or_eq_of_mem_set hz with h1 | h1
    ·exact HI3 z h1
    ·rw [h1]; exact q1'
   ·intro j hj
    rw [z9f (by omega),HI4 j (by omega)]
   ·rw [show L - (i + 1) = m by omega,ht]
    exact q2
   ·simp only [intOf]; omega
  ·obtain rfl:i = L:=by omega
   obtain ⟨HI1,HI2,HI3,HI4,HI5⟩:=HI.out
   rw [Nat.sub_self,List.drop_zero,List.drop_zero,z0c z01] at HI5
   have hq:val B32 o = V / d:=by rw [HI5,Nat.mul_add_div HD.out.1,Nat.div_eq_of_lt HI1,Nat.add_zero]
   have hm:r = V % d:=by rw [HI5,Nat.mul_add_mod,Nat.mod_eq_of_lt HI1]
   have hu:U32s (fun k => k = g) wr (.slice (some ⟨g,0,none⟩) i i) o:=by
    have h1:=U32s.of_row hrow (by omega) HI3 (by omega)
    rwa [HI2] at h1
   have CS:=hid (z22 _ _ _ hu (fun k hk => by rw [hk]; exact hrow.lt) (by omega))
   rw [hq] at CS
   have hr32:(r:Int) % 4294967296 = (r:Int):=by have h1:r < 4294967296:=Nat.lt_trans HI1 HD.out.2; omega
   have HM:=hid hm
   clear hrow hx HI1 HI2 HI3 HI4 HI5 hq hm hu
   go_wp2_with fail
   refine CS.out.mono ?_
   rintro e w' ⟨v',rfl,hu,hx2⟩
   have H2:=hid hu
   have HX2:=hid hx2
   clear hu hx2
   go_wp2
   all_goals
    go_ret3
    rw [← HV.out,← HM.out]
    exact ⟨_,rfl,H2.out.to (Kept.refl _ _) (fun k hk => ⟨Nat.le_trans HX.out.size hk.1,hk.2⟩),HX.out.trans HX2.out⟩
end
section
open Go.RowKit
theorem zoo:∀ i:Fin 256,0 < i.val → 1 ≤ (tab8.get! i.val).toNat ∧ (tab8.get! i.val).toNat ≤ 8 ∧ 2 ^ ((tab8.get! i.val).toNat - 1) ≤ i.val ∧ i.val < 2 ^ (tab8.get! i.val).toNat:=by decide +kernel
theorem zro (x:Int) (h0:0 < x) (h1:x < 256) (h:x.toNat < tab8.size):1 ≤ (tab8[x.toNat]'h).toNat ∧ (tab8[x.toNat]'h).toNat ≤ 8 ∧ 2 ^ ((tab8[x.toNat]'h).toNat - 1) ≤ x.toNat ∧ x.toNat < 2 ^ (tab8[x.toNat]'h).toNat:=by
 have:=zoo ⟨x.toNat,by omega⟩
 have e:tab8.get! x.toNat = tab8[x.toNat]'h:=by
  have h2:x.toNat < tab8.data.size:=h
  show tab8.data[x.toNat]! = tab8.data[x.toNat]'h2
  exact getElem!_pos _ _ _
 simp only [e] at this
 exact this (by omega)
theorem zbl (x:Int) (h0:0 < x) (h1:x < 256) (h:x.toNat < tab8.size) (t:Nat) (hv:(tab8[x.toNat]'h).toNat = t):1 ≤ t ∧ t ≤ 8 ∧ 2 ^ (t - 1) ≤ x.toNat ∧ x.toNat < 2 ^ t:=by
 subst hv
 exact zro x h0 h1 h
theorem zgk {x i t j:Nat} (hi:x / 2 ^ j = i) (h1:1 ≤ t) (h2:2 ^ (t - 1) ≤ i) (h3:i < 2 ^ t):2 ^ (t + j - 1) ≤ x ∧ x < 2 ^ (t + j):=by
 have hP:0 < 2 ^ j:=Nat.pow_pos (by decide)
 subst hi
 refine ⟨?_,?_⟩
 ·rw [show t + j - 1 = (t - 1) + j by omega,Nat.pow_add]
  exact Nat.le_trans (Nat.mul_le_mul_right _ h2) (Nat.div_mul_le_self _ _)
 ·rw [Nat.pow_add,← Nat.div_lt_iff_lt_mul hP]
  exact h3
theorem zop (x:Int) (w:World) (h0:0 < x) (h1:x < 4294967296) :
  Calls Tryz.prog 122 #[.int .u32 x] w fun e w' => ∃ k:Nat,e = .returned (.int .i64 (k:Nat)) ∧ 1 ≤ k ∧ k ≤ 32 ∧ 2 ^ (k - 1) ≤ x.toNat ∧ x.toNat < 2 ^ k ∧ w = w':=by
 go_enter Tryz.func122,Tryz.ntmps122
 rcases (show 16777216 ≤ x ∨ 65536 ≤ x ∧ x < 16777216 ∨ 256 ≤ x ∧ x < 65536 ∨ x < 256 by omega) with h | ⟨h,h'⟩ | ⟨h,h'⟩ | h
 ·go_wp2
  go_ret
  simp only [Array.getD_eq_getD_getElem?,List.getElem?_toArray,List.getElem?_cons_succ,List.getElem?_cons_zero,Option.getD_some]
  generalize hv:UInt8.toNat _ = t
  have hi:x.toNat / 2 ^ 24 = (x / 65536 / 256).toNat:=by show x.toNat / 16777216 = _; omega
  obtain ⟨h3,h4,h5,h6⟩:=zbl (x / 65536 / 256) (by omega) (by omega) (by rw [z3s]; omega) t hv
  clear hv
  have P:=hid (zgk hi h3 h5 h6)
  clear h5 h6 hi
  have e:wrap64 (24 + wrap64 (t:Int)) = ((t + 24:Nat):Int):=by unfold wrap64; omega
  exact ⟨t + 24,congrArg (fun n => Ending.returned (Value.int .i64 n)) e,by omega,by omega,P.out.1,P.out.2,trivial⟩
 ·go_wp2
  go_ret
  simp only [Array.getD_eq_getD_getElem?,List.getElem?_toArray,List.getElem?_cons_succ,List.getElem?_cons_zero,Option.getD_some]
  generalize hv:UInt8.toNat _ = t
  have hi:x.toNat / 2 ^ 16 = (x / 65536).toNat:=by show x.toNat / 65536 = _; omega
  obtain ⟨h3,h4,h5,h6⟩:=zbl (x / 65536) (by omega) (by omega) (by rw [z3s]; omega) t hv
  clear hv
  have P:=hid (zgk hi h3 h5 h6)
  clear h5 h6 hi
  have e:wrap64 (16 + wrap64 (t:Int)) = ((t + 16:Nat):Int):=by unfold wrap64; omega
  exact ⟨t + 16,congrArg (fun n => Ending.returned (Value.int .i64 n)) e,by omega,by omega,P.out.1,P.out.2,trivial⟩
 ·go_wp2
  go_ret
  simp only [Array.getD_eq_getD_getElem?,List.getElem?_toArray,List.getElem?_cons_succ,List.getElem?_cons_zero,Option.getD_some]
  generalize hv:UInt8.toNat _ = t
  have hi:x.toNat / 2 ^ 8 = (x / 256).toNat:=by show x.toNat / 256 = _; omega
  obtain ⟨h3,h4,h5,h6⟩:=zbl (x / 256) (by omega) (by omega) (by rw [z3s]; omega) t hv
  clear hv
  have P:=hid (zgk hi h3 h5 h6)
  clear h5 h6 hi
  have e:wrap64 (8 + wrap64 (t:Int)) = ((t + 8:Nat):Int):=by unfold wrap64; omega
  exact ⟨t + 8,congrArg (fun n => Ending.returned (Value.int .i64 n)) e,by omega,by omega,P.out.1,P.out.2,trivial⟩
 ·go_wp2
  go_ret
  simp only [Array.getD_eq_getD_getElem?,List.getElem?_toArray,List.getElem?_cons_succ,List.getElem?_cons_zero,Option.getD_some]
  generalize hv:UInt8.toNat _ = t
  have hi:x.toNat / 2 ^ 0 = x.toNat:=by show x.toNat / 1 = _; omega
  obtain ⟨h3,h4,h5,h6⟩:=zbl x (by omega) (by omega) (by rw [z3s]; omega) t hv
  clear hv
  have P:=hid (zgk hi h3 h5 h6)
  clear h5 h6 hi
  have e:wrap64 (wrap64 (t:Int)) = ((t + 0:Nat):Int):=by unfold wrap64; omega
  exact ⟨t + 0,congrArg (fun n => Ending.returned (Value.int .i64 n)) e,by omega,by omega,P.out.1,P.out.2,trivial⟩
theorem zez {S:Nat → Prop} (v:Value) (zs:List Nat) (w:World) (h:U32s S w v zs) (hr:zs.length ≤ 50000000000000) (h0:0 < val B32 zs) :
  Calls Tryz.prog 100 #[v] w fun e w' => ∃ m k:Nat,e = .returned (.int .i64 (32 * m + k:Nat)) ∧ (rep B32 (val B32 zs)).length = m + 1 ∧ 1 ≤ k ∧ k ≤ 32 ∧ 2 ^ (k - 1) ≤ dg (rep B32 (val B32 zs)) m ∧ dg (rep B32 (val B32 zs)) m < 2 ^ k ∧ w = w':=by
 have hle:(rep B32 (val B32 zs)).length ≤ zs.length:=z0d z01 _ _ (z13 zs h.lt)
 have H:=hid h
 obtain ⟨a,c,rfl⟩:=h.form
 clear h
 go_enter Tryz.func100,Tryz.ntmps100
 go_wp2_with fail
 refine (z1p _ zs _ H.out).mono ?_
 rintro e w' ⟨v',rfl,hu,rfl⟩
 obtain ⟨n,hn⟩:∃ n,n = val B32 zs:=⟨_,rfl⟩
 rw [← hn] at hu hle h0
 have HN:=hid hn
 have HU:=hid hu
 obtain ⟨a',c',rfl⟩:=hu.form
 clear hu hn
 have hl:0 < (rep B32 n).length:=by
  rw [List.length_pos_iff,Ne,z1u z01]
  omega
 obtain ⟨m,hm⟩:∃ m,(rep B32 n).length = m + 1:=⟨(rep B32 n).length - 1,by omega⟩
 obtain ⟨z,hz⟩:=z00 (show m < (rep B32 n).length by omega)
 have hz0:0 < z:=by
  have h1:=zb5 z01 n
  rw [List.getLast?_eq_getElem?,show (rep B32 n).length - 1 = m by omega,hz] at h1
  have:z ≠ 0:=fun e => h1 (by rw [e])
  omega
 obtain ⟨b,off,rfl,-,hn,hm2,-,hzb,hc⟩:=HU.out.cellAt hz
 have HM:=hid hm
 have HZ:=hid hz
 have hb:(((rep B32 n).length:Int) == 0) = false:=by rw [beq_eq_false_iff_ne]; omega
 have hi1:((rep B32 n).length:Int) - 1 = (m:Int):=by omega
 clear hz
 go_wp2_with fail
 refine (zop z _ (by omega) (by omega)).mono ?_
 rintro e w' ⟨k,rfl,hk1,hk2,hk3,hk4,rfl⟩
 rw [Int.toNat_natCast] at hk3 hk4
 have HK:=hid (And.intro hk3 hk4)
 clear hk3 hk4
 go_wp2
 go_ret
 rw [← HN.out]
 refine ⟨m,k,congrArg (fun n => Ending.returned (Value.int .i64 n)) (by push_cast; rfl),HM.out,hk1,hk2,?_,?_,rfl⟩
 ·rw [z0k HZ.out]; exact HK.out.1
 ·rw [z0k HZ.out]; exact HK.out.2
theorem zoq {V m k:Nat} (hl:(rep B32 V).length = m + 1) (hk1:1 ≤ k) (hk2:k ≤ 32) (h1:2 ^ (k - 1) ≤ dg (rep B32 V) m) (h2:dg (rep B32 V) m < 2 ^ k) :
  (rep B32 (V * 2 ^ (32 - k))).length = m + 1 ∧ 2147483648 ≤ dg (rep B32 (V * 2 ^ (32 - k))) m:=by
 have hV:=z0c z01 V
 have hd:=z16 (B:=B32) (rep B32 V) m
 have hs:=z2f (B:=B32) (rep B32 V) m
 rw [hV,hl,show min m (m + 1) = m by omega,hd,List.drop_eq_nil_of_le (by omega),show val B32 [] = 0 from rfl,Nat.mul_zero,Nat.add_zero] at hs
 have hlow:val B32 ((rep B32 V).take m) < B32 ^ m:=by
  have h3:=z13 ((rep B32 V).take m) (fun z hz => z32 z01 V z (List.mem_of_mem_take hz))
  rwa [List.length_take,show min m (rep B32 V).length = m by omega] at h3
 generalize val B32 ((rep B32 V).take m) = lo at hs hlow
 generalize dg (rep B32 V) m = z at hs h1 h2
 have hP:0 < 2 ^ (32 - k):=Nat.pow_pos (by decide)
 have hB:2 ^ k * 2 ^ (32 - k) = B32:=by rw [← Nat.pow_add,show k + (32 - k) = 32 by omega]
 have hH:2 ^ (k - 1) * 2 ^ (32 - k) = 2147483648:=by rw [← Nat.pow_add,show k - 1 + (32 - k) = 31 by omega]
 have hup:V * 2 ^ (32 - k) < B32 ^ (m + 1):=by
  have h3:V < B32 ^ m * 2 ^ k:=by
   have h4:B32 ^ m * (z + 1) ≤ B32 ^ m * 2 ^ k:=Nat.mul_le_mul_left _ h2
   rw [Nat.mul_add,Nat.mul_one] at h4
   omega
  have h5:=Nat.mul_lt_mul_of_pos_right h3 hP
  rwa [Nat.mul_assoc,hB,← Nat.pow_succ] at h5
 have hdn:2147483648 * B32 ^ m ≤ V * 2 ^ (32 - k):=by
  have h3:B32 ^ m * 2 ^ (k - 1) ≤ V:=by
   have h4:B32 ^ m * 2 ^ (k - 1) ≤ B32 ^ m * z:=Nat.mul_le_mul_left _ h1
   omega
  have h5:=Nat.mul_le_mul_right (2 ^ (32 - k)) h3
  rwa [Nat.mul_assoc,hH,Nat.mul_comm] at h5
 have hBm:0 < B32 ^ m:=Nat.pow_pos (by decide)
 have hq:2147483648 ≤ V * 2 ^ (32 - k) / B32 ^ m:=(Nat.le_div_iff_mul_le hBm).2 hdn
 have hle:(rep B32 V).length ≤ (rep B32 (V * 2 ^ (32 - k))).length:=z1q (Nat.le_mul_of_pos_right _ hP)
 have hge:(rep B32 (V * 2 ^ (32 - k))).length ≤ m + 1:=z0d z01 _ _ hup
 refine ⟨by omega,?_⟩
 rw [zl8 (by decide) _ (z32 z01 _),z0c z01,Nat.mod_eq_of_lt (Nat.div_lt_of_lt_mul (by rw [← Nat.pow_succ]; exact hup))]
 exact hq
end
section
open Go.RowKit
theorem zlc {B:Nat} {u:List Nat} (hu:∀ z ∈ u,z < B) (k n:Nat):∀ z ∈ z27 u k n,z < B:=fun z hz => hu z (List.mem_of_mem_drop (List.mem_of_mem_take hz))
theorem zld {B:Nat} {u ps:List Nat} (hu:∀ z ∈ u,z < B) (hp:∀ z ∈ ps,z < B) (k:Nat):∀ z ∈ putL u k ps,z < B:=by
 intro z hz
 unfold putL at hz
 rcases List.mem_append.1 hz with h | h
 ·rcases List.mem_append.1 h with h | h
  ·exact hu z (List.mem_of_mem_take h)
  ·exact hp z h
 ·exact hu z (List.mem_of_mem_drop h)
theorem zgl {B:Nat} {u:List Nat} (hu:∀ z ∈ u,z < B) {k q:Nat} (hq:q < B):∀ z ∈ u.set k q,z < B:=by
 intro z hz
 rcases List.mem_or_eq_of_mem_set hz with h1 | h1
 ·exact hu z h1
 ·rw [h1]; exact hq
theorem zor {u ps:List Nat} {k n:Nat} (hk:k + n < u.length) (hp:ps.length = n + 1):z27 (putL u k ps) k n = ps:=by
 unfold z27 putL
 have hl:(u.take k).length = k:=by rw [List.length_take]; omega
 rw [List.append_assoc,List.drop_append_of_le_length (by omega),List.drop_eq_nil_of_le (by omega),List.nil_append,List.take_append_of_le_length (by omega),List.take_of_length_le (by omega)]
theorem zrp {u ps rs:List Nat} {k n:Nat} (hk:k + n < u.length) (hp:ps.length = n + 1) (hr:rs.length = n + 1):putL (putL u k ps) k rs = putL u k rs:=by
 unfold putL
 have hl:(u.take k).length = k:=by rw [List.length_take]; omega
 have hl2:(u.take k ++ ps).length = k + ps.length:=by rw [List.length_append,hl]
 have e1:(u.take k ++ ps ++ u.drop (k + ps.length)).take k = u.take k:=by
  rw [List.append_assoc,List.take_append_of_le_length (by omega),List.take_of_length_le (by omega)]
 have e2:(u.take k ++ ps ++ u.drop (k + ps.length)).drop (k + rs.length) = u.drop (k + rs.length):=by
  rw [show k + rs.length = (u.take k ++ ps).length by omega,List.drop_left,hl2]
 rw [e1,e2]
theorem zt8 {k n V:Nat} {o vs:List Nat} (ho:∀ z ∈ o,z < B32) (hvs:∀ z ∈ vs,z < B32) (hk:k + (n + 1) < o.length) (lv:vs.length = n + 1) (hV:val B32 vs = V) (hlow:val B32 (o.drop (k + 1)) < V) :
  dg (z27 o k (n + 1)) (n + 1) ≤ dg vs n:=by
 have hVB:V < B32 ^ (n + 1):=by rw [← hV,← lv]; exact z13 vs hvs
 obtain ⟨-,p2,-⟩:=zbk z01 ho hk hVB hlow
 have hs:=z2f (B:=B32) (z27 o k (n + 1)) (n + 1)
 rw [z3o hk,show min (n + 1) (n + 1 + 1) = n + 1 by omega,z16,List.drop_eq_nil_of_le (by rw [z3o hk]; omega),show val B32 [] = 0 from rfl,Nat.mul_zero,Nat.add_zero] at hs
 have hs2:=z2f (B:=B32) vs n
 rw [lv,show min n (n + 1) = n by omega,z16,List.drop_eq_nil_of_le (by omega),show val B32 [] = 0 from rfl,Nat.mul_zero,Nat.add_zero,hV] at hs2
 have hl:val B32 (vs.take n) < B32 ^ n:=by
  have h3:=z13 (vs.take n) (fun z hz => hvs z (List.mem_of_mem_take hz))
  rwa [List.length_take,show min n vs.length = n by omega] at h3
 simp only [Nat.add_zero] at hs
 generalize dg (z27 o k (n + 1)) (n + 1) = t at hs ⊢
 generalize dg vs n = z at hs2 ⊢
 have h1:V < B32 ^ n * (z + 1):=by rw [Nat.mul_add,Nat.mul_one]; omega
 have h2:B32 * V ≤ B32 * (B32 ^ n * (z + 1)):=Nat.mul_le_mul_left _ (Nat.le_of_lt h1)
 have h3:B32 ^ (n + 1) * t < B32 ^ (n + 1) * (z + 1):=by
  rw [Nat.pow_succ,Nat.mul_comm (B32 ^ n) B32,Nat.mul_assoc B32 (B32 ^ n) (z + 1)]
  rw [Nat.pow_succ,Nat.mul_comm (B32 ^ n) B32] at hs
  omega
 have:=Nat.lt_of_mul_lt_mul_left h3
 omega
theorem zii {A V m k q r:Nat} {o qs vs:List Nat} (ho:∀ z ∈ o,z < B32) (hvs:∀ z ∈ vs,z < B32) (hk:k + (m + 2) < o.length) (hkq:k < qs.length) (lv:vs.length = m + 2) (hV:val B32 vs = V) (hV1:2147483648 ≤ dg vs (m + 1))
  (h:NDivAt B32 A V (m + 2) o qs (k + 1)) (ht:r + q * dg vs (m + 1) = dg (z27 o k (m + 2)) (m + 2) * B32 + dg (z27 o k (m + 2)) (m + 1)) (hqB:q < B32) (hc:q * dg vs m ≤ r * B32 + dg (z27 o k (m + 2)) m)
  (hok:z6x B32 (dg (z27 o k (m + 2)) (m + 2) * B32 + dg (z27 o k (m + 2)) (m + 1)) (dg (z27 o k (m + 2)) m) (dg vs (m + 1)) (dg vs m) q)
  {ps:List Nat} {b:Nat} (hb:b ≤ 1) (hpl:ps.length = m + 2 + 1) (hps:∀ z ∈ ps,z < B32) (hp:val B32 ps + q * val B32 vs = val B32 (z27 o k (m + 2)) + B32 ^ (m + 2 + 1) * b) :
  (b = 0 → NDivAt B32 A V (m + 2) (putL o k ps) (qs.set k q) k) ∧
  (b = 1 → 0 < q ∧ ∀ rs:List Nat,rs.length = m + 2 + 1 → val B32 rs = (val B32 ps + val B32 vs) % B32 ^ (m + 2 + 1) → NDivAt B32 A V (m + 2) (putL o k rs) (qs.set k (q - 1)) k):=by
 have hVB:V < B32 ^ (m + 2):=by rw [← hV,← lv]; exact z13 vs hvs
 obtain ⟨-,p2,-⟩:=zbk z01 ho hk hVB h.low
 have hus:=zlc ho k (m + 2)
 obtain ⟨g1,g2⟩:=zex z01 (us:=z27 o k (m + 2)) (vs:=vs) (n:=m + 2) (q:=q) (r:=r) hus hvs (z3o hk) lv (by omega) (show 0 < dg vs (m + 1) by omega) (by rw [hV]; exact p2) ht hqB hc hok
 rw [hV] at g1 g2 hp ⊢
 have hU:val B32 (z27 o k (m + 2)) < B32 ^ (m + 2 + 1):=by rw [← z3o hk]; exact z13 _ hus
 have hP:val B32 ps < B32 ^ (m + 2 + 1):=by rw [← hpl]; exact z13 _ hps
 have hVM:V ≤ B32 ^ (m + 2 + 1):=Nat.le_trans (Nat.le_of_lt hVB) (Nat.pow_le_pow_right (by decide) (by omega))
 have hV0:0 < V:=by
  have:=h.low
  omega
 obtain ⟨d1,d2⟩:=zoh hP hb hp g1 g2 hU hVM
 refine ⟨fun e => ?_,fun e => ?_⟩
 ·obtain ⟨e1,e2⟩:=d1 e
  rw [e1]
  exact zd5 z01 ho hk hkq hVB h hpl e2 hV0
 ·obtain ⟨e0,e1,e2⟩:=d2 e
  refine ⟨e0,fun rs hl hr => ?_⟩
  rw [e1]
  exact zd5 z01 ho hk hkq hVB h hl (hr.trans e2) hV0
theorem zf2 {A V n La s lu Bv:Nat} {o qs:List Nat} (ho:∀ z ∈ o,z < B32) (lo:o.length = La + 1) (hA:val B32 o = A * 2 ^ s) (lA:(rep B32 A).length = La) (hn:1 ≤ n) (hla:n ≤ La) (hV:V = Bv * 2 ^ s) (lB:(rep B32 Bv).length = n) (hq:qs.length = La + 1 - n) (_h:lu = 0) :
  NDivAt B32 (A * 2 ^ s) V n o qs (La + 1 - n):=by
 refine ⟨?_,?_⟩
 ·rw [List.drop_eq_nil_of_le (by omega),show val B32 [] = 0 from rfl,Nat.mul_zero,Nat.mul_zero,Nat.add_zero,hA]
 ·have hs:=z2f (B:=B32) o (La + 1 - n)
  rw [lo,show min (La + 1 - n) (La + 1) = La + 1 - n by omega,hA] at hs
  have h1:A < B32 ^ La:=by rw [← lA]; have:=z13 (rep B32 A) (z32 z01 A); rwa [z0c z01] at this
  have h2:B32 ^ (n - 1) ≤ Bv:=by
   by_cases h:B32 ^ (n - 1) ≤ Bv
   ·exact h
   ·have:=z0d z01 Bv (n - 1) (by omega)
    omega
  have hP:0 < 2 ^ s:=Nat.pow_pos (by decide)
  have h3:A * 2 ^ s < B32 ^ (La + 1 - n) * V:=by
   rw [hV]
   have h4:B32 ^ La * 2 ^ s ≤ B32 ^ (La + 1 - n) * (Bv * 2 ^ s):=by
    rw [← Nat.mul_assoc]
    refine Nat.mul_le_mul_right _ ?_
    have e:B32 ^ La = B32 ^ (La + 1 - n) * B32 ^ (n - 1):=by rw [← Nat.pow_add,show La + 1 - n + (n - 1) = La by omega]
    rw [e]
    exact Nat.mul_le_mul_left _ h2
   exact Nat.lt_of_lt_of_le (Nat.mul_lt_mul_of_pos_right h1 hP) h4
  have h5:B32 ^ (La + 1 - n) * val B32 (o.drop (La + 1 - n)) < B32 ^ (La + 1 - n) * V:=by omega
  exact Nat.lt_of_mul_lt_mul_left h5
theorem zos {w:World} {T:TypeId} {g k n cap:Nat} {o:List Nat} (hrow:w.rowIs g T cap (rowU o)) (ho:∀ z ∈ o,z < B32) (hk:k + n < o.length) (hc:o.length ≤ cap) (hcap:cap ≤ 9223372036854775807) :
  U32s (fun j => j = g) w (.slice (some ⟨g,k,none⟩) (n + 1) (n + 1)) (z27 o k n):=by
 refine ⟨g,k,⟨_,n + 1,by rw [z3o hk],by rw [z3o hk]; omega,by unfold maxLen; omega,fun _ => rfl,fun _ => rfl⟩,fun j z hz => ⟨zlc ho k n z (List.mem_of_getElem? hz),?_⟩⟩
 have hj:=z03 hz
 rw [z3o hk] at hj
 rw [hrow.cell (i:=k + j) (by omega)]
 show some (Value.int .u32 (dg o (k + j):Nat)) = _
 rw [← z9r (n:=n) hj,z0k hz]
end
section
open Go.RowKit
theorem zle (w:World) (lo hi:Nat) (T:TypeId) (h1:lo < B32) (h2:hi < B32):U32s (Old (w.alloc (.cells #[.int .u32 lo,.int .u32 hi] T))) (w.alloc (.cells #[.int .u32 lo,.int .u32 hi] T)) (.slice (some ⟨w.heap.size,0,none⟩) 2 2) [lo,hi]:=by
 refine ⟨w.heap.size,0,⟨_,2,rfl,Nat.le_refl _,by decide,fun _ => rfl,fun _ => by show w.heap.size < (w.alloc _).heap.size; rw [size_alloc]; omega⟩,fun j z hj => ?_⟩
 have hj2:=z03 hj
 simp only [List.length_cons,List.length_nil] at hj2
 match j,hj with
 | 0,hj =>
  obtain rfl:lo = z:=by simpa using hj
  exact ⟨h1,z02 _ _ _ rfl rfl⟩
 | 1,hj =>
  obtain rfl:hi = z:=by simpa using hj
  exact ⟨h2,z02 _ _ _ rfl rfl⟩
 | j + 2,_ => omega
theorem z9s (x:Nat) (w:World) (hx:x < 18446744073709551616) :
  Calls Tryz.prog 141 #[.int .u64 (x:Nat)] w fun e w' => ∃ v',e = .returned v' ∧ U32s (New w w') w' v' (rep B32 x) ∧ Ext w w':=by
 obtain ⟨lo,hlo⟩:∃ lo,lo = x % 4294967296:=⟨_,rfl⟩
 obtain ⟨hi,hhi⟩:∃ hi,hi = x / 4294967296:=⟨_,rfl⟩
 have q1:(x:Int) % 4294967296 = (lo:Int):=by omega
 have q2:(x:Int) / 4294967296 = (hi:Int):=by omega
 have hb1:lo < 4294967296:=by omega
 have hb2:hi < 4294967296:=by omega
 have q3:(hi:Int) % 4294967296 = (hi:Int):=by omega
 have hv:val B32 [lo,hi] = x:=by
  show lo + 4294967296 * (hi + 4294967296 * 0) = x
  omega
 have HC:=hid (z22 _ [lo,hi] _ (zle w lo hi 148 hb1 hb2) (fun _ h => h) (by simp))
 rw [hv] at HC
 have HX1:=hid (Ext.alloc (Ext.refl w) (.cells #[.int .u32 lo,.int .u32 hi] 148))
 clear hv hlo hhi
 go_enter Tryz.func141,Tryz.ntmps141
 go_wp2_with fail
 with_reducible refine HC.out.mono ?_
 rintro e w1 ⟨v1,rfl,hp1,hx1⟩
 have HP1:=hid (hp1.to (S':=New w w1) (Kept.refl _ _) (fun k h => ⟨Nat.le_trans HX1.out.size h.1,h.2⟩))
 have HX2:=hid (HX1.out.trans hx1)
 clear hp1 hx1
 go_wp2
 all_goals
  go_ret
  exact ⟨_,rfl,HP1.out,HX2.out⟩
end
section
open Go.RowKit
def zbm (A B:Nat) (w:World):Ending → World → Prop:=fun e w' =>
 ∃ vq vr,e = .returned (.tuple #[vq,vr,.int .i64 0]) ∧ U32s (New w w') w' vq (rep B32 (A / B)) ∧ U32s (New w w') w' vr (rep B32 (A % B)) ∧ Ext w w'
theorem zij {S:Nat → Prop} (va vb:Value) (xs ys:List Nat) (w:World) (ha:U32s S w va xs) (hb:U32s S w vb ys) (hS:∀ k,S k → k < w.heap.size) (hr:xs.length ≤ 100000000000) (hr2:ys.length ≤ 100000000000) (hlt:val B32 xs < val B32 ys) :
  Calls Tryz.prog 128 #[va,vb] w (zbm (val B32 xs) (val B32 ys) w):=by
 have HA:=hid ha
 have HB:=hid hb
 have HLT:=hid hlt
 clear ha hb hlt
 go_enter Tryz.func128,Tryz.ntmps128
 go_wp2_with fail
 refine (z22 _ xs _ HA.out hS (by omega)).mono ?_
 rintro e w1 ⟨v1,rfl,hu1,hx1⟩
 have HA1:=hid hu1
 have HX1:=hid hx1
 clear hu1 hx1
 go_wp2_with fail
 refine (z22 _ ys w1 (HB.out.ext HX1.out hS) (fun k hk => Nat.lt_of_lt_of_le (hS k hk) HX1.out.size) (by omega)).mono ?_
 rintro e w2 ⟨v2,rfl,hu2,hx2⟩
 have HX2:=hid (HX1.out.trans hx2)
 have HA2:=hid (HA1.out.to (S':=Old w2) (Kept.ext hx2 (fun _ h => h.2)) (fun k h => Nat.lt_of_lt_of_le h.2 hx2.size))
 have HA3:=hid (HA1.out.to (S':=New w w2) (Kept.ext hx2 (fun _ h => h.2)) (fun k h => ⟨h.1,Nat.lt_of_lt_of_le h.2 hx2.size⟩))
 have HB2:=hid (hu2.to (S':=Old w2) (Kept.refl _ _) (fun k h => h.2))
 obtain ⟨a2,c2,rfl⟩:=hu2.form
 clear hu2 hx2
 have hl0:(((rep B32 (val B32 ys)).length:Int) == 0) = false:=by
  have h1:rep B32 (val B32 ys) ≠ []:=by
   rw [Ne,z1u z01]
   have:=HLT.out
   omega
  have h2:=List.length_pos_iff.2 h1
  rw [beq_eq_false_iff_ne]
  omega
 have CC:=hid (z9c _ _ _ _ w2 HA2.out HB2.out (fun _ h => h))
 have hcmp:cmpN (val B32 (rep B32 (val B32 xs))) (val B32 (rep B32 (val B32 ys))) = -1:=by
  rw [z0c z01,z0c z01]
  unfold cmpN cmpI
  have:=HLT.out
  rw [if_pos (by omega)]
 rw [hcmp] at CC
 go_wp2_with fail
 refine CC.out.mono ?_
 rintro e w3 ⟨rfl,hx3⟩
 have HX3:=hid hx3
 clear hx3
 go_wp2
 all_goals
  go_ret3
  refine ⟨_,_,rfl,?_,?_,HX2.out.trans HX3.out⟩
  ·rw [Nat.div_eq_of_lt HLT.out]
   exact U32s.nilv _ _ _ _ (by omega)
  ·rw [Nat.mod_eq_of_lt HLT.out]
   exact HA3.out.to (Kept.ext HX3.out (fun _ h => h.2)) (fun k h => ⟨h.1,Nat.lt_of_lt_of_le h.2 HX3.out.size⟩)
theorem zf3 {S:Nat → Prop} (va vb:Value) (xs ys:List Nat) (w:World) (ha:U32s S w va xs) (hb:U32s S w vb ys) (hS:∀ k,S k → k < w.heap.size) (hr:xs.length ≤ 100000000000) (hr2:ys.length ≤ 100000000000) (hge:val B32 ys ≤ val B32 xs) (h1:(rep B32 (val B32 ys)).length = 1) :
  Calls Tryz.prog 128 #[va,vb] w (zbm (val B32 xs) (val B32 ys) w):=by
 have HA:=hid ha
 have HB:=hid hb
 have HGE:=hid hge
 have HLA:Hid ((rep B32 (val B32 xs)).length ≤ xs.length):=hid (z0d z01 _ _ (z13 xs ha.lt))
 obtain ⟨d,hd⟩:∃ d,rep B32 (val B32 ys) = [d]:=by
  match h:rep B32 (val B32 ys),h1 with
  | [d],_ => exact ⟨d,rfl⟩
 have hdb:d < B32:=z32 z01 (val B32 ys) d (by rw [hd]; exact List.mem_singleton.2 rfl)
 have hv:val B32 ys = d:=by
  have h2:=z0c z01 (val B32 ys)
  rw [hd] at h2
  rw [← h2]
  simp [val]
 have hd0:0 < d:=by
  rcases Nat.eq_zero_or_pos d with h | h
  ·rw [hv,h] at hd
   simp [z2k] at hd
  ·exact h
 obtain ⟨r,hr0⟩:∃ r,r = val B32 xs % d:=⟨_,rfl⟩
 have hrb:r < 18446744073709551616:=by rw [hr0]; exact Nat.lt_trans (Nat.lt_trans (Nat.mod_lt _ hd0) hdb) (by decide)
 have hd64:IntKind.u64.wrap (r:Int) = (r:Int):=z0u hrb
 have HRB:=hid hrb
 have HR0:=hid hr0
 have HD:=hid (And.intro hd (And.intro hdb (And.intro hv hd0)))
 clear ha hb hge h1 hd hdb hv hd0 hr0 hrb
 go_enter Tryz.func128,Tryz.ntmps128
 go_wp2_with fail
 refine (z22 _ xs _ HA.out hS (by omega)).mono ?_
 rintro e w1 ⟨v1,rfl,hu1,hx1⟩
 have HA1:=hid hu1
 have HX1:=hid hx1
 clear hu1 hx1
 go_wp2_with fail
 refine (z22 _ ys w1 (HB.out.ext HX1.out hS) (fun k hk => Nat.lt_of_lt_of_le (hS k hk) HX1.out.size) (by omega)).mono ?_
 rintro e w2 ⟨v2,rfl,hu2,hx2⟩
 rw [HD.out.1] at hu2
 have HX2:=hid (HX1.out.trans hx2)
 have HA2:=hid (HA1.out.to (S':=Old w2) (Kept.ext hx2 (fun _ h => h.2)) (fun k h => Nat.lt_of_lt_of_le h.2 hx2.size))
 have HB2:=hid (hu2.to (S':=Old w2) (Kept.refl _ _) (fun k h => h.2))
 obtain ⟨a2,c2,rfl⟩:=hu2.form
 obtain ⟨b2,o2,rfl,-,hn2,hm2,hs2,hb2,hcell⟩:=hu2.cellAt (k:=0) (z:=d) rfl
 rw [Nat.add_zero] at hcell
 have HS2:=hid hs2.2
 clear hu2 hx2 hs2
 have CC:=hid (z9c _ _ _ _ w2 HA2.out HB2.out (fun _ h => h))
 obtain ⟨c,hc⟩:∃ c,c = cmpN (val B32 (rep B32 (val B32 xs))) (val B32 [d]):=⟨_,rfl⟩
 have hcmp:0 ≤ c:=by
  have e:val B32 [d] = d:=by simp [val]
  rw [hc,z0c z01,e,← HD.out.2.2.1]
  unfold cmpN cmpI
  have:=HGE.out
  split
  ·omega
  ·split <;> omega
 rw [← hc] at CC
 clear hc
 go_wp2_with fail
 refine CC.out.mono ?_
 rintro e w3 ⟨rfl,hx3⟩
 have hcell3:=hx3.cell hcell
 have HX3:=hid (HX2.out.trans hx3)
 have HA3:=hid (HA2.out.to (S':=Old w3) (Kept.ext hx3 (fun _ h => h)) (fun k h => Nat.lt_of_lt_of_le h hx3.size))
 have CL:=hid (zon _ _ d w3 HA3.out (fun _ h => h) (by have:=HLA.out; omega) HD.out.2.2.2 HD.out.2.1)
 rw [z0c z01,← HR0.out] at CL
 clear hx3 hcell
 go_wp2_with fail
 refine CL.out.mono ?_
 rintro e w4 ⟨v4,rfl,hu4,hx4⟩
 have HU4:=hid hu4
 have HX4:=hid hx4
 clear hu4 hx4
 have CS:=hid (z9s r w4 HRB.out)
 go_wp2_with fail
 refine CS.out.mono ?_
 rintro e w5 ⟨v5,rfl,hu5,hx5⟩
 have HU5:=hid hu5
 have HX5:=hid hx5
 clear hu5 hx5
 go_wp2
 all_goals
  go_ret3
  have x3:=HX3.out
  have x4:=HX4.out
  have x5:=HX5.out
  refine ⟨_,_,rfl,?_,?_,(x3.trans x4).trans x5⟩
  ·rw [HD.out.2.2.1]
   exact HU4.out.to (Kept.ext x5 (fun _ h => h.2)) (fun k h => ⟨Nat.le_trans x3.size h.1,Nat.lt_of_lt_of_le h.2 x5.size⟩)
  ·rw [HD.out.2.2.1,← HR0.out]
   exact HU5.out.to (Kept.refl _ _) (fun k h => ⟨Nat.le_trans (Nat.le_trans x3.size x4.size) h.1,h.2⟩)
end
section
open Go.RowKit
theorem zf4 {S:Nat → Prop} (va vb:Value) (xs ys:List Nat) (w:World) (ha:U32s S w va xs) (hb:U32s S w vb ys) (hS:∀ k,S k → k < w.heap.size) (hr:xs.length ≤ 100000000000) (hr2:ys.length ≤ 100000000000) (hge:val B32 ys ≤ val B32 xs) (m:Nat) (h2:(rep B32 (val B32 ys)).length = m + 2) :
  Calls Tryz.prog 128 #[va,vb] w (zbm (val B32 xs) (val B32 ys) w):=by
 have HA:=hid ha
 have HB:=hid hb
 have HLA:Hid ((rep B32 (val B32 xs)).length ≤ xs.length):=hid (z0d z01 _ _ (z13 xs ha.lt))
 have HLB:Hid ((rep B32 (val B32 ys)).length ≤ ys.length):=hid (z0d z01 _ _ (z13 ys hb.lt))
 have HAB:Hid ((rep B32 (val B32 ys)).length ≤ (rep B32 (val B32 xs)).length):=hid (z1q hge)
 obtain ⟨A,hA⟩:∃ A,A = val B32 xs:=⟨_,rfl⟩
 obtain ⟨D,hD⟩:∃ D,D = val B32 ys:=⟨_,rfl⟩
 rw [← hA] at hge HLA HAB ⊢
 rw [← hD] at hge h2 HLB HAB ⊢
 have HAE:=hid hA
 have HDE:=hid hD
 have HGE:=hid hge
 obtain ⟨La,hLa⟩:∃ La,La = (rep B32 A).length:=⟨_,rfl⟩
 rw [← hLa,h2] at HAB
 rw [← hLa] at HLA
 rw [h2] at HLB
 have hla1:m + 2 ≤ La:=HAB.out
 have hla2:La ≤ 100000000000:=Nat.le_trans HLA.out hr
 have HLL:=hid hLa
 have HL2:=hid h2
 have hD0:0 < D:=by
  rcases Nat.eq_zero_or_pos D with h | h
  ·rw [h,z2k] at h2
   cases h2
  ·exact h
 have HD0:=hid hD0
 clear ha hb hge hLa h2 hD0 hA hD
 go_enter Tryz.func128,Tryz.ntmps128
 go_wp2_with fail
 refine (z22 _ xs _ HA.out hS (by omega)).mono ?_
 rintro e w1 ⟨v1,rfl,hu1,hx1⟩
 rw [← HAE.out] at hu1
 have HA1:=hid hu1
 have HX1:=hid hx1
 clear hu1 hx1
 go_wp2_with fail
 refine (z22 _ ys w1 (HB.out.ext HX1.out hS) (fun k hk => Nat.lt_of_lt_of_le (hS k hk) HX1.out.size) (by omega)).mono ?_
 rintro e w2 ⟨v2,rfl,hu2,hx2⟩
 rw [← HDE.out] at hu2
 have HX2:=hid (HX1.out.trans hx2)
 have HA2:=hid (HA1.out.to (S':=Old w2) (Kept.ext hx2 (fun _ h => h.2)) (fun k h => Nat.lt_of_lt_of_le h.2 hx2.size))
 have HB2:=hid (hu2.to (S':=Old w2) (Kept.refl _ _) (fun k h => h.2))
 obtain ⟨a2,c2,rfl⟩:=hu2.form
 rw [HL2.out] at HB2 ⊢
 obtain ⟨a1,c1,rfl⟩:=HA2.out.form
 rw [← HLL.out] at HA2 ⊢
 clear hu2 hx2 HA1
 have CC:=hid (z9c _ _ _ _ w2 HA2.out HB2.out (fun _ h => h))
 obtain ⟨c,hc⟩:∃ c,c = cmpN (val B32 (rep B32 A)) (val B32 (rep B32 D)):=⟨_,rfl⟩
 have hcmp:0 ≤ c:=by
  rw [hc,z0c z01,z0c z01]
  unfold cmpN cmpI
  have:=HGE.out
  split
  ·omega
  ·split <;> omega
 rw [← hc] at CC
 clear hc
 go_wp2_with fail
 refine CC.out.mono ?_
 rintro e w3 ⟨rfl,hx3⟩
 have HX3:=hid (HX2.out.trans hx3)
 have HA3:=hid (HA2.out.to (S':=Old w3) (Kept.ext hx3 (fun _ h => h)) (fun k h => Nat.lt_of_lt_of_le h hx3.size))
 have HB3:=hid (HB2.out.to (S':=Old w3) (Kept.ext hx3 (fun _ h => h)) (fun k h => Nat.lt_of_lt_of_le h hx3.size))
 have CB:=hid (zez _ _ w3 HB3.out (by rw [HL2.out]; omega) (by rw [z0c z01]; exact HD0.out))
 rw [z0c z01] at CB
 clear hx3
 go_wp2_with fail
 refine CB.out.mono ?_
 rintro e w3' ⟨m',k,rfl,hm',hk1,hk2,ht1,ht2,rfl⟩
 obtain rfl:m' = m + 1:=by have:=HL2.out; omega
 obtain ⟨s,hs⟩:∃ s,s = 32 - k:=⟨_,rfl⟩
 have HN:=hid (zoq HL2.out hk1 hk2 ht1 ht2)
 rw [← hs,show m + 1 + 1 = m + 2 from rfl] at HN
 have hs32:s < 32:=by omega
 have hsh:32 * ((m:Int) + 2) - (32 * ((m:Int) + 1) + (k:Int)) = (s:Int):=by omega
 clear ht1 ht2 hs
 have CV:=hid (zl9 _ _ s w3 HB3.out (fun _ h => h) (by rw [HL2.out]; omega) hs32)
 rw [z0c z01,HL2.out,HN.out.1] at CV
 go_wp2_with fail
 refine CV.out.mono ?_
 rintro e w4 ⟨gv,rfl,hgv1,hgv2,hrv,hx4⟩
 have HX4:=hid (HX3.out.trans hx4)
 have HGV:=hid (And.intro hgv1 hgv2)
 have HRV:=hid hrv
 have HA4:=hid (HA3.out.to (S':=Old w4) (Kept.ext hx4 (fun _ h => h)) (fun k h => Nat.lt_of_lt_of_le h hx4.size))
 clear hx4 hgv1 hgv2 hrv
 have CU:=hid (zl9 _ _ s w4 HA4.out (fun _ h => h) (by rw [← HLL.out]; omega) hs32)
 rw [z0c z01,← HLL.out] at CU
 go_wp2_with fail
 refine CU.out.mono ?_
 rintro e w5 ⟨gu,rfl,hgu1,hgu2,hru,hx5⟩
 obtain ⟨lu,hlu⟩:∃ lu,lu = (rep B32 (A * 2 ^ s)).length:=⟨_,rfl⟩
 rw [← hlu]
 have hlu1:lu ≤ La + 1:=by
  rw [hlu]
  refine z0d z01 _ _ ?_
  have h1:A < B32 ^ La:=by
   have h2:=z13 (rep B32 A) (z32 z01 A)
   rwa [z0c z01,← HLL.out] at h2
  have h3:2 ^ s ≤ B32:=show 2 ^ s ≤ 2 ^ 32 from Nat.pow_le_pow_right (by decide) (by omega)
  rw [Nat.pow_succ]
  exact Nat.lt_of_lt_of_le (Nat.mul_lt_mul_of_pos_right h1 (Nat.pow_pos (by decide))) (Nat.mul_le_mul_left _ h3)
 have hlu2:La ≤ lu:=by
  rw [hlu,HLL.out]
  exact z1q (Nat.le_mul_of_pos_right _ (Nat.pow_pos (by decide)))
 have HLU:=hid hlu
 have HRU:=hid hru
 have HGU:=hid (And.intro hgu1 hgu2)
 have HX5:=hid hx5
 clear hlu hru hgu1 hgu2 hx5
 go_wp2
 go_loopw [13] (fun s13 wr => ∃ l:Nat,s13 = .slice (some ⟨gu,0,none⟩) l (La + 1) ∧ lu ≤ l ∧ l ≤ La + 1 ∧ wr.rowIs gu 148 (La + 1) (rowU (rep B32 (A * 2 ^ s))) ∧ Ext w4 wr) (fun s13 _ => La + 1 - (z15 s13))
 case atStart => exact ⟨lu,rfl,Nat.le_refl _,hlu1,HRU.out,HX5.out⟩
 case round =>
  obtain ⟨l,rfl,hl1,hl2,hrow,hx⟩:=hrel
  have HR:=hid hrow
  have HX:=hid hx
  clear hrow hx
  by_cases hlt:l ≤ La
  ·have hra:=HR.out.alloc (.cells #[.int .u32 0] 148)
   have hfz:=hra.frozen l
   have hfc:=hra.cell (i:=l) (by omega)
   have HRA:=hid hra
   clear hra
   go_wp2
   refine ⟨⟨l + 1,rfl,by omega,by omega,?_,?_⟩,by simp only [z15]; omega⟩
   ·refine (HRA.out.set l (.int .u32 0)).congr (fun i hi => ?_)
    by_cases e:i = l
    ·rw [if_pos e,e]
     unfold rowU
     rw [z2a (by rw [← HLU.out]; exact hl1)]
     rfl
    ·rw [if_neg e]
   ·exact (Ext.alloc HX.out _).setCell HGU.out.1 _
  ·obtain rfl:l = La + 1:=by omega
   obtain ⟨nq,hnq⟩:∃ nq,nq = La + 1 - (m + 2):=⟨_,rfl⟩
   have hnq2:(La:Int) + 1 - ((m:Int) + 2) = (nq:Int):=by omega
   have hnq3:nq + (m + 2) = La + 1:=by omega
   have hmk:=run_make_row' (P:=Tryz.prog) 24 148 (.int .u32 0) 4 Tryz.underlying24 Tryz.infoU32 rfl .i64 .i64 nq (by omega) (by omega) wr
   have HQ0:=hid (z6b wr nq 148)
   have HQX:=hid (Ext.alloc HX.out (.cells (madeCells #[.int .u32 0] nq) 148))
   have HQU:=hid (HR.out.alloc (.cells (madeCells #[.int .u32 0] nq) 148))
   have HGW:=hid HR.out.lt
   have HXS:=hid HX.out.size
   have HVW:=hid (World.rowIs.of_block HRV.out (HQX.out.block gv HGV.out.2))
   obtain ⟨gq,hgq⟩:∃ gq,gq = wr.heap.size:=⟨_,rfl⟩
   obtain ⟨w6,hw6⟩:∃ w6,w6 = wr.alloc (.cells (madeCells #[.int .u32 0] nq) 148):=⟨_,rfl⟩
   rw [← hw6,← hgq] at hmk HQ0
   rw [← hw6] at HQX HQU HVW
   rw [← hgq] at HGW HXS
   clear hnq hgq hw6
   go_wp2
   obtain ⟨V,hV⟩:∃ V,V = D * 2 ^ s:=⟨_,rfl⟩
   obtain ⟨vs,hvs⟩:∃ vs,vs = rep B32 V:=⟨_,rfl⟩
   have hvv:val B32 vs = V:=by rw [hvs,z0c z01]
   have hvl:∀ z ∈ vs,z < B32:=by rw [hvs]; exact z32 z01 V
   rw [← hV,← hvs] at HN HVW
   have HVS:=hid (And.intro hvv hvl)
   have HVE:=hid hV
   clear hV hvs hvv hvl
   go_loopw [87] (fun s87 wq => ∃ (i:Nat) (o qs:List Nat),s87 = .int .i64 (i:Nat) ∧ i ≤ nq ∧ Hid (o.length = La + 1 ∧ (∀ z ∈ o,z < B32) ∧ qs.length = nq ∧ (∀ z ∈ qs,z < B32) ∧ NDivAt B32 (A * 2 ^ s) V (m + 2) o qs (nq - i)) ∧
    wq.rowIs gu 148 (La + 1) (rowU o) ∧ wq.rowIs gq 148 nq (rowU qs) ∧ wq.rowIs gv 148 (m + 2 + 1) (rowU vs) ∧ Ext w4 wq) (fun s87 _ => nq - (intOf s87).toNat)
   case atStart =>
    obtain ⟨ro,hro⟩:∃ ro,ro = rep B32 (A * 2 ^ s):=⟨_,rfl⟩
    obtain ⟨o,ho⟩:∃ o,o = ro ++ List.replicate (La + 1 - lu) 0:=⟨_,rfl⟩
    have hrl:ro.length = lu:=by rw [hro]; exact HLU.out.symm
    have hol:o.length = La + 1:=by rw [ho,List.length_append,List.length_replicate,hrl]; omega
    have hob:∀ z ∈ o,z < B32:=by
     intro z hz
     rw [ho] at hz
     rcases List.mem_append.1 hz with h | h
     ·rw [hro] at h
      exact z32 z01 _ z h
     ·rw [(List.mem_replicate.1 h).2]; decide
    have hov:val B32 o = A * 2 ^ s:=by rw [ho,z2x,z76,Nat.mul_zero,Nat.add_zero,hro,z0c z01]
    refine ⟨0,o,List.replicate nq 0,rfl,Nat.zero_le _,hid ⟨hol,hob,by simp,fun z hz => by rw [(List.mem_replicate.1 hz).2]; decide,?_⟩,?_,HQ0.out,HVW.out,HQX.out⟩
    ·have h1:=zf2 (A:=A) (V:=V) (n:=m + 2) (La:=La) (s:=s) (Bv:=D) (lu:=0) (qs:=List.replicate nq 0) hob hol hov HLL.out.symm (by omega) hla1 HVE.out HL2.out (by simp; omega) rfl
     rwa [show La + 1 - (m + 2) = nq by omega] at h1
    ·rw [z7f (zqg hob _ hov)]
     exact HQU.out
   case round =>
    obtain ⟨i,o,qs,rfl,hi,HI,hrow,hrq,hrv,hx⟩:=hrel
    have HRO:=hid hrow
    have HRQ:=hid hrq
    have HRW:=hid hrv
    have HXQ:=hid hx
    by_cases hlt:i < nq
    ·obtain ⟨j,hj⟩:∃ j,j + 1 = nq - i:=⟨nq - i - 1,by omega⟩
     have hj2:(nq:Int) - 1 - (i:Int) = (j:Int):=by omega
     obtain ⟨p,hp⟩:∃ p,p = j + (m + 2) + 1:=⟨_,rfl⟩
     have hj3:(j:Int) + ((m:Int) + 2) + 1 = (p:Int):=by omega
     have hj4:p ≤ La + 1:=by omega
     have hj5:j ≤ p:=by omega
     have hj6:p - j = m + 2 + 1:=by omega
     have HP:=hid hp
     clear hp
     have HJ:=hid hj
     clear hrow hrq hrv hx
     have HO:=hid (And.intro HI.out.1 HI.out.2.1)
     have hkn:j + (m + 2) < o.length:=by rw [HO.out.1]; omega
     have HKN:=hid hkn
     have hcap:La + 1 ≤ 9223372036854775807:=by omega
     have hdiv:NDivAt B32 (A * 2 ^ s) V (m + 2) o qs (j + 1):=by rw [hj]; exact HI.out.2.2.2.2
     have HDIV:=hid hdiv
     have HUP:=hid (zos HRO.out HO.out.2 hkn (by rw [HO.out.1]; omega) hcap)
     have HVP:Hid (U32s (fun j => j = gv) wr (.slice (some ⟨gv,0,none⟩) (m + 2) (m + 2 + 1)) vs):=hid (by
      have h1:=U32s.of_row HRW.out (by rw [HN.out.1]; omega) HVS.out.2 (by omega)
      rwa [HN.out.1] at h1)
     have CG:=hid (zl1 (S:=Old wr) _ _ _ _ m wr (HUP.out.to (Kept.refl _ _) (fun k hk => by rw [hk]; exact HRO.out.lt)) (HVP.out.to (Kept.refl _ _) (fun k hk => by rw [hk]; exact HRW.out.lt)) (fun _ h => h) (z3o hkn) HN.out.1 HN.out.2
      (zt8 HO.out.2 HVS.out.2 hkn HN.out.1 HVS.out.1 hdiv.low))
     clear hkn hdiv hj
     go_wp2_with fail
     refine CG.out.mono ?_
     rintro e w7 ⟨q,r,rfl,hx7,hq7,ht7,hc7,hok7⟩
     have HX7:=hid hx7
     have HRO7:=hid (HRO.out.of_block (hx7.block gu HRO.out.lt))
     have HRQ7:=hid (HRQ.out.of_block (hx7.block gq HRQ.out.lt))
     have HRW7:=hid (HRW.out.of_block (hx7.block gv HRW.out.lt))
     have HVP7:=hid (HVP.out.to (Kept.ext hx7 (fun k hk => by rw [hk]; exact HRW.out.lt)) (fun k h => h))
     have HQ7:=hid (And.intro ht7 (And.intro hc7 hok7))
     have HQB:=hid hq7
     have CO:=hid (zrm (S:=fun j => j = gv) (w:=w7) (g:=gu) (k:=j) (n:=m + 2) (cap:=La + 1) (q:=q) (o:=o) (vs:=vs) _ HRO7.out (by rw [HO.out.1]; omega) HO.out.2 HKN.out HVP7.out (fun k hk => ⟨by rw [hk]; exact HRW7.out.lt,by rw [hk]; have:=HGV.out.2; have:=HGU.out.1; omega⟩) HN.out.1 hq7 hcap)
     clear hx7 hq7 ht7 hc7 hok7 CG
     go_wp2_with fail
     refine CO.out.mono ?_
     rintro e w8 ⟨ps,b,rfl,hb1,hpl,hps,hpv,hro8,hgb8,hsz8⟩
     have HP8:=hid (And.intro hpl (And.intro hps hpv))
     have HRO8:=hid hro8
     have HGB8:=hid (And.intro hgb8 hsz8)
     have HRQ8:=hid (HRQ7.out.of_block (hgb8.block gq HRQ7.out.lt (fun e => by have:=HGW.out; cases e; omega)))
     have HRW8:=hid (HRW7.out.of_block (hgb8.block gv HRW7.out.lt (fun e => by have:=HGV.out.2; have:=HGU.out.1; cases e; omega)))
     have HX8:=hid (z0j (HXQ.out.trans HX7.out) hgb8 (fun k hk => by cases hk; exact HGU.out.1))
     have HK:=hid (zii HO.out.2 HVS.out.2 HKN.out (by rw [HI.out.2.2.1]; omega) HN.out.1 HVS.out.1 HN.out.2 HDIV.out HQ7.out.1 HQB.out HQ7.out.2.1 HQ7.out.2.2 hb1 hpl hps hpv)
     clear hpl hps hpv hro8 hgb8 hsz8 CO
     rcases (show b = 0 ∨ b = 1 by omega) with rfl | rfl
     ·have hd0:decide ((0:Nat) = 1) = false:=rfl
      have hq32:(q:Int) % 4294967296 = (q:Int):=by have h1:q < 4294967296:=HQB.out; omega
      have hcq:=HRQ8.out.cell (i:=j) (by omega)
      have hfq:=HRQ8.out.frozen j
      go_wp2
      refine ⟨⟨i + 1,putL o j ps,qs.set j q,rfl,by omega,hid ⟨?_,zld HO.out.2 HP8.out.2.1 j,by rw [List.length_set]; exact HI.out.2.2.1,zgl HI.out.2.2.2.1 HQB.out,?_⟩,?_,?_,?_,?_⟩,?_⟩
      ·rw [zbj (by rw [HP8.out.1]; have:=HKN.out; omega)]; exact HO.out.1
      ·rw [show nq - (i + 1) = j by omega]
       exact HK.out.1 (by first | rfl | trivial)
      ·exact HRO8.out.setOther (by have:=HGW.out; show gu ≠ gq; omega) _
      ·exact z57 HRQ8.out j q (by rw [HI.out.2.2.1]; omega)
      ·exact HRW8.out.setOther (by have h1:=HGW.out; have h2:=HGV.out.2; have h3:=HGU.out.1; show gv ≠ gq; omega) _
      ·exact HX8.out.setCell HXS.out _
      ·simp only [intOf]; omega
     ·obtain ⟨hq0,hk⟩:=HK.out.2 rfl
      have HKK:=hid hk
      obtain ⟨q',hq'⟩:∃ q',q' = q - 1:=⟨_,rfl⟩
      have hq1:(q:Int) - 1 = (q':Int):=by omega
      have hqb':q' < B32:=by have:=HQB.out; omega
      have hq64:IntKind.u64.wrap (q':Int) = (q':Int):=z0u (Nat.lt_trans hqb' (by decide))
      have hq32:(q':Int) % 4294967296 = (q':Int):=by have h1:q' < 4294967296:=hqb'; omega
      have HQB':=hid hqb'
      have HQ':=hid hq'
      have hd0:decide ((1:Nat) = 1) = true:=rfl
      clear hqb' hk hq'
      have hol8:(putL o j ps).length = La + 1:=by rw [zbj (by rw [HP8.out.1]; have:=HKN.out; omega)]; exact HO.out.1
      have HVP8:=hid (HVP7.out.to (S':=fun k => k = gv) (show Kept (fun k => k = gv) w7 w8 from fun k hk => by rw [hk]; exact HGB8.out.1.block gv HRW7.out.lt (fun e => by have:=HGV.out.2; have:=HGU.out.1; cases e; omega)) (fun k h => h))
      have CN:=hid (zt6 (S:=fun j => j = gv) (w:=w8) (g:=gu) (k:=j) (n:=m + 2) (cap:=La + 1) (o:=putL o j ps) (vs:=vs) (.slice (some ⟨gv,0,none⟩) (m + 2) (m + 2 + 1)) HRO8.out (by omega) (zld HO.out.2 HP8.out.2.1 j) (by omega) HVP8.out (fun k hk => ⟨by rw [hk]; exact HRW8.out.lt,by rw [hk]; have:=HGV.out.2; have:=HGU.out.1; omega⟩) HN.out.1 hcap)
      have HOL8:=hid hol8
      clear hol8
      go_wp2_with fail
      refine CN.out.mono ?_
      rintro e w9 ⟨rs,rfl,hrl,hrs,hrv9,hro9,hgb9,hsz9⟩
      rw [zor HKN.out HP8.out.1] at hrv9
      rw [zrp HKN.out HP8.out.1 hrl] at hro9
      have HR9:=hid (And.intro hrl (And.intro hrs hrv9))
      have HRO9:=hid hro9
      have HRQ9:=hid (HRQ8.out.of_block (hgb9.block gq HRQ8.out.lt (fun e => by have:=HGW.out; cases e; omega)))
      have HRW9:=hid (HRW8.out.of_block (hgb9.block gv HRW8.out.lt (fun e => by have:=HGV.out.2; have:=HGU.out.1; cases e; omega)))
      have HX9:=hid (z0j HX8.out hgb9 (fun k hk => by cases hk; exact HGU.out.1))
      have hcq:=HRQ9.out.cell (i:=j) (by omega)
      have hfq:=HRQ9.out.frozen j
      clear hrl hrs hrv9 hro9 hgb9 hsz9 CN
      go_wp2
      refine ⟨⟨i + 1,putL o j rs,qs.set j q',rfl,by omega,hid ⟨?_,zld HO.out.2 HR9.out.2.1 j,by rw [List.length_set]; exact HI.out.2.2.1,zgl HI.out.2.2.2.1 HQB'.out,?_⟩,?_,?_,?_,?_⟩,?_⟩
      ·rw [zbj (by rw [HR9.out.1]; have:=HKN.out; omega)]; exact HO.out.1
      ·rw [show nq - (i + 1) = j by omega,HQ'.out]
       exact HKK.out rs HR9.out.1 HR9.out.2.2
      ·exact HRO9.out.setOther (by have:=HGW.out; show gu ≠ gq; omega) _
      ·exact z57 HRQ9.out j q' (by rw [HI.out.2.2.1]; omega)
      ·exact HRW9.out.setOther (by have h1:=HGW.out; have h2:=HGV.out.2; have h3:=HGU.out.1; show gv ≠ gq; omega) _
      ·exact HX9.out.setCell HXS.out _
      ·simp only [intOf]; omega
    ·obtain rfl:i = nq:=by omega
     clear hrow hrq hrv hx
     obtain ⟨I1,I2,I3,I4,I5⟩:=HI.out
     rw [Nat.sub_self] at I5
     have hV0:0 < V:=by rw [HVE.out]; exact Nat.mul_pos HD0.out (Nat.pow_pos (by decide))
     obtain ⟨dq,dr⟩:=zl0 hV0 I5
     have hs2:=zif (a:=A) (b:=D) (c:=2 ^ s) (Nat.pow_pos (by decide))
     have hq:val B32 qs = A / D:=by rw [dq,HVE.out]; exact hs2.1
     have hrest:val B32 (o.take (m + 2)) / 2 ^ s = A % D:=by
      have h1:=z2f (B:=B32) o (m + 2)
      rw [I1,show min (m + 2) (La + 1) = m + 2 by omega] at h1
      have hVB:V < B32 ^ (m + 2):=by rw [← HVS.out.1,← HN.out.1]; exact z13 vs HVS.out.2
      have h2:val B32 o < V:=by rw [dr]; exact Nat.mod_lt _ hV0
      have h3:val B32 (o.drop (m + 2)) = 0:=by
       rcases Nat.eq_zero_or_pos (val B32 (o.drop (m + 2))) with h | h
       ·exact h
       ·have:=Nat.le_mul_of_pos_right (B32 ^ (m + 2)) h
        omega
      rw [h3,Nat.mul_zero,Nat.add_zero] at h1
      rw [← h1,dr,HVE.out,hs2.2,Nat.mul_div_cancel _ (Nat.pow_pos (by decide))]
     have hur:U32s (Old wr) wr (.slice (some ⟨gu,0,none⟩) (m + 2) (La + 1)) (o.take (m + 2)):=by
      have h1:=U32s.of_row HRO.out (by omega) I2 (by omega)
      rw [I1] at h1
      exact (h1.take (by omega)).to (Kept.refl _ _) (fun k hk => by rw [hk]; exact HRO.out.lt)
     have huq:U32s (fun k => k = gq) wr (.slice (some ⟨gq,0,none⟩) i i) qs:=by
      have h1:=U32s.of_row HRQ.out (by omega) I4 (by omega)
      rwa [I3] at h1
     have CR:=hid (zrn _ _ s wr hur (fun _ h => h) (by rw [List.length_take]; omega) hs32)
     rw [hrest] at CR
     have HUQ:=hid huq
     have HLQ:=hid I3
     have HQV:=hid hq
     clear I1 I2 I3 I4 I5 hV0 dq dr hs2 hq hrest hur huq
     go_wp2_with fail
     refine CR.out.mono ?_
     rintro e w7 ⟨v7,rfl,hu7,hx7⟩
     have HU7:=hid hu7
     have HX7:=hid hx7
     have CQ:=hid (z22 _ _ w7 (HUQ.out.to (S':=Old w7) (Kept.ext hx7 (fun k hk => by rw [hk]; exact HRQ.out.lt)) (fun k hk => by rw [hk]; exact Nat.lt_of_lt_of_le HRQ.out.lt hx7.size)) (fun _ h => h) (by have:=HLQ.out; omega))
     rw [HQV.out] at CQ
     clear hu7 hx7 CR
     go_wp2_with fail
     refine CQ.out.mono ?_
     rintro e w8 ⟨v8,rfl,hu8,hx8⟩
     have HU8:=hid hu8
     have HX8:=hid hx8
     clear hu8 hx8 CQ
     go_wp2
     all_goals
      go_ret3
      have x4:=HX4.out
      have x6:=HXQ.out
      have x7:=HX7.out
      have x8:=HX8.out
      refine ⟨_,_,rfl,HU8.out.to (Kept.refl _ _) (fun k h => ⟨Nat.le_trans (Nat.le_trans (Nat.le_trans x4.size x6.size) x7.size) h.1,h.2⟩),HU7.out.to (Kept.ext x8 (fun _ h => h.2)) (fun k h => ⟨Nat.le_trans (Nat.le_trans x4.size x6.size) h.1,Nat.lt_of_lt_of_le h.2 x8.size⟩),((x4.trans x6).trans x7).trans x8⟩
end
section
open Go.RowKit
theorem zlf {S:Nat → Prop} (va vb:Value) (xs ys:List Nat) (w:World) (ha:U32s S w va xs) (hb:U32s S w vb ys) (hS:∀ k,S k → k < w.heap.size) (hr:xs.length ≤ 100000000000) (hr2:ys.length ≤ 100000000000) (h0:0 < val B32 ys) :
  Calls Tryz.prog 128 #[va,vb] w (zbm (val B32 xs) (val B32 ys) w):=by
 by_cases hlt:val B32 xs < val B32 ys
 ·exact zij va vb xs ys w ha hb hS hr hr2 hlt
 ·by_cases h1:(rep B32 (val B32 ys)).length = 1
  ·exact zf3 va vb xs ys w ha hb hS hr hr2 (by omega) h1
  ·have hl:0 < (rep B32 (val B32 ys)).length:=by
    rw [List.length_pos_iff,Ne,z1u z01]
    omega
   exact zf4 va vb xs ys w ha hb hS hr hr2 (by omega) ((rep B32 (val B32 ys)).length - 2) (by omega)
end
section
def sumP (g:PZ):Int:=(g.map (·.1)).foldr (· + ·) 0
def oneP (c:Int) (m:Mono):PZ:=if c = 0 then [] else [(c,m)]
inductive Coll:PZ → PZ → Prop where
 | nil:Coll [] []
 | group (t:Int × Mono) (g r q:PZ) (h:∀ u ∈ g,u.2 = t.2) (hr:∀ u ∈ r.head?,u.2 ≠ t.2) (k:Coll r q):Coll (t :: g ++ r) (oneP (t.1 + sumP g) t.2 ++ q)
theorem zrq {g:PZ} {m:Mono} (h:∀ u ∈ g,u.2 = m) (m':Mono):cf g m' = if m = m' then sumP g else 0:=by
 induction g with
 | nil => simp [cf,sumP]
 | cons u g ih =>
  have h1:=h u (by simp)
  have h2:=ih (fun v hv => h v (by simp [hv]))
  rw [cf,h2,h1]
  have e:sumP (u :: g) = u.1 + sumP g:=rfl
  rw [e]
  split <;> omega
theorem zrr (c:Int) (m m':Mono):cf (oneP c m) m' = if m = m' then c else 0:=by
 unfold oneP
 split
 ·rename_i h; subst h; simp [cf]
 ·simp [cf]
theorem zlg {t:Int × Mono} {g r:PZ} (hm:z0p (t :: g ++ r)) (hf:(t :: g ++ r).Pairwise fun a b => 0 ≤ z0i a.2 b.2) (hr:∀ u ∈ r.head?,u.2 ≠ t.2):∀ u ∈ r,z0i t.2 u.2 = 1:=by
 have ht:=hm t (by simp)
 cases r with
 | nil => intro u hu; simp at hu
 | cons x r =>
  have hx:=hm x (by simp)
  have hne:=hr x (by simp)
  have h1:∀ u ∈ g ++ x :: r,0 ≤ z0i t.2 u.2:=(List.pairwise_cons.1 (show (t :: (g ++ x :: r)).Pairwise _ from hf)).1
  have hxt:z0i t.2 x.2 = 1:=by
   have:=h1 x (by simp)
   rcases z12 ht hx with g | g | g
   ·omega
   ·exact absurd ((z1o ht hx).1 g).symm hne
   ·exact g
  intro u hu
  rcases List.mem_cons.1 hu with rfl | hu'
  ·exact hxt
  ·have hu2:=hm u (by simp [hu'])
   have h2:0 ≤ z0i x.2 u.2:=by
    have:=(List.pairwise_append.1 (show ((t :: g) ++ (x :: r)).Pairwise _ from hf)).2.1
    exact (List.pairwise_cons.1 this).1 u hu'
   rcases z12 hx hu2 with k | k | k
   ·omega
   ·rw [← (z1o hx hu2).1 k]; exact hxt
   ·exact z3m ht hx hu2 hxt k
theorem Coll.can {p q:PZ} (h:Coll p q) (hm:z0p p) (hf:p.Pairwise fun a b => 0 ≤ z0i a.2 b.2):canP q ∧ (∀ m,cf q m = cf p m) ∧ ∀ u ∈ q,∃ v ∈ p,v.2 = u.2:=by
 induction h with
 | nil => exact ⟨z33,fun _ => rfl,fun u hu => by simp at hu⟩
 | group t g r q hg hr k ih =>
  have hmr:z0p r:=fun u hu => hm u (by simp [hu])
  have hfr:=(List.pairwise_append.1 (show ((t :: g) ++ r).Pairwise _ from hf)).2.1
  obtain ⟨i1,i2,i3⟩:=ih hmr hfr
  have hhd:=zlg hm hf hr
  have ht:=hm t (by simp)
  refine ⟨?_,fun m => ?_,fun u hu => ?_⟩
  ·unfold oneP
   split
   ·exact i1
   ·rename_i hne
    refine ⟨fun u hu => ?_,?_⟩
    ·rcases List.mem_append.1 hu with hu | hu
     ·rw [List.mem_singleton.1 hu]; exact ⟨hne,ht⟩
     ·exact i1.1 u hu
    ·refine List.pairwise_cons.2 ⟨fun u hu => ?_,i1.2⟩
     obtain ⟨v,hv,hvu⟩:=i3 u hu
     rw [← hvu]
     exact hhd v hv
  ·rw [z9a,zrr,i2,show t :: g ++ r = (t :: g) ++ r from rfl,z9a,cf,zrq hg]
   split <;> omega
  ·rcases List.mem_append.1 hu with hu | hu
   ·unfold oneP at hu
    split at hu
    ·simp at hu
    ·rw [List.mem_singleton.1 hu]; exact ⟨t,by simp,rfl⟩
   ·obtain ⟨v,hv,hvu⟩:=i3 u hu
    exact ⟨v,by simp [hv],hvu⟩
theorem Coll.norm {p q l:PZ} (h:Coll p q) (hm:z0p p) (hf:p.Pairwise fun a b => 0 ≤ z0i a.2 b.2) (hp:p.Perm l):q = z25 l:=by
 obtain ⟨h1,h2,_⟩:=h.can hm hf
 have hl:z0p l:=fun t ht => hm t (hp.mem_iff.2 ht)
 exact zb7 h1 (z5l hl) (fun m _ => by rw [h2,z8u hl,zqy hp])
def lenI (z:Int):Nat:=(rep B32 z.natAbs).length
theorem z38 {z:Int} {k:Nat} (h:z.natAbs < B32 ^ k):lenI z ≤ k:=z0d z01 _ _ h
theorem zrs (z:Int):z.natAbs < B32 ^ lenI z:=z0s z01 _
theorem z28 {z:Int} {j k:Nat} (h:lenI z ≤ j) (hk:j ≤ k):z.natAbs < B32 ^ k:=Nat.lt_of_lt_of_le (zrs z) (Nat.pow_le_pow_right (by decide) (Nat.le_trans h hk))
theorem z4u (z:Int):(ofI z).mag.length = lenI z:=rfl
theorem z44 {r:RInt} (h:okI r):lenI (valI r) ≤ r.mag.length:=by
 refine z38 ?_
 have:=z13 (B:=B32) r.mag h
 unfold valI
 split <;> simpa using this
def bndZ (k:Nat) (p:PZ):Prop:=∀ t ∈ p,t.1.natAbs < B32 ^ k
theorem bndZ.mono {j k:Nat} {p:PZ} (h:bndZ j p) (hjk:j ≤ k):bndZ k p:=fun t ht => Nat.lt_of_lt_of_le (h t ht) (Nat.pow_le_pow_right (by decide) hjk)
theorem bndZ.append {k:Nat} {p q:PZ} (h:bndZ k p) (h':bndZ k q):bndZ k (p ++ q):=fun t ht => by
 rcases List.mem_append.1 ht with ht | ht
 ·exact h t ht
 ·exact h' t ht
theorem zt9 {k:Nat} {p:PZ} (h:bndZ k p) (m:Mono):(cf p m).natAbs ≤ p.length * B32 ^ k:=by
 induction p with
 | nil => simp [cf]
 | cons t r ih =>
  have h1:=h t (by simp)
  have h2:=ih (fun u hu => h u (by simp [hu]))
  simp only [cf,List.length_cons,Nat.add_mul,Nat.one_mul]
  generalize B32 ^ k = b at *
  generalize r.length * b = c at *
  split <;> omega
theorem zda {k:Nat} {p:PZ} (hm:z0p p) (h:bndZ k p) (hl:p.length < B32 ^ 2):bndZ (k + 2) (z25 p):=by
 intro t ht
 have hc:=(z5l hm).cf_mem ht
 rw [z8u hm] at hc
 have:=zt9 h t.2
 rw [hc] at this
 refine Nat.lt_of_le_of_lt this ?_
 rw [Nat.pow_add,Nat.mul_comm]
 exact Nat.mul_lt_mul_of_pos_left hl (Nat.pow_pos (by decide))
theorem zf5 {z:Int} {g:PZ} {k:Nat} (h0:z.natAbs < B32 ^ k) (h:bndZ k g) (hl:g.length + 1 < B32 ^ 2):lenI (z + sumP g) ≤ k + 2:=by
 refine z38 ?_
 have h1:(sumP g).natAbs ≤ g.length * B32 ^ k:=by
  clear hl
  induction g with
  | nil => simp [sumP]
  | cons u g ih =>
   have h1:=h u (by simp)
   have h2:=ih (fun v hv => h v (by simp [hv]))
   have e:sumP (u :: g) = u.1 + sumP g:=rfl
   rw [e]
   simp only [List.length_cons,Nat.add_mul,Nat.one_mul]
   generalize B32 ^ k = b at *
   generalize g.length * b = c at *
   omega
 rw [Nat.pow_add,Nat.mul_comm]
 have h2:(g.length + 1) * B32 ^ k < B32 ^ 2 * B32 ^ k:=Nat.mul_lt_mul_of_lt_of_le hl (Nat.le_refl _) (Nat.pow_pos (by decide))
 refine Nat.lt_of_le_of_lt ?_ h2
 rw [Nat.add_mul,Nat.one_mul]
 omega
theorem zlh (g:PZ) (t:Int × Mono):sumP (g ++ [t]) = sumP g + t.1:=by
 induction g with
 | nil => simp [sumP]
 | cons u g ih =>
  have e:∀ l,sumP (u :: l) = u.1 + sumP l:=fun _ => rfl
  rw [List.cons_append,e,e,ih]
  omega
end
section
open Go.RowKit
theorem zik {S:Nat → Prop} (va vb:Value) (xs ys:List Nat) (w:World) (ha:U32s S w va xs) (hb:U32s S w vb ys) (hS:∀ k,S k → k < w.heap.size) (hr:xs.length + ys.length ≤ 1000000000000) (hc:xs.length < 24 ∨ ys.length < 24) :
  Calls Tryz.prog 176 #[.int .i64 24,va,vb] w fun e w' => ∃ v',e = .returned v' ∧ U32s (New w w') w' v' (rep B32 (val B32 xs * val B32 ys)) ∧ Ext w w':=by
 have HC:=hid (zih va vb xs ys w ha hb hS hr)
 have hla:=ha.len_le
 have hlb:=hb.len_le
 obtain ⟨aa,ca,rfl⟩:=ha.form
 obtain ⟨a2,cb,rfl⟩:=hb.form
 clear ha hb
 obtain ⟨n,hn⟩:∃ n,n = xs.length:=⟨_,rfl⟩
 obtain ⟨m,hm⟩:∃ n,n = ys.length:=⟨_,rfl⟩
 rw [← hn,← hm] at hc hr
 rw [← hn] at hla
 rw [← hm] at hlb
 rw [← hn,← hm] at HC ⊢
 clear hn hm
 go_enter Tryz.func176,Tryz.ntmps176
 rcases Nat.lt_or_ge n m with h | h
 ·have q0:min (n:Int) (m:Int) = (n:Int):=by omega
  have q1:(n:Int) < 24:=by omega
  go_wp2_with fail
  with_reducible refine HC.out.mono ?_
  rintro e w1 ⟨v1,rfl,hp1,hx1⟩
  have HP1:=hid hp1
  have HX1:=hid hx1
  clear hp1 hx1
  go_wp2
  all_goals
   go_ret
   exact ⟨_,rfl,HP1.out,HX1.out⟩
 ·rcases Nat.lt_or_ge m n with h2 | h2
  ·have q0:min (n:Int) (m:Int) = (m:Int):=by omega
   have q1:(m:Int) < 24:=by omega
   go_wp2_with fail
   with_reducible refine HC.out.mono ?_
   rintro e w1 ⟨v1,rfl,hp1,hx1⟩
   have HP1:=hid hp1
   have HX1:=hid hx1
   clear hp1 hx1
   go_wp2
   all_goals
    go_ret
    exact ⟨_,rfl,HP1.out,HX1.out⟩
  ·obtain rfl:n = m:=by omega
   have q1:(n:Int) < 24:=by omega
   go_wp2_with fail
   with_reducible refine HC.out.mono ?_
   rintro e w1 ⟨v1,rfl,hp1,hx1⟩
   have HP1:=hid hp1
   have HX1:=hid hx1
   clear hp1 hx1
   go_wp2
   all_goals
    go_ret
    exact ⟨_,rfl,HP1.out,HX1.out⟩
def lenN (n:Nat):Nat:=(rep B32 n).length
theorem z6y {zs:List Nat} (h:∀ z ∈ zs,z < B32):lenN (val B32 zs) ≤ zs.length:=z3g h
theorem zot {a b k:Nat} (ha:lenN a + lenN b ≤ k):lenN (a * b) ≤ k:=by
 refine z0d z01 _ k (Nat.lt_of_lt_of_le (Nat.mul_lt_mul'' (z0s z01 a) (z0s z01 b)) ?_)
 rw [← Nat.pow_add]
 exact Nat.pow_le_pow_right (by decide) ha
theorem zli {S:Nat → Prop} (va vb:Value) (xs ys:List Nat) (w:World) (ha:U32s S w va xs) (hb:U32s S w vb ys) (hS:∀ k,S k → k < w.heap.size) (hr:xs.length + ys.length ≤ 1000000000000) (hc:lenN (val B32 xs) < 24 ∨ lenN (val B32 ys) < 24) :
  Calls Tryz.prog 168 #[va,vb] w fun e w' => ∃ v',e = .returned v' ∧ U32s (New w w') w' v' (rep B32 (val B32 xs * val B32 ys)) ∧ Ext w w':=by
 have C1:=hid (z22 va xs w ha hS (by omega))
 have C2:=hid (fun (W:World) (hW:Ext w W) => z22 vb ys W (hb.ext hW hS) (z0a hS hW) (by omega))
 have C3:=hid (fun (W:World) (u v:Value) (hu:U32s (Old W) W u (rep B32 (val B32 xs))) (hv:U32s (Old W) W v (rep B32 (val B32 ys))) => zik u v _ _ W hu hv (fun _ h => h) (by have:=z6y ha.lt; have:=z6y hb.lt; unfold lenN at *; omega) hc)
 simp only [z0c z01] at C3
 obtain ⟨aa,ca,rfl⟩:=ha.form
 obtain ⟨a2,cb,rfl⟩:=hb.form
 clear ha hb
 go_enter Tryz.func168,Tryz.ntmps168
 go_wp2_with fail
 with_reducible refine C1.out.mono ?_
 rintro e w1 ⟨v1,rfl,hp1,hx1⟩
 have HX1:=hid hx1
 have HP1:=hid (hp1.to (S':=Old w1) (Kept.refl _ _) New.lt)
 obtain ⟨a1,c1,rfl⟩:=hp1.form
 clear hp1 hx1
 go_wp2_with fail
 with_reducible refine (C2.out _ HX1.out).mono ?_
 rintro e w2 ⟨v2,rfl,hp2,hx2⟩
 have HX2:=hid (HX1.out.trans hx2)
 have C4:=hid (C3.out w2 _ v2 ((HP1.out.ext hx2 (fun _ h => h)).to (Kept.refl _ _) (fun k h => Nat.lt_of_lt_of_le h hx2.size)) (hp2.to (Kept.refl _ _) New.lt))
 obtain ⟨a3,c3,rfl⟩:=hp2.form
 clear hp2 hx2
 go_wp2_with fail
 with_reducible refine C4.out.mono ?_
 rintro e w3 ⟨v3,rfl,hp3,hx3⟩
 have HX3:=hid (HX2.out.trans hx3)
 have HP3:=hid (hp3.to (S':=New w w3) (Kept.refl _ _) (fun k h => ⟨Nat.le_trans HX2.out.size h.1,h.2⟩))
 clear hp3 hx3
 go_wp2
 all_goals
  go_ret
  exact ⟨_,rfl,HP3.out,HX3.out⟩
theorem zta (xn yn:Bool) (a b:Nat):sg (xn != yn) (a * b) = sg xn a * sg yn b:=by
 unfold sg
 cases xn <;> cases yn <;> simp [Int.neg_mul,Int.mul_neg]
theorem zlj {S:Nat → Prop} (vx vy:Value) (x y:RInt) (w:World) (hx:IntV S w vx x) (hy:IntV S w vy y) (hS:∀ k,S k → k < w.heap.size) (hr:x.mag.length ≤ 100000000000) (hr2:y.mag.length ≤ 100000000000)
  (hc:lenI (valI x) < 24 ∨ lenI (valI y) < 24) :
  Calls Tryz.prog 158 #[vx,vy] w fun e w' => ∃ v',e = .returned v' ∧ IntV (New w w') w' v' (ofI (valI x * valI y)) ∧ Ext w w':=by
 obtain ⟨xn,xs⟩:=x
 obtain ⟨yn,ys⟩:=y
 obtain ⟨vxm,rfl,hxu⟩:=hx
 obtain ⟨vym,rfl,hyu⟩:=hy
 simp only at hxu hyu hr hr2 ⊢
 have hc':lenN (val B32 xs) < 24 ∨ lenN (val B32 ys) < 24:=by
  have e1:lenI (valI ⟨xn,xs⟩) = lenN (val B32 xs):=by
   rw [← z4u]
   unfold ofI valI lenN
   cases xn <;> simp
  have e2:lenI (valI ⟨yn,ys⟩) = lenN (val B32 ys):=by
   rw [← z4u]
   unfold ofI valI lenN
   cases yn <;> simp
  rwa [e1,e2] at hc
 have HCL:=hid hc'
 have HX:=hid hxu
 have HY:=hid hyu
 obtain ⟨ax,cx,rfl⟩:=hxu.form
 obtain ⟨ay,cy,rfl⟩:=hyu.form
 clear hxu hyu hc hc'
 have HK:=hid (Ext.alloc (Ext.alloc (Ext.alloc (Ext.refl w) (.cells #[.bool xn,.slice ax xs.length cx] 26)) (.cells #[.bool yn,.slice ay ys.length cy] 26)) (.cells #[.bool false,.slice none 0 0] 26))
 have HXK:=hid (HX.out.ext HK.out hS)
 have HYK:=hid (HY.out.ext HK.out hS)
 have HSK:=hid (z0a hS HK.out)
 have hsz:w.heap.size + 1 + 1 < (((w.alloc (.cells #[.bool xn,.slice ax xs.length cx] 26)).alloc (.cells #[.bool yn,.slice ay ys.length cy] 26)).alloc (.cells #[.bool false,.slice none 0 0] 26)).heap.size:=by simp
 have HSZ:=hid hsz
 clear hsz
 have HQ:Hid (valI ⟨xn,xs⟩ * valI ⟨yn,ys⟩ = sg (xn != yn) (val B32 xs * val B32 ys)):=hid (by
  rw [zta]
  rfl)
 obtain ⟨b1,b2,b3,b4⟩:=blk3 (Ext.refl (((w.alloc (.cells #[.bool xn,.slice ax xs.length cx] 26)).alloc (.cells #[.bool yn,.slice ay ys.length cy] 26)).alloc (.cells #[.bool false,.slice none 0 0] 26)))
 have c1:=b1 0 _ rfl
 have c2:=b1 1 _ rfl
 have c3:=b2 1 _ rfl
 have c4:=b2 0 _ rfl
 clear b1 b2 b3 b4
 have S0:=znn c1 c2 c3
 have S0':=znn c4 c4 c4
 have HS0:=hid (And.intro S0.1 (And.intro S0.2.1 (And.intro S0.2.2 S0'.1)))
 clear S0 S0' c1 c2 c3 c4
 go_enter Tryz.func158,Tryz.ntmps158
 go_wp2
 have S0:=HS0.out
 have HL:Hid ((rep B32 (val B32 xs * val B32 ys)).length ≤ 50000000000000):=hid (zot (by have h1:=z6y HX.out.lt; have h2:=z6y HY.out.lt; omega))
 obtain ⟨xy,hxy⟩:∃ b,b = (xn != yn):=⟨_,rfl⟩
 rw [← hxy] at HQ
 have hxyq:(!(xn == yn)) = xy:=hxy.symm
 clear hxy
 go_region_held3 (fun W => W.cell? ⟨w.heap.size,0,none⟩ = some (.bool xn) ∧ W.cell? ⟨w.heap.size,1,none⟩ = some (.slice ax xs.length cx) ∧ W.cell? ⟨w.heap.size + 1,1,none⟩ = some (.slice ay ys.length cy) ∧ W.cell? ⟨w.heap.size + 1,0,none⟩ = some (.bool yn)) (first | exact S0 | exact S1 | exact S2 | exact ⟨z0b (z0b S2.1 (ab (by omega))) (ab (by omega)),z0b (z0b S2.2.1 (ab (by omega))) (ab (by omega)),z0b (z0b S2.2.2.1 (ab (by omega))) (ab (by omega)),z0b (z0b S2.2.2.2 (ab (by omega))) (ab (by omega))⟩)
  (first
   | (go_at_call 168; (with_reducible refine (zli _ _ xs ys _ (HX.out.ext (HK.out.drew) hS) (HY.out.ext (HK.out.drew) hS) (z0a hS (HK.out.drew)) (by omega) HCL.out).mono ?_); rintro e w1 ⟨v1,rfl,hu1,hx1⟩; have S1:=And.intro (hx1.cell S0.1) (And.intro (hx1.cell S0.2.1) (And.intro (hx1.cell S0.2.2.1) (hx1.cell S0.2.2.2))); have HX1:=hid hx1; have HU1:=hid hu1; obtain ⟨a1,n1,rfl⟩:=hu1.form; clear hx1 hu1)
   | (go_at_call 104; (with_reducible refine (z4k xy _ _ _ HU1.out New.lt HL.out).mono ?_); rintro e w2 ⟨v2,rfl,⟨vm2,rfl,hu2⟩,hx2⟩; have S2:=And.intro (hx2.cell S1.1) (And.intro (hx2.cell S1.2.1) (And.intro (hx2.cell S1.2.2.1) (hx2.cell S1.2.2.2))); have HX2:=hid hx2; have HU2:=hid hu2; obtain ⟨a2,n2,rfl⟩:=hu2.form; obtain ⟨-,-,d3,d4⟩:=blk3 ((Ext.drew (Ext.refl _)).trans (HX1.out.trans hx2)); have e0:=d3 0 _ rfl; have e1:=d3 1 _ rfl; have HE:=hid (And.intro e0 e1); have f0:=d4 0; have f1:=d4 1; clear d3 d4 hx2 hu2))
 all_goals
  go_wp2
  have hd:=fun x y => z0v x y HE.out.1 HE.out.2
  refine bodyPost_ret (by simp [results,Tryz.results158,go_sem,(hd _ _).1,(hd _ _).2]; rfl) rfl ?_
  have hg:=z3n (w0:=w) (b:=w.heap.size + 1 + 1) rfl HU2.out (HK.out.drew.trans HX1.out) HX2.out (by omega) (Nat.lt_of_lt_of_le HSZ.out HX1.out.size) (.bool (ofI (sg xy (val B32 xs * val B32 ys))).neg) (.slice a2 (ofI (sg xy (val B32 xs * val B32 ys))).mag.length n2)
  rw [HQ.out]
  exact ⟨_,rfl,hg.1,hg.2⟩
end
section
open Go.RowKit
theorem zlk {S:Nat → Prop} (va vb:Value) (xs ys:List Nat) (w:World) (ha:U32s S w va xs) (hb:U32s S w vb ys) (hS:∀ k,S k → k < w.heap.size) (hr:xs.length ≤ 100000000000) (hr2:ys.length ≤ 100000000000) (h0:0 < val B32 ys) (hd:val B32 xs % val B32 ys = 0) :
  Calls Tryz.prog 105 #[va,vb] w fun e w' => ∃ v',e = .returned (.tuple #[v',.int .i64 0]) ∧ U32s (New w w') w' v' (rep B32 (val B32 xs / val B32 ys)) ∧ Ext w w':=by
 have C:=hid (zlf va vb xs ys w ha hb hS hr hr2 h0)
 have HD:=hid hd
 clear ha hb h0 hd
 go_enter Tryz.func105,Tryz.ntmps105
 go_wp2_with fail
 refine C.out.mono ?_
 rintro e w1 ⟨vq,vr,rfl,hq,hr1,hx⟩
 rw [HD.out,z2k] at hr1
 obtain ⟨a,c,rfl⟩:=hr1.form
 have HQ:=hid hq
 have HX:=hid hx
 clear hq hr1 hx
 go_wp2
 all_goals
  go_ret2
  exact ⟨_,rfl,HQ.out,HX.out⟩
theorem zll {S:Nat → Prop} (vx vy:Value) (x y:RInt) (w:World) (hx:IntV S w vx x) (hy:IntV S w vy y) (hS:∀ k,S k → k < w.heap.size) (hr:x.mag.length ≤ 10000000000) (hr2:y.mag.length ≤ 10000000000) :
  Calls Tryz.prog 103 #[vx,vy] w fun e w' => ∃ v',e = .returned v' ∧ IntV (New w w') w' v' (ofI (Int.gcd (valI x) (valI y):Nat)) ∧ Ext w w':=by
 obtain ⟨xn,xs⟩:=x
 obtain ⟨yn,ys⟩:=y
 obtain ⟨vxm,rfl,hxu⟩:=hx
 obtain ⟨vym,rfl,hyu⟩:=hy
 simp only at hxu hyu hr hr2 ⊢
 have HG:Hid (Int.gcd (valI ⟨xn,xs⟩) (valI ⟨yn,ys⟩) = Nat.gcd (val B32 xs) (val B32 ys)):=hid (by
  unfold valI
  cases xn <;> cases yn <;> simp [Int.gcd])
 rw [HG.out]
 have HX:=hid hxu
 have HY:=hid hyu
 obtain ⟨ax,cx,rfl⟩:=hxu.form
 obtain ⟨ay,cy,rfl⟩:=hyu.form
 have HLX:=hid (Nat.le_trans (z6y hxu.lt) hr)
 have HLY:=hid (Nat.le_trans (z6y hyu.lt) hr2)
 clear hxu hyu
 have HK:=hid (Ext.alloc (Ext.alloc (Ext.alloc (Ext.refl w) (.cells #[.bool xn,.slice ax xs.length cx] 26)) (.cells #[.bool yn,.slice ay ys.length cy] 26)) (.cells #[.bool false,.slice none 0 0] 26))
 have hsz:w.heap.size + 1 + 1 < (((w.alloc (.cells #[.bool xn,.slice ax xs.length cx] 26)).alloc (.cells #[.bool yn,.slice ay ys.length cy] 26)).alloc (.cells #[.bool false,.slice none 0 0] 26)).heap.size:=by simp
 have HSZ:=hid hsz
 clear hsz
 obtain ⟨b1,b2,b3,b4⟩:=blk3 (Ext.refl (((w.alloc (.cells #[.bool xn,.slice ax xs.length cx] 26)).alloc (.cells #[.bool yn,.slice ay ys.length cy] 26)).alloc (.cells #[.bool false,.slice none 0 0] 26)))
 have c2:=b1 1 _ rfl
 have c3:=b2 1 _ rfl
 clear b1 b2 b3 b4
 have S0':=znn c2 c3 c3
 have HS0:=hid (And.intro S0'.1 S0'.2.1)
 clear S0' c2 c3
 go_enter Tryz.func103,Tryz.ntmps103
 go_wp2
 have S0:=HS0.out
 go_region_held3 (fun W => W.cell? ⟨w.heap.size,1,none⟩ = some (.slice ax xs.length cx) ∧ W.cell? ⟨w.heap.size + 1,1,none⟩ = some (.slice ay ys.length cy)) (first | exact S0 | exact S1 | exact S2 | exact ⟨z0b (z0b S2.1 (ab (by omega))) (ab (by omega)),z0b (z0b S2.2 (ab (by omega))) (ab (by omega))⟩)
  (first
   | (go_at_call 127; (with_reducible refine (z22 (.slice ax xs.length cx) xs _ (HX.out.ext (HK.out.drew) hS) (z0a hS (HK.out.drew)) (by omega)).mono ?_); rintro e w1 ⟨v1,rfl,hu1,hx1⟩; have S1:=And.intro (hx1.cell S0.1) (hx1.cell S0.2); have HX1:=hid (HK.out.drew.trans hx1); have HU1:=hid (hu1.to (S':=New w w1) (Kept.refl _ _) (New.mono HK.out.drew)); have HX1':=hid hx1; obtain ⟨a1,n1,rfl⟩:=hu1.form; clear hx1 hu1)
   | (go_at_call 127; (with_reducible refine (z22 (.slice ay ys.length cy) ys _ (HY.out.ext HX1.out hS) (z0a hS HX1.out) (by omega)).mono ?_); rintro e w2 ⟨v2,rfl,hu2,hx2⟩; have S2:=And.intro (hx2.cell S1.1) (hx2.cell S1.2); have HX2:=hid (HX1.out.trans hx2); have HX2':=hid (HX1'.out.trans hx2); have HU1':=hid (HU1.out.to (S':=New w w2) (Kept.ext hx2 New.lt) (fun k h => ⟨h.1,Nat.lt_of_lt_of_le h.2 hx2.size⟩)); have HU2:=hid (hu2.to (S':=New w w2) (Kept.refl _ _) (New.mono HX1.out)); obtain ⟨a2,n2,rfl⟩:=hu2.form; clear hx2 hu2))
 all_goals
  clear S0 S1 S2
  obtain ⟨w0,hw0⟩:∃ W,W = (((w.alloc (.cells #[.bool xn,.slice ax xs.length cx] 26)).alloc (.cells #[.bool yn,.slice ay ys.length cy] 26)).alloc (.cells #[.bool false,.slice none 0 0] 26)).drew:=⟨_,rfl⟩
  have HB:=hid (fun (W:World) (h:Ext w0 W) => by
   rw [hw0] at h
   obtain ⟨-,-,d3,d4⟩:=blk3 ((Ext.drew (Ext.refl _)).trans h)
   exact And.intro (d3 0 _ rfl) (And.intro (d3 1 _ rfl) (And.intro (d4 0) (d4 1))))
  have HSZ0:Hid (w.heap.size + 1 + 1 < w0.heap.size):=hid (by rw [hw0]; exact HSZ.out)
  have HX0:Hid (Ext w w0):=hid (by rw [hw0]; exact HK.out.drew)
  rw [← hw0] at HX2'
  obtain ⟨Y,hY⟩:∃ Y,Y = val B32 ys:=⟨_,rfl⟩
  obtain ⟨X,hX⟩:∃ X,X = val B32 xs:=⟨_,rfl⟩
  rw [← hX] at HU1' HLX ⊢
  rw [← hY] at HU2 HLY ⊢
  have HXE:=hid hX
  have HYE:=hid hY
  clear hw0 hX hY HX1' HSZ HS0 HG HK HX1 HU1
  go_wp2
  go_loopg [5,6] Y (fun k s5 s6 wr => ∃ (A:Nat) (a b:Option Addr) (ca cb:Nat),s5 = .slice a (rep B32 A).length ca ∧ s6 = .slice b (rep B32 k).length cb ∧ Hid (Nat.gcd A k = Nat.gcd X Y ∧ lenN A ≤ 10000000000 ∧ lenN k ≤ 10000000000 ∧ U32s (New w wr) wr (.slice a (rep B32 A).length ca) (rep B32 A) ∧ U32s (New w wr) wr (.slice b (rep B32 k).length cb) (rep B32 k) ∧ Ext w0 wr))
  case atStart => exact ⟨X,a1,a2,n1,n2,rfl,rfl,hid ⟨rfl,HLX.out,HLY.out,HU1'.out,HU2.out,HX2'.out⟩⟩
  case round =>
   obtain ⟨A,a,b,ca,cb,rfl,rfl,HI⟩:=hrel
   obtain ⟨lb,hlb⟩:∃ l,l = (rep B32 gk).length:=⟨_,rfl⟩
   obtain ⟨la,hla⟩:∃ l,l = (rep B32 A).length:=⟨_,rfl⟩
   rw [← hlb,← hla] at HI ⊢
   have HLB:=hid hlb
   have HLA:=hid hla
   clear hlb hla
   by_cases h0:gk = 0
   ·subst h0
    have hl0:lb = 0:=by rw [HLB.out]; rfl
    subst hl0
    obtain ⟨I1,I2,I3,I4,I5,I6⟩:=HI.out
    rw [Nat.gcd_zero_right] at I1
    rw [HLA.out] at I4
    have CM:=hid (z4k false _ A wr I4 New.lt (by unfold lenN at I2; omega))
    rw [← HLA.out] at CM
    have HA:=hid I1
    have HX6:=hid I6
    clear I1 I2 I3 I4 I5 I6
    go_wp2_with fail
    refine CM.out.mono ?_
    rintro e w3 ⟨v3,rfl,⟨vm3,rfl,hu3⟩,hx3⟩
    obtain ⟨f0,f1,f2,f3⟩:=HB.out w3 (HX6.out.trans hx3)
    have HX3:=hid hx3
    have HU3:=hid hu3
    have HE:=hid (And.intro f0 f1)
    obtain ⟨a3,n3,rfl⟩:=hu3.form
    clear hu3 hx3
    go_wp2
    all_goals
     have hd:=fun x y => z0v x y HE.out.1 HE.out.2
     refine bodyPost_ret (by simp [results,Tryz.results103,go_sem,(hd _ _).1,(hd _ _).2]; rfl) rfl ?_
     have hg:=z3n (w0:=w) (b:=w.heap.size + 1 + 1) rfl HU3.out (HX0.out.trans HX6.out) HX3.out (by omega) (Nat.lt_of_lt_of_le HSZ0.out HX6.out.size) (.bool (ofI (sg false A)).neg) (.slice a3 (ofI (sg false A)).mag.length n3)
     have e:((Nat.gcd X Y:Nat):Int) = sg false A:=by rw [← HA.out]; rfl
     rw [← HXE.out,← HYE.out,e]
     exact ⟨_,rfl,hg.1,hg.2⟩
   ·have hl0:0 < lb:=by
     rw [HLB.out,List.length_pos_iff,Ne,z1u z01]
     exact h0
    obtain ⟨I1,I2,I3,I4,I5,I6⟩:=HI.out
    have hgk:0 < gk:=by omega
    have CD:=hid (zlf (S:=New w wr) _ _ _ _ wr I4 I5 New.lt (by unfold lenN at I2; omega) (by unfold lenN at I3; omega) (by rw [z0c z01]; omega))
    rw [z0c z01,z0c z01] at CD
    have HI1:=hid (And.intro I1 I3)
    have HI5:=hid I5
    have HX6:=hid I6
    have H0:=hid hgk
    clear h0 I1 I2 I3 I4 I5 I6 hgk
    go_wp2_with fail
    refine CD.out.mono ?_
    rintro e w3 ⟨vq,vr,rfl,hq,hr3,hx3⟩
    have HR3:=hid (hr3.to (S':=New w w3) (Kept.refl _ _) (New.mono (HX0.out.trans HX6.out)))
    have HX3:=hid hx3
    have HB3:=hid (HI5.out.to (S':=New w w3) (Kept.ext hx3 New.lt) (fun k h => ⟨h.1,Nat.lt_of_lt_of_le h.2 hx3.size⟩))
    obtain ⟨ar,nr,rfl⟩:=hr3.form
    clear hq hr3 hx3
    go_wp2
    go_roundg (A % gk)
    case measure => exact Nat.mod_lt _ H0.out
    case rel =>
     refine ⟨gk,b,ar,cb,nr,by rw [HLB.out],rfl,hid ⟨?_,HI1.out.2,?_,?_,HR3.out,HX6.out.trans HX3.out⟩⟩
     ·rw [← HI1.out.1,Nat.gcd_comm A gk,Nat.gcd_rec gk A,Nat.gcd_comm]
     ·exact Nat.le_trans (z1q (Nat.le_of_lt (Nat.mod_lt _ H0.out))) HI1.out.2
     ·rw [← HLB.out]; exact HB3.out
end
section
open Go.RowKit
theorem zou {xn yn:Bool} {a d:Nat} {q:Int} (hd:0 < d) (h:sg xn a = q * sg yn d):a % d = 0 ∧ sg (xn != yn) (a / d) = q:=by
 have key:∀ p:Int,(a:Int) = p * (d:Int) → a % d = 0 ∧ ((a / d:Nat):Int) = p:=by
  intro p hp
  have hd0:(d:Int) ≠ 0:=by omega
  refine ⟨?_,?_⟩
  ·have h1:((a % d:Nat):Int) = 0:=by rw [Int.natCast_emod,hp,Int.mul_emod_left]
   omega
  ·rw [Int.natCast_ediv,hp,Int.mul_ediv_cancel _ hd0]
 unfold sg at h ⊢
 cases xn <;> cases yn <;> simp only [if_true,if_false,Bool.false_eq_true,bne_self_eq_false,Bool.true_bne,Bool.false_bne,Bool.not_true,Bool.not_false] at h ⊢
 ·exact key q h
 ·obtain ⟨h1,h2⟩:=key (-q) (by rw [h,Int.mul_neg,Int.neg_mul])
  exact ⟨h1,by rw [h2,Int.neg_neg]⟩
 ·obtain ⟨h1,h2⟩:=key (-q) (by rw [Int.neg_mul,← h,Int.neg_neg])
  exact ⟨h1,by rw [h2,Int.neg_neg]⟩
 ·refine key q ?_
  rw [Int.mul_neg] at h
  omega
theorem zf6 {S:Nat → Prop} (vx vy:Value) (x y:RInt) (w:World) (hx:IntV S w vx x) (hy:IntV S w vy y) (hS:∀ k,S k → k < w.heap.size) (hr:x.mag.length ≤ 10000000000) (hr2:y.mag.length ≤ 10000000000) (q:Int) (h0:valI y ≠ 0) (hq:valI x = q * valI y) :
  Calls Tryz.prog 69 #[vx,vy] w fun e w' => ∃ v',e = .returned (.tuple #[v',.int .i64 0]) ∧ IntV (New w w') w' v' (ofI q) ∧ Ext w w':=by
 obtain ⟨xn,xs⟩:=x
 obtain ⟨yn,ys⟩:=y
 obtain ⟨vxm,rfl,hxu⟩:=hx
 obtain ⟨vym,rfl,hyu⟩:=hy
 simp only at hxu hyu hr hr2 ⊢
 have hd0:0 < val B32 ys:=by
  rcases Nat.eq_zero_or_pos (val B32 ys) with h | h
  ·exact absurd (by unfold valI; simp [h]) h0
  ·exact h
 have HQ:=hid (zou hd0 (show sg xn (val B32 xs) = q * sg yn (val B32 ys) from hq))
 have HX:=hid hxu
 have HY:=hid hyu
 obtain ⟨ax,cx,rfl⟩:=hxu.form
 obtain ⟨ay,cy,rfl⟩:=hyu.form
 have HLX:=hid (Nat.le_trans (z6y hxu.lt) hr)
 obtain ⟨w0,hw0⟩:∃ W,W = (((w.alloc (.cells #[.bool xn,.slice ax xs.length cx] 26)).alloc (.cells #[.bool yn,.slice ay ys.length cy] 26)).alloc (.cells #[.bool false,.slice none 0 0] 26)):=⟨_,rfl⟩
 have HX0:Hid (Ext w w0):=hid (by rw [hw0]; exact Ext.alloc (Ext.alloc (Ext.alloc (Ext.refl w) _) _) _)
 have HSZ:Hid (w.heap.size + 1 + 1 < w0.heap.size):=hid (by rw [hw0]; simp)
 have HB:=hid (fun (W:World) (h:Ext w0 W) => by
  rw [hw0] at h
  exact blk3 h)
 have CD:=hid (zlk (S:=S) (.slice ax xs.length cx) (.slice ay ys.length cy) xs ys w0 (hxu.ext HX0.out hS) (hyu.ext HX0.out hS) (z0a hS HX0.out) (by omega) (by omega) hd0 HQ.out.1)
 have HD0:=hid hd0
 obtain ⟨b1,b2,-,-⟩:=HB.out w0 (Ext.refl _)
 have c1:=b1 0 _ rfl
 have c2:=b1 1 _ rfl
 have c3:=b2 0 _ rfl
 have c4:=b2 1 _ rfl
 rw [hw0] at c1 c2 c3 c4 CD
 clear hxu hyu h0 hq hd0 b1 b2
 have HW0:=hid hw0
 clear hw0
 go_enter Tryz.func69,Tryz.ntmps69
 go_wp2_with fail
 refine CD.out.mono ?_
 rintro e w1 ⟨v1,rfl,hu1,hx1⟩
 rw [← HW0.out] at hu1 hx1
 obtain ⟨b1,b2,b3,b4⟩:=HB.out w1 hx1
 have d1:=b1 0 _ rfl
 have d3:=b2 0 _ rfl
 have HX1:=hid hx1
 have HL1:Hid ((rep B32 (val B32 xs / val B32 ys)).length ≤ 50000000000000):=hid (by
  have h1:=z1q (Nat.div_le_self (val B32 xs) (val B32 ys))
  have h2:=HLX.out
  unfold lenN at h2
  omega)
 have CM:=hid (z4k (xn != yn) _ _ w1 hu1 New.lt HL1.out)
 rw [HQ.out.2] at CM
 obtain ⟨xy,hxy⟩:∃ b,b = (xn != yn):=⟨_,rfl⟩
 rw [← hxy] at CM
 have hxyq:(!(xn == yn)) = xy:=hxy.symm
 obtain ⟨a1,n1,rfl⟩:=hu1.form
 clear hu1 hx1 b1 b2 b3 b4 hxy
 go_wp2_with fail
 refine CM.out.mono ?_
 rintro e w2 ⟨v2,rfl,⟨vm2,rfl,hu2⟩,hx2⟩
 obtain ⟨-,-,b3,b4⟩:=HB.out w2 (HX1.out.trans hx2)
 have e0:=b3 0 _ rfl
 have e1:=b3 1 _ rfl
 have f0:=b4 0
 have f1:=b4 1
 have HX2:=hid hx2
 have HU2:=hid hu2
 have HE:=hid (And.intro e0 e1)
 obtain ⟨a2,n2,rfl⟩:=hu2.form
 clear hu2 hx2 b3 b4
 go_wp2
 all_goals
  have hd:=fun x y => z0v x y HE.out.1 HE.out.2
  refine bodyPost_ret (by simp [results,Tryz.results69,go_sem,(hd _ _).1,(hd _ _).2]; rfl) rfl ?_
  have hg:=z3n (w0:=w) (b:=w.heap.size + 1 + 1) rfl HU2.out (HX0.out.trans HX1.out) HX2.out (by omega) (Nat.lt_of_lt_of_le HSZ.out HX1.out.size) (.bool (ofI q).neg) (.slice a2 (ofI q).mag.length n2)
  exact ⟨_,rfl,hg.1,hg.2⟩
end
section
open Go.RowKit
end
section
open Go.RowKit
end
section
open Go.RowKit
end
section
open Go.RowKit
end
section
open Go.RowKit
theorem ztb (b:Bool) (n:Nat):sg (!b) n = - sg b n:=by
 unfold sg
 cases b <;> simp
theorem zlm {S:Nat → Prop} (vx:Value) (x:RInt) (w:World) (hx:IntV S w vx x) (hS:∀ k,S k → k < w.heap.size) (hr:x.mag.length ≤ 50000000000000) :
  Calls Tryz.prog 68 #[vx] w fun e w' => ∃ v',e = .returned v' ∧ IntV (New w w') w' v' (ofI (- valI x)) ∧ Ext w w':=by
 obtain ⟨xn,xs⟩:=x
 obtain ⟨vxm,rfl,hxu⟩:=hx
 simp only at hxu hr ⊢
 have HX:=hid hxu
 obtain ⟨ax,cx,rfl⟩:=hxu.form
 have HQ:Hid (- valI ⟨xn,xs⟩ = sg (!xn) (val B32 xs)):=hid (by rw [ztb]; rfl)
 rw [HQ.out]
 obtain ⟨w0,hw0⟩:∃ W,W = (w.alloc (.cells #[.bool xn,.slice ax xs.length cx] 26)).alloc (.cells #[.bool false,.slice none 0 0] 26):=⟨_,rfl⟩
 have HX0:Hid (Ext w w0):=hid (by rw [hw0]; exact Ext.alloc (Ext.alloc (Ext.refl w) _) _)
 have HSZ:Hid (w.heap.size + 1 < w0.heap.size):=hid (by rw [hw0]; simp)
 have HB:=hid (fun (W:World) (h:Ext w0 W) => by
  rw [hw0] at h
  have e1:=h.new_cell (i:=0) (v:=.bool false) rfl
  have e2:=h.new_cell (i:=1) (v:=.slice none 0 0) rfl
  have e3:=h.new_free 0
  have e4:=h.new_free 1
  rw [size_alloc] at e1 e2 e3 e4
  exact And.intro e1 (And.intro e2 (And.intro e3 e4)))
 have CM:=hid (zai (!xn) (.slice ax xs.length cx) xs w0 (hxu.ext HX0.out hS) (z0a hS HX0.out) hr)
 obtain ⟨nx,hnx⟩:∃ b,b = (!xn):=⟨_,rfl⟩
 rw [← hnx] at CM ⊢
 have hnot:(!xn) = nx:=hnx.symm
 rw [hw0] at CM
 have HW0:=hid hw0
 clear hxu hw0 hnx
 go_enter Tryz.func68,Tryz.ntmps68
 go_wp2_with fail
 refine CM.out.mono ?_
 rintro e w2 ⟨v2,rfl,⟨vm2,rfl,hu2⟩,hx2⟩
 rw [← HW0.out] at hu2 hx2
 obtain ⟨e0,e1,f0,f1⟩:=HB.out w2 hx2
 have HX2:=hid hx2
 have HU2:=hid hu2
 have HE:=hid (And.intro e0 e1)
 obtain ⟨a2,n2,rfl⟩:=hu2.form
 clear hu2 hx2
 go_wp2
 all_goals
  have hd:=fun x y => z0v x y HE.out.1 HE.out.2
  refine bodyPost_ret (by simp [results,Tryz.results68,go_sem,(hd _ _).1,(hd _ _).2]; rfl) rfl ?_
  have hg:=z3n (w0:=w) (b:=w.heap.size + 1) rfl HU2.out HX0.out HX2.out (by omega) HSZ.out (.bool (ofI (sg nx (val B32 xs))).neg) (.slice a2 (ofI (sg nx (val B32 xs))).mag.length n2)
  exact ⟨_,rfl,hg.1,hg.2⟩
end
section
open Go.RowKit
def gOf (a b:Int):Int:=if b < 0 then -((Int.gcd a b:Nat):Int) else ((Int.gcd a b:Nat):Int)
theorem z9t (a b:Int) (hb:b ≠ 0):gOf a b ≠ 0 ∧ a = (Rat.divInt a b).num * gOf a b ∧ b = ((Rat.divInt a b).den:Int) * gOf a b:=by
 rw [Rat.num_divInt,Rat.den_divInt,if_neg hb]
 have hg:0 < Int.gcd a b:=Int.gcd_pos_iff.2 (.inr hb)
 have hg2:b.gcd a = a.gcd b:=Int.gcd_comm b a
 rw [hg2]
 have h1:(Int.gcd a b:Int) ∣ a:=Int.gcd_dvd_left ..
 have h2:(Int.gcd a b:Int) ∣ b:=Int.gcd_dvd_right ..
 have h3:Int.gcd a b ∣ b.natAbs:=by
  have h:=Int.natAbs_dvd_natAbs.2 h2
  rwa [Int.natAbs_natCast] at h
 unfold gOf
 generalize Int.gcd a b = g at hg h1 h2 h3 ⊢
 have hz:((b.natAbs / g:Nat):Int) * (g:Int) = (b.natAbs:Int):=by
  rw [← Int.natCast_mul,Nat.div_mul_cancel h3]
 by_cases h:b < 0
 ·rw [if_pos h,Int.sign_eq_neg_one_of_neg h]
  have e:-1 * a / (g:Int) * (g:Int) = -1 * a:=Int.ediv_mul_cancel (Int.dvd_mul_of_dvd_right h1)
  refine ⟨by omega,?_,?_⟩
  ·rw [Int.mul_neg,e]
   omega
  ·rw [Int.mul_neg,hz]
   omega
 ·rw [if_neg h,Int.sign_eq_one_of_pos (by omega)]
  have e:1 * a / (g:Int) * (g:Int) = 1 * a:=Int.ediv_mul_cancel (Int.dvd_mul_of_dvd_right h1)
  refine ⟨by omega,?_,?_⟩
  ·rw [e]
   omega
  ·rw [hz]
   omega
def putQ (a b:Int):Rat:=if b = 0 then Rat.divInt a 1 else Rat.divInt a b
def RatI (S:Nat → Prop) (w:World) (v:Value) (x y:RInt):Prop:=∃ vn vd,v = .agg #[.bool x.neg,vn,.bool y.neg,vd] ∧ U32s S w vn x.mag ∧ U32s S w vd y.mag
def RatQ (S:Nat → Prop) (w:World) (v:Value) (q:Rat):Prop:=RatI S w v (ofI q.num) (ofI (q.den:Int))
theorem ztc {w:World} {b:Nat} {c:Addr} (h:w.frozen? c = false) (x y:Value):((w.setCell ⟨b,0,none⟩ x).setCell ⟨b,1,none⟩ y).frozen? c = false:=z2u (z2u h)
theorem zov (r:RInt):(valI r).natAbs = val B32 r.mag:=by
 unfold valI
 split <;> simp
theorem zqh {S:Nat → Prop} {w:World} {b:Nat} {v:Value} {zs:List Nat} (h:U32s S w v zs) (hb:¬ S b) (x y:Value):U32s S ((w.setCell ⟨b,0,none⟩ x).setCell ⟨b,1,none⟩ y) v zs:=h.to (Kept.set2 hb _ _) (fun _ h => h)
end
section
open Go.RowKit
def QV (S:Nat → Prop) (w:World) (v:Value) (N D:Int):Prop:=∃ vn vd,v = .agg #[.bool (decide (N < 0)),vn,.bool (decide (D < 0)),vd] ∧ Digs S w vn (rep 10 N.natAbs) ∧ Digs S w vd (rep 10 D.natAbs)
theorem QV.to {S S':Nat → Prop} {w w':World} {v:Value} {N D:Int} (h:QV S w v N D) (hk:Kept S w w') (hS:∀ k,S k → S' k):QV S' w' v N D:=by
 obtain ⟨vn,vd,e,h1,h2⟩:=h
 exact ⟨vn,vd,e,h1.to hk hS,h2.to hk hS⟩
abbrev z85 (n:Nat) (w5:World):Nat → Prop:=fun k => n ≤ k ∧ k < w5.heap.size
abbrev q4:Array Value:=#[.bool false,.slice none 0 0,.bool false,.slice none 0 0]
abbrev set4 (w:World) (b:Nat) (x0 x1 x2 x3:Value):World:=(((w.setCell ⟨b,0,none⟩ x0).setCell ⟨b,1,none⟩ x1).setCell ⟨b,2,none⟩ x2).setCell ⟨b,3,none⟩ x3
theorem z52 {S:Nat → Prop} {w:World} {b:Nat} (h:¬ S b) (x0 x1 x2 x3:Value):Kept S w (set4 w b x0 x1 x2 x3):=(((Kept.setCell h _).trans (Kept.setCell h _)).trans (Kept.setCell h _)).trans (Kept.setCell h _)
theorem z1k {w0 w:World} {b:Nat} (hx:Ext w0 w) (hb:w0.heap.size ≤ b) (x0 x1 x2 x3:Value):Ext w0 (set4 w b x0 x1 x2 x3):=(((hx.setCell (p:=⟨b,0,none⟩) hb _).setCell (p:=⟨b,1,none⟩) hb _).setCell (p:=⟨b,2,none⟩) hb _).setCell (p:=⟨b,3,none⟩) hb _
theorem z2s (w:World) (b:Nat) (x0 x1 x2 x3:Value):(set4 w b x0 x1 x2 x3).heap.size = w.heap.size:=by unfold set4; simp only [z06]
def z39 (Y:World) (b:Nat) (x0 x1 x2 x3:Value):Prop:=Y.cell? ⟨b,0,none⟩ = some x0 ∧ Y.cell? ⟨b,1,none⟩ = some x1 ∧ Y.cell? ⟨b,2,none⟩ = some x2 ∧ Y.cell? ⟨b,3,none⟩ = some x3
theorem z49 {w:World} {b:Nat} {u0 u1 u2 u3:Value} (h:z39 w b u0 u1 u2 u3) (x0 x1 x2 x3:Value):z39 (set4 w b x0 x1 x2 x3) b x0 x1 x2 x3:=by
 obtain ⟨c0,c1,c2,c3⟩:=h
 unfold set4
 exact ⟨z0b (z0b (z0b (z1c c0) (ao (by decide))) (ao (by decide))) (ao (by decide)),z0b (z0b (z1c (z0b c1 (ao (by decide)))) (ao (by decide))) (ao (by decide)),z0b (z1c (z0b (z0b c2 (ao (by decide))) (ao (by decide)))) (ao (by decide)),z1c (z0b (z0b (z0b c3 (ao (by decide))) (ao (by decide))) (ao (by decide)))⟩
theorem zf7 {w w5:World} {b n:Nat} {u0 u1 u2 u3 vn vd:Value} {N D:Int} (hb:w.heap.size ≤ b) (hbn:b < n) (hx:Ext w w5) (hc:z39 w5 b u0 u1 u2 u3) (hn:Digs (z85 n w5) w5 vn (rep 10 N.natAbs)) (hd:Digs (z85 n w5) w5 vd (rep 10 D.natAbs)) :
  z39 (set4 w5 b (.bool (decide (N < 0))) vn (.bool (decide (D < 0))) vd) b (.bool (decide (N < 0))) vn (.bool (decide (D < 0))) vd ∧ QV (New w (set4 w5 b (.bool (decide (N < 0))) vn (.bool (decide (D < 0))) vd)) (set4 w5 b (.bool (decide (N < 0))) vn (.bool (decide (D < 0))) vd) (.agg #[.bool (decide (N < 0)),vn,.bool (decide (D < 0)),vd]) N D ∧ Ext w (set4 w5 b (.bool (decide (N < 0))) vn (.bool (decide (D < 0))) vd):=by
 have hk:Kept (z85 n w5) w5 (set4 w5 b (.bool (decide (N < 0))) vn (.bool (decide (D < 0))) vd):=z52 (fun h => by have:=h.1; omega) _ _ _ _
 have hS:∀ k,z85 n w5 k → New w (set4 w5 b (.bool (decide (N < 0))) vn (.bool (decide (D < 0))) vd) k:=fun k h => ⟨by have:=h.1; omega,by rw [z2s]; exact h.2⟩
 exact ⟨z49 hc _ _ _ _,⟨vn,vd,rfl,hn.to hk hS,hd.to hk hS⟩,z1k hx hb _ _ _ _⟩
theorem z8z {n m:Nat} {w w':World} {v:Value} {l:List Nat} (h:Digs (z85 n w) w v l) (hx:Ext w w') (hn:m ≤ n):Digs (z85 m w') w' v l:=h.to (Kept.ext hx (fun k h => h.2)) (fun k h => ⟨Nat.le_trans hn h.1,Nat.lt_of_lt_of_le h.2 hx.size⟩)
theorem z2c {m:Nat} {w w':World} {v:Value} {l:List Nat} (h:Digs (New w w') w' v l) (hn:m ≤ w.heap.size):Digs (z85 m w') w' v l:=h.to (Kept.refl _ _) (fun k h => ⟨Nat.le_trans hn h.1,h.2⟩)
theorem box4_new {w Y:World} {b:Nat} {x0 x1 x2 x3:Value} {T:TypeId} (hb:b = w.heap.size) (h:Ext (w.alloc (.cells #[x0,x1,x2,x3] T)) Y):z39 Y b x0 x1 x2 x3 ∧ (Y.frozen? ⟨b,0,none⟩ = false ∧ Y.frozen? ⟨b,1,none⟩ = false ∧ Y.frozen? ⟨b,2,none⟩ = false ∧ Y.frozen? ⟨b,3,none⟩ = false):=by
 subst hb
 have k0:∀ (i:Nat) (u:Value),#[x0,x1,x2,x3][i]? = some u → Y.cell? ⟨w.heap.size,i,none⟩ = some u:=fun i u hu => h.cell (z02 w _ _ rfl hu)
 have f0:∀ (i:Nat),Y.frozen? ⟨w.heap.size,i,none⟩ = false:=fun i => h.free (by simp only [size_alloc]; omega) (z1n w _ _)
 exact ⟨⟨k0 0 _ rfl,k0 1 _ rfl,k0 2 _ rfl,k0 3 _ rfl⟩,f0 0,f0 1,f0 2,f0 3⟩
theorem zf8 (w:World):Calls Tryz.prog 36 #[.int .i64 1] w fun e w' => ∃ v',e = .returned v' ∧ ZV (New w w') w' v' 1 ∧ Ext w w':=z7d 1 w (by decide)
theorem zrt (w:World):Calls Tryz.prog 36 #[.int .i64 0] w fun e w' => ∃ v',e = .returned v' ∧ ZV (New w w') w' v' 0 ∧ Ext w w':=z7d 0 w (by decide)
def denQ (y:Int):Int:=if y = 0 then 1 else y
theorem zln {z:Int} (h:z18 z = 0):z = 0:=by
 unfold z18 at h
 exact (z5j).1 h
theorem zru (y:Int):denQ y ≠ 0:=by
 unfold denQ
 split
 ·decide
 ·assumption
theorem ztd {S:Nat → Prop} (v:Value) (x y:RInt) (w:World) (h:RatI S w v x y) (hS:∀ k,S k → k < w.heap.size) (hrx:x.mag.length ≤ 100000) (hry:y.mag.length ≤ 100000) :
  Calls Tryz.prog 38 #[v] w fun e w' => ∃ v',e = .returned v' ∧ QV (New w w') w' v' (valI x) (denQ (valI y)) ∧ Ext w w':=by
 obtain ⟨vn,vd,rfl,hn,hd⟩:=h
 have HN:=hid hn
 have HD:=hid hd
 have HRX:=hid hrx
 obtain ⟨an,cn,rfl⟩:=hn.form
 obtain ⟨ad,cd,rfl⟩:=hd.form
 obtain ⟨nx,hnx⟩:∃ n,n = x.mag.length:=⟨_,rfl⟩
 obtain ⟨ny,hny⟩:∃ n,n = y.mag.length:=⟨_,rfl⟩
 rw [← hnx] at HN ⊢
 rw [← hny] at HD ⊢
 obtain ⟨w0,hw0⟩:∃ Y,Y = (w.alloc (.cells #[.bool x.neg,.slice an nx cn,.bool y.neg,.slice ad ny cd] 28)).alloc (.cells #[.bool false,.slice none 0 0,.bool false,.slice none 0 0] 58):=⟨_,rfl⟩
 have HX0:Hid (Ext w w0):=hid (by rw [hw0]; exact (Ext.alloc (Ext.refl _) _).alloc _)
 have HS0:Hid (w0.heap.size = w.heap.size + 2):=hid (by rw [hw0]; simp only [size_alloc])
 have HB:=hid (fun (Y:World) (hY:Ext w0 Y) => by
  rw [hw0] at hY
  exact And.intro (box4_new (b:=w.heap.size) rfl ((Ext.alloc (Ext.refl _) _).trans hY)) (box4_new (b:=w.heap.size + 1) (by rw [size_alloc]) hY))
 have C1:=zcn (S:=S) (.agg #[.bool y.neg,.slice ad ny cd]) y w0 ⟨_,rfl,HD.out.to (Kept.ext HX0.out hS) (fun _ h => h)⟩ (fun k h => Nat.lt_of_lt_of_le (hS k h) HX0.out.size) hry
 have C1:=hid C1
 obtain ⟨D,hDQ⟩:∃ D,D = denQ (valI y):=⟨_,rfl⟩
 rw [← hDQ]
 have HDQ:=hid hDQ
 have HW0:=hid hw0
 clear hDQ hn hd hnx hny hw0 hrx hry
 go_enter Tryz.func38,Tryz.ntmps38
 go_upto_region 1 with fail
 rw [← HW0.out]
 obtain ⟨⟨⟨d0,d1,d2,d3⟩,-⟩,-⟩:=HB.out w0 (Ext.refl _)
 go_wp2_with fail
 with_reducible refine C1.out.mono ?_
 rintro e w1 ⟨v1,rfl,⟨vd1,rfl,hd1⟩,hx1⟩
 have HX1:=hid hx1
 have HD1:=hid hd1
 have CS1:=hid (fun (Y:World) (hY:Ext w1 Y) => z42 (S:=New w0 w1) (.agg #[.bool (decide (valI y < 0)),vd1]) (valI y) Y ⟨vd1,rfl,hd1.to (Kept.ext hY New.lt) (fun _ h => h)⟩)
 obtain ⟨a1,c1,rfl⟩:=hd1.form
 obtain ⟨w2,hw2⟩:∃ Y,Y = w1.alloc (.cells #[.bool (decide (valI y < 0)),.slice a1 (rep 10 (valI y).natAbs).length c1] 56):=⟨_,rfl⟩
 obtain ⟨b3,hb3⟩:∃ b,b = w1.heap.size:=⟨_,rfl⟩
 have HX12:Hid (Ext w1 w2):=hid (by rw [hw2]; exact Ext.alloc (Ext.refl _) _)
 have HB2:=hid (fun (Y:World) (hY:Ext w2 Y) => by
  rw [hw2] at hY
  have q:=new2 hY
  rw [← hb3] at q
  exact q)
 have HB3N:=hid (And.intro hb3 (show b3 < w2.heap.size by rw [hb3,hw2,size_alloc]; omega))
 have HW2:=hid hw2
 have CS:=hid (CS1.out w2 HX12.out)
 clear hx1 hd1 hw2 d0 d1 d2 d3 CS1
 go_upto_region 2 with fail
 rw [← HB3N.out.1]
 rw [← HW2.out]
 obtain ⟨e0,e1,-,-⟩:=HB2.out w2 (Ext.refl _)
 clear hb3
 go_wp2_with fail
 with_reducible refine CS.out.mono ?_
 rintro e w3 ⟨rfl,hx3⟩
 have HX3:=hid hx3
 have HX03:=hid (HX1.out.trans (HX12.out.trans hx3))
 clear hx3 e0 e1
 by_cases hz:valI y = 0
 ·have hsg:z18 (valI y) = 0:=by rw [hz]; rfl
  have HE:Hid (D = 1):=hid (by rw [HDQ.out]; exact if_pos hz)
  rw [hsg]
  have C3:=hid (zf8 w3)
  clear hsg hz
  go_wp2_with fail
  with_reducible refine C3.out.mono ?_
  rintro e w4 ⟨v4,rfl,⟨vd4,rfl,hd4⟩,hx4⟩
  have HD4:=hid hd4
  have HX34:=hid hx4
  obtain ⟨y0,y1,yf0,yf1⟩:=HB2.out w4 (HX3.out.trans hx4)
  obtain ⟨a4,c4,rfl⟩:=hd4.form
  obtain ⟨w5,hw5⟩:∃ Y,Y = (w4.setCell ⟨b3,0,none⟩ (.bool false)).setCell ⟨b3,1,none⟩ (.slice a4 (rep 10 1).length c4):=⟨_,rfl⟩
  have HX05:Hid (Ext w0 w5):=hid (by rw [hw5]; exact (HX03.out.trans hx4).set2 (by rw [HB3N.out.1]; exact HX1.out.size) _ _)
  have HB3:=hid (fun (Y:World) (hY:Ext w5 Y) => by
   have q:w5.cell? ⟨b3,0,none⟩ = some (.bool (decide (D < 0))) ∧ w5.cell? ⟨b3,1,none⟩ = some (.slice a4 (rep 10 D.natAbs).length c4):=by rw [hw5,HE.out]; exact z0v _ _ y0 y1
   exact And.intro (hY.cell q.1) (hY.cell q.2))
  have HDD:Hid (Digs (z85 w0.heap.size w5) w5 (.slice a4 (rep 10 D.natAbs).length c4) (rep 10 D.natAbs)):=hid (by
   rw [HE.out,hw5]
   exact (z2c HD4.out (Nat.le_refl _)).to (Kept.set2 (fun h => by have h1:=h.1; have h2:=HB3N.out.2; have h3:=HX3.out.size; omega) _ _) (fun k h => ⟨Nat.le_trans HX03.out.size h.1,by simp only [z06]; exact h.2⟩))
  have HW5:=hid hw5
  clear hd4 hx4 hw5
  have HXW5:=hid (HX0.out.trans HX05.out)
  have CN:=hid (fun (Y:World) (hY:Ext w5 Y) => zcn (S:=S) (.agg #[.bool x.neg,.slice an nx cn]) x Y ⟨_,rfl,HN.out.to (Kept.ext (HXW5.out.trans hY) hS) (fun _ h => h)⟩ (fun k h => Nat.lt_of_lt_of_le (hS k h) (HXW5.out.trans hY).size) HRX.out)
  have HXD:=hid (show Ext w5 w5.drew from (Ext.refl w5).drew)
  obtain ⟨⟨⟨d0,d1,d2,d3⟩,-⟩,-⟩:=HB.out w5.drew (HX05.out.drew)
  obtain ⟨e0,e1⟩:=HB3.out w5.drew HXD.out
  go_upto_region 4 with fail
  rw [← HW5.out]
  go_cut [] (fun wx => ∃ vn vd,Hid (z39 wx (w.heap.size + 1) (.bool (decide (valI x < 0))) vn (.bool (decide (D < 0))) vd ∧ QV (New w wx) wx (.agg #[.bool (decide (valI x < 0)),vn,.bool (decide (D < 0)),vd]) (valI x) D ∧ Ext w wx))
  case first =>
   go_region_with (first
    | (go_at_call 41; (with_reducible refine (CN.out _ HXD.out).mono ?_); rintro e w7 ⟨v7,rfl,⟨vd7,rfl,hd7⟩,hx7⟩; have HX7:=hid (HXD.out.trans hx7); have HD7:=hid hd7; obtain ⟨-,⟨g0,g1,g2,g3⟩,f0,f1,f2,f3⟩:=HB.out _ (HX05.out.trans HX7.out); obtain ⟨h0,h1⟩:=HB3.out _ HX7.out; obtain ⟨a7,c7,rfl⟩:=hd7.form; clear hx7 hd7)
    | fail)
   all_goals
    go_wp2_with fail
    go_meet
    have hq:=zf7 (w:=w) (w5:=w7) (b:=w.heap.size + 1) (n:=w0.heap.size) (N:=valI x) (D:=D) (Nat.le_succ _) (by rw [HS0.out]; omega) (HXW5.out.trans HX7.out) ⟨g0,g1,g2,g3⟩ (z2c HD7.out (HX05.out.drew.size)) (z8z HDD.out HX7.out (Nat.le_refl _))
    with_reducible exact ⟨_,_,hid hq⟩
  case rest =>
   obtain ⟨vn,vd,HQ⟩:=hcut
   obtain ⟨k0,k1,k2,k3⟩:=HQ.out.1
   go_wp2
   all_goals
    refine bodyPost_ret (v:=.agg #[.bool (decide (valI x < 0)),vn,.bool (decide (D < 0)),vd]) (by simp [results,Tryz.results38,go_sem,k0,k1,k2,k3]) rfl ?_
    exact ⟨_,rfl,HQ.out.2.1,HQ.out.2.2⟩
 ·have hsg:(z18 (valI y) == 0) = false:=by
   rw [beq_eq_false_iff_ne]
   exact fun e => hz (zln e)
  have HE:Hid (D = valI y):=hid (by rw [HDQ.out]; exact if_neg hz)
  have HB3:=hid (fun (Y:World) (hY:Ext w3 Y) => by
   have q:=HB2.out Y (HX3.out.trans hY)
   rw [← HE.out] at q
   exact And.intro q.1 q.2.1)
  have HDD:Hid (Digs (z85 w0.heap.size w3) w3 (.slice a1 (rep 10 D.natAbs).length c1) (rep 10 D.natAbs)):=hid (by
   rw [HE.out]
   exact z8z (z2c HD1.out (Nat.le_refl _)) (HX12.out.trans HX3.out) (Nat.le_refl _))
  clear hz
  have HXW3:=hid (HX0.out.trans HX03.out)
  have CN:=hid (fun (Y:World) (hY:Ext w3 Y) => zcn (S:=S) (.agg #[.bool x.neg,.slice an nx cn]) x Y ⟨_,rfl,HN.out.to (Kept.ext (HXW3.out.trans hY) hS) (fun _ h => h)⟩ (fun k h => Nat.lt_of_lt_of_le (hS k h) (HXW3.out.trans hY).size) HRX.out)
  have HXD:=hid (show Ext w3 w3.drew from (Ext.refl w3).drew)
  obtain ⟨⟨⟨d0,d1,d2,d3⟩,-⟩,-⟩:=HB.out w3.drew (HX03.out.drew)
  obtain ⟨e0,e1⟩:=HB3.out w3.drew HXD.out
  go_upto_region 4 with fail
  go_cut [] (fun wx => ∃ vn vd,Hid (z39 wx (w.heap.size + 1) (.bool (decide (valI x < 0))) vn (.bool (decide (D < 0))) vd ∧ QV (New w wx) wx (.agg #[.bool (decide (valI x < 0)),vn,.bool (decide (D < 0)),vd]) (valI x) D ∧ Ext w wx))
  case first =>
   go_region_with (first
    | (go_at_call 41; (with_reducible refine (CN.out _ HXD.out).mono ?_); rintro e w7 ⟨v7,rfl,⟨vd7,rfl,hd7⟩,hx7⟩; have HX7:=hid (HXD.out.trans hx7); have HD7:=hid hd7; obtain ⟨-,⟨g0,g1,g2,g3⟩,f0,f1,f2,f3⟩:=HB.out _ (HX03.out.trans HX7.out); obtain ⟨h0,h1⟩:=HB3.out _ HX7.out; obtain ⟨a7,c7,rfl⟩:=hd7.form; clear hx7 hd7)
    | fail)
   all_goals
    go_wp2_with fail
    go_meet
    have hq:=zf7 (w:=w) (w5:=w7) (b:=w.heap.size + 1) (n:=w0.heap.size) (N:=valI x) (D:=D) (Nat.le_succ _) (by rw [HS0.out]; omega) (HXW3.out.trans HX7.out) ⟨g0,g1,g2,g3⟩ (z2c HD7.out (HX03.out.drew.size)) (z8z HDD.out HX7.out (Nat.le_refl _))
    with_reducible exact ⟨_,_,hid hq⟩
  case rest =>
   obtain ⟨vn,vd,HQ⟩:=hcut
   obtain ⟨k0,k1,k2,k3⟩:=HQ.out.1
   go_wp2
   all_goals
    refine bodyPost_ret (v:=.agg #[.bool (decide (valI x < 0)),vn,.bool (decide (D < 0)),vd]) (by simp [results,Tryz.results38,go_sem,k0,k1,k2,k3]) rfl ?_
    exact ⟨_,rfl,HQ.out.2.1,HQ.out.2.2⟩
end
end Go.Proofs.YtbfflodidkfphaaGreat
