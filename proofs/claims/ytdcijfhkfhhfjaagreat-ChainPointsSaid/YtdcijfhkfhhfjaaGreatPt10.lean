/- Limbs shifted by less than a limb: to the left. Limbs shifted by less than a limb: to the right. A number by a limb. The bits of a number, exactly. One limb of a quotient, plainly and of rows. Quotient and rest of two numbers: the easy cases. Quotient and rest of two numbers: Knuth's way. Quotient and rest of two numbers. Exact quotients; the greatest common divisor. Exact quotients of whole numbers. Limbs added to others from a place on. Limbs cut in two. The product of numbers of many limbs: by cutting. The product of two whole numbers, of any lengths. A whole number with the other sign. -/
import Derived.ArgAppend
import Derived.Deep.LoopGhost
import Derived.Test.YtdcijfhkfhhfjaaGreatPt9
set_option maxRecDepth 100000
set_option maxHeartbeats 16000000
namespace Go.Proofs.YtdcijfhkfhhfjaaGreat
section
open Go.RowKit
theorem zq0 (s:Nat) (hs:s < 32) (w:World):Calls Tryz.prog 166 #[.int .i64 (s:Nat)] w fun e w' => e = .returned (.bool true) ∧ w = w':=by
 have h1:(0:Int) ≤ (s:Int):=by omega
 have h2:(s:Int) ≤ 31:=by omega
 go_enter Tryz.func166,Tryz.ntmps166
 go_wp2
 all_goals
  go_ret
  exact ⟨congrArg (fun b => Ending.returned (Value.bool b)) (decide_eq_true (by omega)),rfl⟩
theorem zh7 {s:Nat} (hs:s < 32):2 ^ (32 - s) * 2 ^ s = B32:=by
 rw [← Nat.pow_add,show 32 - s + s = 32 by omega]
theorem ztu {x s c:Nat} (hx:x < B32) (hs:s < 32) (hc:c < 2 ^ s):c + x * 2 ^ s % B32 < B32 ∧ x * 2 ^ s / B32 < 2 ^ s ∧ x * 2 ^ s % B32 % 2 ^ s = 0:=by
 have hB:=zh7 hs
 have hP:0 < 2 ^ s:=Nat.pow_pos (by decide)
 rw [← hB,Nat.mul_mod_mul_right,Nat.mul_div_mul_right _ _ hP]
 have hK:x % 2 ^ (32 - s) < 2 ^ (32 - s):=Nat.mod_lt _ (Nat.pow_pos (by decide))
 refine ⟨?_,?_,Nat.mul_mod_left _ _⟩
 ·have h1:(x % 2 ^ (32 - s) + 1) * 2 ^ s ≤ 2 ^ (32 - s) * 2 ^ s:=Nat.mul_le_mul_right _ hK
  rw [Nat.add_mul,Nat.one_mul] at h1
  omega
 ·refine Nat.div_lt_of_lt_mul ?_
  rw [hB]
  exact hx
theorem zyx (s c m:Nat) (hs:s < 32) (hc:c < 2 ^ s) (hm:m < B32) (hd:m % 2 ^ s = 0):bits .or .u32 (c:Int) (m:Int) = ((c + m:Nat):Int):=by
 have hk:∀ n:Int,0 ≤ n → n < 2 ^ 32 → IntKind.u32.wrap n = n:=fun n h0 h1 => by rw [IntKind.wrap_u32]; omega
 have hc32:c < 2 ^ 32:=Nat.lt_of_lt_of_le hc (Nat.pow_le_pow_right (by decide) (by omega))
 have hm32:m < 2 ^ 32:=hm
 rw [(bits_nat .u32 32 (by decide) hk c m hc32 hm32).2,Nat.or_comm]
 have h:=bits_join .u32 32 (by decide) hk s (m:Int) (c:Int) (by omega) (by exact_mod_cast hd) (by exact_mod_cast hm32) (by omega) (by exact_mod_cast hc) (by exact_mod_cast hc32)
 rw [(bits_nat .u32 32 (by decide) hk m c hm32 hc32).2] at h
 rw [h]
 omega
theorem z9d {o o':List Nat} (h:∀ j,dg o j = dg o' j):rowU o = rowU o':=funext fun j => by unfold rowU; rw [h]
theorem zid (o:List Nat) (z j:Nat):dg (o ++ [z]) j = if j < o.length then dg o j else if j = o.length then z else 0:=by
 unfold dg
 rw [List.getElem?_append]
 split
 ·rfl
 ·rename_i h
  split
  ·rename_i h2
   rw [h2,Nat.sub_self]
   rfl
  ·rename_i h2
   rw [List.getElem?_eq_none (by simp; omega)]
   rfl
theorem zq1 {B:Nat} (hB:0 < B) (l:List Nat) (hl:∀ d ∈ l,d < B) (j:Nat):dg l j = val B l / B ^ j % B:=by
 induction l generalizing j with
 | nil => simp [dg,val]
 | cons d l ih =>
  have hd:=hl d (List.mem_cons_self ..)
  cases j with
  | zero =>
   show d = (d + B * val B l) / B ^ 0 % B
   rw [Nat.pow_zero,Nat.div_one,Nat.add_mul_mod_self_left,Nat.mod_eq_of_lt hd]
  | succ j =>
   show dg l j = (d + B * val B l) / B ^ (j + 1) % B
   rw [ih (fun z hz => hl z (List.mem_cons_of_mem _ hz)) j,Nat.pow_succ,Nat.mul_comm (B ^ j) B,← Nat.div_div_eq_div_mul,Nat.add_mul_div_left _ _ hB,Nat.div_eq_of_lt hd,Nat.zero_add]
theorem zv9 {o:List Nat} (ho:∀ z ∈ o,z < B32) (n:Nat) (hn:val B32 o = n) (j:Nat):dg o j = dg (rep B32 n) j:=by
 rw [zq1 (by decide) _ ho,zq1 (by decide) _ (z3q z00 n),z0d z00,hn]
theorem zjr (zs:List Nat) (hl:∀ z ∈ zs,z < B32) {k:Nat} (ht:z2m zs k = z2m zs zs.length):z2m zs k = (rep B32 (val B32 zs)).length:=by
 rw [← z5r z00 zs hl,← List.take_length (l:=zs),← z4v zs _ (Nat.le_refl _),List.take_length,List.length_take,ht]
 have:=zmb zs zs.length
 omega
theorem zh8 {S:Nat → Prop} (a:Option Addr) (cap:Nat) (zs:List Nat) (w:World) (h:U32s S w (.slice a zs.length cap) zs) :
  Calls Tryz.prog 113 #[.slice a zs.length cap] w fun e w' => e = .returned (.slice a (rep B32 (val B32 zs)).length cap) ∧ w = w':=by
 have hl:=h.len_le
 have H:=hid h
 clear h
 go_enter Tryz.func113,Tryz.ntmps113
 go_wp2
 go_loop [0] (fun x => ∃ k:Nat,k ≤ zs.length ∧ x = .slice a k cap ∧ z2m zs k = z2m zs zs.length) (fun x => z1i x)
 case atStart => exact ⟨zs.length,Nat.le_refl _,rfl,rfl⟩
 case round =>
  obtain ⟨k,hk,rfl,ht⟩:=hrel
  cases k with
  | zero =>
   have HT:=hid ht
   clear ht
   go_wp2
   all_goals
    go_ret
    refine ⟨?_,rfl⟩
    rw [← zjr zs H.out.lt HT.out]
    rfl
  | succ k =>
   obtain ⟨z,hz⟩:=z01 (show k < zs.length by omega)
   obtain ⟨b,off,cap',hv,hcap,hmax,hzb,hcell⟩:=H.out.at hz
   obtain ⟨rfl,-,rfl⟩:a = some ⟨b,off,none⟩ ∧ True ∧ cap = cap':=by simpa using hv
   have HT:=hid ht
   have HZ:=hid hz
   clear ht hz hv
   by_cases h0:z = 0
   ·have hb:((z:Int) == 0) = true:=by simpa using h0
    have H0:=hid h0
    clear h0
    go_wp2
    go_round
    case rel => exact ⟨k,by omega,rfl,by rw [← HT.out,z2m,HZ.out,H0.out,if_pos rfl]⟩
    case measure => simp only [z1i]; omega
   ·have hb:((z:Int) == 0) = false:=by simpa using h0
    have H0:=hid h0
    clear h0
    go_wp2
    all_goals
     go_ret
     refine ⟨?_,rfl⟩
     have h2:z2m zs (k + 1) = k + 1:=by rw [z2m,HZ.out,if_neg (by simpa using H0.out)]
     rw [← zjr zs H.out.lt HT.out,h2]
     rfl
theorem zq2 {S:Nat → Prop} (v:Value) (zs:List Nat) (s:Nat) (w:World) (h:U32s S w v zs) (hS:∀ k,S k → k < w.heap.size) (hr:zs.length ≤ 1000000000000) (hs:s < 32) :
  Calls Tryz.prog 152 #[v,.int .i64 (s:Nat)] w fun e w' => ∃ g,e = .returned (.tuple #[.slice (some ⟨g,0,none⟩) (rep B32 (val B32 zs * 2 ^ s)).length ((rep B32 (val B32 zs)).length + 1),.int .i64 0]) ∧ w.heap.size ≤ g ∧ g < w'.heap.size ∧
   w'.rowIs g 74 ((rep B32 (val B32 zs)).length + 1) (rowU (rep B32 (val B32 zs * 2 ^ s))) ∧ Ext w w':=by
 have hle:(rep B32 (val B32 zs)).length ≤ zs.length:=z0f z00 _ _ (z1k zs h.lt)
 have H:=hid h
 obtain ⟨a,cap,rfl⟩:=h.form
 clear h
 have CM:=hid (zq0 s hs w)
 go_enter Tryz.func152,Tryz.ntmps152
 go_wp2_with fail
 refine CM.out.mono ?_
 rintro e w1 ⟨rfl,rfl⟩
 go_wp2_with fail
 refine (z29 _ zs _ H.out).mono ?_
 rintro e w' ⟨v',rfl,hu,rfl⟩
 have hx1:((s:Int)).tdiv 32 = 0:=by rw [Int.tdiv_eq_ediv_of_nonneg (by omega)]; omega
 have hx2:((s:Int)).tmod 32 = (s:Int):=by rw [Int.tmod_eq_emod_of_nonneg (by omega)]; omega
 obtain ⟨L,hL⟩:∃ L,L = (rep B32 (val B32 zs)).length:=⟨_,rfl⟩
 have HU:=hid hu
 obtain ⟨a',c',rfl⟩:=hu.form
 rw [← hL] at HU hle ⊢
 have hmk:=run_make_row' (P:=Tryz.prog) 28 74 (.int .u32 0) 4 Tryz.underlying28 Tryz.infoU32 rfl .i64 .i64 (L + 1) (by omega) (by omega) w
 rw [show ((L + 1:Nat):Int) = (L:Int) + 1 by omega] at hmk
 obtain ⟨V,hV⟩:∃ V,V = val B32 zs:=⟨_,rfl⟩
 rw [← hV] at HU hL
 have HL:=hid hL
 have HLE:=hid hle
 have HV:=hid hV
 have HZ0:=hid (z5w w (L + 1) 74)
 have HX0:=hid (Ext.alloc (Ext.refl w) (.cells (madeCells #[.int .u32 0] (L + 1)) 74))
 clear hu hL hV
 go_wp2
 go_loopw [24] (fun s24 wr => ∃ (i c:Nat) (o:List Nat),s24 = .int .i64 (i:Nat) ∧ i ≤ L ∧ Hid (c < 2 ^ s ∧ o.length = i ∧ (∀ z ∈ o,z < B32) ∧ val B32 o + B32 ^ i * c = val B32 ((rep B32 V).take i) * 2 ^ s) ∧
  wr.rowIs w.heap.size 74 (L + 1) (rowU (o ++ [c])) ∧ Ext w wr) (fun s24 _ => L - (intOf s24).toNat)
 case atStart =>
  refine ⟨0,0,[],rfl,Nat.zero_le _,hid ⟨Nat.pow_pos (by decide),rfl,by simp,by simp [val]⟩,?_,HX0.out⟩
  have e:rowU ([] ++ [0]) = rowU (List.replicate (L + 1) 0):=z9d fun j => by rw [z9o,zid]; simp
  rw [e]
  exact HZ0.out
 case round =>
  obtain ⟨i,c,o,rfl,hi,HI,hrow,hx⟩:=hrel
  have HR:=hid hrow
  have HX:=hid hx
  by_cases hlt:i < L
  ·obtain ⟨x,hx1⟩:=z01 (l:=rep B32 V) (j:=i) (by rw [← HL.out]; exact hlt)
   obtain ⟨b1,o1,rfl,-,hn1,hm1,-,hxb,hc1⟩:=(HU.out.to (Kept.ext hx hS) (fun _ h => h)).cellAt hx1
   have hc2:wr.cell? ⟨w.heap.size,i,none⟩ = some (.int .u32 (c:Nat)):=by
    have h1:=hrow.cell (i:=i) (by omega)
    rw [h1]
    show some (Value.int .u32 (dg (o ++ [c]) i:Nat)) = _
    rw [zid,if_neg (by have:=HI.out.2.1; omega),if_pos HI.out.2.1.symm]
   have hf2:=hrow.frozen i
   have hc3:wr.cell? ⟨w.heap.size,i + 1,none⟩ = some (.int .u32 0):=by
    have h1:=hrow.cell (i:=i + 1) (by omega)
    rw [h1]
    show some (Value.int .u32 (dg (o ++ [c]) (i + 1):Nat)) = _
    rw [zid,if_neg (by have:=HI.out.2.1; omega),if_neg (by have:=HI.out.2.1; omega)]
    rfl
   have hf3:=hrow.frozen (i + 1)
   obtain ⟨q1,q2,q3⟩:=ztu hxb hs HI.out.1
   obtain ⟨t,ht⟩:∃ t,t = x * 2 ^ s:=⟨_,rfl⟩
   rw [← ht] at q1 q2 q3
   have htl:t < 18446744073709551616:=by
    have h1:x * 2 ^ s < 4294967296 * 2 ^ s:=Nat.mul_lt_mul_of_pos_right hxb (Nat.pow_pos (by decide))
    have h2:2 ^ s < 2 ^ 32:=Nat.pow_lt_pow_right (by decide) hs
    have h3:(2:Nat) ^ 32 = 4294967296:=by decide
    omega
   have hsh:IntKind.u64.wrap ((x:Int) * 2 ^ s) = (t:Int):=by
    have e:(x:Int) * 2 ^ s = ((x * 2 ^ s:Nat):Int):=by push_cast; rfl
    rw [e,← ht]
    exact z0w htl
   obtain ⟨lo,hlo⟩:∃ lo,lo = t % B32:=⟨_,rfl⟩
   obtain ⟨h,hh⟩:∃ h,h = t / B32:=⟨_,rfl⟩
   rw [← hlo] at q1 q3
   rw [← hh] at q2
   have hlo':(t:Int) % 4294967296 = (lo:Int):=by rw [hlo]; rfl
   have hhi':(t:Int) / 4294967296 = (h:Int):=by rw [hh]; rfl
   have hh2:(h:Int) % 4294967296 = (h:Int):=by
    have h1:h < 4294967296:=by rw [hh]; show t / 4294967296 < 4294967296; omega
    omega
   have hor:bits .or .u32 (c:Int) (lo:Int) = ((c + lo:Nat):Int):=zyx s c lo hs HI.out.1 (by omega) q3
   have HQ:=hid (And.intro q1 q2)
   have HT:=hid (And.intro ht (And.intro hlo hh))
   have HX1:=hid hx1
   have HXB:=hid hxb
   have hx64:IntKind.u64.wrap (x:Int) = (x:Int):=z0w (Nat.lt_trans hxb (by decide))
   clear hrow hx q1 q2 q3 ht hlo hh hx1 htl hxb
   go_wp2
   obtain ⟨HI1,HI2,HI3,HI4⟩:=HI.out
   refine ⟨⟨i + 1,h,o ++ [c + lo],rfl,by omega,hid ⟨HQ.out.2,by simp [HI2],?_,?_⟩,?_,?_⟩,?_⟩
   ·intro z hz
    rcases List.mem_append.1 hz with h1 | h1
    ·exact HI3 z h1
    ·rw [List.mem_singleton.1 h1]; exact HQ.out.1
   ·rw [z57,HI2,z3k HX1.out,Nat.add_mul,← HI4,Nat.mul_assoc,← HT.out.1]
    have h3:t = lo + B32 * h:=by rw [HT.out.2.1,HT.out.2.2]; exact (Nat.mod_add_div t B32).symm
    rw [h3,Nat.pow_succ,Nat.mul_add,Nat.mul_add,Nat.mul_assoc]
    omega
   ·have h1:=z5d HR.out i (c + lo) (by simp; omega)
    have e:(o ++ [c]).set i (c + lo) = o ++ [c + lo]:=by rw [← HI2]; simp
    rw [e] at h1
    have h2:=z2o h1 h
    have e2:(o ++ [c + lo]).length = i + 1:=by simp [HI2]
    rw [e2] at h2
    have e3:((c + lo:Nat):Int) = (c:Int) + (lo:Int):=by push_cast; rfl
    rw [e3] at h2
    exact h2
   ·exact (HX.out.setCell (Nat.le_refl _) _).setCell (Nat.le_refl _) _
   ·simp only [intOf]; omega
  ·obtain rfl:i = L:=by omega
   obtain ⟨HI1,HI2,HI3,HI4⟩:=HI.out
   have hol:∀ z ∈ o ++ [c],z < B32:=by
    intro z hz
    rcases List.mem_append.1 hz with h1 | h1
    ·exact HI3 z h1
    ·rw [List.mem_singleton.1 h1]
     exact Nat.lt_of_lt_of_le HI1 (show 2 ^ s ≤ 2 ^ 32 from Nat.pow_le_pow_right (by decide) (by omega))
   have hval:val B32 (o ++ [c]) = V * 2 ^ s:=by
    rw [z57,HI2,HI4,HL.out,List.take_length,z0d z00]
   have hu:U32s (fun k => k = w.heap.size) wr (.slice (some ⟨w.heap.size,0,none⟩) (o ++ [c]).length (i + 1)) (o ++ [c]):=U32s.of_row hrow (by simp; omega) hol (by omega)
   have CS:=hid (zh8 _ _ _ _ hu)
   have e2:(o ++ [c]).length = i + 1:=by simp [HI2]
   rw [e2,hval] at CS
   have HS:Hid (wr.rowIs w.heap.size 74 (i + 1) (rowU (rep B32 (V * 2 ^ s)))):=hid (by
    rw [← z9d (zv9 hol _ hval)]
    exact hrow)
   clear hrow hx HI1 HI2 HI3 HI4 hol hval hu e2
   go_wp2_with fail
   refine CS.out.mono ?_
   rintro e w' ⟨rfl,rfl⟩
   go_wp2
   all_goals
    go_ret2
    have hl:=HL.out
    have hs2:=HS.out
    rw [HV.out] at hl hs2
    rw [← hl,← HV.out]
    rw [← HV.out] at hs2
    exact ⟨_,rfl,Nat.le_refl _,HS.out.lt,hs2,HX.out⟩
end
section
open Go.RowKit
theorem zh9 {N s i x y r:Nat} (hs:s < 32) (h:N / B32 ^ i = x + B32 * (y + B32 * r)):N / 2 ^ s / B32 ^ i % B32 = (x + B32 * y) / 2 ^ s % B32:=by
 have hB:=zh7 hs
 have hP:0 < 2 ^ s:=Nat.pow_pos (by decide)
 have e:N / 2 ^ s / B32 ^ i = N / B32 ^ i / 2 ^ s:=by rw [Nat.div_div_eq_div_mul,Nat.div_div_eq_div_mul,Nat.mul_comm]
 have e2:x + B32 * (y + B32 * r) = (x + B32 * y) + 2 ^ s * (2 ^ (32 - s) * (B32 * r)):=by
  rw [Nat.mul_add,← Nat.mul_assoc (2 ^ s),Nat.mul_comm (2 ^ s),hB]
  omega
 rw [e,h,e2,Nat.add_mul_div_left _ _ hP,show 2 ^ (32 - s) * (B32 * r) = B32 * (2 ^ (32 - s) * r) from Nat.mul_left_comm _ _ _,Nat.add_mul_mod_self_left]
theorem ztv {M i d:Nat} {o:List Nat} (hv:val B32 o = M % B32 ^ i) (ho:o.length = i) (hd:d = M / B32 ^ i % B32):val B32 (o ++ [d]) = M % B32 ^ (i + 1):=by
 rw [z57,ho,hv,hd,Nat.pow_succ,Nat.mod_mul]
theorem ztw (l:List Nat) (hl:∀ z ∈ l,z < B32) (i:Nat):val B32 l / B32 ^ i = dg l i + B32 * (dg l (i + 1) + B32 * val B32 (l.drop (i + 2))):=by
 rw [← z1d,← z1d]
 have h:=z22 (B:=B32) l i
 by_cases hi:i ≤ l.length
 ·rw [Nat.min_eq_left hi] at h
  have h2:val B32 (l.take i) < B32 ^ i:=by
   have h3:=z1k (l.take i) (fun z hz => hl z (List.mem_of_mem_take hz))
   rwa [List.length_take,Nat.min_eq_left hi] at h3
  rw [h,Nat.add_mul_div_left _ _ (Nat.pow_pos (by decide)),Nat.div_eq_of_lt h2,Nat.zero_add]
 ·rw [List.drop_eq_nil_of_le (by omega)]
  have h3:=z1k l hl
  have h4:B32 ^ l.length ≤ B32 ^ i:=Nat.pow_le_pow_right (by decide) (by omega)
  rw [Nat.div_eq_of_lt (by omega)]
  rfl
theorem zq3 (x y:Nat) (hx:x < B32) (hy:y < B32):bits .or .u64 (x:Int) ((y:Int) * 4294967296) = ((x + B32 * y:Nat):Int):=by
 have hx64:x < 2 ^ 64:=Nat.lt_trans hx (by decide)
 have hy64:y * 4294967296 < 2 ^ 64:=by
  have h:y < 4294967296:=hy
  show y * 4294967296 < 18446744073709551616
  omega
 have e:(y:Int) * 4294967296 = ((y * 4294967296:Nat):Int):=by omega
 rw [e,(bits_nat .u64 64 (by decide) z7y x _ hx64 hy64).2,Nat.or_comm]
 have h:=zat y x hy hx
 rw [e,(bits_nat .u64 64 (by decide) z7y _ x hy64 hx64).2] at h
 rw [h]
 show ((y * 4294967296 + x:Nat):Int) = ((x + 4294967296 * y:Nat):Int)
 omega
theorem zxg {S:Nat → Prop} (v:Value) (zs:List Nat) (s:Nat) (w:World) (h:U32s S w v zs) (hS:∀ k,S k → k < w.heap.size) (hr:zs.length ≤ 1000000000000) (hs:s < 32) :
  Calls Tryz.prog 156 #[v,.int .i64 (s:Nat)] w fun e w' => ∃ v',e = .returned (.tuple #[v',.int .i64 0]) ∧ U32s (New w w') w' v' (rep B32 (val B32 zs / 2 ^ s)) ∧ Ext w w':=by
 have hle:(rep B32 (val B32 zs)).length ≤ zs.length:=z0f z00 _ _ (z1k zs h.lt)
 have H:=hid h
 obtain ⟨a,cap,rfl⟩:=h.form
 clear h
 have CM:=hid (zq0 s hs w)
 go_enter Tryz.func156,Tryz.ntmps156
 go_wp2_with fail
 refine CM.out.mono ?_
 rintro e w1 ⟨rfl,rfl⟩
 go_wp2_with fail
 refine (z29 _ zs _ H.out).mono ?_
 rintro e w' ⟨v',rfl,hu,rfl⟩
 have hx1:((s:Int)).tdiv 32 = 0:=by rw [Int.tdiv_eq_ediv_of_nonneg (by omega)]; omega
 have hx2:((s:Int)).tmod 32 = (s:Int):=by rw [Int.tmod_eq_emod_of_nonneg (by omega)]; omega
 obtain ⟨L,hL⟩:∃ L,L = (rep B32 (val B32 zs)).length:=⟨_,rfl⟩
 have HU:=hid hu
 obtain ⟨a',c',rfl⟩:=hu.form
 rw [← hL] at HU hle ⊢
 have hmk:=run_make_row' (P:=Tryz.prog) 28 74 (.int .u32 0) 4 Tryz.underlying28 Tryz.infoU32 rfl .i64 .i64 L (by omega) (by omega) w
 obtain ⟨V,hV⟩:∃ V,V = val B32 zs:=⟨_,rfl⟩
 rw [← hV] at HU hL
 have HL:=hid hL
 have HV:=hid hV
 have HLE:=hid hle
 have HZ0:=hid (z5w w L 74)
 have HX0:=hid (Ext.alloc (Ext.refl w) (.cells (madeCells #[.int .u32 0] L) 74))
 clear hu hL hV
 go_wp2
 go_loopw [26] (fun s26 wr => ∃ (i:Nat) (o:List Nat),s26 = .int .i64 (i:Nat) ∧ i ≤ L ∧ Hid (o.length = i ∧ (∀ z ∈ o,z < B32) ∧ val B32 o = V / 2 ^ s % B32 ^ i) ∧
  wr.rowIs w.heap.size 74 L (rowU o) ∧ Ext w wr) (fun s26 _ => L - (intOf s26).toNat)
 case atStart =>
  refine ⟨0,[],rfl,Nat.zero_le _,hid ⟨rfl,by simp,by simp [val,Nat.mod_one]⟩,?_,HX0.out⟩
  have e:rowU [] = rowU (List.replicate L 0):=z9d fun j => by rw [z9o]; rfl
  rw [e]
  exact HZ0.out
 case round =>
  obtain ⟨i,o,rfl,hi,HI,hrow,hx⟩:=hrel
  have HR:=hid hrow
  have HX:=hid hx
  by_cases hlt:i < L
  ·obtain ⟨x,hx1⟩:=z01 (l:=rep B32 V) (j:=i) (by rw [← HL.out]; exact hlt)
   obtain ⟨b1,o1,hav,-,hn1,hm1,-,hxb,hc1⟩:=(HU.out.to (Kept.ext hx hS) (fun _ h => h)).cellAt hx1
   have hf2:=hrow.frozen i
   have hc2:wr.cell? ⟨w.heap.size,i,none⟩ = some (.int .u32 0):=by
    rw [hrow.cell (i:=i) hlt]
    show some (Value.int .u32 (dg o i:Nat)) = _
    rw [z2n (by have:=HI.out.1; omega)]
    rfl
   have HX1:=hid hx1
   have HXB:=hid hxb
   have HD:=hid (ztw (rep B32 V) (z3q z00 V) i)
   rw [z0d z00,z0o hx1] at HD
   have fin:∀ t:Nat,t / 2 ^ s % B32 = V / 2 ^ s / B32 ^ i % B32 → (∃ (i_1:Nat) (o:List Nat),Value.int IntKind.i64 ((i:Int) + 1) = Value.int IntKind.i64 (i_1:Nat) ∧ i_1 ≤ L ∧
     Hid (o.length = i_1 ∧ (∀ (z:Nat),z ∈ o → z < B32) ∧ val B32 o = V / 2 ^ s % B32 ^ i_1) ∧
      (wr.setCell ⟨w.heap.size,i,none⟩ (Value.int IntKind.u32 ((t:Int) / 2 ^ s % 4294967296))).rowIs w.heap.size 74 L (rowU o) ∧
       Ext w (wr.setCell ⟨w.heap.size,i,none⟩ (Value.int IntKind.u32 ((t:Int) / 2 ^ s % 4294967296)))) ∧
     L - (intOf (Value.int IntKind.i64 ((i:Int) + 1))).toNat < L - (intOf (Value.int IntKind.i64 (i:Int))).toNat:=by
    intro t ht
    obtain ⟨HI2,HI3,HI4⟩:=HI.out
    have e:(t:Int) / 2 ^ s % 4294967296 = ((t / 2 ^ s % B32:Nat):Int):=by
     have e1:(t:Int) / 2 ^ s = ((t / 2 ^ s:Nat):Int):=by push_cast; rfl
     rw [e1]
     show ((t / 2 ^ s:Nat):Int) % 4294967296 = ((t / 2 ^ s % 4294967296:Nat):Int)
     omega
    rw [e]
    refine ⟨⟨i + 1,o ++ [t / 2 ^ s % B32],rfl,by omega,hid ⟨by simp [HI2],?_,ztv HI4 HI2 ht⟩,?_,HX.out.setCell (Nat.le_refl _) _⟩,?_⟩
    ·intro z hz
     rcases List.mem_append.1 hz with h1 | h1
     ·exact HI3 z h1
     ·rw [List.mem_singleton.1 h1]; exact Nat.mod_lt _ (by decide)
    ·have h1:=z2o HR.out (t / 2 ^ s % B32)
     rw [HI2] at h1
     exact h1
    ·simp only [intOf]; omega
   have FIN:=hid fin
   clear hrow hx hx1 fin
   subst hav
   by_cases h2:i + 1 < L
   ·obtain ⟨y,hy1⟩:=z01 (l:=rep B32 V) (j:=i + 1) (by rw [← HL.out]; exact h2)
    obtain ⟨b3,o3,hav,-,-,-,-,hyb,hc3⟩:=(HU.out.to (Kept.ext HX.out hS) (fun _ h => h)).cellAt hy1
    obtain ⟨rfl,rfl⟩:b1 = b3 ∧ o1 = o3:=by simpa using hav
    have hx64:IntKind.u64.wrap (x:Int) = (x:Int):=z0w (Nat.lt_trans hxb (by decide))
    have hy64:IntKind.u64.wrap (y:Int) = (y:Int):=z0w (Nat.lt_trans hyb (by decide))
    have hor:=zq3 x y hxb hyb
    obtain ⟨t,ht⟩:∃ t,t = x + B32 * y:=⟨_,rfl⟩
    rw [← ht] at hor
    have HT:=hid ht
    have HY1:=hid hy1
    have HYB:=hid hyb
    clear hxb hy1 ht
    go_wp2
    refine FIN.out t ?_
    have hd:=HD.out
    rw [z0o HY1.out] at hd
    rw [zh9 hs hd,HT.out]
   ·have hx64:IntKind.u64.wrap (x:Int) = (x:Int):=z0w (Nat.lt_trans hxb (by decide))
    clear hxb
    go_wp2
    refine FIN.out x ?_
    have hd:=HD.out
    rw [z2n (by have:=HL.out; omega)] at hd
    rw [zh9 hs hd,Nat.mul_zero,Nat.add_zero]
  ·obtain rfl:i = L:=by omega
   obtain ⟨HI2,HI3,HI4⟩:=HI.out
   have hval:val B32 o = V / 2 ^ s:=by
    rw [HI4]
    refine Nat.mod_eq_of_lt (Nat.lt_of_le_of_lt (Nat.div_le_self _ _) ?_)
    have h1:=z1k (rep B32 V) (z3q z00 V)
    rwa [z0d z00,← HL.out] at h1
   have hu:U32s (fun k => k = w.heap.size) wr (.slice (some ⟨w.heap.size,0,none⟩) i i) o:=by
    have h1:=U32s.of_row hrow (by omega) HI3 (by omega)
    rwa [HI2] at h1
   have CS:=hid (z29 _ _ _ hu)
   rw [hval] at CS
   have HG:=hid hrow.lt
   clear hrow hx HI2 HI3 HI4 hval hu
   go_wp2_with fail
   refine CS.out.mono ?_
   rintro e w' ⟨v',rfl,hu,rfl⟩
   have H:=hid hu
   clear hu
   go_wp2
   all_goals
    go_ret2
    refine ⟨_,rfl,?_,HX.out⟩
    rw [← HV.out]
    refine H.out.to (Kept.refl _ _) (fun k hk => ?_)
    subst hk
    exact ⟨Nat.le_refl _,HG.out⟩
end
section
open Go.RowKit
theorem zha {S:Nat → Prop} (v:Value) (zs:List Nat) (w:World) (h:U32s S w v zs) (hS:∀ k,S k → k < w.heap.size) (hr:zs.length ≤ 50000000000000) :
  Calls Tryz.prog 126 #[v] w fun e w' => ∃ g,e = .returned (.slice (some ⟨g,0,none⟩) (rep B32 (val B32 zs)).length (rep B32 (val B32 zs)).length) ∧ w.heap.size ≤ g ∧ g < w'.heap.size ∧
   w'.rowIs g 74 (rep B32 (val B32 zs)).length (rowU (rep B32 (val B32 zs))) ∧ Ext w w':=by
 have hle:(rep B32 (val B32 zs)).length ≤ zs.length:=z0f z00 _ _ (z1k zs h.lt)
 have H:=hid h
 obtain ⟨a,cap,rfl⟩:=h.form
 clear h
 have hmk:=fun (n:Nat) (hn:n ≤ 50000000000000) (W:World) => run_make_row' (P:=Tryz.prog) 28 74 (.int .u32 0) 4 Tryz.underlying28 Tryz.infoU32 rfl .i64 .i64 n (by omega) (by omega) W
 go_enter Tryz.func126,Tryz.ntmps126
 go_wp2_with fail
 refine (z29 _ zs _ H.out).mono ?_
 rintro e w' ⟨v',rfl,hu,rfl⟩
 generalize hR:rep B32 (val B32 zs) = R at hu hle
 have HR:=hid hR
 have HU:=hid hu
 obtain ⟨a',c',rfl⟩:=hu.form
 have hmk1:=hmk R.length (by omega) w
 have HA:=hid (Ext.alloc (Ext.refl w) (.cells (madeCells #[.int .u32 0] R.length) 74))
 have HUA:=hid (HU.out.to (Kept.alloc hS (.cells (madeCells #[.int .u32 0] R.length) 74)) (fun _ h => h))
 have hc':=HU.out.len_le
 clear hR hu hmk
 go_wp2_with (refine wpList_copy_splice (by rfl) (.tmp 9) (.tmp 10) 28 28 (by rfl) 74 Tryz.underlying28 (by kernel_rfl) (some ⟨w.heap.size,0,none⟩) a' R.length R.length R.length c' (by rfl) (by rfl) w.heap.size 0 (List.replicate R.length (.int .u32 0)) 74 (by rw [heap_alloc_new,zfe]) (R.map uval) (by simp) (fun hp => ⟨rfl,HUA.out.src hp⟩) (by simp) (by intro v hv; obtain ⟨z,_,rfl⟩:=List.mem_map.1 hv; rfl) w.heap.size w HA.out (Nat.le_refl _) ?_; intro w2 hg hb)
 have HG:=hid hg
 have HB:=hid hb
 clear hg hb
 go_wp2
 go_ret
 rw [HR.out]
 have hg:=HG.out.out
 rw [zd1 _ _ (by simp)] at hg
 refine ⟨_,rfl,Nat.le_refl _,(Array.getElem?_eq_some_iff.1 hg).1,⟨_,hg,by simp,fun i hi => ?_⟩,HB.out⟩
 rw [List.getElem?_toArray,List.getElem?_map,List.getElem?_eq_getElem hi]
 show some (uval R[i]) = some (Value.int .u32 (dg R i:Nat))
 rw [z0o (List.getElem?_eq_getElem hi)]
 rfl
theorem zq4 {d m r x Q:Nat} {R o:List Nat} (hd:0 < d) (hm:m < o.length) (hx:dg R m = x) (hq:val B32 (o.drop (m + 1)) = Q) (hr:r < d) (hx2:x < B32) (h:val B32 (R.drop (m + 1)) = d * Q + r) :
  (r * B32 + x) / d < B32 ∧ val B32 (R.drop m) = d * val B32 ((o.set m ((r * B32 + x) / d)).drop m) + (r * B32 + x) % d:=by
 refine ⟨Nat.div_lt_of_lt_mul ?_,?_⟩
 ·have h1:(r + 1) * B32 ≤ d * B32:=Nat.mul_le_mul_right _ hr
  rw [Nat.add_mul,Nat.one_mul] at h1
  omega
 ·rw [z1d R m,h,hx,z1d (o.set m _) m]
  have e1:dg (o.set m ((r * B32 + x) / d)) m = (r * B32 + x) / d:=by unfold dg; rw [List.getElem?_set]; simp [hm]
  have e2:(o.set m ((r * B32 + x) / d)).drop (m + 1) = o.drop (m + 1):=by rw [List.drop_set_of_lt (by omega)]
  rw [e1,e2,hq]
  have e3:=Nat.div_add_mod (r * B32 + x) d
  rw [Nat.mul_add,Nat.mul_add,Nat.mul_left_comm d B32 Q]
  have e4:B32 * r = r * B32:=Nat.mul_comm _ _
  omega
theorem ztx {S:Nat → Prop} (v:Value) (zs:List Nat) (d:Nat) (w:World) (h:U32s S w v zs) (hS:∀ k,S k → k < w.heap.size) (hr:zs.length ≤ 1000000000000) (hd:0 < d) (hd2:d < B32) :
  Calls Tryz.prog 151 #[v,.int .u32 (d:Nat)] w fun e w' => ∃ v',e = .returned (.tuple #[v',.int .u32 (val B32 zs % d:Nat),.int .i64 0]) ∧ U32s (New w w') w' v' (rep B32 (val B32 zs / d)) ∧ Ext w w':=by
 have hle:(rep B32 (val B32 zs)).length ≤ zs.length:=z0f z00 _ _ (z1k zs h.lt)
 have H:=hid h
 clear h
 have hd0:(d:Int) ≠ 0:=by omega
 have hd64:IntKind.u64.wrap (d:Int) = (d:Int):=z0w (Nat.lt_trans hd2 (by decide))
 have HD:=hid (And.intro hd hd2)
 clear hd hd2
 go_enter Tryz.func151,Tryz.ntmps151
 go_wp2_with fail
 refine (zha _ zs _ H.out hS (by omega)).mono ?_
 rintro e w1 ⟨g,rfl,hg1,hg2,hrow,hx⟩
 obtain ⟨L,hL⟩:∃ L,L = (rep B32 (val B32 zs)).length:=⟨_,rfl⟩
 rw [← hL] at hrow hle ⊢
 obtain ⟨V,hV⟩:∃ V,V = val B32 zs:=⟨_,rfl⟩
 rw [← hV] at hrow hL
 have HL:=hid hL
 have HV:=hid hV
 have HX1:=hid hx
 have HR1:=hid hrow
 have HS1:=hid hx.size
 clear hL hV hx hrow
 go_wp2
 go_loopw [7,16] (fun s7 s16 wr => ∃ (i r:Nat) (o:List Nat),s7 = .int .u64 (r:Nat) ∧ s16 = .int .i64 (i:Nat) ∧ i ≤ L ∧ Hid (r < d ∧ o.length = L ∧ (∀ z ∈ o,z < B32) ∧ (∀ j,j < L - i → dg o j = dg (rep B32 V) j) ∧ val B32 ((rep B32 V).drop (L - i)) = d * val B32 (o.drop (L - i)) + r) ∧
  wr.rowIs g 74 L (rowU o) ∧ Ext w wr) (fun s7 s16 _ => L - (intOf s16).toNat)
 case atStart =>
  refine ⟨0,0,rep B32 V,rfl,rfl,Nat.zero_le _,hid ⟨HD.out.1,HL.out.symm,z3q z00 V,fun _ _ => rfl,?_⟩,HR1.out,HX1.out⟩
  rw [List.drop_eq_nil_of_le (by rw [← HL.out]; omega)]
  rfl
 case round =>
  obtain ⟨i,r,o,rfl,rfl,hi,HI,hrow,hx⟩:=hrel
  have HR:=hid hrow
  have HX:=hid hx
  by_cases hlt:i < L
  ·obtain ⟨m,hm⟩:∃ m,m + 1 = L - i:=⟨L - i - 1,by omega⟩
   have hm2:(L:Int) - 1 - (i:Int) = (m:Int):=by omega
   obtain ⟨x,hx1⟩:=z01 (l:=rep B32 V) (j:=m) (by rw [← HL.out]; omega)
   have hxd:=z0o hx1
   have hxb:x < 4294967296:=z3q z00 V x (List.mem_of_getElem? hx1)
   have hc1:wr.cell? ⟨g,m,none⟩ = some (.int .u32 (x:Nat)):=by
    rw [hrow.cell (i:=m) (by omega)]
    show some (Value.int .u32 (dg o m:Nat)) = _
    rw [HI.out.2.2.2.1 m (by omega),hxd]
   have hf1:=hrow.frozen m
   have hx64:IntKind.u64.wrap (x:Int) = (x:Int):=z0w (Nat.lt_trans hxb (by decide))
   have hrb:r < 4294967296:=Nat.lt_trans HI.out.1 HD.out.2
   have hor:=zat r x hrb hxb
   obtain ⟨t,ht⟩:∃ t,t = r * 4294967296 + x:=⟨_,rfl⟩
   rw [← ht] at hor
   have hsh:IntKind.u64.wrap ((r:Int) * 4294967296) = (r:Int) * 4294967296:=by rw [IntKind.wrap_u64]; omega
   have HT:=hid ht
   have HXD:=hid hxd
   have HXB:=hid hxb
   have hi0:0 ≤ (L:Int) - 1 - (i:Int):=by omega
   have hml:(m:Int) < (L:Int):=by omega
   clear hrow hx hx1 hxd hxb hrb ht
   go_wp2
   obtain ⟨HI1,HI2,HI3,HI4,HI5⟩:=HI.out
   rw [← hm] at HI5
   obtain ⟨q1,q2⟩:=zq4 (o:=o) HD.out.1 (by omega) HXD.out rfl HI1 HXB.out HI5
   have ht:=HT.out
   have q1':t / d < 4294967296:=by rw [ht]; exact q1
   have e1:IntKind.u64.wrap ((t:Int) / (d:Int)) % 4294967296 = ((t / d:Nat):Int):=by
    rw [← Int.natCast_ediv,z0w (Nat.lt_trans q1' (by decide))]
    generalize t / d = q at q1'
    omega
   rw [e1]
   refine ⟨⟨i + 1,t % d,o.set m (t / d),by rw [Int.natCast_emod],rfl,by omega,hid ⟨Nat.mod_lt _ HD.out.1,by simp [HI2],?_,?_,?_⟩,z5d HR.out m (t / d) (by omega),HX.out.setCell hg1 _⟩,?_⟩
   ·intro z hz
    rcases List.mem_or_eq_of_mem_set hz with h1 | h1
    ·exact HI3 z h1
    ·rw [h1]; exact q1'
   ·intro j hj
    rw [zfl (by omega),HI4 j (by omega)]
   ·rw [show L - (i + 1) = m by omega,ht]
    exact q2
   ·simp only [intOf]; omega
  ·obtain rfl:i = L:=by omega
   obtain ⟨HI1,HI2,HI3,HI4,HI5⟩:=HI.out
   rw [Nat.sub_self,List.drop_zero,List.drop_zero,z0d z00] at HI5
   have hq:val B32 o = V / d:=by rw [HI5,Nat.mul_add_div HD.out.1,Nat.div_eq_of_lt HI1,Nat.add_zero]
   have hm:r = V % d:=by rw [HI5,Nat.mul_add_mod,Nat.mod_eq_of_lt HI1]
   have hu:U32s (fun k => k = g) wr (.slice (some ⟨g,0,none⟩) i i) o:=by
    have h1:=U32s.of_row hrow (by omega) HI3 (by omega)
    rwa [HI2] at h1
   have CS:=hid (z23 _ _ _ hu (fun k hk => by rw [hk]; exact hrow.lt) (by omega))
   rw [hq] at CS
   have hr32:(r:Int) % 4294967296 = (r:Int):=by have h1:r < 4294967296:=Nat.lt_trans HI1 HD.out.2; omega
   have HM:=hid hm
   clear hrow hx HI1 HI2 HI3 HI4 HI5 hq hm hu
   go_wp2_with fail
   refine CS.out.mono ?_
   rintro e w' ⟨v',rfl,hu,hx2⟩
   have H2:=hid hu
   have HX2:=hid hx2
   clear hu hx2
   go_wp2
   all_goals
    go_ret3
    rw [← HV.out,← HM.out]
    exact ⟨_,rfl,H2.out.to (Kept.refl _ _) (fun k hk => ⟨Nat.le_trans HX.out.size hk.1,hk.2⟩),HX.out.trans HX2.out⟩
end
section
open Go.RowKit
theorem zty:∀ i:Fin 256,0 < i.val → 1 ≤ (tab8.get! i.val).toNat ∧ (tab8.get! i.val).toNat ≤ 8 ∧ 2 ^ ((tab8.get! i.val).toNat - 1) ≤ i.val ∧ i.val < 2 ^ (tab8.get! i.val).toNat:=by decide +kernel
theorem zxh (x:Int) (h0:0 < x) (h1:x < 256) (h:x.toNat < tab8.size):1 ≤ (tab8[x.toNat]'h).toNat ∧ (tab8[x.toNat]'h).toNat ≤ 8 ∧ 2 ^ ((tab8[x.toNat]'h).toNat - 1) ≤ x.toNat ∧ x.toNat < 2 ^ (tab8[x.toNat]'h).toNat:=by
 have:=zty ⟨x.toNat,by omega⟩
 have e:tab8.get! x.toNat = tab8[x.toNat]'h:=by
  have h2:x.toNat < tab8.data.size:=h
  show tab8.data[x.toNat]! = tab8.data[x.toNat]'h2
  exact getElem!_pos _ _ _
 simp only [e] at this
 exact this (by omega)
theorem zeq (x:Int) (h0:0 < x) (h1:x < 256) (h:x.toNat < tab8.size) (t:Nat) (hv:(tab8[x.toNat]'h).toNat = t):1 ≤ t ∧ t ≤ 8 ∧ 2 ^ (t - 1) ≤ x.toNat ∧ x.toNat < 2 ^ t:=by
 subst hv
 exact zxh x h0 h1 h
theorem zjs {x i t j:Nat} (hi:x / 2 ^ j = i) (h1:1 ≤ t) (h2:2 ^ (t - 1) ≤ i) (h3:i < 2 ^ t):2 ^ (t + j - 1) ≤ x ∧ x < 2 ^ (t + j):=by
 have hP:0 < 2 ^ j:=Nat.pow_pos (by decide)
 subst hi
 refine ⟨?_,?_⟩
 ·rw [show t + j - 1 = (t - 1) + j by omega,Nat.pow_add]
  exact Nat.le_trans (Nat.mul_le_mul_right _ h2) (Nat.div_mul_le_self _ _)
 ·rw [Nat.pow_add,← Nat.div_lt_iff_lt_mul hP]
  exact h3
theorem ztz (x:Int) (w:World) (h0:0 < x) (h1:x < 4294967296) :
  Calls Tryz.prog 114 #[.int .u32 x] w fun e w' => ∃ k:Nat,e = .returned (.int .i64 (k:Nat)) ∧ 1 ≤ k ∧ k ≤ 32 ∧ 2 ^ (k - 1) ≤ x.toNat ∧ x.toNat < 2 ^ k ∧ w = w':=by
 go_enter Tryz.func114,Tryz.ntmps114
 rcases (show 16777216 ≤ x ∨ 65536 ≤ x ∧ x < 16777216 ∨ 256 ≤ x ∧ x < 65536 ∨ x < 256 by omega) with h | ⟨h,h'⟩ | ⟨h,h'⟩ | h
 ·go_wp2
  go_ret
  simp only [Array.getD_eq_getD_getElem?,List.getElem?_toArray,List.getElem?_cons_succ,List.getElem?_cons_zero,Option.getD_some]
  generalize hv:UInt8.toNat _ = t
  have hi:x.toNat / 2 ^ 24 = (x / 65536 / 256).toNat:=by show x.toNat / 16777216 = _; omega
  obtain ⟨h3,h4,h5,h6⟩:=zeq (x / 65536 / 256) (by omega) (by omega) (by rw [z44]; omega) t hv
  clear hv
  have P:=hid (zjs hi h3 h5 h6)
  clear h5 h6 hi
  have e:wrap64 (24 + wrap64 (t:Int)) = ((t + 24:Nat):Int):=by unfold wrap64; omega
  exact ⟨t + 24,congrArg (fun n => Ending.returned (Value.int .i64 n)) e,by omega,by omega,P.out.1,P.out.2,trivial⟩
 ·go_wp2
  go_ret
  simp only [Array.getD_eq_getD_getElem?,List.getElem?_toArray,List.getElem?_cons_succ,List.getElem?_cons_zero,Option.getD_some]
  generalize hv:UInt8.toNat _ = t
  have hi:x.toNat / 2 ^ 16 = (x / 65536).toNat:=by show x.toNat / 65536 = _; omega
  obtain ⟨h3,h4,h5,h6⟩:=zeq (x / 65536) (by omega) (by omega) (by rw [z44]; omega) t hv
  clear hv
  have P:=hid (zjs hi h3 h5 h6)
  clear h5 h6 hi
  have e:wrap64 (16 + wrap64 (t:Int)) = ((t + 16:Nat):Int):=by unfold wrap64; omega
  exact ⟨t + 16,congrArg (fun n => Ending.returned (Value.int .i64 n)) e,by omega,by omega,P.out.1,P.out.2,trivial⟩
 ·go_wp2
  go_ret
  simp only [Array.getD_eq_getD_getElem?,List.getElem?_toArray,List.getElem?_cons_succ,List.getElem?_cons_zero,Option.getD_some]
  generalize hv:UInt8.toNat _ = t
  have hi:x.toNat / 2 ^ 8 = (x / 256).toNat:=by show x.toNat / 256 = _; omega
  obtain ⟨h3,h4,h5,h6⟩:=zeq (x / 256) (by omega) (by omega) (by rw [z44]; omega) t hv
  clear hv
  have P:=hid (zjs hi h3 h5 h6)
  clear h5 h6 hi
  have e:wrap64 (8 + wrap64 (t:Int)) = ((t + 8:Nat):Int):=by unfold wrap64; omega
  exact ⟨t + 8,congrArg (fun n => Ending.returned (Value.int .i64 n)) e,by omega,by omega,P.out.1,P.out.2,trivial⟩
 ·go_wp2
  go_ret
  simp only [Array.getD_eq_getD_getElem?,List.getElem?_toArray,List.getElem?_cons_succ,List.getElem?_cons_zero,Option.getD_some]
  generalize hv:UInt8.toNat _ = t
  have hi:x.toNat / 2 ^ 0 = x.toNat:=by show x.toNat / 1 = _; omega
  obtain ⟨h3,h4,h5,h6⟩:=zeq x (by omega) (by omega) (by rw [z44]; omega) t hv
  clear hv
  have P:=hid (zjs hi h3 h5 h6)
  clear h5 h6 hi
  have e:wrap64 (wrap64 (t:Int)) = ((t + 0:Nat):Int):=by unfold wrap64; omega
  exact ⟨t + 0,congrArg (fun n => Ending.returned (Value.int .i64 n)) e,by omega,by omega,P.out.1,P.out.2,trivial⟩
theorem zie {S:Nat → Prop} (v:Value) (zs:List Nat) (w:World) (h:U32s S w v zs) (hr:zs.length ≤ 50000000000000) (h0:0 < val B32 zs) :
  Calls Tryz.prog 84 #[v] w fun e w' => ∃ m k:Nat,e = .returned (.int .i64 (32 * m + k:Nat)) ∧ (rep B32 (val B32 zs)).length = m + 1 ∧ 1 ≤ k ∧ k ≤ 32 ∧ 2 ^ (k - 1) ≤ dg (rep B32 (val B32 zs)) m ∧ dg (rep B32 (val B32 zs)) m < 2 ^ k ∧ w = w':=by
 have hle:(rep B32 (val B32 zs)).length ≤ zs.length:=z0f z00 _ _ (z1k zs h.lt)
 have H:=hid h
 obtain ⟨a,c,rfl⟩:=h.form
 clear h
 go_enter Tryz.func84,Tryz.ntmps84
 go_wp2_with fail
 refine (z29 _ zs _ H.out).mono ?_
 rintro e w' ⟨v',rfl,hu,rfl⟩
 obtain ⟨n,hn⟩:∃ n,n = val B32 zs:=⟨_,rfl⟩
 rw [← hn] at hu hle h0
 have HN:=hid hn
 have HU:=hid hu
 obtain ⟨a',c',rfl⟩:=hu.form
 clear hu hn
 have hl:0 < (rep B32 n).length:=by
  rw [List.length_pos_iff,Ne,z2d z00]
  omega
 obtain ⟨m,hm⟩:∃ m,(rep B32 n).length = m + 1:=⟨(rep B32 n).length - 1,by omega⟩
 obtain ⟨z,hz⟩:=z01 (show m < (rep B32 n).length by omega)
 have hz0:0 < z:=by
  have h1:=zdt z00 n
  rw [List.getLast?_eq_getElem?,show (rep B32 n).length - 1 = m by omega,hz] at h1
  have:z ≠ 0:=fun e => h1 (by rw [e])
  omega
 obtain ⟨b,off,rfl,-,hn,hm2,-,hzb,hc⟩:=HU.out.cellAt hz
 have HM:=hid hm
 have HZ:=hid hz
 have hb:(((rep B32 n).length:Int) == 0) = false:=by rw [beq_eq_false_iff_ne]; omega
 have hi1:((rep B32 n).length:Int) - 1 = (m:Int):=by omega
 clear hz
 go_wp2_with fail
 refine (ztz z _ (by omega) (by omega)).mono ?_
 rintro e w' ⟨k,rfl,hk1,hk2,hk3,hk4,rfl⟩
 rw [Int.toNat_natCast] at hk3 hk4
 have HK:=hid (And.intro hk3 hk4)
 clear hk3 hk4
 go_wp2
 go_ret
 rw [← HN.out]
 refine ⟨m,k,congrArg (fun n => Ending.returned (Value.int .i64 n)) (by push_cast; rfl),HM.out,hk1,hk2,?_,?_,rfl⟩
 ·rw [z0o HZ.out]; exact HK.out.1
 ·rw [z0o HZ.out]; exact HK.out.2
theorem zu0 {V m k:Nat} (hl:(rep B32 V).length = m + 1) (hk1:1 ≤ k) (hk2:k ≤ 32) (h1:2 ^ (k - 1) ≤ dg (rep B32 V) m) (h2:dg (rep B32 V) m < 2 ^ k) :
  (rep B32 (V * 2 ^ (32 - k))).length = m + 1 ∧ 2147483648 ≤ dg (rep B32 (V * 2 ^ (32 - k))) m:=by
 have hV:=z0d z00 V
 have hd:=z1d (B:=B32) (rep B32 V) m
 have hs:=z22 (B:=B32) (rep B32 V) m
 rw [hV,hl,show min m (m + 1) = m by omega,hd,List.drop_eq_nil_of_le (by omega),show val B32 [] = 0 from rfl,Nat.mul_zero,Nat.add_zero] at hs
 have hlow:val B32 ((rep B32 V).take m) < B32 ^ m:=by
  have h3:=z1k ((rep B32 V).take m) (fun z hz => z3q z00 V z (List.mem_of_mem_take hz))
  rwa [List.length_take,show min m (rep B32 V).length = m by omega] at h3
 generalize val B32 ((rep B32 V).take m) = lo at hs hlow
 generalize dg (rep B32 V) m = z at hs h1 h2
 have hP:0 < 2 ^ (32 - k):=Nat.pow_pos (by decide)
 have hB:2 ^ k * 2 ^ (32 - k) = B32:=by rw [← Nat.pow_add,show k + (32 - k) = 32 by omega]
 have hH:2 ^ (k - 1) * 2 ^ (32 - k) = 2147483648:=by rw [← Nat.pow_add,show k - 1 + (32 - k) = 31 by omega]
 have hup:V * 2 ^ (32 - k) < B32 ^ (m + 1):=by
  have h3:V < B32 ^ m * 2 ^ k:=by
   have h4:B32 ^ m * (z + 1) ≤ B32 ^ m * 2 ^ k:=Nat.mul_le_mul_left _ h2
   rw [Nat.mul_add,Nat.mul_one] at h4
   omega
  have h5:=Nat.mul_lt_mul_of_pos_right h3 hP
  rwa [Nat.mul_assoc,hB,← Nat.pow_succ] at h5
 have hdn:2147483648 * B32 ^ m ≤ V * 2 ^ (32 - k):=by
  have h3:B32 ^ m * 2 ^ (k - 1) ≤ V:=by
   have h4:B32 ^ m * 2 ^ (k - 1) ≤ B32 ^ m * z:=Nat.mul_le_mul_left _ h1
   omega
  have h5:=Nat.mul_le_mul_right (2 ^ (32 - k)) h3
  rwa [Nat.mul_assoc,hH,Nat.mul_comm] at h5
 have hBm:0 < B32 ^ m:=Nat.pow_pos (by decide)
 have hq:2147483648 ≤ V * 2 ^ (32 - k) / B32 ^ m:=(Nat.le_div_iff_mul_le hBm).2 hdn
 have hle:(rep B32 V).length ≤ (rep B32 (V * 2 ^ (32 - k))).length:=z1o (Nat.le_mul_of_pos_right _ hP)
 have hge:(rep B32 (V * 2 ^ (32 - k))).length ≤ m + 1:=z0f z00 _ _ hup
 refine ⟨by omega,?_⟩
 rw [zq1 (by decide) _ (z3q z00 _),z0d z00,Nat.mod_eq_of_lt (Nat.div_lt_of_lt_mul (by rw [← Nat.pow_succ]; exact hup))]
 exact hq
end
section
open Go.RowKit
theorem zq5 {B:Nat} {u:List Nat} (hu:∀ z ∈ u,z < B) (k n:Nat):∀ z ∈ z2q u k n,z < B:=fun z hz => hu z (List.mem_of_mem_drop (List.mem_of_mem_take hz))
theorem zq6 {B:Nat} {u ps:List Nat} (hu:∀ z ∈ u,z < B) (hp:∀ z ∈ ps,z < B) (k:Nat):∀ z ∈ putL u k ps,z < B:=by
 intro z hz
 unfold putL at hz
 rcases List.mem_append.1 hz with h | h
 ·rcases List.mem_append.1 h with h | h
  ·exact hu z (List.mem_of_mem_take h)
  ·exact hp z h
 ·exact hu z (List.mem_of_mem_drop h)
theorem zer {B:Nat} {u:List Nat} (hu:∀ z ∈ u,z < B) {k q:Nat} (hq:q < B):∀ z ∈ u.set k q,z < B:=by
 intro z hz
 rcases List.mem_or_eq_of_mem_set hz with h1 | h1
 ·exact hu z h1
 ·rw [h1]; exact hq
theorem zu1 {u ps:List Nat} {k n:Nat} (hk:k + n < u.length) (hp:ps.length = n + 1):z2q (putL u k ps) k n = ps:=by
 unfold z2q putL
 have hl:(u.take k).length = k:=by rw [List.length_take]; omega
 rw [List.append_assoc,List.drop_append_of_le_length (by omega),List.drop_eq_nil_of_le (by omega),List.nil_append,List.take_append_of_le_length (by omega),List.take_of_length_le (by omega)]
theorem zxi {u ps rs:List Nat} {k n:Nat} (hk:k + n < u.length) (hp:ps.length = n + 1) (hr:rs.length = n + 1):putL (putL u k ps) k rs = putL u k rs:=by
 unfold putL
 have hl:(u.take k).length = k:=by rw [List.length_take]; omega
 have hl2:(u.take k ++ ps).length = k + ps.length:=by rw [List.length_append,hl]
 have e1:(u.take k ++ ps ++ u.drop (k + ps.length)).take k = u.take k:=by
  rw [List.append_assoc,List.take_append_of_le_length (by omega),List.take_of_length_le (by omega)]
 have e2:(u.take k ++ ps ++ u.drop (k + ps.length)).drop (k + rs.length) = u.drop (k + rs.length):=by
  rw [show k + rs.length = (u.take k ++ ps).length by omega,List.drop_left,hl2]
 rw [e1,e2]
theorem zyy {k n V:Nat} {o vs:List Nat} (ho:∀ z ∈ o,z < B32) (hvs:∀ z ∈ vs,z < B32) (hk:k + (n + 1) < o.length) (lv:vs.length = n + 1) (hV:val B32 vs = V) (hlow:val B32 (o.drop (k + 1)) < V) :
  dg (z2q o k (n + 1)) (n + 1) ≤ dg vs n:=by
 have hVB:V < B32 ^ (n + 1):=by rw [← hV,← lv]; exact z1k vs hvs
 obtain ⟨-,p2,-⟩:=zep z00 ho hk hVB hlow
 have hs:=z22 (B:=B32) (z2q o k (n + 1)) (n + 1)
 rw [z42 hk,show min (n + 1) (n + 1 + 1) = n + 1 by omega,z1d,List.drop_eq_nil_of_le (by rw [z42 hk]; omega),show val B32 [] = 0 from rfl,Nat.mul_zero,Nat.add_zero] at hs
 have hs2:=z22 (B:=B32) vs n
 rw [lv,show min n (n + 1) = n by omega,z1d,List.drop_eq_nil_of_le (by omega),show val B32 [] = 0 from rfl,Nat.mul_zero,Nat.add_zero,hV] at hs2
 have hl:val B32 (vs.take n) < B32 ^ n:=by
  have h3:=z1k (vs.take n) (fun z hz => hvs z (List.mem_of_mem_take hz))
  rwa [List.length_take,show min n vs.length = n by omega] at h3
 simp only [Nat.add_zero] at hs
 generalize dg (z2q o k (n + 1)) (n + 1) = t at hs ⊢
 generalize dg vs n = z at hs2 ⊢
 have h1:V < B32 ^ n * (z + 1):=by rw [Nat.mul_add,Nat.mul_one]; omega
 have h2:B32 * V ≤ B32 * (B32 ^ n * (z + 1)):=Nat.mul_le_mul_left _ (Nat.le_of_lt h1)
 have h3:B32 ^ (n + 1) * t < B32 ^ (n + 1) * (z + 1):=by
  rw [Nat.pow_succ,Nat.mul_comm (B32 ^ n) B32,Nat.mul_assoc B32 (B32 ^ n) (z + 1)]
  rw [Nat.pow_succ,Nat.mul_comm (B32 ^ n) B32] at hs
  omega
 have:=Nat.lt_of_mul_lt_mul_left h3
 omega
theorem zm2 {A V m k q r:Nat} {o qs vs:List Nat} (ho:∀ z ∈ o,z < B32) (hvs:∀ z ∈ vs,z < B32) (hk:k + (m + 2) < o.length) (hkq:k < qs.length) (lv:vs.length = m + 2) (hV:val B32 vs = V) (hV1:2147483648 ≤ dg vs (m + 1))
  (h:NDivAt B32 A V (m + 2) o qs (k + 1)) (ht:r + q * dg vs (m + 1) = dg (z2q o k (m + 2)) (m + 2) * B32 + dg (z2q o k (m + 2)) (m + 1)) (hqB:q < B32) (hc:q * dg vs m ≤ r * B32 + dg (z2q o k (m + 2)) m)
  (hok:z8k B32 (dg (z2q o k (m + 2)) (m + 2) * B32 + dg (z2q o k (m + 2)) (m + 1)) (dg (z2q o k (m + 2)) m) (dg vs (m + 1)) (dg vs m) q)
  {ps:List Nat} {b:Nat} (hb:b ≤ 1) (hpl:ps.length = m + 2 + 1) (hps:∀ z ∈ ps,z < B32) (hp:val B32 ps + q * val B32 vs = val B32 (z2q o k (m + 2)) + B32 ^ (m + 2 + 1) * b) :
  (b = 0 → NDivAt B32 A V (m + 2) (putL o k ps) (qs.set k q) k) ∧
  (b = 1 → 0 < q ∧ ∀ rs:List Nat,rs.length = m + 2 + 1 → val B32 rs = (val B32 ps + val B32 vs) % B32 ^ (m + 2 + 1) → NDivAt B32 A V (m + 2) (putL o k rs) (qs.set k (q - 1)) k):=by
 have hVB:V < B32 ^ (m + 2):=by rw [← hV,← lv]; exact z1k vs hvs
 obtain ⟨-,p2,-⟩:=zep z00 ho hk hVB h.low
 have hus:=zq5 ho k (m + 2)
 obtain ⟨g1,g2⟩:=zib z00 (us:=z2q o k (m + 2)) (vs:=vs) (n:=m + 2) (q:=q) (r:=r) hus hvs (z42 hk) lv (by omega) (show 0 < dg vs (m + 1) by omega) (by rw [hV]; exact p2) ht hqB hc hok
 rw [hV] at g1 g2 hp ⊢
 have hU:val B32 (z2q o k (m + 2)) < B32 ^ (m + 2 + 1):=by rw [← z42 hk]; exact z1k _ hus
 have hP:val B32 ps < B32 ^ (m + 2 + 1):=by rw [← hpl]; exact z1k _ hps
 have hVM:V ≤ B32 ^ (m + 2 + 1):=Nat.le_trans (Nat.le_of_lt hVB) (Nat.pow_le_pow_right (by decide) (by omega))
 have hV0:0 < V:=by
  have:=h.low
  omega
 obtain ⟨d1,d2⟩:=ztr hP hb hp g1 g2 hU hVM
 refine ⟨fun e => ?_,fun e => ?_⟩
 ·obtain ⟨e1,e2⟩:=d1 e
  rw [e1]
  exact zh5 z00 ho hk hkq hVB h hpl e2 hV0
 ·obtain ⟨e0,e1,e2⟩:=d2 e
  refine ⟨e0,fun rs hl hr => ?_⟩
  rw [e1]
  exact zh5 z00 ho hk hkq hVB h hl (hr.trans e2) hV0
theorem zif {A V n La s lu Bv:Nat} {o qs:List Nat} (ho:∀ z ∈ o,z < B32) (lo:o.length = La + 1) (hA:val B32 o = A * 2 ^ s) (lA:(rep B32 A).length = La) (hn:1 ≤ n) (hla:n ≤ La) (hV:V = Bv * 2 ^ s) (lB:(rep B32 Bv).length = n) (hq:qs.length = La + 1 - n) (_h:lu = 0) :
  NDivAt B32 (A * 2 ^ s) V n o qs (La + 1 - n):=by
 refine ⟨?_,?_⟩
 ·rw [List.drop_eq_nil_of_le (by omega),show val B32 [] = 0 from rfl,Nat.mul_zero,Nat.mul_zero,Nat.add_zero,hA]
 ·have hs:=z22 (B:=B32) o (La + 1 - n)
  rw [lo,show min (La + 1 - n) (La + 1) = La + 1 - n by omega,hA] at hs
  have h1:A < B32 ^ La:=by rw [← lA]; have:=z1k (rep B32 A) (z3q z00 A); rwa [z0d z00] at this
  have h2:B32 ^ (n - 1) ≤ Bv:=by
   by_cases h:B32 ^ (n - 1) ≤ Bv
   ·exact h
   ·have:=z0f z00 Bv (n - 1) (by omega)
    omega
  have hP:0 < 2 ^ s:=Nat.pow_pos (by decide)
  have h3:A * 2 ^ s < B32 ^ (La + 1 - n) * V:=by
   rw [hV]
   have h4:B32 ^ La * 2 ^ s ≤ B32 ^ (La + 1 - n) * (Bv * 2 ^ s):=by
    rw [← Nat.mul_assoc]
    refine Nat.mul_le_mul_right _ ?_
    have e:B32 ^ La = B32 ^ (La + 1 - n) * B32 ^ (n - 1):=by rw [← Nat.pow_add,show La + 1 - n + (n - 1) = La by omega]
    rw [e]
    exact Nat.mul_le_mul_left _ h2
   exact Nat.lt_of_lt_of_le (Nat.mul_lt_mul_of_pos_right h1 hP) h4
  have h5:B32 ^ (La + 1 - n) * val B32 (o.drop (La + 1 - n)) < B32 ^ (La + 1 - n) * V:=by omega
  exact Nat.lt_of_mul_lt_mul_left h5
theorem zu2 {w:World} {T:TypeId} {g k n cap:Nat} {o:List Nat} (hrow:w.rowIs g T cap (rowU o)) (ho:∀ z ∈ o,z < B32) (hk:k + n < o.length) (hc:o.length ≤ cap) (hcap:cap ≤ 9223372036854775807) :
  U32s (fun j => j = g) w (.slice (some ⟨g,k,none⟩) (n + 1) (n + 1)) (z2q o k n):=by
 refine ⟨g,k,⟨_,n + 1,by rw [z42 hk],by rw [z42 hk]; omega,by unfold maxLen; omega,fun _ => rfl,fun _ => rfl⟩,fun j z hz => ⟨zq5 ho k n z (List.mem_of_getElem? hz),?_⟩⟩
 have hj:=z05 hz
 rw [z42 hk] at hj
 rw [hrow.cell (i:=k + j) (by omega)]
 show some (Value.int .u32 (dg o (k + j):Nat)) = _
 rw [← zcg (n:=n) hj,z0o hz]
end
section
open Go.RowKit
def zes (A B:Nat) (w:World):Ending → World → Prop:=fun e w' =>
 ∃ vq vr,e = .returned (.tuple #[vq,vr,.int .i64 0]) ∧ U32s (New w w') w' vq (rep B32 (A / B)) ∧ U32s (New w w') w' vr (rep B32 (A % B)) ∧ Ext w w'
theorem zm3 {S:Nat → Prop} (va vb:Value) (xs ys:List Nat) (w:World) (ha:U32s S w va xs) (hb:U32s S w vb ys) (hS:∀ k,S k → k < w.heap.size) (hr:xs.length ≤ 100000000000) (hr2:ys.length ≤ 100000000000) (hlt:val B32 xs < val B32 ys) :
  Calls Tryz.prog 140 #[va,vb] w (zes (val B32 xs) (val B32 ys) w):=by
 have HA:=hid ha
 have HB:=hid hb
 have HLT:=hid hlt
 clear ha hb hlt
 go_enter Tryz.func140,Tryz.ntmps140
 go_wp2_with fail
 refine (z23 _ xs _ HA.out hS (by omega)).mono ?_
 rintro e w1 ⟨v1,rfl,hu1,hx1⟩
 have HA1:=hid hu1
 have HX1:=hid hx1
 clear hu1 hx1
 go_wp2_with fail
 refine (z23 _ ys w1 (HB.out.ext HX1.out hS) (fun k hk => Nat.lt_of_lt_of_le (hS k hk) HX1.out.size) (by omega)).mono ?_
 rintro e w2 ⟨v2,rfl,hu2,hx2⟩
 have HX2:=hid (HX1.out.trans hx2)
 have HA2:=hid (HA1.out.to (S':=Old w2) (Kept.ext hx2 (fun _ h => h.2)) (fun k h => Nat.lt_of_lt_of_le h.2 hx2.size))
 have HA3:=hid (HA1.out.to (S':=New w w2) (Kept.ext hx2 (fun _ h => h.2)) (fun k h => ⟨h.1,Nat.lt_of_lt_of_le h.2 hx2.size⟩))
 have HB2:=hid (hu2.to (S':=Old w2) (Kept.refl _ _) (fun k h => h.2))
 obtain ⟨a2,c2,rfl⟩:=hu2.form
 clear hu2 hx2
 have hl0:(((rep B32 (val B32 ys)).length:Int) == 0) = false:=by
  have h1:rep B32 (val B32 ys) ≠ []:=by
   rw [Ne,z2d z00]
   have:=HLT.out
   omega
  have h2:=List.length_pos_iff.2 h1
  rw [beq_eq_false_iff_ne]
  omega
 have CC:=hid (zb4 _ _ _ _ w2 HA2.out HB2.out (fun _ h => h))
 have hcmp:cmpN (val B32 (rep B32 (val B32 xs))) (val B32 (rep B32 (val B32 ys))) = -1:=by
  rw [z0d z00,z0d z00]
  unfold cmpN cmpI
  have:=HLT.out
  rw [if_pos (by omega)]
 rw [hcmp] at CC
 go_wp2_with fail
 refine CC.out.mono ?_
 rintro e w3 ⟨rfl,hx3⟩
 have HX3:=hid hx3
 clear hx3
 go_wp2
 all_goals
  go_ret3
  refine ⟨_,_,rfl,?_,?_,HX2.out.trans HX3.out⟩
  ·rw [Nat.div_eq_of_lt HLT.out]
   exact U32s.nilv _ _ _ _ (by omega)
  ·rw [Nat.mod_eq_of_lt HLT.out]
   exact HA3.out.to (Kept.ext HX3.out (fun _ h => h.2)) (fun k h => ⟨h.1,Nat.lt_of_lt_of_le h.2 HX3.out.size⟩)
theorem zig {S:Nat → Prop} (va vb:Value) (xs ys:List Nat) (w:World) (ha:U32s S w va xs) (hb:U32s S w vb ys) (hS:∀ k,S k → k < w.heap.size) (hr:xs.length ≤ 100000000000) (hr2:ys.length ≤ 100000000000) (hge:val B32 ys ≤ val B32 xs) (h1:(rep B32 (val B32 ys)).length = 1) :
  Calls Tryz.prog 140 #[va,vb] w (zes (val B32 xs) (val B32 ys) w):=by
 have HA:=hid ha
 have HB:=hid hb
 have HGE:=hid hge
 have HLA:Hid ((rep B32 (val B32 xs)).length ≤ xs.length):=hid (z0f z00 _ _ (z1k xs ha.lt))
 obtain ⟨d,hd⟩:∃ d,rep B32 (val B32 ys) = [d]:=by
  match h:rep B32 (val B32 ys),h1 with
  | [d],_ => exact ⟨d,rfl⟩
 have hdb:d < B32:=z3q z00 (val B32 ys) d (by rw [hd]; exact List.mem_singleton.2 rfl)
 have hv:val B32 ys = d:=by
  have h2:=z0d z00 (val B32 ys)
  rw [hd] at h2
  rw [← h2]
  simp [val]
 have hd0:0 < d:=by
  rcases Nat.eq_zero_or_pos d with h | h
  ·rw [hv,h] at hd
   simp [z36] at hd
  ·exact h
 obtain ⟨r,hr0⟩:∃ r,r = val B32 xs % d:=⟨_,rfl⟩
 have hrb:r < 18446744073709551616:=by rw [hr0]; exact Nat.lt_trans (Nat.lt_trans (Nat.mod_lt _ hd0) hdb) (by decide)
 have hd64:IntKind.u64.wrap (r:Int) = (r:Int):=z0w hrb
 have HRB:=hid hrb
 have HR0:=hid hr0
 have HD:=hid (And.intro hd (And.intro hdb (And.intro hv hd0)))
 clear ha hb hge h1 hd hdb hv hd0 hr0 hrb
 go_enter Tryz.func140,Tryz.ntmps140
 go_wp2_with fail
 refine (z23 _ xs _ HA.out hS (by omega)).mono ?_
 rintro e w1 ⟨v1,rfl,hu1,hx1⟩
 have HA1:=hid hu1
 have HX1:=hid hx1
 clear hu1 hx1
 go_wp2_with fail
 refine (z23 _ ys w1 (HB.out.ext HX1.out hS) (fun k hk => Nat.lt_of_lt_of_le (hS k hk) HX1.out.size) (by omega)).mono ?_
 rintro e w2 ⟨v2,rfl,hu2,hx2⟩
 rw [HD.out.1] at hu2
 have HX2:=hid (HX1.out.trans hx2)
 have HA2:=hid (HA1.out.to (S':=Old w2) (Kept.ext hx2 (fun _ h => h.2)) (fun k h => Nat.lt_of_lt_of_le h.2 hx2.size))
 have HB2:=hid (hu2.to (S':=Old w2) (Kept.refl _ _) (fun k h => h.2))
 obtain ⟨a2,c2,rfl⟩:=hu2.form
 obtain ⟨b2,o2,rfl,-,hn2,hm2,hs2,hb2,hcell⟩:=hu2.cellAt (k:=0) (z:=d) rfl
 rw [Nat.add_zero] at hcell
 have HS2:=hid hs2.2
 clear hu2 hx2 hs2
 have CC:=hid (zb4 _ _ _ _ w2 HA2.out HB2.out (fun _ h => h))
 obtain ⟨c,hc⟩:∃ c,c = cmpN (val B32 (rep B32 (val B32 xs))) (val B32 [d]):=⟨_,rfl⟩
 have hcmp:0 ≤ c:=by
  have e:val B32 [d] = d:=by simp [val]
  rw [hc,z0d z00,e,← HD.out.2.2.1]
  unfold cmpN cmpI
  have:=HGE.out
  split
  ·omega
  ·split <;> omega
 rw [← hc] at CC
 clear hc
 go_wp2_with fail
 refine CC.out.mono ?_
 rintro e w3 ⟨rfl,hx3⟩
 have hcell3:=hx3.cell hcell
 have HX3:=hid (HX2.out.trans hx3)
 have HA3:=hid (HA2.out.to (S':=Old w3) (Kept.ext hx3 (fun _ h => h)) (fun k h => Nat.lt_of_lt_of_le h hx3.size))
 have CL:=hid (ztx _ _ d w3 HA3.out (fun _ h => h) (by have:=HLA.out; omega) HD.out.2.2.2 HD.out.2.1)
 rw [z0d z00,← HR0.out] at CL
 clear hx3 hcell
 go_wp2_with fail
 refine CL.out.mono ?_
 rintro e w4 ⟨v4,rfl,hu4,hx4⟩
 have HU4:=hid hu4
 have HX4:=hid hx4
 clear hu4 hx4
 have CS:=hid (zbz r w4 HRB.out)
 go_wp2_with fail
 refine CS.out.mono ?_
 rintro e w5 ⟨v5,rfl,hu5,hx5⟩
 have HU5:=hid hu5
 have HX5:=hid hx5
 clear hu5 hx5
 go_wp2
 all_goals
  go_ret3
  have x3:=HX3.out
  have x4:=HX4.out
  have x5:=HX5.out
  refine ⟨_,_,rfl,?_,?_,(x3.trans x4).trans x5⟩
  ·rw [HD.out.2.2.1]
   exact HU4.out.to (Kept.ext x5 (fun _ h => h.2)) (fun k h => ⟨Nat.le_trans x3.size h.1,Nat.lt_of_lt_of_le h.2 x5.size⟩)
  ·rw [HD.out.2.2.1,← HR0.out]
   exact HU5.out.to (Kept.refl _ _) (fun k h => ⟨Nat.le_trans (Nat.le_trans x3.size x4.size) h.1,h.2⟩)
end
section
open Go.RowKit
theorem zih {S:Nat → Prop} (va vb:Value) (xs ys:List Nat) (w:World) (ha:U32s S w va xs) (hb:U32s S w vb ys) (hS:∀ k,S k → k < w.heap.size) (hr:xs.length ≤ 100000000000) (hr2:ys.length ≤ 100000000000) (hge:val B32 ys ≤ val B32 xs) (m:Nat) (h2:(rep B32 (val B32 ys)).length = m + 2) :
  Calls Tryz.prog 140 #[va,vb] w (zes (val B32 xs) (val B32 ys) w):=by
 have HA:=hid ha
 have HB:=hid hb
 have HLA:Hid ((rep B32 (val B32 xs)).length ≤ xs.length):=hid (z0f z00 _ _ (z1k xs ha.lt))
 have HLB:Hid ((rep B32 (val B32 ys)).length ≤ ys.length):=hid (z0f z00 _ _ (z1k ys hb.lt))
 have HAB:Hid ((rep B32 (val B32 ys)).length ≤ (rep B32 (val B32 xs)).length):=hid (z1o hge)
 obtain ⟨A,hA⟩:∃ A,A = val B32 xs:=⟨_,rfl⟩
 obtain ⟨D,hD⟩:∃ D,D = val B32 ys:=⟨_,rfl⟩
 rw [← hA] at hge HLA HAB ⊢
 rw [← hD] at hge h2 HLB HAB ⊢
 have HAE:=hid hA
 have HDE:=hid hD
 have HGE:=hid hge
 obtain ⟨La,hLa⟩:∃ La,La = (rep B32 A).length:=⟨_,rfl⟩
 rw [← hLa,h2] at HAB
 rw [← hLa] at HLA
 rw [h2] at HLB
 have hla1:m + 2 ≤ La:=HAB.out
 have hla2:La ≤ 100000000000:=Nat.le_trans HLA.out hr
 have HLL:=hid hLa
 have HL2:=hid h2
 have hD0:0 < D:=by
  rcases Nat.eq_zero_or_pos D with h | h
  ·rw [h,z36] at h2
   cases h2
  ·exact h
 have HD0:=hid hD0
 clear ha hb hge hLa h2 hD0 hA hD
 go_enter Tryz.func140,Tryz.ntmps140
 go_wp2_with fail
 refine (z23 _ xs _ HA.out hS (by omega)).mono ?_
 rintro e w1 ⟨v1,rfl,hu1,hx1⟩
 rw [← HAE.out] at hu1
 have HA1:=hid hu1
 have HX1:=hid hx1
 clear hu1 hx1
 go_wp2_with fail
 refine (z23 _ ys w1 (HB.out.ext HX1.out hS) (fun k hk => Nat.lt_of_lt_of_le (hS k hk) HX1.out.size) (by omega)).mono ?_
 rintro e w2 ⟨v2,rfl,hu2,hx2⟩
 rw [← HDE.out] at hu2
 have HX2:=hid (HX1.out.trans hx2)
 have HA2:=hid (HA1.out.to (S':=Old w2) (Kept.ext hx2 (fun _ h => h.2)) (fun k h => Nat.lt_of_lt_of_le h.2 hx2.size))
 have HB2:=hid (hu2.to (S':=Old w2) (Kept.refl _ _) (fun k h => h.2))
 obtain ⟨a2,c2,rfl⟩:=hu2.form
 rw [HL2.out] at HB2 ⊢
 obtain ⟨a1,c1,rfl⟩:=HA2.out.form
 rw [← HLL.out] at HA2 ⊢
 clear hu2 hx2 HA1
 have CC:=hid (zb4 _ _ _ _ w2 HA2.out HB2.out (fun _ h => h))
 obtain ⟨c,hc⟩:∃ c,c = cmpN (val B32 (rep B32 A)) (val B32 (rep B32 D)):=⟨_,rfl⟩
 have hcmp:0 ≤ c:=by
  rw [hc,z0d z00,z0d z00]
  unfold cmpN cmpI
  have:=HGE.out
  split
  ·omega
  ·split <;> omega
 rw [← hc] at CC
 clear hc
 go_wp2_with fail
 refine CC.out.mono ?_
 rintro e w3 ⟨rfl,hx3⟩
 have HX3:=hid (HX2.out.trans hx3)
 have HA3:=hid (HA2.out.to (S':=Old w3) (Kept.ext hx3 (fun _ h => h)) (fun k h => Nat.lt_of_lt_of_le h hx3.size))
 have HB3:=hid (HB2.out.to (S':=Old w3) (Kept.ext hx3 (fun _ h => h)) (fun k h => Nat.lt_of_lt_of_le h hx3.size))
 have CB:=hid (zie _ _ w3 HB3.out (by rw [HL2.out]; omega) (by rw [z0d z00]; exact HD0.out))
 rw [z0d z00] at CB
 clear hx3
 go_wp2_with fail
 refine CB.out.mono ?_
 rintro e w3' ⟨m',k,rfl,hm',hk1,hk2,ht1,ht2,rfl⟩
 obtain rfl:m' = m + 1:=by have:=HL2.out; omega
 obtain ⟨s,hs⟩:∃ s,s = 32 - k:=⟨_,rfl⟩
 have HN:=hid (zu0 HL2.out hk1 hk2 ht1 ht2)
 rw [← hs,show m + 1 + 1 = m + 2 from rfl] at HN
 have hs32:s < 32:=by omega
 have hsh:32 * ((m:Int) + 2) - (32 * ((m:Int) + 1) + (k:Int)) = (s:Int):=by omega
 clear ht1 ht2 hs
 have CV:=hid (zq2 _ _ s w3 HB3.out (fun _ h => h) (by rw [HL2.out]; omega) hs32)
 rw [z0d z00,HL2.out,HN.out.1] at CV
 go_wp2_with fail
 refine CV.out.mono ?_
 rintro e w4 ⟨gv,rfl,hgv1,hgv2,hrv,hx4⟩
 have HX4:=hid (HX3.out.trans hx4)
 have HGV:=hid (And.intro hgv1 hgv2)
 have HRV:=hid hrv
 have HA4:=hid (HA3.out.to (S':=Old w4) (Kept.ext hx4 (fun _ h => h)) (fun k h => Nat.lt_of_lt_of_le h hx4.size))
 clear hx4 hgv1 hgv2 hrv
 have CU:=hid (zq2 _ _ s w4 HA4.out (fun _ h => h) (by rw [← HLL.out]; omega) hs32)
 rw [z0d z00,← HLL.out] at CU
 go_wp2_with fail
 refine CU.out.mono ?_
 rintro e w5 ⟨gu,rfl,hgu1,hgu2,hru,hx5⟩
 obtain ⟨lu,hlu⟩:∃ lu,lu = (rep B32 (A * 2 ^ s)).length:=⟨_,rfl⟩
 rw [← hlu]
 have hlu1:lu ≤ La + 1:=by
  rw [hlu]
  refine z0f z00 _ _ ?_
  have h1:A < B32 ^ La:=by
   have h2:=z1k (rep B32 A) (z3q z00 A)
   rwa [z0d z00,← HLL.out] at h2
  have h3:2 ^ s ≤ B32:=show 2 ^ s ≤ 2 ^ 32 from Nat.pow_le_pow_right (by decide) (by omega)
  rw [Nat.pow_succ]
  exact Nat.lt_of_lt_of_le (Nat.mul_lt_mul_of_pos_right h1 (Nat.pow_pos (by decide))) (Nat.mul_le_mul_left _ h3)
 have hlu2:La ≤ lu:=by
  rw [hlu,HLL.out]
  exact z1o (Nat.le_mul_of_pos_right _ (Nat.pow_pos (by decide)))
 have HLU:=hid hlu
 have HRU:=hid hru
 have HGU:=hid (And.intro hgu1 hgu2)
 have HX5:=hid hx5
 clear hlu hru hgu1 hgu2 hx5
 go_wp2
 go_loopw [13] (fun s13 wr => ∃ l:Nat,s13 = .slice (some ⟨gu,0,none⟩) l (La + 1) ∧ lu ≤ l ∧ l ≤ La + 1 ∧ wr.rowIs gu 74 (La + 1) (rowU (rep B32 (A * 2 ^ s))) ∧ Ext w4 wr) (fun s13 _ => La + 1 - (z1i s13))
 case atStart => exact ⟨lu,rfl,Nat.le_refl _,hlu1,HRU.out,HX5.out⟩
 case round =>
  obtain ⟨l,rfl,hl1,hl2,hrow,hx⟩:=hrel
  have HR:=hid hrow
  have HX:=hid hx
  clear hrow hx
  by_cases hlt:l ≤ La
  ·have hra:=HR.out.alloc (.cells #[.int .u32 0] 74)
   have hfz:=hra.frozen l
   have hfc:=hra.cell (i:=l) (by omega)
   have HRA:=hid hra
   clear hra
   go_wp2
   refine ⟨⟨l + 1,rfl,by omega,by omega,?_,?_⟩,by simp only [z1i]; omega⟩
   ·refine (HRA.out.set l (.int .u32 0)).congr (fun i hi => ?_)
    by_cases e:i = l
    ·rw [if_pos e,e]
     unfold rowU
     rw [z2n (by rw [← HLU.out]; exact hl1)]
     rfl
    ·rw [if_neg e]
   ·exact (Ext.alloc HX.out _).setCell HGU.out.1 _
  ·obtain rfl:l = La + 1:=by omega
   obtain ⟨nq,hnq⟩:∃ nq,nq = La + 1 - (m + 2):=⟨_,rfl⟩
   have hnq2:(La:Int) + 1 - ((m:Int) + 2) = (nq:Int):=by omega
   have hnq3:nq + (m + 2) = La + 1:=by omega
   have hmk:=run_make_row' (P:=Tryz.prog) 28 74 (.int .u32 0) 4 Tryz.underlying28 Tryz.infoU32 rfl .i64 .i64 nq (by omega) (by omega) wr
   have HQ0:=hid (z5w wr nq 74)
   have HQX:=hid (Ext.alloc HX.out (.cells (madeCells #[.int .u32 0] nq) 74))
   have HQU:=hid (HR.out.alloc (.cells (madeCells #[.int .u32 0] nq) 74))
   have HGW:=hid HR.out.lt
   have HXS:=hid HX.out.size
   have HVW:=hid (World.rowIs.of_block HRV.out (HQX.out.block gv HGV.out.2))
   obtain ⟨gq,hgq⟩:∃ gq,gq = wr.heap.size:=⟨_,rfl⟩
   obtain ⟨w6,hw6⟩:∃ w6,w6 = wr.alloc (.cells (madeCells #[.int .u32 0] nq) 74):=⟨_,rfl⟩
   rw [← hw6,← hgq] at hmk HQ0
   rw [← hw6] at HQX HQU HVW
   rw [← hgq] at HGW HXS
   clear hnq hgq hw6
   go_wp2
   obtain ⟨V,hV⟩:∃ V,V = D * 2 ^ s:=⟨_,rfl⟩
   obtain ⟨vs,hvs⟩:∃ vs,vs = rep B32 V:=⟨_,rfl⟩
   have hvv:val B32 vs = V:=by rw [hvs,z0d z00]
   have hvl:∀ z ∈ vs,z < B32:=by rw [hvs]; exact z3q z00 V
   rw [← hV,← hvs] at HN HVW
   have HVS:=hid (And.intro hvv hvl)
   have HVE:=hid hV
   clear hV hvs hvv hvl
   go_loopw [87] (fun s87 wq => ∃ (i:Nat) (o qs:List Nat),s87 = .int .i64 (i:Nat) ∧ i ≤ nq ∧ Hid (o.length = La + 1 ∧ (∀ z ∈ o,z < B32) ∧ qs.length = nq ∧ (∀ z ∈ qs,z < B32) ∧ NDivAt B32 (A * 2 ^ s) V (m + 2) o qs (nq - i)) ∧
    wq.rowIs gu 74 (La + 1) (rowU o) ∧ wq.rowIs gq 74 nq (rowU qs) ∧ wq.rowIs gv 74 (m + 2 + 1) (rowU vs) ∧ Ext w4 wq) (fun s87 _ => nq - (intOf s87).toNat)
   case atStart =>
    obtain ⟨ro,hro⟩:∃ ro,ro = rep B32 (A * 2 ^ s):=⟨_,rfl⟩
    obtain ⟨o,ho⟩:∃ o,o = ro ++ List.replicate (La + 1 - lu) 0:=⟨_,rfl⟩
    have hrl:ro.length = lu:=by rw [hro]; exact HLU.out.symm
    have hol:o.length = La + 1:=by rw [ho,List.length_append,List.length_replicate,hrl]; omega
    have hob:∀ z ∈ o,z < B32:=by
     intro z hz
     rw [ho] at hz
     rcases List.mem_append.1 hz with h | h
     ·rw [hro] at h
      exact z3q z00 _ z h
     ·rw [(List.mem_replicate.1 h).2]; decide
    have hov:val B32 o = A * 2 ^ s:=by rw [ho,z3d,z5s,Nat.mul_zero,Nat.add_zero,hro,z0d z00]
    refine ⟨0,o,List.replicate nq 0,rfl,Nat.zero_le _,hid ⟨hol,hob,by simp,fun z hz => by rw [(List.mem_replicate.1 hz).2]; decide,?_⟩,?_,HQ0.out,HVW.out,HQX.out⟩
    ·have h1:=zif (A:=A) (V:=V) (n:=m + 2) (La:=La) (s:=s) (Bv:=D) (lu:=0) (qs:=List.replicate nq 0) hob hol hov HLL.out.symm (by omega) hla1 HVE.out HL2.out (by simp; omega) rfl
     rwa [show La + 1 - (m + 2) = nq by omega] at h1
    ·rw [z9d (zv9 hob _ hov)]
     exact HQU.out
   case round =>
    obtain ⟨i,o,qs,rfl,hi,HI,hrow,hrq,hrv,hx⟩:=hrel
    have HRO:=hid hrow
    have HRQ:=hid hrq
    have HRW:=hid hrv
    have HXQ:=hid hx
    by_cases hlt:i < nq
    ·obtain ⟨j,hj⟩:∃ j,j + 1 = nq - i:=⟨nq - i - 1,by omega⟩
     have hj2:(nq:Int) - 1 - (i:Int) = (j:Int):=by omega
     obtain ⟨p,hp⟩:∃ p,p = j + (m + 2) + 1:=⟨_,rfl⟩
     have hj3:(j:Int) + ((m:Int) + 2) + 1 = (p:Int):=by omega
     have hj4:p ≤ La + 1:=by omega
     have hj5:j ≤ p:=by omega
     have hj6:p - j = m + 2 + 1:=by omega
     have HP:=hid hp
     clear hp
     have HJ:=hid hj
     clear hrow hrq hrv hx
     have HO:=hid (And.intro HI.out.1 HI.out.2.1)
     have hkn:j + (m + 2) < o.length:=by rw [HO.out.1]; omega
     have HKN:=hid hkn
     have hcap:La + 1 ≤ 9223372036854775807:=by omega
     have hdiv:NDivAt B32 (A * 2 ^ s) V (m + 2) o qs (j + 1):=by rw [hj]; exact HI.out.2.2.2.2
     have HDIV:=hid hdiv
     have HUP:=hid (zu2 HRO.out HO.out.2 hkn (by rw [HO.out.1]; omega) hcap)
     have HVP:Hid (U32s (fun j => j = gv) wr (.slice (some ⟨gv,0,none⟩) (m + 2) (m + 2 + 1)) vs):=hid (by
      have h1:=U32s.of_row HRW.out (by rw [HN.out.1]; omega) HVS.out.2 (by omega)
      rwa [HN.out.1] at h1)
     have CG:=hid (zpx (S:=Old wr) _ _ _ _ m wr (HUP.out.to (Kept.refl _ _) (fun k hk => by rw [hk]; exact HRO.out.lt)) (HVP.out.to (Kept.refl _ _) (fun k hk => by rw [hk]; exact HRW.out.lt)) (fun _ h => h) (z42 hkn) HN.out.1 HN.out.2
      (zyy HO.out.2 HVS.out.2 hkn HN.out.1 HVS.out.1 hdiv.low))
     clear hkn hdiv hj
     go_wp2_with fail
     refine CG.out.mono ?_
     rintro e w7 ⟨q,r,rfl,hx7,hq7,ht7,hc7,hok7⟩
     have HX7:=hid hx7
     have HRO7:=hid (HRO.out.of_block (hx7.block gu HRO.out.lt))
     have HRQ7:=hid (HRQ.out.of_block (hx7.block gq HRQ.out.lt))
     have HRW7:=hid (HRW.out.of_block (hx7.block gv HRW.out.lt))
     have HVP7:=hid (HVP.out.to (Kept.ext hx7 (fun k hk => by rw [hk]; exact HRW.out.lt)) (fun k h => h))
     have HQ7:=hid (And.intro ht7 (And.intro hc7 hok7))
     have HQB:=hid hq7
     have CO:=hid (zxf (S:=fun j => j = gv) (w:=w7) (g:=gu) (k:=j) (n:=m + 2) (cap:=La + 1) (q:=q) (o:=o) (vs:=vs) _ HRO7.out (by rw [HO.out.1]; omega) HO.out.2 HKN.out HVP7.out (fun k hk => ⟨by rw [hk]; exact HRW7.out.lt,by rw [hk]; have:=HGV.out.2; have:=HGU.out.1; omega⟩) HN.out.1 hq7 hcap)
     clear hx7 hq7 ht7 hc7 hok7 CG
     go_wp2_with fail
     refine CO.out.mono ?_
     rintro e w8 ⟨ps,b,rfl,hb1,hpl,hps,hpv,hro8,hgb8,hsz8⟩
     have HP8:=hid (And.intro hpl (And.intro hps hpv))
     have HRO8:=hid hro8
     have HGB8:=hid (And.intro hgb8 hsz8)
     have HRQ8:=hid (HRQ7.out.of_block (hgb8.block gq HRQ7.out.lt (fun e => by have:=HGW.out; cases e; omega)))
     have HRW8:=hid (HRW7.out.of_block (hgb8.block gv HRW7.out.lt (fun e => by have:=HGV.out.2; have:=HGU.out.1; cases e; omega)))
     have HX8:=hid (z0n (HXQ.out.trans HX7.out) hgb8 (fun k hk => by cases hk; exact HGU.out.1))
     have HK:=hid (zm2 HO.out.2 HVS.out.2 HKN.out (by rw [HI.out.2.2.1]; omega) HN.out.1 HVS.out.1 HN.out.2 HDIV.out HQ7.out.1 HQB.out HQ7.out.2.1 HQ7.out.2.2 hb1 hpl hps hpv)
     clear hpl hps hpv hro8 hgb8 hsz8 CO
     rcases (show b = 0 ∨ b = 1 by omega) with rfl | rfl
     ·have hd0:decide ((0:Nat) = 1) = false:=rfl
      have hq32:(q:Int) % 4294967296 = (q:Int):=by have h1:q < 4294967296:=HQB.out; omega
      have hcq:=HRQ8.out.cell (i:=j) (by omega)
      have hfq:=HRQ8.out.frozen j
      go_wp2
      refine ⟨⟨i + 1,putL o j ps,qs.set j q,rfl,by omega,hid ⟨?_,zq6 HO.out.2 HP8.out.2.1 j,by rw [List.length_set]; exact HI.out.2.2.1,zer HI.out.2.2.2.1 HQB.out,?_⟩,?_,?_,?_,?_⟩,?_⟩
      ·rw [zeo (by rw [HP8.out.1]; have:=HKN.out; omega)]; exact HO.out.1
      ·rw [show nq - (i + 1) = j by omega]
       exact HK.out.1 (by first | rfl | trivial)
      ·exact HRO8.out.setOther (by have:=HGW.out; show gu ≠ gq; omega) _
      ·exact z5d HRQ8.out j q (by rw [HI.out.2.2.1]; omega)
      ·exact HRW8.out.setOther (by have h1:=HGW.out; have h2:=HGV.out.2; have h3:=HGU.out.1; show gv ≠ gq; omega) _
      ·exact HX8.out.setCell HXS.out _
      ·simp only [intOf]; omega
     ·obtain ⟨hq0,hk⟩:=HK.out.2 rfl
      have HKK:=hid hk
      obtain ⟨q',hq'⟩:∃ q',q' = q - 1:=⟨_,rfl⟩
      have hq1:(q:Int) - 1 = (q':Int):=by omega
      have hqb':q' < B32:=by have:=HQB.out; omega
      have hq64:IntKind.u64.wrap (q':Int) = (q':Int):=z0w (Nat.lt_trans hqb' (by decide))
      have hq32:(q':Int) % 4294967296 = (q':Int):=by have h1:q' < 4294967296:=hqb'; omega
      have HQB':=hid hqb'
      have HQ':=hid hq'
      have hd0:decide ((1:Nat) = 1) = true:=rfl
      clear hqb' hk hq'
      have hol8:(putL o j ps).length = La + 1:=by rw [zeo (by rw [HP8.out.1]; have:=HKN.out; omega)]; exact HO.out.1
      have HVP8:=hid (HVP7.out.to (S':=fun k => k = gv) (show Kept (fun k => k = gv) w7 w8 from fun k hk => by rw [hk]; exact HGB8.out.1.block gv HRW7.out.lt (fun e => by have:=HGV.out.2; have:=HGU.out.1; cases e; omega)) (fun k h => h))
      have CN:=hid (zyw (S:=fun j => j = gv) (w:=w8) (g:=gu) (k:=j) (n:=m + 2) (cap:=La + 1) (o:=putL o j ps) (vs:=vs) (.slice (some ⟨gv,0,none⟩) (m + 2) (m + 2 + 1)) HRO8.out (by omega) (zq6 HO.out.2 HP8.out.2.1 j) (by omega) HVP8.out (fun k hk => ⟨by rw [hk]; exact HRW8.out.lt,by rw [hk]; have:=HGV.out.2; have:=HGU.out.1; omega⟩) HN.out.1 hcap)
      have HOL8:=hid hol8
      clear hol8
      go_wp2_with fail
      refine CN.out.mono ?_
      rintro e w9 ⟨rs,rfl,hrl,hrs,hrv9,hro9,hgb9,hsz9⟩
      rw [zu1 HKN.out HP8.out.1] at hrv9
      rw [zxi HKN.out HP8.out.1 hrl] at hro9
      have HR9:=hid (And.intro hrl (And.intro hrs hrv9))
      have HRO9:=hid hro9
      have HRQ9:=hid (HRQ8.out.of_block (hgb9.block gq HRQ8.out.lt (fun e => by have:=HGW.out; cases e; omega)))
      have HRW9:=hid (HRW8.out.of_block (hgb9.block gv HRW8.out.lt (fun e => by have:=HGV.out.2; have:=HGU.out.1; cases e; omega)))
      have HX9:=hid (z0n HX8.out hgb9 (fun k hk => by cases hk; exact HGU.out.1))
      have hcq:=HRQ9.out.cell (i:=j) (by omega)
      have hfq:=HRQ9.out.frozen j
      clear hrl hrs hrv9 hro9 hgb9 hsz9 CN
      go_wp2
      refine ⟨⟨i + 1,putL o j rs,qs.set j q',rfl,by omega,hid ⟨?_,zq6 HO.out.2 HR9.out.2.1 j,by rw [List.length_set]; exact HI.out.2.2.1,zer HI.out.2.2.2.1 HQB'.out,?_⟩,?_,?_,?_,?_⟩,?_⟩
      ·rw [zeo (by rw [HR9.out.1]; have:=HKN.out; omega)]; exact HO.out.1
      ·rw [show nq - (i + 1) = j by omega,HQ'.out]
       exact HKK.out rs HR9.out.1 HR9.out.2.2
      ·exact HRO9.out.setOther (by have:=HGW.out; show gu ≠ gq; omega) _
      ·exact z5d HRQ9.out j q' (by rw [HI.out.2.2.1]; omega)
      ·exact HRW9.out.setOther (by have h1:=HGW.out; have h2:=HGV.out.2; have h3:=HGU.out.1; show gv ≠ gq; omega) _
      ·exact HX9.out.setCell HXS.out _
      ·simp only [intOf]; omega
    ·obtain rfl:i = nq:=by omega
     clear hrow hrq hrv hx
     obtain ⟨I1,I2,I3,I4,I5⟩:=HI.out
     rw [Nat.sub_self] at I5
     have hV0:0 < V:=by rw [HVE.out]; exact Nat.mul_pos HD0.out (Nat.pow_pos (by decide))
     obtain ⟨dq,dr⟩:=zpw hV0 I5
     have hs2:=zm1 (a:=A) (b:=D) (c:=2 ^ s) (Nat.pow_pos (by decide))
     have hq:val B32 qs = A / D:=by rw [dq,HVE.out]; exact hs2.1
     have hrest:val B32 (o.take (m + 2)) / 2 ^ s = A % D:=by
      have h1:=z22 (B:=B32) o (m + 2)
      rw [I1,show min (m + 2) (La + 1) = m + 2 by omega] at h1
      have hVB:V < B32 ^ (m + 2):=by rw [← HVS.out.1,← HN.out.1]; exact z1k vs HVS.out.2
      have h2:val B32 o < V:=by rw [dr]; exact Nat.mod_lt _ hV0
      have h3:val B32 (o.drop (m + 2)) = 0:=by
       rcases Nat.eq_zero_or_pos (val B32 (o.drop (m + 2))) with h | h
       ·exact h
       ·have:=Nat.le_mul_of_pos_right (B32 ^ (m + 2)) h
        omega
      rw [h3,Nat.mul_zero,Nat.add_zero] at h1
      rw [← h1,dr,HVE.out,hs2.2,Nat.mul_div_cancel _ (Nat.pow_pos (by decide))]
     have hur:U32s (Old wr) wr (.slice (some ⟨gu,0,none⟩) (m + 2) (La + 1)) (o.take (m + 2)):=by
      have h1:=U32s.of_row HRO.out (by omega) I2 (by omega)
      rw [I1] at h1
      exact (h1.take (by omega)).to (Kept.refl _ _) (fun k hk => by rw [hk]; exact HRO.out.lt)
     have huq:U32s (fun k => k = gq) wr (.slice (some ⟨gq,0,none⟩) i i) qs:=by
      have h1:=U32s.of_row HRQ.out (by omega) I4 (by omega)
      rwa [I3] at h1
     have CR:=hid (zxg _ _ s wr hur (fun _ h => h) (by rw [List.length_take]; omega) hs32)
     rw [hrest] at CR
     have HUQ:=hid huq
     have HLQ:=hid I3
     have HQV:=hid hq
     clear I1 I2 I3 I4 I5 hV0 dq dr hs2 hq hrest hur huq
     go_wp2_with fail
     refine CR.out.mono ?_
     rintro e w7 ⟨v7,rfl,hu7,hx7⟩
     have HU7:=hid hu7
     have HX7:=hid hx7
     have CQ:=hid (z23 _ _ w7 (HUQ.out.to (S':=Old w7) (Kept.ext hx7 (fun k hk => by rw [hk]; exact HRQ.out.lt)) (fun k hk => by rw [hk]; exact Nat.lt_of_lt_of_le HRQ.out.lt hx7.size)) (fun _ h => h) (by have:=HLQ.out; omega))
     rw [HQV.out] at CQ
     clear hu7 hx7 CR
     go_wp2_with fail
     refine CQ.out.mono ?_
     rintro e w8 ⟨v8,rfl,hu8,hx8⟩
     have HU8:=hid hu8
     have HX8:=hid hx8
     clear hu8 hx8 CQ
     go_wp2
     all_goals
      go_ret3
      have x4:=HX4.out
      have x6:=HXQ.out
      have x7:=HX7.out
      have x8:=HX8.out
      refine ⟨_,_,rfl,HU8.out.to (Kept.refl _ _) (fun k h => ⟨Nat.le_trans (Nat.le_trans (Nat.le_trans x4.size x6.size) x7.size) h.1,h.2⟩),HU7.out.to (Kept.ext x8 (fun _ h => h.2)) (fun k h => ⟨Nat.le_trans (Nat.le_trans x4.size x6.size) h.1,Nat.lt_of_lt_of_le h.2 x8.size⟩),((x4.trans x6).trans x7).trans x8⟩
end
section
open Go.RowKit
theorem zq7 {S:Nat → Prop} (va vb:Value) (xs ys:List Nat) (w:World) (ha:U32s S w va xs) (hb:U32s S w vb ys) (hS:∀ k,S k → k < w.heap.size) (hr:xs.length ≤ 100000000000) (hr2:ys.length ≤ 100000000000) (h0:0 < val B32 ys) :
  Calls Tryz.prog 140 #[va,vb] w (zes (val B32 xs) (val B32 ys) w):=by
 by_cases hlt:val B32 xs < val B32 ys
 ·exact zm3 va vb xs ys w ha hb hS hr hr2 hlt
 ·by_cases h1:(rep B32 (val B32 ys)).length = 1
  ·exact zig va vb xs ys w ha hb hS hr hr2 (by omega) h1
  ·have hl:0 < (rep B32 (val B32 ys)).length:=by
    rw [List.length_pos_iff,Ne,z2d z00]
    omega
   exact zih va vb xs ys w ha hb hS hr hr2 (by omega) ((rep B32 (val B32 ys)).length - 2) (by omega)
end
section
open Go.RowKit
theorem zq8 {S:Nat → Prop} (va vb:Value) (xs ys:List Nat) (w:World) (ha:U32s S w va xs) (hb:U32s S w vb ys) (hS:∀ k,S k → k < w.heap.size) (hr:xs.length ≤ 100000000000) (hr2:ys.length ≤ 100000000000) (h0:0 < val B32 ys) (hd:val B32 xs % val B32 ys = 0) :
  Calls Tryz.prog 141 #[va,vb] w fun e w' => ∃ v',e = .returned (.tuple #[v',.int .i64 0]) ∧ U32s (New w w') w' v' (rep B32 (val B32 xs / val B32 ys)) ∧ Ext w w':=by
 have C:=hid (zq7 va vb xs ys w ha hb hS hr hr2 h0)
 have HD:=hid hd
 clear ha hb h0 hd
 go_enter Tryz.func141,Tryz.ntmps141
 go_wp2_with fail
 refine C.out.mono ?_
 rintro e w1 ⟨vq,vr,rfl,hq,hr1,hx⟩
 rw [HD.out,z36] at hr1
 obtain ⟨a,c,rfl⟩:=hr1.form
 have HQ:=hid hq
 have HX:=hid hx
 clear hq hr1 hx
 go_wp2
 all_goals
  go_ret2
  exact ⟨_,rfl,HQ.out,HX.out⟩
theorem zq9 {S:Nat → Prop} (vx vy:Value) (x y:RInt) (w:World) (hx:IntV S w vx x) (hy:IntV S w vy y) (hS:∀ k,S k → k < w.heap.size) (hr:x.mag.length ≤ 10000000000) (hr2:y.mag.length ≤ 10000000000) :
  Calls Tryz.prog 122 #[vx,vy] w fun e w' => ∃ v',e = .returned v' ∧ IntV (New w w') w' v' (ofI (Int.gcd (valI x) (valI y):Nat)) ∧ Ext w w':=by
 obtain ⟨xn,xs⟩:=x
 obtain ⟨yn,ys⟩:=y
 obtain ⟨vxm,rfl,hxu⟩:=hx
 obtain ⟨vym,rfl,hyu⟩:=hy
 simp only at hxu hyu hr hr2 ⊢
 have HG:Hid (Int.gcd (valI ⟨xn,xs⟩) (valI ⟨yn,ys⟩) = Nat.gcd (val B32 xs) (val B32 ys)):=hid (by
  unfold valI
  cases xn <;> cases yn <;> simp [Int.gcd])
 rw [HG.out]
 have HX:=hid hxu
 have HY:=hid hyu
 obtain ⟨ax,cx,rfl⟩:=hxu.form
 obtain ⟨ay,cy,rfl⟩:=hyu.form
 have HLX:=hid (Nat.le_trans (z6d hxu.lt) hr)
 have HLY:=hid (Nat.le_trans (z6d hyu.lt) hr2)
 clear hxu hyu
 have HK:=hid (Ext.alloc (Ext.alloc (Ext.alloc (Ext.refl w) (.cells #[.bool xn,.slice ax xs.length cx] 30)) (.cells #[.bool yn,.slice ay ys.length cy] 30)) (.cells #[.bool false,.slice none 0 0] 30))
 have hsz:w.heap.size + 1 + 1 < (((w.alloc (.cells #[.bool xn,.slice ax xs.length cx] 30)).alloc (.cells #[.bool yn,.slice ay ys.length cy] 30)).alloc (.cells #[.bool false,.slice none 0 0] 30)).heap.size:=by simp
 have HSZ:=hid hsz
 clear hsz
 obtain ⟨b1,b2,b3,b4⟩:=blk3 (Ext.refl (((w.alloc (.cells #[.bool xn,.slice ax xs.length cx] 30)).alloc (.cells #[.bool yn,.slice ay ys.length cy] 30)).alloc (.cells #[.bool false,.slice none 0 0] 30)))
 have c2:=b1 1 _ rfl
 have c3:=b2 1 _ rfl
 clear b1 b2 b3 b4
 have S0':=zkf c2 c3 c3
 have HS0:=hid (And.intro S0'.1 S0'.2.1)
 clear S0' c2 c3
 go_enter Tryz.func122,Tryz.ntmps122
 go_wp2
 have S0:=HS0.out
 go_region_held3 (fun W => W.cell? ⟨w.heap.size,1,none⟩ = some (.slice ax xs.length cx) ∧ W.cell? ⟨w.heap.size + 1,1,none⟩ = some (.slice ay ys.length cy)) (first | exact S0 | exact S1 | exact S2 | exact ⟨z09 (z09 S2.1 (ab (by omega))) (ab (by omega)),z09 (z09 S2.2 (ab (by omega))) (ab (by omega))⟩)
  (first
   | (go_at_call 126; (with_reducible refine (z23 (.slice ax xs.length cx) xs _ (HX.out.ext (HK.out.drew) hS) (z08 hS (HK.out.drew)) (by omega)).mono ?_); rintro e w1 ⟨v1,rfl,hu1,hx1⟩; have S1:=And.intro (hx1.cell S0.1) (hx1.cell S0.2); have HX1:=hid (HK.out.drew.trans hx1); have HU1:=hid (hu1.to (S':=New w w1) (Kept.refl _ _) (New.mono HK.out.drew)); have HX1':=hid hx1; obtain ⟨a1,n1,rfl⟩:=hu1.form; clear hx1 hu1)
   | (go_at_call 126; (with_reducible refine (z23 (.slice ay ys.length cy) ys _ (HY.out.ext HX1.out hS) (z08 hS HX1.out) (by omega)).mono ?_); rintro e w2 ⟨v2,rfl,hu2,hx2⟩; have S2:=And.intro (hx2.cell S1.1) (hx2.cell S1.2); have HX2:=hid (HX1.out.trans hx2); have HX2':=hid (HX1'.out.trans hx2); have HU1':=hid (HU1.out.to (S':=New w w2) (Kept.ext hx2 New.lt) (fun k h => ⟨h.1,Nat.lt_of_lt_of_le h.2 hx2.size⟩)); have HU2:=hid (hu2.to (S':=New w w2) (Kept.refl _ _) (New.mono HX1.out)); obtain ⟨a2,n2,rfl⟩:=hu2.form; clear hx2 hu2))
 all_goals
  clear S0 S1 S2
  obtain ⟨w0,hw0⟩:∃ W,W = (((w.alloc (.cells #[.bool xn,.slice ax xs.length cx] 30)).alloc (.cells #[.bool yn,.slice ay ys.length cy] 30)).alloc (.cells #[.bool false,.slice none 0 0] 30)).drew:=⟨_,rfl⟩
  have HB:=hid (fun (W:World) (h:Ext w0 W) => by
   rw [hw0] at h
   obtain ⟨-,-,d3,d4⟩:=blk3 ((Ext.drew (Ext.refl _)).trans h)
   exact And.intro (d3 0 _ rfl) (And.intro (d3 1 _ rfl) (And.intro (d4 0) (d4 1))))
  have HSZ0:Hid (w.heap.size + 1 + 1 < w0.heap.size):=hid (by rw [hw0]; exact HSZ.out)
  have HX0:Hid (Ext w w0):=hid (by rw [hw0]; exact HK.out.drew)
  rw [← hw0] at HX2'
  obtain ⟨Y,hY⟩:∃ Y,Y = val B32 ys:=⟨_,rfl⟩
  obtain ⟨X,hX⟩:∃ X,X = val B32 xs:=⟨_,rfl⟩
  rw [← hX] at HU1' HLX ⊢
  rw [← hY] at HU2 HLY ⊢
  have HXE:=hid hX
  have HYE:=hid hY
  clear hw0 hX hY HX1' HSZ HS0 HG HK HX1 HU1
  go_wp2
  go_loopg [5,6] Y (fun k s5 s6 wr => ∃ (A:Nat) (a b:Option Addr) (ca cb:Nat),s5 = .slice a (rep B32 A).length ca ∧ s6 = .slice b (rep B32 k).length cb ∧ Hid (Nat.gcd A k = Nat.gcd X Y ∧ lenN A ≤ 10000000000 ∧ lenN k ≤ 10000000000 ∧ U32s (New w wr) wr (.slice a (rep B32 A).length ca) (rep B32 A) ∧ U32s (New w wr) wr (.slice b (rep B32 k).length cb) (rep B32 k) ∧ Ext w0 wr))
  case atStart => exact ⟨X,a1,a2,n1,n2,rfl,rfl,hid ⟨rfl,HLX.out,HLY.out,HU1'.out,HU2.out,HX2'.out⟩⟩
  case round =>
   obtain ⟨A,a,b,ca,cb,rfl,rfl,HI⟩:=hrel
   obtain ⟨lb,hlb⟩:∃ l,l = (rep B32 gk).length:=⟨_,rfl⟩
   obtain ⟨la,hla⟩:∃ l,l = (rep B32 A).length:=⟨_,rfl⟩
   rw [← hlb,← hla] at HI ⊢
   have HLB:=hid hlb
   have HLA:=hid hla
   clear hlb hla
   by_cases h0:gk = 0
   ·subst h0
    have hl0:lb = 0:=by rw [HLB.out]; rfl
    subst hl0
    obtain ⟨I1,I2,I3,I4,I5,I6⟩:=HI.out
    rw [Nat.gcd_zero_right] at I1
    rw [HLA.out] at I4
    have CM:=hid (z4h false _ A wr I4 New.lt (by unfold lenN at I2; omega))
    rw [← HLA.out] at CM
    have HA:=hid I1
    have HX6:=hid I6
    clear I1 I2 I3 I4 I5 I6
    go_wp2_with fail
    refine CM.out.mono ?_
    rintro e w3 ⟨v3,rfl,⟨vm3,rfl,hu3⟩,hx3⟩
    obtain ⟨f0,f1,f2,f3⟩:=HB.out w3 (HX6.out.trans hx3)
    have HX3:=hid hx3
    have HU3:=hid hu3
    have HE:=hid (And.intro f0 f1)
    obtain ⟨a3,n3,rfl⟩:=hu3.form
    clear hu3 hx3
    go_wp2
    all_goals
     have hd:=fun x y => z19 x y HE.out.1 HE.out.2
     refine bodyPost_ret (by simp [results,Tryz.results122,go_sem,(hd _ _).1,(hd _ _).2]; rfl) rfl ?_
     have hg:=z33 (w0:=w) (b:=w.heap.size + 1 + 1) rfl HU3.out (HX0.out.trans HX6.out) HX3.out (by omega) (Nat.lt_of_lt_of_le HSZ0.out HX6.out.size) (.bool (ofI (sg false A)).neg) (.slice a3 (ofI (sg false A)).mag.length n3)
     have e:((Nat.gcd X Y:Nat):Int) = sg false A:=by rw [← HA.out]; rfl
     rw [← HXE.out,← HYE.out,e]
     exact ⟨_,rfl,hg.1,hg.2⟩
   ·have hl0:0 < lb:=by
     rw [HLB.out,List.length_pos_iff,Ne,z2d z00]
     exact h0
    obtain ⟨I1,I2,I3,I4,I5,I6⟩:=HI.out
    have hgk:0 < gk:=by omega
    have CD:=hid (zq7 (S:=New w wr) _ _ _ _ wr I4 I5 New.lt (by unfold lenN at I2; omega) (by unfold lenN at I3; omega) (by rw [z0d z00]; omega))
    rw [z0d z00,z0d z00] at CD
    have HI1:=hid (And.intro I1 I3)
    have HI5:=hid I5
    have HX6:=hid I6
    have H0:=hid hgk
    clear h0 I1 I2 I3 I4 I5 I6 hgk
    go_wp2_with fail
    refine CD.out.mono ?_
    rintro e w3 ⟨vq,vr,rfl,hq,hr3,hx3⟩
    have HR3:=hid (hr3.to (S':=New w w3) (Kept.refl _ _) (New.mono (HX0.out.trans HX6.out)))
    have HX3:=hid hx3
    have HB3:=hid (HI5.out.to (S':=New w w3) (Kept.ext hx3 New.lt) (fun k h => ⟨h.1,Nat.lt_of_lt_of_le h.2 hx3.size⟩))
    obtain ⟨ar,nr,rfl⟩:=hr3.form
    clear hq hr3 hx3
    go_wp2
    go_roundg (A % gk)
    case measure => exact Nat.mod_lt _ H0.out
    case rel =>
     refine ⟨gk,b,ar,cb,nr,by rw [HLB.out],rfl,hid ⟨?_,HI1.out.2,?_,?_,HR3.out,HX6.out.trans HX3.out⟩⟩
     ·rw [← HI1.out.1,Nat.gcd_comm A gk,Nat.gcd_rec gk A,Nat.gcd_comm]
     ·exact Nat.le_trans (z1o (Nat.le_of_lt (Nat.mod_lt _ H0.out))) HI1.out.2
     ·rw [← HLB.out]; exact HB3.out
end
section
open Go.RowKit
theorem zu3 {xn yn:Bool} {a d:Nat} {q:Int} (hd:0 < d) (h:sg xn a = q * sg yn d):a % d = 0 ∧ sg (xn != yn) (a / d) = q:=by
 have key:∀ p:Int,(a:Int) = p * (d:Int) → a % d = 0 ∧ ((a / d:Nat):Int) = p:=by
  intro p hp
  have hd0:(d:Int) ≠ 0:=by omega
  refine ⟨?_,?_⟩
  ·have h1:((a % d:Nat):Int) = 0:=by rw [Int.natCast_emod,hp,Int.mul_emod_left]
   omega
  ·rw [Int.natCast_ediv,hp,Int.mul_ediv_cancel _ hd0]
 unfold sg at h ⊢
 cases xn <;> cases yn <;> simp only [if_true,if_false,Bool.false_eq_true,bne_self_eq_false,Bool.true_bne,Bool.false_bne,Bool.not_true,Bool.not_false] at h ⊢
 ·exact key q h
 ·obtain ⟨h1,h2⟩:=key (-q) (by rw [h,Int.mul_neg,Int.neg_mul])
  exact ⟨h1,by rw [h2,Int.neg_neg]⟩
 ·obtain ⟨h1,h2⟩:=key (-q) (by rw [Int.neg_mul,← h,Int.neg_neg])
  exact ⟨h1,by rw [h2,Int.neg_neg]⟩
 ·refine key q ?_
  rw [Int.mul_neg] at h
  omega
theorem zch {S:Nat → Prop} (vx vy:Value) (x y:RInt) (w:World) (hx:IntV S w vx x) (hy:IntV S w vy y) (hS:∀ k,S k → k < w.heap.size) (hr:x.mag.length ≤ 10000000000) (hr2:y.mag.length ≤ 10000000000) (q:Int) (h0:valI y ≠ 0) (hq:valI x = q * valI y) :
  Calls Tryz.prog 124 #[vx,vy] w fun e w' => ∃ v',e = .returned (.tuple #[v',.int .i64 0]) ∧ IntV (New w w') w' v' (ofI q) ∧ Ext w w':=by
 obtain ⟨xn,xs⟩:=x
 obtain ⟨yn,ys⟩:=y
 obtain ⟨vxm,rfl,hxu⟩:=hx
 obtain ⟨vym,rfl,hyu⟩:=hy
 simp only at hxu hyu hr hr2 ⊢
 have hd0:0 < val B32 ys:=by
  rcases Nat.eq_zero_or_pos (val B32 ys) with h | h
  ·exact absurd (by unfold valI; simp [h]) h0
  ·exact h
 have HQ:=hid (zu3 hd0 (show sg xn (val B32 xs) = q * sg yn (val B32 ys) from hq))
 have HX:=hid hxu
 have HY:=hid hyu
 obtain ⟨ax,cx,rfl⟩:=hxu.form
 obtain ⟨ay,cy,rfl⟩:=hyu.form
 have HLX:=hid (Nat.le_trans (z6d hxu.lt) hr)
 obtain ⟨w0,hw0⟩:∃ W,W = (((w.alloc (.cells #[.bool xn,.slice ax xs.length cx] 30)).alloc (.cells #[.bool yn,.slice ay ys.length cy] 30)).alloc (.cells #[.bool false,.slice none 0 0] 30)):=⟨_,rfl⟩
 have HX0:Hid (Ext w w0):=hid (by rw [hw0]; exact Ext.alloc (Ext.alloc (Ext.alloc (Ext.refl w) _) _) _)
 have HSZ:Hid (w.heap.size + 1 + 1 < w0.heap.size):=hid (by rw [hw0]; simp)
 have HB:=hid (fun (W:World) (h:Ext w0 W) => by
  rw [hw0] at h
  exact blk3 h)
 have CD:=hid (zq8 (S:=S) (.slice ax xs.length cx) (.slice ay ys.length cy) xs ys w0 (hxu.ext HX0.out hS) (hyu.ext HX0.out hS) (z08 hS HX0.out) (by omega) (by omega) hd0 HQ.out.1)
 have HD0:=hid hd0
 obtain ⟨b1,b2,-,-⟩:=HB.out w0 (Ext.refl _)
 have c1:=b1 0 _ rfl
 have c2:=b1 1 _ rfl
 have c3:=b2 0 _ rfl
 have c4:=b2 1 _ rfl
 rw [hw0] at c1 c2 c3 c4 CD
 clear hxu hyu h0 hq hd0 b1 b2
 have HW0:=hid hw0
 clear hw0
 go_enter Tryz.func124,Tryz.ntmps124
 go_wp2_with fail
 refine CD.out.mono ?_
 rintro e w1 ⟨v1,rfl,hu1,hx1⟩
 rw [← HW0.out] at hu1 hx1
 obtain ⟨b1,b2,b3,b4⟩:=HB.out w1 hx1
 have d1:=b1 0 _ rfl
 have d3:=b2 0 _ rfl
 have HX1:=hid hx1
 have HL1:Hid ((rep B32 (val B32 xs / val B32 ys)).length ≤ 50000000000000):=hid (by
  have h1:=z1o (Nat.div_le_self (val B32 xs) (val B32 ys))
  have h2:=HLX.out
  unfold lenN at h2
  omega)
 have CM:=hid (z4h (xn != yn) _ _ w1 hu1 New.lt HL1.out)
 rw [HQ.out.2] at CM
 obtain ⟨xy,hxy⟩:∃ b,b = (xn != yn):=⟨_,rfl⟩
 rw [← hxy] at CM
 have hxyq:(!(xn == yn)) = xy:=hxy.symm
 obtain ⟨a1,n1,rfl⟩:=hu1.form
 clear hu1 hx1 b1 b2 b3 b4 hxy
 go_wp2_with fail
 refine CM.out.mono ?_
 rintro e w2 ⟨v2,rfl,⟨vm2,rfl,hu2⟩,hx2⟩
 obtain ⟨-,-,b3,b4⟩:=HB.out w2 (HX1.out.trans hx2)
 have e0:=b3 0 _ rfl
 have e1:=b3 1 _ rfl
 have f0:=b4 0
 have f1:=b4 1
 have HX2:=hid hx2
 have HU2:=hid hu2
 have HE:=hid (And.intro e0 e1)
 obtain ⟨a2,n2,rfl⟩:=hu2.form
 clear hu2 hx2 b3 b4
 go_wp2
 all_goals
  have hd:=fun x y => z19 x y HE.out.1 HE.out.2
  refine bodyPost_ret (by simp [results,Tryz.results124,go_sem,(hd _ _).1,(hd _ _).2]; rfl) rfl ?_
  have hg:=z33 (w0:=w) (b:=w.heap.size + 1 + 1) rfl HU2.out (HX0.out.trans HX1.out) HX2.out (by omega) (Nat.lt_of_lt_of_le HSZ.out HX1.out.size) (.bool (ofI q).neg) (.slice a2 (ofI q).mag.length n2)
  exact ⟨_,rfl,hg.1,hg.2⟩
end
section
open Go.RowKit
theorem zqa {B:Nat} {l:List Nat} {i d:Nat} (hi:i < l.length):val B (l.set i d) + B ^ i * dg l i = val B l + B ^ i * d:=by
 have h1:=z22 (B:=B) l i
 have h2:=z22 (B:=B) (l.set i d) i
 rw [List.length_set,show min i l.length = i by omega] at h2
 rw [show min i l.length = i by omega] at h1
 rw [List.take_set_of_le (by omega)] at h2
 rw [z1d] at h1 h2
 have e1:dg (l.set i d) i = d:=by unfold dg; rw [List.getElem?_set]; simp [hi]
 have e2:(l.set i d).drop (i + 1) = l.drop (i + 1):=by rw [List.drop_set_of_lt (by omega)]
 rw [e1,e2] at h2
 rw [h1,h2,Nat.mul_add,Nat.mul_add]
 omega
theorem zqb {o oi bs:List Nat} {at_ i c x u:Nat} (hl:i < oi.length) (hai:at_ ≤ i) (h:val B32 oi + B32 ^ i * c = val B32 o + B32 ^ at_ * val B32 (bs.take (i - at_))) (hx:dg bs (i - at_) = x) (hu:dg oi i = u) :
  val B32 (oi.set i ((c + u + x) % B32)) + B32 ^ (i + 1) * ((c + u + x) / B32) = val B32 o + B32 ^ at_ * val B32 (bs.take (i + 1 - at_)):=by
 have h1:=zqa (B:=B32) (d:=(c + u + x) % B32) hl
 rw [hu] at h1
 have e:i + 1 - at_ = (i - at_) + 1:=by omega
 rw [e,z1s,hx,Nat.mul_add,← Nat.mul_assoc,← Nat.pow_add,show at_ + (i - at_) = i by omega,Nat.pow_succ,Nat.mul_assoc]
 have h2:B32 ^ i * (B32 * ((c + u + x) / B32) + (c + u + x) % B32) = B32 ^ i * (c + u + x):=by rw [Nat.div_add_mod]
 rw [Nat.mul_add,Nat.mul_add,Nat.mul_add] at h2
 omega
theorem zu4 {o oi bs:List Nat} {at_ c cap:Nat} (ha:at_ ≤ cap) (hoi:∀ z ∈ oi,z < B32) (has:∀ z ∈ bs,z < B32) (lo:oi.length = cap) (h:val B32 oi + B32 ^ cap * c = val B32 o + B32 ^ at_ * val B32 (bs.take (cap - at_))) (hroom:val B32 o + B32 ^ at_ * val B32 bs < B32 ^ cap) :
  val B32 oi = val B32 o + B32 ^ at_ * val B32 bs:=by
 have hs:=z22 (B:=B32) bs (cap - at_)
 have hP:0 < B32 ^ at_:=Nat.pow_pos (by decide)
 have hz:val B32 bs = val B32 (bs.take (cap - at_)):=by
  by_cases hl:cap - at_ ≤ bs.length
  ·rw [Nat.min_eq_left hl] at hs
   have h1:B32 ^ at_ * val B32 bs < B32 ^ at_ * B32 ^ (cap - at_):=by rw [← Nat.pow_add,show at_ + (cap - at_) = cap by omega]; omega
   have h2:=Nat.lt_of_mul_lt_mul_left h1
   rcases Nat.eq_zero_or_pos (val B32 (bs.drop (cap - at_))) with h3 | h3
   ·rw [h3,Nat.mul_zero,Nat.add_zero] at hs
    exact hs
   ·have:=Nat.le_mul_of_pos_right (B32 ^ (cap - at_)) h3
    omega
  ·rw [List.take_of_length_le (by omega)]
 rw [← hz] at h
 rcases Nat.eq_zero_or_pos c with h3 | h3
 ·rw [h3,Nat.mul_zero,Nat.add_zero] at h
  exact h
 ·have:=Nat.le_mul_of_pos_right (B32 ^ cap) h3
  omega
theorem z9v {S:Nat → Prop} {w:World} {g cap at_:Nat} {o bs:List Nat} (va:Value) (hrow:w.rowIs g 74 cap (rowU o)) (lo:o.length = cap) (hol:∀ z ∈ o,z < B32) (hv:U32s S w va bs) (hS:∀ j,S j → j < w.heap.size ∧ j ≠ g) (ha:at_ ≤ cap) (hcap:cap ≤ 1000000000000) (hla:bs.length ≤ 1000000000000)
  (hroom:val B32 o + B32 ^ at_ * val B32 bs < B32 ^ cap) :
  Calls Tryz.prog 168 #[.slice (some ⟨g,0,none⟩) cap cap,va,.int .i64 (at_:Nat)] w fun e w' => ∃ o':List Nat,e = .returned (.tuple #[]) ∧ o'.length = cap ∧ (∀ z ∈ o',z < B32) ∧ val B32 o' = val B32 o + B32 ^ at_ * val B32 bs ∧
   w'.rowIs g 74 cap (rowU o') ∧ w.grownBy w' (some g) ∧ w'.heap.size = w.heap.size:=by
 have HROW:=hid hrow
 have HOL:=hid (And.intro lo hol)
 have HV:=hid hv
 have HRM:=hid hroom
 have HAL:=hid hv.lt
 obtain ⟨av,cv,rfl⟩:=hv.form
 obtain ⟨la,hl⟩:∃ la,la = bs.length:=⟨_,rfl⟩
 rw [← hl] at HV hla ⊢
 have HLL:=hid hl
 clear hrow hol lo hv hroom hl
 go_enter Tryz.func168,Tryz.ntmps168
 go_wp2
 go_loopw [6,7] (fun s6 s7 wr => ∃ (i c:Nat) (oi:List Nat),s6 = .int .u64 (c:Nat) ∧ s7 = .int .i64 (i:Nat) ∧ at_ ≤ i ∧ i ≤ cap ∧ c ≤ 1 ∧ Hid (oi.length = cap ∧ (∀ z ∈ oi,z < B32) ∧ val B32 oi + B32 ^ i * c = val B32 o + B32 ^ at_ * val B32 (bs.take (i - at_))) ∧
  wr.rowIs g 74 cap (rowU oi) ∧ w.grownBy wr (some g) ∧ wr.heap.size = w.heap.size) (fun _ s7 _ => cap - (intOf s7).toNat)
 case atStart => exact ⟨at_,0,o,rfl,rfl,Nat.le_refl _,ha,by omega,hid ⟨HOL.out.1,HOL.out.2,by simp [val]⟩,HROW.out,zic _ _,rfl⟩
 case round =>
  obtain ⟨i,c,oi,rfl,rfl,hi1,hi2,hc,HI,hrow,hgb,hsz⟩:=hrel
  have HR:=hid hrow
  have HG:=hid (And.intro hgb hsz)
  clear hrow hgb hsz
  by_cases hlt:i < cap
  ·obtain ⟨u,hu⟩:∃ u,u = dg oi i:=⟨_,rfl⟩
   have hul:u < 4294967296:=by rw [hu]; exact zk6 (by decide) HI.out.2.1 _
   have hcu:wr.cell? ⟨g,i,none⟩ = some (.int .u32 (u:Nat)):=by
    rw [HR.out.cell (i:=i) hlt,hu]
    rfl
   have hfu:=HR.out.frozen i
   have hu64:IntKind.u64.wrap (u:Int) = (u:Int):=z0w (Nat.lt_trans hul (by decide))
   have HU:=hid (And.intro hu hul)
   obtain ⟨j,hj⟩:∃ j,i = at_ + j:=⟨i - at_,by omega⟩
   have hij:(i:Int) - (at_:Int) = (j:Int):=by omega
   have hj2:i - at_ = j:=by omega
   have HJ:=hid (And.intro hj hj2)
   have fin:∀ t c' d:Nat,∀ x,dg bs j = x → t = c + u + x → d = t % B32 → c' = t / B32 → c' ≤ 1 →
     (∃ (i_1 c_1:Nat) (oi_1:List Nat),Value.int IntKind.u64 (c':Nat) = Value.int IntKind.u64 (c_1:Nat) ∧ Value.int IntKind.i64 ((i:Int) + 1) = Value.int IntKind.i64 (i_1:Nat) ∧ at_ ≤ i_1 ∧ i_1 ≤ cap ∧ c_1 ≤ 1 ∧
      Hid (oi_1.length = cap ∧ (∀ z ∈ oi_1,z < B32) ∧ val B32 oi_1 + B32 ^ i_1 * c_1 = val B32 o + B32 ^ at_ * val B32 (bs.take (i_1 - at_))) ∧
      (wr.setCell ⟨g,i,none⟩ (.int .u32 (d:Nat))).rowIs g 74 cap (rowU oi_1) ∧ w.grownBy (wr.setCell ⟨g,i,none⟩ (.int .u32 (d:Nat))) (some g) ∧ (wr.setCell ⟨g,i,none⟩ (.int .u32 (d:Nat))).heap.size = w.heap.size):=by
    intro t c' d x hx ht hd hc' hcc
    refine ⟨i + 1,c',oi.set i d,rfl,rfl,by omega,by omega,hcc,hid ⟨by rw [List.length_set]; exact HI.out.1,zer HI.out.2.1 (by rw [hd]; exact Nat.mod_lt _ (by decide)),?_⟩,z5d HR.out i d (by rw [HI.out.1]; exact hlt),zh6 HG.out.1 rfl _,by rw [z07]; exact HG.out.2⟩
    have h1:=zqb (o:=o) (oi:=oi) (bs:=bs) (at_:=at_) (i:=i) (c:=c) (x:=x) (u:=u) (by rw [HI.out.1]; exact hlt) hi1 HI.out.2.2 (by rw [hj2]; exact hx) hu.symm
    rw [← ht,← hd,← hc'] at h1
    exact h1
   have FIN:=hid fin
   have hc64:c < 18446744073709551616:=by omega
   clear fin hu hj
   by_cases hx:j < la
   ·obtain ⟨x,hx1⟩:=z01 (l:=bs) (j:=j) (by rw [← HLL.out]; exact hx)
    obtain ⟨b1,o1,rfl,-,hn1,hm1,hs1,hxb,hcx⟩:=(HV.out.to (show Kept S w wr from fun k hk => HG.out.1.block k (hS k hk).1 (fun e => (hS k hk).2 (Option.some.inj e))) (fun _ h => h)).cellAt hx1
    have hx64:IntKind.u64.wrap (x:Int) = (x:Int):=z0w (Nat.lt_trans hxb (by decide))
    obtain ⟨t0,ht0⟩:∃ t,t = c + u:=⟨_,rfl⟩
    obtain ⟨t,ht⟩:∃ t,t = c + u + x:=⟨_,rfl⟩
    have hw1:IntKind.u64.wrap ((c:Int) + (u:Int)) = (t0:Int):=by rw [IntKind.wrap_u64]; omega
    have hw2:IntKind.u64.wrap ((t0:Int) + (x:Int)) = (t:Int):=by rw [IntKind.wrap_u64]; omega
    have hd1:(t:Int) % 4294967296 = ((t % B32:Nat):Int):=by show _ = ((t % 4294967296:Nat):Int); omega
    have hd2:(t:Int) / 4294967296 = ((t / B32:Nat):Int):=by show _ = ((t / 4294967296:Nat):Int); omega
    have hd3:t / B32 ≤ 1:=by show t / 4294967296 ≤ 1; omega
    obtain ⟨d,hd⟩:∃ d,d = t % B32:=⟨_,rfl⟩
    obtain ⟨c',hc'⟩:∃ d,d = t / B32:=⟨_,rfl⟩
    rw [← hd] at hd1
    rw [← hc'] at hd2 hd3
    have HX1:=hid (z0o hx1)
    have HT:=hid (And.intro ht (And.intro hd (And.intro hc' hd3)))
    clear hx1 hxb hul ht0 ht hd hc' hd3
    go_wp2
    exact ⟨FIN.out t c' d x HX1.out HT.out.1 HT.out.2.1 HT.out.2.2.1 HT.out.2.2.2,by simp only [intOf]; omega⟩
   ·have HX1:Hid (dg bs j = 0):=hid (z2n (by rw [← HLL.out]; omega))
    by_cases h0:c = 0
    ·subst h0
     have hend:val B32 oi = val B32 o + B32 ^ at_ * val B32 bs:=by
      have h1:=HI.out.2.2
      rw [Nat.mul_zero,Nat.add_zero,hj2,List.take_of_length_le (by rw [← HLL.out]; omega)] at h1
      exact h1
     have HE:=hid hend
     clear hend
     go_wp2
     all_goals
      first | go_end0 | refine bodyPost_ret (results_none rfl _ _ _) rfl ?_
      exact ⟨oi,rfl,HI.out.1,HI.out.2.1,HE.out,HR.out,HG.out.1,HG.out.2⟩
    ·obtain rfl:c = 1:=by omega
     obtain ⟨t,ht⟩:∃ t,t = 1 + u:=⟨_,rfl⟩
     have hw1:IntKind.u64.wrap (1 + (u:Int)) = (t:Int):=by rw [IntKind.wrap_u64]; omega
     have hd1:(t:Int) % 4294967296 = ((t % B32:Nat):Int):=by show _ = ((t % 4294967296:Nat):Int); omega
     have hd2:(t:Int) / 4294967296 = ((t / B32:Nat):Int):=by show _ = ((t / 4294967296:Nat):Int); omega
     have hd3:t / B32 ≤ 1:=by show t / 4294967296 ≤ 1; omega
     obtain ⟨d,hd⟩:∃ d,d = t % B32:=⟨_,rfl⟩
     obtain ⟨c',hc'⟩:∃ d,d = t / B32:=⟨_,rfl⟩
     rw [← hd] at hd1
     rw [← hc'] at hd2 hd3
     have HT:=hid (And.intro ht (And.intro hd (And.intro hc' hd3)))
     clear hul ht hd hc' hd3
     go_wp2
     exact ⟨FIN.out t c' d 0 HX1.out HT.out.1 HT.out.2.1 HT.out.2.2.1 HT.out.2.2.2,by simp only [intOf]; omega⟩
  ·obtain rfl:i = cap:=by omega
   have HE:=hid (zu4 ha HI.out.2.1 HAL.out HI.out.1 HI.out.2.2 HRM.out)
   go_wp2
   all_goals
    first | go_end0 | refine bodyPost_ret (results_none rfl _ _ _) rfl ?_
    exact ⟨oi,rfl,HI.out.1,HI.out.2.1,HE.out,HR.out,HG.out.1,HG.out.2⟩
end
section
open Go.RowKit
theorem z9e {a w:World} (h:Ext a w) (n:Nat):Ext a (w.drewN n):=⟨h.os,h.tape,h.output,h.size,h.block⟩
theorem U32s.drop {S:Nat → Prop} {w:World} {zs:List Nat} {a a':Option Addr} {n cap k:Nat} (h:U32s S w (.slice a n cap) zs) (hk:k ≤ n) (ha:k < n → ∃ p,a = some p ∧ a' = some (p.add k)):U32s S w (.slice a' (n - k) (cap - k)) (zs.drop k):=by
 obtain ⟨b,off,⟨a1,cap',h1,h2,h3,h4,h5⟩,hc⟩:=h
 obtain ⟨rfl,rfl,rfl⟩:a = a1 ∧ n = zs.length ∧ cap = cap':=by simpa using h1
 have hl:(zs.drop k).length = zs.length - k:=by rw [List.length_drop]
 refine ⟨b,off + k,⟨a',cap - k,by rw [hl],by omega,Nat.le_trans (Nat.sub_le _ _) h3,fun h => ?_,fun h => h5 (by omega)⟩,fun j z hz => ?_⟩
 ·obtain ⟨p,hp,hp2⟩:=ha (by omega)
  have h6:=h4 (by omega)
  rw [hp] at h6
  rw [hp2,Option.some.inj h6]
  unfold Addr.add
  split
  ·rename_i h7
   rw [h7]
   rfl
  ·rfl
 ·rw [List.getElem?_drop] at hz
  have:=hc _ _ hz
  rw [Nat.add_assoc]
  exact this
theorem zhb {S:Nat → Prop} {w:World} (v:Value) (zs:List Nat) (n:Nat) (h:U32s S w v zs) (hn:n ≤ 1000000000000) (hl:zs.length ≤ 1000000000000) :
  Calls Tryz.prog 167 #[v,.int .i64 (n:Nat)] w fun e w' => ∃ v0 v1,e = .returned (.tuple #[v0,v1]) ∧ U32s S w' v0 (zs.take n) ∧ U32s S w' v1 (zs.drop n) ∧ Ext w w':=by
 have H:=hid h
 obtain ⟨b,off,⟨a,c,hv,hc1,hc2,ha,hs⟩,hcell⟩:=h
 subst hv
 obtain ⟨l,hlz⟩:∃ l,l = zs.length:=⟨_,rfl⟩
 rw [← hlz] at hl hc1 H ha hs ⊢
 have hc3:c ≤ 9223372036854775807:=hc2
 obtain ⟨k,hk⟩:∃ k,k = min n l:=⟨_,rfl⟩
 have hk2:min (n:Int) (l:Int) = (k:Int):=by omega
 have hk3:k ≤ l:=by omega
 have hk4:k ≤ c:=by omega
 have HK:=hid hk
 have HL:=hid hlz
 have HC:=hid (And.intro ha (And.intro hs hcell))
 have hc2:=hid hc2
 clear hlz ha hs hcell hk hn
 have HD:=hid (fun (m:Nat) (v:Value) (ds:List Nat) (h:U32s S w v ds) => (h.to (show Kept S w (w.drewN m) from fun _ _ => rfl) (fun _ h => h):U32s S (w.drewN m) v ds))
 rcases Nat.lt_or_ge l n with h | h
 ·obtain rfl:k = l:=by have:=HK.out; omega
  have T0:Hid (zs.take n = zs.take k):=hid (by rw [List.take_of_length_le (by rw [← HL.out]; omega),List.take_of_length_le (by rw [← HL.out]; omega)])
  have T1:Hid (zs.drop n = zs.drop k):=hid (by rw [List.drop_eq_nil_of_le (by rw [← HL.out]; omega),List.drop_eq_nil_of_le (by rw [← HL.out]; omega)])
  rw [T0.out,T1.out]
  go_enter Tryz.func167,Tryz.ntmps167
  cases a with
  | none =>
   go_wp2
   go_quiet (fail)
   go_wp2
   all_goals
    go_ret2
    refine ⟨_,_,rfl,?_,?_,z9e (Ext.refl _) _⟩
    ·exact HD.out _ _ _ (H.out.take (Nat.le_refl _))
    ·have h1:=H.out.drop (a':=none) (Nat.le_refl _) (fun h => absurd h (Nat.lt_irrefl _))
     rw [Nat.sub_self] at h1
     exact HD.out _ _ _ h1
  | some p =>
   go_wp2
   go_quiet (fail)
   obtain ⟨q,hq⟩:∃ q,q = (if c = k then some p else some (p.add k)):=⟨_,rfl⟩
   rw [← hq]
   have HQ:=hid hq
   clear hq
   go_wp2
   all_goals
    go_ret2
    refine ⟨_,_,rfl,?_,?_,z9e (Ext.refl _) _⟩
    ·exact HD.out _ _ _ (H.out.take (Nat.le_refl _))
    ·have h1:=H.out.drop (a':=q) (Nat.le_refl _) (fun h => absurd h (Nat.lt_irrefl _))
     rw [Nat.sub_self] at h1
     exact HD.out _ _ _ h1
 ·obtain rfl:k = n:=by have:=HK.out; omega
  have h':¬ l < k:=by omega
  go_enter Tryz.func167,Tryz.ntmps167
  cases a with
  | none =>
   have hl0:l = 0:=by
    rcases Nat.eq_zero_or_pos l with h | h
    ·exact h
    ·cases HC.out.1 h
   have HL0:=hid hl0
   clear hl0
   go_wp2
   go_quiet (fail)
   go_wp2
   all_goals
    go_ret2
    refine ⟨_,_,rfl,?_,?_,z9e (Ext.refl _) _⟩
    ·exact HD.out _ _ _ (H.out.take hk3)
    ·exact HD.out _ _ _ (H.out.drop (a':=none) hk3 (fun h => by have:=HL0.out; omega))
  | some p =>
   go_wp2
   go_quiet (fail)
   obtain ⟨q,hq⟩:∃ q,q = (if c = k then some p else some (p.add k)):=⟨_,rfl⟩
   rw [← hq]
   have HQ:=hid hq
   clear hq
   go_wp2
   all_goals
    go_ret2
    refine ⟨_,_,rfl,?_,?_,z9e (Ext.refl _) _⟩
    ·exact HD.out _ _ _ (H.out.take hk3)
    ·exact HD.out _ _ _ (H.out.drop (a':=q) hk3 (fun h => ⟨p,rfl,by rw [HQ.out,if_neg (by omega)]⟩))
end
section
open Go.RowKit
theorem u_on {w W:World} {v:Value} {zs:List Nat} (h:U32s (Old w) w v zs) (hx:Ext w W):U32s (Old W) W v zs:=h.to (Kept.ext hx (fun _ h => h)) (fun k h => Nat.lt_of_lt_of_le h hx.size)
theorem z3w {w W:World} {v:Value} {zs:List Nat} (h:U32s (New w W) W v zs):U32s (Old W) W v zs:=h.to (Kept.refl _ _) New.lt
theorem zqc (B:Nat) (l:List Nat) (n:Nat):val B l = val B (l.take n) + B ^ n * val B (l.drop n):=by
 have h:=z22 (B:=B) l n
 by_cases hl:n ≤ l.length
 ·rwa [Nat.min_eq_left hl] at h
 ·rw [List.drop_eq_nil_of_le (by omega),show val B [] = 0 from rfl,Nat.mul_zero] at h ⊢
  exact h
theorem zu5 (a b c d:Nat):(a + b) * (c + d) - a * c - b * d = a * d + b * c ∧ a * c ≤ (a + b) * (c + d) ∧ b * d ≤ (a + b) * (c + d) - a * c:=by
 have e:(a + b) * (c + d) = a * c + a * d + (b * c + b * d):=by rw [Nat.add_mul,Nat.mul_add,Nat.mul_add]
 omega
theorem zu6 (P a b c d:Nat):(a + P * b) * (c + P * d) = a * c + P * (a * d + b * c) + P * P * (b * d):=by
 have h1:a * (P * d) = P * (a * d):=Nat.mul_left_comm _ _ _
 have h2:P * b * c = P * (b * c):=Nat.mul_assoc _ _ _
 have h3:P * b * (P * d) = P * P * (b * d):=by rw [Nat.mul_mul_mul_comm]
 rw [Nat.add_mul,Nat.mul_add,Nat.mul_add,h1,h2,h3,Nat.mul_add]
 omega
def zet (N:Nat):Prop:=∀ (S:Nat → Prop) (va vb:Value) (xs ys:List Nat) (w:World),U32s S w va xs → U32s S w vb ys → (∀ k,S k → k < w.heap.size) → max xs.length ys.length < N → max xs.length ys.length ≤ 100000000000 →
 Calls Tryz.prog 142 #[.int .i64 24,va,vb] w fun e w' => ∃ v',e = .returned v' ∧ U32s (New w w') w' v' (rep B32 (val B32 xs * val B32 ys)) ∧ Ext w w'
theorem zxj (N la lb:Nat) (IH:zet N) {S:Nat → Prop} (va vb:Value) (xs ys:List Nat) (w:World) (ha:U32s S w va xs) (hb:U32s S w vb ys) (hS:∀ k,S k → k < w.heap.size) (hla:xs.length = la) (hlb:ys.length = lb) (hN:N = max la lb) (h24:24 ≤ N) (hr:N ≤ 100000000000) :
  Calls Tryz.prog 158 #[va,vb,.func (.func 142) #[.int .i64 24] #[]] w fun e w' => ∃ v',e = .returned v' ∧ U32s (New w w') w' v' (rep B32 (val B32 xs * val B32 ys)) ∧ Ext w w':=by
 obtain ⟨n,hn⟩:∃ n,n = (N + 1) / 2:=⟨_,rfl⟩
 have HN:=hid (And.intro hN (And.intro h24 hn))
 have hn1:n + 1 < N:=by omega
 have hd1:((N:Int) + 1).tdiv 2 = (n:Int):=by rw [Int.tdiv_eq_ediv_of_nonneg (by omega)]; omega
 have hla':la ≤ N:=by omega
 have hlb':lb ≤ N:=by omega
 have hn2:2 * n ≤ N + 1:=by omega
 have hn3:N ≤ 2 * n:=by omega
 have hN2:N ≤ la + lb:=by omega
 have CA:=hid (zhb va xs n ha (by omega) (by omega))
 have CB:=hid (fun (W:World) (hW:Ext w W) => zhb vb ys n (hb.ext hW hS) (by omega) (by omega))
 have HLA:=hid (And.intro hla hlb)
 have HLX:=hid (And.intro ha.lt hb.lt)
 obtain ⟨aa,ca,rfl⟩:=ha.form
 obtain ⟨ab,cb,rfl⟩:=hb.form
 rw [hla] at CA ⊢
 rw [hlb] at CB ⊢
 clear ha hb hn hla hlb hN
 have key:(la < lb ∧ ¬ lb < la ∧ ((lb:Int) + 1).tdiv 2 = (n:Int)) ∨ (¬ la < lb ∧ ¬ lb < la ∧ (((lb:Int) + 1).tdiv 2 = (n:Int) ∧ ((la:Int) + 1).tdiv 2 = (n:Int))) ∨ (¬ la < lb ∧ lb < la ∧ ((la:Int) + 1).tdiv 2 = (n:Int)):=by
  have hN:=HN.out.1
  rcases (show la < lb ∨ la = lb ∨ lb < la by omega) with h | h | h
  ·obtain rfl:lb = N:=by omega
   exact .inl ⟨h,by omega,hd1⟩
  ·subst h
   obtain rfl:la = N:=by omega
   exact .inr (.inl ⟨by omega,by omega,hd1,hd1⟩)
  ·obtain rfl:la = N:=by omega
   exact .inr (.inr ⟨by omega,h,hd1⟩)
 clear hd1
 rcases key with ⟨c1,c2,c3⟩ | ⟨c1,c2,c3,c4⟩ | ⟨c1,c2,c3⟩
 all_goals
  go_enter Tryz.func158,Tryz.ntmps158
  go_wp2_with fail
  refine CA.out.mono ?_
  rintro e w1 ⟨a0,a1,rfl,ha0,ha1,hx1⟩
  have HX1:=hid hx1
  have CB1:=hid (CB.out w1 hx1)
  have HA0:=hid (ha0.to (S':=Old w1) (Kept.refl _ _) (fun k h => Nat.lt_of_lt_of_le (hS k h) hx1.size))
  have HA1:=hid (ha1.to (S':=Old w1) (Kept.refl _ _) (fun k h => Nat.lt_of_lt_of_le (hS k h) hx1.size))
  clear ha0 ha1 hx1
  go_wp2_with fail
  refine CB1.out.mono ?_
  rintro e w2 ⟨b0,b1,rfl,hb0,hb1,hx2⟩
  have HX2:=hid (HX1.out.trans hx2)
  have HA02:=hid (u_on HA0.out hx2)
  have HA12:=hid (u_on HA1.out hx2)
  have HB02:=hid (hb0.to (S':=Old w2) (Kept.refl _ _) (fun k h => Nat.lt_of_lt_of_le (hS k h) HX2.out.size))
  have HB12:=hid (hb1.to (S':=Old w2) (Kept.refl _ _) (fun k h => Nat.lt_of_lt_of_le (hS k h) HX2.out.size))
  clear hb0 hb1 hx2
  obtain ⟨x0,hx0⟩:∃ x,x = xs.take n:=⟨_,rfl⟩
  obtain ⟨x1,hx1⟩:∃ x,x = xs.drop n:=⟨_,rfl⟩
  obtain ⟨y0,hy0⟩:∃ x,x = ys.take n:=⟨_,rfl⟩
  obtain ⟨y1,hy1⟩:∃ x,x = ys.drop n:=⟨_,rfl⟩
  rw [← hx0] at HA02
  rw [← hx1] at HA12
  rw [← hy0] at HB02
  rw [← hy1] at HB12
  have l0:x0.length ≤ n:=by rw [hx0,List.length_take]; omega
  have l1:x1.length ≤ n:=by rw [hx1,List.length_drop,HLA.out.1]; omega
  have l2:y0.length ≤ n:=by rw [hy0,List.length_take]; omega
  have l3:y1.length ≤ n:=by rw [hy1,List.length_drop,HLA.out.2]; omega
  have HV:Hid (val B32 xs = val B32 x0 + B32 ^ n * val B32 x1 ∧ val B32 ys = val B32 y0 + B32 ^ n * val B32 y1):=hid ⟨by rw [hx0,hx1]; exact zqc _ _ _,by rw [hy0,hy1]; exact zqc _ _ _⟩
  have C1:=hid (IH _ _ _ _ _ w2 HA02.out HB02.out (fun _ h => h) (by omega) (by omega))
  clear hx0 hx1 hy0 hy1
  go_wp2_with fail
  refine C1.out.mono ?_
  rintro e w3 ⟨vl,rfl,hl3,hx3⟩
  have HX3:=hid (HX2.out.trans hx3)
  have HL3:=hid (z3w hl3)
  have HA03:=hid (u_on HA02.out hx3)
  have HA13:=hid (u_on HA12.out hx3)
  have HB03:=hid (u_on HB02.out hx3)
  have HB13:=hid (u_on HB12.out hx3)
  have C2:=hid (IH _ _ _ _ _ w3 HA13.out HB13.out (fun _ h => h) (by omega) (by omega))
  clear hl3 hx3
  go_wp2_with fail
  refine C2.out.mono ?_
  rintro e w4 ⟨vh,rfl,hh4,hx4⟩
  have HX4:=hid (HX3.out.trans hx4)
  have HL4:=hid (u_on HL3.out hx4)
  have HH4:=hid (z3w hh4)
  have HA04:=hid (u_on HA03.out hx4)
  have HA14:=hid (u_on HA13.out hx4)
  have HB04:=hid (u_on HB03.out hx4)
  have HB14:=hid (u_on HB13.out hx4)
  have C3:=hid (zhk _ _ _ _ w4 HA04.out HA14.out (fun _ h => h) (by omega) (by omega))
  clear hh4 hx4
  go_wp2_with fail
  refine C3.out.mono ?_
  rintro e w5 ⟨vs1,rfl,hs5,hx5⟩
  have HX5:=hid (HX4.out.trans hx5)
  have HL5:=hid (u_on HL4.out hx5)
  have HH5:=hid (u_on HH4.out hx5)
  have HB05:=hid (u_on HB04.out hx5)
  have HB15:=hid (u_on HB14.out hx5)
  have HS5:=hid (z3w hs5)
  have C4:=hid (zhk _ _ _ _ w5 HB05.out HB15.out (fun _ h => h) (by omega) (by omega))
  clear hs5 hx5
  go_wp2_with fail
  refine C4.out.mono ?_
  rintro e w6 ⟨vs2,rfl,hs6,hx6⟩
  have HX6:=hid (HX5.out.trans hx6)
  have HL6:=hid (u_on HL5.out hx6)
  have HH6:=hid (u_on HH5.out hx6)
  have HS16:=hid (u_on HS5.out hx6)
  have HS26:=hid (z3w hs6)
  have ls1:(rep B32 (val B32 x0 + val B32 x1)).length ≤ n + 1:=z8a (Nat.le_trans (z14 HA04.out.lt) l0) (Nat.le_trans (z14 HA14.out.lt) l1)
  have ls2:(rep B32 (val B32 y0 + val B32 y1)).length ≤ n + 1:=z8a (Nat.le_trans (z14 HB05.out.lt) l2) (Nat.le_trans (z14 HB15.out.lt) l3)
  have C5:=hid (IH _ _ _ _ _ w6 HS16.out HS26.out (fun _ h => h) (by omega) (by omega))
  have HLS:=hid (And.intro ls1 ls2)
  rw [z0d z00,z0d z00] at C5
  clear hs6 hx6 ls1 ls2
  go_wp2_with fail
  refine C5.out.mono ?_
  rintro e w7 ⟨vm,rfl,hm7,hx7⟩
  have HX7:=hid (HX6.out.trans hx7)
  have HL7:=hid (u_on HL6.out hx7)
  have HH7:=hid (u_on HH6.out hx7)
  have HM7:=hid (z3w hm7)
  obtain ⟨X0,hX0⟩:∃ x,x = val B32 x0:=⟨_,rfl⟩
  obtain ⟨X1,hX1⟩:∃ x,x = val B32 x1:=⟨_,rfl⟩
  obtain ⟨Y0,hY0⟩:∃ x,x = val B32 y0:=⟨_,rfl⟩
  obtain ⟨Y1,hY1⟩:∃ x,x = val B32 y1:=⟨_,rfl⟩
  rw [← hX0,← hX1,← hY0,← hY1] at HM7
  rw [← hX0,← hY0] at HL7
  rw [← hX1,← hY1] at HH7
  rw [← hX0,← hX1,← hY0,← hY1] at HV
  have HKM:=hid (zu5 X0 X1 Y0 Y1)
  have HLM:Hid ((rep B32 ((X0 + X1) * (Y0 + Y1))).length ≤ 50000000000000):=hid (by
   have h1:=HLS.out
   rw [← hX0,← hX1,← hY0,← hY1] at h1
   have h2:=z7p (a:=X0 + X1) (b:=Y0 + Y1) (k:=2 * (n + 1)) (by unfold lenN; omega)
   unfold lenN at h2
   omega)
  have C6:=hid (z68 _ _ _ _ w7 HM7.out HL7.out (fun _ h => h) HLM.out (by rw [z0d z00,z0d z00]; exact HKM.out.2.1))
  rw [z0d z00,z0d z00] at C6
  clear hm7 hx7 hX0 hX1 hY0 hY1
  go_wp2_with fail
  refine C6.out.mono ?_
  rintro e w8 ⟨vm2,rfl,hm8,hx8⟩
  have HX8:=hid (HX7.out.trans hx8)
  have HL8:=hid (u_on HL7.out hx8)
  have HH8:=hid (u_on HH7.out hx8)
  have HM8:=hid (z3w hm8)
  have C7:=hid (z68 _ _ _ _ w8 HM8.out HH8.out (fun _ h => h) (Nat.le_trans (z1o (Nat.sub_le _ _)) HLM.out) (by rw [z0d z00,z0d z00]; exact HKM.out.2.2))
  rw [z0d z00,z0d z00,HKM.out.1] at C7
  clear hm8 hx8
  go_wp2_with fail
  refine C7.out.mono ?_
  rintro e w9 ⟨vm3,rfl,hm9,hx9⟩
  have HX9:=hid (HX8.out.trans hx9)
  have HL9:=hid (u_on HL8.out hx9)
  have HH9:=hid (u_on HH8.out hx9)
  have HM9:=hid (z3w hm9)
  obtain ⟨cap,hcap⟩:∃ cap,cap = la + lb + 2:=⟨_,rfl⟩
  have hcap2:(la:Int) + (lb:Int) + 2 = (cap:Int):=by omega
  have hcap3:cap ≤ 1000000000000:=by omega
  have hmk:=run_make_row' (P:=Tryz.prog) 28 74 (.int .u32 0) 4 Tryz.underlying28 Tryz.infoU32 rfl .i64 .i64 cap (by omega) (by omega) w9
  have HQ0:=hid (z5w w9 cap 74)
  have HQX:=hid (Ext.alloc (Ext.refl w9) (.cells (madeCells #[.int .u32 0] cap) 74))
  obtain ⟨w10,hw10⟩:∃ W,W = w9.alloc (.cells (madeCells #[.int .u32 0] cap) 74):=⟨_,rfl⟩
  obtain ⟨g,hg⟩:∃ g,g = w9.heap.size:=⟨_,rfl⟩
  rw [← hw10,← hg] at hmk HQ0
  rw [← hw10] at HQX
  have HG:=hid hg
  have hsum:val B32 xs * val B32 ys = X0 * Y0 + B32 ^ n * (X0 * Y1 + X1 * Y0) + B32 ^ (2 * n) * (X1 * Y1):=by
   rw [HV.out.1,HV.out.2,zu6,show 2 * n = n + n by omega,Nat.pow_add]
  have hroom:val B32 xs * val B32 ys < B32 ^ cap:=by
   have h1:=z1k xs HLX.out.1
   have h2:=z1k ys HLX.out.2
   rw [HLA.out.1] at h1
   rw [HLA.out.2] at h2
   have h3:val B32 xs * val B32 ys < B32 ^ la * B32 ^ lb:=Nat.mul_lt_mul'' h1 h2
   rw [← Nat.pow_add] at h3
   exact Nat.lt_of_lt_of_le h3 (Nat.pow_le_pow_right (by decide) (by omega))
  have HSUM:=hid hsum
  have hr1:X0 * Y0 < B32 ^ cap:=by omega
  have hr2:X0 * Y0 + B32 ^ n * (X0 * Y1 + X1 * Y0) < B32 ^ cap:=by omega
  have hr3:X0 * Y0 + B32 ^ n * (X0 * Y1 + X1 * Y0) + B32 ^ (2 * n) * (X1 * Y1) < B32 ^ cap:=by omega
  have hOld:∀ W:World,Ext w9 W → ∀ j,Old w9 j → j < W.heap.size ∧ j ≠ g:=fun W h j hj => ⟨Nat.lt_of_lt_of_le hj h.size,by rw [hg]; exact Nat.ne_of_lt hj⟩
  have hlens:∀ v:Value,∀ k:Nat,U32s (Old w9) w9 v (rep B32 k) → k < B32 ^ cap → (rep B32 k).length ≤ 1000000000000:=fun v k _ hk => Nat.le_trans (z0f z00 k cap hk) hcap3
  have I1:=hid (z9v (S:=Old w9) (w:=w10) (g:=g) (cap:=cap) (at_:=0) (o:=List.replicate cap 0) (bs:=rep B32 (X0 * Y0)) vl HQ0.out (by simp) (fun z hz => by rw [(List.mem_replicate.1 hz).2]; decide) (HL9.out.to (Kept.ext HQX.out (fun _ h => h)) (fun _ h => h)) (hOld w10 HQX.out) (Nat.zero_le _) hcap3 (hlens _ _ HL9.out hr1) (by rw [z5s,z0d z00,Nat.pow_zero,Nat.one_mul,Nat.zero_add]; exact hr1))
  rw [z5s,z0d z00,Nat.pow_zero,Nat.one_mul,Nat.zero_add,show ((0:Nat):Int) = 0 from rfl] at I1
  have HR:=hid (And.intro hr1 (And.intro hr2 hr3))
  have HLEN:=hid hlens
  have HOLD:=hid hOld
  have hn4:n ≤ cap:=by omega
  have hn5:2 * n ≤ cap:=by omega
  have hz:X1 * Y1 < B32 ^ cap:=by have:=Nat.le_mul_of_pos_left (X1 * Y1) (Nat.pow_pos (n:=2 * n) (show 0 < B32 by decide)); omega
  have hz2:X0 * Y1 + X1 * Y0 < B32 ^ cap:=by have:=Nat.le_mul_of_pos_left (X0 * Y1 + X1 * Y0) (Nat.pow_pos (n:=n) (show 0 < B32 by decide)); omega
  have HZ:=hid (And.intro hz hz2)
  clear hm9 hx9 hcap hw10 hg hsum hroom hr1 hr2 hr3 hOld hlens hz hz2
  go_wp2_with fail
  refine I1.out.mono ?_
  rintro e w11 ⟨o1,rfl,lo1,ho1,hv1,hrow1,hgb1,hsz1⟩
  have HX11:=hid (z0n HQX.out hgb1 (fun k hk => by cases hk; rw [HG.out]; exact Nat.le_refl _))
  have I2:=hid (z9v (S:=Old w9) (w:=w11) (g:=g) (cap:=cap) (at_:=n) (o:=o1) (bs:=rep B32 (X0 * Y1 + X1 * Y0)) vm3 hrow1 lo1 ho1 (HM9.out.to (Kept.ext HX11.out (fun _ h => h)) (fun _ h => h)) (HOLD.out w11 HX11.out) hn4 hcap3 (HLEN.out _ _ HM9.out HZ.out.2) (by rw [hv1,z0d z00]; exact HR.out.2.1))
  rw [hv1,z0d z00] at I2
  clear lo1 ho1 hv1 hrow1 hgb1 hsz1
  go_wp2_with fail
  refine I2.out.mono ?_
  rintro e w12 ⟨o2,rfl,lo2,ho2,hv2,hrow2,hgb2,hsz2⟩
  have HX12:=hid (z0n HX11.out hgb2 (fun k hk => by cases hk; rw [HG.out]; exact Nat.le_refl _))
  have I3:=hid (z9v (S:=Old w9) (w:=w12) (g:=g) (cap:=cap) (at_:=2 * n) (o:=o2) (bs:=rep B32 (X1 * Y1)) vh hrow2 lo2 ho2 (HH9.out.to (Kept.ext HX12.out (fun _ h => h)) (fun _ h => h)) (HOLD.out w12 HX12.out) hn5 hcap3 (HLEN.out _ _ HH9.out HZ.out.1) (by rw [hv2,z0d z00]; exact HR.out.2.2))
  rw [hv2,z0d z00,← HSUM.out,show ((2 * n:Nat):Int) = 2 * (n:Int) by omega] at I3
  clear lo2 ho2 hv2 hrow2 hgb2 hsz2
  go_wp2_with fail
  refine I3.out.mono ?_
  rintro e w13 ⟨o3,rfl,lo3,ho3,hv3,hrow3,hgb3,hsz3⟩
  have HX13:=hid (z0n HX12.out hgb3 (fun k hk => by cases hk; rw [HG.out]; exact Nat.le_refl _))
  have hu3:U32s (fun k => k = g) w13 (.slice (some ⟨g,0,none⟩) cap cap) o3:=by
   have h1:=U32s.of_row hrow3 (by omega) ho3 (by omega)
   rwa [lo3] at h1
  have C8:=hid (z23 _ _ w13 hu3 (fun k hk => by rw [hk]; exact hrow3.lt) (by omega))
  rw [hv3] at C8
  clear lo3 ho3 hv3 hrow3 hgb3 hsz3 hu3
  go_wp2_with fail
  refine C8.out.mono ?_
  rintro e w14 ⟨v14,rfl,hu14,hx14⟩
  have HU14:=hid hu14
  have HX14:=hid hx14
  clear hu14 hx14
  go_wp2
  all_goals
   go_ret
   have x9:=HX9.out
   have x13:=HX13.out
   have x14:=HX14.out
   exact ⟨_,rfl,HU14.out.to (Kept.refl _ _) (fun k h => ⟨Nat.le_trans (Nat.le_trans x9.size x13.size) h.1,h.2⟩),(x9.trans x13).trans x14⟩
end
section
open Go.RowKit
theorem zii (N:Nat) (IH:zet N):zet (N + 1):=by
 intro S va vb xs ys w ha hb hS hlt hmax
 by_cases hc:xs.length < 24 ∨ ys.length < 24
 ·exact zdd va vb xs ys w ha hb hS (by omega) hc
 ·have HC:=hid (zxj (max xs.length ys.length) xs.length ys.length (fun S va vb xs' ys' w h1 h2 h3 h4 h5 => IH S va vb xs' ys' w h1 h2 h3 (by omega) h5) va vb xs ys w ha hb hS rfl rfl rfl (by omega) hmax)
  have hla:=ha.len_le
  have hlb:=hb.len_le
  obtain ⟨aa,ca,rfl⟩:=ha.form
  obtain ⟨a2,cb,rfl⟩:=hb.form
  clear ha hb
  obtain ⟨n,hn⟩:∃ n,n = xs.length:=⟨_,rfl⟩
  obtain ⟨m,hm⟩:∃ n,n = ys.length:=⟨_,rfl⟩
  rw [← hn,← hm] at hc hmax HC
  rw [← hn] at hla
  rw [← hm] at hlb
  rw [← hn,← hm]
  clear hn hm hlt
  have q1:¬ (n:Int) < 24:=by omega
  have q2:¬ (m:Int) < 24:=by omega
  have q3:¬ min (n:Int) (m:Int) < 24:=by omega
  clear hmax hc
  go_enter Tryz.func142,Tryz.ntmps142
  go_wp2_with fail
  all_goals
   with_reducible refine HC.out.mono ?_
   rintro e w1 ⟨v1,rfl,hp1,hx1⟩
   have HP1:=hid hp1
   have HX1:=hid hx1
   clear hp1 hx1
   go_wp2
   all_goals
    go_ret
    exact ⟨_,rfl,HP1.out,HX1.out⟩
theorem zqd (N:Nat):zet N:=by
 induction N with
 | zero =>
  intro S va vb xs ys w ha hb hS hlt
  exact absurd hlt (Nat.not_lt_zero _)
 | succ N ih => exact zii N ih
theorem zeu {S:Nat → Prop} (va vb:Value) (xs ys:List Nat) (w:World) (ha:U32s S w va xs) (hb:U32s S w vb ys) (hS:∀ k,S k → k < w.heap.size) (hr:xs.length ≤ 100000000000) (hr2:ys.length ≤ 100000000000) :
  Calls Tryz.prog 125 #[va,vb] w fun e w' => ∃ v',e = .returned v' ∧ U32s (New w w') w' v' (rep B32 (val B32 xs * val B32 ys)) ∧ Ext w w':=by
 have C1:=hid (z23 va xs w ha hS (by omega))
 have C2:=hid (fun (W:World) (hW:Ext w W) => z23 vb ys W (hb.ext hW hS) (z08 hS hW) (by omega))
 have C3:=hid (fun (W:World) (u v:Value) (hu:U32s (Old W) W u (rep B32 (val B32 xs))) (hv:U32s (Old W) W v (rep B32 (val B32 ys))) => zqd 100000000001 (Old W) u v _ _ W hu hv (fun _ h => h) (by have h1:=z14 ha.lt; have h2:=z14 hb.lt; omega) (by have h1:=z14 ha.lt; have h2:=z14 hb.lt; omega))
 simp only [z0d z00] at C3
 obtain ⟨aa,ca,rfl⟩:=ha.form
 obtain ⟨a2,cb,rfl⟩:=hb.form
 clear ha hb
 go_enter Tryz.func125,Tryz.ntmps125
 go_wp2_with fail
 with_reducible refine C1.out.mono ?_
 rintro e w1 ⟨v1,rfl,hp1,hx1⟩
 have HX1:=hid hx1
 have HP1:=hid (hp1.to (S':=Old w1) (Kept.refl _ _) New.lt)
 obtain ⟨a1,c1,rfl⟩:=hp1.form
 clear hp1 hx1
 go_wp2_with fail
 with_reducible refine (C2.out _ HX1.out).mono ?_
 rintro e w2 ⟨v2,rfl,hp2,hx2⟩
 have HX2:=hid (HX1.out.trans hx2)
 have C4:=hid (C3.out w2 _ v2 ((HP1.out.ext hx2 (fun _ h => h)).to (Kept.refl _ _) (fun k h => Nat.lt_of_lt_of_le h hx2.size)) (hp2.to (Kept.refl _ _) New.lt))
 obtain ⟨a3,c3,rfl⟩:=hp2.form
 clear hp2 hx2
 go_wp2_with fail
 with_reducible refine C4.out.mono ?_
 rintro e w3 ⟨v3,rfl,hp3,hx3⟩
 have HX3:=hid (HX2.out.trans hx3)
 have HP3:=hid (hp3.to (S':=New w w3) (Kept.refl _ _) (fun k h => ⟨Nat.le_trans HX2.out.size h.1,h.2⟩))
 clear hp3 hx3
 go_wp2
 all_goals
  go_ret
  exact ⟨_,rfl,HP3.out,HX3.out⟩
theorem z4n {S:Nat → Prop} (vx vy:Value) (x y:RInt) (w:World) (hx:IntV S w vx x) (hy:IntV S w vy y) (hS:∀ k,S k → k < w.heap.size) (hr:x.mag.length ≤ 100000000000) (hr2:y.mag.length ≤ 100000000000) :
  Calls Tryz.prog 95 #[vx,vy] w fun e w' => ∃ v',e = .returned v' ∧ IntV (New w w') w' v' (ofI (valI x * valI y)) ∧ Ext w w':=by
 obtain ⟨xn,xs⟩:=x
 obtain ⟨yn,ys⟩:=y
 obtain ⟨vxm,rfl,hxu⟩:=hx
 obtain ⟨vym,rfl,hyu⟩:=hy
 simp only at hxu hyu hr hr2 ⊢
 have HX:=hid hxu
 have HY:=hid hyu
 obtain ⟨ax,cx,rfl⟩:=hxu.form
 obtain ⟨ay,cy,rfl⟩:=hyu.form
 clear hxu hyu
 have HK:=hid (Ext.alloc (Ext.alloc (Ext.alloc (Ext.refl w) (.cells #[.bool xn,.slice ax xs.length cx] 30)) (.cells #[.bool yn,.slice ay ys.length cy] 30)) (.cells #[.bool false,.slice none 0 0] 30))
 have HXK:=hid (HX.out.ext HK.out hS)
 have HYK:=hid (HY.out.ext HK.out hS)
 have HSK:=hid (z08 hS HK.out)
 have hsz:w.heap.size + 1 + 1 < (((w.alloc (.cells #[.bool xn,.slice ax xs.length cx] 30)).alloc (.cells #[.bool yn,.slice ay ys.length cy] 30)).alloc (.cells #[.bool false,.slice none 0 0] 30)).heap.size:=by simp
 have HSZ:=hid hsz
 clear hsz
 have HQ:Hid (valI ⟨xn,xs⟩ * valI ⟨yn,ys⟩ = sg (xn != yn) (val B32 xs * val B32 ys)):=hid (by
  rw [zuy]
  rfl)
 obtain ⟨b1,b2,b3,b4⟩:=blk3 (Ext.refl (((w.alloc (.cells #[.bool xn,.slice ax xs.length cx] 30)).alloc (.cells #[.bool yn,.slice ay ys.length cy] 30)).alloc (.cells #[.bool false,.slice none 0 0] 30)))
 have c1:=b1 0 _ rfl
 have c2:=b1 1 _ rfl
 have c3:=b2 1 _ rfl
 have c4:=b2 0 _ rfl
 clear b1 b2 b3 b4
 have S0:=zkf c1 c2 c3
 have S0':=zkf c4 c4 c4
 have HS0:=hid (And.intro S0.1 (And.intro S0.2.1 (And.intro S0.2.2 S0'.1)))
 clear S0 S0' c1 c2 c3 c4
 go_enter Tryz.func95,Tryz.ntmps95
 go_wp2
 have S0:=HS0.out
 have HL:Hid ((rep B32 (val B32 xs * val B32 ys)).length ≤ 50000000000000):=hid (z7p (by have h1:=z6d HX.out.lt; have h2:=z6d HY.out.lt; omega))
 obtain ⟨xy,hxy⟩:∃ b,b = (xn != yn):=⟨_,rfl⟩
 rw [← hxy] at HQ
 have hxyq:(!(xn == yn)) = xy:=hxy.symm
 clear hxy
 go_region_held3 (fun W => W.cell? ⟨w.heap.size,0,none⟩ = some (.bool xn) ∧ W.cell? ⟨w.heap.size,1,none⟩ = some (.slice ax xs.length cx) ∧ W.cell? ⟨w.heap.size + 1,1,none⟩ = some (.slice ay ys.length cy) ∧ W.cell? ⟨w.heap.size + 1,0,none⟩ = some (.bool yn)) (first | exact S0 | exact S1 | exact S2 | exact ⟨z09 (z09 S2.1 (ab (by omega))) (ab (by omega)),z09 (z09 S2.2.1 (ab (by omega))) (ab (by omega)),z09 (z09 S2.2.2.1 (ab (by omega))) (ab (by omega)),z09 (z09 S2.2.2.2 (ab (by omega))) (ab (by omega))⟩)
  (first
   | (go_at_call 125; (with_reducible refine (zeu _ _ xs ys _ (HX.out.ext (HK.out.drew) hS) (HY.out.ext (HK.out.drew) hS) (z08 hS (HK.out.drew)) (by omega) (by omega)).mono ?_); rintro e w1 ⟨v1,rfl,hu1,hx1⟩; have S1:=And.intro (hx1.cell S0.1) (And.intro (hx1.cell S0.2.1) (And.intro (hx1.cell S0.2.2.1) (hx1.cell S0.2.2.2))); have HX1:=hid hx1; have HU1:=hid hu1; obtain ⟨a1,n1,rfl⟩:=hu1.form; clear hx1 hu1)
   | (go_at_call 98; (with_reducible refine (z4h xy _ _ _ HU1.out New.lt HL.out).mono ?_); rintro e w2 ⟨v2,rfl,⟨vm2,rfl,hu2⟩,hx2⟩; have S2:=And.intro (hx2.cell S1.1) (And.intro (hx2.cell S1.2.1) (And.intro (hx2.cell S1.2.2.1) (hx2.cell S1.2.2.2))); have HX2:=hid hx2; have HU2:=hid hu2; obtain ⟨a2,n2,rfl⟩:=hu2.form; obtain ⟨-,-,d3,d4⟩:=blk3 ((Ext.drew (Ext.refl _)).trans (HX1.out.trans hx2)); have e0:=d3 0 _ rfl; have e1:=d3 1 _ rfl; have HE:=hid (And.intro e0 e1); have f0:=d4 0; have f1:=d4 1; clear d3 d4 hx2 hu2))
 all_goals
  go_wp2
  have hd:=fun x y => z19 x y HE.out.1 HE.out.2
  refine bodyPost_ret (by simp [results,Tryz.results95,go_sem,(hd _ _).1,(hd _ _).2]; rfl) rfl ?_
  have hg:=z33 (w0:=w) (b:=w.heap.size + 1 + 1) rfl HU2.out (HK.out.drew.trans HX1.out) HX2.out (by omega) (Nat.lt_of_lt_of_le HSZ.out HX1.out.size) (.bool (ofI (sg xy (val B32 xs * val B32 ys))).neg) (.slice a2 (ofI (sg xy (val B32 xs * val B32 ys))).mag.length n2)
  rw [HQ.out]
  exact ⟨_,rfl,hg.1,hg.2⟩
end
section
open Go.RowKit
theorem zyz (b:Bool) (n:Nat):sg (!b) n = - sg b n:=by
 unfold sg
 cases b <;> simp
theorem zqe {S:Nat → Prop} (vx:Value) (x:RInt) (w:World) (hx:IntV S w vx x) (hS:∀ k,S k → k < w.heap.size) (hr:x.mag.length ≤ 50000000000000) :
  Calls Tryz.prog 123 #[vx] w fun e w' => ∃ v',e = .returned v' ∧ IntV (New w w') w' v' (ofI (- valI x)) ∧ Ext w w':=by
 obtain ⟨xn,xs⟩:=x
 obtain ⟨vxm,rfl,hxu⟩:=hx
 simp only at hxu hr ⊢
 have HX:=hid hxu
 obtain ⟨ax,cx,rfl⟩:=hxu.form
 have HQ:Hid (- valI ⟨xn,xs⟩ = sg (!xn) (val B32 xs)):=hid (by rw [zyz]; rfl)
 rw [HQ.out]
 obtain ⟨w0,hw0⟩:∃ W,W = (w.alloc (.cells #[.bool xn,.slice ax xs.length cx] 30)).alloc (.cells #[.bool false,.slice none 0 0] 30):=⟨_,rfl⟩
 have HX0:Hid (Ext w w0):=hid (by rw [hw0]; exact Ext.alloc (Ext.alloc (Ext.refl w) _) _)
 have HSZ:Hid (w.heap.size + 1 < w0.heap.size):=hid (by rw [hw0]; simp)
 have HB:=hid (fun (W:World) (h:Ext w0 W) => by
  rw [hw0] at h
  have e1:=h.new_cell (i:=0) (v:=.bool false) rfl
  have e2:=h.new_cell (i:=1) (v:=.slice none 0 0) rfl
  have e3:=h.new_free 0
  have e4:=h.new_free 1
  rw [z02] at e1 e2 e3 e4
  exact And.intro e1 (And.intro e2 (And.intro e3 e4)))
 have CM:=hid (zd2 (!xn) (.slice ax xs.length cx) xs w0 (hxu.ext HX0.out hS) (z08 hS HX0.out) hr)
 obtain ⟨nx,hnx⟩:∃ b,b = (!xn):=⟨_,rfl⟩
 rw [← hnx] at CM ⊢
 have hnot:(!xn) = nx:=hnx.symm
 rw [hw0] at CM
 have HW0:=hid hw0
 clear hxu hw0 hnx
 go_enter Tryz.func123,Tryz.ntmps123
 go_wp2_with fail
 refine CM.out.mono ?_
 rintro e w2 ⟨v2,rfl,⟨vm2,rfl,hu2⟩,hx2⟩
 rw [← HW0.out] at hu2 hx2
 obtain ⟨e0,e1,f0,f1⟩:=HB.out w2 hx2
 have HX2:=hid hx2
 have HU2:=hid hu2
 have HE:=hid (And.intro e0 e1)
 obtain ⟨a2,n2,rfl⟩:=hu2.form
 clear hu2 hx2
 go_wp2
 all_goals
  have hd:=fun x y => z19 x y HE.out.1 HE.out.2
  refine bodyPost_ret (by simp [results,Tryz.results123,go_sem,(hd _ _).1,(hd _ _).2]; rfl) rfl ?_
  have hg:=z33 (w0:=w) (b:=w.heap.size + 1) rfl HU2.out HX0.out HX2.out (by omega) HSZ.out (.bool (ofI (sg nx (val B32 xs))).neg) (.slice a2 (ofI (sg nx (val B32 xs))).mag.length n2)
  exact ⟨_,rfl,hg.1,hg.2⟩
end
end Go.Proofs.YtdcijfhkfhhfjaaGreat
