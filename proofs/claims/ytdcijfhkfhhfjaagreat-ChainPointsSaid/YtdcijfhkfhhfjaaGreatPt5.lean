/- The product of numbers of many limbs: by cutting. The product of two whole numbers, of any lengths. A whole number with the other sign. The contracts of sync/atomic's Int64 and Bool, of sync.Mutex and of sync.Once, for one goroutine: what each call does to memory. Conditions: the lock is free. The contracts of the meter's first refusal: sync.Once's Do around the closure that keeps what would be needed. Conditions: the Once's lock is free. The meter: what each of its methods does to its block, and to nothing else. How many limbs the longest coefficient has: the program's and the document's answer. The meter's methods: each answers an error's number, or a count, and changes its own block alone. The meter's Keep and New, and its methods on a meter that is not there. The document's meter: its methods over its block of eight numbers. A meter that is not there: each of its methods answers that nothing is bound. The document: out of terms, sums, a number, a variable, too great. The document: a polynomial as data. The document: a number, a variable, as polynomials. Slices of polynomials in memory. What the law knows. The document: the other sign, the difference. Coefficients, initial, tail and derivative of polynomials. Plain. What is made of two monomials, exponent by exponent; products of monomials. Plain. The document's product of monomials is the program's. Plain. The document: a monomial without a variable. append to a slice without room: a copy in memory of its own. -/
import Derived.Test.YtdcijfhkfhhfjaaGreatProg
import Derived.Tactics
import Derived.Tactics2
import Derived.Defers
import Derived.Laws.Pointers
import Derived.Laws.LoneSync
import Derived.RegionTactic
import Derived.RegionCalls
import Derived.ChangeAlike
import Derived.Laws.NewBlocks
import Derived.WalkKit
import Derived.BigQuiet
import Derived.Deep.QuietTactic
import Derived.StillTailTactics
import Derived.Test.YtdcijfhkfhhfjaaGreatPt4
set_option maxRecDepth 100000
set_option maxHeartbeats 16000000
namespace Go.Proofs.YtdcijfhkfhhfjaaGreat
section
open Go.RowKit
theorem u_on {w W:World} {v:Value} {zs:List Nat} (h:U32s (Old w) w v zs) (hx:Ext w W):U32s (Old W) W v zs:=h.to (Kept.ext hx (fun _ h => h)) (fun k h => Nat.lt_of_lt_of_le h hx.size)
theorem z3s {w W:World} {v:Value} {zs:List Nat} (h:U32s (New w W) W v zs):U32s (Old W) W v zs:=h.to (Kept.refl _ _) New.lt
theorem zo0 (B:Nat) (l:List Nat) (n:Nat):val B l = val B (l.take n) + B ^ n * val B (l.drop n):=by
 have h:=z21 (B:=B) l n
 by_cases hl:n ≤ l.length
 ·rwa [Nat.min_eq_left hl] at h
 ·rw [List.drop_eq_nil_of_le (by omega),show val B [] = 0 from rfl,Nat.mul_zero] at h ⊢
  exact h
theorem zrz (a b c d:Nat):(a + b) * (c + d) - a * c - b * d = a * d + b * c ∧ a * c ≤ (a + b) * (c + d) ∧ b * d ≤ (a + b) * (c + d) - a * c:=by
 have e:(a + b) * (c + d) = a * c + a * d + (b * c + b * d):=by rw [Nat.add_mul,Nat.mul_add,Nat.mul_add]
 omega
theorem zs0 (P a b c d:Nat):(a + P * b) * (c + P * d) = a * c + P * (a * d + b * c) + P * P * (b * d):=by
 have h1:a * (P * d) = P * (a * d):=Nat.mul_left_comm _ _ _
 have h2:P * b * c = P * (b * c):=Nat.mul_assoc _ _ _
 have h3:P * b * (P * d) = P * P * (b * d):=by rw [Nat.mul_mul_mul_comm]
 rw [Nat.add_mul,Nat.mul_add,Nat.mul_add,h1,h2,h3,Nat.mul_add]
 omega
def ze8 (N:Nat):Prop:=∀ (S:Nat → Prop) (va vb:Value) (xs ys:List Nat) (w:World),U32s S w va xs → U32s S w vb ys → (∀ k,S k → k < w.heap.size) → max xs.length ys.length < N → max xs.length ys.length ≤ 100000000000 →
 Calls Tryz.prog 142 #[.int .i64 24,va,vb] w fun e w' => ∃ v',e = .returned v' ∧ U32s (New w w') w' v' (rep B32 (val B32 xs * val B32 ys)) ∧ Ext w w'
theorem zw7 (N la lb:Nat) (IH:ze8 N) {S:Nat → Prop} (va vb:Value) (xs ys:List Nat) (w:World) (ha:U32s S w va xs) (hb:U32s S w vb ys) (hS:∀ k,S k → k < w.heap.size) (hla:xs.length = la) (hlb:ys.length = lb) (hN:N = max la lb) (h24:24 ≤ N) (hr:N ≤ 100000000000) :
  Calls Tryz.prog 158 #[va,vb,.func (.func 142) #[.int .i64 24] #[]] w fun e w' => ∃ v',e = .returned v' ∧ U32s (New w w') w' v' (rep B32 (val B32 xs * val B32 ys)) ∧ Ext w w':=by
 obtain ⟨n,hn⟩:∃ n,n = (N + 1) / 2:=⟨_,rfl⟩
 have HN:=hid (And.intro hN (And.intro h24 hn))
 have hn1:n + 1 < N:=by omega
 have hd1:((N:Int) + 1).tdiv 2 = (n:Int):=by rw [Int.tdiv_eq_ediv_of_nonneg (by omega)]; omega
 have hla':la ≤ N:=by omega
 have hlb':lb ≤ N:=by omega
 have hn2:2 * n ≤ N + 1:=by omega
 have hn3:N ≤ 2 * n:=by omega
 have hN2:N ≤ la + lb:=by omega
 have CA:=hid (zfz va xs n ha (by omega) (by omega))
 have CB:=hid (fun (W:World) (hW:Ext w W) => zfz vb ys n (hb.ext hW hS) (by omega) (by omega))
 have HLA:=hid (And.intro hla hlb)
 have HLX:=hid (And.intro ha.lt hb.lt)
 obtain ⟨aa,ca,rfl⟩:=ha.form
 obtain ⟨ab,cb,rfl⟩:=hb.form
 rw [hla] at CA ⊢
 rw [hlb] at CB ⊢
 clear ha hb hn hla hlb hN
 have key:(la < lb ∧ ¬ lb < la ∧ ((lb:Int) + 1).tdiv 2 = (n:Int)) ∨ (¬ la < lb ∧ ¬ lb < la ∧ (((lb:Int) + 1).tdiv 2 = (n:Int) ∧ ((la:Int) + 1).tdiv 2 = (n:Int))) ∨ (¬ la < lb ∧ lb < la ∧ ((la:Int) + 1).tdiv 2 = (n:Int)):=by
  have hN:=HN.out.1
  rcases (show la < lb ∨ la = lb ∨ lb < la by omega) with h | h | h
  ·obtain rfl:lb = N:=by omega
   exact .inl ⟨h,by omega,hd1⟩
  ·subst h
   obtain rfl:la = N:=by omega
   exact .inr (.inl ⟨by omega,by omega,hd1,hd1⟩)
  ·obtain rfl:la = N:=by omega
   exact .inr (.inr ⟨by omega,h,hd1⟩)
 clear hd1
 rcases key with ⟨c1,c2,c3⟩ | ⟨c1,c2,c3,c4⟩ | ⟨c1,c2,c3⟩
 all_goals
  go_enter Tryz.func158,Tryz.ntmps158
  go_wp2_with fail
  refine CA.out.mono ?_
  rintro e w1 ⟨a0,a1,rfl,ha0,ha1,hx1⟩
  have HX1:=hid hx1
  have CB1:=hid (CB.out w1 hx1)
  have HA0:=hid (ha0.to (S':=Old w1) (Kept.refl _ _) (fun k h => Nat.lt_of_lt_of_le (hS k h) hx1.size))
  have HA1:=hid (ha1.to (S':=Old w1) (Kept.refl _ _) (fun k h => Nat.lt_of_lt_of_le (hS k h) hx1.size))
  clear ha0 ha1 hx1
  go_wp2_with fail
  refine CB1.out.mono ?_
  rintro e w2 ⟨b0,b1,rfl,hb0,hb1,hx2⟩
  have HX2:=hid (HX1.out.trans hx2)
  have HA02:=hid (u_on HA0.out hx2)
  have HA12:=hid (u_on HA1.out hx2)
  have HB02:=hid (hb0.to (S':=Old w2) (Kept.refl _ _) (fun k h => Nat.lt_of_lt_of_le (hS k h) HX2.out.size))
  have HB12:=hid (hb1.to (S':=Old w2) (Kept.refl _ _) (fun k h => Nat.lt_of_lt_of_le (hS k h) HX2.out.size))
  clear hb0 hb1 hx2
  obtain ⟨x0,hx0⟩:∃ x,x = xs.take n:=⟨_,rfl⟩
  obtain ⟨x1,hx1⟩:∃ x,x = xs.drop n:=⟨_,rfl⟩
  obtain ⟨y0,hy0⟩:∃ x,x = ys.take n:=⟨_,rfl⟩
  obtain ⟨y1,hy1⟩:∃ x,x = ys.drop n:=⟨_,rfl⟩
  rw [← hx0] at HA02
  rw [← hx1] at HA12
  rw [← hy0] at HB02
  rw [← hy1] at HB12
  have l0:x0.length ≤ n:=by rw [hx0,List.length_take]; omega
  have l1:x1.length ≤ n:=by rw [hx1,List.length_drop,HLA.out.1]; omega
  have l2:y0.length ≤ n:=by rw [hy0,List.length_take]; omega
  have l3:y1.length ≤ n:=by rw [hy1,List.length_drop,HLA.out.2]; omega
  have HV:Hid (val B32 xs = val B32 x0 + B32 ^ n * val B32 x1 ∧ val B32 ys = val B32 y0 + B32 ^ n * val B32 y1):=hid ⟨by rw [hx0,hx1]; exact zo0 _ _ _,by rw [hy0,hy1]; exact zo0 _ _ _⟩
  have C1:=hid (IH _ _ _ _ _ w2 HA02.out HB02.out (fun _ h => h) (by omega) (by omega))
  clear hx0 hx1 hy0 hy1
  go_wp2_with fail
  refine C1.out.mono ?_
  rintro e w3 ⟨vl,rfl,hl3,hx3⟩
  have HX3:=hid (HX2.out.trans hx3)
  have HL3:=hid (z3s hl3)
  have HA03:=hid (u_on HA02.out hx3)
  have HA13:=hid (u_on HA12.out hx3)
  have HB03:=hid (u_on HB02.out hx3)
  have HB13:=hid (u_on HB12.out hx3)
  have C2:=hid (IH _ _ _ _ _ w3 HA13.out HB13.out (fun _ h => h) (by omega) (by omega))
  clear hl3 hx3
  go_wp2_with fail
  refine C2.out.mono ?_
  rintro e w4 ⟨vh,rfl,hh4,hx4⟩
  have HX4:=hid (HX3.out.trans hx4)
  have HL4:=hid (u_on HL3.out hx4)
  have HH4:=hid (z3s hh4)
  have HA04:=hid (u_on HA03.out hx4)
  have HA14:=hid (u_on HA13.out hx4)
  have HB04:=hid (u_on HB03.out hx4)
  have HB14:=hid (u_on HB13.out hx4)
  have C3:=hid (zhn _ _ _ _ w4 HA04.out HA14.out (fun _ h => h) (by omega) (by omega))
  clear hh4 hx4
  go_wp2_with fail
  refine C3.out.mono ?_
  rintro e w5 ⟨vs1,rfl,hs5,hx5⟩
  have HX5:=hid (HX4.out.trans hx5)
  have HL5:=hid (u_on HL4.out hx5)
  have HH5:=hid (u_on HH4.out hx5)
  have HB05:=hid (u_on HB04.out hx5)
  have HB15:=hid (u_on HB14.out hx5)
  have HS5:=hid (z3s hs5)
  have C4:=hid (zhn _ _ _ _ w5 HB05.out HB15.out (fun _ h => h) (by omega) (by omega))
  clear hs5 hx5
  go_wp2_with fail
  refine C4.out.mono ?_
  rintro e w6 ⟨vs2,rfl,hs6,hx6⟩
  have HX6:=hid (HX5.out.trans hx6)
  have HL6:=hid (u_on HL5.out hx6)
  have HH6:=hid (u_on HH5.out hx6)
  have HS16:=hid (u_on HS5.out hx6)
  have HS26:=hid (z3s hs6)
  have ls1:(rep B32 (val B32 x0 + val B32 x1)).length ≤ n + 1:=z8b (Nat.le_trans (z14 HA04.out.lt) l0) (Nat.le_trans (z14 HA14.out.lt) l1)
  have ls2:(rep B32 (val B32 y0 + val B32 y1)).length ≤ n + 1:=z8b (Nat.le_trans (z14 HB05.out.lt) l2) (Nat.le_trans (z14 HB15.out.lt) l3)
  have C5:=hid (IH _ _ _ _ _ w6 HS16.out HS26.out (fun _ h => h) (by omega) (by omega))
  have HLS:=hid (And.intro ls1 ls2)
  rw [z0d z00,z0d z00] at C5
  clear hs6 hx6 ls1 ls2
  go_wp2_with fail
  refine C5.out.mono ?_
  rintro e w7 ⟨vm,rfl,hm7,hx7⟩
  have HX7:=hid (HX6.out.trans hx7)
  have HL7:=hid (u_on HL6.out hx7)
  have HH7:=hid (u_on HH6.out hx7)
  have HM7:=hid (z3s hm7)
  obtain ⟨X0,hX0⟩:∃ x,x = val B32 x0:=⟨_,rfl⟩
  obtain ⟨X1,hX1⟩:∃ x,x = val B32 x1:=⟨_,rfl⟩
  obtain ⟨Y0,hY0⟩:∃ x,x = val B32 y0:=⟨_,rfl⟩
  obtain ⟨Y1,hY1⟩:∃ x,x = val B32 y1:=⟨_,rfl⟩
  rw [← hX0,← hX1,← hY0,← hY1] at HM7
  rw [← hX0,← hY0] at HL7
  rw [← hX1,← hY1] at HH7
  rw [← hX0,← hX1,← hY0,← hY1] at HV
  have HKM:=hid (zrz X0 X1 Y0 Y1)
  have HLM:Hid ((rep B32 ((X0 + X1) * (Y0 + Y1))).length ≤ 50000000000000):=hid (by
   have h1:=HLS.out
   rw [← hX0,← hX1,← hY0,← hY1] at h1
   have h2:=z7k (a:=X0 + X1) (b:=Y0 + Y1) (k:=2 * (n + 1)) (by unfold lenN; omega)
   unfold lenN at h2
   omega)
  have C6:=hid (z67 _ _ _ _ w7 HM7.out HL7.out (fun _ h => h) HLM.out (by rw [z0d z00,z0d z00]; exact HKM.out.2.1))
  rw [z0d z00,z0d z00] at C6
  clear hm7 hx7 hX0 hX1 hY0 hY1
  go_wp2_with fail
  refine C6.out.mono ?_
  rintro e w8 ⟨vm2,rfl,hm8,hx8⟩
  have HX8:=hid (HX7.out.trans hx8)
  have HL8:=hid (u_on HL7.out hx8)
  have HH8:=hid (u_on HH7.out hx8)
  have HM8:=hid (z3s hm8)
  have C7:=hid (z67 _ _ _ _ w8 HM8.out HH8.out (fun _ h => h) (Nat.le_trans (z1o (Nat.sub_le _ _)) HLM.out) (by rw [z0d z00,z0d z00]; exact HKM.out.2.2))
  rw [z0d z00,z0d z00,HKM.out.1] at C7
  clear hm8 hx8
  go_wp2_with fail
  refine C7.out.mono ?_
  rintro e w9 ⟨vm3,rfl,hm9,hx9⟩
  have HX9:=hid (HX8.out.trans hx9)
  have HL9:=hid (u_on HL8.out hx9)
  have HH9:=hid (u_on HH8.out hx9)
  have HM9:=hid (z3s hm9)
  obtain ⟨cap,hcap⟩:∃ cap,cap = la + lb + 2:=⟨_,rfl⟩
  have hcap2:(la:Int) + (lb:Int) + 2 = (cap:Int):=by omega
  have hcap3:cap ≤ 1000000000000:=by omega
  have hmk:=run_make_row' (P:=Tryz.prog) 28 74 (.int .u32 0) 4 Tryz.underlying28 Tryz.infoU32 rfl .i64 .i64 cap (by omega) (by omega) w9
  have HQ0:=hid (z5w w9 cap 74)
  have HQX:=hid (Ext.alloc (Ext.refl w9) (.cells (madeCells #[.int .u32 0] cap) 74))
  obtain ⟨w10,hw10⟩:∃ W,W = w9.alloc (.cells (madeCells #[.int .u32 0] cap) 74):=⟨_,rfl⟩
  obtain ⟨g,hg⟩:∃ g,g = w9.heap.size:=⟨_,rfl⟩
  rw [← hw10,← hg] at hmk HQ0
  rw [← hw10] at HQX
  have HG:=hid hg
  have hsum:val B32 xs * val B32 ys = X0 * Y0 + B32 ^ n * (X0 * Y1 + X1 * Y0) + B32 ^ (2 * n) * (X1 * Y1):=by
   rw [HV.out.1,HV.out.2,zs0,show 2 * n = n + n by omega,Nat.pow_add]
  have hroom:val B32 xs * val B32 ys < B32 ^ cap:=by
   have h1:=z1k xs HLX.out.1
   have h2:=z1k ys HLX.out.2
   rw [HLA.out.1] at h1
   rw [HLA.out.2] at h2
   have h3:val B32 xs * val B32 ys < B32 ^ la * B32 ^ lb:=Nat.mul_lt_mul'' h1 h2
   rw [← Nat.pow_add] at h3
   exact Nat.lt_of_lt_of_le h3 (Nat.pow_le_pow_right (by decide) (by omega))
  have HSUM:=hid hsum
  have hr1:X0 * Y0 < B32 ^ cap:=by omega
  have hr2:X0 * Y0 + B32 ^ n * (X0 * Y1 + X1 * Y0) < B32 ^ cap:=by omega
  have hr3:X0 * Y0 + B32 ^ n * (X0 * Y1 + X1 * Y0) + B32 ^ (2 * n) * (X1 * Y1) < B32 ^ cap:=by omega
  have hOld:∀ W:World,Ext w9 W → ∀ j,Old w9 j → j < W.heap.size ∧ j ≠ g:=fun W h j hj => ⟨Nat.lt_of_lt_of_le hj h.size,by rw [hg]; exact Nat.ne_of_lt hj⟩
  have hlens:∀ v:Value,∀ k:Nat,U32s (Old w9) w9 v (rep B32 k) → k < B32 ^ cap → (rep B32 k).length ≤ 1000000000000:=fun v k _ hk => Nat.le_trans (z0f z00 k cap hk) hcap3
  have I1:=hid (z9m (S:=Old w9) (w:=w10) (g:=g) (cap:=cap) (at_:=0) (o:=List.replicate cap 0) (bs:=rep B32 (X0 * Y0)) vl HQ0.out (by simp) (fun z hz => by rw [(List.mem_replicate.1 hz).2]; decide) (HL9.out.to (Kept.ext HQX.out (fun _ h => h)) (fun _ h => h)) (hOld w10 HQX.out) (Nat.zero_le _) hcap3 (hlens _ _ HL9.out hr1) (by rw [z5s,z0d z00,Nat.pow_zero,Nat.one_mul,Nat.zero_add]; exact hr1))
  rw [z5s,z0d z00,Nat.pow_zero,Nat.one_mul,Nat.zero_add,show ((0:Nat):Int) = 0 from rfl] at I1
  have HR:=hid (And.intro hr1 (And.intro hr2 hr3))
  have HLEN:=hid hlens
  have HOLD:=hid hOld
  have hn4:n ≤ cap:=by omega
  have hn5:2 * n ≤ cap:=by omega
  have hz:X1 * Y1 < B32 ^ cap:=by have:=Nat.le_mul_of_pos_left (X1 * Y1) (Nat.pow_pos (n:=2 * n) (show 0 < B32 by decide)); omega
  have hz2:X0 * Y1 + X1 * Y0 < B32 ^ cap:=by have:=Nat.le_mul_of_pos_left (X0 * Y1 + X1 * Y0) (Nat.pow_pos (n:=n) (show 0 < B32 by decide)); omega
  have HZ:=hid (And.intro hz hz2)
  clear hm9 hx9 hcap hw10 hg hsum hroom hr1 hr2 hr3 hOld hlens hz hz2
  go_wp2_with fail
  refine I1.out.mono ?_
  rintro e w11 ⟨o1,rfl,lo1,ho1,hv1,hrow1,hgb1,hsz1⟩
  have HX11:=hid (z0n HQX.out hgb1 (fun k hk => by cases hk; rw [HG.out]; exact Nat.le_refl _))
  have I2:=hid (z9m (S:=Old w9) (w:=w11) (g:=g) (cap:=cap) (at_:=n) (o:=o1) (bs:=rep B32 (X0 * Y1 + X1 * Y0)) vm3 hrow1 lo1 ho1 (HM9.out.to (Kept.ext HX11.out (fun _ h => h)) (fun _ h => h)) (HOLD.out w11 HX11.out) hn4 hcap3 (HLEN.out _ _ HM9.out HZ.out.2) (by rw [hv1,z0d z00]; exact HR.out.2.1))
  rw [hv1,z0d z00] at I2
  clear lo1 ho1 hv1 hrow1 hgb1 hsz1
  go_wp2_with fail
  refine I2.out.mono ?_
  rintro e w12 ⟨o2,rfl,lo2,ho2,hv2,hrow2,hgb2,hsz2⟩
  have HX12:=hid (z0n HX11.out hgb2 (fun k hk => by cases hk; rw [HG.out]; exact Nat.le_refl _))
  have I3:=hid (z9m (S:=Old w9) (w:=w12) (g:=g) (cap:=cap) (at_:=2 * n) (o:=o2) (bs:=rep B32 (X1 * Y1)) vh hrow2 lo2 ho2 (HH9.out.to (Kept.ext HX12.out (fun _ h => h)) (fun _ h => h)) (HOLD.out w12 HX12.out) hn5 hcap3 (HLEN.out _ _ HH9.out HZ.out.1) (by rw [hv2,z0d z00]; exact HR.out.2.2))
  rw [hv2,z0d z00,← HSUM.out,show ((2 * n:Nat):Int) = 2 * (n:Int) by omega] at I3
  clear lo2 ho2 hv2 hrow2 hgb2 hsz2
  go_wp2_with fail
  refine I3.out.mono ?_
  rintro e w13 ⟨o3,rfl,lo3,ho3,hv3,hrow3,hgb3,hsz3⟩
  have HX13:=hid (z0n HX12.out hgb3 (fun k hk => by cases hk; rw [HG.out]; exact Nat.le_refl _))
  have hu3:U32s (fun k => k = g) w13 (.slice (some ⟨g,0,none⟩) cap cap) o3:=by
   have h1:=U32s.of_row hrow3 (by omega) ho3 (by omega)
   rwa [lo3] at h1
  have C8:=hid (z23 _ _ w13 hu3 (fun k hk => by rw [hk]; exact hrow3.lt) (by omega))
  rw [hv3] at C8
  clear lo3 ho3 hv3 hrow3 hgb3 hsz3 hu3
  go_wp2_with fail
  refine C8.out.mono ?_
  rintro e w14 ⟨v14,rfl,hu14,hx14⟩
  have HU14:=hid hu14
  have HX14:=hid hx14
  clear hu14 hx14
  go_wp2
  all_goals
   go_ret
   have x9:=HX9.out
   have x13:=HX13.out
   have x14:=HX14.out
   exact ⟨_,rfl,HU14.out.to (Kept.refl _ _) (fun k h => ⟨Nat.le_trans (Nat.le_trans x9.size x13.size) h.1,h.2⟩),(x9.trans x13).trans x14⟩
end
section
open Go.RowKit
theorem zi2 (N:Nat) (IH:ze8 N):ze8 (N + 1):=by
 intro S va vb xs ys w ha hb hS hlt hmax
 by_cases hc:xs.length < 24 ∨ ys.length < 24
 ·exact zd9 va vb xs ys w ha hb hS (by omega) hc
 ·have HC:=hid (zw7 (max xs.length ys.length) xs.length ys.length (fun S va vb xs' ys' w h1 h2 h3 h4 h5 => IH S va vb xs' ys' w h1 h2 h3 (by omega) h5) va vb xs ys w ha hb hS rfl rfl rfl (by omega) hmax)
  have hla:=ha.len_le
  have hlb:=hb.len_le
  obtain ⟨aa,ca,rfl⟩:=ha.form
  obtain ⟨a2,cb,rfl⟩:=hb.form
  clear ha hb
  obtain ⟨n,hn⟩:∃ n,n = xs.length:=⟨_,rfl⟩
  obtain ⟨m,hm⟩:∃ n,n = ys.length:=⟨_,rfl⟩
  rw [← hn,← hm] at hc hmax HC
  rw [← hn] at hla
  rw [← hm] at hlb
  rw [← hn,← hm]
  clear hn hm hlt
  have q1:¬ (n:Int) < 24:=by omega
  have q2:¬ (m:Int) < 24:=by omega
  have q3:¬ min (n:Int) (m:Int) < 24:=by omega
  clear hmax hc
  go_enter Tryz.func142,Tryz.ntmps142
  go_wp2_with fail
  all_goals
   with_reducible refine HC.out.mono ?_
   rintro e w1 ⟨v1,rfl,hp1,hx1⟩
   have HP1:=hid hp1
   have HX1:=hid hx1
   clear hp1 hx1
   go_wp2
   all_goals
    go_ret
    exact ⟨_,rfl,HP1.out,HX1.out⟩
theorem zo1 (N:Nat):ze8 N:=by
 induction N with
 | zero =>
  intro S va vb xs ys w ha hb hS hlt
  exact absurd hlt (Nat.not_lt_zero _)
 | succ N ih => exact zi2 N ih
theorem ze9 {S:Nat → Prop} (va vb:Value) (xs ys:List Nat) (w:World) (ha:U32s S w va xs) (hb:U32s S w vb ys) (hS:∀ k,S k → k < w.heap.size) (hr:xs.length ≤ 100000000000) (hr2:ys.length ≤ 100000000000) :
  Calls Tryz.prog 125 #[va,vb] w fun e w' => ∃ v',e = .returned v' ∧ U32s (New w w') w' v' (rep B32 (val B32 xs * val B32 ys)) ∧ Ext w w':=by
 have C1:=hid (z23 va xs w ha hS (by omega))
 have C2:=hid (fun (W:World) (hW:Ext w W) => z23 vb ys W (hb.ext hW hS) (z08 hS hW) (by omega))
 have C3:=hid (fun (W:World) (u v:Value) (hu:U32s (Old W) W u (rep B32 (val B32 xs))) (hv:U32s (Old W) W v (rep B32 (val B32 ys))) => zo1 100000000001 (Old W) u v _ _ W hu hv (fun _ h => h) (by have h1:=z14 ha.lt; have h2:=z14 hb.lt; omega) (by have h1:=z14 ha.lt; have h2:=z14 hb.lt; omega))
 simp only [z0d z00] at C3
 obtain ⟨aa,ca,rfl⟩:=ha.form
 obtain ⟨a2,cb,rfl⟩:=hb.form
 clear ha hb
 go_enter Tryz.func125,Tryz.ntmps125
 go_wp2_with fail
 with_reducible refine C1.out.mono ?_
 rintro e w1 ⟨v1,rfl,hp1,hx1⟩
 have HX1:=hid hx1
 have HP1:=hid (hp1.to (S':=Old w1) (Kept.refl _ _) New.lt)
 obtain ⟨a1,c1,rfl⟩:=hp1.form
 clear hp1 hx1
 go_wp2_with fail
 with_reducible refine (C2.out _ HX1.out).mono ?_
 rintro e w2 ⟨v2,rfl,hp2,hx2⟩
 have HX2:=hid (HX1.out.trans hx2)
 have C4:=hid (C3.out w2 _ v2 ((HP1.out.ext hx2 (fun _ h => h)).to (Kept.refl _ _) (fun k h => Nat.lt_of_lt_of_le h hx2.size)) (hp2.to (Kept.refl _ _) New.lt))
 obtain ⟨a3,c3,rfl⟩:=hp2.form
 clear hp2 hx2
 go_wp2_with fail
 with_reducible refine C4.out.mono ?_
 rintro e w3 ⟨v3,rfl,hp3,hx3⟩
 have HX3:=hid (HX2.out.trans hx3)
 have HP3:=hid (hp3.to (S':=New w w3) (Kept.refl _ _) (fun k h => ⟨Nat.le_trans HX2.out.size h.1,h.2⟩))
 clear hp3 hx3
 go_wp2
 all_goals
  go_ret
  exact ⟨_,rfl,HP3.out,HX3.out⟩
theorem z4k {S:Nat → Prop} (vx vy:Value) (x y:RInt) (w:World) (hx:IntV S w vx x) (hy:IntV S w vy y) (hS:∀ k,S k → k < w.heap.size) (hr:x.mag.length ≤ 100000000000) (hr2:y.mag.length ≤ 100000000000) :
  Calls Tryz.prog 95 #[vx,vy] w fun e w' => ∃ v',e = .returned v' ∧ IntV (New w w') w' v' (ofI (valI x * valI y)) ∧ Ext w w':=by
 obtain ⟨xn,xs⟩:=x
 obtain ⟨yn,ys⟩:=y
 obtain ⟨vxm,rfl,hxu⟩:=hx
 obtain ⟨vym,rfl,hyu⟩:=hy
 simp only at hxu hyu hr hr2 ⊢
 have HX:=hid hxu
 have HY:=hid hyu
 obtain ⟨ax,cx,rfl⟩:=hxu.form
 obtain ⟨ay,cy,rfl⟩:=hyu.form
 clear hxu hyu
 have HK:=hid (Ext.alloc (Ext.alloc (Ext.alloc (Ext.refl w) (.cells #[.bool xn,.slice ax xs.length cx] 30)) (.cells #[.bool yn,.slice ay ys.length cy] 30)) (.cells #[.bool false,.slice none 0 0] 30))
 have HXK:=hid (HX.out.ext HK.out hS)
 have HYK:=hid (HY.out.ext HK.out hS)
 have HSK:=hid (z08 hS HK.out)
 have hsz:w.heap.size + 1 + 1 < (((w.alloc (.cells #[.bool xn,.slice ax xs.length cx] 30)).alloc (.cells #[.bool yn,.slice ay ys.length cy] 30)).alloc (.cells #[.bool false,.slice none 0 0] 30)).heap.size:=by simp
 have HSZ:=hid hsz
 clear hsz
 have HQ:Hid (valI ⟨xn,xs⟩ * valI ⟨yn,ys⟩ = sg (xn != yn) (val B32 xs * val B32 ys)):=hid (by
  rw [zuz]
  rfl)
 obtain ⟨b1,b2,b3,b4⟩:=blk3 (Ext.refl (((w.alloc (.cells #[.bool xn,.slice ax xs.length cx] 30)).alloc (.cells #[.bool yn,.slice ay ys.length cy] 30)).alloc (.cells #[.bool false,.slice none 0 0] 30)))
 have c1:=b1 0 _ rfl
 have c2:=b1 1 _ rfl
 have c3:=b2 1 _ rfl
 have c4:=b2 0 _ rfl
 clear b1 b2 b3 b4
 have S0:=zkf c1 c2 c3
 have S0':=zkf c4 c4 c4
 have HS0:=hid (And.intro S0.1 (And.intro S0.2.1 (And.intro S0.2.2 S0'.1)))
 clear S0 S0' c1 c2 c3 c4
 go_enter Tryz.func95,Tryz.ntmps95
 go_wp2
 have S0:=HS0.out
 have HL:Hid ((rep B32 (val B32 xs * val B32 ys)).length ≤ 50000000000000):=hid (z7k (by have h1:=z69 HX.out.lt; have h2:=z69 HY.out.lt; omega))
 obtain ⟨xy,hxy⟩:∃ b,b = (xn != yn):=⟨_,rfl⟩
 rw [← hxy] at HQ
 have hxyq:(!(xn == yn)) = xy:=hxy.symm
 clear hxy
 go_region_held3 (fun W => W.cell? ⟨w.heap.size,0,none⟩ = some (.bool xn) ∧ W.cell? ⟨w.heap.size,1,none⟩ = some (.slice ax xs.length cx) ∧ W.cell? ⟨w.heap.size + 1,1,none⟩ = some (.slice ay ys.length cy) ∧ W.cell? ⟨w.heap.size + 1,0,none⟩ = some (.bool yn)) (first | exact S0 | exact S1 | exact S2 | exact ⟨z09 (z09 S2.1 (ab (by omega))) (ab (by omega)),z09 (z09 S2.2.1 (ab (by omega))) (ab (by omega)),z09 (z09 S2.2.2.1 (ab (by omega))) (ab (by omega)),z09 (z09 S2.2.2.2 (ab (by omega))) (ab (by omega))⟩)
  (first
   | (go_at_call 125; (with_reducible refine (ze9 _ _ xs ys _ (HX.out.ext (HK.out.drew) hS) (HY.out.ext (HK.out.drew) hS) (z08 hS (HK.out.drew)) (by omega) (by omega)).mono ?_); rintro e w1 ⟨v1,rfl,hu1,hx1⟩; have S1:=And.intro (hx1.cell S0.1) (And.intro (hx1.cell S0.2.1) (And.intro (hx1.cell S0.2.2.1) (hx1.cell S0.2.2.2))); have HX1:=hid hx1; have HU1:=hid hu1; obtain ⟨a1,n1,rfl⟩:=hu1.form; clear hx1 hu1)
   | (go_at_call 98; (with_reducible refine (z4h xy _ _ _ HU1.out New.lt HL.out).mono ?_); rintro e w2 ⟨v2,rfl,⟨vm2,rfl,hu2⟩,hx2⟩; have S2:=And.intro (hx2.cell S1.1) (And.intro (hx2.cell S1.2.1) (And.intro (hx2.cell S1.2.2.1) (hx2.cell S1.2.2.2))); have HX2:=hid hx2; have HU2:=hid hu2; obtain ⟨a2,n2,rfl⟩:=hu2.form; obtain ⟨-,-,d3,d4⟩:=blk3 ((Ext.drew (Ext.refl _)).trans (HX1.out.trans hx2)); have e0:=d3 0 _ rfl; have e1:=d3 1 _ rfl; have HE:=hid (And.intro e0 e1); have f0:=d4 0; have f1:=d4 1; clear d3 d4 hx2 hu2))
 all_goals
  go_wp2
  have hd:=fun x y => z19 x y HE.out.1 HE.out.2
  refine bodyPost_ret (by simp [results,Tryz.results95,go_sem,(hd _ _).1,(hd _ _).2]; rfl) rfl ?_
  have hg:=z33 (w0:=w) (b:=w.heap.size + 1 + 1) rfl HU2.out (HK.out.drew.trans HX1.out) HX2.out (by omega) (Nat.lt_of_lt_of_le HSZ.out HX1.out.size) (.bool (ofI (sg xy (val B32 xs * val B32 ys))).neg) (.slice a2 (ofI (sg xy (val B32 xs * val B32 ys))).mag.length n2)
  rw [HQ.out]
  exact ⟨_,rfl,hg.1,hg.2⟩
end
section
open Go.RowKit
theorem zy9 (b:Bool) (n:Nat):sg (!b) n = - sg b n:=by
 unfold sg
 cases b <;> simp
theorem zo2 {S:Nat → Prop} (vx:Value) (x:RInt) (w:World) (hx:IntV S w vx x) (hS:∀ k,S k → k < w.heap.size) (hr:x.mag.length ≤ 50000000000000) :
  Calls Tryz.prog 123 #[vx] w fun e w' => ∃ v',e = .returned v' ∧ IntV (New w w') w' v' (ofI (- valI x)) ∧ Ext w w':=by
 obtain ⟨xn,xs⟩:=x
 obtain ⟨vxm,rfl,hxu⟩:=hx
 simp only at hxu hr ⊢
 have HX:=hid hxu
 obtain ⟨ax,cx,rfl⟩:=hxu.form
 have HQ:Hid (- valI ⟨xn,xs⟩ = sg (!xn) (val B32 xs)):=hid (by rw [zy9]; rfl)
 rw [HQ.out]
 obtain ⟨w0,hw0⟩:∃ W,W = (w.alloc (.cells #[.bool xn,.slice ax xs.length cx] 30)).alloc (.cells #[.bool false,.slice none 0 0] 30):=⟨_,rfl⟩
 have HX0:Hid (Ext w w0):=hid (by rw [hw0]; exact Ext.alloc (Ext.alloc (Ext.refl w) _) _)
 have HSZ:Hid (w.heap.size + 1 < w0.heap.size):=hid (by rw [hw0]; simp)
 have HB:=hid (fun (W:World) (h:Ext w0 W) => by
  rw [hw0] at h
  have e1:=h.new_cell (i:=0) (v:=.bool false) rfl
  have e2:=h.new_cell (i:=1) (v:=.slice none 0 0) rfl
  have e3:=h.new_free 0
  have e4:=h.new_free 1
  rw [z02] at e1 e2 e3 e4
  exact And.intro e1 (And.intro e2 (And.intro e3 e4)))
 have CM:=hid (zd3 (!xn) (.slice ax xs.length cx) xs w0 (hxu.ext HX0.out hS) (z08 hS HX0.out) hr)
 obtain ⟨nx,hnx⟩:∃ b,b = (!xn):=⟨_,rfl⟩
 rw [← hnx] at CM ⊢
 have hnot:(!xn) = nx:=hnx.symm
 rw [hw0] at CM
 have HW0:=hid hw0
 clear hxu hw0 hnx
 go_enter Tryz.func123,Tryz.ntmps123
 go_wp2_with fail
 refine CM.out.mono ?_
 rintro e w2 ⟨v2,rfl,⟨vm2,rfl,hu2⟩,hx2⟩
 rw [← HW0.out] at hu2 hx2
 obtain ⟨e0,e1,f0,f1⟩:=HB.out w2 hx2
 have HX2:=hid hx2
 have HU2:=hid hu2
 have HE:=hid (And.intro e0 e1)
 obtain ⟨a2,n2,rfl⟩:=hu2.form
 clear hu2 hx2
 go_wp2
 all_goals
  have hd:=fun x y => z19 x y HE.out.1 HE.out.2
  refine bodyPost_ret (by simp [results,Tryz.results123,go_sem,(hd _ _).1,(hd _ _).2]; rfl) rfl ?_
  have hg:=z33 (w0:=w) (b:=w.heap.size + 1) rfl HU2.out HX0.out HX2.out (by omega) HSZ.out (.bool (ofI (sg nx (val B32 xs))).neg) (.slice a2 (ofI (sg nx (val B32 xs))).mag.length n2)
  exact ⟨_,rfl,hg.1,hg.2⟩
end
section
open Go.RowKit
theorem disable (w:World):(callFunc 173 #[]).run Tryz.prog w = .ok (.value (.tuple #[])) w:=run_call_mark0 Tryz.func173 (by kernel_rfl) (by kernel_rfl) (by kernel_rfl) .disable (by kernel_rfl) w
theorem enable (w:World):(callFunc 175 #[]).run Tryz.prog w = .ok (.value (.tuple #[])) w:=run_call_mark0 Tryz.func175 (by kernel_rfl) (by kernel_rfl) (by kernel_rfl) .enable (by kernel_rfl) w
theorem acquire (a:Addr) (w:World):(callFunc 176 #[.pointer (some a)]).run Tryz.prog w = .ok (.value (.tuple #[])) w:=run_call_marked Tryz.func176 (by kernel_rfl) (by kernel_rfl) (by kernel_rfl) .acquire (by kernel_rfl) a w
theorem releaseMerge (a:Addr) (w:World):(callFunc 178 #[.pointer (some a)]).run Tryz.prog w = .ok (.value (.tuple #[])) w:=run_call_marked Tryz.func178 (by kernel_rfl) (by kernel_rfl) (by kernel_rfl) .releaseMerge (by kernel_rfl) a w
theorem zcu (a:Addr) (x:Value) (u:FrameMode) (w:World) (hc:w.cell? a = some x) (hz:w.frozen? a = false) :
  CallsD Tryz.prog 162 #[.pointer (some a),.bool true] u w fun e u' w' => u' = u ∧ (e = .returned (.tuple #[]) ∧ w' = w.drew.setCell a (.int .u32 1)):=by
 have hc':w.drew.cell? a = some x:=by go_simp
 have hz':w.drew.frozen? a = false:=by go_simp
 have hst:=run_call_store (P:=Tryz.prog) Tryz.func171 (by kernel_rfl) (by kernel_rfl) (by kernel_rfl) (by kernel_rfl) (k:=.u32) (y:=1) hc' hz'
 go_enter_d Tryz.func162,Tryz.ntmps162
 go_wp2
 go_region_calls
 all_goals (go_end0; exact ⟨rfl,rfl⟩)
theorem zbj (a:Addr) (u:FrameMode) (w:World) (hc:w.cell? a = some (.int .i32 1)) (hz:w.frozen? a = false) :
  CallsD Tryz.prog 161 #[.pointer (some a)] u w fun e u' w' => u' = u ∧ (e = .returned (.tuple #[]) ∧ w' = w.setCell a (.int .i32 0)):=by
 have hd:=disable
 have he:=enable
 have hr:=releaseMerge
 have hadd:=run_call_add (P:=Tryz.prog) Tryz.func179 (by kernel_rfl) (by kernel_rfl) (by kernel_rfl) .i32 (by kernel_rfl) (y:=-1) (s:=0) hc hz (by simp [go_sem]; rfl)
 have hcv:=run_convert_to_unsafe (P:=Tryz.prog) (src:=232) (dst:=236) Tryz.underlying232 Tryz.underlying236 (by kernel_rfl) hc
 go_enter_d Tryz.func161,Tryz.ntmps161
 go_wp2
 go_end0
 go_wp2
 go_end0
 exact ⟨rfl,rfl⟩
theorem zo3 (a:Addr) (w:World) (hc:w.cell? a = some (.int .i32 0)) (hz:w.frozen? a = false) :
  Calls Tryz.prog 160 #[.pointer (some a)] w fun e w' => e = .returned (.tuple #[]) ∧ w' = w.setCell a (.int .i32 1):=by
 have hd:=disable
 have he:=enable
 have ha:=acquire
 have hcas:=run_call_cas_hit (P:=Tryz.prog) Tryz.func174 (by kernel_rfl) (by kernel_rfl) (by kernel_rfl) .i32 (by kernel_rfl) (y:=1) hc hz
 have hc':(w.setCell a (.int .i32 1)).cell? a = some (.int .i32 1):=World.cell?_setCell_same w a _ hc
 have hcv:=run_convert_to_unsafe (P:=Tryz.prog) (src:=232) (dst:=236) Tryz.underlying232 Tryz.underlying236 (by kernel_rfl) hc'
 go_enter Tryz.func160,Tryz.ntmps160
 go_wp2
 first | go_end0 | (simp only [Exit.inBlock,Exit.then]; refine bodyPost_ret (results_none rfl _ _ _) rfl ?_) | refine bodyPost_ret (results_none rfl _ _ _) rfl ?_
 go_wp2
 go_end0
 exact ⟨rfl,rfl⟩
theorem zj0 (a:Addr) (n:Int) (w:World) (hc:w.cell? a = some (.int .i64 n)) :
  Calls Tryz.prog 147 #[.pointer (some a)] w fun e w' => e = .returned (.int .i64 n) ∧ w = w':=by
 have hl:=run_call_load (P:=Tryz.prog) Tryz.func164 (by kernel_rfl) (by kernel_rfl) (by kernel_rfl) .i64 (by kernel_rfl) hc
 go_enter Tryz.func147,Tryz.ntmps147
 go_wp2
 go_ret
 exact ⟨rfl,rfl⟩
theorem zs1 (a:Addr) (n:Int) (w:World) (hc:w.cell? a = some (.int .i64 n)) (hz:w.frozen? a = false) (h0:0 ≤ n) (h1:n ≤ 1000000000) :
  Calls Tryz.prog 148 #[.pointer (some a),.int .i64 1] w fun e w' => e = .returned (.int .i64 (n + 1)) ∧ w.setCell a (.int .i64 (n + 1)) = w':=by
 have hl:=run_call_add (P:=Tryz.prog) Tryz.func165 (by kernel_rfl) (by kernel_rfl) (by kernel_rfl) .i64 (by kernel_rfl) (y:=1) (s:=n + 1) hc hz (by simp only [Op.intArith]; have e:IntKind.i64.wrap (n + 1) = n + 1:=IntWalk.i64_in _ (by omega); simp [go_sem,e])
 go_enter Tryz.func148,Tryz.ntmps148
 go_wp2
 go_ret
 exact ⟨rfl,rfl⟩
end
section
open Go.RowKit
theorem zo4 (b:Nat) (pe pn pm:Addr) (e n x y:Int) (w:World)
  (he:w.cell? pe = some (.int .i64 e)) (hn:w.cell? pn = some (.int .i64 n)) (hm:w.cell? pm = some (.pointer (some ⟨b,0,none⟩)))
  (h9:w.cell? ⟨b,9,none⟩ = some (.int .i64 x)) (h10:w.cell? ⟨b,10,none⟩ = some (.int .i64 y))
  (f9:w.frozen? ⟨b,9,none⟩ = false) (f10:w.frozen? ⟨b,10,none⟩ = false) :
  Calls Tryz.prog 131 #[.pointer (some pe),.pointer (some pn),.pointer (some pm)] w fun r w' => r = .returned (.tuple #[]) ∧ (w.setCell ⟨b,9,none⟩ (.int .i64 e)).setCell ⟨b,10,none⟩ (.int .i64 n) = w':=by
 go_enter Tryz.func131,Tryz.ntmps131
 go_wp2
 go_end0
 exact ⟨rfl,rfl⟩
def z6a (w:World) (b:Nat) (e n:Int):World :=
 (((((w.setCell ⟨b,7,none⟩ (.int .i32 1)).setCell ⟨b,9,none⟩ (.int .i64 e)).setCell ⟨b,10,none⟩ (.int .i64 n)).drew.setCell ⟨b,6,none⟩ (.int .u32 1)).setCell ⟨b,7,none⟩ (.int .i32 0))
theorem zea {b c i:Nat} {p:Addr} (h:p.block ≠ b) (_:c = b):(⟨c,i,none⟩:Addr) ≠ p:=by
 intro e
 subst e
 simp_all
theorem zs2 (b:Nat) (pe pn pm:Addr) (e n x y:Int) (w:World) (hpe:pe.block ≠ b) (hpn:pn.block ≠ b) (hpm:pm.block ≠ b)
  (he:w.cell? pe = some (.int .i64 e)) (hn:w.cell? pn = some (.int .i64 n)) (hm:w.cell? pm = some (.pointer (some ⟨b,0,none⟩)))
  (h6:w.cell? ⟨b,6,none⟩ = some (.int .u32 0)) (h7:w.cell? ⟨b,7,none⟩ = some (.int .i32 0))
  (h9:w.cell? ⟨b,9,none⟩ = some (.int .i64 x)) (h10:w.cell? ⟨b,10,none⟩ = some (.int .i64 y))
  (fz:∀ i,w.frozen? ⟨b,i,none⟩ = false) :
  Calls Tryz.prog 145 #[.pointer (some ⟨b,6,none⟩),.func (.func 131) #[] #[.pointer (some pe),.pointer (some pn),.pointer (some pm)]] w fun r w' => r = .returned (.tuple #[]) ∧ z6a w b e n = w':=by
 have f6:=fz 6
 have f7:=fz 7
 have f9:=fz 9
 have f10:=fz 10
 clear fz
 have hl:=run_call_load (P:=Tryz.prog) Tryz.func159 (by kernel_rfl) (by kernel_rfl) (by kernel_rfl) .u32 (by kernel_rfl) (w:=w.setCell ⟨b,7,none⟩ (.int .i32 1)) (a:=⟨b,6,none⟩) (x:=0) (z09 h6 (by simp))
 have he1:=z09 (a:=⟨b,7,none⟩) (v:=.int .i32 1) he (zea hpe rfl)
 have hn1:=z09 (a:=⟨b,7,none⟩) (v:=.int .i32 1) hn (zea hpn rfl)
 have hm1:=z09 (a:=⟨b,7,none⟩) (v:=.int .i32 1) hm (zea hpm rfl)
 have h91:=z09 (a:=⟨b,7,none⟩) (v:=.int .i32 1) h9 (by simp)
 have h101:=z09 (a:=⟨b,7,none⟩) (v:=.int .i32 1) h10 (by simp)
 have hnot:∀ (x:Bool) (w:World),(Op.unary .not (.bool x)).run Tryz.prog w = .ok (.bool (!x)) w:=fun _ _ => rfl
 go_enter_defers Tryz.func145,Tryz.ntmps145
 go_wp2_with (first | (go_at_call 160; refine (zo3 ⟨b,7,none⟩ _ (by go_simp) (by go_simp)).mono ?_; rintro e w' ⟨rfl,rfl⟩) | (go_at_call 131; refine (zo4 b pe pn pm e n x y _ he1 hn1 hm1 h91 h101 (by simp [f9]) (by simp [f10])).mono ?_; rintro e w' ⟨rfl,rfl⟩) | (go_at_call 144; go_in))
 -- the door: two deferred calls,the last laid first
 refine leaves_cons (f:=162) (args:=#[.pointer (some ⟨b,6,none⟩),.bool true]) (by simp) (by simp [go_sem]) ?_
 refine (zcu ⟨b,6,none⟩ (.int .u32 0) .returning _ ?_ (by simp [f6])).mono ?_
 ·exact z09 (z09 (z09 h6 (by simp)) (by simp)) (by simp)
 rintro e u' w'' ⟨rfl,rfl,rfl⟩
 refine leaves_cons (f:=161) (args:=#[.pointer (some ⟨b,7,none⟩)]) (by simp [settle]) (by simp [go_sem]) ?_
 refine (zbj ⟨b,7,none⟩ _ _ ?_ (by simp [f7])).mono ?_
 ·refine z09 ?_ (by simp)
  rw [World.cell?_drew]
  exact z09 (z09 (World.cell?_setCell_same w _ _ h7) (by simp)) (by simp)
 rintro e u' w'' ⟨rfl,rfl,rfl⟩
 simp [Leaves,settle,results,Tryz.results145,z6a]
theorem zs3 (b:Nat) (pe pn pm:Addr) (e n x y:Int) (w:World) (hpe:pe.block ≠ b) (hpn:pn.block ≠ b) (hpm:pm.block ≠ b)
  (he:w.cell? pe = some (.int .i64 e)) (hn:w.cell? pn = some (.int .i64 n)) (hm:w.cell? pm = some (.pointer (some ⟨b,0,none⟩)))
  (h6:w.cell? ⟨b,6,none⟩ = some (.int .u32 0)) (h7:w.cell? ⟨b,7,none⟩ = some (.int .i32 0))
  (h9:w.cell? ⟨b,9,none⟩ = some (.int .i64 x)) (h10:w.cell? ⟨b,10,none⟩ = some (.int .i64 y))
  (fz:∀ i,w.frozen? ⟨b,i,none⟩ = false) :
  Calls Tryz.prog 130 #[.pointer (some ⟨b,6,none⟩),.func (.func 131) #[] #[.pointer (some pe),.pointer (some pn),.pointer (some pm)]] w fun r w' => r = .returned (.tuple #[]) ∧ z6a w b e n = w':=by
 have hl:=run_call_load (P:=Tryz.prog) Tryz.func159 (by kernel_rfl) (by kernel_rfl) (by kernel_rfl) .u32 (by kernel_rfl) h6
 have hnot:∀ (x:Bool) (w:World),(Op.unary .not (.bool x)).run Tryz.prog w = .ok (.bool (!x)) w:=fun _ _ => rfl
 go_enter Tryz.func130,Tryz.ntmps130
 go_wp2_with (first | (go_at_call 145; refine (zs2 b pe pn pm e n x y _ hpe hpn hpm he hn hm h6 h7 h9 h10 fz).mono ?_; rintro e w' ⟨rfl,rfl⟩) | (go_at_call 144; go_in))
 go_end0
 exact ⟨rfl,rfl⟩
theorem zw8 (a:Addr) (fv:Value) (w:World) (h6:w.cell? a = some (.int .u32 1)) :
  Calls Tryz.prog 130 #[.pointer (some a),fv] w fun r w' => r = .returned (.tuple #[]) ∧ w = w':=by
 have hl:=run_call_load (P:=Tryz.prog) Tryz.func159 (by kernel_rfl) (by kernel_rfl) (by kernel_rfl) .u32 (by kernel_rfl) h6
 have hnot:∀ (x:Bool) (w:World),(Op.unary .not (.bool x)).run Tryz.prog w = .ok (.bool (!x)) w:=fun _ _ => rfl
 go_enter Tryz.func130,Tryz.ntmps130
 go_wp2
 go_end0
 exact ⟨rfl,rfl⟩
end
section
open Go.RowKit
theorem z51 (w:World) (r:Option Nat):w.grownBy w r:=⟨rfl,rfl,rfl,Nat.le_refl _,fun _ _ _ => rfl⟩
theorem z1d {a b c:World} {r:Option Nat} (h:a.grownBy b r) (k:b.grownBy c r):a.grownBy c r :=
 ⟨k.os.trans h.os,k.tape.trans h.tape,k.output.trans h.output,Nat.le_trans h.size k.size,fun i hi hr => (k.block i (Nat.lt_of_lt_of_le hi h.size) hr).trans (h.block i hi hr)⟩
theorem zeb {a w:World} {r:Option Nat} (h:a.grownBy w r) (o:Obj):a.grownBy (w.alloc o) r:=z1d h (World.grownBy_alloc w o r)
theorem zec {a w:World} {r:Option Nat} (h:a.grownBy w r):a.grownBy w.drew r:=⟨h.os,h.tape,h.output,h.size,h.block⟩
theorem z3t {a w:World} {b:Nat} (h:a.grownBy w (some b)) {p:Addr} (hp:p.block = b) (u:Value):a.grownBy (w.setCell p u) (some b) :=
 z1d h ⟨rfl,rfl,rfl,by simp [World.setCell],fun k _ hr => Below.heap_setCell _ _ _ _ (fun e => hr (by rw [e,hp]))⟩
structure MSt where
 fu:Int
 li:Int
 te:Int
 pi:Int
 st:Int
 pc:Int
 wh:Int
 nn:Int
 deriving DecidableEq,Inhabited
def MSt.done (s:MSt):Int:=if s.wh = 0 then 0 else 1
structure MeterAt (w:World) (b:Nat) (s:MSt):Prop where
 c0:w.cell? ⟨b,0,none⟩ = some (.int .i64 s.fu)
 c1:w.cell? ⟨b,1,none⟩ = some (.int .i64 s.li)
 c2:w.cell? ⟨b,2,none⟩ = some (.int .i64 s.te)
 c3:w.cell? ⟨b,3,none⟩ = some (.int .i64 s.pi)
 c4:w.cell? ⟨b,4,none⟩ = some (.int .i64 s.st)
 c5:w.cell? ⟨b,5,none⟩ = some (.int .i64 s.pc)
 c6:w.cell? ⟨b,6,none⟩ = some (.int .u32 s.done)
 c7:w.cell? ⟨b,7,none⟩ = some (.int .i32 0)
 c8:w.cell? ⟨b,8,none⟩ = some (.int .u32 0)
 c9:w.cell? ⟨b,9,none⟩ = some (.int .i64 s.wh)
 c10:w.cell? ⟨b,10,none⟩ = some (.int .i64 s.nn)
 fz:∀ i,w.frozen? ⟨b,i,none⟩ = false
theorem MeterAt.alloc {w:World} {b:Nat} {s:MSt} (h:MeterAt w b s) (o:Obj):MeterAt (w.alloc o) b s:=by
 have hb:b < w.heap.size:=z0s h.c0
 have e:Ext w (w.alloc o):=Ext.alloc (Ext.refl w) o
 exact ⟨e.cell h.c0,e.cell h.c1,e.cell h.c2,e.cell h.c3,e.cell h.c4,e.cell h.c5,e.cell h.c6,e.cell h.c7,e.cell h.c8,e.cell h.c9,e.cell h.c10,fun i => (Below.frozen e (p:=⟨b,i,none⟩) hb).trans (h.fz i)⟩
theorem MeterAt.kept {w w':World} {b:Nat} {s:MSt} (h:MeterAt w b s) {B:Nat} (e:Below B w w') (hb:b < B):MeterAt w' b s :=
 ⟨z6k e hb h.c0,z6k e hb h.c1,z6k e hb h.c2,z6k e hb h.c3,z6k e hb h.c4,z6k e hb h.c5,z6k e hb h.c6,z6k e hb h.c7,z6k e hb h.c8,z6k e hb h.c9,z6k e hb h.c10,fun i => (Below.frozen e (p:=⟨b,i,none⟩) hb).trans (h.fz i)⟩
theorem MeterAt.grown {w w':World} {b:Nat} {s:MSt} (h:MeterAt w b s) {r:Option Nat} (e:w.grownBy w' r) (hb:some b ≠ r):MeterAt w' b s:=by
 have hl:=z0s h.c0
 have hc:∀ i,w'.cell? ⟨b,i,none⟩ = w.cell? ⟨b,i,none⟩:=fun i => World.cell?_of_block (e.block b hl hb)
 exact ⟨(hc _).trans h.c0,(hc _).trans h.c1,(hc _).trans h.c2,(hc _).trans h.c3,(hc _).trans h.c4,(hc _).trans h.c5,(hc _).trans h.c6,(hc _).trans h.c7,(hc _).trans h.c8,(hc _).trans h.c9,(hc _).trans h.c10,fun i => (World.frozen?_of_block (w:=w) (a:=⟨b,i,none⟩) (e.block b hl hb)).trans (h.fz i)⟩
def MSt.refuse (s:MSt) (e n:Int):MSt:=if s.wh = 0 then { s with wh:=e,nn:=n } else s
theorem zkz {w:World} {b:Nat} {s:MSt} (h:MeterAt w b s) (h0:s.wh = 0) (e n:Int) (he:e ≠ 0):MeterAt (z6a w b e n) b (s.refuse e n):=by
 have hr:s.refuse e n = { s with wh:=e,nn:=n }:=by simp [MSt.refuse,h0]
 rw [hr]
 unfold z6a
 have k:∀ i v,i ≠ 7 → i ≠ 9 → i ≠ 10 → i ≠ 6 → w.cell? ⟨b,i,none⟩ = some v → (((((w.setCell ⟨b,7,none⟩ (.int .i32 1)).setCell ⟨b,9,none⟩ (.int .i64 e)).setCell ⟨b,10,none⟩ (.int .i64 n)).drew.setCell ⟨b,6,none⟩ (.int .u32 1)).setCell ⟨b,7,none⟩ (.int .i32 0)).cell? ⟨b,i,none⟩ = some v:=by
  intro i v h7 h9 h10 h6 hv
  refine z09 (z09 ?_ (ao (by omega))) (ao (by omega))
  rw [World.cell?_drew]
  exact z09 (z09 (z09 hv (ao (by omega))) (ao (by omega))) (ao (by omega))
 have a6:(((w.setCell ⟨b,7,none⟩ (.int .i32 1)).setCell ⟨b,9,none⟩ (.int .i64 e)).setCell ⟨b,10,none⟩ (.int .i64 n)).drew.cell? ⟨b,6,none⟩ = some (.int .u32 s.done):=by
  rw [World.cell?_drew]
  exact z09 (z09 (z09 h.c6 (ao (by omega))) (ao (by omega))) (ao (by omega))
 have a7:(((w.setCell ⟨b,7,none⟩ (.int .i32 1)).setCell ⟨b,9,none⟩ (.int .i64 e)).setCell ⟨b,10,none⟩ (.int .i64 n)).drew.cell? ⟨b,7,none⟩ = some (.int .i32 1):=by
  rw [World.cell?_drew]
  exact z09 (z09 (z1h h.c7) (ao (by omega))) (ao (by omega))
 have a9:(((w.setCell ⟨b,7,none⟩ (.int .i32 1)).setCell ⟨b,9,none⟩ (.int .i64 e)).setCell ⟨b,10,none⟩ (.int .i64 n)).drew.cell? ⟨b,9,none⟩ = some (.int .i64 e):=by
  rw [World.cell?_drew]
  exact z09 (z1h (z09 h.c9 (ao (by omega)))) (ao (by omega))
 have a10:(((w.setCell ⟨b,7,none⟩ (.int .i32 1)).setCell ⟨b,9,none⟩ (.int .i64 e)).setCell ⟨b,10,none⟩ (.int .i64 n)).drew.cell? ⟨b,10,none⟩ = some (.int .i64 n):=by
  rw [World.cell?_drew]
  exact z1h (z09 (z09 h.c10 (ao (by omega))) (ao (by omega)))
 refine ⟨k 0 _ (by omega) (by omega) (by omega) (by omega) h.c0,k 1 _ (by omega) (by omega) (by omega) (by omega) h.c1,k 2 _ (by omega) (by omega) (by omega) (by omega) h.c2,k 3 _ (by omega) (by omega) (by omega) (by omega) h.c3,
  k 4 _ (by omega) (by omega) (by omega) (by omega) h.c4,k 5 _ (by omega) (by omega) (by omega) (by omega) h.c5,?_,?_,k 8 _ (by omega) (by omega) (by omega) (by omega) h.c8,?_,?_,fun i => ?_⟩
 ·have:MSt.done { s with wh:=e,nn:=n } = 1:=by simp [MSt.done,he]
  rw [this]
  exact z09 (z1h a6) (ao (by omega))
 ·exact z1h (z09 a7 (ao (by omega)))
 ·exact z09 (z09 a9 (ao (by omega))) (ao (by omega))
 ·exact z09 (z09 a10 (ao (by omega))) (ao (by omega))
 ·simp [h.fz i]
theorem zl0 (w:World) (b:Nat) (e n:Int):w.grownBy (z6a w b e n) (some b):=by
 unfold z6a
 have h1:=z3t (z51 w (some b)) (p:=⟨b,7,none⟩) rfl (.int .i32 1)
 have h2:=z3t h1 (p:=⟨b,9,none⟩) rfl (.int .i64 e)
 have h3:=zec (z3t h2 (p:=⟨b,10,none⟩) rfl (.int .i64 n))
 have h4:=z3t h3 (p:=⟨b,6,none⟩) rfl (.int .u32 1)
 exact z3t h4 (p:=⟨b,7,none⟩) rfl (.int .i32 0)
def Met (w:World) (b:Nat) (r:Int) (s:MSt):Ending → World → Prop:=fun e w' => e = .returned (.int .i64 r) ∧ MeterAt w' b s ∧ w.grownBy w' (some b)
theorem z7l (b:Nat) (s:MSt) (e n:Int) (w:World) (h:MeterAt w b s) (he:e ≠ 0) :
  Calls Tryz.prog 110 #[.pointer (some ⟨b,0,none⟩),.int .i64 e,.int .i64 n] w (Met w b e (s.refuse e n)):=by
 have hmf:∀ (fn:Fn) (first cap:Array Value) (w:World),(Instr.makeFunc fn first cap).run Tryz.prog w = .ok (.func fn first cap) w:=fun _ _ _ _ => rfl
 have hb:=z0s h.c0
 have h3:=((h.alloc (.cells #[.pointer (some ⟨b,0,none⟩)] 33)).alloc (.cells #[.int .i64 e] 34)).alloc (.cells #[.int .i64 n] 3)
 have g3:w.grownBy (((w.alloc (.cells #[.pointer (some ⟨b,0,none⟩)] 33)).alloc (.cells #[.int .i64 e] 34)).alloc (.cells #[.int .i64 n] 3)) (some b):=zeb (zeb (zeb (z51 w _) _) _) _
 have q3:=h3.c6
 have p0:(((w.alloc (.cells #[.pointer (some ⟨b,0,none⟩)] 33)).alloc (.cells #[.int .i64 e] 34)).alloc (.cells #[.int .i64 n] 3)).cell? ⟨w.heap.size,0,none⟩ = some (.pointer (some ⟨b,0,none⟩)):=cell_old _ (cell_old _ (z04 w _ _ rfl rfl))
 have p1:(((w.alloc (.cells #[.pointer (some ⟨b,0,none⟩)] 33)).alloc (.cells #[.int .i64 e] 34)).alloc (.cells #[.int .i64 n] 3)).cell? ⟨w.heap.size + 1,0,none⟩ = some (.int .i64 e):=cell_old _ (z04 _ _ _ (by simp) rfl)
 have p2:(((w.alloc (.cells #[.pointer (some ⟨b,0,none⟩)] 33)).alloc (.cells #[.int .i64 e] 34)).alloc (.cells #[.int .i64 n] 3)).cell? ⟨w.heap.size + 2,0,none⟩ = some (.int .i64 n):=z04 _ _ _ (by simp) rfl
 by_cases h0:s.wh = 0
 ·have hd:s.done = 0:=by simp [MSt.done,h0]
  rw [hd] at q3
  have hf:=zkz h3 h0 e n he
  have hg:=z1d g3 (zl0 (((w.alloc (.cells #[.pointer (some ⟨b,0,none⟩)] 33)).alloc (.cells #[.int .i64 e] 34)).alloc (.cells #[.int .i64 n] 3)) b e n)
  have ev:(z6a (((w.alloc (.cells #[.pointer (some ⟨b,0,none⟩)] 33)).alloc (.cells #[.int .i64 e] 34)).alloc (.cells #[.int .i64 n] 3)) b e n).cell? ⟨w.heap.size + 1,0,none⟩ = some (.int .i64 e):=by
   unfold z6a
   refine z09 (z09 ?_ (ab (by omega))) (ab (by omega))
   rw [World.cell?_drew]
   exact z09 (z09 (z09 p1 (ab (by omega))) (ab (by omega))) (ab (by omega))
  have H3:=hid h3
  have H:=hid h
  have HF:=hid hf
  have HG:=hid hg
  clear h3 h hf hg g3 hd
  go_enter Tryz.func110,Tryz.ntmps110
  go_wp2_with (go_at_call 130; refine (zs3 b ⟨w.heap.size + 1,0,none⟩ ⟨w.heap.size + 2,0,none⟩ ⟨w.heap.size,0,none⟩ e n _ _ _ (by simp; omega) (by simp; omega) (by simp; omega) p1 p2 p0 q3 H3.out.c7 H3.out.c9 H3.out.c10 H3.out.fz).mono ?_; rintro e w' ⟨rfl,rfl⟩)
  go_ret
  exact ⟨rfl,HF.out,HG.out⟩
 ·have hd:s.done = 1:=by simp [MSt.done,h0]
  have hr:s.refuse e n = s:=by simp [MSt.refuse,h0]
  rw [hd] at q3
  have H3:=hid h3
  have HR:=hid hr
  have HG:=hid g3
  clear h3 h g3 hd hr
  go_enter Tryz.func110,Tryz.ntmps110
  go_wp2_with (go_at_call 130; refine (zw8 _ _ _ q3).mono ?_; rintro e w' ⟨rfl,rfl⟩)
  go_ret
  rw [HR.out]
  exact ⟨rfl,H3.out,HG.out⟩
end
section
open Go.RowKit
def z4c (zs:List Nat):Nat → Nat
 | 0 => 0
 | k + 1 => if zs.getD k 0 = 0 then z4c zs k else k + 1
theorem zl1 (zs:List Nat) (k:Nat):z4c zs k ≤ k:=by
 induction k with
 | zero => simp [z4c]
 | succ k ih => simp only [z4c]; split <;> omega
def z1q (ts:List RTerm):Nat → Nat
 | 0 => 0
 | k + 1 => max (z1q ts k) (z4c (ts.getD k default).c.mag (ts.getD k default).c.mag.length)
theorem zg0 {S:Nat → Prop} {w:World} {v:Value} {ts:List RTerm} (h:z06 S w v ts) (k:Nat) (hk:k ≤ ts.length):z1q ts k ≤ 9223372036854775807:=by
 induction k with
 | zero => simp [z1q]
 | succ k ih =>
  have ih:=ih (by omega)
  obtain ⟨b,off,hs,hc⟩:=h
  obtain ⟨t,ht⟩:=z01 (show k < ts.length by omega)
  obtain ⟨vm,vo,h1,h2,h3,h4,h5⟩:=hc k t ht
  have h6:=h4.len_le
  have h7:=zl1 t.c.mag t.c.mag.length
  simp only [z1q,List.getD,ht,Option.getD_some]
  omega
theorem zl2 {S:Nat → Prop} (bn:Nat) (v:Value) (zs:List Nat) (n:Nat) (w:World) (h:U32s S w v zs)
  (hn:w.cell? ⟨bn,0,none⟩ = some (.int .i64 n)) (hf:w.frozen? ⟨bn,0,none⟩ = false) :
  Calls Tryz.prog 132 #[v,.pointer (some ⟨bn,0,none⟩)] w fun e w' => e = .returned (.tuple #[]) ∧ w.setCell ⟨bn,0,none⟩ (.int .i64 (max n (z4c zs zs.length):Nat)) = w':=by
 have hl:=h.len_le
 obtain ⟨b,off,⟨a,cap,rfl,hcap,hmax,ha,_⟩,hc⟩:=h
 go_enter Tryz.func132,Tryz.ntmps132
 go_wp2
 go_loop [3] (fun i => ∃ k:Nat,k ≤ zs.length ∧ i = .int .i64 k ∧ z4c zs k = z4c zs zs.length) (fun i => (intOf i).toNat)
 case atStart => exact ⟨zs.length,Nat.le_refl _,rfl,rfl⟩
 case round =>
  obtain ⟨k,hk,rfl,ht⟩:=hrel
  cases k with
  | zero =>
   have H:=hid ht
   clear ht hc ha
   go_wp2
   all_goals
    go_end0
    refine ⟨rfl,?_⟩
    rw [← H.out]
    simp [z4c]
  | succ k =>
   obtain rfl:=ha (by omega)
   obtain ⟨z,hz⟩:=z01 (show k < zs.length by omega)
   obtain ⟨hzb,hcell⟩:=hc k z hz
   have H:=hid ht
   have HZ:=hid hz
   clear ht hc ha hz
   by_cases h0:z = 0
   ·have hb:((z:Int) == 0) = true:=by simpa using h0
    have H0:=hid h0
    clear h0
    go_wp2
    go_round
    case rel => exact ⟨k,by omega,rfl,by rw [← H.out]; simp [z4c,HZ.out,H0.out]⟩
    case measure => simp only [intOf]; omega
   ·have hb:((z:Int) == 0) = false:=by simpa using h0
    have H0:=hid h0
    clear h0
    go_wp2
    all_goals
     go_end0
     refine ⟨rfl,?_⟩
     rw [← H.out]
     simp only [z4c,List.getD,HZ.out,Option.getD_some]
     rw [if_neg H0.out]
     congr 2
     omega
theorem zbk {S:Nat → Prop} (v:Value) (ts:List RTerm) (w:World) (h:z06 S w v ts) (hS:∀ k,S k → k < w.heap.size) :
  Calls Tryz.prog 112 #[v] w fun e w' => e = .returned (.int .i64 (z1q ts ts.length:Nat)) ∧ Ext w w':=by
 have hmf:∀ (fn:Fn) (first cap:Array Value) (w:World),(Instr.makeFunc fn first cap).run Tryz.prog w = .ok (.func fn first cap) w:=fun _ _ _ _ => rfl
 have hl:=h.len_le
 have HT:=hid h
 obtain ⟨b,off,⟨a,cap,rfl,hcap,hmax,ha,hin⟩,hc⟩:=h
 have HC:=hid hc
 clear hc
 go_enter Tryz.func112,Tryz.ntmps112
 go_wp2
 go_loopw [9] (fun i wr => ∃ k:Nat,k ≤ ts.length ∧ i = .int .i64 k ∧ wr.cell? ⟨w.heap.size,0,none⟩ = some (.int .i64 (z1q ts k:Nat)) ∧ wr.frozen? ⟨w.heap.size,0,none⟩ = false ∧ Ext w wr) (fun i _ => ts.length - (intOf i).toNat)
 case atStart => exact ⟨0,Nat.zero_le _,rfl,by simp [z1q],by simp,Ext.alloc (Ext.refl _) _⟩
 case round =>
  obtain ⟨k,hk,rfl,hn,hf,hx⟩:=hrel
  have HX:=hid hx
  by_cases hlt:k < ts.length
  ·obtain ⟨t,ht⟩:=z01 hlt
   obtain ⟨vm,vo,h1,h2,h3,h4,h5⟩:=HC.out k t ht
   have HK:=hid ht
   obtain rfl:=ha (by omega)
   have g1:=Ext.cell hx h1
   have g2:=Ext.cell hx h2
   have g3:=Ext.cell hx h3
   have H4:=hid (h4.to (Kept.of_below hx |>.mono hS) (fun k hk => hk))
   obtain ⟨am,cm,rfl⟩:=h4.form
   obtain ⟨ao,co,rfl⟩:=h5.form
   clear h1 h2 h3 h4 h5 hx ht
   go_wp2_with fail
   refine (zl2 (S:=S) w.heap.size _ t.c.mag (z1q ts k) _ ?_ (cell_old _ hn) (zim _ (z0s hn) hf)).mono ?_
   ·exact H4.out.to (Kept.alloc (fun k hk => Nat.lt_of_lt_of_le (hS k hk) HX.out.size) _) (fun k hk => hk)
   rintro e w' ⟨rfl,rfl⟩
   have hb:=z0s hn
   go_wp2
   go_roundw
   case rel =>
    refine ⟨k + 1,by omega,by go_num,?_,zim _ (by rw [z07]; exact hb) (z16 hf),(HX.out.setCell (p:=⟨w.heap.size,0,none⟩) (Nat.le_refl _) _).alloc (by rw [z07]; omega) _⟩
    have e:z1q ts (k + 1) = max (z1q ts k) (z4c t.c.mag t.c.mag.length):=by simp [z1q,List.getD,HK.out]
    rw [e]
    exact cell_old _ (z1h hn)
   case measure => simp only [intOf]; omega
  ·obtain rfl:k = ts.length:=by omega
   go_wp2
   refine bodyPost_ret (v:=.int .i64 (z1q ts ts.length:Nat)) (by simp [results,Tryz.results112,go_sem,z1h hn]) rfl ⟨rfl,HX.out.setCell (p:=⟨w.heap.size,0,none⟩) (Nat.le_refl _) _⟩
end
section
open Go.RowKit
theorem zs4 (b o:Nat) (n most e:Int) (w:World) (hn:w.cell? ⟨b,o,none⟩ = some (.int .i64 n)) (hf:w.frozen? ⟨b,o,none⟩ = false) (h0:0 ≤ n) (h1:n ≤ 1000000000) (hlt:n < most) :
  Calls Tryz.prog 136 #[.pointer (some ⟨b,0,none⟩),.pointer (some ⟨b,o,none⟩),.int .i64 most,.int .i64 e] w fun r w' => r = .returned (.int .i64 0) ∧ w.setCell ⟨b,o,none⟩ (.int .i64 (n + 1)) = w':=by
 go_enter Tryz.func136,Tryz.ntmps136
 go_wp2_with (first | (go_at_call 147; refine (zj0 _ n _ hn).mono ?_; rintro e w' ⟨rfl,rfl⟩) | (go_at_call 148; refine (zs1 _ n _ hn hf h0 h1).mono ?_; rintro e w' ⟨rfl,rfl⟩))
 go_ret
 exact ⟨rfl,rfl⟩
theorem zs5 (b o:Nat) (s:MSt) (n most e:Int) (w:World) (h:MeterAt w b s) (hn:w.cell? ⟨b,o,none⟩ = some (.int .i64 n)) (he:e ≠ 0) (hlt:most ≤ n) (hm:-1 ≤ most) (hm':most ≤ 1000000000) :
  Calls Tryz.prog 136 #[.pointer (some ⟨b,0,none⟩),.pointer (some ⟨b,o,none⟩),.int .i64 most,.int .i64 e] w (Met w b e (s.refuse e (most + 1))):=by
 have H:=hid h
 have HE:=hid he
 clear h he
 go_enter Tryz.func136,Tryz.ntmps136
 go_wp2_with (first | (go_at_call 147; refine (zj0 _ n _ hn).mono ?_; rintro e w' ⟨rfl,rfl⟩) | (go_at_call 110; refine (z7l b s e (most + 1) _ H.out HE.out).mono ?_; rintro e w' ⟨rfl,hq⟩))
 go_ret
 exact ⟨rfl,hq⟩
def MSt.step (s:MSt):Int × MSt:=if s.st < s.fu then (0,{ s with st:=s.st + 1 }) else (9,s.refuse 9 (s.fu + 1))
structure MSt.Ok (s:MSt):Prop where
 f0:0 ≤ s.fu
 f1:s.fu ≤ 1000000
 l0:0 ≤ s.li
 l1:s.li ≤ 10000
 t0:0 ≤ s.te
 t1:s.te ≤ 100000
 p0:0 ≤ s.pi
 p1:s.pi ≤ 1000
 s0:0 ≤ s.st
 s1:s.st ≤ s.fu
 c0:0 ≤ s.pc
 c1:s.pc ≤ s.pi
theorem MeterAt.drew {w:World} {b:Nat} {s:MSt} (h:MeterAt w b s):MeterAt w.drew b s:=h.grown (r:=none) (zec (z51 w none)) (by simp)
theorem MeterAt.setSt {w:World} {b:Nat} {s:MSt} (h:MeterAt w b s) (n:Int):MeterAt (w.setCell ⟨b,4,none⟩ (.int .i64 n)) b { s with st:=n } :=
 ⟨z09 h.c0 (ao (by omega)),z09 h.c1 (ao (by omega)),z09 h.c2 (ao (by omega)),z09 h.c3 (ao (by omega)),z1h h.c4,z09 h.c5 (ao (by omega)),z09 h.c6 (ao (by omega)),z09 h.c7 (ao (by omega)),z09 h.c8 (ao (by omega)),z09 h.c9 (ao (by omega)),z09 h.c10 (ao (by omega)),fun i => z16 (h.fz i)⟩
theorem Met.of_drew {w:World} {b:Nat} {r:Int} {s:MSt} {e:Ending} {w':World} (h:Met w.drew b r s e w'):Met w b r s e w' :=
 ⟨h.1,h.2.1,z1d (zec (z51 w _)) h.2.2⟩
theorem zs6 (b:Nat) (s:MSt) (w:World) (h:MeterAt w b s) (ok:s.Ok) :
  Calls Tryz.prog 120 #[.pointer (some ⟨b,0,none⟩)] w (Met w b s.step.1 s.step.2):=by
 have hfu:=h.c0
 have hst:w.drew.cell? ⟨b,4,none⟩ = some (.int .i64 s.st):=by rw [World.cell?_drew]; exact h.c4
 have hf:w.drew.frozen? ⟨b,4,none⟩ = false:=by rw [World.frozen?_drew]; exact h.fz 4
 have b1:=ok.f0
 have b2:=ok.f1
 have b3:=ok.s0
 have b4:=ok.s1
 have H:=hid h.drew
 clear h ok
 by_cases hlt:s.st < s.fu
 ·have e1:s.step = (0,{ s with st:=s.st + 1 }):=by simp [MSt.step,hlt]
  rw [e1]
  clear e1
  go_enter Tryz.func120,Tryz.ntmps120
  go_wp2
  go_still_tail 9,(by kernel_rfl)
  change wpList _ _ _ _ _ w.drew
  go_wp2_with (go_at_call 136; refine (zs4 b 4 s.st s.fu 9 w.drew hst hf b3 (by omega) hlt).mono ?_; rintro e w' ⟨rfl,rfl⟩)
  go_ret
  exact Met.of_drew ⟨rfl,H.out.setSt _,z3t (z51 _ _) rfl _⟩
 ·have e1:s.step = (9,s.refuse 9 (s.fu + 1)):=by simp [MSt.step,hlt]
  rw [e1]
  clear e1
  go_enter Tryz.func120,Tryz.ntmps120
  go_wp2
  go_still_tail 9,(by kernel_rfl)
  change wpList _ _ _ _ _ w.drew
  go_wp2_with (go_at_call 136; refine (zs5 b 4 s s.st s.fu 9 w.drew H.out hst (by decide) (by omega) (by omega) (by omega)).mono ?_; rintro e w' ⟨rfl,hq⟩)
  go_ret
  exact Met.of_drew ⟨rfl,hq⟩
def MSt.refused (s:MSt) (e:Int):MSt:=if e = 8 then s.refuse 8 0 else s
theorem zl3 (b:Nat) (s:MSt) (e:Int) (w:World) (h:MeterAt w b s) :
  Calls Tryz.prog 75 #[.pointer (some ⟨b,0,none⟩),.int .i64 e] w (Met w b e (s.refused e)):=by
 have H:=hid h
 clear h
 by_cases he:e = 8
 ·subst he
  have e1:s.refused 8 = s.refuse 8 0:=by simp [MSt.refused]
  rw [e1]
  clear e1
  go_enter Tryz.func75,Tryz.ntmps75
  go_wp2_with (go_at_call 110; refine (z7l b s 8 0 _ H.out (by decide)).mono ?_; rintro e w' ⟨rfl,hq⟩)
  go_ret
  exact ⟨rfl,hq⟩
 ·have e1:s.refused e = s:=by simp [MSt.refused,he]
  have hb:(e == 8) = false:=by simpa using he
  rw [e1]
  clear e1 he
  go_enter Tryz.func75,Tryz.ntmps75
  go_wp2
  go_ret
  exact ⟨rfl,H.out,z51 _ _⟩
end
section
open Go.RowKit
theorem z11 {w w':World} (h:Ext w w') (r:Option Nat):w.grownBy w' r:=⟨h.os,h.tape,h.output,h.size,fun k hk _ => h.block k hk⟩
def MSt.keep (s:MSt) (n len:Nat):Int × MSt:=if s.li < n then (10,s.refuse 10 n) else if s.te < len then (11,s.refuse 11 len) else (0,s)
theorem zs7 {S:Nat → Prop} (b:Nat) (s:MSt) (v:Value) (ts:List RTerm) (w:World) (h:MeterAt w b s) (ht:z06 S w v ts) (hS:∀ k,S k → k < w.heap.size) :
  Calls Tryz.prog 78 #[.pointer (some ⟨b,0,none⟩),v] w (Met w b (s.keep (z1q ts ts.length) ts.length).1 (s.keep (z1q ts ts.length) ts.length).2):=by
 have hb:=z0s h.c0
 have hll:=zg0 ht ts.length (Nat.le_refl _)
 have hlen:=ht.len_le
 obtain ⟨a,cap,rfl⟩:=ht.form
 have HT:=hid ht
 generalize hn:z1q ts ts.length = n at hll
 have HN:=hid hn
 have H:=hid h
 clear ht h hn
 by_cases h1:s.li < n
 ·have e1:s.keep n ts.length = (10,s.refuse 10 n):=by simp [MSt.keep,h1]
  rw [e1]
  clear e1
  go_enter Tryz.func78,Tryz.ntmps78
  go_wp2_with fail
  refine (zbk _ ts _ HT.out hS).mono ?_
  rintro e w' ⟨rfl,hx⟩
  rw [HN.out]
  have q1:=(H.out.kept hx hb).c1
  have HX:=hid hx
  clear hx
  go_wp2_with (go_at_call 110; refine (z7l b s 10 n _ (H.out.kept HX.out hb) (by decide)).mono ?_; rintro e w'' ⟨rfl,hq⟩)
  go_ret
  exact ⟨rfl,hq.1,z1d (z11 HX.out _) hq.2⟩
 by_cases h2:s.te < ts.length
 ·have e1:s.keep n ts.length = (11,s.refuse 11 ts.length):=by simp [MSt.keep,h1,h2]
  rw [e1]
  clear e1
  go_enter Tryz.func78,Tryz.ntmps78
  go_wp2_with fail
  refine (zbk _ ts _ HT.out hS).mono ?_
  rintro e w' ⟨rfl,hx⟩
  rw [HN.out]
  have q1:=(H.out.kept hx hb).c1
  have q2:=(H.out.kept hx hb).c2
  have HX:=hid hx
  clear hx
  go_wp2_with (go_at_call 110; refine (z7l b s 11 ts.length _ (H.out.kept HX.out hb) (by decide)).mono ?_; rintro e w'' ⟨rfl,hq⟩)
  go_ret
  exact ⟨rfl,hq.1,z1d (z11 HX.out _) hq.2⟩
 ·have e1:s.keep n ts.length = (0,s):=by simp [MSt.keep,h1,h2]
  rw [e1]
  clear e1
  go_enter Tryz.func78,Tryz.ntmps78
  go_wp2_with fail
  refine (zbk _ ts _ HT.out hS).mono ?_
  rintro e w' ⟨rfl,hx⟩
  rw [HN.out]
  have q1:=(H.out.kept hx hb).c1
  have q2:=(H.out.kept hx hb).c2
  have HX:=hid hx
  clear hx
  go_wp2_with fail
  go_ret
  exact ⟨rfl,H.out.kept HX.out hb,z11 HX.out _⟩
def MSt.new (a b c d:Int):MSt:=⟨a,b,c,d,0,0,0,0⟩
def z46 (a b c d:Int):Prop:=(0 ≤ a ∧ a ≤ 1000000) ∧ (0 ≤ b ∧ b ≤ 10000) ∧ (0 ≤ c ∧ c ≤ 100000) ∧ 0 ≤ d ∧ d ≤ 1000
def zo5 (a b c d:Int) (w:World):Ending → World → Prop:=fun e w' =>
 Ext w w' ∧ ((z46 a b c d ∧ ∃ k,w.heap.size ≤ k ∧ MeterAt w' k (MSt.new a b c d) ∧ e = .returned (.tuple #[.pointer (some ⟨k,0,none⟩),.int .i64 0])) ∨
  (¬ z46 a b c d ∧ e = .returned (.tuple #[.pointer none,.int .i64 2])))
def okTo (a b c d:Int) (k:Nat):Prop:=(0 < k → 0 ≤ a ∧ a ≤ 1000000) ∧ (1 < k → 0 ≤ b ∧ b ≤ 10000) ∧ (2 < k → 0 ≤ c ∧ c ≤ 100000) ∧ (3 < k → 0 ≤ d ∧ d ≤ 1000)
theorem z3g {a b c d:Int} {w w':World} {e:Ending} (h:¬ z46 a b c d) (hx:Ext w w') (he:e = .returned (.tuple #[.pointer none,.int .i64 2])):zo5 a b c d w e w':=⟨hx,.inr ⟨h,he⟩⟩
theorem zw9 (a b c d:Int) (w:World) :
  Calls Tryz.prog 6 #[.agg #[.int .i64 a,.int .i64 b,.int .i64 c,.int .i64 d]] w (zo5 a b c d w):=by
 have i0:∀ w,(Instr.index 67 (.agg #[.int .i64 a,.int .i64 1000000,.int .i64 b,.int .i64 10000,.int .i64 c,.int .i64 100000,.int .i64 d,.int .i64 1000]) (.int .i64 0)).run Tryz.prog w = .ok (.agg #[.int .i64 a,.int .i64 1000000]) w:=fun _ => by kernel_rfl
 have i1:∀ w,(Instr.index 67 (.agg #[.int .i64 a,.int .i64 1000000,.int .i64 b,.int .i64 10000,.int .i64 c,.int .i64 100000,.int .i64 d,.int .i64 1000]) (.int .i64 1)).run Tryz.prog w = .ok (.agg #[.int .i64 b,.int .i64 10000]) w:=fun _ => by kernel_rfl
 have i2:∀ w,(Instr.index 67 (.agg #[.int .i64 a,.int .i64 1000000,.int .i64 b,.int .i64 10000,.int .i64 c,.int .i64 100000,.int .i64 d,.int .i64 1000]) (.int .i64 2)).run Tryz.prog w = .ok (.agg #[.int .i64 c,.int .i64 100000]) w:=fun _ => by kernel_rfl
 have i3:∀ w,(Instr.index 67 (.agg #[.int .i64 a,.int .i64 1000000,.int .i64 b,.int .i64 10000,.int .i64 c,.int .i64 100000,.int .i64 d,.int .i64 1000]) (.int .i64 3)).run Tryz.prog w = .ok (.agg #[.int .i64 d,.int .i64 1000]) w:=fun _ => by kernel_rfl
 have HX0:Hid (Ext w (w.alloc (.cells #[.int .i64 a,.int .i64 b,.int .i64 c,.int .i64 d] 38))):=hid (Ext.alloc (Ext.refl _) _)
 go_enter Tryz.func6,Tryz.ntmps6
 go_wp2
 go_loopw [19] (fun i wr => ∃ k:Nat,k ≤ 4 ∧ i = .int .i64 k ∧ okTo a b c d k ∧ Ext (w.alloc (.cells #[.int .i64 a,.int .i64 b,.int .i64 c,.int .i64 d] 38)) wr) (fun i _ => 4 - (intOf i).toNat)
 case atStart => exact ⟨0,by omega,rfl,⟨by omega,by omega,by omega,by omega⟩,Ext.refl _⟩
 case round =>
  obtain ⟨k,hk,rfl,hok,hx⟩:=hrel
  have HO:=hid hok
  have HX:=hid hx
  have e0:=Ext.cell hx (z04 w #[.int .i64 a,.int .i64 b,.int .i64 c,.int .i64 d] 38 rfl (i:=0) rfl)
  have e1:=Ext.cell hx (z04 w #[.int .i64 a,.int .i64 b,.int .i64 c,.int .i64 d] 38 rfl (i:=1) rfl)
  have e2:=Ext.cell hx (z04 w #[.int .i64 a,.int .i64 b,.int .i64 c,.int .i64 d] 38 rfl (i:=2) rfl)
  have e3:=Ext.cell hx (z04 w #[.int .i64 a,.int .i64 b,.int .i64 c,.int .i64 d] 38 rfl (i:=3) rfl)
  clear hok hx
  obtain rfl | rfl | rfl | rfl | rfl:k = 0 ∨ k = 1 ∨ k = 2 ∨ k = 3 ∨ k = 4:=by omega
  ·by_cases h1:a < 0
   ·go_wp2
    go_ret2
    exact z3g (fun h => by have:=h.1; omega) (HX0.out.trans (Ext.alloc HX.out _)) rfl
   by_cases h2:a ≤ 1000000
   ·go_wp2
    go_roundw
    case rel => exact ⟨1,by omega,rfl,⟨by omega,by omega,by omega,by omega⟩,Ext.alloc HX.out _⟩
    case measure => simp [intOf]
   ·go_wp2
    go_ret2
    exact z3g (fun h => by have:=h.1; omega) (HX0.out.trans (Ext.alloc HX.out _)) rfl
  ·by_cases h1:b < 0
   ·go_wp2
    go_ret2
    exact z3g (fun h => by have:=h.2.1; omega) (HX0.out.trans (Ext.alloc HX.out _)) rfl
   by_cases h2:b ≤ 10000
   ·go_wp2
    go_roundw
    case rel => exact ⟨2,by omega,rfl,⟨fun _ => HO.out.1 (by omega),by omega,by omega,by omega⟩,Ext.alloc HX.out _⟩
    case measure => simp [intOf]
   ·go_wp2
    go_ret2
    exact z3g (fun h => by have:=h.2.1; omega) (HX0.out.trans (Ext.alloc HX.out _)) rfl
  ·by_cases h1:c < 0
   ·go_wp2
    go_ret2
    exact z3g (fun h => by have:=h.2.2.1; omega) (HX0.out.trans (Ext.alloc HX.out _)) rfl
   by_cases h2:c ≤ 100000
   ·go_wp2
    go_roundw
    case rel => exact ⟨3,by omega,rfl,⟨fun _ => HO.out.1 (by omega),fun _ => HO.out.2.1 (by omega),by omega,by omega⟩,Ext.alloc HX.out _⟩
    case measure => simp [intOf]
   ·go_wp2
    go_ret2
    exact z3g (fun h => by have:=h.2.2.1; omega) (HX0.out.trans (Ext.alloc HX.out _)) rfl
  ·by_cases h1:d < 0
   ·go_wp2
    go_ret2
    exact z3g (fun h => by have:=h.2.2.2; omega) (HX0.out.trans (Ext.alloc HX.out _)) rfl
   by_cases h2:d ≤ 1000
   ·go_wp2
    go_roundw
    case rel => exact ⟨4,by omega,rfl,⟨fun _ => HO.out.1 (by omega),fun _ => HO.out.2.1 (by omega),fun _ => HO.out.2.2.1 (by omega),by omega⟩,Ext.alloc HX.out _⟩
    case measure => simp [intOf]
   ·go_wp2
    go_ret2
    exact z3g (fun h => by have:=h.2.2.2; omega) (HX0.out.trans (Ext.alloc HX.out _)) rfl
  ·go_wp2
   go_ret2
   refine ⟨HX0.out.trans (Ext.alloc HX.out _),.inl ⟨⟨HO.out.1 (by omega),HO.out.2.1 (by omega),HO.out.2.2.1 (by omega),HO.out.2.2.2 (by omega)⟩,_,Nat.le_trans HX0.out.size HX.out.size,?_,rfl⟩⟩
   exact ⟨z04 _ _ _ rfl rfl,z04 _ _ _ rfl rfl,z04 _ _ _ rfl rfl,z04 _ _ _ rfl rfl,z04 _ _ _ rfl rfl,z04 _ _ _ rfl rfl,z04 _ _ _ rfl rfl,z04 _ _ _ rfl rfl,z04 _ _ _ rfl rfl,z04 _ _ _ rfl rfl,z04 _ _ _ rfl rfl,fun i => z56 _ _ _⟩
end
section
open Go.RowKit
end
section
open Go.RowKit
theorem zs8 (w:World):Calls Tryz.prog 120 #[.pointer none] w fun e w' => e = .returned (.int .i64 0) ∧ w = w':=by
 go_enter Tryz.func120,Tryz.ntmps120
 go_wp2
 go_ret
 exact ⟨rfl,rfl⟩
theorem zs9 (v:Value) (w:World):Calls Tryz.prog 78 #[.pointer none,v] w fun e w' => e = .returned (.int .i64 0) ∧ w = w':=by
 go_enter Tryz.func78,Tryz.ntmps78
 go_wp2
 go_ret
 exact ⟨rfl,rfl⟩
theorem zl4 (e:Int) (w:World):Calls Tryz.prog 75 #[.pointer none,.int .i64 e] w fun r w' => r = .returned (.int .i64 e) ∧ w = w':=by
 go_enter Tryz.func75,Tryz.ntmps75
 go_wp2
 go_ret
 exact ⟨rfl,rfl⟩
end
section
open Go.RowKit
theorem zsa {p:PZ} {c:Int} {m:Mono} (hp:z0k p) (hm:mayM m = true):z0k (putP p c m):=fun t ht => by
 rcases zip ht with h | h
 ·exact hp t h
 ·rw [h]; exact hm
theorem zsb {p l:PZ} (hp:z0k p) (hl:z0k l):z0k (addP p l):=by
 induction l generalizing p with
 | nil => exact hp
 | cons t r ih => exact ih (zsa hp (hl t (by simp))) (fun u hu => hl u (by simp [hu]))
theorem zg1 (p l:PZ) (t:Int × Mono):addP p (l ++ [t]) = putP (addP p l) t.1 t.2:=by
 unfold addP
 rw [List.foldl_append]
 rfl
theorem zsc {l:PZ} (h:z0k l) (k:Nat):z0k (l.take k):=fun t ht => h t (List.mem_of_mem_take ht)
theorem zbl {S:Nat → Prop} {w w1 w2:World} (h1:Ext w w1) (h2:Ext w1 w2):∀ k,Plus (Plus S w w1) w1 w2 k → Plus S w w2 k:=fun k hk => by
 rcases hk with (h | h) | h
 ·exact .inl h
 ·exact .inr ⟨h.1,Nat.lt_of_lt_of_le h.2 h2.size⟩
 ·exact .inr ⟨Nat.le_trans h1.size h.1,h.2⟩
theorem zj1 {S:Nat → Prop} {w w1 w2:World} (h1:w.heap.size ≤ w1.heap.size):∀ k,New w1 w2 k → Plus S w w2 k:=fun _k hk => .inr ⟨Nat.le_trans h1 hk.1,hk.2⟩
theorem RTs.later {S:Nat → Prop} {w w1 w2:World} {v:Value} {p:PZ} (hS:∀ k,S k → k < w.heap.size) (h:RTs (Plus S w w1) w1 v p) (h1:Ext w w1) (h2:Ext w1 w2):RTs (Plus S w w2) w2 v p :=
 h.to (Kept.ext h2 (z2s hS h1)) (z5z h2.size)
theorem z9n (ts:List RTerm):(toP ts).length = ts.length:=by unfold toP; rw [List.length_map]
theorem zo6 {S:Nat → Prop} (vp vq:Value) (p q:PZ) (w:World) (hS:∀ k,S k → k < w.heap.size) (hp:RTs S w vp p) (hq:RTs S w vq q) (hmp:z0k p) (hmq:z0k q) (hszq:szP q) (hsz:∀ k,k ≤ q.length → szP (addP p (q.take k))) :
  Calls Tryz.prog 31 #[vp,vq] w fun e w' => ∃ v',e = .returned v' ∧ RTs (Plus S w w') w' v' (addP p q) ∧ Ext w w':=by
 have hl:=hq.len_le
 have HP:=hid hp
 have HQ:=hid hq
 have HMP:=hid hmp
 have HMQ:=hid hmq
 have HZQ:=hid hszq
 have HSZ:=hid hsz
 obtain ⟨ap,cp,rfl⟩:=hp.form
 obtain ⟨aq,cq,rfl⟩:=hq.form
 clear hp hq hmp hmq hszq hsz
 go_enter Tryz.func31,Tryz.ntmps31
 go_wp2
 go_loopw [5,6] (fun o i wr => ∃ k:Nat,k ≤ q.length ∧ i = .int .i64 k ∧ Ext w wr ∧ Hid (RTs (Plus S w wr) wr o (addP p (q.take k)))) (fun _ i _ => q.length - (intOf i).toNat)
 case atStart => exact ⟨0,Nat.zero_le _,rfl,Ext.refl _,hid (HP.out.to (Kept.refl _ _) (fun _ h => .inl h))⟩
 case round =>
  obtain ⟨k,hk,rfl,hx,HO⟩:=hrel
  have HX:=hid hx
  by_cases hlt:k < q.length
  ·obtain ⟨t,ht⟩:=z01 hlt
   obtain ⟨b,off,vd,vo,rfl,-,hn1,hm1,hSb,h1,h2,h3,h4,h5⟩:=HQ.out.cellAt ht
   have HTK:Hid (q.take (k + 1) = q.take k ++ [t]):=hid (by rw [List.take_add_one,ht]; rfl)
   have HTM:=hid (HMQ.out t (List.mem_of_getElem? ht))
   have HV:=hid (HZQ.out.2 t (List.mem_of_getElem? ht))
   have H4:=hid h4
   have H5:=hid h5
   obtain ⟨am,cm,rfl⟩:=h4.form
   obtain ⟨ao,co,rfl⟩:=h5.form
   have x0:Ext w wr.drew:=hx.drew
   have HX0:=hid x0
   have S0:_ ∧ _ ∧ _:=And.intro (x0.cell h1) (And.intro (x0.cell h2) (x0.cell h3))
   have c2:=zbg (S:=Plus S w wr.drew) _ _ _ (addP p (q.take k)) t.1 t.2 wr.drew (z2s hS x0) (RTs.later hS HO.out HX.out ((Ext.refl wr).drew)) (show ZV (Plus S w wr.drew) wr.drew (.agg #[.bool (decide (t.1 < 0)),.slice am (rep 10 t.1.natAbs).length cm]) t.1 from ⟨_,rfl,H4.out.to (Kept.ext HX0.out hS) (fun _ h => .inl h)⟩) (H5.out.to (Kept.ext HX0.out hS) (fun _ h => .inl h)) (zsb HMP.out (zsc HMQ.out k)) HTM.out (HSZ.out k hk) HV.out
   obtain ⟨bt,hbt⟩:∃ b,b = decide (t.1 < 0):=⟨_,rfl⟩
   obtain ⟨nt,hnt⟩:∃ n,n = (rep 10 t.1.natAbs).length:=⟨_,rfl⟩
   obtain ⟨nm,hnm⟩:∃ n,n = t.2.length:=⟨_,rfl⟩
   rw [← hbt,← hnt,← hnm] at S0
   rw [← hbt,← hnt,← hnm] at c2
   have C2:=hid c2
   clear ht h1 h2 h3 h4 h5 hx x0 c2 H4 H5 hbt hnt hnm
   go_wp2
   go_region_held3 (fun W => W.cell? ⟨b,off + k * 3,none⟩ = some (.bool bt) ∧ W.cell? ⟨b,off + k * 3 + 1,none⟩ = some (.slice am nt cm) ∧ W.cell? ⟨b,off + k * 3 + 2,none⟩ = some (.slice ao nm co)) (first | exact S0 | exact S2)
    (first
     | (go_at_call 34; (with_reducible refine C2.out.mono ?_); rintro e w2 ⟨v2,rfl,hp2,hx2⟩; have S2:_ ∧ _ ∧ _:=And.intro (hx2.cell S0.1) (And.intro (hx2.cell S0.2.1) (hx2.cell S0.2.2)); have HX2:=hid (HX0.out.trans hx2); have HP2:=hid (hp2.to (Kept.refl _ _) (zbl HX0.out hx2)); clear hx2 hp2))
   go_wp2
   go_roundw
   case rel => exact ⟨k + 1,by omega,by go_num,HX2.out,hid (by rw [HTK.out,zg1]; exact HP2.out)⟩
   case measure => simp only [intOf]; omega
  ·obtain rfl:k = q.length:=by omega
   have HE:Hid (addP p (q.take q.length) = addP p q):=hid (by rw [List.take_length])
   clear hx
   go_wp2
   all_goals
    go_ret
    exact ⟨_,rfl,by rw [← HE.out]; exact HO.out,HX.out⟩
end
section
open Go.RowKit
section
variable {P:Program}
theorem z2g {w:World} {ops:Array Oper} {o:Oper} {a:Act} {K:Act → World → Prop} {Q:Exit → Act → World → Prop} {E:Prop} (hgd:o.guard = none) (s x:Operand) (t:TypeId)
  (ho:o.op = .call { callee:=.builtin .append,args:=#[s,x],argTypes:=#[t,t] })
  (base:Nat) (e:TypeId) (i:TypeInfo) (z:Value) (size bytes:Nat) (ht:P.underlying t = some (.slice e)) (hi:P.info? e = some i) (hz:i.zero = some z)
  (hsize:i.size = size) (hby:i.bytes = bytes) (hzs:z.cells.size = size) (hsz:0 < size)
  (v:Value) (n:Nat) (xs:List Value) (hs:a.eval s = v) (hown:w.ownsRow base e size v n xs)
  (A:Option Addr) (m c:Nat) (news:List Value) (hx:a.eval x = .slice A m c) (hsrc:zcr w A m size news)
  (h63:n + m ≤ maxLen) (hbytes:(n + m) * bytes ≤ 140737488355328) (hbase:base ≤ w.heap.size)
  (h:∀ v' w',w'.ownsRow base e size v' (n + m) (xs ++ news) → w.grownBy w' v.ownBlock → (v'.ownBlock = v.ownBlock ∨ v'.ownBlock = some w.heap.size) → K (a.put o.dst v') w') :
  if Region.wanted o (yielded ops a.tmps) = true then Oper.wp P o a w K Q else E:=by
 have hw:Region.wanted o (yielded ops a.tmps) = true:=by simp [Region.wanted,hgd]
 rw [if_pos hw]
 obtain ⟨v',w',hrun,h2,h3,h4⟩:=z5k (P:=P) w base t o.type e i z size bytes ht hi hz hsize hby hzs hsz v n xs hown A m c news hsrc h63 hbytes hbase
 unfold Oper.wp execOp
 simp only [ho,resolve,invoke,builtin,Sem.run_bind,Sem.run_pure,Result.andThen_ok,List.map_toArray,List.map_cons,List.map_nil,hs,hx,hrun]
 exact h v' w' h2 h3 h4
end
theorem z06.nilv (S:Nat → Prop) (w:World) (a:Option Addr) (cap:Nat) (h:cap ≤ 9223372036854775807):z06 S w (.slice a 0 cap) [] :=
 ⟨0,0,⟨a,cap,rfl,Nat.zero_le _,h,fun h => absurd h (Nat.lt_irrefl 0),fun h => absurd h (Nat.lt_irrefl 0)⟩,fun j t hj => by simp at hj⟩
def z0x (S:Nat → Prop) (w:World):List Value → List RTerm → Prop
 | xs,[] => xs = []
 | xs,t :: r => ∃ vd vo ys,xs = .bool t.c.neg :: vd :: vo :: ys ∧ U32s S w vd t.c.mag ∧ Pows S w vo t.m ∧ z0x S w ys r
section
variable {S S':Nat → Prop} {w w':World}
theorem z0x.append {xs ys:List Value} {p q:List RTerm} (h:z0x S w xs p) (k:z0x S w ys q):z0x S w (xs ++ ys) (p ++ q):=by
 induction p generalizing xs with
 | nil =>
  have e:xs = []:=h
  subst e
  exact k
 | cons t r ih =>
  obtain ⟨vd,vo,zs,rfl,h1,h2,h3⟩:=h
  exact ⟨vd,vo,zs ++ ys,rfl,h1,h2,ih h3⟩
theorem z0x.to {xs:List Value} {p:List RTerm} (h:z0x S w xs p) (hk:Kept S w w') (hS:∀ k,S k → S' k):z0x S' w' xs p:=by
 induction p generalizing xs with
 | nil => exact h
 | cons t r ih =>
  obtain ⟨vd,vo,zs,rfl,h1,h2,h3⟩:=h
  exact ⟨vd,vo,zs,rfl,h1.to hk hS,h2.to hk hS,ih h3⟩
theorem z0x.length {xs:List Value} {p:List RTerm} (h:z0x S w xs p):xs.length = p.length * 3:=by
 induction p generalizing xs with
 | nil =>
  have e:xs = []:=h
  subst e
  rfl
 | cons t r ih =>
  obtain ⟨vd,vo,zs,rfl,h1,h2,h3⟩:=h
  simp only [List.length_cons,ih h3]
  omega
theorem z0x.get {xs:List Value} {p:List RTerm} (h:z0x S w xs p) {j:Nat} {t:RTerm} (ht:p[j]? = some t) :
  ∃ vd vo,xs[j * 3]? = some (.bool t.c.neg) ∧ xs[j * 3 + 1]? = some vd ∧ xs[j * 3 + 2]? = some vo ∧ U32s S w vd t.c.mag ∧ Pows S w vo t.m:=by
 induction p generalizing xs j with
 | nil => simp at ht
 | cons u r ih =>
  obtain ⟨vd,vo,zs,rfl,h1,h2,h3⟩:=h
  cases j with
  | zero =>
   obtain rfl:u = t:=by simpa using ht
   exact ⟨vd,vo,rfl,rfl,rfl,h1,h2⟩
  | succ j =>
   obtain ⟨vd',vo',g⟩:=ih h3 (j:=j) (by simpa using ht)
   refine ⟨vd',vo',?_⟩
   rw [show (j + 1) * 3 = j * 3 + 1 + 1 + 1 by omega]
   simpa using g
theorem z0x.one {xs:List Value} {p:List RTerm} (h:z0x S w xs p):∀ u ∈ xs,u.oneCell' = true:=by
 induction p generalizing xs with
 | nil =>
  have e:xs = []:=h
  subst e
  intro u hu
  simp at hu
 | cons t r ih =>
  obtain ⟨vd,vo,zs,rfl,h1,h2,h3⟩:=h
  intro u hu
  simp only [List.mem_cons] at hu
  rcases hu with rfl | rfl | rfl | hu
  ·rfl
  ·obtain ⟨a,c,rfl⟩:=h1.form; rfl
  ·obtain ⟨a,c,rfl⟩:=h2.form; rfl
  ·exact ih h3 u hu
theorem z0x.single {vd vo:Value} {t:RTerm} (h1:U32s S w vd t.c.mag) (h2:Pows S w vo t.m):z0x S w [.bool t.c.neg,vd,vo] [t]:=⟨vd,vo,[],rfl,h1,h2,rfl⟩
end
theorem z6z {S:Nat → Prop} {w:World} {base:Nat} {e:TypeId} {v:Value} {xs:List Value} {p:List RTerm} (h:w.ownsRow base e 3 v p.length xs) (hc:z0x S w xs p) (hB:∀ k,base ≤ k → k < w.heap.size → S k):z06 S w v p:=by
 have hlt:=h.lt
 rcases h.2 with ⟨rfl,h0⟩ | ⟨g,cap,cur,rfl,hg,hh,h1,h2,h3,h4⟩
 ·obtain rfl:p = []:=List.length_eq_zero_iff.1 h0
  exact z06.nilv _ _ _ _ (by omega)
 ·refine ⟨g,0,⟨_,cap,rfl,h1,h2,fun _ => rfl,fun _ => hB g (hlt g rfl).1 (hlt g rfl).2⟩,fun j t hj => ?_⟩
  obtain ⟨vd,vo,g1,g2,g3,g4,g5⟩:=hc.get hj
  have hb:=z05 hj
  refine ⟨vd,vo,?_,?_,?_,g4,g5⟩
  ·rw [h.cellAt (0 + j * 3) (by omega),Nat.zero_add]
   exact g1
  ·rw [h.cellAt (0 + j * 3 + 1) (by omega),Nat.zero_add]
   exact g2
  ·rw [h.cellAt (0 + j * 3 + 2) (by omega),Nat.zero_add]
   exact g3
theorem Tryz.infoTerm:(Tryz.prog.info? 50).map (fun i => (i.zero,i.size,i.bytes)) = some (some (.agg #[.bool false,.slice none 0 0,.slice none 0 0]),3,56):=by kernel_rfl
section
variable {w w1 w2:World} {o:Value} {e:TypeId} {size n:Nat} {xs:List Value}
theorem z2r (hx:Ext w w1) (ho:w1.ownsRow w.heap.size e size o n xs) (hg:w1.grownBy w2 o.ownBlock):Ext w w2:=z0n hx hg (fun k hk => (ho.lt k hk).1)
end
theorem zya {p:PZ} {k:Nat} {t:Int × Mono} (h:p[k]? = some t):ofP (p.take (k + 1)) = ofP (p.take k) ++ [⟨ofI t.1,t.2⟩]:=by
 rw [List.take_add_one,h]
 unfold ofP
 rw [List.map_append]
 rfl
theorem z7m (p:PZ):(ofP p).length = p.length:=by unfold ofP; rw [List.length_map]
abbrev z60 (w w1:World) (o:Value):Nat → Prop:=fun k => New w w1 k ∧ some k ≠ o.ownBlock
theorem z1g {w w1 w2:World} {o:Value} {xs:List Value} {l:List RTerm} (h:z0x (z60 w w1 o) w1 xs l) (hx:Ext w1 w2):z0x (z60 w w2 o) w2 xs l :=
 h.to (Kept.ext hx (fun _ h => h.1.2)) (fun _ h => ⟨⟨h.1.1,Nat.lt_of_lt_of_le h.1.2 hx.size⟩,h.2⟩)
theorem z47 {w w2 w3:World} {o v3:Value} {xs:List Value} {l:List RTerm} {B:Nat} (h:z0x (z60 w w2 o) w2 xs l) (hg:w2.grownBy w3 o.ownBlock) (hb:v3.ownBlock = o.ownBlock ∨ v3.ownBlock = some B) (hB:w2.heap.size ≤ B):z0x (z60 w w3 v3) w3 xs l :=
 h.to (Kept.grown hg (fun _ h => ⟨h.1.2,h.2⟩)) (fun k hk => ⟨⟨hk.1.1,Nat.lt_of_lt_of_le hk.1.2 hg.size⟩,by
  rcases hb with e | e
  ·rw [e]; exact hk.2
  ·rw [e]
   intro e2
   have e3:k = B:=Option.some.inj e2
   have:=hk.1.2
   omega⟩)
theorem zbm {w w0 w1:World} {o:Value} {e:TypeId} {size n:Nat} {xs:List Value} {l:List RTerm} {ys:List Value} (h0:w.heap.size ≤ w0.heap.size) (ho:w0.ownsRow w.heap.size e size o n ys) (h:z0x (New w0 w1) w1 xs l):z0x (z60 w w1 o) w1 xs l :=
 h.to (Kept.refl _ _) (fun k hk => ⟨⟨Nat.le_trans h0 hk.1,hk.2⟩,fun e => by
  have:=(ho.lt k e.symm).2
  have:=hk.1
  omega⟩)
theorem zbn (w:World) (cs:Array Value) (e:TypeId) {size:Nat} (h1:∀ u ∈ cs.toList,u.oneCell' = true) (hs:cs.size = size):zcr (w.alloc (.cells cs e)) (some ⟨w.heap.size,0,none⟩) 1 size cs.toList :=
 ⟨by simpa using hs,h1,fun _ => ⟨_,rfl,fun j u hu => by
  rw [z8c,Nat.zero_add]
  exact z04 w cs e rfl (by simpa using hu)⟩⟩
theorem zg2 {w1 w3:World} {v:Value} {n:Nat} {m:Mono} {e:TypeId} (h:w3.ownsRow w1.heap.size e 2 v (0 + n) ([] ++ z4b m)) (hn:n = m.length) (hb:inBounds m):∃ a c,v = .slice a n c ∧ Pows (New w1 w3) w3 v m:=by
 subst hn
 rw [Nat.zero_add,List.nil_append] at h
 have hp:=z8p h hb
 obtain ⟨a,c,rfl⟩:=hp.form
 exact ⟨a,c,rfl,hp⟩
theorem zsd {w1 w3:World} {cs:Array Value} {e:TypeId} (hg:(w1.alloc (.cells cs e)).grownBy w3 (some w1.heap.size)):Ext w1 w3 :=
 z0n (Ext.alloc (Ext.refl w1) _) hg (fun k hk => by
  have:w1.heap.size = k:=Option.some.inj hk
  omega)
theorem zo7 {wr w1 w3:World} (hx:Ext wr w1) (hg:w1.grownBy w3 (some wr.heap.size)):Ext wr w3 :=
 z0n hx hg (fun k hk => by
  have:wr.heap.size = k:=Option.some.inj hk
  omega)
theorem zo8 {wr w1 w3:World} {o:Obj} {v:Value} {zs:List Nat} (h:U32s (New (wr.alloc o) w1) w1 v zs) (hg:w1.grownBy w3 (some wr.heap.size)):U32s (New wr w3) w3 v zs:=by
 have hne:∀ k,New (wr.alloc o) w1 k → wr.heap.size + 1 ≤ k:=fun k hk => by have:=hk.1; rw [z02] at this; exact this
 exact h.to (Kept.grown hg (fun k hk => ⟨hk.2,fun e => by
  have e2:k = wr.heap.size:=Option.some.inj e
  have:=hne k hk
  omega⟩)) (fun k hk => ⟨by have:=hne k hk; omega,Nat.lt_of_lt_of_le hk.2 hg.size⟩)
theorem z7n {S:Nat → Prop} (v:Value) (p:PZ) (w:World) (h:RTs S w v p) (hS:∀ k,S k → k < w.heap.size) (hsz:szP p) (hml:∀ t ∈ p,t.2.length ≤ 1000000) :
  Calls Tryz.prog 15 #[v] w fun e w' => ∃ v',e = .returned v' ∧ z06 (New w w') w' v' (ofP p) ∧ Ext w w':=by
 obtain ⟨i0,hi,hz0,hz1,hz2⟩:=info_parts Tryz.infoPower
 obtain ⟨j0,hj,jz0,jz1,jz2⟩:=info_parts Tryz.infoTerm
 have hl:=h.len_le
 have H:=hid h
 have HSZ:=hid hsz
 have HML:=hid hml
 obtain ⟨a,cap,rfl⟩:=h.form
 clear h hsz hml
 go_enter Tryz.func15,Tryz.ntmps15
 go_wp2
 go_loopw [3,4] (fun o i wr => ∃ k xs,k ≤ p.length ∧ i = .int .i64 (k:Nat) ∧ Ext w wr ∧ Hid (wr.ownsRow w.heap.size 50 3 o k xs) ∧ Hid (z0x (z60 w wr o) wr xs (ofP (p.take k)))) (fun _ i _ => p.length - (intOf i).toNat)
 case atStart => exact ⟨0,[],Nat.zero_le _,rfl,Ext.refl _,hid (World.ownsRow_nil _ _ _ _),hid rfl⟩
 case round =>
  obtain ⟨k,xs,hk,rfl,hx,HW,HXS⟩:=hrel
  have HX:=hid hx
  by_cases hlt:k < p.length
  ·obtain ⟨t,ht⟩:=z01 hlt
   obtain ⟨b,off,vd,vo,rfl,-,hn1,hm1,hSb,h1,h2,h3,h4,h5⟩:=H.out.cellAt ht
   have HT:=hid (zya ht)
   have HTM:=hid (HML.out t (List.mem_of_getElem? ht))
   have HTZ:=hid (HSZ.out.2 t (List.mem_of_getElem? ht))
   have H4:=hid h4
   have H5:=hid h5
   have HIB:=hid h5.inBounds
   obtain ⟨ad,cd,rfl⟩:=h4.form
   obtain ⟨ao,co,rfl⟩:=h5.form
   have x0:Ext w wr.drew:=hx.drew
   have HX0:=hid x0
   have HXR:=hid ((Ext.refl wr).drew)
   have h0:_ ∧ _ ∧ _:=And.intro h1 (And.intro h2 h3)
   have c1:=fun (W:World) (hW:Ext wr.drew W) => zvz (S:=S) _ t.1 W (show ZV S W (.agg #[.bool (decide (t.1 < 0)),.slice ad (rep 10 t.1.natAbs).length cd]) t.1 from ⟨_,rfl,H4.out.ext (HX0.out.trans hW) hS⟩) (z08 hS (HX0.out.trans hW)) HTZ.out
   obtain ⟨bt,hbt⟩:∃ b,b = decide (t.1 < 0):=⟨_,rfl⟩
   obtain ⟨nt,hnt⟩:∃ n,n = (rep 10 t.1.natAbs).length:=⟨_,rfl⟩
   obtain ⟨nm,hnm⟩:∃ n,n = t.2.length:=⟨_,rfl⟩
   have HNM:=hid hnm
   rw [← hbt,← hnt,← hnm] at h0
   rw [← hbt,← hnt] at c1
   rw [← hnm] at H5
   have HC0:=hid h0
   have S0:_ ∧ _ ∧ _:=And.intro (x0.cell h0.1) (And.intro (x0.cell h0.2.1) (x0.cell h0.2.2))
   have C1:=hid c1
   have HB1:Hid (0 + nm ≤ maxLen):=hid (by have:=HTM.out; rw [← hnm] at this; unfold maxLen; omega)
   have HB2:Hid ((0 + nm) * 16 ≤ 140737488355328):=hid (by have:=HTM.out; rw [← hnm] at this; omega)
   have HB3:Hid (k + 1 ≤ maxLen):=hid (by have:=HSZ.out.1; unfold maxLen; omega)
   have HB4:Hid ((k + 1) * 56 ≤ 140737488355328):=hid (by have:=HSZ.out.1; omega)
   have HM0:Hid (0 ≤ maxLen):=hid (Nat.zero_le _)
   have HWR:=hid (z0z HW.out HXR.out)
   have HXSR:=hid (z1g HXS.out HXR.out)
   clear ht h0 h1 h2 h3 h4 h5 hx x0 c1 hbt hnt hnm
   go_wp2
   go_region_held3 (fun W => W.cell? ⟨b,off + k * 3,none⟩ = some (.bool bt) ∧ W.cell? ⟨b,off + k * 3 + 1,none⟩ = some (.slice ad nt cd) ∧ W.cell? ⟨b,off + k * 3 + 2,none⟩ = some (.slice ao nm co)) (first | exact S0 | exact ⟨cell_old _ S0.1,cell_old _ S0.2.1,cell_old _ S0.2.2⟩ | exact S1 | exact ⟨cell_old _ S1.1,cell_old _ S1.2.1,cell_old _ S1.2.2⟩ | exact S3 | exact ⟨cell_old _ S3.1,cell_old _ S3.2.1,cell_old _ S3.2.2⟩ | exact S5)
    (first
     | (go_at_call 35; refine (C1.out _ ?_).mono ?_; · exact Ext.refl _
        rintro e w1 ⟨v1,rfl,hz1,hx1⟩; have HX1:=hid hx1; have HXW1:Hid (Ext w w1):=hid (HX0.out.trans hx1); have S1:_ ∧ _ ∧ _:=And.intro (HXW1.out.cell HC0.out.1) (And.intro (HXW1.out.cell HC0.out.2.1) (HXW1.out.cell HC0.out.2.2))
        obtain ⟨vm,rfl,hu1⟩:=hz1; have HU1:=hid hu1; obtain ⟨am,cm,rfl⟩:=hu1.form; obtain ⟨ng,hng⟩:∃ b,b = (ofI t.1).neg:=⟨_,rfl⟩; obtain ⟨nl,hnl⟩:∃ b,b = (ofI t.1).mag.length:=⟨_,rfl⟩; rw [← hng,← hnl]; rw [← hnl] at HU1; have HNG:=hid hng; have HNL:=hid hnl
        have HOA:=hid (World.ownsRow_made (base:=w1.heap.size) (e:=52) (size:=2) w1 #[] 0 (Nat.le_refl _) HM0.out rfl); have HSRC1:=hid ((Pows.ext' H5.out (HXW1.out.alloc (.cells #[] 52)) hS).src.2); have HBS:=hid (World.grownBy_alloc w1 (.cells #[] 52) none).size; clear hx1 hu1 hng hnl)
     | (go_at_call 35; refine (C1.out _ ?_).mono ?_; · exact Ext.alloc (Ext.refl _) _
        rintro e w1 ⟨v1,rfl,hz1,hx1⟩; have HX1:Hid (Ext (wr.drew.alloc (.cells #[] 52)) w1):=hid hx1; have HXR1:=hid ((Ext.alloc (Ext.refl wr.drew) (.cells #[] 52)).trans hx1); have HXW1:Hid (Ext w w1):=hid (HX0.out.trans HXR1.out); have S1:_ ∧ _ ∧ _:=And.intro (HXW1.out.cell HC0.out.1) (And.intro (HXW1.out.cell HC0.out.2.1) (HXW1.out.cell HC0.out.2.2))
        obtain ⟨vm,rfl,hu1⟩:=hz1; have HU1:Hid (U32s (New (wr.drew.alloc (.cells #[] 52)) w1) w1 vm (ofI t.1).mag):=hid hu1; obtain ⟨am,cm,rfl⟩:=hu1.form; obtain ⟨ng,hng⟩:∃ b,b = (ofI t.1).neg:=⟨_,rfl⟩; obtain ⟨nl,hnl⟩:∃ b,b = (ofI t.1).mag.length:=⟨_,rfl⟩; rw [← hng,← hnl]; rw [← hnl] at HU1; have HNG:=hid hng; have HNL:=hid hnl
        have HOB:=hid (z0z (World.ownsRow_made (base:=wr.heap.size) (e:=52) (size:=2) wr.drew #[] 0 (Nat.le_refl _) HM0.out rfl) hx1); have HSRC1:=hid ((Pows.ext' H5.out HXW1.out hS).src.2); have HBS:=hid HXR1.out.size; clear hx1 hu1 hng hnl)
     | (refine z2g rfl (.tmp 18) (.tmp 23) 48 rfl w1.heap.size 52 i0 (.agg #[.int .i64 0,.int .i64 0]) 2 16 Tryz.underlying48 hi hz0 hz1 hz2 rfl (Nat.succ_pos _) (.slice (some ⟨w1.heap.size,0,none⟩) 0 0) 0 [] rfl HOA.out ao nm co (z4b t.2) rfl HSRC1.out HB1.out HB2.out HBS.out ?_; intro v3 w3 hown hg _; obtain ⟨a3,c3,rfl,hp3⟩:=zg2 hown HNM.out HIB.out; have hx3:=zsd hg; have HXR3:Hid (Ext wr.drew w3):=hid (HX1.out.trans hx3); have HP3:Hid (Pows (New wr.drew w3) w3 (.slice a3 nm c3) t.2):=hid (hp3.to (Kept.refl _ _) (fun k h => ⟨Nat.le_trans HX1.out.size h.1,h.2⟩)); have HU3:Hid (U32s (New wr.drew w3) w3 (.slice am nl cm) (ofI t.1).mag):=hid (HU1.out.to (Kept.ext hx3 (fun _ h => h.2)) (fun k h => ⟨h.1,Nat.lt_of_lt_of_le h.2 hx3.size⟩)); clear hx3 hown hg hp3; have HXW3:Hid (Ext w w3):=hid (HX0.out.trans HXR3.out); have S3:_ ∧ _ ∧ _:=And.intro (HXW3.out.cell HC0.out.1) (And.intro (HXW3.out.cell HC0.out.2.1) (HXW3.out.cell HC0.out.2.2)); have HW3:=hid (z0z (z0z HWR.out HXR3.out) (Ext.alloc (Ext.refl w3) (.cells #[.bool ng,.slice am nl cm,.slice a3 nm c3] 50))); have HXS3:=hid (z1g HXSR.out HXR3.out); have HSRC3:=hid (zbn w3 #[.bool ng,.slice am nl cm,.slice a3 nm c3] 50 (z2f rfl rfl rfl) rfl); have HB5:=hid (Nat.le_trans HXW3.out.size (World.grownBy_alloc w3 (.cells #[.bool ng,.slice am nl cm,.slice a3 nm c3] 50) none).size))
     | (refine z2g rfl (.tmp 18) (.tmp 23) 48 rfl wr.heap.size 52 i0 (.agg #[.int .i64 0,.int .i64 0]) 2 16 Tryz.underlying48 hi hz0 hz1 hz2 rfl (Nat.succ_pos _) (.slice (some ⟨wr.heap.size,0,none⟩) 0 0) 0 [] rfl HOB.out ao nm co (z4b t.2) rfl HSRC1.out HB1.out HB2.out HBS.out ?_; intro v3 w3 hown hg _; obtain ⟨a3,c3,rfl,hp3⟩:=zg2 (w1:=wr.drew) hown HNM.out HIB.out; have HXR3:Hid (Ext wr.drew w3):=hid (zo7 HXR1.out hg); have HP3:Hid (Pows (New wr.drew w3) w3 (.slice a3 nm c3) t.2):=hid hp3; have HU3:Hid (U32s (New wr.drew w3) w3 (.slice am nl cm) (ofI t.1).mag):=hid (zo8 HU1.out hg); clear HXR1 hown hg hp3; have HXW3:Hid (Ext w w3):=hid (HX0.out.trans HXR3.out); have S3:_ ∧ _ ∧ _:=And.intro (HXW3.out.cell HC0.out.1) (And.intro (HXW3.out.cell HC0.out.2.1) (HXW3.out.cell HC0.out.2.2)); have HW3:=hid (z0z (z0z HWR.out HXR3.out) (Ext.alloc (Ext.refl w3) (.cells #[.bool ng,.slice am nl cm,.slice a3 nm c3] 50))); have HXS3:=hid (z1g HXSR.out HXR3.out); have HSRC3:=hid (zbn w3 #[.bool ng,.slice am nl cm,.slice a3 nm c3] 50 (z2f rfl rfl rfl) rfl); have HB5:=hid (Nat.le_trans HXW3.out.size (World.grownBy_alloc w3 (.cells #[.bool ng,.slice am nl cm,.slice a3 nm c3] 50) none).size))
     | (refine z2g rfl (.tmp 11) (.tmp 26) 23 rfl w.heap.size 50 j0 (.agg #[.bool false,.slice none 0 0,.slice none 0 0]) 3 56 Tryz.underlying23 hj jz0 jz1 jz2 rfl (Nat.succ_pos _) _ k xs rfl HW3.out (some ⟨w3.heap.size,0,none⟩) 1 1 _ rfl HSRC3.out HB3.out HB4.out HB5.out ?_; intro v5 w5 hown hg hbk; have HW5:=hid hown; have HG5:=hid hg; have HBK:=hid hbk; have HX5:=hid (z2r (HXW3.out.alloc (.cells #[.bool ng,.slice am nl cm,.slice a3 nm c3] 50)) HW3.out hg); have S5:_ ∧ _ ∧ _:=And.intro (HX5.out.cell HC0.out.1) (And.intro (HX5.out.cell HC0.out.2.1) (HX5.out.cell HC0.out.2.2)); clear hown hg hbk))
   all_goals
    go_wp2
    go_roundw
    case rel =>
     refine ⟨k + 1,xs ++ (#[.bool ng,.slice am nl cm,.slice a3 nm c3]:Array Value).toList,by omega,by go_num,HX5.out,HW5,hid ?_⟩
     rw [HT.out]
     have hone:z0x (New wr.drew w3) w3 (#[.bool ng,.slice am nl cm,.slice a3 nm c3]:Array Value).toList [⟨ofI t.1,t.2⟩]:=by
      rw [HNG.out]
      exact z0x.single (t:=⟨ofI t.1,t.2⟩) HU3.out HP3.out
     have hall:=HXS3.out.append (zbm HX0.out.size HWR.out hone)
     exact z47 (z1g hall (Ext.alloc (Ext.refl w3) (.cells #[.bool ng,.slice am nl cm,.slice a3 nm c3] 50))) HG5.out HBK.out (Nat.le_refl _)
    case measure => simp only [intOf]; omega
  ·obtain rfl:k = p.length:=by omega
   have HE:Hid (p.take p.length = p):=hid List.take_length
   clear hx
   go_wp2
   go_ret
   refine ⟨_,rfl,?_,HX.out⟩
   have hc:=HXS.out
   rw [HE.out] at hc
   exact z6z (by rw [z7m]; exact HW.out) (hc.to (Kept.refl _ _) (fun _ h => h.1)) (fun k h1 h2 => ⟨h1,h2⟩)
end
section
open Go.RowKit
theorem zo9 {z:Int} {n:Nat} (h:z.natAbs < 10 ^ n) (hn:n ≤ 2000000):szZ z:=Nat.le_trans (z0f z0h _ _ h) hn
theorem zwa {n:Nat} (h:n < 9223372036854775808):szZ (n:Int):=zo9 (n:=19) (by simp only [Int.natAbs_natCast]; omega) (by omega)
def numP (n:Nat):PZ:=putP [] (n:Int) []
theorem zbo (n:Nat) (w:World) (hn:n < 9223372036854775808) :
  Calls Tryz.prog 14 #[.int .i64 (n:Nat)] w fun e w' => ∃ v',e = .returned v' ∧ RTs (New w w') w' v' (numP n) ∧ Ext w w':=by
 have C1:=hid (zfv n w hn)
 have HZ:=hid (zwa hn)
 clear hn
 go_enter Tryz.func14,Tryz.ntmps14
 go_wp2_with fail
 refine C1.out.mono ?_
 rintro e w1 ⟨v1,rfl,hz1,hx1⟩
 have HX1:=hid hx1
 have C2:=hid (zbg (S:=New w w1) (.slice none 0 0) v1 (.slice none 0 0) [] (n:Int) [] w1 (fun _ h => h.2) (RTs.nilv _ _ _ _ (by omega)) hz1 (Pows.empty _ _ _) z2u.may rfl ⟨by simp,fun t ht => by simp at ht⟩ HZ.out)
 clear hx1 hz1
 go_wp2_with fail
 refine C2.out.mono ?_
 rintro e w2 ⟨v2,rfl,hp2,hx2⟩
 have HX2:=hid (HX1.out.trans hx2)
 have HP2:Hid (RTs (New w w2) w2 v2 (numP n)):=hid (hp2.to (Kept.refl _ _) (fun k hk => by
  rcases hk with h | h
  ·exact ⟨h.1,Nat.lt_of_lt_of_le h.2 hx2.size⟩
  ·exact ⟨Nat.le_trans HX1.out.size h.1,h.2⟩))
 clear hp2 hx2
 go_wp2
 all_goals
  go_ret
  exact ⟨_,rfl,HP2.out,HX2.out⟩
theorem zoa (x:Int) (w:World) (hx:z1v x) :
  Calls Tryz.prog 11 #[.int .i64 x] w fun e w' => ∃ v',e = .returned v' ∧ RTs (New w w') w' v' [(1,[(x,1)])] ∧ Ext w w':=by
 have C1:=hid (zfv 1 w (by omega))
 have HXX:=hid hx
 clear hx
 go_enter Tryz.func11,Tryz.ntmps11
 go_wp2_with fail
 refine C1.out.mono ?_
 rintro e w1 ⟨v1,rfl,hz1,hx1⟩
 obtain ⟨vd,rfl,hd⟩:=hz1
 have HX1:=hid hx1
 have HD:=hid hd
 obtain ⟨ad,cd,rfl⟩:=hd.form
 obtain ⟨nd,hnd⟩:∃ n,n = (rep 10 ((1:Nat):Int).natAbs).length:=⟨_,rfl⟩
 obtain ⟨bd,hbd⟩:∃ b,b = decide (((1:Nat):Int) < 0):=⟨_,rfl⟩
 rw [← hnd] at HD ⊢
 rw [← hbd]
 have HB:=hid hbd
 clear hx1 hd hnd hbd
 go_wp2
 go_ret
 have x2:Ext w1 ((w1.alloc (.cells #[.int .i64 x,.int .i64 1] 52)).alloc (.cells #[.bool bd,.slice ad nd cd,.slice (some ⟨w1.heap.size,0,none⟩) 1 1] 105)):=(Ext.alloc (Ext.alloc (Ext.refl w1) _) _)
 have hb:(w1.alloc (.cells #[.int .i64 x,.int .i64 1] 52)).heap.size = w1.heap.size + 1:=z02 _ _
 refine ⟨_,rfl,?_,HX1.out.trans x2⟩
 refine ⟨w1.heap.size + 1,0,⟨_,1,rfl,Nat.le_refl _,by decide,fun _ => by rw [← hb],fun _ => ⟨Nat.le_trans HX1.out.size (Nat.le_succ _),by rw [z02,hb] <;> omega⟩⟩,fun j t hj => ?_⟩
 have hj0:j = 0:=by have:=z05 hj; simp at this; exact this
 subst hj0
 obtain rfl:(1,[(x,1)]) = t:=by simpa using hj
 refine ⟨.slice ad nd cd,.slice (some ⟨w1.heap.size,0,none⟩) 1 1,?_,?_,?_,HD.out.to (Kept.ext x2 (fun _ h => h.2)) (fun k h => ⟨h.1,Nat.lt_of_lt_of_le h.2 x2.size⟩),?_⟩
 ·exact z04 _ _ _ (by rw [hb]) (by rw [HB.out]; rfl)
 ·exact z04 _ _ _ (by rw [hb]) rfl
 ·exact z04 _ _ _ (by rw [hb]) rfl
 ·refine ⟨w1.heap.size,0,⟨_,1,rfl,Nat.le_refl _,by decide,fun _ => rfl,fun _ => ⟨HX1.out.size,by rw [z02,hb] <;> omega⟩⟩,fun j t hj => ?_⟩
  have hj0:j = 0:=by have:=z05 hj; simp at this; exact this
  subst hj0
  obtain rfl:(x,1) = t:=by simpa using hj
  have hin:z1v (1:Int):=by unfold z1v; omega
  exact ⟨⟨HXX.out,hin⟩,cell_old _ (z04 _ _ _ rfl rfl),cell_old _ (z04 _ _ _ rfl rfl)⟩
end
section
open Go.RowKit
def z9o (t u:Int × Mono):Option (Int × Mono):=(z4z t.2 u.2).map fun m => (t.1 * u.1,m)
def z4l (p q:PZ):List (Option (Int × Mono)):=p.flatMap fun t => q.map (z9o t)
def allO:List (Option (Int × Mono)) → Option PZ
 | [] => some []
 | none :: _ => none
 | some x :: r => (allO r).map (x :: ·)
def z0g (p q:PZ):Option PZ:=(allO (z4l p q)).map z1t
theorem zg3 {xs:PZ}:allO (xs.map some) = some xs:=by
 induction xs with
 | nil => rfl
 | cons x r ih => simp only [List.map_cons,allO,ih,Option.map_some]
theorem zg4 {l r:List (Option (Int × Mono))}:allO (l ++ none :: r) = none:=by
 induction l with
 | nil => rfl
 | cons x l ih =>
  cases x with
  | none => rfl
  | some x => simp only [List.cons_append,allO,ih,Option.map_none]
def bndP (p:PZ) (L M:Nat):Prop:=p.length ≤ L ∧ ∀ t ∈ p,t.1.natAbs ≤ M
theorem zj2 (p:PZ) (c:Int) (m:Mono):(putP p c m).length ≤ p.length + 1:=by
 induction p with
 | nil => simp only [putP]; split <;> simp
 | cons t r ih =>
  simp only [putP]
  split
  ·simp only [List.length_cons]; omega
  ·split
   ·split <;> simp only [List.length_cons] <;> omega
   ·split <;> simp only [List.length_cons] <;> omega
theorem zse {p:PZ} {c:Int} {m:Mono} {M N:Nat} (h:∀ t ∈ p,t.1.natAbs ≤ M) (hc:c.natAbs ≤ N):∀ t ∈ putP p c m,t.1.natAbs ≤ M + N:=by
 induction p with
 | nil =>
  intro t ht
  simp only [putP] at ht
  split at ht
  ·simp at ht
  ·rw [List.mem_singleton.1 ht]; simp only; omega
 | cons u r ih =>
  have hu:=h u (by simp)
  have hr:∀ t ∈ r,t.1.natAbs ≤ M:=fun t ht => h t (by simp [ht])
  have ih:=ih hr
  intro t ht
  simp only [putP] at ht
  split at ht
  ·rcases List.mem_cons.1 ht with rfl | ht
   ·omega
   ·exact ih t ht
  ·split at ht
   ·split at ht
    ·have:=hr t ht; omega
    ·rcases List.mem_cons.1 ht with rfl | ht
     ·simp only; omega
     ·have:=hr t ht; omega
   ·split at ht
    ·have:=h t ht; omega
    ·rcases List.mem_cons.1 ht with rfl | ht
     ·simp only; omega
     ·have:=h t ht; omega
theorem zsf {p:PZ} {c:Int} {m:Mono} {L M N:Nat} (h:bndP p L M) (hc:c.natAbs ≤ N):bndP (putP p c m) (L + 1) (M + N) :=
 ⟨Nat.le_trans (zj2 _ _ _) (by have:=h.1; omega),zse h.2 hc⟩
theorem zj3 {p l:PZ} {L M N:Nat} (h:bndP p L M) (hl:∀ t ∈ l,t.1.natAbs ≤ N):bndP (addP p l) (L + l.length) (M + l.length * N):=by
 induction l generalizing p L M with
 | nil => simpa [addP] using h
 | cons t r ih =>
  have h1:=ih (zsf (m:=t.2) h (hl t (by simp))) (fun u hu => hl u (by simp [hu]))
  show bndP (addP (putP p t.1 t.2) r) _ _
  simp only [List.length_cons]
  refine ⟨by have:=h1.1; omega,fun u hu => ?_⟩
  have:=h1.2 u hu
  rw [Nat.add_mul]
  omega
theorem zwb:bndP [] 0 0:=⟨by simp,fun t ht => by simp at ht⟩
theorem zbp {p:PZ} {L M n:Nat} (h:bndP p L M) (hL:L ≤ 1000000000000) (hM:M < 10 ^ n) (hn:n ≤ 2000000):szP p :=
 ⟨Nat.le_trans h.1 hL,fun t ht => zo9 (Nat.lt_of_le_of_lt (h.2 t ht) hM) hn⟩
theorem zg5 {m:Mono} {l v e:Int} (h:z0a l m = true) (hv:∀ x ∈ m,x.1 < v) (hl:l < v) (h2:v ≤ 200) (h3:1 ≤ e ∧ e ≤ 10000):z0a l (m ++ [(v,e)]) = true:=by
 induction m generalizing l with
 | nil =>
  simp only [List.nil_append,z0a,Bool.and_true,decide_eq_true_eq]
  omega
 | cons x r ih =>
  simp only [List.cons_append,z0a,Bool.and_eq_true] at h ⊢
  exact ⟨h.1,ih h.2 (fun y hy => hv y (by simp [hy])) (hv x (by simp))⟩
theorem zj4 (f:Nat → Int) (k:Nat):∀ x ∈ ofE f k,x.1 ≤ (k:Int):=by
 induction k with
 | zero => intro x hx; simp [ofE] at hx
 | succ k ih =>
  intro x hx
  simp only [ofE] at hx
  split at hx
  ·rcases List.mem_append.1 hx with hx | hx
   ·have:=ih x hx; omega
   ·rw [List.mem_singleton.1 hx]; simp only; omega
  ·have:=ih x hx; omega
theorem zob {f:Nat → Int} {n:Nat} (hn:n ≤ 200) (h:∀ j,1 ≤ j → j ≤ n → f j ≤ 10000):mayM (ofE f n) = true:=by
 induction n with
 | zero => rfl
 | succ k ih =>
  have ih:=ih (by omega) (fun j h1 h2 => h j h1 (by omega))
  simp only [ofE]
  split
  ·rename_i hp
   refine zg5 ih (fun x hx => ?_) (by omega) (by omega) ⟨by omega,h (k + 1) (by omega) (Nat.le_refl _)⟩
   have:=zj4 f k x hx
   omega
  ·exact ih
theorem zg6 {f:Nat → Int} {n:Nat} (h:z68 f n = false):∀ j,1 ≤ j → j ≤ n → f j ≤ 10000:=by
 induction n with
 | zero => intro j h1 h2; omega
 | succ k ih =>
  simp only [z68,Bool.or_eq_false_iff,decide_eq_false_iff_not] at h
  intro j h1 h2
  by_cases e:j = k + 1
  ·subst e; have:=h.2; omega
  ·exact ih h.1 j h1 (by omega)
theorem zda {a b m:Mono} (h:z4z a b = some m):mayM m = true:=by
 unfold z4z at h
 split at h
 ·cases h
 ·rename_i ho
  cases h
  exact zob (Nat.le_refl _) (zg6 (by simpa using ho))
theorem za6 (p q:PZ):(z4l p q).length = p.length * q.length:=by
 induction p with
 | nil => simp [z4l]
 | cons t r ih =>
  have e:z4l (t :: r) q = q.map (z9o t) ++ z4l r q:=by unfold z4l; rw [List.flatMap_cons]
  rw [e,List.length_append,List.length_map,ih,List.length_cons,Nat.add_mul]
  omega
theorem zg7 {p q:PZ} {k j:Nat} {t u:Int × Mono} (ht:p[k]? = some t) (hu:q[j]? = some u):(z4l p q)[k * q.length + j]? = some (z9o t u):=by
 have hj:=z05 hu
 induction p generalizing k with
 | nil => simp at ht
 | cons x r ih =>
  have e:z4l (x :: r) q = q.map (z9o x) ++ z4l r q:=by unfold z4l; rw [List.flatMap_cons]
  rw [e]
  cases k with
  | zero =>
   obtain rfl:x = t:=by simpa using ht
   rw [Nat.zero_mul,Nat.zero_add,List.getElem?_append_left (by rw [List.length_map]; exact hj),List.getElem?_map,hu]
   rfl
  | succ k =>
   have:=ih (k:=k) (by simpa using ht)
   rw [List.getElem?_append_right (by rw [List.length_map,Nat.add_mul]; omega),List.length_map,show (k + 1) * q.length + j - q.length = k * q.length + j by rw [Nat.add_mul]; omega]
   exact this
theorem zdb {t u x:Int × Mono} (h:z9o t u = some x):mayM x.2 = true ∧ x.1 = t.1 * u.1:=by
 unfold z9o at h
 cases hr:z4z t.2 u.2 with
 | none => rw [hr] at h; simp at h
 | some m =>
  rw [hr] at h
  simp at h
  subst h
  exact ⟨zda hr,rfl⟩
theorem zoc {p q:PZ} {x:Int × Mono} (h:some x ∈ z4l p q):mayM x.2 = true ∧ ∃ t ∈ p,∃ u ∈ q,x.1 = t.1 * u.1:=by
 unfold z4l at h
 obtain ⟨t,ht,h⟩:=List.mem_flatMap.1 h
 obtain ⟨u,hu,h⟩:=List.mem_map.1 h
 exact ⟨(zdb h).1,t,ht,u,hu,(zdb h).2⟩
def z5e (p q:PZ) (n:Nat) (xs:PZ):Prop:=(z4l p q).take n = xs.map some
theorem zbq (p q:PZ):z5e p q 0 []:=rfl
theorem zbr {p q:PZ} {n:Nat} {xs:PZ} {x:Int × Mono} (h:z5e p q n xs) (hx:(z4l p q)[n]? = some (some x)):z5e p q (n + 1) (xs ++ [x]):=by
 unfold z5e at h ⊢
 rw [List.take_add_one,h,hx]
 simp
theorem zbs {p q:PZ} {n:Nat} {xs:PZ} (_h:z5e p q n xs) (hx:(z4l p q)[n]? = some none):z0g p q = none:=by
 unfold z0g
 have e:z4l p q = (z4l p q).take n ++ none :: (z4l p q).drop (n + 1):=by rw [← z6n hx,List.take_append_drop]
 rw [e,zg4]
 rfl
theorem zdc {p q:PZ} {n:Nat} {xs:PZ} (h:z5e p q n xs) (hn:n = p.length * q.length):z0g p q = some (z1t xs):=by
 unfold z5e at h
 rw [List.take_of_length_le (by rw [za6]; omega)] at h
 unfold z0g
 rw [h,zg3]
 rfl
theorem z7o {p q:PZ} {n:Nat} {xs:PZ} (h:z5e p q n xs) {x:Int × Mono} (hx:x ∈ xs):mayM x.2 = true ∧ ∃ t ∈ p,∃ u ∈ q,x.1 = t.1 * u.1:=by
 apply zoc
 have:some x ∈ (z4l p q).take n:=by rw [h]; exact List.mem_map.2 ⟨x,hx,rfl⟩
 exact List.mem_of_mem_take this
theorem zl5 {p q:PZ} {n:Nat} {xs:PZ} (h:z5e p q n xs):xs.length ≤ p.length * q.length:=by
 have h1:((z4l p q).take n).length = xs.length:=by rw [h,List.length_map]
 rw [← h1,List.length_take,za6]
 exact Nat.min_le_right _ _
def szM (p q:PZ):Prop:=∃ N n,(∀ t ∈ p,∀ u ∈ q,(t.1 * u.1).natAbs ≤ N) ∧ p.length * q.length ≤ 1000000000000 ∧ p.length * q.length * N < 10 ^ n ∧ n ≤ 2000000
theorem zod {p q:PZ} {n:Nat} {xs:PZ} (h:z5e p q n xs) (hs:szM p q):szP (z1t xs):=by
 obtain ⟨N,e,h1,h2,h3,h4⟩:=hs
 have hl:=zl5 h
 have hb:=zj3 (N:=N) zwb (l:=xs) (fun t ht => by
  obtain ⟨_,a,ha,b,hb,hh⟩:=z7o h ht
  rw [hh]
  exact h1 a ha b hb)
 simp only [Nat.zero_add] at hb
 exact zbp hb (by omega) (Nat.lt_of_le_of_lt (Nat.mul_le_mul_right N hl) h3) h4
theorem zwc {p q:PZ} (hs:szM p q) {t u:Int × Mono} (ht:t ∈ p) (hu:u ∈ q):szZ (t.1 * u.1):=by
 obtain ⟨N,e,h1,h2,h3,h4⟩:=hs
 have h5:=h1 t ht u hu
 have hp:0 < p.length:=List.length_pos_of_mem ht
 have hq:0 < q.length:=List.length_pos_of_mem hu
 have:1 * N ≤ p.length * q.length * N:=Nat.mul_le_mul_right N (Nat.mul_pos hp hq)
 exact zo9 (Nat.lt_of_le_of_lt (by omega) h3) h4
end
section
open Go.RowKit
def zyb:Option PZ → Bool
 | none => false
 | some _ => true
def zj5:Option PZ → PZ
 | none => []
 | some p => p
theorem zi3 {S:Nat → Prop} (vp vq:Value) (p q:PZ) (w:World) (hS:∀ k,S k → k < w.heap.size) (hp:RTs S w vp p) (hq:RTs S w vq q) (hmp:z0k p) (hmq:z0k q) (hszp:szP p) (hszq:szP q) (hsz:szM p q) :
  Calls Tryz.prog 33 #[vp,vq] w fun e w' => ∃ v',e = .returned (.tuple #[v',.bool (zyb (z0g p q))]) ∧ RTs (Plus S w w') w' v' (zj5 (z0g p q)) ∧ Ext w w':=by
 have hlp:=hp.len_le
 have hlq:=hq.len_le
 have HP:=hid hp
 have HQ:=hid hq
 have HMP:=hid hmp
 have HMQ:=hid hmq
 have HZP:=hid hszp
 have HZQ:=hid hszq
 have HSZ:=hid hsz
 obtain ⟨ap,cp,rfl⟩:=hp.form
 obtain ⟨aq,cq,rfl⟩:=hq.form
 obtain ⟨R,hR⟩:∃ R,R = z0g p q:=⟨_,rfl⟩
 rw [← hR]
 have HR:=hid hR
 clear hp hq hmp hmq hszp hszq hsz hR
 go_enter Tryz.func33,Tryz.ntmps33
 go_wp2
 go_loopw [6,7] (fun o i wr => ∃ k xs n,k ≤ p.length ∧ i = .int .i64 (k:Nat) ∧ Ext w wr ∧ Hid (n = k * q.length) ∧ Hid (z5e p q n xs) ∧ Hid (RTs (Plus S w wr) wr o (z1t xs))) (fun _ i _ => p.length - (intOf i).toNat)
 case atStart => exact ⟨0,[],0,Nat.zero_le _,rfl,Ext.refl _,hid (by rw [Nat.zero_mul]),hid (zbq _ _),hid (RTs.nilv _ _ _ _ (by omega))⟩
 case round =>
  obtain ⟨k,xs,n,hk,rfl,hx,HN,HF,HO⟩:=hrel
  have HX:=hid hx
  by_cases hlt:k < p.length
  ·obtain ⟨t,ht⟩:=z01 hlt
   have HT:=hid ht
   clear ht hx
   go_wp2
   go_loopw [6,8] (fun o i wr => ∃ j xs n,j ≤ q.length ∧ i = .int .i64 (j:Nat) ∧ Ext w wr ∧ Hid (n = k * q.length + j) ∧ Hid (z5e p q n xs) ∧ Hid (RTs (Plus S w wr) wr o (z1t xs))) (fun _ i _ => q.length - (intOf i).toNat)
   case atStart => exact ⟨0,xs,n,Nat.zero_le _,rfl,HX.out,hid (by rw [HN.out,Nat.add_zero]),HF,HO⟩
   case round =>
    clear HO HF HN HX
    clear xs n
    obtain ⟨j,xs,n,hj,rfl,hx,HN,HF,HO⟩:=hrel
    have HX:=hid hx
    by_cases hlj:j < q.length
    ·obtain ⟨u,hu⟩:=z01 hlj
     have HGET:Hid ((z4l p q)[n]? = some (z9o t u)):=hid (by rw [HN.out]; exact zg7 HT.out hu)
     have HTP:=hid (List.mem_of_getElem? HT.out)
     have HUQ:=hid (List.mem_of_getElem? hu)
     obtain ⟨b,off,vd,vo,rfl,-,hn1,hm1,hSb,h1,h2,h3,h4,h5⟩:=HP.out.cellAt HT.out
     obtain ⟨b',off',vd',vo',rfl,-,hn1',hm1',hSb',h1',h2',h3',h4',h5'⟩:=HQ.out.cellAt hu
     have H4:=hid h4
     have H5:=hid h5
     have H4':=hid h4'
     have H5':=hid h5'
     obtain ⟨ad,cd,rfl⟩:=h4.form
     obtain ⟨ao,co,rfl⟩:=h5.form
     obtain ⟨ad',cd',rfl⟩:=h4'.form
     obtain ⟨ao',co',rfl⟩:=h5'.form
     have x0:Ext w wr.drew:=hx.drew
     have HX0:=hid x0
     have HXR:=hid ((Ext.refl wr).drew)
     have S0:_ ∧ _:=And.intro (x0.cell h3) (x0.cell h3')
     have CT:=zhv (S:=S) _ _ t.2 u.2 wr.drew (H5.out.ext x0 hS) (H5'.out.ext x0 hS) (z08 hS x0) (HMP.out t HTP.out) (HMQ.out u HUQ.out)
     have CM:=fun (W:World) (hW:Ext w W) => zw0 (S:=S) (.agg #[.bool (decide (t.1 < 0)),.slice ad (rep 10 t.1.natAbs).length cd]) (.agg #[.bool (decide (u.1 < 0)),.slice ad' (rep 10 u.1.natAbs).length cd']) t.1 u.1 W ⟨_,rfl,H4.out.ext hW hS⟩ ⟨_,rfl,H4'.out.ext hW hS⟩ (z08 hS hW) (HZP.out.2 t HTP.out) (HZQ.out.2 u HUQ.out)
     obtain ⟨bt,hbt⟩:∃ b,b = decide (t.1 < 0):=⟨_,rfl⟩
     obtain ⟨nt,hnt⟩:∃ n,n = (rep 10 t.1.natAbs).length:=⟨_,rfl⟩
     obtain ⟨bu,hbu⟩:∃ b,b = decide (u.1 < 0):=⟨_,rfl⟩
     obtain ⟨nu,hnu⟩:∃ n,n = (rep 10 u.1.natAbs).length:=⟨_,rfl⟩
     obtain ⟨mt,hmt⟩:∃ n,n = t.2.length:=⟨_,rfl⟩
     obtain ⟨mu,hmu⟩:∃ n,n = u.2.length:=⟨_,rfl⟩
     rw [← hbt,← hnt,← hbu,← hnu] at CM
     rw [← hmt,← hmu] at S0 CT
     rw [← hbt] at h1
     rw [← hnt] at h2
     rw [← hbu] at h1'
     rw [← hnu] at h2'
     have HC0:Hid (_ ∧ _ ∧ _ ∧ _):=hid (And.intro h1 (And.intro h2 (And.intro h1' h2')))
     have HCM:=hid CM
     have HSO:=hid (zwc HSZ.out HTP.out HUQ.out)
     have HSX:=hid (zod HF.out HSZ.out)
     have HMX:Hid (z0k (z1t xs)):=hid (z8s (fun y hy => (z7o HF.out hy).1)).may
     clear hu h1 h2 h3 h4 h5 h1' h2' h3' h4' h5' hx x0 CM hbt hnt hbu hnu hmt hmu
     cases hr:z4z t.2 u.2 with
     | none =>
      have HRN:Hid (R = none):=hid (HR.out.trans (zbs HF.out (by rw [HGET.out]; unfold z9o; rw [hr]; rfl)))
      rw [hr] at CT
      unfold zvw zvx at CT
      simp only at CT
      have HCT:=hid CT
      clear CT hr
      go_wp2
      go_region_held3 (fun W => W.cell? ⟨b,off + k * 3 + 2,none⟩ = some (.slice ao mt co) ∧ W.cell? ⟨b',off' + j * 3 + 2,none⟩ = some (.slice ao' mu co')) (first | exact S0 | exact S1)
       (first
        | (go_at_call 68; (with_reducible refine HCT.out.mono ?_); rintro e w1 ⟨v1,rfl,hp1,hx1⟩; have S1:_ ∧ _:=And.intro (hx1.cell S0.1) (hx1.cell S0.2); have HX1:=hid (HX0.out.trans hx1); clear hx1 hp1))
      go_wp2
      all_goals
       go_ret2
       rw [HRN.out]
       exact ⟨_,rfl,RTs.nilv _ _ _ _ (by omega),HX1.out⟩
     | some m =>
      have HMM:=hid (zda hr)
      have HNX:=hid (zbr HF.out (x:=(t.1 * u.1,m)) (by rw [HGET.out]; unfold z9o; rw [hr]; rfl))
      rw [hr] at CT
      unfold zvw zvx at CT
      simp only at CT
      have HCT:=hid CT
      clear CT hr
      go_wp2
      go_region_held3 (fun W => W.cell? ⟨b,off + k * 3 + 2,none⟩ = some (.slice ao mt co) ∧ W.cell? ⟨b',off' + j * 3 + 2,none⟩ = some (.slice ao' mu co')) (first | exact S0 | exact S1)
       (first
        | (go_at_call 68; (with_reducible refine HCT.out.mono ?_); rintro e w1 ⟨v1,rfl,hp1,hx1⟩; have S1:_ ∧ _:=And.intro (hx1.cell S0.1) (hx1.cell S0.2); have HX1:=hid (HX0.out.trans hx1); have HXR1:=hid (HXR.out.trans hx1); have HP1:Hid (Pows (Plus S w w1) w1 v1 m):=hid (hp1.to (Kept.refl _ _) (zj1 HX0.out.size)); clear hx1 hp1))
      have x1:Ext w w1.drew:=HX1.out.drew
      have HX1D:=hid x1
      have T0:_ ∧ _ ∧ _ ∧ _:=And.intro (x1.cell HC0.out.1) (And.intro (x1.cell HC0.out.2.1) (And.intro (x1.cell HC0.out.2.2.1) (x1.cell HC0.out.2.2.2)))
      have HCM1:=hid (HCM.out w1.drew x1)
      clear x1 S0 S1
      go_wp2
      go_region_held3 (fun W => W.cell? ⟨b,off + k * 3,none⟩ = some (.bool bt) ∧ W.cell? ⟨b,off + k * 3 + 1,none⟩ = some (.slice ad nt cd) ∧ W.cell? ⟨b',off' + j * 3,none⟩ = some (.bool bu) ∧ W.cell? ⟨b',off' + j * 3 + 1,none⟩ = some (.slice ad' nu cd')) (first | exact T0 | exact T1 | exact T2)
       (first
        | (go_at_call 69; (with_reducible refine HCM1.out.mono ?_); rintro e w2 ⟨v2,rfl,hz2,hx2⟩; have T1:_ ∧ _ ∧ _ ∧ _:=And.intro (hx2.cell T0.1) (And.intro (hx2.cell T0.2.1) (And.intro (hx2.cell T0.2.2.1) (hx2.cell T0.2.2.2))); have HX2:Hid (Ext w w2):=hid (HX1D.out.trans hx2); have HX12:Hid (Ext w1 w2):=hid (((Ext.refl w1).drew).trans hx2); have C2:=hid (zbg (S:=Plus S w w2) _ _ _ (z1t xs) (t.1 * u.1) m w2 (z2s hS HX2.out) (RTs.later hS HO.out HX.out (HXR1.out.trans HX12.out)) (hz2.to (Kept.refl _ _) (zj1 HX1D.out.size)) (HP1.out.to (Kept.ext HX12.out (z2s hS HX1.out)) (z5z HX12.out.size)) HMX.out HMM.out HSX.out HSO.out); clear hx2 hz2)
        | (go_at_call 34; (with_reducible refine C2.out.mono ?_); rintro e w3 ⟨v3,rfl,hp3,hx3⟩; have T2:_ ∧ _ ∧ _ ∧ _:=And.intro (hx3.cell T1.1) (And.intro (hx3.cell T1.2.1) (And.intro (hx3.cell T1.2.2.1) (hx3.cell T1.2.2.2))); have HX3:=hid (HX2.out.trans hx3); have HP3:=hid (hp3.to (Kept.refl _ _) (zbl HX2.out hx3)); clear hx3 hp3))
      go_wp2
      go_roundw
      case rel => exact ⟨j + 1,xs ++ [(t.1 * u.1,m)],n + 1,by omega,by go_num,HX3.out,hid (by rw [HN.out,Nat.add_assoc]),HNX,hid (by unfold z1t; rw [zg1]; exact HP3.out)⟩
      case measure => simp only [intOf]; omega
    ·obtain rfl:j = q.length:=by omega
     clear hx
     go_wp2
     go_roundw
     case rel => exact ⟨k + 1,xs,n,by omega,by go_num,HX.out,hid (by rw [HN.out,Nat.add_mul,Nat.one_mul]),HF,HO⟩
     case measure => simp only [intOf]; omega
  ·obtain rfl:k = p.length:=by omega
   have HRS:=hid (HR.out.trans (zdc HF.out HN.out))
   clear hx
   go_wp2
   all_goals
    go_ret2
    rw [HRS.out]
    exact ⟨_,rfl,HO.out,HX.out⟩
end
section
open Go.RowKit
theorem z1r.form {S:Nat → Prop} {w:World} {v:Value} {zs:List (List RTerm)} (h:z1r S w v zs):∃ a cap,v = .slice a zs.length cap:=by
 obtain ⟨b,off,⟨a,cap,h1,_⟩,_⟩:=h
 exact ⟨a,cap,h1⟩
theorem z1r.ext {S:Nat → Prop} {w W:World} {v:Value} {zs:List (List RTerm)} (h:z1r S w v zs) (hx:Ext w W) (hS:∀ k,S k → k < w.heap.size):z1r S W v zs:=h.to (Kept.ext hx hS) (fun _ h => h)
theorem z1r.len_le {S:Nat → Prop} {w:World} {v:Value} {zs:List (List RTerm)} (h:z1r S w v zs):zs.length ≤ 9223372036854775807:=by
 obtain ⟨b,off,⟨a,cap,h1,h2,h3,_⟩,_⟩:=h
 unfold maxLen at h3
 omega
theorem z1r.cellAt {S:Nat → Prop} {w:World} {ts:List (List RTerm)} {a:Option Addr} {n cap k:Nat} {t:List RTerm} (h:z1r S w (.slice a n cap) ts) (ht:ts[k]? = some t) :
  ∃ b off vp,a = some ⟨b,off,none⟩ ∧ n = ts.length ∧ n ≤ cap ∧ cap ≤ 9223372036854775807 ∧ S b ∧ w.cell? ⟨b,off + k,none⟩ = some vp ∧ z06 S w vp t:=by
 obtain ⟨b,off,⟨a',cap',h1,h2,h3,h4,h5⟩,hc⟩:=h
 obtain ⟨rfl,rfl,rfl⟩:a = a' ∧ n = ts.length ∧ cap = cap':=by simpa using h1
 have hp:0 < ts.length:=by have:=z05 ht; omega
 obtain ⟨vp,g1,g2⟩:=hc k t ht
 exact ⟨b,off,vp,h4 hp,rfl,h2,h3,h5 hp,g1,g2⟩
def z70 (l:List (List RTerm)):Prop:=∀ p ∈ l,z3r p
end
section
open Go.RowKit
theorem zg8 {S:Nat → Prop} (vp vq:Value) (p q:PZ) (w:World) (hS:∀ k,S k → k < w.heap.size) (hp:RTs S w vp p) (hq:RTs S w vq q) (hmp:z0k p) (hmq:z0k q) (hszp:szP p) (hszq:szP q) (hsz:szM p q) :
  Calls Tryz.prog 13 #[vp,vq] w fun e w' => ∃ v',e = .returned v' ∧ RTs (Plus S w w') w' v' (zj5 (z0g p q)) ∧ Ext w w':=by
 have HT:=hid (zi3 vp vq p q w hS hp hq hmp hmq hszp hszq hsz)
 clear hp hq
 go_enter Tryz.func13,Tryz.ntmps13
 go_wp2_with fail
 refine HT.out.mono ?_
 rintro e w1 ⟨v1,rfl,hp1,hx1⟩
 have HX1:=hid hx1
 have HP1:=hid hp1
 clear hx1 hp1
 go_wp2
 all_goals
  go_ret
  exact ⟨_,rfl,HP1.out,HX1.out⟩
theorem z7p {p:PZ} (h:canP p):z0q (ofP p) = p:=by
 unfold z0q
 rw [if_pos (z7d h)]
 exact z6t p
theorem RTs.old {w:World} {S:Nat → Prop} {v:Value} {p:PZ} (h:RTs S w v p) (hS:∀ k,S k → k < w.heap.size):RTs (Old w) w v p:=h.to (Kept.refl _ _) hS
theorem z06.old {w:World} {S:Nat → Prop} {v:Value} {p:List RTerm} (h:z06 S w v p) (hS:∀ k,S k → k < w.heap.size):z06 (Old w) w v p:=h.to (Kept.refl _ _) hS
theorem z1r.on {w W:World} {v:Value} {z:List (List RTerm)} (h:z1r (Old w) w v z) (hx:Ext w W):z1r (Old W) W v z:=h.to (Kept.ext hx (fun _ h => h)) (zbe hx)
theorem z06.on {w W:World} {v:Value} {z:List RTerm} (h:z06 (Old w) w v z) (hx:Ext w W):z06 (Old W) W v z:=h.to (Kept.ext hx (fun _ h => h)) (zbe hx)
theorem zj6 {p:PZ} (h:z0k p):∀ t ∈ p,t.2.length ≤ 1000000:=fun t ht => Nat.le_trans (z4g (h t ht)) (by omega)
end
section
open Go.RowKit
theorem zwd {S:Nat → Prop} (vd:Value) (x:Int) (w:World) (hd:Digs S w vd (rep 10 x.natAbs)) :
  Calls Tryz.prog 67 #[.agg #[.bool (decide (x < 0)),vd]] w fun e w' => e = .returned (.agg #[.bool (decide (-x < 0)),vd]) ∧ Ext w w':=by
 obtain ⟨a,c,rfl⟩:=hd.form
 have hlen:=z5y x.natAbs
 obtain ⟨n,hn⟩:∃ n,n = (rep 10 x.natAbs).length:=⟨_,rfl⟩
 rw [← hn] at hlen ⊢
 have hl:=hd.len_le
 rw [← hn] at hl
 have hpos:decide (0 < n) = decide (x ≠ 0):=by rw [hlen,decide_eq_decide]; omega
 have HPOS:=hid hpos
 clear hd hn hlen hpos
 rcases (show x < 0 ∨ x = 0 ∨ 0 < x by omega) with hx | hx | hx
 ·have e1:decide (x < 0) = true:=decide_eq_true hx
  have E2:Hid (decide (-x < 0) = false):=hid (decide_eq_false (by omega))
  rw [e1]
  clear hx e1 hl
  go_enter Tryz.func67,Tryz.ntmps67
  go_wp2
  all_goals
   refine bodyPost_ret (by simp [results,Tryz.results67,go_sem]; rfl) rfl ?_
   exact ⟨by rw [E2.out],Ext.alloc (Ext.alloc (Ext.refl w) _) _⟩
 ·subst hx
  have hn0:n = 0:=by have:=HPOS.out; simpa using this
  subst hn0
  have e1:decide ((0:Int) < 0) = false:=by decide
  have E2:Hid (decide (-(0:Int) < 0) = false):=hid (by decide)
  rw [e1]
  clear e1 hl
  go_enter Tryz.func67,Tryz.ntmps67
  go_wp2
  all_goals
   refine bodyPost_ret (by simp [results,Tryz.results67,go_sem]; rfl) rfl ?_
   exact ⟨by rw [E2.out],Ext.alloc (Ext.alloc (Ext.refl w) _) _⟩
 ·have e1:decide (x < 0) = false:=decide_eq_false (by omega)
  have E2:Hid (decide (-x < 0) = true):=hid (decide_eq_true (by omega))
  have hn0:0 < n:=by
   have:=HPOS.out
   rw [decide_eq_decide] at this
   exact this.2 (by omega)
  rw [e1]
  clear hx e1
  go_enter Tryz.func67,Tryz.ntmps67
  go_wp2
  all_goals
   refine bodyPost_ret (by simp [results,Tryz.results67,go_sem]; rfl) rfl ?_
   exact ⟨by rw [E2.out],Ext.alloc (Ext.alloc (Ext.refl w) _) _⟩
def negP (p:PZ):PZ:=p.map fun t => (-t.1,t.2)
theorem zwe {p:PZ} {k:Nat} {t:Int × Mono} (h:p[k]? = some t):negP (p.take (k + 1)) = negP (p.take k) ++ [(-t.1,t.2)]:=by
 rw [List.take_add_one,h]
 unfold negP
 rw [List.map_append]
 rfl
theorem z3u (p:PZ):(negP p).length = p.length:=by unfold negP; rw [List.length_map]
theorem zsg {p:PZ} (h:z0k p):z0k (negP p):=fun t ht => by
 obtain ⟨u,hu,rfl⟩:=List.mem_map.1 ht
 exact h u hu
theorem zwf {x:Int} (h:szZ x):szZ (-x):=by unfold szZ; rw [Int.natAbs_neg]; exact h
theorem zwg {p:PZ} (h:szP p):szP (negP p):=⟨by rw [z3u]; exact h.1,fun t ht => by
 obtain ⟨u,hu,rfl⟩:=List.mem_map.1 ht
 exact zwf (h.2 u hu)⟩
theorem zoe {S:Nat → Prop} (v:Value) (p:PZ) (w:World) (h:RTs S w v p) (hS:∀ k,S k → k < w.heap.size) (hsz:szP p) :
  Calls Tryz.prog 32 #[v] w fun e w' => ∃ v',e = .returned v' ∧ RTs (Plus S w w') w' v' (negP p) ∧ Ext w w':=by
 obtain ⟨j0,hj,jz0,jz1,jz2⟩:=info_parts Tryz.infoT
 have hl:=h.len_le
 have H:=hid h
 have HSZ:=hid hsz
 obtain ⟨a,cap,rfl⟩:=h.form
 clear h hsz
 go_enter Tryz.func32,Tryz.ntmps32
 go_wp2
 go_loopw [3,4] (fun o i wr => ∃ k xs,k ≤ p.length ∧ i = .int .i64 (k:Nat) ∧ Ext w wr ∧ Hid (wr.ownsRow w.heap.size 105 3 o k xs) ∧ Hid (z1p S w xs (negP (p.take k)))) (fun _ i _ => p.length - (intOf i).toNat)
 case atStart => exact ⟨0,[],Nat.zero_le _,rfl,Ext.refl _,hid (World.ownsRow_nil _ _ _ _),hid rfl⟩
 case round =>
  obtain ⟨k,xs,hk,rfl,hx,HW,HXS⟩:=hrel
  have HX:=hid hx
  by_cases hlt:k < p.length
  ·obtain ⟨t,ht⟩:=z01 hlt
   obtain ⟨b,off,vd,vo,rfl,-,hn1,hm1,hSb,h1,h2,h3,h4,h5⟩:=H.out.cellAt ht
   have HT:=hid (zwe ht)
   have H4:=hid h4
   have H5:=hid h5
   obtain ⟨ad,cd,rfl⟩:=h4.form
   obtain ⟨ao,co,rfl⟩:=h5.form
   have x0:Ext w wr.drew:=hx.drew
   have HX0:=hid x0
   have h0:_ ∧ _ ∧ _:=And.intro h1 (And.intro h2 h3)
   have c1:=fun (W:World) (hW:Ext w W) => zwd (S:=S) (.slice ad (rep 10 t.1.natAbs).length cd) t.1 W (H4.out.ext hW hS)
   obtain ⟨bt,hbt⟩:∃ b,b = decide (t.1 < 0):=⟨_,rfl⟩
   obtain ⟨bn,hbn⟩:∃ b,b = decide (-t.1 < 0):=⟨_,rfl⟩
   obtain ⟨nt,hnt⟩:∃ n,n = (rep 10 t.1.natAbs).length:=⟨_,rfl⟩
   obtain ⟨nm,hnm⟩:∃ n,n = t.2.length:=⟨_,rfl⟩
   have HBN:=hid hbn
   rw [← hbt,← hnt,← hnm] at h0
   rw [← hbt,← hnt,← hbn] at c1
   rw [← hnm] at H5
   rw [← hnt] at H4
   have S0:_ ∧ _ ∧ _:=And.intro (x0.cell h0.1) (And.intro (x0.cell h0.2.1) (x0.cell h0.2.2))
   have C1:=hid (c1 wr.drew x0)
   have HB3:Hid (k + 1 ≤ maxLen):=hid (by have:=HSZ.out.1; unfold maxLen; omega)
   have HB4:Hid ((k + 1) * 56 ≤ 140737488355328):=hid (by have:=HSZ.out.1; omega)
   have HWR:=hid (z0z HW.out ((Ext.refl wr).drew))
   have HC0:=hid h0
   clear ht h0 h1 h2 h3 h4 h5 hx x0 c1 hbt hnt hnm hbn
   go_wp2
   go_region_held3 (fun W => W.cell? ⟨b,off + k * 3,none⟩ = some (.bool bt) ∧ W.cell? ⟨b,off + k * 3 + 1,none⟩ = some (.slice ad nt cd) ∧ W.cell? ⟨b,off + k * 3 + 2,none⟩ = some (.slice ao nm co)) (first | exact S0 | exact S1 | exact ⟨cell_old _ S1.1,cell_old _ S1.2.1,cell_old _ S1.2.2⟩ | exact S5)
    (first
     | (go_at_call 67; (with_reducible refine C1.out.mono ?_); rintro e w1 ⟨rfl,hx1⟩; have HX1:=hid (HX0.out.trans hx1); have S1:_ ∧ _ ∧ _:=And.intro (hx1.cell S0.1) (And.intro (hx1.cell S0.2.1) (hx1.cell S0.2.2)); have HW3:=hid (z0z (z0z HWR.out hx1) (Ext.alloc (Ext.refl w1) (.cells #[.bool bn,.slice ad nt cd,.slice ao nm co] 105))); have HSRC3:=hid (zbn w1 #[.bool bn,.slice ad nt cd,.slice ao nm co] 105 (z2f rfl rfl rfl) (size:=3) rfl); have HB5:=hid (HX1.out.alloc (.cells #[.bool bn,.slice ad nt cd,.slice ao nm co] 105)).size; clear hx1)
     | (refine z2g rfl (.tmp 11) (.tmp 24) 54 rfl w.heap.size 105 j0 (.agg #[.bool false,.slice none 0 0,.slice none 0 0]) 3 56 Tryz.underlying54 hj jz0 jz1 jz2 rfl (Nat.succ_pos _) _ k xs rfl HW3.out (some ⟨w1.heap.size,0,none⟩) 1 1 _ rfl HSRC3.out HB3.out HB4.out HB5.out ?_; intro v5 w5 hown hg hbk; have HW5:=hid hown; have HX5:=hid (z2r (HX1.out.alloc (.cells #[.bool bn,.slice ad nt cd,.slice ao nm co] 105)) HW3.out hg); have S5:_ ∧ _ ∧ _:=And.intro (HX5.out.cell HC0.out.1) (And.intro (HX5.out.cell HC0.out.2.1) (HX5.out.cell HC0.out.2.2)); clear hown hg hbk))
   all_goals
    go_wp2
    go_roundw
    case rel =>
     refine ⟨k + 1,xs ++ (#[.bool bn,.slice ad nt cd,.slice ao nm co]:Array Value).toList,by omega,by go_num,HX5.out,HW5,hid ?_⟩
     rw [HT.out]
     have hone:z1p S w (#[.bool bn,.slice ad nt cd,.slice ao nm co]:Array Value).toList [(-t.1,t.2)]:=by
      rw [HBN.out]
      exact z1p.single (t:=(-t.1,t.2)) (by rw [Int.natAbs_neg]; exact H4.out) H5.out
     exact HXS.out.append hone
    case measure => simp only [intOf]; omega
  ·obtain rfl:k = p.length:=by omega
   have HE:Hid (p.take p.length = p):=hid List.take_length
   clear hx
   go_wp2
   all_goals
    go_ret
    refine ⟨_,rfl,?_,HX.out⟩
    have hc:=HXS.out
    rw [HE.out] at hc
    exact znm (by rw [z3u]; exact HW.out) (hc.to (Kept.ext HX.out hS) (fun _ h => .inl h)) (fun k h1 h2 => .inr ⟨h1,h2⟩)
theorem zg9 {S:Nat → Prop} (vp vq:Value) (p q:PZ) (w:World) (hS:∀ k,S k → k < w.heap.size) (hp:RTs S w vp p) (hq:RTs S w vq q) (hmp:z0k p) (hmq:z0k q) (hszq:szP q) (hsz:∀ k,k ≤ q.length → szP (addP p ((negP q).take k))) :
  Calls Tryz.prog 12 #[vp,vq] w fun e w' => ∃ v',e = .returned v' ∧ RTs (Plus S w w') w' v' (addP p (negP q)) ∧ Ext w w':=by
 have C1:=hid (zoe vq q w hq hS hszq)
 have C2:=hid (fun (v1:Value) (w1:World) (hx1:Ext w w1) (h1:RTs (Plus S w w1) w1 v1 (negP q)) => zo6 (S:=Plus S w w1) vp v1 p (negP q) w1 (z2s hS hx1) ((hp.ext hx1 hS).to (Kept.refl _ _) (fun _ h => .inl h)) h1 hmp (zsg hmq) (zwg hszq) (fun k hk => hsz k (by rw [z3u] at hk; exact hk)))
 clear hp hq hmp hmq hszq hsz
 go_enter Tryz.func12,Tryz.ntmps12
 go_wp2_with fail
 refine C1.out.mono ?_
 rintro e w1 ⟨v1,rfl,hp1,hx1⟩
 have HX1:=hid hx1
 have HP1:=hid hp1
 have C3:=hid (C2.out v1 w1 hx1 hp1)
 clear hx1 hp1 C2
 go_wp2_with fail
 refine C3.out.mono ?_
 rintro e w2 ⟨v2,rfl,hp2,hx2⟩
 have HX2:=hid (HX1.out.trans hx2)
 have HP2:=hid (hp2.to (Kept.refl _ _) (zbl HX1.out hx2))
 clear hx2 hp2
 go_wp2
 all_goals
  go_ret
  exact ⟨_,rfl,HP2.out,HX2.out⟩
end
section
theorem z27 (m:Mono) (v u:Int):ex (z0r m v) u = if u = v then 0 else ex m u:=by
 unfold z0r
 induction m with
 | nil => simp [ex]
 | cons x r ih =>
  by_cases hx:x.1 = v
  ·rw [List.filter_cons_of_neg (by simpa using hx),ih]
   by_cases hu:u = v
   ·rw [if_pos hu,if_pos hu]
   ·rw [if_neg hu,if_neg hu,ex,if_neg (by omega)]
  ·rw [List.filter_cons_of_pos (by simpa using hx)]
   simp only [ex,ih]
   by_cases hu:u = v
   ·subst hu; simp [hx]
   ·simp [hu]
theorem z84 {l k:Int} {m:Mono} (h:z0a l m = true) (hk:k ≤ l):z0a k m = true:=by
 cases m with
 | nil => rfl
 | cons x r =>
  simp only [z0a,Bool.and_eq_true,decide_eq_true_eq] at h ⊢
  exact ⟨by omega,h.2⟩
theorem zbt {l:Int} {m:Mono} (h:z0a l m = true) (v:Int):z0a l (z0r m v) = true:=by
 unfold z0r
 induction m generalizing l with
 | nil => rfl
 | cons x r ih =>
  simp only [z0a,Bool.and_eq_true,decide_eq_true_eq] at h
  by_cases hx:x.1 = v
  ·rw [List.filter_cons_of_neg (by simpa using hx)]
   exact z84 (ih h.2) (by omega)
  ·rw [List.filter_cons_of_pos (by simpa using hx)]
   simp only [z0a,Bool.and_eq_true,decide_eq_true_eq]
   exact ⟨by omega,ih h.2⟩
theorem z2z {m:Mono} (h:mayM m = true) (v:Int):mayM (z0r m v) = true:=zbt h v
theorem z52 {m:Mono} (h:mayM m = true) (v:Int):0 ≤ ex m v:=(z2t h v).1
theorem zga {a b:Mono} (ha:mayM a = true) (hb:mayM b = true) (h:∀ v,ex a v = ex b v):a = b:=zb1 ha hb h
theorem zsh {f g:Int → Int} {n:Nat}:cmpE f g n = 1 ↔ ∃ k:Nat,1 ≤ k ∧ k ≤ n ∧ g (k:Nat) < f (k:Nat) ∧ ∀ j:Nat,k < j → j ≤ n → f (j:Nat) = g (j:Nat):=by
 induction n with
 | zero =>
  simp only [cmpE]
  constructor
  ·intro h; omega
  ·rintro ⟨k,h1,h2,-⟩; omega
 | succ n ih =>
  simp only [cmpE]
  by_cases h:f ((n + 1:Nat):Int) = g ((n + 1:Nat):Int)
  ·rw [if_pos h,ih]
   constructor
   ·rintro ⟨k,h1,h2,h3,h4⟩
    refine ⟨k,h1,by omega,h3,fun j h5 h6 => ?_⟩
    by_cases hj:j = n + 1
    ·subst hj; exact h
    ·exact h4 j h5 (by omega)
   ·rintro ⟨k,h1,h2,h3,h4⟩
    by_cases hk:k = n + 1
    ·subst hk; omega
    ·exact ⟨k,h1,by omega,h3,fun j h5 h6 => h4 j h5 (by omega)⟩
  ·rw [if_neg h,z3y]
   constructor
   ·intro h1
    exact ⟨n + 1,by omega,Nat.le_refl _,h1,fun j h5 h6 => by omega⟩
   ·rintro ⟨k,h1,h2,h3,h4⟩
    by_cases hk:k = n + 1
    ·subst hk; exact h3
    ·exact absurd (h4 (n + 1) (by omega) (Nat.le_refl _)) h
theorem z48 {a b:Mono} (ha:mayM a = true) (hb:mayM b = true):z0e a b = 1 ↔ ∃ u:Int,ex b u < ex a u ∧ ∀ j,u < j → ex a j = ex b j:=by
 rw [z2a ha hb,zsh]
 constructor
 ·rintro ⟨k,h1,h2,h3,h4⟩
  refine ⟨(k:Int),h3,fun j hj => ?_⟩
  by_cases h200:200 < j
  ·rw [z59 ha h200,z59 hb h200]
  ·have:=h4 j.toNat (by omega) (by omega)
   rwa [Int.toNat_of_nonneg (by omega)] at this
 ·rintro ⟨u,h1,h2⟩
  have hu1:¬ u ≤ 0:=fun h => by rw [z0v ha h,z0v hb h] at h1; omega
  have hu2:¬ 200 < u:=fun h => by rw [z59 ha h,z59 hb h] at h1; omega
  refine ⟨u.toNat,by omega,by omega,?_,fun j h5 h6 => h2 _ (by omega)⟩
  rw [Int.toNat_of_nonneg (by omega)]
  exact h1
theorem zcv {p:PZ} (h:canP p) (f:Int × Mono → Option (Int × Mono)) (h1:∀ t ∈ p,∀ u,f t = some u → u.1 ≠ 0 ∧ mayM u.2 = true)
  (h2:∀ t ∈ p,∀ t' ∈ p,z0e t.2 t'.2 = 1 → ∀ u,f t = some u → ∀ u',f t' = some u' → z0e u.2 u'.2 = 1):canP (p.filterMap f):=by
 refine ⟨fun u hu => ?_,?_⟩
 ·obtain ⟨t,ht,e⟩:=List.mem_filterMap.1 hu
  exact h1 t ht u e
 ·have h3:p.Pairwise (fun a b => a ∈ p ∧ b ∈ p ∧ z0e a.2 b.2 = 1):=by
   refine List.Pairwise.imp_of_mem ?_ h.2
   intro a b ha hb hc
   exact ⟨ha,hb,hc⟩
  exact h3.filterMap f (fun a a' g b hb b' hb' => h2 a g.1 a' g.2.1 g.2.2 b hb b' hb')
theorem zgb {a b:Mono} (ha:mayM a = true) (hb:mayM b = true) {v:Int} (he:ex a v = ex b v) (h:z0e a b = 1):z0e (z0r a v) (z0r b v) = 1:=by
 obtain ⟨u,h1,h2⟩:=(z48 ha hb).1 h
 refine (z48 (z2z ha v) (z2z hb v)).2 ⟨u,?_,fun j hj => ?_⟩
 ·rw [z27,z27]
  by_cases hu:u = v
  ·subst hu; omega
  ·rw [if_neg hu,if_neg hu]; exact h1
 ·rw [z27,z27,h2 j hj]
def zbu (v e:Int) (t:Int × Mono):Option (Int × Mono):=if ex t.2 v = e then some (t.1,z0r t.2 v) else none
def z3b (p:PZ) (v e:Int):PZ:=p.filterMap (zbu v e)
def z1w (p:PZ):PZ:=if z0t p = 0 then p else z3b p (z0t p) (degP p (z0t p))
theorem z2h {p:PZ} (h:canP p) (v e:Int):canP (z3b p v e):=by
 refine zcv h _ (fun t ht u hu => ?_) (fun t ht t' ht' hc u hu u' hu' => ?_)
 ·unfold zbu at hu
  split at hu
  ·cases hu; exact ⟨(h.1 t ht).1,z2z (h.1 t ht).2 v⟩
  ·cases hu
 ·unfold zbu at hu hu'
  split at hu
  ·split at hu'
   ·rename_i e1 e2
    cases hu; cases hu'
    exact zgb (h.1 t ht).2 (h.1 t' ht').2 (by omega) hc
   ·cases hu'
  ·cases hu
theorem zof {p:PZ} (h:canP p):canP (z1w p):=by
 unfold z1w
 split
 ·exact h
 ·exact z2h h _ _
theorem zbv {p:PZ} {v d:Int} (hd:0 ≤ d) (h:∀ t ∈ p,ex t.2 v ≤ d):degP p v ≤ d:=za0 _ _ _ _ hd h
theorem zog {p:PZ} {v d:Int} (hd:0 < d) (h:∀ t ∈ p,ex t.2 v < d):degP p v < d:=by
 have:=zbv (p:=p) (v:=v) (d:=d - 1) (by omega) (fun t ht => by have:=h t ht; omega)
 omega
theorem zgc {p:PZ} {v:Int} (h:∀ t ∈ p,ex t.2 v = 0):degP p v = 0:=Int.le_antisymm (zbv (Int.le_refl _) (fun t ht => by rw [h t ht]; exact Int.le_refl _)) (z6s _ _ _)
theorem zsi {p:PZ} {v:Int} (h:0 < degP p v):∃ t ∈ p,ex t.2 v = degP p v:=by
 by_cases hx:∃ t ∈ p,ex t.2 v = degP p v
 ·exact hx
 ·have:degP p v < degP p v:=zog h (fun t ht => by
   have h1:=z1u ht v
   rcases Int.lt_or_le (ex t.2 v) (degP p v) with g | g
   ·exact g
   ·exact absurd ⟨t,ht,Int.le_antisymm h1 g⟩ hx)
  omega
theorem za7 {p:PZ} (h:canP p) (hl:0 < z0t p):0 < degP p (z0t p):=by
 cases p with
 | nil => simp [z0t] at hl
 | cons t r =>
  have hl':0 < z1j t.2:=hl
  have h1:t.2 ≠ []:=fun e => by rw [e] at hl'; simp [z1j] at hl'
  have h2:=(z5b (h.1 t (by simp)).2 h1).2.2
  have h3:=z1u (p:=t :: r) (t:=t) (by simp) (z1j t.2)
  show 0 < degP (t :: r) (z1j t.2)
  omega
theorem z8w {p:PZ} {v e:Int} {u:Int × Mono} (h:u ∈ z3b p v e):∃ t ∈ p,ex t.2 v = e ∧ u = (t.1,z0r t.2 v):=by
 obtain ⟨t,ht,e1⟩:=List.mem_filterMap.1 h
 unfold zbu at e1
 split at e1
 ·rename_i h1
  cases e1; exact ⟨t,ht,h1,rfl⟩
 ·cases e1
theorem z8x {p:PZ} {v e:Int} {u:Int × Mono} (h:u ∈ z3b p v e):ex u.2 v = 0:=by
 obtain ⟨t,-,-,rfl⟩:=z8w h
 rw [z27,if_pos rfl]
end
section
def lk:List (Int × Int × Int) → Int → Int × Int
 | [],_ => (0,0)
 | t :: r,v => if t.1 = v then t.2 else lk r v
def ris (last:Int):List (Int × Int × Int) → Prop
 | [] => True
 | t :: r => last < t.1 ∧ t.1 ≤ 200 ∧ ris t.1 r
theorem zyc {last:Int} {l:List (Int × Int × Int)} (h:ris last l) {u:Int} (hu:u ≤ last):lk l u = (0,0):=by
 induction l generalizing last with
 | nil => rfl
 | cons t r ih =>
  obtain ⟨h1,h2,h3⟩:=h
  rw [lk,if_neg (by omega)]
  exact ih h3 (by omega)
theorem zed {last:Int} {a b:Mono} (ha:z0a last a = true) (hb:z0a last b = true):ris last (both a b) ∧ ∀ u,lk (both a b) u = (ex a u,ex b u):=by
 generalize hn:a.length + b.length = n
 induction n using Nat.strongRecOn generalizing a b last with
 | ind n ih =>
 cases a with
 | nil =>
  cases b with
  | nil => rw [z8m]; exact ⟨trivial,fun u => rfl⟩
  | cons y b =>
   have hB:=hb
   simp only [z0a,Bool.and_eq_true,decide_eq_true_eq] at hb
   simp only [List.length_cons,List.length_nil] at hn
   obtain ⟨h1,h2⟩:=ih (0 + b.length) (by omega) (a:=[]) (b:=b) (last:=y.1) rfl hb.2 (by simp)
   rw [z79]
   refine ⟨⟨hb.1.1,hb.1.2.1,h1⟩,fun u => ?_⟩
   rw [lk,h2,ex]
   simp only [ex]
   split <;> rfl
 | cons x a =>
  cases b with
  | nil =>
   have hA:=ha
   simp only [z0a,Bool.and_eq_true,decide_eq_true_eq] at ha
   simp only [List.length_cons,List.length_nil] at hn
   obtain ⟨h1,h2⟩:=ih (a.length + 0) (by omega) (a:=a) (b:=[]) (last:=x.1) ha.2 rfl (by simp)
   rw [z8n]
   refine ⟨⟨ha.1.1,ha.1.2.1,h1⟩,fun u => ?_⟩
   rw [lk,h2]
   simp only [ex]
   split <;> rfl
  | cons y b =>
   have hA:=ha
   have hB:=hb
   simp only [z0a,Bool.and_eq_true,decide_eq_true_eq] at ha hb
   simp only [List.length_cons] at hn
   rw [z8o]
   split
   ·rename_i hlt
    have hb':z0a x.1 (y :: b) = true:=by simp only [z0a,Bool.and_eq_true,decide_eq_true_eq]; exact ⟨⟨hlt,hb.1.2⟩,hb.2⟩
    obtain ⟨h1,h2⟩:=ih (a.length + (b.length + 1)) (by omega) (a:=a) (b:=y :: b) (last:=x.1) ha.2 hb' (by simp)
    refine ⟨⟨ha.1.1,ha.1.2.1,h1⟩,fun u => ?_⟩
    rw [lk,h2]
    by_cases hu:x.1 = u
    ·rw [if_pos hu,← hu,z0v hb' (Int.le_refl _),ex,if_pos rfl]
    ·rw [if_neg hu]; conv => rhs; rw [ex,if_neg hu]
   ·split
    ·rename_i hnlt hlt
     have ha':z0a y.1 (x :: a) = true:=by simp only [z0a,Bool.and_eq_true,decide_eq_true_eq]; exact ⟨⟨hlt,ha.1.2⟩,ha.2⟩
     obtain ⟨h1,h2⟩:=ih (a.length + 1 + b.length) (by omega) (a:=x :: a) (b:=b) (last:=y.1) ha' hb.2 (by simp)
     refine ⟨⟨hb.1.1,hb.1.2.1,h1⟩,fun u => ?_⟩
     rw [lk,h2]
     by_cases hu:y.1 = u
     ·rw [if_pos hu,← hu,z0v ha' (Int.le_refl _),ex,if_pos rfl]
     ·rw [if_neg hu,show ex (y :: b) u = ex b u by rw [ex,if_neg hu]]
    ·rename_i h3 h4
     have hxy:x.1 = y.1:=by omega
     rw [← hxy] at hb
     obtain ⟨h1,h2⟩:=ih (a.length + b.length) (by omega) (a:=a) (b:=b) (last:=x.1) ha.2 hb.2 (by simp)
     refine ⟨⟨ha.1.1,ha.1.2.1,h1⟩,fun u => ?_⟩
     rw [lk,h2]
     by_cases hu:x.1 = u
     ·rw [if_pos hu,ex,if_pos hu,ex,if_pos (by omega)]
     ·rw [if_neg hu,show ex (y :: b) u = ex b u by rw [ex,if_neg (by omega)],show ex (x :: a) u = ex a u by rw [ex,if_neg hu]]
theorem zj7 {f:Int → Int → Int} (h0:f 0 0 ≤ 0) {last:Int} {l:List (Int × Int × Int)} (h:ris last l) (u:Int):ex (z43 f l) u = if 0 < f (lk l u).1 (lk l u).2 then f (lk l u).1 (lk l u).2 else 0:=by
 induction l generalizing last with
 | nil =>
  rw [z43,ex,lk,if_neg (show ¬ 0 < f 0 0 by omega)]
 | cons t r ih =>
  obtain ⟨h1,h2,h3⟩:=h
  rw [z43,lk]
  by_cases hu:t.1 = u
  ·rw [if_pos hu]
   by_cases hf:0 < f t.2.1 t.2.2
   ·rw [if_pos hf,if_pos hf,ex,if_pos hu]
   ·rw [if_neg hf,if_neg hf,ih h3,zyc h3 (by omega),if_neg (show ¬ 0 < f 0 0 by omega)]
  ·rw [if_neg hu]
   by_cases hf:0 < f t.2.1 t.2.2
   ·rw [if_pos hf,ex,if_neg hu,ih h3]
   ·rw [if_neg hf,ih h3]
theorem zoh {f:Int → Int → Int} {last:Int} {l:List (Int × Int × Int)} (h:ris last l) (hf:∀ t ∈ l,f t.2.1 t.2.2 ≤ 10000):z0a last (z43 f l) = true:=by
 induction l generalizing last with
 | nil => rfl
 | cons t r ih =>
  obtain ⟨h1,h2,h3⟩:=h
  have hr:=ih h3 (fun u hu => hf u (by simp [hu]))
  rw [z43]
  split
  ·rename_i h4
   have:=hf t (by simp)
   simp only [z0a,Bool.and_eq_true,decide_eq_true_eq]
   exact ⟨by omega,hr⟩
  ·exact z84 hr (by omega)
theorem zoi {last:Int} {l:List (Int × Int × Int)} (h:ris last l) {t:Int × Int × Int} (ht:t ∈ l):lk l t.1 = t.2:=by
 induction l generalizing last with
 | nil => simp at ht
 | cons x r ih =>
  obtain ⟨h1,h2,h3⟩:=h
  rw [lk]
  rcases List.mem_cons.1 ht with rfl | ht
  ·rw [if_pos rfl]
  ·by_cases e:x.1 = t.1
   ·exfalso
    have:∀ (l:List (Int × Int × Int)) (k:Int),ris k l → ∀ t ∈ l,k < t.1:=by
     intro l
     induction l with
     | nil => intro k _ t ht; simp at ht
     | cons y s ih =>
      intro k hk t ht
      obtain ⟨g1,g2,g3⟩:=hk
      rcases List.mem_cons.1 ht with rfl | ht
      ·exact g1
      ·have:=ih _ g3 t ht; omega
    have:=this r x.1 h3 t ht
    omega
   ·rw [if_neg e]; exact ih h3 ht
theorem zwh {f:Int → Int → Int} (h0:f 0 0 ≤ 0) {a b:Mono} (ha:mayM a = true) (hb:mayM b = true) (u:Int):ex (z43 f (both a b)) u = if 0 < f (ex a u) (ex b u) then f (ex a u) (ex b u) else 0:=by
 obtain ⟨h1,h2⟩:=zed ha hb
 rw [zj7 h0 h1,h2]
theorem zsj {f:Int → Int → Int} {a b:Mono} (ha:mayM a = true) (hb:mayM b = true) (hf:∀ u,f (ex a u) (ex b u) ≤ 10000):mayM (z43 f (both a b)) = true:=by
 obtain ⟨h1,h2⟩:=zed ha hb
 refine zoh h1 (fun t ht => ?_)
 have:=zoi h1 ht
 rw [h2] at this
 have h3:=hf t.1
 rw [← this]
 exact h3
theorem z2k {a b:Mono} (ha:mayM a = true) (hb:mayM b = true) (u:Int):ex (z0m a b) u = ex a u + ex b u:=by
 unfold z0m
 rw [zwh (by simp) ha hb]
 have h1:=z52 ha u
 have h2:=z52 hb u
 split <;> omega
theorem z8y {a b:Mono} (ha:mayM a = true) (hb:mayM b = true):mayM (z0m a b) = true ↔ ∀ u,ex a u + ex b u ≤ 10000:=by
 constructor
 ·intro h u
  rw [← z2k ha hb]
  exact (z2t h u).2
 ·intro h
  exact zsj ha hb h
theorem zoj {v e:Int} (hv:1 ≤ v ∧ v ≤ 200) (he:1 ≤ e ∧ e ≤ 10000):mayM [(v,e)] = true:=by
 unfold mayM z0a
 simp only [z0a,Bool.and_true,decide_eq_true_eq]
 omega
theorem zgd (v e u:Int):ex [(v,e)] u = if v = u then e else 0:=by simp [ex]
end
section
theorem zsk {m:Mono} {v:Int} (h:∀ x ∈ m,x.1 < v) (e u:Int):ex (m ++ [(v,e)]) u = if u = v then e else ex m u:=by
 induction m with
 | nil =>
  simp only [List.nil_append,ex]
  by_cases hu:v = u
  ·rw [if_pos hu,if_pos hu.symm]
  ·rw [if_neg hu,if_neg (fun k => hu k.symm)]
 | cons x r ih =>
  have h1:=h x (by simp)
  simp only [List.cons_append,ex,ih (fun y hy => h y (by simp [hy]))]
  by_cases hx:x.1 = u
  ·rw [if_pos hx,if_pos hx,if_neg (by omega)]
  ·rw [if_neg hx,if_neg hx]
theorem zyd (f:Nat → Int) (n:Nat) (u:Nat) (h0:∀ j,0 ≤ f j):ex (ofE f n) (u:Int) = if 1 ≤ u ∧ u ≤ n then f u else 0:=by
 induction n with
 | zero =>
  simp only [ofE,ex]
  rw [if_neg (by omega)]
 | succ n ih =>
  simp only [ofE]
  by_cases hf:0 < f (n + 1)
  ·rw [if_pos hf,zsk (fun x hx => by have:=zj4 f n x hx; omega),ih]
   by_cases hu:u = n + 1
   ·subst hu
    rw [if_pos rfl,if_pos (by omega)]
   ·rw [if_neg (by omega)]
    by_cases h1:1 ≤ u ∧ u ≤ n
    ·rw [if_pos h1,if_pos (by omega)]
    ·rw [if_neg h1,if_neg (by omega)]
  ·rw [if_neg hf,ih]
   have:=h0 (n + 1)
   by_cases hu:u = n + 1
   ·subst hu
    rw [if_neg (by omega),if_pos (by omega)]
    omega
   ·by_cases h1:1 ≤ u ∧ u ≤ n
    ·rw [if_pos h1,if_pos (by omega)]
    ·rw [if_neg h1,if_neg (by omega)]
theorem zge {a b:Mono} (ha:mayM a = true) (hb:mayM b = true):z4z a b = if mayM (z0m a b) = true then some (z0m a b) else none:=by
 unfold z4z
 have h0:∀ j,0 ≤ sumF a b j:=fun j => by
  have h1:=z52 ha (j:Int)
  have h2:=z52 hb (j:Int)
  unfold sumF
  omega
 cases hov:z68 (sumF a b) 200 with
 | true =>
  rw [if_pos rfl,if_neg]
  intro hm
  have h1:=(z8y ha hb).1 hm
  have h2:∀ n,z68 (sumF a b) n = false:=fun n => by
   induction n with
   | zero => rfl
   | succ n ih =>
    simp only [z68,ih,Bool.false_or,decide_eq_false_iff_not]
    have:=h1 ((n + 1:Nat):Int)
    unfold sumF
    omega
  rw [h2] at hov
  cases hov
 | false =>
  have h1:=zg6 hov
  have hm:mayM (z0m a b) = true:=(z8y ha hb).2 (fun u => by
   by_cases h2:u < 1
   ·rw [z0v ha (by omega),z0v hb (by omega)]; omega
   ·by_cases h3:200 < u
    ·rw [z59 ha h3,z59 hb h3]; omega
    ·have:=h1 u.toNat (by omega) (by omega)
     unfold sumF at this
     rwa [Int.toNat_of_nonneg (by omega)] at this)
  rw [if_neg (by simp),if_pos hm]
  refine congrArg some ?_
  refine zin (zob (Nat.le_refl _) (fun j h2 h3 => h1 j h2 h3)) hm (fun k h2 h3 => ?_)
  rw [zyd _ _ _ h0,if_pos ⟨h2,h3⟩,z2k ha hb]
  rfl
theorem zj8 {t u:Int × Mono} (ht:mayM t.2 = true) (hu:mayM u.2 = true) (h:mayM (z0m t.2 u.2) = true):z9o t u = some (t.1 * u.1,z0m t.2 u.2):=by
 unfold z9o
 rw [zge ht hu,if_pos h]
 rfl
theorem zok {t u:Int × Mono} (ht:mayM t.2 = true) (hu:mayM u.2 = true) (h:mayM (z0m t.2 u.2) = false):z9o t u = none:=by
 unfold z9o
 rw [zge ht hu,if_neg (by rw [h]; exact Bool.false_ne_true)]
 rfl
end
section
open Go.RowKit
end
section
open Go.RowKit
section
variable {P:Program}
end
end
end Go.Proofs.YtdcijfhkfhhfjaaGreat
