/- The difference of two numbers. Whole numbers as the program has them: made canonical, may they be, their sign. The bits of a number that fits 32: 0 for 0 alone. The sign of a whole number. The sum of two whole numbers. A region that draws its order, whose callees only make memory and hand back plain values: walked once, in the order of the text. Which polynomials may be. How many limbs the longest coefficient has: the program's and the document's answer. The meter's methods: each answers an error's number, or a count, and changes its own block alone. The meter's Keep and New, and its methods on a meter that is not there. The document's meter: its methods over its block of eight numbers. A meter that is not there: each of its methods answers that nothing is bound. An array of all variables' exponents, by value and in memory. The document's monomials: which may be, their exponents. The document's monomials: the array of all exponents. The document's monomials: order, class, degree. What is appended: any source, nil, empty or not. The document's monomials: class, degree, out of exponents. The document's product of monomials. Decimal digits in memory, as the document's numbers have them. -/
import Derived.BigQuiet
import Derived.Deep.RegionHeld3
import Derived.Deep.DrawnRows
import Derived.StillTailTactics
import Derived.Deep.QuietTactic
import Derived.Deep.WholeRow
import Derived.Deep.MidRow
import Derived.Deep.OwnRows
import Derived.ChangeKeysEq
import Derived.WalkSpells
import Derived.Laws.AppendOwn
import Derived.Maps.AppendAt
import Derived.Test.YtdcijfhkfhhfjaaGreatPt1
set_option maxRecDepth 100000
set_option maxHeartbeats 16000000
namespace Go.Proofs.YtdcijfhkfhhfjaaGreat
section
open Go.RowKit
theorem zke {S:Nat → Prop} (va vb:Value) (xs ys:List Nat) (w:World) (ha:U32s S w va xs) (hb:U32s S w vb ys) (hS:∀ k,S k → k < w.heap.size) (hlt:val B32 xs < val B32 ys) :
  Calls Tryz.prog 100 #[va,vb] w fun e w' => e = .returned (.tuple #[.slice none 0 0,.int .i64 2]) ∧ Ext w w':=by
 have HA:=hid ha
 have HB:=hid hb
 obtain ⟨aa,ca,rfl⟩:=ha.form
 obtain ⟨ab,cb,rfl⟩:=hb.form
 have hc:cmpN (val B32 xs) (val B32 ys) = -1:=by unfold cmpN; rw [z2w]; omega
 have hm:=zb4 _ _ xs ys w HA.out HB.out hS
 rw [hc] at hm
 have HM:=hid hm
 clear ha hb hc hm hlt
 go_enter Tryz.func100,Tryz.ntmps100
 go_wp2_with fail
 refine HM.out.mono ?_
 rintro e w1 ⟨rfl,hx1⟩
 have HX:=hid hx1
 clear hx1
 go_wp2
 go_ret2
 exact ⟨rfl,HX.out⟩
theorem z68 {S:Nat → Prop} (va vb:Value) (xs ys:List Nat) (w:World) (ha:U32s S w va xs) (hb:U32s S w vb ys) (hS:∀ k,S k → k < w.heap.size) (hr:xs.length ≤ 50000000000000) (hge:val B32 ys ≤ val B32 xs) :
  Calls Tryz.prog 100 #[va,vb] w fun e w' => ∃ v',e = .returned (.tuple #[v',.int .i64 0]) ∧ U32s (New w w') w' v' (rep B32 (val B32 xs - val B32 ys)) ∧ Ext w w':=by
 have hxl:(rep B32 (val B32 xs)).length ≤ xs.length:=z0f z00 _ _ (z1k xs ha.lt)
 have HA:=hid ha
 have HB:=hid hb
 obtain ⟨aa,ca,rfl⟩:=ha.form
 obtain ⟨ab,cb,rfl⟩:=hb.form
 obtain ⟨cc,hc,hcc⟩:∃ cc:Int,cmpN (val B32 xs) (val B32 ys) = cc ∧ 0 ≤ cc ∧ cc ≤ 1:=⟨_,rfl,by unfold cmpN cmpI; split <;> (try split) <;> omega⟩
 have hm:=zb4 _ _ xs ys w HA.out HB.out hS
 rw [hc] at hm
 have HM:=hid hm
 have HGE:=hid hge
 clear ha hb hc hm hge
 go_enter Tryz.func100,Tryz.ntmps100
 go_wp2_with fail
 refine HM.out.mono ?_
 rintro e w1 ⟨rfl,hx1⟩
 have hS1:∀ k,S k → k < w1.heap.size:=fun k hk => Nat.lt_of_lt_of_le (hS k hk) hx1.size
 have HX:=hid hx1
 go_wp2_with fail
 refine (z29 (S:=S) _ xs w1 (HA.out.to (Kept.ext hx1 hS) (fun _ h => h))).mono ?_
 rintro e w' ⟨va,rfl,hu,rfl⟩
 have HU:=hid hu
 obtain ⟨a1,c1,rfl⟩:=hu.form
 clear hu
 go_wp2_with fail
 refine (z29 (S:=S) _ ys w1 (HB.out.to (Kept.ext hx1 hS) (fun _ h => h))).mono ?_
 rintro e w' ⟨vb,rfl,hv,rfl⟩
 have HV:=hid hv
 obtain ⟨a2,c2,rfl⟩:=hv.form
 clear hv hx1
 generalize hn:val B32 xs = n at HU HGE hxl
 generalize hm:val B32 ys = m at HV HGE
 have HN:=hid hn
 have HM:=hid hm
 clear hn hm
 have hmk:=run_make_row' (P:=Tryz.prog) 28 74 (.int .u32 0) 4 Tryz.underlying28 Tryz.infoU32 rfl .i64 .i64 (rep B32 n).length (by omega) (by omega) w1
 have hz:w1.heap.size < (w1.alloc (.cells (madeCells #[.int .u32 0] (rep B32 n).length) 74)).heap.size:=by simp
 have HR:=hid (zb3 w1 (rep B32 n).length 74)
 have HE:=hid (Ext.alloc (Ext.refl w1) (.cells (madeCells #[.int .u32 0] (rep B32 n).length) 74))
 go_wp2
 go_loopw [7,23] (fun c i wr => ∃ (k cc:Nat) (o:List Nat),k ≤ (rep B32 n).length ∧ i = .int .i64 k ∧ c = .int .u64 cc ∧ cc ≤ 1 ∧ o.length = k ∧ Hid (∀ z ∈ o,z < B32) ∧ wr.rowIs w1.heap.size 74 (rep B32 n).length (rowU o) ∧ Ext w1 wr ∧
  val B32 o + val B32 ((rep B32 m).take k) = val B32 ((rep B32 n).take k) + B32 ^ k * cc) (fun _ i _ => (rep B32 n).length - (intOf i).toNat)
 case atStart => exact ⟨0,0,[],Nat.zero_le _,rfl,rfl,by omega,rfl,hid (by simp),HR.out,HE.out,by simp [val]⟩
 case round =>
  obtain ⟨k,cc,o,hk,rfl,rfl,hcc,hol,HO,hrow,hx,hv⟩:=hrel
  by_cases hlt:k < (rep B32 n).length
  ·obtain ⟨x,hx1⟩:=z01 hlt
   obtain ⟨b1,o1,rfl,-,hn1,hm1,-,hxb,hc1⟩:=(HU.out.to (Kept.ext hx hS1) (fun _ h => h)).cellAt hx1
   have hcs:=hrow.cell (i:=k) (by omega)
   have hfs:=hrow.frozen k
   have HX1:=hid hx1
   have HROW:=hid hrow
   have HXR:=hid hx
   have HV1:=hid hv
   have HOL:=hid hol
   clear hx1 hrow hx hv hol
   by_cases hlt2:k < (rep B32 m).length
   ·obtain ⟨y,hy1⟩:=z01 hlt2
    obtain ⟨b2,o2,rfl,-,hn2,hm2,-,hyb,hc2⟩:=(HV.out.to (Kept.ext HXR.out hS1) (fun _ h => h)).cellAt hy1
    have HY1:=hid hy1
    clear hy1
    by_cases hs:y + cc ≤ x
    ·go_wp2
     go_roundw
     case rel =>
      skip
      refine ⟨k + 1,0,o ++ [x - y - cc],by omega,by go_num,congrArg (Value.int .u64) (by omega),by omega,by simp [HOL.out],?_,?_,HXR.out.setCell (p:=⟨w1.heap.size,k,none⟩) (Nat.le_refl _) _,?_⟩
      ·refine hid (fun z hz => ?_)
       rcases List.mem_append.1 hz with h | h
       ·exact HO.out z h
       ·rw [List.mem_singleton.1 h]
        show _ < 4294967296
        omega
      ·have h1:=z2o HROW.out (x - y - cc)
       rw [HOL.out] at h1
       refine cast (congrArg (fun e => World.rowIs (World.setCell wr ⟨w1.heap.size,k,none⟩ (Value.int .u32 e)) _ _ _ _) ?_) h1
       omega
      ·refine z58 HOL.out HV1.out _ _ ?_
       rw [z0o HX1.out,z0o HY1.out]
       show _ + 4294967296 * _ = _
       omega
     case measure => simp only [intOf]; omega
    ·go_wp2
     go_roundw
     case rel =>
      rw [show IntKind.u64.wrap (IntKind.u64.wrap ((x:Int) - cc) - y) = 18446744073709551616 + (x:Int) - cc - y by rw [IntKind.wrap_u64,IntKind.wrap_u64]; omega]
      refine ⟨k + 1,1,o ++ [x + 4294967296 - y - cc],by omega,by go_num,congrArg (Value.int .u64) (by omega),by omega,by simp [HOL.out],?_,?_,HXR.out.setCell (p:=⟨w1.heap.size,k,none⟩) (Nat.le_refl _) _,?_⟩
      ·refine hid (fun z hz => ?_)
       rcases List.mem_append.1 hz with h | h
       ·exact HO.out z h
       ·rw [List.mem_singleton.1 h]
        show _ < 4294967296
        omega
      ·have h1:=z2o HROW.out (x + 4294967296 - y - cc)
       rw [HOL.out] at h1
       refine cast (congrArg (fun e => World.rowIs (World.setCell wr ⟨w1.heap.size,k,none⟩ (Value.int .u32 e)) _ _ _ _) ?_) h1
       omega
      ·refine z58 HOL.out HV1.out _ _ ?_
       rw [z0o HX1.out,z0o HY1.out]
       show _ + 4294967296 * _ = _
       omega
     case measure => simp only [intOf]; omega
   ·by_cases hs:cc ≤ x
    ·go_wp2
     go_roundw
     case rel =>
      skip
      refine ⟨k + 1,0,o ++ [x - 0 - cc],by omega,by go_num,congrArg (Value.int .u64) (by omega),by omega,by simp [HOL.out],?_,?_,HXR.out.setCell (p:=⟨w1.heap.size,k,none⟩) (Nat.le_refl _) _,?_⟩
      ·refine hid (fun z hz => ?_)
       rcases List.mem_append.1 hz with h | h
       ·exact HO.out z h
       ·rw [List.mem_singleton.1 h]
        show _ < 4294967296
        omega
      ·have h1:=z2o HROW.out (x - 0 - cc)
       rw [HOL.out] at h1
       refine cast (congrArg (fun e => World.rowIs (World.setCell wr ⟨w1.heap.size,k,none⟩ (Value.int .u32 e)) _ _ _ _) ?_) h1
       omega
      ·refine z58 HOL.out HV1.out _ _ ?_
       rw [z0o HX1.out,z2n (l:=rep B32 m) (by omega)]
       show _ + 4294967296 * _ = _
       omega
     case measure => simp only [intOf]; omega
    ·go_wp2
     go_roundw
     case rel =>
      rw [show IntKind.u64.wrap ((x:Int) - cc) = 18446744073709551616 + (x:Int) - cc by rw [IntKind.wrap_u64]; omega]
      refine ⟨k + 1,1,o ++ [x + 4294967296 - 0 - cc],by omega,by go_num,congrArg (Value.int .u64) (by omega),by omega,by simp [HOL.out],?_,?_,HXR.out.setCell (p:=⟨w1.heap.size,k,none⟩) (Nat.le_refl _) _,?_⟩
      ·refine hid (fun z hz => ?_)
       rcases List.mem_append.1 hz with h | h
       ·exact HO.out z h
       ·rw [List.mem_singleton.1 h]
        show _ < 4294967296
        omega
      ·have h1:=z2o HROW.out (x + 4294967296 - 0 - cc)
       rw [HOL.out] at h1
       refine cast (congrArg (fun e => World.rowIs (World.setCell wr ⟨w1.heap.size,k,none⟩ (Value.int .u32 e)) _ _ _ _) ?_) h1
       omega
      ·refine z58 HOL.out HV1.out _ _ ?_
       rw [z0o HX1.out,z2n (l:=rep B32 m) (by omega)]
       show _ + 4294967296 * _ = _
       omega
     case measure => simp only [intOf]; omega
  ·obtain rfl:k = (rep B32 n).length:=by omega
   have HXR:=hid hx
   have HROW:=hid hrow
   have hml:(rep B32 m).length ≤ (rep B32 n).length:=z0f z00 _ _ (Nat.lt_of_le_of_lt HGE.out (z0y z00 n))
   rw [List.take_of_length_le hml,List.take_length,z0d z00,z0d z00] at hv
   have HV1:=hid (zmf HO.out hol HGE.out hv)
   have hu:U32s (fun k => k = w1.heap.size) wr (.slice (some ⟨w1.heap.size,0,none⟩) (rep B32 n).length (rep B32 n).length) o:=by
    have h1:=U32s.of_row HROW.out (by omega) HO.out (by omega)
    rwa [hol] at h1
   have HU1:=hid hu
   clear hx hrow hv hol hu
   go_wp2_with fail
   refine (z29 _ o _ HU1.out).mono ?_
   rintro e w' ⟨v',rfl,hu,rfl⟩
   have H:=hid hu
   clear hu
   go_wp2
   all_goals
    go_ret2
    refine ⟨_,rfl,?_,HX.out.trans HXR.out⟩
    rw [HN.out,HM.out,← HV1.out]
    refine H.out.to (Kept.refl _ _) (fun k hk => ?_)
    subst hk
    exact ⟨HX.out.size,HROW.out.lt⟩
end
section
open Go.RowKit
def IntV (S:Nat → Prop) (w:World) (v:Value) (r:RInt):Prop:=∃ vm,v = .agg #[.bool r.neg,vm] ∧ U32s S w vm r.mag
theorem IntV.to {S S':Nat → Prop} {w w':World} {v:Value} {r:RInt} (h:IntV S w v r) (hk:Kept S w w') (hS:∀ k,S k → S' k):IntV S' w' v r:=by
 obtain ⟨vm,h1,h2⟩:=h
 exact ⟨vm,h1,h2.to hk hS⟩
def sg (b:Bool) (n:Nat):Int:=if b then -(n:Int) else (n:Int)
theorem zut (b:Bool) (n:Nat):ofI (sg b n) = ⟨b && decide (0 < (rep B32 n).length),rep B32 n⟩:=by
 have h0:0 < (rep B32 n).length ↔ n ≠ 0:=by
  rw [List.length_pos_iff,Ne,z2d z00]
 unfold ofI sg
 cases b with
 | false => simp
 | true =>
  simp only [if_true,Int.natAbs_neg,Int.natAbs_natCast,Bool.true_and,RInt.mk.injEq,and_true]
  rw [decide_eq_decide,h0]
  omega
theorem Ext.new_cell {w W:World} {cs:Array Value} {T:TypeId} (h:Ext (w.alloc (.cells cs T)) W) {i:Nat} {v:Value} (hv:cs[i]? = some v):W.cell? ⟨w.heap.size,i,none⟩ = some v:=h.cell (z04 w cs T rfl hv)
theorem Ext.new_free {w W:World} {cs:Array Value} {T:TypeId} (h:Ext (w.alloc (.cells cs T)) W) (i:Nat):W.frozen? ⟨w.heap.size,i,none⟩ = false:=h.free (by simp) (z56 w cs T)
theorem z19 {w:World} {b:Nat} {u0 u1:Value} (x y:Value) (c0:w.cell? ⟨b,0,none⟩ = some u0) (c1:w.cell? ⟨b,1,none⟩ = some u1) :
  ((w.setCell ⟨b,0,none⟩ x).setCell ⟨b,1,none⟩ y).cell? ⟨b,0,none⟩ = some x ∧ ((w.setCell ⟨b,0,none⟩ x).setCell ⟨b,1,none⟩ y).cell? ⟨b,1,none⟩ = some y :=
 ⟨z09 (z1h c0) (ao (by decide)),z1h (z09 c1 (ao (by decide)))⟩
theorem Ext.set2 {a w:World} (h:Ext a w) {b:Nat} (hb:a.heap.size ≤ b) (x y:Value):Ext a ((w.setCell ⟨b,0,none⟩ x).setCell ⟨b,1,none⟩ y) :=
 (h.setCell (p:=⟨b,0,none⟩) hb x).setCell (p:=⟨b,1,none⟩) hb y
theorem Kept.set2 {S:Nat → Prop} {w:World} {b:Nat} (h:¬ S b) (x y:Value):Kept S w ((w.setCell ⟨b,0,none⟩ x).setCell ⟨b,1,none⟩ y) :=
 (Kept.setCell (a:=⟨b,0,none⟩) h x).trans (Kept.setCell (a:=⟨b,1,none⟩) h y)
theorem z2p {w:World} {b:Nat} (x y:Value):((w.setCell ⟨b,0,none⟩ x).setCell ⟨b,1,none⟩ y).heap.size = w.heap.size:=by rw [z07,z07]
theorem zd2 {S:Nat → Prop} (b:Bool) (v:Value) (zs:List Nat) (w:World) (h:U32s S w v zs) (hS:∀ k,S k → k < w.heap.size) (hr:zs.length ≤ 50000000000000) :
  Calls Tryz.prog 98 #[.bool b,v] w fun e w' => ∃ v',e = .returned v' ∧ IntV (New w w') w' v' (ofI (sg b (val B32 zs))) ∧ Ext w w':=by
 have H:=hid h
 obtain ⟨a,c,rfl⟩:=h.form
 clear h
 have HE:=hid (Ext.alloc (Ext.refl w) (.cells #[.bool false,.slice none 0 0] 30))
 go_enter Tryz.func98,Tryz.ntmps98
 go_wp2_with fail
 refine (z23 _ zs _ (H.out.to (Kept.ext HE.out hS) (fun _ h => h)) (fun k hk => Nat.lt_of_lt_of_le (hS k hk) HE.out.size) hr).mono ?_
 rintro e w1 ⟨v',rfl,hu,hx⟩
 generalize hn:val B32 zs = n at hu
 have HN:=hid hn
 have HX:=hid hx
 have c0:=hx.new_cell (i:=0) rfl
 have c1:=hx.new_cell (i:=1) rfl
 have f0:=hx.new_free 0
 have f1:=hx.new_free 1
 have HU:=hid hu
 obtain ⟨a',c',rfl⟩:=hu.form
 clear hn hu hx
 have HC:=hid (And.intro c0 c1)
 cases b
 all_goals
  go_wp2
  have hd:=fun x => z19 x (.slice a' (rep B32 n).length c') HC.out.1 HC.out.2
  refine bodyPost_ret (by simp [results,Tryz.results98,go_sem,(hd _).1,(hd _).2]; rfl) rfl ?_
  refine ⟨_,rfl,⟨_,by rw [zut,HN.out]; rfl,?_⟩,(HE.out.trans HX.out).set2 (Nat.le_refl _) _ _⟩
  rw [zut,HN.out]
  refine HU.out.to (Kept.set2 (fun h => ?_) _ _) (fun k hk => ⟨?_,?_⟩)
  ·have h1:=h.1
   rw [z02] at h1
   omega
  ·have h1:=hk.1
   rw [z02] at h1
   omega
  ·rw [z2p]
   exact hk.2
theorem z4y {S:Nat → Prop} (v:Value) (r:RInt) (w:World) (h:IntV S w v r) (hS:∀ k,S k → k < w.heap.size) :
  Calls Tryz.prog 45 #[v] w fun e w' => e = .returned (.bool (mayI r)) ∧ Ext w w':=by
 obtain ⟨ng,zs⟩:=r
 obtain ⟨vm,rfl,hu⟩:=h
 simp only at hu ⊢
 have hl:=hu.len_le
 have H:=hid hu
 obtain ⟨a,c,rfl⟩:=hu.form
 clear hu
 have HE:=hid (Ext.alloc (Ext.refl w) (.cells #[.bool ng,.slice a zs.length c] 30))
 by_cases h0:0 < zs.length
 ·obtain ⟨z,hz⟩:=z01 (show zs.length - 1 < zs.length by omega)
  obtain ⟨b,off,rfl,-,hn,hm,-,hzb,hc⟩:=(H.out.to (Kept.ext HE.out hS) (fun _ h => h)).cellAt hz
  have hR:mayI ⟨ng,zs⟩ = decide (z ≠ 0):=by
   unfold mayI
   rw [List.getLast?_eq_getElem?,hz]
  have HR:=hid hR
  clear hR hz
  go_enter Tryz.func45,Tryz.ntmps45
  go_wp2
  all_goals
   go_ret
   refine ⟨?_,HE.out⟩
   rw [HR.out]
   refine congrArg Ending.returned (congrArg Value.bool ?_)
   rw [Bool.eq_iff_iff]
   simp
 ·have HR:Hid (mayI ⟨ng,zs⟩ = !ng):=by
   obtain rfl:zs = []:=List.length_eq_zero_iff.1 (by omega)
   exact hid rfl
  have hnot:∀ (x:Bool) (w:World),(Op.unary .not (.bool x)).run Tryz.prog w = .ok (.bool (!x)) w:=fun _ _ => rfl
  have hb:(((zs.length:Nat):Int) == 0) = true:=by rw [beq_iff_eq]; omega
  go_enter Tryz.func45,Tryz.ntmps45
  go_wp2
  all_goals
   go_ret
   refine ⟨?_,HE.out⟩
   rw [HR.out]
   rfl
end
section
open Go.RowKit
def tab8:ByteArray:=⟨#[0,1,2,2,3,3,3,3,4,4,4,4,4,4,4,4,5,5,5,5,5,5,5,5,5,5,5,5,5,5,5,5,6,6,6,6,6,6,6,6,6,6,6,6,6,6,6,6,6,6,6,6,6,6,6,6,6,6,6,6,6,6,6,6,7,7,7,7,7,7,7,7,7,7,7,7,7,7,7,7,7,7,7,7,7,7,7,7,7,7,7,7,7,7,7,7,7,7,7,7,7,7,7,7,7,7,7,7,7,7,7,7,7,7,7,7,7,7,7,7,7,7,7,7,7,7,7,7,8,8,8,8,8,8,8,8,8,8,8,8,8,8,8,8,8,8,8,8,8,8,8,8,8,8,8,8,8,8,8,8,8,8,8,8,8,8,8,8,8,8,8,8,8,8,8,8,8,8,8,8,8,8,8,8,8,8,8,8,8,8,8,8,8,8,8,8,8,8,8,8,8,8,8,8,8,8,8,8,8,8,8,8,8,8,8,8,8,8,8,8,8,8,8,8,8,8,8,8,8,8,8,8,8,8,8,8,8,8,8,8,8,8,8,8,8,8,8,8,8,8,8,8,8,8,8,8]⟩
theorem z44:tab8.size = 256:=by decide +kernel
theorem zvl:∀ i:Fin 256,(tab8.get! i.val).toNat ≤ 8 ∧ (0 < i.val → 1 ≤ (tab8.get! i.val).toNat):=by decide +kernel
theorem zdy (x:Int) (h0:0 ≤ x) (h1:x < 256) (h:x.toNat < tab8.size):(tab8[x.toNat]'h).toNat ≤ 8 ∧ (0 < x → 1 ≤ (tab8[x.toNat]'h).toNat):=by
 have:=zvl ⟨x.toNat,by omega⟩
 have e:tab8.get! x.toNat = tab8[x.toNat]'h:=by
  have h2:x.toNat < tab8.data.size:=h
  show tab8.data[x.toNat]! = tab8.data[x.toNat]'h2
  exact getElem!_pos _ _ _
 simp only [e] at this
 exact ⟨this.1,fun hx => this.2 (by omega)⟩
theorem zmn (x:Int) (w:World) (h0:0 ≤ x) (h1:x < 4294967296) :
  Calls Tryz.prog 114 #[.int .u32 x] w fun e w' => ∃ n:Int,e = .returned (.int .i64 n) ∧ 0 ≤ n ∧ n ≤ 32 ∧ (0 < x → 0 < n) ∧ w = w':=by
 go_enter Tryz.func114,Tryz.ntmps114
 rcases (show 16777216 ≤ x ∨ 65536 ≤ x ∧ x < 16777216 ∨ 256 ≤ x ∧ x < 65536 ∨ x < 256 by omega) with h | ⟨h,h'⟩ | ⟨h,h'⟩ | h
 ·go_wp2
  go_ret
  simp only [Array.getD_eq_getD_getElem?,List.getElem?_toArray,List.getElem?_cons_succ,List.getElem?_cons_zero,Option.getD_some]
  generalize hv:UInt8.toNat _ = t
  have hb:=zdy (x / 65536 / 256) (by omega) (by omega) (by rw [z44]; omega)
  have hc:t ≤ 8 ∧ (0 < x / 65536 / 256 → 1 ≤ t):=hv ▸ hb
  obtain ⟨h3,h4⟩:=hc
  clear hb hv
  refine ⟨_,rfl,?_,?_,fun hx => ?_,trivial⟩ <;> (unfold wrap64; omega)
 ·go_wp2
  go_ret
  simp only [Array.getD_eq_getD_getElem?,List.getElem?_toArray,List.getElem?_cons_succ,List.getElem?_cons_zero,Option.getD_some]
  generalize hv:UInt8.toNat _ = t
  have hb:=zdy (x / 65536) (by omega) (by omega) (by rw [z44]; omega)
  have hc:t ≤ 8 ∧ (0 < x / 65536 → 1 ≤ t):=hv ▸ hb
  obtain ⟨h3,h4⟩:=hc
  clear hb hv
  refine ⟨_,rfl,?_,?_,fun hx => ?_,trivial⟩ <;> (unfold wrap64; omega)
 ·go_wp2
  go_ret
  simp only [Array.getD_eq_getD_getElem?,List.getElem?_toArray,List.getElem?_cons_succ,List.getElem?_cons_zero,Option.getD_some]
  generalize hv:UInt8.toNat _ = t
  have hb:=zdy (x / 256) (by omega) (by omega) (by rw [z44]; omega)
  have hc:t ≤ 8 ∧ (0 < x / 256 → 1 ≤ t):=hv ▸ hb
  obtain ⟨h3,h4⟩:=hc
  clear hb hv
  refine ⟨_,rfl,?_,?_,fun hx => ?_,trivial⟩ <;> (unfold wrap64; omega)
 ·go_wp2
  go_ret
  simp only [Array.getD_eq_getD_getElem?,List.getElem?_toArray,List.getElem?_cons_succ,List.getElem?_cons_zero,Option.getD_some]
  generalize hv:UInt8.toNat _ = t
  have hb:=zdy (x) (by omega) (by omega) (by rw [z44]; omega)
  have hc:t ≤ 8 ∧ (0 < x → 1 ≤ t):=hv ▸ hb
  obtain ⟨h3,h4⟩:=hc
  clear hb hv
  refine ⟨_,rfl,?_,?_,fun hx => ?_,trivial⟩ <;> (unfold wrap64; omega)
end
section
open Go.RowKit
theorem zr9 {S:Nat → Prop} (v:Value) (zs:List Nat) (w:World) (h:U32s S w v zs) (hr:zs.length ≤ 50000000000000) :
  Calls Tryz.prog 84 #[v] w fun e w' => ∃ n:Int,e = .returned (.int .i64 n) ∧ 0 ≤ n ∧ n ≤ 9223372036854775807 ∧ (n = 0 ↔ val B32 zs = 0) ∧ w = w':=by
 have hle:(rep B32 (val B32 zs)).length ≤ zs.length:=z0f z00 _ _ (z1k zs h.lt)
 have H:=hid h
 obtain ⟨a,c,rfl⟩:=h.form
 clear h
 go_enter Tryz.func84,Tryz.ntmps84
 go_wp2_with fail
 refine (z29 _ zs _ H.out).mono ?_
 rintro e w' ⟨v',rfl,hu,rfl⟩
 generalize hn:val B32 zs = n at hu hle
 have HN:=hid hn
 have HU:=hid hu
 obtain ⟨a',c',rfl⟩:=hu.form
 clear hu hn
 by_cases h0:n = 0
 ·have hl:(rep B32 n).length = 0:=by rw [h0]; rfl
  have hb:(((rep B32 n).length:Int) == 0) = true:=by rw [beq_iff_eq]; omega
  have HZ:=hid h0
  clear h0 hl
  go_wp2
  go_ret
  exact ⟨0,rfl,by omega,by omega,by rw [HN.out,HZ.out]; simp,rfl⟩
 ·have hl:0 < (rep B32 n).length:=by
   rw [List.length_pos_iff,Ne,z2d z00]
   exact h0
  obtain ⟨z,hz⟩:=z01 (show (rep B32 n).length - 1 < (rep B32 n).length by omega)
  have hz0:0 < z:=by
   have h1:=zdt z00 n
   rw [List.getLast?_eq_getElem?,hz] at h1
   have:z ≠ 0:=fun e => h1 (by rw [e])
   omega
  obtain ⟨b,off,rfl,-,hn,hm,-,hzb,hc⟩:=HU.out.cellAt hz
  have hb:(((rep B32 n).length:Int) == 0) = false:=by rw [beq_eq_false_iff_ne]; omega
  have HZ:=hid h0
  clear h0 hz
  go_wp2_with fail
  refine (zmn (z:Nat) _ (by omega) (by omega)).mono ?_
  rintro e w' ⟨k,rfl,hk1,hk2,hk3,rfl⟩
  have hk:=hk3 (by omega)
  clear hk3
  go_wp2
  go_ret
  refine ⟨32 * (((rep B32 n).length:Int) - 1) + k,rfl,by omega,by omega,?_,rfl⟩
  rw [HN.out]
  have:=HZ.out
  omega
theorem z1m {S:Nat → Prop} (v:Value) (r:RInt) (w:World) (h:IntV S w v r) (hS:∀ k,S k → k < w.heap.size) (hr:r.mag.length ≤ 50000000000000) :
  Calls Tryz.prog 44 #[v] w fun e w' => e = .returned (.int .i64 (z1l (valI r))) ∧ Ext w w':=by
 obtain ⟨ng,zs⟩:=r
 obtain ⟨vm,rfl,hu⟩:=h
 simp only at hu hr ⊢
 have H:=hid hu
 obtain ⟨a,c,rfl⟩:=hu.form
 clear hu
 have HE:=hid (Ext.alloc (Ext.refl w) (.cells #[.bool ng,.slice a zs.length c] 30))
 go_enter Tryz.func44,Tryz.ntmps44
 go_wp2_with fail
 refine (zr9 _ zs _ (H.out.to (Kept.ext HE.out hS) (fun _ h => h)) hr).mono ?_
 rintro e w' ⟨n,rfl,hn1,hn2,hn3,rfl⟩
 have HN:=hid hn3
 clear hn3
 by_cases h0:n = 0
 ·have hb:(n == 0) = true:=by rw [beq_iff_eq]; exact h0
  have HZ:=hid h0
  clear h0
  have HR:Hid (z1l (valI ⟨ng,zs⟩) = 0):=hid (by
   have:=HN.out.1 HZ.out
   unfold z1l valI
   simp [this,cmpI])
  go_wp2
  go_ret
  exact ⟨by rw [HR.out]; rfl,HE.out⟩
 ·have hb:(n == 0) = false:=by rw [beq_eq_false_iff_ne]; exact h0
  have HZ:=hid h0
  clear h0
  have hv:val B32 zs ≠ 0:=fun e => HZ.out (HN.out.2 e)
  cases ng with
  | true =>
   have HR:Hid (z1l (valI ⟨true,zs⟩) = -1):=hid (by
    unfold z1l valI
    rw [z2w]
    simp
    omega)
   clear hv
   go_wp2
   go_ret
   exact ⟨by rw [HR.out]; rfl,HE.out⟩
  | false =>
   have HR:Hid (z1l (valI ⟨false,zs⟩) = 1):=hid (by
    unfold z1l valI
    rw [z3y]
    simp
    omega)
   clear hv
   go_wp2
   go_ret
   exact ⟨by rw [HR.out]; rfl,HE.out⟩
end
section
open Go.RowKit
theorem U32s.ext {S:Nat → Prop} {w W:World} {v:Value} {zs:List Nat} (h:U32s S w v zs) (hx:Ext w W) (hS:∀ k,S k → k < w.heap.size):U32s S W v zs:=h.to (Kept.ext hx hS) (fun _ h => h)
theorem z08 {S:Nat → Prop} {w W:World} (hS:∀ k,S k → k < w.heap.size) (hx:Ext w W):∀ k,S k → k < W.heap.size:=fun k hk => Nat.lt_of_lt_of_le (hS k hk) hx.size
theorem New.lt {w w':World}:∀ k,New w w' k → k < w'.heap.size:=fun _ h => h.2
theorem New.mono {a w w':World} (h:Ext a w):∀ k,New w w' k → New a w' k:=fun _ hk => ⟨Nat.le_trans h.size hk.1,hk.2⟩
theorem blk3 {w W:World} {c1 c2 c3:Array Value} {T1 T2 T3:TypeId} (h:Ext (((w.alloc (.cells c1 T1)).alloc (.cells c2 T2)).alloc (.cells c3 T3)) W) :
  (∀ i v,c1[i]? = some v → W.cell? ⟨w.heap.size,i,none⟩ = some v) ∧ (∀ i v,c2[i]? = some v → W.cell? ⟨w.heap.size + 1,i,none⟩ = some v) ∧ (∀ i v,c3[i]? = some v → W.cell? ⟨w.heap.size + 1 + 1,i,none⟩ = some v) ∧ ∀ i,W.frozen? ⟨w.heap.size + 1 + 1,i,none⟩ = false:=by
 have e2:Ext ((w.alloc (.cells c1 T1)).alloc (.cells c2 T2)) W:=(Ext.alloc (Ext.refl _) _).trans h
 have e1:Ext (w.alloc (.cells c1 T1)) W:=(Ext.alloc (Ext.refl _) _).trans e2
 refine ⟨fun i v hv => e1.new_cell hv,fun i v hv => ?_,fun i v hv => ?_,fun i => ?_⟩
 ·have:=e2.new_cell hv
  rwa [z02] at this
 ·have:=h.new_cell hv
  rwa [z02,z02] at this
 ·have:=h.new_free i
  rwa [z02,z02] at this
theorem Ext.drew {a w:World} (h:Ext a w):Ext a w.drew:=⟨h.os,h.tape,h.output,h.size,h.block⟩
theorem zkf {W:World} {a b c:Addr} {x y z:Value} (h1:W.cell? a = some x) (h2:W.cell? b = some y) (h3:W.cell? c = some z):W.drew.cell? a = some x ∧ W.drew.cell? b = some y ∧ W.drew.cell? c = some z :=
 ⟨by simpa using h1,by simpa using h2,by simpa using h3⟩
theorem z33 {w0 w1 w2:World} {b:Nat} {v:Value} {r:RInt} {vm:Value} (hv:v = .agg #[.bool r.neg,vm]) (hu:U32s (New w1 w2) w2 vm r.mag) (h01:Ext w0 w1) (h12:Ext w1 w2) (hb0:w0.heap.size ≤ b) (hb1:b < w1.heap.size) (x y:Value) :
  IntV (New w0 ((w2.setCell ⟨b,0,none⟩ x).setCell ⟨b,1,none⟩ y)) ((w2.setCell ⟨b,0,none⟩ x).setCell ⟨b,1,none⟩ y) v r ∧ Ext w0 ((w2.setCell ⟨b,0,none⟩ x).setCell ⟨b,1,none⟩ y):=by
 refine ⟨⟨vm,hv,hu.to (Kept.set2 (fun h => ?_) _ _) (fun k hk => ⟨Nat.le_trans h01.size hk.1,?_⟩)⟩,(h01.trans h12).set2 hb0 _ _⟩
 ·have:=h.1
  omega
 ·rw [z2p]
  exact hk.2
theorem z4h {S:Nat → Prop} (b:Bool) (v:Value) (n:Nat) (w:World) (h:U32s S w v (rep B32 n)) (hS:∀ k,S k → k < w.heap.size) (hr:(rep B32 n).length ≤ 50000000000000) :
  Calls Tryz.prog 98 #[.bool b,v] w fun e w' => ∃ v',e = .returned v' ∧ IntV (New w w') w' v' (ofI (sg b n)) ∧ Ext w w':=by
 have h1:=zd2 b v (rep B32 n) w h hS hr
 rwa [z0d z00] at h1
theorem z8a {a b k:Nat} (ha:(rep B32 a).length ≤ k) (hb:(rep B32 b).length ≤ k):(rep B32 (a + b)).length ≤ k + 1:=by
 refine z0f z00 _ _ ?_
 have h1:=z0y z00 a
 have h2:=z0y z00 b
 have h3:B32 ^ (rep B32 a).length ≤ B32 ^ k:=Nat.pow_le_pow_right (by decide) ha
 have h4:B32 ^ (rep B32 b).length ≤ B32 ^ k:=Nat.pow_le_pow_right (by decide) hb
 rw [Nat.pow_succ]
 generalize B32 ^ k = P at *
 have:P * 2 ≤ P * B32:=Nat.mul_le_mul_left _ (by decide)
 omega
theorem z1o {a b:Nat} (h:a ≤ b):(rep B32 a).length ≤ (rep B32 b).length:=z0f z00 _ _ (Nat.lt_of_le_of_lt h (z0y z00 b))
theorem z14 {zs:List Nat} (h:∀ z ∈ zs,z < B32):(rep B32 (val B32 zs)).length ≤ zs.length:=z0f z00 _ _ (z1k zs h)
theorem z6u {S:Nat → Prop} (vx vy:Value) (x y:RInt) (w:World) (hx:IntV S w vx x) (hy:IntV S w vy y) (hS:∀ k,S k → k < w.heap.size) (hr:x.mag.length ≤ 40000000000000) (hr2:y.mag.length ≤ 40000000000000) :
  Calls Tryz.prog 60 #[vx,vy] w fun e w' => ∃ v',e = .returned v' ∧ IntV (New w w') w' v' (ofI (valI x + valI y)) ∧ Ext w w':=by
 obtain ⟨xn,xs⟩:=x
 obtain ⟨yn,ys⟩:=y
 obtain ⟨vxm,rfl,hxu⟩:=hx
 obtain ⟨vym,rfl,hyu⟩:=hy
 simp only at hxu hyu hr hr2 ⊢
 have HX:=hid hxu
 have HY:=hid hyu
 obtain ⟨ax,cx,rfl⟩:=hxu.form
 obtain ⟨ay,cy,rfl⟩:=hyu.form
 clear hxu hyu
 have HK:=hid (Ext.alloc (Ext.alloc (Ext.alloc (Ext.refl w) (.cells #[.bool xn,.slice ax xs.length cx] 30)) (.cells #[.bool yn,.slice ay ys.length cy] 30)) (.cells #[.bool false,.slice none 0 0] 30))
 have HXK:=hid (HX.out.ext HK.out hS)
 have HYK:=hid (HY.out.ext HK.out hS)
 have HSK:=hid (z08 hS HK.out)
 have hsz:w.heap.size + 1 + 1 < (((w.alloc (.cells #[.bool xn,.slice ax xs.length cx] 30)).alloc (.cells #[.bool yn,.slice ay ys.length cy] 30)).alloc (.cells #[.bool false,.slice none 0 0] 30)).heap.size:=by simp
 have HSZ:=hid hsz
 clear hsz
 by_cases hxy:xn = yn
 ·have hb:(xn == yn) = true:=by rw [beq_iff_eq]; exact hxy
  have HQ:Hid (valI ⟨xn,xs⟩ + valI ⟨yn,ys⟩ = sg xn (val B32 xs + val B32 ys)):=hid (by
   subst hxy
   unfold valI sg
   cases xn <;> (simp; try omega))
  subst hxy
  obtain ⟨b1,b2,b3,b4⟩:=blk3 (Ext.refl (((w.alloc (.cells #[.bool xn,.slice ax xs.length cx] 30)).alloc (.cells #[.bool xn,.slice ay ys.length cy] 30)).alloc (.cells #[.bool false,.slice none 0 0] 30)))
  have c1:=b1 0 _ rfl
  have c2:=b1 1 _ rfl
  have c3:=b2 1 _ rfl
  clear b1 b2 b3 b4
  have S0:=zkf c1 c2 c3
  clear c1 c2 c3
  have HS0:=hid S0
  clear S0
  go_enter Tryz.func60,Tryz.ntmps60
  go_wp2
  have S0:=HS0.out
  have HL:Hid ((rep B32 (val B32 xs + val B32 ys)).length ≤ 50000000000000):=hid (Nat.le_trans (z8a (k:=40000000000000) (Nat.le_trans (z14 HX.out.lt) hr) (Nat.le_trans (z14 HY.out.lt) hr2)) (by decide))
  go_region_held3 (fun W => W.cell? ⟨w.heap.size,0,none⟩ = some (.bool xn) ∧ W.cell? ⟨w.heap.size,1,none⟩ = some (.slice ax xs.length cx) ∧ W.cell? ⟨w.heap.size + 1,1,none⟩ = some (.slice ay ys.length cy)) (first | exact S0 | exact S1 | exact S2 | exact ⟨z09 (z09 S2.1 (ab (by omega))) (ab (by omega)),z09 (z09 S2.2.1 (ab (by omega))) (ab (by omega)),z09 (z09 S2.2.2 (ab (by omega))) (ab (by omega))⟩)
   (first
    | (go_at_call 99; (with_reducible refine (zhk _ _ xs ys _ (HX.out.ext (HK.out.drew) hS) (HY.out.ext (HK.out.drew) hS) (z08 hS (HK.out.drew)) (by omega) (by omega)).mono ?_); rintro e w1 ⟨v1,rfl,hu1,hx1⟩; have S1:=And.intro (hx1.cell S0.1) (And.intro (hx1.cell S0.2.1) (hx1.cell S0.2.2)); have HX1:=hid hx1; have HU1:=hid hu1; obtain ⟨a1,n1,rfl⟩:=hu1.form; clear hx1 hu1)
    | (go_at_call 98; (with_reducible refine (z4h xn _ _ _ HU1.out New.lt HL.out).mono ?_); rintro e w2 ⟨v2,rfl,⟨vm2,rfl,hu2⟩,hx2⟩; have S2:=And.intro (hx2.cell S1.1) (And.intro (hx2.cell S1.2.1) (hx2.cell S1.2.2)); have HX2:=hid hx2; have HU2:=hid hu2; obtain ⟨a2,n2,rfl⟩:=hu2.form; obtain ⟨-,-,d3,d4⟩:=blk3 ((Ext.drew (Ext.refl _)).trans (HX1.out.trans hx2)); have e0:=d3 0 _ rfl; have e1:=d3 1 _ rfl; have HE:=hid (And.intro e0 e1); have f0:=d4 0; have f1:=d4 1; clear d3 d4 hx2 hu2))
  go_wp2
  have hd:=fun x y => z19 x y HE.out.1 HE.out.2
  refine bodyPost_ret (by simp [results,Tryz.results60,go_sem,(hd _ _).1,(hd _ _).2]; rfl) rfl ?_
  have hg:=z33 (w0:=w) (b:=w.heap.size + 1 + 1) rfl HU2.out (HK.out.drew.trans HX1.out) HX2.out (by omega) (Nat.lt_of_lt_of_le HSZ.out HX1.out.size) (.bool (ofI (sg xn (val B32 xs + val B32 ys))).neg) (.slice a2 (ofI (sg xn (val B32 xs + val B32 ys))).mag.length n2)
  rw [HQ.out]
  exact ⟨_,rfl,hg.1,hg.2⟩
 ·have hb:(xn == yn) = false:=by rw [beq_eq_false_iff_ne]; exact hxy
  obtain ⟨b1,b2,b3,b4⟩:=blk3 (Ext.refl (((w.alloc (.cells #[.bool xn,.slice ax xs.length cx] 30)).alloc (.cells #[.bool yn,.slice ay ys.length cy] 30)).alloc (.cells #[.bool false,.slice none 0 0] 30)))
  have c1:=b1 0 _ rfl
  have c2:=b1 1 _ rfl
  have c3:=b2 1 _ rfl
  have c4:=b2 0 _ rfl
  clear b1 b2 b3 b4
  by_cases hge:val B32 ys ≤ val B32 xs
  ·have HQ:Hid (valI ⟨xn,xs⟩ + valI ⟨yn,ys⟩ = sg xn (val B32 xs - val B32 ys)):=hid (by
    unfold valI sg
    cases xn <;> cases yn <;> first | (exact absurd rfl hxy) | (simp; omega))
   have HGE:=hid hge
   have HXY:=hid hxy
   clear hge hxy
   go_enter Tryz.func60,Tryz.ntmps60
   go_wp2_with fail
   refine (z68 _ _ xs ys _ HXK.out HYK.out HSK.out (by omega) HGE.out).mono ?_
   rintro e w1 ⟨v1,rfl,hu1,hx1⟩
   obtain ⟨g1,g2,-,-⟩:=blk3 hx1
   have k1:=g1 0 _ rfl
   clear g1 g2
   have HXX:=hid hx1
   have HU1:=hid hu1
   obtain ⟨a1,n1,rfl⟩:=hu1.form
   have HL:Hid ((rep B32 (val B32 xs - val B32 ys)).length ≤ 50000000000000):=hid (Nat.le_trans (Nat.le_trans (z1o (Nat.sub_le _ _)) (z14 HX.out.lt)) (by omega))
   clear hx1 hu1
   go_wp2_with fail
   refine (z4h xn _ _ _ HU1.out New.lt HL.out).mono ?_
   rintro e w2 ⟨v2,rfl,⟨vm2,rfl,hu2⟩,hx2⟩
   have HX2:=hid hx2
   have HU2:=hid hu2
   obtain ⟨a2,n2,rfl⟩:=hu2.form
   obtain ⟨-,-,d3,d4⟩:=blk3 (HXX.out.trans hx2)
   have e0:=d3 0 _ rfl
   have e1:=d3 1 _ rfl
   have HE:=hid (And.intro e0 e1)
   have f0:=d4 0
   have f1:=d4 1
   clear d3 d4 hx2 hu2
   go_wp2
   have hd:=fun x y => z19 x y HE.out.1 HE.out.2
   refine bodyPost_ret (by simp [results,Tryz.results60,go_sem,(hd _ _).1,(hd _ _).2]; rfl) rfl ?_
   have hg:=z33 (w0:=w) (b:=w.heap.size + 1 + 1) rfl HU2.out (HK.out.trans HXX.out) HX2.out (by omega) (Nat.lt_of_lt_of_le HSZ.out HXX.out.size) (.bool (ofI (sg xn (val B32 xs - val B32 ys))).neg) (.slice a2 (ofI (sg xn (val B32 xs - val B32 ys))).mag.length n2)
   rw [HQ.out]
   exact ⟨_,rfl,hg.1,hg.2⟩
  ·have HQ:Hid (valI ⟨xn,xs⟩ + valI ⟨yn,ys⟩ = sg yn (val B32 ys - val B32 xs)):=hid (by
    unfold valI sg
    cases xn <;> cases yn <;> first | (exact absurd rfl hxy) | (simp; omega))
   have HGE:=hid hge
   have HXY:=hid hxy
   clear hge hxy
   go_enter Tryz.func60,Tryz.ntmps60
   go_wp2_with fail
   refine (zke _ _ xs ys _ HXK.out HYK.out HSK.out (by have:=HGE.out; omega)).mono ?_
   rintro e w1 ⟨rfl,hx1⟩
   obtain ⟨g1,g2,-,-⟩:=blk3 hx1
   have k1:=g1 1 _ rfl
   have k2:=g2 1 _ rfl
   have k3:=g2 0 _ rfl
   clear g1 g2
   have HX1:=hid hx1
   clear hx1
   go_wp2_with fail
   refine (z68 _ _ ys xs _ (HY.out.ext (HK.out.trans HX1.out) hS) (HX.out.ext (HK.out.trans HX1.out) hS) (z08 hS (HK.out.trans HX1.out)) (by omega) (by have:=HGE.out; omega)).mono ?_
   rintro e w1' ⟨v1,rfl,hu1,hx1⟩
   obtain ⟨g1,g2,-,-⟩:=blk3 (HX1.out.trans hx1)
   have k4:=g2 0 _ rfl
   clear g1 g2
   have HXX:=hid (HX1.out.trans hx1)
   have HU1:=hid hu1
   obtain ⟨a1,n1,rfl⟩:=hu1.form
   have HL:Hid ((rep B32 (val B32 ys - val B32 xs)).length ≤ 50000000000000):=hid (Nat.le_trans (Nat.le_trans (z1o (Nat.sub_le _ _)) (z14 HY.out.lt)) (by omega))
   clear hx1 hu1
   go_wp2_with fail
   refine (z4h yn _ _ _ HU1.out New.lt HL.out).mono ?_
   rintro e w2 ⟨v2,rfl,⟨vm2,rfl,hu2⟩,hx2⟩
   have HX2:=hid hx2
   have HU2:=hid hu2
   obtain ⟨a2,n2,rfl⟩:=hu2.form
   obtain ⟨-,-,d3,d4⟩:=blk3 (HXX.out.trans hx2)
   have e0:=d3 0 _ rfl
   have e1:=d3 1 _ rfl
   have HE:=hid (And.intro e0 e1)
   have f0:=d4 0
   have f1:=d4 1
   clear d3 d4 hx2 hu2
   go_wp2
   have hd:=fun x y => z19 x y HE.out.1 HE.out.2
   refine bodyPost_ret (by simp [results,Tryz.results60,go_sem,(hd _ _).1,(hd _ _).2]; rfl) rfl ?_
   have hg:=z33 (w0:=w) (b:=w.heap.size + 1 + 1) rfl HU2.out (HK.out.trans HXX.out) HX2.out (by omega) (Nat.lt_of_lt_of_le HSZ.out HXX.out.size) (.bool (ofI (sg yn (val B32 ys - val B32 xs))).neg) (.slice a2 (ofI (sg yn (val B32 ys - val B32 xs))).mag.length n2)
   rw [HQ.out]
   exact ⟨_,rfl,hg.1,hg.2⟩
end
section
open Go.RowKit
structure Later (w:World) where
 w':World
 h:Ext w w'
instance (w:World):Nonempty (Later w):=⟨⟨w,Ext.refl w⟩⟩
instance (w:World):Inhabited (Later w):=⟨⟨w,Ext.refl w⟩⟩
theorem z03 {P:Program} {id:Nat} {Q:Exit → Act → World → Prop} {a:Act} {w:World} {l:List Oper} (hm:P.follows .mixedOrders = true) (hB:Region.lexB .any l.toArray = true)
  (h:wpQuiet P l.toArray (fun W => ∃ X:Later w,W = X.w') (fun a' => ∀ W,Ext w W → Q .normal a' W) l a):(Code.region id l.toArray true).wp P Q a w:=by
 refine wp_region_quiet (C:=fun W => ∃ X:Later w,W = X.w') hm hB ⟨⟨{ w with drawn:=w.drawn + 1 },rfl,rfl,rfl,Nat.le_refl _,fun _ _ => rfl⟩,rfl⟩ ?_
 have e:(fun a':Act => ∀ W,(∃ X:Later w,W = X.w') → Q .normal a' W) = (fun a':Act => ∀ W,Ext w W → Q .normal a' W):=by
  funext a'
  refine propext ⟨fun k W hW => k W ⟨⟨W,hW⟩,rfl⟩,?_⟩
  rintro k W ⟨X,rfl⟩
  exact k _ X.h
 rw [e]
 exact h
theorem Later.done {P:Program} {f:FuncId} {args:Array Value} {w:World} {X:Later w} {v:Value}
  (h:Calls P f args X.w' fun e w' => e = .returned v ∧ Ext X.w' w'):Calls P f args X.w' fun e w'' => e = .returned v ∧ ∃ Y:Later w,w'' = Y.w' :=
 h.mono fun _ W ⟨he,hm⟩ => ⟨he,⟨W,X.h.trans hm⟩,rfl⟩
theorem Later.cell {w:World} (X:Later w) {b i:Nat} {v:Value} (hc:w.cell? ⟨b,i,none⟩ = some v):X.w'.cell? ⟨b,i,none⟩ = some v:=X.h.cell hc
end
section
open Go.RowKit
attribute [local go_sem ↓] Go.wp_at_zero Go.wp_at_succ
theorem Pows.ext {S:Nat → Prop} {w W:World} {v:Value} {zs:Mono} (h:Pows S w v zs) (hx:Ext w W) (hS:∀ k,S k → k < w.heap.size):Pows S W v zs:=h.to (Kept.ext hx hS) (fun _ h => h)
theorem z06.ext {S:Nat → Prop} {w W:World} {v:Value} {zs:List RTerm} (h:z06 S w v zs) (hx:Ext w W) (hS:∀ k,S k → k < w.heap.size):z06 S W v zs:=h.to (Kept.ext hx hS) (fun _ h => h)
theorem z06.cellAt {S:Nat → Prop} {w:World} {ts:List RTerm} {a:Option Addr} {n cap k:Nat} {t:RTerm} (h:z06 S w (.slice a n cap) ts) (ht:ts[k]? = some t) :
  ∃ b off vm vo,a = some ⟨b,off,none⟩ ∧ n = ts.length ∧ n ≤ cap ∧ cap ≤ 9223372036854775807 ∧ S b ∧ w.cell? ⟨b,off + k * 3,none⟩ = some (.bool t.c.neg) ∧ w.cell? ⟨b,off + k * 3 + 1,none⟩ = some vm ∧ w.cell? ⟨b,off + k * 3 + 2,none⟩ = some vo ∧ U32s S w vm t.c.mag ∧ Pows S w vo t.m:=by
 obtain ⟨b,off,⟨a',cap',h1,h2,h3,h4,h5⟩,hc⟩:=h
 obtain ⟨rfl,rfl,rfl⟩:a = a' ∧ n = ts.length ∧ cap = cap':=by simpa using h1
 have hp:0 < ts.length:=by have:=z05 ht; omega
 obtain ⟨vm,vo,g1,g2,g3,g4,g5⟩:=hc k t ht
 exact ⟨b,off,vm,vo,h4 hp,rfl,h2,h3,h5 hp,g1,g2,g3,g4,g5⟩
theorem z06.len_le {S:Nat → Prop} {w:World} {v:Value} {zs:List RTerm} (h:z06 S w v zs):zs.length ≤ 9223372036854775807:=by
 obtain ⟨b,off,⟨a,cap,h1,h2,h3,_⟩,_⟩:=h
 unfold maxLen at h3
 omega
theorem z06.okT {S:Nat → Prop} {w:World} {v:Value} {zs:List RTerm} (h:z06 S w v zs):okT zs:=by
 obtain ⟨b,off,hs,hc⟩:=h
 intro t ht
 obtain ⟨j,hj⟩:=List.getElem?_of_mem ht
 obtain ⟨vm,vo,g1,g2,g3,g4,g5⟩:=hc j t hj
 exact g4.lt
theorem z2x {S:Nat → Prop} {w:World} {ng:Bool} {zs:List Nat} {vm:Value} (h:U32s S w vm zs):IntV S w (.agg #[.bool ng,vm]) ⟨ng,zs⟩:=⟨vm,rfl,h⟩
def z3r (ts:List RTerm):Prop:=∀ t ∈ ts,t.c.mag.length ≤ 40000000000000
def befT (ts:List RTerm):Nat → Option RTerm
 | 0 => none
 | k + 1 => ts[k]?
theorem zkg {ts:List RTerm} {k:Nat} {t:RTerm} (ht:ts[k]? = some t):z4x (befT ts k) (ts.drop k) = (z2e t && (match befT ts k with | none => true | some u => decide (0 < z4e u.m t.m)) && z4x (befT ts (k + 1)) (ts.drop (k + 1))):=by
 rw [z6n ht]
 simp only [befT,ht]
 rfl
theorem zff {r:RInt}:z1l (valI r) = 0 ↔ val B32 r.mag = 0:=by
 unfold z1l valI
 rw [z6q]
 cases r.neg <;> simp
theorem za1 {t:RTerm} (h:z1l (valI t.c) = 0):z2e t = false:=by
 unfold z2e
 rw [zff] at h
 simp [h]
theorem zb5 {t:RTerm} (h:mayI t.c = false):z2e t = false:=by
 unfold z2e
 simp [h]
theorem za2 {t:RTerm} (h:mayM t.m = false):z2e t = false:=by
 unfold z2e
 simp [h]
theorem zb6 {t:RTerm} (h1:z1l (valI t.c) ≠ 0) (h2:mayI t.c = true) (h3:mayM t.m = true):z2e t = true:=by
 unfold z2e
 rw [Ne,zff] at h1
 simp [h1,h2,h3]
theorem z6v (a b:Mono):-1 ≤ z4e a b ∧ z4e a b ≤ 1:=by
 unfold z4e
 split
 ·rename_i hmm
  simp only [Bool.and_eq_true] at hmm
  rcases z1n hmm.1 hmm.2 with h | h | h <;> omega
 ·omega
theorem z4i {S:Nat → Prop} (v:Value) (ts:List RTerm) (w:World) (h:z06 S w v ts) (hS:∀ k,S k → k < w.heap.size) (hr:z3r ts) :
  Calls Tryz.prog 20 #[v] w fun e w' => e = .returned (.bool (mayT ts)) ∧ Ext w w':=by
 have hnot:∀ (x:Bool) (w:World),(Op.unary .not (.bool x)).run Tryz.prog w = .ok (.bool (!x)) w:=fun _ _ => rfl
 have hl:=h.len_le
 have H:=hid h
 have HRS:=hid hr
 obtain ⟨a,cap,rfl⟩:=h.form
 clear h hr
 go_enter Tryz.func20,Tryz.ntmps20
 go_wp2
 go_loopw [7] (fun i wr => ∃ k:Nat,k ≤ ts.length ∧ i = .int .i64 k ∧ Ext w wr ∧ mayT ts = z4x (befT ts k) (ts.drop k)) (fun i _ => ts.length - (intOf i).toNat)
 case atStart => exact ⟨0,Nat.zero_le _,rfl,Ext.refl _,rfl⟩
 case round =>
  obtain ⟨k,hk,rfl,hx,hm⟩:=hrel
  by_cases hlt:k < ts.length
  ·obtain ⟨t,ht⟩:=z01 hlt
   obtain ⟨b,off,vm,vo,rfl,-,hn1,hm1,hSb,h1,h2,h3,h4,h5⟩:=H.out.cellAt ht
   have hat:=zkg ht
   have hsm:=HRS.out t (List.mem_of_getElem? ht)
   rw [hat] at hm
   have HM:=hid hm
   have HT:=hid ht
   obtain ⟨⟨ng,zs⟩,m⟩:=t
   simp only at h1 h2 h3 h4 h5 hsm
   have H4:=hid h4
   have H5:=hid h5
   obtain ⟨am,cm,rfl⟩:=h4.form
   obtain ⟨ao,co,rfl⟩:=h5.form
   have g1:=Ext.cell hx h1
   have g2:=Ext.cell hx h2
   have g3:=Ext.cell hx h3
   have X0:=hid (hx.alloc (.cells #[.bool ng,.slice am zs.length cm,.slice ao m.length co] 50))
   have L0:=fun X:Later (wr.alloc (.cells #[.bool ng,.slice am zs.length cm,.slice ao m.length co] 50)) => X.h.new_cell (i:=0) (v:=.bool ng) rfl
   have L1:=fun X:Later (wr.alloc (.cells #[.bool ng,.slice am zs.length cm,.slice ao m.length co] 50)) => X.h.new_cell (i:=1) (v:=.slice am zs.length cm) rfl
   have L2:=fun X:Later (wr.alloc (.cells #[.bool ng,.slice am zs.length cm,.slice ao m.length co] 50)) => X.h.new_cell (i:=2) (v:=.slice ao m.length co) rfl
   have HX:=hid hx
   have HSM:=hid hsm
   clear hm ht h1 h2 h3 h4 h5 hx hat hsm
   cases k with
   | zero =>
    simp only [Nat.zero_mul,Nat.add_zero] at g1 g2 g3
    obtain ⟨sgn,hs⟩:∃ s,z1l (valI ⟨ng,zs⟩) = s:=⟨_,rfl⟩
    by_cases hc0:sgn = 0
    ·subst hc0
     have CS:=fun (W:World) (h:IntV S W (.agg #[.bool ng,.slice am zs.length cm]) ⟨ng,zs⟩) hs => z1m (S:=S) _ _ W h hs (Nat.le_trans HSM.out (by decide))
     simp only [hs] at CS
     have HCS:=hid CS
     clear CS
     have HF:Hid (mayT ts = false):=hid (by rw [HM.out,za1 hs]; rfl)
     clear hs
     go_wp2
     refine z03 (by kernel_rfl) (by kernel_rfl) ?_
     repeat (go_big_quiet_step (first | (go_at_call 44; exact Later.done (HCS.out _ (z2x (H4.out.ext (X0.out.trans (Later.h _)) hS)) (z08 hS (X0.out.trans (Later.h _)))))))
     refine wpQuiet_nil ?_
     intro W hW
     have HW:=hid (X0.out.trans hW)
     clear hW
     go_wp2
     all_goals
      go_ret
      exact ⟨by rw [HF.out]; rfl,HW.out⟩
    ·have hb0:(sgn == 0) = false:=by rw [beq_eq_false_iff_ne]; exact hc0
     have hsr:-1 ≤ sgn ∧ sgn ≤ 1:=by rw [← hs]; unfold z1l; rcases z4p (valI ⟨ng,zs⟩) 0 with h | h | h <;> omega
     obtain ⟨hsr1,hsr2⟩:=hsr
     cases hi:mayI ⟨ng,zs⟩ with
     | false =>
      have CS:=fun (W:World) (h:IntV S W (.agg #[.bool ng,.slice am zs.length cm]) ⟨ng,zs⟩) hs => z1m (S:=S) _ _ W h hs (Nat.le_trans HSM.out (by decide))
      simp only [hs] at CS
      have HCS:=hid CS
      clear CS
      have CM:=fun (W:World) (h:IntV S W (.agg #[.bool ng,.slice am zs.length cm]) ⟨ng,zs⟩) hs => z4y (S:=S) _ _ W h hs
      simp only [hi] at CM
      have HCM:=hid CM
      clear CM
      have HF:Hid (mayT ts = false):=hid (by rw [HM.out,zb5 hi]; rfl)
      clear hs
      clear hi
      go_wp2
      refine z03 (by kernel_rfl) (by kernel_rfl) ?_
      repeat (go_big_quiet_step (first | (go_at_call 44; exact Later.done (HCS.out _ (z2x (H4.out.ext (X0.out.trans (Later.h _)) hS)) (z08 hS (X0.out.trans (Later.h _))))) | (go_at_call 45; exact Later.done (HCM.out _ (z2x (H4.out.ext (X0.out.trans (Later.h _)) hS)) (z08 hS (X0.out.trans (Later.h _)))))))
      refine wpQuiet_nil ?_
      intro W hW
      have HW:=hid (X0.out.trans hW)
      clear hW
      go_wp2
      all_goals
       go_ret
       exact ⟨by rw [HF.out]; rfl,HW.out⟩
     | true =>
      cases hq:mayM m with
      | false =>
       have CS:=fun (W:World) (h:IntV S W (.agg #[.bool ng,.slice am zs.length cm]) ⟨ng,zs⟩) hs => z1m (S:=S) _ _ W h hs (Nat.le_trans HSM.out (by decide))
       simp only [hs] at CS
       have HCS:=hid CS
       clear CS
       have CM:=fun (W:World) (h:IntV S W (.agg #[.bool ng,.slice am zs.length cm]) ⟨ng,zs⟩) hs => z4y (S:=S) _ _ W h hs
       simp only [hi] at CM
       have HCM:=hid CM
       clear CM
       have CQ:=fun (W:World) (h:Pows S W (.slice ao m.length co) m) hs => z32 (S:=S) _ _ W h hs
       simp only [hq] at CQ
       have HCQ:=hid CQ
       clear CQ
       have HF:Hid (mayT ts = false):=hid (by rw [HM.out,za2 hq]; rfl)
       clear hs
       clear hi
       clear hq
       go_wp2
       refine z03 (by kernel_rfl) (by kernel_rfl) ?_
       repeat (go_big_quiet_step (first | (go_at_call 44; exact Later.done (HCS.out _ (z2x (H4.out.ext (X0.out.trans (Later.h _)) hS)) (z08 hS (X0.out.trans (Later.h _))))) | (go_at_call 45; exact Later.done (HCM.out _ (z2x (H4.out.ext (X0.out.trans (Later.h _)) hS)) (z08 hS (X0.out.trans (Later.h _))))) | (go_at_call 46; exact Later.done (HCQ.out _ (H5.out.ext (X0.out.trans (Later.h _)) hS) (z08 hS (X0.out.trans (Later.h _)))))))
       refine wpQuiet_nil ?_
       intro W hW
       have HW:=hid (X0.out.trans hW)
       clear hW
       go_wp2
       all_goals
        go_ret
        exact ⟨by rw [HF.out]; rfl,HW.out⟩
      | true =>
       have CS:=fun (W:World) (h:IntV S W (.agg #[.bool ng,.slice am zs.length cm]) ⟨ng,zs⟩) hs => z1m (S:=S) _ _ W h hs (Nat.le_trans HSM.out (by decide))
       simp only [hs] at CS
       have HCS:=hid CS
       clear CS
       have CM:=fun (W:World) (h:IntV S W (.agg #[.bool ng,.slice am zs.length cm]) ⟨ng,zs⟩) hs => z4y (S:=S) _ _ W h hs
       simp only [hi] at CM
       have HCM:=hid CM
       clear CM
       have CQ:=fun (W:World) (h:Pows S W (.slice ao m.length co) m) hs => z32 (S:=S) _ _ W h hs
       simp only [hq] at CQ
       have HCQ:=hid CQ
       clear CQ
       have HF:Hid (mayT ts = z4x (befT ts (0 + 1)) (ts.drop (0 + 1))):=hid (by rw [HM.out,zb6 (by rw [hs]; exact hc0) hi hq]; rfl)
       clear hs
       clear hi
       clear hq
       go_wp2
       refine z03 (by kernel_rfl) (by kernel_rfl) ?_
       repeat (go_big_quiet_step (first | (go_at_call 44; exact Later.done (HCS.out _ (z2x (H4.out.ext (X0.out.trans (Later.h _)) hS)) (z08 hS (X0.out.trans (Later.h _))))) | (go_at_call 45; exact Later.done (HCM.out _ (z2x (H4.out.ext (X0.out.trans (Later.h _)) hS)) (z08 hS (X0.out.trans (Later.h _))))) | (go_at_call 46; exact Later.done (HCQ.out _ (H5.out.ext (X0.out.trans (Later.h _)) hS) (z08 hS (X0.out.trans (Later.h _)))))))
       refine wpQuiet_nil ?_
       intro W hW
       have HW:=hid (X0.out.trans hW)
       clear hW
       go_wp2
       go_roundw
       case rel => exact ⟨_,by omega,by go_num,HW.out,HF.out⟩
       case measure => simp only [intOf]; omega
   | succ k =>
    obtain ⟨u,hu⟩:=z01 (show k < ts.length by omega)
    obtain ⟨b',off',vmu,vou,hbb,-,-,-,-,u1,u2,u3,u4,u5⟩:=H.out.cellAt hu
    obtain ⟨rfl,rfl⟩:b = b' ∧ off = off':=by simpa using hbb
    have HP5:=hid u5
    obtain ⟨ap,cp,rfl⟩:=u5.form
    have HBF:Hid (befT ts (k + 1) = some u):=hid hu
    have L3:=fun X:Later (wr.alloc (.cells #[.bool ng,.slice am zs.length cm,.slice ao m.length co] 50)) => X.cell (X0.out.cell u3)
    have hq0:((k:Nat):Int) + 1 - 1 = (k:Int):=by omega
    clear u1 u2 u3 u4 u5 hu hbb
    obtain ⟨sgn,hs⟩:∃ s,z1l (valI ⟨ng,zs⟩) = s:=⟨_,rfl⟩
    by_cases hc0:sgn = 0
    ·subst hc0
     have CS:=fun (W:World) (h:IntV S W (.agg #[.bool ng,.slice am zs.length cm]) ⟨ng,zs⟩) hs => z1m (S:=S) _ _ W h hs (Nat.le_trans HSM.out (by decide))
     simp only [hs] at CS
     have HCS:=hid CS
     clear CS
     have HF:Hid (mayT ts = false):=hid (by rw [HM.out,za1 hs]; rfl)
     clear hs
     go_wp2
     refine z03 (by kernel_rfl) (by kernel_rfl) ?_
     repeat (go_big_quiet_step (first | (go_at_call 44; exact Later.done (HCS.out _ (z2x (H4.out.ext (X0.out.trans (Later.h _)) hS)) (z08 hS (X0.out.trans (Later.h _)))))))
     refine wpQuiet_nil ?_
     intro W hW
     have HW:=hid (X0.out.trans hW)
     clear hW
     go_wp2
     all_goals
      go_ret
      exact ⟨by rw [HF.out]; rfl,HW.out⟩
    ·have hb0:(sgn == 0) = false:=by rw [beq_eq_false_iff_ne]; exact hc0
     have hsr:-1 ≤ sgn ∧ sgn ≤ 1:=by rw [← hs]; unfold z1l; rcases z4p (valI ⟨ng,zs⟩) 0 with h | h | h <;> omega
     obtain ⟨hsr1,hsr2⟩:=hsr
     cases hi:mayI ⟨ng,zs⟩ with
     | false =>
      have CS:=fun (W:World) (h:IntV S W (.agg #[.bool ng,.slice am zs.length cm]) ⟨ng,zs⟩) hs => z1m (S:=S) _ _ W h hs (Nat.le_trans HSM.out (by decide))
      simp only [hs] at CS
      have HCS:=hid CS
      clear CS
      have CM:=fun (W:World) (h:IntV S W (.agg #[.bool ng,.slice am zs.length cm]) ⟨ng,zs⟩) hs => z4y (S:=S) _ _ W h hs
      simp only [hi] at CM
      have HCM:=hid CM
      clear CM
      have HF:Hid (mayT ts = false):=hid (by rw [HM.out,zb5 hi]; rfl)
      clear hs
      clear hi
      go_wp2
      refine z03 (by kernel_rfl) (by kernel_rfl) ?_
      repeat (go_big_quiet_step (first | (go_at_call 44; exact Later.done (HCS.out _ (z2x (H4.out.ext (X0.out.trans (Later.h _)) hS)) (z08 hS (X0.out.trans (Later.h _))))) | (go_at_call 45; exact Later.done (HCM.out _ (z2x (H4.out.ext (X0.out.trans (Later.h _)) hS)) (z08 hS (X0.out.trans (Later.h _)))))))
      refine wpQuiet_nil ?_
      intro W hW
      have HW:=hid (X0.out.trans hW)
      clear hW
      go_wp2
      all_goals
       go_ret
       exact ⟨by rw [HF.out]; rfl,HW.out⟩
     | true =>
      cases hq:mayM m with
      | false =>
       have CS:=fun (W:World) (h:IntV S W (.agg #[.bool ng,.slice am zs.length cm]) ⟨ng,zs⟩) hs => z1m (S:=S) _ _ W h hs (Nat.le_trans HSM.out (by decide))
       simp only [hs] at CS
       have HCS:=hid CS
       clear CS
       have CM:=fun (W:World) (h:IntV S W (.agg #[.bool ng,.slice am zs.length cm]) ⟨ng,zs⟩) hs => z4y (S:=S) _ _ W h hs
       simp only [hi] at CM
       have HCM:=hid CM
       clear CM
       have CQ:=fun (W:World) (h:Pows S W (.slice ao m.length co) m) hs => z32 (S:=S) _ _ W h hs
       simp only [hq] at CQ
       have HCQ:=hid CQ
       clear CQ
       have HF:Hid (mayT ts = false):=hid (by rw [HM.out,za2 hq]; rfl)
       clear hs
       clear hi
       clear hq
       go_wp2
       refine z03 (by kernel_rfl) (by kernel_rfl) ?_
       repeat (go_big_quiet_step (first | (go_at_call 44; exact Later.done (HCS.out _ (z2x (H4.out.ext (X0.out.trans (Later.h _)) hS)) (z08 hS (X0.out.trans (Later.h _))))) | (go_at_call 45; exact Later.done (HCM.out _ (z2x (H4.out.ext (X0.out.trans (Later.h _)) hS)) (z08 hS (X0.out.trans (Later.h _))))) | (go_at_call 46; exact Later.done (HCQ.out _ (H5.out.ext (X0.out.trans (Later.h _)) hS) (z08 hS (X0.out.trans (Later.h _)))))))
       refine wpQuiet_nil ?_
       intro W hW
       have HW:=hid (X0.out.trans hW)
       clear hW
       go_wp2
       all_goals
        go_ret
        exact ⟨by rw [HF.out]; rfl,HW.out⟩
      | true =>
       obtain ⟨od,ho⟩:∃ s,z4e u.m m = s:=⟨_,rfl⟩
       have hor:-1 ≤ od ∧ od ≤ 1:=by rw [← ho]; exact z6v _ _
       obtain ⟨hor1,hor2⟩:=hor
       by_cases hc1:od ≤ 0
       ·have hb1:decide (od ≤ 0) = true:=by simpa using hc1
        have CS:=fun (W:World) (h:IntV S W (.agg #[.bool ng,.slice am zs.length cm]) ⟨ng,zs⟩) hs => z1m (S:=S) _ _ W h hs (Nat.le_trans HSM.out (by decide))
        simp only [hs] at CS
        have HCS:=hid CS
        clear CS
        have CM:=fun (W:World) (h:IntV S W (.agg #[.bool ng,.slice am zs.length cm]) ⟨ng,zs⟩) hs => z4y (S:=S) _ _ W h hs
        simp only [hi] at CM
        have HCM:=hid CM
        clear CM
        have CQ:=fun (W:World) (h:Pows S W (.slice ao m.length co) m) hs => z32 (S:=S) _ _ W h hs
        simp only [hq] at CQ
        have HCQ:=hid CQ
        clear CQ
        have CO:=fun (W:World) (h1:Pows S W (.slice ap u.m.length cp) u.m) (h2:Pows S W (.slice ao m.length co) m) hs => z7b (S:=S) _ _ _ _ W h1 h2 hs
        simp only [ho] at CO
        have HCO:=hid CO
        clear CO
        have HF:Hid (mayT ts = false):=hid (by rw [HM.out,HBF.out]; simp only; rw [ho,decide_eq_false (by omega)]; simp)
        clear hs
        clear hi
        clear hq
        clear ho
        go_wp2
        refine z03 (by kernel_rfl) (by kernel_rfl) ?_
        repeat (go_big_quiet_step (first | (go_at_call 44; exact Later.done (HCS.out _ (z2x (H4.out.ext (X0.out.trans (Later.h _)) hS)) (z08 hS (X0.out.trans (Later.h _))))) | (go_at_call 45; exact Later.done (HCM.out _ (z2x (H4.out.ext (X0.out.trans (Later.h _)) hS)) (z08 hS (X0.out.trans (Later.h _))))) | (go_at_call 46; exact Later.done (HCQ.out _ (H5.out.ext (X0.out.trans (Later.h _)) hS) (z08 hS (X0.out.trans (Later.h _))))) | (go_at_call 47; exact Later.done (HCO.out _ (HP5.out.ext (X0.out.trans (Later.h _)) hS) (H5.out.ext (X0.out.trans (Later.h _)) hS) (z08 hS (X0.out.trans (Later.h _)))))))
        refine wpQuiet_nil ?_
        intro W hW
        have HW:=hid (X0.out.trans hW)
        clear hW
        go_wp2
        all_goals
         go_ret
         exact ⟨by rw [HF.out]; rfl,HW.out⟩
       ·have hb1:decide (od ≤ 0) = false:=by simpa using hc1
        have CS:=fun (W:World) (h:IntV S W (.agg #[.bool ng,.slice am zs.length cm]) ⟨ng,zs⟩) hs => z1m (S:=S) _ _ W h hs (Nat.le_trans HSM.out (by decide))
        simp only [hs] at CS
        have HCS:=hid CS
        clear CS
        have CM:=fun (W:World) (h:IntV S W (.agg #[.bool ng,.slice am zs.length cm]) ⟨ng,zs⟩) hs => z4y (S:=S) _ _ W h hs
        simp only [hi] at CM
        have HCM:=hid CM
        clear CM
        have CQ:=fun (W:World) (h:Pows S W (.slice ao m.length co) m) hs => z32 (S:=S) _ _ W h hs
        simp only [hq] at CQ
        have HCQ:=hid CQ
        clear CQ
        have CO:=fun (W:World) (h1:Pows S W (.slice ap u.m.length cp) u.m) (h2:Pows S W (.slice ao m.length co) m) hs => z7b (S:=S) _ _ _ _ W h1 h2 hs
        simp only [ho] at CO
        have HCO:=hid CO
        clear CO
        have HF:Hid (mayT ts = z4x (befT ts (k + 1 + 1)) (ts.drop (k + 1 + 1))):=hid (by rw [HM.out,HBF.out,zb6 (by rw [hs]; exact hc0) hi hq]; simp only; rw [ho,decide_eq_true (by omega)]; simp)
        clear hs
        clear hi
        clear hq
        clear ho
        go_wp2
        refine z03 (by kernel_rfl) (by kernel_rfl) ?_
        repeat (go_big_quiet_step (first | (go_at_call 44; exact Later.done (HCS.out _ (z2x (H4.out.ext (X0.out.trans (Later.h _)) hS)) (z08 hS (X0.out.trans (Later.h _))))) | (go_at_call 45; exact Later.done (HCM.out _ (z2x (H4.out.ext (X0.out.trans (Later.h _)) hS)) (z08 hS (X0.out.trans (Later.h _))))) | (go_at_call 46; exact Later.done (HCQ.out _ (H5.out.ext (X0.out.trans (Later.h _)) hS) (z08 hS (X0.out.trans (Later.h _))))) | (go_at_call 47; exact Later.done (HCO.out _ (HP5.out.ext (X0.out.trans (Later.h _)) hS) (H5.out.ext (X0.out.trans (Later.h _)) hS) (z08 hS (X0.out.trans (Later.h _)))))))
        refine wpQuiet_nil ?_
        intro W hW
        have HW:=hid (X0.out.trans hW)
        clear hW
        go_wp2
        go_roundw
        case rel => exact ⟨_,by omega,by go_num,HW.out,HF.out⟩
        case measure => simp only [intOf]; omega
  ·obtain rfl:k = ts.length:=by omega
   have HX:=hid hx
   have HF:Hid (mayT ts = true):=hid (by rw [hm,List.drop_length]; rfl)
   clear hx hm
   go_wp2
   all_goals
    go_ret
    exact ⟨by rw [HF.out]; rfl,HX.out⟩
end
section
open Go.RowKit
def z4c (zs:List Nat):Nat → Nat
 | 0 => 0
 | k + 1 => if zs.getD k 0 = 0 then z4c zs k else k + 1
theorem zkh (zs:List Nat) (k:Nat):z4c zs k ≤ k:=by
 induction k with
 | zero => simp [z4c]
 | succ k ih => simp only [z4c]; split <;> omega
def z1p (ts:List RTerm):Nat → Nat
 | 0 => 0
 | k + 1 => max (z1p ts k) (z4c (ts.getD k default).c.mag (ts.getD k default).c.mag.length)
theorem zfg {S:Nat → Prop} {w:World} {v:Value} {ts:List RTerm} (h:z06 S w v ts) (k:Nat) (hk:k ≤ ts.length):z1p ts k ≤ 9223372036854775807:=by
 induction k with
 | zero => simp [z1p]
 | succ k ih =>
  have ih:=ih (by omega)
  obtain ⟨b,off,hs,hc⟩:=h
  obtain ⟨t,ht⟩:=z01 (show k < ts.length by omega)
  obtain ⟨vm,vo,h1,h2,h3,h4,h5⟩:=hc k t ht
  have h6:=h4.len_le
  have h7:=zkh t.c.mag t.c.mag.length
  simp only [z1p,List.getD,ht,Option.getD_some]
  omega
theorem zki {S:Nat → Prop} (bn:Nat) (v:Value) (zs:List Nat) (n:Nat) (w:World) (h:U32s S w v zs)
  (hn:w.cell? ⟨bn,0,none⟩ = some (.int .i64 n)) (hf:w.frozen? ⟨bn,0,none⟩ = false) :
  Calls Tryz.prog 132 #[v,.pointer (some ⟨bn,0,none⟩)] w fun e w' => e = .returned (.tuple #[]) ∧ w.setCell ⟨bn,0,none⟩ (.int .i64 (max n (z4c zs zs.length):Nat)) = w':=by
 have hl:=h.len_le
 obtain ⟨b,off,⟨a,cap,rfl,hcap,hmax,ha,_⟩,hc⟩:=h
 go_enter Tryz.func132,Tryz.ntmps132
 go_wp2
 go_loop [3] (fun i => ∃ k:Nat,k ≤ zs.length ∧ i = .int .i64 k ∧ z4c zs k = z4c zs zs.length) (fun i => (intOf i).toNat)
 case atStart => exact ⟨zs.length,Nat.le_refl _,rfl,rfl⟩
 case round =>
  obtain ⟨k,hk,rfl,ht⟩:=hrel
  cases k with
  | zero =>
   have H:=hid ht
   clear ht hc ha
   go_wp2
   all_goals
    go_end0
    refine ⟨rfl,?_⟩
    rw [← H.out]
    simp [z4c]
  | succ k =>
   obtain rfl:=ha (by omega)
   obtain ⟨z,hz⟩:=z01 (show k < zs.length by omega)
   obtain ⟨hzb,hcell⟩:=hc k z hz
   have H:=hid ht
   have HZ:=hid hz
   clear ht hc ha hz
   by_cases h0:z = 0
   ·have hb:((z:Int) == 0) = true:=by simpa using h0
    have H0:=hid h0
    clear h0
    go_wp2
    go_round
    case rel => exact ⟨k,by omega,rfl,by rw [← H.out]; simp [z4c,HZ.out,H0.out]⟩
    case measure => simp only [intOf]; omega
   ·have hb:((z:Int) == 0) = false:=by simpa using h0
    have H0:=hid h0
    clear h0
    go_wp2
    all_goals
     go_end0
     refine ⟨rfl,?_⟩
     rw [← H.out]
     simp only [z4c,List.getD,HZ.out,Option.getD_some]
     rw [if_neg H0.out]
     congr 2
     omega
theorem zb7 {S:Nat → Prop} (v:Value) (ts:List RTerm) (w:World) (h:z06 S w v ts) (hS:∀ k,S k → k < w.heap.size) :
  Calls Tryz.prog 112 #[v] w fun e w' => e = .returned (.int .i64 (z1p ts ts.length:Nat)) ∧ Ext w w':=by
 have hmf:∀ (fn:Fn) (first cap:Array Value) (w:World),(Instr.makeFunc fn first cap).run Tryz.prog w = .ok (.func fn first cap) w:=fun _ _ _ _ => rfl
 have hl:=h.len_le
 have HT:=hid h
 obtain ⟨b,off,⟨a,cap,rfl,hcap,hmax,ha,hin⟩,hc⟩:=h
 have HC:=hid hc
 clear hc
 go_enter Tryz.func112,Tryz.ntmps112
 go_wp2
 go_loopw [9] (fun i wr => ∃ k:Nat,k ≤ ts.length ∧ i = .int .i64 k ∧ wr.cell? ⟨w.heap.size,0,none⟩ = some (.int .i64 (z1p ts k:Nat)) ∧ wr.frozen? ⟨w.heap.size,0,none⟩ = false ∧ Ext w wr) (fun i _ => ts.length - (intOf i).toNat)
 case atStart => exact ⟨0,Nat.zero_le _,rfl,by simp [z1p],by simp,Ext.alloc (Ext.refl _) _⟩
 case round =>
  obtain ⟨k,hk,rfl,hn,hf,hx⟩:=hrel
  have HX:=hid hx
  by_cases hlt:k < ts.length
  ·obtain ⟨t,ht⟩:=z01 hlt
   obtain ⟨vm,vo,h1,h2,h3,h4,h5⟩:=HC.out k t ht
   have HK:=hid ht
   obtain rfl:=ha (by omega)
   have g1:=Ext.cell hx h1
   have g2:=Ext.cell hx h2
   have g3:=Ext.cell hx h3
   have H4:=hid (h4.to (Kept.of_below hx |>.mono hS) (fun k hk => hk))
   obtain ⟨am,cm,rfl⟩:=h4.form
   obtain ⟨ao,co,rfl⟩:=h5.form
   clear h1 h2 h3 h4 h5 hx ht
   go_wp2_with fail
   refine (zki (S:=S) w.heap.size _ t.c.mag (z1p ts k) _ ?_ (cell_old _ hn) (zin _ (z0s hn) hf)).mono ?_
   ·exact H4.out.to (Kept.alloc (fun k hk => Nat.lt_of_lt_of_le (hS k hk) HX.out.size) _) (fun k hk => hk)
   rintro e w' ⟨rfl,rfl⟩
   have hb:=z0s hn
   go_wp2
   go_roundw
   case rel =>
    refine ⟨k + 1,by omega,by go_num,?_,zin _ (by rw [z07]; exact hb) (z16 hf),(HX.out.setCell (p:=⟨w.heap.size,0,none⟩) (Nat.le_refl _) _).alloc (by rw [z07]; omega) _⟩
    have e:z1p ts (k + 1) = max (z1p ts k) (z4c t.c.mag t.c.mag.length):=by simp [z1p,List.getD,HK.out]
    rw [e]
    exact cell_old _ (z1h hn)
   case measure => simp only [intOf]; omega
  ·obtain rfl:k = ts.length:=by omega
   go_wp2
   refine bodyPost_ret (v:=.int .i64 (z1p ts ts.length:Nat)) (by simp [results,Tryz.results112,go_sem,z1h hn]) rfl ⟨rfl,HX.out.setCell (p:=⟨w.heap.size,0,none⟩) (Nat.le_refl _) _⟩
end
section
open Go.RowKit
theorem zra (b o:Nat) (n most e:Int) (w:World) (hn:w.cell? ⟨b,o,none⟩ = some (.int .i64 n)) (hf:w.frozen? ⟨b,o,none⟩ = false) (h0:0 ≤ n) (h1:n ≤ 1000000000) (hlt:n < most) :
  Calls Tryz.prog 136 #[.pointer (some ⟨b,0,none⟩),.pointer (some ⟨b,o,none⟩),.int .i64 most,.int .i64 e] w fun r w' => r = .returned (.int .i64 0) ∧ w.setCell ⟨b,o,none⟩ (.int .i64 (n + 1)) = w':=by
 go_enter Tryz.func136,Tryz.ntmps136
 go_wp2_with (first | (go_at_call 147; refine (zim _ n _ hn).mono ?_; rintro e w' ⟨rfl,rfl⟩) | (go_at_call 148; refine (zqw _ n _ hn hf h0 h1).mono ?_; rintro e w' ⟨rfl,rfl⟩))
 go_ret
 exact ⟨rfl,rfl⟩
theorem zrb (b o:Nat) (s:MSt) (n most e:Int) (w:World) (h:MeterAt w b s) (hn:w.cell? ⟨b,o,none⟩ = some (.int .i64 n)) (he:e ≠ 0) (hlt:most ≤ n) (hm:-1 ≤ most) (hm':most ≤ 1000000000) :
  Calls Tryz.prog 136 #[.pointer (some ⟨b,0,none⟩),.pointer (some ⟨b,o,none⟩),.int .i64 most,.int .i64 e] w (Met w b e (s.refuse e (most + 1))):=by
 have H:=hid h
 have HE:=hid he
 clear h he
 go_enter Tryz.func136,Tryz.ntmps136
 go_wp2_with (first | (go_at_call 147; refine (zim _ n _ hn).mono ?_; rintro e w' ⟨rfl,rfl⟩) | (go_at_call 110; refine (z78 b s e (most + 1) _ H.out HE.out).mono ?_; rintro e w' ⟨rfl,hq⟩))
 go_ret
 exact ⟨rfl,hq⟩
def MSt.step (s:MSt):Int × MSt:=if s.st < s.fu then (0,{ s with st:=s.st + 1 }) else (9,s.refuse 9 (s.fu + 1))
structure MSt.Ok (s:MSt):Prop where
 f0:0 ≤ s.fu
 f1:s.fu ≤ 1000000
 l0:0 ≤ s.li
 l1:s.li ≤ 10000
 t0:0 ≤ s.te
 t1:s.te ≤ 100000
 p0:0 ≤ s.pi
 p1:s.pi ≤ 1000
 s0:0 ≤ s.st
 s1:s.st ≤ s.fu
 c0:0 ≤ s.pc
 c1:s.pc ≤ s.pi
theorem MeterAt.drew {w:World} {b:Nat} {s:MSt} (h:MeterAt w b s):MeterAt w.drew b s:=h.grown (r:=none) (zdr (z4u w none)) (by simp)
theorem MeterAt.setSt {w:World} {b:Nat} {s:MSt} (h:MeterAt w b s) (n:Int):MeterAt (w.setCell ⟨b,4,none⟩ (.int .i64 n)) b { s with st:=n } :=
 ⟨z09 h.c0 (ao (by omega)),z09 h.c1 (ao (by omega)),z09 h.c2 (ao (by omega)),z09 h.c3 (ao (by omega)),z1h h.c4,z09 h.c5 (ao (by omega)),z09 h.c6 (ao (by omega)),z09 h.c7 (ao (by omega)),z09 h.c8 (ao (by omega)),z09 h.c9 (ao (by omega)),z09 h.c10 (ao (by omega)),fun i => z16 (h.fz i)⟩
theorem Met.of_drew {w:World} {b:Nat} {r:Int} {s:MSt} {e:Ending} {w':World} (h:Met w.drew b r s e w'):Met w b r s e w' :=
 ⟨h.1,h.2.1,z1a (zdr (z4u w _)) h.2.2⟩
theorem zrc (b:Nat) (s:MSt) (w:World) (h:MeterAt w b s) (ok:s.Ok) :
  Calls Tryz.prog 120 #[.pointer (some ⟨b,0,none⟩)] w (Met w b s.step.1 s.step.2):=by
 have hfu:=h.c0
 have hst:w.drew.cell? ⟨b,4,none⟩ = some (.int .i64 s.st):=by rw [World.cell?_drew]; exact h.c4
 have hf:w.drew.frozen? ⟨b,4,none⟩ = false:=by rw [World.frozen?_drew]; exact h.fz 4
 have b1:=ok.f0
 have b2:=ok.f1
 have b3:=ok.s0
 have b4:=ok.s1
 have H:=hid h.drew
 clear h ok
 by_cases hlt:s.st < s.fu
 ·have e1:s.step = (0,{ s with st:=s.st + 1 }):=by simp [MSt.step,hlt]
  rw [e1]
  clear e1
  go_enter Tryz.func120,Tryz.ntmps120
  go_wp2
  go_still_tail 9,(by kernel_rfl)
  change wpList _ _ _ _ _ w.drew
  go_wp2_with (go_at_call 136; refine (zra b 4 s.st s.fu 9 w.drew hst hf b3 (by omega) hlt).mono ?_; rintro e w' ⟨rfl,rfl⟩)
  go_ret
  exact Met.of_drew ⟨rfl,H.out.setSt _,z3s (z4u _ _) rfl _⟩
 ·have e1:s.step = (9,s.refuse 9 (s.fu + 1)):=by simp [MSt.step,hlt]
  rw [e1]
  clear e1
  go_enter Tryz.func120,Tryz.ntmps120
  go_wp2
  go_still_tail 9,(by kernel_rfl)
  change wpList _ _ _ _ _ w.drew
  go_wp2_with (go_at_call 136; refine (zrb b 4 s s.st s.fu 9 w.drew H.out hst (by decide) (by omega) (by omega) (by omega)).mono ?_; rintro e w' ⟨rfl,hq⟩)
  go_ret
  exact Met.of_drew ⟨rfl,hq⟩
def MSt.refused (s:MSt) (e:Int):MSt:=if e = 8 then s.refuse 8 0 else s
theorem zkj (b:Nat) (s:MSt) (e:Int) (w:World) (h:MeterAt w b s) :
  Calls Tryz.prog 75 #[.pointer (some ⟨b,0,none⟩),.int .i64 e] w (Met w b e (s.refused e)):=by
 have H:=hid h
 clear h
 by_cases he:e = 8
 ·subst he
  have e1:s.refused 8 = s.refuse 8 0:=by simp [MSt.refused]
  rw [e1]
  clear e1
  go_enter Tryz.func75,Tryz.ntmps75
  go_wp2_with (go_at_call 110; refine (z78 b s 8 0 _ H.out (by decide)).mono ?_; rintro e w' ⟨rfl,hq⟩)
  go_ret
  exact ⟨rfl,hq⟩
 ·have e1:s.refused e = s:=by simp [MSt.refused,he]
  have hb:(e == 8) = false:=by simpa using he
  rw [e1]
  clear e1 he
  go_enter Tryz.func75,Tryz.ntmps75
  go_wp2
  go_ret
  exact ⟨rfl,H.out,z4u _ _⟩
end
section
open Go.RowKit
theorem z11 {w w':World} (h:Ext w w') (r:Option Nat):w.grownBy w' r:=⟨h.os,h.tape,h.output,h.size,fun k hk _ => h.block k hk⟩
def MSt.keep (s:MSt) (n len:Nat):Int × MSt:=if s.li < n then (10,s.refuse 10 n) else if s.te < len then (11,s.refuse 11 len) else (0,s)
theorem zrd {S:Nat → Prop} (b:Nat) (s:MSt) (v:Value) (ts:List RTerm) (w:World) (h:MeterAt w b s) (ht:z06 S w v ts) (hS:∀ k,S k → k < w.heap.size) :
  Calls Tryz.prog 78 #[.pointer (some ⟨b,0,none⟩),v] w (Met w b (s.keep (z1p ts ts.length) ts.length).1 (s.keep (z1p ts ts.length) ts.length).2):=by
 have hb:=z0s h.c0
 have hll:=zfg ht ts.length (Nat.le_refl _)
 have hlen:=ht.len_le
 obtain ⟨a,cap,rfl⟩:=ht.form
 have HT:=hid ht
 generalize hn:z1p ts ts.length = n at hll
 have HN:=hid hn
 have H:=hid h
 clear ht h hn
 by_cases h1:s.li < n
 ·have e1:s.keep n ts.length = (10,s.refuse 10 n):=by simp [MSt.keep,h1]
  rw [e1]
  clear e1
  go_enter Tryz.func78,Tryz.ntmps78
  go_wp2_with fail
  refine (zb7 _ ts _ HT.out hS).mono ?_
  rintro e w' ⟨rfl,hx⟩
  rw [HN.out]
  have q1:=(H.out.kept hx hb).c1
  have HX:=hid hx
  clear hx
  go_wp2_with (go_at_call 110; refine (z78 b s 10 n _ (H.out.kept HX.out hb) (by decide)).mono ?_; rintro e w'' ⟨rfl,hq⟩)
  go_ret
  exact ⟨rfl,hq.1,z1a (z11 HX.out _) hq.2⟩
 by_cases h2:s.te < ts.length
 ·have e1:s.keep n ts.length = (11,s.refuse 11 ts.length):=by simp [MSt.keep,h1,h2]
  rw [e1]
  clear e1
  go_enter Tryz.func78,Tryz.ntmps78
  go_wp2_with fail
  refine (zb7 _ ts _ HT.out hS).mono ?_
  rintro e w' ⟨rfl,hx⟩
  rw [HN.out]
  have q1:=(H.out.kept hx hb).c1
  have q2:=(H.out.kept hx hb).c2
  have HX:=hid hx
  clear hx
  go_wp2_with (go_at_call 110; refine (z78 b s 11 ts.length _ (H.out.kept HX.out hb) (by decide)).mono ?_; rintro e w'' ⟨rfl,hq⟩)
  go_ret
  exact ⟨rfl,hq.1,z1a (z11 HX.out _) hq.2⟩
 ·have e1:s.keep n ts.length = (0,s):=by simp [MSt.keep,h1,h2]
  rw [e1]
  clear e1
  go_enter Tryz.func78,Tryz.ntmps78
  go_wp2_with fail
  refine (zb7 _ ts _ HT.out hS).mono ?_
  rintro e w' ⟨rfl,hx⟩
  rw [HN.out]
  have q1:=(H.out.kept hx hb).c1
  have q2:=(H.out.kept hx hb).c2
  have HX:=hid hx
  clear hx
  go_wp2_with fail
  go_ret
  exact ⟨rfl,H.out.kept HX.out hb,z11 HX.out _⟩
def MSt.new (a b c d:Int):MSt:=⟨a,b,c,d,0,0,0,0⟩
def z45 (a b c d:Int):Prop:=(0 ≤ a ∧ a ≤ 1000000) ∧ (0 ≤ b ∧ b ≤ 10000) ∧ (0 ≤ c ∧ c ≤ 100000) ∧ 0 ≤ d ∧ d ≤ 1000
def zmo (a b c d:Int) (w:World):Ending → World → Prop:=fun e w' =>
 Ext w w' ∧ ((z45 a b c d ∧ ∃ k,w.heap.size ≤ k ∧ MeterAt w' k (MSt.new a b c d) ∧ e = .returned (.tuple #[.pointer (some ⟨k,0,none⟩),.int .i64 0])) ∨
  (¬ z45 a b c d ∧ e = .returned (.tuple #[.pointer none,.int .i64 2])))
def okTo (a b c d:Int) (k:Nat):Prop:=(0 < k → 0 ≤ a ∧ a ≤ 1000000) ∧ (1 < k → 0 ≤ b ∧ b ≤ 10000) ∧ (2 < k → 0 ≤ c ∧ c ≤ 100000) ∧ (3 < k → 0 ≤ d ∧ d ≤ 1000)
theorem z3f {a b c d:Int} {w w':World} {e:Ending} (h:¬ z45 a b c d) (hx:Ext w w') (he:e = .returned (.tuple #[.pointer none,.int .i64 2])):zmo a b c d w e w':=⟨hx,.inr ⟨h,he⟩⟩
theorem zvm (a b c d:Int) (w:World) :
  Calls Tryz.prog 6 #[.agg #[.int .i64 a,.int .i64 b,.int .i64 c,.int .i64 d]] w (zmo a b c d w):=by
 have i0:∀ w,(Instr.index 67 (.agg #[.int .i64 a,.int .i64 1000000,.int .i64 b,.int .i64 10000,.int .i64 c,.int .i64 100000,.int .i64 d,.int .i64 1000]) (.int .i64 0)).run Tryz.prog w = .ok (.agg #[.int .i64 a,.int .i64 1000000]) w:=fun _ => by kernel_rfl
 have i1:∀ w,(Instr.index 67 (.agg #[.int .i64 a,.int .i64 1000000,.int .i64 b,.int .i64 10000,.int .i64 c,.int .i64 100000,.int .i64 d,.int .i64 1000]) (.int .i64 1)).run Tryz.prog w = .ok (.agg #[.int .i64 b,.int .i64 10000]) w:=fun _ => by kernel_rfl
 have i2:∀ w,(Instr.index 67 (.agg #[.int .i64 a,.int .i64 1000000,.int .i64 b,.int .i64 10000,.int .i64 c,.int .i64 100000,.int .i64 d,.int .i64 1000]) (.int .i64 2)).run Tryz.prog w = .ok (.agg #[.int .i64 c,.int .i64 100000]) w:=fun _ => by kernel_rfl
 have i3:∀ w,(Instr.index 67 (.agg #[.int .i64 a,.int .i64 1000000,.int .i64 b,.int .i64 10000,.int .i64 c,.int .i64 100000,.int .i64 d,.int .i64 1000]) (.int .i64 3)).run Tryz.prog w = .ok (.agg #[.int .i64 d,.int .i64 1000]) w:=fun _ => by kernel_rfl
 have HX0:Hid (Ext w (w.alloc (.cells #[.int .i64 a,.int .i64 b,.int .i64 c,.int .i64 d] 38))):=hid (Ext.alloc (Ext.refl _) _)
 go_enter Tryz.func6,Tryz.ntmps6
 go_wp2
 go_loopw [19] (fun i wr => ∃ k:Nat,k ≤ 4 ∧ i = .int .i64 k ∧ okTo a b c d k ∧ Ext (w.alloc (.cells #[.int .i64 a,.int .i64 b,.int .i64 c,.int .i64 d] 38)) wr) (fun i _ => 4 - (intOf i).toNat)
 case atStart => exact ⟨0,by omega,rfl,⟨by omega,by omega,by omega,by omega⟩,Ext.refl _⟩
 case round =>
  obtain ⟨k,hk,rfl,hok,hx⟩:=hrel
  have HO:=hid hok
  have HX:=hid hx
  have e0:=Ext.cell hx (z04 w #[.int .i64 a,.int .i64 b,.int .i64 c,.int .i64 d] 38 rfl (i:=0) rfl)
  have e1:=Ext.cell hx (z04 w #[.int .i64 a,.int .i64 b,.int .i64 c,.int .i64 d] 38 rfl (i:=1) rfl)
  have e2:=Ext.cell hx (z04 w #[.int .i64 a,.int .i64 b,.int .i64 c,.int .i64 d] 38 rfl (i:=2) rfl)
  have e3:=Ext.cell hx (z04 w #[.int .i64 a,.int .i64 b,.int .i64 c,.int .i64 d] 38 rfl (i:=3) rfl)
  clear hok hx
  obtain rfl | rfl | rfl | rfl | rfl:k = 0 ∨ k = 1 ∨ k = 2 ∨ k = 3 ∨ k = 4:=by omega
  ·by_cases h1:a < 0
   ·go_wp2
    go_ret2
    exact z3f (fun h => by have:=h.1; omega) (HX0.out.trans (Ext.alloc HX.out _)) rfl
   by_cases h2:a ≤ 1000000
   ·go_wp2
    go_roundw
    case rel => exact ⟨1,by omega,rfl,⟨by omega,by omega,by omega,by omega⟩,Ext.alloc HX.out _⟩
    case measure => simp [intOf]
   ·go_wp2
    go_ret2
    exact z3f (fun h => by have:=h.1; omega) (HX0.out.trans (Ext.alloc HX.out _)) rfl
  ·by_cases h1:b < 0
   ·go_wp2
    go_ret2
    exact z3f (fun h => by have:=h.2.1; omega) (HX0.out.trans (Ext.alloc HX.out _)) rfl
   by_cases h2:b ≤ 10000
   ·go_wp2
    go_roundw
    case rel => exact ⟨2,by omega,rfl,⟨fun _ => HO.out.1 (by omega),by omega,by omega,by omega⟩,Ext.alloc HX.out _⟩
    case measure => simp [intOf]
   ·go_wp2
    go_ret2
    exact z3f (fun h => by have:=h.2.1; omega) (HX0.out.trans (Ext.alloc HX.out _)) rfl
  ·by_cases h1:c < 0
   ·go_wp2
    go_ret2
    exact z3f (fun h => by have:=h.2.2.1; omega) (HX0.out.trans (Ext.alloc HX.out _)) rfl
   by_cases h2:c ≤ 100000
   ·go_wp2
    go_roundw
    case rel => exact ⟨3,by omega,rfl,⟨fun _ => HO.out.1 (by omega),fun _ => HO.out.2.1 (by omega),by omega,by omega⟩,Ext.alloc HX.out _⟩
    case measure => simp [intOf]
   ·go_wp2
    go_ret2
    exact z3f (fun h => by have:=h.2.2.1; omega) (HX0.out.trans (Ext.alloc HX.out _)) rfl
  ·by_cases h1:d < 0
   ·go_wp2
    go_ret2
    exact z3f (fun h => by have:=h.2.2.2; omega) (HX0.out.trans (Ext.alloc HX.out _)) rfl
   by_cases h2:d ≤ 1000
   ·go_wp2
    go_roundw
    case rel => exact ⟨4,by omega,rfl,⟨fun _ => HO.out.1 (by omega),fun _ => HO.out.2.1 (by omega),fun _ => HO.out.2.2.1 (by omega),by omega⟩,Ext.alloc HX.out _⟩
    case measure => simp [intOf]
   ·go_wp2
    go_ret2
    exact z3f (fun h => by have:=h.2.2.2; omega) (HX0.out.trans (Ext.alloc HX.out _)) rfl
  ·go_wp2
   go_ret2
   refine ⟨HX0.out.trans (Ext.alloc HX.out _),.inl ⟨⟨HO.out.1 (by omega),HO.out.2.1 (by omega),HO.out.2.2.1 (by omega),HO.out.2.2.2 (by omega)⟩,_,Nat.le_trans HX0.out.size HX.out.size,?_,rfl⟩⟩
   exact ⟨z04 _ _ _ rfl rfl,z04 _ _ _ rfl rfl,z04 _ _ _ rfl rfl,z04 _ _ _ rfl rfl,z04 _ _ _ rfl rfl,z04 _ _ _ rfl rfl,z04 _ _ _ rfl rfl,z04 _ _ _ rfl rfl,z04 _ _ _ rfl rfl,z04 _ _ _ rfl rfl,z04 _ _ _ rfl rfl,fun i => z56 _ _ _⟩
end
section
open Go.RowKit
end
section
open Go.RowKit
theorem zre (w:World):Calls Tryz.prog 120 #[.pointer none] w fun e w' => e = .returned (.int .i64 0) ∧ w = w':=by
 go_enter Tryz.func120,Tryz.ntmps120
 go_wp2
 go_ret
 exact ⟨rfl,rfl⟩
theorem zrf (v:Value) (w:World):Calls Tryz.prog 78 #[.pointer none,v] w fun e w' => e = .returned (.int .i64 0) ∧ w = w':=by
 go_enter Tryz.func78,Tryz.ntmps78
 go_wp2
 go_ret
 exact ⟨rfl,rfl⟩
theorem zkk (e:Int) (w:World):Calls Tryz.prog 75 #[.pointer none,.int .i64 e] w fun r w' => r = .returned (.int .i64 e) ∧ w = w':=by
 go_enter Tryz.func75,Tryz.ntmps75
 go_wp2
 go_ret
 exact ⟨rfl,rfl⟩
end
section
open Go.RowKit
def iv (f:Nat → Int):Nat → Value:=fun j => .int .i64 (f j)
def tabA (f:Nat → Int):Array Value:=((List.range 201).map (iv f)).toArray
def arrV (f:Nat → Int):Value:=.agg (tabA f)
theorem z46 (f:Nat → Int):(tabA f).size = 201:=by simp [tabA]
theorem zdz (f:Nat → Int) {i:Nat} (h:i < 201):(tabA f)[i]? = some (iv f i):=by simp [tabA,h]
theorem zrg (f:Nat → Int):(tabA f).all (·.oneCell') = true:=by
 refine Array.all_eq_true_iff_forall_mem.2 (fun v hv => ?_)
 simp only [tabA,List.mem_toArray,List.mem_map] at hv
 obtain ⟨j,_,rfl⟩:=hv
 rfl
theorem zhl {c:Array Value} {f:Nat → Int} (hs:c.size = 201) (h:∀ i,i < 201 → c[i]? = some (iv f i)):c = tabA f:=by
 apply Array.ext_getElem?
 intro i
 by_cases hi:i < 201
 ·rw [h i hi,zdz f hi]
 ·rw [Array.getElem?_eq_none (by omega),Array.getElem?_eq_none (by rw [z46]; omega)]
theorem Tryz.infoArr:(Tryz.prog.info? 174).map (fun i => (i.zero,i.size)) = some (some (.agg (tabA fun _ => 0)),201):=by kernel_rfl
theorem Tryz.sizeArr:(Tryz.prog.info? 174).map (·.size) = some 201:=by kernel_rfl
theorem z8b (f:Nat → Int) (w:World):(w.alloc (.cells (tabA f) 174)).rowIs w.heap.size 174 201 (iv f) :=
 ⟨tabA f,heap_alloc_new w _,z46 f,fun _i hi => zdz f hi⟩
section
variable {ops:Array Oper} {rest:List Oper} {op:Oper} {a:Act} {Q:Exit → Act → World → Prop}
theorem z4z {W:World} {g:Nat} {f:Nat → Int} (hgd:op.guard = none) (x:Operand) (ho:op.op = .load 174 x) (hx:a.eval x = .pointer (some ⟨g,0,none⟩)) (hrow:W.rowIs g 174 201 (iv f))
  (h:wpList Tryz.prog ops Q rest (a.put op.dst (arrV f)) W):wpList Tryz.prog ops Q (op :: rest) a W:=by
 obtain ⟨c,hc,hs,hi⟩:=hrow
 obtain rfl:=zhl hs hi
 refine wpList_plain hgd fun K hK => ?_
 unfold Oper.wp execOp
 have hl:=run_loadVar_row (P:=Tryz.prog) W g 174 174 (tabA f) (0,0) _ hc Tryz.underlying174 rfl (by rw [z46]; exact Tryz.sizeArr)
 simp only [ho,hx,Instr.loadAt,Instr.sureAddr,Sem.run_bind,Sem.run_pure,Result.andThen_ok,hl]
 exact hK _ _ h
theorem z26 {W:World} {g:Nat} {f f0:Nat → Int} (hgd:op.guard = none) (x y:Operand) (ho:op.op = .store 174 x y) (hx:a.eval x = .pointer (some ⟨g,0,none⟩)) (hy:a.eval y = arrV f) (hrow:W.rowIs g 174 201 (iv f0))
  (h:∀ W',W'.rowIs g 174 201 (iv f) → W.grownBy W' (some g) → wpList Tryz.prog ops Q rest (a.put op.dst undef) W'):wpList Tryz.prog ops Q (op :: rest) a W:=by
 obtain ⟨c,hc,hs,hi⟩:=hrow
 obtain rfl:=zhl hs hi
 refine wpList_plain hgd fun K hK => ?_
 unfold Oper.wp execOp
 have hl:=run_storeVar_row (P:=Tryz.prog) W g 174 174 (tabA f0) (tabA f) hc (by rw [z46]; exact Tryz.sizeArr) (by rw [z46,z46]) (zrg f)
 unfold arrV at hy
 simp only [ho,hx,hy,Instr.storeAt,Instr.sureAddr,Sem.run_bind,Sem.run_pure,Result.andThen_ok,hl]
 refine hK _ _ (h _ ⟨tabA f,?_,z46 f,fun i hi => zdz f hi⟩ ?_)
 ·have hg:=(Array.getElem?_eq_some_iff.1 hc).1
  simp only [World.setRow,Array.getElem?_modify]
  simp [hc]
 ·refine ⟨rfl,rfl,rfl,by simp [World.setRow],fun k hk hne => ?_⟩
  simp only [World.setRow,Array.getElem?_modify]
  rw [if_neg (fun e => hne (by rw [e]))]
end
end
section
open Go.RowKit
theorem Pows.ext' {S:Nat → Prop} {w W:World} {v:Value} {zs:Mono} (h:Pows S w v zs) (hx:Ext w W) (hS:∀ k,S k → k < w.heap.size):Pows S W v zs:=h.to (Kept.ext hx hS) (fun _ h => h)
theorem Pows.cellAt {S:Nat → Prop} {w:World} {m:Mono} {a:Option Addr} {n cap k:Nat} {x:Int × Int} (h:Pows S w (.slice a n cap) m) (hx:m[k]? = some x) :
  ∃ b off,a = some ⟨b,off,none⟩ ∧ n = m.length ∧ n ≤ cap ∧ cap ≤ 9223372036854775807 ∧ S b ∧
   ((-9223372036854775808 ≤ x.1 ∧ x.1 ≤ 9223372036854775807) ∧ -9223372036854775808 ≤ x.2 ∧ x.2 ≤ 9223372036854775807) ∧
   w.cell? ⟨b,off + k * 2,none⟩ = some (.int .i64 x.1) ∧ w.cell? ⟨b,off + k * 2 + 1,none⟩ = some (.int .i64 x.2):=by
 obtain ⟨b,off,⟨a',cap',h1,h2,h3,h4,h5⟩,hc⟩:=h
 obtain ⟨rfl,rfl,rfl⟩:a = a' ∧ n = m.length ∧ cap = cap':=by simpa using h1
 have hp:0 < m.length:=by have:=z05 hx; omega
 exact ⟨b,off,h4 hp,rfl,h2,h3,h5 hp,(hc k x hx).1,(hc k x hx).2.1,(hc k x hx).2.2⟩
def z8c (m:Mono):Nat → Int
 | 0 => 0
 | k + 1 => ((m[k]?).map (·.1)).getD 0
theorem zb8 {S:Nat → Prop} (v:Value) (m:Mono) (w:World) (h:Pows S w v m) (hS:∀ k,S k → k < w.heap.size) :
  Calls Tryz.prog 102 #[v] w fun e w' => e = .returned (.bool (mayM m)) ∧ Ext w w':=by
 have hl:=h.len_le
 have H:=hid h
 obtain ⟨a,cap,rfl⟩:=h.form
 clear h
 go_enter Tryz.func102,Tryz.ntmps102
 go_wp2
 go_loopw [3] (fun i wr => ∃ k:Nat,k ≤ m.length ∧ i = .int .i64 k ∧ Ext w wr ∧ mayM m = z0a (z8c m k) (m.drop k) ∧ 0 ≤ z8c m k) (fun i _ => m.length - (intOf i).toNat)
 case atStart => exact ⟨0,Nat.zero_le _,rfl,Ext.refl _,rfl,by simp [z8c]⟩
 case round =>
  obtain ⟨k,hk,rfl,hx,hm,hl0⟩:=hrel
  by_cases hlt:k < m.length
  ·obtain ⟨t,ht⟩:=z01 hlt
   have hT:=z6n ht
   rw [hT,z0a] at hm
   have hl1:z8c m (k + 1) = t.1:=by simp [z8c,ht]
   obtain ⟨b,off,rfl,-,hn1,hm1,hSb,⟨hb1,hb2⟩,h1,h2⟩:=(H.out.ext' hx hS).cellAt ht
   have HM:=hid hm
   have HX:=hid hx
   have HL1:=hid hl1
   obtain ⟨x,z⟩:=t
   simp only at h1 h2 hb1 hb2 HM HL1
   clear hm hT hl1
   by_cases hbad:x < 1 ∨ 200 < x ∨ z < 1 ∨ 10000 < z
   ·have hf:Hid (mayM m = false):=hid (by
     rw [HM.out]
     have:¬ (z8c m k < x ∧ x ≤ 200 ∧ 1 ≤ z ∧ z ≤ 10000):=by omega
     simp [this])
    clear hx ht hl0
    rcases hbad with g | g | g | g <;> go_wp2
    all_goals
     go_ret
     exact ⟨by rw [hf.out]; rfl,HX.out⟩
   ·have g1:1 ≤ x:=by omega
    have g2:x ≤ 200:=by omega
    have g3:1 ≤ z:=by omega
    have g4:z ≤ 10000:=by omega
    clear hbad ht hl0
    cases k with
    | zero =>
     simp only [Nat.zero_mul,Nat.add_zero] at h1 h2
     have hf:Hid (mayM m = z0a (z8c m (0 + 1)) (m.drop (0 + 1))):=hid (by
      rw [HM.out,HL1.out]
      have:z8c m 0 < x ∧ x ≤ 200 ∧ 1 ≤ z ∧ z ≤ 10000:=⟨by show (0:Int) < x; omega,g2,g3,g4⟩
      simp [this])
     have hl2:Hid (0 ≤ z8c m (0 + 1)):=hid (by rw [HL1.out]; omega)
     clear hx
     go_wp2
     go_quiet (fail)
     go_wp2
     go_roundw
     case rel => exact ⟨0 + 1,by omega,by go_num,HX.out.drewN _,hf.out,hl2.out⟩
     case measure => simp only [intOf]; omega
    | succ q =>
     obtain ⟨y,hy⟩:=z01 (show q < m.length by omega)
     obtain ⟨b',off',hbb,-,-,-,-,⟨hc1,hc2⟩,h3,h4⟩:=(H.out.ext' hx hS).cellAt hy
     obtain ⟨rfl,rfl⟩:b = b' ∧ off = off':=by simpa using hbb
     have hl3:z8c m (q + 1) = y.1:=by simp [z8c,hy]
     have HL3:=hid hl3
     obtain ⟨u,t⟩:=y
     simp only at h3 h4 hc1 hc2 HL3
     have hq1:((q:Nat):Int) + 1 - 1 = (q:Int):=by omega
     clear hy hbb hl3 hx
     by_cases hux:u < x
     ·have hf:Hid (mayM m = z0a (z8c m (q + 1 + 1)) (m.drop (q + 1 + 1))):=hid (by
       rw [HM.out,HL1.out]
       have:z8c m (q + 1) < x ∧ x ≤ 200 ∧ 1 ≤ z ∧ z ≤ 10000:=⟨by rw [HL3.out]; exact hux,g2,g3,g4⟩
       simp [this])
      have hl2:Hid (0 ≤ z8c m (q + 1 + 1)):=hid (by rw [HL1.out]; omega)
      have hd:decide (x ≤ u) = false:=decide_eq_false (by omega)
      go_wp2
      go_quiet (fail)
      go_wp2
      go_roundw
      case rel => exact ⟨q + 1 + 1,by omega,by go_num,HX.out.drewN _,hf.out,hl2.out⟩
      case measure => simp only [intOf]; omega
     ·have hf:Hid (mayM m = false):=hid (by
       rw [HM.out]
       have:¬ (z8c m (q + 1) < x ∧ x ≤ 200 ∧ 1 ≤ z ∧ z ≤ 10000):=by rw [HL3.out]; omega
       simp [this])
      have hd:decide (x ≤ u) = true:=decide_eq_true (by omega)
      go_wp2
      go_quiet (fail)
      go_wp2
      all_goals
       go_ret
       exact ⟨by rw [hf.out]; rfl,HX.out.drewN _⟩
  ·obtain rfl:k = m.length:=by omega
   have HX:=hid hx
   have hf:Hid (mayM m = true):=hid (by rw [hm,List.drop_length]; rfl)
   clear hx hm hl0
   go_wp2
   all_goals
    go_ret
    exact ⟨by rw [hf.out]; rfl,HX.out⟩
end
section
open Go.RowKit
def exF (m:Mono):Nat → Int:=fun v => ex (z1b m) v
theorem zis {W:World} {g:Nat} {f:Nat → Int} (hrow:W.rowIs g 174 201 (iv f)):(loadVar 174 ⟨g,0,none⟩).run Tryz.prog W = .ok (arrV f) W:=by
 obtain ⟨c,hc,hs,hi⟩:=hrow
 obtain rfl:=zhl hs hi
 exact run_loadVar_row (P:=Tryz.prog) W g 174 174 (tabA f) (0,0) _ hc Tryz.underlying174 rfl (by rw [z46]; exact Tryz.sizeArr)
theorem zd3 {n k:Nat} (h:some n = some k):n ≤ k:=by
 cases h
 exact Nat.le_refl _
theorem za3 {P:Program} {fn:Func} {tmps:Array Value} {t T g:Nat} {v:Value} {W:World} (hr:fn.results = #[.cell t T]) (ht:tmps.getD t undef = .pointer (some ⟨g,0,none⟩)) (hl:(loadVar T ⟨g,0,none⟩).run P W = .ok v W):(results fn tmps).run P W = .ok v W:=by
 have ht':tmps[t]?.getD undef = .pointer (some ⟨g,0,none⟩):=by rw [← ht]; simp
 simp [results,hr,ht',asAddr,hl]
theorem zfh {w W:World} {g:Nat} {f:Nat → Value} {T:TypeId} {n:Nat} {row:Option Nat} (h:w.rowIs g T n f) (hg:w.grownBy W row) (hne:some g ≠ row):W.rowIs g T n f:=by
 obtain ⟨c,hc,hs,hi⟩:=h
 exact ⟨c,(hg.block g (Array.getElem?_eq_some_iff.1 hc).1 hne).trans hc,hs,hi⟩
theorem z5k {w W:World} {g:Nat} {f:Nat → Value} {T:TypeId} {n:Nat} (h:w.rowIs g T n f) (hx:Ext w W):W.rowIs g T n f:=by
 obtain ⟨c,hc,hs,hi⟩:=h
 exact ⟨c,(hx.block g (Array.getElem?_eq_some_iff.1 hc).1).trans hc,hs,hi⟩
theorem zmp {w:World} {g:Nat} {f:Nat → Value} {T:TypeId} {n:Nat} {a:Addr} (h:w.rowIs g T n f) (hne:g ≠ a.block) (u:Value):(w.setCell a u).rowIs g T n f:=by
 obtain ⟨c,hc,hs,hi⟩:=h
 exact ⟨c,(Below.heap_setCell w a u g hne).trans hc,hs,hi⟩
theorem World.rowIs.drewN' {w:World} {g n:Nat} {T:TypeId} {f:Nat → Value} (h:w.rowIs g T n f):w.drew.rowIs g T n f:=h
theorem zvn {l:Mono} {x:Int × Int} {v:Int} (h:∀ y ∈ l,y.1 ≠ x.1):ex (l ++ [x]) v = if x.1 = v then x.2 else ex l v:=by
 induction l with
 | nil => rfl
 | cons y r ih =>
  have ih:=ih (fun z hz => h z (by simp [hz]))
  simp only [List.cons_append,ex,ih]
  by_cases hv:x.1 = v
  ·have:¬ y.1 = v:=fun e => h y (by simp) (e.trans hv.symm)
   simp [this,hv]
  ·rw [if_neg hv,if_neg hv]
theorem zkl {last:Int} {m:Mono} (h:z0a last m = true):∀ y ∈ m,last < y.1:=by
 induction m generalizing last with
 | nil => intro y hy; simp at hy
 | cons x r ih =>
  simp only [z0a,Bool.and_eq_true,decide_eq_true_eq] at h
  intro y hy
  rcases List.mem_cons.1 hy with rfl | hy
  ·exact h.1.1
  ·have:=ih h.2 y hy
   omega
theorem z8t {last:Int} {m:Mono} {k:Nat} {x:Int × Int} (h:z0a last m = true) (hx:m[k]? = some x):(∀ y ∈ m.take k,y.1 ≠ x.1) ∧ 1 ≤ x.2 ∧ x.2 ≤ 10000 ∧ last < x.1 ∧ x.1 ≤ 200:=by
 induction m generalizing last k with
 | nil => simp at hx
 | cons y r ih =>
  have h0:=zkl h
  simp only [z0a,Bool.and_eq_true,decide_eq_true_eq] at h
  cases k with
  | zero =>
   obtain rfl:y = x:=by simpa using hx
   refine ⟨fun z hz => by simp at hz,?_⟩
   omega
  | succ k =>
   have hx':r[k]? = some x:=by simpa using hx
   obtain ⟨h1,h2,h3,h4,h5⟩:=ih h.2 hx'
   refine ⟨fun z hz => ?_,h2,h3,by omega,h5⟩
   rw [List.take_succ_cons] at hz
   rcases List.mem_cons.1 hz with rfl | hz
   ·omega
   ·exact h1 z hz
theorem zvo {m:Mono} {k:Nat} {x:Int × Int} (h:mayM m = true) (hx:m[k]? = some x) (v:Int):ex (m.take (k + 1)) v = if x.1 = v then x.2 else ex (m.take k) v:=by
 rw [List.take_add_one,hx]
 exact zvn (z8t h hx).1
theorem z4r {m:Mono} (h:mayM m = true):z1b m = m:=by simp [z1b,h]
theorem zmq {m:Mono} (h:mayM m = false):z1b m = []:=by simp [z1b,h]
theorem z7f {S:Nat → Prop} (v:Value) (m:Mono) (w:World) (h:Pows S w v m) (hS:∀ k,S k → k < w.heap.size) :
  Calls Tryz.prog 103 #[v] w fun e w' => e = .returned (arrV (exF m)) ∧ Ext w w':=by
 have hz:=(zero_of_info Tryz.infoArr).1
 have hcs:(Value.agg (tabA fun _ => 0)).cells = tabA fun _ => 0:=rfl
 have hnot:∀ (x:Bool) (w:World),(Op.unary .not (.bool x)).run Tryz.prog w = .ok (.bool (!x)) w:=fun _ _ => rfl
 have hl:=h.len_le
 have H:=hid h
 obtain ⟨a,cap,rfl⟩:=h.form
 clear h
 have HK:=hid (Ext.alloc (Ext.alloc (Ext.refl w) (.cells (tabA fun _ => 0) 174)) (.cells (tabA fun _ => 0) 174))
 have HR1:=hid (z5k (z8b (fun _ => 0) w) (Ext.alloc (Ext.refl _) (.cells (tabA fun _ => 0) 174)))
 have hr2:=z8b (fun _ => 0) (w.alloc (.cells (tabA fun _ => 0) 174))
 rw [z02] at hr2
 have HR2:=hid hr2
 have HM:=hid (zb8 _ m _ (H.out.ext' HK.out hS) (z08 hS HK.out))
 clear hr2
 go_enter Tryz.func103,Tryz.ntmps103
 go_wp2_with fail
 refine HM.out.mono ?_
 rintro e w1 ⟨rfl,hx1⟩
 have HX1:=hid hx1
 have HQ1:=hid (z5k HR1.out hx1)
 have HQ2:=hid (z5k HR2.out hx1)
 clear hx1
 cases hm:mayM m with
 | false =>
  have HF:Hid (exF m = fun _ => 0):=hid (by funext v; unfold exF; rw [zmq hm]; rfl)
  clear hm
  go_wp2_with (first
   | (refine z4z rfl (.tmp 3) rfl rfl HQ2.out ?_)
   | (refine z26 rfl (.tmp 2) (.tmp 8) rfl rfl rfl HQ1.out ?_; intro W hrow hg; have HROW:=hid hrow; have HG:=hid hg; clear hrow hg))
  have hld:=zis HROW.out
  refine bodyPost_ret (za3 Tryz.results103 rfl hld) rfl ?_
  exact ⟨by rw [HF.out],z0n (HK.out.trans HX1.out) HG.out (fun k hk => zd3 hk)⟩
 | true =>
  have HMM:=hid hm
  clear hm
  obtain ⟨wo,hwo⟩:∃ wo:World,wo = w1:=⟨_,rfl⟩
  subst hwo
  go_wp2
  go_loopw [4] (fun i wr => ∃ k:Nat,k ≤ m.length ∧ i = .int .i64 k ∧ Hid (wr.rowIs (w.heap.size + 1) 174 201 (iv (fun v => ex (m.take k) v))) ∧ Hid (wr.rowIs w.heap.size 174 201 (iv fun _ => 0)) ∧ Ext w wr) (fun i _ => m.length - (intOf i).toNat)
  case atStart => exact ⟨0,Nat.zero_le _,rfl,HQ2,HQ1,HK.out.trans HX1.out⟩
  case round =>
   obtain ⟨k,hk,rfl,HA,HB,hx⟩:=hrel
   by_cases hlt:k < m.length
   ·obtain ⟨t,ht⟩:=z01 hlt
    obtain ⟨b,off,rfl,-,hn1,hm1,hSb,⟨hb1,hb2⟩,h1,h2⟩:=(H.out.ext' hx hS).cellAt ht
    obtain ⟨_,g1,g2,g3,g4⟩:=z8t HMM.out ht
    have HT:=hid (fun v => zvo HMM.out ht v)
    have HX:=hid hx
    have hbs:=hS b hSb
    obtain ⟨x,z⟩:=t
    simp only at h1 h2 hb1 hb2 g1 g2 g3 g4 HT
    obtain ⟨x,rfl⟩:=Int.eq_ofNat_of_zero_le (Int.le_of_lt g3)
    have hx201:x < 201:=by omega
    have hcs:=HA.out.cell (i:=x) hx201
    have hfs:=HA.out.frozen x
    unfold iv at hcs
    have hxI0:(0:Int) ≤ (x:Int):=by omega
    have hxI1:(x:Int) < 201:=by omega
    clear hx ht
    go_wp2
    have S0:wr.drew.cell? ⟨b,off + k * 2,none⟩ = some (.int .i64 (x:Nat)) ∧ wr.drew.cell? ⟨b,off + k * 2 + 1,none⟩ = some (.int .i64 z):=⟨by simpa using h1,by simpa using h2⟩
    go_region_held3 (fun W => W.cell? ⟨b,off + k * 2,none⟩ = some (.int .i64 (x:Nat)) ∧ W.cell? ⟨b,off + k * 2 + 1,none⟩ = some (.int .i64 z)) (first | exact S0 | exact ⟨z09 S0.1 (ab (by omega)),z09 S0.2 (ab (by omega))⟩) (fail)
    go_wp2
    go_roundw
    case rel =>
     refine ⟨k + 1,by omega,by go_num,hid ?_,hid (zmp HB.out (by simp) _),(HX.out.drew).setCell (p:=⟨w.heap.size + 1,x,none⟩) (by simp) _⟩
     refine (World.rowIs.set (World.rowIs.drewN' HA.out) x (.int .i64 z)).congr (fun i hi => ?_)
     show (if i = x then Value.int .i64 z else Value.int .i64 (ex (m.take k) (i:Nat))) = Value.int .i64 (ex (m.take (k + 1)) (i:Nat))
     rw [HT.out]
     by_cases e:i = x
     ·subst e
      simp
     ·have:¬ ((x:Int) = (i:Int)):=fun h => e (by omega)
      simp [e,this]
    case measure => simp only [intOf]; omega
   ·obtain rfl:k = m.length:=by omega
    have HX:=hid hx
    have HF:Hid ((fun v:Nat => ex (m.take m.length) v) = exF m):=hid (by funext v; unfold exF; rw [z4r HMM.out,List.take_length])
    have hA:=HA.out
    rw [HF.out] at hA
    have HA2:=hid hA
    clear hx hA
    go_wp2_with (first
     | (refine z4z rfl (.tmp 3) rfl rfl HA2.out ?_)
     | (refine z26 rfl (.tmp 2) (.tmp 26) rfl rfl rfl HB.out ?_; intro W hrow hg; have HROW:=hid hrow; have HG:=hid hg; clear hrow hg))
    have hld:=zis HROW.out
    refine bodyPost_ret (za3 Tryz.results103 rfl hld) rfl ?_
    exact ⟨rfl,z0n HX.out HG.out (fun k hk => zd3 hk)⟩
end
section
open Go.RowKit
def rcmp (a b:Mono):Int:=cmpE (ex (z1b a)) (ex (z1b b)) 200
theorem zvp {a b:Mono} (ha:mayM a = true) (hb:mayM b = true):rcmp a b = z0e a b:=by
 unfold rcmp
 rw [z4r ha,z4r hb,z2a ha hb]
theorem ze0 {S:Nat → Prop} (va vb:Value) (a b:Mono) (w:World) (ha:Pows S w va a) (hb:Pows S w vb b) (hS:∀ k,S k → k < w.heap.size) :
  Calls Tryz.prog 70 #[va,vb] w fun e w' => e = .returned (.int .i64 (rcmp a b)) ∧ Ext w w':=by
 have hz:=(zero_of_info Tryz.infoArr).1
 have hcs:(Value.agg (tabA fun _ => 0)).cells = tabA fun _ => 0:=rfl
 have HA:=hid ha
 have HB:=hid hb
 obtain ⟨aa,ca,rfl⟩:=ha.form
 obtain ⟨ab1,cb,rfl⟩:=hb.form
 clear ha hb
 go_enter Tryz.func70,Tryz.ntmps70
 go_wp2_with fail
 refine (z7f _ a w HA.out hS).mono ?_
 rintro e w1 ⟨rfl,hx1⟩
 have HX1:=hid hx1
 clear hx1
 go_wp2_with (refine z26 rfl (.tmp 5) (.tmp 9) rfl rfl rfl (z8b (fun _ => 0) w1) ?_; intro w2 hrow hg; have HROW:=hid hrow; have HG:=hid hg; clear hrow hg)
 have HX2:Hid (Ext w w2):=hid (z0n (HX1.out.alloc _) HG.out (fun k hk => Nat.le_trans HX1.out.size (zd3 hk)))
 refine (z7f _ b w2 (HB.out.ext' HX2.out hS) (z08 hS HX2.out)).mono ?_
 rintro e w3 ⟨rfl,hx3⟩
 have HX3:=hid (HX2.out.trans hx3)
 have hsz:w1.heap.size < w2.heap.size:=by
  have:=HG.out.size
  rw [z02] at this
  omega
 have HSZ:Hid (w1.heap.size < w3.heap.size):=hid (Nat.lt_of_lt_of_le hsz hx3.size)
 have HROW3:=hid (z5k HROW.out hx3)
 clear hx3 hsz
 go_wp2_with (refine z26 rfl (.tmp 6) (.tmp 11) rfl rfl rfl (z8b (fun _ => 0) w3) ?_; intro w4 hrow hg; have HROWB:=hid hrow; have HG2:=hid hg; clear hrow hg)
 have HX4:Hid (Ext w w4):=hid (z0n (HX3.out.alloc _) HG2.out (fun k hk => Nat.le_trans HX3.out.size (zd3 hk)))
 have HROWA:Hid (w4.rowIs w1.heap.size 174 201 (iv (exF a))):=hid (zfh (z5k HROW3.out (Ext.alloc (Ext.refl _) _)) HG2.out (fun e => by
  have:=HSZ.out
  have h1:w1.heap.size = w3.heap.size:=by simpa using e
  omega))
 obtain ⟨ga,hga⟩:∃ g,g = w1.heap.size:=⟨_,rfl⟩
 obtain ⟨gb,hgb⟩:∃ g,g = w3.heap.size:=⟨_,rfl⟩
 rw [← hga] at HROWA ⊢
 rw [← hgb] at HROWB ⊢
 clear hga hgb
 go_loopw [7] (fun v wr => ∃ k:Nat,k ≤ 200 ∧ v = .int .i64 k ∧ Ext w4 wr ∧ rcmp a b = cmpE (ex (z1b a)) (ex (z1b b)) k) (fun v _ => (intOf v).toNat)
 case atStart => exact ⟨200,by omega,rfl,Ext.refl _,rfl⟩
 case round =>
  obtain ⟨k,hk,rfl,hx,hc⟩:=hrel
  have HX:=hid hx
  by_cases h0:1 ≤ k
  ·have hk201:k < 201:=by omega
   have hca:=(z5k HROWA.out hx).cell (i:=k) hk201
   have hcb:=(z5k HROWB.out hx).cell (i:=k) hk201
   unfold iv exF at hca hcb
   obtain ⟨q,hq⟩:∃ q,k = q + 1:=⟨k - 1,by omega⟩
   have hst:cmpE (ex (z1b a)) (ex (z1b b)) k = if ex (z1b a) (k:Nat) = ex (z1b b) (k:Nat) then cmpE (ex (z1b a)) (ex (z1b b)) q else cmpI (ex (z1b a) (k:Nat)) (ex (z1b b) (k:Nat)):=by
    rw [hq]; rfl
   rw [hst] at hc
   have HC:=hid hc
   have HQ:=hid hq
   clear hx hc hst hq
   generalize ex (z1b a) (k:Nat) = p at *
   generalize ex (z1b b) (k:Nat) = t at *
   have hkI0:(0:Int) ≤ (k:Int):=by omega
   have hkI1:(k:Int) < 201:=by omega
   rcases (show p < t ∨ t < p ∨ p = t by omega) with hlt | hlt | heq
   ·have HF:Hid (rcmp a b = -1):=hid (by rw [HC.out,if_neg (by omega),z2w]; exact hlt)
    go_wp2
    go_quiet (fail)
    go_wp2
    all_goals
     go_ret
     exact ⟨by rw [HF.out]; rfl,HX4.out.trans (HX.out.drewN _)⟩
   ·have HF:Hid (rcmp a b = 1):=hid (by rw [HC.out,if_neg (by omega),z3y]; exact hlt)
    have hd:decide (p < t) = false:=decide_eq_false (by omega)
    go_wp2
    go_quiet (fail)
    go_wp2
    go_quiet (fail)
    go_wp2
    all_goals
     go_ret
     exact ⟨by rw [HF.out]; rfl,HX4.out.trans ((HX.out.drewN _).drewN _)⟩
   ·subst heq
    have HF:Hid (rcmp a b = cmpE (ex (z1b a)) (ex (z1b b)) q):=hid (by rw [HC.out,if_pos rfl])
    go_wp2
    go_quiet (fail)
    go_wp2
    go_quiet (fail)
    go_wp2
    go_roundw
    case rel => exact ⟨q,by have:=HQ.out; omega,congrArg (Value.int .i64) (by have:=HQ.out; omega),HX.out.drewN _,HF.out⟩
    case measure => simp only [intOf]; omega
  ·obtain rfl:k = 0:=by omega
   have HF:Hid (rcmp a b = 0):=hid (by rw [hc]; rfl)
   clear hx hc
   go_wp2
   all_goals
    go_ret
    exact ⟨by rw [HF.out]; rfl,HX4.out.trans HX.out⟩
end
section
open Go.RowKit
section
variable {P:Program}
def zcs (w:World) (A:Option Addr) (m size:Nat) (news:List Value):Prop :=
 news.length = m * size ∧ (∀ u ∈ news,u.oneCell' = true) ∧ (0 < m → ∃ ad,A = some ad ∧ ∀ j u,news[j]? = some u → w.cell? (ad.add j) = some u)
theorem zct (w:World) {base:Nat} {t e ty:TypeId} {i:TypeInfo} {size:Nat} (ht:P.underlying t = some (.slice e)) (hi:P.info? e = some i)
  {v:Value} {n:Nat} {xs:List Value} (h:w.ownsRow base e size v n xs) (c:Nat):(Builtin.append_ #[t,t] ty #[v,.slice none 0 c]).run P w = .ok v w:=by
 obtain ⟨_,⟨rfl,rfl⟩ | ⟨g,k,row,rfl,_,_,hk,_⟩⟩:=h
 all_goals simp [Builtin.append_,run_underlying ht,sizeOf,typeInfo,Builtin.lenOf,Builtin.firstCells,storeCells, *]
theorem z5l (w:World) (base:Nat) (t ty e:TypeId) (i:TypeInfo) (z:Value) (size bytes:Nat) (ht:P.underlying t = some (.slice e)) (hi:P.info? e = some i) (hz:i.zero = some z)
  (hsize:i.size = size) (hby:i.bytes = bytes) (hzs:z.cells.size = size) (hsz:0 < size)
  (v:Value) (n:Nat) (xs:List Value) (hown:w.ownsRow base e size v n xs)
  (A:Option Addr) (m c:Nat) (news:List Value) (hsrc:zcs w A m size news) (h63:n + m ≤ maxLen) (hbytes:(n + m) * bytes ≤ 140737488355328) (hbase:base ≤ w.heap.size) :
  ∃ v' w',(Builtin.append_ #[t,t] ty #[v,.slice A m c]).run P w = .ok v' w' ∧ w'.ownsRow base e size v' (n + m) (xs ++ news) ∧ w.grownBy w' v.ownBlock ∧ (v'.ownBlock = v.ownBlock ∨ v'.ownBlock = some w.heap.size):=by
 obtain ⟨hl,h1,hat⟩:=hsrc
 cases A with
 | some ad =>
  obtain ⟨v',w',k1,k2,k3,_,k5⟩:=run_append_own_at (P:=P) w base t ty e i z size bytes ht hi hz hsize hby hzs hsz v n xs hown ad m c news hl (fun j u hu => by
   have hm:0 < m:=by
    rcases Nat.eq_zero_or_pos m with rfl | h0
    ·have:=z05 hu; omega
    ·exact h0
   obtain ⟨ad',e,hc⟩:=hat hm
   cases e
   exact hc j u hu) h1 h63 hbytes hbase
  exact ⟨v',w',k1,k2,k3,k5⟩
 | none =>
  obtain rfl:m = 0:=by
   rcases Nat.eq_zero_or_pos m with h0 | h0
   ·exact h0
   ·obtain ⟨ad',e,_⟩:=hat h0
    cases e
  obtain rfl:news = []:=List.length_eq_zero_iff.1 (by omega)
  exact ⟨v,w,zct w ht hi hown c,by simpa using hown,⟨rfl,rfl,rfl,Nat.le_refl _,fun _ _ _ => rfl⟩,.inl rfl⟩
theorem z0u (w:World) {ops:Array Oper} {rest:List Oper} {o:Oper} {a:Act} {Q:Exit → Act → World → Prop} (hgd:o.guard = none) (s x:Operand) (t:TypeId)
  (ho:o.op = .call { callee:=.builtin .append,args:=#[s,x],argTypes:=#[t,t] })
  (base:Nat) (e:TypeId) (i:TypeInfo) (z:Value) (size bytes:Nat) (ht:P.underlying t = some (.slice e)) (hi:P.info? e = some i) (hz:i.zero = some z)
  (hsize:i.size = size) (hby:i.bytes = bytes) (hzs:z.cells.size = size) (hsz:0 < size)
  (v:Value) (n:Nat) (xs:List Value) (hs:a.eval s = v) (hown:w.ownsRow base e size v n xs)
  (A:Option Addr) (m c:Nat) (news:List Value) (hx:a.eval x = .slice A m c) (hsrc:zcs w A m size news)
  (h63:n + m ≤ maxLen) (hbytes:(n + m) * bytes ≤ 140737488355328) (hbase:base ≤ w.heap.size)
  (h:∀ v' w',w'.ownsRow base e size v' (n + m) (xs ++ news) → w.grownBy w' v.ownBlock → (v'.ownBlock = v.ownBlock ∨ v'.ownBlock = some w.heap.size) → wpList P ops Q rest (a.put o.dst v') w'):wpList P ops Q (o :: rest) a w:=by
 obtain ⟨v',w',hrun,h2,h3,h4⟩:=z5l (P:=P) w base t o.type e i z size bytes ht hi hz hsize hby hzs hsz v n xs hown A m c news hsrc h63 hbytes hbase
 refine wpList_plain hgd fun K hK => ?_
 unfold Oper.wp execOp
 simp only [ho,resolve,invoke,builtin,Sem.run_bind,Sem.run_pure,Result.andThen_ok,List.map_toArray,List.map_cons,List.map_nil,hs,hx,hrun]
 exact hK _ _ (h v' w' h2 h3 h4)
theorem z0l (W:World) {ops:Array Oper} {rest:List Oper} {o:Oper} {a:Act} {Q:Exit → Act → World → Prop} (hgd:o.guard = none) (s x:Operand) (t:TypeId)
  (ho:o.op = .call { callee:=.builtin .append,args:=#[s,x],argTypes:=#[t,t] })
  (base:Nat) (e:TypeId) (z:Value) (size bytes:Nat) (ht:P.underlying t = some (.slice e)) (hinfo:(P.info? e).map (fun i => (i.zero,i.size,i.bytes)) = some (some z,size,bytes)) (hzs:z.cells.size = size) (hsz:0 < size)
  (v:Value) (n:Nat) (xs:List Value) (hs:a.eval s = v) (hown:W.ownsRow base e size v n xs)
  (cs:Array Value) (hcs:cs.size = size) (h1:∀ u ∈ cs.toList,u.oneCell' = true) (hx:a.eval x = .slice (some ⟨W.heap.size,0,none⟩) 1 1)
  (hn:n ≤ 1000000000) (hbytes:bytes ≤ 10000) (hbase:base ≤ W.heap.size)
  (h:∀ v' w',w'.ownsRow base e size v' (n + 1) (xs ++ cs.toList) → W.grownBy w' v.ownBlock → (v'.ownBlock = v.ownBlock ∨ v'.ownBlock = some (W.heap.size + 1)) → wpList P ops Q rest (a.put o.dst v') w'):wpList P ops Q (o :: rest) a (W.alloc (.cells cs e)):=by
 obtain ⟨i,hi,hz0,hz1,hz2⟩:=info_parts hinfo
 have hg0:=World.grownBy_alloc W (.cells cs e) v.ownBlock
 refine z0u _ hgd s x t ho base e i z size bytes ht hi hz0 hz1 hz2 hzs hsz v n xs hs (hown.alloc _) _ 1 1 cs.toList hx ⟨by simpa using hcs,h1,fun _ => ⟨_,rfl,fun j u hu => ?_⟩⟩ (by unfold maxLen; omega) ?_ (Nat.le_trans hbase hg0.size) (fun v' w' k1 k2 k3 => h v' w' k1 ?_ ?_)
 ·rw [show (⟨W.heap.size,0,none⟩:Addr).add j = ⟨W.heap.size,j,none⟩ by unfold Addr.add; split <;> simp_all]
  exact z04 W cs e rfl (by simpa using hu)
 ·have:(n + 1) * bytes ≤ 1000000001 * 10000:=Nat.mul_le_mul (by omega) hbytes
  omega
 ·exact ⟨k2.os.trans hg0.os,k2.tape.trans hg0.tape,k2.output.trans hg0.output,Nat.le_trans hg0.size k2.size,fun k hk hne => (k2.block k (Nat.lt_of_lt_of_le hk hg0.size) hne).trans (hg0.block k hk hne)⟩
 ·rw [z02] at k3
  exact k3
theorem z1y (W:World) {ops:Array Oper} {rest:List Oper} {o:Oper} {a:Act} {Q:Exit → Act → World → Prop} (hgd:o.guard = none) (s x:Operand) (t:TypeId)
  (ho:o.op = .call { callee:=.builtin .append,args:=#[s,x],argTypes:=#[t,t] })
  (base:Nat) (e:TypeId) (z:Value) (size bytes:Nat) (ht:P.underlying t = some (.slice e)) (hinfo:(P.info? e).map (fun i => (i.zero,i.size,i.bytes)) = some (some z,size,bytes)) (hzs:z.cells.size = size) (hsz:0 < size)
  (v:Value) (n:Nat) (xs:List Value) (hs:a.eval s = v) (hown:W.ownsRow base e size v n xs)
  (cs:Array Value) (hcs:cs.size = size) (h1:∀ u ∈ cs.toList,u.oneCell' = true) (hx:a.eval x = .slice (some ⟨W.heap.size,0,none⟩) 1 1)
  (hn:n ≤ 1000000000000) (hbytes:bytes ≤ 100) (hbase:base ≤ W.heap.size)
  (h:∀ v' w',w'.ownsRow base e size v' (n + 1) (xs ++ cs.toList) → W.grownBy w' v.ownBlock → (v'.ownBlock = v.ownBlock ∨ v'.ownBlock = some (W.heap.size + 1)) → wpList P ops Q rest (a.put o.dst v') w'):wpList P ops Q (o :: rest) a (W.alloc (.cells cs e)):=by
 obtain ⟨i,hi,hz0,hz1,hz2⟩:=info_parts hinfo
 have hg0:=World.grownBy_alloc W (.cells cs e) v.ownBlock
 refine z0u _ hgd s x t ho base e i z size bytes ht hi hz0 hz1 hz2 hzs hsz v n xs hs (hown.alloc _) _ 1 1 cs.toList hx ⟨by simpa using hcs,h1,fun _ => ⟨_,rfl,fun j u hu => ?_⟩⟩ (by unfold maxLen; omega) ?_ (Nat.le_trans hbase hg0.size) (fun v' w' k1 k2 k3 => h v' w' k1 ?_ ?_)
 ·rw [show (⟨W.heap.size,0,none⟩:Addr).add j = ⟨W.heap.size,j,none⟩ by unfold Addr.add; split <;> simp_all]
  exact z04 W cs e rfl (by simpa using hu)
 ·have:(n + 1) * bytes ≤ 1000000000001 * 100:=Nat.mul_le_mul (by omega) hbytes
  omega
 ·exact ⟨k2.os.trans hg0.os,k2.tape.trans hg0.tape,k2.output.trans hg0.output,Nat.le_trans hg0.size k2.size,fun k hk hne => (k2.block k (Nat.lt_of_lt_of_le hk hg0.size) hne).trans (hg0.block k hk hne)⟩
 ·rw [z02] at k3
  exact k3
end
theorem z8d (b off j:Nat):(⟨b,off,none⟩:Addr).add j = ⟨b,off + j,none⟩:=by
 unfold Addr.add
 split
 ·rename_i h
  subst h
  rfl
 ·rfl
theorem zmr (m:Mono):∀ u ∈ z4b m,u.oneCell' = true:=by
 intro u hu
 obtain ⟨x,_,hx⟩:=List.mem_flatMap.1 hu
 simp at hx
 rcases hx with rfl | rfl <;> rfl
theorem zrh {m:Mono} {j:Nat} {u:Value} (h:(z4b m)[j]? = some u):∃ k x,m[k]? = some x ∧ (j = k * 2 ∧ u = .int .i64 x.1 ∨ j = k * 2 + 1 ∧ u = .int .i64 x.2):=by
 have hj:=z05 h
 rw [z9z] at hj
 obtain ⟨x,hx⟩:=z01 (show j / 2 < m.length by omega)
 obtain ⟨h1,h2⟩:=zb1 hx
 refine ⟨j / 2,x,hx,?_⟩
 rcases (show j = j / 2 * 2 ∨ j = j / 2 * 2 + 1 by omega) with e | e
 ·rw [← e] at h1
  exact .inl ⟨e,Option.some.inj (h.symm.trans h1)⟩
 ·rw [← e] at h2
  exact .inr ⟨e,Option.some.inj (h.symm.trans h2)⟩
theorem Pows.src {S:Nat → Prop} {w:World} {A:Option Addr} {n cap:Nat} {m:Mono} (h:Pows S w (.slice A n cap) m):n = m.length ∧ zcs w A n 2 (z4b m):=by
 obtain ⟨b,off,⟨a',cap',h1,h2,h3,h4,h5⟩,hc⟩:=h
 obtain ⟨rfl,rfl,rfl⟩:A = a' ∧ n = m.length ∧ cap = cap':=by simpa using h1
 refine ⟨rfl,z9z m,zmr m,fun h0 => ⟨_,h4 h0,fun j u hu => ?_⟩⟩
 obtain ⟨k,x,hx,⟨rfl,rfl⟩ | ⟨rfl,rfl⟩⟩:=zrh hu
 ·rw [z8d]
  exact (hc k x hx).2.1
 ·rw [z8d]
  exact (hc k x hx).2.2
theorem Tryz.infoPower:(Tryz.prog.info? 52).map (fun i => (i.zero,i.size,i.bytes)) = some (some (.agg #[.int .i64 0,.int .i64 0]),2,16):=by kernel_rfl
theorem Pows.of_none {S:Nat → Prop} {w:World} {n cap:Nat} {m:Mono} (h:Pows S w (.slice Option.none n cap) m):m = []:=by
 obtain ⟨b,off,⟨a',cap',h1,h2,h3,h4,h5⟩,hc⟩:=h
 obtain ⟨rfl,rfl,rfl⟩:Option.none = a' ∧ n = m.length ∧ cap = cap':=by simpa using h1
 rcases Nat.eq_zero_or_pos m.length with h0 | h0
 ·exact List.length_eq_zero_iff.1 h0
 ·cases h4 h0
theorem z7g {S:Nat → Prop} (v:Value) (m:Mono) (w:World) (h:Pows S w v m) (hS:∀ k,S k → k < w.heap.size) (hr:m.length ≤ 1000000) :
  Calls Tryz.prog 61 #[v] w fun e w' => ∃ v',e = .returned v' ∧ Pows (New w w') w' v' m ∧ Ext w w':=by
 obtain ⟨i0,hi,hz0,hz1,hz2⟩:=info_parts Tryz.infoPower
 have hb:=h.inBounds
 have H:=hid h
 have HB:=hid hb
 obtain ⟨A,c,rfl⟩:=h.form
 clear h hb
 have hnil:=fun (w:World) => Lib.run_eql_slice_nil (P:=Tryz.prog) w 48 52 A m.length c 0 0 Tryz.underlying48
 cases A with
 | none =>
  have HM:=hid H.out.of_none
  go_enter Tryz.func61,Tryz.ntmps61
  go_wp2
  all_goals
   go_ret
   exact ⟨_,rfl,by rw [HM.out]; exact Pows.empty _ _ _,Ext.refl _⟩
 | some ad =>
  have HS:=hid ((H.out.to (Kept.ext (Ext.alloc (Ext.refl w) (.cells #[] 52)) hS) (fun _ h => h)).src.2)
  have HO:=hid (World.ownsRow_made (base:=w.heap.size) (e:=52) (size:=2) w #[] 0 (Nat.le_refl _) (by unfold maxLen; omega) (by simp))
  have HR:=hid hr
  go_enter Tryz.func61,Tryz.ntmps61
  go_wp2_with (at_builtin; refine z0u _ rfl (.tmp 5) (.tmp 6) 48 rfl w.heap.size 52 i0 (.agg #[.int .i64 0,.int .i64 0]) 2 16 Tryz.underlying48 hi hz0 hz1 hz2 rfl (by decide) (.slice (some ⟨w.heap.size,0,none⟩) 0 0) 0 [] rfl HO.out (some ad) m.length c (z4b m) rfl HS.out (by have:=HR.out; unfold maxLen; omega) (by have:=HR.out; omega) (by simp) ?_; intro v1 w1 hown hg _; have HW:=hid hown; have HG:=hid hg; clear hown hg)
  go_ret
  have hx:Ext w w1:=by
   refine z0n (Ext.alloc (Ext.refl w) _) HG.out (fun k hk => ?_)
   have e:w.heap.size = k:=by simpa [Value.ownBlock] using hk
   omega
  refine ⟨v1,rfl,?_,hx⟩
  refine z8p (e:=52) ?_ HB.out
  simpa using HW.out
end
section
open Go.RowKit
def ofE (f:Nat → Int):Nat → Mono
 | 0 => []
 | k + 1 => if 0 < f (k + 1) then ofE f k ++ [(((k + 1:Nat):Int),f (k + 1))] else ofE f k
theorem zvq (f:Nat → Int) (k:Nat):(ofE f k).length ≤ k:=by
 induction k with
 | zero => simp [ofE]
 | succ k ih =>
  simp only [ofE]
  split
  ·simp only [List.length_append,List.length_cons,List.length_nil]; omega
  ·omega
theorem zkm {f:Nat → Int} (h:∀ j,0 ≤ f j ∧ f j ≤ 1000000) (k:Nat) (hk:k ≤ 200):inBounds (ofE f k):=by
 induction k with
 | zero => intro x hx; simp [ofE] at hx
 | succ k ih =>
  have ih:=ih (by omega)
  simp only [ofE]
  split
  ·intro x hx
   rcases List.mem_append.1 hx with hx | hx
   ·exact ih x hx
   ·obtain rfl:=List.mem_singleton.1 hx
    have:=h (k + 1)
    unfold z1v
    simp only
    omega
  ·exact ih
theorem zri {u v:Value} (h:u.oneCell' = true) (k:v.oneCell' = true):∀ x ∈ (#[u,v]:Array Value).toList,x.oneCell' = true:=by
 intro x hx
 simp at hx
 rcases hx with rfl | rfl <;> assumption
theorem zrj (f:Nat → Int) (w:World) (hf:∀ j,0 ≤ f j ∧ f j ≤ 1000000) :
  Calls Tryz.prog 104 #[arrV f] w fun e w' => ∃ v',e = .returned v' ∧ Pows (New w w') w' v' (ofE f 200) ∧ Ext w w':=by
 have HK:=hid (Ext.alloc (Ext.refl w) (.cells (tabA f) 174))
 have HROW:=hid (z8b f w)
 have HF:=hid hf
 clear hf
 unfold arrV
 go_enter Tryz.func104,Tryz.ntmps104
 go_wp2
 go_loopw [3,4] (fun o v wr => ∃ k:Nat,k ≤ 200 ∧ v = .int .i64 ((k:Int) + 1) ∧ Ext (w.alloc (.cells (tabA f) 174)) wr ∧ Hid (wr.ownsRow (w.heap.size + 1) 52 2 o (ofE f k).length (z4b (ofE f k)))) (fun _ v _ => (201 - intOf v).toNat)
 case atStart => exact ⟨0,by omega,rfl,Ext.refl _,hid (World.ownsRow_nil _ _ _ _)⟩
 case round =>
  obtain ⟨k,hk,rfl,hx,HW⟩:=hrel
  have HX:=hid hx
  by_cases h0:k < 200
  ·obtain ⟨q,hq⟩:∃ q,q = k + 1:=⟨_,rfl⟩
   have hqI:(k:Int) + 1 = (q:Int):=by omega
   have hq201:q < 201:=by omega
   have hca:=(z5k HROW.out hx).cell (i:=q) hq201
   unfold iv at hca
   obtain ⟨p,hp⟩:∃ p,p = f q:=⟨_,rfl⟩
   have hpr:=HF.out q
   rw [← hp] at hca hpr
   obtain ⟨hp1,hp2⟩:=hpr
   have HP:=hid hp
   have HQ:=hid hq
   have hq1:1 ≤ q:=by omega
   have hq2:q ≤ 200:=by omega
   have hst:ofE f q = if 0 < p then ofE f k ++ [((q:Int),p)] else ofE f k:=by rw [hq,hp,hq]; rfl
   have HST:=hid hst
   have hol:(ofE f k).length ≤ 1000000000:=Nat.le_trans (zvq f k) (by omega)
   have hbs:w.heap.size + 1 ≤ wr.heap.size:=by have:=hx.size; rw [z02] at this; exact this
   have HBS:=hid hbs
   rw [hqI]
   clear hx hp hq hst hbs
   by_cases hpos:0 < p
   ·go_wp2_with (at_builtin; refine z0l _ rfl (.tmp 13) (.tmp 19) 48 rfl (w.heap.size + 1) 52 (.agg #[.int .i64 0,.int .i64 0]) 2 16 Tryz.underlying48 Tryz.infoPower rfl (by decide) _ (ofE f k).length (z4b (ofE f k)) rfl HW.out _ rfl (zri rfl rfl) rfl hol (by decide) HBS.out ?_; intro v1 w1 hown hg _; have HOW:=hid hown; have HG:=hid hg; clear hown hg)
    go_roundw
    case rel =>
     refine ⟨q,by omega,rfl,z0n HX.out HG.out (fun j hj => ?_),hid ?_⟩
     ·have:=(HW.out.lt j hj).1
      rw [z02]
      exact this
     ·rw [HST.out,if_pos hpos,z6o]
      have h1:=HOW.out
      simpa [z4b] using h1
    case measure => simp only [intOf]; omega
   ·go_wp2
    go_roundw
    case rel => exact ⟨q,by omega,rfl,HX.out,hid (by rw [HST.out,if_neg hpos]; exact HW.out)⟩
    case measure => simp only [intOf]; omega
  ·obtain rfl:k = 200:=by omega
   have hb:=zkm HF.out 200 (Nat.le_refl _)
   have HP:=hid (z8p HW.out hb)
   clear hx hb
   go_wp2
   all_goals
    go_ret
    refine ⟨_,rfl,HP.out.to (Kept.refl _ _) (fun j hj => ⟨by have:=hj.1; omega,hj.2⟩),HK.out.trans HX.out⟩
end
section
open Go.RowKit
def sumF (a b:Mono):Nat → Int:=fun v => ex a (v:Nat) + ex b (v:Nat)
def z69 (f:Nat → Int):Nat → Bool
 | 0 => false
 | k + 1 => z69 f k || decide (10000 < f (k + 1))
def z50 (a b:Mono):Option Mono:=if z69 (sumF a b) 200 then none else some (ofE (sumF a b) 200)
theorem zkn {f:Nat → Int} {k n:Nat} (h:z69 f k = true) (hk:k ≤ n):z69 f n = true:=by
 induction n with
 | zero =>
  obtain rfl:k = 0:=by omega
  exact h
 | succ n ih =>
  by_cases e:k = n + 1
  ·subst e; exact h
  ·simp only [z69,ih (by omega),Bool.true_or]
theorem zms {f g:Nat → Int} {n:Nat} (h:∀ k,1 ≤ k → k ≤ n → f k = g k):ofE f n = ofE g n:=by
 induction n with
 | zero => rfl
 | succ n ih => simp only [ofE,h (n + 1) (by omega) (Nat.le_refl _),ih (fun k h1 h2 => h k h1 (by omega))]
def mixF (a b:Mono) (k:Nat):Nat → Int:=fun j => if 1 ≤ j ∧ j ≤ k then ex a (j:Nat) + ex b (j:Nat) else ex a (j:Nat)
theorem zhm {a b:Mono} {k:Nat} (h:z69 (sumF a b) k = true) (hk:k ≤ 200):z50 a b = none:=by
 unfold z50
 rw [if_pos (zkn h hk)]
theorem zhn {a b:Mono} (h:z69 (sumF a b) 200 = false):z50 a b = some (ofE (mixF a b 200) 200):=by
 unfold z50
 rw [if_neg (by rw [h]; exact Bool.false_ne_true)]
 exact congrArg some (zms (fun k h1 h2 => by
  unfold sumF mixF
  rw [if_pos ⟨h1,h2⟩]))
def zvr:Option Mono → Int
 | none => 8
 | some _ => 0
def zvs:Option Mono → Mono
 | none => []
 | some m => m
theorem zko (f:Nat → Int):z69 f 0 = false:=rfl
theorem zkp (a b:Mono) (k:Nat):z69 (sumF a b) (k + 1) = (z69 (sumF a b) k || decide (10000 < ex a ((k + 1:Nat):Int) + ex b ((k + 1:Nat):Int))):=rfl
attribute [local irreducible] ofE z69 z50
theorem zho {S:Nat → Prop} (va vb:Value) (a b:Mono) (w:World) (ha:Pows S w va a) (hb:Pows S w vb b) (hS:∀ k,S k → k < w.heap.size) (hma:mayM a = true) (hmb:mayM b = true) :
  Calls Tryz.prog 68 #[va,vb] w fun e w' => ∃ v',e = .returned (.tuple #[v',.int .i64 (zvr (z50 a b))]) ∧ Pows (New w w') w' v' (zvs (z50 a b)) ∧ Ext w w':=by
 have hz:=(zero_of_info Tryz.infoArr).1
 have hcs:(Value.agg (tabA fun _ => 0)).cells = tabA fun _ => 0:=rfl
 have hnot:∀ (x:Bool) (w:World),(Op.unary .not (.bool x)).run Tryz.prog w = .ok (.bool (!x)) w:=fun _ _ => rfl
 have HA:=hid ha
 have HB:=hid hb
 obtain ⟨aa,ca,rfl⟩:=ha.form
 obtain ⟨ab1,cb,rfl⟩:=hb.form
 have HMA:=hid hma
 have HMB:=hid hmb
 have M1:=fun W (hW:Ext w W) => zb8 (S:=S) _ a W (HA.out.ext' hW hS) (z08 hS hW)
 rw [hma] at M1
 have M2:=fun W (hW:Ext w W) => zb8 (S:=S) _ b W (HB.out.ext' hW hS) (z08 hS hW)
 rw [hmb] at M2
 have EA:Hid (exF a = fun v => ex a (v:Nat)):=hid (by funext v; unfold exF; rw [z4r hma])
 have EB:Hid (exF b = fun v => ex b (v:Nat)):=hid (by funext v; unfold exF; rw [z4r hmb])
 have HM1:=hid M1
 have HM2:=hid M2
 obtain ⟨R,hR⟩:∃ R,R = z50 a b:=⟨_,rfl⟩
 rw [← hR]
 have HR:=hid hR
 clear ha hb hma hmb M1 M2 hR
 go_enter Tryz.func68,Tryz.ntmps68
 go_wp2_with fail
 refine (HM1.out w (Ext.refl _)).mono ?_
 rintro e w1 ⟨rfl,hx1⟩
 have HX1:=hid hx1
 clear hx1
 go_wp2_with fail
 refine (HM2.out w1 HX1.out).mono ?_
 rintro e w2 ⟨rfl,hx2⟩
 have HX2:=hid (HX1.out.trans hx2)
 clear hx2
 go_wp2_with fail
 refine (z7f _ a w2 (HA.out.ext' HX2.out hS) (z08 hS HX2.out)).mono ?_
 rintro e w3 ⟨rfl,hx3⟩
 have HX3:=hid (HX2.out.trans hx3)
 clear hx3
 rw [EA.out]
 go_wp2_with (refine z26 rfl (.tmp 6) (.tmp 18) rfl rfl rfl (z8b (fun _ => 0) w3) ?_; intro w4 hrow hg; have HROW:=hid hrow; have HG:=hid hg; clear hrow hg)
 have HX4:Hid (Ext w w4):=hid (z0n (HX3.out.alloc _) HG.out (fun k hk => Nat.le_trans HX3.out.size (zd3 hk)))
 refine (z7f _ b w4 (HB.out.ext' HX4.out hS) (z08 hS HX4.out)).mono ?_
 rintro e w5 ⟨rfl,hx5⟩
 have HX5:=hid (HX4.out.trans hx5)
 have hsz:w3.heap.size < w4.heap.size:=by
  have:=HG.out.size
  rw [z02] at this
  omega
 have HSZ:Hid (w3.heap.size < w5.heap.size):=hid (Nat.lt_of_lt_of_le hsz hx5.size)
 have HROW5:=hid (z5k HROW.out hx5)
 clear hx5 hsz
 rw [EB.out]
 go_wp2_with (refine z26 rfl (.tmp 7) (.tmp 20) rfl rfl rfl (z8b (fun _ => 0) w5) ?_; intro w6 hrow hg; have HROWB:=hid hrow; have HG2:=hid hg; clear hrow hg)
 have HX6:Hid (Ext w w6):=hid (z0n (HX5.out.alloc _) HG2.out (fun k hk => Nat.le_trans HX5.out.size (zd3 hk)))
 have HROWA:Hid (w6.rowIs w3.heap.size 174 201 (iv (mixF a b 0))):=hid (by
  have h1:=zfh (z5k HROW5.out (Ext.alloc (Ext.refl _) _)) HG2.out (fun e => by
   have:=HSZ.out
   have h1:w3.heap.size = w5.heap.size:=by simpa using e
   omega)
  have e:mixF a b 0 = fun v:Nat => ex a (v:Nat):=by
   funext j
   unfold mixF
   rw [if_neg (by omega)]
  rw [e]
  exact h1)
 obtain ⟨ga,hga⟩:∃ g,g = w3.heap.size:=⟨_,rfl⟩
 obtain ⟨gb,hgb⟩:∃ g,g = w5.heap.size:=⟨_,rfl⟩
 have hgab:ga ≠ gb:=by
  rw [hga,hgb]
  have:=HSZ.out
  omega
 have HGA:Hid (w.heap.size ≤ ga):=hid (by rw [hga]; exact HX3.out.size)
 rw [← hga] at HROWA ⊢
 rw [← hgb] at HROWB ⊢
 clear hga hgb
 go_loopw [8] (fun v wr => ∃ k:Nat,k ≤ 200 ∧ v = .int .i64 ((k:Int) + 1) ∧ Ext w wr ∧ Hid (wr.rowIs ga 174 201 (iv (mixF a b k))) ∧ Hid (wr.rowIs gb 174 201 (iv fun v => ex b (v:Nat))) ∧ Hid (z69 (sumF a b) k = false)) (fun v _ => (201 - intOf v).toNat)
 case atStart => exact ⟨0,by omega,rfl,HX6.out,HROWA,HROWB,hid (zko _)⟩
 case round =>
  obtain ⟨k,hk,rfl,hx,HP,HQ,HO⟩:=hrel
  have HX:=hid hx
  by_cases h0:k < 200
  ·obtain ⟨q,hq⟩:∃ q,q = k + 1:=⟨_,rfl⟩
   have hqI:(k:Int) + 1 = (q:Int):=by omega
   have hq201:q < 201:=by omega
   have hca:=HP.out.cell (i:=q) hq201
   have hcb:wr.cell? ⟨gb,q,none⟩ = some (.int .i64 (ex b (q:Nat))):=HQ.out.cell (i:=q) hq201
   have hfa:=HP.out.frozen q
   have hm1:mixF a b k q = ex a (q:Nat):=by unfold mixF; rw [if_neg (by omega)]
   unfold iv at hca
   rw [hm1] at hca
   obtain ⟨x,hxe⟩:∃ x,x = ex a (q:Nat):=⟨_,rfl⟩
   obtain ⟨y,hye⟩:∃ y,y = ex b (q:Nat):=⟨_,rfl⟩
   have hxr:=z2t HMA.out (q:Nat)
   have hyr:=z2t HMB.out (q:Nat)
   rw [← hxe] at hca hxr
   rw [← hye] at hcb hyr
   obtain ⟨hxr1,hxr2⟩:=hxr
   obtain ⟨hyr1,hyr2⟩:=hyr
   have hov:z69 (sumF a b) q = (z69 (sumF a b) k || decide (10000 < x + y)):=by rw [hq,hxe,hye,hq]; exact zkp a b k
   rw [HO.out,Bool.false_or] at hov
   have HOV:=hid hov
   have HQE:=hid hq
   have HXE:=hid hxe
   have HYE:=hid hye
   have hq1:1 ≤ q:=by omega
   have hq2:q ≤ 200:=by omega
   have hqI0:(0:Int) ≤ (q:Int):=by omega
   have hqI1:(q:Int) < 201:=by omega
   rw [hqI]
   clear hx hq hm1 hxe hye hov
   go_wp2
   go_still_tail 9,(by kernel_rfl)
   change wpList _ _ _ _ _ wr.drew
   have hst:=World.rowIs.set (World.rowIs.drewN' HP.out) q (.int .i64 (x + y))
   have hrowA:(wr.drew.setCell ⟨ga,q,none⟩ (.int .i64 (x + y))).rowIs ga 174 201 (iv (mixF a b q)):=hst.congr (fun i hi => by
    unfold iv mixF
    by_cases e:i = q
    ·subst e
     rw [if_pos rfl,if_pos ⟨hq1,Nat.le_refl _⟩,← HXE.out,← HYE.out]
    ·rw [if_neg e]
     have:=HQE.out
     by_cases e2:1 ≤ i ∧ i ≤ k
     ·rw [if_pos e2,if_pos (by omega)]
     ·rw [if_neg e2,if_neg (by omega)])
   have HRA:=hid hrowA
   have hca2:=hrowA.cell (i:=q) hq201
   unfold iv mixF at hca2
   rw [if_pos ⟨hq1,Nat.le_refl _⟩,← HXE.out,← HYE.out] at hca2
   clear hst hrowA
   by_cases hbig:10000 < x + y
   ·have HRN:Hid (R = none):=hid (HR.out.trans (zhm (by rw [HOV.out]; exact decide_eq_true hbig) hq2))
    go_wp2
    all_goals
     go_ret2
     rw [HRN.out]
     refine ⟨_,rfl,Pows.empty _ _ _,(HX.out.drew).setCell (p:=⟨ga,q,none⟩) HGA.out _⟩
   ·go_wp2
    go_roundw
    case rel => exact ⟨q,by omega,rfl,(HX.out.drew).setCell (p:=⟨ga,q,none⟩) HGA.out _,HRA,hid (zmp (World.rowIs.drewN' HQ.out) (fun e => hgab e.symm) _),hid (by rw [HOV.out]; exact decide_eq_false hbig)⟩
    case measure => simp only [intOf]; omega
  ·obtain rfl:k = 200:=by omega
   have HRS:=hid (HR.out.trans (zhn HO.out))
   have hof:=zrj (mixF a b 200) wr (fun j => by
    have h1:=z2t HMA.out (j:Nat)
    have h2:=z2t HMB.out (j:Nat)
    unfold mixF
    split <;> omega)
   have HOF:=hid hof
   clear hx hof
   go_wp2_with (refine z4z rfl (.tmp 6) rfl rfl HP.out ?_)
   refine HOF.out.mono ?_
   rintro e w7 ⟨v7,rfl,hp,hx7⟩
   have HX7:=hid hx7
   have HP7:=hid hp
   clear hp hx7
   go_wp2
   all_goals
    go_ret2
    rw [HRS.out]
    exact ⟨_,rfl,HP7.out.to (Kept.refl _ _) (New.mono HX.out),HX.out.trans HX7.out⟩
end
section
open Go.RowKit
def Digs (S:Nat → Prop) (w:World) (v:Value) (zs:List Nat):Prop :=
 ∃ b off,z3a S v zs.length b off ∧ ∀ j z,zs[j]? = some z → z < 10 ∧ w.cell? ⟨b,off + j,none⟩ = some (.int .i64 (z:Nat))
section
variable {S S':Nat → Prop} {w w':World} {v:Value}
theorem Digs.form {zs:List Nat} (h:Digs S w v zs):∃ a cap,v = .slice a zs.length cap:=by
 obtain ⟨b,off,⟨a,cap,h1,_⟩,_⟩:=h
 exact ⟨a,cap,h1⟩
theorem Digs.to {zs:List Nat} (h:Digs S w v zs) (hk:Kept S w w') (hS:∀ k,S k → S' k):Digs S' w' v zs:=by
 obtain ⟨b,off,hs,hc⟩:=h
 exact ⟨b,off,hs.mono hS,fun j z hz => ⟨(hc j z hz).1,hk.cell (hs.in (z05 hz)) (hc j z hz).2⟩⟩
theorem Digs.ext {zs:List Nat} (h:Digs S w v zs) (hx:Ext w w') (hS:∀ k,S k → k < w.heap.size):Digs S w' v zs:=h.to (Kept.ext hx hS) (fun _ h => h)
theorem Digs.len_le {zs:List Nat} (h:Digs S w v zs):zs.length ≤ 9223372036854775807:=by
 obtain ⟨b,off,⟨a,cap,h1,h2,h3,_⟩,_⟩:=h
 unfold maxLen at h3
 omega
theorem Digs.lt {zs:List Nat} (h:Digs S w v zs):∀ z ∈ zs,z < 10:=by
 obtain ⟨b,off,hs,hc⟩:=h
 intro z hz
 obtain ⟨j,hj⟩:=List.getElem?_of_mem hz
 exact (hc j z hj).1
theorem Digs.cellAt {zs:List Nat} {a:Option Addr} {n cap k z:Nat} (h:Digs S w (.slice a n cap) zs) (hz:zs[k]? = some z) :
  ∃ b off,a = some ⟨b,off,none⟩ ∧ n = zs.length ∧ n ≤ cap ∧ cap ≤ 9223372036854775807 ∧ S b ∧ z < 10 ∧ w.cell? ⟨b,off + k,none⟩ = some (.int .i64 (z:Nat)):=by
 obtain ⟨b,off,⟨a',cap',h1,h2,h3,h4,h5⟩,hc⟩:=h
 obtain ⟨rfl,rfl,rfl⟩:a = a' ∧ n = zs.length ∧ cap = cap':=by simpa using h1
 have hp:0 < zs.length:=by have:=z05 hz; omega
 exact ⟨b,off,h4 hp,rfl,h2,h3,h5 hp,hc k z hz⟩
theorem Digs.take {zs:List Nat} {a:Option Addr} {n cap k:Nat} (h:Digs S w (.slice a n cap) zs) (hk:k ≤ n):Digs S w (.slice a k cap) (zs.take k):=by
 obtain ⟨b,off,⟨a',cap',h1,h2,h3,h4,h5⟩,hc⟩:=h
 obtain ⟨rfl,rfl,rfl⟩:a = a' ∧ n = zs.length ∧ cap = cap':=by simpa using h1
 have hl:(zs.take k).length = k:=by rw [List.length_take]; omega
 refine ⟨b,off,⟨a,cap,by rw [hl],by omega,h3,fun h => h4 (by omega),fun h => h5 (by omega)⟩,fun j z hz => hc j z ?_⟩
 rw [List.getElem?_take] at hz
 split at hz
 ·exact hz
 ·simp at hz
theorem Digs.nilv (S:Nat → Prop) (w:World) (a:Option Addr) (cap:Nat) (h:cap ≤ 9223372036854775807):Digs S w (.slice a 0 cap) [] :=
 ⟨0,0,⟨a,cap,rfl,Nat.zero_le _,by unfold maxLen; omega,fun h => absurd h (Nat.lt_irrefl _),fun h => absurd h (Nat.lt_irrefl _)⟩,fun j x hx => by simp at hx⟩
def dval (z:Nat):Value:=.int .i64 (z:Nat)
theorem ze1 {base:Nat} {e:TypeId} {ds:List Nat} (h:w.ownsRow base e 1 v ds.length (ds.map dval)) (hl:∀ z ∈ ds,z < 10):Digs (fun k => base ≤ k ∧ k < w.heap.size) w v ds:=by
 have hlt:=h.lt
 rcases h.2 with ⟨rfl,h0⟩ | ⟨g,cap,cur,rfl,hg,hh,h1,h2,h3,h4⟩
 ·obtain rfl:ds = []:=List.length_eq_zero_iff.1 h0
  exact Digs.nilv _ _ _ _ (by omega)
 ·refine ⟨g,0,⟨_,cap,rfl,h1,h2,fun _ => rfl,fun _ => hlt g rfl⟩,fun j z hz => ⟨hl z (List.mem_of_getElem? hz),?_⟩⟩
  rw [h.cellAt (0 + j) (by have:=z05 hz; omega),Nat.zero_add]
  simp [hz,dval]
theorem z40 {base:Nat} {e:TypeId} {o:List Nat} {u:Value} {f:Nat → Value} (h:w.ownsRow base e 1 v (o.length + 1) (o.map f ++ [u])) {z:Nat} (hu:u = f z):w.ownsRow base e 1 v (o ++ [z]).length ((o ++ [z]).map f):=by
 subst hu
 simpa using h
theorem z41 {u:Value} (h:u.oneCell' = true):∀ x ∈ (#[u]:Array Value).toList,x.oneCell' = true:=by
 intro x hx
 obtain rfl:x = u:=by simpa using hx
 exact h
end
theorem z0h:2 ≤ 10:=by decide
theorem Tryz.infoInt:(Tryz.prog.info? 3).map (fun i => (i.zero,i.size,i.bytes)) = some (some (.int .i64 0),1,8):=by kernel_rfl
theorem zan {S:Nat → Prop} (v:Value) (zs:List Nat) (w:World) (h:Digs S w v zs) :
  Calls Tryz.prog 101 #[v] w fun e w' => ∃ v',e = .returned v' ∧ Digs S w v' (rep 10 (val 10 zs)) ∧ w = w':=by
 have hl:=h.len_le
 have H:=hid h
 obtain ⟨a,cap,rfl⟩:=h.form
 clear h
 go_enter Tryz.func101,Tryz.ntmps101
 go_wp2
 go_loop [0] (fun x => ∃ k:Nat,k ≤ zs.length ∧ x = .slice a k cap ∧ z2m zs k = z2m zs zs.length) (fun x => z1i x)
 case atStart => exact ⟨zs.length,Nat.le_refl _,rfl,rfl⟩
 case round =>
  obtain ⟨k,hk,rfl,ht⟩:=hrel
  cases k with
  | zero =>
   have HT:=hid ht
   clear ht
   go_wp2
   all_goals
    go_ret
    refine ⟨_,rfl,?_,rfl⟩
    have h1:=H.out.take (Nat.zero_le _)
    rw [← z5r z0h zs H.out.lt,← List.take_length (l:=zs),← z4v zs _ (Nat.le_refl _),← HT.out]
    exact h1
  | succ k =>
   obtain ⟨z,hz⟩:=z01 (show k < zs.length by omega)
   obtain ⟨b,off,rfl,-,hcap,hmax,-,hzb,hcell⟩:=H.out.cellAt hz
   have HT:=hid ht
   have HZ:=hid hz
   clear ht hz
   by_cases h0:z = 0
   ·have hb:((z:Int) == 0) = true:=by simpa using h0
    have H0:=hid h0
    clear h0
    go_wp2
    go_round
    case rel => exact ⟨k,by omega,rfl,by rw [← HT.out,z2m,HZ.out,H0.out,if_pos rfl]⟩
    case measure => simp only [z1i]; omega
   ·have hb:((z:Int) == 0) = false:=by simpa using h0
    have H0:=hid h0
    clear h0
    go_wp2
    all_goals
     go_ret
     refine ⟨_,rfl,?_,rfl⟩
     have h1:=H.out.take hk
     have h2:z2m zs (k + 1) = k + 1:=by rw [z2m,HZ.out,if_neg (by simpa using H0.out)]
     rw [← z5r z0h zs H.out.lt,← List.take_length (l:=zs),← z4v zs _ (Nat.le_refl _),← HT.out,h2]
     exact h1
end
end Go.Proofs.YtdcijfhkfhhfjaaGreat
