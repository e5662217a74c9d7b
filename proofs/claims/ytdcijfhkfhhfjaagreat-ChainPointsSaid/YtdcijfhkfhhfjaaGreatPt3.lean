/- Decimal digits out of limbs and back. Decimal digits: held against each other, summed up, subtracted, multiplied. Decimal digits: sums, differences, products. Decimal digits: the product. A polynomial's first term, class and degree. Degree, rank, the order of ranks, what is reduced. The document's whole numbers: a sign and digits. A region that draws its order: what reads first, then calls that make memory, one behind the other. The document's whole numbers: as data, small ones, sign, the same, canonical. The document's whole numbers: small ones, products, sums. The document's whole numbers: sums. -/
import Derived.StillTail
import Derived.OrdersHeld
import Derived.Test.YtdcijfhkfhhfjaaGreatPt2
set_option maxRecDepth 100000
set_option maxHeartbeats 16000000
namespace Go.Proofs.YtdcijfhkfhhfjaaGreat
section
open Go.RowKit
theorem zmt {V k:Nat} (h:V < 10 ^ k):(rep B32 V).length ≤ k:=z0f z00 _ _ (Nat.lt_of_lt_of_le h (Nat.pow_le_pow_left (by decide) k))
theorem zfi {B N m:Nat} {o:List Nat} (hB:2 ≤ B) (h:rep B N = o ++ rep B m) (hm:0 < m):rep B N = (o ++ [m % B]) ++ rep B (m / B):=by
 rw [h,z6p hB hm]
 simp
theorem zmu (n:Nat) (w:World) (hn:n < 18446744073709551616) :
  Calls Tryz.prog 65 #[.int .u64 (n:Nat)] w fun e w' => ∃ v',e = .returned v' ∧ Digs (New w w') w' v' (rep 10 n) ∧ Ext w w':=by
 have hlen:(rep 10 n).length ≤ 20:=z0f z0h _ _ (Nat.lt_of_lt_of_le hn (by decide))
 have HL:=hid hlen
 clear hlen
 go_enter Tryz.func65,Tryz.ntmps65
 go_wp2
 go_loopw [0,3] (fun i x wr => ∃ (m:Nat) (o:List Nat),i = .int .u64 m ∧ m < 18446744073709551616 ∧ Hid (rep 10 n = o ++ rep 10 m) ∧ Hid (wr.ownsRow w.heap.size 3 1 x o.length (o.map dval)) ∧ Ext w wr) (fun i _ _ => (intOf i).toNat)
 case atStart => exact ⟨n,[],rfl,hn,hid rfl,hid (World.ownsRow_nil _ _ _ _),Ext.refl _⟩
 case round =>
  obtain ⟨m,o,rfl,hm,HV,HW,hx⟩:=hrel
  have HX:=hid hx
  clear hx
  by_cases h0:0 < m
  ·have hol2:o.length ≤ 1000000000:=by
    have:=HL.out
    rw [HV.out,List.length_append] at this
    omega
   go_wp2_with (at_builtin; refine z0l _ rfl (.tmp 6) (.tmp 10) 100 rfl w.heap.size 3 (.int .i64 0) 1 8 Tryz.underlying100 Tryz.infoInt rfl (by decide) _ o.length (o.map dval) rfl HW.out _ rfl (z41 rfl) rfl hol2 (by decide) HX.out.size ?_; intro v1 w1 hown hg _; have HOW:=hid hown; have HG:=hid hg; clear hown hg)
   go_roundw
   case rel =>
    refine ⟨m / 10,o ++ [m % 10],by go_num,by omega,hid (zfi z0h HV.out h0),hid (z40 HOW.out (by unfold dval; congr 1)),z0n HX.out HG.out ?_⟩
    intro q hq
    exact (HW.out.lt q hq).1
   case measure => simp only [intOf]; omega
  ·obtain rfl:m = 0:=by omega
   have e:rep 10 n = o:=by rw [HV.out,z36,List.append_nil]
   have E:=hid e
   clear e
   go_wp2
   all_goals
    go_ret
    refine ⟨_,rfl,?_,HX.out⟩
    rw [E.out]
    exact ze1 HW.out (fun z hz => z3q z0h n z (by rw [E.out]; exact hz))
def rowD (o:List Nat):Nat → Value:=fun j => dval (dg o j)
theorem ze2 {w:World} {T:TypeId} {n g:Nat} {o:List Nat} (h:w.rowIs g T n (rowD o)) (k z:Nat) (hk:k < o.length):(w.setCell ⟨g,k,none⟩ (dval z)).rowIs g T n (rowD (o.set k z)):=by
 refine (h.set k (dval z)).congr (fun i hi => ?_)
 unfold rowD dg
 rw [List.getElem?_set]
 by_cases e:i = k
 ·subst e
  simp [hk]
 ·rw [if_neg e,if_neg (fun h => e h.symm)]
theorem zd4 (w:World) (n:Nat) (T:TypeId):(w.alloc (.cells (madeCells #[.int .i64 0] n) T)).rowIs w.heap.size T n (rowD (List.replicate n 0)) :=
 (World.rowIs_made w (.int .i64 0) n T).congr (fun i hi => by simp [rowD,dg,dval,hi])
theorem Digs.of_row {w:World} {T:TypeId} {g cap:Nat} {o:List Nat} (h:w.rowIs g T cap (rowD o)) (ho:o.length = cap) (hl:∀ z ∈ o,z < 10) (hc:cap ≤ 9223372036854775807):Digs (fun k => k = g) w (.slice (some ⟨g,0,none⟩) cap cap) o:=by
 subst ho
 refine ⟨g,0,⟨_,o.length,rfl,Nat.le_refl _,by unfold maxLen; omega,fun _ => rfl,fun _ => rfl⟩,fun j z hz => ⟨hl z (List.mem_of_getElem? hz),?_⟩⟩
 have hj:=z05 hz
 rw [Nat.zero_add,h.cell (i:=j) hj]
 simp [rowD,dval,dg,hz]
theorem drop_set {o:List Nat} {q z:Nat} (h:q < o.length):(o.set q z).drop q = z :: o.drop (q + 1):=by
 rw [List.drop_eq_getElem_cons (by simpa using h)]
 simp [List.drop_set]
theorem zvt {ds o:List Nat} {q x n r:Nat} (hx:ds[q]? = some x) (hq:q < o.length) (h:val 10 (ds.drop (q + 1)) = val 10 (o.drop (q + 1)) * n + r) :
  val 10 (ds.drop q) = val 10 ((o.set q ((r * 10 + x) / n)).drop q) * n + (r * 10 + x) % n:=by
 rw [z7c hx,drop_set hq,val,h]
 have:=zmd (V:=val 10 (o.drop (q + 1)) * n + r) (d:=x) (n:=n) (q:=val 10 (o.drop (q + 1))) (r:=r) rfl
 rw [Nat.mul_comm r 10,Nat.add_comm x,this,Nat.add_comm (10 * val 10 (List.drop (q + 1) o))]
theorem zxz {S:Nat → Prop} (v:Value) (zs:List Nat) (n:Int) (w:World) (h:Digs S w v zs) (_hS:∀ k,S k → k < w.heap.size) (hr:zs.length ≤ 10000000) (hn0:0 < n) (hn:n ≤ 65536) :
  Calls Tryz.prog 108 #[v,.int .i64 n] w fun e w' => ∃ v',e = .returned (.tuple #[v',.int .i64 ((val 10 zs % n.toNat:Nat):Int)]) ∧ Digs (New w w') w' v' (rep 10 (val 10 zs / n.toNat)) ∧ Ext w w':=by
 obtain ⟨n,rfl⟩:=Int.eq_ofNat_of_zero_le (Int.le_of_lt hn0)
 simp only [Int.toNat_natCast]
 have hnp:0 < n:=by omega
 have H:=hid h
 have HLT:=hid h.lt
 obtain ⟨a,cap,rfl⟩:=h.form
 clear h hn0
 have hmk:=run_make_row' (P:=Tryz.prog) 100 3 (.int .i64 0) 8 Tryz.underlying100 Tryz.infoInt rfl .i64 .i64 zs.length (by omega) (by omega) w
 have hz:w.heap.size < (w.alloc (.cells (madeCells #[.int .i64 0] zs.length) 3)).heap.size:=by simp
 have HR:=hid (zd4 w zs.length 3)
 have HE:=hid (Ext.alloc (Ext.refl w) (.cells (madeCells #[.int .i64 0] zs.length) 3))
 go_enter Tryz.func108,Tryz.ntmps108
 go_wp2
 go_loopw [7,8] (fun rr i wr => ∃ (k r:Nat) (o:List Nat),k ≤ zs.length ∧ i = .int .i64 ((k:Int) - 1) ∧ rr = .int .i64 r ∧ r < n ∧ Hid (o.length = zs.length) ∧ Hid (∀ z ∈ o,z < 10) ∧ wr.rowIs w.heap.size 3 zs.length (rowD o) ∧ Ext w wr ∧
  Hid (val 10 (zs.drop k) = val 10 (o.drop k) * n + r)) (fun _ i _ => (intOf i + 1).toNat)
 case atStart => exact ⟨zs.length,0,List.replicate zs.length 0,Nat.le_refl _,rfl,rfl,hnp,hid (by simp),hid (by simp),HR.out,HE.out,hid (by rw [List.drop_length,List.drop_eq_nil_of_le (by simp)]; simp [val])⟩
 case round =>
  obtain ⟨k,r,o,hk,rfl,rfl,hrn,HOL,HO,hrow,hx,HV⟩:=hrel
  cases k with
  | succ q =>
   have hq1:((q + 1:Nat):Int) - 1 = (q:Int):=by omega
   have hqn:q < zs.length:=by omega
   obtain ⟨x,hx1⟩:=z01 hqn
   obtain ⟨b,off,rfl,-,hn1,hm1,hSb,hxb,hc1⟩:=H.out.cellAt hx1
   have g1:=hx.cell hc1
   have hcs:=hrow.cell (i:=q) hqn
   have hfs:=hrow.frozen q
   have HX1:=hid hx1
   have HROW:=hid hrow
   have HX:=hid hx
   obtain ⟨p,hp⟩:∃ p:Nat,p = r * 10 + x:=⟨_,rfl⟩
   have hmul:(r:Int) * 10 + (x:Int) = (p:Int):=by rw [hp]; omega
   have hpb:p < n * 10:=by rw [hp]; omega
   obtain ⟨dq,hdq⟩:∃ d,d = p / n:=⟨_,rfl⟩
   obtain ⟨dm,hdm⟩:∃ d,d = p % n:=⟨_,rfl⟩
   have hpd:dq < 10:=by rw [hdq]; exact Nat.div_lt_of_lt_mul hpb
   have hpm:dm < n:=by rw [hdm]; exact Nat.mod_lt _ hnp
   have hdv:(p:Int) / (n:Int) = (dq:Int):=by rw [hdq]; simp
   have hmd:(p:Int) % (n:Int) = (dm:Int):=by rw [hdm]; simp
   have HDQ:=hid hdq
   have HDM:=hid hdm
   clear hdq hdm
   have HP:=hid hp
   clear hx1 hc1 hx hrow hp
   have hne:¬ n = 0:=by omega
   simp only [hq1]
   go_wp2
   go_roundw
   case rel =>
    have hs:(wr.setCell ⟨w.heap.size,q,none⟩ (dval dq)).rowIs w.heap.size 3 zs.length (rowD (o.set q dq)):=ze2 HROW.out q dq (by rw [HOL.out]; exact hqn)
    refine ⟨q,dm,o.set q dq,by omega,rfl,congrArg (Value.int .i64) hmd,hpm,hid (by simpa using HOL.out),?_,hs,HX.out.setCell (p:=⟨w.heap.size,q,none⟩) (Nat.le_refl _) _,hid ?_⟩
    ·refine hid (fun z hz => ?_)
     rcases List.mem_or_eq_of_mem_set hz with h | h
     ·exact HO.out z h
     ·rw [h]; exact hpd
    ·rw [HDQ.out,HDM.out,HP.out]
     exact zvt HX1.out (by rw [HOL.out]; exact hqn) HV.out
   case measure => simp only [intOf]; omega
  | zero =>
   have HROW:=hid hrow
   have HX:=hid hx
   have hd:=(Digs.of_row hrow HOL.out HO.out (by omega))
   have HD:=hid hd
   have HV0:Hid (val 10 zs = val 10 o * n + r):=hid (by simpa using HV.out)
   clear hrow hx hd
   go_wp2_with fail
   refine (zan _ o _ HD.out).mono ?_
   rintro e w' ⟨v',rfl,hu,rfl⟩
   have HU:=hid hu
   clear hu
   go_wp2
   all_goals
    go_ret2
    have e1:val 10 zs / n = val 10 o:=by rw [HV0.out,Nat.mul_comm,Nat.mul_add_div hnp,Nat.div_eq_of_lt hrn]; rfl
    have e2:val 10 zs % n = r:=by rw [HV0.out,Nat.mul_comm,Nat.mul_add_mod,Nat.mod_eq_of_lt hrn]
    refine ⟨v',?_,?_,HX.out⟩
    ·rw [e2]
     rfl
    ·rw [e1]
     refine HU.out.to (Kept.refl _ _) (fun k hk => ?_)
     subst hk
     exact ⟨Nat.le_refl _,HROW.out.lt⟩
theorem zrk {w:World} {v:Value} {base:Nat} {e:TypeId} {ds:List Nat} (h:w.ownsRow base e 1 v ds.length (ds.map uval)) (hl:∀ z ∈ ds,z < B32):U32s (fun k => base ≤ k ∧ k < w.heap.size) w v ds:=by
 have hlt:=h.lt
 rcases h.2 with ⟨rfl,h0⟩ | ⟨g,cap,cur,rfl,hg,hh,h1,h2,h3,h4⟩
 ·obtain rfl:ds = []:=List.length_eq_zero_iff.1 h0
  exact U32s.nilv _ _ _ _ (by omega)
 ·refine ⟨g,0,⟨_,cap,rfl,h1,h2,fun _ => rfl,fun _ => hlt g rfl⟩,fun j z hz => ⟨hl z (List.mem_of_getElem? hz),?_⟩⟩
  rw [h.cellAt (0 + j) (by have:=z05 hz; omega),Nat.zero_add]
  simp [hz,uval]
theorem zmv {S:Nat → Prop} (v:Value) (zs:List Nat) (w:World) (h:Digs S w v zs) (hS:∀ k,S k → k < w.heap.size) (hr:zs.length ≤ 10000000) :
  Calls Tryz.prog 108 #[v,.int .i64 65536] w fun e w' => ∃ v',e = .returned (.tuple #[v',.int .i64 ((val 10 zs % 65536:Nat):Int)]) ∧ Digs (New w w') w' v' (rep 10 (val 10 zs / 65536)) ∧ Ext w w' :=
 zxz v zs 65536 w h hS hr (by decide) (by decide)
theorem zkq {N m:Nat} {o:List Nat} (h:rep B32 N = o ++ rep B32 m) (hm:0 < m):rep B32 N = (o ++ [m / 65536 % 65536 * 65536 + m % 65536]) ++ rep B32 (m / 65536 / 65536):=by
 have e1:m / 65536 % 65536 * 65536 + m % 65536 = m % B32:=by show _ = m % 4294967296; omega
 have e2:m / 65536 / 65536 = m / B32:=by show _ = m / 4294967296; omega
 rw [e1,e2]
 exact zfi z00 h hm
theorem zkr {m:Nat} (h:0 < m):(rep 10 (m / 65536 / 65536)).length < (rep 10 m).length:=by
 rw [z6p z0h h,List.length_cons]
 have:(rep 10 (m / 65536 / 65536)).length ≤ (rep 10 (m / 10)).length:=z0f z0h _ _ (Nat.lt_of_le_of_lt (by omega) (z0y z0h _))
 omega
theorem zfj {S:Nat → Prop} (v:Value) (n:Nat) (w:World) (h:Digs S w v (rep 10 n)) (hS:∀ k,S k → k < w.heap.size) (hr:(rep 10 n).length ≤ 10000000) :
  Calls Tryz.prog 73 #[v] w fun e w' => ∃ v',e = .returned v' ∧ U32s (New w w') w' v' (rep B32 n) ∧ Ext w w':=by
 have HLN:Hid (n < 10 ^ (rep 10 n).length):=hid (z0y z0h n)
 have HL32:Hid ((rep B32 n).length ≤ 10000000):=hid (Nat.le_trans (zmt HLN.out) hr)
 have H:=hid h
 have HR:=hid hr
 clear h hr
 obtain ⟨a,cap,rfl⟩:=H.out.form
 go_enter Tryz.func73,Tryz.ntmps73
 go_wp2
 go_loopw [0,3] (fun x y wr => ∃ (m:Nat) (o:List Nat),Hid (m ≤ n) ∧ Hid (rep B32 n = o ++ rep B32 m) ∧ Hid (wr.ownsRow w.heap.size 74 1 y o.length (o.map uval)) ∧ Ext w wr ∧ Hid (Digs (fun k => k < wr.heap.size ∧ some k ≠ y.ownBlock) wr x (rep 10 m))) (fun x _ _ => z1i x)
 case atStart => exact ⟨n,[],hid (Nat.le_refl _),hid rfl,hid (World.ownsRow_nil _ _ _ _),Ext.refl _,hid (H.out.to (Kept.refl _ _) (fun k hk => ⟨hS k hk,by simp [Value.ownBlock]⟩))⟩
 case round =>
  obtain ⟨m,o,HMN,HV,HW,hx,HD⟩:=hrel
  obtain ⟨a1,c1,rfl⟩:=HD.out.form
  have HX:=hid hx
  clear hx
  have hlm:(rep 10 m).length ≤ 10000000:=Nat.le_trans (z0f z0h _ _ (Nat.lt_of_le_of_lt HMN.out HLN.out)) HR.out
  by_cases h0:0 < m
  ·have hp:0 < (rep 10 m).length:=by
    rw [List.length_pos_iff,Ne,z2d z0h]
    omega
   have hol2:o.length ≤ 1000000000:=by
    have:=HL32.out
    rw [HV.out,List.length_append] at this
    omega
   have hb1:=zmv _ _ wr HD.out (fun k hk => hk.1) hlm
   rw [z0d z0h] at hb1
   obtain ⟨lo,hlo⟩:∃ d,d = m % 65536:=⟨_,rfl⟩
   obtain ⟨hi,hhi⟩:∃ d,d = m / 65536 % 65536:=⟨_,rfl⟩
   have hlo1:lo < 65536:=by omega
   have hhi1:hi < 65536:=by omega
   have HLO:=hid hlo
   have HHI:=hid hhi
   rw [← hlo] at hb1
   have HB1:=hid hb1
   clear hlo hhi
   have HLM:=hid hlm
   have HM0:=hid h0
   clear hb1 hlm h0
   go_wp2_with fail
   refine HB1.out.mono ?_
   rintro e w1 ⟨v1,rfl,hd1,hx1⟩
   have HD1:=hid hd1
   obtain ⟨a2,c2,rfl⟩:=hd1.form
   have hb2:=zmv _ _ w1 hd1 New.lt (Nat.le_trans (z0f z0h _ _ (Nat.lt_of_le_of_lt (Nat.div_le_self _ _) (Nat.lt_of_le_of_lt HMN.out HLN.out))) HR.out)
   rw [z0d z0h,← HHI.out] at hb2
   have HB2:=hid hb2
   have HX1:=hid hx1
   clear hd1 hx1 hb2
   go_wp2_with fail
   refine HB2.out.mono ?_
   rintro e w2 ⟨v2,rfl,hd2,hx2⟩
   have HD2:=hid hd2
   have HX2:=hid (HX1.out.trans hx2)
   have HX12:=hid hx2
   obtain ⟨a3,c3,rfl⟩:=hd2.form
   clear hd2 hx2
   have hown2:w2.ownsRow w.heap.size 74 1 _ o.length (o.map uval):=HW.out.kept (row:=none) ⟨HX2.out.os,HX2.out.tape,HX2.out.output,HX2.out.size,fun k hk _ => HX2.out.block k hk⟩ (by cases hv:Value.ownBlock _ <;> simp)
   have HW2:=hid hown2
   clear hown2
   go_wp2_with (at_builtin; refine z0l _ rfl (.tmp 19) (.tmp 26) 28 rfl w.heap.size 74 (.int .u32 0) 1 4 Tryz.underlying28 Tryz.infoU32 rfl (by decide) _ o.length (o.map uval) rfl HW2.out _ rfl (z41 rfl) rfl hol2 (by decide) (Nat.le_trans HX.out.size HX2.out.size) ?_; intro v3 w3 hown hg hbk; have HOW:=hid hown; have HG:=hid hg; have HBK:=hid hbk; clear hown hg hbk)
   go_roundw
   case rel =>
    have hxg:Ext w w3:=z0n (HX.out.trans HX2.out) HG.out (fun q hq => (HW2.out.lt q hq).1)
    refine ⟨m / 65536 / 65536,o ++ [hi * 65536 + lo],hid ?_,hid ?_,hid (z40 HOW.out (by unfold uval; congr 1)),hxg,hid ?_⟩
    ·exact Nat.le_trans (Nat.div_le_self _ _) (Nat.le_trans (Nat.div_le_self _ _) HMN.out)
    ·rw [HHI.out,HLO.out]
     exact zkq HV.out HM0.out
    ·refine HD2.out.to (Kept.grown HG.out (fun k hk => ⟨hk.2,fun e => ?_⟩)) (fun k hk => ⟨Nat.lt_of_lt_of_le hk.2 HG.out.size,fun e => ?_⟩)
     ·have:=(HW.out.lt k e.symm).2
      have:=hk.1
      have:=HX1.out.size
      omega
     ·rcases HBK.out with hb | hb
      ·rw [hb] at e
       have:=(HW.out.lt k e.symm).2
       have:=hk.1
       have:=HX1.out.size
       omega
      ·rw [hb] at e
       have h1:k = w2.heap.size + 1:=by simpa using e
       have:=hk.2
       omega
   case measure =>
    simp only [z1i]
    exact zkr HM0.out
  ·obtain rfl:m = 0:=by omega
   have e:rep B32 n = o:=by rw [HV.out,z36,List.append_nil]
   have E:=hid e
   have hz:(rep 10 0).length = 0:=rfl
   clear e
   go_wp2
   all_goals
    go_ret
    refine ⟨_,rfl,?_,HX.out⟩
    rw [E.out]
    exact zrk HW.out (fun z hz => z3q z00 n z (by rw [E.out]; exact hz))
end
section
open Go.RowKit
theorem zmw {n m:Nat} (h:(rep 10 n).length < (rep 10 m).length):cmpN n m = -1:=by
 have:=z7d z0h h
 unfold cmpN
 rw [z2w]
 omega
theorem zks {n m:Nat} (h:(rep 10 m).length < (rep 10 n).length):cmpN n m = 1:=by
 have:=z7d z0h h
 unfold cmpN
 rw [z3y]
 omega
theorem zfk {n m k x y:Nat} (hlen:(rep 10 n).length = (rep 10 m).length) (hx:(rep 10 n)[k]? = some x) (hy:(rep 10 m)[k]? = some y) (ht:val 10 ((rep 10 n).drop (k + 1)) = val 10 ((rep 10 m).drop (k + 1))) (h:x < y):cmpN n m = -1:=by
 have h1:=zd0 (B:=10) (l:=rep 10 n) (m:=rep 10 m) (k:=k) (by decide) (z3q z0h n) (by rw [z0o hx,z0o hy]; exact h) (z05 hx) (z05 hy) ht hlen
 rw [z0d z0h,z0d z0h] at h1
 unfold cmpN
 rw [z2w]
 omega
theorem zkt {n m k x y:Nat} (hlen:(rep 10 n).length = (rep 10 m).length) (hx:(rep 10 n)[k]? = some x) (hy:(rep 10 m)[k]? = some y) (ht:val 10 ((rep 10 n).drop (k + 1)) = val 10 ((rep 10 m).drop (k + 1))) (h:y < x):cmpN n m = 1:=by
 have:=zfk hlen.symm hy hx ht.symm h
 unfold cmpN at *
 rw [zdu,this]
 rfl
theorem zmx {S:Nat → Prop} (va vb:Value) (n m:Nat) (w:World) (ha:Digs S w va (rep 10 n)) (hb:Digs S w vb (rep 10 m)) (hS:∀ k,S k → k < w.heap.size) :
  Calls Tryz.prog 106 #[va,vb] w fun e w' => e = .returned (.int .i64 (cmpN n m)) ∧ Ext w w':=by
 have HU:=hid ha
 have HV:=hid hb
 have hl1:=ha.len_le
 have hl2:=hb.len_le
 obtain ⟨aa,ca,rfl⟩:=ha.form
 obtain ⟨ab,cb,rfl⟩:=hb.form
 clear ha hb
 rcases (show (rep 10 n).length < (rep 10 m).length ∨ (rep 10 m).length < (rep 10 n).length ∨ (rep 10 n).length = (rep 10 m).length by omega) with hlt | hlt | heq
 ·have HC:=hid (zmw hlt)
  have hq:(((rep 10 n).length:Int) != ((rep 10 m).length:Int)) = true:=by rw [bne_iff_ne]; omega
  go_enter Tryz.func106,Tryz.ntmps106
  go_wp2
  all_goals
   go_ret
   exact ⟨by rw [HC.out]; rfl,Ext.refl _⟩
 ·have HC:=hid (zks hlt)
  have hq:(((rep 10 n).length:Int) != ((rep 10 m).length:Int)) = true:=by rw [bne_iff_ne]; omega
  go_enter Tryz.func106,Tryz.ntmps106
  go_wp2
  all_goals
   go_ret
   exact ⟨by rw [HC.out]; rfl,Ext.refl _⟩
 ·have HE:=hid heq
  obtain ⟨L,hL⟩:∃ L,L = (rep 10 n).length:=⟨_,rfl⟩
  have HL:=hid hL
  rw [← heq,← hL] at HV hl2 ⊢
  rw [← hL] at HU hl1
  clear heq hL
  have hq:((L:Int) != (L:Int)) = false:=by simp
  go_enter Tryz.func106,Tryz.ntmps106
  go_wp2
  go_loopw [5] (fun i wr => ∃ k:Nat,k ≤ L ∧ i = .int .i64 ((k:Int) - 1) ∧ Ext w wr ∧ val 10 ((rep 10 n).drop k) = val 10 ((rep 10 m).drop k)) (fun i _ => (intOf i + 1).toNat)
  case atStart => exact ⟨L,Nat.le_refl _,rfl,Ext.refl _,by rw [List.drop_eq_nil_of_le (by have:=HL.out; omega),List.drop_eq_nil_of_le (by have:=HL.out; have:=HE.out; omega)]⟩
  case round =>
   obtain ⟨k,hk,rfl,hx,ht⟩:=hrel
   cases k with
   | succ q =>
    have hq1:((q + 1:Nat):Int) - 1 = (q:Int):=by omega
    have hqn:q < L:=by omega
    obtain ⟨x,hx1⟩:=z01 (show q < (rep 10 n).length by have:=HL.out; omega)
    obtain ⟨y,hy1⟩:=z01 (show q < (rep 10 m).length by have:=HL.out; have:=HE.out; omega)
    obtain ⟨b1,o1,rfl,-,hn1,hm1,-,hxb,hc1⟩:=(HU.out.to (Kept.ext hx hS) (fun _ h => h)).cellAt hx1
    obtain ⟨b2,o2,rfl,-,hn2,hm2,-,hyb,hc2⟩:=(HV.out.to (Kept.ext hx hS) (fun _ h => h)).cellAt hy1
    have HX:=hid hx
    have HT:=hid ht
    have HX1:=hid hx1
    have HY1:=hid hy1
    clear hx ht hx1 hy1
    simp only [hq1]
    rcases (show x < y ∨ y < x ∨ x = y by omega) with hlt | hlt | heq
    ·have HC:=hid (zfk HE.out HX1.out HY1.out HT.out hlt)
     go_wp2
     go_quiet (fail)
     go_wp2
     all_goals
      go_ret
      exact ⟨by rw [HC.out]; rfl,HX.out.drewN _⟩
    ·have HC:=hid (zkt HE.out HX1.out HY1.out HT.out hlt)
     go_wp2
     go_quiet (fail)
     go_wp2
     go_quiet (fail)
     go_wp2
     all_goals
      go_ret
      exact ⟨by rw [HC.out]; rfl,(HX.out.drewN _).drewN _⟩
    ·subst heq
     go_wp2
     go_quiet (fail)
     go_wp2
     go_quiet (fail)
     go_wp2
     go_roundw
     case rel => exact ⟨q,by omega,rfl,HX.out.drewN _,by rw [z7c HX1.out,z7c HY1.out,HT.out]⟩
     case measure => simp only [intOf]; omega
   | zero =>
    have HX:=hid hx
    have HC:Hid (cmpN n m = 0):=by
     have e:n = m:=by simpa [z0d z0h] using ht
     refine hid ?_
     rw [e]
     exact zfc _
    clear hx ht
    go_wp2
    all_goals
     go_ret
     exact ⟨by rw [HC.out]; rfl,HX.out⟩
end
section
open Go.RowKit
theorem z6w {B:Nat} {o:List Nat} {z:Nat} (h:∀ x ∈ o,x < B) (hz:z < B):∀ x ∈ o ++ [z],x < B:=by
 intro x hx
 rcases List.mem_append.1 hx with h1 | h1
 ·exact h x h1
 ·rw [List.mem_singleton.1 h1]
  exact hz
theorem zrl {B:Nat} {o xs ys:List Nat} {k:Nat} (h:val B o + B ^ k * 0 = val B (xs.take k) + val B (ys.take k)) (hx:xs.length ≤ k) (hy:ys.length ≤ k):val B o = val B xs + val B ys:=by
 rw [List.take_of_length_le hx,List.take_of_length_le hy] at h
 simpa using h
theorem zvu {S:Nat → Prop} (va vb:Value) (xs ys:List Nat) (w:World) (ha:Digs S w va xs) (hb:Digs S w vb ys) (hS:∀ k,S k → k < w.heap.size) (hr:xs.length ≤ 10000000) (hr2:ys.length ≤ 10000000) :
  Calls Tryz.prog 66 #[va,vb] w fun e w' => ∃ v',e = .returned v' ∧ Digs (New w w') w' v' (rep 10 (val 10 xs + val 10 ys)) ∧ Ext w w':=by
 have HA:=hid ha
 have HB:=hid hb
 obtain ⟨aa,ca,rfl⟩:=ha.form
 obtain ⟨ab,cb,rfl⟩:=hb.form
 clear ha hb
 go_enter Tryz.func66,Tryz.ntmps66
 go_wp2
 go_loopw [5,6,7] (fun x c i wr => ∃ (k cc:Nat) (o:List Nat),k ≤ 10000001 ∧ i = .int .i64 k ∧ c = .int .i64 cc ∧ cc ≤ 1 ∧ Hid (o.length = k) ∧ Hid (xs.length < k → ys.length < k → cc = 0) ∧ Hid (∀ z ∈ o,z < 10) ∧ Hid (wr.ownsRow w.heap.size 3 1 x o.length (o.map dval)) ∧ Ext w wr ∧
  Hid (val 10 o + 10 ^ k * cc = val 10 (xs.take k) + val 10 (ys.take k))) (fun _ _ i _ => xs.length + ys.length + 2 - (intOf i).toNat)
 case atStart => exact ⟨0,0,[],by omega,rfl,rfl,by omega,hid rfl,hid (fun h => absurd h (by omega)),hid (by simp),hid (World.ownsRow_nil _ _ _ _),Ext.refl _,hid (by simp [val])⟩
 case round =>
  obtain ⟨k,cc,o,hk,rfl,rfl,hcc,HOL,HZ,HO,HW,hx,HV⟩:=hrel
  have hol2:o.length ≤ 1000000000:=by have:=HOL.out; omega
  have HX:=hid hx
  by_cases h1:k < xs.length
  ·obtain ⟨x,hx1⟩:=z01 h1
   obtain ⟨b1,o1,rfl,-,hn1,hm1,-,hxb,hc1⟩:=(HA.out.ext hx hS).cellAt hx1
   have HX1:=hid hx1
   clear hx1
   by_cases h2:k < ys.length
   ·obtain ⟨y,hy1⟩:=z01 h2
    obtain ⟨b2,o2,rfl,-,hn2,hm2,-,hyb,hc2⟩:=(HB.out.ext hx hS).cellAt hy1
    have HY1:=hid hy1
    clear hy1 hx
    go_wp2_with (at_builtin; refine z0l _ rfl (.tmp 44) (.tmp 47) 100 rfl w.heap.size 3 (.int .i64 0) 1 8 Tryz.underlying100 Tryz.infoInt rfl (by decide) _ o.length (o.map dval) rfl HW.out _ rfl (z41 rfl) rfl hol2 (by decide) HX.out.size ?_; intro v1 w1 hown hg _; have HOW:=hid hown; have HG:=hid hg; clear hown hg)
    go_roundw
    case rel =>
     refine ⟨k + 1,(cc + (x + y)) / 10,o ++ [(cc + (x + y)) % 10],by omega,by go_num,congrArg (Value.int .i64) (by omega),by omega,hid (by simp [HOL.out]),hid (fun h => absurd h (by omega)),hid (z6w HO.out (Nat.mod_lt _ (by decide))),hid (z40 HOW.out (congrArg (Value.int .i64) (by omega))),z0n HX.out HG.out (fun q hq => (HW.out.lt q hq).1),hid ?_⟩
     exact z3x HOL.out HV.out (x + y) (by rw [z0o HX1.out,z0o HY1.out])
    case measure => simp only [intOf]; omega
   ·clear hx
    go_wp2_with (at_builtin; refine z0l _ rfl (.tmp 44) (.tmp 47) 100 rfl w.heap.size 3 (.int .i64 0) 1 8 Tryz.underlying100 Tryz.infoInt rfl (by decide) _ o.length (o.map dval) rfl HW.out _ rfl (z41 rfl) rfl hol2 (by decide) HX.out.size ?_; intro v1 w1 hown hg _; have HOW:=hid hown; have HG:=hid hg; clear hown hg)
    go_roundw
    case rel =>
     refine ⟨k + 1,(cc + (x + 0)) / 10,o ++ [(cc + (x + 0)) % 10],by omega,by go_num,congrArg (Value.int .i64) (by omega),by omega,hid (by simp [HOL.out]),hid (fun h => absurd h (by omega)),hid (z6w HO.out (Nat.mod_lt _ (by decide))),hid (z40 HOW.out (congrArg (Value.int .i64) (by omega))),z0n HX.out HG.out (fun q hq => (HW.out.lt q hq).1),hid ?_⟩
     exact z3x HOL.out HV.out (x + 0) (by rw [z0o HX1.out,z2n (l:=ys) (by omega)])
    case measure => simp only [intOf]; omega
  ·by_cases h2:k < ys.length
   ·obtain ⟨y,hy1⟩:=z01 h2
    obtain ⟨b2,o2,rfl,-,hn2,hm2,-,hyb,hc2⟩:=(HB.out.ext hx hS).cellAt hy1
    have HY1:=hid hy1
    clear hy1 hx
    go_wp2_with (at_builtin; refine z0l _ rfl (.tmp 44) (.tmp 47) 100 rfl w.heap.size 3 (.int .i64 0) 1 8 Tryz.underlying100 Tryz.infoInt rfl (by decide) _ o.length (o.map dval) rfl HW.out _ rfl (z41 rfl) rfl hol2 (by decide) HX.out.size ?_; intro v1 w1 hown hg _; have HOW:=hid hown; have HG:=hid hg; clear hown hg)
    go_roundw
    case rel =>
     refine ⟨k + 1,(cc + (0 + y)) / 10,o ++ [(cc + (0 + y)) % 10],by omega,by go_num,congrArg (Value.int .i64) (by omega),by omega,hid (by simp [HOL.out]),hid (fun _ h => absurd h (by omega)),hid (z6w HO.out (Nat.mod_lt _ (by decide))),hid (z40 HOW.out (congrArg (Value.int .i64) (by omega))),z0n HX.out HG.out (fun q hq => (HW.out.lt q hq).1),hid ?_⟩
     exact z3x HOL.out HV.out (0 + y) (by rw [z2n (l:=xs) (by omega),z0o HY1.out])
    case measure => simp only [intOf]; omega
   ·clear hx
    by_cases h3:0 < cc
    ·have hkb:k ≤ xs.length ∨ k ≤ ys.length:=by
      rcases Nat.lt_or_ge xs.length k with g1 | g1
      ·rcases Nat.lt_or_ge ys.length k with g2 | g2
       ·have:=HZ.out g1 g2; omega
       ·exact .inr g2
      ·exact .inl g1
     go_wp2_with (at_builtin; refine z0l _ rfl (.tmp 44) (.tmp 47) 100 rfl w.heap.size 3 (.int .i64 0) 1 8 Tryz.underlying100 Tryz.infoInt rfl (by decide) _ o.length (o.map dval) rfl HW.out _ rfl (z41 rfl) rfl hol2 (by decide) HX.out.size ?_; intro v1 w1 hown hg _; have HOW:=hid hown; have HG:=hid hg; clear hown hg)
     go_roundw
     case rel =>
      refine ⟨k + 1,(cc + (0 + 0)) / 10,o ++ [(cc + (0 + 0)) % 10],by omega,by go_num,congrArg (Value.int .i64) (by omega),by omega,hid (by simp [HOL.out]),hid (fun _ _ => by omega),hid (z6w HO.out (Nat.mod_lt _ (by decide))),hid (z40 HOW.out (congrArg (Value.int .i64) (by omega))),z0n HX.out HG.out (fun q hq => (HW.out.lt q hq).1),hid ?_⟩
      exact z3x HOL.out HV.out (0 + 0) (by rw [z2n (l:=xs) (by omega),z2n (l:=ys) (by omega)])
     case measure => simp only [intOf]; omega
    ·obtain rfl:cc = 0:=by omega
     have hd:=ze1 HW.out HO.out
     have HD:=hid hd
     obtain ⟨a1,c1,rfl⟩:=hd.form
     have HE:=hid (zrl HV.out (by omega) (by omega))
     clear hd
     go_wp2_with fail
     refine (zan _ o _ HD.out).mono ?_
     rintro e w' ⟨v',rfl,hu,rfl⟩
     have HU:=hid hu
     clear hu
     go_wp2
     all_goals
      go_ret
      exact ⟨_,rfl,by rw [← HE.out]; exact HU.out,HX.out⟩
theorem zmy {S:Nat → Prop} (va vb:Value) (xs ys:List Nat) (w:World) (ha:Digs S w va xs) (hb:Digs S w vb ys) (hS:∀ k,S k → k < w.heap.size) (hr:xs.length ≤ 10000000) (hle:ys.length ≤ xs.length) (hge:val 10 ys ≤ val 10 xs) :
  Calls Tryz.prog 107 #[va,vb] w fun e w' => ∃ v',e = .returned v' ∧ Digs (New w w') w' v' (rep 10 (val 10 xs - val 10 ys)) ∧ Ext w w':=by
 have HA:=hid ha
 have HB:=hid hb
 have HGE:=hid hge
 obtain ⟨aa,ca,rfl⟩:=ha.form
 obtain ⟨ab,cb,rfl⟩:=hb.form
 clear ha hb hge
 go_enter Tryz.func107,Tryz.ntmps107
 go_wp2
 go_loopw [5,6,7] (fun x c i wr => ∃ (k cc:Nat) (o:List Nat),k ≤ xs.length ∧ i = .int .i64 k ∧ c = .int .i64 cc ∧ cc ≤ 1 ∧ Hid (o.length = k) ∧ Hid (∀ z ∈ o,z < 10) ∧ Hid (wr.ownsRow w.heap.size 3 1 x o.length (o.map dval)) ∧ Ext w wr ∧
  Hid (val 10 o + val 10 (ys.take k) = val 10 (xs.take k) + 10 ^ k * cc)) (fun _ _ i _ => xs.length - (intOf i).toNat)
 case atStart => exact ⟨0,0,[],by omega,rfl,rfl,by omega,hid rfl,hid (by simp),hid (World.ownsRow_nil _ _ _ _),Ext.refl _,hid (by simp [val])⟩
 case round =>
  obtain ⟨k,cc,o,hk,rfl,rfl,hcc,HOL,HO,HW,hx,HV⟩:=hrel
  have hol2:o.length ≤ 1000000000:=by have:=HOL.out; omega
  have HX:=hid hx
  by_cases h1:k < xs.length
  ·obtain ⟨x,hx1⟩:=z01 h1
   obtain ⟨b1,o1,rfl,-,hn1,hm1,-,hxb,hc1⟩:=(HA.out.ext hx hS).cellAt hx1
   have HX1:=hid hx1
   clear hx1
   by_cases h2:k < ys.length
   ·obtain ⟨y,hy1⟩:=z01 h2
    obtain ⟨b2,o2,rfl,-,hn2,hm2,-,hyb,hc2⟩:=(HB.out.ext hx hS).cellAt hy1
    have HY1:=hid hy1
    clear hy1 hx
    by_cases hs:y + cc ≤ x
    ·go_wp2_with (at_builtin; refine z0l _ rfl (.tmp 35) (.tmp 37) 100 rfl w.heap.size 3 (.int .i64 0) 1 8 Tryz.underlying100 Tryz.infoInt rfl (by decide) _ o.length (o.map dval) rfl HW.out _ rfl (z41 rfl) rfl hol2 (by decide) HX.out.size ?_; intro v1 w1 hown hg _; have HOW:=hid hown; have HG:=hid hg; clear hown hg)
     go_roundw
     case rel =>
      refine ⟨k + 1,0,o ++ [x - y - cc],by omega,by go_num,rfl,by omega,hid (by simp [HOL.out]),hid (z6w HO.out (by omega)),hid (z40 HOW.out (congrArg (Value.int .i64) (by omega))),z0n HX.out HG.out (fun q hq => (HW.out.lt q hq).1),hid ?_⟩
      exact z58 HOL.out HV.out _ _ (by rw [z0o HX1.out,z0o HY1.out]; omega)
     case measure => simp only [intOf]; omega
    ·go_wp2_with (at_builtin; refine z0l _ rfl (.tmp 35) (.tmp 37) 100 rfl w.heap.size 3 (.int .i64 0) 1 8 Tryz.underlying100 Tryz.infoInt rfl (by decide) _ o.length (o.map dval) rfl HW.out _ rfl (z41 rfl) rfl hol2 (by decide) HX.out.size ?_; intro v1 w1 hown hg _; have HOW:=hid hown; have HG:=hid hg; clear hown hg)
     go_roundw
     case rel =>
      refine ⟨k + 1,1,o ++ [x + 10 - y - cc],by omega,by go_num,rfl,by omega,hid (by simp [HOL.out]),hid (z6w HO.out (by omega)),hid (z40 HOW.out (congrArg (Value.int .i64) (by omega))),z0n HX.out HG.out (fun q hq => (HW.out.lt q hq).1),hid ?_⟩
      exact z58 HOL.out HV.out _ _ (by rw [z0o HX1.out,z0o HY1.out]; omega)
     case measure => simp only [intOf]; omega
   ·clear hx
    by_cases hs:cc ≤ x
    ·go_wp2_with (at_builtin; refine z0l _ rfl (.tmp 35) (.tmp 37) 100 rfl w.heap.size 3 (.int .i64 0) 1 8 Tryz.underlying100 Tryz.infoInt rfl (by decide) _ o.length (o.map dval) rfl HW.out _ rfl (z41 rfl) rfl hol2 (by decide) HX.out.size ?_; intro v1 w1 hown hg _; have HOW:=hid hown; have HG:=hid hg; clear hown hg)
     go_roundw
     case rel =>
      refine ⟨k + 1,0,o ++ [x - 0 - cc],by omega,by go_num,rfl,by omega,hid (by simp [HOL.out]),hid (z6w HO.out (by omega)),hid (z40 HOW.out (congrArg (Value.int .i64) (by omega))),z0n HX.out HG.out (fun q hq => (HW.out.lt q hq).1),hid ?_⟩
      exact z58 HOL.out HV.out _ _ (by rw [z0o HX1.out,z2n (l:=ys) (by omega)]; omega)
     case measure => simp only [intOf]; omega
    ·go_wp2_with (at_builtin; refine z0l _ rfl (.tmp 35) (.tmp 37) 100 rfl w.heap.size 3 (.int .i64 0) 1 8 Tryz.underlying100 Tryz.infoInt rfl (by decide) _ o.length (o.map dval) rfl HW.out _ rfl (z41 rfl) rfl hol2 (by decide) HX.out.size ?_; intro v1 w1 hown hg _; have HOW:=hid hown; have HG:=hid hg; clear hown hg)
     go_roundw
     case rel =>
      refine ⟨k + 1,1,o ++ [x + 10 - 0 - cc],by omega,by go_num,rfl,by omega,hid (by simp [HOL.out]),hid (z6w HO.out (by omega)),hid (z40 HOW.out (congrArg (Value.int .i64) (by omega))),z0n HX.out HG.out (fun q hq => (HW.out.lt q hq).1),hid ?_⟩
      exact z58 HOL.out HV.out _ _ (by rw [z0o HX1.out,z2n (l:=ys) (by omega)]; omega)
     case measure => simp only [intOf]; omega
  ·obtain rfl:k = xs.length:=by omega
   have hd:=ze1 HW.out HO.out
   have HD:=hid hd
   obtain ⟨a1,c1,rfl⟩:=hd.form
   have HE:Hid (val 10 o = val 10 xs - val 10 ys):=by
    have h1:=HV.out
    rw [List.take_of_length_le hle,List.take_length] at h1
    exact hid (zmf HO.out HOL.out HGE.out h1)
   clear hd hx
   go_wp2_with fail
   refine (zan _ o _ HD.out).mono ?_
   rintro e w' ⟨v',rfl,hu,rfl⟩
   have HU:=hid hu
   clear hu
   go_wp2
   all_goals
    go_ret
    exact ⟨_,rfl,by rw [← HE.out]; exact HU.out,HX.out⟩
end
section
open Go.RowKit
theorem World.rowIs.drewN {w:World} {g n:Nat} {T:TypeId} {f:Nat → Value} (h:w.rowIs g T n f) (q:Nat):(w.drewN q).rowIs g T n f:=h
theorem zit {o:List Nat} {p cc u X:Nat} (hp:p < o.length) (h:val 10 o + 10 ^ p * cc = X):val 10 (o.set p ((cc + dg o p + u) % 10)) + 10 ^ (p + 1) * ((cc + dg o p + u) / 10) = X + 10 ^ p * u:=by
 have h1:=zhj (B:=10) o p ((cc + dg o p + u) % 10) hp
 have h2:=congrArg (10 ^ p * ·) (Nat.mod_add_div (cc + dg o p + u) 10)
 simp only [Nat.mul_add] at h2
 rw [Nat.pow_succ,Nat.mul_assoc]
 omega
theorem zuu {B:Nat} {o:List Nat} {p z:Nat} (h:∀ x ∈ o,x < B) (hz:z < B):∀ x ∈ o.set p z,x < B:=by
 intro x hx
 rcases List.mem_or_eq_of_mem_set hx with h1 | h1
 ·exact h x h1
 ·rw [h1]; exact hz
theorem zfl {o:List Nat} {p j z:Nat} (h:j ≠ p):dg (o.set p z) j = dg o j:=by
 unfold dg
 rw [List.getElem?_set_ne (fun e => h e.symm)]
def zhp (V d Y i:Nat):Nat:=V + 10 ^ i * (d * Y)
theorem zd5 {V d i k:Nat} {ys:List Nat}:zhp V d (val 10 (ys.take k)) i + 10 ^ (i + k) * (d * dg ys k) = zhp V d (val 10 (ys.take (k + 1))) i:=by
 unfold zhp
 rw [z1s,Nat.pow_add,Nat.mul_add,Nat.mul_add,Nat.mul_assoc,← Nat.mul_assoc d,Nat.mul_comm d (10 ^ k),Nat.mul_assoc]
 omega
theorem zmz {xs:List Nat} {i x Y:Nat} (hx:xs[i]? = some x):zhp (val 10 (xs.take i) * Y) x Y i = val 10 (xs.take (i + 1)) * Y:=by
 unfold zhp
 rw [z3k hx,Nat.add_mul,Nat.mul_assoc]
theorem zn0 {xs ys o:List Nat} {i:Nat} (hx:∀ z ∈ xs,z < 10) (hy:∀ z ∈ ys,z < 10) (hi:i ≤ xs.length) (h:val 10 o = val 10 (xs.take i) * val 10 ys):∀ j,i + ys.length ≤ j → dg o j = 0:=by
 intro j hj
 by_cases hjl:j < o.length
 ·refine z83 (B:=10) (k:=i + ys.length) (by decide) ?_ j hj hjl
  rw [h,Nat.pow_add]
  have h1:=z1k (xs.take i) (fun z hz => hx z (List.mem_of_mem_take hz))
  rw [List.length_take,Nat.min_eq_left hi] at h1
  have h2:=z1k ys hy
  exact Nat.mul_lt_mul'' h1 h2
 ·exact z2n (by omega)
theorem zvv {S:Nat → Prop} (va vb:Value) (xs ys:List Nat) (w:World) (ha:Digs S w va xs) (hb:Digs S w vb ys) (hS:∀ k,S k → k < w.heap.size) (hr:xs.length ≤ 10000000) (hr2:ys.length ≤ 10000000) :
  Calls Tryz.prog 105 #[va,vb] w fun e w' => ∃ v',e = .returned v' ∧ Digs (New w w') w' v' (rep 10 (val 10 xs * val 10 ys)) ∧ Ext w w':=by
 have HA:=hid ha
 have HB:=hid hb
 have HLA:=hid ha.lt
 have HLB:=hid hb.lt
 obtain ⟨aa,ca,rfl⟩:=ha.form
 obtain ⟨ab,cb,rfl⟩:=hb.form
 clear ha hb
 have hmk:=run_make_row' (P:=Tryz.prog) 100 3 (.int .i64 0) 8 Tryz.underlying100 Tryz.infoInt rfl .i64 .i64 (xs.length + ys.length + 1) (by omega) (by omega) w
 rw [show ((xs.length + ys.length + 1:Nat):Int) = (xs.length:Int) + (ys.length:Int) + 1 by omega] at hmk
 obtain ⟨L,hL⟩:∃ L,L = xs.length + ys.length + 1:=⟨_,rfl⟩
 have hLI:(xs.length:Int) + (ys.length:Int) + 1 = (L:Int):=by omega
 rw [← hL,hLI] at hmk
 have HR:=hid (zd4 w L 3)
 have HE:=hid (Ext.alloc (Ext.refl w) (.cells (madeCells #[.int .i64 0] L) 3))
 have HL:=hid hL
 have hLb:L ≤ 20000001:=by omega
 have hLa:xs.length < L:=by omega
 clear hL
 go_enter Tryz.func105,Tryz.ntmps105
 go_wp2
 go_loopw [6] (fun i wr => ∃ (n:Nat) (o:List Nat),n ≤ xs.length ∧ i = .int .i64 n ∧ Hid (o.length = L) ∧ Hid (∀ z ∈ o,z < 10) ∧ Hid (wr.rowIs w.heap.size 3 L (rowD o)) ∧ Ext w wr ∧ Hid (val 10 o = val 10 (xs.take n) * val 10 ys)) (fun i _ => xs.length - (intOf i).toNat)
 case atStart => exact ⟨0,List.replicate L 0,Nat.zero_le _,rfl,hid (by simp),hid (by simp),HR,HE.out,hid (by simp [z5s,val])⟩
 case round =>
  obtain ⟨n,o,hn,rfl,HOL,HO,HROW,hx,HV⟩:=hrel
  by_cases hlt:n < xs.length
  ·obtain ⟨x,hx1⟩:=z01 hlt
   obtain ⟨b1,o1,rfl,-,hn1,hm1,hS1,hxb,hc1⟩:=HA.out.cellAt hx1
   have HX1:=hid hx1
   have HC1:=hid hc1
   have HX:=hid hx
   have HAB:=hid (zn0 HLA.out HLB.out hn HV.out)
   have hLn:n + ys.length + 1 ≤ L:=by have:=HL.out; omega
   obtain ⟨wo,rfl⟩:∃ wo:World,wo = wr:=⟨_,rfl⟩
   clear hx1 hc1 hx
   go_wp2
   go_loopw [7,8] (fun c kk wr => ∃ (k cc:Nat) (o:List Nat),k ≤ ys.length + 1 ∧ kk = .int .i64 k ∧ c = .int .i64 cc ∧ cc ≤ 9 ∧ Hid (ys.length < k → cc = 0) ∧ Hid (o.length = L) ∧ Hid (∀ z ∈ o,z < 10) ∧ Hid (wr.rowIs w.heap.size 3 L (rowD o)) ∧ Ext w wr ∧
    Hid (k ≤ ys.length → ∀ j,n + ys.length ≤ j → dg o j = 0) ∧ Hid (val 10 o + 10 ^ (n + k) * cc = zhp (val 10 (xs.take n) * val 10 ys) x (val 10 (ys.take k)) n)) (fun _ kk _ => ys.length + 1 - (intOf kk).toNat)
   case atStart => exact ⟨0,0,o,Nat.zero_le _,rfl,rfl,by omega,hid (fun h => absurd h (by omega)),HOL,HO,HROW,HX.out,hid (fun _ => HAB.out),hid (by rw [HV.out]; simp [zhp,val])⟩
   case round =>
    obtain ⟨k,cc,o,hk,rfl,rfl,hcc,HZ,HOL,HO,HROW,hx,HAB,HV⟩:=hrel
    have HX:=hid hx
    have hc1:=hx.cell HC1.out
    by_cases h2:k < ys.length
    ·obtain ⟨y,hy1⟩:=z01 h2
     obtain ⟨b2,o2,rfl,-,hn2,hm2,-,hyb,hc2⟩:=(HB.out.ext hx hS).cellAt hy1
     have HY1:=hid hy1
     have hpl:n + k < L:=by omega
     have hcs:=HROW.out.cell (i:=n + k) hpl
     have hfs:=HROW.out.frozen (n + k)
     have hdg:=zk6 (B:=10) (by decide) HO.out (n + k)
     obtain ⟨s,hs⟩:∃ s,s = dg o (n + k):=⟨_,rfl⟩
     obtain ⟨p,hp⟩:∃ p:Nat,p = x * y:=⟨_,rfl⟩
     have hpb:p ≤ 9 * 9:=by rw [hp]; exact Nat.mul_le_mul (by omega) (by omega)
     have hmul:(x:Int) * (y:Int) = (p:Int):=by rw [hp]; simp
     unfold rowD dval at hcs
     rw [← hs] at hcs hdg
     have HS:=hid hs
     have HP:=hid hp
     clear hy1 hs hp hx
     go_wp2
     go_quiet (fail)
     go_wp2
     go_roundw
     case rel =>
      have hpl2:n + k < o.length:=by rw [HOL.out]; exact hpl
      have hst:=ze2 (World.rowIs.drewN HROW.out nq) (n + k) ((cc + s + p) % 10) hpl2
      refine ⟨k + 1,(cc + s + p) / 10,o.set (n + k) ((cc + s + p) % 10),by omega,by go_num,congrArg (Value.int .i64) (by omega),by omega,hid (fun h => absurd h (by omega)),hid (by simpa using HOL.out),hid (zuu HO.out (Nat.mod_lt _ (by decide))),hid ?_,(HX.out.drewN nq).setCell (p:=⟨w.heap.size,n + k,none⟩) (Nat.le_refl _) _,hid (fun _ j hj => ?_),hid ?_⟩
      ·refine cast (congrArg (fun e => World.rowIs (World.setCell (wr.drewN nq) ⟨w.heap.size,n + k,none⟩ (Value.int .i64 e)) _ _ _ _) ?_) hst
       omega
      ·rw [zfl (by omega)]
       exact HAB.out (by omega) j hj
      ·have h1:=zit (u:=p) hpl2 HV.out
       rw [← HS.out] at h1
       rw [show n + (k + 1) = n + k + 1 by omega,h1,HP.out,← z0o HY1.out]
       exact zd5
     case measure => simp only [intOf]; omega
    ·have hk0:ys.length ≤ k:=by omega
     clear hx
     by_cases h3:0 < cc
     ·have hke:k = ys.length:=by
       rcases Nat.lt_or_ge ys.length k with g1 | g1
       ·have:=HZ.out g1; omega
       ·omega
      have hpl:n + k < L:=by omega
      have hcs:=HROW.out.cell (i:=n + k) hpl
      have hfs:=HROW.out.frozen (n + k)
      have hs0:dg o (n + k) = 0:=HAB.out (by omega) _ (by omega)
      unfold rowD dval at hcs
      rw [hs0] at hcs
      have HS:=hid hs0
      have HKE:=hid hke
      clear hs0 hke
      go_wp2
      go_roundw
      case rel =>
       have hpl2:n + k < o.length:=by rw [HOL.out]; exact hpl
       have hst:=ze2 HROW.out (n + k) ((cc + 0 + 0) % 10) hpl2
       refine ⟨k + 1,(cc + 0 + 0) / 10,o.set (n + k) ((cc + 0 + 0) % 10),by have:=HKE.out; omega,by go_num,congrArg (Value.int .i64) (by omega),by omega,hid (fun _ => by omega),hid (by simpa using HOL.out),hid (zuu HO.out (Nat.mod_lt _ (by decide))),hid ?_,HX.out.setCell (p:=⟨w.heap.size,n + k,none⟩) (Nat.le_refl _) _,hid (fun h => absurd h (by have:=HKE.out; omega)),hid ?_⟩
       ·refine cast (congrArg (fun e => World.rowIs (World.setCell wr ⟨w.heap.size,n + k,none⟩ (Value.int .i64 e)) _ _ _ _) ?_) hst
        omega
       ·have h1:=zit (u:=0) hpl2 HV.out
        rw [HS.out] at h1
        rw [show n + (k + 1) = n + k + 1 by omega,h1,← zd5,(z2n hk0:dg ys k = 0)]
        simp
      case measure => have:=HKE.out; simp only [intOf]; omega
     ·obtain rfl:cc = 0:=by omega
      go_wp2
      go_roundw
      case rel =>
       refine ⟨n + 1,o,by omega,by go_num,HOL,HO,HROW,HX.out,hid ?_⟩
       have h1:=HV.out
       rw [List.take_of_length_le hk0,zmz HX1.out] at h1
       simpa using h1
      case measure => simp only [intOf]; omega
  ·obtain rfl:n = xs.length:=by omega
   have HX:=hid hx
   have hd:=Digs.of_row HROW.out HOL.out HO.out (by omega)
   have HD:=hid hd
   have HV0:Hid (val 10 o = val 10 xs * val 10 ys):=hid (by simpa using HV.out)
   clear hx hd
   go_wp2_with fail
   refine (zan _ o _ HD.out).mono ?_
   rintro e w' ⟨v',rfl,hu,rfl⟩
   have HU:=hid hu
   clear hu
   go_wp2
   all_goals
    go_ret
    refine ⟨_,rfl,?_,HX.out⟩
    rw [← HV0.out]
    refine HU.out.to (Kept.refl _ _) (fun k hk => ?_)
    subst hk
    exact ⟨Nat.le_refl _,HROW.out.lt⟩
end
section
open Go.RowKit
def z6x (S:Nat → Prop) (w:World) (v:Value) (t:RTerm):Prop:=∃ vm vo,v = .agg #[.bool t.c.neg,vm,vo] ∧ U32s S w vm t.c.mag ∧ Pows S w vo t.m
theorem z6x.to {S S':Nat → Prop} {w w':World} {v:Value} {r:RTerm} (h:z6x S w v r) (hk:Kept S w w') (hS:∀ k,S k → S' k):z6x S' w' v r:=by
 obtain ⟨vm,vo,h1,h2,h3⟩:=h
 exact ⟨vm,vo,h1,h2.to hk hS,h3.to hk hS⟩
theorem New.kept {a w W:World} (hx:Ext w W):Kept (New a w) w W:=Kept.ext hx (fun _ h => h.2)
theorem New.grow {a w W:World} (hx:Ext w W):∀ k,New a w k → New a W k:=fun _ h => ⟨h.1,Nat.lt_of_lt_of_le h.2 hx.size⟩
theorem zb9 {w:World} {b:Nat} {u0 u1 u2:Value} (x y z:Value) (c0:w.cell? ⟨b,0,none⟩ = some u0) (c1:w.cell? ⟨b,1,none⟩ = some u1) (c2:w.cell? ⟨b,2,none⟩ = some u2) :
  (((w.setCell ⟨b,0,none⟩ x).setCell ⟨b,1,none⟩ y).setCell ⟨b,2,none⟩ z).cell? ⟨b,0,none⟩ = some x ∧ (((w.setCell ⟨b,0,none⟩ x).setCell ⟨b,1,none⟩ y).setCell ⟨b,2,none⟩ z).cell? ⟨b,1,none⟩ = some y ∧
  (((w.setCell ⟨b,0,none⟩ x).setCell ⟨b,1,none⟩ y).setCell ⟨b,2,none⟩ z).cell? ⟨b,2,none⟩ = some z :=
 ⟨z09 (z09 (z1h c0) (ao (by decide))) (ao (by decide)),z09 (z1h (z09 c1 (ao (by decide)))) (ao (by decide)),z1h (z09 (z09 c2 (ao (by decide))) (ao (by decide)))⟩
theorem Ext.set3 {a w:World} (h:Ext a w) {b:Nat} (hb:a.heap.size ≤ b) (x y z:Value):Ext a (((w.setCell ⟨b,0,none⟩ x).setCell ⟨b,1,none⟩ y).setCell ⟨b,2,none⟩ z) :=
 (h.set2 hb x y).setCell (p:=⟨b,2,none⟩) hb z
theorem Kept.set3 {S:Nat → Prop} {w:World} {b:Nat} (h:¬ S b) (x y z:Value):Kept S w (((w.setCell ⟨b,0,none⟩ x).setCell ⟨b,1,none⟩ y).setCell ⟨b,2,none⟩ z) :=
 (Kept.set2 h x y).trans (Kept.setCell (a:=⟨b,2,none⟩) h z)
theorem zn1 {w:World} {b:Nat} (x y z:Value):(((w.setCell ⟨b,0,none⟩ x).setCell ⟨b,1,none⟩ y).setCell ⟨b,2,none⟩ z).heap.size = w.heap.size:=by rw [z07,z2p]
theorem zn2 {w:World} {b c i j k:Nat} {u0 u1 u2:Value} (h:w.cell? ⟨c,i,none⟩ = some u0 ∧ w.cell? ⟨c,j,none⟩ = some u1 ∧ w.cell? ⟨c,k,none⟩ = some u2) (hne:b ≠ c) (x y z:Value) :
  (((w.setCell ⟨b,0,none⟩ x).setCell ⟨b,1,none⟩ y).setCell ⟨b,2,none⟩ z).cell? ⟨c,i,none⟩ = some u0 ∧ (((w.setCell ⟨b,0,none⟩ x).setCell ⟨b,1,none⟩ y).setCell ⟨b,2,none⟩ z).cell? ⟨c,j,none⟩ = some u1 ∧
  (((w.setCell ⟨b,0,none⟩ x).setCell ⟨b,1,none⟩ y).setCell ⟨b,2,none⟩ z).cell? ⟨c,k,none⟩ = some u2 :=
 ⟨z09 (z09 (z09 h.1 (ab hne)) (ab hne)) (ab hne),z09 (z09 (z09 h.2.1 (ab hne)) (ab hne)) (ab hne),z09 (z09 (z09 h.2.2 (ab hne)) (ab hne)) (ab hne)⟩
def canT (t:RTerm):RTerm:=⟨ofI (valI t.c),t.m⟩
theorem ze3 (S:Nat → Prop) (w:World):IntV S w (.agg #[.bool false,.slice none 0 0]) ⟨false,[]⟩:=⟨_,rfl,U32s.nilv _ _ _ _ (by omega)⟩
theorem z9h:valI ⟨false,[]⟩ = 0:=rfl
theorem ziu {w0 w1 w2:World} {b:Nat} {v:Value} {t:RTerm} (hv:z6x (New w1 w2) w2 v t) (h01:Ext w0 w1) (h12:Ext w1 w2) (hb0:w0.heap.size ≤ b) (hb1:b < w1.heap.size) (x y z:Value) :
  z6x (New w0 (((w2.setCell ⟨b,0,none⟩ x).setCell ⟨b,1,none⟩ y).setCell ⟨b,2,none⟩ z)) (((w2.setCell ⟨b,0,none⟩ x).setCell ⟨b,1,none⟩ y).setCell ⟨b,2,none⟩ z) v t ∧ Ext w0 (((w2.setCell ⟨b,0,none⟩ x).setCell ⟨b,1,none⟩ y).setCell ⟨b,2,none⟩ z):=by
 refine ⟨hv.to (Kept.set3 (fun h => ?_) _ _ _) (fun k hk => ⟨Nat.le_trans h01.size hk.1,?_⟩),(h01.trans h12).set3 hb0 _ _ _⟩
 ·have:=h.1
  omega
 ·rw [zn1]
  exact hk.2
theorem zvw {w0 w1 w2:World} {vm vo:Value} {ng:Bool} {zs:List Nat} {m:Mono} (h1:U32s (New w0 w1) w1 vm zs) (x2:Ext w1 w2) (h2:Pows (New w1 w2) w2 vo m) (x1:Ext w0 w1):z6x (New w0 w2) w2 (.agg #[.bool ng,vm,vo]) ⟨⟨ng,zs⟩,m⟩ :=
 ⟨_,_,rfl,h1.to (New.kept x2) (New.grow x2),h2.to (Kept.refl _ _) (New.mono x1)⟩
theorem zhq {S:Nat → Prop} (v:Value) (t:RTerm) (w:World) (h:z6x S w v t) (hS:∀ k,S k → k < w.heap.size) (hr:t.c.mag.length ≤ 40000000000000) (hm:t.m.length ≤ 1000000) :
  Calls Tryz.prog 92 #[v] w fun e w' => ∃ v',e = .returned v' ∧ z6x (New w w') w' v' (canT t) ∧ Ext w w':=by
 obtain ⟨⟨ng,zs⟩,m⟩:=t
 obtain ⟨vm,vo,rfl,hu,hp⟩:=h
 simp only at hu hp hr hm ⊢
 have HU:=hid hu
 have HP:=hid hp
 obtain ⟨am,cm,rfl⟩:=hu.form
 obtain ⟨ao,co,rfl⟩:=hp.form
 clear hu hp
 have HK:=hid (Ext.alloc (Ext.alloc (Ext.refl w) (.cells #[.bool ng,.slice am zs.length cm,.slice ao m.length co] 50)) (.cells #[.bool false,.slice none 0 0,.slice none 0 0] 50))
 have HSZ:Hid (w.heap.size + 1 < ((w.alloc (.cells #[.bool ng,.slice am zs.length cm,.slice ao m.length co] 50)).alloc (.cells #[.bool false,.slice none 0 0,.slice none 0 0] 50)).heap.size):=hid (by simp)
 have HL:Hid (∀ W,Ext ((w.alloc (.cells #[.bool ng,.slice am zs.length cm,.slice ao m.length co] 50)).alloc (.cells #[.bool false,.slice none 0 0,.slice none 0 0] 50)) W →
   W.cell? ⟨w.heap.size,0,none⟩ = some (.bool ng) ∧ W.cell? ⟨w.heap.size,1,none⟩ = some (.slice am zs.length cm) ∧ W.cell? ⟨w.heap.size,2,none⟩ = some (.slice ao m.length co)):=hid (fun W hW => by
  have e1:Ext (w.alloc (.cells #[.bool ng,.slice am zs.length cm,.slice ao m.length co] 50)) W:=(Ext.alloc (Ext.refl _) _).trans hW
  exact ⟨e1.new_cell rfl,e1.new_cell rfl,e1.new_cell rfl⟩)
 have HN:Hid (∀ W,Ext ((w.alloc (.cells #[.bool ng,.slice am zs.length cm,.slice ao m.length co] 50)).alloc (.cells #[.bool false,.slice none 0 0,.slice none 0 0] 50)) W →
   W.cell? ⟨w.heap.size + 1,0,none⟩ = some (.bool false) ∧ W.cell? ⟨w.heap.size + 1,1,none⟩ = some (.slice none 0 0) ∧ W.cell? ⟨w.heap.size + 1,2,none⟩ = some (.slice none 0 0) ∧ ∀ i,W.frozen? ⟨w.heap.size + 1,i,none⟩ = false):=hid (fun W hW => by
  have k:=fun i v hv => hW.new_cell (i:=i) (v:=v) hv
  have f:=fun i => hW.new_free i
  rw [z02] at k f
  exact ⟨k 0 _ rfl,k 1 _ rfl,k 2 _ rfl,f⟩)
 go_enter Tryz.func92,Tryz.ntmps92
 go_wp2
 go_outline
 have x0:=Ext.drew (Ext.refl ((w.alloc (.cells #[.bool ng,.slice am zs.length cm,.slice ao m.length co] 50)).alloc (.cells #[.bool false,.slice none 0 0,.slice none 0 0] 50)))
 have S0:=HL.out _ x0
 have HX0:=hid x0
 clear x0
 go_region_held3 (fun W => W.cell? ⟨w.heap.size,0,none⟩ = some (.bool ng) ∧ W.cell? ⟨w.heap.size,1,none⟩ = some (.slice am zs.length cm) ∧ W.cell? ⟨w.heap.size,2,none⟩ = some (.slice ao m.length co)) (first | exact S0 | exact S1 | exact S2 | exact zn2 S2 (by omega) _ _ _)
  (first
   | (go_at_call 60; (with_reducible refine (z6u _ _ ⟨ng,zs⟩ ⟨false,[]⟩ _ (z2x (HU.out.ext (HK.out.trans HX0.out) hS)) (ze3 _ _) (z08 hS (HK.out.trans HX0.out)) hr (by decide)).mono ?_); rintro e w1 ⟨v1,rfl,⟨vm1,rfl,hv1⟩,hx1⟩; have HX1:=hid hx1; have S1:=HL.out _ (HX0.out.trans hx1); have HV1:=hid hv1; obtain ⟨a1,n1,rfl⟩:=hv1.form; clear hx1 hv1)
   | (go_at_call 61; (with_reducible refine (z7g _ m _ (HP.out.ext (HK.out.trans (HX0.out.trans HX1.out)) hS) (z08 hS (HK.out.trans (HX0.out.trans HX1.out))) hm).mono ?_); rintro e w2 ⟨v2,rfl,hv2,hx2⟩; have HX2:=hid hx2; have S2:=HL.out _ (HX0.out.trans (HX1.out.trans hx2)); obtain ⟨c0,c1,c2,cf⟩:=HN.out _ (HX0.out.trans (HX1.out.trans hx2)); have f0:=cf 0; have f1:=cf 1; have f2:=cf 2; have HE:=hid (And.intro c0 (And.intro c1 c2)); clear cf; have HV2:=hid hv2; obtain ⟨a2,n2,rfl⟩:=hv2.form; clear hx2 hv2))
 go_wp2
 have hd:=fun x y z => zb9 x y z HE.out.1 HE.out.2.1 HE.out.2.2
 refine bodyPost_ret (by simp [results,Tryz.results92,go_sem,(hd _ _ _).1,(hd _ _ _).2.1,(hd _ _ _).2.2]; rfl) rfl ?_
 have e0:canT ⟨⟨ng,zs⟩,m⟩ = ⟨ofI (valI ⟨ng,zs⟩ + valI ⟨false,[]⟩),m⟩:=by rw [z9h,Int.add_zero]; rfl
 have hv:=zvw (ng:=(ofI (valI ⟨ng,zs⟩ + valI ⟨false,[]⟩)).neg) HV1.out HX2.out HV2.out HX1.out
 have hg:=ziu (w0:=w) (b:=w.heap.size + 1) hv (HK.out.trans HX0.out) (HX1.out.trans HX2.out) (by omega) (Nat.lt_of_lt_of_le HSZ.out HX0.out.size) (.bool (ofI (valI ⟨ng,zs⟩ + valI ⟨false,[]⟩)).neg) (.slice a1 (ofI (valI ⟨ng,zs⟩ + valI ⟨false,[]⟩)).mag.length n1) (.slice a2 m.length n2)
 rw [e0]
 exact ⟨_,rfl,hg.1,hg.2⟩
def zcu (ts:List RTerm):RTerm:=match z2v ts with
 | [] => ⟨⟨false,[]⟩,[]⟩
 | t :: _ => canT t
def zrm (w:World) (ts:List RTerm):Ending → World → Prop:=fun e w' => ∃ v',e = .returned (.tuple #[v',.bool (decide (0 < (z2v ts).length))]) ∧ z6x (New w w') w' v' (zcu ts) ∧ Ext w w'
theorem zfm (S:Nat → Prop) (w:World):z6x S w (.agg #[.bool false,.slice none 0 0,.slice none 0 0]) ⟨⟨false,[]⟩,[]⟩:=⟨_,_,rfl,U32s.nilv _ _ _ _ (by omega),Pows.empty _ _ _⟩
theorem zku {ts:List RTerm} (h:mayT ts = true):∀ t ∈ ts,t.m.length ≤ 200:=by
 intro t ht
 have:=(z5c h).1 t ht
 simp only [z2e,Bool.and_eq_true] at this
 exact z4g this.2
theorem zn3 {S:Nat → Prop} (v:Value) (ts:List RTerm) (w:World) (h:z06 S w v ts) (hS:∀ k,S k → k < w.heap.size) (hr:z3r ts) :
  Calls Tryz.prog 52 #[v] w (zrm w ts):=by
 have hnot:∀ (x:Bool) (w:World),(Op.unary .not (.bool x)).run Tryz.prog w = .ok (.bool (!x)) w:=fun _ _ => rfl
 have H:=hid h
 have HR:=hid hr
 obtain ⟨a,cap,rfl⟩:=h.form
 have hl:=h.len_le
 clear h hr
 have HK:=hid (Ext.alloc (Ext.refl w) (.cells #[.bool false,.slice none 0 0,.slice none 0 0] 50))
 have HN:Hid (∀ W,Ext (w.alloc (.cells #[.bool false,.slice none 0 0,.slice none 0 0] 50)) W →
   W.cell? ⟨w.heap.size,0,none⟩ = some (.bool false) ∧ W.cell? ⟨w.heap.size,1,none⟩ = some (.slice none 0 0) ∧ W.cell? ⟨w.heap.size,2,none⟩ = some (.slice none 0 0) ∧ ∀ i,W.frozen? ⟨w.heap.size,i,none⟩ = false):=hid (fun W hW => ⟨hW.new_cell rfl,hW.new_cell rfl,hW.new_cell rfl,fun i => hW.new_free i⟩)
 have HSZ:Hid (w.heap.size < (w.alloc (.cells #[.bool false,.slice none 0 0,.slice none 0 0] 50)).heap.size):=hid (by simp)
 by_cases h0:ts.length = 0
 ·obtain rfl:ts = []:=List.length_eq_zero_iff.1 h0
  clear h0
  obtain ⟨c0,c1,c2,cf⟩:=HN.out _ (Ext.refl _)
  have f0:=cf 0
  have f1:=cf 1
  have f2:=cf 2
  have HE:=hid (And.intro c0 (And.intro c1 c2))
  clear cf
  go_enter Tryz.func52,Tryz.ntmps52
  go_wp2
  refine bodyPost_ret (by simp [results,Tryz.results52,go_sem]; rfl) rfl ?_
  exact ⟨_,rfl,zfm _ _,HK.out⟩
 ·have hb:((ts.length:Int) == 0) = false:=by rw [beq_eq_false_iff_ne]; omega
  have hlt:0 < ts.length:=by omega
  have hM:=fun W (hW:Ext (w.alloc (.cells #[.bool false,.slice none 0 0,.slice none 0 0] 50)) W) => z4i (S:=S) _ ts W (H.out.ext (HK.out.trans hW) hS) (z08 hS (HK.out.trans hW)) HR.out
  cases hm:mayT ts with
  | false =>
   simp only [hm] at hM
   have HM:=hid hM
   have e1:z2v ts = []:=by simp [z2v,hm]
   have E:=hid e1
   clear hM hm h0 e1
   go_enter Tryz.func52,Tryz.ntmps52
   go_wp2_with fail
   refine (HM.out _ (Ext.refl _)).mono ?_
   rintro e w1 ⟨rfl,hx1⟩
   obtain ⟨c0,c1,c2,cf⟩:=HN.out _ hx1
   have f0:=cf 0
   have f1:=cf 1
   have f2:=cf 2
   have HE:=hid (And.intro c0 (And.intro c1 c2))
   have HX1:=hid hx1
   clear cf hx1
   go_wp2
   have hd:=fun x y z => zb9 x y z HE.out.1 HE.out.2.1 HE.out.2.2
   refine bodyPost_ret (by simp [results,Tryz.results52,go_sem,(hd _ _ _).1,(hd _ _ _).2.1,(hd _ _ _).2.2]; rfl) rfl ?_
   refine ⟨_,by rw [E.out]; rfl,?_,(HK.out.trans HX1.out).set3 (Nat.le_refl _) _ _ _⟩
   unfold zcu
   rw [E.out]
   exact zfm _ _
  | true =>
   simp only [hm] at hM
   have HM:=hid hM
   have e1:z2v ts = ts:=by simp [z2v,hm]
   have E:=hid e1
   obtain ⟨t,ht⟩:=z01 hlt
   have htl:=zku hm t (List.mem_of_getElem? ht)
   have htr:=HR.out t (List.mem_of_getElem? ht)
   obtain ⟨b,off,vm,vo,rfl,-,hn1,hm1,hSb,h1,h2,h3,h4,h5⟩:=H.out.cellAt ht
   have HT:=hid ht
   simp only [Nat.zero_mul,Nat.add_zero] at h1 h2 h3
   have HC:=hid (And.intro h1 (And.intro h2 h3))
   obtain ⟨⟨ng,zs⟩,m⟩:=t
   simp only at h1 h2 h3 h4 h5 HC htl htr
   have H4:=hid h4
   have H5:=hid h5
   obtain ⟨am,cm,rfl⟩:=h4.form
   obtain ⟨ao,co,rfl⟩:=h5.form
   have HTL:=hid (And.intro htl htr)
   clear hM hm h0 e1 ht h4 h5 h1 h2 h3 htl htr
   go_enter Tryz.func52,Tryz.ntmps52
   go_wp2_with fail
   refine (HM.out _ (Ext.refl _)).mono ?_
   rintro e w1 ⟨rfl,hx1⟩
   have HX1:=hid hx1
   have g1:=(HK.out.trans hx1).cell HC.out.1
   have g2:=(HK.out.trans hx1).cell HC.out.2.1
   have g3:=(HK.out.trans hx1).cell HC.out.2.2
   clear hx1
   go_wp2_with fail
   refine (zhq _ ⟨⟨ng,zs⟩,m⟩ _ ⟨_,_,rfl,H4.out.ext (HK.out.trans HX1.out) hS,H5.out.ext (HK.out.trans HX1.out) hS⟩ (z08 hS (HK.out.trans HX1.out)) HTL.out.2 (Nat.le_trans HTL.out.1 (by decide))).mono ?_
   rintro e w2 ⟨v2,rfl,hv2,hx2⟩
   obtain ⟨c0,c1,c2,cf⟩:=HN.out _ (HX1.out.trans hx2)
   have f0:=cf 0
   have f1:=cf 1
   have f2:=cf 2
   have HE:=hid (And.intro c0 (And.intro c1 c2))
   have HX2:=hid hx2
   have HV2:=hid hv2
   obtain ⟨vm2,vo2,rfl,hq1,hq2⟩:=hv2
   obtain ⟨a1,n1,rfl⟩:=hq1.form
   obtain ⟨a2,n2,rfl⟩:=hq2.form
   clear cf hx2 hq1 hq2
   go_wp2
   have hd:=fun x y z => zb9 x y z HE.out.1 HE.out.2.1 HE.out.2.2
   refine bodyPost_ret (by simp [results,Tryz.results52,go_sem,(hd _ _ _).1,(hd _ _ _).2.1,(hd _ _ _).2.2]; rfl) rfl ?_
   have hg:=ziu (w0:=w) (b:=w.heap.size) HV2.out (HK.out.trans HX1.out) HX2.out (by omega) (Nat.lt_of_lt_of_le HSZ.out HX1.out.size) (.bool (canT ⟨⟨ng,zs⟩,m⟩).c.neg) (.slice a1 (canT ⟨⟨ng,zs⟩,m⟩).c.mag.length n1) (.slice a2 (canT ⟨⟨ng,zs⟩,m⟩).m.length n2)
   have el:zcu ts = canT ⟨⟨ng,zs⟩,m⟩:=by
    unfold zcu
    rw [E.out]
    cases ts with
    | nil => simp at hlt
    | cons t r =>
     obtain rfl:t = ⟨⟨ng,zs⟩,m⟩:=by simpa using HT.out
     rfl
   refine ⟨_,by rw [E.out,decide_eq_true hlt],?_,hg.2⟩
   rw [el]
   exact hg.1
theorem z5x {S:Nat → Prop} (v:Value) (ts:List RTerm) (w:World) (h:z06 S w v ts) (hS:∀ k,S k → k < w.heap.size) (hr:z3r ts) :
  Calls Tryz.prog 23 #[v] w fun e w' => e = .returned (.int .i64 (z0t (z0q ts))) ∧ Ext w w':=by
 have ec:z1j (z1b (zcu ts).m) = z0t (z0q ts):=by
  unfold zcu
  rw [← z5v]
  cases hp:z2v ts with
  | nil => rfl
  | cons t r =>
   have hm:mayM t.m = true:=by
    have h1:=(z3e ts).may (valI t.c,t.m) (by rw [← z5v,hp]; exact List.mem_cons_self)
    exact h1
   show z1j (z1b (canT t).m) = z1j t.m
   unfold z1b canT
   rw [if_pos hm]
 have EC:=hid ec
 have H:=hid h
 have HR:=hid hr
 obtain ⟨a,cap,rfl⟩:=h.form
 clear h hr ec
 go_enter Tryz.func23,Tryz.ntmps23
 go_wp2_with fail
 refine (zn3 _ ts w H.out hS HR.out).mono ?_
 rintro e w1 ⟨v1,rfl,⟨vm,vo,rfl,hq1,hq2⟩,hx1⟩
 obtain ⟨a1,n1,rfl⟩:=hq1.form
 obtain ⟨a2,n2,rfl⟩:=hq2.form
 have HX1:=hid hx1
 have HQ:=hid hq2
 have HA:=hid (Ext.alloc (Ext.refl w1) (.cells #[.bool (zcu ts).c.neg,.slice a1 (zcu ts).c.mag.length n1,.slice a2 (zcu ts).m.length n2] 50))
 clear hx1 hq1 hq2
 go_wp2_with fail
 refine (zk3 _ (zcu ts).m _ (HQ.out.ext HA.out (fun _ h => h.2)) (z08 (fun _ h => h.2) HA.out)).mono ?_
 rintro e w2 ⟨rfl,hx2⟩
 have HX2:=hid hx2
 clear hx2
 go_wp2
 all_goals
  go_ret
  exact ⟨by rw [EC.out]; rfl,HX1.out.trans (HA.out.trans HX2.out)⟩
theorem zd6 {S:Nat → Prop} (v:Value) (ts:List RTerm) (w:World) (h:z06 S w v ts) (hS:∀ k,S k → k < w.heap.size) (hr:z3r ts) :
  Calls Tryz.prog 59 #[v] w fun e w' => ∃ v',e = .returned v' ∧ z06 S w' v' (z2v ts) ∧ Ext w w':=by
 have H:=hid h
 have HR:=hid hr
 obtain ⟨a,cap,rfl⟩:=h.form
 clear h hr
 go_enter Tryz.func59,Tryz.ntmps59
 go_wp2_with fail
 refine (z4i _ ts w H.out hS HR.out).mono ?_
 rintro e w1 ⟨rfl,hx1⟩
 have HX1:=hid hx1
 clear hx1
 cases hm:mayT ts with
 | false =>
  go_wp2
  all_goals
   go_ret
   refine ⟨_,rfl,?_,HX1.out⟩
   rw [show z2v ts = [] by simp [z2v,hm]]
   exact ⟨0,0,⟨_,0,rfl,Nat.le_refl _,Nat.zero_le _,fun h => absurd h (Nat.lt_irrefl _),fun h => absurd h (Nat.lt_irrefl _)⟩,fun j x hx => by simp at hx⟩
 | true =>
  go_wp2
  all_goals
   go_ret
   refine ⟨_,rfl,?_,HX1.out⟩
   rw [show z2v ts = ts by simp [z2v,hm]]
   exact H.out.ext HX1.out hS
end
section
open Go.RowKit
theorem new2 {w W:World} {u v:Value} {T:TypeId} (h:Ext (w.alloc (.cells #[u,v] T)) W) :
  W.cell? ⟨w.heap.size,0,none⟩ = some u ∧ W.cell? ⟨w.heap.size,1,none⟩ = some v ∧ W.frozen? ⟨w.heap.size,0,none⟩ = false ∧ W.frozen? ⟨w.heap.size,1,none⟩ = false :=
 ⟨h.new_cell rfl,h.new_cell rfl,h.new_free 0,h.new_free 1⟩
theorem zn4 (p:PZ) (t:Int × Mono) (v:Int):degP (p ++ [t]) v = max (degP p v) (ex t.2 v):=by
 simp [degP,List.foldl_append]
theorem zn5 {p:PZ} {k:Nat} {t:Int × Mono} (h:p[k]? = some t) (v:Int):degP (p.take (k + 1)) v = max (degP (p.take k) v) (ex t.2 v):=by
 rw [List.take_add_one,h]
 exact zn4 _ _ _
theorem zhr {p:PZ} (h:z0k p) (k:Nat):z0k (p.take k):=fun t ht => h t (List.mem_of_mem_take ht)
theorem zba {S:Nat → Prop} (v:Value) (ts:List RTerm) (x:Int) (w:World) (h:z06 S w v ts) (hS:∀ k,S k → k < w.heap.size) (hr:z3r ts) (hx:-9223372036854775808 ≤ x ∧ x ≤ 9223372036854775807) :
  Calls Tryz.prog 29 #[v,.int .i64 x] w fun e w' => e = .returned (.int .i64 (degP (z0q ts) x)) ∧ Ext w w':=by
 have H:=hid h
 have HR:=hid hr
 have HXB:=hid hx
 obtain ⟨a,cap,rfl⟩:=h.form
 clear h hr hx
 go_enter Tryz.func29,Tryz.ntmps29
 go_wp2_with fail
 refine (zd6 _ ts w H.out hS HR.out).mono ?_
 rintro e w1 ⟨v1,rfl,hp,hx1⟩
 have HX1:=hid hx1
 have HP:=hid hp
 have hcan:z0k (z0q ts):=(z3e ts).may
 rw [← z5v] at hcan
 have ep:z0q ts = toP (z2v ts):=(z5v ts).symm
 have EP:=hid ep
 clear ep
 generalize z2v ts = qs at *
 have HCAN:=hid hcan
 obtain ⟨a1,c1,rfl⟩:=hp.form
 have hl:=hp.len_le
 clear hx1 hp hcan
 go_wp2
 go_loopw [4,10] (fun d i wr => ∃ k:Nat,k ≤ qs.length ∧ i = .int .i64 k ∧ d = .int .i64 (degP ((toP qs).take k) x) ∧ Ext w1 wr) (fun _ i _ => qs.length - (intOf i).toNat)
 case atStart => exact ⟨0,Nat.zero_le _,rfl,rfl,Ext.refl _⟩
 case round =>
  obtain ⟨k,hk,rfl,rfl,hx⟩:=hrel
  obtain ⟨hd1,hd2⟩:=z18 (zhr HCAN.out k) x
  by_cases hlt:k < qs.length
  ·obtain ⟨t,ht⟩:=z01 hlt
   obtain ⟨b,off,vm,vo,rfl,-,hn1,hm1,hSb,h1,h2,h3,h4,h5⟩:=HP.out.cellAt ht
   have hq:(toP qs)[k]? = some (valI t.c,t.m):=by simp [toP,ht]
   have hmm:mayM t.m = true:=HCAN.out _ (List.mem_of_getElem? hq)
   have hep:ex (z1b t.m) x = ex t.m x:=by unfold z1b; rw [if_pos hmm]
   have HS:=hid (zn5 hq x)
   obtain ⟨he1,he2⟩:=z2t hmm x
   obtain ⟨⟨ng,zs⟩,m⟩:=t
   simp only at h1 h2 h3 h4 h5 hep he1 he2 HS
   have H5:=hid h5
   obtain ⟨am,cm,rfl⟩:=h4.form
   obtain ⟨ao,co,rfl⟩:=h5.form
   have g1:=Ext.cell hx h1
   have g2:=Ext.cell hx h2
   have g3:=Ext.cell hx h3
   have HX:=hid hx
   have HA:=hid (hx.alloc (.cells #[.bool ng,.slice am zs.length cm,.slice ao m.length co] 50))
   have hS1:∀ k,S k → k < w1.heap.size:=z08 hS HX1.out
   have HD:=zb0 (S:=S) (.slice ao m.length co) m x _ (H5.out.ext HA.out hS1) (z08 hS1 HA.out) HXB.out
   rw [hep] at HD
   have HDD:=hid HD
   clear h1 h2 h3 h4 h5 hx ht hq hmm hep HD
   generalize degP ((toP qs).take k) x = d at *
   generalize ex m x = q at *
   go_wp2_with fail
   refine HDD.out.mono ?_
   rintro e w2 ⟨rfl,hx2⟩
   have HX2:=hid (HA.out.trans hx2)
   clear hx2
   go_wp2
   go_roundw
   case rel => exact ⟨k + 1,by omega,by go_num,by rw [HS.out]; first | done | exact congrArg (Value.int .i64) (by split <;> omega),HX2.out⟩
   case measure => simp only [intOf]; omega
  ·obtain rfl:k = qs.length:=by omega
   have HX:=hid hx
   clear hx
   go_wp2
   all_goals
    go_ret
    refine ⟨?_,HX1.out.trans HX.out⟩
    rw [EP.out,List.take_of_length_le (by simp [toP])]
    rfl
end
section
open Go.RowKit
def ZV (S:Nat → Prop) (w:World) (v:Value) (z:Int):Prop:=∃ vd,v = .agg #[.bool (decide (z < 0)),vd] ∧ Digs S w vd (rep 10 z.natAbs)
theorem ZV.to {S S':Nat → Prop} {w w':World} {v:Value} {z:Int} (h:ZV S w v z) (hk:Kept S w w') (hS:∀ k,S k → S' k):ZV S' w' v z:=by
 obtain ⟨vd,h1,h2⟩:=h
 exact ⟨vd,h1,h2.to hk hS⟩
theorem ZV.ext {S:Nat → Prop} {w W:World} {v:Value} {z:Int} (h:ZV S w v z) (hx:Ext w W) (hS:∀ k,S k → k < w.heap.size):ZV S W v z:=h.to (Kept.ext hx hS) (fun _ h => h)
theorem ZV.form {S:Nat → Prop} {w:World} {v:Value} {z:Int} (h:ZV S w v z):∃ a n c,v = .agg #[.bool (decide (z < 0)),.slice a n c]:=by
 obtain ⟨vd,h1,h2⟩:=h
 obtain ⟨a,c,rfl⟩:=h2.form
 exact ⟨a,_,c,h1⟩
theorem zy0 (b:Bool) (n:Nat):decide (sg b n < 0) = (b && decide (0 < n)):=by
 unfold sg
 cases b <;> simp <;> omega
theorem zy1 (b:Bool) (n:Nat):(sg b n).natAbs = n:=by
 unfold sg
 cases b <;> simp
theorem z5y (n:Nat):decide (0 < (rep 10 n).length) = decide (0 < n):=by
 rw [decide_eq_decide,List.length_pos_iff,Ne,z2d z0h]
 omega
theorem zn6 {S:Nat → Prop} {w:World} {vd:Value} {b:Bool} {n:Nat} (h:Digs S w vd (rep 10 n)):ZV S w (.agg #[.bool (b && decide (0 < n)),vd]) (sg b n) :=
 ⟨vd,by rw [zy0],by rw [zy1]; exact h⟩
theorem z6y {w0 w1 w2:World} {b:Nat} {v:Value} {z:Int} (hv:ZV (New w1 w2) w2 v z) (h01:Ext w0 w1) (h12:Ext w1 w2) (hb0:w0.heap.size ≤ b) (hb1:b < w1.heap.size) (x y:Value) :
  ZV (New w0 ((w2.setCell ⟨b,0,none⟩ x).setCell ⟨b,1,none⟩ y)) ((w2.setCell ⟨b,0,none⟩ x).setCell ⟨b,1,none⟩ y) v z ∧ Ext w0 ((w2.setCell ⟨b,0,none⟩ x).setCell ⟨b,1,none⟩ y):=by
 refine ⟨hv.to (Kept.set2 (fun h => ?_) _ _) (fun k hk => ⟨Nat.le_trans h01.size hk.1,?_⟩),(h01.trans h12).set2 hb0 _ _⟩
 ·have:=h.1
  omega
 ·rw [z2p]
  exact hk.2
theorem zkv {w W:World} {u0 v0:Value} {T0:TypeId} {u v:Value} {T:TypeId} (h:Ext ((w.alloc (.cells #[u0,v0] T0)).alloc (.cells #[u,v] T)) W) :
  W.cell? ⟨w.heap.size + 1,0,none⟩ = some u ∧ W.cell? ⟨w.heap.size + 1,1,none⟩ = some v ∧ W.frozen? ⟨w.heap.size + 1,0,none⟩ = false ∧ W.frozen? ⟨w.heap.size + 1,1,none⟩ = false:=by
 have:=new2 h
 rw [z02] at this
 exact this
theorem old2 {w W:World} {u0 v0:Value} {T0:TypeId} {o:Obj} (h:Ext ((w.alloc (.cells #[u0,v0] T0)).alloc o) W):W.cell? ⟨w.heap.size,0,none⟩ = some u0 ∧ W.cell? ⟨w.heap.size,1,none⟩ = some v0 :=
 ⟨(new2 ((Ext.alloc (Ext.refl _) o).trans h)).1,(new2 ((Ext.alloc (Ext.refl _) o).trans h)).2.1⟩
def szZ (z:Int):Prop:=(rep 10 z.natAbs).length ≤ 2000000
end
section
open Go.RowKit
def ze4 (o:Oper):Bool:=match o.op with
 | .move _ => true
 | .assign _ => true
 | .pick _ _ _ => true
 | .load _ _ => true
 | .build _ _ => true
 | .fieldAddr _ _ _ => true
 | .indexAddr _ _ _ => true
 | .binOp _ _ _ _ _ => true
 | .unOp _ _ _ => true
 | .convert _ _ _ => true
 | .extract _ _ => true
 | .call c => match c.callee with
  | .builtin .len => true
  | _ => false
 | _ => false
theorem z3g {P:Program} (s:Sem Value) (W:World):(∃ x w',(do pure (Next.value (← s)):Sem Next).run P W = .ok (.value x) w') ∨ (∃ h w',(do pure (Next.value (← s)):Sem Next).run P W = .halt h w'):=by
 simp only [Sem.run_bind]
 cases s.run P W with
 | ok x w' => exact .inl ⟨x,w',by simp⟩
 | halt h w' => exact .inr ⟨h,w',rfl⟩
theorem zn7 {P:Program} {o:Oper} (h:ze4 o = true) (ρ:Operand → Value) (W:World):(∃ x w',(execOp ρ o).run P W = .ok (.value x) w') ∨ (∃ h w',(execOp ρ o).run P W = .halt h w'):=by
 unfold ze4 at h
 unfold execOp
 cases hop:o.op with
 | move x => exact .inl ⟨_,_,rfl⟩
 | assign x => exact .inl ⟨_,_,rfl⟩
 | pick c a b =>
  simp only [Sem.run_bind]
  cases (asBool (ρ c)).run P W with
  | ok x w' => exact .inl ⟨_,w',rfl⟩
  | halt h w' => exact .inr ⟨h,w',rfl⟩
 | load t a => exact z3g _ W
 | build t a => exact z3g _ W
 | fieldAddr t a b => exact z3g _ W
 | indexAddr t a b => exact z3g _ W
 | binOp a b c d e => exact z3g _ W
 | unOp a b c => exact z3g _ W
 | convert a b c => exact z3g _ W
 | extract a b => exact z3g _ W
 | call c =>
  rw [hop] at h
  simp only at h
  split at h
  ·rename_i hc
   simp only [resolve,hc,Sem.run_bind,Sem.run_pure,Result.andThen_ok,invoke,builtin]
   cases (Builtin.len_ c.argTypes o.type (Array.map ρ c.args)).run P W with
   | ok x w' => exact .inl ⟨x,w',rfl⟩
   | halt h w' => exact .inr ⟨h,w',rfl⟩
  ·cases h
 | _ => rw [hop] at h; simp at h
theorem zfn {P:Program} {ops:Array Oper} {S:World → Prop} {o:Oper} {v:Value} {a:Act} (hp:ze4 o = true) (h:YieldsIn P ops S o v a):YieldsIf P ops S o v a:=by
 rcases h with ⟨hw,hv⟩ | ⟨hw,hv⟩
 ·refine .inl ⟨hw,fun W hW => ?_⟩
  have h1:=hv W hW
  unfold Oper.quietAt at h1
  rcases zn7 (P:=P) hp a.eval W with ⟨x,w',e⟩ | ⟨x,w',e⟩
  ·rw [e] at h1 ⊢
   simp only [Oper.quietUpon] at h1
   rw [h1.1,h1.2]
  ·rw [e] at h1
   exact absurd h1 (by simp [Oper.quietUpon])
 ·exact .inr ⟨hw,hv⟩
def zrn (md:Region.Mode) (ops:Array Oper) (g:Nat):List Oper → Nat → Array Bool → Bool
 | [],k,listed => Region.seqB md ops g k listed
 | o :: l,k,listed => ze4 o && (Region.ready md ops listed).contains k && Region.free md ops listed k && zrn md ops g l (k + 1) (listed.setIfInBounds k true)
def zy2 (S:World → Prop) (K:Act → World → Prop) (Q:Exit → Act → World → Prop):Exit → Act → World → Prop
 | .normal,a,w => S w ∧ K a w
 | ex,a,w => Q ex a w
def zbb (P:Program) (ops:Array Oper) (S:World → Prop) (Q:Exit → Act → World → Prop):List Oper → Act → World → Prop
 | [],a,w => Q .normal a w
 | o :: l,a,w => wpList P ops (zy2 S (zbb P ops S Q l) Q) [o] a w
section
variable {P:Program} {md:Region.Mode} {ops:Array Oper} {S:World → Prop} {Q:Exit → Act → World → Prop}
theorem za4:∀ (l:List Oper) (k:Nat) (listed:Array Bool) (a:Act) (w:World),(∀ j,l[j]? = ops[k + j]?) →
  Region.seqB md ops l.length k listed = true → zbb P ops S Q l a w → wpAnyH P md ops Q S l.length listed a w
 | [],_,_,_,_,_,hB,h => ⟨by simpa [Region.seqB] using hB,h⟩
 | o :: l,k,listed,a,w,hl,hB,h => by
  have h0:ops[k]? = some o:=by simpa using (hl 0).symm
  simp only [List.length_cons,Region.seqB,Bool.and_eq_true,decide_eq_true_eq] at hB
  refine ⟨fun h1 => (by rw [hB.1] at h1; cases h1),fun i hi => ?_⟩
  rw [hB.1] at hi
  have hik:i = k:=by simpa using hi
  subst hik
  have hrest:∀ a' w',(S w' ∧ zbb P ops S Q l a' w') → (S w' ∧ wpAnyH P md ops Q S l.length (listed.setIfInBounds i true) a' w'):=fun a' w' h' =>
   ⟨h'.1,za4 l (i + 1) _ a' w' (fun j => by have:=hl (j + 1); simpa [Nat.add_assoc,Nat.add_comm 1 j] using this) hB.2 h'.2⟩
  unfold zbb wpList at h
  unfold wpOp
  simp only [h0]
  have hu:∀ (K:Act → World → Prop) (r:Result Next),o.upon P a K (zy2 S (zbb P ops S Q l) Q) r → o.upon P a K Q r:=by
   intro K r hr
   cases r with
   | ok n w' => cases n <;> exact hr
   | halt x w' => cases x <;> exact hr
  split
  ·rename_i hw
   rw [if_pos hw] at h
   rcases h with h | h
   ·exact .inl (Oper.wp_mono (fun a' w' h' => hrest a' w' h') (hu _ _ h))
   ·exact .inr h
  ·rename_i hw
   rw [if_neg hw] at h
   exact hrest _ _ h
theorem za5 (hsel:Region.noSelect ops = true) (hQ:∀ c a t v w,Q (.panic c) (a.put (some t) v) w → Q (.panic c) a w) {g:Nat} {w:World} (hS:S w) {L:Act → Prop} :
  ∀ (l:List Oper) (k:Nat) (listed:Array Bool) (a:Act),(∀ j,j < l.length → l[j]? = ops[k + j]?) → zrn md ops g l k listed = true → wpQuiet P ops S L l a →
   (∀ listed' a',Region.seqB md ops g (k + l.length) listed' = true → L a' → wpAnyH P md ops Q S g listed' a' w) → wpAnyH P md ops Q S (l.length + g) listed a w
 | [],k,listed,a,_,hB,h,hL => by
  simp only [List.length_nil,Nat.zero_add]
  exact hL listed a hB h
 | o :: l,k,listed,a,hl,hB,h,hL => by
  have h0:ops[k]? = some o:=by simpa using (hl 0 (by simp)).symm
  simp only [zrn,Bool.and_eq_true] at hB
  obtain ⟨⟨⟨hp,hr⟩,hf⟩,hB'⟩:=hB
  have hq:qOp P ops S k (wpQuiet P ops S L l) a:=by unfold qOp; simp only [h0]; exact h
  obtain ⟨v,hy,hK⟩:=yieldsIn_of_qOp h0 hq
  rw [show (o :: l).length + g = (l.length + g) + 1 by simp only [List.length_cons]; omega]
  refine wpAnyH_take h0 hsel hf hr (fun c a w hp => ?_) (zfn hp hy) hS ?_
  ·cases hd:o.dst with
   | none => rw [hd] at hp; exact hp
   | some t => rw [hd] at hp; exact hQ c a t v w hp
  exact za5 hsel hQ hS l (k + 1) _ _ (fun j hj => by have:=hl (j + 1) (by simp; omega); simpa [Nat.add_assoc,Nat.add_comm 1 j] using this) hB' hK
   (fun listed' a' hs hLa => hL listed' a' (by rw [show k + (o :: l).length = k + 1 + l.length by simp only [List.length_cons]; omega]; exact hs) hLa)
theorem ze5 {id:Nat} {a:Act} {w:World} {l:List Oper} (S:World → Prop) (n:Nat) (hm:P.follows .mixedOrders = true) (hsel:Region.noSelect l.toArray = true) (hn:n ≤ l.length)
  (hB:zrn .any l.toArray (l.length - n) (l.take n) 0 (Array.replicate l.length false) = true) (hQ:∀ c a t v w,Q (.panic c) (a.put (some t) v) w → Q (.panic c) a w) (hS:S w.drew)
  (h:wpQuiet P l.toArray S (fun a' => zbb P l.toArray S Q (l.drop n) a' w.drew) (l.take n) a):(Code.region id l.toArray true).wp P Q a w:=by
 refine wp_region_held (S:=S) hm ?_
 have htl:(l.take n).length = n:=by simp; omega
 have hdl:(l.drop n).length = l.length - n:=by simp
 have H:=za5 (P:=P) (md:=.any) (ops:=l.toArray) (S:=S) (Q:=Q) hsel hQ (g:=l.length - n) (w:=w.drew) hS (l.take n) 0 (Array.replicate l.length false) a (fun j hj => by
  have hj':j < n:=by rw [htl] at hj; exact hj
  simp [hj']) hB h (fun listed' a' hs hL => by
   have:=za4 (P:=P) (md:=.any) (ops:=l.toArray) (S:=S) (Q:=Q) (l.drop n) n listed' a' w.drew (fun j => by simp [List.getElem?_drop]) (by rw [hdl]; rw [htl,Nat.zero_add] at hs; exact hs) hL
   rwa [hdl] at this)
 rw [htl,show n + (l.length - n) = l.length by omega] at H
 simpa using H
end
structure LaterB (B:Nat) (w:World) where
 w':World
 h:Below B w w'
theorem LaterB.cell {B:Nat} {w:World} (X:LaterB B w) {b i:Nat} {v:Value} (hb:b < B) (hc:w.cell? ⟨b,i,none⟩ = some v):X.w'.cell? ⟨b,i,none⟩ = some v:=z6k X.h hb hc
end
section
open Go.RowKit
theorem zfo {w0 w1 w2:World} {b:Nat} {z:Int} {vm:Value} (hu:U32s (New w1 w2) w2 vm (rep B32 z.natAbs)) (h01:Ext w0 w1) (h12:Ext w1 w2) (hb0:w0.heap.size ≤ b) (hb1:b < w1.heap.size) (x y:Value) :
  IntV (New w0 ((w2.setCell ⟨b,0,none⟩ x).setCell ⟨b,1,none⟩ y)) ((w2.setCell ⟨b,0,none⟩ x).setCell ⟨b,1,none⟩ y) (.agg #[.bool (decide (z < 0)),vm]) (ofI z) ∧ Ext w0 ((w2.setCell ⟨b,0,none⟩ x).setCell ⟨b,1,none⟩ y) :=
 z33 (r:=ofI z) rfl hu h01 h12 hb0 hb1 x y
theorem zvx {S:Nat → Prop} (v:Value) (z:Int) (w:World) (h:ZV S w v z) (hS:∀ k,S k → k < w.heap.size) (hr:szZ z) :
  Calls Tryz.prog 35 #[v] w fun e w' => ∃ v',e = .returned v' ∧ IntV (New w w') w' v' (ofI z) ∧ Ext w w':=by
 obtain ⟨vd,rfl,hd⟩:=h
 have HD:=hid hd
 obtain ⟨a,c,rfl⟩:=hd.form
 obtain ⟨n,hn⟩:∃ n,n = (rep 10 z.natAbs).length:=⟨_,rfl⟩
 have hl:=hd.len_le
 have hpos:=z5y z.natAbs
 rw [← hn] at hpos hl ⊢
 have HDN:=hid hd
 rw [← hn] at HDN
 have hng:z < 0 → 0 < n:=fun h => by
  rw [decide_eq_decide] at hpos
  exact hpos.2 (by omega)
 obtain ⟨ng,hq⟩:∃ b,b = decide (z < 0):=⟨_,rfl⟩
 rw [← hq]
 have HQ:=hid hq
 have hng2:ng = true → 0 < n:=fun h => hng (by rw [h] at hq; simpa using hq.symm)
 clear hd hn hpos hng hq HD
 have HK:=hid (Ext.alloc (Ext.alloc (Ext.refl w) (.cells #[.bool ng,.slice a n c] 102)) (.cells #[.bool false,.slice none 0 0] 30))
 have HSZ:Hid (w.heap.size + 1 < ((w.alloc (.cells #[.bool ng,.slice a n c] 102)).alloc (.cells #[.bool false,.slice none 0 0] 30)).heap.size):=hid (by simp)
 have x0:=(Ext.refl ((w.alloc (.cells #[.bool ng,.slice a n c] 102)).alloc (.cells #[.bool false,.slice none 0 0] 30))).drew
 have HX0:=hid x0
 have S0:=old2 x0
 clear x0
 cases ng with
 | true =>
  have hp:=hng2 rfl
  clear hng2
  go_enter Tryz.func35,Tryz.ntmps35
  go_wp2
  go_region_held3 (fun W => W.cell? ⟨w.heap.size,0,none⟩ = some (.bool true) ∧ W.cell? ⟨w.heap.size,1,none⟩ = some (.slice a n c)) (first | exact S0 | exact S1 | exact ⟨z09 (z09 S1.1 (ab (by omega))) (ab (by omega)),z09 (z09 S1.2 (ab (by omega))) (ab (by omega))⟩)
   (first
    | (go_at_call 73; (with_reducible refine (zfj _ z.natAbs _ (HDN.out.ext (HK.out.trans HX0.out) hS) (z08 hS (HK.out.trans HX0.out)) (Nat.le_trans hr (by decide))).mono ?_); rintro e w1 ⟨v1,rfl,hu1,hx1⟩; have S1:=old2 (HX0.out.trans hx1); obtain ⟨r0,r1,f0,f1⟩:=zkv (HX0.out.trans hx1); have HE:=hid (And.intro r0 r1); have HX1:=hid hx1; have HU1:=hid hu1; obtain ⟨a1,n1,rfl⟩:=hu1.form; clear hx1 hu1))
  go_wp2
  have hd:=fun x y => z19 x y HE.out.1 HE.out.2
  refine bodyPost_ret (by simp [results,Tryz.results35,go_sem,(hd _ _).1,(hd _ _).2]; rfl) rfl ?_
  have hg:=fun x y => zfo (w0:=w) (b:=w.heap.size + 1) HU1.out (HK.out.trans HX0.out) HX1.out (by omega) (Nat.lt_of_lt_of_le HSZ.out HX0.out.size) x y
  rw [← HQ.out] at hg
  exact ⟨_,rfl,(hg _ _).1,(hg _ _).2⟩
 | false =>
  clear hng2 S0
  have hBs:w.heap.size + 1 ≤ ((w.alloc (.cells #[.bool false,.slice a n c] 102)).alloc (.cells #[.bool false,.slice none 0 0] 30)).heap.size:=by simp
  have HBS:=hid hBs
  have e0:=old2 (Ext.refl ((w.alloc (.cells #[.bool false,.slice a n c] 102)).alloc (.cells #[.bool false,.slice none 0 0] 30)))
  have L0:=fun X:LaterB (w.heap.size + 1) ((w.alloc (.cells #[.bool false,.slice a n c] 102)).alloc (.cells #[.bool false,.slice none 0 0] 30)) => X.cell (Nat.lt_succ_self _) e0.1
  have L1:=fun X:LaterB (w.heap.size + 1) ((w.alloc (.cells #[.bool false,.slice a n c] 102)).alloc (.cells #[.bool false,.slice none 0 0] 30)) => X.cell (Nat.lt_succ_self _) e0.2
  have hne:Nonempty (LaterB (w.heap.size + 1) ((w.alloc (.cells #[.bool false,.slice a n c] 102)).alloc (.cells #[.bool false,.slice none 0 0] 30))):=⟨⟨_,(Below.refl _ _).mono hBs⟩⟩
  clear e0 hBs
  go_enter Tryz.func35,Tryz.ntmps35
  go_wp2
  refine ze5 (fun W => ∃ X:LaterB (w.heap.size + 1) ((w.alloc (.cells #[.bool false,.slice a n c] 102)).alloc (.cells #[.bool false,.slice none 0 0] 30)),W = X.w') 10 (by kernel_rfl) (by kernel_rfl) (by simp) (by kernel_rfl) (fun _ _ _ _ _ h => h) ⟨⟨_,HX0.out.mono HBS.out⟩,rfl⟩ ?_
  simp only [List.take_succ_cons,List.take_zero,List.drop_succ_cons,List.drop_zero]
  repeat (go_big_quiet_step (fail))
  refine wpQuiet_nil ?_
  refine (show wpList _ _ _ [_] _ _ from ?_)
  go_wp2_with fail
  refine (zfj _ z.natAbs _ (HDN.out.ext (HK.out.trans HX0.out) hS) (z08 hS (HK.out.trans HX0.out)) (Nat.le_trans hr (by decide))).mono ?_
  rintro e w1 ⟨v1,rfl,hu1,hx1⟩
  obtain ⟨r0,r1,f0,f1⟩:=zkv (HX0.out.trans hx1)
  have HE:=hid (And.intro r0 r1)
  have HX1:=hid hx1
  have HU1:=hid hu1
  obtain ⟨a1,n1,rfl⟩:=hu1.form
  clear hx1 hu1
  have HBW:Hid (Below (w.heap.size + 1) ((w.alloc (.cells #[.bool false,.slice a n c] 102)).alloc (.cells #[.bool false,.slice none 0 0] 30)) w1):=hid ((HX0.out.trans HX1.out).mono HBS.out)
  go_wp2
  refine ⟨⟨⟨w1,HBW.out⟩,rfl⟩,?_⟩
  refine (show wpList _ _ _ [_] _ _ from ?_)
  go_wp2
  refine ⟨⟨⟨w1,HBW.out⟩,rfl⟩,?_⟩
  refine (show wpList _ _ _ [_] _ _ from ?_)
  go_wp2
  refine ⟨⟨⟨_,(HBW.out.setCell (p:=⟨w.heap.size + 1,0,none⟩) (Nat.le_refl _) _).setCell (p:=⟨w.heap.size + 1,1,none⟩) (Nat.le_refl _) _⟩,rfl⟩,?_⟩
  unfold zbb
  go_wp2
  have hd:=fun x y => z19 x y HE.out.1 HE.out.2
  refine bodyPost_ret (by simp [results,Tryz.results35,go_sem,(hd _ _).1,(hd _ _).2]; rfl) rfl ?_
  have hg:=fun x y => zfo (w0:=w) (b:=w.heap.size + 1) HU1.out (HK.out.trans HX0.out) HX1.out (by omega) (Nat.lt_of_lt_of_le HSZ.out HX0.out.size) x y
  rw [← HQ.out] at hg
  exact ⟨_,rfl,(hg _ _).1,(hg _ _).2⟩
theorem z7h {S:Nat → Prop} (v:Value) (z:Int) (w:World) (h:ZV S w v z) :
  Calls Tryz.prog 72 #[v] w fun e w' => e = .returned (.int .i64 (z1l z)) ∧ Ext w w':=by
 obtain ⟨vd,rfl,hd⟩:=h
 obtain ⟨a,c,rfl⟩:=hd.form
 have hl:=hd.len_le
 have hpos:=z5y z.natAbs
 obtain ⟨n,hn⟩:∃ n,n = (rep 10 z.natAbs).length:=⟨_,rfl⟩
 rw [← hn] at hpos hl ⊢
 rw [decide_eq_decide] at hpos
 have HP:=hid hpos
 clear hd hpos hn
 rcases (show z < 0 ∨ z = 0 ∨ 0 < z by omega) with hz | hz | hz
 ·have hn0:0 < n:=HP.out.2 (by omega)
  have hb:((n:Int) == 0) = false:=by rw [beq_eq_false_iff_ne]; omega
  have hdz:decide (z < 0) = true:=decide_eq_true hz
  have HS:Hid (z1l z = -1):=hid (by unfold z1l; rw [z2w]; exact hz)
  rw [hdz]
  have HK:=hid (Ext.alloc (Ext.refl w) (.cells #[.bool true,.slice a n c] 102))
  clear hdz hz
  go_enter Tryz.func72,Tryz.ntmps72
  go_wp2
  all_goals
   go_ret
   exact ⟨by rw [HS.out]; rfl,HK.out⟩
 ·have hn0:n = 0:=by
   have:=HP.out
   omega
  subst hn0
  have hdz:decide (z < 0) = false:=decide_eq_false (by omega)
  have HS:Hid (z1l z = 0):=hid (by unfold z1l; rw [z6q]; exact hz)
  rw [hdz]
  have HK:=hid (Ext.alloc (Ext.refl w) (.cells #[.bool false,.slice a 0 c] 102))
  clear hdz hz
  go_enter Tryz.func72,Tryz.ntmps72
  go_wp2
  all_goals
   go_ret
   exact ⟨by rw [HS.out]; rfl,HK.out⟩
 ·have hn0:0 < n:=HP.out.2 (by omega)
  have hb:((n:Int) == 0) = false:=by rw [beq_eq_false_iff_ne]; omega
  have hdz:decide (z < 0) = false:=decide_eq_false (by omega)
  have HS:Hid (z1l z = 1):=hid (by unfold z1l; rw [z3y]; exact hz)
  rw [hdz]
  have HK:=hid (Ext.alloc (Ext.refl w) (.cells #[.bool false,.slice a n c] 102))
  clear hdz hz
  go_enter Tryz.func72,Tryz.ntmps72
  go_wp2
  all_goals
   go_ret
   exact ⟨by rw [HS.out]; rfl,HK.out⟩
end
section
open Go.RowKit
theorem zfp (n:Nat) (w:World) (hn:n < 9223372036854775808) :
  Calls Tryz.prog 30 #[.int .i64 (n:Nat)] w fun e w' => ∃ v',e = .returned v' ∧ ZV (New w w') w' v' (n:Int) ∧ Ext w w':=by
 have HK:=hid (Ext.alloc (Ext.refl w) (.cells #[.bool false,.slice none 0 0] 102))
 have HSZ:Hid (w.heap.size < (w.alloc (.cells #[.bool false,.slice none 0 0] 102)).heap.size):=hid (by simp)
 have HC:=hid (zmu n (w.alloc (.cells #[.bool false,.slice none 0 0] 102)) (by omega))
 go_enter Tryz.func30,Tryz.ntmps30
 go_wp2_with fail
 refine HC.out.mono ?_
 rintro e w1 ⟨v1,rfl,hd,hx⟩
 obtain ⟨r0,r1,f0,f1⟩:=new2 hx
 have HE:=hid (And.intro r0 r1)
 have HX:=hid hx
 have HD:=hid hd
 obtain ⟨a1,n1,rfl⟩:=hd.form
 clear hd hx
 go_wp2
 have hd:=fun x y => z19 x y HE.out.1 HE.out.2
 refine bodyPost_ret (by simp [results,Tryz.results30,go_sem,(hd _ _).1,(hd _ _).2]; rfl) rfl ?_
 have hz:=zn6 (b:=false) HD.out
 have hg:=fun x y => z6y (w0:=w) (b:=w.heap.size) hz HK.out HX.out (Nat.le_refl _) HSZ.out x y
 exact ⟨_,rfl,(hg _ _).1,(hg _ _).2⟩
theorem zy3 (x y:Int):x * y = sg (decide (x < 0) != decide (y < 0)) (x.natAbs * y.natAbs):=by
 unfold sg
 rcases Int.lt_or_le x 0 with hx | hx <;> rcases Int.lt_or_le y 0 with hy | hy
 ·have e:(decide (x < 0) != decide (y < 0)) = false:=by simp [hx,hy]
  rw [e]
  simp only [Bool.false_eq_true,if_false,Int.natCast_mul]
  rw [Int.ofNat_natAbs_of_nonpos (by omega),Int.ofNat_natAbs_of_nonpos (by omega),Int.neg_mul_neg]
 ·have e:(decide (x < 0) != decide (y < 0)) = true:=by simp [hx,Int.not_lt.2 hy]
  rw [e]
  simp only [if_true,Int.natCast_mul]
  rw [Int.ofNat_natAbs_of_nonpos (by omega),Int.natAbs_of_nonneg hy,Int.neg_mul,Int.neg_neg]
 ·have e:(decide (x < 0) != decide (y < 0)) = true:=by simp [hy,Int.not_lt.2 hx]
  rw [e]
  simp only [if_true,Int.natCast_mul]
  rw [Int.natAbs_of_nonneg hx,Int.ofNat_natAbs_of_nonpos (by omega),Int.mul_neg,Int.neg_neg]
 ·have e:(decide (x < 0) != decide (y < 0)) = false:=by simp [Int.not_lt.2 hx,Int.not_lt.2 hy]
  rw [e]
  simp only [Bool.false_eq_true,if_false,Int.natCast_mul]
  rw [Int.natAbs_of_nonneg hx,Int.natAbs_of_nonneg hy]
theorem old4 {w W:World} {u0 v0 u1 v1:Value} {T0 T1:TypeId} {o:Obj} (h:Ext (((w.alloc (.cells #[u0,v0] T0)).alloc (.cells #[u1,v1] T1)).alloc o) W) :
  W.cell? ⟨w.heap.size,0,none⟩ = some u0 ∧ W.cell? ⟨w.heap.size,1,none⟩ = some v0 ∧ W.cell? ⟨w.heap.size + 1,0,none⟩ = some u1 ∧ W.cell? ⟨w.heap.size + 1,1,none⟩ = some v1:=by
 have e1:=(Ext.alloc (Ext.refl _) o).trans h
 exact ⟨(old2 e1).1,(old2 e1).2,(zkv e1).1,(zkv e1).2.1⟩
theorem zro {w W:World} {u0 v0 u1 v1 u v:Value} {T0 T1 T:TypeId} (h:Ext (((w.alloc (.cells #[u0,v0] T0)).alloc (.cells #[u1,v1] T1)).alloc (.cells #[u,v] T)) W) :
  W.cell? ⟨w.heap.size + 1 + 1,0,none⟩ = some u ∧ W.cell? ⟨w.heap.size + 1 + 1,1,none⟩ = some v ∧ W.frozen? ⟨w.heap.size + 1 + 1,0,none⟩ = false ∧ W.frozen? ⟨w.heap.size + 1 + 1,1,none⟩ = false:=by
 have:=new2 h
 rw [z02,z02] at this
 exact this
theorem zvy {S:Nat → Prop} (vx vy:Value) (x y:Int) (w:World) (hx:ZV S w vx x) (hy:ZV S w vy y) (hS:∀ k,S k → k < w.heap.size) (hrx:szZ x) (hry:szZ y) :
  Calls Tryz.prog 69 #[vx,vy] w fun e w' => ∃ v',e = .returned v' ∧ ZV (New w w') w' v' (x * y) ∧ Ext w w':=by
 obtain ⟨vdx,rfl,hdx⟩:=hx
 obtain ⟨vdy,rfl,hdy⟩:=hy
 have HX:=hid hdx
 have HY:=hid hdy
 obtain ⟨ax,cx,rfl⟩:=hdx.form
 obtain ⟨ay,cy,rfl⟩:=hdy.form
 rw [zy3 x y]
 obtain ⟨n,hn⟩:∃ n,n = x.natAbs * y.natAbs:=⟨_,rfl⟩
 rw [← hn]
 obtain ⟨bx,hbx⟩:∃ b,b = decide (x < 0):=⟨_,rfl⟩
 obtain ⟨bz,hbz⟩:∃ b,b = decide (y < 0):=⟨_,rfl⟩
 obtain ⟨nx,hnx⟩:∃ n,n = (rep 10 x.natAbs).length:=⟨_,rfl⟩
 obtain ⟨ny,hny⟩:∃ n,n = (rep 10 y.natAbs).length:=⟨_,rfl⟩
 rw [← hbx,← hbz,← hnx,← hny]
 have HK:=hid (Ext.alloc (Ext.alloc (Ext.alloc (Ext.refl w) (.cells #[.bool bx,.slice ax nx cx] 102)) (.cells #[.bool bz,.slice ay ny cy] 102)) (.cells #[.bool false,.slice none 0 0] 102))
 have hc:=zvv _ _ (rep 10 x.natAbs) (rep 10 y.natAbs) _ (HX.out.ext HK.out hS) (HY.out.ext HK.out hS) (z08 hS HK.out) (Nat.le_trans hrx (by decide)) (Nat.le_trans hry (by decide))
 rw [z0d z0h,z0d z0h,← hn,← hnx,← hny] at hc
 have HC:=hid hc
 have HSZ:Hid (w.heap.size + 1 + 1 < (((w.alloc (.cells #[.bool bx,.slice ax nx cx] 102)).alloc (.cells #[.bool bz,.slice ay ny cy] 102)).alloc (.cells #[.bool false,.slice none 0 0] 102)).heap.size):=hid (by simp)
 have l1:=hdx.len_le
 have l2:=hdy.len_le
 rw [← hnx] at l1
 rw [← hny] at l2
 clear hdx hdy hn hbx hbz hnx hny hc hrx hry HX HY
 obtain ⟨q0,q1,q2,q3⟩:=old4 (Ext.refl (((w.alloc (.cells #[.bool bx,.slice ax nx cx] 102)).alloc (.cells #[.bool bz,.slice ay ny cy] 102)).alloc (.cells #[.bool false,.slice none 0 0] 102)))
 go_enter Tryz.func69,Tryz.ntmps69
 go_wp2_with fail
 refine HC.out.mono ?_
 rintro e w1 ⟨v1,rfl,hd,hxx⟩
 obtain ⟨p0,p1,p2,p3⟩:=old4 hxx
 obtain ⟨r0,r1,f0,f1⟩:=zro hxx
 have HE:=hid (And.intro r0 r1)
 have HXX:=hid hxx
 have HD:=hid hd
 obtain ⟨a1,n1,rfl⟩:=hd.form
 have hlen:=z5y n
 have hz:=zn6 (b:=(bx != bz)) HD.out
 clear hd hxx q0 q1 q2 q3
 by_cases h0:0 < n
 ·have hp:0 < (rep 10 n).length:=by simpa [h0] using hlen
  rw [show ((bx != bz) && decide (0 < n)) = (bx != bz) by simp [h0]] at hz
  have HZ:=hid hz
  clear hlen hz
  cases bx <;> cases bz
  all_goals
   go_wp2
   have hd:=fun x y => z19 x y HE.out.1 HE.out.2
   refine bodyPost_ret (by simp [results,Tryz.results69,go_sem,(hd _ _).1,(hd _ _).2]; rfl) rfl ?_
   have hg:=fun x y => z6y (w0:=w) (b:=w.heap.size + 1 + 1) HZ.out HK.out HXX.out (by omega) HSZ.out x y
   exact ⟨_,rfl,(hg _ _).1,(hg _ _).2⟩
 ·obtain rfl:n = 0:=by omega
  rw [show ((bx != bz) && decide (0 < 0)) = false by simp] at hz
  have HZ:=hid hz
  have hp:(rep 10 0).length = 0:=rfl
  clear hlen hz
  cases bx <;> cases bz
  all_goals
   go_wp2
   have hd:=fun x y => z19 x y HE.out.1 HE.out.2
   refine bodyPost_ret (by simp [results,Tryz.results69,go_sem,(hd _ _).1,(hd _ _).2]; rfl) rfl ?_
   have hg:=fun x y => z6y (w0:=w) (b:=w.heap.size + 1 + 1) HZ.out HK.out HXX.out (by omega) HSZ.out x y
   exact ⟨_,rfl,(hg _ _).1,(hg _ _).2⟩
end
section
open Go.RowKit
theorem zrp {x y:Int} (h:decide (x < 0) = decide (y < 0)):x + y = sg (decide (x < 0)) (x.natAbs + y.natAbs):=by
 unfold sg
 rw [decide_eq_decide] at h
 by_cases hx:x < 0
 ·have hy:=h.1 hx
  rw [decide_eq_true hx,if_pos rfl]
  omega
 ·have hy:¬ y < 0:=fun e => hx (h.2 e)
  rw [decide_eq_false hx,if_neg (by simp)]
  omega
theorem zuv {x y:Int} (h:¬ decide (x < 0) = decide (y < 0)) (hge:y.natAbs ≤ x.natAbs):x + y = sg (decide (x < 0)) (x.natAbs - y.natAbs):=by
 unfold sg
 rw [decide_eq_decide] at h
 by_cases hx:x < 0
 ·rw [decide_eq_true hx,if_pos rfl]
  omega
 ·rw [decide_eq_false hx,if_neg (by simp)]
  omega
theorem zy4 {x y:Int} (h:¬ decide (x < 0) = decide (y < 0)) (hlt:x.natAbs < y.natAbs):x + y = sg (decide (y < 0)) (y.natAbs - x.natAbs):=by
 rw [Int.add_comm]
 exact zuv (fun e => h e.symm) (Nat.le_of_lt hlt)
theorem zn8 {x y:Int} (_h:decide (x < 0) = decide (y < 0)):(decide (x < 0) && decide (0 < x.natAbs + y.natAbs)) = decide (x < 0):=by
 by_cases hx:x < 0
 ·have:0 < x.natAbs + y.natAbs:=by omega
  simp [hx,this]
 ·simp [hx]
theorem zfq {S:Nat → Prop} (vx vy:Value) (x y:Int) (w:World) (hx:ZV S w vx x) (hy:ZV S w vy y) (hS:∀ k,S k → k < w.heap.size) (hrx:szZ x) (hry:szZ y) (hs:decide (x < 0) = decide (y < 0)) :
  Calls Tryz.prog 71 #[vx,vy] w fun e w' => ∃ v',e = .returned v' ∧ ZV (New w w') w' v' (x + y) ∧ Ext w w':=by
 obtain ⟨vdx,rfl,hdx⟩:=hx
 obtain ⟨vdy,rfl,hdy⟩:=hy
 have HX:=hid hdx
 have HY:=hid hdy
 obtain ⟨ax,cx,rfl⟩:=hdx.form
 obtain ⟨ay,cy,rfl⟩:=hdy.form
 rw [zrp hs]
 have hsg:=zn8 hs
 obtain ⟨n,hn⟩:∃ n,n = x.natAbs + y.natAbs:=⟨_,rfl⟩
 obtain ⟨bx,hbx⟩:∃ b,b = decide (x < 0):=⟨_,rfl⟩
 obtain ⟨nx,hnx⟩:∃ n,n = (rep 10 x.natAbs).length:=⟨_,rfl⟩
 obtain ⟨ny,hny⟩:∃ n,n = (rep 10 y.natAbs).length:=⟨_,rfl⟩
 have HL:Hid ((rep 10 x.natAbs).length ≤ 10000000 ∧ (rep 10 y.natAbs).length ≤ 10000000):=hid ⟨Nat.le_trans hrx (by decide),Nat.le_trans hry (by decide)⟩
 rw [← hs,← hn,← hbx,← hnx,← hny]
 rw [← hn,← hbx] at hsg
 have HSG:=hid hsg
 have HN:=hid hn
 have HNX:=hid hnx
 have HNY:=hid hny
 have hb:(bx == bx) = true:=by simp
 have HK:=hid (Ext.alloc (Ext.alloc (Ext.alloc (Ext.refl w) (.cells #[.bool bx,.slice ax nx cx] 102)) (.cells #[.bool bx,.slice ay ny cy] 102)) (.cells #[.bool false,.slice none 0 0] 102))
 have HSZ:Hid (w.heap.size + 1 + 1 < (((w.alloc (.cells #[.bool bx,.slice ax nx cx] 102)).alloc (.cells #[.bool bx,.slice ay ny cy] 102)).alloc (.cells #[.bool false,.slice none 0 0] 102)).heap.size):=hid (by simp)
 have x0:=(Ext.refl (((w.alloc (.cells #[.bool bx,.slice ax nx cx] 102)).alloc (.cells #[.bool bx,.slice ay ny cy] 102)).alloc (.cells #[.bool false,.slice none 0 0] 102))).drew
 have HX0:=hid x0
 have hc:=zvu _ _ (rep 10 x.natAbs) (rep 10 y.natAbs) _ (HX.out.ext (HK.out.trans x0) hS) (HY.out.ext (HK.out.trans x0) hS) (z08 hS (HK.out.trans x0)) HL.out.1 HL.out.2
 rw [z0d z0h,z0d z0h,← hn,← hnx,← hny] at hc
 have HC:=hid hc
 have S0:_ ∧ _ ∧ _:=And.intro (old4 x0).1 (And.intro (old4 x0).2.1 (old4 x0).2.2.2)
 have HS0:=hid S0
 clear hdx hdy hn hbx hnx hny hrx hry hs hsg hc x0 S0
 go_enter Tryz.func71,Tryz.ntmps71
 go_wp2
 have S0:=HS0.out
 go_region_held3 (fun W => W.cell? ⟨w.heap.size,0,none⟩ = some (.bool bx) ∧ W.cell? ⟨w.heap.size,1,none⟩ = some (.slice ax nx cx) ∧ W.cell? ⟨w.heap.size + 1,1,none⟩ = some (.slice ay ny cy)) (first | exact S0 | exact S1 | exact ⟨z09 (z09 S1.1 (ab (by omega))) (ab (by omega)),z09 (z09 S1.2.1 (ab (by omega))) (ab (by omega)),z09 (z09 S1.2.2 (ab (by omega))) (ab (by omega))⟩)
  (first
   | (go_at_call 66; (with_reducible refine HC.out.mono ?_); rintro e w1 ⟨v1,rfl,hd,hxx⟩; have S1:=And.intro (hxx.cell S0.1) (And.intro (hxx.cell S0.2.1) (hxx.cell S0.2.2)); obtain ⟨r0,r1,f0,f1⟩:=zro (HX0.out.trans hxx); have HE:=hid (And.intro r0 r1); have HXX:=hid hxx; have HD:=hid hd; obtain ⟨a1,n1,rfl⟩:=hd.form; clear hd hxx))
 go_wp2
 have hd:=fun x y => z19 x y HE.out.1 HE.out.2
 refine bodyPost_ret (by simp [results,Tryz.results71,go_sem,(hd _ _).1,(hd _ _).2]; rfl) rfl ?_
 have hz:=zn6 (b:=bx) HD.out
 rw [HSG.out] at hz
 have hg:=fun x y => z6y (w0:=w) (b:=w.heap.size + 1 + 1) hz (HK.out.trans HX0.out) HXX.out (by omega) (Nat.lt_of_lt_of_le HSZ.out HX0.out.size) x y
 exact ⟨_,rfl,(hg _ _).1,(hg _ _).2⟩
theorem zkw {S:Nat → Prop} (vx vy:Value) (x y:Int) (w:World) (hx:ZV S w vx x) (hy:ZV S w vy y) (hS:∀ k,S k → k < w.heap.size) (hrx:szZ x) (hry:szZ y) (hs:¬ decide (x < 0) = decide (y < 0)) (hge:y.natAbs ≤ x.natAbs) :
  Calls Tryz.prog 71 #[vx,vy] w fun e w' => ∃ v',e = .returned v' ∧ ZV (New w w') w' v' (x + y) ∧ Ext w w':=by
 obtain ⟨vdx,rfl,hdx⟩:=hx
 obtain ⟨vdy,rfl,hdy⟩:=hy
 have HX:=hid hdx
 have HY:=hid hdy
 obtain ⟨ax,cx,rfl⟩:=hdx.form
 obtain ⟨ay,cy,rfl⟩:=hdy.form
 rw [zuv hs hge]
 have HCM:Hid (-1 < cmpN x.natAbs y.natAbs):=hid (by
  unfold cmpN
  have:=z2w (x:=(x.natAbs:Int)) (y:=(y.natAbs:Int))
  rcases z4p (x.natAbs:Int) (y.natAbs:Int) with h | h | h
  ·have:=this.1 h; omega
  ·omega
  ·omega)
 have HLE:Hid ((rep 10 y.natAbs).length ≤ (rep 10 x.natAbs).length):=hid (z0f z0h _ _ (Nat.lt_of_le_of_lt hge (z0y z0h _)))
 have HVL:Hid (val 10 (rep 10 y.natAbs) ≤ val 10 (rep 10 x.natAbs)):=hid (by rw [z0d z0h,z0d z0h]; exact hge)
 obtain ⟨n,hn⟩:∃ n,n = x.natAbs - y.natAbs:=⟨_,rfl⟩
 obtain ⟨bx,hbx⟩:∃ b,b = decide (x < 0):=⟨_,rfl⟩
 obtain ⟨bz,hbz⟩:∃ b,b = decide (y < 0):=⟨_,rfl⟩
 obtain ⟨nx,hnx⟩:∃ n,n = (rep 10 x.natAbs).length:=⟨_,rfl⟩
 obtain ⟨ny,hny⟩:∃ n,n = (rep 10 y.natAbs).length:=⟨_,rfl⟩
 have HL:Hid ((rep 10 x.natAbs).length ≤ 10000000 ∧ (rep 10 y.natAbs).length ≤ 10000000):=hid ⟨Nat.le_trans hrx (by decide),Nat.le_trans hry (by decide)⟩
 rw [← hn,← hbx,← hbz,← hnx,← hny]
 rw [← hbx,← hbz] at hs
 have hb:(bx == bz) = false:=by rw [beq_eq_false_iff_ne]; exact hs
 have HK:=hid (Ext.alloc (Ext.alloc (Ext.alloc (Ext.refl w) (.cells #[.bool bx,.slice ax nx cx] 102)) (.cells #[.bool bz,.slice ay ny cy] 102)) (.cells #[.bool false,.slice none 0 0] 102))
 have HSZ:Hid (w.heap.size + 1 + 1 < (((w.alloc (.cells #[.bool bx,.slice ax nx cx] 102)).alloc (.cells #[.bool bz,.slice ay ny cy] 102)).alloc (.cells #[.bool false,.slice none 0 0] 102)).heap.size):=hid (by simp)
 have hc1:=zmx _ _ x.natAbs y.natAbs _ (HX.out.ext HK.out hS) (HY.out.ext HK.out hS) (z08 hS HK.out)
 rw [← hnx,← hny] at hc1
 obtain ⟨cm,hcm⟩:∃ c,c = cmpN x.natAbs y.natAbs:=⟨_,rfl⟩
 rw [← hcm] at hc1 HCM
 have HC1:=hid hc1
 have hc2:=fun W (hW:Ext (((w.alloc (.cells #[.bool bx,.slice ax nx cx] 102)).alloc (.cells #[.bool bz,.slice ay ny cy] 102)).alloc (.cells #[.bool false,.slice none 0 0] 102)) W) =>
  zmy _ _ (rep 10 x.natAbs) (rep 10 y.natAbs) W (HX.out.ext (HK.out.trans hW) hS) (HY.out.ext (HK.out.trans hW) hS) (z08 hS (HK.out.trans hW)) HL.out.1 HLE.out HVL.out
 rw [z0d z0h,z0d z0h,← hn,← hnx,← hny] at hc2
 have HC2:=hid hc2
 clear hdx hdy hn hbx hbz hnx hny hrx hry hs hge hc1 hc2 hcm
 have hcm0:=HCM.out
 go_enter Tryz.func71,Tryz.ntmps71
 go_wp2_with fail
 refine HC1.out.mono ?_
 rintro e w1 ⟨rfl,hx1⟩
 obtain ⟨p0,p1,p2,p3⟩:=old4 hx1
 have HX1:=hid hx1
 clear hx1
 go_wp2_with fail
 refine (HC2.out w1 HX1.out).mono ?_
 rintro e w2 ⟨v2,rfl,hd,hx2⟩
 obtain ⟨q0,q1,q2,q3⟩:=old4 (HX1.out.trans hx2)
 obtain ⟨r0,r1,f0,f1⟩:=zro (HX1.out.trans hx2)
 have HE:=hid (And.intro r0 r1)
 have HX2:=hid hx2
 have HD:=hid hd
 obtain ⟨a1,n1,rfl⟩:=hd.form
 have hlen:=z5y n
 have hz:=zn6 (b:=bx) HD.out
 clear hd hx2 p0 p1 p2 p3
 by_cases h0:0 < n
 ·have hp:0 < (rep 10 n).length:=by simpa [h0] using hlen
  rw [show (bx && decide (0 < n)) = bx by simp [h0]] at hz
  have HZ:=hid hz
  clear hlen hz
  cases bx
  all_goals
   go_wp2
   have hd:=fun x y => z19 x y HE.out.1 HE.out.2
   refine bodyPost_ret (by simp [results,Tryz.results71,go_sem,(hd _ _).1,(hd _ _).2]; rfl) rfl ?_
   have hg:=fun x y => z6y (w0:=w) (b:=w.heap.size + 1 + 1) HZ.out (HK.out.trans HX1.out) HX2.out (by omega) (Nat.lt_of_lt_of_le HSZ.out HX1.out.size) x y
   exact ⟨_,rfl,(hg _ _).1,(hg _ _).2⟩
 ·obtain rfl:n = 0:=by omega
  rw [show (bx && decide (0 < 0)) = false by simp] at hz
  have HZ:=hid hz
  have hp:(rep 10 0).length = 0:=rfl
  clear hlen hz
  cases bx
  all_goals
   go_wp2
   have hd:=fun x y => z19 x y HE.out.1 HE.out.2
   refine bodyPost_ret (by simp [results,Tryz.results71,go_sem,(hd _ _).1,(hd _ _).2]; rfl) rfl ?_
   have hg:=fun x y => z6y (w0:=w) (b:=w.heap.size + 1 + 1) HZ.out (HK.out.trans HX1.out) HX2.out (by omega) (Nat.lt_of_lt_of_le HSZ.out HX1.out.size) x y
   exact ⟨_,rfl,(hg _ _).1,(hg _ _).2⟩
theorem fr4 {w W:World} {u0 v0 u1 v1:Value} {T0 T1:TypeId} {o:Obj} (h:Ext (((w.alloc (.cells #[u0,v0] T0)).alloc (.cells #[u1,v1] T1)).alloc o) W) :
  W.frozen? ⟨w.heap.size,0,none⟩ = false ∧ W.frozen? ⟨w.heap.size,1,none⟩ = false ∧ W.frozen? ⟨w.heap.size + 1,0,none⟩ = false ∧ W.frozen? ⟨w.heap.size + 1,1,none⟩ = false:=by
 have e1:=(Ext.alloc (Ext.refl _) o).trans h
 have e0:=(Ext.alloc (Ext.refl _) _).trans e1
 exact ⟨(new2 e0).2.2.1,(new2 e0).2.2.2,(zkv e1).2.2.1,(zkv e1).2.2.2⟩
def z9i (w:World) (b:Nat) (x0 x1 y0 y1:Value):World:=(((w.setCell ⟨b,0,none⟩ x0).setCell ⟨b,1,none⟩ x1).setCell ⟨b + 1,0,none⟩ y0).setCell ⟨b + 1,1,none⟩ y1
theorem zrq {a w:World} (h:Ext a w) {b:Nat} (hb:a.heap.size ≤ b) (x0 x1 y0 y1:Value):Ext a (z9i w b x0 x1 y0 y1) :=
 (h.set2 hb x0 x1).set2 (Nat.le_trans hb (Nat.le_succ _)) y0 y1
theorem zn9 {w:World} {b:Nat} (x0 x1 y0 y1:Value):(z9i w b x0 x1 y0 y1).heap.size = w.heap.size:=by
 unfold z9i
 rw [z2p,z2p]
theorem zkx {w:World} {b:Nat} {u0 u1 v0 v1:Value} (x0 x1 y0 y1:Value) (c0:w.cell? ⟨b,0,none⟩ = some u0) (c1:w.cell? ⟨b,1,none⟩ = some u1) (d0:w.cell? ⟨b + 1,0,none⟩ = some v0) (d1:w.cell? ⟨b + 1,1,none⟩ = some v1) :
  (z9i w b x0 x1 y0 y1).cell? ⟨b,0,none⟩ = some x0 ∧ (z9i w b x0 x1 y0 y1).cell? ⟨b,1,none⟩ = some x1 ∧ (z9i w b x0 x1 y0 y1).cell? ⟨b + 1,0,none⟩ = some y0 ∧ (z9i w b x0 x1 y0 y1).cell? ⟨b + 1,1,none⟩ = some y1:=by
 unfold z9i
 have h1:=z19 x0 x1 c0 c1
 have e0:=z09 (v:=x1) (z09 (v:=x0) d0 (ab (b:=b) (i:=0) (show b ≠ b + 1 by omega))) (ab (b:=b) (i:=1) (show b ≠ b + 1 by omega))
 have e1:=z09 (v:=x1) (z09 (v:=x0) d1 (ab (b:=b) (i:=0) (show b ≠ b + 1 by omega))) (ab (b:=b) (i:=1) (show b ≠ b + 1 by omega))
 have h2:=z19 y0 y1 e0 e1
 exact ⟨z09 (z09 h1.1 (ab (by omega))) (ab (by omega)),z09 (z09 h1.2 (ab (by omega))) (ab (by omega)),h2.1,h2.2⟩
theorem ziv {w:World} {b c i:Nat} {u:Value} (x0 x1 y0 y1:Value) (h:w.cell? ⟨c,i,none⟩ = some u) (h1:b ≠ c) (h2:b + 1 ≠ c):(z9i w b x0 x1 y0 y1).cell? ⟨c,i,none⟩ = some u:=by
 unfold z9i
 exact z09 (z09 (z09 (z09 h (ab h1)) (ab h1)) (ab h2)) (ab h2)
theorem zfr {w:World} {b:Nat} {c:Addr} (x0 x1 y0 y1:Value) (h:w.frozen? c = false):(z9i w b x0 x1 y0 y1).frozen? c = false:=by
 unfold z9i
 exact z16 (z16 (z16 (z16 h)))
theorem zky {S:Nat → Prop} (vx vy:Value) (x y:Int) (w:World) (hx:ZV S w vx x) (hy:ZV S w vy y) (hS:∀ k,S k → k < w.heap.size) (hrx:szZ x) (hry:szZ y) (hs:¬ decide (x < 0) = decide (y < 0)) (hlt:x.natAbs < y.natAbs) :
  Calls Tryz.prog 71 #[vx,vy] w fun e w' => ∃ v',e = .returned v' ∧ ZV (New w w') w' v' (x + y) ∧ Ext w w':=by
 obtain ⟨vdx,rfl,hdx⟩:=hx
 obtain ⟨vdy,rfl,hdy⟩:=hy
 have HX:=hid hdx
 have HY:=hid hdy
 obtain ⟨ax,cx,rfl⟩:=hdx.form
 obtain ⟨ay,cy,rfl⟩:=hdy.form
 rw [zy4 hs hlt]
 have HCM:Hid (cmpN x.natAbs y.natAbs = -1):=hid (by
  unfold cmpN
  rw [z2w]
  omega)
 have HLE:Hid ((rep 10 x.natAbs).length ≤ (rep 10 y.natAbs).length):=hid (z0f z0h _ _ (Nat.lt_trans hlt (z0y z0h _)))
 have HVL:Hid (val 10 (rep 10 x.natAbs) ≤ val 10 (rep 10 y.natAbs)):=hid (by rw [z0d z0h,z0d z0h]; omega)
 obtain ⟨n,hn⟩:∃ n,n = y.natAbs - x.natAbs:=⟨_,rfl⟩
 obtain ⟨bx,hbx⟩:∃ b,b = decide (x < 0):=⟨_,rfl⟩
 obtain ⟨bz,hbz⟩:∃ b,b = decide (y < 0):=⟨_,rfl⟩
 obtain ⟨nx,hnx⟩:∃ n,n = (rep 10 x.natAbs).length:=⟨_,rfl⟩
 obtain ⟨ny,hny⟩:∃ n,n = (rep 10 y.natAbs).length:=⟨_,rfl⟩
 have HL:Hid ((rep 10 x.natAbs).length ≤ 10000000 ∧ (rep 10 y.natAbs).length ≤ 10000000):=hid ⟨Nat.le_trans hrx (by decide),Nat.le_trans hry (by decide)⟩
 rw [← hn,← hbx,← hbz,← hnx,← hny]
 rw [← hbx,← hbz] at hs
 have hb:(bx == bz) = false:=by rw [beq_eq_false_iff_ne]; exact hs
 have HK:=hid (Ext.alloc (Ext.alloc (Ext.alloc (Ext.refl w) (.cells #[.bool bx,.slice ax nx cx] 102)) (.cells #[.bool bz,.slice ay ny cy] 102)) (.cells #[.bool false,.slice none 0 0] 102))
 have HSZ:Hid (w.heap.size + 1 + 1 < (((w.alloc (.cells #[.bool bx,.slice ax nx cx] 102)).alloc (.cells #[.bool bz,.slice ay ny cy] 102)).alloc (.cells #[.bool false,.slice none 0 0] 102)).heap.size):=hid (by simp)
 have hc1:=zmx _ _ x.natAbs y.natAbs _ (HX.out.ext HK.out hS) (HY.out.ext HK.out hS) (z08 hS HK.out)
 rw [← hnx,← hny,HCM.out] at hc1
 have HC1:=hid hc1
 have hc2:=fun W (hW:Ext w W) =>
  zmy _ _ (rep 10 y.natAbs) (rep 10 x.natAbs) W (HY.out.ext hW hS) (HX.out.ext hW hS) (z08 hS hW) HL.out.2 HLE.out HVL.out
 rw [z0d z0h,z0d z0h,← hn,← hnx,← hny] at hc2
 have HC2:=hid hc2
 clear hdx hdy hn hbx hbz hnx hny hrx hry hs hlt hc1 hc2 HCM
 go_enter Tryz.func71,Tryz.ntmps71
 go_wp2_with fail
 refine HC1.out.mono ?_
 rintro e w1 ⟨rfl,hx1⟩
 obtain ⟨p0,p1,p2,p3⟩:=old4 hx1
 obtain ⟨g0,g1,g2,g3⟩:=fr4 hx1
 have HX1:=hid hx1
 have HP:=hid (And.intro p0 (And.intro p1 (And.intro p2 p3)))
 clear hx1
 go_wp2_with fail
 have hsw:=zrq (HK.out.trans HX1.out) (Nat.le_refl _) (.bool bz) (.slice ay ny cy) (.bool bx) (.slice ax nx cx)
 have hq:=zkx (.bool bz) (.slice ay ny cy) (.bool bx) (.slice ax nx cx) HP.out.1 HP.out.2.1 HP.out.2.2.1 HP.out.2.2.2
 obtain ⟨r0,r1,f0,f1⟩:=zro HX1.out
 have hr0:=ziv (.bool bz) (.slice ay ny cy) (.bool bx) (.slice ax nx cx) r0 (show w.heap.size ≠ w.heap.size + 1 + 1 by omega) (show w.heap.size + 1 ≠ w.heap.size + 1 + 1 by omega)
 have hr1:=ziv (.bool bz) (.slice ay ny cy) (.bool bx) (.slice ax nx cx) r1 (show w.heap.size ≠ w.heap.size + 1 + 1 by omega) (show w.heap.size + 1 ≠ w.heap.size + 1 + 1 by omega)
 have hf0:=zfr (b:=w.heap.size) (.bool bz) (.slice ay ny cy) (.bool bx) (.slice ax nx cx) f0
 have hf1:=zfr (b:=w.heap.size) (.bool bz) (.slice ay ny cy) (.bool bx) (.slice ax nx cx) f1
 have hsz:=zn9 (w:=w1) (b:=w.heap.size) (.bool bz) (.slice ay ny cy) (.bool bx) (.slice ax nx cx)
 have HSW:=hid hsw
 have HQ:=hid hq
 have HR:=hid (And.intro hr0 hr1)
 have HF:=hid (And.intro hf0 hf1)
 have HZS:=hid hsz
 clear hsw hq r0 r1 f0 f1 hr0 hr1 hf0 hf1 hsz p0 p1 p2 p3 g0 g1 g2 g3
 obtain ⟨W0,hW0⟩:∃ W,W = z9i w1 w.heap.size (.bool bz) (.slice ay ny cy) (.bool bx) (.slice ax nx cx):=⟨_,rfl⟩
 rw [← hW0] at HSW HQ HR HF HZS
 refine (Calls.mono (by have:=HC2.out W0 HSW.out; rw [hW0] at this; exact this) ?_)
 rintro e w2 ⟨v2,rfl,hd,hx2⟩
 rw [← hW0] at hd hx2
 have q0:=hx2.cell HQ.out.1
 have q1:=hx2.cell HQ.out.2.1
 have r0:=hx2.cell HR.out.1
 have r1:=hx2.cell HR.out.2
 have hszw:w.heap.size + 1 + 1 < W0.heap.size:=by rw [HZS.out]; exact Nat.lt_of_lt_of_le HSZ.out HX1.out.size
 have f0:=hx2.free hszw HF.out.1
 have f1:=hx2.free hszw HF.out.2
 have HE:=hid (And.intro r0 r1)
 have HX2:=hid hx2
 have HSZ2:=hid hszw
 have HD:=hid hd
 obtain ⟨a1,n1,rfl⟩:=hd.form
 have hlen:=z5y n
 have hz:=zn6 (b:=bz) HD.out
 clear hd hx2 hW0 hszw
 by_cases h0:0 < n
 ·have hp:0 < (rep 10 n).length:=by simpa [h0] using hlen
  rw [show (bz && decide (0 < n)) = bz by simp [h0]] at hz
  have HZ:=hid hz
  clear hlen hz
  cases bz
  all_goals
   go_wp2
   have hd:=fun x y => z19 x y HE.out.1 HE.out.2
   refine bodyPost_ret (by simp [results,Tryz.results71,go_sem,(hd _ _).1,(hd _ _).2]; rfl) rfl ?_
   have hg:=fun x y => z6y (w0:=w) (b:=w.heap.size + 1 + 1) HZ.out HSW.out HX2.out (by omega) HSZ2.out x y
   exact ⟨_,rfl,(hg _ _).1,(hg _ _).2⟩
 ·obtain rfl:n = 0:=by omega
  rw [show (bz && decide (0 < 0)) = false by simp] at hz
  have HZ:=hid hz
  have hp:(rep 10 0).length = 0:=rfl
  clear hlen hz
  cases bz
  all_goals
   go_wp2
   have hd:=fun x y => z19 x y HE.out.1 HE.out.2
   refine bodyPost_ret (by simp [results,Tryz.results71,go_sem,(hd _ _).1,(hd _ _).2]; rfl) rfl ?_
   have hg:=fun x y => z6y (w0:=w) (b:=w.heap.size + 1 + 1) HZ.out HSW.out HX2.out (by omega) HSZ2.out x y
   exact ⟨_,rfl,(hg _ _).1,(hg _ _).2⟩
theorem zvz {S:Nat → Prop} (vx vy:Value) (x y:Int) (w:World) (hx:ZV S w vx x) (hy:ZV S w vy y) (hS:∀ k,S k → k < w.heap.size) (hrx:szZ x) (hry:szZ y) :
  Calls Tryz.prog 71 #[vx,vy] w fun e w' => ∃ v',e = .returned v' ∧ ZV (New w w') w' v' (x + y) ∧ Ext w w':=by
 by_cases hs:decide (x < 0) = decide (y < 0)
 ·exact zfq vx vy x y w hx hy hS hrx hry hs
 ·by_cases hge:y.natAbs ≤ x.natAbs
  ·exact zkw vx vy x y w hx hy hS hrx hry hs hge
  ·exact zky vx vy x y w hx hy hS hrx hry hs (by omega)
end
end Go.Proofs.YtdcijfhkfhhfjaaGreat
