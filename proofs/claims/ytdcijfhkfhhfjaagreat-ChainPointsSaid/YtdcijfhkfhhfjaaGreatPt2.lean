/- Long division of limbs: a multiple taken off, and given back. The sum of two numbers. Whole numbers as the program has them: made canonical, may they be, their sign. The sum of two whole numbers. The product of two numbers, limb by limb. Limbs shifted by less than a limb: to the left. Limbs shifted by less than a limb: to the right. The bits of a number that fits 32: 0 for 0 alone. The sign of a whole number. Which polynomials may be. What is appended: any source, nil, empty or not. Decimal digits in memory, as the document's numbers have them. Decimal digits out of limbs and back. -/
import Derived.WalkSpells
import Derived.Laws.AppendOwn
import Derived.Maps.AppendAt
import Derived.Test.YtdcijfhkfhhfjaaGreatPt1
set_option maxRecDepth 100000
set_option maxHeartbeats 16000000
namespace Go.Proofs.YtdcijfhkfhhfjaaGreat
section
open Go.RowKit
theorem zmp (t:Nat) (ht:t < 18446744073709551616):bits .and .u64 (t:Int) 4294967295 = ((t % 4294967296:Nat):Int):=by
 have h:=(bits_nat .u64 64 (by decide) z7e t 4294967295 (by omega) (by decide)).1
 rw [show ((4294967295:Nat):Int) = 4294967295 from rfl] at h
 rw [h]
 congr 1
 exact Nat.and_two_pow_sub_one_eq_mod t 32
theorem zao {w:World} {T:TypeId} {n g k:Nat} {o ps:List Nat} (h:w.rowIs g T n (rowU (putL o k ps))) (hk:k + ps.length < o.length) (z:Nat) :
  (w.setCell ⟨g,k + ps.length,none⟩ (.int .u32 (z:Nat))).rowIs g T n (rowU (putL o k (ps ++ [z]))):=by
 have h1:=z5d h (k + ps.length) z (by rw [zdv (by omega)]; exact hk)
 have e:(putL o k ps).set (k + ps.length) z = putL o k (ps ++ [z]):=by
  unfold putL
  have hl:(o.take k ++ ps).length = k + ps.length:=by rw [List.length_append,List.length_take]; omega
  rw [List.set_append,if_neg (by omega),hl,Nat.sub_self,List.drop_eq_getElem_cons hk,List.set_cons_zero,List.length_append,List.length_singleton]
  simp [Nat.add_assoc]
 rwa [e] at h1
theorem zut {o ps:List Nat} {k j:Nat} (hk:k + ps.length ≤ o.length) (hj:k + ps.length ≤ j):dg (putL o k ps) j = dg o j:=by
 unfold putL dg
 have hl:(o.take k ++ ps).length = k + ps.length:=by rw [List.length_append,List.length_take]; omega
 rw [List.getElem?_append_right (by omega),hl,List.getElem?_drop,show k + ps.length + (j - (k + ps.length)) = j by omega]
theorem zhm (w:World) (r:Option Nat):w.grownBy w r:=⟨rfl,rfl,rfl,Nat.le_refl _,fun _ _ _ => rfl⟩
theorem zfh {a w:World} {r:Option Nat} (h:a.grownBy w r) {p:Addr} (hp:r = some p.block) (v:Value):a.grownBy (w.setCell p v) r:=⟨h.os,h.tape,h.output,by rw [z07]; exact h.size,fun k hk hne => (Below.heap_setCell _ _ _ _ (fun e => hne (by rw [hp,e]))).trans (h.block k hk hne)⟩
theorem zmq (o:List Nat) (k:Nat):putL o k [] = o:=by simp [putL]
theorem zvk {S:Nat → Prop} {w:World} {g k n cap q:Nat} {o vs:List Nat} (vv:Value) (hrow:w.rowIs g 74 cap (rowU o)) (ho:o.length ≤ cap) (hol:∀ z ∈ o,z < B32) (hkn:k + n < o.length) (hv:U32s S w vv vs) (hS:∀ j,S j → j < w.heap.size ∧ j ≠ g) (lv:vs.length = n) (hq:q < B32) (hcap:cap ≤ 9223372036854775807) :
  Calls Tryz.prog 154 #[.slice (some ⟨g,k,none⟩) (n + 1) (n + 1),vv,.int .u64 (q:Nat)] w fun e w' => ∃ (ps:List Nat) (b:Nat),e = .returned (.bool (decide (b = 1))) ∧ b ≤ 1 ∧ ps.length = n + 1 ∧ (∀ z ∈ ps,z < B32) ∧ val B32 ps + q * val B32 vs = val B32 (z2p o k n) + B32 ^ (n + 1) * b ∧
   w'.rowIs g 74 cap (rowU (putL o k ps)) ∧ w.grownBy w' (some g) ∧ w'.heap.size = w.heap.size:=by
 have hnb:n + 1 ≤ 9223372036854775807:=by omega
 have HROW:=hid hrow
 have HOL:=hid hol
 have HKN:=hid (And.intro ho hkn)
 have HV:=hid hv
 have HQ:=hid hq
 have hlv:=hv.len_le
 obtain ⟨av,cv,rfl⟩:=hv.form
 rw [lv] at HV hlv ⊢
 have HLV:=hid lv
 clear hrow hol hv ho hq lv
 go_enter Tryz.func154,Tryz.ntmps154
 go_wp2
 go_loopw [7,8,14] (fun s7 s8 s14 wr => ∃ (i c b:Nat) (ps:List Nat),s7 = .int .u64 (c:Nat) ∧ s8 = .int .u64 (b:Nat) ∧ s14 = .int .i64 (i:Nat) ∧ i ≤ n + 1 ∧ Hid (c < 4294967296 ∧ b ≤ 1 ∧ (n < i → c = 0) ∧ ps.length = i ∧ (∀ z ∈ ps,z < B32) ∧ val B32 ps + q * val B32 (vs.take i) = val B32 ((z2p o k n).take i) + B32 ^ i * (b + c)) ∧
  wr.rowIs g 74 cap (rowU (putL o k ps)) ∧ w.grownBy wr (some g) ∧ wr.heap.size = w.heap.size) (fun _ _ s14 _ => n + 1 - (intOf s14).toNat)
 case atStart => exact ⟨0,0,0,[],rfl,rfl,rfl,Nat.zero_le _,hid ⟨by decide,by decide,fun h => rfl,rfl,by simp,by simp [val]⟩,by rw [zmq]; exact HROW.out,zhm _ _,rfl⟩
 case round =>
  obtain ⟨i,c,b,ps,rfl,rfl,rfl,hi,HI,hrow,hgb,hsz⟩:=hrel
  have HR:=hid hrow
  have HG:=hid (And.intro hgb hsz)
  clear hrow hgb hsz
  by_cases hlt:i < n + 1
  ·obtain ⟨u,hu⟩:∃ u,u = dg (z2p o k n) i:=⟨_,rfl⟩
   have hul:u < 4294967296:=by rw [hu,zb5 hlt]; exact zk4 (by decide) HOL.out _
   have hcu:wr.cell? ⟨g,k + i,none⟩ = some (.int .u32 (u:Nat)):=by
    have h1:=HR.out.cell (i:=k + i) (by have:=HKN.out; omega)
    rw [h1,hu,zb5 hlt]
    have h2:=zut (o:=o) (ps:=ps) (k:=k) (j:=k + i) (by have:=HI.out.2.2.2.1; omega) (by have:=HI.out.2.2.2.1; omega)
    show some (Value.int .u32 (dg (putL o k ps) (k + i):Nat)) = _
    rw [h2]
   have hfu:=HR.out.frozen (k + i)
   have HU:=hid hu
   by_cases hin:i < n
   ·obtain ⟨x,hx⟩:=z01 (l:=vs) (j:=i) (by rw [HLV.out]; exact hin)
    obtain ⟨b1,o1,rfl,-,hn1,hm1,-,hxl,hcx⟩:=(HV.out.to (S':=S) (fun j hj => HG.out.1.block j (hS j hj).1 (fun e => (hS j hj).2 (Option.some.inj e))) (fun _ h => h)).cellAt hx
    have HX:=hid (z0o hx)
    obtain ⟨P,hP⟩:∃ P:Nat,P = q * x:=⟨_,rfl⟩
    have hPl:P ≤ 4294967295 * 4294967295:=by rw [hP]; exact Nat.mul_le_mul (by have h:q < 4294967296:=HQ.out; omega) (by omega)
    have hw1:IntKind.u64.wrap ((q:Int) * (x:Int)) = (P:Int):=by
     have e:(q:Int) * (x:Int) = ((q * x:Nat):Int):=(Int.natCast_mul q x).symm
     rw [e,← hP]
     exact z0w (by omega)
    obtain ⟨t,ht⟩:∃ t:Nat,t = c + P:=⟨_,rfl⟩
    have htl:t < 18446744073709551616:=by have:=HI.out.1; omega
    have hw2:IntKind.u64.wrap ((c:Int) + (P:Int)) = (t:Int):=by rw [← Int.natCast_add,← ht]; exact z0w htl
    obtain ⟨lo,hlo⟩:∃ lo:Nat,lo = t % 4294967296:=⟨_,rfl⟩
    have hand:bits .and .u64 (t:Int) 4294967295 = (lo:Int):=by rw [zmp t htl,hlo]
    have HP:=hid hP
    have HT:=hid ht
    have HLO:=hid hlo
    have HTL:=hid htl
    have HUL:=hid hul
    clear hx hu hP hPl ht hlo htl hul
    obtain ⟨b',d,hb',hd,e1,e2,hbal⟩:∃ b' d:Nat,b' ≤ 1 ∧ d < 4294967296 ∧ IntKind.u64.wrap (IntKind.u64.wrap (IntKind.u64.wrap (u:Int) - (lo:Int)) - (b:Int)) / 9223372036854775808 = (b':Int) ∧ IntKind.u64.wrap (IntKind.u64.wrap (IntKind.u64.wrap (u:Int) - (lo:Int)) - (b:Int)) % 4294967296 = (d:Int) ∧ b + lo + d = u + 4294967296 * b':=by
     have h1:=HUL.out
     have h2:=HI.out.2.1
     have h3:lo < 4294967296:=by rw [HLO.out]; exact Nat.mod_lt _ (by decide)
     simp only [IntKind.wrap_u64]
     by_cases hs:lo + b ≤ u
     ·exact ⟨0,u - lo - b,by omega,by omega,by omega,by omega,by omega⟩
     ·exact ⟨1,u + 4294967296 - lo - b,by omega,by omega,by omega,by omega,by omega⟩
    go_wp2
    go_roundw
    case rel =>
     refine ⟨i + 1,t / 4294967296,b',ps ++ [d],congrArg (Value.int .u64) (by omega),rfl,by go_num,by omega,hid ⟨by have h1:=HTL.out; omega,hb',(fun h => by omega),by simp [HI.out.2.2.2.1],?_,?_⟩,?_,zfh HG.out.1 rfl _,by rw [z07]; exact HG.out.2⟩
     ·intro z hz
      rcases List.mem_append.1 hz with h | h
      ·exact HI.out.2.2.2.2.1 z h
      ·rw [List.mem_singleton.1 h]
       exact hd
     ·exact zir HI.out.2.2.2.1 HI.out.2.2.2.2.2 HX.out HU.out.symm (by
       have h1:=HP.out
       have h2:=HT.out
       have h3:=HLO.out
       show b + c + q * x + d = u + 4294967296 * (b' + t / 4294967296)
       omega)
     ·have h1:=zao HR.out (by have h2:=HI.out.2.2.2.1; have h3:=HKN.out; omega) d
      rwa [HI.out.2.2.2.1] at h1
    case measure => simp only [intOf]; omega
   ·obtain rfl:i = n:=by omega
    obtain ⟨t,ht⟩:∃ t:Nat,t = c:=⟨_,rfl⟩
    obtain ⟨lo,hlo⟩:∃ lo:Nat,lo = t % 4294967296:=⟨_,rfl⟩
    have htl:t < 18446744073709551616:=by have:=HI.out.1; omega
    have hand:bits .and .u64 (c:Int) 4294967295 = (lo:Int):=by rw [← ht,zmp t htl,hlo]
    have HX:Hid (dg vs i = 0):=hid (z2n (by rw [HLV.out]; exact Nat.le_refl _))
    have hc64:IntKind.u64.wrap (c:Int) = (c:Int):=z0w (by have:=HI.out.1; omega)
    have HT:=hid ht
    have HLO:=hid hlo
    have HTL:=hid htl
    have HUL:=hid hul
    have HC0:Hid (t / 4294967296 = 0):=hid (by have:=HI.out.1; omega)
    clear hu ht hlo htl hul
    obtain ⟨b',d,hb',hd,e1,e2,hbal⟩:∃ b' d:Nat,b' ≤ 1 ∧ d < 4294967296 ∧ IntKind.u64.wrap (IntKind.u64.wrap (IntKind.u64.wrap (u:Int) - (lo:Int)) - (b:Int)) / 9223372036854775808 = (b':Int) ∧ IntKind.u64.wrap (IntKind.u64.wrap (IntKind.u64.wrap (u:Int) - (lo:Int)) - (b:Int)) % 4294967296 = (d:Int) ∧ b + lo + d = u + 4294967296 * b':=by
     have h1:=HUL.out
     have h2:=HI.out.2.1
     have h3:lo < 4294967296:=by rw [HLO.out]; exact Nat.mod_lt _ (by decide)
     simp only [IntKind.wrap_u64]
     by_cases hs:lo + b ≤ u
     ·exact ⟨0,u - lo - b,by omega,by omega,by omega,by omega,by omega⟩
     ·exact ⟨1,u + 4294967296 - lo - b,by omega,by omega,by omega,by omega,by omega⟩
    go_wp2
    go_roundw
    case rel =>
     refine ⟨i + 1,t / 4294967296,b',ps ++ [d],congrArg (Value.int .u64) (by have:=HT.out; omega),rfl,by go_num,by omega,hid ⟨by have h1:=HTL.out; omega,hb',(fun h => HC0.out),by simp [HI.out.2.2.2.1],?_,?_⟩,?_,zfh HG.out.1 rfl _,by rw [z07]; exact HG.out.2⟩
     ·intro z hz
      rcases List.mem_append.1 hz with h | h
      ·exact HI.out.2.2.2.2.1 z h
      ·rw [List.mem_singleton.1 h]
       exact hd
     ·exact zir HI.out.2.2.2.1 HI.out.2.2.2.2.2 HX.out HU.out.symm (by
       have h2:=HT.out
       have h3:=HLO.out
       show b + c + q * 0 + d = u + 4294967296 * (b' + t / 4294967296)
       omega)
     ·have h1:=zao HR.out (by have h2:=HI.out.2.2.2.1; have h3:=HKN.out; omega) d
      rwa [HI.out.2.2.2.1] at h1
    case measure => simp only [intOf]; omega
  ·obtain rfl:i = n + 1:=by omega
   go_wp2
   all_goals
    go_ret
    obtain ⟨h1,h2,h3,h4,h5,h6⟩:=HI.out
    have hc0:=h3 (by omega)
    rw [hc0,Nat.add_zero,List.take_of_length_le (by rw [HLV.out]; omega),List.take_of_length_le (by rw [z40 HKN.out.2]; exact Nat.le_refl _)] at h6
    refine ⟨ps,b,?_,h2,h4,h5,h6,HR.out,HG.out⟩
    show Ending.returned (Value.bool ((b:Int) == 1)) = _
    rcases (show b = 0 ∨ b = 1 by omega) with rfl | rfl <;> rfl
theorem zxz {S:Nat → Prop} {w:World} {g k n cap:Nat} {o vs:List Nat} (vv:Value) (hrow:w.rowIs g 74 cap (rowU o)) (ho:o.length ≤ cap) (hol:∀ z ∈ o,z < B32) (hkn:k + n < o.length) (hv:U32s S w vv vs) (hS:∀ j,S j → j < w.heap.size ∧ j ≠ g) (lv:vs.length = n) (hcap:cap ≤ 9223372036854775807) :
  Calls Tryz.prog 155 #[.slice (some ⟨g,k,none⟩) (n + 1) (n + 1),vv] w fun e w' => ∃ ps:List Nat,e = .returned (.tuple #[]) ∧ ps.length = n + 1 ∧ (∀ z ∈ ps,z < B32) ∧ val B32 ps = (val B32 (z2p o k n) + val B32 vs) % B32 ^ (n + 1) ∧
   w'.rowIs g 74 cap (rowU (putL o k ps)) ∧ w.grownBy w' (some g) ∧ w'.heap.size = w.heap.size:=by
 have hnb:n + 1 ≤ 9223372036854775807:=by omega
 have HROW:=hid hrow
 have HOL:=hid hol
 have HKN:=hid (And.intro ho hkn)
 have HV:=hid hv
 have hlv:=hv.len_le
 obtain ⟨av,cv,rfl⟩:=hv.form
 rw [lv] at HV hlv ⊢
 have HLV:=hid lv
 clear hrow hol hv ho lv
 go_enter Tryz.func155,Tryz.ntmps155
 go_wp2
 go_loopw [4,8] (fun s4 s8 wr => ∃ (i c:Nat) (ps:List Nat),s4 = .int .u64 (c:Nat) ∧ s8 = .int .i64 (i:Nat) ∧ i ≤ n + 1 ∧ Hid (c ≤ 1 ∧ ps.length = i ∧ (∀ z ∈ ps,z < B32) ∧ val B32 ps + B32 ^ i * c = val B32 ((z2p o k n).take i) + val B32 (vs.take i)) ∧
  wr.rowIs g 74 cap (rowU (putL o k ps)) ∧ w.grownBy wr (some g) ∧ wr.heap.size = w.heap.size) (fun _ s8 _ => n + 1 - (intOf s8).toNat)
 case atStart => exact ⟨0,0,[],rfl,rfl,Nat.zero_le _,hid ⟨by decide,rfl,by simp,by simp [val]⟩,by rw [zmq]; exact HROW.out,zhm _ _,rfl⟩
 case round =>
  obtain ⟨i,c,ps,rfl,rfl,hi,HI,hrow,hgb,hsz⟩:=hrel
  have HR:=hid hrow
  have HG:=hid (And.intro hgb hsz)
  clear hrow hgb hsz
  by_cases hlt:i < n + 1
  ·obtain ⟨u,hu⟩:∃ u,u = dg (z2p o k n) i:=⟨_,rfl⟩
   have hul:u < 4294967296:=by rw [hu,zb5 hlt]; exact zk4 (by decide) HOL.out _
   have hcu:wr.cell? ⟨g,k + i,none⟩ = some (.int .u32 (u:Nat)):=by
    have h1:=HR.out.cell (i:=k + i) (by have:=HKN.out; omega)
    rw [h1,hu,zb5 hlt]
    have h2:=zut (o:=o) (ps:=ps) (k:=k) (j:=k + i) (by have:=HI.out.2.1; omega) (by have:=HI.out.2.1; omega)
    show some (Value.int .u32 (dg (putL o k ps) (k + i):Nat)) = _
    rw [h2]
   have hfu:=HR.out.frozen (k + i)
   have HU:=hid hu
   have HUL:=hid hul
   obtain ⟨P,hP⟩:∃ P:Nat,P = c + u:=⟨_,rfl⟩
   have hw1:IntKind.u64.wrap ((c:Int) + (u:Int)) = (P:Int):=by rw [← Int.natCast_add,← hP]; exact z0w (by have:=HI.out.1; omega)
   have hu64:IntKind.u64.wrap (u:Int) = (u:Int):=z0w (by omega)
   have HP:=hid hP
   clear hu hul hP
   by_cases hin:i < n
   ·obtain ⟨x,hx⟩:=z01 (l:=vs) (j:=i) (by rw [HLV.out]; exact hin)
    obtain ⟨b1,o1,rfl,-,hn1,hm1,-,hxl,hcx⟩:=(HV.out.to (S':=S) (fun j hj => HG.out.1.block j (hS j hj).1 (fun e => (hS j hj).2 (Option.some.inj e))) (fun _ h => h)).cellAt hx
    have HX:=hid (z0o hx)
    have hx64:IntKind.u64.wrap (x:Int) = (x:Int):=z0w (by omega)
    obtain ⟨t,ht⟩:∃ t:Nat,t = P + x:=⟨_,rfl⟩
    have htl:t < 18446744073709551616:=by have h1:=HI.out.1; have h2:=HUL.out; have h3:=HP.out; omega
    have hw2:IntKind.u64.wrap ((P:Int) + (x:Int)) = (t:Int):=by rw [← Int.natCast_add,← ht]; exact z0w htl
    have HT:=hid ht
    have HXL:=hid hxl
    clear hx hxl ht htl
    go_wp2
    go_roundw
    case rel =>
     refine ⟨i + 1,t / 4294967296,ps ++ [t % 4294967296],rfl,by go_num,by omega,hid ⟨by have h1:=HI.out.1; have h2:=HUL.out; have h3:=HP.out; have h4:=HT.out; have h5:=HXL.out; omega,by simp [HI.out.2.1],?_,?_⟩,?_,zfh HG.out.1 rfl _,by rw [z07]; exact HG.out.2⟩
     ·intro z hz
      rcases List.mem_append.1 hz with h | h
      ·exact HI.out.2.2.1 z h
      ·rw [List.mem_singleton.1 h]
       exact Nat.mod_lt _ (by decide)
     ·have h1:=zmm (B:=B32) HI.out.2.1 HI.out.2.2.2 HX.out HU.out.symm
      have h2:c + u + x = t:=by rw [HT.out,HP.out]
      rwa [h2] at h1
     ·have h1:=zao HR.out (by have h2:=HI.out.2.1; have h3:=HKN.out; omega) (t % 4294967296)
      rwa [HI.out.2.1] at h1
    case measure => simp only [intOf]; omega
   ·obtain rfl:i = n:=by omega
    have HX:Hid (dg vs i = 0):=hid (z2n (by rw [HLV.out]; exact Nat.le_refl _))
    obtain ⟨t,ht⟩:∃ t:Nat,t = P:=⟨_,rfl⟩
    have HT:Hid (t = P + 0):=hid ht
    have hc64:IntKind.u64.wrap (P:Int) = (P:Int):=z0w (by have h1:=HI.out.1; have h2:=HUL.out; have h3:=HP.out; omega)
    subst ht
    go_wp2
    go_roundw
    case rel =>
     refine ⟨i + 1,t / 4294967296,ps ++ [t % 4294967296],rfl,by go_num,by omega,hid ⟨by have h1:=HI.out.1; have h2:=HUL.out; have h3:=HP.out; have h4:=HT.out; omega,by simp [HI.out.2.1],?_,?_⟩,?_,zfh HG.out.1 rfl _,by rw [z07]; exact HG.out.2⟩
     ·intro z hz
      rcases List.mem_append.1 hz with h | h
      ·exact HI.out.2.2.1 z h
      ·rw [List.mem_singleton.1 h]
       exact Nat.mod_lt _ (by decide)
     ·have h1:=zmm (B:=B32) HI.out.2.1 HI.out.2.2.2 HX.out HU.out.symm
      have h2:c + u + 0 = t:=by rw [HT.out,HP.out]
      rwa [h2] at h1
     ·have h1:=zao HR.out (by have h2:=HI.out.2.1; have h3:=HKN.out; omega) (t % 4294967296)
      rwa [HI.out.2.1] at h1
    case measure => simp only [intOf]; omega
  ·obtain rfl:i = n + 1:=by omega
   go_wp2
   all_goals
    first | go_end0 | refine bodyPost_ret (results_none rfl _ _ _) rfl ?_
    obtain ⟨h1,h2,h3,h4⟩:=HI.out
    rw [List.take_of_length_le (by rw [z40 HKN.out.2]; exact Nat.le_refl _),List.take_of_length_le (by rw [HLV.out]; omega)] at h4
    have h5:=z1k (B:=B32) ps h3
    rw [h2] at h5
    refine ⟨ps,rfl,h2,h3,?_,HR.out,HG.out⟩
    rw [← h4,Nat.add_mul_mod_self_left,Nat.mod_eq_of_lt h5]
end
section
open Go.RowKit
theorem zkd {S:Nat → Prop} (va vb:Value) (xs ys:List Nat) (w:World) (ha:U32s S w va xs) (hb:U32s S w vb ys) (hS:∀ k,S k → k < w.heap.size) (hr:xs.length ≤ 50000000000000) (hle:ys.length ≤ xs.length) :
  Calls Tryz.prog 99 #[va,vb] w fun e w' => ∃ v',e = .returned v' ∧ U32s (New w w') w' v' (rep B32 (val B32 xs + val B32 ys)) ∧ Ext w w':=by
 have HA:=hid ha
 have HB:=hid hb
 obtain ⟨aa,ca,rfl⟩:=ha.form
 obtain ⟨ab,cb,rfl⟩:=hb.form
 clear ha hb
 have hmk:=run_make_row' (P:=Tryz.prog) 28 74 (.int .u32 0) 4 Tryz.underlying28 Tryz.infoU32 rfl .i64 .i64 (xs.length + 1) (by omega) (by omega) w
 rw [show ((xs.length + 1:Nat):Int) = (xs.length:Int) + 1 by omega] at hmk
 have hz:w.heap.size < (w.alloc (.cells (madeCells #[.int .u32 0] (xs.length + 1)) 74)).heap.size:=by simp
 have HR:=hid (zb2 w (xs.length + 1) 74)
 have HE:=hid (Ext.alloc (Ext.refl w) (.cells (madeCells #[.int .u32 0] (xs.length + 1)) 74))
 go_enter Tryz.func99,Tryz.ntmps99
 go_wp2
 go_loopw [6,21] (fun c i wr => ∃ (k cc:Nat) (o:List Nat),k ≤ xs.length + 1 ∧ i = .int .i64 k ∧ c = .int .u64 cc ∧ cc ≤ 1 ∧ o.length = k ∧ Hid (∀ z ∈ o,z < B32) ∧ wr.rowIs w.heap.size 74 (xs.length + 1) (rowU o) ∧ Ext w wr ∧
  val B32 o + B32 ^ k * cc = val B32 (xs.take k) + val B32 (ys.take k)) (fun _ i _ => xs.length + 1 - (intOf i).toNat)
 case atStart => exact ⟨0,0,[],Nat.zero_le _,rfl,rfl,by omega,rfl,hid (by simp),HR.out,HE.out,by simp [val]⟩
 case round =>
  obtain ⟨k,cc,o,hk,rfl,rfl,hcc,hol,HO,hrow,hx,hv⟩:=hrel
  by_cases hlt:k < xs.length
  ·obtain ⟨x,hx1⟩:=z01 hlt
   obtain ⟨b1,o1,rfl,-,hn1,hm1,-,hxb,hc1⟩:=(HA.out.to (Kept.ext hx hS) (fun _ h => h)).cellAt hx1
   have hcs:=hrow.cell (i:=k) (by omega)
   have hfs:=hrow.frozen k
   have HX1:=hid hx1
   have HROW:=hid hrow
   have HX:=hid hx
   have HV:=hid hv
   have HOL:=hid hol
   clear hx1 hrow hx hv hol
   by_cases hlt2:k < ys.length
   ·obtain ⟨y,hy1⟩:=z01 hlt2
    obtain ⟨b2,o2,rfl,-,hn2,hm2,-,hyb,hc2⟩:=(HB.out.to (Kept.ext HX.out hS) (fun _ h => h)).cellAt hy1
    have HY1:=hid hy1
    clear hy1
    go_wp2
    go_roundw
    case rel =>
     refine ⟨k + 1,(cc + (x + y)) / 4294967296,o ++ [(cc + (x + y)) % 4294967296],by omega,by go_num,congrArg (Value.int .u64) (by omega),by omega,by simp [HOL.out],?_,?_,HX.out.setCell (p:=⟨w.heap.size,k,none⟩) (Nat.le_refl _) _,?_⟩
     ·refine hid (fun z hz => ?_)
      rcases List.mem_append.1 hz with h | h
      ·exact HO.out z h
      ·rw [List.mem_singleton.1 h]
       exact Nat.mod_lt _ (by decide)
     ·have h1:=z2o HROW.out ((cc + (x + y)) % 4294967296)
      rw [HOL.out] at h1
      refine cast (congrArg (fun e => World.rowIs (World.setCell wr ⟨w.heap.size,k,none⟩ (Value.int .u32 e)) _ _ _ _) ?_) h1
      omega
     ·exact z3x HOL.out HV.out ((x + y)) (by rw [z0o HX1.out,z0o HY1.out])
    case measure => simp only [intOf]; omega
   ·go_wp2
    go_roundw
    case rel =>
     refine ⟨k + 1,(cc + (x + 0)) / 4294967296,o ++ [(cc + (x + 0)) % 4294967296],by omega,by go_num,congrArg (Value.int .u64) (by omega),by omega,by simp [HOL.out],?_,?_,HX.out.setCell (p:=⟨w.heap.size,k,none⟩) (Nat.le_refl _) _,?_⟩
     ·refine hid (fun z hz => ?_)
      rcases List.mem_append.1 hz with h | h
      ·exact HO.out z h
      ·rw [List.mem_singleton.1 h]
       exact Nat.mod_lt _ (by decide)
     ·have h1:=z2o HROW.out ((cc + (x + 0)) % 4294967296)
      rw [HOL.out] at h1
      refine cast (congrArg (fun e => World.rowIs (World.setCell wr ⟨w.heap.size,k,none⟩ (Value.int .u32 e)) _ _ _ _) ?_) h1
      omega
     ·exact z3x HOL.out HV.out ((x + 0)) (by rw [z0o HX1.out,z2n (l:=ys) (by omega)])
    case measure => simp only [intOf]; omega
  ·by_cases hlt3:k = xs.length
   ·have hcs:=hrow.cell (i:=k) (by omega)
    have hfs:=hrow.frozen k
    have HROW:=hid hrow
    have HX:=hid hx
    have HV:=hid hv
    have HOL:=hid hol
    have hge:ys.length ≤ k:=by omega
    have HK:=hid hlt3
    have hk2:k < xs.length + 1:=by omega
    have hk3:xs.length ≤ k:=by omega
    clear hrow hx hv hol hlt3
    go_wp2
    go_roundw
    case rel =>
     refine ⟨k + 1,(cc + (0 + 0)) / 4294967296,o ++ [(cc + (0 + 0)) % 4294967296],by omega,by go_num,congrArg (Value.int .u64) (by omega),by omega,by simp [HOL.out],?_,?_,HX.out.setCell (p:=⟨w.heap.size,k,none⟩) (Nat.le_refl _) _,?_⟩
     ·refine hid (fun z hz => ?_)
      rcases List.mem_append.1 hz with h | h
      ·exact HO.out z h
      ·rw [List.mem_singleton.1 h]
       exact Nat.mod_lt _ (by decide)
     ·have h1:=z2o HROW.out ((cc + (0 + 0)) % 4294967296)
      rw [HOL.out] at h1
      refine cast (congrArg (fun e => World.rowIs (World.setCell wr ⟨w.heap.size,k,none⟩ (Value.int .u32 e)) _ _ _ _) ?_) h1
      omega
     ·exact z3x HOL.out HV.out ((0 + 0)) (by rw [z2n (l:=xs) (by omega),z2n (l:=ys) (by omega)])
    case measure => simp only [intOf]; omega
   ·obtain rfl:k = xs.length + 1:=by omega
    have HX:=hid hx
    have HROW:=hid hrow
    have HV:=hid (zmc z00 HA.out.lt HB.out.lt hle hv)
    have HOL:=hid hol
    clear hx hrow hv hol
    have hu:U32s (fun k => k = w.heap.size) wr (.slice (some ⟨w.heap.size,0,none⟩) (xs.length + 1) (xs.length + 1)) o:=by
     have h1:=U32s.of_row HROW.out (by have:=HOL.out; omega) HO.out (by omega)
     rwa [HOL.out] at h1
    have HU:=hid hu
    clear hu
    go_wp2_with fail
    refine (z29 _ o _ HU.out).mono ?_
    rintro e w' ⟨v',rfl,hu,rfl⟩
    have H:=hid hu
    clear hu
    go_wp2
    all_goals
     go_ret
     refine ⟨_,rfl,?_,HX.out⟩
     rw [← HV.out]
     refine H.out.to (Kept.refl _ _) (fun k hk => ?_)
     subst hk
     exact ⟨Nat.le_refl _,HROW.out.lt⟩
theorem zke {S:Nat → Prop} (va vb:Value) (xs ys:List Nat) (w:World) (ha:U32s S w va xs) (hb:U32s S w vb ys) (hS:∀ k,S k → k < w.heap.size) (hr:ys.length ≤ 50000000000000) (hle:xs.length < ys.length) :
  Calls Tryz.prog 99 #[va,vb] w fun e w' => ∃ v',e = .returned v' ∧ U32s (New w w') w' v' (rep B32 (val B32 xs + val B32 ys)) ∧ Ext w w':=by
 have HB:=hid hb
 have HA:=hid ha
 obtain ⟨aa,ca,rfl⟩:=ha.form
 obtain ⟨ab,cb,rfl⟩:=hb.form
 clear ha hb
 have hmk:=run_make_row' (P:=Tryz.prog) 28 74 (.int .u32 0) 4 Tryz.underlying28 Tryz.infoU32 rfl .i64 .i64 (ys.length + 1) (by omega) (by omega) w
 rw [show ((ys.length + 1:Nat):Int) = (ys.length:Int) + 1 by omega] at hmk
 have hz:w.heap.size < (w.alloc (.cells (madeCells #[.int .u32 0] (ys.length + 1)) 74)).heap.size:=by simp
 have HR:=hid (zb2 w (ys.length + 1) 74)
 have HE:=hid (Ext.alloc (Ext.refl w) (.cells (madeCells #[.int .u32 0] (ys.length + 1)) 74))
 go_enter Tryz.func99,Tryz.ntmps99
 go_wp2
 go_loopw [6,21] (fun c i wr => ∃ (k cc:Nat) (o:List Nat),k ≤ ys.length + 1 ∧ i = .int .i64 k ∧ c = .int .u64 cc ∧ cc ≤ 1 ∧ o.length = k ∧ Hid (∀ z ∈ o,z < B32) ∧ wr.rowIs w.heap.size 74 (ys.length + 1) (rowU o) ∧ Ext w wr ∧
  val B32 o + B32 ^ k * cc = val B32 (ys.take k) + val B32 (xs.take k)) (fun _ i _ => ys.length + 1 - (intOf i).toNat)
 case atStart => exact ⟨0,0,[],Nat.zero_le _,rfl,rfl,by omega,rfl,hid (by simp),HR.out,HE.out,by simp [val]⟩
 case round =>
  obtain ⟨k,cc,o,hk,rfl,rfl,hcc,hol,HO,hrow,hx,hv⟩:=hrel
  by_cases hlt:k < ys.length
  ·obtain ⟨x,hx1⟩:=z01 hlt
   obtain ⟨b1,o1,rfl,-,hn1,hm1,-,hxb,hc1⟩:=(HB.out.to (Kept.ext hx hS) (fun _ h => h)).cellAt hx1
   have hcs:=hrow.cell (i:=k) (by omega)
   have hfs:=hrow.frozen k
   have HX1:=hid hx1
   have HROW:=hid hrow
   have HX:=hid hx
   have HV:=hid hv
   have HOL:=hid hol
   clear hx1 hrow hx hv hol
   by_cases hlt2:k < xs.length
   ·obtain ⟨y,hy1⟩:=z01 hlt2
    obtain ⟨b2,o2,rfl,-,hn2,hm2,-,hyb,hc2⟩:=(HA.out.to (Kept.ext HX.out hS) (fun _ h => h)).cellAt hy1
    have HY1:=hid hy1
    clear hy1
    go_wp2
    go_roundw
    case rel =>
     refine ⟨k + 1,(cc + (x + y)) / 4294967296,o ++ [(cc + (x + y)) % 4294967296],by omega,by go_num,congrArg (Value.int .u64) (by omega),by omega,by simp [HOL.out],?_,?_,HX.out.setCell (p:=⟨w.heap.size,k,none⟩) (Nat.le_refl _) _,?_⟩
     ·refine hid (fun z hz => ?_)
      rcases List.mem_append.1 hz with h | h
      ·exact HO.out z h
      ·rw [List.mem_singleton.1 h]
       exact Nat.mod_lt _ (by decide)
     ·have h1:=z2o HROW.out ((cc + (x + y)) % 4294967296)
      rw [HOL.out] at h1
      refine cast (congrArg (fun e => World.rowIs (World.setCell wr ⟨w.heap.size,k,none⟩ (Value.int .u32 e)) _ _ _ _) ?_) h1
      omega
     ·exact z3x HOL.out HV.out ((x + y)) (by rw [z0o HX1.out,z0o HY1.out])
    case measure => simp only [intOf]; omega
   ·go_wp2
    go_roundw
    case rel =>
     refine ⟨k + 1,(cc + (x + 0)) / 4294967296,o ++ [(cc + (x + 0)) % 4294967296],by omega,by go_num,congrArg (Value.int .u64) (by omega),by omega,by simp [HOL.out],?_,?_,HX.out.setCell (p:=⟨w.heap.size,k,none⟩) (Nat.le_refl _) _,?_⟩
     ·refine hid (fun z hz => ?_)
      rcases List.mem_append.1 hz with h | h
      ·exact HO.out z h
      ·rw [List.mem_singleton.1 h]
       exact Nat.mod_lt _ (by decide)
     ·have h1:=z2o HROW.out ((cc + (x + 0)) % 4294967296)
      rw [HOL.out] at h1
      refine cast (congrArg (fun e => World.rowIs (World.setCell wr ⟨w.heap.size,k,none⟩ (Value.int .u32 e)) _ _ _ _) ?_) h1
      omega
     ·exact z3x HOL.out HV.out ((x + 0)) (by rw [z0o HX1.out,z2n (l:=xs) (by omega)])
    case measure => simp only [intOf]; omega
  ·by_cases hlt3:k = ys.length
   ·have hcs:=hrow.cell (i:=k) (by omega)
    have hfs:=hrow.frozen k
    have HROW:=hid hrow
    have HX:=hid hx
    have HV:=hid hv
    have HOL:=hid hol
    have hge:xs.length ≤ k:=by omega
    have HK:=hid hlt3
    have hk2:k < ys.length + 1:=by omega
    have hk3:ys.length ≤ k:=by omega
    clear hrow hx hv hol hlt3
    go_wp2
    go_roundw
    case rel =>
     refine ⟨k + 1,(cc + (0 + 0)) / 4294967296,o ++ [(cc + (0 + 0)) % 4294967296],by omega,by go_num,congrArg (Value.int .u64) (by omega),by omega,by simp [HOL.out],?_,?_,HX.out.setCell (p:=⟨w.heap.size,k,none⟩) (Nat.le_refl _) _,?_⟩
     ·refine hid (fun z hz => ?_)
      rcases List.mem_append.1 hz with h | h
      ·exact HO.out z h
      ·rw [List.mem_singleton.1 h]
       exact Nat.mod_lt _ (by decide)
     ·have h1:=z2o HROW.out ((cc + (0 + 0)) % 4294967296)
      rw [HOL.out] at h1
      refine cast (congrArg (fun e => World.rowIs (World.setCell wr ⟨w.heap.size,k,none⟩ (Value.int .u32 e)) _ _ _ _) ?_) h1
      omega
     ·exact z3x HOL.out HV.out ((0 + 0)) (by rw [z2n (l:=ys) (by omega),z2n (l:=xs) (by omega)])
    case measure => simp only [intOf]; omega
   ·obtain rfl:k = ys.length + 1:=by omega
    have HX:=hid hx
    have HROW:=hid hrow
    have HV:=hid (zmc z00 HB.out.lt HA.out.lt (by omega) hv)
    have HOL:=hid hol
    clear hx hrow hv hol
    have hu:U32s (fun k => k = w.heap.size) wr (.slice (some ⟨w.heap.size,0,none⟩) (ys.length + 1) (ys.length + 1)) o:=by
     have h1:=U32s.of_row HROW.out (by have:=HOL.out; omega) HO.out (by omega)
     rwa [HOL.out] at h1
    have HU:=hid hu
    clear hu
    go_wp2_with fail
    refine (z29 _ o _ HU.out).mono ?_
    rintro e w' ⟨v',rfl,hu,rfl⟩
    have H:=hid hu
    clear hu
    go_wp2
    all_goals
     go_ret
     refine ⟨_,rfl,?_,HX.out⟩
     rw [Nat.add_comm (val B32 xs),← HV.out]
     refine H.out.to (Kept.refl _ _) (fun k hk => ?_)
     subst hk
     exact ⟨Nat.le_refl _,HROW.out.lt⟩
theorem zhn {S:Nat → Prop} (va vb:Value) (xs ys:List Nat) (w:World) (ha:U32s S w va xs) (hb:U32s S w vb ys) (hS:∀ k,S k → k < w.heap.size) (hr:xs.length ≤ 50000000000000) (hr2:ys.length ≤ 50000000000000) :
  Calls Tryz.prog 99 #[va,vb] w fun e w' => ∃ v',e = .returned v' ∧ U32s (New w w') w' v' (rep B32 (val B32 xs + val B32 ys)) ∧ Ext w w':=by
 by_cases h:xs.length < ys.length
 ·exact zke va vb xs ys w ha hb hS hr2 h
 ·exact zkd va vb xs ys w ha hb hS hr (by omega)
end
section
open Go.RowKit
def IntV (S:Nat → Prop) (w:World) (v:Value) (r:RInt):Prop:=∃ vm,v = .agg #[.bool r.neg,vm] ∧ U32s S w vm r.mag
theorem IntV.to {S S':Nat → Prop} {w w':World} {v:Value} {r:RInt} (h:IntV S w v r) (hk:Kept S w w') (hS:∀ k,S k → S' k):IntV S' w' v r:=by
 obtain ⟨vm,h1,h2⟩:=h
 exact ⟨vm,h1,h2.to hk hS⟩
def sg (b:Bool) (n:Nat):Int:=if b then -(n:Int) else (n:Int)
theorem zuu (b:Bool) (n:Nat):ofI (sg b n) = ⟨b && decide (0 < (rep B32 n).length),rep B32 n⟩:=by
 have h0:0 < (rep B32 n).length ↔ n ≠ 0:=by
  rw [List.length_pos_iff,Ne,z2d z00]
 unfold ofI sg
 cases b with
 | false => simp
 | true =>
  simp only [if_true,Int.natAbs_neg,Int.natAbs_natCast,Bool.true_and,RInt.mk.injEq,and_true]
  rw [decide_eq_decide,h0]
  omega
theorem Ext.new_cell {w W:World} {cs:Array Value} {T:TypeId} (h:Ext (w.alloc (.cells cs T)) W) {i:Nat} {v:Value} (hv:cs[i]? = some v):W.cell? ⟨w.heap.size,i,none⟩ = some v:=h.cell (z04 w cs T rfl hv)
theorem Ext.new_free {w W:World} {cs:Array Value} {T:TypeId} (h:Ext (w.alloc (.cells cs T)) W) (i:Nat):W.frozen? ⟨w.heap.size,i,none⟩ = false:=h.free (by simp) (z56 w cs T)
theorem z19 {w:World} {b:Nat} {u0 u1:Value} (x y:Value) (c0:w.cell? ⟨b,0,none⟩ = some u0) (c1:w.cell? ⟨b,1,none⟩ = some u1) :
  ((w.setCell ⟨b,0,none⟩ x).setCell ⟨b,1,none⟩ y).cell? ⟨b,0,none⟩ = some x ∧ ((w.setCell ⟨b,0,none⟩ x).setCell ⟨b,1,none⟩ y).cell? ⟨b,1,none⟩ = some y :=
 ⟨z09 (z1h c0) (ao (by decide)),z1h (z09 c1 (ao (by decide)))⟩
theorem Ext.set2 {a w:World} (h:Ext a w) {b:Nat} (hb:a.heap.size ≤ b) (x y:Value):Ext a ((w.setCell ⟨b,0,none⟩ x).setCell ⟨b,1,none⟩ y) :=
 (h.setCell (p:=⟨b,0,none⟩) hb x).setCell (p:=⟨b,1,none⟩) hb y
theorem Kept.set2 {S:Nat → Prop} {w:World} {b:Nat} (h:¬ S b) (x y:Value):Kept S w ((w.setCell ⟨b,0,none⟩ x).setCell ⟨b,1,none⟩ y) :=
 (Kept.setCell (a:=⟨b,0,none⟩) h x).trans (Kept.setCell (a:=⟨b,1,none⟩) h y)
theorem z2q {w:World} {b:Nat} (x y:Value):((w.setCell ⟨b,0,none⟩ x).setCell ⟨b,1,none⟩ y).heap.size = w.heap.size:=by rw [z07,z07]
theorem zd3 {S:Nat → Prop} (b:Bool) (v:Value) (zs:List Nat) (w:World) (h:U32s S w v zs) (hS:∀ k,S k → k < w.heap.size) (hr:zs.length ≤ 50000000000000) :
  Calls Tryz.prog 98 #[.bool b,v] w fun e w' => ∃ v',e = .returned v' ∧ IntV (New w w') w' v' (ofI (sg b (val B32 zs))) ∧ Ext w w':=by
 have H:=hid h
 obtain ⟨a,c,rfl⟩:=h.form
 clear h
 have HE:=hid (Ext.alloc (Ext.refl w) (.cells #[.bool false,.slice none 0 0] 30))
 go_enter Tryz.func98,Tryz.ntmps98
 go_wp2_with fail
 refine (z23 _ zs _ (H.out.to (Kept.ext HE.out hS) (fun _ h => h)) (fun k hk => Nat.lt_of_lt_of_le (hS k hk) HE.out.size) hr).mono ?_
 rintro e w1 ⟨v',rfl,hu,hx⟩
 generalize hn:val B32 zs = n at hu
 have HN:=hid hn
 have HX:=hid hx
 have c0:=hx.new_cell (i:=0) rfl
 have c1:=hx.new_cell (i:=1) rfl
 have f0:=hx.new_free 0
 have f1:=hx.new_free 1
 have HU:=hid hu
 obtain ⟨a',c',rfl⟩:=hu.form
 clear hn hu hx
 have HC:=hid (And.intro c0 c1)
 cases b
 all_goals
  go_wp2
  have hd:=fun x => z19 x (.slice a' (rep B32 n).length c') HC.out.1 HC.out.2
  refine bodyPost_ret (by simp [results,Tryz.results98,go_sem,(hd _).1,(hd _).2]; rfl) rfl ?_
  refine ⟨_,rfl,⟨_,by rw [zuu,HN.out]; rfl,?_⟩,(HE.out.trans HX.out).set2 (Nat.le_refl _) _ _⟩
  rw [zuu,HN.out]
  refine HU.out.to (Kept.set2 (fun h => ?_) _ _) (fun k hk => ⟨?_,?_⟩)
  ·have h1:=h.1
   rw [z02] at h1
   omega
  ·have h1:=hk.1
   rw [z02] at h1
   omega
  ·rw [z2q]
   exact hk.2
theorem z4x {S:Nat → Prop} (v:Value) (r:RInt) (w:World) (h:IntV S w v r) (hS:∀ k,S k → k < w.heap.size) :
  Calls Tryz.prog 45 #[v] w fun e w' => e = .returned (.bool (mayI r)) ∧ Ext w w':=by
 obtain ⟨ng,zs⟩:=r
 obtain ⟨vm,rfl,hu⟩:=h
 simp only at hu ⊢
 have hl:=hu.len_le
 have H:=hid hu
 obtain ⟨a,c,rfl⟩:=hu.form
 clear hu
 have HE:=hid (Ext.alloc (Ext.refl w) (.cells #[.bool ng,.slice a zs.length c] 30))
 by_cases h0:0 < zs.length
 ·obtain ⟨z,hz⟩:=z01 (show zs.length - 1 < zs.length by omega)
  obtain ⟨b,off,rfl,-,hn,hm,-,hzb,hc⟩:=(H.out.to (Kept.ext HE.out hS) (fun _ h => h)).cellAt hz
  have hR:mayI ⟨ng,zs⟩ = decide (z ≠ 0):=by
   unfold mayI
   rw [List.getLast?_eq_getElem?,hz]
  have HR:=hid hR
  clear hR hz
  go_enter Tryz.func45,Tryz.ntmps45
  go_wp2
  all_goals
   go_ret
   refine ⟨?_,HE.out⟩
   rw [HR.out]
   refine congrArg Ending.returned (congrArg Value.bool ?_)
   rw [Bool.eq_iff_iff]
   simp
 ·have HR:Hid (mayI ⟨ng,zs⟩ = !ng):=by
   obtain rfl:zs = []:=List.length_eq_zero_iff.1 (by omega)
   exact hid rfl
  have hnot:∀ (x:Bool) (w:World),(Op.unary .not (.bool x)).run Tryz.prog w = .ok (.bool (!x)) w:=fun _ _ => rfl
  have hb:(((zs.length:Nat):Int) == 0) = true:=by rw [beq_iff_eq]; omega
  go_enter Tryz.func45,Tryz.ntmps45
  go_wp2
  all_goals
   go_ret
   refine ⟨?_,HE.out⟩
   rw [HR.out]
   rfl
end
section
open Go.RowKit
theorem U32s.ext {S:Nat → Prop} {w W:World} {v:Value} {zs:List Nat} (h:U32s S w v zs) (hx:Ext w W) (hS:∀ k,S k → k < w.heap.size):U32s S W v zs:=h.to (Kept.ext hx hS) (fun _ h => h)
theorem z08 {S:Nat → Prop} {w W:World} (hS:∀ k,S k → k < w.heap.size) (hx:Ext w W):∀ k,S k → k < W.heap.size:=fun k hk => Nat.lt_of_lt_of_le (hS k hk) hx.size
theorem New.lt {w w':World}:∀ k,New w w' k → k < w'.heap.size:=fun _ h => h.2
theorem New.mono {a w w':World} (h:Ext a w):∀ k,New w w' k → New a w' k:=fun _ hk => ⟨Nat.le_trans h.size hk.1,hk.2⟩
theorem blk3 {w W:World} {c1 c2 c3:Array Value} {T1 T2 T3:TypeId} (h:Ext (((w.alloc (.cells c1 T1)).alloc (.cells c2 T2)).alloc (.cells c3 T3)) W) :
  (∀ i v,c1[i]? = some v → W.cell? ⟨w.heap.size,i,none⟩ = some v) ∧ (∀ i v,c2[i]? = some v → W.cell? ⟨w.heap.size + 1,i,none⟩ = some v) ∧ (∀ i v,c3[i]? = some v → W.cell? ⟨w.heap.size + 1 + 1,i,none⟩ = some v) ∧ ∀ i,W.frozen? ⟨w.heap.size + 1 + 1,i,none⟩ = false:=by
 have e2:Ext ((w.alloc (.cells c1 T1)).alloc (.cells c2 T2)) W:=(Ext.alloc (Ext.refl _) _).trans h
 have e1:Ext (w.alloc (.cells c1 T1)) W:=(Ext.alloc (Ext.refl _) _).trans e2
 refine ⟨fun i v hv => e1.new_cell hv,fun i v hv => ?_,fun i v hv => ?_,fun i => ?_⟩
 ·have:=e2.new_cell hv
  rwa [z02] at this
 ·have:=h.new_cell hv
  rwa [z02,z02] at this
 ·have:=h.new_free i
  rwa [z02,z02] at this
theorem Ext.drew {a w:World} (h:Ext a w):Ext a w.drew:=⟨h.os,h.tape,h.output,h.size,h.block⟩
theorem zkf {W:World} {a b c:Addr} {x y z:Value} (h1:W.cell? a = some x) (h2:W.cell? b = some y) (h3:W.cell? c = some z):W.drew.cell? a = some x ∧ W.drew.cell? b = some y ∧ W.drew.cell? c = some z :=
 ⟨by simpa using h1,by simpa using h2,by simpa using h3⟩
theorem z33 {w0 w1 w2:World} {b:Nat} {v:Value} {r:RInt} {vm:Value} (hv:v = .agg #[.bool r.neg,vm]) (hu:U32s (New w1 w2) w2 vm r.mag) (h01:Ext w0 w1) (h12:Ext w1 w2) (hb0:w0.heap.size ≤ b) (hb1:b < w1.heap.size) (x y:Value) :
  IntV (New w0 ((w2.setCell ⟨b,0,none⟩ x).setCell ⟨b,1,none⟩ y)) ((w2.setCell ⟨b,0,none⟩ x).setCell ⟨b,1,none⟩ y) v r ∧ Ext w0 ((w2.setCell ⟨b,0,none⟩ x).setCell ⟨b,1,none⟩ y):=by
 refine ⟨⟨vm,hv,hu.to (Kept.set2 (fun h => ?_) _ _) (fun k hk => ⟨Nat.le_trans h01.size hk.1,?_⟩)⟩,(h01.trans h12).set2 hb0 _ _⟩
 ·have:=h.1
  omega
 ·rw [z2q]
  exact hk.2
theorem z4h {S:Nat → Prop} (b:Bool) (v:Value) (n:Nat) (w:World) (h:U32s S w v (rep B32 n)) (hS:∀ k,S k → k < w.heap.size) (hr:(rep B32 n).length ≤ 50000000000000) :
  Calls Tryz.prog 98 #[.bool b,v] w fun e w' => ∃ v',e = .returned v' ∧ IntV (New w w') w' v' (ofI (sg b n)) ∧ Ext w w':=by
 have h1:=zd3 b v (rep B32 n) w h hS hr
 rwa [z0d z00] at h1
theorem z8b {a b k:Nat} (ha:(rep B32 a).length ≤ k) (hb:(rep B32 b).length ≤ k):(rep B32 (a + b)).length ≤ k + 1:=by
 refine z0f z00 _ _ ?_
 have h1:=z0y z00 a
 have h2:=z0y z00 b
 have h3:B32 ^ (rep B32 a).length ≤ B32 ^ k:=Nat.pow_le_pow_right (by decide) ha
 have h4:B32 ^ (rep B32 b).length ≤ B32 ^ k:=Nat.pow_le_pow_right (by decide) hb
 rw [Nat.pow_succ]
 generalize B32 ^ k = P at *
 have:P * 2 ≤ P * B32:=Nat.mul_le_mul_left _ (by decide)
 omega
theorem z1o {a b:Nat} (h:a ≤ b):(rep B32 a).length ≤ (rep B32 b).length:=z0f z00 _ _ (Nat.lt_of_le_of_lt h (z0y z00 b))
theorem z14 {zs:List Nat} (h:∀ z ∈ zs,z < B32):(rep B32 (val B32 zs)).length ≤ zs.length:=z0f z00 _ _ (z1k zs h)
theorem z6u {S:Nat → Prop} (vx vy:Value) (x y:RInt) (w:World) (hx:IntV S w vx x) (hy:IntV S w vy y) (hS:∀ k,S k → k < w.heap.size) (hr:x.mag.length ≤ 40000000000000) (hr2:y.mag.length ≤ 40000000000000) :
  Calls Tryz.prog 60 #[vx,vy] w fun e w' => ∃ v',e = .returned v' ∧ IntV (New w w') w' v' (ofI (valI x + valI y)) ∧ Ext w w':=by
 obtain ⟨xn,xs⟩:=x
 obtain ⟨yn,ys⟩:=y
 obtain ⟨vxm,rfl,hxu⟩:=hx
 obtain ⟨vym,rfl,hyu⟩:=hy
 simp only at hxu hyu hr hr2 ⊢
 have HX:=hid hxu
 have HY:=hid hyu
 obtain ⟨ax,cx,rfl⟩:=hxu.form
 obtain ⟨ay,cy,rfl⟩:=hyu.form
 clear hxu hyu
 have HK:=hid (Ext.alloc (Ext.alloc (Ext.alloc (Ext.refl w) (.cells #[.bool xn,.slice ax xs.length cx] 30)) (.cells #[.bool yn,.slice ay ys.length cy] 30)) (.cells #[.bool false,.slice none 0 0] 30))
 have HXK:=hid (HX.out.ext HK.out hS)
 have HYK:=hid (HY.out.ext HK.out hS)
 have HSK:=hid (z08 hS HK.out)
 have hsz:w.heap.size + 1 + 1 < (((w.alloc (.cells #[.bool xn,.slice ax xs.length cx] 30)).alloc (.cells #[.bool yn,.slice ay ys.length cy] 30)).alloc (.cells #[.bool false,.slice none 0 0] 30)).heap.size:=by simp
 have HSZ:=hid hsz
 clear hsz
 by_cases hxy:xn = yn
 ·have hb:(xn == yn) = true:=by rw [beq_iff_eq]; exact hxy
  have HQ:Hid (valI ⟨xn,xs⟩ + valI ⟨yn,ys⟩ = sg xn (val B32 xs + val B32 ys)):=hid (by
   subst hxy
   unfold valI sg
   cases xn <;> (simp; try omega))
  subst hxy
  obtain ⟨b1,b2,b3,b4⟩:=blk3 (Ext.refl (((w.alloc (.cells #[.bool xn,.slice ax xs.length cx] 30)).alloc (.cells #[.bool xn,.slice ay ys.length cy] 30)).alloc (.cells #[.bool false,.slice none 0 0] 30)))
  have c1:=b1 0 _ rfl
  have c2:=b1 1 _ rfl
  have c3:=b2 1 _ rfl
  clear b1 b2 b3 b4
  have S0:=zkf c1 c2 c3
  clear c1 c2 c3
  have HS0:=hid S0
  clear S0
  go_enter Tryz.func60,Tryz.ntmps60
  go_wp2
  have S0:=HS0.out
  have HL:Hid ((rep B32 (val B32 xs + val B32 ys)).length ≤ 50000000000000):=hid (Nat.le_trans (z8b (k:=40000000000000) (Nat.le_trans (z14 HX.out.lt) hr) (Nat.le_trans (z14 HY.out.lt) hr2)) (by decide))
  go_region_held3 (fun W => W.cell? ⟨w.heap.size,0,none⟩ = some (.bool xn) ∧ W.cell? ⟨w.heap.size,1,none⟩ = some (.slice ax xs.length cx) ∧ W.cell? ⟨w.heap.size + 1,1,none⟩ = some (.slice ay ys.length cy)) (first | exact S0 | exact S1 | exact S2 | exact ⟨z09 (z09 S2.1 (ab (by omega))) (ab (by omega)),z09 (z09 S2.2.1 (ab (by omega))) (ab (by omega)),z09 (z09 S2.2.2 (ab (by omega))) (ab (by omega))⟩)
   (first
    | (go_at_call 99; (with_reducible refine (zhn _ _ xs ys _ (HX.out.ext (HK.out.drew) hS) (HY.out.ext (HK.out.drew) hS) (z08 hS (HK.out.drew)) (by omega) (by omega)).mono ?_); rintro e w1 ⟨v1,rfl,hu1,hx1⟩; have S1:=And.intro (hx1.cell S0.1) (And.intro (hx1.cell S0.2.1) (hx1.cell S0.2.2)); have HX1:=hid hx1; have HU1:=hid hu1; obtain ⟨a1,n1,rfl⟩:=hu1.form; clear hx1 hu1)
    | (go_at_call 98; (with_reducible refine (z4h xn _ _ _ HU1.out New.lt HL.out).mono ?_); rintro e w2 ⟨v2,rfl,⟨vm2,rfl,hu2⟩,hx2⟩; have S2:=And.intro (hx2.cell S1.1) (And.intro (hx2.cell S1.2.1) (hx2.cell S1.2.2)); have HX2:=hid hx2; have HU2:=hid hu2; obtain ⟨a2,n2,rfl⟩:=hu2.form; obtain ⟨-,-,d3,d4⟩:=blk3 ((Ext.drew (Ext.refl _)).trans (HX1.out.trans hx2)); have e0:=d3 0 _ rfl; have e1:=d3 1 _ rfl; have HE:=hid (And.intro e0 e1); have f0:=d4 0; have f1:=d4 1; clear d3 d4 hx2 hu2))
  go_wp2
  have hd:=fun x y => z19 x y HE.out.1 HE.out.2
  refine bodyPost_ret (by simp [results,Tryz.results60,go_sem,(hd _ _).1,(hd _ _).2]; rfl) rfl ?_
  have hg:=z33 (w0:=w) (b:=w.heap.size + 1 + 1) rfl HU2.out (HK.out.drew.trans HX1.out) HX2.out (by omega) (Nat.lt_of_lt_of_le HSZ.out HX1.out.size) (.bool (ofI (sg xn (val B32 xs + val B32 ys))).neg) (.slice a2 (ofI (sg xn (val B32 xs + val B32 ys))).mag.length n2)
  rw [HQ.out]
  exact ⟨_,rfl,hg.1,hg.2⟩
 ·have hb:(xn == yn) = false:=by rw [beq_eq_false_iff_ne]; exact hxy
  obtain ⟨b1,b2,b3,b4⟩:=blk3 (Ext.refl (((w.alloc (.cells #[.bool xn,.slice ax xs.length cx] 30)).alloc (.cells #[.bool yn,.slice ay ys.length cy] 30)).alloc (.cells #[.bool false,.slice none 0 0] 30)))
  have c1:=b1 0 _ rfl
  have c2:=b1 1 _ rfl
  have c3:=b2 1 _ rfl
  have c4:=b2 0 _ rfl
  clear b1 b2 b3 b4
  by_cases hge:val B32 ys ≤ val B32 xs
  ·have HQ:Hid (valI ⟨xn,xs⟩ + valI ⟨yn,ys⟩ = sg xn (val B32 xs - val B32 ys)):=hid (by
    unfold valI sg
    cases xn <;> cases yn <;> first | (exact absurd rfl hxy) | (simp; omega))
   have HGE:=hid hge
   have HXY:=hid hxy
   clear hge hxy
   go_enter Tryz.func60,Tryz.ntmps60
   go_wp2_with fail
   refine (z67 _ _ xs ys _ HXK.out HYK.out HSK.out (by omega) HGE.out).mono ?_
   rintro e w1 ⟨v1,rfl,hu1,hx1⟩
   obtain ⟨g1,g2,-,-⟩:=blk3 hx1
   have k1:=g1 0 _ rfl
   clear g1 g2
   have HXX:=hid hx1
   have HU1:=hid hu1
   obtain ⟨a1,n1,rfl⟩:=hu1.form
   have HL:Hid ((rep B32 (val B32 xs - val B32 ys)).length ≤ 50000000000000):=hid (Nat.le_trans (Nat.le_trans (z1o (Nat.sub_le _ _)) (z14 HX.out.lt)) (by omega))
   clear hx1 hu1
   go_wp2_with fail
   refine (z4h xn _ _ _ HU1.out New.lt HL.out).mono ?_
   rintro e w2 ⟨v2,rfl,⟨vm2,rfl,hu2⟩,hx2⟩
   have HX2:=hid hx2
   have HU2:=hid hu2
   obtain ⟨a2,n2,rfl⟩:=hu2.form
   obtain ⟨-,-,d3,d4⟩:=blk3 (HXX.out.trans hx2)
   have e0:=d3 0 _ rfl
   have e1:=d3 1 _ rfl
   have HE:=hid (And.intro e0 e1)
   have f0:=d4 0
   have f1:=d4 1
   clear d3 d4 hx2 hu2
   go_wp2
   have hd:=fun x y => z19 x y HE.out.1 HE.out.2
   refine bodyPost_ret (by simp [results,Tryz.results60,go_sem,(hd _ _).1,(hd _ _).2]; rfl) rfl ?_
   have hg:=z33 (w0:=w) (b:=w.heap.size + 1 + 1) rfl HU2.out (HK.out.trans HXX.out) HX2.out (by omega) (Nat.lt_of_lt_of_le HSZ.out HXX.out.size) (.bool (ofI (sg xn (val B32 xs - val B32 ys))).neg) (.slice a2 (ofI (sg xn (val B32 xs - val B32 ys))).mag.length n2)
   rw [HQ.out]
   exact ⟨_,rfl,hg.1,hg.2⟩
  ·have HQ:Hid (valI ⟨xn,xs⟩ + valI ⟨yn,ys⟩ = sg yn (val B32 ys - val B32 xs)):=hid (by
    unfold valI sg
    cases xn <;> cases yn <;> first | (exact absurd rfl hxy) | (simp; omega))
   have HGE:=hid hge
   have HXY:=hid hxy
   clear hge hxy
   go_enter Tryz.func60,Tryz.ntmps60
   go_wp2_with fail
   refine (zka _ _ xs ys _ HXK.out HYK.out HSK.out (by have:=HGE.out; omega)).mono ?_
   rintro e w1 ⟨rfl,hx1⟩
   obtain ⟨g1,g2,-,-⟩:=blk3 hx1
   have k1:=g1 1 _ rfl
   have k2:=g2 1 _ rfl
   have k3:=g2 0 _ rfl
   clear g1 g2
   have HX1:=hid hx1
   clear hx1
   go_wp2_with fail
   refine (z67 _ _ ys xs _ (HY.out.ext (HK.out.trans HX1.out) hS) (HX.out.ext (HK.out.trans HX1.out) hS) (z08 hS (HK.out.trans HX1.out)) (by omega) (by have:=HGE.out; omega)).mono ?_
   rintro e w1' ⟨v1,rfl,hu1,hx1⟩
   obtain ⟨g1,g2,-,-⟩:=blk3 (HX1.out.trans hx1)
   have k4:=g2 0 _ rfl
   clear g1 g2
   have HXX:=hid (HX1.out.trans hx1)
   have HU1:=hid hu1
   obtain ⟨a1,n1,rfl⟩:=hu1.form
   have HL:Hid ((rep B32 (val B32 ys - val B32 xs)).length ≤ 50000000000000):=hid (Nat.le_trans (Nat.le_trans (z1o (Nat.sub_le _ _)) (z14 HY.out.lt)) (by omega))
   clear hx1 hu1
   go_wp2_with fail
   refine (z4h yn _ _ _ HU1.out New.lt HL.out).mono ?_
   rintro e w2 ⟨v2,rfl,⟨vm2,rfl,hu2⟩,hx2⟩
   have HX2:=hid hx2
   have HU2:=hid hu2
   obtain ⟨a2,n2,rfl⟩:=hu2.form
   obtain ⟨-,-,d3,d4⟩:=blk3 (HXX.out.trans hx2)
   have e0:=d3 0 _ rfl
   have e1:=d3 1 _ rfl
   have HE:=hid (And.intro e0 e1)
   have f0:=d4 0
   have f1:=d4 1
   clear d3 d4 hx2 hu2
   go_wp2
   have hd:=fun x y => z19 x y HE.out.1 HE.out.2
   refine bodyPost_ret (by simp [results,Tryz.results60,go_sem,(hd _ _).1,(hd _ _).2]; rfl) rfl ?_
   have hg:=z33 (w0:=w) (b:=w.heap.size + 1 + 1) rfl HU2.out (HK.out.trans HXX.out) HX2.out (by omega) (Nat.lt_of_lt_of_le HSZ.out HXX.out.size) (.bool (ofI (sg yn (val B32 ys - val B32 xs))).neg) (.slice a2 (ofI (sg yn (val B32 ys - val B32 xs))).mag.length n2)
   rw [HQ.out]
   exact ⟨_,rfl,hg.1,hg.2⟩
end
section
open Go.RowKit
theorem z9h (n k:Nat):dg (List.replicate n 0) k = 0:=by
 unfold dg
 rw [List.getElem?_replicate]
 split <;> rfl
theorem zis {l:List Nat} {k j z:Nat}:dg (l.set k z) j = if k = j ∧ k < l.length then z else dg l j:=by
 unfold dg
 rw [List.getElem?_set]
 by_cases h:k = j
 ·subst h
  by_cases h2:k < l.length
  ·simp [h2]
  ·simp [h2]
 ·simp [h]
theorem zit {l:List Nat} (h:∀ z ∈ l,z < B32) (k z:Nat) (hz:z < B32):∀ y ∈ l.set k z,y < B32:=fun y hy => by
 rcases List.mem_or_eq_of_mem_set hy with h1 | h1
 ·exact h y h1
 ·rw [h1]; exact hz
theorem zkg {o:List Nat} {i k c x y V0 Y:Nat} (hk:i + k < o.length) (h:val B32 o + B32 ^ (i + k) * c = V0 + B32 ^ i * (x * Y)) :
  val B32 (o.set (i + k) ((c + (x * y + dg o (i + k))) % B32)) + B32 ^ (i + (k + 1)) * ((c + (x * y + dg o (i + k))) / B32) = V0 + B32 ^ i * (x * (Y + B32 ^ k * y)):=by
 have h1:=zhj (B:=B32) o (i + k) ((c + (x * y + dg o (i + k))) % B32) hk
 generalize hs:c + (x * y + dg o (i + k)) = s at *
 have h2:s % B32 + B32 * (s / B32) = s:=Nat.mod_add_div _ _
 have e1:B32 ^ (i + (k + 1)) * (s / B32) = B32 ^ (i + k) * (B32 * (s / B32)):=by
  rw [← Nat.add_assoc,Nat.pow_succ,Nat.mul_assoc]
 have e2:B32 ^ i * (x * (Y + B32 ^ k * y)) = B32 ^ i * (x * Y) + B32 ^ (i + k) * (x * y):=by
  rw [Nat.mul_add,Nat.mul_add,Nat.pow_add]
  congr 1
  rw [Nat.mul_assoc,Nat.mul_left_comm x]
 have e3:B32 ^ (i + k) * s = B32 ^ (i + k) * (s % B32) + B32 ^ (i + k) * (B32 * (s / B32)):=by
  rw [← Nat.mul_add,h2]
 have e4:B32 ^ (i + k) * s = B32 ^ (i + k) * c + (B32 ^ (i + k) * (x * y) + B32 ^ (i + k) * dg o (i + k)):=by
  rw [← hs,Nat.mul_add,Nat.mul_add]
 rw [e1,e2]
 omega
theorem zmr {o:List Nat} {i c x V0:Nat} {xs ys:List Nat} (hx:xs[i]? = some x) (hi:i + ys.length < o.length) (h0:dg o (i + ys.length) = 0) (hV:V0 = val B32 (xs.take i) * val B32 ys) (h:val B32 o + B32 ^ (i + ys.length) * c = V0 + B32 ^ i * (x * val B32 ys)) :
  val B32 (o.set (i + ys.length) c) = val B32 (xs.take (i + 1)) * val B32 ys:=by
 have h1:=zhj (B:=B32) o (i + ys.length) c hi
 rw [h0] at h1
 have h2:=z3k (B:=B32) hx
 rw [h2,Nat.add_mul,← hV,Nat.mul_assoc]
 omega
theorem zms {x y d c:Nat} (hx:x < 4294967296) (hy:y < 4294967296) (hd:d < 4294967296) (hc:c < 4294967296):x * y ≤ 18446744065119617025 ∧ c + (x * y + d) ≤ 18446744073709551615:=by
 have h1:x * y ≤ 4294967295 * 4294967295:=Nat.mul_le_mul (by omega) (by omega)
 omega
theorem zkh {S:Nat → Prop} (va vb:Value) (xs ys:List Nat) (w:World) (ha:U32s S w va xs) (hb:U32s S w vb ys) (hS:∀ k,S k → k < w.heap.size) (hr:xs.length + ys.length ≤ 1000000000000) :
  Calls Tryz.prog 157 #[va,vb] w fun e w' => ∃ v',e = .returned v' ∧ U32s (New w w') w' v' (rep B32 (val B32 xs * val B32 ys)) ∧ Ext w w':=by
 have HA:=hid ha
 have HB:=hid hb
 have hla:=ha.len_le
 have hlb:=hb.len_le
 obtain ⟨aa,ca,rfl⟩:=ha.form
 obtain ⟨ab,cb,rfl⟩:=hb.form
 obtain ⟨n,hn⟩:∃ n,n = xs.length:=⟨_,rfl⟩
 obtain ⟨m,hm⟩:∃ n,n = ys.length:=⟨_,rfl⟩
 rw [← hn,← hm] at hr
 rw [← hn] at HA hla ⊢
 rw [← hm] at HB hlb ⊢
 have HNN:=hid hn
 have HMM:=hid hm
 clear ha hb hn hm
 have hmk:=run_make_row' (P:=Tryz.prog) 28 74 (.int .u32 0) 4 Tryz.underlying28 Tryz.infoU32 rfl .i64 .i64 (n + m) (by omega) (by omega) w
 rw [show ((n + m:Nat):Int) = (n:Int) + (m:Int) by omega] at hmk
 have HR:=hid (z5w w (n + m) 74)
 have HE:=hid (Ext.alloc (Ext.refl w) (.cells (madeCells #[.int .u32 0] (n + m)) 74))
 go_enter Tryz.func157,Tryz.ntmps157
 go_wp2
 go_loopw [19] (fun i wr => ∃ (k:Nat) (o:List Nat),k ≤ n ∧ i = .int .i64 k ∧ Hid (o.length = n + m) ∧ Hid (∀ z ∈ o,z < B32) ∧ wr.rowIs w.heap.size 74 (n + m) (rowU o) ∧ Ext w wr ∧ Hid (w.heap.size < wr.heap.size) ∧
  Hid (val B32 o = val B32 (xs.take k) * val B32 ys) ∧ Hid (∀ j,k + m ≤ j → dg o j = 0)) (fun i _ => n - (intOf i).toNat)
 case atStart => exact ⟨0,List.replicate (n + m) 0,Nat.zero_le _,rfl,hid (by simp),hid (fun z hz => by rw [(List.mem_replicate.1 hz).2]; decide),HR.out,HE.out,hid (by simp),hid (by rw [z5s]; simp [val]),hid (fun j _ => z9h _ _)⟩
 case round =>
  obtain ⟨k,o,hk,rfl,HOL,HO,hrow,hx,HGS,HV,HZ⟩:=hrel
  have HX:=hid hx
  have HROW:=hid hrow
  clear hrow
  by_cases hlt:k < n
  ·obtain ⟨x,hx1⟩:=z01 (l:=xs) (j:=k) (by rw [← HNN.out]; exact hlt)
   obtain ⟨b1,o1,rfl,-,hn1,hm1,-,hxb,hc1⟩:=(HA.out.to (Kept.ext hx hS) (fun _ h => h)).cellAt hx1
   have HX1:=hid hx1
   have HXB:=hid hxb
   clear hx hx1
   go_wp2
   obtain ⟨wo,rfl⟩:∃ wo:World,wo = wr:=⟨_,rfl⟩
   go_loopw [8,26] (fun c i wr => ∃ (j cc:Nat) (o2:List Nat),j ≤ m ∧ i = .int .i64 j ∧ c = .int .u64 cc ∧ cc < 4294967296 ∧ Hid (o2.length = n + m) ∧ Hid (∀ z ∈ o2,z < B32) ∧ wr.rowIs w.heap.size 74 (n + m) (rowU o2) ∧ Ext w wr ∧ Hid (w.heap.size < wr.heap.size) ∧
    Hid (val B32 o2 + B32 ^ (k + j) * cc = val B32 o + B32 ^ k * (x * val B32 (ys.take j))) ∧ Hid (∀ i,k + m ≤ i → dg o2 i = 0)) (fun _ i _ => m - (intOf i).toNat)
   case atStart => exact ⟨0,0,o,Nat.zero_le _,rfl,rfl,by omega,HOL,HO,HROW.out,HX.out,HGS,hid (by simp [val]),HZ⟩
   case round =>
    obtain ⟨j,cc,o2,hj,rfl,rfl,hcc,HOL2,HO2,hrow2,hx2,HGS2,HV2,HZ2⟩:=hrel
    have HX2:=hid hx2
    have HROW2:=hid hrow2
    by_cases hlt2:j < m
    ·obtain ⟨y,hy1⟩:=z01 (l:=ys) (j:=j) (by rw [← HMM.out]; exact hlt2)
     obtain ⟨b2,o3,rfl,-,hn2,hm2,-,hyb,hc2⟩:=(HB.out.to (Kept.ext hx2 hS) (fun _ h => h)).cellAt hy1
     have HY1:=hid hy1
     obtain ⟨t,ht⟩:∃ t,t = k + j:=⟨_,rfl⟩
     have hti:(k:Int) + (j:Int) = (t:Int):=by omega
     have htl:t < n + m:=by omega
     have hcs:=hrow2.cell (i:=t) htl
     have hfs:=hrow2.frozen t
     have hdl:dg o2 t < 4294967296:=zk4 (by decide) HO2.out t
     unfold rowU at hcs
     obtain ⟨d,hd⟩:∃ d,d = dg o2 t:=⟨_,rfl⟩
     rw [← hd] at hcs hdl
     have HD:=hid hd
     have HT:=hid ht
     obtain ⟨hp1,hp2⟩:=zms hxb hyb hdl hcc
     obtain ⟨p,hp⟩:∃ p,p = x * y:=⟨_,rfl⟩
     have hpi:(x:Int) * (y:Int) = (p:Int):=by rw [hp,Int.natCast_mul]
     rw [← hp] at hp1 hp2
     have HP:=hid hp
     clear hy1 hrow2 hx2 hd ht hp
     go_wp2
     go_roundw
     case rel =>
      have hmod:(cc + (p + d)) % 4294967296 < B32:=Nat.mod_lt _ (by decide)
      refine ⟨j + 1,(cc + (p + d)) / 4294967296,o2.set t ((cc + (p + d)) % 4294967296),by omega,by go_num,congrArg (Value.int .u64) (by omega),by omega,hid (by rw [List.length_set]; exact HOL2.out),hid (zit HO2.out t _ hmod),?_,HX2.out.setCell (p:=⟨w.heap.size,t,none⟩) (Nat.le_refl _) _,hid (by rw [z07]; exact HGS2.out),?_,?_⟩
      ·have h1:=z5d HROW2.out t ((cc + (p + d)) % 4294967296) (by rw [HOL2.out]; exact htl)
       refine cast (congrArg (fun e => World.rowIs (World.setCell wr ⟨w.heap.size,t,none⟩ (Value.int .u32 e)) _ _ _ _) ?_) h1
       omega
      ·have h1:=zkg (o:=o2) (i:=k) (k:=j) (c:=cc) (x:=x) (y:=y) (V0:=val B32 o) (Y:=val B32 (ys.take j)) (by rw [HOL2.out,← HT.out]; exact htl) HV2.out
       rw [← z3k HY1.out,← HP.out,← HT.out,← HD.out] at h1
       exact h1
      ·refine hid (fun i hi => ?_)
       rw [zis,if_neg (by have:=HT.out; omega)]
       exact HZ2.out i hi
     case measure => simp only [intOf]; omega
    ·obtain rfl:m = j:=by omega
     obtain ⟨t,ht⟩:∃ t,t = k + m:=⟨_,rfl⟩
     have hti:(k:Int) + (m:Int) = (t:Int):=by omega
     have htl:t < n + m:=by omega
     have hcs:=hrow2.cell (i:=t) htl
     have hfs:=hrow2.frozen t
     have hv3:val B32 (o2.set t cc) = val B32 (xs.take (k + 1)) * val B32 ys:=by
      have h1:=HV2.out
      rw [show ys.take m = ys by rw [HMM.out]; exact List.take_length] at h1
      have h2:=zmr (o:=o2) (i:=k) (c:=cc) (xs:=xs) (ys:=ys) HX1.out (by rw [HOL2.out,← HMM.out,← ht]; exact htl) (by rw [← HMM.out]; exact HZ2.out _ (Nat.le_refl _)) HV.out (by rw [← HMM.out]; exact h1)
      rw [← HMM.out,← ht] at h2
      exact h2
     have HV3:=hid hv3
     have HT:=hid ht
     have HCC:=hid hcc
     clear hrow2 hx2 hv3 ht
     go_wp2
     go_roundw
     case rel =>
      refine ⟨k + 1,o2.set t cc,by omega,by go_num,hid (by rw [List.length_set]; exact HOL2.out),hid (zit HO2.out t _ HCC.out),?_,HX2.out.setCell (p:=⟨w.heap.size,t,none⟩) (Nat.le_refl _) _,hid (by rw [z07]; exact HGS2.out),HV3,hid (fun i hi => ?_)⟩
      ·have h1:=z5d HROW2.out t cc (by rw [HOL2.out]; exact htl)
       refine cast (congrArg (fun e => World.rowIs (World.setCell wr ⟨w.heap.size,t,none⟩ (Value.int .u32 e)) _ _ _ _) ?_) h1
       omega
      ·rw [zis,if_neg (by have:=HT.out; omega)]
       exact HZ2.out i (by omega)
     case measure => simp only [intOf]; omega
  ·obtain rfl:n = k:=by omega
   have hv:val B32 o = val B32 xs * val B32 ys:=by
    have h1:=HV.out
    rwa [show xs.take n = xs by rw [HNN.out]; exact List.take_length] at h1
   have HVE:=hid hv
   have hu:U32s (fun k => k = w.heap.size) wr (.slice (some ⟨w.heap.size,0,none⟩) (n + m) (n + m)) o:=by
    have h1:=U32s.of_row HROW.out (by have:=HOL.out; omega) HO.out (by omega)
    rwa [HOL.out] at h1
   have hz:w.heap.size < wr.heap.size:=HGS.out
   have HC:=hid (z23 (S:=fun k => k = w.heap.size) _ o wr hu (fun k hk => by rw [hk]; exact hz) (by rw [HOL.out]; omega))
   clear hx hv hu hz
   go_wp2_with fail
   with_reducible refine HC.out.mono ?_
   rintro e w2 ⟨v2,rfl,hp2,hx2⟩
   rw [HVE.out] at hp2
   have HP2:=hid (hp2.to (S':=New w w2) (Kept.refl _ _) (fun k h => ⟨Nat.le_trans HX.out.size h.1,h.2⟩))
   have HX2:=hid (HX.out.trans hx2)
   clear hp2 hx2
   go_wp2
   all_goals
    go_ret
    exact ⟨_,rfl,HP2.out,HX2.out⟩
end
section
open Go.RowKit
theorem zmt (s:Nat) (hs:s < 32) (w:World):Calls Tryz.prog 166 #[.int .i64 (s:Nat)] w fun e w' => e = .returned (.bool true) ∧ w = w':=by
 have h1:(0:Int) ≤ (s:Int):=by omega
 have h2:(s:Int) ≤ 31:=by omega
 go_enter Tryz.func166,Tryz.ntmps166
 go_wp2
 all_goals
  go_ret
  exact ⟨congrArg (fun b => Ending.returned (Value.bool b)) (decide_eq_true (by omega)),rfl⟩
theorem zfi {s:Nat} (hs:s < 32):2 ^ (32 - s) * 2 ^ s = B32:=by
 rw [← Nat.pow_add,show 32 - s + s = 32 by omega]
theorem zra {x s c:Nat} (hx:x < B32) (hs:s < 32) (hc:c < 2 ^ s):c + x * 2 ^ s % B32 < B32 ∧ x * 2 ^ s / B32 < 2 ^ s ∧ x * 2 ^ s % B32 % 2 ^ s = 0:=by
 have hB:=zfi hs
 have hP:0 < 2 ^ s:=Nat.pow_pos (by decide)
 rw [← hB,Nat.mul_mod_mul_right,Nat.mul_div_mul_right _ _ hP]
 have hK:x % 2 ^ (32 - s) < 2 ^ (32 - s):=Nat.mod_lt _ (Nat.pow_pos (by decide))
 refine ⟨?_,?_,Nat.mul_mod_left _ _⟩
 ·have h1:(x % 2 ^ (32 - s) + 1) * 2 ^ s ≤ 2 ^ (32 - s) * 2 ^ s:=Nat.mul_le_mul_right _ hK
  rw [Nat.add_mul,Nat.one_mul] at h1
  omega
 ·refine Nat.div_lt_of_lt_mul ?_
  rw [hB]
  exact hx
theorem zy0 (s c m:Nat) (hs:s < 32) (hc:c < 2 ^ s) (hm:m < B32) (hd:m % 2 ^ s = 0):bits .or .u32 (c:Int) (m:Int) = ((c + m:Nat):Int):=by
 have hk:∀ n:Int,0 ≤ n → n < 2 ^ 32 → IntKind.u32.wrap n = n:=fun n h0 h1 => by rw [IntKind.wrap_u32]; omega
 have hc32:c < 2 ^ 32:=Nat.lt_of_lt_of_le hc (Nat.pow_le_pow_right (by decide) (by omega))
 have hm32:m < 2 ^ 32:=hm
 rw [(bits_nat .u32 32 (by decide) hk c m hc32 hm32).2,Nat.or_comm]
 have h:=bits_join .u32 32 (by decide) hk s (m:Int) (c:Int) (by omega) (by exact_mod_cast hd) (by exact_mod_cast hm32) (by omega) (by exact_mod_cast hc) (by exact_mod_cast hc32)
 rw [(bits_nat .u32 32 (by decide) hk m c hm32 hc32).2] at h
 rw [h]
 omega
theorem z8t {o o':List Nat} (h:∀ j,dg o j = dg o' j):rowU o = rowU o':=funext fun j => by unfold rowU; rw [h]
theorem zho (o:List Nat) (z j:Nat):dg (o ++ [z]) j = if j < o.length then dg o j else if j = o.length then z else 0:=by
 unfold dg
 rw [List.getElem?_append]
 split
 ·rfl
 ·rename_i h
  split
  ·rename_i h2
   rw [h2,Nat.sub_self]
   rfl
  ·rename_i h2
   rw [List.getElem?_eq_none (by simp; omega)]
   rfl
theorem zmu {B:Nat} (hB:0 < B) (l:List Nat) (hl:∀ d ∈ l,d < B) (j:Nat):dg l j = val B l / B ^ j % B:=by
 induction l generalizing j with
 | nil => simp [dg,val]
 | cons d l ih =>
  have hd:=hl d (List.mem_cons_self ..)
  cases j with
  | zero =>
   show d = (d + B * val B l) / B ^ 0 % B
   rw [Nat.pow_zero,Nat.div_one,Nat.add_mul_mod_self_left,Nat.mod_eq_of_lt hd]
  | succ j =>
   show dg l j = (d + B * val B l) / B ^ (j + 1) % B
   rw [ih (fun z hz => hl z (List.mem_cons_of_mem _ hz)) j,Nat.pow_succ,Nat.mul_comm (B ^ j) B,← Nat.div_div_eq_div_mul,Nat.add_mul_div_left _ _ hB,Nat.div_eq_of_lt hd,Nat.zero_add]
theorem zuv {o:List Nat} (ho:∀ z ∈ o,z < B32) (n:Nat) (hn:val B32 o = n) (j:Nat):dg o j = dg (rep B32 n) j:=by
 rw [zmu (by decide) _ ho,zmu (by decide) _ (z3q z00 n),z0d z00,hn]
theorem ziu (zs:List Nat) (hl:∀ z ∈ zs,z < B32) {k:Nat} (ht:z2m zs k = z2m zs zs.length):z2m zs k = (rep B32 (val B32 zs)).length:=by
 rw [← z5r z00 zs hl,← List.take_length (l:=zs),← z4u zs _ (Nat.le_refl _),List.take_length,List.length_take,ht]
 have:=zm9 zs zs.length
 omega
theorem zfj {S:Nat → Prop} (a:Option Addr) (cap:Nat) (zs:List Nat) (w:World) (h:U32s S w (.slice a zs.length cap) zs) :
  Calls Tryz.prog 113 #[.slice a zs.length cap] w fun e w' => e = .returned (.slice a (rep B32 (val B32 zs)).length cap) ∧ w = w':=by
 have hl:=h.len_le
 have H:=hid h
 clear h
 go_enter Tryz.func113,Tryz.ntmps113
 go_wp2
 go_loop [0] (fun x => ∃ k:Nat,k ≤ zs.length ∧ x = .slice a k cap ∧ z2m zs k = z2m zs zs.length) (fun x => z1i x)
 case atStart => exact ⟨zs.length,Nat.le_refl _,rfl,rfl⟩
 case round =>
  obtain ⟨k,hk,rfl,ht⟩:=hrel
  cases k with
  | zero =>
   have HT:=hid ht
   clear ht
   go_wp2
   all_goals
    go_ret
    refine ⟨?_,rfl⟩
    rw [← ziu zs H.out.lt HT.out]
    rfl
  | succ k =>
   obtain ⟨z,hz⟩:=z01 (show k < zs.length by omega)
   obtain ⟨b,off,cap',hv,hcap,hmax,hzb,hcell⟩:=H.out.at hz
   obtain ⟨rfl,-,rfl⟩:a = some ⟨b,off,none⟩ ∧ True ∧ cap = cap':=by simpa using hv
   have HT:=hid ht
   have HZ:=hid hz
   clear ht hz hv
   by_cases h0:z = 0
   ·have hb:((z:Int) == 0) = true:=by simpa using h0
    have H0:=hid h0
    clear h0
    go_wp2
    go_round
    case rel => exact ⟨k,by omega,rfl,by rw [← HT.out,z2m,HZ.out,H0.out,if_pos rfl]⟩
    case measure => simp only [z1i]; omega
   ·have hb:((z:Int) == 0) = false:=by simpa using h0
    have H0:=hid h0
    clear h0
    go_wp2
    all_goals
     go_ret
     refine ⟨?_,rfl⟩
     have h2:z2m zs (k + 1) = k + 1:=by rw [z2m,HZ.out,if_neg (by simpa using H0.out)]
     rw [← ziu zs H.out.lt HT.out,h2]
     rfl
theorem zmv {S:Nat → Prop} (v:Value) (zs:List Nat) (s:Nat) (w:World) (h:U32s S w v zs) (hS:∀ k,S k → k < w.heap.size) (hr:zs.length ≤ 1000000000000) (hs:s < 32) :
  Calls Tryz.prog 152 #[v,.int .i64 (s:Nat)] w fun e w' => ∃ g,e = .returned (.tuple #[.slice (some ⟨g,0,none⟩) (rep B32 (val B32 zs * 2 ^ s)).length ((rep B32 (val B32 zs)).length + 1),.int .i64 0]) ∧ w.heap.size ≤ g ∧ g < w'.heap.size ∧
   w'.rowIs g 74 ((rep B32 (val B32 zs)).length + 1) (rowU (rep B32 (val B32 zs * 2 ^ s))) ∧ Ext w w':=by
 have hle:(rep B32 (val B32 zs)).length ≤ zs.length:=z0f z00 _ _ (z1k zs h.lt)
 have H:=hid h
 obtain ⟨a,cap,rfl⟩:=h.form
 clear h
 have CM:=hid (zmt s hs w)
 go_enter Tryz.func152,Tryz.ntmps152
 go_wp2_with fail
 refine CM.out.mono ?_
 rintro e w1 ⟨rfl,rfl⟩
 go_wp2_with fail
 refine (z29 _ zs _ H.out).mono ?_
 rintro e w' ⟨v',rfl,hu,rfl⟩
 have hx1:((s:Int)).tdiv 32 = 0:=by rw [Int.tdiv_eq_ediv_of_nonneg (by omega)]; omega
 have hx2:((s:Int)).tmod 32 = (s:Int):=by rw [Int.tmod_eq_emod_of_nonneg (by omega)]; omega
 obtain ⟨L,hL⟩:∃ L,L = (rep B32 (val B32 zs)).length:=⟨_,rfl⟩
 have HU:=hid hu
 obtain ⟨a',c',rfl⟩:=hu.form
 rw [← hL] at HU hle ⊢
 have hmk:=run_make_row' (P:=Tryz.prog) 28 74 (.int .u32 0) 4 Tryz.underlying28 Tryz.infoU32 rfl .i64 .i64 (L + 1) (by omega) (by omega) w
 rw [show ((L + 1:Nat):Int) = (L:Int) + 1 by omega] at hmk
 obtain ⟨V,hV⟩:∃ V,V = val B32 zs:=⟨_,rfl⟩
 rw [← hV] at HU hL
 have HL:=hid hL
 have HLE:=hid hle
 have HV:=hid hV
 have HZ0:=hid (z5w w (L + 1) 74)
 have HX0:=hid (Ext.alloc (Ext.refl w) (.cells (madeCells #[.int .u32 0] (L + 1)) 74))
 clear hu hL hV
 go_wp2
 go_loopw [24] (fun s24 wr => ∃ (i c:Nat) (o:List Nat),s24 = .int .i64 (i:Nat) ∧ i ≤ L ∧ Hid (c < 2 ^ s ∧ o.length = i ∧ (∀ z ∈ o,z < B32) ∧ val B32 o + B32 ^ i * c = val B32 ((rep B32 V).take i) * 2 ^ s) ∧
  wr.rowIs w.heap.size 74 (L + 1) (rowU (o ++ [c])) ∧ Ext w wr) (fun s24 _ => L - (intOf s24).toNat)
 case atStart =>
  refine ⟨0,0,[],rfl,Nat.zero_le _,hid ⟨Nat.pow_pos (by decide),rfl,by simp,by simp [val]⟩,?_,HX0.out⟩
  have e:rowU ([] ++ [0]) = rowU (List.replicate (L + 1) 0):=z8t fun j => by rw [z9h,zho]; simp
  rw [e]
  exact HZ0.out
 case round =>
  obtain ⟨i,c,o,rfl,hi,HI,hrow,hx⟩:=hrel
  have HR:=hid hrow
  have HX:=hid hx
  by_cases hlt:i < L
  ·obtain ⟨x,hx1⟩:=z01 (l:=rep B32 V) (j:=i) (by rw [← HL.out]; exact hlt)
   obtain ⟨b1,o1,rfl,-,hn1,hm1,-,hxb,hc1⟩:=(HU.out.to (Kept.ext hx hS) (fun _ h => h)).cellAt hx1
   have hc2:wr.cell? ⟨w.heap.size,i,none⟩ = some (.int .u32 (c:Nat)):=by
    have h1:=hrow.cell (i:=i) (by omega)
    rw [h1]
    show some (Value.int .u32 (dg (o ++ [c]) i:Nat)) = _
    rw [zho,if_neg (by have:=HI.out.2.1; omega),if_pos HI.out.2.1.symm]
   have hf2:=hrow.frozen i
   have hc3:wr.cell? ⟨w.heap.size,i + 1,none⟩ = some (.int .u32 0):=by
    have h1:=hrow.cell (i:=i + 1) (by omega)
    rw [h1]
    show some (Value.int .u32 (dg (o ++ [c]) (i + 1):Nat)) = _
    rw [zho,if_neg (by have:=HI.out.2.1; omega),if_neg (by have:=HI.out.2.1; omega)]
    rfl
   have hf3:=hrow.frozen (i + 1)
   obtain ⟨q1,q2,q3⟩:=zra hxb hs HI.out.1
   obtain ⟨t,ht⟩:∃ t,t = x * 2 ^ s:=⟨_,rfl⟩
   rw [← ht] at q1 q2 q3
   have htl:t < 18446744073709551616:=by
    have h1:x * 2 ^ s < 4294967296 * 2 ^ s:=Nat.mul_lt_mul_of_pos_right hxb (Nat.pow_pos (by decide))
    have h2:2 ^ s < 2 ^ 32:=Nat.pow_lt_pow_right (by decide) hs
    have h3:(2:Nat) ^ 32 = 4294967296:=by decide
    omega
   have hsh:IntKind.u64.wrap ((x:Int) * 2 ^ s) = (t:Int):=by
    have e:(x:Int) * 2 ^ s = ((x * 2 ^ s:Nat):Int):=by push_cast; rfl
    rw [e,← ht]
    exact z0w htl
   obtain ⟨lo,hlo⟩:∃ lo,lo = t % B32:=⟨_,rfl⟩
   obtain ⟨h,hh⟩:∃ h,h = t / B32:=⟨_,rfl⟩
   rw [← hlo] at q1 q3
   rw [← hh] at q2
   have hlo':(t:Int) % 4294967296 = (lo:Int):=by rw [hlo]; rfl
   have hhi':(t:Int) / 4294967296 = (h:Int):=by rw [hh]; rfl
   have hh2:(h:Int) % 4294967296 = (h:Int):=by
    have h1:h < 4294967296:=by rw [hh]; show t / 4294967296 < 4294967296; omega
    omega
   have hor:bits .or .u32 (c:Int) (lo:Int) = ((c + lo:Nat):Int):=zy0 s c lo hs HI.out.1 (by omega) q3
   have HQ:=hid (And.intro q1 q2)
   have HT:=hid (And.intro ht (And.intro hlo hh))
   have HX1:=hid hx1
   have HXB:=hid hxb
   have hx64:IntKind.u64.wrap (x:Int) = (x:Int):=z0w (Nat.lt_trans hxb (by decide))
   clear hrow hx q1 q2 q3 ht hlo hh hx1 htl hxb
   go_wp2
   obtain ⟨HI1,HI2,HI3,HI4⟩:=HI.out
   refine ⟨⟨i + 1,h,o ++ [c + lo],rfl,by omega,hid ⟨HQ.out.2,by simp [HI2],?_,?_⟩,?_,?_⟩,?_⟩
   ·intro z hz
    rcases List.mem_append.1 hz with h1 | h1
    ·exact HI3 z h1
    ·rw [List.mem_singleton.1 h1]; exact HQ.out.1
   ·rw [z57,HI2,z3k HX1.out,Nat.add_mul,← HI4,Nat.mul_assoc,← HT.out.1]
    have h3:t = lo + B32 * h:=by rw [HT.out.2.1,HT.out.2.2]; exact (Nat.mod_add_div t B32).symm
    rw [h3,Nat.pow_succ,Nat.mul_add,Nat.mul_add,Nat.mul_assoc]
    omega
   ·have h1:=z5d HR.out i (c + lo) (by simp; omega)
    have e:(o ++ [c]).set i (c + lo) = o ++ [c + lo]:=by rw [← HI2]; simp
    rw [e] at h1
    have h2:=z2o h1 h
    have e2:(o ++ [c + lo]).length = i + 1:=by simp [HI2]
    rw [e2] at h2
    have e3:((c + lo:Nat):Int) = (c:Int) + (lo:Int):=by push_cast; rfl
    rw [e3] at h2
    exact h2
   ·exact (HX.out.setCell (Nat.le_refl _) _).setCell (Nat.le_refl _) _
   ·simp only [intOf]; omega
  ·obtain rfl:i = L:=by omega
   obtain ⟨HI1,HI2,HI3,HI4⟩:=HI.out
   have hol:∀ z ∈ o ++ [c],z < B32:=by
    intro z hz
    rcases List.mem_append.1 hz with h1 | h1
    ·exact HI3 z h1
    ·rw [List.mem_singleton.1 h1]
     exact Nat.lt_of_lt_of_le HI1 (show 2 ^ s ≤ 2 ^ 32 from Nat.pow_le_pow_right (by decide) (by omega))
   have hval:val B32 (o ++ [c]) = V * 2 ^ s:=by
    rw [z57,HI2,HI4,HL.out,List.take_length,z0d z00]
   have hu:U32s (fun k => k = w.heap.size) wr (.slice (some ⟨w.heap.size,0,none⟩) (o ++ [c]).length (i + 1)) (o ++ [c]):=U32s.of_row hrow (by simp; omega) hol (by omega)
   have CS:=hid (zfj _ _ _ _ hu)
   have e2:(o ++ [c]).length = i + 1:=by simp [HI2]
   rw [e2,hval] at CS
   have HS:Hid (wr.rowIs w.heap.size 74 (i + 1) (rowU (rep B32 (V * 2 ^ s)))):=hid (by
    rw [← z8t (zuv hol _ hval)]
    exact hrow)
   clear hrow hx HI1 HI2 HI3 HI4 hol hval hu e2
   go_wp2_with fail
   refine CS.out.mono ?_
   rintro e w' ⟨rfl,rfl⟩
   go_wp2
   all_goals
    go_ret2
    have hl:=HL.out
    have hs2:=HS.out
    rw [HV.out] at hl hs2
    rw [← hl,← HV.out]
    rw [← HV.out] at hs2
    exact ⟨_,rfl,Nat.le_refl _,HS.out.lt,hs2,HX.out⟩
end
section
open Go.RowKit
theorem zfk {N s i x y r:Nat} (hs:s < 32) (h:N / B32 ^ i = x + B32 * (y + B32 * r)):N / 2 ^ s / B32 ^ i % B32 = (x + B32 * y) / 2 ^ s % B32:=by
 have hB:=zfi hs
 have hP:0 < 2 ^ s:=Nat.pow_pos (by decide)
 have e:N / 2 ^ s / B32 ^ i = N / B32 ^ i / 2 ^ s:=by rw [Nat.div_div_eq_div_mul,Nat.div_div_eq_div_mul,Nat.mul_comm]
 have e2:x + B32 * (y + B32 * r) = (x + B32 * y) + 2 ^ s * (2 ^ (32 - s) * (B32 * r)):=by
  rw [Nat.mul_add,← Nat.mul_assoc (2 ^ s),Nat.mul_comm (2 ^ s),hB]
  omega
 rw [e,h,e2,Nat.add_mul_div_left _ _ hP,show 2 ^ (32 - s) * (B32 * r) = B32 * (2 ^ (32 - s) * r) from Nat.mul_left_comm _ _ _,Nat.add_mul_mod_self_left]
theorem zrb {M i d:Nat} {o:List Nat} (hv:val B32 o = M % B32 ^ i) (ho:o.length = i) (hd:d = M / B32 ^ i % B32):val B32 (o ++ [d]) = M % B32 ^ (i + 1):=by
 rw [z57,ho,hv,hd,Nat.pow_succ,Nat.mod_mul]
theorem zrc (l:List Nat) (hl:∀ z ∈ l,z < B32) (i:Nat):val B32 l / B32 ^ i = dg l i + B32 * (dg l (i + 1) + B32 * val B32 (l.drop (i + 2))):=by
 rw [← z1b,← z1b]
 have h:=z21 (B:=B32) l i
 by_cases hi:i ≤ l.length
 ·rw [Nat.min_eq_left hi] at h
  have h2:val B32 (l.take i) < B32 ^ i:=by
   have h3:=z1k (l.take i) (fun z hz => hl z (List.mem_of_mem_take hz))
   rwa [List.length_take,Nat.min_eq_left hi] at h3
  rw [h,Nat.add_mul_div_left _ _ (Nat.pow_pos (by decide)),Nat.div_eq_of_lt h2,Nat.zero_add]
 ·rw [List.drop_eq_nil_of_le (by omega)]
  have h3:=z1k l hl
  have h4:B32 ^ l.length ≤ B32 ^ i:=Nat.pow_le_pow_right (by decide) (by omega)
  rw [Nat.div_eq_of_lt (by omega)]
  rfl
theorem zmw (x y:Nat) (hx:x < B32) (hy:y < B32):bits .or .u64 (x:Int) ((y:Int) * 4294967296) = ((x + B32 * y:Nat):Int):=by
 have hx64:x < 2 ^ 64:=Nat.lt_trans hx (by decide)
 have hy64:y * 4294967296 < 2 ^ 64:=by
  have h:y < 4294967296:=hy
  show y * 4294967296 < 18446744073709551616
  omega
 have e:(y:Int) * 4294967296 = ((y * 4294967296:Nat):Int):=by omega
 rw [e,(bits_nat .u64 64 (by decide) z7e x _ hx64 hy64).2,Nat.or_comm]
 have h:=zan y x hy hx
 rw [e,(bits_nat .u64 64 (by decide) z7e _ x hy64 hx64).2] at h
 rw [h]
 show ((y * 4294967296 + x:Nat):Int) = ((x + 4294967296 * y:Nat):Int)
 omega
theorem zvl {S:Nat → Prop} (v:Value) (zs:List Nat) (s:Nat) (w:World) (h:U32s S w v zs) (hS:∀ k,S k → k < w.heap.size) (hr:zs.length ≤ 1000000000000) (hs:s < 32) :
  Calls Tryz.prog 156 #[v,.int .i64 (s:Nat)] w fun e w' => ∃ v',e = .returned (.tuple #[v',.int .i64 0]) ∧ U32s (New w w') w' v' (rep B32 (val B32 zs / 2 ^ s)) ∧ Ext w w':=by
 have hle:(rep B32 (val B32 zs)).length ≤ zs.length:=z0f z00 _ _ (z1k zs h.lt)
 have H:=hid h
 obtain ⟨a,cap,rfl⟩:=h.form
 clear h
 have CM:=hid (zmt s hs w)
 go_enter Tryz.func156,Tryz.ntmps156
 go_wp2_with fail
 refine CM.out.mono ?_
 rintro e w1 ⟨rfl,rfl⟩
 go_wp2_with fail
 refine (z29 _ zs _ H.out).mono ?_
 rintro e w' ⟨v',rfl,hu,rfl⟩
 have hx1:((s:Int)).tdiv 32 = 0:=by rw [Int.tdiv_eq_ediv_of_nonneg (by omega)]; omega
 have hx2:((s:Int)).tmod 32 = (s:Int):=by rw [Int.tmod_eq_emod_of_nonneg (by omega)]; omega
 obtain ⟨L,hL⟩:∃ L,L = (rep B32 (val B32 zs)).length:=⟨_,rfl⟩
 have HU:=hid hu
 obtain ⟨a',c',rfl⟩:=hu.form
 rw [← hL] at HU hle ⊢
 have hmk:=run_make_row' (P:=Tryz.prog) 28 74 (.int .u32 0) 4 Tryz.underlying28 Tryz.infoU32 rfl .i64 .i64 L (by omega) (by omega) w
 obtain ⟨V,hV⟩:∃ V,V = val B32 zs:=⟨_,rfl⟩
 rw [← hV] at HU hL
 have HL:=hid hL
 have HV:=hid hV
 have HLE:=hid hle
 have HZ0:=hid (z5w w L 74)
 have HX0:=hid (Ext.alloc (Ext.refl w) (.cells (madeCells #[.int .u32 0] L) 74))
 clear hu hL hV
 go_wp2
 go_loopw [26] (fun s26 wr => ∃ (i:Nat) (o:List Nat),s26 = .int .i64 (i:Nat) ∧ i ≤ L ∧ Hid (o.length = i ∧ (∀ z ∈ o,z < B32) ∧ val B32 o = V / 2 ^ s % B32 ^ i) ∧
  wr.rowIs w.heap.size 74 L (rowU o) ∧ Ext w wr) (fun s26 _ => L - (intOf s26).toNat)
 case atStart =>
  refine ⟨0,[],rfl,Nat.zero_le _,hid ⟨rfl,by simp,by simp [val,Nat.mod_one]⟩,?_,HX0.out⟩
  have e:rowU [] = rowU (List.replicate L 0):=z8t fun j => by rw [z9h]; rfl
  rw [e]
  exact HZ0.out
 case round =>
  obtain ⟨i,o,rfl,hi,HI,hrow,hx⟩:=hrel
  have HR:=hid hrow
  have HX:=hid hx
  by_cases hlt:i < L
  ·obtain ⟨x,hx1⟩:=z01 (l:=rep B32 V) (j:=i) (by rw [← HL.out]; exact hlt)
   obtain ⟨b1,o1,hav,-,hn1,hm1,-,hxb,hc1⟩:=(HU.out.to (Kept.ext hx hS) (fun _ h => h)).cellAt hx1
   have hf2:=hrow.frozen i
   have hc2:wr.cell? ⟨w.heap.size,i,none⟩ = some (.int .u32 0):=by
    rw [hrow.cell (i:=i) hlt]
    show some (Value.int .u32 (dg o i:Nat)) = _
    rw [z2n (by have:=HI.out.1; omega)]
    rfl
   have HX1:=hid hx1
   have HXB:=hid hxb
   have HD:=hid (zrc (rep B32 V) (z3q z00 V) i)
   rw [z0d z00,z0o hx1] at HD
   have fin:∀ t:Nat,t / 2 ^ s % B32 = V / 2 ^ s / B32 ^ i % B32 → (∃ (i_1:Nat) (o:List Nat),Value.int IntKind.i64 ((i:Int) + 1) = Value.int IntKind.i64 (i_1:Nat) ∧ i_1 ≤ L ∧
     Hid (o.length = i_1 ∧ (∀ (z:Nat),z ∈ o → z < B32) ∧ val B32 o = V / 2 ^ s % B32 ^ i_1) ∧
      (wr.setCell ⟨w.heap.size,i,none⟩ (Value.int IntKind.u32 ((t:Int) / 2 ^ s % 4294967296))).rowIs w.heap.size 74 L (rowU o) ∧
       Ext w (wr.setCell ⟨w.heap.size,i,none⟩ (Value.int IntKind.u32 ((t:Int) / 2 ^ s % 4294967296)))) ∧
     L - (intOf (Value.int IntKind.i64 ((i:Int) + 1))).toNat < L - (intOf (Value.int IntKind.i64 (i:Int))).toNat:=by
    intro t ht
    obtain ⟨HI2,HI3,HI4⟩:=HI.out
    have e:(t:Int) / 2 ^ s % 4294967296 = ((t / 2 ^ s % B32:Nat):Int):=by
     have e1:(t:Int) / 2 ^ s = ((t / 2 ^ s:Nat):Int):=by push_cast; rfl
     rw [e1]
     show ((t / 2 ^ s:Nat):Int) % 4294967296 = ((t / 2 ^ s % 4294967296:Nat):Int)
     omega
    rw [e]
    refine ⟨⟨i + 1,o ++ [t / 2 ^ s % B32],rfl,by omega,hid ⟨by simp [HI2],?_,zrb HI4 HI2 ht⟩,?_,HX.out.setCell (Nat.le_refl _) _⟩,?_⟩
    ·intro z hz
     rcases List.mem_append.1 hz with h1 | h1
     ·exact HI3 z h1
     ·rw [List.mem_singleton.1 h1]; exact Nat.mod_lt _ (by decide)
    ·have h1:=z2o HR.out (t / 2 ^ s % B32)
     rw [HI2] at h1
     exact h1
    ·simp only [intOf]; omega
   have FIN:=hid fin
   clear hrow hx hx1 fin
   subst hav
   by_cases h2:i + 1 < L
   ·obtain ⟨y,hy1⟩:=z01 (l:=rep B32 V) (j:=i + 1) (by rw [← HL.out]; exact h2)
    obtain ⟨b3,o3,hav,-,-,-,-,hyb,hc3⟩:=(HU.out.to (Kept.ext HX.out hS) (fun _ h => h)).cellAt hy1
    obtain ⟨rfl,rfl⟩:b1 = b3 ∧ o1 = o3:=by simpa using hav
    have hx64:IntKind.u64.wrap (x:Int) = (x:Int):=z0w (Nat.lt_trans hxb (by decide))
    have hy64:IntKind.u64.wrap (y:Int) = (y:Int):=z0w (Nat.lt_trans hyb (by decide))
    have hor:=zmw x y hxb hyb
    obtain ⟨t,ht⟩:∃ t,t = x + B32 * y:=⟨_,rfl⟩
    rw [← ht] at hor
    have HT:=hid ht
    have HY1:=hid hy1
    have HYB:=hid hyb
    clear hxb hy1 ht
    go_wp2
    refine FIN.out t ?_
    have hd:=HD.out
    rw [z0o HY1.out] at hd
    rw [zfk hs hd,HT.out]
   ·have hx64:IntKind.u64.wrap (x:Int) = (x:Int):=z0w (Nat.lt_trans hxb (by decide))
    clear hxb
    go_wp2
    refine FIN.out x ?_
    have hd:=HD.out
    rw [z2n (by have:=HL.out; omega)] at hd
    rw [zfk hs hd,Nat.mul_zero,Nat.add_zero]
  ·obtain rfl:i = L:=by omega
   obtain ⟨HI2,HI3,HI4⟩:=HI.out
   have hval:val B32 o = V / 2 ^ s:=by
    rw [HI4]
    refine Nat.mod_eq_of_lt (Nat.lt_of_le_of_lt (Nat.div_le_self _ _) ?_)
    have h1:=z1k (rep B32 V) (z3q z00 V)
    rwa [z0d z00,← HL.out] at h1
   have hu:U32s (fun k => k = w.heap.size) wr (.slice (some ⟨w.heap.size,0,none⟩) i i) o:=by
    have h1:=U32s.of_row hrow (by omega) HI3 (by omega)
    rwa [HI2] at h1
   have CS:=hid (z29 _ _ _ hu)
   rw [hval] at CS
   have HG:=hid hrow.lt
   clear hrow hx HI2 HI3 HI4 hval hu
   go_wp2_with fail
   refine CS.out.mono ?_
   rintro e w' ⟨v',rfl,hu,rfl⟩
   have H:=hid hu
   clear hu
   go_wp2
   all_goals
    go_ret2
    refine ⟨_,rfl,?_,HX.out⟩
    rw [← HV.out]
    refine H.out.to (Kept.refl _ _) (fun k hk => ?_)
    subst hk
    exact ⟨Nat.le_refl _,HG.out⟩
end
section
open Go.RowKit
def tab8:ByteArray:=⟨#[0,1,2,2,3,3,3,3,4,4,4,4,4,4,4,4,5,5,5,5,5,5,5,5,5,5,5,5,5,5,5,5,6,6,6,6,6,6,6,6,6,6,6,6,6,6,6,6,6,6,6,6,6,6,6,6,6,6,6,6,6,6,6,6,7,7,7,7,7,7,7,7,7,7,7,7,7,7,7,7,7,7,7,7,7,7,7,7,7,7,7,7,7,7,7,7,7,7,7,7,7,7,7,7,7,7,7,7,7,7,7,7,7,7,7,7,7,7,7,7,7,7,7,7,7,7,7,7,8,8,8,8,8,8,8,8,8,8,8,8,8,8,8,8,8,8,8,8,8,8,8,8,8,8,8,8,8,8,8,8,8,8,8,8,8,8,8,8,8,8,8,8,8,8,8,8,8,8,8,8,8,8,8,8,8,8,8,8,8,8,8,8,8,8,8,8,8,8,8,8,8,8,8,8,8,8,8,8,8,8,8,8,8,8,8,8,8,8,8,8,8,8,8,8,8,8,8,8,8,8,8,8,8,8,8,8,8,8,8,8,8,8,8,8,8,8,8,8,8,8,8,8,8,8,8,8]⟩
theorem z44:tab8.size = 256:=by decide +kernel
theorem zvm:∀ i:Fin 256,(tab8.get! i.val).toNat ≤ 8 ∧ (0 < i.val → 1 ≤ (tab8.get! i.val).toNat):=by decide +kernel
theorem zdx (x:Int) (h0:0 ≤ x) (h1:x < 256) (h:x.toNat < tab8.size):(tab8[x.toNat]'h).toNat ≤ 8 ∧ (0 < x → 1 ≤ (tab8[x.toNat]'h).toNat):=by
 have:=zvm ⟨x.toNat,by omega⟩
 have e:tab8.get! x.toNat = tab8[x.toNat]'h:=by
  have h2:x.toNat < tab8.data.size:=h
  show tab8.data[x.toNat]! = tab8.data[x.toNat]'h2
  exact getElem!_pos _ _ _
 simp only [e] at this
 exact ⟨this.1,fun hx => this.2 (by omega)⟩
theorem zmx (x:Int) (w:World) (h0:0 ≤ x) (h1:x < 4294967296) :
  Calls Tryz.prog 114 #[.int .u32 x] w fun e w' => ∃ n:Int,e = .returned (.int .i64 n) ∧ 0 ≤ n ∧ n ≤ 32 ∧ (0 < x → 0 < n) ∧ w = w':=by
 go_enter Tryz.func114,Tryz.ntmps114
 rcases (show 16777216 ≤ x ∨ 65536 ≤ x ∧ x < 16777216 ∨ 256 ≤ x ∧ x < 65536 ∨ x < 256 by omega) with h | ⟨h,h'⟩ | ⟨h,h'⟩ | h
 ·go_wp2
  go_ret
  simp only [Array.getD_eq_getD_getElem?,List.getElem?_toArray,List.getElem?_cons_succ,List.getElem?_cons_zero,Option.getD_some]
  generalize hv:UInt8.toNat _ = t
  have hb:=zdx (x / 65536 / 256) (by omega) (by omega) (by rw [z44]; omega)
  have hc:t ≤ 8 ∧ (0 < x / 65536 / 256 → 1 ≤ t):=hv ▸ hb
  obtain ⟨h3,h4⟩:=hc
  clear hb hv
  refine ⟨_,rfl,?_,?_,fun hx => ?_,trivial⟩ <;> (unfold wrap64; omega)
 ·go_wp2
  go_ret
  simp only [Array.getD_eq_getD_getElem?,List.getElem?_toArray,List.getElem?_cons_succ,List.getElem?_cons_zero,Option.getD_some]
  generalize hv:UInt8.toNat _ = t
  have hb:=zdx (x / 65536) (by omega) (by omega) (by rw [z44]; omega)
  have hc:t ≤ 8 ∧ (0 < x / 65536 → 1 ≤ t):=hv ▸ hb
  obtain ⟨h3,h4⟩:=hc
  clear hb hv
  refine ⟨_,rfl,?_,?_,fun hx => ?_,trivial⟩ <;> (unfold wrap64; omega)
 ·go_wp2
  go_ret
  simp only [Array.getD_eq_getD_getElem?,List.getElem?_toArray,List.getElem?_cons_succ,List.getElem?_cons_zero,Option.getD_some]
  generalize hv:UInt8.toNat _ = t
  have hb:=zdx (x / 256) (by omega) (by omega) (by rw [z44]; omega)
  have hc:t ≤ 8 ∧ (0 < x / 256 → 1 ≤ t):=hv ▸ hb
  obtain ⟨h3,h4⟩:=hc
  clear hb hv
  refine ⟨_,rfl,?_,?_,fun hx => ?_,trivial⟩ <;> (unfold wrap64; omega)
 ·go_wp2
  go_ret
  simp only [Array.getD_eq_getD_getElem?,List.getElem?_toArray,List.getElem?_cons_succ,List.getElem?_cons_zero,Option.getD_some]
  generalize hv:UInt8.toNat _ = t
  have hb:=zdx (x) (by omega) (by omega) (by rw [z44]; omega)
  have hc:t ≤ 8 ∧ (0 < x → 1 ≤ t):=hv ▸ hb
  obtain ⟨h3,h4⟩:=hc
  clear hb hv
  refine ⟨_,rfl,?_,?_,fun hx => ?_,trivial⟩ <;> (unfold wrap64; omega)
end
section
open Go.RowKit
theorem zrd {S:Nat → Prop} (v:Value) (zs:List Nat) (w:World) (h:U32s S w v zs) (hr:zs.length ≤ 50000000000000) :
  Calls Tryz.prog 84 #[v] w fun e w' => ∃ n:Int,e = .returned (.int .i64 n) ∧ 0 ≤ n ∧ n ≤ 9223372036854775807 ∧ (n = 0 ↔ val B32 zs = 0) ∧ w = w':=by
 have hle:(rep B32 (val B32 zs)).length ≤ zs.length:=z0f z00 _ _ (z1k zs h.lt)
 have H:=hid h
 obtain ⟨a,c,rfl⟩:=h.form
 clear h
 go_enter Tryz.func84,Tryz.ntmps84
 go_wp2_with fail
 refine (z29 _ zs _ H.out).mono ?_
 rintro e w' ⟨v',rfl,hu,rfl⟩
 generalize hn:val B32 zs = n at hu hle
 have HN:=hid hn
 have HU:=hid hu
 obtain ⟨a',c',rfl⟩:=hu.form
 clear hu hn
 by_cases h0:n = 0
 ·have hl:(rep B32 n).length = 0:=by rw [h0]; rfl
  have hb:(((rep B32 n).length:Int) == 0) = true:=by rw [beq_iff_eq]; omega
  have HZ:=hid h0
  clear h0 hl
  go_wp2
  go_ret
  exact ⟨0,rfl,by omega,by omega,by rw [HN.out,HZ.out]; simp,rfl⟩
 ·have hl:0 < (rep B32 n).length:=by
   rw [List.length_pos_iff,Ne,z2d z00]
   exact h0
  obtain ⟨z,hz⟩:=z01 (show (rep B32 n).length - 1 < (rep B32 n).length by omega)
  have hz0:0 < z:=by
   have h1:=zdq z00 n
   rw [List.getLast?_eq_getElem?,hz] at h1
   have:z ≠ 0:=fun e => h1 (by rw [e])
   omega
  obtain ⟨b,off,rfl,-,hn,hm,-,hzb,hc⟩:=HU.out.cellAt hz
  have hb:(((rep B32 n).length:Int) == 0) = false:=by rw [beq_eq_false_iff_ne]; omega
  have HZ:=hid h0
  clear h0 hz
  go_wp2_with fail
  refine (zmx (z:Nat) _ (by omega) (by omega)).mono ?_
  rintro e w' ⟨k,rfl,hk1,hk2,hk3,rfl⟩
  have hk:=hk3 (by omega)
  clear hk3
  go_wp2
  go_ret
  refine ⟨32 * (((rep B32 n).length:Int) - 1) + k,rfl,by omega,by omega,?_,rfl⟩
  rw [HN.out]
  have:=HZ.out
  omega
theorem z1m {S:Nat → Prop} (v:Value) (r:RInt) (w:World) (h:IntV S w v r) (hS:∀ k,S k → k < w.heap.size) (hr:r.mag.length ≤ 50000000000000) :
  Calls Tryz.prog 44 #[v] w fun e w' => e = .returned (.int .i64 (z1l (valI r))) ∧ Ext w w':=by
 obtain ⟨ng,zs⟩:=r
 obtain ⟨vm,rfl,hu⟩:=h
 simp only at hu hr ⊢
 have H:=hid hu
 obtain ⟨a,c,rfl⟩:=hu.form
 clear hu
 have HE:=hid (Ext.alloc (Ext.refl w) (.cells #[.bool ng,.slice a zs.length c] 30))
 go_enter Tryz.func44,Tryz.ntmps44
 go_wp2_with fail
 refine (zrd _ zs _ (H.out.to (Kept.ext HE.out hS) (fun _ h => h)) hr).mono ?_
 rintro e w' ⟨n,rfl,hn1,hn2,hn3,rfl⟩
 have HN:=hid hn3
 clear hn3
 by_cases h0:n = 0
 ·have hb:(n == 0) = true:=by rw [beq_iff_eq]; exact h0
  have HZ:=hid h0
  clear h0
  have HR:Hid (z1l (valI ⟨ng,zs⟩) = 0):=hid (by
   have:=HN.out.1 HZ.out
   unfold z1l valI
   simp [this,cmpI])
  go_wp2
  go_ret
  exact ⟨by rw [HR.out]; rfl,HE.out⟩
 ·have hb:(n == 0) = false:=by rw [beq_eq_false_iff_ne]; exact h0
  have HZ:=hid h0
  clear h0
  have hv:val B32 zs ≠ 0:=fun e => HZ.out (HN.out.2 e)
  cases ng with
  | true =>
   have HR:Hid (z1l (valI ⟨true,zs⟩) = -1):=hid (by
    unfold z1l valI
    rw [z2w]
    simp
    omega)
   clear hv
   go_wp2
   go_ret
   exact ⟨by rw [HR.out]; rfl,HE.out⟩
  | false =>
   have HR:Hid (z1l (valI ⟨false,zs⟩) = 1):=hid (by
    unfold z1l valI
    rw [z3y]
    simp
    omega)
   clear hv
   go_wp2
   go_ret
   exact ⟨by rw [HR.out]; rfl,HE.out⟩
end
section
open Go.RowKit
attribute [local go_sem ↓] Go.wp_at_zero Go.wp_at_succ
theorem Pows.ext {S:Nat → Prop} {w W:World} {v:Value} {zs:Mono} (h:Pows S w v zs) (hx:Ext w W) (hS:∀ k,S k → k < w.heap.size):Pows S W v zs:=h.to (Kept.ext hx hS) (fun _ h => h)
theorem z06.ext {S:Nat → Prop} {w W:World} {v:Value} {zs:List RTerm} (h:z06 S w v zs) (hx:Ext w W) (hS:∀ k,S k → k < w.heap.size):z06 S W v zs:=h.to (Kept.ext hx hS) (fun _ h => h)
theorem z06.cellAt {S:Nat → Prop} {w:World} {ts:List RTerm} {a:Option Addr} {n cap k:Nat} {t:RTerm} (h:z06 S w (.slice a n cap) ts) (ht:ts[k]? = some t) :
  ∃ b off vm vo,a = some ⟨b,off,none⟩ ∧ n = ts.length ∧ n ≤ cap ∧ cap ≤ 9223372036854775807 ∧ S b ∧ w.cell? ⟨b,off + k * 3,none⟩ = some (.bool t.c.neg) ∧ w.cell? ⟨b,off + k * 3 + 1,none⟩ = some vm ∧ w.cell? ⟨b,off + k * 3 + 2,none⟩ = some vo ∧ U32s S w vm t.c.mag ∧ Pows S w vo t.m:=by
 obtain ⟨b,off,⟨a',cap',h1,h2,h3,h4,h5⟩,hc⟩:=h
 obtain ⟨rfl,rfl,rfl⟩:a = a' ∧ n = ts.length ∧ cap = cap':=by simpa using h1
 have hp:0 < ts.length:=by have:=z05 ht; omega
 obtain ⟨vm,vo,g1,g2,g3,g4,g5⟩:=hc k t ht
 exact ⟨b,off,vm,vo,h4 hp,rfl,h2,h3,h5 hp,g1,g2,g3,g4,g5⟩
theorem z06.len_le {S:Nat → Prop} {w:World} {v:Value} {zs:List RTerm} (h:z06 S w v zs):zs.length ≤ 9223372036854775807:=by
 obtain ⟨b,off,⟨a,cap,h1,h2,h3,_⟩,_⟩:=h
 unfold maxLen at h3
 omega
theorem z06.okT {S:Nat → Prop} {w:World} {v:Value} {zs:List RTerm} (h:z06 S w v zs):okT zs:=by
 obtain ⟨b,off,hs,hc⟩:=h
 intro t ht
 obtain ⟨j,hj⟩:=List.getElem?_of_mem ht
 obtain ⟨vm,vo,g1,g2,g3,g4,g5⟩:=hc j t hj
 exact g4.lt
theorem z2x {S:Nat → Prop} {w:World} {ng:Bool} {zs:List Nat} {vm:Value} (h:U32s S w vm zs):IntV S w (.agg #[.bool ng,vm]) ⟨ng,zs⟩:=⟨vm,rfl,h⟩
def z3r (ts:List RTerm):Prop:=∀ t ∈ ts,t.c.mag.length ≤ 40000000000000
def befT (ts:List RTerm):Nat → Option RTerm
 | 0 => none
 | k + 1 => ts[k]?
theorem zki {ts:List RTerm} {k:Nat} {t:RTerm} (ht:ts[k]? = some t):z4w (befT ts k) (ts.drop k) = (z2e t && (match befT ts k with | none => true | some u => decide (0 < z4e u.m t.m)) && z4w (befT ts (k + 1)) (ts.drop (k + 1))):=by
 rw [z6n ht]
 simp only [befT,ht]
 rfl
theorem zfl {r:RInt}:z1l (valI r) = 0 ↔ val B32 r.mag = 0:=by
 unfold z1l valI
 rw [z6q]
 cases r.neg <;> simp
theorem za1 {t:RTerm} (h:z1l (valI t.c) = 0):z2e t = false:=by
 unfold z2e
 rw [zfl] at h
 simp [h]
theorem zb6 {t:RTerm} (h:mayI t.c = false):z2e t = false:=by
 unfold z2e
 simp [h]
theorem za2 {t:RTerm} (h:mayM t.m = false):z2e t = false:=by
 unfold z2e
 simp [h]
theorem zb7 {t:RTerm} (h1:z1l (valI t.c) ≠ 0) (h2:mayI t.c = true) (h3:mayM t.m = true):z2e t = true:=by
 unfold z2e
 rw [Ne,zfl] at h1
 simp [h1,h2,h3]
theorem z6v (a b:Mono):-1 ≤ z4e a b ∧ z4e a b ≤ 1:=by
 unfold z4e
 split
 ·rename_i hmm
  simp only [Bool.and_eq_true] at hmm
  rcases z1n hmm.1 hmm.2 with h | h | h <;> omega
 ·omega
theorem z4i {S:Nat → Prop} (v:Value) (ts:List RTerm) (w:World) (h:z06 S w v ts) (hS:∀ k,S k → k < w.heap.size) (hr:z3r ts) :
  Calls Tryz.prog 20 #[v] w fun e w' => e = .returned (.bool (mayT ts)) ∧ Ext w w':=by
 have hnot:∀ (x:Bool) (w:World),(Op.unary .not (.bool x)).run Tryz.prog w = .ok (.bool (!x)) w:=fun _ _ => rfl
 have hl:=h.len_le
 have H:=hid h
 have HRS:=hid hr
 obtain ⟨a,cap,rfl⟩:=h.form
 clear h hr
 go_enter Tryz.func20,Tryz.ntmps20
 go_wp2
 go_loopw [7] (fun i wr => ∃ k:Nat,k ≤ ts.length ∧ i = .int .i64 k ∧ Ext w wr ∧ mayT ts = z4w (befT ts k) (ts.drop k)) (fun i _ => ts.length - (intOf i).toNat)
 case atStart => exact ⟨0,Nat.zero_le _,rfl,Ext.refl _,rfl⟩
 case round =>
  obtain ⟨k,hk,rfl,hx,hm⟩:=hrel
  by_cases hlt:k < ts.length
  ·obtain ⟨t,ht⟩:=z01 hlt
   obtain ⟨b,off,vm,vo,rfl,-,hn1,hm1,hSb,h1,h2,h3,h4,h5⟩:=H.out.cellAt ht
   have hat:=zki ht
   have hsm:=HRS.out t (List.mem_of_getElem? ht)
   rw [hat] at hm
   have HM:=hid hm
   have HT:=hid ht
   obtain ⟨⟨ng,zs⟩,m⟩:=t
   simp only at h1 h2 h3 h4 h5 hsm
   have H4:=hid h4
   have H5:=hid h5
   obtain ⟨am,cm,rfl⟩:=h4.form
   obtain ⟨ao,co,rfl⟩:=h5.form
   have g1:=Ext.cell hx h1
   have g2:=Ext.cell hx h2
   have g3:=Ext.cell hx h3
   have X0:=hid (hx.alloc (.cells #[.bool ng,.slice am zs.length cm,.slice ao m.length co] 50))
   have L0:=fun X:Later (wr.alloc (.cells #[.bool ng,.slice am zs.length cm,.slice ao m.length co] 50)) => X.h.new_cell (i:=0) (v:=.bool ng) rfl
   have L1:=fun X:Later (wr.alloc (.cells #[.bool ng,.slice am zs.length cm,.slice ao m.length co] 50)) => X.h.new_cell (i:=1) (v:=.slice am zs.length cm) rfl
   have L2:=fun X:Later (wr.alloc (.cells #[.bool ng,.slice am zs.length cm,.slice ao m.length co] 50)) => X.h.new_cell (i:=2) (v:=.slice ao m.length co) rfl
   have HX:=hid hx
   have HSM:=hid hsm
   clear hm ht h1 h2 h3 h4 h5 hx hat hsm
   cases k with
   | zero =>
    simp only [Nat.zero_mul,Nat.add_zero] at g1 g2 g3
    obtain ⟨sgn,hs⟩:∃ s,z1l (valI ⟨ng,zs⟩) = s:=⟨_,rfl⟩
    by_cases hc0:sgn = 0
    ·subst hc0
     have CS:=fun (W:World) (h:IntV S W (.agg #[.bool ng,.slice am zs.length cm]) ⟨ng,zs⟩) hs => z1m (S:=S) _ _ W h hs (Nat.le_trans HSM.out (by decide))
     simp only [hs] at CS
     have HCS:=hid CS
     clear CS
     have HF:Hid (mayT ts = false):=hid (by rw [HM.out,za1 hs]; rfl)
     clear hs
     go_wp2
     refine z03 (by kernel_rfl) (by kernel_rfl) ?_
     repeat (go_big_quiet_step (first | (go_at_call 44; exact Later.done (HCS.out _ (z2x (H4.out.ext (X0.out.trans (Later.h _)) hS)) (z08 hS (X0.out.trans (Later.h _)))))))
     refine wpQuiet_nil ?_
     intro W hW
     have HW:=hid (X0.out.trans hW)
     clear hW
     go_wp2
     all_goals
      go_ret
      exact ⟨by rw [HF.out]; rfl,HW.out⟩
    ·have hb0:(sgn == 0) = false:=by rw [beq_eq_false_iff_ne]; exact hc0
     have hsr:-1 ≤ sgn ∧ sgn ≤ 1:=by rw [← hs]; unfold z1l; rcases z4p (valI ⟨ng,zs⟩) 0 with h | h | h <;> omega
     obtain ⟨hsr1,hsr2⟩:=hsr
     cases hi:mayI ⟨ng,zs⟩ with
     | false =>
      have CS:=fun (W:World) (h:IntV S W (.agg #[.bool ng,.slice am zs.length cm]) ⟨ng,zs⟩) hs => z1m (S:=S) _ _ W h hs (Nat.le_trans HSM.out (by decide))
      simp only [hs] at CS
      have HCS:=hid CS
      clear CS
      have CM:=fun (W:World) (h:IntV S W (.agg #[.bool ng,.slice am zs.length cm]) ⟨ng,zs⟩) hs => z4x (S:=S) _ _ W h hs
      simp only [hi] at CM
      have HCM:=hid CM
      clear CM
      have HF:Hid (mayT ts = false):=hid (by rw [HM.out,zb6 hi]; rfl)
      clear hs
      clear hi
      go_wp2
      refine z03 (by kernel_rfl) (by kernel_rfl) ?_
      repeat (go_big_quiet_step (first | (go_at_call 44; exact Later.done (HCS.out _ (z2x (H4.out.ext (X0.out.trans (Later.h _)) hS)) (z08 hS (X0.out.trans (Later.h _))))) | (go_at_call 45; exact Later.done (HCM.out _ (z2x (H4.out.ext (X0.out.trans (Later.h _)) hS)) (z08 hS (X0.out.trans (Later.h _)))))))
      refine wpQuiet_nil ?_
      intro W hW
      have HW:=hid (X0.out.trans hW)
      clear hW
      go_wp2
      all_goals
       go_ret
       exact ⟨by rw [HF.out]; rfl,HW.out⟩
     | true =>
      cases hq:mayM m with
      | false =>
       have CS:=fun (W:World) (h:IntV S W (.agg #[.bool ng,.slice am zs.length cm]) ⟨ng,zs⟩) hs => z1m (S:=S) _ _ W h hs (Nat.le_trans HSM.out (by decide))
       simp only [hs] at CS
       have HCS:=hid CS
       clear CS
       have CM:=fun (W:World) (h:IntV S W (.agg #[.bool ng,.slice am zs.length cm]) ⟨ng,zs⟩) hs => z4x (S:=S) _ _ W h hs
       simp only [hi] at CM
       have HCM:=hid CM
       clear CM
       have CQ:=fun (W:World) (h:Pows S W (.slice ao m.length co) m) hs => z32 (S:=S) _ _ W h hs
       simp only [hq] at CQ
       have HCQ:=hid CQ
       clear CQ
       have HF:Hid (mayT ts = false):=hid (by rw [HM.out,za2 hq]; rfl)
       clear hs
       clear hi
       clear hq
       go_wp2
       refine z03 (by kernel_rfl) (by kernel_rfl) ?_
       repeat (go_big_quiet_step (first | (go_at_call 44; exact Later.done (HCS.out _ (z2x (H4.out.ext (X0.out.trans (Later.h _)) hS)) (z08 hS (X0.out.trans (Later.h _))))) | (go_at_call 45; exact Later.done (HCM.out _ (z2x (H4.out.ext (X0.out.trans (Later.h _)) hS)) (z08 hS (X0.out.trans (Later.h _))))) | (go_at_call 46; exact Later.done (HCQ.out _ (H5.out.ext (X0.out.trans (Later.h _)) hS) (z08 hS (X0.out.trans (Later.h _)))))))
       refine wpQuiet_nil ?_
       intro W hW
       have HW:=hid (X0.out.trans hW)
       clear hW
       go_wp2
       all_goals
        go_ret
        exact ⟨by rw [HF.out]; rfl,HW.out⟩
      | true =>
       have CS:=fun (W:World) (h:IntV S W (.agg #[.bool ng,.slice am zs.length cm]) ⟨ng,zs⟩) hs => z1m (S:=S) _ _ W h hs (Nat.le_trans HSM.out (by decide))
       simp only [hs] at CS
       have HCS:=hid CS
       clear CS
       have CM:=fun (W:World) (h:IntV S W (.agg #[.bool ng,.slice am zs.length cm]) ⟨ng,zs⟩) hs => z4x (S:=S) _ _ W h hs
       simp only [hi] at CM
       have HCM:=hid CM
       clear CM
       have CQ:=fun (W:World) (h:Pows S W (.slice ao m.length co) m) hs => z32 (S:=S) _ _ W h hs
       simp only [hq] at CQ
       have HCQ:=hid CQ
       clear CQ
       have HF:Hid (mayT ts = z4w (befT ts (0 + 1)) (ts.drop (0 + 1))):=hid (by rw [HM.out,zb7 (by rw [hs]; exact hc0) hi hq]; rfl)
       clear hs
       clear hi
       clear hq
       go_wp2
       refine z03 (by kernel_rfl) (by kernel_rfl) ?_
       repeat (go_big_quiet_step (first | (go_at_call 44; exact Later.done (HCS.out _ (z2x (H4.out.ext (X0.out.trans (Later.h _)) hS)) (z08 hS (X0.out.trans (Later.h _))))) | (go_at_call 45; exact Later.done (HCM.out _ (z2x (H4.out.ext (X0.out.trans (Later.h _)) hS)) (z08 hS (X0.out.trans (Later.h _))))) | (go_at_call 46; exact Later.done (HCQ.out _ (H5.out.ext (X0.out.trans (Later.h _)) hS) (z08 hS (X0.out.trans (Later.h _)))))))
       refine wpQuiet_nil ?_
       intro W hW
       have HW:=hid (X0.out.trans hW)
       clear hW
       go_wp2
       go_roundw
       case rel => exact ⟨_,by omega,by go_num,HW.out,HF.out⟩
       case measure => simp only [intOf]; omega
   | succ k =>
    obtain ⟨u,hu⟩:=z01 (show k < ts.length by omega)
    obtain ⟨b',off',vmu,vou,hbb,-,-,-,-,u1,u2,u3,u4,u5⟩:=H.out.cellAt hu
    obtain ⟨rfl,rfl⟩:b = b' ∧ off = off':=by simpa using hbb
    have HP5:=hid u5
    obtain ⟨ap,cp,rfl⟩:=u5.form
    have HBF:Hid (befT ts (k + 1) = some u):=hid hu
    have L3:=fun X:Later (wr.alloc (.cells #[.bool ng,.slice am zs.length cm,.slice ao m.length co] 50)) => X.cell (X0.out.cell u3)
    have hq0:((k:Nat):Int) + 1 - 1 = (k:Int):=by omega
    clear u1 u2 u3 u4 u5 hu hbb
    obtain ⟨sgn,hs⟩:∃ s,z1l (valI ⟨ng,zs⟩) = s:=⟨_,rfl⟩
    by_cases hc0:sgn = 0
    ·subst hc0
     have CS:=fun (W:World) (h:IntV S W (.agg #[.bool ng,.slice am zs.length cm]) ⟨ng,zs⟩) hs => z1m (S:=S) _ _ W h hs (Nat.le_trans HSM.out (by decide))
     simp only [hs] at CS
     have HCS:=hid CS
     clear CS
     have HF:Hid (mayT ts = false):=hid (by rw [HM.out,za1 hs]; rfl)
     clear hs
     go_wp2
     refine z03 (by kernel_rfl) (by kernel_rfl) ?_
     repeat (go_big_quiet_step (first | (go_at_call 44; exact Later.done (HCS.out _ (z2x (H4.out.ext (X0.out.trans (Later.h _)) hS)) (z08 hS (X0.out.trans (Later.h _)))))))
     refine wpQuiet_nil ?_
     intro W hW
     have HW:=hid (X0.out.trans hW)
     clear hW
     go_wp2
     all_goals
      go_ret
      exact ⟨by rw [HF.out]; rfl,HW.out⟩
    ·have hb0:(sgn == 0) = false:=by rw [beq_eq_false_iff_ne]; exact hc0
     have hsr:-1 ≤ sgn ∧ sgn ≤ 1:=by rw [← hs]; unfold z1l; rcases z4p (valI ⟨ng,zs⟩) 0 with h | h | h <;> omega
     obtain ⟨hsr1,hsr2⟩:=hsr
     cases hi:mayI ⟨ng,zs⟩ with
     | false =>
      have CS:=fun (W:World) (h:IntV S W (.agg #[.bool ng,.slice am zs.length cm]) ⟨ng,zs⟩) hs => z1m (S:=S) _ _ W h hs (Nat.le_trans HSM.out (by decide))
      simp only [hs] at CS
      have HCS:=hid CS
      clear CS
      have CM:=fun (W:World) (h:IntV S W (.agg #[.bool ng,.slice am zs.length cm]) ⟨ng,zs⟩) hs => z4x (S:=S) _ _ W h hs
      simp only [hi] at CM
      have HCM:=hid CM
      clear CM
      have HF:Hid (mayT ts = false):=hid (by rw [HM.out,zb6 hi]; rfl)
      clear hs
      clear hi
      go_wp2
      refine z03 (by kernel_rfl) (by kernel_rfl) ?_
      repeat (go_big_quiet_step (first | (go_at_call 44; exact Later.done (HCS.out _ (z2x (H4.out.ext (X0.out.trans (Later.h _)) hS)) (z08 hS (X0.out.trans (Later.h _))))) | (go_at_call 45; exact Later.done (HCM.out _ (z2x (H4.out.ext (X0.out.trans (Later.h _)) hS)) (z08 hS (X0.out.trans (Later.h _)))))))
      refine wpQuiet_nil ?_
      intro W hW
      have HW:=hid (X0.out.trans hW)
      clear hW
      go_wp2
      all_goals
       go_ret
       exact ⟨by rw [HF.out]; rfl,HW.out⟩
     | true =>
      cases hq:mayM m with
      | false =>
       have CS:=fun (W:World) (h:IntV S W (.agg #[.bool ng,.slice am zs.length cm]) ⟨ng,zs⟩) hs => z1m (S:=S) _ _ W h hs (Nat.le_trans HSM.out (by decide))
       simp only [hs] at CS
       have HCS:=hid CS
       clear CS
       have CM:=fun (W:World) (h:IntV S W (.agg #[.bool ng,.slice am zs.length cm]) ⟨ng,zs⟩) hs => z4x (S:=S) _ _ W h hs
       simp only [hi] at CM
       have HCM:=hid CM
       clear CM
       have CQ:=fun (W:World) (h:Pows S W (.slice ao m.length co) m) hs => z32 (S:=S) _ _ W h hs
       simp only [hq] at CQ
       have HCQ:=hid CQ
       clear CQ
       have HF:Hid (mayT ts = false):=hid (by rw [HM.out,za2 hq]; rfl)
       clear hs
       clear hi
       clear hq
       go_wp2
       refine z03 (by kernel_rfl) (by kernel_rfl) ?_
       repeat (go_big_quiet_step (first | (go_at_call 44; exact Later.done (HCS.out _ (z2x (H4.out.ext (X0.out.trans (Later.h _)) hS)) (z08 hS (X0.out.trans (Later.h _))))) | (go_at_call 45; exact Later.done (HCM.out _ (z2x (H4.out.ext (X0.out.trans (Later.h _)) hS)) (z08 hS (X0.out.trans (Later.h _))))) | (go_at_call 46; exact Later.done (HCQ.out _ (H5.out.ext (X0.out.trans (Later.h _)) hS) (z08 hS (X0.out.trans (Later.h _)))))))
       refine wpQuiet_nil ?_
       intro W hW
       have HW:=hid (X0.out.trans hW)
       clear hW
       go_wp2
       all_goals
        go_ret
        exact ⟨by rw [HF.out]; rfl,HW.out⟩
      | true =>
       obtain ⟨od,ho⟩:∃ s,z4e u.m m = s:=⟨_,rfl⟩
       have hor:-1 ≤ od ∧ od ≤ 1:=by rw [← ho]; exact z6v _ _
       obtain ⟨hor1,hor2⟩:=hor
       by_cases hc1:od ≤ 0
       ·have hb1:decide (od ≤ 0) = true:=by simpa using hc1
        have CS:=fun (W:World) (h:IntV S W (.agg #[.bool ng,.slice am zs.length cm]) ⟨ng,zs⟩) hs => z1m (S:=S) _ _ W h hs (Nat.le_trans HSM.out (by decide))
        simp only [hs] at CS
        have HCS:=hid CS
        clear CS
        have CM:=fun (W:World) (h:IntV S W (.agg #[.bool ng,.slice am zs.length cm]) ⟨ng,zs⟩) hs => z4x (S:=S) _ _ W h hs
        simp only [hi] at CM
        have HCM:=hid CM
        clear CM
        have CQ:=fun (W:World) (h:Pows S W (.slice ao m.length co) m) hs => z32 (S:=S) _ _ W h hs
        simp only [hq] at CQ
        have HCQ:=hid CQ
        clear CQ
        have CO:=fun (W:World) (h1:Pows S W (.slice ap u.m.length cp) u.m) (h2:Pows S W (.slice ao m.length co) m) hs => z7a (S:=S) _ _ _ _ W h1 h2 hs
        simp only [ho] at CO
        have HCO:=hid CO
        clear CO
        have HF:Hid (mayT ts = false):=hid (by rw [HM.out,HBF.out]; simp only; rw [ho,decide_eq_false (by omega)]; simp)
        clear hs
        clear hi
        clear hq
        clear ho
        go_wp2
        refine z03 (by kernel_rfl) (by kernel_rfl) ?_
        repeat (go_big_quiet_step (first | (go_at_call 44; exact Later.done (HCS.out _ (z2x (H4.out.ext (X0.out.trans (Later.h _)) hS)) (z08 hS (X0.out.trans (Later.h _))))) | (go_at_call 45; exact Later.done (HCM.out _ (z2x (H4.out.ext (X0.out.trans (Later.h _)) hS)) (z08 hS (X0.out.trans (Later.h _))))) | (go_at_call 46; exact Later.done (HCQ.out _ (H5.out.ext (X0.out.trans (Later.h _)) hS) (z08 hS (X0.out.trans (Later.h _))))) | (go_at_call 47; exact Later.done (HCO.out _ (HP5.out.ext (X0.out.trans (Later.h _)) hS) (H5.out.ext (X0.out.trans (Later.h _)) hS) (z08 hS (X0.out.trans (Later.h _)))))))
        refine wpQuiet_nil ?_
        intro W hW
        have HW:=hid (X0.out.trans hW)
        clear hW
        go_wp2
        all_goals
         go_ret
         exact ⟨by rw [HF.out]; rfl,HW.out⟩
       ·have hb1:decide (od ≤ 0) = false:=by simpa using hc1
        have CS:=fun (W:World) (h:IntV S W (.agg #[.bool ng,.slice am zs.length cm]) ⟨ng,zs⟩) hs => z1m (S:=S) _ _ W h hs (Nat.le_trans HSM.out (by decide))
        simp only [hs] at CS
        have HCS:=hid CS
        clear CS
        have CM:=fun (W:World) (h:IntV S W (.agg #[.bool ng,.slice am zs.length cm]) ⟨ng,zs⟩) hs => z4x (S:=S) _ _ W h hs
        simp only [hi] at CM
        have HCM:=hid CM
        clear CM
        have CQ:=fun (W:World) (h:Pows S W (.slice ao m.length co) m) hs => z32 (S:=S) _ _ W h hs
        simp only [hq] at CQ
        have HCQ:=hid CQ
        clear CQ
        have CO:=fun (W:World) (h1:Pows S W (.slice ap u.m.length cp) u.m) (h2:Pows S W (.slice ao m.length co) m) hs => z7a (S:=S) _ _ _ _ W h1 h2 hs
        simp only [ho] at CO
        have HCO:=hid CO
        clear CO
        have HF:Hid (mayT ts = z4w (befT ts (k + 1 + 1)) (ts.drop (k + 1 + 1))):=hid (by rw [HM.out,HBF.out,zb7 (by rw [hs]; exact hc0) hi hq]; simp only; rw [ho,decide_eq_true (by omega)]; simp)
        clear hs
        clear hi
        clear hq
        clear ho
        go_wp2
        refine z03 (by kernel_rfl) (by kernel_rfl) ?_
        repeat (go_big_quiet_step (first | (go_at_call 44; exact Later.done (HCS.out _ (z2x (H4.out.ext (X0.out.trans (Later.h _)) hS)) (z08 hS (X0.out.trans (Later.h _))))) | (go_at_call 45; exact Later.done (HCM.out _ (z2x (H4.out.ext (X0.out.trans (Later.h _)) hS)) (z08 hS (X0.out.trans (Later.h _))))) | (go_at_call 46; exact Later.done (HCQ.out _ (H5.out.ext (X0.out.trans (Later.h _)) hS) (z08 hS (X0.out.trans (Later.h _))))) | (go_at_call 47; exact Later.done (HCO.out _ (HP5.out.ext (X0.out.trans (Later.h _)) hS) (H5.out.ext (X0.out.trans (Later.h _)) hS) (z08 hS (X0.out.trans (Later.h _)))))))
        refine wpQuiet_nil ?_
        intro W hW
        have HW:=hid (X0.out.trans hW)
        clear hW
        go_wp2
        go_roundw
        case rel => exact ⟨_,by omega,by go_num,HW.out,HF.out⟩
        case measure => simp only [intOf]; omega
  ·obtain rfl:k = ts.length:=by omega
   have HX:=hid hx
   have HF:Hid (mayT ts = true):=hid (by rw [hm,List.drop_length]; rfl)
   clear hx hm
   go_wp2
   all_goals
    go_ret
    exact ⟨by rw [HF.out]; rfl,HX.out⟩
end
section
open Go.RowKit
section
variable {P:Program}
def zcr (w:World) (A:Option Addr) (m size:Nat) (news:List Value):Prop :=
 news.length = m * size ∧ (∀ u ∈ news,u.oneCell' = true) ∧ (0 < m → ∃ ad,A = some ad ∧ ∀ j u,news[j]? = some u → w.cell? (ad.add j) = some u)
theorem zcs (w:World) {base:Nat} {t e ty:TypeId} {i:TypeInfo} {size:Nat} (ht:P.underlying t = some (.slice e)) (hi:P.info? e = some i)
  {v:Value} {n:Nat} {xs:List Value} (h:w.ownsRow base e size v n xs) (c:Nat):(Builtin.append_ #[t,t] ty #[v,.slice none 0 c]).run P w = .ok v w:=by
 obtain ⟨_,⟨rfl,rfl⟩ | ⟨g,k,row,rfl,_,_,hk,_⟩⟩:=h
 all_goals simp [Builtin.append_,run_underlying ht,sizeOf,typeInfo,Builtin.lenOf,Builtin.firstCells,storeCells, *]
theorem z5k (w:World) (base:Nat) (t ty e:TypeId) (i:TypeInfo) (z:Value) (size bytes:Nat) (ht:P.underlying t = some (.slice e)) (hi:P.info? e = some i) (hz:i.zero = some z)
  (hsize:i.size = size) (hby:i.bytes = bytes) (hzs:z.cells.size = size) (hsz:0 < size)
  (v:Value) (n:Nat) (xs:List Value) (hown:w.ownsRow base e size v n xs)
  (A:Option Addr) (m c:Nat) (news:List Value) (hsrc:zcr w A m size news) (h63:n + m ≤ maxLen) (hbytes:(n + m) * bytes ≤ 140737488355328) (hbase:base ≤ w.heap.size) :
  ∃ v' w',(Builtin.append_ #[t,t] ty #[v,.slice A m c]).run P w = .ok v' w' ∧ w'.ownsRow base e size v' (n + m) (xs ++ news) ∧ w.grownBy w' v.ownBlock ∧ (v'.ownBlock = v.ownBlock ∨ v'.ownBlock = some w.heap.size):=by
 obtain ⟨hl,h1,hat⟩:=hsrc
 cases A with
 | some ad =>
  obtain ⟨v',w',k1,k2,k3,_,k5⟩:=run_append_own_at (P:=P) w base t ty e i z size bytes ht hi hz hsize hby hzs hsz v n xs hown ad m c news hl (fun j u hu => by
   have hm:0 < m:=by
    rcases Nat.eq_zero_or_pos m with rfl | h0
    ·have:=z05 hu; omega
    ·exact h0
   obtain ⟨ad',e,hc⟩:=hat hm
   cases e
   exact hc j u hu) h1 h63 hbytes hbase
  exact ⟨v',w',k1,k2,k3,k5⟩
 | none =>
  obtain rfl:m = 0:=by
   rcases Nat.eq_zero_or_pos m with h0 | h0
   ·exact h0
   ·obtain ⟨ad',e,_⟩:=hat h0
    cases e
  obtain rfl:news = []:=List.length_eq_zero_iff.1 (by omega)
  exact ⟨v,w,zcs w ht hi hown c,by simpa using hown,⟨rfl,rfl,rfl,Nat.le_refl _,fun _ _ _ => rfl⟩,.inl rfl⟩
theorem z0u (w:World) {ops:Array Oper} {rest:List Oper} {o:Oper} {a:Act} {Q:Exit → Act → World → Prop} (hgd:o.guard = none) (s x:Operand) (t:TypeId)
  (ho:o.op = .call { callee:=.builtin .append,args:=#[s,x],argTypes:=#[t,t] })
  (base:Nat) (e:TypeId) (i:TypeInfo) (z:Value) (size bytes:Nat) (ht:P.underlying t = some (.slice e)) (hi:P.info? e = some i) (hz:i.zero = some z)
  (hsize:i.size = size) (hby:i.bytes = bytes) (hzs:z.cells.size = size) (hsz:0 < size)
  (v:Value) (n:Nat) (xs:List Value) (hs:a.eval s = v) (hown:w.ownsRow base e size v n xs)
  (A:Option Addr) (m c:Nat) (news:List Value) (hx:a.eval x = .slice A m c) (hsrc:zcr w A m size news)
  (h63:n + m ≤ maxLen) (hbytes:(n + m) * bytes ≤ 140737488355328) (hbase:base ≤ w.heap.size)
  (h:∀ v' w',w'.ownsRow base e size v' (n + m) (xs ++ news) → w.grownBy w' v.ownBlock → (v'.ownBlock = v.ownBlock ∨ v'.ownBlock = some w.heap.size) → wpList P ops Q rest (a.put o.dst v') w'):wpList P ops Q (o :: rest) a w:=by
 obtain ⟨v',w',hrun,h2,h3,h4⟩:=z5k (P:=P) w base t o.type e i z size bytes ht hi hz hsize hby hzs hsz v n xs hown A m c news hsrc h63 hbytes hbase
 refine wpList_plain hgd fun K hK => ?_
 unfold Oper.wp execOp
 simp only [ho,resolve,invoke,builtin,Sem.run_bind,Sem.run_pure,Result.andThen_ok,List.map_toArray,List.map_cons,List.map_nil,hs,hx,hrun]
 exact hK _ _ (h v' w' h2 h3 h4)
theorem z0l (W:World) {ops:Array Oper} {rest:List Oper} {o:Oper} {a:Act} {Q:Exit → Act → World → Prop} (hgd:o.guard = none) (s x:Operand) (t:TypeId)
  (ho:o.op = .call { callee:=.builtin .append,args:=#[s,x],argTypes:=#[t,t] })
  (base:Nat) (e:TypeId) (z:Value) (size bytes:Nat) (ht:P.underlying t = some (.slice e)) (hinfo:(P.info? e).map (fun i => (i.zero,i.size,i.bytes)) = some (some z,size,bytes)) (hzs:z.cells.size = size) (hsz:0 < size)
  (v:Value) (n:Nat) (xs:List Value) (hs:a.eval s = v) (hown:W.ownsRow base e size v n xs)
  (cs:Array Value) (hcs:cs.size = size) (h1:∀ u ∈ cs.toList,u.oneCell' = true) (hx:a.eval x = .slice (some ⟨W.heap.size,0,none⟩) 1 1)
  (hn:n ≤ 1000000000) (hbytes:bytes ≤ 10000) (hbase:base ≤ W.heap.size)
  (h:∀ v' w',w'.ownsRow base e size v' (n + 1) (xs ++ cs.toList) → W.grownBy w' v.ownBlock → (v'.ownBlock = v.ownBlock ∨ v'.ownBlock = some (W.heap.size + 1)) → wpList P ops Q rest (a.put o.dst v') w'):wpList P ops Q (o :: rest) a (W.alloc (.cells cs e)):=by
 obtain ⟨i,hi,hz0,hz1,hz2⟩:=info_parts hinfo
 have hg0:=World.grownBy_alloc W (.cells cs e) v.ownBlock
 refine z0u _ hgd s x t ho base e i z size bytes ht hi hz0 hz1 hz2 hzs hsz v n xs hs (hown.alloc _) _ 1 1 cs.toList hx ⟨by simpa using hcs,h1,fun _ => ⟨_,rfl,fun j u hu => ?_⟩⟩ (by unfold maxLen; omega) ?_ (Nat.le_trans hbase hg0.size) (fun v' w' k1 k2 k3 => h v' w' k1 ?_ ?_)
 ·rw [show (⟨W.heap.size,0,none⟩:Addr).add j = ⟨W.heap.size,j,none⟩ by unfold Addr.add; split <;> simp_all]
  exact z04 W cs e rfl (by simpa using hu)
 ·have:(n + 1) * bytes ≤ 1000000001 * 10000:=Nat.mul_le_mul (by omega) hbytes
  omega
 ·exact ⟨k2.os.trans hg0.os,k2.tape.trans hg0.tape,k2.output.trans hg0.output,Nat.le_trans hg0.size k2.size,fun k hk hne => (k2.block k (Nat.lt_of_lt_of_le hk hg0.size) hne).trans (hg0.block k hk hne)⟩
 ·rw [z02] at k3
  exact k3
theorem z1y (W:World) {ops:Array Oper} {rest:List Oper} {o:Oper} {a:Act} {Q:Exit → Act → World → Prop} (hgd:o.guard = none) (s x:Operand) (t:TypeId)
  (ho:o.op = .call { callee:=.builtin .append,args:=#[s,x],argTypes:=#[t,t] })
  (base:Nat) (e:TypeId) (z:Value) (size bytes:Nat) (ht:P.underlying t = some (.slice e)) (hinfo:(P.info? e).map (fun i => (i.zero,i.size,i.bytes)) = some (some z,size,bytes)) (hzs:z.cells.size = size) (hsz:0 < size)
  (v:Value) (n:Nat) (xs:List Value) (hs:a.eval s = v) (hown:W.ownsRow base e size v n xs)
  (cs:Array Value) (hcs:cs.size = size) (h1:∀ u ∈ cs.toList,u.oneCell' = true) (hx:a.eval x = .slice (some ⟨W.heap.size,0,none⟩) 1 1)
  (hn:n ≤ 1000000000000) (hbytes:bytes ≤ 100) (hbase:base ≤ W.heap.size)
  (h:∀ v' w',w'.ownsRow base e size v' (n + 1) (xs ++ cs.toList) → W.grownBy w' v.ownBlock → (v'.ownBlock = v.ownBlock ∨ v'.ownBlock = some (W.heap.size + 1)) → wpList P ops Q rest (a.put o.dst v') w'):wpList P ops Q (o :: rest) a (W.alloc (.cells cs e)):=by
 obtain ⟨i,hi,hz0,hz1,hz2⟩:=info_parts hinfo
 have hg0:=World.grownBy_alloc W (.cells cs e) v.ownBlock
 refine z0u _ hgd s x t ho base e i z size bytes ht hi hz0 hz1 hz2 hzs hsz v n xs hs (hown.alloc _) _ 1 1 cs.toList hx ⟨by simpa using hcs,h1,fun _ => ⟨_,rfl,fun j u hu => ?_⟩⟩ (by unfold maxLen; omega) ?_ (Nat.le_trans hbase hg0.size) (fun v' w' k1 k2 k3 => h v' w' k1 ?_ ?_)
 ·rw [show (⟨W.heap.size,0,none⟩:Addr).add j = ⟨W.heap.size,j,none⟩ by unfold Addr.add; split <;> simp_all]
  exact z04 W cs e rfl (by simpa using hu)
 ·have:(n + 1) * bytes ≤ 1000000000001 * 100:=Nat.mul_le_mul (by omega) hbytes
  omega
 ·exact ⟨k2.os.trans hg0.os,k2.tape.trans hg0.tape,k2.output.trans hg0.output,Nat.le_trans hg0.size k2.size,fun k hk hne => (k2.block k (Nat.lt_of_lt_of_le hk hg0.size) hne).trans (hg0.block k hk hne)⟩
 ·rw [z02] at k3
  exact k3
end
theorem z8c (b off j:Nat):(⟨b,off,none⟩:Addr).add j = ⟨b,off + j,none⟩:=by
 unfold Addr.add
 split
 ·rename_i h
  subst h
  rfl
 ·rfl
theorem zmy (m:Mono):∀ u ∈ z4b m,u.oneCell' = true:=by
 intro u hu
 obtain ⟨x,_,hx⟩:=List.mem_flatMap.1 hu
 simp at hx
 rcases hx with rfl | rfl <;> rfl
theorem zre {m:Mono} {j:Nat} {u:Value} (h:(z4b m)[j]? = some u):∃ k x,m[k]? = some x ∧ (j = k * 2 ∧ u = .int .i64 x.1 ∨ j = k * 2 + 1 ∧ u = .int .i64 x.2):=by
 have hj:=z05 h
 rw [z9z] at hj
 obtain ⟨x,hx⟩:=z01 (show j / 2 < m.length by omega)
 obtain ⟨h1,h2⟩:=zb0 hx
 refine ⟨j / 2,x,hx,?_⟩
 rcases (show j = j / 2 * 2 ∨ j = j / 2 * 2 + 1 by omega) with e | e
 ·rw [← e] at h1
  exact .inl ⟨e,Option.some.inj (h.symm.trans h1)⟩
 ·rw [← e] at h2
  exact .inr ⟨e,Option.some.inj (h.symm.trans h2)⟩
theorem Pows.src {S:Nat → Prop} {w:World} {A:Option Addr} {n cap:Nat} {m:Mono} (h:Pows S w (.slice A n cap) m):n = m.length ∧ zcr w A n 2 (z4b m):=by
 obtain ⟨b,off,⟨a',cap',h1,h2,h3,h4,h5⟩,hc⟩:=h
 obtain ⟨rfl,rfl,rfl⟩:A = a' ∧ n = m.length ∧ cap = cap':=by simpa using h1
 refine ⟨rfl,z9z m,zmy m,fun h0 => ⟨_,h4 h0,fun j u hu => ?_⟩⟩
 obtain ⟨k,x,hx,⟨rfl,rfl⟩ | ⟨rfl,rfl⟩⟩:=zre hu
 ·rw [z8c]
  exact (hc k x hx).2.1
 ·rw [z8c]
  exact (hc k x hx).2.2
theorem Tryz.infoPower:(Tryz.prog.info? 52).map (fun i => (i.zero,i.size,i.bytes)) = some (some (.agg #[.int .i64 0,.int .i64 0]),2,16):=by kernel_rfl
theorem Pows.of_none {S:Nat → Prop} {w:World} {n cap:Nat} {m:Mono} (h:Pows S w (.slice Option.none n cap) m):m = []:=by
 obtain ⟨b,off,⟨a',cap',h1,h2,h3,h4,h5⟩,hc⟩:=h
 obtain ⟨rfl,rfl,rfl⟩:Option.none = a' ∧ n = m.length ∧ cap = cap':=by simpa using h1
 rcases Nat.eq_zero_or_pos m.length with h0 | h0
 ·exact List.length_eq_zero_iff.1 h0
 ·cases h4 h0
theorem z7f {S:Nat → Prop} (v:Value) (m:Mono) (w:World) (h:Pows S w v m) (hS:∀ k,S k → k < w.heap.size) (hr:m.length ≤ 1000000) :
  Calls Tryz.prog 61 #[v] w fun e w' => ∃ v',e = .returned v' ∧ Pows (New w w') w' v' m ∧ Ext w w':=by
 obtain ⟨i0,hi,hz0,hz1,hz2⟩:=info_parts Tryz.infoPower
 have hb:=h.inBounds
 have H:=hid h
 have HB:=hid hb
 obtain ⟨A,c,rfl⟩:=h.form
 clear h hb
 have hnil:=fun (w:World) => Lib.run_eql_slice_nil (P:=Tryz.prog) w 48 52 A m.length c 0 0 Tryz.underlying48
 cases A with
 | none =>
  have HM:=hid H.out.of_none
  go_enter Tryz.func61,Tryz.ntmps61
  go_wp2
  all_goals
   go_ret
   exact ⟨_,rfl,by rw [HM.out]; exact Pows.empty _ _ _,Ext.refl _⟩
 | some ad =>
  have HS:=hid ((H.out.to (Kept.ext (Ext.alloc (Ext.refl w) (.cells #[] 52)) hS) (fun _ h => h)).src.2)
  have HO:=hid (World.ownsRow_made (base:=w.heap.size) (e:=52) (size:=2) w #[] 0 (Nat.le_refl _) (by unfold maxLen; omega) (by simp))
  have HR:=hid hr
  go_enter Tryz.func61,Tryz.ntmps61
  go_wp2_with (at_builtin; refine z0u _ rfl (.tmp 5) (.tmp 6) 48 rfl w.heap.size 52 i0 (.agg #[.int .i64 0,.int .i64 0]) 2 16 Tryz.underlying48 hi hz0 hz1 hz2 rfl (by decide) (.slice (some ⟨w.heap.size,0,none⟩) 0 0) 0 [] rfl HO.out (some ad) m.length c (z4b m) rfl HS.out (by have:=HR.out; unfold maxLen; omega) (by have:=HR.out; omega) (by simp) ?_; intro v1 w1 hown hg _; have HW:=hid hown; have HG:=hid hg; clear hown hg)
  go_ret
  have hx:Ext w w1:=by
   refine z0n (Ext.alloc (Ext.refl w) _) HG.out (fun k hk => ?_)
   have e:w.heap.size = k:=by simpa [Value.ownBlock] using hk
   omega
  refine ⟨v1,rfl,?_,hx⟩
  refine z8p (e:=52) ?_ HB.out
  simpa using HW.out
end
section
open Go.RowKit
def Digs (S:Nat → Prop) (w:World) (v:Value) (zs:List Nat):Prop :=
 ∃ b off,z3a S v zs.length b off ∧ ∀ j z,zs[j]? = some z → z < 10 ∧ w.cell? ⟨b,off + j,none⟩ = some (.int .i64 (z:Nat))
section
variable {S S':Nat → Prop} {w w':World} {v:Value}
theorem Digs.form {zs:List Nat} (h:Digs S w v zs):∃ a cap,v = .slice a zs.length cap:=by
 obtain ⟨b,off,⟨a,cap,h1,_⟩,_⟩:=h
 exact ⟨a,cap,h1⟩
theorem Digs.to {zs:List Nat} (h:Digs S w v zs) (hk:Kept S w w') (hS:∀ k,S k → S' k):Digs S' w' v zs:=by
 obtain ⟨b,off,hs,hc⟩:=h
 exact ⟨b,off,hs.mono hS,fun j z hz => ⟨(hc j z hz).1,hk.cell (hs.in (z05 hz)) (hc j z hz).2⟩⟩
theorem Digs.ext {zs:List Nat} (h:Digs S w v zs) (hx:Ext w w') (hS:∀ k,S k → k < w.heap.size):Digs S w' v zs:=h.to (Kept.ext hx hS) (fun _ h => h)
theorem Digs.len_le {zs:List Nat} (h:Digs S w v zs):zs.length ≤ 9223372036854775807:=by
 obtain ⟨b,off,⟨a,cap,h1,h2,h3,_⟩,_⟩:=h
 unfold maxLen at h3
 omega
theorem Digs.lt {zs:List Nat} (h:Digs S w v zs):∀ z ∈ zs,z < 10:=by
 obtain ⟨b,off,hs,hc⟩:=h
 intro z hz
 obtain ⟨j,hj⟩:=List.getElem?_of_mem hz
 exact (hc j z hj).1
theorem Digs.cellAt {zs:List Nat} {a:Option Addr} {n cap k z:Nat} (h:Digs S w (.slice a n cap) zs) (hz:zs[k]? = some z) :
  ∃ b off,a = some ⟨b,off,none⟩ ∧ n = zs.length ∧ n ≤ cap ∧ cap ≤ 9223372036854775807 ∧ S b ∧ z < 10 ∧ w.cell? ⟨b,off + k,none⟩ = some (.int .i64 (z:Nat)):=by
 obtain ⟨b,off,⟨a',cap',h1,h2,h3,h4,h5⟩,hc⟩:=h
 obtain ⟨rfl,rfl,rfl⟩:a = a' ∧ n = zs.length ∧ cap = cap':=by simpa using h1
 have hp:0 < zs.length:=by have:=z05 hz; omega
 exact ⟨b,off,h4 hp,rfl,h2,h3,h5 hp,hc k z hz⟩
theorem Digs.take {zs:List Nat} {a:Option Addr} {n cap k:Nat} (h:Digs S w (.slice a n cap) zs) (hk:k ≤ n):Digs S w (.slice a k cap) (zs.take k):=by
 obtain ⟨b,off,⟨a',cap',h1,h2,h3,h4,h5⟩,hc⟩:=h
 obtain ⟨rfl,rfl,rfl⟩:a = a' ∧ n = zs.length ∧ cap = cap':=by simpa using h1
 have hl:(zs.take k).length = k:=by rw [List.length_take]; omega
 refine ⟨b,off,⟨a,cap,by rw [hl],by omega,h3,fun h => h4 (by omega),fun h => h5 (by omega)⟩,fun j z hz => hc j z ?_⟩
 rw [List.getElem?_take] at hz
 split at hz
 ·exact hz
 ·simp at hz
theorem Digs.nilv (S:Nat → Prop) (w:World) (a:Option Addr) (cap:Nat) (h:cap ≤ 9223372036854775807):Digs S w (.slice a 0 cap) [] :=
 ⟨0,0,⟨a,cap,rfl,Nat.zero_le _,by unfold maxLen; omega,fun h => absurd h (Nat.lt_irrefl _),fun h => absurd h (Nat.lt_irrefl _)⟩,fun j x hx => by simp at hx⟩
def dval (z:Nat):Value:=.int .i64 (z:Nat)
theorem zdy {base:Nat} {e:TypeId} {ds:List Nat} (h:w.ownsRow base e 1 v ds.length (ds.map dval)) (hl:∀ z ∈ ds,z < 10):Digs (fun k => base ≤ k ∧ k < w.heap.size) w v ds:=by
 have hlt:=h.lt
 rcases h.2 with ⟨rfl,h0⟩ | ⟨g,cap,cur,rfl,hg,hh,h1,h2,h3,h4⟩
 ·obtain rfl:ds = []:=List.length_eq_zero_iff.1 h0
  exact Digs.nilv _ _ _ _ (by omega)
 ·refine ⟨g,0,⟨_,cap,rfl,h1,h2,fun _ => rfl,fun _ => hlt g rfl⟩,fun j z hz => ⟨hl z (List.mem_of_getElem? hz),?_⟩⟩
  rw [h.cellAt (0 + j) (by have:=z05 hz; omega),Nat.zero_add]
  simp [hz,dval]
theorem z41 {base:Nat} {e:TypeId} {o:List Nat} {u:Value} {f:Nat → Value} (h:w.ownsRow base e 1 v (o.length + 1) (o.map f ++ [u])) {z:Nat} (hu:u = f z):w.ownsRow base e 1 v (o ++ [z]).length ((o ++ [z]).map f):=by
 subst hu
 simpa using h
theorem z42 {u:Value} (h:u.oneCell' = true):∀ x ∈ (#[u]:Array Value).toList,x.oneCell' = true:=by
 intro x hx
 obtain rfl:x = u:=by simpa using hx
 exact h
end
theorem z0h:2 ≤ 10:=by decide
theorem Tryz.infoInt:(Tryz.prog.info? 3).map (fun i => (i.zero,i.size,i.bytes)) = some (some (.int .i64 0),1,8):=by kernel_rfl
theorem zap {S:Nat → Prop} (v:Value) (zs:List Nat) (w:World) (h:Digs S w v zs) :
  Calls Tryz.prog 101 #[v] w fun e w' => ∃ v',e = .returned v' ∧ Digs S w v' (rep 10 (val 10 zs)) ∧ w = w':=by
 have hl:=h.len_le
 have H:=hid h
 obtain ⟨a,cap,rfl⟩:=h.form
 clear h
 go_enter Tryz.func101,Tryz.ntmps101
 go_wp2
 go_loop [0] (fun x => ∃ k:Nat,k ≤ zs.length ∧ x = .slice a k cap ∧ z2m zs k = z2m zs zs.length) (fun x => z1i x)
 case atStart => exact ⟨zs.length,Nat.le_refl _,rfl,rfl⟩
 case round =>
  obtain ⟨k,hk,rfl,ht⟩:=hrel
  cases k with
  | zero =>
   have HT:=hid ht
   clear ht
   go_wp2
   all_goals
    go_ret
    refine ⟨_,rfl,?_,rfl⟩
    have h1:=H.out.take (Nat.zero_le _)
    rw [← z5r z0h zs H.out.lt,← List.take_length (l:=zs),← z4u zs _ (Nat.le_refl _),← HT.out]
    exact h1
  | succ k =>
   obtain ⟨z,hz⟩:=z01 (show k < zs.length by omega)
   obtain ⟨b,off,rfl,-,hcap,hmax,-,hzb,hcell⟩:=H.out.cellAt hz
   have HT:=hid ht
   have HZ:=hid hz
   clear ht hz
   by_cases h0:z = 0
   ·have hb:((z:Int) == 0) = true:=by simpa using h0
    have H0:=hid h0
    clear h0
    go_wp2
    go_round
    case rel => exact ⟨k,by omega,rfl,by rw [← HT.out,z2m,HZ.out,H0.out,if_pos rfl]⟩
    case measure => simp only [z1i]; omega
   ·have hb:((z:Int) == 0) = false:=by simpa using h0
    have H0:=hid h0
    clear h0
    go_wp2
    all_goals
     go_ret
     refine ⟨_,rfl,?_,rfl⟩
     have h1:=H.out.take hk
     have h2:z2m zs (k + 1) = k + 1:=by rw [z2m,HZ.out,if_neg (by simpa using H0.out)]
     rw [← z5r z0h zs H.out.lt,← List.take_length (l:=zs),← z4u zs _ (Nat.le_refl _),← HT.out,h2]
     exact h1
end
section
open Go.RowKit
theorem zmz {V k:Nat} (h:V < 10 ^ k):(rep B32 V).length ≤ k:=z0f z00 _ _ (Nat.lt_of_lt_of_le h (Nat.pow_le_pow_left (by decide) k))
theorem zfm {B N m:Nat} {o:List Nat} (hB:2 ≤ B) (h:rep B N = o ++ rep B m) (hm:0 < m):rep B N = (o ++ [m % B]) ++ rep B (m / B):=by
 rw [h,z6p hB hm]
 simp
theorem zn0 (n:Nat) (w:World) (hn:n < 18446744073709551616) :
  Calls Tryz.prog 65 #[.int .u64 (n:Nat)] w fun e w' => ∃ v',e = .returned v' ∧ Digs (New w w') w' v' (rep 10 n) ∧ Ext w w':=by
 have hlen:(rep 10 n).length ≤ 20:=z0f z0h _ _ (Nat.lt_of_lt_of_le hn (by decide))
 have HL:=hid hlen
 clear hlen
 go_enter Tryz.func65,Tryz.ntmps65
 go_wp2
 go_loopw [0,3] (fun i x wr => ∃ (m:Nat) (o:List Nat),i = .int .u64 m ∧ m < 18446744073709551616 ∧ Hid (rep 10 n = o ++ rep 10 m) ∧ Hid (wr.ownsRow w.heap.size 3 1 x o.length (o.map dval)) ∧ Ext w wr) (fun i _ _ => (intOf i).toNat)
 case atStart => exact ⟨n,[],rfl,hn,hid rfl,hid (World.ownsRow_nil _ _ _ _),Ext.refl _⟩
 case round =>
  obtain ⟨m,o,rfl,hm,HV,HW,hx⟩:=hrel
  have HX:=hid hx
  clear hx
  by_cases h0:0 < m
  ·have hol2:o.length ≤ 1000000000:=by
    have:=HL.out
    rw [HV.out,List.length_append] at this
    omega
   go_wp2_with (at_builtin; refine z0l _ rfl (.tmp 6) (.tmp 10) 100 rfl w.heap.size 3 (.int .i64 0) 1 8 Tryz.underlying100 Tryz.infoInt rfl (by decide) _ o.length (o.map dval) rfl HW.out _ rfl (z42 rfl) rfl hol2 (by decide) HX.out.size ?_; intro v1 w1 hown hg _; have HOW:=hid hown; have HG:=hid hg; clear hown hg)
   go_roundw
   case rel =>
    refine ⟨m / 10,o ++ [m % 10],by go_num,by omega,hid (zfm z0h HV.out h0),hid (z41 HOW.out (by unfold dval; congr 1)),z0n HX.out HG.out ?_⟩
    intro q hq
    exact (HW.out.lt q hq).1
   case measure => simp only [intOf]; omega
  ·obtain rfl:m = 0:=by omega
   have e:rep 10 n = o:=by rw [HV.out,z36,List.append_nil]
   have E:=hid e
   clear e
   go_wp2
   all_goals
    go_ret
    refine ⟨_,rfl,?_,HX.out⟩
    rw [E.out]
    exact zdy HW.out (fun z hz => z3q z0h n z (by rw [E.out]; exact hz))
def rowD (o:List Nat):Nat → Value:=fun j => dval (dg o j)
theorem zdz {w:World} {T:TypeId} {n g:Nat} {o:List Nat} (h:w.rowIs g T n (rowD o)) (k z:Nat) (hk:k < o.length):(w.setCell ⟨g,k,none⟩ (dval z)).rowIs g T n (rowD (o.set k z)):=by
 refine (h.set k (dval z)).congr (fun i hi => ?_)
 unfold rowD dg
 rw [List.getElem?_set]
 by_cases e:i = k
 ·subst e
  simp [hk]
 ·rw [if_neg e,if_neg (fun h => e h.symm)]
theorem zd4 (w:World) (n:Nat) (T:TypeId):(w.alloc (.cells (madeCells #[.int .i64 0] n) T)).rowIs w.heap.size T n (rowD (List.replicate n 0)) :=
 (World.rowIs_made w (.int .i64 0) n T).congr (fun i hi => by simp [rowD,dg,dval,hi])
theorem Digs.of_row {w:World} {T:TypeId} {g cap:Nat} {o:List Nat} (h:w.rowIs g T cap (rowD o)) (ho:o.length = cap) (hl:∀ z ∈ o,z < 10) (hc:cap ≤ 9223372036854775807):Digs (fun k => k = g) w (.slice (some ⟨g,0,none⟩) cap cap) o:=by
 subst ho
 refine ⟨g,0,⟨_,o.length,rfl,Nat.le_refl _,by unfold maxLen; omega,fun _ => rfl,fun _ => rfl⟩,fun j z hz => ⟨hl z (List.mem_of_getElem? hz),?_⟩⟩
 have hj:=z05 hz
 rw [Nat.zero_add,h.cell (i:=j) hj]
 simp [rowD,dval,dg,hz]
theorem drop_set {o:List Nat} {q z:Nat} (h:q < o.length):(o.set q z).drop q = z :: o.drop (q + 1):=by
 rw [List.drop_eq_getElem_cons (by simpa using h)]
 simp [List.drop_set]
theorem zvn {ds o:List Nat} {q x n r:Nat} (hx:ds[q]? = some x) (hq:q < o.length) (h:val 10 (ds.drop (q + 1)) = val 10 (o.drop (q + 1)) * n + r) :
  val 10 (ds.drop q) = val 10 ((o.set q ((r * 10 + x) / n)).drop q) * n + (r * 10 + x) % n:=by
 rw [z7b hx,drop_set hq,val,h]
 have:=zmb (V:=val 10 (o.drop (q + 1)) * n + r) (d:=x) (n:=n) (q:=val 10 (o.drop (q + 1))) (r:=r) rfl
 rw [Nat.mul_comm r 10,Nat.add_comm x,this,Nat.add_comm (10 * val 10 (List.drop (q + 1) o))]
theorem zy1 {S:Nat → Prop} (v:Value) (zs:List Nat) (n:Int) (w:World) (h:Digs S w v zs) (_hS:∀ k,S k → k < w.heap.size) (hr:zs.length ≤ 10000000) (hn0:0 < n) (hn:n ≤ 65536) :
  Calls Tryz.prog 108 #[v,.int .i64 n] w fun e w' => ∃ v',e = .returned (.tuple #[v',.int .i64 ((val 10 zs % n.toNat:Nat):Int)]) ∧ Digs (New w w') w' v' (rep 10 (val 10 zs / n.toNat)) ∧ Ext w w':=by
 obtain ⟨n,rfl⟩:=Int.eq_ofNat_of_zero_le (Int.le_of_lt hn0)
 simp only [Int.toNat_natCast]
 have hnp:0 < n:=by omega
 have H:=hid h
 have HLT:=hid h.lt
 obtain ⟨a,cap,rfl⟩:=h.form
 clear h hn0
 have hmk:=run_make_row' (P:=Tryz.prog) 100 3 (.int .i64 0) 8 Tryz.underlying100 Tryz.infoInt rfl .i64 .i64 zs.length (by omega) (by omega) w
 have hz:w.heap.size < (w.alloc (.cells (madeCells #[.int .i64 0] zs.length) 3)).heap.size:=by simp
 have HR:=hid (zd4 w zs.length 3)
 have HE:=hid (Ext.alloc (Ext.refl w) (.cells (madeCells #[.int .i64 0] zs.length) 3))
 go_enter Tryz.func108,Tryz.ntmps108
 go_wp2
 go_loopw [7,8] (fun rr i wr => ∃ (k r:Nat) (o:List Nat),k ≤ zs.length ∧ i = .int .i64 ((k:Int) - 1) ∧ rr = .int .i64 r ∧ r < n ∧ Hid (o.length = zs.length) ∧ Hid (∀ z ∈ o,z < 10) ∧ wr.rowIs w.heap.size 3 zs.length (rowD o) ∧ Ext w wr ∧
  Hid (val 10 (zs.drop k) = val 10 (o.drop k) * n + r)) (fun _ i _ => (intOf i + 1).toNat)
 case atStart => exact ⟨zs.length,0,List.replicate zs.length 0,Nat.le_refl _,rfl,rfl,hnp,hid (by simp),hid (by simp),HR.out,HE.out,hid (by rw [List.drop_length,List.drop_eq_nil_of_le (by simp)]; simp [val])⟩
 case round =>
  obtain ⟨k,r,o,hk,rfl,rfl,hrn,HOL,HO,hrow,hx,HV⟩:=hrel
  cases k with
  | succ q =>
   have hq1:((q + 1:Nat):Int) - 1 = (q:Int):=by omega
   have hqn:q < zs.length:=by omega
   obtain ⟨x,hx1⟩:=z01 hqn
   obtain ⟨b,off,rfl,-,hn1,hm1,hSb,hxb,hc1⟩:=H.out.cellAt hx1
   have g1:=hx.cell hc1
   have hcs:=hrow.cell (i:=q) hqn
   have hfs:=hrow.frozen q
   have HX1:=hid hx1
   have HROW:=hid hrow
   have HX:=hid hx
   obtain ⟨p,hp⟩:∃ p:Nat,p = r * 10 + x:=⟨_,rfl⟩
   have hmul:(r:Int) * 10 + (x:Int) = (p:Int):=by rw [hp]; omega
   have hpb:p < n * 10:=by rw [hp]; omega
   obtain ⟨dq,hdq⟩:∃ d,d = p / n:=⟨_,rfl⟩
   obtain ⟨dm,hdm⟩:∃ d,d = p % n:=⟨_,rfl⟩
   have hpd:dq < 10:=by rw [hdq]; exact Nat.div_lt_of_lt_mul hpb
   have hpm:dm < n:=by rw [hdm]; exact Nat.mod_lt _ hnp
   have hdv:(p:Int) / (n:Int) = (dq:Int):=by rw [hdq]; simp
   have hmd:(p:Int) % (n:Int) = (dm:Int):=by rw [hdm]; simp
   have HDQ:=hid hdq
   have HDM:=hid hdm
   clear hdq hdm
   have HP:=hid hp
   clear hx1 hc1 hx hrow hp
   have hne:¬ n = 0:=by omega
   simp only [hq1]
   go_wp2
   go_roundw
   case rel =>
    have hs:(wr.setCell ⟨w.heap.size,q,none⟩ (dval dq)).rowIs w.heap.size 3 zs.length (rowD (o.set q dq)):=zdz HROW.out q dq (by rw [HOL.out]; exact hqn)
    refine ⟨q,dm,o.set q dq,by omega,rfl,congrArg (Value.int .i64) hmd,hpm,hid (by simpa using HOL.out),?_,hs,HX.out.setCell (p:=⟨w.heap.size,q,none⟩) (Nat.le_refl _) _,hid ?_⟩
    ·refine hid (fun z hz => ?_)
     rcases List.mem_or_eq_of_mem_set hz with h | h
     ·exact HO.out z h
     ·rw [h]; exact hpd
    ·rw [HDQ.out,HDM.out,HP.out]
     exact zvn HX1.out (by rw [HOL.out]; exact hqn) HV.out
   case measure => simp only [intOf]; omega
  | zero =>
   have HROW:=hid hrow
   have HX:=hid hx
   have hd:=(Digs.of_row hrow HOL.out HO.out (by omega))
   have HD:=hid hd
   have HV0:Hid (val 10 zs = val 10 o * n + r):=hid (by simpa using HV.out)
   clear hrow hx hd
   go_wp2_with fail
   refine (zap _ o _ HD.out).mono ?_
   rintro e w' ⟨v',rfl,hu,rfl⟩
   have HU:=hid hu
   clear hu
   go_wp2
   all_goals
    go_ret2
    have e1:val 10 zs / n = val 10 o:=by rw [HV0.out,Nat.mul_comm,Nat.mul_add_div hnp,Nat.div_eq_of_lt hrn]; rfl
    have e2:val 10 zs % n = r:=by rw [HV0.out,Nat.mul_comm,Nat.mul_add_mod,Nat.mod_eq_of_lt hrn]
    refine ⟨v',?_,?_,HX.out⟩
    ·rw [e2]
     rfl
    ·rw [e1]
     refine HU.out.to (Kept.refl _ _) (fun k hk => ?_)
     subst hk
     exact ⟨Nat.le_refl _,HROW.out.lt⟩
theorem zrf {w:World} {v:Value} {base:Nat} {e:TypeId} {ds:List Nat} (h:w.ownsRow base e 1 v ds.length (ds.map uval)) (hl:∀ z ∈ ds,z < B32):U32s (fun k => base ≤ k ∧ k < w.heap.size) w v ds:=by
 have hlt:=h.lt
 rcases h.2 with ⟨rfl,h0⟩ | ⟨g,cap,cur,rfl,hg,hh,h1,h2,h3,h4⟩
 ·obtain rfl:ds = []:=List.length_eq_zero_iff.1 h0
  exact U32s.nilv _ _ _ _ (by omega)
 ·refine ⟨g,0,⟨_,cap,rfl,h1,h2,fun _ => rfl,fun _ => hlt g rfl⟩,fun j z hz => ⟨hl z (List.mem_of_getElem? hz),?_⟩⟩
  rw [h.cellAt (0 + j) (by have:=z05 hz; omega),Nat.zero_add]
  simp [hz,uval]
theorem zn1 {S:Nat → Prop} (v:Value) (zs:List Nat) (w:World) (h:Digs S w v zs) (hS:∀ k,S k → k < w.heap.size) (hr:zs.length ≤ 10000000) :
  Calls Tryz.prog 108 #[v,.int .i64 65536] w fun e w' => ∃ v',e = .returned (.tuple #[v',.int .i64 ((val 10 zs % 65536:Nat):Int)]) ∧ Digs (New w w') w' v' (rep 10 (val 10 zs / 65536)) ∧ Ext w w' :=
 zy1 v zs 65536 w h hS hr (by decide) (by decide)
theorem zkj {N m:Nat} {o:List Nat} (h:rep B32 N = o ++ rep B32 m) (hm:0 < m):rep B32 N = (o ++ [m / 65536 % 65536 * 65536 + m % 65536]) ++ rep B32 (m / 65536 / 65536):=by
 have e1:m / 65536 % 65536 * 65536 + m % 65536 = m % B32:=by show _ = m % 4294967296; omega
 have e2:m / 65536 / 65536 = m / B32:=by show _ = m / 4294967296; omega
 rw [e1,e2]
 exact zfm z00 h hm
theorem zkk {m:Nat} (h:0 < m):(rep 10 (m / 65536 / 65536)).length < (rep 10 m).length:=by
 rw [z6p z0h h,List.length_cons]
 have:(rep 10 (m / 65536 / 65536)).length ≤ (rep 10 (m / 10)).length:=z0f z0h _ _ (Nat.lt_of_le_of_lt (by omega) (z0y z0h _))
 omega
theorem zfn {S:Nat → Prop} (v:Value) (n:Nat) (w:World) (h:Digs S w v (rep 10 n)) (hS:∀ k,S k → k < w.heap.size) (hr:(rep 10 n).length ≤ 10000000) :
  Calls Tryz.prog 73 #[v] w fun e w' => ∃ v',e = .returned v' ∧ U32s (New w w') w' v' (rep B32 n) ∧ Ext w w':=by
 have HLN:Hid (n < 10 ^ (rep 10 n).length):=hid (z0y z0h n)
 have HL32:Hid ((rep B32 n).length ≤ 10000000):=hid (Nat.le_trans (zmz HLN.out) hr)
 have H:=hid h
 have HR:=hid hr
 clear h hr
 obtain ⟨a,cap,rfl⟩:=H.out.form
 go_enter Tryz.func73,Tryz.ntmps73
 go_wp2
 go_loopw [0,3] (fun x y wr => ∃ (m:Nat) (o:List Nat),Hid (m ≤ n) ∧ Hid (rep B32 n = o ++ rep B32 m) ∧ Hid (wr.ownsRow w.heap.size 74 1 y o.length (o.map uval)) ∧ Ext w wr ∧ Hid (Digs (fun k => k < wr.heap.size ∧ some k ≠ y.ownBlock) wr x (rep 10 m))) (fun x _ _ => z1i x)
 case atStart => exact ⟨n,[],hid (Nat.le_refl _),hid rfl,hid (World.ownsRow_nil _ _ _ _),Ext.refl _,hid (H.out.to (Kept.refl _ _) (fun k hk => ⟨hS k hk,by simp [Value.ownBlock]⟩))⟩
 case round =>
  obtain ⟨m,o,HMN,HV,HW,hx,HD⟩:=hrel
  obtain ⟨a1,c1,rfl⟩:=HD.out.form
  have HX:=hid hx
  clear hx
  have hlm:(rep 10 m).length ≤ 10000000:=Nat.le_trans (z0f z0h _ _ (Nat.lt_of_le_of_lt HMN.out HLN.out)) HR.out
  by_cases h0:0 < m
  ·have hp:0 < (rep 10 m).length:=by
    rw [List.length_pos_iff,Ne,z2d z0h]
    omega
   have hol2:o.length ≤ 1000000000:=by
    have:=HL32.out
    rw [HV.out,List.length_append] at this
    omega
   have hb1:=zn1 _ _ wr HD.out (fun k hk => hk.1) hlm
   rw [z0d z0h] at hb1
   obtain ⟨lo,hlo⟩:∃ d,d = m % 65536:=⟨_,rfl⟩
   obtain ⟨hi,hhi⟩:∃ d,d = m / 65536 % 65536:=⟨_,rfl⟩
   have hlo1:lo < 65536:=by omega
   have hhi1:hi < 65536:=by omega
   have HLO:=hid hlo
   have HHI:=hid hhi
   rw [← hlo] at hb1
   have HB1:=hid hb1
   clear hlo hhi
   have HLM:=hid hlm
   have HM0:=hid h0
   clear hb1 hlm h0
   go_wp2_with fail
   refine HB1.out.mono ?_
   rintro e w1 ⟨v1,rfl,hd1,hx1⟩
   have HD1:=hid hd1
   obtain ⟨a2,c2,rfl⟩:=hd1.form
   have hb2:=zn1 _ _ w1 hd1 New.lt (Nat.le_trans (z0f z0h _ _ (Nat.lt_of_le_of_lt (Nat.div_le_self _ _) (Nat.lt_of_le_of_lt HMN.out HLN.out))) HR.out)
   rw [z0d z0h,← HHI.out] at hb2
   have HB2:=hid hb2
   have HX1:=hid hx1
   clear hd1 hx1 hb2
   go_wp2_with fail
   refine HB2.out.mono ?_
   rintro e w2 ⟨v2,rfl,hd2,hx2⟩
   have HD2:=hid hd2
   have HX2:=hid (HX1.out.trans hx2)
   have HX12:=hid hx2
   obtain ⟨a3,c3,rfl⟩:=hd2.form
   clear hd2 hx2
   have hown2:w2.ownsRow w.heap.size 74 1 _ o.length (o.map uval):=HW.out.kept (row:=none) ⟨HX2.out.os,HX2.out.tape,HX2.out.output,HX2.out.size,fun k hk _ => HX2.out.block k hk⟩ (by cases hv:Value.ownBlock _ <;> simp)
   have HW2:=hid hown2
   clear hown2
   go_wp2_with (at_builtin; refine z0l _ rfl (.tmp 19) (.tmp 26) 28 rfl w.heap.size 74 (.int .u32 0) 1 4 Tryz.underlying28 Tryz.infoU32 rfl (by decide) _ o.length (o.map uval) rfl HW2.out _ rfl (z42 rfl) rfl hol2 (by decide) (Nat.le_trans HX.out.size HX2.out.size) ?_; intro v3 w3 hown hg hbk; have HOW:=hid hown; have HG:=hid hg; have HBK:=hid hbk; clear hown hg hbk)
   go_roundw
   case rel =>
    have hxg:Ext w w3:=z0n (HX.out.trans HX2.out) HG.out (fun q hq => (HW2.out.lt q hq).1)
    refine ⟨m / 65536 / 65536,o ++ [hi * 65536 + lo],hid ?_,hid ?_,hid (z41 HOW.out (by unfold uval; congr 1)),hxg,hid ?_⟩
    ·exact Nat.le_trans (Nat.div_le_self _ _) (Nat.le_trans (Nat.div_le_self _ _) HMN.out)
    ·rw [HHI.out,HLO.out]
     exact zkj HV.out HM0.out
    ·refine HD2.out.to (Kept.grown HG.out (fun k hk => ⟨hk.2,fun e => ?_⟩)) (fun k hk => ⟨Nat.lt_of_lt_of_le hk.2 HG.out.size,fun e => ?_⟩)
     ·have:=(HW.out.lt k e.symm).2
      have:=hk.1
      have:=HX1.out.size
      omega
     ·rcases HBK.out with hb | hb
      ·rw [hb] at e
       have:=(HW.out.lt k e.symm).2
       have:=hk.1
       have:=HX1.out.size
       omega
      ·rw [hb] at e
       have h1:k = w2.heap.size + 1:=by simpa using e
       have:=hk.2
       omega
   case measure =>
    simp only [z1i]
    exact zkk HM0.out
  ·obtain rfl:m = 0:=by omega
   have e:rep B32 n = o:=by rw [HV.out,z36,List.append_nil]
   have E:=hid e
   have hz:(rep 10 0).length = 0:=rfl
   clear e
   go_wp2
   all_goals
    go_ret
    refine ⟨_,rfl,?_,HX.out⟩
    rw [E.out]
    exact zrf HW.out (fun z hz => z3q z00 n z (by rw [E.out]; exact hz))
end
end Go.Proofs.YtdcijfhkfhhfjaaGreat
