/- Slices of terms put behind one another. Terms collected: sorted, and summed by their monomials. May some polynomials be; the sum of two. The terms that are picked out of a polynomial, with other monomials: view.picked, for any function that picks. Coefficient, initial and tail: the program's answers. The sum of any terms: the program's answer. The derivative: the program's answer. Bounds on the limbs of coefficients, and what a small polynomial is. The product of two polynomials: the program's answer. The program's calls on canonical polynomials: one form of contract for all. A polynomial is built again out of its coefficients. Plain. The document: a variable's power, coefficient, initial, tail. Pseudo-division, plain: its steps, by a meter or without one; that they end. Pseudo-division, plain: what its steps keep: the identity, exponents, sizes. The document's calls on canonical polynomials within bounds: one form of contract for all. The document: a polynomial's value at a point. The document's figures over coordinates: sums and ways. -/
import Derived.Test.YtbfflodidkfphaaGreatSe8
set_option maxRecDepth 100000
set_option maxHeartbeats 16000000
namespace Go.Proofs.YtbfflodidkfphaaGreat
section
open Go.RowKit Go.Sort
section
variable {P:Program}
theorem z8r (w:World) (t u ty e:TypeId) (k:IntKind) (i:TypeInfo) (z:Value) (ht:P.underlying t = some (.slice e)) (hu:P.underlying u = some (.int k)) (hi:P.info? e = some i) (hz:i.zero = some z)
  (n:Nat) (h0:0 < n) (h63:(n:Int) ≤ 9223372036854775807) (h48:n * i.bytes ≤ 281474976710656) (hs:0 < i.size) :
  (Builtin.append_ #[t,u] ty #[.slice none 0 0,.int .i64 (n:Int)]).run P w =
   .ok (.slice (some ⟨w.heap.size,0,none⟩) n (grownCap w n 0 e)) (w.drew.alloc (.cells (Builtin.zeroCells z.cells n ++ Builtin.zeroCells z.cells (grownCap w n 0 e - n)) e)):=by
 have hn:n ≠ 0:=by omega
 have hns:n * i.size ≠ 0:=by
  have:=Nat.mul_pos h0 hs
  omega
 have h63':¬ (9223372036854775807 < (n:Int)):=by omega
 have h48':¬ (281474976710656 < Builtin.nextslicecap n 0 * i.bytes):=by rw [nextslicecap_zero h0]; omega
 have h48i:¬ (281474976710656 < (n:Int) * (i.bytes:Int)):=by
  have:((n * i.bytes:Nat):Int) ≤ 281474976710656:=by omega
  rw [Int.natCast_mul] at this
  omega
 have hw:IntKind.i64.wrap (n:Int) = (n:Int):=by rw [IntKind.wrap_i64]; omega
 have hneg:¬ ((n:Int) < 0):=by omega
 have hsz:¬ i.size = 0:=by omega
 simp [Builtin.append_,run_underlying ht,run_underlying hu,sizeOf,typeInfo,zeroValue,hi,hz,asInt,asIntOf,hw,hneg,h48i,hn,hns,h63',h48',Question.forced,run_firstCells_none,newRow,grownCap]
theorem z6z (w:World) {ops:Array Oper} {rest:List Oper} {o:Oper} {a:Act} {Q:Exit → Act → World → Prop} (hgd:o.guard = none) (s x:Operand) (t u:TypeId) (k:IntKind)
  (ho:o.op = .call { callee:=.builtin .append,args:=#[s,x],argTypes:=#[t,u] })
  (e:TypeId) (i:TypeInfo) (z:Value) (size bytes:Nat) (ht:P.underlying t = some (.slice e)) (hu:P.underlying u = some (.int k)) (hi:P.info? e = some i) (hz:i.zero = some z)
  (hsize:i.size = size) (hby:i.bytes = bytes) (hzs:z.cells.size = size) (hsz:0 < size)
  (n:Nat) (hs:a.eval s = .slice none 0 0) (hx:a.eval x = .int .i64 (n:Int)) (h0:0 < n) (h63:n ≤ maxLen) (hbytes:n * bytes ≤ 140737488355328)
  (h:∀ cap w',w'.ownsRow w.heap.size e size (.slice (some ⟨w.heap.size,0,none⟩) 0 cap) 0 [] → n ≤ cap → Ext w w' → wpList P ops Q rest (a.put o.dst (.slice (some ⟨w.heap.size,0,none⟩) n cap)) w'):wpList P ops Q (o :: rest) a w:=by
 have hrun:=z8r (P:=P) w t u o.type e k i z ht hu hi hz n h0 (by unfold maxLen at h63; omega) (by rw [hby]; omega) (by omega)
 have hcm:grownCap w n 0 e ≤ maxLen:=grownCap_le_maxLen w n 0 e h63
 have hge:=grownCap_ge w n 0 e
 refine wpList_plain hgd fun K hK => ?_
 unfold Oper.wp execOp
 simp only [ho,resolve,invoke,builtin,Sem.run_bind,Sem.run_pure,Result.andThen_ok,List.map_toArray,List.map_cons,List.map_nil,hs,hx,hrun]
 refine hK _ _ (h _ _ ?_ hge ?_)
 ·refine ⟨by simp,.inr ⟨w.heap.size,_,_,rfl,Nat.le_refl _,heap_alloc_new w.drew _,Nat.zero_le _,hcm,?_,by simp⟩⟩
  simp only [Array.size_append,size_zeroCells,hzs,← Nat.add_mul]
  congr 1
  omega
 ·exact ((Ext.refl w).drew).alloc _
end
theorem ziz (n:Nat) (w:World) (hn:n ≤ 1000000000000) :
  Calls Tryz.prog 165 #[.slice none 0 0,.int .i64 n] w fun e w' => ∃ v',e = .returned v' ∧ w'.ownsRow w.heap.size 49 3 v' 0 [] ∧ Ext w w':=by
 obtain ⟨j0,hj,jz0,jz1,jz2⟩:=info_parts Tryz.infoTerm
 rcases Nat.eq_zero_or_pos n with rfl | h0
 ·go_enter Tryz.func165,Tryz.ntmps165
  go_wp2
  go_ret
  exact ⟨_,rfl,World.ownsRow_nil _ _ _ _,Ext.refl _⟩
 ·have q0:(n:Int) > 0:=by omega
  go_enter Tryz.func165,Tryz.ntmps165
  go_wp2_with (at_builtin; refine z6z _ rfl (.tmp 20) (.tmp 21) 23 3 .i64 rfl 49 j0 (.agg #[.bool false,.slice none 0 0,.slice none 0 0]) 3 56 Tryz.underlying23 Tryz.underlying3 hj jz0 jz1 jz2 rfl (by decide) n rfl rfl h0 (by unfold maxLen; omega) (by omega) ?_; intro cap w1 hown hcap hx; have HW:=hid hown; have HX:=hid hx; clear hown hx)
  go_ret
  exact ⟨_,rfl,HW.out,HX.out⟩
theorem zdp {α:Type} {ls:List (List α)} {k:Nat} {p:List α} (h:ls[k]? = some p):(ls.take (k + 1)).flatten = (ls.take k).flatten ++ p:=by
 rw [List.take_add_one,h]
 simp
theorem zs6 {α:Type} (ls:List (List α)) (k:Nat):(ls.take k).flatten.length ≤ ls.flatten.length:=by
 conv => rhs; rw [← List.take_append_drop k ls]
 rw [List.flatten_append,List.length_append]
 omega
theorem z6q {S:Nat → Prop} {w2:World} {base:Nat} {e:TypeId} {v:Value} {n:Nat} {xs:List Value} {l:List RTerm} {ys:List Value} {w1:World} (hS:∀ k,S k → k < base) (hw:base ≤ w1.heap.size) (h:z0r S w1 xs l) (ho:w1.ownsRow base e 3 v n ys) (hg:w1.grownBy w2 v.ownBlock):z0r S w2 xs l :=
 h.to (Kept.grown hg (fun k hk => ⟨Nat.lt_of_lt_of_le (hS k hk) hw,fun e => by have h1:=(ho.lt k e.symm).1; have h2:=hS k hk; omega⟩)) (fun _ h => h)
theorem zdq {S:Nat → Prop} (v:Value) (ls:List (List RTerm)) (w:World) (h:z6r S w v ls) (hS:∀ k,S k → k < w.heap.size) (hn:ls.flatten.length ≤ 1000000000000) :
  Calls Tryz.prog 156 #[v] w fun e w' => ∃ v' xs,e = .returned v' ∧ w'.ownsRow w.heap.size 49 3 v' ls.flatten.length xs ∧ z0r S w' xs ls.flatten ∧ Ext w w':=by
 obtain ⟨j0,hj,jz0,jz1,jz2⟩:=info_parts Tryz.infoTerm
 have H:=hid h
 have hll:=h.len_le
 obtain ⟨A,c,rfl⟩:=h.form
 obtain ⟨n,hnn⟩:∃ n,n = ls.length:=⟨_,rfl⟩
 rw [← hnn] at H hll ⊢
 have HN:=hid hnn
 have HFL:=hid (zs6 ls)
 clear h hnn
 go_enter Tryz.func156,Tryz.ntmps156
 go_wp2
 go_loop [3,11] (fun sz i => ∃ k s:Nat,k ≤ n ∧ i = .int .i64 k ∧ sz = .int .i64 s ∧ Hid (s = (ls.take k).flatten.length)) (fun _ i => n - (intOf i).toNat)
 case atStart => exact ⟨0,0,Nat.zero_le _,rfl,rfl,rfl⟩
 case round =>
  obtain ⟨k,s,hk,rfl,rfl,HSZ⟩:=hrel
  have hs:s ≤ 1000000000000:=by rw [HSZ.out]; exact Nat.le_trans (HFL.out k) hn
  by_cases hlt:k < n
  ·obtain ⟨p,hp⟩:=z00 (l:=ls) (j:=k) (by rw [← HN.out]; exact hlt)
   obtain ⟨bl,off,vp,rfl,-,hn1,hm1,hSb,h1,h2⟩:=H.out.cellAt hp
   have HP:=hid (zdp hp)
   obtain ⟨ap,cp,rfl⟩:=h2.form
   have hlp:=h2.len_le
   obtain ⟨np,hnp⟩:∃ m,m = p.length:=⟨_,rfl⟩
   rw [← hnp] at h1 hlp
   have hs2:s + np ≤ 1000000000000:=by
    have h3:=HFL.out (k + 1)
    rw [HP.out,List.length_append,← HSZ.out,← hnp] at h3
    exact Nat.le_trans h3 hn
   have HNP:=hid hnp
   clear h2 hp hnp
   go_wp2
   go_round
   case rel => exact ⟨k + 1,s + np,by omega,by go_num,by go_num,by show _ = _; rw [HP.out,List.length_append,HSZ.out,HNP.out]⟩
   case measure => simp only [intOf]; omega
  ·obtain rfl:k = n:=by omega
   have C:=hid (ziz s w hs)
   go_wp2_with fail
   with_reducible refine C.out.mono ?_
   rintro e w1 ⟨v1,rfl,hown,hx1⟩
   have HW1:=hid hown
   have HX1:=hid hx1
   clear hown hx1
   go_wp2
   go_loopw [6,8,27] (fun o _ i wr => ∃ (j s:Nat) (xs:List Value),j ≤ k ∧ i = .int .i64 j ∧ Ext w wr ∧ Hid (s = (ls.take j).flatten.length) ∧ Hid (wr.ownsRow w.heap.size 49 3 o s xs) ∧ Hid (z0r S wr xs (ls.take j).flatten)) (fun _ _ i _ => k - (intOf i).toNat)
   case atStart => exact ⟨0,0,[],Nat.zero_le _,rfl,HX1.out,rfl,HW1.out,rfl⟩
   case round =>
    clear HSZ hs
    obtain ⟨j,s,xs,hj',rfl,hx,HSZ,HW,HY⟩:=hrel
    have hs:s ≤ 1000000000000:=by rw [HSZ.out]; exact Nat.le_trans (HFL.out j) hn
    have HX:=hid hx
    by_cases hlt:j < k
    ·obtain ⟨p,hp⟩:=z00 (l:=ls) (j:=j) (by rw [← HN.out]; exact hlt)
     obtain ⟨bl,off,vp,rfl,-,hn1,hm1,hSb,h1,h2⟩:=(H.out.ext hx hS).cellAt hp
     have HP:=hid (zdp hp)
     obtain ⟨ap,cp,rfl⟩:=h2.form
     obtain ⟨-,news,hc,hsrc⟩:=h2.src
     obtain ⟨np,hnp⟩:∃ m,m = p.length:=⟨_,rfl⟩
     rw [← hnp] at h1 hsrc
     have hs2:s + np ≤ 1000000000000:=by
      have h3:=HFL.out (j + 1)
      rw [HP.out,List.length_append,← HSZ.out,← hnp] at h3
      exact Nat.le_trans h3 hn
     have HNP:=hid hnp
     have HSRC:=hid hsrc
     have HCN:=hid hc
     clear h2 hp hnp hc hsrc hx
     go_wp2_with (at_builtin; refine z0m _ rfl (.tmp 31) (.tmp 32) 23 rfl w.heap.size 49 j0 (.agg #[.bool false,.slice none 0 0,.slice none 0 0]) 3 56 Tryz.underlying23 hj jz0 jz1 jz2 rfl (by decide) _ s xs rfl HW.out ap np cp news rfl HSRC.out (by unfold maxLen; omega) (by omega) HX.out.size ?_; intro v2 w2 hown hg _; have HW2:=hid hown; have HG2:=hid hg; clear hown hg)
     go_roundw
     case rel =>
      refine ⟨j + 1,s + np,xs ++ news,by omega,by go_num,z1f HX.out HW.out HG2.out,?_,HW2.out,?_⟩
      ·show _ = _; rw [HP.out,List.length_append,HSZ.out,HNP.out]
      ·show z0r _ _ _ _
       rw [HP.out]
       exact (z6q hS HX.out.size HY.out HW.out HG2.out).append (z6q hS HX.out.size HCN.out HW.out HG2.out)
     case measure => simp only [intOf]; omega
    ·obtain rfl:j = k:=by omega
     have HE:Hid (ls.take j = ls):=hid (List.take_of_length_le (by rw [← HN.out]; exact Nat.le_refl _))
     clear hx
     go_wp2
     go_ret
     have h1:=HW.out
     have h2:=HY.out
     have h3:=HSZ.out
     rw [HE.out] at h2 h3
     rw [h3] at h1
     exact ⟨_,xs,rfl,h1,h2,HX.out⟩
end
section
open Go.RowKit Go.Sort
abbrev za1 (a b:World) (B:Nat):Nat → Prop:=fun k => (a.heap.size ≤ k ∧ k < b.heap.size) ∧ k ≠ B
def toQ {S:Nat → Prop} {w:World} (q:List (TermIn S w)):PZ:=toP (q.map (·.t))
theorem z4o {S:Nat → Prop} (v:Value) (ts:List RTerm) (w:World) (L:Nat) (h:z0h S w v ts) (hS:∀ k,S k → k < w.heap.size) (hm:∀ t ∈ ts,mayM t.m = true) (hr:∀ t ∈ ts,t.c.mag.length ≤ L) (hL:L ≤ 10000000000) (hn:ts.length ≤ 1000000000000) :
  Calls Tryz.prog 155 #[v] w fun e w' => ∃ v',e = .returned v' ∧ z0h (New w w') w' v' (ofP (z25 (toP ts))) ∧ Ext w w':=by
 obtain ⟨j0,hj,jz0,jz1,jz2⟩:=info_parts Tryz.infoTerm
 have H:=hid h
 have HMAY:=hid hm
 have HR:=hid hr
 have HC:=hid (zfk v ts w h hS hn)
 obtain ⟨a,cap,rfl⟩:=h.form
 clear h hm hr
 go_enter Tryz.func155,Tryz.ntmps155
 go_wp2_with fail
 with_reducible refine HC.out.mono ?_
 rintro e w1 ⟨v1,xs,rfl,hown,hcells,hx1⟩
 have HOWN:=hid hown
 have HX1:=hid hx1
 have HCE:=hid hcells
 obtain ⟨d,hd1,hd2⟩:=zfl hcells HMAY.out
 clear hcells hx1
 rcases hown.2 with ⟨rfl,h0⟩ | ⟨g,cap',cur,rfl,hg,hgg,hnc,hcm,hsz,hcur⟩
 ·obtain rfl:ts = []:=List.length_eq_zero_iff.1 h0
  clear hown h0 hd1 hd2
  go_wp2_with fail
  with_reducible refine (zfm _ _ _).mono ?_
  rintro e w2 ⟨rfl,rfl⟩
  go_wp2
  refine wp_loop_rounds 1 ?_
  rw [rounds_succ]
  go_wp2
  go_ret
  exact ⟨_,rfl,z0h.nilv _ _ _ _ (by decide),HX1.out⟩
 ·obtain ⟨n,hnn⟩:∃ n,n = ts.length:=⟨_,rfl⟩
  rw [← hnn] at hown ⊢
  have hnd:n = d.length:=by rw [hnn,← hd1]; simp
  obtain ⟨hsa,hc1,hc2⟩:=ziy hown hd2 hnd
  have hSg:∀ k,S k → k < w1.heap.size ∧ k ≠ g:=fun k hk => ⟨Nat.lt_of_lt_of_le (hS k hk) HX1.out.size,by have:=hS k hk; omega⟩
  have HSG:=hid hSg
  have hn':n ≤ 1000000000000:=by omega
  have C:=hid (ztm (tc:=fun x:TermIn S w1 => x.c) (cf:=zpa) (le:=zbv) (cap:=cap') d w1 (zbw hSg) zmc hnd hsa hc1 hn')
  have HD1:=hid hd1
  have HND:=hid hnd
  have HGW:Hid (w.heap.size ≤ g):=hid hg
  unfold maxLen at hc2
  have HNN:=hid hnn
  clear hown hd1 hd2 hnd hsa hSg hg hgg hnc hcm hsz hcur hnn
  go_wp2_with fail
  with_reducible refine C.out.mono ?_
  rintro e w2 ⟨rfl,hs2⟩
  have hk2:Kept S w w2:=(Kept.ext HX1.out hS).trans (Kept.grown hs2.grown (fun k hk => ⟨(HSG.out k hk).1,fun e => (HSG.out k hk).2 (Option.some.inj e)⟩))
  have hx2:Ext w w2:=z0j HX1.out hs2.grown (fun k hk => by
   have:g = k:=Option.some.inj hk
   have:=HGW.out
   omega)
  have HS2:=hid hs2
  have HX2:=hid hx2
  have HKS:Hid (∀ W,Ext w2 W → Kept S w1 W ∧ ∀ k,S k → k < W.heap.size):=hid (fun W hW =>
   ⟨Kept.grown (zdl hs2.grown hW) (fun k hk => ⟨(HSG.out k hk).1,fun e => (HSG.out k hk).2 (Option.some.inj e)⟩),fun k hk => Nat.lt_of_lt_of_le (hS k hk) (hx2.trans hW).size⟩)
  have hp:=zay (le:=zbv) d
  have hso:=zmd (z2z (zmc (S:=S) (w:=w1)).total d)
  have hle:=z10 (le:=zbv) d
  generalize z20 zbv d = q at *
  have HP:=hid hp
  have HSO:=hid hso
  have HQN:Hid (n = q.length):=hid (by rw [hle]; exact HND.out)
  clear hp hso hle hs2 hk2 hx2
  go_wp2
  go_loopw [0,2,3,4] (fun l p _ _ wr => ∃ (q1 q2:List (TermIn S w1)) (A:Option Addr) (m cl k:Nat) (ys:List Value) (ps:PZ),Hid (q = q1 ++ q2) ∧ l = .slice A m cl ∧ Hid (m = q2.length) ∧ Hid (0 < m → A = some ⟨g,q1.length * 3,none⟩) ∧ m ≤ cl ∧ cl ≤ 9223372036854775807 ∧ Ext w2 wr ∧ Hid (wr.ownsRow w2.heap.size 49 3 p k ys) ∧ Hid (z0r (z37 w2 wr p) wr ys (ofP ps)) ∧ Hid (k = ps.length) ∧ Hid (∀ z,Coll (toQ q2) z → Coll (toQ q) (ps ++ z)) ∧ k ≤ q1.length) (fun l _ _ _ _ => z15 l)
  case atStart => exact ⟨[],q,_,n,cap',0,[],[],rfl,rfl,HQN.out,fun _ => by simp,hc1,by omega,Ext.refl _,World.ownsRow_nil _ _ _ _,rfl,rfl,fun z hz => by simpa using hz,Nat.zero_le _⟩
  case round =>
   obtain ⟨q1,q2,A,m,cl,k,ys,ps,HQ,rfl,HMQ,HA,hmc,hcl,hx,HW,HY,HKK,HCO,hkq⟩:=hrel
   have HX:=hid hx
   clear hx
   generalize wr = w4 at *
   cases q2 with
   | nil =>
    obtain rfl:m = 0:=HMQ.out
    have HF:Hid (ps = z25 (toP ts)):=hid (by
     have h1:=HCO.out [] .nil
     rw [List.append_nil] at h1
     refine h1.norm ?_ ?_ ?_
     ·intro u hu
      obtain ⟨t,ht,rfl⟩:=List.mem_map.1 hu
      obtain ⟨y,-,rfl⟩:=List.mem_map.1 ht
      exact y.may
     ·unfold toQ toP
      rw [List.pairwise_map]
      exact HSO.out
     ·rw [← HD1.out]
      exact (HP.out.map _).map _)
    go_wp2
    go_ret
    refine ⟨_,rfl,?_,HX2.out.trans HX.out⟩
    have hc:=HY.out
    rw [HF.out] at hc
    have ho:=HW.out
    rw [HKK.out,HF.out] at ho
    exact z5s (by rw [z6g]; exact ho) (hc.to (Kept.refl _ _) (fun _ h => ⟨Nat.le_trans HX2.out.size h.1.1,h.1.2⟩)) (fun k h1 h2 => ⟨Nat.le_trans HX2.out.size h1,h2⟩)
   | cons x r =>
    obtain ⟨m,rfl⟩:∃ m',m = m' + 1:=⟨m - 1,by have:=HMQ.out; simp at this; omega⟩
    obtain rfl:A = some ⟨g,q1.length * 3,none⟩:=HA.out (by omega)
    have HXS:=hid (HS2.out.later HX.out)
    have hq1:q[q1.length]? = some x:=by rw [HQ.out]; exact z5u _ _ _
    obtain ⟨⟨c0,c1,c2⟩,-⟩:=HXS.out.get3 hq1
    simp only [Nat.zero_add] at c0 c1 c2
    have HMR:Hid (m = r.length):=hid (by have:=HMQ.out; simpa using this)
    have HLX:Hid (∀ y ∈ q,y.t.c.mag.length ≤ L):=hid (fun y hy => by
     refine HR.out _ ?_
     rw [← HD1.out]
     exact List.mem_map_of_mem (HP.out.mem_iff.1 hy))
    have HXQ:Hid (x ∈ q):=hid (by rw [HQ.out]; simp)
    have CA:=hid (zcd (S:=S) (.agg #[.bool x.c.neg,.slice x.c.ma x.c.mn x.c.mc]) _ x.t.c ⟨false,[]⟩ w4 ⟨_,by rw [x.neg],x.hm.to (HKS.out w4 HX.out).1 (fun _ h => h)⟩ (zny _ _) (HKS.out w4 HX.out).2 (by have:=HLX.out x HXQ.out; omega) (by decide))
    clear hq1 HMQ HA
    go_wp2_with fail
    with_reducible refine CA.out.mono ?_
    rintro e w3 ⟨vc,rfl,⟨vm3,rfl,hu3⟩,hx3⟩
    rw [zi3,Int.add_zero] at hu3 ⊢
    obtain ⟨am,cm,rfl⟩:=hu3.form
    obtain ⟨z0,hz0⟩:∃ z,z = valI x.t.c:=⟨_,rfl⟩
    rw [← hz0] at hu3 ⊢
    have HX3:=hid hx3
    have HU3:=hid hu3
    have HZ0:=hid hz0
    have HBX:Hid (w4.heap.size ≤ w3.heap.size):=hid hx3.size
    clear hu3 hx3 hz0
    obtain ⟨ng0,hng0⟩:∃ b,b = (ofI z0).neg:=⟨_,rfl⟩
    obtain ⟨nl0,hnl0⟩:∃ b,b = (ofI z0).mag.length:=⟨_,rfl⟩
    rw [← hng0,← hnl0]
    rw [← hnl0] at HU3
    have HNG0:=hid hng0
    have HNL0:=hid hnl0
    clear hng0 hnl0
    have HU4:Hid (U32s (za1 w4 (w3.alloc (.cells #[.bool ng0,.slice am nl0 cm] 26)) w3.heap.size) (w3.alloc (.cells #[.bool ng0,.slice am nl0 cm] 26)) (.slice am nl0 cm) (ofI z0).mag):=hid (HU3.out.to (Kept.alloc (fun k hk => hk.2) _) (fun k hk => ⟨⟨hk.1,by rw [size_alloc]; have:=hk.2; omega⟩,by have:=hk.2; omega⟩))
    have HX4:=hid (HX3.out.alloc (.cells #[.bool ng0,.slice am nl0 cm] 26))
    obtain ⟨k0,k1,k2,k3⟩:=new2 (Ext.refl (w3.alloc (.cells #[.bool ng0,.slice am nl0 cm] 26)))
    have HK4:=hid (And.intro k0 (And.intro k1 (And.intro k2 k3)))
    clear k0 k1 k2 k3
    go_wp2
    go_loopw [3] (fun nn wx => ∃ (r1 r2:List (TermIn S w1)) (cn:Nat) (z:Int) (ng:Bool) (am:Option Addr) (nl cm:Nat),Hid (r = r1 ++ r2) ∧ nn = .int .i64 cn ∧ Hid (cn = r1.length + 1) ∧ cn ≤ m + 1 ∧ Hid (∀ y ∈ r1,y.t.m = x.t.m) ∧ Hid (z = valI x.t.c + sumP (toQ r1)) ∧ Hid (ng = (ofI z).neg) ∧ Hid (nl = (ofI z).mag.length) ∧ Ext w4 wx ∧
     wx.cell? ⟨w3.heap.size,0,none⟩ = some (.bool ng) ∧ wx.cell? ⟨w3.heap.size,1,none⟩ = some (.slice am nl cm) ∧ wx.frozen? ⟨w3.heap.size,0,none⟩ = false ∧ wx.frozen? ⟨w3.heap.size,1,none⟩ = false ∧ Hid (U32s (za1 w4 wx w3.heap.size) wx (.slice am nl cm) (ofI z).mag)) (fun nn _ => m + 1 - (intOf nn).toNat)
    case atStart => exact ⟨[],r,1,z0,ng0,am,nl0,cm,rfl,rfl,rfl,by omega,fun y hy => by simp at hy,by show _ = _; rw [HZ0.out]; simp [toQ,toP,sumP],HNG0.out,HNL0.out,HX4.out,HK4.out.1,HK4.out.2.1,HK4.out.2.2.1,HK4.out.2.2.2,HU4.out⟩
    case round =>
     clear HU4 HX4 HK4 HNG0 HNL0 HZ0 HU3 CA
     obtain ⟨r1,r2,cn,z,ng,am,nl,cm,HR12,rfl,HCN,hrm,HSM,HZ,HNG,HNL,hx5,k0,k1,k2,k3,HU5⟩:=hrel
     have HX5:=hid hx5
     have HX25:=hid (HX.out.trans hx5)
     have d0:=hx5.cell c0
     have d1:=hx5.cell c1
     have d2:=hx5.cell c2
     have HKC:=hid (And.intro k0 (And.intro k1 (And.intro k2 k3)))
     have HD0:=hid (And.intro d0 (And.intro d1 d2))
     clear hx5
     cases r2 with
     | nil =>
      have hcm:cn = m + 1:=by rw [HCN.out,HMR.out,HR12.out]; simp
      have q1':decide ((cn:Int) < (m:Int) + 1) = false:=decide_eq_false (by omega)
      have HEX:Hid (∀ u ∈ (toQ ([]:List (TermIn S w1))).head?,u.2 ≠ x.t.m):=hid (fun u hu => by simp [toQ,toP] at hu)
      clear hcm
      go_wp2
      refine z04 (by kernel_rfl) (by kernel_rfl) ?_
      repeat (go_big_quiet_step (fail))
      refine wpQuiet_nil ?_
      intro W2 hW2
      have HW2:=hid hW2
      clear q1'
      have HBL:Hid (w3.heap.size < wr.heap.size):=hid (z08 k0)
      have hk0:=hW2.cell k0
      have hk1:=hW2.cell k1
      have HLZ:Hid ((ofI z).mag.length ≤ 40000000000000):=hid (by
       rw [z4u,HZ.out]
       refine Nat.le_trans (zf5 (k:=L) ?_ ?_ ?_) (by omega)
       ·exact z28 (z44 x.hm.lt) (HLX.out x HXQ.out)
       ·intro u hu
        obtain ⟨t,ht,rfl⟩:=List.mem_map.1 hu
        obtain ⟨y',hy',rfl⟩:=List.mem_map.1 ht
        exact z28 (z44 y'.hm.lt) (HLX.out y' (by rw [HQ.out,HR12.out]; simp [hy']))
       ·have h1:=HMR.out
        have h2:=HQN.out
        rw [HQ.out] at h2
        rw [HR12.out] at h1 h2
        have hB2:B32 ^ 2 = 18446744073709551616:=by decide
        rw [hB2]
        simp [toQ,toP] at h1 h2 ⊢
        omega)
      have HMC:Hid (m + 1 - cn = ([]:List (TermIn S w1)).length ∧ cn = r1.length + 1):=hid (by
       have h1:=HMR.out
       rw [HR12.out] at h1
       have h2:=HCN.out
       simp at h1 ⊢
       omega)
      have HCOL:Hid (∀ z',Coll (toQ ([]:List (TermIn S w1))) z' → Coll (toQ (x :: r)) (oneP z x.t.m ++ z')):=hid (fun z' hz' => by
       have h1:=Coll.group (valI x.t.c,x.t.m) (toQ r1) (toQ ([]:List (TermIn S w1))) z' (fun u hu => by
        obtain ⟨t,ht,rfl⟩:=List.mem_map.1 hu
        obtain ⟨y',hy',rfl⟩:=List.mem_map.1 ht
        exact HSM.out y' hy') HEX.out hz'
       rw [HZ.out,HR12.out]
       have e:toQ (x :: (r1 ++ ([]:List (TermIn S w1)))) = (valI x.t.c,x.t.m) :: toQ r1 ++ toQ ([]:List (TermIn S w1)):=by simp [toQ,toP]
       rw [e]
       exact h1)
      have CS:=hid (z1l (S:=za1 w4 wr w3.heap.size) (.agg #[.bool ng,.slice am nl cm]) (ofI z) W2 ⟨_,by rw [HNG.out],HU5.out.to (Kept.ext hW2 (fun k hk => hk.1.2)) (fun _ h => h)⟩ (fun k hk => Nat.lt_of_lt_of_le hk.1.2 hW2.size) (by have:=HLZ.out; omega))
      have HD2:=hid (And.intro (hW2.cell d0) (And.intro (hW2.cell d1) (hW2.cell d2)))
      have hsgv:z18 (valI (ofI z)) = z18 z:=by rw [z1t]
      clear k0 k1 k2 k3 d0 d1 d2 hW2
      go_wp2_with fail
      with_reducible refine CS.out.mono ?_
      rw [hsgv]
      rintro e w6 ⟨rfl,hx6⟩
      have HX6:=hid (HW2.out.trans hx6)
      obtain ⟨sg,hsg⟩:∃ s,s = z18 z:=⟨_,rfl⟩
      rw [← hsg]
      have hsr:-1 ≤ sg ∧ sg ≤ 1:=by rw [hsg]; unfold z18; rcases z46 z 0 with h | h | h <;> omega
      obtain ⟨hsr1,hsr2⟩:=hsr
      have HSG2:=hid hsg
      have hk0':=hx6.cell hk0
      have hk1':=hx6.cell hk1
      have hcm1:cn ≤ m + 1:=hrm
      by_cases hz:z = 0
      ·have hb:(sg != 0) = false:=by rw [hsg,hz]; decide
       have HZZ:=hid hz
       clear hk0 hk1 hsgv hsg hz hx6
       go_wp2
       go_roundw
       case rel =>
        refine ⟨q1 ++ x :: r1,([]:List (TermIn S w1)),_,m + 1 - cn,cl - cn,k,ys,ps,?_,rfl,HMC.out.1,?_,by omega,by omega,HX.out.trans (HX5.out.trans HX6.out),z0o HW.out (HX5.out.trans HX6.out),z11 HY.out (HX5.out.trans HX6.out),HKK.out,fun z' hz' => ?_,?_⟩
        ·show _ = _; rw [HQ.out,HR12.out]; simp
        ·intro h
         have h2:=HMC.out.2
         try rw [if_neg (by omega)]
         congr 2
         simp
         omega
        ·have h1:=HCOL.out z' hz'
         rw [HZZ.out] at h1
         exact HCO.out z' h1
        ·simp; omega
       case measure => have h2:=HMC.out.2; simp only [z15]; omega
      ·have hb:(sg != 0) = true:=by
        rw [hsg,bne_iff_ne]
        unfold z18 cmpI
        split <;> (try split) <;> omega
       clear hk0 hk1 hsgv hsg hx6
       have hx40:Ext w4 w6:=HX5.out.trans HX6.out
       have HX40:=hid hx40
       have HXR:=hid ((Ext.refl w6).drew)
       have HXD:=hid hx40.drew
       have S0:_ ∧ _ ∧ _:=And.intro (HXR.out.cell hk0') (And.intro (HXR.out.cell hk1') ((hx40.drew).cell c2))
       have HU7:Hid (∀ W,Ext w6 W → U32s (za1 w4 W w3.heap.size) W (.slice am nl cm) (ofI z).mag):=hid (fun W hW => HU5.out.to (Kept.ext (HX6.out.trans hW) (fun k hk => hk.1.2)) (fun k hk => ⟨⟨hk.1.1,Nat.lt_of_lt_of_le hk.1.2 (HX6.out.trans hW).size⟩,hk.2⟩))
       have CCL:=hid (z7w (S:=S) (.slice x.c.oa x.c.on x.c.oc) x.t.m w6.drew (x.ho.to (HKS.out _ (HX.out.trans HXD.out)).1 (fun _ h => h)) (HKS.out _ (HX.out.trans HXD.out)).2 (Nat.le_trans (z68 x.may) (by decide)))
       have HWR:=hid (z0o HW.out HXD.out)
       have HYR:=hid (z11 HY.out HXD.out)
       have HKC6:=hid (And.intro hk0' hk1')
       have HB3:Hid (k + 1 ≤ maxLen):=hid (by have h1:=HQN.out; rw [HQ.out] at h1; simp at h1; unfold maxLen; omega)
       have HB4:Hid ((k + 1) * 56 ≤ 140737488355328):=hid (by have h1:=HQN.out; rw [HQ.out] at h1; simp at h1; omega)
       have HXDD:=hid (HX.out.trans HXD.out)
       clear hx40 hk0' hk1'
       have HKB:Hid (some w3.heap.size ≠ u2.ownBlock):=hid (fun e => by have h1:=(HW.out.lt _ e.symm).2; have h2:=HBX.out; omega)
       have HKG:Hid (some g ≠ u2.ownBlock):=hid (fun e => by have h1:=(HW.out.lt _ e.symm).1; have h2:=HS2.out.old; have h3:=HS2.out.grown.size; omega)
       have hcn:0 < m + 1:=Nat.succ_pos m
       go_wp2_with fail
       go_region_held3 (fun W => W.cell? ⟨w3.heap.size,0,none⟩ = some (.bool ng) ∧ W.cell? ⟨w3.heap.size,1,none⟩ = some (.slice am nl cm) ∧ W.cell? ⟨g,q1.length * 3 + 2,none⟩ = some (.slice x.c.oa x.c.on x.c.oc)) (first | exact S0 | exact S7 | exact ⟨cell_old _ S7.1,cell_old _ S7.2.1,cell_old _ S7.2.2⟩ | exact S9)
        (first
         | (go_at_call 70; (with_reducible refine CCL.out.mono ?_); rintro e w7 ⟨v7,rfl,hp7,hx7⟩; have HX7:=hid hx7; have S7:_ ∧ _ ∧ _:=And.intro (HX7.out.cell S0.1) (And.intro (HX7.out.cell S0.2.1) (HX7.out.cell S0.2.2)); have HP7:=hid hp7; obtain ⟨a7,c7,rfl⟩:=hp7.form; obtain ⟨n7,hn7⟩:∃ n,n = x.t.m.length:=⟨_,rfl⟩; rw [← hn7]; rw [← hn7] at HP7; have HN7:=hid hn7
            have HW7:=hid (z0o (z0o HWR.out HX7.out) (Ext.alloc (Ext.refl w7) (.cells #[.bool ng,.slice am nl cm,.slice a7 n7 c7] 49))); have HY7:=hid (z11 (z11 HYR.out HX7.out) (Ext.alloc (Ext.refl w7) (.cells #[.bool ng,.slice am nl cm,.slice a7 n7 c7] 49))); have HSRC7:=hid (z82 w7 #[.bool ng,.slice am nl cm,.slice a7 n7 c7] 49 (z1x rfl rfl rfl) rfl); have HB5:=hid (Nat.le_trans (HXDD.out.trans HX7.out).size (World.grownBy_alloc w7 (.cells #[.bool ng,.slice am nl cm,.slice a7 n7 c7] 49) none).size); have HX27:=hid ((HXDD.out.trans HX7.out).alloc (.cells #[.bool ng,.slice am nl cm,.slice a7 n7 c7] 49)); have HC7:=hid (And.intro (cell_old (.cells #[.bool ng,.slice am nl cm,.slice a7 n7 c7] 49) S7.1) (And.intro (cell_old (.cells #[.bool ng,.slice am nl cm,.slice a7 n7 c7] 49) S7.2.1) (cell_old (.cells #[.bool ng,.slice am nl cm,.slice a7 n7 c7] 49) S7.2.2))); clear hx7 hp7 hn7)
         | (refine z1i rfl (.tmp 47) (.tmp 55) 23 rfl w2.heap.size 49 j0 (.agg #[.bool false,.slice none 0 0,.slice none 0 0]) 3 56 Tryz.underlying23 hj jz0 jz1 jz2 rfl (Nat.succ_pos _) _ k ys rfl HW7.out (some ⟨w7.heap.size,0,none⟩) 1 1 _ rfl HSRC7.out HB3.out HB4.out HB5.out ?_; intro v9 w9 hown hg hbk; have HW9:=hid hown; have HG9:=hid hg; have HBK:=hid hbk; have HX9:=hid (z1f HX27.out HW7.out hg); have S9:_ ∧ _ ∧ _:=And.intro (hg.cell HC7.out.1 HKB.out) (And.intro (hg.cell HC7.out.2.1 HKB.out) (hg.cell HC7.out.2.2 HKG.out)); clear hown hg hbk))
       all_goals
        go_wp2
        go_roundw
        case rel =>
         refine ⟨q1 ++ x :: r1,([]:List (TermIn S w1)),_,m + 1 - cn,cl - cn,k + 1,ys ++ (#[.bool ng,.slice am nl cm,.slice a7 n7 c7]:Array Value).toList,ps ++ [(z,x.t.m)],?_,rfl,HMC.out.1,?_,by omega,by omega,HX9.out,HW9.out,?_,?_,fun z' hz' => ?_,?_⟩
         ·show _ = _; rw [HQ.out,HR12.out]; simp
         ·intro h
          have h2:=HMC.out.2
          try rw [if_neg (by omega)]
          congr 2
          simp
          omega
         ·have hone:z0r (z37 w2 (w7.alloc (.cells #[.bool ng,.slice am nl cm,.slice a7 n7 c7] 49)) u2) (w7.alloc (.cells #[.bool ng,.slice am nl cm,.slice a7 n7 c7] 49)) (#[.bool ng,.slice am nl cm,.slice a7 n7 c7]:Array Value).toList [⟨ofI z,x.t.m⟩]:=by
           rw [HNG.out]
           refine z0r.single (t:=⟨ofI z,x.t.m⟩) ((HU7.out _ ((HXR.out.trans HX7.out).alloc _)).to (Kept.refl _ _) (fun j hj => ⟨⟨Nat.le_trans HX.out.size hj.1.1,hj.1.2⟩,fun e => ?_⟩)) ((HP7.out.ext (Ext.alloc (Ext.refl w7) _) (fun j hj => hj.2)).to (Kept.refl _ _) (fun j hj => ⟨⟨Nat.le_trans (HX.out.trans HX40.out).size hj.1,by rw [size_alloc]; have:=hj.2; omega⟩,fun e => ?_⟩))
           ·have h1:=(HW.out.lt _ e.symm).2
            have h2:=hj.1.1
            omega
           ·have h1:=(HW.out.lt _ e.symm).2
            have h2:=hj.1
            have h3:=HX40.out.size
            simp at h2
            omega
          have hall:=HY7.out.append hone
          have e:ofP (ps ++ [(z,x.t.m)]) = ofP ps ++ [⟨ofI z,x.t.m⟩]:=by unfold ofP; rw [List.map_append]; rfl
          show z0r _ _ _ _
          rw [e]
          exact z3u hall HG9.out HBK.out (Nat.le_refl _)
         ·show _ = _; rw [HKK.out]; simp
         ·have h1:=HCO.out _ (HCOL.out z' hz')
          rw [show oneP z x.t.m = [(z,x.t.m)] by unfold oneP; rw [if_neg hz]] at h1
          simpa using h1
         ·simp; omega
        case measure => have h2:=HMC.out.2; simp only [z15]; omega
     | cons y r2 =>
      have hcm:cn < m + 1:=by rw [HCN.out,HMR.out,HR12.out]; simp
      have q1':decide ((cn:Int) < (m:Int) + 1) = true:=decide_eq_true (by omega)
      have q2':(cn:Int) < (m:Int) + 1:=by omega
      have q3':(0:Int) ≤ (cn:Int):=by omega
      have hyq:q[q1.length + cn]? = some y:=by
       rw [HCN.out,HQ.out,HR12.out,show q1 ++ x :: (r1 ++ y :: r2) = (q1 ++ x :: r1) ++ y :: r2 by simp,show q1.length + (r1.length + 1) = (q1 ++ x :: r1).length by simp]
       exact z5u _ _ _
      have L0:=fun Y:Later wr => ((HS2.out.later (HX25.out.trans Y.h)).get3 hyq).1
      simp only [Nat.zero_add,Nat.add_mul] at L0
      have LX:=fun Y:Later wr => Y.h.cell d2
      have a2:=fun Y => (L0 Y).2.2
      have HYC:=hid (fun W (hW:Ext wr W) => L0 ⟨W,hW⟩)
      have hod:=z3i y.may x.may
      have CO:=hid (fun Y:Later wr => z66 (S:=S) (.slice y.c.oa y.c.on y.c.oc) (.slice x.c.oa x.c.on x.c.oc) y.t.m x.t.m Y.w' (y.ho.to (HKS.out _ (HX25.out.trans Y.h)).1 (fun _ h => h)) (x.ho.to (HKS.out _ (HX25.out.trans Y.h)).1 (fun _ h => h)) (HKS.out _ (HX25.out.trans Y.h)).2)
      obtain ⟨od1,od2⟩:=z5p y.t.m x.t.m
      have HOD:=hid hod
      generalize z3e y.t.m x.t.m = od at *
      clear hod L0 hyq
      by_cases h0:od = 0
      ·have h0b:(od == 0) = true:=by rw [beq_iff_eq]; exact h0
       have H0:=hid h0
       clear h0
       go_wp2
       refine z04 (by kernel_rfl) (by kernel_rfl) ?_
       repeat (go_big_quiet_step (first | (go_at_call 66; exact Later.done (CO.out _))))
       refine wpQuiet_nil ?_
       intro W2 hW2
       have HW2:=hid hW2
       have HBL:Hid (w3.heap.size < wr.heap.size):=hid (z08 k0)
       have HLZ:Hid ((ofI z).mag.length ≤ 40000000000000):=hid (by
        rw [z4u,HZ.out]
        refine Nat.le_trans (zf5 (k:=L) ?_ ?_ ?_) (by omega)
        ·exact z28 (z44 x.hm.lt) (HLX.out x HXQ.out)
        ·intro u hu
         obtain ⟨t,ht,rfl⟩:=List.mem_map.1 hu
         obtain ⟨y',hy',rfl⟩:=List.mem_map.1 ht
         exact z28 (z44 y'.hm.lt) (HLX.out y' (by rw [HQ.out,HR12.out]; simp [hy']))
        ·have h1:=HMR.out
         have h2:=HQN.out
         rw [HQ.out] at h2
         rw [HR12.out] at h1 h2
         have hB2:B32 ^ 2 = 18446744073709551616:=by decide
         rw [hB2]
         simp [toQ,toP] at h1 h2 ⊢
         omega)
       have CA2:=hid (fun W (hW:Ext W2 W) => zcd (S:=fun k => S k ∨ za1 w4 wr w3.heap.size k) (.agg #[.bool ng,.slice am nl cm]) (.agg #[.bool y.c.neg,.slice y.c.ma y.c.mn y.c.mc]) (ofI z) y.t.c W ⟨_,by rw [HNG.out],HU5.out.to (Kept.ext (HW2.out.trans hW) (fun k hk => hk.1.2)) (fun k hk => .inr hk)⟩ ⟨_,by rw [y.neg],y.hm.to (HKS.out _ (HX25.out.trans (HW2.out.trans hW))).1 (fun k hk => .inl hk)⟩ (fun k hk => by
        rcases hk with hk | hk
        ·exact (HKS.out _ (HX25.out.trans (HW2.out.trans hW))).2 k hk
        ·exact Nat.lt_of_lt_of_le hk.1.2 (HW2.out.trans hW).size) HLZ.out (by have:=HLX.out y (by rw [HQ.out,HR12.out]; simp); omega))
       have hd:=hW2.drew
       have s0:=hW2.cell k0
       have s1:=hW2.cell k1
       obtain ⟨s2,s3,-⟩:=HYC.out _ hW2
       have HFR:=hid (fun W (hW:Ext wr W) => And.intro (hW.cell k0) (And.intro (hW.cell k1) (And.intro (hW.free HBL.out k2) (hW.free HBL.out k3))))
       have HWD:=hid hd
       have HX20:=hid ((Ext.refl W2).drew)
       clear a2 LX k0 k1 k2 k3 d0 d1 d2 CO hW2 hd q1' q2' q3'
       have q2':(cn:Int) < (m:Int) + 1:=by omega
       have q3':(0:Int) ≤ (cn:Int):=by omega
       go_wp2_with fail
       go_region_with (first
         | (go_at_call 164; (with_reducible refine (CA2.out _ HX20.out).mono ?_); rintro e w5 ⟨v5,rfl,⟨vm5,rfl,hu5⟩,hx5⟩; have HX5':=hid (HWD.out.trans hx5); obtain ⟨e0,e1,e2,e3⟩:=HFR.out _ HX5'.out; rw [z1t] at hu5 ⊢; have HU6:=hid hu5; obtain ⟨am5,cm5,rfl⟩:=hu5.form; obtain ⟨ng5,hng5⟩:∃ b,b = (ofI (z + valI y.t.c)).neg:=⟨_,rfl⟩; obtain ⟨nl5,hnl5⟩:∃ b,b = (ofI (z + valI y.t.c)).mag.length:=⟨_,rfl⟩; rw [← hng5,← hnl5]; rw [← hnl5] at HU6; have HNG5:=hid hng5; have HNL5:=hid hnl5; have HE5:=hid (And.intro e0 (And.intro e1 (And.intro e2 e3))); have HX55:=hid hx5; clear hu5 hx5 hng5 hnl5))
       all_goals
        go_wp2
        go_roundw
        case rel =>
         refine ⟨r1 ++ [y],r2,cn + 1,z + valI y.t.c,ng5,am5,nl5,cm5,?_,by go_num,?_,by omega,?_,?_,HNG5.out,HNL5.out,HX5.out.trans ((Ext.refl wr).trans (HX5'.out)) |>.set2 HBX.out _ _,(z0v _ _ HE5.out.1 HE5.out.2.1).1,(z0v _ _ HE5.out.1 HE5.out.2.1).2,z2u (z2u HE5.out.2.2.1),z2u (z2u HE5.out.2.2.2),?_⟩
         ·show _ = _; rw [HR12.out]; simp
         ·show _ = _; rw [HCN.out]; simp
         ·intro u hu
          rcases List.mem_append.1 hu with hu | hu
          ·exact HSM.out u hu
          ·rw [List.mem_singleton.1 hu]
           have h1:=HOD.out
           rw [H0.out] at h1
           exact (z1o y.may x.may).1 h1.symm
         ·show _ = _
          rw [HZ.out,show toQ (r1 ++ [y]) = toQ r1 ++ [(valI y.t.c,y.t.m)] by simp [toQ,toP],zlh]
          simp only
          omega
         ·refine hid (HU6.out.to (Kept.set2 (fun h => ?_) _ _) (fun k hk => ⟨⟨?_,?_⟩,?_⟩))
          ·have h1:=h.1
           have h2:=HW2.out.size
           have h3:=HBL.out
           simp at h1
           omega
          ·have h1:=hk.1
           have h2:=HW2.out.size
           have h3:=HX5.out.size
           simp at h1
           omega
          ·rw [z4z]; exact hk.2
          ·have h1:=hk.1
           have h2:=HW2.out.size
           have h3:=HBL.out
           simp at h1
           omega
        case measure => simp only [intOf]; omega
      ·have h0b:(od == 0) = false:=by rw [beq_eq_false_iff_ne]; exact h0
       have HEX:Hid (∀ u ∈ (toQ (y :: r2)).head?,u.2 ≠ x.t.m):=hid (fun u hu => by
        simp [toQ,toP] at hu
        subst hu
        intro e
        simp only at e
        have h1:=HOD.out
        rw [e,z34 _ x.may] at h1
        exact h0 h1)
       have H0:=hid h0
       clear h0
       go_wp2
       refine z04 (by kernel_rfl) (by kernel_rfl) ?_
       repeat (go_big_quiet_step (first | (go_at_call 66; exact Later.done (CO.out _))))
       refine wpQuiet_nil ?_
       intro W2 hW2
       have HW2:=hid hW2
       clear a2 LX CO q1' q2' q3'
       have HBL:Hid (w3.heap.size < wr.heap.size):=hid (z08 k0)
       have hk0:=hW2.cell k0
       have hk1:=hW2.cell k1
       have HLZ:Hid ((ofI z).mag.length ≤ 40000000000000):=hid (by
        rw [z4u,HZ.out]
        refine Nat.le_trans (zf5 (k:=L) ?_ ?_ ?_) (by omega)
        ·exact z28 (z44 x.hm.lt) (HLX.out x HXQ.out)
        ·intro u hu
         obtain ⟨t,ht,rfl⟩:=List.mem_map.1 hu
         obtain ⟨y',hy',rfl⟩:=List.mem_map.1 ht
         exact z28 (z44 y'.hm.lt) (HLX.out y' (by rw [HQ.out,HR12.out]; simp [hy']))
        ·have h1:=HMR.out
         have h2:=HQN.out
         rw [HQ.out] at h2
         rw [HR12.out] at h1 h2
         have hB2:B32 ^ 2 = 18446744073709551616:=by decide
         rw [hB2]
         simp [toQ,toP] at h1 h2 ⊢
         omega)
       have HMC:Hid (m + 1 - cn = (y :: r2).length ∧ cn = r1.length + 1):=hid (by
        have h1:=HMR.out
        rw [HR12.out] at h1
        have h2:=HCN.out
        simp at h1 ⊢
        omega)
       have HCOL:Hid (∀ z',Coll (toQ (y :: r2)) z' → Coll (toQ (x :: r)) (oneP z x.t.m ++ z')):=hid (fun z' hz' => by
        have h1:=Coll.group (valI x.t.c,x.t.m) (toQ r1) (toQ (y :: r2)) z' (fun u hu => by
         obtain ⟨t,ht,rfl⟩:=List.mem_map.1 hu
         obtain ⟨y',hy',rfl⟩:=List.mem_map.1 ht
         exact HSM.out y' hy') HEX.out hz'
        rw [HZ.out,HR12.out]
        have e:toQ (x :: (r1 ++ (y :: r2))) = (valI x.t.c,x.t.m) :: toQ r1 ++ toQ (y :: r2):=by simp [toQ,toP]
        rw [e]
        exact h1)
       have CS:=hid (z1l (S:=za1 w4 wr w3.heap.size) (.agg #[.bool ng,.slice am nl cm]) (ofI z) W2 ⟨_,by rw [HNG.out],HU5.out.to (Kept.ext hW2 (fun k hk => hk.1.2)) (fun _ h => h)⟩ (fun k hk => Nat.lt_of_lt_of_le hk.1.2 hW2.size) (by have:=HLZ.out; omega))
       have HD2:=hid (And.intro (hW2.cell d0) (And.intro (hW2.cell d1) (hW2.cell d2)))
       have hsgv:z18 (valI (ofI z)) = z18 z:=by rw [z1t]
       clear k0 k1 k2 k3 d0 d1 d2 hW2
       go_wp2_with fail
       with_reducible refine CS.out.mono ?_
       rw [hsgv]
       rintro e w6 ⟨rfl,hx6⟩
       have HX6:=hid (HW2.out.trans hx6)
       obtain ⟨sg,hsg⟩:∃ s,s = z18 z:=⟨_,rfl⟩
       rw [← hsg]
       have hsr:-1 ≤ sg ∧ sg ≤ 1:=by rw [hsg]; unfold z18; rcases z46 z 0 with h | h | h <;> omega
       obtain ⟨hsr1,hsr2⟩:=hsr
       have HSG2:=hid hsg
       have hk0':=hx6.cell hk0
       have hk1':=hx6.cell hk1
       have hcm1:cn ≤ m + 1:=hrm
       by_cases hz:z = 0
       ·have hb:(sg != 0) = false:=by rw [hsg,hz]; decide
        have HZZ:=hid hz
        clear hk0 hk1 hsgv hsg hz hx6
        go_wp2
        go_roundw
        case rel =>
         refine ⟨q1 ++ x :: r1,(y :: r2),_,m + 1 - cn,cl - cn,k,ys,ps,?_,rfl,HMC.out.1,?_,by omega,by omega,HX.out.trans (HX5.out.trans HX6.out),z0o HW.out (HX5.out.trans HX6.out),z11 HY.out (HX5.out.trans HX6.out),HKK.out,fun z' hz' => ?_,?_⟩
         ·show _ = _; rw [HQ.out,HR12.out]; simp
         ·intro h
          have h2:=HMC.out.2
          try rw [if_neg (by omega)]
          congr 2
          simp
          omega
         ·have h1:=HCOL.out z' hz'
          rw [HZZ.out] at h1
          exact HCO.out z' h1
         ·simp; omega
        case measure => have h2:=HMC.out.2; simp only [z15]; omega
       ·have hb:(sg != 0) = true:=by
         rw [hsg,bne_iff_ne]
         unfold z18 cmpI
         split <;> (try split) <;> omega
        clear hk0 hk1 hsgv hsg hx6
        have hx40:Ext w4 w6:=HX5.out.trans HX6.out
        have HX40:=hid hx40
        have HXR:=hid ((Ext.refl w6).drew)
        have HXD:=hid hx40.drew
        have S0:_ ∧ _ ∧ _:=And.intro (HXR.out.cell hk0') (And.intro (HXR.out.cell hk1') ((hx40.drew).cell c2))
        have HU7:Hid (∀ W,Ext w6 W → U32s (za1 w4 W w3.heap.size) W (.slice am nl cm) (ofI z).mag):=hid (fun W hW => HU5.out.to (Kept.ext (HX6.out.trans hW) (fun k hk => hk.1.2)) (fun k hk => ⟨⟨hk.1.1,Nat.lt_of_lt_of_le hk.1.2 (HX6.out.trans hW).size⟩,hk.2⟩))
        have CCL:=hid (z7w (S:=S) (.slice x.c.oa x.c.on x.c.oc) x.t.m w6.drew (x.ho.to (HKS.out _ (HX.out.trans HXD.out)).1 (fun _ h => h)) (HKS.out _ (HX.out.trans HXD.out)).2 (Nat.le_trans (z68 x.may) (by decide)))
        have HWR:=hid (z0o HW.out HXD.out)
        have HYR:=hid (z11 HY.out HXD.out)
        have HKC6:=hid (And.intro hk0' hk1')
        have HB3:Hid (k + 1 ≤ maxLen):=hid (by have h1:=HQN.out; rw [HQ.out] at h1; simp at h1; unfold maxLen; omega)
        have HB4:Hid ((k + 1) * 56 ≤ 140737488355328):=hid (by have h1:=HQN.out; rw [HQ.out] at h1; simp at h1; omega)
        have HXDD:=hid (HX.out.trans HXD.out)
        clear hx40 hk0' hk1'
        have HKB:Hid (some w3.heap.size ≠ u2.ownBlock):=hid (fun e => by have h1:=(HW.out.lt _ e.symm).2; have h2:=HBX.out; omega)
        have HKG:Hid (some g ≠ u2.ownBlock):=hid (fun e => by have h1:=(HW.out.lt _ e.symm).1; have h2:=HS2.out.old; have h3:=HS2.out.grown.size; omega)
        have hcn:0 < m + 1:=Nat.succ_pos m
        go_wp2_with fail
        go_region_held3 (fun W => W.cell? ⟨w3.heap.size,0,none⟩ = some (.bool ng) ∧ W.cell? ⟨w3.heap.size,1,none⟩ = some (.slice am nl cm) ∧ W.cell? ⟨g,q1.length * 3 + 2,none⟩ = some (.slice x.c.oa x.c.on x.c.oc)) (first | exact S0 | exact S7 | exact ⟨cell_old _ S7.1,cell_old _ S7.2.1,cell_old _ S7.2.2⟩ | exact S9)
         (first
          | (go_at_call 70; (with_reducible refine CCL.out.mono ?_); rintro e w7 ⟨v7,rfl,hp7,hx7⟩; have HX7:=hid hx7; have S7:_ ∧ _ ∧ _:=And.intro (HX7.out.cell S0.1) (And.intro (HX7.out.cell S0.2.1) (HX7.out.cell S0.2.2)); have HP7:=hid hp7; obtain ⟨a7,c7,rfl⟩:=hp7.form; obtain ⟨n7,hn7⟩:∃ n,n = x.t.m.length:=⟨_,rfl⟩; rw [← hn7]; rw [← hn7] at HP7; have HN7:=hid hn7
             have HW7:=hid (z0o (z0o HWR.out HX7.out) (Ext.alloc (Ext.refl w7) (.cells #[.bool ng,.slice am nl cm,.slice a7 n7 c7] 49))); have HY7:=hid (z11 (z11 HYR.out HX7.out) (Ext.alloc (Ext.refl w7) (.cells #[.bool ng,.slice am nl cm,.slice a7 n7 c7] 49))); have HSRC7:=hid (z82 w7 #[.bool ng,.slice am nl cm,.slice a7 n7 c7] 49 (z1x rfl rfl rfl) rfl); have HB5:=hid (Nat.le_trans (HXDD.out.trans HX7.out).size (World.grownBy_alloc w7 (.cells #[.bool ng,.slice am nl cm,.slice a7 n7 c7] 49) none).size); have HX27:=hid ((HXDD.out.trans HX7.out).alloc (.cells #[.bool ng,.slice am nl cm,.slice a7 n7 c7] 49)); have HC7:=hid (And.intro (cell_old (.cells #[.bool ng,.slice am nl cm,.slice a7 n7 c7] 49) S7.1) (And.intro (cell_old (.cells #[.bool ng,.slice am nl cm,.slice a7 n7 c7] 49) S7.2.1) (cell_old (.cells #[.bool ng,.slice am nl cm,.slice a7 n7 c7] 49) S7.2.2))); clear hx7 hp7 hn7)
          | (refine z1i rfl (.tmp 47) (.tmp 55) 23 rfl w2.heap.size 49 j0 (.agg #[.bool false,.slice none 0 0,.slice none 0 0]) 3 56 Tryz.underlying23 hj jz0 jz1 jz2 rfl (Nat.succ_pos _) _ k ys rfl HW7.out (some ⟨w7.heap.size,0,none⟩) 1 1 _ rfl HSRC7.out HB3.out HB4.out HB5.out ?_; intro v9 w9 hown hg hbk; have HW9:=hid hown; have HG9:=hid hg; have HBK:=hid hbk; have HX9:=hid (z1f HX27.out HW7.out hg); have S9:_ ∧ _ ∧ _:=And.intro (hg.cell HC7.out.1 HKB.out) (And.intro (hg.cell HC7.out.2.1 HKB.out) (hg.cell HC7.out.2.2 HKG.out)); clear hown hg hbk))
        all_goals
         go_wp2
         go_roundw
         case rel =>
          refine ⟨q1 ++ x :: r1,(y :: r2),_,m + 1 - cn,cl - cn,k + 1,ys ++ (#[.bool ng,.slice am nl cm,.slice a7 n7 c7]:Array Value).toList,ps ++ [(z,x.t.m)],?_,rfl,HMC.out.1,?_,by omega,by omega,HX9.out,HW9.out,?_,?_,fun z' hz' => ?_,?_⟩
          ·show _ = _; rw [HQ.out,HR12.out]; simp
          ·intro h
           have h2:=HMC.out.2
           try rw [if_neg (by omega)]
           congr 2
           simp
           omega
          ·have hone:z0r (z37 w2 (w7.alloc (.cells #[.bool ng,.slice am nl cm,.slice a7 n7 c7] 49)) u2) (w7.alloc (.cells #[.bool ng,.slice am nl cm,.slice a7 n7 c7] 49)) (#[.bool ng,.slice am nl cm,.slice a7 n7 c7]:Array Value).toList [⟨ofI z,x.t.m⟩]:=by
            rw [HNG.out]
            refine z0r.single (t:=⟨ofI z,x.t.m⟩) ((HU7.out _ ((HXR.out.trans HX7.out).alloc _)).to (Kept.refl _ _) (fun j hj => ⟨⟨Nat.le_trans HX.out.size hj.1.1,hj.1.2⟩,fun e => ?_⟩)) ((HP7.out.ext (Ext.alloc (Ext.refl w7) _) (fun j hj => hj.2)).to (Kept.refl _ _) (fun j hj => ⟨⟨Nat.le_trans (HX.out.trans HX40.out).size hj.1,by rw [size_alloc]; have:=hj.2; omega⟩,fun e => ?_⟩))
            ·have h1:=(HW.out.lt _ e.symm).2
             have h2:=hj.1.1
             omega
            ·have h1:=(HW.out.lt _ e.symm).2
             have h2:=hj.1
             have h3:=HX40.out.size
             simp at h2
             omega
           have hall:=HY7.out.append hone
           have e:ofP (ps ++ [(z,x.t.m)]) = ofP ps ++ [⟨ofI z,x.t.m⟩]:=by unfold ofP; rw [List.map_append]; rfl
           show z0r _ _ _ _
           rw [e]
           exact z3u hall HG9.out HBK.out (Nat.le_refl _)
          ·show _ = _; rw [HKK.out]; simp
          ·have h1:=HCO.out _ (HCOL.out z' hz')
           rw [show oneP z x.t.m = [(z,x.t.m)] by unfold oneP; rw [if_neg hz]] at h1
           simpa using h1
          ·simp; omega
         case measure => have h2:=HMC.out.2; simp only [z15]; omega
end
section
open Go.RowKit
theorem zgy {S:Nat → Prop} (v:Value) (ls:List (List RTerm)) (w:World) (h:z6r S w v ls) (hS:∀ k,S k → k < w.heap.size) (hr:zt4 ls) :
  Calls Tryz.prog 154 #[v] w fun e w' => e = .returned (.bool (ls.all mayT)) ∧ Ext w w':=by
 have hnot:∀ (x:Bool) (w:World),(Op.unary .not (.bool x)).run Tryz.prog w = .ok (.bool (!x)) w:=fun _ _ => rfl
 have H:=hid h
 have HR:=hid hr
 have hll:=h.len_le
 obtain ⟨A,c,rfl⟩:=h.form
 obtain ⟨n,hnn⟩:∃ n,n = ls.length:=⟨_,rfl⟩
 rw [← hnn] at H hll ⊢
 have HN:=hid hnn
 clear h hr hnn
 go_enter Tryz.func154,Tryz.ntmps154
 go_wp2
 go_loopw [7] (fun i wr => ∃ k:Nat,k ≤ n ∧ i = .int .i64 k ∧ Ext w wr ∧ Hid ((ls.take k).all mayT = true)) (fun i _ => n - (intOf i).toNat)
 case atStart => exact ⟨0,Nat.zero_le _,rfl,Ext.refl _,rfl⟩
 case round =>
  obtain ⟨k,hk,rfl,hx,HA⟩:=hrel
  have HX:=hid hx
  by_cases hlt:k < n
  ·obtain ⟨p,hp⟩:=z00 (l:=ls) (j:=k) (by rw [← HN.out]; exact hlt)
   obtain ⟨bl,off,vp,rfl,-,hn1,hm1,hSb,h1,h2⟩:=(H.out.ext hx hS).cellAt hp
   have HP:=hid hp
   have HRP:=hid (HR.out p (List.mem_of_getElem? hp))
   have C:=hid (z8v (S:=S) vp p wr h2 (z0a hS hx) HRP.out)
   obtain ⟨ap,cp,rfl⟩:=h2.form
   clear h2 hp hx
   cases hm:mayT p with
   | true =>
    have HM:=hid hm
    rw [hm] at C
    clear hm
    go_wp2_with fail
    with_reducible refine C.out.mono ?_
    rintro e w2 ⟨rfl,hx2⟩
    have HX2:=hid (HX.out.trans hx2)
    clear hx2
    go_wp2
    go_roundw
    case rel => exact ⟨k + 1,by omega,by go_num,HX2.out,by show _ = _; rw [List.take_add_one,HP.out,List.all_append,HA.out]; simp [HM.out]⟩
    case measure => simp only [intOf]; omega
   | false =>
    have HM:=hid hm
    rw [hm] at C
    clear hm
    go_wp2_with fail
    with_reducible refine C.out.mono ?_
    rintro e w2 ⟨rfl,hx2⟩
    have HX2:=hid (HX.out.trans hx2)
    clear hx2
    go_wp2
    go_ret
    exact ⟨by rw [List.all_eq_false.2 ⟨p,List.mem_of_getElem? HP.out,by rw [HM.out]; exact Bool.false_ne_true⟩]; rfl,HX2.out⟩
  ·obtain rfl:k = n:=by omega
   have HE:Hid (ls.all mayT = true):=hid (by have:=HA.out; rwa [List.take_of_length_le (by rw [← HN.out]; exact Nat.le_refl _)] at this)
   clear hx
   go_wp2
   go_ret
   exact ⟨by rw [HE.out]; rfl,HX.out⟩
theorem za2 {S:Nat → Prop} {w:World} {vp vq:Value} {ps qs:List RTerm} (hp:z0h S w vp ps) (hq:z0h S w vq qs) (hS:∀ k,S k → k < w.heap.size) (T:TypeId) :
  z6r (fun k => S k ∨ k = w.heap.size) (w.alloc (.cells #[vp,vq] T)) (.slice (some ⟨w.heap.size,0,none⟩) 2 2) [ps,qs]:=by
 have hk:Kept S w (w.alloc (.cells #[vp,vq] T)):=Kept.alloc hS _
 refine ⟨w.heap.size,0,⟨_,2,rfl,Nat.le_refl _,by decide,fun _ => rfl,fun _ => .inr rfl⟩,fun j p hj => ?_⟩
 have hj2:=z03 hj
 simp only [List.length_cons,List.length_nil] at hj2
 match j,hj with
 | 0,hj =>
  obtain rfl:ps = p:=by simpa using hj
  exact ⟨vp,z02 _ _ _ rfl rfl,hp.to hk (fun _ h => .inl h)⟩
 | 1,hj =>
  obtain rfl:qs = p:=by simpa using hj
  exact ⟨vq,z02 _ _ _ rfl rfl,hq.to hk (fun _ h => .inl h)⟩
 | j + 2,_ => omega
theorem zgz {S:Nat → Prop} {w:World} (hS:∀ k,S k → k < w.heap.size) (o:Obj):∀ k,(S k ∨ k = w.heap.size) → k < (w.alloc o).heap.size:=fun k hk => by
 rw [size_alloc]
 rcases hk with hk | rfl
 ·have:=hS k hk; omega
 ·omega
theorem za3 {ts:List RTerm} (h:mayT ts = true):∀ t ∈ ts,mayM t.m = true:=fun t ht => by
 have:=(z5n h).1 t ht
 simp only [z17,Bool.and_eq_true] at this
 exact this.2
theorem zj0 (p q:List RTerm):toP (p ++ q) = toP p ++ toP q:=List.map_append
def z3f (w:World) (p:PZ):Ending → World → Prop:=fun e w' => ∃ v',e = .returned (.tuple #[v',.int .i64 0]) ∧ z0h (New w w') w' v' (ofP p) ∧ Ext w w'
def zs7 (w:World) (c:Int):Ending → World → Prop:=fun e w' => e = .returned (.tuple #[.slice none 0 0,.int .i64 c]) ∧ Ext w w'
theorem zpb {S:Nat → Prop} (vp vq:Value) (ps qs:List RTerm) (w:World) (L:Nat) (hp:z0h S w vp ps) (hq:z0h S w vq qs) (hS:∀ k,S k → k < w.heap.size) (hmp:mayT ps = true) (hmq:mayT qs = true)
  (hrp:∀ t ∈ ps,t.c.mag.length ≤ L) (hrq:∀ t ∈ qs,t.c.mag.length ≤ L) (hL:L ≤ 10000000000) (hn:ps.length + qs.length ≤ 1000000000000) :
  Calls Tryz.prog 149 #[vp,vq] w (z3f w (z25 (toP ps ++ toP qs))):=by
 have hnot:∀ (x:Bool) (w:World),(Op.unary .not (.bool x)).run Tryz.prog w = .ok (.bool (!x)) w:=fun _ _ => rfl
 have hx1:Ext w (w.alloc (.cells #[vp,vq] 23)):=Ext.alloc (Ext.refl w) _
 have CA:=zgy _ [ps,qs] (w.alloc (.cells #[vp,vq] 23)) (za2 hp hq hS _) (zgz hS _) (fun p hp => by
  simp only [List.mem_cons,List.not_mem_nil,or_false] at hp
  rcases hp with rfl | rfl
  ·exact fun t ht => Nat.le_trans (hrp t ht) (by omega)
  ·exact fun t ht => Nat.le_trans (hrq t ht) (by omega))
 rw [show [ps,qs].all mayT = true by simp [hmp,hmq]] at CA
 have HCA:=hid CA
 have HX1:=hid hx1
 have CC:=fun (W:World) (hW:Ext w W) => zdq _ [ps,qs] (W.alloc (.cells #[vp,vq] 23)) (za2 (hp.ext hW hS) (hq.ext hW hS) (z0a hS hW) _) (zgz (z0a hS hW) _) (by simpa using hn)
 have hfl:[ps,qs].flatten = ps ++ qs:=by simp
 rw [hfl] at CC
 have HCC:=hid CC
 have CL:=fun (W:World) (v:Value) (h:z0h (fun k => k < W.heap.size) W v (ps ++ qs)) => z4o v (ps ++ qs) W L h (fun _ h => h) (fun t ht => by
  rcases List.mem_append.1 ht with ht | ht
  ·exact za3 hmp t ht
  ·exact za3 hmq t ht) (fun t ht => by
  rcases List.mem_append.1 ht with ht | ht
  ·exact hrp t ht
  ·exact hrq t ht) hL (by simpa using hn)
 rw [zj0] at CL
 have HCL:=hid CL
 have HSS:=hid hS
 obtain ⟨ap,cp,rfl⟩:=hp.form
 obtain ⟨aq,cq,rfl⟩:=hq.form
 clear CA CC CL hp hq hx1 hmp hmq hrp hrq hfl hS
 unfold z3f
 generalize z25 (toP ps ++ toP qs) = r at *
 go_enter Tryz.func149,Tryz.ntmps149
 go_wp2_with fail
 with_reducible refine HCA.out.mono ?_
 rintro e w1 ⟨rfl,hx⟩
 have HX:=hid (HX1.out.trans hx)
 clear hx
 go_wp2_with fail
 with_reducible refine (HCC.out _ HX.out).mono ?_
 rintro e w2 ⟨v2,xs,rfl,hown,hcells,hx2⟩
 have HT:Hid (z0h (fun k => k < w2.heap.size) w2 v2 (ps ++ qs)):=hid (z5s hown (hcells.to (Kept.refl _ _) (fun k hk => Nat.lt_of_lt_of_le (zgz (z0a HSS.out HX.out) _ k hk) hx2.size)) (fun _ _ h => h))
 have HX2:=hid (HX.out.trans ((Ext.alloc (Ext.refl _) _).trans hx2))
 clear hown hcells hx2
 go_wp2_with fail
 with_reducible refine (HCL.out _ _ HT.out).mono ?_
 rintro e w3 ⟨v3,rfl,hp3,hx3⟩
 have HX3:=hid (HX2.out.trans hx3)
 have HP3:=hid (hp3.to (Kept.refl _ _) (New.mono HX2.out))
 clear hp3 hx3
 go_wp2
 go_ret2
 exact ⟨v3,rfl,HP3.out,HX3.out⟩
end
section
open Go.RowKit
end
section
open Go.RowKit
end
section
open Go.RowKit
def ztn (ts:List RTerm):Bool:=ts.all fun t => mayM t.m
theorem zs8 {S:Nat → Prop} (v:Value) (ts:List RTerm) (w:World) (L:Nat) (h:z0h S w v ts) (hS:∀ k,S k → k < w.heap.size) (hr:∀ t ∈ ts,t.c.mag.length ≤ L) (hL:L ≤ 10000000000) (hn:ts.length ≤ 1000000000000) (hm:ztn ts = true) :
  Calls Tryz.prog 169 #[v] w (z3f w (z25 (toP ts))):=by
 have hnot:∀ (x:Bool) (w:World),(Op.unary .not (.bool x)).run Tryz.prog w = .ok (.bool (!x)) w:=fun _ _ => rfl
 unfold z3f
 have H:=hid h
 have HMM:=hid (List.all_eq_true.1 hm)
 have hll:=h.len_le
 have HC:=hid (fun (W:World) (hW:Ext w W) => z4o v ts W L (h.ext hW hS) (z0a hS hW) (fun t ht => HMM.out t ht) hr hL hn)
 obtain ⟨A,c,rfl⟩:=h.form
 obtain ⟨n,hnn⟩:∃ n,n = ts.length:=⟨_,rfl⟩
 rw [← hnn] at H hll HC ⊢
 have HN:=hid hnn
 clear h hr hnn hn hm
 go_enter Tryz.func169,Tryz.ntmps169
 go_wp2
 go_loopw [5,8] (fun _ i wr => ∃ k:Nat,k ≤ n ∧ i = .int .i64 k ∧ Ext w wr) (fun _ i _ => n - (intOf i).toNat)
 case atStart => exact ⟨0,Nat.zero_le _,rfl,Ext.refl _⟩
 case round =>
  obtain ⟨k,hk,rfl,hx⟩:=hrel
  have HX:=hid hx
  by_cases hlt:k < n
  ·obtain ⟨t,ht⟩:=z00 (l:=ts) (j:=k) (by rw [← HN.out]; exact hlt)
   obtain ⟨b,off,vd,vo,rfl,-,hn1,hm1,hSb,h1,h2,h3,h4,h5⟩:=(H.out.ext hx hS).cellAt ht
   have hMT:=HMM.out t (List.mem_of_getElem? ht)
   have hxa:Ext wr (wr.alloc (.cells #[.bool t.c.neg,vd,vo] 49)):=Ext.alloc (Ext.refl wr) _
   have C:=hid (z2j (S:=S) vo t.m _ (h5.ext hxa (z0a hS hx)) (z0a hS (hx.trans hxa)))
   rw [hMT] at C
   have HXA:=hid (hx.trans hxa)
   obtain ⟨ad,cd,rfl⟩:=h4.form
   obtain ⟨ao,co,rfl⟩:=h5.form
   clear h4 h5 ht hx hxa hMT
   go_wp2_with fail
   with_reducible refine C.out.mono ?_
   rintro e w2 ⟨rfl,hx2⟩
   have HX2:=hid (HXA.out.trans hx2)
   clear hx2
   go_wp2
   go_roundw
   case rel => exact ⟨k + 1,by omega,by go_num,HX2.out⟩
   case measure => simp only [intOf]; omega
  ·obtain rfl:n = k:=by omega
   clear hx
   go_wp2_with fail
   with_reducible refine (HC.out _ HX.out).mono ?_
   rintro e w2 ⟨v2,rfl,hp2,hx2⟩
   have HP2:=hid (hp2.to (S':=New w w2) (Kept.refl _ _) (fun k h => ⟨Nat.le_trans HX.out.size h.1,h.2⟩))
   have HX2:=hid (HX.out.trans hx2)
   clear hp2 hx2
   go_wp2
   all_goals
    go_ret2
    exact ⟨_,rfl,HP2.out,HX2.out⟩
end
section
open Go.RowKit
theorem z6l {z:Int} (h:0 ≤ z ∧ z ≤ 10000):lenI z ≤ 1:=z38 (by show z.natAbs < 4294967296 ^ 1; omega)
theorem za4 {a b:Int} {j k:Nat} (ha:lenI a ≤ j) (hb:lenI b ≤ k):lenI (a * b) ≤ j + k:=by
 refine z38 ?_
 rw [Int.natAbs_mul,Nat.pow_add]
 exact Nat.mul_lt_mul'' (z28 ha (Nat.le_refl _)) (z28 hb (Nat.le_refl _))
theorem zpc {w:World} {v e:Int} (hv:z40 v) (he:z40 e) (T:TypeId):Pows (Old (w.alloc (.cells #[.int .i64 v,.int .i64 e] T))) (w.alloc (.cells #[.int .i64 v,.int .i64 e] T)) (.slice (some ⟨w.heap.size,0,none⟩) 1 1) [(v,e)]:=by
 refine ⟨w.heap.size,0,⟨_,1,rfl,Nat.le_refl _,by decide,fun _ => rfl,fun _ => by show w.heap.size < (w.alloc _).heap.size; rw [size_alloc]; omega⟩,fun j x hj => ?_⟩
 have hj2:=z03 hj
 simp only [List.length_cons,List.length_nil] at hj2
 match j,hj with
 | 0,hj =>
  obtain rfl:(v,e) = x:=by simpa using hj
  exact ⟨⟨hv,he⟩,z02 _ _ _ rfl rfl,z02 _ _ _ rfl rfl⟩
 | j + 1,_ => omega
theorem z89 {w w':World} {row:Option Nat} {b i:Nat} {v:Value} (hg:w.grownBy w' row) (hc:w.cell? ⟨b,i,none⟩ = some v) (hne:some b ≠ row):w'.cell? ⟨b,i,none⟩ = some v :=
 (World.cell?_of_block (a:=⟨b,i,none⟩) (hg.block b (z08 hc) hne)).trans hc
end
section
open Go.RowKit
theorem zme {p:PZ} {k:Nat} (h:bndZ k p) (hk:k ≤ 40000000000000):zaj (ofP p):=fun t ht => by
 obtain ⟨u,hu,rfl⟩:=List.mem_map.1 ht
 show (ofI u.1).mag.length ≤ _
 rw [z4u]
 exact Nat.le_trans (z38 (h u hu)) hk
theorem zmf {ts:List RTerm} {k:Nat} (hok:okT ts) (h:∀ t ∈ ts,t.c.mag.length ≤ k):bndZ k (z21 ts):=fun u hu => by
 unfold z21 at hu
 split at hu
 ·obtain ⟨t,ht,rfl⟩:=List.mem_map.1 hu
  exact z28 (z44 (hok t ht)) (h t ht)
 ·simp at hu
theorem zpd {p:PZ} {k:Nat} (h:bndZ k p):∀ t ∈ ofP p,t.c.mag.length ≤ k:=fun t ht => by
 obtain ⟨u,hu,rfl⟩:=List.mem_map.1 ht
 show (ofI u.1).mag.length ≤ _
 rw [z4u]
 exact z38 (h u hu)
theorem zmg {n:Nat} {ts:List RTerm} (h:z5h n ts = false):ts.length ≤ n ∧ ∀ t ∈ ts,t.c.mag.length ≤ 20 ∧ t.m.length ≤ 12:=by
 unfold z5h at h
 rw [Bool.or_eq_false_iff] at h
 obtain ⟨k1,k2⟩:=h
 refine ⟨?_,fun t ht => ?_⟩
 ·rw [decide_eq_false_iff_not] at k2
  omega
 ·have k3:=(List.any_eq_false.1 k1) t ht
  unfold zbr at k3
  simp at k3
  omega
theorem z5v (p:PZ):(ofP p).length = p.length:=by unfold ofP; rw [List.length_map]
theorem zmh (ts:List RTerm):(z21 ts).length ≤ ts.length:=by
 unfold z21
 split
 ·unfold toP; rw [List.length_map]; exact Nat.le_refl _
 ·simp
end
section
open Go.RowKit
def z5w (w:World):Option PZ → Ending → World → Prop
 | none => zs7 w 8
 | some p => z3f w p
theorem zmi {ts:List RTerm} {k:Nat} {t:RTerm} (h:ts[k]? = some t):(toP ts)[k]? = some (valI t.c,t.m):=by
 unfold toP
 rw [List.getElem?_map,h]
 rfl
theorem zpe (xs:PZ) (x:Int × Mono):ofP (xs ++ [x]) = ofP xs ++ [⟨ofI x.1,x.2⟩]:=by
 unfold ofP
 rw [List.map_append]
 rfl
theorem zmj {ts:List RTerm} (h:mayT ts = true) {k:Nat} {t:RTerm} (ht:ts[k]? = some t):mayM t.m = true:=za3 h t (List.mem_of_getElem? ht)
theorem zj1 {S:Nat → Prop} (vp vq:Value) (ps qs:List RTerm) (w:World) (L:Nat) (hp:z0h S w vp ps) (hq:z0h S w vq qs) (hS:∀ k,S k → k < w.heap.size) (hmp:mayT ps = true) (hmq:mayT qs = true)
  (hrp:∀ t ∈ ps,t.c.mag.length ≤ L) (hrq:∀ t ∈ qs,t.c.mag.length ≤ L) (hL:L ≤ 1000000000) (hc:(∀ t ∈ ps,lenI (valI t.c) < 24) ∨ (∀ t ∈ qs,lenI (valI t.c) < 24)) (hn:ps.length * qs.length ≤ 1000000000000) :
  Calls Tryz.prog 150 #[vp,vq] w (z5w w (z2n (toP ps) (toP qs))):=by
 have hnot:∀ (x:Bool) (w:World),(Op.unary .not (.bool x)).run Tryz.prog w = .ok (.bool (!x)) w:=fun _ _ => rfl
 have HP:=hid hp
 have HQ:=hid hq
 have HMP:=hid (fun (k:Nat) (t:RTerm) (ht:ps[k]? = some t) => zmj hmp ht)
 have HMQ:=hid (fun (k:Nat) (t:RTerm) (ht:qs[k]? = some t) => zmj hmq ht)
 have HRP:=hid hrp
 have HRQ:=hid hrq
 have HCC:=hid hc
 have HNM:=hid hn
 have hpl:=hp.len_le
 have hql:=hq.len_le
 have CA:=zgy (S:=fun k => S k ∨ k = w.heap.size) _ [ps,qs] (w.alloc (.cells #[vp,vq] 23)) (za2 hp hq hS 23) (zgz hS _) (fun p hp => by
  rcases List.mem_cons.1 hp with rfl | hp
  ·exact fun t ht => Nat.le_trans (hrp t ht) (by omega)
  ·rw [List.mem_singleton.1 hp]; exact fun t ht => Nat.le_trans (hrq t ht) (by omega))
 rw [show [ps,qs].all mayT = true by simp [hmp,hmq]] at CA
 obtain ⟨ap,cp,rfl⟩:=hp.form
 obtain ⟨aq,cq,rfl⟩:=hq.form
 obtain ⟨n,hnn⟩:∃ n,n = ps.length:=⟨_,rfl⟩
 obtain ⟨m,hmm⟩:∃ n,n = qs.length:=⟨_,rfl⟩
 rw [← hnn] at HP CA hpl HNM ⊢
 rw [← hmm] at HQ CA hql HNM ⊢
 have HN:=hid hnn
 have HM:=hid hmm
 have HCA:=hid CA
 have HS:=hid hS
 clear hp hq hmp hmq hrp hrq hc hn hnn hmm CA hS
 go_enter Tryz.func150,Tryz.ntmps150
 go_wp2_with fail
 with_reducible refine HCA.out.mono ?_
 rintro e w1 ⟨rfl,hx1⟩
 have HX1:=hid ((Ext.alloc (Ext.refl w) _).trans hx1)
 have HP1:=hid (HP.out.onS HX1.out HS.out)
 have HQ1:=hid (HQ.out.onS HX1.out HS.out)
 have HS1:=hid (z0a HS.out HX1.out)
 clear hx1
 go_wp2
 go_loopw [6,20] (fun o i wr => ∃ (k:Nat) (xs:PZ) (cs:List Value),k ≤ n ∧ i = .int .i64 k ∧ Ext w1 wr ∧ Hid (z4l (toP ps) (toP qs) (k * m) xs) ∧ Hid (xs.length = k * m) ∧ Hid (wr.ownsRow w1.heap.size 49 3 o xs.length cs) ∧ Hid (z0r (z37 w1 wr o) wr cs (ofP xs))) (fun _ i _ => n - (intOf i).toNat)
 case atStart => exact ⟨0,[],[],Nat.zero_le _,rfl,Ext.refl _,hid (by rw [Nat.zero_mul]; exact z9n _ _),hid (by rw [Nat.zero_mul]; rfl),World.ownsRow_nil _ _ _ _,rfl⟩
 case round =>
  obtain ⟨k,xs,cs,hk,rfl,hx,HF,HXL,HW,HY⟩:=hrel
  have HX:=hid hx
  by_cases hlt:k < n
  ·obtain ⟨t,ht⟩:=z00 (l:=ps) (j:=k) (by rw [← HN.out]; exact hlt)
   obtain ⟨b,off,vd,vo,rfl,-,hn1,hm1,hSb,h1,h2,h3,h4,h5⟩:=HP1.out.cellAt ht
   have h1:=hx.cell h1
   have h2:=hx.cell h2
   have h3:=hx.cell h3
   have HT:=hid ht
   have H4:=hid h4
   have H5:=hid h5
   obtain ⟨ad,cd,rfl⟩:=h4.form
   obtain ⟨ao,co,rfl⟩:=h5.form
   obtain ⟨ng,hng⟩:∃ b,b = t.c.neg:=⟨_,rfl⟩
   obtain ⟨nd,hnd⟩:∃ b,b = t.c.mag.length:=⟨_,rfl⟩
   obtain ⟨nm,hnm⟩:∃ b,b = t.m.length:=⟨_,rfl⟩
   have HNG:=hid hng
   rw [← hnd] at H4
   rw [← hnm] at H5
   rw [← hng] at h1
   rw [← hnd] at h2
   rw [← hnm] at h3
   have HXA:=hid (Ext.alloc (Ext.refl wr) (.cells #[.bool ng,.slice ad nd cd,.slice ao nm co] 49))
   clear ht h4 h5 hx hng hnd hnm
   go_wp2
   obtain ⟨wo,rfl⟩:∃ wo:World,wo = wr:=⟨_,rfl⟩
   go_loopw [6,26] (fun o i wr => ∃ (j:Nat) (xs:PZ) (cs:List Value),j ≤ m ∧ i = .int .i64 j ∧ Ext w1 wr ∧ Hid (wo.heap.size < wr.heap.size) ∧ Hid (wr.cell? ⟨wo.heap.size,0,none⟩ = some (.bool ng) ∧ wr.cell? ⟨wo.heap.size,1,none⟩ = some (.slice ad nd cd) ∧ wr.cell? ⟨wo.heap.size,2,none⟩ = some (.slice ao nm co)) ∧ Hid (some wo.heap.size ≠ o.ownBlock) ∧
    Hid (z4l (toP ps) (toP qs) (k * m + j) xs) ∧ Hid (xs.length = k * m + j) ∧ Hid (wr.ownsRow w1.heap.size 49 3 o xs.length cs) ∧ Hid (z0r (z37 w1 wr o) wr cs (ofP xs))) (fun _ i _ => m - (intOf i).toNat)
   case atStart => exact ⟨0,xs,cs,Nat.zero_le _,rfl,HX.out.trans HXA.out,hid (by rw [size_alloc]; exact Nat.lt_succ_self _),hid ⟨z02 _ _ _ rfl rfl,z02 _ _ _ rfl rfl,z02 _ _ _ rfl rfl⟩,hid (fun e => by have:=(HW.out.lt _ e.symm).2; omega),HF,HXL,z0o HW.out HXA.out,z11 HY.out HXA.out⟩
   case round =>
    clear HF HXL HW HY
    obtain ⟨j,xs,cs,hj,rfl,hx,HGS,HKC,HNB,HF,HXL,HW,HY⟩:=hrel
    have HXW:=hid hx
    by_cases hlt2:j < m
    ·obtain ⟨u,hu⟩:=z00 (l:=qs) (j:=j) (by rw [← HM.out]; exact hlt2)
     obtain ⟨b2,off2,ve,vp2,rfl,-,hn2,hm2,hSb2,g1,g2,g3,g4,g5⟩:=(HQ1.out.onS HXW.out HS1.out).cellAt hu
     have HU:=hid hu
     have HAT:=hid (zd2 (zmi HT.out) (zmi hu))
     rw [show (toP qs).length = m by rw [z6f,HM.out]] at HAT
     have hmt:=HMP.out k t HT.out
     have hmu:=HMQ.out j u hu
     obtain ⟨k0,k1,k2⟩:=HKC.out
     obtain ⟨ae,ce,rfl⟩:=g4.form
     obtain ⟨aq2,cq2,rfl⟩:=g5.form
     obtain ⟨mg,hmg⟩:∃ b,b = u.c.neg:=⟨_,rfl⟩
     obtain ⟨ne,hne⟩:∃ b,b = u.c.mag.length:=⟨_,rfl⟩
     obtain ⟨nq,hnq⟩:∃ b,b = u.m.length:=⟨_,rfl⟩
     have HMG:=hid hmg
     have G4:=hid g4
     have G5:=hid g5
     rw [← hne] at G4
     rw [← hnq] at G5
     rw [← hmg] at g1
     rw [← hne] at g2
     rw [← hnq] at g3
     have HXB:=hid (Ext.alloc (Ext.refl wr) (.cells #[.bool mg,.slice ae ne ce,.slice aq2 nq cq2] 49))
     have k3:=HXB.out.cell k0
     have k4:=HXB.out.cell k1
     have k5:=HXB.out.cell k2
     have hS2:=z0a HS1.out HXW.out
     have HCT:=hid (zit (S:=S) (.slice ao nm co) (.slice aq2 nq cq2) t.m u.m _ (H5.out.ext (hx.trans HXB.out) HS1.out) (G5.out.ext HXB.out hS2) (z0a hS2 HXB.out))
     have HCM:=hid (fun (W:World) (hW:Ext wr W) => zlj (S:=S) (.agg #[.bool ng,.slice ad nd cd]) (.agg #[.bool mg,.slice ae ne ce]) t.c u.c W ⟨_,by rw [HNG.out],H4.out.ext (hx.trans hW) HS1.out⟩ ⟨_,by rw [HMG.out],G4.out.ext hW hS2⟩ (z0a hS2 hW) (Nat.le_trans (HRP.out t (List.mem_of_getElem? HT.out)) (by omega)) (Nat.le_trans (HRQ.out u (List.mem_of_getElem? hu)) (by omega))
      (HCC.out.imp (fun h => h t (List.mem_of_getElem? HT.out)) (fun h => h u (List.mem_of_getElem? hu))))
     have hkm:k * m + j < n * m:=by
      have:(k + 1) * m ≤ n * m:=Nat.mul_le_mul_right _ (by omega)
      rw [Nat.add_mul] at this
      omega
     have HKB:Hid (xs.length ≤ 1000000000000):=hid (by have h1:=HNM.out; have h2:=HXL.out; omega)
     cases hmx:mayM (z1b t.m u.m) with
     | false =>
      have he:z6k t.m u.m = 8:=by unfold z6k; rw [hmt,hmu,hmx]; rfl
      have HNO:=hid (z9p HF.out (HAT.out.trans (congrArg some (zlt hmt hmu hmx))))
      rw [he] at HCT
      clear he hmx hmt hmu hx hu g4 g5 hmg hne hnq k0 k1 k2 hkm hS2
      go_wp2_with fail
      with_reducible refine HCT.out.mono ?_
      rintro e w2 ⟨v2,rfl,hp2,hx2⟩
      have HX2:=hid (HX1.out.trans (HXW.out.trans (HXB.out.trans hx2)))
      clear hp2 hx2
      go_wp2
      all_goals
       go_ret2
       rw [HNO.out]
       exact ⟨rfl,HX2.out⟩
     | true =>
      have he:z6k t.m u.m = 0:=by unfold z6k; rw [hmt,hmu,hmx]; rfl
      have hv:z91 t.m u.m = z1b t.m u.m:=by unfold z91; rw [hmt,hmu,hmx]; rfl
      have HYES:=hid (z9o HF.out (HAT.out.trans (congrArg some (zgq hmt hmu hmx))))
      rw [he,hv] at HCT
      clear he hv hmx hmt hmu hx hu g4 g5 hmg hne hnq k0 k1 k2 hkm hS2
      go_wp2_with fail
      with_reducible refine HCT.out.mono ?_
      rintro e w2 ⟨v2,rfl,hp2,hx2⟩
      have HX2:=hid (HXB.out.trans hx2)
      have l0:=hx2.cell k3
      have l1:=hx2.cell k4
      have r0:=hx2.new_cell (i:=0) rfl
      have r1:=hx2.new_cell (i:=1) rfl
      have HP2:=hid (hp2.to (S':=New wr w2) (Kept.refl _ _) (fun k h => ⟨Nat.le_trans HXB.out.size h.1,h.2⟩))
      obtain ⟨a2,c2,rfl⟩:=hp2.form
      obtain ⟨n2,hn2'⟩:∃ b,b = (z1b t.m u.m).length:=⟨_,rfl⟩
      rw [← hn2'] at HP2 ⊢
      have HCM2:=hid (HCM.out w2 (HXB.out.trans hx2))
      clear hp2 hx2 hn2' k3 k4 k5
      go_wp2_with fail
      with_reducible refine HCM2.out.mono ?_
      rintro e w3 ⟨v3,rfl,⟨vm3,rfl,hu3⟩,hx3⟩
      have HX3:=hid (HX2.out.trans hx3)
      have HXW3:=hid (HXW.out.trans (HX2.out.trans hx3))
      have HW3:=hid (z0o HW.out HX3.out)
      obtain ⟨b3,hb3⟩:∃ b,b = (ofI (valI t.c * valI u.c)).neg:=⟨_,rfl⟩
      have hone:z0r (New wr w3) w3 [.bool (ofI (valI t.c * valI u.c)).neg,vm3,.slice a2 n2 c2] [⟨ofI (valI t.c * valI u.c),z1b t.m u.m⟩] :=
       z0r.single (t:=⟨ofI (valI t.c * valI u.c),z1b t.m u.m⟩) (hu3.to (Kept.refl _ _) (fun k h => ⟨Nat.le_trans HX2.out.size h.1,h.2⟩)) (HP2.out.to (Kept.ext hx3 (fun _ h => h.2)) (fun k h => ⟨h.1,Nat.lt_of_lt_of_le h.2 hx3.size⟩))
      have HY3:=hid ((z11 HY.out HX3.out).append (zcv HXW.out.size HW.out hone))
      rw [← zpe xs (valI t.c * valI u.c,z1b t.m u.m)] at HY3
      obtain ⟨a3,c3,rfl⟩:=hu3.form
      obtain ⟨n3,hn3⟩:∃ b,b = (ofI (valI t.c * valI u.c)).mag.length:=⟨_,rfl⟩
      rw [← hb3,← hn3] at HY3 ⊢
      clear hone hu3 hx3 hb3 hn3 l0 l1 r0 r1
      go_wp2_with (at_builtin; refine z1w _ rfl (.tmp 41) (.tmp 49) 22 rfl w1.heap.size 49 (.agg #[.bool false,.slice none 0 0,.slice none 0 0]) 3 56 Tryz.underlying22 Tryz.infoTerm rfl (by decide) _ xs.length cs rfl HW3.out #[.bool b3,.slice a3 n3 c3,.slice a2 n2 c2] rfl (z1x rfl rfl rfl) rfl HKB.out (by decide) HXW3.out.size ?_; intro v5 w5 hown hg hbk; have HW5:=hid hown; have HG5:=hid hg; have HBK:=hid hbk; clear hown hg hbk)
      go_roundw
      case rel =>
       refine ⟨j + 1,xs ++ [(valI t.c * valI u.c,z1b t.m u.m)],cs ++ (#[.bool b3,.slice a3 n3 c3,.slice a2 n2 c2]:Array Value).toList,by omega,by go_num,z1f HXW3.out HW3.out HG5.out,hid (Nat.lt_of_lt_of_le HGS.out (Nat.le_trans HX3.out.size HG5.out.size)),hid ⟨z89 HG5.out (HX3.out.cell HKC.out.1) HNB.out,z89 HG5.out (HX3.out.cell HKC.out.2.1) HNB.out,z89 HG5.out (HX3.out.cell HKC.out.2.2) HNB.out⟩,hid (fun e => by rcases HBK.out with h | h; exact HNB.out (e.trans h); exact absurd (Option.some.inj (e.trans h)) (by have:=HGS.out; have:=HX3.out.size; omega)),HYES,?_,?_,z3u HY3.out HG5.out HBK.out (Nat.le_succ _)⟩
       ·show _ = _; rw [List.length_append,HXL.out]; rfl
       ·show World.ownsRow _ _ _ _ _ _ _; rw [List.length_append]; exact HW5.out
      case measure => simp only [intOf]; omega
    ·obtain rfl:m = j:=by omega
     clear hx
     go_wp2
     go_roundw
     case rel =>
      have e:(k + 1) * m = k * m + m:=by rw [Nat.add_mul,Nat.one_mul]
      exact ⟨k + 1,xs,cs,by omega,by go_num,HXW.out,by rw [e]; exact HF,by rw [e]; exact HXL,HW,HY⟩
     case measure => simp only [intOf]; omega
  ·obtain rfl:n = k:=by omega
   have hall:=zau HF.out (by rw [z6f,z6f,← HN.out,← HM.out])
   have HALL:=hid hall
   have ho:=z5s (S:=Old wr) (p:=ofP xs) (by rw [z6g]; exact HW.out) (HY.out.to (Kept.refl _ _) (fun _ h => h.1.2)) (fun k h1 h2 => h2)
   have HCO:=hid (z4o u6 (ofP xs) wr (L + L) ho (fun _ h => h) (fun t ht => by
    obtain ⟨x,hx,rfl⟩:=List.mem_map.1 ht
    exact (z6h HF.out hx).1) (fun t ht => by
    obtain ⟨x,hx,rfl⟩:=List.mem_map.1 ht
    obtain ⟨-,a,ha,b,hb,e⟩:=z6h HF.out hx
    obtain ⟨a',ha',rfl⟩:=List.mem_map.1 ha
    obtain ⟨b',hb',rfl⟩:=List.mem_map.1 hb
    show (ofI x.1).mag.length ≤ _
    rw [z4u,e]
    exact za4 (Nat.le_trans (z44 (HP.out.okT a' ha')) (HRP.out a' ha')) (Nat.le_trans (z44 (HQ.out.okT b' hb')) (HRQ.out b' hb'))) (by omega) (by rw [z6g,HXL.out]; have:=HNM.out; omega))
   rw [z3x] at HCO
   clear hx hall ho
   go_wp2_with fail
   with_reducible refine HCO.out.mono ?_
   rintro e w2 ⟨v2,rfl,hp2,hx2⟩
   have HP2:=hid (hp2.to (S':=New w w2) (Kept.refl _ _) (fun k h => ⟨Nat.le_trans (HX1.out.trans HX.out).size h.1,h.2⟩))
   have HX2:=hid ((HX1.out.trans HX.out).trans hx2)
   clear hp2 hx2
   go_wp2
   all_goals
    go_ret2
    rw [HALL.out]
    exact ⟨_,rfl,HP2.out,HX2.out⟩
end
section
open Go.RowKit
def Fit (k n:Nat) (p:PZ):Prop:=canP p ∧ bndZ k p ∧ p.length ≤ n
abbrev PV (W:World) (v:Value) (p:PZ):Prop:=z0h (Old W) W v (ofP p)
section
variable {k l n m:Nat} {p q:PZ}
theorem Fit.can (h:Fit k n p):canP p:=h.1
theorem Fit.mono (h:Fit k n p) (hk:k ≤ l) (hn:n ≤ m):Fit l m p:=⟨h.1,h.2.1.mono hk,Nat.le_trans h.2.2 hn⟩
theorem Fit.lens (h:Fit k n p):∀ t ∈ ofP p,t.c.mag.length ≤ k:=zpd h.2.1
theorem Fit.small (h:Fit k n p) (hk:k ≤ 1000000):zaj (ofP p):=zme h.2.1 (by omega)
theorem Fit.may (h:Fit k n p):mayT (ofP p) = true:=zb9 h.1
theorem Fit.plain (h:Fit k n p):z21 (ofP p) = p:=zid h.1
theorem Fit.len (h:Fit k n p):(ofP p).length ≤ n:=by rw [z5v]; exact h.2.2
theorem zpf (p l:PZ):(addP p l).length ≤ p.length + l.length:=by
 unfold addP
 induction l generalizing p with
 | nil => simp
 | cons t r ih =>
  rw [List.foldl_cons]
  have h1:=ih (putP p t.1 t.2)
  have h2:=zgd p t.1 t.2
  simp only [List.length_cons]
  omega
theorem zdr (p:PZ):(z25 p).length ≤ p.length:=by
 have:=zpf [] p
 rw [List.length_nil,Nat.zero_add] at this
 exact this
theorem z6m (hp:z0p p) (hq:z0p q):z0p (p ++ q):=fun t ht => by
 rcases List.mem_append.1 ht with g | g
 ·exact hp t g
 ·exact hq t g
theorem Fit.add (hp:Fit k n p) (hq:Fit k m q) (hn:n + m ≤ 1000000000000):Fit (k + 2) (n + m) (z25 (p ++ q)):=by
 have hm:=z6m hp.1.may hq.1.may
 have hl:(p ++ q).length ≤ n + m:=by rw [List.length_append]; have:=hp.2.2; have:=hq.2.2; omega
 exact ⟨z90 hm,zda hm (hp.2.1.append hq.2.1) (by show _ < 4294967296 ^ 2; omega),Nat.le_trans (zdr _) hl⟩
theorem zpg (p q:PZ):(mulL p q).length = p.length * q.length:=by
 unfold mulL
 induction p with
 | nil => simp
 | cons t r ih => rw [List.flatMap_cons,List.length_append,ih,List.length_map,List.length_cons,Nat.add_mul]; omega
theorem zph (hp:bndZ k p) (hq:bndZ l q):bndZ (k + l) (mulL p q):=fun x hx => by
 obtain ⟨t,ht,u,hu,rfl⟩:=zp7 hx
 exact z28 (za4 (z38 (hp t ht)) (z38 (hq u hu))) (Nat.le_refl _)
theorem Fit.times {c:PZ} (hp:Fit k n p) (hq:Fit l m q) (h:z2n p q = some c) (hn:n * m ≤ 1000000000000):Fit (k + l + 2) (n * m) c:=by
 obtain ⟨hm,rfl⟩:=zir hp.1.may hq.1.may h
 have hl:(mulL p q).length ≤ n * m:=by rw [zpg]; exact Nat.mul_le_mul hp.2.2 hq.2.2
 exact ⟨z90 hm,zda hm (zph hp.2.1 hq.2.1) (by show _ < 4294967296 ^ 2; omega),Nat.le_trans (zdr _) hl⟩
end
theorem zmk (k:Nat):B32 ^ k < 10 ^ (10 * k + 1):=by
 have h1:B32 ^ k ≤ (10 ^ 10) ^ k:=Nat.pow_le_pow_left (by unfold B32; decide) k
 rw [← Nat.pow_mul] at h1
 exact Nat.lt_of_le_of_lt h1 (Nat.pow_lt_pow_right (by decide) (Nat.lt_succ_self _))
theorem zpi {k n:Nat} {p:PZ} (h:Fit k n p) (j:Nat):Fit k n (p.take j):=⟨zoy h.1 (List.take_sublist _ _),fun t ht => h.2.1 t (List.mem_of_mem_take ht),Nat.le_trans (by rw [List.length_take]; exact Nat.min_le_right _ _) h.2.2⟩
theorem zto {w:World} {v:Value} {ps:List RTerm} (h:z0h (Old w) w v ps) (hm:mayT ps = true):ps = ofP (z21 ps):=by
 unfold z21
 rw [if_pos hm]
 exact (zqz h.okT hm).symm
theorem zds {ps:List RTerm} {k n:Nat} (hok:okT ps) (h:∀ t ∈ ps,t.c.mag.length ≤ k) (hn:ps.length ≤ n):Fit k n (z21 ps):=⟨zhk ps,zmf hok h,Nat.le_trans (zmh ps) hn⟩
section
variable {W:World} {u v:Value} {p q:PZ} {k l n m:Nat}
theorem zml (hp:PV W u p) (hq:PV W v q) (fp:Fit k n p) (fq:Fit l m q) (hc:k < 24 ∨ l < 24) (hk:k ≤ 1000000) (hl:l ≤ 1000000) (hnm:n * m ≤ 1000000000000) :
  Calls Tryz.prog 150 #[u,v] W (z5w W (z2n p q)):=by
 have h:=zj1 u v _ _ W 1000000 hp hq (fun _ h => h) fp.may fq.may (fun t ht => Nat.le_trans (fp.lens t ht) hk) (fun t ht => Nat.le_trans (fq.lens t ht) hl) (by decide)
  (hc.imp (fun h t ht => by
   obtain ⟨x,hx,rfl⟩:=List.mem_map.1 ht
   show lenI (valI (ofI x.1)) < 24
   rw [z1t]
   exact Nat.lt_of_le_of_lt (z38 (fp.2.1 x hx)) h) (fun h t ht => by
   obtain ⟨x,hx,rfl⟩:=List.mem_map.1 ht
   show lenI (valI (ofI x.1)) < 24
   rw [z1t]
   exact Nat.lt_of_le_of_lt (z38 (fq.2.1 x hx)) h))
  (Nat.le_trans (Nat.mul_le_mul fp.len fq.len) hnm)
 rwa [z3x,z3x] at h
theorem ztp (hp:PV W u p) (hq:PV W v q) (fp:Fit k n p) (fq:Fit l m q) (hk:k ≤ 1000000) (hl:l ≤ 1000000) (hn:n + m ≤ 1000000000000) :
  Calls Tryz.prog 149 #[u,v] W (z3f W (z25 (p ++ q))):=by
 have h:=zpb u v _ _ W 1000000 hp hq (fun _ h => h) fp.may fq.may (fun t ht => Nat.le_trans (fp.lens t ht) hk) (fun t ht => Nat.le_trans (fq.lens t ht) hl) (by decide) (by have:=fp.len; have:=fq.len; omega)
 rwa [z3x,z3x] at h
theorem zh0 (hp:PV W u p) (hq:PV W v q):Calls Tryz.prog 60 #[u,v] W fun e w' => e = .returned (.bool (decide (p = q))) ∧ Ext W w':=by
 have h:=zm6 u v _ _ W hp hq (fun _ h => h)
 have e:decide (ofP p = ofP q) = decide (p = q):=by
  by_cases g:p = q
  ·rw [decide_eq_true g,decide_eq_true (congrArg ofP g)]
  ·rw [decide_eq_false g,decide_eq_false (fun e => g (by rw [← z3x p,e,z3x]))]
 rwa [e] at h
theorem zu9 (hp:PV W u p) (fp:Fit k n p) (hk:k ≤ 1000000):Calls Tryz.prog 31 #[u] W fun e w' => e = .returned (.bool true) ∧ Ext W w':=by
 have h:=z8v u _ W hp (fun _ h => h) (fp.small hk)
 rwa [fp.may] at h
end
end
section
theorem zpj (p:PZ) (c:Int) (m:Mono):mulL p [(c,m)] = p.map fun t => (t.1 * c,z1b t.2 m):=by
 unfold mulL
 induction p with
 | nil => rfl
 | cons t r ih => rw [List.flatMap_cons,ih]; rfl
end
section
open Go.RowKit
end
section
theorem z7l {p:PZ} (h:canP p):canP (negP p):=by
 refine ⟨fun t ht => ?_,?_⟩
 ·obtain ⟨u,hu,rfl⟩:=List.mem_map.1 ht
  have:=(h.1 u hu).1
  exact ⟨by show -u.1 ≠ 0; omega,(h.1 u hu).2⟩
 ·unfold negP
  rw [List.pairwise_map]
  exact h.2
section
variable {g h q r t l m:PZ} {v d:Int}
end
end
section
section
variable {g h f q r:PZ} {v d:Int} {x:PZ × PZ}
/-! Exponents -/
end
section
variable {g h f q r p:PZ} {v d:Int} {x:PZ × PZ} {E G R:Int}
/-! Sizes -/
theorem Fit.neg {k n:Nat} (h:Fit k n p):Fit k n (negP p):=⟨z7l h.1,fun t ht => by
 obtain ⟨u,hu,rfl⟩:=List.mem_map.1 ht
 have:=h.2.1 u hu
 show (-u.1).natAbs < _
 rwa [Int.natAbs_neg],by rw [z4g]; exact h.2.2⟩
end
end
section
open Go.RowKit
section
variable {p q c:PZ} {k l n m:Nat}
theorem z5e (h:Fit k n p) (hk:k ≤ 100000) (hn:n ≤ 1000000000000):szP p :=
 ⟨Nat.le_trans h.2.2 hn,fun t ht => zcx (n:=10 * k + 1) (Nat.lt_trans (h.2.1 t ht) (zmk k)) (by omega)⟩
theorem zh1 (fp:Fit k n p) (fq:Fit l m q) (hk:k + l ≤ 100000) (hnm:n * m ≤ 1000000000000):szM p q:=by
 have hl:p.length * q.length ≤ n * m:=Nat.mul_le_mul fp.2.2 fq.2.2
 refine ⟨B32 ^ (k + l),10 * (k + l) + 14,fun t ht u hu => ?_,by omega,?_,by omega⟩
 ·have:=za4 (z38 (fp.2.1 t ht)) (z38 (fq.2.1 u hu))
  exact Nat.le_of_lt (z28 this (Nat.le_refl _))
 ·have h1:=zmk (k + l)
  have e:10 ^ (10 * (k + l) + 14) = 10 ^ 13 * 10 ^ (10 * (k + l) + 1):=by rw [← Nat.pow_add]; congr 1; omega
  rw [e]
  have h2:p.length * q.length < 10 ^ 13:=by omega
  exact Nat.lt_of_lt_of_le ((Nat.mul_lt_mul_right (Nat.pow_pos (by unfold B32; decide))).2 h2) (Nat.mul_le_mul_left _ (Nat.le_of_lt h1))
theorem zb0 (fp:Fit k n p) (fq:Fit l m q) (hk:k ≤ 90000) (hl:l ≤ 90000) (hn:n + m ≤ 1000000000000):∀ j,j ≤ q.length → szP (addP p (q.take j)):=fun j _ => by
 have f2:=zpi fq j
 rw [zeh fp.can f2.can.may]
 exact z5e ((fp.mono (l:=max k l) (Nat.le_max_left _ _) (Nat.le_refl _)).add (f2.mono (l:=max k l) (Nat.le_max_right _ _) (Nat.le_refl _)) hn) (by omega) hn
end
abbrev RV (W:World) (v:Value) (p:PZ):Prop:=RTs (Old W) W v p
section
variable {W:World} {u v:Value} {p q:PZ} {k l n m:Nat}
theorem z7m {W w':World} (h:Ext W w'):∀ k,Plus (Old W) W w' k → Old w' k:=z2o (fun _ h => h) h
theorem ztq (hp:RV W u p) (hq:RV W v q) (fp:Fit k n p) (fq:Fit l m q) (hk:k ≤ 90000) (hl:l ≤ 90000) (hn:n + m ≤ 1000000000000) :
  Calls Tryz.prog 61 #[u,v] W fun e w' => ∃ v',e = .returned v' ∧ RV w' v' (z25 (p ++ q)) ∧ Ext W w' :=
 (zcu (S:=Old W) u v p q W (fun _ h => h) hp hq fp.can.may fq.can.may (z5e fq (by omega) (by omega)) (zb0 fp fq hk hl hn)).mono (by
  rintro e w' ⟨v',rfl,h,hx⟩
  rw [zeh fp.can fq.can.may] at h
  exact ⟨v',rfl,h.to (Kept.refl _ _) (z7m hx),hx⟩)
theorem zh2 (hp:RV W u p) (hq:RV W v q) (fp:Fit k n p) (fq:Fit l m q) (hk:k ≤ 90000) (hl:l ≤ 90000) (hn:n + m ≤ 1000000000000) :
  Calls Tryz.prog 29 #[u,v] W fun e w' => ∃ v',e = .returned v' ∧ RV w' v' (z25 (p ++ negP q)) ∧ Ext W w' :=
 (zkx (S:=Old W) u v p q W (fun _ h => h) hp hq fp.can.may fq.can.may (z5e fq (by omega) (by omega)) (fun j hj => zb0 fp fq.neg hk hl hn j (by rw [z4g]; exact hj))).mono (by
  rintro e w' ⟨v',rfl,h,hx⟩
  rw [zeh fp.can fq.neg.can.may] at h
  exact ⟨v',rfl,h.to (Kept.refl _ _) (z7m hx),hx⟩)
theorem z8a (hp:RV W u p) (fp:Fit k n p) (hk:k ≤ 90000) (hn:n ≤ 1000000000000) :
  Calls Tryz.prog 20 #[u] W fun e w' => ∃ v',e = .returned v' ∧ PV w' v' p ∧ Ext W w' :=
 (zib (S:=Old W) u p W hp (fun _ h => h) (z5e fp (by omega) hn) (fun t ht => Nat.le_trans (z68 (fp.can.may t ht)) (by decide))).mono (by
  rintro e w' ⟨v',rfl,h,hx⟩
  exact ⟨v',rfl,h.to (Kept.refl _ _) New.lt,hx⟩)
end
end
section
open Go.RowKit
theorem QR.mono {S:Nat → Prop} {w:World} {v:Value} {q:Rat} {A B:Nat} (h:QR S w v q A) (hAB:A ≤ B):QR S w v q B:=by
 obtain ⟨N,D,h1,h2,h3,h4,h5⟩:=h
 exact ⟨N,D,h1,h2,h3,Nat.lt_of_lt_of_le h4 (zbn hAB),Nat.lt_of_lt_of_le h5 (zbn hAB)⟩
theorem QR.formB {S:Nat → Prop} {w:World} {v:Value} {q:Rat} {B:Nat} (h:QR S w v q B):∃ bn a1 l1 c1 bd a2 l2 c2,v = .agg #[.bool bn,.slice a1 l1 c1,.bool bd,.slice a2 l2 c2]:=by
 obtain ⟨N,D,⟨vn,vd,rfl,h1,h2⟩,-⟩:=h
 obtain ⟨a1,c1,rfl⟩:=h1.form
 obtain ⟨a2,c2,rfl⟩:=h2.form
 exact ⟨_,_,_,_,_,_,_,_,rfl⟩
theorem QR.slices {S:Nat → Prop} {w:World} {bn bd:Bool} {vn vd:Value} {q:Rat} {B:Nat} (h:QR S w (.agg #[.bool bn,vn,.bool bd,vd]) q B):∃ a1 l1 c1 a2 l2 c2,vn = .slice a1 l1 c1 ∧ vd = .slice a2 l2 c2:=by
 obtain ⟨N,D,⟨vn',vd',e,h1,h2⟩,-⟩:=h
 obtain ⟨a1,c1,rfl⟩:=h1.form
 obtain ⟨a2,c2,rfl⟩:=h2.form
 simp only [Value.agg.injEq,List.toArray_inj,Array.mk.injEq,List.cons.injEq,Value.bool.injEq,and_true] at e
 exact ⟨_,_,_,_,_,_,e.2.1,e.2.2.2⟩
theorem zmm {x:RInt} (h:∀ z ∈ x.mag,z < B32) (hl:x.mag.length ≤ 3):(valI x).natAbs < 10 ^ 31:=by
 have h1:(valI x).natAbs < B32 ^ 3:=by
  rw [zbd,zg8]
  exact Nat.lt_of_lt_of_le (z13 _ h) (Nat.pow_le_pow_right (by unfold B32; decide) hl)
 exact Nat.lt_of_lt_of_le h1 (by unfold B32; decide)
theorem zmn {S:Nat → Prop} (v:Value) (x y:RInt) (w:World) (h:RatI S w v x y) (hS:∀ k,S k → k < w.heap.size) (hrx:x.mag.length ≤ 3) (hry:y.mag.length ≤ 3) :
  Calls Tryz.prog 38 #[v] w fun e w' => ∃ v',e = .returned v' ∧ QR (New w w') w' v' (putQ (valI x) (valI y)) 31 ∧ Ext w w':=by
 have hx:(valI x).natAbs < 10 ^ 31:=by obtain ⟨_,_,_,h1,_⟩:=h; exact zmm h1.lt hrx
 have hy:(valI y).natAbs < 10 ^ 31:=by obtain ⟨_,_,_,_,h1⟩:=h; exact zmm h1.lt hry
 exact (ztd v x y w h hS (Nat.le_trans hrx (by decide)) (Nat.le_trans hry (by decide))).mono (by
  rintro e w' ⟨v',rfl,hq,hx'⟩
  refine ⟨v',rfl,⟨_,_,hq,zru _,?_,hx,?_⟩,hx'⟩
  ·unfold putQ denQ
   split <;> rfl
  ·unfold denQ
   split
   ·decide
   ·exact hy)
theorem zj2 (z:Int):Rat.divInt z 1 = (z:Rat):=by
 rw [Rat.divInt_eq_div]
 have h:=Rat.mul_inv_cancel (1:Rat) (by decide)
 rw [Rat.one_mul] at h
 rw [Rat.div_def,show ((1:Int):Rat) = 1 from rfl,h,Rat.mul_one]
theorem zqm {R:Nat → Prop} {w:World} {vn vo:Value} {z:Int} {b:Bool} {K:Nat} (h1:Digs R w vn (rep 10 z.natAbs)) (h2:Digs R w vo (rep 10 (1:Int).natAbs)) (hb:b = decide (z < 0)) (hz:z.natAbs < 10 ^ K) (hK:1 ≤ K):QR R w (.agg #[.bool b,vn,.bool false,vo]) (z:Rat) K :=
 ⟨z,1,⟨_,_,by rw [hb]; rfl,h1,h2⟩,by decide,zj2 _,hz,Nat.one_lt_pow (by omega) (by decide)⟩
theorem zj3 {v:Nat} (h:v < 9223372036854775807):wrap64 (v:Int) = (v:Int):=by
 unfold wrap64
 omega
theorem zfn {v:Nat} (h:v < 9223372036854775807):IntKind.i64.wrap (v:Int) = (v:Int):=by
 rw [IntKind.wrap_i64]
 omega
def AQ (b:Nat) (R:Nat → Prop) (wr:World) (q:Rat) (B:Nat) (bn:Bool) (vn:Value) (bd:Bool) (vd:Value):Prop :=
 z39 wr b (.bool bn) vn (.bool bd) vd ∧ (wr.frozen? ⟨b,0,none⟩ = false ∧ wr.frozen? ⟨b,1,none⟩ = false ∧ wr.frozen? ⟨b,2,none⟩ = false ∧ wr.frozen? ⟨b,3,none⟩ = false) ∧ QR R wr (.agg #[.bool bn,vn,.bool bd,vd]) q B
theorem z39.ext {b:Nat} {w w':World} {x0 x1 x2 x3:Value} (h:z39 w b x0 x1 x2 x3) (hx:Ext w w'):z39 w' b x0 x1 x2 x3:=⟨hx.cell h.1,hx.cell h.2.1,hx.cell h.2.2.1,hx.cell h.2.2.2⟩
theorem z39.lt {b:Nat} {w:World} {x0 x1 x2 x3:Value} (h:z39 w b x0 x1 x2 x3):b < w.heap.size:=z08 h.1
theorem AQ.ext {b:Nat} {R R':Nat → Prop} {w w':World} {q:Rat} {B:Nat} {bn bd:Bool} {vn vd:Value} (h:AQ b R w q B bn vn bd vd) (hx:Ext w w') (hR:∀ k,R k → k < w.heap.size) (hR':∀ k,R k → R' k):AQ b R' w' q B bn vn bd vd :=
 ⟨h.1.ext hx,⟨hx.free h.1.lt h.2.1.1,hx.free h.1.lt h.2.1.2.1,hx.free h.1.lt h.2.1.2.2.1,hx.free h.1.lt h.2.1.2.2.2⟩,h.2.2.to (Kept.ext hx hR) hR'⟩
theorem AQ.new {R:Nat → Prop} {w:World} {q:Rat} {B:Nat} {bn bd:Bool} {vn vd:Value} {T:TypeId} (h:QR R w (.agg #[.bool bn,vn,.bool bd,vd]) q B) (hR:∀ k,R k → k < w.heap.size):AQ w.heap.size R (w.alloc (.cells #[.bool bn,vn,.bool bd,vd] T)) q B bn vn bd vd:=by
 have h4:=box4_new (w:=w) (b:=w.heap.size) (T:=T) (x0:=.bool bn) (x1:=vn) (x2:=.bool bd) (x3:=vd) rfl (Ext.refl _)
 exact ⟨h4.1,h4.2,h.to (Kept.ext ((Ext.refl w).alloc _) hR) (fun _ h => h)⟩
theorem AQ.put {b:Nat} {R:Nat → Prop} {w:World} {q:Rat} {B:Nat} {bn bd:Bool} {vn vd u0 u1 u2 u3:Value} (hb:z39 w b u0 u1 u2 u3) (hf:w.frozen? ⟨b,0,none⟩ = false ∧ w.frozen? ⟨b,1,none⟩ = false ∧ w.frozen? ⟨b,2,none⟩ = false ∧ w.frozen? ⟨b,3,none⟩ = false) (h:QR R w (.agg #[.bool bn,vn,.bool bd,vd]) q B) (hR:¬ R b):AQ b R (set4 w b (.bool bn) vn (.bool bd) vd) q B bn vn bd vd :=
 ⟨z49 hb _ _ _ _,by simp only [set4,World.frozen?_setCell]; exact hf,h.to (z52 hR _ _ _ _) (fun _ h => h)⟩
theorem AQ.lt {b:Nat} {R:Nat → Prop} {w:World} {q:Rat} {B:Nat} {bn bd:Bool} {vn vd:Value} (h:AQ b R w q B bn vn bd vd):b < w.heap.size:=h.1.lt
theorem AQ.mono {b:Nat} {R:Nat → Prop} {w:World} {q q':Rat} {A B:Nat} {bn bd:Bool} {vn vd:Value} (h:AQ b R w q A bn vn bd vd) (hq:q = q') (hAB:A ≤ B):AQ b R w q' B bn vn bd vd:=by
 subst hq
 exact ⟨h.1,h.2.1,h.2.2.mono hAB⟩
structure AtOk (pts:List (RInt × RInt)) (p:PZ) (K E V n:Nat):Prop where
 cf:∀ t ∈ p,t.1.natAbs < 10 ^ K
 vr:∀ t ∈ p,∀ y ∈ t.2,1 ≤ y.1 ∧ y.1 ≤ pts.length ∧ 1 ≤ y.2 ∧ y.2 ≤ E
 vl:∀ t ∈ p,t.2.length ≤ V
 ln:p.length ≤ n
 pt:∀ x ∈ pts,x.1.mag.length ≤ 3 ∧ x.2.mag.length ≤ 3
 k1:1 ≤ K
 sz:n * (K + 31 * (E * V) + 1) + 1 ≤ 800000
theorem zqn {W:World} {vp vq:Value} {p:PZ} {pts:List (RInt × RInt)} {K E V n:Nat} (hp:RV W vp p) (hq:Rats (Old W) W vq pts) (F:AtOk pts p K E V n) :
  Calls Tryz.prog 11 #[vp,vq] W fun e w' => ∃ v',e = .returned v' ∧ QR (New W w') w' v' (evQ (gM pts) p) (n * (K + 31 * (E * V) + 1) + 1) ∧ Ext W w':=by
 have HP:=hid hp
 have hsz:=F.sz
 obtain ⟨Z,hZ⟩:∃ Z,Z = K + 31 * (E * V) + 1:=⟨_,rfl⟩
 rw [← hZ] at hsz ⊢
 have HZ:=hid hZ
 have HSZ:=hid hsz
 clear hZ hsz
 have HQ:=hid hq
 have HF:=hid F
 obtain ⟨ap,cp,rfl⟩:=hp.form
 obtain ⟨aq,cq,rfl⟩:=hq.form
 have hlp:=hp.len_le
 have hlq:=hq.len_le
 obtain ⟨np,hnp⟩:∃ n,n = p.length:=⟨_,rfl⟩
 obtain ⟨nq,hnq⟩:∃ n,n = pts.length:=⟨_,rfl⟩
 rw [← hnp] at HP hlp ⊢
 rw [← hnq] at HQ hlq ⊢
 have HNP:=hid hnp
 have HNQ:=hid hnq
 obtain ⟨w0,hw0⟩:∃ Y,Y = W.alloc (.cells #[.bool false,.slice none 0 0,.bool false,.slice none 0 0] 58):=⟨_,rfl⟩
 have HX0:Hid (Ext W w0):=hid (by rw [hw0]; exact Ext.alloc (Ext.refl _) _)
 have HS0:Hid (w0.heap.size = W.heap.size + 1):=hid (by rw [hw0]; simp only [size_alloc])
 have HB:=hid (fun (Y:World) (hY:Ext w0 Y) => by
  rw [hw0] at hY
  exact box4_new (b:=W.heap.size) rfl hY)
 have HW0:=hid hw0
 have C0:=hid (zrv w0)
 have HLP:=hid hlp
 have HLQ:=hid hlq
 clear hp hq F hnp hnq hw0 hlq
 go_enter Tryz.func11,Tryz.ntmps11
 go_upto_region 1 with fail
 rw [← HW0.out]
 go_wp2_with fail
 with_reducible refine C0.out.mono ?_
 rintro e w1 ⟨v1,rfl,⟨vn1,vd1,rfl,hn1,hd1⟩,hx1⟩
 have HX1:=hid hx1
 obtain ⟨an1,cn1,e1⟩:∃ a c,vn1 = .slice a 0 c:=hn1.form
 obtain ⟨ad1,cd1,e2⟩:∃ a c,vd1 = .slice a 1 c:=hd1.form
 subst e1 e2
 have hqr:QR (fun k => W.heap.size ≤ k ∧ k < w1.heap.size ∧ k ≠ W.heap.size) w1 (.agg #[.bool false,.slice an1 0 cn1,.bool false,.slice ad1 1 cd1]) 0 1:=⟨0,1,⟨_,_,rfl,hn1.to (Kept.refl _ _) (fun k h => ⟨Nat.le_trans HX0.out.size h.1,h.2,by have h1:=h.1; have h2:=HS0.out; omega⟩),hd1.to (Kept.refl _ _) (fun k h => ⟨Nat.le_trans HX0.out.size h.1,h.2,by have h1:=h.1; have h2:=HS0.out; omega⟩)⟩,by decide,Rat.zero_divInt _,by decide,by decide⟩
 obtain ⟨b5,hb5⟩:∃ b,b = w1.heap.size:=⟨_,rfl⟩
 obtain ⟨w2,hw2⟩:∃ Y,Y = w1.alloc (.cells #[.bool false,.slice an1 0 cn1,.bool false,.slice ad1 1 cd1] 58):=⟨_,rfl⟩
 have HX2:Hid (Ext w0 w2):=hid (by rw [hw2]; exact hx1.alloc _)
 have HA2:Hid (AQ b5 (fun k => W.heap.size ≤ k ∧ k < w2.heap.size ∧ k ≠ W.heap.size ∧ k ≠ b5) w2 0 1 false (.slice an1 0 cn1) false (.slice ad1 1 cd1)):=hid (by
  have h:=AQ.new (T:=58) hqr (fun k h => h.2.1)
  rw [← hb5,← hw2] at h
  exact h.ext (Ext.refl _) (fun k h => by have:=h.2.1; rw [hw2,size_alloc]; omega) (fun k h => ⟨h.1,by have:=h.2.1; rw [hw2,size_alloc]; omega,h.2.2,by have:=h.2.1; omega⟩))
 have HW2:=hid hw2
 have HB5:=hid hb5
 have HLB5:Hid (W.heap.size < b5 ∧ b5 < w2.heap.size):=hid (by
  have h1:=hx1.size
  have h2:=HS0.out
  rw [hb5,hw2,size_alloc]
  omega)
 clear hx1 hn1 hd1 hqr hw2 hb5
 go_upto_region 2 with fail
 rw [← HB5.out]
 rw [← HW2.out]
 go_wp2
 go_loopw [6] (fun i wr => ∃ (k:Nat) (bn bd:Bool) (vn vd:Value),k ≤ np ∧ i = .int .i64 (k:Nat) ∧ Hid (Ext w0 wr) ∧ Hid (AQ b5 (fun k => W.heap.size ≤ k ∧ k < wr.heap.size ∧ k ≠ W.heap.size ∧ k ≠ b5) wr (evQ (gM pts) (p.take k)) (k * Z + 1) bn vn bd vd)) (fun i _ => np - (intOf i).toNat)
 case atStart => exact ⟨0,false,false,_,_,Nat.zero_le _,rfl,HX2,by rw [Nat.zero_mul]; exact HA2⟩
 case round =>
  obtain ⟨k,bn,bd,vn,vd,hk,rfl,HX,HA⟩:=hrel
  have HXW:=hid (HX0.out.trans HX.out)
  by_cases hlt:k < np
  ·obtain ⟨t,ht⟩:=z00 (l:=p) (j:=k) (by rw [← HNP.out]; exact hlt)
   have htm:=List.mem_of_getElem? ht
   obtain ⟨b0,off0,vc,vm,rfl,-,hn1,hm1,hSb,h1,h2,h3,h4,h5⟩:=HP.out.cellAt ht
   have HT:=hid (zp2 (g:=gM pts) ht)
   have HTF:Hid (t.1.natAbs < 10 ^ K ∧ (∀ y ∈ t.2,1 ≤ y.1 ∧ y.1 ≤ nq ∧ 1 ≤ y.2 ∧ y.2 ≤ E) ∧ t.2.length ≤ V):=hid ⟨HF.out.cf t htm,by rw [HNQ.out]; exact HF.out.vr t htm,HF.out.vl t htm⟩
   have H4:=hid h4
   have H5:=hid h5
   obtain ⟨ac,cc,rfl⟩:=h4.form
   obtain ⟨am,cm,rfl⟩:=h5.form
   obtain ⟨lc,hlc⟩:∃ n,n = (rep 10 t.1.natAbs).length:=⟨_,rfl⟩
   obtain ⟨lm,hlm⟩:∃ n,n = t.2.length:=⟨_,rfl⟩
   obtain ⟨bc,hbc⟩:∃ b,b = decide (t.1 < 0):=⟨_,rfl⟩
   rw [← hlc] at H4 h2
   rw [← hlm] at H5 h3
   rw [← hbc] at h1
   have HLM:=hid hlm
   have HBC:=hid hbc
   have hlml:=H5.out.len_le
   rw [← hlm] at hlml
   have HC:=hid (And.intro h1 (And.intro h2 h3))
   have HSS:=hid (fun (Y:World) (hY:Ext wr Y) => And.intro ((HXW.out.trans hY).cell h1) (And.intro ((HXW.out.trans hY).cell h2) ((HXW.out.trans hY).cell h3)))
   have C1:=hid (fun (Y:World) => zf8 Y)
   have HXD:=hid (show Ext wr wr.drew from (Ext.refl wr).drew)
   obtain ⟨d1,d2,d3⟩:=HSS.out wr.drew HXD.out
   have HKN:Hid (k < n):=hid (Nat.lt_of_lt_of_le hlt (by rw [HNP.out]; exact HF.out.ln))
   have HZ1:Hid (Z ≤ 800000):=hid (by
    have h1:=Nat.mul_le_mul_right Z (show 1 ≤ n by have:=HKN.out; omega)
    have h2:=HSZ.out
    omega)
   clear ht htm h1 h2 h3 h4 h5 hlc hlm hbc hSb
   go_upto_region 5 with fail
   go_cut [7] (fun u7 wx => ∃ (b7:Nat) (bn7 bd7:Bool) (vn7 vd7:Value),u7 = .pointer (some ⟨b7,0,none⟩) ∧ Hid (AQ b7 (fun k => k < wx.heap.size ∧ k ≠ b7) wx (t.1:Rat) K bn7 vn7 bd7 vd7) ∧ Hid (Ext wr wx) ∧ wr.heap.size ≤ b7)
   case first =>
    go_region_held3 (fun Y => Y.cell? ⟨b0,off0 + k * 3,none⟩ = some (.bool bc) ∧ Y.cell? ⟨b0,off0 + k * 3 + 1,none⟩ = some (.slice ac lc cc) ∧ Y.cell? ⟨b0,off0 + k * 3 + 2,none⟩ = some (.slice am lm cm)) (first | exact HSS.out _ HXD.out | exact HSS.out _ (((Ext.refl wr).alloc _).drew) | exact HSS.out _ HX7.out | exact HSS.out _ (HX7.out.alloc _) | exact HSS.out _ (z1k HX7.out (by first | exact Nat.le_refl _ | exact HX7.out.size) _ _ _ _))
     (first
      | (go_at_call 36; (with_reducible refine (C1.out wr.drew).mono ?_); rintro e w7 ⟨v7,rfl,⟨vo,rfl,ho⟩,hx7⟩; have HX7:=hid (HXD.out.trans hx7); have HO:=hid ho; obtain ⟨ao,co,eo⟩:∃ a c,vo = .slice a 1 c:=ho.form; subst eo; clear hx7 ho)
      | (go_at_call 36; (with_reducible refine (C1.out _).mono ?_); rintro e w7 ⟨v7,rfl,⟨vo,rfl,ho⟩,hx7⟩; have HX7:=hid ((((Ext.refl wr).alloc _).drew).trans hx7); have HO:=hid ho; obtain ⟨ao,co,eo⟩:∃ a c,vo = .slice a 1 c:=ho.form; subst eo; have hb4:=box4_new (b:=wr.heap.size) rfl ((Ext.drew (Ext.refl _)).trans hx7); obtain ⟨⟨y0,y1,y2,y3⟩,yf0,yf1,yf2,yf3⟩:=hb4; have ylt:=z08 y0; clear hx7 ho)
      | fail)
    all_goals
     go_wp2_with fail
     go_meet
     first
      | (have hq7:=zqm (R:=Old w7) (H4.out.to (Kept.ext (HXW.out.trans HX7.out) (fun _ h => h)) (z2b (HXW.out.trans HX7.out))) (HO.out.to (Kept.refl _ _) New.lt) HBC.out HTF.out.1 HF.out.k1
         have ha:=(AQ.new (T:=58) hq7 (fun _ h => h)).ext (R':=fun k => k < (w7.alloc (.cells #[.bool bc,.slice ac lc cc,.bool false,.slice ao 1 co] 58)).heap.size ∧ k ≠ w7.heap.size) (Ext.refl _) (fun k h => by rw [size_alloc]; exact Nat.lt_succ_of_lt h) (fun k h => ⟨by rw [size_alloc]; exact Nat.lt_succ_of_lt h,Nat.ne_of_lt h⟩)
         with_reducible exact ⟨_,_,_,_,_,rfl,hid ha,hid (HX7.out.alloc _),HX7.out.size⟩)
      | (have hk1:∀ k,Old W k → k < w7.heap.size ∧ k ≠ wr.heap.size:=fun k h => ⟨z2b (HXW.out.trans HX7.out) k h,Nat.ne_of_lt (Nat.lt_of_lt_of_le h HXW.out.size)⟩
         have hk2:∀ k,New ((wr.alloc (.cells #[.bool false,.slice none 0 0,.bool false,.slice none 0 0] 58)).drew) w7 k → k < w7.heap.size ∧ k ≠ wr.heap.size:=fun k h => ⟨h.2,by have h2:=h.1; rw [show ((wr.alloc (.cells #[.bool false,.slice none 0 0,.bool false,.slice none 0 0] 58)).drew).heap.size = wr.heap.size + 1 from size_alloc ..] at h2; omega⟩
         have hq7:=zqm (R:=fun k => k < w7.heap.size ∧ k ≠ wr.heap.size) (H4.out.to (Kept.ext (HXW.out.trans HX7.out) (fun _ h => h)) hk1) (HO.out.to (Kept.refl _ _) hk2) HBC.out HTF.out.1 HF.out.k1
         have ha:=(AQ.put ⟨y0,y1,y2,y3⟩ ⟨yf0,yf1,yf2,yf3⟩ hq7 (fun h => h.2 rfl)).ext (R':=fun k => k < (set4 w7 wr.heap.size (.bool bc) (.slice ac lc cc) (.bool false) (.slice ao 1 co)).heap.size ∧ k ≠ wr.heap.size) (Ext.refl _) (fun k h => by rw [z2s]; exact h.1) (fun k h => ⟨by rw [z2s]; exact h.1,h.2⟩)
         with_reducible exact ⟨_,_,_,_,_,rfl,hid ha,hid (z1k HX7.out (Nat.le_refl _) _ _ _ _),Nat.le_refl _⟩)
      | fail
   case rest =>
    obtain ⟨b7,bn7,bd7,vn7,vd7,rfl,HA7,HX3,hb7⟩:=hcut
    obtain ⟨w3,hw3⟩:∃ Y,Y = wc:=⟨_,rfl⟩
    rw [← hw3] at HA7 HX3 ⊢
    obtain ⟨ws,hws⟩:∃ Y,Y = wr:=⟨_,rfl⟩
    rw [← hws] at HX HA HXW HSS HX3 hb7
    have HA0:=hid (fun (Y:World) (hY:Ext ws Y) => HA.out.ext (R':=fun k => W.heap.size ≤ k ∧ k < ws.heap.size ∧ k ≠ W.heap.size ∧ k ≠ b5) hY (fun k h => h.2.1) (fun _ h => h))
    have HB7:=hid hb7
    clear hw3 hws HXD d1 d2 d3 hb7
    go_wp2
    go_loopw [8] (fun i wm => ∃ (j:Nat) (bn7 bd7:Bool) (vn7 vd7:Value),j ≤ lm ∧ i = .int .i64 (j:Nat) ∧ Hid (Ext ws wm) ∧ Hid (AQ b7 (fun k => k < wm.heap.size ∧ k ≠ b7) wm ((t.1:Rat) * gM pts (t.2.take j)) (K + 31 * (E * j)) bn7 vn7 bd7 vd7)) (fun i _ => lm - (intOf i).toNat)
    case atStart => exact ⟨0,_,_,_,_,Nat.zero_le _,rfl,HX3,hid (HA7.out.mono (by rw [List.take_zero]; exact (Rat.mul_one _).symm) (by omega))⟩
    case round =>
     obtain ⟨j,bn7,bd7,vn7,vd7,hj,rfl,HXM,HAM⟩:=hrel
     obtain ⟨wm,hwm⟩:∃ Y,Y = wr:=⟨_,rfl⟩
     rw [← hwm] at HXM HAM ⊢
     clear hwm
     obtain ⟨d1,d2,d3⟩:=HSS.out wm HXM.out
     by_cases hlj:j < lm
     ·obtain ⟨y,hy⟩:=z00 (l:=t.2) (j:=j) (by rw [← HLM.out]; exact hlj)
      obtain ⟨b',o',rfl,-,g2,g3,-,gz,g5,g6⟩:=H5.out.cellAt hy
      have HY:=hid (zs0 (pts:=pts) hy)
      obtain ⟨hv1,hv2,he1,he2⟩:=HTF.out.2.1 y (List.mem_of_getElem? hy)
      obtain ⟨yv,ye⟩:=y
      simp only at hv1 hv2 he1 he2 g5 g6
      obtain ⟨v0,hv0⟩:∃ v:Nat,yv = (v:Int) + 1:=⟨(yv - 1).toNat,by omega⟩
      obtain ⟨e0,he0⟩:∃ e:Nat,ye = (e:Int):=⟨ye.toNat,by omega⟩
      subst hv0 he0
      have hvq:v0 < nq:=by omega
      have hw1:wrap64 (v0:Int) = (v0:Int):=zj3 (Nat.lt_of_lt_of_le hvq HLQ.out)
      have hw2:wrap64 ((v0:Int) + 1 - 1) = (v0:Int):=by rw [Int.add_sub_cancel]; exact hw1
      have hw3:IntKind.i64.wrap (v0:Int) = (v0:Int):=zfn (Nat.lt_of_lt_of_le hvq HLQ.out)
      have hw4:IntKind.i64.wrap ((v0:Int) + 1 - 1) = (v0:Int):=by rw [Int.add_sub_cancel]; exact hw3
      obtain ⟨r,hr⟩:=z00 (l:=pts) (j:=v0) (by rw [← HNQ.out]; exact hvq)
      obtain ⟨bq,oq,vrn,vrd,rfl,hq1,hq2,hSq,q1,q2,q3,q4,q5,q6⟩:=HQ.out.cellAt hr
      have HPT:Hid (ptq pts ((v0:Int) + 1) = putQ (valI r.1) (valI r.2)):=hid (by unfold ptq; rw [show ((v0:Int) + 1 - 1).toNat = v0 by rw [Int.add_sub_cancel,Int.toNat_natCast],hr])
      obtain ⟨hr1,hr2⟩:=HF.out.pt r (List.mem_of_getElem? hr)
      have HE0:Hid (e0 ≤ E):=hid (by omega)
      have hei:(e0:Int) ≤ 9223372036854775807:=gz.2.2
      have HXWm:=hid (HXW.out.trans HXM.out)
      have HRD:=hid (fun (Y:World) (hY:Ext W Y) => And.intro (hY.cell g5) (And.intro (hY.cell g6) (And.intro (hY.cell q1) (And.intro (hY.cell q2) (And.intro (hY.cell q3) (hY.cell q4))))))
      have CO:=fun (Y:World) (hY:Ext W Y) => zmn (S:=Old W) (.agg #[.bool r.1.neg,vrn,.bool r.2.neg,vrd]) r.1 r.2 Y ⟨_,_,rfl,q5.to (Kept.ext hY (fun _ h => h)) (fun _ h => h),q6.to (Kept.ext hY (fun _ h => h)) (fun _ h => h)⟩ (fun k h => Nat.lt_of_lt_of_le h hY.size) hr1 hr2
      obtain ⟨Q,hQ⟩:∃ Q,Q = ptq pts ((v0:Int) + 1):=⟨_,rfl⟩
      rw [← HPT.out,← hQ] at CO
      have CO:=hid CO
      have HQE:=hid hQ
      obtain ⟨X,hX⟩:∃ X,X = (t.1:Rat) * gM pts (t.2.take j):=⟨_,rfl⟩
      rw [← hX] at HAM
      have HXE:=hid hX
      obtain ⟨p1,p2,p3,p4,p5,p6⟩:=HRD.out wm HXWm.out
      clear hy hr hr1 hr2 he2 he1 hv1 hv2 g5 g6 gz q1 q2 q3 q4 q5 q6 hQ hX hSq
      go_wp2
      go_loopw [9] (fun i wi => ∃ (c:Nat) (bn7 bd7:Bool) (vn7 vd7:Value),c ≤ e0 ∧ i = .int .i64 (c:Nat) ∧ Hid (Ext ws wi) ∧ Hid (AQ b7 (fun k => k < wi.heap.size ∧ k ≠ b7) wi (X * Q ^ c) (K + 31 * (E * j + c)) bn7 vn7 bd7 vd7)) (fun i _ => e0 - (intOf i).toNat)
      case atStart => exact ⟨0,_,_,_,_,Nat.zero_le _,rfl,HXM,hid (HAM.out.mono (by rw [Rat.pow_zero,Rat.mul_one]) (by omega))⟩
      case round =>
       obtain ⟨c,bn7,bd7,vn7,vd7,hc,rfl,HXI,HAI⟩:=hrel
       obtain ⟨wi,hwi⟩:∃ Y,Y = wr:=⟨_,rfl⟩
       rw [← hwi] at HXI HAI ⊢
       clear hwi d1 d2 d3 p1 p2 p3 p4 p5 p6
       have HXWi:=hid (HXW.out.trans HXI.out)
       obtain ⟨d1,d2,d3⟩:=HSS.out wi HXI.out
       obtain ⟨p1,p2,p3,p4,p5,p6⟩:=HRD.out wi HXWi.out
       by_cases hlc:c < e0
       ·have HBE:Hid (E * j + c + 1 ≤ E * V):=hid (by
         have h1:=Nat.mul_le_mul_left E (show j + 1 ≤ V by have:=HTF.out.2.2; have:=HLM.out; omega)
         rw [Nat.mul_add,Nat.mul_one] at h1
         have:=HE0.out
         omega)
        have HBD:Hid (K + 31 * (E * j + c) + 31 ≤ 800000):=hid (by
         have h1:=HBE.out
         have h2:=HZ1.out
         rw [HZ.out] at h2
         omega)
        have HXD:=hid (show Ext wi wi.drew from (Ext.refl wi).drew)
        have HSW:=hid (fun (Y:World) (hY:Ext wi Y) => And.intro (HSS.out Y (HXI.out.trans hY)) (And.intro (HRD.out Y (HXWi.out.trans hY)) (HAI.out.ext (R':=fun k => k < wi.heap.size ∧ k ≠ b7) hY (fun k h => h.1) (fun _ h => h))))
        have CM:=hid (fun (Y:World) (v:Value) (hY:Ext wi Y) (hv:QR (Old Y) Y v Q 31) => zqi (S:=Old Y) (.agg #[.bool bn7,vn7,.bool bd7,vd7]) v (X * Q ^ c) Q (K + 31 * (E * j + c)) 31 Y ((HAI.out.ext (R':=Old Y) hY (fun k h => h.1) (fun k h => Nat.lt_of_lt_of_le h.1 hY.size)).2.2) hv (fun _ h => h) HBD.out)
        obtain ⟨⟨d1,d2,d3⟩,⟨p1,p2,p3,p4,p5,p6⟩,⟨x0,x1,x2,x3⟩,-,-⟩:=HSW.out wi.drew HXD.out
        go_upto_block 5 with fail
        go_cut [] (fun wx => ∃ (bn7 bd7:Bool) (vn7 vd7:Value),Hid (AQ b7 (fun k => k < wx.heap.size ∧ k ≠ b7) wx (X * Q ^ (c + 1)) (K + 31 * (E * j + (c + 1))) bn7 vn7 bd7 vd7) ∧ Hid (Ext ws wx))
        case first =>
         go_upto_region 12 with fail
         go_region_with (first
          | (go_at_call 38; (with_reducible refine (CO.out _ (HXWi.out.trans HXD.out)).mono ?_); rintro e w4 ⟨v4,rfl,hq4,hx4⟩; have HX4:=hid (HXD.out.trans hx4); have HQ4:=hid hq4; obtain ⟨n4,a4,l4,c4,m4,a4',l4',c4',rfl⟩:=hq4.formB; obtain ⟨⟨d1,d2,d3⟩,⟨p1,p2,p3,p4,p5,p6⟩,⟨x0,x1,x2,x3⟩,-,-⟩:=HSW.out w4 HX4.out; clear hq4 hx4)
          | (go_at_call 37; (with_reducible refine (CM.out _ _ HX4.out (HQ4.out.to (Kept.refl _ _) New.lt)).mono ?_); rintro e w5 ⟨v5,rfl,hq5,hx5⟩; have HX5:=hid (HX4.out.trans hx5); have HQ5:=hid hq5; have HX45:=hid hx5; obtain ⟨n5,a5,l5,c5,m5,a5',l5',c5',rfl⟩:=hq5.formB; obtain ⟨⟨d1,d2,d3⟩,⟨p1,p2,p3,p4,p5,p6⟩,⟨x0,x1,x2,x3⟩,⟨f0,f1,f2,f3⟩,-⟩:=HSW.out w5 HX5.out; clear hq5 hx5)
          | fail)
         all_goals
          go_wp2_with fail
          go_meet
          have ha:=AQ.put ⟨x0,x1,x2,x3⟩ ⟨f0,f1,f2,f3⟩ (R:=fun k => k < w5.heap.size ∧ k ≠ b7) (HQ5.out.to (Kept.refl _ _) (fun k h => ⟨h.2,by have h1:=h.1; have h2:=HX4.out.size; have h3:=HAI.out.lt; omega⟩)) (fun h => h.2 rfl)
          have ha2:=(ha.ext (R':=fun k => k < (set4 w5 b7 (.bool n5) (.slice a5 l5 c5) (.bool m5) (.slice a5' l5' c5')).heap.size ∧ k ≠ b7) (Ext.refl _) (fun k h => by rw [z2s]; exact h.1) (fun k h => ⟨by rw [z2s]; exact h.1,h.2⟩)).mono (q':=X * Q ^ (c + 1)) (B:=K + 31 * (E * j + (c + 1))) (by rw [Rat.pow_succ,Rat.mul_assoc]) (by omega)
          with_reducible exact ⟨_,_,_,_,hid ha2,hid (z1k (HXI.out.trans HX5.out) HB7.out _ _ _ _)⟩
        case rest =>
         obtain ⟨bn8,bd8,vn8,vd8,HA8,HX8⟩:=hcut
         clear d1 d2 d3 p1 p2 p3 p4 p5 p6 x0 x1 x2 x3
         go_wp2
         go_roundw
         case rel => exact ⟨c + 1,_,_,_,_,by omega,by go_num,HX8,HA8⟩
         case measure => simp only [intOf]; omega
       ·obtain rfl:c = e0:=by omega
        have HQC:Hid (X * Q ^ c = (t.1:Rat) * gM pts (t.2.take (j + 1))):=hid (by
         rw [HY.out,HXE.out,HQE.out]
         unfold powQ
         rw [Int.toNat_natCast,Rat.mul_assoc])
        have HBC2:Hid (K + 31 * (E * j + c) ≤ K + 31 * (E * (j + 1))):=hid (by
         have h1:E * (j + 1) = E * j + E:=by rw [Nat.mul_add,Nat.mul_one]
         have h2:=HE0.out
         omega)
        go_wp2
        go_roundw
        case rel => exact ⟨j + 1,_,_,_,_,by omega,by go_num,HXI,hid (HAI.out.mono HQC.out HBC2.out)⟩
        case measure => simp only [intOf]; omega
     ·obtain rfl:j = lm:=by omega
      have HVS:Hid ((t.1:Rat) * gM pts (t.2.take j) = (t.1:Rat) * gM pts t.2):=hid (by rw [List.take_of_length_le (by rw [← HLM.out]; exact Nat.le_refl _)])
      have HBK:Hid (k * Z + 1 + (K + 31 * (E * j)) + 1 ≤ (k + 1) * Z + 1 ∧ k * Z + 1 + (K + 31 * (E * j)) + 1 ≤ 800000):=hid (by
       have h1:=Nat.mul_le_mul_left E (show j ≤ V by have:=HTF.out.2.2; have:=HLM.out; omega)
       have h2:(k + 1) * Z = k * Z + Z:=Nat.succ_mul k Z
       have h3:=Nat.mul_le_mul_right Z (show k + 1 ≤ n from HKN.out)
       have h4:=HSZ.out
       have h5:=HZ.out
       omega)
      have CA:=hid (zf9 (S:=Old wm) (.agg #[.bool bn,vn,.bool bd,vd]) (.agg #[.bool bn7,vn7,.bool bd7,vd7]) _ _ (k * Z + 1) (K + 31 * (E * j)) wm ((HA0.out wm HXM.out).ext (R':=Old wm) (Ext.refl _) (fun k h => Nat.lt_of_lt_of_le h.2.1 HXM.out.size) (fun k h => Nat.lt_of_lt_of_le h.2.1 HXM.out.size)).2.2 (HAM.out.ext (R':=Old wm) (Ext.refl _) (fun k h => h.1) (fun k h => h.1)).2.2 (fun _ h => h) HBK.out.2)
      obtain ⟨x0,x1,x2,x3⟩:=(HA0.out wm HXM.out).1
      obtain ⟨y0,y1,y2,y3⟩:=HAM.out.1
      go_wp2_with fail
      with_reducible refine CA.out.mono ?_
      rintro e w6 ⟨v6,rfl,hq6,hx6⟩
      have HX6:=hid (HXM.out.trans hx6)
      have HQ6:=hid hq6
      obtain ⟨n6,a6,l6,c6,m6,a6',l6',c6',rfl⟩:=hq6.formB
      obtain ⟨⟨x0,x1,x2,x3⟩,⟨f0,f1,f2,f3⟩,-⟩:=HA0.out w6 HX6.out
      have ha:=AQ.put ⟨x0,x1,x2,x3⟩ ⟨f0,f1,f2,f3⟩ (R:=fun k => W.heap.size ≤ k ∧ k < w6.heap.size ∧ k ≠ W.heap.size ∧ k ≠ b5) (HQ6.out.to (Kept.refl _ _) (fun k h => by
       have h1:=h.1
       have h2:=h.2
       have h3:=HX.out.size
       have h4:=HXM.out.size
       have h5:=HLB5.out
       have h6:=HA.out.lt
       omega)) (fun h => h.2.2.2 rfl)
      have ha2:=(ha.ext (R':=fun k => W.heap.size ≤ k ∧ k < (set4 w6 b5 (.bool n6) (.slice a6 l6 c6) (.bool m6) (.slice a6' l6' c6')).heap.size ∧ k ≠ W.heap.size ∧ k ≠ b5) (Ext.refl _) (fun k h => by rw [z2s]; exact h.2.1) (fun k h => ⟨h.1,by rw [z2s]; exact h.2.1,h.2.2⟩)).mono (q':=evQ (gM pts) (p.take (k + 1))) (B:=(k + 1) * Z + 1) (by rw [HT.out,HVS.out]) HBK.out.1
      have HA2:=hid ha2
      have HXN:=hid (z1k (HX.out.trans HX6.out) (show w0.heap.size ≤ b5 by have h1:=HLB5.out; have h2:=HS0.out; omega) (.bool n6) (.slice a6 l6 c6) (.bool m6) (.slice a6' l6' c6'))
      clear hx6 hq6 y0 y1 y2 y3 ha ha2 d1 d2 d3
      go_wp2
      go_roundw
      case rel => exact ⟨k + 1,_,_,_,_,by omega,by go_num,HXN,HA2⟩
      case measure => simp only [intOf]; omega
  ·obtain rfl:k = np:=by omega
   have HVS:Hid (evQ (gM pts) (p.take k) = evQ (gM pts) p):=hid (by rw [List.take_of_length_le (by rw [← HNP.out]; exact Nat.le_refl _)])
   have HBK:Hid (k * Z + 1 ≤ n * Z + 1):=hid (by
    have h1:=Nat.mul_le_mul_right Z (show k ≤ n by rw [HNP.out]; exact HF.out.ln)
    omega)
   obtain ⟨a1,l1,c1,a2,l2,c2,e1,e2⟩:=HA.out.2.2.slices
   subst e1 e2
   obtain ⟨x0,x1,x2,x3⟩:=HA.out.1
   obtain ⟨⟨g0,g1,g2,g3⟩,f0,f1,f2,f3⟩:=HB.out wr HX.out
   go_wp2
   all_goals
    obtain ⟨k0,k1,k2,k3⟩:=z49 (w:=wr) (b:=W.heap.size) ⟨g0,g1,g2,g3⟩ (.bool bn) (.slice a1 l1 c1) (.bool bd) (.slice a2 l2 c2)
    refine bodyPost_ret (v:=.agg #[.bool bn,.slice a1 l1 c1,.bool bd,.slice a2 l2 c2]) (by simp [results,Tryz.results11,go_sem,k0,k1,k2,k3]) rfl ?_
    have hq:=(HA.out.2.2.to (S':=fun k => W.heap.size ≤ k ∧ k < wr.heap.size ∧ k ≠ W.heap.size ∧ k ≠ b5) (z52 (b:=W.heap.size) (fun h => h.2.2.1 rfl) (.bool bn) (.slice a1 l1 c1) (.bool bd) (.slice a2 l2 c2)) (fun _ h => h)).mono HBK.out
    rw [HVS.out] at hq
    exact ⟨_,rfl,hq.to (Kept.refl _ _) (fun k h => ⟨h.1,by rw [z2s]; exact h.2.1⟩),z1k (HX0.out.trans HX.out) (Nat.le_refl _) _ _ _ _⟩
end
section
open Go.RowKit
theorem z5x {w w0 wz:World} {b:Nat} {n m:Bool} {vn vd u0 u1 u2 u3:Value} {q:Rat} {B:Nat} (hb:w.heap.size ≤ b) (hx:Ext w w0) (h0:b < w0.heap.size) (hxz:Ext w0 wz) (hc:z39 wz b u0 u1 u2 u3) (hq:QR (New w0 wz) wz (.agg #[.bool n,vn,.bool m,vd]) q B) :
  z39 (set4 wz b (.bool n) vn (.bool m) vd) b (.bool n) vn (.bool m) vd ∧ QR (New w (set4 wz b (.bool n) vn (.bool m) vd)) (set4 wz b (.bool n) vn (.bool m) vd) (.agg #[.bool n,vn,.bool m,vd]) q B ∧ Ext w (set4 wz b (.bool n) vn (.bool m) vd) :=
 ⟨z49 hc _ _ _ _,hq.to (z52 (fun h => by have:=h.1; omega) _ _ _ _) (fun k h => ⟨Nat.le_trans hx.size h.1,by rw [z2s]; exact h.2⟩),z1k (hx.trans hxz) hb _ _ _ _⟩
def Box8 (Y:World) (b:Nat) (x0 x1 x2 x3 x4 x5 x6 x7:Value):Prop:=(Y.cell? ⟨b,0,none⟩ = some x0 ∧ Y.cell? ⟨b,1,none⟩ = some x1 ∧ Y.cell? ⟨b,2,none⟩ = some x2 ∧ Y.cell? ⟨b,3,none⟩ = some x3) ∧ Y.cell? ⟨b,4,none⟩ = some x4 ∧ Y.cell? ⟨b,5,none⟩ = some x5 ∧ Y.cell? ⟨b,6,none⟩ = some x6 ∧ Y.cell? ⟨b,7,none⟩ = some x7
theorem box8_new {w Y:World} {b:Nat} {x0 x1 x2 x3 x4 x5 x6 x7:Value} {T:TypeId} (hb:b = w.heap.size) (h:Ext (w.alloc (.cells #[x0,x1,x2,x3,x4,x5,x6,x7] T)) Y):Box8 Y b x0 x1 x2 x3 x4 x5 x6 x7:=by
 subst hb
 have k0:∀ (i:Nat) (u:Value),#[x0,x1,x2,x3,x4,x5,x6,x7][i]? = some u → Y.cell? ⟨w.heap.size,i,none⟩ = some u:=fun i u hu => h.cell (z02 w _ _ rfl hu)
 exact ⟨⟨k0 0 _ rfl,k0 1 _ rfl,k0 2 _ rfl,k0 3 _ rfl⟩,k0 4 _ rfl,k0 5 _ rfl,k0 6 _ rfl,k0 7 _ rfl⟩
def SP (S:Nat → Prop) (w:World) (v:Value) (p q:Rat) (B:Nat):Prop:=∃ b1 a1 l1 c1 b2 a2 l2 c2 b3 a3 l3 c3 b4 a4 l4 c4,v = .agg #[.bool b1,.slice a1 l1 c1,.bool b2,.slice a2 l2 c2,.bool b3,.slice a3 l3 c3,.bool b4,.slice a4 l4 c4] ∧ QR S w (.agg #[.bool b1,.slice a1 l1 c1,.bool b2,.slice a2 l2 c2]) p B ∧ QR S w (.agg #[.bool b3,.slice a3 l3 c3,.bool b4,.slice a4 l4 c4]) q B
theorem SP.to {S S':Nat → Prop} {w w':World} {v:Value} {p q:Rat} {B:Nat} (h:SP S w v p q B) (hk:Kept S w w') (hS:∀ k,S k → S' k):SP S' w' v p q B:=by
 obtain ⟨b1,a1,l1,c1,b2,a2,l2,c2,b3,a3,l3,c3,b4,a4,l4,c4,e,h1,h2⟩:=h
 exact ⟨b1,a1,l1,c1,b2,a2,l2,c2,b3,a3,l3,c3,b4,a4,l4,c4,e,h1.to hk hS,h2.to hk hS⟩
theorem QR.on {w w':World} {v:Value} {q:Rat} {B:Nat} (h:QR (Old w) w v q B) (hx:Ext w w'):QR (Old w') w' v q B:=h.to (Kept.ext hx (fun _ h => h)) (z2b hx)
theorem SP.on {w w':World} {v:Value} {p q:Rat} {B:Nat} (h:SP (Old w) w v p q B) (hx:Ext w w'):SP (Old w') w' v p q B:=h.to (Kept.ext hx (fun _ h => h)) (z2b hx)
theorem ztr (u v:Value) (p q:Rat) (A B:Nat) (w:World) (hu:QR (Old w) w u p A) (hv:QR (Old w) w v q B) (hB:A + B + 1 ≤ 800000) :
  Calls Tryz.prog 80 #[u,v] w fun e w' => ∃ v',e = .returned v' ∧ QR (New w w') w' v' (p + q) (A + B + 1) ∧ Ext w w':=by
 have CA:=hid (fun (Y:World) (hY:Ext w Y) => zf9 (S:=Old Y) u v p q A B Y (hu.on hY) (hv.on hY) (fun _ h => h) hB)
 obtain ⟨n1,a1,l1,c1,m1,d1,k1,e1,rfl⟩:=hu.formB
 obtain ⟨n2,a2,l2,c2,m2,d2,k2,e2,rfl⟩:=hv.formB
 obtain ⟨w0,hw0⟩:∃ Y,Y = ((w.alloc (.cells #[.bool n1,.slice a1 l1 c1,.bool m1,.slice d1 k1 e1] 58)).alloc (.cells #[.bool n2,.slice a2 l2 c2,.bool m2,.slice d2 k2 e2] 58)).alloc (.cells #[.bool false,.slice none 0 0,.bool false,.slice none 0 0] 58):=⟨_,rfl⟩
 have HX0:Hid (Ext w w0):=hid (by rw [hw0]; exact ((Ext.alloc (Ext.refl _) _).alloc _).alloc _)
 have HS0:Hid (w0.heap.size = w.heap.size + 3):=hid (by rw [hw0]; simp only [size_alloc])
 have HB:=hid (fun (Y:World) (hY:Ext w0 Y) => by
  rw [hw0] at hY
  exact And.intro (box4_new (b:=w.heap.size) rfl (((Ext.alloc (Ext.refl _) _).alloc _).trans hY)).1 (And.intro (box4_new (b:=w.heap.size + 1) (by rw [size_alloc]) ((Ext.alloc (Ext.refl _) _).trans hY)).1 (box4_new (b:=w.heap.size + 1 + 1) (by rw [size_alloc,size_alloc]) hY)))
 have HW0:=hid hw0
 have CA0:=hid (CA.out w0 HX0.out)
 clear hu hv hw0 CA hB
 go_enter Tryz.func80,Tryz.ntmps80
 go_upto_region 1 with fail
 rw [← HW0.out]
 obtain ⟨⟨x0,x1,x2,x3⟩,⟨y0,y1,y2,y3⟩,-⟩:=HB.out w0 (Ext.refl _)
 go_wp2_with fail
 with_reducible refine CA0.out.mono ?_
 rintro e wz ⟨vz,rfl,hqz,hxz⟩
 have HXZ:=hid hxz
 have HQZ:=hid hqz
 obtain ⟨n3,a3,l3,c3,m3,d3,k3,e3,rfl⟩:=hqz.formB
 obtain ⟨-,-,⟨g0,g1,g2,g3⟩,f0,f1,f2,f3⟩:=HB.out wz HXZ.out
 have HR:=hid (z5x (w:=w) (b:=w.heap.size + 1 + 1) (by omega) HX0.out (by rw [HS0.out]; omega) HXZ.out ⟨g0,g1,g2,g3⟩ HQZ.out)
 clear hqz hxz x0 x1 x2 x3 y0 y1 y2 y3
 go_wp2
 all_goals
  obtain ⟨⟨r0,r1,r2,r3⟩,hq,hx⟩:=HR.out
  refine bodyPost_ret (v:=.agg #[.bool n3,.slice a3 l3 c3,.bool m3,.slice d3 k3 e3]) (by simp [results,Tryz.results80,go_sem,r0,r1,r2,r3]) rfl ?_
  exact ⟨_,rfl,hq,hx⟩
theorem zmo (u v:Value) (p q:Rat) (A B:Nat) (w:World) (hu:QR (Old w) w u p A) (hv:QR (Old w) w v q B) (hB:A + B + 1 ≤ 800000) :
  Calls Tryz.prog 84 #[u,v] w fun e w' => ∃ v',e = .returned v' ∧ QR (New w w') w' v' (p - q) (A + B + 1) ∧ Ext w w':=by
 have CA:=hid (fun (Y:World) (hY:Ext w Y) => zrw (S:=Old Y) u v p q A B Y (hu.on hY) (hv.on hY) (fun _ h => h) hB)
 obtain ⟨n1,a1,l1,c1,m1,d1,k1,e1,rfl⟩:=hu.formB
 obtain ⟨n2,a2,l2,c2,m2,d2,k2,e2,rfl⟩:=hv.formB
 obtain ⟨w0,hw0⟩:∃ Y,Y = ((w.alloc (.cells #[.bool n1,.slice a1 l1 c1,.bool m1,.slice d1 k1 e1] 58)).alloc (.cells #[.bool n2,.slice a2 l2 c2,.bool m2,.slice d2 k2 e2] 58)).alloc (.cells #[.bool false,.slice none 0 0,.bool false,.slice none 0 0] 58):=⟨_,rfl⟩
 have HX0:Hid (Ext w w0):=hid (by rw [hw0]; exact ((Ext.alloc (Ext.refl _) _).alloc _).alloc _)
 have HS0:Hid (w0.heap.size = w.heap.size + 3):=hid (by rw [hw0]; simp only [size_alloc])
 have HB:=hid (fun (Y:World) (hY:Ext w0 Y) => by
  rw [hw0] at hY
  exact And.intro (box4_new (b:=w.heap.size) rfl (((Ext.alloc (Ext.refl _) _).alloc _).trans hY)).1 (And.intro (box4_new (b:=w.heap.size + 1) (by rw [size_alloc]) ((Ext.alloc (Ext.refl _) _).trans hY)).1 (box4_new (b:=w.heap.size + 1 + 1) (by rw [size_alloc,size_alloc]) hY)))
 have HW0:=hid hw0
 have CA0:=hid (CA.out w0 HX0.out)
 clear hu hv hw0 CA hB
 go_enter Tryz.func84,Tryz.ntmps84
 go_upto_region 1 with fail
 rw [← HW0.out]
 obtain ⟨⟨x0,x1,x2,x3⟩,⟨y0,y1,y2,y3⟩,-⟩:=HB.out w0 (Ext.refl _)
 go_wp2_with fail
 with_reducible refine CA0.out.mono ?_
 rintro e wz ⟨vz,rfl,hqz,hxz⟩
 have HXZ:=hid hxz
 have HQZ:=hid hqz
 obtain ⟨n3,a3,l3,c3,m3,d3,k3,e3,rfl⟩:=hqz.formB
 obtain ⟨-,-,⟨g0,g1,g2,g3⟩,f0,f1,f2,f3⟩:=HB.out wz HXZ.out
 have HR:=hid (z5x (w:=w) (b:=w.heap.size + 1 + 1) (by omega) HX0.out (by rw [HS0.out]; omega) HXZ.out ⟨g0,g1,g2,g3⟩ HQZ.out)
 clear hqz hxz x0 x1 x2 x3 y0 y1 y2 y3
 go_wp2
 all_goals
  obtain ⟨⟨r0,r1,r2,r3⟩,hq,hx⟩:=HR.out
  refine bodyPost_ret (v:=.agg #[.bool n3,.slice a3 l3 c3,.bool m3,.slice d3 k3 e3]) (by simp [results,Tryz.results84,go_sem,r0,r1,r2,r3]) rfl ?_
  exact ⟨_,rfl,hq,hx⟩
theorem zh3 (u v:Value) (p q:Rat) (A B:Nat) (w:World) (hu:QR (Old w) w u p A) (hv:QR (Old w) w v q B) (hB:A + B ≤ 800000) :
  Calls Tryz.prog 81 #[u,v] w fun e w' => ∃ v',e = .returned v' ∧ QR (New w w') w' v' (p * q) (A + B) ∧ Ext w w':=by
 have CA:=hid (fun (Y:World) (hY:Ext w Y) => zqi (S:=Old Y) u v p q A B Y (hu.on hY) (hv.on hY) (fun _ h => h) hB)
 obtain ⟨n1,a1,l1,c1,m1,d1,k1,e1,rfl⟩:=hu.formB
 obtain ⟨n2,a2,l2,c2,m2,d2,k2,e2,rfl⟩:=hv.formB
 obtain ⟨w0,hw0⟩:∃ Y,Y = ((w.alloc (.cells #[.bool n1,.slice a1 l1 c1,.bool m1,.slice d1 k1 e1] 58)).alloc (.cells #[.bool n2,.slice a2 l2 c2,.bool m2,.slice d2 k2 e2] 58)).alloc (.cells #[.bool false,.slice none 0 0,.bool false,.slice none 0 0] 58):=⟨_,rfl⟩
 have HX0:Hid (Ext w w0):=hid (by rw [hw0]; exact ((Ext.alloc (Ext.refl _) _).alloc _).alloc _)
 have HS0:Hid (w0.heap.size = w.heap.size + 3):=hid (by rw [hw0]; simp only [size_alloc])
 have HB:=hid (fun (Y:World) (hY:Ext w0 Y) => by
  rw [hw0] at hY
  exact And.intro (box4_new (b:=w.heap.size) rfl (((Ext.alloc (Ext.refl _) _).alloc _).trans hY)).1 (And.intro (box4_new (b:=w.heap.size + 1) (by rw [size_alloc]) ((Ext.alloc (Ext.refl _) _).trans hY)).1 (box4_new (b:=w.heap.size + 1 + 1) (by rw [size_alloc,size_alloc]) hY)))
 have HW0:=hid hw0
 have CA0:=hid (CA.out w0 HX0.out)
 clear hu hv hw0 CA hB
 go_enter Tryz.func81,Tryz.ntmps81
 go_upto_region 1 with fail
 rw [← HW0.out]
 obtain ⟨⟨x0,x1,x2,x3⟩,⟨y0,y1,y2,y3⟩,-⟩:=HB.out w0 (Ext.refl _)
 go_wp2_with fail
 with_reducible refine CA0.out.mono ?_
 rintro e wz ⟨vz,rfl,hqz,hxz⟩
 have HXZ:=hid hxz
 have HQZ:=hid hqz
 obtain ⟨n3,a3,l3,c3,m3,d3,k3,e3,rfl⟩:=hqz.formB
 obtain ⟨-,-,⟨g0,g1,g2,g3⟩,f0,f1,f2,f3⟩:=HB.out wz HXZ.out
 have HR:=hid (z5x (w:=w) (b:=w.heap.size + 1 + 1) (by omega) HX0.out (by rw [HS0.out]; omega) HXZ.out ⟨g0,g1,g2,g3⟩ HQZ.out)
 clear hqz hxz x0 x1 x2 x3 y0 y1 y2 y3
 go_wp2
 all_goals
  obtain ⟨⟨r0,r1,r2,r3⟩,hq,hx⟩:=HR.out
  refine bodyPost_ret (v:=.agg #[.bool n3,.slice a3 l3 c3,.bool m3,.slice d3 k3 e3]) (by simp [results,Tryz.results81,go_sem,r0,r1,r2,r3]) rfl ?_
  exact ⟨_,rfl,hq,hx⟩
theorem rs_x (u v:Value) (p1 p2 q1 q2:Rat) (B:Nat) (w:World) (hu:SP (Old w) w u p1 p2 B) (hv:SP (Old w) w v q1 q2 B) (hB:B + B + 1 ≤ 800000) :
  Calls Tryz.prog 82 #[u,v] w fun e w' => ∃ v',e = .returned v' ∧ QR (New w w') w' v' (q1 - p1) (B + B + 1) ∧ Ext w w':=by
 obtain ⟨n1,a1,l1,c1,m1,d1,k1,e1,n2,a2,l2,c2,m2,d2,k2,e2,rfl,hu1,hu2⟩:=hu
 obtain ⟨n3,a3,l3,c3,m3,d3,k3,e3,n4,a4,l4,c4,m4,d4,k4,e4,rfl,hv1,hv2⟩:=hv
 have CA:=hid (fun (Y:World) (hY:Ext w Y) => zmo _ _ _ _ B B Y (hv1.on hY) (hu1.on hY) hB)
 obtain ⟨w0,hw0⟩:∃ Y,Y = ((w.alloc (.cells #[.bool n1,.slice a1 l1 c1,.bool m1,.slice d1 k1 e1,.bool n2,.slice a2 l2 c2,.bool m2,.slice d2 k2 e2] 67)).alloc (.cells #[.bool n3,.slice a3 l3 c3,.bool m3,.slice d3 k3 e3,.bool n4,.slice a4 l4 c4,.bool m4,.slice d4 k4 e4] 67)).alloc (.cells #[.bool false,.slice none 0 0,.bool false,.slice none 0 0] 58):=⟨_,rfl⟩
 have HX0:Hid (Ext w w0):=hid (by rw [hw0]; exact ((Ext.alloc (Ext.refl _) _).alloc _).alloc _)
 have HS0:Hid (w0.heap.size = w.heap.size + 3):=hid (by rw [hw0]; simp only [size_alloc])
 have HB:=hid (fun (Y:World) (hY:Ext w0 Y) => by
  rw [hw0] at hY
  exact And.intro (box8_new (b:=w.heap.size) rfl (((Ext.alloc (Ext.refl _) _).alloc _).trans hY)) (And.intro (box8_new (b:=w.heap.size + 1) (by rw [size_alloc]) ((Ext.alloc (Ext.refl _) _).trans hY)) (box4_new (b:=w.heap.size + 1 + 1) (by rw [size_alloc,size_alloc]) hY)))
 have HW0:=hid hw0
 have CA0:=hid (CA.out w0 HX0.out)
 clear hu1 hu2 hv1 hv2 hw0 CA hB
 go_enter Tryz.func82,Tryz.ntmps82
 go_upto_region 1 with fail
 rw [← HW0.out]
 obtain ⟨⟨⟨x0,x1,x2,x3⟩,x4,x5,x6,x7⟩,⟨⟨y0,y1,y2,y3⟩,y4,y5,y6,y7⟩,-⟩:=HB.out w0 (Ext.refl _)
 go_wp2_with fail
 with_reducible refine CA0.out.mono ?_
 rintro e wz ⟨vz,rfl,hqz,hxz⟩
 have HXZ:=hid hxz
 have HQZ:=hid hqz
 obtain ⟨n5,a5,l5,c5,m5,d5,k5,e5,rfl⟩:=hqz.formB
 obtain ⟨-,-,⟨g0,g1,g2,g3⟩,f0,f1,f2,f3⟩:=HB.out wz HXZ.out
 have HR:=hid (z5x (w:=w) (b:=w.heap.size + 1 + 1) (by omega) HX0.out (by rw [HS0.out]; omega) HXZ.out ⟨g0,g1,g2,g3⟩ HQZ.out)
 clear hqz hxz x0 x1 x2 x3 x4 x5 x6 x7 y0 y1 y2 y3 y4 y5 y6 y7
 go_wp2
 all_goals
  obtain ⟨⟨r0,r1,r2,r3⟩,hq,hx⟩:=HR.out
  refine bodyPost_ret (v:=.agg #[.bool n5,.slice a5 l5 c5,.bool m5,.slice d5 k5 e5]) (by simp [results,Tryz.results82,go_sem,r0,r1,r2,r3]) rfl ?_
  exact ⟨_,rfl,hq,hx⟩
theorem rs_y (u v:Value) (p1 p2 q1 q2:Rat) (B:Nat) (w:World) (hu:SP (Old w) w u p1 p2 B) (hv:SP (Old w) w v q1 q2 B) (hB:B + B + 1 ≤ 800000) :
  Calls Tryz.prog 83 #[u,v] w fun e w' => ∃ v',e = .returned v' ∧ QR (New w w') w' v' (q2 - p2) (B + B + 1) ∧ Ext w w':=by
 obtain ⟨n1,a1,l1,c1,m1,d1,k1,e1,n2,a2,l2,c2,m2,d2,k2,e2,rfl,hu1,hu2⟩:=hu
 obtain ⟨n3,a3,l3,c3,m3,d3,k3,e3,n4,a4,l4,c4,m4,d4,k4,e4,rfl,hv1,hv2⟩:=hv
 have CA:=hid (fun (Y:World) (hY:Ext w Y) => zmo _ _ _ _ B B Y (hv2.on hY) (hu2.on hY) hB)
 obtain ⟨w0,hw0⟩:∃ Y,Y = ((w.alloc (.cells #[.bool n1,.slice a1 l1 c1,.bool m1,.slice d1 k1 e1,.bool n2,.slice a2 l2 c2,.bool m2,.slice d2 k2 e2] 67)).alloc (.cells #[.bool n3,.slice a3 l3 c3,.bool m3,.slice d3 k3 e3,.bool n4,.slice a4 l4 c4,.bool m4,.slice d4 k4 e4] 67)).alloc (.cells #[.bool false,.slice none 0 0,.bool false,.slice none 0 0] 58):=⟨_,rfl⟩
 have HX0:Hid (Ext w w0):=hid (by rw [hw0]; exact ((Ext.alloc (Ext.refl _) _).alloc _).alloc _)
 have HS0:Hid (w0.heap.size = w.heap.size + 3):=hid (by rw [hw0]; simp only [size_alloc])
 have HB:=hid (fun (Y:World) (hY:Ext w0 Y) => by
  rw [hw0] at hY
  exact And.intro (box8_new (b:=w.heap.size) rfl (((Ext.alloc (Ext.refl _) _).alloc _).trans hY)) (And.intro (box8_new (b:=w.heap.size + 1) (by rw [size_alloc]) ((Ext.alloc (Ext.refl _) _).trans hY)) (box4_new (b:=w.heap.size + 1 + 1) (by rw [size_alloc,size_alloc]) hY)))
 have HW0:=hid hw0
 have CA0:=hid (CA.out w0 HX0.out)
 clear hu1 hu2 hv1 hv2 hw0 CA hB
 go_enter Tryz.func83,Tryz.ntmps83
 go_upto_region 1 with fail
 rw [← HW0.out]
 obtain ⟨⟨⟨x0,x1,x2,x3⟩,x4,x5,x6,x7⟩,⟨⟨y0,y1,y2,y3⟩,y4,y5,y6,y7⟩,-⟩:=HB.out w0 (Ext.refl _)
 go_wp2_with fail
 with_reducible refine CA0.out.mono ?_
 rintro e wz ⟨vz,rfl,hqz,hxz⟩
 have HXZ:=hid hxz
 have HQZ:=hid hqz
 obtain ⟨n5,a5,l5,c5,m5,d5,k5,e5,rfl⟩:=hqz.formB
 obtain ⟨-,-,⟨g0,g1,g2,g3⟩,f0,f1,f2,f3⟩:=HB.out wz HXZ.out
 have HR:=hid (z5x (w:=w) (b:=w.heap.size + 1 + 1) (by omega) HX0.out (by rw [HS0.out]; omega) HXZ.out ⟨g0,g1,g2,g3⟩ HQZ.out)
 clear hqz hxz x0 x1 x2 x3 x4 x5 x6 x7 y0 y1 y2 y3 y4 y5 y6 y7
 go_wp2
 all_goals
  obtain ⟨⟨r0,r1,r2,r3⟩,hq,hx⟩:=HR.out
  refine bodyPost_ret (v:=.agg #[.bool n5,.slice a5 l5 c5,.bool m5,.slice d5 k5 e5]) (by simp [results,Tryz.results83,go_sem,r0,r1,r2,r3]) rfl ?_
  exact ⟨_,rfl,hq,hx⟩
end
end Go.Proofs.YtbfflodidkfphaaGreat
