/- Slices of terms put behind one another. Terms collected: sorted, and summed by their monomials. May some polynomials be; the sum of two. The terms that are picked out of a polynomial, with other monomials: view.picked, for any function that picks. Coefficient, initial and tail: the program's answers. The sum of any terms: the program's answer. The derivative: the program's answer. Bounds on the limbs of coefficients, and what a small polynomial is. The product of two polynomials: the program's answer. The program's calls on canonical polynomials: one form of contract for all. A polynomial is built again out of its coefficients. Plain. The document: a variable's power, coefficient, initial, tail. Pseudo-division, plain: its steps, by a meter or without one; that they end. Pseudo-division, plain: what its steps keep: the identity, exponents, sizes. The document's calls on canonical polynomials within bounds: one form of contract for all. A meter, or none, as one value: what its methods do; polynomials that lie apart from it. A polynomial times a term; a variable's power. The program's division: the head, a power, the other sign, the term of a step. Products of polynomials whose numbers have any lengths. Coordinates of a way between two points, as polynomials; sums, differences and products of small polynomials. Products of two ways, as polynomials. Products of two ways, the document's. -/
import Derived.Deep.RegionWith
import Derived.Deep.DeepCutAuto
import Derived.Test.YtbfflodidkfphaaGreatSl7
set_option maxRecDepth 100000
set_option maxHeartbeats 16000000
namespace Go.Proofs.YtbfflodidkfphaaGreat
section
open Go.RowKit Go.Sort
section
variable {P : Program}
theorem run_append_room0 (w : World) (t u ty e : TypeId) (k : IntKind) (i : TypeInfo) (z : Value) (ht : P.underlying t = some (.slice e)) (hu : P.underlying u = some (.int k)) (hi : P.info? e = some i) (hz : i.zero = some z)
  (n : Nat) (h0 : 0 < n) (h63 : (n : Int) ≤ 9223372036854775807) (h48 : n * i.bytes ≤ 281474976710656) (hs : 0 < i.size) :
  (Builtin.append_ #[t, u] ty #[.slice none 0 0, .int .i64 (n : Int)]).run P w =
   .ok (.slice (some ⟨w.heap.size, 0, none⟩) n (grownCap w n 0 e)) (w.drew.alloc (.cells (Builtin.zeroCells z.cells n ++ Builtin.zeroCells z.cells (grownCap w n 0 e - n)) e)) := by
 have hn : n ≠ 0 := by omega
 have hns : n * i.size ≠ 0 := by
  have := Nat.mul_pos h0 hs
  omega
 have h63' : ¬ (9223372036854775807 < (n : Int)) := by omega
 have h48' : ¬ (281474976710656 < Builtin.nextslicecap n 0 * i.bytes) := by rw [nextslicecap_zero h0]; omega
 have h48i : ¬ (281474976710656 < (n : Int) * (i.bytes : Int)) := by
  have : ((n * i.bytes : Nat) : Int) ≤ 281474976710656 := by omega
  rw [Int.natCast_mul] at this
  omega
 have hw : IntKind.i64.wrap (n : Int) = (n : Int) := by rw [IntKind.wrap_i64]; omega
 have hneg : ¬ ((n : Int) < 0) := by omega
 have hsz : ¬ i.size = 0 := by omega
 simp [Builtin.append_, run_underlying ht, run_underlying hu, sizeOf, typeInfo, zeroValue, hi, hz, asInt, asIntOf, hw, hneg, h48i, hn, hns, h63', h48', Question.forced, run_firstCells_none, newRow, grownCap]
theorem wpList_append_room0 (w : World) {ops : Array Oper} {rest : List Oper} {o : Oper} {a : Act} {Q : Exit → Act → World → Prop} (hgd : o.guard = none) (s x : Operand) (t u : TypeId) (k : IntKind)
  (ho : o.op = .call { callee := .builtin .append, args := #[s, x], argTypes := #[t, u] })
  (e : TypeId) (i : TypeInfo) (z : Value) (size bytes : Nat) (ht : P.underlying t = some (.slice e)) (hu : P.underlying u = some (.int k)) (hi : P.info? e = some i) (hz : i.zero = some z)
  (hsize : i.size = size) (hby : i.bytes = bytes) (hzs : z.cells.size = size) (hsz : 0 < size)
  (n : Nat) (hs : a.eval s = .slice none 0 0) (hx : a.eval x = .int .i64 (n : Int)) (h0 : 0 < n) (h63 : n ≤ maxLen) (hbytes : n * bytes ≤ 140737488355328)
  (h : ∀ cap w', w'.ownsRow w.heap.size e size (.slice (some ⟨w.heap.size, 0, none⟩) 0 cap) 0 [] → n ≤ cap → Ext w w' → wpList P ops Q rest (a.put o.dst (.slice (some ⟨w.heap.size, 0, none⟩) n cap)) w') : wpList P ops Q (o :: rest) a w := by
 have hrun := run_append_room0 (P := P) w t u o.type e k i z ht hu hi hz n h0 (by unfold maxLen at h63; omega) (by rw [hby]; omega) (by omega)
 have hcm : grownCap w n 0 e ≤ maxLen := grownCap_le_maxLen w n 0 e h63
 have hge := grownCap_ge w n 0 e
 refine wpList_plain hgd fun K hK => ?_
 unfold Oper.wp execOp
 simp only [ho, resolve, invoke, builtin, Sem.run_bind, Sem.run_pure, Result.andThen_ok, List.map_toArray, List.map_cons, List.map_nil, hs, hx, hrun]
 refine hK _ _ (h _ _ ?_ hge ?_)
 ·refine ⟨by simp, .inr ⟨w.heap.size, _, _, rfl, Nat.le_refl _, heap_alloc_new w.drew _, Nat.zero_le _, hcm, ?_, by simp⟩⟩
  simp only [Array.size_append, size_zeroCells, hzs, ← Nat.add_mul]
  congr 1
  omega
 ·exact ((Ext.refl w).drew).alloc _
end
theorem grow_terms (n : Nat) (w : World) (hn : n ≤ 1000000000000) :
  Calls Tryz.prog 165 #[.slice none 0 0, .int .i64 n] w fun e w' => ∃ v', e = .returned v' ∧ w'.ownsRow w.heap.size 49 3 v' 0 [] ∧ Ext w w' := by
 obtain ⟨j0, hj, jz0, jz1, jz2⟩ := info_parts Tryz.infoTerm
 rcases Nat.eq_zero_or_pos n with rfl | h0
 ·go_enter Tryz.func165, Tryz.ntmps165
  go_wp2
  go_ret
  exact ⟨_, rfl, World.ownsRow_nil _ _ _ _, Ext.refl _⟩
 ·have q0 : (n : Int) > 0 := by omega
  go_enter Tryz.func165, Tryz.ntmps165
  go_wp2_with (at_builtin; refine wpList_append_room0 _ rfl (.tmp 20) (.tmp 21) 23 3 .i64 rfl 49 j0 (.agg #[.bool false, .slice none 0 0, .slice none 0 0]) 3 56 Tryz.underlying23 Tryz.underlying3 hj jz0 jz1 jz2 rfl (by decide) n rfl rfl h0 (by unfold maxLen; omega) (by omega) ?_; intro cap w1 hown hcap hx; have HW := hid hown; have HX := hid hx; clear hown hx)
  go_ret
  exact ⟨_, rfl, HW.out, HX.out⟩
theorem flat_take {α : Type} {ls : List (List α)} {k : Nat} {p : List α} (h : ls[k]? = some p) : (ls.take (k + 1)).flatten = (ls.take k).flatten ++ p := by
 rw [List.take_add_one, h]
 simp
theorem flat_le {α : Type} (ls : List (List α)) (k : Nat) : (ls.take k).flatten.length ≤ ls.flatten.length := by
 conv => rhs; rw [← List.take_append_drop k ls]
 rw [List.flatten_append, List.length_append]
 omega
theorem own_kept_grown {S : Nat → Prop} {w2 : World} {base : Nat} {e : TypeId} {v : Value} {n : Nat} {xs : List Value} {l : List RTerm} {ys : List Value} {w1 : World} (hS : ∀ k, S k → k < base) (hw : base ≤ w1.heap.size) (h : CellsT S w1 xs l) (ho : w1.ownsRow base e 3 v n ys) (hg : w1.grownBy w2 v.ownBlock) : CellsT S w2 xs l :=
 h.to (Kept.grown hg (fun k hk => ⟨Nat.lt_of_lt_of_le (hS k hk) hw, fun e => by have h1 := (ho.lt k e.symm).1; have h2 := hS k hk; omega⟩)) (fun _ h => h)
theorem concat_polys {S : Nat → Prop} (v : Value) (ls : List (List RTerm)) (w : World) (h : Polys S w v ls) (hS : ∀ k, S k → k < w.heap.size) (hn : ls.flatten.length ≤ 1000000000000) :
  Calls Tryz.prog 156 #[v] w fun e w' => ∃ v' xs, e = .returned v' ∧ w'.ownsRow w.heap.size 49 3 v' ls.flatten.length xs ∧ CellsT S w' xs ls.flatten ∧ Ext w w' := by
 obtain ⟨j0, hj, jz0, jz1, jz2⟩ := info_parts Tryz.infoTerm
 have H := hid h
 have hll := h.len_le
 obtain ⟨A, c, rfl⟩ := h.form
 obtain ⟨n, hnn⟩ : ∃ n, n = ls.length := ⟨_, rfl⟩
 rw [← hnn] at H hll ⊢
 have HN := hid hnn
 have HFL := hid (flat_le ls)
 clear h hnn
 go_enter Tryz.func156, Tryz.ntmps156
 go_wp2
 go_loop [3, 11] (fun sz i => ∃ k s : Nat, k ≤ n ∧ i = .int .i64 k ∧ sz = .int .i64 s ∧ Hid (s = (ls.take k).flatten.length)) (fun _ i => n - (intOf i).toNat)
 case atStart => exact ⟨0, 0, Nat.zero_le _, rfl, rfl, rfl⟩
 case round =>
  obtain ⟨k, s, hk, rfl, rfl, HSZ⟩ := hrel
  have hs : s ≤ 1000000000000 := by rw [HSZ.out]; exact Nat.le_trans (HFL.out k) hn
  by_cases hlt : k < n
  ·obtain ⟨p, hp⟩ := some_of_lt (l := ls) (j := k) (by rw [← HN.out]; exact hlt)
   obtain ⟨bl, off, vp, rfl, -, hn1, hm1, hSb, h1, h2⟩ := H.out.cellAt hp
   have HP := hid (flat_take hp)
   obtain ⟨ap, cp, rfl⟩ := h2.form
   have hlp := h2.len_le
   obtain ⟨np, hnp⟩ : ∃ m, m = p.length := ⟨_, rfl⟩
   rw [← hnp] at h1 hlp
   have hs2 : s + np ≤ 1000000000000 := by
    have h3 := HFL.out (k + 1)
    rw [HP.out, List.length_append, ← HSZ.out, ← hnp] at h3
    exact Nat.le_trans h3 hn
   have HNP := hid hnp
   clear h2 hp hnp
   go_wp2
   go_round
   case rel => exact ⟨k + 1, s + np, by omega, by go_num, by go_num, by show _ = _; rw [HP.out, List.length_append, HSZ.out, HNP.out]⟩
   case measure => simp only [intOf]; omega
  ·obtain rfl : k = n := by omega
   have C := hid (grow_terms s w hs)
   go_wp2_with fail
   with_reducible refine C.out.mono ?_
   rintro e w1 ⟨v1, rfl, hown, hx1⟩
   have HW1 := hid hown
   have HX1 := hid hx1
   clear hown hx1
   go_wp2
   go_loopw [6, 8, 27] (fun o _ i wr => ∃ (j s : Nat) (xs : List Value), j ≤ k ∧ i = .int .i64 j ∧ Ext w wr ∧ Hid (s = (ls.take j).flatten.length) ∧ Hid (wr.ownsRow w.heap.size 49 3 o s xs) ∧ Hid (CellsT S wr xs (ls.take j).flatten)) (fun _ _ i _ => k - (intOf i).toNat)
   case atStart => exact ⟨0, 0, [], Nat.zero_le _, rfl, HX1.out, rfl, HW1.out, rfl⟩
   case round =>
    clear HSZ hs
    obtain ⟨j, s, xs, hj', rfl, hx, HSZ, HW, HY⟩ := hrel
    have hs : s ≤ 1000000000000 := by rw [HSZ.out]; exact Nat.le_trans (HFL.out j) hn
    have HX := hid hx
    by_cases hlt : j < k
    ·obtain ⟨p, hp⟩ := some_of_lt (l := ls) (j := j) (by rw [← HN.out]; exact hlt)
     obtain ⟨bl, off, vp, rfl, -, hn1, hm1, hSb, h1, h2⟩ := (H.out.ext hx hS).cellAt hp
     have HP := hid (flat_take hp)
     obtain ⟨ap, cp, rfl⟩ := h2.form
     obtain ⟨-, news, hc, hsrc⟩ := h2.src
     obtain ⟨np, hnp⟩ : ∃ m, m = p.length := ⟨_, rfl⟩
     rw [← hnp] at h1 hsrc
     have hs2 : s + np ≤ 1000000000000 := by
      have h3 := HFL.out (j + 1)
      rw [HP.out, List.length_append, ← HSZ.out, ← hnp] at h3
      exact Nat.le_trans h3 hn
     have HNP := hid hnp
     have HSRC := hid hsrc
     have HCN := hid hc
     clear h2 hp hnp hc hsrc hx
     go_wp2_with (at_builtin; refine wpList_append_src _ rfl (.tmp 31) (.tmp 32) 23 rfl w.heap.size 49 j0 (.agg #[.bool false, .slice none 0 0, .slice none 0 0]) 3 56 Tryz.underlying23 hj jz0 jz1 jz2 rfl (by decide) _ s xs rfl HW.out ap np cp news rfl HSRC.out (by unfold maxLen; omega) (by omega) HX.out.size ?_; intro v2 w2 hown hg _; have HW2 := hid hown; have HG2 := hid hg; clear hown hg)
     go_roundw
     case rel =>
      refine ⟨j + 1, s + np, xs ++ news, by omega, by go_num, own_grown0 HX.out HW.out HG2.out, ?_, HW2.out, ?_⟩
      ·show _ = _; rw [HP.out, List.length_append, HSZ.out, HNP.out]
      ·show CellsT _ _ _ _
       rw [HP.out]
       exact (own_kept_grown hS HX.out.size HY.out HW.out HG2.out).append (own_kept_grown hS HX.out.size HCN.out HW.out HG2.out)
     case measure => simp only [intOf]; omega
    ·obtain rfl : j = k := by omega
     have HE : Hid (ls.take j = ls) := hid (List.take_of_length_le (by rw [← HN.out]; exact Nat.le_refl _))
     clear hx
     go_wp2
     go_ret
     have h1 := HW.out
     have h2 := HY.out
     have h3 := HSZ.out
     rw [HE.out] at h2 h3
     rw [h3] at h1
     exact ⟨_, xs, rfl, h1, h2, HX.out⟩
end
section
open Go.RowKit Go.Sort
abbrev NewBut (a b : World) (B : Nat) : Nat → Prop := fun k => (a.heap.size ≤ k ∧ k < b.heap.size) ∧ k ≠ B
def toQ {S : Nat → Prop} {w : World} (q : List (TermIn S w)) : PZ := toP (q.map (·.t))
theorem poly_collect {S : Nat → Prop} (v : Value) (ts : List RTerm) (w : World) (L : Nat) (h : Terms S w v ts) (hS : ∀ k, S k → k < w.heap.size) (hm : ∀ t ∈ ts, mayM t.m = true) (hr : ∀ t ∈ ts, t.c.mag.length ≤ L) (hL : L ≤ 10000000000) (hn : ts.length ≤ 1000000000000) :
  Calls Tryz.prog 155 #[v] w fun e w' => ∃ v', e = .returned v' ∧ Terms (New w w') w' v' (ofP (normP (toP ts))) ∧ Ext w w' := by
 obtain ⟨j0, hj, jz0, jz1, jz2⟩ := info_parts Tryz.infoTerm
 have H := hid h
 have HMAY := hid hm
 have HR := hid hr
 have HC := hid (clone_terms v ts w h hS hn)
 obtain ⟨a, cap, rfl⟩ := h.form
 clear h hm hr
 go_enter Tryz.func155, Tryz.ntmps155
 go_wp2_with fail
 with_reducible refine HC.out.mono ?_
 rintro e w1 ⟨v1, xs, rfl, hown, hcells, hx1⟩
 have HOWN := hid hown
 have HX1 := hid hx1
 have HCE := hid hcells
 obtain ⟨d, hd1, hd2⟩ := cells_terms hcells HMAY.out
 clear hcells hx1
 rcases hown.2 with ⟨rfl, h0⟩ | ⟨g, cap', cur, rfl, hg, hgg, hnc, hcm, hsz, hcur⟩
 ·obtain rfl : ts = [] := List.length_eq_zero_iff.1 h0
  clear hown h0 hd1 hd2
  go_wp2_with fail
  with_reducible refine (sort_none_t _ _ _).mono ?_
  rintro e w2 ⟨rfl, rfl⟩
  go_wp2
  refine wp_loop_rounds 1 ?_
  rw [rounds_succ]
  go_wp2
  go_ret
  exact ⟨_, rfl, Terms.nilv _ _ _ _ (by decide), HX1.out⟩
 ·obtain ⟨n, hnn⟩ : ∃ n, n = ts.length := ⟨_, rfl⟩
  rw [← hnn] at hown ⊢
  have hnd : n = d.length := by rw [hnn, ← hd1]; simp
  obtain ⟨hsa, hc1, hc2⟩ := own_sortAt hown hd2 hnd
  have hSg : ∀ k, S k → k < w1.heap.size ∧ k ≠ g := fun k hk => ⟨Nat.lt_of_lt_of_le (hS k hk) HX1.out.size, by have := hS k hk; omega⟩
  have HSG := hid hSg
  have hn' : n ≤ 1000000000000 := by omega
  have C := hid (sort_t (tc := fun x : TermIn S w1 => x.c) (cf := fallC) (le := fallL) (cap := cap') d w1 (collect_order hSg) fall_le hnd hsa hc1 hn')
  have HD1 := hid hd1
  have HND := hid hnd
  have HGW : Hid (w.heap.size ≤ g) := hid hg
  unfold maxLen at hc2
  have HNN := hid hnn
  clear hown hd1 hd2 hnd hsa hSg hg hgg hnc hcm hsz hcur hnn
  go_wp2_with fail
  with_reducible refine C.out.mono ?_
  rintro e w2 ⟨rfl, hs2⟩
  have hk2 : Kept S w w2 := (Kept.ext HX1.out hS).trans (Kept.grown hs2.grown (fun k hk => ⟨(HSG.out k hk).1, fun e => (HSG.out k hk).2 (Option.some.inj e)⟩))
  have hx2 : Ext w w2 := ext_grown HX1.out hs2.grown (fun k hk => by
   have : g = k := Option.some.inj hk
   have := HGW.out
   omega)
  have HS2 := hid hs2
  have HX2 := hid hx2
  have HKS : Hid (∀ W, Ext w2 W → Kept S w1 W ∧ ∀ k, S k → k < W.heap.size) := hid (fun W hW =>
   ⟨Kept.grown (grown_ext hs2.grown hW) (fun k hk => ⟨(HSG.out k hk).1, fun e => (HSG.out k hk).2 (Option.some.inj e)⟩), fun k hk => Nat.lt_of_lt_of_le (hS k hk) (hx2.trans hW).size⟩)
  have hp := sortL_perm (le := fallL) d
  have hso := sorted_by (sortL_sorted (fall_le (S := S) (w := w1)).total d)
  have hle := sortL_len (le := fallL) d
  generalize sortL fallL d = q at *
  have HP := hid hp
  have HSO := hid hso
  have HQN : Hid (n = q.length) := hid (by rw [hle]; exact HND.out)
  clear hp hso hle hs2 hk2 hx2
  go_wp2
  go_loopw [0, 2, 3, 4] (fun l p _ _ wr => ∃ (q1 q2 : List (TermIn S w1)) (A : Option Addr) (m cl k : Nat) (ys : List Value) (ps : PZ), Hid (q = q1 ++ q2) ∧ l = .slice A m cl ∧ Hid (m = q2.length) ∧ Hid (0 < m → A = some ⟨g, q1.length * 3, none⟩) ∧ m ≤ cl ∧ cl ≤ 9223372036854775807 ∧ Ext w2 wr ∧ Hid (wr.ownsRow w2.heap.size 49 3 p k ys) ∧ Hid (CellsT (NewOff w2 wr p) wr ys (ofP ps)) ∧ Hid (k = ps.length) ∧ Hid (∀ z, Coll (toQ q2) z → Coll (toQ q) (ps ++ z)) ∧ k ≤ q1.length) (fun l _ _ _ _ => sliceLen l)
  case atStart => exact ⟨[], q, _, n, cap', 0, [], [], rfl, rfl, HQN.out, fun _ => by simp, hc1, by omega, Ext.refl _, World.ownsRow_nil _ _ _ _, rfl, rfl, fun z hz => by simpa using hz, Nat.zero_le _⟩
  case round =>
   obtain ⟨q1, q2, A, m, cl, k, ys, ps, HQ, rfl, HMQ, HA, hmc, hcl, hx, HW, HY, HKK, HCO, hkq⟩ := hrel
   have HX := hid hx
   clear hx
   generalize wr = w4 at *
   cases q2 with
   | nil =>
    obtain rfl : m = 0 := HMQ.out
    have HF : Hid (ps = normP (toP ts)) := hid (by
     have h1 := HCO.out [] .nil
     rw [List.append_nil] at h1
     refine h1.norm ?_ ?_ ?_
     ·intro u hu
      obtain ⟨t, ht, rfl⟩ := List.mem_map.1 hu
      obtain ⟨y, -, rfl⟩ := List.mem_map.1 ht
      exact y.may
     ·unfold toQ toP
      rw [List.pairwise_map]
      exact HSO.out
     ·rw [← HD1.out]
      exact (HP.out.map _).map _)
    go_wp2
    go_ret
    refine ⟨_, rfl, ?_, HX2.out.trans HX.out⟩
    have hc := HY.out
    rw [HF.out] at hc
    have ho := HW.out
    rw [HKK.out, HF.out] at ho
    exact own_terms (by rw [ofP_length]; exact ho) (hc.to (Kept.refl _ _) (fun _ h => ⟨Nat.le_trans HX2.out.size h.1.1, h.1.2⟩)) (fun k h1 h2 => ⟨Nat.le_trans HX2.out.size h1, h2⟩)
   | cons x r =>
    obtain ⟨m, rfl⟩ : ∃ m', m = m' + 1 := ⟨m - 1, by have := HMQ.out; simp at this; omega⟩
    obtain rfl : A = some ⟨g, q1.length * 3, none⟩ := HA.out (by omega)
    have HXS := hid (HS2.out.later HX.out)
    have hq1 : q[q1.length]? = some x := by rw [HQ.out]; exact at_len _ _ _
    obtain ⟨⟨c0, c1, c2⟩, -⟩ := HXS.out.get3 hq1
    simp only [Nat.zero_add] at c0 c1 c2
    have HMR : Hid (m = r.length) := hid (by have := HMQ.out; simpa using this)
    have HLX : Hid (∀ y ∈ q, y.t.c.mag.length ≤ L) := hid (fun y hy => by
     refine HR.out _ ?_
     rw [← HD1.out]
     exact List.mem_map_of_mem (HP.out.mem_iff.1 hy))
    have HXQ : Hid (x ∈ q) := hid (by rw [HQ.out]; simp)
    have CA := hid (whole_add (S := S) (.agg #[.bool x.c.neg, .slice x.c.ma x.c.mn x.c.mc]) _ x.t.c ⟨false, []⟩ w4 ⟨_, by rw [x.neg], x.hm.to (HKS.out w4 HX.out).1 (fun _ h => h)⟩ (zero_int _ _) (HKS.out w4 HX.out).2 (by have := HLX.out x HXQ.out; omega) (by decide))
    clear hq1 HMQ HA
    go_wp2_with fail
    with_reducible refine CA.out.mono ?_
    rintro e w3 ⟨vc, rfl, ⟨vm3, rfl, hu3⟩, hx3⟩
    rw [valI_zeroI, Int.add_zero] at hu3 ⊢
    obtain ⟨am, cm, rfl⟩ := hu3.form
    obtain ⟨z0, hz0⟩ : ∃ z, z = valI x.t.c := ⟨_, rfl⟩
    rw [← hz0] at hu3 ⊢
    have HX3 := hid hx3
    have HU3 := hid hu3
    have HZ0 := hid hz0
    have HBX : Hid (w4.heap.size ≤ w3.heap.size) := hid hx3.size
    clear hu3 hx3 hz0
    obtain ⟨ng0, hng0⟩ : ∃ b, b = (ofI z0).neg := ⟨_, rfl⟩
    obtain ⟨nl0, hnl0⟩ : ∃ b, b = (ofI z0).mag.length := ⟨_, rfl⟩
    rw [← hng0, ← hnl0]
    rw [← hnl0] at HU3
    have HNG0 := hid hng0
    have HNL0 := hid hnl0
    clear hng0 hnl0
    have HU4 : Hid (U32s (NewBut w4 (w3.alloc (.cells #[.bool ng0, .slice am nl0 cm] 26)) w3.heap.size) (w3.alloc (.cells #[.bool ng0, .slice am nl0 cm] 26)) (.slice am nl0 cm) (ofI z0).mag) := hid (HU3.out.to (Kept.alloc (fun k hk => hk.2) _) (fun k hk => ⟨⟨hk.1, by rw [size_alloc]; have := hk.2; omega⟩, by have := hk.2; omega⟩))
    have HX4 := hid (HX3.out.alloc (.cells #[.bool ng0, .slice am nl0 cm] 26))
    obtain ⟨k0, k1, k2, k3⟩ := new2 (Ext.refl (w3.alloc (.cells #[.bool ng0, .slice am nl0 cm] 26)))
    have HK4 := hid (And.intro k0 (And.intro k1 (And.intro k2 k3)))
    clear k0 k1 k2 k3
    go_wp2
    go_loopw [3] (fun nn wx => ∃ (r1 r2 : List (TermIn S w1)) (cn : Nat) (z : Int) (ng : Bool) (am : Option Addr) (nl cm : Nat), Hid (r = r1 ++ r2) ∧ nn = .int .i64 cn ∧ Hid (cn = r1.length + 1) ∧ cn ≤ m + 1 ∧ Hid (∀ y ∈ r1, y.t.m = x.t.m) ∧ Hid (z = valI x.t.c + sumP (toQ r1)) ∧ Hid (ng = (ofI z).neg) ∧ Hid (nl = (ofI z).mag.length) ∧ Ext w4 wx ∧
     wx.cell? ⟨w3.heap.size, 0, none⟩ = some (.bool ng) ∧ wx.cell? ⟨w3.heap.size, 1, none⟩ = some (.slice am nl cm) ∧ wx.frozen? ⟨w3.heap.size, 0, none⟩ = false ∧ wx.frozen? ⟨w3.heap.size, 1, none⟩ = false ∧ Hid (U32s (NewBut w4 wx w3.heap.size) wx (.slice am nl cm) (ofI z).mag)) (fun nn _ => m + 1 - (intOf nn).toNat)
    case atStart => exact ⟨[], r, 1, z0, ng0, am, nl0, cm, rfl, rfl, rfl, by omega, fun y hy => by simp at hy, by show _ = _; rw [HZ0.out]; simp [toQ, toP, sumP], HNG0.out, HNL0.out, HX4.out, HK4.out.1, HK4.out.2.1, HK4.out.2.2.1, HK4.out.2.2.2, HU4.out⟩
    case round =>
     clear HU4 HX4 HK4 HNG0 HNL0 HZ0 HU3 CA
     obtain ⟨r1, r2, cn, z, ng, am, nl, cm, HR12, rfl, HCN, hrm, HSM, HZ, HNG, HNL, hx5, k0, k1, k2, k3, HU5⟩ := hrel
     have HX5 := hid hx5
     have HX25 := hid (HX.out.trans hx5)
     have d0 := hx5.cell c0
     have d1 := hx5.cell c1
     have d2 := hx5.cell c2
     have HKC := hid (And.intro k0 (And.intro k1 (And.intro k2 k3)))
     have HD0 := hid (And.intro d0 (And.intro d1 d2))
     clear hx5
     cases r2 with
     | nil =>
      have hcm : cn = m + 1 := by rw [HCN.out, HMR.out, HR12.out]; simp
      have q1' : decide ((cn : Int) < (m : Int) + 1) = false := decide_eq_false (by omega)
      have HEX : Hid (∀ u ∈ (toQ ([] : List (TermIn S w1))).head?, u.2 ≠ x.t.m) := hid (fun u hu => by simp [toQ, toP] at hu)
      clear hcm
      go_wp2
      refine wp_region_later (by kernel_rfl) (by kernel_rfl) ?_
      repeat (go_big_quiet_step (fail))
      refine wpQuiet_nil ?_
      intro W2 hW2
      have HW2 := hid hW2
      clear q1'
      have HBL : Hid (w3.heap.size < wr.heap.size) := hid (lt_of_cell k0)
      have hk0 := hW2.cell k0
      have hk1 := hW2.cell k1
      have HLZ : Hid ((ofI z).mag.length ≤ 40000000000000) := hid (by
       rw [ofI_len, HZ.out]
       refine Nat.le_trans (sum_len (k := L) ?_ ?_ ?_) (by omega)
       ·exact lenI_mono (valI_len x.hm.lt) (HLX.out x HXQ.out)
       ·intro u hu
        obtain ⟨t, ht, rfl⟩ := List.mem_map.1 hu
        obtain ⟨y', hy', rfl⟩ := List.mem_map.1 ht
        exact lenI_mono (valI_len y'.hm.lt) (HLX.out y' (by rw [HQ.out, HR12.out]; simp [hy']))
       ·have h1 := HMR.out
        have h2 := HQN.out
        rw [HQ.out] at h2
        rw [HR12.out] at h1 h2
        have hB2 : B32 ^ 2 = 18446744073709551616 := by decide
        rw [hB2]
        simp [toQ, toP] at h1 h2 ⊢
        omega)
      have HMC : Hid (m + 1 - cn = ([] : List (TermIn S w1)).length ∧ cn = r1.length + 1) := hid (by
       have h1 := HMR.out
       rw [HR12.out] at h1
       have h2 := HCN.out
       simp at h1 ⊢
       omega)
      have HCOL : Hid (∀ z', Coll (toQ ([] : List (TermIn S w1))) z' → Coll (toQ (x :: r)) (oneP z x.t.m ++ z')) := hid (fun z' hz' => by
       have h1 := Coll.group (valI x.t.c, x.t.m) (toQ r1) (toQ ([] : List (TermIn S w1))) z' (fun u hu => by
        obtain ⟨t, ht, rfl⟩ := List.mem_map.1 hu
        obtain ⟨y', hy', rfl⟩ := List.mem_map.1 ht
        exact HSM.out y' hy') HEX.out hz'
       rw [HZ.out, HR12.out]
       have e : toQ (x :: (r1 ++ ([] : List (TermIn S w1)))) = (valI x.t.c, x.t.m) :: toQ r1 ++ toQ ([] : List (TermIn S w1)) := by simp [toQ, toP]
       rw [e]
       exact h1)
      have CS := hid (whole_sign (S := NewBut w4 wr w3.heap.size) (.agg #[.bool ng, .slice am nl cm]) (ofI z) W2 ⟨_, by rw [HNG.out], HU5.out.to (Kept.ext hW2 (fun k hk => hk.1.2)) (fun _ h => h)⟩ (fun k hk => Nat.lt_of_lt_of_le hk.1.2 hW2.size) (by have := HLZ.out; omega))
      have HD2 := hid (And.intro (hW2.cell d0) (And.intro (hW2.cell d1) (hW2.cell d2)))
      have hsgv : signI (valI (ofI z)) = signI z := by rw [valI_ofI]
      clear k0 k1 k2 k3 d0 d1 d2 hW2
      go_wp2_with fail
      with_reducible refine CS.out.mono ?_
      rw [hsgv]
      rintro e w6 ⟨rfl, hx6⟩
      have HX6 := hid (HW2.out.trans hx6)
      obtain ⟨sg, hsg⟩ : ∃ s, s = signI z := ⟨_, rfl⟩
      rw [← hsg]
      have hsr : -1 ≤ sg ∧ sg ≤ 1 := by rw [hsg]; unfold signI; rcases cmpI_cases z 0 with h | h | h <;> omega
      obtain ⟨hsr1, hsr2⟩ := hsr
      have HSG2 := hid hsg
      have hk0' := hx6.cell hk0
      have hk1' := hx6.cell hk1
      have hcm1 : cn ≤ m + 1 := hrm
      by_cases hz : z = 0
      ·have hb : (sg != 0) = false := by rw [hsg, hz]; decide
       have HZZ := hid hz
       clear hk0 hk1 hsgv hsg hz hx6
       go_wp2
       go_roundw
       case rel =>
        refine ⟨q1 ++ x :: r1, ([] : List (TermIn S w1)), _, m + 1 - cn, cl - cn, k, ys, ps, ?_, rfl, HMC.out.1, ?_, by omega, by omega, HX.out.trans (HX5.out.trans HX6.out), own_ext HW.out (HX5.out.trans HX6.out), newOff_ext HY.out (HX5.out.trans HX6.out), HKK.out, fun z' hz' => ?_, ?_⟩
        ·show _ = _; rw [HQ.out, HR12.out]; simp
        ·intro h
         have h2 := HMC.out.2
         try rw [if_neg (by omega)]
         congr 2
         simp
         omega
        ·have h1 := HCOL.out z' hz'
         rw [HZZ.out] at h1
         exact HCO.out z' h1
        ·simp; omega
       case measure => have h2 := HMC.out.2; simp only [sliceLen]; omega
      ·have hb : (sg != 0) = true := by
        rw [hsg, bne_iff_ne]
        unfold signI cmpI
        split <;> (try split) <;> omega
       clear hk0 hk1 hsgv hsg hx6
       have hx40 : Ext w4 w6 := HX5.out.trans HX6.out
       have HX40 := hid hx40
       have HXR := hid ((Ext.refl w6).drew)
       have HXD := hid hx40.drew
       have S0 : _ ∧ _ ∧ _ := And.intro (HXR.out.cell hk0') (And.intro (HXR.out.cell hk1') ((hx40.drew).cell c2))
       have HU7 : Hid (∀ W, Ext w6 W → U32s (NewBut w4 W w3.heap.size) W (.slice am nl cm) (ofI z).mag) := hid (fun W hW => HU5.out.to (Kept.ext (HX6.out.trans hW) (fun k hk => hk.1.2)) (fun k hk => ⟨⟨hk.1.1, Nat.lt_of_lt_of_le hk.1.2 (HX6.out.trans hW).size⟩, hk.2⟩))
       have CCL := hid (clone_mono (S := S) (.slice x.c.oa x.c.on x.c.oc) x.t.m w6.drew (x.ho.to (HKS.out _ (HX.out.trans HXD.out)).1 (fun _ h => h)) (HKS.out _ (HX.out.trans HXD.out)).2 (Nat.le_trans (mayM_len x.may) (by decide)))
       have HWR := hid (own_ext HW.out HXD.out)
       have HYR := hid (newOff_ext HY.out HXD.out)
       have HKC6 := hid (And.intro hk0' hk1')
       have HB3 : Hid (k + 1 ≤ maxLen) := hid (by have h1 := HQN.out; rw [HQ.out] at h1; simp at h1; unfold maxLen; omega)
       have HB4 : Hid ((k + 1) * 56 ≤ 140737488355328) := hid (by have h1 := HQN.out; rw [HQ.out] at h1; simp at h1; omega)
       have HXDD := hid (HX.out.trans HXD.out)
       clear hx40 hk0' hk1'
       have HKB : Hid (some w3.heap.size ≠ u2.ownBlock) := hid (fun e => by have h1 := (HW.out.lt _ e.symm).2; have h2 := HBX.out; omega)
       have HKG : Hid (some g ≠ u2.ownBlock) := hid (fun e => by have h1 := (HW.out.lt _ e.symm).1; have h2 := HS2.out.old; have h3 := HS2.out.grown.size; omega)
       have hcn : 0 < m + 1 := Nat.succ_pos m
       go_wp2_with fail
       go_region_held3 (fun W => W.cell? ⟨w3.heap.size, 0, none⟩ = some (.bool ng) ∧ W.cell? ⟨w3.heap.size, 1, none⟩ = some (.slice am nl cm) ∧ W.cell? ⟨g, q1.length * 3 + 2, none⟩ = some (.slice x.c.oa x.c.on x.c.oc)) (first | exact S0 | exact S7 | exact ⟨cell_old _ S7.1, cell_old _ S7.2.1, cell_old _ S7.2.2⟩ | exact S9)
        (first
         | (go_at_call 70; (with_reducible refine CCL.out.mono ?_); rintro e w7 ⟨v7, rfl, hp7, hx7⟩; have HX7 := hid hx7; have S7 : _ ∧ _ ∧ _ := And.intro (HX7.out.cell S0.1) (And.intro (HX7.out.cell S0.2.1) (HX7.out.cell S0.2.2)); have HP7 := hid hp7; obtain ⟨a7, c7, rfl⟩ := hp7.form; obtain ⟨n7, hn7⟩ : ∃ n, n = x.t.m.length := ⟨_, rfl⟩; rw [← hn7]; rw [← hn7] at HP7; have HN7 := hid hn7
            have HW7 := hid (own_ext (own_ext HWR.out HX7.out) (Ext.alloc (Ext.refl w7) (.cells #[.bool ng, .slice am nl cm, .slice a7 n7 c7] 49))); have HY7 := hid (newOff_ext (newOff_ext HYR.out HX7.out) (Ext.alloc (Ext.refl w7) (.cells #[.bool ng, .slice am nl cm, .slice a7 n7 c7] 49))); have HSRC7 := hid (src_one w7 #[.bool ng, .slice am nl cm, .slice a7 n7 c7] 49 (three_cell rfl rfl rfl) rfl); have HB5 := hid (Nat.le_trans (HXDD.out.trans HX7.out).size (World.grownBy_alloc w7 (.cells #[.bool ng, .slice am nl cm, .slice a7 n7 c7] 49) none).size); have HX27 := hid ((HXDD.out.trans HX7.out).alloc (.cells #[.bool ng, .slice am nl cm, .slice a7 n7 c7] 49)); have HC7 := hid (And.intro (cell_old (.cells #[.bool ng, .slice am nl cm, .slice a7 n7 c7] 49) S7.1) (And.intro (cell_old (.cells #[.bool ng, .slice am nl cm, .slice a7 n7 c7] 49) S7.2.1) (cell_old (.cells #[.bool ng, .slice am nl cm, .slice a7 n7 c7] 49) S7.2.2))); clear hx7 hp7 hn7)
         | (refine step_append_src rfl (.tmp 47) (.tmp 55) 23 rfl w2.heap.size 49 j0 (.agg #[.bool false, .slice none 0 0, .slice none 0 0]) 3 56 Tryz.underlying23 hj jz0 jz1 jz2 rfl (Nat.succ_pos _) _ k ys rfl HW7.out (some ⟨w7.heap.size, 0, none⟩) 1 1 _ rfl HSRC7.out HB3.out HB4.out HB5.out ?_; intro v9 w9 hown hg hbk; have HW9 := hid hown; have HG9 := hid hg; have HBK := hid hbk; have HX9 := hid (own_grown0 HX27.out HW7.out hg); have S9 : _ ∧ _ ∧ _ := And.intro (hg.cell HC7.out.1 HKB.out) (And.intro (hg.cell HC7.out.2.1 HKB.out) (hg.cell HC7.out.2.2 HKG.out)); clear hown hg hbk))
       all_goals
        go_wp2
        go_roundw
        case rel =>
         refine ⟨q1 ++ x :: r1, ([] : List (TermIn S w1)), _, m + 1 - cn, cl - cn, k + 1, ys ++ (#[.bool ng, .slice am nl cm, .slice a7 n7 c7] : Array Value).toList, ps ++ [(z, x.t.m)], ?_, rfl, HMC.out.1, ?_, by omega, by omega, HX9.out, HW9.out, ?_, ?_, fun z' hz' => ?_, ?_⟩
         ·show _ = _; rw [HQ.out, HR12.out]; simp
         ·intro h
          have h2 := HMC.out.2
          try rw [if_neg (by omega)]
          congr 2
          simp
          omega
         ·have hone : CellsT (NewOff w2 (w7.alloc (.cells #[.bool ng, .slice am nl cm, .slice a7 n7 c7] 49)) u2) (w7.alloc (.cells #[.bool ng, .slice am nl cm, .slice a7 n7 c7] 49)) (#[.bool ng, .slice am nl cm, .slice a7 n7 c7] : Array Value).toList [⟨ofI z, x.t.m⟩] := by
           rw [HNG.out]
           refine CellsT.single (t := ⟨ofI z, x.t.m⟩) ((HU7.out _ ((HXR.out.trans HX7.out).alloc _)).to (Kept.refl _ _) (fun j hj => ⟨⟨Nat.le_trans HX.out.size hj.1.1, hj.1.2⟩, fun e => ?_⟩)) ((HP7.out.ext (Ext.alloc (Ext.refl w7) _) (fun j hj => hj.2)).to (Kept.refl _ _) (fun j hj => ⟨⟨Nat.le_trans (HX.out.trans HX40.out).size hj.1, by rw [size_alloc]; have := hj.2; omega⟩, fun e => ?_⟩))
           ·have h1 := (HW.out.lt _ e.symm).2
            have h2 := hj.1.1
            omega
           ·have h1 := (HW.out.lt _ e.symm).2
            have h2 := hj.1
            have h3 := HX40.out.size
            simp at h2
            omega
          have hall := HY7.out.append hone
          have e : ofP (ps ++ [(z, x.t.m)]) = ofP ps ++ [⟨ofI z, x.t.m⟩] := by unfold ofP; rw [List.map_append]; rfl
          show CellsT _ _ _ _
          rw [e]
          exact newOff_grown hall HG9.out HBK.out (Nat.le_refl _)
         ·show _ = _; rw [HKK.out]; simp
         ·have h1 := HCO.out _ (HCOL.out z' hz')
          rw [show oneP z x.t.m = [(z, x.t.m)] by unfold oneP; rw [if_neg hz]] at h1
          simpa using h1
         ·simp; omega
        case measure => have h2 := HMC.out.2; simp only [sliceLen]; omega
     | cons y r2 =>
      have hcm : cn < m + 1 := by rw [HCN.out, HMR.out, HR12.out]; simp
      have q1' : decide ((cn : Int) < (m : Int) + 1) = true := decide_eq_true (by omega)
      have q2' : (cn : Int) < (m : Int) + 1 := by omega
      have q3' : (0 : Int) ≤ (cn : Int) := by omega
      have hyq : q[q1.length + cn]? = some y := by
       rw [HCN.out, HQ.out, HR12.out, show q1 ++ x :: (r1 ++ y :: r2) = (q1 ++ x :: r1) ++ y :: r2 by simp, show q1.length + (r1.length + 1) = (q1 ++ x :: r1).length by simp]
       exact at_len _ _ _
      have L0 := fun Y : Later wr => ((HS2.out.later (HX25.out.trans Y.h)).get3 hyq).1
      simp only [Nat.zero_add, Nat.add_mul] at L0
      have LX := fun Y : Later wr => Y.h.cell d2
      have a2 := fun Y => (L0 Y).2.2
      have HYC := hid (fun W (hW : Ext wr W) => L0 ⟨W, hW⟩)
      have hod := orderM_may y.may x.may
      have CO := hid (fun Y : Later wr => poly_order (S := S) (.slice y.c.oa y.c.on y.c.oc) (.slice x.c.oa x.c.on x.c.oc) y.t.m x.t.m Y.w' (y.ho.to (HKS.out _ (HX25.out.trans Y.h)).1 (fun _ h => h)) (x.ho.to (HKS.out _ (HX25.out.trans Y.h)).1 (fun _ h => h)) (HKS.out _ (HX25.out.trans Y.h)).2)
      obtain ⟨od1, od2⟩ := orderM_range y.t.m x.t.m
      have HOD := hid hod
      generalize orderM y.t.m x.t.m = od at *
      clear hod L0 hyq
      by_cases h0 : od = 0
      ·have h0b : (od == 0) = true := by rw [beq_iff_eq]; exact h0
       have H0 := hid h0
       clear h0
       go_wp2
       refine wp_region_later (by kernel_rfl) (by kernel_rfl) ?_
       repeat (go_big_quiet_step (first | (go_at_call 66; exact Later.done (CO.out _))))
       refine wpQuiet_nil ?_
       intro W2 hW2
       have HW2 := hid hW2
       have HBL : Hid (w3.heap.size < wr.heap.size) := hid (lt_of_cell k0)
       have HLZ : Hid ((ofI z).mag.length ≤ 40000000000000) := hid (by
        rw [ofI_len, HZ.out]
        refine Nat.le_trans (sum_len (k := L) ?_ ?_ ?_) (by omega)
        ·exact lenI_mono (valI_len x.hm.lt) (HLX.out x HXQ.out)
        ·intro u hu
         obtain ⟨t, ht, rfl⟩ := List.mem_map.1 hu
         obtain ⟨y', hy', rfl⟩ := List.mem_map.1 ht
         exact lenI_mono (valI_len y'.hm.lt) (HLX.out y' (by rw [HQ.out, HR12.out]; simp [hy']))
        ·have h1 := HMR.out
         have h2 := HQN.out
         rw [HQ.out] at h2
         rw [HR12.out] at h1 h2
         have hB2 : B32 ^ 2 = 18446744073709551616 := by decide
         rw [hB2]
         simp [toQ, toP] at h1 h2 ⊢
         omega)
       have CA2 := hid (fun W (hW : Ext W2 W) => whole_add (S := fun k => S k ∨ NewBut w4 wr w3.heap.size k) (.agg #[.bool ng, .slice am nl cm]) (.agg #[.bool y.c.neg, .slice y.c.ma y.c.mn y.c.mc]) (ofI z) y.t.c W ⟨_, by rw [HNG.out], HU5.out.to (Kept.ext (HW2.out.trans hW) (fun k hk => hk.1.2)) (fun k hk => .inr hk)⟩ ⟨_, by rw [y.neg], y.hm.to (HKS.out _ (HX25.out.trans (HW2.out.trans hW))).1 (fun k hk => .inl hk)⟩ (fun k hk => by
        rcases hk with hk | hk
        ·exact (HKS.out _ (HX25.out.trans (HW2.out.trans hW))).2 k hk
        ·exact Nat.lt_of_lt_of_le hk.1.2 (HW2.out.trans hW).size) HLZ.out (by have := HLX.out y (by rw [HQ.out, HR12.out]; simp); omega))
       have hd := hW2.drew
       have s0 := hW2.cell k0
       have s1 := hW2.cell k1
       obtain ⟨s2, s3, -⟩ := HYC.out _ hW2
       have HFR := hid (fun W (hW : Ext wr W) => And.intro (hW.cell k0) (And.intro (hW.cell k1) (And.intro (hW.free HBL.out k2) (hW.free HBL.out k3))))
       have HWD := hid hd
       have HX20 := hid ((Ext.refl W2).drew)
       clear a2 LX k0 k1 k2 k3 d0 d1 d2 CO hW2 hd q1' q2' q3'
       have q2' : (cn : Int) < (m : Int) + 1 := by omega
       have q3' : (0 : Int) ≤ (cn : Int) := by omega
       go_wp2_with fail
       go_region_with (first
         | (go_at_call 164; (with_reducible refine (CA2.out _ HX20.out).mono ?_); rintro e w5 ⟨v5, rfl, ⟨vm5, rfl, hu5⟩, hx5⟩; have HX5' := hid (HWD.out.trans hx5); obtain ⟨e0, e1, e2, e3⟩ := HFR.out _ HX5'.out; rw [valI_ofI] at hu5 ⊢; have HU6 := hid hu5; obtain ⟨am5, cm5, rfl⟩ := hu5.form; obtain ⟨ng5, hng5⟩ : ∃ b, b = (ofI (z + valI y.t.c)).neg := ⟨_, rfl⟩; obtain ⟨nl5, hnl5⟩ : ∃ b, b = (ofI (z + valI y.t.c)).mag.length := ⟨_, rfl⟩; rw [← hng5, ← hnl5]; rw [← hnl5] at HU6; have HNG5 := hid hng5; have HNL5 := hid hnl5; have HE5 := hid (And.intro e0 (And.intro e1 (And.intro e2 e3))); have HX55 := hid hx5; clear hu5 hx5 hng5 hnl5))
       all_goals
        go_wp2
        go_roundw
        case rel =>
         refine ⟨r1 ++ [y], r2, cn + 1, z + valI y.t.c, ng5, am5, nl5, cm5, ?_, by go_num, ?_, by omega, ?_, ?_, HNG5.out, HNL5.out, HX5.out.trans ((Ext.refl wr).trans (HX5'.out)) |>.set2 HBX.out _ _, (two_set _ _ HE5.out.1 HE5.out.2.1).1, (two_set _ _ HE5.out.1 HE5.out.2.1).2, free_set (free_set HE5.out.2.2.1), free_set (free_set HE5.out.2.2.2), ?_⟩
         ·show _ = _; rw [HR12.out]; simp
         ·show _ = _; rw [HCN.out]; simp
         ·intro u hu
          rcases List.mem_append.1 hu with hu | hu
          ·exact HSM.out u hu
          ·rw [List.mem_singleton.1 hu]
           have h1 := HOD.out
           rw [H0.out] at h1
           exact (compareM_zero y.may x.may).1 h1.symm
         ·show _ = _
          rw [HZ.out, show toQ (r1 ++ [y]) = toQ r1 ++ [(valI y.t.c, y.t.m)] by simp [toQ, toP], sumP_snoc]
          simp only
          omega
         ·refine hid (HU6.out.to (Kept.set2 (fun h => ?_) _ _) (fun k hk => ⟨⟨?_, ?_⟩, ?_⟩))
          ·have h1 := h.1
           have h2 := HW2.out.size
           have h3 := HBL.out
           simp at h1
           omega
          ·have h1 := hk.1
           have h2 := HW2.out.size
           have h3 := HX5.out.size
           simp at h1
           omega
          ·rw [size_set2]; exact hk.2
          ·have h1 := hk.1
           have h2 := HW2.out.size
           have h3 := HBL.out
           simp at h1
           omega
        case measure => simp only [intOf]; omega
      ·have h0b : (od == 0) = false := by rw [beq_eq_false_iff_ne]; exact h0
       have HEX : Hid (∀ u ∈ (toQ (y :: r2)).head?, u.2 ≠ x.t.m) := hid (fun u hu => by
        simp [toQ, toP] at hu
        subst hu
        intro e
        simp only at e
        have h1 := HOD.out
        rw [e, compareM_self _ x.may] at h1
        exact h0 h1)
       have H0 := hid h0
       clear h0
       go_wp2
       refine wp_region_later (by kernel_rfl) (by kernel_rfl) ?_
       repeat (go_big_quiet_step (first | (go_at_call 66; exact Later.done (CO.out _))))
       refine wpQuiet_nil ?_
       intro W2 hW2
       have HW2 := hid hW2
       clear a2 LX CO q1' q2' q3'
       have HBL : Hid (w3.heap.size < wr.heap.size) := hid (lt_of_cell k0)
       have hk0 := hW2.cell k0
       have hk1 := hW2.cell k1
       have HLZ : Hid ((ofI z).mag.length ≤ 40000000000000) := hid (by
        rw [ofI_len, HZ.out]
        refine Nat.le_trans (sum_len (k := L) ?_ ?_ ?_) (by omega)
        ·exact lenI_mono (valI_len x.hm.lt) (HLX.out x HXQ.out)
        ·intro u hu
         obtain ⟨t, ht, rfl⟩ := List.mem_map.1 hu
         obtain ⟨y', hy', rfl⟩ := List.mem_map.1 ht
         exact lenI_mono (valI_len y'.hm.lt) (HLX.out y' (by rw [HQ.out, HR12.out]; simp [hy']))
        ·have h1 := HMR.out
         have h2 := HQN.out
         rw [HQ.out] at h2
         rw [HR12.out] at h1 h2
         have hB2 : B32 ^ 2 = 18446744073709551616 := by decide
         rw [hB2]
         simp [toQ, toP] at h1 h2 ⊢
         omega)
       have HMC : Hid (m + 1 - cn = (y :: r2).length ∧ cn = r1.length + 1) := hid (by
        have h1 := HMR.out
        rw [HR12.out] at h1
        have h2 := HCN.out
        simp at h1 ⊢
        omega)
       have HCOL : Hid (∀ z', Coll (toQ (y :: r2)) z' → Coll (toQ (x :: r)) (oneP z x.t.m ++ z')) := hid (fun z' hz' => by
        have h1 := Coll.group (valI x.t.c, x.t.m) (toQ r1) (toQ (y :: r2)) z' (fun u hu => by
         obtain ⟨t, ht, rfl⟩ := List.mem_map.1 hu
         obtain ⟨y', hy', rfl⟩ := List.mem_map.1 ht
         exact HSM.out y' hy') HEX.out hz'
        rw [HZ.out, HR12.out]
        have e : toQ (x :: (r1 ++ (y :: r2))) = (valI x.t.c, x.t.m) :: toQ r1 ++ toQ (y :: r2) := by simp [toQ, toP]
        rw [e]
        exact h1)
       have CS := hid (whole_sign (S := NewBut w4 wr w3.heap.size) (.agg #[.bool ng, .slice am nl cm]) (ofI z) W2 ⟨_, by rw [HNG.out], HU5.out.to (Kept.ext hW2 (fun k hk => hk.1.2)) (fun _ h => h)⟩ (fun k hk => Nat.lt_of_lt_of_le hk.1.2 hW2.size) (by have := HLZ.out; omega))
       have HD2 := hid (And.intro (hW2.cell d0) (And.intro (hW2.cell d1) (hW2.cell d2)))
       have hsgv : signI (valI (ofI z)) = signI z := by rw [valI_ofI]
       clear k0 k1 k2 k3 d0 d1 d2 hW2
       go_wp2_with fail
       with_reducible refine CS.out.mono ?_
       rw [hsgv]
       rintro e w6 ⟨rfl, hx6⟩
       have HX6 := hid (HW2.out.trans hx6)
       obtain ⟨sg, hsg⟩ : ∃ s, s = signI z := ⟨_, rfl⟩
       rw [← hsg]
       have hsr : -1 ≤ sg ∧ sg ≤ 1 := by rw [hsg]; unfold signI; rcases cmpI_cases z 0 with h | h | h <;> omega
       obtain ⟨hsr1, hsr2⟩ := hsr
       have HSG2 := hid hsg
       have hk0' := hx6.cell hk0
       have hk1' := hx6.cell hk1
       have hcm1 : cn ≤ m + 1 := hrm
       by_cases hz : z = 0
       ·have hb : (sg != 0) = false := by rw [hsg, hz]; decide
        have HZZ := hid hz
        clear hk0 hk1 hsgv hsg hz hx6
        go_wp2
        go_roundw
        case rel =>
         refine ⟨q1 ++ x :: r1, (y :: r2), _, m + 1 - cn, cl - cn, k, ys, ps, ?_, rfl, HMC.out.1, ?_, by omega, by omega, HX.out.trans (HX5.out.trans HX6.out), own_ext HW.out (HX5.out.trans HX6.out), newOff_ext HY.out (HX5.out.trans HX6.out), HKK.out, fun z' hz' => ?_, ?_⟩
         ·show _ = _; rw [HQ.out, HR12.out]; simp
         ·intro h
          have h2 := HMC.out.2
          try rw [if_neg (by omega)]
          congr 2
          simp
          omega
         ·have h1 := HCOL.out z' hz'
          rw [HZZ.out] at h1
          exact HCO.out z' h1
         ·simp; omega
        case measure => have h2 := HMC.out.2; simp only [sliceLen]; omega
       ·have hb : (sg != 0) = true := by
         rw [hsg, bne_iff_ne]
         unfold signI cmpI
         split <;> (try split) <;> omega
        clear hk0 hk1 hsgv hsg hx6
        have hx40 : Ext w4 w6 := HX5.out.trans HX6.out
        have HX40 := hid hx40
        have HXR := hid ((Ext.refl w6).drew)
        have HXD := hid hx40.drew
        have S0 : _ ∧ _ ∧ _ := And.intro (HXR.out.cell hk0') (And.intro (HXR.out.cell hk1') ((hx40.drew).cell c2))
        have HU7 : Hid (∀ W, Ext w6 W → U32s (NewBut w4 W w3.heap.size) W (.slice am nl cm) (ofI z).mag) := hid (fun W hW => HU5.out.to (Kept.ext (HX6.out.trans hW) (fun k hk => hk.1.2)) (fun k hk => ⟨⟨hk.1.1, Nat.lt_of_lt_of_le hk.1.2 (HX6.out.trans hW).size⟩, hk.2⟩))
        have CCL := hid (clone_mono (S := S) (.slice x.c.oa x.c.on x.c.oc) x.t.m w6.drew (x.ho.to (HKS.out _ (HX.out.trans HXD.out)).1 (fun _ h => h)) (HKS.out _ (HX.out.trans HXD.out)).2 (Nat.le_trans (mayM_len x.may) (by decide)))
        have HWR := hid (own_ext HW.out HXD.out)
        have HYR := hid (newOff_ext HY.out HXD.out)
        have HKC6 := hid (And.intro hk0' hk1')
        have HB3 : Hid (k + 1 ≤ maxLen) := hid (by have h1 := HQN.out; rw [HQ.out] at h1; simp at h1; unfold maxLen; omega)
        have HB4 : Hid ((k + 1) * 56 ≤ 140737488355328) := hid (by have h1 := HQN.out; rw [HQ.out] at h1; simp at h1; omega)
        have HXDD := hid (HX.out.trans HXD.out)
        clear hx40 hk0' hk1'
        have HKB : Hid (some w3.heap.size ≠ u2.ownBlock) := hid (fun e => by have h1 := (HW.out.lt _ e.symm).2; have h2 := HBX.out; omega)
        have HKG : Hid (some g ≠ u2.ownBlock) := hid (fun e => by have h1 := (HW.out.lt _ e.symm).1; have h2 := HS2.out.old; have h3 := HS2.out.grown.size; omega)
        have hcn : 0 < m + 1 := Nat.succ_pos m
        go_wp2_with fail
        go_region_held3 (fun W => W.cell? ⟨w3.heap.size, 0, none⟩ = some (.bool ng) ∧ W.cell? ⟨w3.heap.size, 1, none⟩ = some (.slice am nl cm) ∧ W.cell? ⟨g, q1.length * 3 + 2, none⟩ = some (.slice x.c.oa x.c.on x.c.oc)) (first | exact S0 | exact S7 | exact ⟨cell_old _ S7.1, cell_old _ S7.2.1, cell_old _ S7.2.2⟩ | exact S9)
         (first
          | (go_at_call 70; (with_reducible refine CCL.out.mono ?_); rintro e w7 ⟨v7, rfl, hp7, hx7⟩; have HX7 := hid hx7; have S7 : _ ∧ _ ∧ _ := And.intro (HX7.out.cell S0.1) (And.intro (HX7.out.cell S0.2.1) (HX7.out.cell S0.2.2)); have HP7 := hid hp7; obtain ⟨a7, c7, rfl⟩ := hp7.form; obtain ⟨n7, hn7⟩ : ∃ n, n = x.t.m.length := ⟨_, rfl⟩; rw [← hn7]; rw [← hn7] at HP7; have HN7 := hid hn7
             have HW7 := hid (own_ext (own_ext HWR.out HX7.out) (Ext.alloc (Ext.refl w7) (.cells #[.bool ng, .slice am nl cm, .slice a7 n7 c7] 49))); have HY7 := hid (newOff_ext (newOff_ext HYR.out HX7.out) (Ext.alloc (Ext.refl w7) (.cells #[.bool ng, .slice am nl cm, .slice a7 n7 c7] 49))); have HSRC7 := hid (src_one w7 #[.bool ng, .slice am nl cm, .slice a7 n7 c7] 49 (three_cell rfl rfl rfl) rfl); have HB5 := hid (Nat.le_trans (HXDD.out.trans HX7.out).size (World.grownBy_alloc w7 (.cells #[.bool ng, .slice am nl cm, .slice a7 n7 c7] 49) none).size); have HX27 := hid ((HXDD.out.trans HX7.out).alloc (.cells #[.bool ng, .slice am nl cm, .slice a7 n7 c7] 49)); have HC7 := hid (And.intro (cell_old (.cells #[.bool ng, .slice am nl cm, .slice a7 n7 c7] 49) S7.1) (And.intro (cell_old (.cells #[.bool ng, .slice am nl cm, .slice a7 n7 c7] 49) S7.2.1) (cell_old (.cells #[.bool ng, .slice am nl cm, .slice a7 n7 c7] 49) S7.2.2))); clear hx7 hp7 hn7)
          | (refine step_append_src rfl (.tmp 47) (.tmp 55) 23 rfl w2.heap.size 49 j0 (.agg #[.bool false, .slice none 0 0, .slice none 0 0]) 3 56 Tryz.underlying23 hj jz0 jz1 jz2 rfl (Nat.succ_pos _) _ k ys rfl HW7.out (some ⟨w7.heap.size, 0, none⟩) 1 1 _ rfl HSRC7.out HB3.out HB4.out HB5.out ?_; intro v9 w9 hown hg hbk; have HW9 := hid hown; have HG9 := hid hg; have HBK := hid hbk; have HX9 := hid (own_grown0 HX27.out HW7.out hg); have S9 : _ ∧ _ ∧ _ := And.intro (hg.cell HC7.out.1 HKB.out) (And.intro (hg.cell HC7.out.2.1 HKB.out) (hg.cell HC7.out.2.2 HKG.out)); clear hown hg hbk))
        all_goals
         go_wp2
         go_roundw
         case rel =>
          refine ⟨q1 ++ x :: r1, (y :: r2), _, m + 1 - cn, cl - cn, k + 1, ys ++ (#[.bool ng, .slice am nl cm, .slice a7 n7 c7] : Array Value).toList, ps ++ [(z, x.t.m)], ?_, rfl, HMC.out.1, ?_, by omega, by omega, HX9.out, HW9.out, ?_, ?_, fun z' hz' => ?_, ?_⟩
          ·show _ = _; rw [HQ.out, HR12.out]; simp
          ·intro h
           have h2 := HMC.out.2
           try rw [if_neg (by omega)]
           congr 2
           simp
           omega
          ·have hone : CellsT (NewOff w2 (w7.alloc (.cells #[.bool ng, .slice am nl cm, .slice a7 n7 c7] 49)) u2) (w7.alloc (.cells #[.bool ng, .slice am nl cm, .slice a7 n7 c7] 49)) (#[.bool ng, .slice am nl cm, .slice a7 n7 c7] : Array Value).toList [⟨ofI z, x.t.m⟩] := by
            rw [HNG.out]
            refine CellsT.single (t := ⟨ofI z, x.t.m⟩) ((HU7.out _ ((HXR.out.trans HX7.out).alloc _)).to (Kept.refl _ _) (fun j hj => ⟨⟨Nat.le_trans HX.out.size hj.1.1, hj.1.2⟩, fun e => ?_⟩)) ((HP7.out.ext (Ext.alloc (Ext.refl w7) _) (fun j hj => hj.2)).to (Kept.refl _ _) (fun j hj => ⟨⟨Nat.le_trans (HX.out.trans HX40.out).size hj.1, by rw [size_alloc]; have := hj.2; omega⟩, fun e => ?_⟩))
            ·have h1 := (HW.out.lt _ e.symm).2
             have h2 := hj.1.1
             omega
            ·have h1 := (HW.out.lt _ e.symm).2
             have h2 := hj.1
             have h3 := HX40.out.size
             simp at h2
             omega
           have hall := HY7.out.append hone
           have e : ofP (ps ++ [(z, x.t.m)]) = ofP ps ++ [⟨ofI z, x.t.m⟩] := by unfold ofP; rw [List.map_append]; rfl
           show CellsT _ _ _ _
           rw [e]
           exact newOff_grown hall HG9.out HBK.out (Nat.le_refl _)
          ·show _ = _; rw [HKK.out]; simp
          ·have h1 := HCO.out _ (HCOL.out z' hz')
           rw [show oneP z x.t.m = [(z, x.t.m)] by unfold oneP; rw [if_neg hz]] at h1
           simpa using h1
          ·simp; omega
         case measure => have h2 := HMC.out.2; simp only [sliceLen]; omega
end
section
open Go.RowKit
theorem poly_all {S : Nat → Prop} (v : Value) (ls : List (List RTerm)) (w : World) (h : Polys S w v ls) (hS : ∀ k, S k → k < w.heap.size) (hr : smallL ls) :
  Calls Tryz.prog 154 #[v] w fun e w' => e = .returned (.bool (ls.all mayT)) ∧ Ext w w' := by
 have hnot : ∀ (x : Bool) (w : World), (Op.unary .not (.bool x)).run Tryz.prog w = .ok (.bool (!x)) w := fun _ _ => rfl
 have H := hid h
 have HR := hid hr
 have hll := h.len_le
 obtain ⟨A, c, rfl⟩ := h.form
 obtain ⟨n, hnn⟩ : ∃ n, n = ls.length := ⟨_, rfl⟩
 rw [← hnn] at H hll ⊢
 have HN := hid hnn
 clear h hr hnn
 go_enter Tryz.func154, Tryz.ntmps154
 go_wp2
 go_loopw [7] (fun i wr => ∃ k : Nat, k ≤ n ∧ i = .int .i64 k ∧ Ext w wr ∧ Hid ((ls.take k).all mayT = true)) (fun i _ => n - (intOf i).toNat)
 case atStart => exact ⟨0, Nat.zero_le _, rfl, Ext.refl _, rfl⟩
 case round =>
  obtain ⟨k, hk, rfl, hx, HA⟩ := hrel
  have HX := hid hx
  by_cases hlt : k < n
  ·obtain ⟨p, hp⟩ := some_of_lt (l := ls) (j := k) (by rw [← HN.out]; exact hlt)
   obtain ⟨bl, off, vp, rfl, -, hn1, hm1, hSb, h1, h2⟩ := (H.out.ext hx hS).cellAt hp
   have HP := hid hp
   have HRP := hid (HR.out p (List.mem_of_getElem? hp))
   have C := hid (poly_may (S := S) vp p wr h2 (lt_ext hS hx) HRP.out)
   obtain ⟨ap, cp, rfl⟩ := h2.form
   clear h2 hp hx
   cases hm : mayT p with
   | true =>
    have HM := hid hm
    rw [hm] at C
    clear hm
    go_wp2_with fail
    with_reducible refine C.out.mono ?_
    rintro e w2 ⟨rfl, hx2⟩
    have HX2 := hid (HX.out.trans hx2)
    clear hx2
    go_wp2
    go_roundw
    case rel => exact ⟨k + 1, by omega, by go_num, HX2.out, by show _ = _; rw [List.take_add_one, HP.out, List.all_append, HA.out]; simp [HM.out]⟩
    case measure => simp only [intOf]; omega
   | false =>
    have HM := hid hm
    rw [hm] at C
    clear hm
    go_wp2_with fail
    with_reducible refine C.out.mono ?_
    rintro e w2 ⟨rfl, hx2⟩
    have HX2 := hid (HX.out.trans hx2)
    clear hx2
    go_wp2
    go_ret
    exact ⟨by rw [List.all_eq_false.2 ⟨p, List.mem_of_getElem? HP.out, by rw [HM.out]; exact Bool.false_ne_true⟩]; rfl, HX2.out⟩
  ·obtain rfl : k = n := by omega
   have HE : Hid (ls.all mayT = true) := hid (by have := HA.out; rwa [List.take_of_length_le (by rw [← HN.out]; exact Nat.le_refl _)] at this)
   clear hx
   go_wp2
   go_ret
   exact ⟨by rw [HE.out]; rfl, HX.out⟩
theorem two_polys {S : Nat → Prop} {w : World} {vp vq : Value} {ps qs : List RTerm} (hp : Terms S w vp ps) (hq : Terms S w vq qs) (hS : ∀ k, S k → k < w.heap.size) (T : TypeId) :
  Polys (fun k => S k ∨ k = w.heap.size) (w.alloc (.cells #[vp, vq] T)) (.slice (some ⟨w.heap.size, 0, none⟩) 2 2) [ps, qs] := by
 have hk : Kept S w (w.alloc (.cells #[vp, vq] T)) := Kept.alloc hS _
 refine ⟨w.heap.size, 0, ⟨_, 2, rfl, Nat.le_refl _, by decide, fun _ => rfl, fun _ => .inr rfl⟩, fun j p hj => ?_⟩
 have hj2 := lt_of_some hj
 simp only [List.length_cons, List.length_nil] at hj2
 match j, hj with
 | 0, hj =>
  obtain rfl : ps = p := by simpa using hj
  exact ⟨vp, cell_new _ _ _ rfl rfl, hp.to hk (fun _ h => .inl h)⟩
 | 1, hj =>
  obtain rfl : qs = p := by simpa using hj
  exact ⟨vq, cell_new _ _ _ rfl rfl, hq.to hk (fun _ h => .inl h)⟩
 | j + 2, _ => omega
theorem two_lt {S : Nat → Prop} {w : World} (hS : ∀ k, S k → k < w.heap.size) (o : Obj) : ∀ k, (S k ∨ k = w.heap.size) → k < (w.alloc o).heap.size := fun k hk => by
 rw [size_alloc]
 rcases hk with hk | rfl
 ·have := hS k hk; omega
 ·omega
theorem mayT_mono {ts : List RTerm} (h : mayT ts = true) : ∀ t ∈ ts, mayM t.m = true := fun t ht => by
 have := (mayFrom_pair h).1 t ht
 simp only [mayTerm, Bool.and_eq_true] at this
 exact this.2
theorem toP_append (p q : List RTerm) : toP (p ++ q) = toP p ++ toP q := List.map_append
def OkPoly (w : World) (p : PZ) : Ending → World → Prop := fun e w' => ∃ v', e = .returned (.tuple #[v', .int .i64 0]) ∧ Terms (New w w') w' v' (ofP p) ∧ Ext w w'
def ErrPoly (w : World) (c : Int) : Ending → World → Prop := fun e w' => e = .returned (.tuple #[.slice none 0 0, .int .i64 c]) ∧ Ext w w'
theorem poly_add {S : Nat → Prop} (vp vq : Value) (ps qs : List RTerm) (w : World) (L : Nat) (hp : Terms S w vp ps) (hq : Terms S w vq qs) (hS : ∀ k, S k → k < w.heap.size) (hmp : mayT ps = true) (hmq : mayT qs = true)
  (hrp : ∀ t ∈ ps, t.c.mag.length ≤ L) (hrq : ∀ t ∈ qs, t.c.mag.length ≤ L) (hL : L ≤ 10000000000) (hn : ps.length + qs.length ≤ 1000000000000) :
  Calls Tryz.prog 149 #[vp, vq] w (OkPoly w (normP (toP ps ++ toP qs))) := by
 have hnot : ∀ (x : Bool) (w : World), (Op.unary .not (.bool x)).run Tryz.prog w = .ok (.bool (!x)) w := fun _ _ => rfl
 have hx1 : Ext w (w.alloc (.cells #[vp, vq] 23)) := Ext.alloc (Ext.refl w) _
 have CA := poly_all _ [ps, qs] (w.alloc (.cells #[vp, vq] 23)) (two_polys hp hq hS _) (two_lt hS _) (fun p hp => by
  simp only [List.mem_cons, List.not_mem_nil, or_false] at hp
  rcases hp with rfl | rfl
  ·exact fun t ht => Nat.le_trans (hrp t ht) (by omega)
  ·exact fun t ht => Nat.le_trans (hrq t ht) (by omega))
 rw [show [ps, qs].all mayT = true by simp [hmp, hmq]] at CA
 have HCA := hid CA
 have HX1 := hid hx1
 have CC := fun (W : World) (hW : Ext w W) => concat_polys _ [ps, qs] (W.alloc (.cells #[vp, vq] 23)) (two_polys (hp.ext hW hS) (hq.ext hW hS) (lt_ext hS hW) _) (two_lt (lt_ext hS hW) _) (by simpa using hn)
 have hfl : [ps, qs].flatten = ps ++ qs := by simp
 rw [hfl] at CC
 have HCC := hid CC
 have CL := fun (W : World) (v : Value) (h : Terms (fun k => k < W.heap.size) W v (ps ++ qs)) => poly_collect v (ps ++ qs) W L h (fun _ h => h) (fun t ht => by
  rcases List.mem_append.1 ht with ht | ht
  ·exact mayT_mono hmp t ht
  ·exact mayT_mono hmq t ht) (fun t ht => by
  rcases List.mem_append.1 ht with ht | ht
  ·exact hrp t ht
  ·exact hrq t ht) hL (by simpa using hn)
 rw [toP_append] at CL
 have HCL := hid CL
 have HSS := hid hS
 obtain ⟨ap, cp, rfl⟩ := hp.form
 obtain ⟨aq, cq, rfl⟩ := hq.form
 clear CA CC CL hp hq hx1 hmp hmq hrp hrq hfl hS
 unfold OkPoly
 generalize normP (toP ps ++ toP qs) = r at *
 go_enter Tryz.func149, Tryz.ntmps149
 go_wp2_with fail
 with_reducible refine HCA.out.mono ?_
 rintro e w1 ⟨rfl, hx⟩
 have HX := hid (HX1.out.trans hx)
 clear hx
 go_wp2_with fail
 with_reducible refine (HCC.out _ HX.out).mono ?_
 rintro e w2 ⟨v2, xs, rfl, hown, hcells, hx2⟩
 have HT : Hid (Terms (fun k => k < w2.heap.size) w2 v2 (ps ++ qs)) := hid (own_terms hown (hcells.to (Kept.refl _ _) (fun k hk => Nat.lt_of_lt_of_le (two_lt (lt_ext HSS.out HX.out) _ k hk) hx2.size)) (fun _ _ h => h))
 have HX2 := hid (HX.out.trans ((Ext.alloc (Ext.refl _) _).trans hx2))
 clear hown hcells hx2
 go_wp2_with fail
 with_reducible refine (HCL.out _ _ HT.out).mono ?_
 rintro e w3 ⟨v3, rfl, hp3, hx3⟩
 have HX3 := hid (HX2.out.trans hx3)
 have HP3 := hid (hp3.to (Kept.refl _ _) (New.mono HX2.out))
 clear hp3 hx3
 go_wp2
 go_ret2
 exact ⟨v3, rfl, HP3.out, HX3.out⟩
end
section
open Go.RowKit
end
section
open Go.RowKit
end
section
open Go.RowKit
def mayMs (ts : List RTerm) : Bool := ts.all fun t => mayM t.m
theorem poly_of {S : Nat → Prop} (v : Value) (ts : List RTerm) (w : World) (L : Nat) (h : Terms S w v ts) (hS : ∀ k, S k → k < w.heap.size) (hr : ∀ t ∈ ts, t.c.mag.length ≤ L) (hL : L ≤ 10000000000) (hn : ts.length ≤ 1000000000000) (hm : mayMs ts = true) :
  Calls Tryz.prog 169 #[v] w (OkPoly w (normP (toP ts))) := by
 have hnot : ∀ (x : Bool) (w : World), (Op.unary .not (.bool x)).run Tryz.prog w = .ok (.bool (!x)) w := fun _ _ => rfl
 unfold OkPoly
 have H := hid h
 have HMM := hid (List.all_eq_true.1 hm)
 have hll := h.len_le
 have HC := hid (fun (W : World) (hW : Ext w W) => poly_collect v ts W L (h.ext hW hS) (lt_ext hS hW) (fun t ht => HMM.out t ht) hr hL hn)
 obtain ⟨A, c, rfl⟩ := h.form
 obtain ⟨n, hnn⟩ : ∃ n, n = ts.length := ⟨_, rfl⟩
 rw [← hnn] at H hll HC ⊢
 have HN := hid hnn
 clear h hr hnn hn hm
 go_enter Tryz.func169, Tryz.ntmps169
 go_wp2
 go_loopw [5, 8] (fun _ i wr => ∃ k : Nat, k ≤ n ∧ i = .int .i64 k ∧ Ext w wr) (fun _ i _ => n - (intOf i).toNat)
 case atStart => exact ⟨0, Nat.zero_le _, rfl, Ext.refl _⟩
 case round =>
  obtain ⟨k, hk, rfl, hx⟩ := hrel
  have HX := hid hx
  by_cases hlt : k < n
  ·obtain ⟨t, ht⟩ := some_of_lt (l := ts) (j := k) (by rw [← HN.out]; exact hlt)
   obtain ⟨b, off, vd, vo, rfl, -, hn1, hm1, hSb, h1, h2, h3, h4, h5⟩ := (H.out.ext hx hS).cellAt ht
   have hMT := HMM.out t (List.mem_of_getElem? ht)
   have hxa : Ext wr (wr.alloc (.cells #[.bool t.c.neg, vd, vo] 49)) := Ext.alloc (Ext.refl wr) _
   have C := hid (mono_may (S := S) vo t.m _ (h5.ext hxa (lt_ext hS hx)) (lt_ext hS (hx.trans hxa)))
   rw [hMT] at C
   have HXA := hid (hx.trans hxa)
   obtain ⟨ad, cd, rfl⟩ := h4.form
   obtain ⟨ao, co, rfl⟩ := h5.form
   clear h4 h5 ht hx hxa hMT
   go_wp2_with fail
   with_reducible refine C.out.mono ?_
   rintro e w2 ⟨rfl, hx2⟩
   have HX2 := hid (HXA.out.trans hx2)
   clear hx2
   go_wp2
   go_roundw
   case rel => exact ⟨k + 1, by omega, by go_num, HX2.out⟩
   case measure => simp only [intOf]; omega
  ·obtain rfl : n = k := by omega
   clear hx
   go_wp2_with fail
   with_reducible refine (HC.out _ HX.out).mono ?_
   rintro e w2 ⟨v2, rfl, hp2, hx2⟩
   have HP2 := hid (hp2.to (S' := New w w2) (Kept.refl _ _) (fun k h => ⟨Nat.le_trans HX.out.size h.1, h.2⟩))
   have HX2 := hid (HX.out.trans hx2)
   clear hp2 hx2
   go_wp2
   all_goals
    go_ret2
    exact ⟨_, rfl, HP2.out, HX2.out⟩
end
section
open Go.RowKit
theorem lenI_small {z : Int} (h : 0 ≤ z ∧ z ≤ 10000) : lenI z ≤ 1 := lenI_lt (by show z.natAbs < 4294967296 ^ 1; omega)
theorem lenI_prod {a b : Int} {j k : Nat} (ha : lenI a ≤ j) (hb : lenI b ≤ k) : lenI (a * b) ≤ j + k := by
 refine lenI_lt ?_
 rw [Int.natAbs_mul, Nat.pow_add]
 exact Nat.mul_lt_mul'' (lenI_mono ha (Nat.le_refl _)) (lenI_mono hb (Nat.le_refl _))
theorem one_pows {w : World} {v e : Int} (hv : inI64 v) (he : inI64 e) (T : TypeId) : Pows (Old (w.alloc (.cells #[.int .i64 v, .int .i64 e] T))) (w.alloc (.cells #[.int .i64 v, .int .i64 e] T)) (.slice (some ⟨w.heap.size, 0, none⟩) 1 1) [(v, e)] := by
 refine ⟨w.heap.size, 0, ⟨_, 1, rfl, Nat.le_refl _, by decide, fun _ => rfl, fun _ => by show w.heap.size < (w.alloc _).heap.size; rw [size_alloc]; omega⟩, fun j x hj => ?_⟩
 have hj2 := lt_of_some hj
 simp only [List.length_cons, List.length_nil] at hj2
 match j, hj with
 | 0, hj =>
  obtain rfl : (v, e) = x := by simpa using hj
  exact ⟨⟨hv, he⟩, cell_new _ _ _ rfl rfl, cell_new _ _ _ rfl rfl⟩
 | j + 1, _ => omega
theorem grown_cell {w w' : World} {row : Option Nat} {b i : Nat} {v : Value} (hg : w.grownBy w' row) (hc : w.cell? ⟨b, i, none⟩ = some v) (hne : some b ≠ row) : w'.cell? ⟨b, i, none⟩ = some v :=
 (World.cell?_of_block (a := ⟨b, i, none⟩) (hg.block b (lt_of_cell hc) hne)).trans hc
end
section
open Go.RowKit
theorem small_bnd {p : PZ} {k : Nat} (h : bndZ k p) (hk : k ≤ 40000000000000) : smallT (ofP p) := fun t ht => by
 obtain ⟨u, hu, rfl⟩ := List.mem_map.1 ht
 show (ofI u.1).mag.length ≤ _
 rw [ofI_len]
 exact Nat.le_trans (lenI_lt (h u hu)) hk
theorem bnd_plain {ts : List RTerm} {k : Nat} (hok : okT ts) (h : ∀ t ∈ ts, t.c.mag.length ≤ k) : bndZ k (plainP ts) := fun u hu => by
 unfold plainP at hu
 split at hu
 ·obtain ⟨t, ht, rfl⟩ := List.mem_map.1 hu
  exact lenI_mono (valI_len (hok t ht)) (h t ht)
 ·simp at hu
theorem bnd_lens {p : PZ} {k : Nat} (h : bndZ k p) : ∀ t ∈ ofP p, t.c.mag.length ≤ k := fun t ht => by
 obtain ⟨u, hu, rfl⟩ := List.mem_map.1 ht
 show (ofI u.1).mag.length ≤ _
 rw [ofI_len]
 exact lenI_lt (h u hu)
theorem great_fit {n : Nat} {ts : List RTerm} (h : greatT n ts = false) : ts.length ≤ n ∧ ∀ t ∈ ts, t.c.mag.length ≤ 20 ∧ t.m.length ≤ 12 := by
 unfold greatT at h
 rw [Bool.or_eq_false_iff] at h
 obtain ⟨k1, k2⟩ := h
 refine ⟨?_, fun t ht => ?_⟩
 ·rw [decide_eq_false_iff_not] at k2
  omega
 ·have k3 := (List.any_eq_false.1 k1) t ht
  unfold bigTerm at k3
  simp at k3
  omega
theorem ofP_len (p : PZ) : (ofP p).length = p.length := by unfold ofP; rw [List.length_map]
theorem plain_len (ts : List RTerm) : (plainP ts).length ≤ ts.length := by
 unfold plainP
 split
 ·unfold toP; rw [List.length_map]; exact Nat.le_refl _
 ·simp
end
section
open Go.RowKit
def TimesPost (w : World) : Option PZ → Ending → World → Prop
 | none => ErrPoly w 8
 | some p => OkPoly w p
theorem toP_at' {ts : List RTerm} {k : Nat} {t : RTerm} (h : ts[k]? = some t) : (toP ts)[k]? = some (valI t.c, t.m) := by
 unfold toP
 rw [List.getElem?_map, h]
 rfl
theorem ofP_snoc (xs : PZ) (x : Int × Mono) : ofP (xs ++ [x]) = ofP xs ++ [⟨ofI x.1, x.2⟩] := by
 unfold ofP
 rw [List.map_append]
 rfl
theorem mayT_at {ts : List RTerm} (h : mayT ts = true) {k : Nat} {t : RTerm} (ht : ts[k]? = some t) : mayM t.m = true := mayT_mono h t (List.mem_of_getElem? ht)
theorem poly_times {S : Nat → Prop} (vp vq : Value) (ps qs : List RTerm) (w : World) (L : Nat) (hp : Terms S w vp ps) (hq : Terms S w vq qs) (hS : ∀ k, S k → k < w.heap.size) (hmp : mayT ps = true) (hmq : mayT qs = true)
  (hrp : ∀ t ∈ ps, t.c.mag.length ≤ L) (hrq : ∀ t ∈ qs, t.c.mag.length ≤ L) (hL : L ≤ 1000000000) (hc : (∀ t ∈ ps, lenI (valI t.c) < 24) ∨ (∀ t ∈ qs, lenI (valI t.c) < 24)) (hn : ps.length * qs.length ≤ 1000000000000) :
  Calls Tryz.prog 150 #[vp, vq] w (TimesPost w (timesP (toP ps) (toP qs))) := by
 have hnot : ∀ (x : Bool) (w : World), (Op.unary .not (.bool x)).run Tryz.prog w = .ok (.bool (!x)) w := fun _ _ => rfl
 have HP := hid hp
 have HQ := hid hq
 have HMP := hid (fun (k : Nat) (t : RTerm) (ht : ps[k]? = some t) => mayT_at hmp ht)
 have HMQ := hid (fun (k : Nat) (t : RTerm) (ht : qs[k]? = some t) => mayT_at hmq ht)
 have HRP := hid hrp
 have HRQ := hid hrq
 have HCC := hid hc
 have HNM := hid hn
 have hpl := hp.len_le
 have hql := hq.len_le
 have CA := poly_all (S := fun k => S k ∨ k = w.heap.size) _ [ps, qs] (w.alloc (.cells #[vp, vq] 23)) (two_polys hp hq hS 23) (two_lt hS _) (fun p hp => by
  rcases List.mem_cons.1 hp with rfl | hp
  ·exact fun t ht => Nat.le_trans (hrp t ht) (by omega)
  ·rw [List.mem_singleton.1 hp]; exact fun t ht => Nat.le_trans (hrq t ht) (by omega))
 rw [show [ps, qs].all mayT = true by simp [hmp, hmq]] at CA
 obtain ⟨ap, cp, rfl⟩ := hp.form
 obtain ⟨aq, cq, rfl⟩ := hq.form
 obtain ⟨n, hnn⟩ : ∃ n, n = ps.length := ⟨_, rfl⟩
 obtain ⟨m, hmm⟩ : ∃ n, n = qs.length := ⟨_, rfl⟩
 rw [← hnn] at HP CA hpl HNM ⊢
 rw [← hmm] at HQ CA hql HNM ⊢
 have HN := hid hnn
 have HM := hid hmm
 have HCA := hid CA
 have HS := hid hS
 clear hp hq hmp hmq hrp hrq hc hn hnn hmm CA hS
 go_enter Tryz.func150, Tryz.ntmps150
 go_wp2_with fail
 with_reducible refine HCA.out.mono ?_
 rintro e w1 ⟨rfl, hx1⟩
 have HX1 := hid ((Ext.alloc (Ext.refl w) _).trans hx1)
 have HP1 := hid (HP.out.onS HX1.out HS.out)
 have HQ1 := hid (HQ.out.onS HX1.out HS.out)
 have HS1 := hid (lt_ext HS.out HX1.out)
 clear hx1
 go_wp2
 go_loopw [6, 20] (fun o i wr => ∃ (k : Nat) (xs : PZ) (cs : List Value), k ≤ n ∧ i = .int .i64 k ∧ Ext w1 wr ∧ Hid (firstN (toP ps) (toP qs) (k * m) xs) ∧ Hid (xs.length = k * m) ∧ Hid (wr.ownsRow w1.heap.size 49 3 o xs.length cs) ∧ Hid (CellsT (NewOff w1 wr o) wr cs (ofP xs))) (fun _ i _ => n - (intOf i).toNat)
 case atStart => exact ⟨0, [], [], Nat.zero_le _, rfl, Ext.refl _, hid (by rw [Nat.zero_mul]; exact firstN_zero _ _), hid (by rw [Nat.zero_mul]; rfl), World.ownsRow_nil _ _ _ _, rfl⟩
 case round =>
  obtain ⟨k, xs, cs, hk, rfl, hx, HF, HXL, HW, HY⟩ := hrel
  have HX := hid hx
  by_cases hlt : k < n
  ·obtain ⟨t, ht⟩ := some_of_lt (l := ps) (j := k) (by rw [← HN.out]; exact hlt)
   obtain ⟨b, off, vd, vo, rfl, -, hn1, hm1, hSb, h1, h2, h3, h4, h5⟩ := HP1.out.cellAt ht
   have h1 := hx.cell h1
   have h2 := hx.cell h2
   have h3 := hx.cell h3
   have HT := hid ht
   have H4 := hid h4
   have H5 := hid h5
   obtain ⟨ad, cd, rfl⟩ := h4.form
   obtain ⟨ao, co, rfl⟩ := h5.form
   obtain ⟨ng, hng⟩ : ∃ b, b = t.c.neg := ⟨_, rfl⟩
   obtain ⟨nd, hnd⟩ : ∃ b, b = t.c.mag.length := ⟨_, rfl⟩
   obtain ⟨nm, hnm⟩ : ∃ b, b = t.m.length := ⟨_, rfl⟩
   have HNG := hid hng
   rw [← hnd] at H4
   rw [← hnm] at H5
   rw [← hng] at h1
   rw [← hnd] at h2
   rw [← hnm] at h3
   have HXA := hid (Ext.alloc (Ext.refl wr) (.cells #[.bool ng, .slice ad nd cd, .slice ao nm co] 49))
   clear ht h4 h5 hx hng hnd hnm
   go_wp2
   obtain ⟨wo, rfl⟩ : ∃ wo : World, wo = wr := ⟨_, rfl⟩
   go_loopw [6, 26] (fun o i wr => ∃ (j : Nat) (xs : PZ) (cs : List Value), j ≤ m ∧ i = .int .i64 j ∧ Ext w1 wr ∧ Hid (wo.heap.size < wr.heap.size) ∧ Hid (wr.cell? ⟨wo.heap.size, 0, none⟩ = some (.bool ng) ∧ wr.cell? ⟨wo.heap.size, 1, none⟩ = some (.slice ad nd cd) ∧ wr.cell? ⟨wo.heap.size, 2, none⟩ = some (.slice ao nm co)) ∧ Hid (some wo.heap.size ≠ o.ownBlock) ∧
    Hid (firstN (toP ps) (toP qs) (k * m + j) xs) ∧ Hid (xs.length = k * m + j) ∧ Hid (wr.ownsRow w1.heap.size 49 3 o xs.length cs) ∧ Hid (CellsT (NewOff w1 wr o) wr cs (ofP xs))) (fun _ i _ => m - (intOf i).toNat)
   case atStart => exact ⟨0, xs, cs, Nat.zero_le _, rfl, HX.out.trans HXA.out, hid (by rw [size_alloc]; exact Nat.lt_succ_self _), hid ⟨cell_new _ _ _ rfl rfl, cell_new _ _ _ rfl rfl, cell_new _ _ _ rfl rfl⟩, hid (fun e => by have := (HW.out.lt _ e.symm).2; omega), HF, HXL, own_ext HW.out HXA.out, newOff_ext HY.out HXA.out⟩
   case round =>
    clear HF HXL HW HY
    obtain ⟨j, xs, cs, hj, rfl, hx, HGS, HKC, HNB, HF, HXL, HW, HY⟩ := hrel
    have HXW := hid hx
    by_cases hlt2 : j < m
    ·obtain ⟨u, hu⟩ := some_of_lt (l := qs) (j := j) (by rw [← HM.out]; exact hlt2)
     obtain ⟨b2, off2, ve, vp2, rfl, -, hn2, hm2, hSb2, g1, g2, g3, g4, g5⟩ := (HQ1.out.onS HXW.out HS1.out).cellAt hu
     have HU := hid hu
     have HAT := hid (prodL_get (toP_at' HT.out) (toP_at' hu))
     rw [show (toP qs).length = m by rw [toP_length, HM.out]] at HAT
     have hmt := HMP.out k t HT.out
     have hmu := HMQ.out j u hu
     obtain ⟨k0, k1, k2⟩ := HKC.out
     obtain ⟨ae, ce, rfl⟩ := g4.form
     obtain ⟨aq2, cq2, rfl⟩ := g5.form
     obtain ⟨mg, hmg⟩ : ∃ b, b = u.c.neg := ⟨_, rfl⟩
     obtain ⟨ne, hne⟩ : ∃ b, b = u.c.mag.length := ⟨_, rfl⟩
     obtain ⟨nq, hnq⟩ : ∃ b, b = u.m.length := ⟨_, rfl⟩
     have HMG := hid hmg
     have G4 := hid g4
     have G5 := hid g5
     rw [← hne] at G4
     rw [← hnq] at G5
     rw [← hmg] at g1
     rw [← hne] at g2
     rw [← hnq] at g3
     have HXB := hid (Ext.alloc (Ext.refl wr) (.cells #[.bool mg, .slice ae ne ce, .slice aq2 nq cq2] 49))
     have k3 := HXB.out.cell k0
     have k4 := HXB.out.cell k1
     have k5 := HXB.out.cell k2
     have hS2 := lt_ext HS1.out HXW.out
     have HCT := hid (mono_times (S := S) (.slice ao nm co) (.slice aq2 nq cq2) t.m u.m _ (H5.out.ext (hx.trans HXB.out) HS1.out) (G5.out.ext HXB.out hS2) (lt_ext hS2 HXB.out))
     have HCM := hid (fun (W : World) (hW : Ext wr W) => whole_mul (S := S) (.agg #[.bool ng, .slice ad nd cd]) (.agg #[.bool mg, .slice ae ne ce]) t.c u.c W ⟨_, by rw [HNG.out], H4.out.ext (hx.trans hW) HS1.out⟩ ⟨_, by rw [HMG.out], G4.out.ext hW hS2⟩ (lt_ext hS2 hW) (Nat.le_trans (HRP.out t (List.mem_of_getElem? HT.out)) (by omega)) (Nat.le_trans (HRQ.out u (List.mem_of_getElem? hu)) (by omega))
      (HCC.out.imp (fun h => h t (List.mem_of_getElem? HT.out)) (fun h => h u (List.mem_of_getElem? hu))))
     have hkm : k * m + j < n * m := by
      have : (k + 1) * m ≤ n * m := Nat.mul_le_mul_right _ (by omega)
      rw [Nat.add_mul] at this
      omega
     have HKB : Hid (xs.length ≤ 1000000000000) := hid (by have h1 := HNM.out; have h2 := HXL.out; omega)
     cases hmx : mayM (timesM t.m u.m) with
     | false =>
      have he : errTimes t.m u.m = 8 := by unfold errTimes; rw [hmt, hmu, hmx]; rfl
      have HNO := hid (firstN_none HF.out (HAT.out.trans (congrArg some (pair_no hmt hmu hmx))))
      rw [he] at HCT
      clear he hmx hmt hmu hx hu g4 g5 hmg hne hnq k0 k1 k2 hkm hS2
      go_wp2_with fail
      with_reducible refine HCT.out.mono ?_
      rintro e w2 ⟨v2, rfl, hp2, hx2⟩
      have HX2 := hid (HX1.out.trans (HXW.out.trans (HXB.out.trans hx2)))
      clear hp2 hx2
      go_wp2
      all_goals
       go_ret2
       rw [HNO.out]
       exact ⟨rfl, HX2.out⟩
     | true =>
      have he : errTimes t.m u.m = 0 := by unfold errTimes; rw [hmt, hmu, hmx]; rfl
      have hv : valTimes t.m u.m = timesM t.m u.m := by unfold valTimes; rw [hmt, hmu, hmx]; rfl
      have HYES := hid (firstN_next HF.out (HAT.out.trans (congrArg some (pair_yes hmt hmu hmx))))
      rw [he, hv] at HCT
      clear he hv hmx hmt hmu hx hu g4 g5 hmg hne hnq k0 k1 k2 hkm hS2
      go_wp2_with fail
      with_reducible refine HCT.out.mono ?_
      rintro e w2 ⟨v2, rfl, hp2, hx2⟩
      have HX2 := hid (HXB.out.trans hx2)
      have l0 := hx2.cell k3
      have l1 := hx2.cell k4
      have r0 := hx2.new_cell (i := 0) rfl
      have r1 := hx2.new_cell (i := 1) rfl
      have HP2 := hid (hp2.to (S' := New wr w2) (Kept.refl _ _) (fun k h => ⟨Nat.le_trans HXB.out.size h.1, h.2⟩))
      obtain ⟨a2, c2, rfl⟩ := hp2.form
      obtain ⟨n2, hn2'⟩ : ∃ b, b = (timesM t.m u.m).length := ⟨_, rfl⟩
      rw [← hn2'] at HP2 ⊢
      have HCM2 := hid (HCM.out w2 (HXB.out.trans hx2))
      clear hp2 hx2 hn2' k3 k4 k5
      go_wp2_with fail
      with_reducible refine HCM2.out.mono ?_
      rintro e w3 ⟨v3, rfl, ⟨vm3, rfl, hu3⟩, hx3⟩
      have HX3 := hid (HX2.out.trans hx3)
      have HXW3 := hid (HXW.out.trans (HX2.out.trans hx3))
      have HW3 := hid (own_ext HW.out HX3.out)
      obtain ⟨b3, hb3⟩ : ∃ b, b = (ofI (valI t.c * valI u.c)).neg := ⟨_, rfl⟩
      have hone : CellsT (New wr w3) w3 [.bool (ofI (valI t.c * valI u.c)).neg, vm3, .slice a2 n2 c2] [⟨ofI (valI t.c * valI u.c), timesM t.m u.m⟩] :=
       CellsT.single (t := ⟨ofI (valI t.c * valI u.c), timesM t.m u.m⟩) (hu3.to (Kept.refl _ _) (fun k h => ⟨Nat.le_trans HX2.out.size h.1, h.2⟩)) (HP2.out.to (Kept.ext hx3 (fun _ h => h.2)) (fun k h => ⟨h.1, Nat.lt_of_lt_of_le h.2 hx3.size⟩))
      have HY3 := hid ((newOff_ext HY.out HX3.out).append (newOff_of HXW.out.size HW.out hone))
      rw [← ofP_snoc xs (valI t.c * valI u.c, timesM t.m u.m)] at HY3
      obtain ⟨a3, c3, rfl⟩ := hu3.form
      obtain ⟨n3, hn3⟩ : ∃ b, b = (ofI (valI t.c * valI u.c)).mag.length := ⟨_, rfl⟩
      rw [← hb3, ← hn3] at HY3 ⊢
      clear hone hu3 hx3 hb3 hn3 l0 l1 r0 r1
      go_wp2_with (at_builtin; refine wpList_append_far _ rfl (.tmp 41) (.tmp 49) 22 rfl w1.heap.size 49 (.agg #[.bool false, .slice none 0 0, .slice none 0 0]) 3 56 Tryz.underlying22 Tryz.infoTerm rfl (by decide) _ xs.length cs rfl HW3.out #[.bool b3, .slice a3 n3 c3, .slice a2 n2 c2] rfl (three_cell rfl rfl rfl) rfl HKB.out (by decide) HXW3.out.size ?_; intro v5 w5 hown hg hbk; have HW5 := hid hown; have HG5 := hid hg; have HBK := hid hbk; clear hown hg hbk)
      go_roundw
      case rel =>
       refine ⟨j + 1, xs ++ [(valI t.c * valI u.c, timesM t.m u.m)], cs ++ (#[.bool b3, .slice a3 n3 c3, .slice a2 n2 c2] : Array Value).toList, by omega, by go_num, own_grown0 HXW3.out HW3.out HG5.out, hid (Nat.lt_of_lt_of_le HGS.out (Nat.le_trans HX3.out.size HG5.out.size)), hid ⟨grown_cell HG5.out (HX3.out.cell HKC.out.1) HNB.out, grown_cell HG5.out (HX3.out.cell HKC.out.2.1) HNB.out, grown_cell HG5.out (HX3.out.cell HKC.out.2.2) HNB.out⟩, hid (fun e => by rcases HBK.out with h | h; exact HNB.out (e.trans h); exact absurd (Option.some.inj (e.trans h)) (by have := HGS.out; have := HX3.out.size; omega)), HYES, ?_, ?_, newOff_grown HY3.out HG5.out HBK.out (Nat.le_succ _)⟩
       ·show _ = _; rw [List.length_append, HXL.out]; rfl
       ·show World.ownsRow _ _ _ _ _ _ _; rw [List.length_append]; exact HW5.out
      case measure => simp only [intOf]; omega
    ·obtain rfl : m = j := by omega
     clear hx
     go_wp2
     go_roundw
     case rel =>
      have e : (k + 1) * m = k * m + m := by rw [Nat.add_mul, Nat.one_mul]
      exact ⟨k + 1, xs, cs, by omega, by go_num, HXW.out, by rw [e]; exact HF, by rw [e]; exact HXL, HW, HY⟩
     case measure => simp only [intOf]; omega
  ·obtain rfl : n = k := by omega
   have hall := firstN_all HF.out (by rw [toP_length, toP_length, ← HN.out, ← HM.out])
   have HALL := hid hall
   have ho := own_terms (S := Old wr) (p := ofP xs) (by rw [ofP_length]; exact HW.out) (HY.out.to (Kept.refl _ _) (fun _ h => h.1.2)) (fun k h1 h2 => h2)
   have HCO := hid (poly_collect u6 (ofP xs) wr (L + L) ho (fun _ h => h) (fun t ht => by
    obtain ⟨x, hx, rfl⟩ := List.mem_map.1 ht
    exact (firstN_mem HF.out hx).1) (fun t ht => by
    obtain ⟨x, hx, rfl⟩ := List.mem_map.1 ht
    obtain ⟨-, a, ha, b, hb, e⟩ := firstN_mem HF.out hx
    obtain ⟨a', ha', rfl⟩ := List.mem_map.1 ha
    obtain ⟨b', hb', rfl⟩ := List.mem_map.1 hb
    show (ofI x.1).mag.length ≤ _
    rw [ofI_len, e]
    exact lenI_prod (Nat.le_trans (valI_len (HP.out.okT a' ha')) (HRP.out a' ha')) (Nat.le_trans (valI_len (HQ.out.okT b' hb')) (HRQ.out b' hb'))) (by omega) (by rw [ofP_length, HXL.out]; have := HNM.out; omega))
   rw [toP_ofP] at HCO
   clear hx hall ho
   go_wp2_with fail
   with_reducible refine HCO.out.mono ?_
   rintro e w2 ⟨v2, rfl, hp2, hx2⟩
   have HP2 := hid (hp2.to (S' := New w w2) (Kept.refl _ _) (fun k h => ⟨Nat.le_trans (HX1.out.trans HX.out).size h.1, h.2⟩))
   have HX2 := hid ((HX1.out.trans HX.out).trans hx2)
   clear hp2 hx2
   go_wp2
   all_goals
    go_ret2
    rw [HALL.out]
    exact ⟨_, rfl, HP2.out, HX2.out⟩
end
section
open Go.RowKit
def Fit (k n : Nat) (p : PZ) : Prop := canP p ∧ bndZ k p ∧ p.length ≤ n
abbrev PV (W : World) (v : Value) (p : PZ) : Prop := Terms (Old W) W v (ofP p)
section
variable {k l n m : Nat} {p q : PZ}
theorem Fit.can (h : Fit k n p) : canP p := h.1
theorem Fit.mono (h : Fit k n p) (hk : k ≤ l) (hn : n ≤ m) : Fit l m p := ⟨h.1, h.2.1.mono hk, Nat.le_trans h.2.2 hn⟩
theorem Fit.lens (h : Fit k n p) : ∀ t ∈ ofP p, t.c.mag.length ≤ k := bnd_lens h.2.1
theorem Fit.small (h : Fit k n p) (hk : k ≤ 1000000) : smallT (ofP p) := small_bnd h.2.1 (by omega)
theorem Fit.may (h : Fit k n p) : mayT (ofP p) = true := mayT_ofP h.1
theorem Fit.plain (h : Fit k n p) : plainP (ofP p) = p := plainP_ofP h.1
theorem Fit.len (h : Fit k n p) : (ofP p).length ≤ n := by rw [ofP_len]; exact h.2.2
theorem addP_len (p l : PZ) : (addP p l).length ≤ p.length + l.length := by
 unfold addP
 induction l generalizing p with
 | nil => simp
 | cons t r ih =>
  rw [List.foldl_cons]
  have h1 := ih (putP p t.1 t.2)
  have h2 := putP_len p t.1 t.2
  simp only [List.length_cons]
  omega
theorem normP_len (p : PZ) : (normP p).length ≤ p.length := by
 have := addP_len [] p
 rw [List.length_nil, Nat.zero_add] at this
 exact this
theorem may_append (hp : mayAll p) (hq : mayAll q) : mayAll (p ++ q) := fun t ht => by
 rcases List.mem_append.1 ht with g | g
 ·exact hp t g
 ·exact hq t g
theorem Fit.add (hp : Fit k n p) (hq : Fit k m q) (hn : n + m ≤ 1000000000000) : Fit (k + 2) (n + m) (normP (p ++ q)) := by
 have hm := may_append hp.1.may hq.1.may
 have hl : (p ++ q).length ≤ n + m := by rw [List.length_append]; have := hp.2.2; have := hq.2.2; omega
 exact ⟨norm_can hm, normP_bnd hm (hp.2.1.append hq.2.1) (by show _ < 4294967296 ^ 2; omega), Nat.le_trans (normP_len _) hl⟩
theorem mulL_len (p q : PZ) : (mulL p q).length = p.length * q.length := by
 unfold mulL
 induction p with
 | nil => simp
 | cons t r ih => rw [List.flatMap_cons, List.length_append, ih, List.length_map, List.length_cons, Nat.add_mul]; omega
theorem mulL_bnd (hp : bndZ k p) (hq : bndZ l q) : bndZ (k + l) (mulL p q) := fun x hx => by
 obtain ⟨t, ht, u, hu, rfl⟩ := mulL_mem hx
 exact lenI_mono (lenI_prod (lenI_lt (hp t ht)) (lenI_lt (hq u hu))) (Nat.le_refl _)
theorem Fit.times {c : PZ} (hp : Fit k n p) (hq : Fit l m q) (h : timesP p q = some c) (hn : n * m ≤ 1000000000000) : Fit (k + l + 2) (n * m) c := by
 obtain ⟨hm, rfl⟩ := times_some hp.1.may hq.1.may h
 have hl : (mulL p q).length ≤ n * m := by rw [mulL_len]; exact Nat.mul_le_mul hp.2.2 hq.2.2
 exact ⟨norm_can hm, normP_bnd hm (mulL_bnd hp.2.1 hq.2.1) (by show _ < 4294967296 ^ 2; omega), Nat.le_trans (normP_len _) hl⟩
end
theorem b32_ten (k : Nat) : B32 ^ k < 10 ^ (10 * k + 1) := by
 have h1 : B32 ^ k ≤ (10 ^ 10) ^ k := Nat.pow_le_pow_left (by unfold B32; decide) k
 rw [← Nat.pow_mul] at h1
 exact Nat.lt_of_le_of_lt h1 (Nat.pow_lt_pow_right (by decide) (Nat.lt_succ_self _))
theorem fit_take {k n : Nat} {p : PZ} (h : Fit k n p) (j : Nat) : Fit k n (p.take j) := ⟨canP_sub h.1 (List.take_sublist _ _), fun t ht => h.2.1 t (List.mem_of_mem_take ht), Nat.le_trans (by rw [List.length_take]; exact Nat.min_le_right _ _) h.2.2⟩
theorem pv_of {w : World} {v : Value} {ps : List RTerm} (h : Terms (Old w) w v ps) (hm : mayT ps = true) : ps = ofP (plainP ps) := by
 unfold plainP
 rw [if_pos hm]
 exact (mayT_of h.okT hm).symm
theorem fit_plain {ps : List RTerm} {k n : Nat} (hok : okT ps) (h : ∀ t ∈ ps, t.c.mag.length ≤ k) (hn : ps.length ≤ n) : Fit k n (plainP ps) := ⟨plainP_can ps, bnd_plain hok h, Nat.le_trans (plain_len ps) hn⟩
section
variable {W : World} {u v : Value} {p q : PZ} {k l n m : Nat}
theorem z_times (hp : PV W u p) (hq : PV W v q) (fp : Fit k n p) (fq : Fit l m q) (hc : k < 24 ∨ l < 24) (hk : k ≤ 1000000) (hl : l ≤ 1000000) (hnm : n * m ≤ 1000000000000) :
  Calls Tryz.prog 150 #[u, v] W (TimesPost W (timesP p q)) := by
 have h := poly_times u v _ _ W 1000000 hp hq (fun _ h => h) fp.may fq.may (fun t ht => Nat.le_trans (fp.lens t ht) hk) (fun t ht => Nat.le_trans (fq.lens t ht) hl) (by decide)
  (hc.imp (fun h t ht => by
   obtain ⟨x, hx, rfl⟩ := List.mem_map.1 ht
   show lenI (valI (ofI x.1)) < 24
   rw [valI_ofI]
   exact Nat.lt_of_le_of_lt (lenI_lt (fp.2.1 x hx)) h) (fun h t ht => by
   obtain ⟨x, hx, rfl⟩ := List.mem_map.1 ht
   show lenI (valI (ofI x.1)) < 24
   rw [valI_ofI]
   exact Nat.lt_of_le_of_lt (lenI_lt (fq.2.1 x hx)) h))
  (Nat.le_trans (Nat.mul_le_mul fp.len fq.len) hnm)
 rwa [toP_ofP, toP_ofP] at h
theorem z_add (hp : PV W u p) (hq : PV W v q) (fp : Fit k n p) (fq : Fit l m q) (hk : k ≤ 1000000) (hl : l ≤ 1000000) (hn : n + m ≤ 1000000000000) :
  Calls Tryz.prog 149 #[u, v] W (OkPoly W (normP (p ++ q))) := by
 have h := poly_add u v _ _ W 1000000 hp hq (fun _ h => h) fp.may fq.may (fun t ht => Nat.le_trans (fp.lens t ht) hk) (fun t ht => Nat.le_trans (fq.lens t ht) hl) (by decide) (by have := fp.len; have := fq.len; omega)
 rwa [toP_ofP, toP_ofP] at h
theorem z_same (hp : PV W u p) (hq : PV W v q) : Calls Tryz.prog 60 #[u, v] W fun e w' => e = .returned (.bool (decide (p = q))) ∧ Ext W w' := by
 have h := poly_same u v _ _ W hp hq (fun _ h => h)
 have e : decide (ofP p = ofP q) = decide (p = q) := by
  by_cases g : p = q
  ·rw [decide_eq_true g, decide_eq_true (congrArg ofP g)]
  ·rw [decide_eq_false g, decide_eq_false (fun e => g (by rw [← toP_ofP p, e, toP_ofP]))]
 rwa [e] at h
theorem z_may (hp : PV W u p) (fp : Fit k n p) (hk : k ≤ 1000000) : Calls Tryz.prog 31 #[u] W fun e w' => e = .returned (.bool true) ∧ Ext W w' := by
 have h := poly_may u _ W hp (fun _ h => h) (fp.small hk)
 rwa [fp.may] at h
end
end
section
theorem mulL_one (p : PZ) (c : Int) (m : Mono) : mulL p [(c, m)] = p.map fun t => (t.1 * c, timesM t.2 m) := by
 unfold mulL
 induction p with
 | nil => rfl
 | cons t r ih => rw [List.flatMap_cons, ih]; rfl
end
section
open Go.RowKit
end
section
theorem negP_can {p : PZ} (h : canP p) : canP (negP p) := by
 refine ⟨fun t ht => ?_, ?_⟩
 ·obtain ⟨u, hu, rfl⟩ := List.mem_map.1 ht
  have := (h.1 u hu).1
  exact ⟨by show -u.1 ≠ 0; omega, (h.1 u hu).2⟩
 ·unfold negP
  rw [List.pairwise_map]
  exact h.2
section
variable {g h q r t l m : PZ} {v d : Int}
end
end
section
section
variable {g h f q r : PZ} {v d : Int} {x : PZ × PZ}
/-! Exponents -/
end
section
variable {g h f q r p : PZ} {v d : Int} {x : PZ × PZ} {E G R : Int}
/-! Sizes -/
theorem Fit.neg {k n : Nat} (h : Fit k n p) : Fit k n (negP p) := ⟨negP_can h.1, fun t ht => by
 obtain ⟨u, hu, rfl⟩ := List.mem_map.1 ht
 have := h.2.1 u hu
 show (-u.1).natAbs < _
 rwa [Int.natAbs_neg], by rw [negP_length]; exact h.2.2⟩
end
end
section
open Go.RowKit
section
variable {p q c : PZ} {k l n m : Nat}
theorem fit_szP (h : Fit k n p) (hk : k ≤ 100000) (hn : n ≤ 1000000000000) : szP p :=
 ⟨Nat.le_trans h.2.2 hn, fun t ht => szZ_le (n := 10 * k + 1) (Nat.lt_trans (h.2.1 t ht) (b32_ten k)) (by omega)⟩
theorem fit_szM2 (fp : Fit k n p) (fq : Fit l m q) (hk : k + l ≤ 100000) (hnm : n * m ≤ 1000000000000) : szM p q := by
 have hl : p.length * q.length ≤ n * m := Nat.mul_le_mul fp.2.2 fq.2.2
 refine ⟨B32 ^ (k + l), 10 * (k + l) + 14, fun t ht u hu => ?_, by omega, ?_, by omega⟩
 ·have := lenI_prod (lenI_lt (fp.2.1 t ht)) (lenI_lt (fq.2.1 u hu))
  exact Nat.le_of_lt (lenI_mono this (Nat.le_refl _))
 ·have h1 := b32_ten (k + l)
  have e : 10 ^ (10 * (k + l) + 14) = 10 ^ 13 * 10 ^ (10 * (k + l) + 1) := by rw [← Nat.pow_add]; congr 1; omega
  rw [e]
  have h2 : p.length * q.length < 10 ^ 13 := by omega
  exact Nat.lt_of_lt_of_le ((Nat.mul_lt_mul_right (Nat.pow_pos (by unfold B32; decide))).2 h2) (Nat.mul_le_mul_left _ (Nat.le_of_lt h1))
theorem fit_sum_sz (fp : Fit k n p) (fq : Fit l m q) (hk : k ≤ 90000) (hl : l ≤ 90000) (hn : n + m ≤ 1000000000000) : ∀ j, j ≤ q.length → szP (addP p (q.take j)) := fun j _ => by
 have f2 := fit_take fq j
 rw [addP_eq fp.can f2.can.may]
 exact fit_szP ((fp.mono (l := max k l) (Nat.le_max_left _ _) (Nat.le_refl _)).add (f2.mono (l := max k l) (Nat.le_max_right _ _) (Nat.le_refl _)) hn) (by omega) hn
end
abbrev RV (W : World) (v : Value) (p : PZ) : Prop := RTs (Old W) W v p
section
variable {W : World} {u v : Value} {p q : PZ} {k l n m : Nat}
theorem plus_old {W w' : World} (h : Ext W w') : ∀ k, Plus (Old W) W w' k → Old w' k := plus_lt (fun _ h => h) h
theorem rz_add (hp : RV W u p) (hq : RV W v q) (fp : Fit k n p) (fq : Fit l m q) (hk : k ≤ 90000) (hl : l ≤ 90000) (hn : n + m ≤ 1000000000000) :
  Calls Tryz.prog 61 #[u, v] W fun e w' => ∃ v', e = .returned v' ∧ RV w' v' (normP (p ++ q)) ∧ Ext W w' :=
 (rpoly_add (S := Old W) u v p q W (fun _ h => h) hp hq fp.can.may fq.can.may (fit_szP fq (by omega) (by omega)) (fit_sum_sz fp fq hk hl hn)).mono (by
  rintro e w' ⟨v', rfl, h, hx⟩
  rw [addP_eq fp.can fq.can.may] at h
  exact ⟨v', rfl, h.to (Kept.refl _ _) (plus_old hx), hx⟩)
theorem rz_sub (hp : RV W u p) (hq : RV W v q) (fp : Fit k n p) (fq : Fit l m q) (hk : k ≤ 90000) (hl : l ≤ 90000) (hn : n + m ≤ 1000000000000) :
  Calls Tryz.prog 29 #[u, v] W fun e w' => ∃ v', e = .returned v' ∧ RV w' v' (normP (p ++ negP q)) ∧ Ext W w' :=
 (rpoly_sub (S := Old W) u v p q W (fun _ h => h) hp hq fp.can.may fq.can.may (fit_szP fq (by omega) (by omega)) (fun j hj => fit_sum_sz fp fq.neg hk hl hn j (by rw [negP_length]; exact hj))).mono (by
  rintro e w' ⟨v', rfl, h, hx⟩
  rw [addP_eq fp.can fq.neg.can.may] at h
  exact ⟨v', rfl, h.to (Kept.refl _ _) (plus_old hx), hx⟩)
theorem rz_poly (hp : RV W u p) (fp : Fit k n p) (hk : k ≤ 90000) (hn : n ≤ 1000000000000) :
  Calls Tryz.prog 20 #[u] W fun e w' => ∃ v', e = .returned v' ∧ PV w' v' p ∧ Ext W w' :=
 (rpoly_poly (S := Old W) u p W hp (fun _ h => h) (fit_szP fp (by omega) hn) (fun t ht => Nat.le_trans (mayM_len (fp.can.may t ht)) (by decide))).mono (by
  rintro e w' ⟨v', rfl, h, hx⟩
  exact ⟨v', rfl, h.to (Kept.refl _ _) New.lt, hx⟩)
end
end
section
open Go.RowKit
section
variable {o : Option Nat} {W W' : World} {v : Value} {p : PZ} {s : MSt}
/-! The document's -/
end
end
section
open Go.RowKit
theorem one_terms {w : World} {vm vo : Value} {t : RTerm} (h1 : U32s (Old w) w vm t.c.mag) (h2 : Pows (Old w) w vo t.m) (T : TypeId) :
  Terms (Old (w.alloc (.cells #[.bool t.c.neg, vm, vo] T))) (w.alloc (.cells #[.bool t.c.neg, vm, vo] T)) (.slice (some ⟨w.heap.size, 0, none⟩) 1 1) [t] := by
 have hx : Ext w (w.alloc (.cells #[.bool t.c.neg, vm, vo] T)) := Ext.alloc (Ext.refl w) _
 refine ⟨w.heap.size, 0, ⟨_, 1, rfl, Nat.le_refl _, by decide, fun _ => rfl, fun _ => by show w.heap.size < (w.alloc _).heap.size; rw [size_alloc]; omega⟩, fun j u hj => ?_⟩
 have hj2 := lt_of_some hj
 simp only [List.length_cons, List.length_nil] at hj2
 match j, hj with
 | 0, hj =>
  obtain rfl : t = u := by simpa using hj
  exact ⟨vm, vo, cell_new _ _ _ rfl rfl, cell_new _ _ _ rfl rfl, cell_new _ _ _ rfl rfl, h1.to (Kept.ext hx (fun _ h => h)) (fun k h => Nat.lt_of_lt_of_le h hx.size), h2.to (Kept.ext hx (fun _ h => h)) (fun k h => Nat.lt_of_lt_of_le h hx.size)⟩
 | j + 1, _ => omega
def oneZ (c : Int) (m : Mono) : PZ := if c = 0 then [] else [(c, m)]
theorem norm_one (c : Int) (m : Mono) : normP [(c, m)] = oneZ c m := by
 unfold oneZ
 show putP [] c m = _
 rfl
theorem oneZ_can {c : Int} {m : Mono} (h : mayM m = true) : canP (oneZ c m) := by
 unfold oneZ
 split
 ·exact canP_nil
 ·rename_i h0
  exact ⟨fun t ht => by rw [List.mem_singleton.1 ht]; exact ⟨h0, h⟩, List.pairwise_singleton _ _⟩
theorem fit_one {c : Int} {m : Mono} {k : Nat} (h : mayM m = true) (hk : lenI c ≤ k) : Fit k 1 (oneZ c m) := by
 refine ⟨oneZ_can h, fun t ht => ?_, ?_⟩
 ·unfold oneZ at ht
  split at ht
  ·simp at ht
  ·rw [List.mem_singleton.1 ht]; exact lenI_mono hk (Nat.le_refl _)
 ·unfold oneZ
  split <;> simp
theorem z_shift {W : World} {u vc vm : Value} {p : PZ} {c : Int} {m : Mono} {k n l : Nat} (hp : PV W u p) (hc : IntV (Old W) W vc (ofI c)) (hm : Pows (Old W) W vm m) (fp : Fit k n p) (hmm : mayM m = true) (hcl : lenI c ≤ l) (h24 : k < 24 ∨ l < 24) (hk : k ≤ 1000000) (hl : l ≤ 1000000) (hn : n ≤ 1000000000000) :
  Calls Tryz.prog 171 #[u, vc, vm] W (TimesPost W (timesP p (oneZ c m))) := by
 have hnot : ∀ (x : Bool) (w : World), (Op.unary .not (.bool x)).run Tryz.prog w = .ok (.bool (!x)) w := fun _ _ => rfl
 obtain ⟨vz, rfl, hz⟩ := hc
 have HP := hid hp
 have HZ := hid hz
 have HM := hid hm
 have CM := fun (Y : World) (hY : Ext W Y) => mono_may (S := Old W) vm m Y (hm.ext hY (fun _ h => h)) (fun k h => Nat.lt_of_lt_of_le h hY.size)
 simp only [hmm] at CM
 have HCM := hid CM
 have f1 := fit_one (m := m) hmm hcl
 have CC := hid (fun (Y : World) (hY : Ext W Y) => poly_collect (S := Old (Y.alloc (.cells #[.bool (ofI c).neg, vz, vm] 49))) (.slice (some ⟨Y.heap.size, 0, none⟩) 1 1) [⟨ofI c, m⟩] (Y.alloc (.cells #[.bool (ofI c).neg, vz, vm] 49)) 1000000
  (one_terms (t := ⟨ofI c, m⟩) ((hz.ext hY (fun _ h => h)).to (Kept.refl _ _) (fun k h => Nat.lt_of_lt_of_le h hY.size)) ((hm.ext hY (fun _ h => h)).to (Kept.refl _ _) (fun k h => Nat.lt_of_lt_of_le h hY.size)) 49) (fun _ h => h) (fun t ht => by rw [List.mem_singleton.1 ht]; exact hmm) (fun t ht => by rw [List.mem_singleton.1 ht]; show (ofI c).mag.length ≤ _; rw [ofI_len]; omega) (by decide) (by simp))
 have e1 : toP [⟨ofI c, m⟩] = [(c, m)] := by unfold toP; simp [valI_ofI]
 simp only [e1, norm_one] at CC
 have CT := hid (fun (Y : World) (u2 : Value) (hY : Ext W Y) (hu : PV Y u2 (oneZ c m)) => z_times (hp.on hY) hu fp f1 h24 hk hl (by omega))
 obtain ⟨ap, cp, rfl⟩ := hp.form
 obtain ⟨az, cz, rfl⟩ := hz.form
 obtain ⟨am, cm, rfl⟩ := hm.form
 obtain ⟨np, hnp⟩ : ∃ n, n = (ofP p).length := ⟨_, rfl⟩
 obtain ⟨nz, hnz⟩ : ∃ n, n = (ofI c).mag.length := ⟨_, rfl⟩
 obtain ⟨nm, hnm⟩ : ∃ n, n = m.length := ⟨_, rfl⟩
 obtain ⟨ng, hng⟩ : ∃ n, n = (ofI c).neg := ⟨_, rfl⟩
 rw [← hnp] at CT ⊢
 rw [← hnz, ← hng] at CC ⊢
 rw [← hnm] at CC HCM ⊢
 generalize timesP p (oneZ c m) = o at *
 have HK := hid (Ext.alloc (Ext.refl W) (.cells #[.bool ng, .slice az nz cz] 26))
 clear hp hz hm CM hmm hcl f1 e1 hnp hnz hnm hng
 go_enter Tryz.func171, Tryz.ntmps171
 go_wp2_with fail
 with_reducible refine (HCM.out _ HK.out).mono ?_
 rintro e w1 ⟨rfl, hx1⟩
 have k0 := hx1.new_cell (i := 0) rfl
 have k1 := hx1.new_cell (i := 1) rfl
 have HX1 := hid (HK.out.trans hx1)
 clear hx1
 go_wp2_with fail
 with_reducible refine (CC.out _ HX1.out).mono ?_
 rintro e w2 ⟨v2, rfl, hp2, hx2⟩
 have HX2 := hid ((HX1.out.alloc _).trans hx2)
 have CT2 := hid (CT.out w2 v2 HX2.out (hp2.to (Kept.refl _ _) New.lt))
 obtain ⟨a2, c2, rfl⟩ := hp2.form
 clear hp2 hx2 k0 k1
 go_wp2_with fail
 with_reducible refine CT2.out.mono ?_
 intro e w3 h3
 cases o with
 | none =>
  obtain ⟨rfl, hx3⟩ := h3
  have HX3 := hid (HX2.out.trans hx3)
  clear hx3
  go_wp2
  all_goals
   go_ret2
   exact ⟨rfl, HX3.out⟩
 | some x =>
  obtain ⟨v3, rfl, hp3, hx3⟩ := h3
  have HX3 := hid (HX2.out.trans hx3)
  have HP3 := hid (hp3.to (S' := New W w3) (Kept.refl _ _) (fun k h => ⟨Nat.le_trans HX2.out.size h.1, h.2⟩))
  clear hp3 hx3
  go_wp2
  all_goals
   go_ret2
   exact ⟨_, rfl, HP3.out, HX3.out⟩
theorem z_var (W : World) (v e : Int) (hv : 1 ≤ v ∧ v ≤ 200) (he : 1 ≤ e ∧ e ≤ 10000) : Calls Tryz.prog 159 #[.int .i64 v, .int .i64 e] W (OkPoly W [(1, [(v, e)])]) := by
 unfold OkPoly
 have hm : mayM [(v, e)] = true := one_may hv he
 have CO := hid (whole_of 1 W (by decide))
 have CF := hid (fun (Y : World) (vz : Value) (hz : U32s (Old Y) Y vz (ofI 1).mag) => poly_of (S := Old ((Y.alloc (.cells #[.int .i64 v, .int .i64 e] 51)).alloc (.cells #[.bool (ofI 1).neg, vz, .slice (some ⟨Y.heap.size, 0, none⟩) 1 1] 49))) (.slice (some ⟨(Y.alloc (.cells #[.int .i64 v, .int .i64 e] 51)).heap.size, 0, none⟩) 1 1) [⟨ofI 1, [(v, e)]⟩] ((Y.alloc (.cells #[.int .i64 v, .int .i64 e] 51)).alloc (.cells #[.bool (ofI 1).neg, vz, .slice (some ⟨Y.heap.size, 0, none⟩) 1 1] 49)) 1000000
  (one_terms (t := ⟨ofI 1, [(v, e)]⟩) ((hz.ext (Ext.alloc (Ext.refl Y) _) (fun _ h => h)).to (Kept.refl _ _) (fun k h => Nat.lt_of_lt_of_le h (Ext.alloc (Ext.refl Y) _).size)) (one_pows (w := Y) (by unfold inI64; omega) (by unfold inI64; omega) 51) 49) (fun _ h => h) (fun t ht => by rw [List.mem_singleton.1 ht]; show (ofI 1).mag.length ≤ _; rw [ofI_len]; exact Nat.le_trans (lenI_small (by decide)) (by decide)) (by decide) (by simp) (by unfold mayMs; simp [hm]))
 have e1 : toP [⟨ofI 1, [(v, e)]⟩] = [(1, [(v, e)])] := by unfold toP; simp [valI_ofI]
 have e2 : normP [(1, [(v, e)])] = [(1, [(v, e)])] := by rw [norm_one]; rfl
 simp only [e1, e2] at CF
 unfold OkPoly at CF
 clear e1 e2 hm
 go_enter Tryz.func159, Tryz.ntmps159
 go_wp2_with fail
 with_reducible refine CO.out.mono ?_
 rintro e w1 ⟨v1, rfl, ⟨vz, rfl, hz⟩, hx1⟩
 have HX1 := hid hx1
 have CF1 := hid (CF.out w1 vz (hz.to (Kept.refl _ _) New.lt))
 rw [size_alloc] at CF1
 obtain ⟨az, cz, rfl⟩ := hz.form
 clear hz hx1
 go_wp2_with fail
 with_reducible refine CF1.out.mono ?_
 rintro e w2 ⟨v2, rfl, hp2, hx2⟩
 have HX2 := hid (((HX1.out.alloc _).alloc _).trans hx2)
 have HP2 := hid (hp2.to (S' := New W w2) (Kept.refl _ _) (fun k h => ⟨Nat.le_trans ((HX1.out.alloc _).alloc _).size h.1, h.2⟩))
 clear hp2 hx2
 go_wp2
 all_goals
  go_ret2
  exact ⟨_, rfl, HP2.out, HX2.out⟩
end
section
open Go.RowKit
section
variable {W : World} {u v : Value} {p q : PZ} {k l n m : Nat}
theorem neg_times {p : PZ} (cp : canP p) : timesP p (oneZ (-1) []) = some (negP p) := by
 have e : oneZ (-1) [] = [((-1 : Int), ([] : Mono))] := rfl
 rw [e]
 have e2 : mulL p [((-1 : Int), ([] : Mono))] = negP p := by
  rw [mulL_one]
  unfold negP
  refine List.map_congr_left (fun t ht => ?_)
  rw [times_one_right (may_ok (cp.1 t ht).2), Int.mul_neg_one]
 have e3 := times_norm cp.may (q := [((-1 : Int), ([] : Mono))]) (fun t ht => by rw [List.mem_singleton.1 ht]; rfl) (by rw [e2]; exact (negP_can cp).may)
 rw [e3, e2, normP_of_can (negP_can cp)]
theorem z_neg (hp : PV W u p) (fp : Fit k n p) (hk : k ≤ 1000000) (hn : n ≤ 1000000000000) : Calls Tryz.prog 160 #[u] W (OkPoly W (negP p)) := by
 have C1 := hid (whole_of (-1) W (by decide))
 have C2 := hid (fun (Y : World) (vz : Value) (hY : Ext W Y) (hz : IntV (Old Y) Y vz (ofI (-1))) => z_shift (c := -1) (m := []) (l := 1) (Terms.on hp hY) hz (Pows.empty (Old Y) Y none) fp rfl (by decide) (.inr (by decide)) hk (by decide) hn)
 simp only [neg_times fp.can] at C2
 unfold TimesPost OkPoly at C2
 obtain ⟨a, c, rfl⟩ := hp.form
 obtain ⟨np, hnp⟩ : ∃ n, n = (ofP p).length := ⟨_, rfl⟩
 rw [← hnp] at C2 ⊢
 unfold OkPoly
 clear hp fp hnp
 go_enter Tryz.func160, Tryz.ntmps160
 go_wp2_with fail
 with_reducible refine C1.out.mono ?_
 rintro e w1 ⟨v1, rfl, ⟨vz, rfl, hz⟩, hx1⟩
 have HX1 := hid hx1
 have C3 := hid (C2.out w1 (.agg #[.bool (ofI (-1)).neg, vz]) hx1 ⟨vz, rfl, hz.to (Kept.refl _ _) New.lt⟩)
 obtain ⟨az, cz, rfl⟩ := hz.form
 obtain ⟨nz, hnz⟩ : ∃ n, n = (ofI (-1)).mag.length := ⟨_, rfl⟩
 obtain ⟨ng, hng⟩ : ∃ n, n = (ofI (-1)).neg := ⟨_, rfl⟩
 rw [← hnz, ← hng] at C3 ⊢
 clear hz hx1 hnz hng
 go_wp2_with fail
 with_reducible refine C3.out.mono ?_
 rintro e w2 ⟨v2, rfl, hp2, hx2⟩
 have HX2 := hid (HX1.out.trans hx2)
 have HP2 := hid (hp2.to (S' := New W w2) (Kept.refl _ _) (fun k h => ⟨Nat.le_trans HX1.out.size h.1, h.2⟩))
 clear hp2 hx2
 go_wp2
 all_goals
  go_ret2
  exact ⟨_, rfl, HP2.out, HX2.out⟩
end
end
section
open Go.RowKit
end
section
open Go.RowKit
def Val1 (w : World) (p : PZ) : Ending → World → Prop := fun e w' => ∃ v', e = .returned v' ∧ Terms (New w w') w' v' (ofP p) ∧ Ext w w'
def varP (v : Int) : PZ := [(1, [(v, 1)])]
def subP (p q : PZ) : PZ := normP (p ++ negP q)
def plusP (p q : PZ) : PZ := normP (p ++ q)
def mulP (p q : PZ) : PZ := normP (mulL p q)
def linP (a b : Int) : PZ := subP (varP b) (varP a)
theorem fit_var {v : Int} (h : 1 ≤ v ∧ v ≤ 200) : Fit 1 1 (varP v) := by
 have := fit_one (c := 1) (m := [(v, 1)]) (k := 1) (one_may h (by decide)) (lenI_small (by decide))
 exact this
theorem Fit.sub {k n l m : Nat} {p q : PZ} (fp : Fit k n p) (fq : Fit l m q) (hn : n + m ≤ 1000000000000) (hkl : k = l) : Fit (k + 2) (n + m) (subP p q) := by subst hkl; exact fp.add fq.neg hn
theorem Fit.plus {k n m : Nat} {p q : PZ} (fp : Fit k n p) (fq : Fit k m q) (hn : n + m ≤ 1000000000000) : Fit (k + 2) (n + m) (plusP p q) := fp.add fq hn
theorem fit_lin {a b : Int} (ha : 1 ≤ a ∧ a ≤ 200) (hb : 1 ≤ b ∧ b ≤ 200) : Fit 3 2 (linP a b) := (fit_var hb).sub (fit_var ha) (by decide) rfl
def LinM (p : PZ) : Prop := ∀ t ∈ p, ∃ v : Int, (1 ≤ v ∧ v ≤ 200) ∧ t.2 = [(v, 1)]
theorem lin_lin {a b : Int} (ha : 1 ≤ a ∧ a ≤ 200) (hb : 1 ≤ b ∧ b ≤ 200) : LinM (linP a b) := fun t ht => by
 obtain ⟨z, hz, ez⟩ := norm_mem (may_append (fit_var hb).can.may (negP_can (fit_var ha).can).may) ht
 rw [← ez]
 rcases List.mem_append.1 hz with h | h
 ·rw [varP, List.mem_singleton] at h; subst h; exact ⟨b, hb, rfl⟩
 ·rw [varP, negP, List.map_singleton, List.mem_singleton] at h; subst h; exact ⟨a, ha, rfl⟩
theorem lin_mul {p q : PZ} (cp : canP p) (cq : canP q) (hp : LinM p) (hq : LinM q) : timesP p q = some (mulP p q) := by
 refine times_norm cp.may cq.may (fun t ht => ?_)
 unfold mulL at ht
 obtain ⟨x, hx, h2⟩ := List.mem_flatMap.1 ht
 obtain ⟨y, hy, rfl⟩ := List.mem_map.1 h2
 obtain ⟨a, ha, ea⟩ := hp x hx
 obtain ⟨b, hb, eb⟩ := hq y hy
 simp only [ea, eb]
 refine (times_may (one_may ha (by decide)) (one_may hb (by decide))).2 (fun u => ?_)
 rw [ex_one, ex_one]
 split <;> split <;> omega
section
variable {W : World} {u v : Value} {p q : PZ} {k n l m : Nat}
theorem z_sub (hp : PV W u p) (hq : PV W v q) (fp : Fit k n p) (fq : Fit l m q) (hk : k ≤ 1000000) (hl : l ≤ 1000000) (hn : n + m ≤ 1000000000000) :
  Calls Tryz.prog 152 #[u, v] W (OkPoly W (subP p q)) := by
 have C1 := hid (z_neg hq fq hl (by omega))
 have C2 := hid (fun (Y : World) (u2 : Value) (hY : Ext W Y) (hu : PV Y u2 (negP q)) => z_add (Terms.on hp hY) hu fp fq.neg hk hl hn)
 unfold OkPoly at C1 C2 ⊢
 unfold subP
 obtain ⟨ap, cp, rfl⟩ := hp.form
 obtain ⟨aq, cq, rfl⟩ := hq.form
 obtain ⟨np, hnp⟩ : ∃ n, n = (ofP p).length := ⟨_, rfl⟩
 obtain ⟨nq, hnq⟩ : ∃ n, n = (ofP q).length := ⟨_, rfl⟩
 rw [← hnp] at C2 ⊢
 rw [← hnq] at C1 ⊢
 clear hp hq fp fq hnp hnq
 go_enter Tryz.func152, Tryz.ntmps152
 go_wp2_with fail
 with_reducible refine C1.out.mono ?_
 rintro e w1 ⟨v1, rfl, hp1, hx1⟩
 have HX1 := hid hx1
 have C3 := hid (C2.out w1 v1 hx1 (hp1.to (Kept.refl _ _) New.lt))
 obtain ⟨a1, c1, rfl⟩ := hp1.form
 clear hp1 hx1
 go_wp2_with fail
 with_reducible refine C3.out.mono ?_
 rintro e w2 ⟨v2, rfl, hp2, hx2⟩
 have HP2 := hid (hp2.to (S' := New W w2) (Kept.refl _ _) (New.mono HX1.out))
 have HX2 := hid (HX1.out.trans hx2)
 clear hp2 hx2
 go_wp2
 all_goals
  go_ret2
  exact ⟨_, rfl, HP2.out, HX2.out⟩
theorem hypo_less (hp : PV W u p) (hq : PV W v q) (fp : Fit k n p) (fq : Fit l m q) (hk : k ≤ 1000000) (hl : l ≤ 1000000) (hn : n + m ≤ 1000000000000) :
  Calls Tryz.prog 137 #[u, v] W (Val1 W (subP p q)) := by
 have C1 := hid (z_sub hp hq fp fq hk hl hn)
 unfold OkPoly at C1
 unfold Val1
 obtain ⟨ap, cp, rfl⟩ := hp.form
 obtain ⟨aq, cq, rfl⟩ := hq.form
 clear hp hq fp fq
 go_enter Tryz.func137, Tryz.ntmps137
 go_wp2_with fail
 with_reducible refine C1.out.mono ?_
 rintro e w1 ⟨v1, rfl, hp1, hx1⟩
 have HX1 := hid hx1
 have HP1 := hid hp1
 clear hp1 hx1
 go_wp2
 all_goals
  go_ret
  exact ⟨_, rfl, HP1.out, HX1.out⟩
theorem hypo_sum (hp : PV W u p) (hq : PV W v q) (fp : Fit k n p) (fq : Fit l m q) (hk : k ≤ 1000000) (hl : l ≤ 1000000) (hn : n + m ≤ 1000000000000) :
  Calls Tryz.prog 133 #[u, v] W (Val1 W (plusP p q)) := by
 have C1 := hid (z_add hp hq fp fq hk hl hn)
 unfold OkPoly at C1
 unfold Val1 plusP
 obtain ⟨ap, cp, rfl⟩ := hp.form
 obtain ⟨aq, cq, rfl⟩ := hq.form
 clear hp hq fp fq
 go_enter Tryz.func133, Tryz.ntmps133
 go_wp2_with fail
 with_reducible refine C1.out.mono ?_
 rintro e w1 ⟨v1, rfl, hp1, hx1⟩
 have HX1 := hid hx1
 have HP1 := hid hp1
 clear hp1 hx1
 go_wp2
 all_goals
  go_ret
  exact ⟨_, rfl, HP1.out, HX1.out⟩
theorem hypo_product (hp : PV W u p) (hq : PV W v q) (fp : Fit k n p) (fq : Fit l m q) (gp : LinM p) (gq : LinM q) (hk : k < 24) (hl : l < 24) (hn : n * m ≤ 1000000000000) :
  Calls Tryz.prog 134 #[u, v] W (Val1 W (mulP p q)) := by
 have C1 := z_times hp hq fp fq (.inl hk) (by omega) (by omega) hn
 rw [lin_mul fp.can fq.can gp gq] at C1
 unfold TimesPost OkPoly at C1
 have HC := hid C1
 unfold Val1
 obtain ⟨ap, cp, rfl⟩ := hp.form
 obtain ⟨aq, cq, rfl⟩ := hq.form
 clear hp hq fp fq gp gq C1
 go_enter Tryz.func134, Tryz.ntmps134
 go_wp2_with fail
 with_reducible refine HC.out.mono ?_
 rintro e w1 ⟨v1, rfl, hp1, hx1⟩
 have HX1 := hid hx1
 have HP1 := hid hp1
 clear hp1 hx1
 go_wp2
 all_goals
  go_ret
  exact ⟨_, rfl, HP1.out, HX1.out⟩
end
theorem hypo_variable (W : World) {v : Int} (hv : 1 ≤ v ∧ v ≤ 200) : Calls Tryz.prog 151 #[.int .i64 v] W (Val1 W (varP v)) := by
 have C1 := hid (z_var W v 1 hv (by decide))
 unfold OkPoly at C1
 unfold Val1 varP
 clear hv
 go_enter Tryz.func151, Tryz.ntmps151
 go_wp2_with fail
 with_reducible refine C1.out.mono ?_
 rintro e w1 ⟨v1, rfl, hp1, hx1⟩
 have HX1 := hid hx1
 have HP1 := hid hp1
 clear hp1 hx1
 go_wp2
 all_goals
  go_ret
  exact ⟨_, rfl, HP1.out, HX1.out⟩
theorem spots_x {W : World} {vs : Value} {cs : List (Int × Int)} {a b : Nat} {A B : Int × Int} (hs : Pows (Old W) W vs cs) (ha : cs[a]? = some A) (hb : cs[b]? = some B) (hA : 1 ≤ A.1 ∧ A.1 ≤ 200) (hB : 1 ≤ B.1 ∧ B.1 ≤ 200) :
  Calls Tryz.prog 135 #[vs, .int .i64 (a : Int), .int .i64 (b : Int)] W (Val1 W (linP A.1 B.1)) := by
 have HS := hid hs
 have h1 := lt_of_some ha
 have h2 := lt_of_some hb
 have HFA := hid (fit_var hA)
 have HFB := hid (fit_var hB)
 have CV := hid (hypo_variable W.drew hB)
 have CA := hid (fun Y => hypo_variable Y hA)
 have CL := hid (fun (Y : World) (u1 u2 : Value) (k1 : PV Y u1 (varP B.1)) (k2 : PV Y u2 (varP A.1)) => hypo_less k1 k2 HFB.out HFA.out (by decide) (by decide) (by decide))
 unfold Val1 at CV CA CL ⊢
 unfold linP
 obtain ⟨n, hn⟩ : ∃ n, n = cs.length := ⟨_, rfl⟩
 rw [← hn] at h1 h2
 obtain ⟨ap, cp, e0⟩ := hs.form
 rw [← hn] at e0
 subst e0
 obtain ⟨b0, off, rfl, -, hn1, hn2, hS0, -, hca, -⟩ := HS.out.cellAt ha
 obtain ⟨b1, off1, e1, -, -, -, -, -, hcb, -⟩ := HS.out.cellAt hb
 obtain ⟨rfl, rfl⟩ : b0 = b1 ∧ off = off1 := by simpa using e1
 obtain ⟨x, hx⟩ : ∃ x, x = A.1 := ⟨_, rfl⟩
 obtain ⟨y, hy⟩ : ∃ y, y = B.1 := ⟨_, rfl⟩
 rw [← hx] at hca CA CL ⊢
 rw [← hy] at hcb CV CL ⊢
 have HD := hid (show Ext W W.drew from Ext.drew (Ext.refl _))
 have HC : Hid (∀ Y, Ext W Y → Y.cell? ⟨b0, off + b * 2, none⟩ = some (.int .i64 y) ∧ Y.cell? ⟨b0, off + a * 2, none⟩ = some (.int .i64 x)) := hid (fun Y h => ⟨h.cell hcb, h.cell hca⟩)
 have S0 := HC.out _ HD.out
 clear hs ha hb hA hB hn e1 hca hcb hx hy
 go_enter Tryz.func135, Tryz.ntmps135
 go_wp2
 go_region_held3 (fun Y => Y.cell? ⟨b0, off + b * 2, none⟩ = some (.int .i64 y) ∧ Y.cell? ⟨b0, off + a * 2, none⟩ = some (.int .i64 x)) (first | exact S0 | exact S1 | exact S2 | exact S3)
  (first
   | (go_at_call 151; (with_reducible refine CV.out.mono ?_); rintro e w1 ⟨v1, rfl, hp1, hx1⟩; have S1 := HC.out _ (HD.out.trans hx1); have HX1 := hid (HD.out.trans hx1); have HP1 := hid (hp1.to (S' := Old w1) (Kept.refl _ _) New.lt); obtain ⟨a1, c1, rfl⟩ := hp1.form; clear hx1 hp1)
   | (go_at_call 151; (with_reducible refine (CA.out w1).mono ?_); rintro e w2 ⟨v2, rfl, hp2, hx2⟩; have S2 := HC.out _ (HX1.out.trans hx2); have HX2 := hid (HX1.out.trans hx2); have HX2' := hid hx2; have HP2 := hid (hp2.to (S' := Old w2) (Kept.refl _ _) New.lt); obtain ⟨a2, c2, rfl⟩ := hp2.form; clear hx2 hp2)
   | (go_at_call 137; (with_reducible refine (CL.out w2 _ _ (Terms.on HP1.out HX2'.out) HP2.out).mono ?_); rintro e w3 ⟨v3, rfl, hp3, hx3⟩; have S3 := HC.out _ (HX2.out.trans hx3); have HX3 := hid (HX2.out.trans hx3); have HP3 := hid (hp3.to (S' := New W w3) (Kept.refl _ _) (New.mono HX2.out)); obtain ⟨a3, c3, rfl⟩ := hp3.form; clear hx3 hp3)
   | fail)
 all_goals
  go_wp2_with fail
  go_ret
  exact ⟨_, rfl, HP3.out, HX3.out⟩
theorem spots_y {W : World} {vs : Value} {cs : List (Int × Int)} {a b : Nat} {A B : Int × Int} (hs : Pows (Old W) W vs cs) (ha : cs[a]? = some A) (hb : cs[b]? = some B) (hA : 1 ≤ A.2 ∧ A.2 ≤ 200) (hB : 1 ≤ B.2 ∧ B.2 ≤ 200) :
  Calls Tryz.prog 136 #[vs, .int .i64 (a : Int), .int .i64 (b : Int)] W (Val1 W (linP A.2 B.2)) := by
 have HS := hid hs
 have h1 := lt_of_some ha
 have h2 := lt_of_some hb
 have HFA := hid (fit_var hA)
 have HFB := hid (fit_var hB)
 have CV := hid (hypo_variable W.drew hB)
 have CA := hid (fun Y => hypo_variable Y hA)
 have CL := hid (fun (Y : World) (u1 u2 : Value) (k1 : PV Y u1 (varP B.2)) (k2 : PV Y u2 (varP A.2)) => hypo_less k1 k2 HFB.out HFA.out (by decide) (by decide) (by decide))
 unfold Val1 at CV CA CL ⊢
 unfold linP
 obtain ⟨n, hn⟩ : ∃ n, n = cs.length := ⟨_, rfl⟩
 rw [← hn] at h1 h2
 obtain ⟨ap, cp, e0⟩ := hs.form
 rw [← hn] at e0
 subst e0
 obtain ⟨b0, off, rfl, -, hn1, hn2, hS0, -, -, hca⟩ := HS.out.cellAt ha
 obtain ⟨b1, off1, e1, -, -, -, -, -, -, hcb⟩ := HS.out.cellAt hb
 obtain ⟨rfl, rfl⟩ : b0 = b1 ∧ off = off1 := by simpa using e1
 obtain ⟨x, hx⟩ : ∃ x, x = A.2 := ⟨_, rfl⟩
 obtain ⟨y, hy⟩ : ∃ y, y = B.2 := ⟨_, rfl⟩
 rw [← hx] at hca CA CL ⊢
 rw [← hy] at hcb CV CL ⊢
 have HD := hid (show Ext W W.drew from Ext.drew (Ext.refl _))
 have HC : Hid (∀ Y, Ext W Y → Y.cell? ⟨b0, off + b * 2 + 1, none⟩ = some (.int .i64 y) ∧ Y.cell? ⟨b0, off + a * 2 + 1, none⟩ = some (.int .i64 x)) := hid (fun Y h => ⟨h.cell hcb, h.cell hca⟩)
 have S0 := HC.out _ HD.out
 clear hs ha hb hA hB hn e1 hca hcb hx hy
 go_enter Tryz.func136, Tryz.ntmps136
 go_wp2
 go_region_held3 (fun Y => Y.cell? ⟨b0, off + b * 2 + 1, none⟩ = some (.int .i64 y) ∧ Y.cell? ⟨b0, off + a * 2 + 1, none⟩ = some (.int .i64 x)) (first | exact S0 | exact S1 | exact S2 | exact S3)
  (first
   | (go_at_call 151; (with_reducible refine CV.out.mono ?_); rintro e w1 ⟨v1, rfl, hp1, hx1⟩; have S1 := HC.out _ (HD.out.trans hx1); have HX1 := hid (HD.out.trans hx1); have HP1 := hid (hp1.to (S' := Old w1) (Kept.refl _ _) New.lt); obtain ⟨a1, c1, rfl⟩ := hp1.form; clear hx1 hp1)
   | (go_at_call 151; (with_reducible refine (CA.out w1).mono ?_); rintro e w2 ⟨v2, rfl, hp2, hx2⟩; have S2 := HC.out _ (HX1.out.trans hx2); have HX2 := hid (HX1.out.trans hx2); have HX2' := hid hx2; have HP2 := hid (hp2.to (S' := Old w2) (Kept.refl _ _) New.lt); obtain ⟨a2, c2, rfl⟩ := hp2.form; clear hx2 hp2)
   | (go_at_call 137; (with_reducible refine (CL.out w2 _ _ (Terms.on HP1.out HX2'.out) HP2.out).mono ?_); rintro e w3 ⟨v3, rfl, hp3, hx3⟩; have S3 := HC.out _ (HX2.out.trans hx3); have HX3 := hid (HX2.out.trans hx3); have HP3 := hid (hp3.to (S' := New W w3) (Kept.refl _ _) (New.mono HX2.out)); obtain ⟨a3, c3, rfl⟩ := hp3.form; clear hx3 hp3)
   | fail)
 all_goals
  go_wp2_with fail
  go_ret
  exact ⟨_, rfl, HP3.out, HX3.out⟩
end
section
open Go.RowKit
def Ok2 (A : Int × Int) : Prop := (1 ≤ A.1 ∧ A.1 ≤ 200) ∧ (1 ≤ A.2 ∧ A.2 ≤ 200)
def crossP (A B C D : Int × Int) : PZ := subP (mulP (linP A.1 B.1) (linP C.2 D.2)) (mulP (linP A.2 B.2) (linP C.1 D.1))
def dotP (A B C D : Int × Int) : PZ := plusP (mulP (linP A.1 B.1) (linP C.1 D.1)) (mulP (linP A.2 B.2) (linP C.2 D.2))
theorem fit_mul {p q : PZ} (fp : Fit 3 2 p) (fq : Fit 3 2 q) (gp : LinM p) (gq : LinM q) : Fit 8 4 (mulP p q) := by
 have h := fp.times fq (lin_mul fp.can fq.can gp gq) (by decide)
 exact h.mono (by decide) (by decide)
theorem fit_cross {A B C D : Int × Int} (hA : Ok2 A) (hB : Ok2 B) (hC : Ok2 C) (hD : Ok2 D) : Fit 10 8 (crossP A B C D) :=
 (fit_mul (fit_lin hA.1 hB.1) (fit_lin hC.2 hD.2) (lin_lin hA.1 hB.1) (lin_lin hC.2 hD.2)).sub (fit_mul (fit_lin hA.2 hB.2) (fit_lin hC.1 hD.1) (lin_lin hA.2 hB.2) (lin_lin hC.1 hD.1)) (by decide) rfl
theorem fit_dot {A B C D : Int × Int} (hA : Ok2 A) (hB : Ok2 B) (hC : Ok2 C) (hD : Ok2 D) : Fit 10 8 (dotP A B C D) :=
 (fit_mul (fit_lin hA.1 hB.1) (fit_lin hC.1 hD.1) (lin_lin hA.1 hB.1) (lin_lin hC.1 hD.1)).plus (fit_mul (fit_lin hA.2 hB.2) (fit_lin hC.2 hD.2) (lin_lin hA.2 hB.2) (lin_lin hC.2 hD.2)) (by decide)
theorem spots_cross {W : World} {vs : Value} {cs : List (Int × Int)} {a b c d : Nat} {x0 x1 x2 x3 x4 : Int} {A B C D : Int × Int} (hs : Pows (Old W) W vs cs) (ha : cs[a]? = some A) (hb : cs[b]? = some B) (hc : cs[c]? = some C) (hd : cs[d]? = some D)
  (hA : Ok2 A) (hB : Ok2 B) (hC : Ok2 C) (hD : Ok2 D) (e1 : x1 = (a : Int)) (e2 : x2 = (b : Int)) (e3 : x3 = (c : Int)) (e4 : x4 = (d : Int)) :
  Calls Tryz.prog 118 #[vs, .agg #[.int .u8 x0, .int .i64 x1, .int .i64 x2, .int .i64 x3, .int .i64 x4]] W (Val1 W (crossP A B C D)) := by
 have l1 := fit_lin hA.1 hB.1
 have l2 := fit_lin hC.2 hD.2
 have l3 := fit_lin hA.2 hB.2
 have l4 := fit_lin hC.1 hD.1
 have g1 := lin_lin hA.1 hB.1
 have g2 := lin_lin hC.2 hD.2
 have g3 := lin_lin hA.2 hB.2
 have g4 := lin_lin hC.1 hD.1
 have C1 := hid (fun (Y : World) (hY : Ext W Y) => spots_x (Pows.on hs hY) ha hb hA.1 hB.1)
 have C2 := hid (fun (Y : World) (hY : Ext W Y) => spots_y (Pows.on hs hY) hc hd hC.2 hD.2)
 have C3 := hid (fun (Y : World) (u v : Value) (hu : PV Y u (linP A.1 B.1)) (hv : PV Y v (linP C.2 D.2)) => hypo_product hu hv l1 l2 g1 g2 (by decide) (by decide) (by decide))
 have C4 := hid (fun (Y : World) (hY : Ext W Y) => spots_y (Pows.on hs hY) ha hb hA.2 hB.2)
 have C5 := hid (fun (Y : World) (hY : Ext W Y) => spots_x (Pows.on hs hY) hc hd hC.1 hD.1)
 have C6 := hid (fun (Y : World) (u v : Value) (hu : PV Y u (linP A.2 B.2)) (hv : PV Y v (linP C.1 D.1)) => hypo_product hu hv l3 l4 g3 g4 (by decide) (by decide) (by decide))
 have C7 := hid (fun (Y : World) (u v : Value) (hu : PV Y u (mulP (linP A.1 B.1) (linP C.2 D.2))) (hv : PV Y v (mulP (linP A.2 B.2) (linP C.1 D.1))) => hypo_less hu hv (fit_mul l1 l2 g1 g2) (fit_mul l3 l4 g3 g4) (by decide) (by decide) (by decide))
 unfold Val1 at C1 C2 C3 C4 C5 C6 C7 ⊢
 unfold crossP
 have HX := hid (((Ext.refl W).alloc (.cells #[.int .u8 x0, .int .i64 x1, .int .i64 x2, .int .i64 x3, .int .i64 x4] 170)).drew)
 obtain ⟨w0, hw0⟩ : ∃ Y, Y = (W.alloc (.cells #[.int .u8 x0, .int .i64 x1, .int .i64 x2, .int .i64 x3, .int .i64 x4] 170)).drew := ⟨_, rfl⟩
 have HX0 : Hid (Ext W w0) := hid (by rw [hw0]; exact HX.out)
 have HC : Hid (∀ Y, Ext w0 Y → Y.cell? ⟨W.heap.size, 1, none⟩ = some (.int .i64 x1) ∧ Y.cell? ⟨W.heap.size, 2, none⟩ = some (.int .i64 x2) ∧ Y.cell? ⟨W.heap.size, 3, none⟩ = some (.int .i64 x3) ∧ Y.cell? ⟨W.heap.size, 4, none⟩ = some (.int .i64 x4)) := hid (fun Y h => by
  have k := fun (i : Nat) (v : Value) (hv : #[Value.int .u8 x0, .int .i64 x1, .int .i64 x2, .int .i64 x3, .int .i64 x4][i]? = some v) => h.cell (v := v) (b := W.heap.size) (i := i) (by rw [hw0]; exact cell_new W _ _ rfl hv)
  exact ⟨k 1 _ rfl, k 2 _ rfl, k 3 _ rfl, k 4 _ rfl⟩)
 have S0 := HC.out _ (Ext.refl _)
 rw [hw0] at S0
 have HW0 := hid hw0
 obtain ⟨ap, cp, rfl⟩ := hs.form
 subst e1 e2 e3 e4
 clear hs ha hb hc hd hA hB hC hD l1 l2 l3 l4 g1 g2 g3 g4 hw0
 go_enter Tryz.func118, Tryz.ntmps118
 go_wp2
 go_region_held3 (fun Y => Y.cell? ⟨W.heap.size, 1, none⟩ = some (.int .i64 (a : Int)) ∧ Y.cell? ⟨W.heap.size, 2, none⟩ = some (.int .i64 (b : Int)) ∧ Y.cell? ⟨W.heap.size, 3, none⟩ = some (.int .i64 (c : Int)) ∧ Y.cell? ⟨W.heap.size, 4, none⟩ = some (.int .i64 (d : Int))) (first | exact S0 | exact S1 | exact S2 | exact S3 | exact S4 | exact S5 | exact S6 | exact S7)
  (first
   | (go_at_call 135; (with_reducible refine (C1.out _ HX.out).mono ?_); rintro e w1 ⟨v1, rfl, hp1, hx1⟩; rw [← HW0.out] at hx1; have S1 := HC.out _ hx1; have HX1 := hid hx1; have HP1 := hid (hp1.to (S' := Old w1) (Kept.refl _ _) New.lt); obtain ⟨a1, c1, rfl⟩ := hp1.form; clear hx1 hp1)
   | (go_at_call 136; (with_reducible refine (C2.out w1 (HX0.out.trans HX1.out)).mono ?_); rintro e w2 ⟨v2, rfl, hp2, hx2⟩; have HX2 := hid (HX1.out.trans hx2); have S2 := HC.out _ HX2.out; have HX2' := hid hx2; have HP2 := hid (hp2.to (S' := Old w2) (Kept.refl _ _) New.lt); obtain ⟨a2, c2, rfl⟩ := hp2.form; clear hx2 hp2)
   | (go_at_call 134; (with_reducible refine (C3.out w2 _ _ (Terms.on HP1.out HX2'.out) HP2.out).mono ?_); rintro e w3 ⟨v3, rfl, hp3, hx3⟩; have HX3 := hid (HX2.out.trans hx3); have S3 := HC.out _ HX3.out; have HP3 := hid (hp3.to (S' := Old w3) (Kept.refl _ _) New.lt); obtain ⟨a3, c3, rfl⟩ := hp3.form; clear hx3 hp3)
   | (go_at_call 136; (with_reducible refine (C4.out w3 (HX0.out.trans HX3.out)).mono ?_); rintro e w4 ⟨v4, rfl, hp4, hx4⟩; have HX4 := hid (HX3.out.trans hx4); have S4 := HC.out _ HX4.out; have HP3 := hid (Terms.on HP3.out hx4); have HP4 := hid (hp4.to (S' := Old w4) (Kept.refl _ _) New.lt); obtain ⟨a4, c4, rfl⟩ := hp4.form; clear hx4 hp4)
   | (go_at_call 135; (with_reducible refine (C5.out w4 (HX0.out.trans HX4.out)).mono ?_); rintro e w5 ⟨v5, rfl, hp5, hx5⟩; have HX5 := hid (HX4.out.trans hx5); have S5 := HC.out _ HX5.out; have HP3 := hid (Terms.on HP3.out hx5); have HP4 := hid (Terms.on HP4.out hx5); have HP5 := hid (hp5.to (S' := Old w5) (Kept.refl _ _) New.lt); obtain ⟨a5, c5, rfl⟩ := hp5.form; clear hx5 hp5)
   | (go_at_call 134; (with_reducible refine (C6.out w5 _ _ HP4.out HP5.out).mono ?_); rintro e w6 ⟨v6, rfl, hp6, hx6⟩; have HX6 := hid (HX5.out.trans hx6); have S6 := HC.out _ HX6.out; have HP3 := hid (Terms.on HP3.out hx6); have HP6 := hid (hp6.to (S' := Old w6) (Kept.refl _ _) New.lt); obtain ⟨a6, c6, rfl⟩ := hp6.form; clear hx6 hp6)
   | (go_at_call 137; (with_reducible refine (C7.out w6 _ _ HP3.out HP6.out).mono ?_); rintro e w7 ⟨v7, rfl, hp7, hx7⟩; have HX7 := hid (HX6.out.trans hx7); have S7 := HC.out _ HX7.out; have HX8 := hid (HX0.out.trans HX7.out); have HP7 := hid (hp7.to (S' := New W w7) (Kept.refl _ _) (New.mono (HX0.out.trans HX6.out))); obtain ⟨a7, c7, rfl⟩ := hp7.form; clear hx7 hp7)
   | fail)
 all_goals
  go_wp2_with fail
  go_ret
  exact ⟨_, rfl, HP7.out, HX8.out⟩
theorem spots_dot {W : World} {vs : Value} {cs : List (Int × Int)} {a b c d : Nat} {x0 x1 x2 x3 x4 : Int} {A B C D : Int × Int} (hs : Pows (Old W) W vs cs) (ha : cs[a]? = some A) (hb : cs[b]? = some B) (hc : cs[c]? = some C) (hd : cs[d]? = some D)
  (hA : Ok2 A) (hB : Ok2 B) (hC : Ok2 C) (hD : Ok2 D) (e1 : x1 = (a : Int)) (e2 : x2 = (b : Int)) (e3 : x3 = (c : Int)) (e4 : x4 = (d : Int)) :
  Calls Tryz.prog 117 #[vs, .agg #[.int .u8 x0, .int .i64 x1, .int .i64 x2, .int .i64 x3, .int .i64 x4]] W (Val1 W (dotP A B C D)) := by
 have l1 := fit_lin hA.1 hB.1
 have l2 := fit_lin hC.1 hD.1
 have l3 := fit_lin hA.2 hB.2
 have l4 := fit_lin hC.2 hD.2
 have g1 := lin_lin hA.1 hB.1
 have g2 := lin_lin hC.1 hD.1
 have g3 := lin_lin hA.2 hB.2
 have g4 := lin_lin hC.2 hD.2
 have C1 := hid (fun (Y : World) (hY : Ext W Y) => spots_x (Pows.on hs hY) ha hb hA.1 hB.1)
 have C2 := hid (fun (Y : World) (hY : Ext W Y) => spots_x (Pows.on hs hY) hc hd hC.1 hD.1)
 have C3 := hid (fun (Y : World) (u v : Value) (hu : PV Y u (linP A.1 B.1)) (hv : PV Y v (linP C.1 D.1)) => hypo_product hu hv l1 l2 g1 g2 (by decide) (by decide) (by decide))
 have C4 := hid (fun (Y : World) (hY : Ext W Y) => spots_y (Pows.on hs hY) ha hb hA.2 hB.2)
 have C5 := hid (fun (Y : World) (hY : Ext W Y) => spots_y (Pows.on hs hY) hc hd hC.2 hD.2)
 have C6 := hid (fun (Y : World) (u v : Value) (hu : PV Y u (linP A.2 B.2)) (hv : PV Y v (linP C.2 D.2)) => hypo_product hu hv l3 l4 g3 g4 (by decide) (by decide) (by decide))
 have C7 := hid (fun (Y : World) (u v : Value) (hu : PV Y u (mulP (linP A.1 B.1) (linP C.1 D.1))) (hv : PV Y v (mulP (linP A.2 B.2) (linP C.2 D.2))) => hypo_sum hu hv (fit_mul l1 l2 g1 g2) (fit_mul l3 l4 g3 g4) (by decide) (by decide) (by decide))
 unfold Val1 at C1 C2 C3 C4 C5 C6 C7 ⊢
 unfold dotP
 have HX := hid (((Ext.refl W).alloc (.cells #[.int .u8 x0, .int .i64 x1, .int .i64 x2, .int .i64 x3, .int .i64 x4] 170)).drew)
 obtain ⟨w0, hw0⟩ : ∃ Y, Y = (W.alloc (.cells #[.int .u8 x0, .int .i64 x1, .int .i64 x2, .int .i64 x3, .int .i64 x4] 170)).drew := ⟨_, rfl⟩
 have HX0 : Hid (Ext W w0) := hid (by rw [hw0]; exact HX.out)
 have HC : Hid (∀ Y, Ext w0 Y → Y.cell? ⟨W.heap.size, 1, none⟩ = some (.int .i64 x1) ∧ Y.cell? ⟨W.heap.size, 2, none⟩ = some (.int .i64 x2) ∧ Y.cell? ⟨W.heap.size, 3, none⟩ = some (.int .i64 x3) ∧ Y.cell? ⟨W.heap.size, 4, none⟩ = some (.int .i64 x4)) := hid (fun Y h => by
  have k := fun (i : Nat) (v : Value) (hv : #[Value.int .u8 x0, .int .i64 x1, .int .i64 x2, .int .i64 x3, .int .i64 x4][i]? = some v) => h.cell (v := v) (b := W.heap.size) (i := i) (by rw [hw0]; exact cell_new W _ _ rfl hv)
  exact ⟨k 1 _ rfl, k 2 _ rfl, k 3 _ rfl, k 4 _ rfl⟩)
 have S0 := HC.out _ (Ext.refl _)
 rw [hw0] at S0
 have HW0 := hid hw0
 obtain ⟨ap, cp, rfl⟩ := hs.form
 subst e1 e2 e3 e4
 clear hs ha hb hc hd hA hB hC hD l1 l2 l3 l4 g1 g2 g3 g4 hw0
 go_enter Tryz.func117, Tryz.ntmps117
 go_wp2
 go_region_held3 (fun Y => Y.cell? ⟨W.heap.size, 1, none⟩ = some (.int .i64 (a : Int)) ∧ Y.cell? ⟨W.heap.size, 2, none⟩ = some (.int .i64 (b : Int)) ∧ Y.cell? ⟨W.heap.size, 3, none⟩ = some (.int .i64 (c : Int)) ∧ Y.cell? ⟨W.heap.size, 4, none⟩ = some (.int .i64 (d : Int))) (first | exact S0 | exact S1 | exact S2 | exact S3 | exact S4 | exact S5 | exact S6 | exact S7)
  (first
   | (go_at_call 135; (with_reducible refine (C1.out _ HX.out).mono ?_); rintro e w1 ⟨v1, rfl, hp1, hx1⟩; rw [← HW0.out] at hx1; have S1 := HC.out _ hx1; have HX1 := hid hx1; have HP1 := hid (hp1.to (S' := Old w1) (Kept.refl _ _) New.lt); obtain ⟨a1, c1, rfl⟩ := hp1.form; clear hx1 hp1)
   | (go_at_call 135; (with_reducible refine (C2.out w1 (HX0.out.trans HX1.out)).mono ?_); rintro e w2 ⟨v2, rfl, hp2, hx2⟩; have HX2 := hid (HX1.out.trans hx2); have S2 := HC.out _ HX2.out; have HX2' := hid hx2; have HP2 := hid (hp2.to (S' := Old w2) (Kept.refl _ _) New.lt); obtain ⟨a2, c2, rfl⟩ := hp2.form; clear hx2 hp2)
   | (go_at_call 134; (with_reducible refine (C3.out w2 _ _ (Terms.on HP1.out HX2'.out) HP2.out).mono ?_); rintro e w3 ⟨v3, rfl, hp3, hx3⟩; have HX3 := hid (HX2.out.trans hx3); have S3 := HC.out _ HX3.out; have HP3 := hid (hp3.to (S' := Old w3) (Kept.refl _ _) New.lt); obtain ⟨a3, c3, rfl⟩ := hp3.form; clear hx3 hp3)
   | (go_at_call 136; (with_reducible refine (C4.out w3 (HX0.out.trans HX3.out)).mono ?_); rintro e w4 ⟨v4, rfl, hp4, hx4⟩; have HX4 := hid (HX3.out.trans hx4); have S4 := HC.out _ HX4.out; have HP3 := hid (Terms.on HP3.out hx4); have HP4 := hid (hp4.to (S' := Old w4) (Kept.refl _ _) New.lt); obtain ⟨a4, c4, rfl⟩ := hp4.form; clear hx4 hp4)
   | (go_at_call 136; (with_reducible refine (C5.out w4 (HX0.out.trans HX4.out)).mono ?_); rintro e w5 ⟨v5, rfl, hp5, hx5⟩; have HX5 := hid (HX4.out.trans hx5); have S5 := HC.out _ HX5.out; have HP3 := hid (Terms.on HP3.out hx5); have HP4 := hid (Terms.on HP4.out hx5); have HP5 := hid (hp5.to (S' := Old w5) (Kept.refl _ _) New.lt); obtain ⟨a5, c5, rfl⟩ := hp5.form; clear hx5 hp5)
   | (go_at_call 134; (with_reducible refine (C6.out w5 _ _ HP4.out HP5.out).mono ?_); rintro e w6 ⟨v6, rfl, hp6, hx6⟩; have HX6 := hid (HX5.out.trans hx6); have S6 := HC.out _ HX6.out; have HP3 := hid (Terms.on HP3.out hx6); have HP6 := hid (hp6.to (S' := Old w6) (Kept.refl _ _) New.lt); obtain ⟨a6, c6, rfl⟩ := hp6.form; clear hx6 hp6)
   | (go_at_call 133; (with_reducible refine (C7.out w6 _ _ HP3.out HP6.out).mono ?_); rintro e w7 ⟨v7, rfl, hp7, hx7⟩; have HX7 := hid (HX6.out.trans hx7); have S7 := HC.out _ HX7.out; have HX8 := hid (HX0.out.trans HX7.out); have HP7 := hid (hp7.to (S' := New W w7) (Kept.refl _ _) (New.mono (HX0.out.trans HX6.out))); obtain ⟨a7, c7, rfl⟩ := hp7.form; clear hx7 hp7)
   | fail)
 all_goals
  go_wp2_with fail
  go_ret
  exact ⟨_, rfl, HP7.out, HX8.out⟩
end
section
open Go.RowKit
theorem rz_mul {W : World} {u v : Value} {p q : PZ} (hp : RV W u p) (hq : RV W v q) (fp : Fit 3 2 p) (fq : Fit 3 2 q) (gp : LinM p) (gq : LinM q) :
  Calls Tryz.prog 18 #[u, v] W fun e w' => ∃ v', e = .returned v' ∧ RV w' v' (mulP p q) ∧ Ext W w' :=
 (rpoly_mul (S := Old W) u v p q W (fun _ h => h) hp hq fp.can.may fq.can.may (fit_szP fp (by decide) (by decide)) (fit_szP fq (by decide) (by decide)) (fit_szM2 fp fq (by decide) (by decide))).mono (by
  rintro e w' ⟨v', rfl, h, hx⟩
  rw [lin_mul fp.can fq.can gp gq] at h
  exact ⟨v', rfl, h.to (Kept.refl _ _) (plus_old hx), hx⟩)
theorem rz_x (W : World) {x : Int} (hx : 1 ≤ x ∧ x ≤ 200) : Calls Tryz.prog 30 #[.int .i64 x] W fun e w' => ∃ v', e = .returned v' ∧ RV w' v' (varP x) ∧ Ext W w' :=
 (rpoly_x x W (by unfold inI64; omega)).mono (by
  rintro e w' ⟨v', rfl, h, hx⟩
  exact ⟨v', rfl, h.to (Kept.refl _ _) New.lt, hx⟩)
theorem box2 {W Y : World} {a b c d : Value} {T : TypeId} (h : Ext (((W.alloc (.cells #[a, b] T)).alloc (.cells #[c, d] T)).drew) Y) :
  Y.cell? ⟨W.heap.size, 0, none⟩ = some a ∧ Y.cell? ⟨W.heap.size, 1, none⟩ = some b ∧ Y.cell? ⟨W.heap.size + 1, 0, none⟩ = some c ∧ Y.cell? ⟨W.heap.size + 1, 1, none⟩ = some d := by
 have h2 : Ext ((W.alloc (.cells #[a, b] T)).alloc (.cells #[c, d] T)) Y := (Ext.drew (Ext.refl _)).trans h
 exact ⟨h2.cell (cell_old _ (cell_new _ _ _ rfl rfl)), h2.cell (cell_old _ (cell_new _ _ _ rfl rfl)), h2.cell (cell_new _ _ _ (by rw [size_alloc]) rfl), h2.cell (cell_new _ _ _ (by rw [size_alloc]) rfl)⟩
theorem ref_x (W : World) {A B : Int × Int} (hA : Ok2 A) (hB : Ok2 B) : Calls Tryz.prog 85 #[.agg #[.int .i64 A.1, .int .i64 A.2], .agg #[.int .i64 B.1, .int .i64 B.2]] W fun e w' => ∃ v', e = .returned v' ∧ RV w' v' (linP A.1 B.1) ∧ Ext W w' := by
 obtain ⟨w0, hw0⟩ : ∃ Y, Y = ((W.alloc (.cells #[.int .i64 A.1, .int .i64 A.2] 87)).alloc (.cells #[.int .i64 B.1, .int .i64 B.2] 87)).drew := ⟨_, rfl⟩
 have HX0 : Hid (Ext W w0) := hid (by rw [hw0]; exact ((Ext.alloc (Ext.refl _) _).alloc _).drew)
 have HC : Hid (∀ Y, Ext w0 Y → Y.cell? ⟨W.heap.size + 1, 0, none⟩ = some (.int .i64 B.1) ∧ Y.cell? ⟨W.heap.size, 0, none⟩ = some (.int .i64 A.1)) := hid (fun Y h => by
  rw [hw0] at h
  have k := box2 h
  exact ⟨k.2.2.1, k.1⟩)
 have C1 := hid (rz_x w0 hB.1)
 have C2 := hid (fun Y => rz_x Y hA.1)
 have C3 := hid (fun (Y : World) (u v : Value) (hu : RV Y u (varP B.1)) (hv : RV Y v (varP A.1)) => rz_sub hu hv (fit_var hB.1) (fit_var hA.1) (by decide) (by decide) (by decide))
 have S0 := HC.out w0 (Ext.refl _)
 rw [hw0] at C1 S0
 have HW0 := hid hw0
 unfold linP subP
 obtain ⟨x1, x2⟩ := A
 obtain ⟨y1, y2⟩ := B
 simp only at C1 C2 C3 HC S0 HW0 ⊢
 clear hA hB hw0
 go_enter Tryz.func85, Tryz.ntmps85
 go_wp2
 go_region_held3 (fun Y => Y.cell? ⟨W.heap.size + 1, 0, none⟩ = some (.int .i64 y1) ∧ Y.cell? ⟨W.heap.size, 0, none⟩ = some (.int .i64 x1)) (first | exact S0 | exact S1 | exact S2 | exact S3)
  (first
   | (go_at_call 30; (with_reducible refine C1.out.mono ?_); rintro e w1 ⟨v1, rfl, hp1, hx1⟩; rw [← HW0.out] at hx1; have S1 := HC.out _ hx1; have HX1 := hid hx1; have HP1 := hid hp1; obtain ⟨a1, c1, rfl⟩ := hp1.form; clear hx1 hp1)
   | (go_at_call 30; (with_reducible refine (C2.out w1).mono ?_); rintro e w2 ⟨v2, rfl, hp2, hx2⟩; have HX2 := hid (HX1.out.trans hx2); have S2 := HC.out _ HX2.out; have HP1 := hid (RTs.on HP1.out hx2); have HP2 := hid hp2; obtain ⟨a2, c2, rfl⟩ := hp2.form; clear hx2 hp2)
   | (go_at_call 29; (with_reducible refine (C3.out w2 _ _ HP1.out HP2.out).mono ?_); rintro e w3 ⟨v3, rfl, hp3, hx3⟩; have HX3 := hid (HX2.out.trans hx3); have S3 := HC.out _ HX3.out; have HP3 := hid hp3; have HX4 := hid (HX0.out.trans HX3.out); obtain ⟨a3, c3, rfl⟩ := hp3.form; clear hx3 hp3)
   | fail)
 all_goals
  go_wp2_with fail
  go_ret
  exact ⟨_, rfl, HP3.out, HX4.out⟩
theorem ref_y (W : World) {A B : Int × Int} (hA : Ok2 A) (hB : Ok2 B) : Calls Tryz.prog 86 #[.agg #[.int .i64 A.1, .int .i64 A.2], .agg #[.int .i64 B.1, .int .i64 B.2]] W fun e w' => ∃ v', e = .returned v' ∧ RV w' v' (linP A.2 B.2) ∧ Ext W w' := by
 obtain ⟨w0, hw0⟩ : ∃ Y, Y = ((W.alloc (.cells #[.int .i64 A.1, .int .i64 A.2] 87)).alloc (.cells #[.int .i64 B.1, .int .i64 B.2] 87)).drew := ⟨_, rfl⟩
 have HX0 : Hid (Ext W w0) := hid (by rw [hw0]; exact ((Ext.alloc (Ext.refl _) _).alloc _).drew)
 have HC : Hid (∀ Y, Ext w0 Y → Y.cell? ⟨W.heap.size + 1, 1, none⟩ = some (.int .i64 B.2) ∧ Y.cell? ⟨W.heap.size, 1, none⟩ = some (.int .i64 A.2)) := hid (fun Y h => by
  rw [hw0] at h
  have k := box2 h
  exact ⟨k.2.2.2, k.2.1⟩)
 have C1 := hid (rz_x w0 hB.2)
 have C2 := hid (fun Y => rz_x Y hA.2)
 have C3 := hid (fun (Y : World) (u v : Value) (hu : RV Y u (varP B.2)) (hv : RV Y v (varP A.2)) => rz_sub hu hv (fit_var hB.2) (fit_var hA.2) (by decide) (by decide) (by decide))
 have S0 := HC.out w0 (Ext.refl _)
 rw [hw0] at C1 S0
 have HW0 := hid hw0
 unfold linP subP
 obtain ⟨x1, x2⟩ := A
 obtain ⟨y1, y2⟩ := B
 simp only at C1 C2 C3 HC S0 HW0 ⊢
 clear hA hB hw0
 go_enter Tryz.func86, Tryz.ntmps86
 go_wp2
 go_region_held3 (fun Y => Y.cell? ⟨W.heap.size + 1, 1, none⟩ = some (.int .i64 y2) ∧ Y.cell? ⟨W.heap.size, 1, none⟩ = some (.int .i64 x2)) (first | exact S0 | exact S1 | exact S2 | exact S3)
  (first
   | (go_at_call 30; (with_reducible refine C1.out.mono ?_); rintro e w1 ⟨v1, rfl, hp1, hx1⟩; rw [← HW0.out] at hx1; have S1 := HC.out _ hx1; have HX1 := hid hx1; have HP1 := hid hp1; obtain ⟨a1, c1, rfl⟩ := hp1.form; clear hx1 hp1)
   | (go_at_call 30; (with_reducible refine (C2.out w1).mono ?_); rintro e w2 ⟨v2, rfl, hp2, hx2⟩; have HX2 := hid (HX1.out.trans hx2); have S2 := HC.out _ HX2.out; have HP1 := hid (RTs.on HP1.out hx2); have HP2 := hid hp2; obtain ⟨a2, c2, rfl⟩ := hp2.form; clear hx2 hp2)
   | (go_at_call 29; (with_reducible refine (C3.out w2 _ _ HP1.out HP2.out).mono ?_); rintro e w3 ⟨v3, rfl, hp3, hx3⟩; have HX3 := hid (HX2.out.trans hx3); have S3 := HC.out _ HX3.out; have HP3 := hid hp3; have HX4 := hid (HX0.out.trans HX3.out); obtain ⟨a3, c3, rfl⟩ := hp3.form; clear hx3 hp3)
   | fail)
 all_goals
  go_wp2_with fail
  go_ret
  exact ⟨_, rfl, HP3.out, HX4.out⟩
theorem ref_cross (W : World) {A B C D : Int × Int} (hA : Ok2 A) (hB : Ok2 B) (hC : Ok2 C) (hD : Ok2 D) : Calls Tryz.prog 50 #[.agg #[.int .i64 A.1, .int .i64 A.2], .agg #[.int .i64 B.1, .int .i64 B.2], .agg #[.int .i64 C.1, .int .i64 C.2], .agg #[.int .i64 D.1, .int .i64 D.2]] W fun e w' => ∃ v', e = .returned v' ∧ RV w' v' (crossP A B C D) ∧ Ext W w' := by
 have l1 := fit_lin hA.1 hB.1
 have l2 := fit_lin hC.2 hD.2
 have l3 := fit_lin hA.2 hB.2
 have l4 := fit_lin hC.1 hD.1
 have g1 := lin_lin hA.1 hB.1
 have g2 := lin_lin hC.2 hD.2
 have g3 := lin_lin hA.2 hB.2
 have g4 := lin_lin hC.1 hD.1
 obtain ⟨w0, hw0⟩ : ∃ Y, Y = ((((W.alloc (.cells #[.int .i64 A.1, .int .i64 A.2] 87)).alloc (.cells #[.int .i64 B.1, .int .i64 B.2] 87)).alloc (.cells #[.int .i64 C.1, .int .i64 C.2] 87)).alloc (.cells #[.int .i64 D.1, .int .i64 D.2] 87)).drew := ⟨_, rfl⟩
 have HX0 : Hid (Ext W w0) := hid (by rw [hw0]; exact ((((Ext.alloc (Ext.refl _) _).alloc _).alloc _).alloc _).drew)
 have HC : Hid (∀ Y, Ext w0 Y → Y.cell? ⟨W.heap.size, 0, none⟩ = some (.int .i64 A.1) ∧ Y.cell? ⟨W.heap.size, 1, none⟩ = some (.int .i64 A.2) ∧ Y.cell? ⟨W.heap.size + 1, 0, none⟩ = some (.int .i64 B.1) ∧ Y.cell? ⟨W.heap.size + 1, 1, none⟩ = some (.int .i64 B.2) ∧ Y.cell? ⟨W.heap.size + 1 + 1, 0, none⟩ = some (.int .i64 C.1) ∧ Y.cell? ⟨W.heap.size + 1 + 1, 1, none⟩ = some (.int .i64 C.2) ∧ Y.cell? ⟨W.heap.size + 1 + 1 + 1, 0, none⟩ = some (.int .i64 D.1) ∧ Y.cell? ⟨W.heap.size + 1 + 1 + 1, 1, none⟩ = some (.int .i64 D.2)) := hid (fun Y h => by
  rw [hw0] at h
  have h2 := (Ext.drew (Ext.refl _)).trans h
  exact ⟨h2.cell (cell_old _ (cell_old _ (cell_old _ (cell_new _ _ _ rfl rfl)))), h2.cell (cell_old _ (cell_old _ (cell_old _ (cell_new _ _ _ rfl rfl)))), h2.cell (cell_old _ (cell_old _ (cell_new _ _ _ (by simp only [size_alloc]) rfl))), h2.cell (cell_old _ (cell_old _ (cell_new _ _ _ (by simp only [size_alloc]) rfl))), h2.cell (cell_old _ (cell_new _ _ _ (by simp only [size_alloc]) rfl)), h2.cell (cell_old _ (cell_new _ _ _ (by simp only [size_alloc]) rfl)), h2.cell (cell_new _ _ _ (by simp only [size_alloc]) rfl), h2.cell (cell_new _ _ _ (by simp only [size_alloc]) rfl)⟩)
 have C1 := hid (ref_x w0 hA hB)
 have C2 := hid (fun Y => ref_y Y hC hD)
 have C3 := hid (fun (Y : World) (u v : Value) (hu : RV Y u (linP A.1 B.1)) (hv : RV Y v (linP C.2 D.2)) => rz_mul hu hv l1 l2 g1 g2)
 have C4 := hid (fun Y => ref_y Y hA hB)
 have C5 := hid (fun Y => ref_x Y hC hD)
 have C6 := hid (fun (Y : World) (u v : Value) (hu : RV Y u (linP A.2 B.2)) (hv : RV Y v (linP C.1 D.1)) => rz_mul hu hv l3 l4 g3 g4)
 have C7 := hid (fun (Y : World) (u v : Value) (hu : RV Y u (mulP (linP A.1 B.1) (linP C.2 D.2))) (hv : RV Y v (mulP (linP A.2 B.2) (linP C.1 D.1))) => rz_sub hu hv (fit_mul l1 l2 g1 g2) (fit_mul l3 l4 g3 g4) (by decide) (by decide) (by decide))
 have S0 := HC.out w0 (Ext.refl _)
 rw [hw0] at C1 S0
 have HW0 := hid hw0
 unfold crossP subP
 obtain ⟨a1, a2⟩ := A
 obtain ⟨b1, b2⟩ := B
 obtain ⟨c1, c2⟩ := C
 obtain ⟨d1, d2⟩ := D
 simp only at C1 C2 C3 C4 C5 C6 C7 HC S0 HW0 ⊢
 clear hA hB hC hD hw0 l1 l2 l3 l4 g1 g2 g3 g4
 go_enter Tryz.func50, Tryz.ntmps50
 go_wp2
 go_region_held3 (fun Y => Y.cell? ⟨W.heap.size, 0, none⟩ = some (.int .i64 a1) ∧ Y.cell? ⟨W.heap.size, 1, none⟩ = some (.int .i64 a2) ∧ Y.cell? ⟨W.heap.size + 1, 0, none⟩ = some (.int .i64 b1) ∧ Y.cell? ⟨W.heap.size + 1, 1, none⟩ = some (.int .i64 b2) ∧ Y.cell? ⟨W.heap.size + 1 + 1, 0, none⟩ = some (.int .i64 c1) ∧ Y.cell? ⟨W.heap.size + 1 + 1, 1, none⟩ = some (.int .i64 c2) ∧ Y.cell? ⟨W.heap.size + 1 + 1 + 1, 0, none⟩ = some (.int .i64 d1) ∧ Y.cell? ⟨W.heap.size + 1 + 1 + 1, 1, none⟩ = some (.int .i64 d2)) (first | exact S0 | exact S1 | exact S2 | exact S3 | exact S4 | exact S5 | exact S6 | exact S7)
  (first
   | (go_at_call 85; (with_reducible refine C1.out.mono ?_); rintro e w1 ⟨v1, rfl, hp1, hx1⟩; rw [← HW0.out] at hx1; have S1 := HC.out _ hx1; have HX1 := hid hx1; have HP1 := hid hp1; obtain ⟨k1, m1, rfl⟩ := hp1.form; clear hx1 hp1)
   | (go_at_call 86; (with_reducible refine (C2.out w1).mono ?_); rintro e w2 ⟨v2, rfl, hp2, hx2⟩; have HX2 := hid (HX1.out.trans hx2); have S2 := HC.out _ HX2.out; have HP1 := hid (RTs.on HP1.out hx2); have HP2 := hid hp2; obtain ⟨k2, m2, rfl⟩ := hp2.form; clear hx2 hp2)
   | (go_at_call 18; (with_reducible refine (C3.out w2 _ _ HP1.out HP2.out).mono ?_); rintro e w3 ⟨v3, rfl, hp3, hx3⟩; have HX3 := hid (HX2.out.trans hx3); have S3 := HC.out _ HX3.out; have HP3 := hid hp3; obtain ⟨k3, m3, rfl⟩ := hp3.form; clear hx3 hp3)
   | (go_at_call 86; (with_reducible refine (C4.out w3).mono ?_); rintro e w4 ⟨v4, rfl, hp4, hx4⟩; have HX4 := hid (HX3.out.trans hx4); have S4 := HC.out _ HX4.out; have HP3 := hid (RTs.on HP3.out hx4); have HP4 := hid hp4; obtain ⟨k4, m4, rfl⟩ := hp4.form; clear hx4 hp4)
   | (go_at_call 85; (with_reducible refine (C5.out w4).mono ?_); rintro e w5 ⟨v5, rfl, hp5, hx5⟩; have HX5 := hid (HX4.out.trans hx5); have S5 := HC.out _ HX5.out; have HP3 := hid (RTs.on HP3.out hx5); have HP4 := hid (RTs.on HP4.out hx5); have HP5 := hid hp5; obtain ⟨k5, m5, rfl⟩ := hp5.form; clear hx5 hp5)
   | (go_at_call 18; (with_reducible refine (C6.out w5 _ _ HP4.out HP5.out).mono ?_); rintro e w6 ⟨v6, rfl, hp6, hx6⟩; have HX6 := hid (HX5.out.trans hx6); have S6 := HC.out _ HX6.out; have HP3 := hid (RTs.on HP3.out hx6); have HP6 := hid hp6; obtain ⟨k6, m6, rfl⟩ := hp6.form; clear hx6 hp6)
   | (go_at_call 29; (with_reducible refine (C7.out w6 _ _ HP3.out HP6.out).mono ?_); rintro e w7 ⟨v7, rfl, hp7, hx7⟩; have HX7 := hid (HX6.out.trans hx7); have S7 := HC.out _ HX7.out; have HX8 := hid (HX0.out.trans HX7.out); have HP7 := hid hp7; obtain ⟨k7, m7, rfl⟩ := hp7.form; clear hx7 hp7)
   | fail)
 all_goals
  go_wp2_with fail
  go_ret
  exact ⟨_, rfl, HP7.out, HX8.out⟩
theorem ref_dot (W : World) {A B C D : Int × Int} (hA : Ok2 A) (hB : Ok2 B) (hC : Ok2 C) (hD : Ok2 D) : Calls Tryz.prog 49 #[.agg #[.int .i64 A.1, .int .i64 A.2], .agg #[.int .i64 B.1, .int .i64 B.2], .agg #[.int .i64 C.1, .int .i64 C.2], .agg #[.int .i64 D.1, .int .i64 D.2]] W fun e w' => ∃ v', e = .returned v' ∧ RV w' v' (dotP A B C D) ∧ Ext W w' := by
 have l1 := fit_lin hA.1 hB.1
 have l2 := fit_lin hC.1 hD.1
 have l3 := fit_lin hA.2 hB.2
 have l4 := fit_lin hC.2 hD.2
 have g1 := lin_lin hA.1 hB.1
 have g2 := lin_lin hC.1 hD.1
 have g3 := lin_lin hA.2 hB.2
 have g4 := lin_lin hC.2 hD.2
 obtain ⟨w0, hw0⟩ : ∃ Y, Y = ((((W.alloc (.cells #[.int .i64 A.1, .int .i64 A.2] 87)).alloc (.cells #[.int .i64 B.1, .int .i64 B.2] 87)).alloc (.cells #[.int .i64 C.1, .int .i64 C.2] 87)).alloc (.cells #[.int .i64 D.1, .int .i64 D.2] 87)).drew := ⟨_, rfl⟩
 have HX0 : Hid (Ext W w0) := hid (by rw [hw0]; exact ((((Ext.alloc (Ext.refl _) _).alloc _).alloc _).alloc _).drew)
 have HC : Hid (∀ Y, Ext w0 Y → Y.cell? ⟨W.heap.size, 0, none⟩ = some (.int .i64 A.1) ∧ Y.cell? ⟨W.heap.size, 1, none⟩ = some (.int .i64 A.2) ∧ Y.cell? ⟨W.heap.size + 1, 0, none⟩ = some (.int .i64 B.1) ∧ Y.cell? ⟨W.heap.size + 1, 1, none⟩ = some (.int .i64 B.2) ∧ Y.cell? ⟨W.heap.size + 1 + 1, 0, none⟩ = some (.int .i64 C.1) ∧ Y.cell? ⟨W.heap.size + 1 + 1, 1, none⟩ = some (.int .i64 C.2) ∧ Y.cell? ⟨W.heap.size + 1 + 1 + 1, 0, none⟩ = some (.int .i64 D.1) ∧ Y.cell? ⟨W.heap.size + 1 + 1 + 1, 1, none⟩ = some (.int .i64 D.2)) := hid (fun Y h => by
  rw [hw0] at h
  have h2 := (Ext.drew (Ext.refl _)).trans h
  exact ⟨h2.cell (cell_old _ (cell_old _ (cell_old _ (cell_new _ _ _ rfl rfl)))), h2.cell (cell_old _ (cell_old _ (cell_old _ (cell_new _ _ _ rfl rfl)))), h2.cell (cell_old _ (cell_old _ (cell_new _ _ _ (by simp only [size_alloc]) rfl))), h2.cell (cell_old _ (cell_old _ (cell_new _ _ _ (by simp only [size_alloc]) rfl))), h2.cell (cell_old _ (cell_new _ _ _ (by simp only [size_alloc]) rfl)), h2.cell (cell_old _ (cell_new _ _ _ (by simp only [size_alloc]) rfl)), h2.cell (cell_new _ _ _ (by simp only [size_alloc]) rfl), h2.cell (cell_new _ _ _ (by simp only [size_alloc]) rfl)⟩)
 have C1 := hid (ref_x w0 hA hB)
 have C2 := hid (fun Y => ref_x Y hC hD)
 have C3 := hid (fun (Y : World) (u v : Value) (hu : RV Y u (linP A.1 B.1)) (hv : RV Y v (linP C.1 D.1)) => rz_mul hu hv l1 l2 g1 g2)
 have C4 := hid (fun Y => ref_y Y hA hB)
 have C5 := hid (fun Y => ref_y Y hC hD)
 have C6 := hid (fun (Y : World) (u v : Value) (hu : RV Y u (linP A.2 B.2)) (hv : RV Y v (linP C.2 D.2)) => rz_mul hu hv l3 l4 g3 g4)
 have C7 := hid (fun (Y : World) (u v : Value) (hu : RV Y u (mulP (linP A.1 B.1) (linP C.1 D.1))) (hv : RV Y v (mulP (linP A.2 B.2) (linP C.2 D.2))) => rz_add hu hv (fit_mul l1 l2 g1 g2) (fit_mul l3 l4 g3 g4) (by decide) (by decide) (by decide))
 have S0 := HC.out w0 (Ext.refl _)
 rw [hw0] at C1 S0
 have HW0 := hid hw0
 unfold dotP plusP
 obtain ⟨a1, a2⟩ := A
 obtain ⟨b1, b2⟩ := B
 obtain ⟨c1, c2⟩ := C
 obtain ⟨d1, d2⟩ := D
 simp only at C1 C2 C3 C4 C5 C6 C7 HC S0 HW0 ⊢
 clear hA hB hC hD hw0 l1 l2 l3 l4 g1 g2 g3 g4
 go_enter Tryz.func49, Tryz.ntmps49
 go_wp2
 go_region_held3 (fun Y => Y.cell? ⟨W.heap.size, 0, none⟩ = some (.int .i64 a1) ∧ Y.cell? ⟨W.heap.size, 1, none⟩ = some (.int .i64 a2) ∧ Y.cell? ⟨W.heap.size + 1, 0, none⟩ = some (.int .i64 b1) ∧ Y.cell? ⟨W.heap.size + 1, 1, none⟩ = some (.int .i64 b2) ∧ Y.cell? ⟨W.heap.size + 1 + 1, 0, none⟩ = some (.int .i64 c1) ∧ Y.cell? ⟨W.heap.size + 1 + 1, 1, none⟩ = some (.int .i64 c2) ∧ Y.cell? ⟨W.heap.size + 1 + 1 + 1, 0, none⟩ = some (.int .i64 d1) ∧ Y.cell? ⟨W.heap.size + 1 + 1 + 1, 1, none⟩ = some (.int .i64 d2)) (first | exact S0 | exact S1 | exact S2 | exact S3 | exact S4 | exact S5 | exact S6 | exact S7)
  (first
   | (go_at_call 85; (with_reducible refine C1.out.mono ?_); rintro e w1 ⟨v1, rfl, hp1, hx1⟩; rw [← HW0.out] at hx1; have S1 := HC.out _ hx1; have HX1 := hid hx1; have HP1 := hid hp1; obtain ⟨k1, m1, rfl⟩ := hp1.form; clear hx1 hp1)
   | (go_at_call 85; (with_reducible refine (C2.out w1).mono ?_); rintro e w2 ⟨v2, rfl, hp2, hx2⟩; have HX2 := hid (HX1.out.trans hx2); have S2 := HC.out _ HX2.out; have HP1 := hid (RTs.on HP1.out hx2); have HP2 := hid hp2; obtain ⟨k2, m2, rfl⟩ := hp2.form; clear hx2 hp2)
   | (go_at_call 18; (with_reducible refine (C3.out w2 _ _ HP1.out HP2.out).mono ?_); rintro e w3 ⟨v3, rfl, hp3, hx3⟩; have HX3 := hid (HX2.out.trans hx3); have S3 := HC.out _ HX3.out; have HP3 := hid hp3; obtain ⟨k3, m3, rfl⟩ := hp3.form; clear hx3 hp3)
   | (go_at_call 86; (with_reducible refine (C4.out w3).mono ?_); rintro e w4 ⟨v4, rfl, hp4, hx4⟩; have HX4 := hid (HX3.out.trans hx4); have S4 := HC.out _ HX4.out; have HP3 := hid (RTs.on HP3.out hx4); have HP4 := hid hp4; obtain ⟨k4, m4, rfl⟩ := hp4.form; clear hx4 hp4)
   | (go_at_call 86; (with_reducible refine (C5.out w4).mono ?_); rintro e w5 ⟨v5, rfl, hp5, hx5⟩; have HX5 := hid (HX4.out.trans hx5); have S5 := HC.out _ HX5.out; have HP3 := hid (RTs.on HP3.out hx5); have HP4 := hid (RTs.on HP4.out hx5); have HP5 := hid hp5; obtain ⟨k5, m5, rfl⟩ := hp5.form; clear hx5 hp5)
   | (go_at_call 18; (with_reducible refine (C6.out w5 _ _ HP4.out HP5.out).mono ?_); rintro e w6 ⟨v6, rfl, hp6, hx6⟩; have HX6 := hid (HX5.out.trans hx6); have S6 := HC.out _ HX6.out; have HP3 := hid (RTs.on HP3.out hx6); have HP6 := hid hp6; obtain ⟨k6, m6, rfl⟩ := hp6.form; clear hx6 hp6)
   | (go_at_call 61; (with_reducible refine (C7.out w6 _ _ HP3.out HP6.out).mono ?_); rintro e w7 ⟨v7, rfl, hp7, hx7⟩; have HX7 := hid (HX6.out.trans hx7); have S7 := HC.out _ HX7.out; have HX8 := hid (HX0.out.trans HX7.out); have HP7 := hid hp7; obtain ⟨k7, m7, rfl⟩ := hp7.form; clear hx7 hp7)
   | fail)
 all_goals
  go_wp2_with fail
  go_ret
  exact ⟨_, rfl, HP7.out, HX8.out⟩
end
end Go.Proofs.YtbfflodidkfphaaGreat
