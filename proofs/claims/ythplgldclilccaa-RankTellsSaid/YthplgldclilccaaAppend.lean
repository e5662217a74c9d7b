/- What is appended: any source, nil, empty or not. -/
import Derived.Test.YthplgldclilccaaLater
import Derived.Test.YthplgldclilccaaWholeAdd
import Derived.Test.YthplgldclilccaaPolyMay
import Derived.WalkSpells
import Derived.Laws.AppendOwn
import Derived.Maps.AppendAt
namespace Go.Proofs.Ythplgldclilccaa
open Go.RowKit

section
variable {P : Program}
/-- a slice value whose cells are these -/
def SrcAt (w : World) (A : Option Addr) (m size : Nat) (news : List Value) : Prop :=
  news.length = m * size ∧ (∀ u ∈ news, u.oneCell' = true) ∧ (0 < m → ∃ ad, A = some ad ∧ ∀ j u, news[j]? = some u → w.cell? (ad.add j) = some u)

theorem append_nothing (w : World) {base : Nat} {t e ty : TypeId} {i : TypeInfo} {size : Nat} (ht : P.underlying t = some (.slice e)) (hi : P.info? e = some i)
    {v : Value} {n : Nat} {xs : List Value} (h : w.ownsRow base e size v n xs) (c : Nat) : (Builtin.append_ #[t, t] ty #[v, .slice none 0 c]).run P w = .ok v w := by
  obtain ⟨_, ⟨rfl, rfl⟩ | ⟨g, k, row, rfl, _, _, hk, _⟩⟩ := h
  all_goals simp [Builtin.append_, run_underlying ht, sizeOf, typeInfo, hi, Builtin.lenOf, Builtin.firstCells, storeCells, *]

theorem run_append_src (w : World) (base : Nat) (t ty e : TypeId) (i : TypeInfo) (z : Value) (size bytes : Nat) (ht : P.underlying t = some (.slice e)) (hi : P.info? e = some i) (hz : i.zero = some z)
    (hsize : i.size = size) (hby : i.bytes = bytes) (hzs : z.cells.size = size) (hsz : 0 < size)
    (v : Value) (n : Nat) (xs : List Value) (hown : w.ownsRow base e size v n xs)
    (A : Option Addr) (m c : Nat) (news : List Value) (hsrc : SrcAt w A m size news) (h63 : n + m ≤ maxLen) (hbytes : (n + m) * bytes ≤ 140737488355328) (hbase : base ≤ w.heap.size) :
    ∃ v' w', (Builtin.append_ #[t, t] ty #[v, .slice A m c]).run P w = .ok v' w' ∧ w'.ownsRow base e size v' (n + m) (xs ++ news) ∧ w.grownBy w' v.ownBlock ∧ (v'.ownBlock = v.ownBlock ∨ v'.ownBlock = some w.heap.size) := by
  obtain ⟨hl, h1, hat⟩ := hsrc
  cases A with
  | some ad =>
    obtain ⟨v', w', k1, k2, k3, _, k5⟩ := run_append_own_at (P := P) w base t ty e i z size bytes ht hi hz hsize hby hzs hsz v n xs hown ad m c news hl (fun j u hu => by
      have hm : 0 < m := by
        rcases Nat.eq_zero_or_pos m with rfl | h0
        · have := lt_of_some hu; omega
        · exact h0
      obtain ⟨ad', e, hc⟩ := hat hm
      cases e
      exact hc j u hu) h1 h63 hbytes hbase
    exact ⟨v', w', k1, k2, k3, k5⟩
  | none =>
    obtain rfl : m = 0 := by
      rcases Nat.eq_zero_or_pos m with h0 | h0
      · exact h0
      · obtain ⟨ad', e, _⟩ := hat h0
        cases e
    obtain rfl : news = [] := List.length_eq_zero_iff.1 (by omega)
    exact ⟨v, w, append_nothing w ht hi hown c, by simpa using hown, ⟨rfl, rfl, rfl, Nat.le_refl _, fun _ _ _ => rfl⟩, .inl rfl⟩

theorem wpList_append_src (w : World) {ops : Array Oper} {rest : List Oper} {o : Oper} {a : Act} {Q : Exit → Act → World → Prop} (hgd : o.guard = none) (s x : Operand) (t : TypeId)
    (ho : o.op = .call { callee := .builtin .append, args := #[s, x], argTypes := #[t, t] })
    (base : Nat) (e : TypeId) (i : TypeInfo) (z : Value) (size bytes : Nat) (ht : P.underlying t = some (.slice e)) (hi : P.info? e = some i) (hz : i.zero = some z)
    (hsize : i.size = size) (hby : i.bytes = bytes) (hzs : z.cells.size = size) (hsz : 0 < size)
    (v : Value) (n : Nat) (xs : List Value) (hs : a.eval s = v) (hown : w.ownsRow base e size v n xs)
    (A : Option Addr) (m c : Nat) (news : List Value) (hx : a.eval x = .slice A m c) (hsrc : SrcAt w A m size news)
    (h63 : n + m ≤ maxLen) (hbytes : (n + m) * bytes ≤ 140737488355328) (hbase : base ≤ w.heap.size)
    (h : ∀ v' w', w'.ownsRow base e size v' (n + m) (xs ++ news) → w.grownBy w' v.ownBlock → (v'.ownBlock = v.ownBlock ∨ v'.ownBlock = some w.heap.size) → wpList P ops Q rest (a.put o.dst v') w') : wpList P ops Q (o :: rest) a w := by
  obtain ⟨v', w', hrun, h2, h3, h4⟩ := run_append_src (P := P) w base t o.type e i z size bytes ht hi hz hsize hby hzs hsz v n xs hown A m c news hsrc h63 hbytes hbase
  refine wpList_plain hgd fun K hK => ?_
  unfold Oper.wp execOp
  simp only [ho, resolve, invoke, builtin, Sem.run_bind, Sem.run_pure, Result.andThen_ok, List.map_toArray, List.map_cons, List.map_nil, hs, hx, hrun]
  exact hK _ _ (h v' w' h2 h3 h4)

/-- one element more, laid in a block of its own ahead -/
theorem wpList_append_new (W : World) {ops : Array Oper} {rest : List Oper} {o : Oper} {a : Act} {Q : Exit → Act → World → Prop} (hgd : o.guard = none) (s x : Operand) (t : TypeId)
    (ho : o.op = .call { callee := .builtin .append, args := #[s, x], argTypes := #[t, t] })
    (base : Nat) (e : TypeId) (z : Value) (size bytes : Nat) (ht : P.underlying t = some (.slice e)) (hinfo : (P.info? e).map (fun i => (i.zero, i.size, i.bytes)) = some (some z, size, bytes)) (hzs : z.cells.size = size) (hsz : 0 < size)
    (v : Value) (n : Nat) (xs : List Value) (hs : a.eval s = v) (hown : W.ownsRow base e size v n xs)
    (cs : Array Value) (hcs : cs.size = size) (h1 : ∀ u ∈ cs.toList, u.oneCell' = true) (hx : a.eval x = .slice (some ⟨W.heap.size, 0, none⟩) 1 1)
    (hn : n ≤ 1000000000) (hbytes : bytes ≤ 10000) (hbase : base ≤ W.heap.size)
    (h : ∀ v' w', w'.ownsRow base e size v' (n + 1) (xs ++ cs.toList) → W.grownBy w' v.ownBlock → (v'.ownBlock = v.ownBlock ∨ v'.ownBlock = some (W.heap.size + 1)) → wpList P ops Q rest (a.put o.dst v') w') : wpList P ops Q (o :: rest) a (W.alloc (.cells cs e)) := by
  obtain ⟨i, hi, hz0, hz1, hz2⟩ := info_parts hinfo
  have hg0 := World.grownBy_alloc W (.cells cs e) v.ownBlock
  refine wpList_append_src _ hgd s x t ho base e i z size bytes ht hi hz0 hz1 hz2 hzs hsz v n xs hs (hown.alloc _) _ 1 1 cs.toList hx ⟨by simpa using hcs, h1, fun _ => ⟨_, rfl, fun j u hu => ?_⟩⟩ (by unfold maxLen; omega) ?_ (Nat.le_trans hbase hg0.size) (fun v' w' k1 k2 k3 => h v' w' k1 ?_ ?_)
  · rw [show (⟨W.heap.size, 0, none⟩ : Addr).add j = ⟨W.heap.size, j, none⟩ by unfold Addr.add; split <;> simp_all]
    exact cell_new W cs e rfl (by simpa using hu)
  · have : (n + 1) * bytes ≤ 1000000001 * 10000 := Nat.mul_le_mul (by omega) hbytes
    omega
  · exact ⟨k2.os.trans hg0.os, k2.tape.trans hg0.tape, k2.output.trans hg0.output, Nat.le_trans hg0.size k2.size, fun k hk hne => (k2.block k (Nat.lt_of_lt_of_le hk hg0.size) hne).trans (hg0.block k hk hne)⟩
  · rw [size_alloc] at k3
    exact k3
end

theorem add_off (b off j : Nat) : (⟨b, off, none⟩ : Addr).add j = ⟨b, off + j, none⟩ := by
  unfold Addr.add
  split
  · rename_i h
    subst h
    rfl
  · rfl

theorem flatP_one (m : Mono) : ∀ u ∈ flatP m, u.oneCell' = true := by
  intro u hu
  obtain ⟨x, _, hx⟩ := List.mem_flatMap.1 hu
  simp at hx
  rcases hx with rfl | rfl <;> rfl
theorem flatP_at {m : Mono} {j : Nat} {u : Value} (h : (flatP m)[j]? = some u) : ∃ k x, m[k]? = some x ∧ (j = k * 2 ∧ u = .int .i64 x.1 ∨ j = k * 2 + 1 ∧ u = .int .i64 x.2) := by
  have hj := lt_of_some h
  rw [flatP_length] at hj
  obtain ⟨x, hx⟩ := some_of_lt (show j / 2 < m.length by omega)
  obtain ⟨h1, h2⟩ := flatP_get hx
  refine ⟨j / 2, x, hx, ?_⟩
  rcases (show j = j / 2 * 2 ∨ j = j / 2 * 2 + 1 by omega) with e | e
  · rw [← e] at h1
    exact .inl ⟨e, Option.some.inj (h.symm.trans h1)⟩
  · rw [← e] at h2
    exact .inr ⟨e, Option.some.inj (h.symm.trans h2)⟩
theorem Pows.src {S : Nat → Prop} {w : World} {A : Option Addr} {n cap : Nat} {m : Mono} (h : Pows S w (.slice A n cap) m) : n = m.length ∧ SrcAt w A n 2 (flatP m) := by
  obtain ⟨b, off, ⟨a', cap', h1, h2, h3, h4, h5⟩, hc⟩ := h
  obtain ⟨rfl, rfl, rfl⟩ : A = a' ∧ n = m.length ∧ cap = cap' := by simpa using h1
  refine ⟨rfl, flatP_length m, flatP_one m, fun h0 => ⟨_, h4 h0, fun j u hu => ?_⟩⟩
  obtain ⟨k, x, hx, ⟨rfl, rfl⟩ | ⟨rfl, rfl⟩⟩ := flatP_at hu
  · rw [add_off]
    exact (hc k x hx).2.1
  · rw [add_off]
    exact (hc k x hx).2.2

theorem Try.infoPower : (Try.prog.info? 82).map (fun i => (i.zero, i.size, i.bytes)) = some (some (.agg #[.int .i64 0, .int .i64 0]), 2, 16) := by kernel_rfl

theorem Pows.of_none {S : Nat → Prop} {w : World} {n cap : Nat} {m : Mono} (h : Pows S w (.slice Option.none n cap) m) : m = [] := by
  obtain ⟨b, off, ⟨a', cap', h1, h2, h3, h4, h5⟩, hc⟩ := h
  obtain ⟨rfl, rfl, rfl⟩ : Option.none = a' ∧ n = m.length ∧ cap = cap' := by simpa using h1
  rcases Nat.eq_zero_or_pos m.length with h0 | h0
  · exact List.length_eq_zero_iff.1 h0
  · cases h4 h0

set_option maxRecDepth 100000 in
set_option maxHeartbeats 1000000 in
theorem clone_mono {S : Nat → Prop} (v : Value) (m : Mono) (w : World) (h : Pows S w v m) (hS : ∀ k, S k → k < w.heap.size) (hr : m.length ≤ 1000000) :
    Calls Try.prog 89 #[v] w fun e w' => ∃ v', e = .returned v' ∧ Pows (New w w') w' v' m ∧ Ext w w' := by
  obtain ⟨i0, hi, hz0, hz1, hz2⟩ := info_parts Try.infoPower
  have hb := h.inBounds
  have H := hid h
  have HB := hid hb
  obtain ⟨A, c, rfl⟩ := h.form
  clear h hb
  have hnil := fun (w : World) => Lib.run_eql_slice_nil (P := Try.prog) w 70 82 A m.length c 0 0 Try.underlying70
  cases A with
  | none =>
    have HM := hid H.out.of_none
    go_enter Try.func89, Try.ntmps89
    go_wp2
    all_goals
      go_ret
      exact ⟨_, rfl, by rw [HM.out]; exact Pows.empty _ _ _, Ext.refl _⟩
  | some ad =>
    have HS := hid ((H.out.to (Kept.ext (Ext.alloc (Ext.refl w) (.cells #[] 82)) hS) (fun _ h => h)).src.2)
    have HO := hid (World.ownsRow_made (base := w.heap.size) (e := 82) (size := 2) w #[] 0 (Nat.le_refl _) (by unfold maxLen; omega) (by simp))
    have HR := hid hr
    go_enter Try.func89, Try.ntmps89
    go_wp2_with (at_builtin; refine wpList_append_src _ rfl (.tmp 5) (.tmp 6) 70 rfl w.heap.size 82 i0 (.agg #[.int .i64 0, .int .i64 0]) 2 16 Try.underlying70 hi hz0 hz1 hz2 rfl (by decide) (.slice (some ⟨w.heap.size, 0, none⟩) 0 0) 0 [] rfl HO.out (some ad) m.length c (flatP m) rfl HS.out (by have := HR.out; unfold maxLen; omega) (by have := HR.out; omega) (by simp) ?_; intro v1 w1 hown hg _; have HW := hid hown; have HG := hid hg; clear hown hg)
    go_ret
    have hx : Ext w w1 := by
      refine ext_grown (Ext.alloc (Ext.refl w) _) HG.out (fun k hk => ?_)
      have e : w.heap.size = k := by simpa [Value.ownBlock] using hk
      omega
    refine ⟨v1, rfl, ?_, hx⟩
    refine own_pows (e := 82) ?_ HB.out
    simpa using HW.out
end Go.Proofs.Ythplgldclilccaa
