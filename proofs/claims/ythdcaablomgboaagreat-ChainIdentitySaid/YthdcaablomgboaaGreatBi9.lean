/- Chain: what lies in memory while the rest with its cofactors is made. The insertion sort in place, at polynomials. Exchanges and rotations in place, at polynomials. The merge in place of two neighbours, at polynomials: one element ahead, or one behind. The merge in place of two neighbours, at polynomials. The stable sort in place, at polynomials: blocks of twenty, then merges. Some polynomials by rising ranks. Chain: the rest with its cofactors. From the form's own reading of an argument to what lies in memory: limbs, powers, terms, polynomials. What every law's row asks: the answer true, the arguments as they were. Arguments that are slices of polynomials, read as data. The document's division: all its steps. Layer 12's law: what is too great, the meters of both sides, powers, limbs. Layer 12's law: the meters of both sides, of limits; none of both, if there are to be none; have both counted the same. Layer 12's statements: what is not too great, and the divisions of it. The arguments of the statements of layers 12 and 16 that are no polynomials: whole numbers, truths, limits. The arguments of layer 16's statements: slices of whole numbers, divisions. What layer 16's law knows. The document's chain: powers, and is it an identity. Chain: what is no identity, for lengths that differ or polynomials that may not be. Layer 16's law: what is too great. Layer 16's statements: what is not too great. The document's check of an identity: lengths that differ. -/
import Derived.Deep.DeepCutAuto
import Derived.ProofKit
import Derived.Deep.Slices
import Derived.Deep.Strs
import Derived.Test.YthdcaablomgboaaGreatRows
import Derived.Lib.SmallJoins
import Derived.JoinedCond
import Derived.Test.YthdcaablomgboaaGreatBi8
namespace Go.Proofs.YthdcaablomgboaaGreat
open Go.RowKit

/-- all blocks of now but the meter's and one's own, which lie from lo on below hi -/
abbrev NX (o : Option Nat) (lo hi : Nat) (W : World) : Nat → Prop := fun k => k < W.heap.size ∧ some k ≠ o ∧ ¬ (lo ≤ k ∧ k < hi)
/-- only the meter's block, one's own and new ones have turned -/
structure Gx (o : Option Nat) (lo hi : Nat) (W W' : World) : Prop where
  os : W'.os = W.os
  tape : W'.tape = W.tape
  output : W'.output = W.output
  size : W.heap.size ≤ W'.heap.size
  block : ∀ k, k < W.heap.size → some k ≠ o → ¬ (lo ≤ k ∧ k < hi) → W'.heap[k]? = W.heap[k]?
abbrev PX (o : Option Nat) (lo hi : Nat) (W : World) (v : Value) (p : PZ) : Prop := Terms (NX o lo hi W) W v (ofP p)
section
variable {o : Option Nat} {lo hi bd : Nat} {A B C W W' : World} {v : Value} {p : PZ} {s : MSt}
theorem Gx.refl (o : Option Nat) (lo hi : Nat) (W : World) : Gx o lo hi W W := ⟨rfl, rfl, rfl, Nat.le_refl _, fun _ _ _ _ => rfl⟩
theorem Gx.trans (h : Gx o lo hi A B) (k : Gx o lo hi B C) : Gx o lo hi A C :=
  ⟨k.os.trans h.os, k.tape.trans h.tape, k.output.trans h.output, Nat.le_trans h.size k.size, fun i h1 h2 h3 => (k.block i (Nat.lt_of_lt_of_le h1 h.size) h2 h3).trans (h.block i h1 h2 h3)⟩
theorem gx_gb (h : A.grownBy B o) : Gx o lo hi A B := ⟨h.os, h.tape, h.output, h.size, fun k h1 h2 _ => h.block k h1 h2⟩
theorem gx_ext (h : Ext A B) : Gx o lo hi A B := gx_gb (gb_of_ext h o)
theorem gx_gd (h : Gd o bd A B) (h1 : lo ≤ bd) (h2 : bd < hi) : Gx o lo hi A B := ⟨h.os, h.tape, h.output, h.size, fun k k1 k2 k3 => h.block k k1 k2 (fun e => k3 (by rw [e]; exact ⟨h1, h2⟩))⟩
theorem gx_set (w : World) {a : Addr} (h1 : lo ≤ a.block) (h2 : a.block < hi) (u : Value) : Gx o lo hi w (w.setCell a u) := ⟨rfl, rfl, rfl, by simp [World.setCell], fun k _ _ h3 => Below.heap_setCell _ _ _ _ (fun e => h3 (by rw [e]; exact ⟨h1, h2⟩))⟩
theorem Gx.gb (h : Gx o lo hi A B) (hb : A.heap.size ≤ lo) : A.grownBy B o := ⟨h.os, h.tape, h.output, h.size, fun k h1 h2 => h.block k h1 h2 (by omega)⟩
theorem kept_nx (g : Gx o lo hi W W') : Kept (NX o lo hi W) W W' := fun k h => g.block k h.1 h.2.1 h.2.2
theorem nx_grow (g : W.heap.size ≤ W'.heap.size) : ∀ k, NX o lo hi W k → NX o lo hi W' k := fun _ h => ⟨Nat.lt_of_lt_of_le h.1 g, h.2⟩
theorem PX.pv (h : PX o lo hi W v p) : PV W v p := h.to (Kept.refl _ _) (fun _ h => h.1)
theorem PX.pm (h : PX o lo hi W v p) : PM o W v p := h.to (Kept.refl _ _) (fun _ h => ⟨h.1, h.2.1⟩)
theorem PX.pc (h : PX o lo hi W v p) (h1 : lo ≤ bd) (h2 : bd < hi) : PC o bd W v p := h.to (Kept.refl _ _) (fun _ h => ⟨h.1, h.2.1, fun e => h.2.2 (by rw [e]; exact ⟨h1, h2⟩)⟩)
theorem PX.on (h : PX o lo hi W v p) (g : Gx o lo hi W W') : PX o lo hi W' v p := h.to (kept_nx g) (nx_grow g.size)
theorem PMN.px {N : Nat} (h : PMN N o W v p) (hN : hi ≤ N) : PX o lo hi W v p := h.to (Kept.refl _ _) (fun _ h => ⟨h.2.1, h.2.2, by have := h.1; omega⟩)
theorem PMN.gx {N : Nat} (h : PMN N o W v p) (hN : hi ≤ N) (g : Gx o lo hi W W') : PMN N o W' v p := h.to (fun k h => g.block k h.2.1 h.2.2 (by have := h.1; omega)) (fun k h => ⟨h.1, Nat.lt_of_lt_of_le h.2.1 g.size, h.2.2⟩)
theorem PMN.low {N M : Nat} (h : PMN N o W v p) (hM : M ≤ N) : PMN M o W v p := h.to (Kept.refl _ _) (fun _ h => ⟨Nat.le_trans hM h.1, h.2⟩)
end

theorem MV.gdn {W W' : World} {o : Option Nat} {bd : Nat} {s : MSt} (h : MV W o s) (g : Gd (Option.none) bd W W') (hob : ∀ b, o = some b → b ≠ bd) : MV W' o s := fun b hb => by
  have h1 := h b hb
  exact ⟨h1.1.grown (r := some bd) ⟨g.os, g.tape, g.output, g.size, fun j j1 j2 => g.block j j1 (by simp) (fun e => j2 (by rw [e]))⟩ (fun e => hob b hb (Option.some.inj e)), h1.2⟩
/-- the own blocks: a result's br, the division's bd, the powers' bp, the cofactors' bq -/
structure RestAt (T : TypeId) (w : World) (br bd bp bq m : Nat) (vr : Value) (ns : List Int) (V : Nat → Value) : Prop where
  d0 : w.cell? ⟨bd, 0, none⟩ = some (.slice (some ⟨bp, 0, none⟩) m m)
  d1 : w.cell? ⟨bd, 1, none⟩ = some (.slice (some ⟨bq, 0, none⟩) m m)
  d2 : w.cell? ⟨bd, 2, none⟩ = some vr
  dz : ∀ i, w.frozen? ⟨bd, i, none⟩ = false
  r0 : w.cell? ⟨br, 0, none⟩ = some (.slice none 0 0)
  r1 : w.cell? ⟨br, 1, none⟩ = some (.slice none 0 0)
  r2 : w.cell? ⟨br, 2, none⟩ = some (.slice none 0 0)
  rz : ∀ i, w.frozen? ⟨br, i, none⟩ = false
  P : w.rowIs bp 3 m (rowI ns)
  Q : w.rowIs bq T m V
def setV (V : Nat → Value) (k : Nat) (x : Value) : Nat → Value := fun j => if j = k then x else V j
/-- the own blocks' numbers: all of lo .. hi, no two the same -/
structure Own3 (lo hi br bd bp bq : Nat) : Prop where
  r : lo ≤ br ∧ br < hi
  d : lo ≤ bd ∧ bd < hi
  p : lo ≤ bp ∧ bp < hi
  q : lo ≤ bq ∧ bq < hi
  rd : br ≠ bd
  rp : br ≠ bp
  rq : br ≠ bq
  dp : bd ≠ bp
  dq : bd ≠ bq
  pq : bp ≠ bq
/-- the same, and the calc's -/
structure Own (lo hi br bc bd bp bq : Nat) : Prop extends Own3 lo hi br bd bp bq where
  c : lo ≤ bc ∧ bc < hi
  rc : br ≠ bc
  cd : bc ≠ bd
  cp : bc ≠ bp
  cq : bc ≠ bq
section
variable {T : TypeId} {w w' : World} {o : Option Nat} {lo hi br bc bd bp bq m : Nat} {vr : Value} {ns : List Int} {V : Nat → Value}
theorem RestAt.same (h : RestAt T w br bd bp bq m vr ns V) (e1 : w'.heap[br]? = w.heap[br]?) (e2 : w'.heap[bd]? = w.heap[bd]?) (e3 : w'.heap[bp]? = w.heap[bp]?) (e4 : w'.heap[bq]? = w.heap[bq]?) : RestAt T w' br bd bp bq m vr ns V := by
  have hr : ∀ i, w'.cell? ⟨br, i, none⟩ = w.cell? ⟨br, i, none⟩ := fun i => World.cell?_of_block e1
  have hd : ∀ i, w'.cell? ⟨bd, i, none⟩ = w.cell? ⟨bd, i, none⟩ := fun i => World.cell?_of_block e2
  exact ⟨(hd _).trans h.d0, (hd _).trans h.d1, (hd _).trans h.d2, fun i => (World.frozen?_of_block (w := w) (a := ⟨bd, i, none⟩) e2).trans (h.dz i), (hr _).trans h.r0, (hr _).trans h.r1, (hr _).trans h.r2,
    fun i => (World.frozen?_of_block (w := w) (a := ⟨br, i, none⟩) e1).trans (h.rz i), h.P.of_block e3, h.Q.of_block e4⟩
theorem RestAt.lts (h : RestAt T w br bd bp bq m vr ns V) : br < w.heap.size ∧ bd < w.heap.size ∧ bp < w.heap.size ∧ bq < w.heap.size := ⟨lt_of_cell h.r0, lt_of_cell h.d0, h.P.lt, h.Q.lt⟩
theorem RestAt.gb (h : RestAt T w br bd bp bq m vr ns V) (O : Own3 lo hi br bd bp bq) (ho : ∀ b, o = some b → b < lo) (g : w.grownBy w' o) : RestAt T w' br bd bp bq m vr ns V := by
  obtain ⟨l1, l2, l3, l4⟩ := h.lts
  have hn : ∀ k, lo ≤ k → some k ≠ o := fun k hk e => by have := ho k e.symm; omega
  exact h.same (g.block _ l1 (hn _ O.r.1)) (g.block _ l2 (hn _ O.d.1)) (g.block _ l3 (hn _ O.p.1)) (g.block _ l4 (hn _ O.q.1))
theorem RestAt.gdn (h : RestAt T w br bd bp bq m vr ns V) (O : Own lo hi br bc bd bp bq) (g : Gd none bc w w') : RestAt T w' br bd bp bq m vr ns V := by
  obtain ⟨l1, l2, l3, l4⟩ := h.lts
  exact h.same (g.block _ l1 (by simp) O.rc) (g.block _ l2 (by simp) O.cd.symm) (g.block _ l3 (by simp) O.cp.symm) (g.block _ l4 (by simp) O.cq.symm)
theorem RestAt.gd (h : RestAt T w br bd bp bq m vr ns V) (O : Own lo hi br bc bd bp bq) (ho : ∀ b, o = some b → b < lo) (g : Gd o bc w w') : RestAt T w' br bd bp bq m vr ns V := by
  obtain ⟨l1, l2, l3, l4⟩ := h.lts
  have hn : ∀ k, lo ≤ k → some k ≠ o := fun k hk e => by have := ho k e.symm; omega
  exact h.same (g.block _ l1 (hn _ O.r.1) O.rc) (g.block _ l2 (hn _ O.d.1) O.cd.symm) (g.block _ l3 (hn _ O.p.1) O.cp.symm) (g.block _ l4 (hn _ O.q.1) O.cq.symm)
theorem heap_other (w : World) (a : Addr) (u : Value) {k : Nat} (h : k ≠ a.block) : (w.setCell a u).heap[k]? = w.heap[k]? := Below.heap_setCell _ _ _ _ (fun e => h e)
theorem RestAt.setQ (h : RestAt T w br bd bp bq m vr ns V) (O : Own3 lo hi br bd bp bq) (k : Nat) (x : Value) : RestAt T (w.setCell ⟨bq, k, none⟩ x) br bd bp bq m vr ns (setV V k x) := by
  have e1 := heap_other w ⟨bq, k, none⟩ x O.rq
  have e2 := heap_other w ⟨bq, k, none⟩ x O.dq
  have e3 := heap_other w ⟨bq, k, none⟩ x O.pq
  have hr : ∀ i, (w.setCell ⟨bq, k, none⟩ x).cell? ⟨br, i, none⟩ = w.cell? ⟨br, i, none⟩ := fun i => World.cell?_of_block e1
  have hd : ∀ i, (w.setCell ⟨bq, k, none⟩ x).cell? ⟨bd, i, none⟩ = w.cell? ⟨bd, i, none⟩ := fun i => World.cell?_of_block e2
  exact ⟨(hd _).trans h.d0, (hd _).trans h.d1, (hd _).trans h.d2, fun i => (World.frozen?_of_block (w := w) (a := ⟨bd, i, none⟩) e2).trans (h.dz i), (hr _).trans h.r0, (hr _).trans h.r1, (hr _).trans h.r2,
    fun i => (World.frozen?_of_block (w := w) (a := ⟨br, i, none⟩) e1).trans (h.rz i), h.P.of_block e3, h.Q.set k x⟩
theorem RestAt.setP (h : RestAt T w br bd bp bq m vr ns V) (O : Own3 lo hi br bd bp bq) (k : Nat) (z : Int) (hk : k < ns.length) : RestAt T (w.setCell ⟨bp, k, none⟩ (.int .i64 z)) br bd bp bq m vr (ns.set k z) V := by
  have e1 := heap_other w ⟨bp, k, none⟩ (.int .i64 z) O.rp
  have e2 := heap_other w ⟨bp, k, none⟩ (.int .i64 z) O.dp
  have e4 := heap_other w ⟨bp, k, none⟩ (.int .i64 z) O.pq.symm
  have hr : ∀ i, (w.setCell ⟨bp, k, none⟩ (.int .i64 z)).cell? ⟨br, i, none⟩ = w.cell? ⟨br, i, none⟩ := fun i => World.cell?_of_block e1
  have hd : ∀ i, (w.setCell ⟨bp, k, none⟩ (.int .i64 z)).cell? ⟨bd, i, none⟩ = w.cell? ⟨bd, i, none⟩ := fun i => World.cell?_of_block e2
  exact ⟨(hd _).trans h.d0, (hd _).trans h.d1, (hd _).trans h.d2, fun i => (World.frozen?_of_block (w := w) (a := ⟨bd, i, none⟩) e2).trans (h.dz i), (hr _).trans h.r0, (hr _).trans h.r1, (hr _).trans h.r2,
    fun i => (World.frozen?_of_block (w := w) (a := ⟨br, i, none⟩) e1).trans (h.rz i), rowI_set h.P k z hk, h.Q.of_block e4⟩
theorem RestAt.setD (h : RestAt T w br bd bp bq m vr ns V) (O : Own3 lo hi br bd bp bq) (x : Value) : RestAt T (w.setCell ⟨bd, 2, none⟩ x) br bd bp bq m x ns V := by
  have e1 := heap_other w ⟨bd, 2, none⟩ x O.rd
  have e3 := heap_other w ⟨bd, 2, none⟩ x O.dp.symm
  have e4 := heap_other w ⟨bd, 2, none⟩ x O.dq.symm
  have hr : ∀ i, (w.setCell ⟨bd, 2, none⟩ x).cell? ⟨br, i, none⟩ = w.cell? ⟨br, i, none⟩ := fun i => World.cell?_of_block e1
  exact ⟨other h.d0 (ao (by decide)), other h.d1 (ao (by decide)), same_of h.d2, fun i => free_set (h.dz i), (hr _).trans h.r0, (hr _).trans h.r1, (hr _).trans h.r2,
    fun i => (World.frozen?_of_block (w := w) (a := ⟨br, i, none⟩) e1).trans (h.rz i), h.P.of_block e3, h.Q.of_block e4⟩
end
section
open Go.Deep
theorem heap_a3 (w : World) (a b c : Obj) : (((w.alloc a).alloc b).alloc c).heap[w.heap.size + 1 + 1]? = some c := by
  have h := blk_alloc_new ((w.alloc a).alloc b) c
  rwa [size_alloc, size_alloc] at h
theorem heap_a2 (w : World) (a b c : Obj) : (((w.alloc a).alloc b).alloc c).heap[w.heap.size + 1]? = some b := by
  have h := blk_alloc_new (w.alloc a) b
  rw [size_alloc] at h
  rw [blk_alloc_lt _ _ _ (by rw [size_alloc, size_alloc]; omega)]
  exact h
theorem heap_a1 (w : World) (a b c : Obj) : (((w.alloc a).alloc b).alloc c).heap[w.heap.size]? = some a := by
  rw [blk_alloc_lt _ _ _ (by rw [size_alloc, size_alloc]; omega), blk_alloc_lt _ _ _ (by rw [size_alloc]; omega)]
  exact blk_alloc_new w a
theorem heap_b1 (w : World) (z a b c : Obj) : ((((w.alloc z).alloc a).alloc b).alloc c).heap[w.heap.size + 1]? = some a := by
  have h := heap_a1 (w.alloc z) a b c
  rwa [size_alloc] at h
theorem heap_b2 (w : World) (z a b c : Obj) : ((((w.alloc z).alloc a).alloc b).alloc c).heap[w.heap.size + 1 + 1]? = some b := by
  have h := heap_a2 (w.alloc z) a b c
  rwa [size_alloc] at h
theorem heap_b3 (w : World) (z a b c : Obj) : ((((w.alloc z).alloc a).alloc b).alloc c).heap[w.heap.size + 1 + 1 + 1]? = some c := by
  have h := heap_a3 (w.alloc z) a b c
  rwa [size_alloc] at h
theorem restAt_of {T TD : TypeId} {w Y : World} {br bd bp bq m : Nat} {vf : Value} (r0 : w.cell? ⟨br, 0, none⟩ = some (.slice none 0 0)) (r1 : w.cell? ⟨br, 1, none⟩ = some (.slice none 0 0)) (r2 : w.cell? ⟨br, 2, none⟩ = some (.slice none 0 0)) (rz : ∀ i, w.frozen? ⟨br, i, none⟩ = false)
    (hr : Y.heap[br]? = w.heap[br]?) (hd : Y.heap[bd]? = some (.cells #[.slice (some ⟨bp, 0, none⟩) m m, .slice (some ⟨bq, 0, none⟩) m m, vf] TD)) (hp : Y.heap[bp]? = some (.cells (madeCells #[.int .i64 0] m) 3))
    (hq : Y.heap[bq]? = some (.cells (madeCells #[.slice none 0 0] m) T)) : RestAt T Y br bd bp bq m vf (List.replicate m 0) (fun _ => .slice none 0 0) := by
  have hc : ∀ i, Y.cell? ⟨br, i, none⟩ = w.cell? ⟨br, i, none⟩ := fun i => World.cell?_of_block hr
  refine ⟨by simp [World.cell?, hd], by simp [World.cell?, hd], by simp [World.cell?, hd], fun i => by simp [World.frozen?, hd], (hc _).trans r0, (hc _).trans r1, (hc _).trans r2, fun i => (World.frozen?_of_block (w := w) (a := ⟨br, i, none⟩) hr).trans (rz i), ?_, ?_⟩
  · exact ⟨_, hp, by simp [size_madeCells], fun i hi => by simp [madeCells, hi, Nat.mod_one, rowI, List.getD_eq_getElem?_getD]⟩
  · exact ⟨_, hq, by simp [size_madeCells], fun i hi => by simp [madeCells, hi, Nat.mod_one]⟩
/-- three blocks are laid, in any order -/
theorem ext_a3 (w : World) (a b c : Obj) : Ext w (((w.alloc a).alloc b).alloc c).drew := ((((Ext.refl w).alloc a).alloc b).alloc c).drew
abbrev Born16 (w : World) (br m : Nat) (am : Option Addr) (vf s9 : Value) (wx : World) : Prop := ∃ bd bp bq, s9 = .pointer (some ⟨bd, 0, none⟩) ∧ Hid (Own br wx.heap.size br w.heap.size bd bp bq) ∧ Hid (RestAt 23 wx br bd bp bq m vf (List.replicate m 0) (fun _ => .slice none 0 0)) ∧ Hid (CalcAt wx w.heap.size (.pointer am) 0) ∧ Hid (Ext w wx)
theorem born16 {w : World} {br m : Nat} {am : Option Addr} {vf : Value} (hb : br < w.heap.size) (r0 : w.cell? ⟨br, 0, none⟩ = some (.slice none 0 0)) (r1 : w.cell? ⟨br, 1, none⟩ = some (.slice none 0 0)) (r2 : w.cell? ⟨br, 2, none⟩ = some (.slice none 0 0)) (rz : ∀ i, w.frozen? ⟨br, i, none⟩ = false)
    {a b c : Obj} {bd bp bq : Nat} (hd : ((((w.alloc (.cells #[.pointer am, .int .i64 0] 97)).alloc a).alloc b).alloc c).heap[bd]? = some (.cells #[.slice (some ⟨bp, 0, none⟩) m m, .slice (some ⟨bq, 0, none⟩) m m, vf] 27)) (hp : ((((w.alloc (.cells #[.pointer am, .int .i64 0] 97)).alloc a).alloc b).alloc c).heap[bp]? = some (.cells (madeCells #[.int .i64 0] m) 3))
    (hq : ((((w.alloc (.cells #[.pointer am, .int .i64 0] 97)).alloc a).alloc b).alloc c).heap[bq]? = some (.cells (madeCells #[.slice none 0 0] m) 23))
    (ds : w.heap.size < bd ∧ bd < w.heap.size + 4 ∧ w.heap.size < bp ∧ bp < w.heap.size + 4 ∧ w.heap.size < bq ∧ bq < w.heap.size + 4 ∧ bd ≠ bp ∧ bd ≠ bq ∧ bp ≠ bq) :
    Born16 w br m am vf (.pointer (some ⟨bd, 0, none⟩)) ((((w.alloc (.cells #[.pointer am, .int .i64 0] 97)).alloc a).alloc b).alloc c).drew := by
  obtain ⟨d1, d2, d3, d4, d5, d6, d7, d8, d9⟩ := ds
  have hs : ((((w.alloc (.cells #[.pointer am, .int .i64 0] 97)).alloc a).alloc b).alloc c).drew.heap.size = w.heap.size + 4 := by
    show ((((w.alloc (.cells #[.pointer am, .int .i64 0] 97)).alloc a).alloc b).alloc c).heap.size = _
    rw [size_alloc, size_alloc, size_alloc, size_alloc]
  have hx : Ext w ((((w.alloc (.cells #[.pointer am, .int .i64 0] 97)).alloc a).alloc b).alloc c).drew := (Ext.alloc (Ext.refl w) _).trans (ext_a3 _ _ _ _)
  have hx3 := ext_a3 (w.alloc (.cells #[.pointer am, .int .i64 0] 97)) a b c
  refine ⟨bd, bp, bq, rfl, hid ?_, hid ?_, hid ?_, hid hx⟩
  · rw [hs]
    exact ⟨⟨by omega, by omega, by omega, by omega, by omega, by omega, by omega, by omega, by omega, by omega⟩, by omega, by omega, by omega, by omega, by omega⟩
  · exact restAt_of r0 r1 r2 rz (hx.block br hb) hd hp hq
  · exact CalcAt.ext (W := w.alloc (.cells #[.pointer am, .int .i64 0] 97)) ⟨cell_new _ _ _ rfl rfl, cell_new _ _ _ rfl rfl, fun i => free_new _ _ _⟩ hx3
section
variable {w : World} {br m : Nat} {am : Option Addr} {vf : Value} (hb : br < w.heap.size) (r0 : w.cell? ⟨br, 0, none⟩ = some (.slice none 0 0)) (r1 : w.cell? ⟨br, 1, none⟩ = some (.slice none 0 0)) (r2 : w.cell? ⟨br, 2, none⟩ = some (.slice none 0 0)) (rz : ∀ i, w.frozen? ⟨br, i, none⟩ = false)
include hb r0 r1 r2 rz
theorem born16_1 : Born16 w br m am vf (.pointer (some ⟨w.heap.size + 1, 0, none⟩)) ((((w.alloc (.cells #[.pointer am, .int .i64 0] 97)).alloc (.cells #[.slice (some ⟨w.heap.size + 1 + 1, 0, none⟩) m m, .slice (some ⟨w.heap.size + 1 + 1 + 1, 0, none⟩) m m, vf] 27)).alloc (.cells (madeCells #[.int .i64 0] m) 3)).alloc (.cells (madeCells #[.slice none 0 0] m) 23)).drew :=
  born16 hb r0 r1 r2 rz (heap_b1 w _ _ _ _) (heap_b2 w _ _ _ _) (heap_b3 w _ _ _ _) (by omega)
theorem born16_2 : Born16 w br m am vf (.pointer (some ⟨w.heap.size + 1, 0, none⟩)) ((((w.alloc (.cells #[.pointer am, .int .i64 0] 97)).alloc (.cells #[.slice (some ⟨w.heap.size + 1 + 1 + 1, 0, none⟩) m m, .slice (some ⟨w.heap.size + 1 + 1, 0, none⟩) m m, vf] 27)).alloc (.cells (madeCells #[.slice none 0 0] m) 23)).alloc (.cells (madeCells #[.int .i64 0] m) 3)).drew :=
  born16 hb r0 r1 r2 rz (heap_b1 w _ _ _ _) (heap_b3 w _ _ _ _) (heap_b2 w _ _ _ _) (by omega)
theorem born16_3 : Born16 w br m am vf (.pointer (some ⟨w.heap.size + 1 + 1, 0, none⟩)) ((((w.alloc (.cells #[.pointer am, .int .i64 0] 97)).alloc (.cells (madeCells #[.int .i64 0] m) 3)).alloc (.cells #[.slice (some ⟨w.heap.size + 1, 0, none⟩) m m, .slice (some ⟨w.heap.size + 1 + 1 + 1, 0, none⟩) m m, vf] 27)).alloc (.cells (madeCells #[.slice none 0 0] m) 23)).drew :=
  born16 hb r0 r1 r2 rz (heap_b2 w _ _ _ _) (heap_b1 w _ _ _ _) (heap_b3 w _ _ _ _) (by omega)
theorem born16_4 : Born16 w br m am vf (.pointer (some ⟨w.heap.size + 1 + 1, 0, none⟩)) ((((w.alloc (.cells #[.pointer am, .int .i64 0] 97)).alloc (.cells (madeCells #[.slice none 0 0] m) 23)).alloc (.cells #[.slice (some ⟨w.heap.size + 1 + 1 + 1, 0, none⟩) m m, .slice (some ⟨w.heap.size + 1, 0, none⟩) m m, vf] 27)).alloc (.cells (madeCells #[.int .i64 0] m) 3)).drew :=
  born16 hb r0 r1 r2 rz (heap_b2 w _ _ _ _) (heap_b3 w _ _ _ _) (heap_b1 w _ _ _ _) (by omega)
theorem born16_5 : Born16 w br m am vf (.pointer (some ⟨w.heap.size + 1 + 1 + 1, 0, none⟩)) ((((w.alloc (.cells #[.pointer am, .int .i64 0] 97)).alloc (.cells (madeCells #[.int .i64 0] m) 3)).alloc (.cells (madeCells #[.slice none 0 0] m) 23)).alloc (.cells #[.slice (some ⟨w.heap.size + 1, 0, none⟩) m m, .slice (some ⟨w.heap.size + 1 + 1, 0, none⟩) m m, vf] 27)).drew :=
  born16 hb r0 r1 r2 rz (heap_b3 w _ _ _ _) (heap_b1 w _ _ _ _) (heap_b2 w _ _ _ _) (by omega)
theorem born16_6 : Born16 w br m am vf (.pointer (some ⟨w.heap.size + 1 + 1 + 1, 0, none⟩)) ((((w.alloc (.cells #[.pointer am, .int .i64 0] 97)).alloc (.cells (madeCells #[.slice none 0 0] m) 23)).alloc (.cells (madeCells #[.int .i64 0] m) 3)).alloc (.cells #[.slice (some ⟨w.heap.size + 1 + 1, 0, none⟩) m m, .slice (some ⟨w.heap.size + 1, 0, none⟩) m m, vf] 27)).drew :=
  born16 hb r0 r1 r2 rz (heap_b3 w _ _ _ _) (heap_b2 w _ _ _ _) (heap_b1 w _ _ _ _) (by omega)
end
end
section
open Go.Deep
variable {T TD : TypeId}
variable {w : World} {br m : Nat} {vf : Value} (hb : br < w.heap.size) (r0 : w.cell? ⟨br, 0, none⟩ = some (.slice none 0 0)) (r1 : w.cell? ⟨br, 1, none⟩ = some (.slice none 0 0)) (r2 : w.cell? ⟨br, 2, none⟩ = some (.slice none 0 0)) (rz : ∀ i, w.frozen? ⟨br, i, none⟩ = false)
include hb r0 r1 r2 rz
end
/-- the cofactors in memory -/
def CofV (N : Nat) (o : Option Nat) (w : World) (m : Nat) (V : Nat → Value) (cs : List PZ) : Prop := cs.length = m ∧ ∀ i, i < m → PMN N o w (V i) (cs.getD i [])
def FormV (m : Nat) (V : Nat → Value) : Prop := ∀ i, i < m → ∃ a n c, V i = .slice a n c
section
variable {w w' : World} {o : Option Nat} {N lo hi m : Nat} {V : Nat → Value} {cs : List PZ}
theorem CofV.form (h : CofV N o w m V cs) : FormV m V := fun i hi => by obtain ⟨a, c, e⟩ := (h.2 i hi).form; exact ⟨a, _, c, e⟩
theorem CofV.gx (h : CofV N o w m V cs) (hN : hi ≤ N) (g : Gx o lo hi w w') : CofV N o w' m V cs := ⟨h.1, fun i k => PMN.gx (h.2 i k) hN g⟩
theorem CofV.set (h : CofV N o w m V cs) {k : Nat} {x : Value} {p : PZ} (hk : k < m) (hx : PMN N o w x p) : CofV N o w m (setV V k x) (cs.set k p) := by
  refine ⟨by rw [List.length_set]; exact h.1, fun i hi => ?_⟩
  unfold setV
  simp only [List.getD_eq_getElem?_getD, List.getElem?_set]
  by_cases e : i = k
  · subst e
    rw [if_pos rfl, if_pos rfl, if_pos (by rw [h.1]; exact hk)]
    exact hx
  · rw [if_neg e, if_neg (fun h => e h.symm), ← List.getD_eq_getElem?_getD]
    exact h.2 i hi
theorem FormV.set (h : FormV m V) (k : Nat) {x : Value} (hx : ∃ a n c, x = .slice a n c) : FormV m (setV V k x) := fun i hi => by
  unfold setV
  split
  · exact hx
  · exact h i hi
theorem CofV.polys {bq : Nat} {T : TypeId} (h : CofV N o w m V cs) (hr : w.rowIs bq T m V) (hm : m ≤ maxLen) {S : Nat → Prop} (hS : ∀ k, N ≤ k ∧ NB o w k → S k) (hq : S bq) : Polys S w (.slice (some ⟨bq, 0, none⟩) m m) (cs.map ofP) := by
  refine ⟨bq, 0, ⟨_, m, by rw [List.length_map, h.1], by rw [List.length_map, h.1]; exact Nat.le_refl _, hm, fun _ => rfl, fun _ => hq⟩, fun j p hj => ?_⟩
  have hl := lt_of_some hj
  rw [List.length_map, h.1] at hl
  rw [map_get (by rw [h.1]; exact hl)] at hj
  obtain rfl := Option.some.inj hj
  exact ⟨V j, by rw [Nat.zero_add]; exact hr.cell hl, (h.2 j hl).to (Kept.refl _ _) hS⟩
end
end Go.Proofs.YthdcaablomgboaaGreat

namespace Go.Proofs.YthdcaablomgboaaGreat
open Go.RowKit Go.Sort

section
variable {α : Type} [Inhabited α] {pc : α → PCell} {w : World} {b o : Nat} {cf : α → α → Int} {le : α → α → Bool}

end
end Go.Proofs.YthdcaablomgboaaGreat

namespace Go.Proofs.YthdcaablomgboaaGreat
open Go.RowKit Go.Sort

section
variable {α : Type} [Inhabited α] {pc : α → PCell} {w : World} {b o : Nat}

end
end Go.Proofs.YthdcaablomgboaaGreat

namespace Go.Proofs.YthdcaablomgboaaGreat
open Go.RowKit Go.Sort

section
variable {α : Type} [Inhabited α] {pc : α → PCell} {w : World} {b o : Nat} {cf : α → α → Int} {le : α → α → Bool}

end
end Go.Proofs.YthdcaablomgboaaGreat

namespace Go.Proofs.YthdcaablomgboaaGreat
open Go.RowKit Go.Sort

section
variable {α : Type} [Inhabited α] {pc : α → PCell} {w : World} {b o : Nat} {cf : α → α → Int} {le : α → α → Bool}

end
end Go.Proofs.YthdcaablomgboaaGreat

namespace Go.Proofs.YthdcaablomgboaaGreat
open Go.RowKit Go.Sort

section
variable {α : Type} [Inhabited α] {pc : α → PCell} {w : World} {b o : Nat} {cf : α → α → Int} {le : α → α → Bool}

end
end Go.Proofs.YthdcaablomgboaaGreat

namespace Go.Proofs.YthdcaablomgboaaGreat
open Go.RowKit Go.Sort

/-- the cells of a slice of polynomials -/
def CellsL (S : Nat → Prop) (w : World) (xs : List Value) (l : List (List RTerm)) : Prop := xs.length = l.length ∧ ∀ (j : Nat) (p : List RTerm), l[j]? = some p → ∃ vp, xs[j]? = some vp ∧ Terms S w vp p
theorem CellsL.nil (S : Nat → Prop) (w : World) : CellsL S w [] [] := ⟨rfl, fun j p h => by simp at h⟩
theorem CellsL.to {S S' : Nat → Prop} {w w' : World} {xs : List Value} {l : List (List RTerm)} (h : CellsL S w xs l) (hk : Kept S w w') (hS : ∀ k, S k → S' k) : CellsL S' w' xs l :=
  ⟨h.1, fun j p hj => by
    obtain ⟨vp, h1, h2⟩ := h.2 j p hj
    exact ⟨vp, h1, h2.to hk hS⟩⟩
theorem CellsL.snoc {S : Nat → Prop} {w : World} {xs : List Value} {l : List (List RTerm)} {v : Value} {p : List RTerm} (h : CellsL S w xs l) (hv : Terms S w v p) : CellsL S w (xs ++ [v]) (l ++ [p]) := by
  refine ⟨by simp [h.1], fun j q hj => ?_⟩
  by_cases hlt : j < l.length
  · rw [List.getElem?_append_left hlt] at hj
    rw [List.getElem?_append_left (by rw [h.1]; exact hlt)]
    exact h.2 j q hj
  · have hj2 := lt_of_some hj
    simp only [List.length_append, List.length_cons, List.length_nil] at hj2
    obtain rfl : j = l.length := by omega
    rw [List.getElem?_append_right (Nat.le_refl _), Nat.sub_self] at hj
    obtain rfl : p = q := by simpa using hj
    refine ⟨v, ?_, hv⟩
    rw [← h.1, List.getElem?_append_right (Nat.le_refl _), Nat.sub_self]
    rfl
theorem Polys.nilv (S : Nat → Prop) (w : World) (a : Option Addr) (cap : Nat) (h : cap ≤ 9223372036854775807) : Polys S w (.slice a 0 cap) [] :=
  ⟨0, 0, ⟨a, cap, rfl, Nat.zero_le _, h, fun h => absurd h (Nat.lt_irrefl 0), fun h => absurd h (Nat.lt_irrefl 0)⟩, fun j t hj => by simp at hj⟩
theorem own_polys {S : Nat → Prop} {w : World} {base : Nat} {e : TypeId} {v : Value} {xs : List Value} {l : List (List RTerm)} (h : w.ownsRow base e 1 v l.length xs) (hc : CellsL S w xs l) (hB : ∀ k, base ≤ k → k < w.heap.size → S k) : Polys S w v l := by
  have hlt := h.lt
  rcases h.2 with ⟨rfl, h0⟩ | ⟨g, cap, cur, rfl, hg, hh, h1, h2, h3, h4⟩
  · obtain rfl : l = [] := List.length_eq_zero_iff.1 h0
    exact Polys.nilv _ _ _ _ (by decide)
  · refine ⟨g, 0, ⟨_, cap, rfl, h1, h2, fun _ => rfl, fun _ => hB g (hlt g rfl).1 (hlt g rfl).2⟩, fun j t hj => ?_⟩
    obtain ⟨vp, g1, g2⟩ := hc.2 j t hj
    have hb := lt_of_some hj
    refine ⟨vp, ?_, g2⟩
    rw [h.cellAt (0 + j) (by omega), Nat.zero_add]
    exact g1
theorem Tryz.infoPoly : (Tryz.prog.info? 23).map (fun i => (i.zero, i.size, i.bytes)) = some (some (.slice none 0 0), 1, 24) := by kernel_rfl
section
variable {w w1 w2 : World} {o : Value} {e : TypeId} {size n : Nat} {xs : List Value}
end

/-- a polynomial whose parts lie in a world -/
structure PolyIn (S : Nat → Prop) (w : World) where
  t : List RTerm
  c : PCell
  h : Terms S w (.slice c.a c.n c.c) t
  small : smallT t
instance (S : Nat → Prop) (w : World) : Inhabited (PolyIn S w) := ⟨⟨[], ⟨none, 0, 0⟩, Terms.nilv _ _ _ _ (by decide), fun t ht => by simp at ht⟩⟩
section
variable {S : Nat → Prop} {w : World}
theorem cells_polys {xs : List Value} {ls : List (List RTerm)} (h : CellsL S w xs ls) (hs : smallL ls) : ∃ d : List (PolyIn S w), d.map (·.t) = ls ∧ xs = d.map (fun x => .slice x.c.a x.c.n x.c.c) := by
  obtain ⟨hl, hc⟩ := h
  induction ls generalizing xs with
  | nil => exact ⟨[], rfl, by simpa using List.length_eq_zero_iff.1 hl⟩
  | cons p r ih =>
    cases xs with
    | nil => simp at hl
    | cons v ys =>
      obtain ⟨vp, h1, h2⟩ := hc 0 p rfl
      obtain rfl : v = vp := by simpa using h1
      obtain ⟨d, hd1, hd2⟩ := ih (fun q hq => hs q (by simp [hq])) (xs := ys) (by simpa using hl) (fun j q hj => hc (j + 1) q (by simpa using hj))
      obtain ⟨a, c, rfl⟩ := h2.form
      exact ⟨⟨p, ⟨a, p.length, c⟩, h2, hs p (by simp)⟩ :: d, by simp [hd1], by simp [hd2]⟩
end
end Go.Proofs.YthdcaablomgboaaGreat

namespace Go.Proofs.YthdcaablomgboaaGreat
open Go.RowKit Go.Deep

def RestPost16 (W : World) (o : Option Nat) (X : Int × MSt × PZ × List Int × List PZ) : Ending → World → Prop := fun e W' => ∃ vp vc vr, e = .returned (.tuple #[.agg #[vp, vc, vr], .int .i64 X.1]) ∧ MV W' o X.2.1 ∧ W.grownBy W' o ∧ PMN W.heap.size o W' vr X.2.2.1 ∧
  Ints (fun k => W.heap.size ≤ k ∧ NB o W' k) W' vp X.2.2.2.1 ∧ Polys (fun k => W.heap.size ≤ k ∧ NB o W' k) W' vc (X.2.2.2.2.map ofP)

/-- a result of three cells is stored -/
def st3 (Y : World) (br : Nat) (a b c : Value) : World := ((Y.setCell ⟨br, 0, none⟩ a).setCell ⟨br, 1, none⟩ b).setCell ⟨br, 2, none⟩ c
section
variable {W Y : World} {br hi bc bd bp bq m : Nat} {a b c u0 u1 u2 vr : Value} {o : Option Nat} {s : MSt} {ns : List Int} {V : Nat → Value} {cs : List PZ} {r : PZ}
theorem st3_0 (h0 : Y.cell? ⟨br, 0, none⟩ = some u0) : (st3 Y br a b c).cell? ⟨br, 0, none⟩ = some a := other (other (same_of h0) (ao (by decide))) (ao (by decide))
theorem st3_1 (h1 : Y.cell? ⟨br, 1, none⟩ = some u1) : (st3 Y br a b c).cell? ⟨br, 1, none⟩ = some b := other (same_of (other h1 (ao (by decide)))) (ao (by decide))
theorem st3_2 (h2 : Y.cell? ⟨br, 2, none⟩ = some u2) : (st3 Y br a b c).cell? ⟨br, 2, none⟩ = some c := same_of (other (other h2 (ao (by decide))) (ao (by decide)))
theorem st3_mv (h : MV Y o s) (ho : ∀ b, o = some b → b < br) : MV (st3 Y br a b c) o s := by
  have hne : ∀ b, o = some b → b ≠ br := fun b hb => Nat.ne_of_lt (ho b hb)
  exact ((h.set hne (a := ⟨br, 0, none⟩) rfl a).set hne (a := ⟨br, 1, none⟩) rfl b).set hne (a := ⟨br, 2, none⟩) rfl c
theorem st3_gx (h1 : br < hi) : Gx o br hi Y (st3 Y br a b c) :=
  ((gx_set Y (a := ⟨br, 0, none⟩) (Nat.le_refl _) h1 a).trans (gx_set _ (a := ⟨br, 1, none⟩) (Nat.le_refl _) h1 b)).trans (gx_set _ (a := ⟨br, 2, none⟩) (Nat.le_refl _) h1 c)
theorem st3_other {k : Nat} (h : k ≠ br) : (st3 Y br a b c).heap[k]? = Y.heap[k]? :=
  ((heap_other _ ⟨br, 2, none⟩ c h).trans (heap_other _ ⟨br, 1, none⟩ b h)).trans (heap_other _ ⟨br, 0, none⟩ a h)
theorem ints_nil (S : Nat → Prop) (w : World) : Ints S w (.slice none 0 0) [] := ⟨0, 0, ⟨none, 0, rfl, Nat.le_refl _, by decide, fun h => by simp at h, fun h => by simp at h⟩, fun j n hj => by simp at hj⟩
theorem fin16 (O : Own br hi br bc bd bp bq) (hb : br = W.heap.size) (ho : ∀ b, o = some b → b < br) (hm : MV Y o s) (hg : W.grownBy Y o) (hr : RestAt 23 Y br bd bp bq m vr ns V) (hv : PMN hi o Y vr r) (hc : CofV hi o Y m V cs) (hn : ns.length = m) (hi64 : ∀ z ∈ ns, inI64 z) (hml : m ≤ maxLen) :
    RestPost16 W o (0, s, r, ns, cs) (.returned (.tuple #[.agg #[.slice (some ⟨bp, 0, none⟩) m m, .slice (some ⟨bq, 0, none⟩) m m, vr], .int .i64 0])) (st3 Y br (.slice (some ⟨bp, 0, none⟩) m m) (.slice (some ⟨bq, 0, none⟩) m m) vr) := by
  have hx : Gx o br hi Y (st3 Y br (.slice (some ⟨bp, 0, none⟩) m m) (.slice (some ⟨bq, 0, none⟩) m m) vr) := st3_gx O.r.2
  have hg2 : W.grownBy (st3 Y br (.slice (some ⟨bp, 0, none⟩) m m) (.slice (some ⟨bq, 0, none⟩) m m) vr) o := ⟨hx.os.trans hg.os, hx.tape.trans hg.tape, hx.output.trans hg.output, Nat.le_trans hg.size hx.size, fun k h1 h2 => by
    rw [st3_other (by omega)]
    exact hg.block k h1 h2⟩
  have hno : ∀ k, br ≤ k → some k ≠ o := fun k hk e => by have := ho k e.symm; omega
  obtain ⟨l1, l2, l3, l4⟩ := hr.lts
  refine ⟨_, _, _, rfl, st3_mv hm ho, hg2, (PMN.gx hv (Nat.le_refl _) hx).low (by have := O.r; omega), ?_, ?_⟩
  · exact Ints.of_row (hr.P.of_block (st3_other O.rp.symm)) hn hi64 hml ⟨by rw [← hb]; exact O.p.1, Nat.lt_of_lt_of_le l3 hx.size, hno _ O.p.1⟩
  · exact (hc.gx (Nat.le_refl _) hx).polys (hr.Q.of_block (st3_other O.rq.symm)) hml (fun k hk => ⟨by have := O.r; have := hk.1; omega, hk.2⟩) ⟨by rw [← hb]; exact O.q.1, Nat.lt_of_lt_of_le l4 hx.size, hno _ O.q.1⟩
theorem err16 {e : Int} (hbr : br < hi) (hb : br = W.heap.size) (ho : ∀ b, o = some b → b < br) (hm : MV Y o s) (hg : W.grownBy Y o) :
    RestPost16 W o (e, s, [], [], []) (.returned (.tuple #[.agg #[.slice none 0 0, .slice none 0 0, .slice none 0 0], .int .i64 e])) (st3 Y br (.slice none 0 0) (.slice none 0 0) (.slice none 0 0)) := by
  have hx : Gx o br hi Y (st3 Y br (.slice none 0 0) (.slice none 0 0) (.slice none 0 0)) := st3_gx hbr
  have hg2 : W.grownBy (st3 Y br (.slice none 0 0) (.slice none 0 0) (.slice none 0 0)) o := ⟨hx.os.trans hg.os, hx.tape.trans hg.tape, hx.output.trans hg.output, Nat.le_trans hg.size hx.size, fun k h1 h2 => by
    rw [st3_other (by omega)]
    exact hg.block k h1 h2⟩
  exact ⟨_, _, _, rfl, st3_mv hm ho, hg2, Terms.nilv _ _ _ _ (by decide), ints_nil _ _, Polys.nilv _ _ _ _ (by decide)⟩
end

set_option maxRecDepth 100000 in
set_option maxHeartbeats 16000000 in
theorem chain_rest {W : World} {o : Option Nat} {s : MSt} {vf vl : Value} {f : PZ} {ls : List PZ} {A T : Nat} (hM : MV W o s) (hf : PM o W vf f) (hl : Polys (NB o W) W vl (ls.map ofP)) (ff : Fit A T f) (hA : A ≤ 1000000) (hT : T ≤ 1000000000)
    (sl : smallL (ls.map ofP)) (hmay : mayC 0 (ls.map ofP) = true) (hlen : ls.length ≤ 1000) (hF : RestFit o true ls ls.length s f (List.replicate ls.length [])) :
    Calls Tryz.prog 16 #[mval o, vf, vl] W (RestPost16 W o (restD o true ls ls.length s f (List.replicate ls.length 0) (List.replicate ls.length []))) := by
  have hnot : ∀ (x : Bool) (w : World), (Op.unary .not (.bool x)).run Tryz.prog w = .ok (.bool (!x)) w := fun _ _ => rfl
  have C1 := hid (fun (Y : World) (hY : Ext W Y) => z_may (Terms.on hf.pv hY) ff hA)
  have C2 := hid (fun (Y : World) (hY : Ext W Y) => (show Calls Tryz.prog 13 #[vl] Y fun e w' => e = .returned (.bool true) ∧ Ext Y w' from by
    have h := chain_may (S := NB o W) vl (ls.map ofP) Y (hl.ext hY (fun _ h => h.1)) (fun k h => Nat.lt_of_lt_of_le h.1 hY.size) sl
    rwa [hmay] at h))
  have HF := hid hf
  have HFT := hid ff
  have HAT := hid (And.intro hA hT)
  have HM := hid hM
  have HL := hid hl
  have HFF := hid hF
  have HBM := hid (fun b hb => hM.block (b := b) hb)
  obtain ⟨X, hX⟩ : ∃ X, X = restD o true ls ls.length s f (List.replicate ls.length 0) (List.replicate ls.length []) := ⟨_, rfl⟩
  rw [← hX]
  have HX := hid hX
  obtain ⟨m, hm⟩ : ∃ m, m = ls.length := ⟨_, rfl⟩
  have HMM := hid hm
  rw [← hm] at hlen
  obtain ⟨af, cf, rfl⟩ := hf.form
  obtain ⟨al, cl, hl'⟩ := hl.form
  rw [List.length_map, ← hm] at hl'
  subst hl'
  obtain ⟨nf, hnf⟩ : ∃ n, n = (ofP f).length := ⟨_, rfl⟩
  rw [← hnf] at C1 ⊢
  have HNF := hid hnf
  obtain ⟨vm, hvm⟩ : ∃ x, x = mval o := ⟨_, rfl⟩
  obtain ⟨am, rfl⟩ : ∃ a, vm = .pointer a := ⟨_, hvm⟩
  rw [← hvm]
  have HVM := hid hvm
  clear hM hf hl ff hA hT sl hmay hF hX hm hnf hvm
  have hmk := fun (Y : World) => run_make_row' (P := Tryz.prog) 25 3 (.int .i64 0) 8 Tryz.underlying25 Tryz.infoInt rfl .i64 .i64 m (by omega) (by omega) Y
  have hmq := fun (Y : World) => run_make_row' (P := Tryz.prog) 24 23 (.slice none 0 0) 24 Tryz.underlying24 Tryz.infoPoly rfl .i64 .i64 m (by omega) (by omega) Y
  have HX0 := hid (Ext.alloc (Ext.refl W) (.cells #[.slice none 0 0, .slice none 0 0, .slice none 0 0] 27))
  have j0 : (W.alloc (.cells #[.slice none 0 0, .slice none 0 0, .slice none 0 0] 27)).cell? ⟨W.heap.size, 0, none⟩ = some (.slice none 0 0) := cell_new _ _ _ rfl rfl
  have j1 : (W.alloc (.cells #[.slice none 0 0, .slice none 0 0, .slice none 0 0] 27)).cell? ⟨W.heap.size, 1, none⟩ = some (.slice none 0 0) := cell_new _ _ _ rfl rfl
  have j2 : (W.alloc (.cells #[.slice none 0 0, .slice none 0 0, .slice none 0 0] 27)).cell? ⟨W.heap.size, 2, none⟩ = some (.slice none 0 0) := cell_new _ _ _ rfl rfl
  have HJ := hid (And.intro j0 (And.intro j1 j2))
  have HZ := hid (fun i => free_new W #[.slice none 0 0, .slice none 0 0, .slice none 0 0] 27 (i := i))
  clear j0 j1 j2
  go_enter Tryz.func16, Tryz.ntmps16
  go_wp2_with fail
  with_reducible refine (C1.out _ HX0.out).mono ?_
  rintro e w1 ⟨rfl, hx⟩
  have HX1 := hid (HX0.out.trans hx)
  have HY1 := hid hx
  clear hx
  go_wp2_with fail
  with_reducible refine (C2.out _ HX1.out).mono ?_
  rintro e w2 ⟨rfl, hx⟩
  have HX2 := hid (HX1.out.trans hx)
  have HY2 := hid (HY1.out.trans hx)
  clear hx
  have HR2 := hid (And.intro (HY2.out.cell HJ.out.1) (And.intro (HY2.out.cell HJ.out.2.1) (HY2.out.cell HJ.out.2.2)))
  have HLB : Hid (W.heap.size < w2.heap.size) := hid (lt_of_cell HR2.out.1)
  have HZ2 : Hid (∀ i, w2.frozen? ⟨W.heap.size, i, none⟩ = false) := hid (fun i => (World.frozen?_of_block (w := W.alloc (.cells #[.slice none 0 0, .slice none 0 0, .slice none 0 0] 27)) (a := ⟨W.heap.size, i, none⟩) (HY2.out.block _ (by show W.heap.size < _; rw [size_alloc]; exact Nat.lt_succ_self _))).trans (HZ.out i))
  go_upto_region 4 with fail
  go_cut [9] (fun s9 wx => ∃ bd bp bq, s9 = .pointer (some ⟨bd, 0, none⟩) ∧ Hid (Own W.heap.size wx.heap.size W.heap.size w2.heap.size bd bp bq) ∧ Hid (RestAt 23 wx W.heap.size bd bp bq m (.slice af nf cf) (List.replicate m 0) (fun _ => .slice none 0 0)) ∧ Hid (CalcAt wx w2.heap.size (.pointer am) 0) ∧ Hid (Ext w2 wx))
  case first =>
    go_region_held3 (fun _ => True) (exact trivial) (fail)
    all_goals
      go_wp2_with fail
      go_meet
      obtain ⟨k0, k1, k2⟩ := HR2.out
      first
        | with_reducible exact born16_1 HLB.out k0 k1 k2 HZ2.out
        | with_reducible exact born16_2 HLB.out k0 k1 k2 HZ2.out
        | with_reducible exact born16_3 HLB.out k0 k1 k2 HZ2.out
        | with_reducible exact born16_4 HLB.out k0 k1 k2 HZ2.out
        | with_reducible exact born16_5 HLB.out k0 k1 k2 HZ2.out
        | with_reducible exact born16_6 HLB.out k0 k1 k2 HZ2.out
  case rest =>
    obtain ⟨bd, bp, bq, rfl, HO, HRT, HCA, HXC⟩ := hcut
    have HX5 := hid (HX2.out.trans HXC.out)
    obtain ⟨bc, hbc⟩ : ∃ n, n = w2.heap.size := ⟨_, rfl⟩
    obtain ⟨br, hbr⟩ : ∃ n, n = W.heap.size := ⟨_, rfl⟩
    obtain ⟨hi, hhi⟩ : ∃ n, n = wc.heap.size := ⟨_, rfl⟩
    rw [← hbr, ← hbc, ← hhi] at HO
    rw [← hbr] at HRT
    rw [← hbc] at HCA
    rw [← hbc, ← hbr]
    have HBR := hid hbr
    have HHI := hid hhi
    have HOB : Hid (∀ b, o = some b → b < br) := hid (fun b hb => by rw [hbr]; exact HBM.out b hb)
    have HLH : Hid (br ≤ hi) := hid (by rw [hbr, hhi]; exact HX5.out.size)
    clear hbc hbr hhi hmk hmq
    go_wp2
    go_loopw [10] (fun i wr => ∃ (k : Nat) (s1 : MSt) (vr : Value) (r1 : PZ) (ns1 : List Int) (V : Nat → Value) (cs1 : List PZ), k ≤ m ∧ i = .int .i64 ((k : Int) - 1) ∧ Hid (MV wr o s1) ∧ Hid (Gx o br hi wc wr) ∧ Hid (RestAt 23 wr br bd bp bq m vr ns1 V) ∧ Hid (CalcAt wr bc (.pointer am) 0) ∧ Hid (PX o br hi wr vr r1) ∧ Hid (∃ A T, Fit A T r1 ∧ A ≤ 1000000 ∧ T ≤ 1000000000000) ∧ Hid (CofV hi o wr m V cs1) ∧ Hid (RestFit o true ls k s1 r1 cs1) ∧ Hid (restD o true ls k s1 r1 ns1 cs1 = X) ∧ Hid (ns1.length = m ∧ ∀ z ∈ ns1, inI64 z)) (fun i _ => (intOf i + 1).toNat)
    case atStart =>
      refine ⟨m, s, .slice af nf cf, f, List.replicate m 0, fun _ => .slice none 0 0, List.replicate m [], Nat.le_refl _, rfl, hid (HM.out.ext HX5.out), hid (Gx.refl _ _ _ _), HRT, HCA, hid ?_, hid ⟨A, T, HFT.out, HAT.out.1, by have := HAT.out.2; omega⟩, hid ?_, hid ?_, hid ?_, hid ⟨by simp, fun z hz => ?_⟩⟩
      · rw [HNF.out]
        have h := HF.out
        refine h.to (Kept.ext HX5.out (fun _ h => h.1)) (fun k hk => ⟨Nat.lt_of_lt_of_le hk.1 HX5.out.size, hk.2, fun e => ?_⟩)
        have h1 := hk.1
        have h2 := e.1
        rw [HBR.out] at h2
        omega
      · refine ⟨by simp, fun i hi => ?_⟩
        rw [List.getD_eq_getElem?_getD, List.getElem?_replicate]
        split <;> exact Terms.nilv _ _ _ _ (by decide)
      · rw [HMM.out]; exact HFF.out
      · rw [HX.out, HMM.out]
      · rw [List.eq_of_mem_replicate hz]; unfold inI64; omega
    case round =>
      obtain ⟨k, s1, vr, r1, ns1, V, cs1, hk, rfl, HMV, HG, HRA, HCK, HRV, HFR, HCV, HRF, HRD, HNS⟩ := hrel
      have HGW : Hid (W.grownBy wr o) := hid (((gx_ext HX5.out).trans HG.out).gb (by rw [HBR.out]; exact Nat.le_refl _))
      cases k with
      | zero =>
        have HX0 : Hid (X = (0, s1, r1, ns1, cs1)) := hid HRD.out.symm
        have HADD : Hid (Calls Tryz.prog 45 #[vr, .slice none 0 0] wr (OkPoly wr r1)) := hid (by
          obtain ⟨A', T', fr, hA', hT'⟩ := HFR.out
          have hn : PV wr (.slice none 0 0) [] := Terms.nilv _ _ _ _ (by decide)
          have h := z_add (q := []) HRV.out.pv hn fr fit_nil hA' (by omega) (by omega)
          rwa [show normP (r1 ++ []) = r1 by rw [List.append_nil]; exact normP_of_can fr.can] at h)
        obtain ⟨ar, cr, rfl⟩ := HRV.out.form
        obtain ⟨nr, hnr⟩ : ∃ n, n = (ofP r1).length := ⟨_, rfl⟩
        rw [← hnr] at HADD HRA
        have e2 := HRA.out.d2
        clear hnr
        go_wp2_with fail
        with_reducible refine HADD.out.mono ?_
        rintro e w6 ⟨v6, rfl, ht6, hx6⟩
        have HX6 := hid hx6
        have HR6 := hid (HRA.out.gb HO.out.toOwn3 HOB.out (gb_of_ext hx6 o))
        have HT6 := hid ht6
        obtain ⟨a6, c6, rfl⟩ := ht6.form
        obtain ⟨n6, hn6⟩ : ∃ n, n = (ofP r1).length := ⟨_, rfl⟩
        rw [← hn6] at HT6 ⊢
        have HN6 := hid hn6
        have HHW : Hid (hi ≤ wr.heap.size) := hid (by rw [HHI.out]; exact HG.out.size)
        have HR7 := hid (HR6.out.setD HO.out.toOwn3 (.slice a6 n6 c6))
        obtain ⟨W7, hW7⟩ : ∃ Y, Y = w6.setCell ⟨bd, 2, none⟩ (.slice a6 n6 c6) := ⟨_, rfl⟩
        rw [← hW7] at HR7
        have HW7 := hid hW7
        clear e2 ht6 hx6 hn6 hW7
        have k2 := HR6.out.d2
        have kz := HR6.out.dz 2
        have HM7 := hid ((HMV.out.ext HX6.out).set (W := w6) (a := ⟨bd, 2, none⟩) (bd := bd) (fun b hb e => by have h1 := HOB.out b hb; have h2 := HO.out.d.1; omega) rfl (.slice a6 n6 c6))
        rw [← HW7.out] at HM7
        have HG7 : Hid (Gx o br hi wr W7) := hid (by rw [HW7.out]; exact (gx_ext HX6.out).trans (gx_set w6 (a := ⟨bd, 2, none⟩) HO.out.d.1 HO.out.d.2 _))
        have HGW7 : Hid (W.grownBy W7 o) := hid ((((gx_ext HX5.out).trans HG.out).trans HG7.out).gb (by rw [HBR.out]; exact Nat.le_refl _))
        have HC7 := hid (HCV.out.gx (Nat.le_refl _) HG7.out)
        have HP7 : Hid (PMN hi o W7 (.slice a6 n6 c6) r1) := hid (by
          rw [HN6.out] at HT6
          have h := HT6.out
          rw [← HN6.out] at h
          refine h.to (fun k hk => ?_) (fun k hk => ⟨Nat.le_trans HHW.out hk.1, ?_, fun e => ?_⟩)
          · rw [HW7.out]
            exact heap_other w6 ⟨bd, 2, none⟩ _ (fun e => by have h1 := hk.1; have h2 := HO.out.d.2; have h3 := HHW.out; have e2 : k = bd := e; omega)
          · rw [HW7.out]
            exact Nat.lt_of_lt_of_le hk.2 (gx_set (o := o) (lo := br) (hi := hi) w6 (a := ⟨bd, 2, none⟩) HO.out.d.1 HO.out.d.2 _).size
          · have h1 := HOB.out k e.symm; have h2 := hk.1; have h3 := HHW.out; have h4 := HLH.out; omega)
        have d0 := HR7.out.d0
        have d1 := HR7.out.d1
        have d2 := HR7.out.d2
        have y0 := HR7.out.r0
        have y1 := HR7.out.r1
        have y2 := HR7.out.r2
        have z0 := HR7.out.rz 0
        have z1 := HR7.out.rz 1
        have z2 := HR7.out.rz 2
        rw [HW7.out] at d0 d1 d2 y0 y1 y2 z0 z1 z2
        have f0 := st3_0 (a := .slice (some ⟨bp, 0, none⟩) m m) (b := .slice (some ⟨bq, 0, none⟩) m m) (c := .slice a6 n6 c6) HR7.out.r0
        have f1 := st3_1 (a := .slice (some ⟨bp, 0, none⟩) m m) (b := .slice (some ⟨bq, 0, none⟩) m m) (c := .slice a6 n6 c6) HR7.out.r1
        have f2 := st3_2 (a := .slice (some ⟨bp, 0, none⟩) m m) (b := .slice (some ⟨bq, 0, none⟩) m m) (c := .slice a6 n6 c6) HR7.out.r2
        have HFIN := hid (fin16 HO.out HBR.out HOB.out HM7.out HGW7.out HR7.out HP7.out HC7.out HNS.out.1 HNS.out.2 (by unfold maxLen; omega))
        rw [HW7.out] at f0 f1 f2 HFIN
        unfold st3 at f0 f1 f2 HFIN
        go_wp2
        all_goals
          refine bodyPost_ret (v := .tuple #[.agg #[.slice (some ⟨bp, 0, none⟩) m m, .slice (some ⟨bq, 0, none⟩) m m, .slice a6 n6 c6], .int .i64 0]) (by simp [results, Tryz.results16, go_sem, f0, f1, f2]) rfl ?_
          rw [HX0.out]
          exact HFIN.out
      | succ q =>
        have hq1 : ((q + 1 : Nat) : Int) - 1 = (q : Int) := by omega
        have hqm : q < m := by omega
        have HRS := hid HRF.out.1
        obtain ⟨⟨A2, T2, B2, M2, fp, hA2, hB2, hT2, hTb2, hTM2, hFR2⟩, hlead, hdeg⟩ := HRS.out
        have HPF : Hid (Fit A2 T2 (ls.getD q []) ∧ A2 < 24 ∧ 1 ≤ T2 ∧ T2 ≤ 1000000) := hid ⟨fp, hA2, hT2, hTb2⟩
        have hdn : (divK o true ls q s1 r1).n ≤ 10001 := div_n (o := o) (keep := true) (s := s1) (g := ls.getD q []) (v := leadP (ls.getD q [])) hFR2.now.2.can.may
        have hfit : Fit B2 M2 (divK o true ls q s1 r1).r := (run_fit _ _ _ _ _ hFR2).2
        have hMM : M2 ≤ 2 * T2 * M2 := Nat.le_mul_of_pos_left M2 (by omega)
        have HKW : Hid (Kept (NB o W) W wr) := hid (fun b hb => HGW.out.block b hb.1 hb.2)
        have HSW : Hid (∀ b, NB o W b → NX o br hi wr b) := hid (fun b hb => ⟨Nat.lt_of_lt_of_le hb.1 HGW.out.size, hb.2, fun e => by have h1 := hb.1; have h2 := e.1; rw [HBR.out] at h2; omega⟩)
        obtain ⟨bl, ol, vl, rfl, -, hl1, hl2, hSl, hlc, htl⟩ := (HL.out.to HKW.out (fun _ h => h)).cellAt (map_get (k := q) (l := ls) (by rw [← HMM.out]; exact hqm))
        have HTL := hid (htl.to (S' := NX o br hi wr) (Kept.refl _ _) HSW.out)
        have CC := hid (fun (Y : World) (hY : Ext wr Y) => z_class (PX.pv (PX.on HTL.out (gx_ext hY))) fp (by omega))
        have CR0 : ∀ Y : World, Ext wr Y → Calls Tryz.prog 48 #[mval o, vr, vl, .int .i64 (leadP (ls.getD q []))] Y (DividePost Y o (divK o true ls q s1 r1)) := fun (Y : World) (hY : Ext wr Y) => z_divide (HMV.out.ext hY) (PX.pm (PX.on HRV.out (gx_ext hY))) (PX.pm (PX.on HTL.out (gx_ext hY))) fp hFR2 hA2 (by omega) hT2 hTb2 hTM2 hlead hdeg
        rw [← HVM.out] at CR0
        have CR := hid CR0
        have HRND := hid HRF.out.2.1
        have HRF3 := hid HRF.out.2.2
        have hrd := HRD.out
        rw [restD] at hrd
        have HFRR : Hid (∃ A T, Fit A T (divK o true ls q s1 r1).r ∧ A ≤ 1000000 ∧ T ≤ 1000000000000) := hid ⟨B2, M2, hfit, by omega, by omega⟩
        generalize divK o true ls q s1 r1 = R at CR HRND HRF3 hrd hdn HFRR
        obtain ⟨re, rq, rr, rn, rs⟩ := R
        simp only at HRND HRF3 hrd hdn HFRR
        have HDN2 := hid hdn
        have HRDX := hid hrd
        have HLW := hid HRA.out.lts
        have HLC := hid HCK.out.lt
        obtain ⟨ar, cr, rfl⟩ := HRV.out.form
        obtain ⟨all, cll, rfl⟩ := htl.form
        obtain ⟨nr, hnr⟩ : ∃ n, n = (ofP r1).length := ⟨_, rfl⟩
        obtain ⟨nl1, hnl1⟩ : ∃ n, n = (ofP (ls.getD q [])).length := ⟨_, rfl⟩
        rw [← hnr, ← hnl1] at CR
        rw [← hnl1] at CC hlc
        rw [← hnr] at HRA
        have HNL := hid hnl1
        have HFS : Hid (∀ Y : World, wr.grownBy Y o → Y.cell? ⟨bl, ol + q, none⟩ = some (.slice all nl1 cll) ∧ Y.cell? ⟨bd, 2, none⟩ = some (.slice ar nr cr)) := hid (fun Y hY =>
          ⟨(World.cell?_of_block (hY.block bl (HSW.out bl hSl).1 hSl.2)).trans hlc, (HRA.out.gb HO.out.toOwn3 HOB.out hY).d2⟩)
        have x0 := Below.drew (Ext.refl wr)
        have HX0 : Hid (Ext wr _) := hid x0
        have S0 := HFS.out _ (gb_of_ext HX0.out o)
        have HC1 := hid (CC.out _ x0)
        clear fp hA2 hB2 hT2 hTb2 hTM2 hFR2 hlead hdeg htl hnr hnl1 hlc x0 hrd CR0 hdn hfit hMM
        simp only [hq1]
        go_wp2
        go_region_held3 (fun Y => Y.cell? ⟨bl, ol + q, none⟩ = some (.slice all nl1 cll) ∧ Y.cell? ⟨bd, 2, none⟩ = some (.slice ar nr cr)) (first | exact S0 | exact S1 | exact S2)
          (first
        | (go_at_call 46; refine HC1.out.mono ?_
           rintro e u1 ⟨rfl, hx1⟩; have HX1 : Hid (Ext wr u1) := hid (Ext.trans HX0.out hx1); have S1 := HFS.out _ (gb_of_ext HX1.out o); have HC2 := hid (CR.out u1 HX1.out); clear hx1)
        | (go_at_call 48; refine HC2.out.mono ?_
           rintro e u2 ⟨q2, x2, rfl, hm2, hg2, hq2, hr2⟩; have HG2 := hid (gb_trans (gb_of_ext HX1.out o) hg2); have S2 := HFS.out _ HG2.out; have HM2 := hid hm2; have HQ2 := hid (hq2.low (Nat.le_trans (Nat.le_of_eq rfl) HX1.out.size)); have HR2 := hid (hr2.low HX1.out.size); have qf := hr2.form; obtain ⟨a2, c2, rfl⟩ := qf; obtain ⟨n2, hn2⟩ : ∃ n, n = (ofP rr).length := ⟨_, rfl⟩; rw [← hn2] at HR2; rw [← hn2]; have qf := hq2.form; obtain ⟨a3, c3, rfl⟩ := qf; obtain ⟨n3, hn3⟩ : ∃ n, n = (ofP rq).length := ⟨_, rfl⟩; rw [← hn3] at HQ2; rw [← hn3]; clear hm2 hg2 hq2 hr2 hn2 hn3))
        all_goals
          have HX2 := hid (gx_gb (lo := br) (hi := hi) HG2.out)
          have HRA2 := hid (HRA.out.gb HO.out.toOwn3 HOB.out HG2.out)
          have HCK2 := hid (HCK.out.gb HG2.out (fun e => by have h1 := HOB.out bc e.symm; have h2 := HO.out.c.1; omega))
          have HCV2 := hid (HCV.out.gx (Nat.le_refl _) HX2.out)
          have HHW : Hid (hi ≤ wr.heap.size) := hid (by rw [HHI.out]; exact HG.out.size)
          have HGW2 : Hid (W.grownBy u2 o) := hid (gb_trans HGW.out HG2.out)
          clear S0 S1 S2
          by_cases h0 : re = 0
          · subst h0
            have HR6 := hid (HRA2.out.setQ HO.out.toOwn3 q (.slice a3 n3 c3))
            have HR7 := hid (HR6.out.setD HO.out.toOwn3 (.slice a2 n2 c2))
            have HR8 := hid (HR7.out.setP HO.out.toOwn3 q (rn : Int) (by rw [HNS.out.1]; exact hqm))
            obtain ⟨W6, hW6⟩ : ∃ Y, Y = u2.setCell ⟨bq, q, none⟩ (.slice a3 n3 c3) := ⟨_, rfl⟩
            rw [← hW6] at HR6 HR7 HR8
            obtain ⟨W7, hW7⟩ : ∃ Y, Y = W6.setCell ⟨bd, 2, none⟩ (.slice a2 n2 c2) := ⟨_, rfl⟩
            rw [← hW7] at HR7 HR8
            obtain ⟨W8, hW8⟩ : ∃ Y, Y = W7.setCell ⟨bp, q, none⟩ (.int .i64 (rn : Nat)) := ⟨_, rfl⟩
            rw [← hW8] at HR8
            have HX8 : Hid (Gx o br hi u2 W8) := hid (by
              have g6 : Gx o br hi u2 W6 := by rw [hW6]; exact gx_set _ (a := ⟨bq, q, none⟩) HO.out.q.1 HO.out.q.2 _
              have g7 : Gx o br hi W6 W7 := by rw [hW7]; exact gx_set _ (a := ⟨bd, 2, none⟩) HO.out.d.1 HO.out.d.2 _
              have g8 : Gx o br hi W7 W8 := by rw [hW8]; exact gx_set _ (a := ⟨bp, q, none⟩) HO.out.p.1 HO.out.p.2 _
              exact (g6.trans g7).trans g8)
            have HM8 : Hid (MV W8 o rs) := hid (by
              have hne : ∀ k, br ≤ k → ∀ b, o = some b → b ≠ k := fun k hk b hb => by have := HOB.out b hb; omega
              rw [hW8, hW7, hW6]
              exact ((HM2.out.set (hne bq HO.out.q.1) (a := ⟨bq, q, none⟩) rfl _).set (hne bd HO.out.d.1) (a := ⟨bd, 2, none⟩) rfl _).set (hne bp HO.out.p.1) (a := ⟨bp, q, none⟩) rfl _)
            have HK8 : Hid (CalcAt W8 bc (.pointer am) 0) := hid (HCK2.out.same (by
              rw [hW8, hW7, hW6]
              exact ((heap_other _ ⟨bp, q, none⟩ _ HO.out.cp).trans (heap_other _ ⟨bd, 2, none⟩ _ HO.out.cd)).trans (heap_other _ ⟨bq, q, none⟩ _ HO.out.cq)))
            have HV8 : Hid (PX o br hi W8 (.slice a2 n2 c2) rr) := hid (PX.on (PMN.px (hi := hi) HR2.out HHW.out) HX8.out)
            have HC8 : Hid (CofV hi o W8 m (setV V q (.slice a3 n3 c3)) (cs1.set q rq)) := hid ((HCV2.out.gx (Nat.le_refl _) HX8.out).set hqm (PMN.gx (PMN.low HQ2.out HHW.out) (Nat.le_refl _) HX8.out))
            have HG8 : Hid (Gx o br hi wc W8) := hid ((HG.out.trans HX2.out).trans HX8.out)
            have HN8 : Hid ((ns1.set q (rn : Int)).length = m ∧ ∀ z ∈ ns1.set q (rn : Int), inI64 z) := hid ⟨by rw [List.length_set]; exact HNS.out.1, fun z hz => by
              rcases List.mem_or_eq_of_mem_set hz with h | h
              · exact HNS.out.2 z h
              · rw [h]; unfold inI64; have h1 := HDN2.out; omega⟩
            have HW6 := hid hW6
            have HW7 := hid hW7
            have HW8 := hid hW8
            have d0 := HRA2.out.d0
            have d1 := HRA2.out.d1
            have d2 := HR6.out.d2
            have dz := HR6.out.dz 2
            have q1 := HRA2.out.Q.cell hqm
            have qz := HRA2.out.Q.frozen q
            have p1 := HR7.out.P.cell hqm
            have pz := HR7.out.P.frozen q
            rw [hW7] at p1 pz
            rw [hW6] at d2 dz p1 pz
            clear hW6 hW7 hW8
            by_cases hn0 : rn = 0
            · have HRC : Hid (roundC o true (ls.getD q []) ls.length q ⟨0, rq, rr, rn, rs⟩ cs1 = (0, rs, cs1.set q rq)) := hid (by
                unfold roundC
                rw [if_neg (fun h => h rfl), if_pos (.inl hn0)])
              have HRD8 : Hid (restD o true ls q rs rr (ns1.set q (rn : Int)) (cs1.set q rq) = X) := hid (by
                have h := HRDX.out
                rw [HRC.out] at h
                exact (if_neg (fun h => h rfl)).symm.trans h)
              have HRF8 : Hid (RestFit o true ls q rs rr (cs1.set q rq)) := hid (by
                have h := HRF3.out
                rw [HRC.out] at h
                exact h rfl)
              subst hn0
              go_wp2
              go_roundw
              case rel =>
                have hww : W8 = W7.setCell ⟨bp, q, none⟩ (.int .i64 0) := HW8.out
                rw [HW7.out, HW6.out] at hww
                rw [← hww]
                exact ⟨q, rs, .slice a2 n2 c2, rr, ns1.set q ((0 : Nat) : Int), setV V q (.slice a3 n3 c3), cs1.set q rq, by omega, by go_num, HM8, HG8, HR8, HK8, HV8, HFRR, HC8, HRF8, HRD8, HN8⟩
              case measure => simp only [intOf]; omega
            · have hrf := HRND.out rfl hn0 trivial
              obtain ⟨P, hP⟩ : ∃ P, P = (powN (initP (ls.getD q [])) rn).getD [] := ⟨_, rfl⟩
              have hn100 : rn ≤ 100 := hrf.hn
              have hpow : powN (initP (ls.getD q [])) rn = some P := by rw [hP]; exact hrf.pow
              have HCOF : Hid ((mkeep o rs P).1 = 0 → CofFit o P m (m - (q + 1)) (mkeep o rs P).2 (cs1.set q rq)) := hid (by rw [hP, HMM.out]; exact hrf.cof)
              obtain ⟨A3, T3, fp3, hA3, hT3, hT3b, hTn3⟩ := hrf.ex
              have hTn3' : T3 ^ rn ≤ 1000000000000 := hTn3
              obtain ⟨Y, hY⟩ : ∃ Y, Y = roundC o true (ls.getD q []) ls.length q ⟨0, rq, rr, rn, rs⟩ cs1 := ⟨_, rfl⟩
              have HY : Hid (Y = if (mkeep o rs P).1 ≠ 0 then ((mkeep o rs P).1, (mkeep o rs P).2, []) else cofD o P m (m - (q + 1)) (mkeep o rs P).2 (cs1.set q rq)) := hid (by
                rw [hY, HMM.out, hP]
                unfold roundC
                rw [if_neg (fun h => h rfl), if_neg (fun h => by rcases h with h | h; exact hn0 h; cases h)])
              have HYE : Hid (Y.1 ≠ 0 → X = (Y.1, Y.2.1, [], [], [])) := hid (fun hy => by
                have h := HRDX.out
                rw [← hY] at h
                exact ((if_pos hy).symm.trans h).symm)
              have HYO : Hid (Y.1 = 0 → restD o true ls q Y.2.1 rr (ns1.set q (rn : Int)) Y.2.2 = X ∧ RestFit o true ls q Y.2.1 rr Y.2.2) := hid (fun hy => by
                have h := HRDX.out
                have h2 := HRF3.out
                rw [← hY] at h h2
                exact ⟨(if_neg (fun k => k hy)).symm.trans h, h2 hy⟩)
              have HOC : Hid (∀ b, o = some b → b ≠ bc) := hid (fun b hb => by have h1 := HOB.out b hb; have h2 := HO.out.c.1; omega)
              have HK8m : Hid (CalcAt W8 bc (mval o) 0) := hid (by rw [← HVM.out]; exact HK8.out)
              have HTL8 := hid (PX.on HTL.out (HX2.out.trans HX8.out))
              have CI := z_initial (PX.pv HTL8.out) fp3 (by omega) hT3b
              have CP0 := fun (Y : World) (u : Value) (hY : Ext W8 Y) (hu : PC o bc Y u (initP (ls.getD q []))) => calc_power (HK8m.out.ext hY) (HM8.out.ext hY) HOC.out hu fp3.init hA3 hT3 hn100 hTn3' hpow
              have CP := hid CP0
              rw [← HNL.out] at CI
              have HCI := hid CI
              have k1 := World.cell?_of_block ((HX2.out.trans HX8.out).block bl (HSW.out bl hSl).1 (HSW.out bl hSl).2.1 (HSW.out bl hSl).2.2) (a := ⟨bl, ol + q, none⟩)
              rw [(HFS.out wr (gb_refl _ _)).1] at k1
              have hww : W8 = _ := HW8.out
              rw [HW7.out, HW6.out] at hww
              rw [hww] at k1
              have HWW := hid hww
              have q0 : ((rn : Int) == 0) = false := by rw [beq_eq_false_iff_ne]; omega
              clear hrf hpow fp3 hA3 hT3 hT3b hTn3 hTn3' hn100 CP0 CI hww hP hY
              go_wp2_with fail
              rw [← HWW.out]
              with_reducible refine HCI.out.mono ?_
              rintro e w9 ⟨vi, rfl, ht9, hx9⟩
              have HX9 := hid hx9
              have HLT8 := hid HK8.out.lt
              have HT9 := hid (ht9.to (S' := NC o bc w9) (Kept.refl _ _) (fun b hb => ⟨hb.2, fun e => by have h1 := HOB.out b e.symm; have h2 := HO.out.c.1; have h3 := HLT8.out; have h4 := hb.1; omega, fun e => by have := hb.1; have := HLT8.out; omega⟩))
              have HCP := hid (CP.out w9 vi hx9 HT9.out)
              obtain ⟨ai, ci, rfl⟩ := ht9.form
              obtain ⟨ni, hni⟩ : ∃ n, n = (ofP (initP (ls.getD q []))).length := ⟨_, rfl⟩
              rw [← hni] at HCP ⊢
              clear hx9 ht9 hni k1 d0 d1 d2 dz q1 qz p1 pz
              go_wp2_with fail
              with_reducible refine HCP.out.mono ?_
              rintro e w10 ⟨v10, rfl, hd10, hm10, hg10, hp10⟩
              have HHI8 : Hid (hi ≤ W8.heap.size) := hid (by rw [HHI.out]; exact HG8.out.size)
              have HHI9 : Hid (hi ≤ w9.heap.size) := hid (Nat.le_trans HHI8.out HX9.out.size)
              have HX10 : Hid (Gx o br hi W8 w10) := hid ((gx_ext HX9.out).trans (gx_gd hg10 HO.out.c.1 HO.out.c.2))
              have HD10 := hid hd10
              have HM10 := hid hm10
              have HR10 := hid ((HR8.out.gb HO.out.toOwn3 HOB.out (gb_of_ext HX9.out o)).gd HO.out HOB.out hg10)
              have HC10 := hid (HC8.out.gx (Nat.le_refl _) HX10.out)
              have HP10 : Hid (PX o br hi w10 v10 P) := hid (hp10.to (Kept.refl _ _) (fun k h => ⟨h.2.1, h.2.2.1, by have h1 := HHI9.out; have h2 := h.1; omega⟩))
              obtain ⟨ap, cp, rfl⟩ := hp10.form
              obtain ⟨np, hnp⟩ : ∃ n, n = (ofP P).length := ⟨_, rfl⟩
              have HNP := hid hnp
              rw [← hnp]
              clear hd10 hm10 hg10 hp10 hnp
              obtain ⟨e1, he1⟩ : ∃ z, z = (mkeep o rs P).1 := ⟨_, rfl⟩
              obtain ⟨s2, hs2⟩ : ∃ z, z = (mkeep o rs P).2 := ⟨_, rfl⟩
              rw [← he1, ← hs2] at HY HCOF
              rw [← he1] at HD10
              rw [← hs2] at HM10
              clear he1 hs2
              go_wp2
              go_loopw [17] (fun i wr => ∃ (t : Nat) (e2 : Int) (s3 : MSt) (V3 : Nat → Value) (cs3 : List PZ), t + (q + 1) ≤ m ∧ i = .int .i64 ((m - t : Nat) : Int) ∧ Hid (Gx o br hi w10 wr) ∧ Hid (MV wr o s3) ∧ Hid (RestAt 23 wr br bd bp bq m (.slice a2 n2 c2) (ns1.set q (rn : Int)) V3) ∧ Hid (CalcAt wr bc (.pointer am) e2) ∧ Hid (FormV m V3) ∧ Hid (e2 = 0 → CofV hi o wr m V3 cs3 ∧ CofFit o P m t s3 cs3 ∧ cofD o P m t s3 cs3 = Y) ∧ Hid (e2 ≠ 0 → Y = (e2, s3, []))) (fun i _ => m - (intOf i).toNat)
              case atStart =>
                refine ⟨m - (q + 1), e1, s2, setV V q (.slice a3 n3 c3), cs1.set q rq, by omega, by go_num, hid (Gx.refl _ _ _ _), HM10, HR10, hid (by rw [HVM.out]; exact HD10.out), hid HC10.out.form, hid (fun h0 => ⟨HC10.out, HCOF.out h0, ?_⟩), hid (fun h0 => ?_)⟩
                · rw [HY.out, if_neg (fun k => k h0)]
                · rw [HY.out, if_pos h0]
              case round =>
                obtain ⟨t, e2, s3, V3, cs3, htm, rfl, HGI, HMI, HRI, HKI, HFI, HCI2, HEI⟩ := hrel
                have HGA := hid (HX10.out.trans HGI.out)
                cases t with
                | zero =>
                  by_cases h2 : e2 = 0
                  · have hh := HCI2.out h2
                    have HYV : Hid (Y = (0, s3, cs3)) := hid hh.2.2.symm
                    have hy := HYO.out (by rw [HYV.out])
                    rw [HYV.out] at hy
                    have HC9 := hid hh.1
                    have HRD9 := hid hy.1
                    have HRF9 := hid hy.2
                    subst h2
                    have c1 := HKI.out.c1
                    clear hh hy
                    go_wp2
                    go_roundw
                    case rel => exact ⟨q, s3, .slice a2 n2 c2, rr, ns1.set q (rn : Int), V3, cs3, by omega, by go_num, HMI, hid (HG8.out.trans HGA.out), HRI, HKI, hid (PX.on HV8.out HGA.out), HFRR, HC9, HRF9, HRD9, HN8⟩
                    case measure => simp only [intOf]; omega
                  · have HXE : Hid (X = (e2, s3, [], [], [])) := hid (by
                      have h := HYE.out (by rw [HEI.out h2]; exact h2)
                      rwa [HEI.out h2] at h)
                    have HGWI : Hid (W.grownBy wr.drew o) := hid (gb_drew ((((gx_ext HX5.out).trans HG8.out).trans HGA.out).gb (by rw [HBR.out]; exact Nat.le_refl _)))
                    have qe : (e2 != 0) = true := by rw [bne_iff_ne]; exact h2
                    have c1 := HKI.out.c1
                    have y0 : wr.cell? ⟨br, 0, none⟩ = some (.slice none 0 0) := HRI.out.r0
                    have y1 : wr.cell? ⟨br, 1, none⟩ = some (.slice none 0 0) := HRI.out.r1
                    have y2 : wr.cell? ⟨br, 2, none⟩ = some (.slice none 0 0) := HRI.out.r2
                    have z0 : wr.frozen? ⟨br, 0, none⟩ = false := HRI.out.rz 0
                    have z1 : wr.frozen? ⟨br, 1, none⟩ = false := HRI.out.rz 1
                    have z2 : wr.frozen? ⟨br, 2, none⟩ = false := HRI.out.rz 2
                    have f0 := st3_0 (a := .slice none 0 0) (b := .slice none 0 0) (c := .slice none 0 0) y0
                    have f1 := st3_1 (a := .slice none 0 0) (b := .slice none 0 0) (c := .slice none 0 0) y1
                    have f2 := st3_2 (a := .slice none 0 0) (b := .slice none 0 0) (c := .slice none 0 0) y2
                    have HFIN := hid (err16 (Y := wr.drew) (e := e2) HO.out.r.2 HBR.out HOB.out (HMI.out.ext (Below.drew (Ext.refl wr))) HGWI.out)
                    unfold st3 at f0 f1 f2 HFIN
                    have HNC := hid HO.out.rc
                    have S0 : wr.drew.cell? ⟨bc, 1, none⟩ = some (.int .i64 e2) := HKI.out.c1
                    clear h2
                    go_wp2
                    go_region_held3 (fun Y => Y.cell? ⟨bc, 1, none⟩ = some (.int .i64 e2)) (first | exact S0 | exact other (other (other S0 (ab HNC.out)) (ab HNC.out)) (ab HNC.out)) (fail)
                    all_goals
                      go_wp2
                      refine bodyPost_ret (v := .tuple #[.agg #[.slice none 0 0, .slice none 0 0, .slice none 0 0], .int .i64 e2]) (by simp [results, Tryz.results16, go_sem, f0, f1, f2]) rfl ?_
                      rw [HXE.out]
                      exact HFIN.out
                | succ t =>
                  obtain ⟨j, hj⟩ : ∃ j, j = m - (t + 1) := ⟨_, rfl⟩
                  have HJT : Hid (m - t = j + 1) := hid (by omega)
                  have hjm : j < m := by omega
                  rw [← hj]
                  have HJ := hid hj
                  have HHIr : Hid (hi ≤ wr.heap.size) := hid (by rw [HHI.out]; exact Nat.le_trans HG8.out.size HGA.out.size)
                  obtain ⟨aj, nj, cj, hvj⟩ := HFI.out j hjm
                  have k0 : wr.cell? ⟨bq, j, none⟩ = some (.slice aj nj cj) := by rw [← hvj]; exact HRI.out.Q.cell hjm
                  have S0 : wr.cell? ⟨bd, 1, none⟩ = some (.slice (some ⟨bq, 0, none⟩) m m) := HRI.out.d1
                  have HQD : Hid (bq ≠ bd) := hid HO.out.dq.symm
                  have HKF := hid (And.intro k0 (HRI.out.Q.frozen j))
                  by_cases h2 : e2 = 0
                  · obtain ⟨HCV3', hcf, hcd⟩ := HCI2.out h2
                    rw [CofFit, ← hj] at hcf
                    rw [cofD, ← hj] at hcd
                    obtain ⟨⟨⟨k5, n5, l5, m5, fc, fP, h24, hk5, hl5, hn5, hm5, hnm⟩, hsome⟩, hnext⟩ := hcf
                    obtain ⟨c, hc⟩ : ∃ c, c = (timesP (cs3.getD j []) P).getD [] := ⟨_, rfl⟩
                    rw [← hc] at hsome hnext hcd
                    have HCV3 := hid HCV3'
                    have HNX := hid hnext
                    have HCD := hid hcd
                    subst h2
                    have hpj := HCV3'.2 j hjm
                    have hPP := PX.on HP10.out HGI.out
                    rw [hvj] at hpj
                    have CT0 := fun (Y : World) (hY : Ext wr Y) => calc_times (HKI.out.ext hY) (Terms.on (PMN.pv hpj) hY) (Terms.on (PX.pv hPP) hY) fc fP h24 (by omega) (by omega) hnm hsome
                    rw [← HNP.out] at CT0
                    have HCT := hid CT0
                    have HCK := hid (fun (Y : World) (u : Value) (hY : Gd none bc wr Y) (hD : CalcAt Y bc (mval o) 0) (hu : PM o Y u c) => calc_keep hD (HMI.out.gdn hY HOC.out) HOC.out hu)
                    have HC1 := hid (HCT.out _ (Below.drew (Ext.refl wr)))
                    have HBC := hid HKI.out.lt
                    clear hcd fc fP h24 hk5 hl5 hn5 hm5 hnm hsome hnext hc HCV3' hpj hPP CT0 hvj hj
                    go_wp2
                    first
                      | go_region_with
                          (first
                        | (go_at_call 43; refine HC1.out.mono ?_
                           rintro e u1 ⟨x1, rfl, hd1, hg1, ht1⟩; have HGU1 : Hid (Gd none bc wr u1) := hid ((gd_ext (Below.drew (Ext.refl wr))).trans hg1); have HRU1 := hid (HRI.out.gdn HO.out HGU1.out); have S1 := HRU1.out.d1; have HPN : Hid (PMN hi o u1 x1 c) := hid (ht1.to (Kept.refl _ _) (fun k h => ⟨Nat.le_trans HHIr.out h.1, h.2, fun e => by have a1 := HOB.out k e.symm; have a2 := h.1; have a3 := HHIr.out; have a4 := HLH.out; have a5 : wr.heap.size ≤ k := h.1; omega⟩)); have HC2 := hid (HCK.out u1 x1 HGU1.out (by rw [← HVM.out]; exact hd1) HPN.out.pm); have qf := ht1.form; obtain ⟨a5, c5, rfl⟩ := qf; obtain ⟨n5, hn5⟩ : ∃ n, n = (ofP c).length := ⟨_, rfl⟩; have HN5 := hid hn5; rw [← hn5] at HC2; rw [← hn5]; clear hd1 hg1 ht1 hn5)
                        | (go_at_call 49; refine HC2.out.mono ?_
                           rintro e u2 ⟨rfl, hd2, hm2, hg2⟩; have HRU2 := hid (HRU1.out.gd HO.out HOB.out hg2); have S2 := HRU2.out.d1; have HD2 := hid hd2; have HM2 := hid hm2; have HGU2 : Hid (Gd o bc wr u2) := hid (HGU1.out.of_none.trans hg2); have HGW := hid hg2; have k1 := HRU2.out.Q.cell hjm; have k2 := HRU2.out.Q.frozen j; clear hd2 hm2 hg2))
                      | fail
                    all_goals
                      have HR9 := hid (HRU2.out.setQ HO.out.toOwn3 j (.slice a5 n5 c5))
                      have HG9 : Hid (Gx o br hi wr u2) := hid (gx_gd HGU2.out HO.out.c.1 HO.out.c.2)
                      have HS9 : Hid (Gx o br hi u2 (u2.setCell ⟨bq, j, none⟩ (.slice a5 n5 c5))) := hid (gx_set u2 (a := ⟨bq, j, none⟩) HO.out.q.1 HO.out.q.2 _)
                      have HM9 : Hid (MV (u2.setCell ⟨bq, j, none⟩ (.slice a5 n5 c5)) o (mkeep o s3 c).2) := hid (HM2.out.set (a := ⟨bq, j, none⟩) (bd := bq) (fun b hb e => by have h1 := HOB.out b hb; have h2 := HO.out.q.1; omega) rfl _)
                      have HK9 : Hid (CalcAt (u2.setCell ⟨bq, j, none⟩ (.slice a5 n5 c5)) bc (.pointer am) (mkeep o s3 c).1) := hid (by rw [HVM.out]; exact HD2.out.same (heap_other u2 ⟨bq, j, none⟩ _ HO.out.cq))
                      have HPN9 : Hid (PMN hi o (u2.setCell ⟨bq, j, none⟩ (.slice a5 n5 c5)) (.slice a5 n5 c5) c) := hid (by
                        have h := HPN.out
                        rw [← HN5.out] at h
                        exact PMN.gx h (Nat.le_refl _) ((gx_gd HGW.out HO.out.c.1 HO.out.c.2).trans HS9.out))
                      have HC9 := hid ((HCV3.out.gx (Nat.le_refl _) (HG9.out.trans HS9.out)).set hjm HPN9.out)
                      go_wp2
                      go_roundw
                      case rel =>
                        refine ⟨t, (mkeep o s3 c).1, (mkeep o s3 c).2, setV V3 j (.slice a5 n5 c5), cs3.set j c, by omega, by rw [HJT.out]; go_num, hid ((HGI.out.trans HG9.out).trans HS9.out), HM9, HR9, HK9, hid (HFI.out.set j ⟨_, _, _, rfl⟩), hid (fun h0 => ⟨HC9.out, HNX.out h0, ?_⟩), hid (fun h0 => ?_)⟩
                        · have h := HCD.out
                          rwa [if_neg (fun k => k h0)] at h
                        · have h := HCD.out
                          rw [if_pos h0] at h
                          exact h.symm
                      case measure => simp only [intOf]; omega
                  · have HC1 : Hid (∀ Y : World, Ext wr Y → Calls Tryz.prog 43 #[.pointer (some ⟨bc, 0, none⟩), .slice aj nj cj, .slice ap np cp] Y fun e w' => e = .returned (.slice none 0 0) ∧ Ext Y w') := hid (fun Y hY => (calc_times_skip (HKI.out.ext hY) ⟨_, _, _, rfl⟩ ⟨_, _, _, rfl⟩ h2).mono (by rintro e w' ⟨rfl, rfl⟩; exact ⟨rfl, Ext.refl _⟩))
                    have HC2 : Hid (∀ Y : World, Ext wr Y → Calls Tryz.prog 49 #[.pointer (some ⟨bc, 0, none⟩), .slice none 0 0] Y fun e w' => e = .returned (.slice none 0 0) ∧ Ext Y w') := hid (fun Y hY => (calc_keep_skip (HKI.out.ext hY) ⟨_, _, _, rfl⟩ h2).mono (by rintro e w' ⟨rfl, rfl⟩; exact ⟨rfl, Ext.refl _⟩))
                    have HC1a := hid (HC1.out _ (Below.drew (Ext.refl wr)))
                    have HYV := hid (HEI.out h2)
                    have HE2 := hid h2
                    clear h2 hj hvj
                    go_wp2
                    first
                      | go_region_with
                          (first
                        | (go_at_call 43; with_reducible refine HC1a.out.mono ?_
                           rintro e u1 ⟨rfl, hx1⟩; have HU1 : Hid (Ext wr u1) := hid ((Below.drew (Ext.refl wr)).trans hx1); have S1 := (HRI.out.gb HO.out.toOwn3 HOB.out (gb_of_ext HU1.out o)).d1; have HC2a := hid (HC2.out u1 HU1.out); clear hx1)
                        | (go_at_call 49; with_reducible refine HC2a.out.mono ?_
                           rintro e u2 ⟨rfl, hx2⟩; have HU2 : Hid (Ext wr u2) := hid (HU1.out.trans hx2); have HRU2 := hid (HRI.out.gb HO.out.toOwn3 HOB.out (gb_of_ext HU2.out o)); have S2 := HRU2.out.d1; have k1 := HRU2.out.Q.cell hjm; have k2 := HRU2.out.Q.frozen j; clear hx2))
                      | fail
                    all_goals
                      have HR9 := hid (HRU2.out.setQ HO.out.toOwn3 j (.slice none 0 0))
                      have HG9 : Hid (Gx o br hi wr u2) := hid (gx_ext HU2.out)
                      have HS9 : Hid (Gx o br hi u2 (u2.setCell ⟨bq, j, none⟩ (.slice none 0 0))) := hid (gx_set u2 (a := ⟨bq, j, none⟩) HO.out.q.1 HO.out.q.2 _)
                      have HM9 : Hid (MV (u2.setCell ⟨bq, j, none⟩ (.slice none 0 0)) o s3) := hid ((HMI.out.ext HU2.out).set (a := ⟨bq, j, none⟩) (bd := bq) (fun b hb e => by have h1 := HOB.out b hb; have h2 := HO.out.q.1; omega) rfl _)
                      have HK9 : Hid (CalcAt (u2.setCell ⟨bq, j, none⟩ (.slice none 0 0)) bc (.pointer am) e2) := hid ((HKI.out.ext HU2.out).same (heap_other u2 ⟨bq, j, none⟩ _ HO.out.cq))
                      go_wp2
                      go_roundw
                      case rel =>
                        exact ⟨t, e2, s3, setV V3 j (.slice none 0 0), cs3, by omega, by rw [HJT.out]; go_num, hid ((HGI.out.trans HG9.out).trans HS9.out), HM9, HR9, HK9, hid (HFI.out.set j ⟨_, _, _, rfl⟩), hid (fun h0 => absurd h0 HE2.out), hid (fun _ => HYV.out)⟩
                      case measure => simp only [intOf]; omega
          · have HXE : Hid (X = (re, rs, [], [], [])) := hid (by
              have h := HRDX.out
              have h1 : roundC o true (ls.getD q []) ls.length q ⟨re, rq, rr, rn, rs⟩ cs1 = (re, rs, []) := by unfold roundC; exact if_pos h0
              rw [h1, if_pos h0] at h
              exact h.symm)
            have q0 : (re != 0) = true := by rw [bne_iff_ne]; exact h0
            have y0 := HRA2.out.r0
            have y1 := HRA2.out.r1
            have y2 := HRA2.out.r2
            have z0 := HRA2.out.rz 0
            have z1 := HRA2.out.rz 1
            have z2 := HRA2.out.rz 2
            have f0 := st3_0 (a := .slice none 0 0) (b := .slice none 0 0) (c := .slice none 0 0) y0
            have f1 := st3_1 (a := .slice none 0 0) (b := .slice none 0 0) (c := .slice none 0 0) y1
            have f2 := st3_2 (a := .slice none 0 0) (b := .slice none 0 0) (c := .slice none 0 0) y2
            have HFIN := hid (err16 (e := re) HO.out.r.2 HBR.out HOB.out HM2.out HGW2.out)
            unfold st3 at f0 f1 f2 HFIN
            clear h0
            go_wp2
            all_goals
              refine bodyPost_ret (v := .tuple #[.agg #[.slice none 0 0, .slice none 0 0, .slice none 0 0], .int .i64 re]) (by simp [results, Tryz.results16, go_sem, f0, f1, f2]) rfl ?_
              rw [HXE.out]
              exact HFIN.out
end Go.Proofs.YthdcaablomgboaaGreat

namespace Go.Proofs.YthdcaablomgboaaGreat
open Go.RowKit Go.Deep Go.ChangeShapes Go.WideShapes

theorem list_of_lt {α : Type} {n : Nat} {p : Nat → α → Prop} (h : ∀ i, i < n → ∃ x, p i x) : ∃ l : List α, l.length = n ∧ ∀ i x, l[i]? = some x → p i x := by
  induction n with
  | zero => exact ⟨[], rfl, fun i x hx => by simp at hx⟩
  | succ n ih =>
    obtain ⟨l, hl, hp⟩ := ih (fun i hi => h i (Nat.lt_succ_of_lt hi))
    obtain ⟨x, hx⟩ := h n (Nat.lt_succ_self n)
    refine ⟨l ++ [x], by simp [hl], fun i y hy => ?_⟩
    rw [List.getElem?_append] at hy
    split at hy
    · exact hp i y hy
    · rename_i hi
      have : i = n := by
        have := lt_of_some hy
        simp at this
        omega
      subst this
      simp [hl] at hy
      exact hy ▸ hx

theorem list_two {α : Type} {l : List α} (h : l.length = 2) : ∃ a b, l = [a, b] := by
  match l, h with
  | [a, b], _ => exact ⟨a, b, rfl⟩
theorem list_three {α : Type} {l : List α} (h : l.length = 3) : ∃ a b c, l = [a, b, c] := by
  match l, h with
  | [a, b, c], _ => exact ⟨a, b, c, rfl⟩

section
variable {H : Type} {enc : TypeId × Value → H} {w : World} {base : Nat} {spare : Nat → Bool} {held : Bool}

/-- A slice that is read: where its elements lie, each with its own reading. -/
theorem open_slice_at {t e : TypeId} {fuel sz : Nat} {v : Value} {x : DataW H × List MemPlace} (ht : Tryz.prog.underlying t = some (.slice e)) (hsz : Tryz.prog.cellsOf e = sz) (hpos : 0 < sz)
    (h : DataW.trod enc Tryz.prog w base spare held fuel t [v] = some x) :
    ∃ (n b off fuel' : Nat), SliceAt (· < w.heap.size) v n b off ∧ ∀ j, j < n → ∃ (cs : List Value) (y : DataW H × List MemPlace), cs.length = sz ∧ (∀ i, i < sz → w.cell? ⟨b, off + j * sz + i, none⟩ = cs[i]?) ∧ DataW.trod enc Tryz.prog w base spare held fuel' e cs = some y := by
  rcases open_slice ht h with ⟨hcs, _⟩ | ⟨a, len, cap, m, fuel', D, Pl, hcs, hb, hl, hm, hmm, _, hx⟩
  · obtain rfl : v = .slice none 0 0 := by simpa using hcs
    exact ⟨0, 0, 0, 0, ⟨none, 0, rfl, Nat.le_refl _, Nat.zero_le _, fun h => absurd h (by omega), fun h => absurd h (by omega)⟩, fun j hj => absurd hj (by omega)⟩
  · obtain rfl : v = .slice (some a) len cap := by simpa using hcs
    rw [hsz] at hx
    have hlm : len ≤ m := by rw [hmm]; split <;> omega
    have key : ∀ j, j < len → ∃ (cs : List Value) (y : DataW H × List MemPlace), cs.length = sz ∧ (∀ i, i < sz → w.cell? ((a.add (j * sz)).add i) = cs[i]?) ∧ DataW.trod enc Tryz.prog w base spare held fuel' e cs = some y := by
      intro j hj
      obtain ⟨cs, h1, h2⟩ := hx j (by omega)
      obtain ⟨_, h3, h4⟩ := World.cells?_some h1
      exact ⟨cs, _, h3, h4, h2⟩
    by_cases h0 : 0 < len
    · have hsp : a.spot = none := by
        obtain ⟨cs, _, h3, h4, _⟩ := key 0 h0
        have h5 := h4 0 hpos
        have e0 : (a.add (0 * sz)).add 0 = a := by simp [Addr.add]
        rw [e0, List.getElem?_eq_getElem (by omega)] at h5
        unfold World.cell? at h5
        split at h5
        · cases hs : a.spot with
          | none => rfl
          | some z => simp [hs] at h5
        · exact absurd h5 (by simp)
      obtain ⟨b, off, spot⟩ := a
      obtain rfl : spot = none := hsp
      have add_eq : ∀ j i, ((⟨b, off, none⟩ : Addr).add (j * sz)).add i = ⟨b, off + j * sz + i, none⟩ := by
        intro j i
        unfold Addr.add
        by_cases h1 : j * sz = 0 <;> by_cases h2 : i = 0 <;> simp [h1, h2]
      refine ⟨len, b, off, fuel', ⟨_, cap, rfl, hl, hm, fun _ => rfl, fun _ => ?_⟩, fun j hj => ?_⟩
      · obtain ⟨cs, _, h3, h4, _⟩ := key 0 h0
        have h5 := h4 0 hpos
        rw [add_eq, List.getElem?_eq_getElem (by omega)] at h5
        exact lt_of_cell h5
      · obtain ⟨cs, y, h3, h4, h5⟩ := key j hj
        exact ⟨cs, y, h3, fun i hi => by rw [← add_eq]; exact h4 i hi, h5⟩
    · exact ⟨len, 0, 0, fuel', ⟨_, cap, rfl, hl, hm, fun h => absurd h h0, fun h => absurd h h0⟩, fun j hj => absurd hj (by omega)⟩

theorem bounds_i64 {n : Int} (h : (Lit.int .i64 n).wf = true) : -9223372036854775808 ≤ n ∧ n ≤ 9223372036854775807 := by
  simpa [Lit.wf, IntKind.min, IntKind.max, IntKind.signed, IntKind.bits] using h
theorem bounds_u32 {n : Int} (h : (Lit.int .u32 n).wf = true) : 0 ≤ n ∧ n < 4294967296 := by
  have : 0 ≤ n ∧ n ≤ 4294967295 := by simpa [Lit.wf, IntKind.min, IntKind.max, IntKind.signed, IntKind.bits] using h
  omega

theorem Tryz.cells_u32 : Tryz.prog.cellsOf 111 = 1 := by kernel_rfl
theorem Tryz.cells_power : Tryz.prog.cellsOf 85 = 2 := by kernel_rfl
theorem Tryz.cells_term : Tryz.prog.cellsOf 83 = 3 := by kernel_rfl
theorem Tryz.cells_int : Tryz.prog.cellsOf 72 = 2 := by kernel_rfl
theorem Tryz.cells_mono : Tryz.prog.cellsOf 81 = 1 := by kernel_rfl
theorem Tryz.cells_bool : Tryz.prog.cellsOf 4 = 1 := by kernel_rfl
theorem Tryz.cells_i64 : Tryz.prog.cellsOf 3 = 1 := by kernel_rfl
theorem Tryz.cells_su32 : Tryz.prog.cellsOf 70 = 1 := by kernel_rfl

theorem open_u32s {fuel : Nat} {v : Value} {x : DataW H × List MemPlace} (h : DataW.trod enc Tryz.prog w base spare held fuel 70 [v] = some x) : ∃ zs, U32s (· < w.heap.size) w v zs := by
  obtain ⟨n, b, off, f', hs, hx⟩ := open_slice_at Tryz.underlying70 Tryz.cells_u32 (by omega) h
  obtain ⟨zs, hl, hz⟩ := list_of_lt (p := fun j (z : Nat) => z < 4294967296 ∧ w.cell? ⟨b, off + j, none⟩ = some (.int .u32 (z : Nat))) (n := n) (fun j hj => by
    obtain ⟨cs, y, h1, h2, h3⟩ := hx j hj
    obtain ⟨m, rfl, _, hw⟩ := DataW.trod_int Tryz.underlying111 h3
    have := bounds_u32 hw
    have h4 := h2 0 (by omega)
    refine ⟨m.toNat, by omega, ?_⟩
    simp only [Nat.mul_one, Nat.add_zero] at h4
    rw [h4]
    simp
    omega)
  subst hl
  exact ⟨zs, b, off, hs, hz⟩

theorem open_pows {fuel : Nat} {v : Value} {x : DataW H × List MemPlace} (h : DataW.trod enc Tryz.prog w base spare held fuel 81 [v] = some x) : ∃ ps, Pows (· < w.heap.size) w v ps := by
  obtain ⟨n, b, off, f', hs, hx⟩ := open_slice_at Tryz.underlying81 Tryz.cells_power (by omega) h
  obtain ⟨ps, hl, hp⟩ := list_of_lt (p := fun j (x : Int × Int) => ((-9223372036854775808 ≤ x.1 ∧ x.1 ≤ 9223372036854775807) ∧ -9223372036854775808 ≤ x.2 ∧ x.2 ≤ 9223372036854775807) ∧
    w.cell? ⟨b, off + j * 2, none⟩ = some (.int .i64 x.1) ∧ w.cell? ⟨b, off + j * 2 + 1, none⟩ = some (.int .i64 x.2)) (n := n) (fun j hj => by
    obtain ⟨cs, y, h1, h2, h3⟩ := hx j hj
    obtain ⟨y0, y1, m, _, _, g0, g1⟩ := trod_struct2 Tryz.underlying85 h3
    obtain ⟨n0, e0, _, w0⟩ := DataW.trod_int Tryz.underlying3 g0
    obtain ⟨n1, e1, _, w1⟩ := DataW.trod_int Tryz.underlying3 g1
    obtain ⟨c0, c1, rfl⟩ := list_two h1
    simp [Tryz.cells_i64] at e0 e1
    subst e0 e1
    exact ⟨(n0, n1), ⟨bounds_i64 w0, bounds_i64 w1⟩, h2 0 (by omega), h2 1 (by omega)⟩)
  subst hl
  exact ⟨ps, b, off, hs, hp⟩

theorem open_terms {fuel : Nat} {v : Value} {x : DataW H × List MemPlace} (h : DataW.trod enc Tryz.prog w base spare held fuel 23 [v] = some x) : ∃ ts, Terms (· < w.heap.size) w v ts := by
  obtain ⟨n, b, off, f', hs, hx⟩ := open_slice_at Tryz.underlying23 Tryz.cells_term (by omega) h
  obtain ⟨ts, hl, hp⟩ := list_of_lt (p := fun j (t : RTerm) => ∃ vm vo, w.cell? ⟨b, off + j * 3, none⟩ = some (.bool t.c.neg) ∧
    w.cell? ⟨b, off + j * 3 + 1, none⟩ = some vm ∧ w.cell? ⟨b, off + j * 3 + 2, none⟩ = some vo ∧ U32s (· < w.heap.size) w vm t.c.mag ∧ Pows (· < w.heap.size) w vo t.m) (n := n) (fun j hj => by
    obtain ⟨cs, y, h1, h2, h3⟩ := hx j hj
    obtain ⟨y0, y1, m, _, _, g0, g1⟩ := trod_struct2 Tryz.underlying83 h3
    obtain ⟨c0, c1, c2, rfl⟩ := list_three h1
    simp [Tryz.cells_int, Tryz.cells_mono] at g0 g1
    obtain ⟨z0, z1, m', _, _, k0, k1⟩ := trod_struct2 Tryz.underlying72 g0
    simp [Tryz.cells_bool, Tryz.cells_su32] at k0 k1
    obtain ⟨ng, e0, _⟩ := DataW.trod_bool Tryz.underlying4 k0
    simp at e0
    subst e0
    obtain ⟨zs, hzs⟩ := open_u32s k1
    obtain ⟨ps, hps⟩ := open_pows g1
    exact ⟨⟨⟨ng, zs⟩, ps⟩, c1, c2, h2 0 (by omega), h2 1 (by omega), h2 2 (by omega), hzs, hps⟩)
  subst hl
  exact ⟨ts, b, off, hs, hp⟩
end
end Go.Proofs.YthdcaablomgboaaGreat

namespace Go.Proofs.YthdcaablomgboaaGreat
open Go.RowKit Go.Deep Go.ChangeShapes Go.WideShapes Go.ChangeAt

theorem Tryz.own : ownKnob Tryz.prog.godebug = none := by kernel_rfl
theorem Tryz.laidOut : laidOutB Tryz.prog = true := by kernel_rfl

theorem trodAll_below {H : Type} {enc : TypeId × Value → H} {W W' : World} (hb : Below W.heap.size W W') :
    ∀ {ts : List TypeId} {vs : List Value} {ds : List (DataW H)} {p : List MemPlace}, (∀ t ∈ ts, Tryz.prog.readableRec t = true ∧ t < Tryz.prog.types.size) → (∀ x ∈ p, x.block < W.heap.size) →
    DataW.TrodAll enc Tryz.prog W 0 (fun _ => true) true ts vs ds p → DataW.TrodAll enc Tryz.prog W' 0 (fun b => decide (b < W.heap.size)) true ts vs ds p := by
  intro ts
  induction ts with
  | nil =>
    intro vs ds p _ _ h
    cases vs <;> cases ds <;> first | exact h | exact h.elim
  | cons t ts ih =>
    intro vs ds p ht hlt h
    cases vs with
    | nil => exact h.elim
    | cons v vs =>
      cases ds with
      | nil => exact h.elim
      | cons d ds =>
        obtain ⟨p1, q1, h1, h2, rfl⟩ := h
        refine ⟨p1, q1, ?_, ih (fun x hx => ht x (List.mem_cons_of_mem _ hx)) (fun x hx => hlt x (List.mem_append_right _ hx)) h2, rfl⟩
        exact Below.trod Tryz.laidOut (ht t (List.mem_cons_self)).1 (ht t (List.mem_cons_self)).2 h1 hb (fun x hx => hlt x (List.mem_append_left _ hx))

/-- the arguments that are read -/
theorem law_post {H : Type} {enc : TypeId × Value → H} {F : Func} {s : ChangeSpec} {W W' : World} {args : Array Value} {ds gs : List (DataW H)} {before : List MemPlace}
    (hW : DataW.Whole enc Tryz.prog F.params.toList s.vars false W args.toList ds gs before) (hv : s.vars = []) (hr : F.resultTypes = #[4])
    (hs : s.fn H (ds ++ gs) = { results := [.lit (.bool true)], args := ds }) (ht : ∀ t ∈ F.params.toList, Tryz.prog.readableRec t = true ∧ t < Tryz.prog.types.size)
    (hb : Below W.heap.size W W') : s.post enc Tryz.prog F false true false false W args (.bool true) W' := by
  have hlt := fun p hp => hW.lt p hp
  have hW' := hW
  obtain ⟨p, q, hA, hV, rfl, _, _⟩ := hW
  rw [hv] at hV
  obtain ⟨rfl, rfl⟩ := trodVars_none hV
  refine ⟨ds, _, _, [], p, [], hW', ?_, ?_, ?_, hb.frame _, fun h => by cases h⟩
  · rw [hs, hr]
    exact trodAll_mk1 (shut_bool Tryz.underlying4 true)
  · rw [hs]
    exact trodAll_below hb ht (fun x hx => hlt x (List.mem_append_left _ hx)) hA
  · rw [hs, hv]
    rfl
end Go.Proofs.YthdcaablomgboaaGreat

namespace Go.Proofs.YthdcaablomgboaaGreat
open Go.RowKit Go.Deep Go.ChangeShapes Go.WideShapes Go.ChangeAt

set_option maxRecDepth 100000 in
theorem slice_cells {t e : TypeId} {W : World} {base : Nat} {v : Value} (ht : Tryz.prog.underlying t = some (.slice e)) (hv : Value.okWide Tryz.prog W .any base t v) : v.cells.toList = [v] := by
  obtain ⟨a, len, cap, rfl⟩ := okWide_slice ht hv
  rfl
theorem Tryz.cells_poly : Tryz.prog.cellsOf 23 = 1 := by kernel_rfl
section
variable {H : Type} {enc : TypeId × Value → H} {w : World} {base : Nat} {spare : Nat → Bool} {held : Bool}
theorem open_polys {fuel : Nat} {v : Value} {x : DataW H × List MemPlace} (h : DataW.trod enc Tryz.prog w base spare held fuel 24 [v] = some x) : ∃ ls, Polys (· < w.heap.size) w v ls := by
  obtain ⟨n, b, off, f', hs, hx⟩ := open_slice_at Tryz.underlying24 Tryz.cells_poly (by omega) h
  obtain ⟨ls, hl, hp⟩ := list_of_lt (p := fun j (t : List RTerm) => ∃ vp, w.cell? ⟨b, off + j, none⟩ = some vp ∧ Terms (· < w.heap.size) w vp t) (n := n) (fun j hj => by
    obtain ⟨cs, y, h1, h2, h3⟩ := hx j hj
    match cs, h1 with
    | [c], _ =>
      obtain ⟨ts, hts⟩ := open_terms h3
      have h4 := h2 0 (by omega)
      simp only [Nat.mul_one, Nat.add_zero] at h4
      exact ⟨ts, c, h4, hts⟩)
  subst hl
  exact ⟨ls, b, off, hs, hp⟩
end

end Go.Proofs.YthdcaablomgboaaGreat

namespace Go.Proofs.YthdcaablomgboaaGreat
open Go.RowKit

section
variable {W Y Y' : World} {S : Nat → Prop} {o : Option Nat} {u v : Value} {p q : PZ} {k l n m : Nat}
/-- a document's polynomial in given blocks, or in such as are newer than a world -/
abbrev RQ (S : Nat → Prop) (W Y : World) (v : Value) (p : PZ) : Prop := RTs (Plus S W Y) Y v p
theorem rq_lt (hS : ∀ k, S k → k < W.heap.size) (hz : W.heap.size ≤ Y.heap.size) : ∀ k, Plus S W Y k → k < Y.heap.size := fun k hk => by
  rcases hk with h | h
  · exact Nat.lt_of_lt_of_le (hS k h) hz
  · exact h.2
theorem RQ.old (hS : ∀ k, S k → k < W.heap.size) (hz : W.heap.size ≤ Y.heap.size) (h : RQ S W Y v p) : RV Y v p := h.to (Kept.refl _ _) (rq_lt hS hz)
theorem RQ.on (hS : ∀ k, S k → k < W.heap.size) (hz : W.heap.size ≤ Y.heap.size) (ho : ∀ b, o = some b → b < W.heap.size ∧ ¬ S b) (h : RQ S W Y v p) (g : Y.grownBy Y' o) : RQ S W Y' v p :=
  h.to (fun k hk => g.block k (rq_lt hS hz k hk) (fun e => by
    have h1 := ho k e.symm
    rcases hk with h | h
    · exact h1.2 h
    · have := h.1; omega)) (fun k hk => by
    rcases hk with h | h
    · exact .inl h
    · exact .inr ⟨h.1, Nat.lt_of_lt_of_le h.2 g.size⟩)
theorem RQ.ext (hS : ∀ k, S k → k < W.heap.size) (hz : W.heap.size ≤ Y.heap.size) (h : RQ S W Y v p) (g : Ext Y Y') : RQ S W Y' v p := RQ.on (o := none) hS hz (fun _ e => by cases e) h (gb_of_ext g none)
theorem RQ.of (h : RTs S W v p) : RQ S W W v p := h.to (Kept.refl _ _) (fun _ h => .inl h)
end

section
variable {o : Option Nat} {keep : Bool} {g h q r : PZ} {v d c1 c2 c3 : Int} {s s1 s2 s3 : MSt} {x : PZ × PZ}
end

end Go.Proofs.YthdcaablomgboaaGreat

namespace Go.Proofs.YthdcaablomgboaaGreat
open Go.RowKit

end Go.Proofs.YthdcaablomgboaaGreat

namespace Go.Proofs.YthdcaablomgboaaGreat
open Go.RowKit

end Go.Proofs.YthdcaablomgboaaGreat

namespace Go.Proofs.YthdcaablomgboaaGreat
open Go.RowKit

theorem ex_le {m : Mono} {E : Int} (h0 : 0 ≤ E) (h : ∀ y ∈ m, y.2 ≤ E) (u : Int) : ex m u ≤ E := by
  induction m with
  | nil => simp [ex]; exact h0
  | cons y r ih =>
    rw [ex]
    split
    · exact h y (by simp)
    · exact ih (fun z hz => h z (by simp [hz]))
section
variable {F G : PZ} {x : Int}
end
end Go.Proofs.YthdcaablomgboaaGreat

namespace Go.Proofs.YthdcaablomgboaaGreat
open Go.RowKit Go.Deep Go.ChangeShapes Go.WideShapes Go.ChangeAt Go.Joins

section
variable {H : Type} {enc : TypeId × Value → H} {P : Program} {w : World} {base : Nat} {spare : Nat → Bool} {held : Bool}
end
section
variable {H : Type} {enc : TypeId × Value → H} {W : World} {base b0 : Nat} {sp : Nat → Bool} {held : Bool}
end
end Go.Proofs.YthdcaablomgboaaGreat

namespace Go.Proofs.YthdcaablomgboaaGreat
open Go.RowKit Go.Deep Go.ChangeShapes Go.WideShapes Go.ChangeAt Go.Joins

section
variable {H : Type} {enc : TypeId × Value → H} {w : World} {base : Nat} {spare : Nat → Bool} {held : Bool}
theorem open_ints {fuel : Nat} {v : Value} {x : DataW H × List MemPlace} (h : DataW.trod enc Tryz.prog w base spare held fuel 25 [v] = some x) : ∃ ns, Ints (· < w.heap.size) w v ns := by
  obtain ⟨n, b, off, f', hs, hx⟩ := open_slice_at Tryz.underlying25 Tryz.cells_i64 (by omega) h
  obtain ⟨ns, hl, hp⟩ := list_of_lt (p := fun j (z : Int) => inI64 z ∧ w.cell? ⟨b, off + j, none⟩ = some (.int .i64 z)) (n := n) (fun j hj => by
    obtain ⟨cs, y, h1, h2, h3⟩ := hx j hj
    match cs, h1 with
    | [c], _ =>
      obtain ⟨m, e, -, hw⟩ := DataW.trod_int Tryz.underlying3 h3
      have h4 := h2 0 (by omega)
      simp only [Nat.mul_one, Nat.add_zero] at h4
      have e' : [c] = [Value.int .i64 m] := e
      obtain rfl : c = .int .i64 m := by simpa using e'
      exact ⟨m, bounds_i64 hw, h4⟩)
  subst hl
  exact ⟨ns, b, off, hs, hp⟩
end
theorem Tryz.cells_division : Tryz.prog.cellsOf 27 = 3 := by kernel_rfl
theorem Tryz.cells_ints : Tryz.prog.cellsOf 25 = 1 := by kernel_rfl
theorem Tryz.cells_polys : Tryz.prog.cellsOf 24 = 1 := by kernel_rfl
section
variable {H : Type} {enc : TypeId × Value → H} {W : World} {base b0 : Nat} {sp : Nat → Bool} {held : Bool}
end
end Go.Proofs.YthdcaablomgboaaGreat

namespace Go.Proofs.YthdcaablomgboaaGreat
open Go.RowKit Go.Deep

theorem pair_new (w : World) (a b : Value) (T : TypeId) : (w.alloc (.cells #[a, b] T)).cell? ⟨w.heap.size, 0, none⟩ = some a ∧ (w.alloc (.cells #[a, b] T)).cell? ⟨w.heap.size, 1, none⟩ = some b := ⟨cell_new _ _ _ rfl rfl, cell_new _ _ _ rfl rfl⟩
theorem k16_may : mayC 0 (k16L.map ofP) = true := by kernel_rfl
theorem k16_not : mayC 0 ([k16B, k16A].map ofP) = false := by kernel_rfl
theorem k16_small {l : List PZ} (h : ∀ p ∈ l, tinyP p = true ∧ canP p) : smallL (l.map ofP) := fun t ht => by
  obtain ⟨p, hp, rfl⟩ := List.mem_map.1 ht
  exact (tiny_fit (h p hp).2 (h p hp).1).small (by decide)
theorem k16_all : ∀ p ∈ k16L, tinyP p = true ∧ canP p := fun p hp => by
  rcases List.mem_cons.1 hp with rfl | hp
  · exact ⟨by kernel_rfl, k16A_can⟩
  · rw [List.mem_singleton.1 hp]; exact ⟨by kernel_rfl, k16B_can⟩
theorem k16_all2 : ∀ p ∈ [k16B, k16A], tinyP p = true ∧ canP p := fun p hp => by
  rcases List.mem_cons.1 hp with rfl | hp
  · exact ⟨by kernel_rfl, k16B_can⟩
  · rw [List.mem_singleton.1 hp]; exact ⟨by kernel_rfl, k16A_can⟩
theorem k16_cofs : ∀ p ∈ [k121, k16Q], tinyP p = true ∧ canP p := fun p hp => by
  rcases List.mem_cons.1 hp with rfl | hp
  · exact ⟨by kernel_rfl, unit_can⟩
  · rw [List.mem_singleton.1 hp]; exact ⟨by kernel_rfl, k16Q_can⟩
theorem fit16_of {p : PZ} (hc : canP p) (h : tinyP p = true) (hl : p.length ≤ 6) (he : p.all (fun t => t.2.all fun y => decide (y.2 ≤ 4)) = true) : Fit 3 6 p ∧ exB 4 p := by
  have f := tiny_fit hc h
  refine ⟨⟨f.1, f.2.1.mono (by decide), hl⟩, fun t ht u => ?_⟩
  have h1 := (List.all_eq_true.1 he) t ht
  exact ex_le (by decide) (fun y hy => of_decide_eq_true ((List.all_eq_true.1 h1) y hy)) u
theorem k16_idl : ∀ p ∈ k16L, Fit 3 6 p ∧ exB 4 p := fun p hp => by
  rcases List.mem_cons.1 hp with rfl | hp
  · exact fit16_of k16A_can (by kernel_rfl) (by decide) (by decide)
  · rw [List.mem_singleton.1 hp]; exact fit16_of k16B_can (by kernel_rfl) (by decide) (by decide)
theorem k16_idc : ∀ p ∈ [k121, k16Q], Fit 3 6 p ∧ exB 4 p := fun p hp => by
  rcases List.mem_cons.1 hp with rfl | hp
  · exact fit16_of unit_can (by kernel_rfl) (by decide) (by decide)
  · rw [List.mem_singleton.1 hp]; exact fit16_of k16Q_can (by kernel_rfl) (by decide) (by decide)
theorem k16_ff : Fit 3 6 k16F ∧ exB 4 k16F := fit16_of k16F_can (by kernel_rfl) (by decide) (by decide)
theorem k16_fr : Fit 3 6 k162 ∧ exB 4 k162 := fit16_of k162_can (by kernel_rfl) (by decide) (by decide)
theorem k16_ns : ∀ k, k < 2 → 0 ≤ ([1, 2] : List Int).getD k 0 ∧ ([1, 2] : List Int).getD k 0 ≤ 3 := fun k hk => by
  match k, hk with
  | 0, _ => decide
  | 1, _ => decide
theorem k16_end : (idXs k16F k162 k16L [k121, k16Q] [1, 2] 2).1 = (idXs k16F k162 k16L [k121, k16Q] [1, 2] 2).2 := by kernel_rfl
theorem k16_identity {W : World} {vf vl vp vc vr : Value} (hf : PV W vf k16F) (hl : PVL W vl k16L) (hp : Ints (Old W) W vp [1, 2]) (hc : PVL W vc [k121, k16Q]) (hr : PV W vr k162) :
    Calls Tryz.prog 12 #[vf, vl, .agg #[vp, vc, vr]] W fun e W' => e = .returned (.bool true) ∧ Ext W W' := by
  have h := chain_identity (xs := idXs k16F k162 k16L [k121, k16Q] [1, 2]) (j := 2) hf hl hp hc hr rfl rfl k16_ff.1 (by decide) k16_fr.1 (by decide) (k16_small k16_all) (fun p h => (k16_all p h).2) (k16_small k16_cofs) (fun p h => (k16_cofs p h).2) (Nat.le_refl _) rfl
    (id16_steps k16_ff.1 k16_ff.2 k16_fr.1 k16_fr.2 k16_idl k16_idc (by decide) rfl (Nat.le_refl _) k16_ns) (fun h => absurd h (by decide))
  rw [if_neg (by decide), decide_eq_true k16_end] at h
  exact h
theorem k16_mayl {W : World} {vl : Value} (hl : PVL W vl k16L) : Calls Tryz.prog 13 #[vl] W fun e W' => e = .returned (.bool true) ∧ Ext W W' := by
  have h := chain_may (S := Old W) vl (k16L.map ofP) W hl (fun _ h => h) (k16_small k16_all)
  rwa [k16_may] at h
theorem k16_mayn {W : World} {vl : Value} (hl : PVL W vl [k16B, k16A]) : Calls Tryz.prog 13 #[vl] W fun e W' => e = .returned (.bool false) ∧ Ext W W' := by
  have h := chain_may (S := Old W) vl ([k16B, k16A].map ofP) W hl (fun _ h => h) (k16_small k16_all2)
  rwa [k16_not] at h
theorem polys_two {S : Nat → Prop} {w : World} {b : Nat} {v0 v1 : Value} {p q : List RTerm} (hb : S b) (h0 : w.cell? ⟨b, 0, none⟩ = some v0) (h1 : w.cell? ⟨b, 1, none⟩ = some v1) (t0 : Terms S w v0 p) (t1 : Terms S w v1 q) : Polys S w (.slice (some ⟨b, 0, none⟩) 2 2) [p, q] :=
  ⟨b, 0, ⟨_, 2, rfl, Nat.le_refl _, by decide, fun _ => rfl, fun _ => hb⟩, fun j t hj => by
    match j, hj with
    | 0, hj => cases hj; exact ⟨v0, h0, t0⟩
    | 1, hj => cases hj; exact ⟨v1, h1, t1⟩⟩
theorem k16_rest_call {W : World} {vf vl : Value} (hf : PV W vf k16F) (hl : PVL W vl k16L) :
    Calls Tryz.prog 16 #[.pointer none, vf, vl] W fun e W' => ∃ vp vc vr, e = .returned (.tuple #[.agg #[vp, vc, vr], .int .i64 0]) ∧ PV W' vr k162 ∧ Ints (Old W') W' vp [1, 2] ∧ PVL W' vc [k121, k16Q] ∧ Ext W W' := by
  have h := chain_rest (o := none) (s := default) (f := k16F) (ls := k16L) (A := 1) (T := 10) (MV.none W _) (pm_none hf) (hl.to (S' := NB none W) (Kept.refl _ _) (fun _ h => ⟨h, by simp⟩)) (tiny_fit k16F_can (by kernel_rfl)) (by decide) (by decide) (k16_small k16_all) k16_may (by decide) k16_fit
  rw [show restD none true k16L k16L.length default k16F (List.replicate k16L.length 0) (List.replicate k16L.length []) = (0, default, k162, [1, 2], [k121, k16Q]) from k16_rest] at h
  exact h.mono (by
    rintro e W' ⟨vp, vc, vr, rfl, -, h2, h3, h4, h5⟩
    exact ⟨vp, vc, vr, rfl, h3.pv, h4.to (Kept.refl _ _) (fun _ h => h.2.1), h5.to (Kept.refl _ _) (fun _ h => h.2.1), ext_of_gb h2⟩)

set_option maxRecDepth 100000 in
set_option maxHeartbeats 8000000 in
theorem law16_known (w : World) :
    Calls Tryz.prog 9 #[] w fun e w' => e = .returned (.bool true) ∧ Ext w w' := by
  have hnot : ∀ (x : Bool) (w : World), (Op.unary .not (.bool x)).run Tryz.prog w = .ok (.bool (!x)) w := fun _ _ => rfl
  go_enter Tryz.func9, Tryz.ntmps9
  have HX0 := hid (Ext.refl w)
  go_wp2_with fail
  refine (rpoly_x 1 w (by unfold inI64; omega)).mono ?_
  rintro e w1 ⟨v1, rfl, hp1, hx1⟩
  have HX1 := hid (HX0.out.trans hx1)
  have HJ1 := hid (RTs.old hp1 New.lt)
  obtain ⟨a1, c1, rfl⟩ := hp1.form
  clear hx1 hp1
  go_wp2_with fail
  refine (rpoly_x 2 w1 (by unfold inI64; omega)).mono ?_
  rintro e w2 ⟨v2, rfl, hp2, hx2⟩
  have HX2 := hid (HX1.out.trans hx2)
  have HJ2 := hid (RTs.on HJ1.out hx2)
  have HY2 := hid (RTs.old hp2 New.lt)
  obtain ⟨a2, c2, rfl⟩ := hp2.form
  clear hx2 hp2
  go_wp2_with fail
  refine (rpoly_mul (S := Old w2) _ _ k9X k9X w2 (fun _ h => h) HJ2.out HJ2.out (tiny_may (by kernel_rfl)) (tiny_may (by kernel_rfl)) (tiny_sz (by kernel_rfl)) (tiny_sz (by kernel_rfl)) (tiny_mul (by kernel_rfl) (by kernel_rfl))).mono ?_
  rw [k16_x2]
  rintro e w3 ⟨v3, rfl, hp3, hx3⟩
  have HX3 := hid (HX2.out.trans hx3)
  have HJ3 := hid (RTs.on HJ2.out hx3)
  have HY3 := hid (RTs.on HY2.out hx3)
  have HU3 := hid (RTs.old hp3 (plus_lt (fun _ h => h) hx3))
  obtain ⟨a3, c3, rfl⟩ := hp3.form
  clear hx3 hp3
  go_wp2_with fail
  refine (rpoly_small 2 w3 (by omega)).mono ?_
  rw [k16_2]
  rintro e w4 ⟨v4, rfl, hp4, hx4⟩
  have HX4 := hid (HX3.out.trans hx4)
  have HJ4 := hid (RTs.on HJ3.out hx4)
  have HY4 := hid (RTs.on HY3.out hx4)
  have HU4 := hid (RTs.on HU3.out hx4)
  have HS4 := hid (RTs.old hp4 New.lt)
  obtain ⟨a4, c4, rfl⟩ := hp4.form
  clear hx4 hp4
  go_wp2_with fail
  refine (rpoly_sub (S := Old w4) _ _ k16X2 k162 w4 (fun _ h => h) HU4.out HS4.out (tiny_may (by kernel_rfl)) (tiny_may (by kernel_rfl)) (tiny_sz (by kernel_rfl)) (fun k hk => tiny_add (q := negP k162) (by kernel_rfl) (by kernel_rfl) k (by rw [negP_length]; exact hk))).mono ?_
  rw [k16_a]
  rintro e w5 ⟨v5, rfl, hp5, hx5⟩
  have HX5 := hid (HX4.out.trans hx5)
  have HJ5 := hid (RTs.on HJ4.out hx5)
  have HY5 := hid (RTs.on HY4.out hx5)
  have HA5 := hid (RTs.old hp5 (plus_lt (fun _ h => h) hx5))
  obtain ⟨a5, c5, rfl⟩ := hp5.form
  clear hx5 hp5
  go_wp2_with fail
  refine (rpoly_poly (S := Old w5) _ k16A w5 HA5.out (fun _ h => h) (tiny_sz (by kernel_rfl)) (kn_len (tiny_may (by kernel_rfl)))).mono ?_
  rintro e w6 ⟨v6, rfl, hp6, hx6⟩
  have HX6 := hid (HX5.out.trans hx6)
  have HJ6 := hid (RTs.on HJ5.out hx6)
  have HY6 := hid (RTs.on HY5.out hx6)
  have HPA6 := hid (Terms.old hp6 New.lt)
  obtain ⟨a6, c6, rfl⟩ := hp6.form
  clear hx6 hp6
  go_wp2_with fail
  refine (rpoly_sub (S := Old w6) _ _ k9Y k9X w6 (fun _ h => h) HY6.out HJ6.out (tiny_may (by kernel_rfl)) (tiny_may (by kernel_rfl)) (tiny_sz (by kernel_rfl)) (fun k hk => tiny_add (q := negP k9X) (by kernel_rfl) (by kernel_rfl) k (by rw [negP_length]; exact hk))).mono ?_
  rw [k16_b]
  rintro e w7 ⟨v7, rfl, hp7, hx7⟩
  have HX7 := hid (HX6.out.trans hx7)
  have HJ7 := hid (RTs.on HJ6.out hx7)
  have HY7 := hid (RTs.on HY6.out hx7)
  have HPA7 := hid (Terms.on HPA6.out hx7)
  have HB7 := hid (RTs.old hp7 (plus_lt (fun _ h => h) hx7))
  obtain ⟨a7, c7, rfl⟩ := hp7.form
  clear hx7 hp7
  go_wp2_with fail
  refine (rpoly_poly (S := Old w7) _ k16B w7 HB7.out (fun _ h => h) (tiny_sz (by kernel_rfl)) (kn_len (tiny_may (by kernel_rfl)))).mono ?_
  rintro e w8 ⟨v8, rfl, hp8, hx8⟩
  have HX8 := hid (HX7.out.trans hx8)
  have HY8 := hid (RTs.on HY7.out hx8)
  have HPA8 := hid (Terms.on HPA7.out hx8)
  have HPB8 := hid (Terms.old hp8 New.lt)
  obtain ⟨a8, c8, rfl⟩ := hp8.form
  clear hx8 hp8
  obtain ⟨nA, hnA⟩ : ∃ n, n = (ofP k16A).length := ⟨_, rfl⟩
  obtain ⟨nB, hnB⟩ : ∃ n, n = (ofP k16B).length := ⟨_, rfl⟩
  rw [← hnA] at HPA8
  rw [← hnB] at HPB8
  rw [← hnA, ← hnB]
  have HL0 : Hid (Polys (Old (w8.alloc (.cells #[.slice a6 nA c6, .slice a8 nB c8] 23))) (w8.alloc (.cells #[.slice a6 nA c6, .slice a8 nB c8] 23)) (.slice (some ⟨w8.heap.size, 0, none⟩) 2 2) (k16L.map ofP)) := hid (polys_two (by show _ < _; rw [size_alloc]; exact Nat.lt_succ_self _) (cell_new _ _ _ rfl rfl) (cell_new _ _ _ rfl rfl) (Terms.on HPA8.out ((Ext.refl _).alloc _)) (Terms.on HPB8.out ((Ext.refl _).alloc _)))
  have HLC : Hid ((w8.alloc (.cells #[.slice a6 nA c6, .slice a8 nB c8] 23)).cell? ⟨w8.heap.size, 0, none⟩ = some (.slice a6 nA c6) ∧ (w8.alloc (.cells #[.slice a6 nA c6, .slice a8 nB c8] 23)).cell? ⟨w8.heap.size, 1, none⟩ = some (.slice a8 nB c8)) := hid ⟨cell_new _ _ _ rfl rfl, cell_new _ _ _ rfl rfl⟩
  have HXA := hid (Ext.alloc (Ext.refl w8) (.cells #[.slice a6 nA c6, .slice a8 nB c8] 23))
  obtain ⟨w9, hw9⟩ : ∃ Y, Y = w8.alloc (.cells #[.slice a6 nA c6, .slice a8 nB c8] 23) := ⟨_, rfl⟩
  rw [← hw9] at HL0 HXA HLC
  obtain ⟨bL, hbL⟩ : ∃ b, b = w8.heap.size := ⟨_, rfl⟩
  rw [← hbL] at HL0 HLC
  have HX9 := hid (HX8.out.trans HXA.out)
  have HPA9 := hid (Terms.on HPA8.out HXA.out)
  have HPB9 := hid (Terms.on HPB8.out HXA.out)
  have HY9 := hid (RTs.on HY8.out HXA.out)
  have HL9 := HL0
  have HWA := hid hw9
  have HBL := hid hbL
  clear hnA hnB hw9 hbL
  go_wp2_with fail
  rw [← HWA.out, ← HBL.out]
  refine (rpoly_mul (S := Old w9) _ _ k9Y k9Y w9 (fun _ h => h) HY9.out HY9.out (tiny_may (by kernel_rfl)) (tiny_may (by kernel_rfl)) (tiny_sz (by kernel_rfl)) (tiny_sz (by kernel_rfl)) (tiny_mul (by kernel_rfl) (by kernel_rfl))).mono ?_
  rw [k16_f]
  rintro e w10 ⟨v10, rfl, hp10, hx10⟩
  have HX10 := hid (HX9.out.trans hx10)
  have HE1 := hid hx10
  have HPA10 := hid (Terms.on HPA9.out hx10)
  have HPB10 := hid (Terms.on HPB9.out hx10)
  have HL10 := hid (Polys.on HL9.out hx10)
  have HF10 := hid (RTs.old hp10 (plus_lt (fun _ h => h) hx10))
  obtain ⟨a10, c10, rfl⟩ := hp10.form
  clear hx10 hp10
  go_wp2_with fail
  refine (rpoly_poly (S := Old w10) _ k16F w10 HF10.out (fun _ h => h) (tiny_sz (by kernel_rfl)) (kn_len (tiny_may (by kernel_rfl)))).mono ?_
  rintro e w11 ⟨v11, rfl, hp11, hx11⟩
  have HX11 := hid (HX10.out.trans hx11)
  have HE2 := hid hx11
  have HPA11 := hid (Terms.on HPA10.out hx11)
  have HPB11 := hid (Terms.on HPB10.out hx11)
  have HL11 := hid (Polys.on HL10.out hx11)
  have HPF11 := hid (Terms.old hp11 New.lt)
  obtain ⟨a11, c11, rfl⟩ := hp11.form
  clear hx11 hp11
  go_wp2_with fail
  refine (k16_rest_call HPF11.out HL11.out).mono ?_
  rintro e w12 ⟨vp, vc, vr, rfl, hr, hp, hc, hx12⟩
  have HX12 := hid (HX11.out.trans hx12)
  have HE3 := hid hx12
  have HPA12 := hid (Terms.on HPA11.out hx12)
  have HPB12 := hid (Terms.on HPB11.out hx12)
  have HL12 := hid (Polys.on HL11.out hx12)
  have HPF12 := hid (Terms.on HPF11.out hx12)
  have HVR12 := hid (show Terms (Old w12) w12 vr (ofP k162) from hr)
  have HVP12 := hid hp
  have HVC12 := hid (show Polys (Old w12) w12 vc ([k121, k16Q].map ofP) from hc)
  have hxL := Ext.trans (Ext.refl _) hx12
  obtain ⟨ap, cp, hvp⟩ := hp.form
  have hvp2 : vp = .slice ap 2 cp := hvp
  clear hvp
  subst hvp2
  obtain ⟨ac, cc, hvc⟩ := hc.form
  have hvc2 : vc = .slice ac 2 cc := hvc
  clear hvc
  subst hvc2
  obtain ⟨ar, cr, rfl⟩ := hr.form
  obtain ⟨bp, op, rfl, -, hcp1, hcp2, -, -, hp0⟩ := HVP12.out.cellAt (k := 0) rfl
  obtain ⟨bp', op', hbp, -, -, -, -, -, hp1⟩ := HVP12.out.cellAt (k := 1) rfl
  obtain ⟨rfl, rfl⟩ : bp = bp' ∧ op = op' := by simpa using hbp
  rw [Nat.add_zero] at hp0
  have HP01 := hid (And.intro hp0 hp1)
  obtain ⟨nr, hnr⟩ : ∃ n, n = (ofP k162).length := ⟨_, rfl⟩
  rw [← hnr] at HVR12
  rw [← hnr]
  have HNR := hid hnr
  clear hx12 hr hp hc hbp hp0 hp1 hnr hxL
  have HLC12 : Hid (w12.cell? ⟨bL, 0, none⟩ = some (.slice a6 nA c6) ∧ w12.cell? ⟨bL, 1, none⟩ = some (.slice a8 nB c8)) := hid (by
    have h := Ext.trans (Ext.trans HE1.out HE2.out) HE3.out
    exact ⟨h.cell HLC.out.1, h.cell HLC.out.2⟩)
  have h0 : (w12.alloc (.cells #[.slice (some ⟨bp, op, none⟩) 2 cp, .slice ac 2 cc, .slice ar nr cr] 27)).cell? ⟨w12.heap.size, 0, none⟩ = some (.slice (some ⟨bp, op, none⟩) 2 cp) := cell_new _ _ _ rfl rfl
  have h1 : (w12.alloc (.cells #[.slice (some ⟨bp, op, none⟩) 2 cp, .slice ac 2 cc, .slice ar nr cr] 27)).cell? ⟨w12.heap.size, 1, none⟩ = some (.slice ac 2 cc) := cell_new _ _ _ rfl rfl
  have h2 : (w12.alloc (.cells #[.slice (some ⟨bp, op, none⟩) 2 cp, .slice ac 2 cc, .slice ar nr cr] 27)).cell? ⟨w12.heap.size, 2, none⟩ = some (.slice ar nr cr) := cell_new _ _ _ rfl rfl
  have HXD := hid (Ext.alloc (Ext.refl w12) (.cells #[.slice (some ⟨bp, op, none⟩) 2 cp, .slice ac 2 cc, .slice ar nr cr] 27))
  obtain ⟨wd, hwd⟩ : ∃ Y, Y = w12.alloc (.cells #[.slice (some ⟨bp, op, none⟩) 2 cp, .slice ac 2 cc, .slice ar nr cr] 27) := ⟨_, rfl⟩
  rw [← hwd] at h0 h1 h2 HXD
  obtain ⟨bd, hbd⟩ : ∃ b, b = w12.heap.size := ⟨_, rfl⟩
  rw [← hbd] at h0 h1 h2
  have HFS : Hid (∀ Y : World, Ext wd Y → Y.cell? ⟨bd, 0, none⟩ = some (.slice (some ⟨bp, op, none⟩) 2 cp) ∧ Y.cell? ⟨bd, 1, none⟩ = some (.slice ac 2 cc) ∧ Y.cell? ⟨bd, 2, none⟩ = some (.slice ar nr cr) ∧ Y.cell? ⟨bp, op, none⟩ = some (.int .i64 1) ∧ Y.cell? ⟨bp, op + 1, none⟩ = some (.int .i64 2) ∧ Y.cell? ⟨bL, 0, none⟩ = some (.slice a6 nA c6) ∧ Y.cell? ⟨bL, 1, none⟩ = some (.slice a8 nB c8)) := hid (fun Y hY =>
    ⟨hY.cell h0, hY.cell h1, hY.cell h2, (HXD.out.trans hY).cell HP01.out.1, (HXD.out.trans hY).cell HP01.out.2, (HXD.out.trans hY).cell HLC12.out.1, (HXD.out.trans hY).cell HLC12.out.2⟩)
  have HXW := hid (HX12.out.trans HXD.out)
  have CS : Hid (∀ Y : World, Calls Tryz.prog 34 #[.int .i64 2] Y fun e w' => ∃ v', e = .returned v' ∧ RTs (New Y w') w' v' k162 ∧ Ext Y w') := hid (fun Y => by have h := rpoly_small 2 Y (by omega); rw [k16_2] at h; exact h)
  have CP := hid (fun (Y Y' : World) (v : Value) (hv : RTs (Old Y) Y v k162) (hY : Ext Y Y') => rpoly_poly (S := Old Y') v k162 Y' (RTs.on hv hY) (fun _ h => h) (tiny_sz (by kernel_rfl)) (kn_len (tiny_may (by kernel_rfl))))
  have CE : Hid (∀ (Y Y' : World) (v : Value), Ext w12 Y → Terms (Old Y) Y v (ofP k162) → Ext Y Y' → Calls Tryz.prog 25 #[.slice ar nr cr, v] Y' fun e w' => e = .returned (.bool true) ∧ Ext Y' w') := hid (fun Y Y' v hW hv hY => (rpoly_same _ v (ofP k162) (ofP k162) Y' (Terms.on HVR12.out (hW.trans hY)) (Terms.on hv hY) (fun _ h => h)).mono (by rintro e w' ⟨rfl, hx⟩; exact ⟨by simp, hx⟩))
  have CI := hid (fun (Y : World) (hY : Ext w12 Y) => k16_identity (Terms.on HPF12.out hY) (Polys.on HL12.out hY) (HVP12.out.to (Kept.ext hY (fun _ h => h)) (old_lt hY)) (Polys.on HVC12.out hY) (Terms.on HVR12.out hY))
  have CM := hid (fun (Y : World) (hY : Ext w12 Y) => k16_mayl (Polys.on HL12.out hY))
  have CN := hid (fun (Y : World) (b : Nat) (hY : Ext w12 Y) (g0 : Y.cell? ⟨b, 0, none⟩ = some (.slice a8 nB c8)) (g1 : Y.cell? ⟨b, 1, none⟩ = some (.slice a6 nA c6)) => k16_mayn (polys_two (lt_of_cell g0) g0 g1 (Terms.on HPB12.out hY) (Terms.on HPA12.out hY)))
  have x0 : Ext wd wd.drew := Below.drew (Ext.refl wd)
  have S0 := HFS.out _ x0
  have HWD := hid hwd
  have HBD := hid hbd
  clear hwd hbd h0 h1 h2
  go_wp2
  rw [← HWD.out, ← HBD.out]
  go_region_held3 (fun Y => Y.cell? ⟨bd, 0, none⟩ = some (.slice (some ⟨bp, op, none⟩) 2 cp) ∧ Y.cell? ⟨bd, 1, none⟩ = some (.slice ac 2 cc) ∧ Y.cell? ⟨bd, 2, none⟩ = some (.slice ar nr cr) ∧ Y.cell? ⟨bp, op, none⟩ = some (.int .i64 1) ∧ Y.cell? ⟨bp, op + 1, none⟩ = some (.int .i64 2) ∧ Y.cell? ⟨bL, 0, none⟩ = some (.slice a6 nA c6) ∧ Y.cell? ⟨bL, 1, none⟩ = some (.slice a8 nB c8)) (first | exact S0 | exact S1 | exact S2 | exact S3 | exact S4 | exact S5 | exact S6 | exact HFS.out _ ((Ext.refl wd).alloc _).drew | exact HFS.out _ (HZ.out.alloc _))
    (first
      | (go_at_call 34; with_reducible refine (CS.out _).mono ?_
         rintro e u1 ⟨v1, rfl, hv, hx⟩
         have HZ : Hid (Ext wd u1) := hid (Ext.trans (by first | exact x0 | exact ((Ext.refl wd).alloc _).drew) hx)
         have S1 := HFS.out _ HZ.out
         (try (have HN : Hid (u1.cell? ⟨wd.heap.size, 0, none⟩ = some (.slice a8 nB c8) ∧ u1.cell? ⟨wd.heap.size, 1, none⟩ = some (.slice a6 nA c6)) := hid ⟨hx.cell (pair_new wd _ _ _).1, hx.cell (pair_new wd _ _ _).2⟩))
         have HQ := hid (RTs.old hv New.lt); have qf : ∃ a c, v1 = Value.slice a 1 c := hv.form; obtain ⟨aq, cq, rfl⟩ := qf; clear hx hv)
      | (go_at_call 26; with_reducible refine (CP.out _ _ _ HQ.out (by first | exact Ext.refl _ | exact (Ext.refl _).alloc _)).mono ?_
         rintro e u2 ⟨v2, rfl, hv, hx⟩
         have HZ : Hid (Ext wd u2) := hid ((HZ.out.trans (by first | exact Ext.refl _ | exact (Ext.refl _).alloc _)).trans hx)
         have S2 := HFS.out _ HZ.out
         (try (have HN := hid (And.intro (hx.cell HN.out.1) (hx.cell HN.out.2))))
         (try (have HN : Hid (u2.cell? ⟨u1.heap.size, 0, none⟩ = some (.slice a8 nB c8) ∧ u2.cell? ⟨u1.heap.size, 1, none⟩ = some (.slice a6 nA c6)) := hid ⟨hx.cell (pair_new u1 _ _ _).1, hx.cell (pair_new u1 _ _ _).2⟩))
         have HQ := hid (Terms.old hv New.lt); obtain ⟨at2, ct2, rfl⟩ := hv.form; obtain ⟨nt2, hnt⟩ : ∃ n, n = (ofP k162).length := ⟨_, rfl⟩; rw [← hnt] at HQ; rw [← hnt]; clear hx hv hnt)
      | (go_at_call 25; with_reducible refine (CE.out _ _ _ (HXD.out.trans HZ.out) HQ.out (by first | exact Ext.refl _ | exact (Ext.refl _).alloc _)).mono ?_
         rintro e u3 ⟨rfl, hx⟩
         have HZ : Hid (Ext wd u3) := hid ((HZ.out.trans (by first | exact Ext.refl _ | exact (Ext.refl _).alloc _)).trans hx)
         have S3 := HFS.out _ HZ.out
         (try (have HN := hid (And.intro (hx.cell HN.out.1) (hx.cell HN.out.2))))
         (try (have HN : Hid (u3.cell? ⟨u2.heap.size, 0, none⟩ = some (.slice a8 nB c8) ∧ u3.cell? ⟨u2.heap.size, 1, none⟩ = some (.slice a6 nA c6)) := hid ⟨hx.cell (pair_new u2 _ _ _).1, hx.cell (pair_new u2 _ _ _).2⟩))
         clear hx)
      | (go_at_call 12; with_reducible refine (CI.out _ ((HXD.out.trans HZ.out).trans (by first | exact Ext.refl _ | exact (Ext.refl _).alloc _))).mono ?_
         rintro e u4 ⟨rfl, hx⟩
         have HZ : Hid (Ext wd u4) := hid ((HZ.out.trans (by first | exact Ext.refl _ | exact (Ext.refl _).alloc _)).trans hx)
         have S4 := HFS.out _ HZ.out
         (try (have HN := hid (And.intro (hx.cell HN.out.1) (hx.cell HN.out.2))))
         (try (have HN : Hid (u4.cell? ⟨u3.heap.size, 0, none⟩ = some (.slice a8 nB c8) ∧ u4.cell? ⟨u3.heap.size, 1, none⟩ = some (.slice a6 nA c6)) := hid ⟨hx.cell (pair_new u3 _ _ _).1, hx.cell (pair_new u3 _ _ _).2⟩))
         clear hx)
      | (go_at_call_of 13 (Value.slice (some ⟨bL, 0, none⟩) 2 2); with_reducible refine (CM.out _ ((HXD.out.trans HZ.out).trans (by first | exact Ext.refl _ | exact (Ext.refl _).alloc _))).mono ?_
         rintro e u5 ⟨rfl, hx⟩
         have HZ : Hid (Ext wd u5) := hid ((HZ.out.trans (by first | exact Ext.refl _ | exact (Ext.refl _).alloc _)).trans hx)
         have S5 := HFS.out _ HZ.out
         (try (have HN := hid (And.intro (hx.cell HN.out.1) (hx.cell HN.out.2))))
         (try (have HN : Hid (u5.cell? ⟨u4.heap.size, 0, none⟩ = some (.slice a8 nB c8) ∧ u5.cell? ⟨u4.heap.size, 1, none⟩ = some (.slice a6 nA c6)) := hid ⟨hx.cell (pair_new u4 _ _ _).1, hx.cell (pair_new u4 _ _ _).2⟩))
         clear hx)
      | (go_at_call 13
         first
           | with_reducible refine (CN.out _ _ (HXD.out.trans HZ.out) HN.out.1 HN.out.2).mono ?_
           | with_reducible refine (CN.out _ _ ((HXD.out.trans HZ.out).trans ((Ext.refl _).alloc _)) (pair_new u5 _ _ _).1 (pair_new u5 _ _ _).2).mono ?_
         rintro e u6 ⟨rfl, hx⟩
         have HZ : Hid (Ext wd u6) := hid ((HZ.out.trans (by first | exact Ext.refl _ | exact (Ext.refl _).alloc _)).trans hx)
         have S6 := HFS.out _ HZ.out
         clear hx))
  all_goals
    go_wp2
    go_ret
    exact ⟨rfl, HXW.out.trans HZ.out⟩
  end Go.Proofs.YthdcaablomgboaaGreat

namespace Go.Proofs.YthdcaablomgboaaGreat
open Go.RowKit

set_option maxRecDepth 100000 in
set_option maxHeartbeats 8000000 in
theorem rz_pow {W : World} {u : Value} {h P : PZ} {A T n : Nat} (hp : RV W u h) (fh : Fit A T h) (hA : A ≤ 100) (hT : 1 ≤ T) (hT2 : T ≤ 1000000000000) (hn : n ≤ 100) (hTn : T ^ n ≤ 1000000000000) (hP : powN h n = some P) :
    Calls Tryz.prog 37 #[u, .int .i64 (n : Nat)] W fun e w' => ∃ v', e = .returned (.tuple #[v', .bool true]) ∧ RV w' v' P ∧ Ext W w' := by
  have C1 : Hid (Calls Tryz.prog 34 #[.int .i64 1] W fun e w' => ∃ v', e = .returned v' ∧ RTs (New W w') w' v' [(1, [])] ∧ Ext W w') := hid (rpoly_small 1 W (by decide))
  have HP := hid hp
  have HF := hid fh
  have HAA := hid hA
  have HTT := hid hT
  have HT2 := hid hT2
  have HTN := hid hTn
  have HPP := hid hP
  obtain ⟨a, c, rfl⟩ := hp.form
  obtain ⟨nh, hnh⟩ : ∃ n, n = h.length := ⟨_, rfl⟩
  rw [← hnh] at HP ⊢
  clear hp fh hnh hA hT hT2 hTn hP
  go_enter Tryz.func37, Tryz.ntmps37
  go_wp2_with fail
  with_reducible refine C1.out.mono ?_
  rintro e w1 ⟨v1, rfl, h1, hx1⟩
  have HX1 := hid hx1
  have H1 : Hid (RV w1 v1 [(1, [])]) := hid (h1.to (Kept.refl _ _) New.lt)
  clear h1 hx1
  go_wp2
  go_loopw [6, 7, 8] (fun x b i wr => ∃ (k : Nat) (Q : PZ), k ≤ n ∧ i = .int .i64 (k : Nat) ∧ b = .bool true ∧ Ext W wr ∧ Hid (powN h k = some Q) ∧ Hid (RV wr x Q)) (fun _ _ i _ => n - (intOf i).toNat)
  case atStart => exact ⟨0, [(1, [])], Nat.zero_le _, rfl, rfl, HX1.out, rfl, H1⟩
  case round =>
    obtain ⟨k, Q, hk, rfl, rfl, hx, HPK, HO⟩ := hrel
    have HX := hid hx
    by_cases hlt : k < n
    · have hle : T ^ k ≤ T ^ n := Nat.pow_le_pow_right HTT.out (by omega)
      have hle2 : T ^ (k + 1) ≤ T ^ n := Nat.pow_le_pow_right HTT.out (by omega)
      have fP := powN_fit HF.out HTT.out k Q (Nat.le_trans hle HTN.out) HPK.out
      have hkA : 1 + k * (A + 2) ≤ 20000 := by
        have h1 : k * (A + 2) ≤ 100 * 102 := Nat.mul_le_mul (by omega) (by have := HAA.out; omega)
        omega
      have HPS : Hid (powN h (k + 1) = timesP Q h) := hid (by rw [powN, HPK.out])
      obtain ⟨R, hR⟩ : ∃ R, timesP Q h = some R := by
        cases hq : timesP Q h with
        | some R => exact ⟨R, rfl⟩
        | none =>
          exfalso
          have h1 := powN_none (HPS.out.trans hq) (n := n) (by omega)
          rw [HPP.out] at h1
          cases h1
      have HPR : Hid (powN h (k + 1) = some R) := hid (HPS.out.trans hR)
      have C := rz_times HO.out (RTs.on HP.out hx) fP HF.out (by have := HAA.out; omega) (Nat.le_trans hle HTN.out) HT2.out (by rw [← Nat.pow_succ]; exact Nat.le_trans hle2 HTN.out)
      rw [hR] at C
      have HCT := hid C
      obtain ⟨ao, co, rfl⟩ := HO.out.form
      obtain ⟨no, hno⟩ : ∃ n, n = Q.length := ⟨_, rfl⟩
      rw [← hno] at HO HCT ⊢
      clear hle hle2 fP hkA hR hno hx C
      go_wp2_with fail
      with_reducible refine HCT.out.mono ?_
      rintro e w4 ⟨v4, rfl, hp4, hx4⟩
      have HX4 := hid (HX.out.trans hx4)
      have HP4 : Hid (RV w4 v4 R) := hid hp4
      clear hp4 hx4
      go_wp2
      go_roundw
      case rel => exact ⟨k + 1, R, by omega, by go_num, rfl, HX4.out, HPR, HP4⟩
      case measure => simp only [intOf]; omega
    · obtain rfl : k = n := by omega
      have hPQ : P = Q := by have h1 := HPP.out; rw [HPK.out] at h1; exact (Option.some.inj h1).symm
      subst hPQ
      clear hx
      go_wp2
      all_goals
        go_ret2
        exact ⟨_, rfl, HO.out, HX.out⟩

theorem rz_initial {W : World} {u : Value} {p : PZ} {k n : Nat} (hp : RV W u p) (fp : Fit k n p) (hk : k ≤ 90000) (hn : n ≤ 1000000000000) :
    Calls Tryz.prog 38 #[u] W fun e w' => ∃ v', e = .returned v' ∧ RV w' v' (initP p) ∧ Ext W w' :=
  (rview_initial (S := Old W) u p W hp (fun _ h => h) fp.can (fit_szP fp (by omega) hn)).mono (by
    rintro e w' ⟨v', rfl, h, hx⟩
    exact ⟨v', rfl, h.to (Kept.refl _ _) (plus_old hx), hx⟩)
theorem polys_get {l : List PZ} {k : Nat} (hk : k < l.length) : l[k]? = some (l.getD k []) := by
  rw [List.getD_eq_getElem?_getD, List.getElem?_eq_getElem hk]
  rfl

set_option maxRecDepth 100000 in
set_option maxHeartbeats 16000000 in
theorem ref_identity {W : World} {vf vl vp vc vr : Value} {f r : PZ} {ls cs : List PZ} {ns : List Int} {xs : Nat → PZ × PZ} {Ns : Nat → Nat} {is bs : Nat → PZ} {j : Nat} {B U C V : Nat}
    (hf : RV W vf f) (hl : RPs (Old W) W vl ls) (hp : Ints (Old W) W vp ns) (hc : RPs (Old W) W vc cs) (hr : RV W vr r) (e1 : ns.length = ls.length) (e2 : cs.length = ls.length)
    (hj : j ≤ ls.length) (x0 : xs 0 = (f, r)) (hst : ∀ k, k < j → IdStep (xs k) (xs (k + 1)) (ls.getD k []) (cs.getD k []) (ns.getD k 0) (Ns k) (is k) (bs k)) (hbad : j < ls.length → ns.getD j 0 < 0 ∨ 100 < ns.getD j 0)
    (fe1 : Fit B U (xs j).1) (fe2 : Fit C V (xs j).2) (hB : B ≤ 90000) (hC : C ≤ 90000) (hU : U ≤ 1000000000000) (hV : V ≤ 1000000000000) :
    Calls Tryz.prog 11 #[vf, vl, .agg #[vp, vc, vr]] W fun e W' => e = .returned (.bool (if j < ls.length then false else decide ((xs j).1 = (xs j).2))) ∧ Ext W W' := by
  have hnot : ∀ (x : Bool) (w : World), (Op.unary .not (.bool x)).run Tryz.prog w = .ok (.bool (!x)) w := fun _ _ => rfl
  have HF := hid hf
  have HL := hid hl
  have HP := hid hp
  have HC := hid hc
  have HR := hid hr
  have HST := hid hst
  have HBAD := hid hbad
  have HX0 := hid x0
  have HFE1 := hid (And.intro fe1 (And.intro hB hU))
  have HFE2 := hid (And.intro fe2 (And.intro hC hV))
  have hll := hp.len_le
  obtain ⟨m, hm⟩ : ∃ m, m = ls.length := ⟨_, rfl⟩
  have HM := hid hm
  have HE1 := hid (e1.trans hm.symm)
  have HE2 := hid (e2.trans hm.symm)
  rw [e1, ← hm] at hll
  rw [← hm] at hj ⊢
  have HRES : Hid (∀ x : PZ × PZ, x = xs j → ¬ j < m → (if j < m then false else decide ((xs j).1 = (xs j).2)) = decide (x.1 = x.2)) := hid (fun x hx hn => by rw [if_neg hn, hx])
  have HRES2 : Hid (j < m → (if j < m then false else decide ((xs j).1 = (xs j).2)) = false) := hid (fun h => if_pos h)
  generalize (if j < m then false else decide ((xs j).1 = (xs j).2)) = RES at HRES HRES2 ⊢
  obtain ⟨af, cf, rfl⟩ := hf.form
  obtain ⟨ar, cr, rfl⟩ := hr.form
  obtain ⟨al, cl', hl'⟩ := hl.form
  obtain ⟨ap, cp, hp'⟩ := hp.form
  obtain ⟨ac, cc', hc'⟩ := hc.form
  rw [← hm] at hl'
  rw [e1, ← hm] at hp'
  rw [e2, ← hm] at hc'
  subst hl' hp' hc'
  obtain ⟨nf, hnf⟩ : ∃ n, n = f.length := ⟨_, rfl⟩
  obtain ⟨nr, hnr⟩ : ∃ n, n = r.length := ⟨_, rfl⟩
  rw [← hnf] at HF ⊢
  rw [← hnr] at HR ⊢
  have HXA := hid (Ext.alloc (Ext.refl W) (.cells #[.slice ap m cp, .slice ac m cc', .slice ar nr cr] 37))
  obtain ⟨w0, hw0⟩ : ∃ w0, w0 = W.alloc (.cells #[.slice ap m cp, .slice ac m cc', .slice ar nr cr] 37) := ⟨_, rfl⟩
  have HW0 := hid hw0
  have HJ : Hid (w0.cell? ⟨W.heap.size, 0, none⟩ = some (.slice ap m cp) ∧ w0.cell? ⟨W.heap.size, 1, none⟩ = some (.slice ac m cc') ∧ w0.cell? ⟨W.heap.size, 2, none⟩ = some (.slice ar nr cr)) := hid (by rw [hw0]; exact ⟨cell_new _ _ _ rfl rfl, cell_new _ _ _ rfl rfl, cell_new _ _ _ rfl rfl⟩)
  have q1 : ((m : Int) != (m : Int)) = false := by rw [bne_eq_false_iff_eq]
  obtain ⟨j0, j1, j2⟩ := HJ.out
  rw [hw0] at j0 j1 j2
  clear hf hl hp hc hr e1 e2 x0 hst hbad hm hnf hnr fe1 fe2 hB hC hU hV
  go_enter Tryz.func11, Tryz.ntmps11
  go_wp2
  rw [← hw0]
  have HXA : Hid (Ext W w0) := hid (by rw [hw0]; exact HXA.out)
  clear j0 j1 j2 hw0
  go_loopw [7, 8, 9] (fun a b i wr => ∃ k : Nat, k ≤ j ∧ i = .int .i64 k ∧ Ext w0 wr ∧ Hid (RV wr a (xs k).1) ∧ Hid (RV wr b (xs k).2)) (fun _ _ i _ => j + 1 - (intOf i).toNat)
  case atStart =>
    refine ⟨0, Nat.zero_le _, rfl, Ext.refl _, hid ?_, hid ?_⟩
    · rw [HX0.out]
      exact RTs.on HF.out HXA.out
    · rw [HX0.out]
      exact RTs.on HR.out HXA.out
  case round =>
    obtain ⟨k, hk, rfl, hg, HLk, HRk⟩ := hrel
    have HG := hid hg
    have HXW := hid (HXA.out.trans hg)
    have j0 := hg.cell HJ.out.1
    have j1 := hg.cell HJ.out.2.1
    have HJW := hid (And.intro j0 j1)
    by_cases hlt : k < m
    · obtain ⟨bp, op, rfl, -, hp1, hp2, hSp, hin, hcell⟩ := (HP.out.to (Kept.ext HXW.out (fun _ h => h)) (old_lt HXW.out)).cellAt (ints_get (k := k) (by rw [HE1.out]; exact hlt))
      obtain ⟨hi1, hi2⟩ := hin
      obtain ⟨bl, ol, vl, rfl, -, hl1, hl2, hSl, hlc, htl⟩ := (RPs.on HL.out HXW.out).cellAt (polys_get (k := k) (l := ls) (by rw [← HM.out]; exact hlt))
      obtain ⟨bc, oc, vc, rfl, -, hc1, hc2, hSc, hcc, htc⟩ := (RPs.on HC.out HXW.out).cellAt (polys_get (k := k) (l := cs) (by rw [HE2.out]; exact hlt))
      by_cases hkj : k < j
      · have HS := hid (HST.out k hkj)
        have hs := HS.out
        obtain ⟨hn, hN, ⟨A, T, B, U, C, V, D, X, E, Y, F, Z, fp, hA, hT, hT2, hTN, fx, fi, hBC, hB, hC, hU, hV, hUV, fc, hD, hX, hTX, fr2, hE, fb, hF, hYZ⟩, hpow, hleft, hprod, hright⟩ := hs
        rw [hn] at hcell hi1 hi2
        have HR1 := hid hright
        have HTL := hid htl
        have HTC := hid htc
        have CI := hid (fun (Y : World) (hY : Ext wr Y) => rz_initial (RTs.on HTL.out hY) fp (by omega) hT2)
        have CP := hid (fun (Y : World) (u : Value) (hu : RV Y u (initP (ls.getD k []))) => rz_pow hu fp.init (by omega) hT hT2 hN hTN hpow)
        have CT0 := fun (Y : World) (u : Value) (hY : Ext wr Y) (hu : RV Y u (is k)) => rz_times (RTs.on HLk.out hY) hu fx fi (by omega) hU hV hUV
        rw [hleft] at CT0
        have CT : Hid (∀ (Y : World) (u : Value), Ext wr Y → RV Y u (is k) → Calls Tryz.prog 39 #[_, u] Y fun e w' => ∃ v', e = .returned (.tuple #[v', .bool true]) ∧ RV w' v' (xs (k + 1)).1 ∧ Ext Y w') := hid CT0
        have CT20 := fun (Y : World) (hY : Ext wr Y) => rz_times (RTs.on HTL.out hY) (RTs.on HTC.out hY) fp fc (by omega) hT2 hX hTX
        rw [hprod] at CT20
        have CT2 : Hid (∀ (Y : World), Ext wr Y → Calls Tryz.prog 39 #[_, _] Y fun e w' => ∃ v', e = .returned (.tuple #[v', .bool true]) ∧ RV w' v' (bs k) ∧ Ext Y w') := hid CT20
        have CA := hid (fun (Y : World) (u : Value) (hY : Ext wr Y) (hu : RV Y u (bs k)) => rz_add (RTs.on HRk.out hY) hu fr2 fb (by omega) (by omega) hYZ)
        obtain ⟨aL, cL, rfl⟩ := HLk.out.form
        obtain ⟨aR, cR, rfl⟩ := HRk.out.form
        obtain ⟨all, cll, rfl⟩ := htl.form
        obtain ⟨acc, ccc, rfl⟩ := htc.form
        obtain ⟨nL, hnL⟩ : ∃ n, n = (xs k).1.length := ⟨_, rfl⟩
        obtain ⟨nR, hnR⟩ : ∃ n, n = (xs k).2.length := ⟨_, rfl⟩
        obtain ⟨nl1, hnl1⟩ : ∃ n, n = (ls.getD k []).length := ⟨_, rfl⟩
        obtain ⟨nc1, hnc1⟩ : ∃ n, n = (cs.getD k []).length := ⟨_, rfl⟩
        rw [← hnL] at CT ⊢
        rw [← hnR] at CA ⊢
        rw [← hnl1] at CI CT2 hlc
        rw [← hnc1] at CT2 hcc
        generalize Ns k = N at CP hcell hi1 hi2 hN
        have q2 : decide ((N : Int) < 0) = false := decide_eq_false (by omega)
        have q3 : decide (100 < (N : Int)) = false := decide_eq_false (by omega)
        have HFS : Hid (∀ Y : World, Ext wr Y → Y.cell? ⟨bl, ol + k, none⟩ = some (.slice all nl1 cll) ∧ Y.cell? ⟨W.heap.size, 0, none⟩ = some (.slice (some ⟨bp, op, none⟩) m cp) ∧ Y.cell? ⟨bp, op + k, none⟩ = some (.int .i64 (N : Nat)) ∧ Y.cell? ⟨W.heap.size, 1, none⟩ = some (.slice (some ⟨bc, oc, none⟩) m cc') ∧ Y.cell? ⟨bc, oc + k, none⟩ = some (.slice acc nc1 ccc)) := hid (fun Y hY => ⟨hY.cell hlc, hY.cell HJW.out.1, hY.cell hcell, hY.cell HJW.out.2, hY.cell hcc⟩)
        have x0 := Below.drew (Ext.refl wr)
        have HX0' : Hid (Ext wr _) := hid x0
        have S0 := HFS.out _ x0
        have HCI := hid (CI.out _ x0)
        clear fp hA hT hT2 hTN fx fi hBC hB hC hU hV hUV fc hD hX hTX fr2 hE fb hF hYZ hpow hleft hprod hright hn htl htc hnL hnR hnl1 hnc1 hg hN hSl hSc hSp hlc hcc x0 CT0 CT20
        go_wp2
        first
          | go_region_held3 (fun Y => Y.cell? ⟨bl, ol + k, none⟩ = some (.slice all nl1 cll) ∧ Y.cell? ⟨W.heap.size, 0, none⟩ = some (.slice (some ⟨bp, op, none⟩) m cp) ∧ Y.cell? ⟨bp, op + k, none⟩ = some (.int .i64 (N : Nat)) ∧ Y.cell? ⟨W.heap.size, 1, none⟩ = some (.slice (some ⟨bc, oc, none⟩) m cc') ∧ Y.cell? ⟨bc, oc + k, none⟩ = some (.slice acc nc1 ccc)) (first | exact S0 | exact S1 | exact S2)
              (first
            | (go_at_call 38; refine HCI.out.mono ?_
               rintro e u1 ⟨x1, rfl, hp1', hx1⟩; have HX1 := hid (HX0'.out.trans hx1); have S1 := HFS.out _ HX1.out; have HC2 := hid (CP.out u1 x1 hp1'); have qf := hp1'.form; obtain ⟨a1, c1, rfl⟩ := qf; obtain ⟨n1, hn1⟩ : ∃ n, n = (initP (ls.getD k [])).length := ⟨_, rfl⟩; rw [← hn1] at HC2; rw [← hn1]; clear hp1' hx1 hn1)
            | (go_at_call 37; refine HC2.out.mono ?_
               rintro e u2 ⟨x2, rfl, hp2', hx2⟩; have HX2 := hid (HX1.out.trans hx2); have S2 := HFS.out _ HX2.out; have HC3 := hid (CT.out u2 x2 HX2.out hp2'); have qf := hp2'.form; obtain ⟨a2, c2, rfl⟩ := qf; obtain ⟨n2, hn2⟩ : ∃ n, n = (is k).length := ⟨_, rfl⟩; rw [← hn2] at HC3; rw [← hn2]; clear hp2' hx2 hn2))
          | fail
        all_goals
          go_wp2_with fail
          with_reducible refine HC3.out.mono ?_
          rintro e w3 ⟨x3, rfl, hp3, hx3⟩
          have HX3 := hid (HX2.out.trans hx3)
          have HP3 := hid hp3
          obtain ⟨a3, c3, rfl⟩ := hp3.form
          obtain ⟨n3, hn3⟩ : ∃ n, n = (xs (k + 1)).1.length := ⟨_, rfl⟩
          rw [← hn3] at HP3 ⊢
          have x0 := Below.drew (Ext.refl w3)
          have HX3' := hid (HX3.out.trans x0)
          have HY3 : Hid (Ext w3 _) := hid x0
          have S3 := HFS.out _ HX3'.out
          have HC4 := hid (CT2.out _ HX3'.out)
          clear hp3 hx3 hn3 x0 S0
          go_wp2
          first
            | go_region_held3 (fun Y => Y.cell? ⟨bl, ol + k, none⟩ = some (.slice all nl1 cll) ∧ Y.cell? ⟨W.heap.size, 0, none⟩ = some (.slice (some ⟨bp, op, none⟩) m cp) ∧ Y.cell? ⟨bp, op + k, none⟩ = some (.int .i64 (N : Nat)) ∧ Y.cell? ⟨W.heap.size, 1, none⟩ = some (.slice (some ⟨bc, oc, none⟩) m cc') ∧ Y.cell? ⟨bc, oc + k, none⟩ = some (.slice acc nc1 ccc)) (first | exact S3 | exact S4)
                (first
              | (go_at_call 39; refine HC4.out.mono ?_
                 rintro e u4 ⟨x4, rfl, hp4, hx4⟩; have HX4 := hid (HX3'.out.trans hx4); have HY4 := hid (HY3.out.trans hx4); have S4 := HFS.out _ HX4.out; have HC5 := hid (CA.out u4 x4 HX4.out hp4); have qf := hp4.form; obtain ⟨a4, c4, rfl⟩ := qf; obtain ⟨n4, hn4⟩ : ∃ n, n = (bs k).length := ⟨_, rfl⟩; rw [← hn4] at HC5; rw [← hn4]; clear hp4 hx4 hn4))
            | fail
          all_goals
            go_wp2_with fail
            with_reducible refine HC5.out.mono ?_
            rintro e w5 ⟨x5, rfl, hp5, hx5⟩
            have HX5 := hid (HX4.out.trans hx5)
            have HY5 := hid (HY4.out.trans hx5)
            have HP5 := hid hp5
            obtain ⟨a5, c5, rfl⟩ := hp5.form
            obtain ⟨n5, hn5⟩ : ∃ n, n = (normP ((xs k).2 ++ bs k)).length := ⟨_, rfl⟩
            rw [← hn5] at HP5 ⊢
            clear hp5 hx5 hn5
            go_wp2
            go_roundw
            case rel =>
              refine ⟨k + 1, hkj, by go_num, HG.out.trans HX5.out, hid ?_, hid ?_⟩
              · exact RTs.on HP3.out HY5.out
              · rw [HR1.out]
                exact HP5.out
            case measure => simp only [intOf]; omega
      · obtain rfl : k = j := by omega
        have HB := hid (HBAD.out (by rw [← HM.out]; exact hlt))
        have HE := hid (HRES2.out hlt)
        generalize ns.getD k 0 = nk at HB hcell hi1 hi2
        clear htl htc hlc hcc hg
        rcases HB.out with hb | hb
        · have q2 : decide (nk < 0) = true := decide_eq_true hb
          go_wp2
          all_goals
            go_ret
            exact ⟨by rw [HE.out]; rfl, HXW.out⟩
        · have q2 : decide (nk < 0) = false := decide_eq_false (by omega)
          have q3 : decide (100 < nk) = true := decide_eq_true hb
          go_wp2
          all_goals
            go_ret
            exact ⟨by rw [HE.out]; rfl, HXW.out⟩
    · obtain rfl : k = j := by omega
      have CS1 := hid (rz_poly HLk.out HFE1.out.1 HFE1.out.2.1 HFE1.out.2.2)
      have CS2 := hid (fun (Y : World) (hY : Ext wr Y) => rz_poly (RTs.on HRk.out hY) HFE2.out.1 HFE2.out.2.1 HFE2.out.2.2)
      have HE := hid (HRES.out _ rfl hlt)
      obtain ⟨aL, cL, rfl⟩ := HLk.out.form
      obtain ⟨aR, cR, rfl⟩ := HRk.out.form
      obtain ⟨nL, hnL⟩ : ∃ n, n = (xs k).1.length := ⟨_, rfl⟩
      obtain ⟨nR, hnR⟩ : ∃ n, n = (xs k).2.length := ⟨_, rfl⟩
      rw [← hnL] at CS1 ⊢
      rw [← hnR] at CS2 ⊢
      clear hnL hnR hg j0 j1
      go_wp2_with fail
      with_reducible refine CS1.out.mono ?_
      rintro e w6 ⟨v6, rfl, hp6, hx6⟩
      have HX6 := hid hx6
      have HP6 := hid hp6
      clear hp6 hx6
      obtain ⟨a6, c6, rfl⟩ := HP6.out.form
      obtain ⟨n6, hn6⟩ : ∃ n, n = (ofP (xs k).1).length := ⟨_, rfl⟩
      rw [← hn6] at HP6 ⊢
      clear hn6
      go_wp2_with fail
      with_reducible refine (CS2.out _ HX6.out).mono ?_
      rintro e w7 ⟨v7, rfl, hp7, hx7⟩
      have HX7 := hid (HX6.out.trans hx7)
      have e9 : decide (ofP (xs k).1 = ofP (xs k).2) = decide ((xs k).1 = (xs k).2) := by
        by_cases g : (xs k).1 = (xs k).2
        · rw [decide_eq_true g, decide_eq_true (congrArg ofP g)]
        · rw [decide_eq_false g, decide_eq_false (fun e => g (by rw [← toP_ofP (xs k).1, e, toP_ofP]))]
      have CS := rpoly_same _ _ _ _ w7 (Terms.on HP6.out hx7) hp7 (fun _ h => h)
      rw [e9] at CS
      have HCS := hid CS
      obtain ⟨a7, c7, rfl⟩ := hp7.form
      obtain ⟨n7, hn7⟩ : ∃ n, n = (ofP (xs k).2).length := ⟨_, rfl⟩
      rw [← hn7] at HCS ⊢
      clear hp7 hx7 hn7 e9 CS
      go_wp2_with fail
      with_reducible refine HCS.out.mono ?_
      rintro e w9 ⟨rfl, hx9⟩
      have HX9 := hid (HX7.out.trans hx9)
      clear hx9
      go_wp2
      all_goals
        go_ret
        exact ⟨by rw [HE.out]; rfl, HXW.out.trans HX9.out⟩
end Go.Proofs.YthdcaablomgboaaGreat

namespace Go.Proofs.YthdcaablomgboaaGreat
open Go.RowKit

/-- do the lengths meet, and may all be -/
def shapeC (fs : List RTerm) (ls : List (List RTerm)) (ns : List Int) (cs : List (List RTerm)) (rs : List RTerm) : Bool :=
  decide (ns.length = ls.length) && decide (cs.length = ls.length) && ls.all mayT && cs.all mayT && mayT fs && mayT rs

set_option maxRecDepth 100000 in
set_option maxHeartbeats 16000000 in
theorem chain_identity_no {W : World} {vf vl vp vc vr : Value} {fs rs : List RTerm} {ls cs : List (List RTerm)} {ns : List Int}
    (hf : Terms (Old W) W vf fs) (hl : Polys (Old W) W vl ls) (hp : Ints (Old W) W vp ns) (hc : Polys (Old W) W vc cs) (hr : Terms (Old W) W vr rs)
    (sf : smallT fs) (sr : smallT rs) (sl : smallL ls) (sc : smallL cs) (hno : shapeC fs ls ns cs rs = false) :
    Calls Tryz.prog 12 #[vf, vl, .agg #[vp, vc, vr]] W fun e W' => e = .returned (.bool false) ∧ Ext W W' := by
  have hnot : ∀ (x : Bool) (w : World), (Op.unary .not (.bool x)).run Tryz.prog w = .ok (.bool (!x)) w := fun _ _ => rfl
  have CA1 := fun (Y : World) (hY : Ext W Y) => chain_all (S := Old W) vl ls Y (hl.ext hY (fun _ h => h)) (fun k h => Nat.lt_of_lt_of_le h hY.size) sl
  have CA2 := fun (Y : World) (hY : Ext W Y) => chain_all (S := Old W) vc cs Y (hc.ext hY (fun _ h => h)) (fun k h => Nat.lt_of_lt_of_le h hY.size) sc
  have CM1 := fun (Y : World) (hY : Ext W Y) => poly_may (S := Old Y) vf fs Y (Terms.on hf hY) (fun _ h => h) sf
  have CM2 := fun (Y : World) (hY : Ext W Y) => poly_may (S := Old Y) vr rs Y (Terms.on hr hY) (fun _ h => h) sr
  unfold shapeC at hno
  generalize ls.all mayT = b1 at CA1 hno
  generalize cs.all mayT = b2 at CA2 hno
  generalize mayT fs = b3 at CM1 hno
  generalize mayT rs = b4 at CM2 hno
  have hll := hp.len_le
  have hlc := hc.len_le
  have hl1 := hl.len_le
  obtain ⟨af, cf, rfl⟩ := hf.form
  obtain ⟨ar, cr, rfl⟩ := hr.form
  obtain ⟨al, cl, rfl⟩ := hl.form
  obtain ⟨ap, cp, rfl⟩ := hp.form
  obtain ⟨ac, cc, rfl⟩ := hc.form
  generalize fs.length = nf at *
  generalize rs.length = nr at *
  generalize ls.length = nl at *
  generalize ns.length = np at *
  generalize cs.length = nc at *
  have HCA1 := hid CA1
  have HCA2 := hid CA2
  have HCM1 := hid CM1
  have HCM2 := hid CM2
  have HNO := hid hno
  have HXA := hid (Ext.alloc (Ext.refl W) (.cells #[.slice ap np cp, .slice ac nc cc, .slice ar nr cr] 27))
  have j0 : (W.alloc (.cells #[.slice ap np cp, .slice ac nc cc, .slice ar nr cr] 27)).cell? ⟨W.heap.size, 0, none⟩ = some (.slice ap np cp) := cell_new _ _ _ rfl rfl
  have j1 : (W.alloc (.cells #[.slice ap np cp, .slice ac nc cc, .slice ar nr cr] 27)).cell? ⟨W.heap.size, 1, none⟩ = some (.slice ac nc cc) := cell_new _ _ _ rfl rfl
  have j2 : (W.alloc (.cells #[.slice ap np cp, .slice ac nc cc, .slice ar nr cr] 27)).cell? ⟨W.heap.size, 2, none⟩ = some (.slice ar nr cr) := cell_new _ _ _ rfl rfl
  have HJ0 := hid (And.intro j0 (And.intro j1 j2))
  clear hf hl hp hc hr sf sr sl sc CA1 CA2 CM1 CM2 hno
  by_cases h1 : np = nl
  · subst h1
    have q1 : ((np : Int) != (np : Int)) = false := by rw [bne_eq_false_iff_eq]
    by_cases h2 : nc = np
    · subst h2
      cases b1 with
      | false =>
        go_enter Tryz.func12, Tryz.ntmps12
        go_wp2_with fail
        with_reducible refine (HCA1.out _ HXA.out).mono ?_
        rintro e w1 ⟨rfl, hx⟩
        have HX1 := hid (HXA.out.trans hx)
        have HJ1 := hid (And.intro (hx.cell HJ0.out.1) (And.intro (hx.cell HJ0.out.2.1) (hx.cell HJ0.out.2.2)))
        clear hx j0 j1 j2
        obtain ⟨j0, j1, j2⟩ := HJ1.out
        go_wp2
        all_goals
          go_ret
          exact ⟨rfl, HX1.out⟩
      | true =>
        cases b2 with
        | false =>
          go_enter Tryz.func12, Tryz.ntmps12
          go_wp2_with fail
          with_reducible refine (HCA1.out _ HXA.out).mono ?_
          rintro e w1 ⟨rfl, hx⟩
          have HX1 := hid (HXA.out.trans hx)
          have HJ1 := hid (And.intro (hx.cell HJ0.out.1) (And.intro (hx.cell HJ0.out.2.1) (hx.cell HJ0.out.2.2)))
          clear hx j0 j1 j2
          obtain ⟨j0, j1, j2⟩ := HJ1.out
          go_wp2_with fail
          with_reducible refine (HCA2.out _ HX1.out).mono ?_
          rintro e w2 ⟨rfl, hx⟩
          have HX2 := hid (HX1.out.trans hx)
          have HJ2 := hid (And.intro (hx.cell HJ1.out.1) (And.intro (hx.cell HJ1.out.2.1) (hx.cell HJ1.out.2.2)))
          clear hx j0 j1 j2
          obtain ⟨j0, j1, j2⟩ := HJ2.out
          go_wp2
          all_goals
            go_ret
            exact ⟨rfl, HX2.out⟩
        | true =>
          cases b3 with
          | false =>
            go_enter Tryz.func12, Tryz.ntmps12
            go_wp2_with fail
            with_reducible refine (HCA1.out _ HXA.out).mono ?_
            rintro e w1 ⟨rfl, hx⟩
            have HX1 := hid (HXA.out.trans hx)
            have HJ1 := hid (And.intro (hx.cell HJ0.out.1) (And.intro (hx.cell HJ0.out.2.1) (hx.cell HJ0.out.2.2)))
            clear hx j0 j1 j2
            obtain ⟨j0, j1, j2⟩ := HJ1.out
            go_wp2_with fail
            with_reducible refine (HCA2.out _ HX1.out).mono ?_
            rintro e w2 ⟨rfl, hx⟩
            have HX2 := hid (HX1.out.trans hx)
            have HJ2 := hid (And.intro (hx.cell HJ1.out.1) (And.intro (hx.cell HJ1.out.2.1) (hx.cell HJ1.out.2.2)))
            clear hx j0 j1 j2
            obtain ⟨j0, j1, j2⟩ := HJ2.out
            go_wp2_with fail
            with_reducible refine (HCM1.out _ HX2.out).mono ?_
            rintro e w3 ⟨rfl, hx⟩
            have HX3 := hid (HX2.out.trans hx)
            have HJ3 := hid (And.intro (hx.cell HJ2.out.1) (And.intro (hx.cell HJ2.out.2.1) (hx.cell HJ2.out.2.2)))
            clear hx j0 j1 j2
            obtain ⟨j0, j1, j2⟩ := HJ3.out
            go_wp2
            all_goals
              go_ret
              exact ⟨rfl, HX3.out⟩
          | true =>
            cases b4 with
            | false =>
              go_enter Tryz.func12, Tryz.ntmps12
              go_wp2_with fail
              with_reducible refine (HCA1.out _ HXA.out).mono ?_
              rintro e w1 ⟨rfl, hx⟩
              have HX1 := hid (HXA.out.trans hx)
              have HJ1 := hid (And.intro (hx.cell HJ0.out.1) (And.intro (hx.cell HJ0.out.2.1) (hx.cell HJ0.out.2.2)))
              clear hx j0 j1 j2
              obtain ⟨j0, j1, j2⟩ := HJ1.out
              go_wp2_with fail
              with_reducible refine (HCA2.out _ HX1.out).mono ?_
              rintro e w2 ⟨rfl, hx⟩
              have HX2 := hid (HX1.out.trans hx)
              have HJ2 := hid (And.intro (hx.cell HJ1.out.1) (And.intro (hx.cell HJ1.out.2.1) (hx.cell HJ1.out.2.2)))
              clear hx j0 j1 j2
              obtain ⟨j0, j1, j2⟩ := HJ2.out
              go_wp2_with fail
              with_reducible refine (HCM1.out _ HX2.out).mono ?_
              rintro e w3 ⟨rfl, hx⟩
              have HX3 := hid (HX2.out.trans hx)
              have HJ3 := hid (And.intro (hx.cell HJ2.out.1) (And.intro (hx.cell HJ2.out.2.1) (hx.cell HJ2.out.2.2)))
              clear hx j0 j1 j2
              obtain ⟨j0, j1, j2⟩ := HJ3.out
              go_wp2_with fail
              with_reducible refine (HCM2.out _ HX3.out).mono ?_
              rintro e w4 ⟨rfl, hx⟩
              have HX4 := hid (HX3.out.trans hx)
              have HJ4 := hid (And.intro (hx.cell HJ3.out.1) (And.intro (hx.cell HJ3.out.2.1) (hx.cell HJ3.out.2.2)))
              clear hx j0 j1 j2
              obtain ⟨j0, j1, j2⟩ := HJ4.out
              go_wp2
              all_goals
                go_ret
                exact ⟨rfl, HX4.out⟩
            | true =>
              exfalso
              have h := HNO.out
              simp at h
    · have q2 : ((nc : Int) != (np : Int)) = true := by rw [bne_iff_ne]; omega
      go_enter Tryz.func12, Tryz.ntmps12
      go_wp2
      all_goals
        go_ret
        exact ⟨rfl, HXA.out⟩
  · have q1 : ((np : Int) != (nl : Int)) = true := by rw [bne_iff_ne]; omega
    go_enter Tryz.func12, Tryz.ntmps12
    go_wp2
    all_goals
      go_ret
      exact ⟨rfl, HXA.out⟩
end Go.Proofs.YthdcaablomgboaaGreat

namespace Go.Proofs.YthdcaablomgboaaGreat
open Go.RowKit

def bigT16 (t : RTerm) : Bool := decide (3 < t.c.mag.length) || t.m.any fun x => decide (4 < x.2)
def big16 (ts : List RTerm) : Bool := greatT 6 ts || ts.any bigT16
def great16 (ls : List (List RTerm)) : Bool := ls.any big16 || decide (5 < ls.length)

set_option maxRecDepth 100000 in
set_option maxHeartbeats 16000000 in
theorem law16_great {W : World} {S : Nat → Prop} (v : Value) (ls : List (List RTerm)) (h : Polys S W v ls) (hS : ∀ k, S k → k < W.heap.size) :
    Calls Tryz.prog 8 #[v] W fun e w' => e = .returned (.bool (great16 ls)) ∧ Ext W w' := by
  have H := hid h
  have hll := h.len_le
  obtain ⟨a, cap, rfl⟩ := h.form
  obtain ⟨n, hnn⟩ : ∃ n, n = ls.length := ⟨_, rfl⟩
  rw [← hnn] at H hll ⊢
  have HN := hid hnn
  clear h hnn
  go_enter Tryz.func8, Tryz.ntmps8
  go_wp2
  go_loopw [9] (fun i wr => ∃ k : Nat, k ≤ n ∧ i = .int .i64 k ∧ Ext W wr ∧ Hid ((ls.take k).any big16 = false)) (fun i _ => n - (intOf i).toNat)
  case atStart => exact ⟨0, Nat.zero_le _, rfl, Ext.refl _, hid rfl⟩
  case round =>
    obtain ⟨k, hk, rfl, hx, HA⟩ := hrel
    have HX := hid hx
    by_cases hlt : k < n
    · obtain ⟨p, hp⟩ := some_of_lt (l := ls) (j := k) (by rw [← HN.out]; exact hlt)
      obtain ⟨bl, off, vp, rfl, -, hn1, hm1, hSb, h1, h2⟩ := (H.out.ext hx hS).cellAt hp
      have HTP : Hid (ls.take (k + 1) = ls.take k ++ [p]) := hid (by rw [List.take_add_one, hp]; rfl)
      have HQP := hid (List.mem_of_getElem? hp)
      have HSX := hid (lt_ext hS hx)
      have hlp := h2.len_le
      have C := rpoly_great (S := S) vp p 6 wr h2 HSX.out (by omega)
      have HV := hid h2
      obtain ⟨ap, cp, rfl⟩ := h2.form
      obtain ⟨np, hnp⟩ : ∃ n, n = p.length := ⟨_, rfl⟩
      rw [← hnp] at HV C h1 hlp
      have HNP := hid hnp
      clear h2 hp hx hnp
      cases hg : greatT 6 p with
      | true =>
        rw [hg] at C
        have HFT : Hid (great16 ls = true) := hid (by unfold great16; rw [List.any_eq_true.2 ⟨p, HQP.out, by unfold big16; rw [hg]; rfl⟩]; rfl)
        have HC := hid C
        clear C hg
        go_wp2_with fail
        with_reducible refine HC.out.mono ?_
        rintro e w1 ⟨rfl, hx1⟩
        have HX1 := hid (HX.out.trans hx1)
        clear hx1
        go_wp2
        all_goals
          go_ret
          exact ⟨by rw [HFT.out]; rfl, HX1.out⟩
      | false =>
        rw [hg] at C
        have HG : Hid (greatT 6 p = false) := hid hg
        have HC := hid C
        clear C hg
        go_wp2_with fail
        with_reducible refine HC.out.mono ?_
        rintro e w1 ⟨rfl, hx1⟩
        have HX1 := hid (HX.out.trans hx1)
        have HX1' := hid hx1
        clear hx1
        go_wp2
        go_loopw [17] (fun i wy => ∃ k : Nat, k ≤ np ∧ i = .int .i64 k ∧ Ext w1 wy ∧ Hid ((p.take k).any bigT16 = false)) (fun i _ => np - (intOf i).toNat)
        case atStart => exact ⟨0, Nat.zero_le _, rfl, Ext.refl _, hid rfl⟩
        case round =>
          obtain ⟨j, hj, rfl, hx, HM⟩ := hrel
          have HXY := hid (HX1.out.trans hx)
          have HXR := hid hx
          by_cases hltj : j < np
          · obtain ⟨t, ht⟩ := some_of_lt (l := p) (j := j) (by rw [← HNP.out]; exact hltj)
            obtain ⟨b, offt, vm, vo, rfl, -, hq1, hmm1, hSbt, h1', h2, h3, h4, h5⟩ := (HV.out.to (S' := Old wr) (Kept.ext (HX1'.out.trans hx) HSX.out) (fun k hk => Nat.lt_of_lt_of_le (HSX.out k hk) (HX1'.out.trans hx).size)).cellAt ht
            have HT : Hid (p.take (j + 1) = p.take j ++ [t]) := hid (by rw [List.take_add_one, ht]; rfl)
            have HQ := hid (List.mem_of_getElem? ht)
            have hl1 := h4.len_le
            have hl2 := h5.len_le
            have H5 := hid h5
            obtain ⟨am, cm, rfl⟩ := h4.form
            obtain ⟨ao, co, rfl⟩ := h5.form
            obtain ⟨x1, hx1⟩ : ∃ n, n = t.c.mag.length := ⟨_, rfl⟩
            obtain ⟨y1, hy1⟩ : ∃ n, n = t.m.length := ⟨_, rfl⟩
            have HX1'' := hid hx1
            have HY1 := hid hy1
            rw [← hx1] at h2 hl1
            rw [← hy1] at h3 hl2 H5
            have HC3 := hid h3
            clear hx ht h1' h4 h5 hx1 hy1
            by_cases hbig : 3 < x1
            · have HFT : Hid (great16 ls = true) := hid (by unfold great16; rw [List.any_eq_true.2 ⟨p, HQP.out, by unfold big16; rw [List.any_eq_true.2 ⟨t, HQ.out, by unfold bigT16; rw [← HX1''.out, decide_eq_true hbig]; rfl⟩, Bool.or_true]⟩]; rfl)
              go_wp2
              all_goals
                go_ret
                exact ⟨by rw [HFT.out]; rfl, HXY.out⟩
            · have HNB : Hid (decide (3 < t.c.mag.length) = false) := hid (by rw [← HX1''.out]; exact decide_eq_false hbig)
              have hle : (x1 : Int) ≤ 3 := by omega
              clear hbig
              go_wp2
              go_loopw [34] (fun j wx => ∃ m : Nat, m ≤ y1 ∧ j = .int .i64 m ∧ Ext wr wx ∧ Hid ((t.m.take m).any (fun x => decide (4 < x.2)) = false)) (fun j _ => y1 - (intOf j).toNat)
              case atStart => exact ⟨0, Nat.zero_le _, rfl, Ext.refl _, hid rfl⟩
              case round =>
                obtain ⟨m, hm, rfl, hx2, HM2⟩ := hrel
                have HX2 := hid (HXY.out.trans hx2)
                have HX2' := hid hx2
                have g3 := hx2.cell HC3.out
                by_cases hlt2 : m < y1
                · obtain ⟨z, hz⟩ := some_of_lt (l := t.m) (j := m) (by rw [← HY1.out]; exact hlt2)
                  obtain ⟨bo, oo, rfl, -, hn2, hm2, -, ⟨hz0, hz1⟩, k1, k2⟩ := (Pows.on H5.out hx2).cellAt hz
                  have HZ : Hid (t.m.take (m + 1) = t.m.take m ++ [z]) := hid (by rw [List.take_add_one, hz]; rfl)
                  have HZQ := hid (List.mem_of_getElem? hz)
                  obtain ⟨z2, hz2⟩ : ∃ n, n = z.2 := ⟨_, rfl⟩
                  have HZ2 := hid hz2
                  rw [← hz2] at k2 hz1
                  obtain ⟨hz3, hz4⟩ := hz1
                  clear hz hx2 k1 hz0 hz2
                  by_cases hb2 : 4 < z2
                  · have HFT : Hid (great16 ls = true) := hid (by
                      unfold great16
                      rw [List.any_eq_true.2 ⟨p, HQP.out, ?_⟩]
                      · rfl
                      unfold big16
                      rw [List.any_eq_true.2 ⟨t, HQ.out, ?_⟩, Bool.or_true]
                      unfold bigT16
                      rw [List.any_eq_true.2 ⟨z, HZQ.out, by rw [← HZ2.out]; exact decide_eq_true hb2⟩, Bool.or_true])
                    go_wp2
                    all_goals
                      go_ret
                      exact ⟨by rw [HFT.out]; rfl, HX2.out⟩
                  · have hle2 : z2 ≤ 4 := by omega
                    have HND : Hid (decide (4 < z.2) = false) := hid (by rw [← HZ2.out]; exact decide_eq_false hb2)
                    clear hb2
                    go_wp2
                    go_roundw
                    case rel => exact ⟨m + 1, by omega, by go_num, HX2'.out, hid (by rw [HZ.out, List.any_append, HM2.out]; simp only [List.any_cons, List.any_nil, HND.out]; rfl)⟩
                    case measure => simp only [intOf]; omega
                · obtain rfl : m = y1 := by omega
                  have HNE : Hid (t.m.any (fun x => decide (4 < x.2)) = false) := hid (by have := HM2.out; rw [HY1.out, List.take_length] at this; exact this)
                  clear hx2
                  go_wp2
                  go_roundw
                  case rel => exact ⟨j + 1, by omega, by go_num, HXR.out.trans HX2'.out, hid (by rw [HT.out, List.any_append, HM.out]; simp only [List.any_cons, List.any_nil, bigT16, HNB.out, HNE.out]; rfl)⟩
                  case measure => simp only [intOf]; omega
          · obtain rfl : j = np := by omega
            have HPE : Hid (big16 p = false) := hid (by unfold big16; have := HM.out; rw [HNP.out, List.take_length] at this; rw [this, HG.out]; rfl)
            clear hx
            go_wp2
            go_roundw
            case rel => exact ⟨k + 1, by omega, by go_num, HXY.out, hid (by rw [HTP.out, List.any_append, HA.out]; simp only [List.any_cons, List.any_nil, HPE.out]; rfl)⟩
            case measure => simp only [intOf]; omega
    · obtain rfl : k = n := by omega
      have HFE : Hid (great16 ls = decide ((k : Int) > 5)) := hid (by unfold great16; have := HA.out; rw [HN.out, List.take_length] at this; rw [this, ← HN.out, Bool.false_or]; exact decide_eq_decide.2 (by omega))
      clear hx
      go_wp2
      all_goals
        go_ret
        exact ⟨by rw [HFE.out]; rfl, HX.out⟩
end Go.Proofs.YthdcaablomgboaaGreat

namespace Go.Proofs.YthdcaablomgboaaGreat
open Go.RowKit

theorem fit16 {ts : List RTerm} (h : big16 ts = false) : ts.length ≤ 6 ∧ ∀ t ∈ ts, t.c.mag.length ≤ 3 ∧ ∀ y ∈ t.m, y.2 ≤ 4 := by
  unfold big16 at h
  rw [Bool.or_eq_false_iff] at h
  obtain ⟨h1, h2⟩ := h
  have h3 := great_fit (n := 6) h1
  refine ⟨h3.1, fun t ht => ?_⟩
  have h4 := (List.any_eq_false.1 h2) t ht
  unfold bigT16 at h4
  rw [Bool.not_eq_true, Bool.or_eq_false_iff] at h4
  refine ⟨by have := h4.1; rw [decide_eq_false_iff_not] at this; omega, fun y hy => ?_⟩
  have := (List.any_eq_false.1 h4.2) y hy
  rw [decide_eq_true_eq] at this
  omega
theorem small16 {ts : List RTerm} (h : big16 ts = false) : smallT ts := fun t ht => Nat.le_trans ((fit16 h).2 t ht).1 (by decide)
theorem fitT16 {ts : List RTerm} (h : big16 ts = false) : fitT ts := ⟨fun t ht => Nat.le_trans ((fit16 h).2 t ht).1 (by decide), Nat.le_trans (fit16 h).1 (by decide)⟩
theorem plain16 {ts : List RTerm} (hok : okT ts) (h : big16 ts = false) : Fit 3 6 (plainP ts) ∧ exB 4 (plainP ts) := by
  have h1 := fit16 h
  refine ⟨fit_plain hok (fun t ht => (h1.2 t ht).1) h1.1, fun t ht u => ?_⟩
  unfold plainP at ht
  split at ht
  · obtain ⟨y, hy, rfl⟩ := List.mem_map.1 ht
    exact ex_le (by decide) (h1.2 y hy).2 u
  · simp at ht
theorem great16_no {ls : List (List RTerm)} (h : great16 ls = false) : (∀ p ∈ ls, big16 p = false) ∧ ls.length ≤ 5 := by
  unfold great16 at h
  rw [Bool.or_eq_false_iff] at h
  refine ⟨fun p hp => by have := (List.any_eq_false.1 h.1) p hp; rwa [Bool.not_eq_true] at this, ?_⟩
  have := h.2
  rw [decide_eq_false_iff_not] at this
  omega
end Go.Proofs.YthdcaablomgboaaGreat

namespace Go.Proofs.YthdcaablomgboaaGreat
open Go.RowKit

set_option maxRecDepth 100000 in
set_option maxHeartbeats 8000000 in
theorem ref_identity_no {W : World} {af al ap ac ar : Option Addr} {nf cf nl cl np cp nc cc nr cr : Nat} (hno : ¬ (np = nl ∧ nc = nl)) :
    Calls Tryz.prog 11 #[.slice af nf cf, .slice al nl cl, .agg #[.slice ap np cp, .slice ac nc cc, .slice ar nr cr]] W fun e W' => e = .returned (.bool false) ∧ Ext W W' := by
  have j0 : (W.alloc (.cells #[.slice ap np cp, .slice ac nc cc, .slice ar nr cr] 37)).cell? ⟨W.heap.size, 0, none⟩ = some (.slice ap np cp) := cell_new _ _ _ rfl rfl
  have j1 : (W.alloc (.cells #[.slice ap np cp, .slice ac nc cc, .slice ar nr cr] 37)).cell? ⟨W.heap.size, 1, none⟩ = some (.slice ac nc cc) := cell_new _ _ _ rfl rfl
  have HX := hid (Ext.alloc (Ext.refl W) (.cells #[.slice ap np cp, .slice ac nc cc, .slice ar nr cr] 37))
  by_cases h1 : np = nl
  · have h2 : nc ≠ nl := fun h => hno ⟨h1, h⟩
    subst h1
    have q1 : ((np : Int) != (np : Int)) = false := by rw [bne_eq_false_iff_eq]
    have q2 : ((nc : Int) != (np : Int)) = true := by rw [bne_iff_ne]; omega
    clear hno h2
    go_enter Tryz.func11, Tryz.ntmps11
    go_wp2
    all_goals
      go_ret
      exact ⟨rfl, HX.out⟩
  · have q1 : ((np : Int) != (nl : Int)) = true := by rw [bne_iff_ne]; omega
    clear hno h1
    go_enter Tryz.func11, Tryz.ntmps11
    go_wp2
    all_goals
      go_ret
      exact ⟨rfl, HX.out⟩
end Go.Proofs.YthdcaablomgboaaGreat
