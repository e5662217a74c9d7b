/- What slices of limbs, powers, terms and polynomials hold in memory, and that it stays where memory only grows. -/
import Derived.Test.YthplgldclilccaaProg
import Derived.WalkKit
import Derived.Laws.NewBlocks
namespace Go.Proofs.Ythplgldclilccaa
open Go.RowKit

/-- a fact kept from the walk -/
theorem hid {p : Prop} (h : p) : Hid p := h

/-- memory has only grown -/
abbrev Ext (w w' : World) : Prop := Below w.heap.size w w'

theorem Ext.trans {a b c : World} (h : Ext a b) (k : Ext b c) : Ext a c := Below.trans h (Below.mono k h.size)
theorem Ext.refl (w : World) : Ext w w := Below.refl _ _
theorem Ext.alloc {a w : World} (h : Ext a w) (o : Obj) : Ext a (w.alloc o) := Below.alloc h h.size o

theorem lt_of_cell {w : World} {b i : Nat} {v : Value} (h : w.cell? ⟨b, i, none⟩ = some v) : b < w.heap.size := World.block_lt_of_cell? w _ h

theorem Ext.cell {w w' : World} (h : Ext w w') {b i : Nat} {v : Value} (hc : w.cell? ⟨b, i, none⟩ = some v) : w'.cell? ⟨b, i, none⟩ = some v :=
  (Below.cell h (p := ⟨b, i, none⟩) (lt_of_cell hc)).trans hc
theorem bcell' {B : Nat} {w w' : World} (h : Below B w w') {b i : Nat} {v : Value} (hb : b < B) (hc : w.cell? ⟨b, i, none⟩ = some v) : w'.cell? ⟨b, i, none⟩ = some v :=
  (Below.cell h (p := ⟨b, i, none⟩) hb).trans hc

theorem cell_new (w : World) (cs : Array Value) (T : TypeId) {b i : Nat} {v : Value} (hb : b = w.heap.size) (h : cs[i]? = some v) : (w.alloc (.cells cs T)).cell? ⟨b, i, none⟩ = some v := by
  subst hb
  unfold World.cell?
  rw [heap_alloc_new]
  simpa using h
theorem cell_old {w : World} (o : Obj) {b i : Nat} {v : Value} (hc : w.cell? ⟨b, i, none⟩ = some v) : (w.alloc o).cell? ⟨b, i, none⟩ = some v := Ext.cell (Ext.alloc (Ext.refl w) o) hc
theorem free_old {w : World} (o : Obj) {b i : Nat} (hb : b < w.heap.size) (hf : w.frozen? ⟨b, i, none⟩ = false) : (w.alloc o).frozen? ⟨b, i, none⟩ = false := (Below.frozen (Ext.alloc (Ext.refl w) o) (p := ⟨b, i, none⟩) hb).trans hf
theorem free_set {w : World} {a c : Addr} {u : Value} (hf : w.frozen? c = false) : (w.setCell a u).frozen? c = false := by simp [hf]
theorem same_of {w : World} {a : Addr} {u v : Value} (h : w.cell? a = some u) : (w.setCell a v).cell? a = some v := World.cell?_setCell_same w a v h
theorem other {w : World} {a : Addr} {u v : Value} {c : Addr} (h : w.cell? c = some u) (hne : a ≠ c) : (w.setCell a v).cell? c = some u := (World.cell?_setCell_other w a c v hne).trans h
theorem ao {b i j : Nat} (h : i ≠ j) : (⟨b, i, none⟩ : Addr) ≠ ⟨b, j, none⟩ := fun e => h (congrArg Addr.off e)
theorem ab {b c i j : Nat} (h : b ≠ c) : (⟨b, i, none⟩ : Addr) ≠ ⟨c, j, none⟩ := fun e => h (congrArg Addr.block e)
theorem free_new (w : World) (cs : Array Value) (T : TypeId) {i : Nat} : (w.alloc (.cells cs T)).frozen? ⟨w.heap.size, i, none⟩ = false := by
  unfold World.frozen?
  rw [heap_alloc_new]
  simp
theorem size_setCell (w : World) (a : Addr) (u : Value) : (w.setCell a u).heap.size = w.heap.size := by simp [World.setCell]
theorem size_alloc (w : World) (o : Obj) : (w.alloc o).heap.size = w.heap.size + 1 := by simp

theorem Ext.free {w w' : World} (h : Ext w w') {b i : Nat} (hb : b < w.heap.size) (hf : w.frozen? ⟨b, i, none⟩ = false) : w'.frozen? ⟨b, i, none⟩ = false := (Below.frozen h (p := ⟨b, i, none⟩) hb).trans hf

/-- data as they lie in memory: a number with its sign, a term -/
structure RInt where
  neg : Bool
  mag : List Nat
  deriving DecidableEq, Inhabited
structure RTerm where
  c : RInt
  m : List (Int × Int)
  deriving DecidableEq, Inhabited

/-- the blocks of S are in w' as they were in w -/
def Kept (S : Nat → Prop) (w w' : World) : Prop := ∀ k, S k → w'.heap[k]? = w.heap[k]?

theorem Kept.cell {S : Nat → Prop} {w w' : World} (h : Kept S w w') {b i : Nat} {v : Value} (hb : S b) (hc : w.cell? ⟨b, i, none⟩ = some v) : w'.cell? ⟨b, i, none⟩ = some v :=
  (World.cell?_of_block (w := w) (h b hb)).trans hc
theorem Kept.refl (S : Nat → Prop) (w : World) : Kept S w w := fun _ _ => rfl
theorem Kept.trans {S : Nat → Prop} {a b c : World} (h : Kept S a b) (k : Kept S b c) : Kept S a c := fun i hi => (k i hi).trans (h i hi)
theorem Kept.of_below {B : Nat} {w w' : World} (h : Below B w w') : Kept (· < B) w w' := fun k hk => h.block k hk
theorem Kept.mono {S S' : Nat → Prop} {w w' : World} (h : Kept S w w') (hs : ∀ k, S' k → S k) : Kept S' w w' := fun k hk => h k (hs k hk)
theorem Kept.setCell {S : Nat → Prop} {w : World} {a : Addr} (h : ¬ S a.block) (u : Value) : Kept S w (w.setCell a u) :=
  fun _ hk => Below.heap_setCell _ _ _ _ (fun e => h (e ▸ hk))
theorem Kept.grown {S : Nat → Prop} {w w' : World} {row : Option Nat} (h : w.grownBy w' row) (hs : ∀ k, S k → k < w.heap.size ∧ some k ≠ row) : Kept S w w' :=
  fun k hk => h.block k (hs k hk).1 (hs k hk).2
theorem Kept.alloc {S : Nat → Prop} {w : World} (h : ∀ k, S k → k < w.heap.size) (o : Obj) : Kept S w (w.alloc o) := fun k hk => Below.heap_alloc _ _ _ (h k hk)

/-- A slice value of n elements, of a capacity, whose first cell lies in a block of S (any, if there is none). -/
def SliceAt (S : Nat → Prop) (v : Value) (n : Nat) (b off : Nat) : Prop :=
  ∃ a cap, v = .slice a n cap ∧ n ≤ cap ∧ cap ≤ maxLen ∧ (0 < n → a = some ⟨b, off, none⟩) ∧ (0 < n → S b)

def U32s (S : Nat → Prop) (w : World) (v : Value) (zs : List Nat) : Prop :=
  ∃ b off, SliceAt S v zs.length b off ∧ ∀ j z, zs[j]? = some z → z < 4294967296 ∧ w.cell? ⟨b, off + j, none⟩ = some (.int .u32 (z : Nat))

def Pows (S : Nat → Prop) (w : World) (v : Value) (ps : List (Int × Int)) : Prop :=
  ∃ b off, SliceAt S v ps.length b off ∧ ∀ j x, ps[j]? = some x → ((-9223372036854775808 ≤ x.1 ∧ x.1 ≤ 9223372036854775807) ∧ -9223372036854775808 ≤ x.2 ∧ x.2 ≤ 9223372036854775807) ∧
    w.cell? ⟨b, off + j * 2, none⟩ = some (.int .i64 x.1) ∧ w.cell? ⟨b, off + j * 2 + 1, none⟩ = some (.int .i64 x.2)

def Terms (S : Nat → Prop) (w : World) (v : Value) (ts : List RTerm) : Prop :=
  ∃ b off, SliceAt S v ts.length b off ∧ ∀ j t, ts[j]? = some t → ∃ vm vo, w.cell? ⟨b, off + j * 3, none⟩ = some (.bool t.c.neg) ∧
    w.cell? ⟨b, off + j * 3 + 1, none⟩ = some vm ∧ w.cell? ⟨b, off + j * 3 + 2, none⟩ = some vo ∧ U32s S w vm t.c.mag ∧ Pows S w vo t.m

def Polys (S : Nat → Prop) (w : World) (v : Value) (l : List (List RTerm)) : Prop :=
  ∃ b off, SliceAt S v l.length b off ∧ ∀ j p, l[j]? = some p → ∃ vp, w.cell? ⟨b, off + j, none⟩ = some vp ∧ Terms S w vp p

theorem lt_of_some {α : Type} {l : List α} {j : Nat} {x : α} (h : l[j]? = some x) : j < l.length := (List.getElem?_eq_some_iff.1 h).1
theorem some_of_lt {α : Type} {l : List α} {j : Nat} (h : j < l.length) : ∃ x, l[j]? = some x := ⟨l[j], List.getElem?_eq_getElem h⟩

theorem SliceAt.mono {S S' : Nat → Prop} {v : Value} {n b off : Nat} (h : SliceAt S v n b off) (hS : ∀ k, S k → S' k) : SliceAt S' v n b off := by
  obtain ⟨a, cap, h1, h2, h3, h4, h5⟩ := h
  exact ⟨a, cap, h1, h2, h3, h4, fun x => hS _ (h5 x)⟩

theorem SliceAt.in {S : Nat → Prop} {v : Value} {n b off : Nat} (h : SliceAt S v n b off) {j : Nat} (hj : j < n) : S b := by
  obtain ⟨a, cap, h1, h2, h3, h4, h5⟩ := h
  exact h5 (by omega)

theorem U32s.form {S : Nat → Prop} {w : World} {v : Value} {zs : List Nat} (h : U32s S w v zs) : ∃ a cap, v = .slice a zs.length cap := by
  obtain ⟨b, off, ⟨a, cap, h1, _⟩, _⟩ := h
  exact ⟨a, cap, h1⟩
theorem Pows.form {S : Nat → Prop} {w : World} {v : Value} {zs : List (Int × Int)} (h : Pows S w v zs) : ∃ a cap, v = .slice a zs.length cap := by
  obtain ⟨b, off, ⟨a, cap, h1, _⟩, _⟩ := h
  exact ⟨a, cap, h1⟩
theorem Terms.form {S : Nat → Prop} {w : World} {v : Value} {zs : List RTerm} (h : Terms S w v zs) : ∃ a cap, v = .slice a zs.length cap := by
  obtain ⟨b, off, ⟨a, cap, h1, _⟩, _⟩ := h
  exact ⟨a, cap, h1⟩

section
variable {S S' : Nat → Prop} {w w' : World} {v : Value}
theorem U32s.to {zs : List Nat} (h : U32s S w v zs) (hk : Kept S w w') (hS : ∀ k, S k → S' k) : U32s S' w' v zs := by
  obtain ⟨b, off, hs, hc⟩ := h
  exact ⟨b, off, hs.mono hS, fun j z hz => ⟨(hc j z hz).1, hk.cell (hs.in (lt_of_some hz)) (hc j z hz).2⟩⟩
theorem Pows.to {ps : List (Int × Int)} (h : Pows S w v ps) (hk : Kept S w w') (hS : ∀ k, S k → S' k) : Pows S' w' v ps := by
  obtain ⟨b, off, hs, hc⟩ := h
  exact ⟨b, off, hs.mono hS, fun j x hj => ⟨(hc j x hj).1, hk.cell (hs.in (lt_of_some hj)) (hc j x hj).2.1, hk.cell (hs.in (lt_of_some hj)) (hc j x hj).2.2⟩⟩
theorem Terms.to {ts : List RTerm} (h : Terms S w v ts) (hk : Kept S w w') (hS : ∀ k, S k → S' k) : Terms S' w' v ts := by
  obtain ⟨b, off, hs, hc⟩ := h
  refine ⟨b, off, hs.mono hS, fun j t hj => ?_⟩
  obtain ⟨vm, vo, h1, h2, h3, h4, h5⟩ := hc j t hj
  have hb := hs.in (lt_of_some hj)
  exact ⟨vm, vo, hk.cell hb h1, hk.cell hb h2, hk.cell hb h3, h4.to hk hS, h5.to hk hS⟩
theorem Polys.to {l : List (List RTerm)} (h : Polys S w v l) (hk : Kept S w w') (hS : ∀ k, S k → S' k) : Polys S' w' v l := by
  obtain ⟨b, off, hs, hc⟩ := h
  refine ⟨b, off, hs.mono hS, fun j p hj => ?_⟩
  obtain ⟨vp, h1, h2⟩ := hc j p hj
  exact ⟨vp, hk.cell (hs.in (lt_of_some hj)) h1, h2.to hk hS⟩
end
end Go.Proofs.Ythplgldclilccaa
