/- Limbs in memory: cut, read, made. -/
import Derived.Test.YthplgldclilccaaOwnP
import Derived.Test.YthplgldclilccaaNumStep
import Derived.Test.YthplgldclilccaaIntPlain
import Derived.Deep.OwnRows
import Derived.Laws.CopyOwn
namespace Go.Proofs.Ythplgldclilccaa
open Go.RowKit

/-- what is new since w -/
abbrev New (w w' : World) : Nat → Prop := fun k => w.heap.size ≤ k ∧ k < w'.heap.size

theorem Try.infoU32 : (Try.prog.info? 79).map (fun i => (i.zero, i.size, i.bytes)) = some (some (.int .u32 0), 1, 4) := by kernel_rfl

section
variable {S S' : Nat → Prop} {w w' : World} {v : Value}

theorem U32s.len_le {zs : List Nat} (h : U32s S w v zs) : zs.length ≤ 9223372036854775807 := by
  obtain ⟨b, off, ⟨a, cap, h1, h2, h3, _⟩, _⟩ := h
  unfold maxLen at h3
  omega
theorem U32s.lt {zs : List Nat} (h : U32s S w v zs) : ∀ z ∈ zs, z < B32 := by
  obtain ⟨b, off, hs, hc⟩ := h
  intro z hz
  obtain ⟨j, hj⟩ := List.getElem?_of_mem hz
  exact (hc j z hj).1
theorem U32s.at {zs : List Nat} {k z : Nat} (h : U32s S w v zs) (hz : zs[k]? = some z) :
    ∃ b off cap, v = .slice (some ⟨b, off, none⟩) zs.length cap ∧ zs.length ≤ cap ∧ cap ≤ 9223372036854775807 ∧ z < 4294967296 ∧ w.cell? ⟨b, off + k, none⟩ = some (.int .u32 (z : Nat)) := by
  obtain ⟨b, off, ⟨a, cap, rfl, h2, h3, h4, h5⟩, hc⟩ := h
  obtain rfl := h4 (by have := lt_of_some hz; omega)
  exact ⟨b, off, cap, rfl, h2, h3, hc k z hz⟩
theorem U32s.cellAt {zs : List Nat} {a : Option Addr} {n cap k z : Nat} (h : U32s S w (.slice a n cap) zs) (hz : zs[k]? = some z) :
    ∃ b off, a = some ⟨b, off, none⟩ ∧ n = zs.length ∧ n ≤ cap ∧ cap ≤ 9223372036854775807 ∧ S b ∧ z < 4294967296 ∧ w.cell? ⟨b, off + k, none⟩ = some (.int .u32 (z : Nat)) := by
  obtain ⟨b, off, ⟨a', cap', h1, h2, h3, h4, h5⟩, hc⟩ := h
  obtain ⟨rfl, rfl, rfl⟩ : a = a' ∧ n = zs.length ∧ cap = cap' := by simpa using h1
  have hp : 0 < zs.length := by have := lt_of_some hz; omega
  exact ⟨b, off, h4 hp, rfl, h2, h3, h5 hp, hc k z hz⟩
theorem U32s.take {zs : List Nat} {a : Option Addr} {n cap k : Nat} (h : U32s S w (.slice a n cap) zs) (hk : k ≤ n) : U32s S w (.slice a k cap) (zs.take k) := by
  obtain ⟨b, off, ⟨a', cap', h1, h2, h3, h4, h5⟩, hc⟩ := h
  obtain ⟨rfl, rfl, rfl⟩ : a = a' ∧ n = zs.length ∧ cap = cap' := by simpa using h1
  have hl : (zs.take k).length = k := by rw [List.length_take]; omega
  refine ⟨b, off, ⟨a, cap, by rw [hl], by omega, h3, fun h => h4 (by omega), fun h => h5 (by omega)⟩, fun j z hz => hc j z ?_⟩
  rw [List.getElem?_take] at hz
  split at hz
  · exact hz
  · simp at hz
theorem U32s.nilv (S : Nat → Prop) (w : World) (a : Option Addr) (cap : Nat) (h : cap ≤ 9223372036854775807) : U32s S w (.slice a 0 cap) [] :=
  ⟨0, 0, ⟨a, cap, rfl, Nat.zero_le _, by unfold maxLen; omega, fun h => absurd h (Nat.lt_irrefl _), fun h => absurd h (Nat.lt_irrefl _)⟩, fun j x hx => by simp at hx⟩

/-- a row of limbs, 0 behind those that are laid -/
def rowU (o : List Nat) : Nat → Value := fun j => .int .u32 (dg o j : Nat)
theorem rowU_snoc {T : TypeId} {n g : Nat} {o : List Nat} (h : w.rowIs g T n (rowU o)) (z : Nat) : (w.setCell ⟨g, o.length, none⟩ (.int .u32 (z : Nat))).rowIs g T n (rowU (o ++ [z])) := by
  refine (h.set o.length (.int .u32 (z : Nat))).congr (fun i hi => ?_)
  unfold rowU dg
  by_cases e : i = o.length
  · subst e
    simp
  · rw [if_neg e]
    by_cases hl : i < o.length
    · rw [List.getElem?_append_left hl]
    · rw [List.getElem?_eq_none (by omega), List.getElem?_eq_none (by simp; omega)]
theorem rowU_set {T : TypeId} {n g : Nat} {o : List Nat} (h : w.rowIs g T n (rowU o)) (k z : Nat) (hk : k < o.length) : (w.setCell ⟨g, k, none⟩ (.int .u32 (z : Nat))).rowIs g T n (rowU (o.set k z)) := by
  refine (h.set k (.int .u32 (z : Nat))).congr (fun i hi => ?_)
  unfold rowU dg
  rw [List.getElem?_set]
  by_cases e : i = k
  · subst e
    simp [hk]
  · rw [if_neg e, if_neg (fun h => e h.symm)]
theorem rowU_made (w : World) (n : Nat) (T : TypeId) : (w.alloc (.cells (madeCells #[.int .u32 0] n) T)).rowIs w.heap.size T n (rowU []) :=
  (World.rowIs_made w (.int .u32 0) n T).congr (fun i _ => by simp [rowU, dg])
theorem rowU_zeros (w : World) (n : Nat) (T : TypeId) : (w.alloc (.cells (madeCells #[.int .u32 0] n) T)).rowIs w.heap.size T n (rowU (List.replicate n 0)) :=
  (World.rowIs_made w (.int .u32 0) n T).congr (fun i hi => by simp [rowU, dg, hi])
def uval (z : Nat) : Value := .int .u32 (z : Nat)
theorem made_list (n : Nat) : madeCells #[Value.int .u32 0] n = (List.replicate n (Value.int .u32 0)).toArray := by
  apply Array.ext
  · simp [madeCells]
  · intro i h1 h2
    simp [madeCells, Nat.mod_one]
theorem U32s.of_block {T : TypeId} {g : Nat} {o : List Nat} (h : w.heap[g]? = some (.cells (o.map uval).toArray T (0, 0))) (hl : ∀ z ∈ o, z < B32) (hc : o.length ≤ 9223372036854775807) (a : Option Addr) (ha : 0 < o.length → a = some ⟨g, 0, none⟩) : U32s (fun k => k = g) w (.slice a o.length o.length) o := by
  refine ⟨g, 0, ⟨_, o.length, rfl, Nat.le_refl _, by unfold maxLen; omega, ha, fun _ => rfl⟩, fun j z hz => ⟨hl z (List.mem_of_getElem? hz), ?_⟩⟩
  rw [Nat.zero_add, cell_of_row w g j _ T (0, 0) h]
  simp [hz, uval]
theorem splice_all {α : Type} (L cs : List α) (h : L.length = cs.length) : splice L 0 cs = cs := by simp [splice, h]
theorem U32s.src {zs : List Nat} {a : Option Addr} {n cap : Nat} (h : U32s S w (.slice a n cap) zs) (hpos : 0 < (zs.map uval).length) : ∃ ad, a = some ad ∧ ∀ j v, (zs.map uval)[j]? = some v → w.cell? (ad.add j) = some v := by
  obtain ⟨b, off, ⟨a', cap', h1, h2, h3, h4, h5⟩, hc⟩ := h
  obtain ⟨rfl, rfl, rfl⟩ : a = a' ∧ n = zs.length ∧ cap = cap' := by simpa using h1
  refine ⟨_, h4 (by simpa using hpos), fun j v hv => ?_⟩
  rw [List.getElem?_map] at hv
  cases hz : zs[j]? with
  | none => simp [hz] at hv
  | some z =>
    obtain rfl : uval z = v := by simpa [hz] using hv
    rw [show (⟨b, off, none⟩ : Addr).add j = ⟨b, off + j, none⟩ by unfold Addr.add; split <;> simp_all]
    exact (hc j z hz).2

/-- a whole row as limbs -/
theorem U32s.of_row {T : TypeId} {g cap : Nat} {o : List Nat} (h : w.rowIs g T cap (rowU o)) (ho : o.length ≤ cap) (hl : ∀ z ∈ o, z < B32) (hc : cap ≤ 9223372036854775807) : U32s (fun k => k = g) w (.slice (some ⟨g, 0, none⟩) o.length cap) o := by
  refine ⟨g, 0, ⟨_, cap, rfl, ho, by unfold maxLen; omega, fun _ => rfl, fun _ => rfl⟩, fun j z hz => ⟨hl z (List.mem_of_getElem? hz), ?_⟩⟩
  have hj := lt_of_some hz
  rw [Nat.zero_add, h.cell (i := j) (by omega)]
  simp [rowU, dg, hz]
end
end Go.Proofs.Ythplgldclilccaa
