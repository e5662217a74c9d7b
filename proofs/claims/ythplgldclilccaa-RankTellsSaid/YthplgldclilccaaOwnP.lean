/- A slice of the call's own that has grown: what it holds, as powers. -/
import Derived.Test.YthplgldclilccaaMonoDeg
namespace Go.Proofs.Ythplgldclilccaa
open Go.RowKit

def flatP (m : Mono) : List Value := m.flatMap fun x => [.int .i64 x.1, .int .i64 x.2]
theorem flatP_append (m k : Mono) : flatP (m ++ k) = flatP m ++ flatP k := by simp [flatP]
theorem flatP_length (m : Mono) : (flatP m).length = m.length * 2 := by
  induction m with
  | nil => rfl
  | cons x r ih =>
    show (Value.int .i64 x.1 :: Value.int .i64 x.2 :: flatP r).length = _
    simp only [List.length_cons, ih]
    omega
theorem flatP_get {m : Mono} {j : Nat} {x : Int × Int} (h : m[j]? = some x) : (flatP m)[j * 2]? = some (.int .i64 x.1) ∧ (flatP m)[j * 2 + 1]? = some (.int .i64 x.2) := by
  induction m generalizing j with
  | nil => simp at h
  | cons y r ih =>
    have e : flatP (y :: r) = Value.int .i64 y.1 :: Value.int .i64 y.2 :: flatP r := rfl
    rw [e]
    cases j with
    | zero =>
      simp at h
      subst h
      exact ⟨rfl, rfl⟩
    | succ j =>
      have := ih (j := j) (by simpa using h)
      rw [show (j + 1) * 2 = j * 2 + 1 + 1 by omega]
      simpa using this

theorem own_pows {w : World} {base : Nat} {e : TypeId} {v : Value} {m : Mono} (h : w.ownsRow base e 2 v m.length (flatP m)) (hb : inBounds m) : Pows (fun k => base ≤ k ∧ k < w.heap.size) w v m := by
  have hlt := h.lt
  rcases h.2 with ⟨rfl, h0⟩ | ⟨g, cap, cur, rfl, hg, hh, h1, h2, h3, h4⟩
  · obtain rfl : m = [] := List.length_eq_zero_iff.1 h0
    exact Pows.empty _ _ _
  · refine ⟨g, 0, ⟨_, cap, rfl, h1, h2, fun _ => rfl, fun _ => hlt g rfl⟩, fun j x hj => ⟨hb x (List.mem_of_getElem? hj), ?_, ?_⟩⟩
    · rw [h.cellAt (0 + j * 2) (by have := lt_of_some hj; omega), Nat.zero_add]
      exact (flatP_get hj).1
    · rw [h.cellAt (0 + j * 2 + 1) (by have := lt_of_some hj; omega), Nat.zero_add]
      exact (flatP_get hj).2

theorem ext_grown {a w w' : World} {row : Option Nat} (h : Ext a w) (hg : w.grownBy w' row) (hr : ∀ k, row = some k → a.heap.size ≤ k) : Ext a w' :=
  ⟨hg.os.trans h.os, hg.tape.trans h.tape, hg.output.trans h.output, Nat.le_trans h.size hg.size,
    fun k hk => (hg.block k (Nat.lt_of_lt_of_le hk h.size) (fun e => by have := hr k e.symm; omega)).trans (h.block k hk)⟩

theorem mayTail_len {last : Int} {m : Mono} (h : mayTail last m = true) (h0 : 0 ≤ last) (h2 : last ≤ 200) : (m.length : Int) ≤ 200 - last := by
  induction m generalizing last with
  | nil => simp; omega
  | cons x r ih =>
    simp only [mayTail, Bool.and_eq_true, decide_eq_true_eq] at h
    have := ih h.2 (by omega) (by omega)
    simp only [List.length_cons]
    omega
theorem mayM_len {m : Mono} (h : mayM m = true) : m.length ≤ 200 := by
  have := mayTail_len h (by omega) (by omega)
  omega
theorem plainM_len (m : Mono) : (plainM m).length ≤ 200 := by
  unfold plainM
  split
  · rename_i h
    exact mayM_len h
  · simp
end Go.Proofs.Ythplgldclilccaa
