/- An array of all variables' exponents, by value and in memory. -/
import Derived.Test.YthplgldclilccaaOwnP
import Derived.Deep.WholeRow
import Derived.Deep.MidRow
import Derived.Deep.OwnRows
import Derived.ChangeKeysEq
namespace Go.Proofs.Ythplgldclilccaa
open Go.RowKit

def iv (f : Nat → Int) : Nat → Value := fun j => .int .i64 (f j)
def tabA (f : Nat → Int) : Array Value := ((List.range 201).map (iv f)).toArray
def arrV (f : Nat → Int) : Value := .agg (tabA f)

theorem tabA_size (f : Nat → Int) : (tabA f).size = 201 := by simp [tabA]
theorem tabA_get (f : Nat → Int) {i : Nat} (h : i < 201) : (tabA f)[i]? = some (iv f i) := by simp [tabA, h]
theorem tabA_one (f : Nat → Int) : (tabA f).all (·.oneCell') = true := by
  refine Array.all_eq_true_iff_forall_mem.2 (fun v hv => ?_)
  simp only [tabA, List.mem_toArray, List.mem_map] at hv
  obtain ⟨j, _, rfl⟩ := hv
  rfl
theorem tabA_of {c : Array Value} {f : Nat → Int} (hs : c.size = 201) (h : ∀ i, i < 201 → c[i]? = some (iv f i)) : c = tabA f := by
  apply Array.ext_getElem?
  intro i
  by_cases hi : i < 201
  · rw [h i hi, tabA_get f hi]
  · rw [Array.getElem?_eq_none (by omega), Array.getElem?_eq_none (by rw [tabA_size]; omega)]

theorem Try.infoArr : (Try.prog.info? 132).map (fun i => (i.zero, i.size)) = some (some (.agg (tabA fun _ => 0)), 201) := by kernel_rfl
theorem Try.sizeArr : (Try.prog.info? 132).map (·.size) = some 201 := by kernel_rfl
theorem Try.sizeInt1 : (Try.prog.info? 3).map (·.size) = some 1 := by kernel_rfl

theorem alloc_arr (w : World) : (Instr.alloc 132 true (.tuple #[])).run Try.prog w = .ok (.pointer (some ⟨w.heap.size, 0, none⟩)) (w.alloc (.cells (tabA fun _ => 0) 132)) := by
  have hz := (zero_of_info Try.infoArr).1
  simp [Instr.alloc, hz, newVar, newRow, Value.cells]
theorem box_arr (f : Nat → Int) (w : World) : (Instr.box 132 (arrV f)).run Try.prog w = .ok (.pointer (some ⟨w.heap.size, 0, none⟩)) (w.alloc (.cells (tabA f) 132)) := by
  simp [Instr.box, newVar, newRow, Value.cells, arrV]
theorem row_new (f : Nat → Int) (w : World) : (w.alloc (.cells (tabA f) 132)).rowIs w.heap.size 132 201 (iv f) :=
  ⟨tabA f, heap_alloc_new w _, tabA_size f, fun i hi => tabA_get f hi⟩

section
variable {ops : Array Oper} {rest : List Oper} {op : Oper} {a : Act} {Q : Exit → Act → World → Prop}
theorem wpList_load_arr {W : World} {g : Nat} {f : Nat → Int} (hgd : op.guard = none) (x : Operand) (ho : op.op = .load 132 x) (hx : a.eval x = .pointer (some ⟨g, 0, none⟩)) (hrow : W.rowIs g 132 201 (iv f))
    (h : wpList Try.prog ops Q rest (a.put op.dst (arrV f)) W) : wpList Try.prog ops Q (op :: rest) a W := by
  obtain ⟨c, hc, hs, hi⟩ := hrow
  obtain rfl := tabA_of hs hi
  refine wpList_plain hgd fun K hK => ?_
  unfold Oper.wp execOp
  have hl := run_loadVar_row (P := Try.prog) W g 132 132 (tabA f) (0, 0) _ hc Try.underlying132 rfl (by rw [tabA_size]; exact Try.sizeArr)
  simp only [ho, hx, Instr.loadAt, Instr.sureAddr, Sem.run_bind, Sem.run_pure, Result.andThen_ok, hl]
  exact hK _ _ h
theorem wpList_store_arr {W : World} {g : Nat} {f f0 : Nat → Int} (hgd : op.guard = none) (x y : Operand) (ho : op.op = .store 132 x y) (hx : a.eval x = .pointer (some ⟨g, 0, none⟩)) (hy : a.eval y = arrV f) (hrow : W.rowIs g 132 201 (iv f0))
    (h : ∀ W', W'.rowIs g 132 201 (iv f) → W.grownBy W' (some g) → wpList Try.prog ops Q rest (a.put op.dst undef) W') : wpList Try.prog ops Q (op :: rest) a W := by
  obtain ⟨c, hc, hs, hi⟩ := hrow
  obtain rfl := tabA_of hs hi
  refine wpList_plain hgd fun K hK => ?_
  unfold Oper.wp execOp
  have hl := run_storeVar_row (P := Try.prog) W g 132 132 (tabA f0) (tabA f) hc (by rw [tabA_size]; exact Try.sizeArr) (by rw [tabA_size, tabA_size]) (tabA_one f)
  unfold arrV at hy
  simp only [ho, hx, hy, Instr.storeAt, Instr.sureAddr, Sem.run_bind, Sem.run_pure, Result.andThen_ok, hl]
  refine hK _ _ (h _ ⟨tabA f, ?_, tabA_size f, fun i hi => tabA_get f hi⟩ ?_)
  · have hg := (Array.getElem?_eq_some_iff.1 hc).1
    simp only [World.setRow, Array.getElem?_modify]
    simp [hc]
  · refine ⟨rfl, rfl, rfl, by simp [World.setRow], fun k hk hne => ?_⟩
    simp only [World.setRow, Array.getElem?_modify]
    rw [if_neg (fun e => hne (by rw [e]))]
end
theorem index_arr (f : Nat → Int) (x : Int) (w : World) (h0 : 0 ≤ x) (h1 : x < 201) : (Instr.index 132 (arrV f) (.int .i64 x)).run Try.prog w = .ok (.int .i64 (f x.toNat)) w := by
  have hx : x.toNat < 201 := by omega
  have hg := tabA_get f hx
  have hp := run_part_plain (P := Try.prog) (w := w) (e := 3) (by kernel_rfl) hg
  have hs : (sizeOf 3).run Try.prog w = .ok 1 w := by
    cases hq : Try.prog.info? 3 with
    | none => have := Try.sizeInt1; rw [hq] at this; cases this
    | some i =>
      have := Try.sizeInt1
      rw [hq] at this
      simp at this
      simp [sizeOf, typeInfo, hq, this]
  simp [Instr.index, arrV, asIntOf, run_underlying Try.underlying132, h0, h1, hs, hp, iv]
end Go.Proofs.Ythplgldclilccaa
