/- ViewDerives holds: for every polynomial and every two whole numbers the law answers true, and its arguments read as they did. No condition. -/
import Derived.Test.YthplgldclilccaaSet7
namespace Go.Proofs.Ythplgldclilccaa
open Go.RowKit Go.Deep Go.ChangeShapes Go.WideShapes Go.ChangeAt

set_option maxRecDepth 100000 in
theorem int_arg {H : Type} {enc : TypeId × Value → H} {W : World} {base b0 : Nat} {sp : Nat → Bool} {held : Bool} {fuel : Nat} {v : Value} {x : DataW H × List MemPlace} (hv : Value.okWide Try.prog W .any base 3 v) (h : DataW.trod enc Try.prog W b0 sp held fuel 3 v.cells.toList = some x) : ∃ n, v = .int .i64 n ∧ inI64 n := by
  obtain ⟨n, rfl⟩ := okWide_int Try.underlying3 hv
  obtain ⟨m, e, -, hw⟩ := DataW.trod_int Try.underlying3 h
  have e' : [Value.int .i64 n] = [.int .i64 m] := e
  obtain rfl : n = m := by simpa using e'
  exact ⟨n, rfl, bounds_i64 hw⟩

set_option maxRecDepth 100000 in
theorem derives_lifted (os : Os) (started : os.Started) (H : Type) (enc : TypeId × Value → H) :
    ReturnsInHanded {} Try.checked os 7 .any (Rows.viewDerivesSpec.pre6 enc Try.prog Try.f7 Rows.viewDerivesRow.domain false) (Rows.viewDerivesSpec.post enc Try.prog Try.f7 false true false false) := by
  refine returnsInHanded_of_change (C := Try.checked) Try.own started (by kernel_rfl) Try.func7
    (ChangeSpec.witness6 (enc := enc) (C := Try.checked) false ⟨#[], #[.slice none 0 0, .int .i64 0, .int .i64 0], []⟩ 8 (by kernel_rfl) (by kernel_rfl) (by kernel_rfl) (by kernel_rfl)) ?_
  intro W base args ds gs before hval0 hW _ _
  have hval : ∀ (j : Nat) t v, Try.f7.params[j]? = some t → args[j]? = some v → Value.okWide Try.prog W .any base t v := hval0
  have hW' := hW
  obtain ⟨p, q, hA0, hV, _, _, _⟩ := hW'
  have hA : DataW.TrodAll enc Try.prog W 0 (fun _ => true) true Try.f7.params.toList args.toList ds p := hA0
  rw [Try.params7] at hA hval
  obtain ⟨v0, v1, v2, d0, d1, d2, p0, p1, p2, rfl, rfl, rfl, h0, h1, h2⟩ := trodAll_three hA
  obtain ⟨rfl, rfl⟩ := trodVars_none hV
  obtain ⟨fuel0, hf0⟩ := h0
  rw [slice_cells Try.underlying23 (hval 0 _ v0 rfl rfl)] at hf0
  obtain ⟨fuel1, hf1⟩ := h1
  obtain ⟨fuel2, hf2⟩ := h2
  obtain ⟨ps, hp⟩ := open_terms hf0
  obtain ⟨x, rfl, hx⟩ := int_arg (hval 1 _ v1 rfl rfl) hf1
  obtain ⟨y, rfl, hy⟩ := int_arg (hval 2 _ v2 rfl rfl) hf2
  refine (law_derives v0 ps x y W hp hx hy).mono fun e W' h => ?_
  obtain ⟨rfl, hb⟩ := h
  exact ⟨_, rfl, law_post hW rfl rfl rfl (by rw [Try.params7]; intro t ht; simp at ht; rcases ht with rfl | rfl <;> exact ⟨by kernel_rfl, by decide +kernel⟩) hb⟩

theorem derives_holds : Rows.ViewDerivesSaid :=
  OpenClaim.holds_of_wide 7 Try.f7 rfl rfl rfl rfl rfl rfl rfl ⟨rfl, rfl, rfl, rfl, rfl⟩ rfl rfl rfl rfl rfl (by kernel_rfl) Try.func7 (by kernel_rfl)
    (of_decide_eq_true (by kernel_rfl)) (by unfold Func.isWrapper; first | (rw [if_pos (by decide +kernel)]; kernel_rfl) | (rw [if_neg (by decide +kernel)]; exact ⟨rfl, rfl⟩))
    (fun os started H enc _ => derives_lifted os started H enc)
end Go.Proofs.Ythplgldclilccaa
