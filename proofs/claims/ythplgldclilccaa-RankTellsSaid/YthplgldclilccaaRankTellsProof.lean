/- RankTells holds: for every two polynomials and every list of them the law answers true, and its arguments read as they did. No condition. -/
import Derived.Test.YthplgldclilccaaRow
import Derived.Test.YthplgldclilccaaRankTells
namespace Go.Proofs.Ythplgldclilccaa
open Go.RowKit Go.Deep Go.ChangeShapes Go.WideShapes Go.ChangeAt

set_option maxRecDepth 100000 in
theorem slice_cells {t e : TypeId} {W : World} {base : Nat} {v : Value} (ht : Try.prog.underlying t = some (.slice e)) (hv : Value.okWide Try.prog W .any base t v) : v.cells.toList = [v] := by
  obtain ⟨a, len, cap, rfl⟩ := okWide_slice ht hv
  rfl
theorem Try.cells_poly : Try.prog.cellsOf 23 = 1 := by kernel_rfl
section
variable {H : Type} {enc : TypeId × Value → H} {w : World} {base : Nat} {spare : Nat → Bool} {held : Bool}
theorem open_polys {fuel : Nat} {v : Value} {x : DataW H × List MemPlace} (h : DataW.trod enc Try.prog w base spare held fuel 24 [v] = some x) : ∃ ls, Polys (· < w.heap.size) w v ls := by
  obtain ⟨n, b, off, f', hs, hx⟩ := open_slice_at Try.underlying24 Try.cells_poly (by omega) h
  obtain ⟨ls, hl, hp⟩ := list_of_lt (p := fun j (t : List RTerm) => ∃ vp, w.cell? ⟨b, off + j, none⟩ = some vp ∧ Terms (· < w.heap.size) w vp t) (n := n) (fun j hj => by
    obtain ⟨cs, y, h1, h2, h3⟩ := hx j hj
    match cs, h1 with
    | [c], _ =>
      obtain ⟨ts, hts⟩ := open_terms h3
      have h4 := h2 0 (by omega)
      simp only [Nat.mul_one, Nat.add_zero] at h4
      exact ⟨ts, c, h4, hts⟩)
  subst hl
  exact ⟨ls, b, off, hs, hp⟩
end

set_option maxRecDepth 100000 in
theorem tells_lifted (os : Os) (started : os.Started) (H : Type) (enc : TypeId × Value → H) :
    ReturnsInHanded {} Try.checked os 3 .any (Rows.rankTellsSpec.pre6 enc Try.prog Try.f3 Rows.rankTellsRow.domain false) (Rows.rankTellsSpec.post enc Try.prog Try.f3 false true false false) := by
  refine returnsInHanded_of_change (C := Try.checked) Try.own started (by kernel_rfl) Try.func3
    (ChangeSpec.witness6 (enc := enc) (C := Try.checked) false ⟨#[], #[.slice none 0 0, .slice none 0 0, .slice none 0 0], []⟩ 8 (by kernel_rfl) (by kernel_rfl) (by kernel_rfl) (by kernel_rfl)) ?_
  intro W base args ds gs before hval0 hW _ _
  have hval : ∀ (j : Nat) t v, Try.f3.params[j]? = some t → args[j]? = some v → Value.okWide Try.prog W .any base t v := hval0
  have hW' := hW
  obtain ⟨p, q, hA0, hV, _, _, _⟩ := hW'
  have hA : DataW.TrodAll enc Try.prog W 0 (fun _ => true) true Try.f3.params.toList args.toList ds p := hA0
  rw [Try.params3] at hA hval
  obtain ⟨v0, v1, v2, d0, d1, d2, p0, p1, p2, rfl, rfl, rfl, h0, h1, h2⟩ := trodAll_three hA
  obtain ⟨rfl, rfl⟩ := trodVars_none hV
  obtain ⟨fuel0, hf0⟩ := h0
  rw [slice_cells Try.underlying23 (hval 0 _ v0 rfl rfl)] at hf0
  obtain ⟨fuel1, hf1⟩ := h1
  rw [slice_cells Try.underlying23 (hval 1 _ v1 rfl rfl)] at hf1
  obtain ⟨fuel2, hf2⟩ := h2
  rw [slice_cells Try.underlying24 (hval 2 _ v2 rfl rfl)] at hf2
  obtain ⟨ps, hp⟩ := open_terms hf0
  obtain ⟨qs, hq⟩ := open_terms hf1
  obtain ⟨ls, hl⟩ := open_polys hf2
  refine (law_tells v0 v1 v2 ps qs ls W hp hq hl).mono fun e W' h => ?_
  obtain ⟨rfl, hb⟩ := h
  exact ⟨_, rfl, law_post hW rfl rfl rfl (by rw [Try.params3]; intro t ht; simp at ht; rcases ht with rfl | rfl <;> exact ⟨by kernel_rfl, by decide +kernel⟩) hb⟩

theorem tells_holds : Rows.RankTellsSaid :=
  OpenClaim.holds_of_wide 3 Try.f3 rfl rfl rfl rfl rfl rfl rfl ⟨rfl, rfl, rfl, rfl, rfl⟩ rfl rfl rfl rfl rfl (by kernel_rfl) Try.func3 (by kernel_rfl)
    (of_decide_eq_true (by kernel_rfl)) (by unfold Func.isWrapper; first | (rw [if_pos (by decide +kernel)]; kernel_rfl) | (rw [if_neg (by decide +kernel)]; exact ⟨rfl, rfl⟩))
    (fun os started H enc _ => tells_lifted os started H enc)
end Go.Proofs.Ythplgldclilccaa
