/- The meter laws' arguments, opened: limits, the calls that are played. -/
import Derived.Test.YtpooglajfiddhaaRow
import Derived.Test.YtpooglajfiddhaaMeterOps
namespace Go.Proofs.Ytpooglajfiddhaa
open Go.RowKit Go.Deep Go.ChangeShapes Go.WideShapes Go.ChangeAt Go.Joins

theorem Try.cells_op : Try.prog.cellsOf 44 = 3 := by kernel_rfl
theorem Try.cells_errno : Try.prog.cellsOf 27 = 1 := by kernel_rfl
theorem Try.cells_poly : Try.prog.cellsOf 42 = 1 := by kernel_rfl
theorem Try.cells_limits : Try.prog.cellsOf 23 = 4 := by kernel_rfl

section
variable {H : Type} {enc : TypeId × Value → H} {w : World} {base : Nat} {spare : Nat → Bool} {held : Bool}
theorem open_ops {fuel : Nat} {v : Value} {x : DataW H × List MemPlace} (h : DataW.trod enc Try.prog w base spare held fuel 24 [v] = some x) : ∃ l, Ops (· < w.heap.size) w v l := by
  obtain ⟨n, b, off, f', hs, hx⟩ := open_slice_at Try.underlying24 Try.cells_op (by omega) h
  obtain ⟨l, hl, hp⟩ := list_of_lt (p := fun j (o : ROp) => ∃ vp, w.cell? ⟨b, off + j * 3, none⟩ = some (.int .i64 o.k) ∧ w.cell? ⟨b, off + j * 3 + 1, none⟩ = some vp ∧ w.cell? ⟨b, off + j * 3 + 2, none⟩ = some (.int .i64 o.e) ∧ Terms (· < w.heap.size) w vp o.p) (n := n) (fun j hj => by
    obtain ⟨cs, y, h1, h2, h3⟩ := hx j hj
    obtain ⟨y0, y1, y2, m, _, _, g0, g1, g2⟩ := trod_struct3 Try.underlying44 h3
    obtain ⟨c0, c1, c2, rfl⟩ := list_three h1
    simp [Try.cells_i64, Try.cells_poly, Try.cells_errno] at g0 g1 g2
    obtain ⟨n0, e0, _, _⟩ := DataW.trod_int Try.underlying3 g0
    obtain ⟨n2, e2, _, _⟩ := DataW.trod_int Try.underlying27 g2
    simp at e0 e2
    subst e0 e2
    obtain ⟨ts, hts⟩ := open_terms g1
    exact ⟨⟨n0, ts, n2⟩, c1, h2 0 (by omega), h2 1 (by omega), h2 2 (by omega), hts⟩)
  subst hl
  exact ⟨l, b, off, hs, hp⟩

set_option maxRecDepth 100000 in
theorem open_limits {W : World} {b0 : Nat} {v : Value} {d : DataW H} {p : List MemPlace} (hv : Value.okWide Try.prog W .any b0 23 v) (h : DataW.Trod enc Try.prog w base spare held 23 v d p) :
    ∃ a b c e : Int, v = .agg #[.int .i64 a, .int .i64 b, .int .i64 c, .int .i64 e] := by
  obtain ⟨cs, rfl, hsz⟩ := okWide_struct Try.underlying23 hv
  obtain ⟨c0, c1, c2, c3, rfl⟩ := array4 (hsz.trans Try.cells_limits)
  obtain ⟨fuel, hf⟩ := h
  obtain ⟨y0, y1, y2, y3, n, _, _, h0, h1, h2, h3⟩ := trod_struct4 Try.underlying23 hf
  simp [Try.cells_i64, Value.cells] at h0 h1 h2 h3
  obtain ⟨n0, e0, _, _⟩ := DataW.trod_int Try.underlying3 h0
  obtain ⟨n1, e1, _, _⟩ := DataW.trod_int Try.underlying3 h1
  obtain ⟨n2, e2, _, _⟩ := DataW.trod_int Try.underlying3 h2
  obtain ⟨n3, e3, _, _⟩ := DataW.trod_int Try.underlying3 h3
  simp at e0 e1 e2 e3
  subst e0 e1 e2 e3
  exact ⟨n0, n1, n2, n3, rfl⟩
end


set_option maxRecDepth 100000 in
theorem slice_cells {t e : TypeId} {W : World} {base : Nat} {v : Value} (ht : Try.prog.underlying t = some (.slice e)) (hv : Value.okWide Try.prog W .any base t v) : v.cells.toList = [v] := by
  obtain ⟨a, len, cap, rfl⟩ := okWide_slice ht hv
  rfl
end Go.Proofs.Ytpooglajfiddhaa
