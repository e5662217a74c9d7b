/- From the form's own reading of an argument to what lies in memory: limbs, powers, terms, polynomials. -/
import Derived.Test.YthplgldclilccaaBase
import Derived.ProofKit
import Derived.Deep.Slices
import Derived.Deep.Strs
namespace Go.Proofs.Ythplgldclilccaa
open Go.RowKit Go.Deep Go.ChangeShapes Go.WideShapes

theorem list_of_lt {α : Type} {n : Nat} {p : Nat → α → Prop} (h : ∀ i, i < n → ∃ x, p i x) : ∃ l : List α, l.length = n ∧ ∀ i x, l[i]? = some x → p i x := by
  induction n with
  | zero => exact ⟨[], rfl, fun i x hx => by simp at hx⟩
  | succ n ih =>
    obtain ⟨l, hl, hp⟩ := ih (fun i hi => h i (Nat.lt_succ_of_lt hi))
    obtain ⟨x, hx⟩ := h n (Nat.lt_succ_self n)
    refine ⟨l ++ [x], by simp [hl], fun i y hy => ?_⟩
    rw [List.getElem?_append] at hy
    split at hy
    · exact hp i y hy
    · rename_i hi
      have : i = n := by
        have := lt_of_some hy
        simp at this
        omega
      subst this
      simp [hl] at hy
      exact hy ▸ hx

theorem list_two {α : Type} {l : List α} (h : l.length = 2) : ∃ a b, l = [a, b] := by
  match l, h with
  | [a, b], _ => exact ⟨a, b, rfl⟩
theorem list_three {α : Type} {l : List α} (h : l.length = 3) : ∃ a b c, l = [a, b, c] := by
  match l, h with
  | [a, b, c], _ => exact ⟨a, b, c, rfl⟩

section
variable {H : Type} {enc : TypeId × Value → H} {w : World} {base : Nat} {spare : Nat → Bool} {held : Bool}

/-- A slice that is read: where its elements lie, each with its own reading. -/
theorem open_slice_at {t e : TypeId} {fuel sz : Nat} {v : Value} {x : DataW H × List MemPlace} (ht : Try.prog.underlying t = some (.slice e)) (hsz : Try.prog.cellsOf e = sz) (hpos : 0 < sz)
    (h : DataW.trod enc Try.prog w base spare held fuel t [v] = some x) :
    ∃ (n b off fuel' : Nat), SliceAt (· < w.heap.size) v n b off ∧ ∀ j, j < n → ∃ (cs : List Value) (y : DataW H × List MemPlace), cs.length = sz ∧ (∀ i, i < sz → w.cell? ⟨b, off + j * sz + i, none⟩ = cs[i]?) ∧ DataW.trod enc Try.prog w base spare held fuel' e cs = some y := by
  rcases open_slice ht h with ⟨hcs, _⟩ | ⟨a, len, cap, m, fuel', D, Pl, hcs, hb, hl, hm, hmm, _, hx⟩
  · obtain rfl : v = .slice none 0 0 := by simpa using hcs
    exact ⟨0, 0, 0, 0, ⟨none, 0, rfl, Nat.le_refl _, Nat.zero_le _, fun h => absurd h (by omega), fun h => absurd h (by omega)⟩, fun j hj => absurd hj (by omega)⟩
  · obtain rfl : v = .slice (some a) len cap := by simpa using hcs
    rw [hsz] at hx
    have hlm : len ≤ m := by rw [hmm]; split <;> omega
    have key : ∀ j, j < len → ∃ (cs : List Value) (y : DataW H × List MemPlace), cs.length = sz ∧ (∀ i, i < sz → w.cell? ((a.add (j * sz)).add i) = cs[i]?) ∧ DataW.trod enc Try.prog w base spare held fuel' e cs = some y := by
      intro j hj
      obtain ⟨cs, h1, h2⟩ := hx j (by omega)
      obtain ⟨_, h3, h4⟩ := World.cells?_some h1
      exact ⟨cs, _, h3, h4, h2⟩
    by_cases h0 : 0 < len
    · have hsp : a.spot = none := by
        obtain ⟨cs, _, h3, h4, _⟩ := key 0 h0
        have h5 := h4 0 hpos
        have e0 : (a.add (0 * sz)).add 0 = a := by simp [Addr.add]
        rw [e0, List.getElem?_eq_getElem (by omega)] at h5
        unfold World.cell? at h5
        split at h5
        · cases hs : a.spot with
          | none => rfl
          | some z => simp [hs] at h5
        · exact absurd h5 (by simp)
      obtain ⟨b, off, spot⟩ := a
      obtain rfl : spot = none := hsp
      have add_eq : ∀ j i, ((⟨b, off, none⟩ : Addr).add (j * sz)).add i = ⟨b, off + j * sz + i, none⟩ := by
        intro j i
        unfold Addr.add
        by_cases h1 : j * sz = 0 <;> by_cases h2 : i = 0 <;> simp [h1, h2]
      refine ⟨len, b, off, fuel', ⟨_, cap, rfl, hl, hm, fun _ => rfl, fun _ => ?_⟩, fun j hj => ?_⟩
      · obtain ⟨cs, _, h3, h4, _⟩ := key 0 h0
        have h5 := h4 0 hpos
        rw [add_eq, List.getElem?_eq_getElem (by omega)] at h5
        exact lt_of_cell h5
      · obtain ⟨cs, y, h3, h4, h5⟩ := key j hj
        exact ⟨cs, y, h3, fun i hi => by rw [← add_eq]; exact h4 i hi, h5⟩
    · exact ⟨len, 0, 0, fuel', ⟨_, cap, rfl, hl, hm, fun h => absurd h h0, fun h => absurd h h0⟩, fun j hj => absurd hj (by omega)⟩

theorem bounds_i64 {n : Int} (h : (Lit.int .i64 n).wf = true) : -9223372036854775808 ≤ n ∧ n ≤ 9223372036854775807 := by
  simpa [Lit.wf, IntKind.min, IntKind.max, IntKind.signed, IntKind.bits] using h
theorem bounds_u32 {n : Int} (h : (Lit.int .u32 n).wf = true) : 0 ≤ n ∧ n < 4294967296 := by
  have : 0 ≤ n ∧ n ≤ 4294967295 := by simpa [Lit.wf, IntKind.min, IntKind.max, IntKind.signed, IntKind.bits] using h
  omega

theorem Try.cells_u32 : Try.prog.cellsOf 79 = 1 := by kernel_rfl
theorem Try.cells_power : Try.prog.cellsOf 82 = 2 := by kernel_rfl
theorem Try.cells_term : Try.prog.cellsOf 72 = 3 := by kernel_rfl
theorem Try.cells_int : Try.prog.cellsOf 68 = 2 := by kernel_rfl
theorem Try.cells_mono : Try.prog.cellsOf 70 = 1 := by kernel_rfl
theorem Try.cells_bool : Try.prog.cellsOf 4 = 1 := by kernel_rfl
theorem Try.cells_i64 : Try.prog.cellsOf 3 = 1 := by kernel_rfl
theorem Try.cells_su32 : Try.prog.cellsOf 66 = 1 := by kernel_rfl

theorem open_u32s {fuel : Nat} {v : Value} {x : DataW H × List MemPlace} (h : DataW.trod enc Try.prog w base spare held fuel 66 [v] = some x) : ∃ zs, U32s (· < w.heap.size) w v zs := by
  obtain ⟨n, b, off, f', hs, hx⟩ := open_slice_at Try.underlying66 Try.cells_u32 (by omega) h
  obtain ⟨zs, hl, hz⟩ := list_of_lt (p := fun j (z : Nat) => z < 4294967296 ∧ w.cell? ⟨b, off + j, none⟩ = some (.int .u32 (z : Nat))) (n := n) (fun j hj => by
    obtain ⟨cs, y, h1, h2, h3⟩ := hx j hj
    obtain ⟨m, rfl, _, hw⟩ := DataW.trod_int Try.underlying79 h3
    have := bounds_u32 hw
    have h4 := h2 0 (by omega)
    refine ⟨m.toNat, by omega, ?_⟩
    simp only [Nat.mul_one, Nat.add_zero] at h4
    rw [h4]
    simp
    omega)
  subst hl
  exact ⟨zs, b, off, hs, hz⟩

theorem open_pows {fuel : Nat} {v : Value} {x : DataW H × List MemPlace} (h : DataW.trod enc Try.prog w base spare held fuel 70 [v] = some x) : ∃ ps, Pows (· < w.heap.size) w v ps := by
  obtain ⟨n, b, off, f', hs, hx⟩ := open_slice_at Try.underlying70 Try.cells_power (by omega) h
  obtain ⟨ps, hl, hp⟩ := list_of_lt (p := fun j (x : Int × Int) => ((-9223372036854775808 ≤ x.1 ∧ x.1 ≤ 9223372036854775807) ∧ -9223372036854775808 ≤ x.2 ∧ x.2 ≤ 9223372036854775807) ∧
    w.cell? ⟨b, off + j * 2, none⟩ = some (.int .i64 x.1) ∧ w.cell? ⟨b, off + j * 2 + 1, none⟩ = some (.int .i64 x.2)) (n := n) (fun j hj => by
    obtain ⟨cs, y, h1, h2, h3⟩ := hx j hj
    obtain ⟨y0, y1, m, _, _, g0, g1⟩ := trod_struct2 Try.underlying82 h3
    obtain ⟨n0, e0, _, w0⟩ := DataW.trod_int Try.underlying3 g0
    obtain ⟨n1, e1, _, w1⟩ := DataW.trod_int Try.underlying3 g1
    obtain ⟨c0, c1, rfl⟩ := list_two h1
    simp [Try.cells_i64] at e0 e1
    subst e0 e1
    exact ⟨(n0, n1), ⟨bounds_i64 w0, bounds_i64 w1⟩, h2 0 (by omega), h2 1 (by omega)⟩)
  subst hl
  exact ⟨ps, b, off, hs, hp⟩

theorem open_terms {fuel : Nat} {v : Value} {x : DataW H × List MemPlace} (h : DataW.trod enc Try.prog w base spare held fuel 23 [v] = some x) : ∃ ts, Terms (· < w.heap.size) w v ts := by
  obtain ⟨n, b, off, f', hs, hx⟩ := open_slice_at Try.underlying23 Try.cells_term (by omega) h
  obtain ⟨ts, hl, hp⟩ := list_of_lt (p := fun j (t : RTerm) => ∃ vm vo, w.cell? ⟨b, off + j * 3, none⟩ = some (.bool t.c.neg) ∧
    w.cell? ⟨b, off + j * 3 + 1, none⟩ = some vm ∧ w.cell? ⟨b, off + j * 3 + 2, none⟩ = some vo ∧ U32s (· < w.heap.size) w vm t.c.mag ∧ Pows (· < w.heap.size) w vo t.m) (n := n) (fun j hj => by
    obtain ⟨cs, y, h1, h2, h3⟩ := hx j hj
    obtain ⟨y0, y1, m, _, _, g0, g1⟩ := trod_struct2 Try.underlying72 h3
    obtain ⟨c0, c1, c2, rfl⟩ := list_three h1
    simp [Try.cells_int, Try.cells_mono] at g0 g1
    obtain ⟨z0, z1, m', _, _, k0, k1⟩ := trod_struct2 Try.underlying68 g0
    simp [Try.cells_bool, Try.cells_su32] at k0 k1
    obtain ⟨ng, e0, _⟩ := DataW.trod_bool Try.underlying4 k0
    simp at e0
    subst e0
    obtain ⟨zs, hzs⟩ := open_u32s k1
    obtain ⟨ps, hps⟩ := open_pows g1
    exact ⟨⟨⟨ng, zs⟩, ps⟩, c1, c2, h2 0 (by omega), h2 1 (by omega), h2 2 (by omega), hzs, hps⟩)
  subst hl
  exact ⟨ts, b, off, hs, hp⟩
end
end Go.Proofs.Ythplgldclilccaa
