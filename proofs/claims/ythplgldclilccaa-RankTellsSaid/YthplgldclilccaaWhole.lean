/- Whole numbers as the program has them: made canonical, may they be, their sign. -/
import Derived.Test.YthplgldclilccaaNatAdd
import Derived.Test.YthplgldclilccaaNatSub
namespace Go.Proofs.Ythplgldclilccaa
open Go.RowKit

/-- a number with its sign, by value -/
def IntV (S : Nat → Prop) (w : World) (v : Value) (r : RInt) : Prop := ∃ vm, v = .agg #[.bool r.neg, vm] ∧ U32s S w vm r.mag
theorem IntV.to {S S' : Nat → Prop} {w w' : World} {v : Value} {r : RInt} (h : IntV S w v r) (hk : Kept S w w') (hS : ∀ k, S k → S' k) : IntV S' w' v r := by
  obtain ⟨vm, h1, h2⟩ := h
  exact ⟨vm, h1, h2.to hk hS⟩

def sg (b : Bool) (n : Nat) : Int := if b then -(n : Int) else (n : Int)
theorem ofI_sg (b : Bool) (n : Nat) : ofI (sg b n) = ⟨b && decide (0 < (rep B32 n).length), rep B32 n⟩ := by
  have h0 : 0 < (rep B32 n).length ↔ n ≠ 0 := by
    rw [List.length_pos_iff, Ne, rep_eq_nil two_le_B32]
  unfold ofI sg
  cases b with
  | false => simp
  | true =>
    simp only [if_true, Int.natAbs_neg, Int.natAbs_natCast, Bool.true_and, RInt.mk.injEq, and_true]
    rw [decide_eq_decide, h0]
    omega

/-- a block's cell, wherever memory has grown to -/
theorem Ext.new_cell {w W : World} {cs : Array Value} {T : TypeId} (h : Ext (w.alloc (.cells cs T)) W) {i : Nat} {v : Value} (hv : cs[i]? = some v) : W.cell? ⟨w.heap.size, i, none⟩ = some v := h.cell (cell_new w cs T rfl hv)
theorem Ext.new_free {w W : World} {cs : Array Value} {T : TypeId} (h : Ext (w.alloc (.cells cs T)) W) (i : Nat) : W.frozen? ⟨w.heap.size, i, none⟩ = false := h.free (by simp) (free_new w cs T)

theorem two_set {w : World} {b : Nat} {u0 u1 : Value} (x y : Value) (c0 : w.cell? ⟨b, 0, none⟩ = some u0) (c1 : w.cell? ⟨b, 1, none⟩ = some u1) :
    ((w.setCell ⟨b, 0, none⟩ x).setCell ⟨b, 1, none⟩ y).cell? ⟨b, 0, none⟩ = some x ∧ ((w.setCell ⟨b, 0, none⟩ x).setCell ⟨b, 1, none⟩ y).cell? ⟨b, 1, none⟩ = some y :=
  ⟨other (same_of c0) (ao (by decide)), same_of (other c1 (ao (by decide)))⟩
theorem Ext.set2 {a w : World} (h : Ext a w) {b : Nat} (hb : a.heap.size ≤ b) (x y : Value) : Ext a ((w.setCell ⟨b, 0, none⟩ x).setCell ⟨b, 1, none⟩ y) :=
  (h.setCell (p := ⟨b, 0, none⟩) hb x).setCell (p := ⟨b, 1, none⟩) hb y
theorem Kept.set2 {S : Nat → Prop} {w : World} {b : Nat} (h : ¬ S b) (x y : Value) : Kept S w ((w.setCell ⟨b, 0, none⟩ x).setCell ⟨b, 1, none⟩ y) :=
  (Kept.setCell (a := ⟨b, 0, none⟩) h x).trans (Kept.setCell (a := ⟨b, 1, none⟩) h y)
theorem size_set2 {w : World} {b : Nat} (x y : Value) : ((w.setCell ⟨b, 0, none⟩ x).setCell ⟨b, 1, none⟩ y).heap.size = w.heap.size := by rw [size_setCell, size_setCell]

set_option maxRecDepth 100000 in
set_option maxHeartbeats 2000000 in
theorem whole_made {S : Nat → Prop} (b : Bool) (v : Value) (zs : List Nat) (w : World) (h : U32s S w v zs) (hS : ∀ k, S k → k < w.heap.size) (hr : zs.length ≤ 1000000000000) :
    Calls Try.prog 93 #[.bool b, v] w fun e w' => ∃ v', e = .returned v' ∧ IntV (New w w') w' v' (ofI (sg b (val B32 zs))) ∧ Ext w w' := by
  have H := hid h
  obtain ⟨a, c, rfl⟩ := h.form
  clear h
  have HE := hid (Ext.alloc (Ext.refl w) (.cells #[.bool false, .slice none 0 0] 68))
  go_enter Try.func93, Try.ntmps93
  go_wp2_with fail
  refine (nat_trim _ zs _ (H.out.to (Kept.ext HE.out hS) (fun _ h => h)) (fun k hk => Nat.lt_of_lt_of_le (hS k hk) HE.out.size) hr).mono ?_
  rintro e w1 ⟨v', rfl, hu, hx⟩
  generalize hn : val B32 zs = n at hu
  have HN := hid hn
  have HX := hid hx
  have c0 := hx.new_cell (i := 0) rfl
  have c1 := hx.new_cell (i := 1) rfl
  have f0 := hx.new_free 0
  have f1 := hx.new_free 1
  have HU := hid hu
  obtain ⟨a', c', rfl⟩ := hu.form
  clear hn hu hx
  have HC := hid (And.intro c0 c1)
  cases b
  all_goals
    go_wp2
    have hd := fun x => two_set x (.slice a' (rep B32 n).length c') HC.out.1 HC.out.2
    refine bodyPost_ret (by simp [results, Try.results93, go_sem, (hd _).1, (hd _).2]; rfl) rfl ?_
    refine ⟨_, rfl, ⟨_, by rw [ofI_sg, HN.out]; rfl, ?_⟩, (HE.out.trans HX.out).set2 (Nat.le_refl _) _ _⟩
    rw [ofI_sg, HN.out]
    refine HU.out.to (Kept.set2 (fun h => ?_) _ _) (fun k hk => ⟨?_, ?_⟩)
    · have h1 := h.1
      rw [size_alloc] at h1
      omega
    · have h1 := hk.1
      rw [size_alloc] at h1
      omega
    · rw [size_set2]
      exact hk.2

set_option maxRecDepth 100000 in
set_option maxHeartbeats 2000000 in
theorem whole_may {S : Nat → Prop} (v : Value) (r : RInt) (w : World) (h : IntV S w v r) (hS : ∀ k, S k → k < w.heap.size) :
    Calls Try.prog 46 #[v] w fun e w' => e = .returned (.bool (mayI r)) ∧ Ext w w' := by
  obtain ⟨ng, zs⟩ := r
  obtain ⟨vm, rfl, hu⟩ := h
  simp only at hu ⊢
  have hl := hu.len_le
  have H := hid hu
  obtain ⟨a, c, rfl⟩ := hu.form
  clear hu
  have HE := hid (Ext.alloc (Ext.refl w) (.cells #[.bool ng, .slice a zs.length c] 68))
  by_cases h0 : 0 < zs.length
  · obtain ⟨z, hz⟩ := some_of_lt (show zs.length - 1 < zs.length by omega)
    obtain ⟨b, off, rfl, -, hn, hm, -, hzb, hc⟩ := (H.out.to (Kept.ext HE.out hS) (fun _ h => h)).cellAt hz
    have hR : mayI ⟨ng, zs⟩ = decide (z ≠ 0) := by
      unfold mayI
      rw [List.getLast?_eq_getElem?, hz]
    have HR := hid hR
    clear hR hz
    go_enter Try.func46, Try.ntmps46
    go_wp2
    all_goals
      go_ret
      refine ⟨?_, HE.out⟩
      rw [HR.out]
      refine congrArg Ending.returned (congrArg Value.bool ?_)
      rw [Bool.eq_iff_iff]
      simp
  · have HR : Hid (mayI ⟨ng, zs⟩ = !ng) := by
      obtain rfl : zs = [] := List.length_eq_zero_iff.1 (by omega)
      exact hid rfl
    have hnot : ∀ (x : Bool) (w : World), (Op.unary .not (.bool x)).run Try.prog w = .ok (.bool (!x)) w := fun _ _ => rfl
    have hb : (((zs.length : Nat) : Int) == 0) = true := by rw [beq_iff_eq]; omega
    go_enter Try.func46, Try.ntmps46
    go_wp2
    all_goals
      go_ret
      refine ⟨?_, HE.out⟩
      rw [HR.out]
      rfl

end Go.Proofs.Ythplgldclilccaa
