/- The order of two monomials: the program's answer. -/
import Derived.Test.YthplgldclilccaaMonoCmp
namespace Go.Proofs.Ythplgldclilccaa
open Go.RowKit

theorem Kept.ext {S : Nat → Prop} {w w' : World} (h : Ext w w') (hS : ∀ k, S k → k < w.heap.size) : Kept S w w' := (Kept.of_below h).mono hS
theorem Ext.drewN {a w : World} (h : Ext a w) (q : Nat) : Ext a (w.drewN q) :=
  ⟨h.os, h.tape, h.output, h.size, h.block⟩

set_option maxHeartbeats 1000000 in
theorem mono_compare {S : Nat → Prop} (va vb : Value) (a b : Mono) (w : World) (ha : Pows S w va a) (hb : Pows S w vb b) (hS : ∀ k, S k → k < w.heap.size) :
    Calls Try.prog 85 #[va, vb] w fun e w' => e = .returned (.tuple #[.int .i64 (if mayM a && mayM b then compareM a b else 0), .int .i64 (if mayM a && mayM b then 0 else 2)]) ∧ Ext w w' := by
  have hmf : ∀ (fn : Fn) (first cap : Array Value) (w : World), (Instr.makeFunc fn first cap).run Try.prog w = .ok (.func fn first cap) w := fun _ _ _ _ => rfl
  have hnot : ∀ (x : Bool) (w : World), (Op.unary .not (.bool x)).run Try.prog w = .ok (.bool (!x)) w := fun _ _ => rfl
  have HA := hid ha
  have HB := hid hb
  obtain ⟨aa, ca, rfl⟩ := ha.form
  obtain ⟨ab, cb, rfl⟩ := hb.form
  clear ha hb
  go_enter Try.func85, Try.ntmps85
  go_wp2_with fail
  refine (mono_may _ a w HA.out hS).mono ?_
  rintro e w1 ⟨rfl, hx1⟩
  have HX1 := hid hx1
  clear hx1
  cases hma : mayM a with
  | false =>
    go_wp2
    all_goals
      go_ret2
      exact ⟨rfl, HX1.out⟩
  | true =>
    go_wp2_with fail
    refine (mono_may _ b w1 (HB.out.to (Kept.ext HX1.out hS) (fun _ h => h)) (fun k hk => Nat.lt_of_lt_of_le (hS k hk) HX1.out.size)).mono ?_
    rintro e w2 ⟨rfl, hx2⟩
    have HX2 := hid (HX1.out.trans hx2)
    clear hx2
    cases hmb : mayM b with
    | false =>
      go_wp2
      all_goals
        go_ret2
        exact ⟨rfl, HX2.out⟩
    | true =>
      go_wp2_with fail
      have hS2 : ∀ k, S k → k < w2.heap.size := fun k hk => Nat.lt_of_lt_of_le (hS k hk) HX2.out.size
      refine (mono_both (S := S) 116 #[.pointer (some ⟨w2.heap.size, 0, none⟩)] (enters_of Try.func116 (by kernel_rfl) rfl)
        (fun d W => W.cell? ⟨w2.heap.size, 0, none⟩ = some (.int .i64 (cmpL d 0)) ∧ W.frozen? ⟨w2.heap.size, 0, none⟩ = false ∧ Ext w2 W) a b _ ?_ ?_ ?_ _ _
        (HA.out.to (Kept.ext (HX2.out.alloc _) hS) (fun _ h => h)) (HB.out.to (Kept.ext (HX2.out.alloc _) hS) (fun _ h => h)) ⟨cell_new _ _ _ rfl rfl, free_new _ _ _, Ext.alloc (Ext.refl _) _⟩).mono ?_
      · rintro d t r W hd ⟨h1, h2, h3⟩
        have hb := both_bounds HA.out.inBounds HB.out.inBounds t (by rw [hd]; simp)
        rw [show (#[Value.int .i64 t.1, .int .i64 t.2.1, .int .i64 t.2.2] ++ #[.pointer (some ⟨w2.heap.size, 0, none⟩)] : Array Value) = #[.int .i64 t.1, .int .i64 t.2.1, .int .i64 t.2.2, .pointer (some ⟨w2.heap.size, 0, none⟩)] from rfl]
        refine (cmp_step t.1 t.2.1 t.2.2 _ _ W hb.2.1 hb.2.2 h1 h2).mono ?_
        rintro e w' ⟨rfl, rfl⟩
        refine ⟨rfl, ?_⟩
        rw [cmpL_append]
        split
        · exact ⟨h1, h2, h3⟩
        · exact ⟨same_of h1, free_set h2, h3.setCell (p := ⟨w2.heap.size, 0, none⟩) (Nat.le_refl _) _⟩
      · rintro d W ⟨_, _, h3⟩ k hk
        exact (Kept.ext h3 hS2 k hk).trans (Kept.ext (Ext.alloc (Ext.refl w2) _) hS2 k hk).symm
      · rintro d W q ⟨h1, h2, h3⟩
        exact ⟨by simpa using h1, by simpa using h2, h3.drewN q⟩
      rintro e w3 ⟨rfl, h1, h2, h3⟩
      have HX3 := hid (HX2.out.trans h3)
      clear h3
      go_wp2
      all_goals
        go_ret2
        exact ⟨rfl, HX3.out⟩
end Go.Proofs.Ythplgldclilccaa
