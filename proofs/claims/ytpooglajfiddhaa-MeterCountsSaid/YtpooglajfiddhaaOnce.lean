/- The contracts of the meter's first refusal: sync.Once's Do around the closure that keeps what would be needed. Conditions: the Once's lock is free. -/
import Derived.Test.YtpooglajfiddhaaSync
import Derived.Test.YtpooglajfiddhaaBase
namespace Go.Proofs.Ytpooglajfiddhaa
open Go.RowKit

/-- The closure: the need is laid. -/
theorem keep_need (b : Nat) (pe pn pm : Addr) (e n x y : Int) (w : World)
    (he : w.cell? pe = some (.int .i64 e)) (hn : w.cell? pn = some (.int .i64 n)) (hm : w.cell? pm = some (.pointer (some ⟨b, 0, none⟩)))
    (h9 : w.cell? ⟨b, 9, none⟩ = some (.int .i64 x)) (h10 : w.cell? ⟨b, 10, none⟩ = some (.int .i64 y))
    (f9 : w.frozen? ⟨b, 9, none⟩ = false) (f10 : w.frozen? ⟨b, 10, none⟩ = false) :
    Calls Try.prog 33 #[.pointer (some pe), .pointer (some pn), .pointer (some pm)] w fun r w' => r = .returned (.tuple #[]) ∧ (w.setCell ⟨b, 9, none⟩ (.int .i64 e)).setCell ⟨b, 10, none⟩ (.int .i64 n) = w' := by
  go_enter Try.func33, Try.ntmps33
  go_wp2
  go_end0
  exact ⟨rfl, rfl⟩

/-- what doSlow leaves -/
def slowEnd (w : World) (b : Nat) (e n : Int) : World :=
  (((((w.setCell ⟨b, 7, none⟩ (.int .i32 1)).setCell ⟨b, 9, none⟩ (.int .i64 e)).setCell ⟨b, 10, none⟩ (.int .i64 n)).drew.setCell ⟨b, 6, none⟩ (.int .u32 1)).setCell ⟨b, 7, none⟩ (.int .i32 0))

theorem ne_block {b c i : Nat} {p : Addr} (h : p.block ≠ b) (_ : c = b) : (⟨c, i, none⟩ : Addr) ≠ p := by
  intro e
  subst e
  simp_all

set_option maxRecDepth 100000 in
set_option maxHeartbeats 1600000 in
theorem slow_any (b : Nat) (pe pn pm : Addr) (e n x y : Int) (w : World) (hpe : pe.block ≠ b) (hpn : pn.block ≠ b) (hpm : pm.block ≠ b)
    (he : w.cell? pe = some (.int .i64 e)) (hn : w.cell? pn = some (.int .i64 n)) (hm : w.cell? pm = some (.pointer (some ⟨b, 0, none⟩)))
    (h6 : w.cell? ⟨b, 6, none⟩ = some (.int .u32 0)) (h7 : w.cell? ⟨b, 7, none⟩ = some (.int .i32 0))
    (h9 : w.cell? ⟨b, 9, none⟩ = some (.int .i64 x)) (h10 : w.cell? ⟨b, 10, none⟩ = some (.int .i64 y))
    (fz : ∀ i, w.frozen? ⟨b, i, none⟩ = false) :
    Calls Try.prog 37 #[.pointer (some ⟨b, 6, none⟩), .func (.func 33) #[] #[.pointer (some pe), .pointer (some pn), .pointer (some pm)]] w fun r w' => r = .returned (.tuple #[]) ∧ slowEnd w b e n = w' := by
  have f6 := fz 6
  have f7 := fz 7
  have f9 := fz 9
  have f10 := fz 10
  clear fz
  have hl := run_call_load (P := Try.prog) Try.func38 (by kernel_rfl) (by kernel_rfl) (by kernel_rfl) .u32 (by kernel_rfl) (w := w.setCell ⟨b, 7, none⟩ (.int .i32 1)) (a := ⟨b, 6, none⟩) (x := 0) (other h6 (by simp))
  have he1 := other (a := ⟨b, 7, none⟩) (v := .int .i32 1) he (ne_block hpe rfl)
  have hn1 := other (a := ⟨b, 7, none⟩) (v := .int .i32 1) hn (ne_block hpn rfl)
  have hm1 := other (a := ⟨b, 7, none⟩) (v := .int .i32 1) hm (ne_block hpm rfl)
  have h91 := other (a := ⟨b, 7, none⟩) (v := .int .i32 1) h9 (by simp)
  have h101 := other (a := ⟨b, 7, none⟩) (v := .int .i32 1) h10 (by simp)
  have hnot : ∀ (x : Bool) (w : World), (Op.unary .not (.bool x)).run Try.prog w = .ok (.bool (!x)) w := fun _ _ => rfl
  go_enter_defers Try.func37, Try.ntmps37
  go_wp2_with (first | (go_at_call 39; refine (lock_free ⟨b, 7, none⟩ _ (by go_simp) (by go_simp)).mono ?_; rintro e w' ⟨rfl, rfl⟩) | (go_at_call 33; refine (keep_need b pe pn pm e n x y _ he1 hn1 hm1 h91 h101 (by simp [f9]) (by simp [f10])).mono ?_; rintro e w' ⟨rfl, rfl⟩) | (go_at_call 36; go_in))
  -- the door: two deferred calls, the last laid first
  refine leaves_cons (f := 41) (args := #[.pointer (some ⟨b, 6, none⟩), .bool true]) (by simp) (by simp [go_sem]) ?_
  refine (store_deferred ⟨b, 6, none⟩ (.int .u32 0) .returning _ ?_ (by simp [f6])).mono ?_
  · exact other (other (other h6 (by simp)) (by simp)) (by simp)
  rintro e u' w'' ⟨rfl, rfl, rfl⟩
  refine leaves_cons (f := 40) (args := #[.pointer (some ⟨b, 7, none⟩)]) (by simp [settle]) (by simp [go_sem]) ?_
  refine (unlock_deferred ⟨b, 7, none⟩ _ _ ?_ (by simp [f7])).mono ?_
  · refine other ?_ (by simp)
    rw [World.cell?_drew]
    exact other (other (World.cell?_setCell_same w _ _ h7) (by simp)) (by simp)
  rintro e u' w'' ⟨rfl, rfl, rfl⟩
  simp [Leaves, settle, results, Try.results37, slowEnd]

set_option maxRecDepth 100000 in
set_option maxHeartbeats 1600000 in
/-- '(*sync.Once).Do', not yet done. -/
theorem do_first (b : Nat) (pe pn pm : Addr) (e n x y : Int) (w : World) (hpe : pe.block ≠ b) (hpn : pn.block ≠ b) (hpm : pm.block ≠ b)
    (he : w.cell? pe = some (.int .i64 e)) (hn : w.cell? pn = some (.int .i64 n)) (hm : w.cell? pm = some (.pointer (some ⟨b, 0, none⟩)))
    (h6 : w.cell? ⟨b, 6, none⟩ = some (.int .u32 0)) (h7 : w.cell? ⟨b, 7, none⟩ = some (.int .i32 0))
    (h9 : w.cell? ⟨b, 9, none⟩ = some (.int .i64 x)) (h10 : w.cell? ⟨b, 10, none⟩ = some (.int .i64 y))
    (fz : ∀ i, w.frozen? ⟨b, i, none⟩ = false) :
    Calls Try.prog 32 #[.pointer (some ⟨b, 6, none⟩), .func (.func 33) #[] #[.pointer (some pe), .pointer (some pn), .pointer (some pm)]] w fun r w' => r = .returned (.tuple #[]) ∧ slowEnd w b e n = w' := by
  have hl := run_call_load (P := Try.prog) Try.func38 (by kernel_rfl) (by kernel_rfl) (by kernel_rfl) .u32 (by kernel_rfl) h6
  have hnot : ∀ (x : Bool) (w : World), (Op.unary .not (.bool x)).run Try.prog w = .ok (.bool (!x)) w := fun _ _ => rfl
  go_enter Try.func32, Try.ntmps32
  go_wp2_with (first | (go_at_call 37; refine (slow_any b pe pn pm e n x y _ hpe hpn hpm he hn hm h6 h7 h9 h10 fz).mono ?_; rintro e w' ⟨rfl, rfl⟩) | (go_at_call 36; go_in))
  go_end0
  exact ⟨rfl, rfl⟩

/-- '(*sync.Once).Do', done already: the function is not called. -/
theorem do_done (a : Addr) (fv : Value) (w : World) (h6 : w.cell? a = some (.int .u32 1)) :
    Calls Try.prog 32 #[.pointer (some a), fv] w fun r w' => r = .returned (.tuple #[]) ∧ w = w' := by
  have hl := run_call_load (P := Try.prog) Try.func38 (by kernel_rfl) (by kernel_rfl) (by kernel_rfl) .u32 (by kernel_rfl) h6
  have hnot : ∀ (x : Bool) (w : World), (Op.unary .not (.bool x)).run Try.prog w = .ok (.bool (!x)) w := fun _ _ => rfl
  go_enter Try.func32, Try.ntmps32
  go_wp2
  go_end0
  exact ⟨rfl, rfl⟩
end Go.Proofs.Ytpooglajfiddhaa
