/- How two numbers are ordered, how two monomials are. -/
import Derived.Test.YthplgldclilccaaMonoBoth
namespace Go.Proofs.Ythplgldclilccaa
open Go.RowKit

theorem nan_int (x : Int) (w : World) (h1 : -9223372036854775808 ≤ x) (h2 : x ≤ 9223372036854775807) :
    Calls Try.prog 79 #[.int .i64 x] w fun e w' => e = .returned (.bool false) ∧ w' = w := by
  have hb : (x != x) = false := by simp
  go_enter Try.func79, Try.ntmps79
  go_wp2
  all_goals
    go_ret
    exact ⟨rfl, rfl⟩

theorem cmp_int (x y : Int) (w : World) (hx : -9223372036854775808 ≤ x ∧ x ≤ 9223372036854775807) (hy : -9223372036854775808 ≤ y ∧ y ≤ 9223372036854775807) :
    Calls Try.prog 42 #[.int .i64 x, .int .i64 y] w fun e w' => e = .returned (.int .i64 (cmpI x y)) ∧ w' = w := by
  obtain ⟨hx1, hx2⟩ := hx
  obtain ⟨hy1, hy2⟩ := hy
  rcases (show x < y ∨ y < x ∨ x = y by omega) with h | h | h
  · have e : cmpI x y = -1 := by simp [cmpI, h]
    rw [e]
    clear e
    go_enter Try.func42, Try.ntmps42
    go_wp2_with (go_at_call 79; refine (nan_int _ _ (by assumption) (by assumption)).mono ?_; rintro e w' ⟨rfl, rfl⟩)
    all_goals
      go_ret
      exact ⟨rfl, rfl⟩
  · have e : cmpI x y = 1 := by simp [cmpI, h]; omega
    rw [e]
    clear e
    go_enter Try.func42, Try.ntmps42
    go_wp2_with (go_at_call 79; refine (nan_int _ _ (by assumption) (by assumption)).mono ?_; rintro e w' ⟨rfl, rfl⟩)
    all_goals
      go_ret
      exact ⟨rfl, rfl⟩
  · subst h
    have e : cmpI x x = 0 := by simp [cmpI]
    rw [e]
    clear e
    go_enter Try.func42, Try.ntmps42
    go_wp2_with (go_at_call 79; refine (nan_int _ _ (by assumption) (by assumption)).mono ?_; rintro e w' ⟨rfl, rfl⟩)
    all_goals
      go_ret
      exact ⟨rfl, rfl⟩

theorem cmp_step (z x y c : Int) (b : Nat) (w : World) (hx : inI64 x) (hy : inI64 y) (hc : w.cell? ⟨b, 0, none⟩ = some (.int .i64 c)) (hf : w.frozen? ⟨b, 0, none⟩ = false) :
    Calls Try.prog 116 #[.int .i64 z, .int .i64 x, .int .i64 y, .pointer (some ⟨b, 0, none⟩)] w fun e w' => e = .returned (.tuple #[]) ∧ w' = if x = y then w else w.setCell ⟨b, 0, none⟩ (.int .i64 (cmpI x y)) := by
  unfold inI64 at hx hy
  by_cases h : x = y
  · subst h
    have hb : (x != x) = false := by simp
    go_enter Try.func116, Try.ntmps116
    go_wp2
    all_goals
      go_end0
      simp
  · have hb : (x != y) = true := by simpa using h
    rw [if_neg h]
    go_enter Try.func116, Try.ntmps116
    go_wp2_with (go_at_call 42; refine (cmp_int _ _ _ hx hy).mono ?_; rintro e w' ⟨rfl, rfl⟩)
    all_goals
      go_end0
      exact ⟨rfl, rfl⟩

theorem cmpL_append (d : List (Int × Int × Int)) (t : Int × Int × Int) (c : Int) : cmpL (d ++ [t]) c = if t.2.1 = t.2.2 then cmpL d c else cmpI t.2.1 t.2.2 := by
  induction d generalizing c with
  | nil => simp [cmpL]
  | cons s d ih => simp [cmpL, ih]

/-- the numbers of a monomial are such as an int holds -/
def inBounds (m : Mono) : Prop := ∀ x ∈ m, inI64 x.1 ∧ inI64 x.2
theorem Pows.inBounds {S : Nat → Prop} {w : World} {v : Value} {m : Mono} (h : Pows S w v m) : inBounds m := by
  obtain ⟨b, off, hs, hc⟩ := h
  intro x hx
  obtain ⟨j, hj⟩ := List.getElem?_of_mem hx
  exact (hc j x hj).1
theorem bothF_bounds (n : Nat) (a b : Mono) (ha : inBounds a) (hb : inBounds b) : ∀ t ∈ bothF n a b, inI64 t.1 ∧ inI64 t.2.1 ∧ inI64 t.2.2 := by
  have h0 : inI64 0 := by unfold inI64; omega
  induction n generalizing a b with
  | zero => intro t ht; simp [bothF] at ht
  | succ n ih =>
    intro t ht
    cases a with
    | nil =>
      cases b with
      | nil => simp [bothF] at ht
      | cons y b =>
        simp only [bothF, List.mem_cons] at ht
        have hy := hb y (by simp)
        rcases ht with rfl | ht
        · exact ⟨hy.1, h0, hy.2⟩
        · exact ih [] b ha (fun x hx => hb x (by simp [hx])) t ht
    | cons x a =>
      have hx := ha x (by simp)
      have ha' : inBounds a := fun x hx => ha x (by simp [hx])
      cases b with
      | nil =>
        simp only [bothF, List.mem_cons] at ht
        rcases ht with rfl | ht
        · exact ⟨hx.1, hx.2, h0⟩
        · exact ih a [] ha' hb t ht
      | cons y b =>
        have hy := hb y (by simp)
        have hb' : inBounds b := fun x hx => hb x (by simp [hx])
        simp only [bothF] at ht
        split at ht
        · rcases List.mem_cons.1 ht with rfl | ht
          · exact ⟨hx.1, hx.2, h0⟩
          · exact ih a (y :: b) ha' hb t ht
        · split at ht
          · rcases List.mem_cons.1 ht with rfl | ht
            · exact ⟨hy.1, h0, hy.2⟩
            · exact ih (x :: a) b ha hb' t ht
          · rcases List.mem_cons.1 ht with rfl | ht
            · exact ⟨hx.1, hx.2, hy.2⟩
            · exact ih a b ha' hb' t ht
theorem both_bounds {a b : Mono} (ha : inBounds a) (hb : inBounds b) : ∀ t ∈ both a b, inI64 t.1 ∧ inI64 t.2.1 ∧ inI64 t.2.2 := bothF_bounds _ a b ha hb
end Go.Proofs.Ythplgldclilccaa
