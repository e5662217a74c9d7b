/- The meter's Keep and New, and its methods on a meter that is not there. -/
import Derived.Test.YtpooglajfiddhaaMeter2
namespace Go.Proofs.Ytpooglajfiddhaa
open Go.RowKit

theorem gb_of_ext {w w' : World} (h : Ext w w') (r : Option Nat) : w.grownBy w' r := ⟨h.os, h.tape, h.output, h.size, fun k hk _ => h.block k hk⟩

/-- Keep, of n limbs and so many terms -/
def MSt.keep (s : MSt) (n len : Nat) : Int × MSt := if s.li < n then (10, s.refuse 10 n) else if s.te < len then (11, s.refuse 11 len) else (0, s)

theorem keep_any {S : Nat → Prop} (b : Nat) (s : MSt) (v : Value) (ts : List RTerm) (w : World) (h : MeterAt w b s) (ht : Terms S w v ts) (hS : ∀ k, S k → k < w.heap.size) :
    Calls Try.prog 17 #[.pointer (some ⟨b, 0, none⟩), v] w (Met w b (s.keep (mostLimbs ts ts.length) ts.length).1 (s.keep (mostLimbs ts ts.length) ts.length).2) := by
  have hb := lt_of_cell h.c0
  have hll := mostLimbs_le ht ts.length (Nat.le_refl _)
  have hlen := ht.len_le
  obtain ⟨a, cap, rfl⟩ := ht.form
  have HT := hid ht
  generalize hn : mostLimbs ts ts.length = n at hll
  have HN := hid hn
  have H := hid h
  clear ht h hn
  by_cases h1 : s.li < n
  · have e1 : s.keep n ts.length = (10, s.refuse 10 n) := by simp [MSt.keep, h1]
    rw [e1]
    clear e1
    go_enter Try.func17, Try.ntmps17
    go_wp2_with fail
    refine (limbs_any _ ts _ HT.out hS).mono ?_
    rintro e w' ⟨rfl, hx⟩
    rw [HN.out]
    have q1 := (H.out.kept hx hb).c1
    have HX := hid hx
    clear hx
    go_wp2_with (go_at_call 27; refine (refuse_any b s 10 n _ (H.out.kept HX.out hb) (by decide)).mono ?_; rintro e w'' ⟨rfl, hq⟩)
    go_ret
    exact ⟨rfl, hq.1, gb_trans (gb_of_ext HX.out _) hq.2⟩
  by_cases h2 : s.te < ts.length
  · have e1 : s.keep n ts.length = (11, s.refuse 11 ts.length) := by simp [MSt.keep, h1, h2]
    rw [e1]
    clear e1
    go_enter Try.func17, Try.ntmps17
    go_wp2_with fail
    refine (limbs_any _ ts _ HT.out hS).mono ?_
    rintro e w' ⟨rfl, hx⟩
    rw [HN.out]
    have q1 := (H.out.kept hx hb).c1
    have q2 := (H.out.kept hx hb).c2
    have HX := hid hx
    clear hx
    go_wp2_with (go_at_call 27; refine (refuse_any b s 11 ts.length _ (H.out.kept HX.out hb) (by decide)).mono ?_; rintro e w'' ⟨rfl, hq⟩)
    go_ret
    exact ⟨rfl, hq.1, gb_trans (gb_of_ext HX.out _) hq.2⟩
  · have e1 : s.keep n ts.length = (0, s) := by simp [MSt.keep, h1, h2]
    rw [e1]
    clear e1
    go_enter Try.func17, Try.ntmps17
    go_wp2_with fail
    refine (limbs_any _ ts _ HT.out hS).mono ?_
    rintro e w' ⟨rfl, hx⟩
    rw [HN.out]
    have q1 := (H.out.kept hx hb).c1
    have q2 := (H.out.kept hx hb).c2
    have HX := hid hx
    clear hx
    go_wp2_with fail
    go_ret
    exact ⟨rfl, H.out.kept HX.out hb, gb_of_ext HX.out _⟩

/-- a new meter's state -/
def MSt.new (a b c d : Int) : MSt := ⟨a, b, c, d, 0, 0, 0, 0⟩
def mayLimits (a b c d : Int) : Prop := (0 ≤ a ∧ a ≤ 1000000) ∧ (0 ≤ b ∧ b ≤ 10000) ∧ (0 ≤ c ∧ c ≤ 100000) ∧ 0 ≤ d ∧ d ≤ 1000

/-- New: a pointer to a meter in memory of its own; ErrArg and none. -/
def NewPost (a b c d : Int) (w : World) : Ending → World → Prop := fun e w' =>
  Ext w w' ∧ ((mayLimits a b c d ∧ ∃ k, w.heap.size ≤ k ∧ MeterAt w' k (MSt.new a b c d) ∧ e = .returned (.tuple #[.pointer (some ⟨k, 0, none⟩), .int .i64 0])) ∨
    (¬ mayLimits a b c d ∧ e = .returned (.tuple #[.pointer none, .int .i64 2])))

def okTo (a b c d : Int) (k : Nat) : Prop := (0 < k → 0 ≤ a ∧ a ≤ 1000000) ∧ (1 < k → 0 ≤ b ∧ b ≤ 10000) ∧ (2 < k → 0 ≤ c ∧ c ≤ 100000) ∧ (3 < k → 0 ≤ d ∧ d ≤ 1000)

theorem newPost_no {a b c d : Int} {w w' : World} {e : Ending} (h : ¬ mayLimits a b c d) (hx : Ext w w') (he : e = .returned (.tuple #[.pointer none, .int .i64 2])) : NewPost a b c d w e w' := ⟨hx, .inr ⟨h, he⟩⟩

set_option maxRecDepth 100000 in
set_option maxHeartbeats 2000000 in
theorem new_any (a b c d : Int) (w : World) :
    Calls Try.prog 10 #[.agg #[.int .i64 a, .int .i64 b, .int .i64 c, .int .i64 d]] w (NewPost a b c d w) := by
  have i0 : ∀ w, (Instr.index 79 (.agg #[.int .i64 a, .int .i64 1000000, .int .i64 b, .int .i64 10000, .int .i64 c, .int .i64 100000, .int .i64 d, .int .i64 1000]) (.int .i64 0)).run Try.prog w = .ok (.agg #[.int .i64 a, .int .i64 1000000]) w := fun _ => by kernel_rfl
  have i1 : ∀ w, (Instr.index 79 (.agg #[.int .i64 a, .int .i64 1000000, .int .i64 b, .int .i64 10000, .int .i64 c, .int .i64 100000, .int .i64 d, .int .i64 1000]) (.int .i64 1)).run Try.prog w = .ok (.agg #[.int .i64 b, .int .i64 10000]) w := fun _ => by kernel_rfl
  have i2 : ∀ w, (Instr.index 79 (.agg #[.int .i64 a, .int .i64 1000000, .int .i64 b, .int .i64 10000, .int .i64 c, .int .i64 100000, .int .i64 d, .int .i64 1000]) (.int .i64 2)).run Try.prog w = .ok (.agg #[.int .i64 c, .int .i64 100000]) w := fun _ => by kernel_rfl
  have i3 : ∀ w, (Instr.index 79 (.agg #[.int .i64 a, .int .i64 1000000, .int .i64 b, .int .i64 10000, .int .i64 c, .int .i64 100000, .int .i64 d, .int .i64 1000]) (.int .i64 3)).run Try.prog w = .ok (.agg #[.int .i64 d, .int .i64 1000]) w := fun _ => by kernel_rfl
  have HX0 : Hid (Ext w (w.alloc (.cells #[.int .i64 a, .int .i64 b, .int .i64 c, .int .i64 d] 23))) := hid (Ext.alloc (Ext.refl _) _)
  go_enter Try.func10, Try.ntmps10
  go_wp2
  go_loopw [19] (fun i wr => ∃ k : Nat, k ≤ 4 ∧ i = .int .i64 k ∧ okTo a b c d k ∧ Ext (w.alloc (.cells #[.int .i64 a, .int .i64 b, .int .i64 c, .int .i64 d] 23)) wr) (fun i _ => 4 - (intOf i).toNat)
  case atStart => exact ⟨0, by omega, rfl, ⟨by omega, by omega, by omega, by omega⟩, Ext.refl _⟩
  case round =>
    obtain ⟨k, hk, rfl, hok, hx⟩ := hrel
    have HO := hid hok
    have HX := hid hx
    have e0 := Ext.cell hx (cell_new w #[.int .i64 a, .int .i64 b, .int .i64 c, .int .i64 d] 23 rfl (i := 0) rfl)
    have e1 := Ext.cell hx (cell_new w #[.int .i64 a, .int .i64 b, .int .i64 c, .int .i64 d] 23 rfl (i := 1) rfl)
    have e2 := Ext.cell hx (cell_new w #[.int .i64 a, .int .i64 b, .int .i64 c, .int .i64 d] 23 rfl (i := 2) rfl)
    have e3 := Ext.cell hx (cell_new w #[.int .i64 a, .int .i64 b, .int .i64 c, .int .i64 d] 23 rfl (i := 3) rfl)
    clear hok hx
    obtain rfl | rfl | rfl | rfl | rfl : k = 0 ∨ k = 1 ∨ k = 2 ∨ k = 3 ∨ k = 4 := by omega
    · by_cases h1 : a < 0
      · go_wp2
        go_ret2
        exact newPost_no (fun h => by have := h.1; omega) (HX0.out.trans (Ext.alloc HX.out _)) rfl
      by_cases h2 : a ≤ 1000000
      · go_wp2
        go_roundw
        case rel => exact ⟨1, by omega, rfl, ⟨by omega, by omega, by omega, by omega⟩, Ext.alloc HX.out _⟩
        case measure => simp [intOf]
      · go_wp2
        go_ret2
        exact newPost_no (fun h => by have := h.1; omega) (HX0.out.trans (Ext.alloc HX.out _)) rfl
    · by_cases h1 : b < 0
      · go_wp2
        go_ret2
        exact newPost_no (fun h => by have := h.2.1; omega) (HX0.out.trans (Ext.alloc HX.out _)) rfl
      by_cases h2 : b ≤ 10000
      · go_wp2
        go_roundw
        case rel => exact ⟨2, by omega, rfl, ⟨fun _ => HO.out.1 (by omega), by omega, by omega, by omega⟩, Ext.alloc HX.out _⟩
        case measure => simp [intOf]
      · go_wp2
        go_ret2
        exact newPost_no (fun h => by have := h.2.1; omega) (HX0.out.trans (Ext.alloc HX.out _)) rfl
    · by_cases h1 : c < 0
      · go_wp2
        go_ret2
        exact newPost_no (fun h => by have := h.2.2.1; omega) (HX0.out.trans (Ext.alloc HX.out _)) rfl
      by_cases h2 : c ≤ 100000
      · go_wp2
        go_roundw
        case rel => exact ⟨3, by omega, rfl, ⟨fun _ => HO.out.1 (by omega), fun _ => HO.out.2.1 (by omega), by omega, by omega⟩, Ext.alloc HX.out _⟩
        case measure => simp [intOf]
      · go_wp2
        go_ret2
        exact newPost_no (fun h => by have := h.2.2.1; omega) (HX0.out.trans (Ext.alloc HX.out _)) rfl
    · by_cases h1 : d < 0
      · go_wp2
        go_ret2
        exact newPost_no (fun h => by have := h.2.2.2; omega) (HX0.out.trans (Ext.alloc HX.out _)) rfl
      by_cases h2 : d ≤ 1000
      · go_wp2
        go_roundw
        case rel => exact ⟨4, by omega, rfl, ⟨fun _ => HO.out.1 (by omega), fun _ => HO.out.2.1 (by omega), fun _ => HO.out.2.2.1 (by omega), by omega⟩, Ext.alloc HX.out _⟩
        case measure => simp [intOf]
      · go_wp2
        go_ret2
        exact newPost_no (fun h => by have := h.2.2.2; omega) (HX0.out.trans (Ext.alloc HX.out _)) rfl
    · go_wp2
      go_ret2
      refine ⟨HX0.out.trans (Ext.alloc HX.out _), .inl ⟨⟨HO.out.1 (by omega), HO.out.2.1 (by omega), HO.out.2.2.1 (by omega), HO.out.2.2.2 (by omega)⟩, _, Nat.le_trans HX0.out.size HX.out.size, ?_, rfl⟩⟩
      exact ⟨cell_new _ _ _ rfl rfl, cell_new _ _ _ rfl rfl, cell_new _ _ _ rfl rfl, cell_new _ _ _ rfl rfl, cell_new _ _ _ rfl rfl, cell_new _ _ _ rfl rfl, cell_new _ _ _ rfl rfl, cell_new _ _ _ rfl rfl, cell_new _ _ _ rfl rfl, cell_new _ _ _ rfl rfl, cell_new _ _ _ rfl rfl, fun i => free_new _ _ _⟩
end Go.Proofs.Ytpooglajfiddhaa
