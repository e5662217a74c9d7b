/- The meter's methods: each answers an error's number, or a count, and changes its own block alone. -/
import Derived.Test.YtpooglajfiddhaaMeter
import Derived.Test.YtpooglajfiddhaaLimbs
import Derived.StillTailTactics
namespace Go.Proofs.Ytpooglajfiddhaa
open Go.RowKit

theorem count_ok (b o : Nat) (n most e : Int) (w : World) (hn : w.cell? ⟨b, o, none⟩ = some (.int .i64 n)) (hf : w.frozen? ⟨b, o, none⟩ = false) (h0 : 0 ≤ n) (h1 : n ≤ 1000000000) (hlt : n < most) :
    Calls Try.prog 24 #[.pointer (some ⟨b, 0, none⟩), .pointer (some ⟨b, o, none⟩), .int .i64 most, .int .i64 e] w fun r w' => r = .returned (.int .i64 0) ∧ w.setCell ⟨b, o, none⟩ (.int .i64 (n + 1)) = w' := by
  go_enter Try.func24, Try.ntmps24
  go_wp2_with (first | (go_at_call 29; refine (i64_load _ n _ hn).mono ?_; rintro e w' ⟨rfl, rfl⟩) | (go_at_call 30; refine (i64_add1 _ n _ hn hf h0 h1).mono ?_; rintro e w' ⟨rfl, rfl⟩))
  go_ret
  exact ⟨rfl, rfl⟩

theorem count_no (b o : Nat) (s : MSt) (n most e : Int) (w : World) (h : MeterAt w b s) (hn : w.cell? ⟨b, o, none⟩ = some (.int .i64 n)) (he : e ≠ 0) (hlt : most ≤ n) (hm : -1 ≤ most) (hm' : most ≤ 1000000000) :
    Calls Try.prog 24 #[.pointer (some ⟨b, 0, none⟩), .pointer (some ⟨b, o, none⟩), .int .i64 most, .int .i64 e] w (Met w b e (s.refuse e (most + 1))) := by
  have H := hid h
  have HE := hid he
  clear h he
  go_enter Try.func24, Try.ntmps24
  go_wp2_with (first | (go_at_call 29; refine (i64_load _ n _ hn).mono ?_; rintro e w' ⟨rfl, rfl⟩) | (go_at_call 27; refine (refuse_any b s e (most + 1) _ H.out HE.out).mono ?_; rintro e w' ⟨rfl, hq⟩))
  go_ret
  exact ⟨rfl, hq⟩

/-- Step -/
def MSt.step (s : MSt) : Int × MSt := if s.st < s.fu then (0, { s with st := s.st + 1 }) else (9, s.refuse 9 (s.fu + 1))

structure MSt.Ok (s : MSt) : Prop where
  f0 : 0 ≤ s.fu
  f1 : s.fu ≤ 1000000
  l0 : 0 ≤ s.li
  l1 : s.li ≤ 10000
  t0 : 0 ≤ s.te
  t1 : s.te ≤ 100000
  p0 : 0 ≤ s.pi
  p1 : s.pi ≤ 1000
  s0 : 0 ≤ s.st
  s1 : s.st ≤ s.fu
  c0 : 0 ≤ s.pc
  c1 : s.pc ≤ s.pi

theorem MeterAt.drew {w : World} {b : Nat} {s : MSt} (h : MeterAt w b s) : MeterAt w.drew b s := h.grown (r := none) (gb_drew (gb_refl w none)) (by simp)
theorem MeterAt.setSt {w : World} {b : Nat} {s : MSt} (h : MeterAt w b s) (n : Int) : MeterAt (w.setCell ⟨b, 4, none⟩ (.int .i64 n)) b { s with st := n } :=
  ⟨other h.c0 (ao (by omega)), other h.c1 (ao (by omega)), other h.c2 (ao (by omega)), other h.c3 (ao (by omega)), same_of h.c4, other h.c5 (ao (by omega)), other h.c6 (ao (by omega)), other h.c7 (ao (by omega)), other h.c8 (ao (by omega)), other h.c9 (ao (by omega)), other h.c10 (ao (by omega)), fun i => free_set (h.fz i)⟩
theorem MeterAt.setPc {w : World} {b : Nat} {s : MSt} (h : MeterAt w b s) (n : Int) : MeterAt (w.setCell ⟨b, 5, none⟩ (.int .i64 n)) b { s with pc := n } :=
  ⟨other h.c0 (ao (by omega)), other h.c1 (ao (by omega)), other h.c2 (ao (by omega)), other h.c3 (ao (by omega)), other h.c4 (ao (by omega)), same_of h.c5, other h.c6 (ao (by omega)), other h.c7 (ao (by omega)), other h.c8 (ao (by omega)), other h.c9 (ao (by omega)), other h.c10 (ao (by omega)), fun i => free_set (h.fz i)⟩
theorem Met.of_drew {w : World} {b : Nat} {r : Int} {s : MSt} {e : Ending} {w' : World} (h : Met w.drew b r s e w') : Met w b r s e w' :=
  ⟨h.1, h.2.1, gb_trans (gb_drew (gb_refl w _)) h.2.2⟩

set_option maxRecDepth 100000 in
theorem step_any (b : Nat) (s : MSt) (w : World) (h : MeterAt w b s) (ok : s.Ok) :
    Calls Try.prog 13 #[.pointer (some ⟨b, 0, none⟩)] w (Met w b s.step.1 s.step.2) := by
  have hfu := h.c0
  have hst : w.drew.cell? ⟨b, 4, none⟩ = some (.int .i64 s.st) := by rw [World.cell?_drew]; exact h.c4
  have hf : w.drew.frozen? ⟨b, 4, none⟩ = false := by rw [World.frozen?_drew]; exact h.fz 4
  have b1 := ok.f0
  have b2 := ok.f1
  have b3 := ok.s0
  have b4 := ok.s1
  have H := hid h.drew
  clear h ok
  by_cases hlt : s.st < s.fu
  · have e1 : s.step = (0, { s with st := s.st + 1 }) := by simp [MSt.step, hlt]
    rw [e1]
    clear e1
    go_enter Try.func13, Try.ntmps13
    go_wp2
    go_still_tail 9, (by kernel_rfl)
    change wpList _ _ _ _ _ w.drew
    go_wp2_with (go_at_call 24; refine (count_ok b 4 s.st s.fu 9 w.drew hst hf b3 (by omega) hlt).mono ?_; rintro e w' ⟨rfl, rfl⟩)
    go_ret
    exact Met.of_drew ⟨rfl, H.out.setSt _, gb_setCell (gb_refl _ _) rfl _⟩
  · have e1 : s.step = (9, s.refuse 9 (s.fu + 1)) := by simp [MSt.step, hlt]
    rw [e1]
    clear e1
    go_enter Try.func13, Try.ntmps13
    go_wp2
    go_still_tail 9, (by kernel_rfl)
    change wpList _ _ _ _ _ w.drew
    go_wp2_with (go_at_call 24; refine (count_no b 4 s s.st s.fu 9 w.drew H.out hst (by decide) (by omega) (by omega) (by omega)).mono ?_; rintro e w' ⟨rfl, hq⟩)
    go_ret
    exact Met.of_drew ⟨rfl, hq⟩

/-- Piece -/
def MSt.piece (s : MSt) : Int × MSt := if s.pc < s.pi then (0, { s with pc := s.pc + 1 }) else (12, s.refuse 12 (s.pi + 1))

set_option maxRecDepth 100000 in
theorem piece_any (b : Nat) (s : MSt) (w : World) (h : MeterAt w b s) (ok : s.Ok) :
    Calls Try.prog 15 #[.pointer (some ⟨b, 0, none⟩)] w (Met w b s.piece.1 s.piece.2) := by
  have hfu := h.c3
  have hst : w.drew.cell? ⟨b, 5, none⟩ = some (.int .i64 s.pc) := by rw [World.cell?_drew]; exact h.c5
  have hf : w.drew.frozen? ⟨b, 5, none⟩ = false := by rw [World.frozen?_drew]; exact h.fz 5
  have b1 := ok.p0
  have b2 := ok.p1
  have b3 := ok.c0
  have b4 := ok.c1
  have H := hid h.drew
  clear h ok
  by_cases hlt : s.pc < s.pi
  · have e1 : s.piece = (0, { s with pc := s.pc + 1 }) := by simp [MSt.piece, hlt]
    rw [e1]
    clear e1
    go_enter Try.func15, Try.ntmps15
    go_wp2
    go_still_tail 9, (by kernel_rfl)
    change wpList _ _ _ _ _ w.drew
    go_wp2_with (go_at_call 24; refine (count_ok b 5 s.pc s.pi 12 w.drew hst hf b3 (by omega) hlt).mono ?_; rintro e w' ⟨rfl, rfl⟩)
    go_ret
    exact Met.of_drew ⟨rfl, H.out.setPc _, gb_setCell (gb_refl _ _) rfl _⟩
  · have e1 : s.piece = (12, s.refuse 12 (s.pi + 1)) := by simp [MSt.piece, hlt]
    rw [e1]
    clear e1
    go_enter Try.func15, Try.ntmps15
    go_wp2
    go_still_tail 9, (by kernel_rfl)
    change wpList _ _ _ _ _ w.drew
    go_wp2_with (go_at_call 24; refine (count_no b 5 s s.pc s.pi 12 w.drew H.out hst (by decide) (by omega) (by omega) (by omega)).mono ?_; rintro e w' ⟨rfl, hq⟩)
    go_ret
    exact Met.of_drew ⟨rfl, hq⟩

/-- Refuse -/
def MSt.refused (s : MSt) (e : Int) : MSt := if e = 8 then s.refuse 8 0 else s

theorem Refuse_any (b : Nat) (s : MSt) (e : Int) (w : World) (h : MeterAt w b s) :
    Calls Try.prog 19 #[.pointer (some ⟨b, 0, none⟩), .int .i64 e] w (Met w b e (s.refused e)) := by
  have H := hid h
  clear h
  by_cases he : e = 8
  · subst he
    have e1 : s.refused 8 = s.refuse 8 0 := by simp [MSt.refused]
    rw [e1]
    clear e1
    go_enter Try.func19, Try.ntmps19
    go_wp2_with (go_at_call 27; refine (refuse_any b s 8 0 _ H.out (by decide)).mono ?_; rintro e w' ⟨rfl, hq⟩)
    go_ret
    exact ⟨rfl, hq⟩
  · have e1 : s.refused e = s := by simp [MSt.refused, he]
    have hb : (e == 8) = false := by simpa using he
    rw [e1]
    clear e1 he
    go_enter Try.func19, Try.ntmps19
    go_wp2
    go_ret
    exact ⟨rfl, H.out, gb_refl _ _⟩

theorem Fuel_any (b : Nat) (s : MSt) (w : World) (h : MeterAt w b s) :
    Calls Try.prog 21 #[.pointer (some ⟨b, 0, none⟩)] w fun e w' => e = .returned (.int .i64 s.st) ∧ w = w' := by
  have h4 := h.c4
  clear h
  go_enter Try.func21, Try.ntmps21
  go_wp2_with (go_at_call 29; refine (i64_load _ s.st _ h4).mono ?_; rintro e w' ⟨rfl, rfl⟩)
  go_ret
  exact ⟨rfl, rfl⟩
theorem Pieces_any (b : Nat) (s : MSt) (w : World) (h : MeterAt w b s) :
    Calls Try.prog 22 #[.pointer (some ⟨b, 0, none⟩)] w fun e w' => e = .returned (.int .i64 s.pc) ∧ w = w' := by
  have h4 := h.c5
  clear h
  go_enter Try.func22, Try.ntmps22
  go_wp2_with (go_at_call 29; refine (i64_load _ s.pc _ h4).mono ?_; rintro e w' ⟨rfl, rfl⟩)
  go_ret
  exact ⟨rfl, rfl⟩
theorem Need_any (b : Nat) (s : MSt) (w : World) (h : MeterAt w b s) :
    Calls Try.prog 23 #[.pointer (some ⟨b, 0, none⟩)] w fun e w' => e = .returned (.agg #[.int .i64 s.wh, .int .i64 s.nn]) ∧ Ext w w' := by
  have h9 := fun o => cell_old (w := w) o h.c9
  have h10 := fun o => cell_old (w := w) o h.c10
  clear h
  go_enter Try.func23, Try.ntmps23
  go_wp2
  exact bodyPost_ret (v := .agg #[.int .i64 s.wh, .int .i64 s.nn]) (by simp [results, Try.results23, go_sem]) rfl ⟨rfl, Ext.alloc (Ext.refl _) _⟩
theorem Limits_any (b : Nat) (s : MSt) (w : World) (h : MeterAt w b s) :
    Calls Try.prog 12 #[.pointer (some ⟨b, 0, none⟩)] w fun e w' => e = .returned (.agg #[.int .i64 s.fu, .int .i64 s.li, .int .i64 s.te, .int .i64 s.pi]) ∧ Ext w w' := by
  have h0 := fun o => cell_old (w := w) o h.c0
  have h1 := fun o => cell_old (w := w) o h.c1
  have h2 := fun o => cell_old (w := w) o h.c2
  have h3 := fun o => cell_old (w := w) o h.c3
  clear h
  go_enter Try.func12, Try.ntmps12
  go_wp2
  exact bodyPost_ret (v := .agg #[.int .i64 s.fu, .int .i64 s.li, .int .i64 s.te, .int .i64 s.pi]) (by simp [results, Try.results12, go_sem]) rfl ⟨rfl, Ext.alloc (Ext.refl _) _⟩
end Go.Proofs.Ytpooglajfiddhaa
