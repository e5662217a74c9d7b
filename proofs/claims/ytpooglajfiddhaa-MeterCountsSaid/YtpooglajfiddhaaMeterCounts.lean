/- MeterCounts: so many steps, and pieces, are counted as the limits say. No condition. -/
import Derived.Test.YtpooglajfiddhaaMeterNone
import Derived.Deep.RegionHeld3
namespace Go.Proofs.Ytpooglajfiddhaa
open Go.RowKit

theorem box_keep {w3 W w' : World} {a b c d : Int} {B : Nat} (h : Ext w3 W ∧ W.cell? ⟨B, 0, none⟩ = some (.int .i64 a) ∧ W.cell? ⟨B, 1, none⟩ = some (.int .i64 b) ∧ W.cell? ⟨B, 2, none⟩ = some (.int .i64 c) ∧ W.cell? ⟨B, 3, none⟩ = some (.int .i64 d)) {r : Nat} (hg : W.grownBy w' (some r)) (hr : w3.heap.size ≤ r) (hB : B ≠ r) :
    Ext w3 w' ∧ w'.cell? ⟨B, 0, none⟩ = some (.int .i64 a) ∧ w'.cell? ⟨B, 1, none⟩ = some (.int .i64 b) ∧ w'.cell? ⟨B, 2, none⟩ = some (.int .i64 c) ∧ w'.cell? ⟨B, 3, none⟩ = some (.int .i64 d) :=
  ⟨ext_of_gb h.1 hg hr, hg.cell h.2.1 (by simp [hB]), hg.cell h.2.2.1 (by simp [hB]), hg.cell h.2.2.2.1 (by simp [hB]), hg.cell h.2.2.2.2 (by simp [hB])⟩

theorem fuel_at {w : World} {bm : Nat} {a b c d st pc wh nn : Int} (h : MeterAt w bm ⟨a, b, c, d, st, pc, wh, nn⟩) : Calls Try.prog 21 #[.pointer (some ⟨bm, 0, none⟩)] w fun e w' => e = .returned (.int .i64 st) ∧ w = w' := Fuel_any bm _ w h
theorem pieces_at {w : World} {bm : Nat} {a b c d st pc wh nn : Int} (h : MeterAt w bm ⟨a, b, c, d, st, pc, wh, nn⟩) : Calls Try.prog 22 #[.pointer (some ⟨bm, 0, none⟩)] w fun e w' => e = .returned (.int .i64 pc) ∧ w = w' := Pieces_any bm _ w h
theorem need_at {w : World} {bm : Nat} {a b c d st pc wh nn : Int} (h : MeterAt w bm ⟨a, b, c, d, st, pc, wh, nn⟩) : Calls Try.prog 23 #[.pointer (some ⟨bm, 0, none⟩)] w fun e w' => e = .returned (.agg #[.int .i64 wh, .int .i64 nn]) ∧ Ext w w' := Need_any bm _ w h
theorem limits_at {w : World} {bm : Nat} {a b c d st pc wh nn : Int} (h : MeterAt w bm ⟨a, b, c, d, st, pc, wh, nn⟩) : Calls Try.prog 12 #[.pointer (some ⟨bm, 0, none⟩)] w fun e w' => e = .returned (.agg #[.int .i64 a, .int .i64 b, .int .i64 c, .int .i64 d]) ∧ Ext w w' := Limits_any bm _ w h

theorem MSt.Ok.mk' {a b c d st pc wh nn : Int} (h : mayLimits a b c d) (h0 : 0 ≤ st) (h1 : st ≤ a) (h2 : 0 ≤ pc) (h3 : pc ≤ d) : (⟨a, b, c, d, st, pc, wh, nn⟩ : MSt).Ok :=
  ⟨h.1.1, h.1.2, h.2.1.1, h.2.1.2, h.2.2.1.1, h.2.2.1.2, h.2.2.2.1, h.2.2.2.2, h0, h1, h2, h3⟩

theorem six_ext {wb W w' : World} {x y a b c d : Int} {B C : Nat} (h : Ext wb W ∧ (W.cell? ⟨B, 0, none⟩ = some (.int .i64 x) ∧ W.cell? ⟨B, 1, none⟩ = some (.int .i64 y)) ∧ W.cell? ⟨C, 0, none⟩ = some (.int .i64 a) ∧ W.cell? ⟨C, 1, none⟩ = some (.int .i64 b) ∧ W.cell? ⟨C, 2, none⟩ = some (.int .i64 c) ∧ W.cell? ⟨C, 3, none⟩ = some (.int .i64 d)) (hx : Ext W w') :
    Ext wb w' ∧ (w'.cell? ⟨B, 0, none⟩ = some (.int .i64 x) ∧ w'.cell? ⟨B, 1, none⟩ = some (.int .i64 y)) ∧ w'.cell? ⟨C, 0, none⟩ = some (.int .i64 a) ∧ w'.cell? ⟨C, 1, none⟩ = some (.int .i64 b) ∧ w'.cell? ⟨C, 2, none⟩ = some (.int .i64 c) ∧ w'.cell? ⟨C, 3, none⟩ = some (.int .i64 d) :=
  ⟨h.1.trans hx, ⟨hx.cell h.2.1.1, hx.cell h.2.1.2⟩, hx.cell h.2.2.1, hx.cell h.2.2.2.1, hx.cell h.2.2.2.2.1, hx.cell h.2.2.2.2.2⟩
/-- the same over a call that writes a block which is none of those; the bound is that of the world w at the law's beginning -/
theorem six_gb {wb W w' : World} {x y a b c d : Int} {B C r : Nat} (h : Ext wb W ∧ (W.cell? ⟨B, 0, none⟩ = some (.int .i64 x) ∧ W.cell? ⟨B, 1, none⟩ = some (.int .i64 y)) ∧ W.cell? ⟨C, 0, none⟩ = some (.int .i64 a) ∧ W.cell? ⟨C, 1, none⟩ = some (.int .i64 b) ∧ W.cell? ⟨C, 2, none⟩ = some (.int .i64 c) ∧ W.cell? ⟨C, 3, none⟩ = some (.int .i64 d)) (hg : W.grownBy w' (some r)) (h0 : wb.heap.size ≤ r) (hB : B ≠ r) (hC : C ≠ r) :
    Ext wb w' ∧ (w'.cell? ⟨B, 0, none⟩ = some (.int .i64 x) ∧ w'.cell? ⟨B, 1, none⟩ = some (.int .i64 y)) ∧ w'.cell? ⟨C, 0, none⟩ = some (.int .i64 a) ∧ w'.cell? ⟨C, 1, none⟩ = some (.int .i64 b) ∧ w'.cell? ⟨C, 2, none⟩ = some (.int .i64 c) ∧ w'.cell? ⟨C, 3, none⟩ = some (.int .i64 d) :=
  ⟨ext_of_gb h.1 hg h0, ⟨hg.cell h.2.1.1 (by simp [hB]), hg.cell h.2.1.2 (by simp [hB])⟩, hg.cell h.2.2.1 (by simp [hC]), hg.cell h.2.2.2.1 (by simp [hC]), hg.cell h.2.2.2.2.1 (by simp [hC]), hg.cell h.2.2.2.2.2 (by simp [hC])⟩
theorem keep_cases (s : MSt) (n l : Nat) (h0 : 0 ≤ s.li) (h1 : 0 ≤ s.te) : (s.wh ≠ 0 → (s.keep n l).2 = s) ∧ (s.wh = 0 → ((s.keep n l).1 = 0 ∧ (s.keep n l).2 = s) ∨ ((s.keep n l).1 ≠ 0 ∧ ∃ N : Int, 0 < N ∧ (s.keep n l).2 = { s with wh := (s.keep n l).1, nn := N })) := by
  unfold MSt.keep MSt.refuse
  refine ⟨fun h => ?_, fun h => ?_⟩
  · repeat' split
    all_goals first | rfl | (exfalso; simp_all; done)
  · split
    · exact .inr ⟨by simp, n, by omega, by simp⟩
    split
    · exact .inr ⟨by simp, l, by omega, by simp⟩
    · exact .inl ⟨rfl, rfl⟩
theorem refuse8_still {w : World} {bm : Nat} {s : MSt} (h : MeterAt w bm s) (hw : s.wh ≠ 0) : Calls Try.prog 19 #[.pointer (some ⟨bm, 0, none⟩), .int .i64 8] w (Met w bm 8 s) := by
  have := Refuse_any bm s 8 w h
  rwa [show s.refused 8 = s from by simp [MSt.refused, MSt.refuse, hw]] at this
theorem refuse8_first {w : World} {bm : Nat} {a b c d st pc : Int} (h : MeterAt w bm ⟨a, b, c, d, st, pc, 0, 0⟩) : Calls Try.prog 19 #[.pointer (some ⟨bm, 0, none⟩), .int .i64 8] w (Met w bm 8 ⟨a, b, c, d, st, pc, 8, 0⟩) := Refuse_any bm _ 8 w h
theorem piece_over {a b c d st0 wh0 nn0 wh1 nn1 : Int} {j : Int} (h : (wh0 = 0 ∧ wh1 = 12 ∧ nn1 = d + 1) ∨ (wh0 ≠ 0 ∧ wh1 = wh0 ∧ nn1 = nn0)) (hj : j = d) : (⟨a, b, c, d, st0, j, wh0, nn0⟩ : MSt).piece = (12, ⟨a, b, c, d, st0, d, wh1, nn1⟩) := by
  subst hj
  rcases h with ⟨rfl, rfl, rfl⟩ | ⟨h0, rfl, rfl⟩ <;> simp [MSt.piece, MSt.refuse, *]
theorem piece_still {a b c d st0 wh0 nn0 wh1 nn1 : Int} {n : Nat} (h : (wh0 = 0 ∧ wh1 = 12 ∧ nn1 = d + 1) ∨ (wh0 ≠ 0 ∧ wh1 = wh0 ∧ nn1 = nn0)) (hb : (n ≤ a ∧ wh0 = 0 ∧ nn0 = 0) ∨ (a < n ∧ wh0 = 9 ∧ nn0 = a + 1)) :
    (⟨a, b, c, d, st0, d, wh1, nn1⟩ : MSt).piece = (12, ⟨a, b, c, d, st0, d, wh1, nn1⟩) := by
  have h1 : wh1 ≠ 0 := by omega
  simp [MSt.piece, MSt.refuse, h1]

set_option maxRecDepth 100000 in
set_option maxHeartbeats 40000000 in
theorem counts_any {S : Nat → Prop} (a b c d : Int) (n m : Nat) (v : Value) (p : List RTerm) (w : World) (hn : n ≤ 255) (hm : m ≤ 255) (h : Terms S w v p) (hS : ∀ k, S k → k < w.heap.size) :
    Calls Try.prog 6 #[.agg #[.int .i64 a, .int .i64 b, .int .i64 c, .int .i64 d], .int .u8 n, .int .u8 m, v] w (RetTrue w) := by
  have hlen := h.len_le
  obtain ⟨av, cv, rfl⟩ := h.form
  have HX1 := hid (Ext.alloc (Ext.refl w) (.cells #[.int .i64 a, .int .i64 b, .int .i64 c, .int .i64 d] 23))
  have HT := hid h
  have HS := hid hS
  have HT1 := hid (h.to (Kept.alloc hS (.cells #[.int .i64 a, .int .i64 b, .int .i64 c, .int .i64 d] 23)) (fun _ h => h))
  have HS1 : Hid (∀ k, S k → k < (w.alloc (.cells #[.int .i64 a, .int .i64 b, .int .i64 c, .int .i64 d] 23)).heap.size) := hid (fun k hk => by have := hS k hk; rw [size_alloc]; omega)
  have HB0 := hid (cell_new w #[.int .i64 a, .int .i64 b, .int .i64 c, .int .i64 d] 23 (i := 0) (v := .int .i64 a) rfl rfl)
  have HB1 := hid (cell_new w #[.int .i64 a, .int .i64 b, .int .i64 c, .int .i64 d] 23 (i := 1) (v := .int .i64 b) rfl rfl)
  have HB2 := hid (cell_new w #[.int .i64 a, .int .i64 b, .int .i64 c, .int .i64 d] 23 (i := 2) (v := .int .i64 c) rfl rfl)
  have HB3 := hid (cell_new w #[.int .i64 a, .int .i64 b, .int .i64 c, .int .i64 d] 23 (i := 3) (v := .int .i64 d) rfl rfl)
  have hsz1 : (w.alloc (.cells #[.int .i64 a, .int .i64 b, .int .i64 c, .int .i64 d] 23)).heap.size = w.heap.size + 1 := by simp
  clear h hS
  by_cases h1 : 60 < n
  · go_enter Try.func6, Try.ntmps6
    go_wp2_with fail
    refine (known_any _).mono ?_
    rintro e2 w9 ⟨rfl, hx⟩
    have HX9 := hid (Ext.trans HX1.out hx)
    clear hx
    go_wp2_with fail
    go_ret
    exact ⟨rfl, HX9.out⟩
  by_cases h2 : 60 < m
  · go_enter Try.func6, Try.ntmps6
    go_wp2_with fail
    refine (known_any _).mono ?_
    rintro e2 w9 ⟨rfl, hx⟩
    have HX9 := hid (Ext.trans HX1.out hx)
    clear hx
    go_wp2_with fail
    go_ret
    exact ⟨rfl, HX9.out⟩
  go_enter Try.func6, Try.ntmps6
  go_wp2_with fail
  have HO := hid (ops_one HT1.out HS1.out)
  rw [hsz1] at HO
  have HX2 := hid (HX1.out.alloc (.cells #[.int .i64 0, .slice av p.length cv, .int .i64 0] 44))
  have q0 := cell_old (.cells #[.int .i64 0, .slice av p.length cv, .int .i64 0] 44) HB0.out
  have q1 := cell_old (.cells #[.int .i64 0, .slice av p.length cv, .int .i64 0] 44) HB1.out
  have q2 := cell_old (.cells #[.int .i64 0, .slice av p.length cv, .int .i64 0] 44) HB2.out
  have q3 := cell_old (.cells #[.int .i64 0, .slice av p.length cv, .int .i64 0] 44) HB3.out
  have HT2 := hid (HT1.out.to (Kept.alloc HS1.out (.cells #[.int .i64 0, .slice av p.length cv, .int .i64 0] 44)) (fun _ h => h))
  have hsz2 : ((w.alloc (.cells #[.int .i64 a, .int .i64 b, .int .i64 c, .int .i64 d] 23)).alloc (.cells #[.int .i64 0, .slice av p.length cv, .int .i64 0] 44)).heap.size = w.heap.size + 2 := by simp
  generalize (w.alloc (.cells #[.int .i64 a, .int .i64 b, .int .i64 c, .int .i64 d] 23)).alloc (.cells #[.int .i64 0, .slice av p.length cv, .int .i64 0] 44) = w2 at *
  refine (great_any _ _ _ HO.out).mono ?_
  rintro e1 w1 ⟨x, rfl, rfl⟩
  cases x with
  | true =>
    go_wp2_with fail
    refine (known_any _).mono ?_
    rintro e2 w9 ⟨rfl, hx⟩
    have HX9 := hid (Ext.trans HX2.out hx)
    clear hx
    go_wp2_with fail
    go_ret
    exact ⟨rfl, HX9.out⟩
  | false =>
    by_cases hml : ¬ mayLimits a b c d
    · have HM := hid hml
      clear hml
      go_wp2_with fail
      refine (new_no a b c d _ HM.out).mono ?_
      rintro e w3 ⟨hx, rfl⟩
      have HX3 := hid (HX2.out.trans hx)
      clear hx
      go_wp2_with fail
      refine (known_any _).mono ?_
      rintro e2 w9 ⟨rfl, hx⟩
      have HX9 := hid (Ext.trans HX3.out hx)
      clear hx
      go_wp2_with fail
      go_ret
      exact ⟨rfl, HX9.out⟩
    have hml := Classical.not_not.1 hml
    have HM := hid hml
    have b0 := hml.1.1
    have b1 := hml.1.2
    have b2 := hml.2.2.2.1
    have b3 := hml.2.2.2.2
    clear hml
    go_wp2_with fail
    refine (new_yes a b c d _ HM.out).mono ?_
    rintro e w3 ⟨bm, hbm, hma, hx, rfl⟩
    have HX3 := hid (HX2.out.trans hx)
    have P0 := hid (hx.cell q0)
    have P1 := hid (hx.cell q1)
    have P2 := hid (hx.cell q2)
    have P3 := hid (hx.cell q3)
    have HMA := hid hma
    have HT3 := hid (HT2.out.to (Kept.of_below hx |>.mono (fun k hk => by have := HS.out k hk; omega)) (fun _ h => h))
    have hbm' : w.heap.size + 2 ≤ bm := by omega
    clear hx hma hbm q0 q1 q2 q3
    go_wp2_with fail
    go_loopw [50] (fun i wr => ∃ (k : Nat) (s : MSt), k ≤ n ∧ i = .int .i64 k ∧ MeterAt wr bm s ∧ ((k ≤ a ∧ s = ⟨a, b, c, d, k, 0, 0, 0⟩) ∨ (a < k ∧ s = ⟨a, b, c, d, a, 0, 9, a + 1⟩)) ∧ w3.grownBy wr (some bm)) (fun i _ => n - (intOf i).toNat)
    case atStart => exact ⟨0, _, Nat.zero_le _, rfl, HMA.out, .inl ⟨by omega, rfl⟩, gb_refl _ _⟩
    case round =>
      obtain ⟨k, s, hk, rfl, hms, hst, hg⟩ := hrel
      have HMS := hid hms
      have HG := hid hg
      have EX := hid (ext_of_gb HX3.out hg (by omega))
      have p0 := hg.cell P0.out (by simp; omega)
      have p1 := hg.cell P1.out (by simp; omega)
      have p2 := hg.cell P2.out (by simp; omega)
      have p3 := hg.cell P3.out (by simp; omega)
      clear hms hg
      by_cases hlt : k < n
      · have S0 := box_keep (w3 := w) (r := bm) ⟨EX.out, p0, p1, p2, p3⟩ (gb_drew (gb_refl wr (some bm))) (by omega) (by omega)
        have hmd := HMS.out.drew
        have hbr := lt_of_cell hmd.c0
        clear p0 p1 p2 p3
        rcases hst with ⟨hka, rfl⟩ | ⟨hka, rfl⟩
        · by_cases hlt2 : (k : Int) < a
          · have hmn : (a < (k : Int) + 1) = False := by simp; omega
            have hmn2 : (a ≤ (k : Int)) = False := by simp; omega
            have hd : decide ((k : Int) < a) = true := by simp; omega
            have c4 : Calls Try.prog 13 #[.pointer (some ⟨bm, 0, none⟩)] wr.drew (Met wr.drew bm 0 (⟨a, b, c, d, k + 1, 0, 0, 0⟩ : MSt)) := by
              have := step_any bm _ _ hmd (MSt.Ok.mk' HM.out (by omega) (by omega) (by omega) (by omega))
              rwa [show (⟨a, b, c, d, k, 0, 0, 0⟩ : MSt).step = (0, (⟨a, b, c, d, k + 1, 0, 0, 0⟩ : MSt)) from by simp [MSt.step, hlt2]] at this
            have C4 := hid c4
            clear c4 hmd
            have hwr : IntKind.i64.wrap ((k : Int) + 1) = (k : Int) + 1 := IntWalk.i64_in _ (by omega)
            go_wp2_with fail
            go_region_held3 (fun W => Ext w W ∧ W.cell? ⟨w.heap.size, 0, none⟩ = some (.int .i64 a) ∧ W.cell? ⟨w.heap.size, 1, none⟩ = some (.int .i64 b) ∧ W.cell? ⟨w.heap.size, 2, none⟩ = some (.int .i64 c) ∧ W.cell? ⟨w.heap.size, 3, none⟩ = some (.int .i64 d)) (first | exact S0 | exact box_keep S0 hg4 (by omega) (by omega))
              (first | (go_at_call 13; (with_reducible refine C4.out.mono ?_); rintro e4 w4 ⟨rfl, hm4, hg4⟩) | (go_at_call 21; refine (fuel_at hm4).mono ?_; rintro e w' ⟨rfl, rfl⟩) | (go_at_call 22; refine (pieces_at hm4).mono ?_; rintro e w' ⟨rfl, rfl⟩))
            all_goals
              have HM4 := hid hm4
              have HG4 := hid (gb_trans (gb_drew HG.out) hg4)
              clear hm4 hg4 S0 hwr hmn hmn2 hd
              go_wp2
              go_roundw
              case rel => exact ⟨k + 1, _, by omega, by go_num, HM4.out, .inl ⟨by omega, by rw [show ((k + 1 : Nat) : Int) = (k : Int) + 1 from by omega]⟩, HG4.out⟩
              case measure => simp only [intOf]; omega
          · have hmn : (a < (k : Int) + 1) = True := by simp; omega
            have hmn2 : (a ≤ (k : Int)) = True := by simp; omega
            have hd : decide ((k : Int) < a) = false := by simp; omega
            have c4 : Calls Try.prog 13 #[.pointer (some ⟨bm, 0, none⟩)] wr.drew (Met wr.drew bm 9 (⟨a, b, c, d, a, 0, 9, a + 1⟩ : MSt)) := by
              have := step_any bm _ _ hmd (MSt.Ok.mk' HM.out (by omega) (by omega) (by omega) (by omega))
              rwa [show (⟨a, b, c, d, k, 0, 0, 0⟩ : MSt).step = (9, (⟨a, b, c, d, a, 0, 9, a + 1⟩ : MSt)) from by simp [MSt.step, hlt2, MSt.refuse]; omega] at this
            have C4 := hid c4
            clear c4 hmd
            have hwr : IntKind.i64.wrap ((k : Int) + 1) = (k : Int) + 1 := IntWalk.i64_in _ (by omega)
            go_wp2_with fail
            go_region_held3 (fun W => Ext w W ∧ W.cell? ⟨w.heap.size, 0, none⟩ = some (.int .i64 a) ∧ W.cell? ⟨w.heap.size, 1, none⟩ = some (.int .i64 b) ∧ W.cell? ⟨w.heap.size, 2, none⟩ = some (.int .i64 c) ∧ W.cell? ⟨w.heap.size, 3, none⟩ = some (.int .i64 d)) (first | exact S0 | exact box_keep S0 hg4 (by omega) (by omega))
              (first | (go_at_call 13; (with_reducible refine C4.out.mono ?_); rintro e4 w4 ⟨rfl, hm4, hg4⟩) | (go_at_call 21; refine (fuel_at hm4).mono ?_; rintro e w' ⟨rfl, rfl⟩) | (go_at_call 22; refine (pieces_at hm4).mono ?_; rintro e w' ⟨rfl, rfl⟩))
            all_goals
              have HM4 := hid hm4
              have HG4 := hid (gb_trans (gb_drew HG.out) hg4)
              clear hm4 hg4 S0 hwr hmn hmn2 hd
              go_wp2
              go_roundw
              case rel => exact ⟨k + 1, _, by omega, by go_num, HM4.out, .inr ⟨by omega, rfl⟩, HG4.out⟩
              case measure => simp only [intOf]; omega
        · have hmn : (a < (k : Int) + 1) = True := by simp; omega
          have hmn2 : (a ≤ (k : Int)) = True := by simp; omega
          have hd : decide ((k : Int) < a) = false := by simp; omega
          have c4 : Calls Try.prog 13 #[.pointer (some ⟨bm, 0, none⟩)] wr.drew (Met wr.drew bm 9 (⟨a, b, c, d, a, 0, 9, a + 1⟩ : MSt)) := by
            have := step_any bm _ _ hmd (MSt.Ok.mk' HM.out (by omega) (by omega) (by omega) (by omega))
            rwa [show (⟨a, b, c, d, a, 0, 9, a + 1⟩ : MSt).step = (9, (⟨a, b, c, d, a, 0, 9, a + 1⟩ : MSt)) from by simp [MSt.step, MSt.refuse]] at this
          have C4 := hid c4
          clear c4 hmd
          have hwr : IntKind.i64.wrap ((k : Int) + 1) = (k : Int) + 1 := IntWalk.i64_in _ (by omega)
          go_wp2_with fail
          go_region_held3 (fun W => Ext w W ∧ W.cell? ⟨w.heap.size, 0, none⟩ = some (.int .i64 a) ∧ W.cell? ⟨w.heap.size, 1, none⟩ = some (.int .i64 b) ∧ W.cell? ⟨w.heap.size, 2, none⟩ = some (.int .i64 c) ∧ W.cell? ⟨w.heap.size, 3, none⟩ = some (.int .i64 d)) (first | exact S0 | exact box_keep S0 hg4 (by omega) (by omega))
            (first | (go_at_call 13; (with_reducible refine C4.out.mono ?_); rintro e4 w4 ⟨rfl, hm4, hg4⟩) | (go_at_call 21; refine (fuel_at hm4).mono ?_; rintro e w' ⟨rfl, rfl⟩) | (go_at_call 22; refine (pieces_at hm4).mono ?_; rintro e w' ⟨rfl, rfl⟩))
          all_goals
            have HM4 := hid hm4
            have HG4 := hid (gb_trans (gb_drew HG.out) hg4)
            clear hm4 hg4 S0 hwr hmn hmn2 hd
            go_wp2
            go_roundw
            case rel => exact ⟨k + 1, _, by omega, by go_num, HM4.out, .inr ⟨by omega, rfl⟩, HG4.out⟩
            case measure => simp only [intOf]; omega
      · obtain rfl : n = k := by omega
        have hex : ∃ st0 wh0 nn0 wh1 nn1 : Int, s = ⟨a, b, c, d, st0, 0, wh0, nn0⟩ ∧ 0 ≤ st0 ∧ st0 ≤ a ∧ (if a < (n : Int) then a else (n : Int)) = st0 ∧ ((wh0 = 0 ∧ wh1 = 12 ∧ nn1 = d + 1) ∨ (wh0 ≠ 0 ∧ wh1 = wh0 ∧ nn1 = nn0)) ∧ ((n ≤ a ∧ wh0 = 0 ∧ nn0 = 0) ∨ (a < n ∧ wh0 = 9 ∧ nn0 = a + 1)) := by
          rcases hst with ⟨hka, rfl⟩ | ⟨hka, rfl⟩
          · exact ⟨n, 0, 0, 12, d + 1, rfl, by omega, by omega, by rw [if_neg (by omega)], .inl ⟨rfl, rfl, rfl⟩, .inl ⟨hka, rfl, rfl⟩⟩
          · exact ⟨a, 9, a + 1, 9, a + 1, rfl, by omega, by omega, by rw [if_pos (by omega)], .inr ⟨by decide, rfl, rfl⟩, .inr ⟨hka, rfl, rfl⟩⟩
        obtain ⟨st0, wh0, nn0, wh1, nn1, rfl, hs0, hs1, hif, hw, hbase⟩ := hex
        have HIF := hid hif
        have HW := hid hw
        have HBASE := hid hbase
        clear hst hif hw hbase
        have HMSA := hid HMS.out
        clear p0 p1 p2 p3
        obtain ⟨wo, rfl⟩ : ∃ wo : World, wo = wr := ⟨_, rfl⟩
        go_wp2_with fail
        go_loopw [79] (fun i wr => ∃ (j : Nat) (s : MSt), j ≤ m ∧ i = .int .i64 j ∧ MeterAt wr bm s ∧ ((j ≤ d ∧ s = ⟨a, b, c, d, st0, j, wh0, nn0⟩) ∨ (d < j ∧ s = ⟨a, b, c, d, st0, d, wh1, nn1⟩)) ∧ w3.grownBy wr (some bm)) (fun i _ => m - (intOf i).toNat)
        case atStart => exact ⟨0, _, Nat.zero_le _, rfl, HMSA.out, .inl ⟨by omega, rfl⟩, HG.out⟩
        case round =>
          obtain ⟨j, s, hj, rfl, hms, hst, hg⟩ := hrel
          have HMS := hid hms
          have HG := hid hg
          have EX := hid (ext_of_gb HX3.out hg (by omega))
          have p0 := hg.cell P0.out (by simp; omega)
          have p1 := hg.cell P1.out (by simp; omega)
          have p2 := hg.cell P2.out (by simp; omega)
          have p3 := hg.cell P3.out (by simp; omega)
          have HT4 := hid (HT3.out.to (Kept.grown hg (fun k hk => by have := HS.out k hk; have := HX3.out.size; exact ⟨by omega, by simp; omega⟩)) (fun _ h => h))
          have HS4 : Hid (∀ k, S k → k < wr.heap.size) := hid (fun k hk => by have := HS.out k hk; have := EX.out.size; omega)
          clear hms hg
          by_cases hlt2 : j < m
          · have S0 := box_keep (w3 := w) (r := bm) ⟨EX.out, p0, p1, p2, p3⟩ (gb_drew (gb_refl wr (some bm))) (by omega) (by omega)
            have hmd := HMS.out.drew
            have hbr := lt_of_cell hmd.c0
            have hna := HIF.out
            clear p0 p1 p2 p3
            rcases hst with ⟨hja, rfl⟩ | ⟨hja, rfl⟩
            · by_cases hlt3 : (j : Int) < d
              · have hmn : (d < (j : Int) + 1) = False := by simp; omega
                have hmn2 : (d ≤ (j : Int)) = False := by simp; omega
                have hd : decide ((j : Int) < d) = true := by simp; omega
                have c4 : Calls Try.prog 15 #[.pointer (some ⟨bm, 0, none⟩)] wr.drew (Met wr.drew bm 0 (⟨a, b, c, d, st0, j + 1, wh0, nn0⟩ : MSt)) := by
                  have := piece_any bm _ _ hmd (MSt.Ok.mk' HM.out (by omega) (by omega) (by omega) (by omega))
                  rwa [show (⟨a, b, c, d, st0, j, wh0, nn0⟩ : MSt).piece = (0, (⟨a, b, c, d, st0, j + 1, wh0, nn0⟩ : MSt)) from by simp [MSt.piece, hlt3]] at this
                have C4 := hid c4
                clear c4 hmd
                have hwr : IntKind.i64.wrap ((j : Int) + 1) = (j : Int) + 1 := IntWalk.i64_in _ (by omega)
                have hwn : IntKind.i64.wrap (n : Int) = (n : Int) := IntWalk.i64_in _ (by omega)
                go_wp2_with fail
                go_region_held3 (fun W => Ext w W ∧ W.cell? ⟨w.heap.size, 0, none⟩ = some (.int .i64 a) ∧ W.cell? ⟨w.heap.size, 1, none⟩ = some (.int .i64 b) ∧ W.cell? ⟨w.heap.size, 2, none⟩ = some (.int .i64 c) ∧ W.cell? ⟨w.heap.size, 3, none⟩ = some (.int .i64 d)) (first | exact S0 | exact box_keep S0 hg4 (by omega) (by omega))
                  (first | (go_at_call 15; (with_reducible refine C4.out.mono ?_); rintro e4 w4 ⟨rfl, hm4, hg4⟩) | (go_at_call 21; refine (fuel_at hm4).mono ?_; rintro e w' ⟨rfl, rfl⟩) | (go_at_call 22; refine (pieces_at hm4).mono ?_; rintro e w' ⟨rfl, rfl⟩))
                all_goals
                  have HM4 := hid hm4
                  have HG4 := hid (gb_trans (gb_drew HG.out) hg4)
                  clear hm4 hg4 S0 hwr hmn hmn2 hd hwn hna
                  go_wp2
                  go_roundw
                  case rel => exact ⟨j + 1, _, by omega, by go_num, HM4.out, .inl ⟨by omega, by rw [show ((j + 1 : Nat) : Int) = (j : Int) + 1 from by omega]⟩, HG4.out⟩
                  case measure => simp only [intOf]; omega
              · have hmn : (d < (j : Int) + 1) = True := by simp; omega
                have hmn2 : (d ≤ (j : Int)) = True := by simp; omega
                have hd : decide ((j : Int) < d) = false := by simp; omega
                have c4 : Calls Try.prog 15 #[.pointer (some ⟨bm, 0, none⟩)] wr.drew (Met wr.drew bm 12 (⟨a, b, c, d, st0, d, wh1, nn1⟩ : MSt)) := by
                  have := piece_any bm _ _ hmd (MSt.Ok.mk' HM.out (by omega) (by omega) (by omega) (by omega))
                  rwa [show (⟨a, b, c, d, st0, j, wh0, nn0⟩ : MSt).piece = (12, (⟨a, b, c, d, st0, d, wh1, nn1⟩ : MSt)) from piece_over HW.out (by omega)] at this
                have C4 := hid c4
                clear c4 hmd
                have hwr : IntKind.i64.wrap ((j : Int) + 1) = (j : Int) + 1 := IntWalk.i64_in _ (by omega)
                have hwn : IntKind.i64.wrap (n : Int) = (n : Int) := IntWalk.i64_in _ (by omega)
                go_wp2_with fail
                go_region_held3 (fun W => Ext w W ∧ W.cell? ⟨w.heap.size, 0, none⟩ = some (.int .i64 a) ∧ W.cell? ⟨w.heap.size, 1, none⟩ = some (.int .i64 b) ∧ W.cell? ⟨w.heap.size, 2, none⟩ = some (.int .i64 c) ∧ W.cell? ⟨w.heap.size, 3, none⟩ = some (.int .i64 d)) (first | exact S0 | exact box_keep S0 hg4 (by omega) (by omega))
                  (first | (go_at_call 15; (with_reducible refine C4.out.mono ?_); rintro e4 w4 ⟨rfl, hm4, hg4⟩) | (go_at_call 21; refine (fuel_at hm4).mono ?_; rintro e w' ⟨rfl, rfl⟩) | (go_at_call 22; refine (pieces_at hm4).mono ?_; rintro e w' ⟨rfl, rfl⟩))
                all_goals
                  have HM4 := hid hm4
                  have HG4 := hid (gb_trans (gb_drew HG.out) hg4)
                  clear hm4 hg4 S0 hwr hmn hmn2 hd hwn hna
                  go_wp2
                  go_roundw
                  case rel => exact ⟨j + 1, _, by omega, by go_num, HM4.out, .inr ⟨by omega, rfl⟩, HG4.out⟩
                  case measure => simp only [intOf]; omega
            · have hmn : (d < (j : Int) + 1) = True := by simp; omega
              have hmn2 : (d ≤ (j : Int)) = True := by simp; omega
              have hd : decide ((j : Int) < d) = false := by simp; omega
              have c4 : Calls Try.prog 15 #[.pointer (some ⟨bm, 0, none⟩)] wr.drew (Met wr.drew bm 12 (⟨a, b, c, d, st0, d, wh1, nn1⟩ : MSt)) := by
                have := piece_any bm _ _ hmd (MSt.Ok.mk' HM.out (by omega) (by omega) (by omega) (by omega))
                rwa [show (⟨a, b, c, d, st0, d, wh1, nn1⟩ : MSt).piece = (12, (⟨a, b, c, d, st0, d, wh1, nn1⟩ : MSt)) from piece_still HW.out HBASE.out] at this
              have C4 := hid c4
              clear c4 hmd
              have hwr : IntKind.i64.wrap ((j : Int) + 1) = (j : Int) + 1 := IntWalk.i64_in _ (by omega)
              have hwn : IntKind.i64.wrap (n : Int) = (n : Int) := IntWalk.i64_in _ (by omega)
              go_wp2_with fail
              go_region_held3 (fun W => Ext w W ∧ W.cell? ⟨w.heap.size, 0, none⟩ = some (.int .i64 a) ∧ W.cell? ⟨w.heap.size, 1, none⟩ = some (.int .i64 b) ∧ W.cell? ⟨w.heap.size, 2, none⟩ = some (.int .i64 c) ∧ W.cell? ⟨w.heap.size, 3, none⟩ = some (.int .i64 d)) (first | exact S0 | exact box_keep S0 hg4 (by omega) (by omega))
                (first | (go_at_call 15; (with_reducible refine C4.out.mono ?_); rintro e4 w4 ⟨rfl, hm4, hg4⟩) | (go_at_call 21; refine (fuel_at hm4).mono ?_; rintro e w' ⟨rfl, rfl⟩) | (go_at_call 22; refine (pieces_at hm4).mono ?_; rintro e w' ⟨rfl, rfl⟩))
              all_goals
                have HM4 := hid hm4
                have HG4 := hid (gb_trans (gb_drew HG.out) hg4)
                clear hm4 hg4 S0 hwr hmn hmn2 hd hwn hna
                go_wp2
                go_roundw
                case rel => exact ⟨j + 1, _, by omega, by go_num, HM4.out, .inr ⟨by omega, rfl⟩, HG4.out⟩
                case measure => simp only [intOf]; omega
          · obtain rfl : m = j := by omega
            have z0 := cell_old (.cells #[.int .i64 0, .int .i64 0] 29) p0
            have z3 := cell_old (.cells #[.int .i64 0, .int .i64 0] 29) p3
            have Z0 := hid p0
            have Z1 := hid p1
            have Z2 := hid p2
            have Z3 := hid p3
            have hszr := lt_of_cell p0
            clear p0 p1 p2 p3
            rcases HBASE.out with ⟨hA, hA1, hA2⟩ | ⟨hB, hB1, hB2⟩
            · have na : decide (a < (n : Int)) = false := by simp; omega
              rcases hst with ⟨hja, rfl⟩ | ⟨hja, rfl⟩
              · have nd : decide (d < (m : Int)) = false := by simp; omega
                subst hA1 hA2
                go_wp2_with fail
                have hmb := HMS.out.alloc (.cells #[.int .i64 (0), .int .i64 (0)] 29)
                have hsb : (wr.alloc (.cells #[.int .i64 (0), .int .i64 (0)] 29)).heap.size = wr.heap.size + 1 := by simp
                have htb := HT4.out.to (Kept.alloc HS4.out (.cells #[.int .i64 (0), .int .i64 (0)] 29)) (fun _ h => h)
                have exb := EX.out.alloc (.cells #[.int .i64 (0), .int .i64 (0)] 29)
                have S0 := six_ext (wb := w) (B := wr.heap.size) (C := w.heap.size) ⟨exb, ⟨cell_new _ _ _ rfl (i := 0) (v := .int .i64 (0)) rfl, cell_new _ _ _ rfl (i := 1) (v := .int .i64 (0)) rfl⟩, cell_old _ Z0.out, cell_old _ Z1.out, cell_old _ Z2.out, cell_old _ Z3.out⟩ (Below.drew (Ext.refl _))
                have hbmr := lt_of_cell HMS.out.c0
                generalize wr.alloc (.cells #[.int .i64 (0), .int .i64 (0)] 29) = wb at *
                have hmd := hmb.drew
                have HTB := hid htb
                have EXB := hid exb
                clear hmb htb exb z0 z3
                go_region_held3 (fun W => Ext w W ∧ (W.cell? ⟨wr.heap.size, 0, none⟩ = some (.int .i64 (0)) ∧ W.cell? ⟨wr.heap.size, 1, none⟩ = some (.int .i64 (0))) ∧ W.cell? ⟨w.heap.size, 0, none⟩ = some (.int .i64 a) ∧ W.cell? ⟨w.heap.size, 1, none⟩ = some (.int .i64 b) ∧ W.cell? ⟨w.heap.size, 2, none⟩ = some (.int .i64 c) ∧ W.cell? ⟨w.heap.size, 3, none⟩ = some (.int .i64 d)) (first | exact S0 | exact S5)
                  (first | (go_at_call 23; (with_reducible refine (need_at hmd).mono ?_); rintro e5 w5 ⟨rfl, hx5⟩; have S5 := six_ext S0 hx5))
                have HM5 := hid (hmd.kept hx5 (lt_of_cell hmd.c0))
                have HT5 := hid (HTB.out.to (Kept.of_below (Ext.trans (Below.drew (Ext.refl wb)) hx5) |>.mono (fun k hk => by have := HS4.out k hk; omega)) (fun _ h => h))
                have HS5 : Hid (∀ k, S k → k < w5.heap.size) := hid (fun k hk => by have := HS.out k hk; have := S5.1.size; omega)
                have HS5X := hid S5
                clear hmd hx5 S0 S5
                rcases hke : (⟨a, b, c, d, st0, m, 0, 0⟩ : MSt).keep (mostLimbs p p.length) p.length with ⟨e3, s3⟩
                have ck := keep_any bm _ _ p w5 HM5.out HT5.out HS5.out
                rw [hke] at ck
                have C := hid ck
                have hks := keep_cases (⟨a, b, c, d, st0, m, 0, 0⟩ : MSt) (mostLimbs p p.length) p.length HM.out.2.1.1 HM.out.2.2.1.1
                rw [hke] at hks
                simp only at hks
                have HKS := hid hks
                clear ck hke hks
                rcases HKS.out.2 (by trivial) with ⟨he, hs3⟩ | ⟨he, N, hN, hs3⟩
                · obtain rfl : (⟨a, b, c, d, st0, m, 0, 0⟩ : MSt) = s3 := hs3.symm
                  have hb : (e3 == 0) = true := by simp [he]
                  have HE := hid he
                  clear he
                  go_wp2_with fail
                  refine C.out.mono ?_
                  rintro e4 w6 ⟨rfl, hm6, hg6⟩
                  have S6 := six_gb HS5X.out hg6 (by omega) (by omega) (by omega)
                  have r0 := S6.2.1.1
                  have r1 := S6.2.1.2
                  have S6d := six_ext S6 (Below.drew (Ext.refl w6))
                  have hmd := hm6.drew
                  clear hm6 hg6 S6
                  go_wp2_with fail
                  clear r0 r1
                  go_region_held3 (fun W => Ext w W ∧ (W.cell? ⟨wr.heap.size, 0, none⟩ = some (.int .i64 (0)) ∧ W.cell? ⟨wr.heap.size, 1, none⟩ = some (.int .i64 (0))) ∧ W.cell? ⟨w.heap.size, 0, none⟩ = some (.int .i64 a) ∧ W.cell? ⟨w.heap.size, 1, none⟩ = some (.int .i64 b) ∧ W.cell? ⟨w.heap.size, 2, none⟩ = some (.int .i64 c) ∧ W.cell? ⟨w.heap.size, 3, none⟩ = some (.int .i64 d)) (first | exact S6d | exact S7 | exact S8 | exact S9 | exact S10)
                    (first
                      | (go_at_call 23; (with_reducible refine (need_at hmd).mono ?_); rintro e7 w7 ⟨rfl, hx7⟩; have S7 := six_ext S6d hx7; have hm7 := hmd.kept hx7 (lt_of_cell hmd.c0))
                      | (go_at_call 23; (with_reducible refine (need_at hm8).mono ?_); rintro e9 w9 ⟨rfl, hx9⟩; have S9 := six_ext S8 hx9)
                      | (go_at_call 19; (with_reducible refine (refuse8_first hm7).mono ?_); rintro e8 w8 ⟨rfl, hm8, hg8⟩; have S8 := six_gb S7 hg8 (by omega) (by omega) (by omega))
                      | (go_at_call 8; (with_reducible refine (known_any _).mono ?_); rintro e10 w10 ⟨rfl, hx10⟩; have S10 := six_ext S9 hx10))
                  have HXF := hid S10.1
                  clear S6d S7 S8 S9 S10 hx7 hx9 hx10 hg8 hm7 hm8 hmd
                  go_wp2
                  go_ret
                  exact ⟨rfl, HXF.out⟩
                · subst hs3
                  have hb : (e3 == 0) = false := by simp [he]
                  have HE := hid he
                  clear he
                  go_wp2_with fail
                  refine C.out.mono ?_
                  rintro e4 w6 ⟨rfl, hm6, hg6⟩
                  have S6 := six_gb HS5X.out hg6 (by omega) (by omega) (by omega)
                  have r0 := S6.2.1.1
                  have r1 := S6.2.1.2
                  have HM6 := hid hm6
                  have HX6 := hid S6.1
                  have hf0 := field_need0
                  have hf1 := field_need1
                  clear hm6 hg6 S6
                  go_wp2_with fail
                  refine (need_at HM6.out).mono ?_
                  rintro e7 w7 ⟨rfl, hx⟩
                  have HM7 := hid (HM6.out.kept hx (lt_of_cell HM6.out.c0))
                  have HX7 := hid (Ext.trans HX6.out hx)
                  clear hx r0 r1
                  go_wp2_with fail
                  refine (need_at HM7.out).mono ?_
                  rintro e8 w8 ⟨rfl, hx⟩
                  have HX8 := hid (Ext.trans HX7.out hx)
                  clear hx
                  go_wp2_with fail
                  refine (known_any _).mono ?_
                  rintro e2 w9 ⟨rfl, hx⟩
                  have HX9 := hid (Ext.trans HX8.out hx)
                  clear hx
                  go_wp2_with fail
                  go_ret
                  exact ⟨rfl, HX9.out⟩
              · have nd : decide (d < (m : Int)) = true := by simp; omega
                obtain ⟨rfl, rfl⟩ : 12 = wh1 ∧ d + 1 = nn1 := by have := HW.out; omega
                go_wp2_with fail
                have hmb := HMS.out.alloc (.cells #[.int .i64 (12), .int .i64 (d + 1)] 29)
                have hsb : (wr.alloc (.cells #[.int .i64 (12), .int .i64 (d + 1)] 29)).heap.size = wr.heap.size + 1 := by simp
                have htb := HT4.out.to (Kept.alloc HS4.out (.cells #[.int .i64 (12), .int .i64 (d + 1)] 29)) (fun _ h => h)
                have exb := EX.out.alloc (.cells #[.int .i64 (12), .int .i64 (d + 1)] 29)
                have S0 := six_ext (wb := w) (B := wr.heap.size) (C := w.heap.size) ⟨exb, ⟨cell_new _ _ _ rfl (i := 0) (v := .int .i64 (12)) rfl, cell_new _ _ _ rfl (i := 1) (v := .int .i64 (d + 1)) rfl⟩, cell_old _ Z0.out, cell_old _ Z1.out, cell_old _ Z2.out, cell_old _ Z3.out⟩ (Below.drew (Ext.refl _))
                have hbmr := lt_of_cell HMS.out.c0
                generalize wr.alloc (.cells #[.int .i64 (12), .int .i64 (d + 1)] 29) = wb at *
                have hmd := hmb.drew
                have HTB := hid htb
                have EXB := hid exb
                clear hmb htb exb z0 z3
                go_region_held3 (fun W => Ext w W ∧ (W.cell? ⟨wr.heap.size, 0, none⟩ = some (.int .i64 (12)) ∧ W.cell? ⟨wr.heap.size, 1, none⟩ = some (.int .i64 (d + 1))) ∧ W.cell? ⟨w.heap.size, 0, none⟩ = some (.int .i64 a) ∧ W.cell? ⟨w.heap.size, 1, none⟩ = some (.int .i64 b) ∧ W.cell? ⟨w.heap.size, 2, none⟩ = some (.int .i64 c) ∧ W.cell? ⟨w.heap.size, 3, none⟩ = some (.int .i64 d)) (first | exact S0 | exact S5)
                  (first | (go_at_call 23; (with_reducible refine (need_at hmd).mono ?_); rintro e5 w5 ⟨rfl, hx5⟩; have S5 := six_ext S0 hx5))
                have HM5 := hid (hmd.kept hx5 (lt_of_cell hmd.c0))
                have HT5 := hid (HTB.out.to (Kept.of_below (Ext.trans (Below.drew (Ext.refl wb)) hx5) |>.mono (fun k hk => by have := HS4.out k hk; omega)) (fun _ h => h))
                have HS5 : Hid (∀ k, S k → k < w5.heap.size) := hid (fun k hk => by have := HS.out k hk; have := S5.1.size; omega)
                have HS5X := hid S5
                clear hmd hx5 S0 S5
                rcases hke : (⟨a, b, c, d, st0, d, 12, d + 1⟩ : MSt).keep (mostLimbs p p.length) p.length with ⟨e3, s3⟩
                have ck := keep_any bm _ _ p w5 HM5.out HT5.out HS5.out
                rw [hke] at ck
                have C := hid ck
                have hks := keep_cases (⟨a, b, c, d, st0, d, 12, d + 1⟩ : MSt) (mostLimbs p p.length) p.length HM.out.2.1.1 HM.out.2.2.1.1
                rw [hke] at hks
                simp only at hks
                have HKS := hid hks
                clear ck hke hks
                obtain rfl : (⟨a, b, c, d, st0, d, 12, d + 1⟩ : MSt) = s3 := (HKS.out.1 (by simp)).symm
                go_wp2_with fail
                refine C.out.mono ?_
                rintro e4 w6 ⟨rfl, hm6, hg6⟩
                have S6 := six_gb HS5X.out hg6 (by omega) (by omega) (by omega)
                have r0 := S6.2.1.1
                have r1 := S6.2.1.2
                have S6d := six_ext S6 (Below.drew (Ext.refl w6))
                have hmd := hm6.drew
                clear hm6 hg6 S6
                go_wp2_with fail
                clear r0 r1
                go_region_held3 (fun W => Ext w W ∧ (W.cell? ⟨wr.heap.size, 0, none⟩ = some (.int .i64 (12)) ∧ W.cell? ⟨wr.heap.size, 1, none⟩ = some (.int .i64 (d + 1))) ∧ W.cell? ⟨w.heap.size, 0, none⟩ = some (.int .i64 a) ∧ W.cell? ⟨w.heap.size, 1, none⟩ = some (.int .i64 b) ∧ W.cell? ⟨w.heap.size, 2, none⟩ = some (.int .i64 c) ∧ W.cell? ⟨w.heap.size, 3, none⟩ = some (.int .i64 d)) (first | exact S6d | exact S7 | exact S8 | exact S9 | exact S10 | exact S11)
                  (first
                    | (go_at_call 23; (with_reducible refine (need_at hmd).mono ?_); rintro e7 w7 ⟨rfl, hx7⟩; have S7 := six_ext S6d hx7; have hm7 := hmd.kept hx7 (lt_of_cell hmd.c0))
                    | (go_at_call 23; (with_reducible refine (need_at hm8).mono ?_); rintro e9 w9 ⟨rfl, hx9⟩; have S9 := six_ext S8 hx9; have hm9 := hm8.kept hx9 (lt_of_cell hm8.c0))
                    | (go_at_call 19; (with_reducible refine (refuse8_still hm7 (by simp)).mono ?_); rintro e8 w8 ⟨rfl, hm8, hg8⟩; have S8 := six_gb S7 hg8 (by omega) (by omega) (by omega))
                    | (go_at_call 12; (with_reducible refine (limits_at hm9).mono ?_); rintro e10 w10 ⟨rfl, hx10⟩; have S10 := six_ext S9 hx10)
                    | (go_at_call 8; (with_reducible refine (known_any _).mono ?_); rintro e11 w11 ⟨rfl, hx11⟩; have S11 := six_ext S10 hx11))
                have HXF := hid S11.1
                clear S6d S7 S8 S9 S10 S11 hx7 hx9 hx10 hx11 hg8 hm7 hm8 hm9 hmd
                go_wp2
                go_ret
                exact ⟨rfl, HXF.out⟩
            · have na : decide (a < (n : Int)) = true := by simp; omega
              rcases hst with ⟨hja, rfl⟩ | ⟨hja, rfl⟩
              · obtain ⟨rfl, rfl⟩ : 9 = wh0 ∧ a + 1 = nn0 := ⟨hB1.symm, hB2.symm⟩
                go_wp2_with fail
                have hmb := HMS.out.alloc (.cells #[.int .i64 (9), .int .i64 (a + 1)] 29)
                have hsb : (wr.alloc (.cells #[.int .i64 (9), .int .i64 (a + 1)] 29)).heap.size = wr.heap.size + 1 := by simp
                have htb := HT4.out.to (Kept.alloc HS4.out (.cells #[.int .i64 (9), .int .i64 (a + 1)] 29)) (fun _ h => h)
                have exb := EX.out.alloc (.cells #[.int .i64 (9), .int .i64 (a + 1)] 29)
                have S0 := six_ext (wb := w) (B := wr.heap.size) (C := w.heap.size) ⟨exb, ⟨cell_new _ _ _ rfl (i := 0) (v := .int .i64 (9)) rfl, cell_new _ _ _ rfl (i := 1) (v := .int .i64 (a + 1)) rfl⟩, cell_old _ Z0.out, cell_old _ Z1.out, cell_old _ Z2.out, cell_old _ Z3.out⟩ (Below.drew (Ext.refl _))
                have hbmr := lt_of_cell HMS.out.c0
                generalize wr.alloc (.cells #[.int .i64 (9), .int .i64 (a + 1)] 29) = wb at *
                have hmd := hmb.drew
                have HTB := hid htb
                have EXB := hid exb
                clear hmb htb exb z0 z3
                go_region_held3 (fun W => Ext w W ∧ (W.cell? ⟨wr.heap.size, 0, none⟩ = some (.int .i64 (9)) ∧ W.cell? ⟨wr.heap.size, 1, none⟩ = some (.int .i64 (a + 1))) ∧ W.cell? ⟨w.heap.size, 0, none⟩ = some (.int .i64 a) ∧ W.cell? ⟨w.heap.size, 1, none⟩ = some (.int .i64 b) ∧ W.cell? ⟨w.heap.size, 2, none⟩ = some (.int .i64 c) ∧ W.cell? ⟨w.heap.size, 3, none⟩ = some (.int .i64 d)) (first | exact S0 | exact S5)
                  (first | (go_at_call 23; (with_reducible refine (need_at hmd).mono ?_); rintro e5 w5 ⟨rfl, hx5⟩; have S5 := six_ext S0 hx5))
                have HM5 := hid (hmd.kept hx5 (lt_of_cell hmd.c0))
                have HT5 := hid (HTB.out.to (Kept.of_below (Ext.trans (Below.drew (Ext.refl wb)) hx5) |>.mono (fun k hk => by have := HS4.out k hk; omega)) (fun _ h => h))
                have HS5 : Hid (∀ k, S k → k < w5.heap.size) := hid (fun k hk => by have := HS.out k hk; have := S5.1.size; omega)
                have HS5X := hid S5
                clear hmd hx5 S0 S5
                rcases hke : (⟨a, b, c, d, st0, (m : Int), 9, a + 1⟩ : MSt).keep (mostLimbs p p.length) p.length with ⟨e3, s3⟩
                have ck := keep_any bm _ _ p w5 HM5.out HT5.out HS5.out
                rw [hke] at ck
                have C := hid ck
                have hks := keep_cases (⟨a, b, c, d, st0, (m : Int), 9, a + 1⟩ : MSt) (mostLimbs p p.length) p.length HM.out.2.1.1 HM.out.2.2.1.1
                rw [hke] at hks
                simp only at hks
                have HKS := hid hks
                clear ck hke hks
                obtain rfl : (⟨a, b, c, d, st0, (m : Int), 9, a + 1⟩ : MSt) = s3 := (HKS.out.1 (by simp)).symm
                go_wp2_with fail
                refine C.out.mono ?_
                rintro e4 w6 ⟨rfl, hm6, hg6⟩
                have S6 := six_gb HS5X.out hg6 (by omega) (by omega) (by omega)
                have r0 := S6.2.1.1
                have r1 := S6.2.1.2
                have S6d := six_ext S6 (Below.drew (Ext.refl w6))
                have hmd := hm6.drew
                clear hm6 hg6 S6
                go_wp2_with fail
                clear r0 r1
                go_region_held3 (fun W => Ext w W ∧ (W.cell? ⟨wr.heap.size, 0, none⟩ = some (.int .i64 (9)) ∧ W.cell? ⟨wr.heap.size, 1, none⟩ = some (.int .i64 (a + 1))) ∧ W.cell? ⟨w.heap.size, 0, none⟩ = some (.int .i64 a) ∧ W.cell? ⟨w.heap.size, 1, none⟩ = some (.int .i64 b) ∧ W.cell? ⟨w.heap.size, 2, none⟩ = some (.int .i64 c) ∧ W.cell? ⟨w.heap.size, 3, none⟩ = some (.int .i64 d)) (first | exact S6d | exact S7 | exact S8 | exact S9 | exact S10 | exact S11)
                  (first
                    | (go_at_call 23; (with_reducible refine (need_at hmd).mono ?_); rintro e7 w7 ⟨rfl, hx7⟩; have S7 := six_ext S6d hx7; have hm7 := hmd.kept hx7 (lt_of_cell hmd.c0))
                    | (go_at_call 23; (with_reducible refine (need_at hm8).mono ?_); rintro e9 w9 ⟨rfl, hx9⟩; have S9 := six_ext S8 hx9; have hm9 := hm8.kept hx9 (lt_of_cell hm8.c0))
                    | (go_at_call 19; (with_reducible refine (refuse8_still hm7 (by simp)).mono ?_); rintro e8 w8 ⟨rfl, hm8, hg8⟩; have S8 := six_gb S7 hg8 (by omega) (by omega) (by omega))
                    | (go_at_call 12; (with_reducible refine (limits_at hm9).mono ?_); rintro e10 w10 ⟨rfl, hx10⟩; have S10 := six_ext S9 hx10)
                    | (go_at_call 8; (with_reducible refine (known_any _).mono ?_); rintro e11 w11 ⟨rfl, hx11⟩; have S11 := six_ext S10 hx11))
                have HXF := hid S11.1
                clear S6d S7 S8 S9 S10 S11 hx7 hx9 hx10 hx11 hg8 hm7 hm8 hm9 hmd
                go_wp2
                go_ret
                exact ⟨rfl, HXF.out⟩
              · obtain ⟨rfl, rfl⟩ : 9 = wh1 ∧ a + 1 = nn1 := by have := HW.out; omega
                go_wp2_with fail
                have hmb := HMS.out.alloc (.cells #[.int .i64 (9), .int .i64 (a + 1)] 29)
                have hsb : (wr.alloc (.cells #[.int .i64 (9), .int .i64 (a + 1)] 29)).heap.size = wr.heap.size + 1 := by simp
                have htb := HT4.out.to (Kept.alloc HS4.out (.cells #[.int .i64 (9), .int .i64 (a + 1)] 29)) (fun _ h => h)
                have exb := EX.out.alloc (.cells #[.int .i64 (9), .int .i64 (a + 1)] 29)
                have S0 := six_ext (wb := w) (B := wr.heap.size) (C := w.heap.size) ⟨exb, ⟨cell_new _ _ _ rfl (i := 0) (v := .int .i64 (9)) rfl, cell_new _ _ _ rfl (i := 1) (v := .int .i64 (a + 1)) rfl⟩, cell_old _ Z0.out, cell_old _ Z1.out, cell_old _ Z2.out, cell_old _ Z3.out⟩ (Below.drew (Ext.refl _))
                have hbmr := lt_of_cell HMS.out.c0
                generalize wr.alloc (.cells #[.int .i64 (9), .int .i64 (a + 1)] 29) = wb at *
                have hmd := hmb.drew
                have HTB := hid htb
                have EXB := hid exb
                clear hmb htb exb z0 z3
                go_region_held3 (fun W => Ext w W ∧ (W.cell? ⟨wr.heap.size, 0, none⟩ = some (.int .i64 (9)) ∧ W.cell? ⟨wr.heap.size, 1, none⟩ = some (.int .i64 (a + 1))) ∧ W.cell? ⟨w.heap.size, 0, none⟩ = some (.int .i64 a) ∧ W.cell? ⟨w.heap.size, 1, none⟩ = some (.int .i64 b) ∧ W.cell? ⟨w.heap.size, 2, none⟩ = some (.int .i64 c) ∧ W.cell? ⟨w.heap.size, 3, none⟩ = some (.int .i64 d)) (first | exact S0 | exact S5)
                  (first | (go_at_call 23; (with_reducible refine (need_at hmd).mono ?_); rintro e5 w5 ⟨rfl, hx5⟩; have S5 := six_ext S0 hx5))
                have HM5 := hid (hmd.kept hx5 (lt_of_cell hmd.c0))
                have HT5 := hid (HTB.out.to (Kept.of_below (Ext.trans (Below.drew (Ext.refl wb)) hx5) |>.mono (fun k hk => by have := HS4.out k hk; omega)) (fun _ h => h))
                have HS5 : Hid (∀ k, S k → k < w5.heap.size) := hid (fun k hk => by have := HS.out k hk; have := S5.1.size; omega)
                have HS5X := hid S5
                clear hmd hx5 S0 S5
                rcases hke : (⟨a, b, c, d, st0, d, 9, a + 1⟩ : MSt).keep (mostLimbs p p.length) p.length with ⟨e3, s3⟩
                have ck := keep_any bm _ _ p w5 HM5.out HT5.out HS5.out
                rw [hke] at ck
                have C := hid ck
                have hks := keep_cases (⟨a, b, c, d, st0, d, 9, a + 1⟩ : MSt) (mostLimbs p p.length) p.length HM.out.2.1.1 HM.out.2.2.1.1
                rw [hke] at hks
                simp only at hks
                have HKS := hid hks
                clear ck hke hks
                obtain rfl : (⟨a, b, c, d, st0, d, 9, a + 1⟩ : MSt) = s3 := (HKS.out.1 (by simp)).symm
                go_wp2_with fail
                refine C.out.mono ?_
                rintro e4 w6 ⟨rfl, hm6, hg6⟩
                have S6 := six_gb HS5X.out hg6 (by omega) (by omega) (by omega)
                have r0 := S6.2.1.1
                have r1 := S6.2.1.2
                have S6d := six_ext S6 (Below.drew (Ext.refl w6))
                have hmd := hm6.drew
                clear hm6 hg6 S6
                go_wp2_with fail
                clear r0 r1
                go_region_held3 (fun W => Ext w W ∧ (W.cell? ⟨wr.heap.size, 0, none⟩ = some (.int .i64 (9)) ∧ W.cell? ⟨wr.heap.size, 1, none⟩ = some (.int .i64 (a + 1))) ∧ W.cell? ⟨w.heap.size, 0, none⟩ = some (.int .i64 a) ∧ W.cell? ⟨w.heap.size, 1, none⟩ = some (.int .i64 b) ∧ W.cell? ⟨w.heap.size, 2, none⟩ = some (.int .i64 c) ∧ W.cell? ⟨w.heap.size, 3, none⟩ = some (.int .i64 d)) (first | exact S6d | exact S7 | exact S8 | exact S9 | exact S10 | exact S11)
                  (first
                    | (go_at_call 23; (with_reducible refine (need_at hmd).mono ?_); rintro e7 w7 ⟨rfl, hx7⟩; have S7 := six_ext S6d hx7; have hm7 := hmd.kept hx7 (lt_of_cell hmd.c0))
                    | (go_at_call 23; (with_reducible refine (need_at hm8).mono ?_); rintro e9 w9 ⟨rfl, hx9⟩; have S9 := six_ext S8 hx9; have hm9 := hm8.kept hx9 (lt_of_cell hm8.c0))
                    | (go_at_call 19; (with_reducible refine (refuse8_still hm7 (by simp)).mono ?_); rintro e8 w8 ⟨rfl, hm8, hg8⟩; have S8 := six_gb S7 hg8 (by omega) (by omega) (by omega))
                    | (go_at_call 12; (with_reducible refine (limits_at hm9).mono ?_); rintro e10 w10 ⟨rfl, hx10⟩; have S10 := six_ext S9 hx10)
                    | (go_at_call 8; (with_reducible refine (known_any _).mono ?_); rintro e11 w11 ⟨rfl, hx11⟩; have S11 := six_ext S10 hx11))
                have HXF := hid S11.1
                clear S6d S7 S8 S9 S10 S11 hx7 hx9 hx10 hx11 hg8 hm7 hm8 hm9 hmd
                go_wp2
                go_ret
                exact ⟨rfl, HXF.out⟩
end Go.Proofs.Ytpooglajfiddhaa
