/- MeterPlays: the program's meter and the document's go the same way. No condition. -/
import Derived.Test.YtpooglajfiddhaaMeterRun
import Derived.Deep.RegionHeld3
namespace Go.Proofs.Ytpooglajfiddhaa
open Go.RowKit

def MSt.play4 (s : MSt) (o : ROp) : Int × MSt := if o.k = 4 then (o.e, s.refused o.e) else s.play o

theorem play4_ok {s : MSt} (h : s.Ok) (o : ROp) : (s.play4 o).2.Ok := by
  unfold MSt.play4
  split
  · unfold MSt.refused; split
    · exact refuse_ok h _ _
    · exact h
  · exact play_ok h o

theorem RefAt.drew {w : World} {b : Nat} {s : MSt} (h : RefAt w b s) : RefAt w.drew b s := h.grown (r := none) (gb_drew (gb_refl w none)) (by simp)

/-- what the region that compares reads of the document's meter -/
structure RefReads (w : World) (b : Nat) (s : MSt) : Prop where
  c4 : w.cell? ⟨b, 4, none⟩ = some (.int .i64 s.st)

theorem ref_new (w : World) (a b c d : Int) : RefAt (w.alloc (.cells #[.int .i64 a, .int .i64 b, .int .i64 c, .int .i64 d, .int .i64 0, .int .i64 0, .int .i64 0, .int .i64 0] 40)) w.heap.size (MSt.new a b c d) :=
  ⟨cell_new _ _ _ rfl rfl, cell_new _ _ _ rfl rfl, cell_new _ _ _ rfl rfl, cell_new _ _ _ rfl rfl, cell_new _ _ _ rfl rfl, cell_new _ _ _ rfl rfl, cell_new _ _ _ rfl rfl, cell_new _ _ _ rfl rfl, fun _ => free_new _ _ _⟩

theorem limits_new (bm : Nat) (a b c d : Int) (w : World) (h : MeterAt w bm (MSt.new a b c d)) :
    Calls Try.prog 12 #[.pointer (some ⟨bm, 0, none⟩)] w fun e w' => e = .returned (.agg #[.int .i64 a, .int .i64 b, .int .i64 c, .int .i64 d]) ∧ Ext w w' := Limits_any bm _ w h
theorem lim_keep {w3 W w' : World} {a b c d : Int} {B : Nat} (h : Ext w3 W ∧ W.cell? ⟨B, 0, none⟩ = some (.int .i64 a) ∧ W.cell? ⟨B, 1, none⟩ = some (.int .i64 b) ∧ W.cell? ⟨B, 2, none⟩ = some (.int .i64 c) ∧ W.cell? ⟨B, 3, none⟩ = some (.int .i64 d)) (hx : Ext W w') :
    Ext w3 w' ∧ w'.cell? ⟨B, 0, none⟩ = some (.int .i64 a) ∧ w'.cell? ⟨B, 1, none⟩ = some (.int .i64 b) ∧ w'.cell? ⟨B, 2, none⟩ = some (.int .i64 c) ∧ w'.cell? ⟨B, 3, none⟩ = some (.int .i64 d) :=
  ⟨h.1.trans hx, hx.cell h.2.1, hx.cell h.2.2.1, hx.cell h.2.2.2.1, hx.cell h.2.2.2.2⟩
theorem ref_keep {w3 W w' : World} {a b c d : Int} {B : Nat} (h : Ext w3 W ∧ W.cell? ⟨B, 4, none⟩ = some (.int .i64 a) ∧ W.cell? ⟨B, 5, none⟩ = some (.int .i64 b) ∧ W.cell? ⟨B, 6, none⟩ = some (.int .i64 c) ∧ W.cell? ⟨B, 7, none⟩ = some (.int .i64 d)) (hx : Ext W w') :
    Ext w3 w' ∧ w'.cell? ⟨B, 4, none⟩ = some (.int .i64 a) ∧ w'.cell? ⟨B, 5, none⟩ = some (.int .i64 b) ∧ w'.cell? ⟨B, 6, none⟩ = some (.int .i64 c) ∧ w'.cell? ⟨B, 7, none⟩ = some (.int .i64 d) :=
  ⟨h.1.trans hx, hx.cell h.2.1, hx.cell h.2.2.1, hx.cell h.2.2.2.1, hx.cell h.2.2.2.2⟩
theorem lim_ext {w3 W : World} {a b c d : Int} {B : Nat} (h : Ext w3 W ∧ W.cell? ⟨B, 0, none⟩ = some (.int .i64 a) ∧ W.cell? ⟨B, 1, none⟩ = some (.int .i64 b) ∧ W.cell? ⟨B, 2, none⟩ = some (.int .i64 c) ∧ W.cell? ⟨B, 3, none⟩ = some (.int .i64 d)) : Ext w3 W := h.1

set_option maxRecDepth 100000 in
set_option maxHeartbeats 20000000 in
theorem plays_any {S : Nat → Prop} (a b c d : Int) (v : Value) (l : List ROp) (w : World) (h : Ops S w v l) (hS : ∀ k, S k → k < w.heap.size) :
    Calls Try.prog 4 #[.agg #[.int .i64 a, .int .i64 b, .int .i64 c, .int .i64 d], v] w (RetTrue w) := by
  have hlen := h.len_le
  have HOps := hid h
  obtain ⟨ob, oo, ⟨ap, cp, rfl, hcap, hmax, ha, hin⟩, hc⟩ := h
  have HC := hid hc
  have HX1 := hid (Ext.alloc (Ext.refl w) (.cells #[.int .i64 a, .int .i64 b, .int .i64 c, .int .i64 d] 23))
  have HO1 := hid (HOps.out.to (Kept.alloc hS (.cells #[.int .i64 a, .int .i64 b, .int .i64 c, .int .i64 d] 23)) (fun _ h => h))
  have HB0 := hid (cell_new w #[.int .i64 a, .int .i64 b, .int .i64 c, .int .i64 d] 23 (i := 0) (v := .int .i64 a) rfl rfl)
  have HB1 := hid (cell_new w #[.int .i64 a, .int .i64 b, .int .i64 c, .int .i64 d] 23 (i := 1) (v := .int .i64 b) rfl rfl)
  have HB2 := hid (cell_new w #[.int .i64 a, .int .i64 b, .int .i64 c, .int .i64 d] 23 (i := 2) (v := .int .i64 c) rfl rfl)
  have HB3 := hid (cell_new w #[.int .i64 a, .int .i64 b, .int .i64 c, .int .i64 d] 23 (i := 3) (v := .int .i64 d) rfl rfl)
  have HS := hid hS
  clear hc hS
  go_enter Try.func4, Try.ntmps4
  go_wp2_with fail
  refine (great_any _ l _ HO1.out).mono ?_
  rintro e w1 ⟨x, rfl, rfl⟩
  cases x with
  | true =>
    go_wp2_with fail
    refine (known_any _).mono ?_
    rintro e w2 ⟨rfl, hx⟩
    have HX2 := hid (HX1.out.trans hx)
    clear hx
    go_wp2_with fail
    go_ret
    exact ⟨rfl, HX2.out⟩
  | false =>
    by_cases hm : ¬ mayLimits a b c d
    · have HM := hid hm
      clear hm
      go_wp2_with fail
      refine (new_no a b c d _ HM.out).mono ?_
      rintro e w2 ⟨hx, rfl⟩
      have HX2 := hid (HX1.out.trans hx)
      have q0 := hx.cell HB0.out
      have q1 := hx.cell HB1.out
      have q2 := hx.cell HB2.out
      have q3 := hx.cell HB3.out
      clear hx
      go_wp2_with fail
      refine (may_no a b c d _ HM.out).mono ?_
      rintro e w3 ⟨rfl, hx⟩
      have HX3 := hid (HX2.out.trans hx)
      clear hx q0 q1 q2 q3
      have hnot : ∀ (x : Bool) (w : World), (Op.unary .not (.bool x)).run Try.prog w = .ok (.bool (!x)) w := fun _ _ => rfl
      go_wp2_with fail
      refine (known_any _).mono ?_
      rintro e w4 ⟨rfl, hx⟩
      have HX4 := hid (HX3.out.trans hx)
      clear hx
      go_wp2_with fail
      go_ret
      exact ⟨rfl, HX4.out⟩
    have hm := Classical.not_not.1 hm
    have HM := hid hm
    have HOk := hid (ok_new hm)
    clear hm
    go_wp2_with fail
    refine (new_yes a b c d _ HM.out).mono ?_
    rintro e w2 ⟨bm, hbm, hma, hx, rfl⟩
    have HX2 := hid (HX1.out.trans hx)
    have q0 := hx.cell HB0.out
    have q1 := hx.cell HB1.out
    have q2 := hx.cell HB2.out
    have q3 := hx.cell HB3.out
    have HMA := hid hma
    have hbm' : w.heap.size + 1 ≤ bm := by simpa using hbm
    have hbm2 := lt_of_cell hma.c0
    clear hx hbm hma
    have hnot : ∀ (x : Bool) (w : World), (Op.unary .not (.bool x)).run Try.prog w = .ok (.bool (!x)) w := fun _ _ => rfl
    go_wp2_with fail
    refine (may_yes a b c d _ HM.out).mono ?_
    rintro e w3 ⟨rfl, hx⟩
    have HX3 := hid (HX2.out.trans hx)
    have p0 := hx.cell q0
    have p1 := hx.cell q1
    have p2 := hx.cell q2
    have p3 := hx.cell q3
    have HMA3 := hid (HMA.out.kept hx hbm2)
    have hbm3 := lt_of_cell HMA3.out.c0
    clear hx q0 q1 q2 q3
    go_wp2_with fail
    have S0 := lim_keep (w3 := w3) (B := w.heap.size) ⟨Ext.refl _, p0, p1, p2, p3⟩ (Below.drew (Ext.refl w3))
    have hma3 := HMA3.out
    go_region_held3 (fun w' => Ext w3 w' ∧ w'.cell? ⟨w.heap.size, 0, none⟩ = some (.int .i64 a) ∧ w'.cell? ⟨w.heap.size, 1, none⟩ = some (.int .i64 b) ∧ w'.cell? ⟨w.heap.size, 2, none⟩ = some (.int .i64 c) ∧ w'.cell? ⟨w.heap.size, 3, none⟩ = some (.int .i64 d)) (first | exact S0 | exact lim_keep S0 hx')
      (first | (go_at_call 12; refine (limits_new bm a b c d _ ?_).mono ?_; (refine hma3.kept (lim_ext (a := a) (b := b) (c := c) (d := d) (B := w.heap.size) ?_) hbm3; assumption); rintro e w' ⟨rfl, hx'⟩))
    have HX4 := hid (HX3.out.trans (Ext.trans (Below.drew (Ext.refl w3)) hx'))
    have q0 := hx'.cell S0.2.1
    have q1 := hx'.cell S0.2.2.1
    have q2 := hx'.cell S0.2.2.2.1
    have q3 := hx'.cell S0.2.2.2.2
    have HMA4 := hid ((hma3.kept (Below.drew (Ext.refl w3)) hbm3).kept hx' hbm3)
    clear hx' S0 p0 p1 p2 p3 hma3
    go_wp2_with fail
    have HX5 := hid (HX4.out.alloc (.cells #[.int .i64 a, .int .i64 b, .int .i64 c, .int .i64 d, .int .i64 0, .int .i64 0, .int .i64 0, .int .i64 0] 40))
    have HMA5 := hid (HMA4.out.alloc (.cells #[.int .i64 a, .int .i64 b, .int .i64 c, .int .i64 d, .int .i64 0, .int .i64 0, .int .i64 0, .int .i64 0] 40))
    have HR5 := hid (ref_new w' a b c d)
    have hbm5 := lt_of_cell HMA4.out.c0
    have hbw5 := HX4.out.size
    generalize hbw : w'.heap.size = bw at *
    have HBW := hid hbw
    generalize w'.alloc (.cells #[.int .i64 a, .int .i64 b, .int .i64 c, .int .i64 d, .int .i64 0, .int .i64 0, .int .i64 0, .int .i64 0] 40) = w5 at *
    clear q0 q1 q2 q3 hbw
    go_loopw [49] (fun i wr => ∃ (k : Nat) (s : MSt), k ≤ l.length ∧ i = .int .i64 k ∧ MeterAt wr bm s ∧ RefAt wr bw s ∧ s.Ok ∧ Ext w wr) (fun i _ => l.length - (intOf i).toNat)
    case atStart => exact ⟨0, _, Nat.zero_le _, rfl, HMA5.out, HR5.out, HOk.out, HX5.out⟩
    case round =>
      obtain ⟨k, s, hk, rfl, hms, hrs, hok, hex⟩ := hrel
      have HMS := hid hms
      have HRS := hid hrs
      have HOK := hid hok
      have HEX := hid hex
      have hbr := lt_of_cell hms.c0
      have hbr2 := lt_of_cell hrs.c0
      clear hms hrs hok hex
      by_cases hlt : k < l.length
      · obtain ⟨o, ho⟩ := some_of_lt hlt
        obtain ⟨vp, h1, h2, h3, h4⟩ := HC.out k o ho
        obtain rfl := ha (by omega)
        have g1 := HEX.out.cell h1
        have g2 := HEX.out.cell h2
        have g3 := HEX.out.cell h3
        obtain ⟨av, cv, rfl⟩ := h4.form
        rcases hp : s.play4 o with ⟨e2, s2⟩
        have hok2 := play4_ok HOK.out o
        rw [hp] at hok2
        have HOK2 := hid hok2
        have HT := hid (h4.to (Kept.of_below HEX.out |>.mono HS.out) (fun k hk => hk))
        have HP := hid hp
        clear h1 h2 h3 h4 ho hp hok2
        have HM1 := hid (HMS.out.alloc (.cells #[.int .i64 o.k, .slice av o.p.length cv, .int .i64 o.e] 44))
        have HR1 := hid (HRS.out.grown (gb_alloc (gb_refl wr none) (.cells #[.int .i64 o.k, .slice av o.p.length cv, .int .i64 o.e] 44)) (by simp))
        have EX1 := hid (Ext.alloc HEX.out (.cells #[.int .i64 o.k, .slice av o.p.length cv, .int .i64 o.e] 44))
        have HT1 := hid (HT.out.to (Kept.alloc (fun k hk => Nat.lt_of_lt_of_le (HS.out k hk) HEX.out.size) (.cells #[.int .i64 o.k, .slice av o.p.length cv, .int .i64 o.e] 44)) (fun _ h => h))
        have HS1 : Hid (∀ k, S k → k < (wr.alloc (.cells #[.int .i64 o.k, .slice av o.p.length cv, .int .i64 o.e] 44)).heap.size) := hid (fun k hk => by have := HS.out k hk; have := HEX.out.size; rw [size_alloc]; omega)
        have hcase : o.k = 1 ∨ o.k = 2 ∨ o.k = 3 ∨ o.k = 4 ∨ (o.k ≠ 1 ∧ o.k ≠ 2 ∧ o.k ≠ 3 ∧ o.k ≠ 4) := by omega
        rcases hcase with hk1 | hk1 | hk1 | hk1 | hk1
        · have c1 : Calls Try.prog 13 #[.pointer (some ⟨bm, 0, none⟩)] (wr.alloc (.cells #[.int .i64 o.k, .slice av o.p.length cv, .int .i64 o.e] 44)) (Met (wr.alloc (.cells #[.int .i64 o.k, .slice av o.p.length cv, .int .i64 o.e] 44)) bm e2 s2) := by
            have := step_any bm s _ HM1.out HOK.out
            rwa [show s.step = (e2, s2) from by have := HP.out; simpa [MSt.play4, MSt.play, hk1] using this] at this
          have C1 := hid c1
          have c2 : ∀ W, RefAt W bw s → Calls Try.prog 14 #[.pointer (some ⟨bw, 0, none⟩)] W (RMet W bw e2 s2) := by
            intro W hW
            have := refStep_any bw s _ hW HOK.out
            rwa [show s.step = (e2, s2) from by have := HP.out; simpa [MSt.play4, MSt.play, hk1] using this] at this
          have C2 := hid c2
          have hb1 : (o.k == 1) = true := by simp [hk1]
          have hb2 : (o.k == 2) = false := by simp [hk1]
          have hb3 : (o.k == 3) = false := by simp [hk1]
          have hb4 : (o.k == 4) = false := by simp [hk1]
          have HK := hid hk1
          clear c1 c2 hk1
          go_wp2_with fail
          refine C1.out.mono ?_
          rintro e w2 ⟨rfl, hm2, hg2⟩
          have HM2 := hid hm2
          have HG2 := hid hg2
          clear hm2 hg2
          go_wp2_with fail
          refine (C2.out _ (HR1.out.grown HG2.out (by simp; omega))).mono ?_
          rintro e w3' ⟨rfl, hr3, hg3⟩
          have hm3 := HM2.out.grown hg3 (by simp; omega)
          have ex3 := ext_of_gb (ext_of_gb EX1.out HG2.out (by omega)) hg3 (by omega)
          clear hg3
          go_wp2_with fail
          have HM3 := hid hm3
          have HR3 := hid hr3
          have EX3 := hid ex3
          have S1 := ref_keep (w3 := w3') (B := bw) ⟨Ext.refl _, hr3.c4, hr3.c5, hr3.c6, hr3.c7⟩ (Below.drew (Ext.refl w3'))
          have hmd := hm3.drewN 1
          have hbm3 := lt_of_cell hm3.c0
          clear hm3 hr3 ex3
          go_region_held3 (fun W => Ext w3' W ∧ W.cell? ⟨bw, 4, none⟩ = some (.int .i64 s2.st) ∧ W.cell? ⟨bw, 5, none⟩ = some (.int .i64 s2.pc) ∧ W.cell? ⟨bw, 6, none⟩ = some (.int .i64 s2.wh) ∧ W.cell? ⟨bw, 7, none⟩ = some (.int .i64 s2.nn)) (first | exact S1 | exact ref_keep S1 hx4)
            (first | (go_at_call 21; refine (Fuel_any bm s2 _ hmd).mono ?_; rintro e w4 ⟨rfl, rfl⟩) | (go_at_call 22; refine (Pieces_any bm s2 _ hmd).mono ?_; rintro e w4 ⟨rfl, rfl⟩) | (go_at_call 23; refine (Need_any bm s2 _ hmd).mono ?_; rintro e w4 ⟨rfl, hx4⟩))
          have HM5 := hid (hmd.kept hx4 hbm3)
          have HR5' := hid (HR3.out.grown (gb_trans (gb_drew (gb_refl w3' none)) (gb_of_ext hx4 none)) (by simp))
          have EX5 := hid (EX3.out.trans (Ext.trans (Below.drew (Ext.refl w3')) hx4))
          clear hx4 S1 hmd
          go_wp2
          go_roundw
          case rel => exact ⟨k + 1, s2, by omega, by go_num, HM5.out, HR5'.out, HOK2.out, EX5.out⟩
          case measure => simp only [intOf]; omega
        · have c1 : Calls Try.prog 15 #[.pointer (some ⟨bm, 0, none⟩)] (wr.alloc (.cells #[.int .i64 o.k, .slice av o.p.length cv, .int .i64 o.e] 44)) (Met (wr.alloc (.cells #[.int .i64 o.k, .slice av o.p.length cv, .int .i64 o.e] 44)) bm e2 s2) := by
            have := piece_any bm s _ HM1.out HOK.out
            rwa [show s.piece = (e2, s2) from by have := HP.out; simpa [MSt.play4, MSt.play, hk1] using this] at this
          have C1 := hid c1
          have c2 : ∀ W, RefAt W bw s → Calls Try.prog 16 #[.pointer (some ⟨bw, 0, none⟩)] W (RMet W bw e2 s2) := by
            intro W hW
            have := refPiece_any bw s _ hW HOK.out
            rwa [show s.piece = (e2, s2) from by have := HP.out; simpa [MSt.play4, MSt.play, hk1] using this] at this
          have C2 := hid c2
          have hb1 : (o.k == 1) = false := by simp [hk1]
          have hb2 : (o.k == 2) = true := by simp [hk1]
          have hb3 : (o.k == 3) = false := by simp [hk1]
          have hb4 : (o.k == 4) = false := by simp [hk1]
          have HK := hid hk1
          clear c1 c2 hk1
          go_wp2_with fail
          refine C1.out.mono ?_
          rintro e w2 ⟨rfl, hm2, hg2⟩
          have HM2 := hid hm2
          have HG2 := hid hg2
          clear hm2 hg2
          go_wp2_with fail
          refine (C2.out _ (HR1.out.grown HG2.out (by simp; omega))).mono ?_
          rintro e w3' ⟨rfl, hr3, hg3⟩
          have hm3 := HM2.out.grown hg3 (by simp; omega)
          have ex3 := ext_of_gb (ext_of_gb EX1.out HG2.out (by omega)) hg3 (by omega)
          clear hg3
          go_wp2_with fail
          have HM3 := hid hm3
          have HR3 := hid hr3
          have EX3 := hid ex3
          have S1 := ref_keep (w3 := w3') (B := bw) ⟨Ext.refl _, hr3.c4, hr3.c5, hr3.c6, hr3.c7⟩ (Below.drew (Ext.refl w3'))
          have hmd := hm3.drewN 1
          have hbm3 := lt_of_cell hm3.c0
          clear hm3 hr3 ex3
          go_region_held3 (fun W => Ext w3' W ∧ W.cell? ⟨bw, 4, none⟩ = some (.int .i64 s2.st) ∧ W.cell? ⟨bw, 5, none⟩ = some (.int .i64 s2.pc) ∧ W.cell? ⟨bw, 6, none⟩ = some (.int .i64 s2.wh) ∧ W.cell? ⟨bw, 7, none⟩ = some (.int .i64 s2.nn)) (first | exact S1 | exact ref_keep S1 hx4)
            (first | (go_at_call 21; refine (Fuel_any bm s2 _ hmd).mono ?_; rintro e w4 ⟨rfl, rfl⟩) | (go_at_call 22; refine (Pieces_any bm s2 _ hmd).mono ?_; rintro e w4 ⟨rfl, rfl⟩) | (go_at_call 23; refine (Need_any bm s2 _ hmd).mono ?_; rintro e w4 ⟨rfl, hx4⟩))
          have HM5 := hid (hmd.kept hx4 hbm3)
          have HR5' := hid (HR3.out.grown (gb_trans (gb_drew (gb_refl w3' none)) (gb_of_ext hx4 none)) (by simp))
          have EX5 := hid (EX3.out.trans (Ext.trans (Below.drew (Ext.refl w3')) hx4))
          clear hx4 S1 hmd
          go_wp2
          go_roundw
          case rel => exact ⟨k + 1, s2, by omega, by go_num, HM5.out, HR5'.out, HOK2.out, EX5.out⟩
          case measure => simp only [intOf]; omega
        · have c1 : ∀ W, MeterAt W bm s → Terms S W (.slice av o.p.length cv) o.p → (∀ k, S k → k < W.heap.size) → Calls Try.prog 17 #[.pointer (some ⟨bm, 0, none⟩), .slice av o.p.length cv] W (Met W bm e2 s2) := by
            intro W hW hT hSW
            have := keep_any (S := S) bm s _ o.p W hW hT hSW
            rwa [show s.keep (mostLimbs o.p o.p.length) o.p.length = (e2, s2) from by have := HP.out; simpa [MSt.play4, MSt.play, hk1] using this] at this
          have C1 := hid c1
          have c2 : ∀ W, RefAt W bw s → Terms S W (.slice av o.p.length cv) o.p → Calls Try.prog 18 #[.pointer (some ⟨bw, 0, none⟩), .slice av o.p.length cv] W (RMet W bw e2 s2) := by
            intro W hW hT
            have := refKeep_any (S := S) bw s _ o.p W hW hT
            rwa [show s.keep (mostLimbs o.p o.p.length) o.p.length = (e2, s2) from by have := HP.out; simpa [MSt.play4, MSt.play, hk1] using this] at this
          have C2 := hid c2
          have hb1 : (o.k == 1) = false := by simp [hk1]
          have hb2 : (o.k == 2) = false := by simp [hk1]
          have hb3 : (o.k == 3) = true := by simp [hk1]
          have hb4 : (o.k == 4) = false := by simp [hk1]
          have HK := hid hk1
          clear c1 c2 hk1
          have s0 : (wr.alloc (.cells #[.int .i64 o.k, .slice av o.p.length cv, .int .i64 o.e] 44)).drew.cell? ⟨wr.heap.size, 1, none⟩ = some (.slice av o.p.length cv) := by rw [World.cell?_drew]; exact cell_new _ _ _ rfl rfl
          have hmA := HM1.out.drew
          have hrA := HR1.out.drew
          have htA : Terms S (wr.alloc (.cells #[.int .i64 o.k, .slice av o.p.length cv, .int .i64 o.e] 44)).drew (.slice av o.p.length cv) o.p := HT1.out.to (fun _ _ => rfl) (fun _ h => h)
          have hsA : ∀ k, S k → k < (wr.alloc (.cells #[.int .i64 o.k, .slice av o.p.length cv, .int .i64 o.e] 44)).drew.heap.size := HS1.out
          have HSA := hid hsA
          have kt : ∀ (W W' : World) (r : Nat), W.grownBy W' (some r) → w.heap.size ≤ r → (∀ k, S k → k < W.heap.size) → Terms S W (.slice av o.p.length cv) o.p → Terms S W' (.slice av o.p.length cv) o.p := fun _ _ _ hg hr hs h => h.to (Kept.grown hg (fun k hk => ⟨hs k hk, by have := HS.out k hk; simp; omega⟩)) (fun _ h => h)
          have ks : ∀ (W W' : World) (r : Nat), W.grownBy W' (some r) → (∀ k, S k → k < W.heap.size) → ∀ k, S k → k < W'.heap.size := fun _ _ _ hg hs k hk => Nat.lt_of_lt_of_le (hs k hk) hg.size
          have KT := hid kt
          have KS := hid ks
          clear hsA kt ks
          go_wp2_with fail
          go_region_held3 (fun W => W.cell? ⟨wr.heap.size, 1, none⟩ = some (.slice av o.p.length cv)) (first | exact s0 | exact hga.cell s0 (by simp; omega) | exact hgb.cell s0 (by simp; omega) | exact hgb2.cell (hga.cell s0 (by simp; omega)) (by simp; omega) | exact hga2.cell (hgb.cell s0 (by simp; omega)) (by simp; omega))
            (first
              | (go_at_call 17; (with_reducible refine (C1.out _ hmA htA HSA.out).mono ?_); rintro e wa ⟨rfl, hma, hga⟩)
              | (go_at_call 17; (with_reducible refine (C1.out _ (hmA.grown hgb (by simp; omega)) (KT.out _ _ _ hgb (by omega) HSA.out htA) (KS.out _ _ _ hgb HSA.out)).mono ?_); rintro e wa2 ⟨rfl, hma2, hga2⟩)
              | (go_at_call 18; (with_reducible refine (C2.out _ hrA htA).mono ?_); rintro e wb ⟨rfl, hrb, hgb⟩)
              | (go_at_call 18; (with_reducible refine (C2.out _ (hrA.grown hga (by simp; omega)) (KT.out _ _ _ hga (by omega) HSA.out htA)).mono ?_); rintro e wb2 ⟨rfl, hrb2, hgb2⟩))
          have hr3 := hrb2
          have hm3 := hma.grown hgb2 (by simp; omega)
          have ex3 := ext_of_gb (ext_of_gb (Ext.trans EX1.out (Below.drew (Ext.refl (wr.alloc (.cells #[.int .i64 o.k, .slice av o.p.length cv, .int .i64 o.e] 44))))) hga (by omega)) hgb2 (by omega)
          clear hga hgb2 hma hrb2 hmA hrA htA s0
          generalize hww : wb2 = w3' at *
          clear hww
          go_wp2_with fail
          have HM3 := hid hm3
          have HR3 := hid hr3
          have EX3 := hid ex3
          have S1 := ref_keep (w3 := w3') (B := bw) ⟨Ext.refl _, hr3.c4, hr3.c5, hr3.c6, hr3.c7⟩ (Below.drew (Ext.refl w3'))
          have hmd := hm3.drewN 1
          have hbm3 := lt_of_cell hm3.c0
          clear hm3 hr3 ex3
          go_region_held3 (fun W => Ext w3' W ∧ W.cell? ⟨bw, 4, none⟩ = some (.int .i64 s2.st) ∧ W.cell? ⟨bw, 5, none⟩ = some (.int .i64 s2.pc) ∧ W.cell? ⟨bw, 6, none⟩ = some (.int .i64 s2.wh) ∧ W.cell? ⟨bw, 7, none⟩ = some (.int .i64 s2.nn)) (first | exact S1 | exact ref_keep S1 hx4)
            (first | (go_at_call 21; refine (Fuel_any bm s2 _ hmd).mono ?_; rintro e w4 ⟨rfl, rfl⟩) | (go_at_call 22; refine (Pieces_any bm s2 _ hmd).mono ?_; rintro e w4 ⟨rfl, rfl⟩) | (go_at_call 23; refine (Need_any bm s2 _ hmd).mono ?_; rintro e w4 ⟨rfl, hx4⟩))
          have HM5 := hid (hmd.kept hx4 hbm3)
          have HR5' := hid (HR3.out.grown (gb_trans (gb_drew (gb_refl w3' none)) (gb_of_ext hx4 none)) (by simp))
          have EX5 := hid (EX3.out.trans (Ext.trans (Below.drew (Ext.refl w3')) hx4))
          clear hx4 S1 hmd
          go_wp2
          go_roundw
          case rel => exact ⟨k + 1, s2, by omega, by go_num, HM5.out, HR5'.out, HOK2.out, EX5.out⟩
          case measure => simp only [intOf]; omega
        · have c1 : ∀ W, MeterAt W bm s → Terms S W (.slice av o.p.length cv) o.p → (∀ k, S k → k < W.heap.size) → Calls Try.prog 19 #[.pointer (some ⟨bm, 0, none⟩), .int .i64 o.e] W (Met W bm e2 s2) := by
            intro W hW hT hSW
            have := Refuse_any bm s o.e W hW
            obtain ⟨h1, h2⟩ : o.e = e2 ∧ s.refused o.e = s2 := by have := HP.out; simpa [MSt.play4, hk1] using this
            rw [h2] at this
            rwa [h1] at this ⊢
          have C1 := hid c1
          have c2 : ∀ W, RefAt W bw s → Terms S W (.slice av o.p.length cv) o.p → Calls Try.prog 20 #[.pointer (some ⟨bw, 0, none⟩), .int .i64 o.e] W (RMet W bw e2 s2) := by
            intro W hW hT
            have := refRefuse2_any bw s o.e W hW
            obtain ⟨h1, h2⟩ : o.e = e2 ∧ s.refused o.e = s2 := by have := HP.out; simpa [MSt.play4, hk1] using this
            rw [h2] at this
            rwa [h1] at this ⊢
          have C2 := hid c2
          have hb1 : (o.k == 1) = false := by simp [hk1]
          have hb2 : (o.k == 2) = false := by simp [hk1]
          have hb3 : (o.k == 3) = false := by simp [hk1]
          have hb4 : (o.k == 4) = true := by simp [hk1]
          have HK := hid hk1
          clear c1 c2 hk1
          have s0 : (wr.alloc (.cells #[.int .i64 o.k, .slice av o.p.length cv, .int .i64 o.e] 44)).drew.cell? ⟨wr.heap.size, 2, none⟩ = some (.int .i64 o.e) := by rw [World.cell?_drew]; exact cell_new _ _ _ rfl rfl
          have hmA := HM1.out.drew
          have hrA := HR1.out.drew
          have htA : Terms S (wr.alloc (.cells #[.int .i64 o.k, .slice av o.p.length cv, .int .i64 o.e] 44)).drew (.slice av o.p.length cv) o.p := HT1.out.to (fun _ _ => rfl) (fun _ h => h)
          have hsA : ∀ k, S k → k < (wr.alloc (.cells #[.int .i64 o.k, .slice av o.p.length cv, .int .i64 o.e] 44)).drew.heap.size := HS1.out
          have HSA := hid hsA
          have kt : ∀ (W W' : World) (r : Nat), W.grownBy W' (some r) → w.heap.size ≤ r → (∀ k, S k → k < W.heap.size) → Terms S W (.slice av o.p.length cv) o.p → Terms S W' (.slice av o.p.length cv) o.p := fun _ _ _ hg hr hs h => h.to (Kept.grown hg (fun k hk => ⟨hs k hk, by have := HS.out k hk; simp; omega⟩)) (fun _ h => h)
          have ks : ∀ (W W' : World) (r : Nat), W.grownBy W' (some r) → (∀ k, S k → k < W.heap.size) → ∀ k, S k → k < W'.heap.size := fun _ _ _ hg hs k hk => Nat.lt_of_lt_of_le (hs k hk) hg.size
          have KT := hid kt
          have KS := hid ks
          clear hsA kt ks
          go_wp2_with fail
          go_region_held3 (fun W => W.cell? ⟨wr.heap.size, 2, none⟩ = some (.int .i64 o.e)) (first | exact s0 | exact hga.cell s0 (by simp; omega) | exact hgb.cell s0 (by simp; omega) | exact hgb2.cell (hga.cell s0 (by simp; omega)) (by simp; omega) | exact hga2.cell (hgb.cell s0 (by simp; omega)) (by simp; omega))
            (first
              | (go_at_call 19; (with_reducible refine (C1.out _ hmA htA HSA.out).mono ?_); rintro e wa ⟨rfl, hma, hga⟩)
              | (go_at_call 19; (with_reducible refine (C1.out _ (hmA.grown hgb (by simp; omega)) (KT.out _ _ _ hgb (by omega) HSA.out htA) (KS.out _ _ _ hgb HSA.out)).mono ?_); rintro e wa2 ⟨rfl, hma2, hga2⟩)
              | (go_at_call 20; (with_reducible refine (C2.out _ hrA htA).mono ?_); rintro e wb ⟨rfl, hrb, hgb⟩)
              | (go_at_call 20; (with_reducible refine (C2.out _ (hrA.grown hga (by simp; omega)) (KT.out _ _ _ hga (by omega) HSA.out htA)).mono ?_); rintro e wb2 ⟨rfl, hrb2, hgb2⟩))
          have hr3 := hrb2
          have hm3 := hma.grown hgb2 (by simp; omega)
          have ex3 := ext_of_gb (ext_of_gb (Ext.trans EX1.out (Below.drew (Ext.refl (wr.alloc (.cells #[.int .i64 o.k, .slice av o.p.length cv, .int .i64 o.e] 44))))) hga (by omega)) hgb2 (by omega)
          clear hga hgb2 hma hrb2 hmA hrA htA s0
          generalize hww : wb2 = w3' at *
          clear hww
          go_wp2_with fail
          have HM3 := hid hm3
          have HR3 := hid hr3
          have EX3 := hid ex3
          have S1 := ref_keep (w3 := w3') (B := bw) ⟨Ext.refl _, hr3.c4, hr3.c5, hr3.c6, hr3.c7⟩ (Below.drew (Ext.refl w3'))
          have hmd := hm3.drewN 1
          have hbm3 := lt_of_cell hm3.c0
          clear hm3 hr3 ex3
          go_region_held3 (fun W => Ext w3' W ∧ W.cell? ⟨bw, 4, none⟩ = some (.int .i64 s2.st) ∧ W.cell? ⟨bw, 5, none⟩ = some (.int .i64 s2.pc) ∧ W.cell? ⟨bw, 6, none⟩ = some (.int .i64 s2.wh) ∧ W.cell? ⟨bw, 7, none⟩ = some (.int .i64 s2.nn)) (first | exact S1 | exact ref_keep S1 hx4)
            (first | (go_at_call 21; refine (Fuel_any bm s2 _ hmd).mono ?_; rintro e w4 ⟨rfl, rfl⟩) | (go_at_call 22; refine (Pieces_any bm s2 _ hmd).mono ?_; rintro e w4 ⟨rfl, rfl⟩) | (go_at_call 23; refine (Need_any bm s2 _ hmd).mono ?_; rintro e w4 ⟨rfl, hx4⟩))
          have HM5 := hid (hmd.kept hx4 hbm3)
          have HR5' := hid (HR3.out.grown (gb_trans (gb_drew (gb_refl w3' none)) (gb_of_ext hx4 none)) (by simp))
          have EX5 := hid (EX3.out.trans (Ext.trans (Below.drew (Ext.refl w3')) hx4))
          clear hx4 S1 hmd
          go_wp2
          go_roundw
          case rel => exact ⟨k + 1, s2, by omega, by go_num, HM5.out, HR5'.out, HOK2.out, EX5.out⟩
          case measure => simp only [intOf]; omega
        · have he2 : 0 = e2 ∧ s = s2 := by have := HP.out; simpa [MSt.play4, MSt.play, hk1] using this
          obtain ⟨rfl, rfl⟩ := he2
          have hb1 : (o.k == 1) = false := by simp [hk1]
          have hb2 : (o.k == 2) = false := by simp [hk1]
          have hb3 : (o.k == 3) = false := by simp [hk1]
          have hb4 : (o.k == 4) = false := by simp [hk1]
          have HK := hid hk1
          clear hk1
          go_wp2_with fail
          have hm3 := HM1.out
          have hr3 := HR1.out
          have ex3 := EX1.out
          generalize hww : (wr.alloc (.cells #[.int .i64 o.k, .slice av o.p.length cv, .int .i64 o.e] 44)) = w3' at *
          have HWW := hid hww
          clear hww
          have HM3 := hid hm3
          have HR3 := hid hr3
          have EX3 := hid ex3
          have S1 := ref_keep (w3 := w3') (B := bw) ⟨Ext.refl _, hr3.c4, hr3.c5, hr3.c6, hr3.c7⟩ (Below.drew (Ext.refl w3'))
          have hmd := hm3.drewN 1
          have hbm3 := lt_of_cell hm3.c0
          clear hm3 hr3 ex3
          go_region_held3 (fun W => Ext w3' W ∧ W.cell? ⟨bw, 4, none⟩ = some (.int .i64 s.st) ∧ W.cell? ⟨bw, 5, none⟩ = some (.int .i64 s.pc) ∧ W.cell? ⟨bw, 6, none⟩ = some (.int .i64 s.wh) ∧ W.cell? ⟨bw, 7, none⟩ = some (.int .i64 s.nn)) (first | exact S1 | exact ref_keep S1 hx4)
            (first | (go_at_call 21; refine (Fuel_any bm s _ hmd).mono ?_; rintro e w4 ⟨rfl, rfl⟩) | (go_at_call 22; refine (Pieces_any bm s _ hmd).mono ?_; rintro e w4 ⟨rfl, rfl⟩) | (go_at_call 23; refine (Need_any bm s _ hmd).mono ?_; rintro e w4 ⟨rfl, hx4⟩))
          have HM5 := hid (hmd.kept hx4 hbm3)
          have HR5' := hid (HR3.out.grown (gb_trans (gb_drew (gb_refl w3' none)) (gb_of_ext hx4 none)) (by simp))
          have EX5 := hid (EX3.out.trans (Ext.trans (Below.drew (Ext.refl w3')) hx4))
          clear hx4 S1 hmd
          go_wp2
          go_roundw
          case rel => exact ⟨k + 1, s, by omega, by go_num, HM5.out, HR5'.out, HOK2.out, EX5.out⟩
          case measure => simp only [intOf]; omega
      · obtain rfl : k = l.length := by omega
        go_wp2_with fail
        refine (known_any _).mono ?_
        rintro e w7 ⟨rfl, hx⟩
        have HX7 := hid (Ext.trans HEX.out hx)
        clear hx
        go_wp2_with fail
        go_ret
        exact ⟨rfl, HX7.out⟩
end Go.Proofs.Ytpooglajfiddhaa
