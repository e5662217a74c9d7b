/- The statements' run: how many calls go well ahead of the first one that is refused. -/
import Derived.Test.YtpooglajfiddhaaMeterOps
import Derived.BigQuiet
import Derived.Deep.QuietTactic
namespace Go.Proofs.Ytpooglajfiddhaa
open Go.RowKit

/-- a call's answer and the state behind it (of the calls 1 to 3) -/
def MSt.play (s : MSt) (o : ROp) : Int × MSt :=
  if o.k = 1 then s.step else if o.k = 2 then s.piece else if o.k = 3 then s.keep (mostLimbs o.p o.p.length) o.p.length else (0, s)

def runSpec (s : MSt) (l : List ROp) (i : Nat) : Nat × Int × Int :=
  match l with
  | [] => (i, 0, 0)
  | o :: r => if (s.play o).1 = 0 then runSpec (s.play o).2 r (i + 1) else (i, (s.play o).2.wh, (s.play o).2.nn)

theorem refuse_ok {s : MSt} (h : s.Ok) (e n : Int) : (s.refuse e n).Ok := by
  unfold MSt.refuse
  split
  · exact ⟨h.f0, h.f1, h.l0, h.l1, h.t0, h.t1, h.p0, h.p1, h.s0, h.s1, h.c0, h.c1⟩
  · exact h
theorem play_ok {s : MSt} (h : s.Ok) (o : ROp) : (s.play o).2.Ok := by
  unfold MSt.play
  split
  · unfold MSt.step; split
    · exact ⟨h.f0, h.f1, h.l0, h.l1, h.t0, h.t1, h.p0, h.p1, by have := h.s0; show 0 ≤ s.st + 1; omega, by show s.st + 1 ≤ s.fu; omega, h.c0, h.c1⟩
    · exact refuse_ok h _ _
  split
  · unfold MSt.piece; split
    · exact ⟨h.f0, h.f1, h.l0, h.l1, h.t0, h.t1, h.p0, h.p1, h.s0, h.s1, by have := h.c0; show 0 ≤ s.pc + 1; omega, by show s.pc + 1 ≤ s.pi; omega⟩
    · exact refuse_ok h _ _
  split
  · unfold MSt.keep; split
    · exact refuse_ok h _ _
    split
    · exact refuse_ok h _ _
    · exact h
  · exact h

/-- the limits stay -/
theorem refuse_lim (s : MSt) (e n : Int) : (s.refuse e n).fu = s.fu ∧ (s.refuse e n).pi = s.pi ∧ (s.refuse e n).li = s.li ∧ (s.refuse e n).te = s.te := by
  unfold MSt.refuse
  split <;> simp
theorem play_lim (s : MSt) (o : ROp) : (s.play o).2.fu = s.fu ∧ (s.play o).2.pi = s.pi ∧ (s.play o).2.li = s.li ∧ (s.play o).2.te = s.te := by
  unfold MSt.play MSt.step MSt.piece MSt.keep
  repeat' split
  all_goals first | exact refuse_lim _ _ _ | exact ⟨rfl, rfl, rfl, rfl⟩
/-- what is refused first is what Need tells; what goes well leaves no refusal -/
theorem play_need {s : MSt} (h0 : s.wh = 0) (o : ROp) : ((s.play o).1 = 0 → (s.play o).2.wh = 0) ∧ ((s.play o).1 ≠ 0 → (s.play o).2.wh = (s.play o).1) := by
  unfold MSt.play MSt.step MSt.piece MSt.keep MSt.refuse
  repeat' split
  all_goals simp [h0]

/-- what run tells -/
def RunPost (w : World) (r : Nat × Int × Int) : Ending → World → Prop := fun e w' =>
  e = .returned (.tuple #[.int .i64 (r.1 : Nat), .agg #[.int .i64 r.2.1, .int .i64 r.2.2], .bool true]) ∧ Ext w w'

theorem Ops.form {S : Nat → Prop} {w : World} {v : Value} {zs : List ROp} (h : Ops S w v zs) : ∃ a cap, v = .slice a zs.length cap := by
  obtain ⟨b, off, ⟨a, cap, h1, _⟩, _⟩ := h
  exact ⟨a, cap, h1⟩

set_option maxRecDepth 100000 in
theorem run_no {S : Nat → Prop} (a b c d : Int) (v : Value) (l : List ROp) (w : World) (h : Ops S w v l) (hm : ¬ mayLimits a b c d) :
    Calls Try.prog 9 #[.agg #[.int .i64 a, .int .i64 b, .int .i64 c, .int .i64 d], v] w (RunPost w (0, 0, 0)) := by
  obtain ⟨ap, cp, rfl⟩ := h.form
  have HX0 := hid (Ext.alloc (Ext.alloc (Ext.refl w) (.cells #[.int .i64 a, .int .i64 b, .int .i64 c, .int .i64 d] 23)) (.cells #[.int .i64 0, .int .i64 0] 29))
  have HM := hid hm
  clear h hm
  go_enter Try.func9, Try.ntmps9
  go_wp2_with fail
  refine (new_no a b c d _ HM.out).mono ?_
  rintro e w1 ⟨hx, rfl⟩
  have q0 := hx.cell (b := w.heap.size + 1) (i := 0) (v := .int .i64 0) (cell_new _ _ _ (by simp) rfl)
  have q1 := hx.cell (b := w.heap.size + 1) (i := 1) (v := .int .i64 0) (cell_new _ _ _ (by simp) rfl)
  have f0 := hx.free (b := w.heap.size + 1) (i := 0) (by simp) (by rw [show w.heap.size + 1 = (w.alloc (.cells #[.int .i64 a, .int .i64 b, .int .i64 c, .int .i64 d] 23)).heap.size from by simp]; exact free_new _ _ _)
  have f1 := hx.free (b := w.heap.size + 1) (i := 1) (by simp) (by rw [show w.heap.size + 1 = (w.alloc (.cells #[.int .i64 a, .int .i64 b, .int .i64 c, .int .i64 d] 23)).heap.size from by simp]; exact free_new _ _ _)
  have HX := hid (HX0.out.trans hx)
  clear hx
  go_wp2_with fail
  refine bodyPost_ret (v := .tuple #[.int .i64 0, .agg #[.int .i64 0, .int .i64 0], .bool true]) (by simp [results, Try.results9, go_sem, q0, q1]) rfl ⟨rfl, ?_⟩
  exact (HX.out.setCell (p := ⟨w.heap.size + 1, 0, none⟩) (by simp) _).setCell (p := ⟨w.heap.size + 1, 1, none⟩) (by simp) _

theorem field_need0 (x y : Value) (w : World) : (Instr.field 29 (.agg #[x, y]) 0).run Try.prog w = .ok x w := by kernel_rfl
theorem field_need1 (x y : Value) (w : World) : (Instr.field 29 (.agg #[x, y]) 1).run Try.prog w = .ok y w := by kernel_rfl

theorem ok_new {a b c d : Int} (h : mayLimits a b c d) : (MSt.new a b c d).Ok :=
  ⟨h.1.1, h.1.2, h.2.1.1, h.2.1.2, h.2.2.1.1, h.2.2.1.2, h.2.2.2.1, h.2.2.2.2, by simp [MSt.new], h.1.1, by simp [MSt.new], h.2.2.2.1⟩

theorem MeterAt.drewN {w : World} {b : Nat} {s : MSt} (h : MeterAt w b s) (n : Nat) : MeterAt (w.drewN n) b s := h.grown (r := none) (gb_drewN w n none) (by simp)
theorem fuel_q {b : Nat} {s : MSt} {w : World} (h : MeterAt w b s) : Calls Try.prog 21 #[.pointer (some ⟨b, 0, none⟩)] w fun e w' => e = .returned (.int .i64 s.st) ∧ w' = w := (Fuel_any b s w h).mono fun _ _ (h : _ ∧ _) => ⟨h.1, h.2.symm⟩
theorem pieces_q {b : Nat} {s : MSt} {w : World} (h : MeterAt w b s) : Calls Try.prog 22 #[.pointer (some ⟨b, 0, none⟩)] w fun e w' => e = .returned (.int .i64 s.pc) ∧ w' = w := (Pieces_any b s w h).mono fun _ _ (h : _ ∧ _) => ⟨h.1, h.2.symm⟩
theorem ext_drewN (w : World) (n : Nat) : Ext w (w.drewN n) := ⟨rfl, rfl, rfl, Nat.le_refl _, fun _ _ => rfl⟩

set_option maxRecDepth 100000 in
set_option maxHeartbeats 4000000 in
theorem run_yes {S : Nat → Prop} (a b c d : Int) (v : Value) (l : List ROp) (w : World) (h : Ops S w v l) (hS : ∀ k, S k → k < w.heap.size) (hm : mayLimits a b c d) :
    Calls Try.prog 9 #[.agg #[.int .i64 a, .int .i64 b, .int .i64 c, .int .i64 d], v] w (RunPost w (runSpec (MSt.new a b c d) l 0)) := by
  have hlen := h.len_le
  have HOps := hid h
  obtain ⟨ob, oo, ⟨ap, cp, rfl, hcap, hmax, ha, hin⟩, hc⟩ := h
  have HC := hid hc
  have HX0 := hid (Ext.alloc (Ext.alloc (Ext.refl w) (.cells #[.int .i64 a, .int .i64 b, .int .i64 c, .int .i64 d] 23)) (.cells #[.int .i64 0, .int .i64 0] 29))
  have HM := hid hm
  clear hc hm
  go_enter Try.func9, Try.ntmps9
  go_wp2_with fail
  refine (new_yes a b c d _ HM.out).mono ?_
  rintro e w1 ⟨bm, hbm, hma, hx, rfl⟩
  have x0 := hx.cell (b := w.heap.size) (i := 0) (v := .int .i64 a) (cell_old _ (cell_new _ _ _ rfl rfl))
  have x3 := hx.cell (b := w.heap.size) (i := 3) (v := .int .i64 d) (cell_old _ (cell_new _ _ _ rfl rfl))
  have q0 := hx.cell (b := w.heap.size + 1) (i := 0) (v := .int .i64 0) (cell_new _ _ _ (by simp) rfl)
  have q1 := hx.cell (b := w.heap.size + 1) (i := 1) (v := .int .i64 0) (cell_new _ _ _ (by simp) rfl)
  have f0 := hx.free (b := w.heap.size + 1) (i := 0) (by simp) (by rw [show w.heap.size + 1 = (w.alloc (.cells #[.int .i64 a, .int .i64 b, .int .i64 c, .int .i64 d] 23)).heap.size from by simp]; exact free_new _ _ _)
  have f1 := hx.free (b := w.heap.size + 1) (i := 1) (by simp) (by rw [show w.heap.size + 1 = (w.alloc (.cells #[.int .i64 a, .int .i64 b, .int .i64 c, .int .i64 d] 23)).heap.size from by simp]; exact free_new _ _ _)
  have HX := hid (HX0.out.trans hx)
  have HMA := hid hma
  have hbm1 := lt_of_cell hma.c0
  have hbm' : w.heap.size + 2 ≤ bm := by simpa using hbm
  have HOk := hid (ok_new HM.out)
  clear hx hma hbm
  generalize hR : runSpec (MSt.new a b c d) l 0 = R
  have HR := hid hR
  clear hR
  have X0 := hid x0
  have X3 := hid x3
  have Q0 := hid q0
  have Q1 := hid q1
  have F0 := hid f0
  have F1 := hid f1
  clear x0 x3 q0 q1 f0 f1
  go_wp2_with fail
  go_loopw [26] (fun i wr => ∃ (k : Nat) (s : MSt), k ≤ l.length ∧ i = .int .i64 k ∧ MeterAt wr bm s ∧ s.Ok ∧ s.wh = 0 ∧ s.fu = a ∧ s.pi = d ∧ runSpec s (l.drop k) k = R ∧ w1.grownBy wr (some bm)) (fun i _ => l.length - (intOf i).toNat)
  case atStart => exact ⟨0, _, Nat.zero_le _, rfl, HMA.out, HOk.out, rfl, rfl, rfl, HR.out, gb_refl _ _⟩
  case round =>
    obtain ⟨k, s, hk, rfl, hms, hok, hs0, hsa, hsd, hrun, hg⟩ := hrel
    have HMS := hid hms
    have HOK := hid hok
    have HS0 := hid hs0
    have HRUN := hid hrun
    have HG := hid hg
    have x0 := hg.cell X0.out (by simp; omega)
    have x3 := hg.cell X3.out (by simp; omega)
    have q0 := hg.cell Q0.out (by simp; omega)
    have q1 := hg.cell Q1.out (by simp; omega)
    have f0 := (World.frozen?_of_block (w := w1) (a := ⟨w.heap.size + 1, 0, none⟩) (hg.block _ (lt_of_cell Q0.out) (by simp; omega))).trans F0.out
    have f1 := (World.frozen?_of_block (w := w1) (a := ⟨w.heap.size + 1, 1, none⟩) (hg.block _ (lt_of_cell Q0.out) (by simp; omega))).trans F1.out
    have hbmr := lt_of_cell hms.c0
    have hex : Ext w wr := ext_of_gb HX.out hg (by omega)
    have HEX := hid hex
    clear hms hok hs0 hrun hg hex
    have HSA := hid hsa
    have HSD := hid hsd
    clear hsa hsd
    by_cases hlt : k < l.length
    · obtain ⟨o, ho⟩ := some_of_lt hlt
      obtain ⟨vp, h1, h2, h3, h4⟩ := HC.out k o ho
      obtain rfl := ha (by omega)
      have hd : l.drop k = o :: l.drop (k + 1) := by rw [List.drop_eq_getElem_cons hlt]; congr 1; exact (List.getElem?_eq_some_iff.1 ho).2
      have g1 := HEX.out.cell h1
      have g2 := HEX.out.cell h2
      have g3 := HEX.out.cell h3
      obtain ⟨av, cv, rfl⟩ := h4.form
      rcases hp : s.play o with ⟨e2, s2⟩
      have hok2 := play_ok HOK.out o
      have hlim := play_lim s o
      have hneed := play_need HS0.out o
      have hrun := HRUN.out
      rw [hd, runSpec] at hrun
      rw [hp] at hok2 hlim hneed hrun
      have HRUN2 := hid hrun
      have HOK2 := hid hok2
      have HN2 := hid hneed
      have l1 : s2.st ≤ a := by have := hok2.s1; have := hlim.1; have := HSA.out; simp only at *; omega
      have l2 : s2.pc ≤ d := by have := hok2.c1; have := hlim.2.1; have := HSD.out; simp only at *; omega
      have HL := hid hlim
      have HT := hid (h4.to (Kept.of_below HEX.out |>.mono hS) (fun k hk => hk))
      have HP := hid hp
      clear h1 h2 h3 h4 ho hd hp hok2 hlim hneed hrun
      have HM1 := hid (HMS.out.alloc (.cells #[.int .i64 o.k, .slice av o.p.length cv, .int .i64 o.e] 44))
      have HT1 := hid (HT.out.to (Kept.alloc (fun k hk => Nat.lt_of_lt_of_le (hS k hk) HEX.out.size) (.cells #[.int .i64 o.k, .slice av o.p.length cv, .int .i64 o.e] 44)) (fun _ h => h))
      have hS1 : ∀ k, S k → k < (wr.alloc (.cells #[.int .i64 o.k, .slice av o.p.length cv, .int .i64 o.e] 44)).heap.size := fun k hk => by have := hS k hk; have := HEX.out.size; rw [size_alloc]; omega
      have HS1 := hid hS1
      have y0 := cell_old (.cells #[.int .i64 o.k, .slice av o.p.length cv, .int .i64 o.e] 44) x0
      have y3 := cell_old (.cells #[.int .i64 o.k, .slice av o.p.length cv, .int .i64 o.e] 44) x3
      have z0 := cell_old (.cells #[.int .i64 o.k, .slice av o.p.length cv, .int .i64 o.e] 44) q0
      have z1 := cell_old (.cells #[.int .i64 o.k, .slice av o.p.length cv, .int .i64 o.e] 44) q1
      have zf0 := free_old (.cells #[.int .i64 o.k, .slice av o.p.length cv, .int .i64 o.e] 44) (lt_of_cell q0) f0
      have zf1 := free_old (.cells #[.int .i64 o.k, .slice av o.p.length cv, .int .i64 o.e] 44) (lt_of_cell q0) f1
      have EX1 := hid (Ext.alloc HEX.out (.cells #[.int .i64 o.k, .slice av o.p.length cv, .int .i64 o.e] 44))
      have G1 := hid (gb_alloc HG.out (.cells #[.int .i64 o.k, .slice av o.p.length cv, .int .i64 o.e] 44))
      have Y0 := hid y0
      have Y3 := hid y3
      have Z0 := hid z0
      have Z1 := hid z1
      have ZF0 := hid zf0
      have ZF1 := hid zf1
      clear hS1 y0 y3 z0 z1 zf0 zf1 x0 x3 q0 q1 f0 f1
      have hcase : o.k = 1 ∨ o.k = 2 ∨ o.k = 3 ∨ (o.k ≠ 1 ∧ o.k ≠ 2 ∧ o.k ≠ 3) := by omega
      rcases hcase with hk1 | hk1 | hk1 | hk1
      · have c : Calls Try.prog 13 #[.pointer (some ⟨bm, 0, none⟩)] (wr.alloc (.cells #[.int .i64 o.k, .slice av o.p.length cv, .int .i64 o.e] 44)) (Met (wr.alloc (.cells #[.int .i64 o.k, .slice av o.p.length cv, .int .i64 o.e] 44)) bm e2 s2) := by
          have := step_any bm s _ HM1.out HOK.out
          rwa [show s.step = (e2, s2) from by have := HP.out; simpa [MSt.play, hk1] using this] at this
        have C := hid c
        have hb : (o.k == 1) = true := by simp [hk1]
        have hb2 : (o.k == 2) = false := by simp [hk1]
        have hb3 : (o.k == 3) = false := by simp [hk1]
        have HK := hid hk1
        clear c hk1
        go_wp2_with (go_at_call 13; refine C.out.mono ?_; rintro e w2 ⟨rfl, hm2, hg2⟩)
        have a0 := hg2.cell Y0.out (by simp; omega)
        have a3 := hg2.cell Y3.out (by simp; omega)
        have b0 := hg2.cell Z0.out (by simp; omega)
        have b1 := hg2.cell Z1.out (by simp; omega)
        have c0 := (World.frozen?_of_block (a := ⟨w.heap.size + 1, 0, none⟩) (hg2.block _ (lt_of_cell Z0.out) (by simp; omega))).trans ZF0.out
        have c1 := (World.frozen?_of_block (a := ⟨w.heap.size + 1, 1, none⟩) (hg2.block _ (lt_of_cell Z0.out) (by simp; omega))).trans ZF1.out
        have HM2 := hid hm2
        have EX2 := hid (ext_of_gb EX1.out hg2 (by omega))
        have G2 := hid (gb_trans G1.out hg2)
        clear hm2 hg2
        by_cases he : e2 = 0
        · have h2 : (e2 != 0) = false := by simp [he]
          have HE := hid he
          clear he
          go_quiet ((first | (go_at_call 21; exact Calls.quiet_of_same (fuel_q (HM2.out.drewN _))) | (go_at_call 22; exact Calls.quiet_of_same (pieces_q (HM2.out.drewN _)))))
          go_wp2
          go_roundw
          case rel => exact ⟨k + 1, s2, by omega, by go_num, HM2.out.drewN _, HOK2.out, HN2.out.1 HE.out, HL.out.1.trans HSA.out, HL.out.2.1.trans HSD.out, by have := HRUN2.out; rwa [if_pos HE.out] at this, gb_trans G2.out (gb_drewN _ _ _)⟩
          case measure => simp only [intOf]; omega
        · have h2 : (e2 != 0) = true := by simp [he]
          have hw : (s2.wh == e2) = true := by simp [HN2.out.2 he]
          have HE := hid he
          clear he
          go_quiet ((first | (go_at_call 21; exact Calls.quiet_of_same (fuel_q (HM2.out.drewN _))) | (go_at_call 22; exact Calls.quiet_of_same (pieces_q (HM2.out.drewN _)))))
          go_wp2_with fail
          refine (Need_any bm s2 _ (HM2.out.drewN _)).mono ?_
          rintro e w3 ⟨rfl, hx3⟩
          have HM3 := hid ((HM2.out.drewN _).kept hx3 (lt_of_cell (HM2.out.drewN _).c0))
          have EX3 := hid (EX2.out.trans (Ext.trans (ext_drewN _ _) hx3))
          have EY3 := hid (Ext.trans (ext_drewN _ _) hx3)
          clear hx3
          go_wp2_with fail
          refine (Need_any bm s2 _ HM3.out).mono ?_
          rintro e w4 ⟨rfl, hx4⟩
          have EX4 := hid (EX3.out.trans hx4)
          have EY4 := hid (EY3.out.trans hx4)
          have d0 := EY4.out.cell b0
          have d1 := EY4.out.cell b1
          have d2 := EY4.out.free (lt_of_cell b0) c0
          have d3 := EY4.out.free (lt_of_cell b0) c1
          clear hx4 a0 a3 b0 b1 c0 c1
          have hfl := field_need0
          go_wp2_with fail
          refine bodyPost_ret (v := .tuple #[.int .i64 k, .agg #[.int .i64 s2.wh, .int .i64 s2.nn], .bool true]) (by simp [results, Try.results9, go_sem, d0, d1]) rfl ⟨?_, ?_⟩
          · have := HRUN2.out
            rw [if_neg HE.out] at this
            rw [HR.out, ← this]
          · exact (EX4.out.setCell (p := ⟨w.heap.size + 1, 0, none⟩) (by simp) _).setCell (p := ⟨w.heap.size + 1, 1, none⟩) (by simp) _
      · have c : Calls Try.prog 15 #[.pointer (some ⟨bm, 0, none⟩)] (wr.alloc (.cells #[.int .i64 o.k, .slice av o.p.length cv, .int .i64 o.e] 44)) (Met (wr.alloc (.cells #[.int .i64 o.k, .slice av o.p.length cv, .int .i64 o.e] 44)) bm e2 s2) := by
          have := piece_any bm s _ HM1.out HOK.out
          rwa [show s.piece = (e2, s2) from by have := HP.out; simpa [MSt.play, hk1] using this] at this
        have C := hid c
        have hb : (o.k == 1) = false := by simp [hk1]
        have hb2 : (o.k == 2) = true := by simp [hk1]
        have hb3 : (o.k == 3) = false := by simp [hk1]
        have HK := hid hk1
        clear c hk1
        go_wp2_with (go_at_call 15; refine C.out.mono ?_; rintro e w2 ⟨rfl, hm2, hg2⟩)
        have a0 := hg2.cell Y0.out (by simp; omega)
        have a3 := hg2.cell Y3.out (by simp; omega)
        have b0 := hg2.cell Z0.out (by simp; omega)
        have b1 := hg2.cell Z1.out (by simp; omega)
        have c0 := (World.frozen?_of_block (a := ⟨w.heap.size + 1, 0, none⟩) (hg2.block _ (lt_of_cell Z0.out) (by simp; omega))).trans ZF0.out
        have c1 := (World.frozen?_of_block (a := ⟨w.heap.size + 1, 1, none⟩) (hg2.block _ (lt_of_cell Z0.out) (by simp; omega))).trans ZF1.out
        have HM2 := hid hm2
        have EX2 := hid (ext_of_gb EX1.out hg2 (by omega))
        have G2 := hid (gb_trans G1.out hg2)
        clear hm2 hg2
        by_cases he : e2 = 0
        · have h2 : (e2 != 0) = false := by simp [he]
          have HE := hid he
          clear he
          go_quiet ((first | (go_at_call 21; exact Calls.quiet_of_same (fuel_q (HM2.out.drewN _))) | (go_at_call 22; exact Calls.quiet_of_same (pieces_q (HM2.out.drewN _)))))
          go_wp2
          go_roundw
          case rel => exact ⟨k + 1, s2, by omega, by go_num, HM2.out.drewN _, HOK2.out, HN2.out.1 HE.out, HL.out.1.trans HSA.out, HL.out.2.1.trans HSD.out, by have := HRUN2.out; rwa [if_pos HE.out] at this, gb_trans G2.out (gb_drewN _ _ _)⟩
          case measure => simp only [intOf]; omega
        · have h2 : (e2 != 0) = true := by simp [he]
          have hw : (s2.wh == e2) = true := by simp [HN2.out.2 he]
          have HE := hid he
          clear he
          go_quiet ((first | (go_at_call 21; exact Calls.quiet_of_same (fuel_q (HM2.out.drewN _))) | (go_at_call 22; exact Calls.quiet_of_same (pieces_q (HM2.out.drewN _)))))
          go_wp2_with fail
          refine (Need_any bm s2 _ (HM2.out.drewN _)).mono ?_
          rintro e w3 ⟨rfl, hx3⟩
          have HM3 := hid ((HM2.out.drewN _).kept hx3 (lt_of_cell (HM2.out.drewN _).c0))
          have EX3 := hid (EX2.out.trans (Ext.trans (ext_drewN _ _) hx3))
          have EY3 := hid (Ext.trans (ext_drewN _ _) hx3)
          clear hx3
          go_wp2_with fail
          refine (Need_any bm s2 _ HM3.out).mono ?_
          rintro e w4 ⟨rfl, hx4⟩
          have EX4 := hid (EX3.out.trans hx4)
          have EY4 := hid (EY3.out.trans hx4)
          have d0 := EY4.out.cell b0
          have d1 := EY4.out.cell b1
          have d2 := EY4.out.free (lt_of_cell b0) c0
          have d3 := EY4.out.free (lt_of_cell b0) c1
          clear hx4 a0 a3 b0 b1 c0 c1
          have hfl := field_need0
          go_wp2_with fail
          refine bodyPost_ret (v := .tuple #[.int .i64 k, .agg #[.int .i64 s2.wh, .int .i64 s2.nn], .bool true]) (by simp [results, Try.results9, go_sem, d0, d1]) rfl ⟨?_, ?_⟩
          · have := HRUN2.out
            rw [if_neg HE.out] at this
            rw [HR.out, ← this]
          · exact (EX4.out.setCell (p := ⟨w.heap.size + 1, 0, none⟩) (by simp) _).setCell (p := ⟨w.heap.size + 1, 1, none⟩) (by simp) _
      · have c : Calls Try.prog 17 #[.pointer (some ⟨bm, 0, none⟩), .slice av o.p.length cv] (wr.alloc (.cells #[.int .i64 o.k, .slice av o.p.length cv, .int .i64 o.e] 44)) (Met (wr.alloc (.cells #[.int .i64 o.k, .slice av o.p.length cv, .int .i64 o.e] 44)) bm e2 s2) := by
          have := keep_any (S := S) bm s _ o.p _ HM1.out HT1.out HS1.out
          rwa [show s.keep (mostLimbs o.p o.p.length) o.p.length = (e2, s2) from by have := HP.out; simpa [MSt.play, hk1] using this] at this
        have C := hid c
        have hb : (o.k == 1) = false := by simp [hk1]
        have hb2 : (o.k == 2) = false := by simp [hk1]
        have hb3 : (o.k == 3) = true := by simp [hk1]
        have HK := hid hk1
        clear c hk1
        go_wp2_with (go_at_call 17; refine C.out.mono ?_; rintro e w2 ⟨rfl, hm2, hg2⟩)
        have a0 := hg2.cell Y0.out (by simp; omega)
        have a3 := hg2.cell Y3.out (by simp; omega)
        have b0 := hg2.cell Z0.out (by simp; omega)
        have b1 := hg2.cell Z1.out (by simp; omega)
        have c0 := (World.frozen?_of_block (a := ⟨w.heap.size + 1, 0, none⟩) (hg2.block _ (lt_of_cell Z0.out) (by simp; omega))).trans ZF0.out
        have c1 := (World.frozen?_of_block (a := ⟨w.heap.size + 1, 1, none⟩) (hg2.block _ (lt_of_cell Z0.out) (by simp; omega))).trans ZF1.out
        have HM2 := hid hm2
        have EX2 := hid (ext_of_gb EX1.out hg2 (by omega))
        have G2 := hid (gb_trans G1.out hg2)
        clear hm2 hg2
        by_cases he : e2 = 0
        · have h2 : (e2 != 0) = false := by simp [he]
          have HE := hid he
          clear he
          go_quiet ((first | (go_at_call 21; exact Calls.quiet_of_same (fuel_q (HM2.out.drewN _))) | (go_at_call 22; exact Calls.quiet_of_same (pieces_q (HM2.out.drewN _)))))
          go_wp2
          go_roundw
          case rel => exact ⟨k + 1, s2, by omega, by go_num, HM2.out.drewN _, HOK2.out, HN2.out.1 HE.out, HL.out.1.trans HSA.out, HL.out.2.1.trans HSD.out, by have := HRUN2.out; rwa [if_pos HE.out] at this, gb_trans G2.out (gb_drewN _ _ _)⟩
          case measure => simp only [intOf]; omega
        · have h2 : (e2 != 0) = true := by simp [he]
          have hw : (s2.wh == e2) = true := by simp [HN2.out.2 he]
          have HE := hid he
          clear he
          go_quiet ((first | (go_at_call 21; exact Calls.quiet_of_same (fuel_q (HM2.out.drewN _))) | (go_at_call 22; exact Calls.quiet_of_same (pieces_q (HM2.out.drewN _)))))
          go_wp2_with fail
          refine (Need_any bm s2 _ (HM2.out.drewN _)).mono ?_
          rintro e w3 ⟨rfl, hx3⟩
          have HM3 := hid ((HM2.out.drewN _).kept hx3 (lt_of_cell (HM2.out.drewN _).c0))
          have EX3 := hid (EX2.out.trans (Ext.trans (ext_drewN _ _) hx3))
          have EY3 := hid (Ext.trans (ext_drewN _ _) hx3)
          clear hx3
          go_wp2_with fail
          refine (Need_any bm s2 _ HM3.out).mono ?_
          rintro e w4 ⟨rfl, hx4⟩
          have EX4 := hid (EX3.out.trans hx4)
          have EY4 := hid (EY3.out.trans hx4)
          have d0 := EY4.out.cell b0
          have d1 := EY4.out.cell b1
          have d2 := EY4.out.free (lt_of_cell b0) c0
          have d3 := EY4.out.free (lt_of_cell b0) c1
          clear hx4 a0 a3 b0 b1 c0 c1
          have hfl := field_need0
          go_wp2_with fail
          refine bodyPost_ret (v := .tuple #[.int .i64 k, .agg #[.int .i64 s2.wh, .int .i64 s2.nn], .bool true]) (by simp [results, Try.results9, go_sem, d0, d1]) rfl ⟨?_, ?_⟩
          · have := HRUN2.out
            rw [if_neg HE.out] at this
            rw [HR.out, ← this]
          · exact (EX4.out.setCell (p := ⟨w.heap.size + 1, 0, none⟩) (by simp) _).setCell (p := ⟨w.heap.size + 1, 1, none⟩) (by simp) _
      · have he2 : e2 = 0 ∧ s2 = s := by have := HP.out; simp [MSt.play, hk1] at this; exact ⟨this.1.symm, this.2.symm⟩
        have HE2 := hid he2
        clear he2
        have hb : (o.k == 1) = false := by simp [hk1]
        have hb2 : (o.k == 2) = false := by simp [hk1]
        have hb3 : (o.k == 3) = false := by simp [hk1]
        have HK := hid hk1
        clear hk1
        go_wp2_with fail
        have hm2 := HM1.out
        rw [← HE2.out.2] at hm2
        have hg2 := gb_refl (wr.alloc (.cells #[.int .i64 o.k, .slice av o.p.length cv, .int .i64 o.e] 44)) (some bm)
        generalize hw2 : (wr.alloc (.cells #[.int .i64 o.k, .slice av o.p.length cv, .int .i64 o.e] 44)) = w2 at *
        have HW2 := hid hw2
        clear hw2
        have a0 := hg2.cell Y0.out (by simp; omega)
        have a3 := hg2.cell Y3.out (by simp; omega)
        have b0 := hg2.cell Z0.out (by simp; omega)
        have b1 := hg2.cell Z1.out (by simp; omega)
        have c0 := (World.frozen?_of_block (a := ⟨w.heap.size + 1, 0, none⟩) (hg2.block _ (lt_of_cell Z0.out) (by simp; omega))).trans ZF0.out
        have c1 := (World.frozen?_of_block (a := ⟨w.heap.size + 1, 1, none⟩) (hg2.block _ (lt_of_cell Z0.out) (by simp; omega))).trans ZF1.out
        have HM2 := hid hm2
        have EX2 := hid (ext_of_gb EX1.out hg2 (by omega))
        have G2 := hid (gb_trans G1.out hg2)
        clear hm2 hg2
        · have HE := hid HE2.out.1
          go_quiet ((first | (go_at_call 21; exact Calls.quiet_of_same (fuel_q (HM2.out.drewN _))) | (go_at_call 22; exact Calls.quiet_of_same (pieces_q (HM2.out.drewN _)))))
          go_wp2
          go_roundw
          case rel => exact ⟨k + 1, s2, by omega, by go_num, HM2.out.drewN _, HOK2.out, HN2.out.1 HE.out, HL.out.1.trans HSA.out, HL.out.2.1.trans HSD.out, by have := HRUN2.out; rwa [if_pos HE.out] at this, gb_trans G2.out (gb_drewN _ _ _)⟩
          case measure => simp only [intOf]; omega
    · obtain rfl : k = l.length := by omega
      have hr := HRUN.out
      rw [List.drop_length, runSpec] at hr
      have HRR := hid hr
      clear hr
      go_wp2_with fail
      refine bodyPost_ret (v := .tuple #[.int .i64 l.length, .agg #[.int .i64 0, .int .i64 0], .bool true]) (by simp [results, Try.results9, go_sem, q0, q1]) rfl ⟨by rw [HR.out, ← HRR.out], ?_⟩
      exact (HEX.out.setCell (p := ⟨w.heap.size + 1, 0, none⟩) (by simp) _).setCell (p := ⟨w.heap.size + 1, 1, none⟩) (by simp) _
end Go.Proofs.Ytpooglajfiddhaa
