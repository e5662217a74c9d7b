/- The document's meter: its methods over its block of eight numbers. -/
import Derived.Test.YtpooglajfiddhaaMeter3
import Derived.BigQuiet
import Derived.Deep.QuietTactic
namespace Go.Proofs.Ytpooglajfiddhaa
open Go.RowKit

set_option maxHeartbeats 1000000 in
theorem refLimbs_any {S : Nat → Prop} (v : Value) (ts : List RTerm) (w : World) (h : Terms S w v ts) :
    Calls Try.prog 28 #[v] w fun e w' => e = .returned (.int .i64 (mostLimbs ts ts.length : Nat)) ∧ w = w' := by
  have hl := h.len_le
  have HM := hid (fun k (hk : k ≤ ts.length) => mostLimbs_le h k hk)
  obtain ⟨b, off, ⟨a, cap, rfl, hcap, hmax, ha, hin⟩, hc⟩ := h
  have HC := hid hc
  clear hc
  go_enter Try.func28, Try.ntmps28
  go_wp2
  go_loop [3, 4] (fun m i => ∃ k : Nat, k ≤ ts.length ∧ i = .int .i64 k ∧ m = .int .i64 (mostLimbs ts k : Nat)) (fun _ i => ts.length - (intOf i).toNat)
  case atStart => exact ⟨0, Nat.zero_le _, rfl, rfl⟩
  case round =>
    obtain ⟨k, hk, rfl, rfl⟩ := hrel
    by_cases hlt : k < ts.length
    · obtain ⟨t, ht⟩ := some_of_lt hlt
      obtain ⟨vm, vo, h1, h2, h3, h4, h5⟩ := HC.out k t ht
      have HK := hid ht
      obtain rfl := ha (by omega)
      have hml := h4.len_le
      have hb0 := HM.out (k + 1) hlt
      have e : mostLimbs ts (k + 1) = max (mostLimbs ts k) (trimLen t.c.mag t.c.mag.length) := by simp [mostLimbs, List.getD, HK.out]
      obtain ⟨bm, om, ⟨am, cm, rfl, hmc, hmm, ham, _⟩, hcm⟩ := h4
      obtain ⟨ao, co, rfl⟩ := h5.form
      generalize hq : mostLimbs ts k = q at e
      have hq0 := HM.out k hk
      rw [hq] at hq0
      rw [e] at hb0
      have HE := hid e
      have HQ := hid hq
      have HCM := hid hcm
      clear h1 h3 h5 ht e hq hcm
      go_wp2
      go_loop [3, 5] (fun m i => ∃ j : Nat, j ≤ t.c.mag.length ∧ i = .int .i64 j ∧ m = .int .i64 (max q (trimLen t.c.mag j) : Nat)) (fun _ i => t.c.mag.length - (intOf i).toNat)
      case atStart => exact ⟨0, Nat.zero_le _, rfl, by simp [trimLen]⟩
      case round =>
        obtain ⟨j, hj, rfl, rfl⟩ := hrel
        have hjb := trimLen_le t.c.mag j
        by_cases hjl : j < t.c.mag.length
        · obtain ⟨z, hz⟩ := some_of_lt hjl
          obtain ⟨hz1, hz2⟩ := HCM.out j z hz
          obtain rfl := ham (by omega)
          have e2 : trimLen t.c.mag (j + 1) = if z = 0 then trimLen t.c.mag j else j + 1 := by simp [trimLen, List.getD, hz]
          have HZ := hid e2
          generalize trimLen t.c.mag j = r at hjb HZ
          clear e2 hz
          by_cases h0 : z = 0
          · have hb : ((z : Int) != 0) = false := by simp [h0]
            have H0 := hid h0
            clear h0
            go_wp2
            go_round
            case rel => exact ⟨j + 1, by omega, by go_num, by rw [HZ.out, if_pos H0.out]⟩
            case measure => simp only [intOf]; omega
          · have hb : ((z : Int) != 0) = true := by simp [h0]
            have H0 := hid h0
            clear h0
            by_cases hg : max q r < j + 1
            · go_wp2
              go_round
              case rel => exact ⟨j + 1, by omega, by go_num, by rw [HZ.out, if_neg H0.out]; have : max q (j + 1) = j + 1 := by omega
                                                                rw [this]; go_num⟩
              case measure => simp only [intOf]; omega
            · go_wp2
              go_round
              case rel => exact ⟨j + 1, by omega, by go_num, by rw [HZ.out, if_neg H0.out]; have : max q (j + 1) = max q r := by omega
                                                                rw [this]⟩
              case measure => simp only [intOf]; omega
        · obtain rfl : j = t.c.mag.length := by omega
          go_wp2
          go_round
          case rel => exact ⟨k + 1, by omega, by go_num, by rw [HE.out]⟩
          case measure => simp only [intOf]; omega
    · obtain rfl : k = ts.length := by omega
      go_wp2
      go_ret
      exact ⟨rfl, rfl⟩

structure RefAt (w : World) (b : Nat) (s : MSt) : Prop where
  c0 : w.cell? ⟨b, 0, none⟩ = some (.int .i64 s.fu)
  c1 : w.cell? ⟨b, 1, none⟩ = some (.int .i64 s.li)
  c2 : w.cell? ⟨b, 2, none⟩ = some (.int .i64 s.te)
  c3 : w.cell? ⟨b, 3, none⟩ = some (.int .i64 s.pi)
  c4 : w.cell? ⟨b, 4, none⟩ = some (.int .i64 s.st)
  c5 : w.cell? ⟨b, 5, none⟩ = some (.int .i64 s.pc)
  c6 : w.cell? ⟨b, 6, none⟩ = some (.int .i64 s.wh)
  c7 : w.cell? ⟨b, 7, none⟩ = some (.int .i64 s.nn)
  fz : ∀ i, w.frozen? ⟨b, i, none⟩ = false

theorem RefAt.grown {w w' : World} {b : Nat} {s : MSt} (h : RefAt w b s) {r : Option Nat} (e : w.grownBy w' r) (hb : some b ≠ r) : RefAt w' b s := by
  have hl := lt_of_cell h.c0
  have hc : ∀ i, w'.cell? ⟨b, i, none⟩ = w.cell? ⟨b, i, none⟩ := fun i => World.cell?_of_block (e.block b hl hb)
  exact ⟨(hc _).trans h.c0, (hc _).trans h.c1, (hc _).trans h.c2, (hc _).trans h.c3, (hc _).trans h.c4, (hc _).trans h.c5, (hc _).trans h.c6, (hc _).trans h.c7, fun i => (World.frozen?_of_block (w := w) (a := ⟨b, i, none⟩) (e.block b hl hb)).trans (h.fz i)⟩
theorem RefAt.drewN {w : World} {b : Nat} {s : MSt} (h : RefAt w b s) (n : Nat) : RefAt (w.drewN n) b s := h.grown (r := none) ⟨rfl, rfl, rfl, Nat.le_refl _, fun _ _ _ => rfl⟩ (by simp)
theorem RefAt.setSt {w : World} {b : Nat} {s : MSt} (h : RefAt w b s) (n : Int) : RefAt (w.setCell ⟨b, 4, none⟩ (.int .i64 n)) b { s with st := n } :=
  ⟨other h.c0 (ao (by omega)), other h.c1 (ao (by omega)), other h.c2 (ao (by omega)), other h.c3 (ao (by omega)), same_of h.c4, other h.c5 (ao (by omega)), other h.c6 (ao (by omega)), other h.c7 (ao (by omega)), fun i => free_set (h.fz i)⟩
theorem RefAt.setPc {w : World} {b : Nat} {s : MSt} (h : RefAt w b s) (n : Int) : RefAt (w.setCell ⟨b, 5, none⟩ (.int .i64 n)) b { s with pc := n } :=
  ⟨other h.c0 (ao (by omega)), other h.c1 (ao (by omega)), other h.c2 (ao (by omega)), other h.c3 (ao (by omega)), other h.c4 (ao (by omega)), same_of h.c5, other h.c6 (ao (by omega)), other h.c7 (ao (by omega)), fun i => free_set (h.fz i)⟩
theorem RefAt.setNeed {w : World} {b : Nat} {s : MSt} (h : RefAt w b s) (e n : Int) : RefAt ((w.setCell ⟨b, 6, none⟩ (.int .i64 e)).setCell ⟨b, 7, none⟩ (.int .i64 n)) b { s with wh := e, nn := n } :=
  ⟨other (other h.c0 (ao (by omega))) (ao (by omega)), other (other h.c1 (ao (by omega))) (ao (by omega)), other (other h.c2 (ao (by omega))) (ao (by omega)), other (other h.c3 (ao (by omega))) (ao (by omega)), other (other h.c4 (ao (by omega))) (ao (by omega)), other (other h.c5 (ao (by omega))) (ao (by omega)),
    other (same_of h.c6) (ao (by omega)), same_of (other h.c7 (ao (by omega))), fun i => free_set (free_set (h.fz i))⟩

def RMet (w : World) (b : Nat) (r : Int) (s : MSt) : Ending → World → Prop := fun e w' => e = .returned (.int .i64 r) ∧ RefAt w' b s ∧ w.grownBy w' (some b)
theorem gb_drewN (w : World) (n : Nat) (r : Option Nat) : w.grownBy (w.drewN n) r := ⟨rfl, rfl, rfl, Nat.le_refl _, fun _ _ _ => rfl⟩

theorem refRefuse_any (b : Nat) (s : MSt) (e n : Int) (w : World) (h : RefAt w b s) :
    Calls Try.prog 25 #[.pointer (some ⟨b, 0, none⟩), .int .i64 e, .int .i64 n] w (RMet w b e (s.refuse e n)) := by
  have h6 := h.c6
  have h7 := h.c7
  have f6 := h.fz 6
  have f7 := h.fz 7
  have H := hid h
  clear h
  by_cases h0 : s.wh = 0
  · have e1 : s.refuse e n = { s with wh := e, nn := n } := by simp [MSt.refuse, h0]
    rw [e1]
    clear e1
    have hb : (s.wh == 0) = true := by simp [h0]
    clear h0
    go_enter Try.func25, Try.ntmps25
    go_wp2
    go_ret
    exact ⟨rfl, H.out.setNeed e n, gb_setCell (p := ⟨b, 7, none⟩) (gb_setCell (p := ⟨b, 6, none⟩) (gb_refl _ _) rfl _) rfl _⟩
  · have e1 : s.refuse e n = s := by simp [MSt.refuse, h0]
    rw [e1]
    clear e1
    have hb : (s.wh == 0) = false := by simp [h0]
    clear h0
    go_enter Try.func25, Try.ntmps25
    go_wp2
    go_ret
    exact ⟨rfl, H.out, gb_refl _ _⟩

set_option maxRecDepth 100000 in
theorem refStep_any (b : Nat) (s : MSt) (w : World) (h : RefAt w b s) (ok : s.Ok) :
    Calls Try.prog 14 #[.pointer (some ⟨b, 0, none⟩)] w (RMet w b s.step.1 s.step.2) := by
  have h0 := h.c0
  have h4 := h.c4
  have f4 := h.fz 4
  have b1 := ok.f0
  have b2 := ok.f1
  have b3 := ok.s0
  have b4 := ok.s1
  have H := hid h
  clear h ok
  by_cases hlt : s.st < s.fu
  · have e1 : s.step = (0, { s with st := s.st + 1 }) := by simp [MSt.step, hlt]
    rw [e1]
    clear e1
    have hb : (s.st == s.fu) = false := by simp; omega
    go_enter Try.func14, Try.ntmps14
    go_wp2
    go_quiet (fail)
    go_wp2
    go_ret
    exact ⟨rfl, (H.out.drewN _).setSt _, gb_setCell (gb_drewN _ _ _) rfl _⟩
  · have e1 : s.step = (9, s.refuse 9 (s.fu + 1)) := by simp [MSt.step, hlt]
    rw [e1]
    clear e1
    have hb : (s.st == s.fu) = true := by simp; omega
    go_enter Try.func14, Try.ntmps14
    go_wp2
    go_quiet (fail)
    go_wp2_with (go_at_call 25; refine (refRefuse_any b s 9 (s.fu + 1) _ (H.out.drewN _)).mono ?_; rintro e w' ⟨rfl, hq⟩)
    go_ret
    exact ⟨rfl, hq.1, gb_trans (gb_drewN _ _ _) hq.2⟩

set_option maxRecDepth 100000 in
theorem refPiece_any (b : Nat) (s : MSt) (w : World) (h : RefAt w b s) (ok : s.Ok) :
    Calls Try.prog 16 #[.pointer (some ⟨b, 0, none⟩)] w (RMet w b s.piece.1 s.piece.2) := by
  have h0 := h.c3
  have h4 := h.c5
  have f4 := h.fz 5
  have b1 := ok.p0
  have b2 := ok.p1
  have b3 := ok.c0
  have b4 := ok.c1
  have H := hid h
  clear h ok
  by_cases hlt : s.pc < s.pi
  · have e1 : s.piece = (0, { s with pc := s.pc + 1 }) := by simp [MSt.piece, hlt]
    rw [e1]
    clear e1
    have hb : (s.pc == s.pi) = false := by simp; omega
    go_enter Try.func16, Try.ntmps16
    go_wp2
    go_quiet (fail)
    go_wp2
    go_ret
    exact ⟨rfl, (H.out.drewN _).setPc _, gb_setCell (gb_drewN _ _ _) rfl _⟩
  · have e1 : s.piece = (12, s.refuse 12 (s.pi + 1)) := by simp [MSt.piece, hlt]
    rw [e1]
    clear e1
    have hb : (s.pc == s.pi) = true := by simp; omega
    go_enter Try.func16, Try.ntmps16
    go_wp2
    go_quiet (fail)
    go_wp2_with (go_at_call 25; refine (refRefuse_any b s 12 (s.pi + 1) _ (H.out.drewN _)).mono ?_; rintro e w' ⟨rfl, hq⟩)
    go_ret
    exact ⟨rfl, hq.1, gb_trans (gb_drewN _ _ _) hq.2⟩

theorem refRefuse2_any (b : Nat) (s : MSt) (e : Int) (w : World) (h : RefAt w b s) :
    Calls Try.prog 20 #[.pointer (some ⟨b, 0, none⟩), .int .i64 e] w (RMet w b e (s.refused e)) := by
  have H := hid h
  clear h
  by_cases he : e = 8
  · subst he
    have e1 : s.refused 8 = s.refuse 8 0 := by simp [MSt.refused]
    rw [e1]
    clear e1
    go_enter Try.func20, Try.ntmps20
    go_wp2_with (go_at_call 25; refine (refRefuse_any b s 8 0 _ H.out).mono ?_; rintro e w' ⟨rfl, hq⟩)
    go_ret
    exact ⟨rfl, hq⟩
  · have e1 : s.refused e = s := by simp [MSt.refused, he]
    have hb : (e == 8) = false := by simpa using he
    rw [e1]
    clear e1 he
    go_enter Try.func20, Try.ntmps20
    go_wp2
    go_ret
    exact ⟨rfl, H.out, gb_refl _ _⟩

set_option maxRecDepth 100000 in
theorem refKeep_any {S : Nat → Prop} (b : Nat) (s : MSt) (v : Value) (ts : List RTerm) (w : World) (h : RefAt w b s) (ht : Terms S w v ts) :
    Calls Try.prog 18 #[.pointer (some ⟨b, 0, none⟩), v] w (RMet w b (s.keep (mostLimbs ts ts.length) ts.length).1 (s.keep (mostLimbs ts ts.length) ts.length).2) := by
  have h1 := h.c1
  have h2 := h.c2
  have hll := mostLimbs_le ht ts.length (Nat.le_refl _)
  have hlen := ht.len_le
  obtain ⟨a, cap, rfl⟩ := ht.form
  have HL := fun W (h : Terms S W (.slice a ts.length cap) ts) => (refLimbs_any _ ts W h).mono (fun _ _ (h : _ ∧ _) => (⟨h.1, h.2.symm⟩ : _ ∧ _))
  have HT : ∀ n, Hid (Terms S (w.drewN n) (.slice a ts.length cap) ts) := fun n => ht.to (fun _ _ => rfl) (fun _ h => h)
  have HT0 := hid ht
  generalize hn : mostLimbs ts ts.length = n at hll HL
  have HH := hid HL
  have H := hid h
  clear ht h hn HL
  by_cases c1 : s.li < n
  · have e1 : s.keep n ts.length = (10, s.refuse 10 n) := by simp [MSt.keep, c1]
    rw [e1]
    clear e1
    go_enter Try.func18, Try.ntmps18
    go_wp2
    go_quiet ((go_at_call 28; exact Calls.quiet_of_same (HH.out _ HT0.out)))
    go_wp2_with fail
    refine (HH.out _ (HT _).out).mono ?_
    rintro e w' ⟨rfl, rfl⟩
    go_wp2_with (go_at_call 25; refine (refRefuse_any b s 10 n _ (H.out.drewN _)).mono ?_; rintro e w' ⟨rfl, hq⟩)
    go_ret
    exact ⟨rfl, hq.1, gb_trans (gb_drewN _ _ _) hq.2⟩
  by_cases c2 : s.te < ts.length
  · have e1 : s.keep n ts.length = (11, s.refuse 11 ts.length) := by simp [MSt.keep, c1, c2]
    rw [e1]
    clear e1
    go_enter Try.func18, Try.ntmps18
    go_wp2
    go_quiet ((go_at_call 28; exact Calls.quiet_of_same (HH.out _ HT0.out)))
    go_wp2_with (go_at_call 25; refine (refRefuse_any b s 11 ts.length _ (H.out.drewN _)).mono ?_; rintro e w' ⟨rfl, hq⟩)
    go_ret
    exact ⟨rfl, hq.1, gb_trans (gb_drewN _ _ _) hq.2⟩
  · have e1 : s.keep n ts.length = (0, s) := by simp [MSt.keep, c1, c2]
    rw [e1]
    clear e1
    go_enter Try.func18, Try.ntmps18
    go_wp2
    go_quiet ((go_at_call 28; exact Calls.quiet_of_same (HH.out _ HT0.out)))
    go_wp2
    go_ret
    exact ⟨rfl, H.out.drewN _, gb_drewN _ _ _⟩

theorem may_yes (a b c d : Int) (w : World) (h : mayLimits a b c d) :
    Calls Try.prog 11 #[.agg #[.int .i64 a, .int .i64 b, .int .i64 c, .int .i64 d]] w fun e w' => e = .returned (.bool true) ∧ Ext w w' := by
  obtain ⟨⟨a0, a1⟩, ⟨b0, b1⟩, ⟨c0, c1⟩, d0, d1⟩ := h
  go_enter Try.func11, Try.ntmps11
  go_wp2
  go_ret
  exact ⟨rfl, Ext.alloc (Ext.refl _) _⟩

theorem may_no (a b c d : Int) (w : World) (h : ¬ mayLimits a b c d) :
    Calls Try.prog 11 #[.agg #[.int .i64 a, .int .i64 b, .int .i64 c, .int .i64 d]] w fun e w' => e = .returned (.bool false) ∧ Ext w w' := by
  have H := hid h
  clear h
  by_cases a0 : a < 0
  · have q : decide (0 ≤ a) = false := by simpa using a0
    go_enter Try.func11, Try.ntmps11
    go_wp2
    go_ret
    exact ⟨rfl, Ext.alloc (Ext.refl _) _⟩
  by_cases a1 : 1000000 < a
  · go_enter Try.func11, Try.ntmps11
    go_wp2
    go_ret
    exact ⟨rfl, Ext.alloc (Ext.refl _) _⟩
  by_cases b0 : b < 0
  · go_enter Try.func11, Try.ntmps11
    go_wp2
    go_ret
    exact ⟨rfl, Ext.alloc (Ext.refl _) _⟩
  by_cases b1 : 10000 < b
  · go_enter Try.func11, Try.ntmps11
    go_wp2
    go_ret
    exact ⟨rfl, Ext.alloc (Ext.refl _) _⟩
  by_cases c0 : c < 0
  · go_enter Try.func11, Try.ntmps11
    go_wp2
    go_ret
    exact ⟨rfl, Ext.alloc (Ext.refl _) _⟩
  by_cases c1 : 100000 < c
  · go_enter Try.func11, Try.ntmps11
    go_wp2
    go_ret
    exact ⟨rfl, Ext.alloc (Ext.refl _) _⟩
  by_cases d0 : d < 0
  · go_enter Try.func11, Try.ntmps11
    go_wp2
    go_ret
    exact ⟨rfl, Ext.alloc (Ext.refl _) _⟩
  by_cases d1 : 1000 < d
  · have q : decide (d ≤ 1000) = false := by simpa using d1
    go_enter Try.func11, Try.ntmps11
    go_wp2
    go_ret
    exact ⟨rfl, Ext.alloc (Ext.refl _) _⟩
  · exact absurd ⟨⟨by omega, by omega⟩, ⟨by omega, by omega⟩, ⟨by omega, by omega⟩, by omega, by omega⟩ H.out
end Go.Proofs.Ytpooglajfiddhaa
