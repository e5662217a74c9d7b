/- MeterNone: a meter that is not there bounds nothing; a zero one bounds all. No condition. -/
import Derived.Test.YtpooglajfiddhaaMeterRun
namespace Go.Proofs.Ytpooglajfiddhaa
open Go.RowKit

theorem nil_step (w : World) : Calls Try.prog 13 #[.pointer none] w fun e w' => e = .returned (.int .i64 0) ∧ w = w' := by
  go_enter Try.func13, Try.ntmps13
  go_wp2
  go_ret
  exact ⟨rfl, rfl⟩
theorem nil_piece (w : World) : Calls Try.prog 15 #[.pointer none] w fun e w' => e = .returned (.int .i64 0) ∧ w = w' := by
  go_enter Try.func15, Try.ntmps15
  go_wp2
  go_ret
  exact ⟨rfl, rfl⟩
theorem nil_keep (v : Value) (w : World) : Calls Try.prog 17 #[.pointer none, v] w fun e w' => e = .returned (.int .i64 0) ∧ w = w' := by
  go_enter Try.func17, Try.ntmps17
  go_wp2
  go_ret
  exact ⟨rfl, rfl⟩
theorem nil_refuse (e : Int) (w : World) : Calls Try.prog 19 #[.pointer none, .int .i64 e] w fun r w' => r = .returned (.int .i64 e) ∧ w = w' := by
  go_enter Try.func19, Try.ntmps19
  go_wp2
  go_ret
  exact ⟨rfl, rfl⟩
theorem nil_fuel (w : World) : Calls Try.prog 21 #[.pointer none] w fun e w' => e = .returned (.int .i64 0) ∧ w = w' := by
  go_enter Try.func21, Try.ntmps21
  go_wp2
  go_ret
  exact ⟨rfl, rfl⟩
theorem nil_pieces (w : World) : Calls Try.prog 22 #[.pointer none] w fun e w' => e = .returned (.int .i64 0) ∧ w = w' := by
  go_enter Try.func22, Try.ntmps22
  go_wp2
  go_ret
  exact ⟨rfl, rfl⟩
theorem nil_need (w : World) : Calls Try.prog 23 #[.pointer none] w fun e w' => e = .returned (.agg #[.int .i64 0, .int .i64 0]) ∧ Ext w w' := by
  go_enter Try.func23, Try.ntmps23
  go_wp2
  exact bodyPost_ret (v := .agg #[.int .i64 0, .int .i64 0]) (by simp [results, Try.results23, go_sem]) rfl ⟨rfl, Ext.alloc (Ext.refl _) _⟩
theorem nil_limits (w : World) : Calls Try.prog 12 #[.pointer none] w fun e w' => e = .returned (.agg #[.int .i64 0, .int .i64 0, .int .i64 0, .int .i64 0]) ∧ Ext w w' := by
  go_enter Try.func12, Try.ntmps12
  go_wp2
  exact bodyPost_ret (v := .agg #[.int .i64 0, .int .i64 0, .int .i64 0, .int .i64 0]) (by simp [results, Try.results12, go_sem]) rfl ⟨rfl, Ext.alloc (Ext.refl _) _⟩

/-- one call as a list of them, in new memory -/
theorem ops_one {S : Nat → Prop} {w : World} {v : Value} {p : List RTerm} (h : Terms S w v p) (hS : ∀ k, S k → k < w.heap.size) :
    Ops (fun k => k < w.heap.size + 1) (w.alloc (.cells #[.int .i64 0, v, .int .i64 0] 44)) (.slice (some ⟨w.heap.size, 0, none⟩) 1 1) [⟨0, p, 0⟩] := by
  refine ⟨w.heap.size, 0, ⟨_, 1, rfl, Nat.le_refl _, by unfold maxLen; omega, fun _ => rfl, fun _ => by omega⟩, fun j o ho => ?_⟩
  match j, ho with
  | 0, ho =>
    obtain rfl : _ = o := by simpa using ho
    exact ⟨_, cell_new _ _ _ rfl rfl, cell_new _ _ _ rfl rfl, cell_new _ _ _ rfl rfl, h.to (Kept.alloc hS _) (fun k hk => by have := hS k hk; omega)⟩

theorem zero_meter (w : World) : MeterAt (w.alloc (.cells #[.int .i64 0, .int .i64 0, .int .i64 0, .int .i64 0, .int .i64 0, .int .i64 0, .int .u32 0, .int .i32 0, .int .u32 0, .int .i64 0, .int .i64 0] 66)) w.heap.size (MSt.new 0 0 0 0) :=
  ⟨cell_new _ _ _ rfl rfl, cell_new _ _ _ rfl rfl, cell_new _ _ _ rfl rfl, cell_new _ _ _ rfl rfl, cell_new _ _ _ rfl rfl, cell_new _ _ _ rfl rfl, cell_new _ _ _ rfl rfl, cell_new _ _ _ rfl rfl, cell_new _ _ _ rfl rfl, cell_new _ _ _ rfl rfl, cell_new _ _ _ rfl rfl, fun _ => free_new _ _ _⟩
theorem zero_ok : (MSt.new 0 0 0 0).Ok := ⟨by decide, by decide, by decide, by decide, by decide, by decide, by decide, by decide, by decide, by decide, by decide, by decide⟩
theorem zero_ok' : (⟨0, 0, 0, 0, 0, 0, 9, 1⟩ : MSt).Ok := ⟨by decide, by decide, by decide, by decide, by decide, by decide, by decide, by decide, by decide, by decide, by decide, by decide⟩
theorem mostLimbs_nil (p : List RTerm) (h : p.length = 0) : mostLimbs p p.length = 0 := by
  rw [h]
  rfl
theorem keep_zero (p : List RTerm) : (⟨0, 0, 0, 0, 0, 0, 9, 1⟩ : MSt) = ((⟨0, 0, 0, 0, 0, 0, 9, 1⟩ : MSt).keep (mostLimbs p p.length) p.length).2 ∧
    (p.length ≠ 0 → ((⟨0, 0, 0, 0, 0, 0, 9, 1⟩ : MSt).keep (mostLimbs p p.length) p.length).1 ≠ 0) ∧ (p.length = 0 → ((⟨0, 0, 0, 0, 0, 0, 9, 1⟩ : MSt).keep (mostLimbs p p.length) p.length).1 = 0) := by
  unfold MSt.keep MSt.refuse
  refine ⟨?_, fun h => ?_, fun h => ?_⟩
  · repeat' split
    all_goals first | rfl | simp_all
  · repeat' split
    all_goals first | (simp; done) | (simp_all; done) | (simp; omega)
  · rw [mostLimbs_nil p h, h]
    rfl

set_option maxRecDepth 100000 in
set_option maxHeartbeats 8000000 in
theorem none_any {S : Nat → Prop} (v : Value) (p : List RTerm) (e : Int) (w : World) (h : Terms S w v p) (hS : ∀ k, S k → k < w.heap.size) :
    Calls Try.prog 5 #[v, .int .i64 e] w (RetTrue w) := by
  have hlen := h.len_le
  obtain ⟨av, cv, rfl⟩ := h.form
  have HO := hid (ops_one h hS)
  have HT := hid h
  have HS := hid hS
  have HX1 := hid (Ext.alloc (Ext.refl w) (.cells #[.int .i64 0, .slice av p.length cv, .int .i64 0] 44))
  clear h hS
  go_enter Try.func5, Try.ntmps5
  go_wp2_with fail
  refine (great_any _ _ _ HO.out).mono ?_
  rintro e1 w1 ⟨x, rfl, rfl⟩
  cases x with
  | true =>
    go_wp2_with fail
    refine (known_any _).mono ?_
    rintro e2 w2 ⟨rfl, hx⟩
    have HX2 := hid (HX1.out.trans hx)
    clear hx
    go_wp2_with fail
    go_ret
    exact ⟨rfl, HX2.out⟩
  | false =>
    go_wp2_with (first | (go_at_call 13; refine (nil_step _).mono ?_; rintro e w' ⟨rfl, rfl⟩) | (go_at_call 15; refine (nil_piece _).mono ?_; rintro e w' ⟨rfl, rfl⟩) | (go_at_call 17; refine (nil_keep _ _).mono ?_; rintro e w' ⟨rfl, rfl⟩) | (go_at_call 19; refine (nil_refuse _ _).mono ?_; rintro e w' ⟨rfl, rfl⟩) | (go_at_call 21; refine (nil_fuel _).mono ?_; rintro e w' ⟨rfl, rfl⟩) | (go_at_call 22; refine (nil_pieces _).mono ?_; rintro e w' ⟨rfl, rfl⟩))
    have HM := hid (zero_meter (w.alloc (.cells #[.int .i64 0, .slice av p.length cv, .int .i64 0] 44)))
    have HX2 := hid (HX1.out.alloc (.cells #[.int .i64 0, .int .i64 0, .int .i64 0, .int .i64 0, .int .i64 0, .int .i64 0, .int .u32 0, .int .i32 0, .int .u32 0, .int .i64 0, .int .i64 0] 66))
    have hsz : ((w.alloc (.cells #[.int .i64 0, .slice av p.length cv, .int .i64 0] 44)).alloc (.cells #[.int .i64 0, .int .i64 0, .int .i64 0, .int .i64 0, .int .i64 0, .int .i64 0, .int .u32 0, .int .i32 0, .int .u32 0, .int .i64 0, .int .i64 0] 66)).heap.size = w.heap.size + 2 := by simp
    have HT2 := hid (HT.out.to (w' := (w.alloc (.cells #[.int .i64 0, .slice av p.length cv, .int .i64 0] 44)).alloc (.cells #[.int .i64 0, .int .i64 0, .int .i64 0, .int .i64 0, .int .i64 0, .int .i64 0, .int .u32 0, .int .i32 0, .int .u32 0, .int .i64 0, .int .i64 0] 66)) (Kept.of_below HX2.out |>.mono HS.out) (fun _ h => h))
    rw [size_alloc] at HM
    generalize (w.alloc (.cells #[.int .i64 0, .slice av p.length cv, .int .i64 0] 44)).alloc (.cells #[.int .i64 0, .int .i64 0, .int .i64 0, .int .i64 0, .int .i64 0, .int .i64 0, .int .u32 0, .int .i32 0, .int .u32 0, .int .i64 0, .int .i64 0] 66) = w2 at *
    have HSZ := hid hsz
    clear hsz
    refine (nil_need _).mono ?_
    rintro e1 w3 ⟨rfl, hx⟩
    have HX3 := hid (HX2.out.trans hx)
    have HM3 := hid (HM.out.kept hx (by have := HSZ.out; omega))
    have HT3 := hid (HT2.out.to (Kept.of_below hx |>.mono (fun k hk => by have := HS.out k hk; have := HSZ.out; omega)) (fun _ h => h))
    have hs3 := hx.size
    clear hx
    go_wp2_with fail
    refine (nil_limits _).mono ?_
    rintro e1 w4 ⟨rfl, hx⟩
    have HX4 := hid (HX3.out.trans hx)
    have HM4 := hid (HM3.out.kept hx (lt_of_cell HM3.out.c0))
    have HT4 := hid (HT3.out.to (Kept.of_below hx |>.mono (fun k hk => by have := HS.out k hk; have := HSZ.out; omega)) (fun _ h => h))
    have hs4 := hx.size
    clear hx
    go_wp2_with fail
    have c := step_any (w.heap.size + 1) _ w4 HM4.out zero_ok
    rw [show (MSt.new 0 0 0 0).step = (9, ⟨0, 0, 0, 0, 0, 0, 9, 1⟩) from by decide] at c
    refine c.mono ?_
    clear c
    rintro e1 w5 ⟨rfl, hm5, hg5⟩
    have HM5 := hid hm5
    have HG5 := hid hg5
    clear hm5 hg5
    go_wp2_with fail
    have c := piece_any (w.heap.size + 1) _ w5 HM5.out zero_ok'
    rw [show (⟨0, 0, 0, 0, 0, 0, 9, 1⟩ : MSt).piece = (12, ⟨0, 0, 0, 0, 0, 0, 9, 1⟩) from by decide] at c
    refine c.mono ?_
    clear c
    rintro e1 w6 ⟨rfl, hm6, hg6⟩
    have HM6 := hid hm6
    have HG6 := hid (gb_trans HG5.out hg6)
    have HS6 : Hid (∀ k, S k → k < w6.heap.size) := hid (fun k hk => by have := HS.out k hk; have := HSZ.out; have := HG6.out.size; omega)
    have HT6 := hid (HT4.out.to (Kept.grown HG6.out (fun k hk => by have := HS.out k hk; have := HSZ.out; exact ⟨by omega, by simp; omega⟩)) (fun _ h => h))
    clear hm6 hg6
    have hk := keep_zero p
    rcases hke : (⟨0, 0, 0, 0, 0, 0, 9, 1⟩ : MSt).keep (mostLimbs p p.length) p.length with ⟨e3, s3⟩
    rw [hke] at hk
    have c := keep_any (w.heap.size + 1) _ _ p w6 HM6.out HT6.out HS6.out
    rw [hke] at c
    have C := hid c
    have HKK := hid hk
    clear c hk hke
    obtain ⟨rfl, hd⟩ := HKK.out
    have HD := hid hd
    by_cases hp : p.length = 0
    · have b1 : (e3 == 0) = true := by simpa using hd.2 hp
      have b2 : ((p.length : Int) == 0) = true := by simpa using hp
      have HPP := hid hp
      clear hp hd
      go_wp2_with fail
      refine C.out.mono ?_
      rintro e1 w7 ⟨rfl, hm7, hg7⟩
      have HM7 := hid hm7
      have HG7 := hid (gb_trans HG6.out hg7)
      clear hm7 hg7
      go_wp2_with fail
      refine (Need_any (w.heap.size + 1) _ w7 HM7.out).mono ?_
      rintro e1 w8 ⟨rfl, hx⟩
      have HX8 := hid ((ext_of_gb HX4.out HG7.out (by omega)).trans hx)
      clear hx
      go_wp2_with fail
      refine (known_any _).mono ?_
      rintro e1 w9 ⟨rfl, hx⟩
      have HX9 := hid (HX8.out.trans hx)
      clear hx
      go_wp2_with fail
      go_ret
      exact ⟨rfl, HX9.out⟩
    · have b1 : (e3 == 0) = false := by have h3 := hd.1 hp; simpa using h3
      have b2 : ((p.length : Int) == 0) = false := by simpa using hp
      have HPP := hid hp
      clear hp hd
      go_wp2_with fail
      refine C.out.mono ?_
      rintro e1 w7 ⟨rfl, hm7, hg7⟩
      have HM7 := hid hm7
      have HG7 := hid (gb_trans HG6.out hg7)
      clear hm7 hg7
      go_wp2_with fail
      refine (Need_any (w.heap.size + 1) _ w7 HM7.out).mono ?_
      rintro e1 w8 ⟨rfl, hx⟩
      have HX8 := hid ((ext_of_gb HX4.out HG7.out (by omega)).trans hx)
      clear hx
      go_wp2_with fail
      refine (known_any _).mono ?_
      rintro e1 w9 ⟨rfl, hx⟩
      have HX9 := hid (HX8.out.trans hx)
      clear hx
      go_wp2_with fail
      go_ret
      exact ⟨rfl, HX9.out⟩
end Go.Proofs.Ytpooglajfiddhaa
