/- The walks of layer 1: numbers without noughts at the end, copies. -/
import Derived.Test.YthplgldclilccaaU32
namespace Go.Proofs.Ythplgldclilccaa
open Go.RowKit

set_option maxHeartbeats 1000000 in
theorem nat_short {S : Nat → Prop} (v : Value) (zs : List Nat) (w : World) (h : U32s S w v zs) :
    Calls Try.prog 113 #[v] w fun e w' => ∃ v', e = .returned v' ∧ U32s S w v' (rep B32 (val B32 zs)) ∧ w = w' := by
  have hl := h.len_le
  have H := hid h
  obtain ⟨a, cap, rfl⟩ := h.form
  clear h
  go_enter Try.func113, Try.ntmps113
  go_wp2
  go_loop [0] (fun x => ∃ k : Nat, k ≤ zs.length ∧ x = .slice a k cap ∧ trimTo zs k = trimTo zs zs.length) (fun x => sliceLen x)
  case atStart => exact ⟨zs.length, Nat.le_refl _, rfl, rfl⟩
  case round =>
    obtain ⟨k, hk, rfl, ht⟩ := hrel
    cases k with
    | zero =>
      have HT := hid ht
      clear ht
      go_wp2
      all_goals
        go_ret
        refine ⟨_, rfl, ?_, rfl⟩
        have h1 := H.out.take (Nat.zero_le _)
        rw [← trimL_rep two_le_B32 zs H.out.lt, ← List.take_length (l := zs), ← trimTo_take zs _ (Nat.le_refl _), ← HT.out]
        exact h1
    | succ k =>
      obtain ⟨z, hz⟩ := some_of_lt (show k < zs.length by omega)
      obtain ⟨b, off, cap', hv, hcap, hmax, hzb, hcell⟩ := H.out.at hz
      obtain ⟨rfl, -, rfl⟩ : a = some ⟨b, off, none⟩ ∧ True ∧ cap = cap' := by simpa using hv
      have HT := hid ht
      have HZ := hid hz
      clear ht hz hv
      by_cases h0 : z = 0
      · have hb : ((z : Int) == 0) = true := by simpa using h0
        have H0 := hid h0
        clear h0
        go_wp2
        go_round
        case rel => exact ⟨k, by omega, rfl, by rw [← HT.out, trimTo, HZ.out, H0.out, if_pos rfl]⟩
        case measure => simp only [sliceLen]; omega
      · have hb : ((z : Int) == 0) = false := by simpa using h0
        have H0 := hid h0
        clear h0
        go_wp2
        all_goals
          go_ret
          refine ⟨_, rfl, ?_, rfl⟩
          have h1 := H.out.take hk
          have h2 : trimTo zs (k + 1) = k + 1 := by rw [trimTo, HZ.out, if_neg (by simpa using H0.out)]
          rw [← trimL_rep two_le_B32 zs H.out.lt, ← List.take_length (l := zs), ← trimTo_take zs _ (Nat.le_refl _), ← HT.out, h2]
          exact h1

set_option maxRecDepth 100000 in
set_option maxHeartbeats 1000000 in
theorem nat_trim {S : Nat → Prop} (v : Value) (zs : List Nat) (w : World) (h : U32s S w v zs) (hS : ∀ k, S k → k < w.heap.size) (hr : zs.length ≤ 1000000000000) :
    Calls Try.prog 120 #[v] w fun e w' => ∃ v', e = .returned v' ∧ U32s (New w w') w' v' (rep B32 (val B32 zs)) ∧ Ext w w' := by
  have hle : (rep B32 (val B32 zs)).length ≤ zs.length := rep_len_le two_le_B32 _ _ (val_lt zs h.lt)
  have H := hid h
  obtain ⟨a, cap, rfl⟩ := h.form
  clear h
  have hmk := fun (n : Nat) (hn : n ≤ 1000000000000) (W : World) => run_make_row' (P := Try.prog) 66 79 (.int .u32 0) 4 Try.underlying66 Try.infoU32 rfl .i64 .i64 n (by omega) (by omega) W
  go_enter Try.func120, Try.ntmps120
  go_wp2_with fail
  refine (nat_short _ zs _ H.out).mono ?_
  rintro e w' ⟨v', rfl, hu, rfl⟩
  generalize hR : rep B32 (val B32 zs) = R at hu hle
  have HR := hid hR
  have HU := hid hu
  obtain ⟨a', c', rfl⟩ := hu.form
  have hmk1 := hmk R.length (by omega) w
  have hrl : ∀ z ∈ R, z < B32 := by rw [← HR.out]; exact rep_lt two_le_B32 _
  have HL := hid hrl
  have HA := hid (Ext.alloc (Ext.refl w) (.cells (madeCells #[.int .u32 0] R.length) 79))
  have HUA := hid (HU.out.to (Kept.alloc hS (.cells (madeCells #[.int .u32 0] R.length) 79)) (fun _ h => h))
  have hc' := HU.out.len_le
  clear hR hu hmk hrl
  go_wp2_with (refine wpList_copy_splice (by rfl) (.tmp 9) (.tmp 10) 66 66 (by rfl) 79 Try.underlying66 (by kernel_rfl) (some ⟨w.heap.size, 0, none⟩) a' R.length R.length R.length c' (by rfl) (by rfl) w.heap.size 0 (List.replicate R.length (.int .u32 0)) 79 (by rw [heap_alloc_new, made_list]) (R.map uval) (by simp) (fun hp => ⟨rfl, HUA.out.src hp⟩) (by simp) (by intro v hv; obtain ⟨z, _, rfl⟩ := List.mem_map.1 hv; rfl) w.heap.size w HA.out (Nat.le_refl _) ?_; intro w2 hg hb)
  have HG := hid hg
  have HB := hid hb
  clear hg hb
  go_wp2
  go_ret
  refine ⟨_, rfl, ?_, HB.out⟩
  have hg := HG.out.out
  rw [splice_all _ _ (by simp)] at hg
  rw [HR.out]
  refine (U32s.of_block hg HL.out hc' _ (fun _ => rfl)).to (Kept.refl _ _) (fun k hk => ?_)
  subst hk
  exact ⟨Nat.le_refl _, (Array.getElem?_eq_some_iff.1 hg).1⟩
end Go.Proofs.Ythplgldclilccaa
