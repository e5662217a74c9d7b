/- How many limbs the longest coefficient has: the program's and the document's answer. -/
import Derived.Test.YtpooglajfiddhaaBase
namespace Go.Proofs.Ytpooglajfiddhaa
open Go.RowKit

/-- the length without noughts at the end, of the first k -/
def trimLen (zs : List Nat) : Nat → Nat
  | 0 => 0
  | k + 1 => if zs.getD k 0 = 0 then trimLen zs k else k + 1
theorem trimLen_le (zs : List Nat) (k : Nat) : trimLen zs k ≤ k := by
  induction k with
  | zero => simp [trimLen]
  | succ k ih => simp only [trimLen]; split <;> omega

/-- the most limbs of the first k terms -/
def mostLimbs (ts : List RTerm) : Nat → Nat
  | 0 => 0
  | k + 1 => max (mostLimbs ts k) (trimLen (ts.getD k default).c.mag (ts.getD k default).c.mag.length)

theorem U32s.len_le {S : Nat → Prop} {w : World} {v : Value} {zs : List Nat} (h : U32s S w v zs) : zs.length ≤ 9223372036854775807 := by
  obtain ⟨b, off, ⟨a, cap, h1, h2, h3, _⟩, _⟩ := h
  unfold maxLen at h3
  omega
theorem Terms.len_le {S : Nat → Prop} {w : World} {v : Value} {zs : List RTerm} (h : Terms S w v zs) : zs.length ≤ 9223372036854775807 := by
  obtain ⟨b, off, ⟨a, cap, h1, h2, h3, _⟩, _⟩ := h
  unfold maxLen at h3
  omega
theorem mostLimbs_le {S : Nat → Prop} {w : World} {v : Value} {ts : List RTerm} (h : Terms S w v ts) (k : Nat) (hk : k ≤ ts.length) : mostLimbs ts k ≤ 9223372036854775807 := by
  induction k with
  | zero => simp [mostLimbs]
  | succ k ih =>
    have ih := ih (by omega)
    obtain ⟨b, off, hs, hc⟩ := h
    obtain ⟨t, ht⟩ := some_of_lt (show k < ts.length by omega)
    obtain ⟨vm, vo, h1, h2, h3, h4, h5⟩ := hc k t ht
    have h6 := h4.len_le
    have h7 := trimLen_le t.c.mag t.c.mag.length
    simp only [mostLimbs, List.getD, ht, Option.getD_some]
    omega

theorem longer_any {S : Nat → Prop} (bn : Nat) (v : Value) (zs : List Nat) (n : Nat) (w : World) (h : U32s S w v zs)
    (hn : w.cell? ⟨bn, 0, none⟩ = some (.int .i64 n)) (hf : w.frozen? ⟨bn, 0, none⟩ = false) :
    Calls Try.prog 31 #[v, .pointer (some ⟨bn, 0, none⟩)] w fun e w' => e = .returned (.tuple #[]) ∧ w.setCell ⟨bn, 0, none⟩ (.int .i64 (max n (trimLen zs zs.length) : Nat)) = w' := by
  have hl := h.len_le
  obtain ⟨b, off, ⟨a, cap, rfl, hcap, hmax, ha, _⟩, hc⟩ := h
  go_enter Try.func31, Try.ntmps31
  go_wp2
  go_loop [3] (fun i => ∃ k : Nat, k ≤ zs.length ∧ i = .int .i64 k ∧ trimLen zs k = trimLen zs zs.length) (fun i => (intOf i).toNat)
  case atStart => exact ⟨zs.length, Nat.le_refl _, rfl, rfl⟩
  case round =>
    obtain ⟨k, hk, rfl, ht⟩ := hrel
    cases k with
    | zero =>
      have H := hid ht
      clear ht hc ha
      go_wp2
      all_goals
        go_end0
        refine ⟨rfl, ?_⟩
        rw [← H.out]
        simp [trimLen]
    | succ k =>
      obtain rfl := ha (by omega)
      obtain ⟨z, hz⟩ := some_of_lt (show k < zs.length by omega)
      obtain ⟨hzb, hcell⟩ := hc k z hz
      have H := hid ht
      have HZ := hid hz
      clear ht hc ha hz
      by_cases h0 : z = 0
      · have hb : ((z : Int) == 0) = true := by simpa using h0
        have H0 := hid h0
        clear h0
        go_wp2
        go_round
        case rel => exact ⟨k, by omega, rfl, by rw [← H.out]; simp [trimLen, HZ.out, H0.out]⟩
        case measure => simp only [intOf]; omega
      · have hb : ((z : Int) == 0) = false := by simpa using h0
        have H0 := hid h0
        clear h0
        go_wp2
        all_goals
          go_end0
          refine ⟨rfl, ?_⟩
          rw [← H.out]
          simp only [trimLen, List.getD, HZ.out, Option.getD_some]
          rw [if_neg H0.out]
          congr 2
          omega

set_option maxHeartbeats 1000000 in
theorem limbs_any {S : Nat → Prop} (v : Value) (ts : List RTerm) (w : World) (h : Terms S w v ts) (hS : ∀ k, S k → k < w.heap.size) :
    Calls Try.prog 26 #[v] w fun e w' => e = .returned (.int .i64 (mostLimbs ts ts.length : Nat)) ∧ Ext w w' := by
  have hmf : ∀ (fn : Fn) (first cap : Array Value) (w : World), (Instr.makeFunc fn first cap).run Try.prog w = .ok (.func fn first cap) w := fun _ _ _ _ => rfl
  have hl := h.len_le
  have HT := hid h
  obtain ⟨b, off, ⟨a, cap, rfl, hcap, hmax, ha, hin⟩, hc⟩ := h
  have HC := hid hc
  clear hc
  go_enter Try.func26, Try.ntmps26
  go_wp2
  go_loopw [9] (fun i wr => ∃ k : Nat, k ≤ ts.length ∧ i = .int .i64 k ∧ wr.cell? ⟨w.heap.size, 0, none⟩ = some (.int .i64 (mostLimbs ts k : Nat)) ∧ wr.frozen? ⟨w.heap.size, 0, none⟩ = false ∧ Ext w wr) (fun i _ => ts.length - (intOf i).toNat)
  case atStart => exact ⟨0, Nat.zero_le _, rfl, by simp [mostLimbs], by simp, Ext.alloc (Ext.refl _) _⟩
  case round =>
    obtain ⟨k, hk, rfl, hn, hf, hx⟩ := hrel
    have HX := hid hx
    by_cases hlt : k < ts.length
    · obtain ⟨t, ht⟩ := some_of_lt hlt
      obtain ⟨vm, vo, h1, h2, h3, h4, h5⟩ := HC.out k t ht
      have HK := hid ht
      obtain rfl := ha (by omega)
      have g1 := Ext.cell hx h1
      have g2 := Ext.cell hx h2
      have g3 := Ext.cell hx h3
      have H4 := hid (h4.to (Kept.of_below hx |>.mono hS) (fun k hk => hk))
      obtain ⟨am, cm, rfl⟩ := h4.form
      obtain ⟨ao, co, rfl⟩ := h5.form
      clear h1 h2 h3 h4 h5 hx ht
      go_wp2_with fail
      refine (longer_any (S := S) w.heap.size _ t.c.mag (mostLimbs ts k) _ ?_ (cell_old _ hn) (free_old _ (lt_of_cell hn) hf)).mono ?_
      · exact H4.out.to (Kept.alloc (fun k hk => Nat.lt_of_lt_of_le (hS k hk) HX.out.size) _) (fun k hk => hk)
      rintro e w' ⟨rfl, rfl⟩
      have hb := lt_of_cell hn
      go_wp2
      go_roundw
      case rel =>
        refine ⟨k + 1, by omega, by go_num, ?_, free_old _ (by rw [size_setCell]; exact hb) (free_set hf), (HX.out.setCell (p := ⟨w.heap.size, 0, none⟩) (Nat.le_refl _) _).alloc (by rw [size_setCell]; omega) _⟩
        have e : mostLimbs ts (k + 1) = max (mostLimbs ts k) (trimLen t.c.mag t.c.mag.length) := by simp [mostLimbs, List.getD, HK.out]
        rw [e]
        exact cell_old _ (same_of hn)
      case measure => simp only [intOf]; omega
    · obtain rfl : k = ts.length := by omega
      go_wp2
      refine bodyPost_ret (v := .int .i64 (mostLimbs ts ts.length : Nat)) (by simp [results, Try.results26, go_sem, same_of hn]) rfl ⟨rfl, HX.out.setCell (p := ⟨w.heap.size, 0, none⟩) (Nat.le_refl _) _⟩
end Go.Proofs.Ytpooglajfiddhaa
