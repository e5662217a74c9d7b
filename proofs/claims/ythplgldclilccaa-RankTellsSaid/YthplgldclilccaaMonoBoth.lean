/- The merge of two monomials: each variable with both exponents is told, rising. -/
import Derived.Test.YthplgldclilccaaMono
import Derived.BigQuiet
import Derived.Shelf.Abstract
import Derived.Deep.RegionHeld3
import Derived.Deep.QuietTactic
namespace Go.Proofs.Ythplgldclilccaa
open Go.RowKit

def sliceLen : Value → Nat
  | .slice _ n _ => n
  | _ => 0

/-- numbers that an int holds -/
def inI64 (x : Int) : Prop := -9223372036854775808 ≤ x ∧ x ≤ 9223372036854775807

theorem Kept.pows {S : Nat → Prop} {w w' : World} (h : Kept S w w') {v : Value} {m : Mono} (hp : Pows S w v m) : Pows S w' v m := hp.to h (fun _ hk => hk)

set_option maxRecDepth 100000 in
set_option maxHeartbeats 2000000 in
theorem mono_both {S : Nat → Prop} (g : Nat) (lb : Array Value) (eg : ∀ args w, (callFunc g args).run Try.prog w = .ok (.enter g args) w) (I : List (Int × Int × Int) → World → Prop) (a b : Mono) (w : World)
    (hI : ∀ d t r W, both a b = d ++ t :: r → I d W → Calls Try.prog g (#[.int .i64 t.1, .int .i64 t.2.1, .int .i64 t.2.2] ++ lb) W fun e W' => e = .returned (.tuple #[]) ∧ I (d ++ [t]) W')
    (hK : ∀ d W, I d W → Kept S w W) (hD : ∀ d W q, I d W → I d (W.drewN q)) (va vb : Value) (ha : Pows S w va a) (hb : Pows S w vb b) (h0 : I [] w) :
    Calls Try.prog 115 #[va, vb, .func (.func g) #[] lb] w fun e w' => e = .returned (.tuple #[]) ∧ I (both a b) w' := by
  have HI := hid hI
  have HK := hid hK
  have HQ := hid hD
  clear hI hK hD
  go_enter Try.func115, Try.ntmps115
  go_wp2
  go_loopw [0, 1] (fun x y wr => ∃ d ra rb, both a b = d ++ both ra rb ∧ Pows S w x ra ∧ Pows S w y rb ∧ I d wr) (fun x y _ => sliceLen x + sliceLen y)
  case atStart => exact ⟨[], a, b, rfl, ha, hb, h0⟩
  case round =>
    obtain ⟨d, ra, rb, hd, hpa, hpb, hi⟩ := hrel
    have hk := HK.out d _ hi
    clear ha hb h0
    cases ra with
    | nil =>
      obtain ⟨aa, ca, rfl, hca⟩ := hpa.nil
      cases rb with
      | nil =>
        obtain ⟨ab', cb, rfl, hcb⟩ := hpb.nil
        have HD := hid hd
        have HF := hid hi
        clear hd hi hpa hpb hk
        go_wp2
        all_goals
          go_end0
          refine ⟨rfl, ?_⟩
          rw [HD.out, both_nil, List.append_nil]
          exact HF.out
      | cons y rb =>
        obtain ⟨bb, offb, nb, cb, rfl, hnb, hnc, hcb, hSb, ⟨by1, by2⟩, hy1, hy2, hrb⟩ := hpb.cons
        have gy1 := hk.cell hSb hy1
        have gy2 := hk.cell hSb hy2
        rw [both_right] at hd
        have hcall := fun q => HI.out d _ _ (wr.drewN q) hd (HQ.out d _ q hi)
        have HY := hid (And.intro hy1 hy2)
        have HD := hid hd
        have HA := hid hpa
        have HB := hid hrb
        have HN := hid hnb
        clear hd hi hpa hpb hk hrb hnb hy1 hy2
        obtain ⟨v, z⟩ := y
        simp only at gy1 gy2 by1 by2 hcall HY
        have q1 : ((nb : Int) + 1 == 0) = false := by simp; omega
        have HC := hid hcall
        clear hcall
        go_wp2
        go_quiet (fail)
        go_wp2
        go_quiet (fail)
        go_wp2
        have S0 : ∀ q, (wr.drewN q).cell? ⟨bb, offb, none⟩ = some (.int .i64 v) ∧ (wr.drewN q).cell? ⟨bb, offb + 1, none⟩ = some (.int .i64 z) := fun q => ⟨by simpa using gy1, by simpa using gy2⟩
        go_region_held3 (fun W => W.cell? ⟨bb, offb, none⟩ = some (.int .i64 v) ∧ W.cell? ⟨bb, offb + 1, none⟩ = some (.int .i64 z)) (first | exact S0 _ | exact S1 | (refine ⟨?_, ?_⟩ <;> simpa))
          (first | (go_at_fn g; (with_reducible refine (HC.out _).mono ?_); rintro e w' ⟨rfl, hi'⟩; have S1 := And.intro ((HK.out _ _ hi').cell hSb HY.out.1) ((HK.out _ _ hi').cell hSb HY.out.2)))
        go_wp2
        go_roundw
        case rel =>
          refine ⟨d ++ [(v, 0, z)], [], rb, by rw [HD.out]; simp, HA.out, HB.out _ (fun h => if_neg (by omega)), hi'⟩
        case measure => simp only [sliceLen]; omega
    | cons x ra =>
      obtain ⟨ba, offa, na, ca, rfl, hna, hnca, hca, hSa, ⟨bx1, bx2⟩, hx1, hx2, hra⟩ := hpa.cons
      have gx1 := hk.cell hSa hx1
      have gx2 := hk.cell hSa hx2
      cases rb with
      | nil =>
        obtain ⟨ab, cb, rfl, hcb⟩ := hpb.nil
        rw [both_left] at hd
        have hcall := fun q => HI.out d _ _ (wr.drewN q) hd (HQ.out d _ q hi)
        have HY := hid (And.intro hx1 hx2)
        have HD := hid hd
        have HA := hid hra
        have HB := hid hpb
        clear hd hi hpa hpb hk hra hna hx1 hx2
        obtain ⟨v, z⟩ := x
        simp only at gx1 gx2 bx1 bx2 hcall HY
        have q1 : ((na : Int) + 1 == 0) = false := by simp; omega
        have HC := hid hcall
        clear hcall
        go_wp2
        go_quiet (fail)
        go_wp2
        have S0 : ∀ q, (wr.drewN q).cell? ⟨ba, offa, none⟩ = some (.int .i64 v) ∧ (wr.drewN q).cell? ⟨ba, offa + 1, none⟩ = some (.int .i64 z) := fun q => ⟨by simpa using gx1, by simpa using gx2⟩
        go_region_held3 (fun W => W.cell? ⟨ba, offa, none⟩ = some (.int .i64 v) ∧ W.cell? ⟨ba, offa + 1, none⟩ = some (.int .i64 z)) (first | exact S0 _ | exact S1 | (refine ⟨?_, ?_⟩ <;> simpa))
          (first | (go_at_fn g; (with_reducible refine (HC.out _).mono ?_); rintro e w' ⟨rfl, hi'⟩; have S1 := And.intro ((HK.out _ _ hi').cell hSa HY.out.1) ((HK.out _ _ hi').cell hSa HY.out.2)))
        go_wp2
        go_roundw
        case rel =>
          refine ⟨d ++ [(v, z, 0)], ra, [], by rw [HD.out]; simp, HA.out _ (fun h => if_neg (by omega)), HB.out, hi'⟩
        case measure => simp only [sliceLen]; omega
      | cons y rb =>
        obtain ⟨bb, offb, nb, cb, rfl, hnb, hncb, hcb, hSb, ⟨by1, by2⟩, hy1, hy2, hrb⟩ := hpb.cons
        have gy1 := hk.cell hSb hy1
        have gy2 := hk.cell hSb hy2
        rw [both_cons] at hd
        have HY := hid (And.intro (And.intro hx1 hx2) (And.intro hy1 hy2))
        have HA := hid hra
        have HB := hid hrb
        have HPA := hid hpa
        have HPB := hid hpb
        have q0 : ((na : Int) + 1 == 0) = false := by simp; omega
        have q1 : ((nb : Int) + 1 == 0) = false := by simp; omega
        obtain ⟨u, z⟩ := x
        obtain ⟨v, t⟩ := y
        simp only at gx1 gx2 bx1 bx2 gy1 gy2 by1 by2 HY hd
        clear hpa hpb hk hra hrb hna hnb hx1 hx2 hy1 hy2
        have SA : ∀ q, (wr.drewN q).cell? ⟨ba, offa, none⟩ = some (.int .i64 u) ∧ (wr.drewN q).cell? ⟨ba, offa + 1, none⟩ = some (.int .i64 z) ∧ (wr.drewN q).cell? ⟨bb, offb, none⟩ = some (.int .i64 v) ∧ (wr.drewN q).cell? ⟨bb, offb + 1, none⟩ = some (.int .i64 t) := fun q => ⟨by simpa using gx1, by simpa using gx2, by simpa using gy1, by simpa using gy2⟩
        rcases (show u < v ∨ v < u ∨ u = v by omega) with hlt | hlt | heq
        · rw [if_pos hlt] at hd
          have hcall := fun q => HI.out d _ _ (wr.drewN q) hd (HQ.out d _ q hi)
          have HD := hid hd
          have HC := hid hcall
          clear hcall hd hi
          go_wp2
          go_quiet (fail)
          go_wp2
          go_region_held3 (fun W => W.cell? ⟨ba, offa, none⟩ = some (.int .i64 u) ∧ W.cell? ⟨ba, offa + 1, none⟩ = some (.int .i64 z)) (first | exact ⟨(SA _).1, (SA _).2.1⟩ | exact S1 | (refine ⟨?_, ?_⟩ <;> simpa))
            (first | (go_at_fn g; (with_reducible refine (HC.out _).mono ?_); rintro e w' ⟨rfl, hi'⟩; have S1 := And.intro ((HK.out _ _ hi').cell hSa HY.out.1.1) ((HK.out _ _ hi').cell hSa HY.out.1.2)))
          go_wp2
          go_roundw
          case rel => exact ⟨d ++ [(u, z, 0)], ra, (v, t) :: rb, by rw [HD.out]; simp, HA.out _ (fun h => if_neg (by omega)), HPB.out, hi'⟩
          case measure => simp only [sliceLen]; omega
        · rw [if_neg (by omega), if_pos hlt] at hd
          have hcall := fun q => HI.out d _ _ (wr.drewN q) hd (HQ.out d _ q hi)
          have HD := hid hd
          have HC := hid hcall
          clear hcall hd hi
          go_wp2
          go_quiet (fail)
          go_wp2
          go_quiet (fail)
          go_wp2
          go_region_held3 (fun W => W.cell? ⟨bb, offb, none⟩ = some (.int .i64 v) ∧ W.cell? ⟨bb, offb + 1, none⟩ = some (.int .i64 t)) (first | exact (SA _).2.2 | exact S1 | (refine ⟨?_, ?_⟩ <;> simpa))
            (first | (go_at_fn g; (with_reducible refine (HC.out _).mono ?_); rintro e w' ⟨rfl, hi'⟩; have S1 := And.intro ((HK.out _ _ hi').cell hSb HY.out.2.1) ((HK.out _ _ hi').cell hSb HY.out.2.2)))
          go_wp2
          go_roundw
          case rel => exact ⟨d ++ [(v, 0, t)], (u, z) :: ra, rb, by rw [HD.out]; simp, HPA.out, HB.out _ (fun h => if_neg (by omega)), hi'⟩
          case measure => simp only [sliceLen]; omega
        · subst heq
          rw [if_neg (by omega), if_neg (by omega)] at hd
          have hcall := fun q => HI.out d _ _ (wr.drewN q) hd (HQ.out d _ q hi)
          have HD := hid hd
          have HC := hid hcall
          clear hcall hd hi
          go_wp2
          go_quiet (fail)
          go_wp2
          go_quiet (fail)
          go_wp2
          go_region_held3 (fun W => W.cell? ⟨ba, offa, none⟩ = some (.int .i64 u) ∧ W.cell? ⟨ba, offa + 1, none⟩ = some (.int .i64 z) ∧ W.cell? ⟨bb, offb + 1, none⟩ = some (.int .i64 t)) (first | exact ⟨(SA _).1, (SA _).2.1, (SA _).2.2.2⟩ | exact S1 | (refine ⟨?_, ?_, ?_⟩ <;> simpa))
            (first | (go_at_fn g; (with_reducible refine (HC.out _).mono ?_); rintro e w' ⟨rfl, hi'⟩; have S1 := And.intro ((HK.out _ _ hi').cell hSa HY.out.1.1) (And.intro ((HK.out _ _ hi').cell hSa HY.out.1.2) ((HK.out _ _ hi').cell hSb HY.out.2.2))))
          go_wp2
          go_quiet (fail)
          go_wp2
          go_roundw
          case rel => exact ⟨d ++ [(u, z, t)], ra, rb, by rw [HD.out]; simp, HA.out _ (fun h => if_neg (by omega)), HB.out _ (fun h => if_neg (by omega)), HQ.out _ _ _ hi'⟩
          case measure => simp only [sliceLen]; omega
end Go.Proofs.Ythplgldclilccaa
