/- The calls that the statements play, as they lie in memory; whether they are more than is looked at. -/
import Derived.Test.YtpooglajfiddhaaMeterKnown
namespace Go.Proofs.Ytpooglajfiddhaa
open Go.RowKit

structure ROp where
  k : Int
  p : List RTerm
  e : Int
  deriving Inhabited

def Ops (S : Nat → Prop) (w : World) (v : Value) (l : List ROp) : Prop :=
  ∃ b off, SliceAt S v l.length b off ∧ ∀ j o, l[j]? = some o → ∃ vp, w.cell? ⟨b, off + j * 3, none⟩ = some (.int .i64 o.k) ∧ w.cell? ⟨b, off + j * 3 + 1, none⟩ = some vp ∧ w.cell? ⟨b, off + j * 3 + 2, none⟩ = some (.int .i64 o.e) ∧ Terms S w vp o.p

theorem Ops.to {S S' : Nat → Prop} {w w' : World} {v : Value} {l : List ROp} (h : Ops S w v l) (hk : Kept S w w') (hS : ∀ k, S k → S' k) : Ops S' w' v l := by
  obtain ⟨b, off, hs, hc⟩ := h
  refine ⟨b, off, hs.mono hS, fun j o hj => ?_⟩
  obtain ⟨vp, h1, h2, h3, h4⟩ := hc j o hj
  have hb := hs.in (lt_of_some hj)
  exact ⟨vp, hk.cell hb h1, hk.cell hb h2, hk.cell hb h3, h4.to hk hS⟩
theorem Ops.len_le {S : Nat → Prop} {w : World} {v : Value} {l : List ROp} (h : Ops S w v l) : l.length ≤ 9223372036854775807 := by
  obtain ⟨b, off, ⟨a, cap, h1, h2, h3, _⟩, _⟩ := h
  unfold maxLen at h3
  omega

def SomeBool (w : World) : Ending → World → Prop := fun e w' => ∃ x : Bool, e = .returned (.bool x) ∧ w = w'

set_option maxHeartbeats 1000000 in
theorem great_any {S : Nat → Prop} (v : Value) (l : List ROp) (w : World) (h : Ops S w v l) : Calls Try.prog 7 #[v] w (SomeBool w) := by
  have hl := h.len_le
  obtain ⟨b, off, ⟨a, cap, rfl, hcap, hmax, ha, hin⟩, hc⟩ := h
  have HC := hid hc
  clear hc
  go_enter Try.func7, Try.ntmps7
  go_wp2
  go_loop [3, 8] (fun n i => ∃ (x : Int) (k : Nat), k ≤ l.length ∧ i = .int .i64 k ∧ n = .int .i64 x) (fun _ i => l.length - (intOf i).toNat)
  case atStart => exact ⟨0, 0, Nat.zero_le _, rfl, rfl⟩
  case round =>
    obtain ⟨x, k, hk, rfl, rfl⟩ := hrel
    by_cases hlt : k < l.length
    · obtain ⟨o, ho⟩ := some_of_lt hlt
      obtain ⟨vp, h1, h2, h3, h4⟩ := HC.out k o ho
      obtain rfl := ha (by omega)
      have hpl := h4.len_le
      obtain ⟨bp, op, ⟨ap, cp, rfl, hcp, hmp, hap, _⟩, hcp'⟩ := h4
      have HP := hid hcp'
      clear h1 h3 hcp' ho
      go_wp2
      go_loop [3, 25] (fun n i => ∃ (x : Int) (j : Nat), j ≤ o.p.length ∧ i = .int .i64 j ∧ n = .int .i64 x) (fun _ i => o.p.length - (intOf i).toNat)
      case atStart => exact ⟨_, 0, Nat.zero_le _, rfl, rfl⟩
      case round =>
        obtain ⟨y, j, hj, rfl, rfl⟩ := hrel
        by_cases hjl : j < o.p.length
        · obtain ⟨t, ht⟩ := some_of_lt hjl
          obtain ⟨vm, vo, g1, g2, g3, g4, g5⟩ := HP.out j t ht
          obtain rfl := hap (by omega)
          obtain ⟨am, cm, rfl⟩ := g4.form
          clear g1 g3 g4 g5 ht
          go_wp2
          go_round
          case rel => exact ⟨_, j + 1, by omega, by go_num, rfl⟩
          case measure => simp only [intOf]; omega
        · obtain rfl : j = o.p.length := by omega
          go_wp2
          go_round
          case rel => exact ⟨_, k + 1, by omega, by go_num, rfl⟩
          case measure => simp only [intOf]; omega
    · obtain rfl : k = l.length := by omega
      by_cases h2 : 200 < l.length
      · go_wp2
        go_ret
        exact ⟨_, rfl, rfl⟩
      · go_wp2
        go_ret
        exact ⟨_, rfl, rfl⟩
end Go.Proofs.Ytpooglajfiddhaa
