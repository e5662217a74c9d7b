/- Decimal digits in memory, as the document's numbers have them. -/
import Derived.Test.YthplgldclilccaaAppend
namespace Go.Proofs.Ythplgldclilccaa
open Go.RowKit

def Digs (S : Nat → Prop) (w : World) (v : Value) (zs : List Nat) : Prop :=
  ∃ b off, SliceAt S v zs.length b off ∧ ∀ j z, zs[j]? = some z → z < 10 ∧ w.cell? ⟨b, off + j, none⟩ = some (.int .i64 (z : Nat))

section
variable {S S' : Nat → Prop} {w w' : World} {v : Value}
theorem Digs.form {zs : List Nat} (h : Digs S w v zs) : ∃ a cap, v = .slice a zs.length cap := by
  obtain ⟨b, off, ⟨a, cap, h1, _⟩, _⟩ := h
  exact ⟨a, cap, h1⟩
theorem Digs.to {zs : List Nat} (h : Digs S w v zs) (hk : Kept S w w') (hS : ∀ k, S k → S' k) : Digs S' w' v zs := by
  obtain ⟨b, off, hs, hc⟩ := h
  exact ⟨b, off, hs.mono hS, fun j z hz => ⟨(hc j z hz).1, hk.cell (hs.in (lt_of_some hz)) (hc j z hz).2⟩⟩
theorem Digs.ext {zs : List Nat} (h : Digs S w v zs) (hx : Ext w w') (hS : ∀ k, S k → k < w.heap.size) : Digs S w' v zs := h.to (Kept.ext hx hS) (fun _ h => h)
theorem Digs.len_le {zs : List Nat} (h : Digs S w v zs) : zs.length ≤ 9223372036854775807 := by
  obtain ⟨b, off, ⟨a, cap, h1, h2, h3, _⟩, _⟩ := h
  unfold maxLen at h3
  omega
theorem Digs.lt {zs : List Nat} (h : Digs S w v zs) : ∀ z ∈ zs, z < 10 := by
  obtain ⟨b, off, hs, hc⟩ := h
  intro z hz
  obtain ⟨j, hj⟩ := List.getElem?_of_mem hz
  exact (hc j z hj).1
theorem Digs.cellAt {zs : List Nat} {a : Option Addr} {n cap k z : Nat} (h : Digs S w (.slice a n cap) zs) (hz : zs[k]? = some z) :
    ∃ b off, a = some ⟨b, off, none⟩ ∧ n = zs.length ∧ n ≤ cap ∧ cap ≤ 9223372036854775807 ∧ S b ∧ z < 10 ∧ w.cell? ⟨b, off + k, none⟩ = some (.int .i64 (z : Nat)) := by
  obtain ⟨b, off, ⟨a', cap', h1, h2, h3, h4, h5⟩, hc⟩ := h
  obtain ⟨rfl, rfl, rfl⟩ : a = a' ∧ n = zs.length ∧ cap = cap' := by simpa using h1
  have hp : 0 < zs.length := by have := lt_of_some hz; omega
  exact ⟨b, off, h4 hp, rfl, h2, h3, h5 hp, hc k z hz⟩
theorem Digs.take {zs : List Nat} {a : Option Addr} {n cap k : Nat} (h : Digs S w (.slice a n cap) zs) (hk : k ≤ n) : Digs S w (.slice a k cap) (zs.take k) := by
  obtain ⟨b, off, ⟨a', cap', h1, h2, h3, h4, h5⟩, hc⟩ := h
  obtain ⟨rfl, rfl, rfl⟩ : a = a' ∧ n = zs.length ∧ cap = cap' := by simpa using h1
  have hl : (zs.take k).length = k := by rw [List.length_take]; omega
  refine ⟨b, off, ⟨a, cap, by rw [hl], by omega, h3, fun h => h4 (by omega), fun h => h5 (by omega)⟩, fun j z hz => hc j z ?_⟩
  rw [List.getElem?_take] at hz
  split at hz
  · exact hz
  · simp at hz
theorem Digs.nilv (S : Nat → Prop) (w : World) (a : Option Addr) (cap : Nat) (h : cap ≤ 9223372036854775807) : Digs S w (.slice a 0 cap) [] :=
  ⟨0, 0, ⟨a, cap, rfl, Nat.zero_le _, by unfold maxLen; omega, fun h => absurd h (Nat.lt_irrefl _), fun h => absurd h (Nat.lt_irrefl _)⟩, fun j x hx => by simp at hx⟩

def dval (z : Nat) : Value := .int .i64 (z : Nat)
theorem own_digs {base : Nat} {e : TypeId} {ds : List Nat} (h : w.ownsRow base e 1 v ds.length (ds.map dval)) (hl : ∀ z ∈ ds, z < 10) : Digs (fun k => base ≤ k ∧ k < w.heap.size) w v ds := by
  have hlt := h.lt
  rcases h.2 with ⟨rfl, h0⟩ | ⟨g, cap, cur, rfl, hg, hh, h1, h2, h3, h4⟩
  · obtain rfl : ds = [] := List.length_eq_zero_iff.1 h0
    exact Digs.nilv _ _ _ _ (by omega)
  · refine ⟨g, 0, ⟨_, cap, rfl, h1, h2, fun _ => rfl, fun _ => hlt g rfl⟩, fun j z hz => ⟨hl z (List.mem_of_getElem? hz), ?_⟩⟩
    rw [h.cellAt (0 + j) (by have := lt_of_some hz; omega), Nat.zero_add]
    simp [hz, dval]
theorem own_snoc {base : Nat} {e : TypeId} {o : List Nat} {u : Value} {f : Nat → Value} (h : w.ownsRow base e 1 v (o.length + 1) (o.map f ++ [u])) {z : Nat} (hu : u = f z) : w.ownsRow base e 1 v (o ++ [z]).length ((o ++ [z]).map f) := by
  subst hu
  simpa using h
theorem one_cell {u : Value} (h : u.oneCell' = true) : ∀ x ∈ (#[u] : Array Value).toList, x.oneCell' = true := by
  intro x hx
  obtain rfl : x = u := by simpa using hx
  exact h
end

theorem two_le_10 : 2 ≤ 10 := by decide
theorem Try.infoInt : (Try.prog.info? 3).map (fun i => (i.zero, i.size, i.bytes)) = some (some (.int .i64 0), 1, 8) := by kernel_rfl

set_option maxHeartbeats 1000000 in
theorem dig_trim {S : Nat → Prop} (v : Value) (zs : List Nat) (w : World) (h : Digs S w v zs) :
    Calls Try.prog 123 #[v] w fun e w' => ∃ v', e = .returned v' ∧ Digs S w v' (rep 10 (val 10 zs)) ∧ w = w' := by
  have hl := h.len_le
  have H := hid h
  obtain ⟨a, cap, rfl⟩ := h.form
  clear h
  go_enter Try.func123, Try.ntmps123
  go_wp2
  go_loop [0] (fun x => ∃ k : Nat, k ≤ zs.length ∧ x = .slice a k cap ∧ trimTo zs k = trimTo zs zs.length) (fun x => sliceLen x)
  case atStart => exact ⟨zs.length, Nat.le_refl _, rfl, rfl⟩
  case round =>
    obtain ⟨k, hk, rfl, ht⟩ := hrel
    cases k with
    | zero =>
      have HT := hid ht
      clear ht
      go_wp2
      all_goals
        go_ret
        refine ⟨_, rfl, ?_, rfl⟩
        have h1 := H.out.take (Nat.zero_le _)
        rw [← trimL_rep two_le_10 zs H.out.lt, ← List.take_length (l := zs), ← trimTo_take zs _ (Nat.le_refl _), ← HT.out]
        exact h1
    | succ k =>
      obtain ⟨z, hz⟩ := some_of_lt (show k < zs.length by omega)
      obtain ⟨b, off, rfl, -, hcap, hmax, -, hzb, hcell⟩ := H.out.cellAt hz
      have HT := hid ht
      have HZ := hid hz
      clear ht hz
      by_cases h0 : z = 0
      · have hb : ((z : Int) == 0) = true := by simpa using h0
        have H0 := hid h0
        clear h0
        go_wp2
        go_round
        case rel => exact ⟨k, by omega, rfl, by rw [← HT.out, trimTo, HZ.out, H0.out, if_pos rfl]⟩
        case measure => simp only [sliceLen]; omega
      · have hb : ((z : Int) == 0) = false := by simpa using h0
        have H0 := hid h0
        clear h0
        go_wp2
        all_goals
          go_ret
          refine ⟨_, rfl, ?_, rfl⟩
          have h1 := H.out.take hk
          have h2 : trimTo zs (k + 1) = k + 1 := by rw [trimTo, HZ.out, if_neg (by simpa using H0.out)]
          rw [← trimL_rep two_le_10 zs H.out.lt, ← List.take_length (l := zs), ← trimTo_take zs _ (Nat.le_refl _), ← HT.out, h2]
          exact h1

theorem times_next {B : Nat} {o xs : List Nat} {k x c n m : Nat} (hl : o.length = k) (h : val B o + B ^ k * c = val B (xs.take k) * n + m) (hx : xs[k]? = some x) :
    val B (o ++ [(c + x * n) % B]) + B ^ (k + 1) * ((c + x * n) / B) = val B (xs.take (k + 1)) * n + m := by
  rw [carry_step hl h, val_take_succ hx, Nat.add_mul, Nat.mul_assoc]
  omega
theorem carry_next {B : Nat} {o : List Nat} {k c V : Nat} (hl : o.length = k) (h : val B o + B ^ k * c = V) : val B (o ++ [c % B]) + B ^ (k + 1) * (c / B) = V := by
  have := carry_step (s := 0) hl h
  simpa using this

set_option maxRecDepth 100000 in
set_option maxHeartbeats 4000000 in
theorem dig_times {S : Nat → Prop} (v : Value) (zs : List Nat) (n m : Int) (w : World) (h : Digs S w v zs) (hS : ∀ k, S k → k < w.heap.size) (hr : zs.length ≤ 10000000) (hn0 : 0 ≤ n) (hn : n ≤ 65536) (hm0 : 0 ≤ m) (hm : m ≤ 65536) :
    Calls Try.prog 129 #[v, .int .i64 n, .int .i64 m] w fun e w' => ∃ v', e = .returned v' ∧ Digs (New w w') w' v' (rep 10 (val 10 zs * n.toNat + m.toNat)) ∧ Ext w w' := by
  obtain ⟨n, rfl⟩ := Int.eq_ofNat_of_zero_le hn0
  obtain ⟨m, rfl⟩ := Int.eq_ofNat_of_zero_le hm0
  simp only [Int.toNat_natCast]
  clear hn0 hm0
  have H := hid h
  have hlt := hid h.lt
  obtain ⟨a, cap, rfl⟩ := h.form
  clear h
  go_enter Try.func129, Try.ntmps129
  go_wp2
  go_loopw [7, 8, 9] (fun x c i wr => ∃ (k cc : Nat) (o : List Nat), k ≤ zs.length ∧ i = .int .i64 k ∧ c = .int .i64 cc ∧ cc ≤ 65536 ∧ o.length = k ∧ Hid (∀ z ∈ o, z < 10) ∧ Hid (wr.ownsRow w.heap.size 3 1 x o.length (o.map dval)) ∧ Ext w wr ∧
    Hid (val 10 o + 10 ^ k * cc = val 10 (zs.take k) * n + m)) (fun _ _ i _ => zs.length - (intOf i).toNat)
  case atStart => exact ⟨0, m, [], Nat.zero_le _, rfl, rfl, by omega, rfl, hid (by simp), hid (World.ownsRow_nil _ _ _ _), Ext.refl _, hid (by simp [val])⟩
  case round =>
    obtain ⟨k, cc, o, hk, rfl, rfl, hcc, hol, HO, HW, hx, HV⟩ := hrel
    by_cases hlt2 : k < zs.length
    · obtain ⟨x, hx1⟩ := some_of_lt hlt2
      obtain ⟨b, off, rfl, -, hn1, hm1, -, hxb, hc1⟩ := (H.out.ext hx hS).cellAt hx1
      have HX1 := hid hx1
      have HX := hid hx
      have HOL := hid hol
      have hol2 : o.length ≤ 1000000000 := by omega
      obtain ⟨p, hp⟩ : ∃ p : Nat, p = x * n := ⟨_, rfl⟩
      have hpb : p ≤ 9 * 65536 := by rw [hp]; exact Nat.mul_le_mul (by omega) (by omega)
      have hmul : (x : Int) * (n : Int) = (p : Int) := by rw [hp]; simp
      have HP := hid hp
      clear hx1 hx hol hp
      go_wp2_with (at_builtin; refine wpList_append_new _ rfl (.tmp 25) (.tmp 28) 98 rfl w.heap.size 3 (.int .i64 0) 1 8 Try.underlying98 Try.infoInt rfl (by decide) _ o.length (o.map dval) rfl HW.out _ rfl (one_cell rfl) rfl hol2 (by decide) HX.out.size ?_; intro v1 w1 hown hg _; have HOW := hid hown; have HG := hid hg; clear hown hg)
      go_roundw
      case rel =>
        refine ⟨k + 1, (cc + p) / 10, o ++ [(cc + p) % 10], by omega, by go_num, by go_num, by omega, by simp [HOL.out], ?_, hid (own_snoc HOW.out (by unfold dval; congr 1)), ext_grown HX.out HG.out ?_, ?_⟩
        · refine hid (fun z hz => ?_)
          rcases List.mem_append.1 hz with h | h
          · exact HO.out z h
          · rw [List.mem_singleton.1 h]
            exact Nat.mod_lt _ (by decide)
        · intro q hq
          exact (HW.out.lt q hq).1
        · rw [HP.out]
          exact hid (times_next HOL.out HV.out HX1.out)
      case measure => simp only [intOf]; omega
    · obtain rfl : k = zs.length := by omega
      rw [List.take_length] at HV
      have HX := hid hx
      have HOL := hid hol
      have hol2 : o.length ≤ 10000000 := by omega
      have HO2 := hid hol2
      clear hx hol hol2
      obtain ⟨wo, rfl⟩ : ∃ wo : World, wo = wr := ⟨_, rfl⟩
      go_wp2
      go_loopw [7, 8] (fun x c wr => ∃ (cc : Nat) (o : List Nat), c = .int .i64 cc ∧ cc ≤ 65536 ∧ Hid (o.length + cc ≤ 11000000) ∧ Hid (∀ z ∈ o, z < 10) ∧ Hid (wr.ownsRow w.heap.size 3 1 x o.length (o.map dval)) ∧ Ext w wr ∧
        Hid (val 10 o + 10 ^ o.length * cc = val 10 zs * n + m)) (fun _ c _ => (intOf c).toNat)
      case atStart => exact ⟨cc, o, rfl, hcc, hid (by have := HO2.out; omega), HO, HW, HX.out, hid (by rw [HOL.out]; exact HV.out)⟩
      case round =>
        obtain ⟨cc, o, rfl, hcc, HB, HO, HW, hx, HV⟩ := hrel
        have HX := hid hx
        clear hx
        by_cases h0 : 0 < cc
        · have hol2 : o.length ≤ 1000000000 := by have := HB.out; omega
          go_wp2_with (at_builtin; refine wpList_append_new _ rfl (.tmp 34) (.tmp 37) 98 rfl w.heap.size 3 (.int .i64 0) 1 8 Try.underlying98 Try.infoInt rfl (by decide) _ o.length (o.map dval) rfl HW.out _ rfl (one_cell rfl) rfl hol2 (by decide) HX.out.size ?_; intro v1 w1 hown hg _; have HOW := hid hown; have HG := hid hg; clear hown hg)
          go_roundw
          case rel =>
            refine ⟨cc / 10, o ++ [cc % 10], by go_num, by omega, hid (by have := HB.out; simp; omega), ?_, hid (own_snoc HOW.out (by unfold dval; congr 1)), ext_grown HX.out HG.out ?_, ?_⟩
            · refine hid (fun z hz => ?_)
              rcases List.mem_append.1 hz with h | h
              · exact HO.out z h
              · rw [List.mem_singleton.1 h]
                exact Nat.mod_lt _ (by decide)
            · intro q hq
              exact (HW.out.lt q hq).1
            · have := carry_next rfl HV.out
              exact hid (by simpa using this)
          case measure => simp only [intOf]; omega
        · obtain rfl : cc = 0 := by omega
          have hd := own_digs HW.out HO.out
          have HD := hid hd
          obtain ⟨a1, c1, rfl⟩ := hd.form
          have HE : Hid (val 10 o = val 10 zs * n + m) := hid (by have := HV.out; simpa using this)
          clear hd
          go_wp2_with fail
          refine (dig_trim _ o _ HD.out).mono ?_
          rintro e w' ⟨v', rfl, hu, rfl⟩
          have HU := hid hu
          clear hu
          go_wp2
          all_goals
            go_ret
            exact ⟨_, rfl, by rw [← HE.out]; exact HU.out, HX.out⟩
end Go.Proofs.Ythplgldclilccaa
