/- What the law knows. -/
import Derived.Test.YthplgldclilccaaRefMul
import Derived.Test.YthplgldclilccaaRankBy
namespace Go.Proofs.Ythplgldclilccaa
open Go.RowKit

set_option maxRecDepth 100000 in
set_option maxHeartbeats 4000000 in
theorem rpoly_mul {S : Nat → Prop} (vp vq : Value) (p q : PZ) (w : World) (hS : ∀ k, S k → k < w.heap.size) (hp : RTs S w vp p) (hq : RTs S w vq q) (hmp : mayAll p) (hmq : mayAll q) (hszp : szP p) (hszq : szP q) (hsz : szM p q) :
    Calls Try.prog 31 #[vp, vq] w fun e w' => ∃ v', e = .returned v' ∧ RTs (Plus S w w') w' v' (timesV (timesP p q)) ∧ Ext w w' := by
  have HT := hid (rpoly_times vp vq p q w hS hp hq hmp hmq hszp hszq hsz)
  clear hp hq
  go_enter Try.func31, Try.ntmps31
  go_wp2_with fail
  refine HT.out.mono ?_
  rintro e w1 ⟨v1, rfl, hp1, hx1⟩
  have HX1 := hid hx1
  have HP1 := hid hp1
  clear hx1 hp1
  go_wp2
  all_goals
    go_ret
    exact ⟨_, rfl, HP1.out, HX1.out⟩

abbrev knX : PZ := [(1, [(1, 1)])]
abbrev knY : PZ := [(1, [(2, 1)])]
abbrev knYY : PZ := [(1, [(2, 2)])]
abbrev knA : PZ := [(1, [(1, 1), (2, 2)])]
abbrev knB : PZ := [(1, [(2, 1)]), (1, [])]
theorem kn1 : timesV (timesP knY knY) = knYY := by kernel_rfl
theorem kn2 : timesV (timesP knX knYY) = knA := by kernel_rfl
theorem kn3 : addP knY (numP 1) = knB := by kernel_rfl
theorem can_one {m : Mono} (h : mayM m = true) : canP [(1, m)] := ⟨fun t ht => by rw [List.mem_singleton.1 ht]; exact ⟨by show (1 : Int) ≠ 0; decide, h⟩, List.pairwise_singleton _ _⟩
theorem knX_can : canP knX := can_one rfl
theorem knY_can : canP knY := can_one rfl
theorem knYY_can : canP knYY := can_one rfl
theorem knA_can : canP knA := can_one rfl
theorem knB_can : canP knB := by
  rw [← kn3]
  exact (addP_can knY_can (putP_may canP_nil.may rfl)).1
theorem ones_sz {p : PZ} (h : p.length ≤ 100) (h1 : ∀ t ∈ p, t.1 = 1) : szP p := ⟨by omega, fun t ht => by rw [h1 t ht]; exact szZ_i64 (n := 1) (by omega)⟩
theorem ones_szM {p q : PZ} (hp : p.length = 1) (hq : q.length = 1) (h1 : ∀ t ∈ p, t.1 = 1) (h2 : ∀ t ∈ q, t.1 = 1) : szM p q :=
  ⟨1, 1, fun t ht u hu => by rw [h1 t ht, h2 u hu]; decide, by rw [hp, hq]; omega, by rw [hp, hq]; decide, by omega⟩
theorem ones_small {p : PZ} (h1 : ∀ t ∈ p, t.1 = 1) : smallT (ofP p) := fun t ht => by
  obtain ⟨u, hu, rfl⟩ := List.mem_map.1 ht
  have e := h1 u hu
  refine Nat.le_trans (rep_len_le two_le_B32 _ 1 ?_) (by omega)
  rw [e]
  decide
theorem plainP_ofP {p : PZ} (h : canP p) : plainP (ofP p) = p := by
  unfold plainP
  rw [if_pos (mayT_ofP h)]
  exact toP_ofP p
theorem rk1 : orderR (rankP knX) (rankP knY) = -1 := by kernel_rfl
theorem rk2 : reducedP knX knY = true := by kernel_rfl
theorem rk3 : orderR (rankP knA) (rankP knB) = 1 := by kernel_rfl
theorem rk4 : reducedP knA knB = false := by kernel_rfl
theorem rk5 : rankP knA = (2, 2) := by kernel_rfl
theorem RTs.old {w : World} {S : Nat → Prop} {v : Value} {p : PZ} (h : RTs S w v p) (hS : ∀ k, S k → k < w.heap.size) : RTs (Old w) w v p := h.to (Kept.refl _ _) hS
theorem Terms.old {w : World} {S : Nat → Prop} {v : Value} {p : List RTerm} (h : Terms S w v p) (hS : ∀ k, S k → k < w.heap.size) : Terms (Old w) w v p := h.to (Kept.refl _ _) hS
theorem Terms.on {w W : World} {v : Value} {z : List RTerm} (h : Terms (Old w) w v z) (hx : Ext w W) : Terms (Old W) W v z := h.to (Kept.ext hx (fun _ h => h)) (old_lt hx)
theorem all_one {m : Mono} : ∀ t ∈ ([(1, m)] : PZ), t.1 = 1 := fun t ht => by rw [List.mem_singleton.1 ht]
theorem knB_one : ∀ t ∈ knB, t.1 = 1 := fun t ht => by
  simp at ht
  rcases ht with rfl | rfl <;> rfl
theorem kn_len {p : PZ} (h : mayAll p) : ∀ t ∈ p, t.2.length ≤ 1000000 := fun t ht => Nat.le_trans (mayM_len (h t ht)) (by omega)
theorem knOne : szP (numP 1) := ones_sz (p := [(1, [])]) (by decide) all_one
theorem kn_step (k : Nat) : szP (addP knY ((numP 1).take k)) := by
  cases k with
  | zero => exact ones_sz (p := knY) (by decide) all_one
  | succ k =>
    have e : (numP 1).take (k + 1) = numP 1 := List.take_of_length_le (by show 1 ≤ k + 1; omega)
    rw [e, kn3]
    exact ones_sz (by decide) knB_one

set_option maxRecDepth 100000 in
set_option maxHeartbeats 8000000 in
theorem law15_known (w : World) :
    Calls Try.prog 9 #[] w fun e w' => e = .returned (.bool true) ∧ Ext w w' := by
  have hnot : ∀ (x : Bool) (w : World), (Op.unary .not (.bool x)).run Try.prog w = .ok (.bool (!x)) w := fun _ _ => rfl
  go_enter Try.func9, Try.ntmps9
  go_wp2_with fail
  refine (rpoly_x 1 w (by unfold inI64; omega)).mono ?_
  rintro e w1 ⟨v1, rfl, hp1, hx1⟩
  have HX1 : Hid (Ext w w1) := hid hx1
  have HP1 := hid (RTs.old hp1 New.lt)
  obtain ⟨a1, c1, rfl⟩ := hp1.form
  clear hx1 hp1
  go_wp2_with fail
  refine (rpoly_x 2 w1 (by unfold inI64; omega)).mono ?_
  rintro e w2 ⟨v2, rfl, hp2, hx2⟩
  have HX2 : Hid (Ext w1 w2) := hid hx2
  have HP2 := hid (RTs.old hp2 New.lt)
  obtain ⟨a2, c2, rfl⟩ := hp2.form
  clear hx2 hp2
  go_wp2_with fail
  refine (rpoly_mul (S := Old w2) _ _ knY knY w2 (fun _ h => h) HP2.out HP2.out knY_can.may knY_can.may (ones_sz (by decide) all_one) (ones_sz (by decide) all_one) (ones_szM rfl rfl all_one all_one)).mono ?_
  rw [kn1]
  rintro e w3 ⟨v3, rfl, hp3, hx3⟩
  have HX3 : Hid (Ext w2 w3) := hid hx3
  have HP3 := hid (RTs.old hp3 (plus_lt (fun _ h => h) hx3))
  obtain ⟨a3, c3, rfl⟩ := hp3.form
  clear hx3 hp3
  go_wp2_with fail
  refine (rpoly_mul (S := Old w3) _ _ knX knYY w3 (fun _ h => h) (RTs.on HP1.out (HX2.out.trans HX3.out)) HP3.out knX_can.may knYY_can.may (ones_sz (by decide) all_one) (ones_sz (by decide) all_one) (ones_szM rfl rfl all_one all_one)).mono ?_
  rw [kn2]
  rintro e w4 ⟨v4, rfl, hp4, hx4⟩
  have HX4 : Hid (Ext w3 w4) := hid hx4
  have HP4 := hid (RTs.old hp4 (plus_lt (fun _ h => h) hx4))
  obtain ⟨a4, c4, rfl⟩ := hp4.form
  clear hx4 hp4
  go_wp2_with fail
  refine (rpoly_poly (S := Old w4) _ knA w4 HP4.out (fun _ h => h) (ones_sz (by decide) all_one) (kn_len knA_can.may)).mono ?_
  rintro e w5 ⟨v5, rfl, hp5, hx5⟩
  have HX5 : Hid (Ext w4 w5) := hid hx5
  have HP5 := hid (Terms.old hp5 New.lt)
  obtain ⟨a5, c5, rfl⟩ := hp5.form
  clear hx5 hp5
  go_wp2_with fail
  refine (rpoly_small 1 w5 (by omega)).mono ?_
  rintro e w6 ⟨v6, rfl, hp6, hx6⟩
  have HX6 : Hid (Ext w5 w6) := hid hx6
  have HP6 := hid (RTs.old hp6 New.lt)
  obtain ⟨a6, c6, rfl⟩ := hp6.form
  clear hx6 hp6
  go_wp2_with fail
  refine (rpoly_add (S := Old w6) _ _ knY (numP 1) w6 (fun _ h => h) (RTs.on HP2.out (HX3.out.trans (HX4.out.trans (HX5.out.trans HX6.out)))) HP6.out knY_can.may (putP_may canP_nil.may rfl) knOne (fun k _ => kn_step k)).mono ?_
  rw [kn3]
  rintro e w7 ⟨v7, rfl, hp7, hx7⟩
  have HX7 : Hid (Ext w6 w7) := hid hx7
  have HP7 := hid (RTs.old hp7 (plus_lt (fun _ h => h) hx7))
  obtain ⟨a7, c7, rfl⟩ := hp7.form
  clear hx7 hp7
  go_wp2_with fail
  refine (rpoly_poly (S := Old w7) _ knB w7 HP7.out (fun _ h => h) (ones_sz (by decide) knB_one) (kn_len knB_can.may)).mono ?_
  rintro e w8 ⟨v8, rfl, hp8, hx8⟩
  have HX8 : Hid (Ext w7 w8) := hid hx8
  have HP8 := hid (Terms.old hp8 New.lt)
  obtain ⟨a8, c8, rfl⟩ := hp8.form
  have HA8 := hid (Terms.on HP5.out (HX6.out.trans (HX7.out.trans hx8)))
  have HY1 := hid (RTs.on HP1.out (HX2.out.trans (HX3.out.trans (HX4.out.trans (HX5.out.trans (HX6.out.trans (HX7.out.trans hx8)))))))
  have HY2 := hid (RTs.on HP2.out (HX3.out.trans (HX4.out.trans (HX5.out.trans (HX6.out.trans (HX7.out.trans hx8))))))
  have HXX := hid (HX1.out.trans (HX2.out.trans (HX3.out.trans (HX4.out.trans (HX5.out.trans (HX6.out.trans (HX7.out.trans hx8)))))))
  clear hx8 hp8
  go_wp2_with fail
  refine (rpoly_poly (S := Old w8) _ knX w8 HY1.out (fun _ h => h) (ones_sz (by decide) all_one) (kn_len knX_can.may)).mono ?_
  rintro e w9 ⟨v9, rfl, hp9, hx9⟩
  have HX9 : Hid (Ext w8 w9) := hid hx9
  have HP9 := hid (Terms.old hp9 New.lt)
  obtain ⟨a9, c9, rfl⟩ := hp9.form
  clear hx9 hp9
  go_wp2_with fail
  refine (rpoly_poly (S := Old w9) _ knY w9 (RTs.on HY2.out HX9.out) (fun _ h => h) (ones_sz (by decide) all_one) (kn_len knY_can.may)).mono ?_
  rintro e w10 ⟨v10, rfl, hp10, hx10⟩
  have HX10 : Hid (Ext w9 w10) := hid hx10
  have HP10 := hid (Terms.old hp10 New.lt)
  obtain ⟨a10, c10, rfl⟩ := hp10.form
  clear hx10 hp10
  go_wp2_with fail
  refine (rank_compare (S := Old w10) _ _ (ofP knX) (ofP knY) w10 (Terms.on HP9.out HX10.out) HP10.out (fun _ h => h) (ones_small all_one) (ones_small all_one)).mono ?_
  rw [plainP_ofP knX_can, plainP_ofP knY_can, rk1]
  rintro e w11 ⟨rfl, hx11⟩
  have HX11 : Hid (Ext w8 w11) := hid (HX9.out.trans (HX10.out.trans hx11))
  clear hx11
  go_wp2_with fail
  refine (rpoly_poly (S := Old w11) _ knX w11 (RTs.on HY1.out HX11.out) (fun _ h => h) (ones_sz (by decide) all_one) (kn_len knX_can.may)).mono ?_
  rintro e w12 ⟨v12, rfl, hp12, hx12⟩
  have HX12 : Hid (Ext w8 w12) := hid (HX11.out.trans hx12)
  have HP12 := hid (Terms.old hp12 New.lt)
  obtain ⟨a12, c12, rfl⟩ := hp12.form
  clear hx12 hp12
  go_wp2_with fail
  refine (rpoly_poly (S := Old w12) _ knY w12 (RTs.on HY2.out HX12.out) (fun _ h => h) (ones_sz (by decide) all_one) (kn_len knY_can.may)).mono ?_
  rintro e w13 ⟨v13, rfl, hp13, hx13⟩
  have HX13a : Hid (Ext w12 w13) := hid hx13
  have HX13 : Hid (Ext w8 w13) := hid (HX12.out.trans hx13)
  have HP13 := hid (Terms.old hp13 New.lt)
  obtain ⟨a13, c13, rfl⟩ := hp13.form
  clear hx13 hp13
  go_wp2_with fail
  refine (rank_reduced (S := Old w13) _ _ (ofP knX) (ofP knY) w13 (Terms.on HP12.out HX13a.out) HP13.out (fun _ h => h) (ones_small all_one) (ones_small all_one)).mono ?_
  rw [plainP_ofP knX_can, plainP_ofP knY_can, rk2]
  rintro e w14 ⟨rfl, hx14⟩
  have HX14 : Hid (Ext w8 w14) := hid (HX13.out.trans hx14)
  clear hx14
  go_wp2_with fail
  refine (rank_compare (S := Old w14) _ _ (ofP knA) (ofP knB) w14 (Terms.on HA8.out HX14.out) (Terms.on HP8.out HX14.out) (fun _ h => h) (ones_small all_one) (ones_small knB_one)).mono ?_
  rw [plainP_ofP knA_can, plainP_ofP knB_can, rk3]
  rintro e w15 ⟨rfl, hx15⟩
  have HX15 : Hid (Ext w8 w15) := hid (HX14.out.trans hx15)
  clear hx15
  go_wp2_with fail
  refine (rank_reduced (S := Old w15) _ _ (ofP knA) (ofP knB) w15 (Terms.on HA8.out HX15.out) (Terms.on HP8.out HX15.out) (fun _ h => h) (ones_small all_one) (ones_small knB_one)).mono ?_
  rw [plainP_ofP knA_can, plainP_ofP knB_can, rk4]
  rintro e w16 ⟨rfl, hx16⟩
  have HX16 : Hid (Ext w8 w16) := hid (HX15.out.trans hx16)
  clear hx16
  go_wp2_with fail
  refine (rank_of (S := Old w16) _ (ofP knA) w16 (Terms.on HA8.out HX16.out) (fun _ h => h) (ones_small all_one)).mono ?_
  rw [plainP_ofP knA_can, rk5]
  unfold RankV
  rintro e w17 ⟨rfl, hx17⟩
  have HX17 : Hid (Ext w8 w17) := hid (HX16.out.trans hx17)
  clear hx17
  go_wp2
  all_goals
    go_ret
    exact ⟨rfl, HXX.out.trans HX17.out⟩
end Go.Proofs.Ythplgldclilccaa
