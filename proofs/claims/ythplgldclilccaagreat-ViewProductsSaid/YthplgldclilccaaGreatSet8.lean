/- ViewProducts holds: for every two polynomials and every whole number the law answers true, and its arguments read as they did. No condition. -/
import Derived.Test.YthplgldclilccaaGreatSet7
namespace Go.Proofs.YthplgldclilccaaGreat
open Go.RowKit

set_option maxRecDepth 100000 in
set_option maxHeartbeats 4000000 in
theorem rpoly_mul {S : Nat → Prop} (vp vq : Value) (p q : PZ) (w : World) (hS : ∀ k, S k → k < w.heap.size) (hp : RTs S w vp p) (hq : RTs S w vq q) (hmp : mayAll p) (hmq : mayAll q) (hszp : szP p) (hszq : szP q) (hsz : szM p q) :
    Calls Tryz.prog 44 #[vp, vq] w fun e w' => ∃ v', e = .returned v' ∧ RTs (Plus S w w') w' v' (timesV (timesP p q)) ∧ Ext w w' := by
  have HT := hid (rpoly_times vp vq p q w hS hp hq hmp hmq hszp hszq hsz)
  clear hp hq
  go_enter Tryz.func44, Tryz.ntmps44
  go_wp2_with fail
  refine HT.out.mono ?_
  rintro e w1 ⟨v1, rfl, hp1, hx1⟩
  have HX1 := hid hx1
  have HP1 := hid hp1
  clear hx1 hp1
  go_wp2
  all_goals
    go_ret
    exact ⟨_, rfl, HP1.out, HX1.out⟩

abbrev knX : PZ := [(1, [(1, 1)])]
abbrev knY : PZ := [(1, [(2, 1)])]
abbrev knYY : PZ := [(1, [(2, 2)])]
abbrev knA : PZ := [(1, [(1, 1), (2, 2)])]
abbrev knB : PZ := [(1, [(2, 1)]), (1, [])]
theorem kn1 : timesV (timesP knY knY) = knYY := by kernel_rfl
theorem kn2 : timesV (timesP knX knYY) = knA := by kernel_rfl
theorem kn3 : addP knY (numP 1) = knB := by kernel_rfl
theorem can_one {m : Mono} (h : mayM m = true) : canP [(1, m)] := ⟨fun t ht => by rw [List.mem_singleton.1 ht]; exact ⟨by show (1 : Int) ≠ 0; decide, h⟩, List.pairwise_singleton _ _⟩
theorem knX_can : canP knX := can_one rfl
theorem knY_can : canP knY := can_one rfl
theorem knYY_can : canP knYY := can_one rfl
theorem knA_can : canP knA := can_one rfl
theorem knB_can : canP knB := by
  rw [← kn3]
  exact (addP_can knY_can (putP_may canP_nil.may rfl)).1
theorem ones_sz {p : PZ} (h : p.length ≤ 100) (h1 : ∀ t ∈ p, t.1 = 1) : szP p := ⟨by omega, fun t ht => by rw [h1 t ht]; exact szZ_i64 (n := 1) (by omega)⟩
theorem ones_szM {p q : PZ} (hp : p.length = 1) (hq : q.length = 1) (h1 : ∀ t ∈ p, t.1 = 1) (h2 : ∀ t ∈ q, t.1 = 1) : szM p q :=
  ⟨1, 1, fun t ht u hu => by rw [h1 t ht, h2 u hu]; decide, by rw [hp, hq]; omega, by rw [hp, hq]; decide, by omega⟩
theorem ones_small {p : PZ} (h1 : ∀ t ∈ p, t.1 = 1) : smallT (ofP p) := fun t ht => by
  obtain ⟨u, hu, rfl⟩ := List.mem_map.1 ht
  have e := h1 u hu
  refine Nat.le_trans (rep_len_le two_le_B32 _ 1 ?_) (by omega)
  rw [e]
  decide
theorem plainP_ofP {p : PZ} (h : canP p) : plainP (ofP p) = p := by
  unfold plainP
  rw [if_pos (mayT_ofP h)]
  exact toP_ofP p
theorem rk1 : orderR (rankP knX) (rankP knY) = -1 := by kernel_rfl
theorem rk2 : reducedP knX knY = true := by kernel_rfl
theorem rk3 : orderR (rankP knA) (rankP knB) = 1 := by kernel_rfl
theorem rk4 : reducedP knA knB = false := by kernel_rfl
theorem rk5 : rankP knA = (2, 2) := by kernel_rfl
theorem RTs.old {w : World} {S : Nat → Prop} {v : Value} {p : PZ} (h : RTs S w v p) (hS : ∀ k, S k → k < w.heap.size) : RTs (Old w) w v p := h.to (Kept.refl _ _) hS
theorem Terms.old {w : World} {S : Nat → Prop} {v : Value} {p : List RTerm} (h : Terms S w v p) (hS : ∀ k, S k → k < w.heap.size) : Terms (Old w) w v p := h.to (Kept.refl _ _) hS
theorem Polys.on {w W : World} {v : Value} {z : List (List RTerm)} (h : Polys (Old w) w v z) (hx : Ext w W) : Polys (Old W) W v z := h.to (Kept.ext hx (fun _ h => h)) (old_lt hx)
theorem Terms.on {w W : World} {v : Value} {z : List RTerm} (h : Terms (Old w) w v z) (hx : Ext w W) : Terms (Old W) W v z := h.to (Kept.ext hx (fun _ h => h)) (old_lt hx)
theorem all_one {m : Mono} : ∀ t ∈ ([(1, m)] : PZ), t.1 = 1 := fun t ht => by rw [List.mem_singleton.1 ht]
theorem knB_one : ∀ t ∈ knB, t.1 = 1 := fun t ht => by
  simp at ht
  rcases ht with rfl | rfl <;> rfl
theorem kn_len {p : PZ} (h : mayAll p) : ∀ t ∈ p, t.2.length ≤ 1000000 := fun t ht => Nat.le_trans (mayM_len (h t ht)) (by omega)
theorem knOne : szP (numP 1) := ones_sz (p := [(1, [])]) (by decide) all_one
theorem kn_step (k : Nat) : szP (addP knY ((numP 1).take k)) := by
  cases k with
  | zero => exact ones_sz (p := knY) (by decide) all_one
  | succ k =>
    have e : (numP 1).take (k + 1) = numP 1 := List.take_of_length_le (by show 1 ≤ k + 1; omega)
    rw [e, kn3]
    exact ones_sz (by decide) knB_one

set_option maxRecDepth 100000 in
set_option maxHeartbeats 8000000 in
theorem law15_known (w : World) :
    Calls Tryz.prog 9 #[] w fun e w' => e = .returned (.bool true) ∧ Ext w w' := by
  have hnot : ∀ (x : Bool) (w : World), (Op.unary .not (.bool x)).run Tryz.prog w = .ok (.bool (!x)) w := fun _ _ => rfl
  go_enter Tryz.func9, Tryz.ntmps9
  go_wp2_with fail
  refine (rpoly_x 1 w (by unfold inI64; omega)).mono ?_
  rintro e w1 ⟨v1, rfl, hp1, hx1⟩
  have HX1 : Hid (Ext w w1) := hid hx1
  have HP1 := hid (RTs.old hp1 New.lt)
  obtain ⟨a1, c1, rfl⟩ := hp1.form
  clear hx1 hp1
  go_wp2_with fail
  refine (rpoly_x 2 w1 (by unfold inI64; omega)).mono ?_
  rintro e w2 ⟨v2, rfl, hp2, hx2⟩
  have HX2 : Hid (Ext w1 w2) := hid hx2
  have HP2 := hid (RTs.old hp2 New.lt)
  obtain ⟨a2, c2, rfl⟩ := hp2.form
  clear hx2 hp2
  go_wp2_with fail
  refine (rpoly_mul (S := Old w2) _ _ knY knY w2 (fun _ h => h) HP2.out HP2.out knY_can.may knY_can.may (ones_sz (by decide) all_one) (ones_sz (by decide) all_one) (ones_szM rfl rfl all_one all_one)).mono ?_
  rw [kn1]
  rintro e w3 ⟨v3, rfl, hp3, hx3⟩
  have HX3 : Hid (Ext w2 w3) := hid hx3
  have HP3 := hid (RTs.old hp3 (plus_lt (fun _ h => h) hx3))
  obtain ⟨a3, c3, rfl⟩ := hp3.form
  clear hx3 hp3
  go_wp2_with fail
  refine (rpoly_mul (S := Old w3) _ _ knX knYY w3 (fun _ h => h) (RTs.on HP1.out (HX2.out.trans HX3.out)) HP3.out knX_can.may knYY_can.may (ones_sz (by decide) all_one) (ones_sz (by decide) all_one) (ones_szM rfl rfl all_one all_one)).mono ?_
  rw [kn2]
  rintro e w4 ⟨v4, rfl, hp4, hx4⟩
  have HX4 : Hid (Ext w3 w4) := hid hx4
  have HP4 := hid (RTs.old hp4 (plus_lt (fun _ h => h) hx4))
  obtain ⟨a4, c4, rfl⟩ := hp4.form
  clear hx4 hp4
  go_wp2_with fail
  refine (rpoly_poly (S := Old w4) _ knA w4 HP4.out (fun _ h => h) (ones_sz (by decide) all_one) (kn_len knA_can.may)).mono ?_
  rintro e w5 ⟨v5, rfl, hp5, hx5⟩
  have HX5 : Hid (Ext w4 w5) := hid hx5
  have HP5 := hid (Terms.old hp5 New.lt)
  obtain ⟨a5, c5, rfl⟩ := hp5.form
  clear hx5 hp5
  go_wp2_with fail
  refine (rpoly_small 1 w5 (by omega)).mono ?_
  rintro e w6 ⟨v6, rfl, hp6, hx6⟩
  have HX6 : Hid (Ext w5 w6) := hid hx6
  have HP6 := hid (RTs.old hp6 New.lt)
  obtain ⟨a6, c6, rfl⟩ := hp6.form
  clear hx6 hp6
  go_wp2_with fail
  refine (rpoly_add (S := Old w6) _ _ knY (numP 1) w6 (fun _ h => h) (RTs.on HP2.out (HX3.out.trans (HX4.out.trans (HX5.out.trans HX6.out)))) HP6.out knY_can.may (putP_may canP_nil.may rfl) knOne (fun k _ => kn_step k)).mono ?_
  rw [kn3]
  rintro e w7 ⟨v7, rfl, hp7, hx7⟩
  have HX7 : Hid (Ext w6 w7) := hid hx7
  have HP7 := hid (RTs.old hp7 (plus_lt (fun _ h => h) hx7))
  obtain ⟨a7, c7, rfl⟩ := hp7.form
  clear hx7 hp7
  go_wp2_with fail
  refine (rpoly_poly (S := Old w7) _ knB w7 HP7.out (fun _ h => h) (ones_sz (by decide) knB_one) (kn_len knB_can.may)).mono ?_
  rintro e w8 ⟨v8, rfl, hp8, hx8⟩
  have HX8 : Hid (Ext w7 w8) := hid hx8
  have HP8 := hid (Terms.old hp8 New.lt)
  obtain ⟨a8, c8, rfl⟩ := hp8.form
  have HA8 := hid (Terms.on HP5.out (HX6.out.trans (HX7.out.trans hx8)))
  have HY1 := hid (RTs.on HP1.out (HX2.out.trans (HX3.out.trans (HX4.out.trans (HX5.out.trans (HX6.out.trans (HX7.out.trans hx8)))))))
  have HY2 := hid (RTs.on HP2.out (HX3.out.trans (HX4.out.trans (HX5.out.trans (HX6.out.trans (HX7.out.trans hx8))))))
  have HXX := hid (HX1.out.trans (HX2.out.trans (HX3.out.trans (HX4.out.trans (HX5.out.trans (HX6.out.trans (HX7.out.trans hx8)))))))
  clear hx8 hp8
  go_wp2_with fail
  refine (rpoly_poly (S := Old w8) _ knX w8 HY1.out (fun _ h => h) (ones_sz (by decide) all_one) (kn_len knX_can.may)).mono ?_
  rintro e w9 ⟨v9, rfl, hp9, hx9⟩
  have HX9 : Hid (Ext w8 w9) := hid hx9
  have HP9 := hid (Terms.old hp9 New.lt)
  obtain ⟨a9, c9, rfl⟩ := hp9.form
  clear hx9 hp9
  go_wp2_with fail
  refine (rpoly_poly (S := Old w9) _ knY w9 (RTs.on HY2.out HX9.out) (fun _ h => h) (ones_sz (by decide) all_one) (kn_len knY_can.may)).mono ?_
  rintro e w10 ⟨v10, rfl, hp10, hx10⟩
  have HX10 : Hid (Ext w9 w10) := hid hx10
  have HP10 := hid (Terms.old hp10 New.lt)
  obtain ⟨a10, c10, rfl⟩ := hp10.form
  clear hx10 hp10
  go_wp2_with fail
  refine (rank_compare (S := Old w10) _ _ (ofP knX) (ofP knY) w10 (Terms.on HP9.out HX10.out) HP10.out (fun _ h => h) (ones_small all_one) (ones_small all_one)).mono ?_
  rw [plainP_ofP knX_can, plainP_ofP knY_can, rk1]
  rintro e w11 ⟨rfl, hx11⟩
  have HX11 : Hid (Ext w8 w11) := hid (HX9.out.trans (HX10.out.trans hx11))
  clear hx11
  go_wp2_with fail
  refine (rpoly_poly (S := Old w11) _ knX w11 (RTs.on HY1.out HX11.out) (fun _ h => h) (ones_sz (by decide) all_one) (kn_len knX_can.may)).mono ?_
  rintro e w12 ⟨v12, rfl, hp12, hx12⟩
  have HX12 : Hid (Ext w8 w12) := hid (HX11.out.trans hx12)
  have HP12 := hid (Terms.old hp12 New.lt)
  obtain ⟨a12, c12, rfl⟩ := hp12.form
  clear hx12 hp12
  go_wp2_with fail
  refine (rpoly_poly (S := Old w12) _ knY w12 (RTs.on HY2.out HX12.out) (fun _ h => h) (ones_sz (by decide) all_one) (kn_len knY_can.may)).mono ?_
  rintro e w13 ⟨v13, rfl, hp13, hx13⟩
  have HX13a : Hid (Ext w12 w13) := hid hx13
  have HX13 : Hid (Ext w8 w13) := hid (HX12.out.trans hx13)
  have HP13 := hid (Terms.old hp13 New.lt)
  obtain ⟨a13, c13, rfl⟩ := hp13.form
  clear hx13 hp13
  go_wp2_with fail
  refine (rank_reduced (S := Old w13) _ _ (ofP knX) (ofP knY) w13 (Terms.on HP12.out HX13a.out) HP13.out (fun _ h => h) (ones_small all_one) (ones_small all_one)).mono ?_
  rw [plainP_ofP knX_can, plainP_ofP knY_can, rk2]
  rintro e w14 ⟨rfl, hx14⟩
  have HX14 : Hid (Ext w8 w14) := hid (HX13.out.trans hx14)
  clear hx14
  go_wp2_with fail
  refine (rank_compare (S := Old w14) _ _ (ofP knA) (ofP knB) w14 (Terms.on HA8.out HX14.out) (Terms.on HP8.out HX14.out) (fun _ h => h) (ones_small all_one) (ones_small knB_one)).mono ?_
  rw [plainP_ofP knA_can, plainP_ofP knB_can, rk3]
  rintro e w15 ⟨rfl, hx15⟩
  have HX15 : Hid (Ext w8 w15) := hid (HX14.out.trans hx15)
  clear hx15
  go_wp2_with fail
  refine (rank_reduced (S := Old w15) _ _ (ofP knA) (ofP knB) w15 (Terms.on HA8.out HX15.out) (Terms.on HP8.out HX15.out) (fun _ h => h) (ones_small all_one) (ones_small knB_one)).mono ?_
  rw [plainP_ofP knA_can, plainP_ofP knB_can, rk4]
  rintro e w16 ⟨rfl, hx16⟩
  have HX16 : Hid (Ext w8 w16) := hid (HX15.out.trans hx16)
  clear hx16
  go_wp2_with fail
  refine (rank_of (S := Old w16) _ (ofP knA) w16 (Terms.on HA8.out HX16.out) (fun _ h => h) (ones_small all_one)).mono ?_
  rw [plainP_ofP knA_can, rk5]
  unfold RankV
  rintro e w17 ⟨rfl, hx17⟩
  have HX17 : Hid (Ext w8 w17) := hid (HX16.out.trans hx17)
  clear hx17
  go_wp2
  all_goals
    go_ret
    exact ⟨rfl, HXX.out.trans HX17.out⟩
end Go.Proofs.YthplgldclilccaaGreat

namespace Go.Proofs.YthplgldclilccaaGreat
open Go.RowKit

/-- a canonical polynomial of at most n terms, of at most k limbs each -/
def Fit (k n : Nat) (p : PZ) : Prop := canP p ∧ bndZ k p ∧ p.length ≤ n
/-- it lies in memory -/
abbrev PV (W : World) (v : Value) (p : PZ) : Prop := Terms (Old W) W v (ofP p)

section
variable {k l n m : Nat} {p q : PZ}
theorem Fit.can (h : Fit k n p) : canP p := h.1
theorem Fit.mono (h : Fit k n p) (hk : k ≤ l) (hn : n ≤ m) : Fit l m p := ⟨h.1, h.2.1.mono hk, Nat.le_trans h.2.2 hn⟩
theorem Fit.lens (h : Fit k n p) : ∀ t ∈ ofP p, t.c.mag.length ≤ k := bnd_lens h.2.1
theorem Fit.small (h : Fit k n p) (hk : k ≤ 1000000) : smallT (ofP p) := small_bnd h.2.1 (by omega)
theorem Fit.may (h : Fit k n p) : mayT (ofP p) = true := mayT_ofP h.1
theorem Fit.plain (h : Fit k n p) : plainP (ofP p) = p := plainP_ofP h.1
theorem Fit.len (h : Fit k n p) : (ofP p).length ≤ n := by rw [ofP_len]; exact h.2.2
theorem fit_nil : Fit 0 0 [] := ⟨canP_nil, fun t ht => by simp at ht, by simp⟩
theorem filterMap_len {α β : Type} (f : α → Option β) (l : List α) : (l.filterMap f).length ≤ l.length := List.length_filterMap_le _ _
theorem Fit.init (h : Fit k n p) : Fit k n (initP p) := ⟨initP_can h.1, bnd_init h.2.1, by
  unfold initP
  split
  · exact h.2.2
  · exact Nat.le_trans (filterMap_len _ _) h.2.2⟩
theorem Fit.coef (h : Fit k n p) (v e : Int) : Fit k n (coefP p v e) := ⟨coefP_can h.1 v e, bnd_coef h.2.1 v e, Nat.le_trans (filterMap_len _ _) h.2.2⟩
theorem Fit.tail (h : Fit k n p) : Fit k n (tailP p) := ⟨tailP_can h.1, bnd_tail h.2.1, Nat.le_trans (filterMap_len _ _) h.2.2⟩
theorem Fit.der (h : Fit k n p) (v : Int) : Fit (k + 1) n (derP p v) := ⟨derP_can h.1 v, bnd_der h.1.may h.2.1 v, Nat.le_trans (filterMap_len _ _) h.2.2⟩
theorem addP_len (p l : PZ) : (addP p l).length ≤ p.length + l.length := by
  unfold addP
  induction l generalizing p with
  | nil => simp
  | cons t r ih =>
    rw [List.foldl_cons]
    have h1 := ih (putP p t.1 t.2)
    have h2 := putP_len p t.1 t.2
    simp only [List.length_cons]
    omega
theorem normP_len (p : PZ) : (normP p).length ≤ p.length := by
  have := addP_len [] p
  rw [List.length_nil, Nat.zero_add] at this
  exact this
theorem may_append (hp : mayAll p) (hq : mayAll q) : mayAll (p ++ q) := fun t ht => by
  rcases List.mem_append.1 ht with g | g
  · exact hp t g
  · exact hq t g
theorem Fit.add (hp : Fit k n p) (hq : Fit k m q) (hn : n + m ≤ 1000000000) : Fit (k + 2) (n + m) (normP (p ++ q)) := by
  have hm := may_append hp.1.may hq.1.may
  have hl : (p ++ q).length ≤ n + m := by rw [List.length_append]; have := hp.2.2; have := hq.2.2; omega
  exact ⟨norm_can hm, normP_bnd hm (hp.2.1.append hq.2.1) (by show _ < 4294967296 ^ 2; omega), Nat.le_trans (normP_len _) hl⟩
theorem mulL_len (p q : PZ) : (mulL p q).length = p.length * q.length := by
  unfold mulL
  induction p with
  | nil => simp
  | cons t r ih => rw [List.flatMap_cons, List.length_append, ih, List.length_map, List.length_cons, Nat.add_mul]; omega
theorem mulL_bnd (hp : bndZ k p) (hq : bndZ l q) : bndZ (k + l) (mulL p q) := fun x hx => by
  obtain ⟨t, ht, u, hu, rfl⟩ := mulL_mem hx
  exact lenI_mono (lenI_prod (lenI_lt (hp t ht)) (lenI_lt (hq u hu))) (Nat.le_refl _)
theorem Fit.times {c : PZ} (hp : Fit k n p) (hq : Fit l m q) (h : timesP p q = some c) (hn : n * m ≤ 1000000000) : Fit (k + l + 2) (n * m) c := by
  obtain ⟨hm, rfl⟩ := times_some hp.1.may hq.1.may h
  have hl : (mulL p q).length ≤ n * m := by rw [mulL_len]; exact Nat.mul_le_mul hp.2.2 hq.2.2
  exact ⟨norm_can hm, normP_bnd hm (mulL_bnd hp.2.1 hq.2.1) (by show _ < 4294967296 ^ 2; omega), Nat.le_trans (normP_len _) hl⟩
end

set_option maxRecDepth 100000 in
set_option maxHeartbeats 4000000 in
theorem poly_times_no {S : Nat → Prop} (vp vq : Value) (ps qs : List RTerm) (w : World) (hp : Terms S w vp ps) (hq : Terms S w vq qs) (hS : ∀ k, S k → k < w.heap.size) (hm : (mayT ps && mayT qs) = false) (hrp : smallT ps) (hrq : smallT qs) :
    Calls Tryz.prog 33 #[vp, vq] w (ErrPoly w 2) := by
  have hnot : ∀ (x : Bool) (w : World), (Op.unary .not (.bool x)).run Tryz.prog w = .ok (.bool (!x)) w := fun _ _ => rfl
  unfold ErrPoly
  have CA := poly_all (S := fun k => S k ∨ k = w.heap.size) _ [ps, qs] (w.alloc (.cells #[vp, vq] 26)) (two_polys hp hq hS 26) (two_lt hS _) (fun p hp => by
    rcases List.mem_cons.1 hp with rfl | hp
    · exact hrp
    · rw [List.mem_singleton.1 hp]; exact hrq)
  rw [show [ps, qs].all mayT = false by simpa using hm] at CA
  obtain ⟨ap, cp, rfl⟩ := hp.form
  obtain ⟨aq, cq, rfl⟩ := hq.form
  have HCA := hid CA
  clear hp hq hm CA
  go_enter Tryz.func33, Tryz.ntmps33
  go_wp2_with fail
  with_reducible refine HCA.out.mono ?_
  rintro e w1 ⟨rfl, hx1⟩
  have HX1 := hid ((Ext.alloc (Ext.refl w) _).trans hx1)
  clear hx1
  go_wp2
  all_goals
    go_ret2
    exact ⟨rfl, HX1.out⟩
/-- an argument that may be -/
theorem pv_of {w : World} {v : Value} {ps : List RTerm} (h : Terms (Old w) w v ps) (hm : mayT ps = true) : ps = ofP (plainP ps) := by
  unfold plainP
  rw [if_pos hm]
  exact (mayT_of h.okT hm).symm
theorem fit_plain {ps : List RTerm} {k n : Nat} (hok : okT ps) (h : ∀ t ∈ ps, t.c.mag.length ≤ k) (hn : ps.length ≤ n) : Fit k n (plainP ps) := ⟨plainP_can ps, bnd_plain hok h, Nat.le_trans (plain_len ps) hn⟩

section
variable {W : World} {u v : Value} {p q : PZ} {k l n m : Nat}
theorem z_times (hp : PV W u p) (hq : PV W v q) (fp : Fit k n p) (fq : Fit l m q) (hc : k < 24 ∨ l < 24) (hk : k ≤ 1000000) (hl : l ≤ 1000000) (hnm : n * m ≤ 1000000000) :
    Calls Tryz.prog 33 #[u, v] W (TimesPost W (timesP p q)) := by
  have h := poly_times u v _ _ W 1000000 hp hq (fun _ h => h) fp.may fq.may (fun t ht => Nat.le_trans (fp.lens t ht) hk) (fun t ht => Nat.le_trans (fq.lens t ht) hl) (by decide)
    (hc.imp (fun h t ht => by
      obtain ⟨x, hx, rfl⟩ := List.mem_map.1 ht
      show lenI (valI (ofI x.1)) < 24
      rw [valI_ofI]
      exact Nat.lt_of_le_of_lt (lenI_lt (fp.2.1 x hx)) h) (fun h t ht => by
      obtain ⟨x, hx, rfl⟩ := List.mem_map.1 ht
      show lenI (valI (ofI x.1)) < 24
      rw [valI_ofI]
      exact Nat.lt_of_le_of_lt (lenI_lt (fq.2.1 x hx)) h))
    (Nat.le_trans (Nat.mul_le_mul fp.len fq.len) hnm)
  rwa [toP_ofP, toP_ofP] at h
theorem z_add (hp : PV W u p) (hq : PV W v q) (fp : Fit k n p) (fq : Fit l m q) (hk : k ≤ 1000000) (hl : l ≤ 1000000) (hn : n + m ≤ 1000000000) :
    Calls Tryz.prog 35 #[u, v] W (OkPoly W (normP (p ++ q))) := by
  have h := poly_add u v _ _ W 1000000 hp hq (fun _ h => h) fp.may fq.may (fun t ht => Nat.le_trans (fp.lens t ht) hk) (fun t ht => Nat.le_trans (fq.lens t ht) hl) (by decide) (by have := fp.len; have := fq.len; omega)
  rwa [toP_ofP, toP_ofP] at h
theorem z_same (hp : PV W u p) (hq : PV W v q) : Calls Tryz.prog 34 #[u, v] W fun e w' => e = .returned (.bool (decide (p = q))) ∧ Ext W w' := by
  have h := poly_same u v _ _ W hp hq (fun _ h => h)
  have e : decide (ofP p = ofP q) = decide (p = q) := by
    by_cases g : p = q
    · rw [decide_eq_true g, decide_eq_true (congrArg ofP g)]
    · rw [decide_eq_false g, decide_eq_false (fun e => g (by rw [← toP_ofP p, e, toP_ofP]))]
  rwa [e] at h
theorem z_class (hp : PV W u p) (fp : Fit k n p) (hk : k ≤ 1000000) : Calls Tryz.prog 24 #[u] W fun e w' => e = .returned (.int .i64 (leadP p)) ∧ Ext W w' := by
  have h := view_class u _ W hp (fun _ h => h) (fp.small hk)
  rwa [fp.plain] at h
theorem z_degree (hp : PV W u p) (fp : Fit k n p) (hk : k ≤ 1000000) {x : Int} (hx : inI64 x) : Calls Tryz.prog 26 #[u, .int .i64 x] W fun e w' => e = .returned (.int .i64 (degP p x)) ∧ Ext W w' := by
  have h := view_degree u _ x W hp (fun _ h => h) (fp.small hk) hx
  rwa [fp.plain] at h
theorem z_initial (hp : PV W u p) (fp : Fit k n p) (hk : k ≤ 1000000) (hn : n ≤ 1000000000) : Calls Tryz.prog 27 #[u] W fun e w' => ∃ v', e = .returned v' ∧ Terms (New W w') w' v' (ofP (initP p)) ∧ Ext W w' := by
  have h := view_initial u _ W hp (fun _ h => h) (fp.small hk) (Nat.le_trans fp.len hn)
  rwa [fp.plain] at h
theorem z_tail (hp : PV W u p) (fp : Fit k n p) (hk : k ≤ 1000000) (hn : n ≤ 1000000000) : Calls Tryz.prog 29 #[u] W fun e w' => ∃ v', e = .returned v' ∧ Terms (New W w') w' v' (ofP (tailP p)) ∧ Ext W w' := by
  have h := view_tail u _ W hp (fun _ h => h) (fp.small hk) (Nat.le_trans fp.len hn)
  rwa [fp.plain] at h
theorem z_coef (hp : PV W u p) (fp : Fit k n p) (hk : k ≤ 1000000) (hn : n ≤ 1000000000) {x d : Int} (hx : 1 ≤ x ∧ x ≤ 200) (hd : inI64 d) : Calls Tryz.prog 31 #[u, .int .i64 x, .int .i64 d] W fun e w' => ∃ v', e = .returned v' ∧ Terms (New W w') w' v' (ofP (coefP p x d)) ∧ Ext W w' := by
  have h := view_coefficient u _ x d W hp (fun _ h => h) (fp.small hk) (Nat.le_trans fp.len hn) hx hd
  rwa [fp.plain] at h
theorem z_derive (hp : PV W u p) (fp : Fit k n p) (hk : k ≤ 1000000) (hn : n ≤ 1000000000) {x : Int} (hx : inI64 x) : Calls Tryz.prog 32 #[u, .int .i64 x] W fun e w' => ∃ v', e = .returned v' ∧ Terms (New W w') w' v' (ofP (derP p x)) ∧ Ext W w' := by
  have h := view_derive u _ x W 1000000 hp (fun _ h => h) (fun t ht => Nat.le_trans (fp.lens t ht) hk) (by decide) (Nat.le_trans fp.len hn) hx
  rwa [fp.plain] at h
theorem z_may (hp : PV W u p) (fp : Fit k n p) (hk : k ≤ 1000000) : Calls Tryz.prog 41 #[u] W fun e w' => e = .returned (.bool true) ∧ Ext W w' := by
  have h := poly_may u _ W hp (fun _ h => h) (fp.small hk)
  rwa [fp.may] at h
end
end Go.Proofs.YthplgldclilccaaGreat

namespace Go.Proofs.YthplgldclilccaaGreat
open Go.RowKit

set_option maxRecDepth 100000 in
set_option maxHeartbeats 1000000 in
theorem rsame01 {S : Nat → Prop} (va vb : Value) (xs ys : List Nat) (w : World) (ha : U32s S w va xs) (hb : U32s S w vb ys) (hS : ∀ k, S k → k < w.heap.size) :
    Calls Tryz.prog 101 #[va, vb] w fun e w' => e = .returned (.bool (decide (xs = ys))) ∧ Ext w w' := by
  have HA := hid ha
  have HB := hid hb
  have hla := ha.len_le
  have hlb := hb.len_le
  obtain ⟨aa, ca, rfl⟩ := ha.form
  obtain ⟨ab, cb, rfl⟩ := hb.form
  obtain ⟨na, hna⟩ : ∃ n, n = xs.length := ⟨_, rfl⟩
  obtain ⟨nb, hnb⟩ : ∃ n, n = ys.length := ⟨_, rfl⟩
  rw [← hna] at HA hla ⊢
  rw [← hnb] at HB hlb ⊢
  have HNA := hid hna
  have HNB := hid hnb
  clear ha hb hna hnb
  by_cases hne : na = nb
  · subst hne
    go_enter Tryz.func101, Tryz.ntmps101
    go_wp2
    go_loopw [5] (fun i wr => ∃ k : Nat, k ≤ na ∧ i = .int .i64 k ∧ Ext w wr ∧ Hid (xs.take k = ys.take k)) (fun i _ => na - (intOf i).toNat)
    case atStart => exact ⟨0, Nat.zero_le _, rfl, Ext.refl _, rfl⟩
    case round =>
      obtain ⟨k, hk, rfl, hx, HE⟩ := hrel
      have HX := hid hx
      by_cases hlt : k < na
      · obtain ⟨x, hxk⟩ := some_of_lt (l := xs) (j := k) (by rw [← HNA.out]; exact hlt)
        obtain ⟨y, hyk⟩ := some_of_lt (l := ys) (j := k) (by rw [← HNB.out]; exact hlt)
        obtain ⟨b1, o1, rfl, -, hc1, hm1, hz1, h1⟩ := (HA.out.ext hx hS).cellAt hxk
        obtain ⟨b2, o2, rfl, -, hc2, hm2, hz2, h2⟩ := (HB.out.ext hx hS).cellAt hyk
        have HXK := hid hxk
        have HYK := hid hyk
        clear hxk hyk hx
        by_cases he : x = y
        · have q1 : ((x : Int) != (y : Int)) = false := by rw [he]; simp
          have H0 := hid he
          clear he
          go_wp2
          go_quiet (fail)
          go_wp2
          go_roundw
          case rel => exact ⟨k + 1, by omega, by go_num, HX.out.drewN _, take_eq_succ HE.out HXK.out (by rw [H0.out]; exact HYK.out)⟩
          case measure => simp only [intOf]; omega
        · have q1 : ((x : Int) != (y : Int)) = true := by rw [bne_iff_ne]; omega
          have HF : Hid (xs ≠ ys) := hid (ne_of_at HXK.out HYK.out he)
          clear he
          go_wp2
          go_quiet (fail)
          go_wp2
          go_ret
          exact ⟨by rw [decide_eq_false HF.out]; rfl, HX.out.drewN _⟩
      · obtain rfl : k = na := by omega
        have HF : Hid (xs = ys) := hid (by have := HE.out; rwa [List.take_of_length_le (by rw [← HNA.out]; exact Nat.le_refl _), List.take_of_length_le (by rw [← HNB.out]; exact Nat.le_refl _)] at this)
        clear hx
        go_wp2
        go_ret
        exact ⟨by rw [decide_eq_true HF.out]; rfl, HX.out⟩
  · have hb : ((na : Int) != (nb : Int)) = true := by rw [bne_iff_ne]; omega
    have HF : Hid (xs ≠ ys) := hid (fun e => hne (by rw [HNA.out, HNB.out, e]))
    clear hne
    go_enter Tryz.func101, Tryz.ntmps101
    go_wp2
    go_ret
    exact ⟨by rw [decide_eq_false HF.out]; rfl, Ext.refl _⟩
set_option maxRecDepth 100000 in
set_option maxHeartbeats 1000000 in
theorem rsame07 {S : Nat → Prop} (va vb : Value) (xs ys : Mono) (w : World) (ha : Pows S w va xs) (hb : Pows S w vb ys) (hS : ∀ k, S k → k < w.heap.size) :
    Calls Tryz.prog 56 #[va, vb] w fun e w' => e = .returned (.bool (decide (xs = ys))) ∧ Ext w w' := by
  have HA := hid ha
  have HB := hid hb
  have hla := ha.len_le
  have hlb := hb.len_le
  obtain ⟨aa, ca, rfl⟩ := ha.form
  obtain ⟨ab, cb, rfl⟩ := hb.form
  obtain ⟨na, hna⟩ : ∃ n, n = xs.length := ⟨_, rfl⟩
  obtain ⟨nb, hnb⟩ : ∃ n, n = ys.length := ⟨_, rfl⟩
  rw [← hna] at HA hla ⊢
  rw [← hnb] at HB hlb ⊢
  have HNA := hid hna
  have HNB := hid hnb
  clear ha hb hna hnb
  by_cases hne : na = nb
  · subst hne
    go_enter Tryz.func56, Tryz.ntmps56
    go_wp2
    go_loopw [5] (fun i wr => ∃ k : Nat, k ≤ na ∧ i = .int .i64 k ∧ Ext w wr ∧ Hid (xs.take k = ys.take k)) (fun i _ => na - (intOf i).toNat)
    case atStart => exact ⟨0, Nat.zero_le _, rfl, Ext.refl _, rfl⟩
    case round =>
      obtain ⟨k, hk, rfl, hx, HE⟩ := hrel
      have HX := hid hx
      by_cases hlt : k < na
      · obtain ⟨x, hxk⟩ := some_of_lt (l := xs) (j := k) (by rw [← HNA.out]; exact hlt)
        obtain ⟨y, hyk⟩ := some_of_lt (l := ys) (j := k) (by rw [← HNB.out]; exact hlt)
        obtain ⟨b1, o1, c1', hv1, hc1, hm1, ⟨⟨hz1, hz2⟩, hz3, hz4⟩, h1, h1'⟩ := (HA.out.ext hx hS).at hxk
        obtain ⟨rfl, -, rfl⟩ : aa = some ⟨b1, o1, none⟩ ∧ na = xs.length ∧ ca = c1' := by simpa using hv1
        obtain ⟨b2, o2, c2', hv2, hc2, hm2, ⟨⟨hy1, hy2⟩, hy3, hy4⟩, h2, h2'⟩ := (HB.out.ext hx hS).at hyk
        obtain ⟨rfl, -, rfl⟩ : ab = some ⟨b2, o2, none⟩ ∧ na = ys.length ∧ cb = c2' := by simpa using hv2
        clear hv1 hv2
        rw [← HNA.out] at hc1
        rw [← HNB.out] at hc2
        have HXK := hid hxk
        have HYK := hid hyk
        clear hxk hyk hx
        by_cases he : x = y
        · have H0 := hid he
          obtain ⟨x1, x2⟩ := x
          obtain ⟨y1, y2⟩ := y
          obtain ⟨rfl, rfl⟩ : x1 = y1 ∧ x2 = y2 := by simpa using he
          simp only at h1 h1' h2 h2' hz1 hz2 hz3 hz4 hy1 hy2 hy3 hy4
          clear he
          go_wp2
          go_quiet (fail)
          go_wp2
          go_roundw
          case rel => exact ⟨k + 1, by omega, by go_num, HX.out.drewN _, take_eq_succ HE.out HXK.out HYK.out⟩
          case measure => simp only [intOf]; omega
        · have HF : Hid (xs ≠ ys) := hid (ne_of_at HXK.out HYK.out he)
          obtain ⟨x1, x2⟩ := x
          obtain ⟨y1, y2⟩ := y
          simp only at h1 h1' h2 h2' hz1 hz2 hz3 hz4 hy1 hy2 hy3 hy4
          have he' : x1 ≠ y1 ∨ (x1 = y1 ∧ x2 ≠ y2) := by
            by_cases h : x1 = y1
            · exact .inr ⟨h, fun h' => he (by rw [h, h'])⟩
            · exact .inl h
          clear he
          rcases he' with he | ⟨rfl, he⟩
          all_goals
            go_wp2
            go_quiet (fail)
            go_wp2
            go_ret
            exact ⟨by rw [decide_eq_false HF.out]; rfl, HX.out.drewN _⟩
      · obtain rfl : k = na := by omega
        have HF : Hid (xs = ys) := hid (by have := HE.out; rwa [List.take_of_length_le (by rw [← HNA.out]; exact Nat.le_refl _), List.take_of_length_le (by rw [← HNB.out]; exact Nat.le_refl _)] at this)
        clear hx
        go_wp2
        go_ret
        exact ⟨by rw [decide_eq_true HF.out]; rfl, HX.out⟩
  · have hb : ((na : Int) != (nb : Int)) = true := by rw [bne_iff_ne]; omega
    have HF : Hid (xs ≠ ys) := hid (fun e => hne (by rw [HNA.out, HNB.out, e]))
    clear hne
    go_enter Tryz.func56, Tryz.ntmps56
    go_wp2
    go_ret
    exact ⟨by rw [decide_eq_false HF.out]; rfl, Ext.refl _⟩

set_option maxRecDepth 100000 in
set_option maxHeartbeats 2000000 in
theorem rsame04 {S : Nat → Prop} (v1 v2 : Value) (sn tn : Bool) (sm tm : List Nat) (w : World) (h1 : U32s S w v1 sm) (h2 : U32s S w v2 tm) (hS : ∀ k, S k → k < w.heap.size) :
    Calls Tryz.prog 55 #[.agg #[.bool sn, v1], .agg #[.bool tn, v2]] w fun e w' => e = .returned (.bool (decide (sn = tn) && decide (sm = tm))) ∧ Ext w w' := by
  have CU := fun (W : World) (hW : Ext w W) => rsame01 _ _ sm tm W (h1.ext hW hS) (h2.ext hW hS) (lt_ext hS hW)
  obtain ⟨a1, c1, rfl⟩ := h1.form
  obtain ⟨a2, c2, rfl⟩ := h2.form
  have hx : Ext w ((w.alloc (.cells #[.bool sn, .slice a1 sm.length c1] 72)).alloc (.cells #[.bool tn, .slice a2 tm.length c2] 72)) := Ext.alloc (Ext.alloc (Ext.refl w) _) _
  have HX := hid hx
  clear h1 h2 hx
  by_cases hs : sn = tn
  · subst hs
    cases hm : decide (sm = tm) with
    | false =>
      simp only [hm] at CU
      have HCU := hid CU
      clear CU hm
      go_enter Tryz.func55, Tryz.ntmps55
      go_wp2_with fail
      with_reducible refine (HCU.out _ HX.out).mono ?_
      rintro e w1 ⟨rfl, hx1⟩
      have HX1 := hid (HX.out.trans hx1)
      clear hx1
      go_wp2
      all_goals
        go_ret
        exact ⟨by simp, HX1.out⟩
    | true =>
      simp only [hm] at CU
      have HCU := hid CU
      clear CU hm
      go_enter Tryz.func55, Tryz.ntmps55
      go_wp2_with fail
      with_reducible refine (HCU.out _ HX.out).mono ?_
      rintro e w1 ⟨rfl, hx1⟩
      have HX1 := hid (HX.out.trans hx1)
      clear hx1
      go_wp2
      all_goals
        go_ret
        exact ⟨by simp, HX1.out⟩
  · have hb : (sn == tn) = false := by rw [beq_eq_false_iff_ne]; exact hs
    have HF := hid (decide_eq_false hs)
    clear hs CU
    go_enter Tryz.func55, Tryz.ntmps55
    go_wp2
    all_goals
      go_ret
      exact ⟨by rw [HF.out]; simp, HX.out⟩

set_option maxRecDepth 100000 in
set_option maxHeartbeats 4000000 in
theorem rpoly_same {S : Nat → Prop} (va vb : Value) (xs ys : List RTerm) (w : World) (ha : Terms S w va xs) (hb : Terms S w vb ys) (hS : ∀ k, S k → k < w.heap.size) :
    Calls Tryz.prog 16 #[va, vb] w fun e w' => e = .returned (.bool (decide (xs = ys))) ∧ Ext w w' := by
  have HA := hid ha
  have HB := hid hb
  have hla := ha.len_le
  have hlb := hb.len_le
  obtain ⟨aa, ca, rfl⟩ := ha.form
  obtain ⟨ab, cb, rfl⟩ := hb.form
  obtain ⟨na, hna⟩ : ∃ n, n = xs.length := ⟨_, rfl⟩
  obtain ⟨nb, hnb⟩ : ∃ n, n = ys.length := ⟨_, rfl⟩
  rw [← hna] at HA hla ⊢
  rw [← hnb] at HB hlb ⊢
  have HNA := hid hna
  have HNB := hid hnb
  clear ha hb hna hnb
  by_cases hne : na = nb
  · subst hne
    go_enter Tryz.func16, Tryz.ntmps16
    go_wp2
    go_loopw [5] (fun i wr => ∃ k : Nat, k ≤ na ∧ i = .int .i64 k ∧ Ext w wr ∧ Hid (xs.take k = ys.take k)) (fun i _ => na - (intOf i).toNat)
    case atStart => exact ⟨0, Nat.zero_le _, rfl, Ext.refl _, rfl⟩
    case round =>
      obtain ⟨k, hk, rfl, hx, HE⟩ := hrel
      have HX := hid hx
      by_cases hlt : k < na
      · obtain ⟨x, hxk⟩ := some_of_lt (l := xs) (j := k) (by rw [← HNA.out]; exact hlt)
        obtain ⟨y, hyk⟩ := some_of_lt (l := ys) (j := k) (by rw [← HNB.out]; exact hlt)
        obtain ⟨b1, o1, v1, v2, rfl, -, hc1, hm1, hz1, h1, h2, h3, h4, h5⟩ := (HA.out.ext hx hS).cellAt hxk
        obtain ⟨b2, o2, v3, v4, rfl, -, hc2, hm2, hz2, g1, g2, g3, g4, g5⟩ := (HB.out.ext hx hS).cellAt hyk
        have HXK := hid hxk
        have HYK := hid hyk
        obtain ⟨⟨xn, xm⟩, xo⟩ := x
        obtain ⟨⟨yn, ym⟩, yo⟩ := y
        simp only at h1 h2 h3 h4 h5 g1 g2 g3 g4 g5
        have hSr := lt_ext hS hx
        have C4 := fun Y : Later wr => rsame04 (S := S) v1 v3 xn yn xm ym Y.w' (h4.ext Y.h hSr) (g4.ext Y.h hSr) (lt_ext hSr Y.h)
        have C7 := fun Y : Later wr => rsame07 (S := S) v2 v4 xo yo Y.w' (h5.ext Y.h hSr) (g5.ext Y.h hSr) (lt_ext hSr Y.h)
        have L1 := fun Y : Later wr => Y.h.cell h1
        have L2 := fun Y : Later wr => Y.h.cell h2
        have L3 := fun Y : Later wr => Y.h.cell h3
        have M1 := fun Y : Later wr => Y.h.cell g1
        have M2 := fun Y : Later wr => Y.h.cell g2
        have M3 := fun Y : Later wr => Y.h.cell g3
        obtain ⟨a1, c1, rfl⟩ := h4.form
        obtain ⟨a2, c2, rfl⟩ := h5.form
        obtain ⟨a3, c3, rfl⟩ := g4.form
        obtain ⟨a4, c4, rfl⟩ := g5.form
        have hlen : Hid (xs.length = na ∧ ys.length = na) := hid ⟨HNA.out.symm, HNB.out.symm⟩
        have q1 : (k : Int) < (na : Int) := by omega
        clear h1 h2 h3 h4 h5 g1 g2 g3 g4 g5 hxk hyk hx hSr
        cases hd4 : (decide (xn = yn) && decide (xm = ym)) with
        | false =>
          have HF : Hid (xs ≠ ys) := hid (ne_of_at HXK.out HYK.out (fun e => by
            simp at e
            obtain ⟨⟨e1, e2⟩, e3⟩ := e
            rw [e1, e2] at hd4
            simp at hd4))
          simp only [hd4] at C4
          have HC4 := hid C4
          have HC7 := hid C7
          clear C4 C7 hd4
          go_wp2
          refine wp_region_later (by kernel_rfl) (by kernel_rfl) ?_
          repeat (go_big_quiet_step (first | (go_at_call 55; exact Later.done (HC4.out _))))
          refine wpQuiet_nil ?_
          intro W2 hW2
          have HW2 := hid (HX.out.trans hW2)
          clear L1 L2 L3 M1 M2 M3 hW2
          go_wp2
          go_ret
          exact ⟨by rw [decide_eq_false HF.out]; rfl, HW2.out⟩
        | true =>
          have HE4 := hid hd4
          simp only [hd4] at C4
          have HC4 := hid C4
          clear C4 hd4
          cases hd7 : decide (xo = yo) with
          | false =>
            have HF : Hid (xs ≠ ys) := hid (ne_of_at HXK.out HYK.out (fun e => by
              simp at e
              obtain ⟨⟨e1, e2⟩, e3⟩ := e
              rw [e3] at hd7
              simp at hd7))
            simp only [hd7] at C7
            have HC7 := hid C7
            clear C7 hd7
            go_wp2
            refine wp_region_later (by kernel_rfl) (by kernel_rfl) ?_
            repeat (go_big_quiet_step (first | (go_at_call 55; exact Later.done (HC4.out _)) | (go_at_call 56; exact Later.done (HC7.out _))))
            refine wpQuiet_nil ?_
            intro W2 hW2
            have HW2 := hid (HX.out.trans hW2)
            clear L1 L2 L3 M1 M2 M3 hW2
            go_wp2
            go_ret
            exact ⟨by rw [decide_eq_false HF.out]; rfl, HW2.out⟩
          | true =>
            have HF : Hid (xs.take (k + 1) = ys.take (k + 1)) := hid (take_eq_succ HE.out HXK.out (by
              have h4 := HE4.out
              simp at h4 hd7
              rw [h4.1, h4.2, hd7]
              exact HYK.out))
            simp only [hd7] at C7
            have HC7 := hid C7
            clear C7 hd7
            go_wp2
            refine wp_region_later (by kernel_rfl) (by kernel_rfl) ?_
            repeat (go_big_quiet_step (first | (go_at_call 55; exact Later.done (HC4.out _)) | (go_at_call 56; exact Later.done (HC7.out _))))
            refine wpQuiet_nil ?_
            intro W2 hW2
            have HW2 := hid (HX.out.trans hW2)
            clear L1 L2 L3 M1 M2 M3 hW2
            go_wp2
            go_roundw
            case rel => exact ⟨k + 1, by omega, by go_num, HW2.out, HF⟩
            case measure => simp only [intOf]; omega
      · obtain rfl : k = na := by omega
        have HF : Hid (xs = ys) := hid (by have := HE.out; rwa [List.take_of_length_le (by rw [← HNA.out]; exact Nat.le_refl _), List.take_of_length_le (by rw [← HNB.out]; exact Nat.le_refl _)] at this)
        clear hx
        go_wp2
        go_ret
        exact ⟨by rw [decide_eq_true HF.out]; rfl, HX.out⟩
  · have hb : ((na : Int) != (nb : Int)) = true := by rw [bne_iff_ne]; omega
    have HF : Hid (xs ≠ ys) := hid (fun e => hne (by rw [HNA.out, HNB.out, e]))
    clear hne
    go_enter Tryz.func16, Tryz.ntmps16
    go_wp2
    go_ret
    exact ⟨by rw [decide_eq_false HF.out]; rfl, Ext.refl _⟩
end Go.Proofs.YthplgldclilccaaGreat

namespace Go.Proofs.YthplgldclilccaaGreat
open Go.RowKit

def tinyP (p : PZ) : Bool := decide (p.length ≤ 10) && p.all fun t => decide (t.1.natAbs ≤ 100) && mayM t.2
theorem tiny_bnd {p : PZ} (h : tinyP p = true) : bndP p 10 100 := by
  unfold tinyP at h
  simp only [Bool.and_eq_true, decide_eq_true_eq, List.all_eq_true] at h
  exact ⟨h.1, fun t ht => (h.2 t ht).1⟩
theorem tiny_may {p : PZ} (h : tinyP p = true) : mayAll p := by
  unfold tinyP at h
  simp only [Bool.and_eq_true, decide_eq_true_eq, List.all_eq_true] at h
  exact fun t ht => (h.2 t ht).2
theorem tiny_sz {p : PZ} (h : tinyP p = true) : szP p := sz_of_bnd (tiny_bnd h) (n := 3) (by omega) (by decide) (by omega)
theorem tiny_add {p q : PZ} (hp : tinyP p = true) (hq : tinyP q = true) (k : Nat) (_ : k ≤ q.length) : szP (addP p (q.take k)) := by
  have h1 := addP_bnd (l := q.take k) (N := 100) (tiny_bnd hp) (fun t ht => (tiny_bnd hq).2 t (List.mem_of_mem_take ht))
  have h2 : (q.take k).length ≤ 10 := Nat.le_trans (by rw [List.length_take]; omega) (tiny_bnd hq).1
  refine sz_of_bnd h1 (n := 5) (by omega) ?_ (by omega)
  have : (q.take k).length * 100 ≤ 10 * 100 := Nat.mul_le_mul_right _ h2
  omega
theorem tiny_mul {p q : PZ} (hp : tinyP p = true) (hq : tinyP q = true) : szM p q := by
  obtain ⟨a1, a2⟩ := tiny_bnd hp
  obtain ⟨b1, b2⟩ := tiny_bnd hq
  have h1 : p.length * q.length ≤ 10 * 10 := Nat.mul_le_mul a1 b1
  refine ⟨10000, 7, fun t ht u hu => ?_, by omega, ?_, by omega⟩
  · rw [Int.natAbs_mul]
    exact Nat.mul_le_mul (a2 t ht) (b2 u hu)
  · have : p.length * q.length * 10000 ≤ 100 * 10000 := Nat.mul_le_mul_right _ h1
    omega
theorem tiny_small {p : PZ} (h : tinyP p = true) : smallT (ofP p) := fun t ht => by
  obtain ⟨u, hu, rfl⟩ := List.mem_map.1 ht
  have h1 := (tiny_bnd h).2 u hu
  show (ofI u.1).mag.length ≤ _
  rw [ofI_len]
  exact Nat.le_trans (lenI_lt (k := 1) (by show u.1.natAbs < 4294967296 ^ 1; omega)) (by omega)
theorem tiny_lens {p : PZ} (h : tinyP p = true) : ∀ t ∈ ofP p, t.c.mag.length ≤ 1 := fun t ht => by
  obtain ⟨u, hu, rfl⟩ := List.mem_map.1 ht
  have h1 := (tiny_bnd h).2 u hu
  show (ofI u.1).mag.length ≤ _
  rw [ofI_len]
  exact lenI_lt (k := 1) (by show u.1.natAbs < 4294967296 ^ 1; omega)
abbrev k9X : PZ := [(1, [(1, 1)])]
abbrev k9Y : PZ := [(1, [(2, 1)])]
abbrev k9A : PZ := [(1, [(1, 1)]), (3, [])]
abbrev k9YY : PZ := [(1, [(2, 2)])]
abbrev k9B : PZ := [(1, [(1, 1), (2, 2)]), (3, [(2, 2)])]
abbrev k9C : PZ := [(5, [(1, 1)])]
abbrev k9P : PZ := [(1, [(1, 1), (2, 2)]), (3, [(2, 2)]), (5, [(1, 1)])]
abbrev k97 : PZ := [(7, [])]
theorem k9_3 : numP 3 = [(3, [])] := by kernel_rfl
theorem k9_5 : numP 5 = [(5, [])] := by kernel_rfl
theorem k9_7 : numP 7 = k97 := by kernel_rfl
theorem k9_a : addP k9X [(3, [])] = k9A := by kernel_rfl
theorem k9_yy : timesV (timesP k9Y k9Y) = k9YY := by kernel_rfl
theorem k9_b : timesV (timesP k9A k9YY) = k9B := by kernel_rfl
theorem k9_c : timesV (timesP [(5, [])] k9X) = k9C := by kernel_rfl
theorem k9_p : addP k9B k9C = k9P := by kernel_rfl
theorem k9P_can : canP k9P := by
  rw [← k9_p]
  refine (addP_can (p := k9B) ?_ (tiny_may (by kernel_rfl))).1
  exact ⟨fun t ht => by simp at ht; rcases ht with rfl | rfl <;> exact ⟨by decide, by kernel_rfl⟩, by simp; kernel_rfl⟩
theorem k97_can : canP k97 := ⟨fun t ht => by simp at ht; subst ht; exact ⟨by decide, by kernel_rfl⟩, List.pairwise_singleton _ _⟩
theorem k9_i : initP k9P = k9A := by kernel_rfl
theorem k9_t : (ofP (tailP k9P)).length = 1 := by kernel_rfl
theorem k9_d : (ofP (derP k9P 2)).length = 2 := by kernel_rfl
theorem k9_l : leadP k9P = 2 := by kernel_rfl
theorem k9_l7 : leadP k97 = 0 := by kernel_rfl

set_option maxRecDepth 100000 in
set_option maxHeartbeats 8000000 in
theorem law09_known (w : World) :
    Calls Tryz.prog 19 #[] w fun e w' => e = .returned (.bool true) ∧ Ext w w' := by
  have hnot : ∀ (x : Bool) (w : World), (Op.unary .not (.bool x)).run Tryz.prog w = .ok (.bool (!x)) w := fun _ _ => rfl
  have PC := plainP_ofP k9P_can
  have P7 := plainP_ofP k97_can
  have HPC := hid PC
  have HP7 := hid P7
  clear PC P7
  go_enter Tryz.func19, Tryz.ntmps19
  have HX0 := hid (Ext.refl w)
  go_wp2_with fail
  refine (rpoly_x 1 w (by unfold inI64; omega)).mono ?_
  rintro e w1 ⟨v1, rfl, hp1, hx1⟩
  have HX1 := hid (HX0.out.trans hx1)
  have HJ1 := hid (RTs.old hp1 New.lt)
  obtain ⟨a1, c1, rfl⟩ := hp1.form
  clear hx1 hp1
  go_wp2_with fail
  refine (rpoly_x 2 w1 (by unfold inI64; omega)).mono ?_
  rintro e w2 ⟨v2, rfl, hp2, hx2⟩
  have HX2 := hid (HX1.out.trans hx2)
  have HJ2 := hid (RTs.on HJ1.out hx2)
  have HY2 := hid (RTs.old hp2 New.lt)
  obtain ⟨a2, c2, rfl⟩ := hp2.form
  clear hx2 hp2
  go_wp2_with fail
  refine (rpoly_small 3 w2 (by omega)).mono ?_
  rw [k9_3]
  rintro e w3 ⟨v3, rfl, hp3, hx3⟩
  have HX3 := hid (HX2.out.trans hx3)
  have HJ3 := hid (RTs.on HJ2.out hx3)
  have HY3 := hid (RTs.on HY2.out hx3)
  have HS3 := hid (RTs.old hp3 New.lt)
  obtain ⟨a3, c3, rfl⟩ := hp3.form
  clear hx3 hp3
  go_wp2_with fail
  refine (rpoly_add (S := Old w3) _ _ k9X [(3, [])] w3 (fun _ h => h) HJ3.out HS3.out (tiny_may (by kernel_rfl)) (tiny_may (by kernel_rfl)) (tiny_sz (by kernel_rfl)) (tiny_add (by kernel_rfl) (by kernel_rfl))).mono ?_
  rw [k9_a]
  rintro e w4 ⟨v4, rfl, hp4, hx4⟩
  have HX4 := hid (HX3.out.trans hx4)
  have HJ4 := hid (RTs.on HJ3.out hx4)
  have HY4 := hid (RTs.on HY3.out hx4)
  have HA4 := hid (RTs.old hp4 (plus_lt (fun _ h => h) hx4))
  obtain ⟨a4, c4, rfl⟩ := hp4.form
  clear hx4 hp4
  go_wp2_with fail
  refine (rpoly_mul (S := Old w4) _ _ k9Y k9Y w4 (fun _ h => h) HY4.out HY4.out (tiny_may (by kernel_rfl)) (tiny_may (by kernel_rfl)) (tiny_sz (by kernel_rfl)) (tiny_sz (by kernel_rfl)) (tiny_mul (by kernel_rfl) (by kernel_rfl))).mono ?_
  rw [k9_yy]
  rintro e w5 ⟨v5, rfl, hp5, hx5⟩
  have HX5 := hid (HX4.out.trans hx5)
  have HJ5 := hid (RTs.on HJ4.out hx5)
  have HA5 := hid (RTs.on HA4.out hx5)
  have HQ5 := hid (RTs.old hp5 (plus_lt (fun _ h => h) hx5))
  obtain ⟨a5, c5, rfl⟩ := hp5.form
  clear hx5 hp5
  go_wp2_with fail
  refine (rpoly_mul (S := Old w5) _ _ k9A k9YY w5 (fun _ h => h) HA5.out HQ5.out (tiny_may (by kernel_rfl)) (tiny_may (by kernel_rfl)) (tiny_sz (by kernel_rfl)) (tiny_sz (by kernel_rfl)) (tiny_mul (by kernel_rfl) (by kernel_rfl))).mono ?_
  rw [k9_b]
  rintro e w6 ⟨v6, rfl, hp6, hx6⟩
  have HX6 := hid (HX5.out.trans hx6)
  have HJ6 := hid (RTs.on HJ5.out hx6)
  have HB6 := hid (RTs.old hp6 (plus_lt (fun _ h => h) hx6))
  obtain ⟨a6, c6, rfl⟩ := hp6.form
  clear hx6 hp6
  go_wp2_with fail
  refine (rpoly_small 5 w6 (by omega)).mono ?_
  rw [k9_5]
  rintro e w7 ⟨v7, rfl, hp7, hx7⟩
  have HX7 := hid (HX6.out.trans hx7)
  have HJ7 := hid (RTs.on HJ6.out hx7)
  have HB7 := hid (RTs.on HB6.out hx7)
  have HF7 := hid (RTs.old hp7 New.lt)
  obtain ⟨a7, c7, rfl⟩ := hp7.form
  clear hx7 hp7
  go_wp2_with fail
  refine (rpoly_mul (S := Old w7) _ _ [(5, [])] k9X w7 (fun _ h => h) HF7.out HJ7.out (tiny_may (by kernel_rfl)) (tiny_may (by kernel_rfl)) (tiny_sz (by kernel_rfl)) (tiny_sz (by kernel_rfl)) (tiny_mul (by kernel_rfl) (by kernel_rfl))).mono ?_
  rw [k9_c]
  rintro e w8 ⟨v8, rfl, hp8, hx8⟩
  have HX8 := hid (HX7.out.trans hx8)
  have HJ8 := hid (RTs.on HJ7.out hx8)
  have HB8 := hid (RTs.on HB7.out hx8)
  have HC8 := hid (RTs.old hp8 (plus_lt (fun _ h => h) hx8))
  obtain ⟨a8, c8, rfl⟩ := hp8.form
  clear hx8 hp8
  go_wp2_with fail
  refine (rpoly_add (S := Old w8) _ _ k9B k9C w8 (fun _ h => h) HB8.out HC8.out (tiny_may (by kernel_rfl)) (tiny_may (by kernel_rfl)) (tiny_sz (by kernel_rfl)) (tiny_add (by kernel_rfl) (by kernel_rfl))).mono ?_
  rw [k9_p]
  rintro e w9 ⟨v9, rfl, hp9, hx9⟩
  have HX9 := hid (HX8.out.trans hx9)
  have HJ9 := hid (RTs.on HJ8.out hx9)
  have HP9 := hid (RTs.old hp9 (plus_lt (fun _ h => h) hx9))
  obtain ⟨a9, c9, rfl⟩ := hp9.form
  clear hx9 hp9
  go_wp2_with fail
  refine (rpoly_poly (S := Old w9) _ k9P w9 HP9.out (fun _ h => h) (tiny_sz (by kernel_rfl)) (kn_len (tiny_may (by kernel_rfl)))).mono ?_
  rintro e w10 ⟨v10, rfl, hp10, hx10⟩
  have HX10 := hid (HX9.out.trans hx10)
  have HJ10 := hid (RTs.on HJ9.out hx10)
  have HP10 := hid (RTs.on HP9.out hx10)
  have HG10 := hid (Terms.old hp10 New.lt)
  obtain ⟨a10, c10, rfl⟩ := hp10.form
  clear hx10 hp10
  go_wp2_with fail
  refine (view_initial _ (ofP k9P) _ HG10.out (fun _ h => h) (tiny_small (by kernel_rfl)) (by decide)).mono ?_
  rw [HPC.out, k9_i]
  rintro e w11 ⟨v11, rfl, hp11, hx11⟩
  have HX11 := hid (HX10.out.trans hx11)
  have HJ11 := hid (RTs.on HJ10.out hx11)
  have HP11 := hid (RTs.on HP10.out hx11)
  have HI11 := hid (Terms.old hp11 New.lt)
  obtain ⟨a11, c11, rfl⟩ := hp11.form
  clear hx11 hp11
  go_wp2_with fail
  refine (rpoly_poly (S := Old w11) _ k9P w11 HP11.out (fun _ h => h) (tiny_sz (by kernel_rfl)) (kn_len (tiny_may (by kernel_rfl)))).mono ?_
  rintro e w12 ⟨v12, rfl, hp12, hx12⟩
  have HX12 := hid (HX11.out.trans hx12)
  have HJ12 := hid (RTs.on HJ11.out hx12)
  have HP12 := hid (RTs.on HP11.out hx12)
  have HI12 := hid (Terms.on HI11.out hx12)
  have HG12 := hid (Terms.old hp12 New.lt)
  obtain ⟨a12, c12, rfl⟩ := hp12.form
  clear hx12 hp12
  go_wp2_with fail
  refine (view_class _ (ofP k9P) _ HG12.out (fun _ h => h) (tiny_small (by kernel_rfl))).mono ?_
  rw [HPC.out, k9_l]
  rintro e w13 ⟨rfl, hx13⟩
  have HX13 := hid (HX12.out.trans hx13)
  have HJ13 := hid (RTs.on HJ12.out hx13)
  have HP13 := hid (RTs.on HP12.out hx13)
  have HI13 := hid (Terms.on HI12.out hx13)
  clear hx13
  go_wp2_with fail
  refine (rpoly_small 3 w13 (by omega)).mono ?_
  rw [k9_3]
  rintro e w14 ⟨v14, rfl, hp14, hx14⟩
  have HX14 := hid (HX13.out.trans hx14)
  have HJ14 := hid (RTs.on HJ13.out hx14)
  have HP14 := hid (RTs.on HP13.out hx14)
  have HI14 := hid (Terms.on HI13.out hx14)
  have HS14 := hid (RTs.old hp14 New.lt)
  obtain ⟨a14, c14, rfl⟩ := hp14.form
  clear hx14 hp14
  go_wp2_with fail
  refine (rpoly_add (S := Old w14) _ _ k9X [(3, [])] w14 (fun _ h => h) HJ14.out HS14.out (tiny_may (by kernel_rfl)) (tiny_may (by kernel_rfl)) (tiny_sz (by kernel_rfl)) (tiny_add (by kernel_rfl) (by kernel_rfl))).mono ?_
  rw [k9_a]
  rintro e w15 ⟨v15, rfl, hp15, hx15⟩
  have HX15 := hid (HX14.out.trans hx15)
  have HP15 := hid (RTs.on HP14.out hx15)
  have HI15 := hid (Terms.on HI14.out hx15)
  have HA15 := hid (RTs.old hp15 (plus_lt (fun _ h => h) hx15))
  obtain ⟨a15, c15, rfl⟩ := hp15.form
  clear hx15 hp15
  go_wp2_with fail
  refine (rpoly_poly (S := Old w15) _ k9A w15 HA15.out (fun _ h => h) (tiny_sz (by kernel_rfl)) (kn_len (tiny_may (by kernel_rfl)))).mono ?_
  rintro e w16 ⟨v16, rfl, hp16, hx16⟩
  have HX16 := hid (HX15.out.trans hx16)
  have HP16 := hid (RTs.on HP15.out hx16)
  have HI16 := hid (Terms.on HI15.out hx16)
  have HG16 := hid (Terms.old hp16 New.lt)
  obtain ⟨a16, c16, rfl⟩ := hp16.form
  clear hx16 hp16
  go_wp2_with fail
  refine (rpoly_same _ _ (ofP k9A) (ofP k9A) _ HI16.out HG16.out (fun _ h => h)).mono ?_
  rw [show decide (ofP k9A = ofP k9A) = true from decide_eq_true rfl]
  rintro e w17 ⟨rfl, hx17⟩
  have HX17 := hid (HX16.out.trans hx17)
  have HP17 := hid (RTs.on HP16.out hx17)
  clear hx17
  go_wp2_with fail
  refine (rpoly_poly (S := Old w17) _ k9P w17 HP17.out (fun _ h => h) (tiny_sz (by kernel_rfl)) (kn_len (tiny_may (by kernel_rfl)))).mono ?_
  rintro e w18 ⟨v18, rfl, hp18, hx18⟩
  have HX18 := hid (HX17.out.trans hx18)
  have HP18 := hid (RTs.on HP17.out hx18)
  have HG18 := hid (Terms.old hp18 New.lt)
  obtain ⟨a18, c18, rfl⟩ := hp18.form
  clear hx18 hp18
  go_wp2_with fail
  refine (view_tail _ (ofP k9P) _ HG18.out (fun _ h => h) (tiny_small (by kernel_rfl)) (by decide)).mono ?_
  rw [HPC.out]
  rintro e w19 ⟨v19, rfl, hp19, hx19⟩
  have HX19 := hid (HX18.out.trans hx19)
  have HP19 := hid (RTs.on HP18.out hx19)
  have HU19 := hid (Terms.old hp19 New.lt)
  obtain ⟨a19, c19, rfl⟩ := hp19.form
  clear hx19 hp19
  rw [k9_t]
  go_wp2_with fail
  refine (rpoly_poly (S := Old w19) _ k9P w19 HP19.out (fun _ h => h) (tiny_sz (by kernel_rfl)) (kn_len (tiny_may (by kernel_rfl)))).mono ?_
  rintro e w20 ⟨v20, rfl, hp20, hx20⟩
  have HX20 := hid (HX19.out.trans hx20)
  have HG20 := hid (Terms.old hp20 New.lt)
  obtain ⟨a20, c20, rfl⟩ := hp20.form
  clear hx20 hp20
  go_wp2_with fail
  refine (view_derive _ (ofP k9P) 2 _ 1 HG20.out (fun _ h => h) (tiny_lens (by kernel_rfl)) (by omega) (by decide) (by unfold inI64; omega)).mono ?_
  rw [HPC.out]
  rintro e w21 ⟨v21, rfl, hp21, hx21⟩
  have HX21 := hid (HX20.out.trans hx21)
  have HU21 := hid (Terms.old hp21 New.lt)
  obtain ⟨a21, c21, rfl⟩ := hp21.form
  clear hx21 hp21
  rw [k9_d]
  go_wp2_with fail
  refine (rpoly_small 7 w21 (by omega)).mono ?_
  rw [k9_7]
  rintro e w22 ⟨v22, rfl, hp22, hx22⟩
  have HX22 := hid (HX21.out.trans hx22)
  have HZ22 := hid (RTs.old hp22 New.lt)
  obtain ⟨a22, c22, rfl⟩ := hp22.form
  clear hx22 hp22
  go_wp2_with fail
  refine (rpoly_poly (S := Old w22) _ k97 w22 HZ22.out (fun _ h => h) (tiny_sz (by kernel_rfl)) (kn_len (tiny_may (by kernel_rfl)))).mono ?_
  rintro e w23 ⟨v23, rfl, hp23, hx23⟩
  have HX23 := hid (HX22.out.trans hx23)
  have HG23 := hid (Terms.old hp23 New.lt)
  obtain ⟨a23, c23, rfl⟩ := hp23.form
  clear hx23 hp23
  go_wp2_with fail
  refine (view_class _ (ofP k97) _ HG23.out (fun _ h => h) (tiny_small (by kernel_rfl))).mono ?_
  rw [HP7.out, k9_l7]
  rintro e w24 ⟨rfl, hx24⟩
  have HX24 := hid (HX23.out.trans hx24)
  clear hx24
  go_wp2
  all_goals
    go_ret
    exact ⟨rfl, HX24.out⟩
end Go.Proofs.YthplgldclilccaaGreat

namespace Go.Proofs.YthplgldclilccaaGreat
open Go.RowKit

set_option maxRecDepth 100000 in
set_option maxHeartbeats 8000000 in
theorem law_products (vp vq : Value) (ps qs : List RTerm) (x : Int) (w : World) (hp : Terms (Old w) w vp ps) (hq : Terms (Old w) w vq qs) (hx : inI64 x) :
    Calls Tryz.prog 5 #[vp, vq, .int .i64 x] w fun e w' => e = .returned (.bool true) ∧ Ext w w' := by
  have hnot : ∀ (x : Bool) (w : World), (Op.unary .not (.bool x)).run Tryz.prog w = .ok (.bool (!x)) w := fun _ _ => rfl
  have HX0 := hid (Ext.refl w)
  have HXI := hid hx
  have CG := rpoly_great vp ps 8 w hp (fun _ h => h) (by omega)
  have CH := fun (W : World) (hW : Ext w W) => rpoly_great vq qs 8 W (hq.on hW) (fun _ h => h) (by omega)
  unfold inI64 at hx
  obtain ⟨hxl, hxu⟩ := hx
  cases hg : greatT 8 ps with
  | true =>
    rw [hg] at CG
    obtain ⟨ap, cp, rfl⟩ := hp.form
    obtain ⟨aq, cq, rfl⟩ := hq.form
    have HCG := hid CG
    clear CG CH hg hp hq
    go_enter Tryz.func5, Tryz.ntmps5
    go_wp2_with fail
    with_reducible refine (HCG.out).mono ?_
    rintro e w1 ⟨rfl, hx1⟩
    have HX1 := hid (HX0.out.trans hx1)
    clear hx1
    go_wp2_with fail
    with_reducible refine (law09_known w1).mono ?_
    rintro e w2 ⟨rfl, hx2⟩
    have HX2 := hid (HX1.out.trans hx2)
    clear hx2
    go_wp2
    all_goals
      go_ret
      exact ⟨rfl, HX2.out⟩
  | false =>
    rw [hg] at CG
    have HFP := hid (great_fit (n := 8) hg)
    clear hg
    cases hg : greatT 8 qs with
    | true =>
      simp only [hg] at CH
      obtain ⟨ap, cp, rfl⟩ := hp.form
      obtain ⟨aq, cq, rfl⟩ := hq.form
      have HCG := hid CG
      have HCH := hid CH
      clear CG CH hg hp hq
      go_enter Tryz.func5, Tryz.ntmps5
      go_wp2_with fail
      with_reducible refine (HCG.out).mono ?_
      rintro e w1 ⟨rfl, hx1⟩
      have HX1 := hid (HX0.out.trans hx1)
      clear hx1
      go_wp2_with fail
      with_reducible refine (HCH.out _ HX1.out).mono ?_
      rintro e w2 ⟨rfl, hx2⟩
      have HX2 := hid (HX1.out.trans hx2)
      clear hx2
      go_wp2_with fail
      with_reducible refine (law09_known w2).mono ?_
      rintro e w3 ⟨rfl, hx3⟩
      have HX3 := hid (HX2.out.trans hx3)
      clear hx3
      go_wp2
      all_goals
        go_ret
        exact ⟨rfl, HX3.out⟩
    | false =>
      simp only [hg] at CH
      have HFQ := hid (great_fit (n := 8) hg)
      clear hg
      by_cases hp0 : ps.length = 0
      · obtain ⟨ap, cp, rfl⟩ := hp.form
        obtain ⟨aq, cq, rfl⟩ := hq.form
        rw [hp0] at CG ⊢
        have HCG := hid CG
        have HCH := hid CH
        clear CG CH hp hq hp0
        go_enter Tryz.func5, Tryz.ntmps5
        go_wp2_with fail
        with_reducible refine (HCG.out).mono ?_
        rintro e w1 ⟨rfl, hx1⟩
        have HX1 := hid (HX0.out.trans hx1)
        clear hx1
        go_wp2_with fail
        with_reducible refine (HCH.out _ HX1.out).mono ?_
        rintro e w2 ⟨rfl, hx2⟩
        have HX2 := hid (HX1.out.trans hx2)
        clear hx2
        go_wp2_with fail
        with_reducible refine (law09_known w2).mono ?_
        rintro e w3 ⟨rfl, hx3⟩
        have HX3 := hid (HX2.out.trans hx3)
        clear hx3
        go_wp2
        all_goals
          go_ret
          exact ⟨rfl, HX3.out⟩
      · by_cases hq0 : qs.length = 0
        · obtain ⟨ap, cp, rfl⟩ := hp.form
          obtain ⟨aq, cq, rfl⟩ := hq.form
          obtain ⟨np, hnp⟩ : ∃ n, n = ps.length := ⟨_, rfl⟩
          rw [← hnp] at CG hp0 ⊢
          rw [hq0] at CH ⊢
          have q0 : ((np : Int) == 0) = false := by rw [beq_eq_false_iff_ne]; omega
          have HCG := hid CG
          have HCH := hid CH
          clear CG CH hp hq hp0 hq0 hnp
          go_enter Tryz.func5, Tryz.ntmps5
          go_wp2_with fail
          with_reducible refine (HCG.out).mono ?_
          rintro e w1 ⟨rfl, hx1⟩
          have HX1 := hid (HX0.out.trans hx1)
          clear hx1
          go_wp2_with fail
          with_reducible refine (HCH.out _ HX1.out).mono ?_
          rintro e w2 ⟨rfl, hx2⟩
          have HX2 := hid (HX1.out.trans hx2)
          clear hx2
          go_wp2_with fail
          with_reducible refine (law09_known w2).mono ?_
          rintro e w3 ⟨rfl, hx3⟩
          have HX3 := hid (HX2.out.trans hx3)
          clear hx3
          go_wp2
          all_goals
            go_ret
            exact ⟨rfl, HX3.out⟩
        · have hsp : smallT ps := fun t ht => Nat.le_trans (HFP.out.2 t ht).1 (by decide)
          have hsq : smallT qs := fun t ht => Nat.le_trans (HFQ.out.2 t ht).1 (by decide)
          have key : (∃ c : Int, (c = 2 ∨ c = 8) ∧ ∀ W, Ext w W → Calls Tryz.prog 33 #[vp, vq] W (ErrPoly W c)) ∨ ∃ P Q C, ps = ofP P ∧ qs = ofP Q ∧ Fit 20 8 P ∧ Fit 20 8 Q ∧ timesP P Q = some C := by
            cases hm : (mayT ps && mayT qs) with
            | false => exact .inl ⟨2, .inl rfl, fun W hW => poly_times_no vp vq ps qs W (hp.on hW) (hq.on hW) (fun _ h => h) hm hsp hsq⟩
            | true =>
              simp only [Bool.and_eq_true] at hm
              have e1 := pv_of hp hm.1
              have e2 := pv_of hq hm.2
              have f1 := fit_plain (k := 20) (n := 8) hp.okT (fun t ht => (HFP.out.2 t ht).1) HFP.out.1
              have f2 := fit_plain (k := 20) (n := 8) hq.okT (fun t ht => (HFQ.out.2 t ht).1) HFQ.out.1
              cases hc : timesP (plainP ps) (plainP qs) with
              | none =>
                refine .inl ⟨8, .inr rfl, fun W hW => ?_⟩
                have h := z_times (u := vp) (v := vq) (W := W) (p := plainP ps) (q := plainP qs) (by rw [PV, ← e1]; exact hp.on hW) (by rw [PV, ← e2]; exact hq.on hW) f1 f2 (.inl (by decide)) (by decide) (by decide) (by decide)
                rwa [hc] at h
              | some C => exact .inr ⟨_, _, C, e1, e2, f1, f2, hc⟩
          rcases key with ⟨c, hc, CT⟩ | ⟨P, Q, C, rfl, rfl, fP, fQ, hC⟩
          · obtain ⟨ap, cp, rfl⟩ := hp.form
            obtain ⟨aq, cq, rfl⟩ := hq.form
            obtain ⟨np, hnp⟩ : ∃ n, n = ps.length := ⟨_, rfl⟩
            obtain ⟨nq, hnq⟩ : ∃ n, n = qs.length := ⟨_, rfl⟩
            rw [← hnp, ← hnq] at CT
            rw [← hnp] at CG hp0 ⊢
            rw [← hnq] at CH hq0 ⊢
            have q0 : ((np : Int) == 0) = false := by rw [beq_eq_false_iff_ne]; omega
            have q1 : ((nq : Int) == 0) = false := by rw [beq_eq_false_iff_ne]; omega
            have q2 : (c != 0) = true := by rw [bne_iff_ne]; omega
            have HCG := hid CG
            have HCH := hid CH
            have HCT := hid CT
            clear CG CH CT hp hq hp0 hq0 hnp hnq hsp hsq hc
            go_enter Tryz.func5, Tryz.ntmps5
            go_wp2_with fail
            with_reducible refine (HCG.out).mono ?_
            rintro e w1 ⟨rfl, hx1⟩
            have HX1 := hid (HX0.out.trans hx1)
            clear hx1
            go_wp2_with fail
            with_reducible refine (HCH.out _ HX1.out).mono ?_
            rintro e w2 ⟨rfl, hx2⟩
            have HX2 := hid (HX1.out.trans hx2)
            clear hx2
            go_wp2_with fail
            with_reducible refine (HCT.out _ HX2.out).mono ?_
            rintro e w3 ⟨rfl, hx3⟩
            have HX3 := hid (HX2.out.trans hx3)
            clear hx3
            go_wp2_with fail
            with_reducible refine (law09_known w3).mono ?_
            rintro e w4 ⟨rfl, hx4⟩
            have HX4 := hid (HX3.out.trans hx4)
            clear hx4
            go_wp2
            all_goals
              go_ret
              exact ⟨rfl, HX4.out⟩
          · have cP := fP.can
            have cQ := fQ.can
            have hP0 : P ≠ [] := fun e => hp0 (by rw [e]; rfl)
            have hQ0 : Q ≠ [] := fun e => hq0 (by rw [e]; rfl)
            obtain ⟨I, hI, hIC⟩ := times_init cP cQ hP0 hQ0 hC
            obtain ⟨X, Y, hXX, hYY, hXY⟩ := times_der cP cQ hC x
            have hLC := times_lead cP cQ hP0 hQ0 hC
            have hDC := times_deg cP cQ hP0 hQ0 hC x
            have hSD := sum_der cP cQ x
            have fC := fP.times fQ hC (by decide)
            have fX := (fP.der x).times fQ hXX (by decide)
            have fY := fP.times (fQ.der x) hYY (by decide)
            have fS := fP.add fQ (by decide)
            have rP := leadP_range cP
            have rQ := leadP_range cQ
            have dP := degP_range cP.may x
            have dQ := degP_range cQ.may x
            have T0 := hid (fun (W : World) (u v : Value) (hu : PV W u P) (hv : PV W v Q) => z_times hu hv fP fQ (.inl (by decide)) (by decide) (by decide) (by decide))
            have T1 := hid (fun (W : World) (u v : Value) (hu : PV W u (initP P)) (hv : PV W v (initP Q)) => z_times hu hv fP.init fQ.init (.inl (by decide)) (by decide) (by decide) (by decide))
            have T2 := hid (fun (W : World) (u v : Value) (hu : PV W u (derP P x)) (hv : PV W v Q) => z_times hu hv (fP.der x) fQ (.inl (by decide)) (by decide) (by decide) (by decide))
            have T3 := hid (fun (W : World) (u v : Value) (hu : PV W u P) (hv : PV W v (derP Q x)) => z_times hu hv fP (fQ.der x) (.inl (by decide)) (by decide) (by decide) (by decide))
            simp only [hC] at T0
            simp only [hI] at T1
            simp only [hXX] at T2
            simp only [hYY] at T3
            have A1 := hid (fun (W : World) (u : Value) (hu : PV W u P) => z_class hu fP (by decide))
            have A2 := hid (fun (W : World) (u : Value) (hu : PV W u Q) => z_class hu fQ (by decide))
            have A3 := hid (fun (W : World) (u : Value) (hu : PV W u P) => z_initial hu fP (by decide) (by decide))
            have A4 := hid (fun (W : World) (u : Value) (hu : PV W u Q) => z_initial hu fQ (by decide) (by decide))
            have A6 := hid (fun (W : World) (u : Value) (hu : PV W u C) => z_class hu fC (by decide))
            have A7 := hid (fun (W : World) (u : Value) (hu : PV W u C) => z_degree hu fC (by decide) HXI.out)
            have A8 := hid (fun (W : World) (u : Value) (hu : PV W u P) => z_degree hu fP (by decide) HXI.out)
            have A9 := hid (fun (W : World) (u : Value) (hu : PV W u Q) => z_degree hu fQ (by decide) HXI.out)
            have B1 := hid (fun (W : World) (u : Value) (hu : PV W u C) => z_initial hu fC (by decide) (by decide))
            have B2 := hid (fun (W : World) (u v : Value) (hu : PV W u (initP C)) (hv : PV W v (initP C)) => z_same hu hv)
            have B3 := hid (fun (W : World) (u : Value) (hu : PV W u P) => z_derive hu fP (by decide) (by decide) HXI.out)
            have B4 := hid (fun (W : World) (u : Value) (hu : PV W u Q) => z_derive hu fQ (by decide) (by decide) HXI.out)
            have B5 := hid (fun (W : World) (u v : Value) (hu : PV W u X) (hv : PV W v Y) => z_add hu hv (fX.mono (l := 100) (m := 64) (by decide) (by decide)) (fY.mono (l := 100) (m := 64) (by decide) (by decide)) (by decide) (by decide) (by decide))
            have B6 := hid (fun (W : World) (u v : Value) (hu : PV W u P) (hv : PV W v Q) => z_add hu hv fP fQ (by decide) (by decide) (by decide))
            have B7 := hid (fun (W : World) (u v : Value) (hu : PV W u (derP P x)) (hv : PV W v (derP Q x)) => z_add hu hv (fP.der x) (fQ.der x) (by decide) (by decide) (by decide))
            have B8 := hid (fun (W : World) (u : Value) (hu : PV W u C) => z_derive hu fC (by decide) (by decide) HXI.out)
            have B9 := hid (fun (W : World) (u v : Value) (hu : PV W u (derP C x)) (hv : PV W v (derP C x)) => z_same hu hv)
            have D1 := hid (fun (W : World) (u : Value) (hu : PV W u (normP (P ++ Q))) => z_derive hu fS (by decide) (by decide) HXI.out)
            have D2 := hid (fun (W : World) (u v : Value) (hu : PV W u (derP (normP (P ++ Q)) x)) (hv : PV W v (derP (normP (P ++ Q)) x)) => z_same hu hv)
            simp only [hLC] at A6
            simp only [hDC] at A7
            simp only [← hXY] at B5
            simp only [← hSD] at B7
            simp only [decide_true] at B2 B9 D2
            obtain ⟨S, hS⟩ : ∃ S, S = normP (P ++ Q) := ⟨_, rfl⟩
            rw [← hS] at B6 B7 D1 D2
            have HP := hid hp
            have HQ := hid hq
            obtain ⟨ap, cp, rfl⟩ := hp.form
            obtain ⟨aq, cq, rfl⟩ := hq.form
            obtain ⟨np, hnp⟩ : ∃ n, n = (ofP P).length := ⟨_, rfl⟩
            obtain ⟨nq, hnq⟩ : ∃ n, n = (ofP Q).length := ⟨_, rfl⟩
            rw [← hnp] at CG hp0 HP ⊢
            rw [← hnq] at CH hq0 HQ ⊢
            have q0 : ((np : Int) == 0) = false := by rw [beq_eq_false_iff_ne]; omega
            have q1 : ((nq : Int) == 0) = false := by rw [beq_eq_false_iff_ne]; omega
            have HCG := hid CG
            have HCH := hid CH
            have HIC := hid hIC
            clear CG CH hp hq hp0 hq0 hnp hnq hsp hsq cP cQ hP0 hQ0 hI hIC hXX hYY hXY hLC hDC hSD fC fX fY fS fP fQ hC hS
            generalize leadP P = a at *
            generalize leadP Q = b at *
            generalize degP P x = dp at *
            generalize degP Q x = dq at *
            have HP0 := HP
            have HQ0 := HQ
            go_enter Tryz.func5, Tryz.ntmps5
            go_wp2_with fail
            with_reducible refine (HCG.out).mono ?_
            rintro e w1 ⟨rfl, hx1⟩
            have HX1 := hid (HX0.out.trans hx1)
            have HP1 := hid (Terms.on HP0.out hx1)
            have HQ1 := hid (Terms.on HQ0.out hx1)
            clear hx1
            go_wp2_with fail
            with_reducible refine (HCH.out _ HX1.out).mono ?_
            rintro e w2 ⟨rfl, hx2⟩
            have HX2 := hid (HX1.out.trans hx2)
            have HP2 := hid (Terms.on HP1.out hx2)
            have HQ2 := hid (Terms.on HQ1.out hx2)
            clear hx2
            go_wp2_with fail
            with_reducible refine (T0.out _ _ _ HP2.out HQ2.out).mono ?_
            rintro e w3 ⟨v3, rfl, hp3, hx3⟩
            have HX3 := hid (HX2.out.trans hx3)
            have HP3 := hid (Terms.on HP2.out hx3)
            have HQ3 := hid (Terms.on HQ2.out hx3)
            have HC3 := hid (hp3.to (S' := Old w3) (Kept.refl _ _) New.lt)
            obtain ⟨a3, c3, rfl⟩ := hp3.form
            clear hx3 hp3
            go_wp2_with fail
            with_reducible refine (A1.out _ _ HP3.out).mono ?_
            rintro e w4 ⟨rfl, hx4⟩
            have HX4 := hid (HX3.out.trans hx4)
            have HP4 := hid (Terms.on HP3.out hx4)
            have HQ4 := hid (Terms.on HQ3.out hx4)
            have HC4 := hid (Terms.on HC3.out hx4)
            clear hx4
            go_wp2_with fail
            with_reducible refine (A2.out _ _ HQ4.out).mono ?_
            rintro e w5 ⟨rfl, hx5⟩
            have HX5 := hid (HX4.out.trans hx5)
            have HP5 := hid (Terms.on HP4.out hx5)
            have HQ5 := hid (Terms.on HQ4.out hx5)
            have HC5 := hid (Terms.on HC4.out hx5)
            clear hx5
            go_wp2_with fail
            with_reducible refine (A3.out _ _ HP5.out).mono ?_
            rintro e w6 ⟨v6, rfl, hp6, hx6⟩
            have HX6 := hid (HX5.out.trans hx6)
            have HP6 := hid (Terms.on HP5.out hx6)
            have HQ6 := hid (Terms.on HQ5.out hx6)
            have HC6 := hid (Terms.on HC5.out hx6)
            have HE6 := hid (hp6.to (S' := Old w6) (Kept.refl _ _) New.lt)
            obtain ⟨a6, c6, rfl⟩ := hp6.form
            clear hx6 hp6
            go_wp2_with fail
            with_reducible refine (A4.out _ _ HQ6.out).mono ?_
            rintro e w7 ⟨v7, rfl, hp7, hx7⟩
            have HX7 := hid (HX6.out.trans hx7)
            have HP7 := hid (Terms.on HP6.out hx7)
            have HQ7 := hid (Terms.on HQ6.out hx7)
            have HC7 := hid (Terms.on HC6.out hx7)
            have HE7 := hid (Terms.on HE6.out hx7)
            have HF7 := hid (hp7.to (S' := Old w7) (Kept.refl _ _) New.lt)
            obtain ⟨a7, c7, rfl⟩ := hp7.form
            clear hx7 hp7
            go_wp2_with fail
            with_reducible refine (T1.out _ _ _ HE7.out HF7.out).mono ?_
            rintro e w8 ⟨v8, rfl, hp8, hx8⟩
            have HX8 := hid (HX7.out.trans hx8)
            have HP8 := hid (Terms.on HP7.out hx8)
            have HQ8 := hid (Terms.on HQ7.out hx8)
            have HC8 := hid (Terms.on HC7.out hx8)
            have HI8 := hid (hp8.to (S' := Old w8) (Kept.refl _ _) New.lt)
            obtain ⟨a8, c8, rfl⟩ := hp8.form
            clear hx8 hp8
            have q2 : (max a b != max a b) = false := by simp
            have q3 : (dp + dq != dp + dq) = false := by simp
            go_wp2_with fail
            with_reducible refine (A6.out _ _ HC8.out).mono ?_
            rintro e w9 ⟨rfl, hx9⟩
            have HX9 := hid (HX8.out.trans hx9)
            have HP9 := hid (Terms.on HP8.out hx9)
            have HQ9 := hid (Terms.on HQ8.out hx9)
            have HC9 := hid (Terms.on HC8.out hx9)
            have HI9 := hid (Terms.on HI8.out hx9)
            clear hx9
            go_wp2_with fail
            with_reducible refine (A7.out _ _ HC9.out).mono ?_
            rintro e w10 ⟨rfl, hx10⟩
            have HX10 := hid (HX9.out.trans hx10)
            have HP10 := hid (Terms.on HP9.out hx10)
            have HQ10 := hid (Terms.on HQ9.out hx10)
            have HC10 := hid (Terms.on HC9.out hx10)
            have HI10 := hid (Terms.on HI9.out hx10)
            clear hx10
            go_wp2_with fail
            with_reducible refine (A8.out _ _ HP10.out).mono ?_
            rintro e w11 ⟨rfl, hx11⟩
            have HX11 := hid (HX10.out.trans hx11)
            have HP11 := hid (Terms.on HP10.out hx11)
            have HQ11 := hid (Terms.on HQ10.out hx11)
            have HC11 := hid (Terms.on HC10.out hx11)
            have HI11 := hid (Terms.on HI10.out hx11)
            clear hx11
            go_wp2_with fail
            with_reducible refine (A9.out _ _ HQ11.out).mono ?_
            rintro e w12 ⟨rfl, hx12⟩
            have HX12 := hid (HX11.out.trans hx12)
            have HP12 := hid (Terms.on HP11.out hx12)
            have HQ12 := hid (Terms.on HQ11.out hx12)
            have HC12 := hid (Terms.on HC11.out hx12)
            have HI12 := hid (Terms.on HI11.out hx12)
            clear hx12
            by_cases hab : a = b
            · have q4 : (a == b) = true := by rw [beq_iff_eq]; exact hab
              obtain rfl := HIC.out hab
              clear hab
              go_wp2_with fail
              with_reducible refine (B1.out _ _ HC12.out).mono ?_
              rintro e w13 ⟨v13, rfl, hp13, hx13⟩
              have HX13 := hid (HX12.out.trans hx13)
              have HP13 := hid (Terms.on HP12.out hx13)
              have HQ13 := hid (Terms.on HQ12.out hx13)
              have HC13 := hid (Terms.on HC12.out hx13)
              have HI13 := hid (Terms.on HI12.out hx13)
              have HU13 := hid (hp13.to (S' := Old w13) (Kept.refl _ _) New.lt)
              obtain ⟨a13, c13, rfl⟩ := hp13.form
              clear hx13 hp13
              go_wp2_with fail
              with_reducible refine (B2.out _ _ _ HU13.out HI13.out).mono ?_
              rintro e w14 ⟨rfl, hx14⟩
              have HX14 := hid (HX13.out.trans hx14)
              have HP14 := hid (Terms.on HP13.out hx14)
              have HQ14 := hid (Terms.on HQ13.out hx14)
              have HC14 := hid (Terms.on HC13.out hx14)
              clear hx14
              go_wp2_with fail
              with_reducible refine (B3.out _ _ HP14.out).mono ?_
              rintro e w15 ⟨v15, rfl, hp15, hx15⟩
              have HX15 := hid (HX14.out.trans hx15)
              have HP15 := hid (Terms.on HP14.out hx15)
              have HQ15 := hid (Terms.on HQ14.out hx15)
              have HC15 := hid (Terms.on HC14.out hx15)
              have HU15 := hid (hp15.to (S' := Old w15) (Kept.refl _ _) New.lt)
              obtain ⟨a15, c15, rfl⟩ := hp15.form
              clear hx15 hp15
              go_wp2_with fail
              with_reducible refine (T2.out _ _ _ HU15.out HQ15.out).mono ?_
              rintro e w16 ⟨v16, rfl, hp16, hx16⟩
              have HX16 := hid (HX15.out.trans hx16)
              have HP16 := hid (Terms.on HP15.out hx16)
              have HQ16 := hid (Terms.on HQ15.out hx16)
              have HC16 := hid (Terms.on HC15.out hx16)
              have HV16 := hid (hp16.to (S' := Old w16) (Kept.refl _ _) New.lt)
              obtain ⟨a16, c16, rfl⟩ := hp16.form
              clear hx16 hp16
              go_wp2_with fail
              with_reducible refine (B4.out _ _ HQ16.out).mono ?_
              rintro e w17 ⟨v17, rfl, hp17, hx17⟩
              have HX17 := hid (HX16.out.trans hx17)
              have HP17 := hid (Terms.on HP16.out hx17)
              have HQ17 := hid (Terms.on HQ16.out hx17)
              have HC17 := hid (Terms.on HC16.out hx17)
              have HV17 := hid (Terms.on HV16.out hx17)
              have HU17 := hid (hp17.to (S' := Old w17) (Kept.refl _ _) New.lt)
              obtain ⟨a17, c17, rfl⟩ := hp17.form
              clear hx17 hp17
              go_wp2_with fail
              with_reducible refine (T3.out _ _ _ HP17.out HU17.out).mono ?_
              rintro e w18 ⟨v18, rfl, hp18, hx18⟩
              have HX18 := hid (HX17.out.trans hx18)
              have HP18 := hid (Terms.on HP17.out hx18)
              have HQ18 := hid (Terms.on HQ17.out hx18)
              have HC18 := hid (Terms.on HC17.out hx18)
              have HV18 := hid (Terms.on HV17.out hx18)
              have HY18 := hid (hp18.to (S' := Old w18) (Kept.refl _ _) New.lt)
              obtain ⟨a18, c18, rfl⟩ := hp18.form
              clear hx18 hp18
              go_wp2_with fail
              with_reducible refine (B5.out _ _ _ HV18.out HY18.out).mono ?_
              rintro e w19 ⟨v19, rfl, hp19, hx19⟩
              have HX19 := hid (HX18.out.trans hx19)
              have HP19 := hid (Terms.on HP18.out hx19)
              have HQ19 := hid (Terms.on HQ18.out hx19)
              have HC19 := hid (Terms.on HC18.out hx19)
              have HZ19 := hid (hp19.to (S' := Old w19) (Kept.refl _ _) New.lt)
              obtain ⟨a19, c19, rfl⟩ := hp19.form
              clear hx19 hp19
              go_wp2_with fail
              with_reducible refine (B6.out _ _ _ HP19.out HQ19.out).mono ?_
              rintro e w20 ⟨v20, rfl, hp20, hx20⟩
              have HX20 := hid (HX19.out.trans hx20)
              have HP20 := hid (Terms.on HP19.out hx20)
              have HQ20 := hid (Terms.on HQ19.out hx20)
              have HC20 := hid (Terms.on HC19.out hx20)
              have HZ20 := hid (Terms.on HZ19.out hx20)
              have HS20 := hid (hp20.to (S' := Old w20) (Kept.refl _ _) New.lt)
              obtain ⟨a20, c20, rfl⟩ := hp20.form
              clear hx20 hp20
              go_wp2_with fail
              with_reducible refine (B3.out _ _ HP20.out).mono ?_
              rintro e w21 ⟨v21, rfl, hp21, hx21⟩
              have HX21 := hid (HX20.out.trans hx21)
              have HQ21 := hid (Terms.on HQ20.out hx21)
              have HC21 := hid (Terms.on HC20.out hx21)
              have HZ21 := hid (Terms.on HZ20.out hx21)
              have HS21 := hid (Terms.on HS20.out hx21)
              have HU21 := hid (hp21.to (S' := Old w21) (Kept.refl _ _) New.lt)
              obtain ⟨a21, c21, rfl⟩ := hp21.form
              clear hx21 hp21
              go_wp2_with fail
              with_reducible refine (B4.out _ _ HQ21.out).mono ?_
              rintro e w22 ⟨v22, rfl, hp22, hx22⟩
              have HX22 := hid (HX21.out.trans hx22)
              have HC22 := hid (Terms.on HC21.out hx22)
              have HZ22 := hid (Terms.on HZ21.out hx22)
              have HS22 := hid (Terms.on HS21.out hx22)
              have HU22 := hid (Terms.on HU21.out hx22)
              have HV22 := hid (hp22.to (S' := Old w22) (Kept.refl _ _) New.lt)
              obtain ⟨a22, c22, rfl⟩ := hp22.form
              clear hx22 hp22
              go_wp2_with fail
              with_reducible refine (B7.out _ _ _ HU22.out HV22.out).mono ?_
              rintro e w23 ⟨v23, rfl, hp23, hx23⟩
              have HX23 := hid (HX22.out.trans hx23)
              have HC23 := hid (Terms.on HC22.out hx23)
              have HZ23 := hid (Terms.on HZ22.out hx23)
              have HS23 := hid (Terms.on HS22.out hx23)
              have HT23 := hid (hp23.to (S' := Old w23) (Kept.refl _ _) New.lt)
              obtain ⟨a23, c23, rfl⟩ := hp23.form
              clear hx23 hp23
              go_wp2_with fail
              with_reducible refine (B8.out _ _ HC23.out).mono ?_
              rintro e w24 ⟨v24, rfl, hp24, hx24⟩
              have HX24 := hid (HX23.out.trans hx24)
              have HZ24 := hid (Terms.on HZ23.out hx24)
              have HS24 := hid (Terms.on HS23.out hx24)
              have HT24 := hid (Terms.on HT23.out hx24)
              have HU24 := hid (hp24.to (S' := Old w24) (Kept.refl _ _) New.lt)
              obtain ⟨a24, c24, rfl⟩ := hp24.form
              clear hx24 hp24
              go_wp2_with fail
              with_reducible refine (B9.out _ _ _ HU24.out HZ24.out).mono ?_
              rintro e w25 ⟨rfl, hx25⟩
              have HX25 := hid (HX24.out.trans hx25)
              have HS25 := hid (Terms.on HS24.out hx25)
              have HT25 := hid (Terms.on HT24.out hx25)
              clear hx25
              go_wp2_with fail
              with_reducible refine (D1.out _ _ HS25.out).mono ?_
              rintro e w26 ⟨v26, rfl, hp26, hx26⟩
              have HX26 := hid (HX25.out.trans hx26)
              have HT26 := hid (Terms.on HT25.out hx26)
              have HU26 := hid (hp26.to (S' := Old w26) (Kept.refl _ _) New.lt)
              obtain ⟨a26, c26, rfl⟩ := hp26.form
              clear hx26 hp26
              go_wp2_with fail
              with_reducible refine (D2.out _ _ _ HU26.out HT26.out).mono ?_
              rintro e w27 ⟨rfl, hx27⟩
              have HX27 := hid (HX26.out.trans hx27)
              clear hx27
              go_wp2_with fail
              with_reducible refine (law09_known w27).mono ?_
              rintro e w28 ⟨rfl, hx28⟩
              have HX28 := hid (HX27.out.trans hx28)
              clear hx28
              go_wp2
              all_goals
                go_ret
                exact ⟨rfl, HX28.out⟩
            · have q4 : (a == b) = false := by rw [beq_eq_false_iff_ne]; exact hab
              clear hab
              go_wp2_with fail
              with_reducible refine (B3.out _ _ HP12.out).mono ?_
              rintro e w13 ⟨v13, rfl, hp13, hx13⟩
              have HX13 := hid (HX12.out.trans hx13)
              have HP13 := hid (Terms.on HP12.out hx13)
              have HQ13 := hid (Terms.on HQ12.out hx13)
              have HC13 := hid (Terms.on HC12.out hx13)
              have HU13 := hid (hp13.to (S' := Old w13) (Kept.refl _ _) New.lt)
              obtain ⟨a13, c13, rfl⟩ := hp13.form
              clear hx13 hp13
              go_wp2_with fail
              with_reducible refine (T2.out _ _ _ HU13.out HQ13.out).mono ?_
              rintro e w14 ⟨v14, rfl, hp14, hx14⟩
              have HX14 := hid (HX13.out.trans hx14)
              have HP14 := hid (Terms.on HP13.out hx14)
              have HQ14 := hid (Terms.on HQ13.out hx14)
              have HC14 := hid (Terms.on HC13.out hx14)
              have HV14 := hid (hp14.to (S' := Old w14) (Kept.refl _ _) New.lt)
              obtain ⟨a14, c14, rfl⟩ := hp14.form
              clear hx14 hp14
              go_wp2_with fail
              with_reducible refine (B4.out _ _ HQ14.out).mono ?_
              rintro e w15 ⟨v15, rfl, hp15, hx15⟩
              have HX15 := hid (HX14.out.trans hx15)
              have HP15 := hid (Terms.on HP14.out hx15)
              have HQ15 := hid (Terms.on HQ14.out hx15)
              have HC15 := hid (Terms.on HC14.out hx15)
              have HV15 := hid (Terms.on HV14.out hx15)
              have HU15 := hid (hp15.to (S' := Old w15) (Kept.refl _ _) New.lt)
              obtain ⟨a15, c15, rfl⟩ := hp15.form
              clear hx15 hp15
              go_wp2_with fail
              with_reducible refine (T3.out _ _ _ HP15.out HU15.out).mono ?_
              rintro e w16 ⟨v16, rfl, hp16, hx16⟩
              have HX16 := hid (HX15.out.trans hx16)
              have HP16 := hid (Terms.on HP15.out hx16)
              have HQ16 := hid (Terms.on HQ15.out hx16)
              have HC16 := hid (Terms.on HC15.out hx16)
              have HV16 := hid (Terms.on HV15.out hx16)
              have HY16 := hid (hp16.to (S' := Old w16) (Kept.refl _ _) New.lt)
              obtain ⟨a16, c16, rfl⟩ := hp16.form
              clear hx16 hp16
              go_wp2_with fail
              with_reducible refine (B5.out _ _ _ HV16.out HY16.out).mono ?_
              rintro e w17 ⟨v17, rfl, hp17, hx17⟩
              have HX17 := hid (HX16.out.trans hx17)
              have HP17 := hid (Terms.on HP16.out hx17)
              have HQ17 := hid (Terms.on HQ16.out hx17)
              have HC17 := hid (Terms.on HC16.out hx17)
              have HZ17 := hid (hp17.to (S' := Old w17) (Kept.refl _ _) New.lt)
              obtain ⟨a17, c17, rfl⟩ := hp17.form
              clear hx17 hp17
              go_wp2_with fail
              with_reducible refine (B6.out _ _ _ HP17.out HQ17.out).mono ?_
              rintro e w18 ⟨v18, rfl, hp18, hx18⟩
              have HX18 := hid (HX17.out.trans hx18)
              have HP18 := hid (Terms.on HP17.out hx18)
              have HQ18 := hid (Terms.on HQ17.out hx18)
              have HC18 := hid (Terms.on HC17.out hx18)
              have HZ18 := hid (Terms.on HZ17.out hx18)
              have HS18 := hid (hp18.to (S' := Old w18) (Kept.refl _ _) New.lt)
              obtain ⟨a18, c18, rfl⟩ := hp18.form
              clear hx18 hp18
              go_wp2_with fail
              with_reducible refine (B3.out _ _ HP18.out).mono ?_
              rintro e w19 ⟨v19, rfl, hp19, hx19⟩
              have HX19 := hid (HX18.out.trans hx19)
              have HQ19 := hid (Terms.on HQ18.out hx19)
              have HC19 := hid (Terms.on HC18.out hx19)
              have HZ19 := hid (Terms.on HZ18.out hx19)
              have HS19 := hid (Terms.on HS18.out hx19)
              have HU19 := hid (hp19.to (S' := Old w19) (Kept.refl _ _) New.lt)
              obtain ⟨a19, c19, rfl⟩ := hp19.form
              clear hx19 hp19
              go_wp2_with fail
              with_reducible refine (B4.out _ _ HQ19.out).mono ?_
              rintro e w20 ⟨v20, rfl, hp20, hx20⟩
              have HX20 := hid (HX19.out.trans hx20)
              have HC20 := hid (Terms.on HC19.out hx20)
              have HZ20 := hid (Terms.on HZ19.out hx20)
              have HS20 := hid (Terms.on HS19.out hx20)
              have HU20 := hid (Terms.on HU19.out hx20)
              have HV20 := hid (hp20.to (S' := Old w20) (Kept.refl _ _) New.lt)
              obtain ⟨a20, c20, rfl⟩ := hp20.form
              clear hx20 hp20
              go_wp2_with fail
              with_reducible refine (B7.out _ _ _ HU20.out HV20.out).mono ?_
              rintro e w21 ⟨v21, rfl, hp21, hx21⟩
              have HX21 := hid (HX20.out.trans hx21)
              have HC21 := hid (Terms.on HC20.out hx21)
              have HZ21 := hid (Terms.on HZ20.out hx21)
              have HS21 := hid (Terms.on HS20.out hx21)
              have HT21 := hid (hp21.to (S' := Old w21) (Kept.refl _ _) New.lt)
              obtain ⟨a21, c21, rfl⟩ := hp21.form
              clear hx21 hp21
              go_wp2_with fail
              with_reducible refine (B8.out _ _ HC21.out).mono ?_
              rintro e w22 ⟨v22, rfl, hp22, hx22⟩
              have HX22 := hid (HX21.out.trans hx22)
              have HZ22 := hid (Terms.on HZ21.out hx22)
              have HS22 := hid (Terms.on HS21.out hx22)
              have HT22 := hid (Terms.on HT21.out hx22)
              have HU22 := hid (hp22.to (S' := Old w22) (Kept.refl _ _) New.lt)
              obtain ⟨a22, c22, rfl⟩ := hp22.form
              clear hx22 hp22
              go_wp2_with fail
              with_reducible refine (B9.out _ _ _ HU22.out HZ22.out).mono ?_
              rintro e w23 ⟨rfl, hx23⟩
              have HX23 := hid (HX22.out.trans hx23)
              have HS23 := hid (Terms.on HS22.out hx23)
              have HT23 := hid (Terms.on HT22.out hx23)
              clear hx23
              go_wp2_with fail
              with_reducible refine (D1.out _ _ HS23.out).mono ?_
              rintro e w24 ⟨v24, rfl, hp24, hx24⟩
              have HX24 := hid (HX23.out.trans hx24)
              have HT24 := hid (Terms.on HT23.out hx24)
              have HU24 := hid (hp24.to (S' := Old w24) (Kept.refl _ _) New.lt)
              obtain ⟨a24, c24, rfl⟩ := hp24.form
              clear hx24 hp24
              go_wp2_with fail
              with_reducible refine (D2.out _ _ _ HU24.out HT24.out).mono ?_
              rintro e w25 ⟨rfl, hx25⟩
              have HX25 := hid (HX24.out.trans hx25)
              clear hx25
              go_wp2_with fail
              with_reducible refine (law09_known w25).mono ?_
              rintro e w26 ⟨rfl, hx26⟩
              have HX26 := hid (HX25.out.trans hx26)
              clear hx26
              go_wp2
              all_goals
                go_ret
                exact ⟨rfl, HX26.out⟩
end Go.Proofs.YthplgldclilccaaGreat

namespace Go.Proofs.YthplgldclilccaaGreat
open Go.RowKit Go.Deep Go.ChangeShapes Go.WideShapes Go.ChangeAt

set_option maxRecDepth 100000 in
theorem int_arg {H : Type} {enc : TypeId × Value → H} {W : World} {base b0 : Nat} {sp : Nat → Bool} {held : Bool} {fuel : Nat} {v : Value} {x : DataW H × List MemPlace} (hv : Value.okWide Tryz.prog W .any base 3 v) (h : DataW.trod enc Tryz.prog W b0 sp held fuel 3 v.cells.toList = some x) : ∃ n, v = .int .i64 n ∧ inI64 n := by
  obtain ⟨n, rfl⟩ := okWide_int Tryz.underlying3 hv
  obtain ⟨m, e, -, hw⟩ := DataW.trod_int Tryz.underlying3 h
  have e' : [Value.int .i64 n] = [.int .i64 m] := e
  obtain rfl : n = m := by simpa using e'
  exact ⟨n, rfl, bounds_i64 hw⟩

set_option maxRecDepth 100000 in
theorem products_lifted (os : Os) (started : os.Started) (H : Type) (enc : TypeId × Value → H) :
    ReturnsInHanded {} Tryz.checked os 5 .any (Rows.viewProductsSpec.pre6 enc Tryz.prog Tryz.f5 Rows.viewProductsRow.domain false) (Rows.viewProductsSpec.post enc Tryz.prog Tryz.f5 false true false false) := by
  refine returnsInHanded_of_change (C := Tryz.checked) Tryz.own started (by kernel_rfl) Tryz.func5
    (ChangeSpec.witness6 (enc := enc) (C := Tryz.checked) false ⟨#[], #[.slice none 0 0, .slice none 0 0, .int .i64 0], []⟩ 8 (by kernel_rfl) (by kernel_rfl) (by kernel_rfl) (by kernel_rfl)) ?_
  intro W base args ds gs before hval0 hW _ _
  have hval : ∀ (j : Nat) t v, Tryz.f5.params[j]? = some t → args[j]? = some v → Value.okWide Tryz.prog W .any base t v := hval0
  have hW' := hW
  obtain ⟨p, q, hA0, hV, _, _, _⟩ := hW'
  have hA : DataW.TrodAll enc Tryz.prog W 0 (fun _ => true) true Tryz.f5.params.toList args.toList ds p := hA0
  rw [Tryz.params5] at hA hval
  obtain ⟨v0, v1, v2, d0, d1, d2, p0, p1, p2, rfl, rfl, rfl, h0, h1, h2⟩ := trodAll_three hA
  obtain ⟨rfl, rfl⟩ := trodVars_none hV
  obtain ⟨fuel0, hf0⟩ := h0
  rw [slice_cells Tryz.underlying26 (hval 0 _ v0 rfl rfl)] at hf0
  obtain ⟨x0, hx0⟩ := open_terms hf0
  obtain ⟨fuel1, hf1⟩ := h1
  rw [slice_cells Tryz.underlying26 (hval 1 _ v1 rfl rfl)] at hf1
  obtain ⟨x1, hx1⟩ := open_terms hf1
  obtain ⟨fuel2, hf2⟩ := h2
  obtain ⟨y2, rfl, hy2⟩ := int_arg (hval 2 _ v2 rfl rfl) hf2
  refine (law_products v0 v1 x0 x1 y2 W hx0 hx1 hy2).mono fun e W' h => ?_
  obtain ⟨rfl, hb⟩ := h
  exact ⟨_, rfl, law_post hW rfl rfl rfl (by rw [Tryz.params5]; intro t ht; simp at ht; rcases ht with rfl | rfl <;> exact ⟨by kernel_rfl, by decide +kernel⟩) hb⟩

theorem products_holds : Rows.ViewProductsSaid :=
  OpenClaim.holds_of_wide 5 Tryz.f5 rfl rfl rfl rfl rfl rfl rfl ⟨rfl, rfl, rfl, rfl, rfl⟩ rfl rfl rfl rfl rfl (by kernel_rfl) Tryz.func5 (by kernel_rfl)
    (of_decide_eq_true (by kernel_rfl)) (by unfold Func.isWrapper; first | (rw [if_pos (by decide +kernel)]; kernel_rfl) | (rw [if_neg (by decide +kernel)]; exact ⟨rfl, rfl⟩))
    (fun os started H enc _ => products_lifted os started H enc)
end Go.Proofs.YthplgldclilccaaGreat
