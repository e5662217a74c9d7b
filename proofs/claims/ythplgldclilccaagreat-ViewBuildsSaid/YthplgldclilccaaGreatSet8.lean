/- What the law knows. The program's calls on canonical polynomials: one form of contract for all. A polynomial is built again out of its coefficients. Plain. A polynomial times a term; a variable's power. The insertion sort in place, at polynomials. Exchanges and rotations in place, at polynomials. The merge in place of two neighbours, at polynomials: one element ahead, or one behind. The merge in place of two neighbours, at polynomials. -/
import Derived.Deep.DeepCutAuto
import Derived.Test.YthplgldclilccaaGreatSet7
namespace Go.Proofs.YthplgldclilccaaGreat
open Go.RowKit

set_option maxRecDepth 100000 in
set_option maxHeartbeats 4000000 in
theorem rpoly_mul {S : Nat → Prop} (vp vq : Value) (p q : PZ) (w : World) (hS : ∀ k, S k → k < w.heap.size) (hp : RTs S w vp p) (hq : RTs S w vq q) (hmp : mayAll p) (hmq : mayAll q) (hszp : szP p) (hszq : szP q) (hsz : szM p q) :
    Calls Tryz.prog 44 #[vp, vq] w fun e w' => ∃ v', e = .returned v' ∧ RTs (Plus S w w') w' v' (timesV (timesP p q)) ∧ Ext w w' := by
  have HT := hid (rpoly_times vp vq p q w hS hp hq hmp hmq hszp hszq hsz)
  clear hp hq
  go_enter Tryz.func44, Tryz.ntmps44
  go_wp2_with fail
  refine HT.out.mono ?_
  rintro e w1 ⟨v1, rfl, hp1, hx1⟩
  have HX1 := hid hx1
  have HP1 := hid hp1
  clear hx1 hp1
  go_wp2
  all_goals
    go_ret
    exact ⟨_, rfl, HP1.out, HX1.out⟩

abbrev knX : PZ := [(1, [(1, 1)])]
abbrev knY : PZ := [(1, [(2, 1)])]
abbrev knYY : PZ := [(1, [(2, 2)])]
abbrev knA : PZ := [(1, [(1, 1), (2, 2)])]
abbrev knB : PZ := [(1, [(2, 1)]), (1, [])]
theorem kn1 : timesV (timesP knY knY) = knYY := by kernel_rfl
theorem kn2 : timesV (timesP knX knYY) = knA := by kernel_rfl
theorem kn3 : addP knY (numP 1) = knB := by kernel_rfl
theorem can_one {m : Mono} (h : mayM m = true) : canP [(1, m)] := ⟨fun t ht => by rw [List.mem_singleton.1 ht]; exact ⟨by show (1 : Int) ≠ 0; decide, h⟩, List.pairwise_singleton _ _⟩
theorem knX_can : canP knX := can_one rfl
theorem knY_can : canP knY := can_one rfl
theorem knYY_can : canP knYY := can_one rfl
theorem knA_can : canP knA := can_one rfl
theorem knB_can : canP knB := by
  rw [← kn3]
  exact (addP_can knY_can (putP_may canP_nil.may rfl)).1
theorem ones_sz {p : PZ} (h : p.length ≤ 100) (h1 : ∀ t ∈ p, t.1 = 1) : szP p := ⟨by omega, fun t ht => by rw [h1 t ht]; exact szZ_i64 (n := 1) (by omega)⟩
theorem ones_szM {p q : PZ} (hp : p.length = 1) (hq : q.length = 1) (h1 : ∀ t ∈ p, t.1 = 1) (h2 : ∀ t ∈ q, t.1 = 1) : szM p q :=
  ⟨1, 1, fun t ht u hu => by rw [h1 t ht, h2 u hu]; decide, by rw [hp, hq]; omega, by rw [hp, hq]; decide, by omega⟩
theorem ones_small {p : PZ} (h1 : ∀ t ∈ p, t.1 = 1) : smallT (ofP p) := fun t ht => by
  obtain ⟨u, hu, rfl⟩ := List.mem_map.1 ht
  have e := h1 u hu
  refine Nat.le_trans (rep_len_le two_le_B32 _ 1 ?_) (by omega)
  rw [e]
  decide
theorem plainP_ofP {p : PZ} (h : canP p) : plainP (ofP p) = p := by
  unfold plainP
  rw [if_pos (mayT_ofP h)]
  exact toP_ofP p
theorem rk1 : orderR (rankP knX) (rankP knY) = -1 := by kernel_rfl
theorem rk2 : reducedP knX knY = true := by kernel_rfl
theorem rk3 : orderR (rankP knA) (rankP knB) = 1 := by kernel_rfl
theorem rk4 : reducedP knA knB = false := by kernel_rfl
theorem rk5 : rankP knA = (2, 2) := by kernel_rfl
theorem RTs.old {w : World} {S : Nat → Prop} {v : Value} {p : PZ} (h : RTs S w v p) (hS : ∀ k, S k → k < w.heap.size) : RTs (Old w) w v p := h.to (Kept.refl _ _) hS
theorem Terms.old {w : World} {S : Nat → Prop} {v : Value} {p : List RTerm} (h : Terms S w v p) (hS : ∀ k, S k → k < w.heap.size) : Terms (Old w) w v p := h.to (Kept.refl _ _) hS
theorem Polys.on {w W : World} {v : Value} {z : List (List RTerm)} (h : Polys (Old w) w v z) (hx : Ext w W) : Polys (Old W) W v z := h.to (Kept.ext hx (fun _ h => h)) (old_lt hx)
theorem Terms.on {w W : World} {v : Value} {z : List RTerm} (h : Terms (Old w) w v z) (hx : Ext w W) : Terms (Old W) W v z := h.to (Kept.ext hx (fun _ h => h)) (old_lt hx)
theorem all_one {m : Mono} : ∀ t ∈ ([(1, m)] : PZ), t.1 = 1 := fun t ht => by rw [List.mem_singleton.1 ht]
theorem knB_one : ∀ t ∈ knB, t.1 = 1 := fun t ht => by
  simp at ht
  rcases ht with rfl | rfl <;> rfl
theorem kn_len {p : PZ} (h : mayAll p) : ∀ t ∈ p, t.2.length ≤ 1000000 := fun t ht => Nat.le_trans (mayM_len (h t ht)) (by omega)
theorem knOne : szP (numP 1) := ones_sz (p := [(1, [])]) (by decide) all_one
theorem kn_step (k : Nat) : szP (addP knY ((numP 1).take k)) := by
  cases k with
  | zero => exact ones_sz (p := knY) (by decide) all_one
  | succ k =>
    have e : (numP 1).take (k + 1) = numP 1 := List.take_of_length_le (by show 1 ≤ k + 1; omega)
    rw [e, kn3]
    exact ones_sz (by decide) knB_one

set_option maxRecDepth 100000 in
set_option maxHeartbeats 8000000 in
theorem law15_known (w : World) :
    Calls Tryz.prog 9 #[] w fun e w' => e = .returned (.bool true) ∧ Ext w w' := by
  have hnot : ∀ (x : Bool) (w : World), (Op.unary .not (.bool x)).run Tryz.prog w = .ok (.bool (!x)) w := fun _ _ => rfl
  go_enter Tryz.func9, Tryz.ntmps9
  go_wp2_with fail
  refine (rpoly_x 1 w (by unfold inI64; omega)).mono ?_
  rintro e w1 ⟨v1, rfl, hp1, hx1⟩
  have HX1 : Hid (Ext w w1) := hid hx1
  have HP1 := hid (RTs.old hp1 New.lt)
  obtain ⟨a1, c1, rfl⟩ := hp1.form
  clear hx1 hp1
  go_wp2_with fail
  refine (rpoly_x 2 w1 (by unfold inI64; omega)).mono ?_
  rintro e w2 ⟨v2, rfl, hp2, hx2⟩
  have HX2 : Hid (Ext w1 w2) := hid hx2
  have HP2 := hid (RTs.old hp2 New.lt)
  obtain ⟨a2, c2, rfl⟩ := hp2.form
  clear hx2 hp2
  go_wp2_with fail
  refine (rpoly_mul (S := Old w2) _ _ knY knY w2 (fun _ h => h) HP2.out HP2.out knY_can.may knY_can.may (ones_sz (by decide) all_one) (ones_sz (by decide) all_one) (ones_szM rfl rfl all_one all_one)).mono ?_
  rw [kn1]
  rintro e w3 ⟨v3, rfl, hp3, hx3⟩
  have HX3 : Hid (Ext w2 w3) := hid hx3
  have HP3 := hid (RTs.old hp3 (plus_lt (fun _ h => h) hx3))
  obtain ⟨a3, c3, rfl⟩ := hp3.form
  clear hx3 hp3
  go_wp2_with fail
  refine (rpoly_mul (S := Old w3) _ _ knX knYY w3 (fun _ h => h) (RTs.on HP1.out (HX2.out.trans HX3.out)) HP3.out knX_can.may knYY_can.may (ones_sz (by decide) all_one) (ones_sz (by decide) all_one) (ones_szM rfl rfl all_one all_one)).mono ?_
  rw [kn2]
  rintro e w4 ⟨v4, rfl, hp4, hx4⟩
  have HX4 : Hid (Ext w3 w4) := hid hx4
  have HP4 := hid (RTs.old hp4 (plus_lt (fun _ h => h) hx4))
  obtain ⟨a4, c4, rfl⟩ := hp4.form
  clear hx4 hp4
  go_wp2_with fail
  refine (rpoly_poly (S := Old w4) _ knA w4 HP4.out (fun _ h => h) (ones_sz (by decide) all_one) (kn_len knA_can.may)).mono ?_
  rintro e w5 ⟨v5, rfl, hp5, hx5⟩
  have HX5 : Hid (Ext w4 w5) := hid hx5
  have HP5 := hid (Terms.old hp5 New.lt)
  obtain ⟨a5, c5, rfl⟩ := hp5.form
  clear hx5 hp5
  go_wp2_with fail
  refine (rpoly_small 1 w5 (by omega)).mono ?_
  rintro e w6 ⟨v6, rfl, hp6, hx6⟩
  have HX6 : Hid (Ext w5 w6) := hid hx6
  have HP6 := hid (RTs.old hp6 New.lt)
  obtain ⟨a6, c6, rfl⟩ := hp6.form
  clear hx6 hp6
  go_wp2_with fail
  refine (rpoly_add (S := Old w6) _ _ knY (numP 1) w6 (fun _ h => h) (RTs.on HP2.out (HX3.out.trans (HX4.out.trans (HX5.out.trans HX6.out)))) HP6.out knY_can.may (putP_may canP_nil.may rfl) knOne (fun k _ => kn_step k)).mono ?_
  rw [kn3]
  rintro e w7 ⟨v7, rfl, hp7, hx7⟩
  have HX7 : Hid (Ext w6 w7) := hid hx7
  have HP7 := hid (RTs.old hp7 (plus_lt (fun _ h => h) hx7))
  obtain ⟨a7, c7, rfl⟩ := hp7.form
  clear hx7 hp7
  go_wp2_with fail
  refine (rpoly_poly (S := Old w7) _ knB w7 HP7.out (fun _ h => h) (ones_sz (by decide) knB_one) (kn_len knB_can.may)).mono ?_
  rintro e w8 ⟨v8, rfl, hp8, hx8⟩
  have HX8 : Hid (Ext w7 w8) := hid hx8
  have HP8 := hid (Terms.old hp8 New.lt)
  obtain ⟨a8, c8, rfl⟩ := hp8.form
  have HA8 := hid (Terms.on HP5.out (HX6.out.trans (HX7.out.trans hx8)))
  have HY1 := hid (RTs.on HP1.out (HX2.out.trans (HX3.out.trans (HX4.out.trans (HX5.out.trans (HX6.out.trans (HX7.out.trans hx8)))))))
  have HY2 := hid (RTs.on HP2.out (HX3.out.trans (HX4.out.trans (HX5.out.trans (HX6.out.trans (HX7.out.trans hx8))))))
  have HXX := hid (HX1.out.trans (HX2.out.trans (HX3.out.trans (HX4.out.trans (HX5.out.trans (HX6.out.trans (HX7.out.trans hx8)))))))
  clear hx8 hp8
  go_wp2_with fail
  refine (rpoly_poly (S := Old w8) _ knX w8 HY1.out (fun _ h => h) (ones_sz (by decide) all_one) (kn_len knX_can.may)).mono ?_
  rintro e w9 ⟨v9, rfl, hp9, hx9⟩
  have HX9 : Hid (Ext w8 w9) := hid hx9
  have HP9 := hid (Terms.old hp9 New.lt)
  obtain ⟨a9, c9, rfl⟩ := hp9.form
  clear hx9 hp9
  go_wp2_with fail
  refine (rpoly_poly (S := Old w9) _ knY w9 (RTs.on HY2.out HX9.out) (fun _ h => h) (ones_sz (by decide) all_one) (kn_len knY_can.may)).mono ?_
  rintro e w10 ⟨v10, rfl, hp10, hx10⟩
  have HX10 : Hid (Ext w9 w10) := hid hx10
  have HP10 := hid (Terms.old hp10 New.lt)
  obtain ⟨a10, c10, rfl⟩ := hp10.form
  clear hx10 hp10
  go_wp2_with fail
  refine (rank_compare (S := Old w10) _ _ (ofP knX) (ofP knY) w10 (Terms.on HP9.out HX10.out) HP10.out (fun _ h => h) (ones_small all_one) (ones_small all_one)).mono ?_
  rw [plainP_ofP knX_can, plainP_ofP knY_can, rk1]
  rintro e w11 ⟨rfl, hx11⟩
  have HX11 : Hid (Ext w8 w11) := hid (HX9.out.trans (HX10.out.trans hx11))
  clear hx11
  go_wp2_with fail
  refine (rpoly_poly (S := Old w11) _ knX w11 (RTs.on HY1.out HX11.out) (fun _ h => h) (ones_sz (by decide) all_one) (kn_len knX_can.may)).mono ?_
  rintro e w12 ⟨v12, rfl, hp12, hx12⟩
  have HX12 : Hid (Ext w8 w12) := hid (HX11.out.trans hx12)
  have HP12 := hid (Terms.old hp12 New.lt)
  obtain ⟨a12, c12, rfl⟩ := hp12.form
  clear hx12 hp12
  go_wp2_with fail
  refine (rpoly_poly (S := Old w12) _ knY w12 (RTs.on HY2.out HX12.out) (fun _ h => h) (ones_sz (by decide) all_one) (kn_len knY_can.may)).mono ?_
  rintro e w13 ⟨v13, rfl, hp13, hx13⟩
  have HX13a : Hid (Ext w12 w13) := hid hx13
  have HX13 : Hid (Ext w8 w13) := hid (HX12.out.trans hx13)
  have HP13 := hid (Terms.old hp13 New.lt)
  obtain ⟨a13, c13, rfl⟩ := hp13.form
  clear hx13 hp13
  go_wp2_with fail
  refine (rank_reduced (S := Old w13) _ _ (ofP knX) (ofP knY) w13 (Terms.on HP12.out HX13a.out) HP13.out (fun _ h => h) (ones_small all_one) (ones_small all_one)).mono ?_
  rw [plainP_ofP knX_can, plainP_ofP knY_can, rk2]
  rintro e w14 ⟨rfl, hx14⟩
  have HX14 : Hid (Ext w8 w14) := hid (HX13.out.trans hx14)
  clear hx14
  go_wp2_with fail
  refine (rank_compare (S := Old w14) _ _ (ofP knA) (ofP knB) w14 (Terms.on HA8.out HX14.out) (Terms.on HP8.out HX14.out) (fun _ h => h) (ones_small all_one) (ones_small knB_one)).mono ?_
  rw [plainP_ofP knA_can, plainP_ofP knB_can, rk3]
  rintro e w15 ⟨rfl, hx15⟩
  have HX15 : Hid (Ext w8 w15) := hid (HX14.out.trans hx15)
  clear hx15
  go_wp2_with fail
  refine (rank_reduced (S := Old w15) _ _ (ofP knA) (ofP knB) w15 (Terms.on HA8.out HX15.out) (Terms.on HP8.out HX15.out) (fun _ h => h) (ones_small all_one) (ones_small knB_one)).mono ?_
  rw [plainP_ofP knA_can, plainP_ofP knB_can, rk4]
  rintro e w16 ⟨rfl, hx16⟩
  have HX16 : Hid (Ext w8 w16) := hid (HX15.out.trans hx16)
  clear hx16
  go_wp2_with fail
  refine (rank_of (S := Old w16) _ (ofP knA) w16 (Terms.on HA8.out HX16.out) (fun _ h => h) (ones_small all_one)).mono ?_
  rw [plainP_ofP knA_can, rk5]
  unfold RankV
  rintro e w17 ⟨rfl, hx17⟩
  have HX17 : Hid (Ext w8 w17) := hid (HX16.out.trans hx17)
  clear hx17
  go_wp2
  all_goals
    go_ret
    exact ⟨rfl, HXX.out.trans HX17.out⟩
end Go.Proofs.YthplgldclilccaaGreat

namespace Go.Proofs.YthplgldclilccaaGreat
open Go.RowKit

/-- a canonical polynomial of at most n terms, of at most k limbs each -/
def Fit (k n : Nat) (p : PZ) : Prop := canP p ∧ bndZ k p ∧ p.length ≤ n
/-- it lies in memory -/
abbrev PV (W : World) (v : Value) (p : PZ) : Prop := Terms (Old W) W v (ofP p)

section
variable {k l n m : Nat} {p q : PZ}
theorem Fit.can (h : Fit k n p) : canP p := h.1
theorem Fit.mono (h : Fit k n p) (hk : k ≤ l) (hn : n ≤ m) : Fit l m p := ⟨h.1, h.2.1.mono hk, Nat.le_trans h.2.2 hn⟩
theorem Fit.lens (h : Fit k n p) : ∀ t ∈ ofP p, t.c.mag.length ≤ k := bnd_lens h.2.1
theorem Fit.small (h : Fit k n p) (hk : k ≤ 1000000) : smallT (ofP p) := small_bnd h.2.1 (by omega)
theorem Fit.may (h : Fit k n p) : mayT (ofP p) = true := mayT_ofP h.1
theorem Fit.plain (h : Fit k n p) : plainP (ofP p) = p := plainP_ofP h.1
theorem Fit.len (h : Fit k n p) : (ofP p).length ≤ n := by rw [ofP_len]; exact h.2.2
theorem fit_nil : Fit 0 0 [] := ⟨canP_nil, fun t ht => by simp at ht, by simp⟩
theorem filterMap_len {α β : Type} (f : α → Option β) (l : List α) : (l.filterMap f).length ≤ l.length := List.length_filterMap_le _ _
theorem Fit.init (h : Fit k n p) : Fit k n (initP p) := ⟨initP_can h.1, bnd_init h.2.1, by
  unfold initP
  split
  · exact h.2.2
  · exact Nat.le_trans (filterMap_len _ _) h.2.2⟩
theorem Fit.coef (h : Fit k n p) (v e : Int) : Fit k n (coefP p v e) := ⟨coefP_can h.1 v e, bnd_coef h.2.1 v e, Nat.le_trans (filterMap_len _ _) h.2.2⟩
theorem Fit.tail (h : Fit k n p) : Fit k n (tailP p) := ⟨tailP_can h.1, bnd_tail h.2.1, Nat.le_trans (filterMap_len _ _) h.2.2⟩
theorem Fit.der (h : Fit k n p) (v : Int) : Fit (k + 1) n (derP p v) := ⟨derP_can h.1 v, bnd_der h.1.may h.2.1 v, Nat.le_trans (filterMap_len _ _) h.2.2⟩
theorem addP_len (p l : PZ) : (addP p l).length ≤ p.length + l.length := by
  unfold addP
  induction l generalizing p with
  | nil => simp
  | cons t r ih =>
    rw [List.foldl_cons]
    have h1 := ih (putP p t.1 t.2)
    have h2 := putP_len p t.1 t.2
    simp only [List.length_cons]
    omega
theorem normP_len (p : PZ) : (normP p).length ≤ p.length := by
  have := addP_len [] p
  rw [List.length_nil, Nat.zero_add] at this
  exact this
theorem may_append (hp : mayAll p) (hq : mayAll q) : mayAll (p ++ q) := fun t ht => by
  rcases List.mem_append.1 ht with g | g
  · exact hp t g
  · exact hq t g
theorem Fit.add (hp : Fit k n p) (hq : Fit k m q) (hn : n + m ≤ 1000000000) : Fit (k + 2) (n + m) (normP (p ++ q)) := by
  have hm := may_append hp.1.may hq.1.may
  have hl : (p ++ q).length ≤ n + m := by rw [List.length_append]; have := hp.2.2; have := hq.2.2; omega
  exact ⟨norm_can hm, normP_bnd hm (hp.2.1.append hq.2.1) (by show _ < 4294967296 ^ 2; omega), Nat.le_trans (normP_len _) hl⟩
theorem mulL_len (p q : PZ) : (mulL p q).length = p.length * q.length := by
  unfold mulL
  induction p with
  | nil => simp
  | cons t r ih => rw [List.flatMap_cons, List.length_append, ih, List.length_map, List.length_cons, Nat.add_mul]; omega
theorem mulL_bnd (hp : bndZ k p) (hq : bndZ l q) : bndZ (k + l) (mulL p q) := fun x hx => by
  obtain ⟨t, ht, u, hu, rfl⟩ := mulL_mem hx
  exact lenI_mono (lenI_prod (lenI_lt (hp t ht)) (lenI_lt (hq u hu))) (Nat.le_refl _)
theorem Fit.times {c : PZ} (hp : Fit k n p) (hq : Fit l m q) (h : timesP p q = some c) (hn : n * m ≤ 1000000000) : Fit (k + l + 2) (n * m) c := by
  obtain ⟨hm, rfl⟩ := times_some hp.1.may hq.1.may h
  have hl : (mulL p q).length ≤ n * m := by rw [mulL_len]; exact Nat.mul_le_mul hp.2.2 hq.2.2
  exact ⟨norm_can hm, normP_bnd hm (mulL_bnd hp.2.1 hq.2.1) (by show _ < 4294967296 ^ 2; omega), Nat.le_trans (normP_len _) hl⟩
end

set_option maxRecDepth 100000 in
set_option maxHeartbeats 4000000 in
theorem poly_times_no {S : Nat → Prop} (vp vq : Value) (ps qs : List RTerm) (w : World) (hp : Terms S w vp ps) (hq : Terms S w vq qs) (hS : ∀ k, S k → k < w.heap.size) (hm : (mayT ps && mayT qs) = false) (hrp : smallT ps) (hrq : smallT qs) :
    Calls Tryz.prog 33 #[vp, vq] w (ErrPoly w 2) := by
  have hnot : ∀ (x : Bool) (w : World), (Op.unary .not (.bool x)).run Tryz.prog w = .ok (.bool (!x)) w := fun _ _ => rfl
  unfold ErrPoly
  have CA := poly_all (S := fun k => S k ∨ k = w.heap.size) _ [ps, qs] (w.alloc (.cells #[vp, vq] 26)) (two_polys hp hq hS 26) (two_lt hS _) (fun p hp => by
    rcases List.mem_cons.1 hp with rfl | hp
    · exact hrp
    · rw [List.mem_singleton.1 hp]; exact hrq)
  rw [show [ps, qs].all mayT = false by simpa using hm] at CA
  obtain ⟨ap, cp, rfl⟩ := hp.form
  obtain ⟨aq, cq, rfl⟩ := hq.form
  have HCA := hid CA
  clear hp hq hm CA
  go_enter Tryz.func33, Tryz.ntmps33
  go_wp2_with fail
  with_reducible refine HCA.out.mono ?_
  rintro e w1 ⟨rfl, hx1⟩
  have HX1 := hid ((Ext.alloc (Ext.refl w) _).trans hx1)
  clear hx1
  go_wp2
  all_goals
    go_ret2
    exact ⟨rfl, HX1.out⟩
/-- an argument that may be -/
theorem pv_of {w : World} {v : Value} {ps : List RTerm} (h : Terms (Old w) w v ps) (hm : mayT ps = true) : ps = ofP (plainP ps) := by
  unfold plainP
  rw [if_pos hm]
  exact (mayT_of h.okT hm).symm
theorem fit_plain {ps : List RTerm} {k n : Nat} (hok : okT ps) (h : ∀ t ∈ ps, t.c.mag.length ≤ k) (hn : ps.length ≤ n) : Fit k n (plainP ps) := ⟨plainP_can ps, bnd_plain hok h, Nat.le_trans (plain_len ps) hn⟩

section
variable {W : World} {u v : Value} {p q : PZ} {k l n m : Nat}
theorem z_times (hp : PV W u p) (hq : PV W v q) (fp : Fit k n p) (fq : Fit l m q) (hc : k < 24 ∨ l < 24) (hk : k ≤ 1000000) (hl : l ≤ 1000000) (hnm : n * m ≤ 1000000000) :
    Calls Tryz.prog 33 #[u, v] W (TimesPost W (timesP p q)) := by
  have h := poly_times u v _ _ W 1000000 hp hq (fun _ h => h) fp.may fq.may (fun t ht => Nat.le_trans (fp.lens t ht) hk) (fun t ht => Nat.le_trans (fq.lens t ht) hl) (by decide)
    (hc.imp (fun h t ht => by
      obtain ⟨x, hx, rfl⟩ := List.mem_map.1 ht
      show lenI (valI (ofI x.1)) < 24
      rw [valI_ofI]
      exact Nat.lt_of_le_of_lt (lenI_lt (fp.2.1 x hx)) h) (fun h t ht => by
      obtain ⟨x, hx, rfl⟩ := List.mem_map.1 ht
      show lenI (valI (ofI x.1)) < 24
      rw [valI_ofI]
      exact Nat.lt_of_le_of_lt (lenI_lt (fq.2.1 x hx)) h))
    (Nat.le_trans (Nat.mul_le_mul fp.len fq.len) hnm)
  rwa [toP_ofP, toP_ofP] at h
theorem z_add (hp : PV W u p) (hq : PV W v q) (fp : Fit k n p) (fq : Fit l m q) (hk : k ≤ 1000000) (hl : l ≤ 1000000) (hn : n + m ≤ 1000000000) :
    Calls Tryz.prog 35 #[u, v] W (OkPoly W (normP (p ++ q))) := by
  have h := poly_add u v _ _ W 1000000 hp hq (fun _ h => h) fp.may fq.may (fun t ht => Nat.le_trans (fp.lens t ht) hk) (fun t ht => Nat.le_trans (fq.lens t ht) hl) (by decide) (by have := fp.len; have := fq.len; omega)
  rwa [toP_ofP, toP_ofP] at h
theorem z_same (hp : PV W u p) (hq : PV W v q) : Calls Tryz.prog 34 #[u, v] W fun e w' => e = .returned (.bool (decide (p = q))) ∧ Ext W w' := by
  have h := poly_same u v _ _ W hp hq (fun _ h => h)
  have e : decide (ofP p = ofP q) = decide (p = q) := by
    by_cases g : p = q
    · rw [decide_eq_true g, decide_eq_true (congrArg ofP g)]
    · rw [decide_eq_false g, decide_eq_false (fun e => g (by rw [← toP_ofP p, e, toP_ofP]))]
  rwa [e] at h
theorem z_class (hp : PV W u p) (fp : Fit k n p) (hk : k ≤ 1000000) : Calls Tryz.prog 24 #[u] W fun e w' => e = .returned (.int .i64 (leadP p)) ∧ Ext W w' := by
  have h := view_class u _ W hp (fun _ h => h) (fp.small hk)
  rwa [fp.plain] at h
theorem z_degree (hp : PV W u p) (fp : Fit k n p) (hk : k ≤ 1000000) {x : Int} (hx : inI64 x) : Calls Tryz.prog 26 #[u, .int .i64 x] W fun e w' => e = .returned (.int .i64 (degP p x)) ∧ Ext W w' := by
  have h := view_degree u _ x W hp (fun _ h => h) (fp.small hk) hx
  rwa [fp.plain] at h
theorem z_initial (hp : PV W u p) (fp : Fit k n p) (hk : k ≤ 1000000) (hn : n ≤ 1000000000) : Calls Tryz.prog 27 #[u] W fun e w' => ∃ v', e = .returned v' ∧ Terms (New W w') w' v' (ofP (initP p)) ∧ Ext W w' := by
  have h := view_initial u _ W hp (fun _ h => h) (fp.small hk) (Nat.le_trans fp.len hn)
  rwa [fp.plain] at h
theorem z_tail (hp : PV W u p) (fp : Fit k n p) (hk : k ≤ 1000000) (hn : n ≤ 1000000000) : Calls Tryz.prog 29 #[u] W fun e w' => ∃ v', e = .returned v' ∧ Terms (New W w') w' v' (ofP (tailP p)) ∧ Ext W w' := by
  have h := view_tail u _ W hp (fun _ h => h) (fp.small hk) (Nat.le_trans fp.len hn)
  rwa [fp.plain] at h
theorem z_coef (hp : PV W u p) (fp : Fit k n p) (hk : k ≤ 1000000) (hn : n ≤ 1000000000) {x d : Int} (hx : 1 ≤ x ∧ x ≤ 200) (hd : inI64 d) : Calls Tryz.prog 31 #[u, .int .i64 x, .int .i64 d] W fun e w' => ∃ v', e = .returned v' ∧ Terms (New W w') w' v' (ofP (coefP p x d)) ∧ Ext W w' := by
  have h := view_coefficient u _ x d W hp (fun _ h => h) (fp.small hk) (Nat.le_trans fp.len hn) hx hd
  rwa [fp.plain] at h
theorem z_derive (hp : PV W u p) (fp : Fit k n p) (hk : k ≤ 1000000) (hn : n ≤ 1000000000) {x : Int} (hx : inI64 x) : Calls Tryz.prog 32 #[u, .int .i64 x] W fun e w' => ∃ v', e = .returned v' ∧ Terms (New W w') w' v' (ofP (derP p x)) ∧ Ext W w' := by
  have h := view_derive u _ x W 1000000 hp (fun _ h => h) (fun t ht => Nat.le_trans (fp.lens t ht) hk) (by decide) (Nat.le_trans fp.len hn) hx
  rwa [fp.plain] at h
theorem z_may (hp : PV W u p) (fp : Fit k n p) (hk : k ≤ 1000000) : Calls Tryz.prog 41 #[u] W fun e w' => e = .returned (.bool true) ∧ Ext W w' := by
  have h := poly_may u _ W hp (fun _ h => h) (fp.small hk)
  rwa [fp.may] at h
end
end Go.Proofs.YthplgldclilccaaGreat

namespace Go.Proofs.YthplgldclilccaaGreat

/-- a variable's power, as a polynomial -/
def powP (v : Int) (i : Nat) : PZ := if i = 0 then [(1, [])] else [(1, [(v, (i : Int))])]
def buildF (v : Int) : PZ → Nat → List PZ → Option PZ
  | acc, _, [] => some acc
  | acc, i, q :: r => match timesP q (powP v i) with
    | none => none
    | some x => buildF v (normP (acc ++ x)) (i + 1) r
def buildP (l : List PZ) (v : Int) : Option PZ := buildF v [] 0 l
def coefsP (p : PZ) (v : Int) : List PZ := if p = [] then [] else (List.range ((degP p v).toNat + 1)).map fun e => coefP p v (e : Nat)

theorem mulL_one (p : PZ) (c : Int) (m : Mono) : mulL p [(c, m)] = p.map fun t => (t.1 * c, timesM t.2 m) := by
  unfold mulL
  induction p with
  | nil => rfl
  | cons t r ih => rw [List.flatMap_cons, ih]; rfl
theorem pow_may {v : Int} (hv : 1 ≤ v ∧ v ≤ 200) {i : Nat} (hi : i ≤ 10000) : mayAll (powP v i) := by
  intro t ht
  unfold powP at ht
  split at ht
  · rw [List.mem_singleton.1 ht]; rfl
  · rw [List.mem_singleton.1 ht]; exact one_may hv (by omega)
theorem pow_can {v : Int} (hv : 1 ≤ v ∧ v ≤ 200) {i : Nat} (hi : i ≤ 10000) : canP (powP v i) := by
  refine ⟨fun t ht => ⟨?_, pow_may hv hi t ht⟩, ?_⟩
  · unfold powP at ht
    split at ht
    · rw [List.mem_singleton.1 ht]; show (1 : Int) ≠ 0; decide
    · rw [List.mem_singleton.1 ht]; show (1 : Int) ≠ 0; decide
  · unfold powP
    split <;> exact List.pairwise_singleton _ _
theorem fit_pow {v : Int} (hv : 1 ≤ v ∧ v ≤ 200) {i : Nat} (hi : i ≤ 10000) : Fit 1 1 (powP v i) := by
  refine ⟨pow_can hv hi, fun t ht => ?_, ?_⟩
  · unfold powP at ht
    split at ht
    · rw [List.mem_singleton.1 ht]; show (1 : Int).natAbs < _; decide
    · rw [List.mem_singleton.1 ht]; show (1 : Int).natAbs < _; decide
  · unfold powP
    split <;> exact Nat.le_refl _
/-- the terms of one exponent -/
def partP (p : PZ) (v : Int) (i : Int) : PZ := p.filter fun t => decide (ex t.2 v = i)
theorem part_can {p : PZ} (h : canP p) (v i : Int) : canP (partP p v i) := canP_sub h List.filter_sublist
theorem put_back {m : Mono} (h : mayM m = true) {v : Int} {i : Nat} (hv : 1 ≤ v ∧ v ≤ 200) (he : ex m v = (i : Int)) (hi : i ≠ 0) : timesM (withoutM m v) [(v, (i : Int))] = m := by
  have h1 := mayM_without h v
  have h3 := ex_range h v
  have h2 : mayM [(v, (i : Int))] = true := one_may hv (by omega)
  have h4 : mayM (timesM (withoutM m v) [(v, (i : Int))]) = true := may_of_le (times_ok (may_ok h1) (may_ok h2)) h (fun u => by
    rw [times_ex h1 h2, ex_without, ex_one]
    have := ex_nonneg h u
    by_cases hu : u = v
    · subst hu; rw [if_pos rfl, if_pos rfl]; omega
    · rw [if_neg hu, if_neg (fun e => hu e.symm)]; omega)
  refine mayM_ext' h4 h (fun u => ?_)
  rw [times_ex h1 h2, ex_without, ex_one]
  by_cases hu : u = v
  · subst hu; rw [if_pos rfl, if_pos rfl]; omega
  · rw [if_neg hu, if_neg (fun e => hu e.symm)]; omega
theorem without_zero {m : Mono} (h : mayM m = true) {v : Int} (he : ex m v = 0) : withoutM m v = m := by
  refine mayM_ext' (mayM_without h v) h (fun u => ?_)
  rw [ex_without]
  by_cases hu : u = v
  · subst hu; rw [if_pos rfl, he]
  · rw [if_neg hu]
theorem part_mul {p : PZ} (h : canP p) {v : Int} (hv : 1 ≤ v ∧ v ≤ 200) (i : Nat) : mulL (coefP p v (i : Int)) (powP v i) = partP p v (i : Int) := by
  have hm := h.may
  clear h
  unfold coefP partP powP
  by_cases hi : i = 0
  · rw [if_pos hi, mulL_one]
    induction p with
    | nil => rfl
    | cons t r ih =>
      have hr := ih (fun u hu => hm u (by simp [hu]))
      have ht := hm t (by simp)
      by_cases he : ex t.2 v = (i : Int)
      · rw [List.filterMap_cons, List.filter_cons_of_pos (by simpa using he), show coefF v (i : Int) t = some (t.1, withoutM t.2 v) from if_pos he]
        simp only [List.map_cons]
        rw [hr, without_zero ht (by omega), times_one_right (may_ok ht), Int.mul_one]
      · rw [List.filterMap_cons, List.filter_cons_of_neg (by simpa using he), show coefF v (i : Int) t = none from if_neg he]
        exact hr
  · rw [if_neg hi, mulL_one]
    induction p with
    | nil => rfl
    | cons t r ih =>
      have hr := ih (fun u hu => hm u (by simp [hu]))
      have ht := hm t (by simp)
      by_cases he : ex t.2 v = (i : Int)
      · rw [List.filterMap_cons, List.filter_cons_of_pos (by simpa using he), show coefF v (i : Int) t = some (t.1, withoutM t.2 v) from if_pos he]
        simp only [List.map_cons]
        rw [hr, put_back ht hv he hi, Int.mul_one]
      · rw [List.filterMap_cons, List.filter_cons_of_neg (by simpa using he), show coefF v (i : Int) t = none from if_neg he]
        exact hr
theorem part_times {p : PZ} (h : canP p) {v : Int} (hv : 1 ≤ v ∧ v ≤ 200) {i : Nat} (hi : i ≤ 10000) : timesP (coefP p v (i : Int)) (powP v i) = some (partP p v (i : Int)) := by
  have h1 := part_can h v (i : Int)
  have h2 := times_norm (coefP_can h v (i : Int)).may (pow_may hv hi) (by rw [part_mul h hv]; exact h1.may)
  rw [part_mul h hv, normP_of_can h1] at h2
  exact h2
/-- the terms of lower exponents -/
def lowP (p : PZ) (v : Int) (i : Int) : PZ := p.filter fun t => decide (ex t.2 v < i)
theorem low_can {p : PZ} (h : canP p) (v i : Int) : canP (lowP p v i) := canP_sub h List.filter_sublist
theorem ev_filter2 (f : Mono → Int) (p : PZ) (s : Int × Mono → Bool) : ev f (p.filter s) = (p.map fun t => if s t then t.1 * f t.2 else 0).sum := by
  induction p with
  | nil => rfl
  | cons t r ih =>
    cases hs : s t with
    | true => rw [List.filter_cons_of_pos hs, ev, ih, List.map_cons, List.sum_cons, hs]; rfl
    | false => rw [List.filter_cons_of_neg (by simp [hs]), ih, List.map_cons, List.sum_cons, hs]; simp
theorem join_eqv (p : PZ) (a b c : Int × Mono → Bool) (h : ∀ t ∈ p, c t = (a t || b t)) (hd : ∀ t ∈ p, (a t && b t) = false) : Eqv (p.filter a ++ p.filter b) (p.filter c) := fun f => by
  rw [ev_append]
  induction p with
  | nil => rfl
  | cons t r ih =>
    have h1 := h t (by simp)
    have h2 := hd t (by simp)
    have h3 := ih (fun u hu => h u (by simp [hu])) (fun u hu => hd u (by simp [hu]))
    cases ha : a t with
    | true =>
      have hb : b t = false := by simpa [ha] using h2
      rw [ha, hb] at h1
      rw [List.filter_cons_of_pos ha, List.filter_cons_of_neg (by simp [hb]), List.filter_cons_of_pos (by simpa using h1), ev, ev, ← h3]
      omega
    | false =>
      cases hb : b t with
      | true =>
        rw [ha, hb] at h1
        rw [List.filter_cons_of_neg (by simp [ha]), List.filter_cons_of_pos hb, List.filter_cons_of_pos (by simpa using h1), ev, ev, ← h3]
        omega
      | false =>
        rw [ha, hb] at h1
        rw [List.filter_cons_of_neg (by simp [ha]), List.filter_cons_of_neg (by simp [hb]), List.filter_cons_of_neg (by simp [h1]), ← h3]
theorem low_next {p : PZ} (h : canP p) (v i : Int) : normP (lowP p v i ++ partP p v i) = lowP p v (i + 1) := by
  refine norm_eq (may_append (low_can h v i).may (part_can h v i).may) (low_can h v (i + 1)) ?_
  refine join_eqv p _ _ _ (fun t _ => ?_) (fun t _ => ?_)
  · rw [← Bool.decide_or, decide_eq_decide]
    omega
  · rw [← Bool.decide_and, decide_eq_false_iff_not]
    omega
theorem low_zero {p : PZ} (h : canP p) (v : Int) : lowP p v 0 = [] := by
  refine List.filter_eq_nil_iff.2 (fun t ht => ?_)
  have := ex_nonneg (h.1 t ht).2 v
  simp
  omega
theorem low_all {p : PZ} (v : Int) {i : Int} (hi : degP p v < i) : lowP p v i = p := by
  refine List.filter_eq_self.2 (fun t ht => ?_)
  have := degP_le_mem ht v
  simp
  omega
theorem build_steps {p : PZ} (h : canP p) {v : Int} (hv : 1 ≤ v ∧ v ≤ 200) (n i : Nat) (hn : i + n ≤ 10001) : buildF v (lowP p v (i : Int)) i ((List.range' i n).map fun e => coefP p v (e : Nat)) = some (lowP p v ((i + n : Nat) : Int)) := by
  induction n generalizing i with
  | zero => rfl
  | succ n ih =>
    rw [List.range'_succ, List.map_cons, buildF, part_times h hv (by omega)]
    simp only
    rw [low_next h v, show (i : Int) + 1 = ((i + 1 : Nat) : Int) by omega, ih (i + 1) (by omega)]
    congr 3
    omega
theorem build_back {p : PZ} (h : canP p) {v : Int} (hv : 1 ≤ v ∧ v ≤ 200) : buildP (coefsP p v) v = some p := by
  have hr := degP_range h.may v
  unfold buildP coefsP
  by_cases hp : p = []
  · rw [if_pos hp, hp]; rfl
  · rw [if_neg hp, List.range_eq_range']
    have h1 := build_steps h hv ((degP p v).toNat + 1) 0 (by omega)
    rw [show ((0 : Nat) : Int) = 0 from rfl, low_zero h v] at h1
    rw [h1, low_all v (by omega)]
/-- initial and tail give the polynomial -/
theorem init_part {p : PZ} (h0 : 0 < leadP p) : initP p = coefP p (leadP p) (degP p (leadP p)) := by unfold initP; rw [if_neg (by omega)]
theorem tail_low (p : PZ) : tailP p = lowP p (leadP p) (degP p (leadP p)) := by
  unfold tailP lowP
  induction p with
  | nil => rfl
  | cons t r ih =>
    generalize leadP (t :: r) = v
    generalize degP (t :: r) v = d
    clear ih
    induction (t :: r) with
    | nil => rfl
    | cons u s ih2 =>
      by_cases h : ex u.2 v < d
      · rw [List.filterMap_cons, List.filter_cons_of_pos (by simpa using h), show tailF v d u = some u from if_pos h, ih2]
      · rw [List.filterMap_cons, List.filter_cons_of_neg (by simpa using h), show tailF v d u = none from if_neg h, ih2]
theorem init_back {p : PZ} (h : canP p) (h0 : 0 < leadP p) : ∃ y, timesP (initP p) [(1, [(leadP p, degP p (leadP p))])] = some y ∧ normP (y ++ tailP p) = p := by
  have hl := leadP_range h
  have hd := deg_lead_pos h h0
  have hr := degP_range h.may (leadP p)
  obtain ⟨i, hi⟩ : ∃ i : Nat, (i : Int) = degP p (leadP p) := ⟨(degP p (leadP p)).toNat, by omega⟩
  have h1 := part_times h (v := leadP p) (by omega) (i := i) (by omega)
  have e : powP (leadP p) i = [(1, [(leadP p, (i : Int))])] := by unfold powP; rw [if_neg (by omega)]
  rw [e] at h1
  refine ⟨_, by rw [init_part h0, ← hi]; exact h1, ?_⟩
  rw [tail_low, ← hi]
  have h2 : normP (lowP p (leadP p) (i : Int) ++ partP p (leadP p) (i : Int)) = p := by
    rw [low_next h, low_all _ (by omega)]
  rw [← h2]
  have ha := (low_can h (leadP p) (i : Int)).may
  have hb := (part_can h (leadP p) (i : Int)).may
  rw [h2]
  conv => rhs; rw [← h2]
  exact norm_congr (may_append hb ha) (may_append ha hb) (fun f => by rw [ev_append, ev_append]; omega)
theorem init_ne {p : PZ} (h : canP p) (h0 : 0 < leadP p) : initP p ≠ [] := by
  rw [init_part h0]
  exact coef_top_ne h.may (fun e => by rw [e] at h0; simp [leadP] at h0) _
theorem tail_none {p : PZ} (h : canP p) (h0 : leadP p = 0) : tailP p = [] := by
  rw [tail_low, h0, degP_zero h.may (Int.le_refl _)]
  exact low_zero h 0
end Go.Proofs.YthplgldclilccaaGreat

namespace Go.Proofs.YthplgldclilccaaGreat
open Go.RowKit

theorem one_terms {w : World} {vm vo : Value} {t : RTerm} (h1 : U32s (Old w) w vm t.c.mag) (h2 : Pows (Old w) w vo t.m) (T : TypeId) :
    Terms (Old (w.alloc (.cells #[.bool t.c.neg, vm, vo] T))) (w.alloc (.cells #[.bool t.c.neg, vm, vo] T)) (.slice (some ⟨w.heap.size, 0, none⟩) 1 1) [t] := by
  have hx : Ext w (w.alloc (.cells #[.bool t.c.neg, vm, vo] T)) := Ext.alloc (Ext.refl w) _
  refine ⟨w.heap.size, 0, ⟨_, 1, rfl, Nat.le_refl _, by decide, fun _ => rfl, fun _ => by show w.heap.size < (w.alloc _).heap.size; rw [size_alloc]; omega⟩, fun j u hj => ?_⟩
  have hj2 := lt_of_some hj
  simp only [List.length_cons, List.length_nil] at hj2
  match j, hj with
  | 0, hj =>
    obtain rfl : t = u := by simpa using hj
    exact ⟨vm, vo, cell_new _ _ _ rfl rfl, cell_new _ _ _ rfl rfl, cell_new _ _ _ rfl rfl, h1.to (Kept.ext hx (fun _ h => h)) (fun k h => Nat.lt_of_lt_of_le h hx.size), h2.to (Kept.ext hx (fun _ h => h)) (fun k h => Nat.lt_of_lt_of_le h hx.size)⟩
  | j + 1, _ => omega

def oneZ (c : Int) (m : Mono) : PZ := if c = 0 then [] else [(c, m)]
theorem norm_one (c : Int) (m : Mono) : normP [(c, m)] = oneZ c m := by
  unfold oneZ
  show putP [] c m = _
  rfl
theorem oneZ_can {c : Int} {m : Mono} (h : mayM m = true) : canP (oneZ c m) := by
  unfold oneZ
  split
  · exact canP_nil
  · rename_i h0
    exact ⟨fun t ht => by rw [List.mem_singleton.1 ht]; exact ⟨h0, h⟩, List.pairwise_singleton _ _⟩
theorem fit_one {c : Int} {m : Mono} {k : Nat} (h : mayM m = true) (hk : lenI c ≤ k) : Fit k 1 (oneZ c m) := by
  refine ⟨oneZ_can h, fun t ht => ?_, ?_⟩
  · unfold oneZ at ht
    split at ht
    · simp at ht
    · rw [List.mem_singleton.1 ht]; exact lenI_mono hk (Nat.le_refl _)
  · unfold oneZ
    split <;> simp

set_option maxRecDepth 100000 in
set_option maxHeartbeats 8000000 in
theorem z_shift {W : World} {u vc vm : Value} {p : PZ} {c : Int} {m : Mono} {k n l : Nat} (hp : PV W u p) (hc : IntV (Old W) W vc (ofI c)) (hm : Pows (Old W) W vm m) (fp : Fit k n p) (hmm : mayM m = true) (hcl : lenI c ≤ l) (h24 : k < 24 ∨ l < 24) (hk : k ≤ 1000000) (hl : l ≤ 1000000) (hn : n ≤ 1000000000) :
    Calls Tryz.prog 90 #[u, vc, vm] W (TimesPost W (timesP p (oneZ c m))) := by
  have hnot : ∀ (x : Bool) (w : World), (Op.unary .not (.bool x)).run Tryz.prog w = .ok (.bool (!x)) w := fun _ _ => rfl
  obtain ⟨vz, rfl, hz⟩ := hc
  have HP := hid hp
  have HZ := hid hz
  have HM := hid hm
  have CM := fun (Y : World) (hY : Ext W Y) => mono_may (S := Old W) vm m Y (hm.ext hY (fun _ h => h)) (fun k h => Nat.lt_of_lt_of_le h hY.size)
  simp only [hmm] at CM
  have HCM := hid CM
  have f1 := fit_one (m := m) hmm hcl
  have CC := hid (fun (Y : World) (hY : Ext W Y) => poly_collect (S := Old (Y.alloc (.cells #[.bool (ofI c).neg, vz, vm] 76))) (.slice (some ⟨Y.heap.size, 0, none⟩) 1 1) [⟨ofI c, m⟩] (Y.alloc (.cells #[.bool (ofI c).neg, vz, vm] 76)) 1000000
    (one_terms (t := ⟨ofI c, m⟩) ((hz.ext hY (fun _ h => h)).to (Kept.refl _ _) (fun k h => Nat.lt_of_lt_of_le h hY.size)) ((hm.ext hY (fun _ h => h)).to (Kept.refl _ _) (fun k h => Nat.lt_of_lt_of_le h hY.size)) 76) (fun _ h => h) (fun t ht => by rw [List.mem_singleton.1 ht]; exact hmm) (fun t ht => by rw [List.mem_singleton.1 ht]; show (ofI c).mag.length ≤ _; rw [ofI_len]; omega) (by decide) (by simp))
  have e1 : toP [⟨ofI c, m⟩] = [(c, m)] := by unfold toP; simp [valI_ofI]
  simp only [e1, norm_one] at CC
  have CT := hid (fun (Y : World) (u2 : Value) (hY : Ext W Y) (hu : PV Y u2 (oneZ c m)) => z_times (hp.on hY) hu fp f1 h24 hk hl (by omega))
  obtain ⟨ap, cp, rfl⟩ := hp.form
  obtain ⟨az, cz, rfl⟩ := hz.form
  obtain ⟨am, cm, rfl⟩ := hm.form
  obtain ⟨np, hnp⟩ : ∃ n, n = (ofP p).length := ⟨_, rfl⟩
  obtain ⟨nz, hnz⟩ : ∃ n, n = (ofI c).mag.length := ⟨_, rfl⟩
  obtain ⟨nm, hnm⟩ : ∃ n, n = m.length := ⟨_, rfl⟩
  obtain ⟨ng, hng⟩ : ∃ n, n = (ofI c).neg := ⟨_, rfl⟩
  rw [← hnp] at CT ⊢
  rw [← hnz, ← hng] at CC ⊢
  rw [← hnm] at CC HCM ⊢
  generalize timesP p (oneZ c m) = o at *
  have HK := hid (Ext.alloc (Ext.refl W) (.cells #[.bool ng, .slice az nz cz] 72))
  clear hp hz hm CM hmm hcl f1 e1 hnp hnz hnm hng
  go_enter Tryz.func90, Tryz.ntmps90
  go_wp2_with fail
  with_reducible refine (HCM.out _ HK.out).mono ?_
  rintro e w1 ⟨rfl, hx1⟩
  have k0 := hx1.new_cell (i := 0) rfl
  have k1 := hx1.new_cell (i := 1) rfl
  have HX1 := hid (HK.out.trans hx1)
  clear hx1
  go_wp2_with fail
  with_reducible refine (CC.out _ HX1.out).mono ?_
  rintro e w2 ⟨v2, rfl, hp2, hx2⟩
  have HX2 := hid ((HX1.out.alloc _).trans hx2)
  have CT2 := hid (CT.out w2 v2 HX2.out (hp2.to (Kept.refl _ _) New.lt))
  obtain ⟨a2, c2, rfl⟩ := hp2.form
  clear hp2 hx2 k0 k1
  go_wp2_with fail
  with_reducible refine CT2.out.mono ?_
  intro e w3 h3
  cases o with
  | none =>
    obtain ⟨rfl, hx3⟩ := h3
    have HX3 := hid (HX2.out.trans hx3)
    clear hx3
    go_wp2
    all_goals
      go_ret2
      exact ⟨rfl, HX3.out⟩
  | some x =>
    obtain ⟨v3, rfl, hp3, hx3⟩ := h3
    have HX3 := hid (HX2.out.trans hx3)
    have HP3 := hid (hp3.to (S' := New W w3) (Kept.refl _ _) (fun k h => ⟨Nat.le_trans HX2.out.size h.1, h.2⟩))
    clear hp3 hx3
    go_wp2
    all_goals
      go_ret2
      exact ⟨_, rfl, HP3.out, HX3.out⟩

set_option maxRecDepth 100000 in
set_option maxHeartbeats 8000000 in
theorem z_var (W : World) (v e : Int) (hv : 1 ≤ v ∧ v ≤ 200) (he : 1 ≤ e ∧ e ≤ 10000) : Calls Tryz.prog 42 #[.int .i64 v, .int .i64 e] W (OkPoly W [(1, [(v, e)])]) := by
  unfold OkPoly
  have hm : mayM [(v, e)] = true := one_may hv he
  have CO := hid (whole_of 1 W (by decide))
  have CF := hid (fun (Y : World) (vz : Value) (hz : U32s (Old Y) Y vz (ofI 1).mag) => poly_of (S := Old ((Y.alloc (.cells #[.int .i64 v, .int .i64 e] 104)).alloc (.cells #[.bool (ofI 1).neg, vz, .slice (some ⟨Y.heap.size, 0, none⟩) 1 1] 76))) (.slice (some ⟨(Y.alloc (.cells #[.int .i64 v, .int .i64 e] 104)).heap.size, 0, none⟩) 1 1) [⟨ofI 1, [(v, e)]⟩] ((Y.alloc (.cells #[.int .i64 v, .int .i64 e] 104)).alloc (.cells #[.bool (ofI 1).neg, vz, .slice (some ⟨Y.heap.size, 0, none⟩) 1 1] 76)) 1000000
    (one_terms (t := ⟨ofI 1, [(v, e)]⟩) ((hz.ext (Ext.alloc (Ext.refl Y) _) (fun _ h => h)).to (Kept.refl _ _) (fun k h => Nat.lt_of_lt_of_le h (Ext.alloc (Ext.refl Y) _).size)) (one_pows (w := Y) (by unfold inI64; omega) (by unfold inI64; omega) 104) 76) (fun _ h => h) (fun t ht => by rw [List.mem_singleton.1 ht]; show (ofI 1).mag.length ≤ _; rw [ofI_len]; exact Nat.le_trans (lenI_small (by decide)) (by decide)) (by decide) (by simp) (by unfold mayMs; simp [hm]))
  have e1 : toP [⟨ofI 1, [(v, e)]⟩] = [(1, [(v, e)])] := by unfold toP; simp [valI_ofI]
  have e2 : normP [(1, [(v, e)])] = [(1, [(v, e)])] := by rw [norm_one]; rfl
  simp only [e1, e2] at CF
  unfold OkPoly at CF
  clear e1 e2 hm
  go_enter Tryz.func42, Tryz.ntmps42
  go_wp2_with fail
  with_reducible refine CO.out.mono ?_
  rintro e w1 ⟨v1, rfl, ⟨vz, rfl, hz⟩, hx1⟩
  have HX1 := hid hx1
  have CF1 := hid (CF.out w1 vz (hz.to (Kept.refl _ _) New.lt))
  rw [size_alloc] at CF1
  obtain ⟨az, cz, rfl⟩ := hz.form
  clear hz hx1
  go_wp2_with fail
  with_reducible refine CF1.out.mono ?_
  rintro e w2 ⟨v2, rfl, hp2, hx2⟩
  have HX2 := hid (((HX1.out.alloc _).alloc _).trans hx2)
  have HP2 := hid (hp2.to (S' := New W w2) (Kept.refl _ _) (fun k h => ⟨Nat.le_trans ((HX1.out.alloc _).alloc _).size h.1, h.2⟩))
  clear hp2 hx2
  go_wp2
  all_goals
    go_ret2
    exact ⟨_, rfl, HP2.out, HX2.out⟩
end Go.Proofs.YthplgldclilccaaGreat

namespace Go.Proofs.YthplgldclilccaaGreat
open Go.RowKit Go.Sort

section
variable {α : Type} [Inhabited α] {pc : α → PCell} {w : World} {b o : Nat} {cf : α → α → Int} {le : α → α → Bool}

abbrev CmpP (g : Nat) (pc : α → PCell) (cf : α → α → Int) (w : World) (b : Nat) : Prop :=
  ∀ W, w.grownBy W (some b) → ∀ x y : α, Calls Tryz.prog g #[.slice (pc x).a (pc x).n (pc x).c, .slice (pc y).a (pc y).n (pc y).c] W fun e w' => e = .returned (.int .i64 (cf x y)) ∧ Ext W w'
set_option maxRecDepth 100000 in
set_option maxHeartbeats 4000000 in
theorem insertion_p (cap : Nat) (P X T : List α) (W : World) (hc : CmpP 47 pc cf w b) (hl : CmpLe cf le) (h : SortAt (encP pc) 1 w b o (P ++ X ++ T) W) (_hcap : (P ++ X ++ T).length ≤ cap) (hcap2 : (P ++ X ++ T).length ≤ 1000000000000) :
    Calls Tryz.prog 129 #[.slice (some ⟨b, o, none⟩) (P ++ X ++ T).length cap, .int .i64 P.length, .int .i64 (P.length + X.length : Nat), .func (.func 47) #[] #[]] W
      fun e w' => e = .returned (.tuple #[]) ∧ SortAt (encP pc) 1 w b o (P ++ sortL le X ++ T) w' := by
  have H := hid h
  have HC := hid hc
  have HL := hid hl
  clear h hc hl
  obtain ⟨n, hn⟩ : ∃ n, n = (P ++ X ++ T).length := ⟨_, rfl⟩
  obtain ⟨m, hm⟩ : ∃ m, m = P.length + X.length := ⟨_, rfl⟩
  obtain ⟨a, ha⟩ : ∃ a, a = P.length := ⟨_, rfl⟩
  rw [← hn] at _hcap hcap2 ⊢
  rw [← hm, ← ha]
  have hmn : m ≤ n := by rw [hm, hn]; simp
  have ham : a ≤ m := by rw [ha, hm]; simp
  have HN := hid hn
  have HA := hid ha
  have HM := hid hm
  clear hn ha hm
  cases X with
  | nil =>
    obtain rfl : m = a := by rw [HM.out, HA.out]; simp
    go_enter Tryz.func129, Tryz.ntmps129
    go_wp2
    refine wp_loop_rounds 1 ?_
    rw [rounds_succ]
    go_wp2
    go_end0
    exact ⟨rfl, H.out⟩
  | cons x0 X =>
    have ham : a < m := by rw [HA.out, HM.out]; simp
    go_enter Tryz.func129, Tryz.ntmps129
    go_wp2
    go_loopw [8] (fun vi wr => ∃ (i : Nat) (X1 X2 : List α), vi = .int .i64 i ∧ a < i ∧ i ≤ m ∧ Hid (i = a + X1.length) ∧ Hid (x0 :: X = X1 ++ X2) ∧ SortAt (encP pc) 1 w b o (P ++ sortL le X1 ++ X2 ++ T) wr) (fun vi _ => m - (intOf vi).toNat)
    case atStart => exact ⟨a + 1, [x0], X, by go_num, by omega, by omega, rfl, rfl, by rw [sortL_one]; simpa using H.out⟩
    case round =>
      obtain ⟨i, X1, X2, rfl, hai, him, HI, HX, hs⟩ := hrel
      have HS := hid hs
      clear hs
      by_cases hlt : i < m
      · cases X2 with
        | nil =>
          exfalso
          have h1 := HI.out
          have h2 := congrArg List.length HX.out
          have h3 := HM.out
          have h4 := HA.out
          simp at h2 h3
          omega
        | cons x X2 =>
          go_wp2
          go_loopw [9] (fun vj wr2 => ∃ (j : Nat) (S1 S2 : List α), vj = .int .i64 j ∧ a ≤ j ∧ j ≤ i ∧ Hid (j = a + S1.length) ∧ Hid (sortL le X1 = S1 ++ S2) ∧ Hid (∀ y ∈ S2, le y x = false) ∧ SortAt (encP pc) 1 w b o (P ++ S1 ++ x :: S2 ++ X2 ++ T) wr2) (fun vj _ => (intOf vj).toNat)
          case atStart => exact ⟨i, sortL le X1, [], rfl, by omega, Nat.le_refl _, by rw [HI.out, sortL_len]; rfl, by show _ = _; simp, fun y hy => by simp at hy, by simpa using HS.out⟩
          case round =>
            obtain ⟨j, S1, S2, rfl, haj, hji, HJ, HSS, HS2, hs2⟩ := hrel
            rcases (show S1 = [] ∨ ∃ L z, S1 = L ++ [z] by simpa using List.eq_nil_or_concat S1) with rfl | ⟨S1', y, rfl⟩
            · obtain rfl : j = a := by rw [HJ.out]; rfl
              have hb : decide ((j : Int) > (j : Int)) = false := by simp
              have HD := hid hs2
              clear hs2
              go_wp2
              refine wp_region_later (by kernel_rfl) (by kernel_rfl) ?_
              repeat (go_big_quiet_step (fail))
              refine wpQuiet_nil ?_
              intro W2 hW2
              have HD2 := hid (HD.out.later hW2)
              clear hW2
              go_wp2
              go_roundw
              case rel =>
                refine ⟨i + 1, X1 ++ [x], X2, by go_num, by omega, by omega, ?_, ?_, ?_⟩
                · show _ = _; have := HI.out; simp; omega
                · show _ = _; rw [HX.out]; simp
                · have e := mergeL_put (le := le) (S1 := []) (S2 := S2) (x := x) (by simp) HS2.out
                  rw [sortL_append HL.out.total, sortL_one, HSS.out, e]
                  have := HD2.out
                  simpa using this
              case measure => simp [intOf]; omega
            · obtain ⟨jp, rfl⟩ : ∃ jp, j = jp + 1 := ⟨j - 1, by have := HJ.out; simp at this; omega⟩
              have hj : jp = (P ++ S1').length := by have := HJ.out; have := HA.out; simp at *; omega
              have hjn : jp + 1 < n := by omega
              have g0 : (P ++ (S1' ++ [y]) ++ x :: S2 ++ X2 ++ T)[jp]? = some y := by rw [hj]; simp
              have g1 : (P ++ (S1' ++ [y]) ++ x :: S2 ++ X2 ++ T)[jp + 1]? = some x := by
                rw [show jp + 1 = (P ++ S1' ++ [y]).length by simp [hj, Nat.add_assoc], show P ++ (S1' ++ [y]) ++ x :: S2 ++ X2 ++ T = (P ++ S1' ++ [y]) ++ (x :: (S2 ++ X2 ++ T)) by simp]
                exact at_len _ _ _
              have HD := hid hs2
              have HG := hid (And.intro g0 g1)
              have HJP := hid hj
              have L0 := fun Y : Later wr => (hs2.later Y.h).get1 g0
              have L1 := fun Y : Later wr => (hs2.later Y.h).get1 g1
              have LC := fun Y : Later wr => HC.out Y.w' (hs2.later Y.h).grown x y
              have a0 := fun Y => (L0 Y).1
              have b0 := fun Y => (L1 Y).1
              obtain ⟨r1, r2⟩ := HL.out.range x y
              have HLE := hid (HL.out.eq x y)
              generalize cf x y = c at *
              have HLC := hid LC
              clear L0 L1 LC hs2 g0 g1 hj
              by_cases hcc : c < 0
              · have hle : le y x = false := by rw [HLE.out]; exact decide_eq_false (by omega)
                have HLF := hid hle
                clear hle
                have q1 : (a : Int) < (jp : Int) + 1 := by have := HJ.out; simp at this; omega
                have q2 : (jp : Int) + 1 < (n : Int) := by omega
                have q3 : (jp : Int) < (n : Int) := by omega
                have q4 : (0 : Int) ≤ (jp : Int) + 1 := by omega
                have q5 : ((jp : Int) + 1).toNat = jp + 1 := by omega
                have q6 : IntKind.i64.wrap (jp : Int) = (jp : Int) := by rw [IntKind.wrap_i64]; omega
                go_wp2
                refine wp_region_later (by kernel_rfl) (by kernel_rfl) ?_
                repeat (go_big_quiet_step (first | (go_at_call 47; exact Later.done (HLC.out _))))
                refine wpQuiet_nil ?_
                intro W2 hW2
                clear a0 b0
                have HD2 := hid (HD.out.later hW2)
                clear hW2
                obtain ⟨c0, f0⟩ := HD2.out.get1 HG.out.1
                obtain ⟨d0, k0⟩ := HD2.out.get1 HG.out.2
                have HD3 := hid (HD2.out.swap1 HG.out.2 HG.out.1 (d' := P ++ S1' ++ x :: (y :: S2) ++ X2 ++ T) (by
                  have e := swp_down (P ++ S1') [] (S2 ++ X2 ++ T) y x
                  simp only [List.append_assoc, List.cons_append, List.nil_append, List.length_nil, Nat.add_zero] at e ⊢
                  rw [HJP.out]
                  exact e))
                go_wp2
                go_big_region
                all_goals go_wp2
                go_roundw
                case rel =>
                  refine ⟨jp, S1', y :: S2, rfl, ?_, by omega, ?_, ?_, ?_, ?_⟩
                  · have := HJ.out; simp at this; omega
                  · have := HJ.out; simp at this; show _ = _; omega
                  · show _ = _; rw [HSS.out]; simp
                  · intro z hz
                    rcases List.mem_cons.1 hz with rfl | hz
                    · exact HLF.out
                    · exact HS2.out z hz
                  · exact HD3.out.drew
                case measure => simp [intOf]
              · have hle : le y x = true := by rw [HLE.out]; exact decide_eq_true (by omega)
                have HLT := hid hle
                clear hle
                have q1 : (a : Int) < (jp : Int) + 1 := by have := HJ.out; simp at this; omega
                have q2 : (jp : Int) + 1 < (n : Int) := by omega
                have q3 : (jp : Int) < (n : Int) := by omega
                have q4 : (0 : Int) ≤ (jp : Int) + 1 := by omega
                have q5 : ((jp : Int) + 1).toNat = jp + 1 := by omega
                have q6 : IntKind.i64.wrap (jp : Int) = (jp : Int) := by rw [IntKind.wrap_i64]; omega
                have q7 : ¬ c < 0 := hcc
                go_wp2
                refine wp_region_later (by kernel_rfl) (by kernel_rfl) ?_
                repeat (go_big_quiet_step (first | (go_at_call 47; exact Later.done (HLC.out _))))
                refine wpQuiet_nil ?_
                intro W2 hW2
                clear a0 b0
                have HD2 := hid (HD.out.later hW2)
                clear hW2
                go_wp2
                go_roundw
                case rel =>
                  refine ⟨i + 1, X1 ++ [x], X2, by go_num, by omega, by omega, ?_, ?_, ?_⟩
                  · show _ = _; have := HI.out; simp; omega
                  · show _ = _; rw [HX.out]; simp
                  · have e := mergeL_put (le := le) (S1 := S1' ++ [y]) (S2 := S2) (x := x) (by
                      refine SortedL.last HL.out.total ?_ HLT.out
                      have := sortL_sorted HL.out.total X1
                      rw [HSS.out] at this
                      exact (List.pairwise_append.1 this).1) HS2.out
                    rw [sortL_append HL.out.total, sortL_one, HSS.out, e]
                    have := HD2.out
                    simpa using this
                case measure => simp [intOf]; omega
      · obtain rfl : i = m := by omega
        have hX2 : X2 = [] := by
          have h1 := HI.out
          have h2 := congrArg List.length HX.out
          have h3 := HM.out
          have h4 := HA.out
          simp at h2 h3
          exact List.length_eq_zero_iff.1 (by omega)
        subst hX2
        have HF : Hid (SortAt (encP pc) 1 w b o (P ++ sortL le (x0 :: X) ++ T) wr) := by
          have h1 := HS.out
          have h2 := HX.out
          rw [List.append_nil] at h2
          rw [h2]
          exact hid (by simpa using h1)
        go_wp2
        go_end0
        exact ⟨rfl, HF.out⟩
end
end Go.Proofs.YthplgldclilccaaGreat

namespace Go.Proofs.YthplgldclilccaaGreat
open Go.RowKit Go.Sort

section
variable {α : Type} [Inhabited α] {pc : α → PCell} {w : World} {b o : Nat}

set_option maxRecDepth 100000 in
set_option maxHeartbeats 4000000 in
theorem swap_range_p (cap : Nat) (P U M V Q : List α) (n : Nat) (cv : Value) (W : World) (hu : U.length = n) (hv : V.length = n) (h : SortAt (encP pc) 1 w b o (P ++ U ++ M ++ V ++ Q) W) (_hcap : (P ++ U ++ M ++ V ++ Q).length ≤ cap) (hcap2 : (P ++ U ++ M ++ V ++ Q).length ≤ 1000000000000) :
    Calls Tryz.prog 154 #[.slice (some ⟨b, o, none⟩) (P ++ U ++ M ++ V ++ Q).length cap, .int .i64 P.length, .int .i64 (P.length + n + M.length : Nat), .int .i64 n, cv] W
      fun e w' => e = .returned (.tuple #[]) ∧ SortAt (encP pc) 1 w b o (P ++ V ++ M ++ U ++ Q) w' := by
  have H := hid h
  have HU := hid hu
  have HV := hid hv
  clear h
  obtain ⟨l, hl⟩ : ∃ l, l = (P ++ U ++ M ++ V ++ Q).length := ⟨_, rfl⟩
  obtain ⟨m, hm⟩ : ∃ m, m = P.length + n + M.length := ⟨_, rfl⟩
  obtain ⟨a, ha⟩ : ∃ a, a = P.length := ⟨_, rfl⟩
  rw [← hl] at _hcap hcap2 ⊢
  rw [← hm, ← ha]
  have hmn : m + n ≤ l := by rw [hm, hl]; simp; omega
  have ham : a + n ≤ m := by rw [ha, hm]; omega
  have HL := hid hl
  have HA := hid ha
  have HM := hid hm
  clear hl ha hm hu hv
  go_enter Tryz.func154, Tryz.ntmps154
  go_wp2
  go_loopw [10] (fun vi wr => ∃ (i : Nat) (U1 U2 V1 V2 : List α), vi = .int .i64 i ∧ i ≤ n ∧ Hid (i = U1.length) ∧ Hid (i = V1.length) ∧ Hid (U = U1 ++ U2) ∧ Hid (V = V1 ++ V2) ∧ SortAt (encP pc) 1 w b o (P ++ V1 ++ U2 ++ M ++ U1 ++ V2 ++ Q) wr) (fun vi _ => n - (intOf vi).toNat)
  case atStart => exact ⟨0, [], U, [], V, rfl, by omega, rfl, rfl, rfl, rfl, by simpa using H.out⟩
  case round =>
    obtain ⟨i, U1, U2, V1, V2, rfl, hin, HI, HI2, HUU, HVV, hs⟩ := hrel
    have HS := hid hs
    clear hs
    by_cases hlt : i < n
    · cases U2 with
      | nil =>
        exfalso
        have h1 := HI.out
        have h2 := HU.out
        rw [HUU.out] at h2
        simp at h2
        omega
      | cons x U2 =>
        cases V2 with
        | nil =>
          exfalso
          have h1 := HI2.out
          have h2 := HV.out
          rw [HVV.out] at h2
          simp at h2
          omega
        | cons y V2 =>
          have hx : a + i = (P ++ V1).length := by have := HA.out; have := HI2.out; simp; omega
          have hy : m + i = (P ++ V1).length + 1 + (U2 ++ M ++ U1).length := by
            have h1 := HI.out
            have h2 := HU.out
            have h3 := HM.out
            have h4 := HI2.out
            rw [HUU.out] at h2
            simp at h2 ⊢
            omega
          have g0 : (P ++ V1 ++ x :: U2 ++ M ++ U1 ++ y :: V2 ++ Q)[a + i]? = some x := by
            rw [hx, show P ++ V1 ++ x :: U2 ++ M ++ U1 ++ y :: V2 ++ Q = (P ++ V1) ++ x :: (U2 ++ M ++ U1 ++ y :: V2 ++ Q) by simp]
            exact at_len _ _ _
          have g1 : (P ++ V1 ++ x :: U2 ++ M ++ U1 ++ y :: V2 ++ Q)[m + i]? = some y := by
            rw [hy, show (P ++ V1).length + 1 + (U2 ++ M ++ U1).length = (P ++ V1 ++ x :: U2 ++ M ++ U1).length by simp; omega, show P ++ V1 ++ x :: U2 ++ M ++ U1 ++ y :: V2 ++ Q = (P ++ V1 ++ x :: U2 ++ M ++ U1) ++ y :: (V2 ++ Q) by simp]
            exact at_len _ _ _
          obtain ⟨c0, f0⟩ := HS.out.get1 g0
          obtain ⟨d0, k0⟩ := HS.out.get1 g1
          have HD := hid (HS.out.swap1 g0 g1 (d' := P ++ V1 ++ y :: U2 ++ M ++ U1 ++ x :: V2 ++ Q) (by
            have e := swp_up (P ++ V1) (U2 ++ M ++ U1) (V2 ++ Q) x y
            rw [hx, hy]
            simp only [List.append_assoc, List.cons_append] at e ⊢
            exact e))
          clear g0 g1 hx hy
          have q1 : (a : Int) + (i : Int) < (l : Int) := by omega
          have q2 : (m : Int) + (i : Int) < (l : Int) := by omega
          have q3 : (0 : Int) ≤ (a : Int) + (i : Int) := by omega
          have q4 : (0 : Int) ≤ (m : Int) + (i : Int) := by omega
          have q5 : ((a : Int) + (i : Int)).toNat = a + i := by omega
          have q6 : ((m : Int) + (i : Int)).toNat = m + i := by omega
          go_wp2
          go_big_region
          all_goals go_wp2
          go_roundw
          case rel =>
            refine ⟨i + 1, U1 ++ [x], U2, V1 ++ [y], V2, by go_num, by omega, ?_, ?_, ?_, ?_, ?_⟩
            · show _ = _; rw [HI.out]; simp
            · show _ = _; rw [HI2.out]; simp
            · show _ = _; rw [HUU.out]; simp
            · show _ = _; rw [HVV.out]; simp
            · have := HD.out.drew
              simpa using this
          case measure => simp [intOf]; omega
    · obtain rfl : i = n := by omega
      have h1 : U2 = [] := by
        have h1 := HI.out
        have h2 := HU.out
        rw [HUU.out] at h2
        simp at h2
        exact List.length_eq_zero_iff.1 (by omega)
      have h2 : V2 = [] := by
        have h1 := HI2.out
        have h2 := HV.out
        rw [HVV.out] at h2
        simp at h2
        exact List.length_eq_zero_iff.1 (by omega)
      subst h1 h2
      have HF : Hid (SortAt (encP pc) 1 w b o (P ++ V ++ M ++ U ++ Q) wr) := by
        have := HS.out
        rw [HUU.out, HVV.out]
        exact hid (by simpa using this)
      go_wp2
      go_end0
      exact ⟨rfl, HF.out⟩

theorem swap_range_p' {cap l : Nat} {za zb zn : Int} {cv : Value} {cur : List α} (P U M V Q : List α) (W : World) (hcur : cur = P ++ U ++ M ++ V ++ Q) (hl : l = cur.length) (hza : za = P.length) (hzb : zb = P.length + U.length + M.length) (hzn : zn = U.length) (hv : V.length = U.length)
    (h : SortAt (encP pc) 1 w b o cur W) (hcap : l ≤ cap) (hcap2 : l ≤ 1000000000000) :
    Calls Tryz.prog 154 #[.slice (some ⟨b, o, none⟩) l cap, .int .i64 za, .int .i64 zb, .int .i64 zn, cv] W
      fun e w' => e = .returned (.tuple #[]) ∧ SortAt (encP pc) 1 w b o (P ++ V ++ M ++ U ++ Q) w' := by
  subst hcur hl hza hzn
  obtain rfl : zb = ((P.length + U.length + M.length : Nat) : Int) := by rw [hzb]; omega
  exact swap_range_p cap P U M V Q U.length cv W rfl hv h hcap hcap2

set_option maxRecDepth 100000 in
set_option maxHeartbeats 4000000 in
theorem rotate_p {cap l : Nat} {za zm zb : Int} {cv : Value} {cur : List α} (P X Y Q : List α) (W : World) (hcur : cur = P ++ X ++ Y ++ Q) (hl : l = cur.length) (hza : za = P.length) (hzm : zm = P.length + X.length) (hzb : zb = P.length + X.length + Y.length)
    (h : SortAt (encP pc) 1 w b o cur W) (hx : X ≠ []) (hy : Y ≠ []) (hcap : l ≤ cap) (hcap2 : l ≤ 1000000000000) :
    Calls Tryz.prog 147 #[.slice (some ⟨b, o, none⟩) l cap, .int .i64 za, .int .i64 zm, .int .i64 zb, cv] W
      fun e w' => e = .returned (.tuple #[]) ∧ SortAt (encP pc) 1 w b o (P ++ Y ++ X ++ Q) w' := by
  have hx0 : 0 < X.length := List.length_pos_iff.2 hx
  have hy0 : 0 < Y.length := List.length_pos_iff.2 hy
  have H := hid h
  obtain ⟨m, hm⟩ : ∃ m, m = P.length + X.length := ⟨_, rfl⟩
  obtain ⟨a, ha⟩ : ∃ a, a = P.length := ⟨_, rfl⟩
  obtain ⟨i0, hi0⟩ : ∃ a, a = X.length := ⟨_, rfl⟩
  obtain ⟨j0, hj0⟩ : ∃ a, a = Y.length := ⟨_, rfl⟩
  obtain rfl : za = a := by omega
  obtain rfl : zm = m := by omega
  obtain ⟨B, hB⟩ : ∃ B, B = m + j0 := ⟨_, rfl⟩
  obtain rfl : zb = (B : Int) := by omega
  have HB := hid hB
  have hmB : m ≤ B := by omega
  have hBl : B ≤ l := by rw [hl, hcur, hB, hm, hj0]; simp; omega
  have hml : m + j0 ≤ l := by rw [hl, hcur, hm, hj0]; simp; omega
  have ham : m = a + i0 := by omega
  have HM := hid ham
  have HLL := hid hl
  have HCUR := hid hcur
  have HAA := hid ha
  have HII := hid hi0
  have HJJ := hid hj0
  have hai : a ≤ m := by omega
  have hi1 : 1 ≤ i0 := by omega
  have hj1 : 1 ≤ j0 := by omega
  have w1 : IntKind.i64.wrap ((m : Int) - (a : Int)) = (i0 : Int) := by rw [IntKind.wrap_i64]; omega
  have W1 := hid w1
  clear h hx hy hx0 hy0 hza hzm hzb hl hcur ha hi0 hj0 hm ham w1 hB
  go_enter Tryz.func147, Tryz.ntmps147
  go_wp2
  go_loopw [10, 11] (fun vi vj wr => ∃ (i j : Nat) (P' X' Y' Q' : List α), vi = .int .i64 i ∧ vj = .int .i64 j ∧ 1 ≤ i ∧ 1 ≤ j ∧ i ≤ m ∧ m + j ≤ l ∧ Hid (i = X'.length) ∧ Hid (j = Y'.length) ∧ Hid (m = P'.length + X'.length) ∧ Hid (P' ++ Y' ++ X' ++ Q' = P ++ Y ++ X ++ Q) ∧ SortAt (encP pc) 1 w b o (P' ++ X' ++ Y' ++ Q') wr) (fun vi vj _ => (intOf vi).toNat + (intOf vj).toNat)
  case atStart => exact ⟨i0, j0, P, X, Y, Q, by have := HM.out; congr 1; omega, by have := HB.out; congr 1; omega, hi1, hj1, by have := HM.out; omega, hml, HII.out, HJJ.out, by show _ = _; rw [HM.out, HAA.out, HII.out], rfl, by have := H.out; rw [HCUR.out] at this; exact this⟩
  case round =>
    obtain ⟨i, j, P', X', Y', Q', rfl, rfl, hi, hj, him, hmj, HI, HJ, HMM, HE, hs⟩ := hrel
    have HS := hid hs
    have HLC : Hid (l = (P' ++ X' ++ Y' ++ Q').length) := hid (by
      have h1 := HLL.out
      have h2 := congrArg List.length HE.out
      rw [HCUR.out] at h1
      simp at h1 h2 ⊢
      omega)
    clear hs
    rcases (show i = j ∨ j < i ∨ i < j by omega) with rfl | hlt | hlt
    · have C := hid (swap_range_p' (cap := cap) (l := l) (za := (m : Int) - (i : Int)) (zb := m) (zn := i) (cv := cv) P' X' [] Y' Q' wr (by simp) HLC.out (by have := HMM.out; have := HI.out; omega) (by have := HMM.out; simp; omega) (by have := HI.out; omega) (by rw [← HI.out, ← HJ.out]) HS.out hcap hcap2)
      have q0 : ((i : Int) != (i : Int)) = false := by simp
      go_wp2_with fail
      refine C.out.mono ?_
      rintro e w2 ⟨rfl, hs2⟩
      have HF := hid hs2
      clear hs2
      go_wp2
      go_end0
      refine ⟨rfl, ?_⟩
      have := HF.out
      rw [← HE.out]
      simpa using this
    · obtain ⟨X1, X2, hX, hX1⟩ : ∃ X1 X2, X' = X1 ++ X2 ∧ X1.length = j := ⟨X'.take j, X'.drop j, (List.take_append_drop j X').symm, by rw [List.length_take]; have := HI.out; omega⟩
      subst hX
      have HX1 := hid hX1
      clear hX1
      have C := hid (swap_range_p' (cap := cap) (l := l) (za := (m : Int) - (i : Int)) (zb := m) (zn := j) (cv := cv) P' X1 X2 Y' Q' wr (by simp) HLC.out (by have := HMM.out; have := HI.out; omega) (by have := HMM.out; simp at this; omega) (by have := HX1.out; omega) (by rw [HX1.out, ← HJ.out]) HS.out hcap hcap2)
      have q0 : ((i : Int) != (j : Int)) = true := by simp; omega
      have q1 : (i : Int) > (j : Int) := by omega
      go_wp2_with fail
      refine C.out.mono ?_
      rintro e w2 ⟨rfl, hs2⟩
      have HF := hid hs2
      clear hs2
      go_wp2
      go_roundw
      case rel =>
        refine ⟨i - j, j, P' ++ Y', X2, X1, Q', by congr 1; omega, rfl, by omega, hj, by omega, hmj, ?_, ?_, ?_, ?_, ?_⟩
        · show _ = _; have := HI.out; have := HX1.out; simp at *; omega
        · exact HX1.out.symm
        · show _ = _; have := HMM.out; have := HX1.out; have := HJ.out; simp at *; omega
        · show _ = _; rw [← HE.out]; simp
        · have := HF.out
          simpa using this
      case measure => simp [intOf]; omega
    · obtain ⟨Y1, Y2, hY, hY2⟩ : ∃ Y1 Y2, Y' = Y1 ++ Y2 ∧ Y2.length = i := ⟨Y'.take (j - i), Y'.drop (j - i), (List.take_append_drop _ Y').symm, by rw [List.length_drop]; have := HJ.out; omega⟩
      subst hY
      have HY2 := hid hY2
      clear hY2
      have C := hid (swap_range_p' (cap := cap) (l := l) (za := (m : Int) - (i : Int)) (zb := (m : Int) + (j : Int) - (i : Int)) (zn := i) (cv := cv) P' X' Y1 Y2 Q' wr (by simp) HLC.out (by have := HMM.out; have := HI.out; omega) (by have := HMM.out; have := HJ.out; have := HY2.out; simp at *; omega) (by have := HI.out; omega) (by rw [HY2.out, ← HI.out]) HS.out hcap hcap2)
      have q0 : ((i : Int) != (j : Int)) = true := by simp; omega
      have q1 : ¬ (i : Int) > (j : Int) := by omega
      go_wp2_with fail
      refine C.out.mono ?_
      rintro e w2 ⟨rfl, hs2⟩
      have HF := hid hs2
      clear hs2
      go_wp2
      go_roundw
      case rel =>
        refine ⟨i, j - i, P', Y2, Y1, X' ++ Q', rfl, by congr 1; omega, hi, by omega, him, by omega, ?_, ?_, ?_, ?_, ?_⟩
        · exact HY2.out.symm
        · show _ = _; have := HJ.out; have := HY2.out; simp at *; omega
        · show _ = _; have := HMM.out; have := HY2.out; have := HI.out; omega
        · show _ = _; rw [← HE.out]; simp
        · have := HF.out
          simpa using this
      case measure => simp [intOf]; omega
end
end Go.Proofs.YthplgldclilccaaGreat

namespace Go.Proofs.YthplgldclilccaaGreat
open Go.RowKit Go.Sort

section
variable {α : Type} [Inhabited α] {pc : α → PCell} {w : World} {b o : Nat} {cf : α → α → Int} {le : α → α → Bool}

set_option maxRecDepth 100000 in
set_option maxHeartbeats 4000000 in
theorem sym_one_p {cap l : Nat} {a m e : Nat} (P B T : List α) (x : α) (cur : List α) (W : World) (hc : CmpP 47 pc cf w b) (hcl : CmpLe cf le) (hcur : cur = P ++ x :: B ++ T) (hl : l = cur.length) (ha : a = P.length) (hm : m = a + 1) (he : e = a + 1 + B.length)
    (h : SortAt (encP pc) 1 w b o cur W) (hB : SortedL le B) (_hcap : l ≤ cap) (hcap2 : l ≤ 1000000000000) :
    Calls Tryz.prog 130 #[.slice (some ⟨b, o, none⟩) l cap, .int .i64 a, .int .i64 m, .int .i64 e, .func (.func 47) #[] #[]] W
      fun r w' => r = .returned (.tuple #[]) ∧ SortAt (encP pc) 1 w b o (P ++ mergeL le [x] B ++ T) w' := by
  have H := hid h
  have HC := hid hc
  have HL := hid hcl
  have HCUR := hid hcur
  have HLL := hid hl
  have HA := hid ha
  have hml : e ≤ l := by rw [hl, hcur, he, ha]; simp; omega
  have hae : m ≤ e := by omega
  have HM := hid hm
  have HE := hid he
  clear h hc hcl hcur hl ha he
  have hm1 : m ≤ a + 1 := by omega
  have hm2 : a + 1 ≤ m := by omega
  have q0 : ((m : Int) - (a : Int) == 1) = true := by rw [beq_iff_eq]; omega
  clear hm
  have gx : cur[a]? = some x := by rw [HCUR.out, HA.out, show P ++ x :: B ++ T = P ++ x :: (B ++ T) by simp]; exact at_len _ _ _
  have HGX := hid gx
  clear gx
  go_enter Tryz.func130, Tryz.ntmps130
  go_wp2
  go_loopw [10, 11] (fun vi vj wr => ∃ i j : Nat, vi = .int .i64 i ∧ vj = .int .i64 j ∧ m ≤ i ∧ i ≤ j ∧ j ≤ e ∧ Hid (i = m ∨ ∃ z, cur[i - 1]? = some z ∧ le x z = false) ∧ Hid (j = e ∨ ∃ z, cur[j]? = some z ∧ le x z = true) ∧ SortAt (encP pc) 1 w b o cur wr) (fun vi vj _ => (intOf vj).toNat - (intOf vi).toNat)
  case atStart => exact ⟨m, e, rfl, rfl, Nat.le_refl _, hae, Nat.le_refl _, .inl rfl, .inl rfl, H.out⟩
  case round =>
    obtain ⟨i, j, rfl, rfl, hmi, hij, hje, HI, HJ, hs⟩ := hrel
    have HS := hid hs
    by_cases hlt : i < j
    · obtain ⟨h, hh⟩ : ∃ h, h = (i + j) / 2 := ⟨_, rfl⟩
      have hh1 : i ≤ h := by omega
      have hh2 : h < j := by omega
      obtain ⟨z, hz⟩ := some_of_lt (l := cur) (j := h) (by rw [← HLL.out]; omega)
      have HZ := hid hz
      have q1 : ((i : Int) + (j : Int)) / 2 = (h : Int) := by omega
      have L0 := fun Y : Later wr => (hs.later Y.h).get1 hz
      have L1 := fun Y : Later wr => (hs.later Y.h).get1 HGX.out
      have LC := fun Y : Later wr => HC.out Y.w' (hs.later Y.h).grown z x
      have a0 := fun Y => (L0 Y).1
      have b0 := fun Y => (L1 Y).1
      obtain ⟨r1, r2⟩ := HL.out.range z x
      have HLE := hid (HL.out.eq z x)
      have HH := hid hh
      generalize cf z x = c at *
      have HLC := hid LC
      clear L0 L1 LC hs hz hh
      have q2 : (h : Int) < (l : Int) := by omega
      have q3 : (a : Int) < (l : Int) := by omega
      by_cases hcc : c < 0
      · go_wp2
        refine wp_region_later (by kernel_rfl) (by kernel_rfl) ?_
        repeat (go_big_quiet_step (first | (go_at_call 47; exact Later.done (HLC.out _))))
        refine wpQuiet_nil ?_
        intro W2 hW2
        clear a0 b0
        have HD2 := hid (HS.out.later hW2)
        clear hW2
        go_wp2
        go_roundw
        case rel =>
          refine ⟨h + 1, j, by go_num, rfl, by omega, by omega, hje, .inr ⟨z, by rw [Nat.add_sub_cancel]; exact HZ.out, ?_⟩, HJ, HD2.out⟩
          rw [HLE.out]; exact decide_eq_false (by omega)
        case measure => simp only [intOf]; omega
      · have q4 : ¬ c < 0 := hcc
        go_wp2
        refine wp_region_later (by kernel_rfl) (by kernel_rfl) ?_
        repeat (go_big_quiet_step (first | (go_at_call 47; exact Later.done (HLC.out _))))
        refine wpQuiet_nil ?_
        intro W2 hW2
        clear a0 b0
        have HD2 := hid (HS.out.later hW2)
        clear hW2
        go_wp2
        go_roundw
        case rel =>
          refine ⟨i, h, rfl, rfl, hmi, hh1, by omega, HI, .inr ⟨z, HZ.out, ?_⟩, HD2.out⟩
          rw [HLE.out]; exact decide_eq_true (by omega)
        case measure => simp only [intOf]; omega
    · obtain rfl : i = j := by omega
      obtain ⟨t, ht⟩ : ∃ t, t = i - m := ⟨_, rfl⟩
      have htB : t ≤ B.length := by have := HE.out; omega
      have hcur' : ∀ k, k < B.length → cur[m + k]? = B[k]? := fun k hk => by
        rw [HCUR.out, show P ++ x :: B ++ T = (P ++ [x]) ++ B ++ T by simp]
        exact mid_at (by have := HA.out; simp; omega) hk
      have e1 := cut_low HL.out.total hB (x := x) (t := t) (by
        rcases HI.out with h | ⟨z, h1, h2⟩
        · exact .inl (by omega)
        · rcases (show t = 0 ∨ 0 < t by omega) with h0 | h0
          · exact .inl h0
          · refine .inr ⟨z, ?_, h2⟩
            rw [← hcur' _ (by omega), ← h1]
            congr 1
            omega)
      have e2 := cut_high HL.out.total hB (x := x) (t := t) (by
        rcases HJ.out with h | ⟨z, h1, h2⟩
        · exact .inl (by have := HE.out; omega)
        · rcases (show t = B.length ∨ t < B.length by omega) with h0 | h0
          · exact .inl h0
          · refine .inr ⟨z, ?_, h2⟩
            rw [← hcur' _ h0, ← h1]
            congr 1
            omega)
      have hmg := mergeL_put' e1 e2
      rw [List.take_append_drop] at hmg
      have HMG := hid hmg
      have hb1 : (B.take t).length = t := by rw [List.length_take]; omega
      have HB := hid (List.take_append_drop t B)
      generalize B.take t = B1 at *
      generalize B.drop t = B2 at *
      have HB1 := hid hb1
      have HT := hid ht
      have hti : i = a + t + 1 := by omega
      have HTI := hid hti
      have hs0 := HS.out
      rw [HCUR.out, ← HB.out] at hs0
      have HS0 := hid hs0
      have hil : i ≤ l := by omega
      clear hs hcur' e1 e2 hmg hb1 ht hti hs0 htB
      go_wp2
      go_loopw [13] (fun vk wr => ∃ (k : Nat) (C1 C2 : List α), vk = .int .i64 k ∧ k < i ∧ Hid (k = a + C1.length) ∧ Hid (B1 = C1 ++ C2) ∧ SortAt (encP pc) 1 w b o (P ++ C1 ++ x :: C2 ++ B2 ++ T) wr) (fun vk _ => i - (intOf vk).toNat)
      case atStart => exact ⟨a, [], B1, rfl, by omega, rfl, rfl, by simpa using HS0.out⟩
      case round =>
        obtain ⟨k, C1, C2, rfl, hki, HK, HC12, hs⟩ := hrel
        have HS := hid hs
        clear hs
        by_cases hlt : k + 1 < i
        · cases C2 with
          | nil =>
            exfalso
            have h1 := HC12.out
            have h2 := HB1.out
            have h3 := HK.out
            have h4 := HTI.out
            rw [h1] at h2
            simp at h2
            omega
          | cons y C2 =>
            have hk := HK.out
            have hk' : k = (P ++ C1).length := by rw [hk, HA.out]; simp
            have g0 : (P ++ C1 ++ x :: (y :: C2) ++ B2 ++ T)[k]? = some x := by
              rw [hk', show P ++ C1 ++ x :: (y :: C2) ++ B2 ++ T = (P ++ C1) ++ x :: (y :: C2 ++ B2 ++ T) by simp]
              exact at_len _ _ _
            have g1 : (P ++ C1 ++ x :: (y :: C2) ++ B2 ++ T)[k + 1]? = some y := by
              rw [hk', show (P ++ C1).length + 1 = (P ++ C1 ++ [x]).length by simp; omega, show P ++ C1 ++ x :: (y :: C2) ++ B2 ++ T = (P ++ C1 ++ [x]) ++ y :: (C2 ++ B2 ++ T) by simp]
              exact at_len _ _ _
            obtain ⟨c0, f0⟩ := HS.out.get1 g0
            obtain ⟨d0, k0⟩ := HS.out.get1 g1
            have HD := hid (HS.out.swap1 g0 g1 (d' := P ++ C1 ++ y :: x :: C2 ++ B2 ++ T) (by
              have e := swp_up (P ++ C1) [] (C2 ++ B2 ++ T) x y
              rw [hk']
              simp only [List.append_assoc, List.cons_append, List.nil_append, List.length_nil, Nat.add_zero] at e ⊢
              exact e))
            clear g0 g1 hk hk'
            have q1 : (k : Int) + 1 < (l : Int) := by omega
            have q2 : (k : Int) < (l : Int) := by omega
            have q3 : (0 : Int) ≤ (k : Int) + 1 := by omega
            have q5 : ((k : Int) + 1).toNat = k + 1 := by omega
            have q6 : (k : Int) < (i : Int) - 1 := by omega
            go_wp2
            go_big_region
            all_goals go_wp2
            go_roundw
            case rel =>
              refine ⟨k + 1, C1 ++ [y], C2, by go_num, hlt, ?_, ?_, ?_⟩
              · show _ = _; have := HK.out; simp; omega
              · show _ = _; rw [HC12.out]; simp
              · have := HD.out.drew
                simpa using this
            case measure => simp only [intOf]; omega
        · have hC2 : C2 = [] := by
            have h1 := HC12.out
            have h2 := HB1.out
            have h3 := HK.out
            have h4 := HTI.out
            rw [h1] at h2
            simp at h2
            exact List.length_eq_zero_iff.1 (by omega)
          subst hC2
          have HF : Hid (SortAt (encP pc) 1 w b o (P ++ mergeL le [x] B ++ T) wr) := by
            have := HS.out
            rw [HMG.out, HC12.out]
            exact hid (by simpa using this)
          have q6 : ¬ (k : Int) < (i : Int) - 1 := by omega
          go_wp2
          (try simp only [Exit.inBlock, Exit.then]); refine bodyPost_ret (results_none rfl _ _ _) rfl ?_
          exact ⟨rfl, by first | (with_reducible exact HF.out) | (rw [← List.append_assoc]; with_reducible exact HF.out)⟩

set_option maxRecDepth 100000 in
set_option maxHeartbeats 4000000 in
theorem sym_last_p {cap l : Nat} {a m e : Nat} (P A T : List α) (x : α) (cur : List α) (W : World) (hc : CmpP 47 pc cf w b) (hcl : CmpLe cf le) (hcur : cur = P ++ A ++ x :: T) (hl : l = cur.length) (ha : a = P.length) (hm : m = a + A.length) (he : e = m + 1) (hA2 : 2 ≤ A.length)
    (h : SortAt (encP pc) 1 w b o cur W) (hA : SortedL le A) (_hcap : l ≤ cap) (hcap2 : l ≤ 1000000000000) :
    Calls Tryz.prog 130 #[.slice (some ⟨b, o, none⟩) l cap, .int .i64 a, .int .i64 m, .int .i64 e, .func (.func 47) #[] #[]] W
      fun r w' => r = .returned (.tuple #[]) ∧ SortAt (encP pc) 1 w b o (P ++ mergeL le A [x] ++ T) w' := by
  have hnot : ∀ (x : Bool) (w : World), (Op.unary .not (.bool x)).run Tryz.prog w = .ok (.bool (!x)) w := fun _ _ => rfl
  have H := hid h
  have HC := hid hc
  have HL := hid hcl
  have HCUR := hid hcur
  have HLL := hid hl
  have HA := hid ha
  have hml : e ≤ l := by rw [hl, hcur, he, hm, ha]; simp; omega
  have hae : a + 2 ≤ m := by omega
  have HM := hid hm
  have hem : m < e := by omega
  have q0 : ((m : Int) - (a : Int) == 1) = false := by rw [beq_eq_false_iff_ne]; omega
  have q00 : ((e : Int) - (m : Int) == 1) = true := by rw [beq_iff_eq]; omega
  have hmm : (P ++ A).length = m := by rw [hm, ha]; simp
  clear h hc hcl hcur hl ha he hm hA2
  have gx : cur[m]? = some x := by rw [HCUR.out, ← hmm]; exact at_len _ _ _
  have HGX := hid gx
  have HMM := hid hmm
  clear gx hmm
  go_enter Tryz.func130, Tryz.ntmps130
  go_wp2
  go_loopw [14, 15] (fun vi vj wr => ∃ i j : Nat, vi = .int .i64 i ∧ vj = .int .i64 j ∧ a ≤ i ∧ i ≤ j ∧ j ≤ m ∧ Hid (i = a ∨ ∃ z, cur[i - 1]? = some z ∧ le z x = true) ∧ Hid (j = m ∨ ∃ z, cur[j]? = some z ∧ le z x = false) ∧ SortAt (encP pc) 1 w b o cur wr) (fun vi vj _ => (intOf vj).toNat - (intOf vi).toNat)
  case atStart => exact ⟨a, m, rfl, rfl, Nat.le_refl _, by omega, Nat.le_refl _, .inl rfl, .inl rfl, H.out⟩
  case round =>
    obtain ⟨i, j, rfl, rfl, hmi, hij, hje, HI, HJ, hs⟩ := hrel
    have HS := hid hs
    by_cases hlt : i < j
    · obtain ⟨h, hh⟩ : ∃ h, h = (i + j) / 2 := ⟨_, rfl⟩
      have hh1 : i ≤ h := by omega
      have hh2 : h < j := by omega
      obtain ⟨z, hz⟩ := some_of_lt (l := cur) (j := h) (by rw [← HLL.out]; omega)
      have HZ := hid hz
      have q1 : ((i : Int) + (j : Int)) / 2 = (h : Int) := by omega
      have L0 := fun Y : Later wr => (hs.later Y.h).get1 hz
      have L1 := fun Y : Later wr => (hs.later Y.h).get1 HGX.out
      have LC := fun Y : Later wr => HC.out Y.w' (hs.later Y.h).grown x z
      have a0 := fun Y => (L0 Y).1
      have b0 := fun Y => (L1 Y).1
      obtain ⟨r1, r2⟩ := HL.out.range x z
      have HLE := hid (HL.out.eq x z)
      have HH := hid hh
      generalize cf x z = c at *
      have HLC := hid LC
      clear L0 L1 LC hs hz hh
      have q2 : (h : Int) < (l : Int) := by omega
      have q3 : (m : Int) < (l : Int) := by omega
      by_cases hcc : c < 0
      · go_wp2
        refine wp_region_later (by kernel_rfl) (by kernel_rfl) ?_
        repeat (go_big_quiet_step (first | (go_at_call 47; exact Later.done (HLC.out _))))
        refine wpQuiet_nil ?_
        intro W2 hW2
        clear a0 b0
        have HD2 := hid (HS.out.later hW2)
        clear hW2
        go_wp2
        go_roundw
        case rel =>
          refine ⟨i, h, rfl, rfl, hmi, hh1, by omega, HI, .inr ⟨z, HZ.out, ?_⟩, HD2.out⟩
          rw [HLE.out]; exact decide_eq_false (by omega)
        case measure => simp only [intOf]; omega
      · have q4 : decide (c < 0) = false := decide_eq_false hcc
        have q5 : c + 1 > 0 := by omega
        have HCC := hid hcc
        clear hcc
        go_wp2
        refine wp_region_later (by kernel_rfl) (by kernel_rfl) ?_
        repeat (go_big_quiet_step (first | (go_at_call 47; exact Later.done (HLC.out _))))
        refine wpQuiet_nil ?_
        intro W2 hW2
        clear a0 b0
        have HD2 := hid (HS.out.later hW2)
        clear hW2
        go_wp2
        go_roundw
        case rel =>
          refine ⟨h + 1, j, by go_num, rfl, by omega, by omega, hje, .inr ⟨z, by rw [Nat.add_sub_cancel]; exact HZ.out, ?_⟩, HJ, HD2.out⟩
          rw [HLE.out]; exact decide_eq_true (by have := HCC.out; omega)
        case measure => simp only [intOf]; omega
    · obtain rfl : i = j := by omega
      obtain ⟨t, ht⟩ : ∃ t, t = i - a := ⟨_, rfl⟩
      have htB : t ≤ A.length := by have := HM.out; omega
      have hcur' : ∀ k, k < A.length → cur[a + k]? = A[k]? := fun k hk => by
        rw [HCUR.out]
        exact mid_at HA.out hk
      have e1 := cut_low' HL.out.total hA (x := x) (t := t) (by
        rcases HI.out with h | ⟨z, h1, h2⟩
        · exact .inl (by omega)
        · rcases (show t = 0 ∨ 0 < t by omega) with h0 | h0
          · exact .inl h0
          · refine .inr ⟨z, ?_, h2⟩
            rw [← hcur' _ (by omega), ← h1]
            congr 1
            omega)
      have e2 := cut_high' HL.out.total hA (x := x) (t := t) (by
        rcases HJ.out with h | ⟨z, h1, h2⟩
        · exact .inl (by have := HM.out; omega)
        · rcases (show t = A.length ∨ t < A.length by omega) with h0 | h0
          · exact .inl h0
          · refine .inr ⟨z, ?_, h2⟩
            rw [← hcur' _ h0, ← h1]
            congr 1
            omega)
      have hmg := mergeL_put e1 e2
      rw [List.take_append_drop] at hmg
      have HMG := hid hmg
      have hb1 : (A.take t).length = t := by rw [List.length_take]; omega
      have HB := hid (List.take_append_drop t A)
      generalize A.take t = A1 at *
      generalize A.drop t = A2 at *
      have HB1 := hid hb1
      have HT := hid ht
      have hti : i = a + t := by omega
      have HTI := hid hti
      have hs0 := HS.out
      rw [HCUR.out, ← HB.out] at hs0
      have HS0 := hid hs0
      have hil : i ≤ l := by omega
      clear hs hcur' e1 e2 hmg hb1 ht hti hs0 htB
      go_wp2
      go_loopw [17] (fun vk wr => ∃ (k : Nat) (C1 C2 : List α), vk = .int .i64 k ∧ i ≤ k ∧ k ≤ m ∧ Hid (k = i + C1.length) ∧ Hid (A2 = C1 ++ C2) ∧ SortAt (encP pc) 1 w b o (P ++ A1 ++ C1 ++ x :: C2 ++ T) wr) (fun vk _ => (intOf vk).toNat - i)
      case atStart => exact ⟨m, A2, [], rfl, by omega, Nat.le_refl _, by have h1 := HM.out; have h2 := HTI.out; have h3 := HB1.out; have h4 := congrArg List.length HB.out; simp at h4; show _ = _; omega, by show _ = _; simp, by simpa using HS0.out⟩
      case round =>
        obtain ⟨k, C1, C2, rfl, hki, hkm, HK, HC12, hs⟩ := hrel
        have HS := hid hs
        clear hs
        by_cases hlt : i < k
        · rcases (show C1 = [] ∨ ∃ L z, C1 = L ++ [z] by simpa using List.eq_nil_or_concat C1) with rfl | ⟨C1, y, rfl⟩
          · exfalso
            have h3 := HK.out
            simp at h3
            omega
          · have hk := HK.out
            obtain ⟨kp, rfl⟩ : ∃ kp, k = kp + 1 := ⟨k - 1, by omega⟩
            have hk' : kp = (P ++ A1 ++ C1).length := by have h1 := HTI.out; have h2 := HA.out; have h3 := HB1.out; simp at hk ⊢; omega
            have g1 : (P ++ A1 ++ (C1 ++ [y]) ++ x :: C2 ++ T)[kp]? = some y := by
              rw [hk', show P ++ A1 ++ (C1 ++ [y]) ++ x :: C2 ++ T = (P ++ A1 ++ C1) ++ y :: (x :: C2 ++ T) by simp]
              exact at_len _ _ _
            have g0 : (P ++ A1 ++ (C1 ++ [y]) ++ x :: C2 ++ T)[kp + 1]? = some x := by
              rw [hk', show (P ++ A1 ++ C1).length + 1 = (P ++ A1 ++ C1 ++ [y]).length by simp; omega, show P ++ A1 ++ (C1 ++ [y]) ++ x :: C2 ++ T = (P ++ A1 ++ C1 ++ [y]) ++ x :: (C2 ++ T) by simp]
              exact at_len _ _ _
            obtain ⟨c0, f0⟩ := HS.out.get1 g0
            obtain ⟨d0, k0⟩ := HS.out.get1 g1
            have HD := hid (HS.out.swap1 g0 g1 (d' := P ++ A1 ++ C1 ++ x :: y :: C2 ++ T) (by
              have e := swp_down (P ++ A1 ++ C1) [] (C2 ++ T) y x
              rw [hk']
              simp only [List.append_assoc, List.cons_append, List.nil_append, List.length_nil, Nat.add_zero] at e ⊢
              exact e))
            clear g0 g1 hk hk'
            have q1 : (kp : Int) + 1 < (l : Int) := by omega
            have q2 : (kp : Int) < (l : Int) := by omega
            have q3 : (0 : Int) ≤ (kp : Int) + 1 := by omega
            have q5 : ((kp : Int) + 1).toNat = kp + 1 := by omega
            have q7 : (i : Int) < (kp : Int) + 1 := by omega
            go_wp2
            go_big_region
            all_goals go_wp2
            go_roundw
            case rel =>
              refine ⟨kp, C1, y :: C2, rfl, by omega, by omega, ?_, ?_, ?_⟩
              · show _ = _; have := HK.out; simp at this; omega
              · show _ = _; rw [HC12.out]; simp
              · have := HD.out.drew
                simpa using this
            case measure => simp only [intOf]; omega
        · have hC1 : C1 = [] := by
            have h3 := HK.out
            exact List.length_eq_zero_iff.1 (by omega)
          subst hC1
          have HF : Hid (SortAt (encP pc) 1 w b o (P ++ mergeL le A [x] ++ T) wr) := by
            have := HS.out
            rw [HMG.out, HC12.out]
            exact hid (by simpa using this)
          go_wp2
          (try simp only [Exit.inBlock, Exit.then]); refine bodyPost_ret (results_none rfl _ _ _) rfl ?_
          exact ⟨rfl, by first | (with_reducible exact HF.out) | (rw [← List.append_assoc]; with_reducible exact HF.out)⟩
end
end Go.Proofs.YthplgldclilccaaGreat

namespace Go.Proofs.YthplgldclilccaaGreat
open Go.RowKit Go.Sort

section
variable {α : Type} [Inhabited α] {pc : α → PCell} {w : World} {b o : Nat} {cf : α → α → Int} {le : α → α → Bool}

set_option maxRecDepth 100000 in
set_option maxHeartbeats 8000000 in
theorem sym_step_p {cap l : Nat} {a m e : Nat} (P A B T : List α) (cur : List α) (W : World) (hc : CmpP 47 pc cf w b) (hcl : CmpLe cf le) (hcur : cur = P ++ A ++ B ++ T) (hl : l = cur.length) (ha : a = P.length) (hm : m = a + A.length) (he : e = m + B.length) (hA2 : 2 ≤ A.length) (hB2 : 2 ≤ B.length)
    (ih : ∀ (P A' B' T cur : List α) (W : World) (l a m e : Nat), A'.length + B'.length < A.length + B.length → 0 < A'.length → 0 < B'.length → SortedL le A' → SortedL le B' → cur = P ++ A' ++ B' ++ T → l = cur.length → a = P.length → m = a + A'.length → e = m + B'.length → SortAt (encP pc) 1 w b o cur W → l ≤ cap → l ≤ 1000000000000 →
      Calls Tryz.prog 130 #[.slice (some ⟨b, o, none⟩) l cap, .int .i64 a, .int .i64 m, .int .i64 e, .func (.func 47) #[] #[]] W
        fun r w' => r = .returned (.tuple #[]) ∧ SortAt (encP pc) 1 w b o (P ++ mergeL le A' B' ++ T) w')
    (h : SortAt (encP pc) 1 w b o cur W) (hA : SortedL le A) (hB : SortedL le B) (hcap : l ≤ cap) (hcap2 : l ≤ 1000000000000) :
    Calls Tryz.prog 130 #[.slice (some ⟨b, o, none⟩) l cap, .int .i64 a, .int .i64 m, .int .i64 e, .func (.func 47) #[] #[]] W
      fun r w' => r = .returned (.tuple #[]) ∧ SortAt (encP pc) 1 w b o (P ++ mergeL le A B ++ T) w' := by
  have hnot : ∀ (x : Bool) (w : World), (Op.unary .not (.bool x)).run Tryz.prog w = .ok (.bool (!x)) w := fun _ _ => rfl
  have H := hid h
  have HC := hid hc
  have HL := hid hcl
  have HIH := hid ih
  have HCUR := hid hcur
  have HLL := hid hl
  have HA := hid ha
  have hml : e ≤ l := by rw [hl, hcur, he, hm, ha]; simp; omega
  have hae : a + 2 ≤ m := by omega
  have HM := hid hm
  have HE := hid he
  have hem : m + 2 ≤ e := by omega
  have q0 : ((m : Int) - (a : Int) == 1) = false := by rw [beq_eq_false_iff_ne]; omega
  have q00 : ((e : Int) - (m : Int) == 1) = false := by rw [beq_eq_false_iff_ne]; omega
  obtain ⟨d, hd⟩ : ∃ d, d = (a + e) / 2 := ⟨_, rfl⟩
  have q1 : ((a : Int) + (e : Int)) / 2 = (d : Int) := by omega
  have HD := hid hd
  have had : a < d := by omega
  have hde : d < e := by omega
  have hd2 : 2 * d ≤ a + e ∧ a + e ≤ 2 * d + 1 := by omega
  obtain ⟨hd21, hd22⟩ := hd2
  clear h hc hcl hcur hl ha he hm hA2 hB2 ih hd
  have hcase : (d < m ∧ ∃ lo : Nat, lo + e = d + m) ∨ m ≤ d := by
    rcases (show d < m ∨ m ≤ d by omega) with h | h
    · exact .inl ⟨h, d + m - e, by omega⟩
    · exact .inr h
  rcases hcase with ⟨hdm, lo0, hlo⟩ | hdm
  · have q2 : (d : Int) + (m : Int) - (e : Int) = (lo0 : Int) := by omega
    have HG : Hid (symGood a m e d lo0 d) := .inl ⟨hdm, hlo, rfl⟩
    have q3 : (m : Int) > (d : Int) := by omega
    have hlh : lo0 ≤ d := by omega
    go_enter Tryz.func130, Tryz.ntmps130
    go_wp2
    go_loopw [20, 21] (fun vi vj wr => ∃ i j lo hi : Nat, vi = .int .i64 i ∧ vj = .int .i64 j ∧ Hid (symGood a m e d lo hi) ∧ lo ≤ i ∧ i ≤ j ∧ j ≤ hi ∧ Hid (i = lo ∨ ∃ x z, cur[i - 1]? = some x ∧ cur[d + m - i]? = some z ∧ le x z = true) ∧ Hid (j = hi ∨ ∃ x z, cur[j]? = some x ∧ cur[d + m - j - 1]? = some z ∧ le x z = false) ∧ SortAt (encP pc) 1 w b o cur wr) (fun vi vj _ => (intOf vj).toNat - (intOf vi).toNat)
    case atStart => exact ⟨lo0, d, lo0, d, rfl, rfl, HG, Nat.le_refl _, hlh, Nat.le_refl _, .inl rfl, .inl rfl, H.out⟩
    case round =>
      clear HG q2 q3 hlh hlo hdm
      obtain ⟨i, j, lo, hi, rfl, rfl, HG, hli, hij, hjh, HI, HJ, hs⟩ := hrel
      have HS := hid hs
      have hb : a ≤ lo ∧ hi ≤ m ∧ hi ≤ d ∧ d + m ≤ lo + e := by have := HG.out; unfold symGood at this; omega
      obtain ⟨hb1, hb2, hb3, hb4⟩ := hb
      by_cases hlt : i < j
      · obtain ⟨h, hh⟩ : ∃ h, h = (i + j) / 2 := ⟨_, rfl⟩
        have hh1 : i ≤ h := by omega
        have hh2 : h < j := by omega
        obtain ⟨g, hg⟩ : ∃ g, g = d + m - h - 1 := ⟨_, rfl⟩
        have hge : g < e := by omega
        obtain ⟨x, hx⟩ := some_of_lt (l := cur) (j := h) (by rw [← HLL.out]; omega)
        obtain ⟨z, hz⟩ := some_of_lt (l := cur) (j := g) (by rw [← HLL.out]; omega)
        have HX := hid hx
        have HZ := hid hz
        have p1 : ((i : Int) + (j : Int)) / 2 = (h : Int) := by omega
        have p2 : (d : Int) + (m : Int) - 1 - (h : Int) = (g : Int) := by omega
        have p3 : (g : Int) < (l : Int) := by omega
        have p4 : (h : Int) < (l : Int) := by omega
        have L0 := fun Y : Later wr => (hs.later Y.h).get1 hz
        have L1 := fun Y : Later wr => (hs.later Y.h).get1 hx
        have LC := fun Y : Later wr => HC.out Y.w' (hs.later Y.h).grown z x
        have a0 := fun Y => (L0 Y).1
        have b0 := fun Y => (L1 Y).1
        obtain ⟨r1, r2⟩ := HL.out.range z x
        have HLE := hid (HL.out.eq z x)
        have HH := hid hh
        have HGG := hid hg
        generalize cf z x = c at *
        have HLC := hid LC
        clear L0 L1 LC hs hz hx hh hg
        by_cases hcc : c < 0
        · go_wp2
          refine wp_region_later (by kernel_rfl) (by kernel_rfl) ?_
          repeat (go_big_quiet_step (first | (go_at_call 47; exact Later.done (HLC.out _))))
          refine wpQuiet_nil ?_
          intro W2 hW2
          clear a0 b0
          have HD2 := hid (HS.out.later hW2)
          clear hW2
          go_wp2
          go_roundw
          case rel =>
            refine ⟨i, h, lo, hi, rfl, rfl, HG, hli, hh1, by omega, HI, .inr ⟨x, z, HX.out, by rw [← HGG.out]; exact HZ.out, ?_⟩, HD2.out⟩
            rw [HLE.out]; exact decide_eq_false (by omega)
          case measure => simp only [intOf]; omega
        · have q4 : decide (c < 0) = false := decide_eq_false hcc
          have q5 : c + 1 > 0 := by omega
          have HCC := hid hcc
          clear hcc
          go_wp2
          refine wp_region_later (by kernel_rfl) (by kernel_rfl) ?_
          repeat (go_big_quiet_step (first | (go_at_call 47; exact Later.done (HLC.out _))))
          refine wpQuiet_nil ?_
          intro W2 hW2
          clear a0 b0
          have HD2 := hid (HS.out.later hW2)
          clear hW2
          go_wp2
          go_roundw
          case rel =>
            refine ⟨h + 1, j, lo, hi, by go_num, rfl, HG, by omega, by omega, hjh, .inr ⟨x, z, by rw [Nat.add_sub_cancel]; exact HX.out, by rw [show d + m - (h + 1) = g by have := HGG.out; omega]; exact HZ.out, ?_⟩, HJ, HD2.out⟩
            rw [HLE.out]; exact decide_eq_true (by have := HCC.out; omega)
          case measure => simp only [intOf]; omega
      · obtain rfl : i = j := by omega
        obtain ⟨f, hf⟩ : ∃ f, f + i = d + m := ⟨d + m - i, by omega⟩
        obtain ⟨A1, A2, B1, B2, hA12, hB12, hsA, hfB, hmg⟩ := sym_split (f := f) HL.out.total hA hB HCUR.out HA.out HM.out HE.out HD.out HG.out hli hjh hf (by
          have := HI.out
          rwa [show d + m - i = f by omega] at this) (by
          have := HJ.out
          rwa [show d + m - i - 1 = f - 1 by omega] at this)
        have p1 : (d : Int) + (m : Int) - (i : Int) = (f : Int) := by omega
        have lA := HM.out
        have lB := HE.out
        rw [hA12] at lA
        rw [hB12] at lB
        simp only [List.length_append] at lA lB
        have lP := HA.out
        have HMG := hid hmg
        have HK0 : Hid (SortAt (encP pc) 1 w b o (P ++ A1 ++ A2 ++ B1 ++ B2 ++ T) wr) := hid (by
          have := HS.out
          rw [HCUR.out, hA12, hB12] at this
          simpa using this)
        have HLN : Hid (l = P.length + A1.length + A2.length + B1.length + B2.length + T.length) := hid (by rw [HLL.out, HCUR.out, hA12, hB12]; simp; omega)
        have HSZ : Hid (A.length = A1.length + A2.length ∧ B.length = B1.length + B2.length) := hid (by rw [hA12, hB12]; simp)
        have HSA : Hid (SortedL le A1 ∧ SortedL le A2 ∧ SortedL le B1 ∧ SortedL le B2) := hid (by
          rw [hA12] at hA
          rw [hB12] at hB
          have h1 := List.pairwise_append.1 hA
          have h2 := List.pairwise_append.1 hB
          exact ⟨h1.1, h1.2.1, h2.1, h2.2.1⟩)
        have LP := hid lP
        have LA := hid (And.intro lA lB)
        have LS := hid (And.intro hsA (And.intro hfB hf))
        have hmle : m ≤ l := by omega
        have hfle : f ≤ l := by omega
        clear hs hA12 hB12 hmg hli hij hjh hb1 hb2 hb3 hb4 hlt lA lB lP hsA hfB hf
        rcases (show (0 < A1.length ∧ 0 < A2.length ∧ 0 < B1.length ∧ 0 < B2.length) ∨ (0 < A1.length ∧ 0 < A2.length ∧ 0 < B1.length ∧ B2.length = 0) ∨ (0 < A1.length ∧ A2.length = 0 ∧ 0 < B1.length ∧ 0 < B2.length) ∨ (0 < A1.length ∧ 0 < A2.length ∧ B1.length = 0 ∧ 0 < B2.length) ∨ (0 < A1.length ∧ 0 < A2.length ∧ B1.length = 0 ∧ B2.length = 0) ∨ (0 < A1.length ∧ A2.length = 0 ∧ B1.length = 0 ∧ 0 < B2.length) ∨ (A1.length = 0 ∧ 0 < A2.length ∧ 0 < B1.length ∧ 0 < B2.length) ∨ (A1.length = 0 ∧ 0 < A2.length ∧ 0 < B1.length ∧ B2.length = 0) ∨ (A1.length = 0 ∧ A2.length = 0 ∧ 0 < B1.length ∧ 0 < B2.length) by have := LA.out; have := LS.out; omega) with ⟨n1, n2, n3, n4⟩ | ⟨n1, n2, n3, n4⟩ | ⟨n1, n2, n3, n4⟩ | ⟨n1, n2, n3, n4⟩ | ⟨n1, n2, n3, n4⟩ | ⟨n1, n2, n3, n4⟩ | ⟨n1, n2, n3, n4⟩ | ⟨n1, n2, n3, n4⟩ | ⟨n1, n2, n3, n4⟩
        · have f1 : (i : Int) < (m : Int) := by have := LA.out; have := LS.out; omega
          have f2 : (m : Int) < (f : Int) := by have := LA.out; have := LS.out; omega
          have f3 : (a : Int) < (i : Int) := by have := LA.out; have := LS.out; omega
          have f4 : (i : Int) < (d : Int) := by have := LA.out; have := LS.out; omega
          have f5 : (d : Int) < (f : Int) := by have := LA.out; have := LS.out; omega
          have f6 : (f : Int) < (e : Int) := by have := LA.out; have := LS.out; omega
          have HN1 := hid (And.intro n2 n3)
          have HNN := hid (And.intro n1 (And.intro n2 (And.intro n3 n4)))
          clear n1 n2 n3 n4
          have C1 := hid (rotate_p (pc := pc) (cap := cap) (l := l) (za := (i : Int)) (zm := (m : Int)) (zb := (f : Int)) (cv := .func (.func 47) #[] #[]) (P ++ A1) A2 B1 (B2 ++ T) wr (by simp) (by rw [HLN.out]; simp; omega) (by have := LS.out; have := LP.out; simp; omega) (by have := LS.out; have := LP.out; have := LA.out; simp; omega) (by have := LS.out; have := LP.out; have := LA.out; simp; omega) HK0.out (by intro hn; have := HNN.out; rw [hn] at this; simp at this) (by intro hn; have := HNN.out; rw [hn] at this; simp at this) hcap hcap2)
          go_wp2_with fail
          with_reducible refine C1.out.mono ?_
          rintro r w1 ⟨rfl, hk1⟩
          have HK1 : Hid (SortAt (encP pc) 1 w b o (P ++ A1 ++ B1 ++ A2 ++ B2 ++ T) w1) := hid (by simpa using hk1)
          clear hk1
          have C2 := hid (HIH.out P A1 B1 (A2 ++ B2 ++ T) _ w1 l a i d (by have := HNN.out; have := HSZ.out; omega) HNN.out.1 HNN.out.2.2.1 HSA.out.1 HSA.out.2.2.1 (by simp) (by rw [HLN.out]; simp; omega) LP.out LS.out.1 (by have := LS.out; have := LA.out; omega) HK1.out hcap hcap2)
          go_wp2_with fail
          with_reducible refine C2.out.mono ?_
          rintro r w2 ⟨rfl, hk2⟩
          have HK2 : Hid (SortAt (encP pc) 1 w b o (P ++ mergeL le A1 B1 ++ A2 ++ B2 ++ T) w2) := hid (by simpa using hk2)
          clear hk2
          have C3 := hid (HIH.out (P ++ mergeL le A1 B1) A2 B2 T _ w2 l d f e (by have := HNN.out; have := HSZ.out; omega) HNN.out.2.1 HNN.out.2.2.2 HSA.out.2.1 HSA.out.2.2.2 (by simp) (by rw [HLN.out]; simp; omega) (by have := LS.out; have := LA.out; have := LP.out; simp; omega) (by have := LS.out; have := LA.out; omega) (by have := LS.out; have := LA.out; omega) HK2.out hcap hcap2)
          go_wp2_with fail
          with_reducible refine C3.out.mono ?_
          rintro r w3 ⟨rfl, hk3⟩
          have HK3 : Hid (SortAt (encP pc) 1 w b o (P ++ mergeL le A B ++ T) w3) := hid (by rw [HMG.out]; simpa using hk3)
          clear hk3
          go_wp2
          all_goals
            go_end0
            exact ⟨rfl, by first | (with_reducible exact HK3.out) | (rw [← List.append_assoc]; with_reducible exact HK3.out)⟩
        · have f1 : (i : Int) < (m : Int) := by have := LA.out; have := LS.out; omega
          have f2 : (m : Int) < (f : Int) := by have := LA.out; have := LS.out; omega
          have f3 : (a : Int) < (i : Int) := by have := LA.out; have := LS.out; omega
          have f4 : (i : Int) < (d : Int) := by have := LA.out; have := LS.out; omega
          have f5 : (d : Int) < (f : Int) := by have := LA.out; have := LS.out; omega
          have f6 : (e : Int) ≤ (f : Int) := by have := LA.out; have := LS.out; omega
          have hzB2 : B2 = [] := List.length_eq_zero_iff.1 (by omega)
          have HZ := hid (And.intro (rfl : 0 = 0) hzB2)
          clear hzB2
          have HN1 := hid (And.intro n2 n3)
          have HNN := hid (And.intro n1 (And.intro n2 (And.intro n3 n4)))
          clear n1 n2 n3 n4
          have C1 := hid (rotate_p (pc := pc) (cap := cap) (l := l) (za := (i : Int)) (zm := (m : Int)) (zb := (f : Int)) (cv := .func (.func 47) #[] #[]) (P ++ A1) A2 B1 (B2 ++ T) wr (by simp) (by rw [HLN.out]; simp; omega) (by have := LS.out; have := LP.out; simp; omega) (by have := LS.out; have := LP.out; have := LA.out; simp; omega) (by have := LS.out; have := LP.out; have := LA.out; simp; omega) HK0.out (by intro hn; have := HNN.out; rw [hn] at this; simp at this) (by intro hn; have := HNN.out; rw [hn] at this; simp at this) hcap hcap2)
          go_wp2_with fail
          with_reducible refine C1.out.mono ?_
          rintro r w1 ⟨rfl, hk1⟩
          have HK1 : Hid (SortAt (encP pc) 1 w b o (P ++ A1 ++ B1 ++ A2 ++ B2 ++ T) w1) := hid (by simpa using hk1)
          clear hk1
          have C2 := hid (HIH.out P A1 B1 (A2 ++ B2 ++ T) _ w1 l a i d (by have := HNN.out; have := HSZ.out; omega) HNN.out.1 HNN.out.2.2.1 HSA.out.1 HSA.out.2.2.1 (by simp) (by rw [HLN.out]; simp; omega) LP.out LS.out.1 (by have := LS.out; have := LA.out; omega) HK1.out hcap hcap2)
          go_wp2_with fail
          with_reducible refine C2.out.mono ?_
          rintro r w2 ⟨rfl, hk2⟩
          have HK2 : Hid (SortAt (encP pc) 1 w b o (P ++ mergeL le A1 B1 ++ A2 ++ B2 ++ T) w2) := hid (by simpa using hk2)
          clear hk2
          have HK3 : Hid (SortAt (encP pc) 1 w b o (P ++ mergeL le A B ++ T) w2) := hid (by
            have := HK2.out
            rw [HMG.out]
            obtain ⟨-, hzB2⟩ := HZ.out
            subst hzB2
            simpa [mergeL_nil, mergeL_right] using this)
          go_wp2
          all_goals
            go_end0
            exact ⟨rfl, by first | (with_reducible exact HK3.out) | (rw [← List.append_assoc]; with_reducible exact HK3.out)⟩
        · have f1 : (m : Int) ≤ (i : Int) := by have := LA.out; have := LS.out; omega
          have f2 : (m : Int) < (f : Int) := by have := LA.out; have := LS.out; omega
          have f3 : (a : Int) < (i : Int) := by have := LA.out; have := LS.out; omega
          have f4 : (i : Int) < (d : Int) := by have := LA.out; have := LS.out; omega
          have f5 : (f : Int) ≤ (d : Int) := by have := LA.out; have := LS.out; omega
          have f6 : (f : Int) < (e : Int) := by have := LA.out; have := LS.out; omega
          have hzA2 : A2 = [] := List.length_eq_zero_iff.1 (by omega)
          have HZ := hid (And.intro (rfl : 0 = 0) hzA2)
          clear hzA2
          have HNN := hid (And.intro n1 (And.intro n2 (And.intro n3 n4)))
          clear n1 n2 n3 n4
          have HK1 : Hid (SortAt (encP pc) 1 w b o (P ++ A1 ++ B1 ++ A2 ++ B2 ++ T) wr) := hid (by
            have := HK0.out
            obtain ⟨-, hzA2⟩ := HZ.out
            subst hzA2
            simpa using this)
          have C2 := hid (HIH.out P A1 B1 (A2 ++ B2 ++ T) _ wr l a i d (by have := HNN.out; have := HSZ.out; omega) HNN.out.1 HNN.out.2.2.1 HSA.out.1 HSA.out.2.2.1 (by simp) (by rw [HLN.out]; simp; omega) LP.out LS.out.1 (by have := LS.out; have := LA.out; omega) HK1.out hcap hcap2)
          go_wp2_with fail
          with_reducible refine C2.out.mono ?_
          rintro r w2 ⟨rfl, hk2⟩
          have HK2 : Hid (SortAt (encP pc) 1 w b o (P ++ mergeL le A1 B1 ++ A2 ++ B2 ++ T) w2) := hid (by simpa using hk2)
          clear hk2
          have HK3 : Hid (SortAt (encP pc) 1 w b o (P ++ mergeL le A B ++ T) w2) := hid (by
            have := HK2.out
            rw [HMG.out]
            obtain ⟨-, hzA2⟩ := HZ.out
            subst hzA2
            simpa [mergeL_nil, mergeL_right] using this)
          go_wp2
          all_goals
            go_end0
            exact ⟨rfl, by first | (with_reducible exact HK3.out) | (rw [← List.append_assoc]; with_reducible exact HK3.out)⟩
        · have f1 : (i : Int) < (m : Int) := by have := LA.out; have := LS.out; omega
          have f2 : (f : Int) ≤ (m : Int) := by have := LA.out; have := LS.out; omega
          have f3 : (a : Int) < (i : Int) := by have := LA.out; have := LS.out; omega
          have f4 : (d : Int) ≤ (i : Int) := by have := LA.out; have := LS.out; omega
          have f5 : (d : Int) < (f : Int) := by have := LA.out; have := LS.out; omega
          have f6 : (f : Int) < (e : Int) := by have := LA.out; have := LS.out; omega
          have hzB1 : B1 = [] := List.length_eq_zero_iff.1 (by omega)
          have HZ := hid (And.intro (rfl : 0 = 0) hzB1)
          clear hzB1
          have HNN := hid (And.intro n1 (And.intro n2 (And.intro n3 n4)))
          clear n1 n2 n3 n4
          have HK1 : Hid (SortAt (encP pc) 1 w b o (P ++ A1 ++ B1 ++ A2 ++ B2 ++ T) wr) := hid (by
            have := HK0.out
            obtain ⟨-, hzB1⟩ := HZ.out
            subst hzB1
            simpa using this)
          have HK2 : Hid (SortAt (encP pc) 1 w b o (P ++ mergeL le A1 B1 ++ A2 ++ B2 ++ T) wr) := hid (by
            have := HK1.out
            obtain ⟨-, hzB1⟩ := HZ.out
            subst hzB1
            simpa [mergeL_nil, mergeL_right] using this)
          have C3 := hid (HIH.out (P ++ mergeL le A1 B1) A2 B2 T _ wr l d f e (by have := HNN.out; have := HSZ.out; omega) HNN.out.2.1 HNN.out.2.2.2 HSA.out.2.1 HSA.out.2.2.2 (by simp) (by rw [HLN.out]; simp; omega) (by have := LS.out; have := LA.out; have := LP.out; simp; omega) (by have := LS.out; have := LA.out; omega) (by have := LS.out; have := LA.out; omega) HK2.out hcap hcap2)
          go_wp2_with fail
          with_reducible refine C3.out.mono ?_
          rintro r w3 ⟨rfl, hk3⟩
          have HK3 : Hid (SortAt (encP pc) 1 w b o (P ++ mergeL le A B ++ T) w3) := hid (by rw [HMG.out]; simpa using hk3)
          clear hk3
          go_wp2
          all_goals
            go_end0
            exact ⟨rfl, by first | (with_reducible exact HK3.out) | (rw [← List.append_assoc]; with_reducible exact HK3.out)⟩
        · have f1 : (i : Int) < (m : Int) := by have := LA.out; have := LS.out; omega
          have f2 : (f : Int) ≤ (m : Int) := by have := LA.out; have := LS.out; omega
          have f3 : (a : Int) < (i : Int) := by have := LA.out; have := LS.out; omega
          have f4 : (d : Int) ≤ (i : Int) := by have := LA.out; have := LS.out; omega
          have f5 : (d : Int) < (f : Int) := by have := LA.out; have := LS.out; omega
          have f6 : (e : Int) ≤ (f : Int) := by have := LA.out; have := LS.out; omega
          have hzB1 : B1 = [] := List.length_eq_zero_iff.1 (by omega)
          have hzB2 : B2 = [] := List.length_eq_zero_iff.1 (by omega)
          have HZ := hid (And.intro (rfl : 0 = 0) (And.intro hzB1 hzB2))
          clear hzB1
          clear hzB2
          have HNN := hid (And.intro n1 (And.intro n2 (And.intro n3 n4)))
          clear n1 n2 n3 n4
          have HK1 : Hid (SortAt (encP pc) 1 w b o (P ++ A1 ++ B1 ++ A2 ++ B2 ++ T) wr) := hid (by
            have := HK0.out
            obtain ⟨-, hzB1, hzB2⟩ := HZ.out
            subst hzB1 hzB2
            simpa using this)
          have HK2 : Hid (SortAt (encP pc) 1 w b o (P ++ mergeL le A1 B1 ++ A2 ++ B2 ++ T) wr) := hid (by
            have := HK1.out
            obtain ⟨-, hzB1, hzB2⟩ := HZ.out
            subst hzB1 hzB2
            simpa [mergeL_nil, mergeL_right] using this)
          have HK3 : Hid (SortAt (encP pc) 1 w b o (P ++ mergeL le A B ++ T) wr) := hid (by
            have := HK2.out
            rw [HMG.out]
            obtain ⟨-, hzB1, hzB2⟩ := HZ.out
            subst hzB1 hzB2
            simpa [mergeL_nil, mergeL_right] using this)
          go_wp2
          all_goals
            go_end0
            exact ⟨rfl, by first | (with_reducible exact HK3.out) | (rw [← List.append_assoc]; with_reducible exact HK3.out)⟩
        · have f1 : (m : Int) ≤ (i : Int) := by have := LA.out; have := LS.out; omega
          have f2 : (f : Int) ≤ (m : Int) := by have := LA.out; have := LS.out; omega
          have f3 : (a : Int) < (i : Int) := by have := LA.out; have := LS.out; omega
          have f4 : (d : Int) ≤ (i : Int) := by have := LA.out; have := LS.out; omega
          have f5 : (f : Int) ≤ (d : Int) := by have := LA.out; have := LS.out; omega
          have f6 : (f : Int) < (e : Int) := by have := LA.out; have := LS.out; omega
          have hzA2 : A2 = [] := List.length_eq_zero_iff.1 (by omega)
          have hzB1 : B1 = [] := List.length_eq_zero_iff.1 (by omega)
          have HZ := hid (And.intro (rfl : 0 = 0) (And.intro hzA2 hzB1))
          clear hzA2
          clear hzB1
          have HNN := hid (And.intro n1 (And.intro n2 (And.intro n3 n4)))
          clear n1 n2 n3 n4
          have HK1 : Hid (SortAt (encP pc) 1 w b o (P ++ A1 ++ B1 ++ A2 ++ B2 ++ T) wr) := hid (by
            have := HK0.out
            obtain ⟨-, hzA2, hzB1⟩ := HZ.out
            subst hzA2 hzB1
            simpa using this)
          have HK2 : Hid (SortAt (encP pc) 1 w b o (P ++ mergeL le A1 B1 ++ A2 ++ B2 ++ T) wr) := hid (by
            have := HK1.out
            obtain ⟨-, hzA2, hzB1⟩ := HZ.out
            subst hzA2 hzB1
            simpa [mergeL_nil, mergeL_right] using this)
          have HK3 : Hid (SortAt (encP pc) 1 w b o (P ++ mergeL le A B ++ T) wr) := hid (by
            have := HK2.out
            rw [HMG.out]
            obtain ⟨-, hzA2, hzB1⟩ := HZ.out
            subst hzA2 hzB1
            simpa [mergeL_nil, mergeL_right] using this)
          go_wp2
          all_goals
            go_end0
            exact ⟨rfl, by first | (with_reducible exact HK3.out) | (rw [← List.append_assoc]; with_reducible exact HK3.out)⟩
        · have f1 : (i : Int) < (m : Int) := by have := LA.out; have := LS.out; omega
          have f2 : (m : Int) < (f : Int) := by have := LA.out; have := LS.out; omega
          have f3 : (i : Int) ≤ (a : Int) := by have := LA.out; have := LS.out; omega
          have f4 : (i : Int) < (d : Int) := by have := LA.out; have := LS.out; omega
          have f5 : (d : Int) < (f : Int) := by have := LA.out; have := LS.out; omega
          have f6 : (f : Int) < (e : Int) := by have := LA.out; have := LS.out; omega
          have hzA1 : A1 = [] := List.length_eq_zero_iff.1 (by omega)
          have HZ := hid (And.intro (rfl : 0 = 0) hzA1)
          clear hzA1
          have HN1 := hid (And.intro n2 n3)
          have HNN := hid (And.intro n1 (And.intro n2 (And.intro n3 n4)))
          clear n1 n2 n3 n4
          have C1 := hid (rotate_p (pc := pc) (cap := cap) (l := l) (za := (i : Int)) (zm := (m : Int)) (zb := (f : Int)) (cv := .func (.func 47) #[] #[]) (P ++ A1) A2 B1 (B2 ++ T) wr (by simp) (by rw [HLN.out]; simp; omega) (by have := LS.out; have := LP.out; simp; omega) (by have := LS.out; have := LP.out; have := LA.out; simp; omega) (by have := LS.out; have := LP.out; have := LA.out; simp; omega) HK0.out (by intro hn; have := HNN.out; rw [hn] at this; simp at this) (by intro hn; have := HNN.out; rw [hn] at this; simp at this) hcap hcap2)
          go_wp2_with fail
          with_reducible refine C1.out.mono ?_
          rintro r w1 ⟨rfl, hk1⟩
          have HK1 : Hid (SortAt (encP pc) 1 w b o (P ++ A1 ++ B1 ++ A2 ++ B2 ++ T) w1) := hid (by simpa using hk1)
          clear hk1
          have HK2 : Hid (SortAt (encP pc) 1 w b o (P ++ mergeL le A1 B1 ++ A2 ++ B2 ++ T) w1) := hid (by
            have := HK1.out
            obtain ⟨-, hzA1⟩ := HZ.out
            subst hzA1
            simpa [mergeL_nil, mergeL_right] using this)
          have C3 := hid (HIH.out (P ++ mergeL le A1 B1) A2 B2 T _ w1 l d f e (by have := HNN.out; have := HSZ.out; omega) HNN.out.2.1 HNN.out.2.2.2 HSA.out.2.1 HSA.out.2.2.2 (by simp) (by rw [HLN.out]; simp; omega) (by have := LS.out; have := LA.out; have := LP.out; simp; omega) (by have := LS.out; have := LA.out; omega) (by have := LS.out; have := LA.out; omega) HK2.out hcap hcap2)
          go_wp2_with fail
          with_reducible refine C3.out.mono ?_
          rintro r w3 ⟨rfl, hk3⟩
          have HK3 : Hid (SortAt (encP pc) 1 w b o (P ++ mergeL le A B ++ T) w3) := hid (by rw [HMG.out]; simpa using hk3)
          clear hk3
          go_wp2
          all_goals
            go_end0
            exact ⟨rfl, by first | (with_reducible exact HK3.out) | (rw [← List.append_assoc]; with_reducible exact HK3.out)⟩
        · have f1 : (i : Int) < (m : Int) := by have := LA.out; have := LS.out; omega
          have f2 : (m : Int) < (f : Int) := by have := LA.out; have := LS.out; omega
          have f3 : (i : Int) ≤ (a : Int) := by have := LA.out; have := LS.out; omega
          have f4 : (i : Int) < (d : Int) := by have := LA.out; have := LS.out; omega
          have f5 : (d : Int) < (f : Int) := by have := LA.out; have := LS.out; omega
          have f6 : (e : Int) ≤ (f : Int) := by have := LA.out; have := LS.out; omega
          have hzA1 : A1 = [] := List.length_eq_zero_iff.1 (by omega)
          have hzB2 : B2 = [] := List.length_eq_zero_iff.1 (by omega)
          have HZ := hid (And.intro (rfl : 0 = 0) (And.intro hzA1 hzB2))
          clear hzA1
          clear hzB2
          have HN1 := hid (And.intro n2 n3)
          have HNN := hid (And.intro n1 (And.intro n2 (And.intro n3 n4)))
          clear n1 n2 n3 n4
          have C1 := hid (rotate_p (pc := pc) (cap := cap) (l := l) (za := (i : Int)) (zm := (m : Int)) (zb := (f : Int)) (cv := .func (.func 47) #[] #[]) (P ++ A1) A2 B1 (B2 ++ T) wr (by simp) (by rw [HLN.out]; simp; omega) (by have := LS.out; have := LP.out; simp; omega) (by have := LS.out; have := LP.out; have := LA.out; simp; omega) (by have := LS.out; have := LP.out; have := LA.out; simp; omega) HK0.out (by intro hn; have := HNN.out; rw [hn] at this; simp at this) (by intro hn; have := HNN.out; rw [hn] at this; simp at this) hcap hcap2)
          go_wp2_with fail
          with_reducible refine C1.out.mono ?_
          rintro r w1 ⟨rfl, hk1⟩
          have HK1 : Hid (SortAt (encP pc) 1 w b o (P ++ A1 ++ B1 ++ A2 ++ B2 ++ T) w1) := hid (by simpa using hk1)
          clear hk1
          have HK2 : Hid (SortAt (encP pc) 1 w b o (P ++ mergeL le A1 B1 ++ A2 ++ B2 ++ T) w1) := hid (by
            have := HK1.out
            obtain ⟨-, hzA1, hzB2⟩ := HZ.out
            subst hzA1 hzB2
            simpa [mergeL_nil, mergeL_right] using this)
          have HK3 : Hid (SortAt (encP pc) 1 w b o (P ++ mergeL le A B ++ T) w1) := hid (by
            have := HK2.out
            rw [HMG.out]
            obtain ⟨-, hzA1, hzB2⟩ := HZ.out
            subst hzA1 hzB2
            simpa [mergeL_nil, mergeL_right] using this)
          go_wp2
          all_goals
            go_end0
            exact ⟨rfl, by first | (with_reducible exact HK3.out) | (rw [← List.append_assoc]; with_reducible exact HK3.out)⟩
        · have f1 : (m : Int) ≤ (i : Int) := by have := LA.out; have := LS.out; omega
          have f2 : (m : Int) < (f : Int) := by have := LA.out; have := LS.out; omega
          have f3 : (i : Int) ≤ (a : Int) := by have := LA.out; have := LS.out; omega
          have f4 : (i : Int) < (d : Int) := by have := LA.out; have := LS.out; omega
          have f5 : (f : Int) ≤ (d : Int) := by have := LA.out; have := LS.out; omega
          have f6 : (f : Int) < (e : Int) := by have := LA.out; have := LS.out; omega
          have hzA1 : A1 = [] := List.length_eq_zero_iff.1 (by omega)
          have hzA2 : A2 = [] := List.length_eq_zero_iff.1 (by omega)
          have HZ := hid (And.intro (rfl : 0 = 0) (And.intro hzA1 hzA2))
          clear hzA1
          clear hzA2
          have HNN := hid (And.intro n1 (And.intro n2 (And.intro n3 n4)))
          clear n1 n2 n3 n4
          have HK1 : Hid (SortAt (encP pc) 1 w b o (P ++ A1 ++ B1 ++ A2 ++ B2 ++ T) wr) := hid (by
            have := HK0.out
            obtain ⟨-, hzA1, hzA2⟩ := HZ.out
            subst hzA1 hzA2
            simpa using this)
          have HK2 : Hid (SortAt (encP pc) 1 w b o (P ++ mergeL le A1 B1 ++ A2 ++ B2 ++ T) wr) := hid (by
            have := HK1.out
            obtain ⟨-, hzA1, hzA2⟩ := HZ.out
            subst hzA1 hzA2
            simpa [mergeL_nil, mergeL_right] using this)
          have HK3 : Hid (SortAt (encP pc) 1 w b o (P ++ mergeL le A B ++ T) wr) := hid (by
            have := HK2.out
            rw [HMG.out]
            obtain ⟨-, hzA1, hzA2⟩ := HZ.out
            subst hzA1 hzA2
            simpa [mergeL_nil, mergeL_right] using this)
          go_wp2
          all_goals
            go_end0
            exact ⟨rfl, by first | (with_reducible exact HK3.out) | (rw [← List.append_assoc]; with_reducible exact HK3.out)⟩
  · have q3 : ¬ (m : Int) > (d : Int) := by omega
    have HG : Hid (symGood a m e d a m) := .inr ⟨hdm, rfl, rfl⟩
    have hlh : a ≤ m := by omega
    go_enter Tryz.func130, Tryz.ntmps130
    go_wp2
    go_loopw [20, 21] (fun vi vj wr => ∃ i j lo hi : Nat, vi = .int .i64 i ∧ vj = .int .i64 j ∧ Hid (symGood a m e d lo hi) ∧ lo ≤ i ∧ i ≤ j ∧ j ≤ hi ∧ Hid (i = lo ∨ ∃ x z, cur[i - 1]? = some x ∧ cur[d + m - i]? = some z ∧ le x z = true) ∧ Hid (j = hi ∨ ∃ x z, cur[j]? = some x ∧ cur[d + m - j - 1]? = some z ∧ le x z = false) ∧ SortAt (encP pc) 1 w b o cur wr) (fun vi vj _ => (intOf vj).toNat - (intOf vi).toNat)
    case atStart => exact ⟨a, m, a, m, rfl, rfl, HG, Nat.le_refl _, hlh, Nat.le_refl _, .inl rfl, .inl rfl, H.out⟩
    case round =>
      clear HG q3 hlh hdm
      obtain ⟨i, j, lo, hi, rfl, rfl, HG, hli, hij, hjh, HI, HJ, hs⟩ := hrel
      have HS := hid hs
      have hb : a ≤ lo ∧ hi ≤ m ∧ hi ≤ d ∧ d + m ≤ lo + e := by have := HG.out; unfold symGood at this; omega
      obtain ⟨hb1, hb2, hb3, hb4⟩ := hb
      by_cases hlt : i < j
      · obtain ⟨h, hh⟩ : ∃ h, h = (i + j) / 2 := ⟨_, rfl⟩
        have hh1 : i ≤ h := by omega
        have hh2 : h < j := by omega
        obtain ⟨g, hg⟩ : ∃ g, g = d + m - h - 1 := ⟨_, rfl⟩
        have hge : g < e := by omega
        obtain ⟨x, hx⟩ := some_of_lt (l := cur) (j := h) (by rw [← HLL.out]; omega)
        obtain ⟨z, hz⟩ := some_of_lt (l := cur) (j := g) (by rw [← HLL.out]; omega)
        have HX := hid hx
        have HZ := hid hz
        have p1 : ((i : Int) + (j : Int)) / 2 = (h : Int) := by omega
        have p2 : (d : Int) + (m : Int) - 1 - (h : Int) = (g : Int) := by omega
        have p3 : (g : Int) < (l : Int) := by omega
        have p4 : (h : Int) < (l : Int) := by omega
        have L0 := fun Y : Later wr => (hs.later Y.h).get1 hz
        have L1 := fun Y : Later wr => (hs.later Y.h).get1 hx
        have LC := fun Y : Later wr => HC.out Y.w' (hs.later Y.h).grown z x
        have a0 := fun Y => (L0 Y).1
        have b0 := fun Y => (L1 Y).1
        obtain ⟨r1, r2⟩ := HL.out.range z x
        have HLE := hid (HL.out.eq z x)
        have HH := hid hh
        have HGG := hid hg
        generalize cf z x = c at *
        have HLC := hid LC
        clear L0 L1 LC hs hz hx hh hg
        by_cases hcc : c < 0
        · go_wp2
          refine wp_region_later (by kernel_rfl) (by kernel_rfl) ?_
          repeat (go_big_quiet_step (first | (go_at_call 47; exact Later.done (HLC.out _))))
          refine wpQuiet_nil ?_
          intro W2 hW2
          clear a0 b0
          have HD2 := hid (HS.out.later hW2)
          clear hW2
          go_wp2
          go_roundw
          case rel =>
            refine ⟨i, h, lo, hi, rfl, rfl, HG, hli, hh1, by omega, HI, .inr ⟨x, z, HX.out, by rw [← HGG.out]; exact HZ.out, ?_⟩, HD2.out⟩
            rw [HLE.out]; exact decide_eq_false (by omega)
          case measure => simp only [intOf]; omega
        · have q4 : decide (c < 0) = false := decide_eq_false hcc
          have q5 : c + 1 > 0 := by omega
          have HCC := hid hcc
          clear hcc
          go_wp2
          refine wp_region_later (by kernel_rfl) (by kernel_rfl) ?_
          repeat (go_big_quiet_step (first | (go_at_call 47; exact Later.done (HLC.out _))))
          refine wpQuiet_nil ?_
          intro W2 hW2
          clear a0 b0
          have HD2 := hid (HS.out.later hW2)
          clear hW2
          go_wp2
          go_roundw
          case rel =>
            refine ⟨h + 1, j, lo, hi, by go_num, rfl, HG, by omega, by omega, hjh, .inr ⟨x, z, by rw [Nat.add_sub_cancel]; exact HX.out, by rw [show d + m - (h + 1) = g by have := HGG.out; omega]; exact HZ.out, ?_⟩, HJ, HD2.out⟩
            rw [HLE.out]; exact decide_eq_true (by have := HCC.out; omega)
          case measure => simp only [intOf]; omega
      · obtain rfl : i = j := by omega
        obtain ⟨f, hf⟩ : ∃ f, f + i = d + m := ⟨d + m - i, by omega⟩
        obtain ⟨A1, A2, B1, B2, hA12, hB12, hsA, hfB, hmg⟩ := sym_split (f := f) HL.out.total hA hB HCUR.out HA.out HM.out HE.out HD.out HG.out hli hjh hf (by
          have := HI.out
          rwa [show d + m - i = f by omega] at this) (by
          have := HJ.out
          rwa [show d + m - i - 1 = f - 1 by omega] at this)
        have p1 : (d : Int) + (m : Int) - (i : Int) = (f : Int) := by omega
        have lA := HM.out
        have lB := HE.out
        rw [hA12] at lA
        rw [hB12] at lB
        simp only [List.length_append] at lA lB
        have lP := HA.out
        have HMG := hid hmg
        have HK0 : Hid (SortAt (encP pc) 1 w b o (P ++ A1 ++ A2 ++ B1 ++ B2 ++ T) wr) := hid (by
          have := HS.out
          rw [HCUR.out, hA12, hB12] at this
          simpa using this)
        have HLN : Hid (l = P.length + A1.length + A2.length + B1.length + B2.length + T.length) := hid (by rw [HLL.out, HCUR.out, hA12, hB12]; simp; omega)
        have HSZ : Hid (A.length = A1.length + A2.length ∧ B.length = B1.length + B2.length) := hid (by rw [hA12, hB12]; simp)
        have HSA : Hid (SortedL le A1 ∧ SortedL le A2 ∧ SortedL le B1 ∧ SortedL le B2) := hid (by
          rw [hA12] at hA
          rw [hB12] at hB
          have h1 := List.pairwise_append.1 hA
          have h2 := List.pairwise_append.1 hB
          exact ⟨h1.1, h1.2.1, h2.1, h2.2.1⟩)
        have LP := hid lP
        have LA := hid (And.intro lA lB)
        have LS := hid (And.intro hsA (And.intro hfB hf))
        have hmle : m ≤ l := by omega
        have hfle : f ≤ l := by omega
        clear hs hA12 hB12 hmg hli hij hjh hb1 hb2 hb3 hb4 hlt lA lB lP hsA hfB hf
        rcases (show (0 < A1.length ∧ 0 < A2.length ∧ 0 < B1.length ∧ 0 < B2.length) ∨ (0 < A1.length ∧ 0 < A2.length ∧ 0 < B1.length ∧ B2.length = 0) ∨ (0 < A1.length ∧ A2.length = 0 ∧ 0 < B1.length ∧ 0 < B2.length) ∨ (0 < A1.length ∧ 0 < A2.length ∧ B1.length = 0 ∧ 0 < B2.length) ∨ (0 < A1.length ∧ 0 < A2.length ∧ B1.length = 0 ∧ B2.length = 0) ∨ (0 < A1.length ∧ A2.length = 0 ∧ B1.length = 0 ∧ 0 < B2.length) ∨ (A1.length = 0 ∧ 0 < A2.length ∧ 0 < B1.length ∧ 0 < B2.length) ∨ (A1.length = 0 ∧ 0 < A2.length ∧ 0 < B1.length ∧ B2.length = 0) ∨ (A1.length = 0 ∧ A2.length = 0 ∧ 0 < B1.length ∧ 0 < B2.length) by have := LA.out; have := LS.out; omega) with ⟨n1, n2, n3, n4⟩ | ⟨n1, n2, n3, n4⟩ | ⟨n1, n2, n3, n4⟩ | ⟨n1, n2, n3, n4⟩ | ⟨n1, n2, n3, n4⟩ | ⟨n1, n2, n3, n4⟩ | ⟨n1, n2, n3, n4⟩ | ⟨n1, n2, n3, n4⟩ | ⟨n1, n2, n3, n4⟩
        · have f1 : (i : Int) < (m : Int) := by have := LA.out; have := LS.out; omega
          have f2 : (m : Int) < (f : Int) := by have := LA.out; have := LS.out; omega
          have f3 : (a : Int) < (i : Int) := by have := LA.out; have := LS.out; omega
          have f4 : (i : Int) < (d : Int) := by have := LA.out; have := LS.out; omega
          have f5 : (d : Int) < (f : Int) := by have := LA.out; have := LS.out; omega
          have f6 : (f : Int) < (e : Int) := by have := LA.out; have := LS.out; omega
          have HN1 := hid (And.intro n2 n3)
          have HNN := hid (And.intro n1 (And.intro n2 (And.intro n3 n4)))
          clear n1 n2 n3 n4
          have C1 := hid (rotate_p (pc := pc) (cap := cap) (l := l) (za := (i : Int)) (zm := (m : Int)) (zb := (f : Int)) (cv := .func (.func 47) #[] #[]) (P ++ A1) A2 B1 (B2 ++ T) wr (by simp) (by rw [HLN.out]; simp; omega) (by have := LS.out; have := LP.out; simp; omega) (by have := LS.out; have := LP.out; have := LA.out; simp; omega) (by have := LS.out; have := LP.out; have := LA.out; simp; omega) HK0.out (by intro hn; have := HNN.out; rw [hn] at this; simp at this) (by intro hn; have := HNN.out; rw [hn] at this; simp at this) hcap hcap2)
          go_wp2_with fail
          with_reducible refine C1.out.mono ?_
          rintro r w1 ⟨rfl, hk1⟩
          have HK1 : Hid (SortAt (encP pc) 1 w b o (P ++ A1 ++ B1 ++ A2 ++ B2 ++ T) w1) := hid (by simpa using hk1)
          clear hk1
          have C2 := hid (HIH.out P A1 B1 (A2 ++ B2 ++ T) _ w1 l a i d (by have := HNN.out; have := HSZ.out; omega) HNN.out.1 HNN.out.2.2.1 HSA.out.1 HSA.out.2.2.1 (by simp) (by rw [HLN.out]; simp; omega) LP.out LS.out.1 (by have := LS.out; have := LA.out; omega) HK1.out hcap hcap2)
          go_wp2_with fail
          with_reducible refine C2.out.mono ?_
          rintro r w2 ⟨rfl, hk2⟩
          have HK2 : Hid (SortAt (encP pc) 1 w b o (P ++ mergeL le A1 B1 ++ A2 ++ B2 ++ T) w2) := hid (by simpa using hk2)
          clear hk2
          have C3 := hid (HIH.out (P ++ mergeL le A1 B1) A2 B2 T _ w2 l d f e (by have := HNN.out; have := HSZ.out; omega) HNN.out.2.1 HNN.out.2.2.2 HSA.out.2.1 HSA.out.2.2.2 (by simp) (by rw [HLN.out]; simp; omega) (by have := LS.out; have := LA.out; have := LP.out; simp; omega) (by have := LS.out; have := LA.out; omega) (by have := LS.out; have := LA.out; omega) HK2.out hcap hcap2)
          go_wp2_with fail
          with_reducible refine C3.out.mono ?_
          rintro r w3 ⟨rfl, hk3⟩
          have HK3 : Hid (SortAt (encP pc) 1 w b o (P ++ mergeL le A B ++ T) w3) := hid (by rw [HMG.out]; simpa using hk3)
          clear hk3
          go_wp2
          all_goals
            go_end0
            exact ⟨rfl, by first | (with_reducible exact HK3.out) | (rw [← List.append_assoc]; with_reducible exact HK3.out)⟩
        · have f1 : (i : Int) < (m : Int) := by have := LA.out; have := LS.out; omega
          have f2 : (m : Int) < (f : Int) := by have := LA.out; have := LS.out; omega
          have f3 : (a : Int) < (i : Int) := by have := LA.out; have := LS.out; omega
          have f4 : (i : Int) < (d : Int) := by have := LA.out; have := LS.out; omega
          have f5 : (d : Int) < (f : Int) := by have := LA.out; have := LS.out; omega
          have f6 : (e : Int) ≤ (f : Int) := by have := LA.out; have := LS.out; omega
          have hzB2 : B2 = [] := List.length_eq_zero_iff.1 (by omega)
          have HZ := hid (And.intro (rfl : 0 = 0) hzB2)
          clear hzB2
          have HN1 := hid (And.intro n2 n3)
          have HNN := hid (And.intro n1 (And.intro n2 (And.intro n3 n4)))
          clear n1 n2 n3 n4
          have C1 := hid (rotate_p (pc := pc) (cap := cap) (l := l) (za := (i : Int)) (zm := (m : Int)) (zb := (f : Int)) (cv := .func (.func 47) #[] #[]) (P ++ A1) A2 B1 (B2 ++ T) wr (by simp) (by rw [HLN.out]; simp; omega) (by have := LS.out; have := LP.out; simp; omega) (by have := LS.out; have := LP.out; have := LA.out; simp; omega) (by have := LS.out; have := LP.out; have := LA.out; simp; omega) HK0.out (by intro hn; have := HNN.out; rw [hn] at this; simp at this) (by intro hn; have := HNN.out; rw [hn] at this; simp at this) hcap hcap2)
          go_wp2_with fail
          with_reducible refine C1.out.mono ?_
          rintro r w1 ⟨rfl, hk1⟩
          have HK1 : Hid (SortAt (encP pc) 1 w b o (P ++ A1 ++ B1 ++ A2 ++ B2 ++ T) w1) := hid (by simpa using hk1)
          clear hk1
          have C2 := hid (HIH.out P A1 B1 (A2 ++ B2 ++ T) _ w1 l a i d (by have := HNN.out; have := HSZ.out; omega) HNN.out.1 HNN.out.2.2.1 HSA.out.1 HSA.out.2.2.1 (by simp) (by rw [HLN.out]; simp; omega) LP.out LS.out.1 (by have := LS.out; have := LA.out; omega) HK1.out hcap hcap2)
          go_wp2_with fail
          with_reducible refine C2.out.mono ?_
          rintro r w2 ⟨rfl, hk2⟩
          have HK2 : Hid (SortAt (encP pc) 1 w b o (P ++ mergeL le A1 B1 ++ A2 ++ B2 ++ T) w2) := hid (by simpa using hk2)
          clear hk2
          have HK3 : Hid (SortAt (encP pc) 1 w b o (P ++ mergeL le A B ++ T) w2) := hid (by
            have := HK2.out
            rw [HMG.out]
            obtain ⟨-, hzB2⟩ := HZ.out
            subst hzB2
            simpa [mergeL_nil, mergeL_right] using this)
          go_wp2
          all_goals
            go_end0
            exact ⟨rfl, by first | (with_reducible exact HK3.out) | (rw [← List.append_assoc]; with_reducible exact HK3.out)⟩
        · have f1 : (m : Int) ≤ (i : Int) := by have := LA.out; have := LS.out; omega
          have f2 : (m : Int) < (f : Int) := by have := LA.out; have := LS.out; omega
          have f3 : (a : Int) < (i : Int) := by have := LA.out; have := LS.out; omega
          have f4 : (i : Int) < (d : Int) := by have := LA.out; have := LS.out; omega
          have f5 : (f : Int) ≤ (d : Int) := by have := LA.out; have := LS.out; omega
          have f6 : (f : Int) < (e : Int) := by have := LA.out; have := LS.out; omega
          have hzA2 : A2 = [] := List.length_eq_zero_iff.1 (by omega)
          have HZ := hid (And.intro (rfl : 0 = 0) hzA2)
          clear hzA2
          have HNN := hid (And.intro n1 (And.intro n2 (And.intro n3 n4)))
          clear n1 n2 n3 n4
          have HK1 : Hid (SortAt (encP pc) 1 w b o (P ++ A1 ++ B1 ++ A2 ++ B2 ++ T) wr) := hid (by
            have := HK0.out
            obtain ⟨-, hzA2⟩ := HZ.out
            subst hzA2
            simpa using this)
          have C2 := hid (HIH.out P A1 B1 (A2 ++ B2 ++ T) _ wr l a i d (by have := HNN.out; have := HSZ.out; omega) HNN.out.1 HNN.out.2.2.1 HSA.out.1 HSA.out.2.2.1 (by simp) (by rw [HLN.out]; simp; omega) LP.out LS.out.1 (by have := LS.out; have := LA.out; omega) HK1.out hcap hcap2)
          go_wp2_with fail
          with_reducible refine C2.out.mono ?_
          rintro r w2 ⟨rfl, hk2⟩
          have HK2 : Hid (SortAt (encP pc) 1 w b o (P ++ mergeL le A1 B1 ++ A2 ++ B2 ++ T) w2) := hid (by simpa using hk2)
          clear hk2
          have HK3 : Hid (SortAt (encP pc) 1 w b o (P ++ mergeL le A B ++ T) w2) := hid (by
            have := HK2.out
            rw [HMG.out]
            obtain ⟨-, hzA2⟩ := HZ.out
            subst hzA2
            simpa [mergeL_nil, mergeL_right] using this)
          go_wp2
          all_goals
            go_end0
            exact ⟨rfl, by first | (with_reducible exact HK3.out) | (rw [← List.append_assoc]; with_reducible exact HK3.out)⟩
        · have f1 : (i : Int) < (m : Int) := by have := LA.out; have := LS.out; omega
          have f2 : (f : Int) ≤ (m : Int) := by have := LA.out; have := LS.out; omega
          have f3 : (a : Int) < (i : Int) := by have := LA.out; have := LS.out; omega
          have f4 : (d : Int) ≤ (i : Int) := by have := LA.out; have := LS.out; omega
          have f5 : (d : Int) < (f : Int) := by have := LA.out; have := LS.out; omega
          have f6 : (f : Int) < (e : Int) := by have := LA.out; have := LS.out; omega
          have hzB1 : B1 = [] := List.length_eq_zero_iff.1 (by omega)
          have HZ := hid (And.intro (rfl : 0 = 0) hzB1)
          clear hzB1
          have HNN := hid (And.intro n1 (And.intro n2 (And.intro n3 n4)))
          clear n1 n2 n3 n4
          have HK1 : Hid (SortAt (encP pc) 1 w b o (P ++ A1 ++ B1 ++ A2 ++ B2 ++ T) wr) := hid (by
            have := HK0.out
            obtain ⟨-, hzB1⟩ := HZ.out
            subst hzB1
            simpa using this)
          have HK2 : Hid (SortAt (encP pc) 1 w b o (P ++ mergeL le A1 B1 ++ A2 ++ B2 ++ T) wr) := hid (by
            have := HK1.out
            obtain ⟨-, hzB1⟩ := HZ.out
            subst hzB1
            simpa [mergeL_nil, mergeL_right] using this)
          have C3 := hid (HIH.out (P ++ mergeL le A1 B1) A2 B2 T _ wr l d f e (by have := HNN.out; have := HSZ.out; omega) HNN.out.2.1 HNN.out.2.2.2 HSA.out.2.1 HSA.out.2.2.2 (by simp) (by rw [HLN.out]; simp; omega) (by have := LS.out; have := LA.out; have := LP.out; simp; omega) (by have := LS.out; have := LA.out; omega) (by have := LS.out; have := LA.out; omega) HK2.out hcap hcap2)
          go_wp2_with fail
          with_reducible refine C3.out.mono ?_
          rintro r w3 ⟨rfl, hk3⟩
          have HK3 : Hid (SortAt (encP pc) 1 w b o (P ++ mergeL le A B ++ T) w3) := hid (by rw [HMG.out]; simpa using hk3)
          clear hk3
          go_wp2
          all_goals
            go_end0
            exact ⟨rfl, by first | (with_reducible exact HK3.out) | (rw [← List.append_assoc]; with_reducible exact HK3.out)⟩
        · have f1 : (i : Int) < (m : Int) := by have := LA.out; have := LS.out; omega
          have f2 : (f : Int) ≤ (m : Int) := by have := LA.out; have := LS.out; omega
          have f3 : (a : Int) < (i : Int) := by have := LA.out; have := LS.out; omega
          have f4 : (d : Int) ≤ (i : Int) := by have := LA.out; have := LS.out; omega
          have f5 : (d : Int) < (f : Int) := by have := LA.out; have := LS.out; omega
          have f6 : (e : Int) ≤ (f : Int) := by have := LA.out; have := LS.out; omega
          have hzB1 : B1 = [] := List.length_eq_zero_iff.1 (by omega)
          have hzB2 : B2 = [] := List.length_eq_zero_iff.1 (by omega)
          have HZ := hid (And.intro (rfl : 0 = 0) (And.intro hzB1 hzB2))
          clear hzB1
          clear hzB2
          have HNN := hid (And.intro n1 (And.intro n2 (And.intro n3 n4)))
          clear n1 n2 n3 n4
          have HK1 : Hid (SortAt (encP pc) 1 w b o (P ++ A1 ++ B1 ++ A2 ++ B2 ++ T) wr) := hid (by
            have := HK0.out
            obtain ⟨-, hzB1, hzB2⟩ := HZ.out
            subst hzB1 hzB2
            simpa using this)
          have HK2 : Hid (SortAt (encP pc) 1 w b o (P ++ mergeL le A1 B1 ++ A2 ++ B2 ++ T) wr) := hid (by
            have := HK1.out
            obtain ⟨-, hzB1, hzB2⟩ := HZ.out
            subst hzB1 hzB2
            simpa [mergeL_nil, mergeL_right] using this)
          have HK3 : Hid (SortAt (encP pc) 1 w b o (P ++ mergeL le A B ++ T) wr) := hid (by
            have := HK2.out
            rw [HMG.out]
            obtain ⟨-, hzB1, hzB2⟩ := HZ.out
            subst hzB1 hzB2
            simpa [mergeL_nil, mergeL_right] using this)
          go_wp2
          all_goals
            go_end0
            exact ⟨rfl, by first | (with_reducible exact HK3.out) | (rw [← List.append_assoc]; with_reducible exact HK3.out)⟩
        · have f1 : (m : Int) ≤ (i : Int) := by have := LA.out; have := LS.out; omega
          have f2 : (f : Int) ≤ (m : Int) := by have := LA.out; have := LS.out; omega
          have f3 : (a : Int) < (i : Int) := by have := LA.out; have := LS.out; omega
          have f4 : (d : Int) ≤ (i : Int) := by have := LA.out; have := LS.out; omega
          have f5 : (f : Int) ≤ (d : Int) := by have := LA.out; have := LS.out; omega
          have f6 : (f : Int) < (e : Int) := by have := LA.out; have := LS.out; omega
          have hzA2 : A2 = [] := List.length_eq_zero_iff.1 (by omega)
          have hzB1 : B1 = [] := List.length_eq_zero_iff.1 (by omega)
          have HZ := hid (And.intro (rfl : 0 = 0) (And.intro hzA2 hzB1))
          clear hzA2
          clear hzB1
          have HNN := hid (And.intro n1 (And.intro n2 (And.intro n3 n4)))
          clear n1 n2 n3 n4
          have HK1 : Hid (SortAt (encP pc) 1 w b o (P ++ A1 ++ B1 ++ A2 ++ B2 ++ T) wr) := hid (by
            have := HK0.out
            obtain ⟨-, hzA2, hzB1⟩ := HZ.out
            subst hzA2 hzB1
            simpa using this)
          have HK2 : Hid (SortAt (encP pc) 1 w b o (P ++ mergeL le A1 B1 ++ A2 ++ B2 ++ T) wr) := hid (by
            have := HK1.out
            obtain ⟨-, hzA2, hzB1⟩ := HZ.out
            subst hzA2 hzB1
            simpa [mergeL_nil, mergeL_right] using this)
          have HK3 : Hid (SortAt (encP pc) 1 w b o (P ++ mergeL le A B ++ T) wr) := hid (by
            have := HK2.out
            rw [HMG.out]
            obtain ⟨-, hzA2, hzB1⟩ := HZ.out
            subst hzA2 hzB1
            simpa [mergeL_nil, mergeL_right] using this)
          go_wp2
          all_goals
            go_end0
            exact ⟨rfl, by first | (with_reducible exact HK3.out) | (rw [← List.append_assoc]; with_reducible exact HK3.out)⟩
        · have f1 : (i : Int) < (m : Int) := by have := LA.out; have := LS.out; omega
          have f2 : (m : Int) < (f : Int) := by have := LA.out; have := LS.out; omega
          have f3 : (i : Int) ≤ (a : Int) := by have := LA.out; have := LS.out; omega
          have f4 : (i : Int) < (d : Int) := by have := LA.out; have := LS.out; omega
          have f5 : (d : Int) < (f : Int) := by have := LA.out; have := LS.out; omega
          have f6 : (f : Int) < (e : Int) := by have := LA.out; have := LS.out; omega
          have hzA1 : A1 = [] := List.length_eq_zero_iff.1 (by omega)
          have HZ := hid (And.intro (rfl : 0 = 0) hzA1)
          clear hzA1
          have HN1 := hid (And.intro n2 n3)
          have HNN := hid (And.intro n1 (And.intro n2 (And.intro n3 n4)))
          clear n1 n2 n3 n4
          have C1 := hid (rotate_p (pc := pc) (cap := cap) (l := l) (za := (i : Int)) (zm := (m : Int)) (zb := (f : Int)) (cv := .func (.func 47) #[] #[]) (P ++ A1) A2 B1 (B2 ++ T) wr (by simp) (by rw [HLN.out]; simp; omega) (by have := LS.out; have := LP.out; simp; omega) (by have := LS.out; have := LP.out; have := LA.out; simp; omega) (by have := LS.out; have := LP.out; have := LA.out; simp; omega) HK0.out (by intro hn; have := HNN.out; rw [hn] at this; simp at this) (by intro hn; have := HNN.out; rw [hn] at this; simp at this) hcap hcap2)
          go_wp2_with fail
          with_reducible refine C1.out.mono ?_
          rintro r w1 ⟨rfl, hk1⟩
          have HK1 : Hid (SortAt (encP pc) 1 w b o (P ++ A1 ++ B1 ++ A2 ++ B2 ++ T) w1) := hid (by simpa using hk1)
          clear hk1
          have HK2 : Hid (SortAt (encP pc) 1 w b o (P ++ mergeL le A1 B1 ++ A2 ++ B2 ++ T) w1) := hid (by
            have := HK1.out
            obtain ⟨-, hzA1⟩ := HZ.out
            subst hzA1
            simpa [mergeL_nil, mergeL_right] using this)
          have C3 := hid (HIH.out (P ++ mergeL le A1 B1) A2 B2 T _ w1 l d f e (by have := HNN.out; have := HSZ.out; omega) HNN.out.2.1 HNN.out.2.2.2 HSA.out.2.1 HSA.out.2.2.2 (by simp) (by rw [HLN.out]; simp; omega) (by have := LS.out; have := LA.out; have := LP.out; simp; omega) (by have := LS.out; have := LA.out; omega) (by have := LS.out; have := LA.out; omega) HK2.out hcap hcap2)
          go_wp2_with fail
          with_reducible refine C3.out.mono ?_
          rintro r w3 ⟨rfl, hk3⟩
          have HK3 : Hid (SortAt (encP pc) 1 w b o (P ++ mergeL le A B ++ T) w3) := hid (by rw [HMG.out]; simpa using hk3)
          clear hk3
          go_wp2
          all_goals
            go_end0
            exact ⟨rfl, by first | (with_reducible exact HK3.out) | (rw [← List.append_assoc]; with_reducible exact HK3.out)⟩
        · have f1 : (i : Int) < (m : Int) := by have := LA.out; have := LS.out; omega
          have f2 : (m : Int) < (f : Int) := by have := LA.out; have := LS.out; omega
          have f3 : (i : Int) ≤ (a : Int) := by have := LA.out; have := LS.out; omega
          have f4 : (i : Int) < (d : Int) := by have := LA.out; have := LS.out; omega
          have f5 : (d : Int) < (f : Int) := by have := LA.out; have := LS.out; omega
          have f6 : (e : Int) ≤ (f : Int) := by have := LA.out; have := LS.out; omega
          have hzA1 : A1 = [] := List.length_eq_zero_iff.1 (by omega)
          have hzB2 : B2 = [] := List.length_eq_zero_iff.1 (by omega)
          have HZ := hid (And.intro (rfl : 0 = 0) (And.intro hzA1 hzB2))
          clear hzA1
          clear hzB2
          have HN1 := hid (And.intro n2 n3)
          have HNN := hid (And.intro n1 (And.intro n2 (And.intro n3 n4)))
          clear n1 n2 n3 n4
          have C1 := hid (rotate_p (pc := pc) (cap := cap) (l := l) (za := (i : Int)) (zm := (m : Int)) (zb := (f : Int)) (cv := .func (.func 47) #[] #[]) (P ++ A1) A2 B1 (B2 ++ T) wr (by simp) (by rw [HLN.out]; simp; omega) (by have := LS.out; have := LP.out; simp; omega) (by have := LS.out; have := LP.out; have := LA.out; simp; omega) (by have := LS.out; have := LP.out; have := LA.out; simp; omega) HK0.out (by intro hn; have := HNN.out; rw [hn] at this; simp at this) (by intro hn; have := HNN.out; rw [hn] at this; simp at this) hcap hcap2)
          go_wp2_with fail
          with_reducible refine C1.out.mono ?_
          rintro r w1 ⟨rfl, hk1⟩
          have HK1 : Hid (SortAt (encP pc) 1 w b o (P ++ A1 ++ B1 ++ A2 ++ B2 ++ T) w1) := hid (by simpa using hk1)
          clear hk1
          have HK2 : Hid (SortAt (encP pc) 1 w b o (P ++ mergeL le A1 B1 ++ A2 ++ B2 ++ T) w1) := hid (by
            have := HK1.out
            obtain ⟨-, hzA1, hzB2⟩ := HZ.out
            subst hzA1 hzB2
            simpa [mergeL_nil, mergeL_right] using this)
          have HK3 : Hid (SortAt (encP pc) 1 w b o (P ++ mergeL le A B ++ T) w1) := hid (by
            have := HK2.out
            rw [HMG.out]
            obtain ⟨-, hzA1, hzB2⟩ := HZ.out
            subst hzA1 hzB2
            simpa [mergeL_nil, mergeL_right] using this)
          go_wp2
          all_goals
            go_end0
            exact ⟨rfl, by first | (with_reducible exact HK3.out) | (rw [← List.append_assoc]; with_reducible exact HK3.out)⟩
        · have f1 : (m : Int) ≤ (i : Int) := by have := LA.out; have := LS.out; omega
          have f2 : (m : Int) < (f : Int) := by have := LA.out; have := LS.out; omega
          have f3 : (i : Int) ≤ (a : Int) := by have := LA.out; have := LS.out; omega
          have f4 : (i : Int) < (d : Int) := by have := LA.out; have := LS.out; omega
          have f5 : (f : Int) ≤ (d : Int) := by have := LA.out; have := LS.out; omega
          have f6 : (f : Int) < (e : Int) := by have := LA.out; have := LS.out; omega
          have hzA1 : A1 = [] := List.length_eq_zero_iff.1 (by omega)
          have hzA2 : A2 = [] := List.length_eq_zero_iff.1 (by omega)
          have HZ := hid (And.intro (rfl : 0 = 0) (And.intro hzA1 hzA2))
          clear hzA1
          clear hzA2
          have HNN := hid (And.intro n1 (And.intro n2 (And.intro n3 n4)))
          clear n1 n2 n3 n4
          have HK1 : Hid (SortAt (encP pc) 1 w b o (P ++ A1 ++ B1 ++ A2 ++ B2 ++ T) wr) := hid (by
            have := HK0.out
            obtain ⟨-, hzA1, hzA2⟩ := HZ.out
            subst hzA1 hzA2
            simpa using this)
          have HK2 : Hid (SortAt (encP pc) 1 w b o (P ++ mergeL le A1 B1 ++ A2 ++ B2 ++ T) wr) := hid (by
            have := HK1.out
            obtain ⟨-, hzA1, hzA2⟩ := HZ.out
            subst hzA1 hzA2
            simpa [mergeL_nil, mergeL_right] using this)
          have HK3 : Hid (SortAt (encP pc) 1 w b o (P ++ mergeL le A B ++ T) wr) := hid (by
            have := HK2.out
            rw [HMG.out]
            obtain ⟨-, hzA1, hzA2⟩ := HZ.out
            subst hzA1 hzA2
            simpa [mergeL_nil, mergeL_right] using this)
          go_wp2
          all_goals
            go_end0
            exact ⟨rfl, by first | (with_reducible exact HK3.out) | (rw [← List.append_assoc]; with_reducible exact HK3.out)⟩

theorem sym_merge_p (hc : CmpP 47 pc cf w b) (hcl : CmpLe cf le) {cap : Nat} : ∀ (N : Nat) (P A B T cur : List α) (W : World) (l a m e : Nat), A.length + B.length < N → 0 < A.length → 0 < B.length → SortedL le A → SortedL le B → cur = P ++ A ++ B ++ T → l = cur.length → a = P.length → m = a + A.length → e = m + B.length → SortAt (encP pc) 1 w b o cur W → l ≤ cap → l ≤ 1000000000000 →
      Calls Tryz.prog 130 #[.slice (some ⟨b, o, none⟩) l cap, .int .i64 a, .int .i64 m, .int .i64 e, .func (.func 47) #[] #[]] W
        fun r w' => r = .returned (.tuple #[]) ∧ SortAt (encP pc) 1 w b o (P ++ mergeL le A B ++ T) w' := by
  intro N
  induction N with
  | zero => intro P A B T cur W l a m e hN; omega
  | succ N ih =>
    intro P A B T cur W l a m e hN hA0 hB0 hA hB hcur hl ha hm he h hcap hcap2
    match A, hA0, hA, hcur, hm, hN with
    | [x], _, hA, hcur, hm, hN => exact sym_one_p P B T x cur W hc hcl (by rw [hcur]; simp) hl ha (by simpa using hm) (by rw [he, hm]; simp) h hB hcap hcap2
    | x :: x' :: A, _, hA, hcur, hm, hN =>
      match B, hB0, hB, hcur, he, hN with
      | [y], _, hB, hcur, he, hN => exact sym_last_p P (x :: x' :: A) T y cur W hc hcl (by rw [hcur]; simp) hl ha hm (by simpa using he) (by simp) h hA hcap hcap2
      | y :: y' :: B, _, hB, hcur, he, hN =>
        exact sym_step_p P (x :: x' :: A) (y :: y' :: B) T cur W hc hcl hcur hl ha hm he (by simp) (by simp) (fun P A' B' T cur W l a m e hlt => ih P A' B' T cur W l a m e (by omega)) h hA hB hcap hcap2
end
end Go.Proofs.YthplgldclilccaaGreat
