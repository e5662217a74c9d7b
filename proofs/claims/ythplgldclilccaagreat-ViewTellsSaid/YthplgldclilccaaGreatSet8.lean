/- What the law knows. The program's calls on canonical polynomials: one form of contract for all. The coefficient by a variable that is none: the program's answer. The document: the other sign, the difference. The document: a monomial without a variable. A polynomial is built again out of its coefficients. Plain. The document: a variable's power, coefficient, initial, tail. The document: tail and derivative. The document: the derivative. Parts of ViewTells: the law's own plain, the coefficient by any variable, sizes. The document: a copy of a polynomial. The document: is it the same data? What layer 9's law knows. -/
import Derived.Test.YthplgldclilccaaGreatSet7
namespace Go.Proofs.YthplgldclilccaaGreat
open Go.RowKit

set_option maxRecDepth 100000 in
set_option maxHeartbeats 4000000 in
theorem rpoly_mul {S : Nat → Prop} (vp vq : Value) (p q : PZ) (w : World) (hS : ∀ k, S k → k < w.heap.size) (hp : RTs S w vp p) (hq : RTs S w vq q) (hmp : mayAll p) (hmq : mayAll q) (hszp : szP p) (hszq : szP q) (hsz : szM p q) :
    Calls Tryz.prog 44 #[vp, vq] w fun e w' => ∃ v', e = .returned v' ∧ RTs (Plus S w w') w' v' (timesV (timesP p q)) ∧ Ext w w' := by
  have HT := hid (rpoly_times vp vq p q w hS hp hq hmp hmq hszp hszq hsz)
  clear hp hq
  go_enter Tryz.func44, Tryz.ntmps44
  go_wp2_with fail
  refine HT.out.mono ?_
  rintro e w1 ⟨v1, rfl, hp1, hx1⟩
  have HX1 := hid hx1
  have HP1 := hid hp1
  clear hx1 hp1
  go_wp2
  all_goals
    go_ret
    exact ⟨_, rfl, HP1.out, HX1.out⟩

abbrev knX : PZ := [(1, [(1, 1)])]
abbrev knY : PZ := [(1, [(2, 1)])]
abbrev knYY : PZ := [(1, [(2, 2)])]
abbrev knA : PZ := [(1, [(1, 1), (2, 2)])]
abbrev knB : PZ := [(1, [(2, 1)]), (1, [])]
theorem kn1 : timesV (timesP knY knY) = knYY := by kernel_rfl
theorem kn2 : timesV (timesP knX knYY) = knA := by kernel_rfl
theorem kn3 : addP knY (numP 1) = knB := by kernel_rfl
theorem can_one {m : Mono} (h : mayM m = true) : canP [(1, m)] := ⟨fun t ht => by rw [List.mem_singleton.1 ht]; exact ⟨by show (1 : Int) ≠ 0; decide, h⟩, List.pairwise_singleton _ _⟩
theorem knX_can : canP knX := can_one rfl
theorem knY_can : canP knY := can_one rfl
theorem knYY_can : canP knYY := can_one rfl
theorem knA_can : canP knA := can_one rfl
theorem knB_can : canP knB := by
  rw [← kn3]
  exact (addP_can knY_can (putP_may canP_nil.may rfl)).1
theorem ones_sz {p : PZ} (h : p.length ≤ 100) (h1 : ∀ t ∈ p, t.1 = 1) : szP p := ⟨by omega, fun t ht => by rw [h1 t ht]; exact szZ_i64 (n := 1) (by omega)⟩
theorem ones_szM {p q : PZ} (hp : p.length = 1) (hq : q.length = 1) (h1 : ∀ t ∈ p, t.1 = 1) (h2 : ∀ t ∈ q, t.1 = 1) : szM p q :=
  ⟨1, 1, fun t ht u hu => by rw [h1 t ht, h2 u hu]; decide, by rw [hp, hq]; omega, by rw [hp, hq]; decide, by omega⟩
theorem ones_small {p : PZ} (h1 : ∀ t ∈ p, t.1 = 1) : smallT (ofP p) := fun t ht => by
  obtain ⟨u, hu, rfl⟩ := List.mem_map.1 ht
  have e := h1 u hu
  refine Nat.le_trans (rep_len_le two_le_B32 _ 1 ?_) (by omega)
  rw [e]
  decide
theorem plainP_ofP {p : PZ} (h : canP p) : plainP (ofP p) = p := by
  unfold plainP
  rw [if_pos (mayT_ofP h)]
  exact toP_ofP p
theorem rk1 : orderR (rankP knX) (rankP knY) = -1 := by kernel_rfl
theorem rk2 : reducedP knX knY = true := by kernel_rfl
theorem rk3 : orderR (rankP knA) (rankP knB) = 1 := by kernel_rfl
theorem rk4 : reducedP knA knB = false := by kernel_rfl
theorem rk5 : rankP knA = (2, 2) := by kernel_rfl
theorem RTs.old {w : World} {S : Nat → Prop} {v : Value} {p : PZ} (h : RTs S w v p) (hS : ∀ k, S k → k < w.heap.size) : RTs (Old w) w v p := h.to (Kept.refl _ _) hS
theorem Terms.old {w : World} {S : Nat → Prop} {v : Value} {p : List RTerm} (h : Terms S w v p) (hS : ∀ k, S k → k < w.heap.size) : Terms (Old w) w v p := h.to (Kept.refl _ _) hS
theorem Polys.on {w W : World} {v : Value} {z : List (List RTerm)} (h : Polys (Old w) w v z) (hx : Ext w W) : Polys (Old W) W v z := h.to (Kept.ext hx (fun _ h => h)) (old_lt hx)
theorem Terms.on {w W : World} {v : Value} {z : List RTerm} (h : Terms (Old w) w v z) (hx : Ext w W) : Terms (Old W) W v z := h.to (Kept.ext hx (fun _ h => h)) (old_lt hx)
theorem all_one {m : Mono} : ∀ t ∈ ([(1, m)] : PZ), t.1 = 1 := fun t ht => by rw [List.mem_singleton.1 ht]
theorem knB_one : ∀ t ∈ knB, t.1 = 1 := fun t ht => by
  simp at ht
  rcases ht with rfl | rfl <;> rfl
theorem kn_len {p : PZ} (h : mayAll p) : ∀ t ∈ p, t.2.length ≤ 1000000 := fun t ht => Nat.le_trans (mayM_len (h t ht)) (by omega)
theorem knOne : szP (numP 1) := ones_sz (p := [(1, [])]) (by decide) all_one
theorem kn_step (k : Nat) : szP (addP knY ((numP 1).take k)) := by
  cases k with
  | zero => exact ones_sz (p := knY) (by decide) all_one
  | succ k =>
    have e : (numP 1).take (k + 1) = numP 1 := List.take_of_length_le (by show 1 ≤ k + 1; omega)
    rw [e, kn3]
    exact ones_sz (by decide) knB_one

set_option maxRecDepth 100000 in
set_option maxHeartbeats 8000000 in
theorem law15_known (w : World) :
    Calls Tryz.prog 9 #[] w fun e w' => e = .returned (.bool true) ∧ Ext w w' := by
  have hnot : ∀ (x : Bool) (w : World), (Op.unary .not (.bool x)).run Tryz.prog w = .ok (.bool (!x)) w := fun _ _ => rfl
  go_enter Tryz.func9, Tryz.ntmps9
  go_wp2_with fail
  refine (rpoly_x 1 w (by unfold inI64; omega)).mono ?_
  rintro e w1 ⟨v1, rfl, hp1, hx1⟩
  have HX1 : Hid (Ext w w1) := hid hx1
  have HP1 := hid (RTs.old hp1 New.lt)
  obtain ⟨a1, c1, rfl⟩ := hp1.form
  clear hx1 hp1
  go_wp2_with fail
  refine (rpoly_x 2 w1 (by unfold inI64; omega)).mono ?_
  rintro e w2 ⟨v2, rfl, hp2, hx2⟩
  have HX2 : Hid (Ext w1 w2) := hid hx2
  have HP2 := hid (RTs.old hp2 New.lt)
  obtain ⟨a2, c2, rfl⟩ := hp2.form
  clear hx2 hp2
  go_wp2_with fail
  refine (rpoly_mul (S := Old w2) _ _ knY knY w2 (fun _ h => h) HP2.out HP2.out knY_can.may knY_can.may (ones_sz (by decide) all_one) (ones_sz (by decide) all_one) (ones_szM rfl rfl all_one all_one)).mono ?_
  rw [kn1]
  rintro e w3 ⟨v3, rfl, hp3, hx3⟩
  have HX3 : Hid (Ext w2 w3) := hid hx3
  have HP3 := hid (RTs.old hp3 (plus_lt (fun _ h => h) hx3))
  obtain ⟨a3, c3, rfl⟩ := hp3.form
  clear hx3 hp3
  go_wp2_with fail
  refine (rpoly_mul (S := Old w3) _ _ knX knYY w3 (fun _ h => h) (RTs.on HP1.out (HX2.out.trans HX3.out)) HP3.out knX_can.may knYY_can.may (ones_sz (by decide) all_one) (ones_sz (by decide) all_one) (ones_szM rfl rfl all_one all_one)).mono ?_
  rw [kn2]
  rintro e w4 ⟨v4, rfl, hp4, hx4⟩
  have HX4 : Hid (Ext w3 w4) := hid hx4
  have HP4 := hid (RTs.old hp4 (plus_lt (fun _ h => h) hx4))
  obtain ⟨a4, c4, rfl⟩ := hp4.form
  clear hx4 hp4
  go_wp2_with fail
  refine (rpoly_poly (S := Old w4) _ knA w4 HP4.out (fun _ h => h) (ones_sz (by decide) all_one) (kn_len knA_can.may)).mono ?_
  rintro e w5 ⟨v5, rfl, hp5, hx5⟩
  have HX5 : Hid (Ext w4 w5) := hid hx5
  have HP5 := hid (Terms.old hp5 New.lt)
  obtain ⟨a5, c5, rfl⟩ := hp5.form
  clear hx5 hp5
  go_wp2_with fail
  refine (rpoly_small 1 w5 (by omega)).mono ?_
  rintro e w6 ⟨v6, rfl, hp6, hx6⟩
  have HX6 : Hid (Ext w5 w6) := hid hx6
  have HP6 := hid (RTs.old hp6 New.lt)
  obtain ⟨a6, c6, rfl⟩ := hp6.form
  clear hx6 hp6
  go_wp2_with fail
  refine (rpoly_add (S := Old w6) _ _ knY (numP 1) w6 (fun _ h => h) (RTs.on HP2.out (HX3.out.trans (HX4.out.trans (HX5.out.trans HX6.out)))) HP6.out knY_can.may (putP_may canP_nil.may rfl) knOne (fun k _ => kn_step k)).mono ?_
  rw [kn3]
  rintro e w7 ⟨v7, rfl, hp7, hx7⟩
  have HX7 : Hid (Ext w6 w7) := hid hx7
  have HP7 := hid (RTs.old hp7 (plus_lt (fun _ h => h) hx7))
  obtain ⟨a7, c7, rfl⟩ := hp7.form
  clear hx7 hp7
  go_wp2_with fail
  refine (rpoly_poly (S := Old w7) _ knB w7 HP7.out (fun _ h => h) (ones_sz (by decide) knB_one) (kn_len knB_can.may)).mono ?_
  rintro e w8 ⟨v8, rfl, hp8, hx8⟩
  have HX8 : Hid (Ext w7 w8) := hid hx8
  have HP8 := hid (Terms.old hp8 New.lt)
  obtain ⟨a8, c8, rfl⟩ := hp8.form
  have HA8 := hid (Terms.on HP5.out (HX6.out.trans (HX7.out.trans hx8)))
  have HY1 := hid (RTs.on HP1.out (HX2.out.trans (HX3.out.trans (HX4.out.trans (HX5.out.trans (HX6.out.trans (HX7.out.trans hx8)))))))
  have HY2 := hid (RTs.on HP2.out (HX3.out.trans (HX4.out.trans (HX5.out.trans (HX6.out.trans (HX7.out.trans hx8))))))
  have HXX := hid (HX1.out.trans (HX2.out.trans (HX3.out.trans (HX4.out.trans (HX5.out.trans (HX6.out.trans (HX7.out.trans hx8)))))))
  clear hx8 hp8
  go_wp2_with fail
  refine (rpoly_poly (S := Old w8) _ knX w8 HY1.out (fun _ h => h) (ones_sz (by decide) all_one) (kn_len knX_can.may)).mono ?_
  rintro e w9 ⟨v9, rfl, hp9, hx9⟩
  have HX9 : Hid (Ext w8 w9) := hid hx9
  have HP9 := hid (Terms.old hp9 New.lt)
  obtain ⟨a9, c9, rfl⟩ := hp9.form
  clear hx9 hp9
  go_wp2_with fail
  refine (rpoly_poly (S := Old w9) _ knY w9 (RTs.on HY2.out HX9.out) (fun _ h => h) (ones_sz (by decide) all_one) (kn_len knY_can.may)).mono ?_
  rintro e w10 ⟨v10, rfl, hp10, hx10⟩
  have HX10 : Hid (Ext w9 w10) := hid hx10
  have HP10 := hid (Terms.old hp10 New.lt)
  obtain ⟨a10, c10, rfl⟩ := hp10.form
  clear hx10 hp10
  go_wp2_with fail
  refine (rank_compare (S := Old w10) _ _ (ofP knX) (ofP knY) w10 (Terms.on HP9.out HX10.out) HP10.out (fun _ h => h) (ones_small all_one) (ones_small all_one)).mono ?_
  rw [plainP_ofP knX_can, plainP_ofP knY_can, rk1]
  rintro e w11 ⟨rfl, hx11⟩
  have HX11 : Hid (Ext w8 w11) := hid (HX9.out.trans (HX10.out.trans hx11))
  clear hx11
  go_wp2_with fail
  refine (rpoly_poly (S := Old w11) _ knX w11 (RTs.on HY1.out HX11.out) (fun _ h => h) (ones_sz (by decide) all_one) (kn_len knX_can.may)).mono ?_
  rintro e w12 ⟨v12, rfl, hp12, hx12⟩
  have HX12 : Hid (Ext w8 w12) := hid (HX11.out.trans hx12)
  have HP12 := hid (Terms.old hp12 New.lt)
  obtain ⟨a12, c12, rfl⟩ := hp12.form
  clear hx12 hp12
  go_wp2_with fail
  refine (rpoly_poly (S := Old w12) _ knY w12 (RTs.on HY2.out HX12.out) (fun _ h => h) (ones_sz (by decide) all_one) (kn_len knY_can.may)).mono ?_
  rintro e w13 ⟨v13, rfl, hp13, hx13⟩
  have HX13a : Hid (Ext w12 w13) := hid hx13
  have HX13 : Hid (Ext w8 w13) := hid (HX12.out.trans hx13)
  have HP13 := hid (Terms.old hp13 New.lt)
  obtain ⟨a13, c13, rfl⟩ := hp13.form
  clear hx13 hp13
  go_wp2_with fail
  refine (rank_reduced (S := Old w13) _ _ (ofP knX) (ofP knY) w13 (Terms.on HP12.out HX13a.out) HP13.out (fun _ h => h) (ones_small all_one) (ones_small all_one)).mono ?_
  rw [plainP_ofP knX_can, plainP_ofP knY_can, rk2]
  rintro e w14 ⟨rfl, hx14⟩
  have HX14 : Hid (Ext w8 w14) := hid (HX13.out.trans hx14)
  clear hx14
  go_wp2_with fail
  refine (rank_compare (S := Old w14) _ _ (ofP knA) (ofP knB) w14 (Terms.on HA8.out HX14.out) (Terms.on HP8.out HX14.out) (fun _ h => h) (ones_small all_one) (ones_small knB_one)).mono ?_
  rw [plainP_ofP knA_can, plainP_ofP knB_can, rk3]
  rintro e w15 ⟨rfl, hx15⟩
  have HX15 : Hid (Ext w8 w15) := hid (HX14.out.trans hx15)
  clear hx15
  go_wp2_with fail
  refine (rank_reduced (S := Old w15) _ _ (ofP knA) (ofP knB) w15 (Terms.on HA8.out HX15.out) (Terms.on HP8.out HX15.out) (fun _ h => h) (ones_small all_one) (ones_small knB_one)).mono ?_
  rw [plainP_ofP knA_can, plainP_ofP knB_can, rk4]
  rintro e w16 ⟨rfl, hx16⟩
  have HX16 : Hid (Ext w8 w16) := hid (HX15.out.trans hx16)
  clear hx16
  go_wp2_with fail
  refine (rank_of (S := Old w16) _ (ofP knA) w16 (Terms.on HA8.out HX16.out) (fun _ h => h) (ones_small all_one)).mono ?_
  rw [plainP_ofP knA_can, rk5]
  unfold RankV
  rintro e w17 ⟨rfl, hx17⟩
  have HX17 : Hid (Ext w8 w17) := hid (HX16.out.trans hx17)
  clear hx17
  go_wp2
  all_goals
    go_ret
    exact ⟨rfl, HXX.out.trans HX17.out⟩
end Go.Proofs.YthplgldclilccaaGreat

namespace Go.Proofs.YthplgldclilccaaGreat
open Go.RowKit

/-- a canonical polynomial of at most n terms, of at most k limbs each -/
def Fit (k n : Nat) (p : PZ) : Prop := canP p ∧ bndZ k p ∧ p.length ≤ n
/-- it lies in memory -/
abbrev PV (W : World) (v : Value) (p : PZ) : Prop := Terms (Old W) W v (ofP p)

section
variable {k l n m : Nat} {p q : PZ}
theorem Fit.can (h : Fit k n p) : canP p := h.1
theorem Fit.mono (h : Fit k n p) (hk : k ≤ l) (hn : n ≤ m) : Fit l m p := ⟨h.1, h.2.1.mono hk, Nat.le_trans h.2.2 hn⟩
theorem Fit.lens (h : Fit k n p) : ∀ t ∈ ofP p, t.c.mag.length ≤ k := bnd_lens h.2.1
theorem Fit.small (h : Fit k n p) (hk : k ≤ 1000000) : smallT (ofP p) := small_bnd h.2.1 (by omega)
theorem Fit.may (h : Fit k n p) : mayT (ofP p) = true := mayT_ofP h.1
theorem Fit.plain (h : Fit k n p) : plainP (ofP p) = p := plainP_ofP h.1
theorem Fit.len (h : Fit k n p) : (ofP p).length ≤ n := by rw [ofP_len]; exact h.2.2
theorem fit_nil : Fit 0 0 [] := ⟨canP_nil, fun t ht => by simp at ht, by simp⟩
theorem filterMap_len {α β : Type} (f : α → Option β) (l : List α) : (l.filterMap f).length ≤ l.length := List.length_filterMap_le _ _
theorem Fit.init (h : Fit k n p) : Fit k n (initP p) := ⟨initP_can h.1, bnd_init h.2.1, by
  unfold initP
  split
  · exact h.2.2
  · exact Nat.le_trans (filterMap_len _ _) h.2.2⟩
theorem Fit.coef (h : Fit k n p) (v e : Int) : Fit k n (coefP p v e) := ⟨coefP_can h.1 v e, bnd_coef h.2.1 v e, Nat.le_trans (filterMap_len _ _) h.2.2⟩
theorem Fit.tail (h : Fit k n p) : Fit k n (tailP p) := ⟨tailP_can h.1, bnd_tail h.2.1, Nat.le_trans (filterMap_len _ _) h.2.2⟩
theorem Fit.der (h : Fit k n p) (v : Int) : Fit (k + 1) n (derP p v) := ⟨derP_can h.1 v, bnd_der h.1.may h.2.1 v, Nat.le_trans (filterMap_len _ _) h.2.2⟩
theorem addP_len (p l : PZ) : (addP p l).length ≤ p.length + l.length := by
  unfold addP
  induction l generalizing p with
  | nil => simp
  | cons t r ih =>
    rw [List.foldl_cons]
    have h1 := ih (putP p t.1 t.2)
    have h2 := putP_len p t.1 t.2
    simp only [List.length_cons]
    omega
theorem normP_len (p : PZ) : (normP p).length ≤ p.length := by
  have := addP_len [] p
  rw [List.length_nil, Nat.zero_add] at this
  exact this
theorem may_append (hp : mayAll p) (hq : mayAll q) : mayAll (p ++ q) := fun t ht => by
  rcases List.mem_append.1 ht with g | g
  · exact hp t g
  · exact hq t g
theorem Fit.add (hp : Fit k n p) (hq : Fit k m q) (hn : n + m ≤ 1000000000) : Fit (k + 2) (n + m) (normP (p ++ q)) := by
  have hm := may_append hp.1.may hq.1.may
  have hl : (p ++ q).length ≤ n + m := by rw [List.length_append]; have := hp.2.2; have := hq.2.2; omega
  exact ⟨norm_can hm, normP_bnd hm (hp.2.1.append hq.2.1) (by show _ < 4294967296 ^ 2; omega), Nat.le_trans (normP_len _) hl⟩
theorem mulL_len (p q : PZ) : (mulL p q).length = p.length * q.length := by
  unfold mulL
  induction p with
  | nil => simp
  | cons t r ih => rw [List.flatMap_cons, List.length_append, ih, List.length_map, List.length_cons, Nat.add_mul]; omega
theorem mulL_bnd (hp : bndZ k p) (hq : bndZ l q) : bndZ (k + l) (mulL p q) := fun x hx => by
  obtain ⟨t, ht, u, hu, rfl⟩ := mulL_mem hx
  exact lenI_mono (lenI_prod (lenI_lt (hp t ht)) (lenI_lt (hq u hu))) (Nat.le_refl _)
theorem Fit.times {c : PZ} (hp : Fit k n p) (hq : Fit l m q) (h : timesP p q = some c) (hn : n * m ≤ 1000000000) : Fit (k + l + 2) (n * m) c := by
  obtain ⟨hm, rfl⟩ := times_some hp.1.may hq.1.may h
  have hl : (mulL p q).length ≤ n * m := by rw [mulL_len]; exact Nat.mul_le_mul hp.2.2 hq.2.2
  exact ⟨norm_can hm, normP_bnd hm (mulL_bnd hp.2.1 hq.2.1) (by show _ < 4294967296 ^ 2; omega), Nat.le_trans (normP_len _) hl⟩
end

set_option maxRecDepth 100000 in
set_option maxHeartbeats 4000000 in
theorem poly_times_no {S : Nat → Prop} (vp vq : Value) (ps qs : List RTerm) (w : World) (hp : Terms S w vp ps) (hq : Terms S w vq qs) (hS : ∀ k, S k → k < w.heap.size) (hm : (mayT ps && mayT qs) = false) (hrp : smallT ps) (hrq : smallT qs) :
    Calls Tryz.prog 33 #[vp, vq] w (ErrPoly w 2) := by
  have hnot : ∀ (x : Bool) (w : World), (Op.unary .not (.bool x)).run Tryz.prog w = .ok (.bool (!x)) w := fun _ _ => rfl
  unfold ErrPoly
  have CA := poly_all (S := fun k => S k ∨ k = w.heap.size) _ [ps, qs] (w.alloc (.cells #[vp, vq] 26)) (two_polys hp hq hS 26) (two_lt hS _) (fun p hp => by
    rcases List.mem_cons.1 hp with rfl | hp
    · exact hrp
    · rw [List.mem_singleton.1 hp]; exact hrq)
  rw [show [ps, qs].all mayT = false by simpa using hm] at CA
  obtain ⟨ap, cp, rfl⟩ := hp.form
  obtain ⟨aq, cq, rfl⟩ := hq.form
  have HCA := hid CA
  clear hp hq hm CA
  go_enter Tryz.func33, Tryz.ntmps33
  go_wp2_with fail
  with_reducible refine HCA.out.mono ?_
  rintro e w1 ⟨rfl, hx1⟩
  have HX1 := hid ((Ext.alloc (Ext.refl w) _).trans hx1)
  clear hx1
  go_wp2
  all_goals
    go_ret2
    exact ⟨rfl, HX1.out⟩
/-- an argument that may be -/
theorem pv_of {w : World} {v : Value} {ps : List RTerm} (h : Terms (Old w) w v ps) (hm : mayT ps = true) : ps = ofP (plainP ps) := by
  unfold plainP
  rw [if_pos hm]
  exact (mayT_of h.okT hm).symm
theorem fit_plain {ps : List RTerm} {k n : Nat} (hok : okT ps) (h : ∀ t ∈ ps, t.c.mag.length ≤ k) (hn : ps.length ≤ n) : Fit k n (plainP ps) := ⟨plainP_can ps, bnd_plain hok h, Nat.le_trans (plain_len ps) hn⟩

section
variable {W : World} {u v : Value} {p q : PZ} {k l n m : Nat}
theorem z_times (hp : PV W u p) (hq : PV W v q) (fp : Fit k n p) (fq : Fit l m q) (hc : k < 24 ∨ l < 24) (hk : k ≤ 1000000) (hl : l ≤ 1000000) (hnm : n * m ≤ 1000000000) :
    Calls Tryz.prog 33 #[u, v] W (TimesPost W (timesP p q)) := by
  have h := poly_times u v _ _ W 1000000 hp hq (fun _ h => h) fp.may fq.may (fun t ht => Nat.le_trans (fp.lens t ht) hk) (fun t ht => Nat.le_trans (fq.lens t ht) hl) (by decide)
    (hc.imp (fun h t ht => by
      obtain ⟨x, hx, rfl⟩ := List.mem_map.1 ht
      show lenI (valI (ofI x.1)) < 24
      rw [valI_ofI]
      exact Nat.lt_of_le_of_lt (lenI_lt (fp.2.1 x hx)) h) (fun h t ht => by
      obtain ⟨x, hx, rfl⟩ := List.mem_map.1 ht
      show lenI (valI (ofI x.1)) < 24
      rw [valI_ofI]
      exact Nat.lt_of_le_of_lt (lenI_lt (fq.2.1 x hx)) h))
    (Nat.le_trans (Nat.mul_le_mul fp.len fq.len) hnm)
  rwa [toP_ofP, toP_ofP] at h
theorem z_add (hp : PV W u p) (hq : PV W v q) (fp : Fit k n p) (fq : Fit l m q) (hk : k ≤ 1000000) (hl : l ≤ 1000000) (hn : n + m ≤ 1000000000) :
    Calls Tryz.prog 35 #[u, v] W (OkPoly W (normP (p ++ q))) := by
  have h := poly_add u v _ _ W 1000000 hp hq (fun _ h => h) fp.may fq.may (fun t ht => Nat.le_trans (fp.lens t ht) hk) (fun t ht => Nat.le_trans (fq.lens t ht) hl) (by decide) (by have := fp.len; have := fq.len; omega)
  rwa [toP_ofP, toP_ofP] at h
theorem z_same (hp : PV W u p) (hq : PV W v q) : Calls Tryz.prog 34 #[u, v] W fun e w' => e = .returned (.bool (decide (p = q))) ∧ Ext W w' := by
  have h := poly_same u v _ _ W hp hq (fun _ h => h)
  have e : decide (ofP p = ofP q) = decide (p = q) := by
    by_cases g : p = q
    · rw [decide_eq_true g, decide_eq_true (congrArg ofP g)]
    · rw [decide_eq_false g, decide_eq_false (fun e => g (by rw [← toP_ofP p, e, toP_ofP]))]
  rwa [e] at h
theorem z_class (hp : PV W u p) (fp : Fit k n p) (hk : k ≤ 1000000) : Calls Tryz.prog 24 #[u] W fun e w' => e = .returned (.int .i64 (leadP p)) ∧ Ext W w' := by
  have h := view_class u _ W hp (fun _ h => h) (fp.small hk)
  rwa [fp.plain] at h
theorem z_degree (hp : PV W u p) (fp : Fit k n p) (hk : k ≤ 1000000) {x : Int} (hx : inI64 x) : Calls Tryz.prog 26 #[u, .int .i64 x] W fun e w' => e = .returned (.int .i64 (degP p x)) ∧ Ext W w' := by
  have h := view_degree u _ x W hp (fun _ h => h) (fp.small hk) hx
  rwa [fp.plain] at h
theorem z_initial (hp : PV W u p) (fp : Fit k n p) (hk : k ≤ 1000000) (hn : n ≤ 1000000000) : Calls Tryz.prog 27 #[u] W fun e w' => ∃ v', e = .returned v' ∧ Terms (New W w') w' v' (ofP (initP p)) ∧ Ext W w' := by
  have h := view_initial u _ W hp (fun _ h => h) (fp.small hk) (Nat.le_trans fp.len hn)
  rwa [fp.plain] at h
theorem z_tail (hp : PV W u p) (fp : Fit k n p) (hk : k ≤ 1000000) (hn : n ≤ 1000000000) : Calls Tryz.prog 29 #[u] W fun e w' => ∃ v', e = .returned v' ∧ Terms (New W w') w' v' (ofP (tailP p)) ∧ Ext W w' := by
  have h := view_tail u _ W hp (fun _ h => h) (fp.small hk) (Nat.le_trans fp.len hn)
  rwa [fp.plain] at h
theorem z_coef (hp : PV W u p) (fp : Fit k n p) (hk : k ≤ 1000000) (hn : n ≤ 1000000000) {x d : Int} (hx : 1 ≤ x ∧ x ≤ 200) (hd : inI64 d) : Calls Tryz.prog 31 #[u, .int .i64 x, .int .i64 d] W fun e w' => ∃ v', e = .returned v' ∧ Terms (New W w') w' v' (ofP (coefP p x d)) ∧ Ext W w' := by
  have h := view_coefficient u _ x d W hp (fun _ h => h) (fp.small hk) (Nat.le_trans fp.len hn) hx hd
  rwa [fp.plain] at h
theorem z_derive (hp : PV W u p) (fp : Fit k n p) (hk : k ≤ 1000000) (hn : n ≤ 1000000000) {x : Int} (hx : inI64 x) : Calls Tryz.prog 32 #[u, .int .i64 x] W fun e w' => ∃ v', e = .returned v' ∧ Terms (New W w') w' v' (ofP (derP p x)) ∧ Ext W w' := by
  have h := view_derive u _ x W 1000000 hp (fun _ h => h) (fun t ht => Nat.le_trans (fp.lens t ht) hk) (by decide) (Nat.le_trans fp.len hn) hx
  rwa [fp.plain] at h
theorem z_may (hp : PV W u p) (fp : Fit k n p) (hk : k ≤ 1000000) : Calls Tryz.prog 41 #[u] W fun e w' => e = .returned (.bool true) ∧ Ext W w' := by
  have h := poly_may u _ W hp (fun _ h => h) (fp.small hk)
  rwa [fp.may] at h
end
end Go.Proofs.YthplgldclilccaaGreat

namespace Go.Proofs.YthplgldclilccaaGreat
open Go.RowKit

set_option maxRecDepth 100000 in
set_option maxHeartbeats 8000000 in
theorem picks_coef_no (w : World) (v d : Int) (bv bd : Nat) (g : ¬ (1 ≤ v ∧ v ≤ 200)) (hv : inI64 v) (c1 : w.cell? ⟨bv, 0, none⟩ = some (.int .i64 v)) (_ : w.cell? ⟨bd, 0, none⟩ = some (.int .i64 d)) :
    Picks w 72 #[.pointer (some ⟨bv, 0, none⟩), .pointer (some ⟨bd, 0, none⟩)] (fun _ => none) := by
  rintro vt t W hW ⟨vm, vo, rfl, hu, hp⟩ hm
  have HX := hid (Ext.alloc (Ext.refl W) (.cells #[.bool t.c.neg, vm, vo] 76))
  have k1 := (hW.trans HX.out).drew.cell c1
  have k3 : (W.alloc (.cells #[.bool t.c.neg, vm, vo] 76)).drew.cell? ⟨W.heap.size, 2, none⟩ = some vo := cell_new W #[.bool t.c.neg, vm, vo] 76 (b := W.heap.size) (i := 2) (v := vo) rfl rfl
  have S0 : _ ∧ _ := And.intro k1 k3
  have HS0 := hid S0
  have HD := hid (fun (Y : World) (hY : Ext W Y) => mono_without (S := Old W) vo t.m v Y (hp.ext hY (fun _ h => h)) (fun _ h => Nat.lt_of_lt_of_le h hY.size) hv)
  obtain ⟨am, cm, rfl⟩ := hu.form
  obtain ⟨ao, co, rfl⟩ := hp.form
  have HX0 := hid HX.out.drew
  obtain ⟨hv1, hv2⟩ := hv
  have HD1 := hid (HD.out _ HX0.out)
  clear hu hp hW hm k1 k3 c1 S0 HD
  show Calls Tryz.prog 72 #[_, _, _] W _
  by_cases hlo : 1 ≤ v
  · have hq2 : decide (1 ≤ v) = true := decide_eq_true hlo
    have hq : decide (v ≤ 200) = false := decide_eq_false (by omega)
    go_enter Tryz.func72, Tryz.ntmps72
    go_wp2
    refine wp_region_held_drew (S := fun Y => Y.cell? ⟨bv, 0, none⟩ = some (.int .i64 v) ∧ Y.cell? ⟨W.heap.size, 2, none⟩ = some (.slice ao t.m.length co)) (by kernel_rfl) HS0.out (fun hHeld => ?_)
    refine wpAnyH_take (i := 0) (v := ?vv1) (by simp only [List.getElem?_toArray, List.getElem?_cons_zero]; rfl) (by kernel_rfl) (by kernel_rfl) (by kernel_rfl) (by intro _ _ _ h; exact h) (Or.inl ⟨by rfl, ?hy1⟩) hHeld ?rest1
    case hy1 => (intro w hSw; (try dsimp only at hSw); go_simp; first | done | with_reducible rfl)
    (try simp only [Act.put, List.setIfInBounds_toArray, List.set_cons_zero, List.set_cons_succ])
    refine wpAnyH_take (i := 1) (v := ?vv2) (by simp only [List.getElem?_toArray, List.getElem?_cons_succ, List.getElem?_cons_zero]; rfl) (by kernel_rfl) (by kernel_rfl) (by kernel_rfl) (by intro _ _ _ h; exact h) (Or.inl ⟨by rfl, ?hy2⟩) hHeld ?rest2
    case hy2 => (intro w hSw; (try dsimp only at hSw); go_simp; first | done | with_reducible rfl)
    (try simp only [Act.put, List.setIfInBounds_toArray, List.set_cons_zero, List.set_cons_succ])
    refine wpAnyH_take (i := 2) (v := ?vv3) (by simp only [List.getElem?_toArray, List.getElem?_cons_succ, List.getElem?_cons_zero]; rfl) (by kernel_rfl) (by kernel_rfl) (by kernel_rfl) (by intro _ _ _ h; exact h) (Or.inl ⟨by rfl, ?hy3⟩) hHeld ?rest3
    case hy3 => (intro w hSw; (try dsimp only at hSw); go_simp; first | done | with_reducible rfl)
    (try simp only [Act.put, List.setIfInBounds_toArray, List.set_cons_zero, List.set_cons_succ])
    refine wpAnyH_take (i := 4) (v := ?vv4) (by simp only [List.getElem?_toArray, List.getElem?_cons_succ, List.getElem?_cons_zero]; rfl) (by kernel_rfl) (by kernel_rfl) (by kernel_rfl) (by intro _ _ _ h; exact h) (Or.inl ⟨by rfl, ?hy4⟩) hHeld ?rest4
    case hy4 => (intro w hSw; (try dsimp only at hSw); go_simp; first | done | with_reducible rfl)
    (try simp only [Act.put, List.setIfInBounds_toArray, List.set_cons_zero, List.set_cons_succ])
    refine wpAnyH_take (i := 5) (v := ?vv5) (by simp only [List.getElem?_toArray, List.getElem?_cons_succ, List.getElem?_cons_zero]; rfl) (by kernel_rfl) (by kernel_rfl) (by kernel_rfl) (by intro _ _ _ h; exact h) (Or.inl ⟨by rfl, ?hy5⟩) hHeld ?rest5
    case hy5 => (intro w hSw; (try dsimp only at hSw); go_simp; first | done | with_reducible rfl)
    (try simp only [Act.put, List.setIfInBounds_toArray, List.set_cons_zero, List.set_cons_succ])
    refine wpAnyH_ready (rs := [3]) (by kernel_rfl) (by simp) ?_
    refine AllReadyH.cons rfl (fun K hK => ?_) AllReadyH.nil
    go_simp
    go_at_call 73
    (with_reducible refine HD1.out.mono ?_)
    rintro e w1 ⟨v1, rfl, hp1, hx1⟩
    have HX1 := hid (HX0.out.trans hx1)
    have HS1 := hid (And.intro (hx1.cell HS0.out.1) (hx1.cell HS0.out.2))
    obtain ⟨a1, c1, rfl⟩ := hp1.form
    clear hp1 hx1 hHeld
    refine hK.out _ _ HS1.out (fun hHeld => ?_)
    clear hK K
    (try simp only [Act.put, List.setIfInBounds_toArray, List.set_cons_zero, List.set_cons_succ])
    refine wpAnyH_take (i := 6) (v := ?vv6) (by simp only [List.getElem?_toArray, List.getElem?_cons_succ, List.getElem?_cons_zero]; rfl) (by kernel_rfl) (by kernel_rfl) (by kernel_rfl) (by intro _ _ _ h; exact h) (Or.inl ⟨by rfl, ?hy6⟩) hHeld ?rest6
    case hy6 => (intro w hSw; (try dsimp only at hSw); go_simp; first | done | with_reducible rfl)
    (try simp only [Act.put, List.setIfInBounds_toArray, List.set_cons_zero, List.set_cons_succ])
    refine wpAnyH_take (i := 7) (v := ?vv7) (by simp only [List.getElem?_toArray, List.getElem?_cons_succ, List.getElem?_cons_zero]; rfl) (by kernel_rfl) (by kernel_rfl) (by kernel_rfl) (by intro _ _ _ h; exact h) (Or.inl ⟨by rfl, ?hy7⟩) hHeld ?rest7
    case hy7 => (intro w hSw; (try dsimp only at hSw); go_simp; first | done | with_reducible rfl)
    (try simp only [Act.put, List.setIfInBounds_toArray, List.set_cons_zero, List.set_cons_succ])
    refine wpAnyH_take (i := 8) (v := ?vv8) (by simp only [List.getElem?_toArray, List.getElem?_cons_succ, List.getElem?_cons_zero]; rfl) (by kernel_rfl) (by kernel_rfl) (by kernel_rfl) (by intro _ _ _ h; exact h) (Or.inl ⟨by rfl, ?hy8⟩) hHeld ?rest8
    case hy8 => (intro w hSw; (try dsimp only at hSw); go_simp; first | done | with_reducible rfl)
    (try simp only [Act.put, List.setIfInBounds_toArray, List.set_cons_zero, List.set_cons_succ])
    refine wpAnyH_take (i := 9) (v := ?vv9) (by simp only [List.getElem?_toArray, List.getElem?_cons_succ, List.getElem?_cons_zero]; rfl) (by kernel_rfl) (by kernel_rfl) (by kernel_rfl) (by intro _ _ _ h; exact h) (Or.inl ⟨by rfl, ?hy9⟩) hHeld ?rest9
    case hy9 => (intro w hSw; (try dsimp only at hSw); go_simp; first | done | with_reducible rfl)
    (try simp only [Act.put, List.setIfInBounds_toArray, List.set_cons_zero, List.set_cons_succ])
    refine wpAnyH_take (i := 10) (v := ?vv10) (by simp only [List.getElem?_toArray, List.getElem?_cons_succ, List.getElem?_cons_zero]; rfl) (by kernel_rfl) (by kernel_rfl) (by kernel_rfl) (by intro _ _ _ h; exact h) (Or.inl ⟨by rfl, ?hy10⟩) hHeld ?rest10
    case hy10 => (intro w hSw; (try dsimp only at hSw); go_simp; first | done | with_reducible rfl)
    (try simp only [Act.put, List.setIfInBounds_toArray, List.set_cons_zero, List.set_cons_succ])
    refine wpAnyH_take (i := 11) (v := undef) (by simp only [List.getElem?_toArray, List.getElem?_cons_succ, List.getElem?_cons_zero]; rfl) (by kernel_rfl) (by kernel_rfl) (by kernel_rfl) (by intro _ _ _ h; exact h) (Or.inr ⟨by rfl, rfl⟩) hHeld ?_
    (try simp only [Act.put, List.setIfInBounds_toArray, List.set_cons_zero, List.set_cons_succ])
    refine wpAnyH_take (i := 12) (v := undef) (by simp only [List.getElem?_toArray, List.getElem?_cons_succ, List.getElem?_cons_zero]; rfl) (by kernel_rfl) (by kernel_rfl) (by kernel_rfl) (by intro _ _ _ h; exact h) (Or.inr ⟨by rfl, rfl⟩) hHeld ?_
    (try simp only [Act.put, List.setIfInBounds_toArray, List.set_cons_zero, List.set_cons_succ])
    refine wpAnyH_take (i := 13) (v := undef) (by simp only [List.getElem?_toArray, List.getElem?_cons_succ, List.getElem?_cons_zero]; rfl) (by kernel_rfl) (by kernel_rfl) (by kernel_rfl) (by intro _ _ _ h; exact h) (Or.inr ⟨by rfl, rfl⟩) hHeld ?_
    (try simp only [Act.put, List.setIfInBounds_toArray, List.set_cons_zero, List.set_cons_succ])
    refine wpAnyH_take (i := 14) (v := undef) (by simp only [List.getElem?_toArray, List.getElem?_cons_succ, List.getElem?_cons_zero]; rfl) (by kernel_rfl) (by kernel_rfl) (by kernel_rfl) (by intro _ _ _ h; exact h) (Or.inr ⟨by rfl, rfl⟩) hHeld ?_
    (try simp only [Act.put, List.setIfInBounds_toArray, List.set_cons_zero, List.set_cons_succ])
    refine wpAnyH_take (i := 15) (v := undef) (by simp only [List.getElem?_toArray, List.getElem?_cons_succ, List.getElem?_cons_zero]; rfl) (by kernel_rfl) (by kernel_rfl) (by kernel_rfl) (by intro _ _ _ h; exact h) (Or.inr ⟨by rfl, rfl⟩) hHeld ?_
    (try simp only [Act.put, List.setIfInBounds_toArray, List.set_cons_zero, List.set_cons_succ])
    refine wpAnyH_take (i := 16) (v := undef) (by simp only [List.getElem?_toArray, List.getElem?_cons_succ, List.getElem?_cons_zero]; rfl) (by kernel_rfl) (by kernel_rfl) (by kernel_rfl) (by intro _ _ _ h; exact h) (Or.inr ⟨by rfl, rfl⟩) hHeld ?_
    (try simp only [Act.put, List.setIfInBounds_toArray, List.set_cons_zero, List.set_cons_succ])
    refine wpAnyH_take (i := 17) (v := ?vv11) (by simp only [List.getElem?_toArray, List.getElem?_cons_succ, List.getElem?_cons_zero]; rfl) (by kernel_rfl) (by kernel_rfl) (by kernel_rfl) (by intro _ _ _ h; exact h) (Or.inl ⟨by rfl, ?hy11⟩) hHeld ?rest11
    case hy11 => (intro w hSw; (try dsimp only at hSw); go_simp; first | done | with_reducible rfl)
    (try simp only [Act.put, List.setIfInBounds_toArray, List.set_cons_zero, List.set_cons_succ])
    refine wpAnyH_take (i := 18) (v := ?vv12) (by simp only [List.getElem?_toArray, List.getElem?_cons_succ, List.getElem?_cons_zero]; rfl) (by kernel_rfl) (by kernel_rfl) (by kernel_rfl) (by intro _ _ _ h; exact h) (Or.inl ⟨by rfl, ?hy12⟩) hHeld ?rest12
    case hy12 => (intro w hSw; (try dsimp only at hSw); go_simp; first | done | with_reducible rfl)
    (try simp only [Act.put, List.setIfInBounds_toArray, List.set_cons_zero, List.set_cons_succ])
    refine wpAnyH_take (i := 19) (v := ?vv13) (by simp only [List.getElem?_toArray, List.getElem?_cons_succ, List.getElem?_cons_zero]; rfl) (by kernel_rfl) (by kernel_rfl) (by kernel_rfl) (by intro _ _ _ h; exact h) (Or.inl ⟨by rfl, ?hy13⟩) hHeld ?rest13
    case hy13 => (intro w hSw; (try dsimp only at hSw); go_simp; first | done | with_reducible rfl)
    (try simp only [Act.put, List.setIfInBounds_toArray, List.set_cons_zero, List.set_cons_succ])
    refine wpAnyH_done (by kernel_rfl) ?_ _
    go_wp2
    all_goals
      go_ret2
      exact ⟨_, rfl, HX1.out, fun m hm => by cases hm⟩
  · have hq2 : decide (1 ≤ v) = false := decide_eq_false hlo
    go_enter Tryz.func72, Tryz.ntmps72
    go_wp2
    refine wp_region_held_drew (S := fun Y => Y.cell? ⟨bv, 0, none⟩ = some (.int .i64 v) ∧ Y.cell? ⟨W.heap.size, 2, none⟩ = some (.slice ao t.m.length co)) (by kernel_rfl) HS0.out (fun hHeld => ?_)
    refine wpAnyH_take (i := 0) (v := ?vv14) (by simp only [List.getElem?_toArray, List.getElem?_cons_zero]; rfl) (by kernel_rfl) (by kernel_rfl) (by kernel_rfl) (by intro _ _ _ h; exact h) (Or.inl ⟨by rfl, ?hy14⟩) hHeld ?rest14
    case hy14 => (intro w hSw; (try dsimp only at hSw); go_simp; first | done | with_reducible rfl)
    (try simp only [Act.put, List.setIfInBounds_toArray, List.set_cons_zero, List.set_cons_succ])
    refine wpAnyH_take (i := 1) (v := ?vv15) (by simp only [List.getElem?_toArray, List.getElem?_cons_succ, List.getElem?_cons_zero]; rfl) (by kernel_rfl) (by kernel_rfl) (by kernel_rfl) (by intro _ _ _ h; exact h) (Or.inl ⟨by rfl, ?hy15⟩) hHeld ?rest15
    case hy15 => (intro w hSw; (try dsimp only at hSw); go_simp; first | done | with_reducible rfl)
    (try simp only [Act.put, List.setIfInBounds_toArray, List.set_cons_zero, List.set_cons_succ])
    refine wpAnyH_take (i := 2) (v := ?vv16) (by simp only [List.getElem?_toArray, List.getElem?_cons_succ, List.getElem?_cons_zero]; rfl) (by kernel_rfl) (by kernel_rfl) (by kernel_rfl) (by intro _ _ _ h; exact h) (Or.inl ⟨by rfl, ?hy16⟩) hHeld ?rest16
    case hy16 => (intro w hSw; (try dsimp only at hSw); go_simp; first | done | with_reducible rfl)
    (try simp only [Act.put, List.setIfInBounds_toArray, List.set_cons_zero, List.set_cons_succ])
    refine wpAnyH_take (i := 4) (v := ?vv17) (by simp only [List.getElem?_toArray, List.getElem?_cons_succ, List.getElem?_cons_zero]; rfl) (by kernel_rfl) (by kernel_rfl) (by kernel_rfl) (by intro _ _ _ h; exact h) (Or.inl ⟨by rfl, ?hy17⟩) hHeld ?rest17
    case hy17 => (intro w hSw; (try dsimp only at hSw); go_simp; first | done | with_reducible rfl)
    (try simp only [Act.put, List.setIfInBounds_toArray, List.set_cons_zero, List.set_cons_succ])
    refine wpAnyH_take (i := 5) (v := ?vv18) (by simp only [List.getElem?_toArray, List.getElem?_cons_succ, List.getElem?_cons_zero]; rfl) (by kernel_rfl) (by kernel_rfl) (by kernel_rfl) (by intro _ _ _ h; exact h) (Or.inl ⟨by rfl, ?hy18⟩) hHeld ?rest18
    case hy18 => (intro w hSw; (try dsimp only at hSw); go_simp; first | done | with_reducible rfl)
    (try simp only [Act.put, List.setIfInBounds_toArray, List.set_cons_zero, List.set_cons_succ])
    refine wpAnyH_ready (rs := [3]) (by kernel_rfl) (by simp) ?_
    refine AllReadyH.cons rfl (fun K hK => ?_) AllReadyH.nil
    go_simp
    go_at_call 73
    (with_reducible refine HD1.out.mono ?_)
    rintro e w1 ⟨v1, rfl, hp1, hx1⟩
    have HX1 := hid (HX0.out.trans hx1)
    have HS1 := hid (And.intro (hx1.cell HS0.out.1) (hx1.cell HS0.out.2))
    obtain ⟨a1, c1, rfl⟩ := hp1.form
    clear hp1 hx1 hHeld
    refine hK.out _ _ HS1.out (fun hHeld => ?_)
    clear hK K
    (try simp only [Act.put, List.setIfInBounds_toArray, List.set_cons_zero, List.set_cons_succ])
    refine wpAnyH_take (i := 6) (v := ?vv19) (by simp only [List.getElem?_toArray, List.getElem?_cons_succ, List.getElem?_cons_zero]; rfl) (by kernel_rfl) (by kernel_rfl) (by kernel_rfl) (by intro _ _ _ h; exact h) (Or.inl ⟨by rfl, ?hy19⟩) hHeld ?rest19
    case hy19 => (intro w hSw; (try dsimp only at hSw); go_simp; first | done | with_reducible rfl)
    (try simp only [Act.put, List.setIfInBounds_toArray, List.set_cons_zero, List.set_cons_succ])
    refine wpAnyH_take (i := 7) (v := undef) (by simp only [List.getElem?_toArray, List.getElem?_cons_succ, List.getElem?_cons_zero]; rfl) (by kernel_rfl) (by kernel_rfl) (by kernel_rfl) (by intro _ _ _ h; exact h) (Or.inr ⟨by rfl, rfl⟩) hHeld ?_
    (try simp only [Act.put, List.setIfInBounds_toArray, List.set_cons_zero, List.set_cons_succ])
    refine wpAnyH_take (i := 8) (v := undef) (by simp only [List.getElem?_toArray, List.getElem?_cons_succ, List.getElem?_cons_zero]; rfl) (by kernel_rfl) (by kernel_rfl) (by kernel_rfl) (by intro _ _ _ h; exact h) (Or.inr ⟨by rfl, rfl⟩) hHeld ?_
    (try simp only [Act.put, List.setIfInBounds_toArray, List.set_cons_zero, List.set_cons_succ])
    refine wpAnyH_take (i := 9) (v := ?vv20) (by simp only [List.getElem?_toArray, List.getElem?_cons_succ, List.getElem?_cons_zero]; rfl) (by kernel_rfl) (by kernel_rfl) (by kernel_rfl) (by intro _ _ _ h; exact h) (Or.inl ⟨by rfl, ?hy20⟩) hHeld ?rest20
    case hy20 => (intro w hSw; (try dsimp only at hSw); go_simp; first | done | with_reducible rfl)
    (try simp only [Act.put, List.setIfInBounds_toArray, List.set_cons_zero, List.set_cons_succ])
    refine wpAnyH_take (i := 10) (v := ?vv21) (by simp only [List.getElem?_toArray, List.getElem?_cons_succ, List.getElem?_cons_zero]; rfl) (by kernel_rfl) (by kernel_rfl) (by kernel_rfl) (by intro _ _ _ h; exact h) (Or.inl ⟨by rfl, ?hy21⟩) hHeld ?rest21
    case hy21 => (intro w hSw; (try dsimp only at hSw); go_simp; first | done | with_reducible rfl)
    (try simp only [Act.put, List.setIfInBounds_toArray, List.set_cons_zero, List.set_cons_succ])
    refine wpAnyH_take (i := 11) (v := undef) (by simp only [List.getElem?_toArray, List.getElem?_cons_succ, List.getElem?_cons_zero]; rfl) (by kernel_rfl) (by kernel_rfl) (by kernel_rfl) (by intro _ _ _ h; exact h) (Or.inr ⟨by rfl, rfl⟩) hHeld ?_
    (try simp only [Act.put, List.setIfInBounds_toArray, List.set_cons_zero, List.set_cons_succ])
    refine wpAnyH_take (i := 12) (v := undef) (by simp only [List.getElem?_toArray, List.getElem?_cons_succ, List.getElem?_cons_zero]; rfl) (by kernel_rfl) (by kernel_rfl) (by kernel_rfl) (by intro _ _ _ h; exact h) (Or.inr ⟨by rfl, rfl⟩) hHeld ?_
    (try simp only [Act.put, List.setIfInBounds_toArray, List.set_cons_zero, List.set_cons_succ])
    refine wpAnyH_take (i := 13) (v := undef) (by simp only [List.getElem?_toArray, List.getElem?_cons_succ, List.getElem?_cons_zero]; rfl) (by kernel_rfl) (by kernel_rfl) (by kernel_rfl) (by intro _ _ _ h; exact h) (Or.inr ⟨by rfl, rfl⟩) hHeld ?_
    (try simp only [Act.put, List.setIfInBounds_toArray, List.set_cons_zero, List.set_cons_succ])
    refine wpAnyH_take (i := 14) (v := undef) (by simp only [List.getElem?_toArray, List.getElem?_cons_succ, List.getElem?_cons_zero]; rfl) (by kernel_rfl) (by kernel_rfl) (by kernel_rfl) (by intro _ _ _ h; exact h) (Or.inr ⟨by rfl, rfl⟩) hHeld ?_
    (try simp only [Act.put, List.setIfInBounds_toArray, List.set_cons_zero, List.set_cons_succ])
    refine wpAnyH_take (i := 15) (v := undef) (by simp only [List.getElem?_toArray, List.getElem?_cons_succ, List.getElem?_cons_zero]; rfl) (by kernel_rfl) (by kernel_rfl) (by kernel_rfl) (by intro _ _ _ h; exact h) (Or.inr ⟨by rfl, rfl⟩) hHeld ?_
    (try simp only [Act.put, List.setIfInBounds_toArray, List.set_cons_zero, List.set_cons_succ])
    refine wpAnyH_take (i := 16) (v := undef) (by simp only [List.getElem?_toArray, List.getElem?_cons_succ, List.getElem?_cons_zero]; rfl) (by kernel_rfl) (by kernel_rfl) (by kernel_rfl) (by intro _ _ _ h; exact h) (Or.inr ⟨by rfl, rfl⟩) hHeld ?_
    (try simp only [Act.put, List.setIfInBounds_toArray, List.set_cons_zero, List.set_cons_succ])
    refine wpAnyH_take (i := 17) (v := ?vv22) (by simp only [List.getElem?_toArray, List.getElem?_cons_succ, List.getElem?_cons_zero]; rfl) (by kernel_rfl) (by kernel_rfl) (by kernel_rfl) (by intro _ _ _ h; exact h) (Or.inl ⟨by rfl, ?hy22⟩) hHeld ?rest22
    case hy22 => (intro w hSw; (try dsimp only at hSw); go_simp; first | done | with_reducible rfl)
    (try simp only [Act.put, List.setIfInBounds_toArray, List.set_cons_zero, List.set_cons_succ])
    refine wpAnyH_take (i := 18) (v := ?vv23) (by simp only [List.getElem?_toArray, List.getElem?_cons_succ, List.getElem?_cons_zero]; rfl) (by kernel_rfl) (by kernel_rfl) (by kernel_rfl) (by intro _ _ _ h; exact h) (Or.inl ⟨by rfl, ?hy23⟩) hHeld ?rest23
    case hy23 => (intro w hSw; (try dsimp only at hSw); go_simp; first | done | with_reducible rfl)
    (try simp only [Act.put, List.setIfInBounds_toArray, List.set_cons_zero, List.set_cons_succ])
    refine wpAnyH_take (i := 19) (v := ?vv24) (by simp only [List.getElem?_toArray, List.getElem?_cons_succ, List.getElem?_cons_zero]; rfl) (by kernel_rfl) (by kernel_rfl) (by kernel_rfl) (by intro _ _ _ h; exact h) (Or.inl ⟨by rfl, ?hy24⟩) hHeld ?rest24
    case hy24 => (intro w hSw; (try dsimp only at hSw); go_simp; first | done | with_reducible rfl)
    (try simp only [Act.put, List.setIfInBounds_toArray, List.set_cons_zero, List.set_cons_succ])
    refine wpAnyH_done (by kernel_rfl) ?_ _
    go_wp2
    all_goals
      go_ret2
      exact ⟨_, rfl, HX1.out, fun m hm => by cases hm⟩
end Go.Proofs.YthplgldclilccaaGreat

namespace Go.Proofs.YthplgldclilccaaGreat
open Go.RowKit

set_option maxRecDepth 100000 in
set_option maxHeartbeats 4000000 in
theorem zed_neg {S : Nat → Prop} (vd : Value) (x : Int) (w : World) (hd : Digs S w vd (rep 10 x.natAbs)) :
    Calls Tryz.prog 136 #[.agg #[.bool (decide (x < 0)), vd]] w fun e w' => e = .returned (.agg #[.bool (decide (-x < 0)), vd]) ∧ Ext w w' := by
  obtain ⟨a, c, rfl⟩ := hd.form
  have hlen := rep10_pos x.natAbs
  obtain ⟨n, hn⟩ : ∃ n, n = (rep 10 x.natAbs).length := ⟨_, rfl⟩
  rw [← hn] at hlen ⊢
  have hl := hd.len_le
  rw [← hn] at hl
  have hpos : decide (0 < n) = decide (x ≠ 0) := by rw [hlen, decide_eq_decide]; omega
  have HPOS := hid hpos
  clear hd hn hlen hpos
  rcases (show x < 0 ∨ x = 0 ∨ 0 < x by omega) with hx | hx | hx
  · have e1 : decide (x < 0) = true := decide_eq_true hx
    have E2 : Hid (decide (-x < 0) = false) := hid (decide_eq_false (by omega))
    rw [e1]
    clear hx e1 hl
    go_enter Tryz.func136, Tryz.ntmps136
    go_wp2
    all_goals
      refine bodyPost_ret (by simp [results, Tryz.results136, go_sem]; rfl) rfl ?_
      exact ⟨by rw [E2.out], Ext.alloc (Ext.alloc (Ext.refl w) _) _⟩
  · subst hx
    have hn0 : n = 0 := by have := HPOS.out; simpa using this
    subst hn0
    have e1 : decide ((0 : Int) < 0) = false := by decide
    have E2 : Hid (decide (-(0 : Int) < 0) = false) := hid (by decide)
    rw [e1]
    clear e1 hl
    go_enter Tryz.func136, Tryz.ntmps136
    go_wp2
    all_goals
      refine bodyPost_ret (by simp [results, Tryz.results136, go_sem]; rfl) rfl ?_
      exact ⟨by rw [E2.out], Ext.alloc (Ext.alloc (Ext.refl w) _) _⟩
  · have e1 : decide (x < 0) = false := decide_eq_false (by omega)
    have E2 : Hid (decide (-x < 0) = true) := hid (decide_eq_true (by omega))
    have hn0 : 0 < n := by
      have := HPOS.out
      rw [decide_eq_decide] at this
      exact this.2 (by omega)
    rw [e1]
    clear hx e1
    go_enter Tryz.func136, Tryz.ntmps136
    go_wp2
    all_goals
      refine bodyPost_ret (by simp [results, Tryz.results136, go_sem]; rfl) rfl ?_
      exact ⟨by rw [E2.out], Ext.alloc (Ext.alloc (Ext.refl w) _) _⟩

def negP (p : PZ) : PZ := p.map fun t => (-t.1, t.2)
theorem negP_at {p : PZ} {k : Nat} {t : Int × Mono} (h : p[k]? = some t) : negP (p.take (k + 1)) = negP (p.take k) ++ [(-t.1, t.2)] := by
  rw [List.take_add_one, h]
  unfold negP
  rw [List.map_append]
  rfl
theorem negP_length (p : PZ) : (negP p).length = p.length := by unfold negP; rw [List.length_map]
theorem negP_may {p : PZ} (h : mayAll p) : mayAll (negP p) := fun t ht => by
  obtain ⟨u, hu, rfl⟩ := List.mem_map.1 ht
  exact h u hu
theorem szZ_neg {x : Int} (h : szZ x) : szZ (-x) := by unfold szZ; rw [Int.natAbs_neg]; exact h
theorem negP_sz {p : PZ} (h : szP p) : szP (negP p) := ⟨by rw [negP_length]; exact h.1, fun t ht => by
  obtain ⟨u, hu, rfl⟩ := List.mem_map.1 ht
  exact szZ_neg (h.2 u hu)⟩

set_option maxRecDepth 100000 in
set_option maxHeartbeats 8000000 in
theorem rpoly_neg {S : Nat → Prop} (v : Value) (p : PZ) (w : World) (h : RTs S w v p) (hS : ∀ k, S k → k < w.heap.size) (hsz : szP p) :
    Calls Tryz.prog 112 #[v] w fun e w' => ∃ v', e = .returned v' ∧ RTs (Plus S w w') w' v' (negP p) ∧ Ext w w' := by
  obtain ⟨j0, hj, jz0, jz1, jz2⟩ := info_parts Tryz.infoT
  have hl := h.len_le
  have H := hid h
  have HSZ := hid hsz
  obtain ⟨a, cap, rfl⟩ := h.form
  clear h hsz
  go_enter Tryz.func112, Tryz.ntmps112
  go_wp2
  go_loopw [3, 4] (fun o i wr => ∃ k xs, k ≤ p.length ∧ i = .int .i64 (k : Nat) ∧ Ext w wr ∧ Hid (wr.ownsRow w.heap.size 89 3 o k xs) ∧ Hid (Cells3 S w xs (negP (p.take k)))) (fun _ i _ => p.length - (intOf i).toNat)
  case atStart => exact ⟨0, [], Nat.zero_le _, rfl, Ext.refl _, hid (World.ownsRow_nil _ _ _ _), hid rfl⟩
  case round =>
    obtain ⟨k, xs, hk, rfl, hx, HW, HXS⟩ := hrel
    have HX := hid hx
    by_cases hlt : k < p.length
    · obtain ⟨t, ht⟩ := some_of_lt hlt
      obtain ⟨b, off, vd, vo, rfl, -, hn1, hm1, hSb, h1, h2, h3, h4, h5⟩ := H.out.cellAt ht
      have HT := hid (negP_at ht)
      have H4 := hid h4
      have H5 := hid h5
      obtain ⟨ad, cd, rfl⟩ := h4.form
      obtain ⟨ao, co, rfl⟩ := h5.form
      have x0 : Ext w wr.drew := hx.drew
      have HX0 := hid x0
      have h0 : _ ∧ _ ∧ _ := And.intro h1 (And.intro h2 h3)
      have c1 := fun (W : World) (hW : Ext w W) => zed_neg (S := S) (.slice ad (rep 10 t.1.natAbs).length cd) t.1 W (H4.out.ext hW hS)
      obtain ⟨bt, hbt⟩ : ∃ b, b = decide (t.1 < 0) := ⟨_, rfl⟩
      obtain ⟨bn, hbn⟩ : ∃ b, b = decide (-t.1 < 0) := ⟨_, rfl⟩
      obtain ⟨nt, hnt⟩ : ∃ n, n = (rep 10 t.1.natAbs).length := ⟨_, rfl⟩
      obtain ⟨nm, hnm⟩ : ∃ n, n = t.2.length := ⟨_, rfl⟩
      have HBN := hid hbn
      rw [← hbt, ← hnt, ← hnm] at h0
      rw [← hbt, ← hnt, ← hbn] at c1
      rw [← hnm] at H5
      rw [← hnt] at H4
      have S0 : _ ∧ _ ∧ _ := And.intro (x0.cell h0.1) (And.intro (x0.cell h0.2.1) (x0.cell h0.2.2))
      have C1 := hid (c1 wr.drew x0)
      have HB3 : Hid (k + 1 ≤ maxLen) := hid (by have := HSZ.out.1; unfold maxLen; omega)
      have HB4 : Hid ((k + 1) * 56 ≤ 140737488355328) := hid (by have := HSZ.out.1; omega)
      have HWR := hid (own_ext HW.out ((Ext.refl wr).drew))
      have HC0 := hid h0
      clear ht h0 h1 h2 h3 h4 h5 hx x0 c1 hbt hnt hnm hbn
      go_wp2
      go_region_held3 (fun W => W.cell? ⟨b, off + k * 3, none⟩ = some (.bool bt) ∧ W.cell? ⟨b, off + k * 3 + 1, none⟩ = some (.slice ad nt cd) ∧ W.cell? ⟨b, off + k * 3 + 2, none⟩ = some (.slice ao nm co)) (first | exact S0 | exact S1 | exact ⟨cell_old _ S1.1, cell_old _ S1.2.1, cell_old _ S1.2.2⟩ | exact S5)
        (first
          | (go_at_call 136; (with_reducible refine C1.out.mono ?_); rintro e w1 ⟨rfl, hx1⟩; have HX1 := hid (HX0.out.trans hx1); have S1 : _ ∧ _ ∧ _ := And.intro (hx1.cell S0.1) (And.intro (hx1.cell S0.2.1) (hx1.cell S0.2.2)); have HW3 := hid (own_ext (own_ext HWR.out hx1) (Ext.alloc (Ext.refl w1) (.cells #[.bool bn, .slice ad nt cd, .slice ao nm co] 89))); have HSRC3 := hid (src_one w1 #[.bool bn, .slice ad nt cd, .slice ao nm co] 89 (three_cell rfl rfl rfl) (size := 3) rfl); have HB5 := hid (HX1.out.alloc (.cells #[.bool bn, .slice ad nt cd, .slice ao nm co] 89)).size; clear hx1)
          | (refine step_append_src rfl (.tmp 11) (.tmp 24) 36 rfl w.heap.size 89 j0 (.agg #[.bool false, .slice none 0 0, .slice none 0 0]) 3 56 Tryz.underlying36 hj jz0 jz1 jz2 rfl (Nat.succ_pos _) _ k xs rfl HW3.out (some ⟨w1.heap.size, 0, none⟩) 1 1 _ rfl HSRC3.out HB3.out HB4.out HB5.out ?_; intro v5 w5 hown hg hbk; have HW5 := hid hown; have HX5 := hid (own_grown0 (HX1.out.alloc (.cells #[.bool bn, .slice ad nt cd, .slice ao nm co] 89)) HW3.out hg); have S5 : _ ∧ _ ∧ _ := And.intro (HX5.out.cell HC0.out.1) (And.intro (HX5.out.cell HC0.out.2.1) (HX5.out.cell HC0.out.2.2)); clear hown hg hbk))
      all_goals
        go_wp2
        go_roundw
        case rel =>
          refine ⟨k + 1, xs ++ (#[.bool bn, .slice ad nt cd, .slice ao nm co] : Array Value).toList, by omega, by go_num, HX5.out, HW5, hid ?_⟩
          rw [HT.out]
          have hone : Cells3 S w (#[.bool bn, .slice ad nt cd, .slice ao nm co] : Array Value).toList [(-t.1, t.2)] := by
            rw [HBN.out]
            exact Cells3.single (t := (-t.1, t.2)) (by rw [Int.natAbs_neg]; exact H4.out) H5.out
          exact HXS.out.append hone
        case measure => simp only [intOf]; omega
    · obtain rfl : k = p.length := by omega
      have HE : Hid (p.take p.length = p) := hid List.take_length
      clear hx
      go_wp2
      all_goals
        go_ret
        refine ⟨_, rfl, ?_, HX.out⟩
        have hc := HXS.out
        rw [HE.out] at hc
        exact own_rts (by rw [negP_length]; exact HW.out) (hc.to (Kept.ext HX.out hS) (fun _ h => .inl h)) (fun k h1 h2 => .inr ⟨h1, h2⟩)

set_option maxRecDepth 100000 in
set_option maxHeartbeats 4000000 in
theorem rpoly_sub {S : Nat → Prop} (vp vq : Value) (p q : PZ) (w : World) (hS : ∀ k, S k → k < w.heap.size) (hp : RTs S w vp p) (hq : RTs S w vq q) (hmp : mayAll p) (hmq : mayAll q) (hszq : szP q) (hsz : ∀ k, k ≤ q.length → szP (addP p ((negP q).take k))) :
    Calls Tryz.prog 71 #[vp, vq] w fun e w' => ∃ v', e = .returned v' ∧ RTs (Plus S w w') w' v' (addP p (negP q)) ∧ Ext w w' := by
  have C1 := hid (rpoly_neg vq q w hq hS hszq)
  have C2 := hid (fun (v1 : Value) (w1 : World) (hx1 : Ext w w1) (h1 : RTs (Plus S w w1) w1 v1 (negP q)) => rpoly_add (S := Plus S w w1) vp v1 p (negP q) w1 (plus_lt hS hx1) ((hp.ext hx1 hS).to (Kept.refl _ _) (fun _ h => .inl h)) h1 hmp (negP_may hmq) (negP_sz hszq) (fun k hk => hsz k (by rw [negP_length] at hk; exact hk)))
  clear hp hq hmp hmq hszq hsz
  go_enter Tryz.func71, Tryz.ntmps71
  go_wp2_with fail
  refine C1.out.mono ?_
  rintro e w1 ⟨v1, rfl, hp1, hx1⟩
  have HX1 := hid hx1
  have HP1 := hid hp1
  have C3 := hid (C2.out v1 w1 hx1 hp1)
  clear hx1 hp1 C2
  go_wp2_with fail
  refine C3.out.mono ?_
  rintro e w2 ⟨v2, rfl, hp2, hx2⟩
  have HX2 := hid (HX1.out.trans hx2)
  have HP2 := hid (hp2.to (Kept.refl _ _) (plus_plus HX1.out hx2))
  clear hx2 hp2
  go_wp2
  all_goals
    go_ret
    exact ⟨_, rfl, HP2.out, HX2.out⟩
end Go.Proofs.YthplgldclilccaaGreat

namespace Go.Proofs.YthplgldclilccaaGreat
open Go.RowKit

def zeroF (a : Mono) (q : Nat) : Nat → Int := fun j => if j = q then 0 else ex a (j : Nat)
theorem ofE_without {a : Mono} (h : mayM a = true) (q : Nat) : ofE (zeroF a q) 200 = withoutM a (q : Nat) := by
  have h0 : ∀ j, 0 ≤ zeroF a q j := fun j => by
    unfold zeroF
    have := ex_nonneg h (j : Nat)
    split <;> omega
  have hr : ∀ j, zeroF a q j ≤ 10000 := fun j => by
    unfold zeroF
    have := (ex_range h (j : Nat)).2
    split <;> omega
  refine mayM_ext (ofE_may (Nat.le_refl _) (fun j _ _ => hr j)) (mayM_without h _) (fun k h2 h3 => ?_)
  rw [ofE_ex _ _ _ h0, if_pos ⟨h2, h3⟩, ex_without]
  unfold zeroF
  by_cases e : k = q
  · subst e; rw [if_pos rfl, if_pos rfl]
  · rw [if_neg e, if_neg (by omega)]

theorem zero_row {w : World} {g : Nat} {T : TypeId} {a : Mono} {q : Nat} (h : w.rowIs g T 201 (iv fun v => ex a (v : Nat))) : (w.setCell ⟨g, q, none⟩ (.int .i64 0)).rowIs g T 201 (iv (zeroF a q)) :=
  (World.rowIs.set h q (.int .i64 0)).congr (fun i _ => by
    unfold iv zeroF
    by_cases e : i = q
    · rw [if_pos e, if_pos e]
    · rw [if_neg e, if_neg e])

set_option maxRecDepth 100000 in
set_option maxHeartbeats 4000000 in
theorem rmono_without {S : Nat → Prop} (va : Value) (a : Mono) (x : Int) (w : World) (ha : Pows S w va a) (hS : ∀ k, S k → k < w.heap.size) (hma : mayM a = true) (hx : 1 ≤ x ∧ x ≤ 200) :
    Calls Tryz.prog 59 #[va, .int .i64 x] w fun e w' => ∃ v', e = .returned v' ∧ Pows (New w w') w' v' (withoutM a x) ∧ Ext w w' := by
  have hz := (zero_of_info Tryz.infoArr).1
  have hcs : (Value.agg (tabA fun _ => 0)).cells = tabA fun _ => 0 := rfl
  have HA := hid ha
  have HMA := hid hma
  obtain ⟨aa, ca, rfl⟩ := ha.form
  have EA : Hid (exF a = fun v => ex a (v : Nat)) := hid (by funext v; unfold exF; rw [plainM_yes hma])
  obtain ⟨q, hq⟩ : ∃ q : Nat, (q : Int) = x := ⟨x.toNat, by omega⟩
  subst hq
  have HE := hid (ofE_without hma q)
  have hq1 : (1 : Int) ≤ (q : Int) := hx.1
  have hq2 : (q : Int) ≤ 200 := hx.2
  have q1 : decide ((1 : Int) ≤ (q : Int)) = true := decide_eq_true hq1
  have q2 : decide ((q : Int) ≤ 200) = true := decide_eq_true hq2
  have q3 : (0 : Int) ≤ (q : Int) := by omega
  have q4 : (q : Int) < 201 := by omega
  have q5 : q < 201 := by omega
  clear ha hma hx
  go_enter Tryz.func59, Tryz.ntmps59
  go_wp2_with fail
  refine (rmono_exps _ a w HA.out hS).mono ?_
  rintro e w1 ⟨rfl, hx1⟩
  have HX1 := hid hx1
  clear hx1
  rw [EA.out]
  go_wp2_with (first
    | (refine wpList_store_arr rfl (.tmp 5) (.tmp 7) rfl rfl rfl (row_new (fun _ => 0) w1) ?_; intro w4 hrow hg; have HRA := hid (zero_row (q := q) hrow); have HG := hid hg; have hcq := hrow.cell (i := q) q5; have hfq := hrow.frozen q; unfold iv at hcq; clear hrow hg)
    | (refine wpList_load_arr rfl (.tmp 5) rfl rfl HRA.out ?_))
  have HX4 : Hid (Ext w (w4.setCell ⟨w1.heap.size, q, none⟩ (.int .i64 0))) := hid ((ext_grown (HX1.out.alloc _) HG.out (fun k hk => Nat.le_trans HX1.out.size (row_le hk))).setCell (p := ⟨w1.heap.size, q, none⟩) HX1.out.size _)
  refine (rmono_of (zeroF a q) (w4.setCell ⟨w1.heap.size, q, none⟩ (.int .i64 0)) (fun j => by
    have := ex_range HMA.out (j : Nat)
    unfold zeroF
    split <;> omega)).mono ?_
  rintro e w7 ⟨v7, rfl, hp, hx7⟩
  rw [HE.out] at hp
  have HX7 := hid hx7
  have HP7 := hid hp
  clear hp hx7
  go_wp2
  all_goals
    go_ret
    exact ⟨_, rfl, HP7.out.to (Kept.refl _ _) (New.mono HX4.out), HX4.out.trans HX7.out⟩
end Go.Proofs.YthplgldclilccaaGreat

namespace Go.Proofs.YthplgldclilccaaGreat

/-- a variable's power, as a polynomial -/
def powP (v : Int) (i : Nat) : PZ := if i = 0 then [(1, [])] else [(1, [(v, (i : Int))])]
def buildF (v : Int) : PZ → Nat → List PZ → Option PZ
  | acc, _, [] => some acc
  | acc, i, q :: r => match timesP q (powP v i) with
    | none => none
    | some x => buildF v (normP (acc ++ x)) (i + 1) r
def buildP (l : List PZ) (v : Int) : Option PZ := buildF v [] 0 l
def coefsP (p : PZ) (v : Int) : List PZ := if p = [] then [] else (List.range ((degP p v).toNat + 1)).map fun e => coefP p v (e : Nat)

theorem mulL_one (p : PZ) (c : Int) (m : Mono) : mulL p [(c, m)] = p.map fun t => (t.1 * c, timesM t.2 m) := by
  unfold mulL
  induction p with
  | nil => rfl
  | cons t r ih => rw [List.flatMap_cons, ih]; rfl
theorem pow_may {v : Int} (hv : 1 ≤ v ∧ v ≤ 200) {i : Nat} (hi : i ≤ 10000) : mayAll (powP v i) := by
  intro t ht
  unfold powP at ht
  split at ht
  · rw [List.mem_singleton.1 ht]; rfl
  · rw [List.mem_singleton.1 ht]; exact one_may hv (by omega)
theorem pow_can {v : Int} (hv : 1 ≤ v ∧ v ≤ 200) {i : Nat} (hi : i ≤ 10000) : canP (powP v i) := by
  refine ⟨fun t ht => ⟨?_, pow_may hv hi t ht⟩, ?_⟩
  · unfold powP at ht
    split at ht
    · rw [List.mem_singleton.1 ht]; show (1 : Int) ≠ 0; decide
    · rw [List.mem_singleton.1 ht]; show (1 : Int) ≠ 0; decide
  · unfold powP
    split <;> exact List.pairwise_singleton _ _
theorem fit_pow {v : Int} (hv : 1 ≤ v ∧ v ≤ 200) {i : Nat} (hi : i ≤ 10000) : Fit 1 1 (powP v i) := by
  refine ⟨pow_can hv hi, fun t ht => ?_, ?_⟩
  · unfold powP at ht
    split at ht
    · rw [List.mem_singleton.1 ht]; show (1 : Int).natAbs < _; decide
    · rw [List.mem_singleton.1 ht]; show (1 : Int).natAbs < _; decide
  · unfold powP
    split <;> exact Nat.le_refl _
/-- the terms of one exponent -/
def partP (p : PZ) (v : Int) (i : Int) : PZ := p.filter fun t => decide (ex t.2 v = i)
theorem part_can {p : PZ} (h : canP p) (v i : Int) : canP (partP p v i) := canP_sub h List.filter_sublist
theorem put_back {m : Mono} (h : mayM m = true) {v : Int} {i : Nat} (hv : 1 ≤ v ∧ v ≤ 200) (he : ex m v = (i : Int)) (hi : i ≠ 0) : timesM (withoutM m v) [(v, (i : Int))] = m := by
  have h1 := mayM_without h v
  have h3 := ex_range h v
  have h2 : mayM [(v, (i : Int))] = true := one_may hv (by omega)
  have h4 : mayM (timesM (withoutM m v) [(v, (i : Int))]) = true := may_of_le (times_ok (may_ok h1) (may_ok h2)) h (fun u => by
    rw [times_ex h1 h2, ex_without, ex_one]
    have := ex_nonneg h u
    by_cases hu : u = v
    · subst hu; rw [if_pos rfl, if_pos rfl]; omega
    · rw [if_neg hu, if_neg (fun e => hu e.symm)]; omega)
  refine mayM_ext' h4 h (fun u => ?_)
  rw [times_ex h1 h2, ex_without, ex_one]
  by_cases hu : u = v
  · subst hu; rw [if_pos rfl, if_pos rfl]; omega
  · rw [if_neg hu, if_neg (fun e => hu e.symm)]; omega
theorem without_zero {m : Mono} (h : mayM m = true) {v : Int} (he : ex m v = 0) : withoutM m v = m := by
  refine mayM_ext' (mayM_without h v) h (fun u => ?_)
  rw [ex_without]
  by_cases hu : u = v
  · subst hu; rw [if_pos rfl, he]
  · rw [if_neg hu]
theorem part_mul {p : PZ} (h : canP p) {v : Int} (hv : 1 ≤ v ∧ v ≤ 200) (i : Nat) : mulL (coefP p v (i : Int)) (powP v i) = partP p v (i : Int) := by
  have hm := h.may
  clear h
  unfold coefP partP powP
  by_cases hi : i = 0
  · rw [if_pos hi, mulL_one]
    induction p with
    | nil => rfl
    | cons t r ih =>
      have hr := ih (fun u hu => hm u (by simp [hu]))
      have ht := hm t (by simp)
      by_cases he : ex t.2 v = (i : Int)
      · rw [List.filterMap_cons, List.filter_cons_of_pos (by simpa using he), show coefF v (i : Int) t = some (t.1, withoutM t.2 v) from if_pos he]
        simp only [List.map_cons]
        rw [hr, without_zero ht (by omega), times_one_right (may_ok ht), Int.mul_one]
      · rw [List.filterMap_cons, List.filter_cons_of_neg (by simpa using he), show coefF v (i : Int) t = none from if_neg he]
        exact hr
  · rw [if_neg hi, mulL_one]
    induction p with
    | nil => rfl
    | cons t r ih =>
      have hr := ih (fun u hu => hm u (by simp [hu]))
      have ht := hm t (by simp)
      by_cases he : ex t.2 v = (i : Int)
      · rw [List.filterMap_cons, List.filter_cons_of_pos (by simpa using he), show coefF v (i : Int) t = some (t.1, withoutM t.2 v) from if_pos he]
        simp only [List.map_cons]
        rw [hr, put_back ht hv he hi, Int.mul_one]
      · rw [List.filterMap_cons, List.filter_cons_of_neg (by simpa using he), show coefF v (i : Int) t = none from if_neg he]
        exact hr
theorem part_times {p : PZ} (h : canP p) {v : Int} (hv : 1 ≤ v ∧ v ≤ 200) {i : Nat} (hi : i ≤ 10000) : timesP (coefP p v (i : Int)) (powP v i) = some (partP p v (i : Int)) := by
  have h1 := part_can h v (i : Int)
  have h2 := times_norm (coefP_can h v (i : Int)).may (pow_may hv hi) (by rw [part_mul h hv]; exact h1.may)
  rw [part_mul h hv, normP_of_can h1] at h2
  exact h2
/-- the terms of lower exponents -/
def lowP (p : PZ) (v : Int) (i : Int) : PZ := p.filter fun t => decide (ex t.2 v < i)
theorem low_can {p : PZ} (h : canP p) (v i : Int) : canP (lowP p v i) := canP_sub h List.filter_sublist
theorem ev_filter2 (f : Mono → Int) (p : PZ) (s : Int × Mono → Bool) : ev f (p.filter s) = (p.map fun t => if s t then t.1 * f t.2 else 0).sum := by
  induction p with
  | nil => rfl
  | cons t r ih =>
    cases hs : s t with
    | true => rw [List.filter_cons_of_pos hs, ev, ih, List.map_cons, List.sum_cons, hs]; rfl
    | false => rw [List.filter_cons_of_neg (by simp [hs]), ih, List.map_cons, List.sum_cons, hs]; simp
theorem join_eqv (p : PZ) (a b c : Int × Mono → Bool) (h : ∀ t ∈ p, c t = (a t || b t)) (hd : ∀ t ∈ p, (a t && b t) = false) : Eqv (p.filter a ++ p.filter b) (p.filter c) := fun f => by
  rw [ev_append]
  induction p with
  | nil => rfl
  | cons t r ih =>
    have h1 := h t (by simp)
    have h2 := hd t (by simp)
    have h3 := ih (fun u hu => h u (by simp [hu])) (fun u hu => hd u (by simp [hu]))
    cases ha : a t with
    | true =>
      have hb : b t = false := by simpa [ha] using h2
      rw [ha, hb] at h1
      rw [List.filter_cons_of_pos ha, List.filter_cons_of_neg (by simp [hb]), List.filter_cons_of_pos (by simpa using h1), ev, ev, ← h3]
      omega
    | false =>
      cases hb : b t with
      | true =>
        rw [ha, hb] at h1
        rw [List.filter_cons_of_neg (by simp [ha]), List.filter_cons_of_pos hb, List.filter_cons_of_pos (by simpa using h1), ev, ev, ← h3]
        omega
      | false =>
        rw [ha, hb] at h1
        rw [List.filter_cons_of_neg (by simp [ha]), List.filter_cons_of_neg (by simp [hb]), List.filter_cons_of_neg (by simp [h1]), ← h3]
theorem low_next {p : PZ} (h : canP p) (v i : Int) : normP (lowP p v i ++ partP p v i) = lowP p v (i + 1) := by
  refine norm_eq (may_append (low_can h v i).may (part_can h v i).may) (low_can h v (i + 1)) ?_
  refine join_eqv p _ _ _ (fun t _ => ?_) (fun t _ => ?_)
  · rw [← Bool.decide_or, decide_eq_decide]
    omega
  · rw [← Bool.decide_and, decide_eq_false_iff_not]
    omega
theorem low_zero {p : PZ} (h : canP p) (v : Int) : lowP p v 0 = [] := by
  refine List.filter_eq_nil_iff.2 (fun t ht => ?_)
  have := ex_nonneg (h.1 t ht).2 v
  simp
  omega
theorem low_all {p : PZ} (v : Int) {i : Int} (hi : degP p v < i) : lowP p v i = p := by
  refine List.filter_eq_self.2 (fun t ht => ?_)
  have := degP_le_mem ht v
  simp
  omega
theorem build_steps {p : PZ} (h : canP p) {v : Int} (hv : 1 ≤ v ∧ v ≤ 200) (n i : Nat) (hn : i + n ≤ 10001) : buildF v (lowP p v (i : Int)) i ((List.range' i n).map fun e => coefP p v (e : Nat)) = some (lowP p v ((i + n : Nat) : Int)) := by
  induction n generalizing i with
  | zero => rfl
  | succ n ih =>
    rw [List.range'_succ, List.map_cons, buildF, part_times h hv (by omega)]
    simp only
    rw [low_next h v, show (i : Int) + 1 = ((i + 1 : Nat) : Int) by omega, ih (i + 1) (by omega)]
    congr 3
    omega
theorem build_back {p : PZ} (h : canP p) {v : Int} (hv : 1 ≤ v ∧ v ≤ 200) : buildP (coefsP p v) v = some p := by
  have hr := degP_range h.may v
  unfold buildP coefsP
  by_cases hp : p = []
  · rw [if_pos hp, hp]; rfl
  · rw [if_neg hp, List.range_eq_range']
    have h1 := build_steps h hv ((degP p v).toNat + 1) 0 (by omega)
    rw [show ((0 : Nat) : Int) = 0 from rfl, low_zero h v] at h1
    rw [h1, low_all v (by omega)]
/-- initial and tail give the polynomial -/
theorem init_part {p : PZ} (h0 : 0 < leadP p) : initP p = coefP p (leadP p) (degP p (leadP p)) := by unfold initP; rw [if_neg (by omega)]
theorem tail_low (p : PZ) : tailP p = lowP p (leadP p) (degP p (leadP p)) := by
  unfold tailP lowP
  induction p with
  | nil => rfl
  | cons t r ih =>
    generalize leadP (t :: r) = v
    generalize degP (t :: r) v = d
    clear ih
    induction (t :: r) with
    | nil => rfl
    | cons u s ih2 =>
      by_cases h : ex u.2 v < d
      · rw [List.filterMap_cons, List.filter_cons_of_pos (by simpa using h), show tailF v d u = some u from if_pos h, ih2]
      · rw [List.filterMap_cons, List.filter_cons_of_neg (by simpa using h), show tailF v d u = none from if_neg h, ih2]
theorem init_back {p : PZ} (h : canP p) (h0 : 0 < leadP p) : ∃ y, timesP (initP p) [(1, [(leadP p, degP p (leadP p))])] = some y ∧ normP (y ++ tailP p) = p := by
  have hl := leadP_range h
  have hd := deg_lead_pos h h0
  have hr := degP_range h.may (leadP p)
  obtain ⟨i, hi⟩ : ∃ i : Nat, (i : Int) = degP p (leadP p) := ⟨(degP p (leadP p)).toNat, by omega⟩
  have h1 := part_times h (v := leadP p) (by omega) (i := i) (by omega)
  have e : powP (leadP p) i = [(1, [(leadP p, (i : Int))])] := by unfold powP; rw [if_neg (by omega)]
  rw [e] at h1
  refine ⟨_, by rw [init_part h0, ← hi]; exact h1, ?_⟩
  rw [tail_low, ← hi]
  have h2 : normP (lowP p (leadP p) (i : Int) ++ partP p (leadP p) (i : Int)) = p := by
    rw [low_next h, low_all _ (by omega)]
  rw [← h2]
  have ha := (low_can h (leadP p) (i : Int)).may
  have hb := (part_can h (leadP p) (i : Int)).may
  rw [h2]
  conv => rhs; rw [← h2]
  exact norm_congr (may_append hb ha) (may_append ha hb) (fun f => by rw [ev_append, ev_append]; omega)
theorem init_ne {p : PZ} (h : canP p) (h0 : 0 < leadP p) : initP p ≠ [] := by
  rw [init_part h0]
  exact coef_top_ne h.may (fun e => by rw [e] at h0; simp [leadP] at h0) _
theorem tail_none {p : PZ} (h : canP p) (h0 : leadP p = 0) : tailP p = [] := by
  rw [tail_low, h0, degP_zero h.may (Int.le_refl _)]
  exact low_zero h 0
end Go.Proofs.YthplgldclilccaaGreat

namespace Go.Proofs.YthplgldclilccaaGreat
open Go.RowKit

theorem num_one (x : Int) : numP 1 = powP x 0 := rfl
/-- one term in a block of its own -/
theorem rts_one {S : Nat → Prop} {w : World} {T : TypeId} {vd vo : Value} {c : Int} {m : Mono} (hS : ∀ k, S k → k < w.heap.size) (hd : Digs S w vd (rep 10 c.natAbs)) (hm : Pows S w vo m) :
    RTs (fun k => S k ∨ k = w.heap.size) (w.alloc (.cells #[.bool (decide (c < 0)), vd, vo] T)) (.slice (some ⟨w.heap.size, 0, none⟩) 1 1) [(c, m)] := by
  have x2 : Ext w (w.alloc (.cells #[.bool (decide (c < 0)), vd, vo] T)) := Ext.alloc (Ext.refl w) _
  refine ⟨w.heap.size, 0, ⟨_, 1, rfl, Nat.le_refl _, by decide, fun _ => rfl, fun _ => .inr rfl⟩, fun j t hj => ?_⟩
  have hj0 : j = 0 := by have := lt_of_some hj; simp at this; exact this
  subst hj0
  obtain rfl : (c, m) = t := by simpa using hj
  exact ⟨vd, vo, cell_new _ _ _ rfl rfl, cell_new _ _ _ rfl rfl, cell_new _ _ _ rfl rfl, hd.to (Kept.ext x2 hS) (fun _ h => .inl h), hm.to (Kept.ext x2 hS) (fun _ h => .inl h)⟩

set_option maxRecDepth 100000 in
set_option maxHeartbeats 4000000 in
theorem rview_power (x : Int) (i : Nat) (w : World) (hx : inI64 x) (hi : i ≤ 10000) :
    Calls Tryz.prog 62 #[.int .i64 x, .int .i64 (i : Nat)] w fun e w' => ∃ v', e = .returned v' ∧ RTs (New w w') w' v' (powP x i) ∧ Ext w w' := by
  have C1 := hid (zed_small 1 w (by omega))
  have C0 := hid (rpoly_small 1 w (by omega))
  have HXX := hid hx
  clear hx
  by_cases h0 : i = 0
  · subst h0
    go_enter Tryz.func62, Tryz.ntmps62
    go_wp2_with fail
    refine C0.out.mono ?_
    rintro e w1 ⟨v1, rfl, hp1, hx1⟩
    rw [num_one x] at hp1
    have HP1 := hid hp1
    have HX1 := hid hx1
    clear hp1 hx1
    go_wp2
    all_goals
      go_ret
      exact ⟨_, rfl, HP1.out, HX1.out⟩
  · have hin : Hid (inI64 (i : Int)) := hid (by unfold inI64; omega)
    have hib : ((i : Int) == 0) = false := by rw [beq_eq_false_iff_ne]; omega
    have HPW : Hid (powP x i = [(1, [(x, (i : Int))])]) := hid (by unfold powP; rw [if_neg h0])
    go_enter Tryz.func62, Tryz.ntmps62
    go_wp2_with fail
    refine C1.out.mono ?_
    rintro e w1 ⟨v1, rfl, hz1, hx1⟩
    obtain ⟨vd, rfl, hd⟩ := hz1
    have HX1 := hid hx1
    have HD := hid hd
    obtain ⟨ad, cd, rfl⟩ := hd.form
    obtain ⟨nd, hnd⟩ : ∃ n, n = (rep 10 ((1 : Nat) : Int).natAbs).length := ⟨_, rfl⟩
    obtain ⟨bd, hbd⟩ : ∃ b, b = decide (((1 : Nat) : Int) < 0) := ⟨_, rfl⟩
    rw [← hnd] at HD ⊢
    rw [← hbd]
    have HB := hid hbd
    clear hx1 hd hnd hbd
    go_wp2
    go_ret
    have x1 : Ext w1 (w1.alloc (.cells #[.int .i64 x, .int .i64 (i : Nat)] 104)) := Ext.alloc (Ext.refl w1) _
    have hb : (w1.alloc (.cells #[.int .i64 x, .int .i64 (i : Nat)] 104)).heap.size = w1.heap.size + 1 := size_alloc _ _
    have hm : Pows (New w (w1.alloc (.cells #[.int .i64 x, .int .i64 (i : Nat)] 104))) (w1.alloc (.cells #[.int .i64 x, .int .i64 (i : Nat)] 104)) (.slice (some ⟨w1.heap.size, 0, none⟩) 1 1) [(x, (i : Int))] := by
      refine ⟨w1.heap.size, 0, ⟨_, 1, rfl, Nat.le_refl _, by decide, fun _ => rfl, fun _ => ⟨HX1.out.size, by rw [hb] <;> omega⟩⟩, fun j t hj => ?_⟩
      have hj0 : j = 0 := by have := lt_of_some hj; simp at this; exact this
      subst hj0
      obtain rfl : (x, (i : Int)) = t := by simpa using hj
      exact ⟨⟨HXX.out, hin.out⟩, cell_new _ _ _ rfl rfl, cell_new _ _ _ rfl rfl⟩
    have hone := rts_one (S := New w (w1.alloc (.cells #[.int .i64 x, .int .i64 (i : Nat)] 104))) (T := 89) (c := 1) (fun k hk => hk.2) (HD.out.to (Kept.ext x1 (fun _ h => h.2)) (fun k h => ⟨h.1, Nat.lt_of_lt_of_le h.2 x1.size⟩)) hm
    rw [HPW.out, HB.out]
    refine ⟨_, rfl, ?_, (HX1.out.trans x1).trans (Ext.alloc (Ext.refl _) _)⟩
    refine RTs.to (w := _) ?_ (Kept.refl _ _) (fun k hk => ?_) (S := fun k => New w (w1.alloc (.cells #[.int .i64 x, .int .i64 (i : Nat)] 104)) k ∨ k = w1.heap.size + 1)
    · rw [hb] at hone
      exact hone
    · unfold New
      simp only [size_alloc]
      rcases hk with h | rfl
      · have h2 := h.2
        rw [hb] at h2
        exact ⟨h.1, Nat.lt_succ_of_lt h2⟩
      · exact ⟨Nat.le_succ_of_le HX1.out.size, Nat.lt_succ_self _⟩

theorem coef_yes {p : PZ} (h : canP p) {k : Nat} {t : Int × Mono} {x d : Int} (ht : p[k]? = some t) (hd : ex t.2 x = d) : addP (coefP (p.take k) x d) [(t.1, withoutM t.2 x)] = coefP (p.take (k + 1)) x d := by
  have hc := coefP_can (canP_sub h (List.take_sublist k p)) x d
  have hc' := coefP_can (canP_sub h (List.take_sublist (k + 1) p)) x d
  have e : coefP (p.take (k + 1)) x d = coefP (p.take k) x d ++ [(t.1, withoutM t.2 x)] := by
    unfold coefP
    rw [List.take_add_one, ht, List.filterMap_append]
    simp [coefF, hd]
  have hm : mayAll [(t.1, withoutM t.2 x)] := fun u hu => by
    obtain rfl := List.mem_singleton.1 hu
    exact mayM_without (h.may t (List.mem_of_getElem? ht)) x
  rw [addP_eq hc hm, ← e, normP_of_can hc']
theorem coef_no {p : PZ} {k : Nat} {t : Int × Mono} {x d : Int} (ht : p[k]? = some t) (hd : ex t.2 x ≠ d) : coefP (p.take (k + 1)) x d = coefP (p.take k) x d := by
  unfold coefP
  rw [List.take_add_one, ht, List.filterMap_append]
  simp [coefF, hd]
theorem coefP_sz {p : PZ} (h : szP p) (x d : Int) : szP (coefP p x d) := ⟨Nat.le_trans (List.length_filterMap_le _ _) h.1, fun u hu => by
  obtain ⟨t, ht, _, rfl⟩ := coefP_mem hu
  exact h.2 t ht⟩

set_option maxRecDepth 100000 in
set_option maxHeartbeats 8000000 in
theorem rview_coefficient {S : Nat → Prop} (v : Value) (p : PZ) (x d : Int) (w : World) (h : RTs S w v p) (hS : ∀ k, S k → k < w.heap.size) (hc : canP p) (hsz : szP p) (hx : 1 ≤ x ∧ x ≤ 200) (hd : -9223372036854775808 ≤ d ∧ d ≤ 9223372036854775807) :
    Calls Tryz.prog 21 #[v, .int .i64 x, .int .i64 d] w fun e w' => ∃ v', e = .returned v' ∧ RTs (Plus S w w') w' v' (coefP p x d) ∧ Ext w w' := by
  have hl := h.len_le
  have H := hid h
  have HSZ := hid hsz
  have HC := hid hc
  have HX200 := hid hx
  obtain ⟨hx1, hx2⟩ := hx
  obtain ⟨hd1, hd2⟩ := hd
  obtain ⟨a, cap, rfl⟩ := h.form
  clear h hsz hc
  go_enter Tryz.func21, Tryz.ntmps21
  go_wp2
  go_loopw [7, 8] (fun o i wr => ∃ k : Nat, k ≤ p.length ∧ i = .int .i64 k ∧ Ext w wr ∧ Hid (RTs (Plus S w wr) wr o (coefP (p.take k) x d))) (fun _ i _ => p.length - (intOf i).toNat)
  case atStart => exact ⟨0, Nat.zero_le _, rfl, Ext.refl _, hid (RTs.nilv _ _ _ _ (by omega))⟩
  case round =>
    obtain ⟨k, hk, rfl, hx0, HO⟩ := hrel
    have HX := hid hx0
    by_cases hlt : k < p.length
    · obtain ⟨t, ht⟩ := some_of_lt hlt
      obtain ⟨b, off, vd, vo, rfl, -, hn1, hm1, hSb, h1, h2, h3, h4, h5⟩ := H.out.cellAt ht
      have HT := hid ht
      have H4 := hid h4
      have H5 := hid h5
      have HTM := hid (HC.out.may t (List.mem_of_getElem? ht))
      have hr := ex_range HTM.out x
      obtain ⟨ad, cd, rfl⟩ := h4.form
      obtain ⟨ao, co, rfl⟩ := h5.form
      have g3 := hx0.cell h3
      have C1 := fun (W : World) (hW : Ext w W) => rmono_degree (S := S) _ t.2 x W (H5.out.ext hW hS) (lt_ext hS hW) ⟨by omega, by omega⟩
      rw [plainM_yes HTM.out] at C1
      have C2 := fun (W : World) (hW : Ext w W) => rmono_without (S := S) _ t.2 x W (H5.out.ext hW hS) (lt_ext hS hW) HTM.out ⟨hx1, hx2⟩
      have h0 : _ ∧ _ ∧ _ := And.intro h1 (And.intro h2 h3)
      obtain ⟨bt, hbt⟩ : ∃ b, b = decide (t.1 < 0) := ⟨_, rfl⟩
      obtain ⟨nt, hnt⟩ : ∃ n, n = (rep 10 t.1.natAbs).length := ⟨_, rfl⟩
      obtain ⟨nm, hnm⟩ : ∃ n, n = t.2.length := ⟨_, rfl⟩
      obtain ⟨xe, hxe⟩ : ∃ n, n = ex t.2 x := ⟨_, rfl⟩
      have HBT := hid hbt
      have HNT := hid hnt
      have HXE := hid hxe
      rw [← hbt, ← hnt, ← hnm] at h0
      rw [← hnm] at g3 H5 C1 C2
      rw [← hxe] at C1 hr
      rw [← hnt] at H4
      have HC0 := hid h0
      have HC1 := hid C1
      have HC2 := hid C2
      have HSZT := hid (HSZ.out.2 t (List.mem_of_getElem? ht))
      clear ht h0 h1 h2 h3 h4 h5 hx0 C1 C2 hbt hnt hnm hxe
      go_wp2_with fail
      refine (HC1.out wr HX.out).mono ?_
      rintro e w1 ⟨rfl, hx1⟩
      have HX1 := hid (HX.out.trans hx1)
      have HO1 := hid (RTs.later hS HO.out HX.out hx1)
      clear hx1 g3
      by_cases he : xe = d
      · have HE := hid (coef_yes HC.out HT.out (x := x) (d := d) (by rw [← HXE.out]; exact he))
        subst he
        have x0 : Ext w w1.drew := HX1.out.drew
        have HX0 := hid x0
        have S0 : _ ∧ _ ∧ _ := And.intro (x0.cell HC0.out.1) (And.intro (x0.cell HC0.out.2.1) (x0.cell HC0.out.2.2))
        have HC3 := hid (HC2.out w1.drew x0)
        have HO2 := hid (RTs.later hS HO1.out HX1.out ((Ext.refl w1).drew))
        have HSC := hid (coefP_sz (szP_take HSZ.out k) x xe)
        have HSC1 := hid (coefP_sz (szP_take HSZ.out (k + 1)) x xe)
        have HMC := hid (coefP_can (canP_sub HC.out (List.take_sublist k p)) x xe).may
        clear x0
        go_wp2
        go_region_held3 (fun W => W.cell? ⟨b, off + k * 3, none⟩ = some (.bool bt) ∧ W.cell? ⟨b, off + k * 3 + 1, none⟩ = some (.slice ad nt cd) ∧ W.cell? ⟨b, off + k * 3 + 2, none⟩ = some (.slice ao nm co)) (first | exact S0 | exact S1 | exact ⟨cell_old _ S1.1, cell_old _ S1.2.1, cell_old _ S1.2.2⟩ | exact S3)
          (first
            | (go_at_call 59; (with_reducible refine HC3.out.mono ?_); rintro e w2 ⟨v2, rfl, hp2, hx2⟩; obtain ⟨a2, c2, rfl⟩ := hp2.form; have HX2 := hid (HX0.out.trans hx2); have S1 : _ ∧ _ ∧ _ := And.intro (hx2.cell S0.1) (And.intro (hx2.cell S0.2.1) (hx2.cell S0.2.2)); obtain ⟨n2, hn2⟩ : ∃ n, n = (withoutM t.2 x).length := ⟨_, rfl⟩; rw [← hn2] at hp2 ⊢
               have HP2 : Hid (Pows (Plus S w w2) w2 (.slice a2 n2 c2) (withoutM t.2 x)) := hid (hp2.to (Kept.refl _ _) (new_plus HX0.out.size))
               have hone := rts_one (S := Plus S w w2) (T := 89) (c := t.1) (plus_lt hS HX2.out) ((H4.out.ext HX2.out hS).to (Kept.refl _ _) (fun _ h => .inl h)) HP2.out
               rw [← HBT.out] at hone
               have x3 : Ext w2 (w2.alloc (.cells #[.bool bt, .slice ad nt cd, .slice a2 n2 c2] 89)) := Ext.alloc (Ext.refl w2) _
               have HX3 := hid (HX2.out.trans x3)
               have HC4 := hid (rpoly_add (S := Plus S w (w2.alloc (.cells #[.bool bt, .slice ad nt cd, .slice a2 n2 c2] 89))) _ _ (coefP (p.take k) x xe) [(t.1, withoutM t.2 x)] (w2.alloc (.cells #[.bool bt, .slice ad nt cd, .slice a2 n2 c2] 89)) (plus_lt hS HX3.out) (RTs.later hS HO2.out HX0.out (hx2.trans x3)) (hone.to (Kept.refl _ _) (fun q hq => by
                  rcases hq with hq | rfl
                  · exact plus_grow x3.size q hq
                  · exact .inr ⟨HX2.out.size, by rw [size_alloc]; exact Nat.lt_succ_self _⟩)) HMC.out (fun u hu => by
                  obtain rfl := List.mem_singleton.1 hu
                  exact mayM_without HTM.out x) ⟨by simp, fun u hu => by
                  obtain rfl := List.mem_singleton.1 hu
                  exact HSZT.out⟩ (fun j hj => by
                  rcases Nat.lt_or_ge j 1 with h | h
                  · obtain rfl : j = 0 := by omega
                    exact HSC.out
                  · have e : [(t.1, withoutM t.2 x)].take j = [(t.1, withoutM t.2 x)] := List.take_of_length_le (by simpa using h)
                    rw [e, HE.out]
                    exact HSC1.out))
               clear hx2 hp2 hone x3 hn2)
            | (go_at_call 45; (with_reducible refine HC4.out.mono ?_); rintro e w3 ⟨v3, rfl, hp3, hx3⟩; have HX4 := hid (HX3.out.trans hx3); have S3 : _ ∧ _ ∧ _ := And.intro (HX4.out.cell HC0.out.1) (And.intro (HX4.out.cell HC0.out.2.1) (HX4.out.cell HC0.out.2.2)); have HP3 := hid (hp3.to (Kept.refl _ _) (plus_plus HX3.out hx3)); clear hx3 hp3))
        all_goals
          go_wp2
          go_roundw
          case rel => exact ⟨k + 1, by omega, by go_num, HX4.out, hid (by rw [← HE.out]; exact HP3.out)⟩
          case measure => simp only [intOf]; omega
      · have HE := hid (coef_no HT.out (x := x) (d := d) (by rw [← HXE.out]; exact he))
        go_wp2
        go_roundw
        case rel => exact ⟨k + 1, by omega, by go_num, HX1.out, hid (by rw [HE.out]; exact HO1.out)⟩
        case measure => simp only [intOf]; omega
    · obtain rfl : k = p.length := by omega
      have HE : Hid (p.take p.length = p) := hid List.take_length
      clear hx0
      go_wp2
      all_goals
        go_ret
        refine ⟨_, rfl, ?_, HX.out⟩
        have := HO.out
        rw [HE.out] at this
        exact this

set_option maxRecDepth 100000 in
set_option maxHeartbeats 4000000 in
theorem rview_initial {S : Nat → Prop} (v : Value) (p : PZ) (w : World) (h : RTs S w v p) (hS : ∀ k, S k → k < w.heap.size) (hc : canP p) (hsz : szP p) :
    Calls Tryz.prog 28 #[v] w fun e w' => ∃ v', e = .returned v' ∧ RTs (Plus S w w') w' v' (initP p) ∧ Ext w w' := by
  have H := hid h
  have hlr := leadP_range hc
  have hdr := degP_range hc.may (leadP p)
  have C1 := rview_class v p w (h.old hS) hc.may
  rw [clsP_lead hc] at C1
  have C2 := fun (W : World) (hW : Ext w W) => rview_degree v p (leadP p) W ((h.ext hW hS).old (lt_ext hS hW)) hc.may ⟨by omega, by omega⟩
  have C3 := fun (W : World) (hW : Ext w W) (hl : 1 ≤ leadP p) => rview_coefficient (S := S) v p (leadP p) (degP p (leadP p)) W (h.ext hW hS) (lt_ext hS hW) hc hsz ⟨hl, hlr.2⟩ ⟨by omega, by omega⟩
  have HI0 : Hid (leadP p = 0 → initP p = p) := hid (fun h0 => by unfold initP; rw [if_pos h0])
  have HI : Hid (leadP p ≠ 0 → initP p = coefP p (leadP p) (degP p (leadP p))) := hid (fun h0 => by unfold initP; rw [if_neg h0])
  obtain ⟨l, hl⟩ : ∃ l, l = leadP p := ⟨_, rfl⟩
  rw [← hl] at C1 C2 C3 HI HI0 hlr hdr
  obtain ⟨d, hd⟩ : ∃ d, d = degP p l := ⟨_, rfl⟩
  rw [← hd] at C2 C3 HI hdr
  have HC1 := hid C1
  have HC2 := hid C2
  have HC3 := hid C3
  clear C1 C2 C3 hl hd h hc hsz
  go_enter Tryz.func28, Tryz.ntmps28
  go_wp2_with fail
  refine HC1.out.mono ?_
  rintro e w1 ⟨rfl, hx1⟩
  have HX1 := hid hx1
  clear hx1
  by_cases h0 : l = 0
  · have HE := hid (HI0.out h0)
    subst h0
    go_wp2
    all_goals
      go_ret
      exact ⟨_, rfl, by rw [HE.out]; exact (H.out.ext HX1.out hS).to (Kept.refl _ _) (fun _ h => .inl h), HX1.out⟩
  · have hl1 : 1 ≤ l := by omega
    have hb : (l == 0) = false := by rw [beq_eq_false_iff_ne]; exact h0
    go_wp2_with fail
    refine (HC2.out w1 HX1.out).mono ?_
    rintro e w2 ⟨rfl, hx2⟩
    have HX2 := hid (HX1.out.trans hx2)
    clear hx2
    go_wp2_with fail
    refine (HC3.out w2 HX2.out hl1).mono ?_
    rintro e w3 ⟨v3, rfl, hp3, hx3⟩
    have HX3 := hid (HX2.out.trans hx3)
    have HP3 : Hid (RTs (Plus S w w3) w3 v3 (coefP p l d)) := hid (hp3.to (Kept.refl _ _) (fun q hq => by
      rcases hq with hq | hq
      · exact .inl hq
      · exact .inr ⟨Nat.le_trans HX2.out.size hq.1, hq.2⟩))
    clear hx3 hp3
    go_wp2
    all_goals
      go_ret
      exact ⟨_, rfl, by rw [HI.out h0]; exact HP3.out, HX3.out⟩
end Go.Proofs.YthplgldclilccaaGreat

namespace Go.Proofs.YthplgldclilccaaGreat
open Go.RowKit

/-- sizes that the document's view takes -/
def Sz9 (p : PZ) : Prop := ∃ L N n, bndP p L N ∧ L ≤ 1000000 ∧ (1 + L) * (10000 * N) < 10 ^ n ∧ n ≤ 2000000
theorem nine_le (L N : Nat) : N + L * N ≤ (1 + L) * (10000 * N) := by
  have e : (1 + L) * (10000 * N) = 10000 * (N + L * N) := by rw [Nat.add_mul, Nat.one_mul, Nat.mul_left_comm L, Nat.mul_add]
  rw [e]
  omega
theorem nine_le' (L N : Nat) : 10000 * N ≤ (1 + L) * (10000 * N) := by
  rw [Nat.add_mul, Nat.one_mul]
  exact Nat.le_add_right _ _
theorem bnd9_sub {p q : PZ} {L N : Nat} (h : bndP p L N) (hs : q.Sublist p) : bndP q L N := ⟨Nat.le_trans hs.length_le h.1, fun t ht => h.2 t (hs.mem ht)⟩
theorem bnd9_neg {p : PZ} {L N : Nat} (h : bndP p L N) : bndP (negP p) L N := ⟨by rw [negP_length]; exact h.1, fun t ht => by
  obtain ⟨u, hu, rfl⟩ := List.mem_map.1 ht
  rw [Int.natAbs_neg]
  exact h.2 u hu⟩
theorem bnd9_coef {p : PZ} {L N : Nat} (h : bndP p L N) (x d : Int) : bndP (coefP p x d) L N := ⟨Nat.le_trans (List.length_filterMap_le _ _) h.1, fun u hu => by
  obtain ⟨t, ht, _, rfl⟩ := coefP_mem hu
  exact h.2 t ht⟩
theorem Sz9.sz {p : PZ} (h : Sz9 p) : szP p := by
  obtain ⟨L, N, n, h1, h2, h3, h4⟩ := h
  exact sz_of_bnd h1 (by omega) (Nat.lt_of_le_of_lt (Nat.le_trans (Nat.le_add_right _ _) (nine_le L N)) h3) h4
theorem Sz9.sub {p q : PZ} (h : Sz9 p) (hs : q.Sublist p) : Sz9 q := by
  obtain ⟨L, N, n, h1, h2⟩ := h
  exact ⟨L, N, n, bnd9_sub h1 hs, h2⟩
theorem Sz9.diff {p y : PZ} (h : Sz9 p) (hs : y.Sublist p) (k : Nat) : szP (addP p ((negP y).take k)) := by
  obtain ⟨L, N, n, h1, h2, h3, h4⟩ := h
  have h5 := bnd9_neg (bnd9_sub h1 hs)
  have h6 : ∀ t ∈ (negP y).take k, t.1.natAbs ≤ N := fun t ht => h5.2 t (List.mem_of_mem_take ht)
  have h7 : ((negP y).take k).length ≤ L := Nat.le_trans (by rw [List.length_take]; exact Nat.min_le_right _ _) h5.1
  have hb := addP_bnd h1 h6
  exact sz_of_bnd hb (by omega) (Nat.lt_of_le_of_lt (Nat.add_le_add_left (Nat.mul_le_mul_right N h7) N) (Nat.lt_of_le_of_lt (nine_le L N) h3)) h4
theorem pow_one {v : Int} {i : Nat} {u : Int × Mono} (h : u ∈ powP v i) : u.1 = 1 := by
  unfold powP at h
  split at h
  all_goals
    obtain rfl := List.mem_singleton.1 h
    rfl
theorem pow_len (v : Int) (i : Nat) : (powP v i).length = 1 := by unfold powP; split <;> rfl
theorem pow_sz (v : Int) (i : Nat) : szP (powP v i) := ⟨by rw [pow_len]; omega, fun t ht => by rw [pow_one ht]; exact szZ_i64 (n := 1) (by omega)⟩
theorem Sz9.mul {p q : PZ} (h : Sz9 p) (x d : Int) (v : Int) (i : Nat) (hq : q = coefP p x d) : szM q (powP v i) := by
  obtain ⟨L, N, n, h1, h2, h3, h4⟩ := h
  subst hq
  have hb := bnd9_coef h1 x d
  refine ⟨N, n, fun t ht u hu => by rw [pow_one hu, Int.mul_one]; exact hb.2 t ht, by rw [pow_len, Nat.mul_one]; have := hb.1; omega, ?_, h4⟩
  rw [pow_len, Nat.mul_one]
  exact Nat.lt_of_le_of_lt (Nat.mul_le_mul_right N hb.1) (Nat.lt_of_le_of_lt (Nat.le_trans (Nat.le_add_left _ _) (nine_le L N)) h3)
theorem tail_sub {p : PZ} (h : canP p) : addP p (negP (partP p (leadP p) (degP p (leadP p)))) = tailP p := by
  have hp := part_can h (leadP p) (degP p (leadP p))
  have ht := tailP_can h
  rw [addP_eq h (negP_may hp.may)]
  refine norm_eq (mayAll_append h.may (negP_may hp.may)) ht (fun f => ?_)
  have h1 := low_next h (leadP p) (degP p (leadP p))
  rw [low_all (leadP p) (Int.lt_succ _), ← tail_low] at h1
  have h2 := norm_eqv (mayAll_append ht.may hp.may) f
  rw [h1, ev_append] at h2
  rw [ev_append, h2]
  unfold negP
  rw [ev_neg]
  omega

set_option maxRecDepth 100000 in
set_option maxHeartbeats 4000000 in
theorem rview_tail {S : Nat → Prop} (v : Value) (p : PZ) (w : World) (h : RTs S w v p) (hS : ∀ k, S k → k < w.heap.size) (hc : canP p) (hsz : Sz9 p) :
    Calls Tryz.prog 30 #[v] w fun e w' => ∃ v', e = .returned v' ∧ RTs (Plus S w w') w' v' (tailP p) ∧ Ext w w' := by
  have H := hid h
  have hlr := leadP_range hc
  have hdr := degP_range hc.may (leadP p)
  have C1 := rview_class v p w (h.old hS) hc.may
  rw [clsP_lead hc] at C1
  have C2 := fun (W : World) (hW : Ext w W) => rview_initial (S := S) v p W (h.ext hW hS) (lt_ext hS hW) hc hsz.sz
  have C3 := fun (W : World) (hW : Ext w W) => rview_degree v p (leadP p) W ((h.ext hW hS).old (lt_ext hS hW)) hc.may ⟨by omega, by omega⟩
  obtain ⟨i, hi⟩ : ∃ i : Nat, (i : Int) = degP p (leadP p) := ⟨(degP p (leadP p)).toNat, by omega⟩
  have hi2 : i ≤ 10000 := by omega
  have C4 := fun (W : World) => rview_power (leadP p) i W (by unfold inI64; omega) hi2
  have C5 := fun (W : World) (va vb : Value) (hW : Ext w W) (ha : RTs (Plus S w W) W va (initP p)) (hb : RTs (Plus S w W) W vb (powP (leadP p) i)) (h1 : 1 ≤ leadP p) => rpoly_mul (S := Plus S w W) va vb (initP p) (powP (leadP p) i) W (plus_lt hS hW) ha hb (initP_can hc).may (pow_may ⟨h1, hlr.2⟩ hi2) (by rw [init_part (by omega)]; exact coefP_sz hsz.sz _ _) (pow_sz _ _) (hsz.mul _ _ _ _ (init_part (by omega)))
  have HTP : Hid (1 ≤ leadP p → timesV (timesP (initP p) (powP (leadP p) i)) = partP p (leadP p) (degP p (leadP p))) := hid (fun h1 => by rw [init_part (by omega), ← hi, part_times hc ⟨h1, hlr.2⟩ hi2]; rfl)
  have C6 := fun (W : World) (vb : Value) (hW : Ext w W) (hb : RTs (Plus S w W) W vb (partP p (leadP p) (degP p (leadP p)))) => rpoly_sub (S := Plus S w W) v vb p (partP p (leadP p) (degP p (leadP p))) W (plus_lt hS hW) ((h.ext hW hS).to (Kept.refl _ _) (fun _ h => .inl h)) hb hc.may (part_can hc _ _).may (hsz.sub List.filter_sublist).sz (fun k _ => hsz.diff List.filter_sublist k)
  rw [tail_sub hc] at C6
  have HT0 : Hid (leadP p = 0 → tailP p = []) := hid (tail_none hc)
  obtain ⟨l, hl⟩ : ∃ l, l = leadP p := ⟨_, rfl⟩
  rw [← hi] at C3 C6 HTP
  rw [← hl] at C1 C3 C4 C5 C6 HTP HT0 hlr
  have HC1 := hid C1
  have HC2 := hid C2
  have HC3 := hid C3
  have HC4 := hid C4
  have HC5 := hid C5
  have HC6 := hid C6
  clear C1 C2 C3 C4 C5 C6 hl hi h hc hsz hdr
  go_enter Tryz.func30, Tryz.ntmps30
  go_wp2_with fail
  refine HC1.out.mono ?_
  rintro e w1 ⟨rfl, hx1⟩
  have HX1 := hid hx1
  clear hx1
  by_cases h0 : l = 0
  · have HE := hid (HT0.out h0)
    subst h0
    go_wp2
    all_goals
      go_ret
      exact ⟨_, rfl, by rw [HE.out]; exact RTs.nilv _ _ _ _ (by omega), HX1.out⟩
  · have hl1 : 1 ≤ l := by omega
    have hb : (l == 0) = false := by rw [beq_eq_false_iff_ne]; exact h0
    go_wp2_with fail
    refine (HC2.out w1 HX1.out).mono ?_
    rintro e w2 ⟨v2, rfl, hp2, hx2⟩
    have HX2 := hid (HX1.out.trans hx2)
    have HP2 : Hid (RTs (Plus S w w2) w2 v2 (initP p)) := hid (hp2.to (Kept.refl _ _) (fun q hq => by
      rcases hq with hq | hq
      · exact .inl hq
      · exact .inr ⟨Nat.le_trans HX1.out.size hq.1, hq.2⟩))
    clear hx2 hp2
    go_wp2_with fail
    refine (HC3.out w2 HX2.out).mono ?_
    rintro e w3 ⟨rfl, hx3⟩
    have HX3 := hid (HX2.out.trans hx3)
    have HP3 := hid (RTs.later hS HP2.out HX2.out hx3)
    clear hx3
    go_wp2_with fail
    refine (HC4.out w3).mono ?_
    rintro e w4 ⟨v4, rfl, hp4, hx4⟩
    have HX4 := hid (HX3.out.trans hx4)
    have HP4 := hid (RTs.later hS HP3.out HX3.out hx4)
    have HQ4 : Hid (RTs (Plus S w w4) w4 v4 (powP l i)) := hid (hp4.to (Kept.refl _ _) (new_plus HX3.out.size))
    have HC5' := hid (HC5.out w4 _ _ HX4.out HP4.out HQ4.out hl1)
    clear hx4 hp4
    go_wp2_with fail
    refine HC5'.out.mono ?_
    rintro e w5 ⟨v5, rfl, hp5, hx5⟩
    rw [HTP.out hl1] at hp5
    have HX5 := hid (HX4.out.trans hx5)
    have HP5 := hid (hp5.to (Kept.refl _ _) (plus_plus HX4.out hx5))
    have HC6' := hid (HC6.out w5 _ HX5.out HP5.out)
    clear hx5 hp5
    go_wp2_with fail
    refine HC6'.out.mono ?_
    rintro e w6 ⟨v6, rfl, hp6, hx6⟩
    have HX6 := hid (HX5.out.trans hx6)
    have HP6 := hid (hp6.to (Kept.refl _ _) (plus_plus HX5.out hx6))
    clear hx6 hp6
    go_wp2
    all_goals
      go_ret
      exact ⟨_, rfl, HP6.out, HX6.out⟩
end Go.Proofs.YthplgldclilccaaGreat

namespace Go.Proofs.YthplgldclilccaaGreat
open Go.RowKit

theorem Sz9.bnd {p : PZ} (h : Sz9 p) {t : Int × Mono} (ht : t ∈ p) {e : Nat} (he : e ≤ 10000) : ∃ N n, (t.1 * (e : Int)).natAbs ≤ N ∧ N < 10 ^ n ∧ n ≤ 2000000 := by
  obtain ⟨L, N, n, h1, h2, h3, h4⟩ := h
  refine ⟨10000 * N, n, ?_, Nat.lt_of_le_of_lt (nine_le' L N) h3, h4⟩
  rw [Int.natAbs_mul, Int.natAbs_natCast, Nat.mul_comm]
  exact Nat.mul_le_mul he (h1.2 t ht)
theorem Sz9.der {p : PZ} (h : Sz9 p) (hm : mayAll p) (x : Int) (k : Nat) : szP (derP (p.take k) x) := by
  obtain ⟨L, N, n, h1, h2, h3, h4⟩ := h
  refine ⟨Nat.le_trans (List.length_filterMap_le _ _) (Nat.le_trans (by rw [List.length_take]; exact Nat.min_le_right _ _) (Nat.le_trans h1.1 (by omega))), fun u hu => ?_⟩
  obtain ⟨t, ht, _, rfl⟩ := derP_mem hu
  have ht := List.mem_of_mem_take ht
  have hr := ex_range (hm t ht) x
  refine szZ_le (n := n) (Nat.lt_of_le_of_lt ?_ (Nat.lt_of_le_of_lt (nine_le' L N) h3)) h4
  show (t.1 * ex t.2 x).natAbs ≤ _
  rw [Int.natAbs_mul, Nat.mul_comm]
  exact Nat.mul_le_mul (by omega) (h1.2 t ht)
theorem der_times {t : Int × Mono} (h : mayM t.2 = true) {x : Int} {e : Nat} (he : (e : Int) = ex t.2 x) (h0 : 0 < e) (hx : 1 ≤ x ∧ x ≤ 200) (hne : t.1 ≠ 0) : timesP [(t.1 * (e : Int), withoutM t.2 x)] (powP x (e - 1)) = some [(t.1 * (e : Int), decM t.2 x)] := by
  have hr := ex_range h x
  have hw := mayM_without h x
  have hdm := dec_may h (v := x)
  have hm : mulL [(t.1 * (e : Int), withoutM t.2 x)] (powP x (e - 1)) = [(t.1 * (e : Int), decM t.2 x)] := by
    unfold powP decM
    by_cases h1 : e = 1
    · subst h1
      rw [if_pos rfl, if_neg (by omega), mulL_one]
      simp [times_one_right (may_ok hw)]
    · rw [if_neg (by omega), if_pos (by omega), mulL_one]
      have e1 : ((e - 1 : Nat) : Int) = ex t.2 x - 1 := by omega
      simp [e1]
  have hc : canP [(t.1 * (e : Int), decM t.2 x)] := ⟨fun u hu => by
    obtain rfl := List.mem_singleton.1 hu
    exact ⟨Int.mul_ne_zero hne (by omega), hdm⟩, List.pairwise_singleton _ _⟩
  rw [times_norm (fun u hu => by
    obtain rfl := List.mem_singleton.1 hu
    exact hw) (pow_may hx (by omega)) (by rw [hm]; exact hc.may), hm, normP_of_can hc]
theorem der_yes {p : PZ} (h : canP p) {k : Nat} {t : Int × Mono} {x : Int} {e : Nat} (ht : p[k]? = some t) (he : (e : Int) = ex t.2 x) (h0 : 0 < e) : addP (derP (p.take k) x) [(t.1 * (e : Int), decM t.2 x)] = derP (p.take (k + 1)) x := by
  have hc := derP_can (canP_sub h (List.take_sublist k p)) x
  have hc' := derP_can (canP_sub h (List.take_sublist (k + 1) p)) x
  have e1 : derP (p.take (k + 1)) x = derP (p.take k) x ++ [(t.1 * (e : Int), decM t.2 x)] := by
    unfold derP
    rw [List.take_add_one, ht, List.filterMap_append]
    have : ex t.2 x ≠ 0 := by omega
    simp [derF, this, he]
  have hm : mayAll [(t.1 * (e : Int), decM t.2 x)] := fun u hu => by
    obtain rfl := List.mem_singleton.1 hu
    exact dec_may (h.may t (List.mem_of_getElem? ht))
  rw [addP_eq hc hm, ← e1, normP_of_can hc']
theorem der_no {p : PZ} {k : Nat} {t : Int × Mono} {x : Int} (ht : p[k]? = some t) (hd : ex t.2 x = 0) : derP (p.take (k + 1)) x = derP (p.take k) x := by
  unfold derP
  rw [List.take_add_one, ht, List.filterMap_append]
  simp [derF, hd]
section
variable {S : Nat → Prop} {w w1 w2 : World} {v : Value}
theorem Digs.later {ds : List Nat} (hS : ∀ k, S k → k < w.heap.size) (h : Digs (Plus S w w1) w1 v ds) (h1 : Ext w w1) (h2 : Ext w1 w2) : Digs (Plus S w w2) w2 v ds := h.to (Kept.ext h2 (plus_lt hS h1)) (plus_grow h2.size)
theorem Pows.later {m : Mono} (hS : ∀ k, S k → k < w.heap.size) (h : Pows (Plus S w w1) w1 v m) (h1 : Ext w w1) (h2 : Ext w1 w2) : Pows (Plus S w w2) w2 v m := h.to (Kept.ext h2 (plus_lt hS h1)) (plus_grow h2.size)
theorem ZV.later {z : Int} (hS : ∀ k, S k → k < w.heap.size) (h : ZV (Plus S w w1) w1 v z) (h1 : Ext w w1) (h2 : Ext w1 w2) : ZV (Plus S w w2) w2 v z := h.to (Kept.ext h2 (plus_lt hS h1)) (plus_grow h2.size)
end
/-- one term, just laid -/
theorem one_done {S : Nat → Prop} {w W : World} {T : TypeId} {vd vo : Value} {c : Int} {m : Mono} {b : Bool} (hS : ∀ k, S k → k < w.heap.size) (hx : Ext w W) (hd : Digs (Plus S w W) W vd (rep 10 c.natAbs)) (hm : Pows (Plus S w W) W vo m) (hb : b = decide (c < 0)) :
    RTs (Plus S w (W.alloc (.cells #[.bool b, vd, vo] T))) (W.alloc (.cells #[.bool b, vd, vo] T)) (.slice (some ⟨W.heap.size, 0, none⟩) 1 1) [(c, m)] := by
  subst hb
  have x3 : Ext W (W.alloc (.cells #[.bool (decide (c < 0)), vd, vo] T)) := Ext.alloc (Ext.refl W) _
  exact (rts_one (S := Plus S w W) (plus_lt hS hx) hd hm).to (Kept.refl _ _) (fun q hq => by
    rcases hq with hq | rfl
    · exact plus_grow x3.size q hq
    · exact .inr ⟨hx.size, by rw [size_alloc]; exact Nat.lt_succ_self _⟩)

set_option maxRecDepth 100000 in
set_option maxHeartbeats 8000000 in
theorem rview_derive {S : Nat → Prop} (v : Value) (p : PZ) (x : Int) (w : World) (h : RTs S w v p) (hS : ∀ k, S k → k < w.heap.size) (hc : canP p) (hsz : Sz9 p) (hx : 1 ≤ x ∧ x ≤ 200) :
    Calls Tryz.prog 22 #[v, .int .i64 x] w fun e w' => ∃ v', e = .returned v' ∧ RTs (Plus S w w') w' v' (derP p x) ∧ Ext w w' := by
  have hl := h.len_le
  have H := hid h
  have HSZ := hid hsz
  have HC := hid hc
  have HX200 := hid hx
  obtain ⟨hx1, hx2⟩ := hx
  obtain ⟨a, cap, rfl⟩ := h.form
  clear h hsz hc
  go_enter Tryz.func22, Tryz.ntmps22
  go_wp2
  go_loopw [5, 6] (fun o i wr => ∃ k : Nat, k ≤ p.length ∧ i = .int .i64 k ∧ Ext w wr ∧ Hid (RTs (Plus S w wr) wr o (derP (p.take k) x))) (fun _ i _ => p.length - (intOf i).toNat)
  case atStart => exact ⟨0, Nat.zero_le _, rfl, Ext.refl _, hid (RTs.nilv _ _ _ _ (by omega))⟩
  case round =>
    obtain ⟨k, hk, rfl, hx0, HO⟩ := hrel
    have HX := hid hx0
    by_cases hlt : k < p.length
    · obtain ⟨t, ht⟩ := some_of_lt hlt
      obtain ⟨b, off, vd, vo, rfl, -, hn1, hm1, hSb, h1, h2, h3, h4, h5⟩ := H.out.cellAt ht
      have HT := hid ht
      have HMT := hid (List.mem_of_getElem? ht)
      have H4 := hid h4
      have H5 := hid h5
      have HTM := hid (HC.out.may t HMT.out)
      have HTN := hid (HC.out.1 t HMT.out).1
      have hr := ex_range HTM.out x
      obtain ⟨ad, cd, rfl⟩ := h4.form
      obtain ⟨ao, co, rfl⟩ := h5.form
      have g3 := hx0.cell h3
      obtain ⟨xe, hxe⟩ : ∃ n : Nat, (n : Int) = ex t.2 x := ⟨(ex t.2 x).toNat, by omega⟩
      have C1 := fun (W : World) (hW : Ext w W) => rmono_degree (S := S) _ t.2 x W (H5.out.ext hW hS) (lt_ext hS hW) ⟨by omega, by omega⟩
      rw [plainM_yes HTM.out] at C1
      have CW := fun (W : World) (hW : Ext w W) => rmono_without (S := S) _ t.2 x W (H5.out.ext hW hS) (lt_ext hS hW) HTM.out ⟨hx1, hx2⟩
      have hsz1 := HSZ.out.sz.2 t HMT.out
      have CM := fun (W : World) (vs : Value) (hW : Ext w W) (hs : ZV (Plus S w W) W vs (xe : Int)) (hsn : szZ (xe : Int)) => zed_mul (S := Plus S w W) (.agg #[.bool (decide (t.1 < 0)), .slice ad (rep 10 t.1.natAbs).length cd]) vs t.1 (xe : Int) W ⟨_, rfl, (H4.out.ext hW hS).to (Kept.refl _ _) (fun _ h => .inl h)⟩ hs (plus_lt hS hW) hsz1 hsn
      have h0 : _ ∧ _ ∧ _ := And.intro h1 (And.intro h2 h3)
      obtain ⟨bt, hbt⟩ : ∃ b, b = decide (t.1 < 0) := ⟨_, rfl⟩
      obtain ⟨nt, hnt⟩ : ∃ n, n = (rep 10 t.1.natAbs).length := ⟨_, rfl⟩
      obtain ⟨nm, hnm⟩ : ∃ n, n = t.2.length := ⟨_, rfl⟩
      have HXE := hid hxe
      rw [← hbt, ← hnt, ← hnm] at h0
      rw [← hnm] at g3 C1 CW
      rw [← hxe] at C1 hr
      rw [← hbt, ← hnt] at CM
      have HC0 := hid h0
      have HC1 := hid C1
      have HCW := hid CW
      have HCM := hid CM
      clear ht h0 h1 h2 h3 h4 h5 hx0 C1 CW CM hbt hnt hnm hxe hsz1
      go_wp2_with fail
      refine (HC1.out wr HX.out).mono ?_
      rintro e w1 ⟨rfl, hx1'⟩
      have HX1 := hid (HX.out.trans hx1')
      have HO1 := hid (RTs.later hS HO.out HX.out hx1')
      clear hx1' g3
      by_cases he : 0 < xe
      · have hen : xe < 9223372036854775808 := by omega
        have he1 : xe ≤ 10000 := by omega
        have HE := hid (der_yes HC.out HT.out (x := x) HXE.out he)
        have HTI := hid (der_times HTM.out HXE.out he ⟨hx1, hx2⟩ HTN.out)
        have hsn : Hid (szZ (xe : Int)) := hid (szZ_i64 hen)
        have x0 : Ext w w1.drew := HX1.out.drew
        have HX0 := hid x0
        have S0 : _ ∧ _ ∧ _ := And.intro (x0.cell HC0.out.1) (And.intro (x0.cell HC0.out.2.1) (x0.cell HC0.out.2.2))
        have HCS := hid (fun W => zed_small xe W hen)
        clear x0
        go_upto_region 7 with fail
        go_cut [8] (fun s8 wx => ∃ g : Nat, s8 = .slice (some ⟨g, 0, none⟩) 1 1 ∧ Hid (RTs (Plus S w wx) wx (.slice (some ⟨g, 0, none⟩) 1 1) [(t.1 * (xe : Int), withoutM t.2 x)]) ∧ Ext w1 wx)
        case first =>
          go_region_held3 (fun W => W.cell? ⟨b, off + k * 3, none⟩ = some (.bool bt) ∧ W.cell? ⟨b, off + k * 3 + 1, none⟩ = some (.slice ad nt cd) ∧ W.cell? ⟨b, off + k * 3 + 2, none⟩ = some (.slice ao nm co)) (first | (with_reducible exact S0) | (with_reducible exact S1) | (with_reducible exact S2) | (with_reducible exact S3) | (with_reducible exact ⟨cell_old _ S2.1, cell_old _ S2.2.1, cell_old _ S2.2.2⟩) | (with_reducible exact ⟨cell_old _ S3.1, cell_old _ S3.2.1, cell_old _ S3.2.2⟩))
            (first
              | (go_at_call 61; (with_reducible refine (HCS.out _).mono ?_); rintro e ws ⟨vs, rfl, hzs, hxs⟩
                 have HXS : Hid (Ext w ws) := hid (by first | exact HX0.out.trans hxs | exact HXW.out.trans hxs)
                 have HYS : Hid (Ext w1 ws) := hid (by first | exact (Ext.refl w1).drew.trans hxs | exact HYW.out.trans hxs)
                 have S1 : _ ∧ _ ∧ _ := And.intro (HXS.out.cell HC0.out.1) (And.intro (HXS.out.cell HC0.out.2.1) (HXS.out.cell HC0.out.2.2))
                 have HZS : Hid (ZV (Plus S w ws) ws vs (xe : Int)) := hid (hzs.to (Kept.refl _ _) (fun q hq => .inr ⟨Nat.le_trans (by first | exact HX0.out.size | exact HXW.out.size) hq.1, hq.2⟩))
                 have HRS := hid hxs
                 obtain ⟨asx, nsx, csx, rfl⟩ := hzs.form
                 obtain ⟨bs, hbs⟩ : ∃ b, b = decide ((xe : Int) < 0) := ⟨_, rfl⟩
                 rw [← hbs] at HZS ⊢
                 clear hzs hxs hbs)
              | (go_at_call 60
                 first
                   | (have HQ := hid (HCM.out ws _ HXS.out HZS.out hsn.out); (with_reducible refine HQ.out.mono ?_))
                   | (have HQ := hid (HCM.out w3 _ HXW.out (HZS.out.later hS HXS.out HRW.out) hsn.out); (with_reducible refine HQ.out.mono ?_))
                 rintro e w2 ⟨v2, rfl, hzm, hxm⟩
                 have HXM : Hid (Ext w w2) := hid (by first | exact HXS.out.trans hxm | exact HXW.out.trans hxm)
                 have HYM : Hid (Ext w1 w2) := hid (by first | exact HYS.out.trans hxm | exact HYW.out.trans hxm)
                 have S2 : _ ∧ _ ∧ _ := And.intro (HXM.out.cell HC0.out.1) (And.intro (HXM.out.cell HC0.out.2.1) (HXM.out.cell HC0.out.2.2))
                 have hzm2 : ZV (Plus S w w2) w2 v2 (t.1 * (xe : Int)) := hzm.to (Kept.refl _ _) (fun q hq => .inr ⟨Nat.le_trans (by first | exact HXS.out.size | exact HXW.out.size) hq.1, hq.2⟩)
                 have HRM := hid hxm
                 obtain ⟨vd2, rfl, hd2⟩ := hzm2
                 obtain ⟨a2, c2, rfl⟩ := hd2.form
                 obtain ⟨n2, hn2⟩ : ∃ n, n = (rep 10 (t.1 * (xe : Int)).natAbs).length := ⟨_, rfl⟩
                 obtain ⟨b2, hb2⟩ : ∃ b, b = decide (t.1 * (xe : Int) < 0) := ⟨_, rfl⟩
                 rw [← hn2] at hd2 ⊢
                 rw [← hb2]
                 have HB2 := hid hb2
                 have HD2 := hid hd2
                 clear hzm hxm hd2 hn2 hb2 HQ)
              | (go_at_call 59
                 first
                   | (have HQ := hid (HCW.out w1.drew HX0.out); (with_reducible refine HQ.out.mono ?_))
                   | (have HQ := hid (HCW.out ws HXS.out); (with_reducible refine HQ.out.mono ?_))
                   | (have HQ := hid (HCW.out w2 HXM.out); (with_reducible refine HQ.out.mono ?_))
                 rintro e w3 ⟨v3, rfl, hp3, hx3⟩
                 have HXW : Hid (Ext w w3) := hid (by first | exact HX0.out.trans hx3 | exact HXS.out.trans hx3 | exact HXM.out.trans hx3)
                 have HYW : Hid (Ext w1 w3) := hid (by first | exact (Ext.refl w1).drew.trans hx3 | exact HYS.out.trans hx3 | exact HYM.out.trans hx3)
                 have S3 : _ ∧ _ ∧ _ := And.intro (HXW.out.cell HC0.out.1) (And.intro (HXW.out.cell HC0.out.2.1) (HXW.out.cell HC0.out.2.2))
                 have hp3' : Pows (Plus S w w3) w3 v3 (withoutM t.2 x) := hp3.to (Kept.refl _ _) (fun q hq => .inr ⟨Nat.le_trans (by first | exact HX0.out.size | exact HXS.out.size | exact HXM.out.size) hq.1, hq.2⟩)
                 have HRW := hid hx3
                 obtain ⟨a3, c3, rfl⟩ := hp3'.form
                 obtain ⟨n3, hn3⟩ : ∃ n, n = (withoutM t.2 x).length := ⟨_, rfl⟩
                 rw [← hn3] at hp3' ⊢
                 have HP3 := hid hp3'
                 clear hp3 hx3 hp3' hn3 HQ))
          all_goals
            go_wp2_with fail
            go_meet
            refine ⟨_, rfl, hid ?_, ?_⟩
            · first
                | exact one_done hS HXW.out (HD2.out.later hS HXM.out HRW.out) HP3.out HB2.out
                | exact one_done hS HXM.out HD2.out (HP3.out.later hS HXW.out HRM.out) HB2.out
                | exact one_done hS HXM.out HD2.out (HP3.out.later hS HXW.out (HRS.out.trans HRM.out)) HB2.out
            · first
                | exact HYW.out.alloc _
                | exact HYM.out.alloc _
        case rest =>
          obtain ⟨g, rfl, HR, hxc⟩ := hcut
          have HXC : Hid (Ext w wc) := hid (HX1.out.trans hxc)
          have HOC := hid (RTs.later hS HO1.out HX1.out hxc)
          have c4 := rview_power x (xe - 1) wc (by unfold inI64; omega) (by omega)
          rw [show ((xe - 1 : Nat) : Int) = (xe : Int) - 1 by omega] at c4
          have HC4 := hid c4
          clear hxc c4
          go_wp2_with fail
          (with_reducible refine HC4.out.mono ?_)
          rintro e w4 ⟨v4, rfl, hp4, hx4⟩
          have HX4 := hid (HXC.out.trans hx4)
          have HO4 := hid (RTs.later hS HOC.out HXC.out hx4)
          have HR4 := hid (RTs.later hS HR.out HXC.out hx4)
          have HQ4 : Hid (RTs (Plus S w w4) w4 v4 (powP x (xe - 1))) := hid (hp4.to (Kept.refl _ _) (new_plus HXC.out.size))
          have HSN : Hid (szZ (t.1 * (xe : Int))) := hid (by
            obtain ⟨N, n, g1, g2, g3⟩ := HSZ.out.bnd HMT.out he1
            exact szZ_le (Nat.lt_of_le_of_lt g1 g2) g3)
          have HC5 := hid (rpoly_mul (S := Plus S w w4) _ _ [(t.1 * (xe : Int), withoutM t.2 x)] (powP x (xe - 1)) w4 (plus_lt hS HX4.out) HR4.out HQ4.out (fun u hu => by
            obtain rfl := List.mem_singleton.1 hu
            exact mayM_without HTM.out x) (pow_may ⟨hx1, hx2⟩ (by omega)) ⟨by simp, fun u hu => by
            obtain rfl := List.mem_singleton.1 hu
            exact HSN.out⟩ (pow_sz _ _) (by
            obtain ⟨N, n, g1, g2, g3⟩ := HSZ.out.bnd HMT.out he1
            refine ⟨N, n, fun u hu y hy => ?_, by rw [pow_len]; simp, by rw [pow_len]; simpa using g2, g3⟩
            obtain rfl := List.mem_singleton.1 hu
            rw [pow_one hy, Int.mul_one]
            exact g1))
          clear hp4 hx4
          go_wp2_with fail
          (with_reducible refine HC5.out.mono ?_)
          rintro e w5 ⟨v5, rfl, hp5, hx5⟩
          rw [HTI.out] at hp5
          have HX5 := hid (HX4.out.trans hx5)
          have HO5 := hid (RTs.later hS HO4.out HX4.out hx5)
          have HR5 : Hid (RTs (Plus S w w5) w5 v5 [(t.1 * (xe : Int), decM t.2 x)]) := hid (hp5.to (Kept.refl _ _) (plus_plus HX4.out hx5))
          have HC6 := hid (rpoly_add (S := Plus S w w5) _ _ (derP (p.take k) x) [(t.1 * (xe : Int), decM t.2 x)] w5 (plus_lt hS HX5.out) HO5.out HR5.out (derP_can (canP_sub HC.out (List.take_sublist k p)) x).may (fun u hu => by
            obtain rfl := List.mem_singleton.1 hu
            exact dec_may HTM.out) ⟨by simp, fun u hu => by
            obtain rfl := List.mem_singleton.1 hu
            exact HSN.out⟩ (fun j hj => by
            rcases Nat.lt_or_ge j 1 with h | h
            · obtain rfl : j = 0 := by omega
              exact HSZ.out.der HC.out.may x k
            · have e : [(t.1 * (xe : Int), decM t.2 x)].take j = [(t.1 * (xe : Int), decM t.2 x)] := List.take_of_length_le (by simpa using h)
              rw [e, HE.out]
              exact HSZ.out.der HC.out.may x (k + 1)))
          clear hp5 hx5
          go_wp2_with fail
          (with_reducible refine HC6.out.mono ?_)
          rintro e w6 ⟨v6, rfl, hp6, hx6⟩
          have HX6 := hid (HX5.out.trans hx6)
          have HP6 := hid (hp6.to (Kept.refl _ _) (plus_plus HX5.out hx6))
          clear hx6 hp6
          go_wp2
          go_roundw
          case rel => exact ⟨k + 1, by omega, by go_num, HX6.out, hid (by rw [← HE.out]; exact HP6.out)⟩
          case measure => simp only [intOf]; omega
      · have hxe0 : xe = 0 := by omega
        have HE := hid (der_no HT.out (x := x) (by rw [← HXE.out]; omega))
        subst hxe0
        go_wp2
        go_roundw
        case rel => exact ⟨k + 1, by omega, by go_num, HX1.out, hid (by rw [HE.out]; exact HO1.out)⟩
        case measure => simp only [intOf]; omega
    · obtain rfl : k = p.length := by omega
      have HE : Hid (p.take p.length = p) := hid List.take_length
      clear hx0
      go_wp2
      all_goals
        go_ret
        refine ⟨_, rfl, ?_, HX.out⟩
        have := HO.out
        rw [HE.out] at this
        exact this
end Go.Proofs.YthplgldclilccaaGreat

namespace Go.Proofs.YthplgldclilccaaGreat
open Go.RowKit

set_option maxRecDepth 100000 in
set_option maxHeartbeats 4000000 in
theorem law09_plain {S : Nat → Prop} (v : Value) (ts : List RTerm) (w : World) (h : Terms S w v ts) (hS : ∀ k, S k → k < w.heap.size) (hf : fitT ts) :
    Calls Tryz.prog 20 #[v] w fun e w' => ∃ v', e = .returned v' ∧ RTs (Plus S w w') w' v' (plainP ts) ∧ Ext w w' := by
  have C := rpoly_may (S := S) v ts w h hS hf.1
  have hok := h.okT
  cases hr : mayT ts with
  | true =>
    have HPP := hid (plainP_yes hr)
    have hcan := mayT_can hr
    have CO := fun (W : World) (hW : Ext w W) => rpoly_of (S := S) v ts W (h.ext hW hS) (lt_ext hS hW) hf.1 hcan.may (fun k _ => by rw [addP_take hcan]; exact szP_take (szP_toP hok hf) k)
    rw [normP_of_can hcan] at CO
    rw [hr] at C
    obtain ⟨a, c, rfl⟩ := h.form
    have HC := hid C
    have HCO := hid CO
    clear h hS hf C CO hr hok hcan
    go_enter Tryz.func20, Tryz.ntmps20
    go_wp2_with fail
    (with_reducible refine HC.out.mono ?_)
    rintro e w1 ⟨rfl, hx1⟩
    have HX1 := hid hx1
    clear hx1
    go_wp2_with fail
    (with_reducible refine (HCO.out w1 HX1.out).mono ?_)
    rintro e w2 ⟨v2, rfl, hp2, hx2⟩
    have HX2 := hid (HX1.out.trans hx2)
    have HP2 : Hid (RTs (Plus S w w2) w2 v2 (toP ts)) := hid (hp2.to (Kept.refl _ _) (fun q hq => by
      rcases hq with hq | hq
      · exact .inl hq
      · exact .inr ⟨Nat.le_trans HX1.out.size hq.1, hq.2⟩))
    clear hx2 hp2
    go_wp2
    all_goals
      go_ret
      exact ⟨_, rfl, by rw [HPP.out]; exact HP2.out, HX2.out⟩
  | false =>
    have HPP := hid (plainP_no hr)
    rw [hr] at C
    obtain ⟨a, c, rfl⟩ := h.form
    have HC := hid C
    clear h hS hf C hr hok
    go_enter Tryz.func20, Tryz.ntmps20
    go_wp2_with fail
    (with_reducible refine HC.out.mono ?_)
    rintro e w1 ⟨rfl, hx1⟩
    have HX1 := hid hx1
    clear hx1
    go_wp2
    all_goals
      go_ret
      exact ⟨_, rfl, by rw [HPP.out]; exact RTs.nilv _ _ _ _ (by omega), HX1.out⟩

/-- a coefficient by any variable: 0 by one that is none -/
def coefA (p : PZ) (v e : Int) : PZ := if 1 ≤ v ∧ v ≤ 200 then coefP p v e else []
theorem none_pick (p : PZ) : pickP (fun _ => none) p = [] := by
  unfold pickP
  induction p with
  | nil => rfl
  | cons t r ih => rw [List.filterMap_cons]; exact ih

set_option maxRecDepth 100000 in
set_option maxHeartbeats 4000000 in
theorem view_coefficient_any {S : Nat → Prop} (v : Value) (ts : List RTerm) (x d : Int) (w : World) (h : Terms S w v ts) (hS : ∀ k, S k → k < w.heap.size) (hr : smallT ts) (hn : ts.length ≤ 1000000000) (hi : inI64 x) (hd : inI64 d) :
    Calls Tryz.prog 31 #[v, .int .i64 x, .int .i64 d] w fun e w' => ∃ v', e = .returned v' ∧ Terms (New w w') w' v' (ofP (coefA (plainP ts) x d)) ∧ Ext w w' := by
  by_cases hx : 1 ≤ x ∧ x ≤ 200
  · have := view_coefficient v ts x d w h hS hr hn hx hd
    unfold coefA
    rw [if_pos hx]
    exact this
  · have hmf : ∀ (fn : Fn) (first cap : Array Value) (w : World), (Instr.makeFunc fn first cap).run Tryz.prog w = .ok (.func fn first cap) w := fun _ _ _ _ => rfl
    have hK : Ext w ((w.alloc (.cells #[.int .i64 x] 3)).alloc (.cells #[.int .i64 d] 3)) := (Ext.alloc (Ext.refl w) _).alloc _
    have c1 : ((w.alloc (.cells #[.int .i64 x] 3)).alloc (.cells #[.int .i64 d] 3)).cell? ⟨w.heap.size, 0, none⟩ = some (.int .i64 x) := cell_old _ (cell_new _ _ _ rfl rfl)
    have c2 : ((w.alloc (.cells #[.int .i64 x] 3)).alloc (.cells #[.int .i64 d] 3)).cell? ⟨w.heap.size + 1, 0, none⟩ = some (.int .i64 d) := cell_new _ _ _ (by rw [size_alloc]) rfl
    have HC := hid (view_picked (S := S) 72 #[.pointer (some ⟨w.heap.size, 0, none⟩), .pointer (some ⟨w.heap.size + 1, 0, none⟩)] (enters_of Tryz.func72 (by kernel_rfl) rfl) (fun _ => none) v ts _ (h.ext hK hS) (lt_ext hS hK) hr hn (picks_coef_no _ x d _ _ hx hi c1 c2))
    rw [none_pick] at HC
    unfold coefA
    rw [if_neg hx]
    have HK := hid hK
    obtain ⟨A, c, rfl⟩ := h.form
    clear h hS hr hn hx hd hK c1 c2 hi
    go_enter Tryz.func31, Tryz.ntmps31
    go_wp2_with fail
    with_reducible refine HC.out.mono ?_
    rintro e w1 ⟨v1, rfl, hp1, hx1⟩
    have HP1 := hid (hp1.to (S' := New w w1) (Kept.refl _ _) (fun k h => ⟨Nat.le_trans HK.out.size h.1, h.2⟩))
    have HX1 := hid (HK.out.trans hx1)
    clear hp1 hx1
    go_wp2
    all_goals
      go_ret
      exact ⟨_, rfl, HP1.out, HX1.out⟩

theorem nine_20 : (1 + 1000) * (10000 * B32 ^ 20) < 10 ^ 250 := by unfold B32; decide
theorem fit_nine {p : PZ} {n : Nat} (h : Fit 20 n p) (hn : n ≤ 1000) : Sz9 p := ⟨1000, B32 ^ 20, 250, ⟨Nat.le_trans h.2.2 hn, fun t ht => Nat.le_of_lt (h.2.1 t ht)⟩, by omega, nine_20, by omega⟩
theorem may_lens {p : PZ} (h : mayAll p) : ∀ t ∈ p, t.2.length ≤ 1000000 := fun t ht => Nat.le_trans (mayM_len (h t ht)) (by decide)
/-- the derivative, 0 by a variable that is none -/
theorem der_none_var {p : PZ} (h : mayAll p) {x : Int} (hx : ¬ (1 ≤ x ∧ x ≤ 200)) : derP p x = [] := by
  unfold derP
  rw [List.filterMap_eq_nil_iff]
  intro t ht
  have h0 : ex t.2 x = 0 := by
    have := ex_nonneg (h t ht) x
    rcases Int.lt_or_eq_of_le this with g | g
    · exact absurd (ex_pos_var (h t ht) g) hx
    · exact g.symm
  unfold derF
  rw [if_pos h0]
theorem deg_none_var {p : PZ} (h : mayAll p) {x : Int} (hx : ¬ (1 ≤ x ∧ x ≤ 200)) : degP p x = 0 := degP_none (fun t ht => by
  have := ex_nonneg (h t ht) x
  rcases Int.lt_or_eq_of_le this with g | g
  · exact absurd (ex_pos_var (h t ht) g) hx
  · exact g.symm)
end Go.Proofs.YthplgldclilccaaGreat

namespace Go.Proofs.YthplgldclilccaaGreat
open Go.RowKit

set_option maxRecDepth 100000 in
set_option maxHeartbeats 8000000 in
theorem rpoly_copy {S : Nat → Prop} (v : Value) (p : List RTerm) (w : World) (h : Terms S w v p) (hS : ∀ k, S k → k < w.heap.size) (hn : p.length ≤ 1000000) (hml : ∀ t ∈ p, t.c.mag.length ≤ 1000000 ∧ t.m.length ≤ 1000000) :
    Calls Tryz.prog 10 #[v] w fun e w' => ∃ v', e = .returned v' ∧ Terms (New w w') w' v' p ∧ Ext w w' := by
  obtain ⟨u0, hu, uz0, uz1, uz2⟩ := info_parts Tryz.infoU32
  obtain ⟨i0, hi, hz0, hz1, hz2⟩ := info_parts Tryz.infoPower
  obtain ⟨j0, hj, jz0, jz1, jz2⟩ := info_parts Tryz.infoTerm
  have hl := h.len_le
  have H := hid h
  have HN := hid hn
  have HML := hid hml
  obtain ⟨a, cap, rfl⟩ := h.form
  clear h hn hml
  go_enter Tryz.func10, Tryz.ntmps10
  go_wp2
  go_loopw [3, 4] (fun o i wr => ∃ k xs, k ≤ p.length ∧ i = .int .i64 (k : Nat) ∧ Ext w wr ∧ Hid (wr.ownsRow w.heap.size 76 3 o k xs) ∧ Hid (CellsT (NewOff w wr o) wr xs (p.take k))) (fun _ i _ => p.length - (intOf i).toNat)
  case atStart => exact ⟨0, [], Nat.zero_le _, rfl, Ext.refl _, hid (World.ownsRow_nil _ _ _ _), hid rfl⟩
  case round =>
    obtain ⟨k, xs, hk, rfl, hx, HW, HXS⟩ := hrel
    have HX := hid hx
    by_cases hlt : k < p.length
    · obtain ⟨t, ht⟩ := some_of_lt hlt
      obtain ⟨b, off, vd, vo, rfl, -, hn1, hm1, hSb, h1, h2, h3, h4, h5⟩ := H.out.cellAt ht
      have HT := hid (show p.take (k + 1) = p.take k ++ [t] by rw [List.take_add_one, ht]; rfl)
      have HTM := hid (HML.out t (List.mem_of_getElem? ht))
      have H4 := hid h4
      have H5 := hid h5
      have HIB := hid h5.inBounds
      obtain ⟨ad, cd, rfl⟩ := h4.form
      obtain ⟨ao, co, rfl⟩ := h5.form
      have x0 : Ext w wr.drew := hx.drew
      have HX0 := hid x0
      have HXR := hid ((Ext.refl wr).drew)
      have h0 : _ ∧ _ ∧ _ := And.intro h1 (And.intro h2 h3)
      obtain ⟨nd, hnd⟩ : ∃ n, n = t.c.mag.length := ⟨_, rfl⟩
      obtain ⟨nm, hnm⟩ : ∃ n, n = t.m.length := ⟨_, rfl⟩
      obtain ⟨ng, hng⟩ : ∃ b, b = t.c.neg := ⟨_, rfl⟩
      rw [← hnd, ← hnm, ← hng] at h0
      rw [← hnm] at H5
      rw [← hnd] at H4
      have HND := hid hnd
      have HNM := hid hnm
      have HNG := hid hng
      have HC0 := hid h0
      have S0 : _ ∧ _ ∧ _ := And.intro (x0.cell h0.1) (And.intro (x0.cell h0.2.1) (x0.cell h0.2.2))
      have HA1 : Hid (nd ≤ maxLen) := hid (by have := HTM.out.1; unfold maxLen; omega)
      have HA2 : Hid (nd * 4 ≤ 140737488355328) := hid (by have := HTM.out.1; omega)
      have HB1 : Hid (nm ≤ maxLen) := hid (by have := HTM.out.2; unfold maxLen; omega)
      have HB2 : Hid (nm * 16 ≤ 140737488355328) := hid (by have := HTM.out.2; omega)
      have HB3 : Hid (k + 1 ≤ maxLen) := hid (by have := HN.out; unfold maxLen; omega)
      have HB4 : Hid ((k + 1) * 56 ≤ 140737488355328) := hid (by have := HN.out; omega)
      have HWR := hid (own_ext HW.out HXR.out)
      have HXSR := hid (newOff_ext HXS.out HXR.out)
      have HUB := hid h4.lt
      have HSU := hid (fun (W : World) (hW : Ext w W) => (H4.out.ext hW hS).src0.2)
      have HSP := hid (fun (W : World) (hW : Ext w W) => (Pows.ext' H5.out hW hS).src.2)
      clear ht h0 h1 h2 h3 h4 h5 hx x0 hnd hnm hng
      go_wp2
      go_region_held3 (fun W => W.cell? ⟨b, off + k * 3, none⟩ = some (.bool ng) ∧ W.cell? ⟨b, off + k * 3 + 1, none⟩ = some (.slice ad nd cd) ∧ W.cell? ⟨b, off + k * 3 + 2, none⟩ = some (.slice ao nm co)) (first | exact S0 | exact ⟨cell_old _ S0.1, cell_old _ S0.2.1, cell_old _ S0.2.2⟩ | exact ⟨cell_old _ (cell_old _ S0.1), cell_old _ (cell_old _ S0.2.1), cell_old _ (cell_old _ S0.2.2)⟩ | exact S1 | exact ⟨cell_old _ S1.1, cell_old _ S1.2.1, cell_old _ S1.2.2⟩ | exact S3 | exact ⟨cell_old _ S3.1, cell_old _ S3.2.1, cell_old _ S3.2.2⟩ | exact S5)
        (first
          | (refine step_append_copy rfl (.tmp 18) (.tmp 24) 70 rfl 111 u0 (.int .u32 0) 1 4 Tryz.underlying70 hu uz0 uz1 uz2 rfl (Nat.succ_pos _) _ rfl ad nd cd (t.c.mag.map uval) rfl (HSU.out _ (by first | exact HX0.out.alloc _ | exact (HX0.out.alloc _).alloc _)) HA1.out HA2.out ?_; intro v1 w1 hx1' hv1
             have q := copied_u32 hv1 HND.out HUB.out; obtain ⟨a1, c1, rfl, hu1⟩ := q
             have hx1 : Ext wr.drew w1 := by first | exact (Ext.alloc (Ext.refl wr.drew) _).trans hx1' | exact ((Ext.alloc (Ext.refl wr.drew) _).alloc _).trans hx1'
             have HU1 : Hid (U32s (New wr.drew w1) w1 (.slice a1 nd c1) t.c.mag) := hid (hu1.to (Kept.refl _ _) (fun k h => ⟨Nat.le_trans (by first | exact (Ext.alloc (Ext.refl wr.drew) _).size | exact ((Ext.alloc (Ext.refl wr.drew) _).alloc _).size) h.1, h.2⟩))
             have HX1 := hid hx1; have HXW1 : Hid (Ext w w1) := hid (HX0.out.trans hx1); have S1 : _ ∧ _ ∧ _ := And.intro (HXW1.out.cell HC0.out.1) (And.intro (HXW1.out.cell HC0.out.2.1) (HXW1.out.cell HC0.out.2.2)); clear hx1 hx1' hv1 hu1)
          | (refine step_append_copy rfl (.tmp 27) (.tmp 32) 74 rfl 104 i0 (.agg #[.int .i64 0, .int .i64 0]) 2 16 Tryz.underlying74 hi hz0 hz1 hz2 rfl (Nat.succ_pos _) _ rfl ao nm co (flatP t.m) rfl (HSP.out _ (by first | exact HXW1.out | exact HXW1.out.alloc _)) HB1.out HB2.out ?_; intro v3 w3 hx3' hv3
             have q := copied_pows hv3 HNM.out HIB.out; obtain ⟨a3, c3, rfl, hp3⟩ := q
             have hx3 : Ext w1 w3 := by first | exact hx3' | exact (Ext.alloc (Ext.refl w1) _).trans hx3'
             have HXR3 : Hid (Ext wr.drew w3) := hid (HX1.out.trans hx3)
             have HP3 : Hid (Pows (New wr.drew w3) w3 (.slice a3 nm c3) t.m) := hid (hp3.to (Kept.refl _ _) (fun k h => ⟨Nat.le_trans (by first | exact HX1.out.size | exact (HX1.out.alloc _).size) h.1, h.2⟩))
             have HU3 : Hid (U32s (New wr.drew w3) w3 (.slice a1 nd c1) t.c.mag) := hid (HU1.out.to (Kept.ext hx3 (fun _ h => h.2)) (fun k h => ⟨h.1, Nat.lt_of_lt_of_le h.2 hx3.size⟩))
             clear hx3 hx3' hv3 hp3; have HXW3 : Hid (Ext w w3) := hid (HX0.out.trans HXR3.out); have S3 : _ ∧ _ ∧ _ := And.intro (HXW3.out.cell HC0.out.1) (And.intro (HXW3.out.cell HC0.out.2.1) (HXW3.out.cell HC0.out.2.2)); have HW3 := hid (own_ext (own_ext HWR.out HXR3.out) (Ext.alloc (Ext.refl w3) (.cells #[.bool ng, .slice a1 nd c1, .slice a3 nm c3] 76))); have HXS3 := hid (newOff_ext HXSR.out HXR3.out); have HSRC3 := hid (src_one w3 #[.bool ng, .slice a1 nd c1, .slice a3 nm c3] 76 (three_cell rfl rfl rfl) rfl); have HB5 := hid (Nat.le_trans HXW3.out.size (World.grownBy_alloc w3 (.cells #[.bool ng, .slice a1 nd c1, .slice a3 nm c3] 76) none).size))
          | (refine step_append_src rfl (.tmp 11) (.tmp 35) 26 rfl w.heap.size 76 j0 (.agg #[.bool false, .slice none 0 0, .slice none 0 0]) 3 56 Tryz.underlying26 hj jz0 jz1 jz2 rfl (Nat.succ_pos _) _ k xs rfl HW3.out (some ⟨w3.heap.size, 0, none⟩) 1 1 _ rfl HSRC3.out HB3.out HB4.out HB5.out ?_; intro v5 w5 hown hg hbk; have HW5 := hid hown; have HG5 := hid hg; have HBK := hid hbk; have HX5 := hid (own_grown0 (HXW3.out.alloc (.cells #[.bool ng, .slice a1 nd c1, .slice a3 nm c3] 76)) HW3.out hg); have S5 : _ ∧ _ ∧ _ := And.intro (HX5.out.cell HC0.out.1) (And.intro (HX5.out.cell HC0.out.2.1) (HX5.out.cell HC0.out.2.2)); clear hown hg hbk))
      all_goals
        go_wp2
        go_roundw
        case rel =>
          refine ⟨k + 1, xs ++ (#[.bool ng, .slice a1 nd c1, .slice a3 nm c3] : Array Value).toList, by omega, by go_num, HX5.out, HW5, hid ?_⟩
          rw [HT.out]
          have hone : CellsT (New wr.drew w3) w3 (#[.bool ng, .slice a1 nd c1, .slice a3 nm c3] : Array Value).toList [t] := by
            rw [HNG.out]
            exact CellsT.single (t := t) HU3.out HP3.out
          have hall := HXS3.out.append (newOff_of HX0.out.size HWR.out hone)
          exact newOff_grown (newOff_ext hall (Ext.alloc (Ext.refl w3) (.cells #[.bool ng, .slice a1 nd c1, .slice a3 nm c3] 76))) HG5.out HBK.out (Nat.le_refl _)
        case measure => simp only [intOf]; omega
    · obtain rfl : k = p.length := by omega
      have HE : Hid (p.take p.length = p) := hid List.take_length
      clear hx
      go_wp2
      go_ret
      refine ⟨_, rfl, ?_, HX.out⟩
      have hc := HXS.out
      rw [HE.out] at hc
      exact own_terms HW.out (hc.to (Kept.refl _ _) (fun _ h => h.1)) (fun k h1 h2 => ⟨h1, h2⟩)
end Go.Proofs.YthplgldclilccaaGreat

namespace Go.Proofs.YthplgldclilccaaGreat
open Go.RowKit

set_option maxRecDepth 100000 in
set_option maxHeartbeats 1000000 in
theorem rsame01 {S : Nat → Prop} (va vb : Value) (xs ys : List Nat) (w : World) (ha : U32s S w va xs) (hb : U32s S w vb ys) (hS : ∀ k, S k → k < w.heap.size) :
    Calls Tryz.prog 101 #[va, vb] w fun e w' => e = .returned (.bool (decide (xs = ys))) ∧ Ext w w' := by
  have HA := hid ha
  have HB := hid hb
  have hla := ha.len_le
  have hlb := hb.len_le
  obtain ⟨aa, ca, rfl⟩ := ha.form
  obtain ⟨ab, cb, rfl⟩ := hb.form
  obtain ⟨na, hna⟩ : ∃ n, n = xs.length := ⟨_, rfl⟩
  obtain ⟨nb, hnb⟩ : ∃ n, n = ys.length := ⟨_, rfl⟩
  rw [← hna] at HA hla ⊢
  rw [← hnb] at HB hlb ⊢
  have HNA := hid hna
  have HNB := hid hnb
  clear ha hb hna hnb
  by_cases hne : na = nb
  · subst hne
    go_enter Tryz.func101, Tryz.ntmps101
    go_wp2
    go_loopw [5] (fun i wr => ∃ k : Nat, k ≤ na ∧ i = .int .i64 k ∧ Ext w wr ∧ Hid (xs.take k = ys.take k)) (fun i _ => na - (intOf i).toNat)
    case atStart => exact ⟨0, Nat.zero_le _, rfl, Ext.refl _, rfl⟩
    case round =>
      obtain ⟨k, hk, rfl, hx, HE⟩ := hrel
      have HX := hid hx
      by_cases hlt : k < na
      · obtain ⟨x, hxk⟩ := some_of_lt (l := xs) (j := k) (by rw [← HNA.out]; exact hlt)
        obtain ⟨y, hyk⟩ := some_of_lt (l := ys) (j := k) (by rw [← HNB.out]; exact hlt)
        obtain ⟨b1, o1, rfl, -, hc1, hm1, hz1, h1⟩ := (HA.out.ext hx hS).cellAt hxk
        obtain ⟨b2, o2, rfl, -, hc2, hm2, hz2, h2⟩ := (HB.out.ext hx hS).cellAt hyk
        have HXK := hid hxk
        have HYK := hid hyk
        clear hxk hyk hx
        by_cases he : x = y
        · have q1 : ((x : Int) != (y : Int)) = false := by rw [he]; simp
          have H0 := hid he
          clear he
          go_wp2
          go_quiet (fail)
          go_wp2
          go_roundw
          case rel => exact ⟨k + 1, by omega, by go_num, HX.out.drewN _, take_eq_succ HE.out HXK.out (by rw [H0.out]; exact HYK.out)⟩
          case measure => simp only [intOf]; omega
        · have q1 : ((x : Int) != (y : Int)) = true := by rw [bne_iff_ne]; omega
          have HF : Hid (xs ≠ ys) := hid (ne_of_at HXK.out HYK.out he)
          clear he
          go_wp2
          go_quiet (fail)
          go_wp2
          go_ret
          exact ⟨by rw [decide_eq_false HF.out]; rfl, HX.out.drewN _⟩
      · obtain rfl : k = na := by omega
        have HF : Hid (xs = ys) := hid (by have := HE.out; rwa [List.take_of_length_le (by rw [← HNA.out]; exact Nat.le_refl _), List.take_of_length_le (by rw [← HNB.out]; exact Nat.le_refl _)] at this)
        clear hx
        go_wp2
        go_ret
        exact ⟨by rw [decide_eq_true HF.out]; rfl, HX.out⟩
  · have hb : ((na : Int) != (nb : Int)) = true := by rw [bne_iff_ne]; omega
    have HF : Hid (xs ≠ ys) := hid (fun e => hne (by rw [HNA.out, HNB.out, e]))
    clear hne
    go_enter Tryz.func101, Tryz.ntmps101
    go_wp2
    go_ret
    exact ⟨by rw [decide_eq_false HF.out]; rfl, Ext.refl _⟩
set_option maxRecDepth 100000 in
set_option maxHeartbeats 1000000 in
theorem rsame07 {S : Nat → Prop} (va vb : Value) (xs ys : Mono) (w : World) (ha : Pows S w va xs) (hb : Pows S w vb ys) (hS : ∀ k, S k → k < w.heap.size) :
    Calls Tryz.prog 56 #[va, vb] w fun e w' => e = .returned (.bool (decide (xs = ys))) ∧ Ext w w' := by
  have HA := hid ha
  have HB := hid hb
  have hla := ha.len_le
  have hlb := hb.len_le
  obtain ⟨aa, ca, rfl⟩ := ha.form
  obtain ⟨ab, cb, rfl⟩ := hb.form
  obtain ⟨na, hna⟩ : ∃ n, n = xs.length := ⟨_, rfl⟩
  obtain ⟨nb, hnb⟩ : ∃ n, n = ys.length := ⟨_, rfl⟩
  rw [← hna] at HA hla ⊢
  rw [← hnb] at HB hlb ⊢
  have HNA := hid hna
  have HNB := hid hnb
  clear ha hb hna hnb
  by_cases hne : na = nb
  · subst hne
    go_enter Tryz.func56, Tryz.ntmps56
    go_wp2
    go_loopw [5] (fun i wr => ∃ k : Nat, k ≤ na ∧ i = .int .i64 k ∧ Ext w wr ∧ Hid (xs.take k = ys.take k)) (fun i _ => na - (intOf i).toNat)
    case atStart => exact ⟨0, Nat.zero_le _, rfl, Ext.refl _, rfl⟩
    case round =>
      obtain ⟨k, hk, rfl, hx, HE⟩ := hrel
      have HX := hid hx
      by_cases hlt : k < na
      · obtain ⟨x, hxk⟩ := some_of_lt (l := xs) (j := k) (by rw [← HNA.out]; exact hlt)
        obtain ⟨y, hyk⟩ := some_of_lt (l := ys) (j := k) (by rw [← HNB.out]; exact hlt)
        obtain ⟨b1, o1, c1', hv1, hc1, hm1, ⟨⟨hz1, hz2⟩, hz3, hz4⟩, h1, h1'⟩ := (HA.out.ext hx hS).at hxk
        obtain ⟨rfl, -, rfl⟩ : aa = some ⟨b1, o1, none⟩ ∧ na = xs.length ∧ ca = c1' := by simpa using hv1
        obtain ⟨b2, o2, c2', hv2, hc2, hm2, ⟨⟨hy1, hy2⟩, hy3, hy4⟩, h2, h2'⟩ := (HB.out.ext hx hS).at hyk
        obtain ⟨rfl, -, rfl⟩ : ab = some ⟨b2, o2, none⟩ ∧ na = ys.length ∧ cb = c2' := by simpa using hv2
        clear hv1 hv2
        rw [← HNA.out] at hc1
        rw [← HNB.out] at hc2
        have HXK := hid hxk
        have HYK := hid hyk
        clear hxk hyk hx
        by_cases he : x = y
        · have H0 := hid he
          obtain ⟨x1, x2⟩ := x
          obtain ⟨y1, y2⟩ := y
          obtain ⟨rfl, rfl⟩ : x1 = y1 ∧ x2 = y2 := by simpa using he
          simp only at h1 h1' h2 h2' hz1 hz2 hz3 hz4 hy1 hy2 hy3 hy4
          clear he
          go_wp2
          go_quiet (fail)
          go_wp2
          go_roundw
          case rel => exact ⟨k + 1, by omega, by go_num, HX.out.drewN _, take_eq_succ HE.out HXK.out HYK.out⟩
          case measure => simp only [intOf]; omega
        · have HF : Hid (xs ≠ ys) := hid (ne_of_at HXK.out HYK.out he)
          obtain ⟨x1, x2⟩ := x
          obtain ⟨y1, y2⟩ := y
          simp only at h1 h1' h2 h2' hz1 hz2 hz3 hz4 hy1 hy2 hy3 hy4
          have he' : x1 ≠ y1 ∨ (x1 = y1 ∧ x2 ≠ y2) := by
            by_cases h : x1 = y1
            · exact .inr ⟨h, fun h' => he (by rw [h, h'])⟩
            · exact .inl h
          clear he
          rcases he' with he | ⟨rfl, he⟩
          all_goals
            go_wp2
            go_quiet (fail)
            go_wp2
            go_ret
            exact ⟨by rw [decide_eq_false HF.out]; rfl, HX.out.drewN _⟩
      · obtain rfl : k = na := by omega
        have HF : Hid (xs = ys) := hid (by have := HE.out; rwa [List.take_of_length_le (by rw [← HNA.out]; exact Nat.le_refl _), List.take_of_length_le (by rw [← HNB.out]; exact Nat.le_refl _)] at this)
        clear hx
        go_wp2
        go_ret
        exact ⟨by rw [decide_eq_true HF.out]; rfl, HX.out⟩
  · have hb : ((na : Int) != (nb : Int)) = true := by rw [bne_iff_ne]; omega
    have HF : Hid (xs ≠ ys) := hid (fun e => hne (by rw [HNA.out, HNB.out, e]))
    clear hne
    go_enter Tryz.func56, Tryz.ntmps56
    go_wp2
    go_ret
    exact ⟨by rw [decide_eq_false HF.out]; rfl, Ext.refl _⟩

set_option maxRecDepth 100000 in
set_option maxHeartbeats 2000000 in
theorem rsame04 {S : Nat → Prop} (v1 v2 : Value) (sn tn : Bool) (sm tm : List Nat) (w : World) (h1 : U32s S w v1 sm) (h2 : U32s S w v2 tm) (hS : ∀ k, S k → k < w.heap.size) :
    Calls Tryz.prog 55 #[.agg #[.bool sn, v1], .agg #[.bool tn, v2]] w fun e w' => e = .returned (.bool (decide (sn = tn) && decide (sm = tm))) ∧ Ext w w' := by
  have CU := fun (W : World) (hW : Ext w W) => rsame01 _ _ sm tm W (h1.ext hW hS) (h2.ext hW hS) (lt_ext hS hW)
  obtain ⟨a1, c1, rfl⟩ := h1.form
  obtain ⟨a2, c2, rfl⟩ := h2.form
  have hx : Ext w ((w.alloc (.cells #[.bool sn, .slice a1 sm.length c1] 72)).alloc (.cells #[.bool tn, .slice a2 tm.length c2] 72)) := Ext.alloc (Ext.alloc (Ext.refl w) _) _
  have HX := hid hx
  clear h1 h2 hx
  by_cases hs : sn = tn
  · subst hs
    cases hm : decide (sm = tm) with
    | false =>
      simp only [hm] at CU
      have HCU := hid CU
      clear CU hm
      go_enter Tryz.func55, Tryz.ntmps55
      go_wp2_with fail
      with_reducible refine (HCU.out _ HX.out).mono ?_
      rintro e w1 ⟨rfl, hx1⟩
      have HX1 := hid (HX.out.trans hx1)
      clear hx1
      go_wp2
      all_goals
        go_ret
        exact ⟨by simp, HX1.out⟩
    | true =>
      simp only [hm] at CU
      have HCU := hid CU
      clear CU hm
      go_enter Tryz.func55, Tryz.ntmps55
      go_wp2_with fail
      with_reducible refine (HCU.out _ HX.out).mono ?_
      rintro e w1 ⟨rfl, hx1⟩
      have HX1 := hid (HX.out.trans hx1)
      clear hx1
      go_wp2
      all_goals
        go_ret
        exact ⟨by simp, HX1.out⟩
  · have hb : (sn == tn) = false := by rw [beq_eq_false_iff_ne]; exact hs
    have HF := hid (decide_eq_false hs)
    clear hs CU
    go_enter Tryz.func55, Tryz.ntmps55
    go_wp2
    all_goals
      go_ret
      exact ⟨by rw [HF.out]; simp, HX.out⟩

set_option maxRecDepth 100000 in
set_option maxHeartbeats 4000000 in
theorem rpoly_same {S : Nat → Prop} (va vb : Value) (xs ys : List RTerm) (w : World) (ha : Terms S w va xs) (hb : Terms S w vb ys) (hS : ∀ k, S k → k < w.heap.size) :
    Calls Tryz.prog 16 #[va, vb] w fun e w' => e = .returned (.bool (decide (xs = ys))) ∧ Ext w w' := by
  have HA := hid ha
  have HB := hid hb
  have hla := ha.len_le
  have hlb := hb.len_le
  obtain ⟨aa, ca, rfl⟩ := ha.form
  obtain ⟨ab, cb, rfl⟩ := hb.form
  obtain ⟨na, hna⟩ : ∃ n, n = xs.length := ⟨_, rfl⟩
  obtain ⟨nb, hnb⟩ : ∃ n, n = ys.length := ⟨_, rfl⟩
  rw [← hna] at HA hla ⊢
  rw [← hnb] at HB hlb ⊢
  have HNA := hid hna
  have HNB := hid hnb
  clear ha hb hna hnb
  by_cases hne : na = nb
  · subst hne
    go_enter Tryz.func16, Tryz.ntmps16
    go_wp2
    go_loopw [5] (fun i wr => ∃ k : Nat, k ≤ na ∧ i = .int .i64 k ∧ Ext w wr ∧ Hid (xs.take k = ys.take k)) (fun i _ => na - (intOf i).toNat)
    case atStart => exact ⟨0, Nat.zero_le _, rfl, Ext.refl _, rfl⟩
    case round =>
      obtain ⟨k, hk, rfl, hx, HE⟩ := hrel
      have HX := hid hx
      by_cases hlt : k < na
      · obtain ⟨x, hxk⟩ := some_of_lt (l := xs) (j := k) (by rw [← HNA.out]; exact hlt)
        obtain ⟨y, hyk⟩ := some_of_lt (l := ys) (j := k) (by rw [← HNB.out]; exact hlt)
        obtain ⟨b1, o1, v1, v2, rfl, -, hc1, hm1, hz1, h1, h2, h3, h4, h5⟩ := (HA.out.ext hx hS).cellAt hxk
        obtain ⟨b2, o2, v3, v4, rfl, -, hc2, hm2, hz2, g1, g2, g3, g4, g5⟩ := (HB.out.ext hx hS).cellAt hyk
        have HXK := hid hxk
        have HYK := hid hyk
        obtain ⟨⟨xn, xm⟩, xo⟩ := x
        obtain ⟨⟨yn, ym⟩, yo⟩ := y
        simp only at h1 h2 h3 h4 h5 g1 g2 g3 g4 g5
        have hSr := lt_ext hS hx
        have C4 := fun Y : Later wr => rsame04 (S := S) v1 v3 xn yn xm ym Y.w' (h4.ext Y.h hSr) (g4.ext Y.h hSr) (lt_ext hSr Y.h)
        have C7 := fun Y : Later wr => rsame07 (S := S) v2 v4 xo yo Y.w' (h5.ext Y.h hSr) (g5.ext Y.h hSr) (lt_ext hSr Y.h)
        have L1 := fun Y : Later wr => Y.h.cell h1
        have L2 := fun Y : Later wr => Y.h.cell h2
        have L3 := fun Y : Later wr => Y.h.cell h3
        have M1 := fun Y : Later wr => Y.h.cell g1
        have M2 := fun Y : Later wr => Y.h.cell g2
        have M3 := fun Y : Later wr => Y.h.cell g3
        obtain ⟨a1, c1, rfl⟩ := h4.form
        obtain ⟨a2, c2, rfl⟩ := h5.form
        obtain ⟨a3, c3, rfl⟩ := g4.form
        obtain ⟨a4, c4, rfl⟩ := g5.form
        have hlen : Hid (xs.length = na ∧ ys.length = na) := hid ⟨HNA.out.symm, HNB.out.symm⟩
        have q1 : (k : Int) < (na : Int) := by omega
        clear h1 h2 h3 h4 h5 g1 g2 g3 g4 g5 hxk hyk hx hSr
        cases hd4 : (decide (xn = yn) && decide (xm = ym)) with
        | false =>
          have HF : Hid (xs ≠ ys) := hid (ne_of_at HXK.out HYK.out (fun e => by
            simp at e
            obtain ⟨⟨e1, e2⟩, e3⟩ := e
            rw [e1, e2] at hd4
            simp at hd4))
          simp only [hd4] at C4
          have HC4 := hid C4
          have HC7 := hid C7
          clear C4 C7 hd4
          go_wp2
          refine wp_region_later (by kernel_rfl) (by kernel_rfl) ?_
          repeat (go_big_quiet_step (first | (go_at_call 55; exact Later.done (HC4.out _))))
          refine wpQuiet_nil ?_
          intro W2 hW2
          have HW2 := hid (HX.out.trans hW2)
          clear L1 L2 L3 M1 M2 M3 hW2
          go_wp2
          go_ret
          exact ⟨by rw [decide_eq_false HF.out]; rfl, HW2.out⟩
        | true =>
          have HE4 := hid hd4
          simp only [hd4] at C4
          have HC4 := hid C4
          clear C4 hd4
          cases hd7 : decide (xo = yo) with
          | false =>
            have HF : Hid (xs ≠ ys) := hid (ne_of_at HXK.out HYK.out (fun e => by
              simp at e
              obtain ⟨⟨e1, e2⟩, e3⟩ := e
              rw [e3] at hd7
              simp at hd7))
            simp only [hd7] at C7
            have HC7 := hid C7
            clear C7 hd7
            go_wp2
            refine wp_region_later (by kernel_rfl) (by kernel_rfl) ?_
            repeat (go_big_quiet_step (first | (go_at_call 55; exact Later.done (HC4.out _)) | (go_at_call 56; exact Later.done (HC7.out _))))
            refine wpQuiet_nil ?_
            intro W2 hW2
            have HW2 := hid (HX.out.trans hW2)
            clear L1 L2 L3 M1 M2 M3 hW2
            go_wp2
            go_ret
            exact ⟨by rw [decide_eq_false HF.out]; rfl, HW2.out⟩
          | true =>
            have HF : Hid (xs.take (k + 1) = ys.take (k + 1)) := hid (take_eq_succ HE.out HXK.out (by
              have h4 := HE4.out
              simp at h4 hd7
              rw [h4.1, h4.2, hd7]
              exact HYK.out))
            simp only [hd7] at C7
            have HC7 := hid C7
            clear C7 hd7
            go_wp2
            refine wp_region_later (by kernel_rfl) (by kernel_rfl) ?_
            repeat (go_big_quiet_step (first | (go_at_call 55; exact Later.done (HC4.out _)) | (go_at_call 56; exact Later.done (HC7.out _))))
            refine wpQuiet_nil ?_
            intro W2 hW2
            have HW2 := hid (HX.out.trans hW2)
            clear L1 L2 L3 M1 M2 M3 hW2
            go_wp2
            go_roundw
            case rel => exact ⟨k + 1, by omega, by go_num, HW2.out, HF⟩
            case measure => simp only [intOf]; omega
      · obtain rfl : k = na := by omega
        have HF : Hid (xs = ys) := hid (by have := HE.out; rwa [List.take_of_length_le (by rw [← HNA.out]; exact Nat.le_refl _), List.take_of_length_le (by rw [← HNB.out]; exact Nat.le_refl _)] at this)
        clear hx
        go_wp2
        go_ret
        exact ⟨by rw [decide_eq_true HF.out]; rfl, HX.out⟩
  · have hb : ((na : Int) != (nb : Int)) = true := by rw [bne_iff_ne]; omega
    have HF : Hid (xs ≠ ys) := hid (fun e => hne (by rw [HNA.out, HNB.out, e]))
    clear hne
    go_enter Tryz.func16, Tryz.ntmps16
    go_wp2
    go_ret
    exact ⟨by rw [decide_eq_false HF.out]; rfl, Ext.refl _⟩
end Go.Proofs.YthplgldclilccaaGreat

namespace Go.Proofs.YthplgldclilccaaGreat
open Go.RowKit

def tinyP (p : PZ) : Bool := decide (p.length ≤ 10) && p.all fun t => decide (t.1.natAbs ≤ 100) && mayM t.2
theorem tiny_bnd {p : PZ} (h : tinyP p = true) : bndP p 10 100 := by
  unfold tinyP at h
  simp only [Bool.and_eq_true, decide_eq_true_eq, List.all_eq_true] at h
  exact ⟨h.1, fun t ht => (h.2 t ht).1⟩
theorem tiny_may {p : PZ} (h : tinyP p = true) : mayAll p := by
  unfold tinyP at h
  simp only [Bool.and_eq_true, decide_eq_true_eq, List.all_eq_true] at h
  exact fun t ht => (h.2 t ht).2
theorem tiny_sz {p : PZ} (h : tinyP p = true) : szP p := sz_of_bnd (tiny_bnd h) (n := 3) (by omega) (by decide) (by omega)
theorem tiny_add {p q : PZ} (hp : tinyP p = true) (hq : tinyP q = true) (k : Nat) (_ : k ≤ q.length) : szP (addP p (q.take k)) := by
  have h1 := addP_bnd (l := q.take k) (N := 100) (tiny_bnd hp) (fun t ht => (tiny_bnd hq).2 t (List.mem_of_mem_take ht))
  have h2 : (q.take k).length ≤ 10 := Nat.le_trans (by rw [List.length_take]; omega) (tiny_bnd hq).1
  refine sz_of_bnd h1 (n := 5) (by omega) ?_ (by omega)
  have : (q.take k).length * 100 ≤ 10 * 100 := Nat.mul_le_mul_right _ h2
  omega
theorem tiny_mul {p q : PZ} (hp : tinyP p = true) (hq : tinyP q = true) : szM p q := by
  obtain ⟨a1, a2⟩ := tiny_bnd hp
  obtain ⟨b1, b2⟩ := tiny_bnd hq
  have h1 : p.length * q.length ≤ 10 * 10 := Nat.mul_le_mul a1 b1
  refine ⟨10000, 7, fun t ht u hu => ?_, by omega, ?_, by omega⟩
  · rw [Int.natAbs_mul]
    exact Nat.mul_le_mul (a2 t ht) (b2 u hu)
  · have : p.length * q.length * 10000 ≤ 100 * 10000 := Nat.mul_le_mul_right _ h1
    omega
theorem tiny_small {p : PZ} (h : tinyP p = true) : smallT (ofP p) := fun t ht => by
  obtain ⟨u, hu, rfl⟩ := List.mem_map.1 ht
  have h1 := (tiny_bnd h).2 u hu
  show (ofI u.1).mag.length ≤ _
  rw [ofI_len]
  exact Nat.le_trans (lenI_lt (k := 1) (by show u.1.natAbs < 4294967296 ^ 1; omega)) (by omega)
theorem tiny_lens {p : PZ} (h : tinyP p = true) : ∀ t ∈ ofP p, t.c.mag.length ≤ 1 := fun t ht => by
  obtain ⟨u, hu, rfl⟩ := List.mem_map.1 ht
  have h1 := (tiny_bnd h).2 u hu
  show (ofI u.1).mag.length ≤ _
  rw [ofI_len]
  exact lenI_lt (k := 1) (by show u.1.natAbs < 4294967296 ^ 1; omega)
abbrev k9X : PZ := [(1, [(1, 1)])]
abbrev k9Y : PZ := [(1, [(2, 1)])]
abbrev k9A : PZ := [(1, [(1, 1)]), (3, [])]
abbrev k9YY : PZ := [(1, [(2, 2)])]
abbrev k9B : PZ := [(1, [(1, 1), (2, 2)]), (3, [(2, 2)])]
abbrev k9C : PZ := [(5, [(1, 1)])]
abbrev k9P : PZ := [(1, [(1, 1), (2, 2)]), (3, [(2, 2)]), (5, [(1, 1)])]
abbrev k97 : PZ := [(7, [])]
theorem k9_3 : numP 3 = [(3, [])] := by kernel_rfl
theorem k9_5 : numP 5 = [(5, [])] := by kernel_rfl
theorem k9_7 : numP 7 = k97 := by kernel_rfl
theorem k9_a : addP k9X [(3, [])] = k9A := by kernel_rfl
theorem k9_yy : timesV (timesP k9Y k9Y) = k9YY := by kernel_rfl
theorem k9_b : timesV (timesP k9A k9YY) = k9B := by kernel_rfl
theorem k9_c : timesV (timesP [(5, [])] k9X) = k9C := by kernel_rfl
theorem k9_p : addP k9B k9C = k9P := by kernel_rfl
theorem k9P_can : canP k9P := by
  rw [← k9_p]
  refine (addP_can (p := k9B) ?_ (tiny_may (by kernel_rfl))).1
  exact ⟨fun t ht => by simp at ht; rcases ht with rfl | rfl <;> exact ⟨by decide, by kernel_rfl⟩, by simp; kernel_rfl⟩
theorem k97_can : canP k97 := ⟨fun t ht => by simp at ht; subst ht; exact ⟨by decide, by kernel_rfl⟩, List.pairwise_singleton _ _⟩
theorem k9_i : initP k9P = k9A := by kernel_rfl
theorem k9_t : (ofP (tailP k9P)).length = 1 := by kernel_rfl
theorem k9_d : (ofP (derP k9P 2)).length = 2 := by kernel_rfl
theorem k9_l : leadP k9P = 2 := by kernel_rfl
theorem k9_l7 : leadP k97 = 0 := by kernel_rfl

set_option maxRecDepth 100000 in
set_option maxHeartbeats 8000000 in
theorem law09_known (w : World) :
    Calls Tryz.prog 19 #[] w fun e w' => e = .returned (.bool true) ∧ Ext w w' := by
  have hnot : ∀ (x : Bool) (w : World), (Op.unary .not (.bool x)).run Tryz.prog w = .ok (.bool (!x)) w := fun _ _ => rfl
  have PC := plainP_ofP k9P_can
  have P7 := plainP_ofP k97_can
  have HPC := hid PC
  have HP7 := hid P7
  clear PC P7
  go_enter Tryz.func19, Tryz.ntmps19
  have HX0 := hid (Ext.refl w)
  go_wp2_with fail
  refine (rpoly_x 1 w (by unfold inI64; omega)).mono ?_
  rintro e w1 ⟨v1, rfl, hp1, hx1⟩
  have HX1 := hid (HX0.out.trans hx1)
  have HJ1 := hid (RTs.old hp1 New.lt)
  obtain ⟨a1, c1, rfl⟩ := hp1.form
  clear hx1 hp1
  go_wp2_with fail
  refine (rpoly_x 2 w1 (by unfold inI64; omega)).mono ?_
  rintro e w2 ⟨v2, rfl, hp2, hx2⟩
  have HX2 := hid (HX1.out.trans hx2)
  have HJ2 := hid (RTs.on HJ1.out hx2)
  have HY2 := hid (RTs.old hp2 New.lt)
  obtain ⟨a2, c2, rfl⟩ := hp2.form
  clear hx2 hp2
  go_wp2_with fail
  refine (rpoly_small 3 w2 (by omega)).mono ?_
  rw [k9_3]
  rintro e w3 ⟨v3, rfl, hp3, hx3⟩
  have HX3 := hid (HX2.out.trans hx3)
  have HJ3 := hid (RTs.on HJ2.out hx3)
  have HY3 := hid (RTs.on HY2.out hx3)
  have HS3 := hid (RTs.old hp3 New.lt)
  obtain ⟨a3, c3, rfl⟩ := hp3.form
  clear hx3 hp3
  go_wp2_with fail
  refine (rpoly_add (S := Old w3) _ _ k9X [(3, [])] w3 (fun _ h => h) HJ3.out HS3.out (tiny_may (by kernel_rfl)) (tiny_may (by kernel_rfl)) (tiny_sz (by kernel_rfl)) (tiny_add (by kernel_rfl) (by kernel_rfl))).mono ?_
  rw [k9_a]
  rintro e w4 ⟨v4, rfl, hp4, hx4⟩
  have HX4 := hid (HX3.out.trans hx4)
  have HJ4 := hid (RTs.on HJ3.out hx4)
  have HY4 := hid (RTs.on HY3.out hx4)
  have HA4 := hid (RTs.old hp4 (plus_lt (fun _ h => h) hx4))
  obtain ⟨a4, c4, rfl⟩ := hp4.form
  clear hx4 hp4
  go_wp2_with fail
  refine (rpoly_mul (S := Old w4) _ _ k9Y k9Y w4 (fun _ h => h) HY4.out HY4.out (tiny_may (by kernel_rfl)) (tiny_may (by kernel_rfl)) (tiny_sz (by kernel_rfl)) (tiny_sz (by kernel_rfl)) (tiny_mul (by kernel_rfl) (by kernel_rfl))).mono ?_
  rw [k9_yy]
  rintro e w5 ⟨v5, rfl, hp5, hx5⟩
  have HX5 := hid (HX4.out.trans hx5)
  have HJ5 := hid (RTs.on HJ4.out hx5)
  have HA5 := hid (RTs.on HA4.out hx5)
  have HQ5 := hid (RTs.old hp5 (plus_lt (fun _ h => h) hx5))
  obtain ⟨a5, c5, rfl⟩ := hp5.form
  clear hx5 hp5
  go_wp2_with fail
  refine (rpoly_mul (S := Old w5) _ _ k9A k9YY w5 (fun _ h => h) HA5.out HQ5.out (tiny_may (by kernel_rfl)) (tiny_may (by kernel_rfl)) (tiny_sz (by kernel_rfl)) (tiny_sz (by kernel_rfl)) (tiny_mul (by kernel_rfl) (by kernel_rfl))).mono ?_
  rw [k9_b]
  rintro e w6 ⟨v6, rfl, hp6, hx6⟩
  have HX6 := hid (HX5.out.trans hx6)
  have HJ6 := hid (RTs.on HJ5.out hx6)
  have HB6 := hid (RTs.old hp6 (plus_lt (fun _ h => h) hx6))
  obtain ⟨a6, c6, rfl⟩ := hp6.form
  clear hx6 hp6
  go_wp2_with fail
  refine (rpoly_small 5 w6 (by omega)).mono ?_
  rw [k9_5]
  rintro e w7 ⟨v7, rfl, hp7, hx7⟩
  have HX7 := hid (HX6.out.trans hx7)
  have HJ7 := hid (RTs.on HJ6.out hx7)
  have HB7 := hid (RTs.on HB6.out hx7)
  have HF7 := hid (RTs.old hp7 New.lt)
  obtain ⟨a7, c7, rfl⟩ := hp7.form
  clear hx7 hp7
  go_wp2_with fail
  refine (rpoly_mul (S := Old w7) _ _ [(5, [])] k9X w7 (fun _ h => h) HF7.out HJ7.out (tiny_may (by kernel_rfl)) (tiny_may (by kernel_rfl)) (tiny_sz (by kernel_rfl)) (tiny_sz (by kernel_rfl)) (tiny_mul (by kernel_rfl) (by kernel_rfl))).mono ?_
  rw [k9_c]
  rintro e w8 ⟨v8, rfl, hp8, hx8⟩
  have HX8 := hid (HX7.out.trans hx8)
  have HJ8 := hid (RTs.on HJ7.out hx8)
  have HB8 := hid (RTs.on HB7.out hx8)
  have HC8 := hid (RTs.old hp8 (plus_lt (fun _ h => h) hx8))
  obtain ⟨a8, c8, rfl⟩ := hp8.form
  clear hx8 hp8
  go_wp2_with fail
  refine (rpoly_add (S := Old w8) _ _ k9B k9C w8 (fun _ h => h) HB8.out HC8.out (tiny_may (by kernel_rfl)) (tiny_may (by kernel_rfl)) (tiny_sz (by kernel_rfl)) (tiny_add (by kernel_rfl) (by kernel_rfl))).mono ?_
  rw [k9_p]
  rintro e w9 ⟨v9, rfl, hp9, hx9⟩
  have HX9 := hid (HX8.out.trans hx9)
  have HJ9 := hid (RTs.on HJ8.out hx9)
  have HP9 := hid (RTs.old hp9 (plus_lt (fun _ h => h) hx9))
  obtain ⟨a9, c9, rfl⟩ := hp9.form
  clear hx9 hp9
  go_wp2_with fail
  refine (rpoly_poly (S := Old w9) _ k9P w9 HP9.out (fun _ h => h) (tiny_sz (by kernel_rfl)) (kn_len (tiny_may (by kernel_rfl)))).mono ?_
  rintro e w10 ⟨v10, rfl, hp10, hx10⟩
  have HX10 := hid (HX9.out.trans hx10)
  have HJ10 := hid (RTs.on HJ9.out hx10)
  have HP10 := hid (RTs.on HP9.out hx10)
  have HG10 := hid (Terms.old hp10 New.lt)
  obtain ⟨a10, c10, rfl⟩ := hp10.form
  clear hx10 hp10
  go_wp2_with fail
  refine (view_initial _ (ofP k9P) _ HG10.out (fun _ h => h) (tiny_small (by kernel_rfl)) (by decide)).mono ?_
  rw [HPC.out, k9_i]
  rintro e w11 ⟨v11, rfl, hp11, hx11⟩
  have HX11 := hid (HX10.out.trans hx11)
  have HJ11 := hid (RTs.on HJ10.out hx11)
  have HP11 := hid (RTs.on HP10.out hx11)
  have HI11 := hid (Terms.old hp11 New.lt)
  obtain ⟨a11, c11, rfl⟩ := hp11.form
  clear hx11 hp11
  go_wp2_with fail
  refine (rpoly_poly (S := Old w11) _ k9P w11 HP11.out (fun _ h => h) (tiny_sz (by kernel_rfl)) (kn_len (tiny_may (by kernel_rfl)))).mono ?_
  rintro e w12 ⟨v12, rfl, hp12, hx12⟩
  have HX12 := hid (HX11.out.trans hx12)
  have HJ12 := hid (RTs.on HJ11.out hx12)
  have HP12 := hid (RTs.on HP11.out hx12)
  have HI12 := hid (Terms.on HI11.out hx12)
  have HG12 := hid (Terms.old hp12 New.lt)
  obtain ⟨a12, c12, rfl⟩ := hp12.form
  clear hx12 hp12
  go_wp2_with fail
  refine (view_class _ (ofP k9P) _ HG12.out (fun _ h => h) (tiny_small (by kernel_rfl))).mono ?_
  rw [HPC.out, k9_l]
  rintro e w13 ⟨rfl, hx13⟩
  have HX13 := hid (HX12.out.trans hx13)
  have HJ13 := hid (RTs.on HJ12.out hx13)
  have HP13 := hid (RTs.on HP12.out hx13)
  have HI13 := hid (Terms.on HI12.out hx13)
  clear hx13
  go_wp2_with fail
  refine (rpoly_small 3 w13 (by omega)).mono ?_
  rw [k9_3]
  rintro e w14 ⟨v14, rfl, hp14, hx14⟩
  have HX14 := hid (HX13.out.trans hx14)
  have HJ14 := hid (RTs.on HJ13.out hx14)
  have HP14 := hid (RTs.on HP13.out hx14)
  have HI14 := hid (Terms.on HI13.out hx14)
  have HS14 := hid (RTs.old hp14 New.lt)
  obtain ⟨a14, c14, rfl⟩ := hp14.form
  clear hx14 hp14
  go_wp2_with fail
  refine (rpoly_add (S := Old w14) _ _ k9X [(3, [])] w14 (fun _ h => h) HJ14.out HS14.out (tiny_may (by kernel_rfl)) (tiny_may (by kernel_rfl)) (tiny_sz (by kernel_rfl)) (tiny_add (by kernel_rfl) (by kernel_rfl))).mono ?_
  rw [k9_a]
  rintro e w15 ⟨v15, rfl, hp15, hx15⟩
  have HX15 := hid (HX14.out.trans hx15)
  have HP15 := hid (RTs.on HP14.out hx15)
  have HI15 := hid (Terms.on HI14.out hx15)
  have HA15 := hid (RTs.old hp15 (plus_lt (fun _ h => h) hx15))
  obtain ⟨a15, c15, rfl⟩ := hp15.form
  clear hx15 hp15
  go_wp2_with fail
  refine (rpoly_poly (S := Old w15) _ k9A w15 HA15.out (fun _ h => h) (tiny_sz (by kernel_rfl)) (kn_len (tiny_may (by kernel_rfl)))).mono ?_
  rintro e w16 ⟨v16, rfl, hp16, hx16⟩
  have HX16 := hid (HX15.out.trans hx16)
  have HP16 := hid (RTs.on HP15.out hx16)
  have HI16 := hid (Terms.on HI15.out hx16)
  have HG16 := hid (Terms.old hp16 New.lt)
  obtain ⟨a16, c16, rfl⟩ := hp16.form
  clear hx16 hp16
  go_wp2_with fail
  refine (rpoly_same _ _ (ofP k9A) (ofP k9A) _ HI16.out HG16.out (fun _ h => h)).mono ?_
  rw [show decide (ofP k9A = ofP k9A) = true from decide_eq_true rfl]
  rintro e w17 ⟨rfl, hx17⟩
  have HX17 := hid (HX16.out.trans hx17)
  have HP17 := hid (RTs.on HP16.out hx17)
  clear hx17
  go_wp2_with fail
  refine (rpoly_poly (S := Old w17) _ k9P w17 HP17.out (fun _ h => h) (tiny_sz (by kernel_rfl)) (kn_len (tiny_may (by kernel_rfl)))).mono ?_
  rintro e w18 ⟨v18, rfl, hp18, hx18⟩
  have HX18 := hid (HX17.out.trans hx18)
  have HP18 := hid (RTs.on HP17.out hx18)
  have HG18 := hid (Terms.old hp18 New.lt)
  obtain ⟨a18, c18, rfl⟩ := hp18.form
  clear hx18 hp18
  go_wp2_with fail
  refine (view_tail _ (ofP k9P) _ HG18.out (fun _ h => h) (tiny_small (by kernel_rfl)) (by decide)).mono ?_
  rw [HPC.out]
  rintro e w19 ⟨v19, rfl, hp19, hx19⟩
  have HX19 := hid (HX18.out.trans hx19)
  have HP19 := hid (RTs.on HP18.out hx19)
  have HU19 := hid (Terms.old hp19 New.lt)
  obtain ⟨a19, c19, rfl⟩ := hp19.form
  clear hx19 hp19
  rw [k9_t]
  go_wp2_with fail
  refine (rpoly_poly (S := Old w19) _ k9P w19 HP19.out (fun _ h => h) (tiny_sz (by kernel_rfl)) (kn_len (tiny_may (by kernel_rfl)))).mono ?_
  rintro e w20 ⟨v20, rfl, hp20, hx20⟩
  have HX20 := hid (HX19.out.trans hx20)
  have HG20 := hid (Terms.old hp20 New.lt)
  obtain ⟨a20, c20, rfl⟩ := hp20.form
  clear hx20 hp20
  go_wp2_with fail
  refine (view_derive _ (ofP k9P) 2 _ 1 HG20.out (fun _ h => h) (tiny_lens (by kernel_rfl)) (by omega) (by decide) (by unfold inI64; omega)).mono ?_
  rw [HPC.out]
  rintro e w21 ⟨v21, rfl, hp21, hx21⟩
  have HX21 := hid (HX20.out.trans hx21)
  have HU21 := hid (Terms.old hp21 New.lt)
  obtain ⟨a21, c21, rfl⟩ := hp21.form
  clear hx21 hp21
  rw [k9_d]
  go_wp2_with fail
  refine (rpoly_small 7 w21 (by omega)).mono ?_
  rw [k9_7]
  rintro e w22 ⟨v22, rfl, hp22, hx22⟩
  have HX22 := hid (HX21.out.trans hx22)
  have HZ22 := hid (RTs.old hp22 New.lt)
  obtain ⟨a22, c22, rfl⟩ := hp22.form
  clear hx22 hp22
  go_wp2_with fail
  refine (rpoly_poly (S := Old w22) _ k97 w22 HZ22.out (fun _ h => h) (tiny_sz (by kernel_rfl)) (kn_len (tiny_may (by kernel_rfl)))).mono ?_
  rintro e w23 ⟨v23, rfl, hp23, hx23⟩
  have HX23 := hid (HX22.out.trans hx23)
  have HG23 := hid (Terms.old hp23 New.lt)
  obtain ⟨a23, c23, rfl⟩ := hp23.form
  clear hx23 hp23
  go_wp2_with fail
  refine (view_class _ (ofP k97) _ HG23.out (fun _ h => h) (tiny_small (by kernel_rfl))).mono ?_
  rw [HP7.out, k9_l7]
  rintro e w24 ⟨rfl, hx24⟩
  have HX24 := hid (HX23.out.trans hx24)
  clear hx24
  go_wp2
  all_goals
    go_ret
    exact ⟨rfl, HX24.out⟩
end Go.Proofs.YthplgldclilccaaGreat
