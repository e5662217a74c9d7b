/- RankSorts holds: for every two lists of polynomials the law answers true, and its arguments read as they did. No condition. -/
import Derived.Deep.DeepCutAuto
import Derived.Test.YthplgldclilccaaGreatSet7
namespace Go.Proofs.YthplgldclilccaaGreat
open Go.RowKit

theorem szZ_le {z : Int} {n : Nat} (h : z.natAbs < 10 ^ n) (hn : n ≤ 2000000) : szZ z := Nat.le_trans (rep_len_le two_le_10 _ _ h) hn
theorem szZ_i64 {n : Nat} (h : n < 9223372036854775808) : szZ (n : Int) := szZ_le (n := 19) (by simp only [Int.natAbs_natCast]; omega) (by omega)
/-- a number as a polynomial -/
def numP (n : Nat) : PZ := putP [] (n : Int) []
theorem New.plus {w w1 : World} : ∀ k, Plus (fun _ => False) w w1 k → New w w1 k := fun k hk => by
  rcases hk with h | h
  · exact h.elim
  · exact h

set_option maxRecDepth 100000 in
set_option maxHeartbeats 4000000 in
theorem rpoly_small (n : Nat) (w : World) (hn : n < 9223372036854775808) :
    Calls Tryz.prog 46 #[.int .i64 (n : Nat)] w fun e w' => ∃ v', e = .returned v' ∧ RTs (New w w') w' v' (numP n) ∧ Ext w w' := by
  have C1 := hid (zed_small n w hn)
  have HZ := hid (szZ_i64 hn)
  clear hn
  go_enter Tryz.func46, Tryz.ntmps46
  go_wp2_with fail
  refine C1.out.mono ?_
  rintro e w1 ⟨v1, rfl, hz1, hx1⟩
  have HX1 := hid hx1
  have C2 := hid (rpoly_put (S := New w w1) (.slice none 0 0) v1 (.slice none 0 0) [] (n : Int) [] w1 (fun _ h => h.2) (RTs.nilv _ _ _ _ (by omega)) hz1 (Pows.empty _ _ _) canP_nil.may rfl ⟨by simp, fun t ht => by simp at ht⟩ HZ.out)
  clear hx1 hz1
  go_wp2_with fail
  refine C2.out.mono ?_
  rintro e w2 ⟨v2, rfl, hp2, hx2⟩
  have HX2 := hid (HX1.out.trans hx2)
  have HP2 : Hid (RTs (New w w2) w2 v2 (numP n)) := hid (hp2.to (Kept.refl _ _) (fun k hk => by
    rcases hk with h | h
    · exact ⟨h.1, Nat.lt_of_lt_of_le h.2 hx2.size⟩
    · exact ⟨Nat.le_trans HX1.out.size h.1, h.2⟩))
  clear hp2 hx2
  go_wp2
  all_goals
    go_ret
    exact ⟨_, rfl, HP2.out, HX2.out⟩

set_option maxRecDepth 100000 in
set_option maxHeartbeats 4000000 in
theorem rpoly_x (x : Int) (w : World) (hx : inI64 x) :
    Calls Tryz.prog 43 #[.int .i64 x] w fun e w' => ∃ v', e = .returned v' ∧ RTs (New w w') w' v' [(1, [(x, 1)])] ∧ Ext w w' := by
  have C1 := hid (zed_small 1 w (by omega))
  have HXX := hid hx
  clear hx
  go_enter Tryz.func43, Tryz.ntmps43
  go_wp2_with fail
  refine C1.out.mono ?_
  rintro e w1 ⟨v1, rfl, hz1, hx1⟩
  obtain ⟨vd, rfl, hd⟩ := hz1
  have HX1 := hid hx1
  have HD := hid hd
  obtain ⟨ad, cd, rfl⟩ := hd.form
  obtain ⟨nd, hnd⟩ : ∃ n, n = (rep 10 ((1 : Nat) : Int).natAbs).length := ⟨_, rfl⟩
  obtain ⟨bd, hbd⟩ : ∃ b, b = decide (((1 : Nat) : Int) < 0) := ⟨_, rfl⟩
  rw [← hnd] at HD ⊢
  rw [← hbd]
  have HB := hid hbd
  clear hx1 hd hnd hbd
  go_wp2
  go_ret
  have x2 : Ext w1 ((w1.alloc (.cells #[.int .i64 x, .int .i64 1] 104)).alloc (.cells #[.bool bd, .slice ad nd cd, .slice (some ⟨w1.heap.size, 0, none⟩) 1 1] 89)) := (Ext.alloc (Ext.alloc (Ext.refl w1) _) _)
  have hb : (w1.alloc (.cells #[.int .i64 x, .int .i64 1] 104)).heap.size = w1.heap.size + 1 := size_alloc _ _
  refine ⟨_, rfl, ?_, HX1.out.trans x2⟩
  refine ⟨w1.heap.size + 1, 0, ⟨_, 1, rfl, Nat.le_refl _, by decide, fun _ => by rw [← hb], fun _ => ⟨Nat.le_trans HX1.out.size (Nat.le_succ _), by rw [size_alloc, hb] <;> omega⟩⟩, fun j t hj => ?_⟩
  have hj0 : j = 0 := by have := lt_of_some hj; simp at this; exact this
  subst hj0
  obtain rfl : (1, [(x, 1)]) = t := by simpa using hj
  refine ⟨.slice ad nd cd, .slice (some ⟨w1.heap.size, 0, none⟩) 1 1, ?_, ?_, ?_, HD.out.to (Kept.ext x2 (fun _ h => h.2)) (fun k h => ⟨h.1, Nat.lt_of_lt_of_le h.2 x2.size⟩), ?_⟩
  · exact cell_new _ _ _ (by rw [hb]) (by rw [HB.out]; rfl)
  · exact cell_new _ _ _ (by rw [hb]) rfl
  · exact cell_new _ _ _ (by rw [hb]) rfl
  · refine ⟨w1.heap.size, 0, ⟨_, 1, rfl, Nat.le_refl _, by decide, fun _ => rfl, fun _ => ⟨HX1.out.size, by rw [size_alloc, hb] <;> omega⟩⟩, fun j t hj => ?_⟩
    have hj0 : j = 0 := by have := lt_of_some hj; simp at this; exact this
    subst hj0
    obtain rfl : (x, 1) = t := by simpa using hj
    have hin : inI64 (1 : Int) := by unfold inI64; omega
    exact ⟨⟨HXX.out, hin⟩, cell_old _ (cell_new _ _ _ rfl rfl), cell_old _ (cell_new _ _ _ rfl rfl)⟩
end Go.Proofs.YthplgldclilccaaGreat

namespace Go.Proofs.YthplgldclilccaaGreat
open Go.RowKit

/-- the terms of a product, one by one; nothing, where an exponent is too great -/
def pairP (t u : Int × Mono) : Option (Int × Mono) := (rtimes t.2 u.2).map fun m => (t.1 * u.1, m)
def prodL (p q : PZ) : List (Option (Int × Mono)) := p.flatMap fun t => q.map (pairP t)
/-- all of them, if each is there -/
def allO : List (Option (Int × Mono)) → Option PZ
  | [] => some []
  | none :: _ => none
  | some x :: r => (allO r).map (x :: ·)
def timesP (p q : PZ) : Option PZ := (allO (prodL p q)).map normP
theorem allO_some {xs : PZ} : allO (xs.map some) = some xs := by
  induction xs with
  | nil => rfl
  | cons x r ih => simp only [List.map_cons, allO, ih, Option.map_some]
theorem allO_none {l r : List (Option (Int × Mono))} : allO (l ++ none :: r) = none := by
  induction l with
  | nil => rfl
  | cons x l ih =>
    cases x with
    | none => rfl
    | some x => simp only [List.cons_append, allO, ih, Option.map_none]
theorem prodL_snoc (p q : PZ) (t : Int × Mono) : prodL (p ++ [t]) q = prodL p q ++ q.map (pairP t) := by
  unfold prodL
  rw [List.flatMap_append]
  simp
theorem prodL_take {p : PZ} {k : Nat} {t : Int × Mono} (q : PZ) (h : p[k]? = some t) : prodL (p.take (k + 1)) q = prodL (p.take k) q ++ q.map (pairP t) := by
  rw [List.take_add_one, h]
  exact prodL_snoc _ _ _
theorem prodL_split {p : PZ} {k : Nat} {t : Int × Mono} (q : PZ) (h : p[k]? = some t) : prodL p q = prodL (p.take k) q ++ q.map (pairP t) ++ prodL (p.drop (k + 1)) q := by
  have e : p = p.take k ++ t :: p.drop (k + 1) := by rw [← drop_at h, List.take_append_drop]
  conv => lhs; rw [e]
  unfold prodL
  rw [List.flatMap_append, List.flatMap_cons, List.append_assoc]
/-- bounds of length and of coefficients -/
def bndP (p : PZ) (L M : Nat) : Prop := p.length ≤ L ∧ ∀ t ∈ p, t.1.natAbs ≤ M
theorem putP_len (p : PZ) (c : Int) (m : Mono) : (putP p c m).length ≤ p.length + 1 := by
  induction p with
  | nil => simp only [putP]; split <;> simp
  | cons t r ih =>
    simp only [putP]
    split
    · simp only [List.length_cons]; omega
    · split
      · split <;> simp only [List.length_cons] <;> omega
      · split <;> simp only [List.length_cons] <;> omega
theorem putP_abs {p : PZ} {c : Int} {m : Mono} {M N : Nat} (h : ∀ t ∈ p, t.1.natAbs ≤ M) (hc : c.natAbs ≤ N) : ∀ t ∈ putP p c m, t.1.natAbs ≤ M + N := by
  induction p with
  | nil =>
    intro t ht
    simp only [putP] at ht
    split at ht
    · simp at ht
    · rw [List.mem_singleton.1 ht]; simp only; omega
  | cons u r ih =>
    have hu := h u (by simp)
    have hr : ∀ t ∈ r, t.1.natAbs ≤ M := fun t ht => h t (by simp [ht])
    have ih := ih hr
    intro t ht
    simp only [putP] at ht
    split at ht
    · rcases List.mem_cons.1 ht with rfl | ht
      · omega
      · exact ih t ht
    · split at ht
      · split at ht
        · have := hr t ht; omega
        · rcases List.mem_cons.1 ht with rfl | ht
          · simp only; omega
          · have := hr t ht; omega
      · split at ht
        · have := h t ht; omega
        · rcases List.mem_cons.1 ht with rfl | ht
          · simp only; omega
          · have := h t ht; omega
theorem putP_bnd {p : PZ} {c : Int} {m : Mono} {L M N : Nat} (h : bndP p L M) (hc : c.natAbs ≤ N) : bndP (putP p c m) (L + 1) (M + N) :=
  ⟨Nat.le_trans (putP_len _ _ _) (by have := h.1; omega), putP_abs h.2 hc⟩
theorem addP_bnd {p l : PZ} {L M N : Nat} (h : bndP p L M) (hl : ∀ t ∈ l, t.1.natAbs ≤ N) : bndP (addP p l) (L + l.length) (M + l.length * N) := by
  induction l generalizing p L M with
  | nil => simpa [addP] using h
  | cons t r ih =>
    have h1 := ih (putP_bnd (m := t.2) h (hl t (by simp))) (fun u hu => hl u (by simp [hu]))
    show bndP (addP (putP p t.1 t.2) r) _ _
    simp only [List.length_cons]
    refine ⟨by have := h1.1; omega, fun u hu => ?_⟩
    have := h1.2 u hu
    rw [Nat.add_mul]
    omega
theorem bnd_nil : bndP [] 0 0 := ⟨by simp, fun t ht => by simp at ht⟩
theorem sz_of_bnd {p : PZ} {L M n : Nat} (h : bndP p L M) (hL : L ≤ 100000000) (hM : M < 10 ^ n) (hn : n ≤ 2000000) : szP p :=
  ⟨Nat.le_trans h.1 hL, fun t ht => szZ_le (Nat.lt_of_le_of_lt (h.2 t ht) hM) hn⟩
theorem mayTail_snoc {m : Mono} {l v e : Int} (h : mayTail l m = true) (hv : ∀ x ∈ m, x.1 < v) (hl : l < v) (h2 : v ≤ 200) (h3 : 1 ≤ e ∧ e ≤ 10000) : mayTail l (m ++ [(v, e)]) = true := by
  induction m generalizing l with
  | nil =>
    simp only [List.nil_append, mayTail, Bool.and_true, decide_eq_true_eq]
    omega
  | cons x r ih =>
    simp only [List.cons_append, mayTail, Bool.and_eq_true] at h ⊢
    exact ⟨h.1, ih h.2 (fun y hy => hv y (by simp [hy])) (hv x (by simp))⟩
theorem ofE_vars (f : Nat → Int) (k : Nat) : ∀ x ∈ ofE f k, x.1 ≤ (k : Int) := by
  induction k with
  | zero => intro x hx; simp [ofE] at hx
  | succ k ih =>
    intro x hx
    simp only [ofE] at hx
    split at hx
    · rcases List.mem_append.1 hx with hx | hx
      · have := ih x hx; omega
      · rw [List.mem_singleton.1 hx]; simp only; omega
    · have := ih x hx; omega
theorem ofE_may {f : Nat → Int} {n : Nat} (hn : n ≤ 200) (h : ∀ j, 1 ≤ j → j ≤ n → f j ≤ 10000) : mayM (ofE f n) = true := by
  induction n with
  | zero => rfl
  | succ k ih =>
    have ih := ih (by omega) (fun j h1 h2 => h j h1 (by omega))
    simp only [ofE]
    split
    · rename_i hp
      refine mayTail_snoc ih (fun x hx => ?_) (by omega) (by omega) ⟨by omega, h (k + 1) (by omega) (Nat.le_refl _)⟩
      have := ofE_vars f k x hx
      omega
    · exact ih
theorem overF_not {f : Nat → Int} {n : Nat} (h : overF f n = false) : ∀ j, 1 ≤ j → j ≤ n → f j ≤ 10000 := by
  induction n with
  | zero => intro j h1 h2; omega
  | succ k ih =>
    simp only [overF, Bool.or_eq_false_iff, decide_eq_false_iff_not] at h
    intro j h1 h2
    by_cases e : j = k + 1
    · subst e; have := h.2; omega
    · exact ih h.1 j h1 (by omega)
theorem rtimes_may {a b m : Mono} (h : rtimes a b = some m) : mayM m = true := by
  unfold rtimes at h
  split at h
  · cases h
  · rename_i ho
    cases h
    exact ofE_may (Nat.le_refl _) (overF_not (by simpa using ho))

theorem prodL_length (p q : PZ) : (prodL p q).length = p.length * q.length := by
  induction p with
  | nil => simp [prodL]
  | cons t r ih =>
    have e : prodL (t :: r) q = q.map (pairP t) ++ prodL r q := by unfold prodL; rw [List.flatMap_cons]
    rw [e, List.length_append, List.length_map, ih, List.length_cons, Nat.add_mul]
    omega
theorem prodL_get {p q : PZ} {k j : Nat} {t u : Int × Mono} (ht : p[k]? = some t) (hu : q[j]? = some u) : (prodL p q)[k * q.length + j]? = some (pairP t u) := by
  have hj := lt_of_some hu
  induction p generalizing k with
  | nil => simp at ht
  | cons x r ih =>
    have e : prodL (x :: r) q = q.map (pairP x) ++ prodL r q := by unfold prodL; rw [List.flatMap_cons]
    rw [e]
    cases k with
    | zero =>
      obtain rfl : x = t := by simpa using ht
      rw [Nat.zero_mul, Nat.zero_add, List.getElem?_append_left (by rw [List.length_map]; exact hj), List.getElem?_map, hu]
      rfl
    | succ k =>
      have := ih (k := k) (by simpa using ht)
      rw [List.getElem?_append_right (by rw [List.length_map, Nat.add_mul]; omega), List.length_map, show (k + 1) * q.length + j - q.length = k * q.length + j by rw [Nat.add_mul]; omega]
      exact this
theorem pairP_some {t u x : Int × Mono} (h : pairP t u = some x) : mayM x.2 = true ∧ x.1 = t.1 * u.1 := by
  unfold pairP at h
  cases hr : rtimes t.2 u.2 with
  | none => rw [hr] at h; simp at h
  | some m =>
    rw [hr] at h
    simp at h
    subst h
    exact ⟨rtimes_may hr, rfl⟩
theorem prodL_mem {p q : PZ} {x : Int × Mono} (h : some x ∈ prodL p q) : mayM x.2 = true ∧ ∃ t ∈ p, ∃ u ∈ q, x.1 = t.1 * u.1 := by
  unfold prodL at h
  obtain ⟨t, ht, h⟩ := List.mem_flatMap.1 h
  obtain ⟨u, hu, h⟩ := List.mem_map.1 h
  exact ⟨(pairP_some h).1, t, ht, u, hu, (pairP_some h).2⟩
/-- the first n are there -/
def firstN (p q : PZ) (n : Nat) (xs : PZ) : Prop := (prodL p q).take n = xs.map some
theorem firstN_zero (p q : PZ) : firstN p q 0 [] := rfl
theorem firstN_next {p q : PZ} {n : Nat} {xs : PZ} {x : Int × Mono} (h : firstN p q n xs) (hx : (prodL p q)[n]? = some (some x)) : firstN p q (n + 1) (xs ++ [x]) := by
  unfold firstN at h ⊢
  rw [List.take_add_one, h, hx]
  simp
theorem firstN_none {p q : PZ} {n : Nat} {xs : PZ} (_h : firstN p q n xs) (hx : (prodL p q)[n]? = some none) : timesP p q = none := by
  unfold timesP
  have e : prodL p q = (prodL p q).take n ++ none :: (prodL p q).drop (n + 1) := by rw [← drop_at hx, List.take_append_drop]
  rw [e, allO_none]
  rfl
theorem firstN_all {p q : PZ} {n : Nat} {xs : PZ} (h : firstN p q n xs) (hn : n = p.length * q.length) : timesP p q = some (normP xs) := by
  unfold firstN at h
  rw [List.take_of_length_le (by rw [prodL_length]; omega)] at h
  unfold timesP
  rw [h, allO_some]
  rfl
theorem firstN_mem {p q : PZ} {n : Nat} {xs : PZ} (h : firstN p q n xs) {x : Int × Mono} (hx : x ∈ xs) : mayM x.2 = true ∧ ∃ t ∈ p, ∃ u ∈ q, x.1 = t.1 * u.1 := by
  apply prodL_mem
  have : some x ∈ (prodL p q).take n := by rw [h]; exact List.mem_map.2 ⟨x, hx, rfl⟩
  exact List.mem_of_mem_take this
theorem firstN_len {p q : PZ} {n : Nat} {xs : PZ} (h : firstN p q n xs) : xs.length ≤ p.length * q.length := by
  have h1 : ((prodL p q).take n).length = xs.length := by rw [h, List.length_map]
  rw [← h1, List.length_take, prodL_length]
  exact Nat.min_le_right _ _
/-- sizes that a product takes -/
def szM (p q : PZ) : Prop := ∃ N n, (∀ t ∈ p, ∀ u ∈ q, (t.1 * u.1).natAbs ≤ N) ∧ p.length * q.length ≤ 100000000 ∧ p.length * q.length * N < 10 ^ n ∧ n ≤ 2000000
theorem firstN_sz {p q : PZ} {n : Nat} {xs : PZ} (h : firstN p q n xs) (hs : szM p q) : szP (normP xs) := by
  obtain ⟨N, e, h1, h2, h3, h4⟩ := hs
  have hl := firstN_len h
  have hb := addP_bnd (N := N) bnd_nil (l := xs) (fun t ht => by
    obtain ⟨_, a, ha, b, hb, hh⟩ := firstN_mem h ht
    rw [hh]
    exact h1 a ha b hb)
  simp only [Nat.zero_add] at hb
  exact sz_of_bnd hb (by omega) (Nat.lt_of_le_of_lt (Nat.mul_le_mul_right N hl) h3) h4
theorem szM_one {p q : PZ} (hs : szM p q) {t u : Int × Mono} (ht : t ∈ p) (hu : u ∈ q) : szZ (t.1 * u.1) := by
  obtain ⟨N, e, h1, h2, h3, h4⟩ := hs
  have h5 := h1 t ht u hu
  have hp : 0 < p.length := List.length_pos_of_mem ht
  have hq : 0 < q.length := List.length_pos_of_mem hu
  have : 1 * N ≤ p.length * q.length * N := Nat.mul_le_mul_right N (Nat.mul_pos hp hq)
  exact szZ_le (Nat.lt_of_le_of_lt (by omega) h3) h4
end Go.Proofs.YthplgldclilccaaGreat

namespace Go.Proofs.YthplgldclilccaaGreat
open Go.RowKit

/-- what a product answers -/
def timesB : Option PZ → Bool
  | none => false
  | some _ => true
def timesV : Option PZ → PZ
  | none => []
  | some p => p

set_option maxRecDepth 100000 in
set_option maxHeartbeats 8000000 in
theorem rpoly_times {S : Nat → Prop} (vp vq : Value) (p q : PZ) (w : World) (hS : ∀ k, S k → k < w.heap.size) (hp : RTs S w vp p) (hq : RTs S w vq q) (hmp : mayAll p) (hmq : mayAll q) (hszp : szP p) (hszq : szP q) (hsz : szM p q) :
    Calls Tryz.prog 91 #[vp, vq] w fun e w' => ∃ v', e = .returned (.tuple #[v', .bool (timesB (timesP p q))]) ∧ RTs (Plus S w w') w' v' (timesV (timesP p q)) ∧ Ext w w' := by
  have hlp := hp.len_le
  have hlq := hq.len_le
  have HP := hid hp
  have HQ := hid hq
  have HMP := hid hmp
  have HMQ := hid hmq
  have HZP := hid hszp
  have HZQ := hid hszq
  have HSZ := hid hsz
  obtain ⟨ap, cp, rfl⟩ := hp.form
  obtain ⟨aq, cq, rfl⟩ := hq.form
  obtain ⟨R, hR⟩ : ∃ R, R = timesP p q := ⟨_, rfl⟩
  rw [← hR]
  have HR := hid hR
  clear hp hq hmp hmq hszp hszq hsz hR
  go_enter Tryz.func91, Tryz.ntmps91
  go_wp2
  go_loopw [6, 7] (fun o i wr => ∃ k xs n, k ≤ p.length ∧ i = .int .i64 (k : Nat) ∧ Ext w wr ∧ Hid (n = k * q.length) ∧ Hid (firstN p q n xs) ∧ Hid (RTs (Plus S w wr) wr o (normP xs))) (fun _ i _ => p.length - (intOf i).toNat)
  case atStart => exact ⟨0, [], 0, Nat.zero_le _, rfl, Ext.refl _, hid (by rw [Nat.zero_mul]), hid (firstN_zero _ _), hid (RTs.nilv _ _ _ _ (by omega))⟩
  case round =>
    obtain ⟨k, xs, n, hk, rfl, hx, HN, HF, HO⟩ := hrel
    have HX := hid hx
    by_cases hlt : k < p.length
    · obtain ⟨t, ht⟩ := some_of_lt hlt
      have HT := hid ht
      clear ht hx
      go_wp2
      go_loopw [6, 8] (fun o i wr => ∃ j xs n, j ≤ q.length ∧ i = .int .i64 (j : Nat) ∧ Ext w wr ∧ Hid (n = k * q.length + j) ∧ Hid (firstN p q n xs) ∧ Hid (RTs (Plus S w wr) wr o (normP xs))) (fun _ i _ => q.length - (intOf i).toNat)
      case atStart => exact ⟨0, xs, n, Nat.zero_le _, rfl, HX.out, hid (by rw [HN.out, Nat.add_zero]), HF, HO⟩
      case round =>
        clear HO HF HN HX
        clear xs n
        obtain ⟨j, xs, n, hj, rfl, hx, HN, HF, HO⟩ := hrel
        have HX := hid hx
        by_cases hlj : j < q.length
        · obtain ⟨u, hu⟩ := some_of_lt hlj
          have HGET : Hid ((prodL p q)[n]? = some (pairP t u)) := hid (by rw [HN.out]; exact prodL_get HT.out hu)
          have HTP := hid (List.mem_of_getElem? HT.out)
          have HUQ := hid (List.mem_of_getElem? hu)
          obtain ⟨b, off, vd, vo, rfl, -, hn1, hm1, hSb, h1, h2, h3, h4, h5⟩ := HP.out.cellAt HT.out
          obtain ⟨b', off', vd', vo', rfl, -, hn1', hm1', hSb', h1', h2', h3', h4', h5'⟩ := HQ.out.cellAt hu
          have H4 := hid h4
          have H5 := hid h5
          have H4' := hid h4'
          have H5' := hid h5'
          obtain ⟨ad, cd, rfl⟩ := h4.form
          obtain ⟨ao, co, rfl⟩ := h5.form
          obtain ⟨ad', cd', rfl⟩ := h4'.form
          obtain ⟨ao', co', rfl⟩ := h5'.form
          have x0 : Ext w wr.drew := hx.drew
          have HX0 := hid x0
          have HXR := hid ((Ext.refl wr).drew)
          have S0 : _ ∧ _ := And.intro (x0.cell h3) (x0.cell h3')
          have CT := rmono_times (S := S) _ _ t.2 u.2 wr.drew (H5.out.ext x0 hS) (H5'.out.ext x0 hS) (lt_ext hS x0) (HMP.out t HTP.out) (HMQ.out u HUQ.out)
          have CM := fun (W : World) (hW : Ext w W) => zed_mul (S := S) (.agg #[.bool (decide (t.1 < 0)), .slice ad (rep 10 t.1.natAbs).length cd]) (.agg #[.bool (decide (u.1 < 0)), .slice ad' (rep 10 u.1.natAbs).length cd']) t.1 u.1 W ⟨_, rfl, H4.out.ext hW hS⟩ ⟨_, rfl, H4'.out.ext hW hS⟩ (lt_ext hS hW) (HZP.out.2 t HTP.out) (HZQ.out.2 u HUQ.out)
          obtain ⟨bt, hbt⟩ : ∃ b, b = decide (t.1 < 0) := ⟨_, rfl⟩
          obtain ⟨nt, hnt⟩ : ∃ n, n = (rep 10 t.1.natAbs).length := ⟨_, rfl⟩
          obtain ⟨bu, hbu⟩ : ∃ b, b = decide (u.1 < 0) := ⟨_, rfl⟩
          obtain ⟨nu, hnu⟩ : ∃ n, n = (rep 10 u.1.natAbs).length := ⟨_, rfl⟩
          obtain ⟨mt, hmt⟩ : ∃ n, n = t.2.length := ⟨_, rfl⟩
          obtain ⟨mu, hmu⟩ : ∃ n, n = u.2.length := ⟨_, rfl⟩
          rw [← hbt, ← hnt, ← hbu, ← hnu] at CM
          rw [← hmt, ← hmu] at S0 CT
          rw [← hbt] at h1
          rw [← hnt] at h2
          rw [← hbu] at h1'
          rw [← hnu] at h2'
          have HC0 : Hid (_ ∧ _ ∧ _ ∧ _) := hid (And.intro h1 (And.intro h2 (And.intro h1' h2')))
          have HCM := hid CM
          have HSO := hid (szM_one HSZ.out HTP.out HUQ.out)
          have HSX := hid (firstN_sz HF.out HSZ.out)
          have HMX : Hid (mayAll (normP xs)) := hid (normP_can (fun y hy => (firstN_mem HF.out hy).1)).may
          clear hu h1 h2 h3 h4 h5 h1' h2' h3' h4' h5' hx x0 CM hbt hnt hbu hnu hmt hmu
          cases hr : rtimes t.2 u.2 with
          | none =>
            have HRN : Hid (R = none) := hid (HR.out.trans (firstN_none HF.out (by rw [HGET.out]; unfold pairP; rw [hr]; rfl)))
            rw [hr] at CT
            unfold rterr rtval at CT
            simp only at CT
            have HCT := hid CT
            clear CT hr
            go_wp2
            go_region_held3 (fun W => W.cell? ⟨b, off + k * 3 + 2, none⟩ = some (.slice ao mt co) ∧ W.cell? ⟨b', off' + j * 3 + 2, none⟩ = some (.slice ao' mu co')) (first | exact S0 | exact S1)
              (first
                | (go_at_call 123; (with_reducible refine HCT.out.mono ?_); rintro e w1 ⟨v1, rfl, hp1, hx1⟩; have S1 : _ ∧ _ := And.intro (hx1.cell S0.1) (hx1.cell S0.2); have HX1 := hid (HX0.out.trans hx1); clear hx1 hp1))
            go_wp2
            all_goals
              go_ret2
              rw [HRN.out]
              exact ⟨_, rfl, RTs.nilv _ _ _ _ (by omega), HX1.out⟩
          | some m =>
            have HMM := hid (rtimes_may hr)
            have HNX := hid (firstN_next HF.out (x := (t.1 * u.1, m)) (by rw [HGET.out]; unfold pairP; rw [hr]; rfl))
            rw [hr] at CT
            unfold rterr rtval at CT
            simp only at CT
            have HCT := hid CT
            clear CT hr
            go_wp2
            go_region_held3 (fun W => W.cell? ⟨b, off + k * 3 + 2, none⟩ = some (.slice ao mt co) ∧ W.cell? ⟨b', off' + j * 3 + 2, none⟩ = some (.slice ao' mu co')) (first | exact S0 | exact S1)
              (first
                | (go_at_call 123; (with_reducible refine HCT.out.mono ?_); rintro e w1 ⟨v1, rfl, hp1, hx1⟩; have S1 : _ ∧ _ := And.intro (hx1.cell S0.1) (hx1.cell S0.2); have HX1 := hid (HX0.out.trans hx1); have HXR1 := hid (HXR.out.trans hx1); have HP1 : Hid (Pows (Plus S w w1) w1 v1 m) := hid (hp1.to (Kept.refl _ _) (new_plus HX0.out.size)); clear hx1 hp1))
            have x1 : Ext w w1.drew := HX1.out.drew
            have HX1D := hid x1
            have T0 : _ ∧ _ ∧ _ ∧ _ := And.intro (x1.cell HC0.out.1) (And.intro (x1.cell HC0.out.2.1) (And.intro (x1.cell HC0.out.2.2.1) (x1.cell HC0.out.2.2.2)))
            have HCM1 := hid (HCM.out w1.drew x1)
            clear x1 S0 S1
            go_wp2
            go_region_held3 (fun W => W.cell? ⟨b, off + k * 3, none⟩ = some (.bool bt) ∧ W.cell? ⟨b, off + k * 3 + 1, none⟩ = some (.slice ad nt cd) ∧ W.cell? ⟨b', off' + j * 3, none⟩ = some (.bool bu) ∧ W.cell? ⟨b', off' + j * 3 + 1, none⟩ = some (.slice ad' nu cd')) (first | exact T0 | exact T1 | exact T2)
              (first
                | (go_at_call 60; (with_reducible refine HCM1.out.mono ?_); rintro e w2 ⟨v2, rfl, hz2, hx2⟩; have T1 : _ ∧ _ ∧ _ ∧ _ := And.intro (hx2.cell T0.1) (And.intro (hx2.cell T0.2.1) (And.intro (hx2.cell T0.2.2.1) (hx2.cell T0.2.2.2))); have HX2 : Hid (Ext w w2) := hid (HX1D.out.trans hx2); have HX12 : Hid (Ext w1 w2) := hid (((Ext.refl w1).drew).trans hx2); have C2 := hid (rpoly_put (S := Plus S w w2) _ _ _ (normP xs) (t.1 * u.1) m w2 (plus_lt hS HX2.out) (RTs.later hS HO.out HX.out (HXR1.out.trans HX12.out)) (hz2.to (Kept.refl _ _) (new_plus HX1D.out.size)) (HP1.out.to (Kept.ext HX12.out (plus_lt hS HX1.out)) (plus_grow HX12.out.size)) HMX.out HMM.out HSX.out HSO.out); clear hx2 hz2)
                | (go_at_call 96; (with_reducible refine C2.out.mono ?_); rintro e w3 ⟨v3, rfl, hp3, hx3⟩; have T2 : _ ∧ _ ∧ _ ∧ _ := And.intro (hx3.cell T1.1) (And.intro (hx3.cell T1.2.1) (And.intro (hx3.cell T1.2.2.1) (hx3.cell T1.2.2.2))); have HX3 := hid (HX2.out.trans hx3); have HP3 := hid (hp3.to (Kept.refl _ _) (plus_plus HX2.out hx3)); clear hx3 hp3))
            go_wp2
            go_roundw
            case rel => exact ⟨j + 1, xs ++ [(t.1 * u.1, m)], n + 1, by omega, by go_num, HX3.out, hid (by rw [HN.out, Nat.add_assoc]), HNX, hid (by unfold normP; rw [addP_snoc]; exact HP3.out)⟩
            case measure => simp only [intOf]; omega
        · obtain rfl : j = q.length := by omega
          clear hx
          go_wp2
          go_roundw
          case rel => exact ⟨k + 1, xs, n, by omega, by go_num, HX.out, hid (by rw [HN.out, Nat.add_mul, Nat.one_mul]), HF, HO⟩
          case measure => simp only [intOf]; omega
    · obtain rfl : k = p.length := by omega
      have HRS := hid (HR.out.trans (firstN_all HF.out HN.out))
      clear hx
      go_wp2
      all_goals
        go_ret2
        rw [HRS.out]
        exact ⟨_, rfl, HO.out, HX.out⟩
end Go.Proofs.YthplgldclilccaaGreat

namespace Go.Proofs.YthplgldclilccaaGreat
open Go.RowKit

set_option maxRecDepth 100000 in
set_option maxHeartbeats 4000000 in
theorem rpoly_mul {S : Nat → Prop} (vp vq : Value) (p q : PZ) (w : World) (hS : ∀ k, S k → k < w.heap.size) (hp : RTs S w vp p) (hq : RTs S w vq q) (hmp : mayAll p) (hmq : mayAll q) (hszp : szP p) (hszq : szP q) (hsz : szM p q) :
    Calls Tryz.prog 44 #[vp, vq] w fun e w' => ∃ v', e = .returned v' ∧ RTs (Plus S w w') w' v' (timesV (timesP p q)) ∧ Ext w w' := by
  have HT := hid (rpoly_times vp vq p q w hS hp hq hmp hmq hszp hszq hsz)
  clear hp hq
  go_enter Tryz.func44, Tryz.ntmps44
  go_wp2_with fail
  refine HT.out.mono ?_
  rintro e w1 ⟨v1, rfl, hp1, hx1⟩
  have HX1 := hid hx1
  have HP1 := hid hp1
  clear hx1 hp1
  go_wp2
  all_goals
    go_ret
    exact ⟨_, rfl, HP1.out, HX1.out⟩

abbrev knX : PZ := [(1, [(1, 1)])]
abbrev knY : PZ := [(1, [(2, 1)])]
abbrev knYY : PZ := [(1, [(2, 2)])]
abbrev knA : PZ := [(1, [(1, 1), (2, 2)])]
abbrev knB : PZ := [(1, [(2, 1)]), (1, [])]
theorem kn1 : timesV (timesP knY knY) = knYY := by kernel_rfl
theorem kn2 : timesV (timesP knX knYY) = knA := by kernel_rfl
theorem kn3 : addP knY (numP 1) = knB := by kernel_rfl
theorem can_one {m : Mono} (h : mayM m = true) : canP [(1, m)] := ⟨fun t ht => by rw [List.mem_singleton.1 ht]; exact ⟨by show (1 : Int) ≠ 0; decide, h⟩, List.pairwise_singleton _ _⟩
theorem knX_can : canP knX := can_one rfl
theorem knY_can : canP knY := can_one rfl
theorem knYY_can : canP knYY := can_one rfl
theorem knA_can : canP knA := can_one rfl
theorem knB_can : canP knB := by
  rw [← kn3]
  exact (addP_can knY_can (putP_may canP_nil.may rfl)).1
theorem ones_sz {p : PZ} (h : p.length ≤ 100) (h1 : ∀ t ∈ p, t.1 = 1) : szP p := ⟨by omega, fun t ht => by rw [h1 t ht]; exact szZ_i64 (n := 1) (by omega)⟩
theorem ones_szM {p q : PZ} (hp : p.length = 1) (hq : q.length = 1) (h1 : ∀ t ∈ p, t.1 = 1) (h2 : ∀ t ∈ q, t.1 = 1) : szM p q :=
  ⟨1, 1, fun t ht u hu => by rw [h1 t ht, h2 u hu]; decide, by rw [hp, hq]; omega, by rw [hp, hq]; decide, by omega⟩
theorem ones_small {p : PZ} (h1 : ∀ t ∈ p, t.1 = 1) : smallT (ofP p) := fun t ht => by
  obtain ⟨u, hu, rfl⟩ := List.mem_map.1 ht
  have e := h1 u hu
  refine Nat.le_trans (rep_len_le two_le_B32 _ 1 ?_) (by omega)
  rw [e]
  decide
theorem plainP_ofP {p : PZ} (h : canP p) : plainP (ofP p) = p := by
  unfold plainP
  rw [if_pos (mayT_ofP h)]
  exact toP_ofP p
theorem rk1 : orderR (rankP knX) (rankP knY) = -1 := by kernel_rfl
theorem rk2 : reducedP knX knY = true := by kernel_rfl
theorem rk3 : orderR (rankP knA) (rankP knB) = 1 := by kernel_rfl
theorem rk4 : reducedP knA knB = false := by kernel_rfl
theorem rk5 : rankP knA = (2, 2) := by kernel_rfl
theorem RTs.old {w : World} {S : Nat → Prop} {v : Value} {p : PZ} (h : RTs S w v p) (hS : ∀ k, S k → k < w.heap.size) : RTs (Old w) w v p := h.to (Kept.refl _ _) hS
theorem Terms.old {w : World} {S : Nat → Prop} {v : Value} {p : List RTerm} (h : Terms S w v p) (hS : ∀ k, S k → k < w.heap.size) : Terms (Old w) w v p := h.to (Kept.refl _ _) hS
theorem Polys.on {w W : World} {v : Value} {z : List (List RTerm)} (h : Polys (Old w) w v z) (hx : Ext w W) : Polys (Old W) W v z := h.to (Kept.ext hx (fun _ h => h)) (old_lt hx)
theorem Terms.on {w W : World} {v : Value} {z : List RTerm} (h : Terms (Old w) w v z) (hx : Ext w W) : Terms (Old W) W v z := h.to (Kept.ext hx (fun _ h => h)) (old_lt hx)
theorem all_one {m : Mono} : ∀ t ∈ ([(1, m)] : PZ), t.1 = 1 := fun t ht => by rw [List.mem_singleton.1 ht]
theorem knB_one : ∀ t ∈ knB, t.1 = 1 := fun t ht => by
  simp at ht
  rcases ht with rfl | rfl <;> rfl
theorem kn_len {p : PZ} (h : mayAll p) : ∀ t ∈ p, t.2.length ≤ 1000000 := fun t ht => Nat.le_trans (mayM_len (h t ht)) (by omega)
theorem knOne : szP (numP 1) := ones_sz (p := [(1, [])]) (by decide) all_one
theorem kn_step (k : Nat) : szP (addP knY ((numP 1).take k)) := by
  cases k with
  | zero => exact ones_sz (p := knY) (by decide) all_one
  | succ k =>
    have e : (numP 1).take (k + 1) = numP 1 := List.take_of_length_le (by show 1 ≤ k + 1; omega)
    rw [e, kn3]
    exact ones_sz (by decide) knB_one

set_option maxRecDepth 100000 in
set_option maxHeartbeats 8000000 in
theorem law15_known (w : World) :
    Calls Tryz.prog 9 #[] w fun e w' => e = .returned (.bool true) ∧ Ext w w' := by
  have hnot : ∀ (x : Bool) (w : World), (Op.unary .not (.bool x)).run Tryz.prog w = .ok (.bool (!x)) w := fun _ _ => rfl
  go_enter Tryz.func9, Tryz.ntmps9
  go_wp2_with fail
  refine (rpoly_x 1 w (by unfold inI64; omega)).mono ?_
  rintro e w1 ⟨v1, rfl, hp1, hx1⟩
  have HX1 : Hid (Ext w w1) := hid hx1
  have HP1 := hid (RTs.old hp1 New.lt)
  obtain ⟨a1, c1, rfl⟩ := hp1.form
  clear hx1 hp1
  go_wp2_with fail
  refine (rpoly_x 2 w1 (by unfold inI64; omega)).mono ?_
  rintro e w2 ⟨v2, rfl, hp2, hx2⟩
  have HX2 : Hid (Ext w1 w2) := hid hx2
  have HP2 := hid (RTs.old hp2 New.lt)
  obtain ⟨a2, c2, rfl⟩ := hp2.form
  clear hx2 hp2
  go_wp2_with fail
  refine (rpoly_mul (S := Old w2) _ _ knY knY w2 (fun _ h => h) HP2.out HP2.out knY_can.may knY_can.may (ones_sz (by decide) all_one) (ones_sz (by decide) all_one) (ones_szM rfl rfl all_one all_one)).mono ?_
  rw [kn1]
  rintro e w3 ⟨v3, rfl, hp3, hx3⟩
  have HX3 : Hid (Ext w2 w3) := hid hx3
  have HP3 := hid (RTs.old hp3 (plus_lt (fun _ h => h) hx3))
  obtain ⟨a3, c3, rfl⟩ := hp3.form
  clear hx3 hp3
  go_wp2_with fail
  refine (rpoly_mul (S := Old w3) _ _ knX knYY w3 (fun _ h => h) (RTs.on HP1.out (HX2.out.trans HX3.out)) HP3.out knX_can.may knYY_can.may (ones_sz (by decide) all_one) (ones_sz (by decide) all_one) (ones_szM rfl rfl all_one all_one)).mono ?_
  rw [kn2]
  rintro e w4 ⟨v4, rfl, hp4, hx4⟩
  have HX4 : Hid (Ext w3 w4) := hid hx4
  have HP4 := hid (RTs.old hp4 (plus_lt (fun _ h => h) hx4))
  obtain ⟨a4, c4, rfl⟩ := hp4.form
  clear hx4 hp4
  go_wp2_with fail
  refine (rpoly_poly (S := Old w4) _ knA w4 HP4.out (fun _ h => h) (ones_sz (by decide) all_one) (kn_len knA_can.may)).mono ?_
  rintro e w5 ⟨v5, rfl, hp5, hx5⟩
  have HX5 : Hid (Ext w4 w5) := hid hx5
  have HP5 := hid (Terms.old hp5 New.lt)
  obtain ⟨a5, c5, rfl⟩ := hp5.form
  clear hx5 hp5
  go_wp2_with fail
  refine (rpoly_small 1 w5 (by omega)).mono ?_
  rintro e w6 ⟨v6, rfl, hp6, hx6⟩
  have HX6 : Hid (Ext w5 w6) := hid hx6
  have HP6 := hid (RTs.old hp6 New.lt)
  obtain ⟨a6, c6, rfl⟩ := hp6.form
  clear hx6 hp6
  go_wp2_with fail
  refine (rpoly_add (S := Old w6) _ _ knY (numP 1) w6 (fun _ h => h) (RTs.on HP2.out (HX3.out.trans (HX4.out.trans (HX5.out.trans HX6.out)))) HP6.out knY_can.may (putP_may canP_nil.may rfl) knOne (fun k _ => kn_step k)).mono ?_
  rw [kn3]
  rintro e w7 ⟨v7, rfl, hp7, hx7⟩
  have HX7 : Hid (Ext w6 w7) := hid hx7
  have HP7 := hid (RTs.old hp7 (plus_lt (fun _ h => h) hx7))
  obtain ⟨a7, c7, rfl⟩ := hp7.form
  clear hx7 hp7
  go_wp2_with fail
  refine (rpoly_poly (S := Old w7) _ knB w7 HP7.out (fun _ h => h) (ones_sz (by decide) knB_one) (kn_len knB_can.may)).mono ?_
  rintro e w8 ⟨v8, rfl, hp8, hx8⟩
  have HX8 : Hid (Ext w7 w8) := hid hx8
  have HP8 := hid (Terms.old hp8 New.lt)
  obtain ⟨a8, c8, rfl⟩ := hp8.form
  have HA8 := hid (Terms.on HP5.out (HX6.out.trans (HX7.out.trans hx8)))
  have HY1 := hid (RTs.on HP1.out (HX2.out.trans (HX3.out.trans (HX4.out.trans (HX5.out.trans (HX6.out.trans (HX7.out.trans hx8)))))))
  have HY2 := hid (RTs.on HP2.out (HX3.out.trans (HX4.out.trans (HX5.out.trans (HX6.out.trans (HX7.out.trans hx8))))))
  have HXX := hid (HX1.out.trans (HX2.out.trans (HX3.out.trans (HX4.out.trans (HX5.out.trans (HX6.out.trans (HX7.out.trans hx8)))))))
  clear hx8 hp8
  go_wp2_with fail
  refine (rpoly_poly (S := Old w8) _ knX w8 HY1.out (fun _ h => h) (ones_sz (by decide) all_one) (kn_len knX_can.may)).mono ?_
  rintro e w9 ⟨v9, rfl, hp9, hx9⟩
  have HX9 : Hid (Ext w8 w9) := hid hx9
  have HP9 := hid (Terms.old hp9 New.lt)
  obtain ⟨a9, c9, rfl⟩ := hp9.form
  clear hx9 hp9
  go_wp2_with fail
  refine (rpoly_poly (S := Old w9) _ knY w9 (RTs.on HY2.out HX9.out) (fun _ h => h) (ones_sz (by decide) all_one) (kn_len knY_can.may)).mono ?_
  rintro e w10 ⟨v10, rfl, hp10, hx10⟩
  have HX10 : Hid (Ext w9 w10) := hid hx10
  have HP10 := hid (Terms.old hp10 New.lt)
  obtain ⟨a10, c10, rfl⟩ := hp10.form
  clear hx10 hp10
  go_wp2_with fail
  refine (rank_compare (S := Old w10) _ _ (ofP knX) (ofP knY) w10 (Terms.on HP9.out HX10.out) HP10.out (fun _ h => h) (ones_small all_one) (ones_small all_one)).mono ?_
  rw [plainP_ofP knX_can, plainP_ofP knY_can, rk1]
  rintro e w11 ⟨rfl, hx11⟩
  have HX11 : Hid (Ext w8 w11) := hid (HX9.out.trans (HX10.out.trans hx11))
  clear hx11
  go_wp2_with fail
  refine (rpoly_poly (S := Old w11) _ knX w11 (RTs.on HY1.out HX11.out) (fun _ h => h) (ones_sz (by decide) all_one) (kn_len knX_can.may)).mono ?_
  rintro e w12 ⟨v12, rfl, hp12, hx12⟩
  have HX12 : Hid (Ext w8 w12) := hid (HX11.out.trans hx12)
  have HP12 := hid (Terms.old hp12 New.lt)
  obtain ⟨a12, c12, rfl⟩ := hp12.form
  clear hx12 hp12
  go_wp2_with fail
  refine (rpoly_poly (S := Old w12) _ knY w12 (RTs.on HY2.out HX12.out) (fun _ h => h) (ones_sz (by decide) all_one) (kn_len knY_can.may)).mono ?_
  rintro e w13 ⟨v13, rfl, hp13, hx13⟩
  have HX13a : Hid (Ext w12 w13) := hid hx13
  have HX13 : Hid (Ext w8 w13) := hid (HX12.out.trans hx13)
  have HP13 := hid (Terms.old hp13 New.lt)
  obtain ⟨a13, c13, rfl⟩ := hp13.form
  clear hx13 hp13
  go_wp2_with fail
  refine (rank_reduced (S := Old w13) _ _ (ofP knX) (ofP knY) w13 (Terms.on HP12.out HX13a.out) HP13.out (fun _ h => h) (ones_small all_one) (ones_small all_one)).mono ?_
  rw [plainP_ofP knX_can, plainP_ofP knY_can, rk2]
  rintro e w14 ⟨rfl, hx14⟩
  have HX14 : Hid (Ext w8 w14) := hid (HX13.out.trans hx14)
  clear hx14
  go_wp2_with fail
  refine (rank_compare (S := Old w14) _ _ (ofP knA) (ofP knB) w14 (Terms.on HA8.out HX14.out) (Terms.on HP8.out HX14.out) (fun _ h => h) (ones_small all_one) (ones_small knB_one)).mono ?_
  rw [plainP_ofP knA_can, plainP_ofP knB_can, rk3]
  rintro e w15 ⟨rfl, hx15⟩
  have HX15 : Hid (Ext w8 w15) := hid (HX14.out.trans hx15)
  clear hx15
  go_wp2_with fail
  refine (rank_reduced (S := Old w15) _ _ (ofP knA) (ofP knB) w15 (Terms.on HA8.out HX15.out) (Terms.on HP8.out HX15.out) (fun _ h => h) (ones_small all_one) (ones_small knB_one)).mono ?_
  rw [plainP_ofP knA_can, plainP_ofP knB_can, rk4]
  rintro e w16 ⟨rfl, hx16⟩
  have HX16 : Hid (Ext w8 w16) := hid (HX15.out.trans hx16)
  clear hx16
  go_wp2_with fail
  refine (rank_of (S := Old w16) _ (ofP knA) w16 (Terms.on HA8.out HX16.out) (fun _ h => h) (ones_small all_one)).mono ?_
  rw [plainP_ofP knA_can, rk5]
  unfold RankV
  rintro e w17 ⟨rfl, hx17⟩
  have HX17 : Hid (Ext w8 w17) := hid (HX16.out.trans hx17)
  clear hx17
  go_wp2
  all_goals
    go_ret
    exact ⟨rfl, HXX.out.trans HX17.out⟩
end Go.Proofs.YthplgldclilccaaGreat

namespace Go.Proofs.YthplgldclilccaaGreat
open Go.RowKit

theorem fit_at {ls : List (List RTerm)} (h : ls.length ≤ 8 ∧ ∀ ts ∈ ls, ts.length ≤ 12 ∧ ∀ t ∈ ts, t.c.mag.length ≤ 20 ∧ t.m.length ≤ 12) {p : List RTerm} (hp : p ∈ ls) : fitT p ∧ smallT p := fit_T (h.2 p hp)
theorem terms_okL {S : Nat → Prop} {w : World} {v : Value} {ls : List (List RTerm)} (h : Polys S w v ls) : ∀ p ∈ ls, okT p := fun p hp => by
  obtain ⟨k, hk⟩ := List.getElem?_of_mem hp
  obtain ⟨b, off, -, hx⟩ := h
  obtain ⟨vp, -, h2⟩ := hx k p hk
  exact h2.okT

set_option maxRecDepth 100000 in
set_option maxHeartbeats 8000000 in
theorem law_sorts (vl vm : Value) (ls ms : List (List RTerm)) (w : World) (hl : Polys (Old w) w vl ls) (hm : Polys (Old w) w vm ms) :
    Calls Tryz.prog 3 #[vl, vm] w fun e w' => e = .returned (.bool true) ∧ Ext w w' := by
  have hnot : ∀ (x : Bool) (w : World), (Op.unary .not (.bool x)).run Tryz.prog w = .ok (.bool (!x)) w := fun _ _ => rfl
  have HL := hid hl
  have HM := hid hm
  obtain ⟨al, cl, rfl⟩ := hl.form
  obtain ⟨am, cm, rfl⟩ := hm.form
  have hll := hl.len_le
  obtain ⟨nl, hnl⟩ : ∃ n, n = ls.length := ⟨_, rfl⟩
  obtain ⟨nm, hnm⟩ : ∃ n, n = ms.length := ⟨_, rfl⟩
  rw [← hnl] at HL hll ⊢
  rw [← hnm] at HM ⊢
  have HNL := hid hnl
  have HOK := hid (terms_okL hl)
  have CG := hid (fun (W : World) (hW : Ext w W) => law15_great (S := Old _) _ ls W (HL.out.on hW) (fun _ h => h))
  have CM := hid (fun (W : World) (hW : Ext w W) => law15_great (S := Old _) _ ms W (HM.out.on hW) (fun _ h => h))
  clear hl hm hnl hnm
  cases hg : greatL ls with
  | true =>
    simp only [hg] at CG
    have HCG := hid CG.out
    clear CG CM hg
    go_enter Tryz.func3, Tryz.ntmps3
    go_wp2_with fail
    with_reducible refine (HCG.out _ (Ext.refl w)).mono ?_
    rintro e w1 ⟨rfl, hx1⟩
    have HX1 := hid hx1
    clear hx1
    go_wp2_with fail
    with_reducible refine (law15_known w1).mono ?_
    rintro e w2 ⟨rfl, hx2⟩
    have HX2 := hid (HX1.out.trans hx2)
    clear hx2
    go_wp2
    all_goals
      go_ret
      exact ⟨rfl, HX2.out⟩
  | false =>
    simp only [hg] at CG
    have HCG := hid CG.out
    have HFL := hid (fit_of hg)
    clear CG hg
    cases hg : greatL ms with
    | true =>
      simp only [hg] at CM
      have HCM := hid CM.out
      clear CM hg
      go_enter Tryz.func3, Tryz.ntmps3
      go_wp2_with fail
      with_reducible refine (HCG.out _ (Ext.refl w)).mono ?_
      rintro e w1 ⟨rfl, hx1⟩
      have HX1 := hid hx1
      clear hx1
      go_wp2_with fail
      with_reducible refine (HCM.out _ HX1.out).mono ?_
      rintro e w2 ⟨rfl, hx2⟩
      have HX2 := hid (HX1.out.trans hx2)
      clear hx2
      go_wp2_with fail
      with_reducible refine (law15_known w2).mono ?_
      rintro e w3 ⟨rfl, hx3⟩
      have HX3 := hid (HX2.out.trans hx3)
      clear hx3
      go_wp2
      all_goals
        go_ret
        exact ⟨rfl, HX3.out⟩
    | false =>
      simp only [hg] at CM
      have HCM := hid CM.out
      have HFM := hid (fit_of hg)
      clear CM hg
      have HSL : Hid (smallL ls) := hid (fun p hp => (fit_at HFL.out hp).2)
      have HSM : Hid (smallL ms) := hid (fun p hp => (fit_at HFM.out hp).2)
      have HNL8 : Hid (nl ≤ 8) := hid (by rw [HNL.out]; exact HFL.out.1)
      have HCS := hid (fun (W : World) (v : Value) (hv : Polys (Old W) W v ls) => rank_sort (S := Old W) v ls W hv (fun _ h => h) (fun p hp => ⟨fun t ht => Nat.le_trans ((HFL.out.2 p hp).2 t ht).1 (by decide), Nat.le_trans (HFL.out.2 p hp).1 (by decide)⟩) (Nat.le_trans HFL.out.1 (by decide)))
      have HCP := hid (fun (W : World) (hW : Ext w W) => law15_plain (S := Old W) _ ls W (HL.out.on hW) (fun _ h => h) (fun p hp => (fit_at HFL.out hp).1) (Nat.le_trans HFL.out.1 (by decide)))
      have HCQ := hid (fun (W : World) (hW : Ext w W) => law15_plain (S := Old W) _ ms W (HM.out.on hW) (fun _ h => h) (fun p hp => (fit_at HFM.out hp).1) (Nat.le_trans HFM.out.1 (by decide)))
      have HCL := hid (fun (W : World) (hW : Ext w W) => rank_lower (S := Old W) _ _ ls ms W (HL.out.on hW) (HM.out.on hW) (fun _ h => h) HSL.out HSM.out)
      have HCZ := hid (fun (W : World) (v : Value) (hv : RPs (Old W) W v (ls.map plainP)) => rref_sort v (ls.map plainP) W hv (fun q hq => by obtain ⟨p, -, rfl⟩ := List.mem_map.1 hq; exact plainP_can p) (by rw [List.length_map]; exact Nat.le_trans HFL.out.1 (by decide)))
      have HCW := hid (fun (W : World) (u v : Value) (hu : RPs (Old W) W u (ls.map plainP)) (hv : RPs (Old W) W v (ms.map plainP)) => rref_lower u v (ls.map plainP) (ms.map plainP) W hu hv (fun q hq => by obtain ⟨p, -, rfl⟩ := List.mem_map.1 hq; exact plainP_can p) (fun q hq => by obtain ⟨p, -, rfl⟩ := List.mem_map.1 hq; exact plainP_can p))
      simp only [lowers_plain] at HCW
      go_enter Tryz.func3, Tryz.ntmps3
      go_wp2_with fail
      with_reducible refine (HCG.out _ (Ext.refl w)).mono ?_
      rintro e w1 ⟨rfl, hx1⟩
      have HX1 := hid hx1
      clear hx1
      go_wp2_with fail
      with_reducible refine (HCM.out _ HX1.out).mono ?_
      rintro e w2 ⟨rfl, hx2⟩
      have HX2 := hid (HX1.out.trans hx2)
      clear hx2
      go_wp2
      go_loopw [5, 6, 20] (fun o _ i wr => ∃ (k : Nat) (xs : List Value), k ≤ nl ∧ i = .int .i64 k ∧ Ext w2 wr ∧ Hid (wr.ownsRow w2.heap.size 26 1 o k xs) ∧ Hid (CellsL (NewOff w2 wr o) wr xs (ls.take k))) (fun _ _ i _ => nl - (intOf i).toNat)
      case atStart => exact ⟨0, [], Nat.zero_le _, rfl, Ext.refl _, World.ownsRow_nil _ _ _ _, CellsL.nil _ _⟩
      case round =>
        obtain ⟨k, xs, hk, rfl, hx, HW, HY⟩ := hrel
        have HX := hid hx
        by_cases hlt : k < nl
        · obtain ⟨p, hp⟩ := some_of_lt (l := ls) (j := k) (by rw [← HNL.out]; exact hlt)
          obtain ⟨bl, off, vp, rfl, -, hn1, hm1, hSb, h1, h2⟩ := (HL.out.on (HX2.out.trans hx)).cellAt hp
          have HT : Hid (ls.take (k + 1) = ls.take k ++ [p]) := hid (by rw [List.take_add_one, hp]; rfl)
          have HF := hid (HFL.out.2 p (List.mem_of_getElem? hp))
          have HC := hid (rpoly_copy vp p wr h2 (fun _ h => h) (Nat.le_trans HF.out.1 (by decide)) (fun t ht => ⟨Nat.le_trans (HF.out.2 t ht).1 (by decide), Nat.le_trans (HF.out.2 t ht).2 (by decide)⟩))
          have HKB : Hid (k ≤ 1000000000) := hid (by have := HNL8.out; omega)
          clear h2 hp hx
          go_wp2_with fail
          with_reducible refine HC.out.mono ?_
          rintro e w3 ⟨v3, rfl, hp3, hx3⟩
          have HW3 := hid (own_ext HW.out hx3)
          have HY3 := hid (cellsL_ext HY.out hx3)
          have HP3 := hid (terms_off HX.out HW.out hp3)
          have HX3 := hid (HX.out.trans hx3)
          obtain ⟨a3, c3, rfl⟩ := hp3.form
          obtain ⟨np, hnp⟩ : ∃ n, n = p.length := ⟨_, rfl⟩
          rw [← hnp] at HP3 ⊢
          clear hp3 hx3 hnp
          go_wp2_with (at_builtin; refine wpList_append_new _ rfl (.tmp 23) (.tmp 29) 22 rfl w2.heap.size 26 (.slice none 0 0) 1 24 Tryz.underlying22 Tryz.infoPoly rfl (by decide) _ k xs rfl HW3.out #[.slice a3 np c3] rfl (one_cellV rfl) rfl HKB.out (by decide) HX3.out.size ?_; intro v4 w4 hown hg hbk; have HW4 := hid hown; have HG4 := hid hg; have HBK := hid hbk; clear hown hg hbk)
          go_roundw
          case rel =>
            refine ⟨k + 1, xs ++ (#[.slice a3 np c3] : Array Value).toList, by omega, by go_num, own_grown0 HX3.out HW3.out HG4.out, HW4.out, ?_⟩
            show CellsL _ _ _ _
            rw [HT.out]
            exact cellsL_grown (HY3.out.snoc HP3.out) HG4.out HBK.out (Nat.le_succ _)
          case measure => simp only [intOf]; omega
        · obtain rfl : nl = k := by omega
          have hcells : CellsL (NewOff w2 wr u5) wr xs ls := by
            have := HY.out
            rwa [List.take_of_length_le (by rw [← HNL.out]; exact Nat.le_refl _)] at this
          have hin : Polys (Old wr) wr u5 ls := own_polys (by rw [← HNL.out]; exact HW.out) (hcells.to (Kept.refl _ _) (fun _ h => h.1.2)) (fun _ _ h2 => h2)
          have HXW := hid (HX2.out.trans hx)
          have HCS1 := hid (HCS.out wr _ hin)
          obtain ⟨ai, ci, rfl⟩ := hin.form
          have HIN := hid hin
          rw [← HNL.out] at HIN HCS1 ⊢
          clear hcells hin hx HW HY HX
          go_wp2_with fail
          with_reducible refine HCS1.out.mono ?_
          rintro e w3 ⟨v3, rfl, hp3, hx3⟩
          have HX3 := hid (HXW.out.trans hx3)
          have HG := hid (hp3.to (S' := Old w3) (Kept.refl _ _) New.lt)
          have hgl := hp3.len_le
          obtain ⟨ag, cg, rfl⟩ := hp3.form
          have HI3 := hid (HIN.out.on hx3)
          obtain ⟨sn, hsn⟩ : ∃ n, n = (sortR ls).length := ⟨_, rfl⟩
          rw [← hsn] at HG hgl ⊢
          have HSN := hid hsn
          clear hp3 hx3 hsn
          go_wp2_with fail
          with_reducible refine (HCP.out w3 HX3.out).mono ?_
          rintro e w4 ⟨v4, rfl, hp4, hx4⟩
          have HX4 := hid (HX3.out.trans hx4)
          have HG4 := hid (HG.out.on hx4)
          have HI4 := hid (HI3.out.on hx4)
          have HCZ4 := hid (HCZ.out w4 v4 (hp4.to (Kept.refl _ _) (fun k h => h.elim (fun h => Nat.lt_of_lt_of_le h hx4.size) (fun h => h.2))))
          obtain ⟨a4, c4, rfl⟩ := hp4.form
          obtain ⟨z4, hz4⟩ : ∃ n, n = (ls.map plainP).length := ⟨_, rfl⟩
          rw [← hz4] at HCZ4 ⊢
          clear hp4 hx4 hz4
          go_wp2_with fail
          with_reducible refine HCZ4.out.mono ?_
          rintro e w5 ⟨v5, rfl, hp5, hx5⟩
          have HX5 := hid (HX4.out.trans hx5)
          have HG5 := hid (HG4.out.on hx5)
          have HI5 := hid (HI4.out.on hx5)
          have HZ5 := hid hp5
          obtain ⟨a5, c5, rfl⟩ := hp5.form
          have hzl : (sortZ (ls.map plainP)).length = sn := by rw [sorts_len, HSN.out]
          rw [hzl] at HZ5 ⊢
          clear hp5 hx5 hzl
          go_wp2_with fail
          with_reducible refine (HCL.out w5 HX5.out).mono ?_
          rintro e w6 ⟨rfl, hx6⟩
          have HX6 := hid (HX5.out.trans hx6)
          have HG6 := hid (HG5.out.on hx6)
          have HI6 := hid (HI5.out.on hx6)
          have HZ6 := hid (HZ5.out.on hx6)
          clear hx6
          go_wp2_with fail
          with_reducible refine (HCP.out w6 HX6.out).mono ?_
          rintro e w7 ⟨v7, rfl, hp7, hx7⟩
          have HX7 := hid (HX6.out.trans hx7)
          have HG7 := hid (HG6.out.on hx7)
          have HI7 := hid (HI6.out.on hx7)
          have HZ7 := hid (HZ6.out.on hx7)
          have HU7 := hid (hp7.to (S' := Old w7) (Kept.refl _ _) (fun k h => h.elim (fun h => Nat.lt_of_lt_of_le h hx7.size) (fun h => h.2)))
          obtain ⟨a7, c7, rfl⟩ := hp7.form
          obtain ⟨z7, hz7⟩ : ∃ n, n = (ls.map plainP).length := ⟨_, rfl⟩
          rw [← hz7] at HU7 ⊢
          clear hp7 hx7 hz7
          go_wp2_with fail
          with_reducible refine (HCQ.out w7 HX7.out).mono ?_
          rintro e w8 ⟨v8, rfl, hp8, hx8⟩
          have HX8 := hid (HX7.out.trans hx8)
          have HG8 := hid (HG7.out.on hx8)
          have HI8 := hid (HI7.out.on hx8)
          have HZ8 := hid (HZ7.out.on hx8)
          have HCW8 := hid (HCW.out w8 _ v8 (HU7.out.on hx8) (hp8.to (Kept.refl _ _) (fun k h => h.elim (fun h => Nat.lt_of_lt_of_le h hx8.size) (fun h => h.2))))
          obtain ⟨a8, c8, rfl⟩ := hp8.form
          obtain ⟨z8, hz8⟩ : ∃ n, n = (ms.map plainP).length := ⟨_, rfl⟩
          rw [← hz8] at HCW8 ⊢
          clear hp8 hx8 hz8
          generalize lowerL ls ms = lo at *
          go_wp2_with fail
          with_reducible refine HCW8.out.mono ?_
          rintro e w9 ⟨rfl, hx9⟩
          have HX9 := hid (HX8.out.trans hx9)
          have HG9 := hid (HG8.out.on hx9)
          have HI9 := hid (HI8.out.on hx9)
          have HZ9 := hid (HZ8.out.on hx9)
          clear hx9
          have q0 : (lo != lo) = false := by simp
          go_wp2
          go_loopw [9, 55] (fun _ i wy => ∃ k : Nat, k ≤ sn ∧ i = .int .i64 k ∧ Ext w9 wy) (fun _ i _ => sn - (intOf i).toNat)
          case atStart => exact ⟨0, Nat.zero_le _, rfl, Ext.refl _⟩
          case round =>
            obtain ⟨wy, rfl⟩ : ∃ wo : World, wo = wr := ⟨_, rfl⟩
            obtain ⟨k, hk, rfl, hx⟩ := hrel
            have HX := hid hx
            by_cases hlt2 : k < sn
            · obtain ⟨p, hp⟩ := some_of_lt (l := sortR ls) (j := k) (by rw [← HSN.out]; exact hlt2)
              obtain ⟨q, hq, hqp, hqc, hq0, hpl⟩ := sorts_at HOK.out hp
              have HQP := hid hqp
              have HFQ := HFL.out.2 p hpl
              obtain ⟨bg, og, vp, rfl, -, hn1, hm1, -, h1, h2⟩ := (HG9.out.on hx).cellAt hp
              obtain ⟨bz, oz, vq, rfl, -, hn2, hm2, -, h3, h4⟩ := (HZ9.out.on hx).cellAt hq
              have hszq : szP q := by
                rw [hq0]
                unfold plainP
                split
                · exact szP_toP (HOK.out p hpl) (fit_T HFQ).1
                · exact ⟨by simp, fun t ht => by simp at ht⟩
              have hml : ∀ t ∈ q, t.2.length ≤ 1000000 := fun t ht => Nat.le_trans (mayM_len (hqc.1 t ht).2) (by decide)
              have C1 := hid (fun (W : World) (hW : Ext wy W) => rpoly_poly (S := Old wy) vq q W (h4.to (Kept.ext hW (fun _ h => h)) (fun _ h => h)) (fun k h => Nat.lt_of_lt_of_le h hW.size) hszq hml)
              have C2 := hid (fun (W : World) (hW : Ext wy W) (v : Value) (hv : Terms (Old W) W v (ofP q)) => rpoly_same (S := Old W) vp v p (ofP q) W (h2.on hW) hv (fun _ h => h))
              rw [hqp] at C1
              rw [hqp, show decide (p = p) = true from decide_eq_true rfl] at C2
              have x0 : Ext wy wy.drew := (Ext.refl wy).drew
              have HX0 := hid x0
              have S0 : _ ∧ _ := And.intro (x0.cell h1) (x0.cell h3)
              have HC0 := hid (And.intro h1 h3)
              obtain ⟨ap, cp, rfl⟩ := h2.form
              obtain ⟨aq, cq, rfl⟩ := h4.form
              have q1 : (k : Int) < (sn : Int) := by omega
              clear h1 h2 h3 h4 hp hq hqp hqc hq0 hpl hszq hml HFQ x0 hx
              go_wp2
              go_region_held3 (fun W => W.cell? ⟨bg, og + k, none⟩ = some (.slice ap p.length cp) ∧ W.cell? ⟨bz, oz + k, none⟩ = some (.slice aq q.length cq)) (first | exact S0 | exact S1 | exact S2)
                (first
                  | (go_at_call 17; refine (C1.out _ HX0.out).mono ?_
                     rintro e w10 ⟨v10, rfl, hp10, hx10⟩; have HX10 := hid (HX0.out.trans hx10); have C3 := hid (C2.out w10 HX10.out v10 (hp10.to (Kept.refl _ _) New.lt)); have qf := hp10.form; obtain ⟨a10, c10, rfl⟩ := qf; have S1 : _ ∧ _ := And.intro (HX10.out.cell HC0.out.1) (HX10.out.cell HC0.out.2); clear hp10 hx10)
                  | (go_at_call 16; refine C3.out.mono ?_
                     rintro e w11 ⟨rfl, hx11⟩; have HX11 := hid (HX10.out.trans hx11); have S2 : _ ∧ _ := And.intro (HX11.out.cell HC0.out.1) (HX11.out.cell HC0.out.2); clear hx11))
              all_goals
                go_wp2
                go_roundw
                case rel => exact ⟨k + 1, by omega, by go_num, HX.out.trans HX11.out⟩
                case measure => simp only [intOf]; omega
            · have q1 : (sn : Int) ≤ (k : Int) := by omega
              have HXQ := hid (HX9.out.trans hx)
              have HI10 := hid (HI9.out.on hx)
              clear hx HX
              go_wp2
              go_loopw [10, 72] (fun _ i wz => ∃ k : Nat, k ≤ nl ∧ i = .int .i64 k ∧ Ext wy wz) (fun _ i _ => nl - (intOf i).toNat)
              case atStart => exact ⟨0, Nat.zero_le _, rfl, Ext.refl _⟩
              case round =>
                obtain ⟨wz, rfl⟩ : ∃ wo : World, wo = wr := ⟨_, rfl⟩
                obtain ⟨j, hj, rfl, hx⟩ := hrel
                have HX := hid hx
                by_cases hlt3 : j < nl
                · obtain ⟨p, hp⟩ := some_of_lt (l := ls) (j := j) (by rw [← HNL.out]; exact hlt3)
                  obtain ⟨b1, o1, v1, rfl, -, hn1, hm1, -, h1, h2⟩ := (HI10.out.on hx).cellAt hp
                  obtain ⟨b2, o2, v2, rfl, -, hn2, hm2, -, h3, h4⟩ := (HL.out.on (HXQ.out.trans hx)).cellAt hp
                  have HC := hid (fun Y : Later wz => rpoly_same (S := Old wz) v1 v2 p p Y.w' (h2.ext Y.h (fun _ h => h)) (h4.ext Y.h (fun _ h => h)) (fun _ h => Nat.lt_of_lt_of_le h Y.h.size))
                  rw [show decide (p = p) = true from decide_eq_true rfl] at HC
                  obtain ⟨ap, cp, rfl⟩ := h2.form
                  obtain ⟨aq, cq, rfl⟩ := h4.form
                  have L1 := fun Y : Later wz => Y.h.cell h1
                  have L2 := fun Y : Later wz => Y.h.cell h3
                  have q2 : (j : Int) < (nl : Int) := by omega
                  clear h1 h2 h3 h4 hp hx
                  go_wp2
                  refine wp_region_later (by kernel_rfl) (by kernel_rfl) ?_
                  repeat (go_big_quiet_step (first | (go_at_call 16; exact Later.done (HC.out _))))
                  refine wpQuiet_nil ?_
                  intro W2 hW2
                  have HW2 := hid (HX.out.trans hW2)
                  clear L1 L2 hW2 q2
                  go_wp2
                  go_roundw
                  case rel => exact ⟨j + 1, by omega, by go_num, HW2.out⟩
                  case measure => simp only [intOf]; omega
                · have q2 : (nl : Int) ≤ (j : Int) := by omega
                  clear hx
                  go_wp2_with fail
                  with_reducible refine (law15_known wz).mono ?_
                  rintro e w12 ⟨rfl, hx12⟩
                  have HX12 := hid (HXQ.out.trans (HX.out.trans hx12))
                  clear hx12
                  go_wp2
                  all_goals
                    go_ret
                    exact ⟨rfl, HX12.out⟩
end Go.Proofs.YthplgldclilccaaGreat

namespace Go.Proofs.YthplgldclilccaaGreat
open Go.RowKit Go.Deep Go.ChangeShapes Go.WideShapes Go.ChangeAt

set_option maxRecDepth 100000 in
theorem sorts_lifted (os : Os) (started : os.Started) (H : Type) (enc : TypeId × Value → H) :
    ReturnsInHanded {} Tryz.checked os 3 .any (Rows.rankSortsSpec.pre6 enc Tryz.prog Tryz.f3 Rows.rankSortsRow.domain false) (Rows.rankSortsSpec.post enc Tryz.prog Tryz.f3 false true false false) := by
  refine returnsInHanded_of_change (C := Tryz.checked) Tryz.own started (by kernel_rfl) Tryz.func3
    (ChangeSpec.witness6 (enc := enc) (C := Tryz.checked) false ⟨#[], #[.slice none 0 0, .slice none 0 0], []⟩ 8 (by kernel_rfl) (by kernel_rfl) (by kernel_rfl) (by kernel_rfl)) ?_
  intro W base args ds gs before hval0 hW _ _
  have hval : ∀ (j : Nat) t v, Tryz.f3.params[j]? = some t → args[j]? = some v → Value.okWide Tryz.prog W .any base t v := hval0
  have hW' := hW
  obtain ⟨p, q, hA0, hV, _, _, _⟩ := hW'
  have hA : DataW.TrodAll enc Tryz.prog W 0 (fun _ => true) true Tryz.f3.params.toList args.toList ds p := hA0
  rw [Tryz.params3] at hA hval
  obtain ⟨v0, v1, d0, d1, p0, p1, rfl, rfl, rfl, h0, h1⟩ := trodAll_two hA
  obtain ⟨rfl, rfl⟩ := trodVars_none hV
  obtain ⟨fuel0, hf0⟩ := h0
  rw [slice_cells Tryz.underlying22 (hval 0 _ v0 rfl rfl)] at hf0
  obtain ⟨fuel1, hf1⟩ := h1
  rw [slice_cells Tryz.underlying22 (hval 1 _ v1 rfl rfl)] at hf1
  obtain ⟨ls, hl⟩ := open_polys hf0
  obtain ⟨ms, hm⟩ := open_polys hf1
  refine (law_sorts v0 v1 ls ms W hl hm).mono fun e W' h => ?_
  obtain ⟨rfl, hb⟩ := h
  exact ⟨_, rfl, law_post hW rfl rfl rfl (by rw [Tryz.params3]; intro t ht; simp at ht; rcases ht with rfl | rfl <;> exact ⟨by kernel_rfl, by decide +kernel⟩) hb⟩

theorem sorts_holds : Rows.RankSortsSaid :=
  OpenClaim.holds_of_wide 3 Tryz.f3 rfl rfl rfl rfl rfl rfl rfl ⟨rfl, rfl, rfl, rfl, rfl⟩ rfl rfl rfl rfl rfl (by kernel_rfl) Tryz.func3 (by kernel_rfl)
    (of_decide_eq_true (by kernel_rfl)) (by unfold Func.isWrapper; first | (rw [if_pos (by decide +kernel)]; kernel_rfl) | (rw [if_neg (by decide +kernel)]; exact ⟨rfl, rfl⟩))
    (fun os started H enc _ => sorts_lifted os started H enc)
end Go.Proofs.YthplgldclilccaaGreat
