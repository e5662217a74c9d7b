/- The document: a number, a variable, as polynomials. -/
import Derived.Test.YthplgldclilccaaRefToPoly
namespace Go.Proofs.Ythplgldclilccaa
open Go.RowKit

theorem szZ_le {z : Int} {n : Nat} (h : z.natAbs < 10 ^ n) (hn : n ≤ 2000000) : szZ z := Nat.le_trans (rep_len_le two_le_10 _ _ h) hn
theorem szZ_i64 {n : Nat} (h : n < 9223372036854775808) : szZ (n : Int) := szZ_le (n := 19) (by simp only [Int.natAbs_natCast]; omega) (by omega)
/-- a number as a polynomial -/
def numP (n : Nat) : PZ := putP [] (n : Int) []
theorem New.plus {w w1 : World} : ∀ k, Plus (fun _ => False) w w1 k → New w w1 k := fun k hk => by
  rcases hk with h | h
  · exact h.elim
  · exact h

set_option maxRecDepth 100000 in
set_option maxHeartbeats 4000000 in
theorem rpoly_small (n : Nat) (w : World) (hn : n < 9223372036854775808) :
    Calls Try.prog 34 #[.int .i64 (n : Nat)] w fun e w' => ∃ v', e = .returned v' ∧ RTs (New w w') w' v' (numP n) ∧ Ext w w' := by
  have C1 := hid (zed_small n w hn)
  have HZ := hid (szZ_i64 hn)
  clear hn
  go_enter Try.func34, Try.ntmps34
  go_wp2_with fail
  refine C1.out.mono ?_
  rintro e w1 ⟨v1, rfl, hz1, hx1⟩
  have HX1 := hid hx1
  have C2 := hid (rpoly_put (S := New w w1) (.slice none 0 0) v1 (.slice none 0 0) [] (n : Int) [] w1 (fun _ h => h.2) (RTs.nilv _ _ _ _ (by omega)) hz1 (Pows.empty _ _ _) canP_nil.may rfl ⟨by simp, fun t ht => by simp at ht⟩ HZ.out)
  clear hx1 hz1
  go_wp2_with fail
  refine C2.out.mono ?_
  rintro e w2 ⟨v2, rfl, hp2, hx2⟩
  have HX2 := hid (HX1.out.trans hx2)
  have HP2 : Hid (RTs (New w w2) w2 v2 (numP n)) := hid (hp2.to (Kept.refl _ _) (fun k hk => by
    rcases hk with h | h
    · exact ⟨h.1, Nat.lt_of_lt_of_le h.2 hx2.size⟩
    · exact ⟨Nat.le_trans HX1.out.size h.1, h.2⟩))
  clear hp2 hx2
  go_wp2
  all_goals
    go_ret
    exact ⟨_, rfl, HP2.out, HX2.out⟩

set_option maxRecDepth 100000 in
set_option maxHeartbeats 4000000 in
theorem rpoly_x (x : Int) (w : World) (hx : inI64 x) :
    Calls Try.prog 30 #[.int .i64 x] w fun e w' => ∃ v', e = .returned v' ∧ RTs (New w w') w' v' [(1, [(x, 1)])] ∧ Ext w w' := by
  have C1 := hid (zed_small 1 w (by omega))
  have HXX := hid hx
  clear hx
  go_enter Try.func30, Try.ntmps30
  go_wp2_with fail
  refine C1.out.mono ?_
  rintro e w1 ⟨v1, rfl, hz1, hx1⟩
  obtain ⟨vd, rfl, hd⟩ := hz1
  have HX1 := hid hx1
  have HD := hid hd
  obtain ⟨ad, cd, rfl⟩ := hd.form
  obtain ⟨nd, hnd⟩ : ∃ n, n = (rep 10 ((1 : Nat) : Int).natAbs).length := ⟨_, rfl⟩
  obtain ⟨bd, hbd⟩ : ∃ b, b = decide (((1 : Nat) : Int) < 0) := ⟨_, rfl⟩
  rw [← hnd] at HD ⊢
  rw [← hbd]
  have HB := hid hbd
  clear hx1 hd hnd hbd
  go_wp2
  go_ret
  have x2 : Ext w1 ((w1.alloc (.cells #[.int .i64 x, .int .i64 1] 82)).alloc (.cells #[.bool bd, .slice ad nd cd, .slice (some ⟨w1.heap.size, 0, none⟩) 1 1] 103)) := (Ext.alloc (Ext.alloc (Ext.refl w1) _) _)
  have hb : (w1.alloc (.cells #[.int .i64 x, .int .i64 1] 82)).heap.size = w1.heap.size + 1 := size_alloc _ _
  refine ⟨_, rfl, ?_, HX1.out.trans x2⟩
  refine ⟨w1.heap.size + 1, 0, ⟨_, 1, rfl, Nat.le_refl _, by decide, fun _ => by rw [← hb], fun _ => ⟨Nat.le_trans HX1.out.size (Nat.le_succ _), by rw [size_alloc, hb] <;> omega⟩⟩, fun j t hj => ?_⟩
  have hj0 : j = 0 := by have := lt_of_some hj; simp at this; exact this
  subst hj0
  obtain rfl : (1, [(x, 1)]) = t := by simpa using hj
  refine ⟨.slice ad nd cd, .slice (some ⟨w1.heap.size, 0, none⟩) 1 1, ?_, ?_, ?_, HD.out.to (Kept.ext x2 (fun _ h => h.2)) (fun k h => ⟨h.1, Nat.lt_of_lt_of_le h.2 x2.size⟩), ?_⟩
  · exact cell_new _ _ _ (by rw [hb]) (by rw [HB.out]; rfl)
  · exact cell_new _ _ _ (by rw [hb]) rfl
  · exact cell_new _ _ _ (by rw [hb]) rfl
  · refine ⟨w1.heap.size, 0, ⟨_, 1, rfl, Nat.le_refl _, by decide, fun _ => rfl, fun _ => ⟨HX1.out.size, by rw [size_alloc, hb] <;> omega⟩⟩, fun j t hj => ?_⟩
    have hj0 : j = 0 := by have := lt_of_some hj; simp at this; exact this
    subst hj0
    obtain rfl : (x, 1) = t := by simpa using hj
    have hin : inI64 (1 : Int) := by unfold inI64; omega
    exact ⟨⟨HXX.out, hin⟩, cell_old _ (cell_new _ _ _ rfl rfl), cell_old _ (cell_new _ _ _ rfl rfl)⟩
end Go.Proofs.Ythplgldclilccaa

namespace Go.Proofs.Ythplgldclilccaa
open Go.RowKit

/-- the terms of a product, one by one; nothing, where an exponent is too great -/
def pairP (t u : Int × Mono) : Option (Int × Mono) := (rtimes t.2 u.2).map fun m => (t.1 * u.1, m)
def prodL (p q : PZ) : List (Option (Int × Mono)) := p.flatMap fun t => q.map (pairP t)
/-- all of them, if each is there -/
def allO : List (Option (Int × Mono)) → Option PZ
  | [] => some []
  | none :: _ => none
  | some x :: r => (allO r).map (x :: ·)
def timesP (p q : PZ) : Option PZ := (allO (prodL p q)).map normP
theorem allO_some {xs : PZ} : allO (xs.map some) = some xs := by
  induction xs with
  | nil => rfl
  | cons x r ih => simp only [List.map_cons, allO, ih, Option.map_some]
theorem allO_none {l r : List (Option (Int × Mono))} : allO (l ++ none :: r) = none := by
  induction l with
  | nil => rfl
  | cons x l ih =>
    cases x with
    | none => rfl
    | some x => simp only [List.cons_append, allO, ih, Option.map_none]
theorem prodL_snoc (p q : PZ) (t : Int × Mono) : prodL (p ++ [t]) q = prodL p q ++ q.map (pairP t) := by
  unfold prodL
  rw [List.flatMap_append]
  simp
theorem prodL_take {p : PZ} {k : Nat} {t : Int × Mono} (q : PZ) (h : p[k]? = some t) : prodL (p.take (k + 1)) q = prodL (p.take k) q ++ q.map (pairP t) := by
  rw [List.take_add_one, h]
  exact prodL_snoc _ _ _
theorem prodL_split {p : PZ} {k : Nat} {t : Int × Mono} (q : PZ) (h : p[k]? = some t) : prodL p q = prodL (p.take k) q ++ q.map (pairP t) ++ prodL (p.drop (k + 1)) q := by
  have e : p = p.take k ++ t :: p.drop (k + 1) := by rw [← drop_at h, List.take_append_drop]
  conv => lhs; rw [e]
  unfold prodL
  rw [List.flatMap_append, List.flatMap_cons, List.append_assoc]
/-- bounds of length and of coefficients -/
def bndP (p : PZ) (L M : Nat) : Prop := p.length ≤ L ∧ ∀ t ∈ p, t.1.natAbs ≤ M
theorem putP_len (p : PZ) (c : Int) (m : Mono) : (putP p c m).length ≤ p.length + 1 := by
  induction p with
  | nil => simp only [putP]; split <;> simp
  | cons t r ih =>
    simp only [putP]
    split
    · simp only [List.length_cons]; omega
    · split
      · split <;> simp only [List.length_cons] <;> omega
      · split <;> simp only [List.length_cons] <;> omega
theorem putP_abs {p : PZ} {c : Int} {m : Mono} {M N : Nat} (h : ∀ t ∈ p, t.1.natAbs ≤ M) (hc : c.natAbs ≤ N) : ∀ t ∈ putP p c m, t.1.natAbs ≤ M + N := by
  induction p with
  | nil =>
    intro t ht
    simp only [putP] at ht
    split at ht
    · simp at ht
    · rw [List.mem_singleton.1 ht]; simp only; omega
  | cons u r ih =>
    have hu := h u (by simp)
    have hr : ∀ t ∈ r, t.1.natAbs ≤ M := fun t ht => h t (by simp [ht])
    have ih := ih hr
    intro t ht
    simp only [putP] at ht
    split at ht
    · rcases List.mem_cons.1 ht with rfl | ht
      · omega
      · exact ih t ht
    · split at ht
      · split at ht
        · have := hr t ht; omega
        · rcases List.mem_cons.1 ht with rfl | ht
          · simp only; omega
          · have := hr t ht; omega
      · split at ht
        · have := h t ht; omega
        · rcases List.mem_cons.1 ht with rfl | ht
          · simp only; omega
          · have := h t ht; omega
theorem putP_bnd {p : PZ} {c : Int} {m : Mono} {L M N : Nat} (h : bndP p L M) (hc : c.natAbs ≤ N) : bndP (putP p c m) (L + 1) (M + N) :=
  ⟨Nat.le_trans (putP_len _ _ _) (by have := h.1; omega), putP_abs h.2 hc⟩
theorem addP_bnd {p l : PZ} {L M N : Nat} (h : bndP p L M) (hl : ∀ t ∈ l, t.1.natAbs ≤ N) : bndP (addP p l) (L + l.length) (M + l.length * N) := by
  induction l generalizing p L M with
  | nil => simpa [addP] using h
  | cons t r ih =>
    have h1 := ih (putP_bnd (m := t.2) h (hl t (by simp))) (fun u hu => hl u (by simp [hu]))
    show bndP (addP (putP p t.1 t.2) r) _ _
    simp only [List.length_cons]
    refine ⟨by have := h1.1; omega, fun u hu => ?_⟩
    have := h1.2 u hu
    rw [Nat.add_mul]
    omega
theorem bnd_nil : bndP [] 0 0 := ⟨by simp, fun t ht => by simp at ht⟩
theorem sz_of_bnd {p : PZ} {L M n : Nat} (h : bndP p L M) (hL : L ≤ 100000000) (hM : M < 10 ^ n) (hn : n ≤ 2000000) : szP p :=
  ⟨Nat.le_trans h.1 hL, fun t ht => szZ_le (Nat.lt_of_le_of_lt (h.2 t ht) hM) hn⟩
theorem mayTail_snoc {m : Mono} {l v e : Int} (h : mayTail l m = true) (hv : ∀ x ∈ m, x.1 < v) (hl : l < v) (h2 : v ≤ 200) (h3 : 1 ≤ e ∧ e ≤ 10000) : mayTail l (m ++ [(v, e)]) = true := by
  induction m generalizing l with
  | nil =>
    simp only [List.nil_append, mayTail, Bool.and_true, decide_eq_true_eq]
    omega
  | cons x r ih =>
    simp only [List.cons_append, mayTail, Bool.and_eq_true] at h ⊢
    exact ⟨h.1, ih h.2 (fun y hy => hv y (by simp [hy])) (hv x (by simp))⟩
theorem ofE_vars (f : Nat → Int) (k : Nat) : ∀ x ∈ ofE f k, x.1 ≤ (k : Int) := by
  induction k with
  | zero => intro x hx; simp [ofE] at hx
  | succ k ih =>
    intro x hx
    simp only [ofE] at hx
    split at hx
    · rcases List.mem_append.1 hx with hx | hx
      · have := ih x hx; omega
      · rw [List.mem_singleton.1 hx]; simp only; omega
    · have := ih x hx; omega
theorem ofE_may {f : Nat → Int} {n : Nat} (hn : n ≤ 200) (h : ∀ j, 1 ≤ j → j ≤ n → f j ≤ 10000) : mayM (ofE f n) = true := by
  induction n with
  | zero => rfl
  | succ k ih =>
    have ih := ih (by omega) (fun j h1 h2 => h j h1 (by omega))
    simp only [ofE]
    split
    · rename_i hp
      refine mayTail_snoc ih (fun x hx => ?_) (by omega) (by omega) ⟨by omega, h (k + 1) (by omega) (Nat.le_refl _)⟩
      have := ofE_vars f k x hx
      omega
    · exact ih
theorem overF_not {f : Nat → Int} {n : Nat} (h : overF f n = false) : ∀ j, 1 ≤ j → j ≤ n → f j ≤ 10000 := by
  induction n with
  | zero => intro j h1 h2; omega
  | succ k ih =>
    simp only [overF, Bool.or_eq_false_iff, decide_eq_false_iff_not] at h
    intro j h1 h2
    by_cases e : j = k + 1
    · subst e; have := h.2; omega
    · exact ih h.1 j h1 (by omega)
theorem rtimes_may {a b m : Mono} (h : rtimes a b = some m) : mayM m = true := by
  unfold rtimes at h
  split at h
  · cases h
  · rename_i ho
    cases h
    exact ofE_may (Nat.le_refl _) (overF_not (by simpa using ho))

theorem prodL_length (p q : PZ) : (prodL p q).length = p.length * q.length := by
  induction p with
  | nil => simp [prodL]
  | cons t r ih =>
    have e : prodL (t :: r) q = q.map (pairP t) ++ prodL r q := by unfold prodL; rw [List.flatMap_cons]
    rw [e, List.length_append, List.length_map, ih, List.length_cons, Nat.add_mul]
    omega
theorem prodL_get {p q : PZ} {k j : Nat} {t u : Int × Mono} (ht : p[k]? = some t) (hu : q[j]? = some u) : (prodL p q)[k * q.length + j]? = some (pairP t u) := by
  have hj := lt_of_some hu
  induction p generalizing k with
  | nil => simp at ht
  | cons x r ih =>
    have e : prodL (x :: r) q = q.map (pairP x) ++ prodL r q := by unfold prodL; rw [List.flatMap_cons]
    rw [e]
    cases k with
    | zero =>
      obtain rfl : x = t := by simpa using ht
      rw [Nat.zero_mul, Nat.zero_add, List.getElem?_append_left (by rw [List.length_map]; exact hj), List.getElem?_map, hu]
      rfl
    | succ k =>
      have := ih (k := k) (by simpa using ht)
      rw [List.getElem?_append_right (by rw [List.length_map, Nat.add_mul]; omega), List.length_map, show (k + 1) * q.length + j - q.length = k * q.length + j by rw [Nat.add_mul]; omega]
      exact this
theorem pairP_some {t u x : Int × Mono} (h : pairP t u = some x) : mayM x.2 = true ∧ x.1 = t.1 * u.1 := by
  unfold pairP at h
  cases hr : rtimes t.2 u.2 with
  | none => rw [hr] at h; simp at h
  | some m =>
    rw [hr] at h
    simp at h
    subst h
    exact ⟨rtimes_may hr, rfl⟩
theorem prodL_mem {p q : PZ} {x : Int × Mono} (h : some x ∈ prodL p q) : mayM x.2 = true ∧ ∃ t ∈ p, ∃ u ∈ q, x.1 = t.1 * u.1 := by
  unfold prodL at h
  obtain ⟨t, ht, h⟩ := List.mem_flatMap.1 h
  obtain ⟨u, hu, h⟩ := List.mem_map.1 h
  exact ⟨(pairP_some h).1, t, ht, u, hu, (pairP_some h).2⟩
/-- the first n are there -/
def firstN (p q : PZ) (n : Nat) (xs : PZ) : Prop := (prodL p q).take n = xs.map some
theorem firstN_zero (p q : PZ) : firstN p q 0 [] := rfl
theorem firstN_next {p q : PZ} {n : Nat} {xs : PZ} {x : Int × Mono} (h : firstN p q n xs) (hx : (prodL p q)[n]? = some (some x)) : firstN p q (n + 1) (xs ++ [x]) := by
  unfold firstN at h ⊢
  rw [List.take_add_one, h, hx]
  simp
theorem firstN_none {p q : PZ} {n : Nat} {xs : PZ} (h : firstN p q n xs) (hx : (prodL p q)[n]? = some none) : timesP p q = none := by
  unfold timesP
  have e : prodL p q = (prodL p q).take n ++ none :: (prodL p q).drop (n + 1) := by rw [← drop_at hx, List.take_append_drop]
  rw [e, allO_none]
  rfl
theorem firstN_all {p q : PZ} {n : Nat} {xs : PZ} (h : firstN p q n xs) (hn : n = p.length * q.length) : timesP p q = some (normP xs) := by
  unfold firstN at h
  rw [List.take_of_length_le (by rw [prodL_length]; omega)] at h
  unfold timesP
  rw [h, allO_some]
  rfl
theorem firstN_mem {p q : PZ} {n : Nat} {xs : PZ} (h : firstN p q n xs) {x : Int × Mono} (hx : x ∈ xs) : mayM x.2 = true ∧ ∃ t ∈ p, ∃ u ∈ q, x.1 = t.1 * u.1 := by
  apply prodL_mem
  have : some x ∈ (prodL p q).take n := by rw [h]; exact List.mem_map.2 ⟨x, hx, rfl⟩
  exact List.mem_of_mem_take this
theorem firstN_len {p q : PZ} {n : Nat} {xs : PZ} (h : firstN p q n xs) : xs.length ≤ p.length * q.length := by
  have h1 : ((prodL p q).take n).length = xs.length := by rw [h, List.length_map]
  rw [← h1, List.length_take, prodL_length]
  exact Nat.min_le_right _ _
/-- sizes that a product takes -/
def szM (p q : PZ) : Prop := ∃ N n, (∀ t ∈ p, ∀ u ∈ q, (t.1 * u.1).natAbs ≤ N) ∧ p.length * q.length ≤ 100000000 ∧ p.length * q.length * N < 10 ^ n ∧ n ≤ 2000000
theorem firstN_sz {p q : PZ} {n : Nat} {xs : PZ} (h : firstN p q n xs) (hs : szM p q) : szP (normP xs) := by
  obtain ⟨N, e, h1, h2, h3, h4⟩ := hs
  have hl := firstN_len h
  have hb := addP_bnd (N := N) bnd_nil (l := xs) (fun t ht => by
    obtain ⟨_, a, ha, b, hb, hh⟩ := firstN_mem h ht
    rw [hh]
    exact h1 a ha b hb)
  simp only [Nat.zero_add] at hb
  exact sz_of_bnd hb (by omega) (Nat.lt_of_le_of_lt (Nat.mul_le_mul_right N hl) h3) h4
theorem szM_one {p q : PZ} (hs : szM p q) {t u : Int × Mono} (ht : t ∈ p) (hu : u ∈ q) : szZ (t.1 * u.1) := by
  obtain ⟨N, e, h1, h2, h3, h4⟩ := hs
  have h5 := h1 t ht u hu
  have hp : 0 < p.length := List.length_pos_of_mem ht
  have hq : 0 < q.length := List.length_pos_of_mem hu
  have : 1 * N ≤ p.length * q.length * N := Nat.mul_le_mul_right N (Nat.mul_pos hp hq)
  exact szZ_le (Nat.lt_of_le_of_lt (by omega) h3) h4
end Go.Proofs.Ythplgldclilccaa

namespace Go.Proofs.Ythplgldclilccaa
open Go.RowKit

/-- what a product answers -/
def timesB : Option PZ → Bool
  | none => false
  | some _ => true
def timesV : Option PZ → PZ
  | none => []
  | some p => p

set_option maxRecDepth 100000 in
set_option maxHeartbeats 8000000 in
theorem rpoly_times {S : Nat → Prop} (vp vq : Value) (p q : PZ) (w : World) (hS : ∀ k, S k → k < w.heap.size) (hp : RTs S w vp p) (hq : RTs S w vq q) (hmp : mayAll p) (hmq : mayAll q) (hszp : szP p) (hszq : szP q) (hsz : szM p q) :
    Calls Try.prog 68 #[vp, vq] w fun e w' => ∃ v', e = .returned (.tuple #[v', .bool (timesB (timesP p q))]) ∧ RTs (Plus S w w') w' v' (timesV (timesP p q)) ∧ Ext w w' := by
  have hlp := hp.len_le
  have hlq := hq.len_le
  have HP := hid hp
  have HQ := hid hq
  have HMP := hid hmp
  have HMQ := hid hmq
  have HZP := hid hszp
  have HZQ := hid hszq
  have HSZ := hid hsz
  obtain ⟨ap, cp, rfl⟩ := hp.form
  obtain ⟨aq, cq, rfl⟩ := hq.form
  obtain ⟨R, hR⟩ : ∃ R, R = timesP p q := ⟨_, rfl⟩
  rw [← hR]
  have HR := hid hR
  clear hp hq hmp hmq hszp hszq hsz hR
  go_enter Try.func68, Try.ntmps68
  go_wp2
  go_loopw [6, 7] (fun o i wr => ∃ k xs n, k ≤ p.length ∧ i = .int .i64 (k : Nat) ∧ Ext w wr ∧ Hid (n = k * q.length) ∧ Hid (firstN p q n xs) ∧ Hid (RTs (Plus S w wr) wr o (normP xs))) (fun _ i _ => p.length - (intOf i).toNat)
  case atStart => exact ⟨0, [], 0, Nat.zero_le _, rfl, Ext.refl _, hid (by rw [Nat.zero_mul]), hid (firstN_zero _ _), hid (RTs.nilv _ _ _ _ (by omega))⟩
  case round =>
    obtain ⟨k, xs, n, hk, rfl, hx, HN, HF, HO⟩ := hrel
    have HX := hid hx
    by_cases hlt : k < p.length
    · obtain ⟨t, ht⟩ := some_of_lt hlt
      have HT := hid ht
      clear ht hx
      go_wp2
      go_loopw [6, 8] (fun o i wr => ∃ j xs n, j ≤ q.length ∧ i = .int .i64 (j : Nat) ∧ Ext w wr ∧ Hid (n = k * q.length + j) ∧ Hid (firstN p q n xs) ∧ Hid (RTs (Plus S w wr) wr o (normP xs))) (fun _ i _ => q.length - (intOf i).toNat)
      case atStart => exact ⟨0, xs, n, Nat.zero_le _, rfl, HX.out, hid (by rw [HN.out, Nat.add_zero]), HF, HO⟩
      case round =>
        clear HO HF HN HX
        clear xs n
        obtain ⟨j, xs, n, hj, rfl, hx, HN, HF, HO⟩ := hrel
        have HX := hid hx
        by_cases hlj : j < q.length
        · obtain ⟨u, hu⟩ := some_of_lt hlj
          have HGET : Hid ((prodL p q)[n]? = some (pairP t u)) := hid (by rw [HN.out]; exact prodL_get HT.out hu)
          have HTP := hid (List.mem_of_getElem? HT.out)
          have HUQ := hid (List.mem_of_getElem? hu)
          obtain ⟨b, off, vd, vo, rfl, -, hn1, hm1, hSb, h1, h2, h3, h4, h5⟩ := HP.out.cellAt HT.out
          obtain ⟨b', off', vd', vo', rfl, -, hn1', hm1', hSb', h1', h2', h3', h4', h5'⟩ := HQ.out.cellAt hu
          have H4 := hid h4
          have H5 := hid h5
          have H4' := hid h4'
          have H5' := hid h5'
          obtain ⟨ad, cd, rfl⟩ := h4.form
          obtain ⟨ao, co, rfl⟩ := h5.form
          obtain ⟨ad', cd', rfl⟩ := h4'.form
          obtain ⟨ao', co', rfl⟩ := h5'.form
          have x0 : Ext w wr.drew := hx.drew
          have HX0 := hid x0
          have HXR := hid ((Ext.refl wr).drew)
          have S0 : _ ∧ _ := And.intro (x0.cell h3) (x0.cell h3')
          have CT := rmono_times (S := S) _ _ t.2 u.2 wr.drew (H5.out.ext x0 hS) (H5'.out.ext x0 hS) (lt_ext hS x0) (HMP.out t HTP.out) (HMQ.out u HUQ.out)
          have CM := fun (W : World) (hW : Ext w W) => zed_mul (S := S) (.agg #[.bool (decide (t.1 < 0)), .slice ad (rep 10 t.1.natAbs).length cd]) (.agg #[.bool (decide (u.1 < 0)), .slice ad' (rep 10 u.1.natAbs).length cd']) t.1 u.1 W ⟨_, rfl, H4.out.ext hW hS⟩ ⟨_, rfl, H4'.out.ext hW hS⟩ (lt_ext hS hW) (HZP.out.2 t HTP.out) (HZQ.out.2 u HUQ.out)
          obtain ⟨bt, hbt⟩ : ∃ b, b = decide (t.1 < 0) := ⟨_, rfl⟩
          obtain ⟨nt, hnt⟩ : ∃ n, n = (rep 10 t.1.natAbs).length := ⟨_, rfl⟩
          obtain ⟨bu, hbu⟩ : ∃ b, b = decide (u.1 < 0) := ⟨_, rfl⟩
          obtain ⟨nu, hnu⟩ : ∃ n, n = (rep 10 u.1.natAbs).length := ⟨_, rfl⟩
          obtain ⟨mt, hmt⟩ : ∃ n, n = t.2.length := ⟨_, rfl⟩
          obtain ⟨mu, hmu⟩ : ∃ n, n = u.2.length := ⟨_, rfl⟩
          rw [← hbt, ← hnt, ← hbu, ← hnu] at CM
          rw [← hmt, ← hmu] at S0 CT
          rw [← hbt] at h1
          rw [← hnt] at h2
          rw [← hbu] at h1'
          rw [← hnu] at h2'
          have HC0 : Hid (_ ∧ _ ∧ _ ∧ _) := hid (And.intro h1 (And.intro h2 (And.intro h1' h2')))
          have HCM := hid CM
          have HSO := hid (szM_one HSZ.out HTP.out HUQ.out)
          have HSX := hid (firstN_sz HF.out HSZ.out)
          have HMX : Hid (mayAll (normP xs)) := hid (normP_can (fun y hy => (firstN_mem HF.out hy).1)).may
          clear hu h1 h2 h3 h4 h5 h1' h2' h3' h4' h5' hx x0 CM hbt hnt hbu hnu hmt hmu
          cases hr : rtimes t.2 u.2 with
          | none =>
            have HRN : Hid (R = none) := hid (HR.out.trans (firstN_none HF.out (by rw [HGET.out]; unfold pairP; rw [hr]; rfl)))
            rw [hr] at CT
            unfold rterr rtval at CT
            simp only at CT
            have HCT := hid CT
            clear CT hr
            go_wp2
            go_region_held3 (fun W => W.cell? ⟨b, off + k * 3 + 2, none⟩ = some (.slice ao mt co) ∧ W.cell? ⟨b', off' + j * 3 + 2, none⟩ = some (.slice ao' mu co')) (first | exact S0 | exact S1)
              (first
                | (go_at_call 100; (with_reducible refine HCT.out.mono ?_); rintro e w1 ⟨v1, rfl, hp1, hx1⟩; have S1 : _ ∧ _ := And.intro (hx1.cell S0.1) (hx1.cell S0.2); have HX1 := hid (HX0.out.trans hx1); clear hx1 hp1))
            go_wp2
            all_goals
              go_ret2
              rw [HRN.out]
              exact ⟨_, rfl, RTs.nilv _ _ _ _ (by omega), HX1.out⟩
          | some m =>
            have HMM := hid (rtimes_may hr)
            have HNX := hid (firstN_next HF.out (x := (t.1 * u.1, m)) (by rw [HGET.out]; unfold pairP; rw [hr]; rfl))
            rw [hr] at CT
            unfold rterr rtval at CT
            simp only at CT
            have HCT := hid CT
            clear CT hr
            go_wp2
            go_region_held3 (fun W => W.cell? ⟨b, off + k * 3 + 2, none⟩ = some (.slice ao mt co) ∧ W.cell? ⟨b', off' + j * 3 + 2, none⟩ = some (.slice ao' mu co')) (first | exact S0 | exact S1)
              (first
                | (go_at_call 100; (with_reducible refine HCT.out.mono ?_); rintro e w1 ⟨v1, rfl, hp1, hx1⟩; have S1 : _ ∧ _ := And.intro (hx1.cell S0.1) (hx1.cell S0.2); have HX1 := hid (HX0.out.trans hx1); have HXR1 := hid (HXR.out.trans hx1); have HP1 : Hid (Pows (Plus S w w1) w1 v1 m) := hid (hp1.to (Kept.refl _ _) (new_plus HX0.out.size)); clear hx1 hp1))
            have x1 : Ext w w1.drew := HX1.out.drew
            have HX1D := hid x1
            have T0 : _ ∧ _ ∧ _ ∧ _ := And.intro (x1.cell HC0.out.1) (And.intro (x1.cell HC0.out.2.1) (And.intro (x1.cell HC0.out.2.2.1) (x1.cell HC0.out.2.2.2)))
            have HCM1 := hid (HCM.out w1.drew x1)
            clear x1 S0 S1
            go_wp2
            go_region_held3 (fun W => W.cell? ⟨b, off + k * 3, none⟩ = some (.bool bt) ∧ W.cell? ⟨b, off + k * 3 + 1, none⟩ = some (.slice ad nt cd) ∧ W.cell? ⟨b', off' + j * 3, none⟩ = some (.bool bu) ∧ W.cell? ⟨b', off' + j * 3 + 1, none⟩ = some (.slice ad' nu cd')) (first | exact T0 | exact T1 | exact T2)
              (first
                | (go_at_call 101; (with_reducible refine HCM1.out.mono ?_); rintro e w2 ⟨v2, rfl, hz2, hx2⟩; have T1 : _ ∧ _ ∧ _ ∧ _ := And.intro (hx2.cell T0.1) (And.intro (hx2.cell T0.2.1) (And.intro (hx2.cell T0.2.2.1) (hx2.cell T0.2.2.2))); have HX2 : Hid (Ext w w2) := hid (HX1D.out.trans hx2); have HX12 : Hid (Ext w1 w2) := hid (((Ext.refl w1).drew).trans hx2); have C2 := hid (rpoly_put (S := Plus S w w2) _ _ _ (normP xs) (t.1 * u.1) m w2 (plus_lt hS HX2.out) (RTs.later hS HO.out HX.out (HXR1.out.trans HX12.out)) (hz2.to (Kept.refl _ _) (new_plus HX1D.out.size)) (HP1.out.to (Kept.ext HX12.out (plus_lt hS HX1.out)) (plus_grow HX12.out.size)) HMX.out HMM.out HSX.out HSO.out); clear hx2 hz2)
                | (go_at_call 70; (with_reducible refine C2.out.mono ?_); rintro e w3 ⟨v3, rfl, hp3, hx3⟩; have T2 : _ ∧ _ ∧ _ ∧ _ := And.intro (hx3.cell T1.1) (And.intro (hx3.cell T1.2.1) (And.intro (hx3.cell T1.2.2.1) (hx3.cell T1.2.2.2))); have HX3 := hid (HX2.out.trans hx3); have HP3 := hid (hp3.to (Kept.refl _ _) (plus_plus HX2.out hx3)); clear hx3 hp3))
            go_wp2
            go_roundw
            case rel => exact ⟨j + 1, xs ++ [(t.1 * u.1, m)], n + 1, by omega, by go_num, HX3.out, hid (by rw [HN.out, Nat.add_assoc]), HNX, hid (by unfold normP; rw [addP_snoc]; exact HP3.out)⟩
            case measure => simp only [intOf]; omega
        · obtain rfl : j = q.length := by omega
          clear hx
          go_wp2
          go_roundw
          case rel => exact ⟨k + 1, xs, n, by omega, by go_num, HX.out, hid (by rw [HN.out, Nat.add_mul, Nat.one_mul]), HF, HO⟩
          case measure => simp only [intOf]; omega
    · obtain rfl : k = p.length := by omega
      have HRS := hid (HR.out.trans (firstN_all HF.out HN.out))
      clear hx
      go_wp2
      all_goals
        go_ret2
        rw [HRS.out]
        exact ⟨_, rfl, HO.out, HX.out⟩
end Go.Proofs.Ythplgldclilccaa
