/- The document: a number, a variable, as polynomials. What the law knows. The document: the other sign, the difference. Coefficients, initial, tail and derivative of polynomials. Plain. What is made of two monomials, exponent by exponent; products of monomials. Plain. The document's product of monomials is the program's. Plain. The document: a monomial without a variable. append to a slice without room: a copy in memory of its own. Stable merges of two lists, and the stable sort of a list by merges. Plain. A row of memory that is sorted in place: what the worlds of a sort are. The insertion sort in place, at terms. Exchanges and rotations in place, at terms. The merge in place of two neighbours, at terms: one element ahead, or one behind. -/
import Derived.Test.YtcpfeepnfodifaaGreatProg
import Derived.Shelf.SlSortFuncK.RowK2
import Derived.Shelf.SlicesQ.Reverse
import Derived.Test.YtcpfeepnfodifaaGreatBase4
namespace Go.Proofs.YtcpfeepnfodifaaGreat
open Go.RowKit

theorem szZ_le {z : Int} {n : Nat} (h : z.natAbs < 10 ^ n) (hn : n ≤ 2000000) : szZ z := Nat.le_trans (rep_len_le two_le_10 _ _ h) hn
theorem szZ_i64 {n : Nat} (h : n < 9223372036854775808) : szZ (n : Int) := szZ_le (n := 19) (by simp only [Int.natAbs_natCast]; omega) (by omega)
/-- a number as a polynomial -/
def numP (n : Nat) : PZ := putP [] (n : Int) []
theorem New.plus {w w1 : World} : ∀ k, Plus (fun _ => False) w w1 k → New w w1 k := fun k hk => by
  rcases hk with h | h
  · exact h.elim
  · exact h

set_option maxRecDepth 100000 in
set_option maxHeartbeats 4000000 in
theorem rpoly_small (n : Nat) (w : World) (hn : n < 9223372036854775808) :
    Calls Tryz.prog 54 #[.int .i64 (n : Nat)] w fun e w' => ∃ v', e = .returned v' ∧ RTs (New w w') w' v' (numP n) ∧ Ext w w' := by
  have C1 := hid (zed_small n w hn)
  have HZ := hid (szZ_i64 hn)
  clear hn
  go_enter Tryz.func54, Tryz.ntmps54
  go_wp2_with fail
  refine C1.out.mono ?_
  rintro e w1 ⟨v1, rfl, hz1, hx1⟩
  have HX1 := hid hx1
  have C2 := hid (rpoly_put (S := New w w1) (.slice none 0 0) v1 (.slice none 0 0) [] (n : Int) [] w1 (fun _ h => h.2) (RTs.nilv _ _ _ _ (by omega)) hz1 (Pows.empty _ _ _) canP_nil.may rfl ⟨by simp, fun t ht => by simp at ht⟩ HZ.out)
  clear hx1 hz1
  go_wp2_with fail
  refine C2.out.mono ?_
  rintro e w2 ⟨v2, rfl, hp2, hx2⟩
  have HX2 := hid (HX1.out.trans hx2)
  have HP2 : Hid (RTs (New w w2) w2 v2 (numP n)) := hid (hp2.to (Kept.refl _ _) (fun k hk => by
    rcases hk with h | h
    · exact ⟨h.1, Nat.lt_of_lt_of_le h.2 hx2.size⟩
    · exact ⟨Nat.le_trans HX1.out.size h.1, h.2⟩))
  clear hp2 hx2
  go_wp2
  all_goals
    go_ret
    exact ⟨_, rfl, HP2.out, HX2.out⟩

set_option maxRecDepth 100000 in
set_option maxHeartbeats 4000000 in
theorem rpoly_x (x : Int) (w : World) (hx : inI64 x) :
    Calls Tryz.prog 51 #[.int .i64 x] w fun e w' => ∃ v', e = .returned v' ∧ RTs (New w w') w' v' [(1, [(x, 1)])] ∧ Ext w w' := by
  have C1 := hid (zed_small 1 w (by omega))
  have HXX := hid hx
  clear hx
  go_enter Tryz.func51, Tryz.ntmps51
  go_wp2_with fail
  refine C1.out.mono ?_
  rintro e w1 ⟨v1, rfl, hz1, hx1⟩
  obtain ⟨vd, rfl, hd⟩ := hz1
  have HX1 := hid hx1
  have HD := hid hd
  obtain ⟨ad, cd, rfl⟩ := hd.form
  obtain ⟨nd, hnd⟩ : ∃ n, n = (rep 10 ((1 : Nat) : Int).natAbs).length := ⟨_, rfl⟩
  obtain ⟨bd, hbd⟩ : ∃ b, b = decide (((1 : Nat) : Int) < 0) := ⟨_, rfl⟩
  rw [← hnd] at HD ⊢
  rw [← hbd]
  have HB := hid hbd
  clear hx1 hd hnd hbd
  go_wp2
  go_ret
  have x2 : Ext w1 ((w1.alloc (.cells #[.int .i64 x, .int .i64 1] 106)).alloc (.cells #[.bool bd, .slice ad nd cd, .slice (some ⟨w1.heap.size, 0, none⟩) 1 1] 123)) := (Ext.alloc (Ext.alloc (Ext.refl w1) _) _)
  have hb : (w1.alloc (.cells #[.int .i64 x, .int .i64 1] 106)).heap.size = w1.heap.size + 1 := size_alloc _ _
  refine ⟨_, rfl, ?_, HX1.out.trans x2⟩
  refine ⟨w1.heap.size + 1, 0, ⟨_, 1, rfl, Nat.le_refl _, by decide, fun _ => by rw [← hb], fun _ => ⟨Nat.le_trans HX1.out.size (Nat.le_succ _), by rw [size_alloc, hb] <;> omega⟩⟩, fun j t hj => ?_⟩
  have hj0 : j = 0 := by have := lt_of_some hj; simp at this; exact this
  subst hj0
  obtain rfl : (1, [(x, 1)]) = t := by simpa using hj
  refine ⟨.slice ad nd cd, .slice (some ⟨w1.heap.size, 0, none⟩) 1 1, ?_, ?_, ?_, HD.out.to (Kept.ext x2 (fun _ h => h.2)) (fun k h => ⟨h.1, Nat.lt_of_lt_of_le h.2 x2.size⟩), ?_⟩
  · exact cell_new _ _ _ (by rw [hb]) (by rw [HB.out]; rfl)
  · exact cell_new _ _ _ (by rw [hb]) rfl
  · exact cell_new _ _ _ (by rw [hb]) rfl
  · refine ⟨w1.heap.size, 0, ⟨_, 1, rfl, Nat.le_refl _, by decide, fun _ => rfl, fun _ => ⟨HX1.out.size, by rw [size_alloc, hb] <;> omega⟩⟩, fun j t hj => ?_⟩
    have hj0 : j = 0 := by have := lt_of_some hj; simp at this; exact this
    subst hj0
    obtain rfl : (x, 1) = t := by simpa using hj
    have hin : inI64 (1 : Int) := by unfold inI64; omega
    exact ⟨⟨HXX.out, hin⟩, cell_old _ (cell_new _ _ _ rfl rfl), cell_old _ (cell_new _ _ _ rfl rfl)⟩
end Go.Proofs.YtcpfeepnfodifaaGreat

namespace Go.Proofs.YtcpfeepnfodifaaGreat
open Go.RowKit

/-- the terms of a product, one by one; nothing, where an exponent is too great -/
def pairP (t u : Int × Mono) : Option (Int × Mono) := (rtimes t.2 u.2).map fun m => (t.1 * u.1, m)
def prodL (p q : PZ) : List (Option (Int × Mono)) := p.flatMap fun t => q.map (pairP t)
/-- all of them, if each is there -/
def allO : List (Option (Int × Mono)) → Option PZ
  | [] => some []
  | none :: _ => none
  | some x :: r => (allO r).map (x :: ·)
def timesP (p q : PZ) : Option PZ := (allO (prodL p q)).map normP
theorem allO_some {xs : PZ} : allO (xs.map some) = some xs := by
  induction xs with
  | nil => rfl
  | cons x r ih => simp only [List.map_cons, allO, ih, Option.map_some]
theorem allO_none {l r : List (Option (Int × Mono))} : allO (l ++ none :: r) = none := by
  induction l with
  | nil => rfl
  | cons x l ih =>
    cases x with
    | none => rfl
    | some x => simp only [List.cons_append, allO, ih, Option.map_none]
theorem prodL_snoc (p q : PZ) (t : Int × Mono) : prodL (p ++ [t]) q = prodL p q ++ q.map (pairP t) := by
  unfold prodL
  rw [List.flatMap_append]
  simp
theorem prodL_take {p : PZ} {k : Nat} {t : Int × Mono} (q : PZ) (h : p[k]? = some t) : prodL (p.take (k + 1)) q = prodL (p.take k) q ++ q.map (pairP t) := by
  rw [List.take_add_one, h]
  exact prodL_snoc _ _ _
theorem prodL_split {p : PZ} {k : Nat} {t : Int × Mono} (q : PZ) (h : p[k]? = some t) : prodL p q = prodL (p.take k) q ++ q.map (pairP t) ++ prodL (p.drop (k + 1)) q := by
  have e : p = p.take k ++ t :: p.drop (k + 1) := by rw [← drop_at h, List.take_append_drop]
  conv => lhs; rw [e]
  unfold prodL
  rw [List.flatMap_append, List.flatMap_cons, List.append_assoc]
/-- bounds of length and of coefficients -/
def bndP (p : PZ) (L M : Nat) : Prop := p.length ≤ L ∧ ∀ t ∈ p, t.1.natAbs ≤ M
theorem putP_len (p : PZ) (c : Int) (m : Mono) : (putP p c m).length ≤ p.length + 1 := by
  induction p with
  | nil => simp only [putP]; split <;> simp
  | cons t r ih =>
    simp only [putP]
    split
    · simp only [List.length_cons]; omega
    · split
      · split <;> simp only [List.length_cons] <;> omega
      · split <;> simp only [List.length_cons] <;> omega
theorem putP_abs {p : PZ} {c : Int} {m : Mono} {M N : Nat} (h : ∀ t ∈ p, t.1.natAbs ≤ M) (hc : c.natAbs ≤ N) : ∀ t ∈ putP p c m, t.1.natAbs ≤ M + N := by
  induction p with
  | nil =>
    intro t ht
    simp only [putP] at ht
    split at ht
    · simp at ht
    · rw [List.mem_singleton.1 ht]; simp only; omega
  | cons u r ih =>
    have hu := h u (by simp)
    have hr : ∀ t ∈ r, t.1.natAbs ≤ M := fun t ht => h t (by simp [ht])
    have ih := ih hr
    intro t ht
    simp only [putP] at ht
    split at ht
    · rcases List.mem_cons.1 ht with rfl | ht
      · omega
      · exact ih t ht
    · split at ht
      · split at ht
        · have := hr t ht; omega
        · rcases List.mem_cons.1 ht with rfl | ht
          · simp only; omega
          · have := hr t ht; omega
      · split at ht
        · have := h t ht; omega
        · rcases List.mem_cons.1 ht with rfl | ht
          · simp only; omega
          · have := h t ht; omega
theorem putP_bnd {p : PZ} {c : Int} {m : Mono} {L M N : Nat} (h : bndP p L M) (hc : c.natAbs ≤ N) : bndP (putP p c m) (L + 1) (M + N) :=
  ⟨Nat.le_trans (putP_len _ _ _) (by have := h.1; omega), putP_abs h.2 hc⟩
theorem addP_bnd {p l : PZ} {L M N : Nat} (h : bndP p L M) (hl : ∀ t ∈ l, t.1.natAbs ≤ N) : bndP (addP p l) (L + l.length) (M + l.length * N) := by
  induction l generalizing p L M with
  | nil => simpa [addP] using h
  | cons t r ih =>
    have h1 := ih (putP_bnd (m := t.2) h (hl t (by simp))) (fun u hu => hl u (by simp [hu]))
    show bndP (addP (putP p t.1 t.2) r) _ _
    simp only [List.length_cons]
    refine ⟨by have := h1.1; omega, fun u hu => ?_⟩
    have := h1.2 u hu
    rw [Nat.add_mul]
    omega
theorem bnd_nil : bndP [] 0 0 := ⟨by simp, fun t ht => by simp at ht⟩
theorem sz_of_bnd {p : PZ} {L M n : Nat} (h : bndP p L M) (hL : L ≤ 1000000000000) (hM : M < 10 ^ n) (hn : n ≤ 2000000) : szP p :=
  ⟨Nat.le_trans h.1 hL, fun t ht => szZ_le (Nat.lt_of_le_of_lt (h.2 t ht) hM) hn⟩
theorem mayTail_snoc {m : Mono} {l v e : Int} (h : mayTail l m = true) (hv : ∀ x ∈ m, x.1 < v) (hl : l < v) (h2 : v ≤ 200) (h3 : 1 ≤ e ∧ e ≤ 10000) : mayTail l (m ++ [(v, e)]) = true := by
  induction m generalizing l with
  | nil =>
    simp only [List.nil_append, mayTail, Bool.and_true, decide_eq_true_eq]
    omega
  | cons x r ih =>
    simp only [List.cons_append, mayTail, Bool.and_eq_true] at h ⊢
    exact ⟨h.1, ih h.2 (fun y hy => hv y (by simp [hy])) (hv x (by simp))⟩
theorem ofE_vars (f : Nat → Int) (k : Nat) : ∀ x ∈ ofE f k, x.1 ≤ (k : Int) := by
  induction k with
  | zero => intro x hx; simp [ofE] at hx
  | succ k ih =>
    intro x hx
    simp only [ofE] at hx
    split at hx
    · rcases List.mem_append.1 hx with hx | hx
      · have := ih x hx; omega
      · rw [List.mem_singleton.1 hx]; simp only; omega
    · have := ih x hx; omega
theorem ofE_may {f : Nat → Int} {n : Nat} (hn : n ≤ 200) (h : ∀ j, 1 ≤ j → j ≤ n → f j ≤ 10000) : mayM (ofE f n) = true := by
  induction n with
  | zero => rfl
  | succ k ih =>
    have ih := ih (by omega) (fun j h1 h2 => h j h1 (by omega))
    simp only [ofE]
    split
    · rename_i hp
      refine mayTail_snoc ih (fun x hx => ?_) (by omega) (by omega) ⟨by omega, h (k + 1) (by omega) (Nat.le_refl _)⟩
      have := ofE_vars f k x hx
      omega
    · exact ih
theorem overF_not {f : Nat → Int} {n : Nat} (h : overF f n = false) : ∀ j, 1 ≤ j → j ≤ n → f j ≤ 10000 := by
  induction n with
  | zero => intro j h1 h2; omega
  | succ k ih =>
    simp only [overF, Bool.or_eq_false_iff, decide_eq_false_iff_not] at h
    intro j h1 h2
    by_cases e : j = k + 1
    · subst e; have := h.2; omega
    · exact ih h.1 j h1 (by omega)
theorem rtimes_may {a b m : Mono} (h : rtimes a b = some m) : mayM m = true := by
  unfold rtimes at h
  split at h
  · cases h
  · rename_i ho
    cases h
    exact ofE_may (Nat.le_refl _) (overF_not (by simpa using ho))

theorem prodL_length (p q : PZ) : (prodL p q).length = p.length * q.length := by
  induction p with
  | nil => simp [prodL]
  | cons t r ih =>
    have e : prodL (t :: r) q = q.map (pairP t) ++ prodL r q := by unfold prodL; rw [List.flatMap_cons]
    rw [e, List.length_append, List.length_map, ih, List.length_cons, Nat.add_mul]
    omega
theorem prodL_get {p q : PZ} {k j : Nat} {t u : Int × Mono} (ht : p[k]? = some t) (hu : q[j]? = some u) : (prodL p q)[k * q.length + j]? = some (pairP t u) := by
  have hj := lt_of_some hu
  induction p generalizing k with
  | nil => simp at ht
  | cons x r ih =>
    have e : prodL (x :: r) q = q.map (pairP x) ++ prodL r q := by unfold prodL; rw [List.flatMap_cons]
    rw [e]
    cases k with
    | zero =>
      obtain rfl : x = t := by simpa using ht
      rw [Nat.zero_mul, Nat.zero_add, List.getElem?_append_left (by rw [List.length_map]; exact hj), List.getElem?_map, hu]
      rfl
    | succ k =>
      have := ih (k := k) (by simpa using ht)
      rw [List.getElem?_append_right (by rw [List.length_map, Nat.add_mul]; omega), List.length_map, show (k + 1) * q.length + j - q.length = k * q.length + j by rw [Nat.add_mul]; omega]
      exact this
theorem pairP_some {t u x : Int × Mono} (h : pairP t u = some x) : mayM x.2 = true ∧ x.1 = t.1 * u.1 := by
  unfold pairP at h
  cases hr : rtimes t.2 u.2 with
  | none => rw [hr] at h; simp at h
  | some m =>
    rw [hr] at h
    simp at h
    subst h
    exact ⟨rtimes_may hr, rfl⟩
theorem prodL_mem {p q : PZ} {x : Int × Mono} (h : some x ∈ prodL p q) : mayM x.2 = true ∧ ∃ t ∈ p, ∃ u ∈ q, x.1 = t.1 * u.1 := by
  unfold prodL at h
  obtain ⟨t, ht, h⟩ := List.mem_flatMap.1 h
  obtain ⟨u, hu, h⟩ := List.mem_map.1 h
  exact ⟨(pairP_some h).1, t, ht, u, hu, (pairP_some h).2⟩
/-- the first n are there -/
def firstN (p q : PZ) (n : Nat) (xs : PZ) : Prop := (prodL p q).take n = xs.map some
theorem firstN_zero (p q : PZ) : firstN p q 0 [] := rfl
theorem firstN_next {p q : PZ} {n : Nat} {xs : PZ} {x : Int × Mono} (h : firstN p q n xs) (hx : (prodL p q)[n]? = some (some x)) : firstN p q (n + 1) (xs ++ [x]) := by
  unfold firstN at h ⊢
  rw [List.take_add_one, h, hx]
  simp
theorem firstN_none {p q : PZ} {n : Nat} {xs : PZ} (_h : firstN p q n xs) (hx : (prodL p q)[n]? = some none) : timesP p q = none := by
  unfold timesP
  have e : prodL p q = (prodL p q).take n ++ none :: (prodL p q).drop (n + 1) := by rw [← drop_at hx, List.take_append_drop]
  rw [e, allO_none]
  rfl
theorem firstN_all {p q : PZ} {n : Nat} {xs : PZ} (h : firstN p q n xs) (hn : n = p.length * q.length) : timesP p q = some (normP xs) := by
  unfold firstN at h
  rw [List.take_of_length_le (by rw [prodL_length]; omega)] at h
  unfold timesP
  rw [h, allO_some]
  rfl
theorem firstN_mem {p q : PZ} {n : Nat} {xs : PZ} (h : firstN p q n xs) {x : Int × Mono} (hx : x ∈ xs) : mayM x.2 = true ∧ ∃ t ∈ p, ∃ u ∈ q, x.1 = t.1 * u.1 := by
  apply prodL_mem
  have : some x ∈ (prodL p q).take n := by rw [h]; exact List.mem_map.2 ⟨x, hx, rfl⟩
  exact List.mem_of_mem_take this
theorem firstN_len {p q : PZ} {n : Nat} {xs : PZ} (h : firstN p q n xs) : xs.length ≤ p.length * q.length := by
  have h1 : ((prodL p q).take n).length = xs.length := by rw [h, List.length_map]
  rw [← h1, List.length_take, prodL_length]
  exact Nat.min_le_right _ _
/-- sizes that a product takes -/
def szM (p q : PZ) : Prop := ∃ N n, (∀ t ∈ p, ∀ u ∈ q, (t.1 * u.1).natAbs ≤ N) ∧ p.length * q.length ≤ 1000000000000 ∧ p.length * q.length * N < 10 ^ n ∧ n ≤ 2000000
theorem firstN_sz {p q : PZ} {n : Nat} {xs : PZ} (h : firstN p q n xs) (hs : szM p q) : szP (normP xs) := by
  obtain ⟨N, e, h1, h2, h3, h4⟩ := hs
  have hl := firstN_len h
  have hb := addP_bnd (N := N) bnd_nil (l := xs) (fun t ht => by
    obtain ⟨_, a, ha, b, hb, hh⟩ := firstN_mem h ht
    rw [hh]
    exact h1 a ha b hb)
  simp only [Nat.zero_add] at hb
  exact sz_of_bnd hb (by omega) (Nat.lt_of_le_of_lt (Nat.mul_le_mul_right N hl) h3) h4
theorem szM_one {p q : PZ} (hs : szM p q) {t u : Int × Mono} (ht : t ∈ p) (hu : u ∈ q) : szZ (t.1 * u.1) := by
  obtain ⟨N, e, h1, h2, h3, h4⟩ := hs
  have h5 := h1 t ht u hu
  have hp : 0 < p.length := List.length_pos_of_mem ht
  have hq : 0 < q.length := List.length_pos_of_mem hu
  have : 1 * N ≤ p.length * q.length * N := Nat.mul_le_mul_right N (Nat.mul_pos hp hq)
  exact szZ_le (Nat.lt_of_le_of_lt (by omega) h3) h4
end Go.Proofs.YtcpfeepnfodifaaGreat

namespace Go.Proofs.YtcpfeepnfodifaaGreat
open Go.RowKit

/-- what a product answers -/
def timesB : Option PZ → Bool
  | none => false
  | some _ => true
def timesV : Option PZ → PZ
  | none => []
  | some p => p

set_option maxRecDepth 100000 in
set_option maxHeartbeats 8000000 in
theorem rpoly_times {S : Nat → Prop} (vp vq : Value) (p q : PZ) (w : World) (hS : ∀ k, S k → k < w.heap.size) (hp : RTs S w vp p) (hq : RTs S w vq q) (hmp : mayAll p) (hmq : mayAll q) (hszp : szP p) (hszq : szP q) (hsz : szM p q) :
    Calls Tryz.prog 65 #[vp, vq] w fun e w' => ∃ v', e = .returned (.tuple #[v', .bool (timesB (timesP p q))]) ∧ RTs (Plus S w w') w' v' (timesV (timesP p q)) ∧ Ext w w' := by
  have hlp := hp.len_le
  have hlq := hq.len_le
  have HP := hid hp
  have HQ := hid hq
  have HMP := hid hmp
  have HMQ := hid hmq
  have HZP := hid hszp
  have HZQ := hid hszq
  have HSZ := hid hsz
  obtain ⟨ap, cp, rfl⟩ := hp.form
  obtain ⟨aq, cq, rfl⟩ := hq.form
  obtain ⟨R, hR⟩ : ∃ R, R = timesP p q := ⟨_, rfl⟩
  rw [← hR]
  have HR := hid hR
  clear hp hq hmp hmq hszp hszq hsz hR
  go_enter Tryz.func65, Tryz.ntmps65
  go_wp2
  go_loopw [6, 7] (fun o i wr => ∃ k xs n, k ≤ p.length ∧ i = .int .i64 (k : Nat) ∧ Ext w wr ∧ Hid (n = k * q.length) ∧ Hid (firstN p q n xs) ∧ Hid (RTs (Plus S w wr) wr o (normP xs))) (fun _ i _ => p.length - (intOf i).toNat)
  case atStart => exact ⟨0, [], 0, Nat.zero_le _, rfl, Ext.refl _, hid (by rw [Nat.zero_mul]), hid (firstN_zero _ _), hid (RTs.nilv _ _ _ _ (by omega))⟩
  case round =>
    obtain ⟨k, xs, n, hk, rfl, hx, HN, HF, HO⟩ := hrel
    have HX := hid hx
    by_cases hlt : k < p.length
    · obtain ⟨t, ht⟩ := some_of_lt hlt
      have HT := hid ht
      clear ht hx
      go_wp2
      go_loopw [6, 8] (fun o i wr => ∃ j xs n, j ≤ q.length ∧ i = .int .i64 (j : Nat) ∧ Ext w wr ∧ Hid (n = k * q.length + j) ∧ Hid (firstN p q n xs) ∧ Hid (RTs (Plus S w wr) wr o (normP xs))) (fun _ i _ => q.length - (intOf i).toNat)
      case atStart => exact ⟨0, xs, n, Nat.zero_le _, rfl, HX.out, hid (by rw [HN.out, Nat.add_zero]), HF, HO⟩
      case round =>
        clear HO HF HN HX
        clear xs n
        obtain ⟨j, xs, n, hj, rfl, hx, HN, HF, HO⟩ := hrel
        have HX := hid hx
        by_cases hlj : j < q.length
        · obtain ⟨u, hu⟩ := some_of_lt hlj
          have HGET : Hid ((prodL p q)[n]? = some (pairP t u)) := hid (by rw [HN.out]; exact prodL_get HT.out hu)
          have HTP := hid (List.mem_of_getElem? HT.out)
          have HUQ := hid (List.mem_of_getElem? hu)
          obtain ⟨b, off, vd, vo, rfl, -, hn1, hm1, hSb, h1, h2, h3, h4, h5⟩ := HP.out.cellAt HT.out
          obtain ⟨b', off', vd', vo', rfl, -, hn1', hm1', hSb', h1', h2', h3', h4', h5'⟩ := HQ.out.cellAt hu
          have H4 := hid h4
          have H5 := hid h5
          have H4' := hid h4'
          have H5' := hid h5'
          obtain ⟨ad, cd, rfl⟩ := h4.form
          obtain ⟨ao, co, rfl⟩ := h5.form
          obtain ⟨ad', cd', rfl⟩ := h4'.form
          obtain ⟨ao', co', rfl⟩ := h5'.form
          have x0 : Ext w wr.drew := hx.drew
          have HX0 := hid x0
          have HXR := hid ((Ext.refl wr).drew)
          have S0 : _ ∧ _ := And.intro (x0.cell h3) (x0.cell h3')
          have CT := rmono_times (S := S) _ _ t.2 u.2 wr.drew (H5.out.ext x0 hS) (H5'.out.ext x0 hS) (lt_ext hS x0) (HMP.out t HTP.out) (HMQ.out u HUQ.out)
          have CM := fun (W : World) (hW : Ext w W) => zed_mul (S := S) (.agg #[.bool (decide (t.1 < 0)), .slice ad (rep 10 t.1.natAbs).length cd]) (.agg #[.bool (decide (u.1 < 0)), .slice ad' (rep 10 u.1.natAbs).length cd']) t.1 u.1 W ⟨_, rfl, H4.out.ext hW hS⟩ ⟨_, rfl, H4'.out.ext hW hS⟩ (lt_ext hS hW) (HZP.out.2 t HTP.out) (HZQ.out.2 u HUQ.out)
          obtain ⟨bt, hbt⟩ : ∃ b, b = decide (t.1 < 0) := ⟨_, rfl⟩
          obtain ⟨nt, hnt⟩ : ∃ n, n = (rep 10 t.1.natAbs).length := ⟨_, rfl⟩
          obtain ⟨bu, hbu⟩ : ∃ b, b = decide (u.1 < 0) := ⟨_, rfl⟩
          obtain ⟨nu, hnu⟩ : ∃ n, n = (rep 10 u.1.natAbs).length := ⟨_, rfl⟩
          obtain ⟨mt, hmt⟩ : ∃ n, n = t.2.length := ⟨_, rfl⟩
          obtain ⟨mu, hmu⟩ : ∃ n, n = u.2.length := ⟨_, rfl⟩
          rw [← hbt, ← hnt, ← hbu, ← hnu] at CM
          rw [← hmt, ← hmu] at S0 CT
          rw [← hbt] at h1
          rw [← hnt] at h2
          rw [← hbu] at h1'
          rw [← hnu] at h2'
          have HC0 : Hid (_ ∧ _ ∧ _ ∧ _) := hid (And.intro h1 (And.intro h2 (And.intro h1' h2')))
          have HCM := hid CM
          have HSO := hid (szM_one HSZ.out HTP.out HUQ.out)
          have HSX := hid (firstN_sz HF.out HSZ.out)
          have HMX : Hid (mayAll (normP xs)) := hid (normP_can (fun y hy => (firstN_mem HF.out hy).1)).may
          clear hu h1 h2 h3 h4 h5 h1' h2' h3' h4' h5' hx x0 CM hbt hnt hbu hnu hmt hmu
          cases hr : rtimes t.2 u.2 with
          | none =>
            have HRN : Hid (R = none) := hid (HR.out.trans (firstN_none HF.out (by rw [HGET.out]; unfold pairP; rw [hr]; rfl)))
            rw [hr] at CT
            unfold rterr rtval at CT
            simp only at CT
            have HCT := hid CT
            clear CT hr
            go_wp2
            go_region_held3 (fun W => W.cell? ⟨b, off + k * 3 + 2, none⟩ = some (.slice ao mt co) ∧ W.cell? ⟨b', off' + j * 3 + 2, none⟩ = some (.slice ao' mu co')) (first | exact S0 | exact S1)
              (first
                | (go_at_call 114; (with_reducible refine HCT.out.mono ?_); rintro e w1 ⟨v1, rfl, hp1, hx1⟩; have S1 : _ ∧ _ := And.intro (hx1.cell S0.1) (hx1.cell S0.2); have HX1 := hid (HX0.out.trans hx1); clear hx1 hp1))
            go_wp2
            all_goals
              go_ret2
              rw [HRN.out]
              exact ⟨_, rfl, RTs.nilv _ _ _ _ (by omega), HX1.out⟩
          | some m =>
            have HMM := hid (rtimes_may hr)
            have HNX := hid (firstN_next HF.out (x := (t.1 * u.1, m)) (by rw [HGET.out]; unfold pairP; rw [hr]; rfl))
            rw [hr] at CT
            unfold rterr rtval at CT
            simp only at CT
            have HCT := hid CT
            clear CT hr
            go_wp2
            go_region_held3 (fun W => W.cell? ⟨b, off + k * 3 + 2, none⟩ = some (.slice ao mt co) ∧ W.cell? ⟨b', off' + j * 3 + 2, none⟩ = some (.slice ao' mu co')) (first | exact S0 | exact S1)
              (first
                | (go_at_call 114; (with_reducible refine HCT.out.mono ?_); rintro e w1 ⟨v1, rfl, hp1, hx1⟩; have S1 : _ ∧ _ := And.intro (hx1.cell S0.1) (hx1.cell S0.2); have HX1 := hid (HX0.out.trans hx1); have HXR1 := hid (HXR.out.trans hx1); have HP1 : Hid (Pows (Plus S w w1) w1 v1 m) := hid (hp1.to (Kept.refl _ _) (new_plus HX0.out.size)); clear hx1 hp1))
            have x1 : Ext w w1.drew := HX1.out.drew
            have HX1D := hid x1
            have T0 : _ ∧ _ ∧ _ ∧ _ := And.intro (x1.cell HC0.out.1) (And.intro (x1.cell HC0.out.2.1) (And.intro (x1.cell HC0.out.2.2.1) (x1.cell HC0.out.2.2.2)))
            have HCM1 := hid (HCM.out w1.drew x1)
            clear x1 S0 S1
            go_wp2
            go_region_held3 (fun W => W.cell? ⟨b, off + k * 3, none⟩ = some (.bool bt) ∧ W.cell? ⟨b, off + k * 3 + 1, none⟩ = some (.slice ad nt cd) ∧ W.cell? ⟨b', off' + j * 3, none⟩ = some (.bool bu) ∧ W.cell? ⟨b', off' + j * 3 + 1, none⟩ = some (.slice ad' nu cd')) (first | exact T0 | exact T1 | exact T2)
              (first
                | (go_at_call 115; (with_reducible refine HCM1.out.mono ?_); rintro e w2 ⟨v2, rfl, hz2, hx2⟩; have T1 : _ ∧ _ ∧ _ ∧ _ := And.intro (hx2.cell T0.1) (And.intro (hx2.cell T0.2.1) (And.intro (hx2.cell T0.2.2.1) (hx2.cell T0.2.2.2))); have HX2 : Hid (Ext w w2) := hid (HX1D.out.trans hx2); have HX12 : Hid (Ext w1 w2) := hid (((Ext.refl w1).drew).trans hx2); have C2 := hid (rpoly_put (S := Plus S w w2) _ _ _ (normP xs) (t.1 * u.1) m w2 (plus_lt hS HX2.out) (RTs.later hS HO.out HX.out (HXR1.out.trans HX12.out)) (hz2.to (Kept.refl _ _) (new_plus HX1D.out.size)) (HP1.out.to (Kept.ext HX12.out (plus_lt hS HX1.out)) (plus_grow HX12.out.size)) HMX.out HMM.out HSX.out HSO.out); clear hx2 hz2)
                | (go_at_call 61; (with_reducible refine C2.out.mono ?_); rintro e w3 ⟨v3, rfl, hp3, hx3⟩; have T2 : _ ∧ _ ∧ _ ∧ _ := And.intro (hx3.cell T1.1) (And.intro (hx3.cell T1.2.1) (And.intro (hx3.cell T1.2.2.1) (hx3.cell T1.2.2.2))); have HX3 := hid (HX2.out.trans hx3); have HP3 := hid (hp3.to (Kept.refl _ _) (plus_plus HX2.out hx3)); clear hx3 hp3))
            go_wp2
            go_roundw
            case rel => exact ⟨j + 1, xs ++ [(t.1 * u.1, m)], n + 1, by omega, by go_num, HX3.out, hid (by rw [HN.out, Nat.add_assoc]), HNX, hid (by unfold normP; rw [addP_snoc]; exact HP3.out)⟩
            case measure => simp only [intOf]; omega
        · obtain rfl : j = q.length := by omega
          clear hx
          go_wp2
          go_roundw
          case rel => exact ⟨k + 1, xs, n, by omega, by go_num, HX.out, hid (by rw [HN.out, Nat.add_mul, Nat.one_mul]), HF, HO⟩
          case measure => simp only [intOf]; omega
    · obtain rfl : k = p.length := by omega
      have HRS := hid (HR.out.trans (firstN_all HF.out HN.out))
      clear hx
      go_wp2
      all_goals
        go_ret2
        rw [HRS.out]
        exact ⟨_, rfl, HO.out, HX.out⟩
end Go.Proofs.YtcpfeepnfodifaaGreat

namespace Go.Proofs.YtcpfeepnfodifaaGreat
open Go.RowKit

set_option maxRecDepth 100000 in
set_option maxHeartbeats 4000000 in
theorem rpoly_mul {S : Nat → Prop} (vp vq : Value) (p q : PZ) (w : World) (hS : ∀ k, S k → k < w.heap.size) (hp : RTs S w vp p) (hq : RTs S w vq q) (hmp : mayAll p) (hmq : mayAll q) (hszp : szP p) (hszq : szP q) (hsz : szM p q) :
    Calls Tryz.prog 52 #[vp, vq] w fun e w' => ∃ v', e = .returned v' ∧ RTs (Plus S w w') w' v' (timesV (timesP p q)) ∧ Ext w w' := by
  have HT := hid (rpoly_times vp vq p q w hS hp hq hmp hmq hszp hszq hsz)
  clear hp hq
  go_enter Tryz.func52, Tryz.ntmps52
  go_wp2_with fail
  refine HT.out.mono ?_
  rintro e w1 ⟨v1, rfl, hp1, hx1⟩
  have HX1 := hid hx1
  have HP1 := hid hp1
  clear hx1 hp1
  go_wp2
  all_goals
    go_ret
    exact ⟨_, rfl, HP1.out, HX1.out⟩

abbrev knX : PZ := [(1, [(1, 1)])]
abbrev knY : PZ := [(1, [(2, 1)])]
abbrev knYY : PZ := [(1, [(2, 2)])]
abbrev knA : PZ := [(1, [(1, 1), (2, 2)])]
abbrev knB : PZ := [(1, [(2, 1)]), (1, [])]
theorem kn1 : timesV (timesP knY knY) = knYY := by kernel_rfl
theorem kn2 : timesV (timesP knX knYY) = knA := by kernel_rfl
theorem kn3 : addP knY (numP 1) = knB := by kernel_rfl
theorem can_one {m : Mono} (h : mayM m = true) : canP [(1, m)] := ⟨fun t ht => by rw [List.mem_singleton.1 ht]; exact ⟨by show (1 : Int) ≠ 0; decide, h⟩, List.pairwise_singleton _ _⟩
theorem knX_can : canP knX := can_one rfl
theorem knY_can : canP knY := can_one rfl
theorem knYY_can : canP knYY := can_one rfl
theorem knA_can : canP knA := can_one rfl
theorem knB_can : canP knB := by
  rw [← kn3]
  exact (addP_can knY_can (putP_may canP_nil.may rfl)).1
theorem ones_sz {p : PZ} (h : p.length ≤ 100) (h1 : ∀ t ∈ p, t.1 = 1) : szP p := ⟨by omega, fun t ht => by rw [h1 t ht]; exact szZ_i64 (n := 1) (by omega)⟩
theorem ones_szM {p q : PZ} (hp : p.length = 1) (hq : q.length = 1) (h1 : ∀ t ∈ p, t.1 = 1) (h2 : ∀ t ∈ q, t.1 = 1) : szM p q :=
  ⟨1, 1, fun t ht u hu => by rw [h1 t ht, h2 u hu]; decide, by rw [hp, hq]; omega, by rw [hp, hq]; decide, by omega⟩
theorem ones_small {p : PZ} (h1 : ∀ t ∈ p, t.1 = 1) : smallT (ofP p) := fun t ht => by
  obtain ⟨u, hu, rfl⟩ := List.mem_map.1 ht
  have e := h1 u hu
  refine Nat.le_trans (rep_len_le two_le_B32 _ 1 ?_) (by omega)
  rw [e]
  decide
theorem plainP_ofP {p : PZ} (h : canP p) : plainP (ofP p) = p := by
  unfold plainP
  rw [if_pos (mayT_ofP h)]
  exact toP_ofP p
theorem rk1 : orderR (rankP knX) (rankP knY) = -1 := by kernel_rfl
theorem rk2 : reducedP knX knY = true := by kernel_rfl
theorem rk3 : orderR (rankP knA) (rankP knB) = 1 := by kernel_rfl
theorem rk4 : reducedP knA knB = false := by kernel_rfl
theorem rk5 : rankP knA = (2, 2) := by kernel_rfl
theorem RTs.old {w : World} {S : Nat → Prop} {v : Value} {p : PZ} (h : RTs S w v p) (hS : ∀ k, S k → k < w.heap.size) : RTs (Old w) w v p := h.to (Kept.refl _ _) hS
theorem Terms.old {w : World} {S : Nat → Prop} {v : Value} {p : List RTerm} (h : Terms S w v p) (hS : ∀ k, S k → k < w.heap.size) : Terms (Old w) w v p := h.to (Kept.refl _ _) hS
theorem Polys.on {w W : World} {v : Value} {z : List (List RTerm)} (h : Polys (Old w) w v z) (hx : Ext w W) : Polys (Old W) W v z := h.to (Kept.ext hx (fun _ h => h)) (old_lt hx)
theorem Terms.on {w W : World} {v : Value} {z : List RTerm} (h : Terms (Old w) w v z) (hx : Ext w W) : Terms (Old W) W v z := h.to (Kept.ext hx (fun _ h => h)) (old_lt hx)
theorem all_one {m : Mono} : ∀ t ∈ ([(1, m)] : PZ), t.1 = 1 := fun t ht => by rw [List.mem_singleton.1 ht]
theorem knB_one : ∀ t ∈ knB, t.1 = 1 := fun t ht => by
  simp at ht
  rcases ht with rfl | rfl <;> rfl
theorem kn_len {p : PZ} (h : mayAll p) : ∀ t ∈ p, t.2.length ≤ 1000000 := fun t ht => Nat.le_trans (mayM_len (h t ht)) (by omega)
theorem knOne : szP (numP 1) := ones_sz (p := [(1, [])]) (by decide) all_one
theorem kn_step (k : Nat) : szP (addP knY ((numP 1).take k)) := by
  cases k with
  | zero => exact ones_sz (p := knY) (by decide) all_one
  | succ k =>
    have e : (numP 1).take (k + 1) = numP 1 := List.take_of_length_le (by show 1 ≤ k + 1; omega)
    rw [e, kn3]
    exact ones_sz (by decide) knB_one

end Go.Proofs.YtcpfeepnfodifaaGreat

namespace Go.Proofs.YtcpfeepnfodifaaGreat
open Go.RowKit

set_option maxRecDepth 100000 in
set_option maxHeartbeats 4000000 in
theorem zed_neg {S : Nat → Prop} (vd : Value) (x : Int) (w : World) (hd : Digs S w vd (rep 10 x.natAbs)) :
    Calls Tryz.prog 151 #[.agg #[.bool (decide (x < 0)), vd]] w fun e w' => e = .returned (.agg #[.bool (decide (-x < 0)), vd]) ∧ Ext w w' := by
  obtain ⟨a, c, rfl⟩ := hd.form
  have hlen := rep10_pos x.natAbs
  obtain ⟨n, hn⟩ : ∃ n, n = (rep 10 x.natAbs).length := ⟨_, rfl⟩
  rw [← hn] at hlen ⊢
  have hl := hd.len_le
  rw [← hn] at hl
  have hpos : decide (0 < n) = decide (x ≠ 0) := by rw [hlen, decide_eq_decide]; omega
  have HPOS := hid hpos
  clear hd hn hlen hpos
  rcases (show x < 0 ∨ x = 0 ∨ 0 < x by omega) with hx | hx | hx
  · have e1 : decide (x < 0) = true := decide_eq_true hx
    have E2 : Hid (decide (-x < 0) = false) := hid (decide_eq_false (by omega))
    rw [e1]
    clear hx e1 hl
    go_enter Tryz.func151, Tryz.ntmps151
    go_wp2
    all_goals
      refine bodyPost_ret (by simp [results, Tryz.results151, go_sem]; rfl) rfl ?_
      exact ⟨by rw [E2.out], Ext.alloc (Ext.alloc (Ext.refl w) _) _⟩
  · subst hx
    have hn0 : n = 0 := by have := HPOS.out; simpa using this
    subst hn0
    have e1 : decide ((0 : Int) < 0) = false := by decide
    have E2 : Hid (decide (-(0 : Int) < 0) = false) := hid (by decide)
    rw [e1]
    clear e1 hl
    go_enter Tryz.func151, Tryz.ntmps151
    go_wp2
    all_goals
      refine bodyPost_ret (by simp [results, Tryz.results151, go_sem]; rfl) rfl ?_
      exact ⟨by rw [E2.out], Ext.alloc (Ext.alloc (Ext.refl w) _) _⟩
  · have e1 : decide (x < 0) = false := decide_eq_false (by omega)
    have E2 : Hid (decide (-x < 0) = true) := hid (decide_eq_true (by omega))
    have hn0 : 0 < n := by
      have := HPOS.out
      rw [decide_eq_decide] at this
      exact this.2 (by omega)
    rw [e1]
    clear hx e1
    go_enter Tryz.func151, Tryz.ntmps151
    go_wp2
    all_goals
      refine bodyPost_ret (by simp [results, Tryz.results151, go_sem]; rfl) rfl ?_
      exact ⟨by rw [E2.out], Ext.alloc (Ext.alloc (Ext.refl w) _) _⟩

def negP (p : PZ) : PZ := p.map fun t => (-t.1, t.2)
theorem negP_at {p : PZ} {k : Nat} {t : Int × Mono} (h : p[k]? = some t) : negP (p.take (k + 1)) = negP (p.take k) ++ [(-t.1, t.2)] := by
  rw [List.take_add_one, h]
  unfold negP
  rw [List.map_append]
  rfl
theorem negP_length (p : PZ) : (negP p).length = p.length := by unfold negP; rw [List.length_map]
theorem negP_may {p : PZ} (h : mayAll p) : mayAll (negP p) := fun t ht => by
  obtain ⟨u, hu, rfl⟩ := List.mem_map.1 ht
  exact h u hu
theorem szZ_neg {x : Int} (h : szZ x) : szZ (-x) := by unfold szZ; rw [Int.natAbs_neg]; exact h
theorem negP_sz {p : PZ} (h : szP p) : szP (negP p) := ⟨by rw [negP_length]; exact h.1, fun t ht => by
  obtain ⟨u, hu, rfl⟩ := List.mem_map.1 ht
  exact szZ_neg (h.2 u hu)⟩

set_option maxRecDepth 100000 in
set_option maxHeartbeats 8000000 in
theorem rpoly_neg {S : Nat → Prop} (v : Value) (p : PZ) (w : World) (h : RTs S w v p) (hS : ∀ k, S k → k < w.heap.size) (hsz : szP p) :
    Calls Tryz.prog 105 #[v] w fun e w' => ∃ v', e = .returned v' ∧ RTs (Plus S w w') w' v' (negP p) ∧ Ext w w' := by
  obtain ⟨j0, hj, jz0, jz1, jz2⟩ := info_parts Tryz.infoT
  have hl := h.len_le
  have H := hid h
  have HSZ := hid hsz
  obtain ⟨a, cap, rfl⟩ := h.form
  clear h hsz
  go_enter Tryz.func105, Tryz.ntmps105
  go_wp2
  go_loopw [3, 4] (fun o i wr => ∃ k xs, k ≤ p.length ∧ i = .int .i64 (k : Nat) ∧ Ext w wr ∧ Hid (wr.ownsRow w.heap.size 123 3 o k xs) ∧ Hid (Cells3 S w xs (negP (p.take k)))) (fun _ i _ => p.length - (intOf i).toNat)
  case atStart => exact ⟨0, [], Nat.zero_le _, rfl, Ext.refl _, hid (World.ownsRow_nil _ _ _ _), hid rfl⟩
  case round =>
    obtain ⟨k, xs, hk, rfl, hx, HW, HXS⟩ := hrel
    have HX := hid hx
    by_cases hlt : k < p.length
    · obtain ⟨t, ht⟩ := some_of_lt hlt
      obtain ⟨b, off, vd, vo, rfl, -, hn1, hm1, hSb, h1, h2, h3, h4, h5⟩ := H.out.cellAt ht
      have HT := hid (negP_at ht)
      have H4 := hid h4
      have H5 := hid h5
      obtain ⟨ad, cd, rfl⟩ := h4.form
      obtain ⟨ao, co, rfl⟩ := h5.form
      have x0 : Ext w wr.drew := hx.drew
      have HX0 := hid x0
      have h0 : _ ∧ _ ∧ _ := And.intro h1 (And.intro h2 h3)
      have c1 := fun (W : World) (hW : Ext w W) => zed_neg (S := S) (.slice ad (rep 10 t.1.natAbs).length cd) t.1 W (H4.out.ext hW hS)
      obtain ⟨bt, hbt⟩ : ∃ b, b = decide (t.1 < 0) := ⟨_, rfl⟩
      obtain ⟨bn, hbn⟩ : ∃ b, b = decide (-t.1 < 0) := ⟨_, rfl⟩
      obtain ⟨nt, hnt⟩ : ∃ n, n = (rep 10 t.1.natAbs).length := ⟨_, rfl⟩
      obtain ⟨nm, hnm⟩ : ∃ n, n = t.2.length := ⟨_, rfl⟩
      have HBN := hid hbn
      rw [← hbt, ← hnt, ← hnm] at h0
      rw [← hbt, ← hnt, ← hbn] at c1
      rw [← hnm] at H5
      rw [← hnt] at H4
      have S0 : _ ∧ _ ∧ _ := And.intro (x0.cell h0.1) (And.intro (x0.cell h0.2.1) (x0.cell h0.2.2))
      have C1 := hid (c1 wr.drew x0)
      have HB3 : Hid (k + 1 ≤ maxLen) := hid (by have := HSZ.out.1; unfold maxLen; omega)
      have HB4 : Hid ((k + 1) * 56 ≤ 140737488355328) := hid (by have := HSZ.out.1; omega)
      have HWR := hid (own_ext HW.out ((Ext.refl wr).drew))
      have HC0 := hid h0
      clear ht h0 h1 h2 h3 h4 h5 hx x0 c1 hbt hnt hnm hbn
      go_wp2
      go_region_held3 (fun W => W.cell? ⟨b, off + k * 3, none⟩ = some (.bool bt) ∧ W.cell? ⟨b, off + k * 3 + 1, none⟩ = some (.slice ad nt cd) ∧ W.cell? ⟨b, off + k * 3 + 2, none⟩ = some (.slice ao nm co)) (first | exact S0 | exact S1 | exact ⟨cell_old _ S1.1, cell_old _ S1.2.1, cell_old _ S1.2.2⟩ | exact S5)
        (first
          | (go_at_call 151; (with_reducible refine C1.out.mono ?_); rintro e w1 ⟨rfl, hx1⟩; have HX1 := hid (HX0.out.trans hx1); have S1 : _ ∧ _ ∧ _ := And.intro (hx1.cell S0.1) (And.intro (hx1.cell S0.2.1) (hx1.cell S0.2.2)); have HW3 := hid (own_ext (own_ext HWR.out hx1) (Ext.alloc (Ext.refl w1) (.cells #[.bool bn, .slice ad nt cd, .slice ao nm co] 123))); have HSRC3 := hid (src_one w1 #[.bool bn, .slice ad nt cd, .slice ao nm co] 123 (three_cell rfl rfl rfl) (size := 3) rfl); have HB5 := hid (HX1.out.alloc (.cells #[.bool bn, .slice ad nt cd, .slice ao nm co] 123)).size; clear hx1)
          | (refine step_append_src rfl (.tmp 11) (.tmp 24) 40 rfl w.heap.size 123 j0 (.agg #[.bool false, .slice none 0 0, .slice none 0 0]) 3 56 Tryz.underlying40 hj jz0 jz1 jz2 rfl (Nat.succ_pos _) _ k xs rfl HW3.out (some ⟨w1.heap.size, 0, none⟩) 1 1 _ rfl HSRC3.out HB3.out HB4.out HB5.out ?_; intro v5 w5 hown hg hbk; have HW5 := hid hown; have HX5 := hid (own_grown0 (HX1.out.alloc (.cells #[.bool bn, .slice ad nt cd, .slice ao nm co] 123)) HW3.out hg); have S5 : _ ∧ _ ∧ _ := And.intro (HX5.out.cell HC0.out.1) (And.intro (HX5.out.cell HC0.out.2.1) (HX5.out.cell HC0.out.2.2)); clear hown hg hbk))
      all_goals
        go_wp2
        go_roundw
        case rel =>
          refine ⟨k + 1, xs ++ (#[.bool bn, .slice ad nt cd, .slice ao nm co] : Array Value).toList, by omega, by go_num, HX5.out, HW5, hid ?_⟩
          rw [HT.out]
          have hone : Cells3 S w (#[.bool bn, .slice ad nt cd, .slice ao nm co] : Array Value).toList [(-t.1, t.2)] := by
            rw [HBN.out]
            exact Cells3.single (t := (-t.1, t.2)) (by rw [Int.natAbs_neg]; exact H4.out) H5.out
          exact HXS.out.append hone
        case measure => simp only [intOf]; omega
    · obtain rfl : k = p.length := by omega
      have HE : Hid (p.take p.length = p) := hid List.take_length
      clear hx
      go_wp2
      all_goals
        go_ret
        refine ⟨_, rfl, ?_, HX.out⟩
        have hc := HXS.out
        rw [HE.out] at hc
        exact own_rts (by rw [negP_length]; exact HW.out) (hc.to (Kept.ext HX.out hS) (fun _ h => .inl h)) (fun k h1 h2 => .inr ⟨h1, h2⟩)

set_option maxRecDepth 100000 in
set_option maxHeartbeats 4000000 in
theorem rpoly_sub {S : Nat → Prop} (vp vq : Value) (p q : PZ) (w : World) (hS : ∀ k, S k → k < w.heap.size) (hp : RTs S w vp p) (hq : RTs S w vq q) (hmp : mayAll p) (hmq : mayAll q) (hszq : szP q) (hsz : ∀ k, k ≤ q.length → szP (addP p ((negP q).take k))) :
    Calls Tryz.prog 55 #[vp, vq] w fun e w' => ∃ v', e = .returned v' ∧ RTs (Plus S w w') w' v' (addP p (negP q)) ∧ Ext w w' := by
  have C1 := hid (rpoly_neg vq q w hq hS hszq)
  have C2 := hid (fun (v1 : Value) (w1 : World) (hx1 : Ext w w1) (h1 : RTs (Plus S w w1) w1 v1 (negP q)) => rpoly_add (S := Plus S w w1) vp v1 p (negP q) w1 (plus_lt hS hx1) ((hp.ext hx1 hS).to (Kept.refl _ _) (fun _ h => .inl h)) h1 hmp (negP_may hmq) (negP_sz hszq) (fun k hk => hsz k (by rw [negP_length] at hk; exact hk)))
  clear hp hq hmp hmq hszq hsz
  go_enter Tryz.func55, Tryz.ntmps55
  go_wp2_with fail
  refine C1.out.mono ?_
  rintro e w1 ⟨v1, rfl, hp1, hx1⟩
  have HX1 := hid hx1
  have HP1 := hid hp1
  have C3 := hid (C2.out v1 w1 hx1 hp1)
  clear hx1 hp1 C2
  go_wp2_with fail
  refine C3.out.mono ?_
  rintro e w2 ⟨v2, rfl, hp2, hx2⟩
  have HX2 := hid (HX1.out.trans hx2)
  have HP2 := hid (hp2.to (Kept.refl _ _) (plus_plus HX1.out hx2))
  clear hx2 hp2
  go_wp2
  all_goals
    go_ret
    exact ⟨_, rfl, HP2.out, HX2.out⟩
end Go.Proofs.YtcpfeepnfodifaaGreat

namespace Go.Proofs.YtcpfeepnfodifaaGreat

theorem ex_without (m : Mono) (v u : Int) : ex (withoutM m v) u = if u = v then 0 else ex m u := by
  unfold withoutM
  induction m with
  | nil => simp [ex]
  | cons x r ih =>
    by_cases hx : x.1 = v
    · rw [List.filter_cons_of_neg (by simpa using hx), ih]
      by_cases hu : u = v
      · rw [if_pos hu, if_pos hu]
      · rw [if_neg hu, if_neg hu, ex, if_neg (by omega)]
    · rw [List.filter_cons_of_pos (by simpa using hx)]
      simp only [ex, ih]
      by_cases hu : u = v
      · subst hu; simp [hx]
      · simp [hu]
theorem mayTail_weaken {l k : Int} {m : Mono} (h : mayTail l m = true) (hk : k ≤ l) : mayTail k m = true := by
  cases m with
  | nil => rfl
  | cons x r =>
    simp only [mayTail, Bool.and_eq_true, decide_eq_true_eq] at h ⊢
    exact ⟨by omega, h.2⟩
theorem mayTail_without {l : Int} {m : Mono} (h : mayTail l m = true) (v : Int) : mayTail l (withoutM m v) = true := by
  unfold withoutM
  induction m generalizing l with
  | nil => rfl
  | cons x r ih =>
    simp only [mayTail, Bool.and_eq_true, decide_eq_true_eq] at h
    by_cases hx : x.1 = v
    · rw [List.filter_cons_of_neg (by simpa using hx)]
      exact mayTail_weaken (ih h.2) (by omega)
    · rw [List.filter_cons_of_pos (by simpa using hx)]
      simp only [mayTail, Bool.and_eq_true, decide_eq_true_eq]
      exact ⟨by omega, ih h.2⟩
theorem mayM_without {m : Mono} (h : mayM m = true) (v : Int) : mayM (withoutM m v) = true := mayTail_without h v
theorem ex_nonneg {m : Mono} (h : mayM m = true) (v : Int) : 0 ≤ ex m v := (ex_range h v).1
theorem mayM_ext' {a b : Mono} (ha : mayM a = true) (hb : mayM b = true) (h : ∀ v, ex a v = ex b v) : a = b := mayTail_ext ha hb h

/-- the order is told by the highest variable at which the exponents differ -/
theorem cmpE_one {f g : Int → Int} {n : Nat} : cmpE f g n = 1 ↔ ∃ k : Nat, 1 ≤ k ∧ k ≤ n ∧ g (k : Nat) < f (k : Nat) ∧ ∀ j : Nat, k < j → j ≤ n → f (j : Nat) = g (j : Nat) := by
  induction n with
  | zero =>
    simp only [cmpE]
    constructor
    · intro h; omega
    · rintro ⟨k, h1, h2, -⟩; omega
  | succ n ih =>
    simp only [cmpE]
    by_cases h : f ((n + 1 : Nat) : Int) = g ((n + 1 : Nat) : Int)
    · rw [if_pos h, ih]
      constructor
      · rintro ⟨k, h1, h2, h3, h4⟩
        refine ⟨k, h1, by omega, h3, fun j h5 h6 => ?_⟩
        by_cases hj : j = n + 1
        · subst hj; exact h
        · exact h4 j h5 (by omega)
      · rintro ⟨k, h1, h2, h3, h4⟩
        by_cases hk : k = n + 1
        · subst hk; omega
        · exact ⟨k, h1, by omega, h3, fun j h5 h6 => h4 j h5 (by omega)⟩
    · rw [if_neg h, cmpI_one]
      constructor
      · intro h1
        exact ⟨n + 1, by omega, Nat.le_refl _, h1, fun j h5 h6 => by omega⟩
      · rintro ⟨k, h1, h2, h3, h4⟩
        by_cases hk : k = n + 1
        · subst hk; exact h3
        · exact absurd (h4 (n + 1) (by omega) (Nat.le_refl _)) h
theorem compareM_one {a b : Mono} (ha : mayM a = true) (hb : mayM b = true) : compareM a b = 1 ↔ ∃ u : Int, ex b u < ex a u ∧ ∀ j, u < j → ex a j = ex b j := by
  rw [compareM_eq ha hb, cmpE_one]
  constructor
  · rintro ⟨k, h1, h2, h3, h4⟩
    refine ⟨(k : Int), h3, fun j hj => ?_⟩
    by_cases h200 : 200 < j
    · rw [ex_above ha h200, ex_above hb h200]
    · have := h4 j.toNat (by omega) (by omega)
      rwa [Int.toNat_of_nonneg (by omega)] at this
  · rintro ⟨u, h1, h2⟩
    have hu1 : ¬ u ≤ 0 := fun h => by rw [ex_le_last ha h, ex_le_last hb h] at h1; omega
    have hu2 : ¬ 200 < u := fun h => by rw [ex_above ha h, ex_above hb h] at h1; omega
    refine ⟨u.toNat, by omega, by omega, ?_, fun j h5 h6 => h2 _ (by omega)⟩
    rw [Int.toNat_of_nonneg (by omega)]
    exact h1
theorem class_lt {m : Mono} (h : mayM m = true) {v : Int} (hv : 0 < v) (hz : ∀ u, v ≤ u → ex m u = 0) : classM m < v := by
  by_cases hne : m = []
  · subst hne; exact hv
  · have := class_ge h hne
    rcases Int.lt_or_le (classM m) v with g | g
    · exact g
    · rw [hz _ g] at this; omega
theorem class_le {m : Mono} (h : mayM m = true) {v : Int} (hv : 0 ≤ v) (hz : ∀ u, v < u → ex m u = 0) : classM m ≤ v := by
  have := class_lt h (v := v + 1) (by omega) (fun u hu => hz u (by omega))
  omega

/-- what may be of a canonical list -/
theorem canP_filterMap {p : PZ} (h : canP p) (f : Int × Mono → Option (Int × Mono)) (h1 : ∀ t ∈ p, ∀ u, f t = some u → u.1 ≠ 0 ∧ mayM u.2 = true)
    (h2 : ∀ t ∈ p, ∀ t' ∈ p, compareM t.2 t'.2 = 1 → ∀ u, f t = some u → ∀ u', f t' = some u' → compareM u.2 u'.2 = 1) : canP (p.filterMap f) := by
  refine ⟨fun u hu => ?_, ?_⟩
  · obtain ⟨t, ht, e⟩ := List.mem_filterMap.1 hu
    exact h1 t ht u e
  · have h3 : p.Pairwise (fun a b => a ∈ p ∧ b ∈ p ∧ compareM a.2 b.2 = 1) := by
      refine List.Pairwise.imp_of_mem ?_ h.2
      intro a b ha hb hc
      exact ⟨ha, hb, hc⟩
    exact h3.filterMap f (fun a a' g b hb b' hb' => h2 a g.1 a' g.2.1 g.2.2 b hb b' hb')
theorem without_mono {a b : Mono} (ha : mayM a = true) (hb : mayM b = true) {v : Int} (he : ex a v = ex b v) (h : compareM a b = 1) : compareM (withoutM a v) (withoutM b v) = 1 := by
  obtain ⟨u, h1, h2⟩ := (compareM_one ha hb).1 h
  refine (compareM_one (mayM_without ha v) (mayM_without hb v)).2 ⟨u, ?_, fun j hj => ?_⟩
  · rw [ex_without, ex_without]
    by_cases hu : u = v
    · subst hu; omega
    · rw [if_neg hu, if_neg hu]; exact h1
  · rw [ex_without, ex_without, h2 j hj]

/-- the coefficient of a variable's power -/
def coefF (v e : Int) (t : Int × Mono) : Option (Int × Mono) := if ex t.2 v = e then some (t.1, withoutM t.2 v) else none
def coefP (p : PZ) (v e : Int) : PZ := p.filterMap (coefF v e)
def initP (p : PZ) : PZ := if leadP p = 0 then p else coefP p (leadP p) (degP p (leadP p))
def tailF (v d : Int) (t : Int × Mono) : Option (Int × Mono) := if ex t.2 v < d then some t else none
def tailP (p : PZ) : PZ := p.filterMap (tailF (leadP p) (degP p (leadP p)))
theorem coefP_can {p : PZ} (h : canP p) (v e : Int) : canP (coefP p v e) := by
  refine canP_filterMap h _ (fun t ht u hu => ?_) (fun t ht t' ht' hc u hu u' hu' => ?_)
  · unfold coefF at hu
    split at hu
    · cases hu; exact ⟨(h.1 t ht).1, mayM_without (h.1 t ht).2 v⟩
    · cases hu
  · unfold coefF at hu hu'
    split at hu
    · split at hu'
      · rename_i e1 e2
        cases hu; cases hu'
        exact without_mono (h.1 t ht).2 (h.1 t' ht').2 (by omega) hc
      · cases hu'
    · cases hu
theorem filterMap_sub {α : Type} {p : List α} {f : α → Option α} (h : ∀ t u, f t = some u → u = t) : (p.filterMap f).Sublist p := by
  induction p with
  | nil => exact List.Sublist.slnil
  | cons t r ih =>
    rw [List.filterMap_cons]
    split
    · exact ih.cons t
    · rename_i u hu
      rw [h t u hu]
      exact ih.cons_cons t
theorem tailF_some {v d : Int} {t u : Int × Mono} (h : tailF v d t = some u) : u = t ∧ ex t.2 v < d := by
  unfold tailF at h
  split at h
  · rename_i h1
    cases h; exact ⟨rfl, h1⟩
  · cases h
theorem canP_sub {p q : PZ} (h : canP p) (hs : q.Sublist p) : canP q := ⟨fun t ht => h.1 t (hs.mem ht), h.2.sublist hs⟩
theorem tailP_sub (p : PZ) : (tailP p).Sublist p := filterMap_sub (fun _ _ h => (tailF_some h).1)
theorem tailP_can {p : PZ} (h : canP p) : canP (tailP p) := canP_sub h (tailP_sub p)
theorem initP_can {p : PZ} (h : canP p) : canP (initP p) := by
  unfold initP
  split
  · exact h
  · exact coefP_can h _ _

/-- all exponents above the class are 0 -/
theorem ex_above_lead {p : PZ} (h : canP p) {t : Int × Mono} (ht : t ∈ p) {u : Int} (hu : leadP p < u) : ex t.2 u = 0 := by
  have h1 := leadP_range h
  have h2 : classM t.2 ≤ leadP p := by
    rw [← clsP_lead h]
    exact foldl_max_mem (fun t : Int × Mono => classM t.2) p 0 t ht
  exact class_above (h.1 t ht).2 (by omega) (by omega)
theorem lead_lt {p : PZ} (h : canP p) {v : Int} (hv : 0 < v) (hz : ∀ t ∈ p, ∀ u, v ≤ u → ex t.2 u = 0) : leadP p < v := by
  cases p with
  | nil => exact hv
  | cons t r => exact class_lt (h.1 t (by simp)).2 hv (hz t (by simp))
theorem lead_le {p : PZ} (h : canP p) {v : Int} (hv : 0 ≤ v) (hz : ∀ t ∈ p, ∀ u, v < u → ex t.2 u = 0) : leadP p ≤ v := by
  have := lead_lt h (v := v + 1) (by omega) (fun t ht u hu => hz t ht u (by omega))
  omega
theorem degP_le {p : PZ} {v d : Int} (hd : 0 ≤ d) (h : ∀ t ∈ p, ex t.2 v ≤ d) : degP p v ≤ d := foldl_max_ub _ _ _ _ hd h
theorem degP_lt {p : PZ} {v d : Int} (hd : 0 < d) (h : ∀ t ∈ p, ex t.2 v < d) : degP p v < d := by
  have := degP_le (p := p) (v := v) (d := d - 1) (by omega) (fun t ht => by have := h t ht; omega)
  omega
theorem degP_none {p : PZ} {v : Int} (h : ∀ t ∈ p, ex t.2 v = 0) : degP p v = 0 := Int.le_antisymm (degP_le (Int.le_refl _) (fun t ht => by rw [h t ht]; exact Int.le_refl _)) (foldl_max_le _ _ _)
/-- a degree is met -/
theorem degP_met {p : PZ} {v : Int} (h : 0 < degP p v) : ∃ t ∈ p, ex t.2 v = degP p v := by
  by_cases hx : ∃ t ∈ p, ex t.2 v = degP p v
  · exact hx
  · have : degP p v < degP p v := degP_lt h (fun t ht => by
      have h1 := degP_le_mem ht v
      rcases Int.lt_or_le (ex t.2 v) (degP p v) with g | g
      · exact g
      · exact absurd ⟨t, ht, Int.le_antisymm h1 g⟩ hx)
    omega
theorem deg_lead_pos {p : PZ} (h : canP p) (hl : 0 < leadP p) : 0 < degP p (leadP p) := by
  cases p with
  | nil => simp [leadP] at hl
  | cons t r =>
    have hl' : 0 < classM t.2 := hl
    have h1 : t.2 ≠ [] := fun e => by rw [e] at hl'; simp [classM] at hl'
    have h2 := (class_ge (h.1 t (by simp)).2 h1).2.2
    have h3 := degP_le_mem (p := t :: r) (t := t) (by simp) (classM t.2)
    show 0 < degP (t :: r) (classM t.2)
    omega
theorem coefP_mem {p : PZ} {v e : Int} {u : Int × Mono} (h : u ∈ coefP p v e) : ∃ t ∈ p, ex t.2 v = e ∧ u = (t.1, withoutM t.2 v) := by
  obtain ⟨t, ht, e1⟩ := List.mem_filterMap.1 h
  unfold coefF at e1
  split at e1
  · rename_i h1
    cases e1; exact ⟨t, ht, h1, rfl⟩
  · cases e1
theorem coefP_ex {p : PZ} {v e : Int} {u : Int × Mono} (h : u ∈ coefP p v e) : ex u.2 v = 0 := by
  obtain ⟨t, -, -, rfl⟩ := coefP_mem h
  rw [ex_without, if_pos rfl]
theorem coefP_lead {p : PZ} (h : canP p) {v e : Int} (hv : leadP p = v) (h0 : 0 < v) : leadP (coefP p v e) < v := by
  refine lead_lt (coefP_can h v e) h0 (fun u hu j hj => ?_)
  obtain ⟨t, ht, -, rfl⟩ := coefP_mem hu
  rw [ex_without]
  split
  · rfl
  · exact ex_above_lead h ht (by omega)
theorem initP_lead {p : PZ} (h : canP p) (h0 : 0 < leadP p) : leadP (initP p) < leadP p := by
  unfold initP
  rw [if_neg (by omega)]
  exact coefP_lead h rfl h0
theorem tailP_deg {p : PZ} (h : canP p) (h0 : 0 < leadP p) : degP (tailP p) (leadP p) < degP p (leadP p) :=
  degP_lt (deg_lead_pos h h0) (fun t ht => by
    obtain ⟨u, -, e⟩ := List.mem_filterMap.1 ht
    obtain ⟨rfl, h1⟩ := tailF_some e
    exact h1)
theorem sub_lead {p q : PZ} (h : canP p) (hs : q.Sublist p) : leadP q ≤ leadP p :=
  lead_le (canP_sub h hs) (leadP_range h).1 (fun _ ht _ hu => ex_above_lead h (hs.mem ht) hu)

end Go.Proofs.YtcpfeepnfodifaaGreat

namespace Go.Proofs.YtcpfeepnfodifaaGreat

/-- both exponents at a variable -/
def lk : List (Int × Int × Int) → Int → Int × Int
  | [], _ => (0, 0)
  | t :: r, v => if t.1 = v then t.2 else lk r v
/-- variables rise, up to 200 -/
def ris (last : Int) : List (Int × Int × Int) → Prop
  | [] => True
  | t :: r => last < t.1 ∧ t.1 ≤ 200 ∧ ris t.1 r
theorem lk_low {last : Int} {l : List (Int × Int × Int)} (h : ris last l) {u : Int} (hu : u ≤ last) : lk l u = (0, 0) := by
  induction l generalizing last with
  | nil => rfl
  | cons t r ih =>
    obtain ⟨h1, h2, h3⟩ := h
    rw [lk, if_neg (by omega)]
    exact ih h3 (by omega)
theorem both_lk {last : Int} {a b : Mono} (ha : mayTail last a = true) (hb : mayTail last b = true) : ris last (both a b) ∧ ∀ u, lk (both a b) u = (ex a u, ex b u) := by
  generalize hn : a.length + b.length = n
  induction n using Nat.strongRecOn generalizing a b last with
  | ind n ih =>
  cases a with
  | nil =>
    cases b with
    | nil => rw [both_nil]; exact ⟨trivial, fun u => rfl⟩
    | cons y b =>
      have hB := hb
      simp only [mayTail, Bool.and_eq_true, decide_eq_true_eq] at hb
      simp only [List.length_cons, List.length_nil] at hn
      obtain ⟨h1, h2⟩ := ih (0 + b.length) (by omega) (a := []) (b := b) (last := y.1) rfl hb.2 (by simp)
      rw [both_right]
      refine ⟨⟨hb.1.1, hb.1.2.1, h1⟩, fun u => ?_⟩
      rw [lk, h2, ex]
      simp only [ex]
      split <;> rfl
  | cons x a =>
    cases b with
    | nil =>
      have hA := ha
      simp only [mayTail, Bool.and_eq_true, decide_eq_true_eq] at ha
      simp only [List.length_cons, List.length_nil] at hn
      obtain ⟨h1, h2⟩ := ih (a.length + 0) (by omega) (a := a) (b := []) (last := x.1) ha.2 rfl (by simp)
      rw [both_left]
      refine ⟨⟨ha.1.1, ha.1.2.1, h1⟩, fun u => ?_⟩
      rw [lk, h2]
      simp only [ex]
      split <;> rfl
    | cons y b =>
      have hA := ha
      have hB := hb
      simp only [mayTail, Bool.and_eq_true, decide_eq_true_eq] at ha hb
      simp only [List.length_cons] at hn
      rw [both_cons]
      split
      · rename_i hlt
        have hb' : mayTail x.1 (y :: b) = true := by simp only [mayTail, Bool.and_eq_true, decide_eq_true_eq]; exact ⟨⟨hlt, hb.1.2⟩, hb.2⟩
        obtain ⟨h1, h2⟩ := ih (a.length + (b.length + 1)) (by omega) (a := a) (b := y :: b) (last := x.1) ha.2 hb' (by simp)
        refine ⟨⟨ha.1.1, ha.1.2.1, h1⟩, fun u => ?_⟩
        rw [lk, h2]
        by_cases hu : x.1 = u
        · rw [if_pos hu, ← hu, ex_le_last hb' (Int.le_refl _), ex, if_pos rfl]
        · rw [if_neg hu]; conv => rhs; rw [ex, if_neg hu]
      · split
        · rename_i hnlt hlt
          have ha' : mayTail y.1 (x :: a) = true := by simp only [mayTail, Bool.and_eq_true, decide_eq_true_eq]; exact ⟨⟨hlt, ha.1.2⟩, ha.2⟩
          obtain ⟨h1, h2⟩ := ih (a.length + 1 + b.length) (by omega) (a := x :: a) (b := b) (last := y.1) ha' hb.2 (by simp)
          refine ⟨⟨hb.1.1, hb.1.2.1, h1⟩, fun u => ?_⟩
          rw [lk, h2]
          by_cases hu : y.1 = u
          · rw [if_pos hu, ← hu, ex_le_last ha' (Int.le_refl _), ex, if_pos rfl]
          · rw [if_neg hu, show ex (y :: b) u = ex b u by rw [ex, if_neg hu]]
        · rename_i h3 h4
          have hxy : x.1 = y.1 := by omega
          rw [← hxy] at hb
          obtain ⟨h1, h2⟩ := ih (a.length + b.length) (by omega) (a := a) (b := b) (last := x.1) ha.2 hb.2 (by simp)
          refine ⟨⟨ha.1.1, ha.1.2.1, h1⟩, fun u => ?_⟩
          rw [lk, h2]
          by_cases hu : x.1 = u
          · rw [if_pos hu, ex, if_pos hu, ex, if_pos (by omega)]
          · rw [if_neg hu, show ex (y :: b) u = ex b u by rw [ex, if_neg (by omega)], show ex (x :: a) u = ex a u by rw [ex, if_neg hu]]
theorem madeM_ex {f : Int → Int → Int} (h0 : f 0 0 ≤ 0) {last : Int} {l : List (Int × Int × Int)} (h : ris last l) (u : Int) : ex (madeM f l) u = if 0 < f (lk l u).1 (lk l u).2 then f (lk l u).1 (lk l u).2 else 0 := by
  induction l generalizing last with
  | nil =>
    rw [madeM, ex, lk, if_neg (show ¬ 0 < f 0 0 by omega)]
  | cons t r ih =>
    obtain ⟨h1, h2, h3⟩ := h
    rw [madeM, lk]
    by_cases hu : t.1 = u
    · rw [if_pos hu]
      by_cases hf : 0 < f t.2.1 t.2.2
      · rw [if_pos hf, if_pos hf, ex, if_pos hu]
      · rw [if_neg hf, if_neg hf, ih h3, lk_low h3 (by omega), if_neg (show ¬ 0 < f 0 0 by omega)]
    · rw [if_neg hu]
      by_cases hf : 0 < f t.2.1 t.2.2
      · rw [if_pos hf, ex, if_neg hu, ih h3]
      · rw [if_neg hf, ih h3]
theorem madeM_may {f : Int → Int → Int} {last : Int} {l : List (Int × Int × Int)} (h : ris last l) (hf : ∀ t ∈ l, f t.2.1 t.2.2 ≤ 10000) : mayTail last (madeM f l) = true := by
  induction l generalizing last with
  | nil => rfl
  | cons t r ih =>
    obtain ⟨h1, h2, h3⟩ := h
    have hr := ih h3 (fun u hu => hf u (by simp [hu]))
    rw [madeM]
    split
    · rename_i h4
      have := hf t (by simp)
      simp only [mayTail, Bool.and_eq_true, decide_eq_true_eq]
      exact ⟨by omega, hr⟩
    · exact mayTail_weaken hr (by omega)
theorem lk_mem {last : Int} {l : List (Int × Int × Int)} (h : ris last l) {t : Int × Int × Int} (ht : t ∈ l) : lk l t.1 = t.2 := by
  induction l generalizing last with
  | nil => simp at ht
  | cons x r ih =>
    obtain ⟨h1, h2, h3⟩ := h
    rw [lk]
    rcases List.mem_cons.1 ht with rfl | ht
    · rw [if_pos rfl]
    · by_cases e : x.1 = t.1
      · exfalso
        have : ∀ (l : List (Int × Int × Int)) (k : Int), ris k l → ∀ t ∈ l, k < t.1 := by
          intro l
          induction l with
          | nil => intro k _ t ht; simp at ht
          | cons y s ih =>
            intro k hk t ht
            obtain ⟨g1, g2, g3⟩ := hk
            rcases List.mem_cons.1 ht with rfl | ht
            · exact g1
            · have := ih _ g3 t ht; omega
        have := this r x.1 h3 t ht
        omega
      · rw [if_neg e]; exact ih h3 ht
theorem made_ex {f : Int → Int → Int} (h0 : f 0 0 ≤ 0) {a b : Mono} (ha : mayM a = true) (hb : mayM b = true) (u : Int) : ex (madeM f (both a b)) u = if 0 < f (ex a u) (ex b u) then f (ex a u) (ex b u) else 0 := by
  obtain ⟨h1, h2⟩ := both_lk ha hb
  rw [madeM_ex h0 h1, h2]
theorem made_may {f : Int → Int → Int} {a b : Mono} (ha : mayM a = true) (hb : mayM b = true) (hf : ∀ u, f (ex a u) (ex b u) ≤ 10000) : mayM (madeM f (both a b)) = true := by
  obtain ⟨h1, h2⟩ := both_lk ha hb
  refine madeM_may h1 (fun t ht => ?_)
  have := lk_mem h1 ht
  rw [h2] at this
  have h3 := hf t.1
  rw [← this]
  exact h3
theorem times_ex {a b : Mono} (ha : mayM a = true) (hb : mayM b = true) (u : Int) : ex (timesM a b) u = ex a u + ex b u := by
  unfold timesM
  rw [made_ex (by simp) ha hb]
  have h1 := ex_nonneg ha u
  have h2 := ex_nonneg hb u
  split <;> omega
theorem times_may {a b : Mono} (ha : mayM a = true) (hb : mayM b = true) : mayM (timesM a b) = true ↔ ∀ u, ex a u + ex b u ≤ 10000 := by
  constructor
  · intro h u
    rw [← times_ex ha hb]
    exact (ex_range h u).2
  · intro h
    exact made_may ha hb h
theorem one_may {v e : Int} (hv : 1 ≤ v ∧ v ≤ 200) (he : 1 ≤ e ∧ e ≤ 10000) : mayM [(v, e)] = true := by
  unfold mayM mayTail
  simp only [mayTail, Bool.and_true, decide_eq_true_eq]
  omega
theorem ex_one (v e u : Int) : ex [(v, e)] u = if v = u then e else 0 := by simp [ex]
theorem ex_pos_var {m : Mono} (h : mayM m = true) {v : Int} (hv : 0 < ex m v) : 1 ≤ v ∧ v ≤ 200 := by
  refine ⟨?_, ?_⟩
  · rcases Int.lt_or_le v 1 with g | g
    · rw [ex_le_last h (by omega)] at hv; omega
    · exact g
  · rcases Int.lt_or_le 200 v with g | g
    · rw [ex_above h g] at hv; omega
    · exact g

/-- a monomial with one power of a variable less -/
def decM (m : Mono) (v : Int) : Mono := if 1 < ex m v then timesM (withoutM m v) [(v, ex m v - 1)] else withoutM m v
theorem dec_may {m : Mono} (h : mayM m = true) {v : Int} : mayM (decM m v) = true := by
  unfold decM
  split
  · rename_i h1
    have hr := ex_range h v
    refine (times_may (mayM_without h v) (one_may (ex_pos_var h (by omega)) (by omega))).2 (fun u => ?_)
    rw [ex_without, ex_one]
    have := (ex_range h u).2
    split <;> split <;> omega
  · exact mayM_without h v
theorem dec_ex {m : Mono} (h : mayM m = true) {v : Int} (hv : 0 < ex m v) (u : Int) : ex (decM m v) u = if u = v then ex m v - 1 else ex m u := by
  unfold decM
  split
  · rename_i h1
    have hr := ex_range h v
    rw [times_ex (mayM_without h v) (one_may (ex_pos_var h (by omega)) (by omega)), ex_without, ex_one]
    split <;> split <;> omega
  · rw [ex_without]
    split <;> omega
theorem dec_mono {a b : Mono} (ha : mayM a = true) (hb : mayM b = true) {v : Int} (h1 : 0 < ex a v) (h2 : 0 < ex b v) (h : compareM a b = 1) : compareM (decM a v) (decM b v) = 1 := by
  obtain ⟨u, h3, h4⟩ := (compareM_one ha hb).1 h
  refine (compareM_one (dec_may ha) (dec_may hb)).2 ⟨u, ?_, fun j hj => ?_⟩
  · rw [dec_ex ha h1, dec_ex hb h2]
    by_cases hu : u = v
    · subst hu; rw [if_pos rfl, if_pos rfl]; omega
    · rw [if_neg hu, if_neg hu]; exact h3
  · rw [dec_ex ha h1, dec_ex hb h2]
    by_cases hu : j = v
    · subst hu; rw [if_pos rfl, if_pos rfl, h4 j hj]
    · rw [if_neg hu, if_neg hu]; exact h4 j hj

/-- the derivative: term by term -/
def derF (v : Int) (t : Int × Mono) : Option (Int × Mono) := if ex t.2 v = 0 then none else some (t.1 * ex t.2 v, decM t.2 v)
def derP (p : PZ) (v : Int) : PZ := p.filterMap (derF v)
theorem derF_some {v : Int} {t u : Int × Mono} (h : derF v t = some u) : ex t.2 v ≠ 0 ∧ u = (t.1 * ex t.2 v, decM t.2 v) := by
  unfold derF at h
  split at h
  · cases h
  · rename_i h1
    cases h; exact ⟨h1, rfl⟩
theorem derP_can {p : PZ} (h : canP p) (v : Int) : canP (derP p v) := by
  refine canP_filterMap h _ (fun t ht u hu => ?_) (fun t ht t' ht' hc u hu u' hu' => ?_)
  · obtain ⟨h1, rfl⟩ := derF_some hu
    exact ⟨Int.mul_ne_zero (h.1 t ht).1 h1, dec_may (h.1 t ht).2⟩
  · obtain ⟨h1, rfl⟩ := derF_some hu
    obtain ⟨h2, rfl⟩ := derF_some hu'
    have h3 := ex_nonneg (h.1 t ht).2 v
    have h4 := ex_nonneg (h.1 t' ht').2 v
    exact dec_mono (h.1 t ht).2 (h.1 t' ht').2 (by omega) (by omega) hc
theorem derP_mem {p : PZ} {v : Int} {u : Int × Mono} (h : u ∈ derP p v) : ∃ t ∈ p, ex t.2 v ≠ 0 ∧ u = (t.1 * ex t.2 v, decM t.2 v) := by
  obtain ⟨t, ht, e⟩ := List.mem_filterMap.1 h
  exact ⟨t, ht, derF_some e⟩
theorem derP_deg {p : PZ} (h : canP p) {v : Int} (hv : 0 < degP p v) : degP (derP p v) v < degP p v :=
  degP_lt hv (fun u hu => by
    obtain ⟨t, ht, h1, rfl⟩ := derP_mem hu
    have h3 := ex_nonneg (h.1 t ht).2 v
    rw [dec_ex (h.1 t ht).2 (by omega), if_pos rfl]
    have := degP_le_mem ht v
    omega)
theorem derP_lead {p : PZ} (h : canP p) (v : Int) : leadP (derP p v) ≤ leadP p :=
  lead_le (derP_can h v) (leadP_range h).1 (fun u hu j hj => by
    obtain ⟨t, ht, h1, rfl⟩ := derP_mem hu
    have h3 := ex_nonneg (h.1 t ht).2 v
    rw [dec_ex (h.1 t ht).2 (by omega)]
    have h4 := ex_above_lead h ht hj
    split
    · rename_i e; subst e; exact absurd h4 h1
    · exact h4)
end Go.Proofs.YtcpfeepnfodifaaGreat

namespace Go.Proofs.YtcpfeepnfodifaaGreat

theorem ex_snoc' {m : Mono} {v : Int} (h : ∀ x ∈ m, x.1 < v) (e u : Int) : ex (m ++ [(v, e)]) u = if u = v then e else ex m u := by
  induction m with
  | nil =>
    simp only [List.nil_append, ex]
    by_cases hu : v = u
    · rw [if_pos hu, if_pos hu.symm]
    · rw [if_neg hu, if_neg (fun k => hu k.symm)]
  | cons x r ih =>
    have h1 := h x (by simp)
    simp only [List.cons_append, ex, ih (fun y hy => h y (by simp [hy]))]
    by_cases hx : x.1 = u
    · rw [if_pos hx, if_pos hx, if_neg (by omega)]
    · rw [if_neg hx, if_neg hx]
theorem ofE_ex (f : Nat → Int) (n : Nat) (u : Nat) (h0 : ∀ j, 0 ≤ f j) : ex (ofE f n) (u : Int) = if 1 ≤ u ∧ u ≤ n then f u else 0 := by
  induction n with
  | zero =>
    simp only [ofE, ex]
    rw [if_neg (by omega)]
  | succ n ih =>
    simp only [ofE]
    by_cases hf : 0 < f (n + 1)
    · rw [if_pos hf, ex_snoc' (fun x hx => by have := ofE_vars f n x hx; omega), ih]
      by_cases hu : u = n + 1
      · subst hu
        rw [if_pos rfl, if_pos (by omega)]
      · rw [if_neg (by omega)]
        by_cases h1 : 1 ≤ u ∧ u ≤ n
        · rw [if_pos h1, if_pos (by omega)]
        · rw [if_neg h1, if_neg (by omega)]
    · rw [if_neg hf, ih]
      have := h0 (n + 1)
      by_cases hu : u = n + 1
      · subst hu
        rw [if_neg (by omega), if_pos (by omega)]
        omega
      · by_cases h1 : 1 ≤ u ∧ u ≤ n
        · rw [if_pos h1, if_pos (by omega)]
        · rw [if_neg h1, if_neg (by omega)]
theorem rtimes_eq {a b : Mono} (ha : mayM a = true) (hb : mayM b = true) : rtimes a b = if mayM (timesM a b) = true then some (timesM a b) else none := by
  unfold rtimes
  have h0 : ∀ j, 0 ≤ sumF a b j := fun j => by
    have h1 := ex_nonneg ha (j : Int)
    have h2 := ex_nonneg hb (j : Int)
    unfold sumF
    omega
  cases hov : overF (sumF a b) 200 with
  | true =>
    rw [if_pos rfl, if_neg]
    intro hm
    have h1 := (times_may ha hb).1 hm
    have h2 : ∀ n, overF (sumF a b) n = false := fun n => by
      induction n with
      | zero => rfl
      | succ n ih =>
        simp only [overF, ih, Bool.false_or, decide_eq_false_iff_not]
        have := h1 ((n + 1 : Nat) : Int)
        unfold sumF
        omega
    rw [h2] at hov
    cases hov
  | false =>
    have h1 := overF_not hov
    have hm : mayM (timesM a b) = true := (times_may ha hb).2 (fun u => by
      by_cases h2 : u < 1
      · rw [ex_le_last ha (by omega), ex_le_last hb (by omega)]; omega
      · by_cases h3 : 200 < u
        · rw [ex_above ha h3, ex_above hb h3]; omega
        · have := h1 u.toNat (by omega) (by omega)
          unfold sumF at this
          rwa [Int.toNat_of_nonneg (by omega)] at this)
    rw [if_neg (by simp), if_pos hm]
    refine congrArg some ?_
    refine mayM_ext (ofE_may (Nat.le_refl _) (fun j h2 h3 => h1 j h2 h3)) hm (fun k h2 h3 => ?_)
    rw [ofE_ex _ _ _ h0, if_pos ⟨h2, h3⟩, times_ex ha hb]
    rfl
theorem pair_yes {t u : Int × Mono} (ht : mayM t.2 = true) (hu : mayM u.2 = true) (h : mayM (timesM t.2 u.2) = true) : pairP t u = some (t.1 * u.1, timesM t.2 u.2) := by
  unfold pairP
  rw [rtimes_eq ht hu, if_pos h]
  rfl
theorem pair_no {t u : Int × Mono} (ht : mayM t.2 = true) (hu : mayM u.2 = true) (h : mayM (timesM t.2 u.2) = false) : pairP t u = none := by
  unfold pairP
  rw [rtimes_eq ht hu, if_neg (by rw [h]; exact Bool.false_ne_true)]
  rfl
end Go.Proofs.YtcpfeepnfodifaaGreat

namespace Go.Proofs.YtcpfeepnfodifaaGreat
open Go.RowKit

def zeroF (a : Mono) (q : Nat) : Nat → Int := fun j => if j = q then 0 else ex a (j : Nat)
theorem ofE_without {a : Mono} (h : mayM a = true) (q : Nat) : ofE (zeroF a q) 200 = withoutM a (q : Nat) := by
  have h0 : ∀ j, 0 ≤ zeroF a q j := fun j => by
    unfold zeroF
    have := ex_nonneg h (j : Nat)
    split <;> omega
  have hr : ∀ j, zeroF a q j ≤ 10000 := fun j => by
    unfold zeroF
    have := (ex_range h (j : Nat)).2
    split <;> omega
  refine mayM_ext (ofE_may (Nat.le_refl _) (fun j _ _ => hr j)) (mayM_without h _) (fun k h2 h3 => ?_)
  rw [ofE_ex _ _ _ h0, if_pos ⟨h2, h3⟩, ex_without]
  unfold zeroF
  by_cases e : k = q
  · subst e; rw [if_pos rfl, if_pos rfl]
  · rw [if_neg e, if_neg (by omega)]

theorem zero_row {w : World} {g : Nat} {T : TypeId} {a : Mono} {q : Nat} (h : w.rowIs g T 201 (iv fun v => ex a (v : Nat))) : (w.setCell ⟨g, q, none⟩ (.int .i64 0)).rowIs g T 201 (iv (zeroF a q)) :=
  (World.rowIs.set h q (.int .i64 0)).congr (fun i _ => by
    unfold iv zeroF
    by_cases e : i = q
    · rw [if_pos e, if_pos e]
    · rw [if_neg e, if_neg e])

set_option maxRecDepth 100000 in
set_option maxHeartbeats 4000000 in
theorem rmono_without {S : Nat → Prop} (va : Value) (a : Mono) (x : Int) (w : World) (ha : Pows S w va a) (hS : ∀ k, S k → k < w.heap.size) (hma : mayM a = true) (hx : 1 ≤ x ∧ x ≤ 200) :
    Calls Tryz.prog 158 #[va, .int .i64 x] w fun e w' => ∃ v', e = .returned v' ∧ Pows (New w w') w' v' (withoutM a x) ∧ Ext w w' := by
  have hz := (zero_of_info Tryz.infoArr).1
  have hcs : (Value.agg (tabA fun _ => 0)).cells = tabA fun _ => 0 := rfl
  have HA := hid ha
  have HMA := hid hma
  obtain ⟨aa, ca, rfl⟩ := ha.form
  have EA : Hid (exF a = fun v => ex a (v : Nat)) := hid (by funext v; unfold exF; rw [plainM_yes hma])
  obtain ⟨q, hq⟩ : ∃ q : Nat, (q : Int) = x := ⟨x.toNat, by omega⟩
  subst hq
  have HE := hid (ofE_without hma q)
  have hq1 : (1 : Int) ≤ (q : Int) := hx.1
  have hq2 : (q : Int) ≤ 200 := hx.2
  have q1 : decide ((1 : Int) ≤ (q : Int)) = true := decide_eq_true hq1
  have q2 : decide ((q : Int) ≤ 200) = true := decide_eq_true hq2
  have q3 : (0 : Int) ≤ (q : Int) := by omega
  have q4 : (q : Int) < 201 := by omega
  have q5 : q < 201 := by omega
  clear ha hma hx
  go_enter Tryz.func158, Tryz.ntmps158
  go_wp2_with fail
  refine (rmono_exps _ a w HA.out hS).mono ?_
  rintro e w1 ⟨rfl, hx1⟩
  have HX1 := hid hx1
  clear hx1
  rw [EA.out]
  go_wp2_with (first
    | (refine wpList_store_arr rfl (.tmp 5) (.tmp 7) rfl rfl rfl (row_new (fun _ => 0) w1) ?_; intro w4 hrow hg; have HRA := hid (zero_row (q := q) hrow); have HG := hid hg; have hcq := hrow.cell (i := q) q5; have hfq := hrow.frozen q; unfold iv at hcq; clear hrow hg)
    | (refine wpList_load_arr rfl (.tmp 5) rfl rfl HRA.out ?_))
  have HX4 : Hid (Ext w (w4.setCell ⟨w1.heap.size, q, none⟩ (.int .i64 0))) := hid ((ext_grown (HX1.out.alloc _) HG.out (fun k hk => Nat.le_trans HX1.out.size (row_le hk))).setCell (p := ⟨w1.heap.size, q, none⟩) HX1.out.size _)
  refine (rmono_of (zeroF a q) (w4.setCell ⟨w1.heap.size, q, none⟩ (.int .i64 0)) (fun j => by
    have := ex_range HMA.out (j : Nat)
    unfold zeroF
    split <;> omega)).mono ?_
  rintro e w7 ⟨v7, rfl, hp, hx7⟩
  rw [HE.out] at hp
  have HX7 := hid hx7
  have HP7 := hid hp
  clear hp hx7
  go_wp2
  all_goals
    go_ret
    exact ⟨_, rfl, HP7.out.to (Kept.refl _ _) (New.mono HX4.out), HX4.out.trans HX7.out⟩
end Go.Proofs.YtcpfeepnfodifaaGreat

namespace Go.Proofs.YtcpfeepnfodifaaGreat
open Go.RowKit

section
variable {P : Program}
end

end Go.Proofs.YtcpfeepnfodifaaGreat

namespace Go.Proofs.YtcpfeepnfodifaaGreat

section
variable {α : Type} {le : α → α → Bool}

/-- a total preorder -/
structure TotalLe (le : α → α → Bool) : Prop where
  trans : ∀ a b c, le a b = true → le b c = true → le a c = true
  total : ∀ a b, le a b = true ∨ le b a = true

theorem TotalLe.not {x y : α} (h : TotalLe le) (hn : le x y = false) : le y x = true := by
  rcases h.total x y with h | h
  · rw [hn] at h; cases h
  · exact h
theorem TotalLe.not_of (h : TotalLe le) {x y z : α} (h1 : le x y = false) (h2 : le x z = true) : le z y = false := by
  cases h3 : le z y with
  | false => rfl
  | true =>
    have := h.trans _ _ _ h2 h3
    rw [h1] at this; cases this
theorem TotalLe.not_of' (h : TotalLe le) {x y z : α} (h1 : le x y = false) (h2 : le z y = true) : le x z = false := by
  cases h3 : le x z with
  | false => rfl
  | true =>
    have := h.trans _ _ _ h3 h2
    rw [h1] at this; cases this

abbrev mergeL (le : α → α → Bool) (xs ys : List α) : List α := List.merge xs ys le

theorem mergeL_nil (ys : List α) : mergeL le [] ys = ys := List.nil_merge ys
theorem mergeL_right (xs : List α) : mergeL le xs [] = xs := List.merge_right xs
theorem mergeL_pos {x y : α} (xs ys : List α) (h : le x y = true) : mergeL le (x :: xs) (y :: ys) = x :: mergeL le xs (y :: ys) := List.cons_merge_cons_pos le xs ys h
theorem mergeL_neg {x y : α} (xs ys : List α) (h : le x y = false) : mergeL le (x :: xs) (y :: ys) = y :: mergeL le (x :: xs) ys := by
  unfold mergeL
  rw [List.cons_merge_cons, if_neg (by rw [h]; exact Bool.false_ne_true)]

theorem mergeL_perm (xs ys : List α) : (mergeL le xs ys).Perm (xs ++ ys) := List.merge_perm_append le
def SortedL (le : α → α → Bool) (l : List α) : Prop := l.Pairwise (fun a b => le a b = true)

theorem mergeL_sorted (h : TotalLe le) {xs ys : List α} (hx : SortedL le xs) (hy : SortedL le ys) : SortedL le (mergeL le xs ys) :=
  List.pairwise_merge (fun a b c => h.trans a b c) (fun a b => by rcases h.total a b with h | h <;> simp [h]) _ _ hx hy

/-- parts that lie apart are merged each by itself -/
theorem mergeL_split (A1 A2 B1 B2 : List α) (h1 : ∀ x ∈ A1, ∀ y ∈ B2, le x y = true) (h2 : ∀ y ∈ B1, ∀ x ∈ A2, le x y = false) :
    mergeL le (A1 ++ A2) (B1 ++ B2) = mergeL le A1 B1 ++ mergeL le A2 B2 := by
  induction A1 generalizing B1 with
  | nil =>
    rw [mergeL_nil]
    induction B1 with
    | nil => rfl
    | cons b B1 ih =>
      cases A2 with
      | nil => simp
      | cons x A2 =>
        have := ih (fun y hy => h2 y (by simp [hy]))
        simp only [List.nil_append, List.cons_append] at this ⊢
        rw [mergeL_neg _ _ (h2 b (by simp) x (by simp)), this]
  | cons a A1 ihA =>
    induction B1 with
    | nil =>
      rw [mergeL_right]
      cases B2 with
      | nil => simp
      | cons y B2 =>
        have := ihA [] (fun x hx => h1 x (by simp [hx])) (fun y hy => by simp at hy)
        rw [mergeL_right] at this
        simp only [List.nil_append, List.cons_append] at this ⊢
        rw [mergeL_pos _ _ (h1 a (by simp) y (by simp)), this]
    | cons b B1 ihB =>
      cases hab : le a b with
      | true =>
        have := ihA (b :: B1) (fun x hx => h1 x (by simp [hx])) h2
        simp only [List.cons_append] at this ⊢
        rw [mergeL_pos _ _ hab, mergeL_pos _ _ hab, this]
        rfl
      | false =>
        have := ihB (fun y hy => h2 y (by simp [hy]))
        simp only [List.cons_append] at this ⊢
        rw [mergeL_neg _ _ hab, mergeL_neg _ _ hab, this]
        rfl

theorem mergeL_assoc (h : TotalLe le) (A B C : List α) : mergeL le (mergeL le A B) C = mergeL le A (mergeL le B C) := by
  generalize hn : A.length + B.length + C.length = n
  induction n using Nat.strongRecOn generalizing A B C with
  | ind n ih =>
    cases A with
    | nil => rw [mergeL_nil, mergeL_nil]
    | cons a A =>
      cases B with
      | nil => rw [mergeL_nil, mergeL_right]
      | cons b B =>
        cases C with
        | nil => rw [mergeL_right, mergeL_right]
        | cons c C =>
          simp only [List.length_cons] at hn
          cases hab : le a b with
          | true =>
            rw [mergeL_pos _ _ hab]
            cases hac : le a c with
            | true =>
              rw [mergeL_pos _ _ hac, ih _ (by simp only [List.length_cons]; omega) A (b :: B) (c :: C) rfl]
              cases hbc : le b c with
              | true => rw [mergeL_pos _ _ hbc, mergeL_pos _ _ hab]
              | false => rw [mergeL_neg _ _ hbc, mergeL_pos _ _ hac]
            | false =>
              have hbc : le b c = false := h.not_of hac hab
              rw [mergeL_neg _ _ hac, mergeL_neg _ _ hbc, mergeL_neg _ _ hac, ← mergeL_pos _ _ hab, ih _ (by simp only [List.length_cons]; omega) (a :: A) (b :: B) C rfl]
          | false =>
            rw [mergeL_neg _ _ hab]
            cases hbc : le b c with
            | true => rw [mergeL_pos _ _ hbc, mergeL_pos _ _ hbc, mergeL_neg _ _ hab, ih _ (by simp only [List.length_cons]; omega) (a :: A) B (c :: C) rfl]
            | false =>
              have hac : le a c = false := by
                cases h3 : le a c with
                | false => rfl
                | true =>
                  have := h.trans _ _ _ (h.not hab) h3
                  rw [hbc] at this; cases this
              rw [mergeL_neg _ _ hbc, mergeL_neg _ _ hbc, mergeL_neg _ _ hac, ← mergeL_neg _ _ hab, ih _ (by simp only [List.length_cons]; omega) (a :: A) (b :: B) C rfl]

/-- the stable sort -/
def sortL (le : α → α → Bool) : List α → List α
  | [] => []
  | x :: xs => mergeL le [x] (sortL le xs)
theorem sortL_append (h : TotalLe le) (A B : List α) : sortL le (A ++ B) = mergeL le (sortL le A) (sortL le B) := by
  induction A with
  | nil => exact (mergeL_nil _).symm
  | cons a A ih =>
    show mergeL le [a] (sortL le (A ++ B)) = mergeL le (mergeL le [a] (sortL le A)) (sortL le B)
    rw [ih, mergeL_assoc h]
theorem sortL_one (x : α) : sortL le [x] = [x] := mergeL_right [x]
theorem sortL_perm (l : List α) : (sortL le l).Perm l := by
  induction l with
  | nil => exact List.Perm.refl _
  | cons x l ih => exact (mergeL_perm [x] _).trans (ih.cons x)
theorem sortL_len (l : List α) : (sortL le l).length = l.length := (sortL_perm l).length_eq
theorem sortL_sorted (h : TotalLe le) (l : List α) : SortedL le (sortL le l) := by
  induction l with
  | nil => exact List.Pairwise.nil
  | cons x l ih => exact mergeL_sorted h (List.pairwise_singleton _ _) ih
/-- an element put behind those that are not above it -/
theorem mergeL_put {S1 S2 : List α} {x : α} (h1 : ∀ y ∈ S1, le y x = true) (h2 : ∀ y ∈ S2, le y x = false) : mergeL le (S1 ++ S2) [x] = S1 ++ x :: S2 := by
  have e := mergeL_split (le := le) S1 S2 [x] [] (fun _ _ y hy => by simp at hy) (fun y hy z hz => by rw [List.mem_singleton.1 hy]; exact h2 z hz)
  rw [List.append_nil, mergeL_right] at e
  rw [e]
  have e2 := mergeL_split (le := le) S1 [] [] [x] (fun y hy z hz => by rw [List.mem_singleton.1 hz]; exact h1 y hy) (fun y hy => by simp at hy)
  rw [List.append_nil, List.nil_append, mergeL_nil, mergeL_right] at e2
  rw [e2]
  simp
/-- an element put ahead of those that are not below it -/
theorem mergeL_put' {S1 S2 : List α} {x : α} (h1 : ∀ y ∈ S1, le x y = false) (h2 : ∀ y ∈ S2, le x y = true) : mergeL le [x] (S1 ++ S2) = S1 ++ x :: S2 := by
  have e := mergeL_split (le := le) [] [x] S1 S2 (fun y hy => by simp at hy) (fun y hy z hz => by rw [List.mem_singleton.1 hz]; exact h1 y hy)
  rw [List.nil_append, mergeL_nil] at e
  rw [e]
  have e2 := mergeL_split (le := le) [x] [] [] S2 (fun y hy z hz => by rw [List.mem_singleton.1 hy]; exact h2 z hz) (fun y hy => by simp at hy)
  rw [List.append_nil, List.nil_append, mergeL_nil, mergeL_right] at e2
  rw [e2]
  rfl
/-- all ahead of a place are not above what is there -/
theorem SortedL.last {A : List α} {x y : α} (h : TotalLe le) (hs : SortedL le (A ++ [x])) (hxy : le x y = true) : ∀ z ∈ A ++ [x], le z y = true := by
  intro z hz
  obtain ⟨_, _, h3⟩ := List.pairwise_append.1 hs
  rcases List.mem_append.1 hz with hz | hz
  · exact h.trans _ _ _ (h3 z hz x (by simp)) hxy
  · rw [List.mem_singleton.1 hz]; exact hxy
end
end Go.Proofs.YtcpfeepnfodifaaGreat

namespace Go.Proofs.YtcpfeepnfodifaaGreat
open Go.RowKit Go.Sort

theorem grown_ext {w W W' : World} {row : Option Nat} (h : w.grownBy W row) (hx : Ext W W') : w.grownBy W' row :=
  ⟨hx.os.trans h.os, hx.tape.trans h.tape, hx.output.trans h.output, Nat.le_trans h.size hx.size, fun i hi hne => (hx.block i (Nat.lt_of_lt_of_le hi h.size)).trans (h.block i hi hne)⟩
theorem grown_refl (w : World) (row : Option Nat) : w.grownBy w row := ⟨rfl, rfl, rfl, Nat.le_refl _, fun _ _ _ => rfl⟩
theorem grown_set {w W : World} {b o : Nat} (h : w.grownBy W (some b)) (u : Value) : w.grownBy (W.setCell ⟨b, o, none⟩ u) (some b) :=
  ⟨h.os, h.tape, h.output, by rw [size_setCell]; exact h.size, fun i hi hne => (Below.heap_setCell _ _ _ _ (fun e => hne (by rw [e]))).trans (h.block i hi hne)⟩
theorem grown_sets {w : World} {b : Nat} (vs : List Value) : ∀ (o : Nat) (W : World), w.grownBy W (some b) → w.grownBy (W.setCells b o vs) (some b) := by
  induction vs with
  | nil => exact fun _ _ h => h
  | cons v r ih => exact fun o W h => ih (o + 1) _ (grown_set h v)
theorem at_len {α : Type} (A B : List α) (x : α) : (A ++ x :: B)[A.length]? = some x := by simp
theorem arr_at {α : Type} [Inhabited α] {l : List α} {i : Nat} {x : α} (h : l[i]? = some x) : l.toArray[i]! = x := by simp [h]
theorem swp_up {α : Type} [Inhabited α] (A M B : List α) (x y : α) : swp (A ++ x :: M ++ y :: B).toArray A.length (A.length + 1 + M.length) = (A ++ y :: M ++ x :: B).toArray := by
  have e0 : (A ++ x :: M ++ y :: B)[A.length]? = some x := by simp
  have e1 : (A ++ x :: M ++ y :: B)[A.length + 1 + M.length]? = some y := by
    rw [List.getElem?_append_right (by simp; omega)]
    simp [show A.length + 1 + M.length - (A.length + (M.length + 1)) = 0 by omega]
  unfold swp
  rw [arr_at e0, arr_at e1]
  rw [List.setIfInBounds_toArray, List.setIfInBounds_toArray]
  congr 1
  rw [show (A ++ x :: M ++ y :: B).set A.length y = A ++ y :: M ++ y :: B by rw [List.append_assoc, List.set_append_right _ _ (Nat.le_refl _)]; simp]
  rw [List.set_append_right _ _ (by simp; omega)]
  simp [show A.length + 1 + M.length - (A.length + (M.length + 1)) = 0 by omega]
theorem swp_down {α : Type} [Inhabited α] (A M B : List α) (x y : α) : swp (A ++ x :: M ++ y :: B).toArray (A.length + 1 + M.length) A.length = (A ++ y :: M ++ x :: B).toArray := by
  have e0 : (A ++ x :: M ++ y :: B)[A.length]? = some x := by simp
  have e1 : (A ++ x :: M ++ y :: B)[A.length + 1 + M.length]? = some y := by
    rw [List.getElem?_append_right (by simp; omega)]
    simp [show A.length + 1 + M.length - (A.length + (M.length + 1)) = 0 by omega]
  unfold swp
  rw [arr_at e0, arr_at e1]
  rw [List.setIfInBounds_toArray, List.setIfInBounds_toArray]
  congr 1
  rw [show (A ++ x :: M ++ y :: B).set (A.length + 1 + M.length) x = A ++ x :: M ++ x :: B by
    rw [List.set_append_right _ _ (by simp; omega)]
    simp [show A.length + 1 + M.length - (A.length + (M.length + 1)) = 0 by omega]]
  rw [List.append_assoc, List.set_append_right _ _ (Nat.le_refl _)]
  simp
section
variable {α : Type} [Inhabited α] {enc : α → List Value} {k : Nat}

/-- a world of a sort: the row holds these, all else is as it was -/
structure SortAt (enc : α → List Value) (k : Nat) (w : World) (b o : Nat) (d : List α) (W : World) : Prop where
  grown : w.grownBy W (some b)
  holds : HoldsK enc k W b o d.toArray
  old : b < w.heap.size

variable {w W W' : World} {b o : Nat} {d : List α}
theorem SortAt.later (h : SortAt enc k w b o d W) (hx : Ext W W') : SortAt enc k w b o d W' :=
  ⟨grown_ext h.grown hx, fun j hj => by
    have hb : b < W.heap.size := Nat.lt_of_lt_of_le h.old h.grown.size
    have := h.holds j hj
    exact ⟨(World.cell?_of_block (w := W) (hx.block b hb)).trans this.1, (World.frozen?_of_block (w := W) (hx.block b hb)).trans this.2⟩, h.old⟩
theorem SortAt.drew (h : SortAt enc k w b o d W) : SortAt enc k w b o d W.drew := h.later (Ext.refl W).drew
theorem SortAt.swap (h : SortAt enc k w b o d W) (hk : ∀ x, (enc x).length = k) {d' : List α} {i j : Nat} (hi : i < d.length) (hj : j < d.length) (hd : swp d.toArray i j = d'.toArray) :
    SortAt enc k w b o d' ((W.setCells b (o + i * k) (enc d.toArray[j]!)).setCells b (o + j * k) (enc d.toArray[i]!)) := by
  refine ⟨grown_sets _ _ _ (grown_sets _ _ _ h.grown), ?_, h.old⟩
  have e := putRowK_swp enc k hk W b o d.toArray i j (by simpa using hi) (by simpa using hj)
  rw [putRowK_self enc k W b o d.toArray h.holds, hd] at e
  rw [e]
  exact holdsK_putRowK enc k W b o d.toArray _ h.holds (by rw [← hd]; simp [size_swp])
theorem SortAt.cell (h : SortAt enc k w b o d W) {i c : Nat} {x : α} (hi : d[i]? = some x) (hc : c < k) :
    W.cell? ⟨b, o + i * k + c, none⟩ = some (enc x)[c]! ∧ W.frozen? ⟨b, o + i * k + c, none⟩ = false := by
  have hl := lt_of_some hi
  have := HoldsK.cell h.holds (i := i) (c := c) (by simpa using hl) hc
  rw [arr_at hi] at this
  exact this
end

/-- the three cells of a term -/
structure TCell where
  neg : Bool
  ma : Option Addr
  mn : Nat
  mc : Nat
  oa : Option Addr
  on : Nat
  oc : Nat
abbrev encT {α : Type} (tc : α → TCell) (x : α) : List Value := [.bool (tc x).neg, (.slice (tc x).ma (tc x).mn (tc x).mc), (.slice (tc x).oa (tc x).on (tc x).oc)]
section
variable {α : Type} [Inhabited α] {tc : α → TCell} {w W : World} {b o : Nat} {d : List α}
theorem SortAt.get3 (h : SortAt (encT tc) 3 w b o d W) {i : Nat} {x : α} (hi : d[i]? = some x) :
    (W.cell? ⟨b, o + i * 3, none⟩ = some (.bool (tc x).neg) ∧ W.cell? ⟨b, o + i * 3 + 1, none⟩ = some (.slice (tc x).ma (tc x).mn (tc x).mc) ∧ W.cell? ⟨b, o + i * 3 + 2, none⟩ = some (.slice (tc x).oa (tc x).on (tc x).oc)) ∧
    W.frozen? ⟨b, o + i * 3, none⟩ = false ∧ W.frozen? ⟨b, o + i * 3 + 1, none⟩ = false ∧ W.frozen? ⟨b, o + i * 3 + 2, none⟩ = false := by
  have c0 := h.cell hi (c := 0) (by omega)
  have c1 := h.cell hi (c := 1) (by omega)
  have c2 := h.cell hi (c := 2) (by omega)
  exact ⟨⟨c0.1, c1.1, c2.1⟩, c0.2, c1.2, c2.2⟩
theorem SortAt.swap3 (h : SortAt (encT tc) 3 w b o d W) {d' : List α} {i j : Nat} {x y : α} (hi : d[i]? = some x) (hj : d[j]? = some y) (hd : swp d.toArray i j = d'.toArray) :
    SortAt (encT tc) 3 w b o d' ((((((W.setCell ⟨b, o + i * 3, none⟩ (.bool (tc y).neg)).setCell ⟨b, o + i * 3 + 1, none⟩ (.slice (tc y).ma (tc y).mn (tc y).mc)).setCell ⟨b, o + i * 3 + 2, none⟩ (.slice (tc y).oa (tc y).on (tc y).oc)).setCell
      ⟨b, o + j * 3, none⟩ (.bool (tc x).neg)).setCell ⟨b, o + j * 3 + 1, none⟩ (.slice (tc x).ma (tc x).mn (tc x).mc)).setCell ⟨b, o + j * 3 + 2, none⟩ (.slice (tc x).oa (tc x).on (tc x).oc)) := by
  have := h.swap (fun _ => rfl) (lt_of_some hi) (lt_of_some hj) hd
  rw [arr_at hi, arr_at hj] at this
  exact this
end

/-- the one cell of a polynomial -/
structure PCell where
  a : Option Addr
  n : Nat
  c : Nat
section
variable {α : Type} [Inhabited α] {pc : α → PCell} {w W : World} {b o : Nat} {d : List α}
end
end Go.Proofs.YtcpfeepnfodifaaGreat

namespace Go.Proofs.YtcpfeepnfodifaaGreat
open Go.RowKit Go.Sort

section
variable {α : Type} [Inhabited α] {tc : α → TCell} {w : World} {b o : Nat} {cf : α → α → Int} {le : α → α → Bool}

abbrev CmpT (g : Nat) (tc : α → TCell) (cf : α → α → Int) (w : World) (b : Nat) : Prop :=
  ∀ W, w.grownBy W (some b) → ∀ x y : α, Calls Tryz.prog g #[.agg #[.bool (tc x).neg, .slice (tc x).ma (tc x).mn (tc x).mc, .slice (tc x).oa (tc x).on (tc x).oc], .agg #[.bool (tc y).neg, .slice (tc y).ma (tc y).mn (tc y).mc, .slice (tc y).oa (tc y).on (tc y).oc]] W fun e w' => e = .returned (.int .i64 (cf x y)) ∧ Ext W w'
structure CmpLe (cf : α → α → Int) (le : α → α → Bool) : Prop where
  range : ∀ x y, -1 ≤ cf x y ∧ cf x y ≤ 1
  eq : ∀ x y, le y x = decide (0 ≤ cf x y)
  total : TotalLe le

set_option maxRecDepth 100000 in
set_option maxHeartbeats 4000000 in
theorem insertion_t (cap : Nat) (P X T : List α) (W : World) (hc : CmpT 134 tc cf w b) (hl : CmpLe cf le) (h : SortAt (encT tc) 3 w b o (P ++ X ++ T) W) (_hcap : (P ++ X ++ T).length ≤ cap) (hcap2 : (P ++ X ++ T).length ≤ 1000000000000) :
    Calls Tryz.prog 191 #[.slice (some ⟨b, o, none⟩) (P ++ X ++ T).length cap, .int .i64 P.length, .int .i64 (P.length + X.length : Nat), .func (.func 134) #[] #[]] W
      fun e w' => e = .returned (.tuple #[]) ∧ SortAt (encT tc) 3 w b o (P ++ sortL le X ++ T) w' := by
  have H := hid h
  have HC := hid hc
  have HL := hid hl
  clear h hc hl
  obtain ⟨n, hn⟩ : ∃ n, n = (P ++ X ++ T).length := ⟨_, rfl⟩
  obtain ⟨m, hm⟩ : ∃ m, m = P.length + X.length := ⟨_, rfl⟩
  obtain ⟨a, ha⟩ : ∃ a, a = P.length := ⟨_, rfl⟩
  rw [← hn] at _hcap hcap2 ⊢
  rw [← hm, ← ha]
  have hmn : m ≤ n := by rw [hm, hn]; simp
  have ham : a ≤ m := by rw [ha, hm]; simp
  have HN := hid hn
  have HA := hid ha
  have HM := hid hm
  clear hn ha hm
  cases X with
  | nil =>
    obtain rfl : m = a := by rw [HM.out, HA.out]; simp
    go_enter Tryz.func191, Tryz.ntmps191
    go_wp2
    refine wp_loop_rounds 1 ?_
    rw [rounds_succ]
    go_wp2
    go_end0
    exact ⟨rfl, H.out⟩
  | cons x0 X =>
    have ham : a < m := by rw [HA.out, HM.out]; simp
    go_enter Tryz.func191, Tryz.ntmps191
    go_wp2
    go_loopw [8] (fun vi wr => ∃ (i : Nat) (X1 X2 : List α), vi = .int .i64 i ∧ a < i ∧ i ≤ m ∧ Hid (i = a + X1.length) ∧ Hid (x0 :: X = X1 ++ X2) ∧ SortAt (encT tc) 3 w b o (P ++ sortL le X1 ++ X2 ++ T) wr) (fun vi _ => m - (intOf vi).toNat)
    case atStart => exact ⟨a + 1, [x0], X, by go_num, by omega, by omega, rfl, rfl, by rw [sortL_one]; simpa using H.out⟩
    case round =>
      obtain ⟨i, X1, X2, rfl, hai, him, HI, HX, hs⟩ := hrel
      have HS := hid hs
      clear hs
      by_cases hlt : i < m
      · cases X2 with
        | nil =>
          exfalso
          have h1 := HI.out
          have h2 := congrArg List.length HX.out
          have h3 := HM.out
          have h4 := HA.out
          simp at h2 h3
          omega
        | cons x X2 =>
          go_wp2
          go_loopw [9] (fun vj wr2 => ∃ (j : Nat) (S1 S2 : List α), vj = .int .i64 j ∧ a ≤ j ∧ j ≤ i ∧ Hid (j = a + S1.length) ∧ Hid (sortL le X1 = S1 ++ S2) ∧ Hid (∀ y ∈ S2, le y x = false) ∧ SortAt (encT tc) 3 w b o (P ++ S1 ++ x :: S2 ++ X2 ++ T) wr2) (fun vj _ => (intOf vj).toNat)
          case atStart => exact ⟨i, sortL le X1, [], rfl, by omega, Nat.le_refl _, by rw [HI.out, sortL_len]; rfl, by show _ = _; simp, fun y hy => by simp at hy, by simpa using HS.out⟩
          case round =>
            obtain ⟨j, S1, S2, rfl, haj, hji, HJ, HSS, HS2, hs2⟩ := hrel
            rcases (show S1 = [] ∨ ∃ L z, S1 = L ++ [z] by simpa using List.eq_nil_or_concat S1) with rfl | ⟨S1', y, rfl⟩
            · obtain rfl : j = a := by rw [HJ.out]; rfl
              have hb : decide ((j : Int) > (j : Int)) = false := by simp
              have HD := hid hs2
              clear hs2
              go_wp2
              refine wp_region_later (by kernel_rfl) (by kernel_rfl) ?_
              repeat (go_big_quiet_step (fail))
              refine wpQuiet_nil ?_
              intro W2 hW2
              have HD2 := hid (HD.out.later hW2)
              clear hW2
              go_wp2
              go_roundw
              case rel =>
                refine ⟨i + 1, X1 ++ [x], X2, by go_num, by omega, by omega, ?_, ?_, ?_⟩
                · show _ = _; have := HI.out; simp; omega
                · show _ = _; rw [HX.out]; simp
                · have e := mergeL_put (le := le) (S1 := []) (S2 := S2) (x := x) (by simp) HS2.out
                  rw [sortL_append HL.out.total, sortL_one, HSS.out, e]
                  have := HD2.out
                  simpa using this
              case measure => simp [intOf]; omega
            · obtain ⟨jp, rfl⟩ : ∃ jp, j = jp + 1 := ⟨j - 1, by have := HJ.out; simp at this; omega⟩
              have hj : jp = (P ++ S1').length := by have := HJ.out; have := HA.out; simp at *; omega
              have hjn : jp + 1 < n := by omega
              have g0 : (P ++ (S1' ++ [y]) ++ x :: S2 ++ X2 ++ T)[jp]? = some y := by rw [hj]; simp
              have g1 : (P ++ (S1' ++ [y]) ++ x :: S2 ++ X2 ++ T)[jp + 1]? = some x := by
                rw [show jp + 1 = (P ++ S1' ++ [y]).length by simp [hj, Nat.add_assoc], show P ++ (S1' ++ [y]) ++ x :: S2 ++ X2 ++ T = (P ++ S1' ++ [y]) ++ (x :: (S2 ++ X2 ++ T)) by simp]
                exact at_len _ _ _
              have HD := hid hs2
              have HG := hid (And.intro g0 g1)
              have HJP := hid hj
              have L0 := fun Y : Later wr => (hs2.later Y.h).get3 g0
              have L1 := fun Y : Later wr => (hs2.later Y.h).get3 g1
              have LC := fun Y : Later wr => HC.out Y.w' (hs2.later Y.h).grown x y
              have a0 := fun Y => (L0 Y).1.1
              have a1 := fun Y => (L0 Y).1.2.1
              have a2 := fun Y => (L0 Y).1.2.2
              have b0 := fun Y => (L1 Y).1.1
              have b1 := fun Y => (L1 Y).1.2.1
              have b2 := fun Y => (L1 Y).1.2.2
              obtain ⟨r1, r2⟩ := HL.out.range x y
              have HLE := hid (HL.out.eq x y)
              generalize cf x y = c at *
              have HLC := hid LC
              clear L0 L1 LC hs2 g0 g1 hj
              by_cases hcc : c < 0
              · have hle : le y x = false := by rw [HLE.out]; exact decide_eq_false (by omega)
                have HLF := hid hle
                clear hle
                have q1 : (a : Int) < (jp : Int) + 1 := by have := HJ.out; simp at this; omega
                have q2 : (jp : Int) + 1 < (n : Int) := by omega
                have q3 : (jp : Int) < (n : Int) := by omega
                have q4 : (0 : Int) ≤ (jp : Int) + 1 := by omega
                have q5 : ((jp : Int) + 1).toNat = jp + 1 := by omega
                have q6 : IntKind.i64.wrap (jp : Int) = (jp : Int) := by rw [IntKind.wrap_i64]; omega
                go_wp2
                refine wp_region_later (by kernel_rfl) (by kernel_rfl) ?_
                repeat (go_big_quiet_step (first | (go_at_call 134; exact Later.done (HLC.out _))))
                refine wpQuiet_nil ?_
                intro W2 hW2
                clear a0 a1 a2 b0 b1 b2
                have HD2 := hid (HD.out.later hW2)
                clear hW2
                obtain ⟨⟨c0, c1, c2⟩, f0, f1, f2⟩ := HD2.out.get3 HG.out.1
                obtain ⟨⟨d0, d1, d2⟩, k0, k1, k2⟩ := HD2.out.get3 HG.out.2
                have HD3 := hid (HD2.out.swap3 HG.out.2 HG.out.1 (d' := P ++ S1' ++ x :: (y :: S2) ++ X2 ++ T) (by
                  have e := swp_down (P ++ S1') [] (S2 ++ X2 ++ T) y x
                  simp only [List.append_assoc, List.cons_append, List.nil_append, List.length_nil, Nat.add_zero] at e ⊢
                  rw [HJP.out]
                  exact e))
                go_wp2
                go_big_region
                all_goals go_wp2
                go_roundw
                case rel =>
                  refine ⟨jp, S1', y :: S2, rfl, ?_, by omega, ?_, ?_, ?_, ?_⟩
                  · have := HJ.out; simp at this; omega
                  · have := HJ.out; simp at this; show _ = _; omega
                  · show _ = _; rw [HSS.out]; simp
                  · intro z hz
                    rcases List.mem_cons.1 hz with rfl | hz
                    · exact HLF.out
                    · exact HS2.out z hz
                  · exact HD3.out.drew
                case measure => simp [intOf]
              · have hle : le y x = true := by rw [HLE.out]; exact decide_eq_true (by omega)
                have HLT := hid hle
                clear hle
                have q1 : (a : Int) < (jp : Int) + 1 := by have := HJ.out; simp at this; omega
                have q2 : (jp : Int) + 1 < (n : Int) := by omega
                have q3 : (jp : Int) < (n : Int) := by omega
                have q4 : (0 : Int) ≤ (jp : Int) + 1 := by omega
                have q5 : ((jp : Int) + 1).toNat = jp + 1 := by omega
                have q6 : IntKind.i64.wrap (jp : Int) = (jp : Int) := by rw [IntKind.wrap_i64]; omega
                have q7 : ¬ c < 0 := hcc
                go_wp2
                refine wp_region_later (by kernel_rfl) (by kernel_rfl) ?_
                repeat (go_big_quiet_step (first | (go_at_call 134; exact Later.done (HLC.out _))))
                refine wpQuiet_nil ?_
                intro W2 hW2
                clear a0 a1 a2 b0 b1 b2
                have HD2 := hid (HD.out.later hW2)
                clear hW2
                go_wp2
                go_roundw
                case rel =>
                  refine ⟨i + 1, X1 ++ [x], X2, by go_num, by omega, by omega, ?_, ?_, ?_⟩
                  · show _ = _; have := HI.out; simp; omega
                  · show _ = _; rw [HX.out]; simp
                  · have e := mergeL_put (le := le) (S1 := S1' ++ [y]) (S2 := S2) (x := x) (by
                      refine SortedL.last HL.out.total ?_ HLT.out
                      have := sortL_sorted HL.out.total X1
                      rw [HSS.out] at this
                      exact (List.pairwise_append.1 this).1) HS2.out
                    rw [sortL_append HL.out.total, sortL_one, HSS.out, e]
                    have := HD2.out
                    simpa using this
                case measure => simp [intOf]; omega
      · obtain rfl : i = m := by omega
        have hX2 : X2 = [] := by
          have h1 := HI.out
          have h2 := congrArg List.length HX.out
          have h3 := HM.out
          have h4 := HA.out
          simp at h2 h3
          exact List.length_eq_zero_iff.1 (by omega)
        subst hX2
        have HF : Hid (SortAt (encT tc) 3 w b o (P ++ sortL le (x0 :: X) ++ T) wr) := by
          have h1 := HS.out
          have h2 := HX.out
          rw [List.append_nil] at h2
          rw [h2]
          exact hid (by simpa using h1)
        go_wp2
        go_end0
        exact ⟨rfl, HF.out⟩
end
end Go.Proofs.YtcpfeepnfodifaaGreat

namespace Go.Proofs.YtcpfeepnfodifaaGreat
open Go.RowKit Go.Sort

section
variable {α : Type} [Inhabited α] {tc : α → TCell} {w : World} {b o : Nat}

set_option maxRecDepth 100000 in
set_option maxHeartbeats 4000000 in
theorem swap_range_t (cap : Nat) (P U M V Q : List α) (n : Nat) (cv : Value) (W : World) (hu : U.length = n) (hv : V.length = n) (h : SortAt (encT tc) 3 w b o (P ++ U ++ M ++ V ++ Q) W) (_hcap : (P ++ U ++ M ++ V ++ Q).length ≤ cap) (hcap2 : (P ++ U ++ M ++ V ++ Q).length ≤ 1000000000000) :
    Calls Tryz.prog 211 #[.slice (some ⟨b, o, none⟩) (P ++ U ++ M ++ V ++ Q).length cap, .int .i64 P.length, .int .i64 (P.length + n + M.length : Nat), .int .i64 n, cv] W
      fun e w' => e = .returned (.tuple #[]) ∧ SortAt (encT tc) 3 w b o (P ++ V ++ M ++ U ++ Q) w' := by
  have H := hid h
  have HU := hid hu
  have HV := hid hv
  clear h
  obtain ⟨l, hl⟩ : ∃ l, l = (P ++ U ++ M ++ V ++ Q).length := ⟨_, rfl⟩
  obtain ⟨m, hm⟩ : ∃ m, m = P.length + n + M.length := ⟨_, rfl⟩
  obtain ⟨a, ha⟩ : ∃ a, a = P.length := ⟨_, rfl⟩
  rw [← hl] at _hcap hcap2 ⊢
  rw [← hm, ← ha]
  have hmn : m + n ≤ l := by rw [hm, hl]; simp; omega
  have ham : a + n ≤ m := by rw [ha, hm]; omega
  have HL := hid hl
  have HA := hid ha
  have HM := hid hm
  clear hl ha hm hu hv
  go_enter Tryz.func211, Tryz.ntmps211
  go_wp2
  go_loopw [10] (fun vi wr => ∃ (i : Nat) (U1 U2 V1 V2 : List α), vi = .int .i64 i ∧ i ≤ n ∧ Hid (i = U1.length) ∧ Hid (i = V1.length) ∧ Hid (U = U1 ++ U2) ∧ Hid (V = V1 ++ V2) ∧ SortAt (encT tc) 3 w b o (P ++ V1 ++ U2 ++ M ++ U1 ++ V2 ++ Q) wr) (fun vi _ => n - (intOf vi).toNat)
  case atStart => exact ⟨0, [], U, [], V, rfl, by omega, rfl, rfl, rfl, rfl, by simpa using H.out⟩
  case round =>
    obtain ⟨i, U1, U2, V1, V2, rfl, hin, HI, HI2, HUU, HVV, hs⟩ := hrel
    have HS := hid hs
    clear hs
    by_cases hlt : i < n
    · cases U2 with
      | nil =>
        exfalso
        have h1 := HI.out
        have h2 := HU.out
        rw [HUU.out] at h2
        simp at h2
        omega
      | cons x U2 =>
        cases V2 with
        | nil =>
          exfalso
          have h1 := HI2.out
          have h2 := HV.out
          rw [HVV.out] at h2
          simp at h2
          omega
        | cons y V2 =>
          have hx : a + i = (P ++ V1).length := by have := HA.out; have := HI2.out; simp; omega
          have hy : m + i = (P ++ V1).length + 1 + (U2 ++ M ++ U1).length := by
            have h1 := HI.out
            have h2 := HU.out
            have h3 := HM.out
            have h4 := HI2.out
            rw [HUU.out] at h2
            simp at h2 ⊢
            omega
          have g0 : (P ++ V1 ++ x :: U2 ++ M ++ U1 ++ y :: V2 ++ Q)[a + i]? = some x := by
            rw [hx, show P ++ V1 ++ x :: U2 ++ M ++ U1 ++ y :: V2 ++ Q = (P ++ V1) ++ x :: (U2 ++ M ++ U1 ++ y :: V2 ++ Q) by simp]
            exact at_len _ _ _
          have g1 : (P ++ V1 ++ x :: U2 ++ M ++ U1 ++ y :: V2 ++ Q)[m + i]? = some y := by
            rw [hy, show (P ++ V1).length + 1 + (U2 ++ M ++ U1).length = (P ++ V1 ++ x :: U2 ++ M ++ U1).length by simp; omega, show P ++ V1 ++ x :: U2 ++ M ++ U1 ++ y :: V2 ++ Q = (P ++ V1 ++ x :: U2 ++ M ++ U1) ++ y :: (V2 ++ Q) by simp]
            exact at_len _ _ _
          obtain ⟨⟨c0, c1, c2⟩, f0, f1, f2⟩ := HS.out.get3 g0
          obtain ⟨⟨d0, d1, d2⟩, k0, k1, k2⟩ := HS.out.get3 g1
          have HD := hid (HS.out.swap3 g0 g1 (d' := P ++ V1 ++ y :: U2 ++ M ++ U1 ++ x :: V2 ++ Q) (by
            have e := swp_up (P ++ V1) (U2 ++ M ++ U1) (V2 ++ Q) x y
            rw [hx, hy]
            simp only [List.append_assoc, List.cons_append] at e ⊢
            exact e))
          clear g0 g1 hx hy
          have q1 : (a : Int) + (i : Int) < (l : Int) := by omega
          have q2 : (m : Int) + (i : Int) < (l : Int) := by omega
          have q3 : (0 : Int) ≤ (a : Int) + (i : Int) := by omega
          have q4 : (0 : Int) ≤ (m : Int) + (i : Int) := by omega
          have q5 : ((a : Int) + (i : Int)).toNat = a + i := by omega
          have q6 : ((m : Int) + (i : Int)).toNat = m + i := by omega
          go_wp2
          go_big_region
          all_goals go_wp2
          go_roundw
          case rel =>
            refine ⟨i + 1, U1 ++ [x], U2, V1 ++ [y], V2, by go_num, by omega, ?_, ?_, ?_, ?_, ?_⟩
            · show _ = _; rw [HI.out]; simp
            · show _ = _; rw [HI2.out]; simp
            · show _ = _; rw [HUU.out]; simp
            · show _ = _; rw [HVV.out]; simp
            · have := HD.out.drew
              simpa using this
          case measure => simp [intOf]; omega
    · obtain rfl : i = n := by omega
      have h1 : U2 = [] := by
        have h1 := HI.out
        have h2 := HU.out
        rw [HUU.out] at h2
        simp at h2
        exact List.length_eq_zero_iff.1 (by omega)
      have h2 : V2 = [] := by
        have h1 := HI2.out
        have h2 := HV.out
        rw [HVV.out] at h2
        simp at h2
        exact List.length_eq_zero_iff.1 (by omega)
      subst h1 h2
      have HF : Hid (SortAt (encT tc) 3 w b o (P ++ V ++ M ++ U ++ Q) wr) := by
        have := HS.out
        rw [HUU.out, HVV.out]
        exact hid (by simpa using this)
      go_wp2
      go_end0
      exact ⟨rfl, HF.out⟩

theorem swap_range_t' {cap l : Nat} {za zb zn : Int} {cv : Value} {cur : List α} (P U M V Q : List α) (W : World) (hcur : cur = P ++ U ++ M ++ V ++ Q) (hl : l = cur.length) (hza : za = P.length) (hzb : zb = P.length + U.length + M.length) (hzn : zn = U.length) (hv : V.length = U.length)
    (h : SortAt (encT tc) 3 w b o cur W) (hcap : l ≤ cap) (hcap2 : l ≤ 1000000000000) :
    Calls Tryz.prog 211 #[.slice (some ⟨b, o, none⟩) l cap, .int .i64 za, .int .i64 zb, .int .i64 zn, cv] W
      fun e w' => e = .returned (.tuple #[]) ∧ SortAt (encT tc) 3 w b o (P ++ V ++ M ++ U ++ Q) w' := by
  subst hcur hl hza hzn
  obtain rfl : zb = ((P.length + U.length + M.length : Nat) : Int) := by rw [hzb]; omega
  exact swap_range_t cap P U M V Q U.length cv W rfl hv h hcap hcap2

set_option maxRecDepth 100000 in
set_option maxHeartbeats 4000000 in
theorem rotate_t {cap l : Nat} {za zm zb : Int} {cv : Value} {cur : List α} (P X Y Q : List α) (W : World) (hcur : cur = P ++ X ++ Y ++ Q) (hl : l = cur.length) (hza : za = P.length) (hzm : zm = P.length + X.length) (hzb : zb = P.length + X.length + Y.length)
    (h : SortAt (encT tc) 3 w b o cur W) (hx : X ≠ []) (hy : Y ≠ []) (hcap : l ≤ cap) (hcap2 : l ≤ 1000000000000) :
    Calls Tryz.prog 205 #[.slice (some ⟨b, o, none⟩) l cap, .int .i64 za, .int .i64 zm, .int .i64 zb, cv] W
      fun e w' => e = .returned (.tuple #[]) ∧ SortAt (encT tc) 3 w b o (P ++ Y ++ X ++ Q) w' := by
  have hx0 : 0 < X.length := List.length_pos_iff.2 hx
  have hy0 : 0 < Y.length := List.length_pos_iff.2 hy
  have H := hid h
  obtain ⟨m, hm⟩ : ∃ m, m = P.length + X.length := ⟨_, rfl⟩
  obtain ⟨a, ha⟩ : ∃ a, a = P.length := ⟨_, rfl⟩
  obtain ⟨i0, hi0⟩ : ∃ a, a = X.length := ⟨_, rfl⟩
  obtain ⟨j0, hj0⟩ : ∃ a, a = Y.length := ⟨_, rfl⟩
  obtain rfl : za = a := by omega
  obtain rfl : zm = m := by omega
  obtain ⟨B, hB⟩ : ∃ B, B = m + j0 := ⟨_, rfl⟩
  obtain rfl : zb = (B : Int) := by omega
  have HB := hid hB
  have hmB : m ≤ B := by omega
  have hBl : B ≤ l := by rw [hl, hcur, hB, hm, hj0]; simp; omega
  have hml : m + j0 ≤ l := by rw [hl, hcur, hm, hj0]; simp; omega
  have ham : m = a + i0 := by omega
  have HM := hid ham
  have HLL := hid hl
  have HCUR := hid hcur
  have HAA := hid ha
  have HII := hid hi0
  have HJJ := hid hj0
  have hai : a ≤ m := by omega
  have hi1 : 1 ≤ i0 := by omega
  have hj1 : 1 ≤ j0 := by omega
  have w1 : IntKind.i64.wrap ((m : Int) - (a : Int)) = (i0 : Int) := by rw [IntKind.wrap_i64]; omega
  have W1 := hid w1
  clear h hx hy hx0 hy0 hza hzm hzb hl hcur ha hi0 hj0 hm ham w1 hB
  go_enter Tryz.func205, Tryz.ntmps205
  go_wp2
  go_loopw [10, 11] (fun vi vj wr => ∃ (i j : Nat) (P' X' Y' Q' : List α), vi = .int .i64 i ∧ vj = .int .i64 j ∧ 1 ≤ i ∧ 1 ≤ j ∧ i ≤ m ∧ m + j ≤ l ∧ Hid (i = X'.length) ∧ Hid (j = Y'.length) ∧ Hid (m = P'.length + X'.length) ∧ Hid (P' ++ Y' ++ X' ++ Q' = P ++ Y ++ X ++ Q) ∧ SortAt (encT tc) 3 w b o (P' ++ X' ++ Y' ++ Q') wr) (fun vi vj _ => (intOf vi).toNat + (intOf vj).toNat)
  case atStart => exact ⟨i0, j0, P, X, Y, Q, by have := HM.out; congr 1; omega, by have := HB.out; congr 1; omega, hi1, hj1, by have := HM.out; omega, hml, HII.out, HJJ.out, by show _ = _; rw [HM.out, HAA.out, HII.out], rfl, by have := H.out; rw [HCUR.out] at this; exact this⟩
  case round =>
    obtain ⟨i, j, P', X', Y', Q', rfl, rfl, hi, hj, him, hmj, HI, HJ, HMM, HE, hs⟩ := hrel
    have HS := hid hs
    have HLC : Hid (l = (P' ++ X' ++ Y' ++ Q').length) := hid (by
      have h1 := HLL.out
      have h2 := congrArg List.length HE.out
      rw [HCUR.out] at h1
      simp at h1 h2 ⊢
      omega)
    clear hs
    rcases (show i = j ∨ j < i ∨ i < j by omega) with rfl | hlt | hlt
    · have C := hid (swap_range_t' (cap := cap) (l := l) (za := (m : Int) - (i : Int)) (zb := m) (zn := i) (cv := cv) P' X' [] Y' Q' wr (by simp) HLC.out (by have := HMM.out; have := HI.out; omega) (by have := HMM.out; simp; omega) (by have := HI.out; omega) (by rw [← HI.out, ← HJ.out]) HS.out hcap hcap2)
      have q0 : ((i : Int) != (i : Int)) = false := by simp
      go_wp2_with fail
      refine C.out.mono ?_
      rintro e w2 ⟨rfl, hs2⟩
      have HF := hid hs2
      clear hs2
      go_wp2
      go_end0
      refine ⟨rfl, ?_⟩
      have := HF.out
      rw [← HE.out]
      simpa using this
    · obtain ⟨X1, X2, hX, hX1⟩ : ∃ X1 X2, X' = X1 ++ X2 ∧ X1.length = j := ⟨X'.take j, X'.drop j, (List.take_append_drop j X').symm, by rw [List.length_take]; have := HI.out; omega⟩
      subst hX
      have HX1 := hid hX1
      clear hX1
      have C := hid (swap_range_t' (cap := cap) (l := l) (za := (m : Int) - (i : Int)) (zb := m) (zn := j) (cv := cv) P' X1 X2 Y' Q' wr (by simp) HLC.out (by have := HMM.out; have := HI.out; omega) (by have := HMM.out; simp at this; omega) (by have := HX1.out; omega) (by rw [HX1.out, ← HJ.out]) HS.out hcap hcap2)
      have q0 : ((i : Int) != (j : Int)) = true := by simp; omega
      have q1 : (i : Int) > (j : Int) := by omega
      go_wp2_with fail
      refine C.out.mono ?_
      rintro e w2 ⟨rfl, hs2⟩
      have HF := hid hs2
      clear hs2
      go_wp2
      go_roundw
      case rel =>
        refine ⟨i - j, j, P' ++ Y', X2, X1, Q', by congr 1; omega, rfl, by omega, hj, by omega, hmj, ?_, ?_, ?_, ?_, ?_⟩
        · show _ = _; have := HI.out; have := HX1.out; simp at *; omega
        · exact HX1.out.symm
        · show _ = _; have := HMM.out; have := HX1.out; have := HJ.out; simp at *; omega
        · show _ = _; rw [← HE.out]; simp
        · have := HF.out
          simpa using this
      case measure => simp [intOf]; omega
    · obtain ⟨Y1, Y2, hY, hY2⟩ : ∃ Y1 Y2, Y' = Y1 ++ Y2 ∧ Y2.length = i := ⟨Y'.take (j - i), Y'.drop (j - i), (List.take_append_drop _ Y').symm, by rw [List.length_drop]; have := HJ.out; omega⟩
      subst hY
      have HY2 := hid hY2
      clear hY2
      have C := hid (swap_range_t' (cap := cap) (l := l) (za := (m : Int) - (i : Int)) (zb := (m : Int) + (j : Int) - (i : Int)) (zn := i) (cv := cv) P' X' Y1 Y2 Q' wr (by simp) HLC.out (by have := HMM.out; have := HI.out; omega) (by have := HMM.out; have := HJ.out; have := HY2.out; simp at *; omega) (by have := HI.out; omega) (by rw [HY2.out, ← HI.out]) HS.out hcap hcap2)
      have q0 : ((i : Int) != (j : Int)) = true := by simp; omega
      have q1 : ¬ (i : Int) > (j : Int) := by omega
      go_wp2_with fail
      refine C.out.mono ?_
      rintro e w2 ⟨rfl, hs2⟩
      have HF := hid hs2
      clear hs2
      go_wp2
      go_roundw
      case rel =>
        refine ⟨i, j - i, P', Y2, Y1, X' ++ Q', rfl, by congr 1; omega, hi, by omega, him, by omega, ?_, ?_, ?_, ?_, ?_⟩
        · exact HY2.out.symm
        · show _ = _; have := HJ.out; have := HY2.out; simp at *; omega
        · show _ = _; have := HMM.out; have := HY2.out; have := HI.out; omega
        · show _ = _; rw [← HE.out]; simp
        · have := HF.out
          simpa using this
      case measure => simp [intOf]; omega
end
end Go.Proofs.YtcpfeepnfodifaaGreat

namespace Go.Proofs.YtcpfeepnfodifaaGreat
open Go.RowKit Go.Sort

section
variable {α : Type} {le : α → α → Bool}
theorem SortedL.le_at {B : List α} (h : SortedL le B) {i j : Nat} {x y : α} (hx : B[i]? = some x) (hy : B[j]? = some y) (hij : i < j) : le x y = true := by
  obtain ⟨h1, rfl⟩ := List.getElem?_eq_some_iff.1 hx
  obtain ⟨h2, rfl⟩ := List.getElem?_eq_some_iff.1 hy
  exact List.pairwise_iff_getElem.1 h i j h1 h2 hij
theorem take_mem_at {B : List α} {t : Nat} {y : α} (h : y ∈ B.take t) : ∃ k, k < t ∧ B[k]? = some y := by
  obtain ⟨k, hk⟩ := List.getElem?_of_mem h
  rw [List.getElem?_take] at hk
  split at hk
  · exact ⟨k, by assumption, hk⟩
  · cases hk
theorem drop_mem_at {B : List α} {t : Nat} {y : α} (h : y ∈ B.drop t) : ∃ k, t ≤ k ∧ B[k]? = some y := by
  obtain ⟨k, hk⟩ := List.getElem?_of_mem h
  rw [List.getElem?_drop] at hk
  exact ⟨t + k, by omega, hk⟩
theorem cut_low (hl : TotalLe le) {B : List α} (h : SortedL le B) {x : α} {t : Nat} (h1 : t = 0 ∨ ∃ z, B[t - 1]? = some z ∧ le x z = false) : ∀ y ∈ B.take t, le x y = false := by
  intro y hy
  obtain ⟨k, hk, hky⟩ := take_mem_at hy
  rcases h1 with rfl | ⟨z, hz, hzx⟩
  · omega
  · rcases (show k = t - 1 ∨ k < t - 1 by omega) with rfl | hlt
    · rw [hky] at hz
      cases hz
      exact hzx
    · exact hl.not_of' hzx (h.le_at hky hz hlt)
theorem cut_high (hl : TotalLe le) {B : List α} (h : SortedL le B) {x : α} {t : Nat} (h1 : t = B.length ∨ ∃ z, B[t]? = some z ∧ le x z = true) : ∀ y ∈ B.drop t, le x y = true := by
  intro y hy
  obtain ⟨k, hk, hky⟩ := drop_mem_at hy
  rcases h1 with rfl | ⟨z, hz, hzx⟩
  · have := lt_of_some hky; omega
  · rcases (show k = t ∨ t < k by omega) with rfl | hlt
    · rw [hky] at hz
      cases hz
      exact hzx
    · exact hl.trans _ _ _ hzx (h.le_at hz hky hlt)
theorem cut_low' (hl : TotalLe le) {B : List α} (h : SortedL le B) {x : α} {t : Nat} (h1 : t = 0 ∨ ∃ z, B[t - 1]? = some z ∧ le z x = true) : ∀ y ∈ B.take t, le y x = true := by
  intro y hy
  obtain ⟨k, hk, hky⟩ := take_mem_at hy
  rcases h1 with rfl | ⟨z, hz, hzx⟩
  · omega
  · rcases (show k = t - 1 ∨ k < t - 1 by omega) with rfl | hlt
    · rw [hky] at hz
      cases hz
      exact hzx
    · exact hl.trans _ _ _ (h.le_at hky hz hlt) hzx
theorem cut_high' (hl : TotalLe le) {B : List α} (h : SortedL le B) {x : α} {t : Nat} (h1 : t = B.length ∨ ∃ z, B[t]? = some z ∧ le z x = false) : ∀ y ∈ B.drop t, le y x = false := by
  intro y hy
  obtain ⟨k, hk, hky⟩ := drop_mem_at hy
  rcases h1 with rfl | ⟨z, hz, hzx⟩
  · have := lt_of_some hky; omega
  · rcases (show k = t ∨ t < k by omega) with rfl | hlt
    · rw [hky] at hz
      cases hz
      exact hzx
    · exact hl.not_of hzx (h.le_at hz hky hlt)
theorem mid_at {P B T : List α} {a i : Nat} (ha : a = P.length) (hi : i < B.length) : (P ++ B ++ T)[a + i]? = B[i]? := by
  rw [List.append_assoc, List.getElem?_append_right (by omega), show a + i - P.length = i by omega, List.getElem?_append_left hi]
end

section
variable {α : Type} [Inhabited α] {tc : α → TCell} {w : World} {b o : Nat} {cf : α → α → Int} {le : α → α → Bool}

set_option maxRecDepth 100000 in
set_option maxHeartbeats 4000000 in
theorem sym_one_t {cap l : Nat} {a m e : Nat} (P B T : List α) (x : α) (cur : List α) (W : World) (hc : CmpT 134 tc cf w b) (hcl : CmpLe cf le) (hcur : cur = P ++ x :: B ++ T) (hl : l = cur.length) (ha : a = P.length) (hm : m = a + 1) (he : e = a + 1 + B.length)
    (h : SortAt (encT tc) 3 w b o cur W) (hB : SortedL le B) (_hcap : l ≤ cap) (hcap2 : l ≤ 1000000000000) :
    Calls Tryz.prog 192 #[.slice (some ⟨b, o, none⟩) l cap, .int .i64 a, .int .i64 m, .int .i64 e, .func (.func 134) #[] #[]] W
      fun r w' => r = .returned (.tuple #[]) ∧ SortAt (encT tc) 3 w b o (P ++ mergeL le [x] B ++ T) w' := by
  have H := hid h
  have HC := hid hc
  have HL := hid hcl
  have HCUR := hid hcur
  have HLL := hid hl
  have HA := hid ha
  have hml : e ≤ l := by rw [hl, hcur, he, ha]; simp; omega
  have hae : m ≤ e := by omega
  have HM := hid hm
  have HE := hid he
  clear h hc hcl hcur hl ha he
  have hm1 : m ≤ a + 1 := by omega
  have hm2 : a + 1 ≤ m := by omega
  have q0 : ((m : Int) - (a : Int) == 1) = true := by rw [beq_iff_eq]; omega
  clear hm
  have gx : cur[a]? = some x := by rw [HCUR.out, HA.out, show P ++ x :: B ++ T = P ++ x :: (B ++ T) by simp]; exact at_len _ _ _
  have HGX := hid gx
  clear gx
  go_enter Tryz.func192, Tryz.ntmps192
  go_wp2
  go_loopw [10, 11] (fun vi vj wr => ∃ i j : Nat, vi = .int .i64 i ∧ vj = .int .i64 j ∧ m ≤ i ∧ i ≤ j ∧ j ≤ e ∧ Hid (i = m ∨ ∃ z, cur[i - 1]? = some z ∧ le x z = false) ∧ Hid (j = e ∨ ∃ z, cur[j]? = some z ∧ le x z = true) ∧ SortAt (encT tc) 3 w b o cur wr) (fun vi vj _ => (intOf vj).toNat - (intOf vi).toNat)
  case atStart => exact ⟨m, e, rfl, rfl, Nat.le_refl _, hae, Nat.le_refl _, .inl rfl, .inl rfl, H.out⟩
  case round =>
    obtain ⟨i, j, rfl, rfl, hmi, hij, hje, HI, HJ, hs⟩ := hrel
    have HS := hid hs
    by_cases hlt : i < j
    · obtain ⟨h, hh⟩ : ∃ h, h = (i + j) / 2 := ⟨_, rfl⟩
      have hh1 : i ≤ h := by omega
      have hh2 : h < j := by omega
      obtain ⟨z, hz⟩ := some_of_lt (l := cur) (j := h) (by rw [← HLL.out]; omega)
      have HZ := hid hz
      have q1 : ((i : Int) + (j : Int)) / 2 = (h : Int) := by omega
      have L0 := fun Y : Later wr => (hs.later Y.h).get3 hz
      have L1 := fun Y : Later wr => (hs.later Y.h).get3 HGX.out
      have LC := fun Y : Later wr => HC.out Y.w' (hs.later Y.h).grown z x
      have a0 := fun Y => (L0 Y).1.1
      have a1 := fun Y => (L0 Y).1.2.1
      have a2 := fun Y => (L0 Y).1.2.2
      have b0 := fun Y => (L1 Y).1.1
      have b1 := fun Y => (L1 Y).1.2.1
      have b2 := fun Y => (L1 Y).1.2.2
      obtain ⟨r1, r2⟩ := HL.out.range z x
      have HLE := hid (HL.out.eq z x)
      have HH := hid hh
      generalize cf z x = c at *
      have HLC := hid LC
      clear L0 L1 LC hs hz hh
      have q2 : (h : Int) < (l : Int) := by omega
      have q3 : (a : Int) < (l : Int) := by omega
      by_cases hcc : c < 0
      · go_wp2
        refine wp_region_later (by kernel_rfl) (by kernel_rfl) ?_
        repeat (go_big_quiet_step (first | (go_at_call 134; exact Later.done (HLC.out _))))
        refine wpQuiet_nil ?_
        intro W2 hW2
        clear a0 a1 a2 b0 b1 b2
        have HD2 := hid (HS.out.later hW2)
        clear hW2
        go_wp2
        go_roundw
        case rel =>
          refine ⟨h + 1, j, by go_num, rfl, by omega, by omega, hje, .inr ⟨z, by rw [Nat.add_sub_cancel]; exact HZ.out, ?_⟩, HJ, HD2.out⟩
          rw [HLE.out]; exact decide_eq_false (by omega)
        case measure => simp only [intOf]; omega
      · have q4 : ¬ c < 0 := hcc
        go_wp2
        refine wp_region_later (by kernel_rfl) (by kernel_rfl) ?_
        repeat (go_big_quiet_step (first | (go_at_call 134; exact Later.done (HLC.out _))))
        refine wpQuiet_nil ?_
        intro W2 hW2
        clear a0 a1 a2 b0 b1 b2
        have HD2 := hid (HS.out.later hW2)
        clear hW2
        go_wp2
        go_roundw
        case rel =>
          refine ⟨i, h, rfl, rfl, hmi, hh1, by omega, HI, .inr ⟨z, HZ.out, ?_⟩, HD2.out⟩
          rw [HLE.out]; exact decide_eq_true (by omega)
        case measure => simp only [intOf]; omega
    · obtain rfl : i = j := by omega
      obtain ⟨t, ht⟩ : ∃ t, t = i - m := ⟨_, rfl⟩
      have htB : t ≤ B.length := by have := HE.out; omega
      have hcur' : ∀ k, k < B.length → cur[m + k]? = B[k]? := fun k hk => by
        rw [HCUR.out, show P ++ x :: B ++ T = (P ++ [x]) ++ B ++ T by simp]
        exact mid_at (by have := HA.out; simp; omega) hk
      have e1 := cut_low HL.out.total hB (x := x) (t := t) (by
        rcases HI.out with h | ⟨z, h1, h2⟩
        · exact .inl (by omega)
        · rcases (show t = 0 ∨ 0 < t by omega) with h0 | h0
          · exact .inl h0
          · refine .inr ⟨z, ?_, h2⟩
            rw [← hcur' _ (by omega), ← h1]
            congr 1
            omega)
      have e2 := cut_high HL.out.total hB (x := x) (t := t) (by
        rcases HJ.out with h | ⟨z, h1, h2⟩
        · exact .inl (by have := HE.out; omega)
        · rcases (show t = B.length ∨ t < B.length by omega) with h0 | h0
          · exact .inl h0
          · refine .inr ⟨z, ?_, h2⟩
            rw [← hcur' _ h0, ← h1]
            congr 1
            omega)
      have hmg := mergeL_put' e1 e2
      rw [List.take_append_drop] at hmg
      have HMG := hid hmg
      have hb1 : (B.take t).length = t := by rw [List.length_take]; omega
      have HB := hid (List.take_append_drop t B)
      generalize B.take t = B1 at *
      generalize B.drop t = B2 at *
      have HB1 := hid hb1
      have HT := hid ht
      have hti : i = a + t + 1 := by omega
      have HTI := hid hti
      have hs0 := HS.out
      rw [HCUR.out, ← HB.out] at hs0
      have HS0 := hid hs0
      have hil : i ≤ l := by omega
      clear hs hcur' e1 e2 hmg hb1 ht hti hs0 htB
      go_wp2
      go_loopw [13] (fun vk wr => ∃ (k : Nat) (C1 C2 : List α), vk = .int .i64 k ∧ k < i ∧ Hid (k = a + C1.length) ∧ Hid (B1 = C1 ++ C2) ∧ SortAt (encT tc) 3 w b o (P ++ C1 ++ x :: C2 ++ B2 ++ T) wr) (fun vk _ => i - (intOf vk).toNat)
      case atStart => exact ⟨a, [], B1, rfl, by omega, rfl, rfl, by simpa using HS0.out⟩
      case round =>
        obtain ⟨k, C1, C2, rfl, hki, HK, HC12, hs⟩ := hrel
        have HS := hid hs
        clear hs
        by_cases hlt : k + 1 < i
        · cases C2 with
          | nil =>
            exfalso
            have h1 := HC12.out
            have h2 := HB1.out
            have h3 := HK.out
            have h4 := HTI.out
            rw [h1] at h2
            simp at h2
            omega
          | cons y C2 =>
            have hk := HK.out
            have hk' : k = (P ++ C1).length := by rw [hk, HA.out]; simp
            have g0 : (P ++ C1 ++ x :: (y :: C2) ++ B2 ++ T)[k]? = some x := by
              rw [hk', show P ++ C1 ++ x :: (y :: C2) ++ B2 ++ T = (P ++ C1) ++ x :: (y :: C2 ++ B2 ++ T) by simp]
              exact at_len _ _ _
            have g1 : (P ++ C1 ++ x :: (y :: C2) ++ B2 ++ T)[k + 1]? = some y := by
              rw [hk', show (P ++ C1).length + 1 = (P ++ C1 ++ [x]).length by simp; omega, show P ++ C1 ++ x :: (y :: C2) ++ B2 ++ T = (P ++ C1 ++ [x]) ++ y :: (C2 ++ B2 ++ T) by simp]
              exact at_len _ _ _
            obtain ⟨⟨c0, c1, c2⟩, f0, f1, f2⟩ := HS.out.get3 g0
            obtain ⟨⟨d0, d1, d2⟩, k0, k1, k2⟩ := HS.out.get3 g1
            have HD := hid (HS.out.swap3 g0 g1 (d' := P ++ C1 ++ y :: x :: C2 ++ B2 ++ T) (by
              have e := swp_up (P ++ C1) [] (C2 ++ B2 ++ T) x y
              rw [hk']
              simp only [List.append_assoc, List.cons_append, List.nil_append, List.length_nil, Nat.add_zero] at e ⊢
              exact e))
            clear g0 g1 hk hk'
            have q1 : (k : Int) + 1 < (l : Int) := by omega
            have q2 : (k : Int) < (l : Int) := by omega
            have q3 : (0 : Int) ≤ (k : Int) + 1 := by omega
            have q5 : ((k : Int) + 1).toNat = k + 1 := by omega
            have q6 : (k : Int) < (i : Int) - 1 := by omega
            go_wp2
            go_big_region
            all_goals go_wp2
            go_roundw
            case rel =>
              refine ⟨k + 1, C1 ++ [y], C2, by go_num, hlt, ?_, ?_, ?_⟩
              · show _ = _; have := HK.out; simp; omega
              · show _ = _; rw [HC12.out]; simp
              · have := HD.out.drew
                simpa using this
            case measure => simp only [intOf]; omega
        · have hC2 : C2 = [] := by
            have h1 := HC12.out
            have h2 := HB1.out
            have h3 := HK.out
            have h4 := HTI.out
            rw [h1] at h2
            simp at h2
            exact List.length_eq_zero_iff.1 (by omega)
          subst hC2
          have HF : Hid (SortAt (encT tc) 3 w b o (P ++ mergeL le [x] B ++ T) wr) := by
            have := HS.out
            rw [HMG.out, HC12.out]
            exact hid (by simpa using this)
          have q6 : ¬ (k : Int) < (i : Int) - 1 := by omega
          go_wp2
          (try simp only [Exit.inBlock, Exit.then]); refine bodyPost_ret (results_none rfl _ _ _) rfl ?_
          exact ⟨rfl, by first | (with_reducible exact HF.out) | (rw [← List.append_assoc]; with_reducible exact HF.out)⟩

set_option maxRecDepth 100000 in
set_option maxHeartbeats 4000000 in
theorem sym_last_t {cap l : Nat} {a m e : Nat} (P A T : List α) (x : α) (cur : List α) (W : World) (hc : CmpT 134 tc cf w b) (hcl : CmpLe cf le) (hcur : cur = P ++ A ++ x :: T) (hl : l = cur.length) (ha : a = P.length) (hm : m = a + A.length) (he : e = m + 1) (hA2 : 2 ≤ A.length)
    (h : SortAt (encT tc) 3 w b o cur W) (hA : SortedL le A) (_hcap : l ≤ cap) (hcap2 : l ≤ 1000000000000) :
    Calls Tryz.prog 192 #[.slice (some ⟨b, o, none⟩) l cap, .int .i64 a, .int .i64 m, .int .i64 e, .func (.func 134) #[] #[]] W
      fun r w' => r = .returned (.tuple #[]) ∧ SortAt (encT tc) 3 w b o (P ++ mergeL le A [x] ++ T) w' := by
  have hnot : ∀ (x : Bool) (w : World), (Op.unary .not (.bool x)).run Tryz.prog w = .ok (.bool (!x)) w := fun _ _ => rfl
  have H := hid h
  have HC := hid hc
  have HL := hid hcl
  have HCUR := hid hcur
  have HLL := hid hl
  have HA := hid ha
  have hml : e ≤ l := by rw [hl, hcur, he, hm, ha]; simp; omega
  have hae : a + 2 ≤ m := by omega
  have HM := hid hm
  have hem : m < e := by omega
  have q0 : ((m : Int) - (a : Int) == 1) = false := by rw [beq_eq_false_iff_ne]; omega
  have q00 : ((e : Int) - (m : Int) == 1) = true := by rw [beq_iff_eq]; omega
  have hmm : (P ++ A).length = m := by rw [hm, ha]; simp
  clear h hc hcl hcur hl ha he hm hA2
  have gx : cur[m]? = some x := by rw [HCUR.out, ← hmm]; exact at_len _ _ _
  have HGX := hid gx
  have HMM := hid hmm
  clear gx hmm
  go_enter Tryz.func192, Tryz.ntmps192
  go_wp2
  go_loopw [14, 15] (fun vi vj wr => ∃ i j : Nat, vi = .int .i64 i ∧ vj = .int .i64 j ∧ a ≤ i ∧ i ≤ j ∧ j ≤ m ∧ Hid (i = a ∨ ∃ z, cur[i - 1]? = some z ∧ le z x = true) ∧ Hid (j = m ∨ ∃ z, cur[j]? = some z ∧ le z x = false) ∧ SortAt (encT tc) 3 w b o cur wr) (fun vi vj _ => (intOf vj).toNat - (intOf vi).toNat)
  case atStart => exact ⟨a, m, rfl, rfl, Nat.le_refl _, by omega, Nat.le_refl _, .inl rfl, .inl rfl, H.out⟩
  case round =>
    obtain ⟨i, j, rfl, rfl, hmi, hij, hje, HI, HJ, hs⟩ := hrel
    have HS := hid hs
    by_cases hlt : i < j
    · obtain ⟨h, hh⟩ : ∃ h, h = (i + j) / 2 := ⟨_, rfl⟩
      have hh1 : i ≤ h := by omega
      have hh2 : h < j := by omega
      obtain ⟨z, hz⟩ := some_of_lt (l := cur) (j := h) (by rw [← HLL.out]; omega)
      have HZ := hid hz
      have q1 : ((i : Int) + (j : Int)) / 2 = (h : Int) := by omega
      have L0 := fun Y : Later wr => (hs.later Y.h).get3 hz
      have L1 := fun Y : Later wr => (hs.later Y.h).get3 HGX.out
      have LC := fun Y : Later wr => HC.out Y.w' (hs.later Y.h).grown x z
      have a0 := fun Y => (L0 Y).1.1
      have a1 := fun Y => (L0 Y).1.2.1
      have a2 := fun Y => (L0 Y).1.2.2
      have b0 := fun Y => (L1 Y).1.1
      have b1 := fun Y => (L1 Y).1.2.1
      have b2 := fun Y => (L1 Y).1.2.2
      obtain ⟨r1, r2⟩ := HL.out.range x z
      have HLE := hid (HL.out.eq x z)
      have HH := hid hh
      generalize cf x z = c at *
      have HLC := hid LC
      clear L0 L1 LC hs hz hh
      have q2 : (h : Int) < (l : Int) := by omega
      have q3 : (m : Int) < (l : Int) := by omega
      by_cases hcc : c < 0
      · go_wp2
        refine wp_region_later (by kernel_rfl) (by kernel_rfl) ?_
        repeat (go_big_quiet_step (first | (go_at_call 134; exact Later.done (HLC.out _))))
        refine wpQuiet_nil ?_
        intro W2 hW2
        clear a0 a1 a2 b0 b1 b2
        have HD2 := hid (HS.out.later hW2)
        clear hW2
        go_wp2
        go_roundw
        case rel =>
          refine ⟨i, h, rfl, rfl, hmi, hh1, by omega, HI, .inr ⟨z, HZ.out, ?_⟩, HD2.out⟩
          rw [HLE.out]; exact decide_eq_false (by omega)
        case measure => simp only [intOf]; omega
      · have q4 : decide (c < 0) = false := decide_eq_false hcc
        have q5 : c + 1 > 0 := by omega
        have HCC := hid hcc
        clear hcc
        go_wp2
        refine wp_region_later (by kernel_rfl) (by kernel_rfl) ?_
        repeat (go_big_quiet_step (first | (go_at_call 134; exact Later.done (HLC.out _))))
        refine wpQuiet_nil ?_
        intro W2 hW2
        clear a0 a1 a2 b0 b1 b2
        have HD2 := hid (HS.out.later hW2)
        clear hW2
        go_wp2
        go_roundw
        case rel =>
          refine ⟨h + 1, j, by go_num, rfl, by omega, by omega, hje, .inr ⟨z, by rw [Nat.add_sub_cancel]; exact HZ.out, ?_⟩, HJ, HD2.out⟩
          rw [HLE.out]; exact decide_eq_true (by have := HCC.out; omega)
        case measure => simp only [intOf]; omega
    · obtain rfl : i = j := by omega
      obtain ⟨t, ht⟩ : ∃ t, t = i - a := ⟨_, rfl⟩
      have htB : t ≤ A.length := by have := HM.out; omega
      have hcur' : ∀ k, k < A.length → cur[a + k]? = A[k]? := fun k hk => by
        rw [HCUR.out]
        exact mid_at HA.out hk
      have e1 := cut_low' HL.out.total hA (x := x) (t := t) (by
        rcases HI.out with h | ⟨z, h1, h2⟩
        · exact .inl (by omega)
        · rcases (show t = 0 ∨ 0 < t by omega) with h0 | h0
          · exact .inl h0
          · refine .inr ⟨z, ?_, h2⟩
            rw [← hcur' _ (by omega), ← h1]
            congr 1
            omega)
      have e2 := cut_high' HL.out.total hA (x := x) (t := t) (by
        rcases HJ.out with h | ⟨z, h1, h2⟩
        · exact .inl (by have := HM.out; omega)
        · rcases (show t = A.length ∨ t < A.length by omega) with h0 | h0
          · exact .inl h0
          · refine .inr ⟨z, ?_, h2⟩
            rw [← hcur' _ h0, ← h1]
            congr 1
            omega)
      have hmg := mergeL_put e1 e2
      rw [List.take_append_drop] at hmg
      have HMG := hid hmg
      have hb1 : (A.take t).length = t := by rw [List.length_take]; omega
      have HB := hid (List.take_append_drop t A)
      generalize A.take t = A1 at *
      generalize A.drop t = A2 at *
      have HB1 := hid hb1
      have HT := hid ht
      have hti : i = a + t := by omega
      have HTI := hid hti
      have hs0 := HS.out
      rw [HCUR.out, ← HB.out] at hs0
      have HS0 := hid hs0
      have hil : i ≤ l := by omega
      clear hs hcur' e1 e2 hmg hb1 ht hti hs0 htB
      go_wp2
      go_loopw [17] (fun vk wr => ∃ (k : Nat) (C1 C2 : List α), vk = .int .i64 k ∧ i ≤ k ∧ k ≤ m ∧ Hid (k = i + C1.length) ∧ Hid (A2 = C1 ++ C2) ∧ SortAt (encT tc) 3 w b o (P ++ A1 ++ C1 ++ x :: C2 ++ T) wr) (fun vk _ => (intOf vk).toNat - i)
      case atStart => exact ⟨m, A2, [], rfl, by omega, Nat.le_refl _, by have h1 := HM.out; have h2 := HTI.out; have h3 := HB1.out; have h4 := congrArg List.length HB.out; simp at h4; show _ = _; omega, by show _ = _; simp, by simpa using HS0.out⟩
      case round =>
        obtain ⟨k, C1, C2, rfl, hki, hkm, HK, HC12, hs⟩ := hrel
        have HS := hid hs
        clear hs
        by_cases hlt : i < k
        · rcases (show C1 = [] ∨ ∃ L z, C1 = L ++ [z] by simpa using List.eq_nil_or_concat C1) with rfl | ⟨C1, y, rfl⟩
          · exfalso
            have h3 := HK.out
            simp at h3
            omega
          · have hk := HK.out
            obtain ⟨kp, rfl⟩ : ∃ kp, k = kp + 1 := ⟨k - 1, by omega⟩
            have hk' : kp = (P ++ A1 ++ C1).length := by have h1 := HTI.out; have h2 := HA.out; have h3 := HB1.out; simp at hk ⊢; omega
            have g1 : (P ++ A1 ++ (C1 ++ [y]) ++ x :: C2 ++ T)[kp]? = some y := by
              rw [hk', show P ++ A1 ++ (C1 ++ [y]) ++ x :: C2 ++ T = (P ++ A1 ++ C1) ++ y :: (x :: C2 ++ T) by simp]
              exact at_len _ _ _
            have g0 : (P ++ A1 ++ (C1 ++ [y]) ++ x :: C2 ++ T)[kp + 1]? = some x := by
              rw [hk', show (P ++ A1 ++ C1).length + 1 = (P ++ A1 ++ C1 ++ [y]).length by simp; omega, show P ++ A1 ++ (C1 ++ [y]) ++ x :: C2 ++ T = (P ++ A1 ++ C1 ++ [y]) ++ x :: (C2 ++ T) by simp]
              exact at_len _ _ _
            obtain ⟨⟨c0, c1, c2⟩, f0, f1, f2⟩ := HS.out.get3 g0
            obtain ⟨⟨d0, d1, d2⟩, k0, k1, k2⟩ := HS.out.get3 g1
            have HD := hid (HS.out.swap3 g0 g1 (d' := P ++ A1 ++ C1 ++ x :: y :: C2 ++ T) (by
              have e := swp_down (P ++ A1 ++ C1) [] (C2 ++ T) y x
              rw [hk']
              simp only [List.append_assoc, List.cons_append, List.nil_append, List.length_nil, Nat.add_zero] at e ⊢
              exact e))
            clear g0 g1 hk hk'
            have q1 : (kp : Int) + 1 < (l : Int) := by omega
            have q2 : (kp : Int) < (l : Int) := by omega
            have q3 : (0 : Int) ≤ (kp : Int) + 1 := by omega
            have q5 : ((kp : Int) + 1).toNat = kp + 1 := by omega
            have q7 : (i : Int) < (kp : Int) + 1 := by omega
            go_wp2
            go_big_region
            all_goals go_wp2
            go_roundw
            case rel =>
              refine ⟨kp, C1, y :: C2, rfl, by omega, by omega, ?_, ?_, ?_⟩
              · show _ = _; have := HK.out; simp at this; omega
              · show _ = _; rw [HC12.out]; simp
              · have := HD.out.drew
                simpa using this
            case measure => simp only [intOf]; omega
        · have hC1 : C1 = [] := by
            have h3 := HK.out
            exact List.length_eq_zero_iff.1 (by omega)
          subst hC1
          have HF : Hid (SortAt (encT tc) 3 w b o (P ++ mergeL le A [x] ++ T) wr) := by
            have := HS.out
            rw [HMG.out, HC12.out]
            exact hid (by simpa using this)
          go_wp2
          (try simp only [Exit.inBlock, Exit.then]); refine bodyPost_ret (results_none rfl _ _ _) rfl ?_
          exact ⟨rfl, by first | (with_reducible exact HF.out) | (rw [← List.append_assoc]; with_reducible exact HF.out)⟩
end
end Go.Proofs.YtcpfeepnfodifaaGreat
