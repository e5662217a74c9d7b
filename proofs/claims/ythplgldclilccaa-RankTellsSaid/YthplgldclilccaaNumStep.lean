/- One step of the sums, differences, products and quotients that go digit by digit. Plain. -/
import Derived.Test.YthplgldclilccaaNum
namespace Go.Proofs.Ythplgldclilccaa

/-- a digit of a list; behind its end 0 -/
def dg (l : List Nat) (k : Nat) : Nat := (l[k]?).getD 0
theorem dg_some {l : List Nat} {k z : Nat} (h : l[k]? = some z) : dg l k = z := by simp [dg, h]
theorem dg_out {l : List Nat} {k : Nat} (h : l.length ≤ k) : dg l k = 0 := by simp [dg, List.getElem?_eq_none h]
theorem dg_lt {B : Nat} (hB : 0 < B) {l : List Nat} (hl : ∀ d ∈ l, d < B) (k : Nat) : dg l k < B := by
  unfold dg
  cases h : l[k]? with
  | none => simpa using hB
  | some z => exact hl z (List.mem_of_getElem? h)
theorem val_take_dg {B : Nat} (l : List Nat) (k : Nat) : val B (l.take (k + 1)) = val B (l.take k) + B ^ k * dg l k := by
  by_cases h : k < l.length
  · have e : l[k]? = some l[k] := List.getElem?_eq_getElem h
    rw [val_take_succ e, dg_some e]
  · rw [dg_out (by omega), List.take_of_length_le (by omega), List.take_of_length_le (by omega)]
    simp
theorem val_drop_dg {B : Nat} (l : List Nat) (k : Nat) : val B (l.drop k) = dg l k + B * val B (l.drop (k + 1)) := by
  by_cases h : k < l.length
  · have e : l[k]? = some l[k] := List.getElem?_eq_getElem h
    rw [val_drop e, dg_some e]
  · rw [dg_out (by omega), List.drop_eq_nil_of_le (by omega), List.drop_eq_nil_of_le (by omega)]
    simp [val]

/-- a digit more of what is carried -/
theorem carry_step {B : Nat} {o : List Nat} {i c X s : Nat} (hl : o.length = i) (h : val B o + B ^ i * c = X) : val B (o ++ [(c + s) % B]) + B ^ (i + 1) * ((c + s) / B) = X + B ^ i * s := by
  rw [val_snoc, hl, ← h, Nat.pow_succ]
  have e := Nat.mod_add_div (c + s) B
  have e2 := congrArg (B ^ i * ·) e
  simp only [Nat.mul_add] at e2 ⊢
  rw [Nat.mul_assoc]
  omega
theorem carry_end {B i c V : Nat} (hB : 0 < B) {o : List Nat} (h : val B o + B ^ i * c = V) (hV : V < B ^ i) : c = 0 := by
  rcases Nat.eq_zero_or_pos c with h0 | h0
  · exact h0
  · have : B ^ i * 1 ≤ B ^ i * c := Nat.mul_le_mul_left _ h0
    omega
/-- a digit more of a difference -/
theorem borrow_step {B : Nat} {o : List Nat} {i c X Y x y : Nat} (hl : o.length = i) (h : val B o + Y = X + B ^ i * c) (d c' : Nat) (hd : x + B * c' = d + y + c) :
    val B (o ++ [d]) + (Y + B ^ i * y) = (X + B ^ i * x) + B ^ (i + 1) * c' := by
  rw [val_snoc, hl, Nat.pow_succ]
  have e2 := congrArg (B ^ i * ·) hd
  simp only [Nat.mul_add] at e2 ⊢
  rw [Nat.mul_assoc]
  omega
/-- a digit more of a quotient, from the top -/
theorem quot_step {V n q r d : Nat} (h : V = q * n + r) : 10 * V + d = (10 * q + (10 * r + d) / n) * n + (10 * r + d) % n := by
  have e := Nat.div_add_mod (10 * r + d) n
  have e2 : (10 * q + (10 * r + d) / n) * n = 10 * (q * n) + n * ((10 * r + d) / n) := by
    rw [Nat.add_mul, Nat.mul_assoc, Nat.mul_comm n]
  omega

theorem set_val {B : Nat} (l : List Nat) (k z : Nat) (h : k < l.length) : val B (l.set k z) + B ^ k * dg l k = val B l + B ^ k * z := by
  induction l generalizing k with
  | nil => simp at h
  | cons d r ih =>
    cases k with
    | zero => simp [val, dg]; omega
    | succ k =>
      have ih := ih k (by simpa using h)
      have e := congrArg (B * ·) ih
      simp only [List.set_cons_succ, val, Nat.pow_succ, Nat.mul_add] at e ⊢
      rw [show dg (d :: r) (k + 1) = dg r k by simp [dg]]
      have e1 : B ^ k * B * dg r k = B * (B ^ k * dg r k) := by rw [Nat.mul_comm (B ^ k) B, Nat.mul_assoc]
      have e2 : B ^ k * B * z = B * (B ^ k * z) := by rw [Nat.mul_comm (B ^ k) B, Nat.mul_assoc]
      omega
theorem val_zero_above {B : Nat} (hB : 0 < B) {l : List Nat} {k : Nat} (h : val B l < B ^ k) : ∀ j, k ≤ j → j < l.length → dg l j = 0 := by
  induction l generalizing k with
  | nil => intro j _ hj; simp at hj
  | cons d r ih =>
    intro j hk hj
    cases k with
    | zero =>
      have h0 : val B (d :: r) = 0 := by simpa using h
      simp only [val] at h0
      cases j with
      | zero => simp [dg]; omega
      | succ j =>
        have : val B r = 0 := by
          have h1 : B * val B r = 0 := by omega
          rcases Nat.mul_eq_zero.1 h1 with h2 | h2
          · omega
          · exact h2
        have := ih (k := 0) (by simpa using this) j (Nat.zero_le _) (by simpa using hj)
        simpa [dg] using this
    | succ k =>
      cases j with
      | zero => omega
      | succ j =>
        simp only [val, Nat.pow_succ] at h
        have hr : val B r < B ^ k := by
          have : B * val B r < B * B ^ k := by rw [Nat.mul_comm B (B ^ k)]; omega
          exact Nat.lt_of_mul_lt_mul_left this
        have := ih hr j (by omega) (by simpa using hj)
        simpa [dg] using this

/-- two canonical lists: the longer one is the greater one -/
theorem val_lt_len {B : Nat} (hB : 2 ≤ B) {n m : Nat} (h : (rep B n).length < (rep B m).length) : n < m := by
  rcases Nat.lt_or_ge n m with h1 | h1
  · exact h1
  · exfalso
    have : (rep B m).length ≤ (rep B n).length := rep_len_le hB m _ (Nat.lt_of_le_of_lt h1 (le_of_rep_len hB n))
    omega
/-- lists of one length are ordered as their highest digits at which they differ -/
theorem val_lt_top {B : Nat} {k x y : Nat} {l m : List Nat} (hB : 0 < B) (hl : ∀ d ∈ l, d < B) (hx : dg l k < dg m k) (hk : k < l.length) (hm : k < m.length) (ht : val B (l.drop (k + 1)) = val B (m.drop (k + 1))) (hlen : l.length = m.length) : val B l < val B m := by
  have e1 : val B l = val B (l.take (k + 1)) + B ^ (k + 1) * val B (l.drop (k + 1)) := by
    conv => lhs; rw [← List.take_append_drop (k + 1) l]
    rw [val_append, List.length_take, Nat.min_eq_left (by omega)]
  have e2 : val B m = val B (m.take (k + 1)) + B ^ (k + 1) * val B (m.drop (k + 1)) := by
    conv => lhs; rw [← List.take_append_drop (k + 1) m]
    rw [val_append, List.length_take, Nat.min_eq_left (by omega)]
  rw [e1, e2, ht, val_take_dg, val_take_dg]
  have h1 : val B (l.take k) < B ^ (l.take k).length := val_lt _ (fun d hd => hl d (List.mem_of_mem_take hd))
  rw [List.length_take, Nat.min_eq_left (by omega)] at h1
  have h2 : B ^ k * (dg l k + 1) ≤ B ^ k * dg m k := Nat.mul_le_mul_left _ hx
  rw [Nat.mul_add] at h2
  omega
theorem add_next {B : Nat} {o xs ys : List Nat} {i c : Nat} (hl : o.length = i) (h : val B o + B ^ i * c = val B (xs.take i) + val B (ys.take i)) (s : Nat) (hs : s = dg xs i + dg ys i) :
    val B (o ++ [(c + s) % B]) + B ^ (i + 1) * ((c + s) / B) = val B (xs.take (i + 1)) + val B (ys.take (i + 1)) := by
  subst hs
  rw [carry_step hl h, val_take_dg xs, val_take_dg ys, Nat.mul_add]
  omega
theorem add_end {B : Nat} (hB : 2 ≤ B) {o xs ys : List Nat} {c : Nat} (hx : ∀ z ∈ xs, z < B) (hy : ∀ z ∈ ys, z < B) (hle : ys.length ≤ xs.length) (h : val B o + B ^ (xs.length + 1) * c = val B (xs.take (xs.length + 1)) + val B (ys.take (xs.length + 1))) : val B o = val B xs + val B ys := by
  rw [List.take_of_length_le (by omega), List.take_of_length_le (by omega)] at h
  have h1 := val_lt xs hx
  have h2 := val_lt ys hy
  have h3 : B ^ ys.length ≤ B ^ xs.length := Nat.pow_le_pow_right (by omega) hle
  have h4 : B ^ (xs.length + 1) = B ^ xs.length * B := Nat.pow_succ _ _
  have : c = 0 := carry_end (by omega) h (by rw [h4]; generalize B ^ xs.length = P at *; have : P * 2 ≤ P * B := Nat.mul_le_mul_left _ hB; omega)
  subst this
  simpa using h

theorem sub_next {B : Nat} {o xs ys : List Nat} {i c : Nat} (hl : o.length = i) (h : val B o + val B (ys.take i) = val B (xs.take i) + B ^ i * c) (d c' : Nat) (hd : dg xs i + B * c' = d + dg ys i + c) :
    val B (o ++ [d]) + val B (ys.take (i + 1)) = val B (xs.take (i + 1)) + B ^ (i + 1) * c' := by
  rw [val_take_dg xs, val_take_dg ys]
  exact borrow_step hl h d c' hd
theorem sub_end {B : Nat} {o : List Nat} {n m c L : Nat} (ho : ∀ z ∈ o, z < B) (hol : o.length = L) (hge : m ≤ n) (h : val B o + m = n + B ^ L * c) : val B o = n - m := by
  have h1 := val_lt o ho
  rw [hol] at h1
  rcases Nat.eq_zero_or_pos c with h0 | h0
  · subst h0; omega
  · have : B ^ L * 1 ≤ B ^ L * c := Nat.mul_le_mul_left _ h0
    omega
end Go.Proofs.Ythplgldclilccaa
