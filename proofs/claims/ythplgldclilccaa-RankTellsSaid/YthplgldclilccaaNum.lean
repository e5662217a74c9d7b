/- Numbers as lists of digits to a base, the lowest one first: their value, the canonical list. Plain. -/

namespace Go.Proofs.Ythplgldclilccaa

/-- the value of digits to a base -/
def val (B : Nat) : List Nat → Nat
  | [] => 0
  | z :: r => z + B * val B r

def repF (B : Nat) : Nat → Nat → List Nat
  | 0, _ => []
  | f + 1, n => if n = 0 then [] else (n % B) :: repF B f (n / B)
/-- the canonical digits of a number -/
def rep (B n : Nat) : List Nat := repF B n n

/-- without noughts at the end -/
def trimL : List Nat → List Nat
  | [] => []
  | d :: r => if trimL r = [] ∧ d = 0 then [] else d :: trimL r

section
variable {B : Nat}

theorem repF_zero (f : Nat) : repF B f 0 = [] := by cases f <;> simp [repF]
theorem repF_fuel (hB : 2 ≤ B) (f g n : Nat) (hf : n ≤ f) (hg : n ≤ g) : repF B f n = repF B g n := by
  induction f generalizing g n with
  | zero =>
    obtain rfl : n = 0 := by omega
    rw [repF_zero, repF_zero]
  | succ f ih =>
    cases g with
    | zero =>
      obtain rfl : n = 0 := by omega
      rw [repF_zero, repF_zero]
    | succ g =>
      simp only [repF]
      split
      · rfl
      · have h : n / B < n := Nat.div_lt_self (by omega) (by omega)
        rw [ih g (n / B) (by omega) (by omega)]
theorem rep_zero : rep B 0 = [] := rfl
theorem rep_pos (hB : 2 ≤ B) {n : Nat} (h : 0 < n) : rep B n = (n % B) :: rep B (n / B) := by
  unfold rep
  have hd : n / B < n := Nat.div_lt_self h (by omega)
  obtain ⟨m, rfl⟩ : ∃ m, n = m + 1 := ⟨n - 1, by omega⟩
  rw [repF, if_neg (by omega), repF_fuel hB m ((m + 1) / B) _ (by omega) (Nat.le_refl _)]
theorem val_rep (hB : 2 ≤ B) (n : Nat) : val B (rep B n) = n := by
  induction n using Nat.strongRecOn with
  | ind n ih =>
    by_cases h : n = 0
    · subst h; rfl
    · rw [rep_pos hB (by omega), val, ih _ (Nat.div_lt_self (by omega) (by omega))]
      exact Nat.mod_add_div n B
theorem rep_lt (hB : 2 ≤ B) (n : Nat) : ∀ d ∈ rep B n, d < B := by
  induction n using Nat.strongRecOn with
  | ind n ih =>
    by_cases h : n = 0
    · subst h; intro d hd; simp [rep_zero] at hd
    · rw [rep_pos hB (by omega)]
      intro d hd
      rcases List.mem_cons.1 hd with rfl | hd
      · exact Nat.mod_lt _ (by omega)
      · exact ih _ (Nat.div_lt_self (by omega) (by omega)) d hd
theorem rep_eq_nil (hB : 2 ≤ B) {n : Nat} : rep B n = [] ↔ n = 0 := by
  constructor
  · intro h
    have := val_rep hB n
    rw [h] at this
    exact this.symm
  · rintro rfl; rfl
theorem val_trimL (l : List Nat) : val B (trimL l) = val B l := by
  induction l with
  | nil => rfl
  | cons d r ih =>
    simp only [trimL]
    split
    · rename_i h
      rw [h.1] at ih
      simp only [val] at ih ⊢
      rw [← ih, h.2]
      simp
    · simp only [val, ih]
theorem trimL_mem {l : List Nat} {d : Nat} (h : d ∈ trimL l) : d ∈ l := by
  induction l with
  | nil => simp [trimL] at h
  | cons x r ih =>
    simp only [trimL] at h
    split at h
    · simp at h
    · rcases List.mem_cons.1 h with rfl | h
      · simp
      · exact List.mem_cons_of_mem _ (ih h)
theorem rep_cons (hB : 2 ≤ B) {d m : Nat} (hd : d < B) (h : ¬ (m = 0 ∧ d = 0)) : rep B (d + B * m) = d :: rep B m := by
  have hpos : 0 < d + B * m := by
    rcases Nat.eq_zero_or_pos m with rfl | hm
    · omega
    · have := Nat.mul_pos (show 0 < B by omega) hm; omega
  rw [rep_pos hB hpos, Nat.add_mul_mod_self_left, Nat.mod_eq_of_lt hd, Nat.add_mul_div_left _ _ (by omega), Nat.div_eq_of_lt hd, Nat.zero_add]
theorem trimL_rep (hB : 2 ≤ B) (l : List Nat) (hl : ∀ d ∈ l, d < B) : trimL l = rep B (val B l) := by
  induction l with
  | nil => rfl
  | cons d r ih =>
    have ih := ih (fun x hx => hl x (List.mem_cons_of_mem _ hx))
    simp only [trimL, val]
    have hd := hl d (by simp)
    rw [ih]
    by_cases h : val B r = 0 ∧ d = 0
    · rw [if_pos ⟨(rep_eq_nil hB).2 h.1, h.2⟩, h.1, h.2]
      simp [rep_zero]
    · rw [if_neg (fun g => h ⟨(rep_eq_nil hB).1 g.1, g.2⟩), rep_cons hB hd h]
theorem val_lt (l : List Nat) (hl : ∀ d ∈ l, d < B) : val B l < B ^ l.length := by
  induction l with
  | nil => simp [val]
  | cons d r ih =>
    have ih := ih (fun x hx => hl x (List.mem_cons_of_mem _ hx))
    have hd := hl d (by simp)
    simp only [val, List.length_cons, Nat.pow_succ]
    have h : B * (val B r + 1) ≤ B * B ^ r.length := Nat.mul_le_mul_left _ ih
    rw [Nat.mul_add] at h
    rw [Nat.mul_comm (B ^ r.length) B]
    omega
theorem rep_len_le (hB : 2 ≤ B) (n k : Nat) (h : n < B ^ k) : (rep B n).length ≤ k := by
  induction k generalizing n with
  | zero =>
    obtain rfl : n = 0 := by simpa using h
    simp [rep_zero]
  | succ k ih =>
    by_cases h0 : n = 0
    · subst h0; simp [rep_zero]
    · rw [rep_pos hB (by omega), List.length_cons]
      have := ih (n / B) (by rw [Nat.div_lt_iff_lt_mul (by omega), ← Nat.pow_succ]; exact h)
      omega
theorem le_of_rep_len (hB : 2 ≤ B) (n : Nat) : n < B ^ (rep B n).length := by
  have := val_lt (rep B n) (rep_lt hB n)
  rwa [val_rep hB] at this
theorem val_append (l m : List Nat) : val B (l ++ m) = val B l + B ^ l.length * val B m := by
  induction l with
  | nil => simp [val]
  | cons d r ih =>
    simp only [List.cons_append, val, ih, List.length_cons, Nat.pow_succ, Nat.mul_add]
    rw [Nat.mul_comm (B ^ r.length) B, Nat.mul_assoc]
    omega
theorem val_snoc (l : List Nat) (z : Nat) : val B (l ++ [z]) = val B l + B ^ l.length * z := by
  rw [val_append]; simp [val]
theorem val_take_succ {l : List Nat} {k z : Nat} (h : l[k]? = some z) : val B (l.take (k + 1)) = val B (l.take k) + B ^ k * z := by
  rw [List.take_add_one, h]
  obtain ⟨hk, _⟩ := List.getElem?_eq_some_iff.1 h
  show val B (l.take k ++ [z]) = _
  rw [val_snoc, List.length_take, Nat.min_eq_left (by omega)]
theorem val_drop {l : List Nat} {k z : Nat} (h : l[k]? = some z) : val B (l.drop k) = z + B * val B (l.drop (k + 1)) := by
  obtain ⟨hk, rfl⟩ := List.getElem?_eq_some_iff.1 h
  rw [List.drop_eq_getElem_cons hk, val]
theorem val_zeros (n : Nat) : val B (List.replicate n 0) = 0 := by
  induction n with
  | zero => rfl
  | succ n ih => simp [List.replicate_succ, val, ih]
/-- a list is canonical: digits, no nought at the end -/
theorem rep_val (hB : 2 ≤ B) (l : List Nat) (hl : ∀ d ∈ l, d < B) (hc : l.getLast? ≠ some 0) : rep B (val B l) = l := by
  rw [← trimL_rep hB l hl]
  clear hl
  induction l with
  | nil => rfl
  | cons d r ih =>
    simp only [trimL]
    cases r with
    | nil =>
      simp [trimL] at hc ⊢
      exact hc
    | cons e r =>
      rw [List.getLast?_cons_cons] at hc
      rw [ih hc]
      simp
theorem rep_last (hB : 2 ≤ B) (n : Nat) : (rep B n).getLast? ≠ some 0 := by
  induction n using Nat.strongRecOn with
  | ind n ih =>
    by_cases h : n = 0
    · subst h; simp [rep_zero]
    · rw [rep_pos hB (by omega)]
      have ih := ih (n / B) (Nat.div_lt_self (by omega) (by omega))
      by_cases h0 : n / B = 0
      · rw [h0, rep_zero]
        have : n % B = n := Nat.mod_eq_of_lt ((Nat.div_eq_zero_iff_lt (by omega)).1 h0)
        simp [this, h]
      · have hp : 0 < n / B := Nat.pos_of_ne_zero h0
        rw [rep_pos hB hp] at ih ⊢
        rw [List.getLast?_cons_cons]
        exact ih
theorem rep_inj (hB : 2 ≤ B) {n m : Nat} (h : rep B n = rep B m) : n = m := by
  have := congrArg (val B) h
  rwa [val_rep hB, val_rep hB] at this
end

/-- the length without noughts at the end, of the first k -/
def trimTo (zs : List Nat) : Nat → Nat
  | 0 => 0
  | k + 1 => if zs[k]? = some 0 then trimTo zs k else k + 1
theorem trimTo_le (zs : List Nat) (k : Nat) : trimTo zs k ≤ k := by
  induction k with
  | zero => simp [trimTo]
  | succ k ih => simp only [trimTo]; split <;> omega
theorem trimL_snoc (l : List Nat) (z : Nat) : trimL (l ++ [z]) = if z = 0 then trimL l else l ++ [z] := by
  induction l with
  | nil => simp [trimL]
  | cons d r ih =>
    simp only [List.cons_append, trimL, ih]
    split
    · rfl
    · simp
theorem trimTo_take (zs : List Nat) (k : Nat) (hk : k ≤ zs.length) : zs.take (trimTo zs k) = trimL (zs.take k) := by
  induction k with
  | zero => simp [trimTo, trimL]
  | succ k ih =>
    have h : zs[k]? = some zs[k] := List.getElem?_eq_getElem (by omega)
    have e : zs.take (k + 1) = zs.take k ++ [zs[k]] := by rw [List.take_add_one, h]; rfl
    simp only [trimTo]
    rw [e, trimL_snoc, h]
    split
    · rename_i h0
      rw [ih (by omega), if_pos (by simpa using h0)]
    · rename_i h0
      rw [if_neg (by simpa using h0), e]
end Go.Proofs.Ythplgldclilccaa
