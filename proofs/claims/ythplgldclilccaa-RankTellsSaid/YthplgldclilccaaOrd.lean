/- The order of monomials is by exponents, the highest variable first: a total order. Plain. -/
import Derived.Test.YthplgldclilccaaMonoPlain
namespace Go.Proofs.Ythplgldclilccaa

/-- two exponent functions held against each other, from variable n down -/
def cmpE (f g : Int → Int) : Nat → Int
  | 0 => 0
  | n + 1 => if f (n + 1 : Nat) = g (n + 1 : Nat) then cmpE f g n else cmpI (f (n + 1 : Nat)) (g (n + 1 : Nat))

theorem cmpI_self (x : Int) : cmpI x x = 0 := by simp [cmpI]
theorem cmpI_zero {x y : Int} : cmpI x y = 0 ↔ x = y := by
  unfold cmpI
  split
  · omega
  · split <;> omega
theorem cmpI_neg (x y : Int) : cmpI y x = - cmpI x y := by
  unfold cmpI
  split
  · split
    · omega
    · omega
  · split <;> simp
theorem cmpI_one {x y : Int} : cmpI x y = 1 ↔ y < x := by
  unfold cmpI
  split
  · omega
  · split <;> omega
theorem cmpI_mone {x y : Int} : cmpI x y = -1 ↔ x < y := by
  unfold cmpI
  split
  · omega
  · split <;> omega
theorem cmpI_cases (x y : Int) : cmpI x y = -1 ∨ cmpI x y = 0 ∨ cmpI x y = 1 := by
  unfold cmpI
  split
  · simp
  · split <;> simp

theorem cmpE_cases (f g : Int → Int) (n : Nat) : cmpE f g n = -1 ∨ cmpE f g n = 0 ∨ cmpE f g n = 1 := by
  induction n with
  | zero => simp [cmpE]
  | succ n ih =>
    simp only [cmpE]
    split
    · exact ih
    · exact cmpI_cases _ _
theorem cmpE_neg (f g : Int → Int) (n : Nat) : cmpE g f n = - cmpE f g n := by
  induction n with
  | zero => simp [cmpE]
  | succ n ih =>
    simp only [cmpE]
    by_cases h : f ((n + 1 : Nat) : Int) = g ((n + 1 : Nat) : Int)
    · rw [if_pos h, if_pos h.symm]
      exact ih
    · rw [if_neg h, if_neg (fun e => h e.symm)]
      exact cmpI_neg _ _
theorem cmpE_zero {f g : Int → Int} {n : Nat} : cmpE f g n = 0 ↔ ∀ k : Nat, 1 ≤ k → k ≤ n → f (k : Nat) = g (k : Nat) := by
  induction n with
  | zero =>
    simp only [cmpE, true_iff]
    intro k h1 h2
    omega
  | succ n ih =>
    simp only [cmpE]
    by_cases h : f ((n + 1 : Nat) : Int) = g ((n + 1 : Nat) : Int)
    · rw [if_pos h, ih]
      constructor
      · intro h2 k h3 h4
        by_cases hk : k = n + 1
        · subst hk; exact h
        · exact h2 k h3 (by omega)
      · intro h2 k h3 h4
        exact h2 k h3 (by omega)
    · rw [if_neg h, cmpI_zero]
      constructor
      · intro e; exact absurd e h
      · intro h2; exact h2 (n + 1) (by omega) (Nat.le_refl _)
theorem cmpE_trans {f g k : Int → Int} {n : Nat} (h1 : cmpE f g n = 1) (h2 : cmpE g k n = 1) : cmpE f k n = 1 := by
  induction n with
  | zero => simp [cmpE] at h1
  | succ n ih =>
    simp only [cmpE] at h1 h2 ⊢
    generalize f ((n + 1 : Nat) : Int) = a at *
    generalize g ((n + 1 : Nat) : Int) = b at *
    generalize k ((n + 1 : Nat) : Int) = c at *
    by_cases hab : a = b
    · subst hab
      rw [if_pos rfl] at h1
      by_cases hbc : a = c
      · subst hbc
        rw [if_pos rfl] at h2 ⊢
        exact ih h1 h2
      · rw [if_neg hbc] at h2 ⊢
        exact h2
    · rw [if_neg hab] at h1
      rw [cmpI_one] at h1
      by_cases hbc : b = c
      · subst hbc
        rw [if_neg hab, cmpI_one]
        exact h1
      · rw [if_neg hbc, cmpI_one] at h2
        rw [if_neg (by omega), cmpI_one]
        omega

/-- the exponents of what lies above a variable -/
theorem ex_le_last {last : Int} {m : Mono} (h : mayTail last m = true) {v : Int} (hv : v ≤ last) : ex m v = 0 := by
  induction m generalizing last with
  | nil => rfl
  | cons x r ih =>
    simp only [mayTail, Bool.and_eq_true, decide_eq_true_eq] at h
    rw [ex, if_neg (by omega)]
    exact ih h.2 (by omega)
theorem ex_above {last : Int} {m : Mono} (h : mayTail last m = true) {v : Int} (hv : 200 < v) : ex m v = 0 := by
  induction m generalizing last with
  | nil => rfl
  | cons x r ih =>
    simp only [mayTail, Bool.and_eq_true, decide_eq_true_eq] at h
    rw [ex, if_neg (by omega)]
    exact ih h.2
theorem ex_range {last : Int} {m : Mono} (h : mayTail last m = true) (v : Int) : 0 ≤ ex m v ∧ ex m v ≤ 10000 := by
  induction m generalizing last with
  | nil => simp [ex]
  | cons x r ih =>
    simp only [mayTail, Bool.and_eq_true, decide_eq_true_eq] at h
    rw [ex]
    split
    · omega
    · exact ih h.2
theorem mayTail_ext {last : Int} {a b : Mono} (ha : mayTail last a = true) (hb : mayTail last b = true) (h : ∀ v, ex a v = ex b v) : a = b := by
  induction a generalizing b last with
  | nil =>
    cases b with
    | nil => rfl
    | cons y b =>
      have := h y.1
      simp only [mayTail, Bool.and_eq_true, decide_eq_true_eq] at hb
      simp [ex] at this
      omega
  | cons x a ih =>
    cases b with
    | nil =>
      have := h x.1
      simp only [mayTail, Bool.and_eq_true, decide_eq_true_eq] at ha
      simp [ex] at this
      omega
    | cons y b =>
      simp only [mayTail, Bool.and_eq_true, decide_eq_true_eq] at ha hb
      have h1 := h x.1
      have h2 := h y.1
      have e : x.1 = y.1 := by
        rcases Int.lt_trichotomy x.1 y.1 with g | g | g
        · rw [ex, if_pos rfl, ex, if_neg (by omega), ex_le_last hb.2 (by omega)] at h1
          omega
        · exact g
        · rw [ex, if_neg (by omega), ex_le_last ha.2 (by omega), ex, if_pos rfl] at h2
          omega
      have e2 : x.2 = y.2 := by
        rw [ex, if_pos rfl, ex, if_pos e.symm] at h1
        exact h1
      have : x = y := Prod.ext e e2
      subst this
      congr 1
      refine ih ha.2 hb.2 (fun v => ?_)
      have := h v
      rw [ex, ex] at this
      split at this
      · rename_i hv
        rw [ex_le_last ha.2 (by omega), ex_le_last hb.2 (by omega)]
      · exact this
theorem mayM_ext {a b : Mono} (ha : mayM a = true) (hb : mayM b = true) (h : ∀ k : Nat, 1 ≤ k → k ≤ 200 → ex a k = ex b k) : a = b := by
  refine mayTail_ext ha hb (fun v => ?_)
  by_cases h1 : v ≤ 0
  · rw [ex_le_last ha h1, ex_le_last hb h1]
  · by_cases h2 : 200 < v
    · rw [ex_above ha h2, ex_above hb h2]
    · have := h v.toNat (by omega) (by omega)
      rwa [Int.toNat_of_nonneg (by omega)] at this

/-- between two variables, from above down; c if there is no difference -/
def cmpD (f g : Int → Int) (c : Int) (lo : Int) : Nat → Int
  | 0 => c
  | n + 1 => if f (lo + (n + 1 : Nat)) = g (lo + (n + 1 : Nat)) then cmpD f g c lo n else cmpI (f (lo + (n + 1 : Nat))) (g (lo + (n + 1 : Nat)))
theorem cmpD_congr {f g f' g' : Int → Int} {c lo : Int} {n : Nat} (hf : ∀ v, lo < v → f v = f' v) (hg : ∀ v, lo < v → g v = g' v) : cmpD f g c lo n = cmpD f' g' c lo n := by
  induction n with
  | zero => rfl
  | succ n ih =>
    simp only [cmpD]
    rw [hf _ (by omega), hg _ (by omega), ih]
theorem cmpD_first (f g : Int → Int) (c lo : Int) (n : Nat) : cmpD f g c lo (n + 1) = cmpD f g (if f (lo + 1) = g (lo + 1) then c else cmpI (f (lo + 1)) (g (lo + 1))) (lo + 1) n := by
  induction n with
  | zero => simp [cmpD]
  | succ n ih =>
    rw [cmpD, ih]
    conv => rhs; rw [cmpD]
    rw [show lo + ((n + 1 + 1 : Nat) : Int) = lo + 1 + ((n + 1 : Nat) : Int) by omega]
theorem cmpD_skip {f g : Int → Int} {c lo : Int} (k n : Nat) (h : ∀ v, lo < v → v ≤ lo + k → f v = g v) : cmpD f g c lo (k + n) = cmpD f g c (lo + k) n := by
  induction k generalizing lo with
  | zero => simp
  | succ k ih =>
    rw [show k + 1 + n = (k + n) + 1 by omega, cmpD_first, if_pos (h _ (by omega) (by omega)), ih (fun v h1 h2 => h v (by omega) (by omega))]
    rw [show lo + 1 + (k : Int) = lo + ((k + 1 : Nat) : Int) by omega]
theorem cmpD_all {f g : Int → Int} {c lo : Int} (n : Nat) (h : ∀ v, lo < v → v ≤ lo + n → f v = g v) : cmpD f g c lo n = c := by
  have := cmpD_skip (f := f) (g := g) (c := c) (lo := lo) n 0 h
  simpa [cmpD] using this
theorem cmpD_zero (f g : Int → Int) (n : Nat) : cmpD f g 0 0 n = cmpE f g n := by
  induction n with
  | zero => rfl
  | succ n ih =>
    simp only [cmpD, cmpE, Int.zero_add, ih]

theorem cmpL_both_nil_left {last : Int} {b : Mono} (hb : mayTail last b = true) (hl : last ≤ 200) (c : Int) : cmpL (both [] b) c = cmpD (fun _ => 0) (ex b) c last (200 - last).toNat := by
  induction b generalizing last c with
  | nil => rw [both_nil]; exact (cmpD_all _ (fun v _ _ => rfl)).symm
  | cons y b ih =>
    simp only [mayTail, Bool.and_eq_true, decide_eq_true_eq] at hb
    obtain ⟨⟨h1, h2, h3, h4⟩, hb⟩ := hb
    rw [both_right, cmpL, ih hb (by omega)]
    simp only
    have e : (200 - last).toNat = (y.1 - 1 - last).toNat + ((200 - y.1).toNat + 1) := by omega
    rw [e, cmpD_skip _ _ (fun v g1 g2 => by
      rw [ex, if_neg (by omega), ex_le_last hb (by omega)]), cmpD_first]
    rw [show last + ((y.1 - 1 - last).toNat : Int) + 1 = y.1 by omega, ex, if_pos rfl]
    refine cmpD_congr (fun _ _ => rfl) (fun v hv => ?_)
    rw [ex, if_neg (by omega)]
theorem cmpL_both_nil_right {last : Int} {a : Mono} (ha : mayTail last a = true) (hl : last ≤ 200) (c : Int) : cmpL (both a []) c = cmpD (ex a) (fun _ => 0) c last (200 - last).toNat := by
  induction a generalizing last c with
  | nil => rw [both_nil]; exact (cmpD_all _ (fun v _ _ => rfl)).symm
  | cons y b ih =>
    simp only [mayTail, Bool.and_eq_true, decide_eq_true_eq] at ha
    obtain ⟨⟨h1, h2, h3, h4⟩, hb⟩ := ha
    rw [both_left, cmpL, ih hb (by omega)]
    simp only
    have e : (200 - last).toNat = (y.1 - 1 - last).toNat + ((200 - y.1).toNat + 1) := by omega
    rw [e, cmpD_skip _ _ (fun v g1 g2 => by
      rw [ex, if_neg (by omega), ex_le_last hb (by omega)]), cmpD_first]
    rw [show last + ((y.1 - 1 - last).toNat : Int) + 1 = y.1 by omega, ex, if_pos rfl]
    refine cmpD_congr (fun v hv => ?_) (fun _ _ => rfl)
    rw [ex, if_neg (by omega)]
theorem cmpL_both {last : Int} {a b : Mono} (ha : mayTail last a = true) (hb : mayTail last b = true) (hl : last ≤ 200) (c : Int) : cmpL (both a b) c = cmpD (ex a) (ex b) c last (200 - last).toNat := by
  generalize hn : a.length + b.length = n
  induction n using Nat.strongRecOn generalizing a b last c with
  | ind n ih =>
  cases a with
  | nil => exact cmpL_both_nil_left hb hl c
  | cons x a =>
    cases b with
    | nil => exact cmpL_both_nil_right ha hl c
    | cons y b =>
      have hA := ha
      have hB := hb
      simp only [mayTail, Bool.and_eq_true, decide_eq_true_eq] at ha hb
      obtain ⟨⟨a1, a2, a3, a4⟩, ha⟩ := ha
      obtain ⟨⟨b1, b2, b3, b4⟩, hb⟩ := hb
      simp only [List.length_cons] at hn
      rw [both_cons]
      split
      · rename_i hlt
        have hb' : mayTail x.1 (y :: b) = true := by simp only [mayTail, Bool.and_eq_true, decide_eq_true_eq]; exact ⟨⟨hlt, b2, b3, b4⟩, hb⟩
        rw [cmpL, ih _ (by simp only [List.length_cons]; omega) ha hb' (by omega) _ rfl]
        have e : (200 - last).toNat = (x.1 - 1 - last).toNat + ((200 - x.1).toNat + 1) := by omega
        rw [e, cmpD_skip _ _ (fun v g1 g2 => by
          rw [ex, if_neg (by omega), ex_le_last ha (by omega), ex_le_last hb' (by omega)]), cmpD_first]
        rw [show last + ((x.1 - 1 - last).toNat : Int) + 1 = x.1 by omega]
        rw [show ex (x :: a) x.1 = x.2 by rw [ex, if_pos rfl], ex_le_last hb' (Int.le_refl _)]
        refine cmpD_congr (fun v hv => ?_) (fun v hv => rfl)
        rw [ex, if_neg (by omega)]
      · split
        · rename_i hnlt hlt
          have ha' : mayTail y.1 (x :: a) = true := by simp only [mayTail, Bool.and_eq_true, decide_eq_true_eq]; exact ⟨⟨hlt, a2, a3, a4⟩, ha⟩
          rw [cmpL, ih _ (by simp only [List.length_cons]; omega) ha' hb (by omega) _ rfl]
          have e : (200 - last).toNat = (y.1 - 1 - last).toNat + ((200 - y.1).toNat + 1) := by omega
          rw [e, cmpD_skip _ _ (fun v g1 g2 => by
            rw [ex_le_last ha' (by omega), ex, if_neg (by omega), ex_le_last hb (by omega)]), cmpD_first]
          rw [show last + ((y.1 - 1 - last).toNat : Int) + 1 = y.1 by omega]
          rw [show ex (y :: b) y.1 = y.2 by rw [ex, if_pos rfl], ex_le_last ha' (Int.le_refl _)]
          refine cmpD_congr (fun v hv => rfl) (fun v hv => ?_)
          rw [ex, if_neg (by omega)]
        · rename_i h1 h2
          have hxy : x.1 = y.1 := by omega
          rw [hxy] at ha
          rw [cmpL, ih _ (by omega) ha hb (by omega) _ rfl]
          have e : (200 - last).toNat = (y.1 - 1 - last).toNat + ((200 - y.1).toNat + 1) := by omega
          rw [e, cmpD_skip _ _ (fun v g1 g2 => by
            rw [ex, if_neg (by omega), ex_le_last ha (by omega), ex, if_neg (by omega), ex_le_last hb (by omega)]), cmpD_first]
          rw [show last + ((y.1 - 1 - last).toNat : Int) + 1 = y.1 by omega]
          rw [show ex (x :: a) y.1 = x.2 by rw [ex, if_pos hxy], show ex (y :: b) y.1 = y.2 by rw [ex, if_pos rfl]]
          refine cmpD_congr (fun v hv => ?_) (fun v hv => ?_)
          · rw [ex, if_neg (by omega)]
          · rw [ex, if_neg (by omega)]
theorem compareM_eq {a b : Mono} (ha : mayM a = true) (hb : mayM b = true) : compareM a b = cmpE (ex a) (ex b) 200 := by
  unfold compareM
  rw [cmpL_both ha hb (by omega), ← cmpD_zero]
  rfl

theorem compareM_cases {a b : Mono} (ha : mayM a = true) (hb : mayM b = true) : compareM a b = -1 ∨ compareM a b = 0 ∨ compareM a b = 1 := by
  rw [compareM_eq ha hb]; exact cmpE_cases _ _ _
theorem compareM_neg {a b : Mono} (ha : mayM a = true) (hb : mayM b = true) : compareM b a = - compareM a b := by
  rw [compareM_eq ha hb, compareM_eq hb ha]; exact cmpE_neg _ _ _
theorem compareM_zero {a b : Mono} (ha : mayM a = true) (hb : mayM b = true) : compareM a b = 0 ↔ a = b := by
  rw [compareM_eq ha hb, cmpE_zero]
  constructor
  · intro h
    exact mayM_ext ha hb (fun k h1 h2 => h k h1 h2)
  · rintro rfl; intro _ _ _; rfl
theorem compareM_trans {a b c : Mono} (ha : mayM a = true) (hb : mayM b = true) (hc : mayM c = true) (h1 : compareM a b = 1) (h2 : compareM b c = 1) : compareM a c = 1 := by
  rw [compareM_eq ha hb] at h1
  rw [compareM_eq hb hc] at h2
  rw [compareM_eq ha hc]
  exact cmpE_trans h1 h2
end Go.Proofs.Ythplgldclilccaa
