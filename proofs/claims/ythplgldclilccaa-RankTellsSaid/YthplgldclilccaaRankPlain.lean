/- Class, degree and rank of polynomials: by the lead, and by all terms. Plain. -/
import Derived.Test.YthplgldclilccaaPolyPlain
namespace Go.Proofs.Ythplgldclilccaa

/-- the greatest degree in a variable -/
def degP (p : PZ) (v : Int) : Int := p.foldl (fun d t => max d (ex t.2 v)) 0
/-- the greatest class -/
def clsP (p : PZ) : Int := p.foldl (fun c t => max c (classM t.2)) 0
/-- the class of the first term -/
def leadP : PZ → Int
  | [] => 0
  | t :: _ => classM t.2

theorem classM_cons (x y : Int × Int) (r : Mono) : classM (x :: y :: r) = classM (y :: r) := by
  simp [classM, List.getLast?_cons_cons]
theorem class_ge {last : Int} {m : Mono} (h : mayTail last m = true) (hne : m ≠ []) : last < classM m ∧ classM m ≤ 200 ∧ 1 ≤ ex m (classM m) := by
  induction m generalizing last with
  | nil => exact absurd rfl hne
  | cons x r ih =>
    simp only [mayTail, Bool.and_eq_true, decide_eq_true_eq] at h
    cases r with
    | nil =>
      have e : classM [x] = x.1 := rfl
      rw [e, ex, if_pos rfl]
      omega
    | cons y r =>
      have := ih h.2 (by simp)
      rw [classM_cons, ex, if_neg (by omega)]
      omega
theorem class_above {last : Int} {m : Mono} (h : mayTail last m = true) {v : Int} (hv : classM m < v) (hl : last < v) : ex m v = 0 := by
  induction m generalizing last with
  | nil => rfl
  | cons x r ih =>
    simp only [mayTail, Bool.and_eq_true, decide_eq_true_eq] at h
    cases r with
    | nil =>
      have e : classM [x] = x.1 := rfl
      rw [e] at hv
      rw [ex, if_neg (by omega)]
      rfl
    | cons y r =>
      rw [classM_cons] at hv
      have := class_ge h.2 (by simp)
      rw [ex, if_neg (by omega)]
      exact ih h.2 hv (by omega)
theorem class_range {m : Mono} (h : mayM m = true) : 0 ≤ classM m ∧ classM m ≤ 200 := by
  by_cases hne : m = []
  · subst hne; simp [classM]
  · have := class_ge h hne; omega
theorem class_zero {m : Mono} (h : mayM m = true) : classM m = 0 ↔ m = [] := by
  constructor
  · intro h0
    by_cases hne : m = []
    · exact hne
    · have := class_ge h hne; omega
  · rintro rfl; rfl

theorem cmpE_top {f g : Int → Int} {n k : Nat} (hk : 1 ≤ k) (hkn : k ≤ n) (hab : ∀ j : Nat, k < j → j ≤ n → f j = g j) (hlt : f (k : Nat) < g (k : Nat)) : cmpE f g n = -1 := by
  induction n with
  | zero => omega
  | succ n ih =>
    simp only [cmpE]
    by_cases h : k = n + 1
    · subst h
      rw [if_neg (by omega), cmpI_mone]
      exact hlt
    · rw [if_pos (hab (n + 1) (by omega) (Nat.le_refl _))]
      exact ih (by omega) (fun j h1 h2 => hab j h1 (by omega))
theorem class_mono {a b : Mono} (ha : mayM a = true) (hb : mayM b = true) (h : compareM a b = 1) : classM b ≤ classM a := by
  rcases Int.lt_or_le (classM a) (classM b) with hlt | hge
  · exfalso
    have hra := class_range ha
    have hbn : b ≠ [] := fun e => by
      rw [e] at hlt
      have : classM ([] : Mono) = 0 := rfl
      omega
    obtain ⟨h1, h2, h3⟩ := class_ge hb hbn
    rw [compareM_eq ha hb] at h
    have : cmpE (ex a) (ex b) 200 = -1 := by
      refine cmpE_top (k := (classM b).toNat) (by omega) (by omega) (fun j h4 h5 => ?_) ?_
      · rw [class_above ha (v := (j : Int)) (by omega) (by omega), class_above hb (v := (j : Int)) (by omega) (by omega)]
      · rw [show (((classM b).toNat : Nat) : Int) = classM b by omega, class_above ha (v := classM b) (by omega) (by omega)]
        omega
    omega
  · exact hge

theorem foldl_max_le {α : Type} (f : α → Int) (l : List α) (c : Int) : c ≤ l.foldl (fun d t => max d (f t)) c := by
  induction l generalizing c with
  | nil => simp
  | cons x r ih =>
    rw [List.foldl_cons]
    exact Int.le_trans (by omega) (ih _)
theorem foldl_max_mem {α : Type} (f : α → Int) (l : List α) (c : Int) : ∀ t ∈ l, f t ≤ l.foldl (fun d t => max d (f t)) c := by
  induction l generalizing c with
  | nil => intro t ht; simp at ht
  | cons x r ih =>
    intro t ht
    rw [List.foldl_cons]
    rcases List.mem_cons.1 ht with rfl | ht
    · exact Int.le_trans (by omega) (foldl_max_le f r _)
    · exact ih _ t ht
theorem foldl_max_ub {α : Type} (f : α → Int) (l : List α) (c u : Int) (hc : c ≤ u) (h : ∀ t ∈ l, f t ≤ u) : l.foldl (fun d t => max d (f t)) c ≤ u := by
  induction l generalizing c with
  | nil => simpa using hc
  | cons x r ih =>
    rw [List.foldl_cons]
    exact ih _ (by have := h x (by simp); omega) (fun t ht => h t (by simp [ht]))

theorem clsP_lead {p : PZ} (h : canP p) : clsP p = leadP p := by
  cases p with
  | nil => rfl
  | cons t r =>
    unfold clsP leadP
    apply Int.le_antisymm
    · refine foldl_max_ub _ _ _ _ ?_ (fun u hu => ?_)
      · exact (class_range (h.1 t (by simp)).2).1
      · rcases List.mem_cons.1 hu with rfl | hu
        · exact Int.le_refl _
        · exact class_mono (h.1 t (by simp)).2 (h.1 u (by simp [hu])).2 (h.head u hu)
    · exact foldl_max_mem (fun t : Int × Mono => classM t.2) (t :: r) 0 t (by simp)
theorem leadP_range {p : PZ} (h : canP p) : 0 ≤ leadP p ∧ leadP p ≤ 200 := by
  cases p with
  | nil => simp [leadP]
  | cons t r => exact class_range (h.1 t (by simp)).2
theorem degP_range {p : PZ} (h : mayAll p) (v : Int) : 0 ≤ degP p v ∧ degP p v ≤ 10000 :=
  ⟨foldl_max_le _ _ _, foldl_max_ub _ _ _ _ (by omega) (fun t ht => (ex_range (h t ht) v).2)⟩
theorem degP_zero {p : PZ} (h : mayAll p) {v : Int} (hv : v ≤ 0) : degP p v = 0 :=
  Int.le_antisymm (foldl_max_ub _ _ _ _ (Int.le_refl _) (fun t ht => by rw [ex_le_last (h t ht) hv]; exact Int.le_refl _)) (foldl_max_le _ _ _)
theorem degP_le_mem {p : PZ} {t : Int × Mono} (ht : t ∈ p) (v : Int) : ex t.2 v ≤ degP p v := foldl_max_mem (fun t : Int × Mono => ex t.2 v) p 0 t ht

/-- a polynomial's rank: class, and degree in it -/
def rankP (p : PZ) : Int × Int := (leadP p, degP p (leadP p))
def lessR (a b : Int × Int) : Bool := decide (a.1 < b.1 ∨ a.1 = b.1 ∧ a.2 < b.2)
def orderR (a b : Int × Int) : Int := if a = b then 0 else if cmpI a.1 b.1 ≠ 0 then cmpI a.1 b.1 else cmpI a.2 b.2
def reducedP (p q : PZ) : Bool := if leadP q = 0 then p.isEmpty else decide (degP p (leadP q) < degP q (leadP q))
theorem orderR_eq (a b : Int × Int) : orderR a b = if lessR a b then -1 else if lessR b a then 1 else 0 := by
  obtain ⟨a1, a2⟩ := a
  obtain ⟨b1, b2⟩ := b
  unfold orderR lessR cmpI
  simp only [Prod.mk.injEq, decide_eq_true_eq]
  by_cases h1 : a1 < b1
  · have : ¬ (a1 = b1 ∧ a2 = b2) := by omega
    simp [h1, this]
  · by_cases h2 : b1 < a1
    · have : ¬ (a1 = b1 ∧ a2 = b2) := by omega
      have h3 : ¬ a1 = b1 := by omega
      simp [h1, h2, h3]
    · obtain rfl : a1 = b1 := by omega
      simp
      by_cases h3 : a2 < b2
      · have : ¬ a2 = b2 := by omega
        simp [h3, this]
      · by_cases h4 : b2 < a2
        · have : ¬ a2 = b2 := by omega
          simp [h3, h4, this]
        · have : a2 = b2 := by omega
          simp [this]
end Go.Proofs.Ythplgldclilccaa
