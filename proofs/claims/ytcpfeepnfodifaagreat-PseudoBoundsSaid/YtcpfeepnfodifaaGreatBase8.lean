/- Degrees, initials, classes and derivatives of products and sums. Plain. Lists that are the same so far. Are two polynomials the same data? The program's calls on canonical polynomials: one form of contract for all. A polynomial is built again out of its coefficients. Plain. The document: a variable's power, coefficient, initial, tail. Pseudo-division, plain: its steps, by a meter or without one; that they end. Pseudo-division, plain: what its steps keep: the identity, exponents, sizes. The document's calls on canonical polynomials within bounds: one form of contract for all. A meter, or none, as one value: what its methods do; polynomials that lie apart from it. A polynomial times a term; a variable's power. The program's division: the head, a power, the other sign, the term of a step. The program's division: a step's term, and products with the head. The program's division: what is told behind a step. -/
import Derived.Test.YtcpfeepnfodifaaGreatProg
import Derived.Test.YtcpfeepnfodifaaGreatBase7
namespace Go.Proofs.YtcpfeepnfodifaaGreat

theorem norm_mem {p : PZ} (h : mayAll p) {t : Int × Mono} (ht : t ∈ normP p) : ∃ u ∈ p, u.2 = t.2 := by
  have h1 := (norm_can h).cf_mem ht
  rw [norm_cf h] at h1
  have h2 := ((norm_can h).1 t ht).1
  exact canP.mem_of_cf (by rw [h1]; exact h2)
theorem mulL_mem {p q : PZ} {x : Int × Mono} (h : x ∈ mulL p q) : ∃ t ∈ p, ∃ u ∈ q, x = (t.1 * u.1, timesM t.2 u.2) := by
  obtain ⟨t, ht, h2⟩ := List.mem_flatMap.1 h
  obtain ⟨u, hu, rfl⟩ := List.mem_map.1 h2
  exact ⟨t, ht, u, hu, rfl⟩
theorem mulL_get {p q : PZ} {t u : Int × Mono} (ht : t ∈ p) (hu : u ∈ q) : (t.1 * u.1, timesM t.2 u.2) ∈ mulL p q := List.mem_flatMap.2 ⟨t, ht, List.mem_map.2 ⟨u, hu, rfl⟩⟩
/-- a greater times a not lower one is greater -/
theorem times_gt {s a t b : Mono} (hs : mayM s = true) (ha : mayM a = true) (ht : mayM t = true) (hb : mayM b = true) (h1 : compareM s a = 1) (h2 : b = t ∨ compareM t b = 1) : timesM a b ≠ timesM s t := by
  intro e
  have hex : ∀ u, ex a u + ex b u = ex s u + ex t u := fun u => by
    rw [← times_ex ha hb, ← times_ex hs ht, e]
  obtain ⟨u, h3, h4⟩ := (compareM_one hs ha).1 h1
  rcases h2 with rfl | h2
  · have := hex u; omega
  · obtain ⟨v, h5, h6⟩ := (compareM_one ht hb).1 h2
    rcases Int.lt_trichotomy u v with g | g | g
    · have := hex v; have := h4 v g; omega
    · subst g; have := hex u; omega
    · have := hex u; have := h6 u g; omega
theorem mul_lead {s t : Int × Mono} {A B : PZ} (hA : canP (s :: A)) (hB : canP (t :: B)) : cf (mulL (s :: A) (t :: B)) (timesM s.2 t.2) = s.1 * t.1 := by
  have hs := (hA.1 s (by simp)).2
  have ht := (hB.1 t (by simp)).2
  rw [← ev_dl, ev_mulL]
  simp only [ev]
  have e1 : ev (fun a => t.1 * dl (timesM s.2 t.2) (timesM a t.2) + ev (fun b => dl (timesM s.2 t.2) (timesM a b)) B) A = 0 := by
    refine ev_zero (fun a ha => ?_)
    have hma := (hA.1 a (by simp [ha])).2
    have h1 := hA.head a ha
    have e2 : dl (timesM s.2 t.2) (timesM a.2 t.2) = 0 := if_neg (times_gt hs hma ht ht h1 (.inl rfl))
    have e3 : ev (fun b => dl (timesM s.2 t.2) (timesM a.2 b)) B = 0 := ev_zero (fun b hb => if_neg (times_gt hs hma ht (hB.1 b (by simp [hb])).2 h1 (.inr (hB.head b hb))))
    rw [e2, e3]
    simp
  have e4 : ev (fun b => dl (timesM s.2 t.2) (timesM s.2 b)) B = 0 := by
    refine ev_zero (fun b hb => if_neg (fun e => ?_))
    have hmb := (hB.1 b (by simp [hb])).2
    obtain ⟨u, h3, h4⟩ := (compareM_one ht hmb).1 (hB.head b hb)
    have := times_ex hs hmb u
    rw [e, times_ex hs ht] at this
    omega
  rw [e1, e4, show dl (timesM s.2 t.2) (timesM s.2 t.2) = 1 from if_pos rfl]
  simp
theorem mul_ne {A B D : PZ} (hA : canP A) (hB : canP B) (hA0 : A ≠ []) (hB0 : B ≠ []) (h : Eqv D (mulL A B)) : D ≠ [] := by
  rintro rfl
  cases A with
  | nil => exact hA0 rfl
  | cons s A =>
    cases B with
    | nil => exact hB0 rfl
    | cons t B =>
      have h1 := h.cf (timesM s.2 t.2)
      rw [mul_lead hA hB] at h1
      exact Int.mul_ne_zero (hA.1 s (by simp)).1 (hB.1 t (by simp)).1 h1.symm

/-- functionals of coefficients and derivatives -/
theorem ev_coef (f : Mono → Int) (p : PZ) (v e : Int) : ev f (coefP p v e) = ev (fun m => if ex m v = e then f (withoutM m v) else 0) p := by
  unfold coefP
  rw [ev_filterMap f (coefF v e) (fun m => decide (ex m v = e)) (fun _ => 1) (fun m => withoutM m v) (fun t => by
    unfold coefF
    by_cases h : ex t.2 v = e
    · rw [if_pos h, decide_eq_true h, if_pos rfl, Int.mul_one]
    · rw [if_neg h, decide_eq_false h, if_neg (by simp)])]
  refine ev_congr (fun t _ => ?_)
  by_cases h : ex t.2 v = e
  · rw [decide_eq_true h, if_pos rfl, if_pos h, Int.one_mul]
  · rw [decide_eq_false h, if_neg (by simp), if_neg h]
theorem ev_der (f : Mono → Int) (p : PZ) (v : Int) : ev f (derP p v) = ev (fun m => if ex m v = 0 then 0 else ex m v * f (decM m v)) p := by
  unfold derP
  rw [ev_filterMap f (derF v) (fun m => !decide (ex m v = 0)) (fun m => ex m v) (fun m => decM m v) (fun t => by
    unfold derF
    by_cases h : ex t.2 v = 0
    · rw [if_pos h, decide_eq_true h]; rfl
    · rw [if_neg h, decide_eq_false h]; rfl)]
  refine ev_congr (fun t _ => ?_)
  by_cases h : ex t.2 v = 0
  · rw [decide_eq_true h, if_pos h]; rfl
  · rw [decide_eq_false h, if_neg h]; rfl
theorem coef_eqv {p q : PZ} (h : Eqv p q) (v e : Int) : Eqv (coefP p v e) (coefP q v e) := fun f => by rw [ev_coef, ev_coef, h]
theorem der_eqv {p q : PZ} (h : Eqv p q) (v : Int) : Eqv (derP p v) (derP q v) := fun f => by rw [ev_der, ev_der, h]
theorem without_times {a b : Mono} (ha : mayM a = true) (hb : mayM b = true) (hab : mayM (timesM a b) = true) (v : Int) : withoutM (timesM a b) v = timesM (withoutM a v) (withoutM b v) := by
  have h1 := mayM_without ha v
  have h2 := mayM_without hb v
  have h3 : mayM (timesM (withoutM a v) (withoutM b v)) = true := may_of_le (times_ok (may_ok h1) (may_ok h2)) hab (fun u => by
    rw [times_ex h1 h2, times_ex ha hb, ex_without, ex_without]
    have := ex_nonneg ha u; have := ex_nonneg hb u
    split <;> omega)
  refine mayM_ext' (mayM_without hab v) h3 (fun u => ?_)
  rw [ex_without, times_ex ha hb, times_ex h1 h2, ex_without, ex_without]
  split <;> omega

theorem deg_met {p : PZ} (h : mayAll p) (h0 : p ≠ []) (v : Int) : ∃ t ∈ p, ex t.2 v = degP p v := by
  rcases Int.lt_or_le 0 (degP p v) with g | g
  · exact degP_met g
  · cases p with
    | nil => exact absurd rfl h0
    | cons t r =>
      have h1 := degP_le_mem (p := t :: r) (t := t) (by simp) v
      have h2 := ex_nonneg (h t (by simp)) v
      have h3 := (degP_range h v).1
      exact ⟨t, by simp, by omega⟩
theorem coef_top_ne {p : PZ} (h : mayAll p) (h0 : p ≠ []) (v : Int) : coefP p v (degP p v) ≠ [] := by
  obtain ⟨t, ht, e⟩ := deg_met h h0 v
  have : (t.1, withoutM t.2 v) ∈ coefP p v (degP p v) := List.mem_filterMap.2 ⟨t, ht, by unfold coefF; rw [if_pos e]⟩
  intro e2
  rw [e2] at this
  simp at this

section
variable {P Q C : PZ}
theorem top_eqv (hP : canP P) (hQ : canP Q) (h : timesP P Q = some C) (v : Int) : Eqv (coefP C v (degP P v + degP Q v)) (mulL (coefP P v (degP P v)) (coefP Q v (degP Q v))) := by
  obtain ⟨hm, rfl⟩ := times_some hP.may hQ.may h
  refine (coef_eqv (norm_eqv hm) v _).trans (fun f => ?_)
  rw [ev_coef, ev_mulL, ev_mulL, ev_coef]
  refine ev_congr (fun a ha => ?_)
  have ha1 := degP_le_mem ha v
  by_cases h1 : ex a.2 v = degP P v
  · rw [if_pos h1, ev_coef]
    refine ev_congr (fun b hb => ?_)
    have hb1 := degP_le_mem hb v
    have hab := hm _ (mulL_get ha hb)
    rw [times_ex (hP.1 a ha).2 (hQ.1 b hb).2]
    by_cases h2 : ex b.2 v = degP Q v
    · rw [if_pos h2, if_pos (by omega), without_times (hP.1 a ha).2 (hQ.1 b hb).2 hab]
    · rw [if_neg h2, if_neg (by omega)]
  · rw [if_neg h1]
    refine ev_zero (fun b hb => ?_)
    have hb1 := degP_le_mem hb v
    rw [times_ex (hP.1 a ha).2 (hQ.1 b hb).2, if_neg (by omega)]
theorem times_can (hP : canP P) (hQ : canP Q) (h : timesP P Q = some C) : canP C := by
  obtain ⟨hm, rfl⟩ := times_some hP.may hQ.may h
  exact norm_can hm
theorem times_mem (hP : canP P) (hQ : canP Q) (h : timesP P Q = some C) {t : Int × Mono} (ht : t ∈ C) : ∃ a ∈ P, ∃ b ∈ Q, ∀ u, ex t.2 u = ex a.2 u + ex b.2 u := by
  obtain ⟨hm, rfl⟩ := times_some hP.may hQ.may h
  obtain ⟨x, hx, e⟩ := norm_mem hm ht
  obtain ⟨a, ha, b, hb, rfl⟩ := mulL_mem hx
  exact ⟨a, ha, b, hb, fun u => by rw [← e]; exact times_ex (hP.1 a ha).2 (hQ.1 b hb).2 u⟩
theorem times_deg (hP : canP P) (hQ : canP Q) (hP0 : P ≠ []) (hQ0 : Q ≠ []) (h : timesP P Q = some C) (v : Int) : degP C v = degP P v + degP Q v := by
  have h1 := (degP_range hP.may v).1
  have h2 := (degP_range hQ.may v).1
  refine Int.le_antisymm (degP_le (by omega) (fun t ht => ?_)) ?_
  · obtain ⟨a, ha, b, hb, e⟩ := times_mem hP hQ h ht
    have := degP_le_mem ha v
    have := degP_le_mem hb v
    rw [e]
    omega
  · have h3 := mul_ne (coefP_can hP v _) (coefP_can hQ v _) (coef_top_ne hP.may hP0 v) (coef_top_ne hQ.may hQ0 v) (top_eqv hP hQ h v)
    obtain ⟨t, ht⟩ := List.exists_mem_of_ne_nil _ h3
    obtain ⟨u, hu, e, -⟩ := coefP_mem ht
    rw [← e]
    exact degP_le_mem hu v
theorem times_ne (hP : canP P) (hQ : canP Q) (hP0 : P ≠ []) (hQ0 : Q ≠ []) (h : timesP P Q = some C) : C ≠ [] := by
  obtain ⟨hm, rfl⟩ := times_some hP.may hQ.may h
  exact mul_ne hP hQ hP0 hQ0 (norm_eqv hm)
theorem class_le_lead {p : PZ} (h : canP p) {t : Int × Mono} (ht : t ∈ p) : classM t.2 ≤ leadP p := by
  rw [← clsP_lead h]
  exact foldl_max_mem (fun t : Int × Mono => classM t.2) p 0 t ht
theorem ex_le_lead {p : PZ} (h : canP p) {t : Int × Mono} (ht : t ∈ p) {v : Int} (hv : 0 < ex t.2 v) : v ≤ leadP p := by
  rcases Int.lt_or_le (leadP p) v with g | g
  · rw [ex_above_lead h ht g] at hv; omega
  · exact g
theorem times_lead (hP : canP P) (hQ : canP Q) (hP0 : P ≠ []) (hQ0 : Q ≠ []) (h : timesP P Q = some C) : leadP C = max (leadP P) (leadP Q) := by
  have hC := times_can hP hQ h
  have h1 := leadP_range hP
  have h2 := leadP_range hQ
  refine Int.le_antisymm (lead_le hC (by omega) (fun t ht u hu => ?_)) ?_
  · obtain ⟨a, ha, b, hb, e⟩ := times_mem hP hQ h ht
    rw [e, ex_above_lead hP ha (by omega), ex_above_lead hQ hb (by omega)]
    rfl
  · rcases Int.lt_or_le 0 (max (leadP P) (leadP Q)) with g | g
    · have hd := times_deg hP hQ hP0 hQ0 h (max (leadP P) (leadP Q))
      have hpos : 0 < degP C (max (leadP P) (leadP Q)) := by
        have a1 := (degP_range hP.may (max (leadP P) (leadP Q))).1
        have a2 := (degP_range hQ.may (max (leadP P) (leadP Q))).1
        rcases Int.le_total (leadP P) (leadP Q) with k | k
        · have e : max (leadP P) (leadP Q) = leadP Q := by omega
          rw [e] at hd g a1 a2 ⊢
          have := deg_lead_pos hQ g
          omega
        · have e : max (leadP P) (leadP Q) = leadP P := by omega
          rw [e] at hd g a1 a2 ⊢
          have := deg_lead_pos hP g
          omega
      obtain ⟨t, ht, e⟩ := degP_met hpos
      exact ex_le_lead hC ht (by omega)
    · have := leadP_range hC
      omega
/-- exponents of a part are not greater -/
def below (p q : PZ) : Prop := ∀ t ∈ p, ∃ u ∈ q, ∀ v, ex t.2 v ≤ ex u.2 v
theorem below_refl (p : PZ) : below p p := fun t ht => ⟨t, ht, fun _ => Int.le_refl _⟩
theorem below_coef {p : PZ} (h : mayAll p) (v e : Int) : below (coefP p v e) p := fun t ht => by
  obtain ⟨u, hu, -, rfl⟩ := coefP_mem ht
  refine ⟨u, hu, fun w => ?_⟩
  rw [ex_without]
  have := ex_nonneg (h u hu) w
  split <;> omega
theorem below_init {p : PZ} (h : canP p) : below (initP p) p := by
  unfold initP
  split
  · exact below_refl p
  · exact below_coef h.may _ _
theorem below_der {p : PZ} (h : canP p) (v : Int) : below (derP p v) p := fun t ht => by
  obtain ⟨u, hu, h1, rfl⟩ := derP_mem ht
  refine ⟨u, hu, fun w => ?_⟩
  have h2 := ex_nonneg (h.1 u hu).2 v
  rw [dec_ex (h.1 u hu).2 (by omega)]
  split
  · rename_i e; subst e; omega
  · exact Int.le_refl _
theorem below_mul {P' Q' : PZ} (hP : mayAll P) (hQ : mayAll Q) (hP' : mayAll P') (hQ' : mayAll Q') (h1 : below P' P) (h2 : below Q' Q) (hm : mayAll (mulL P Q)) : mayAll (mulL P' Q') := fun x hx => by
  obtain ⟨t, ht, u, hu, rfl⟩ := mulL_mem hx
  obtain ⟨a, ha, h3⟩ := h1 t ht
  obtain ⟨b, hb, h4⟩ := h2 u hu
  refine may_of_le (times_ok (may_ok (hP' t ht)) (may_ok (hQ' u hu))) (hm _ (mulL_get ha hb)) (fun v => ?_)
  rw [times_ex (hP' t ht) (hQ' u hu), times_ex (hP a ha) (hQ b hb)]
  have := h3 v
  have := h4 v
  omega
theorem times_init (hP : canP P) (hQ : canP Q) (hP0 : P ≠ []) (hQ0 : Q ≠ []) (h : timesP P Q = some C) : ∃ I, timesP (initP P) (initP Q) = some I ∧ (leadP P = leadP Q → I = initP C) := by
  obtain ⟨hm, hC⟩ := times_some hP.may hQ.may h
  have hm2 := below_mul hP.may hQ.may (initP_can hP).may (initP_can hQ).may (below_init hP) (below_init hQ) hm
  refine ⟨_, times_norm (initP_can hP).may (initP_can hQ).may hm2, fun e => ?_⟩
  have hCc := times_can hP hQ h
  have hl := times_lead hP hQ hP0 hQ0 h
  rw [← e, show max (leadP P) (leadP P) = leadP P by omega] at hl
  by_cases h0 : leadP P = 0
  · have e1 : initP P = P := by unfold initP; rw [if_pos h0]
    have e2 : initP Q = Q := by unfold initP; rw [if_pos (by omega)]
    have e3 : initP C = C := by unfold initP; rw [if_pos (by omega)]
    rw [e1, e2, e3]
    exact hC.symm
  · have h1 := top_eqv hP hQ h (leadP P)
    have hd := times_deg hP hQ hP0 hQ0 h (leadP P)
    refine norm_eq hm2 (initP_can hCc) ?_
    have e1 : initP P = coefP P (leadP P) (degP P (leadP P)) := by unfold initP; rw [if_neg h0]
    have e2 : initP Q = coefP Q (leadP P) (degP Q (leadP P)) := by unfold initP; rw [if_neg (by omega), ← e]
    have e3 : initP C = coefP C (leadP P) (degP P (leadP P) + degP Q (leadP P)) := by unfold initP; rw [if_neg (by omega), hl, hd]
    rw [e1, e2, e3]
    exact h1.symm
theorem dec_times {a b : Mono} (ha : mayM a = true) (hb : mayM b = true) (hab : mayM (timesM a b) = true) {v : Int} (h : 0 < ex a v) : decM (timesM a b) v = timesM (decM a v) b := by
  have h1 := dec_may (v := v) ha
  have h2 : mayM (timesM (decM a v) b) = true := may_of_le (times_ok (may_ok h1) (may_ok hb)) hab (fun u => by
    rw [times_ex h1 hb, times_ex ha hb, dec_ex ha h]
    split
    · rename_i e; subst e; omega
    · omega)
  have h3 := ex_nonneg hb v
  refine mayM_ext' (dec_may hab) h2 (fun u => ?_)
  rw [dec_ex hab (by rw [times_ex ha hb]; omega), times_ex ha hb, times_ex h1 hb, dec_ex ha h]
  split
  · rename_i e; subst e; omega
  · exact times_ex ha hb u
theorem der_mul (hP : canP P) (hQ : canP Q) (hm : mayAll (mulL P Q)) (v : Int) : Eqv (derP (mulL P Q) v) (mulL (derP P v) Q ++ mulL P (derP Q v)) := fun f => by
  rw [ev_append, ev_der, ev_mulL, ev_mulL, ev_mulL, ev_der]
  rw [← ev_add]
  refine ev_congr (fun a ha => ?_)
  rw [ev_der]
  have hma := (hP.1 a ha).2
  by_cases h1 : ex a.2 v = 0
  · rw [if_pos h1, Int.zero_add]
    refine ev_congr (fun b hb => ?_)
    have hmb := (hQ.1 b hb).2
    have hab := hm _ (mulL_get ha hb)
    have hba : mayM (timesM b.2 a.2) = true := by rw [times_comm (may_ok hmb) (may_ok hma)]; exact hab
    rw [times_ex hma hmb, h1, Int.zero_add]
    by_cases h2 : ex b.2 v = 0
    · rw [if_pos h2, if_pos h2]
    · have := ex_nonneg hmb v
      rw [if_neg h2, if_neg h2, times_comm (may_ok hma) (may_ok hmb), dec_times hmb hma hba (by omega), times_comm (may_ok (dec_may hmb)) (may_ok hma)]
  · have hp := ex_nonneg hma v
    rw [if_neg h1, ← ev_smul, ← ev_add]
    refine ev_congr (fun b hb => ?_)
    have hmb := (hQ.1 b hb).2
    have hab := hm _ (mulL_get ha hb)
    have hba : mayM (timesM b.2 a.2) = true := by rw [times_comm (may_ok hmb) (may_ok hma)]; exact hab
    have hq := ex_nonneg hmb v
    rw [times_ex hma hmb, if_neg (by omega)]
    by_cases h2 : ex b.2 v = 0
    · rw [if_pos h2, h2, Int.add_zero, Int.add_zero, dec_times hma hmb hab (by omega)]
    · have e : timesM (decM a.2 v) b.2 = timesM a.2 (decM b.2 v) := by
        rw [← dec_times hma hmb hab (by omega), times_comm (may_ok hma) (may_ok hmb), dec_times hmb hma hba (by omega), times_comm (may_ok (dec_may hmb)) (may_ok hma)]
      rw [if_neg h2, dec_times hma hmb hab (by omega), ← e, Int.add_mul]
theorem times_der (hP : canP P) (hQ : canP Q) (h : timesP P Q = some C) (v : Int) : ∃ X Y, timesP (derP P v) Q = some X ∧ timesP P (derP Q v) = some Y ∧ derP C v = normP (X ++ Y) := by
  obtain ⟨hm, rfl⟩ := times_some hP.may hQ.may h
  have d1 := derP_can hP v
  have d2 := derP_can hQ v
  have m1 := below_mul hP.may hQ.may d1.may hQ.may (below_der hP v) (below_refl Q) hm
  have m2 := below_mul hP.may hQ.may hP.may d2.may (below_refl P) (below_der hQ v) hm
  refine ⟨_, _, times_norm d1.may hQ.may m1, times_norm hP.may d2.may m2, ?_⟩
  have hx : mayAll (normP (mulL (derP P v) Q) ++ normP (mulL P (derP Q v))) := fun t ht => by
    rcases List.mem_append.1 ht with g | g
    · exact ((norm_can m1).1 t g).2
    · exact ((norm_can m2).1 t g).2
  refine (norm_eq hx (derP_can (norm_can hm) v) ?_).symm
  exact ((norm_eqv m1).append (norm_eqv m2)).trans ((der_mul hP hQ hm v).symm.trans (der_eqv (norm_eqv hm) v).symm)
theorem sum_der (hP : canP P) (hQ : canP Q) (v : Int) : derP (normP (P ++ Q)) v = normP (derP P v ++ derP Q v) := by
  have hm : mayAll (P ++ Q) := fun t ht => by
    rcases List.mem_append.1 ht with g | g
    · exact (hP.1 t g).2
    · exact (hQ.1 t g).2
  have hd : mayAll (derP P v ++ derP Q v) := fun t ht => by
    rcases List.mem_append.1 ht with g | g
    · exact ((derP_can hP v).1 t g).2
    · exact ((derP_can hQ v).1 t g).2
  refine (norm_eq hd (derP_can (norm_can hm) v) ?_).symm
  refine Eqv.trans ?_ (der_eqv (norm_eqv hm) v).symm
  unfold derP
  rw [List.filterMap_append]
  exact Eqv.refl _
end
end Go.Proofs.YtcpfeepnfodifaaGreat

namespace Go.Proofs.YtcpfeepnfodifaaGreat

theorem take_eq_succ {α : Type} {xs ys : List α} {k : Nat} {x : α} (h : xs.take k = ys.take k) (hx : xs[k]? = some x) (hy : ys[k]? = some x) : xs.take (k + 1) = ys.take (k + 1) := by
  rw [List.take_add_one, List.take_add_one, h, hx, hy]
theorem ne_of_at {α : Type} {xs ys : List α} {k : Nat} {x y : α} (hx : xs[k]? = some x) (hy : ys[k]? = some y) (h : x ≠ y) : xs ≠ ys := by
  rintro rfl
  rw [hx] at hy
  exact h (Option.some.inj hy)
end Go.Proofs.YtcpfeepnfodifaaGreat

namespace Go.Proofs.YtcpfeepnfodifaaGreat
open Go.RowKit

set_option maxRecDepth 100000 in
set_option maxHeartbeats 1000000 in
theorem equal_u32 {S : Nat → Prop} (va vb : Value) (xs ys : List Nat) (w : World) (ha : U32s S w va xs) (hb : U32s S w vb ys) (hS : ∀ k, S k → k < w.heap.size) :
    Calls Tryz.prog 87 #[va, vb] w fun e w' => e = .returned (.bool (decide (xs = ys))) ∧ Ext w w' := by
  have HA := hid ha
  have HB := hid hb
  have hla := ha.len_le
  have hlb := hb.len_le
  obtain ⟨aa, ca, rfl⟩ := ha.form
  obtain ⟨ab, cb, rfl⟩ := hb.form
  obtain ⟨na, hna⟩ : ∃ n, n = xs.length := ⟨_, rfl⟩
  obtain ⟨nb, hnb⟩ : ∃ n, n = ys.length := ⟨_, rfl⟩
  rw [← hna] at HA hla ⊢
  rw [← hnb] at HB hlb ⊢
  have HNA := hid hna
  have HNB := hid hnb
  clear ha hb hna hnb
  by_cases hne : na = nb
  · subst hne
    go_enter Tryz.func87, Tryz.ntmps87
    go_wp2
    go_loopw [5, 13] (fun _ i wr => ∃ k : Nat, k ≤ na ∧ i = .int .i64 k ∧ Ext w wr ∧ Hid (xs.take k = ys.take k)) (fun _ i _ => na - (intOf i).toNat)
    case atStart => exact ⟨0, Nat.zero_le _, rfl, Ext.refl _, rfl⟩
    case round =>
      obtain ⟨k, hk, rfl, hx, HE⟩ := hrel
      have HX := hid hx
      by_cases hlt : k < na
      · obtain ⟨x, hxk⟩ := some_of_lt (l := xs) (j := k) (by rw [← HNA.out]; exact hlt)
        obtain ⟨y, hyk⟩ := some_of_lt (l := ys) (j := k) (by rw [← HNB.out]; exact hlt)
        obtain ⟨b1, o1, rfl, -, hc1, hm1, hz1, h1⟩ := (HA.out.ext hx hS).cellAt hxk
        obtain ⟨b2, o2, rfl, -, hc2, hm2, hz2, h2⟩ := (HB.out.ext hx hS).cellAt hyk
        have HXK := hid hxk
        have HYK := hid hyk
        clear hxk hyk hx
        by_cases he : x = y
        · have q1 : ((x : Int) != (y : Int)) = false := by rw [he]; simp
          have H0 := hid he
          clear he
          go_wp2
          go_quiet (fail)
          go_wp2
          go_roundw
          case rel => exact ⟨k + 1, by omega, by go_num, HX.out.drewN _, take_eq_succ HE.out HXK.out (by rw [H0.out]; exact HYK.out)⟩
          case measure => simp only [intOf]; omega
        · have q1 : ((x : Int) != (y : Int)) = true := by rw [bne_iff_ne]; omega
          have HF : Hid (xs ≠ ys) := hid (ne_of_at HXK.out HYK.out he)
          clear he
          go_wp2
          go_quiet (fail)
          go_wp2
          go_ret
          exact ⟨by rw [decide_eq_false HF.out]; rfl, HX.out.drewN _⟩
      · obtain rfl : k = na := by omega
        have HF : Hid (xs = ys) := hid (by have := HE.out; rwa [List.take_of_length_le (by rw [← HNA.out]; exact Nat.le_refl _), List.take_of_length_le (by rw [← HNB.out]; exact Nat.le_refl _)] at this)
        clear hx
        go_wp2
        go_ret
        exact ⟨by rw [decide_eq_true HF.out]; rfl, HX.out⟩
  · have hb : ((na : Int) != (nb : Int)) = true := by rw [bne_iff_ne]; omega
    have HF : Hid (xs ≠ ys) := hid (fun e => hne (by rw [HNA.out, HNB.out, e]))
    clear hne
    go_enter Tryz.func87, Tryz.ntmps87
    go_wp2
    go_ret
    exact ⟨by rw [decide_eq_false HF.out]; rfl, Ext.refl _⟩
set_option maxRecDepth 100000 in
set_option maxHeartbeats 1000000 in
theorem equal_mono {S : Nat → Prop} (va vb : Value) (xs ys : Mono) (w : World) (ha : Pows S w va xs) (hb : Pows S w vb ys) (hS : ∀ k, S k → k < w.heap.size) :
    Calls Tryz.prog 88 #[va, vb] w fun e w' => e = .returned (.bool (decide (xs = ys))) ∧ Ext w w' := by
  have HA := hid ha
  have HB := hid hb
  have hla := ha.len_le
  have hlb := hb.len_le
  obtain ⟨aa, ca, rfl⟩ := ha.form
  obtain ⟨ab, cb, rfl⟩ := hb.form
  obtain ⟨na, hna⟩ : ∃ n, n = xs.length := ⟨_, rfl⟩
  obtain ⟨nb, hnb⟩ : ∃ n, n = ys.length := ⟨_, rfl⟩
  rw [← hna] at HA hla ⊢
  rw [← hnb] at HB hlb ⊢
  have HNA := hid hna
  have HNB := hid hnb
  clear ha hb hna hnb
  by_cases hne : na = nb
  · subst hne
    go_enter Tryz.func88, Tryz.ntmps88
    go_wp2
    go_loopw [5, 13] (fun _ i wr => ∃ k : Nat, k ≤ na ∧ i = .int .i64 k ∧ Ext w wr ∧ Hid (xs.take k = ys.take k)) (fun _ i _ => na - (intOf i).toNat)
    case atStart => exact ⟨0, Nat.zero_le _, rfl, Ext.refl _, rfl⟩
    case round =>
      obtain ⟨k, hk, rfl, hx, HE⟩ := hrel
      have HX := hid hx
      by_cases hlt : k < na
      · obtain ⟨x, hxk⟩ := some_of_lt (l := xs) (j := k) (by rw [← HNA.out]; exact hlt)
        obtain ⟨y, hyk⟩ := some_of_lt (l := ys) (j := k) (by rw [← HNB.out]; exact hlt)
        obtain ⟨b1, o1, c1', hv1, hc1, hm1, ⟨⟨hz1, hz2⟩, hz3, hz4⟩, h1, h1'⟩ := (HA.out.ext hx hS).at hxk
        obtain ⟨rfl, -, rfl⟩ : aa = some ⟨b1, o1, none⟩ ∧ na = xs.length ∧ ca = c1' := by simpa using hv1
        obtain ⟨b2, o2, c2', hv2, hc2, hm2, ⟨⟨hy1, hy2⟩, hy3, hy4⟩, h2, h2'⟩ := (HB.out.ext hx hS).at hyk
        obtain ⟨rfl, -, rfl⟩ : ab = some ⟨b2, o2, none⟩ ∧ na = ys.length ∧ cb = c2' := by simpa using hv2
        clear hv1 hv2
        rw [← HNA.out] at hc1
        rw [← HNB.out] at hc2
        have HXK := hid hxk
        have HYK := hid hyk
        clear hxk hyk hx
        by_cases he : x = y
        · have H0 := hid he
          obtain ⟨x1, x2⟩ := x
          obtain ⟨y1, y2⟩ := y
          obtain ⟨rfl, rfl⟩ : x1 = y1 ∧ x2 = y2 := by simpa using he
          simp only at h1 h1' h2 h2' hz1 hz2 hz3 hz4 hy1 hy2 hy3 hy4
          clear he
          go_wp2
          go_quiet (fail)
          go_wp2
          go_roundw
          case rel => exact ⟨k + 1, by omega, by go_num, HX.out.drewN _, take_eq_succ HE.out HXK.out HYK.out⟩
          case measure => simp only [intOf]; omega
        · have HF : Hid (xs ≠ ys) := hid (ne_of_at HXK.out HYK.out he)
          obtain ⟨x1, x2⟩ := x
          obtain ⟨y1, y2⟩ := y
          simp only at h1 h1' h2 h2' hz1 hz2 hz3 hz4 hy1 hy2 hy3 hy4
          have he' : x1 ≠ y1 ∨ (x1 = y1 ∧ x2 ≠ y2) := by
            by_cases h : x1 = y1
            · exact .inr ⟨h, fun h' => he (by rw [h, h'])⟩
            · exact .inl h
          clear he
          rcases he' with he | ⟨rfl, he⟩
          all_goals
            go_wp2
            go_quiet (fail)
            go_wp2
            go_ret
            exact ⟨by rw [decide_eq_false HF.out]; rfl, HX.out.drewN _⟩
      · obtain rfl : k = na := by omega
        have HF : Hid (xs = ys) := hid (by have := HE.out; rwa [List.take_of_length_le (by rw [← HNA.out]; exact Nat.le_refl _), List.take_of_length_le (by rw [← HNB.out]; exact Nat.le_refl _)] at this)
        clear hx
        go_wp2
        go_ret
        exact ⟨by rw [decide_eq_true HF.out]; rfl, HX.out⟩
  · have hb : ((na : Int) != (nb : Int)) = true := by rw [bne_iff_ne]; omega
    have HF : Hid (xs ≠ ys) := hid (fun e => hne (by rw [HNA.out, HNB.out, e]))
    clear hne
    go_enter Tryz.func88, Tryz.ntmps88
    go_wp2
    go_ret
    exact ⟨by rw [decide_eq_false HF.out]; rfl, Ext.refl _⟩

theorem TermV.of_cells {S : Nat → Prop} {w : World} {vm vo : Value} {t : RTerm} (h4 : U32s S w vm t.c.mag) (h5 : Pows S w vo t.m) : TermV S w (.agg #[.bool t.c.neg, vm, vo]) t := ⟨vm, vo, rfl, h4, h5⟩
theorem new3 {w W : World} {u v x : Value} {T : TypeId} (h : Ext (w.alloc (.cells #[u, v, x] T)) W) :
    W.cell? ⟨w.heap.size, 0, none⟩ = some u ∧ W.cell? ⟨w.heap.size, 1, none⟩ = some v ∧ W.cell? ⟨w.heap.size, 2, none⟩ = some x :=
  ⟨h.new_cell rfl, h.new_cell rfl, h.new_cell rfl⟩

set_option maxRecDepth 100000 in
set_option maxHeartbeats 2000000 in
theorem same_term {S : Nat → Prop} (va vb : Value) (s t : RTerm) (w : World) (ha : TermV S w va s) (hb : TermV S w vb t) (hS : ∀ k, S k → k < w.heap.size) :
    Calls Tryz.prog 86 #[va, vb] w fun e w' => e = .returned (.bool (decide (s = t))) ∧ Ext w w' := by
  obtain ⟨⟨sn, sm⟩, so⟩ := s
  obtain ⟨⟨tn, tm⟩, tq⟩ := t
  obtain ⟨v1, v2, rfl, hu1, hp1⟩ := ha
  obtain ⟨v3, v4, rfl, hu2, hp2⟩ := hb
  simp only at hu1 hp1 hu2 hp2 ⊢
  have CU := fun (W : World) (hW : Ext w W) => equal_u32 _ _ sm tm W (hu1.ext hW hS) (hu2.ext hW hS) (lt_ext hS hW)
  have CP := fun (W : World) (hW : Ext w W) => equal_mono _ _ so tq W (hp1.ext hW hS) (hp2.ext hW hS) (lt_ext hS hW)
  obtain ⟨a1, c1, rfl⟩ := hu1.form
  obtain ⟨a2, c2, rfl⟩ := hp1.form
  obtain ⟨a3, c3, rfl⟩ := hu2.form
  obtain ⟨a4, c4, rfl⟩ := hp2.form
  have HCU := hid CU
  have HCP := hid CP
  have hx : Ext w ((w.alloc (.cells #[.bool sn, .slice a1 sm.length c1, .slice a2 so.length c2] 104)).alloc (.cells #[.bool tn, .slice a3 tm.length c3, .slice a4 tq.length c4] 104)) := Ext.alloc (Ext.alloc (Ext.refl w) _) _
  have HX := hid hx
  have HM : Hid (∀ W, Ext ((w.alloc (.cells #[.bool sn, .slice a1 sm.length c1, .slice a2 so.length c2] 104)).alloc (.cells #[.bool tn, .slice a3 tm.length c3, .slice a4 tq.length c4] 104)) W →
      (W.cell? ⟨w.heap.size, 0, none⟩ = some (.bool sn) ∧ W.cell? ⟨w.heap.size, 1, none⟩ = some (.slice a1 sm.length c1) ∧ W.cell? ⟨w.heap.size, 2, none⟩ = some (.slice a2 so.length c2)) ∧
      (W.cell? ⟨w.heap.size + 1, 0, none⟩ = some (.bool tn) ∧ W.cell? ⟨w.heap.size + 1, 1, none⟩ = some (.slice a3 tm.length c3) ∧ W.cell? ⟨w.heap.size + 1, 2, none⟩ = some (.slice a4 tq.length c4))) := hid (fun W hW => by
    have k2 := new3 hW
    rw [size_alloc] at k2
    exact ⟨new3 ((Ext.alloc (Ext.refl _) _).trans hW), k2⟩)
  have HD : Hid ((decide ((⟨⟨sn, sm⟩, so⟩ : RTerm) = ⟨⟨tn, tm⟩, tq⟩)) = (decide (sn = tn) && (decide (sm = tm) && decide (so = tq)))) := hid (by
    rw [Bool.eq_iff_iff]
    simp [and_assoc])
  clear CU CP hu1 hp1 hu2 hp2 hx
  obtain ⟨m0, m1, m2⟩ := HM.out _ (Ext.refl _)
  by_cases h1 : sn = tn
  · subst h1
    cases hm : decide (sm = tm) with
    | false =>
      simp only [hm] at HCU
      have HF := hid hm
      clear hm
      go_enter Tryz.func86, Tryz.ntmps86
      go_wp2_with fail
      with_reducible refine (HCU.out _ HX.out).mono ?_
      rintro e w1 ⟨rfl, hx1⟩
      have HX1 := hid (HX.out.trans hx1)
      clear hx1
      go_wp2
      all_goals
        go_ret
        exact ⟨by rw [HD.out, HF.out]; simp, HX1.out⟩
    | true =>
      simp only [hm] at HCU
      have HF := hid hm
      clear hm
      go_enter Tryz.func86, Tryz.ntmps86
      go_wp2_with fail
      with_reducible refine (HCU.out _ HX.out).mono ?_
      rintro e w1 ⟨rfl, hx1⟩
      have HX1 := hid (HX.out.trans hx1)
      obtain ⟨⟨k0, k1, k2⟩, k3, k4, k5⟩ := HM.out _ hx1
      clear hx1
      go_wp2_with fail
      with_reducible refine (HCP.out _ HX1.out).mono ?_
      rintro e w2 ⟨rfl, hx2⟩
      have HX2 := hid (HX1.out.trans hx2)
      clear hx2
      go_wp2
      all_goals
        go_ret
        exact ⟨by rw [HD.out, HF.out]; simp, HX2.out⟩
  · have hb : (sn == tn) = false := by rw [beq_eq_false_iff_ne]; exact h1
    have HF := hid (decide_eq_false h1)
    clear h1
    go_enter Tryz.func86, Tryz.ntmps86
    go_wp2
    all_goals
      go_ret
      exact ⟨by rw [HD.out, HF.out]; simp, HX.out⟩

set_option maxRecDepth 100000 in
set_option maxHeartbeats 2000000 in
theorem equal_terms {S : Nat → Prop} (va vb : Value) (xs ys : List RTerm) (w : World) (ha : Terms S w va xs) (hb : Terms S w vb ys) (hS : ∀ k, S k → k < w.heap.size) :
    Calls Tryz.prog 85 #[va, vb, .func (.func 86) #[] #[]] w fun e w' => e = .returned (.bool (decide (xs = ys))) ∧ Ext w w' := by
  have hnot : ∀ (x : Bool) (w : World), (Op.unary .not (.bool x)).run Tryz.prog w = .ok (.bool (!x)) w := fun _ _ => rfl
  have HA := hid ha
  have HB := hid hb
  have hla := ha.len_le
  have hlb := hb.len_le
  obtain ⟨aa, ca, rfl⟩ := ha.form
  obtain ⟨ab, cb, rfl⟩ := hb.form
  obtain ⟨na, hna⟩ : ∃ n, n = xs.length := ⟨_, rfl⟩
  obtain ⟨nb, hnb⟩ : ∃ n, n = ys.length := ⟨_, rfl⟩
  rw [← hna] at HA hla ⊢
  rw [← hnb] at HB hlb ⊢
  have HNA := hid hna
  have HNB := hid hnb
  clear ha hb hna hnb
  by_cases hne : na = nb
  · subst hne
    go_enter Tryz.func85, Tryz.ntmps85
    go_wp2
    go_loopw [7, 8, 9, 17] (fun _ _ _ i wr => ∃ k : Nat, k ≤ na ∧ i = .int .i64 k ∧ Ext w wr ∧ Hid (xs.take k = ys.take k)) (fun _ _ _ i _ => na - (intOf i).toNat)
    case atStart => exact ⟨0, Nat.zero_le _, rfl, Ext.refl _, rfl⟩
    case round =>
      obtain ⟨k, hk, rfl, hx, HE⟩ := hrel
      have HX := hid hx
      by_cases hlt : k < na
      · obtain ⟨x, hxk⟩ := some_of_lt (l := xs) (j := k) (by rw [← HNA.out]; exact hlt)
        obtain ⟨y, hyk⟩ := some_of_lt (l := ys) (j := k) (by rw [← HNB.out]; exact hlt)
        obtain ⟨b1, o1, v1, v2, rfl, -, hc1, hm1, hz1, h1, h2, h3, h4, h5⟩ := (HA.out.ext hx hS).cellAt hxk
        obtain ⟨b2, o2, v3, v4, rfl, -, hc2, hm2, hz2, g1, g2, g3, g4, g5⟩ := (HB.out.ext hx hS).cellAt hyk
        have HXK := hid hxk
        have HYK := hid hyk
        have HC := hid (fun W (hW : Ext wr W) => same_term (S := S) _ _ x y W (TermV.of_cells (h4.ext hW (lt_ext hS hx)) (h5.ext hW (lt_ext hS hx))) (TermV.of_cells (g4.ext hW (lt_ext hS hx)) (g5.ext hW (lt_ext hS hx))) (lt_ext hS (hx.trans hW)))
        obtain ⟨a1, c1, rfl⟩ := h4.form
        obtain ⟨a2, c2, rfl⟩ := h5.form
        obtain ⟨a3, c3, rfl⟩ := g4.form
        obtain ⟨a4, c4, rfl⟩ := g5.form
        have HX2 := hid (Ext.alloc (Ext.alloc (Ext.refl wr) (.cells #[.bool x.c.neg, .slice a1 x.c.mag.length c1, .slice a2 x.m.length c2] 104)) (.cells #[.bool y.c.neg, .slice a3 y.c.mag.length c3, .slice a4 y.m.length c4] 104))
        have n1 := new3 (w := wr) (u := .bool x.c.neg) (v := .slice a1 x.c.mag.length c1) (x := .slice a2 x.m.length c2) (T := 104) (Ext.refl _)
        have m1' := (Ext.alloc (Ext.refl wr) (.cells #[.bool x.c.neg, .slice a1 x.c.mag.length c1, .slice a2 x.m.length c2] 104)).cell g1
        have m2' := (Ext.alloc (Ext.refl wr) (.cells #[.bool x.c.neg, .slice a1 x.c.mag.length c1, .slice a2 x.m.length c2] 104)).cell g2
        have m3' := (Ext.alloc (Ext.refl wr) (.cells #[.bool x.c.neg, .slice a1 x.c.mag.length c1, .slice a2 x.m.length c2] 104)).cell g3
        clear h4 h5 g4 g5 hxk hyk hx n1
        by_cases he : x = y
        · have H0 := hid he
          have hd : decide (x = y) = true := decide_eq_true he
          have HCT := HC
          simp only [hd] at HCT
          have HCC := hid HCT.out
          clear he hd HCT
          go_wp2_with fail
          with_reducible refine (HCC.out _ HX2.out).mono ?_
          rintro e w2 ⟨rfl, hx2⟩
          have HX3 := hid (HX.out.trans (HX2.out.trans hx2))
          clear hx2
          go_wp2
          go_roundw
          case rel => exact ⟨k + 1, by omega, by go_num, HX3.out, take_eq_succ HE.out HXK.out (by rw [H0.out]; exact HYK.out)⟩
          case measure => simp only [intOf]; omega
        · have HF : Hid (xs ≠ ys) := hid (ne_of_at HXK.out HYK.out he)
          have hd : decide (x = y) = false := decide_eq_false he
          have HCT := HC
          simp only [hd] at HCT
          have HCC := hid HCT.out
          clear he hd HCT
          go_wp2_with fail
          with_reducible refine (HCC.out _ HX2.out).mono ?_
          rintro e w2 ⟨rfl, hx2⟩
          have HX3 := hid (HX.out.trans (HX2.out.trans hx2))
          clear hx2
          go_wp2
          go_ret
          exact ⟨by rw [decide_eq_false HF.out]; rfl, HX3.out⟩
      · obtain rfl : k = na := by omega
        have HF : Hid (xs = ys) := hid (by have := HE.out; rwa [List.take_of_length_le (by rw [← HNA.out]; exact Nat.le_refl _), List.take_of_length_le (by rw [← HNB.out]; exact Nat.le_refl _)] at this)
        clear hx
        go_wp2
        go_ret
        exact ⟨by rw [decide_eq_true HF.out]; rfl, HX.out⟩
  · have hb : ((na : Int) != (nb : Int)) = true := by rw [bne_iff_ne]; omega
    have HF : Hid (xs ≠ ys) := hid (fun e => hne (by rw [HNA.out, HNB.out, e]))
    clear hne
    go_enter Tryz.func85, Tryz.ntmps85
    go_wp2
    go_ret
    exact ⟨by rw [decide_eq_false HF.out]; rfl, Ext.refl _⟩

set_option maxRecDepth 100000 in
theorem poly_same {S : Nat → Prop} (va vb : Value) (xs ys : List RTerm) (w : World) (ha : Terms S w va xs) (hb : Terms S w vb ys) (hS : ∀ k, S k → k < w.heap.size) :
    Calls Tryz.prog 29 #[va, vb] w fun e w' => e = .returned (.bool (decide (xs = ys))) ∧ Ext w w' := by
  have C := hid (equal_terms va vb xs ys w ha hb hS)
  obtain ⟨aa, ca, rfl⟩ := ha.form
  obtain ⟨ab, cb, rfl⟩ := hb.form
  generalize decide (xs = ys) = b at *
  clear ha hb
  go_enter Tryz.func29, Tryz.ntmps29
  go_wp2_with fail
  with_reducible refine C.out.mono ?_
  rintro e w2 ⟨rfl, hx2⟩
  have HX := hid hx2
  clear hx2
  go_wp2
  go_ret
  exact ⟨rfl, HX.out⟩
end Go.Proofs.YtcpfeepnfodifaaGreat

namespace Go.Proofs.YtcpfeepnfodifaaGreat
open Go.RowKit

/-- a canonical polynomial of at most n terms, of at most k limbs each -/
def Fit (k n : Nat) (p : PZ) : Prop := canP p ∧ bndZ k p ∧ p.length ≤ n
/-- it lies in memory -/
abbrev PV (W : World) (v : Value) (p : PZ) : Prop := Terms (Old W) W v (ofP p)

section
variable {k l n m : Nat} {p q : PZ}
theorem Fit.can (h : Fit k n p) : canP p := h.1
theorem Fit.mono (h : Fit k n p) (hk : k ≤ l) (hn : n ≤ m) : Fit l m p := ⟨h.1, h.2.1.mono hk, Nat.le_trans h.2.2 hn⟩
theorem Fit.lens (h : Fit k n p) : ∀ t ∈ ofP p, t.c.mag.length ≤ k := bnd_lens h.2.1
theorem Fit.small (h : Fit k n p) (hk : k ≤ 1000000) : smallT (ofP p) := small_bnd h.2.1 (by omega)
theorem Fit.may (h : Fit k n p) : mayT (ofP p) = true := mayT_ofP h.1
theorem Fit.plain (h : Fit k n p) : plainP (ofP p) = p := plainP_ofP h.1
theorem Fit.len (h : Fit k n p) : (ofP p).length ≤ n := by rw [ofP_len]; exact h.2.2
theorem fit_nil : Fit 0 0 [] := ⟨canP_nil, fun t ht => by simp at ht, by simp⟩
theorem filterMap_len {α β : Type} (f : α → Option β) (l : List α) : (l.filterMap f).length ≤ l.length := List.length_filterMap_le _ _
theorem Fit.init (h : Fit k n p) : Fit k n (initP p) := ⟨initP_can h.1, bnd_init h.2.1, by
  unfold initP
  split
  · exact h.2.2
  · exact Nat.le_trans (filterMap_len _ _) h.2.2⟩
theorem Fit.coef (h : Fit k n p) (v e : Int) : Fit k n (coefP p v e) := ⟨coefP_can h.1 v e, bnd_coef h.2.1 v e, Nat.le_trans (filterMap_len _ _) h.2.2⟩
theorem Fit.tail (h : Fit k n p) : Fit k n (tailP p) := ⟨tailP_can h.1, bnd_tail h.2.1, Nat.le_trans (filterMap_len _ _) h.2.2⟩
theorem Fit.der (h : Fit k n p) (v : Int) : Fit (k + 1) n (derP p v) := ⟨derP_can h.1 v, bnd_der h.1.may h.2.1 v, Nat.le_trans (filterMap_len _ _) h.2.2⟩
theorem addP_len (p l : PZ) : (addP p l).length ≤ p.length + l.length := by
  unfold addP
  induction l generalizing p with
  | nil => simp
  | cons t r ih =>
    rw [List.foldl_cons]
    have h1 := ih (putP p t.1 t.2)
    have h2 := putP_len p t.1 t.2
    simp only [List.length_cons]
    omega
theorem normP_len (p : PZ) : (normP p).length ≤ p.length := by
  have := addP_len [] p
  rw [List.length_nil, Nat.zero_add] at this
  exact this
theorem may_append (hp : mayAll p) (hq : mayAll q) : mayAll (p ++ q) := fun t ht => by
  rcases List.mem_append.1 ht with g | g
  · exact hp t g
  · exact hq t g
theorem Fit.add (hp : Fit k n p) (hq : Fit k m q) (hn : n + m ≤ 1000000000000) : Fit (k + 2) (n + m) (normP (p ++ q)) := by
  have hm := may_append hp.1.may hq.1.may
  have hl : (p ++ q).length ≤ n + m := by rw [List.length_append]; have := hp.2.2; have := hq.2.2; omega
  exact ⟨norm_can hm, normP_bnd hm (hp.2.1.append hq.2.1) (by show _ < 4294967296 ^ 2; omega), Nat.le_trans (normP_len _) hl⟩
theorem mulL_len (p q : PZ) : (mulL p q).length = p.length * q.length := by
  unfold mulL
  induction p with
  | nil => simp
  | cons t r ih => rw [List.flatMap_cons, List.length_append, ih, List.length_map, List.length_cons, Nat.add_mul]; omega
theorem mulL_bnd (hp : bndZ k p) (hq : bndZ l q) : bndZ (k + l) (mulL p q) := fun x hx => by
  obtain ⟨t, ht, u, hu, rfl⟩ := mulL_mem hx
  exact lenI_mono (lenI_prod (lenI_lt (hp t ht)) (lenI_lt (hq u hu))) (Nat.le_refl _)
theorem Fit.times {c : PZ} (hp : Fit k n p) (hq : Fit l m q) (h : timesP p q = some c) (hn : n * m ≤ 1000000000000) : Fit (k + l + 2) (n * m) c := by
  obtain ⟨hm, rfl⟩ := times_some hp.1.may hq.1.may h
  have hl : (mulL p q).length ≤ n * m := by rw [mulL_len]; exact Nat.mul_le_mul hp.2.2 hq.2.2
  exact ⟨norm_can hm, normP_bnd hm (mulL_bnd hp.2.1 hq.2.1) (by show _ < 4294967296 ^ 2; omega), Nat.le_trans (normP_len _) hl⟩
end

theorem b32_ten (k : Nat) : B32 ^ k < 10 ^ (10 * k + 1) := by
  have h1 : B32 ^ k ≤ (10 ^ 10) ^ k := Nat.pow_le_pow_left (by unfold B32; decide) k
  rw [← Nat.pow_mul] at h1
  exact Nat.lt_of_le_of_lt h1 (Nat.pow_lt_pow_right (by decide) (Nat.lt_succ_self _))
theorem fit_sz {k n : Nat} {p : PZ} (h : Fit k n p) (hk : k ≤ 100000) (hn : n ≤ 1000000) : szP p :=
  ⟨Nat.le_trans h.2.2 (by omega), fun t ht => szZ_le (n := 10 * k + 1) (Nat.lt_trans (h.2.1 t ht) (b32_ten k)) (by omega)⟩
theorem fit_take {k n : Nat} {p : PZ} (h : Fit k n p) (j : Nat) : Fit k n (p.take j) := ⟨canP_sub h.1 (List.take_sublist _ _), fun t ht => h.2.1 t (List.mem_of_mem_take ht), Nat.le_trans (by rw [List.length_take]; exact Nat.min_le_right _ _) h.2.2⟩

set_option maxRecDepth 100000 in
set_option maxHeartbeats 4000000 in
theorem poly_times_no {S : Nat → Prop} (vp vq : Value) (ps qs : List RTerm) (w : World) (hp : Terms S w vp ps) (hq : Terms S w vq qs) (hS : ∀ k, S k → k < w.heap.size) (hm : (mayT ps && mayT qs) = false) (hrp : smallT ps) (hrq : smallT qs) :
    Calls Tryz.prog 27 #[vp, vq] w (ErrPoly w 2) := by
  have hnot : ∀ (x : Bool) (w : World), (Op.unary .not (.bool x)).run Tryz.prog w = .ok (.bool (!x)) w := fun _ _ => rfl
  unfold ErrPoly
  have CA := poly_all (S := fun k => S k ∨ k = w.heap.size) _ [ps, qs] (w.alloc (.cells #[vp, vq] 23)) (two_polys hp hq hS 23) (two_lt hS _) (fun p hp => by
    rcases List.mem_cons.1 hp with rfl | hp
    · exact hrp
    · rw [List.mem_singleton.1 hp]; exact hrq)
  rw [show [ps, qs].all mayT = false by simpa using hm] at CA
  obtain ⟨ap, cp, rfl⟩ := hp.form
  obtain ⟨aq, cq, rfl⟩ := hq.form
  have HCA := hid CA
  clear hp hq hm CA
  go_enter Tryz.func27, Tryz.ntmps27
  go_wp2_with fail
  with_reducible refine HCA.out.mono ?_
  rintro e w1 ⟨rfl, hx1⟩
  have HX1 := hid ((Ext.alloc (Ext.refl w) _).trans hx1)
  clear hx1
  go_wp2
  all_goals
    go_ret2
    exact ⟨rfl, HX1.out⟩
/-- an argument that may be -/
theorem pv_of {w : World} {v : Value} {ps : List RTerm} (h : Terms (Old w) w v ps) (hm : mayT ps = true) : ps = ofP (plainP ps) := by
  unfold plainP
  rw [if_pos hm]
  exact (mayT_of h.okT hm).symm
theorem fit_plain {ps : List RTerm} {k n : Nat} (hok : okT ps) (h : ∀ t ∈ ps, t.c.mag.length ≤ k) (hn : ps.length ≤ n) : Fit k n (plainP ps) := ⟨plainP_can ps, bnd_plain hok h, Nat.le_trans (plain_len ps) hn⟩

section
variable {W : World} {u v : Value} {p q : PZ} {k l n m : Nat}
theorem z_times (hp : PV W u p) (hq : PV W v q) (fp : Fit k n p) (fq : Fit l m q) (hc : k < 24 ∨ l < 24) (hk : k ≤ 1000000) (hl : l ≤ 1000000) (hnm : n * m ≤ 1000000000000) :
    Calls Tryz.prog 27 #[u, v] W (TimesPost W (timesP p q)) := by
  have h := poly_times u v _ _ W 1000000 hp hq (fun _ h => h) fp.may fq.may (fun t ht => Nat.le_trans (fp.lens t ht) hk) (fun t ht => Nat.le_trans (fq.lens t ht) hl) (by decide)
    (hc.imp (fun h t ht => by
      obtain ⟨x, hx, rfl⟩ := List.mem_map.1 ht
      show lenI (valI (ofI x.1)) < 24
      rw [valI_ofI]
      exact Nat.lt_of_le_of_lt (lenI_lt (fp.2.1 x hx)) h) (fun h t ht => by
      obtain ⟨x, hx, rfl⟩ := List.mem_map.1 ht
      show lenI (valI (ofI x.1)) < 24
      rw [valI_ofI]
      exact Nat.lt_of_le_of_lt (lenI_lt (fq.2.1 x hx)) h))
    (Nat.le_trans (Nat.mul_le_mul fp.len fq.len) hnm)
  rwa [toP_ofP, toP_ofP] at h
theorem z_add (hp : PV W u p) (hq : PV W v q) (fp : Fit k n p) (fq : Fit l m q) (hk : k ≤ 1000000) (hl : l ≤ 1000000) (hn : n + m ≤ 1000000000000) :
    Calls Tryz.prog 28 #[u, v] W (OkPoly W (normP (p ++ q))) := by
  have h := poly_add u v _ _ W 1000000 hp hq (fun _ h => h) fp.may fq.may (fun t ht => Nat.le_trans (fp.lens t ht) hk) (fun t ht => Nat.le_trans (fq.lens t ht) hl) (by decide) (by have := fp.len; have := fq.len; omega)
  rwa [toP_ofP, toP_ofP] at h
theorem z_same (hp : PV W u p) (hq : PV W v q) : Calls Tryz.prog 29 #[u, v] W fun e w' => e = .returned (.bool (decide (p = q))) ∧ Ext W w' := by
  have h := poly_same u v _ _ W hp hq (fun _ h => h)
  have e : decide (ofP p = ofP q) = decide (p = q) := by
    by_cases g : p = q
    · rw [decide_eq_true g, decide_eq_true (congrArg ofP g)]
    · rw [decide_eq_false g, decide_eq_false (fun e => g (by rw [← toP_ofP p, e, toP_ofP]))]
  rwa [e] at h
theorem z_class (hp : PV W u p) (fp : Fit k n p) (hk : k ≤ 1000000) : Calls Tryz.prog 95 #[u] W fun e w' => e = .returned (.int .i64 (leadP p)) ∧ Ext W w' := by
  have h := view_class u _ W hp (fun _ h => h) (fp.small hk)
  rwa [fp.plain] at h
theorem z_degree (hp : PV W u p) (fp : Fit k n p) (hk : k ≤ 1000000) {x : Int} (hx : inI64 x) : Calls Tryz.prog 24 #[u, .int .i64 x] W fun e w' => e = .returned (.int .i64 (degP p x)) ∧ Ext W w' := by
  have h := view_degree u _ x W hp (fun _ h => h) (fp.small hk) hx
  rwa [fp.plain] at h
theorem z_initial (hp : PV W u p) (fp : Fit k n p) (hk : k ≤ 1000000) (hn : n ≤ 1000000000000) : Calls Tryz.prog 49 #[u] W fun e w' => ∃ v', e = .returned v' ∧ Terms (New W w') w' v' (ofP (initP p)) ∧ Ext W w' := by
  have h := view_initial u _ W hp (fun _ h => h) (fp.small hk) (Nat.le_trans fp.len hn)
  rwa [fp.plain] at h
theorem z_coef (hp : PV W u p) (fp : Fit k n p) (hk : k ≤ 1000000) (hn : n ≤ 1000000000000) {x d : Int} (hx : 1 ≤ x ∧ x ≤ 200) (hd : inI64 d) : Calls Tryz.prog 26 #[u, .int .i64 x, .int .i64 d] W fun e w' => ∃ v', e = .returned v' ∧ Terms (New W w') w' v' (ofP (coefP p x d)) ∧ Ext W w' := by
  have h := view_coefficient u _ x d W hp (fun _ h => h) (fp.small hk) (Nat.le_trans fp.len hn) hx hd
  rwa [fp.plain] at h
theorem z_may (hp : PV W u p) (fp : Fit k n p) (hk : k ≤ 1000000) : Calls Tryz.prog 74 #[u] W fun e w' => e = .returned (.bool true) ∧ Ext W w' := by
  have h := poly_may u _ W hp (fun _ h => h) (fp.small hk)
  rwa [fp.may] at h
end
end Go.Proofs.YtcpfeepnfodifaaGreat

namespace Go.Proofs.YtcpfeepnfodifaaGreat

/-- a variable's power, as a polynomial -/
def powP (v : Int) (i : Nat) : PZ := if i = 0 then [(1, [])] else [(1, [(v, (i : Int))])]
def buildF (v : Int) : PZ → Nat → List PZ → Option PZ
  | acc, _, [] => some acc
  | acc, i, q :: r => match timesP q (powP v i) with
    | none => none
    | some x => buildF v (normP (acc ++ x)) (i + 1) r
def buildP (l : List PZ) (v : Int) : Option PZ := buildF v [] 0 l
def coefsP (p : PZ) (v : Int) : List PZ := if p = [] then [] else (List.range ((degP p v).toNat + 1)).map fun e => coefP p v (e : Nat)

theorem mulL_one (p : PZ) (c : Int) (m : Mono) : mulL p [(c, m)] = p.map fun t => (t.1 * c, timesM t.2 m) := by
  unfold mulL
  induction p with
  | nil => rfl
  | cons t r ih => rw [List.flatMap_cons, ih]; rfl
theorem pow_may {v : Int} (hv : 1 ≤ v ∧ v ≤ 200) {i : Nat} (hi : i ≤ 10000) : mayAll (powP v i) := by
  intro t ht
  unfold powP at ht
  split at ht
  · rw [List.mem_singleton.1 ht]; rfl
  · rw [List.mem_singleton.1 ht]; exact one_may hv (by omega)
theorem pow_can {v : Int} (hv : 1 ≤ v ∧ v ≤ 200) {i : Nat} (hi : i ≤ 10000) : canP (powP v i) := by
  refine ⟨fun t ht => ⟨?_, pow_may hv hi t ht⟩, ?_⟩
  · unfold powP at ht
    split at ht
    · rw [List.mem_singleton.1 ht]; show (1 : Int) ≠ 0; decide
    · rw [List.mem_singleton.1 ht]; show (1 : Int) ≠ 0; decide
  · unfold powP
    split <;> exact List.pairwise_singleton _ _
theorem fit_pow {v : Int} (hv : 1 ≤ v ∧ v ≤ 200) {i : Nat} (hi : i ≤ 10000) : Fit 1 1 (powP v i) := by
  refine ⟨pow_can hv hi, fun t ht => ?_, ?_⟩
  · unfold powP at ht
    split at ht
    · rw [List.mem_singleton.1 ht]; show (1 : Int).natAbs < _; decide
    · rw [List.mem_singleton.1 ht]; show (1 : Int).natAbs < _; decide
  · unfold powP
    split <;> exact Nat.le_refl _
/-- the terms of one exponent -/
def partP (p : PZ) (v : Int) (i : Int) : PZ := p.filter fun t => decide (ex t.2 v = i)
theorem part_can {p : PZ} (h : canP p) (v i : Int) : canP (partP p v i) := canP_sub h List.filter_sublist
theorem put_back {m : Mono} (h : mayM m = true) {v : Int} {i : Nat} (hv : 1 ≤ v ∧ v ≤ 200) (he : ex m v = (i : Int)) (hi : i ≠ 0) : timesM (withoutM m v) [(v, (i : Int))] = m := by
  have h1 := mayM_without h v
  have h3 := ex_range h v
  have h2 : mayM [(v, (i : Int))] = true := one_may hv (by omega)
  have h4 : mayM (timesM (withoutM m v) [(v, (i : Int))]) = true := may_of_le (times_ok (may_ok h1) (may_ok h2)) h (fun u => by
    rw [times_ex h1 h2, ex_without, ex_one]
    have := ex_nonneg h u
    by_cases hu : u = v
    · subst hu; rw [if_pos rfl, if_pos rfl]; omega
    · rw [if_neg hu, if_neg (fun e => hu e.symm)]; omega)
  refine mayM_ext' h4 h (fun u => ?_)
  rw [times_ex h1 h2, ex_without, ex_one]
  by_cases hu : u = v
  · subst hu; rw [if_pos rfl, if_pos rfl]; omega
  · rw [if_neg hu, if_neg (fun e => hu e.symm)]; omega
theorem without_zero {m : Mono} (h : mayM m = true) {v : Int} (he : ex m v = 0) : withoutM m v = m := by
  refine mayM_ext' (mayM_without h v) h (fun u => ?_)
  rw [ex_without]
  by_cases hu : u = v
  · subst hu; rw [if_pos rfl, he]
  · rw [if_neg hu]
theorem part_mul {p : PZ} (h : canP p) {v : Int} (hv : 1 ≤ v ∧ v ≤ 200) (i : Nat) : mulL (coefP p v (i : Int)) (powP v i) = partP p v (i : Int) := by
  have hm := h.may
  clear h
  unfold coefP partP powP
  by_cases hi : i = 0
  · rw [if_pos hi, mulL_one]
    induction p with
    | nil => rfl
    | cons t r ih =>
      have hr := ih (fun u hu => hm u (by simp [hu]))
      have ht := hm t (by simp)
      by_cases he : ex t.2 v = (i : Int)
      · rw [List.filterMap_cons, List.filter_cons_of_pos (by simpa using he), show coefF v (i : Int) t = some (t.1, withoutM t.2 v) from if_pos he]
        simp only [List.map_cons]
        rw [hr, without_zero ht (by omega), times_one_right (may_ok ht), Int.mul_one]
      · rw [List.filterMap_cons, List.filter_cons_of_neg (by simpa using he), show coefF v (i : Int) t = none from if_neg he]
        exact hr
  · rw [if_neg hi, mulL_one]
    induction p with
    | nil => rfl
    | cons t r ih =>
      have hr := ih (fun u hu => hm u (by simp [hu]))
      have ht := hm t (by simp)
      by_cases he : ex t.2 v = (i : Int)
      · rw [List.filterMap_cons, List.filter_cons_of_pos (by simpa using he), show coefF v (i : Int) t = some (t.1, withoutM t.2 v) from if_pos he]
        simp only [List.map_cons]
        rw [hr, put_back ht hv he hi, Int.mul_one]
      · rw [List.filterMap_cons, List.filter_cons_of_neg (by simpa using he), show coefF v (i : Int) t = none from if_neg he]
        exact hr
theorem part_times {p : PZ} (h : canP p) {v : Int} (hv : 1 ≤ v ∧ v ≤ 200) {i : Nat} (hi : i ≤ 10000) : timesP (coefP p v (i : Int)) (powP v i) = some (partP p v (i : Int)) := by
  have h1 := part_can h v (i : Int)
  have h2 := times_norm (coefP_can h v (i : Int)).may (pow_may hv hi) (by rw [part_mul h hv]; exact h1.may)
  rw [part_mul h hv, normP_of_can h1] at h2
  exact h2
/-- the terms of lower exponents -/
def lowP (p : PZ) (v : Int) (i : Int) : PZ := p.filter fun t => decide (ex t.2 v < i)
theorem low_can {p : PZ} (h : canP p) (v i : Int) : canP (lowP p v i) := canP_sub h List.filter_sublist
theorem ev_filter2 (f : Mono → Int) (p : PZ) (s : Int × Mono → Bool) : ev f (p.filter s) = (p.map fun t => if s t then t.1 * f t.2 else 0).sum := by
  induction p with
  | nil => rfl
  | cons t r ih =>
    cases hs : s t with
    | true => rw [List.filter_cons_of_pos hs, ev, ih, List.map_cons, List.sum_cons, hs]; rfl
    | false => rw [List.filter_cons_of_neg (by simp [hs]), ih, List.map_cons, List.sum_cons, hs]; simp
theorem join_eqv (p : PZ) (a b c : Int × Mono → Bool) (h : ∀ t ∈ p, c t = (a t || b t)) (hd : ∀ t ∈ p, (a t && b t) = false) : Eqv (p.filter a ++ p.filter b) (p.filter c) := fun f => by
  rw [ev_append]
  induction p with
  | nil => rfl
  | cons t r ih =>
    have h1 := h t (by simp)
    have h2 := hd t (by simp)
    have h3 := ih (fun u hu => h u (by simp [hu])) (fun u hu => hd u (by simp [hu]))
    cases ha : a t with
    | true =>
      have hb : b t = false := by simpa [ha] using h2
      rw [ha, hb] at h1
      rw [List.filter_cons_of_pos ha, List.filter_cons_of_neg (by simp [hb]), List.filter_cons_of_pos (by simpa using h1), ev, ev, ← h3]
      omega
    | false =>
      cases hb : b t with
      | true =>
        rw [ha, hb] at h1
        rw [List.filter_cons_of_neg (by simp [ha]), List.filter_cons_of_pos hb, List.filter_cons_of_pos (by simpa using h1), ev, ev, ← h3]
        omega
      | false =>
        rw [ha, hb] at h1
        rw [List.filter_cons_of_neg (by simp [ha]), List.filter_cons_of_neg (by simp [hb]), List.filter_cons_of_neg (by simp [h1]), ← h3]
theorem low_next {p : PZ} (h : canP p) (v i : Int) : normP (lowP p v i ++ partP p v i) = lowP p v (i + 1) := by
  refine norm_eq (may_append (low_can h v i).may (part_can h v i).may) (low_can h v (i + 1)) ?_
  refine join_eqv p _ _ _ (fun t _ => ?_) (fun t _ => ?_)
  · rw [← Bool.decide_or, decide_eq_decide]
    omega
  · rw [← Bool.decide_and, decide_eq_false_iff_not]
    omega
theorem low_zero {p : PZ} (h : canP p) (v : Int) : lowP p v 0 = [] := by
  refine List.filter_eq_nil_iff.2 (fun t ht => ?_)
  have := ex_nonneg (h.1 t ht).2 v
  simp
  omega
theorem low_all {p : PZ} (v : Int) {i : Int} (hi : degP p v < i) : lowP p v i = p := by
  refine List.filter_eq_self.2 (fun t ht => ?_)
  have := degP_le_mem ht v
  simp
  omega
theorem build_steps {p : PZ} (h : canP p) {v : Int} (hv : 1 ≤ v ∧ v ≤ 200) (n i : Nat) (hn : i + n ≤ 10001) : buildF v (lowP p v (i : Int)) i ((List.range' i n).map fun e => coefP p v (e : Nat)) = some (lowP p v ((i + n : Nat) : Int)) := by
  induction n generalizing i with
  | zero => rfl
  | succ n ih =>
    rw [List.range'_succ, List.map_cons, buildF, part_times h hv (by omega)]
    simp only
    rw [low_next h v, show (i : Int) + 1 = ((i + 1 : Nat) : Int) by omega, ih (i + 1) (by omega)]
    congr 3
    omega
theorem build_back {p : PZ} (h : canP p) {v : Int} (hv : 1 ≤ v ∧ v ≤ 200) : buildP (coefsP p v) v = some p := by
  have hr := degP_range h.may v
  unfold buildP coefsP
  by_cases hp : p = []
  · rw [if_pos hp, hp]; rfl
  · rw [if_neg hp, List.range_eq_range']
    have h1 := build_steps h hv ((degP p v).toNat + 1) 0 (by omega)
    rw [show ((0 : Nat) : Int) = 0 from rfl, low_zero h v] at h1
    rw [h1, low_all v (by omega)]
/-- initial and tail give the polynomial -/
theorem init_part {p : PZ} (h0 : 0 < leadP p) : initP p = coefP p (leadP p) (degP p (leadP p)) := by unfold initP; rw [if_neg (by omega)]
theorem tail_low (p : PZ) : tailP p = lowP p (leadP p) (degP p (leadP p)) := by
  unfold tailP lowP
  induction p with
  | nil => rfl
  | cons t r ih =>
    generalize leadP (t :: r) = v
    generalize degP (t :: r) v = d
    clear ih
    induction (t :: r) with
    | nil => rfl
    | cons u s ih2 =>
      by_cases h : ex u.2 v < d
      · rw [List.filterMap_cons, List.filter_cons_of_pos (by simpa using h), show tailF v d u = some u from if_pos h, ih2]
      · rw [List.filterMap_cons, List.filter_cons_of_neg (by simpa using h), show tailF v d u = none from if_neg h, ih2]
theorem init_back {p : PZ} (h : canP p) (h0 : 0 < leadP p) : ∃ y, timesP (initP p) [(1, [(leadP p, degP p (leadP p))])] = some y ∧ normP (y ++ tailP p) = p := by
  have hl := leadP_range h
  have hd := deg_lead_pos h h0
  have hr := degP_range h.may (leadP p)
  obtain ⟨i, hi⟩ : ∃ i : Nat, (i : Int) = degP p (leadP p) := ⟨(degP p (leadP p)).toNat, by omega⟩
  have h1 := part_times h (v := leadP p) (by omega) (i := i) (by omega)
  have e : powP (leadP p) i = [(1, [(leadP p, (i : Int))])] := by unfold powP; rw [if_neg (by omega)]
  rw [e] at h1
  refine ⟨_, by rw [init_part h0, ← hi]; exact h1, ?_⟩
  rw [tail_low, ← hi]
  have h2 : normP (lowP p (leadP p) (i : Int) ++ partP p (leadP p) (i : Int)) = p := by
    rw [low_next h, low_all _ (by omega)]
  rw [← h2]
  have ha := (low_can h (leadP p) (i : Int)).may
  have hb := (part_can h (leadP p) (i : Int)).may
  rw [h2]
  conv => rhs; rw [← h2]
  exact norm_congr (may_append hb ha) (may_append ha hb) (fun f => by rw [ev_append, ev_append]; omega)
theorem init_ne {p : PZ} (h : canP p) (h0 : 0 < leadP p) : initP p ≠ [] := by
  rw [init_part h0]
  exact coef_top_ne h.may (fun e => by rw [e] at h0; simp [leadP] at h0) _
theorem tail_none {p : PZ} (h : canP p) (h0 : leadP p = 0) : tailP p = [] := by
  rw [tail_low, h0, degP_zero h.may (Int.le_refl _)]
  exact low_zero h 0
end Go.Proofs.YtcpfeepnfodifaaGreat

namespace Go.Proofs.YtcpfeepnfodifaaGreat
open Go.RowKit

theorem num_one (x : Int) : numP 1 = powP x 0 := rfl
/-- one term in a block of its own -/
theorem rts_one {S : Nat → Prop} {w : World} {T : TypeId} {vd vo : Value} {c : Int} {m : Mono} (hS : ∀ k, S k → k < w.heap.size) (hd : Digs S w vd (rep 10 c.natAbs)) (hm : Pows S w vo m) :
    RTs (fun k => S k ∨ k = w.heap.size) (w.alloc (.cells #[.bool (decide (c < 0)), vd, vo] T)) (.slice (some ⟨w.heap.size, 0, none⟩) 1 1) [(c, m)] := by
  have x2 : Ext w (w.alloc (.cells #[.bool (decide (c < 0)), vd, vo] T)) := Ext.alloc (Ext.refl w) _
  refine ⟨w.heap.size, 0, ⟨_, 1, rfl, Nat.le_refl _, by decide, fun _ => rfl, fun _ => .inr rfl⟩, fun j t hj => ?_⟩
  have hj0 : j = 0 := by have := lt_of_some hj; simp at this; exact this
  subst hj0
  obtain rfl : (c, m) = t := by simpa using hj
  exact ⟨vd, vo, cell_new _ _ _ rfl rfl, cell_new _ _ _ rfl rfl, cell_new _ _ _ rfl rfl, hd.to (Kept.ext x2 hS) (fun _ h => .inl h), hm.to (Kept.ext x2 hS) (fun _ h => .inl h)⟩

set_option maxRecDepth 100000 in
set_option maxHeartbeats 4000000 in
theorem rview_power (x : Int) (i : Nat) (w : World) (hx : inI64 x) (hi : i ≤ 10000) :
    Calls Tryz.prog 66 #[.int .i64 x, .int .i64 (i : Nat)] w fun e w' => ∃ v', e = .returned v' ∧ RTs (New w w') w' v' (powP x i) ∧ Ext w w' := by
  have C1 := hid (zed_small 1 w (by omega))
  have C0 := hid (rpoly_small 1 w (by omega))
  have HXX := hid hx
  clear hx
  by_cases h0 : i = 0
  · subst h0
    go_enter Tryz.func66, Tryz.ntmps66
    go_wp2_with fail
    refine C0.out.mono ?_
    rintro e w1 ⟨v1, rfl, hp1, hx1⟩
    rw [num_one x] at hp1
    have HP1 := hid hp1
    have HX1 := hid hx1
    clear hp1 hx1
    go_wp2
    all_goals
      go_ret
      exact ⟨_, rfl, HP1.out, HX1.out⟩
  · have hin : Hid (inI64 (i : Int)) := hid (by unfold inI64; omega)
    have hib : ((i : Int) == 0) = false := by rw [beq_eq_false_iff_ne]; omega
    have HPW : Hid (powP x i = [(1, [(x, (i : Int))])]) := hid (by unfold powP; rw [if_neg h0])
    go_enter Tryz.func66, Tryz.ntmps66
    go_wp2_with fail
    refine C1.out.mono ?_
    rintro e w1 ⟨v1, rfl, hz1, hx1⟩
    obtain ⟨vd, rfl, hd⟩ := hz1
    have HX1 := hid hx1
    have HD := hid hd
    obtain ⟨ad, cd, rfl⟩ := hd.form
    obtain ⟨nd, hnd⟩ : ∃ n, n = (rep 10 ((1 : Nat) : Int).natAbs).length := ⟨_, rfl⟩
    obtain ⟨bd, hbd⟩ : ∃ b, b = decide (((1 : Nat) : Int) < 0) := ⟨_, rfl⟩
    rw [← hnd] at HD ⊢
    rw [← hbd]
    have HB := hid hbd
    clear hx1 hd hnd hbd
    go_wp2
    go_ret
    have x1 : Ext w1 (w1.alloc (.cells #[.int .i64 x, .int .i64 (i : Nat)] 106)) := Ext.alloc (Ext.refl w1) _
    have hb : (w1.alloc (.cells #[.int .i64 x, .int .i64 (i : Nat)] 106)).heap.size = w1.heap.size + 1 := size_alloc _ _
    have hm : Pows (New w (w1.alloc (.cells #[.int .i64 x, .int .i64 (i : Nat)] 106))) (w1.alloc (.cells #[.int .i64 x, .int .i64 (i : Nat)] 106)) (.slice (some ⟨w1.heap.size, 0, none⟩) 1 1) [(x, (i : Int))] := by
      refine ⟨w1.heap.size, 0, ⟨_, 1, rfl, Nat.le_refl _, by decide, fun _ => rfl, fun _ => ⟨HX1.out.size, by rw [hb] <;> omega⟩⟩, fun j t hj => ?_⟩
      have hj0 : j = 0 := by have := lt_of_some hj; simp at this; exact this
      subst hj0
      obtain rfl : (x, (i : Int)) = t := by simpa using hj
      exact ⟨⟨HXX.out, hin.out⟩, cell_new _ _ _ rfl rfl, cell_new _ _ _ rfl rfl⟩
    have hone := rts_one (S := New w (w1.alloc (.cells #[.int .i64 x, .int .i64 (i : Nat)] 106))) (T := 123) (c := 1) (fun k hk => hk.2) (HD.out.to (Kept.ext x1 (fun _ h => h.2)) (fun k h => ⟨h.1, Nat.lt_of_lt_of_le h.2 x1.size⟩)) hm
    rw [HPW.out, HB.out]
    refine ⟨_, rfl, ?_, (HX1.out.trans x1).trans (Ext.alloc (Ext.refl _) _)⟩
    refine RTs.to (w := _) ?_ (Kept.refl _ _) (fun k hk => ?_) (S := fun k => New w (w1.alloc (.cells #[.int .i64 x, .int .i64 (i : Nat)] 106)) k ∨ k = w1.heap.size + 1)
    · rw [hb] at hone
      exact hone
    · unfold New
      simp only [size_alloc]
      rcases hk with h | rfl
      · have h2 := h.2
        rw [hb] at h2
        exact ⟨h.1, Nat.lt_succ_of_lt h2⟩
      · exact ⟨Nat.le_succ_of_le HX1.out.size, Nat.lt_succ_self _⟩

theorem coef_yes {p : PZ} (h : canP p) {k : Nat} {t : Int × Mono} {x d : Int} (ht : p[k]? = some t) (hd : ex t.2 x = d) : addP (coefP (p.take k) x d) [(t.1, withoutM t.2 x)] = coefP (p.take (k + 1)) x d := by
  have hc := coefP_can (canP_sub h (List.take_sublist k p)) x d
  have hc' := coefP_can (canP_sub h (List.take_sublist (k + 1) p)) x d
  have e : coefP (p.take (k + 1)) x d = coefP (p.take k) x d ++ [(t.1, withoutM t.2 x)] := by
    unfold coefP
    rw [List.take_add_one, ht, List.filterMap_append]
    simp [coefF, hd]
  have hm : mayAll [(t.1, withoutM t.2 x)] := fun u hu => by
    obtain rfl := List.mem_singleton.1 hu
    exact mayM_without (h.may t (List.mem_of_getElem? ht)) x
  rw [addP_eq hc hm, ← e, normP_of_can hc']
theorem coef_no {p : PZ} {k : Nat} {t : Int × Mono} {x d : Int} (ht : p[k]? = some t) (hd : ex t.2 x ≠ d) : coefP (p.take (k + 1)) x d = coefP (p.take k) x d := by
  unfold coefP
  rw [List.take_add_one, ht, List.filterMap_append]
  simp [coefF, hd]
theorem coefP_sz {p : PZ} (h : szP p) (x d : Int) : szP (coefP p x d) := ⟨Nat.le_trans (List.length_filterMap_le _ _) h.1, fun u hu => by
  obtain ⟨t, ht, _, rfl⟩ := coefP_mem hu
  exact h.2 t ht⟩

set_option maxRecDepth 100000 in
set_option maxHeartbeats 8000000 in
theorem rview_coefficient {S : Nat → Prop} (v : Value) (p : PZ) (x d : Int) (w : World) (h : RTs S w v p) (hS : ∀ k, S k → k < w.heap.size) (hc : canP p) (hsz : szP p) (hx : 1 ≤ x ∧ x ≤ 200) (hd : -9223372036854775808 ≤ d ∧ d ≤ 9223372036854775807) :
    Calls Tryz.prog 112 #[v, .int .i64 x, .int .i64 d] w fun e w' => ∃ v', e = .returned v' ∧ RTs (Plus S w w') w' v' (coefP p x d) ∧ Ext w w' := by
  have hl := h.len_le
  have H := hid h
  have HSZ := hid hsz
  have HC := hid hc
  have HX200 := hid hx
  obtain ⟨hx1, hx2⟩ := hx
  obtain ⟨hd1, hd2⟩ := hd
  obtain ⟨a, cap, rfl⟩ := h.form
  clear h hsz hc
  go_enter Tryz.func112, Tryz.ntmps112
  go_wp2
  go_loopw [7, 8] (fun o i wr => ∃ k : Nat, k ≤ p.length ∧ i = .int .i64 k ∧ Ext w wr ∧ Hid (RTs (Plus S w wr) wr o (coefP (p.take k) x d))) (fun _ i _ => p.length - (intOf i).toNat)
  case atStart => exact ⟨0, Nat.zero_le _, rfl, Ext.refl _, hid (RTs.nilv _ _ _ _ (by omega))⟩
  case round =>
    obtain ⟨k, hk, rfl, hx0, HO⟩ := hrel
    have HX := hid hx0
    by_cases hlt : k < p.length
    · obtain ⟨t, ht⟩ := some_of_lt hlt
      obtain ⟨b, off, vd, vo, rfl, -, hn1, hm1, hSb, h1, h2, h3, h4, h5⟩ := H.out.cellAt ht
      have HT := hid ht
      have H4 := hid h4
      have H5 := hid h5
      have HTM := hid (HC.out.may t (List.mem_of_getElem? ht))
      have hr := ex_range HTM.out x
      obtain ⟨ad, cd, rfl⟩ := h4.form
      obtain ⟨ao, co, rfl⟩ := h5.form
      have g3 := hx0.cell h3
      have C1 := fun (W : World) (hW : Ext w W) => rmono_degree (S := S) _ t.2 x W (H5.out.ext hW hS) (lt_ext hS hW) ⟨by omega, by omega⟩
      rw [plainM_yes HTM.out] at C1
      have C2 := fun (W : World) (hW : Ext w W) => rmono_without (S := S) _ t.2 x W (H5.out.ext hW hS) (lt_ext hS hW) HTM.out ⟨hx1, hx2⟩
      have h0 : _ ∧ _ ∧ _ := And.intro h1 (And.intro h2 h3)
      obtain ⟨bt, hbt⟩ : ∃ b, b = decide (t.1 < 0) := ⟨_, rfl⟩
      obtain ⟨nt, hnt⟩ : ∃ n, n = (rep 10 t.1.natAbs).length := ⟨_, rfl⟩
      obtain ⟨nm, hnm⟩ : ∃ n, n = t.2.length := ⟨_, rfl⟩
      obtain ⟨xe, hxe⟩ : ∃ n, n = ex t.2 x := ⟨_, rfl⟩
      have HBT := hid hbt
      have HNT := hid hnt
      have HXE := hid hxe
      rw [← hbt, ← hnt, ← hnm] at h0
      rw [← hnm] at g3 H5 C1 C2
      rw [← hxe] at C1 hr
      rw [← hnt] at H4
      have HC0 := hid h0
      have HC1 := hid C1
      have HC2 := hid C2
      have HSZT := hid (HSZ.out.2 t (List.mem_of_getElem? ht))
      clear ht h0 h1 h2 h3 h4 h5 hx0 C1 C2 hbt hnt hnm hxe
      go_wp2_with fail
      refine (HC1.out wr HX.out).mono ?_
      rintro e w1 ⟨rfl, hx1⟩
      have HX1 := hid (HX.out.trans hx1)
      have HO1 := hid (RTs.later hS HO.out HX.out hx1)
      clear hx1 g3
      by_cases he : xe = d
      · have HE := hid (coef_yes HC.out HT.out (x := x) (d := d) (by rw [← HXE.out]; exact he))
        subst he
        have x0 : Ext w w1.drew := HX1.out.drew
        have HX0 := hid x0
        have S0 : _ ∧ _ ∧ _ := And.intro (x0.cell HC0.out.1) (And.intro (x0.cell HC0.out.2.1) (x0.cell HC0.out.2.2))
        have HC3 := hid (HC2.out w1.drew x0)
        have HO2 := hid (RTs.later hS HO1.out HX1.out ((Ext.refl w1).drew))
        have HSC := hid (coefP_sz (szP_take HSZ.out k) x xe)
        have HSC1 := hid (coefP_sz (szP_take HSZ.out (k + 1)) x xe)
        have HMC := hid (coefP_can (canP_sub HC.out (List.take_sublist k p)) x xe).may
        clear x0
        go_wp2
        go_region_held3 (fun W => W.cell? ⟨b, off + k * 3, none⟩ = some (.bool bt) ∧ W.cell? ⟨b, off + k * 3 + 1, none⟩ = some (.slice ad nt cd) ∧ W.cell? ⟨b, off + k * 3 + 2, none⟩ = some (.slice ao nm co)) (first | exact S0 | exact S1 | exact ⟨cell_old _ S1.1, cell_old _ S1.2.1, cell_old _ S1.2.2⟩ | exact S3)
          (first
            | (go_at_call 158; (with_reducible refine HC3.out.mono ?_); rintro e w2 ⟨v2, rfl, hp2, hx2⟩; obtain ⟨a2, c2, rfl⟩ := hp2.form; have HX2 := hid (HX0.out.trans hx2); have S1 : _ ∧ _ ∧ _ := And.intro (hx2.cell S0.1) (And.intro (hx2.cell S0.2.1) (hx2.cell S0.2.2)); obtain ⟨n2, hn2⟩ : ∃ n, n = (withoutM t.2 x).length := ⟨_, rfl⟩; rw [← hn2] at hp2 ⊢
               have HP2 : Hid (Pows (Plus S w w2) w2 (.slice a2 n2 c2) (withoutM t.2 x)) := hid (hp2.to (Kept.refl _ _) (new_plus HX0.out.size))
               have hone := rts_one (S := Plus S w w2) (T := 123) (c := t.1) (plus_lt hS HX2.out) ((H4.out.ext HX2.out hS).to (Kept.refl _ _) (fun _ h => .inl h)) HP2.out
               rw [← HBT.out] at hone
               have x3 : Ext w2 (w2.alloc (.cells #[.bool bt, .slice ad nt cd, .slice a2 n2 c2] 123)) := Ext.alloc (Ext.refl w2) _
               have HX3 := hid (HX2.out.trans x3)
               have HC4 := hid (rpoly_add (S := Plus S w (w2.alloc (.cells #[.bool bt, .slice ad nt cd, .slice a2 n2 c2] 123))) _ _ (coefP (p.take k) x xe) [(t.1, withoutM t.2 x)] (w2.alloc (.cells #[.bool bt, .slice ad nt cd, .slice a2 n2 c2] 123)) (plus_lt hS HX3.out) (RTs.later hS HO2.out HX0.out (hx2.trans x3)) (hone.to (Kept.refl _ _) (fun q hq => by
                  rcases hq with hq | rfl
                  · exact plus_grow x3.size q hq
                  · exact .inr ⟨HX2.out.size, by rw [size_alloc]; exact Nat.lt_succ_self _⟩)) HMC.out (fun u hu => by
                  obtain rfl := List.mem_singleton.1 hu
                  exact mayM_without HTM.out x) ⟨by simp, fun u hu => by
                  obtain rfl := List.mem_singleton.1 hu
                  exact HSZT.out⟩ (fun j hj => by
                  rcases Nat.lt_or_ge j 1 with h | h
                  · obtain rfl : j = 0 := by omega
                    exact HSC.out
                  · have e : [(t.1, withoutM t.2 x)].take j = [(t.1, withoutM t.2 x)] := List.take_of_length_le (by simpa using h)
                    rw [e, HE.out]
                    exact HSC1.out))
               clear hx2 hp2 hone x3 hn2)
            | (go_at_call 53; (with_reducible refine HC4.out.mono ?_); rintro e w3 ⟨v3, rfl, hp3, hx3⟩; have HX4 := hid (HX3.out.trans hx3); have S3 : _ ∧ _ ∧ _ := And.intro (HX4.out.cell HC0.out.1) (And.intro (HX4.out.cell HC0.out.2.1) (HX4.out.cell HC0.out.2.2)); have HP3 := hid (hp3.to (Kept.refl _ _) (plus_plus HX3.out hx3)); clear hx3 hp3))
        all_goals
          go_wp2
          go_roundw
          case rel => exact ⟨k + 1, by omega, by go_num, HX4.out, hid (by rw [← HE.out]; exact HP3.out)⟩
          case measure => simp only [intOf]; omega
      · have HE := hid (coef_no HT.out (x := x) (d := d) (by rw [← HXE.out]; exact he))
        go_wp2
        go_roundw
        case rel => exact ⟨k + 1, by omega, by go_num, HX1.out, hid (by rw [HE.out]; exact HO1.out)⟩
        case measure => simp only [intOf]; omega
    · obtain rfl : k = p.length := by omega
      have HE : Hid (p.take p.length = p) := hid List.take_length
      clear hx0
      go_wp2
      all_goals
        go_ret
        refine ⟨_, rfl, ?_, HX.out⟩
        have := HO.out
        rw [HE.out] at this
        exact this

set_option maxRecDepth 100000 in
set_option maxHeartbeats 4000000 in
theorem rview_initial {S : Nat → Prop} (v : Value) (p : PZ) (w : World) (h : RTs S w v p) (hS : ∀ k, S k → k < w.heap.size) (hc : canP p) (hsz : szP p) :
    Calls Tryz.prog 91 #[v] w fun e w' => ∃ v', e = .returned v' ∧ RTs (Plus S w w') w' v' (initP p) ∧ Ext w w' := by
  have H := hid h
  have hlr := leadP_range hc
  have hdr := degP_range hc.may (leadP p)
  have C1 := rview_class v p w (h.old hS) hc.may
  rw [clsP_lead hc] at C1
  have C2 := fun (W : World) (hW : Ext w W) => rview_degree v p (leadP p) W ((h.ext hW hS).old (lt_ext hS hW)) hc.may ⟨by omega, by omega⟩
  have C3 := fun (W : World) (hW : Ext w W) (hl : 1 ≤ leadP p) => rview_coefficient (S := S) v p (leadP p) (degP p (leadP p)) W (h.ext hW hS) (lt_ext hS hW) hc hsz ⟨hl, hlr.2⟩ ⟨by omega, by omega⟩
  have HI0 : Hid (leadP p = 0 → initP p = p) := hid (fun h0 => by unfold initP; rw [if_pos h0])
  have HI : Hid (leadP p ≠ 0 → initP p = coefP p (leadP p) (degP p (leadP p))) := hid (fun h0 => by unfold initP; rw [if_neg h0])
  obtain ⟨l, hl⟩ : ∃ l, l = leadP p := ⟨_, rfl⟩
  rw [← hl] at C1 C2 C3 HI HI0 hlr hdr
  obtain ⟨d, hd⟩ : ∃ d, d = degP p l := ⟨_, rfl⟩
  rw [← hd] at C2 C3 HI hdr
  have HC1 := hid C1
  have HC2 := hid C2
  have HC3 := hid C3
  clear C1 C2 C3 hl hd h hc hsz
  go_enter Tryz.func91, Tryz.ntmps91
  go_wp2_with fail
  refine HC1.out.mono ?_
  rintro e w1 ⟨rfl, hx1⟩
  have HX1 := hid hx1
  clear hx1
  by_cases h0 : l = 0
  · have HE := hid (HI0.out h0)
    subst h0
    go_wp2
    all_goals
      go_ret
      exact ⟨_, rfl, by rw [HE.out]; exact (H.out.ext HX1.out hS).to (Kept.refl _ _) (fun _ h => .inl h), HX1.out⟩
  · have hl1 : 1 ≤ l := by omega
    have hb : (l == 0) = false := by rw [beq_eq_false_iff_ne]; exact h0
    go_wp2_with fail
    refine (HC2.out w1 HX1.out).mono ?_
    rintro e w2 ⟨rfl, hx2⟩
    have HX2 := hid (HX1.out.trans hx2)
    clear hx2
    go_wp2_with fail
    refine (HC3.out w2 HX2.out hl1).mono ?_
    rintro e w3 ⟨v3, rfl, hp3, hx3⟩
    have HX3 := hid (HX2.out.trans hx3)
    have HP3 : Hid (RTs (Plus S w w3) w3 v3 (coefP p l d)) := hid (hp3.to (Kept.refl _ _) (fun q hq => by
      rcases hq with hq | hq
      · exact .inl hq
      · exact .inr ⟨Nat.le_trans HX2.out.size hq.1, hq.2⟩))
    clear hx3 hp3
    go_wp2
    all_goals
      go_ret
      exact ⟨_, rfl, by rw [HI.out h0]; exact HP3.out, HX3.out⟩
end Go.Proofs.YtcpfeepnfodifaaGreat

namespace Go.Proofs.YtcpfeepnfodifaaGreat

def headP (p : PZ) (v : Int) : PZ := coefP p v (degP p v)
def termD (r : PZ) (v d : Int) : Option PZ := timesP (headP r v) (powP v (degP r v - d).toNat)
/-- quotient and rest behind a step -/
def stepD (keep : Bool) (g h : PZ) (v d : Int) (q r : PZ) : Option (PZ × PZ) :=
  match termD r v d with
  | none => none
  | some t => match timesP t g with
    | none => none
    | some l => match timesP h r with
      | none => none
      | some m => if keep then (match timesP h q with
          | none => none
          | some u => some (normP (u ++ t), normP (m ++ negP l)))
        else some ([], normP (m ++ negP l))

/-- a meter's methods, where there may be none -/
def mstep (o : Option Nat) (s : MSt) : Int × MSt := match o with
  | none => (0, s)
  | some _ => s.step
def mkeep (o : Option Nat) (s : MSt) (p : PZ) : Int × MSt := match o with
  | none => (0, s)
  | some _ => s.keep (mostLimbs (ofP p) (ofP p).length) (ofP p).length
def mexp (o : Option Nat) (s : MSt) : MSt := match o with
  | none => s
  | some _ => s.refused 8
theorem mkeep_ok {o : Option Nat} {s : MSt} {p : PZ} (h : (mkeep o s p).1 = 0) : (mkeep o s p).2 = s := by
  unfold mkeep at h ⊢
  cases o with
  | none => rfl
  | some b =>
    simp only [MSt.keep] at h ⊢
    split
    · rename_i h1; rw [if_pos h1] at h; simp at h
    · rename_i h1
      rw [if_neg h1] at h
      split
      · rename_i h2; rw [if_pos h2] at h; simp at h
      · rfl
theorem mkeep_bnd {b : Nat} {s : MSt} {p : PZ} (h : (mkeep (some b) s p).1 = 0) : (mostLimbs (ofP p) (ofP p).length : Int) ≤ s.li ∧ (p.length : Int) ≤ s.te := by
  have e : (ofP p).length = p.length := ofP_len p
  simp only [mkeep, MSt.keep] at h
  split at h
  · simp at h
  · split at h
    · simp at h
    · rw [e] at *; omega

structure DRes where
  e : Int
  q : PZ
  r : PZ
  n : Nat
  s : MSt

def runD (o : Option Nat) (keep : Bool) (g h : PZ) (v d : Int) : Nat → MSt → PZ → PZ → Nat → DRes
  | 0, s, q, r, n => ⟨0, q, r, n, s⟩
  | k + 1, s, q, r, n =>
    if r = [] ∨ degP r v < d then ⟨0, q, r, n, s⟩ else
    if (mstep o s).1 ≠ 0 then ⟨(mstep o s).1, [], [], 0, (mstep o s).2⟩ else
    match stepD keep g h v d q r with
    | none => ⟨8, [], [], 0, mexp o (mstep o s).2⟩
    | some x =>
      if (mkeep o (mstep o s).2 x.2).1 ≠ 0 then ⟨(mkeep o (mstep o s).2 x.2).1, [], [], 0, (mkeep o (mstep o s).2 x.2).2⟩ else
      if (mkeep o (mstep o s).2 x.1).1 ≠ 0 then ⟨(mkeep o (mstep o s).2 x.1).1, [], [], 0, (mkeep o (mstep o s).2 x.1).2⟩ else
      runD o keep g h v d k (mstep o s).2 x.1 x.2 (n + 1)
/-- all states that are reached are within bounds -/
def FitRun (o : Option Nat) (keep : Bool) (g h : PZ) (v d : Int) (B M : Nat) : Nat → MSt → PZ → PZ → Prop
  | 0, _, q, r => Fit B M q ∧ Fit B M r
  | k + 1, s, q, r => Fit B M q ∧ Fit B M r ∧ (r ≠ [] → d ≤ degP r v → (mstep o s).1 = 0 → ∀ x, stepD keep g h v d q r = some x →
      (mkeep o (mstep o s).2 x.2).1 = 0 → (mkeep o (mstep o s).2 x.1).1 = 0 → FitRun o keep g h v d B M k (mstep o s).2 x.1 x.2)

/-- what a step's answer is made of -/
theorem stepD_some {keep : Bool} {g h : PZ} {v d : Int} {q r : PZ} {x : PZ × PZ} (hs : stepD keep g h v d q r = some x) :
    ∃ t l m, termD r v d = some t ∧ timesP t g = some l ∧ timesP h r = some m ∧ x.2 = normP (m ++ negP l) ∧ (keep = false → x.1 = []) ∧ (keep = true → ∃ u, timesP h q = some u ∧ x.1 = normP (u ++ t)) := by
  unfold stepD at hs
  cases ht : termD r v d with
  | none => rw [ht] at hs; cases hs
  | some t =>
    rw [ht] at hs
    simp only at hs
    cases hl : timesP t g with
    | none => rw [hl] at hs; cases hs
    | some l =>
      rw [hl] at hs
      simp only at hs
      cases hm : timesP h r with
      | none => rw [hm] at hs; cases hs
      | some m =>
        rw [hm] at hs
        simp only at hs
        refine ⟨t, l, m, rfl, hl, rfl, ?_⟩
        cases keep with
        | false =>
          simp only [Bool.false_eq_true, if_false] at hs
          cases hs
          exact ⟨rfl, fun _ => rfl, fun h => (by cases h)⟩
        | true =>
          simp only [if_true] at hs
          cases hu : timesP h q with
          | none => rw [hu] at hs; cases hs
          | some u =>
            rw [hu] at hs
            cases hs
            exact ⟨rfl, fun h => (by cases h), fun _ => ⟨u, rfl, rfl⟩⟩

theorem negP_can {p : PZ} (h : canP p) : canP (negP p) := by
  refine ⟨fun t ht => ?_, ?_⟩
  · obtain ⟨u, hu, rfl⟩ := List.mem_map.1 ht
    have := (h.1 u hu).1
    exact ⟨by show -u.1 ≠ 0; omega, (h.1 u hu).2⟩
  · unfold negP
    rw [List.pairwise_map]
    exact h.2
theorem ev_negP (f : Mono → Int) (p : PZ) : ev f (negP p) = - ev f p := ev_neg f p
theorem negP_mem {p : PZ} {t : Int × Mono} (h : t ∈ negP p) : ∃ u ∈ p, u.2 = t.2 := by
  obtain ⟨u, hu, rfl⟩ := List.mem_map.1 h
  exact ⟨u, hu, rfl⟩

section
variable {g h q r t l m : PZ} {v d : Int}
theorem coef_free {p : PZ} (_hp : canP p) (v e : Int) : degP (coefP p v e) v = 0 := degP_none (fun _ ht => coefP_ex ht)
/-- a polynomial without a variable is its own coefficient -/
theorem coef_same {p : PZ} (hp : canP p) {v : Int} (h0 : ∀ t ∈ p, ex t.2 v = 0) : coefP p v 0 = p := by
  have hm := hp.may
  clear hp
  unfold coefP
  induction p with
  | nil => rfl
  | cons t r ih =>
    have hr := ih (fun u hu => h0 u (by simp [hu])) (fun u hu => hm u (by simp [hu]))
    have h1 := h0 t (by simp)
    rw [List.filterMap_cons, show coefF v 0 t = some (t.1, withoutM t.2 v) from if_pos h1, hr, without_zero (hm t (by simp)) h1]
theorem pow_deg {v : Int} (_hv : 1 ≤ v ∧ v ≤ 200) {i : Nat} (_hi : i ≤ 10000) : degP (powP v i) v = (i : Int) := by
  unfold powP
  split
  · rename_i h0
    subst h0
    exact degP_none (fun t ht => by rw [List.mem_singleton.1 ht]; rfl)
  · refine Int.le_antisymm (degP_le (by omega) (fun t ht => by rw [List.mem_singleton.1 ht, ex_one, if_pos rfl]; exact Int.le_refl _)) ?_
    have := degP_le_mem (p := [(1, [(v, (i : Int))])]) (t := (1, [(v, (i : Int))])) (by simp) v
    rwa [ex_one, if_pos rfl] at this
theorem pow_top {v : Int} (_hv : 1 ≤ v ∧ v ≤ 200) {i : Nat} (_hi : i ≤ 10000) : coefP (powP v i) v (i : Int) = [(1, [])] := by
  unfold powP
  split
  · rename_i h0
    subst h0
    rfl
  · unfold coefP
    rw [List.filterMap_cons, show coefF v (i : Int) (1, [(v, (i : Int))]) = some (1, withoutM [(v, (i : Int))] v) from if_pos (by rw [ex_one, if_pos rfl])]
    rw [show withoutM [(v, (i : Int))] v = [] by unfold withoutM; simp]
    rfl
theorem mul_unit {p : PZ} (hp : okAll p) : mulL p [(1, [])] = p := by
  rw [mulL_one]
  induction p with
  | nil => rfl
  | cons t r ih =>
    rw [List.map_cons, ih (fun u hu => hp u (by simp [hu])), times_one_right (hp t (by simp)), Int.mul_one]

/-- the term of a step: its degree, and what stands there -/
theorem term_top (hr : canP r) (hr0 : r ≠ []) (hv : 1 ≤ v ∧ v ≤ 200) (hd : 0 ≤ d) (hdr : d ≤ degP r v) (ht : termD r v d = some t) :
    canP t ∧ t ≠ [] ∧ degP t v = degP r v - d ∧ Eqv (coefP t v (degP r v - d)) (headP r v) := by
  have hrg := degP_range hr.may v
  obtain ⟨i, hi⟩ : ∃ i : Nat, i = (degP r v - d).toNat := ⟨_, rfl⟩
  have hi2 : (i : Int) = degP r v - d := by omega
  have hi3 : i ≤ 10000 := by omega
  unfold termD at ht
  rw [← hi] at ht
  have hc := coefP_can hr v (degP r v)
  have hp := pow_can hv hi3
  have hc0 := coef_top_ne hr.may hr0 v
  have hp0 : powP v i ≠ [] := by unfold powP; split <;> simp
  have h1 := times_deg hc hp hc0 hp0 ht v
  rw [coef_free hr, pow_deg hv hi3, Int.zero_add] at h1
  refine ⟨times_can hc hp ht, times_ne hc hp hc0 hp0 ht, by omega, ?_⟩
  have h2 := top_eqv hc hp ht v
  rw [coef_free hr, pow_deg hv hi3, Int.zero_add, pow_top hv hi3, coef_same hc (fun _ h => coefP_ex h), mul_unit (may_okAll hc.may)] at h2
  rw [← hi2]
  exact h2

/-- the rest's degree falls -/
theorem step_deg (hg : canP g) (hr : canP r) (hr0 : r ≠ []) (hv : 1 ≤ v ∧ v ≤ 200) (hd1 : 1 ≤ degP g v) (hdr : degP g v ≤ degP r v)
    (ht : termD r v (degP g v) = some t) (hl : timesP t g = some l) (hm : timesP (headP g v) r = some m) : canP (normP (m ++ negP l)) ∧ degP (normP (m ++ negP l)) v < degP r v := by
  obtain ⟨ct, t0, dt, et⟩ := term_top hr hr0 hv (by omega) hdr ht
  have hg0 : g ≠ [] := fun e => by rw [e] at hd1; simp [degP] at hd1
  have ch := coefP_can hg v (degP g v)
  have h0 := coef_top_ne hg.may hg0 v
  have cl := times_can ct hg hl
  have cm := times_can ch hr hm
  have hmay := may_append cm.may (negP_can cl).may
  have hcan := norm_can hmay
  refine ⟨hcan, degP_lt (by omega) (fun x hx => ?_)⟩
  have hle : ex x.2 v ≤ degP r v := by
    obtain ⟨u, hu, e⟩ := norm_mem hmay hx
    rw [← e]
    rcases List.mem_append.1 hu with h1 | h1
    · have := degP_le_mem h1 v
      rw [times_deg ch hr h0 hr0 hm v, coef_free hg, Int.zero_add] at this
      exact this
    · obtain ⟨y, hy, e2⟩ := negP_mem h1
      rw [← e2]
      have := degP_le_mem hy v
      rw [times_deg ct hg t0 hg0 hl v, dt] at this
      omega
  rcases Int.lt_or_eq_of_le hle with h1 | h1
  · exact h1
  · exfalso
    have e1 := top_eqv ch hr hm v
    have e2 := top_eqv ct hg hl v
    rw [coef_free hg, Int.zero_add, coef_same ch (fun _ h => coefP_ex h)] at e1
    rw [dt, show degP r v - degP g v + degP g v = degP r v by omega] at e2
    have e3 : Eqv (coefP (normP (m ++ negP l)) v (degP r v)) [] := fun f => by
      rw [(coef_eqv (norm_eqv hmay) v _) f, ev_coef, ev_append, ev_negP, ← ev_coef, ← ev_coef, e1, e2, (Eqv.mul et (Eqv.refl _)) f, mul_comm_eqv (may_okAll ch.may) (may_okAll (coefP_can hr v _).may)]
      show _ = (0 : Int)
      unfold headP
      omega
    have e4 := can_eq (coefP_can hcan v (degP r v)) canP_nil e3
    have e5 : (x.1, withoutM x.2 v) ∈ coefP (normP (m ++ negP l)) v (degP r v) := List.mem_filterMap.2 ⟨x, hx, if_pos h1⟩
    rw [e4] at e5
    simp at e5
end
theorem stepD_deg {keep : Bool} {g q r : PZ} {v : Int} {x : PZ × PZ} (hg : canP g) (hr : canP r) (hr0 : r ≠ []) (hv : 1 ≤ v ∧ v ≤ 200) (hd1 : 1 ≤ degP g v) (hdr : degP g v ≤ degP r v) (hs : stepD keep g (headP g v) v (degP g v) q r = some x) :
    canP x.2 ∧ degP x.2 v < degP r v := by
  obtain ⟨t, l, m, ht, hl, hm, e, -, -⟩ := stepD_some hs
  rw [e]
  exact step_deg hg hr hr0 hv hd1 hdr ht hl hm
end Go.Proofs.YtcpfeepnfodifaaGreat

namespace Go.Proofs.YtcpfeepnfodifaaGreat

/-- powers, as lists of terms -/
def hpow (h : PZ) : Nat → PZ
  | 0 => [(1, [])]
  | n + 1 => mulL (hpow h n) h
theorem unit_ok : okAll [((1 : Int), ([] : Mono))] := fun t ht => by rw [List.mem_singleton.1 ht]; rfl
theorem unit_can : canP [((1 : Int), ([] : Mono))] := ⟨fun t ht => by rw [List.mem_singleton.1 ht]; exact ⟨by decide, rfl⟩, List.pairwise_singleton _ _⟩
theorem hpow_ok {h : PZ} (hh : okAll h) : ∀ n, okAll (hpow h n)
  | 0 => unit_ok
  | n + 1 => mulL_ok (hpow_ok hh n) hh

/-- a step's term is canonical -/
theorem termD_can {r t : PZ} {v d : Int} (hr : canP r) (hv : 1 ≤ v ∧ v ≤ 200) (hd : 0 ≤ d) (ht : termD r v d = some t) : canP t := by
  have hrg := degP_range hr.may v
  exact times_can (coefP_can hr v _) (pow_can hv (by omega)) ht

section
variable {g h f q r : PZ} {v d : Int} {x : PZ × PZ}
theorem stepD_can {keep : Bool} (hg : canP g) (hh : canP h) (hq : canP q) (hr : canP r) (hv : 1 ≤ v ∧ v ≤ 200) (hd : 0 ≤ d) (hs : stepD keep g h v d q r = some x) : canP x.1 ∧ canP x.2 := by
  obtain ⟨t, l, m, ht, hl, hm, e2, e3, e4⟩ := stepD_some hs
  have ct := termD_can hr hv hd ht
  have cl := times_can ct hg hl
  have cm := times_can hh hr hm
  refine ⟨?_, by rw [e2]; exact norm_can (may_append cm.may (negP_can cl).may)⟩
  cases keep with
  | false => rw [e3 rfl]; exact canP_nil
  | true =>
    obtain ⟨u, hu, e⟩ := e4 rfl
    rw [e]
    exact norm_can (may_append (times_can hh hq hu).may ct.may)

theorem mul_swap {a b c : PZ} (ha : okAll a) (hb : okAll b) (hc : okAll c) : Eqv (mulL (mulL a b) c) (mulL b (mulL a c)) :=
  (Eqv.mul (mul_comm_eqv ha hb) (Eqv.refl c)).trans (mul_assoc_eqv hb ha hc)

/-- the identity goes on -/
theorem stepD_ident (hf : okAll f) (hg : canP g) (hh : canP h) (hq : canP q) (hr : canP r) (hv : 1 ≤ v ∧ v ≤ 200) (hd : 0 ≤ d) {n : Nat} (hI : Eqv (mulL (hpow h n) f) (mulL q g ++ r))
    (hs : stepD true g h v d q r = some x) : Eqv (mulL (hpow h (n + 1)) f) (mulL x.1 g ++ x.2) := by
  obtain ⟨t, l, m, ht, hl, hm, e2, -, e4⟩ := stepD_some hs
  obtain ⟨u, hu, e1⟩ := e4 rfl
  have ct := termD_can hr hv hd ht
  obtain ⟨ml, rfl⟩ := times_some ct.may hg.may hl
  obtain ⟨mm, rfl⟩ := times_some hh.may hr.may hm
  obtain ⟨mu, rfl⟩ := times_some hh.may hq.may hu
  have oh := may_okAll hh.may
  have og := may_okAll hg.may
  have oq := may_okAll hq.may
  have or' := may_okAll hr.may
  have ot := may_okAll ct.may
  intro F
  have k1 : ev F (mulL (hpow h (n + 1)) f) = ev F (mulL h (mulL q g)) + ev F (mulL h r) := by
    show ev F (mulL (mulL (hpow h n) h) f) = _
    rw [mul_swap (hpow_ok oh n) oh hf F, (Eqv.mul (Eqv.refl h) hI) F, mul_add_right h _ _ F, ev_append]
  have k2 : ev F (mulL x.1 g) = ev F (mulL h (mulL q g)) + ev F (mulL t g) := by
    rw [e1, (Eqv.mul (norm_eqv (may_append (norm_can mu).may ct.may)) (Eqv.refl g)) F, mul_add_left, ev_append, (Eqv.mul (norm_eqv mu) (Eqv.refl g)) F, mul_assoc_eqv oh oq og F]
  have k3 : ev F x.2 = ev F (mulL h r) - ev F (mulL t g) := by
    rw [e2, norm_eqv (may_append (norm_can mm).may (negP_can (norm_can ml)).may) F, ev_append, ev_negP, norm_eqv mm F, norm_eqv ml F]
    omega
  rw [k1, ev_append, k2, k3]
  omega

/-! Exponents -/
def exB (E : Int) (p : PZ) : Prop := ∀ t ∈ p, ∀ u, ex t.2 u ≤ E
end
section
variable {g h f q r p : PZ} {v d : Int} {x : PZ × PZ} {E G R : Int}
theorem exB.le (hp : exB E p) (h : E ≤ R) : exB R p := fun t ht u => Int.le_trans (hp t ht u) h
theorem exB_nil (E : Int) : exB E [] := fun t ht => by simp at ht
theorem exB.deg (hp : exB E p) (hE : 0 ≤ E) (v : Int) : degP p v ≤ E := degP_le hE (fun t ht => hp t ht v)
theorem exB.mul_may (hp : exB E p) (hq : exB G q) (mp : mayAll p) (mq : mayAll q) (hE : E + G ≤ 10000) : mayAll (mulL p q) := fun t ht => by
  obtain ⟨a, ha, b, hb, rfl⟩ := mulL_mem ht
  refine (times_may (mp a ha) (mq b hb)).2 (fun u => ?_)
  have := hp a ha u
  have := hq b hb u
  omega
theorem exB.norm (hp : exB E p) (mp : mayAll p) : exB E (normP p) := fun t ht u => by
  obtain ⟨y, hy, e⟩ := norm_mem mp ht
  rw [← e]
  exact hp y hy u
theorem exB.mul (hp : exB E p) (hq : exB G q) (mp : mayAll p) (mq : mayAll q) : exB (E + G) (mulL p q) := fun t ht u => by
  obtain ⟨a, ha, b, hb, rfl⟩ := mulL_mem ht
  show ex (timesM a.2 b.2) u ≤ _
  rw [times_ex (mp a ha) (mq b hb)]
  have := hp a ha u
  have := hq b hb u
  omega
theorem exB.append (hp : exB E p) (hq : exB E q) : exB E (p ++ q) := fun t ht => by
  rcases List.mem_append.1 ht with h | h
  · exact hp t h
  · exact hq t h
theorem exB.neg (hp : exB E p) : exB E (negP p) := fun t ht u => by
  obtain ⟨y, hy, e⟩ := negP_mem ht
  rw [← e]
  exact hp y hy u
theorem exB.coef (hp : exB E p) (hE : 0 ≤ E) (v e : Int) : exB E (coefP p v e) := fun t ht u => by
  obtain ⟨y, hy, -, rfl⟩ := coefP_mem ht
  show ex (withoutM y.2 v) u ≤ E
  rw [ex_without]
  split
  · exact hE
  · exact hp y hy u
theorem exB.times (hp : exB E p) (hq : exB G q) (cp : canP p) (cq : canP q) (hE : E + G ≤ 10000) : ∃ c, timesP p q = some c ∧ canP c ∧ exB (E + G) c ∧ Eqv c (mulL p q) ∧ c = normP (mulL p q) := by
  have hm := hp.mul_may hq cp.may cq.may hE
  exact ⟨_, times_norm cp.may cq.may hm, norm_can hm, (hp.mul hq cp.may cq.may).norm hm, norm_eqv hm, rfl⟩

theorem term_ex (hr : canP r) (er : exB R r) (hR : 0 ≤ R) (hR2 : R ≤ 10000) (hv : 1 ≤ v ∧ v ≤ 200) (hd : 0 ≤ d) : ∃ t, termD r v d = some t ∧ canP t ∧ exB R t := by
  have hrg := degP_range hr.may v
  have hdr := er.deg hR v
  have hc := coefP_can hr v (degP r v)
  have hp := pow_can hv (i := (degP r v - d).toNat) (by omega)
  have hm : mayAll (mulL (headP r v) (powP v (degP r v - d).toNat)) := fun t ht => by
    obtain ⟨a, ha, b, hb, rfl⟩ := mulL_mem ht
    refine (times_may (hc.1 a ha).2 (hp.1 b hb).2).2 (fun u => ?_)
    have h1 := (er.coef hR v (degP r v)) a ha u
    unfold powP at hb
    split at hb
    · rw [List.mem_singleton.1 hb]
      show ex a.2 u + ex [] u ≤ _
      simp only [ex]
      omega
    · rw [List.mem_singleton.1 hb, ex_one]
      by_cases hu : v = u
      · subst hu
        rw [if_pos rfl, coefP_ex ha]
        omega
      · rw [if_neg hu]
        omega
  refine ⟨_, times_norm hc.may hp.may hm, norm_can hm, fun t ht u => ?_⟩
  obtain ⟨y, hy, e⟩ := norm_mem hm ht
  obtain ⟨a, ha, b, hb, rfl⟩ := mulL_mem hy
  rw [← e]
  show ex (timesM a.2 b.2) u ≤ R
  rw [times_ex (hc.1 a ha).2 (hp.1 b hb).2]
  have h1 := (er.coef hR v (degP r v)) a ha u
  unfold powP at hb
  split at hb
  · rw [List.mem_singleton.1 hb]
    show ex a.2 u + ex [] u ≤ _
    simp only [ex]
    omega
  · rw [List.mem_singleton.1 hb, ex_one]
    by_cases hu : v = u
    · subst hu
      rw [if_pos rfl, coefP_ex ha]
      omega
    · rw [if_neg hu]
      omega
theorem stepD_ex (keep : Bool) (hg : canP g) (hh : canP h) (hq : canP q) (hr : canP r) (eg : exB G g) (eh : exB G h) (eq : exB R q) (er : exB R r) (hG : 0 ≤ G) (hR : 0 ≤ R) (hRG : R + G ≤ 10000) (hv : 1 ≤ v ∧ v ≤ 200) (hd : 0 ≤ d) :
    ∃ x, stepD keep g h v d q r = some x ∧ exB (R + G) x.1 ∧ exB (R + G) x.2 := by
  obtain ⟨t, ht, ct, et⟩ := term_ex hr er hR (by omega) hv hd
  obtain ⟨l, hl, cl, el, -⟩ := et.times eg ct hg (by omega)
  obtain ⟨m, hm, cm, em, -⟩ := eh.times er hh hr (by omega)
  obtain ⟨u, hu, cu, eu, -⟩ := eh.times eq hh hq (by omega)
  have e2 : exB (R + G) (normP (m ++ negP l)) := ((em.le (by omega)).append el.neg).norm (may_append cm.may (negP_can cl).may)
  unfold stepD
  rw [ht]
  simp only
  rw [hl]
  simp only
  rw [hm]
  simp only
  cases keep with
  | false => exact ⟨_, rfl, exB_nil _, e2⟩
  | true =>
    simp only [if_true]
    rw [hu]
    exact ⟨_, rfl, ((eu.le (by omega)).append (et.le (by omega))).norm (may_append cu.may ct.may), e2⟩

/-! Sizes -/
theorem Fit.neg {k n : Nat} (h : Fit k n p) : Fit k n (negP p) := ⟨negP_can h.1, fun t ht => by
  obtain ⟨u, hu, rfl⟩ := List.mem_map.1 ht
  have := h.2.1 u hu
  show (-u.1).natAbs < _
  rwa [Int.natAbs_neg], by rw [negP_length]; exact h.2.2⟩
theorem term_fit {t : PZ} {K L : Nat} (fr : Fit K L r) (hL : L ≤ 1000000000000) (hv : 1 ≤ v ∧ v ≤ 200) (hd : 0 ≤ d) (ht : termD r v d = some t) : Fit (K + 3) L t := by
  have hrg := degP_range fr.can.may v
  have h := (fr.coef v (degP r v)).times (fit_pow hv (i := (degP r v - d).toNat) (by omega)) ht (by omega)
  rw [Nat.mul_one] at h
  exact h
theorem stepD_fit {keep : Bool} {A T K L : Nat} (fg : Fit A T g) (fh : Fit A T h) (fq : Fit K L q) (fr : Fit K L r) (hT : 1 ≤ T) (hL : 2 * T * L ≤ 1000000000000) (hv : 1 ≤ v ∧ v ≤ 200) (hd : 0 ≤ d) (hs : stepD keep g h v d q r = some x) :
    Fit (K + A + 7) (2 * T * L) x.1 ∧ Fit (K + A + 7) (2 * T * L) x.2 := by
  obtain ⟨t, l, m, ht, hl, hm, e2, e3, e4⟩ := stepD_some hs
  have h1 : L ≤ T * L := Nat.le_mul_of_pos_left L hT
  have h2 : 2 * T * L = T * L + T * L := by rw [Nat.mul_assoc]; omega
  have h3 : L * T = T * L := Nat.mul_comm _ _
  have ft := term_fit fr (by omega) hv hd ht
  have fl := ft.times fg hl (by omega)
  have fm := fh.times fr hm (by omega)
  have f2 := (fm.mono (l := K + A + 5) (m := T * L) (by omega) (by omega)).add (fl.neg.mono (l := K + A + 5) (m := T * L) (by omega) (by omega)) (by omega)
  refine ⟨?_, by rw [e2]; exact f2.mono (by omega) (by omega)⟩
  cases keep with
  | false => rw [e3 rfl]; exact fit_nil.mono (by omega) (by omega)
  | true =>
    obtain ⟨u, hu, e⟩ := e4 rfl
    have fu := fh.times fq hu (by omega)
    rw [e]
    exact ((fu.mono (l := K + A + 5) (m := T * L) (by omega) (by omega)).add (ft.mono (l := K + A + 5) (m := T * L) (by omega) (by omega)) (by omega)).mono (by omega) (by omega)

/-- so many steps at most: sizes by their number -/
theorem fitRun_steps {o : Option Nat} {keep : Bool} {A T B M : Nat} (fg : Fit A T g) (fh : Fit A T (headP g v)) (hT : 1 ≤ T) (hv : 1 ≤ v ∧ v ≤ 200) (hd1 : 1 ≤ degP g v) (hM : M ≤ 1000000000000) :
    ∀ (k j : Nat) (K L : Nat) (s : MSt) (q r : PZ), Fit K L q → Fit K L r → (r ≠ [] → degP r v < degP g v + (j : Int)) → K + j * (A + 7) ≤ B → L * (2 * T) ^ j ≤ M → FitRun o keep g (headP g v) v (degP g v) B M k s q r := by
  intro k
  induction k with
  | zero =>
    intro j K L s q r fq fr _ hK hL
    have hp : 1 ≤ (2 * T) ^ j := Nat.one_le_iff_ne_zero.2 (Nat.pos_iff_ne_zero.1 (Nat.pow_pos (by omega)))
    have hLM : L ≤ M := Nat.le_trans (Nat.le_mul_of_pos_right L hp) hL
    exact ⟨fq.mono (by omega) hLM, fr.mono (by omega) hLM⟩
  | succ k ih =>
    intro j K L s q r fq fr hj hK hL
    have hp : 1 ≤ (2 * T) ^ j := Nat.one_le_iff_ne_zero.2 (Nat.pos_iff_ne_zero.1 (Nat.pow_pos (by omega)))
    have hLM : L ≤ M := Nat.le_trans (Nat.le_mul_of_pos_right L hp) hL
    refine ⟨fq.mono (by omega) hLM, fr.mono (by omega) hLM, fun hr0 hdr _ x hs _ _ => ?_⟩
    have h1 := hj hr0
    obtain ⟨i, rfl⟩ : ∃ i, j = i + 1 := ⟨j - 1, by omega⟩
    have hq : 1 ≤ (2 * T) ^ i := Nat.one_le_iff_ne_zero.2 (Nat.pos_iff_ne_zero.1 (Nat.pow_pos (by omega)))
    have e1 : L * (2 * T) ^ (i + 1) = 2 * T * L * (2 * T) ^ i := by rw [Nat.pow_succ, Nat.mul_comm ((2 * T) ^ i), ← Nat.mul_assoc, Nat.mul_comm L]
    have hb : 2 * T * L ≤ M := Nat.le_trans (Nat.le_mul_of_pos_right _ hq) (e1 ▸ hL)
    obtain ⟨f1, f2⟩ := stepD_fit fg fh fq fr hT (by omega) hv (by omega) hs
    have hdg := (stepD_deg fg.can fr.can hr0 hv hd1 hdr hs).2
    refine ih i _ _ _ _ _ f1 f2 (fun _ => by omega) ?_ (by rw [← e1]; exact hL)
    rw [Nat.add_mul, Nat.one_mul] at hK
    omega
end
end Go.Proofs.YtcpfeepnfodifaaGreat

namespace Go.Proofs.YtcpfeepnfodifaaGreat
open Go.RowKit

section
variable {p q c : PZ} {k l n m : Nat}
theorem fit_szP (h : Fit k n p) (hk : k ≤ 100000) (hn : n ≤ 1000000000000) : szP p :=
  ⟨Nat.le_trans h.2.2 hn, fun t ht => szZ_le (n := 10 * k + 1) (Nat.lt_trans (h.2.1 t ht) (b32_ten k)) (by omega)⟩
theorem fit_szM2 (fp : Fit k n p) (fq : Fit l m q) (hk : k + l ≤ 100000) (hnm : n * m ≤ 1000000000000) : szM p q := by
  have hl : p.length * q.length ≤ n * m := Nat.mul_le_mul fp.2.2 fq.2.2
  refine ⟨B32 ^ (k + l), 10 * (k + l) + 14, fun t ht u hu => ?_, by omega, ?_, by omega⟩
  · have := lenI_prod (lenI_lt (fp.2.1 t ht)) (lenI_lt (fq.2.1 u hu))
    exact Nat.le_of_lt (lenI_mono this (Nat.le_refl _))
  · have h1 := b32_ten (k + l)
    have e : 10 ^ (10 * (k + l) + 14) = 10 ^ 13 * 10 ^ (10 * (k + l) + 1) := by rw [← Nat.pow_add]; congr 1; omega
    rw [e]
    have h2 : p.length * q.length < 10 ^ 13 := by omega
    exact Nat.lt_of_lt_of_le ((Nat.mul_lt_mul_right (Nat.pow_pos (by unfold B32; decide))).2 h2) (Nat.mul_le_mul_left _ (Nat.le_of_lt h1))
theorem fit_sum_sz (fp : Fit k n p) (fq : Fit l m q) (hk : k ≤ 90000) (hl : l ≤ 90000) (hn : n + m ≤ 1000000000000) : ∀ j, j ≤ q.length → szP (addP p (q.take j)) := fun j _ => by
  have f2 := fit_take fq j
  rw [addP_eq fp.can f2.can.may]
  exact fit_szP ((fp.mono (l := max k l) (Nat.le_max_left _ _) (Nat.le_refl _)).add (f2.mono (l := max k l) (Nat.le_max_right _ _) (Nat.le_refl _)) hn) (by omega) hn
end

/-- a document's polynomial, anywhere in memory of now -/
abbrev RV (W : World) (v : Value) (p : PZ) : Prop := RTs (Old W) W v p
section
variable {W : World} {u v : Value} {p q : PZ} {k l n m : Nat}
theorem plus_old {W w' : World} (h : Ext W w') : ∀ k, Plus (Old W) W w' k → Old w' k := plus_lt (fun _ h => h) h

theorem rz_times (hp : RV W u p) (hq : RV W v q) (fp : Fit k n p) (fq : Fit l m q) (hk : k + l ≤ 90000) (hn : n ≤ 1000000000000) (hm : m ≤ 1000000000000) (hnm : n * m ≤ 1000000000000) :
    Calls Tryz.prog 65 #[u, v] W fun e w' => ∃ v', e = .returned (.tuple #[v', .bool (timesB (timesP p q))]) ∧ RV w' v' (timesV (timesP p q)) ∧ Ext W w' :=
  (rpoly_times (S := Old W) u v p q W (fun _ h => h) hp hq fp.can.may fq.can.may (fit_szP fp (by omega) hn) (fit_szP fq (by omega) hm) (fit_szM2 fp fq (by omega) hnm)).mono (by
    rintro e w' ⟨v', rfl, h, hx⟩
    exact ⟨v', rfl, h.to (Kept.refl _ _) (plus_old hx), hx⟩)
theorem rz_add (hp : RV W u p) (hq : RV W v q) (fp : Fit k n p) (fq : Fit l m q) (hk : k ≤ 90000) (hl : l ≤ 90000) (hn : n + m ≤ 1000000000000) :
    Calls Tryz.prog 53 #[u, v] W fun e w' => ∃ v', e = .returned v' ∧ RV w' v' (normP (p ++ q)) ∧ Ext W w' :=
  (rpoly_add (S := Old W) u v p q W (fun _ h => h) hp hq fp.can.may fq.can.may (fit_szP fq (by omega) (by omega)) (fit_sum_sz fp fq hk hl hn)).mono (by
    rintro e w' ⟨v', rfl, h, hx⟩
    rw [addP_eq fp.can fq.can.may] at h
    exact ⟨v', rfl, h.to (Kept.refl _ _) (plus_old hx), hx⟩)
theorem rz_sub (hp : RV W u p) (hq : RV W v q) (fp : Fit k n p) (fq : Fit l m q) (hk : k ≤ 90000) (hl : l ≤ 90000) (hn : n + m ≤ 1000000000000) :
    Calls Tryz.prog 55 #[u, v] W fun e w' => ∃ v', e = .returned v' ∧ RV w' v' (normP (p ++ negP q)) ∧ Ext W w' :=
  (rpoly_sub (S := Old W) u v p q W (fun _ h => h) hp hq fp.can.may fq.can.may (fit_szP fq (by omega) (by omega)) (fun j hj => fit_sum_sz fp fq.neg hk hl hn j (by rw [negP_length]; exact hj))).mono (by
    rintro e w' ⟨v', rfl, h, hx⟩
    rw [addP_eq fp.can fq.neg.can.may] at h
    exact ⟨v', rfl, h.to (Kept.refl _ _) (plus_old hx), hx⟩)
theorem rz_coef (hp : RV W u p) (fp : Fit k n p) (hk : k ≤ 90000) (hn : n ≤ 1000000000000) {x d : Int} (hx : 1 ≤ x ∧ x ≤ 200) (hd : inI64 d) :
    Calls Tryz.prog 112 #[u, .int .i64 x, .int .i64 d] W fun e w' => ∃ v', e = .returned v' ∧ RV w' v' (coefP p x d) ∧ Ext W w' :=
  (rview_coefficient (S := Old W) u p x d W hp (fun _ h => h) fp.can (fit_szP fp (by omega) hn) hx hd).mono (by
    rintro e w' ⟨v', rfl, h, hx⟩
    exact ⟨v', rfl, h.to (Kept.refl _ _) (plus_old hx), hx⟩)
theorem rz_power {x : Int} {i : Nat} (hx : 1 ≤ x ∧ x ≤ 200) (hi : i ≤ 10000) :
    Calls Tryz.prog 66 #[.int .i64 x, .int .i64 (i : Nat)] W fun e w' => ∃ v', e = .returned v' ∧ RV w' v' (powP x i) ∧ Ext W w' :=
  (rview_power x i W (by unfold inI64; omega) hi).mono (by
    rintro e w' ⟨v', rfl, h, hx⟩
    exact ⟨v', rfl, h.to (Kept.refl _ _) New.lt, hx⟩)
theorem rz_degree (hp : RV W u p) (fp : Fit k n p) {x : Int} (hx : inI64 x) :
    Calls Tryz.prog 18 #[u, .int .i64 x] W fun e w' => e = .returned (.int .i64 (degP p x)) ∧ Ext W w' := rview_degree u p x W hp fp.can.may hx
theorem rz_poly (hp : RV W u p) (fp : Fit k n p) (hk : k ≤ 90000) (hn : n ≤ 1000000000000) :
    Calls Tryz.prog 22 #[u] W fun e w' => ∃ v', e = .returned v' ∧ PV w' v' p ∧ Ext W w' :=
  (rpoly_poly (S := Old W) u p W hp (fun _ h => h) (fit_szP fp (by omega) hn) (fun t ht => Nat.le_trans (mayM_len (fp.can.may t ht)) (by decide))).mono (by
    rintro e w' ⟨v', rfl, h, hx⟩
    exact ⟨v', rfl, h.to (Kept.refl _ _) New.lt, hx⟩)
end
end Go.Proofs.YtcpfeepnfodifaaGreat

namespace Go.Proofs.YtcpfeepnfodifaaGreat
open Go.RowKit

def mval (o : Option Nat) : Value := .pointer (o.map fun b => ⟨b, 0, none⟩)
/-- the meter, if there is one, as it lies in memory -/
def MV (W : World) (o : Option Nat) (s : MSt) : Prop := ∀ b, o = some b → MeterAt W b s ∧ s.Ok
def RMV (W : World) (o : Option Nat) (s : MSt) : Prop := ∀ b, o = some b → RefAt W b s ∧ s.Ok
/-- all blocks of now but the meter's -/
abbrev NB (o : Option Nat) (W : World) : Nat → Prop := fun k => k < W.heap.size ∧ some k ≠ o
abbrev PM (o : Option Nat) (W : World) (v : Value) (p : PZ) : Prop := Terms (NB o W) W v (ofP p)
/-- the same, in blocks from a number on -/
abbrev PMN (N : Nat) (o : Option Nat) (W : World) (v : Value) (p : PZ) : Prop := Terms (fun k => N ≤ k ∧ NB o W k) W v (ofP p)
abbrev RM (o : Option Nat) (W : World) (v : Value) (p : PZ) : Prop := RTs (NB o W) W v p
section
variable {o : Option Nat} {W W' : World} {v : Value} {p : PZ} {s : MSt}
theorem nb_grow (g : W.grownBy W' o) : ∀ k, NB o W k → NB o W' k := fun _ h => ⟨Nat.lt_of_lt_of_le h.1 g.size, h.2⟩
theorem kept_nb (g : W.grownBy W' o) : Kept (NB o W) W W' := fun k h => g.block k h.1 h.2
theorem PM.pv (h : PM o W v p) : PV W v p := h.to (Kept.refl _ _) (fun _ h => h.1)
theorem PMN.pm {N : Nat} (h : PMN N o W v p) : PM o W v p := h.to (Kept.refl _ _) (fun _ h => h.2)
theorem PMN.pv {N : Nat} (h : PMN N o W v p) : PV W v p := h.to (Kept.refl _ _) (fun _ h => h.2.1)
theorem RM.rv (h : RM o W v p) : RV W v p := h.to (Kept.refl _ _) (fun _ h => h.1)
theorem PM.on (h : PM o W v p) (g : W.grownBy W' o) : PM o W' v p := h.to (kept_nb g) (nb_grow g)
theorem RM.on (h : RM o W v p) (g : W.grownBy W' o) : RM o W' v p := h.to (kept_nb g) (nb_grow g)
theorem PMN.on {N : Nat} (h : PMN N o W v p) (g : W.grownBy W' o) : PMN N o W' v p := h.to (fun k hk => kept_nb g k hk.2) (fun k hk => ⟨hk.1, nb_grow g k hk.2⟩)
theorem PMN.ext {N : Nat} (h : PMN N o W v p) (g : Ext W W') : PMN N o W' v p := h.on (gb_of_ext g o)
theorem PM.ext (h : PM o W v p) (g : Ext W W') : PM o W' v p := h.on (gb_of_ext g o)
theorem RM.ext (h : RM o W v p) (g : Ext W W') : RM o W' v p := h.on (gb_of_ext g o)
theorem MV.block (h : MV W o s) {b : Nat} (hb : o = some b) : b < W.heap.size := lt_of_cell (h b hb).1.c0
theorem RMV.block (h : RMV W o s) {b : Nat} (hb : o = some b) : b < W.heap.size := lt_of_cell (h b hb).1.c0
theorem new_nb {A : World} (h : ∀ b, o = some b → b < A.heap.size) : ∀ k, New A W' k → NB o W' k := fun k hk => ⟨hk.2, fun e => by have := h k e.symm; have := hk.1; omega⟩
theorem plus_nb {A : World} (h : ∀ b, o = some b → b < A.heap.size) (g : A.heap.size ≤ W'.heap.size) : ∀ k, Plus (NB o A) A W' k → NB o W' k := fun k hk => by
  rcases hk with hk | hk
  · exact ⟨Nat.lt_of_lt_of_le hk.1 g, hk.2⟩
  · exact new_nb h k hk
theorem MV.ext (h : MV W o s) (g : Ext W W') : MV W' o s := fun b hb => ⟨(h b hb).1.kept g (h.block hb), (h b hb).2⟩
theorem RMV.ext (h : RMV W o s) (g : Ext W W') : RMV W' o s := fun b hb => ⟨(h b hb).1.grown (gb_of_ext g none) (by simp), (h b hb).2⟩
theorem MV.none (W : World) (s : MSt) : MV W none s := fun _ h => by cases h
theorem RMV.none (W : World) (s : MSt) : RMV W none s := fun _ h => by cases h
theorem gb_block {A B : World} {r : Option Nat} (g : A.grownBy B r) (h : ∀ b, o = some b → b < A.heap.size) : ∀ b, o = some b → b < B.heap.size := fun b hb => Nat.lt_of_lt_of_le (h b hb) g.size

theorem refuse_okS {s : MSt} (h : s.Ok) (e n : Int) : (s.refuse e n).Ok := by
  unfold MSt.refuse
  split
  · exact ⟨h.f0, h.f1, h.l0, h.l1, h.t0, h.t1, h.p0, h.p1, h.s0, h.s1, h.c0, h.c1⟩
  · exact h
theorem step_okS {s : MSt} (h : s.Ok) : s.step.2.Ok := by
  unfold MSt.step
  split
  · rename_i hlt
    exact ⟨h.f0, h.f1, h.l0, h.l1, h.t0, h.t1, h.p0, h.p1, by show 0 ≤ s.st + 1; have := h.s0; omega, by show s.st + 1 ≤ s.fu; omega, h.c0, h.c1⟩
  · exact refuse_okS h _ _
theorem keep_okS {s : MSt} (h : s.Ok) (n len : Nat) : (s.keep n len).2.Ok := by
  unfold MSt.keep
  split
  · exact refuse_okS h _ _
  · split
    · exact refuse_okS h _ _
    · exact h
theorem refused_okS {s : MSt} (h : s.Ok) (e : Int) : (s.refused e).Ok := by
  unfold MSt.refused
  split
  · exact refuse_okS h _ _
  · exact h

/-- what a method of a meter that may be none answers -/
def OMet (W : World) (o : Option Nat) (r : Int) (s : MSt) : Ending → World → Prop := fun e W' => e = .returned (.int .i64 r) ∧ MV W' o s ∧ W.grownBy W' o
def ORMet (W : World) (o : Option Nat) (r : Int) (s : MSt) : Ending → World → Prop := fun e W' => e = .returned (.int .i64 r) ∧ RMV W' o s ∧ W.grownBy W' o

theorem m_step (h : MV W o s) : Calls Tryz.prog 153 #[mval o] W (OMet W o (mstep o s).1 (mstep o s).2) := by
  cases o with
  | none => exact (nil_step W).mono (by rintro e w' ⟨rfl, rfl⟩; exact ⟨rfl, MV.none _ _, gb_refl _ _⟩)
  | some b => exact (step_any b s W (h b rfl).1 (h b rfl).2).mono (by rintro e w' ⟨rfl, k1, k2⟩; exact ⟨rfl, fun c hc => by cases hc; exact ⟨k1, step_okS (h b rfl).2⟩, k2⟩)
theorem m_keep (h : MV W o s) (hp : PM o W v p) : Calls Tryz.prog 140 #[mval o, v] W (OMet W o (mkeep o s p).1 (mkeep o s p).2) := by
  cases o with
  | none => exact (nil_keep v W).mono (by rintro e w' ⟨rfl, rfl⟩; exact ⟨rfl, MV.none _ _, gb_refl _ _⟩)
  | some b => exact (keep_any b s v (ofP p) W (h b rfl).1 hp (fun _ h => h.1)).mono (by rintro e w' ⟨rfl, k1, k2⟩; exact ⟨rfl, fun c hc => by cases hc; exact ⟨k1, keep_okS (h b rfl).2 _ _⟩, k2⟩)
theorem m_refuse (h : MV W o s) : Calls Tryz.prog 137 #[mval o, .int .i64 8] W (OMet W o 8 (mexp o s)) := by
  cases o with
  | none => exact (nil_refuse 8 W).mono (by rintro e w' ⟨rfl, rfl⟩; exact ⟨rfl, MV.none _ _, gb_refl _ _⟩)
  | some b => exact (Refuse_any b s 8 W (h b rfl).1).mono (by rintro e w' ⟨rfl, k1, k2⟩; exact ⟨rfl, fun c hc => by cases hc; exact ⟨k1, refused_okS (h b rfl).2 _⟩, k2⟩)

/-! The document's -/
theorem r_step (h : RMV W o s) : Calls Tryz.prog 64 #[mval o] W (ORMet W o (mstep o s).1 (mstep o s).2) := by
  cases o with
  | none =>
    show Calls _ _ #[.pointer none] _ _
    go_enter Tryz.func64, Tryz.ntmps64
    go_wp2
    go_ret
    exact ⟨rfl, RMV.none _ _, gb_refl _ _⟩
  | some b =>
    have HC := hid (refStep_any b s W (h b rfl).1 (h b rfl).2)
    have HO := hid (step_okS (h b rfl).2)
    clear h
    show Calls _ _ #[.pointer (some ⟨b, 0, none⟩)] _ _
    go_enter Tryz.func64, Tryz.ntmps64
    go_wp2_with fail
    with_reducible refine HC.out.mono ?_
    rintro e w' ⟨rfl, k1, k2⟩
    have K1 := hid k1
    have K2 := hid k2
    clear k1 k2
    go_wp2
    go_ret
    exact ⟨rfl, fun c hc => by cases hc; exact ⟨K1.out, HO.out⟩, K2.out⟩
theorem r_refuse (h : RMV W o s) : Calls Tryz.prog 67 #[mval o] W (ORMet W o 8 (mexp o s)) := by
  cases o with
  | none =>
    show Calls _ _ #[.pointer none] _ _
    go_enter Tryz.func67, Tryz.ntmps67
    go_wp2
    go_ret
    exact ⟨rfl, RMV.none _ _, gb_refl _ _⟩
  | some b =>
    have HC := hid (refRefuse2_any b s 8 W (h b rfl).1)
    have HO := hid (refused_okS (h b rfl).2 8)
    clear h
    show Calls _ _ #[.pointer (some ⟨b, 0, none⟩)] _ _
    go_enter Tryz.func67, Tryz.ntmps67
    go_wp2_with fail
    with_reducible refine HC.out.mono ?_
    rintro e w' ⟨rfl, k1, k2⟩
    have K1 := hid k1
    have K2 := hid k2
    clear k1 k2
    go_wp2
    go_ret
    exact ⟨rfl, fun c hc => by cases hc; exact ⟨K1.out, HO.out⟩, K2.out⟩
theorem r_keep (h : RMV W o s) (hp : RM o W v p) {k n : Nat} (fp : Fit k n p) (hk : k ≤ 90000) (hn : n ≤ 1000000000000) : Calls Tryz.prog 68 #[mval o, v] W (ORMet W o (mkeep o s p).1 (mkeep o s p).2) := by
  obtain ⟨a, c, rfl⟩ := hp.form
  cases o with
  | none =>
    clear hp fp
    show Calls _ _ #[.pointer none, _] _ _
    go_enter Tryz.func68, Tryz.ntmps68
    go_wp2
    go_ret
    exact ⟨rfl, RMV.none _ _, gb_refl _ _⟩
  | some b =>
    have HC := hid (rz_poly hp.rv fp hk hn)
    have HK := hid (fun (Y : World) (u : Value) (hY : Ext W Y) (hu : PV Y u p) => refKeep_any b s u (ofP p) Y ((h.ext hY) b rfl).1 hu)
    have HO := hid (fun n l => keep_okS (h b rfl).2 n l)
    obtain ⟨np, hnp⟩ : ∃ n, n = p.length := ⟨_, rfl⟩
    rw [← hnp] at HC ⊢
    clear h hp fp hnp
    show Calls _ _ #[.pointer (some ⟨b, 0, none⟩), _] _ _
    go_enter Tryz.func68, Tryz.ntmps68
    go_wp2_with fail
    with_reducible refine HC.out.mono ?_
    rintro e w1 ⟨v1, rfl, hp1, hx1⟩
    have HX1 := hid hx1
    have HK1 := hid (HK.out w1 v1 hx1 hp1)
    obtain ⟨a1, c1, rfl⟩ := hp1.form
    clear hx1 hp1
    go_wp2_with fail
    with_reducible refine HK1.out.mono ?_
    rintro e w' ⟨rfl, k1, k2⟩
    have K1 := hid k1
    have K2 := hid k2
    clear k1 k2
    go_wp2
    go_ret
    exact ⟨rfl, fun c hc => by cases hc; exact ⟨K1.out, HO.out _ _⟩, gb_trans (gb_of_ext HX1.out _) K2.out⟩
end
end Go.Proofs.YtcpfeepnfodifaaGreat

namespace Go.Proofs.YtcpfeepnfodifaaGreat
open Go.RowKit

theorem one_terms {w : World} {vm vo : Value} {t : RTerm} (h1 : U32s (Old w) w vm t.c.mag) (h2 : Pows (Old w) w vo t.m) (T : TypeId) :
    Terms (Old (w.alloc (.cells #[.bool t.c.neg, vm, vo] T))) (w.alloc (.cells #[.bool t.c.neg, vm, vo] T)) (.slice (some ⟨w.heap.size, 0, none⟩) 1 1) [t] := by
  have hx : Ext w (w.alloc (.cells #[.bool t.c.neg, vm, vo] T)) := Ext.alloc (Ext.refl w) _
  refine ⟨w.heap.size, 0, ⟨_, 1, rfl, Nat.le_refl _, by decide, fun _ => rfl, fun _ => by show w.heap.size < (w.alloc _).heap.size; rw [size_alloc]; omega⟩, fun j u hj => ?_⟩
  have hj2 := lt_of_some hj
  simp only [List.length_cons, List.length_nil] at hj2
  match j, hj with
  | 0, hj =>
    obtain rfl : t = u := by simpa using hj
    exact ⟨vm, vo, cell_new _ _ _ rfl rfl, cell_new _ _ _ rfl rfl, cell_new _ _ _ rfl rfl, h1.to (Kept.ext hx (fun _ h => h)) (fun k h => Nat.lt_of_lt_of_le h hx.size), h2.to (Kept.ext hx (fun _ h => h)) (fun k h => Nat.lt_of_lt_of_le h hx.size)⟩
  | j + 1, _ => omega

def oneZ (c : Int) (m : Mono) : PZ := if c = 0 then [] else [(c, m)]
theorem norm_one (c : Int) (m : Mono) : normP [(c, m)] = oneZ c m := by
  unfold oneZ
  show putP [] c m = _
  rfl
theorem oneZ_can {c : Int} {m : Mono} (h : mayM m = true) : canP (oneZ c m) := by
  unfold oneZ
  split
  · exact canP_nil
  · rename_i h0
    exact ⟨fun t ht => by rw [List.mem_singleton.1 ht]; exact ⟨h0, h⟩, List.pairwise_singleton _ _⟩
theorem fit_one {c : Int} {m : Mono} {k : Nat} (h : mayM m = true) (hk : lenI c ≤ k) : Fit k 1 (oneZ c m) := by
  refine ⟨oneZ_can h, fun t ht => ?_, ?_⟩
  · unfold oneZ at ht
    split at ht
    · simp at ht
    · rw [List.mem_singleton.1 ht]; exact lenI_mono hk (Nat.le_refl _)
  · unfold oneZ
    split <;> simp

set_option maxRecDepth 100000 in
set_option maxHeartbeats 8000000 in
theorem z_shift {W : World} {u vc vm : Value} {p : PZ} {c : Int} {m : Mono} {k n l : Nat} (hp : PV W u p) (hc : IntV (Old W) W vc (ofI c)) (hm : Pows (Old W) W vm m) (fp : Fit k n p) (hmm : mayM m = true) (hcl : lenI c ≤ l) (h24 : k < 24 ∨ l < 24) (hk : k ≤ 1000000) (hl : l ≤ 1000000) (hn : n ≤ 1000000000000) :
    Calls Tryz.prog 200 #[u, vc, vm] W (TimesPost W (timesP p (oneZ c m))) := by
  have hnot : ∀ (x : Bool) (w : World), (Op.unary .not (.bool x)).run Tryz.prog w = .ok (.bool (!x)) w := fun _ _ => rfl
  obtain ⟨vz, rfl, hz⟩ := hc
  have HP := hid hp
  have HZ := hid hz
  have HM := hid hm
  have CM := fun (Y : World) (hY : Ext W Y) => mono_may (S := Old W) vm m Y (hm.ext hY (fun _ h => h)) (fun k h => Nat.lt_of_lt_of_le h hY.size)
  simp only [hmm] at CM
  have HCM := hid CM
  have f1 := fit_one (m := m) hmm hcl
  have CC := hid (fun (Y : World) (hY : Ext W Y) => poly_collect (S := Old (Y.alloc (.cells #[.bool (ofI c).neg, vz, vm] 104))) (.slice (some ⟨Y.heap.size, 0, none⟩) 1 1) [⟨ofI c, m⟩] (Y.alloc (.cells #[.bool (ofI c).neg, vz, vm] 104)) 1000000
    (one_terms (t := ⟨ofI c, m⟩) ((hz.ext hY (fun _ h => h)).to (Kept.refl _ _) (fun k h => Nat.lt_of_lt_of_le h hY.size)) ((hm.ext hY (fun _ h => h)).to (Kept.refl _ _) (fun k h => Nat.lt_of_lt_of_le h hY.size)) 104) (fun _ h => h) (fun t ht => by rw [List.mem_singleton.1 ht]; exact hmm) (fun t ht => by rw [List.mem_singleton.1 ht]; show (ofI c).mag.length ≤ _; rw [ofI_len]; omega) (by decide) (by simp))
  have e1 : toP [⟨ofI c, m⟩] = [(c, m)] := by unfold toP; simp [valI_ofI]
  simp only [e1, norm_one] at CC
  have CT := hid (fun (Y : World) (u2 : Value) (hY : Ext W Y) (hu : PV Y u2 (oneZ c m)) => z_times (hp.on hY) hu fp f1 h24 hk hl (by omega))
  obtain ⟨ap, cp, rfl⟩ := hp.form
  obtain ⟨az, cz, rfl⟩ := hz.form
  obtain ⟨am, cm, rfl⟩ := hm.form
  obtain ⟨np, hnp⟩ : ∃ n, n = (ofP p).length := ⟨_, rfl⟩
  obtain ⟨nz, hnz⟩ : ∃ n, n = (ofI c).mag.length := ⟨_, rfl⟩
  obtain ⟨nm, hnm⟩ : ∃ n, n = m.length := ⟨_, rfl⟩
  obtain ⟨ng, hng⟩ : ∃ n, n = (ofI c).neg := ⟨_, rfl⟩
  rw [← hnp] at CT ⊢
  rw [← hnz, ← hng] at CC ⊢
  rw [← hnm] at CC HCM ⊢
  generalize timesP p (oneZ c m) = o at *
  have HK := hid (Ext.alloc (Ext.refl W) (.cells #[.bool ng, .slice az nz cz] 94))
  clear hp hz hm CM hmm hcl f1 e1 hnp hnz hnm hng
  go_enter Tryz.func200, Tryz.ntmps200
  go_wp2_with fail
  with_reducible refine (HCM.out _ HK.out).mono ?_
  rintro e w1 ⟨rfl, hx1⟩
  have k0 := hx1.new_cell (i := 0) rfl
  have k1 := hx1.new_cell (i := 1) rfl
  have HX1 := hid (HK.out.trans hx1)
  clear hx1
  go_wp2_with fail
  with_reducible refine (CC.out _ HX1.out).mono ?_
  rintro e w2 ⟨v2, rfl, hp2, hx2⟩
  have HX2 := hid ((HX1.out.alloc _).trans hx2)
  have CT2 := hid (CT.out w2 v2 HX2.out (hp2.to (Kept.refl _ _) New.lt))
  obtain ⟨a2, c2, rfl⟩ := hp2.form
  clear hp2 hx2 k0 k1
  go_wp2_with fail
  with_reducible refine CT2.out.mono ?_
  intro e w3 h3
  cases o with
  | none =>
    obtain ⟨rfl, hx3⟩ := h3
    have HX3 := hid (HX2.out.trans hx3)
    clear hx3
    go_wp2
    all_goals
      go_ret2
      exact ⟨rfl, HX3.out⟩
  | some x =>
    obtain ⟨v3, rfl, hp3, hx3⟩ := h3
    have HX3 := hid (HX2.out.trans hx3)
    have HP3 := hid (hp3.to (S' := New W w3) (Kept.refl _ _) (fun k h => ⟨Nat.le_trans HX2.out.size h.1, h.2⟩))
    clear hp3 hx3
    go_wp2
    all_goals
      go_ret2
      exact ⟨_, rfl, HP3.out, HX3.out⟩

end Go.Proofs.YtcpfeepnfodifaaGreat

namespace Go.Proofs.YtcpfeepnfodifaaGreat
open Go.RowKit

section
variable {W : World} {u v : Value} {p q : PZ} {k l n m : Nat}
set_option maxRecDepth 100000 in
theorem z_head (hp : PV W u p) (fp : Fit k n p) (hk : k ≤ 1000000) (hn : n ≤ 1000000000000) {x : Int} (hx : 1 ≤ x ∧ x ≤ 200) :
    Calls Tryz.prog 152 #[u, .int .i64 x] W fun e w' => ∃ v', e = .returned v' ∧ Terms (New W w') w' v' (ofP (headP p x)) ∧ Ext W w' := by
  have HX0 := hid (Ext.refl W)
  have HD := hid (z_degree hp fp hk (x := x) (by unfold inI64; omega))
  have hr := degP_range fp.can.may x
  have HC := hid (fun (Y : World) (hY : Ext W Y) => z_coef (Terms.on hp hY) fp hk hn hx (d := degP p x) (by unfold inI64; omega))
  obtain ⟨a, c, rfl⟩ := hp.form
  obtain ⟨np, hnp⟩ : ∃ n, n = (ofP p).length := ⟨_, rfl⟩
  rw [← hnp] at HD HC ⊢
  clear hp fp hnp
  go_enter Tryz.func152, Tryz.ntmps152
  go_wp2_with fail
  with_reducible refine HD.out.mono ?_
  rintro e w1 ⟨rfl, hx1⟩
  have HX1 := hid hx1
  have HC1 := hid (HC.out w1 hx1)
  clear hx1
  go_wp2_with fail
  with_reducible refine HC1.out.mono ?_
  rintro e w2 ⟨v2, rfl, hp2, hx2⟩
  have HX2 := hid (HX1.out.trans hx2)
  have HP2 := hid (hp2.to (S' := New W w2) (Kept.refl _ _) (fun k h => ⟨Nat.le_trans HX1.out.size h.1, h.2⟩))
  clear hp2 hx2
  go_wp2
  all_goals
    go_ret
    exact ⟨_, rfl, HP2.out, HX2.out⟩

/-- a variable's power -/
def powM (x : Int) (i : Nat) : Mono := if i = 0 then [] else [(x, (i : Int))]
theorem oneZ_pow (x : Int) (i : Nat) : oneZ 1 (powM x i) = powP x i := by
  unfold oneZ powM powP
  rw [if_neg (by decide)]
  split <;> rfl
theorem powM_may {x : Int} {i : Nat} (hx : 1 ≤ x ∧ x ≤ 200) (hi : i ≤ 10000) : mayM (powM x i) = true := by
  unfold powM
  split
  · rfl
  · exact one_may hx (by omega)
theorem z_power {x : Int} {i : Nat} (hx : 1 ≤ x ∧ x ≤ 200) (hi : i ≤ 10000) :
    Calls Tryz.prog 201 #[.int .i64 x, .int .i64 (i : Nat)] W fun e w' => ∃ v', e = .returned v' ∧ Pows (New W w') w' v' (powM x i) ∧ Ext W w' := by
  unfold powM
  by_cases h0 : i = 0
  · subst h0
    go_enter Tryz.func201, Tryz.ntmps201
    go_wp2
    all_goals
      go_ret
      exact ⟨_, rfl, Pows.empty _ _ _, Ext.refl _⟩
  · rw [if_neg h0]
    have q0 : ((i : Int) == 0) = false := by rw [beq_eq_false_iff_ne]; omega
    have HI := hid (show inI64 x ∧ inI64 (i : Int) from ⟨by unfold inI64; omega, by unfold inI64; omega⟩)
    clear hx hi
    go_enter Tryz.func201, Tryz.ntmps201
    go_wp2
    all_goals
      go_ret
      refine ⟨_, rfl, ⟨W.heap.size, 0, ⟨_, 1, rfl, Nat.le_refl _, by decide, fun _ => rfl, fun _ => ⟨Nat.le_refl _, by rw [size_alloc]; omega⟩⟩, fun j y hj => ?_⟩, Ext.alloc (Ext.refl _) _⟩
      have hj2 := lt_of_some hj
      match j, hj with
      | 0, hj =>
        obtain rfl : (x, (i : Int)) = y := by simpa using hj
        exact ⟨⟨HI.out.1, HI.out.2⟩, cell_new _ _ _ rfl rfl, cell_new _ _ _ rfl rfl⟩
      | j + 1, _ => simp only [List.length_cons, List.length_nil] at hj2; omega

theorem neg_times {p : PZ} (cp : canP p) : timesP p (oneZ (-1) []) = some (negP p) := by
  have e : oneZ (-1) [] = [((-1 : Int), ([] : Mono))] := rfl
  rw [e]
  have e2 : mulL p [((-1 : Int), ([] : Mono))] = negP p := by
    rw [mulL_one]
    unfold negP
    refine List.map_congr_left (fun t ht => ?_)
    rw [times_one_right (may_ok (cp.1 t ht).2), Int.mul_neg_one]
  have e3 := times_norm cp.may (q := [((-1 : Int), ([] : Mono))]) (fun t ht => by rw [List.mem_singleton.1 ht]; rfl) (by rw [e2]; exact (negP_can cp).may)
  rw [e3, e2, normP_of_can (negP_can cp)]

set_option maxRecDepth 100000 in
theorem z_neg (hp : PV W u p) (fp : Fit k n p) (hk : k ≤ 1000000) (hn : n ≤ 1000000000000) : Calls Tryz.prog 182 #[u] W (OkPoly W (negP p)) := by
  have C1 := hid (whole_of (-1) W (by decide))
  have C2 := hid (fun (Y : World) (vz : Value) (hY : Ext W Y) (hz : IntV (Old Y) Y vz (ofI (-1))) => z_shift (c := -1) (m := []) (l := 1) (Terms.on hp hY) hz (Pows.empty (Old Y) Y none) fp rfl (by decide) (.inr (by decide)) hk (by decide) hn)
  simp only [neg_times fp.can] at C2
  unfold TimesPost OkPoly at C2
  obtain ⟨a, c, rfl⟩ := hp.form
  obtain ⟨np, hnp⟩ : ∃ n, n = (ofP p).length := ⟨_, rfl⟩
  rw [← hnp] at C2 ⊢
  unfold OkPoly
  clear hp fp hnp
  go_enter Tryz.func182, Tryz.ntmps182
  go_wp2_with fail
  with_reducible refine C1.out.mono ?_
  rintro e w1 ⟨v1, rfl, ⟨vz, rfl, hz⟩, hx1⟩
  have HX1 := hid hx1
  have C3 := hid (C2.out w1 (.agg #[.bool (ofI (-1)).neg, vz]) hx1 ⟨vz, rfl, hz.to (Kept.refl _ _) New.lt⟩)
  obtain ⟨az, cz, rfl⟩ := hz.form
  obtain ⟨nz, hnz⟩ : ∃ n, n = (ofI (-1)).mag.length := ⟨_, rfl⟩
  obtain ⟨ng, hng⟩ : ∃ n, n = (ofI (-1)).neg := ⟨_, rfl⟩
  rw [← hnz, ← hng] at C3 ⊢
  clear hz hx1 hnz hng
  go_wp2_with fail
  with_reducible refine C3.out.mono ?_
  rintro e w2 ⟨v2, rfl, hp2, hx2⟩
  have HX2 := hid (HX1.out.trans hx2)
  have HP2 := hid (hp2.to (S' := New W w2) (Kept.refl _ _) (fun k h => ⟨Nat.le_trans HX1.out.size h.1, h.2⟩))
  clear hp2 hx2
  go_wp2
  all_goals
    go_ret2
    exact ⟨_, rfl, HP2.out, HX2.out⟩
end
end Go.Proofs.YtcpfeepnfodifaaGreat

namespace Go.Proofs.YtcpfeepnfodifaaGreat
open Go.RowKit

/-- a division that goes on, as it lies in memory -/
structure DivAt (W : World) (bd : Nat) (vm : Value) (v d : Int) (vg vh vq vr : Value) (n : Int) (keep : Bool) : Prop where
  c0 : W.cell? ⟨bd, 0, none⟩ = some vm
  c1 : W.cell? ⟨bd, 1, none⟩ = some (.int .i64 v)
  c2 : W.cell? ⟨bd, 2, none⟩ = some (.int .i64 d)
  c3 : W.cell? ⟨bd, 3, none⟩ = some vg
  c4 : W.cell? ⟨bd, 4, none⟩ = some vh
  c5 : W.cell? ⟨bd, 5, none⟩ = some vq
  c6 : W.cell? ⟨bd, 6, none⟩ = some vr
  c7 : W.cell? ⟨bd, 7, none⟩ = some (.int .i64 n)
  c8 : W.cell? ⟨bd, 8, none⟩ = some (.bool keep)
  fz : ∀ i, W.frozen? ⟨bd, i, none⟩ = false
section
variable {W W' : World} {bd : Nat} {vm vg vh vq vr : Value} {v d n : Int} {keep : Bool}
theorem DivAt.same (h : DivAt W bd vm v d vg vh vq vr n keep) (e : W'.heap[bd]? = W.heap[bd]?) : DivAt W' bd vm v d vg vh vq vr n keep := by
  have hc : ∀ i, W'.cell? ⟨bd, i, none⟩ = W.cell? ⟨bd, i, none⟩ := fun i => World.cell?_of_block e
  exact ⟨(hc _).trans h.c0, (hc _).trans h.c1, (hc _).trans h.c2, (hc _).trans h.c3, (hc _).trans h.c4, (hc _).trans h.c5, (hc _).trans h.c6, (hc _).trans h.c7, (hc _).trans h.c8, fun i => (World.frozen?_of_block (w := W) (a := ⟨bd, i, none⟩) e).trans (h.fz i)⟩
theorem DivAt.lt (h : DivAt W bd vm v d vg vh vq vr n keep) : bd < W.heap.size := lt_of_cell h.c0
theorem DivAt.ext (h : DivAt W bd vm v d vg vh vq vr n keep) (g : Ext W W') : DivAt W' bd vm v d vg vh vq vr n keep := h.same (g.block bd h.lt)
end

theorem cells3_on {W W' : World} {a b c : Addr} {x y z : Value} (g : Ext W W') (ha : a.block < W.heap.size) (hb : b.block < W.heap.size) (hc : c.block < W.heap.size) (h : W.cell? a = some x ∧ W.cell? b = some y ∧ W.cell? c = some z) : W'.cell? a = some x ∧ W'.cell? b = some y ∧ W'.cell? c = some z :=
  ⟨(Below.cell g ha).trans h.1, (Below.cell g hb).trans h.2.1, (Below.cell g hc).trans h.2.2⟩
theorem IntV.on {w W : World} {v : Value} {z : RInt} (h : IntV (Old w) w v z) (hx : Ext w W) : IntV (Old W) W v z := h.to (Kept.ext hx (fun _ h => h)) (old_lt hx)

set_option maxRecDepth 100000 in
set_option maxHeartbeats 8000000 in
theorem div_term {W : World} {bd : Nat} {vm vg vh vq vr : Value} {v d n : Int} {keep : Bool} {r : PZ} {k m : Nat} (D : DivAt W bd vm v d vg vh vq vr n keep) (hr : PV W vr r) (fr : Fit k m r) (hk : k ≤ 1000000) (hm : m ≤ 1000000000000) (hv : 1 ≤ v ∧ v ≤ 200) (hd : 0 ≤ d) (hdr : d ≤ degP r v) :
    Calls Tryz.prog 181 #[.pointer (some ⟨bd, 0, none⟩)] W (TimesPost W (termD r v d)) := by
  have hrg := degP_range fr.can.may v
  obtain ⟨i, hi⟩ : ∃ i : Nat, i = (degP r v - d).toNat := ⟨_, rfl⟩
  have hi2 : (i : Int) = degP r v - d := by omega
  have hi3 : i ≤ 10000 := by omega
  have fh := fr.coef v (degP r v)
  have CH := fun (Y : World) (hY : Ext W Y) => z_head (W := Y) (Terms.on hr hY) fr hk hm hv
  have CO := fun (Y : World) => whole_of 1 Y (by decide)
  have CD := fun (Y : World) (hY : Ext W Y) => z_degree (W := Y) (Terms.on hr hY) fr hk (x := v) (by unfold inI64; omega)
  have CP := fun (Y : World) => z_power (W := Y) hv hi3
  have CS := fun (Y : World) (u z w : Value) (hu : PV Y u (headP r v)) (hz : IntV (Old Y) Y z (ofI 1)) (hw : Pows (Old Y) Y w (powM v i)) => z_shift (c := 1) (m := powM v i) (l := 1) hu hz hw fh (powM_may hv hi3) (by decide) (.inr (by decide)) hk (by decide) hm
  simp only [oneZ_pow] at CS
  have et : termD r v d = timesP (headP r v) (powP v i) := by unfold termD; rw [← hi]
  rw [← et] at CS
  rw [hi2] at CP
  obtain ⟨dr, hdr2⟩ : ∃ x, x = degP r v := ⟨_, rfl⟩
  rw [← hdr2] at CP CD hrg hdr
  generalize powM v i = pm at CP CS
  generalize termD r v d = T at CS et ⊢
  generalize headP r v = hp at CH CS
  obtain ⟨ar, cr, rfl⟩ := hr.form
  obtain ⟨nr, hnr⟩ : ∃ n, n = (ofP r).length := ⟨_, rfl⟩
  rw [← hnr] at CH CD D
  obtain ⟨nh, hnh⟩ : ∃ n, n = (ofP hp).length := ⟨_, rfl⟩
  obtain ⟨np, hnp⟩ : ∃ n, n = pm.length := ⟨_, rfl⟩
  obtain ⟨nz, hnz⟩ : ∃ n, n = (ofI 1).mag.length := ⟨_, rfl⟩
  obtain ⟨ng, hng⟩ : ∃ n, n = (ofI 1).neg := ⟨_, rfl⟩
  have HNH := hid hnh
  have HNP := hid hnp
  have HNZ := hid hnz
  have HNG := hid hng
  have hb := D.lt
  have HWR : Hid (IntKind.i64.wrap (dr - d) = dr - d) := hid (IntWalk.i64_in _ (by omega))
  have HCC : Hid (_ ∧ _ ∧ _) := hid (And.intro D.c1 (And.intro D.c2 D.c6))
  have HB := hid hb
  have x0 : Ext W W.drew := (Ext.refl W).drew
  have HXC := hid x0
  have SC : _ ∧ _ ∧ _ := cells3_on x0 hb hb hb HCC.out
  have HCH := hid CH
  have HCO := hid CO
  have HCD := hid CD
  have HCP := hid CP
  have HCS := hid CS
  clear CH CO CD CP CS D hr fr fh et hi hi2 hi3 hdr2 hnr hnh hnp hnz hng hb x0
  cases T with
  | none =>
    go_enter Tryz.func181, Tryz.ntmps181
    go_wp2
    go_region_held3 (fun Y => Y.cell? ⟨bd, 1, none⟩ = some (.int .i64 v) ∧ Y.cell? ⟨bd, 2, none⟩ = some (.int .i64 d) ∧ Y.cell? ⟨bd, 6, none⟩ = some (.slice ar nr cr)) (with_reducible exact SC)
      (first
        | (go_at_call 152; (with_reducible refine (HCH.out _ HXC.out).mono ?_); rintro e wh ⟨v1, rfl, hp1, hx1⟩; have HXC := hid (HXC.out.trans hx1); have SC : _ ∧ _ ∧ _ := cells3_on HXC.out HB.out HB.out HB.out HCC.out
           try have HPP := hid (Pows.on HPP.out hx1)
           try have HPI := hid (IntV.on HPI.out hx1)
           have HPH := hid (hp1.to (S' := Old wh) (Kept.refl _ _) New.lt); obtain ⟨ah, ch, rfl⟩ := hp1.form; rw [← HNH.out] at HPH; rw [← HNH.out]; clear hp1 hx1)
        | (go_at_call 76; (with_reducible refine (HCO.out _).mono ?_); rintro e wo ⟨v1, rfl, ⟨vz, rfl, hz1⟩, hx1⟩; have HXC := hid (HXC.out.trans hx1); have SC : _ ∧ _ ∧ _ := cells3_on HXC.out HB.out HB.out HB.out HCC.out
           try have HPP := hid (Pows.on HPP.out hx1)
           try have HPH := hid (Terms.on HPH.out hx1)
           obtain ⟨az, cz, rfl⟩ := hz1.form
           have HPI : Hid (IntV (Old wo) wo (.agg #[.bool ng, .slice az nz cz]) (ofI 1)) := hid ⟨_, by rw [HNG.out], by rw [HNZ.out]; exact hz1.to (Kept.refl _ _) New.lt⟩; rw [← HNZ.out, ← HNG.out]; clear hz1 hx1)
        | (go_at_call 24; (with_reducible refine (HCD.out _ HXC.out).mono ?_); rintro e wd ⟨rfl, hx1⟩; have HXC := hid (HXC.out.trans hx1); have SC : _ ∧ _ ∧ _ := cells3_on HXC.out HB.out HB.out HB.out HCC.out
           try have HPP := hid (Pows.on HPP.out hx1)
           try have HPI := hid (IntV.on HPI.out hx1)
           try have HPH := hid (Terms.on HPH.out hx1)
           clear hx1)
        | (go_at_call 201; rw [HWR.out]; (with_reducible refine (HCP.out _).mono ?_); rintro e wp ⟨v1, rfl, hp1, hx1⟩; have HXC := hid (HXC.out.trans hx1); have SC : _ ∧ _ ∧ _ := cells3_on HXC.out HB.out HB.out HB.out HCC.out
           try have HPI := hid (IntV.on HPI.out hx1)
           try have HPH := hid (Terms.on HPH.out hx1)
           have HPP := hid (hp1.to (S' := Old wp) (Kept.refl _ _) New.lt); obtain ⟨ap, cp, rfl⟩ := hp1.form; rw [← HNP.out] at HPP; rw [← HNP.out]; clear hp1 hx1)
        | (go_at_call 200; (with_reducible refine (HCS.out _ _ _ _ HPH.out HPI.out HPP.out).mono ?_); rintro e ws ⟨rfl, hx1⟩; have HXC := hid (HXC.out.trans hx1); have SC : _ ∧ _ ∧ _ := cells3_on HXC.out HB.out HB.out HB.out HCC.out; clear hx1))
    all_goals
      go_wp2
      all_goals
        go_ret2
        exact ⟨rfl, HXC.out⟩
  | some t =>
    go_enter Tryz.func181, Tryz.ntmps181
    go_wp2
    go_region_held3 (fun Y => Y.cell? ⟨bd, 1, none⟩ = some (.int .i64 v) ∧ Y.cell? ⟨bd, 2, none⟩ = some (.int .i64 d) ∧ Y.cell? ⟨bd, 6, none⟩ = some (.slice ar nr cr)) (with_reducible exact SC)
      (first
        | (go_at_call 152; (with_reducible refine (HCH.out _ HXC.out).mono ?_); rintro e wh ⟨v1, rfl, hp1, hx1⟩; have HXC := hid (HXC.out.trans hx1); have SC : _ ∧ _ ∧ _ := cells3_on HXC.out HB.out HB.out HB.out HCC.out
           try have HPP := hid (Pows.on HPP.out hx1)
           try have HPI := hid (IntV.on HPI.out hx1)
           have HPH := hid (hp1.to (S' := Old wh) (Kept.refl _ _) New.lt); obtain ⟨ah, ch, rfl⟩ := hp1.form; rw [← HNH.out] at HPH; rw [← HNH.out]; clear hp1 hx1)
        | (go_at_call 76; (with_reducible refine (HCO.out _).mono ?_); rintro e wo ⟨v1, rfl, ⟨vz, rfl, hz1⟩, hx1⟩; have HXC := hid (HXC.out.trans hx1); have SC : _ ∧ _ ∧ _ := cells3_on HXC.out HB.out HB.out HB.out HCC.out
           try have HPP := hid (Pows.on HPP.out hx1)
           try have HPH := hid (Terms.on HPH.out hx1)
           obtain ⟨az, cz, rfl⟩ := hz1.form
           have HPI : Hid (IntV (Old wo) wo (.agg #[.bool ng, .slice az nz cz]) (ofI 1)) := hid ⟨_, by rw [HNG.out], by rw [HNZ.out]; exact hz1.to (Kept.refl _ _) New.lt⟩; rw [← HNZ.out, ← HNG.out]; clear hz1 hx1)
        | (go_at_call 24; (with_reducible refine (HCD.out _ HXC.out).mono ?_); rintro e wd ⟨rfl, hx1⟩; have HXC := hid (HXC.out.trans hx1); have SC : _ ∧ _ ∧ _ := cells3_on HXC.out HB.out HB.out HB.out HCC.out
           try have HPP := hid (Pows.on HPP.out hx1)
           try have HPI := hid (IntV.on HPI.out hx1)
           try have HPH := hid (Terms.on HPH.out hx1)
           clear hx1)
        | (go_at_call 201; rw [HWR.out]; (with_reducible refine (HCP.out _).mono ?_); rintro e wp ⟨v1, rfl, hp1, hx1⟩; have HXC := hid (HXC.out.trans hx1); have SC : _ ∧ _ ∧ _ := cells3_on HXC.out HB.out HB.out HB.out HCC.out
           try have HPI := hid (IntV.on HPI.out hx1)
           try have HPH := hid (Terms.on HPH.out hx1)
           have HPP := hid (hp1.to (S' := Old wp) (Kept.refl _ _) New.lt); obtain ⟨ap, cp, rfl⟩ := hp1.form; rw [← HNP.out] at HPP; rw [← HNP.out]; clear hp1 hx1)
        | (go_at_call 200; (with_reducible refine (HCS.out _ _ _ _ HPH.out HPI.out HPP.out).mono ?_); rintro e ws ⟨v1, rfl, hp1, hx1⟩; have HPT := hid (hp1.to (S' := New W ws) (Kept.refl _ _) (fun k h => ⟨Nat.le_trans HXC.out.size h.1, h.2⟩)); have HXC := hid (HXC.out.trans hx1); have SC : _ ∧ _ ∧ _ := cells3_on HXC.out HB.out HB.out HB.out HCC.out; clear hx1 hp1))
    all_goals
      go_wp2
      all_goals
        go_ret2
        exact ⟨_, rfl, HPT.out, HXC.out⟩
end Go.Proofs.YtcpfeepnfodifaaGreat

namespace Go.Proofs.YtcpfeepnfodifaaGreat
open Go.RowKit

section
variable {W : World} {bd : Nat} {vm vg vh vq vr vp vo : Value} {v d n : Int} {keep : Bool} {h p q : PZ} {A B T M L l : Nat}
/-- the head times one, and one more added -/
def mixD (h p q : PZ) : Option PZ := match timesP h p with
  | none => none
  | some u => some (normP (u ++ q))

set_option maxRecDepth 100000 in
set_option maxHeartbeats 4000000 in
theorem div_mixed (D : DivAt W bd vm v d vg vh vq vr n keep) (hh : PV W vh h) (hp : PV W vp p) (hq : PV W vo q) (fh : Fit A T h) (fp : Fit B M p) (fq : Fit l L q) (hA : A < 24) (hB : B ≤ 900000) (hl : l ≤ 900000) (hTM : T * M + L ≤ 1000000000000) :
    Calls Tryz.prog 183 #[.pointer (some ⟨bd, 0, none⟩), vp, vo] W (TimesPost W (mixD h p q)) := by
  have HX0 := hid (Ext.refl W)
  have CT := z_times hh hp fh fp (.inl hA) (by omega) (by omega) (by omega)
  have CA := fun (Y : World) (w : Value) (u : PZ) (hu : timesP h p = some u) (hY : Ext W Y) (hw : PV Y w u) => z_add hw (Terms.on hq hY) (fh.times fp hu (by omega)) fq (by omega) (by omega) hTM
  obtain ⟨ah, ch, rfl⟩ := hh.form
  obtain ⟨ap, cp, rfl⟩ := hp.form
  obtain ⟨aq, cq, rfl⟩ := hq.form
  obtain ⟨nh, hnh⟩ : ∃ n, n = (ofP h).length := ⟨_, rfl⟩
  obtain ⟨np, hnp⟩ : ∃ n, n = (ofP p).length := ⟨_, rfl⟩
  obtain ⟨nq, hnq⟩ : ∃ n, n = (ofP q).length := ⟨_, rfl⟩
  rw [← hnh] at D CT
  rw [← hnp] at CT ⊢
  rw [← hnq] at CA ⊢
  have d4 := D.c4
  have em : mixD h p q = match timesP h p with
    | none => none
    | some u => some (normP (u ++ q)) := rfl
  rw [em]
  cases hT : timesP h p with
  | none =>
    rw [hT] at CT
    have HCT := hid CT
    clear D hh hp hq fh fp fq CT CA hnh hnp hnq hT em
    go_enter Tryz.func183, Tryz.ntmps183
    go_wp2_with fail
    with_reducible refine HCT.out.mono ?_
    rintro e w1 ⟨rfl, hx1⟩
    have HX1 := hid hx1
    clear hx1
    go_wp2
    all_goals
      go_ret2
      exact ⟨rfl, HX1.out⟩
  | some u =>
    rw [hT] at CT
    have HCT := hid CT
    have HCA := hid (fun Y w hY hw => CA Y w u hT hY hw)
    clear D hh hp hq fh fp fq CT CA hnh hnp hnq hT em
    go_enter Tryz.func183, Tryz.ntmps183
    go_wp2_with fail
    with_reducible refine HCT.out.mono ?_
    rintro e w1 ⟨v1, rfl, hp1, hx1⟩
    have HX1 := hid hx1
    have HA1 := hid (HCA.out w1 v1 hx1 (hp1.to (Kept.refl _ _) New.lt))
    obtain ⟨a1, c1, rfl⟩ := hp1.form
    clear hx1 hp1
    go_wp2_with fail
    with_reducible refine HA1.out.mono ?_
    rintro e w2 ⟨v2, rfl, hp2, hx2⟩
    have HX2 := hid (HX1.out.trans hx2)
    have HP2 := hid (hp2.to (S' := New W w2) (Kept.refl _ _) (fun k h => ⟨Nat.le_trans HX1.out.size h.1, h.2⟩))
    clear hp2 hx2
    go_wp2
    all_goals
      go_ret2
      exact ⟨_, rfl, HP2.out, HX2.out⟩
end

theorem stepD_mix (keep : Bool) (g h : PZ) (v d : Int) (q r : PZ) : stepD keep g h v d q r = match termD r v d with
    | none => none
    | some t => match timesP t g with
      | none => none
      | some l => match mixD h r (negP l) with
        | none => none
        | some x => if keep then (match mixD h q t with
            | none => none
            | some y => some (y, x))
          else some ([], x) := by
  unfold stepD mixD
  cases termD r v d with
  | none => rfl
  | some t =>
    simp only
    cases timesP t g with
    | none => rfl
    | some l =>
      simp only
      cases timesP h r with
      | none => rfl
      | some m =>
        simp only
        cases keep with
        | false => rfl
        | true =>
          simp only [if_true]
          cases timesP h q with
          | none => rfl
          | some u => rfl

/-- what is told behind a step -/
def MadePost (W : World) : Option (PZ × PZ) → Ending → World → Prop
  | none => fun e w' => ∃ a b, e = .returned (.tuple #[a, b, .int .i64 8]) ∧ Ext W w'
  | some x => fun e w' => ∃ a b, e = .returned (.tuple #[a, b, .int .i64 0]) ∧ Terms (New W w') w' a (ofP x.1) ∧ Terms (New W w') w' b (ofP x.2) ∧ Ext W w'

set_option maxRecDepth 100000 in
set_option maxHeartbeats 8000000 in
theorem div_made {W : World} {bd : Nat} {vm vg vh vq vr : Value} {v d n : Int} {keep : Bool} {g h q r : PZ} {A B T M : Nat} (D : DivAt W bd vm v d vg vh vq vr n keep) (hg : PV W vg g) (hh : PV W vh h) (hq : PV W vq q) (hr : PV W vr r) (fg : Fit A T g) (fh : Fit A T h) (fq : Fit B M q) (fr : Fit B M r)
    (hA : A < 24) (hB : B ≤ 80000) (hT : 1 ≤ T) (hTM : 2 * T * M ≤ 1000000000000) (hv : 1 ≤ v ∧ v ≤ 200) (hd : 0 ≤ d) (hdr : d ≤ degP r v) :
    Calls Tryz.prog 154 #[.pointer (some ⟨bd, 0, none⟩)] W (MadePost W (stepD keep g h v d q r)) := by
  have HX0 := hid (Ext.refl W)
  have h1 : M ≤ T * M := Nat.le_mul_of_pos_left M hT
  have h2 : 2 * T * M = T * M + T * M := by rw [Nat.mul_assoc]; omega
  have h3 : M * T = T * M := Nat.mul_comm _ _
  have CT := div_term D hr fr (by omega) (by omega) hv hd hdr
  have CG := fun (t : PZ) (ht : termD r v d = some t) (Y : World) (w : Value) (hY : Ext W Y) (hw : PV Y w t) => z_times hw (Terms.on hg hY) (term_fit fr (by omega) hv hd ht) fg (.inr hA) (by omega) (by omega) (by omega)
  have CN := fun (t l : PZ) (ht : termD r v d = some t) (hl : timesP t g = some l) (Y : World) (w : Value) (hw : PV Y w l) => z_neg hw ((term_fit fr (by omega) hv hd ht).times fg hl (by omega)) (by omega) (by omega)
  have CR := fun (t l : PZ) (ht : termD r v d = some t) (hl : timesP t g = some l) (Y : World) (w : Value) (hY : Ext W Y) (hw : PV Y w (negP l)) => div_mixed (D.ext hY) (Terms.on hh hY) (Terms.on hr hY) hw fh fr ((term_fit fr (by omega) hv hd ht).times fg hl (by omega)).neg hA (by omega) (by omega) (by omega)
  have CQ := fun (t : PZ) (ht : termD r v d = some t) (Y : World) (w : Value) (hY : Ext W Y) (hw : PV Y w t) => div_mixed (D.ext hY) (Terms.on hh hY) (Terms.on hq hY) hw fh fq (term_fit fr (by omega) hv hd ht) hA (by omega) (by omega) (by omega)
  obtain ⟨ag, cg, rfl⟩ := hg.form
  obtain ⟨aq, cq, rfl⟩ := hq.form
  obtain ⟨ar, cr, rfl⟩ := hr.form
  obtain ⟨ng, hng⟩ : ∃ n, n = (ofP g).length := ⟨_, rfl⟩
  obtain ⟨nq, hnq⟩ : ∃ n, n = (ofP q).length := ⟨_, rfl⟩
  obtain ⟨nr, hnr⟩ : ∃ n, n = (ofP r).length := ⟨_, rfl⟩
  rw [← hng] at CG D
  rw [← hnq] at CQ D
  rw [← hnr] at CR D
  have HD := hid D
  rw [stepD_mix]
  cases ht : termD r v d with
  | none =>
    rw [ht] at CT
    have HCT := hid CT
    simp only
    clear D hg hh hq hr fg fh fq fr CT CG CN CR CQ hng hnq hnr h1 h2 h3 hdr hd hv ht hTM
    go_enter Tryz.func154, Tryz.ntmps154
    go_wp2_with fail
    with_reducible refine HCT.out.mono ?_
    rintro e w1 ⟨rfl, hx1⟩
    have HX1 := hid hx1
    clear hx1
    go_wp2
    all_goals
      refine bodyPost_ret (v := .tuple #[.slice none 0 0, .slice none 0 0, .int .i64 8]) (by simp [results, Tryz.results154, go_sem]) rfl ?_
      exact ⟨_, _, rfl, HX1.out⟩
  | some t =>
    rw [ht] at CT
    have HCT := hid CT
    have HCG := hid (CG t ht)
    have HCN := hid (fun l => CN t l ht)
    have HCR := hid (fun l => CR t l ht)
    have HCQ := hid (CQ t ht)
    simp only
    cases hl : timesP t g with
    | none =>
      rw [hl] at HCG
      simp only
      clear D hg hh hq hr fg fh fq fr CT CG CN CR CQ hng hnq hnr h1 h2 h3 hdr hd hv ht hTM hl
      go_enter Tryz.func154, Tryz.ntmps154
      go_wp2_with fail
      with_reducible refine HCT.out.mono ?_
      rintro e w1 ⟨v1, rfl, hp1, hx1⟩
      have HX1 := hid hx1
      have d3 := (HD.out.ext hx1).c3
      have HT1 := hid (hp1.to (S' := Old w1) (Kept.refl _ _) New.lt)
      have HG1 := hid (HCG.out w1 v1 hx1 HT1.out)
      obtain ⟨a1, c1, rfl⟩ := hp1.form
      obtain ⟨n1, hn1⟩ : ∃ n, n = (ofP t).length := ⟨_, rfl⟩
      rw [← hn1] at HG1 HT1 ⊢
      clear hx1 hp1 hn1
      go_wp2_with fail
      with_reducible refine HG1.out.mono ?_
      rintro e w2 ⟨rfl, hx2⟩
      have HX2 := hid (HX1.out.trans hx2)
      clear hx2
      go_wp2
      all_goals
        refine bodyPost_ret (v := .tuple #[.slice none 0 0, .slice none 0 0, .int .i64 8]) (by simp [results, Tryz.results154, go_sem]) rfl ?_
        exact ⟨_, _, rfl, HX2.out⟩
    | some l =>
      rw [hl] at HCG
      have HN := hid (HCN.out l hl)
      have HR := hid (HCR.out l hl)
      clear HCN HCR
      simp only
      clear D hg hh hq hr fg fh fq fr CT CG CN CR CQ hng hnq hnr h1 h2 h3 hdr hd hv ht hTM hl
      generalize mixD h r (negP l) = X1 at HR ⊢
      generalize mixD h q t = X2 at HCQ ⊢
      cases X1 with
      | none =>
        simp only
        go_enter Tryz.func154, Tryz.ntmps154
        go_wp2_with fail
        with_reducible refine HCT.out.mono ?_
        rintro e w1 ⟨v1, rfl, hp1, hx1⟩
        have HX1 := hid hx1
        have d3 := (HD.out.ext hx1).c3
        have HT1 := hid (hp1.to (S' := Old w1) (Kept.refl _ _) New.lt)
        have HG1 := hid (HCG.out w1 v1 hx1 HT1.out)
        obtain ⟨a1, c1, rfl⟩ := hp1.form
        obtain ⟨n1, hn1⟩ : ∃ n, n = (ofP t).length := ⟨_, rfl⟩
        rw [← hn1] at HG1 HT1 ⊢
        clear hx1 hp1 hn1
        go_wp2_with fail
        with_reducible refine HG1.out.mono ?_
        rintro e w2 ⟨v2, rfl, hp2, hx2⟩
        have HX2 := hid (HX1.out.trans hx2)
        have HT2 := hid (Terms.on HT1.out hx2)
        have HN2 := hid (HN.out w2 v2 (hp2.to (Kept.refl _ _) New.lt))
        obtain ⟨a2, c2, rfl⟩ := hp2.form
        obtain ⟨n2, hn2⟩ : ∃ n, n = (ofP l).length := ⟨_, rfl⟩
        rw [← hn2] at HN2 ⊢
        clear hx2 hp2 hn2 d3
        go_wp2_with fail
        with_reducible refine HN2.out.mono ?_
        rintro e w3 ⟨v3, rfl, hp3, hx3⟩
        have HX3 := hid (HX2.out.trans hx3)
        have HT3 := hid (Terms.on HT2.out hx3)
        have d6 := (HD.out.ext HX3.out).c6
        have HR3 := hid (HR.out w3 v3 HX3.out (hp3.to (Kept.refl _ _) New.lt))
        obtain ⟨a3, c3, rfl⟩ := hp3.form
        obtain ⟨n3, hn3⟩ : ∃ n, n = (ofP (negP l)).length := ⟨_, rfl⟩
        rw [← hn3] at HR3 ⊢
        clear hx3 hp3 hn3
        go_wp2_with fail
        with_reducible refine HR3.out.mono ?_
        rintro e w4 ⟨rfl, hx4⟩
        have HX4 := hid (HX3.out.trans hx4)
        clear hx4 d6
        go_wp2
        all_goals
          refine bodyPost_ret (v := .tuple #[.slice none 0 0, .slice none 0 0, .int .i64 8]) (by simp [results, Tryz.results154, go_sem]) rfl ?_
          exact ⟨_, _, rfl, HX4.out⟩
      | some x =>
        simp only
        cases keep with
        | false =>
          simp only [Bool.false_eq_true, if_false]
          go_enter Tryz.func154, Tryz.ntmps154
          go_wp2_with fail
          with_reducible refine HCT.out.mono ?_
          rintro e w1 ⟨v1, rfl, hp1, hx1⟩
          have HX1 := hid hx1
          have d3 := (HD.out.ext hx1).c3
          have HT1 := hid (hp1.to (S' := Old w1) (Kept.refl _ _) New.lt)
          have HG1 := hid (HCG.out w1 v1 hx1 HT1.out)
          obtain ⟨a1, c1, rfl⟩ := hp1.form
          obtain ⟨n1, hn1⟩ : ∃ n, n = (ofP t).length := ⟨_, rfl⟩
          rw [← hn1] at HG1 HT1 ⊢
          clear hx1 hp1 hn1
          go_wp2_with fail
          with_reducible refine HG1.out.mono ?_
          rintro e w2 ⟨v2, rfl, hp2, hx2⟩
          have HX2 := hid (HX1.out.trans hx2)
          have HT2 := hid (Terms.on HT1.out hx2)
          have HN2 := hid (HN.out w2 v2 (hp2.to (Kept.refl _ _) New.lt))
          obtain ⟨a2, c2, rfl⟩ := hp2.form
          obtain ⟨n2, hn2⟩ : ∃ n, n = (ofP l).length := ⟨_, rfl⟩
          rw [← hn2] at HN2 ⊢
          clear hx2 hp2 hn2 d3
          go_wp2_with fail
          with_reducible refine HN2.out.mono ?_
          rintro e w3 ⟨v3, rfl, hp3, hx3⟩
          have HX3 := hid (HX2.out.trans hx3)
          have HT3 := hid (Terms.on HT2.out hx3)
          have d6 := (HD.out.ext HX3.out).c6
          have HR3 := hid (HR.out w3 v3 HX3.out (hp3.to (Kept.refl _ _) New.lt))
          obtain ⟨a3, c3, rfl⟩ := hp3.form
          obtain ⟨n3, hn3⟩ : ∃ n, n = (ofP (negP l)).length := ⟨_, rfl⟩
          rw [← hn3] at HR3 ⊢
          clear hx3 hp3 hn3
          go_wp2_with fail
          with_reducible refine HR3.out.mono ?_
          rintro e w4 ⟨v4, rfl, hp4, hx4⟩
          have HX4 := hid (HX3.out.trans hx4)
          have HP4 := hid (hp4.to (S' := New W w4) (Kept.refl _ _) (fun k h => ⟨Nat.le_trans HX3.out.size h.1, h.2⟩))
          have HT4 := hid (Terms.on HT3.out hx4)
          have d8 := (HD.out.ext HX4.out).c8
          have d5 := (HD.out.ext HX4.out).c5
          obtain ⟨a4, c4, rfl⟩ := hp4.form
          obtain ⟨n4, hn4⟩ : ∃ n, n = (ofP x).length := ⟨_, rfl⟩
          rw [← hn4] at HP4 ⊢
          clear hx4 hp4 d6 hn4
          go_wp2
          all_goals
            refine bodyPost_ret (v := .tuple #[.slice none 0 0, .slice a4 n4 c4, .int .i64 0]) (by simp [results, Tryz.results154, go_sem]) rfl ?_
            exact ⟨_, _, rfl, Terms.nilv _ _ _ _ (by decide), HP4.out, HX4.out⟩
        | true =>
          simp only [if_true]
          cases X2 with
          | none =>
            simp only
            go_enter Tryz.func154, Tryz.ntmps154
            go_wp2_with fail
            with_reducible refine HCT.out.mono ?_
            rintro e w1 ⟨v1, rfl, hp1, hx1⟩
            have HX1 := hid hx1
            have d3 := (HD.out.ext hx1).c3
            have HT1 := hid (hp1.to (S' := Old w1) (Kept.refl _ _) New.lt)
            have HG1 := hid (HCG.out w1 v1 hx1 HT1.out)
            obtain ⟨a1, c1, rfl⟩ := hp1.form
            obtain ⟨n1, hn1⟩ : ∃ n, n = (ofP t).length := ⟨_, rfl⟩
            rw [← hn1] at HG1 HT1 ⊢
            clear hx1 hp1 hn1
            go_wp2_with fail
            with_reducible refine HG1.out.mono ?_
            rintro e w2 ⟨v2, rfl, hp2, hx2⟩
            have HX2 := hid (HX1.out.trans hx2)
            have HT2 := hid (Terms.on HT1.out hx2)
            have HN2 := hid (HN.out w2 v2 (hp2.to (Kept.refl _ _) New.lt))
            obtain ⟨a2, c2, rfl⟩ := hp2.form
            obtain ⟨n2, hn2⟩ : ∃ n, n = (ofP l).length := ⟨_, rfl⟩
            rw [← hn2] at HN2 ⊢
            clear hx2 hp2 hn2 d3
            go_wp2_with fail
            with_reducible refine HN2.out.mono ?_
            rintro e w3 ⟨v3, rfl, hp3, hx3⟩
            have HX3 := hid (HX2.out.trans hx3)
            have HT3 := hid (Terms.on HT2.out hx3)
            have d6 := (HD.out.ext HX3.out).c6
            have HR3 := hid (HR.out w3 v3 HX3.out (hp3.to (Kept.refl _ _) New.lt))
            obtain ⟨a3, c3, rfl⟩ := hp3.form
            obtain ⟨n3, hn3⟩ : ∃ n, n = (ofP (negP l)).length := ⟨_, rfl⟩
            rw [← hn3] at HR3 ⊢
            clear hx3 hp3 hn3
            go_wp2_with fail
            with_reducible refine HR3.out.mono ?_
            rintro e w4 ⟨v4, rfl, hp4, hx4⟩
            have HX4 := hid (HX3.out.trans hx4)
            have HP4 := hid (hp4.to (S' := New W w4) (Kept.refl _ _) (fun k h => ⟨Nat.le_trans HX3.out.size h.1, h.2⟩))
            have HT4 := hid (Terms.on HT3.out hx4)
            have d8 := (HD.out.ext HX4.out).c8
            have d5 := (HD.out.ext HX4.out).c5
            obtain ⟨a4, c4, rfl⟩ := hp4.form
            obtain ⟨n4, hn4⟩ : ∃ n, n = (ofP x).length := ⟨_, rfl⟩
            rw [← hn4] at HP4 ⊢
            clear hx4 hp4 d6 hn4
            have HQ4 := hid (HCQ.out w4 (.slice a1 n1 c1) HX4.out HT4.out)
            go_wp2_with fail
            with_reducible refine HQ4.out.mono ?_
            rintro e w5 ⟨rfl, hx5⟩
            have HX5 := hid (HX4.out.trans hx5)
            clear hx5 d8 d5
            go_wp2
            all_goals
              refine bodyPost_ret (v := .tuple #[.slice none 0 0, .slice a4 n4 c4, .int .i64 8]) (by simp [results, Tryz.results154, go_sem]) rfl ?_
              exact ⟨_, _, rfl, HX5.out⟩
          | some y =>
            simp only
            go_enter Tryz.func154, Tryz.ntmps154
            go_wp2_with fail
            with_reducible refine HCT.out.mono ?_
            rintro e w1 ⟨v1, rfl, hp1, hx1⟩
            have HX1 := hid hx1
            have d3 := (HD.out.ext hx1).c3
            have HT1 := hid (hp1.to (S' := Old w1) (Kept.refl _ _) New.lt)
            have HG1 := hid (HCG.out w1 v1 hx1 HT1.out)
            obtain ⟨a1, c1, rfl⟩ := hp1.form
            obtain ⟨n1, hn1⟩ : ∃ n, n = (ofP t).length := ⟨_, rfl⟩
            rw [← hn1] at HG1 HT1 ⊢
            clear hx1 hp1 hn1
            go_wp2_with fail
            with_reducible refine HG1.out.mono ?_
            rintro e w2 ⟨v2, rfl, hp2, hx2⟩
            have HX2 := hid (HX1.out.trans hx2)
            have HT2 := hid (Terms.on HT1.out hx2)
            have HN2 := hid (HN.out w2 v2 (hp2.to (Kept.refl _ _) New.lt))
            obtain ⟨a2, c2, rfl⟩ := hp2.form
            obtain ⟨n2, hn2⟩ : ∃ n, n = (ofP l).length := ⟨_, rfl⟩
            rw [← hn2] at HN2 ⊢
            clear hx2 hp2 hn2 d3
            go_wp2_with fail
            with_reducible refine HN2.out.mono ?_
            rintro e w3 ⟨v3, rfl, hp3, hx3⟩
            have HX3 := hid (HX2.out.trans hx3)
            have HT3 := hid (Terms.on HT2.out hx3)
            have d6 := (HD.out.ext HX3.out).c6
            have HR3 := hid (HR.out w3 v3 HX3.out (hp3.to (Kept.refl _ _) New.lt))
            obtain ⟨a3, c3, rfl⟩ := hp3.form
            obtain ⟨n3, hn3⟩ : ∃ n, n = (ofP (negP l)).length := ⟨_, rfl⟩
            rw [← hn3] at HR3 ⊢
            clear hx3 hp3 hn3
            go_wp2_with fail
            with_reducible refine HR3.out.mono ?_
            rintro e w4 ⟨v4, rfl, hp4, hx4⟩
            have HX4 := hid (HX3.out.trans hx4)
            have HP4 := hid (hp4.to (S' := New W w4) (Kept.refl _ _) (fun k h => ⟨Nat.le_trans HX3.out.size h.1, h.2⟩))
            have HT4 := hid (Terms.on HT3.out hx4)
            have d8 := (HD.out.ext HX4.out).c8
            have d5 := (HD.out.ext HX4.out).c5
            obtain ⟨a4, c4, rfl⟩ := hp4.form
            obtain ⟨n4, hn4⟩ : ∃ n, n = (ofP x).length := ⟨_, rfl⟩
            rw [← hn4] at HP4 ⊢
            clear hx4 hp4 d6 hn4
            have HQ4 := hid (HCQ.out w4 (.slice a1 n1 c1) HX4.out HT4.out)
            go_wp2_with fail
            with_reducible refine HQ4.out.mono ?_
            rintro e w5 ⟨v5, rfl, hp5, hx5⟩
            have HX5 := hid (HX4.out.trans hx5)
            have HP5 := hid (hp5.to (S' := New W w5) (Kept.refl _ _) (fun k h => ⟨Nat.le_trans HX4.out.size h.1, h.2⟩))
            have HP4' := hid (HP4.out.to (S' := New W w5) (Kept.ext hx5 (fun _ h => h.2)) (fun k h => ⟨h.1, Nat.lt_of_lt_of_le h.2 hx5.size⟩))
            obtain ⟨a5, c5, rfl⟩ := hp5.form
            obtain ⟨n5, hn5⟩ : ∃ n, n = (ofP y).length := ⟨_, rfl⟩
            rw [← hn5] at HP5 ⊢
            clear hx5 hp5 d8 d5 hn5
            go_wp2
            all_goals
              refine bodyPost_ret (v := .tuple #[.slice a5 n5 c5, .slice a4 n4 c4, .int .i64 0]) (by simp [results, Tryz.results154, go_sem]) rfl ?_
              exact ⟨_, _, rfl, HP5.out, HP4'.out, HX5.out⟩
end Go.Proofs.YtcpfeepnfodifaaGreat
