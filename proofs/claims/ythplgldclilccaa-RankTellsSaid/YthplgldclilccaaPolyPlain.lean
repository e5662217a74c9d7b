/- Polynomials as lists of a whole number and a monomial: coefficients, the canonical list, sums. Plain. -/
import Derived.Test.YthplgldclilccaaOrd
namespace Go.Proofs.Ythplgldclilccaa

abbrev PZ := List (Int × Mono)

/-- the coefficient at a monomial: the sum of all that stand there -/
def cf : PZ → Mono → Int
  | [], _ => 0
  | t :: r, m => (if t.2 = m then t.1 else 0) + cf r m
theorem cf_append (p q : PZ) (m : Mono) : cf (p ++ q) m = cf p m + cf q m := by
  induction p with
  | nil => simp [cf]
  | cons t r ih => simp only [List.cons_append, cf, ih]; omega
theorem cf_none {p : PZ} {m : Mono} (h : ∀ t ∈ p, t.2 ≠ m) : cf p m = 0 := by
  induction p with
  | nil => rfl
  | cons t r ih =>
    rw [cf, if_neg (h t (by simp)), ih (fun u hu => h u (by simp [hu]))]
    rfl
theorem cf_perm {p q : PZ} (h : p.Perm q) (m : Mono) : cf p m = cf q m := by
  induction h with
  | nil => rfl
  | cons _ _ ih => simp only [cf, ih]
  | swap _ _ _ => simp only [cf]; omega
  | trans _ _ h1 h2 => exact h1.trans h2

/-- all monomials may be -/
def mayAll (p : PZ) : Prop := ∀ t ∈ p, mayM t.2 = true
/-- canonical: falling, none of 0 -/
def canP (p : PZ) : Prop := (∀ t ∈ p, t.1 ≠ 0 ∧ mayM t.2 = true) ∧ p.Pairwise (fun a b => compareM a.2 b.2 = 1)

theorem canP.may {p : PZ} (h : canP p) : mayAll p := fun t ht => (h.1 t ht).2
theorem canP_nil : canP [] := ⟨fun t ht => by simp at ht, List.Pairwise.nil⟩
theorem canP.tail {t : Int × Mono} {p : PZ} (h : canP (t :: p)) : canP p := ⟨fun u hu => h.1 u (by simp [hu]), (List.pairwise_cons.1 h.2).2⟩
theorem canP.head {t : Int × Mono} {p : PZ} (h : canP (t :: p)) : ∀ u ∈ p, compareM t.2 u.2 = 1 := (List.pairwise_cons.1 h.2).1
theorem compareM_self (m : Mono) (h : mayM m = true) : compareM m m = 0 := (compareM_zero h h).2 rfl
theorem canP.cf_head {t : Int × Mono} {p : PZ} (h : canP (t :: p)) : cf (t :: p) t.2 = t.1 := by
  rw [cf, if_pos rfl, cf_none, Int.add_zero]
  intro u hu e
  have h1 := h.head u hu
  rw [e, compareM_self _ (h.1 t (by simp)).2] at h1
  omega
theorem canP.cf_mem {p : PZ} (h : canP p) {t : Int × Mono} (ht : t ∈ p) : cf p t.2 = t.1 := by
  induction p with
  | nil => simp at ht
  | cons u r ih =>
    rcases List.mem_cons.1 ht with rfl | ht
    · exact h.cf_head
    · rw [cf, if_neg, ih h.tail ht]
      · omega
      · intro e
        have h1 := h.head t ht
        rw [e, compareM_self _ (h.1 t (by simp [ht])).2] at h1
        omega
theorem canP.mem_of_cf {p : PZ} {m : Mono} (hc : cf p m ≠ 0) : ∃ t ∈ p, t.2 = m := by
  by_cases h : ∃ t ∈ p, t.2 = m
  · exact h
  · exact absurd (cf_none (fun t ht e => h ⟨t, ht, e⟩)) hc
/-- a canonical list is told by its coefficients -/
theorem canP_ext {p q : PZ} (hp : canP p) (hq : canP q) (h : ∀ m, mayM m = true → cf p m = cf q m) : p = q := by
  induction p generalizing q with
  | nil =>
    cases q with
    | nil => rfl
    | cons u q =>
      have := h u.2 (hq.1 u (by simp)).2
      rw [hq.cf_head] at this
      exact absurd this.symm (hq.1 u (by simp)).1
  | cons t p ih =>
    cases q with
    | nil =>
      have := h t.2 (hp.1 t (by simp)).2
      rw [hp.cf_head] at this
      exact absurd this (hp.1 t (by simp)).1
    | cons u q =>
      have ht := hp.1 t (by simp)
      have hu := hq.1 u (by simp)
      have e1 := h t.2 ht.2
      have e2 := h u.2 hu.2
      rw [hp.cf_head] at e1
      rw [hq.cf_head] at e2
      have e : t.2 = u.2 := by
        rcases compareM_cases ht.2 hu.2 with g | g | g
        · exfalso
          obtain ⟨s, hs, hse⟩ := canP.mem_of_cf (p := t :: p) (m := u.2) (by rw [e2]; exact hu.1)
          rcases List.mem_cons.1 hs with rfl | hs
          · rw [hse, compareM_self _ hu.2] at g; omega
          · have := hp.head s hs
            rw [hse] at this
            omega
        · exact (compareM_zero ht.2 hu.2).1 g
        · exfalso
          obtain ⟨s, hs, hse⟩ := canP.mem_of_cf (p := u :: q) (m := t.2) (by rw [← e1]; exact ht.1)
          rcases List.mem_cons.1 hs with rfl | hs
          · rw [hse, compareM_self _ ht.2] at g; omega
          · have := hq.head s hs
            rw [hse, compareM_neg ht.2 hu.2] at this
            omega
      have e3 : t.1 = u.1 := by
        have := hq.cf_head
        rw [← e] at this
        omega
      have : t = u := Prod.ext e3 e
      subst this
      congr 1
      refine ih hp.tail hq.tail (fun m hm => ?_)
      have := h m hm
      simp only [cf] at this
      omega

/-- a term more, at its place -/
def putP : PZ → Int → Mono → PZ
  | [], c, m => if c = 0 then [] else [(c, m)]
  | t :: r, c, m => if compareM t.2 m = 1 then t :: putP r c m else if compareM t.2 m = 0 then (if c + t.1 = 0 then r else (c + t.1, m) :: r) else if c = 0 then t :: r else (c, m) :: t :: r
theorem putP_mem {p : PZ} {c : Int} {m : Mono} {t : Int × Mono} (h : t ∈ putP p c m) : t ∈ p ∨ t.2 = m := by
  induction p with
  | nil =>
    simp only [putP] at h
    split at h
    · simp at h
    · right; rw [List.mem_singleton.1 h]
  | cons u r ih =>
    simp only [putP] at h
    split at h
    · rcases List.mem_cons.1 h with rfl | h
      · simp
      · rcases ih h with h | h
        · simp [h]
        · exact .inr h
    · split at h
      · split at h
        · simp [h]
        · rcases List.mem_cons.1 h with rfl | h
          · exact .inr rfl
          · simp [h]
      · split at h
        · exact .inl h
        · rcases List.mem_cons.1 h with rfl | h
          · exact .inr rfl
          · exact .inl h
theorem putP_can {p : PZ} (hp : canP p) (c : Int) {m : Mono} (hm : mayM m = true) : canP (putP p c m) ∧ ∀ m', cf (putP p c m) m' = cf p m' + if m = m' then c else 0 := by
  induction p with
  | nil =>
    simp only [putP]
    split
    · rename_i h0
      subst h0
      exact ⟨canP_nil, fun m' => by simp [cf]⟩
    · rename_i h0
      exact ⟨⟨fun t ht => by rw [List.mem_singleton.1 ht]; exact ⟨h0, hm⟩, List.pairwise_singleton _ _⟩, fun m' => by simp [cf]⟩
  | cons t r ih =>
    obtain ⟨ih1, ih2⟩ := ih hp.tail
    have ht := hp.1 t (by simp)
    simp only [putP]
    split
    · rename_i h1
      refine ⟨⟨fun u hu => ?_, List.pairwise_cons.2 ⟨fun u hu => ?_, ih1.2⟩⟩, fun m' => ?_⟩
      · rcases List.mem_cons.1 hu with rfl | hu
        · exact ht
        · exact ih1.1 u hu
      · rcases putP_mem hu with hu | hu
        · exact hp.head u hu
        · rw [hu]; exact h1
      · simp only [cf, ih2]; omega
    · rename_i h1
      split
      · rename_i h2
        have e := (compareM_zero ht.2 hm).1 h2
        split
        · rename_i h3
          refine ⟨hp.tail, fun m' => ?_⟩
          simp only [cf, e]
          split <;> omega
        · rename_i h3
          refine ⟨⟨fun u hu => ?_, List.pairwise_cons.2 ⟨fun u hu => ?_, hp.tail.2⟩⟩, fun m' => ?_⟩
          · rcases List.mem_cons.1 hu with rfl | hu
            · exact ⟨h3, hm⟩
            · exact hp.tail.1 u hu
          · have := hp.head u hu
            rw [e] at this
            exact this
          · simp only [cf, e]
            split <;> omega
      · rename_i h2
        have h3 : compareM m t.2 = 1 := by
          have := compareM_neg ht.2 hm
          rcases compareM_cases ht.2 hm with g | g | g <;> omega
        split
        · rename_i h4
          subst h4
          exact ⟨hp, fun m' => by split <;> omega⟩
        · rename_i h4
          refine ⟨⟨fun u hu => ?_, List.pairwise_cons.2 ⟨fun u hu => ?_, hp.2⟩⟩, fun m' => ?_⟩
          · rcases List.mem_cons.1 hu with rfl | hu
            · exact ⟨h4, hm⟩
            · exact hp.1 u hu
          · rcases List.mem_cons.1 hu with rfl | hu
            · exact h3
            · exact compareM_trans hm ht.2 (hp.1 u (by simp [hu])).2 h3 (hp.head u hu)
          · simp only [cf]; omega

/-- the canonical list of any terms -/
def addP (p l : PZ) : PZ := l.foldl (fun p t => putP p t.1 t.2) p
def normP (l : PZ) : PZ := addP [] l
theorem addP_can {p : PZ} (hp : canP p) {l : PZ} (hl : mayAll l) : canP (addP p l) ∧ ∀ m, cf (addP p l) m = cf p m + cf l m := by
  induction l generalizing p with
  | nil => exact ⟨hp, fun m => by simp [addP, cf]⟩
  | cons t r ih =>
    obtain ⟨h1, h2⟩ := putP_can hp t.1 (hl t (by simp))
    obtain ⟨h3, h4⟩ := ih h1 (fun u hu => hl u (by simp [hu]))
    refine ⟨h3, fun m => ?_⟩
    show cf (addP (putP p t.1 t.2) r) m = _
    rw [h4, h2]
    simp only [cf]
    omega
theorem normP_can {l : PZ} (hl : mayAll l) : canP (normP l) := (addP_can canP_nil hl).1
theorem normP_cf {l : PZ} (hl : mayAll l) (m : Mono) : cf (normP l) m = cf l m := by
  have := (addP_can canP_nil hl).2 m
  simp only [cf] at this
  unfold normP
  omega
theorem normP_of_can {p : PZ} (h : canP p) : normP p = p := canP_ext (normP_can h.may) h (fun m _ => normP_cf h.may m)
theorem normP_eq {l k : PZ} (hl : mayAll l) (hk : mayAll k) (h : ∀ m, mayM m = true → cf l m = cf k m) : normP l = normP k :=
  canP_ext (normP_can hl) (normP_can hk) (fun m hm => by rw [normP_cf hl, normP_cf hk, h m hm])
theorem mayAll_append {p q : PZ} (hp : mayAll p) (hq : mayAll q) : mayAll (p ++ q) := fun t ht => by
  rcases List.mem_append.1 ht with h | h
  · exact hp t h
  · exact hq t h
theorem addP_eq {p l : PZ} (hp : canP p) (hl : mayAll l) : addP p l = normP (p ++ l) :=
  canP_ext (addP_can hp hl).1 (normP_can (mayAll_append hp.may hl)) (fun m _ => by rw [(addP_can hp hl).2, normP_cf (mayAll_append hp.may hl), cf_append])
theorem canP_sublist {p q : PZ} (h : canP p) (hs : q.Sublist p) : canP q := ⟨fun t ht => h.1 t (hs.subset ht), h.2.sublist hs⟩
end Go.Proofs.Ythplgldclilccaa
