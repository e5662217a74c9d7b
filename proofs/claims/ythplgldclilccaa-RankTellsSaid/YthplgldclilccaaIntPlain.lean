/- Numbers and polynomials as data, and what they mean. Plain. -/
import Derived.Test.YthplgldclilccaaBase
import Derived.Test.YthplgldclilccaaNum
import Derived.Test.YthplgldclilccaaRankPlain
namespace Go.Proofs.Ythplgldclilccaa

abbrev B32 : Nat := 4294967296
theorem two_le_B32 : 2 ≤ B32 := by decide

def valI (r : RInt) : Int := if r.neg then -(val B32 r.mag : Int) else (val B32 r.mag : Int)
def ofI (z : Int) : RInt := ⟨decide (z < 0), rep B32 z.natAbs⟩
/-- limbs -/
def okI (r : RInt) : Prop := ∀ z ∈ r.mag, z < B32
/-- canonical, as the program asks -/
def mayI (r : RInt) : Bool := match r.mag.getLast? with
  | none => !r.neg
  | some z => decide (z ≠ 0)
def signI (z : Int) : Int := cmpI z 0

theorem valI_ofI (z : Int) : valI (ofI z) = z := by
  unfold valI ofI
  simp only
  rw [val_rep two_le_B32]
  by_cases h : z < 0
  · simp [h]; omega
  · simp [h]; omega
theorem mayI_last {r : RInt} (h : mayI r = true) : r.mag.getLast? ≠ some 0 := by
  unfold mayI at h
  intro e
  rw [e] at h
  simp at h
theorem ofI_valI {r : RInt} (hok : okI r) (h : mayI r = true) : ofI (valI r) = r := by
  have hl := mayI_last h
  have hr := rep_val two_le_B32 r.mag hok hl
  obtain ⟨ng, mg⟩ := r
  simp only at hl hr
  unfold mayI at h
  simp only at h
  unfold ofI valI
  simp only
  cases ng with
  | false =>
    simp [hr]
  | true =>
    have hpos : 0 < val B32 mg := by
      rcases Nat.eq_zero_or_pos (val B32 mg) with h0 | h0
      · exfalso
        rw [h0, rep_zero] at hr
        rw [← hr] at h
        simp at h
      · exact h0
    simp [hr]
    omega
theorem mayI_ofI (z : Int) : mayI (ofI z) = true := by
  unfold mayI ofI
  simp only
  cases h : (rep B32 z.natAbs).getLast? with
  | none =>
    have h0 : rep B32 z.natAbs = [] := List.getLast?_eq_none_iff.1 h
    rw [rep_eq_nil two_le_B32] at h0
    simp
    omega
  | some x =>
    simp
    intro e
    subst e
    exact rep_last two_le_B32 _ h
theorem okI_ofI (z : Int) : okI (ofI z) := rep_lt two_le_B32 _

/-- terms that are read as a polynomial -/
def toP (ts : List RTerm) : PZ := ts.map fun t => (valI t.c, t.m)
def ofP (p : PZ) : List RTerm := p.map fun t => ⟨ofI t.1, t.2⟩
def okT (ts : List RTerm) : Prop := ∀ t ∈ ts, okI t.c
theorem toP_ofP (p : PZ) : toP (ofP p) = p := by
  induction p with
  | nil => rfl
  | cons t r ih =>
    have e : toP (ofP (t :: r)) = (valI (ofI t.1), t.2) :: toP (ofP r) := rfl
    rw [e, ih, valI_ofI]
theorem okT_ofP (p : PZ) : okT (ofP p) := by
  intro t ht
  obtain ⟨u, _, rfl⟩ := List.mem_map.1 ht
  exact okI_ofI _

/-- may a term be? -/
def mayTerm (t : RTerm) : Bool := decide (val B32 t.c.mag ≠ 0) && mayI t.c && mayM t.m
/-- may a polynomial be: as it is asked, term by term -/
def mayFrom : Option RTerm → List RTerm → Bool
  | _, [] => true
  | last, t :: r => mayTerm t && (match last with | none => true | some u => decide (0 < orderM u.m t.m)) && mayFrom (some t) r
def mayT (ts : List RTerm) : Bool := mayFrom none ts

theorem mayFrom_pair {last : Option RTerm} {ts : List RTerm} (h : mayFrom last ts = true) :
    (∀ t ∈ ts, mayTerm t = true) ∧ (ts.Pairwise fun a b => compareM a.m b.m = 1) ∧ ∀ u, last = some u → mayM u.m = true → ∀ t ∈ ts, compareM u.m t.m = 1 := by
  induction ts generalizing last with
  | nil => exact ⟨fun t ht => by simp at ht, List.Pairwise.nil, fun u _ _ t ht => by simp at ht⟩
  | cons t r ih =>
    simp only [mayFrom, Bool.and_eq_true] at h
    obtain ⟨⟨h1, h2⟩, h3⟩ := h
    obtain ⟨i1, i2, i3⟩ := ih h3
    have hm : mayM t.m = true := by
      simp only [mayTerm, Bool.and_eq_true] at h1
      exact h1.2
    have hmr : ∀ u ∈ r, mayM u.m = true := fun u hu => by
      have := i1 u hu
      simp only [mayTerm, Bool.and_eq_true] at this
      exact this.2
    refine ⟨fun u hu => ?_, List.pairwise_cons.2 ⟨fun u hu => i3 t rfl hm u hu, i2⟩, fun u hu hum s hs => ?_⟩
    · rcases List.mem_cons.1 hu with rfl | hu
      · exact h1
      · exact i1 u hu
    · subst hu
      simp only [decide_eq_true_eq] at h2
      unfold orderM at h2
      rw [hum, hm] at h2
      simp only [Bool.and_self, if_true] at h2
      have h4 : compareM u.m t.m = 1 := by rcases compareM_cases hum hm with g | g | g <;> omega
      rcases List.mem_cons.1 hs with rfl | hs
      · exact h4
      · exact compareM_trans hum hm (hmr s hs) h4 (i3 t rfl hm s hs)
theorem mayT_can {ts : List RTerm} (h : mayT ts = true) : canP (toP ts) := by
  obtain ⟨h1, h2, _⟩ := mayFrom_pair h
  refine ⟨fun t ht => ?_, ?_⟩
  · obtain ⟨u, hu, rfl⟩ := List.mem_map.1 ht
    have := h1 u hu
    simp only [mayTerm, Bool.and_eq_true, decide_eq_true_eq] at this
    refine ⟨?_, this.2⟩
    unfold valI
    simp only
    split <;> omega
  · unfold toP
    rw [List.pairwise_map]
    exact h2
theorem mayT_of {ts : List RTerm} (hok : okT ts) (h : mayT ts = true) : ofP (toP ts) = ts := by
  have h1 := (mayFrom_pair h).1
  clear h
  induction ts with
  | nil => rfl
  | cons t r ih =>
    have h2 := h1 t (by simp)
    simp only [mayTerm, Bool.and_eq_true] at h2
    have e : ofP (toP (t :: r)) = ⟨ofI (valI t.c), t.m⟩ :: ofP (toP r) := rfl
    rw [e, ih (fun u hu => hok u (by simp [hu])) (fun u hu => h1 u (by simp [hu])), ofI_valI (hok t (by simp)) h2.1.2]
theorem mayFrom_of {last : Option RTerm} {ts : List RTerm} (h1 : ∀ t ∈ ts, mayTerm t = true) (h2 : ts.Pairwise fun a b => compareM a.m b.m = 1) (h3 : ∀ u, last = some u → mayM u.m = true ∧ ∀ t ∈ ts, compareM u.m t.m = 1) : mayFrom last ts = true := by
  induction ts generalizing last with
  | nil => rfl
  | cons t r ih =>
    simp only [mayFrom, Bool.and_eq_true]
    have ht := h1 t (by simp)
    have hm : mayM t.m = true := by
      have := ht
      simp only [mayTerm, Bool.and_eq_true] at this
      exact this.2
    refine ⟨⟨ht, ?_⟩, ih (fun u hu => h1 u (by simp [hu])) (List.pairwise_cons.1 h2).2 (fun u hu => ?_)⟩
    · cases last with
      | none => rfl
      | some u =>
        obtain ⟨g1, g2⟩ := h3 u rfl
        have := g2 t (by simp)
        simp only [decide_eq_true_eq]
        unfold orderM
        simp [g1, hm, this]
    · obtain rfl : t = u := by simpa using hu
      exact ⟨hm, (List.pairwise_cons.1 h2).1⟩
theorem mayT_ofP {p : PZ} (h : canP p) : mayT (ofP p) = true := by
  refine mayFrom_of (fun t ht => ?_) ?_ (fun u hu => by simp at hu)
  · obtain ⟨u, hu, rfl⟩ := List.mem_map.1 ht
    have := h.1 u hu
    simp only [mayTerm, Bool.and_eq_true, decide_eq_true_eq]
    refine ⟨⟨?_, mayI_ofI _⟩, this.2⟩
    unfold ofI
    simp only
    rw [val_rep two_le_B32]
    omega
  · unfold ofP
    rw [List.pairwise_map]
    exact h.2
/-- a polynomial; 0, if it may not be -/
def plainT (ts : List RTerm) : List RTerm := if mayT ts then ts else []
def plainP (ts : List RTerm) : PZ := if mayT ts then toP ts else []
theorem plainP_can (ts : List RTerm) : canP (plainP ts) := by
  unfold plainP
  split
  · exact mayT_can (by assumption)
  · exact canP_nil
theorem toP_plainT (ts : List RTerm) : toP (plainT ts) = plainP ts := by
  unfold plainT plainP
  split <;> rfl
end Go.Proofs.Ythplgldclilccaa
