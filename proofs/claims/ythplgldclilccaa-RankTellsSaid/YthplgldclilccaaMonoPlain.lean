/- Monomials as lists of powers: which may be, the exponents, the merge of two, their order. Plain. -/
import Derived.Test.YthplgldclilccaaProg
namespace Go.Proofs.Ythplgldclilccaa

abbrev Mono := List (Int × Int)

def mayTail (last : Int) : Mono → Bool
  | [] => true
  | x :: r => decide (last < x.1 ∧ x.1 ≤ 200 ∧ 1 ≤ x.2 ∧ x.2 ≤ 10000) && mayTail x.1 r
def mayM (m : Mono) : Bool := mayTail 0 m

/-- the exponent of a variable -/
def ex : Mono → Int → Int
  | [], _ => 0
  | x :: r, v => if x.1 = v then x.2 else ex r v

/-- all variables of two monomials, rising, with both exponents -/
def bothF : Nat → Mono → Mono → List (Int × Int × Int)
  | 0, _, _ => []
  | _ + 1, [], [] => []
  | n + 1, x :: a, [] => (x.1, x.2, 0) :: bothF n a []
  | n + 1, [], y :: b => (y.1, 0, y.2) :: bothF n [] b
  | n + 1, x :: a, y :: b => if x.1 < y.1 then (x.1, x.2, 0) :: bothF n a (y :: b) else if y.1 < x.1 then (y.1, 0, y.2) :: bothF n (x :: a) b else (x.1, x.2, y.2) :: bothF n a b
def both (a b : Mono) : List (Int × Int × Int) := bothF (a.length + b.length) a b

theorem bothF_le (n m : Nat) (a b : Mono) (h : a.length + b.length ≤ n) (h' : a.length + b.length ≤ m) : bothF n a b = bothF m a b := by
  induction n generalizing m a b with
  | zero =>
    obtain rfl : a = [] := List.length_eq_zero_iff.1 (by omega)
    obtain rfl : b = [] := List.length_eq_zero_iff.1 (by omega)
    cases m <;> rfl
  | succ n ih =>
    cases m with
    | zero =>
      obtain rfl : a = [] := List.length_eq_zero_iff.1 (by omega)
      obtain rfl : b = [] := List.length_eq_zero_iff.1 (by omega)
      rfl
    | succ m =>
      cases a with
      | nil =>
        cases b with
        | nil => rfl
        | cons y b =>
          simp only [List.length_nil, List.length_cons] at h h'
          simp only [bothF]
          rw [ih m [] b (by simp; omega) (by simp; omega)]
      | cons x a =>
        cases b with
        | nil =>
          simp only [List.length_nil, List.length_cons] at h h'
          simp only [bothF]
          rw [ih m a [] (by simp; omega) (by simp; omega)]
        | cons y b =>
          simp only [List.length_cons] at h h'
          simp only [bothF]
          rw [ih m a (y :: b) (by simp; omega) (by simp; omega), ih m (x :: a) b (by simp; omega) (by simp; omega), ih m a b (by omega) (by omega)]

theorem both_nil : both [] [] = [] := rfl
theorem both_left (x : Int × Int) (a : Mono) : both (x :: a) [] = (x.1, x.2, 0) :: both a [] := by
  unfold both
  rw [bothF_le _ (a.length + 1) _ _ (Nat.le_refl _) (by simp)]
  rfl
theorem both_right (y : Int × Int) (b : Mono) : both [] (y :: b) = (y.1, 0, y.2) :: both [] b := by
  unfold both
  rw [bothF_le _ (b.length + 1) _ _ (Nat.le_refl _) (by simp)]
  simp [bothF]
theorem both_cons (x y : Int × Int) (a b : Mono) : both (x :: a) (y :: b) = if x.1 < y.1 then (x.1, x.2, 0) :: both a (y :: b) else if y.1 < x.1 then (y.1, 0, y.2) :: both (x :: a) b else (x.1, x.2, y.2) :: both a b := by
  unfold both
  rw [bothF_le _ (a.length + b.length + 1 + 1) _ _ (Nat.le_refl _) (by simp; omega)]
  simp only [bothF]
  rw [bothF_le _ (a.length + (y :: b).length) a (y :: b) (by simp; omega) (Nat.le_refl _), bothF_le _ ((x :: a).length + b.length) (x :: a) b (by simp; omega) (Nat.le_refl _), bothF_le _ (a.length + b.length) a b (by omega) (Nat.le_refl _)]
theorem both_len (a b : Mono) : (both a b).length ≤ a.length + b.length := by
  unfold both
  generalize hn : a.length + b.length = n
  have h : ∀ n (a b : Mono), (bothF n a b).length ≤ n := by
    intro n
    induction n with
    | zero => intro a b; simp [bothF]
    | succ n ih =>
      intro a b
      cases a with
      | nil =>
        cases b with
        | nil => simp [bothF]
        | cons y b => simp only [bothF, List.length_cons]; have := ih [] b; omega
      | cons x a =>
        cases b with
        | nil => simp only [bothF, List.length_cons]; have := ih a []; omega
        | cons y b =>
          simp only [bothF]
          have h1 := ih a (y :: b)
          have h2 := ih (x :: a) b
          have h3 := ih a b
          split
          · simp only [List.length_cons]; omega
          · split <;> (simp only [List.length_cons]; omega)
  exact h n a b

/-- how two numbers are ordered -/
def cmpI (x y : Int) : Int := if x < y then -1 else if y < x then 1 else 0
/-- the order of two monomials: by the last variable at which they differ -/
def cmpL : List (Int × Int × Int) → Int → Int
  | [], c => c
  | t :: r, c => cmpL r (if t.2.1 = t.2.2 then c else cmpI t.2.1 t.2.2)
def compareM (a b : Mono) : Int := cmpL (both a b) 0

/-- the monomial that has of each variable what is told of both exponents -/
def madeM (f : Int → Int → Int) : List (Int × Int × Int) → Mono
  | [] => []
  | t :: r => if 0 < f t.2.1 t.2.2 then (t.1, f t.2.1 t.2.2) :: madeM f r else madeM f r

def timesM (a b : Mono) : Mono := madeM (· + ·) (both a b)
def withoutM (m : Mono) (v : Int) : Mono := m.filter (fun x => x.1 != v)
def degreeM : Mono → Int → Int := ex
/-- how the order of two monomials is told: 0, if one may not be -/
def orderM (a b : Mono) : Int := if mayM a && mayM b then compareM a b else 0
/-- a monomial; 1, if it may not be -/
def plainM (m : Mono) : Mono := if mayM m then m else []
def classM (m : Mono) : Int := (m.getLast?.map (·.1)).getD 0
end Go.Proofs.Ythplgldclilccaa
