/- What is made of two monomials, exponent by exponent; products of monomials. Plain. The document's product of monomials is the program's. Plain. The document: a monomial without a variable. append to a slice without room: a copy in memory of its own. Stable merges of two lists, and the stable sort of a list by merges. Plain. A row of memory that is sorted in place: what the worlds of a sort are. The insertion sort in place, at terms. Exchanges and rotations in place, at terms. The merge in place of two neighbours, at terms: one element ahead, or one behind. The merge in place of two neighbours, at terms. -/
import Derived.Test.YthdcaablomgboaaGreatProg
import Derived.Shelf.SlSortFuncK.RowK2
import Derived.Shelf.SlicesQ.Reverse
import Derived.Deep.DeepCutAuto
import Derived.Test.YthdcaablomgboaaGreatRs4
set_option maxRecDepth 100000
set_option maxHeartbeats 16000000
namespace Go.Proofs.YthdcaablomgboaaGreat
section
def lk : List (Int × Int × Int) → Int → Int × Int
 | [], _ => (0, 0)
 | t :: r, v => if t.1 = v then t.2 else lk r v
def ris (last : Int) : List (Int × Int × Int) → Prop
 | [] => True
 | t :: r => last < t.1 ∧ t.1 ≤ 200 ∧ ris t.1 r
theorem zww {last : Int} {l : List (Int × Int × Int)} (h : ris last l) {u : Int} (hu : u ≤ last) : lk l u = (0, 0) := by
 induction l generalizing last with
 | nil => rfl
 | cons t r ih =>
  obtain ⟨h1, h2, h3⟩ := h
  rw [lk, if_neg (by omega)]
  exact ih h3 (by omega)
theorem ze4 {last : Int} {a b : Mono} (ha : z0d last a = true) (hb : z0d last b = true) : ris last (both a b) ∧ ∀ u, lk (both a b) u = (ex a u, ex b u) := by
 generalize hn : a.length + b.length = n
 induction n using Nat.strongRecOn generalizing a b last with
 | ind n ih =>
 cases a with
 | nil =>
  cases b with
  | nil => rw [z88]; exact ⟨trivial, fun u => rfl⟩
  | cons y b =>
   have hB := hb
   simp only [z0d, Bool.and_eq_true, decide_eq_true_eq] at hb
   simp only [List.length_cons, List.length_nil] at hn
   obtain ⟨h1, h2⟩ := ih (0 + b.length) (by omega) (a := []) (b := b) (last := y.1) rfl hb.2 (by simp)
   rw [z71]
   refine ⟨⟨hb.1.1, hb.1.2.1, h1⟩, fun u => ?_⟩
   rw [lk, h2, ex]
   simp only [ex]
   split <;> rfl
 | cons x a =>
  cases b with
  | nil =>
   have hA := ha
   simp only [z0d, Bool.and_eq_true, decide_eq_true_eq] at ha
   simp only [List.length_cons, List.length_nil] at hn
   obtain ⟨h1, h2⟩ := ih (a.length + 0) (by omega) (a := a) (b := []) (last := x.1) ha.2 rfl (by simp)
   rw [z89]
   refine ⟨⟨ha.1.1, ha.1.2.1, h1⟩, fun u => ?_⟩
   rw [lk, h2]
   simp only [ex]
   split <;> rfl
  | cons y b =>
   have hA := ha
   have hB := hb
   simp only [z0d, Bool.and_eq_true, decide_eq_true_eq] at ha hb
   simp only [List.length_cons] at hn
   rw [z8a]
   split
   ·rename_i hlt
    have hb' : z0d x.1 (y :: b) = true := by simp only [z0d, Bool.and_eq_true, decide_eq_true_eq]; exact ⟨⟨hlt, hb.1.2⟩, hb.2⟩
    obtain ⟨h1, h2⟩ := ih (a.length + (b.length + 1)) (by omega) (a := a) (b := y :: b) (last := x.1) ha.2 hb' (by simp)
    refine ⟨⟨ha.1.1, ha.1.2.1, h1⟩, fun u => ?_⟩
    rw [lk, h2]
    by_cases hu : x.1 = u
    ·rw [if_pos hu, ← hu, z0t hb' (Int.le_refl _), ex, if_pos rfl]
    ·rw [if_neg hu]; conv => rhs; rw [ex, if_neg hu]
   ·split
    ·rename_i hnlt hlt
     have ha' : z0d y.1 (x :: a) = true := by simp only [z0d, Bool.and_eq_true, decide_eq_true_eq]; exact ⟨⟨hlt, ha.1.2⟩, ha.2⟩
     obtain ⟨h1, h2⟩ := ih (a.length + 1 + b.length) (by omega) (a := x :: a) (b := b) (last := y.1) ha' hb.2 (by simp)
     refine ⟨⟨hb.1.1, hb.1.2.1, h1⟩, fun u => ?_⟩
     rw [lk, h2]
     by_cases hu : y.1 = u
     ·rw [if_pos hu, ← hu, z0t ha' (Int.le_refl _), ex, if_pos rfl]
     ·rw [if_neg hu, show ex (y :: b) u = ex b u by rw [ex, if_neg hu]]
    ·rename_i h3 h4
     have hxy : x.1 = y.1 := by omega
     rw [← hxy] at hb
     obtain ⟨h1, h2⟩ := ih (a.length + b.length) (by omega) (a := a) (b := b) (last := x.1) ha.2 hb.2 (by simp)
     refine ⟨⟨ha.1.1, ha.1.2.1, h1⟩, fun u => ?_⟩
     rw [lk, h2]
     by_cases hu : x.1 = u
     ·rw [if_pos hu, ex, if_pos hu, ex, if_pos (by omega)]
     ·rw [if_neg hu, show ex (y :: b) u = ex b u by rw [ex, if_neg (by omega)], show ex (x :: a) u = ex a u by rw [ex, if_neg hu]]
theorem zit {f : Int → Int → Int} (h0 : f 0 0 ≤ 0) {last : Int} {l : List (Int × Int × Int)} (h : ris last l) (u : Int) : ex (z3s f l) u = if 0 < f (lk l u).1 (lk l u).2 then f (lk l u).1 (lk l u).2 else 0 := by
 induction l generalizing last with
 | nil =>
  rw [z3s, ex, lk, if_neg (show ¬ 0 < f 0 0 by omega)]
 | cons t r ih =>
  obtain ⟨h1, h2, h3⟩ := h
  rw [z3s, lk]
  by_cases hu : t.1 = u
  ·rw [if_pos hu]
   by_cases hf : 0 < f t.2.1 t.2.2
   ·rw [if_pos hf, if_pos hf, ex, if_pos hu]
   ·rw [if_neg hf, if_neg hf, ih h3, zww h3 (by omega), if_neg (show ¬ 0 < f 0 0 by omega)]
  ·rw [if_neg hu]
   by_cases hf : 0 < f t.2.1 t.2.2
   ·rw [if_pos hf, ex, if_neg hu, ih h3]
   ·rw [if_neg hf, ih h3]
theorem zno {f : Int → Int → Int} {last : Int} {l : List (Int × Int × Int)} (h : ris last l) (hf : ∀ t ∈ l, f t.2.1 t.2.2 ≤ 10000) : z0d last (z3s f l) = true := by
 induction l generalizing last with
 | nil => rfl
 | cons t r ih =>
  obtain ⟨h1, h2, h3⟩ := h
  have hr := ih h3 (fun u hu => hf u (by simp [hu]))
  rw [z3s]
  split
  ·rename_i h4
   have := hf t (by simp)
   simp only [z0d, Bool.and_eq_true, decide_eq_true_eq]
   exact ⟨by omega, hr⟩
  ·exact z7u hr (by omega)
theorem znp {last : Int} {l : List (Int × Int × Int)} (h : ris last l) {t : Int × Int × Int} (ht : t ∈ l) : lk l t.1 = t.2 := by
 induction l generalizing last with
 | nil => simp at ht
 | cons x r ih =>
  obtain ⟨h1, h2, h3⟩ := h
  rw [lk]
  rcases List.mem_cons.1 ht with rfl | ht
  ·rw [if_pos rfl]
  ·by_cases e : x.1 = t.1
   ·exfalso
    have : ∀ (l : List (Int × Int × Int)) (k : Int), ris k l → ∀ t ∈ l, k < t.1 := by
     intro l
     induction l with
     | nil => intro k _ t ht; simp at ht
     | cons y s ih =>
      intro k hk t ht
      obtain ⟨g1, g2, g3⟩ := hk
      rcases List.mem_cons.1 ht with rfl | ht
      ·exact g1
      ·have := ih _ g3 t ht; omega
    have := this r x.1 h3 t ht
    omega
   ·rw [if_neg e]; exact ih h3 ht
theorem zuz {f : Int → Int → Int} (h0 : f 0 0 ≤ 0) {a b : Mono} (ha : mayM a = true) (hb : mayM b = true) (u : Int) : ex (z3s f (both a b)) u = if 0 < f (ex a u) (ex b u) then f (ex a u) (ex b u) else 0 := by
 obtain ⟨h1, h2⟩ := ze4 ha hb
 rw [zit h0 h1, h2]
theorem zrf {f : Int → Int → Int} {a b : Mono} (ha : mayM a = true) (hb : mayM b = true) (hf : ∀ u, f (ex a u) (ex b u) ≤ 10000) : mayM (z3s f (both a b)) = true := by
 obtain ⟨h1, h2⟩ := ze4 ha hb
 refine zno h1 (fun t ht => ?_)
 have := znp h1 ht
 rw [h2] at this
 have h3 := hf t.1
 rw [← this]
 exact h3
theorem z2h {a b : Mono} (ha : mayM a = true) (hb : mayM b = true) (u : Int) : ex (z0q a b) u = ex a u + ex b u := by
 unfold z0q
 rw [zuz (by simp) ha hb]
 have h1 := z3w ha u
 have h2 := z3w hb u
 split <;> omega
theorem z8t {a b : Mono} (ha : mayM a = true) (hb : mayM b = true) : mayM (z0q a b) = true ↔ ∀ u, ex a u + ex b u ≤ 10000 := by
 constructor
 ·intro h u
  rw [← z2h ha hb]
  exact (z1n h u).2
 ·intro h
  exact zrf ha hb h
theorem znq {v e : Int} (hv : 1 ≤ v ∧ v ≤ 200) (he : 1 ≤ e ∧ e ≤ 10000) : mayM [(v, e)] = true := by
 unfold mayM z0d
 simp only [z0d, Bool.and_true, decide_eq_true_eq]
 omega
theorem zfr (v e u : Int) : ex [(v, e)] u = if v = u then e else 0 := by simp [ex]
end
section
theorem zrg {m : Mono} {v : Int} (h : ∀ x ∈ m, x.1 < v) (e u : Int) : ex (m ++ [(v, e)]) u = if u = v then e else ex m u := by
 induction m with
 | nil =>
  simp only [List.nil_append, ex]
  by_cases hu : v = u
  ·rw [if_pos hu, if_pos hu.symm]
  ·rw [if_neg hu, if_neg (fun k => hu k.symm)]
 | cons x r ih =>
  have h1 := h x (by simp)
  simp only [List.cons_append, ex, ih (fun y hy => h y (by simp [hy]))]
  by_cases hx : x.1 = u
  ·rw [if_pos hx, if_pos hx, if_neg (by omega)]
  ·rw [if_neg hx, if_neg hx]
theorem ztp (f : Nat → Int) (n : Nat) (u : Nat) (h0 : ∀ j, 0 ≤ f j) : ex (ofE f n) (u : Int) = if 1 ≤ u ∧ u ≤ n then f u else 0 := by
 induction n with
 | zero =>
  simp only [ofE, ex]
  rw [if_neg (by omega)]
 | succ n ih =>
  simp only [ofE]
  by_cases hf : 0 < f (n + 1)
  ·rw [if_pos hf, zrg (fun x hx => by have := zir f n x hx; omega), ih]
   by_cases hu : u = n + 1
   ·subst hu
    rw [if_pos rfl, if_pos (by omega)]
   ·rw [if_neg (by omega)]
    by_cases h1 : 1 ≤ u ∧ u ≤ n
    ·rw [if_pos h1, if_pos (by omega)]
    ·rw [if_neg h1, if_neg (by omega)]
  ·rw [if_neg hf, ih]
   have := h0 (n + 1)
   by_cases hu : u = n + 1
   ·subst hu
    rw [if_neg (by omega), if_pos (by omega)]
    omega
   ·by_cases h1 : 1 ≤ u ∧ u ≤ n
    ·rw [if_pos h1, if_pos (by omega)]
    ·rw [if_neg h1, if_neg (by omega)]
theorem zfs {a b : Mono} (ha : mayM a = true) (hb : mayM b = true) : z4s a b = if mayM (z0q a b) = true then some (z0q a b) else none := by
 unfold z4s
 have h0 : ∀ j, 0 ≤ sumF a b j := fun j => by
  have h1 := z3w ha (j : Int)
  have h2 := z3w hb (j : Int)
  unfold sumF
  omega
 cases hov : z5z (sumF a b) 200 with
 | true =>
  rw [if_pos rfl, if_neg]
  intro hm
  have h1 := (z8t ha hb).1 hm
  have h2 : ∀ n, z5z (sumF a b) n = false := fun n => by
   induction n with
   | zero => rfl
   | succ n ih =>
    simp only [z5z, ih, Bool.false_or, decide_eq_false_iff_not]
    have := h1 ((n + 1 : Nat) : Int)
    unfold sumF
    omega
  rw [h2] at hov
  cases hov
 | false =>
  have h1 := zfk hov
  have hm : mayM (z0q a b) = true := (z8t ha hb).2 (fun u => by
   by_cases h2 : u < 1
   ·rw [z0t ha (by omega), z0t hb (by omega)]; omega
   ·by_cases h3 : 200 < u
    ·rw [z4b ha h3, z4b hb h3]; omega
    ·have := h1 u.toNat (by omega) (by omega)
     unfold sumF at this
     rwa [Int.toNat_of_nonneg (by omega)] at this)
  rw [if_neg (by simp), if_pos hm]
  refine congrArg some ?_
  refine zdt (zhl (Nat.le_refl _) (fun j h2 h3 => h1 j h2 h3)) hm (fun k h2 h3 => ?_)
  rw [ztp _ _ _ h0, if_pos ⟨h2, h3⟩, z2h ha hb]
  rfl
theorem ziu {t u : Int × Mono} (ht : mayM t.2 = true) (hu : mayM u.2 = true) (h : mayM (z0q t.2 u.2) = true) : z9g t u = some (t.1 * u.1, z0q t.2 u.2) := by
 unfold z9g
 rw [zfs ht hu, if_pos h]
 rfl
theorem znr {t u : Int × Mono} (ht : mayM t.2 = true) (hu : mayM u.2 = true) (h : mayM (z0q t.2 u.2) = false) : z9g t u = none := by
 unfold z9g
 rw [zfs ht hu, if_neg (by rw [h]; exact Bool.false_ne_true)]
 rfl
end
section
open Go.RowKit
def zco (a : Mono) (q : Nat) : Nat → Int := fun j => if j = q then 0 else ex a (j : Nat)
theorem zhm {a : Mono} (h : mayM a = true) (q : Nat) : ofE (zco a q) 200 = z0j a (q : Nat) := by
 have h0 : ∀ j, 0 ≤ zco a q j := fun j => by
  unfold zco
  have := z3w h (j : Nat)
  split <;> omega
 have hr : ∀ j, zco a q j ≤ 10000 := fun j => by
  unfold zco
  have := (z1n h (j : Nat)).2
  split <;> omega
 refine zdt (zhl (Nat.le_refl _) (fun j _ _ => hr j)) (z1p h _) (fun k h2 h3 => ?_)
 rw [ztp _ _ _ h0, if_pos ⟨h2, h3⟩, z1s]
 unfold zco
 by_cases e : k = q
 ·subst e; rw [if_pos rfl, if_pos rfl]
 ·rw [if_neg e, if_neg (by omega)]
theorem zrh {w : World} {g : Nat} {T : TypeId} {a : Mono} {q : Nat} (h : w.rowIs g T 201 (iv fun v => ex a (v : Nat))) : (w.setCell ⟨g, q, none⟩ (.int .i64 0)).rowIs g T 201 (iv (zco a q)) :=
 (World.rowIs.set h q (.int .i64 0)).congr (fun i _ => by
  unfold iv zco
  by_cases e : i = q
  ·rw [if_pos e, if_pos e]
  ·rw [if_neg e, if_neg e])
theorem ze5 {S : Nat → Prop} (va : Value) (a : Mono) (x : Int) (w : World) (ha : Pows S w va a) (hS : ∀ k, S k → k < w.heap.size) (hma : mayM a = true) (hx : 1 ≤ x ∧ x ≤ 200) :
  Calls Tryz.prog 127 #[va, .int .i64 x] w fun e w' => ∃ v', e = .returned v' ∧ Pows (New w w') w' v' (z0j a x) ∧ Ext w w' := by
 have hz := (zero_of_info Tryz.infoArr).1
 have hcs : (Value.agg (tabA fun _ => 0)).cells = tabA fun _ => 0 := rfl
 have HA := hid ha
 have HMA := hid hma
 obtain ⟨aa, ca, rfl⟩ := ha.form
 have EA : Hid (exF a = fun v => ex a (v : Nat)) := hid (by funext v; unfold exF; rw [z2k hma])
 obtain ⟨q, hq⟩ : ∃ q : Nat, (q : Int) = x := ⟨x.toNat, by omega⟩
 subst hq
 have HE := hid (zhm hma q)
 have hq1 : (1 : Int) ≤ (q : Int) := hx.1
 have hq2 : (q : Int) ≤ 200 := hx.2
 have q1 : decide ((1 : Int) ≤ (q : Int)) = true := decide_eq_true hq1
 have q2 : decide ((q : Int) ≤ 200) = true := decide_eq_true hq2
 have q3 : (0 : Int) ≤ (q : Int) := by omega
 have q4 : (q : Int) < 201 := by omega
 have q5 : q < 201 := by omega
 clear ha hma hx
 go_enter Tryz.func127, Tryz.ntmps127
 go_wp2_with fail
 refine (z3j _ a w HA.out hS).mono ?_
 rintro e w1 ⟨rfl, hx1⟩
 have HX1 := hid hx1
 clear hx1
 rw [EA.out]
 go_wp2_with (first
  | (refine z1e rfl (.tmp 5) (.tmp 7) rfl rfl rfl (z5y (fun _ => 0) w1) ?_; intro w4 hrow hg; have HRA := hid (zrh (q := q) hrow); have HG := hid hg; have hcq := hrow.cell (i := q) q5; have hfq := hrow.frozen q; unfold iv at hcq; clear hrow hg)
  | (refine z3b rfl (.tmp 5) rfl rfl HRA.out ?_))
 have HX4 : Hid (Ext w (w4.setCell ⟨w1.heap.size, q, none⟩ (.int .i64 0))) := hid ((z0p (HX1.out.alloc _) HG.out (fun k hk => Nat.le_trans HX1.out.size (z9u hk))).setCell (p := ⟨w1.heap.size, q, none⟩) HX1.out.size _)
 refine (zij (zco a q) (w4.setCell ⟨w1.heap.size, q, none⟩ (.int .i64 0)) (fun j => by
  have := z1n HMA.out (j : Nat)
  unfold zco
  split <;> omega)).mono ?_
 rintro e w7 ⟨v7, rfl, hp, hx7⟩
 rw [HE.out] at hp
 have HX7 := hid hx7
 have HP7 := hid hp
 clear hp hx7
 go_wp2
 all_goals
  go_ret
  exact ⟨_, rfl, HP7.out.to (Kept.refl _ _) (New.mono HX4.out), HX4.out.trans HX7.out⟩
end
section
open Go.RowKit
section
variable {P : Program}
end
end
section
section
variable {α : Type} {le : α → α → Bool}
structure TotalLe (le : α → α → Bool) : Prop where
 trans : ∀ a b c, le a b = true → le b c = true → le a c = true
 total : ∀ a b, le a b = true ∨ le b a = true
theorem TotalLe.not {x y : α} (h : TotalLe le) (hn : le x y = false) : le y x = true := by
 rcases h.total x y with h | h
 ·rw [hn] at h; cases h
 ·exact h
theorem TotalLe.not_of (h : TotalLe le) {x y z : α} (h1 : le x y = false) (h2 : le x z = true) : le z y = false := by
 cases h3 : le z y with
 | false => rfl
 | true =>
  have := h.trans _ _ _ h2 h3
  rw [h1] at this; cases this
theorem TotalLe.not_of' (h : TotalLe le) {x y z : α} (h1 : le x y = false) (h2 : le z y = true) : le x z = false := by
 cases h3 : le x z with
 | false => rfl
 | true =>
  have := h.trans _ _ _ h3 h2
  rw [h1] at this; cases this
abbrev z0k (le : α → α → Bool) (xs ys : List α) : List α := List.merge xs ys le
theorem z0l (ys : List α) : z0k le [] ys = ys := List.nil_merge ys
theorem z0c (xs : List α) : z0k le xs [] = xs := List.merge_right xs
theorem z2b {x y : α} (xs ys : List α) (h : le x y = true) : z0k le (x :: xs) (y :: ys) = x :: z0k le xs (y :: ys) := List.cons_merge_cons_pos le xs ys h
theorem z1t {x y : α} (xs ys : List α) (h : le x y = false) : z0k le (x :: xs) (y :: ys) = y :: z0k le (x :: xs) ys := by
 unfold z0k
 rw [List.cons_merge_cons, if_neg (by rw [h]; exact Bool.false_ne_true)]
theorem zhn (xs ys : List α) : (z0k le xs ys).Perm (xs ++ ys) := List.merge_perm_append le
def z13 (le : α → α → Bool) (l : List α) : Prop := l.Pairwise (fun a b => le a b = true)
theorem ze6 (h : TotalLe le) {xs ys : List α} (hx : z13 le xs) (hy : z13 le ys) : z13 le (z0k le xs ys) :=
 List.pairwise_merge (fun a b c => h.trans a b c) (fun a b => by rcases h.total a b with h | h <;> simp [h]) _ _ hx hy
theorem z3y (A1 A2 B1 B2 : List α) (h1 : ∀ x ∈ A1, ∀ y ∈ B2, le x y = true) (h2 : ∀ y ∈ B1, ∀ x ∈ A2, le x y = false) :
  z0k le (A1 ++ A2) (B1 ++ B2) = z0k le A1 B1 ++ z0k le A2 B2 := by
 induction A1 generalizing B1 with
 | nil =>
  rw [z0l]
  induction B1 with
  | nil => rfl
  | cons b B1 ih =>
   cases A2 with
   | nil => simp
   | cons x A2 =>
    have := ih (fun y hy => h2 y (by simp [hy]))
    simp only [List.nil_append, List.cons_append] at this ⊢
    rw [z1t _ _ (h2 b (by simp) x (by simp)), this]
 | cons a A1 ihA =>
  induction B1 with
  | nil =>
   rw [z0c]
   cases B2 with
   | nil => simp
   | cons y B2 =>
    have := ihA [] (fun x hx => h1 x (by simp [hx])) (fun y hy => by simp at hy)
    rw [z0c] at this
    simp only [List.nil_append, List.cons_append] at this ⊢
    rw [z2b _ _ (h1 a (by simp) y (by simp)), this]
  | cons b B1 ihB =>
   cases hab : le a b with
   | true =>
    have := ihA (b :: B1) (fun x hx => h1 x (by simp [hx])) h2
    simp only [List.cons_append] at this ⊢
    rw [z2b _ _ hab, z2b _ _ hab, this]
    rfl
   | false =>
    have := ihB (fun y hy => h2 y (by simp [hy]))
    simp only [List.cons_append] at this ⊢
    rw [z1t _ _ hab, z1t _ _ hab, this]
    rfl
theorem zft (h : TotalLe le) (A B C : List α) : z0k le (z0k le A B) C = z0k le A (z0k le B C) := by
 generalize hn : A.length + B.length + C.length = n
 induction n using Nat.strongRecOn generalizing A B C with
 | ind n ih =>
  cases A with
  | nil => rw [z0l, z0l]
  | cons a A =>
   cases B with
   | nil => rw [z0l, z0c]
   | cons b B =>
    cases C with
    | nil => rw [z0c, z0c]
    | cons c C =>
     simp only [List.length_cons] at hn
     cases hab : le a b with
     | true =>
      rw [z2b _ _ hab]
      cases hac : le a c with
      | true =>
       rw [z2b _ _ hac, ih _ (by simp only [List.length_cons]; omega) A (b :: B) (c :: C) rfl]
       cases hbc : le b c with
       | true => rw [z2b _ _ hbc, z2b _ _ hab]
       | false => rw [z1t _ _ hbc, z2b _ _ hac]
      | false =>
       have hbc : le b c = false := h.not_of hac hab
       rw [z1t _ _ hac, z1t _ _ hbc, z1t _ _ hac, ← z2b _ _ hab, ih _ (by simp only [List.length_cons]; omega) (a :: A) (b :: B) C rfl]
     | false =>
      rw [z1t _ _ hab]
      cases hbc : le b c with
      | true => rw [z2b _ _ hbc, z2b _ _ hbc, z1t _ _ hab, ih _ (by simp only [List.length_cons]; omega) (a :: A) B (c :: C) rfl]
      | false =>
       have hac : le a c = false := by
        cases h3 : le a c with
        | false => rfl
        | true =>
         have := h.trans _ _ _ (h.not hab) h3
         rw [hbc] at this; cases this
       rw [z1t _ _ hbc, z1t _ _ hbc, z1t _ _ hac, ← z1t _ _ hab, ih _ (by simp only [List.length_cons]; omega) (a :: A) (b :: B) C rfl]
def z2e (le : α → α → Bool) : List α → List α
 | [] => []
 | x :: xs => z0k le [x] (z2e le xs)
theorem z57 (h : TotalLe le) (A B : List α) : z2e le (A ++ B) = z0k le (z2e le A) (z2e le B) := by
 induction A with
 | nil => exact (z0l _).symm
 | cons a A ih =>
  show z0k le [a] (z2e le (A ++ B)) = z0k le (z0k le [a] (z2e le A)) (z2e le B)
  rw [ih, zft h]
theorem zbo (x : α) : z2e le [x] = [x] := z0c [x]
theorem zda (l : List α) : (z2e le l).Perm l := by
 induction l with
 | nil => exact List.Perm.refl _
 | cons x l ih => exact (zhn [x] _).trans (ih.cons x)
theorem z14 (l : List α) : (z2e le l).length = l.length := (zda l).length_eq
theorem z36 (h : TotalLe le) (l : List α) : z13 le (z2e le l) := by
 induction l with
 | nil => exact List.Pairwise.nil
 | cons x l ih => exact ze6 h (List.pairwise_singleton _ _) ih
theorem z9i {S1 S2 : List α} {x : α} (h1 : ∀ y ∈ S1, le y x = true) (h2 : ∀ y ∈ S2, le y x = false) : z0k le (S1 ++ S2) [x] = S1 ++ x :: S2 := by
 have e := z3y (le := le) S1 S2 [x] [] (fun _ _ y hy => by simp at hy) (fun y hy z hz => by rw [List.mem_singleton.1 hy]; exact h2 z hz)
 rw [List.append_nil, z0c] at e
 rw [e]
 have e2 := z3y (le := le) S1 [] [] [x] (fun y hy z hz => by rw [List.mem_singleton.1 hz]; exact h1 y hy) (fun y hy => by simp at hy)
 rw [List.append_nil, List.nil_append, z0l, z0c] at e2
 rw [e2]
 simp
theorem zho {S1 S2 : List α} {x : α} (h1 : ∀ y ∈ S1, le x y = false) (h2 : ∀ y ∈ S2, le x y = true) : z0k le [x] (S1 ++ S2) = S1 ++ x :: S2 := by
 have e := z3y (le := le) [] [x] S1 S2 (fun y hy => by simp at hy) (fun y hy z hz => by rw [List.mem_singleton.1 hz]; exact h1 y hy)
 rw [List.nil_append, z0l] at e
 rw [e]
 have e2 := z3y (le := le) [x] [] [] S2 (fun y hy z hz => by rw [List.mem_singleton.1 hy]; exact h2 z hz) (fun y hy => by simp at hy)
 rw [List.append_nil, List.nil_append, z0l, z0c] at e2
 rw [e2]
 rfl
theorem z13.last {A : List α} {x y : α} (h : TotalLe le) (hs : z13 le (A ++ [x])) (hxy : le x y = true) : ∀ z ∈ A ++ [x], le z y = true := by
 intro z hz
 obtain ⟨_, _, h3⟩ := List.pairwise_append.1 hs
 rcases List.mem_append.1 hz with hz | hz
 ·exact h.trans _ _ _ (h3 z hz x (by simp)) hxy
 ·rw [List.mem_singleton.1 hz]; exact hxy
end
end
section
open Go.RowKit Go.Sort
theorem zfu {w W W' : World} {row : Option Nat} (h : w.grownBy W row) (hx : Ext W W') : w.grownBy W' row :=
 ⟨hx.os.trans h.os, hx.tape.trans h.tape, hx.output.trans h.output, Nat.le_trans h.size hx.size, fun i hi hne => (hx.block i (Nat.lt_of_lt_of_le hi h.size)).trans (h.block i hi hne)⟩
theorem zky (w : World) (row : Option Nat) : w.grownBy w row := ⟨rfl, rfl, rfl, Nat.le_refl _, fun _ _ _ => rfl⟩
theorem zns {w W : World} {b o : Nat} (h : w.grownBy W (some b)) (u : Value) : w.grownBy (W.setCell ⟨b, o, none⟩ u) (some b) :=
 ⟨h.os, h.tape, h.output, by rw [z0s]; exact h.size, fun i hi hne => (Below.heap_setCell _ _ _ _ (fun e => hne (by rw [e]))).trans (h.block i hi hne)⟩
theorem zdb {w : World} {b : Nat} (vs : List Value) : ∀ (o : Nat) (W : World), w.grownBy W (some b) → w.grownBy (W.setCells b o vs) (some b) := by
 induction vs with
 | nil => exact fun _ _ h => h
 | cons v r ih => exact fun o W h => ih (o + 1) _ (zns h v)
theorem z6q {α : Type} (A B : List α) (x : α) : (A ++ x :: B)[A.length]? = some x := by simp
theorem za0 {α : Type} [Inhabited α] {l : List α} {i : Nat} {x : α} (h : l[i]? = some x) : l.toArray[i]! = x := by simp [h]
theorem ztq {α : Type} [Inhabited α] (A M B : List α) (x y : α) : swp (A ++ x :: M ++ y :: B).toArray A.length (A.length + 1 + M.length) = (A ++ y :: M ++ x :: B).toArray := by
 have e0 : (A ++ x :: M ++ y :: B)[A.length]? = some x := by simp
 have e1 : (A ++ x :: M ++ y :: B)[A.length + 1 + M.length]? = some y := by
  rw [List.getElem?_append_right (by simp; omega)]
  simp [show A.length + 1 + M.length - (A.length + (M.length + 1)) = 0 by omega]
 unfold swp
 rw [za0 e0, za0 e1]
 rw [List.setIfInBounds_toArray, List.setIfInBounds_toArray]
 congr 1
 rw [show (A ++ x :: M ++ y :: B).set A.length y = A ++ y :: M ++ y :: B by rw [List.append_assoc, List.set_append_right _ _ (Nat.le_refl _)]; simp]
 rw [List.set_append_right _ _ (by simp; omega)]
 simp [show A.length + 1 + M.length - (A.length + (M.length + 1)) = 0 by omega]
theorem ziv {α : Type} [Inhabited α] (A M B : List α) (x y : α) : swp (A ++ x :: M ++ y :: B).toArray (A.length + 1 + M.length) A.length = (A ++ y :: M ++ x :: B).toArray := by
 have e0 : (A ++ x :: M ++ y :: B)[A.length]? = some x := by simp
 have e1 : (A ++ x :: M ++ y :: B)[A.length + 1 + M.length]? = some y := by
  rw [List.getElem?_append_right (by simp; omega)]
  simp [show A.length + 1 + M.length - (A.length + (M.length + 1)) = 0 by omega]
 unfold swp
 rw [za0 e0, za0 e1]
 rw [List.setIfInBounds_toArray, List.setIfInBounds_toArray]
 congr 1
 rw [show (A ++ x :: M ++ y :: B).set (A.length + 1 + M.length) x = A ++ x :: M ++ x :: B by
  rw [List.set_append_right _ _ (by simp; omega)]
  simp [show A.length + 1 + M.length - (A.length + (M.length + 1)) = 0 by omega]]
 rw [List.append_assoc, List.set_append_right _ _ (Nat.le_refl _)]
 simp
section
variable {α : Type} [Inhabited α] {enc : α → List Value} {k : Nat}
structure SortAt (enc : α → List Value) (k : Nat) (w : World) (b o : Nat) (d : List α) (W : World) : Prop where
 grown : w.grownBy W (some b)
 holds : HoldsK enc k W b o d.toArray
 old : b < w.heap.size
variable {w W W' : World} {b o : Nat} {d : List α}
theorem SortAt.later (h : SortAt enc k w b o d W) (hx : Ext W W') : SortAt enc k w b o d W' :=
 ⟨zfu h.grown hx, fun j hj => by
  have hb : b < W.heap.size := Nat.lt_of_lt_of_le h.old h.grown.size
  have := h.holds j hj
  exact ⟨(World.cell?_of_block (w := W) (hx.block b hb)).trans this.1, (World.frozen?_of_block (w := W) (hx.block b hb)).trans this.2⟩, h.old⟩
theorem SortAt.drew (h : SortAt enc k w b o d W) : SortAt enc k w b o d W.drew := h.later (Ext.refl W).drew
theorem SortAt.swap (h : SortAt enc k w b o d W) (hk : ∀ x, (enc x).length = k) {d' : List α} {i j : Nat} (hi : i < d.length) (hj : j < d.length) (hd : swp d.toArray i j = d'.toArray) :
  SortAt enc k w b o d' ((W.setCells b (o + i * k) (enc d.toArray[j]!)).setCells b (o + j * k) (enc d.toArray[i]!)) := by
 refine ⟨zdb _ _ _ (zdb _ _ _ h.grown), ?_, h.old⟩
 have e := putRowK_swp enc k hk W b o d.toArray i j (by simpa using hi) (by simpa using hj)
 rw [putRowK_self enc k W b o d.toArray h.holds, hd] at e
 rw [e]
 exact holdsK_putRowK enc k W b o d.toArray _ h.holds (by rw [← hd]; simp [size_swp])
theorem SortAt.cell (h : SortAt enc k w b o d W) {i c : Nat} {x : α} (hi : d[i]? = some x) (hc : c < k) :
  W.cell? ⟨b, o + i * k + c, none⟩ = some (enc x)[c]! ∧ W.frozen? ⟨b, o + i * k + c, none⟩ = false := by
 have hl := z04 hi
 have := HoldsK.cell h.holds (i := i) (c := c) (by simpa using hl) hc
 rw [za0 hi] at this
 exact this
end
structure TCell where
 neg : Bool
 ma : Option Addr
 mn : Nat
 mc : Nat
 oa : Option Addr
 on : Nat
 oc : Nat
abbrev encT {α : Type} (tc : α → TCell) (x : α) : List Value := [.bool (tc x).neg, (.slice (tc x).ma (tc x).mn (tc x).mc), (.slice (tc x).oa (tc x).on (tc x).oc)]
section
variable {α : Type} [Inhabited α] {tc : α → TCell} {w W : World} {b o : Nat} {d : List α}
theorem SortAt.get3 (h : SortAt (encT tc) 3 w b o d W) {i : Nat} {x : α} (hi : d[i]? = some x) :
  (W.cell? ⟨b, o + i * 3, none⟩ = some (.bool (tc x).neg) ∧ W.cell? ⟨b, o + i * 3 + 1, none⟩ = some (.slice (tc x).ma (tc x).mn (tc x).mc) ∧ W.cell? ⟨b, o + i * 3 + 2, none⟩ = some (.slice (tc x).oa (tc x).on (tc x).oc)) ∧
  W.frozen? ⟨b, o + i * 3, none⟩ = false ∧ W.frozen? ⟨b, o + i * 3 + 1, none⟩ = false ∧ W.frozen? ⟨b, o + i * 3 + 2, none⟩ = false := by
 have c0 := h.cell hi (c := 0) (by omega)
 have c1 := h.cell hi (c := 1) (by omega)
 have c2 := h.cell hi (c := 2) (by omega)
 exact ⟨⟨c0.1, c1.1, c2.1⟩, c0.2, c1.2, c2.2⟩
theorem SortAt.swap3 (h : SortAt (encT tc) 3 w b o d W) {d' : List α} {i j : Nat} {x y : α} (hi : d[i]? = some x) (hj : d[j]? = some y) (hd : swp d.toArray i j = d'.toArray) :
  SortAt (encT tc) 3 w b o d' ((((((W.setCell ⟨b, o + i * 3, none⟩ (.bool (tc y).neg)).setCell ⟨b, o + i * 3 + 1, none⟩ (.slice (tc y).ma (tc y).mn (tc y).mc)).setCell ⟨b, o + i * 3 + 2, none⟩ (.slice (tc y).oa (tc y).on (tc y).oc)).setCell
   ⟨b, o + j * 3, none⟩ (.bool (tc x).neg)).setCell ⟨b, o + j * 3 + 1, none⟩ (.slice (tc x).ma (tc x).mn (tc x).mc)).setCell ⟨b, o + j * 3 + 2, none⟩ (.slice (tc x).oa (tc x).on (tc x).oc)) := by
 have := h.swap (fun _ => rfl) (z04 hi) (z04 hj) hd
 rw [za0 hi, za0 hj] at this
 exact this
end
structure PCell where
 a : Option Addr
 n : Nat
 c : Nat
section
variable {α : Type} [Inhabited α] {pc : α → PCell} {w W : World} {b o : Nat} {d : List α}
end
end
section
open Go.RowKit Go.Sort
section
variable {α : Type} [Inhabited α] {tc : α → TCell} {w : World} {b o : Nat} {cf : α → α → Int} {le : α → α → Bool}
abbrev CmpT (g : Nat) (tc : α → TCell) (cf : α → α → Int) (w : World) (b : Nat) : Prop :=
 ∀ W, w.grownBy W (some b) → ∀ x y : α, Calls Tryz.prog g #[.agg #[.bool (tc x).neg, .slice (tc x).ma (tc x).mn (tc x).mc, .slice (tc x).oa (tc x).on (tc x).oc], .agg #[.bool (tc y).neg, .slice (tc y).ma (tc y).mn (tc y).mc, .slice (tc y).oa (tc y).on (tc y).oc]] W fun e w' => e = .returned (.int .i64 (cf x y)) ∧ Ext W w'
structure CmpLe (cf : α → α → Int) (le : α → α → Bool) : Prop where
 range : ∀ x y, -1 ≤ cf x y ∧ cf x y ≤ 1
 eq : ∀ x y, le y x = decide (0 ≤ cf x y)
 total : TotalLe le
theorem zhp (cap : Nat) (P X T : List α) (W : World) (hc : CmpT 139 tc cf w b) (hl : CmpLe cf le) (h : SortAt (encT tc) 3 w b o (P ++ X ++ T) W) (_hcap : (P ++ X ++ T).length ≤ cap) (hcap2 : (P ++ X ++ T).length ≤ 1000000000000) :
  Calls Tryz.prog 184 #[.slice (some ⟨b, o, none⟩) (P ++ X ++ T).length cap, .int .i64 P.length, .int .i64 (P.length + X.length : Nat), .func (.func 139) #[] #[]] W
   fun e w' => e = .returned (.tuple #[]) ∧ SortAt (encT tc) 3 w b o (P ++ z2e le X ++ T) w' := by
 have H := hid h
 have HC := hid hc
 have HL := hid hl
 clear h hc hl
 obtain ⟨n, hn⟩ : ∃ n, n = (P ++ X ++ T).length := ⟨_, rfl⟩
 obtain ⟨m, hm⟩ : ∃ m, m = P.length + X.length := ⟨_, rfl⟩
 obtain ⟨a, ha⟩ : ∃ a, a = P.length := ⟨_, rfl⟩
 rw [← hn] at _hcap hcap2 ⊢
 rw [← hm, ← ha]
 have hmn : m ≤ n := by rw [hm, hn]; simp
 have ham : a ≤ m := by rw [ha, hm]; simp
 have HN := hid hn
 have HA := hid ha
 have HM := hid hm
 clear hn ha hm
 cases X with
 | nil =>
  obtain rfl : m = a := by rw [HM.out, HA.out]; simp
  go_enter Tryz.func184, Tryz.ntmps184
  go_wp2
  refine wp_loop_rounds 1 ?_
  rw [rounds_succ]
  go_wp2
  go_end0
  exact ⟨rfl, H.out⟩
 | cons x0 X =>
  have ham : a < m := by rw [HA.out, HM.out]; simp
  go_enter Tryz.func184, Tryz.ntmps184
  go_wp2
  go_loopw [8] (fun vi wr => ∃ (i : Nat) (X1 X2 : List α), vi = .int .i64 i ∧ a < i ∧ i ≤ m ∧ Hid (i = a + X1.length) ∧ Hid (x0 :: X = X1 ++ X2) ∧ SortAt (encT tc) 3 w b o (P ++ z2e le X1 ++ X2 ++ T) wr) (fun vi _ => m - (intOf vi).toNat)
  case atStart => exact ⟨a + 1, [x0], X, by go_num, by omega, by omega, rfl, rfl, by rw [zbo]; simpa using H.out⟩
  case round =>
   obtain ⟨i, X1, X2, rfl, hai, him, HI, HX, hs⟩ := hrel
   have HS := hid hs
   clear hs
   by_cases hlt : i < m
   ·cases X2 with
    | nil =>
     exfalso
     have h1 := HI.out
     have h2 := congrArg List.length HX.out
     have h3 := HM.out
     have h4 := HA.out
     simp at h2 h3
     omega
    | cons x X2 =>
     go_wp2
     go_loopw [9] (fun vj wr2 => ∃ (j : Nat) (S1 S2 : List α), vj = .int .i64 j ∧ a ≤ j ∧ j ≤ i ∧ Hid (j = a + S1.length) ∧ Hid (z2e le X1 = S1 ++ S2) ∧ Hid (∀ y ∈ S2, le y x = false) ∧ SortAt (encT tc) 3 w b o (P ++ S1 ++ x :: S2 ++ X2 ++ T) wr2) (fun vj _ => (intOf vj).toNat)
     case atStart => exact ⟨i, z2e le X1, [], rfl, by omega, Nat.le_refl _, by rw [HI.out, z14]; rfl, by show _ = _; simp, fun y hy => by simp at hy, by simpa using HS.out⟩
     case round =>
      obtain ⟨j, S1, S2, rfl, haj, hji, HJ, HSS, HS2, hs2⟩ := hrel
      rcases (show S1 = [] ∨ ∃ L z, S1 = L ++ [z] by simpa using List.eq_nil_or_concat S1) with rfl | ⟨S1', y, rfl⟩
      ·obtain rfl : j = a := by rw [HJ.out]; rfl
       have hb : decide ((j : Int) > (j : Int)) = false := by simp
       have HD := hid hs2
       clear hs2
       go_wp2
       refine z03 (by kernel_rfl) (by kernel_rfl) ?_
       repeat (go_big_quiet_step (fail))
       refine wpQuiet_nil ?_
       intro W2 hW2
       have HD2 := hid (HD.out.later hW2)
       clear hW2
       go_wp2
       go_roundw
       case rel =>
        refine ⟨i + 1, X1 ++ [x], X2, by go_num, by omega, by omega, ?_, ?_, ?_⟩
        ·show _ = _; have := HI.out; simp; omega
        ·show _ = _; rw [HX.out]; simp
        ·have e := z9i (le := le) (S1 := []) (S2 := S2) (x := x) (by simp) HS2.out
         rw [z57 HL.out.total, zbo, HSS.out, e]
         have := HD2.out
         simpa using this
       case measure => simp [intOf]; omega
      ·obtain ⟨jp, rfl⟩ : ∃ jp, j = jp + 1 := ⟨j - 1, by have := HJ.out; simp at this; omega⟩
       have hj : jp = (P ++ S1').length := by have := HJ.out; have := HA.out; simp at *; omega
       have hjn : jp + 1 < n := by omega
       have g0 : (P ++ (S1' ++ [y]) ++ x :: S2 ++ X2 ++ T)[jp]? = some y := by rw [hj]; simp
       have g1 : (P ++ (S1' ++ [y]) ++ x :: S2 ++ X2 ++ T)[jp + 1]? = some x := by
        rw [show jp + 1 = (P ++ S1' ++ [y]).length by simp [hj, Nat.add_assoc], show P ++ (S1' ++ [y]) ++ x :: S2 ++ X2 ++ T = (P ++ S1' ++ [y]) ++ (x :: (S2 ++ X2 ++ T)) by simp]
        exact z6q _ _ _
       have HD := hid hs2
       have HG := hid (And.intro g0 g1)
       have HJP := hid hj
       have L0 := fun Y : Later wr => (hs2.later Y.h).get3 g0
       have L1 := fun Y : Later wr => (hs2.later Y.h).get3 g1
       have LC := fun Y : Later wr => HC.out Y.w' (hs2.later Y.h).grown x y
       have a0 := fun Y => (L0 Y).1.1
       have a1 := fun Y => (L0 Y).1.2.1
       have a2 := fun Y => (L0 Y).1.2.2
       have b0 := fun Y => (L1 Y).1.1
       have b1 := fun Y => (L1 Y).1.2.1
       have b2 := fun Y => (L1 Y).1.2.2
       obtain ⟨r1, r2⟩ := HL.out.range x y
       have HLE := hid (HL.out.eq x y)
       generalize cf x y = c at *
       have HLC := hid LC
       clear L0 L1 LC hs2 g0 g1 hj
       by_cases hcc : c < 0
       ·have hle : le y x = false := by rw [HLE.out]; exact decide_eq_false (by omega)
        have HLF := hid hle
        clear hle
        have q1 : (a : Int) < (jp : Int) + 1 := by have := HJ.out; simp at this; omega
        have q2 : (jp : Int) + 1 < (n : Int) := by omega
        have q3 : (jp : Int) < (n : Int) := by omega
        have q4 : (0 : Int) ≤ (jp : Int) + 1 := by omega
        have q5 : ((jp : Int) + 1).toNat = jp + 1 := by omega
        have q6 : IntKind.i64.wrap (jp : Int) = (jp : Int) := by rw [IntKind.wrap_i64]; omega
        go_wp2
        refine z03 (by kernel_rfl) (by kernel_rfl) ?_
        repeat (go_big_quiet_step (first | (go_at_call 139; exact Later.done (HLC.out _))))
        refine wpQuiet_nil ?_
        intro W2 hW2
        clear a0 a1 a2 b0 b1 b2
        have HD2 := hid (HD.out.later hW2)
        clear hW2
        obtain ⟨⟨c0, c1, c2⟩, f0, f1, f2⟩ := HD2.out.get3 HG.out.1
        obtain ⟨⟨d0, d1, d2⟩, k0, k1, k2⟩ := HD2.out.get3 HG.out.2
        have HD3 := hid (HD2.out.swap3 HG.out.2 HG.out.1 (d' := P ++ S1' ++ x :: (y :: S2) ++ X2 ++ T) (by
         have e := ziv (P ++ S1') [] (S2 ++ X2 ++ T) y x
         simp only [List.append_assoc, List.cons_append, List.nil_append, List.length_nil, Nat.add_zero] at e ⊢
         rw [HJP.out]
         exact e))
        go_wp2
        go_big_region
        all_goals go_wp2
        go_roundw
        case rel =>
         refine ⟨jp, S1', y :: S2, rfl, ?_, by omega, ?_, ?_, ?_, ?_⟩
         ·have := HJ.out; simp at this; omega
         ·have := HJ.out; simp at this; show _ = _; omega
         ·show _ = _; rw [HSS.out]; simp
         ·intro z hz
          rcases List.mem_cons.1 hz with rfl | hz
          ·exact HLF.out
          ·exact HS2.out z hz
         ·exact HD3.out.drew
        case measure => simp [intOf]
       ·have hle : le y x = true := by rw [HLE.out]; exact decide_eq_true (by omega)
        have HLT := hid hle
        clear hle
        have q1 : (a : Int) < (jp : Int) + 1 := by have := HJ.out; simp at this; omega
        have q2 : (jp : Int) + 1 < (n : Int) := by omega
        have q3 : (jp : Int) < (n : Int) := by omega
        have q4 : (0 : Int) ≤ (jp : Int) + 1 := by omega
        have q5 : ((jp : Int) + 1).toNat = jp + 1 := by omega
        have q6 : IntKind.i64.wrap (jp : Int) = (jp : Int) := by rw [IntKind.wrap_i64]; omega
        have q7 : ¬ c < 0 := hcc
        go_wp2
        refine z03 (by kernel_rfl) (by kernel_rfl) ?_
        repeat (go_big_quiet_step (first | (go_at_call 139; exact Later.done (HLC.out _))))
        refine wpQuiet_nil ?_
        intro W2 hW2
        clear a0 a1 a2 b0 b1 b2
        have HD2 := hid (HD.out.later hW2)
        clear hW2
        go_wp2
        go_roundw
        case rel =>
         refine ⟨i + 1, X1 ++ [x], X2, by go_num, by omega, by omega, ?_, ?_, ?_⟩
         ·show _ = _; have := HI.out; simp; omega
         ·show _ = _; rw [HX.out]; simp
         ·have e := z9i (le := le) (S1 := S1' ++ [y]) (S2 := S2) (x := x) (by
           refine z13.last HL.out.total ?_ HLT.out
           have := z36 HL.out.total X1
           rw [HSS.out] at this
           exact (List.pairwise_append.1 this).1) HS2.out
          rw [z57 HL.out.total, zbo, HSS.out, e]
          have := HD2.out
          simpa using this
        case measure => simp [intOf]; omega
   ·obtain rfl : i = m := by omega
    have hX2 : X2 = [] := by
     have h1 := HI.out
     have h2 := congrArg List.length HX.out
     have h3 := HM.out
     have h4 := HA.out
     simp at h2 h3
     exact List.length_eq_zero_iff.1 (by omega)
    subst hX2
    have HF : Hid (SortAt (encT tc) 3 w b o (P ++ z2e le (x0 :: X) ++ T) wr) := by
     have h1 := HS.out
     have h2 := HX.out
     rw [List.append_nil] at h2
     rw [h2]
     exact hid (by simpa using h1)
    go_wp2
    go_end0
    exact ⟨rfl, HF.out⟩
end
end
section
open Go.RowKit Go.Sort
section
variable {α : Type} [Inhabited α] {tc : α → TCell} {w : World} {b o : Nat}
theorem zfv (cap : Nat) (P U M V Q : List α) (n : Nat) (cv : Value) (W : World) (hu : U.length = n) (hv : V.length = n) (h : SortAt (encT tc) 3 w b o (P ++ U ++ M ++ V ++ Q) W) (_hcap : (P ++ U ++ M ++ V ++ Q).length ≤ cap) (hcap2 : (P ++ U ++ M ++ V ++ Q).length ≤ 1000000000000) :
  Calls Tryz.prog 214 #[.slice (some ⟨b, o, none⟩) (P ++ U ++ M ++ V ++ Q).length cap, .int .i64 P.length, .int .i64 (P.length + n + M.length : Nat), .int .i64 n, cv] W
   fun e w' => e = .returned (.tuple #[]) ∧ SortAt (encT tc) 3 w b o (P ++ V ++ M ++ U ++ Q) w' := by
 have H := hid h
 have HU := hid hu
 have HV := hid hv
 clear h
 obtain ⟨l, hl⟩ : ∃ l, l = (P ++ U ++ M ++ V ++ Q).length := ⟨_, rfl⟩
 obtain ⟨m, hm⟩ : ∃ m, m = P.length + n + M.length := ⟨_, rfl⟩
 obtain ⟨a, ha⟩ : ∃ a, a = P.length := ⟨_, rfl⟩
 rw [← hl] at _hcap hcap2 ⊢
 rw [← hm, ← ha]
 have hmn : m + n ≤ l := by rw [hm, hl]; simp; omega
 have ham : a + n ≤ m := by rw [ha, hm]; omega
 have HL := hid hl
 have HA := hid ha
 have HM := hid hm
 clear hl ha hm hu hv
 go_enter Tryz.func214, Tryz.ntmps214
 go_wp2
 go_loopw [10] (fun vi wr => ∃ (i : Nat) (U1 U2 V1 V2 : List α), vi = .int .i64 i ∧ i ≤ n ∧ Hid (i = U1.length) ∧ Hid (i = V1.length) ∧ Hid (U = U1 ++ U2) ∧ Hid (V = V1 ++ V2) ∧ SortAt (encT tc) 3 w b o (P ++ V1 ++ U2 ++ M ++ U1 ++ V2 ++ Q) wr) (fun vi _ => n - (intOf vi).toNat)
 case atStart => exact ⟨0, [], U, [], V, rfl, by omega, rfl, rfl, rfl, rfl, by simpa using H.out⟩
 case round =>
  obtain ⟨i, U1, U2, V1, V2, rfl, hin, HI, HI2, HUU, HVV, hs⟩ := hrel
  have HS := hid hs
  clear hs
  by_cases hlt : i < n
  ·cases U2 with
   | nil =>
    exfalso
    have h1 := HI.out
    have h2 := HU.out
    rw [HUU.out] at h2
    simp at h2
    omega
   | cons x U2 =>
    cases V2 with
    | nil =>
     exfalso
     have h1 := HI2.out
     have h2 := HV.out
     rw [HVV.out] at h2
     simp at h2
     omega
    | cons y V2 =>
     have hx : a + i = (P ++ V1).length := by have := HA.out; have := HI2.out; simp; omega
     have hy : m + i = (P ++ V1).length + 1 + (U2 ++ M ++ U1).length := by
      have h1 := HI.out
      have h2 := HU.out
      have h3 := HM.out
      have h4 := HI2.out
      rw [HUU.out] at h2
      simp at h2 ⊢
      omega
     have g0 : (P ++ V1 ++ x :: U2 ++ M ++ U1 ++ y :: V2 ++ Q)[a + i]? = some x := by
      rw [hx, show P ++ V1 ++ x :: U2 ++ M ++ U1 ++ y :: V2 ++ Q = (P ++ V1) ++ x :: (U2 ++ M ++ U1 ++ y :: V2 ++ Q) by simp]
      exact z6q _ _ _
     have g1 : (P ++ V1 ++ x :: U2 ++ M ++ U1 ++ y :: V2 ++ Q)[m + i]? = some y := by
      rw [hy, show (P ++ V1).length + 1 + (U2 ++ M ++ U1).length = (P ++ V1 ++ x :: U2 ++ M ++ U1).length by simp; omega, show P ++ V1 ++ x :: U2 ++ M ++ U1 ++ y :: V2 ++ Q = (P ++ V1 ++ x :: U2 ++ M ++ U1) ++ y :: (V2 ++ Q) by simp]
      exact z6q _ _ _
     obtain ⟨⟨c0, c1, c2⟩, f0, f1, f2⟩ := HS.out.get3 g0
     obtain ⟨⟨d0, d1, d2⟩, k0, k1, k2⟩ := HS.out.get3 g1
     have HD := hid (HS.out.swap3 g0 g1 (d' := P ++ V1 ++ y :: U2 ++ M ++ U1 ++ x :: V2 ++ Q) (by
      have e := ztq (P ++ V1) (U2 ++ M ++ U1) (V2 ++ Q) x y
      rw [hx, hy]
      simp only [List.append_assoc, List.cons_append] at e ⊢
      exact e))
     clear g0 g1 hx hy
     have q1 : (a : Int) + (i : Int) < (l : Int) := by omega
     have q2 : (m : Int) + (i : Int) < (l : Int) := by omega
     have q3 : (0 : Int) ≤ (a : Int) + (i : Int) := by omega
     have q4 : (0 : Int) ≤ (m : Int) + (i : Int) := by omega
     have q5 : ((a : Int) + (i : Int)).toNat = a + i := by omega
     have q6 : ((m : Int) + (i : Int)).toNat = m + i := by omega
     go_wp2
     go_big_region
     all_goals go_wp2
     go_roundw
     case rel =>
      refine ⟨i + 1, U1 ++ [x], U2, V1 ++ [y], V2, by go_num, by omega, ?_, ?_, ?_, ?_, ?_⟩
      ·show _ = _; rw [HI.out]; simp
      ·show _ = _; rw [HI2.out]; simp
      ·show _ = _; rw [HUU.out]; simp
      ·show _ = _; rw [HVV.out]; simp
      ·have := HD.out.drew
       simpa using this
     case measure => simp [intOf]; omega
  ·obtain rfl : i = n := by omega
   have h1 : U2 = [] := by
    have h1 := HI.out
    have h2 := HU.out
    rw [HUU.out] at h2
    simp at h2
    exact List.length_eq_zero_iff.1 (by omega)
   have h2 : V2 = [] := by
    have h1 := HI2.out
    have h2 := HV.out
    rw [HVV.out] at h2
    simp at h2
    exact List.length_eq_zero_iff.1 (by omega)
   subst h1 h2
   have HF : Hid (SortAt (encT tc) 3 w b o (P ++ V ++ M ++ U ++ Q) wr) := by
    have := HS.out
    rw [HUU.out, HVV.out]
    exact hid (by simpa using this)
   go_wp2
   go_end0
   exact ⟨rfl, HF.out⟩
theorem z61 {cap l : Nat} {za zb zn : Int} {cv : Value} {cur : List α} (P U M V Q : List α) (W : World) (hcur : cur = P ++ U ++ M ++ V ++ Q) (hl : l = cur.length) (hza : za = P.length) (hzb : zb = P.length + U.length + M.length) (hzn : zn = U.length) (hv : V.length = U.length)
  (h : SortAt (encT tc) 3 w b o cur W) (hcap : l ≤ cap) (hcap2 : l ≤ 1000000000000) :
  Calls Tryz.prog 214 #[.slice (some ⟨b, o, none⟩) l cap, .int .i64 za, .int .i64 zb, .int .i64 zn, cv] W
   fun e w' => e = .returned (.tuple #[]) ∧ SortAt (encT tc) 3 w b o (P ++ V ++ M ++ U ++ Q) w' := by
 subst hcur hl hza hzn
 obtain rfl : zb = ((P.length + U.length + M.length : Nat) : Int) := by rw [hzb]; omega
 exact zfv cap P U M V Q U.length cv W rfl hv h hcap hcap2
theorem z58 {cap l : Nat} {za zm zb : Int} {cv : Value} {cur : List α} (P X Y Q : List α) (W : World) (hcur : cur = P ++ X ++ Y ++ Q) (hl : l = cur.length) (hza : za = P.length) (hzm : zm = P.length + X.length) (hzb : zb = P.length + X.length + Y.length)
  (h : SortAt (encT tc) 3 w b o cur W) (hx : X ≠ []) (hy : Y ≠ []) (hcap : l ≤ cap) (hcap2 : l ≤ 1000000000000) :
  Calls Tryz.prog 198 #[.slice (some ⟨b, o, none⟩) l cap, .int .i64 za, .int .i64 zm, .int .i64 zb, cv] W
   fun e w' => e = .returned (.tuple #[]) ∧ SortAt (encT tc) 3 w b o (P ++ Y ++ X ++ Q) w' := by
 have hx0 : 0 < X.length := List.length_pos_iff.2 hx
 have hy0 : 0 < Y.length := List.length_pos_iff.2 hy
 have H := hid h
 obtain ⟨m, hm⟩ : ∃ m, m = P.length + X.length := ⟨_, rfl⟩
 obtain ⟨a, ha⟩ : ∃ a, a = P.length := ⟨_, rfl⟩
 obtain ⟨i0, hi0⟩ : ∃ a, a = X.length := ⟨_, rfl⟩
 obtain ⟨j0, hj0⟩ : ∃ a, a = Y.length := ⟨_, rfl⟩
 obtain rfl : za = a := by omega
 obtain rfl : zm = m := by omega
 obtain ⟨B, hB⟩ : ∃ B, B = m + j0 := ⟨_, rfl⟩
 obtain rfl : zb = (B : Int) := by omega
 have HB := hid hB
 have hmB : m ≤ B := by omega
 have hBl : B ≤ l := by rw [hl, hcur, hB, hm, hj0]; simp; omega
 have hml : m + j0 ≤ l := by rw [hl, hcur, hm, hj0]; simp; omega
 have ham : m = a + i0 := by omega
 have HM := hid ham
 have HLL := hid hl
 have HCUR := hid hcur
 have HAA := hid ha
 have HII := hid hi0
 have HJJ := hid hj0
 have hai : a ≤ m := by omega
 have hi1 : 1 ≤ i0 := by omega
 have hj1 : 1 ≤ j0 := by omega
 have w1 : IntKind.i64.wrap ((m : Int) - (a : Int)) = (i0 : Int) := by rw [IntKind.wrap_i64]; omega
 have W1 := hid w1
 clear h hx hy hx0 hy0 hza hzm hzb hl hcur ha hi0 hj0 hm ham w1 hB
 go_enter Tryz.func198, Tryz.ntmps198
 go_wp2
 go_loopw [10, 11] (fun vi vj wr => ∃ (i j : Nat) (P' X' Y' Q' : List α), vi = .int .i64 i ∧ vj = .int .i64 j ∧ 1 ≤ i ∧ 1 ≤ j ∧ i ≤ m ∧ m + j ≤ l ∧ Hid (i = X'.length) ∧ Hid (j = Y'.length) ∧ Hid (m = P'.length + X'.length) ∧ Hid (P' ++ Y' ++ X' ++ Q' = P ++ Y ++ X ++ Q) ∧ SortAt (encT tc) 3 w b o (P' ++ X' ++ Y' ++ Q') wr) (fun vi vj _ => (intOf vi).toNat + (intOf vj).toNat)
 case atStart => exact ⟨i0, j0, P, X, Y, Q, by have := HM.out; congr 1; omega, by have := HB.out; congr 1; omega, hi1, hj1, by have := HM.out; omega, hml, HII.out, HJJ.out, by show _ = _; rw [HM.out, HAA.out, HII.out], rfl, by have := H.out; rw [HCUR.out] at this; exact this⟩
 case round =>
  obtain ⟨i, j, P', X', Y', Q', rfl, rfl, hi, hj, him, hmj, HI, HJ, HMM, HE, hs⟩ := hrel
  have HS := hid hs
  have HLC : Hid (l = (P' ++ X' ++ Y' ++ Q').length) := hid (by
   have h1 := HLL.out
   have h2 := congrArg List.length HE.out
   rw [HCUR.out] at h1
   simp at h1 h2 ⊢
   omega)
  clear hs
  rcases (show i = j ∨ j < i ∨ i < j by omega) with rfl | hlt | hlt
  ·have C := hid (z61 (cap := cap) (l := l) (za := (m : Int) - (i : Int)) (zb := m) (zn := i) (cv := cv) P' X' [] Y' Q' wr (by simp) HLC.out (by have := HMM.out; have := HI.out; omega) (by have := HMM.out; simp; omega) (by have := HI.out; omega) (by rw [← HI.out, ← HJ.out]) HS.out hcap hcap2)
   have q0 : ((i : Int) != (i : Int)) = false := by simp
   go_wp2_with fail
   refine C.out.mono ?_
   rintro e w2 ⟨rfl, hs2⟩
   have HF := hid hs2
   clear hs2
   go_wp2
   go_end0
   refine ⟨rfl, ?_⟩
   have := HF.out
   rw [← HE.out]
   simpa using this
  ·obtain ⟨X1, X2, hX, hX1⟩ : ∃ X1 X2, X' = X1 ++ X2 ∧ X1.length = j := ⟨X'.take j, X'.drop j, (List.take_append_drop j X').symm, by rw [List.length_take]; have := HI.out; omega⟩
   subst hX
   have HX1 := hid hX1
   clear hX1
   have C := hid (z61 (cap := cap) (l := l) (za := (m : Int) - (i : Int)) (zb := m) (zn := j) (cv := cv) P' X1 X2 Y' Q' wr (by simp) HLC.out (by have := HMM.out; have := HI.out; omega) (by have := HMM.out; simp at this; omega) (by have := HX1.out; omega) (by rw [HX1.out, ← HJ.out]) HS.out hcap hcap2)
   have q0 : ((i : Int) != (j : Int)) = true := by simp; omega
   have q1 : (i : Int) > (j : Int) := by omega
   go_wp2_with fail
   refine C.out.mono ?_
   rintro e w2 ⟨rfl, hs2⟩
   have HF := hid hs2
   clear hs2
   go_wp2
   go_roundw
   case rel =>
    refine ⟨i - j, j, P' ++ Y', X2, X1, Q', by congr 1; omega, rfl, by omega, hj, by omega, hmj, ?_, ?_, ?_, ?_, ?_⟩
    ·show _ = _; have := HI.out; have := HX1.out; simp at *; omega
    ·exact HX1.out.symm
    ·show _ = _; have := HMM.out; have := HX1.out; have := HJ.out; simp at *; omega
    ·show _ = _; rw [← HE.out]; simp
    ·have := HF.out
     simpa using this
   case measure => simp [intOf]; omega
  ·obtain ⟨Y1, Y2, hY, hY2⟩ : ∃ Y1 Y2, Y' = Y1 ++ Y2 ∧ Y2.length = i := ⟨Y'.take (j - i), Y'.drop (j - i), (List.take_append_drop _ Y').symm, by rw [List.length_drop]; have := HJ.out; omega⟩
   subst hY
   have HY2 := hid hY2
   clear hY2
   have C := hid (z61 (cap := cap) (l := l) (za := (m : Int) - (i : Int)) (zb := (m : Int) + (j : Int) - (i : Int)) (zn := i) (cv := cv) P' X' Y1 Y2 Q' wr (by simp) HLC.out (by have := HMM.out; have := HI.out; omega) (by have := HMM.out; have := HJ.out; have := HY2.out; simp at *; omega) (by have := HI.out; omega) (by rw [HY2.out, ← HI.out]) HS.out hcap hcap2)
   have q0 : ((i : Int) != (j : Int)) = true := by simp; omega
   have q1 : ¬ (i : Int) > (j : Int) := by omega
   go_wp2_with fail
   refine C.out.mono ?_
   rintro e w2 ⟨rfl, hs2⟩
   have HF := hid hs2
   clear hs2
   go_wp2
   go_roundw
   case rel =>
    refine ⟨i, j - i, P', Y2, Y1, X' ++ Q', rfl, by congr 1; omega, hi, by omega, him, by omega, ?_, ?_, ?_, ?_, ?_⟩
    ·exact HY2.out.symm
    ·show _ = _; have := HJ.out; have := HY2.out; simp at *; omega
    ·show _ = _; have := HMM.out; have := HY2.out; have := HI.out; omega
    ·show _ = _; rw [← HE.out]; simp
    ·have := HF.out
     simpa using this
   case measure => simp [intOf]; omega
end
end
section
open Go.RowKit Go.Sort
section
variable {α : Type} {le : α → α → Bool}
theorem z13.le_at {B : List α} (h : z13 le B) {i j : Nat} {x y : α} (hx : B[i]? = some x) (hy : B[j]? = some y) (hij : i < j) : le x y = true := by
 obtain ⟨h1, rfl⟩ := List.getElem?_eq_some_iff.1 hx
 obtain ⟨h2, rfl⟩ := List.getElem?_eq_some_iff.1 hy
 exact List.pairwise_iff_getElem.1 h i j h1 h2 hij
theorem z62 {B : List α} {t : Nat} {y : α} (h : y ∈ B.take t) : ∃ k, k < t ∧ B[k]? = some y := by
 obtain ⟨k, hk⟩ := List.getElem?_of_mem h
 rw [List.getElem?_take] at hk
 split at hk
 ·exact ⟨k, by assumption, hk⟩
 ·cases hk
theorem z63 {B : List α} {t : Nat} {y : α} (h : y ∈ B.drop t) : ∃ k, t ≤ k ∧ B[k]? = some y := by
 obtain ⟨k, hk⟩ := List.getElem?_of_mem h
 rw [List.getElem?_drop] at hk
 exact ⟨t + k, by omega, hk⟩
theorem znt (hl : TotalLe le) {B : List α} (h : z13 le B) {x : α} {t : Nat} (h1 : t = 0 ∨ ∃ z, B[t - 1]? = some z ∧ le x z = false) : ∀ y ∈ B.take t, le x y = false := by
 intro y hy
 obtain ⟨k, hk, hky⟩ := z62 hy
 rcases h1 with rfl | ⟨z, hz, hzx⟩
 ·omega
 ·rcases (show k = t - 1 ∨ k < t - 1 by omega) with rfl | hlt
  ·rw [hky] at hz
   cases hz
   exact hzx
  ·exact hl.not_of' hzx (h.le_at hky hz hlt)
theorem ziw (hl : TotalLe le) {B : List α} (h : z13 le B) {x : α} {t : Nat} (h1 : t = B.length ∨ ∃ z, B[t]? = some z ∧ le x z = true) : ∀ y ∈ B.drop t, le x y = true := by
 intro y hy
 obtain ⟨k, hk, hky⟩ := z63 hy
 rcases h1 with rfl | ⟨z, hz, hzx⟩
 ·have := z04 hky; omega
 ·rcases (show k = t ∨ t < k by omega) with rfl | hlt
  ·rw [hky] at hz
   cases hz
   exact hzx
  ·exact hl.trans _ _ _ hzx (h.le_at hz hky hlt)
theorem zix (hl : TotalLe le) {B : List α} (h : z13 le B) {x : α} {t : Nat} (h1 : t = 0 ∨ ∃ z, B[t - 1]? = some z ∧ le z x = true) : ∀ y ∈ B.take t, le y x = true := by
 intro y hy
 obtain ⟨k, hk, hky⟩ := z62 hy
 rcases h1 with rfl | ⟨z, hz, hzx⟩
 ·omega
 ·rcases (show k = t - 1 ∨ k < t - 1 by omega) with rfl | hlt
  ·rw [hky] at hz
   cases hz
   exact hzx
  ·exact hl.trans _ _ _ (h.le_at hky hz hlt) hzx
theorem zfw (hl : TotalLe le) {B : List α} (h : z13 le B) {x : α} {t : Nat} (h1 : t = B.length ∨ ∃ z, B[t]? = some z ∧ le z x = false) : ∀ y ∈ B.drop t, le y x = false := by
 intro y hy
 obtain ⟨k, hk, hky⟩ := z63 hy
 rcases h1 with rfl | ⟨z, hz, hzx⟩
 ·have := z04 hky; omega
 ·rcases (show k = t ∨ t < k by omega) with rfl | hlt
  ·rw [hky] at hz
   cases hz
   exact hzx
  ·exact hl.not_of hzx (h.le_at hz hky hlt)
theorem ziy {P B T : List α} {a i : Nat} (ha : a = P.length) (hi : i < B.length) : (P ++ B ++ T)[a + i]? = B[i]? := by
 rw [List.append_assoc, List.getElem?_append_right (by omega), show a + i - P.length = i by omega, List.getElem?_append_left hi]
end
section
variable {α : Type} [Inhabited α] {tc : α → TCell} {w : World} {b o : Nat} {cf : α → α → Int} {le : α → α → Bool}
theorem znu {cap l : Nat} {a m e : Nat} (P B T : List α) (x : α) (cur : List α) (W : World) (hc : CmpT 139 tc cf w b) (hcl : CmpLe cf le) (hcur : cur = P ++ x :: B ++ T) (hl : l = cur.length) (ha : a = P.length) (hm : m = a + 1) (he : e = a + 1 + B.length)
  (h : SortAt (encT tc) 3 w b o cur W) (hB : z13 le B) (_hcap : l ≤ cap) (hcap2 : l ≤ 1000000000000) :
  Calls Tryz.prog 185 #[.slice (some ⟨b, o, none⟩) l cap, .int .i64 a, .int .i64 m, .int .i64 e, .func (.func 139) #[] #[]] W
   fun r w' => r = .returned (.tuple #[]) ∧ SortAt (encT tc) 3 w b o (P ++ z0k le [x] B ++ T) w' := by
 have H := hid h
 have HC := hid hc
 have HL := hid hcl
 have HCUR := hid hcur
 have HLL := hid hl
 have HA := hid ha
 have hml : e ≤ l := by rw [hl, hcur, he, ha]; simp; omega
 have hae : m ≤ e := by omega
 have HM := hid hm
 have HE := hid he
 clear h hc hcl hcur hl ha he
 have hm1 : m ≤ a + 1 := by omega
 have hm2 : a + 1 ≤ m := by omega
 have q0 : ((m : Int) - (a : Int) == 1) = true := by rw [beq_iff_eq]; omega
 clear hm
 have gx : cur[a]? = some x := by rw [HCUR.out, HA.out, show P ++ x :: B ++ T = P ++ x :: (B ++ T) by simp]; exact z6q _ _ _
 have HGX := hid gx
 clear gx
 go_enter Tryz.func185, Tryz.ntmps185
 go_wp2
 go_loopw [10, 11] (fun vi vj wr => ∃ i j : Nat, vi = .int .i64 i ∧ vj = .int .i64 j ∧ m ≤ i ∧ i ≤ j ∧ j ≤ e ∧ Hid (i = m ∨ ∃ z, cur[i - 1]? = some z ∧ le x z = false) ∧ Hid (j = e ∨ ∃ z, cur[j]? = some z ∧ le x z = true) ∧ SortAt (encT tc) 3 w b o cur wr) (fun vi vj _ => (intOf vj).toNat - (intOf vi).toNat)
 case atStart => exact ⟨m, e, rfl, rfl, Nat.le_refl _, hae, Nat.le_refl _, .inl rfl, .inl rfl, H.out⟩
 case round =>
  obtain ⟨i, j, rfl, rfl, hmi, hij, hje, HI, HJ, hs⟩ := hrel
  have HS := hid hs
  by_cases hlt : i < j
  ·obtain ⟨h, hh⟩ : ∃ h, h = (i + j) / 2 := ⟨_, rfl⟩
   have hh1 : i ≤ h := by omega
   have hh2 : h < j := by omega
   obtain ⟨z, hz⟩ := z00 (l := cur) (j := h) (by rw [← HLL.out]; omega)
   have HZ := hid hz
   have q1 : ((i : Int) + (j : Int)) / 2 = (h : Int) := by omega
   have L0 := fun Y : Later wr => (hs.later Y.h).get3 hz
   have L1 := fun Y : Later wr => (hs.later Y.h).get3 HGX.out
   have LC := fun Y : Later wr => HC.out Y.w' (hs.later Y.h).grown z x
   have a0 := fun Y => (L0 Y).1.1
   have a1 := fun Y => (L0 Y).1.2.1
   have a2 := fun Y => (L0 Y).1.2.2
   have b0 := fun Y => (L1 Y).1.1
   have b1 := fun Y => (L1 Y).1.2.1
   have b2 := fun Y => (L1 Y).1.2.2
   obtain ⟨r1, r2⟩ := HL.out.range z x
   have HLE := hid (HL.out.eq z x)
   have HH := hid hh
   generalize cf z x = c at *
   have HLC := hid LC
   clear L0 L1 LC hs hz hh
   have q2 : (h : Int) < (l : Int) := by omega
   have q3 : (a : Int) < (l : Int) := by omega
   by_cases hcc : c < 0
   ·go_wp2
    refine z03 (by kernel_rfl) (by kernel_rfl) ?_
    repeat (go_big_quiet_step (first | (go_at_call 139; exact Later.done (HLC.out _))))
    refine wpQuiet_nil ?_
    intro W2 hW2
    clear a0 a1 a2 b0 b1 b2
    have HD2 := hid (HS.out.later hW2)
    clear hW2
    go_wp2
    go_roundw
    case rel =>
     refine ⟨h + 1, j, by go_num, rfl, by omega, by omega, hje, .inr ⟨z, by rw [Nat.add_sub_cancel]; exact HZ.out, ?_⟩, HJ, HD2.out⟩
     rw [HLE.out]; exact decide_eq_false (by omega)
    case measure => simp only [intOf]; omega
   ·have q4 : ¬ c < 0 := hcc
    go_wp2
    refine z03 (by kernel_rfl) (by kernel_rfl) ?_
    repeat (go_big_quiet_step (first | (go_at_call 139; exact Later.done (HLC.out _))))
    refine wpQuiet_nil ?_
    intro W2 hW2
    clear a0 a1 a2 b0 b1 b2
    have HD2 := hid (HS.out.later hW2)
    clear hW2
    go_wp2
    go_roundw
    case rel =>
     refine ⟨i, h, rfl, rfl, hmi, hh1, by omega, HI, .inr ⟨z, HZ.out, ?_⟩, HD2.out⟩
     rw [HLE.out]; exact decide_eq_true (by omega)
    case measure => simp only [intOf]; omega
  ·obtain rfl : i = j := by omega
   obtain ⟨t, ht⟩ : ∃ t, t = i - m := ⟨_, rfl⟩
   have htB : t ≤ B.length := by have := HE.out; omega
   have hcur' : ∀ k, k < B.length → cur[m + k]? = B[k]? := fun k hk => by
    rw [HCUR.out, show P ++ x :: B ++ T = (P ++ [x]) ++ B ++ T by simp]
    exact ziy (by have := HA.out; simp; omega) hk
   have e1 := znt HL.out.total hB (x := x) (t := t) (by
    rcases HI.out with h | ⟨z, h1, h2⟩
    ·exact .inl (by omega)
    ·rcases (show t = 0 ∨ 0 < t by omega) with h0 | h0
     ·exact .inl h0
     ·refine .inr ⟨z, ?_, h2⟩
      rw [← hcur' _ (by omega), ← h1]
      congr 1
      omega)
   have e2 := ziw HL.out.total hB (x := x) (t := t) (by
    rcases HJ.out with h | ⟨z, h1, h2⟩
    ·exact .inl (by have := HE.out; omega)
    ·rcases (show t = B.length ∨ t < B.length by omega) with h0 | h0
     ·exact .inl h0
     ·refine .inr ⟨z, ?_, h2⟩
      rw [← hcur' _ h0, ← h1]
      congr 1
      omega)
   have hmg := zho e1 e2
   rw [List.take_append_drop] at hmg
   have HMG := hid hmg
   have hb1 : (B.take t).length = t := by rw [List.length_take]; omega
   have HB := hid (List.take_append_drop t B)
   generalize B.take t = B1 at *
   generalize B.drop t = B2 at *
   have HB1 := hid hb1
   have HT := hid ht
   have hti : i = a + t + 1 := by omega
   have HTI := hid hti
   have hs0 := HS.out
   rw [HCUR.out, ← HB.out] at hs0
   have HS0 := hid hs0
   have hil : i ≤ l := by omega
   clear hs hcur' e1 e2 hmg hb1 ht hti hs0 htB
   go_wp2
   go_loopw [13] (fun vk wr => ∃ (k : Nat) (C1 C2 : List α), vk = .int .i64 k ∧ k < i ∧ Hid (k = a + C1.length) ∧ Hid (B1 = C1 ++ C2) ∧ SortAt (encT tc) 3 w b o (P ++ C1 ++ x :: C2 ++ B2 ++ T) wr) (fun vk _ => i - (intOf vk).toNat)
   case atStart => exact ⟨a, [], B1, rfl, by omega, rfl, rfl, by simpa using HS0.out⟩
   case round =>
    obtain ⟨k, C1, C2, rfl, hki, HK, HC12, hs⟩ := hrel
    have HS := hid hs
    clear hs
    by_cases hlt : k + 1 < i
    ·cases C2 with
     | nil =>
      exfalso
      have h1 := HC12.out
      have h2 := HB1.out
      have h3 := HK.out
      have h4 := HTI.out
      rw [h1] at h2
      simp at h2
      omega
     | cons y C2 =>
      have hk := HK.out
      have hk' : k = (P ++ C1).length := by rw [hk, HA.out]; simp
      have g0 : (P ++ C1 ++ x :: (y :: C2) ++ B2 ++ T)[k]? = some x := by
       rw [hk', show P ++ C1 ++ x :: (y :: C2) ++ B2 ++ T = (P ++ C1) ++ x :: (y :: C2 ++ B2 ++ T) by simp]
       exact z6q _ _ _
      have g1 : (P ++ C1 ++ x :: (y :: C2) ++ B2 ++ T)[k + 1]? = some y := by
       rw [hk', show (P ++ C1).length + 1 = (P ++ C1 ++ [x]).length by simp; omega, show P ++ C1 ++ x :: (y :: C2) ++ B2 ++ T = (P ++ C1 ++ [x]) ++ y :: (C2 ++ B2 ++ T) by simp]
       exact z6q _ _ _
      obtain ⟨⟨c0, c1, c2⟩, f0, f1, f2⟩ := HS.out.get3 g0
      obtain ⟨⟨d0, d1, d2⟩, k0, k1, k2⟩ := HS.out.get3 g1
      have HD := hid (HS.out.swap3 g0 g1 (d' := P ++ C1 ++ y :: x :: C2 ++ B2 ++ T) (by
       have e := ztq (P ++ C1) [] (C2 ++ B2 ++ T) x y
       rw [hk']
       simp only [List.append_assoc, List.cons_append, List.nil_append, List.length_nil, Nat.add_zero] at e ⊢
       exact e))
      clear g0 g1 hk hk'
      have q1 : (k : Int) + 1 < (l : Int) := by omega
      have q2 : (k : Int) < (l : Int) := by omega
      have q3 : (0 : Int) ≤ (k : Int) + 1 := by omega
      have q5 : ((k : Int) + 1).toNat = k + 1 := by omega
      have q6 : (k : Int) < (i : Int) - 1 := by omega
      go_wp2
      go_big_region
      all_goals go_wp2
      go_roundw
      case rel =>
       refine ⟨k + 1, C1 ++ [y], C2, by go_num, hlt, ?_, ?_, ?_⟩
       ·show _ = _; have := HK.out; simp; omega
       ·show _ = _; rw [HC12.out]; simp
       ·have := HD.out.drew
        simpa using this
      case measure => simp only [intOf]; omega
    ·have hC2 : C2 = [] := by
      have h1 := HC12.out
      have h2 := HB1.out
      have h3 := HK.out
      have h4 := HTI.out
      rw [h1] at h2
      simp at h2
      exact List.length_eq_zero_iff.1 (by omega)
     subst hC2
     have HF : Hid (SortAt (encT tc) 3 w b o (P ++ z0k le [x] B ++ T) wr) := by
      have := HS.out
      rw [HMG.out, HC12.out]
      exact hid (by simpa using this)
     have q6 : ¬ (k : Int) < (i : Int) - 1 := by omega
     go_wp2
     (try simp only [Exit.inBlock, Exit.then]); refine bodyPost_ret (results_none rfl _ _ _) rfl ?_
     exact ⟨rfl, by first | (with_reducible exact HF.out) | (rw [← List.append_assoc]; with_reducible exact HF.out)⟩
theorem zkz {cap l : Nat} {a m e : Nat} (P A T : List α) (x : α) (cur : List α) (W : World) (hc : CmpT 139 tc cf w b) (hcl : CmpLe cf le) (hcur : cur = P ++ A ++ x :: T) (hl : l = cur.length) (ha : a = P.length) (hm : m = a + A.length) (he : e = m + 1) (hA2 : 2 ≤ A.length)
  (h : SortAt (encT tc) 3 w b o cur W) (hA : z13 le A) (_hcap : l ≤ cap) (hcap2 : l ≤ 1000000000000) :
  Calls Tryz.prog 185 #[.slice (some ⟨b, o, none⟩) l cap, .int .i64 a, .int .i64 m, .int .i64 e, .func (.func 139) #[] #[]] W
   fun r w' => r = .returned (.tuple #[]) ∧ SortAt (encT tc) 3 w b o (P ++ z0k le A [x] ++ T) w' := by
 have hnot : ∀ (x : Bool) (w : World), (Op.unary .not (.bool x)).run Tryz.prog w = .ok (.bool (!x)) w := fun _ _ => rfl
 have H := hid h
 have HC := hid hc
 have HL := hid hcl
 have HCUR := hid hcur
 have HLL := hid hl
 have HA := hid ha
 have hml : e ≤ l := by rw [hl, hcur, he, hm, ha]; simp; omega
 have hae : a + 2 ≤ m := by omega
 have HM := hid hm
 have hem : m < e := by omega
 have q0 : ((m : Int) - (a : Int) == 1) = false := by rw [beq_eq_false_iff_ne]; omega
 have q00 : ((e : Int) - (m : Int) == 1) = true := by rw [beq_iff_eq]; omega
 have hmm : (P ++ A).length = m := by rw [hm, ha]; simp
 clear h hc hcl hcur hl ha he hm hA2
 have gx : cur[m]? = some x := by rw [HCUR.out, ← hmm]; exact z6q _ _ _
 have HGX := hid gx
 have HMM := hid hmm
 clear gx hmm
 go_enter Tryz.func185, Tryz.ntmps185
 go_wp2
 go_loopw [14, 15] (fun vi vj wr => ∃ i j : Nat, vi = .int .i64 i ∧ vj = .int .i64 j ∧ a ≤ i ∧ i ≤ j ∧ j ≤ m ∧ Hid (i = a ∨ ∃ z, cur[i - 1]? = some z ∧ le z x = true) ∧ Hid (j = m ∨ ∃ z, cur[j]? = some z ∧ le z x = false) ∧ SortAt (encT tc) 3 w b o cur wr) (fun vi vj _ => (intOf vj).toNat - (intOf vi).toNat)
 case atStart => exact ⟨a, m, rfl, rfl, Nat.le_refl _, by omega, Nat.le_refl _, .inl rfl, .inl rfl, H.out⟩
 case round =>
  obtain ⟨i, j, rfl, rfl, hmi, hij, hje, HI, HJ, hs⟩ := hrel
  have HS := hid hs
  by_cases hlt : i < j
  ·obtain ⟨h, hh⟩ : ∃ h, h = (i + j) / 2 := ⟨_, rfl⟩
   have hh1 : i ≤ h := by omega
   have hh2 : h < j := by omega
   obtain ⟨z, hz⟩ := z00 (l := cur) (j := h) (by rw [← HLL.out]; omega)
   have HZ := hid hz
   have q1 : ((i : Int) + (j : Int)) / 2 = (h : Int) := by omega
   have L0 := fun Y : Later wr => (hs.later Y.h).get3 hz
   have L1 := fun Y : Later wr => (hs.later Y.h).get3 HGX.out
   have LC := fun Y : Later wr => HC.out Y.w' (hs.later Y.h).grown x z
   have a0 := fun Y => (L0 Y).1.1
   have a1 := fun Y => (L0 Y).1.2.1
   have a2 := fun Y => (L0 Y).1.2.2
   have b0 := fun Y => (L1 Y).1.1
   have b1 := fun Y => (L1 Y).1.2.1
   have b2 := fun Y => (L1 Y).1.2.2
   obtain ⟨r1, r2⟩ := HL.out.range x z
   have HLE := hid (HL.out.eq x z)
   have HH := hid hh
   generalize cf x z = c at *
   have HLC := hid LC
   clear L0 L1 LC hs hz hh
   have q2 : (h : Int) < (l : Int) := by omega
   have q3 : (m : Int) < (l : Int) := by omega
   by_cases hcc : c < 0
   ·go_wp2
    refine z03 (by kernel_rfl) (by kernel_rfl) ?_
    repeat (go_big_quiet_step (first | (go_at_call 139; exact Later.done (HLC.out _))))
    refine wpQuiet_nil ?_
    intro W2 hW2
    clear a0 a1 a2 b0 b1 b2
    have HD2 := hid (HS.out.later hW2)
    clear hW2
    go_wp2
    go_roundw
    case rel =>
     refine ⟨i, h, rfl, rfl, hmi, hh1, by omega, HI, .inr ⟨z, HZ.out, ?_⟩, HD2.out⟩
     rw [HLE.out]; exact decide_eq_false (by omega)
    case measure => simp only [intOf]; omega
   ·have q4 : decide (c < 0) = false := decide_eq_false hcc
    have q5 : c + 1 > 0 := by omega
    have HCC := hid hcc
    clear hcc
    go_wp2
    refine z03 (by kernel_rfl) (by kernel_rfl) ?_
    repeat (go_big_quiet_step (first | (go_at_call 139; exact Later.done (HLC.out _))))
    refine wpQuiet_nil ?_
    intro W2 hW2
    clear a0 a1 a2 b0 b1 b2
    have HD2 := hid (HS.out.later hW2)
    clear hW2
    go_wp2
    go_roundw
    case rel =>
     refine ⟨h + 1, j, by go_num, rfl, by omega, by omega, hje, .inr ⟨z, by rw [Nat.add_sub_cancel]; exact HZ.out, ?_⟩, HJ, HD2.out⟩
     rw [HLE.out]; exact decide_eq_true (by have := HCC.out; omega)
    case measure => simp only [intOf]; omega
  ·obtain rfl : i = j := by omega
   obtain ⟨t, ht⟩ : ∃ t, t = i - a := ⟨_, rfl⟩
   have htB : t ≤ A.length := by have := HM.out; omega
   have hcur' : ∀ k, k < A.length → cur[a + k]? = A[k]? := fun k hk => by
    rw [HCUR.out]
    exact ziy HA.out hk
   have e1 := zix HL.out.total hA (x := x) (t := t) (by
    rcases HI.out with h | ⟨z, h1, h2⟩
    ·exact .inl (by omega)
    ·rcases (show t = 0 ∨ 0 < t by omega) with h0 | h0
     ·exact .inl h0
     ·refine .inr ⟨z, ?_, h2⟩
      rw [← hcur' _ (by omega), ← h1]
      congr 1
      omega)
   have e2 := zfw HL.out.total hA (x := x) (t := t) (by
    rcases HJ.out with h | ⟨z, h1, h2⟩
    ·exact .inl (by have := HM.out; omega)
    ·rcases (show t = A.length ∨ t < A.length by omega) with h0 | h0
     ·exact .inl h0
     ·refine .inr ⟨z, ?_, h2⟩
      rw [← hcur' _ h0, ← h1]
      congr 1
      omega)
   have hmg := z9i e1 e2
   rw [List.take_append_drop] at hmg
   have HMG := hid hmg
   have hb1 : (A.take t).length = t := by rw [List.length_take]; omega
   have HB := hid (List.take_append_drop t A)
   generalize A.take t = A1 at *
   generalize A.drop t = A2 at *
   have HB1 := hid hb1
   have HT := hid ht
   have hti : i = a + t := by omega
   have HTI := hid hti
   have hs0 := HS.out
   rw [HCUR.out, ← HB.out] at hs0
   have HS0 := hid hs0
   have hil : i ≤ l := by omega
   clear hs hcur' e1 e2 hmg hb1 ht hti hs0 htB
   go_wp2
   go_loopw [17] (fun vk wr => ∃ (k : Nat) (C1 C2 : List α), vk = .int .i64 k ∧ i ≤ k ∧ k ≤ m ∧ Hid (k = i + C1.length) ∧ Hid (A2 = C1 ++ C2) ∧ SortAt (encT tc) 3 w b o (P ++ A1 ++ C1 ++ x :: C2 ++ T) wr) (fun vk _ => (intOf vk).toNat - i)
   case atStart => exact ⟨m, A2, [], rfl, by omega, Nat.le_refl _, by have h1 := HM.out; have h2 := HTI.out; have h3 := HB1.out; have h4 := congrArg List.length HB.out; simp at h4; show _ = _; omega, by show _ = _; simp, by simpa using HS0.out⟩
   case round =>
    obtain ⟨k, C1, C2, rfl, hki, hkm, HK, HC12, hs⟩ := hrel
    have HS := hid hs
    clear hs
    by_cases hlt : i < k
    ·rcases (show C1 = [] ∨ ∃ L z, C1 = L ++ [z] by simpa using List.eq_nil_or_concat C1) with rfl | ⟨C1, y, rfl⟩
     ·exfalso
      have h3 := HK.out
      simp at h3
      omega
     ·have hk := HK.out
      obtain ⟨kp, rfl⟩ : ∃ kp, k = kp + 1 := ⟨k - 1, by omega⟩
      have hk' : kp = (P ++ A1 ++ C1).length := by have h1 := HTI.out; have h2 := HA.out; have h3 := HB1.out; simp at hk ⊢; omega
      have g1 : (P ++ A1 ++ (C1 ++ [y]) ++ x :: C2 ++ T)[kp]? = some y := by
       rw [hk', show P ++ A1 ++ (C1 ++ [y]) ++ x :: C2 ++ T = (P ++ A1 ++ C1) ++ y :: (x :: C2 ++ T) by simp]
       exact z6q _ _ _
      have g0 : (P ++ A1 ++ (C1 ++ [y]) ++ x :: C2 ++ T)[kp + 1]? = some x := by
       rw [hk', show (P ++ A1 ++ C1).length + 1 = (P ++ A1 ++ C1 ++ [y]).length by simp; omega, show P ++ A1 ++ (C1 ++ [y]) ++ x :: C2 ++ T = (P ++ A1 ++ C1 ++ [y]) ++ x :: (C2 ++ T) by simp]
       exact z6q _ _ _
      obtain ⟨⟨c0, c1, c2⟩, f0, f1, f2⟩ := HS.out.get3 g0
      obtain ⟨⟨d0, d1, d2⟩, k0, k1, k2⟩ := HS.out.get3 g1
      have HD := hid (HS.out.swap3 g0 g1 (d' := P ++ A1 ++ C1 ++ x :: y :: C2 ++ T) (by
       have e := ziv (P ++ A1 ++ C1) [] (C2 ++ T) y x
       rw [hk']
       simp only [List.append_assoc, List.cons_append, List.nil_append, List.length_nil, Nat.add_zero] at e ⊢
       exact e))
      clear g0 g1 hk hk'
      have q1 : (kp : Int) + 1 < (l : Int) := by omega
      have q2 : (kp : Int) < (l : Int) := by omega
      have q3 : (0 : Int) ≤ (kp : Int) + 1 := by omega
      have q5 : ((kp : Int) + 1).toNat = kp + 1 := by omega
      have q7 : (i : Int) < (kp : Int) + 1 := by omega
      go_wp2
      go_big_region
      all_goals go_wp2
      go_roundw
      case rel =>
       refine ⟨kp, C1, y :: C2, rfl, by omega, by omega, ?_, ?_, ?_⟩
       ·show _ = _; have := HK.out; simp at this; omega
       ·show _ = _; rw [HC12.out]; simp
       ·have := HD.out.drew
        simpa using this
      case measure => simp only [intOf]; omega
    ·have hC1 : C1 = [] := by
      have h3 := HK.out
      exact List.length_eq_zero_iff.1 (by omega)
     subst hC1
     have HF : Hid (SortAt (encT tc) 3 w b o (P ++ z0k le A [x] ++ T) wr) := by
      have := HS.out
      rw [HMG.out, HC12.out]
      exact hid (by simpa using this)
     go_wp2
     (try simp only [Exit.inBlock, Exit.then]); refine bodyPost_ret (results_none rfl _ _ _) rfl ?_
     exact ⟨rfl, by first | (with_reducible exact HF.out) | (rw [← List.append_assoc]; with_reducible exact HF.out)⟩
end
end
section
open Go.RowKit Go.Sort
def z5d (a m e d lo hi : Nat) : Prop := (d < m ∧ lo + e = d + m ∧ hi = d) ∨ (m ≤ d ∧ lo = a ∧ hi = m)
section
variable {α : Type} {le : α → α → Bool}
theorem zfx (hl : TotalLe le) {P A B T cur : List α} (hA : z13 le A) (hB : z13 le B) (hcur : cur = P ++ A ++ B ++ T) {a m e d s f lo hi : Nat} (ha : a = P.length) (hm : m = a + A.length) (he : e = m + B.length) (hd : d = (a + e) / 2)
  (hg : z5d a m e d lo hi) (hls : lo ≤ s) (hsh : s ≤ hi) (hf : f + s = d + m)
  (h1 : s = lo ∨ ∃ x z, cur[s - 1]? = some x ∧ cur[f]? = some z ∧ le x z = true) (h2 : s = hi ∨ ∃ x z, cur[s]? = some x ∧ cur[f - 1]? = some z ∧ le x z = false) :
  ∃ A1 A2 B1 B2, A = A1 ++ A2 ∧ B = B1 ++ B2 ∧ s = a + A1.length ∧ f = m + B1.length ∧ z0k le A B = z0k le A1 B1 ++ z0k le A2 B2 := by
 have hsb : a ≤ s ∧ s ≤ m ∧ m ≤ f ∧ f ≤ e := by unfold z5d at hg; omega
 have atA : ∀ k, k < A.length → cur[a + k]? = A[k]? := fun k hk => by
  rw [hcur, List.append_assoc]
  exact ziy ha hk
 have atB : ∀ k, k < B.length → cur[m + k]? = B[k]? := fun k hk => by
  rw [hcur]
  exact ziy (by simp; omega) hk
 have hA1 : (A.take (s - a)).length = s - a := by rw [List.length_take]; omega
 have hB1 : (B.take (f - m)).length = f - m := by rw [List.length_take]; omega
 refine ⟨A.take (s - a), A.drop (s - a), B.take (f - m), B.drop (f - m), (List.take_append_drop _ _).symm, (List.take_append_drop _ _).symm, by omega, by omega, ?_⟩
 conv => lhs; rw [← List.take_append_drop (s - a) A, ← List.take_append_drop (f - m) B]
 refine z3y _ _ _ _ ?_ ?_
 ·intro x hx y hy
  obtain ⟨k, hk, hkx⟩ := z62 hx
  obtain ⟨k', hk', hky⟩ := z63 hy
  have hkB := z04 hky
  rcases h1 with h1 | ⟨x0, z0, g1, g2, g3⟩
  ·unfold z5d at hg; omega
  ·have e1 : A[s - a - 1]? = some x0 := by rw [← atA _ (by omega), ← g1]; congr 1; omega
   have e2 : B[f - m]? = some z0 := by rw [← atB _ (by omega), ← g2]; congr 1; omega
   have := zix hl hA (x := z0) (t := s - a) (.inr ⟨x0, e1, g3⟩) x hx
   exact ziw hl hB (x := x) (t := f - m) (.inr ⟨z0, e2, this⟩) y hy
 ·intro y hy x hx
  obtain ⟨k, hk, hky⟩ := z62 hy
  obtain ⟨k', hk', hkx⟩ := z63 hx
  have hkA := z04 hkx
  rcases h2 with h2 | ⟨x0, z0, g1, g2, g3⟩
  ·unfold z5d at hg; omega
  ·have e1 : A[s - a]? = some x0 := by rw [← atA _ (by omega), ← g1]; congr 1; omega
   have e2 : B[f - m - 1]? = some z0 := by rw [← atB _ (by omega), ← g2]; congr 1; omega
   have := znt hl hB (x := x0) (t := f - m) (.inr ⟨z0, e2, g3⟩) y hy
   exact zfw hl hA (x := y) (t := s - a) (.inr ⟨x0, e1, this⟩) x hx
end
section
variable {α : Type} [Inhabited α] {tc : α → TCell} {w : World} {b o : Nat} {cf : α → α → Int} {le : α → α → Bool}
theorem zl0 {cap l : Nat} {a m e : Nat} (P A B T : List α) (cur : List α) (W : World) (hc : CmpT 139 tc cf w b) (hcl : CmpLe cf le) (hcur : cur = P ++ A ++ B ++ T) (hl : l = cur.length) (ha : a = P.length) (hm : m = a + A.length) (he : e = m + B.length) (hA2 : 2 ≤ A.length) (hB2 : 2 ≤ B.length)
  (ih : ∀ (P A' B' T cur : List α) (W : World) (l a m e : Nat), A'.length + B'.length < A.length + B.length → 0 < A'.length → 0 < B'.length → z13 le A' → z13 le B' → cur = P ++ A' ++ B' ++ T → l = cur.length → a = P.length → m = a + A'.length → e = m + B'.length → SortAt (encT tc) 3 w b o cur W → l ≤ cap → l ≤ 1000000000000 →
   Calls Tryz.prog 185 #[.slice (some ⟨b, o, none⟩) l cap, .int .i64 a, .int .i64 m, .int .i64 e, .func (.func 139) #[] #[]] W
    fun r w' => r = .returned (.tuple #[]) ∧ SortAt (encT tc) 3 w b o (P ++ z0k le A' B' ++ T) w')
  (h : SortAt (encT tc) 3 w b o cur W) (hA : z13 le A) (hB : z13 le B) (hcap : l ≤ cap) (hcap2 : l ≤ 1000000000000) :
  Calls Tryz.prog 185 #[.slice (some ⟨b, o, none⟩) l cap, .int .i64 a, .int .i64 m, .int .i64 e, .func (.func 139) #[] #[]] W
   fun r w' => r = .returned (.tuple #[]) ∧ SortAt (encT tc) 3 w b o (P ++ z0k le A B ++ T) w' := by
 have hnot : ∀ (x : Bool) (w : World), (Op.unary .not (.bool x)).run Tryz.prog w = .ok (.bool (!x)) w := fun _ _ => rfl
 have H := hid h
 have HC := hid hc
 have HL := hid hcl
 have HIH := hid ih
 have HCUR := hid hcur
 have HLL := hid hl
 have HA := hid ha
 have hml : e ≤ l := by rw [hl, hcur, he, hm, ha]; simp; omega
 have hae : a + 2 ≤ m := by omega
 have HM := hid hm
 have HE := hid he
 have hem : m + 2 ≤ e := by omega
 have q0 : ((m : Int) - (a : Int) == 1) = false := by rw [beq_eq_false_iff_ne]; omega
 have q00 : ((e : Int) - (m : Int) == 1) = false := by rw [beq_eq_false_iff_ne]; omega
 obtain ⟨d, hd⟩ : ∃ d, d = (a + e) / 2 := ⟨_, rfl⟩
 have q1 : ((a : Int) + (e : Int)) / 2 = (d : Int) := by omega
 have HD := hid hd
 have had : a < d := by omega
 have hde : d < e := by omega
 have hd2 : 2 * d ≤ a + e ∧ a + e ≤ 2 * d + 1 := by omega
 obtain ⟨hd21, hd22⟩ := hd2
 clear h hc hcl hcur hl ha he hm hA2 hB2 ih hd
 have hcase : (d < m ∧ ∃ lo : Nat, lo + e = d + m) ∨ m ≤ d := by
  rcases (show d < m ∨ m ≤ d by omega) with h | h
  ·exact .inl ⟨h, d + m - e, by omega⟩
  ·exact .inr h
 rcases hcase with ⟨hdm, lo0, hlo⟩ | hdm
 ·have q2 : (d : Int) + (m : Int) - (e : Int) = (lo0 : Int) := by omega
  have HG : Hid (z5d a m e d lo0 d) := .inl ⟨hdm, hlo, rfl⟩
  have q3 : (m : Int) > (d : Int) := by omega
  have hlh : lo0 ≤ d := by omega
  go_enter Tryz.func185, Tryz.ntmps185
  go_wp2
  go_loopw [20, 21] (fun vi vj wr => ∃ i j lo hi : Nat, vi = .int .i64 i ∧ vj = .int .i64 j ∧ Hid (z5d a m e d lo hi) ∧ lo ≤ i ∧ i ≤ j ∧ j ≤ hi ∧ Hid (i = lo ∨ ∃ x z, cur[i - 1]? = some x ∧ cur[d + m - i]? = some z ∧ le x z = true) ∧ Hid (j = hi ∨ ∃ x z, cur[j]? = some x ∧ cur[d + m - j - 1]? = some z ∧ le x z = false) ∧ SortAt (encT tc) 3 w b o cur wr) (fun vi vj _ => (intOf vj).toNat - (intOf vi).toNat)
  case atStart => exact ⟨lo0, d, lo0, d, rfl, rfl, HG, Nat.le_refl _, hlh, Nat.le_refl _, .inl rfl, .inl rfl, H.out⟩
  case round =>
   clear HG q2 q3 hlh hlo hdm
   obtain ⟨i, j, lo, hi, rfl, rfl, HG, hli, hij, hjh, HI, HJ, hs⟩ := hrel
   have HS := hid hs
   have hb : a ≤ lo ∧ hi ≤ m ∧ hi ≤ d ∧ d + m ≤ lo + e := by have := HG.out; unfold z5d at this; omega
   obtain ⟨hb1, hb2, hb3, hb4⟩ := hb
   by_cases hlt : i < j
   ·obtain ⟨h, hh⟩ : ∃ h, h = (i + j) / 2 := ⟨_, rfl⟩
    have hh1 : i ≤ h := by omega
    have hh2 : h < j := by omega
    obtain ⟨g, hg⟩ : ∃ g, g = d + m - h - 1 := ⟨_, rfl⟩
    have hge : g < e := by omega
    obtain ⟨x, hx⟩ := z00 (l := cur) (j := h) (by rw [← HLL.out]; omega)
    obtain ⟨z, hz⟩ := z00 (l := cur) (j := g) (by rw [← HLL.out]; omega)
    have HX := hid hx
    have HZ := hid hz
    have p1 : ((i : Int) + (j : Int)) / 2 = (h : Int) := by omega
    have p2 : (d : Int) + (m : Int) - 1 - (h : Int) = (g : Int) := by omega
    have p3 : (g : Int) < (l : Int) := by omega
    have p4 : (h : Int) < (l : Int) := by omega
    have L0 := fun Y : Later wr => (hs.later Y.h).get3 hz
    have L1 := fun Y : Later wr => (hs.later Y.h).get3 hx
    have LC := fun Y : Later wr => HC.out Y.w' (hs.later Y.h).grown z x
    have a0 := fun Y => (L0 Y).1.1
    have a1 := fun Y => (L0 Y).1.2.1
    have a2 := fun Y => (L0 Y).1.2.2
    have b0 := fun Y => (L1 Y).1.1
    have b1 := fun Y => (L1 Y).1.2.1
    have b2 := fun Y => (L1 Y).1.2.2
    obtain ⟨r1, r2⟩ := HL.out.range z x
    have HLE := hid (HL.out.eq z x)
    have HH := hid hh
    have HGG := hid hg
    generalize cf z x = c at *
    have HLC := hid LC
    clear L0 L1 LC hs hz hx hh hg
    by_cases hcc : c < 0
    ·go_wp2
     refine z03 (by kernel_rfl) (by kernel_rfl) ?_
     repeat (go_big_quiet_step (first | (go_at_call 139; exact Later.done (HLC.out _))))
     refine wpQuiet_nil ?_
     intro W2 hW2
     clear a0 a1 a2 b0 b1 b2
     have HD2 := hid (HS.out.later hW2)
     clear hW2
     go_wp2
     go_roundw
     case rel =>
      refine ⟨i, h, lo, hi, rfl, rfl, HG, hli, hh1, by omega, HI, .inr ⟨x, z, HX.out, by rw [← HGG.out]; exact HZ.out, ?_⟩, HD2.out⟩
      rw [HLE.out]; exact decide_eq_false (by omega)
     case measure => simp only [intOf]; omega
    ·have q4 : decide (c < 0) = false := decide_eq_false hcc
     have q5 : c + 1 > 0 := by omega
     have HCC := hid hcc
     clear hcc
     go_wp2
     refine z03 (by kernel_rfl) (by kernel_rfl) ?_
     repeat (go_big_quiet_step (first | (go_at_call 139; exact Later.done (HLC.out _))))
     refine wpQuiet_nil ?_
     intro W2 hW2
     clear a0 a1 a2 b0 b1 b2
     have HD2 := hid (HS.out.later hW2)
     clear hW2
     go_wp2
     go_roundw
     case rel =>
      refine ⟨h + 1, j, lo, hi, by go_num, rfl, HG, by omega, by omega, hjh, .inr ⟨x, z, by rw [Nat.add_sub_cancel]; exact HX.out, by rw [show d + m - (h + 1) = g by have := HGG.out; omega]; exact HZ.out, ?_⟩, HJ, HD2.out⟩
      rw [HLE.out]; exact decide_eq_true (by have := HCC.out; omega)
     case measure => simp only [intOf]; omega
   ·obtain rfl : i = j := by omega
    obtain ⟨f, hf⟩ : ∃ f, f + i = d + m := ⟨d + m - i, by omega⟩
    obtain ⟨A1, A2, B1, B2, hA12, hB12, hsA, hfB, hmg⟩ := zfx (f := f) HL.out.total hA hB HCUR.out HA.out HM.out HE.out HD.out HG.out hli hjh hf (by
     have := HI.out
     rwa [show d + m - i = f by omega] at this) (by
     have := HJ.out
     rwa [show d + m - i - 1 = f - 1 by omega] at this)
    have p1 : (d : Int) + (m : Int) - (i : Int) = (f : Int) := by omega
    have lA := HM.out
    have lB := HE.out
    rw [hA12] at lA
    rw [hB12] at lB
    simp only [List.length_append] at lA lB
    have lP := HA.out
    have HMG := hid hmg
    have HK0 : Hid (SortAt (encT tc) 3 w b o (P ++ A1 ++ A2 ++ B1 ++ B2 ++ T) wr) := hid (by
     have := HS.out
     rw [HCUR.out, hA12, hB12] at this
     simpa using this)
    have HLN : Hid (l = P.length + A1.length + A2.length + B1.length + B2.length + T.length) := hid (by rw [HLL.out, HCUR.out, hA12, hB12]; simp; omega)
    have HSZ : Hid (A.length = A1.length + A2.length ∧ B.length = B1.length + B2.length) := hid (by rw [hA12, hB12]; simp)
    have HSA : Hid (z13 le A1 ∧ z13 le A2 ∧ z13 le B1 ∧ z13 le B2) := hid (by
     rw [hA12] at hA
     rw [hB12] at hB
     have h1 := List.pairwise_append.1 hA
     have h2 := List.pairwise_append.1 hB
     exact ⟨h1.1, h1.2.1, h2.1, h2.2.1⟩)
    have LP := hid lP
    have LA := hid (And.intro lA lB)
    have LS := hid (And.intro hsA (And.intro hfB hf))
    have hmle : m ≤ l := by omega
    have hfle : f ≤ l := by omega
    clear hs hA12 hB12 hmg hli hij hjh hb1 hb2 hb3 hb4 hlt lA lB lP hsA hfB hf
    rcases (show (0 < A1.length ∧ 0 < A2.length ∧ 0 < B1.length ∧ 0 < B2.length) ∨ (0 < A1.length ∧ 0 < A2.length ∧ 0 < B1.length ∧ B2.length = 0) ∨ (0 < A1.length ∧ A2.length = 0 ∧ 0 < B1.length ∧ 0 < B2.length) ∨ (0 < A1.length ∧ 0 < A2.length ∧ B1.length = 0 ∧ 0 < B2.length) ∨ (0 < A1.length ∧ 0 < A2.length ∧ B1.length = 0 ∧ B2.length = 0) ∨ (0 < A1.length ∧ A2.length = 0 ∧ B1.length = 0 ∧ 0 < B2.length) ∨ (A1.length = 0 ∧ 0 < A2.length ∧ 0 < B1.length ∧ 0 < B2.length) ∨ (A1.length = 0 ∧ 0 < A2.length ∧ 0 < B1.length ∧ B2.length = 0) ∨ (A1.length = 0 ∧ A2.length = 0 ∧ 0 < B1.length ∧ 0 < B2.length) by have := LA.out; have := LS.out; omega) with ⟨n1, n2, n3, n4⟩ | ⟨n1, n2, n3, n4⟩ | ⟨n1, n2, n3, n4⟩ | ⟨n1, n2, n3, n4⟩ | ⟨n1, n2, n3, n4⟩ | ⟨n1, n2, n3, n4⟩ | ⟨n1, n2, n3, n4⟩ | ⟨n1, n2, n3, n4⟩ | ⟨n1, n2, n3, n4⟩
    ·have f1 : (i : Int) < (m : Int) := by have := LA.out; have := LS.out; omega
     have f2 : (m : Int) < (f : Int) := by have := LA.out; have := LS.out; omega
     have f3 : (a : Int) < (i : Int) := by have := LA.out; have := LS.out; omega
     have f4 : (i : Int) < (d : Int) := by have := LA.out; have := LS.out; omega
     have f5 : (d : Int) < (f : Int) := by have := LA.out; have := LS.out; omega
     have f6 : (f : Int) < (e : Int) := by have := LA.out; have := LS.out; omega
     have HN1 := hid (And.intro n2 n3)
     have HNN := hid (And.intro n1 (And.intro n2 (And.intro n3 n4)))
     clear n1 n2 n3 n4
     have C1 := hid (z58 (tc := tc) (cap := cap) (l := l) (za := (i : Int)) (zm := (m : Int)) (zb := (f : Int)) (cv := .func (.func 139) #[] #[]) (P ++ A1) A2 B1 (B2 ++ T) wr (by simp) (by rw [HLN.out]; simp; omega) (by have := LS.out; have := LP.out; simp; omega) (by have := LS.out; have := LP.out; have := LA.out; simp; omega) (by have := LS.out; have := LP.out; have := LA.out; simp; omega) HK0.out (by intro hn; have := HNN.out; rw [hn] at this; simp at this) (by intro hn; have := HNN.out; rw [hn] at this; simp at this) hcap hcap2)
     go_wp2_with fail
     with_reducible refine C1.out.mono ?_
     rintro r w1 ⟨rfl, hk1⟩
     have HK1 : Hid (SortAt (encT tc) 3 w b o (P ++ A1 ++ B1 ++ A2 ++ B2 ++ T) w1) := hid (by simpa using hk1)
     clear hk1
     have C2 := hid (HIH.out P A1 B1 (A2 ++ B2 ++ T) _ w1 l a i d (by have := HNN.out; have := HSZ.out; omega) HNN.out.1 HNN.out.2.2.1 HSA.out.1 HSA.out.2.2.1 (by simp) (by rw [HLN.out]; simp; omega) LP.out LS.out.1 (by have := LS.out; have := LA.out; omega) HK1.out hcap hcap2)
     go_wp2_with fail
     with_reducible refine C2.out.mono ?_
     rintro r w2 ⟨rfl, hk2⟩
     have HK2 : Hid (SortAt (encT tc) 3 w b o (P ++ z0k le A1 B1 ++ A2 ++ B2 ++ T) w2) := hid (by simpa using hk2)
     clear hk2
     have C3 := hid (HIH.out (P ++ z0k le A1 B1) A2 B2 T _ w2 l d f e (by have := HNN.out; have := HSZ.out; omega) HNN.out.2.1 HNN.out.2.2.2 HSA.out.2.1 HSA.out.2.2.2 (by simp) (by rw [HLN.out]; simp; omega) (by have := LS.out; have := LA.out; have := LP.out; simp; omega) (by have := LS.out; have := LA.out; omega) (by have := LS.out; have := LA.out; omega) HK2.out hcap hcap2)
     go_wp2_with fail
     with_reducible refine C3.out.mono ?_
     rintro r w3 ⟨rfl, hk3⟩
     have HK3 : Hid (SortAt (encT tc) 3 w b o (P ++ z0k le A B ++ T) w3) := hid (by rw [HMG.out]; simpa using hk3)
     clear hk3
     go_wp2
     all_goals
      go_end0
      exact ⟨rfl, by first | (with_reducible exact HK3.out) | (rw [← List.append_assoc]; with_reducible exact HK3.out)⟩
    ·have f1 : (i : Int) < (m : Int) := by have := LA.out; have := LS.out; omega
     have f2 : (m : Int) < (f : Int) := by have := LA.out; have := LS.out; omega
     have f3 : (a : Int) < (i : Int) := by have := LA.out; have := LS.out; omega
     have f4 : (i : Int) < (d : Int) := by have := LA.out; have := LS.out; omega
     have f5 : (d : Int) < (f : Int) := by have := LA.out; have := LS.out; omega
     have f6 : (e : Int) ≤ (f : Int) := by have := LA.out; have := LS.out; omega
     have hzB2 : B2 = [] := List.length_eq_zero_iff.1 (by omega)
     have HZ := hid (And.intro (rfl : 0 = 0) hzB2)
     clear hzB2
     have HN1 := hid (And.intro n2 n3)
     have HNN := hid (And.intro n1 (And.intro n2 (And.intro n3 n4)))
     clear n1 n2 n3 n4
     have C1 := hid (z58 (tc := tc) (cap := cap) (l := l) (za := (i : Int)) (zm := (m : Int)) (zb := (f : Int)) (cv := .func (.func 139) #[] #[]) (P ++ A1) A2 B1 (B2 ++ T) wr (by simp) (by rw [HLN.out]; simp; omega) (by have := LS.out; have := LP.out; simp; omega) (by have := LS.out; have := LP.out; have := LA.out; simp; omega) (by have := LS.out; have := LP.out; have := LA.out; simp; omega) HK0.out (by intro hn; have := HNN.out; rw [hn] at this; simp at this) (by intro hn; have := HNN.out; rw [hn] at this; simp at this) hcap hcap2)
     go_wp2_with fail
     with_reducible refine C1.out.mono ?_
     rintro r w1 ⟨rfl, hk1⟩
     have HK1 : Hid (SortAt (encT tc) 3 w b o (P ++ A1 ++ B1 ++ A2 ++ B2 ++ T) w1) := hid (by simpa using hk1)
     clear hk1
     have C2 := hid (HIH.out P A1 B1 (A2 ++ B2 ++ T) _ w1 l a i d (by have := HNN.out; have := HSZ.out; omega) HNN.out.1 HNN.out.2.2.1 HSA.out.1 HSA.out.2.2.1 (by simp) (by rw [HLN.out]; simp; omega) LP.out LS.out.1 (by have := LS.out; have := LA.out; omega) HK1.out hcap hcap2)
     go_wp2_with fail
     with_reducible refine C2.out.mono ?_
     rintro r w2 ⟨rfl, hk2⟩
     have HK2 : Hid (SortAt (encT tc) 3 w b o (P ++ z0k le A1 B1 ++ A2 ++ B2 ++ T) w2) := hid (by simpa using hk2)
     clear hk2
     have HK3 : Hid (SortAt (encT tc) 3 w b o (P ++ z0k le A B ++ T) w2) := hid (by
      have := HK2.out
      rw [HMG.out]
      obtain ⟨-, hzB2⟩ := HZ.out
      subst hzB2
      simpa [z0l, z0c] using this)
     go_wp2
     all_goals
      go_end0
      exact ⟨rfl, by first | (with_reducible exact HK3.out) | (rw [← List.append_assoc]; with_reducible exact HK3.out)⟩
    ·have f1 : (m : Int) ≤ (i : Int) := by have := LA.out; have := LS.out; omega
     have f2 : (m : Int) < (f : Int) := by have := LA.out; have := LS.out; omega
     have f3 : (a : Int) < (i : Int) := by have := LA.out; have := LS.out; omega
     have f4 : (i : Int) < (d : Int) := by have := LA.out; have := LS.out; omega
     have f5 : (f : Int) ≤ (d : Int) := by have := LA.out; have := LS.out; omega
     have f6 : (f : Int) < (e : Int) := by have := LA.out; have := LS.out; omega
     have hzA2 : A2 = [] := List.length_eq_zero_iff.1 (by omega)
     have HZ := hid (And.intro (rfl : 0 = 0) hzA2)
     clear hzA2
     have HNN := hid (And.intro n1 (And.intro n2 (And.intro n3 n4)))
     clear n1 n2 n3 n4
     have HK1 : Hid (SortAt (encT tc) 3 w b o (P ++ A1 ++ B1 ++ A2 ++ B2 ++ T) wr) := hid (by
      have := HK0.out
      obtain ⟨-, hzA2⟩ := HZ.out
      subst hzA2
      simpa using this)
     have C2 := hid (HIH.out P A1 B1 (A2 ++ B2 ++ T) _ wr l a i d (by have := HNN.out; have := HSZ.out; omega) HNN.out.1 HNN.out.2.2.1 HSA.out.1 HSA.out.2.2.1 (by simp) (by rw [HLN.out]; simp; omega) LP.out LS.out.1 (by have := LS.out; have := LA.out; omega) HK1.out hcap hcap2)
     go_wp2_with fail
     with_reducible refine C2.out.mono ?_
     rintro r w2 ⟨rfl, hk2⟩
     have HK2 : Hid (SortAt (encT tc) 3 w b o (P ++ z0k le A1 B1 ++ A2 ++ B2 ++ T) w2) := hid (by simpa using hk2)
     clear hk2
     have HK3 : Hid (SortAt (encT tc) 3 w b o (P ++ z0k le A B ++ T) w2) := hid (by
      have := HK2.out
      rw [HMG.out]
      obtain ⟨-, hzA2⟩ := HZ.out
      subst hzA2
      simpa [z0l, z0c] using this)
     go_wp2
     all_goals
      go_end0
      exact ⟨rfl, by first | (with_reducible exact HK3.out) | (rw [← List.append_assoc]; with_reducible exact HK3.out)⟩
    ·have f1 : (i : Int) < (m : Int) := by have := LA.out; have := LS.out; omega
     have f2 : (f : Int) ≤ (m : Int) := by have := LA.out; have := LS.out; omega
     have f3 : (a : Int) < (i : Int) := by have := LA.out; have := LS.out; omega
     have f4 : (d : Int) ≤ (i : Int) := by have := LA.out; have := LS.out; omega
     have f5 : (d : Int) < (f : Int) := by have := LA.out; have := LS.out; omega
     have f6 : (f : Int) < (e : Int) := by have := LA.out; have := LS.out; omega
     have hzB1 : B1 = [] := List.length_eq_zero_iff.1 (by omega)
     have HZ := hid (And.intro (rfl : 0 = 0) hzB1)
     clear hzB1
     have HNN := hid (And.intro n1 (And.intro n2 (And.intro n3 n4)))
     clear n1 n2 n3 n4
     have HK1 : Hid (SortAt (encT tc) 3 w b o (P ++ A1 ++ B1 ++ A2 ++ B2 ++ T) wr) := hid (by
      have := HK0.out
      obtain ⟨-, hzB1⟩ := HZ.out
      subst hzB1
      simpa using this)
     have HK2 : Hid (SortAt (encT tc) 3 w b o (P ++ z0k le A1 B1 ++ A2 ++ B2 ++ T) wr) := hid (by
      have := HK1.out
      obtain ⟨-, hzB1⟩ := HZ.out
      subst hzB1
      simpa [z0l, z0c] using this)
     have C3 := hid (HIH.out (P ++ z0k le A1 B1) A2 B2 T _ wr l d f e (by have := HNN.out; have := HSZ.out; omega) HNN.out.2.1 HNN.out.2.2.2 HSA.out.2.1 HSA.out.2.2.2 (by simp) (by rw [HLN.out]; simp; omega) (by have := LS.out; have := LA.out; have := LP.out; simp; omega) (by have := LS.out; have := LA.out; omega) (by have := LS.out; have := LA.out; omega) HK2.out hcap hcap2)
     go_wp2_with fail
     with_reducible refine C3.out.mono ?_
     rintro r w3 ⟨rfl, hk3⟩
     have HK3 : Hid (SortAt (encT tc) 3 w b o (P ++ z0k le A B ++ T) w3) := hid (by rw [HMG.out]; simpa using hk3)
     clear hk3
     go_wp2
     all_goals
      go_end0
      exact ⟨rfl, by first | (with_reducible exact HK3.out) | (rw [← List.append_assoc]; with_reducible exact HK3.out)⟩
    ·have f1 : (i : Int) < (m : Int) := by have := LA.out; have := LS.out; omega
     have f2 : (f : Int) ≤ (m : Int) := by have := LA.out; have := LS.out; omega
     have f3 : (a : Int) < (i : Int) := by have := LA.out; have := LS.out; omega
     have f4 : (d : Int) ≤ (i : Int) := by have := LA.out; have := LS.out; omega
     have f5 : (d : Int) < (f : Int) := by have := LA.out; have := LS.out; omega
     have f6 : (e : Int) ≤ (f : Int) := by have := LA.out; have := LS.out; omega
     have hzB1 : B1 = [] := List.length_eq_zero_iff.1 (by omega)
     have hzB2 : B2 = [] := List.length_eq_zero_iff.1 (by omega)
     have HZ := hid (And.intro (rfl : 0 = 0) (And.intro hzB1 hzB2))
     clear hzB1
     clear hzB2
     have HNN := hid (And.intro n1 (And.intro n2 (And.intro n3 n4)))
     clear n1 n2 n3 n4
     have HK1 : Hid (SortAt (encT tc) 3 w b o (P ++ A1 ++ B1 ++ A2 ++ B2 ++ T) wr) := hid (by
      have := HK0.out
      obtain ⟨-, hzB1, hzB2⟩ := HZ.out
      subst hzB1 hzB2
      simpa using this)
     have HK2 : Hid (SortAt (encT tc) 3 w b o (P ++ z0k le A1 B1 ++ A2 ++ B2 ++ T) wr) := hid (by
      have := HK1.out
      obtain ⟨-, hzB1, hzB2⟩ := HZ.out
      subst hzB1 hzB2
      simpa [z0l, z0c] using this)
     have HK3 : Hid (SortAt (encT tc) 3 w b o (P ++ z0k le A B ++ T) wr) := hid (by
      have := HK2.out
      rw [HMG.out]
      obtain ⟨-, hzB1, hzB2⟩ := HZ.out
      subst hzB1 hzB2
      simpa [z0l, z0c] using this)
     go_wp2
     all_goals
      go_end0
      exact ⟨rfl, by first | (with_reducible exact HK3.out) | (rw [← List.append_assoc]; with_reducible exact HK3.out)⟩
    ·have f1 : (m : Int) ≤ (i : Int) := by have := LA.out; have := LS.out; omega
     have f2 : (f : Int) ≤ (m : Int) := by have := LA.out; have := LS.out; omega
     have f3 : (a : Int) < (i : Int) := by have := LA.out; have := LS.out; omega
     have f4 : (d : Int) ≤ (i : Int) := by have := LA.out; have := LS.out; omega
     have f5 : (f : Int) ≤ (d : Int) := by have := LA.out; have := LS.out; omega
     have f6 : (f : Int) < (e : Int) := by have := LA.out; have := LS.out; omega
     have hzA2 : A2 = [] := List.length_eq_zero_iff.1 (by omega)
     have hzB1 : B1 = [] := List.length_eq_zero_iff.1 (by omega)
     have HZ := hid (And.intro (rfl : 0 = 0) (And.intro hzA2 hzB1))
     clear hzA2
     clear hzB1
     have HNN := hid (And.intro n1 (And.intro n2 (And.intro n3 n4)))
     clear n1 n2 n3 n4
     have HK1 : Hid (SortAt (encT tc) 3 w b o (P ++ A1 ++ B1 ++ A2 ++ B2 ++ T) wr) := hid (by
      have := HK0.out
      obtain ⟨-, hzA2, hzB1⟩ := HZ.out
      subst hzA2 hzB1
      simpa using this)
     have HK2 : Hid (SortAt (encT tc) 3 w b o (P ++ z0k le A1 B1 ++ A2 ++ B2 ++ T) wr) := hid (by
      have := HK1.out
      obtain ⟨-, hzA2, hzB1⟩ := HZ.out
      subst hzA2 hzB1
      simpa [z0l, z0c] using this)
     have HK3 : Hid (SortAt (encT tc) 3 w b o (P ++ z0k le A B ++ T) wr) := hid (by
      have := HK2.out
      rw [HMG.out]
      obtain ⟨-, hzA2, hzB1⟩ := HZ.out
      subst hzA2 hzB1
      simpa [z0l, z0c] using this)
     go_wp2
     all_goals
      go_end0
      exact ⟨rfl, by first | (with_reducible exact HK3.out) | (rw [← List.append_assoc]; with_reducible exact HK3.out)⟩
    ·have f1 : (i : Int) < (m : Int) := by have := LA.out; have := LS.out; omega
     have f2 : (m : Int) < (f : Int) := by have := LA.out; have := LS.out; omega
     have f3 : (i : Int) ≤ (a : Int) := by have := LA.out; have := LS.out; omega
     have f4 : (i : Int) < (d : Int) := by have := LA.out; have := LS.out; omega
     have f5 : (d : Int) < (f : Int) := by have := LA.out; have := LS.out; omega
     have f6 : (f : Int) < (e : Int) := by have := LA.out; have := LS.out; omega
     have hzA1 : A1 = [] := List.length_eq_zero_iff.1 (by omega)
     have HZ := hid (And.intro (rfl : 0 = 0) hzA1)
     clear hzA1
     have HN1 := hid (And.intro n2 n3)
     have HNN := hid (And.intro n1 (And.intro n2 (And.intro n3 n4)))
     clear n1 n2 n3 n4
     have C1 := hid (z58 (tc := tc) (cap := cap) (l := l) (za := (i : Int)) (zm := (m : Int)) (zb := (f : Int)) (cv := .func (.func 139) #[] #[]) (P ++ A1) A2 B1 (B2 ++ T) wr (by simp) (by rw [HLN.out]; simp; omega) (by have := LS.out; have := LP.out; simp; omega) (by have := LS.out; have := LP.out; have := LA.out; simp; omega) (by have := LS.out; have := LP.out; have := LA.out; simp; omega) HK0.out (by intro hn; have := HNN.out; rw [hn] at this; simp at this) (by intro hn; have := HNN.out; rw [hn] at this; simp at this) hcap hcap2)
     go_wp2_with fail
     with_reducible refine C1.out.mono ?_
     rintro r w1 ⟨rfl, hk1⟩
     have HK1 : Hid (SortAt (encT tc) 3 w b o (P ++ A1 ++ B1 ++ A2 ++ B2 ++ T) w1) := hid (by simpa using hk1)
     clear hk1
     have HK2 : Hid (SortAt (encT tc) 3 w b o (P ++ z0k le A1 B1 ++ A2 ++ B2 ++ T) w1) := hid (by
      have := HK1.out
      obtain ⟨-, hzA1⟩ := HZ.out
      subst hzA1
      simpa [z0l, z0c] using this)
     have C3 := hid (HIH.out (P ++ z0k le A1 B1) A2 B2 T _ w1 l d f e (by have := HNN.out; have := HSZ.out; omega) HNN.out.2.1 HNN.out.2.2.2 HSA.out.2.1 HSA.out.2.2.2 (by simp) (by rw [HLN.out]; simp; omega) (by have := LS.out; have := LA.out; have := LP.out; simp; omega) (by have := LS.out; have := LA.out; omega) (by have := LS.out; have := LA.out; omega) HK2.out hcap hcap2)
     go_wp2_with fail
     with_reducible refine C3.out.mono ?_
     rintro r w3 ⟨rfl, hk3⟩
     have HK3 : Hid (SortAt (encT tc) 3 w b o (P ++ z0k le A B ++ T) w3) := hid (by rw [HMG.out]; simpa using hk3)
     clear hk3
     go_wp2
     all_goals
      go_end0
      exact ⟨rfl, by first | (with_reducible exact HK3.out) | (rw [← List.append_assoc]; with_reducible exact HK3.out)⟩
    ·have f1 : (i : Int) < (m : Int) := by have := LA.out; have := LS.out; omega
     have f2 : (m : Int) < (f : Int) := by have := LA.out; have := LS.out; omega
     have f3 : (i : Int) ≤ (a : Int) := by have := LA.out; have := LS.out; omega
     have f4 : (i : Int) < (d : Int) := by have := LA.out; have := LS.out; omega
     have f5 : (d : Int) < (f : Int) := by have := LA.out; have := LS.out; omega
     have f6 : (e : Int) ≤ (f : Int) := by have := LA.out; have := LS.out; omega
     have hzA1 : A1 = [] := List.length_eq_zero_iff.1 (by omega)
     have hzB2 : B2 = [] := List.length_eq_zero_iff.1 (by omega)
     have HZ := hid (And.intro (rfl : 0 = 0) (And.intro hzA1 hzB2))
     clear hzA1
     clear hzB2
     have HN1 := hid (And.intro n2 n3)
     have HNN := hid (And.intro n1 (And.intro n2 (And.intro n3 n4)))
     clear n1 n2 n3 n4
     have C1 := hid (z58 (tc := tc) (cap := cap) (l := l) (za := (i : Int)) (zm := (m : Int)) (zb := (f : Int)) (cv := .func (.func 139) #[] #[]) (P ++ A1) A2 B1 (B2 ++ T) wr (by simp) (by rw [HLN.out]; simp; omega) (by have := LS.out; have := LP.out; simp; omega) (by have := LS.out; have := LP.out; have := LA.out; simp; omega) (by have := LS.out; have := LP.out; have := LA.out; simp; omega) HK0.out (by intro hn; have := HNN.out; rw [hn] at this; simp at this) (by intro hn; have := HNN.out; rw [hn] at this; simp at this) hcap hcap2)
     go_wp2_with fail
     with_reducible refine C1.out.mono ?_
     rintro r w1 ⟨rfl, hk1⟩
     have HK1 : Hid (SortAt (encT tc) 3 w b o (P ++ A1 ++ B1 ++ A2 ++ B2 ++ T) w1) := hid (by simpa using hk1)
     clear hk1
     have HK2 : Hid (SortAt (encT tc) 3 w b o (P ++ z0k le A1 B1 ++ A2 ++ B2 ++ T) w1) := hid (by
      have := HK1.out
      obtain ⟨-, hzA1, hzB2⟩ := HZ.out
      subst hzA1 hzB2
      simpa [z0l, z0c] using this)
     have HK3 : Hid (SortAt (encT tc) 3 w b o (P ++ z0k le A B ++ T) w1) := hid (by
      have := HK2.out
      rw [HMG.out]
      obtain ⟨-, hzA1, hzB2⟩ := HZ.out
      subst hzA1 hzB2
      simpa [z0l, z0c] using this)
     go_wp2
     all_goals
      go_end0
      exact ⟨rfl, by first | (with_reducible exact HK3.out) | (rw [← List.append_assoc]; with_reducible exact HK3.out)⟩
    ·have f1 : (m : Int) ≤ (i : Int) := by have := LA.out; have := LS.out; omega
     have f2 : (m : Int) < (f : Int) := by have := LA.out; have := LS.out; omega
     have f3 : (i : Int) ≤ (a : Int) := by have := LA.out; have := LS.out; omega
     have f4 : (i : Int) < (d : Int) := by have := LA.out; have := LS.out; omega
     have f5 : (f : Int) ≤ (d : Int) := by have := LA.out; have := LS.out; omega
     have f6 : (f : Int) < (e : Int) := by have := LA.out; have := LS.out; omega
     have hzA1 : A1 = [] := List.length_eq_zero_iff.1 (by omega)
     have hzA2 : A2 = [] := List.length_eq_zero_iff.1 (by omega)
     have HZ := hid (And.intro (rfl : 0 = 0) (And.intro hzA1 hzA2))
     clear hzA1
     clear hzA2
     have HNN := hid (And.intro n1 (And.intro n2 (And.intro n3 n4)))
     clear n1 n2 n3 n4
     have HK1 : Hid (SortAt (encT tc) 3 w b o (P ++ A1 ++ B1 ++ A2 ++ B2 ++ T) wr) := hid (by
      have := HK0.out
      obtain ⟨-, hzA1, hzA2⟩ := HZ.out
      subst hzA1 hzA2
      simpa using this)
     have HK2 : Hid (SortAt (encT tc) 3 w b o (P ++ z0k le A1 B1 ++ A2 ++ B2 ++ T) wr) := hid (by
      have := HK1.out
      obtain ⟨-, hzA1, hzA2⟩ := HZ.out
      subst hzA1 hzA2
      simpa [z0l, z0c] using this)
     have HK3 : Hid (SortAt (encT tc) 3 w b o (P ++ z0k le A B ++ T) wr) := hid (by
      have := HK2.out
      rw [HMG.out]
      obtain ⟨-, hzA1, hzA2⟩ := HZ.out
      subst hzA1 hzA2
      simpa [z0l, z0c] using this)
     go_wp2
     all_goals
      go_end0
      exact ⟨rfl, by first | (with_reducible exact HK3.out) | (rw [← List.append_assoc]; with_reducible exact HK3.out)⟩
 ·have q3 : ¬ (m : Int) > (d : Int) := by omega
  have HG : Hid (z5d a m e d a m) := .inr ⟨hdm, rfl, rfl⟩
  have hlh : a ≤ m := by omega
  go_enter Tryz.func185, Tryz.ntmps185
  go_wp2
  go_loopw [20, 21] (fun vi vj wr => ∃ i j lo hi : Nat, vi = .int .i64 i ∧ vj = .int .i64 j ∧ Hid (z5d a m e d lo hi) ∧ lo ≤ i ∧ i ≤ j ∧ j ≤ hi ∧ Hid (i = lo ∨ ∃ x z, cur[i - 1]? = some x ∧ cur[d + m - i]? = some z ∧ le x z = true) ∧ Hid (j = hi ∨ ∃ x z, cur[j]? = some x ∧ cur[d + m - j - 1]? = some z ∧ le x z = false) ∧ SortAt (encT tc) 3 w b o cur wr) (fun vi vj _ => (intOf vj).toNat - (intOf vi).toNat)
  case atStart => exact ⟨a, m, a, m, rfl, rfl, HG, Nat.le_refl _, hlh, Nat.le_refl _, .inl rfl, .inl rfl, H.out⟩
  case round =>
   clear HG q3 hlh hdm
   obtain ⟨i, j, lo, hi, rfl, rfl, HG, hli, hij, hjh, HI, HJ, hs⟩ := hrel
   have HS := hid hs
   have hb : a ≤ lo ∧ hi ≤ m ∧ hi ≤ d ∧ d + m ≤ lo + e := by have := HG.out; unfold z5d at this; omega
   obtain ⟨hb1, hb2, hb3, hb4⟩ := hb
   by_cases hlt : i < j
   ·obtain ⟨h, hh⟩ : ∃ h, h = (i + j) / 2 := ⟨_, rfl⟩
    have hh1 : i ≤ h := by omega
    have hh2 : h < j := by omega
    obtain ⟨g, hg⟩ : ∃ g, g = d + m - h - 1 := ⟨_, rfl⟩
    have hge : g < e := by omega
    obtain ⟨x, hx⟩ := z00 (l := cur) (j := h) (by rw [← HLL.out]; omega)
    obtain ⟨z, hz⟩ := z00 (l := cur) (j := g) (by rw [← HLL.out]; omega)
    have HX := hid hx
    have HZ := hid hz
    have p1 : ((i : Int) + (j : Int)) / 2 = (h : Int) := by omega
    have p2 : (d : Int) + (m : Int) - 1 - (h : Int) = (g : Int) := by omega
    have p3 : (g : Int) < (l : Int) := by omega
    have p4 : (h : Int) < (l : Int) := by omega
    have L0 := fun Y : Later wr => (hs.later Y.h).get3 hz
    have L1 := fun Y : Later wr => (hs.later Y.h).get3 hx
    have LC := fun Y : Later wr => HC.out Y.w' (hs.later Y.h).grown z x
    have a0 := fun Y => (L0 Y).1.1
    have a1 := fun Y => (L0 Y).1.2.1
    have a2 := fun Y => (L0 Y).1.2.2
    have b0 := fun Y => (L1 Y).1.1
    have b1 := fun Y => (L1 Y).1.2.1
    have b2 := fun Y => (L1 Y).1.2.2
    obtain ⟨r1, r2⟩ := HL.out.range z x
    have HLE := hid (HL.out.eq z x)
    have HH := hid hh
    have HGG := hid hg
    generalize cf z x = c at *
    have HLC := hid LC
    clear L0 L1 LC hs hz hx hh hg
    by_cases hcc : c < 0
    ·go_wp2
     refine z03 (by kernel_rfl) (by kernel_rfl) ?_
     repeat (go_big_quiet_step (first | (go_at_call 139; exact Later.done (HLC.out _))))
     refine wpQuiet_nil ?_
     intro W2 hW2
     clear a0 a1 a2 b0 b1 b2
     have HD2 := hid (HS.out.later hW2)
     clear hW2
     go_wp2
     go_roundw
     case rel =>
      refine ⟨i, h, lo, hi, rfl, rfl, HG, hli, hh1, by omega, HI, .inr ⟨x, z, HX.out, by rw [← HGG.out]; exact HZ.out, ?_⟩, HD2.out⟩
      rw [HLE.out]; exact decide_eq_false (by omega)
     case measure => simp only [intOf]; omega
    ·have q4 : decide (c < 0) = false := decide_eq_false hcc
     have q5 : c + 1 > 0 := by omega
     have HCC := hid hcc
     clear hcc
     go_wp2
     refine z03 (by kernel_rfl) (by kernel_rfl) ?_
     repeat (go_big_quiet_step (first | (go_at_call 139; exact Later.done (HLC.out _))))
     refine wpQuiet_nil ?_
     intro W2 hW2
     clear a0 a1 a2 b0 b1 b2
     have HD2 := hid (HS.out.later hW2)
     clear hW2
     go_wp2
     go_roundw
     case rel =>
      refine ⟨h + 1, j, lo, hi, by go_num, rfl, HG, by omega, by omega, hjh, .inr ⟨x, z, by rw [Nat.add_sub_cancel]; exact HX.out, by rw [show d + m - (h + 1) = g by have := HGG.out; omega]; exact HZ.out, ?_⟩, HJ, HD2.out⟩
      rw [HLE.out]; exact decide_eq_true (by have := HCC.out; omega)
     case measure => simp only [intOf]; omega
   ·obtain rfl : i = j := by omega
    obtain ⟨f, hf⟩ : ∃ f, f + i = d + m := ⟨d + m - i, by omega⟩
    obtain ⟨A1, A2, B1, B2, hA12, hB12, hsA, hfB, hmg⟩ := zfx (f := f) HL.out.total hA hB HCUR.out HA.out HM.out HE.out HD.out HG.out hli hjh hf (by
     have := HI.out
     rwa [show d + m - i = f by omega] at this) (by
     have := HJ.out
     rwa [show d + m - i - 1 = f - 1 by omega] at this)
    have p1 : (d : Int) + (m : Int) - (i : Int) = (f : Int) := by omega
    have lA := HM.out
    have lB := HE.out
    rw [hA12] at lA
    rw [hB12] at lB
    simp only [List.length_append] at lA lB
    have lP := HA.out
    have HMG := hid hmg
    have HK0 : Hid (SortAt (encT tc) 3 w b o (P ++ A1 ++ A2 ++ B1 ++ B2 ++ T) wr) := hid (by
     have := HS.out
     rw [HCUR.out, hA12, hB12] at this
     simpa using this)
    have HLN : Hid (l = P.length + A1.length + A2.length + B1.length + B2.length + T.length) := hid (by rw [HLL.out, HCUR.out, hA12, hB12]; simp; omega)
    have HSZ : Hid (A.length = A1.length + A2.length ∧ B.length = B1.length + B2.length) := hid (by rw [hA12, hB12]; simp)
    have HSA : Hid (z13 le A1 ∧ z13 le A2 ∧ z13 le B1 ∧ z13 le B2) := hid (by
     rw [hA12] at hA
     rw [hB12] at hB
     have h1 := List.pairwise_append.1 hA
     have h2 := List.pairwise_append.1 hB
     exact ⟨h1.1, h1.2.1, h2.1, h2.2.1⟩)
    have LP := hid lP
    have LA := hid (And.intro lA lB)
    have LS := hid (And.intro hsA (And.intro hfB hf))
    have hmle : m ≤ l := by omega
    have hfle : f ≤ l := by omega
    clear hs hA12 hB12 hmg hli hij hjh hb1 hb2 hb3 hb4 hlt lA lB lP hsA hfB hf
    rcases (show (0 < A1.length ∧ 0 < A2.length ∧ 0 < B1.length ∧ 0 < B2.length) ∨ (0 < A1.length ∧ 0 < A2.length ∧ 0 < B1.length ∧ B2.length = 0) ∨ (0 < A1.length ∧ A2.length = 0 ∧ 0 < B1.length ∧ 0 < B2.length) ∨ (0 < A1.length ∧ 0 < A2.length ∧ B1.length = 0 ∧ 0 < B2.length) ∨ (0 < A1.length ∧ 0 < A2.length ∧ B1.length = 0 ∧ B2.length = 0) ∨ (0 < A1.length ∧ A2.length = 0 ∧ B1.length = 0 ∧ 0 < B2.length) ∨ (A1.length = 0 ∧ 0 < A2.length ∧ 0 < B1.length ∧ 0 < B2.length) ∨ (A1.length = 0 ∧ 0 < A2.length ∧ 0 < B1.length ∧ B2.length = 0) ∨ (A1.length = 0 ∧ A2.length = 0 ∧ 0 < B1.length ∧ 0 < B2.length) by have := LA.out; have := LS.out; omega) with ⟨n1, n2, n3, n4⟩ | ⟨n1, n2, n3, n4⟩ | ⟨n1, n2, n3, n4⟩ | ⟨n1, n2, n3, n4⟩ | ⟨n1, n2, n3, n4⟩ | ⟨n1, n2, n3, n4⟩ | ⟨n1, n2, n3, n4⟩ | ⟨n1, n2, n3, n4⟩ | ⟨n1, n2, n3, n4⟩
    ·have f1 : (i : Int) < (m : Int) := by have := LA.out; have := LS.out; omega
     have f2 : (m : Int) < (f : Int) := by have := LA.out; have := LS.out; omega
     have f3 : (a : Int) < (i : Int) := by have := LA.out; have := LS.out; omega
     have f4 : (i : Int) < (d : Int) := by have := LA.out; have := LS.out; omega
     have f5 : (d : Int) < (f : Int) := by have := LA.out; have := LS.out; omega
     have f6 : (f : Int) < (e : Int) := by have := LA.out; have := LS.out; omega
     have HN1 := hid (And.intro n2 n3)
     have HNN := hid (And.intro n1 (And.intro n2 (And.intro n3 n4)))
     clear n1 n2 n3 n4
     have C1 := hid (z58 (tc := tc) (cap := cap) (l := l) (za := (i : Int)) (zm := (m : Int)) (zb := (f : Int)) (cv := .func (.func 139) #[] #[]) (P ++ A1) A2 B1 (B2 ++ T) wr (by simp) (by rw [HLN.out]; simp; omega) (by have := LS.out; have := LP.out; simp; omega) (by have := LS.out; have := LP.out; have := LA.out; simp; omega) (by have := LS.out; have := LP.out; have := LA.out; simp; omega) HK0.out (by intro hn; have := HNN.out; rw [hn] at this; simp at this) (by intro hn; have := HNN.out; rw [hn] at this; simp at this) hcap hcap2)
     go_wp2_with fail
     with_reducible refine C1.out.mono ?_
     rintro r w1 ⟨rfl, hk1⟩
     have HK1 : Hid (SortAt (encT tc) 3 w b o (P ++ A1 ++ B1 ++ A2 ++ B2 ++ T) w1) := hid (by simpa using hk1)
     clear hk1
     have C2 := hid (HIH.out P A1 B1 (A2 ++ B2 ++ T) _ w1 l a i d (by have := HNN.out; have := HSZ.out; omega) HNN.out.1 HNN.out.2.2.1 HSA.out.1 HSA.out.2.2.1 (by simp) (by rw [HLN.out]; simp; omega) LP.out LS.out.1 (by have := LS.out; have := LA.out; omega) HK1.out hcap hcap2)
     go_wp2_with fail
     with_reducible refine C2.out.mono ?_
     rintro r w2 ⟨rfl, hk2⟩
     have HK2 : Hid (SortAt (encT tc) 3 w b o (P ++ z0k le A1 B1 ++ A2 ++ B2 ++ T) w2) := hid (by simpa using hk2)
     clear hk2
     have C3 := hid (HIH.out (P ++ z0k le A1 B1) A2 B2 T _ w2 l d f e (by have := HNN.out; have := HSZ.out; omega) HNN.out.2.1 HNN.out.2.2.2 HSA.out.2.1 HSA.out.2.2.2 (by simp) (by rw [HLN.out]; simp; omega) (by have := LS.out; have := LA.out; have := LP.out; simp; omega) (by have := LS.out; have := LA.out; omega) (by have := LS.out; have := LA.out; omega) HK2.out hcap hcap2)
     go_wp2_with fail
     with_reducible refine C3.out.mono ?_
     rintro r w3 ⟨rfl, hk3⟩
     have HK3 : Hid (SortAt (encT tc) 3 w b o (P ++ z0k le A B ++ T) w3) := hid (by rw [HMG.out]; simpa using hk3)
     clear hk3
     go_wp2
     all_goals
      go_end0
      exact ⟨rfl, by first | (with_reducible exact HK3.out) | (rw [← List.append_assoc]; with_reducible exact HK3.out)⟩
    ·have f1 : (i : Int) < (m : Int) := by have := LA.out; have := LS.out; omega
     have f2 : (m : Int) < (f : Int) := by have := LA.out; have := LS.out; omega
     have f3 : (a : Int) < (i : Int) := by have := LA.out; have := LS.out; omega
     have f4 : (i : Int) < (d : Int) := by have := LA.out; have := LS.out; omega
     have f5 : (d : Int) < (f : Int) := by have := LA.out; have := LS.out; omega
     have f6 : (e : Int) ≤ (f : Int) := by have := LA.out; have := LS.out; omega
     have hzB2 : B2 = [] := List.length_eq_zero_iff.1 (by omega)
     have HZ := hid (And.intro (rfl : 0 = 0) hzB2)
     clear hzB2
     have HN1 := hid (And.intro n2 n3)
     have HNN := hid (And.intro n1 (And.intro n2 (And.intro n3 n4)))
     clear n1 n2 n3 n4
     have C1 := hid (z58 (tc := tc) (cap := cap) (l := l) (za := (i : Int)) (zm := (m : Int)) (zb := (f : Int)) (cv := .func (.func 139) #[] #[]) (P ++ A1) A2 B1 (B2 ++ T) wr (by simp) (by rw [HLN.out]; simp; omega) (by have := LS.out; have := LP.out; simp; omega) (by have := LS.out; have := LP.out; have := LA.out; simp; omega) (by have := LS.out; have := LP.out; have := LA.out; simp; omega) HK0.out (by intro hn; have := HNN.out; rw [hn] at this; simp at this) (by intro hn; have := HNN.out; rw [hn] at this; simp at this) hcap hcap2)
     go_wp2_with fail
     with_reducible refine C1.out.mono ?_
     rintro r w1 ⟨rfl, hk1⟩
     have HK1 : Hid (SortAt (encT tc) 3 w b o (P ++ A1 ++ B1 ++ A2 ++ B2 ++ T) w1) := hid (by simpa using hk1)
     clear hk1
     have C2 := hid (HIH.out P A1 B1 (A2 ++ B2 ++ T) _ w1 l a i d (by have := HNN.out; have := HSZ.out; omega) HNN.out.1 HNN.out.2.2.1 HSA.out.1 HSA.out.2.2.1 (by simp) (by rw [HLN.out]; simp; omega) LP.out LS.out.1 (by have := LS.out; have := LA.out; omega) HK1.out hcap hcap2)
     go_wp2_with fail
     with_reducible refine C2.out.mono ?_
     rintro r w2 ⟨rfl, hk2⟩
     have HK2 : Hid (SortAt (encT tc) 3 w b o (P ++ z0k le A1 B1 ++ A2 ++ B2 ++ T) w2) := hid (by simpa using hk2)
     clear hk2
     have HK3 : Hid (SortAt (encT tc) 3 w b o (P ++ z0k le A B ++ T) w2) := hid (by
      have := HK2.out
      rw [HMG.out]
      obtain ⟨-, hzB2⟩ := HZ.out
      subst hzB2
      simpa [z0l, z0c] using this)
     go_wp2
     all_goals
      go_end0
      exact ⟨rfl, by first | (with_reducible exact HK3.out) | (rw [← List.append_assoc]; with_reducible exact HK3.out)⟩
    ·have f1 : (m : Int) ≤ (i : Int) := by have := LA.out; have := LS.out; omega
     have f2 : (m : Int) < (f : Int) := by have := LA.out; have := LS.out; omega
     have f3 : (a : Int) < (i : Int) := by have := LA.out; have := LS.out; omega
     have f4 : (i : Int) < (d : Int) := by have := LA.out; have := LS.out; omega
     have f5 : (f : Int) ≤ (d : Int) := by have := LA.out; have := LS.out; omega
     have f6 : (f : Int) < (e : Int) := by have := LA.out; have := LS.out; omega
     have hzA2 : A2 = [] := List.length_eq_zero_iff.1 (by omega)
     have HZ := hid (And.intro (rfl : 0 = 0) hzA2)
     clear hzA2
     have HNN := hid (And.intro n1 (And.intro n2 (And.intro n3 n4)))
     clear n1 n2 n3 n4
     have HK1 : Hid (SortAt (encT tc) 3 w b o (P ++ A1 ++ B1 ++ A2 ++ B2 ++ T) wr) := hid (by
      have := HK0.out
      obtain ⟨-, hzA2⟩ := HZ.out
      subst hzA2
      simpa using this)
     have C2 := hid (HIH.out P A1 B1 (A2 ++ B2 ++ T) _ wr l a i d (by have := HNN.out; have := HSZ.out; omega) HNN.out.1 HNN.out.2.2.1 HSA.out.1 HSA.out.2.2.1 (by simp) (by rw [HLN.out]; simp; omega) LP.out LS.out.1 (by have := LS.out; have := LA.out; omega) HK1.out hcap hcap2)
     go_wp2_with fail
     with_reducible refine C2.out.mono ?_
     rintro r w2 ⟨rfl, hk2⟩
     have HK2 : Hid (SortAt (encT tc) 3 w b o (P ++ z0k le A1 B1 ++ A2 ++ B2 ++ T) w2) := hid (by simpa using hk2)
     clear hk2
     have HK3 : Hid (SortAt (encT tc) 3 w b o (P ++ z0k le A B ++ T) w2) := hid (by
      have := HK2.out
      rw [HMG.out]
      obtain ⟨-, hzA2⟩ := HZ.out
      subst hzA2
      simpa [z0l, z0c] using this)
     go_wp2
     all_goals
      go_end0
      exact ⟨rfl, by first | (with_reducible exact HK3.out) | (rw [← List.append_assoc]; with_reducible exact HK3.out)⟩
    ·have f1 : (i : Int) < (m : Int) := by have := LA.out; have := LS.out; omega
     have f2 : (f : Int) ≤ (m : Int) := by have := LA.out; have := LS.out; omega
     have f3 : (a : Int) < (i : Int) := by have := LA.out; have := LS.out; omega
     have f4 : (d : Int) ≤ (i : Int) := by have := LA.out; have := LS.out; omega
     have f5 : (d : Int) < (f : Int) := by have := LA.out; have := LS.out; omega
     have f6 : (f : Int) < (e : Int) := by have := LA.out; have := LS.out; omega
     have hzB1 : B1 = [] := List.length_eq_zero_iff.1 (by omega)
     have HZ := hid (And.intro (rfl : 0 = 0) hzB1)
     clear hzB1
     have HNN := hid (And.intro n1 (And.intro n2 (And.intro n3 n4)))
     clear n1 n2 n3 n4
     have HK1 : Hid (SortAt (encT tc) 3 w b o (P ++ A1 ++ B1 ++ A2 ++ B2 ++ T) wr) := hid (by
      have := HK0.out
      obtain ⟨-, hzB1⟩ := HZ.out
      subst hzB1
      simpa using this)
     have HK2 : Hid (SortAt (encT tc) 3 w b o (P ++ z0k le A1 B1 ++ A2 ++ B2 ++ T) wr) := hid (by
      have := HK1.out
      obtain ⟨-, hzB1⟩ := HZ.out
      subst hzB1
      simpa [z0l, z0c] using this)
     have C3 := hid (HIH.out (P ++ z0k le A1 B1) A2 B2 T _ wr l d f e (by have := HNN.out; have := HSZ.out; omega) HNN.out.2.1 HNN.out.2.2.2 HSA.out.2.1 HSA.out.2.2.2 (by simp) (by rw [HLN.out]; simp; omega) (by have := LS.out; have := LA.out; have := LP.out; simp; omega) (by have := LS.out; have := LA.out; omega) (by have := LS.out; have := LA.out; omega) HK2.out hcap hcap2)
     go_wp2_with fail
     with_reducible refine C3.out.mono ?_
     rintro r w3 ⟨rfl, hk3⟩
     have HK3 : Hid (SortAt (encT tc) 3 w b o (P ++ z0k le A B ++ T) w3) := hid (by rw [HMG.out]; simpa using hk3)
     clear hk3
     go_wp2
     all_goals
      go_end0
      exact ⟨rfl, by first | (with_reducible exact HK3.out) | (rw [← List.append_assoc]; with_reducible exact HK3.out)⟩
    ·have f1 : (i : Int) < (m : Int) := by have := LA.out; have := LS.out; omega
     have f2 : (f : Int) ≤ (m : Int) := by have := LA.out; have := LS.out; omega
     have f3 : (a : Int) < (i : Int) := by have := LA.out; have := LS.out; omega
     have f4 : (d : Int) ≤ (i : Int) := by have := LA.out; have := LS.out; omega
     have f5 : (d : Int) < (f : Int) := by have := LA.out; have := LS.out; omega
     have f6 : (e : Int) ≤ (f : Int) := by have := LA.out; have := LS.out; omega
     have hzB1 : B1 = [] := List.length_eq_zero_iff.1 (by omega)
     have hzB2 : B2 = [] := List.length_eq_zero_iff.1 (by omega)
     have HZ := hid (And.intro (rfl : 0 = 0) (And.intro hzB1 hzB2))
     clear hzB1
     clear hzB2
     have HNN := hid (And.intro n1 (And.intro n2 (And.intro n3 n4)))
     clear n1 n2 n3 n4
     have HK1 : Hid (SortAt (encT tc) 3 w b o (P ++ A1 ++ B1 ++ A2 ++ B2 ++ T) wr) := hid (by
      have := HK0.out
      obtain ⟨-, hzB1, hzB2⟩ := HZ.out
      subst hzB1 hzB2
      simpa using this)
     have HK2 : Hid (SortAt (encT tc) 3 w b o (P ++ z0k le A1 B1 ++ A2 ++ B2 ++ T) wr) := hid (by
      have := HK1.out
      obtain ⟨-, hzB1, hzB2⟩ := HZ.out
      subst hzB1 hzB2
      simpa [z0l, z0c] using this)
     have HK3 : Hid (SortAt (encT tc) 3 w b o (P ++ z0k le A B ++ T) wr) := hid (by
      have := HK2.out
      rw [HMG.out]
      obtain ⟨-, hzB1, hzB2⟩ := HZ.out
      subst hzB1 hzB2
      simpa [z0l, z0c] using this)
     go_wp2
     all_goals
      go_end0
      exact ⟨rfl, by first | (with_reducible exact HK3.out) | (rw [← List.append_assoc]; with_reducible exact HK3.out)⟩
    ·have f1 : (m : Int) ≤ (i : Int) := by have := LA.out; have := LS.out; omega
     have f2 : (f : Int) ≤ (m : Int) := by have := LA.out; have := LS.out; omega
     have f3 : (a : Int) < (i : Int) := by have := LA.out; have := LS.out; omega
     have f4 : (d : Int) ≤ (i : Int) := by have := LA.out; have := LS.out; omega
     have f5 : (f : Int) ≤ (d : Int) := by have := LA.out; have := LS.out; omega
     have f6 : (f : Int) < (e : Int) := by have := LA.out; have := LS.out; omega
     have hzA2 : A2 = [] := List.length_eq_zero_iff.1 (by omega)
     have hzB1 : B1 = [] := List.length_eq_zero_iff.1 (by omega)
     have HZ := hid (And.intro (rfl : 0 = 0) (And.intro hzA2 hzB1))
     clear hzA2
     clear hzB1
     have HNN := hid (And.intro n1 (And.intro n2 (And.intro n3 n4)))
     clear n1 n2 n3 n4
     have HK1 : Hid (SortAt (encT tc) 3 w b o (P ++ A1 ++ B1 ++ A2 ++ B2 ++ T) wr) := hid (by
      have := HK0.out
      obtain ⟨-, hzA2, hzB1⟩ := HZ.out
      subst hzA2 hzB1
      simpa using this)
     have HK2 : Hid (SortAt (encT tc) 3 w b o (P ++ z0k le A1 B1 ++ A2 ++ B2 ++ T) wr) := hid (by
      have := HK1.out
      obtain ⟨-, hzA2, hzB1⟩ := HZ.out
      subst hzA2 hzB1
      simpa [z0l, z0c] using this)
     have HK3 : Hid (SortAt (encT tc) 3 w b o (P ++ z0k le A B ++ T) wr) := hid (by
      have := HK2.out
      rw [HMG.out]
      obtain ⟨-, hzA2, hzB1⟩ := HZ.out
      subst hzA2 hzB1
      simpa [z0l, z0c] using this)
     go_wp2
     all_goals
      go_end0
      exact ⟨rfl, by first | (with_reducible exact HK3.out) | (rw [← List.append_assoc]; with_reducible exact HK3.out)⟩
    ·have f1 : (i : Int) < (m : Int) := by have := LA.out; have := LS.out; omega
     have f2 : (m : Int) < (f : Int) := by have := LA.out; have := LS.out; omega
     have f3 : (i : Int) ≤ (a : Int) := by have := LA.out; have := LS.out; omega
     have f4 : (i : Int) < (d : Int) := by have := LA.out; have := LS.out; omega
     have f5 : (d : Int) < (f : Int) := by have := LA.out; have := LS.out; omega
     have f6 : (f : Int) < (e : Int) := by have := LA.out; have := LS.out; omega
     have hzA1 : A1 = [] := List.length_eq_zero_iff.1 (by omega)
     have HZ := hid (And.intro (rfl : 0 = 0) hzA1)
     clear hzA1
     have HN1 := hid (And.intro n2 n3)
     have HNN := hid (And.intro n1 (And.intro n2 (And.intro n3 n4)))
     clear n1 n2 n3 n4
     have C1 := hid (z58 (tc := tc) (cap := cap) (l := l) (za := (i : Int)) (zm := (m : Int)) (zb := (f : Int)) (cv := .func (.func 139) #[] #[]) (P ++ A1) A2 B1 (B2 ++ T) wr (by simp) (by rw [HLN.out]; simp; omega) (by have := LS.out; have := LP.out; simp; omega) (by have := LS.out; have := LP.out; have := LA.out; simp; omega) (by have := LS.out; have := LP.out; have := LA.out; simp; omega) HK0.out (by intro hn; have := HNN.out; rw [hn] at this; simp at this) (by intro hn; have := HNN.out; rw [hn] at this; simp at this) hcap hcap2)
     go_wp2_with fail
     with_reducible refine C1.out.mono ?_
     rintro r w1 ⟨rfl, hk1⟩
     have HK1 : Hid (SortAt (encT tc) 3 w b o (P ++ A1 ++ B1 ++ A2 ++ B2 ++ T) w1) := hid (by simpa using hk1)
     clear hk1
     have HK2 : Hid (SortAt (encT tc) 3 w b o (P ++ z0k le A1 B1 ++ A2 ++ B2 ++ T) w1) := hid (by
      have := HK1.out
      obtain ⟨-, hzA1⟩ := HZ.out
      subst hzA1
      simpa [z0l, z0c] using this)
     have C3 := hid (HIH.out (P ++ z0k le A1 B1) A2 B2 T _ w1 l d f e (by have := HNN.out; have := HSZ.out; omega) HNN.out.2.1 HNN.out.2.2.2 HSA.out.2.1 HSA.out.2.2.2 (by simp) (by rw [HLN.out]; simp; omega) (by have := LS.out; have := LA.out; have := LP.out; simp; omega) (by have := LS.out; have := LA.out; omega) (by have := LS.out; have := LA.out; omega) HK2.out hcap hcap2)
     go_wp2_with fail
     with_reducible refine C3.out.mono ?_
     rintro r w3 ⟨rfl, hk3⟩
     have HK3 : Hid (SortAt (encT tc) 3 w b o (P ++ z0k le A B ++ T) w3) := hid (by rw [HMG.out]; simpa using hk3)
     clear hk3
     go_wp2
     all_goals
      go_end0
      exact ⟨rfl, by first | (with_reducible exact HK3.out) | (rw [← List.append_assoc]; with_reducible exact HK3.out)⟩
    ·have f1 : (i : Int) < (m : Int) := by have := LA.out; have := LS.out; omega
     have f2 : (m : Int) < (f : Int) := by have := LA.out; have := LS.out; omega
     have f3 : (i : Int) ≤ (a : Int) := by have := LA.out; have := LS.out; omega
     have f4 : (i : Int) < (d : Int) := by have := LA.out; have := LS.out; omega
     have f5 : (d : Int) < (f : Int) := by have := LA.out; have := LS.out; omega
     have f6 : (e : Int) ≤ (f : Int) := by have := LA.out; have := LS.out; omega
     have hzA1 : A1 = [] := List.length_eq_zero_iff.1 (by omega)
     have hzB2 : B2 = [] := List.length_eq_zero_iff.1 (by omega)
     have HZ := hid (And.intro (rfl : 0 = 0) (And.intro hzA1 hzB2))
     clear hzA1
     clear hzB2
     have HN1 := hid (And.intro n2 n3)
     have HNN := hid (And.intro n1 (And.intro n2 (And.intro n3 n4)))
     clear n1 n2 n3 n4
     have C1 := hid (z58 (tc := tc) (cap := cap) (l := l) (za := (i : Int)) (zm := (m : Int)) (zb := (f : Int)) (cv := .func (.func 139) #[] #[]) (P ++ A1) A2 B1 (B2 ++ T) wr (by simp) (by rw [HLN.out]; simp; omega) (by have := LS.out; have := LP.out; simp; omega) (by have := LS.out; have := LP.out; have := LA.out; simp; omega) (by have := LS.out; have := LP.out; have := LA.out; simp; omega) HK0.out (by intro hn; have := HNN.out; rw [hn] at this; simp at this) (by intro hn; have := HNN.out; rw [hn] at this; simp at this) hcap hcap2)
     go_wp2_with fail
     with_reducible refine C1.out.mono ?_
     rintro r w1 ⟨rfl, hk1⟩
     have HK1 : Hid (SortAt (encT tc) 3 w b o (P ++ A1 ++ B1 ++ A2 ++ B2 ++ T) w1) := hid (by simpa using hk1)
     clear hk1
     have HK2 : Hid (SortAt (encT tc) 3 w b o (P ++ z0k le A1 B1 ++ A2 ++ B2 ++ T) w1) := hid (by
      have := HK1.out
      obtain ⟨-, hzA1, hzB2⟩ := HZ.out
      subst hzA1 hzB2
      simpa [z0l, z0c] using this)
     have HK3 : Hid (SortAt (encT tc) 3 w b o (P ++ z0k le A B ++ T) w1) := hid (by
      have := HK2.out
      rw [HMG.out]
      obtain ⟨-, hzA1, hzB2⟩ := HZ.out
      subst hzA1 hzB2
      simpa [z0l, z0c] using this)
     go_wp2
     all_goals
      go_end0
      exact ⟨rfl, by first | (with_reducible exact HK3.out) | (rw [← List.append_assoc]; with_reducible exact HK3.out)⟩
    ·have f1 : (m : Int) ≤ (i : Int) := by have := LA.out; have := LS.out; omega
     have f2 : (m : Int) < (f : Int) := by have := LA.out; have := LS.out; omega
     have f3 : (i : Int) ≤ (a : Int) := by have := LA.out; have := LS.out; omega
     have f4 : (i : Int) < (d : Int) := by have := LA.out; have := LS.out; omega
     have f5 : (f : Int) ≤ (d : Int) := by have := LA.out; have := LS.out; omega
     have f6 : (f : Int) < (e : Int) := by have := LA.out; have := LS.out; omega
     have hzA1 : A1 = [] := List.length_eq_zero_iff.1 (by omega)
     have hzA2 : A2 = [] := List.length_eq_zero_iff.1 (by omega)
     have HZ := hid (And.intro (rfl : 0 = 0) (And.intro hzA1 hzA2))
     clear hzA1
     clear hzA2
     have HNN := hid (And.intro n1 (And.intro n2 (And.intro n3 n4)))
     clear n1 n2 n3 n4
     have HK1 : Hid (SortAt (encT tc) 3 w b o (P ++ A1 ++ B1 ++ A2 ++ B2 ++ T) wr) := hid (by
      have := HK0.out
      obtain ⟨-, hzA1, hzA2⟩ := HZ.out
      subst hzA1 hzA2
      simpa using this)
     have HK2 : Hid (SortAt (encT tc) 3 w b o (P ++ z0k le A1 B1 ++ A2 ++ B2 ++ T) wr) := hid (by
      have := HK1.out
      obtain ⟨-, hzA1, hzA2⟩ := HZ.out
      subst hzA1 hzA2
      simpa [z0l, z0c] using this)
     have HK3 : Hid (SortAt (encT tc) 3 w b o (P ++ z0k le A B ++ T) wr) := hid (by
      have := HK2.out
      rw [HMG.out]
      obtain ⟨-, hzA1, hzA2⟩ := HZ.out
      subst hzA1 hzA2
      simpa [z0l, z0c] using this)
     go_wp2
     all_goals
      go_end0
      exact ⟨rfl, by first | (with_reducible exact HK3.out) | (rw [← List.append_assoc]; with_reducible exact HK3.out)⟩
theorem zhq (hc : CmpT 139 tc cf w b) (hcl : CmpLe cf le) {cap : Nat} : ∀ (N : Nat) (P A B T cur : List α) (W : World) (l a m e : Nat), A.length + B.length < N → 0 < A.length → 0 < B.length → z13 le A → z13 le B → cur = P ++ A ++ B ++ T → l = cur.length → a = P.length → m = a + A.length → e = m + B.length → SortAt (encT tc) 3 w b o cur W → l ≤ cap → l ≤ 1000000000000 →
   Calls Tryz.prog 185 #[.slice (some ⟨b, o, none⟩) l cap, .int .i64 a, .int .i64 m, .int .i64 e, .func (.func 139) #[] #[]] W
    fun r w' => r = .returned (.tuple #[]) ∧ SortAt (encT tc) 3 w b o (P ++ z0k le A B ++ T) w' := by
 intro N
 induction N with
 | zero => intro P A B T cur W l a m e hN; omega
 | succ N ih =>
  intro P A B T cur W l a m e hN hA0 hB0 hA hB hcur hl ha hm he h hcap hcap2
  match A, hA0, hA, hcur, hm, hN with
  | [x], _, hA, hcur, hm, hN => exact znu P B T x cur W hc hcl (by rw [hcur]; simp) hl ha (by simpa using hm) (by rw [he, hm]; simp) h hB hcap hcap2
  | x :: x' :: A, _, hA, hcur, hm, hN =>
   match B, hB0, hB, hcur, he, hN with
   | [y], _, hB, hcur, he, hN => exact zkz P (x :: x' :: A) T y cur W hc hcl (by rw [hcur]; simp) hl ha hm (by simpa using he) (by simp) h hA hcap hcap2
   | y :: y' :: B, _, hB, hcur, he, hN =>
    exact zl0 P (x :: x' :: A) (y :: y' :: B) T cur W hc hcl hcur hl ha hm he (by simp) (by simp) (fun P A' B' T cur W l a m e hlt => ih P A' B' T cur W l a m e (by omega)) h hA hB hcap hcap2
end
end
end Go.Proofs.YthdcaablomgboaaGreat
