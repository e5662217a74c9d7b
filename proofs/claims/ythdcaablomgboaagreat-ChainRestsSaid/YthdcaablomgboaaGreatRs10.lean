/- Chain: the rest with its cofactors, plainly. Polynomials, plain: the sum of the coefficients' sizes. The rounds of an identity within layer 16's guards. Chain, plain: by a meter of little fuel all that a rest makes is small. What the statement on divisions holds against each other: four meters, polynomials of both sides, that lie apart. The document's chain: powers, and is it an identity. The document's chain: are some polynomials one. Chain, plain: the rests of layer 16's statements within bounds; one meter or another. Chain: the rest alone, of what may not be. Chain: what lies in memory while the rest with its cofactors is made. The insertion sort in place, at polynomials. Exchanges and rotations in place, at polynomials. The merge in place of two neighbours, at polynomials: one element ahead, or one behind. The merge in place of two neighbours, at polynomials. The stable sort in place, at polynomials: blocks of twenty, then merges. Some polynomials by rising ranks. Chain: the rest with its cofactors. Chain: the rest with its cofactors, of what may not be. A polynomial ahead of some: append([]Poly{f}, l...). Layer 16's law: what is too great. -/
import Derived.Deep.DeepCutAuto
import Derived.Test.YthdcaablomgboaaGreatRs9
set_option maxRecDepth 100000
set_option maxHeartbeats 16000000
namespace Go.Proofs.YthdcaablomgboaaGreat
section
open Go.RowKit
def cofD (o : Option Nat) (P : PZ) (m : Nat) : Nat → MSt → List PZ → Int × MSt × List PZ
 | 0, s, cs => (0, s, cs)
 | q + 1, s, cs =>
  if (z0o o s ((z0e (cs.getD (m - (q + 1)) []) P).getD [])).1 ≠ 0 then ((z0o o s ((z0e (cs.getD (m - (q + 1)) []) P).getD [])).1, (z0o o s ((z0e (cs.getD (m - (q + 1)) []) P).getD [])).2, [])
  else cofD o P m q (z0o o s ((z0e (cs.getD (m - (q + 1)) []) P).getD [])).2 (cs.set (m - (q + 1)) ((z0e (cs.getD (m - (q + 1)) []) P).getD []))
structure CofStep (c P : PZ) : Prop where
 ex : ∃ k n l m : Nat, Fit k n c ∧ Fit l m P ∧ (k < 24 ∨ l < 24) ∧ k ≤ 40000 ∧ l ≤ 40000 ∧ n ≤ 1000000000000 ∧ m ≤ 1000000000000 ∧ n * m ≤ 1000000000000
 some : z0e c P = some ((z0e c P).getD [])
def z6x (o : Option Nat) (P : PZ) (m : Nat) : Nat → MSt → List PZ → Prop
 | 0, _, _ => True
 | q + 1, s, cs => CofStep (cs.getD (m - (q + 1)) []) P ∧ ((z0o o s ((z0e (cs.getD (m - (q + 1)) []) P).getD [])).1 = 0 → z6x o P m q (z0o o s ((z0e (cs.getD (m - (q + 1)) []) P).getD [])).2 (cs.set (m - (q + 1)) ((z0e (cs.getD (m - (q + 1)) []) P).getD [])))
def z1b (o : Option Nat) (w : Bool) (p : PZ) (m k : Nat) (D : DRes) (cs : List PZ) : Int × MSt × List PZ :=
 if D.e ≠ 0 then (D.e, D.s, []) else
 if D.n = 0 ∨ w = false then (0, D.s, cs.set k D.q) else
 if (z0o o D.s ((powN (z1m p) D.n).getD [])).1 ≠ 0 then ((z0o o D.s ((powN (z1m p) D.n).getD [])).1, (z0o o D.s ((powN (z1m p) D.n).getD [])).2, [])
 else cofD o ((powN (z1m p) D.n).getD []) m (m - (k + 1)) (z0o o D.s ((powN (z1m p) D.n).getD [])).2 (cs.set k D.q)
structure RoundFit (o : Option Nat) (p : PZ) (m k : Nat) (D : DRes) (cs : List PZ) : Prop where
 hn : D.n ≤ 100
 pow : powN (z1m p) D.n = some ((powN (z1m p) D.n).getD [])
 ex : ∃ A T : Nat, Fit A T p ∧ A < 24 ∧ 1 ≤ T ∧ T ≤ 1000000000000 ∧ T ^ D.n ≤ 1000000000000
 cof : (z0o o D.s ((powN (z1m p) D.n).getD [])).1 = 0 → z6x o ((powN (z1m p) D.n).getD []) m (m - (k + 1)) (z0o o D.s ((powN (z1m p) D.n).getD [])).2 (cs.set k D.q)
abbrev divK (o : Option Nat) (w : Bool) (ls : List PZ) (k : Nat) (s : MSt) (r : PZ) : DRes := divD o w s r (ls.getD k []) (z0r (ls.getD k []))
def z24 (o : Option Nat) (w : Bool) (ls : List PZ) : Nat → MSt → PZ → List Int → List PZ → Int × MSt × PZ × List Int × List PZ
 | 0, s, r, ns, cs => (0, s, r, ns, cs)
 | k + 1, s, r, ns, cs =>
  if (z1b o w (ls.getD k []) ls.length k (divK o w ls k s r) cs).1 ≠ 0 then ((z1b o w (ls.getD k []) ls.length k (divK o w ls k s r) cs).1, (z1b o w (ls.getD k []) ls.length k (divK o w ls k s r) cs).2.1, [], [], [])
  else z24 o w ls k (z1b o w (ls.getD k []) ls.length k (divK o w ls k s r) cs).2.1 (divK o w ls k s r).r (ns.set k ((divK o w ls k s r).n : Int)) (z1b o w (ls.getD k []) ls.length k (divK o w ls k s r) cs).2.2
def z22 (o : Option Nat) (w : Bool) (ls : List PZ) : Nat → MSt → PZ → List PZ → Prop
 | 0, _, _, _ => True
 | k + 1, s, r, cs => RedStep o w (ls.getD k []) r s ∧ ((divK o w ls k s r).e = 0 → (divK o w ls k s r).n ≠ 0 → w = true → RoundFit o (ls.getD k []) ls.length k (divK o w ls k s r) cs) ∧
  ((z1b o w (ls.getD k []) ls.length k (divK o w ls k s r) cs).1 = 0 → z22 o w ls k (z1b o w (ls.getD k []) ls.length k (divK o w ls k s r) cs).2.1 (divK o w ls k s r).r (z1b o w (ls.getD k []) ls.length k (divK o w ls k s r) cs).2.2)
theorem zsn {o : Option Nat} {P : PZ} {m : Nat} : ∀ (q : Nat) (s : MSt) (cs : List PZ), (cofD o P m q s cs).1 = 0 → (cofD o P m q s cs).2.2.length = cs.length := by
 intro q
 induction q with
 | zero => intros; rfl
 | succ q ih =>
  intro s cs h
  rw [cofD] at h ⊢
  split
  ·rename_i h0
   rw [if_pos h0] at h
   exact absurd h h0
  ·rename_i h0
   rw [if_neg h0] at h
   rw [ih _ _ h, List.length_set]
theorem zdk {o : Option Nat} {w : Bool} {p : PZ} {m k : Nat} {D : DRes} {cs : List PZ} (h : (z1b o w p m k D cs).1 = 0) : (z1b o w p m k D cs).2.2.length = cs.length := by
 unfold z1b at h ⊢
 split
 ·rename_i h0
  rw [if_pos h0] at h
  exact absurd h h0
 rename_i h0
 rw [if_neg h0] at h
 split
 ·exact List.length_set
 rename_i h1
 rw [if_neg h1] at h
 split
 ·rename_i h2
  rw [if_pos h2] at h
  exact absurd h h2
 ·rename_i h2
  rw [if_neg h2] at h
  rw [zsn _ _ _ h, List.length_set]
theorem zpn {o : Option Nat} {ls : List PZ} : ∀ (k : Nat) (s : MSt) (r : PZ) (ns : List Int) (cs : List PZ),
  redD o ls k s r ns = ((z24 o false ls k s r ns cs).1, (z24 o false ls k s r ns cs).2.1, (z24 o false ls k s r ns cs).2.2.1, (z24 o false ls k s r ns cs).2.2.2.1) := by
 intro k
 induction k with
 | zero => intros; rfl
 | succ k ih =>
  intro s r ns cs
  rw [redD, z24]
  by_cases h : (divD o false s r (ls.getD k []) (z0r (ls.getD k []))).e = 0
  ·have h1 : z1b o false (ls.getD k []) ls.length k (divK o false ls k s r) cs = (0, (divK o false ls k s r).s, cs.set k (divK o false ls k s r).q) := by
    unfold z1b
    rw [if_neg (by rw [h]; exact fun h => h rfl), if_pos (.inr rfl)]
   rw [if_neg (by rw [h]; exact fun h => h rfl), h1, if_neg (fun h => h rfl)]
   exact ih _ _ _ _
  ·have h1 : z1b o false (ls.getD k []) ls.length k (divK o false ls k s r) cs = ((divK o false ls k s r).e, (divK o false ls k s r).s, []) := by
    unfold z1b
    rw [if_pos h]
   rw [if_pos h, h1, if_pos h]
theorem z22.red {o : Option Nat} {ls : List PZ} : ∀ (k : Nat) {s : MSt} {r : PZ} {cs : List PZ}, z22 o false ls k s r cs → zdj o ls k s r := by
 intro k
 induction k with
 | zero => intros; trivial
 | succ k ih =>
  intro s r cs h
  rw [z22] at h
  rw [zdj]
  refine ⟨h.1, fun h0 => ?_⟩
  have h1 : z1b o false (ls.getD k []) ls.length k (divK o false ls k s r) cs = (0, (divK o false ls k s r).s, cs.set k (divK o false ls k s r).q) := by
   unfold z1b
   rw [if_neg (by rw [h0]; exact fun h => h rfl), if_pos (.inr rfl)]
  have h2 := h.2.2
  rw [h1] at h2
  exact ih (h2 rfl)
end
section
def nrm : PZ → Nat
 | [] => 0
 | t :: r => t.1.natAbs + nrm r
theorem z9l (p q : PZ) : nrm (p ++ q) = nrm p + nrm q := by
 induction p with
 | nil => simp [nrm]
 | cons t r ih => rw [List.cons_append, nrm, nrm, ih]; omega
theorem zvv {p : PZ} {t : Int × Mono} (h : t ∈ p) : t.1.natAbs ≤ nrm p := by
 induction p with
 | nil => simp at h
 | cons u r ih =>
  rw [nrm]
  rcases List.mem_cons.1 h with rfl | h
  ·omega
  ·have := ih h; omega
theorem zso (p : PZ) : nrm (negP p) = nrm p := by
 induction p with
 | nil => rfl
 | cons t r ih =>
  show (-t.1).natAbs + nrm (negP r) = _
  rw [ih, nrm, Int.natAbs_neg]
theorem zsp (p : PZ) (c : Int) (m : Mono) : nrm (putP p c m) ≤ nrm p + c.natAbs := by
 induction p with
 | nil =>
  simp only [putP]
  split
  ·simp [nrm]
  ·simp [nrm]
 | cons t r ih =>
  simp only [putP]
  split
  ·simp only [nrm]; omega
  ·split
   ·split
    ·simp only [nrm]; omega
    ·simp only [nrm]; have := Int.natAbs_add_le c t.1; omega
   ·split
    ·simp only [nrm]; omega
    ·simp only [nrm]; omega
theorem zsq (p l : PZ) : nrm (addP p l) ≤ nrm p + nrm l := by
 unfold addP
 induction l generalizing p with
 | nil => simp [nrm]
 | cons t r ih =>
  rw [List.foldl_cons]
  have h1 := ih (putP p t.1 t.2)
  have h2 := zsp p t.1 t.2
  simp only [nrm]
  omega
theorem zc5 (l : PZ) : nrm (z0m l) ≤ nrm l := by
 have h := zsq [] l
 rw [show nrm [] = 0 from rfl, Nat.zero_add] at h
 exact h
theorem zpo (c : Int) (m : Mono) (q : PZ) : nrm (q.map fun u => (c * u.1, z0q m u.2)) = c.natAbs * nrm q := by
 induction q with
 | nil => simp [nrm]
 | cons t r ih => rw [List.map_cons, nrm, nrm, ih, Int.natAbs_mul, Nat.mul_add]
theorem zsr (p q : PZ) : nrm (mulL p q) = nrm p * nrm q := by
 unfold mulL
 induction p with
 | nil => simp [nrm]
 | cons t r ih => rw [List.flatMap_cons, z9l, ih, zpo, nrm, Nat.add_mul]
theorem zem {f : Int × Mono → Option (Int × Mono)} (hf : ∀ t u, f t = some u → u.1 = t.1) (p : PZ) : nrm (p.filterMap f) ≤ nrm p := by
 induction p with
 | nil => simp [nrm]
 | cons t r ih =>
  rw [List.filterMap_cons]
  cases h : f t with
  | none => simp only [nrm]; omega
  | some u => simp only [nrm]; rw [hf t u h]; omega
theorem zen (p : PZ) (v e : Int) : nrm (z1y p v e) ≤ nrm p := zem (fun t u h => by
 unfold z9h at h
 split at h
 ·cases h; rfl
 ·cases h) p
theorem zss (p : PZ) : nrm (z1m p) ≤ nrm p := by
 unfold z1m
 split
 ·exact Nat.le_refl _
 ·exact zen _ _ _
theorem z5s {p q c : PZ} (hp : z0i p) (hq : z0i q) (h : z0e p q = some c) : nrm c ≤ nrm p * nrm q := by
 obtain ⟨-, rfl⟩ := z4k hp hq h
 exact Nat.le_trans (zc5 _) (Nat.le_of_eq (zsr p q))
theorem zvw (v : Int) (i : Nat) : nrm (powP v i) = 1 := by
 unfold powP
 split <;> rfl
theorem zc6 {p : PZ} {k n : Nat} (hc : canP p) (h : nrm p < B32 ^ k) (hn : p.length ≤ n) : Fit k n p := ⟨hc, fun _ ht => Nat.lt_of_le_of_lt (zvv ht) h, hn⟩
theorem zvx {p : PZ} {k n : Nat} (h : Fit k n p) : nrm p ≤ n * B32 ^ k := by
 obtain ⟨-, hb, hl⟩ := h
 refine Nat.le_trans ?_ (Nat.mul_le_mul_right _ hl)
 clear hl
 induction p with
 | nil => simp [nrm]
 | cons t r ih =>
  have h1 := ih (fun u hu => hb u (by simp [hu]))
  have h2 := hb t (by simp)
  rw [nrm, List.length_cons, Nat.succ_mul]
  omega
theorem zst {h : PZ} (ch : canP h) : ∀ {n : Nat} {P : PZ}, powN h n = some P → canP P := by
 intro n
 induction n with
 | zero =>
  intro P hP
  rw [powN] at hP
  obtain rfl := Option.some.inj hP
  exact z7l
 | succ n ih =>
  intro P hP
  rw [powN] at hP
  cases hq : powN h n with
  | none => rw [hq] at hP; cases hP
  | some Q =>
   rw [hq] at hP
   exact z3z (ih hq) ch hP
theorem zsu {h : PZ} {G : Nat} (ch : canP h) (hG : nrm h ≤ G) : ∀ (n : Nat) (P : PZ), powN h n = some P → nrm P ≤ G ^ n := by
 intro n
 induction n with
 | zero =>
  intro P hP
  rw [powN] at hP
  obtain rfl := Option.some.inj hP
  exact Nat.le_refl _
 | succ n ih =>
  intro P hP
  rw [powN] at hP
  cases hq : powN h n with
  | none => rw [hq] at hP; cases hP
  | some Q =>
   rw [hq] at hP
   have h1 := ih Q hq
   have cQ := zst ch hq
   have h2 := z5s cQ.may ch.may hP
   rw [Nat.pow_succ]
   exact Nat.le_trans h2 (Nat.mul_le_mul h1 hG)
section
variable {g h q r : PZ} {v d : Int} {x : PZ × PZ} {keep : Bool} {G Q R : Nat}
theorem zsv {t : PZ} (hr : canP r) (hv : 1 ≤ v ∧ v ≤ 200) (hd : 0 ≤ d) (ht : z4w r v d = some t) : nrm t ≤ nrm r := by
 have hrg := z0u hr.may v
 have h1 := z5s (z1u hr v _).may (zc0 hv (i := (degP r v - d).toNat) (by omega)).may ht
 rw [zvw, Nat.mul_one] at h1
 exact Nat.le_trans h1 (zen _ _ _)
theorem zsw (hg : canP g) (hh : canP h) (hq : canP q) (hr : canP r) (hv : 1 ≤ v ∧ v ≤ 200) (hd : 0 ≤ d) (hs : z2o keep g h v d q r = some x) (ng : nrm g ≤ G) (nh : nrm h ≤ G) (nq : nrm q ≤ Q) (nr : nrm r ≤ R) :
  nrm x.1 ≤ G * Q + R ∧ nrm x.2 ≤ 2 * G * R := by
 obtain ⟨t, l, m, ht, hl, hm, e2, e3, e4⟩ := z7j hs
 have ct := zgh hr hv hd ht
 have n1 := Nat.le_trans (zsv hr hv hd ht) nr
 have n2 : nrm l ≤ R * G := Nat.le_trans (z5s ct.may hg.may hl) (Nat.mul_le_mul n1 ng)
 have n3 : nrm m ≤ G * R := Nat.le_trans (z5s hh.may hr.may hm) (Nat.mul_le_mul nh nr)
 refine ⟨?_, ?_⟩
 ·cases keep with
  | false => rw [e3 rfl]; exact Nat.zero_le _
  | true =>
   obtain ⟨u, hu, e⟩ := e4 rfl
   have n4 : nrm u ≤ G * Q := Nat.le_trans (z5s hh.may hq.may hu) (Nat.mul_le_mul nh nq)
   rw [e]
   refine Nat.le_trans (zc5 _) ?_
   rw [z9l]
   omega
 ·rw [e2]
  refine Nat.le_trans (zc5 _) ?_
  rw [z9l, zso, Nat.mul_assoc]
  rw [Nat.mul_comm R G] at n2
  omega
end
end
section
open Go.RowKit
def za8 (x : PZ × PZ) (p c : PZ) (N : Nat) : PZ × PZ := ((z0e x.1 ((powN (z1m p) N).getD [])).getD [], z0m (x.2 ++ (z0e p c).getD []))
def idXs (f r : PZ) (ls cs : List PZ) (ns : List Int) : Nat → PZ × PZ
 | 0 => (f, r)
 | k + 1 => za8 (idXs f r ls cs ns k) (ls.getD k []) (cs.getD k []) (ns.getD k 0).toNat
theorem exB.init {p : PZ} {E : Int} (h : exB E p) (hE : 0 ≤ E) : exB E (z1m p) := by
 unfold z1m
 split
 ·exact h
 ·exact h.coef hE _ _
theorem zgs {x : PZ × PZ} {p c : PZ} {n : Int} {k : Nat} (hk : k ≤ 3) (fx : Fit (3 + k * 18) (6 * 216 ^ k) x.1) (ex1 : exB (4 + 12 * (k : Int)) x.1) (fy : Fit (8 + 2 * k) (6 + 36 * k) x.2) (ey : exB 8 x.2)
  (fp : Fit 3 6 p) (ep : exB 4 p) (fc : Fit 3 6 c) (ec : exB 4 c) (hn : 0 ≤ n ∧ n ≤ 3) :
  IdStep x (za8 x p c n.toNat) p c n n.toNat ((powN (z1m p) n.toNat).getD []) ((z0e p c).getD []) ∧
   Fit (3 + (k + 1) * 18) (6 * 216 ^ (k + 1)) (za8 x p c n.toNat).1 ∧ exB (4 + 12 * ((k + 1 : Nat) : Int)) (za8 x p c n.toNat).1 ∧ Fit (8 + 2 * (k + 1)) (6 + 36 * (k + 1)) (za8 x p c n.toNat).2 ∧ exB 8 (za8 x p c n.toNat).2 := by
 obtain ⟨N, hN⟩ : ∃ N, N = n.toNat := ⟨_, rfl⟩
 have hN3 : N ≤ 3 := by omega
 rw [← hN]
 obtain ⟨P, hP, cP, -, eP⟩ := zi1 (h := z1m p) (G := 4) fp.init.can (ep.init (by decide)) (by decide) N (by omega)
 have h6 : (6 : Nat) ^ N ≤ 216 := Nat.le_trans (Nat.pow_le_pow_right (by decide) hN3) (by decide)
 have fP := (z93 fp.init (by decide) N P (by omega) hP).mono (l := 16) (m := 216) (by omega) h6
 have eP' : exB 12 P := eP.le (by omega)
 have hpk : 6 * 216 ^ k * 216 ≤ 1000000000000 := by
  have : (216 : Nat) ^ k ≤ 216 ^ 3 := Nat.pow_le_pow_right (by decide) hk
  have e : (216 : Nat) ^ 3 = 10077696 := by decide
  omega
 obtain ⟨y, hy, cy, ey2, -⟩ := ex1.times eP' fx.can cP (by omega)
 obtain ⟨b, hb, cb, eb, -⟩ := ep.times ec fp.can fc.can (by decide)
 have fy1 := fx.times fP hy hpk
 have fb := fp.times fc hb (by decide)
 have hnx : za8 x p c N = (y, z0m (x.2 ++ b)) := by unfold za8; rw [hP, hb, Option.getD_some, Option.getD_some, hy, Option.getD_some]
 rw [hP, hb, Option.getD_some, Option.getD_some, hnx]
 have hm2 : z0i (x.2 ++ b) := z3l fy.can.may cb.may
 refine ⟨⟨by omega, by omega, ⟨3, 6, 3 + k * 18, 6 * 216 ^ k, 16, 216, 3, 6, 8 + 2 * k, 6 + 36 * k, 8, 36, fp, by decide, by decide, by decide, by omega, fx, fP, .inr (by decide), by omega, by decide, by omega, by decide, hpk, fc, by decide, by decide, by decide, fy, by omega, fb, by decide, by omega⟩, hP, hy, hb, rfl⟩, ?_, ?_, ?_, ?_⟩
 ·exact fy1.mono (by omega) (by rw [Nat.pow_succ]; omega)
 ·exact ey2.le (by omega)
 ·exact (fy.add (fb.mono (l := 8 + 2 * k) (by omega) (Nat.le_refl _)) (by omega)).mono (by omega) (by omega)
 ·exact (ey.append eb).norm hm2
theorem z7r {l : List PZ} {P : PZ → Prop} (h : ∀ p ∈ l, P p) {k : Nat} (hk : k < l.length) : P (l.getD k []) := by
 rw [List.getD_eq_getElem?_getD, List.getElem?_eq_getElem hk]
 exact h _ (List.getElem_mem hk)
theorem zsx {f r : PZ} {ls cs : List PZ} {ns : List Int} (ff : Fit 3 6 f) (ef : exB 4 f) (fr : Fit 3 6 r) (er : exB 4 r) (hl : ∀ p ∈ ls, Fit 3 6 p ∧ exB 4 p) (hc : ∀ p ∈ cs, Fit 3 6 p ∧ exB 4 p) (h4 : ls.length ≤ 4) (e2 : cs.length = ls.length)
  {j : Nat} (hj : j ≤ ls.length) (hg : ∀ k, k < j → 0 ≤ ns.getD k 0 ∧ ns.getD k 0 ≤ 3) : ∀ k, k ≤ j →
  Fit (3 + k * 18) (6 * 216 ^ k) (idXs f r ls cs ns k).1 ∧ exB (4 + 12 * (k : Int)) (idXs f r ls cs ns k).1 ∧ Fit (8 + 2 * k) (6 + 36 * k) (idXs f r ls cs ns k).2 ∧ exB 8 (idXs f r ls cs ns k).2 := by
 intro k
 induction k with
 | zero => intro _; exact ⟨ff, ef, fr.mono (by decide) (by decide), er.le (by decide)⟩
 | succ k ih =>
  intro hk
  obtain ⟨h1, h2, h3, h5⟩ := ih (by omega)
  have hp := z7r hl (k := k) (by omega)
  have hq := z7r hc (k := k) (by omega)
  exact (zgs (by omega) h1 h2 h3 h5 hp.1 hp.2 hq.1 hq.2 (hg k (by omega))).2
theorem zls {f r : PZ} {ls cs : List PZ} {ns : List Int} (ff : Fit 3 6 f) (ef : exB 4 f) (fr : Fit 3 6 r) (er : exB 4 r) (hl : ∀ p ∈ ls, Fit 3 6 p ∧ exB 4 p) (hc : ∀ p ∈ cs, Fit 3 6 p ∧ exB 4 p) (h4 : ls.length ≤ 4) (e2 : cs.length = ls.length)
  {j : Nat} (hj : j ≤ ls.length) (hg : ∀ k, k < j → 0 ≤ ns.getD k 0 ∧ ns.getD k 0 ≤ 3) (k : Nat) (hk : k < j) :
  IdStep (idXs f r ls cs ns k) (idXs f r ls cs ns (k + 1)) (ls.getD k []) (cs.getD k []) (ns.getD k 0) (ns.getD k 0).toNat ((powN (z1m (ls.getD k [])) (ns.getD k 0).toNat).getD []) ((z0e (ls.getD k []) (cs.getD k [])).getD []) := by
 obtain ⟨h1, h2, h3, h5⟩ := zsx ff ef fr er hl hc h4 e2 hj hg k (by omega)
 have hp := z7r hl (k := k) (by omega)
 have hq := z7r hc (k := k) (by omega)
 exact (zgs (by omega) h1 h2 h3 h5 hp.1 hp.2 hq.1 hq.2 (hg k hk)).1
end
section
structure InR (g N E : Nat) (s : MSt) (r : PZ) : Prop where
 ok : s.Ok
 fu : s.fu ≤ (N : Int)
 can : canP r
 nr : nrm r ≤ 2 ^ ((g + 1) * s.st.toNat + g)
 len : r.length ≤ 100000
 ex : exB ((E : Int) * (s.st + 1)) r
structure InQ (g E j : Nat) (s : MSt) (q : PZ) : Prop where
 hj : (j : Int) ≤ s.st
 can : canP q
 nq : nrm q ≤ j * 2 ^ ((g + 1) * s.st.toNat)
 len : q.length ≤ 100000
 ex : exB ((E : Int) * (s.st + 1)) q
structure Lim (g N E e B : Nat) : Prop where
 cut : (g + 1) * N + e < 1472
 steps : N ≤ 2 ^ e
 small : N ≤ 100
 exps : E * (N + 1) ≤ 5000
 lim : (g + 1) * N + g + e < 32 * B
 hB : B ≤ 200
 he : e ≤ 100
 hg : g ≤ 640
theorem z9m (k : Nat) : B32 ^ k = 2 ^ (32 * k) := by rw [Nat.pow_mul, show (2 : Nat) ^ 32 = B32 by decide]
theorem zc7 {a b : Nat} (h : a < b) : 2 ^ a < 2 ^ b := Nat.pow_lt_pow_right (by decide) h
theorem zi2 {a b : Nat} (h : a ≤ b) : 2 ^ a ≤ 2 ^ b := Nat.pow_le_pow_right (by decide) h
theorem zsy {p : PZ} {k n e : Nat} (hc : canP p) (h : nrm p ≤ 2 ^ e) (he : e < 32 * k) (hn : p.length ≤ n) : Fit k n p := zc6 hc (by rw [z9m]; exact Nat.lt_of_le_of_lt h (zc7 he)) hn
section
variable {g N E e B j : Nat} {s s' : MSt} {p q r : PZ}
theorem InR.st (h : InR g N E s r) : 0 ≤ s.st ∧ s.st ≤ (N : Int) := ⟨h.ok.s0, Int.le_trans h.ok.s1 h.fu⟩
theorem zx9 (_L : Lim g N E e B) (h : s.st.toNat ≤ N) : (g + 1) * s.st.toNat ≤ (g + 1) * N := Nat.mul_le_mul_left _ h
theorem InR.fit (L : Lim g N E e B) (h : InR g N E s r) : Fit B 100000 r := zc6 h.can (by
 rw [z9m]
 refine Nat.lt_of_le_of_lt h.nr (zc7 ?_)
 have h1 := h.st
 have h2 := zx9 L (s := s) (by omega)
 have h3 := L.lim
 omega) h.len
theorem InQ.two (L : Lim g N E e B) (h : InQ g E j s q) (hN : s.st ≤ (N : Int)) : nrm q ≤ 2 ^ ((g + 1) * s.st.toNat + e) := by
 rw [Nat.add_comm ((g + 1) * s.st.toNat) e, Nat.pow_add]
 refine Nat.le_trans h.nq (Nat.mul_le_mul_right _ (Nat.le_trans ?_ L.steps))
 have := h.hj
 omega
theorem InQ.fit (L : Lim g N E e B) (h : InQ g E j s q) (h0 : 0 ≤ s.st) (hN : s.st ≤ (N : Int)) : Fit B 100000 q := zc6 h.can (by
 rw [z9m]
 refine Nat.lt_of_le_of_lt (h.two L hN) (zc7 ?_)
 have h2 := zx9 L (s := s) (by omega)
 have h3 := L.lim
 omega) h.len
theorem zjk (_a : Nat) (st : Int) (h : 0 ≤ st) : (g + 1) * (st + 1).toNat = (g + 1) * st.toNat + (g + 1) := by
 rw [show (st + 1).toNat = st.toNat + 1 by omega, Nat.mul_succ]
theorem zvy {keep : Bool} {G h : PZ} {v d : Int} {x : PZ × PZ} {b : Nat} (L : Lim g N E e B) (hr : InR g N E s r) (hq : InQ g E j s q) (cg : canP G) (ch : canP h) (ng : nrm G ≤ 2 ^ g) (nh : nrm h ≤ 2 ^ g) (eg : exB (E : Int) G) (eh : exB (E : Int) h) (hv : 1 ≤ v ∧ v ≤ 200) (hd : 0 ≤ d)
  (h1 : (z15 (some b) s).1 = 0) (hs : z2o keep G h v d q r = some x) (h2 : (z0o (some b) (z15 (some b) s).2 x.2).1 = 0) (h3 : (z0o (some b) (z15 (some b) s).2 x.1).1 = 0) :
  InR g N E (z15 (some b) s).2 x.2 ∧ InQ g E (j + 1) (z15 (some b) s).2 x.1 ∧ (z15 (some b) s).2.st = s.st + 1 ∧ (z15 (some b) s).2.fu = s.fu := by
 have hlt : s.st < s.fu := by
  rcases Int.lt_or_le s.st s.fu with h | h
  ·exact h
  ·exfalso
   simp only [z15, MSt.step] at h1
   rw [if_neg (by omega)] at h1
   simp at h1
 have e1 : z15 (some b) s = (0, { s with st := s.st + 1 }) := by simp only [z15, MSt.step]; rw [if_pos hlt]
 rw [e1] at h2 h3 ⊢
 have hst := hr.st
 have hfu := hr.fu
 have ok2 : MSt.Ok { s with st := s.st + 1 } := ⟨hr.ok.f0, hr.ok.f1, hr.ok.l0, hr.ok.l1, hr.ok.t0, hr.ok.t1, hr.ok.p0, hr.ok.p1, by show 0 ≤ s.st + 1; omega, by show s.st + 1 ≤ s.fu; omega, hr.ok.c0, hr.ok.c1⟩
 have hex : (E : Int) * (s.st + 1) + E ≤ 10000 := by
  have h4 : (E : Int) * (s.st + 1) ≤ E * ((N : Int) + 1) := Int.mul_le_mul_of_nonneg_left (by omega) (by omega)
  have h5 := L.exps
  have h6 : ((E * (N + 1) : Nat) : Int) = E * ((N : Int) + 1) := by rw [Int.natCast_mul, Int.natCast_add]; rfl
  have h7 : E ≤ E * (N + 1) := Nat.le_mul_of_pos_right E (by omega)
  omega
 have hnn : 0 ≤ (E : Int) * (s.st + 1) := Int.mul_nonneg (by omega) (by omega)
 obtain ⟨x', hx', ex1, ex2⟩ := zs3 keep cg ch hq.can hr.can eg eh hq.ex hr.ex (by omega) hnn hex hv hd
 obtain rfl : x = x' := Option.some.inj (hs.symm.trans hx')
 have eex : (E : Int) * (s.st + 1) + E = E * ((s.st + 1) + 1) := by rw [Int.mul_add E (s.st + 1) 1, Int.mul_one]
 rw [eex] at ex1 ex2
 obtain ⟨c1, c2⟩ := zp0 cg ch hq.can hr.can hv hd hs
 obtain ⟨n1, n2⟩ := zsw cg ch hq.can hr.can hv hd hs ng nh hq.nq hr.nr
 have l1 := (z6u h3).2
 have l2 := (z6u h2).2
 have t1 := hr.ok.t1
 have t2 : ({ s with st := s.st + 1 } : MSt).te = s.te := rfl
 rw [t2] at l1 l2
 refine ⟨⟨ok2, hfu, c2, ?_, by omega, ex2⟩, ⟨by show ((j + 1 : Nat) : Int) ≤ s.st + 1; have := hq.hj; omega, c1, ?_, by omega, ex1⟩, rfl, rfl⟩
 ·show nrm x.2 ≤ 2 ^ ((g + 1) * (s.st + 1).toNat + g)
  rw [zjk 0 s.st hst.1]
  refine Nat.le_trans n2 (Nat.le_of_eq ?_)
  rw [Nat.mul_assoc, ← Nat.pow_add, Nat.mul_comm 2, ← Nat.pow_succ]
  congr 1
  omega
 ·show nrm x.1 ≤ (j + 1) * 2 ^ ((g + 1) * (s.st + 1).toNat)
  rw [zjk 0 s.st hst.1]
  refine Nat.le_trans n1 ?_
  have k1 : 2 ^ g * (j * 2 ^ ((g + 1) * s.st.toNat)) + 2 ^ ((g + 1) * s.st.toNat + g) = (j + 1) * 2 ^ ((g + 1) * s.st.toNat + g) := by
   rw [Nat.add_mul j 1, Nat.one_mul, Nat.pow_add 2 ((g + 1) * s.st.toNat) g, Nat.mul_left_comm, Nat.mul_comm (2 ^ g)]
  rw [k1]
  exact Nat.mul_le_mul_left _ (zi2 (by omega))
theorem zxa {keep : Bool} {G : PZ} {v : Int} {b : Nat} (L : Lim g N E e B) (cg : canP G) (ng : nrm G ≤ 2 ^ g) (eg : exB (E : Int) G) (hv : 1 ≤ v ∧ v ≤ 200) (hd : 0 ≤ degP G v) :
  ∀ (k : Nat) (s : MSt) (q r : PZ) (n : Nat), InR g N E s r → InQ g E n s q →
   z3g (some b) keep G (z18 G v) v (degP G v) B 100000 k s q r ∧ ((runD (some b) keep G (z18 G v) v (degP G v) k s q r n).e = 0 →
    InR g N E (runD (some b) keep G (z18 G v) v (degP G v) k s q r n).s (runD (some b) keep G (z18 G v) v (degP G v) k s q r n).r ∧
    InQ g E (runD (some b) keep G (z18 G v) v (degP G v) k s q r n).n (runD (some b) keep G (z18 G v) v (degP G v) k s q r n).s (runD (some b) keep G (z18 G v) v (degP G v) k s q r n).q ∧
    (runD (some b) keep G (z18 G v) v (degP G v) k s q r n).s.st + n = s.st + (runD (some b) keep G (z18 G v) v (degP G v) k s q r n).n ∧
    (runD (some b) keep G (z18 G v) v (degP G v) k s q r n).s.fu = s.fu) := by
 have ch : canP (z18 G v) := z1u cg v _
 have nh : nrm (z18 G v) ≤ 2 ^ g := Nat.le_trans (zen _ _ _) ng
 have eh : exB (E : Int) (z18 G v) := eg.coef (by omega) v _
 intro k
 induction k with
 | zero => intro s q r n hr hq; exact ⟨⟨hq.fit L hr.st.1 hr.st.2, hr.fit L⟩, fun _ => ⟨hr, hq, rfl, rfl⟩⟩
 | succ k ih =>
  intro s q r n hr hq
  have step : ∀ x, (z15 (some b) s).1 = 0 → z2o keep G (z18 G v) v (degP G v) q r = some x → (z0o (some b) (z15 (some b) s).2 x.2).1 = 0 → (z0o (some b) (z15 (some b) s).2 x.1).1 = 0 → _ := fun x h1 h2 h3 h4 => zvy (e := e) (B := B) L hr hq cg ch ng nh eg eh hv hd h1 h2 h3 h4
  refine ⟨⟨hq.fit L hr.st.1 hr.st.2, hr.fit L, fun _ _ h1 x h2 h3 h4 => ?_⟩, ?_⟩
  ·obtain ⟨i1, i2, -, -⟩ := step x h1 h2 h3 h4
   exact (ih _ _ _ (n + 1) i1 i2).1
  ·rw [runD]
   split
   ·intro _
    exact ⟨hr, hq, rfl, rfl⟩
   split
   ·intro h; rename_i h1; exact absurd h h1
   rename_i h1
   split
   ·intro h; exact absurd h (by show ¬ (8 : Int) = 0; decide)
   rename_i x hx
   split
   ·intro h; rename_i h2; exact absurd h h2
   rename_i h2
   split
   ·intro h; rename_i h3; exact absurd h h3
   rename_i h3
   intro h
   obtain ⟨i1, i2, i3, i4⟩ := step x (Decidable.not_not.1 h1) hx (Decidable.not_not.1 h2) (Decidable.not_not.1 h3)
   obtain ⟨a1, a2, a3, a4⟩ := (ih _ _ _ (n + 1) i1 i2).2 h
   exact ⟨a1, a2, by omega, a4.trans i4⟩
theorem zxb {w : Bool} {G : PZ} {v : Int} {b : Nat} (L : Lim g N E e B) (cg : canP G) (ng : nrm G ≤ 2 ^ g) (eg : exB (E : Int) G) (hv : 1 ≤ v ∧ v ≤ 200) (hd : 0 ≤ degP G v) (hr : InR g N E s r) :
  z3g (some b) w G (z18 G v) v (degP G v) B 100000 ((degP r v).toNat + 1) s [] r ∧ ((divD (some b) w s r G v).e = 0 → InR g N E (divD (some b) w s r G v).s (divD (some b) w s r G v).r ∧ InQ g E (divD (some b) w s r G v).n (divD (some b) w s r G v).s (divD (some b) w s r G v).q ∧ (divD (some b) w s r G v).s.st = s.st + (divD (some b) w s r G v).n ∧ (divD (some b) w s r G v).s.fu = s.fu) := by
 have h0 : InQ g E 0 s [] := ⟨hr.ok.s0, z2f, Nat.zero_le _, by simp, zhz _⟩
 obtain ⟨h1, h2⟩ := zxa (keep := w) (b := b) L cg ng eg hv hd ((degP r v).toNat + 1) s [] r 0 hr h0
 refine ⟨h1, fun he => ?_⟩
 obtain ⟨a1, a2, a3, a4⟩ := h2 he
 refine ⟨a1, a2, ?_, a4⟩
 have a5 : (divD (some b) w s r G v).s.st + ((0 : Nat) : Int) = s.st + (divD (some b) w s r G v).n := a3
 omega
structure InC (g E e : Nat) (st : Int) (c : PZ) : Prop where
 can : canP c
 nc : nrm c ≤ 2 ^ ((g + 1) * st.toNat + e)
 len : c.length ≤ 100000
 ex : exB ((E : Int) * (st + 1)) c
theorem InC.later {st st' : Int} {c : PZ} (h : InC g E e st c) (h1 : st ≤ st') : InC g E e st' c :=
 ⟨h.can, Nat.le_trans h.nc (zi2 (by have := Nat.mul_le_mul_left (g + 1) (show st.toNat ≤ st'.toNat by omega); omega)), h.len, h.ex.le (Int.mul_le_mul_of_nonneg_left (by omega) (by omega))⟩
theorem zvz (st : Int) : InC g E e st [] := ⟨z2f, Nat.zero_le _, by simp, zhz _⟩
theorem InQ.c (L : Lim g N E e B) (h : InQ g E j s q) (hN : s.st ≤ (N : Int)) : InC g E e s.st q := ⟨h.can, h.two L hN, h.len, h.ex⟩
structure InP (g E n : Nat) (P : PZ) : Prop where
 can : canP P
 nP : nrm P ≤ 2 ^ (g * n)
 len : P.length ≤ 100000
 ex : exB ((E : Int) * n) P
theorem zsz {c P : PZ} {n : Nat} {st : Int} (L : Lim g N E e B) (hc : InC g E e st c) (hP : InP g E n P) (h0 : 0 ≤ st) (hN : st + n ≤ (N : Int)) :
  CofStep c P ∧ (((z0e c P).getD []).length ≤ 100000 → InC g E e (st + n) ((z0e c P).getD [])) := by
 have h1 : (g + 1) * st.toNat + g * n + n = (g + 1) * (st + n).toNat := by
  rw [show (st + n).toNat = st.toNat + n by omega, Nat.mul_add, Nat.add_mul g 1 n, Nat.one_mul]
  omega
 have h2 : (g + 1) * (st + n).toNat ≤ (g + 1) * N := Nat.mul_le_mul_left _ (by omega)
 have h3 := L.cut
 have hex : (E : Int) * (st + 1) + E * n = E * ((st + n) + 1) := by rw [← Int.mul_add]; congr 1; omega
 have hex2 : (E : Int) * ((st + n) + 1) ≤ 10000 := by
  have h4 : (E : Int) * ((st + n) + 1) ≤ E * ((N : Int) + 1) := Int.mul_le_mul_of_nonneg_left (by omega) (by omega)
  have h5 := L.exps
  have h6 : ((E * (N + 1) : Nat) : Int) = E * ((N : Int) + 1) := by rw [Int.natCast_mul, Int.natCast_add]; rfl
  omega
 obtain ⟨c', hc', cc, ec, -, -⟩ := hc.ex.times hP.ex hc.can hP.can (by rw [hex]; exact hex2)
 rw [hex] at ec
 have f1 : Fit (((g + 1) * st.toNat + e) / 32 + 1) 100000 c := zc6 hc.can (by rw [z9m]; exact Nat.lt_of_le_of_lt hc.nc (zc7 (by omega))) hc.len
 have f2 : Fit ((g * n) / 32 + 1) 100000 P := zc6 hP.can (by rw [z9m]; exact Nat.lt_of_le_of_lt hP.nP (zc7 (by omega))) hP.len
 have hn := z5s hc.can.may hP.can.may hc'
 rw [hc', Option.getD_some]
 refine ⟨⟨⟨_, _, _, _, f1, f2, by omega, by omega, by omega, by decide, by decide, by decide⟩, by rw [hc', Option.getD_some]⟩, fun hl => ⟨cc, ?_, hl, ec⟩⟩
 refine Nat.le_trans hn (Nat.le_trans (Nat.mul_le_mul hc.nc hP.nP) ?_)
 rw [← Nat.pow_add]
 exact zi2 (by omega)
theorem zpp {P : PZ} {n m b : Nat} {st : Int} (L : Lim g N E e B) (hP : InP g E n P) (h0 : 0 ≤ st) (hN : st + n ≤ (N : Int)) :
  ∀ (t : Nat) (s : MSt) (cs : List PZ), t ≤ m → cs.length = m → s.Ok → (∀ i, i < m - t → InC g E e (st + n) (cs.getD i [])) → (∀ i, m - t ≤ i → i < m → InC g E e st (cs.getD i [])) →
   z6x (some b) P m t s cs ∧ ((cofD (some b) P m t s cs).1 = 0 → (cofD (some b) P m t s cs).2.1 = s ∧ ∀ i, i < m → InC g E e (st + n) ((cofD (some b) P m t s cs).2.2.getD i [])) := by
 intro t
 induction t with
 | zero =>
  intro s cs _ _ _ h1 _
  exact ⟨trivial, fun _ => ⟨rfl, fun i hi => h1 i (by omega)⟩⟩
 | succ t ih =>
  intro s cs ht hl ok h1 h2
  obtain ⟨i, hi⟩ : ∃ i, i = m - (t + 1) := ⟨_, rfl⟩
  rw [z6x, cofD, ← hi]
  have hc := h2 i (by omega) (by omega)
  obtain ⟨c1, c2⟩ := zsz L hc hP h0 hN
  generalize (z0e (cs.getD i []) P).getD [] = c at c2 ⊢
  have hrec : (z0o (some b) s c).1 = 0 → z6x (some b) P m t (z0o (some b) s c).2 (cs.set i c) ∧ ((cofD (some b) P m t (z0o (some b) s c).2 (cs.set i c)).1 = 0 → (cofD (some b) P m t (z0o (some b) s c).2 (cs.set i c)).2.1 = (z0o (some b) s c).2 ∧ ∀ k, k < m → InC g E e (st + n) ((cofD (some b) P m t (z0o (some b) s c).2 (cs.set i c)).2.2.getD k [])) := fun hk => by
   have hb := (z6u hk).2
   have t1 := ok.t1
   have hcc := c2 (by omega)
   rw [z4f hk]
   have gs : ∀ k, (cs.set i c).getD k [] = if i = k then (if k < m then c else []) else cs.getD k [] := fun k => by
    simp only [List.getD_eq_getElem?_getD, List.getElem?_set, hl]
    split
    ·rename_i e; subst e; split <;> rfl
    ·rfl
   refine ih s (cs.set i c) (by omega) (by rw [List.length_set]; exact hl) ok (fun k hk1 => ?_) (fun k hk1 hk2 => ?_)
   ·rw [gs]
    split
    ·rw [if_pos (by omega)]; exact hcc
    ·exact h1 k (by omega)
   ·rw [gs, if_neg (by omega)]
    exact h2 k (by omega) hk2
  refine ⟨⟨c1, fun hk => (hrec hk).1⟩, ?_⟩
  split
  ·intro h; rename_i h3; exact absurd h h3
  ·rename_i h3
   intro h
   have hk := Decidable.not_not.1 h3
   have h4 := (hrec hk).2 h
   rw [z4f hk] at h4 ⊢
   exact h4
structure ChP (g E A T : Nat) (p : PZ) : Prop where
 fit : Fit A T p
 np : nrm p ≤ 2 ^ g
 ex : exB (E : Int) p
 lead : 0 < z0r p
theorem ChP.range {A T : Nat} (h : ChP g E A T p) : 1 ≤ z0r p ∧ z0r p ≤ 200 := ⟨h.lead, (z3i h.fit.can).2⟩
theorem z94 {cs : List PZ} {i : Nat} {c : PZ} (hi : i < cs.length) (k : Nat) : (cs.set i c).getD k [] = if k = i then c else cs.getD k [] := by
 simp only [List.getD_eq_getElem?_getD, List.getElem?_set]
 by_cases e : i = k
 ·subst e
  rw [if_pos rfl, if_pos rfl, if_pos hi]
  rfl
 ·rw [if_neg e, if_neg (fun h => e h.symm)]
theorem ztw {A T n : Nat} (L : Lim g N E e B) (h : ChP g E A T p) (hn : n ≤ N) : ∃ P, powN (z1m p) n = some P ∧ canP P ∧ nrm P ≤ 2 ^ (g * n) ∧ exB ((E : Int) * n) P := by
 have ei : exB (E : Int) (z1m p) := by
  unfold z1m
  split
  ·exact h.ex
  ·exact h.ex.coef (by omega) _ _
 have hEn : (n : Int) * E ≤ 10000 := by
  have h1 : E * n ≤ E * (N + 1) := Nat.mul_le_mul_left _ (by omega)
  have h2 := L.exps
  have h3 : ((E * n : Nat) : Int) = (n : Int) * E := by rw [Int.natCast_mul, Int.mul_comm]
  omega
 obtain ⟨P, hP, cP, -, eP⟩ := zi1 h.fit.init.can ei (by omega) n hEn
 rw [Int.mul_comm] at eP
 refine ⟨P, hP, cP, ?_, eP⟩
 rw [Nat.pow_mul]
 exact zsu h.fit.init.can (Nat.le_trans (zss p) h.np) n P hP
theorem zw0 {w : Bool} {ls : List PZ} {A T b : Nat} (L : Lim g N E e B) (hls : ∀ p ∈ ls, ChP g E A T p) (hA : A < 24) (hT : 1 ≤ T) (hT2 : T ≤ 1000000) (hTN : T ^ N ≤ 1000000000000) :
  ∀ (k : Nat) (s : MSt) (r : PZ) (ns : List Int) (cs : List PZ), k ≤ ls.length → cs.length = ls.length → InR g N E s r → (∀ i, i < ls.length → InC g E e s.st (cs.getD i [])) →
   z22 (some b) w ls k s r cs ∧ ((z24 (some b) w ls k s r ns cs).1 = 0 → InR g N E (z24 (some b) w ls k s r ns cs).2.1 (z24 (some b) w ls k s r ns cs).2.2.1 ∧ ∀ i, i < ls.length → InC g E e (z24 (some b) w ls k s r ns cs).2.1.st ((z24 (some b) w ls k s r ns cs).2.2.2.2.getD i [])) := by
 intro k
 induction k with
 | zero => intro s r ns cs _ _ hr hc; exact ⟨trivial, fun _ => ⟨hr, hc⟩⟩
 | succ k ih =>
  intro s r ns cs hk hl hr hc
  have hp := z7r hls (k := k) (by omega)
  rw [z22, z24]
  obtain ⟨p, hpe⟩ : ∃ p, p = ls.getD k [] := ⟨_, rfl⟩
  rw [← hpe] at hp ⊢
  have hpos := zfq hp.fit.can hp.lead
  obtain ⟨d1, d2⟩ := zxb (w := w) (b := b) L hp.fit.can hp.np hp.ex hp.range (by omega) hr
  have hB := L.hB
  have RS : RedStep (some b) w p r s := ⟨⟨A, T, B, 100000, hp.fit, hA, by omega, hT, hT2, by omega, d1⟩, hp.range, by omega⟩
  have hDK : divK (some b) w ls k s r = divD (some b) w s r p (z0r p) := by rw [hpe]
  rw [hDK]
  generalize divD (some b) w s r p (z0r p) = D at d2 ⊢
  -- the round
  have hround : (z1b (some b) w p ls.length k D cs).1 = 0 → D.e = 0 ∧ (z1b (some b) w p ls.length k D cs).2.2.length = ls.length ∧ InR g N E (z1b (some b) w p ls.length k D cs).2.1 D.r ∧ ∀ i, i < ls.length → InC g E e (z1b (some b) w p ls.length k D cs).2.1.st ((z1b (some b) w p ls.length k D cs).2.2.getD i []) := by
   intro h0
   have hlen := zdk h0
   rw [hl] at hlen
   refine ⟨?_, hlen, ?_⟩
   ·unfold z1b at h0
    by_cases he : D.e ≠ 0
    ·rw [if_pos he] at h0; exact h0
    ·exact Decidable.not_not.1 he
   unfold z1b at h0 ⊢
   by_cases he : D.e ≠ 0
   ·rw [if_pos he] at h0; exact absurd h0 he
   rw [if_neg he] at h0 ⊢
   obtain ⟨i1, i2, i3, i4⟩ := d2 (Decidable.not_not.1 he)
   have hst := i1.st
   have hq := i2.c L hst.2
   by_cases hn : D.n = 0 ∨ w = false
   ·rw [if_pos hn]
    refine ⟨i1, fun i hi => ?_⟩
    rw [z94 (by omega)]
    split
    ·exact hq
    ·exact (hc i hi).later (by show s.st ≤ D.s.st; omega)
   rw [if_neg hn] at h0 ⊢
   obtain ⟨P, hP, cP, nP, eP⟩ := ztw (n := D.n) L hp (by have := hr.ok.s0; omega)
   rw [hP, Option.getD_some] at h0 ⊢
   by_cases hm : (z0o (some b) D.s P).1 ≠ 0
   ·rw [if_pos hm] at h0; exact absurd h0 hm
   rw [if_neg hm] at h0 ⊢
   have hm0 := Decidable.not_not.1 hm
   have lP := (z6u hm0).2
   have t1 := i1.ok.t1
   rw [z4f hm0] at h0 ⊢
   obtain ⟨-, c2⟩ := zpp (b := b) (m := ls.length) (P := P) (n := D.n) (st := s.st) L ⟨cP, nP, by omega, eP⟩ hr.ok.s0 (by omega) (ls.length - (k + 1)) D.s (cs.set k D.q) (by omega) (by rw [List.length_set]; exact hl) i1.ok (fun i hi => by
    rw [z94 (by omega)]
    split
    ·exact hq.later (by omega)
    ·exact (hc i (by omega)).later (by omega)) (fun i hi1 hi2 => by
    rw [z94 (by omega), if_neg (by omega)]
    exact hc i hi2)
   obtain ⟨c3, c4⟩ := c2 h0
   rw [c3]
   exact ⟨i1, fun i hi => (c4 i hi).later (by omega)⟩
  have hRF : D.e = 0 → D.n ≠ 0 → w = true → RoundFit (some b) p ls.length k D cs := fun he hn hw => by
   obtain ⟨i1, i2, i3, i4⟩ := d2 he
   have hst := i1.st
   have hq := i2.c L hst.2
   have hnN : D.n ≤ N := by have := hr.ok.s0; omega
   obtain ⟨P, hP, cP, nP, eP⟩ := ztw (n := D.n) L hp hnN
   refine ⟨by have := L.small; omega, by rw [hP]; rfl, ⟨A, T, hp.fit, hA, hT, by omega, Nat.le_trans (Nat.pow_le_pow_right hT hnN) hTN⟩, ?_⟩
   rw [hP, Option.getD_some]
   intro hm0
   have lP := (z6u hm0).2
   have t1 := i1.ok.t1
   rw [z4f hm0]
   exact (zpp (b := b) (m := ls.length) (P := P) (n := D.n) (st := s.st) L ⟨cP, nP, by omega, eP⟩ hr.ok.s0 (by omega) (ls.length - (k + 1)) D.s (cs.set k D.q) (by omega) (by rw [List.length_set]; exact hl) i1.ok (fun i hi => by
    rw [z94 (by omega)]
    split
    ·exact hq.later (by omega)
    ·exact (hc i (by omega)).later (by omega)) (fun i hi1 hi2 => by
    rw [z94 (by omega), if_neg (by omega)]
    exact hc i hi2)).1
  refine ⟨⟨RS, hRF, fun h0 => ?_⟩, ?_⟩
  ·obtain ⟨-, a2, a3, a4⟩ := hround h0
   exact (ih _ _ (ns.set k (D.n : Int)) _ (by omega) a2 a3 a4).1
  ·split
   ·intro h; rename_i h1; exact absurd h h1
   ·rename_i h1
    intro h
    obtain ⟨-, a2, a3, a4⟩ := hround (Decidable.not_not.1 h1)
    exact (ih _ _ _ _ (by omega) a2 a3 a4).2 h
end
end
section
open Go.RowKit
theorem zxc {o r : Option Nat} (h : o = none ↔ r = none) (keep : Bool) (s : MSt) (f g : PZ) (v : Int) : divD o keep s f g v = divD r keep s f g v := by
 have e1 : ∀ s, z15 o s = z15 r s := fun s => by
  cases o with
  | none => rw [h.1 rfl]
  | some a => cases r with
   | none => exact absurd (h.2 rfl) (by simp)
   | some b => rfl
 have e2 : ∀ s p, z0o o s p = z0o r s p := fun s p => by
  cases o with
  | none => rw [h.1 rfl]
  | some a => cases r with
   | none => exact absurd (h.2 rfl) (by simp)
   | some b => rfl
 have e3 : ∀ s, mexp o s = mexp r s := fun s => by
  cases o with
  | none => rw [h.1 rfl]
  | some a => cases r with
   | none => exact absurd (h.2 rfl) (by simp)
   | some b => rfl
 have key : ∀ (k : Nat) (s : MSt) (q z : PZ) (n : Nat), runD o keep g (z18 g v) v (degP g v) k s q z n = runD r keep g (z18 g v) v (degP g v) k s q z n := by
  intro k
  induction k with
  | zero => intros; rfl
  | succ k ih =>
   intro s q z n
   rw [runD, runD]
   simp only [e1, e2, e3, ih]
 exact key _ _ _ _ _
section
variable {w W W' : World} {o r : Option Nat} {s : MSt} {v : Value} {p : PZ} {N n0 n4 : Nat}
end
section
variable {w W : World} {o : Option Nat} {s : MSt} {vf vg : Value} {F G : PZ} {x : Int} {n4 : Nat}
end
end
section
open Go.RowKit
theorem z41 {l : List PZ} {k : Nat} (hk : k < l.length) : l[k]? = some (l.getD k []) := by
 rw [List.getD_eq_getElem?_getD, List.getElem?_eq_getElem hk]
 rfl
end
section
open Go.RowKit
def mayZ (c : Int) : List PZ → Bool
 | [] => true
 | p :: l => if c < z0r p then mayZ (z0r p) l else false
theorem zxd {l : List PZ} (h : ∀ p ∈ l, canP p) : ∀ c, mayC c (l.map ofP) = mayZ c l := by
 induction l with
 | nil => intro c; rfl
 | cons p l ih =>
  intro c
  have hp := h p (List.mem_cons_self ..)
  show (if mayT (ofP p) && decide (c < z0r (z0n (ofP p))) then mayC (z0r (z0n (ofP p))) (l.map ofP) else false) = _
  rw [zag hp, zd9 hp, ih (fun q hq => h q (List.mem_cons_of_mem _ hq)), mayZ, Bool.true_and]
  by_cases g : c < z0r p
  ·rw [decide_eq_true g, if_pos rfl, if_pos g]
  ·rw [decide_eq_false g, if_neg (by decide), if_neg g]
def zeo (l : List PZ) : Nat → Int
 | 0 => 0
 | k + 1 => z0r (l.getD k [])
theorem zpq {l : List PZ} {k : Nat} (hk : k < l.length) : mayZ (zeo l k) (l.drop k) = if zeo l k < z0r (l.getD k []) then mayZ (zeo l (k + 1)) (l.drop (k + 1)) else false := by
 rw [z5t (z41 hk)]
 rfl
theorem zgt {W : World} {vl : Value} {l : List PZ} (hl : RPs (Old W) W vl l) (hc : ∀ p ∈ l, canP p) :
  Calls Tryz.prog 20 #[vl] W fun e W' => e = .returned (.bool (mayZ 0 l)) ∧ Ext W W' := by
 have H := hid hl
 have HC := hid hc
 have hll := hl.len_le
 obtain ⟨al, cl, rfl⟩ := hl.form
 obtain ⟨m, hm⟩ : ∃ m, m = l.length := ⟨_, rfl⟩
 rw [← hm] at H hll ⊢
 have HM := hid hm
 clear hl hc hm
 go_enter Tryz.func20, Tryz.ntmps20
 go_wp2
 go_loopw [3] (fun i wr => ∃ k : Nat, k ≤ m ∧ i = .int .i64 k ∧ Ext W wr ∧ Hid (mayZ (zeo l k) (l.drop k) = mayZ 0 l) ∧ Hid (0 < k → 1 ≤ zeo l k)) (fun i _ => m - (intOf i).toNat)
 case atStart => exact ⟨0, Nat.zero_le _, rfl, Ext.refl _, hid rfl, hid (fun h => absurd h (by decide))⟩
 case round =>
  obtain ⟨k, hk, rfl, hx, HA, HP⟩ := hrel
  have HX := hid hx
  by_cases hlt : k < m
  ·obtain ⟨bl, ol, vp, rfl, -, hn1, hm1, hSb, h1, h2⟩ := (RPs.on H.out hx).cellAt (z41 (k := k) (l := l) (by rw [← HM.out]; exact hlt))
   have HCP := hid (HC.out _ (List.mem_of_getElem? (z41 (k := k) (l := l) (by rw [← HM.out]; exact hlt))))
   have HST := hid (zpq (l := l) (k := k) (by rw [← HM.out]; exact hlt))
   have C1 := fun (Y : World) (hY : Ext wr Y) => z64 vp _ Y (RTs.on h2 hY) HCP.out.may
   rw [z8h HCP.out] at C1
   have hlr := z3i HCP.out
   have HLE : Hid (z0r (l.getD k []) = zeo l (k + 1)) := hid rfl
   obtain ⟨x, hxx⟩ : ∃ x, x = z0r (l.getD k []) := ⟨_, rfl⟩
   rw [← hxx] at C1 hlr
   have HXX := hid hxx
   obtain ⟨av, cv, rfl⟩ := h2.form
   obtain ⟨nv, hnv⟩ : ∃ n, n = (l.getD k []).length := ⟨_, rfl⟩
   rw [← hnv] at C1 h1
   have HC1 := hid C1
   obtain ⟨x1, x2⟩ := hlr
   clear hxx hnv C1 h2
   cases k with
   | zero =>
    rw [Nat.add_zero] at h1
    have L1 := fun Y : Later wr => Y.h.cell h1
    have hol : ol + 0 = ol := Nat.add_zero _
    have q2 : decide ((0 : Int) < ((0 : Nat) : Int)) = false := by decide
    have q3 : decide ((0 : Int) < 0) = false := by decide
    by_cases h0 : x = 0
    ·have q1 : (x == 0) = true := by rw [beq_iff_eq]; exact h0
     have HF : Hid (mayZ 0 l = false) := hid (by rw [← HA.out, HST.out, if_neg (by rw [← HXX.out]; show ¬ (0 : Int) < x; omega)])
     clear hx h0
     go_wp2
     refine z03 (by kernel_rfl) (by kernel_rfl) ?_
     repeat (go_big_quiet_step (first | (go_at_call 54; with_reducible exact Later.done (HC1.out _ (Later.h _)))))
     refine wpQuiet_nil ?_
     intro W2 hW2
     have HX2 := hid (HX.out.trans hW2)
     clear hW2 L1
     go_wp2
     all_goals
      go_ret
      exact ⟨by rw [HF.out]; rfl, HX2.out⟩
    ·have q1 : (x == 0) = false := by rw [beq_eq_false_iff_ne]; exact h0
     have HF : Hid (mayZ (zeo l 1) (l.drop 1) = mayZ 0 l) := hid (by rw [← HA.out, HST.out, if_pos (by rw [← HXX.out]; show (0 : Int) < x; omega)])
     have hx0 : 1 ≤ x := by omega
     clear hx h0
     go_wp2
     refine z03 (by kernel_rfl) (by kernel_rfl) ?_
     repeat (go_big_quiet_step (first | (go_at_call 54; with_reducible exact Later.done (HC1.out _ (Later.h _)))))
     refine wpQuiet_nil ?_
     intro W2 hW2
     have HX2 := hid (HX.out.trans hW2)
     clear hW2 L1
     go_wp2
     go_roundw
     case rel => exact ⟨1, by omega, by go_num, HX2.out, HF, hid (fun _ => by rw [← HLE.out, ← HXX.out]; exact hx0)⟩
     case measure => simp only [intOf]; omega
   | succ q =>
    obtain ⟨b2, o2, vq, he, -, hn3, hm3, hSb2, g1, g2⟩ := (RPs.on H.out hx).cellAt (z41 (k := q) (l := l) (by rw [← HM.out]; omega))
    obtain ⟨rfl, rfl⟩ : bl = b2 ∧ ol = o2 := by simpa using he
    have HCQ := hid (HC.out _ (List.mem_of_getElem? (z41 (k := q) (l := l) (by rw [← HM.out]; omega))))
    have C2 := fun (Y : World) (hY : Ext wr Y) => z64 vq _ Y (RTs.on g2 hY) HCQ.out.may
    rw [z8h HCQ.out] at C2
    have hlq := z3i HCQ.out
    have hpq : 1 ≤ z0r (l.getD q []) := HP.out (by omega)
    have HPY : Hid (zeo l (q + 1) = z0r (l.getD q [])) := hid rfl
    obtain ⟨y, hyy⟩ : ∃ y, y = z0r (l.getD q []) := ⟨_, rfl⟩
    rw [← hyy] at C2 hlq hpq HPY
    obtain ⟨aw, cw, rfl⟩ := g2.form
    obtain ⟨nw, hnw⟩ : ∃ n, n = (l.getD q []).length := ⟨_, rfl⟩
    rw [← hnw] at C2 g1
    have HC2 := hid C2
    obtain ⟨y1, y2⟩ := hlq
    have L1 := fun Y : Later wr => Y.h.cell h1
    have L2 := fun Y : Later wr => Y.h.cell g1
    have hq1 : ((q + 1 : Nat) : Int) - 1 = (q : Int) := by omega
    have q2 : decide ((0 : Int) < ((q + 1 : Nat) : Int)) = true := decide_eq_true (by omega)
    have q2' : decide ((0 : Int) < (q : Int) + 1) = true := decide_eq_true (by omega)
    clear hyy hnw C2 g2 he
    by_cases h0 : x = 0
    ·have q1 : (x == 0) = true := by rw [beq_iff_eq]; exact h0
     have HF : Hid (mayZ 0 l = false) := hid (by rw [← HA.out, HST.out, if_neg (by rw [← HXX.out, HPY.out]; omega)])
     clear h0
     clear hx
     go_wp2
     refine z03 (by kernel_rfl) (by kernel_rfl) ?_
     repeat (go_big_quiet_step (first | (go_at_call 54; with_reducible exact Later.done (HC1.out _ (Later.h _))) | (go_at_call 54; with_reducible exact Later.done (HC2.out _ (Later.h _)))))
     refine wpQuiet_nil ?_
     intro W2 hW2
     have HX2 := hid (HX.out.trans hW2)
     clear hW2 L1 L2
     go_wp2
     all_goals
      go_ret
      exact ⟨by rw [HF.out]; rfl, HX2.out⟩
    ·have q1 : (x == 0) = false := by rw [beq_eq_false_iff_ne]; exact h0
     by_cases hxy : y < x
     ·have q3 : decide (x ≤ y) = false := decide_eq_false (by omega)
      have HF : Hid (mayZ (zeo l (q + 1 + 1)) (l.drop (q + 1 + 1)) = mayZ 0 l) := hid (by rw [← HA.out, HST.out, if_pos (by rw [← HXX.out, HPY.out]; exact hxy)])
      have hx0 : 1 ≤ x := by omega
      clear h0 hxy
      clear hx
      go_wp2
      refine z03 (by kernel_rfl) (by kernel_rfl) ?_
      repeat (go_big_quiet_step (first | (go_at_call 54; with_reducible exact Later.done (HC1.out _ (Later.h _))) | (go_at_call 54; with_reducible exact Later.done (HC2.out _ (Later.h _)))))
      refine wpQuiet_nil ?_
      intro W2 hW2
      have HX2 := hid (HX.out.trans hW2)
      clear hW2 L1 L2
      go_wp2
      go_roundw
      case rel => exact ⟨q + 1 + 1, by omega, by go_num, HX2.out, HF, hid (fun _ => by rw [← HLE.out, ← HXX.out]; exact hx0)⟩
      case measure => simp only [intOf]; omega
     ·have q3 : decide (x ≤ y) = true := decide_eq_true (by omega)
      have HF : Hid (mayZ 0 l = false) := hid (by rw [← HA.out, HST.out, if_neg (by rw [← HXX.out, HPY.out]; exact hxy)])
      clear h0 hxy
      clear hx
      go_wp2
      refine z03 (by kernel_rfl) (by kernel_rfl) ?_
      repeat (go_big_quiet_step (first | (go_at_call 54; with_reducible exact Later.done (HC1.out _ (Later.h _))) | (go_at_call 54; with_reducible exact Later.done (HC2.out _ (Later.h _)))))
      refine wpQuiet_nil ?_
      intro W2 hW2
      have HX2 := hid (HX.out.trans hW2)
      clear hW2 L1 L2
      go_wp2
      all_goals
       go_ret
       exact ⟨by rw [HF.out]; rfl, HX2.out⟩
  ·obtain rfl : k = m := by omega
   have HE : Hid (mayZ 0 l = true) := hid (by rw [← HA.out, HM.out, List.drop_length]; rfl)
   clear hx
   go_wp2
   all_goals
    go_ret
    exact ⟨by rw [HE.out]; rfl, HX.out⟩
end
section
section
variable {o r : Option Nat}
theorem zpr (h : o = none ↔ r = none) (s : MSt) (p : PZ) : z0o o s p = z0o r s p := by
 cases o with
 | none => rw [h.1 rfl]
 | some a =>
  cases r with
  | none => exact absurd (h.2 rfl) (by simp)
  | some b => rfl
theorem zxe (h : o = none ↔ r = none) (P : PZ) (m : Nat) : ∀ (q : Nat) (s : MSt) (cs : List PZ), cofD o P m q s cs = cofD r P m q s cs := by
 intro q
 induction q with
 | zero => intros; rfl
 | succ q ih =>
  intro s cs
  rw [cofD, cofD, zpr h, ih]
theorem zt0 (h : o = none ↔ r = none) (w : Bool) (p : PZ) (m k : Nat) (D : DRes) (cs : List PZ) : z1b o w p m k D cs = z1b r w p m k D cs := by
 unfold z1b
 rw [zpr h, zxe h]
theorem zps (h : o = none ↔ r = none) (w : Bool) (ls : List PZ) : ∀ (k : Nat) (s : MSt) (f : PZ) (ns : List Int) (cs : List PZ), z24 o w ls k s f ns cs = z24 r w ls k s f ns cs := by
 intro k
 induction k with
 | zero => intros; rfl
 | succ k ih =>
  intro s f ns cs
  have e : divK o w ls k s f = divK r w ls k s f := zxc h _ _ _ _ _
  rw [z24, z24, e, zt0 h, ih]
end
theorem zt1 {l : List PZ} : ∀ {c : Int}, 0 ≤ c → mayZ c l = true → ∀ p ∈ l, 0 < z0r p := by
 induction l with
 | nil => intro c _ _ p hp; simp at hp
 | cons q r ih =>
  intro c hc h p hp
  rw [mayZ] at h
  split at h
  ·rename_i h1
   rcases List.mem_cons.1 hp with rfl | hp
   ·omega
   ·exact ih (by omega) h p hp
  ·cases h
theorem zxf : Lim 99 12 4 4 50 := ⟨by decide, by decide, by decide, by decide, by decide, by decide, by decide, by decide⟩
theorem zxg {p : PZ} (h : Fit 3 6 p) : nrm p ≤ 2 ^ 99 := by
 have h1 := zvx h
 rw [z9m] at h1
 exact Nat.le_trans h1 (by decide)
theorem in16 {fu b c d : Int} {F : PZ} (hm : z4q fu b c d) (hfu : fu ≤ 12) (fF : Fit 3 6 F) (eF : exB 4 F) : InR 99 12 4 (MSt.new fu b c d) F :=
 ⟨zph hm, by show fu ≤ ((12 : Nat) : Int); exact hfu, fF.can, zxg fF, Nat.le_trans fF.2.2 (by decide), eF⟩
theorem zxh {fu b c d : Int} {F : PZ} {ls : List PZ} {k : Nat} (w : Bool) (hm : z4q fu b c d) (hfu : fu ≤ 12) (fF : Fit 3 6 F) (eF : exB 4 F) (hls : ∀ p ∈ ls, Fit 3 6 p ∧ exB 4 p) (hz : mayZ 0 ls = true) :
  z22 (some k) w ls ls.length (MSt.new fu b c d) F (List.replicate ls.length []) ∧ ((z24 (some k) w ls ls.length (MSt.new fu b c d) F (List.replicate ls.length 0) (List.replicate ls.length [])).1 = 0 →
   Fit 50 100000 (z24 (some k) w ls ls.length (MSt.new fu b c d) F (List.replicate ls.length 0) (List.replicate ls.length [])).2.2.1 ∧
   ∀ i, i < ls.length → Fit 50 100000 ((z24 (some k) w ls ls.length (MSt.new fu b c d) F (List.replicate ls.length 0) (List.replicate ls.length [])).2.2.2.2.getD i [])) := by
 have hch : ∀ p ∈ ls, ChP 99 4 3 6 p := fun p hp => ⟨(hls p hp).1, zxg (hls p hp).1, (hls p hp).2, zt1 (Int.le_refl _) hz p hp⟩
 obtain ⟨h1, h2⟩ := zw0 (w := w) (b := k) zxf hch (by decide) (by decide) (by decide) (by decide) ls.length (MSt.new fu b c d) F (List.replicate ls.length 0) (List.replicate ls.length []) (Nat.le_refl _) (by simp) (in16 hm hfu fF eF) (fun i hi => by
  rw [List.getD_eq_getElem?_getD, List.getElem?_replicate]
  split <;> exact zvz _)
 refine ⟨h1, fun h0 => ?_⟩
 obtain ⟨i1, i2⟩ := h2 h0
 refine ⟨i1.fit zxf, fun i hi => ?_⟩
 have hc := i2 i hi
 have hst := i1.st
 refine zsy hc.can hc.nc ?_ hc.len
 have h3 : (99 + 1) * (z24 (some k) w ls ls.length (MSt.new fu b c d) F (List.replicate ls.length 0) (List.replicate ls.length [])).2.1.st.toNat ≤ (99 + 1) * 12 := Nat.mul_le_mul_left _ (by omega)
 omega
end
section
open Go.RowKit
theorem z6y {W : World} {vm vf vl : Value} {fs : List RTerm} {ls : List (List RTerm)} (hvm : ∃ a, vm = .pointer a) (hf : z05 (Old W) W vf fs) (hl : z16 (Old W) W vl ls)
  (sf : z48 fs) (sl : z55 ls) (hno : (mayT fs && mayC 0 ls) = false) :
  Calls Tryz.prog 15 #[vm, vf, vl] W fun e W' => e = .returned (.tuple #[.slice none 0 0, .slice none 0 0, .int .i64 2]) ∧ Ext W W' := by
 have hnot : ∀ (x : Bool) (w : World), (Op.unary .not (.bool x)).run Tryz.prog w = .ok (.bool (!x)) w := fun _ _ => rfl
 have C1 := z54 (S := Old W) vf fs W hf (fun _ h => h) sf
 have C2 := fun (Y : World) (hY : Ext W Y) => z40 (S := Old W) vl ls Y (hl.ext hY (fun _ h => h)) (fun k h => Nat.lt_of_lt_of_le h hY.size) sl
 generalize mayT fs = b1 at C1 hno
 generalize mayC 0 ls = b2 at C2 hno
 obtain ⟨pa, rfl⟩ := hvm
 obtain ⟨af, cf, rfl⟩ := hf.form
 obtain ⟨al, cl, rfl⟩ := hl.form
 generalize fs.length = nf at *
 generalize ls.length = nl at *
 have HC1 := hid C1
 have HC2 := hid C2
 clear hf hl sf sl C1 C2
 cases b1 with
 | false =>
  clear hno
  go_enter Tryz.func15, Tryz.ntmps15
  go_wp2_with fail
  with_reducible refine HC1.out.mono ?_
  rintro e w1 ⟨rfl, hx⟩
  have HX1 := hid hx
  clear hx
  go_wp2
  all_goals
   refine bodyPost_ret (v := .tuple #[.slice none 0 0, .slice none 0 0, .int .i64 2]) (by simp [results, Tryz.results15, go_sem]) rfl ?_
   exact ⟨rfl, HX1.out⟩
 | true =>
  obtain rfl : b2 = false := by simpa using hno
  clear hno
  go_enter Tryz.func15, Tryz.ntmps15
  go_wp2_with fail
  with_reducible refine HC1.out.mono ?_
  rintro e w1 ⟨rfl, hx⟩
  have HX1 := hid hx
  clear hx
  go_wp2_with fail
  with_reducible refine (HC2.out _ HX1.out).mono ?_
  rintro e w2 ⟨rfl, hx⟩
  have HX2 := hid (HX1.out.trans hx)
  clear hx
  go_wp2
  all_goals
   refine bodyPost_ret (v := .tuple #[.slice none 0 0, .slice none 0 0, .int .i64 2]) (by simp [results, Tryz.results15, go_sem]) rfl ?_
   exact ⟨rfl, HX2.out⟩
end
section
open Go.RowKit
abbrev NX (o : Option Nat) (lo hi : Nat) (W : World) : Nat → Prop := fun k => k < W.heap.size ∧ some k ≠ o ∧ ¬ (lo ≤ k ∧ k < hi)
structure Gx (o : Option Nat) (lo hi : Nat) (W W' : World) : Prop where
 os : W'.os = W.os
 tape : W'.tape = W.tape
 output : W'.output = W.output
 size : W.heap.size ≤ W'.heap.size
 block : ∀ k, k < W.heap.size → some k ≠ o → ¬ (lo ≤ k ∧ k < hi) → W'.heap[k]? = W.heap[k]?
abbrev PX (o : Option Nat) (lo hi : Nat) (W : World) (v : Value) (p : PZ) : Prop := z05 (NX o lo hi W) W v (ofP p)
section
variable {o : Option Nat} {lo hi bd : Nat} {A B C W W' : World} {v : Value} {p : PZ} {s : MSt}
theorem Gx.refl (o : Option Nat) (lo hi : Nat) (W : World) : Gx o lo hi W W := ⟨rfl, rfl, rfl, Nat.le_refl _, fun _ _ _ _ => rfl⟩
theorem Gx.trans (h : Gx o lo hi A B) (k : Gx o lo hi B C) : Gx o lo hi A C :=
 ⟨k.os.trans h.os, k.tape.trans h.tape, k.output.trans h.output, Nat.le_trans h.size k.size, fun i h1 h2 h3 => (k.block i (Nat.lt_of_lt_of_le h1 h.size) h2 h3).trans (h.block i h1 h2 h3)⟩
theorem zi3 (h : A.grownBy B o) : Gx o lo hi A B := ⟨h.os, h.tape, h.output, h.size, fun k h1 h2 _ => h.block k h1 h2⟩
theorem z42 (h : Ext A B) : Gx o lo hi A B := zi3 (z07 h o)
theorem zw1 (h : Gd o bd A B) (h1 : lo ≤ bd) (h2 : bd < hi) : Gx o lo hi A B := ⟨h.os, h.tape, h.output, h.size, fun k k1 k2 k3 => h.block k k1 k2 (fun e => k3 (by rw [e]; exact ⟨h1, h2⟩))⟩
theorem z49 (w : World) {a : Addr} (h1 : lo ≤ a.block) (h2 : a.block < hi) (u : Value) : Gx o lo hi w (w.setCell a u) := ⟨rfl, rfl, rfl, by simp [World.setCell], fun k _ _ h3 => Below.heap_setCell _ _ _ _ (fun e => h3 (by rw [e]; exact ⟨h1, h2⟩))⟩
theorem Gx.gb (h : Gx o lo hi A B) (hb : A.heap.size ≤ lo) : A.grownBy B o := ⟨h.os, h.tape, h.output, h.size, fun k h1 h2 => h.block k h1 h2 (by omega)⟩
theorem zw2 (g : Gx o lo hi W W') : Kept (NX o lo hi W) W W' := fun k h => g.block k h.1 h.2.1 h.2.2
theorem zw3 (g : W.heap.size ≤ W'.heap.size) : ∀ k, NX o lo hi W k → NX o lo hi W' k := fun _ h => ⟨Nat.lt_of_lt_of_le h.1 g, h.2⟩
theorem PX.pv (h : PX o lo hi W v p) : PV W v p := h.to (Kept.refl _ _) (fun _ h => h.1)
theorem PX.pm (h : PX o lo hi W v p) : PM o W v p := h.to (Kept.refl _ _) (fun _ h => ⟨h.1, h.2.1⟩)
theorem PX.on (h : PX o lo hi W v p) (g : Gx o lo hi W W') : PX o lo hi W' v p := h.to (zw2 g) (zw3 g.size)
theorem PMN.px {N : Nat} (h : PMN N o W v p) (hN : hi ≤ N) : PX o lo hi W v p := h.to (Kept.refl _ _) (fun _ h => ⟨h.2.1, h.2.2, by have := h.1; omega⟩)
theorem PMN.gx {N : Nat} (h : PMN N o W v p) (hN : hi ≤ N) (g : Gx o lo hi W W') : PMN N o W' v p := h.to (fun k h => g.block k h.2.1 h.2.2 (by have := h.1; omega)) (fun k h => ⟨h.1, Nat.lt_of_lt_of_le h.2.1 g.size, h.2.2⟩)
theorem PMN.low {N M : Nat} (h : PMN N o W v p) (hM : M ≤ N) : PMN M o W v p := h.to (Kept.refl _ _) (fun _ h => ⟨Nat.le_trans hM h.1, h.2⟩)
end
theorem MV.gdn {W W' : World} {o : Option Nat} {bd : Nat} {s : MSt} (h : MV W o s) (g : Gd (Option.none) bd W W') (hob : ∀ b, o = some b → b ≠ bd) : MV W' o s := fun b hb => by
 have h1 := h b hb
 exact ⟨h1.1.grown (r := some bd) ⟨g.os, g.tape, g.output, g.size, fun j j1 j2 => g.block j j1 (by simp) (fun e => j2 (by rw [e]))⟩ (fun e => hob b hb (Option.some.inj e)), h1.2⟩
structure RestAt (T : TypeId) (w : World) (br bd bp bq m : Nat) (vr : Value) (ns : List Int) (V : Nat → Value) : Prop where
 d0 : w.cell? ⟨bd, 0, none⟩ = some (.slice (some ⟨bp, 0, none⟩) m m)
 d1 : w.cell? ⟨bd, 1, none⟩ = some (.slice (some ⟨bq, 0, none⟩) m m)
 d2 : w.cell? ⟨bd, 2, none⟩ = some vr
 dz : ∀ i, w.frozen? ⟨bd, i, none⟩ = false
 r0 : w.cell? ⟨br, 0, none⟩ = some (.slice none 0 0)
 r1 : w.cell? ⟨br, 1, none⟩ = some (.slice none 0 0)
 r2 : w.cell? ⟨br, 2, none⟩ = some (.slice none 0 0)
 rz : ∀ i, w.frozen? ⟨br, i, none⟩ = false
 P : w.rowIs bp 3 m (rowI ns)
 Q : w.rowIs bq T m V
def setV (V : Nat → Value) (k : Nat) (x : Value) : Nat → Value := fun j => if j = k then x else V j
structure Own3 (lo hi br bd bp bq : Nat) : Prop where
 r : lo ≤ br ∧ br < hi
 d : lo ≤ bd ∧ bd < hi
 p : lo ≤ bp ∧ bp < hi
 q : lo ≤ bq ∧ bq < hi
 rd : br ≠ bd
 rp : br ≠ bp
 rq : br ≠ bq
 dp : bd ≠ bp
 dq : bd ≠ bq
 pq : bp ≠ bq
structure Own (lo hi br bc bd bp bq : Nat) : Prop extends Own3 lo hi br bd bp bq where
 c : lo ≤ bc ∧ bc < hi
 rc : br ≠ bc
 cd : bc ≠ bd
 cp : bc ≠ bp
 cq : bc ≠ bq
section
variable {T : TypeId} {w w' : World} {o : Option Nat} {lo hi br bc bd bp bq m : Nat} {vr : Value} {ns : List Int} {V : Nat → Value}
theorem RestAt.same (h : RestAt T w br bd bp bq m vr ns V) (e1 : w'.heap[br]? = w.heap[br]?) (e2 : w'.heap[bd]? = w.heap[bd]?) (e3 : w'.heap[bp]? = w.heap[bp]?) (e4 : w'.heap[bq]? = w.heap[bq]?) : RestAt T w' br bd bp bq m vr ns V := by
 have hr : ∀ i, w'.cell? ⟨br, i, none⟩ = w.cell? ⟨br, i, none⟩ := fun i => World.cell?_of_block e1
 have hd : ∀ i, w'.cell? ⟨bd, i, none⟩ = w.cell? ⟨bd, i, none⟩ := fun i => World.cell?_of_block e2
 exact ⟨(hd _).trans h.d0, (hd _).trans h.d1, (hd _).trans h.d2, fun i => (World.frozen?_of_block (w := w) (a := ⟨bd, i, none⟩) e2).trans (h.dz i), (hr _).trans h.r0, (hr _).trans h.r1, (hr _).trans h.r2,
  fun i => (World.frozen?_of_block (w := w) (a := ⟨br, i, none⟩) e1).trans (h.rz i), h.P.of_block e3, h.Q.of_block e4⟩
theorem RestAt.lts (h : RestAt T w br bd bp bq m vr ns V) : br < w.heap.size ∧ bd < w.heap.size ∧ bp < w.heap.size ∧ bq < w.heap.size := ⟨z09 h.r0, z09 h.d0, h.P.lt, h.Q.lt⟩
theorem RestAt.gb (h : RestAt T w br bd bp bq m vr ns V) (O : Own3 lo hi br bd bp bq) (ho : ∀ b, o = some b → b < lo) (g : w.grownBy w' o) : RestAt T w' br bd bp bq m vr ns V := by
 obtain ⟨l1, l2, l3, l4⟩ := h.lts
 have hn : ∀ k, lo ≤ k → some k ≠ o := fun k hk e => by have := ho k e.symm; omega
 exact h.same (g.block _ l1 (hn _ O.r.1)) (g.block _ l2 (hn _ O.d.1)) (g.block _ l3 (hn _ O.p.1)) (g.block _ l4 (hn _ O.q.1))
theorem RestAt.gdn (h : RestAt T w br bd bp bq m vr ns V) (O : Own lo hi br bc bd bp bq) (g : Gd none bc w w') : RestAt T w' br bd bp bq m vr ns V := by
 obtain ⟨l1, l2, l3, l4⟩ := h.lts
 exact h.same (g.block _ l1 (by simp) O.rc) (g.block _ l2 (by simp) O.cd.symm) (g.block _ l3 (by simp) O.cp.symm) (g.block _ l4 (by simp) O.cq.symm)
theorem RestAt.gd (h : RestAt T w br bd bp bq m vr ns V) (O : Own lo hi br bc bd bp bq) (ho : ∀ b, o = some b → b < lo) (g : Gd o bc w w') : RestAt T w' br bd bp bq m vr ns V := by
 obtain ⟨l1, l2, l3, l4⟩ := h.lts
 have hn : ∀ k, lo ≤ k → some k ≠ o := fun k hk e => by have := ho k e.symm; omega
 exact h.same (g.block _ l1 (hn _ O.r.1) O.rc) (g.block _ l2 (hn _ O.d.1) O.cd.symm) (g.block _ l3 (hn _ O.p.1) O.cp.symm) (g.block _ l4 (hn _ O.q.1) O.cq.symm)
theorem z17 (w : World) (a : Addr) (u : Value) {k : Nat} (h : k ≠ a.block) : (w.setCell a u).heap[k]? = w.heap[k]? := Below.heap_setCell _ _ _ _ (fun e => h e)
theorem RestAt.setQ (h : RestAt T w br bd bp bq m vr ns V) (O : Own3 lo hi br bd bp bq) (k : Nat) (x : Value) : RestAt T (w.setCell ⟨bq, k, none⟩ x) br bd bp bq m vr ns (setV V k x) := by
 have e1 := z17 w ⟨bq, k, none⟩ x O.rq
 have e2 := z17 w ⟨bq, k, none⟩ x O.dq
 have e3 := z17 w ⟨bq, k, none⟩ x O.pq
 have hr : ∀ i, (w.setCell ⟨bq, k, none⟩ x).cell? ⟨br, i, none⟩ = w.cell? ⟨br, i, none⟩ := fun i => World.cell?_of_block e1
 have hd : ∀ i, (w.setCell ⟨bq, k, none⟩ x).cell? ⟨bd, i, none⟩ = w.cell? ⟨bd, i, none⟩ := fun i => World.cell?_of_block e2
 exact ⟨(hd _).trans h.d0, (hd _).trans h.d1, (hd _).trans h.d2, fun i => (World.frozen?_of_block (w := w) (a := ⟨bd, i, none⟩) e2).trans (h.dz i), (hr _).trans h.r0, (hr _).trans h.r1, (hr _).trans h.r2,
  fun i => (World.frozen?_of_block (w := w) (a := ⟨br, i, none⟩) e1).trans (h.rz i), h.P.of_block e3, h.Q.set k x⟩
theorem RestAt.setP (h : RestAt T w br bd bp bq m vr ns V) (O : Own3 lo hi br bd bp bq) (k : Nat) (z : Int) (hk : k < ns.length) : RestAt T (w.setCell ⟨bp, k, none⟩ (.int .i64 z)) br bd bp bq m vr (ns.set k z) V := by
 have e1 := z17 w ⟨bp, k, none⟩ (.int .i64 z) O.rp
 have e2 := z17 w ⟨bp, k, none⟩ (.int .i64 z) O.dp
 have e4 := z17 w ⟨bp, k, none⟩ (.int .i64 z) O.pq.symm
 have hr : ∀ i, (w.setCell ⟨bp, k, none⟩ (.int .i64 z)).cell? ⟨br, i, none⟩ = w.cell? ⟨br, i, none⟩ := fun i => World.cell?_of_block e1
 have hd : ∀ i, (w.setCell ⟨bp, k, none⟩ (.int .i64 z)).cell? ⟨bd, i, none⟩ = w.cell? ⟨bd, i, none⟩ := fun i => World.cell?_of_block e2
 exact ⟨(hd _).trans h.d0, (hd _).trans h.d1, (hd _).trans h.d2, fun i => (World.frozen?_of_block (w := w) (a := ⟨bd, i, none⟩) e2).trans (h.dz i), (hr _).trans h.r0, (hr _).trans h.r1, (hr _).trans h.r2,
  fun i => (World.frozen?_of_block (w := w) (a := ⟨br, i, none⟩) e1).trans (h.rz i), zjj h.P k z hk, h.Q.of_block e4⟩
theorem RestAt.setD (h : RestAt T w br bd bp bq m vr ns V) (O : Own3 lo hi br bd bp bq) (x : Value) : RestAt T (w.setCell ⟨bd, 2, none⟩ x) br bd bp bq m x ns V := by
 have e1 := z17 w ⟨bd, 2, none⟩ x O.rd
 have e3 := z17 w ⟨bd, 2, none⟩ x O.dp.symm
 have e4 := z17 w ⟨bd, 2, none⟩ x O.dq.symm
 have hr : ∀ i, (w.setCell ⟨bd, 2, none⟩ x).cell? ⟨br, i, none⟩ = w.cell? ⟨br, i, none⟩ := fun i => World.cell?_of_block e1
 exact ⟨z0b h.d0 (ao (by decide)), z0b h.d1 (ao (by decide)), z1f h.d2, fun i => z1k (h.dz i), (hr _).trans h.r0, (hr _).trans h.r1, (hr _).trans h.r2,
  fun i => (World.frozen?_of_block (w := w) (a := ⟨br, i, none⟩) e1).trans (h.rz i), h.P.of_block e3, h.Q.of_block e4⟩
end
section
open Go.Deep
theorem z84 (w : World) (a b c : Obj) : (((w.alloc a).alloc b).alloc c).heap[w.heap.size + 1 + 1]? = some c := by
 have h := blk_alloc_new ((w.alloc a).alloc b) c
 rwa [z02, z02] at h
theorem z85 (w : World) (a b c : Obj) : (((w.alloc a).alloc b).alloc c).heap[w.heap.size + 1]? = some b := by
 have h := blk_alloc_new (w.alloc a) b
 rw [z02] at h
 rw [blk_alloc_lt _ _ _ (by rw [z02, z02]; omega)]
 exact h
theorem z86 (w : World) (a b c : Obj) : (((w.alloc a).alloc b).alloc c).heap[w.heap.size]? = some a := by
 rw [blk_alloc_lt _ _ _ (by rw [z02, z02]; omega), blk_alloc_lt _ _ _ (by rw [z02]; omega)]
 exact blk_alloc_new w a
theorem z9n (w : World) (z a b c : Obj) : ((((w.alloc z).alloc a).alloc b).alloc c).heap[w.heap.size + 1]? = some a := by
 have h := z86 (w.alloc z) a b c
 rwa [z02] at h
theorem z9o (w : World) (z a b c : Obj) : ((((w.alloc z).alloc a).alloc b).alloc c).heap[w.heap.size + 1 + 1]? = some b := by
 have h := z85 (w.alloc z) a b c
 rwa [z02] at h
theorem z9p (w : World) (z a b c : Obj) : ((((w.alloc z).alloc a).alloc b).alloc c).heap[w.heap.size + 1 + 1 + 1]? = some c := by
 have h := z84 (w.alloc z) a b c
 rwa [z02] at h
theorem zgu {T TD : TypeId} {w Y : World} {br bd bp bq m : Nat} {vf : Value} (r0 : w.cell? ⟨br, 0, none⟩ = some (.slice none 0 0)) (r1 : w.cell? ⟨br, 1, none⟩ = some (.slice none 0 0)) (r2 : w.cell? ⟨br, 2, none⟩ = some (.slice none 0 0)) (rz : ∀ i, w.frozen? ⟨br, i, none⟩ = false)
  (hr : Y.heap[br]? = w.heap[br]?) (hd : Y.heap[bd]? = some (.cells #[.slice (some ⟨bp, 0, none⟩) m m, .slice (some ⟨bq, 0, none⟩) m m, vf] TD)) (hp : Y.heap[bp]? = some (.cells (madeCells #[.int .i64 0] m) 3))
  (hq : Y.heap[bq]? = some (.cells (madeCells #[.slice none 0 0] m) T)) : RestAt T Y br bd bp bq m vf (List.replicate m 0) (fun _ => .slice none 0 0) := by
 have hc : ∀ i, Y.cell? ⟨br, i, none⟩ = w.cell? ⟨br, i, none⟩ := fun i => World.cell?_of_block hr
 refine ⟨by simp [World.cell?, hd], by simp [World.cell?, hd], by simp [World.cell?, hd], fun i => by simp [World.frozen?, hd], (hc _).trans r0, (hc _).trans r1, (hc _).trans r2, fun i => (World.frozen?_of_block (w := w) (a := ⟨br, i, none⟩) hr).trans (rz i), ?_, ?_⟩
 ·exact ⟨_, hp, by simp [size_madeCells], fun i hi => by simp [madeCells, hi, Nat.mod_one, rowI, List.getD_eq_getElem?_getD]⟩
 ·exact ⟨_, hq, by simp [size_madeCells], fun i hi => by simp [madeCells, hi, Nat.mod_one]⟩
theorem zpt (w : World) (a b c : Obj) : Ext w (((w.alloc a).alloc b).alloc c).drew := ((((Ext.refl w).alloc a).alloc b).alloc c).drew
abbrev zc8 (w : World) (br m : Nat) (am : Option Addr) (vf s9 : Value) (wx : World) : Prop := ∃ bd bp bq, s9 = .pointer (some ⟨bd, 0, none⟩) ∧ Hid (Own br wx.heap.size br w.heap.size bd bp bq) ∧ Hid (RestAt 23 wx br bd bp bq m vf (List.replicate m 0) (fun _ => .slice none 0 0)) ∧ Hid (CalcAt wx w.heap.size (.pointer am) 0) ∧ Hid (Ext w wx)
theorem zdl {w : World} {br m : Nat} {am : Option Addr} {vf : Value} (hb : br < w.heap.size) (r0 : w.cell? ⟨br, 0, none⟩ = some (.slice none 0 0)) (r1 : w.cell? ⟨br, 1, none⟩ = some (.slice none 0 0)) (r2 : w.cell? ⟨br, 2, none⟩ = some (.slice none 0 0)) (rz : ∀ i, w.frozen? ⟨br, i, none⟩ = false)
  {a b c : Obj} {bd bp bq : Nat} (hd : ((((w.alloc (.cells #[.pointer am, .int .i64 0] 97)).alloc a).alloc b).alloc c).heap[bd]? = some (.cells #[.slice (some ⟨bp, 0, none⟩) m m, .slice (some ⟨bq, 0, none⟩) m m, vf] 27)) (hp : ((((w.alloc (.cells #[.pointer am, .int .i64 0] 97)).alloc a).alloc b).alloc c).heap[bp]? = some (.cells (madeCells #[.int .i64 0] m) 3))
  (hq : ((((w.alloc (.cells #[.pointer am, .int .i64 0] 97)).alloc a).alloc b).alloc c).heap[bq]? = some (.cells (madeCells #[.slice none 0 0] m) 23))
  (ds : w.heap.size < bd ∧ bd < w.heap.size + 4 ∧ w.heap.size < bp ∧ bp < w.heap.size + 4 ∧ w.heap.size < bq ∧ bq < w.heap.size + 4 ∧ bd ≠ bp ∧ bd ≠ bq ∧ bp ≠ bq) :
  zc8 w br m am vf (.pointer (some ⟨bd, 0, none⟩)) ((((w.alloc (.cells #[.pointer am, .int .i64 0] 97)).alloc a).alloc b).alloc c).drew := by
 obtain ⟨d1, d2, d3, d4, d5, d6, d7, d8, d9⟩ := ds
 have hs : ((((w.alloc (.cells #[.pointer am, .int .i64 0] 97)).alloc a).alloc b).alloc c).drew.heap.size = w.heap.size + 4 := by
  show ((((w.alloc (.cells #[.pointer am, .int .i64 0] 97)).alloc a).alloc b).alloc c).heap.size = _
  rw [z02, z02, z02, z02]
 have hx : Ext w ((((w.alloc (.cells #[.pointer am, .int .i64 0] 97)).alloc a).alloc b).alloc c).drew := (Ext.alloc (Ext.refl w) _).trans (zpt _ _ _ _)
 have hx3 := zpt (w.alloc (.cells #[.pointer am, .int .i64 0] 97)) a b c
 refine ⟨bd, bp, bq, rfl, hid ?_, hid ?_, hid ?_, hid hx⟩
 ·rw [hs]
  exact ⟨⟨by omega, by omega, by omega, by omega, by omega, by omega, by omega, by omega, by omega, by omega⟩, by omega, by omega, by omega, by omega, by omega⟩
 ·exact zgu r0 r1 r2 rz (hx.block br hb) hd hp hq
 ·exact CalcAt.ext (W := w.alloc (.cells #[.pointer am, .int .i64 0] 97)) ⟨z01 _ _ _ rfl rfl, z01 _ _ _ rfl rfl, fun i => z2r _ _ _⟩ hx3
section
variable {w : World} {br m : Nat} {am : Option Addr} {vf : Value} (hb : br < w.heap.size) (r0 : w.cell? ⟨br, 0, none⟩ = some (.slice none 0 0)) (r1 : w.cell? ⟨br, 1, none⟩ = some (.slice none 0 0)) (r2 : w.cell? ⟨br, 2, none⟩ = some (.slice none 0 0)) (rz : ∀ i, w.frozen? ⟨br, i, none⟩ = false)
include hb r0 r1 r2 rz
theorem zt2 : zc8 w br m am vf (.pointer (some ⟨w.heap.size + 1, 0, none⟩)) ((((w.alloc (.cells #[.pointer am, .int .i64 0] 97)).alloc (.cells #[.slice (some ⟨w.heap.size + 1 + 1, 0, none⟩) m m, .slice (some ⟨w.heap.size + 1 + 1 + 1, 0, none⟩) m m, vf] 27)).alloc (.cells (madeCells #[.int .i64 0] m) 3)).alloc (.cells (madeCells #[.slice none 0 0] m) 23)).drew :=
 zdl hb r0 r1 r2 rz (z9n w _ _ _ _) (z9o w _ _ _ _) (z9p w _ _ _ _) (by omega)
theorem zt3 : zc8 w br m am vf (.pointer (some ⟨w.heap.size + 1, 0, none⟩)) ((((w.alloc (.cells #[.pointer am, .int .i64 0] 97)).alloc (.cells #[.slice (some ⟨w.heap.size + 1 + 1 + 1, 0, none⟩) m m, .slice (some ⟨w.heap.size + 1 + 1, 0, none⟩) m m, vf] 27)).alloc (.cells (madeCells #[.slice none 0 0] m) 23)).alloc (.cells (madeCells #[.int .i64 0] m) 3)).drew :=
 zdl hb r0 r1 r2 rz (z9n w _ _ _ _) (z9p w _ _ _ _) (z9o w _ _ _ _) (by omega)
theorem zt4 : zc8 w br m am vf (.pointer (some ⟨w.heap.size + 1 + 1, 0, none⟩)) ((((w.alloc (.cells #[.pointer am, .int .i64 0] 97)).alloc (.cells (madeCells #[.int .i64 0] m) 3)).alloc (.cells #[.slice (some ⟨w.heap.size + 1, 0, none⟩) m m, .slice (some ⟨w.heap.size + 1 + 1 + 1, 0, none⟩) m m, vf] 27)).alloc (.cells (madeCells #[.slice none 0 0] m) 23)).drew :=
 zdl hb r0 r1 r2 rz (z9o w _ _ _ _) (z9n w _ _ _ _) (z9p w _ _ _ _) (by omega)
theorem zt5 : zc8 w br m am vf (.pointer (some ⟨w.heap.size + 1 + 1, 0, none⟩)) ((((w.alloc (.cells #[.pointer am, .int .i64 0] 97)).alloc (.cells (madeCells #[.slice none 0 0] m) 23)).alloc (.cells #[.slice (some ⟨w.heap.size + 1 + 1 + 1, 0, none⟩) m m, .slice (some ⟨w.heap.size + 1, 0, none⟩) m m, vf] 27)).alloc (.cells (madeCells #[.int .i64 0] m) 3)).drew :=
 zdl hb r0 r1 r2 rz (z9o w _ _ _ _) (z9p w _ _ _ _) (z9n w _ _ _ _) (by omega)
theorem zt6 : zc8 w br m am vf (.pointer (some ⟨w.heap.size + 1 + 1 + 1, 0, none⟩)) ((((w.alloc (.cells #[.pointer am, .int .i64 0] 97)).alloc (.cells (madeCells #[.int .i64 0] m) 3)).alloc (.cells (madeCells #[.slice none 0 0] m) 23)).alloc (.cells #[.slice (some ⟨w.heap.size + 1, 0, none⟩) m m, .slice (some ⟨w.heap.size + 1 + 1, 0, none⟩) m m, vf] 27)).drew :=
 zdl hb r0 r1 r2 rz (z9p w _ _ _ _) (z9n w _ _ _ _) (z9o w _ _ _ _) (by omega)
theorem zt7 : zc8 w br m am vf (.pointer (some ⟨w.heap.size + 1 + 1 + 1, 0, none⟩)) ((((w.alloc (.cells #[.pointer am, .int .i64 0] 97)).alloc (.cells (madeCells #[.slice none 0 0] m) 23)).alloc (.cells (madeCells #[.int .i64 0] m) 3)).alloc (.cells #[.slice (some ⟨w.heap.size + 1 + 1, 0, none⟩) m m, .slice (some ⟨w.heap.size + 1, 0, none⟩) m m, vf] 27)).drew :=
 zdl hb r0 r1 r2 rz (z9p w _ _ _ _) (z9o w _ _ _ _) (z9n w _ _ _ _) (by omega)
end
end
section
open Go.Deep
variable {T TD : TypeId}
abbrev zi4 (T : TypeId) (w : World) (br m : Nat) (vf s9 : Value) (wx : World) : Prop := ∃ bd bp bq, s9 = .pointer (some ⟨bd, 0, none⟩) ∧ Hid (Own3 br wx.heap.size br bd bp bq) ∧ Hid (RestAt T wx br bd bp bq m vf (List.replicate m 0) (fun _ => .slice none 0 0)) ∧ Hid (Ext w wx)
theorem zlt {w : World} {br m : Nat} {vf : Value} (hb : br < w.heap.size) (r0 : w.cell? ⟨br, 0, none⟩ = some (.slice none 0 0)) (r1 : w.cell? ⟨br, 1, none⟩ = some (.slice none 0 0)) (r2 : w.cell? ⟨br, 2, none⟩ = some (.slice none 0 0)) (rz : ∀ i, w.frozen? ⟨br, i, none⟩ = false)
  {a b c : Obj} {bd bp bq : Nat} (hd : (((w.alloc a).alloc b).alloc c).heap[bd]? = some (.cells #[.slice (some ⟨bp, 0, none⟩) m m, .slice (some ⟨bq, 0, none⟩) m m, vf] TD)) (hp : (((w.alloc a).alloc b).alloc c).heap[bp]? = some (.cells (madeCells #[.int .i64 0] m) 3))
  (hq : (((w.alloc a).alloc b).alloc c).heap[bq]? = some (.cells (madeCells #[.slice none 0 0] m) T))
  (ds : w.heap.size ≤ bd ∧ bd < w.heap.size + 3 ∧ w.heap.size ≤ bp ∧ bp < w.heap.size + 3 ∧ w.heap.size ≤ bq ∧ bq < w.heap.size + 3 ∧ bd ≠ bp ∧ bd ≠ bq ∧ bp ≠ bq) :
  zi4 T w br m vf (.pointer (some ⟨bd, 0, none⟩)) (((w.alloc a).alloc b).alloc c).drew := by
 obtain ⟨d1, d2, d3, d4, d5, d6, d7, d8, d9⟩ := ds
 have hs : (((w.alloc a).alloc b).alloc c).drew.heap.size = w.heap.size + 3 := by
  show (((w.alloc a).alloc b).alloc c).heap.size = _
  rw [z02, z02, z02]
 have hx : Ext w (((w.alloc a).alloc b).alloc c).drew := zpt _ _ _ _
 refine ⟨bd, bp, bq, rfl, hid ?_, hid ?_, hid hx⟩
 ·rw [hs]
  exact ⟨by omega, by omega, by omega, by omega, by omega, by omega, by omega, by omega, by omega, by omega⟩
 ·exact zgu r0 r1 r2 rz (hx.block br hb) hd hp hq
variable {w : World} {br m : Nat} {vf : Value} (hb : br < w.heap.size) (r0 : w.cell? ⟨br, 0, none⟩ = some (.slice none 0 0)) (r1 : w.cell? ⟨br, 1, none⟩ = some (.slice none 0 0)) (r2 : w.cell? ⟨br, 2, none⟩ = some (.slice none 0 0)) (rz : ∀ i, w.frozen? ⟨br, i, none⟩ = false)
include hb r0 r1 r2 rz
theorem zw4 : zi4 T w br m vf (.pointer (some ⟨w.heap.size, 0, none⟩)) (((w.alloc (.cells #[.slice (some ⟨w.heap.size + 1, 0, none⟩) m m, .slice (some ⟨w.heap.size + 1 + 1, 0, none⟩) m m, vf] TD)).alloc (.cells (madeCells #[.int .i64 0] m) 3)).alloc (.cells (madeCells #[.slice none 0 0] m) T)).drew :=
 zlt hb r0 r1 r2 rz (z86 w _ _ _) (z85 w _ _ _) (z84 w _ _ _) (by omega)
theorem zw5 : zi4 T w br m vf (.pointer (some ⟨w.heap.size, 0, none⟩)) (((w.alloc (.cells #[.slice (some ⟨w.heap.size + 1 + 1, 0, none⟩) m m, .slice (some ⟨w.heap.size + 1, 0, none⟩) m m, vf] TD)).alloc (.cells (madeCells #[.slice none 0 0] m) T)).alloc (.cells (madeCells #[.int .i64 0] m) 3)).drew :=
 zlt hb r0 r1 r2 rz (z86 w _ _ _) (z84 w _ _ _) (z85 w _ _ _) (by omega)
theorem zw6 : zi4 T w br m vf (.pointer (some ⟨w.heap.size + 1, 0, none⟩)) (((w.alloc (.cells (madeCells #[.int .i64 0] m) 3)).alloc (.cells #[.slice (some ⟨w.heap.size, 0, none⟩) m m, .slice (some ⟨w.heap.size + 1 + 1, 0, none⟩) m m, vf] TD)).alloc (.cells (madeCells #[.slice none 0 0] m) T)).drew :=
 zlt hb r0 r1 r2 rz (z85 w _ _ _) (z86 w _ _ _) (z84 w _ _ _) (by omega)
theorem zw7 : zi4 T w br m vf (.pointer (some ⟨w.heap.size + 1, 0, none⟩)) (((w.alloc (.cells (madeCells #[.slice none 0 0] m) T)).alloc (.cells #[.slice (some ⟨w.heap.size + 1 + 1, 0, none⟩) m m, .slice (some ⟨w.heap.size, 0, none⟩) m m, vf] TD)).alloc (.cells (madeCells #[.int .i64 0] m) 3)).drew :=
 zlt hb r0 r1 r2 rz (z85 w _ _ _) (z84 w _ _ _) (z86 w _ _ _) (by omega)
theorem zw8 : zi4 T w br m vf (.pointer (some ⟨w.heap.size + 1 + 1, 0, none⟩)) (((w.alloc (.cells (madeCells #[.int .i64 0] m) 3)).alloc (.cells (madeCells #[.slice none 0 0] m) T)).alloc (.cells #[.slice (some ⟨w.heap.size, 0, none⟩) m m, .slice (some ⟨w.heap.size + 1, 0, none⟩) m m, vf] TD)).drew :=
 zlt hb r0 r1 r2 rz (z84 w _ _ _) (z86 w _ _ _) (z85 w _ _ _) (by omega)
theorem zw9 : zi4 T w br m vf (.pointer (some ⟨w.heap.size + 1 + 1, 0, none⟩)) (((w.alloc (.cells (madeCells #[.slice none 0 0] m) T)).alloc (.cells (madeCells #[.int .i64 0] m) 3)).alloc (.cells #[.slice (some ⟨w.heap.size + 1, 0, none⟩) m m, .slice (some ⟨w.heap.size, 0, none⟩) m m, vf] TD)).drew :=
 zlt hb r0 r1 r2 rz (z84 w _ _ _) (z85 w _ _ _) (z86 w _ _ _) (by omega)
end
def CofV (N : Nat) (o : Option Nat) (w : World) (m : Nat) (V : Nat → Value) (cs : List PZ) : Prop := cs.length = m ∧ ∀ i, i < m → PMN N o w (V i) (cs.getD i [])
def zpu (m : Nat) (V : Nat → Value) : Prop := ∀ i, i < m → ∃ a n c, V i = .slice a n c
section
variable {w w' : World} {o : Option Nat} {N lo hi m : Nat} {V : Nat → Value} {cs : List PZ}
theorem CofV.form (h : CofV N o w m V cs) : zpu m V := fun i hi => by obtain ⟨a, c, e⟩ := (h.2 i hi).form; exact ⟨a, _, c, e⟩
theorem CofV.gx (h : CofV N o w m V cs) (hN : hi ≤ N) (g : Gx o lo hi w w') : CofV N o w' m V cs := ⟨h.1, fun i k => PMN.gx (h.2 i k) hN g⟩
theorem CofV.set (h : CofV N o w m V cs) {k : Nat} {x : Value} {p : PZ} (hk : k < m) (hx : PMN N o w x p) : CofV N o w m (setV V k x) (cs.set k p) := by
 refine ⟨by rw [List.length_set]; exact h.1, fun i hi => ?_⟩
 unfold setV
 simp only [List.getD_eq_getElem?_getD, List.getElem?_set]
 by_cases e : i = k
 ·subst e
  rw [if_pos rfl, if_pos rfl, if_pos (by rw [h.1]; exact hk)]
  exact hx
 ·rw [if_neg e, if_neg (fun h => e h.symm), ← List.getD_eq_getElem?_getD]
  exact h.2 i hi
theorem zpu.set (h : zpu m V) (k : Nat) {x : Value} (hx : ∃ a n c, x = .slice a n c) : zpu m (setV V k x) := fun i hi => by
 unfold setV
 split
 ·exact hx
 ·exact h i hi
theorem CofV.polys {bq : Nat} {T : TypeId} (h : CofV N o w m V cs) (hr : w.rowIs bq T m V) (hm : m ≤ maxLen) {S : Nat → Prop} (hS : ∀ k, N ≤ k ∧ NB o w k → S k) (hq : S bq) : z16 S w (.slice (some ⟨bq, 0, none⟩) m m) (cs.map ofP) := by
 refine ⟨bq, 0, ⟨_, m, by rw [List.length_map, h.1], by rw [List.length_map, h.1]; exact Nat.le_refl _, hm, fun _ => rfl, fun _ => hq⟩, fun j p hj => ?_⟩
 have hl := z04 hj
 rw [List.length_map, h.1] at hl
 rw [z9k (by rw [h.1]; exact hl)] at hj
 obtain rfl := Option.some.inj hj
 exact ⟨V j, by rw [Nat.zero_add]; exact hr.cell hl, (h.2 j hl).to (Kept.refl _ _) hS⟩
end
end
section
open Go.RowKit Go.Sort
section
variable {α : Type} [Inhabited α] {pc : α → PCell} {w : World} {b o : Nat} {cf : α → α → Int} {le : α → α → Bool}
end
end
section
open Go.RowKit Go.Sort
section
variable {α : Type} [Inhabited α] {pc : α → PCell} {w : World} {b o : Nat}
end
end
section
open Go.RowKit Go.Sort
section
variable {α : Type} [Inhabited α] {pc : α → PCell} {w : World} {b o : Nat} {cf : α → α → Int} {le : α → α → Bool}
end
end
section
open Go.RowKit Go.Sort
section
variable {α : Type} [Inhabited α] {pc : α → PCell} {w : World} {b o : Nat} {cf : α → α → Int} {le : α → α → Bool}
end
end
section
open Go.RowKit Go.Sort
section
variable {α : Type} [Inhabited α] {pc : α → PCell} {w : World} {b o : Nat} {cf : α → α → Int} {le : α → α → Bool}
end
end
section
open Go.RowKit Go.Sort
def ztx (S : Nat → Prop) (w : World) (xs : List Value) (l : List (List RTerm)) : Prop := xs.length = l.length ∧ ∀ (j : Nat) (p : List RTerm), l[j]? = some p → ∃ vp, xs[j]? = some vp ∧ z05 S w vp p
theorem z16.nilv (S : Nat → Prop) (w : World) (a : Option Addr) (cap : Nat) (h : cap ≤ 9223372036854775807) : z16 S w (.slice a 0 cap) [] :=
 ⟨0, 0, ⟨a, cap, rfl, Nat.zero_le _, h, fun h => absurd h (Nat.lt_irrefl 0), fun h => absurd h (Nat.lt_irrefl 0)⟩, fun j t hj => by simp at hj⟩
theorem zpv {S : Nat → Prop} {w : World} {base : Nat} {e : TypeId} {v : Value} {xs : List Value} {l : List (List RTerm)} (h : w.ownsRow base e 1 v l.length xs) (hc : ztx S w xs l) (hB : ∀ k, base ≤ k → k < w.heap.size → S k) : z16 S w v l := by
 have hlt := h.lt
 rcases h.2 with ⟨rfl, h0⟩ | ⟨g, cap, cur, rfl, hg, hh, h1, h2, h3, h4⟩
 ·obtain rfl : l = [] := List.length_eq_zero_iff.1 h0
  exact z16.nilv _ _ _ _ (by decide)
 ·refine ⟨g, 0, ⟨_, cap, rfl, h1, h2, fun _ => rfl, fun _ => hB g (hlt g rfl).1 (hlt g rfl).2⟩, fun j t hj => ?_⟩
  obtain ⟨vp, g1, g2⟩ := hc.2 j t hj
  have hb := z04 hj
  refine ⟨vp, ?_, g2⟩
  rw [h.cellAt (0 + j) (by omega), Nat.zero_add]
  exact g1
theorem Tryz.infoPoly : (Tryz.prog.info? 23).map (fun i => (i.zero, i.size, i.bytes)) = some (some (.slice none 0 0), 1, 24) := by kernel_rfl
section
variable {w w1 w2 : World} {o : Value} {e : TypeId} {size n : Nat} {xs : List Value}
end
structure PolyIn (S : Nat → Prop) (w : World) where
 t : List RTerm
 c : PCell
 h : z05 S w (.slice c.a c.n c.c) t
 small : z48 t
instance (S : Nat → Prop) (w : World) : Inhabited (PolyIn S w) := ⟨⟨[], ⟨none, 0, 0⟩, z05.nilv _ _ _ _ (by decide), fun t ht => by simp at ht⟩⟩
section
variable {S : Nat → Prop} {w : World}
end
end
section
open Go.RowKit Go.Deep
def z7s (W : World) (o : Option Nat) (X : Int × MSt × PZ × List Int × List PZ) : Ending → World → Prop := fun e W' => ∃ vp vc vr, e = .returned (.tuple #[.agg #[vp, vc, vr], .int .i64 X.1]) ∧ MV W' o X.2.1 ∧ W.grownBy W' o ∧ PMN W.heap.size o W' vr X.2.2.1 ∧
 Ints (fun k => W.heap.size ≤ k ∧ NB o W' k) W' vp X.2.2.2.1 ∧ z16 (fun k => W.heap.size ≤ k ∧ NB o W' k) W' vc (X.2.2.2.2.map ofP)
def st3 (Y : World) (br : Nat) (a b c : Value) : World := ((Y.setCell ⟨br, 0, none⟩ a).setCell ⟨br, 1, none⟩ b).setCell ⟨br, 2, none⟩ c
section
variable {W Y : World} {br hi bc bd bp bq m : Nat} {a b c u0 u1 u2 vr : Value} {o : Option Nat} {s : MSt} {ns : List Int} {V : Nat → Value} {cs : List PZ} {r : PZ}
theorem zep (h0 : Y.cell? ⟨br, 0, none⟩ = some u0) : (st3 Y br a b c).cell? ⟨br, 0, none⟩ = some a := z0b (z0b (z1f h0) (ao (by decide))) (ao (by decide))
theorem zeq (h1 : Y.cell? ⟨br, 1, none⟩ = some u1) : (st3 Y br a b c).cell? ⟨br, 1, none⟩ = some b := z0b (z1f (z0b h1 (ao (by decide)))) (ao (by decide))
theorem zer (h2 : Y.cell? ⟨br, 2, none⟩ = some u2) : (st3 Y br a b c).cell? ⟨br, 2, none⟩ = some c := z1f (z0b (z0b h2 (ao (by decide))) (ao (by decide)))
theorem zty (h : MV Y o s) (ho : ∀ b, o = some b → b < br) : MV (st3 Y br a b c) o s := by
 have hne : ∀ b, o = some b → b ≠ br := fun b hb => Nat.ne_of_lt (ho b hb)
 exact ((h.set hne (a := ⟨br, 0, none⟩) rfl a).set hne (a := ⟨br, 1, none⟩) rfl b).set hne (a := ⟨br, 2, none⟩) rfl c
theorem zgv (h1 : br < hi) : Gx o br hi Y (st3 Y br a b c) :=
 ((z49 Y (a := ⟨br, 0, none⟩) (Nat.le_refl _) h1 a).trans (z49 _ (a := ⟨br, 1, none⟩) (Nat.le_refl _) h1 b)).trans (z49 _ (a := ⟨br, 2, none⟩) (Nat.le_refl _) h1 c)
theorem z1w {k : Nat} (h : k ≠ br) : (st3 Y br a b c).heap[k]? = Y.heap[k]? :=
 ((z17 _ ⟨br, 2, none⟩ c h).trans (z17 _ ⟨br, 1, none⟩ b h)).trans (z17 _ ⟨br, 0, none⟩ a h)
theorem zjl (S : Nat → Prop) (w : World) : Ints S w (.slice none 0 0) [] := ⟨0, 0, ⟨none, 0, rfl, Nat.le_refl _, by decide, fun h => by simp at h, fun h => by simp at h⟩, fun j n hj => by simp at hj⟩
theorem zxw (O : Own br hi br bc bd bp bq) (hb : br = W.heap.size) (ho : ∀ b, o = some b → b < br) (hm : MV Y o s) (hg : W.grownBy Y o) (hr : RestAt 23 Y br bd bp bq m vr ns V) (hv : PMN hi o Y vr r) (hc : CofV hi o Y m V cs) (hn : ns.length = m) (hi64 : ∀ z ∈ ns, z12 z) (hml : m ≤ maxLen) :
  z7s W o (0, s, r, ns, cs) (.returned (.tuple #[.agg #[.slice (some ⟨bp, 0, none⟩) m m, .slice (some ⟨bq, 0, none⟩) m m, vr], .int .i64 0])) (st3 Y br (.slice (some ⟨bp, 0, none⟩) m m) (.slice (some ⟨bq, 0, none⟩) m m) vr) := by
 have hx : Gx o br hi Y (st3 Y br (.slice (some ⟨bp, 0, none⟩) m m) (.slice (some ⟨bq, 0, none⟩) m m) vr) := zgv O.r.2
 have hg2 : W.grownBy (st3 Y br (.slice (some ⟨bp, 0, none⟩) m m) (.slice (some ⟨bq, 0, none⟩) m m) vr) o := ⟨hx.os.trans hg.os, hx.tape.trans hg.tape, hx.output.trans hg.output, Nat.le_trans hg.size hx.size, fun k h1 h2 => by
  rw [z1w (by omega)]
  exact hg.block k h1 h2⟩
 have hno : ∀ k, br ≤ k → some k ≠ o := fun k hk e => by have := ho k e.symm; omega
 obtain ⟨l1, l2, l3, l4⟩ := hr.lts
 refine ⟨_, _, _, rfl, zty hm ho, hg2, (PMN.gx hv (Nat.le_refl _) hx).low (by have := O.r; omega), ?_, ?_⟩
 ·exact Ints.of_row (hr.P.of_block (z1w O.rp.symm)) hn hi64 hml ⟨by rw [← hb]; exact O.p.1, Nat.lt_of_lt_of_le l3 hx.size, hno _ O.p.1⟩
 ·exact (hc.gx (Nat.le_refl _) hx).polys (hr.Q.of_block (z1w O.rq.symm)) hml (fun k hk => ⟨by have := O.r; have := hk.1; omega, hk.2⟩) ⟨by rw [← hb]; exact O.q.1, Nat.lt_of_lt_of_le l4 hx.size, hno _ O.q.1⟩
theorem zxi {e : Int} (hbr : br < hi) (hb : br = W.heap.size) (ho : ∀ b, o = some b → b < br) (hm : MV Y o s) (hg : W.grownBy Y o) :
  z7s W o (e, s, [], [], []) (.returned (.tuple #[.agg #[.slice none 0 0, .slice none 0 0, .slice none 0 0], .int .i64 e])) (st3 Y br (.slice none 0 0) (.slice none 0 0) (.slice none 0 0)) := by
 have hx : Gx o br hi Y (st3 Y br (.slice none 0 0) (.slice none 0 0) (.slice none 0 0)) := zgv hbr
 have hg2 : W.grownBy (st3 Y br (.slice none 0 0) (.slice none 0 0) (.slice none 0 0)) o := ⟨hx.os.trans hg.os, hx.tape.trans hg.tape, hx.output.trans hg.output, Nat.le_trans hg.size hx.size, fun k h1 h2 => by
  rw [z1w (by omega)]
  exact hg.block k h1 h2⟩
 exact ⟨_, _, _, rfl, zty hm ho, hg2, z05.nilv _ _ _ _ (by decide), zjl _ _, z16.nilv _ _ _ _ (by decide)⟩
end
theorem zdm {W : World} {o : Option Nat} {s : MSt} {vf vl : Value} {f : PZ} {ls : List PZ} {A T : Nat} (hM : MV W o s) (hf : PM o W vf f) (hl : z16 (NB o W) W vl (ls.map ofP)) (ff : Fit A T f) (hA : A ≤ 1000000) (hT : T ≤ 1000000000)
  (sl : z55 (ls.map ofP)) (hmay : mayC 0 (ls.map ofP) = true) (hlen : ls.length ≤ 1000) (hF : z22 o true ls ls.length s f (List.replicate ls.length [])) :
  Calls Tryz.prog 16 #[mval o, vf, vl] W (z7s W o (z24 o true ls ls.length s f (List.replicate ls.length 0) (List.replicate ls.length []))) := by
 have hnot : ∀ (x : Bool) (w : World), (Op.unary .not (.bool x)).run Tryz.prog w = .ok (.bool (!x)) w := fun _ _ => rfl
 have C1 := hid (fun (Y : World) (hY : Ext W Y) => zlm (z05.on hf.pv hY) ff hA)
 have C2 := hid (fun (Y : World) (hY : Ext W Y) => (show Calls Tryz.prog 13 #[vl] Y fun e w' => e = .returned (.bool true) ∧ Ext Y w' from by
  have h := z40 (S := NB o W) vl (ls.map ofP) Y (hl.ext hY (fun _ h => h.1)) (fun k h => Nat.lt_of_lt_of_le h.1 hY.size) sl
  rwa [hmay] at h))
 have HF := hid hf
 have HFT := hid ff
 have HAT := hid (And.intro hA hT)
 have HM := hid hM
 have HL := hid hl
 have HFF := hid hF
 have HBM := hid (fun b hb => hM.block (b := b) hb)
 obtain ⟨X, hX⟩ : ∃ X, X = z24 o true ls ls.length s f (List.replicate ls.length 0) (List.replicate ls.length []) := ⟨_, rfl⟩
 rw [← hX]
 have HX := hid hX
 obtain ⟨m, hm⟩ : ∃ m, m = ls.length := ⟨_, rfl⟩
 have HMM := hid hm
 rw [← hm] at hlen
 obtain ⟨af, cf, rfl⟩ := hf.form
 obtain ⟨al, cl, hl'⟩ := hl.form
 rw [List.length_map, ← hm] at hl'
 subst hl'
 obtain ⟨nf, hnf⟩ : ∃ n, n = (ofP f).length := ⟨_, rfl⟩
 rw [← hnf] at C1 ⊢
 have HNF := hid hnf
 obtain ⟨vm, hvm⟩ : ∃ x, x = mval o := ⟨_, rfl⟩
 obtain ⟨am, rfl⟩ : ∃ a, vm = .pointer a := ⟨_, hvm⟩
 rw [← hvm]
 have HVM := hid hvm
 clear hM hf hl ff hA hT sl hmay hF hX hm hnf hvm
 have hmk := fun (Y : World) => run_make_row' (P := Tryz.prog) 25 3 (.int .i64 0) 8 Tryz.underlying25 Tryz.infoInt rfl .i64 .i64 m (by omega) (by omega) Y
 have hmq := fun (Y : World) => run_make_row' (P := Tryz.prog) 24 23 (.slice none 0 0) 24 Tryz.underlying24 Tryz.infoPoly rfl .i64 .i64 m (by omega) (by omega) Y
 have HX0 := hid (Ext.alloc (Ext.refl W) (.cells #[.slice none 0 0, .slice none 0 0, .slice none 0 0] 27))
 have j0 : (W.alloc (.cells #[.slice none 0 0, .slice none 0 0, .slice none 0 0] 27)).cell? ⟨W.heap.size, 0, none⟩ = some (.slice none 0 0) := z01 _ _ _ rfl rfl
 have j1 : (W.alloc (.cells #[.slice none 0 0, .slice none 0 0, .slice none 0 0] 27)).cell? ⟨W.heap.size, 1, none⟩ = some (.slice none 0 0) := z01 _ _ _ rfl rfl
 have j2 : (W.alloc (.cells #[.slice none 0 0, .slice none 0 0, .slice none 0 0] 27)).cell? ⟨W.heap.size, 2, none⟩ = some (.slice none 0 0) := z01 _ _ _ rfl rfl
 have HJ := hid (And.intro j0 (And.intro j1 j2))
 have HZ := hid (fun i => z2r W #[.slice none 0 0, .slice none 0 0, .slice none 0 0] 27 (i := i))
 clear j0 j1 j2
 go_enter Tryz.func16, Tryz.ntmps16
 go_wp2_with fail
 with_reducible refine (C1.out _ HX0.out).mono ?_
 rintro e w1 ⟨rfl, hx⟩
 have HX1 := hid (HX0.out.trans hx)
 have HY1 := hid hx
 clear hx
 go_wp2_with fail
 with_reducible refine (C2.out _ HX1.out).mono ?_
 rintro e w2 ⟨rfl, hx⟩
 have HX2 := hid (HX1.out.trans hx)
 have HY2 := hid (HY1.out.trans hx)
 clear hx
 have HR2 := hid (And.intro (HY2.out.cell HJ.out.1) (And.intro (HY2.out.cell HJ.out.2.1) (HY2.out.cell HJ.out.2.2)))
 have HLB : Hid (W.heap.size < w2.heap.size) := hid (z09 HR2.out.1)
 have HZ2 : Hid (∀ i, w2.frozen? ⟨W.heap.size, i, none⟩ = false) := hid (fun i => (World.frozen?_of_block (w := W.alloc (.cells #[.slice none 0 0, .slice none 0 0, .slice none 0 0] 27)) (a := ⟨W.heap.size, i, none⟩) (HY2.out.block _ (by show W.heap.size < _; rw [z02]; exact Nat.lt_succ_self _))).trans (HZ.out i))
 go_upto_region 4 with fail
 go_cut [9] (fun s9 wx => ∃ bd bp bq, s9 = .pointer (some ⟨bd, 0, none⟩) ∧ Hid (Own W.heap.size wx.heap.size W.heap.size w2.heap.size bd bp bq) ∧ Hid (RestAt 23 wx W.heap.size bd bp bq m (.slice af nf cf) (List.replicate m 0) (fun _ => .slice none 0 0)) ∧ Hid (CalcAt wx w2.heap.size (.pointer am) 0) ∧ Hid (Ext w2 wx))
 case first =>
  go_region_held3 (fun _ => True) (exact trivial) (fail)
  all_goals
   go_wp2_with fail
   go_meet
   obtain ⟨k0, k1, k2⟩ := HR2.out
   first
    | with_reducible exact zt2 HLB.out k0 k1 k2 HZ2.out
    | with_reducible exact zt3 HLB.out k0 k1 k2 HZ2.out
    | with_reducible exact zt4 HLB.out k0 k1 k2 HZ2.out
    | with_reducible exact zt5 HLB.out k0 k1 k2 HZ2.out
    | with_reducible exact zt6 HLB.out k0 k1 k2 HZ2.out
    | with_reducible exact zt7 HLB.out k0 k1 k2 HZ2.out
 case rest =>
  obtain ⟨bd, bp, bq, rfl, HO, HRT, HCA, HXC⟩ := hcut
  have HX5 := hid (HX2.out.trans HXC.out)
  obtain ⟨bc, hbc⟩ : ∃ n, n = w2.heap.size := ⟨_, rfl⟩
  obtain ⟨br, hbr⟩ : ∃ n, n = W.heap.size := ⟨_, rfl⟩
  obtain ⟨hi, hhi⟩ : ∃ n, n = wc.heap.size := ⟨_, rfl⟩
  rw [← hbr, ← hbc, ← hhi] at HO
  rw [← hbr] at HRT
  rw [← hbc] at HCA
  rw [← hbc, ← hbr]
  have HBR := hid hbr
  have HHI := hid hhi
  have HOB : Hid (∀ b, o = some b → b < br) := hid (fun b hb => by rw [hbr]; exact HBM.out b hb)
  have HLH : Hid (br ≤ hi) := hid (by rw [hbr, hhi]; exact HX5.out.size)
  clear hbc hbr hhi hmk hmq
  go_wp2
  go_loopw [10] (fun i wr => ∃ (k : Nat) (s1 : MSt) (vr : Value) (r1 : PZ) (ns1 : List Int) (V : Nat → Value) (cs1 : List PZ), k ≤ m ∧ i = .int .i64 ((k : Int) - 1) ∧ Hid (MV wr o s1) ∧ Hid (Gx o br hi wc wr) ∧ Hid (RestAt 23 wr br bd bp bq m vr ns1 V) ∧ Hid (CalcAt wr bc (.pointer am) 0) ∧ Hid (PX o br hi wr vr r1) ∧ Hid (∃ A T, Fit A T r1 ∧ A ≤ 1000000 ∧ T ≤ 1000000000000) ∧ Hid (CofV hi o wr m V cs1) ∧ Hid (z22 o true ls k s1 r1 cs1) ∧ Hid (z24 o true ls k s1 r1 ns1 cs1 = X) ∧ Hid (ns1.length = m ∧ ∀ z ∈ ns1, z12 z)) (fun i _ => (intOf i + 1).toNat)
  case atStart =>
   refine ⟨m, s, .slice af nf cf, f, List.replicate m 0, fun _ => .slice none 0 0, List.replicate m [], Nat.le_refl _, rfl, hid (HM.out.ext HX5.out), hid (Gx.refl _ _ _ _), HRT, HCA, hid ?_, hid ⟨A, T, HFT.out, HAT.out.1, by have := HAT.out.2; omega⟩, hid ?_, hid ?_, hid ?_, hid ⟨by simp, fun z hz => ?_⟩⟩
   ·rw [HNF.out]
    have h := HF.out
    refine h.to (Kept.ext HX5.out (fun _ h => h.1)) (fun k hk => ⟨Nat.lt_of_lt_of_le hk.1 HX5.out.size, hk.2, fun e => ?_⟩)
    have h1 := hk.1
    have h2 := e.1
    rw [HBR.out] at h2
    omega
   ·refine ⟨by simp, fun i hi => ?_⟩
    rw [List.getD_eq_getElem?_getD, List.getElem?_replicate]
    split <;> exact z05.nilv _ _ _ _ (by decide)
   ·rw [HMM.out]; exact HFF.out
   ·rw [HX.out, HMM.out]
   ·rw [List.eq_of_mem_replicate hz]; unfold z12; omega
  case round =>
   obtain ⟨k, s1, vr, r1, ns1, V, cs1, hk, rfl, HMV, HG, HRA, HCK, HRV, HFR, HCV, HRF, HRD, HNS⟩ := hrel
   have HGW : Hid (W.grownBy wr o) := hid (((z42 HX5.out).trans HG.out).gb (by rw [HBR.out]; exact Nat.le_refl _))
   cases k with
   | zero =>
    have HX0 : Hid (X = (0, s1, r1, ns1, cs1)) := hid HRD.out.symm
    have HADD : Hid (Calls Tryz.prog 45 #[vr, .slice none 0 0] wr (z8v wr r1)) := hid (by
     obtain ⟨A', T', fr, hA', hT'⟩ := HFR.out
     have hn : PV wr (.slice none 0 0) [] := z05.nilv _ _ _ _ (by decide)
     have h := zov (q := []) HRV.out.pv hn fr z6t hA' (by omega) (by omega)
     rwa [show z0m (r1 ++ []) = r1 by rw [List.append_nil]; exact z2n fr.can] at h)
    obtain ⟨ar, cr, rfl⟩ := HRV.out.form
    obtain ⟨nr, hnr⟩ : ∃ n, n = (ofP r1).length := ⟨_, rfl⟩
    rw [← hnr] at HADD HRA
    have e2 := HRA.out.d2
    clear hnr
    go_wp2_with fail
    with_reducible refine HADD.out.mono ?_
    rintro e w6 ⟨v6, rfl, ht6, hx6⟩
    have HX6 := hid hx6
    have HR6 := hid (HRA.out.gb HO.out.toOwn3 HOB.out (z07 hx6 o))
    have HT6 := hid ht6
    obtain ⟨a6, c6, rfl⟩ := ht6.form
    obtain ⟨n6, hn6⟩ : ∃ n, n = (ofP r1).length := ⟨_, rfl⟩
    rw [← hn6] at HT6 ⊢
    have HN6 := hid hn6
    have HHW : Hid (hi ≤ wr.heap.size) := hid (by rw [HHI.out]; exact HG.out.size)
    have HR7 := hid (HR6.out.setD HO.out.toOwn3 (.slice a6 n6 c6))
    obtain ⟨W7, hW7⟩ : ∃ Y, Y = w6.setCell ⟨bd, 2, none⟩ (.slice a6 n6 c6) := ⟨_, rfl⟩
    rw [← hW7] at HR7
    have HW7 := hid hW7
    clear e2 ht6 hx6 hn6 hW7
    have k2 := HR6.out.d2
    have kz := HR6.out.dz 2
    have HM7 := hid ((HMV.out.ext HX6.out).set (W := w6) (a := ⟨bd, 2, none⟩) (bd := bd) (fun b hb e => by have h1 := HOB.out b hb; have h2 := HO.out.d.1; omega) rfl (.slice a6 n6 c6))
    rw [← HW7.out] at HM7
    have HG7 : Hid (Gx o br hi wr W7) := hid (by rw [HW7.out]; exact (z42 HX6.out).trans (z49 w6 (a := ⟨bd, 2, none⟩) HO.out.d.1 HO.out.d.2 _))
    have HGW7 : Hid (W.grownBy W7 o) := hid ((((z42 HX5.out).trans HG.out).trans HG7.out).gb (by rw [HBR.out]; exact Nat.le_refl _))
    have HC7 := hid (HCV.out.gx (Nat.le_refl _) HG7.out)
    have HP7 : Hid (PMN hi o W7 (.slice a6 n6 c6) r1) := hid (by
     rw [HN6.out] at HT6
     have h := HT6.out
     rw [← HN6.out] at h
     refine h.to (fun k hk => ?_) (fun k hk => ⟨Nat.le_trans HHW.out hk.1, ?_, fun e => ?_⟩)
     ·rw [HW7.out]
      exact z17 w6 ⟨bd, 2, none⟩ _ (fun e => by have h1 := hk.1; have h2 := HO.out.d.2; have h3 := HHW.out; have e2 : k = bd := e; omega)
     ·rw [HW7.out]
      exact Nat.lt_of_lt_of_le hk.2 (z49 (o := o) (lo := br) (hi := hi) w6 (a := ⟨bd, 2, none⟩) HO.out.d.1 HO.out.d.2 _).size
     ·have h1 := HOB.out k e.symm; have h2 := hk.1; have h3 := HHW.out; have h4 := HLH.out; omega)
    have d0 := HR7.out.d0
    have d1 := HR7.out.d1
    have d2 := HR7.out.d2
    have y0 := HR7.out.r0
    have y1 := HR7.out.r1
    have y2 := HR7.out.r2
    have z0 := HR7.out.rz 0
    have z1 := HR7.out.rz 1
    have z2 := HR7.out.rz 2
    rw [HW7.out] at d0 d1 d2 y0 y1 y2 z0 z1 z2
    have f0 := zep (a := .slice (some ⟨bp, 0, none⟩) m m) (b := .slice (some ⟨bq, 0, none⟩) m m) (c := .slice a6 n6 c6) HR7.out.r0
    have f1 := zeq (a := .slice (some ⟨bp, 0, none⟩) m m) (b := .slice (some ⟨bq, 0, none⟩) m m) (c := .slice a6 n6 c6) HR7.out.r1
    have f2 := zer (a := .slice (some ⟨bp, 0, none⟩) m m) (b := .slice (some ⟨bq, 0, none⟩) m m) (c := .slice a6 n6 c6) HR7.out.r2
    have HFIN := hid (zxw HO.out HBR.out HOB.out HM7.out HGW7.out HR7.out HP7.out HC7.out HNS.out.1 HNS.out.2 (by unfold maxLen; omega))
    rw [HW7.out] at f0 f1 f2 HFIN
    unfold st3 at f0 f1 f2 HFIN
    go_wp2
    all_goals
     refine bodyPost_ret (v := .tuple #[.agg #[.slice (some ⟨bp, 0, none⟩) m m, .slice (some ⟨bq, 0, none⟩) m m, .slice a6 n6 c6], .int .i64 0]) (by simp [results, Tryz.results16, go_sem, f0, f1, f2]) rfl ?_
     rw [HX0.out]
     exact HFIN.out
   | succ q =>
    have hq1 : ((q + 1 : Nat) : Int) - 1 = (q : Int) := by omega
    have hqm : q < m := by omega
    have HRS := hid HRF.out.1
    obtain ⟨⟨A2, T2, B2, M2, fp, hA2, hB2, hT2, hTb2, hTM2, hFR2⟩, hlead, hdeg⟩ := HRS.out
    have HPF : Hid (Fit A2 T2 (ls.getD q []) ∧ A2 < 24 ∧ 1 ≤ T2 ∧ T2 ≤ 1000000) := hid ⟨fp, hA2, hT2, hTb2⟩
    have hdn : (divK o true ls q s1 r1).n ≤ 10001 := zvu (o := o) (keep := true) (s := s1) (g := ls.getD q []) (v := z0r (ls.getD q [])) hFR2.now.2.can.may
    have hfit : Fit B2 M2 (divK o true ls q s1 r1).r := (zvn _ _ _ _ _ hFR2).2
    have hMM : M2 ≤ 2 * T2 * M2 := Nat.le_mul_of_pos_left M2 (by omega)
    have HKW : Hid (Kept (NB o W) W wr) := hid (fun b hb => HGW.out.block b hb.1 hb.2)
    have HSW : Hid (∀ b, NB o W b → NX o br hi wr b) := hid (fun b hb => ⟨Nat.lt_of_lt_of_le hb.1 HGW.out.size, hb.2, fun e => by have h1 := hb.1; have h2 := e.1; rw [HBR.out] at h2; omega⟩)
    obtain ⟨bl, ol, vl, rfl, -, hl1, hl2, hSl, hlc, htl⟩ := (HL.out.to HKW.out (fun _ h => h)).cellAt (z9k (k := q) (l := ls) (by rw [← HMM.out]; exact hqm))
    have HTL := hid (htl.to (S' := NX o br hi wr) (Kept.refl _ _) HSW.out)
    have CC := hid (fun (Y : World) (hY : Ext wr Y) => zow (PX.pv (PX.on HTL.out (z42 hY))) fp (by omega))
    have CR0 : ∀ Y : World, Ext wr Y → Calls Tryz.prog 48 #[mval o, vr, vl, .int .i64 (z0r (ls.getD q []))] Y (zdg Y o (divK o true ls q s1 r1)) := fun (Y : World) (hY : Ext wr Y) => zsi (HMV.out.ext hY) (PX.pm (PX.on HRV.out (z42 hY))) (PX.pm (PX.on HTL.out (z42 hY))) fp hFR2 hA2 (by omega) hT2 hTb2 hTM2 hlead hdeg
    rw [← HVM.out] at CR0
    have CR := hid CR0
    have HRND := hid HRF.out.2.1
    have HRF3 := hid HRF.out.2.2
    have hrd := HRD.out
    rw [z24] at hrd
    have HFRR : Hid (∃ A T, Fit A T (divK o true ls q s1 r1).r ∧ A ≤ 1000000 ∧ T ≤ 1000000000000) := hid ⟨B2, M2, hfit, by omega, by omega⟩
    generalize divK o true ls q s1 r1 = R at CR HRND HRF3 hrd hdn HFRR
    obtain ⟨re, rq, rr, rn, rs⟩ := R
    simp only at HRND HRF3 hrd hdn HFRR
    have HDN2 := hid hdn
    have HRDX := hid hrd
    have HLW := hid HRA.out.lts
    have HLC := hid HCK.out.lt
    obtain ⟨ar, cr, rfl⟩ := HRV.out.form
    obtain ⟨all, cll, rfl⟩ := htl.form
    obtain ⟨nr, hnr⟩ : ∃ n, n = (ofP r1).length := ⟨_, rfl⟩
    obtain ⟨nl1, hnl1⟩ : ∃ n, n = (ofP (ls.getD q [])).length := ⟨_, rfl⟩
    rw [← hnr, ← hnl1] at CR
    rw [← hnl1] at CC hlc
    rw [← hnr] at HRA
    have HNL := hid hnl1
    have HFS : Hid (∀ Y : World, wr.grownBy Y o → Y.cell? ⟨bl, ol + q, none⟩ = some (.slice all nl1 cll) ∧ Y.cell? ⟨bd, 2, none⟩ = some (.slice ar nr cr)) := hid (fun Y hY =>
     ⟨(World.cell?_of_block (hY.block bl (HSW.out bl hSl).1 hSl.2)).trans hlc, (HRA.out.gb HO.out.toOwn3 HOB.out hY).d2⟩)
    have x0 := Below.drew (Ext.refl wr)
    have HX0 : Hid (Ext wr _) := hid x0
    have S0 := HFS.out _ (z07 HX0.out o)
    have HC1 := hid (CC.out _ x0)
    clear fp hA2 hB2 hT2 hTb2 hTM2 hFR2 hlead hdeg htl hnr hnl1 hlc x0 hrd CR0 hdn hfit hMM
    simp only [hq1]
    go_wp2
    go_region_held3 (fun Y => Y.cell? ⟨bl, ol + q, none⟩ = some (.slice all nl1 cll) ∧ Y.cell? ⟨bd, 2, none⟩ = some (.slice ar nr cr)) (first | exact S0 | exact S1 | exact S2)
     (first
    | (go_at_call 46; refine HC1.out.mono ?_
       rintro e u1 ⟨rfl, hx1⟩; have HX1 : Hid (Ext wr u1) := hid (Ext.trans HX0.out hx1); have S1 := HFS.out _ (z07 HX1.out o); have HC2 := hid (CR.out u1 HX1.out); clear hx1)
    | (go_at_call 48; refine HC2.out.mono ?_
       rintro e u2 ⟨q2, x2, rfl, hm2, hg2, hq2, hr2⟩; have HG2 := hid (z06 (z07 HX1.out o) hg2); have S2 := HFS.out _ HG2.out; have HM2 := hid hm2; have HQ2 := hid (hq2.low (Nat.le_trans (Nat.le_of_eq rfl) HX1.out.size)); have HR2 := hid (hr2.low HX1.out.size); have qf := hr2.form; obtain ⟨a2, c2, rfl⟩ := qf; obtain ⟨n2, hn2⟩ : ∃ n, n = (ofP rr).length := ⟨_, rfl⟩; rw [← hn2] at HR2; rw [← hn2]; have qf := hq2.form; obtain ⟨a3, c3, rfl⟩ := qf; obtain ⟨n3, hn3⟩ : ∃ n, n = (ofP rq).length := ⟨_, rfl⟩; rw [← hn3] at HQ2; rw [← hn3]; clear hm2 hg2 hq2 hr2 hn2 hn3))
    all_goals
     have HX2 := hid (zi3 (lo := br) (hi := hi) HG2.out)
     have HRA2 := hid (HRA.out.gb HO.out.toOwn3 HOB.out HG2.out)
     have HCK2 := hid (HCK.out.gb HG2.out (fun e => by have h1 := HOB.out bc e.symm; have h2 := HO.out.c.1; omega))
     have HCV2 := hid (HCV.out.gx (Nat.le_refl _) HX2.out)
     have HHW : Hid (hi ≤ wr.heap.size) := hid (by rw [HHI.out]; exact HG.out.size)
     have HGW2 : Hid (W.grownBy u2 o) := hid (z06 HGW.out HG2.out)
     clear S0 S1 S2
     by_cases h0 : re = 0
     ·subst h0
      have HR6 := hid (HRA2.out.setQ HO.out.toOwn3 q (.slice a3 n3 c3))
      have HR7 := hid (HR6.out.setD HO.out.toOwn3 (.slice a2 n2 c2))
      have HR8 := hid (HR7.out.setP HO.out.toOwn3 q (rn : Int) (by rw [HNS.out.1]; exact hqm))
      obtain ⟨W6, hW6⟩ : ∃ Y, Y = u2.setCell ⟨bq, q, none⟩ (.slice a3 n3 c3) := ⟨_, rfl⟩
      rw [← hW6] at HR6 HR7 HR8
      obtain ⟨W7, hW7⟩ : ∃ Y, Y = W6.setCell ⟨bd, 2, none⟩ (.slice a2 n2 c2) := ⟨_, rfl⟩
      rw [← hW7] at HR7 HR8
      obtain ⟨W8, hW8⟩ : ∃ Y, Y = W7.setCell ⟨bp, q, none⟩ (.int .i64 (rn : Nat)) := ⟨_, rfl⟩
      rw [← hW8] at HR8
      have HX8 : Hid (Gx o br hi u2 W8) := hid (by
       have g6 : Gx o br hi u2 W6 := by rw [hW6]; exact z49 _ (a := ⟨bq, q, none⟩) HO.out.q.1 HO.out.q.2 _
       have g7 : Gx o br hi W6 W7 := by rw [hW7]; exact z49 _ (a := ⟨bd, 2, none⟩) HO.out.d.1 HO.out.d.2 _
       have g8 : Gx o br hi W7 W8 := by rw [hW8]; exact z49 _ (a := ⟨bp, q, none⟩) HO.out.p.1 HO.out.p.2 _
       exact (g6.trans g7).trans g8)
      have HM8 : Hid (MV W8 o rs) := hid (by
       have hne : ∀ k, br ≤ k → ∀ b, o = some b → b ≠ k := fun k hk b hb => by have := HOB.out b hb; omega
       rw [hW8, hW7, hW6]
       exact ((HM2.out.set (hne bq HO.out.q.1) (a := ⟨bq, q, none⟩) rfl _).set (hne bd HO.out.d.1) (a := ⟨bd, 2, none⟩) rfl _).set (hne bp HO.out.p.1) (a := ⟨bp, q, none⟩) rfl _)
      have HK8 : Hid (CalcAt W8 bc (.pointer am) 0) := hid (HCK2.out.same (by
       rw [hW8, hW7, hW6]
       exact ((z17 _ ⟨bp, q, none⟩ _ HO.out.cp).trans (z17 _ ⟨bd, 2, none⟩ _ HO.out.cd)).trans (z17 _ ⟨bq, q, none⟩ _ HO.out.cq)))
      have HV8 : Hid (PX o br hi W8 (.slice a2 n2 c2) rr) := hid (PX.on (PMN.px (hi := hi) HR2.out HHW.out) HX8.out)
      have HC8 : Hid (CofV hi o W8 m (setV V q (.slice a3 n3 c3)) (cs1.set q rq)) := hid ((HCV2.out.gx (Nat.le_refl _) HX8.out).set hqm (PMN.gx (PMN.low HQ2.out HHW.out) (Nat.le_refl _) HX8.out))
      have HG8 : Hid (Gx o br hi wc W8) := hid ((HG.out.trans HX2.out).trans HX8.out)
      have HN8 : Hid ((ns1.set q (rn : Int)).length = m ∧ ∀ z ∈ ns1.set q (rn : Int), z12 z) := hid ⟨by rw [List.length_set]; exact HNS.out.1, fun z hz => by
       rcases List.mem_or_eq_of_mem_set hz with h | h
       ·exact HNS.out.2 z h
       ·rw [h]; unfold z12; have h1 := HDN2.out; omega⟩
      have HW6 := hid hW6
      have HW7 := hid hW7
      have HW8 := hid hW8
      have d0 := HRA2.out.d0
      have d1 := HRA2.out.d1
      have d2 := HR6.out.d2
      have dz := HR6.out.dz 2
      have q1 := HRA2.out.Q.cell hqm
      have qz := HRA2.out.Q.frozen q
      have p1 := HR7.out.P.cell hqm
      have pz := HR7.out.P.frozen q
      rw [hW7] at p1 pz
      rw [hW6] at d2 dz p1 pz
      clear hW6 hW7 hW8
      by_cases hn0 : rn = 0
      ·have HRC : Hid (z1b o true (ls.getD q []) ls.length q ⟨0, rq, rr, rn, rs⟩ cs1 = (0, rs, cs1.set q rq)) := hid (by
        unfold z1b
        rw [if_neg (fun h => h rfl), if_pos (.inl hn0)])
       have HRD8 : Hid (z24 o true ls q rs rr (ns1.set q (rn : Int)) (cs1.set q rq) = X) := hid (by
        have h := HRDX.out
        rw [HRC.out] at h
        exact (if_neg (fun h => h rfl)).symm.trans h)
       have HRF8 : Hid (z22 o true ls q rs rr (cs1.set q rq)) := hid (by
        have h := HRF3.out
        rw [HRC.out] at h
        exact h rfl)
       subst hn0
       go_wp2
       go_roundw
       case rel =>
        have hww : W8 = W7.setCell ⟨bp, q, none⟩ (.int .i64 0) := HW8.out
        rw [HW7.out, HW6.out] at hww
        rw [← hww]
        exact ⟨q, rs, .slice a2 n2 c2, rr, ns1.set q ((0 : Nat) : Int), setV V q (.slice a3 n3 c3), cs1.set q rq, by omega, by go_num, HM8, HG8, HR8, HK8, HV8, HFRR, HC8, HRF8, HRD8, HN8⟩
       case measure => simp only [intOf]; omega
      ·have hrf := HRND.out rfl hn0 trivial
       obtain ⟨P, hP⟩ : ∃ P, P = (powN (z1m (ls.getD q [])) rn).getD [] := ⟨_, rfl⟩
       have hn100 : rn ≤ 100 := hrf.hn
       have hpow : powN (z1m (ls.getD q [])) rn = some P := by rw [hP]; exact hrf.pow
       have HCOF : Hid ((z0o o rs P).1 = 0 → z6x o P m (m - (q + 1)) (z0o o rs P).2 (cs1.set q rq)) := hid (by rw [hP, HMM.out]; exact hrf.cof)
       obtain ⟨A3, T3, fp3, hA3, hT3, hT3b, hTn3⟩ := hrf.ex
       have hTn3' : T3 ^ rn ≤ 1000000000000 := hTn3
       obtain ⟨Y, hY⟩ : ∃ Y, Y = z1b o true (ls.getD q []) ls.length q ⟨0, rq, rr, rn, rs⟩ cs1 := ⟨_, rfl⟩
       have HY : Hid (Y = if (z0o o rs P).1 ≠ 0 then ((z0o o rs P).1, (z0o o rs P).2, []) else cofD o P m (m - (q + 1)) (z0o o rs P).2 (cs1.set q rq)) := hid (by
        rw [hY, HMM.out, hP]
        unfold z1b
        rw [if_neg (fun h => h rfl), if_neg (fun h => by rcases h with h | h; exact hn0 h; cases h)])
       have HYE : Hid (Y.1 ≠ 0 → X = (Y.1, Y.2.1, [], [], [])) := hid (fun hy => by
        have h := HRDX.out
        rw [← hY] at h
        exact ((if_pos hy).symm.trans h).symm)
       have HYO : Hid (Y.1 = 0 → z24 o true ls q Y.2.1 rr (ns1.set q (rn : Int)) Y.2.2 = X ∧ z22 o true ls q Y.2.1 rr Y.2.2) := hid (fun hy => by
        have h := HRDX.out
        have h2 := HRF3.out
        rw [← hY] at h h2
        exact ⟨(if_neg (fun k => k hy)).symm.trans h, h2 hy⟩)
       have HOC : Hid (∀ b, o = some b → b ≠ bc) := hid (fun b hb => by have h1 := HOB.out b hb; have h2 := HO.out.c.1; omega)
       have HK8m : Hid (CalcAt W8 bc (mval o) 0) := hid (by rw [← HVM.out]; exact HK8.out)
       have HTL8 := hid (PX.on HTL.out (HX2.out.trans HX8.out))
       have CI := zge (PX.pv HTL8.out) fp3 (by omega) hT3b
       have CP0 := fun (Y : World) (u : Value) (hY : Ext W8 Y) (hu : PC o bc Y u (z1m (ls.getD q []))) => zdi (HK8m.out.ext hY) (HM8.out.ext hY) HOC.out hu fp3.init hA3 hT3 hn100 hTn3' hpow
       have CP := hid CP0
       rw [← HNL.out] at CI
       have HCI := hid CI
       have k1 := World.cell?_of_block ((HX2.out.trans HX8.out).block bl (HSW.out bl hSl).1 (HSW.out bl hSl).2.1 (HSW.out bl hSl).2.2) (a := ⟨bl, ol + q, none⟩)
       rw [(HFS.out wr (z26 _ _)).1] at k1
       have hww : W8 = _ := HW8.out
       rw [HW7.out, HW6.out] at hww
       rw [hww] at k1
       have HWW := hid hww
       have q0 : ((rn : Int) == 0) = false := by rw [beq_eq_false_iff_ne]; omega
       clear hrf hpow fp3 hA3 hT3 hT3b hTn3 hTn3' hn100 CP0 CI hww hP hY
       go_wp2_with fail
       rw [← HWW.out]
       with_reducible refine HCI.out.mono ?_
       rintro e w9 ⟨vi, rfl, ht9, hx9⟩
       have HX9 := hid hx9
       have HLT8 := hid HK8.out.lt
       have HT9 := hid (ht9.to (S' := NC o bc w9) (Kept.refl _ _) (fun b hb => ⟨hb.2, fun e => by have h1 := HOB.out b e.symm; have h2 := HO.out.c.1; have h3 := HLT8.out; have h4 := hb.1; omega, fun e => by have := hb.1; have := HLT8.out; omega⟩))
       have HCP := hid (CP.out w9 vi hx9 HT9.out)
       obtain ⟨ai, ci, rfl⟩ := ht9.form
       obtain ⟨ni, hni⟩ : ∃ n, n = (ofP (z1m (ls.getD q []))).length := ⟨_, rfl⟩
       rw [← hni] at HCP ⊢
       clear hx9 ht9 hni k1 d0 d1 d2 dz q1 qz p1 pz
       go_wp2_with fail
       with_reducible refine HCP.out.mono ?_
       rintro e w10 ⟨v10, rfl, hd10, hm10, hg10, hp10⟩
       have HHI8 : Hid (hi ≤ W8.heap.size) := hid (by rw [HHI.out]; exact HG8.out.size)
       have HHI9 : Hid (hi ≤ w9.heap.size) := hid (Nat.le_trans HHI8.out HX9.out.size)
       have HX10 : Hid (Gx o br hi W8 w10) := hid ((z42 HX9.out).trans (zw1 hg10 HO.out.c.1 HO.out.c.2))
       have HD10 := hid hd10
       have HM10 := hid hm10
       have HR10 := hid ((HR8.out.gb HO.out.toOwn3 HOB.out (z07 HX9.out o)).gd HO.out HOB.out hg10)
       have HC10 := hid (HC8.out.gx (Nat.le_refl _) HX10.out)
       have HP10 : Hid (PX o br hi w10 v10 P) := hid (hp10.to (Kept.refl _ _) (fun k h => ⟨h.2.1, h.2.2.1, by have h1 := HHI9.out; have h2 := h.1; omega⟩))
       obtain ⟨ap, cp, rfl⟩ := hp10.form
       obtain ⟨np, hnp⟩ : ∃ n, n = (ofP P).length := ⟨_, rfl⟩
       have HNP := hid hnp
       rw [← hnp]
       clear hd10 hm10 hg10 hp10 hnp
       obtain ⟨e1, he1⟩ : ∃ z, z = (z0o o rs P).1 := ⟨_, rfl⟩
       obtain ⟨s2, hs2⟩ : ∃ z, z = (z0o o rs P).2 := ⟨_, rfl⟩
       rw [← he1, ← hs2] at HY HCOF
       rw [← he1] at HD10
       rw [← hs2] at HM10
       clear he1 hs2
       go_wp2
       go_loopw [17] (fun i wr => ∃ (t : Nat) (e2 : Int) (s3 : MSt) (V3 : Nat → Value) (cs3 : List PZ), t + (q + 1) ≤ m ∧ i = .int .i64 ((m - t : Nat) : Int) ∧ Hid (Gx o br hi w10 wr) ∧ Hid (MV wr o s3) ∧ Hid (RestAt 23 wr br bd bp bq m (.slice a2 n2 c2) (ns1.set q (rn : Int)) V3) ∧ Hid (CalcAt wr bc (.pointer am) e2) ∧ Hid (zpu m V3) ∧ Hid (e2 = 0 → CofV hi o wr m V3 cs3 ∧ z6x o P m t s3 cs3 ∧ cofD o P m t s3 cs3 = Y) ∧ Hid (e2 ≠ 0 → Y = (e2, s3, []))) (fun i _ => m - (intOf i).toNat)
       case atStart =>
        refine ⟨m - (q + 1), e1, s2, setV V q (.slice a3 n3 c3), cs1.set q rq, by omega, by go_num, hid (Gx.refl _ _ _ _), HM10, HR10, hid (by rw [HVM.out]; exact HD10.out), hid HC10.out.form, hid (fun h0 => ⟨HC10.out, HCOF.out h0, ?_⟩), hid (fun h0 => ?_)⟩
        ·rw [HY.out, if_neg (fun k => k h0)]
        ·rw [HY.out, if_pos h0]
       case round =>
        obtain ⟨t, e2, s3, V3, cs3, htm, rfl, HGI, HMI, HRI, HKI, HFI, HCI2, HEI⟩ := hrel
        have HGA := hid (HX10.out.trans HGI.out)
        cases t with
        | zero =>
         by_cases h2 : e2 = 0
         ·have hh := HCI2.out h2
          have HYV : Hid (Y = (0, s3, cs3)) := hid hh.2.2.symm
          have hy := HYO.out (by rw [HYV.out])
          rw [HYV.out] at hy
          have HC9 := hid hh.1
          have HRD9 := hid hy.1
          have HRF9 := hid hy.2
          subst h2
          have c1 := HKI.out.c1
          clear hh hy
          go_wp2
          go_roundw
          case rel => exact ⟨q, s3, .slice a2 n2 c2, rr, ns1.set q (rn : Int), V3, cs3, by omega, by go_num, HMI, hid (HG8.out.trans HGA.out), HRI, HKI, hid (PX.on HV8.out HGA.out), HFRR, HC9, HRF9, HRD9, HN8⟩
          case measure => simp only [intOf]; omega
         ·have HXE : Hid (X = (e2, s3, [], [], [])) := hid (by
           have h := HYE.out (by rw [HEI.out h2]; exact h2)
           rwa [HEI.out h2] at h)
          have HGWI : Hid (W.grownBy wr.drew o) := hid (zb4 ((((z42 HX5.out).trans HG8.out).trans HGA.out).gb (by rw [HBR.out]; exact Nat.le_refl _)))
          have qe : (e2 != 0) = true := by rw [bne_iff_ne]; exact h2
          have c1 := HKI.out.c1
          have y0 : wr.cell? ⟨br, 0, none⟩ = some (.slice none 0 0) := HRI.out.r0
          have y1 : wr.cell? ⟨br, 1, none⟩ = some (.slice none 0 0) := HRI.out.r1
          have y2 : wr.cell? ⟨br, 2, none⟩ = some (.slice none 0 0) := HRI.out.r2
          have z0 : wr.frozen? ⟨br, 0, none⟩ = false := HRI.out.rz 0
          have z1 : wr.frozen? ⟨br, 1, none⟩ = false := HRI.out.rz 1
          have z2 : wr.frozen? ⟨br, 2, none⟩ = false := HRI.out.rz 2
          have f0 := zep (a := .slice none 0 0) (b := .slice none 0 0) (c := .slice none 0 0) y0
          have f1 := zeq (a := .slice none 0 0) (b := .slice none 0 0) (c := .slice none 0 0) y1
          have f2 := zer (a := .slice none 0 0) (b := .slice none 0 0) (c := .slice none 0 0) y2
          have HFIN := hid (zxi (Y := wr.drew) (e := e2) HO.out.r.2 HBR.out HOB.out (HMI.out.ext (Below.drew (Ext.refl wr))) HGWI.out)
          unfold st3 at f0 f1 f2 HFIN
          have HNC := hid HO.out.rc
          have S0 : wr.drew.cell? ⟨bc, 1, none⟩ = some (.int .i64 e2) := HKI.out.c1
          clear h2
          go_wp2
          go_region_held3 (fun Y => Y.cell? ⟨bc, 1, none⟩ = some (.int .i64 e2)) (first | exact S0 | exact z0b (z0b (z0b S0 (ab HNC.out)) (ab HNC.out)) (ab HNC.out)) (fail)
          all_goals
           go_wp2
           refine bodyPost_ret (v := .tuple #[.agg #[.slice none 0 0, .slice none 0 0, .slice none 0 0], .int .i64 e2]) (by simp [results, Tryz.results16, go_sem, f0, f1, f2]) rfl ?_
           rw [HXE.out]
           exact HFIN.out
        | succ t =>
         obtain ⟨j, hj⟩ : ∃ j, j = m - (t + 1) := ⟨_, rfl⟩
         have HJT : Hid (m - t = j + 1) := hid (by omega)
         have hjm : j < m := by omega
         rw [← hj]
         have HJ := hid hj
         have HHIr : Hid (hi ≤ wr.heap.size) := hid (by rw [HHI.out]; exact Nat.le_trans HG8.out.size HGA.out.size)
         obtain ⟨aj, nj, cj, hvj⟩ := HFI.out j hjm
         have k0 : wr.cell? ⟨bq, j, none⟩ = some (.slice aj nj cj) := by rw [← hvj]; exact HRI.out.Q.cell hjm
         have S0 : wr.cell? ⟨bd, 1, none⟩ = some (.slice (some ⟨bq, 0, none⟩) m m) := HRI.out.d1
         have HQD : Hid (bq ≠ bd) := hid HO.out.dq.symm
         have HKF := hid (And.intro k0 (HRI.out.Q.frozen j))
         by_cases h2 : e2 = 0
         ·obtain ⟨HCV3', hcf, hcd⟩ := HCI2.out h2
          rw [z6x, ← hj] at hcf
          rw [cofD, ← hj] at hcd
          obtain ⟨⟨⟨k5, n5, l5, m5, fc, fP, h24, hk5, hl5, hn5, hm5, hnm⟩, hsome⟩, hnext⟩ := hcf
          obtain ⟨c, hc⟩ : ∃ c, c = (z0e (cs3.getD j []) P).getD [] := ⟨_, rfl⟩
          rw [← hc] at hsome hnext hcd
          have HCV3 := hid HCV3'
          have HNX := hid hnext
          have HCD := hid hcd
          subst h2
          have hpj := HCV3'.2 j hjm
          have hPP := PX.on HP10.out HGI.out
          rw [hvj] at hpj
          have CT0 := fun (Y : World) (hY : Ext wr Y) => z7q (HKI.out.ext hY) (z05.on (PMN.pv hpj) hY) (z05.on (PX.pv hPP) hY) fc fP h24 (by omega) (by omega) hnm hsome
          rw [← HNP.out] at CT0
          have HCT := hid CT0
          have HCK := hid (fun (Y : World) (u : Value) (hY : Gd none bc wr Y) (hD : CalcAt Y bc (mval o) 0) (hu : PM o Y u c) => zgp hD (HMI.out.gdn hY HOC.out) HOC.out hu)
          have HC1 := hid (HCT.out _ (Below.drew (Ext.refl wr)))
          have HBC := hid HKI.out.lt
          clear hcd fc fP h24 hk5 hl5 hn5 hm5 hnm hsome hnext hc HCV3' hpj hPP CT0 hvj hj
          go_wp2
          first
           | go_region_with
             (first
            | (go_at_call 43; refine HC1.out.mono ?_
               rintro e u1 ⟨x1, rfl, hd1, hg1, ht1⟩; have HGU1 : Hid (Gd none bc wr u1) := hid ((z23 (Below.drew (Ext.refl wr))).trans hg1); have HRU1 := hid (HRI.out.gdn HO.out HGU1.out); have S1 := HRU1.out.d1; have HPN : Hid (PMN hi o u1 x1 c) := hid (ht1.to (Kept.refl _ _) (fun k h => ⟨Nat.le_trans HHIr.out h.1, h.2, fun e => by have a1 := HOB.out k e.symm; have a2 := h.1; have a3 := HHIr.out; have a4 := HLH.out; have a5 : wr.heap.size ≤ k := h.1; omega⟩)); have HC2 := hid (HCK.out u1 x1 HGU1.out (by rw [← HVM.out]; exact hd1) HPN.out.pm); have qf := ht1.form; obtain ⟨a5, c5, rfl⟩ := qf; obtain ⟨n5, hn5⟩ : ∃ n, n = (ofP c).length := ⟨_, rfl⟩; have HN5 := hid hn5; rw [← hn5] at HC2; rw [← hn5]; clear hd1 hg1 ht1 hn5)
            | (go_at_call 49; refine HC2.out.mono ?_
               rintro e u2 ⟨rfl, hd2, hm2, hg2⟩; have HRU2 := hid (HRU1.out.gd HO.out HOB.out hg2); have S2 := HRU2.out.d1; have HD2 := hid hd2; have HM2 := hid hm2; have HGU2 : Hid (Gd o bc wr u2) := hid (HGU1.out.of_none.trans hg2); have HGW := hid hg2; have k1 := HRU2.out.Q.cell hjm; have k2 := HRU2.out.Q.frozen j; clear hd2 hm2 hg2))
           | fail
          all_goals
           have HR9 := hid (HRU2.out.setQ HO.out.toOwn3 j (.slice a5 n5 c5))
           have HG9 : Hid (Gx o br hi wr u2) := hid (zw1 HGU2.out HO.out.c.1 HO.out.c.2)
           have HS9 : Hid (Gx o br hi u2 (u2.setCell ⟨bq, j, none⟩ (.slice a5 n5 c5))) := hid (z49 u2 (a := ⟨bq, j, none⟩) HO.out.q.1 HO.out.q.2 _)
           have HM9 : Hid (MV (u2.setCell ⟨bq, j, none⟩ (.slice a5 n5 c5)) o (z0o o s3 c).2) := hid (HM2.out.set (a := ⟨bq, j, none⟩) (bd := bq) (fun b hb e => by have h1 := HOB.out b hb; have h2 := HO.out.q.1; omega) rfl _)
           have HK9 : Hid (CalcAt (u2.setCell ⟨bq, j, none⟩ (.slice a5 n5 c5)) bc (.pointer am) (z0o o s3 c).1) := hid (by rw [HVM.out]; exact HD2.out.same (z17 u2 ⟨bq, j, none⟩ _ HO.out.cq))
           have HPN9 : Hid (PMN hi o (u2.setCell ⟨bq, j, none⟩ (.slice a5 n5 c5)) (.slice a5 n5 c5) c) := hid (by
            have h := HPN.out
            rw [← HN5.out] at h
            exact PMN.gx h (Nat.le_refl _) ((zw1 HGW.out HO.out.c.1 HO.out.c.2).trans HS9.out))
           have HC9 := hid ((HCV3.out.gx (Nat.le_refl _) (HG9.out.trans HS9.out)).set hjm HPN9.out)
           go_wp2
           go_roundw
           case rel =>
            refine ⟨t, (z0o o s3 c).1, (z0o o s3 c).2, setV V3 j (.slice a5 n5 c5), cs3.set j c, by omega, by rw [HJT.out]; go_num, hid ((HGI.out.trans HG9.out).trans HS9.out), HM9, HR9, HK9, hid (HFI.out.set j ⟨_, _, _, rfl⟩), hid (fun h0 => ⟨HC9.out, HNX.out h0, ?_⟩), hid (fun h0 => ?_)⟩
            ·have h := HCD.out
             rwa [if_neg (fun k => k h0)] at h
            ·have h := HCD.out
             rw [if_pos h0] at h
             exact h.symm
           case measure => simp only [intOf]; omega
         ·have HC1 : Hid (∀ Y : World, Ext wr Y → Calls Tryz.prog 43 #[.pointer (some ⟨bc, 0, none⟩), .slice aj nj cj, .slice ap np cp] Y fun e w' => e = .returned (.slice none 0 0) ∧ Ext Y w') := hid (fun Y hY => (zc4 (HKI.out.ext hY) ⟨_, _, _, rfl⟩ ⟨_, _, _, rfl⟩ h2).mono (by rintro e w' ⟨rfl, rfl⟩; exact ⟨rfl, Ext.refl _⟩))
          have HC2 : Hid (∀ Y : World, Ext wr Y → Calls Tryz.prog 49 #[.pointer (some ⟨bc, 0, none⟩), .slice none 0 0] Y fun e w' => e = .returned (.slice none 0 0) ∧ Ext Y w') := hid (fun Y hY => (zcr (HKI.out.ext hY) ⟨_, _, _, rfl⟩ h2).mono (by rintro e w' ⟨rfl, rfl⟩; exact ⟨rfl, Ext.refl _⟩))
          have HC1a := hid (HC1.out _ (Below.drew (Ext.refl wr)))
          have HYV := hid (HEI.out h2)
          have HE2 := hid h2
          clear h2 hj hvj
          go_wp2
          first
           | go_region_with
             (first
            | (go_at_call 43; with_reducible refine HC1a.out.mono ?_
               rintro e u1 ⟨rfl, hx1⟩; have HU1 : Hid (Ext wr u1) := hid ((Below.drew (Ext.refl wr)).trans hx1); have S1 := (HRI.out.gb HO.out.toOwn3 HOB.out (z07 HU1.out o)).d1; have HC2a := hid (HC2.out u1 HU1.out); clear hx1)
            | (go_at_call 49; with_reducible refine HC2a.out.mono ?_
               rintro e u2 ⟨rfl, hx2⟩; have HU2 : Hid (Ext wr u2) := hid (HU1.out.trans hx2); have HRU2 := hid (HRI.out.gb HO.out.toOwn3 HOB.out (z07 HU2.out o)); have S2 := HRU2.out.d1; have k1 := HRU2.out.Q.cell hjm; have k2 := HRU2.out.Q.frozen j; clear hx2))
           | fail
          all_goals
           have HR9 := hid (HRU2.out.setQ HO.out.toOwn3 j (.slice none 0 0))
           have HG9 : Hid (Gx o br hi wr u2) := hid (z42 HU2.out)
           have HS9 : Hid (Gx o br hi u2 (u2.setCell ⟨bq, j, none⟩ (.slice none 0 0))) := hid (z49 u2 (a := ⟨bq, j, none⟩) HO.out.q.1 HO.out.q.2 _)
           have HM9 : Hid (MV (u2.setCell ⟨bq, j, none⟩ (.slice none 0 0)) o s3) := hid ((HMI.out.ext HU2.out).set (a := ⟨bq, j, none⟩) (bd := bq) (fun b hb e => by have h1 := HOB.out b hb; have h2 := HO.out.q.1; omega) rfl _)
           have HK9 : Hid (CalcAt (u2.setCell ⟨bq, j, none⟩ (.slice none 0 0)) bc (.pointer am) e2) := hid ((HKI.out.ext HU2.out).same (z17 u2 ⟨bq, j, none⟩ _ HO.out.cq))
           go_wp2
           go_roundw
           case rel =>
            exact ⟨t, e2, s3, setV V3 j (.slice none 0 0), cs3, by omega, by rw [HJT.out]; go_num, hid ((HGI.out.trans HG9.out).trans HS9.out), HM9, HR9, HK9, hid (HFI.out.set j ⟨_, _, _, rfl⟩), hid (fun h0 => absurd h0 HE2.out), hid (fun _ => HYV.out)⟩
           case measure => simp only [intOf]; omega
     ·have HXE : Hid (X = (re, rs, [], [], [])) := hid (by
       have h := HRDX.out
       have h1 : z1b o true (ls.getD q []) ls.length q ⟨re, rq, rr, rn, rs⟩ cs1 = (re, rs, []) := by unfold z1b; exact if_pos h0
       rw [h1, if_pos h0] at h
       exact h.symm)
      have q0 : (re != 0) = true := by rw [bne_iff_ne]; exact h0
      have y0 := HRA2.out.r0
      have y1 := HRA2.out.r1
      have y2 := HRA2.out.r2
      have z0 := HRA2.out.rz 0
      have z1 := HRA2.out.rz 1
      have z2 := HRA2.out.rz 2
      have f0 := zep (a := .slice none 0 0) (b := .slice none 0 0) (c := .slice none 0 0) y0
      have f1 := zeq (a := .slice none 0 0) (b := .slice none 0 0) (c := .slice none 0 0) y1
      have f2 := zer (a := .slice none 0 0) (b := .slice none 0 0) (c := .slice none 0 0) y2
      have HFIN := hid (zxi (e := re) HO.out.r.2 HBR.out HOB.out HM2.out HGW2.out)
      unfold st3 at f0 f1 f2 HFIN
      clear h0
      go_wp2
      all_goals
       refine bodyPost_ret (v := .tuple #[.agg #[.slice none 0 0, .slice none 0 0, .slice none 0 0], .int .i64 re]) (by simp [results, Tryz.results16, go_sem, f0, f1, f2]) rfl ?_
       rw [HXE.out]
       exact HFIN.out
end
section
open Go.RowKit Go.Deep
theorem z95 {W : World} {vm vf vl : Value} {fs : List RTerm} {ls : List (List RTerm)} (hvm : ∃ a, vm = .pointer a) (hf : z05 (Old W) W vf fs) (hl : z16 (Old W) W vl ls)
  (sf : z48 fs) (sl : z55 ls) (hno : (mayT fs && mayC 0 ls) = false) :
  Calls Tryz.prog 16 #[vm, vf, vl] W fun e W' => e = .returned (.tuple #[.agg #[.slice none 0 0, .slice none 0 0, .slice none 0 0], .int .i64 2]) ∧ Ext W W' := by
 have hnot : ∀ (x : Bool) (w : World), (Op.unary .not (.bool x)).run Tryz.prog w = .ok (.bool (!x)) w := fun _ _ => rfl
 have C1 := fun (Y : World) (hY : Ext W Y) => z54 (S := Old Y) vf fs Y (z05.on hf hY) (fun _ h => h) sf
 have C2 := fun (Y : World) (hY : Ext W Y) => z40 (S := Old W) vl ls Y (hl.ext hY (fun _ h => h)) (fun k h => Nat.lt_of_lt_of_le h hY.size) sl
 generalize mayT fs = b1 at C1 hno
 generalize mayC 0 ls = b2 at C2 hno
 obtain ⟨pa, rfl⟩ := hvm
 obtain ⟨af, cf, rfl⟩ := hf.form
 obtain ⟨al, cl, rfl⟩ := hl.form
 generalize fs.length = nf at *
 generalize ls.length = nl at *
 have HC1 := hid C1
 have HC2 := hid C2
 have HX0 := hid (Ext.alloc (Ext.refl W) (.cells #[.slice none 0 0, .slice none 0 0, .slice none 0 0] 27))
 have j0 : (W.alloc (.cells #[.slice none 0 0, .slice none 0 0, .slice none 0 0] 27)).cell? ⟨W.heap.size, 0, none⟩ = some (.slice none 0 0) := z01 _ _ _ rfl rfl
 have j1 : (W.alloc (.cells #[.slice none 0 0, .slice none 0 0, .slice none 0 0] 27)).cell? ⟨W.heap.size, 1, none⟩ = some (.slice none 0 0) := z01 _ _ _ rfl rfl
 have j2 : (W.alloc (.cells #[.slice none 0 0, .slice none 0 0, .slice none 0 0] 27)).cell? ⟨W.heap.size, 2, none⟩ = some (.slice none 0 0) := z01 _ _ _ rfl rfl
 have HJ := hid (And.intro j0 (And.intro j1 j2))
 obtain ⟨w0, hw0⟩ : ∃ Y, Y = W.alloc (.cells #[.slice none 0 0, .slice none 0 0, .slice none 0 0] 27) := ⟨_, rfl⟩
 have HZ : Hid (∀ i, w0.frozen? ⟨W.heap.size, i, none⟩ = false) := hid (by rw [hw0]; exact fun i => z2r W #[.slice none 0 0, .slice none 0 0, .slice none 0 0] 27 (i := i))
 have HSZ : Hid (W.heap.size < w0.heap.size) := hid (by rw [hw0, z02]; exact Nat.lt_succ_self _)
 rw [← hw0] at HX0 HJ
 have HW0 := hid hw0
 clear hf hl sf sl C1 C2 j0 j1 j2 hw0
 -- what is left behind the answer
 have HFIN : Hid (∀ Y : World, Ext w0 Y → (∀ i, Y.frozen? ⟨W.heap.size, i, none⟩ = false) ∧ Ext W (st3 Y W.heap.size (.slice none 0 0) (.slice none 0 0) (.slice none 0 0))) := hid (fun Y hY => by
  have hx : Ext W Y := HX0.out.trans hY
  refine ⟨fun i => (World.frozen?_of_block (w := w0) (a := ⟨W.heap.size, i, none⟩) (hY.block _ HSZ.out)).trans (HZ.out i), ⟨hx.os, hx.tape, hx.output, ?_, fun k hk => ?_⟩⟩
  ·exact Nat.le_trans hx.size (zgv (o := none) (hi := W.heap.size + 1) (Nat.lt_succ_self _)).size
  ·rw [z1w (by omega)]
   exact hx.block k hk)
 cases b1 with
 | false =>
  clear hno
  go_enter Tryz.func16, Tryz.ntmps16
  go_wp2_with fail
  rw [← HW0.out]
  with_reducible refine (HC1.out _ HX0.out).mono ?_
  rintro e w1 ⟨rfl, hx⟩
  have y0 := hx.cell HJ.out.1
  have y1 := hx.cell HJ.out.2.1
  have y2 := hx.cell HJ.out.2.2
  have z0 := (HFIN.out _ hx).1 0
  have z1 := (HFIN.out _ hx).1 1
  have z2 := (HFIN.out _ hx).1 2
  have HE := hid (HFIN.out _ hx).2
  have f0 := zep (a := .slice none 0 0) (b := .slice none 0 0) (c := .slice none 0 0) y0
  have f1 := zeq (a := .slice none 0 0) (b := .slice none 0 0) (c := .slice none 0 0) y1
  have f2 := zer (a := .slice none 0 0) (b := .slice none 0 0) (c := .slice none 0 0) y2
  unfold st3 at f0 f1 f2 HE
  clear hx
  go_wp2
  all_goals
   refine bodyPost_ret (v := .tuple #[.agg #[.slice none 0 0, .slice none 0 0, .slice none 0 0], .int .i64 2]) (by simp [results, Tryz.results16, go_sem, f0, f1, f2]) rfl ?_
   exact ⟨rfl, HE.out⟩
 | true =>
  obtain rfl : b2 = false := by simpa using hno
  clear hno
  go_enter Tryz.func16, Tryz.ntmps16
  go_wp2_with fail
  rw [← HW0.out]
  with_reducible refine (HC1.out _ HX0.out).mono ?_
  rintro e w1 ⟨rfl, hx⟩
  have HX1 := hid hx
  clear hx
  go_wp2_with fail
  with_reducible refine (HC2.out _ (HX0.out.trans HX1.out)).mono ?_
  rintro e w2 ⟨rfl, hx⟩
  have hx := HX1.out.trans hx
  have y0 := hx.cell HJ.out.1
  have y1 := hx.cell HJ.out.2.1
  have y2 := hx.cell HJ.out.2.2
  have z0 := (HFIN.out _ hx).1 0
  have z1 := (HFIN.out _ hx).1 1
  have z2 := (HFIN.out _ hx).1 2
  have HE := hid (HFIN.out _ hx).2
  have f0 := zep (a := .slice none 0 0) (b := .slice none 0 0) (c := .slice none 0 0) y0
  have f1 := zeq (a := .slice none 0 0) (b := .slice none 0 0) (c := .slice none 0 0) y1
  have f2 := zer (a := .slice none 0 0) (b := .slice none 0 0) (c := .slice none 0 0) y2
  unfold st3 at f0 f1 f2 HE
  clear hx
  go_wp2
  all_goals
   refine bodyPost_ret (v := .tuple #[.agg #[.slice none 0 0, .slice none 0 0, .slice none 0 0], .int .i64 2]) (by simp [results, Tryz.results16, go_sem, f0, f1, f2]) rfl ?_
   exact ⟨rfl, HE.out⟩
end
section
open Go.RowKit Go.Deep
theorem z16.src_all {S : Nat → Prop} {w : World} {A : Option Addr} {n cap : Nat} {l : List (List RTerm)} (h : z16 S w (.slice A n cap) l) : ∃ xs, zci w A n 1 xs ∧ ztx S w xs l := by
 obtain ⟨b, off, ⟨a', cap', h1, h2, h3, h4, h5⟩, hc⟩ := h
 obtain ⟨rfl, rfl, rfl⟩ : A = a' ∧ n = l.length ∧ cap = cap' := by simpa using h1
 obtain ⟨xs, hl, hx⟩ := z5g (n := l.length) (p := fun j (vp : Value) => w.cell? ⟨b, off + j, none⟩ = some vp ∧ (∃ a n c, vp = .slice a n c) ∧ ∀ p, l[j]? = some p → z05 S w vp p) (fun j hj => by
  obtain ⟨p, hp⟩ := z00 hj
  obtain ⟨vp, k1, k2⟩ := hc j p hp
  obtain ⟨a, c, e⟩ := k2.form
  exact ⟨vp, k1, ⟨a, _, c, e⟩, fun q hq => by rw [hp] at hq; cases hq; exact k2⟩)
 refine ⟨xs, ⟨by rw [hl, Nat.mul_one], fun u hu => ?_, fun h0 => ⟨_, h4 h0, fun j u hj => ?_⟩⟩, hl, fun j p hj => ?_⟩
 ·obtain ⟨j, hj⟩ := List.getElem?_of_mem hu
  obtain ⟨-, ⟨a, n, c, rfl⟩, -⟩ := hx j u hj
  rfl
 ·rw [z7y]
  exact (hx j u hj).1
 ·obtain ⟨vp, hv⟩ := z00 (l := xs) (j := j) (by rw [hl]; exact z04 hj)
  exact ⟨vp, hv, (hx j vp hv).2.2 p hj⟩
section
variable {P : Program}
theorem z87 (w : World) {ops : Array Oper} {rest : List Oper} {o : Oper} {a : Act} {Q : Exit → Act → World → Prop} (hw : Region.wanted o (yielded ops a.tmps) = true) (s x : Operand) (t : TypeId)
  (ho : o.op = .call { callee := .builtin .append, args := #[s, x], argTypes := #[t, t] })
  (base : Nat) (e : TypeId) (i : TypeInfo) (z : Value) (size bytes : Nat) (ht : P.underlying t = some (.slice e)) (hi : P.info? e = some i) (hz : i.zero = some z)
  (hsize : i.size = size) (hby : i.bytes = bytes) (hzs : z.cells.size = size) (hsz : 0 < size)
  (v : Value) (n : Nat) (xs : List Value) (hs : a.eval s = v) (hown : w.ownsRow base e size v n xs)
  (A : Option Addr) (m c : Nat) (news : List Value) (hx : a.eval x = .slice A m c) (hsrc : zci w A m size news)
  (h63 : n + m ≤ maxLen) (hbytes : (n + m) * bytes ≤ 140737488355328) (hbase : base ≤ w.heap.size)
  (h : ∀ v' w', w'.ownsRow base e size v' (n + m) (xs ++ news) → w.grownBy w' v.ownBlock → (v'.ownBlock = v.ownBlock ∨ v'.ownBlock = some w.heap.size) → wpList P ops Q rest (a.put o.dst v') w') : wpList P ops Q (o :: rest) a w := by
 obtain ⟨v', w', hrun, h2, h3, h4⟩ := z5b (P := P) w base t o.type e i z size bytes ht hi hz hsize hby hzs hsz v n xs hown A m c news hsrc h63 hbytes hbase
 refine wpList_step fun K hK => ?_
 rw [if_pos hw]
 unfold Oper.wp execOp
 simp only [ho, resolve, invoke, builtin, Sem.run_bind, Sem.run_pure, Result.andThen_ok, List.map_toArray, List.map_cons, List.map_nil, hs, hx, hrun]
 exact hK _ _ (h v' w' h2 h3 h4)
end
theorem z3e {S : Nat → Prop} (W : World) {ops : Array Oper} {rest : List Oper} {o : Oper} {a : Act} {Q : Exit → Act → World → Prop} (hgd : Region.wanted o (yielded ops a.tmps) = true) (s x : Operand)
  (ho : o.op = .call { callee := .builtin .append, args := #[s, x], argTypes := #[24, 24] }) (vf : Value) (A : Option Addr) (m c : Nat) (f : List RTerm) (l : List (List RTerm))
  (hs : a.eval s = .slice (some ⟨W.heap.size, 0, none⟩) 1 1) (hx : a.eval x = .slice A m c) (hf : z05 S W vf f) (hl : z16 S W (.slice A m c) l) (hS : ∀ k, S k → k < W.heap.size) (hm : m ≤ 5864062014800)
  (h : ∀ v' w', z16 (Plus S W w') w' v' (f :: l) → Ext W w' → wpList Tryz.prog ops Q rest (a.put o.dst v') w') : wpList Tryz.prog ops Q (o :: rest) a (W.alloc (.cells #[vf] 23)) := by
 obtain ⟨i, hi, hz0, hz1, hz2⟩ := info_parts Tryz.infoPoly
 have hxa := Ext.alloc (Ext.refl W) (.cells #[vf] 23)
 obtain ⟨xs, hsrc, hc⟩ := (hl.to (Kept.ext hxa hS) (fun _ h => h)).src_all
 obtain ⟨af, cf, hvf⟩ := hf.form
 have hml : m = l.length := by
  obtain ⟨a', c', e⟩ := hl.form
  simpa using congrArg (fun v => match v with | Value.slice _ n _ => n | _ => 0) e
 refine z87 _ hgd s x 24 ho W.heap.size 23 i (.slice none 0 0) 1 24 Tryz.underlying24 hi hz0 hz1 hz2 rfl (by decide) _ 1 [vf] hs (World.ownsRow_lit (size := 1) W #[vf] 1 (Nat.le_refl _) (by decide) rfl) A m c xs hx hsrc (by unfold maxLen; omega) (by omega) (by rw [z02]; omega) (fun v' w' k1 k2 _ => h v' w' ?_ ?_)
 ·have hg : Ext W w' := z2a hxa (World.ownsRow_lit (size := 1) W #[vf] 1 (Nat.le_refl _) (by decide) rfl) k2
  refine zpv (l := f :: l) (by rw [List.length_cons, ← hml, Nat.add_comm]; exact k1) ⟨by rw [List.length_append, hc.1]; simp; omega, fun j p hj => ?_⟩ (fun k h1 h2 => .inr ⟨h1, h2⟩)
  cases j with
  | zero =>
   obtain rfl : f = p := by simpa using hj
   exact ⟨vf, rfl, hf.to (Kept.ext hg hS) (fun _ h => .inl h)⟩
  | succ j =>
   obtain ⟨vp, g1, -⟩ := hc.2 j p (by simpa using hj)
   have hl2 := hl
   obtain ⟨vp2, g3, g4⟩ := hc.2 j p (by simpa using hj)
   refine ⟨vp, by simpa using g1, ?_⟩
   rw [g3] at g1
   obtain rfl : vp2 = vp := by simpa using g1
   have hgx : Kept S (W.alloc (.cells #[vf] 23)) w' := fun k hk => (hg.block k (hS k hk)).trans (hxa.block k (hS k hk)).symm
   exact g4.to hgx (fun _ h => .inl h)
 ·exact z2a hxa (World.ownsRow_lit (size := 1) W #[vf] 1 (Nat.le_refl _) (by decide) rfl) k2
end
section
open Go.RowKit
def zdn (t : RTerm) : Bool := decide (3 < t.c.mag.length) || t.m.any fun x => decide (4 < x.2)
def z9q (ts : List RTerm) : Bool := z6b 6 ts || ts.any zdn
def z47 (ls : List (List RTerm)) : Bool := ls.any z9q || decide (5 < ls.length)
theorem zc9 {W : World} {S : Nat → Prop} (v : Value) (ls : List (List RTerm)) (h : z16 S W v ls) (hS : ∀ k, S k → k < W.heap.size) :
  Calls Tryz.prog 8 #[v] W fun e w' => e = .returned (.bool (z47 ls)) ∧ Ext W w' := by
 have H := hid h
 have hll := h.len_le
 obtain ⟨a, cap, rfl⟩ := h.form
 obtain ⟨n, hnn⟩ : ∃ n, n = ls.length := ⟨_, rfl⟩
 rw [← hnn] at H hll ⊢
 have HN := hid hnn
 clear h hnn
 go_enter Tryz.func8, Tryz.ntmps8
 go_wp2
 go_loopw [9] (fun i wr => ∃ k : Nat, k ≤ n ∧ i = .int .i64 k ∧ Ext W wr ∧ Hid ((ls.take k).any z9q = false)) (fun i _ => n - (intOf i).toNat)
 case atStart => exact ⟨0, Nat.zero_le _, rfl, Ext.refl _, hid rfl⟩
 case round =>
  obtain ⟨k, hk, rfl, hx, HA⟩ := hrel
  have HX := hid hx
  by_cases hlt : k < n
  ·obtain ⟨p, hp⟩ := z00 (l := ls) (j := k) (by rw [← HN.out]; exact hlt)
   obtain ⟨bl, off, vp, rfl, -, hn1, hm1, hSb, h1, h2⟩ := (H.out.ext hx hS).cellAt hp
   have HTP : Hid (ls.take (k + 1) = ls.take k ++ [p]) := hid (by rw [List.take_add_one, hp]; rfl)
   have HQP := hid (List.mem_of_getElem? hp)
   have HSX := hid (z08 hS hx)
   have hlp := h2.len_le
   have C := zhv (S := S) vp p 6 wr h2 HSX.out (by omega)
   have HV := hid h2
   obtain ⟨ap, cp, rfl⟩ := h2.form
   obtain ⟨np, hnp⟩ : ∃ n, n = p.length := ⟨_, rfl⟩
   rw [← hnp] at HV C h1 hlp
   have HNP := hid hnp
   clear h2 hp hx hnp
   cases hg : z6b 6 p with
   | true =>
    rw [hg] at C
    have HFT : Hid (z47 ls = true) := hid (by unfold z47; rw [List.any_eq_true.2 ⟨p, HQP.out, by unfold z9q; rw [hg]; rfl⟩]; rfl)
    have HC := hid C
    clear C hg
    go_wp2_with fail
    with_reducible refine HC.out.mono ?_
    rintro e w1 ⟨rfl, hx1⟩
    have HX1 := hid (HX.out.trans hx1)
    clear hx1
    go_wp2
    all_goals
     go_ret
     exact ⟨by rw [HFT.out]; rfl, HX1.out⟩
   | false =>
    rw [hg] at C
    have HG : Hid (z6b 6 p = false) := hid hg
    have HC := hid C
    clear C hg
    go_wp2_with fail
    with_reducible refine HC.out.mono ?_
    rintro e w1 ⟨rfl, hx1⟩
    have HX1 := hid (HX.out.trans hx1)
    have HX1' := hid hx1
    clear hx1
    go_wp2
    go_loopw [17] (fun i wy => ∃ k : Nat, k ≤ np ∧ i = .int .i64 k ∧ Ext w1 wy ∧ Hid ((p.take k).any zdn = false)) (fun i _ => np - (intOf i).toNat)
    case atStart => exact ⟨0, Nat.zero_le _, rfl, Ext.refl _, hid rfl⟩
    case round =>
     obtain ⟨j, hj, rfl, hx, HM⟩ := hrel
     have HXY := hid (HX1.out.trans hx)
     have HXR := hid hx
     by_cases hltj : j < np
     ·obtain ⟨t, ht⟩ := z00 (l := p) (j := j) (by rw [← HNP.out]; exact hltj)
      obtain ⟨b, offt, vm, vo, rfl, -, hq1, hmm1, hSbt, h1', h2, h3, h4, h5⟩ := (HV.out.to (S' := Old wr) (Kept.ext (HX1'.out.trans hx) HSX.out) (fun k hk => Nat.lt_of_lt_of_le (HSX.out k hk) (HX1'.out.trans hx).size)).cellAt ht
      have HT : Hid (p.take (j + 1) = p.take j ++ [t]) := hid (by rw [List.take_add_one, ht]; rfl)
      have HQ := hid (List.mem_of_getElem? ht)
      have hl1 := h4.len_le
      have hl2 := h5.len_le
      have H5 := hid h5
      obtain ⟨am, cm, rfl⟩ := h4.form
      obtain ⟨ao, co, rfl⟩ := h5.form
      obtain ⟨x1, hx1⟩ : ∃ n, n = t.c.mag.length := ⟨_, rfl⟩
      obtain ⟨y1, hy1⟩ : ∃ n, n = t.m.length := ⟨_, rfl⟩
      have HX1'' := hid hx1
      have HY1 := hid hy1
      rw [← hx1] at h2 hl1
      rw [← hy1] at h3 hl2 H5
      have HC3 := hid h3
      clear hx ht h1' h4 h5 hx1 hy1
      by_cases hbig : 3 < x1
      ·have HFT : Hid (z47 ls = true) := hid (by unfold z47; rw [List.any_eq_true.2 ⟨p, HQP.out, by unfold z9q; rw [List.any_eq_true.2 ⟨t, HQ.out, by unfold zdn; rw [← HX1''.out, decide_eq_true hbig]; rfl⟩, Bool.or_true]⟩]; rfl)
       go_wp2
       all_goals
        go_ret
        exact ⟨by rw [HFT.out]; rfl, HXY.out⟩
      ·have HNB : Hid (decide (3 < t.c.mag.length) = false) := hid (by rw [← HX1''.out]; exact decide_eq_false hbig)
       have hle : (x1 : Int) ≤ 3 := by omega
       clear hbig
       go_wp2
       go_loopw [34] (fun j wx => ∃ m : Nat, m ≤ y1 ∧ j = .int .i64 m ∧ Ext wr wx ∧ Hid ((t.m.take m).any (fun x => decide (4 < x.2)) = false)) (fun j _ => y1 - (intOf j).toNat)
       case atStart => exact ⟨0, Nat.zero_le _, rfl, Ext.refl _, hid rfl⟩
       case round =>
        obtain ⟨m, hm, rfl, hx2, HM2⟩ := hrel
        have HX2 := hid (HXY.out.trans hx2)
        have HX2' := hid hx2
        have g3 := hx2.cell HC3.out
        by_cases hlt2 : m < y1
        ·obtain ⟨z, hz⟩ := z00 (l := t.m) (j := m) (by rw [← HY1.out]; exact hlt2)
         obtain ⟨bo, oo, rfl, -, hn2, hm2, -, ⟨hz0, hz1⟩, k1, k2⟩ := (Pows.on H5.out hx2).cellAt hz
         have HZ : Hid (t.m.take (m + 1) = t.m.take m ++ [z]) := hid (by rw [List.take_add_one, hz]; rfl)
         have HZQ := hid (List.mem_of_getElem? hz)
         obtain ⟨z2, hz2⟩ : ∃ n, n = z.2 := ⟨_, rfl⟩
         have HZ2 := hid hz2
         rw [← hz2] at k2 hz1
         obtain ⟨hz3, hz4⟩ := hz1
         clear hz hx2 k1 hz0 hz2
         by_cases hb2 : 4 < z2
         ·have HFT : Hid (z47 ls = true) := hid (by
           unfold z47
           rw [List.any_eq_true.2 ⟨p, HQP.out, ?_⟩]
           ·rfl
           unfold z9q
           rw [List.any_eq_true.2 ⟨t, HQ.out, ?_⟩, Bool.or_true]
           unfold zdn
           rw [List.any_eq_true.2 ⟨z, HZQ.out, by rw [← HZ2.out]; exact decide_eq_true hb2⟩, Bool.or_true])
          go_wp2
          all_goals
           go_ret
           exact ⟨by rw [HFT.out]; rfl, HX2.out⟩
         ·have hle2 : z2 ≤ 4 := by omega
          have HND : Hid (decide (4 < z.2) = false) := hid (by rw [← HZ2.out]; exact decide_eq_false hb2)
          clear hb2
          go_wp2
          go_roundw
          case rel => exact ⟨m + 1, by omega, by go_num, HX2'.out, hid (by rw [HZ.out, List.any_append, HM2.out]; simp only [List.any_cons, List.any_nil, HND.out]; rfl)⟩
          case measure => simp only [intOf]; omega
        ·obtain rfl : m = y1 := by omega
         have HNE : Hid (t.m.any (fun x => decide (4 < x.2)) = false) := hid (by have := HM2.out; rw [HY1.out, List.take_length] at this; exact this)
         clear hx2
         go_wp2
         go_roundw
         case rel => exact ⟨j + 1, by omega, by go_num, HXR.out.trans HX2'.out, hid (by rw [HT.out, List.any_append, HM.out]; simp only [List.any_cons, List.any_nil, zdn, HNB.out, HNE.out]; rfl)⟩
         case measure => simp only [intOf]; omega
     ·obtain rfl : j = np := by omega
      have HPE : Hid (z9q p = false) := hid (by unfold z9q; have := HM.out; rw [HNP.out, List.take_length] at this; rw [this, HG.out]; rfl)
      clear hx
      go_wp2
      go_roundw
      case rel => exact ⟨k + 1, by omega, by go_num, HXY.out, hid (by rw [HTP.out, List.any_append, HA.out]; simp only [List.any_cons, List.any_nil, HPE.out]; rfl)⟩
      case measure => simp only [intOf]; omega
  ·obtain rfl : k = n := by omega
   have HFE : Hid (z47 ls = decide ((k : Int) > 5)) := hid (by unfold z47; have := HA.out; rw [HN.out, List.take_length] at this; rw [this, ← HN.out, Bool.false_or]; exact decide_eq_decide.2 (by omega))
   clear hx
   go_wp2
   all_goals
    go_ret
    exact ⟨by rw [HFE.out]; rfl, HX.out⟩
end
end Go.Proofs.YthdcaablomgboaaGreat
