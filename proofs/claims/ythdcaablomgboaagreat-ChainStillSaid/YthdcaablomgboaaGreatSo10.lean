/- Chain, plain: by a meter of little fuel all that a rest makes is small. What the statement on divisions holds against each other: four meters, polynomials of both sides, that lie apart. The document's chain: powers, and is it an identity. The document's chain: are some polynomials one. Chain, plain: the rests of layer 16's statements within bounds; one meter or another. Chain: what the rest of a chain is, plainly: the same with cofactors and without, reduced, an identity. Chain: an identity's rounds over what a rest tells, within bounds; a rest of a rest. Chain: what is no identity, for lengths that differ or polynomials that may not be. The document's check of an identity: lengths that differ. Layer 16: the program's check of an identity and the document's answer alike. Layer 16: what is known of arguments that may be. A polynomial that is read, with the form's own bound: no slice of limbs passes it. The arguments of layer 16's statements, with the form's own bound on lists. Layer 16: some polynomials without one: append(append([]Poly{}, l[:i]...), l[i+1:]...). Layer 16: what the laws of ChainSound and ChainStill stand on. -/
import Derived.SizedLaws
import Derived.Test.YthdcaablomgboaaGreatSo9
namespace Go.Proofs.YthdcaablomgboaaGreat

/-- a rest behind so many steps -/
structure InR (g N E : Nat) (s : MSt) (r : PZ) : Prop where
  ok : s.Ok
  fu : s.fu ≤ (N : Int)
  can : canP r
  nr : nrm r ≤ 2 ^ ((g + 1) * s.st.toNat + g)
  len : r.length ≤ 100000
  ex : exB ((E : Int) * (s.st + 1)) r
/-- a quotient, j steps old -/
structure InQ (g E j : Nat) (s : MSt) (q : PZ) : Prop where
  hj : (j : Int) ≤ s.st
  can : canP q
  nq : nrm q ≤ j * 2 ^ ((g + 1) * s.st.toNat)
  len : q.length ≤ 100000
  ex : exB ((E : Int) * (s.st + 1)) q
/-- what the parameters are to each other -/
structure Lim (g N E e B : Nat) : Prop where
  cut : (g + 1) * N + e < 1472
  steps : N ≤ 2 ^ e
  small : N ≤ 100
  exps : E * (N + 1) ≤ 5000
  lim : (g + 1) * N + g + e < 32 * B
  hB : B ≤ 200
  he : e ≤ 100
  hg : g ≤ 640

theorem b32_two (k : Nat) : B32 ^ k = 2 ^ (32 * k) := by rw [Nat.pow_mul, show (2 : Nat) ^ 32 = B32 by decide]
theorem pow2_lt {a b : Nat} (h : a < b) : 2 ^ a < 2 ^ b := Nat.pow_lt_pow_right (by decide) h
theorem pow2_le {a b : Nat} (h : a ≤ b) : 2 ^ a ≤ 2 ^ b := Nat.pow_le_pow_right (by decide) h
theorem fit_bits {p : PZ} {k n e : Nat} (hc : canP p) (h : nrm p ≤ 2 ^ e) (he : e < 32 * k) (hn : p.length ≤ n) : Fit k n p := nrm_fit hc (by rw [b32_two]; exact Nat.lt_of_le_of_lt h (pow2_lt he)) hn

section
variable {g N E e B j : Nat} {s s' : MSt} {p q r : PZ}
theorem InR.st (h : InR g N E s r) : 0 ≤ s.st ∧ s.st ≤ (N : Int) := ⟨h.ok.s0, Int.le_trans h.ok.s1 h.fu⟩
theorem st_le (_L : Lim g N E e B) (h : s.st.toNat ≤ N) : (g + 1) * s.st.toNat ≤ (g + 1) * N := Nat.mul_le_mul_left _ h
theorem InR.fit (L : Lim g N E e B) (h : InR g N E s r) : Fit B 100000 r := nrm_fit h.can (by
  rw [b32_two]
  refine Nat.lt_of_le_of_lt h.nr (pow2_lt ?_)
  have h1 := h.st
  have h2 := st_le L (s := s) (by omega)
  have h3 := L.lim
  omega) h.len
theorem InQ.two (L : Lim g N E e B) (h : InQ g E j s q) (hN : s.st ≤ (N : Int)) : nrm q ≤ 2 ^ ((g + 1) * s.st.toNat + e) := by
  rw [Nat.add_comm ((g + 1) * s.st.toNat) e, Nat.pow_add]
  refine Nat.le_trans h.nq (Nat.mul_le_mul_right _ (Nat.le_trans ?_ L.steps))
  have := h.hj
  omega
theorem InQ.fit (L : Lim g N E e B) (h : InQ g E j s q) (h0 : 0 ≤ s.st) (hN : s.st ≤ (N : Int)) : Fit B 100000 q := nrm_fit h.can (by
  rw [b32_two]
  refine Nat.lt_of_le_of_lt (h.two L hN) (pow2_lt ?_)
  have h2 := st_le L (s := s) (by omega)
  have h3 := L.lim
  omega) h.len
theorem pow_step (_a : Nat) (st : Int) (h : 0 ≤ st) : (g + 1) * (st + 1).toNat = (g + 1) * st.toNat + (g + 1) := by
  rw [show (st + 1).toNat = st.toNat + 1 by omega, Nat.mul_succ]

/-- one step -/
theorem in_step {keep : Bool} {G h : PZ} {v d : Int} {x : PZ × PZ} {b : Nat} (L : Lim g N E e B) (hr : InR g N E s r) (hq : InQ g E j s q) (cg : canP G) (ch : canP h) (ng : nrm G ≤ 2 ^ g) (nh : nrm h ≤ 2 ^ g) (eg : exB (E : Int) G) (eh : exB (E : Int) h) (hv : 1 ≤ v ∧ v ≤ 200) (hd : 0 ≤ d)
    (h1 : (mstep (some b) s).1 = 0) (hs : stepD keep G h v d q r = some x) (h2 : (mkeep (some b) (mstep (some b) s).2 x.2).1 = 0) (h3 : (mkeep (some b) (mstep (some b) s).2 x.1).1 = 0) :
    InR g N E (mstep (some b) s).2 x.2 ∧ InQ g E (j + 1) (mstep (some b) s).2 x.1 ∧ (mstep (some b) s).2.st = s.st + 1 ∧ (mstep (some b) s).2.fu = s.fu := by
  have hlt : s.st < s.fu := by
    rcases Int.lt_or_le s.st s.fu with h | h
    · exact h
    · exfalso
      simp only [mstep, MSt.step] at h1
      rw [if_neg (by omega)] at h1
      simp at h1
  have e1 : mstep (some b) s = (0, { s with st := s.st + 1 }) := by simp only [mstep, MSt.step]; rw [if_pos hlt]
  rw [e1] at h2 h3 ⊢
  have hst := hr.st
  have hfu := hr.fu
  have ok2 : MSt.Ok { s with st := s.st + 1 } := ⟨hr.ok.f0, hr.ok.f1, hr.ok.l0, hr.ok.l1, hr.ok.t0, hr.ok.t1, hr.ok.p0, hr.ok.p1, by show 0 ≤ s.st + 1; omega, by show s.st + 1 ≤ s.fu; omega, hr.ok.c0, hr.ok.c1⟩
  have hex : (E : Int) * (s.st + 1) + E ≤ 10000 := by
    have h4 : (E : Int) * (s.st + 1) ≤ E * ((N : Int) + 1) := Int.mul_le_mul_of_nonneg_left (by omega) (by omega)
    have h5 := L.exps
    have h6 : ((E * (N + 1) : Nat) : Int) = E * ((N : Int) + 1) := by rw [Int.natCast_mul, Int.natCast_add]; rfl
    have h7 : E ≤ E * (N + 1) := Nat.le_mul_of_pos_right E (by omega)
    omega
  have hnn : 0 ≤ (E : Int) * (s.st + 1) := Int.mul_nonneg (by omega) (by omega)
  obtain ⟨x', hx', ex1, ex2⟩ := stepD_ex keep cg ch hq.can hr.can eg eh hq.ex hr.ex (by omega) hnn hex hv hd
  obtain rfl : x = x' := Option.some.inj (hs.symm.trans hx')
  have eex : (E : Int) * (s.st + 1) + E = E * ((s.st + 1) + 1) := by rw [Int.mul_add E (s.st + 1) 1, Int.mul_one]
  rw [eex] at ex1 ex2
  obtain ⟨c1, c2⟩ := stepD_can cg ch hq.can hr.can hv hd hs
  obtain ⟨n1, n2⟩ := nrm_step cg ch hq.can hr.can hv hd hs ng nh hq.nq hr.nr
  have l1 := (mkeep_bnd h3).2
  have l2 := (mkeep_bnd h2).2
  have t1 := hr.ok.t1
  have t2 : ({ s with st := s.st + 1 } : MSt).te = s.te := rfl
  rw [t2] at l1 l2
  refine ⟨⟨ok2, hfu, c2, ?_, by omega, ex2⟩, ⟨by show ((j + 1 : Nat) : Int) ≤ s.st + 1; have := hq.hj; omega, c1, ?_, by omega, ex1⟩, rfl, rfl⟩
  · show nrm x.2 ≤ 2 ^ ((g + 1) * (s.st + 1).toNat + g)
    rw [pow_step 0 s.st hst.1]
    refine Nat.le_trans n2 (Nat.le_of_eq ?_)
    rw [Nat.mul_assoc, ← Nat.pow_add, Nat.mul_comm 2, ← Nat.pow_succ]
    congr 1
    omega
  · show nrm x.1 ≤ (j + 1) * 2 ^ ((g + 1) * (s.st + 1).toNat)
    rw [pow_step 0 s.st hst.1]
    refine Nat.le_trans n1 ?_
    have k1 : 2 ^ g * (j * 2 ^ ((g + 1) * s.st.toNat)) + 2 ^ ((g + 1) * s.st.toNat + g) = (j + 1) * 2 ^ ((g + 1) * s.st.toNat + g) := by
      rw [Nat.add_mul j 1, Nat.one_mul, Nat.pow_add 2 ((g + 1) * s.st.toNat) g, Nat.mul_left_comm, Nat.mul_comm (2 ^ g)]
    rw [k1]
    exact Nat.mul_le_mul_left _ (pow2_le (by omega))
theorem in_run {keep : Bool} {G : PZ} {v : Int} {b : Nat} (L : Lim g N E e B) (cg : canP G) (ng : nrm G ≤ 2 ^ g) (eg : exB (E : Int) G) (hv : 1 ≤ v ∧ v ≤ 200) (hd : 0 ≤ degP G v) :
    ∀ (k : Nat) (s : MSt) (q r : PZ) (n : Nat), InR g N E s r → InQ g E n s q →
      FitRun (some b) keep G (headP G v) v (degP G v) B 100000 k s q r ∧ ((runD (some b) keep G (headP G v) v (degP G v) k s q r n).e = 0 →
        InR g N E (runD (some b) keep G (headP G v) v (degP G v) k s q r n).s (runD (some b) keep G (headP G v) v (degP G v) k s q r n).r ∧
        InQ g E (runD (some b) keep G (headP G v) v (degP G v) k s q r n).n (runD (some b) keep G (headP G v) v (degP G v) k s q r n).s (runD (some b) keep G (headP G v) v (degP G v) k s q r n).q ∧
        (runD (some b) keep G (headP G v) v (degP G v) k s q r n).s.st + n = s.st + (runD (some b) keep G (headP G v) v (degP G v) k s q r n).n ∧
        (runD (some b) keep G (headP G v) v (degP G v) k s q r n).s.fu = s.fu) := by
  have ch : canP (headP G v) := coefP_can cg v _
  have nh : nrm (headP G v) ≤ 2 ^ g := Nat.le_trans (nrm_coef _ _ _) ng
  have eh : exB (E : Int) (headP G v) := eg.coef (by omega) v _
  intro k
  induction k with
  | zero => intro s q r n hr hq; exact ⟨⟨hq.fit L hr.st.1 hr.st.2, hr.fit L⟩, fun _ => ⟨hr, hq, rfl, rfl⟩⟩
  | succ k ih =>
    intro s q r n hr hq
    have step : ∀ x, (mstep (some b) s).1 = 0 → stepD keep G (headP G v) v (degP G v) q r = some x → (mkeep (some b) (mstep (some b) s).2 x.2).1 = 0 → (mkeep (some b) (mstep (some b) s).2 x.1).1 = 0 → _ := fun x h1 h2 h3 h4 => in_step (e := e) (B := B) L hr hq cg ch ng nh eg eh hv hd h1 h2 h3 h4
    refine ⟨⟨hq.fit L hr.st.1 hr.st.2, hr.fit L, fun _ _ h1 x h2 h3 h4 => ?_⟩, ?_⟩
    · obtain ⟨i1, i2, -, -⟩ := step x h1 h2 h3 h4
      exact (ih _ _ _ (n + 1) i1 i2).1
    · rw [runD]
      split
      · intro _
        exact ⟨hr, hq, rfl, rfl⟩
      split
      · intro h; rename_i h1; exact absurd h h1
      rename_i h1
      split
      · intro h; exact absurd h (by show ¬ (8 : Int) = 0; decide)
      rename_i x hx
      split
      · intro h; rename_i h2; exact absurd h h2
      rename_i h2
      split
      · intro h; rename_i h3; exact absurd h h3
      rename_i h3
      intro h
      obtain ⟨i1, i2, i3, i4⟩ := step x (Decidable.not_not.1 h1) hx (Decidable.not_not.1 h2) (Decidable.not_not.1 h3)
      obtain ⟨a1, a2, a3, a4⟩ := (ih _ _ _ (n + 1) i1 i2).2 h
      exact ⟨a1, a2, by omega, a4.trans i4⟩
/-- a whole division -/
theorem in_div {w : Bool} {G : PZ} {v : Int} {b : Nat} (L : Lim g N E e B) (cg : canP G) (ng : nrm G ≤ 2 ^ g) (eg : exB (E : Int) G) (hv : 1 ≤ v ∧ v ≤ 200) (hd : 0 ≤ degP G v) (hr : InR g N E s r) :
    FitRun (some b) w G (headP G v) v (degP G v) B 100000 ((degP r v).toNat + 1) s [] r ∧ ((divD (some b) w s r G v).e = 0 → InR g N E (divD (some b) w s r G v).s (divD (some b) w s r G v).r ∧ InQ g E (divD (some b) w s r G v).n (divD (some b) w s r G v).s (divD (some b) w s r G v).q ∧ (divD (some b) w s r G v).s.st = s.st + (divD (some b) w s r G v).n ∧ (divD (some b) w s r G v).s.fu = s.fu) := by
  have h0 : InQ g E 0 s [] := ⟨hr.ok.s0, canP_nil, Nat.zero_le _, by simp, exB_nil _⟩
  obtain ⟨h1, h2⟩ := in_run (keep := w) (b := b) L cg ng eg hv hd ((degP r v).toNat + 1) s [] r 0 hr h0
  refine ⟨h1, fun he => ?_⟩
  obtain ⟨a1, a2, a3, a4⟩ := h2 he
  refine ⟨a1, a2, ?_, a4⟩
  have a5 : (divD (some b) w s r G v).s.st + ((0 : Nat) : Int) = s.st + (divD (some b) w s r G v).n := a3
  omega

/-- a cofactor behind so many steps -/
structure InC (g E e : Nat) (st : Int) (c : PZ) : Prop where
  can : canP c
  nc : nrm c ≤ 2 ^ ((g + 1) * st.toNat + e)
  len : c.length ≤ 100000
  ex : exB ((E : Int) * (st + 1)) c
theorem InC.later {st st' : Int} {c : PZ} (h : InC g E e st c) (h1 : st ≤ st') : InC g E e st' c :=
  ⟨h.can, Nat.le_trans h.nc (pow2_le (by have := Nat.mul_le_mul_left (g + 1) (show st.toNat ≤ st'.toNat by omega); omega)), h.len, h.ex.le (Int.mul_le_mul_of_nonneg_left (by omega) (by omega))⟩
theorem inC_nil (st : Int) : InC g E e st [] := ⟨canP_nil, Nat.zero_le _, by simp, exB_nil _⟩
theorem InQ.c (L : Lim g N E e B) (h : InQ g E j s q) (hN : s.st ≤ (N : Int)) : InC g E e s.st q := ⟨h.can, h.two L hN, h.len, h.ex⟩
/-- an initial's power -/
structure InP (g E n : Nat) (P : PZ) : Prop where
  can : canP P
  nP : nrm P ≤ 2 ^ (g * n)
  len : P.length ≤ 100000
  ex : exB ((E : Int) * n) P

theorem cof_step {c P : PZ} {n : Nat} {st : Int} (L : Lim g N E e B) (hc : InC g E e st c) (hP : InP g E n P) (h0 : 0 ≤ st) (hN : st + n ≤ (N : Int)) :
    CofStep c P ∧ (((timesP c P).getD []).length ≤ 100000 → InC g E e (st + n) ((timesP c P).getD [])) := by
  have h1 : (g + 1) * st.toNat + g * n + n = (g + 1) * (st + n).toNat := by
    rw [show (st + n).toNat = st.toNat + n by omega, Nat.mul_add, Nat.add_mul g 1 n, Nat.one_mul]
    omega
  have h2 : (g + 1) * (st + n).toNat ≤ (g + 1) * N := Nat.mul_le_mul_left _ (by omega)
  have h3 := L.cut
  have hex : (E : Int) * (st + 1) + E * n = E * ((st + n) + 1) := by rw [← Int.mul_add]; congr 1; omega
  have hex2 : (E : Int) * ((st + n) + 1) ≤ 10000 := by
    have h4 : (E : Int) * ((st + n) + 1) ≤ E * ((N : Int) + 1) := Int.mul_le_mul_of_nonneg_left (by omega) (by omega)
    have h5 := L.exps
    have h6 : ((E * (N + 1) : Nat) : Int) = E * ((N : Int) + 1) := by rw [Int.natCast_mul, Int.natCast_add]; rfl
    omega
  obtain ⟨c', hc', cc, ec, -, -⟩ := hc.ex.times hP.ex hc.can hP.can (by rw [hex]; exact hex2)
  rw [hex] at ec
  have f1 : Fit (((g + 1) * st.toNat + e) / 32 + 1) 100000 c := nrm_fit hc.can (by rw [b32_two]; exact Nat.lt_of_le_of_lt hc.nc (pow2_lt (by omega))) hc.len
  have f2 : Fit ((g * n) / 32 + 1) 100000 P := nrm_fit hP.can (by rw [b32_two]; exact Nat.lt_of_le_of_lt hP.nP (pow2_lt (by omega))) hP.len
  have hn := nrm_times hc.can.may hP.can.may hc'
  rw [hc', Option.getD_some]
  refine ⟨⟨⟨_, _, _, _, f1, f2, by omega, by omega, by omega, by decide, by decide, by decide⟩, by rw [hc', Option.getD_some]⟩, fun hl => ⟨cc, ?_, hl, ec⟩⟩
  refine Nat.le_trans hn (Nat.le_trans (Nat.mul_le_mul hc.nc hP.nP) ?_)
  rw [← Nat.pow_add]
  exact pow2_le (by omega)
theorem cof_all {P : PZ} {n m b : Nat} {st : Int} (L : Lim g N E e B) (hP : InP g E n P) (h0 : 0 ≤ st) (hN : st + n ≤ (N : Int)) :
    ∀ (t : Nat) (s : MSt) (cs : List PZ), t ≤ m → cs.length = m → s.Ok → (∀ i, i < m - t → InC g E e (st + n) (cs.getD i [])) → (∀ i, m - t ≤ i → i < m → InC g E e st (cs.getD i [])) →
      CofFit (some b) P m t s cs ∧ ((cofD (some b) P m t s cs).1 = 0 → (cofD (some b) P m t s cs).2.1 = s ∧ ∀ i, i < m → InC g E e (st + n) ((cofD (some b) P m t s cs).2.2.getD i [])) := by
  intro t
  induction t with
  | zero =>
    intro s cs _ _ _ h1 _
    exact ⟨trivial, fun _ => ⟨rfl, fun i hi => h1 i (by omega)⟩⟩
  | succ t ih =>
    intro s cs ht hl ok h1 h2
    obtain ⟨i, hi⟩ : ∃ i, i = m - (t + 1) := ⟨_, rfl⟩
    rw [CofFit, cofD, ← hi]
    have hc := h2 i (by omega) (by omega)
    obtain ⟨c1, c2⟩ := cof_step L hc hP h0 hN
    generalize (timesP (cs.getD i []) P).getD [] = c at c2 ⊢
    have hrec : (mkeep (some b) s c).1 = 0 → CofFit (some b) P m t (mkeep (some b) s c).2 (cs.set i c) ∧ ((cofD (some b) P m t (mkeep (some b) s c).2 (cs.set i c)).1 = 0 → (cofD (some b) P m t (mkeep (some b) s c).2 (cs.set i c)).2.1 = (mkeep (some b) s c).2 ∧ ∀ k, k < m → InC g E e (st + n) ((cofD (some b) P m t (mkeep (some b) s c).2 (cs.set i c)).2.2.getD k [])) := fun hk => by
      have hb := (mkeep_bnd hk).2
      have t1 := ok.t1
      have hcc := c2 (by omega)
      rw [mkeep_ok hk]
      have gs : ∀ k, (cs.set i c).getD k [] = if i = k then (if k < m then c else []) else cs.getD k [] := fun k => by
        simp only [List.getD_eq_getElem?_getD, List.getElem?_set, hl]
        split
        · rename_i e; subst e; split <;> rfl
        · rfl
      refine ih s (cs.set i c) (by omega) (by rw [List.length_set]; exact hl) ok (fun k hk1 => ?_) (fun k hk1 hk2 => ?_)
      · rw [gs]
        split
        · rw [if_pos (by omega)]; exact hcc
        · exact h1 k (by omega)
      · rw [gs, if_neg (by omega)]
        exact h2 k (by omega) hk2
    refine ⟨⟨c1, fun hk => (hrec hk).1⟩, ?_⟩
    split
    · intro h; rename_i h3; exact absurd h h3
    · rename_i h3
      intro h
      have hk := Decidable.not_not.1 h3
      have h4 := (hrec hk).2 h
      rw [mkeep_ok hk] at h4 ⊢
      exact h4

/-- one of a chain -/
structure ChP (g E A T : Nat) (p : PZ) : Prop where
  fit : Fit A T p
  np : nrm p ≤ 2 ^ g
  ex : exB (E : Int) p
  lead : 0 < leadP p
theorem ChP.range {A T : Nat} (h : ChP g E A T p) : 1 ≤ leadP p ∧ leadP p ≤ 200 := ⟨h.lead, (leadP_range h.fit.can).2⟩
theorem set_getD {cs : List PZ} {i : Nat} {c : PZ} (hi : i < cs.length) (k : Nat) : (cs.set i c).getD k [] = if k = i then c else cs.getD k [] := by
  simp only [List.getD_eq_getElem?_getD, List.getElem?_set]
  by_cases e : i = k
  · subst e
    rw [if_pos rfl, if_pos rfl, if_pos hi]
    rfl
  · rw [if_neg e, if_neg (fun h => e h.symm)]
theorem in_pow {A T n : Nat} (L : Lim g N E e B) (h : ChP g E A T p) (hn : n ≤ N) : ∃ P, powN (initP p) n = some P ∧ canP P ∧ nrm P ≤ 2 ^ (g * n) ∧ exB ((E : Int) * n) P := by
  have ei : exB (E : Int) (initP p) := by
    unfold initP
    split
    · exact h.ex
    · exact h.ex.coef (by omega) _ _
  have hEn : (n : Int) * E ≤ 10000 := by
    have h1 : E * n ≤ E * (N + 1) := Nat.mul_le_mul_left _ (by omega)
    have h2 := L.exps
    have h3 : ((E * n : Nat) : Int) = (n : Int) * E := by rw [Int.natCast_mul, Int.mul_comm]
    omega
  obtain ⟨P, hP, cP, -, eP⟩ := powN_ex h.fit.init.can ei (by omega) n hEn
  rw [Int.mul_comm] at eP
  refine ⟨P, hP, cP, ?_, eP⟩
  rw [Nat.pow_mul]
  exact nrm_powN h.fit.init.can (Nat.le_trans (nrm_init p) h.np) n P hP
/-- a chain's rest, its powers and cofactors within bounds -/
theorem in_rest {w : Bool} {ls : List PZ} {A T b : Nat} (L : Lim g N E e B) (hls : ∀ p ∈ ls, ChP g E A T p) (hA : A < 24) (hT : 1 ≤ T) (hT2 : T ≤ 1000000) (hTN : T ^ N ≤ 1000000000000) :
    ∀ (k : Nat) (s : MSt) (r : PZ) (ns : List Int) (cs : List PZ), k ≤ ls.length → cs.length = ls.length → InR g N E s r → (∀ i, i < ls.length → InC g E e s.st (cs.getD i [])) →
      RestFit (some b) w ls k s r cs ∧ ((restD (some b) w ls k s r ns cs).1 = 0 → InR g N E (restD (some b) w ls k s r ns cs).2.1 (restD (some b) w ls k s r ns cs).2.2.1 ∧ ∀ i, i < ls.length → InC g E e (restD (some b) w ls k s r ns cs).2.1.st ((restD (some b) w ls k s r ns cs).2.2.2.2.getD i [])) := by
  intro k
  induction k with
  | zero => intro s r ns cs _ _ hr hc; exact ⟨trivial, fun _ => ⟨hr, hc⟩⟩
  | succ k ih =>
    intro s r ns cs hk hl hr hc
    have hp := getD_all hls (k := k) (by omega)
    rw [RestFit, restD]
    obtain ⟨p, hpe⟩ : ∃ p, p = ls.getD k [] := ⟨_, rfl⟩
    rw [← hpe] at hp ⊢
    have hpos := deg_lead_pos hp.fit.can hp.lead
    obtain ⟨d1, d2⟩ := in_div (w := w) (b := b) L hp.fit.can hp.np hp.ex hp.range (by omega) hr
    have hB := L.hB
    have RS : RedStep (some b) w p r s := ⟨⟨A, T, B, 100000, hp.fit, hA, by omega, hT, hT2, by omega, d1⟩, hp.range, by omega⟩
    have hDK : divK (some b) w ls k s r = divD (some b) w s r p (leadP p) := by rw [hpe]
    rw [hDK]
    generalize divD (some b) w s r p (leadP p) = D at d2 ⊢
    -- the round
    have hround : (roundC (some b) w p ls.length k D cs).1 = 0 → D.e = 0 ∧ (roundC (some b) w p ls.length k D cs).2.2.length = ls.length ∧ InR g N E (roundC (some b) w p ls.length k D cs).2.1 D.r ∧ ∀ i, i < ls.length → InC g E e (roundC (some b) w p ls.length k D cs).2.1.st ((roundC (some b) w p ls.length k D cs).2.2.getD i []) := by
      intro h0
      have hlen := roundC_len h0
      rw [hl] at hlen
      refine ⟨?_, hlen, ?_⟩
      · unfold roundC at h0
        by_cases he : D.e ≠ 0
        · rw [if_pos he] at h0; exact h0
        · exact Decidable.not_not.1 he
      unfold roundC at h0 ⊢
      by_cases he : D.e ≠ 0
      · rw [if_pos he] at h0; exact absurd h0 he
      rw [if_neg he] at h0 ⊢
      obtain ⟨i1, i2, i3, i4⟩ := d2 (Decidable.not_not.1 he)
      have hst := i1.st
      have hq := i2.c L hst.2
      by_cases hn : D.n = 0 ∨ w = false
      · rw [if_pos hn]
        refine ⟨i1, fun i hi => ?_⟩
        rw [set_getD (by omega)]
        split
        · exact hq
        · exact (hc i hi).later (by show s.st ≤ D.s.st; omega)
      rw [if_neg hn] at h0 ⊢
      obtain ⟨P, hP, cP, nP, eP⟩ := in_pow (n := D.n) L hp (by have := hr.ok.s0; omega)
      rw [hP, Option.getD_some] at h0 ⊢
      by_cases hm : (mkeep (some b) D.s P).1 ≠ 0
      · rw [if_pos hm] at h0; exact absurd h0 hm
      rw [if_neg hm] at h0 ⊢
      have hm0 := Decidable.not_not.1 hm
      have lP := (mkeep_bnd hm0).2
      have t1 := i1.ok.t1
      rw [mkeep_ok hm0] at h0 ⊢
      obtain ⟨-, c2⟩ := cof_all (b := b) (m := ls.length) (P := P) (n := D.n) (st := s.st) L ⟨cP, nP, by omega, eP⟩ hr.ok.s0 (by omega) (ls.length - (k + 1)) D.s (cs.set k D.q) (by omega) (by rw [List.length_set]; exact hl) i1.ok (fun i hi => by
        rw [set_getD (by omega)]
        split
        · exact hq.later (by omega)
        · exact (hc i (by omega)).later (by omega)) (fun i hi1 hi2 => by
        rw [set_getD (by omega), if_neg (by omega)]
        exact hc i hi2)
      obtain ⟨c3, c4⟩ := c2 h0
      rw [c3]
      exact ⟨i1, fun i hi => (c4 i hi).later (by omega)⟩
    have hRF : D.e = 0 → D.n ≠ 0 → w = true → RoundFit (some b) p ls.length k D cs := fun he hn hw => by
      obtain ⟨i1, i2, i3, i4⟩ := d2 he
      have hst := i1.st
      have hq := i2.c L hst.2
      have hnN : D.n ≤ N := by have := hr.ok.s0; omega
      obtain ⟨P, hP, cP, nP, eP⟩ := in_pow (n := D.n) L hp hnN
      refine ⟨by have := L.small; omega, by rw [hP]; rfl, ⟨A, T, hp.fit, hA, hT, by omega, Nat.le_trans (Nat.pow_le_pow_right hT hnN) hTN⟩, ?_⟩
      rw [hP, Option.getD_some]
      intro hm0
      have lP := (mkeep_bnd hm0).2
      have t1 := i1.ok.t1
      rw [mkeep_ok hm0]
      exact (cof_all (b := b) (m := ls.length) (P := P) (n := D.n) (st := s.st) L ⟨cP, nP, by omega, eP⟩ hr.ok.s0 (by omega) (ls.length - (k + 1)) D.s (cs.set k D.q) (by omega) (by rw [List.length_set]; exact hl) i1.ok (fun i hi => by
        rw [set_getD (by omega)]
        split
        · exact hq.later (by omega)
        · exact (hc i (by omega)).later (by omega)) (fun i hi1 hi2 => by
        rw [set_getD (by omega), if_neg (by omega)]
        exact hc i hi2)).1
    refine ⟨⟨RS, hRF, fun h0 => ?_⟩, ?_⟩
    · obtain ⟨-, a2, a3, a4⟩ := hround h0
      exact (ih _ _ (ns.set k (D.n : Int)) _ (by omega) a2 a3 a4).1
    · split
      · intro h; rename_i h1; exact absurd h h1
      · rename_i h1
        intro h
        obtain ⟨-, a2, a3, a4⟩ := hround (Decidable.not_not.1 h1)
        exact (ih _ _ _ _ (by omega) a2 a3 a4).2 h
end
end Go.Proofs.YthdcaablomgboaaGreat

namespace Go.Proofs.YthdcaablomgboaaGreat
open Go.RowKit

theorem divD_o {o r : Option Nat} (h : o = none ↔ r = none) (keep : Bool) (s : MSt) (f g : PZ) (v : Int) : divD o keep s f g v = divD r keep s f g v := by
  have e1 : ∀ s, mstep o s = mstep r s := fun s => by
    cases o with
    | none => rw [h.1 rfl]
    | some a => cases r with
      | none => exact absurd (h.2 rfl) (by simp)
      | some b => rfl
  have e2 : ∀ s p, mkeep o s p = mkeep r s p := fun s p => by
    cases o with
    | none => rw [h.1 rfl]
    | some a => cases r with
      | none => exact absurd (h.2 rfl) (by simp)
      | some b => rfl
  have e3 : ∀ s, mexp o s = mexp r s := fun s => by
    cases o with
    | none => rw [h.1 rfl]
    | some a => cases r with
      | none => exact absurd (h.2 rfl) (by simp)
      | some b => rfl
  have key : ∀ (k : Nat) (s : MSt) (q z : PZ) (n : Nat), runD o keep g (headP g v) v (degP g v) k s q z n = runD r keep g (headP g v) v (degP g v) k s q z n := by
    intro k
    induction k with
    | zero => intros; rfl
    | succ k ih =>
      intro s q z n
      rw [runD, runD]
      simp only [e1, e2, e3, ih]
  exact key _ _ _ _ _

section
variable {w W W' : World} {o r : Option Nat} {s : MSt} {v : Value} {p : PZ} {N n0 n4 : Nat}
theorem MV.grown (h : MV W o s) (g : W.grownBy W' r) (hne : ∀ b, o = some b → some b ≠ r) : MV W' o s := fun b hb => ⟨(h b hb).1.grown g (hne b hb), (h b hb).2⟩
theorem RMV.grown (h : RMV W o s) (g : W.grownBy W' r) (hne : ∀ b, o = some b → some b ≠ r) : RMV W' o s := fun b hb => ⟨(h b hb).1.grown g (hne b hb), (h b hb).2⟩
/-- a polynomial in blocks from a number on -/
abbrev PL (N : Nat) (W : World) (v : Value) (p : PZ) : Prop := Terms (fun k => N ≤ k ∧ k < W.heap.size) W v (ofP p)
theorem PMN.pl (h : PMN N o W v p) : PL N W v p := h.to (Kept.refl _ _) (fun _ h => ⟨h.1, h.2.1⟩)
theorem PL.pv (h : PL N W v p) : PV W v p := h.to (Kept.refl _ _) (fun _ h => h.2)
theorem PL.low {M : Nat} (h : PL N W v p) (hM : M ≤ N) : PL M W v p := h.to (Kept.refl _ _) (fun _ h => ⟨Nat.le_trans hM h.1, h.2⟩)
theorem PL.on (h : PL N W v p) (g : W.grownBy W' o) (ho : ∀ b, o = some b → b < N) : PL N W' v p :=
  h.to (fun k hk => g.block k hk.2 (fun e => by have := ho k e.symm; have := hk.1; omega)) (fun k hk => ⟨hk.1, Nat.lt_of_lt_of_le hk.2 g.size⟩)
theorem PL.ext (h : PL N W v p) (g : Ext W W') : PL N W' v p := PL.on (o := none) h (gb_of_ext g none) (fun _ e => by cases e)
/-- a document's polynomial in blocks that are no meter's -/
abbrev SS (n0 n4 : Nat) (W : World) : Nat → Prop := fun k => k < W.heap.size ∧ (k < n0 ∨ n4 ≤ k)
abbrev DL (n0 n4 : Nat) (W : World) (v : Value) (p : PZ) : Prop := RTs (SS n0 n4 W) W v p
theorem DL.rv (h : DL n0 n4 W v p) : RV W v p := h.to (Kept.refl _ _) (fun _ h => h.1)
theorem DL.on (h : DL n0 n4 W v p) (g : W.grownBy W' o) (ho : ∀ b, o = some b → n0 ≤ b ∧ b < n4) : DL n0 n4 W' v p :=
  h.to (fun k hk => g.block k hk.1 (fun e => by have := ho k e.symm; rcases hk.2 with h | h <;> omega)) (fun k hk => ⟨Nat.lt_of_lt_of_le hk.1 g.size, hk.2⟩)
theorem DL.ext (h : DL n0 n4 W v p) (g : Ext W W') : DL n0 n4 W' v p := DL.on (o := none) h (gb_of_ext g none) (fun _ e => by cases e)
end

section
variable {w W : World} {o : Option Nat} {s : MSt} {vf vg : Value} {F G : PZ} {x : Int} {n4 : Nat}
end
end Go.Proofs.YthdcaablomgboaaGreat

namespace Go.Proofs.YthdcaablomgboaaGreat
open Go.RowKit

end Go.Proofs.YthdcaablomgboaaGreat

namespace Go.Proofs.YthdcaablomgboaaGreat
open Go.RowKit

/-- rising classes above a number -/
def mayZ (c : Int) : List PZ → Bool
  | [] => true
  | p :: l => if c < leadP p then mayZ (leadP p) l else false
theorem mayC_z {l : List PZ} (h : ∀ p ∈ l, canP p) : ∀ c, mayC c (l.map ofP) = mayZ c l := by
  induction l with
  | nil => intro c; rfl
  | cons p l ih =>
    intro c
    have hp := h p (List.mem_cons_self ..)
    show (if mayT (ofP p) && decide (c < leadP (plainP (ofP p))) then mayC (leadP (plainP (ofP p))) (l.map ofP) else false) = _
    rw [mayT_ofP hp, plainP_ofP hp, ih (fun q hq => h q (List.mem_cons_of_mem _ hq)), mayZ, Bool.true_and]
    by_cases g : c < leadP p
    · rw [decide_eq_true g, if_pos rfl, if_pos g]
    · rw [decide_eq_false g, if_neg (by decide), if_neg g]
end Go.Proofs.YthdcaablomgboaaGreat

namespace Go.Proofs.YthdcaablomgboaaGreat

section
variable {o r : Option Nat}
theorem mkeep_o (h : o = none ↔ r = none) (s : MSt) (p : PZ) : mkeep o s p = mkeep r s p := by
  cases o with
  | none => rw [h.1 rfl]
  | some a =>
    cases r with
    | none => exact absurd (h.2 rfl) (by simp)
    | some b => rfl
theorem cofD_o (h : o = none ↔ r = none) (P : PZ) (m : Nat) : ∀ (q : Nat) (s : MSt) (cs : List PZ), cofD o P m q s cs = cofD r P m q s cs := by
  intro q
  induction q with
  | zero => intros; rfl
  | succ q ih =>
    intro s cs
    rw [cofD, cofD, mkeep_o h, ih]
theorem roundC_o (h : o = none ↔ r = none) (w : Bool) (p : PZ) (m k : Nat) (D : DRes) (cs : List PZ) : roundC o w p m k D cs = roundC r w p m k D cs := by
  unfold roundC
  rw [mkeep_o h, cofD_o h]
theorem restD_o (h : o = none ↔ r = none) (w : Bool) (ls : List PZ) : ∀ (k : Nat) (s : MSt) (f : PZ) (ns : List Int) (cs : List PZ), restD o w ls k s f ns cs = restD r w ls k s f ns cs := by
  intro k
  induction k with
  | zero => intros; rfl
  | succ k ih =>
    intro s f ns cs
    have e : divK o w ls k s f = divK r w ls k s f := divD_o h _ _ _ _ _
    rw [restD, restD, e, roundC_o h, ih]
end

theorem mayZ_pos {l : List PZ} : ∀ {c : Int}, 0 ≤ c → mayZ c l = true → ∀ p ∈ l, 0 < leadP p := by
  induction l with
  | nil => intro c _ _ p hp; simp at hp
  | cons q r ih =>
    intro c hc h p hp
    rw [mayZ] at h
    split at h
    · rename_i h1
      rcases List.mem_cons.1 hp with rfl | hp
      · omega
      · exact ih (by omega) h p hp
    · cases h

theorem lim16 : Lim 99 12 4 4 50 := ⟨by decide, by decide, by decide, by decide, by decide, by decide, by decide, by decide⟩
theorem nrm16 {p : PZ} (h : Fit 3 6 p) : nrm p ≤ 2 ^ 99 := by
  have h1 := fit_nrm h
  rw [b32_two] at h1
  exact Nat.le_trans h1 (by decide)
theorem in16 {fu b c d : Int} {F : PZ} (hm : mayLimits fu b c d) (hfu : fu ≤ 12) (fF : Fit 3 6 F) (eF : exB 4 F) : InR 99 12 4 (MSt.new fu b c d) F :=
  ⟨new_okS hm, by show fu ≤ ((12 : Nat) : Int); exact hfu, fF.can, nrm16 fF, Nat.le_trans fF.2.2 (by decide), eF⟩
/-- the whole rest of a chain within the guards -/
theorem rest16 {fu b c d : Int} {F : PZ} {ls : List PZ} {k : Nat} (w : Bool) (hm : mayLimits fu b c d) (hfu : fu ≤ 12) (fF : Fit 3 6 F) (eF : exB 4 F) (hls : ∀ p ∈ ls, Fit 3 6 p ∧ exB 4 p) (hz : mayZ 0 ls = true) :
    RestFit (some k) w ls ls.length (MSt.new fu b c d) F (List.replicate ls.length []) ∧ ((restD (some k) w ls ls.length (MSt.new fu b c d) F (List.replicate ls.length 0) (List.replicate ls.length [])).1 = 0 →
      Fit 50 100000 (restD (some k) w ls ls.length (MSt.new fu b c d) F (List.replicate ls.length 0) (List.replicate ls.length [])).2.2.1 ∧
      ∀ i, i < ls.length → Fit 50 100000 ((restD (some k) w ls ls.length (MSt.new fu b c d) F (List.replicate ls.length 0) (List.replicate ls.length [])).2.2.2.2.getD i [])) := by
  have hch : ∀ p ∈ ls, ChP 99 4 3 6 p := fun p hp => ⟨(hls p hp).1, nrm16 (hls p hp).1, (hls p hp).2, mayZ_pos (Int.le_refl _) hz p hp⟩
  obtain ⟨h1, h2⟩ := in_rest (w := w) (b := k) lim16 hch (by decide) (by decide) (by decide) (by decide) ls.length (MSt.new fu b c d) F (List.replicate ls.length 0) (List.replicate ls.length []) (Nat.le_refl _) (by simp) (in16 hm hfu fF eF) (fun i hi => by
    rw [List.getD_eq_getElem?_getD, List.getElem?_replicate]
    split <;> exact inC_nil _)
  refine ⟨h1, fun h0 => ?_⟩
  obtain ⟨i1, i2⟩ := h2 h0
  refine ⟨i1.fit lim16, fun i hi => ?_⟩
  have hc := i2 i hi
  have hst := i1.st
  refine fit_bits hc.can hc.nc ?_ hc.len
  have h3 : (99 + 1) * (restD (some k) w ls ls.length (MSt.new fu b c d) F (List.replicate ls.length 0) (List.replicate ls.length [])).2.1.st.toNat ≤ (99 + 1) * 12 := Nat.mul_le_mul_left _ (by omega)
  omega
end Go.Proofs.YthdcaablomgboaaGreat

namespace Go.Proofs.YthdcaablomgboaaGreat
open Go.RowKit

theorem mstep_ok {b : Nat} {s : MSt} (h : (mstep (some b) s).1 = 0) : (mstep (some b) s).2 = { s with st := s.st + 1 } := by
  simp only [mstep, MSt.step] at h ⊢
  split
  · rfl
  · rename_i h1
    rw [if_neg h1] at h
    exact absurd h (by show ¬ (9 : Int) = 0; decide)
theorem mkeep_nil {b : Nat} {s : MSt} (hl : 0 ≤ s.li) (ht : 0 ≤ s.te) : mkeep (some b) s [] = (0, s) := by
  have h2 : mostLimbs (ofP []) (ofP []).length = 0 := rfl
  have h1 : (ofP []).length = 0 := rfl
  simp only [mkeep, MSt.keep]
  rw [h2, h1, if_neg (by omega), if_neg (by omega)]
theorem stepD_false {g h q q' r : PZ} {v d : Int} {x : PZ × PZ} (hs : stepD true g h v d q r = some x) : stepD false g h v d q' r = some ([], x.2) := by
  obtain ⟨t, l, m, ht, hl, hm, h2, -, -⟩ := stepD_some hs
  unfold stepD
  rw [ht]
  simp only
  rw [hl]
  simp only
  rw [hm]
  simp only [Bool.false_eq_true, if_false]
  rw [h2]
/-- a run without its quotient goes as the one with it -/
theorem run_false {b : Nat} {g h : PZ} {v d : Int} : ∀ (k : Nat) (s : MSt) (q r : PZ) (n : Nat), 0 ≤ s.li → 0 ≤ s.te → (runD (some b) true g h v d k s q r n).e = 0 →
    runD (some b) false g h v d k s [] r n = ⟨0, [], (runD (some b) true g h v d k s q r n).r, (runD (some b) true g h v d k s q r n).n, (runD (some b) true g h v d k s q r n).s⟩ := by
  intro k
  induction k with
  | zero => intros; rfl
  | succ k ih =>
    intro s q r n hl ht
    by_cases h1 : r = [] ∨ degP r v < d
    · intro _
      simp only [runD, if_pos h1]
    by_cases h2 : (mstep (some b) s).1 ≠ 0
    · intro he
      simp only [runD, if_neg h1, if_pos h2] at he
      exact absurd he h2
    cases hs : stepD true g h v d q r with
    | none =>
      intro he
      simp only [runD, if_neg h1, if_neg h2, hs] at he
      exact absurd he (by decide)
    | some x =>
      have hs2 := stepD_false (q' := []) hs
      have hm := mstep_ok (Decidable.not_not.1 h2)
      by_cases h3 : (mkeep (some b) (mstep (some b) s).2 x.2).1 ≠ 0
      · intro he
        simp only [runD, if_neg h1, if_neg h2, hs, if_pos h3] at he
        exact absurd he h3
      by_cases h4 : (mkeep (some b) (mstep (some b) s).2 x.1).1 ≠ 0
      · intro he
        simp only [runD, if_neg h1, if_neg h2, hs, if_neg h3, if_pos h4] at he
        exact absurd he h4
      have h5 : ¬ (mkeep (some b) (mstep (some b) s).2 []).1 ≠ 0 := by
        rw [mkeep_nil (by rw [hm]; exact hl) (by rw [hm]; exact ht)]
        exact fun h => h rfl
      simp only [runD, if_neg h1, if_neg h2, hs, hs2, if_neg h3, if_neg h4, if_neg h5]
      exact ih _ _ _ _ (by rw [hm]; exact hl) (by rw [hm]; exact ht)
/-- the meter behind a run that went well: so many steps more -/
theorem run_s {b : Nat} {keep : Bool} {g h : PZ} {v d : Int} : ∀ (k : Nat) (s : MSt) (q r : PZ) (n : Nat), (runD (some b) keep g h v d k s q r n).e = 0 →
    (runD (some b) keep g h v d k s q r n).s = { s with st := s.st + (((runD (some b) keep g h v d k s q r n).n : Int) - n) } := by
  intro k
  induction k with
  | zero => intro s q r n _; simp [runD]
  | succ k ih =>
    intro s q r n
    by_cases h1 : r = [] ∨ degP r v < d
    · intro _
      simp [runD, if_pos h1]
    by_cases h2 : (mstep (some b) s).1 ≠ 0
    · intro he
      simp only [runD, if_neg h1, if_pos h2] at he
      exact absurd he h2
    cases hs : stepD keep g h v d q r with
    | none =>
      intro he
      simp only [runD, if_neg h1, if_neg h2, hs] at he
      exact absurd he (by decide)
    | some x =>
      have hm := mstep_ok (Decidable.not_not.1 h2)
      by_cases h3 : (mkeep (some b) (mstep (some b) s).2 x.2).1 ≠ 0
      · intro he
        simp only [runD, if_neg h1, if_neg h2, hs, if_pos h3] at he
        exact absurd he h3
      by_cases h4 : (mkeep (some b) (mstep (some b) s).2 x.1).1 ≠ 0
      · intro he
        simp only [runD, if_neg h1, if_neg h2, hs, if_neg h3, if_pos h4] at he
        exact absurd he h4
      simp only [runD, if_neg h1, if_neg h2, hs, if_neg h3, if_neg h4]
      intro he
      rw [ih _ _ _ _ he, hm]
      have e : s.st + 1 + (((runD (some b) keep g h v d k { s with st := s.st + 1 } x.1 x.2 (n + 1)).n : Int) - ((n + 1 : Nat) : Int)) = s.st + (((runD (some b) keep g h v d k { s with st := s.st + 1 } x.1 x.2 (n + 1)).n : Int) - n) := by omega
      rw [e]
theorem div_false {b : Nat} {s : MSt} {f g : PZ} {v : Int} (hl : 0 ≤ s.li) (ht : 0 ≤ s.te) (he : (divD (some b) true s f g v).e = 0) : divD (some b) false s f g v = ⟨0, [], (divD (some b) true s f g v).r, (divD (some b) true s f g v).n, (divD (some b) true s f g v).s⟩ := run_false _ s [] f 0 hl ht he
theorem div_s {b : Nat} {keep : Bool} {s : MSt} {f g : PZ} {v : Int} (he : (divD (some b) keep s f g v).e = 0) : (divD (some b) keep s f g v).s = { s with st := s.st + ((divD (some b) keep s f g v).n : Int) } := by
  have h := run_s _ s [] f 0 he
  rw [show ((0 : Nat) : Int) = 0 from rfl, Int.sub_zero] at h
  exact h

theorem cofD_ok {b : Nat} {P : PZ} {m : Nat} : ∀ (q : Nat) (s : MSt) (cs : List PZ), (cofD (some b) P m q s cs).1 = 0 → (cofD (some b) P m q s cs).2.1 = s := by
  intro q
  induction q with
  | zero => intros; rfl
  | succ q ih =>
    intro s cs h
    rw [cofD] at h ⊢
    split
    · rename_i h0
      rw [if_pos h0] at h
      exact absurd h h0
    · rename_i h0
      rw [if_neg h0] at h
      rw [mkeep_ok (Decidable.not_not.1 h0)] at h ⊢
      exact ih _ _ h
theorem roundC_ok {b : Nat} {w : Bool} {p : PZ} {m k : Nat} {D : DRes} {cs : List PZ} (h : (roundC (some b) w p m k D cs).1 = 0) : D.e = 0 ∧ (roundC (some b) w p m k D cs).2.1 = D.s := by
  unfold roundC at h ⊢
  by_cases he : D.e ≠ 0
  · rw [if_pos he] at h; exact absurd h he
  rw [if_neg he] at h ⊢
  refine ⟨Decidable.not_not.1 he, ?_⟩
  by_cases hn : D.n = 0 ∨ w = false
  · rw [if_pos hn]
  rw [if_neg hn] at h ⊢
  by_cases hm : (mkeep (some b) D.s ((powN (initP p) D.n).getD [])).1 ≠ 0
  · rw [if_pos hm] at h; exact absurd h hm
  rw [if_neg hm] at h ⊢
  rw [mkeep_ok (Decidable.not_not.1 hm)] at h ⊢
  exact cofD_ok _ _ _ h
/-- one round, when it went well -/
theorem restD_step {b : Nat} {w : Bool} {ls : List PZ} {k : Nat} {s : MSt} {r : PZ} {ns : List Int} {cs : List PZ} (h : (restD (some b) w ls (k + 1) s r ns cs).1 = 0) :
    (divK (some b) w ls k s r).e = 0 ∧ (roundC (some b) w (ls.getD k []) ls.length k (divK (some b) w ls k s r) cs).1 = 0 ∧
    restD (some b) w ls (k + 1) s r ns cs = restD (some b) w ls k (divK (some b) w ls k s r).s (divK (some b) w ls k s r).r (ns.set k ((divK (some b) w ls k s r).n : Int)) (roundC (some b) w (ls.getD k []) ls.length k (divK (some b) w ls k s r) cs).2.2 := by
  rw [restD] at h
  by_cases h0 : (roundC (some b) w (ls.getD k []) ls.length k (divK (some b) w ls k s r) cs).1 ≠ 0
  · rw [if_pos h0] at h; exact absurd h h0
  obtain ⟨he, hs⟩ := roundC_ok (Decidable.not_not.1 h0)
  refine ⟨he, Decidable.not_not.1 h0, ?_⟩
  rw [restD, if_neg h0, hs]
/-- without its cofactors a rest goes as with them -/
theorem rest_false {b : Nat} {ls : List PZ} : ∀ (k : Nat) (s : MSt) (r : PZ) (ns : List Int) (cs cs' : List PZ), 0 ≤ s.li → 0 ≤ s.te → (restD (some b) true ls k s r ns cs).1 = 0 →
    (restD (some b) false ls k s r ns cs').1 = 0 ∧ (restD (some b) false ls k s r ns cs').2.1 = (restD (some b) true ls k s r ns cs).2.1 ∧ (restD (some b) false ls k s r ns cs').2.2.1 = (restD (some b) true ls k s r ns cs).2.2.1 ∧
      (restD (some b) false ls k s r ns cs').2.2.2.1 = (restD (some b) true ls k s r ns cs).2.2.2.1 := by
  intro k
  induction k with
  | zero => intros; exact ⟨rfl, rfl, rfl, rfl⟩
  | succ k ih =>
    intro s r ns cs cs' hl ht h
    obtain ⟨he, -, e1⟩ := restD_step h
    have hd := div_false hl ht he
    have e2 : roundC (some b) false (ls.getD k []) ls.length k (divK (some b) false ls k s r) cs' = (0, (divK (some b) true ls k s r).s, cs'.set k []) := by
      rw [show divK (some b) false ls k s r = _ from hd]
      unfold roundC
      rw [if_neg (fun h => h rfl), if_pos (.inr rfl)]
    have e3 : restD (some b) false ls (k + 1) s r ns cs' = restD (some b) false ls k (divK (some b) true ls k s r).s (divK (some b) true ls k s r).r (ns.set k ((divK (some b) true ls k s r).n : Int)) (cs'.set k []) := by
      rw [restD, e2, if_neg (fun h => h rfl), show divK (some b) false ls k s r = _ from hd]
    rw [e1] at h
    rw [e1, e3]
    have hs := div_s he
    exact ih _ _ _ _ _ (by rw [hs]; exact hl) (by rw [hs]; exact ht) h

/-- a power of one variable has no other -/
theorem powP_free {v u : Int} (huv : u ≠ v) {i : Nat} : ∀ t ∈ powP v i, ex t.2 u = 0 := by
  unfold powP
  split
  · intro t ht; rw [List.mem_singleton.1 ht]; rfl
  · intro t ht; rw [List.mem_singleton.1 ht, ex_one, if_neg (fun h => huv h.symm)]
theorem step_free {keep : Bool} {g h q r : PZ} {v d u E : Int} {x : PZ × PZ} (hg : canP g) (hh : canP h) (hr : canP r) (hv : 1 ≤ v ∧ v ≤ 200) (hd : 0 ≤ d) (hs : stepD keep g h v d q r = some x)
    (gu : ∀ t ∈ g, ex t.2 u = 0) (hu : ∀ t ∈ h, ex t.2 u = 0) (huv : u ≠ v) (hE : ∀ t ∈ r, ex t.2 u ≤ E) : ∀ t ∈ x.2, ex t.2 u ≤ E := by
  obtain ⟨t, l, m, ht, hl, hm, e2, -, -⟩ := stepD_some hs
  have ct := termD_can hr hv hd ht
  have cl := times_can ct hg hl
  have cm := times_can hh hr hm
  intro y hy
  rw [e2] at hy
  obtain ⟨z, hz, ez⟩ := norm_mem (may_append cm.may (negP_can cl).may) hy
  rw [← ez]
  rcases List.mem_append.1 hz with hz | hz
  · obtain ⟨a, ha, c, hc, hac⟩ := times_mem hh hr hm hz
    rw [hac u, hu a ha]
    have := hE c hc
    omega
  · obtain ⟨y', hy', e⟩ := negP_mem hz
    rw [← e]
    obtain ⟨a, ha, c, hc, hac⟩ := times_mem ct hg hl hy'
    rw [hac u, gu c hc]
    have hrg := degP_range hr.may v
    obtain ⟨a', ha', p, hp, hap⟩ := times_mem (coefP_can hr v _) (pow_can hv (by omega)) ht ha
    rw [hap u, powP_free huv p hp]
    obtain ⟨t0, ht0, -, rfl⟩ := coefP_mem ha'
    rw [ex_without, if_neg huv]
    have := hE t0 ht0
    omega
theorem run_free {b : Nat} {keep : Bool} {g : PZ} {v u E : Int} (hg : canP g) (hv : 1 ≤ v ∧ v ≤ 200) (hd : 0 ≤ degP g v) (gu : ∀ t ∈ g, ex t.2 u = 0) (huv : u ≠ v) :
    ∀ (k : Nat) (s : MSt) (q r : PZ) (n : Nat), canP q → canP r → (∀ t ∈ r, ex t.2 u ≤ E) → (runD (some b) keep g (headP g v) v (degP g v) k s q r n).e = 0 →
      ∀ t ∈ (runD (some b) keep g (headP g v) v (degP g v) k s q r n).r, ex t.2 u ≤ E := by
  have hh : canP (headP g v) := coefP_can hg v _
  have hu : ∀ t ∈ headP g v, ex t.2 u = 0 := fun t ht => by
    obtain ⟨t0, ht0, -, rfl⟩ := coefP_mem ht
    rw [ex_without, if_neg huv]
    exact gu t0 ht0
  intro k
  induction k with
  | zero => intro s q r n _ _ hE _; exact hE
  | succ k ih =>
    intro s q r n hq hr hE
    by_cases h1 : r = [] ∨ degP r v < degP g v
    · intro _
      simp only [runD, if_pos h1]
      exact hE
    by_cases h2 : (mstep (some b) s).1 ≠ 0
    · intro he
      simp only [runD, if_neg h1, if_pos h2] at he
      exact absurd he h2
    cases hs : stepD keep g (headP g v) v (degP g v) q r with
    | none =>
      intro he
      simp only [runD, if_neg h1, if_neg h2, hs] at he
      exact absurd he (by decide)
    | some x =>
      by_cases h3 : (mkeep (some b) (mstep (some b) s).2 x.2).1 ≠ 0
      · intro he
        simp only [runD, if_neg h1, if_neg h2, hs, if_pos h3] at he
        exact absurd he h3
      by_cases h4 : (mkeep (some b) (mstep (some b) s).2 x.1).1 ≠ 0
      · intro he
        simp only [runD, if_neg h1, if_neg h2, hs, if_neg h3, if_pos h4] at he
        exact absurd he h4
      simp only [runD, if_neg h1, if_neg h2, hs, if_neg h3, if_neg h4]
      obtain ⟨c1, c2⟩ := stepD_can hg hh hq hr hv hd hs
      exact ih _ _ _ _ c1 c2 (step_free hg hh hr hv hd hs gu hu huv hE)

/-- polynomials of rising classes above 0 -/
structure Chain16 (ls : List PZ) : Prop where
  can : ∀ p ∈ ls, canP p
  pos : ∀ p ∈ ls, 0 < leadP p
  up : ∀ i j, i < j → j < ls.length → leadP (ls.getD i []) < leadP (ls.getD j [])
theorem mayZ_up {l : List PZ} : ∀ {c : Int}, mayZ c l = true → (∀ j, j < l.length → c < leadP (l.getD j [])) ∧ ∀ i j, i < j → j < l.length → leadP (l.getD i []) < leadP (l.getD j []) := by
  induction l with
  | nil => intro c _; exact ⟨fun j hj => absurd hj (Nat.not_lt_zero _), fun i j _ hj => absurd hj (Nat.not_lt_zero _)⟩
  | cons p r ih =>
    intro c h
    rw [mayZ] at h
    split at h
    · rename_i h1
      obtain ⟨a1, a2⟩ := ih h
      refine ⟨fun j hj => ?_, fun i j hij hj => ?_⟩
      · cases j with
        | zero => exact h1
        | succ j =>
          have := a1 j (by simpa using hj)
          rw [List.getD_cons_succ]
          omega
      · cases j with
        | zero => omega
        | succ j =>
          rw [List.getD_cons_succ]
          cases i with
          | zero => exact a1 j (by simpa using hj)
          | succ i =>
            rw [List.getD_cons_succ]
            exact a2 i j (by omega) (by simpa using hj)
    · cases h
theorem chain_of {ls : List PZ} (hc : ∀ p ∈ ls, canP p) (h : mayZ 0 ls = true) : Chain16 ls := ⟨hc, mayZ_pos (Int.le_refl _) h, (mayZ_up h).2⟩
theorem Chain16.range {ls : List PZ} (h : Chain16 ls) {k : Nat} (hk : k < ls.length) : canP (ls.getD k []) ∧ (1 ≤ leadP (ls.getD k []) ∧ leadP (ls.getD k []) ≤ 200) ∧ 1 ≤ degP (ls.getD k []) (leadP (ls.getD k [])) := by
  have h1 := getD_all h.can hk
  have h2 := getD_all h.pos hk
  exact ⟨h1, ⟨h2, (leadP_range h1).2⟩, by have := deg_lead_pos h1 h2; omega⟩
theorem run_deg {b : Nat} {keep : Bool} {g : PZ} {v : Int} (hg : canP g) (hv : 1 ≤ v ∧ v ≤ 200) (hd1 : 1 ≤ degP g v) :
    ∀ (k : Nat) (s : MSt) (q r : PZ) (n : Nat), canP q → canP r → degP r v < (k : Int) → (runD (some b) keep g (headP g v) v (degP g v) k s q r n).e = 0 →
      canP (runD (some b) keep g (headP g v) v (degP g v) k s q r n).r ∧ ((runD (some b) keep g (headP g v) v (degP g v) k s q r n).r = [] ∨ degP (runD (some b) keep g (headP g v) v (degP g v) k s q r n).r v < degP g v) := by
  have hh : canP (headP g v) := coefP_can hg v _
  intro k
  induction k with
  | zero =>
    intro s q r n _ hr hk
    have := (degP_range hr.may v).1
    omega
  | succ k ih =>
    intro s q r n hq hr hk
    by_cases h1 : r = [] ∨ degP r v < degP g v
    · intro _
      simp only [runD, if_pos h1]
      exact ⟨hr, h1⟩
    by_cases h2 : (mstep (some b) s).1 ≠ 0
    · intro he
      simp only [runD, if_neg h1, if_pos h2] at he
      exact absurd he h2
    cases hs : stepD keep g (headP g v) v (degP g v) q r with
    | none =>
      intro he
      simp only [runD, if_neg h1, if_neg h2, hs] at he
      exact absurd he (by decide)
    | some x =>
      by_cases h3 : (mkeep (some b) (mstep (some b) s).2 x.2).1 ≠ 0
      · intro he
        simp only [runD, if_neg h1, if_neg h2, hs, if_pos h3] at he
        exact absurd he h3
      by_cases h4 : (mkeep (some b) (mstep (some b) s).2 x.1).1 ≠ 0
      · intro he
        simp only [runD, if_neg h1, if_neg h2, hs, if_neg h3, if_pos h4] at he
        exact absurd he h4
      simp only [runD, if_neg h1, if_neg h2, hs, if_neg h3, if_neg h4]
      obtain ⟨c1, c2⟩ := stepD_can hg hh hq hr hv (by omega) hs
      have hr0 : r ≠ [] := fun e => h1 (.inl e)
      have hdr : degP g v ≤ degP r v := by
        rcases Int.lt_or_le (degP r v) (degP g v) with h | h
        · exact absurd (.inr h) h1
        · exact h
      have hdg := (stepD_deg hg hr hr0 hv hd1 hdr hs).2
      exact ih _ _ _ _ c1 c2 (by omega)
theorem div_deg {b : Nat} {keep : Bool} {s : MSt} {f g : PZ} {v : Int} (hf : canP f) (hg : canP g) (hv : 1 ≤ v ∧ v ≤ 200) (hd1 : 1 ≤ degP g v) (he : (divD (some b) keep s f g v).e = 0) :
    canP (divD (some b) keep s f g v).r ∧ ((divD (some b) keep s f g v).r = [] ∨ degP (divD (some b) keep s f g v).r v < degP g v) :=
  run_deg hg hv hd1 _ s [] f 0 canP_nil hf (by have := (degP_range hf.may v).1; omega) he
/-- the rest is reduced by each -/
theorem rest_red {b : Nat} {w : Bool} {ls : List PZ} (H : Chain16 ls) : ∀ (k : Nat) (s : MSt) (r : PZ) (ns : List Int) (cs : List PZ), k ≤ ls.length → canP r → (restD (some b) w ls k s r ns cs).1 = 0 →
    canP (restD (some b) w ls k s r ns cs).2.2.1 ∧ (∀ i, i < k → degP (restD (some b) w ls k s r ns cs).2.2.1 (leadP (ls.getD i [])) < degP (ls.getD i []) (leadP (ls.getD i []))) ∧
      ∀ u E : Int, (∀ i, i < k → leadP (ls.getD i []) < u) → (∀ t ∈ r, ex t.2 u ≤ E) → ∀ t ∈ (restD (some b) w ls k s r ns cs).2.2.1, ex t.2 u ≤ E := by
  intro k
  induction k with
  | zero => intro s r ns cs _ hr _; exact ⟨hr, fun i hi => absurd hi (Nat.not_lt_zero _), fun _ _ _ h => h⟩
  | succ k ih =>
    intro s r ns cs hk hr h
    obtain ⟨he, -, e1⟩ := restD_step h
    obtain ⟨hc, hv, hd⟩ := H.range (k := k) (by omega)
    obtain ⟨gr, gd⟩ := div_deg hr hc hv hd he
    rw [e1] at h ⊢
    obtain ⟨i1, i2, i3⟩ := ih (divK (some b) w ls k s r).s (divK (some b) w ls k s r).r _ _ (by omega) gr h
    refine ⟨i1, fun i hi => ?_, fun u E hu hE => ?_⟩
    · by_cases hik : i = k
      · subst hik
        have h1 : ∀ t ∈ (divK (some b) w ls i s r).r, ex t.2 (leadP (ls.getD i [])) ≤ degP (ls.getD i []) (leadP (ls.getD i [])) - 1 := fun t ht => by
          have h2 := degP_le_mem ht (leadP (ls.getD i []))
          rcases gd with h3 | h3
          · rw [show (divK (some b) w ls i s r).r = [] from h3] at ht
            cases ht
          · have h4 : degP (divK (some b) w ls i s r).r (leadP (ls.getD i [])) < degP (ls.getD i []) (leadP (ls.getD i [])) := h3
            omega
        have h2 := i3 _ _ (fun j hj => H.up j i hj (by omega)) h1
        have h3 := degP_le (v := leadP (ls.getD i [])) (by omega) h2
        omega
      · exact i2 i (by omega)
    · refine i3 u E (fun i hi => hu i (by omega)) ?_
      have hlt := hu k (by omega)
      exact run_free hc hv (by omega) (fun t ht => by
        have h1 : ¬ 0 < ex t.2 u := fun h2 => by
          have := ex_le_lead hc ht h2
          omega
        have h2 := (ex_range (hc.may t ht) u).1
        omega) (by omega) _ s [] r 0 canP_nil hr hE he

/-- products of initials' powers, and sums of products, as lists of terms -/
def hprod (ls : List PZ) (ns : List Int) : Nat → PZ
  | 0 => [(1, [])]
  | k + 1 => mulL (hprod ls ns k) (hpow (initP (ls.getD k [])) (ns.getD k 0).toNat)
def qsum (ls cs : List PZ) : Nat → PZ
  | 0 => []
  | k + 1 => qsum ls cs k ++ mulL (ls.getD k []) (cs.getD k [])
def nsum (ns : List Int) : Nat → Nat
  | 0 => 0
  | k + 1 => nsum ns k + (ns.getD k 0).toNat
theorem nsum_mono (ns : List Int) : ∀ {k m : Nat}, k ≤ m → nsum ns k ≤ nsum ns m := by
  intro k m h
  induction m with
  | zero => rw [show k = 0 by omega]; exact Nat.le_refl _
  | succ m ih =>
    by_cases e : k = m + 1
    · rw [e]; exact Nat.le_refl _
    · have := ih (by omega)
      rw [nsum]
      omega
theorem hprod_ok {ls : List PZ} (H : Chain16 ls) (ns : List Int) : ∀ k, k ≤ ls.length → okAll (hprod ls ns k)
  | 0, _ => unit_ok
  | k + 1, h => mulL_ok (hprod_ok H ns k (by omega)) (hpow_ok (may_okAll (initP_can (getD_all H.can (k := k) (by omega))).may) _)

theorem powN_eqv {h : PZ} (ch : canP h) : ∀ {n : Nat} {P : PZ}, powN h n = some P → Eqv P (hpow h n) := by
  intro n
  induction n with
  | zero => intro P hP; cases hP; exact Eqv.refl _
  | succ n ih =>
    intro P hP
    rw [powN] at hP
    cases hp : powN h n with
    | none => rw [hp] at hP; cases hP
    | some p =>
      rw [hp] at hP
      obtain ⟨hm, rfl⟩ := times_some (powN_can ch hp).may ch.may hP
      exact (norm_eqv hm).trans (Eqv.mul (ih hp) (Eqv.refl h))
theorem cofD_eqv {b : Nat} {P : PZ} {m : Nat} (cP : canP P) : ∀ (q : Nat) (s : MSt) (cs : List PZ), q ≤ m → cs.length = m → (∀ i, i < m → canP (cs.getD i [])) → CofFit (some b) P m q s cs → (cofD (some b) P m q s cs).1 = 0 →
    ∀ i, i < m → canP ((cofD (some b) P m q s cs).2.2.getD i []) ∧ (m - q ≤ i → Eqv ((cofD (some b) P m q s cs).2.2.getD i []) (mulL (cs.getD i []) P)) ∧ (i < m - q → (cofD (some b) P m q s cs).2.2.getD i [] = cs.getD i []) := by
  intro q
  induction q with
  | zero => intro s cs _ _ hc _ _ i hi; exact ⟨hc i hi, fun h => by omega, fun _ => rfl⟩
  | succ q ih =>
    intro s cs hq hl hc hF h i hi
    rw [CofFit] at hF
    rw [cofD] at h ⊢
    obtain ⟨hS, hF⟩ := hF
    have hcs := hc (m - (q + 1)) (by omega)
    obtain ⟨hm, hnm⟩ := times_some hcs.may cP.may hS.some
    obtain ⟨c, hce⟩ : ∃ c, c = (timesP (cs.getD (m - (q + 1)) []) P).getD [] := ⟨_, rfl⟩
    rw [← hce] at hF h hnm ⊢
    have cc : canP c := by rw [hnm]; exact norm_can hm
    have hcv : Eqv c (mulL (cs.getD (m - (q + 1)) []) P) := by rw [hnm]; exact norm_eqv hm
    by_cases h0 : (mkeep (some b) s c).1 ≠ 0
    · rw [if_pos h0] at h; exact absurd h h0
    rw [if_neg h0] at h ⊢
    have gs := fun j => set_getD (cs := cs) (i := m - (q + 1)) (c := c) (by omega) j
    obtain ⟨a1, a2, a3⟩ := ih _ (cs.set (m - (q + 1)) c) (by omega) (by rw [List.length_set]; exact hl) (fun j hj => by
      rw [gs]
      split
      · exact cc
      · exact hc j hj) (hF (Decidable.not_not.1 h0)) h i hi
    refine ⟨a1, fun h1 => ?_, fun h1 => ?_⟩
    · by_cases e : i = m - (q + 1)
      · rw [a3 (by omega), gs, if_pos e, e]
        exact hcv
      · have h2 := a2 (by omega)
        rwa [gs, if_neg e] at h2
    · rw [a3 (by omega), gs, if_neg (by omega)]
theorem round_eqv {b : Nat} {p : PZ} {m k : Nat} {D : DRes} {cs : List PZ} (hp : canP p) (hk : k < m) (hl : cs.length = m) (hc : ∀ i, i < m → canP (cs.getD i [])) (cq : canP D.q)
    (hfit : D.n ≠ 0 → RoundFit (some b) p m k D cs) (h0 : (roundC (some b) true p m k D cs).1 = 0) :
    ∀ i, i < m → canP ((roundC (some b) true p m k D cs).2.2.getD i []) ∧ (i < k → (roundC (some b) true p m k D cs).2.2.getD i [] = cs.getD i []) ∧ (i = k → (roundC (some b) true p m k D cs).2.2.getD i [] = D.q) ∧
      (k < i → Eqv ((roundC (some b) true p m k D cs).2.2.getD i []) (mulL (cs.getD i []) (hpow (initP p) D.n))) := by
  intro i hi
  have gs := fun j => set_getD (cs := cs) (i := k) (c := D.q) (by omega) j
  have hset : ∀ j, j < m → canP ((cs.set k D.q).getD j []) := fun j hj => by
    rw [gs]
    split
    · exact cq
    · exact hc j hj
  unfold roundC at h0 ⊢
  by_cases he : D.e ≠ 0
  · rw [if_pos he] at h0; exact absurd h0 he
  rw [if_neg he] at h0 ⊢
  by_cases hn : D.n = 0
  · rw [if_pos (.inl hn)]
    refine ⟨hset i hi, fun h => by rw [gs, if_neg (by omega)], fun h => by rw [gs, if_pos h], fun h => ?_⟩
    rw [gs, if_neg (by omega), hn, hpow, mul_unit (may_okAll (hc i hi).may)]
    exact Eqv.refl _
  rw [if_neg (fun h => h.elim hn (fun h => by cases h))] at h0 ⊢
  have F := hfit hn
  have cP := powN_can (initP_can hp) F.pow
  have eP := powN_eqv (initP_can hp) F.pow
  have hcof := F.cof
  generalize (powN (initP p) D.n).getD [] = P at h0 cP eP hcof ⊢
  by_cases hm : (mkeep (some b) D.s P).1 ≠ 0
  · rw [if_pos hm] at h0; exact absurd h0 hm
  rw [if_neg hm] at h0 ⊢
  obtain ⟨a1, a2, a3⟩ := cofD_eqv cP (m - (k + 1)) _ (cs.set k D.q) (by omega) (by rw [List.length_set]; exact hl) hset (hcof (Decidable.not_not.1 hm)) h0 i hi
  refine ⟨a1, fun h => ?_, fun h => ?_, fun h => ?_⟩
  · rw [a3 (by omega), gs, if_neg (by omega)]
  · rw [a3 (by omega), gs, if_pos h]
  · have h2 := a2 (by omega)
    rw [gs, if_neg (by omega)] at h2
    exact h2.trans (Eqv.mul (Eqv.refl _) eP)
theorem ints_set {ns : List Int} {i : Nat} {z : Int} (hi : i < ns.length) (k : Nat) : (ns.set i z).getD k 0 = if k = i then z else ns.getD k 0 := by
  simp only [List.getD_eq_getElem?_getD, List.getElem?_set]
  by_cases e : i = k
  · subst e
    rw [if_pos rfl, if_pos rfl, if_pos hi]
    rfl
  · rw [if_neg e, if_neg (fun h => e h.symm)]
/-- what a rest with its cofactors is -/
structure RestId (ls : List PZ) (k : Nat) (s : MSt) (r : PZ) (ns : List Int) (cs : List PZ) (X : Int × MSt × PZ × List Int × List PZ) : Prop where
  cr : canP X.2.2.1
  nl : X.2.2.2.1.length = ls.length
  cl : X.2.2.2.2.length = ls.length
  cc : ∀ i, i < ls.length → canP (X.2.2.2.2.getD i [])
  same : ∀ j, k ≤ j → X.2.2.2.1.getD j 0 = ns.getD j 0
  pos : ∀ j, j < k → 0 ≤ X.2.2.2.1.getD j 0
  st : X.2.1.st = s.st + (nsum X.2.2.2.1 k : Int)
  cof : ∀ j, k ≤ j → j < ls.length → Eqv (X.2.2.2.2.getD j []) (mulL (cs.getD j []) (hprod ls X.2.2.2.1 k))
  ident : Eqv (mulL (hprod ls X.2.2.2.1 k) r) (X.2.2.1 ++ qsum ls X.2.2.2.2 k)
theorem rest_ident {b : Nat} {ls : List PZ} (H : Chain16 ls) : ∀ (k : Nat) (s : MSt) (r : PZ) (ns : List Int) (cs : List PZ), k ≤ ls.length → cs.length = ls.length → ns.length = ls.length → canP r → (∀ i, i < ls.length → canP (cs.getD i [])) →
    RestFit (some b) true ls k s r cs → (restD (some b) true ls k s r ns cs).1 = 0 → RestId ls k s r ns cs (restD (some b) true ls k s r ns cs) := by
  intro k
  induction k with
  | zero =>
    intro s r ns cs _ hcl hnl hr hc _ _
    refine ⟨hr, hnl, hcl, hc, fun j _ => rfl, fun j hj => absurd hj (Nat.not_lt_zero _), by show s.st = s.st + ((0 : Nat) : Int); omega, fun j _ hj => ?_, ?_⟩
    · show Eqv (cs.getD j []) (mulL (cs.getD j []) [(1, [])])
      rw [mul_unit (may_okAll (hc j hj).may)]
      exact Eqv.refl _
    · show Eqv (mulL [(1, [])] r) (r ++ [])
      rw [List.append_nil]
      have h1 := mul_comm_eqv unit_ok (may_okAll hr.may)
      rwa [mul_unit (may_okAll hr.may)] at h1
  | succ k ih =>
    intro s r ns cs hk hcl hnl hr hc hF h
    obtain ⟨he, hr0, e1⟩ := restD_step h
    obtain ⟨hp, hv, hd⟩ := H.range (k := k) (by omega)
    have G := div_good hr hp hv hd he
    have hs := div_s he
    rw [RestFit] at hF
    obtain ⟨-, hF1, hF2⟩ := hF
    have hF1 := fun hn => hF1 he hn rfl
    have hF2 := hF2 hr0
    rw [(roundC_ok hr0).2] at hF2
    have RE := round_eqv hp (by omega) hcl hc G.cq hF1 hr0
    have hlen := roundC_len hr0
    have hhead : headP (ls.getD k []) (leadP (ls.getD k [])) = initP (ls.getD k []) := by
      unfold initP headP
      rw [if_neg (by omega)]
    rw [e1] at h ⊢
    have I := ih _ _ _ _ (by omega) (hlen.trans hcl) (by rw [List.length_set]; exact hnl) G.cr (fun i hi => (RE i hi).1) hF2 h
    have hid := G.ident
    rw [hhead] at hid
    have gs := fun j => ints_set (ns := ns) (i := k) (z := ((divK (some b) true ls k s r).n : Int)) (by omega) j
    generalize hX : restD (some b) true ls k (divK (some b) true ls k s r).s (divK (some b) true ls k s r).r (ns.set k ((divK (some b) true ls k s r).n : Int)) (roundC (some b) true (ls.getD k []) ls.length k (divK (some b) true ls k s r) cs).2.2 = X at I ⊢
    have hnk : X.2.2.2.1.getD k 0 = ((divK (some b) true ls k s r).n : Int) := by rw [I.same k (Nat.le_refl _), gs, if_pos rfl]
    have hnk2 : (X.2.2.2.1.getD k 0).toNat = (divK (some b) true ls k s r).n := by rw [hnk]; exact Int.toNat_natCast _
    have oH := hprod_ok H X.2.2.2.1 k (by omega)
    have oI := hpow_ok (may_okAll (initP_can hp).may) (divK (some b) true ls k s r).n
    have hH : hprod ls X.2.2.2.1 (k + 1) = mulL (hprod ls X.2.2.2.1 k) (hpow (initP (ls.getD k [])) (divK (some b) true ls k s r).n) := by rw [hprod, hnk2]
    have op := may_okAll hp.may
    have oq := may_okAll G.cq.may
    have or := may_okAll hr.may
    refine ⟨I.cr, I.nl, I.cl, I.cc, fun j hj => ?_, fun j hj => ?_, ?_, fun j hj hj2 => ?_, ?_⟩
    · rw [I.same j (by omega), gs, if_neg (by omega)]
    · by_cases e : j = k
      · rw [e, hnk]
        omega
      · exact I.pos j (by omega)
    · rw [I.st, show (divK (some b) true ls k s r).s = _ from hs, nsum, hnk2]
      show s.st + _ + _ = _
      rw [Int.natCast_add]
      have : ((divD (some b) true s r (ls.getD k []) (leadP (ls.getD k []))).n : Int) = ((divK (some b) true ls k s r).n : Int) := rfl
      omega
    · rw [hH]
      have h1 := I.cof j (by omega) hj2
      have h2 := (RE j hj2).2.2.2 (by omega)
      have oc := may_okAll (hc j hj2).may
      -- (c hpow) H = c (H hpow)
      exact h1.trans ((Eqv.mul h2 (Eqv.refl _)).trans ((mul_assoc_eqv oc oI oH).trans (Eqv.mul (Eqv.refl _) (mul_comm_eqv oI oH))))
    · rw [hH, qsum]
      have h1 := I.cof k (Nat.le_refl _) (by omega)
      rw [(RE k (by omega)).2.2.1 rfl] at h1
      -- H hpow r = H (hpow r) = H (q p ++ r')
      have h2 : Eqv (mulL (mulL (hprod ls X.2.2.2.1 k) (hpow (initP (ls.getD k [])) (divK (some b) true ls k s r).n)) r) (mulL (hprod ls X.2.2.2.1 k) (mulL (divK (some b) true ls k s r).q (ls.getD k [])) ++ mulL (hprod ls X.2.2.2.1 k) (divK (some b) true ls k s r).r) :=
        (mul_assoc_eqv oH oI or).trans ((Eqv.mul (Eqv.refl _) hid).trans (mul_add_right _ _ _))
      have h3 : Eqv (mulL (hprod ls X.2.2.2.1 k) (mulL (divK (some b) true ls k s r).q (ls.getD k []))) (mulL (ls.getD k []) (X.2.2.2.2.getD k [])) :=
        (mul_comm_eqv oH (mulL_ok oq op)).trans ((Eqv.mul (mul_comm_eqv oq op) (Eqv.refl _)).trans ((mul_assoc_eqv op oq oH).trans (Eqv.mul (Eqv.refl _) h1.symm)))
      intro f
      have a2 := h2 f
      have a3 := h3 f
      have a4 := I.ident f
      rw [ev_append] at a2 a4
      rw [a2, ev_append, ev_append, a3, a4]
      omega
end Go.Proofs.YthdcaablomgboaaGreat

namespace Go.Proofs.YthdcaablomgboaaGreat
open Go.RowKit

theorem six_pow {n : Nat} (h : n ≤ 13) : 6 ^ n ≤ 13060694016 := Nat.le_trans (Nat.pow_le_pow_right (by decide) h) (by decide)
theorem sound_step {x : PZ × PZ} {p c : PZ} {n : Int} {k a : Nat} (hx : canP x.1) (nx : nrm x.1 ≤ 2 ^ (99 * (a + 1))) (lx : x.1.length ≤ 6 ^ (a + 1)) (ex1 : exB (4 * ((a : Int) + 1)) x.1) (fy : Fit (60 + 2 * k) (100000 + 600000 * k) x.2) (hk : k ≤ 3)
    (hp : ChP 99 4 3 6 p) (fc : Fit 50 100000 c) (ec : exB 52 c) (hn : 0 ≤ n) (han : a + n.toNat ≤ 12) :
    IdStep x (idNext x p c n.toNat) p c n n.toNat ((powN (initP p) n.toNat).getD []) ((timesP p c).getD []) ∧ (canP (idNext x p c n.toNat).1 ∧ nrm (idNext x p c n.toNat).1 ≤ 2 ^ (99 * (a + n.toNat + 1)) ∧ (idNext x p c n.toNat).1.length ≤ 6 ^ (a + n.toNat + 1) ∧ exB (4 * (((a + n.toNat : Nat) : Int) + 1)) (idNext x p c n.toNat).1) ∧
      Fit (60 + 2 * (k + 1)) (100000 + 600000 * (k + 1)) (idNext x p c n.toNat).2 ∧ Eqv (idNext x p c n.toNat).1 (mulL x.1 (hpow (initP p) n.toNat)) ∧ Eqv (idNext x p c n.toNat).2 (x.2 ++ mulL p c) := by
  obtain ⟨N, hN⟩ : ∃ N, N = n.toNat := ⟨_, rfl⟩
  have hnN : n = (N : Int) := by omega
  rw [← hN] at han ⊢
  obtain ⟨P, hP, cP, nP, eP⟩ := in_pow lim16 hp (n := N) (by omega)
  have h6 := six_pow (n := a + 1 + N) (by omega)
  rw [Nat.pow_add] at h6
  have h6a := six_pow (n := a + 1) (by omega)
  have h6n := six_pow (n := N) (by omega)
  have fP := powN_fit hp.fit.init (by decide) N P (by omega) hP
  have eP' : exB (4 * (N : Int)) P := eP
  have f1 : Fit (99 * (a + 1) / 32 + 1) (6 ^ (a + 1)) x.1 := nrm_fit hx (by rw [b32_two]; exact Nat.lt_of_le_of_lt nx (pow2_lt (by omega))) lx
  have f2 : Fit (99 * N / 32 + 1) (6 ^ N) P := nrm_fit cP (by rw [b32_two]; exact Nat.lt_of_le_of_lt nP (pow2_lt (by omega))) fP.2.2
  obtain ⟨y, hy, cy, ey, vy, -⟩ := ex1.times eP' hx cP (by omega)
  have ep : exB (4 : Int) p := hp.ex
  obtain ⟨b, hb, cb, eb, vb, -⟩ := ep.times ec hp.fit.can fc.can (by decide)
  have fy1 := f1.times f2 hy (by omega)
  have fb := hp.fit.times fc hb (by decide)
  have hnx : idNext x p c N = (y, normP (x.2 ++ b)) := by unfold idNext; rw [hP, hb, Option.getD_some, Option.getD_some, hy, Option.getD_some]
  rw [hP, hb, Option.getD_some, Option.getD_some, hnx]
  have hm2 : mayAll (x.2 ++ b) := may_append fy.can.may cb.may
  have hBC : 99 * (a + 1) / 32 + 1 < 24 ∨ 99 * N / 32 + 1 < 24 := by omega
  refine ⟨⟨hnN, by omega, ⟨3, 6, 99 * (a + 1) / 32 + 1, 6 ^ (a + 1), 99 * N / 32 + 1, 6 ^ N, 50, 100000, 60 + 2 * k, 100000 + 600000 * k, 55, 600000, hp.fit, by decide, by decide, by decide, by omega, f1, f2, hBC, by omega, by omega, by omega, by omega, by omega, fc, by decide, by decide, by decide, fy, by omega, fb, by decide, by omega⟩, hP, hy, hb, rfl⟩, ⟨cy, ?_, ?_, ?_⟩, ?_, ?_, ?_⟩
  · refine Nat.le_trans (nrm_times hx.may cP.may hy) (Nat.le_trans (Nat.mul_le_mul nx nP) ?_)
    rw [← Nat.pow_add]
    exact pow2_le (by omega)
  · refine Nat.le_trans fy1.2.2 ?_
    rw [← Nat.pow_add]
    exact Nat.pow_le_pow_right (by decide) (by omega)
  · exact ey.le (by omega)
  · exact (fy.add (fb.mono (l := 60 + 2 * k) (by omega) (Nat.le_refl _)) (by omega)).mono (by omega) (by omega)
  · exact vy.trans (Eqv.mul (Eqv.refl _) (powN_eqv hp.fit.init.can hP))
  · exact (norm_eqv hm2).trans (Eqv.append (Eqv.refl _) vb)
/-- what the rounds are within -/
structure SoundAt (F R : PZ) (ls cs : List PZ) (ns : List Int) (k : Nat) : Prop where
  can : canP (idXs F R ls cs ns k).1
  nr : nrm (idXs F R ls cs ns k).1 ≤ 2 ^ (99 * (nsum ns k + 1))
  len : (idXs F R ls cs ns k).1.length ≤ 6 ^ (nsum ns k + 1)
  ex : exB (4 * ((nsum ns k : Int) + 1)) (idXs F R ls cs ns k).1
  right : Fit (60 + 2 * k) (100000 + 600000 * k) (idXs F R ls cs ns k).2
  el : Eqv (idXs F R ls cs ns k).1 (mulL F (hprod ls ns k))
  er : Eqv (idXs F R ls cs ns k).2 (R ++ qsum ls cs k)
theorem sound_run {F R : PZ} {ls cs : List PZ} {ns : List Int} (hF : Fit 3 6 F) (eF : exB 4 F) (hls : ∀ p ∈ ls, ChP 99 4 3 6 p) (H : Chain16 ls) (h4 : ls.length ≤ 4) (hR : Fit 50 100000 R)
    (hcs : ∀ i, i < ls.length → Fit 50 100000 (cs.getD i []) ∧ exB 52 (cs.getD i [])) (hn : ∀ j, j < ls.length → 0 ≤ ns.getD j 0) (hsum : nsum ns ls.length ≤ 12) :
    ∀ k, k ≤ ls.length → SoundAt F R ls cs ns k := by
  intro k
  induction k with
  | zero =>
    intro _
    refine ⟨hF.can, by rw [nsum]; exact nrm16 hF, hF.2.2, eF, hR.mono (by decide) (by decide), ?_, ?_⟩
    · show Eqv F (mulL F [(1, [])])
      rw [mul_unit (may_okAll hF.can.may)]
      exact Eqv.refl _
    · show Eqv R (R ++ [])
      rw [List.append_nil]
      exact Eqv.refl _
  | succ k ih =>
    intro hk
    have S := ih (by omega)
    have hp := getD_all hls (k := k) (by omega)
    have hc := hcs k (by omega)
    have hs := nsum_mono ns (k := k + 1) hk
    rw [nsum] at hs
    obtain ⟨-, ⟨a1, a2, a3, a4⟩, a5, a6, a7⟩ := sound_step S.can S.nr S.len S.ex S.right (by omega) hp hc.1 hc.2 (hn k (by omega)) (by omega)
    have oF := may_okAll hF.can.may
    have oH := hprod_ok H ns k (by omega)
    have oI := hpow_ok (may_okAll hp.fit.init.can.may) (ns.getD k 0).toNat
    refine ⟨a1, a2, a3, a4, a5, a6.trans ((Eqv.mul S.el (Eqv.refl _)).trans (mul_assoc_eqv oF oH oI)), a7.trans ((Eqv.append S.er (Eqv.refl _)).trans ?_)⟩
    rw [List.append_assoc]
    exact Eqv.refl _
theorem sound_steps {F R : PZ} {ls cs : List PZ} {ns : List Int} (hF : Fit 3 6 F) (eF : exB 4 F) (hls : ∀ p ∈ ls, ChP 99 4 3 6 p) (H : Chain16 ls) (h4 : ls.length ≤ 4) (hR : Fit 50 100000 R)
    (hcs : ∀ i, i < ls.length → Fit 50 100000 (cs.getD i []) ∧ exB 52 (cs.getD i [])) (hn : ∀ j, j < ls.length → 0 ≤ ns.getD j 0) (hsum : nsum ns ls.length ≤ 12) (k : Nat) (hk : k < ls.length) :
    IdStep (idXs F R ls cs ns k) (idXs F R ls cs ns (k + 1)) (ls.getD k []) (cs.getD k []) (ns.getD k 0) (ns.getD k 0).toNat ((powN (initP (ls.getD k [])) (ns.getD k 0).toNat).getD []) ((timesP (ls.getD k []) (cs.getD k [])).getD []) := by
  have S := sound_run hF eF hls H h4 hR hcs hn hsum k (by omega)
  have hp := getD_all hls (k := k) (by omega)
  have hc := hcs k (by omega)
  have hs := nsum_mono ns (k := k + 1) (m := ls.length) (by omega)
  rw [nsum] at hs
  exact (sound_step S.can S.nr S.len S.ex S.right (by omega) hp hc.1 hc.2 (hn k (by omega)) (by omega)).1
/-- what ChainSound asks of a rest -/
structure Sound16 (F : PZ) (ls : List PZ) (X : Int × MSt × PZ × List Int × List PZ) : Prop where
  steps : ∀ k, k < ls.length → IdStep (idXs F X.2.2.1 ls X.2.2.2.2 X.2.2.2.1 k) (idXs F X.2.2.1 ls X.2.2.2.2 X.2.2.2.1 (k + 1)) (ls.getD k []) (X.2.2.2.2.getD k []) (X.2.2.2.1.getD k 0) (X.2.2.2.1.getD k 0).toNat ((powN (initP (ls.getD k [])) (X.2.2.2.1.getD k 0).toNat).getD []) ((timesP (ls.getD k []) (X.2.2.2.2.getD k [])).getD [])
  same : (idXs F X.2.2.1 ls X.2.2.2.2 X.2.2.2.1 ls.length).1 = (idXs F X.2.2.1 ls X.2.2.2.2 X.2.2.2.1 ls.length).2
  red : ∀ p ∈ ls, reducedP X.2.2.1 p = true
  nl : X.2.2.2.1.length = ls.length
  cl : X.2.2.2.2.length = ls.length
  fr : Fit 50 100000 X.2.2.1
  fc : ∀ p ∈ X.2.2.2.2, Fit 50 100000 p
theorem chp16 {ls : List PZ} (hls : ∀ p ∈ ls, Fit 3 6 p ∧ exB 4 p) (hz : mayZ 0 ls = true) : ∀ p ∈ ls, ChP 99 4 3 6 p := fun p hp => ⟨(hls p hp).1, nrm16 (hls p hp).1, (hls p hp).2, mayZ_pos (Int.le_refl _) hz p hp⟩
theorem nils_getD (n i : Nat) : (List.replicate n ([] : PZ)).getD i [] = [] := by
  rw [List.getD_eq_getElem?_getD, List.getElem?_replicate]
  split <;> rfl
theorem sound16 {fu b c d : Int} {F : PZ} {ls : List PZ} {k : Nat} (hm : mayLimits fu b c d) (hfu : fu ≤ 12) (fF : Fit 3 6 F) (eF : exB 4 F) (hls : ∀ p ∈ ls, Fit 3 6 p ∧ exB 4 p) (hz : mayZ 0 ls = true) (h4 : ls.length ≤ 4)
    (h0 : (restD (some k) true ls ls.length (MSt.new fu b c d) F (List.replicate ls.length 0) (List.replicate ls.length [])).1 = 0) :
    Sound16 F ls (restD (some k) true ls ls.length (MSt.new fu b c d) F (List.replicate ls.length 0) (List.replicate ls.length [])) := by
  have hch := chp16 hls hz
  have H : Chain16 ls := chain_of (fun p hp => (hls p hp).1.can) hz
  obtain ⟨h1, h2⟩ := in_rest (w := true) (b := k) lim16 hch (by decide) (by decide) (by decide) (by decide) ls.length (MSt.new fu b c d) F (List.replicate ls.length 0) (List.replicate ls.length []) (Nat.le_refl _) (by simp) (in16 hm hfu fF eF) (fun i hi => by
    rw [nils_getD]
    exact inC_nil _)
  obtain ⟨i1, i2⟩ := h2 h0
  have I := rest_ident H ls.length (MSt.new fu b c d) F (List.replicate ls.length 0) (List.replicate ls.length []) (Nat.le_refl _) (by simp) (by simp) fF.can (fun i hi => by rw [nils_getD]; exact canP_nil) h1 h0
  obtain ⟨-, r2, -⟩ := rest_red H ls.length (MSt.new fu b c d) F (List.replicate ls.length 0) (List.replicate ls.length []) (Nat.le_refl _) fF.can h0
  have hr16 := (rest16 (k := k) true hm hfu fF eF hls hz).2 h0
  generalize restD (some k) true ls ls.length (MSt.new fu b c d) F (List.replicate ls.length 0) (List.replicate ls.length []) = X at *
  have hst := i1.st
  have hI := I.st
  have hsum : nsum X.2.2.2.1 ls.length ≤ 12 := by
    have e : (MSt.new fu b c d).st = 0 := rfl
    rw [e] at hI
    omega
  have hcs : ∀ i, i < ls.length → Fit 50 100000 (X.2.2.2.2.getD i []) ∧ exB 52 (X.2.2.2.2.getD i []) := fun i hi => ⟨hr16.2 i hi, (i2 i hi).ex.le (by
    have e : ((4 : Nat) : Int) = 4 := rfl
    rw [e]
    omega)⟩
  have S := sound_run fF eF hch H h4 hr16.1 hcs (fun j hj => I.pos j hj) hsum ls.length (Nat.le_refl _)
  refine ⟨fun k hk => sound_steps fF eF hch H h4 hr16.1 hcs (fun j hj => I.pos j hj) hsum k hk, ?_, ?_, I.nl, I.cl, hr16.1, ?_⟩
  · exact can_eq S.can S.right.can (S.el.trans ((mul_comm_eqv (may_okAll fF.can.may) (hprod_ok H _ _ (Nat.le_refl _))).trans (I.ident.trans S.er.symm)))
  · intro p hp
    obtain ⟨i, hi, rfl⟩ := List.getElem_of_mem hp
    have h3 := r2 i hi
    rw [List.getD_eq_getElem?_getD, List.getElem?_eq_getElem hi, Option.getD_some] at h3
    unfold reducedP
    have h5 := H.pos _ hp
    rw [if_neg (by omega)]
    exact decide_eq_true h3
  · intro p hp
    obtain ⟨i, hi, rfl⟩ := List.getElem_of_mem hp
    have h3 := hr16.2 i (by rw [← I.cl]; exact hi)
    rwa [List.getD_eq_getElem?_getD, List.getElem?_eq_getElem hi, Option.getD_some] at h3

/-- what is reduced stays as it is -/
theorem div_still {o : Option Nat} {keep : Bool} {s : MSt} {r g : PZ} {v : Int} (h : degP r v < degP g v) : divD o keep s r g v = ⟨0, [], r, 0, s⟩ := by
  unfold divD
  rw [runD, if_pos (.inr h)]
theorem fit_none (B M : Nat) : Fit B M [] := ⟨canP_nil, (fun t ht => absurd ht (by simp)), Nat.zero_le _⟩
theorem rest_still {o : Option Nat} {w : Bool} {ls : List PZ} {m : Nat} : ∀ (k : Nat) (s : MSt) (r : PZ), (∀ i, i < k → degP r (leadP (ls.getD i [])) < degP (ls.getD i []) (leadP (ls.getD i []))) →
    restD o w ls k s r (List.replicate m 0) (List.replicate m []) = (0, s, r, List.replicate m 0, List.replicate m []) := by
  intro k
  induction k with
  | zero => intros; rfl
  | succ k ih =>
    intro s r h
    have hd : divK o w ls k s r = ⟨0, [], r, 0, s⟩ := div_still (h k (by omega))
    rw [restD, hd]
    have hr : roundC o w (ls.getD k []) ls.length k ⟨0, [], r, 0, s⟩ (List.replicate m []) = (0, s, List.replicate m []) := by
      unfold roundC
      rw [if_neg (fun h => h rfl), if_pos (.inl rfl)]
      simp
    rw [hr, if_neg (fun h => h rfl)]
    have e : (List.replicate m (0 : Int)).set k ((0 : Nat) : Int) = List.replicate m 0 := by simp
    rw [e]
    exact ih s r (fun i hi => h i (by omega))
theorem rest_still_fit {b : Nat} {w : Bool} {ls : List PZ} {m : Nat} (hls : ∀ p ∈ ls, ChP 99 4 3 6 p) : ∀ (k : Nat) (s : MSt) (r : PZ), k ≤ ls.length → Fit 50 100000 r → (∀ i, i < k → degP r (leadP (ls.getD i [])) < degP (ls.getD i []) (leadP (ls.getD i []))) →
    RestFit (some b) w ls k s r (List.replicate m []) := by
  intro k
  induction k with
  | zero => intros; trivial
  | succ k ih =>
    intro s r hk fr h
    have hp := getD_all hls (k := k) (by omega)
    have hlt := h k (by omega)
    have hpos := deg_lead_pos hp.fit.can hp.lead
    have hd : divK (some b) w ls k s r = ⟨0, [], r, 0, s⟩ := div_still hlt
    rw [RestFit]
    refine ⟨⟨⟨3, 6, 50, 100000, hp.fit, by decide, by decide, by decide, by decide, by decide, ⟨fit_none _ _, fr, fun _ h2 => absurd hlt (by omega)⟩⟩, hp.range, by omega⟩, fun _ hn => ?_, fun _ => ?_⟩
    · rw [hd] at hn
      exact absurd rfl hn
    · rw [hd]
      have hr : roundC (some b) w (ls.getD k []) ls.length k ⟨0, [], r, 0, s⟩ (List.replicate m []) = (0, s, List.replicate m []) := by
        unfold roundC
        rw [if_neg (fun h => h rfl), if_pos (.inl rfl)]
        simp
      rw [hr]
      exact ih s r (by omega) fr (fun i hi => h i (by omega))
end Go.Proofs.YthdcaablomgboaaGreat

namespace Go.Proofs.YthdcaablomgboaaGreat
open Go.RowKit

end Go.Proofs.YthdcaablomgboaaGreat

namespace Go.Proofs.YthdcaablomgboaaGreat
open Go.RowKit

end Go.Proofs.YthdcaablomgboaaGreat

namespace Go.Proofs.YthdcaablomgboaaGreat
open Go.RowKit

theorem map_plain {l : List (List RTerm)} (h : ∀ p ∈ l, p = ofP (plainP p)) : (l.map plainP).map ofP = l := by
  induction l with
  | nil => rfl
  | cons p r ih => rw [List.map_cons, List.map_cons, ← h p (by simp), ih (fun q hq => h q (by simp [hq]))]

theorem RPs.nothing {S : Nat → Prop} {w : World} {b o n cap : Nat} {p : PZ} {l : List PZ} (h : RPs S w (.slice (some ⟨b, o, none⟩) n cap) (p :: l)) (hc : cap = 1) (a : Option Addr) (c : Nat) (hcm : c ≤ 9223372036854775807) : RPs S w (.slice a 0 c) l := by
  obtain ⟨b', off, ⟨a', cap', h1, h2, h3, h4, h5⟩, -⟩ := h
  obtain ⟨-, rfl, rfl⟩ : some (⟨b, o, none⟩ : Addr) = a' ∧ n = (p :: l).length ∧ cap = cap' := by simpa using h1
  simp at h2
  obtain rfl : l = [] := List.length_eq_zero_iff.1 (by omega)
  exact ⟨0, 0, ⟨a, c, rfl, Nat.zero_le _, hcm, fun h => by simp at h, fun h => by simp at h⟩, fun j n hj => by simp at hj⟩
end Go.Proofs.YthdcaablomgboaaGreat

namespace Go.Proofs.YthdcaablomgboaaGreat
open Go.RowKit Go.Deep

theorem mayC_all {l : List (List RTerm)} : ∀ {c : Int}, mayC c l = true → l.all mayT = true := by
  induction l with
  | nil => intro c _; rfl
  | cons p r ih =>
    intro c h
    rw [mayC] at h
    split at h
    · rename_i h1
      rw [Bool.and_eq_true] at h1
      rw [List.all_cons, h1.1, ih h]
      rfl
    · cases h
theorem no_may16 {f : List RTerm} {l : List (List RTerm)} (h : (f :: l).all mayT = false) : (mayT f && mayC 0 l) = false := by
  cases h1 : mayT f && mayC 0 l with
  | false => rfl
  | true =>
    rw [Bool.and_eq_true] at h1
    rw [List.all_cons, h1.1, mayC_all h1.2] at h
    cases h
theorem polys_ok {w : World} {v : Value} {ls : List (List RTerm)} (h : Polys (Old w) w v ls) (hm : ls.all mayT = true) : ∀ p ∈ ls, okT p ∧ p = ofP (plainP p) := fun p hp => by
  obtain ⟨j, hj⟩ := List.getElem?_of_mem hp
  obtain ⟨b, off, -, hc⟩ := h
  obtain ⟨vp, -, ht⟩ := hc j p hj
  exact ⟨ht.okT, pv_of ht (List.all_eq_true.1 hm p hp)⟩
theorem restD_err {o : Option Nat} {w : Bool} {ls : List PZ} : ∀ (k : Nat) (s : MSt) (r : PZ) (ns : List Int) (cs : List PZ), (restD o w ls k s r ns cs).1 ≠ 0 → (restD o w ls k s r ns cs).2.2 = ([], [], []) := by
  intro k
  induction k with
  | zero => intro s r ns cs h; exact absurd rfl h
  | succ k ih =>
    intro s r ns cs
    rw [restD]
    split
    · intro _; rfl
    · intro h; exact ih _ _ _ _ h
theorem lim_some : mayLimits 12 1000 1000 0 := ⟨⟨by decide, by decide⟩, ⟨by decide, by decide⟩, ⟨by decide, by decide⟩, by decide, by decide⟩
theorem lim_none : mayLimits 0 0 0 0 := ⟨⟨by decide, by decide⟩, ⟨by decide, by decide⟩, ⟨by decide, by decide⟩, by decide, by decide⟩
/-- arguments that may be, plainly -/
structure Plain16 (f : List RTerm) (l : List (List RTerm)) (F : PZ) (L : List PZ) : Prop where
  ef : f = ofP F
  el : L.map ofP = l
  cf : canP F
  cl : ∀ p ∈ L, canP p
  hz : mayZ 0 L = true
  hc : mayC 0 (L.map ofP) = true
  okf : okT f
  okl : ∀ t ∈ l, okT t
  pf : F = plainP f
  pl : L = l.map plainP
theorem plain_args16 {w : World} {vf vl : Value} {f : List RTerm} {l : List (List RTerm)} (hf : Terms (Old w) w vf f) (hl : Polys (Old w) w vl l) (h : (mayT f && mayC 0 l) = true) : Plain16 f l (plainP f) (l.map plainP) := by
  rw [Bool.and_eq_true] at h
  have h1 := polys_ok hl (mayC_all h.2)
  have h2 : (l.map plainP).map ofP = l := map_plain (fun p hp => (h1 p hp).2)
  have h3 : ∀ p ∈ l.map plainP, canP p := fun p hp => by
    obtain ⟨t, -, rfl⟩ := List.mem_map.1 hp
    exact plainP_can t
  have h4 := mayC_z h3 0
  exact ⟨pv_of hf h.1, h2, plainP_can f, h3, by rw [← h4, h2]; exact h.2, by rw [h2]; exact h.2, hf.okT, fun t ht => (h1 t ht).1, rfl, rfl⟩
end Go.Proofs.YthdcaablomgboaaGreat

namespace Go.Proofs.YthdcaablomgboaaGreat
open Go.RowKit Go.Deep Go.ChangeShapes Go.WideShapes

section
variable {H : Type} {enc : TypeId × Value → H} {w : World} {base : Nat} {spare : Nat → Bool} {held : Bool}

def Light (t : TypeId) (d : DataW H) : Prop := ∀ k ∈ d.weights Tryz.prog t, k ≤ reachBytes
theorem weights_mem_all {e : TypeId} {ds : List (DataW H)} {d : DataW H} (hd : d ∈ ds) {k : Nat} (hk : k ∈ d.weights Tryz.prog e) : k ∈ DataW.weightsAll Tryz.prog e ds := by
  induction ds with
  | nil => simp at hd
  | cons y r ih =>
    rw [DataW.weightsAll, List.mem_append]
    rcases List.mem_cons.1 hd with rfl | hd
    · exact .inl hk
    · exact .inr (ih hd)

theorem open_slice_sized {t e : TypeId} {fuel sz : Nat} {v : Value} {x : DataW H × List MemPlace} (ht : Tryz.prog.underlying t = some (.slice e)) (hsz : Tryz.prog.cellsOf e = sz) (hpos : 0 < sz)
    (h : DataW.trod enc Tryz.prog w base spare held fuel t [v] = some x) (hL : Light t x.1) :
    ∃ (n b off fuel' : Nat), SliceAt (· < w.heap.size) v n b off ∧ n * Tryz.prog.bytesOf e ≤ reachBytes ∧ ∀ j, j < n → ∃ (cs : List Value) (y : DataW H × List MemPlace), cs.length = sz ∧ (∀ i, i < sz → w.cell? ⟨b, off + j * sz + i, none⟩ = cs[i]?) ∧ DataW.trod enc Tryz.prog w base spare held fuel' e cs = some y ∧ Light e y.1 := by
  rcases open_slice ht h with ⟨hcs, _⟩ | ⟨a, len, cap, m, fuel', D, Pl, hcs, hb, hl, hm, hmm, hxx, hx⟩
  · obtain rfl : v = .slice none 0 0 := by simpa using hcs
    exact ⟨0, 0, 0, 0, ⟨none, 0, rfl, Nat.le_refl _, Nat.zero_le _, fun h => absurd h (by omega), fun h => absurd h (by omega)⟩, by simp, fun j hj => absurd hj (by omega)⟩
  · obtain rfl : v = .slice (some a) len cap := by simpa using hcs
    rw [hsz] at hx
    have hlm : len ≤ m := by rw [hmm]; split <;> omega
    have hwt : x.1.weights Tryz.prog t = (((List.range len).map D).length + ((List.range (m - len)).map fun j => D (len + j)).length) * Tryz.prog.bytesOf e :: (DataW.weightsAll Tryz.prog e ((List.range len).map D) ++ DataW.weightsAll Tryz.prog e ((List.range (m - len)).map fun j => D (len + j))) := by
      rw [hxx]
      simp only [DataW.weights, ht]
    have hbytes : len * Tryz.prog.bytesOf e ≤ reachBytes := by
      have h1 := hL _ (by rw [hwt]; exact List.mem_cons_self)
      refine Nat.le_trans (Nat.mul_le_mul_right _ ?_) h1
      rw [List.length_map, List.length_range]
      omega
    have hD : ∀ j, j < len → Light e (D j) := fun j hj k hk => hL k (by
      rw [hwt]
      refine List.mem_cons_of_mem _ (List.mem_append_left _ (weights_mem_all (d := D j) ?_ hk))
      exact List.mem_map.2 ⟨j, List.mem_range.2 hj, rfl⟩)
    have key : ∀ j, j < len → ∃ (cs : List Value) (y : DataW H × List MemPlace), cs.length = sz ∧ (∀ i, i < sz → w.cell? ((a.add (j * sz)).add i) = cs[i]?) ∧ DataW.trod enc Tryz.prog w base spare held fuel' e cs = some y ∧ Light e y.1 := by
      intro j hj
      obtain ⟨cs, h1, h2⟩ := hx j (by omega)
      obtain ⟨_, h3, h4⟩ := World.cells?_some h1
      exact ⟨cs, _, h3, h4, h2, hD j hj⟩
    by_cases h0 : 0 < len
    · have hsp : a.spot = none := by
        obtain ⟨cs, _, h3, h4, _⟩ := key 0 h0
        have h5 := h4 0 hpos
        have e0 : (a.add (0 * sz)).add 0 = a := by simp [Addr.add]
        rw [e0, List.getElem?_eq_getElem (by omega)] at h5
        unfold World.cell? at h5
        split at h5
        · cases hs : a.spot with
          | none => rfl
          | some z => simp [hs] at h5
        · exact absurd h5 (by simp)
      obtain ⟨b, off, spot⟩ := a
      obtain rfl : spot = none := hsp
      have add_eq : ∀ j i, ((⟨b, off, none⟩ : Addr).add (j * sz)).add i = ⟨b, off + j * sz + i, none⟩ := by
        intro j i
        unfold Addr.add
        by_cases h1 : j * sz = 0 <;> by_cases h2 : i = 0 <;> simp [h1, h2]
      refine ⟨len, b, off, fuel', ⟨_, cap, rfl, hl, hm, fun _ => rfl, fun _ => ?_⟩, hbytes, fun j hj => ?_⟩
      · obtain ⟨cs, _, h3, h4, _⟩ := key 0 h0
        have h5 := h4 0 hpos
        rw [add_eq, List.getElem?_eq_getElem (by omega)] at h5
        exact lt_of_cell h5
      · obtain ⟨cs, y, h3, h4, h5, h6⟩ := key j hj
        exact ⟨cs, y, h3, fun i hi => by rw [← add_eq]; exact h4 i hi, h5, h6⟩
    · exact ⟨len, 0, 0, fuel', ⟨_, cap, rfl, hl, hm, fun h => absurd h h0, fun h => absurd h h0⟩, hbytes, fun j hj => absurd hj (by omega)⟩

end
end Go.Proofs.YthdcaablomgboaaGreat

namespace Go.Proofs.YthdcaablomgboaaGreat
open Go.RowKit Go.Deep Go.ChangeShapes Go.WideShapes Go.ChangeAt Go.Joins

section
variable {H : Type} {enc : TypeId × Value → H} {w : World} {base : Nat} {spare : Nat → Bool} {held : Bool}
theorem Tryz.bytes_poly : Tryz.prog.bytesOf 23 = 24 := by kernel_rfl
theorem Tryz.cells_poly1 : Tryz.prog.cellsOf 23 = 1 := by kernel_rfl
theorem open_polys_sized {fuel : Nat} {v : Value} {x : DataW H × List MemPlace} (h : DataW.trod enc Tryz.prog w base spare held fuel 24 [v] = some x) (hL : Light 24 x.1) : ∃ ls, Polys (· < w.heap.size) w v ls ∧ ls.length ≤ 5864062014800 := by
  obtain ⟨n, b, off, f', hs, hn, -⟩ := open_slice_sized Tryz.underlying24 Tryz.cells_poly1 (by omega) h hL
  obtain ⟨ls, hz⟩ := open_polys h
  refine ⟨ls, hz, ?_⟩
  obtain ⟨a, cap, e1, -⟩ := hs
  obtain ⟨a', cap', e2⟩ := hz.form
  have e : n = ls.length := by
    rw [e1] at e2
    simpa using congrArg (fun v => match v with | Value.slice _ n _ => n | _ => 0) e2
  rw [Tryz.bytes_poly] at hn
  rw [← e]
  unfold reachBytes at hn
  omega
theorem light_three {t : TypeId} {f0 f1 f2 : Field} {d0 d1 d2 : DataW H} (ht : Tryz.prog.underlying t = some (.struct #[f0, f1, f2])) (h : Light t (.agg [d0, d1, d2])) : Light f0.type d0 ∧ Light f1.type d1 ∧ Light f2.type d2 := by
  have hw : (DataW.agg [d0, d1, d2]).weights Tryz.prog t = d0.weights Tryz.prog f0.type ++ (d1.weights Tryz.prog f1.type ++ (d2.weights Tryz.prog f2.type ++ [])) := by
    simp only [DataW.weights, ht]
    rfl
  refine ⟨fun k hk => h k ?_, fun k hk => h k ?_, fun k hk => h k ?_⟩
  · rw [hw]; exact List.mem_append_left _ hk
  · rw [hw]; exact List.mem_append_right _ (List.mem_append_left _ hk)
  · rw [hw]; exact List.mem_append_right _ (List.mem_append_right _ (List.mem_append_left _ hk))
end
section
variable {H : Type} {enc : TypeId × Value → H} {W : World} {base b0 : Nat} {sp : Nat → Bool} {held : Bool}
set_option maxRecDepth 100000 in
theorem division_arg_sized {v : Value} {d : DataW H} {p : List MemPlace} (hv : Value.okWide Tryz.prog W .any base 27 v) (h : DataW.Trod enc Tryz.prog W b0 sp held 27 v d p) (hL : Light 27 d) :
    ∃ vp vc vr ns cs rs, v = .agg #[vp, vc, vr] ∧ Ints (· < W.heap.size) W vp ns ∧ Polys (· < W.heap.size) W vc cs ∧ Terms (· < W.heap.size) W vr rs ∧ cs.length ≤ 5864062014800 := by
  obtain ⟨cs, rfl, hsz⟩ := okWide_struct Tryz.underlying27 hv
  obtain ⟨c0, c1, c2, rfl⟩ := array3 (hsz.trans Tryz.cells_division)
  obtain ⟨fuel, hf⟩ := h
  obtain ⟨y0, y1, y2, n, e, _, h0, h1, h2⟩ := trod_struct3 Tryz.underlying27 hf
  have hL' : Light 27 (DataW.agg [y0.1, y1.1, y2.1]) := by
    have e' : d = .agg [y0.1, y1.1, y2.1] := by first | exact e | exact congrArg Prod.fst e | simpa using e
    rw [← e']
    exact hL
  obtain ⟨-, l1, -⟩ := light_three Tryz.underlying27 hL'
  simp [Tryz.cells_ints, Tryz.cells_polys, Tryz.cells_poly, Value.cells] at h0 h1 h2
  obtain ⟨ns, hns⟩ := open_ints h0
  obtain ⟨cs, hcs, hlen⟩ := open_polys_sized h1 l1
  obtain ⟨rs, hrs⟩ := open_terms h2
  exact ⟨c0, c1, c2, ns, cs, rs, rfl, hns, hcs, hrs, hlen⟩
end
end Go.Proofs.YthdcaablomgboaaGreat

namespace Go.Proofs.YthdcaablomgboaaGreat
open Go.RowKit Go.Deep

theorem Polys.first {S : Nat → Prop} {w : World} {a : Option Addr} {n cap k : Nat} {ls : List (List RTerm)} (h : Polys S w (.slice a n cap) ls) (hk : k ≤ n) : Polys S w (.slice a k cap) (ls.take k) := by
  obtain ⟨b, off, ⟨a', cap', h1, h2, h3, h4, h5⟩, hc⟩ := h
  obtain ⟨rfl, rfl, rfl⟩ : a = a' ∧ n = ls.length ∧ cap = cap' := by simpa using h1
  have hl : (ls.take k).length = k := by rw [List.length_take]; omega
  refine ⟨b, off, ⟨a, cap, by rw [hl], by omega, h3, fun h => h4 (by omega), fun h => h5 (by omega)⟩, fun j z hz => hc j z ?_⟩
  rw [List.getElem?_take] at hz
  split at hz
  · exact hz
  · cases hz
theorem Polys.behind {S : Nat → Prop} {w : World} {b off n cap k : Nat} {ls : List (List RTerm)} (h : Polys S w (.slice (some ⟨b, off, none⟩) n cap) ls) (hk : k < n) : Polys S w (.slice (some ⟨b, off + k, none⟩) (n - k) (cap - k)) (ls.drop k) := by
  obtain ⟨b', off', ⟨a', cap', h1, h2, h3, h4, h5⟩, hc⟩ := h
  obtain ⟨rfl, rfl, rfl⟩ : some ⟨b, off, none⟩ = a' ∧ n = ls.length ∧ cap = cap' := by simpa using h1
  have e := h4 (by omega)
  obtain ⟨rfl, rfl⟩ : b = b' ∧ off = off' := by simpa using e
  have hl : (ls.drop k).length = ls.length - k := List.length_drop
  refine ⟨b, off + k, ⟨_, _, by rw [hl], by omega, by omega, fun _ => rfl, fun h => h5 (by omega)⟩, fun j z hz => ?_⟩
  rw [List.getElem?_drop] at hz
  have := hc (k + j) z hz
  rwa [← Nat.add_assoc] at this
theorem CellsL.append {S : Nat → Prop} {w : World} {xs ys : List Value} {l m : List (List RTerm)} (h : CellsL S w xs l) (k : CellsL S w ys m) : CellsL S w (xs ++ ys) (l ++ m) := by
  refine ⟨by rw [List.length_append, List.length_append, h.1, k.1], fun j p hj => ?_⟩
  rw [List.getElem?_append] at hj ⊢
  rw [h.1]
  split at hj
  · rename_i h1; rw [if_pos h1]; exact h.2 j p hj
  · rename_i h1; rw [if_neg h1]; exact k.2 _ p hj
/-- what both slices hold -/
theorem drop_src {S : Nat → Prop} {w : World} {b off n cap i : Nat} {ls : List (List RTerm)} (h : Polys S w (.slice (some ⟨b, off, none⟩) n cap) ls) (hi : i < n) {A : Option Addr} (hA : A = if cap = i + 1 then some ⟨b, off, none⟩ else some ⟨b, off + (i + 1), none⟩) :
    ∃ xs ys, SrcAt w (some ⟨b, off, none⟩) i 1 xs ∧ SrcAt w A (n - (i + 1)) 1 ys ∧ CellsL S w xs (ls.take i) ∧ CellsL S w ys (ls.drop (i + 1)) ∧ ys.length = n - (i + 1) := by
  obtain ⟨b', off', ⟨a', cap', h1, h2, h3, h4, h5⟩, hc⟩ := h
  obtain ⟨xs, x1, x2⟩ := (Polys.first ⟨b', off', ⟨a', cap', h1, h2, h3, h4, h5⟩, hc⟩ (Nat.le_of_lt hi)).src_all
  obtain ⟨rfl, rfl, rfl⟩ : some ⟨b, off, none⟩ = a' ∧ n = ls.length ∧ cap = cap' := by simpa using h1
  by_cases e : ls.length = i + 1
  · refine ⟨xs, [], x1, ⟨by rw [e]; simp, (fun u hu => absurd hu (by simp)), (fun h => by omega)⟩, x2, ?_, by rw [e]; simp⟩
    rw [List.drop_eq_nil_of_le (by omega)]
    exact CellsL.nil _ _
  · obtain ⟨ys, y1, y2⟩ := (Polys.behind ⟨b', off', ⟨_, _, h1, h2, h3, h4, h5⟩, hc⟩ (show i + 1 < ls.length by omega)).src_all
    rw [if_neg (by omega)] at hA
    rw [hA]
    exact ⟨xs, ys, x1, y1, x2, y2, by rw [y2.1, List.length_drop]⟩
/-- all of it, made anew -/
theorem drop_done {S : Nat → Prop} {w0 w : World} {base : Nat} {e : TypeId} {v : Value} {xs ys : List Value} {n i : Nat} {ls : List (List RTerm)} (hn : n = ls.length) (hi : i < n) (hown : w.ownsRow base e 1 v (0 + i + (n - (i + 1))) ([] ++ xs ++ ys)) (hx : CellsL S w0 xs (ls.take i)) (hy : CellsL S w0 ys (ls.drop (i + 1))) (hk : Kept S w0 w) (hS : ∀ k, S k → k < w.heap.size) :
    Polys (Old w) w v (ls.take i ++ ls.drop (i + 1)) := by
  refine own_polys (base := base) (e := e) (l := ls.take i ++ ls.drop (i + 1)) (xs := xs ++ ys) ?_ ((hx.append hy).to hk hS) (fun k _ h2 => h2)
  have hl : (ls.take i ++ ls.drop (i + 1)).length = 0 + i + (n - (i + 1)) := by rw [List.length_append, List.length_take, List.length_drop]; omega
  rw [hl]
  exact hown
theorem SrcAt.kept {w w' : World} {A : Option Addr} {m size : Nat} {news : List Value} (h : SrcAt w A m size news) (hk : ∀ ad, A = some ad → w'.heap[ad.block]? = w.heap[ad.block]?) : SrcAt w' A m size news :=
  ⟨h.1, h.2.1, fun hm => by
    obtain ⟨ad, e, hc⟩ := h.2.2 hm
    refine ⟨ad, e, fun j u hu => ?_⟩
    have hb : (ad.add j).block = ad.block := by unfold Addr.add; split <;> rfl
    exact (World.cell?_of_block (a := ad.add j) (by rw [hb]; exact hk ad e)).trans (hc j u hu)⟩
theorem pick_index {z : Int} {n : Nat} (hn : 0 < n) (hm : n ≤ 5864062014800) : ∃ i : Nat, wrap64 ((IntKind.u64.wrap z).tmod (n : Int)) = (i : Int) ∧ i < n := by
  have h0 : 0 ≤ IntKind.u64.wrap z := by rw [IntKind.wrap_u64]; omega
  have h1 := Int.tmod_nonneg (n : Int) h0
  have h2 := Int.tmod_lt_of_pos (IntKind.u64.wrap z) (show (0 : Int) < n by omega)
  refine ⟨((IntKind.u64.wrap z).tmod (n : Int)).toNat, ?_, by omega⟩
  unfold wrap64
  omega
end Go.Proofs.YthdcaablomgboaaGreat

namespace Go.Proofs.YthdcaablomgboaaGreat
/-- what the laws' own texts name: rest_false slice_cells law_post step_append_src own_polys own_ext own_grown0 int_arg12 chain_reduce new_any restD_red RedPost restD_o -/
theorem base_so : True := trivial
end Go.Proofs.YthdcaablomgboaaGreat
