/- The program's division: one step. Pseudo-division, plain: what a whole division answers: the identity, degrees, how many steps; with a meter as without one. Pseudo-division of a product by one of its factors, plain: no rest; as many steps as the other factor has terms, at most. Pseudo-division, plain: powers, sizes of what is told, and how the statements' equations come about. The program's division: its beginning, all its steps, and what is told. The program's division: all its steps. The program's division, as it is asked. The document: is it the same data? What layer 9's law knows. What layer 12's law knows. -/
import Derived.Test.YtcpfeepnfodifaaGreatBase8
namespace Go.Proofs.YtcpfeepnfodifaaGreat
open Go.RowKit

/-- all blocks of now but the meter's and one's own -/
abbrev NC (o : Option Nat) (bd : Nat) (W : World) : Nat → Prop := fun k => k < W.heap.size ∧ some k ≠ o ∧ k ≠ bd
/-- only the meter's block, one's own and new ones have turned -/
structure Gd (o : Option Nat) (bd : Nat) (W W' : World) : Prop where
  os : W'.os = W.os
  tape : W'.tape = W.tape
  output : W'.output = W.output
  size : W.heap.size ≤ W'.heap.size
  block : ∀ k, k < W.heap.size → some k ≠ o → k ≠ bd → W'.heap[k]? = W.heap[k]?
section
variable {o : Option Nat} {bd : Nat} {A B C W W' : World} {v : Value} {p : PZ} {s : MSt}
theorem Gd.refl (o : Option Nat) (bd : Nat) (W : World) : Gd o bd W W := ⟨rfl, rfl, rfl, Nat.le_refl _, fun _ _ _ _ => rfl⟩
theorem Gd.trans (h : Gd o bd A B) (k : Gd o bd B C) : Gd o bd A C :=
  ⟨k.os.trans h.os, k.tape.trans h.tape, k.output.trans h.output, Nat.le_trans h.size k.size, fun i h1 h2 h3 => (k.block i (Nat.lt_of_lt_of_le h1 h.size) h2 h3).trans (h.block i h1 h2 h3)⟩
theorem gd_gb (h : A.grownBy B o) : Gd o bd A B := ⟨h.os, h.tape, h.output, h.size, fun k h1 h2 _ => h.block k h1 h2⟩
theorem gd_ext (h : Ext A B) : Gd o bd A B := gd_gb (gb_of_ext h o)
theorem gd_set (w : World) {a : Addr} (ha : a.block = bd) (u : Value) : Gd o bd w (w.setCell a u) := ⟨rfl, rfl, rfl, by simp [World.setCell], fun k _ _ h3 => Below.heap_setCell _ _ _ _ (fun e => h3 (by rw [e, ha]))⟩
/-- what a whole division leaves: its own block is new -/
theorem Gd.gb (h : Gd o bd A B) (hb : A.heap.size ≤ bd) : A.grownBy B o := ⟨h.os, h.tape, h.output, h.size, fun k h1 h2 => h.block k h1 h2 (by omega)⟩
theorem kept_nc (g : Gd o bd W W') : Kept (NC o bd W) W W' := fun k h => g.block k h.1 h.2.1 h.2.2
theorem nc_grow (g : W.heap.size ≤ W'.heap.size) : ∀ k, NC o bd W k → NC o bd W' k := fun _ h => ⟨Nat.lt_of_lt_of_le h.1 g, h.2⟩
abbrev PC (o : Option Nat) (bd : Nat) (W : World) (v : Value) (p : PZ) : Prop := Terms (NC o bd W) W v (ofP p)
theorem PC.pv (h : PC o bd W v p) : PV W v p := h.to (Kept.refl _ _) (fun _ h => h.1)
theorem PC.pm (h : PC o bd W v p) : PM o W v p := h.to (Kept.refl _ _) (fun _ h => ⟨h.1, h.2.1⟩)
theorem PC.on (h : PC o bd W v p) (g : Gd o bd W W') : PC o bd W' v p := h.to (kept_nc g) (nc_grow g.size)
/-- the same, in blocks from a number on -/
abbrev PN (N : Nat) (o : Option Nat) (bd : Nat) (W : World) (v : Value) (p : PZ) : Prop := Terms (fun k => N ≤ k ∧ NC o bd W k) W v (ofP p)
theorem PN.pc {N : Nat} (h : PN N o bd W v p) : PC o bd W v p := h.to (Kept.refl _ _) (fun _ h => h.2)
theorem PN.on {N : Nat} (h : PN N o bd W v p) (g : Gd o bd W W') : PN N o bd W' v p := h.to (fun k hk => kept_nc g k hk.2) (fun k hk => ⟨hk.1, nc_grow g.size k hk.2⟩)
theorem PN.low {N M : Nat} (h : PN N o bd W v p) (hM : M ≤ N) : PN M o bd W v p := h.to (Kept.refl _ _) (fun _ h => ⟨Nat.le_trans hM h.1, h.2⟩)
theorem PN.pmn {N : Nat} (h : PN N o bd W v p) : PMN N o W v p := h.to (Kept.refl _ _) (fun _ h => ⟨h.1, h.2.1, h.2.2.1⟩)
theorem new_nc (hm : ∀ b, o = some b → b < A.heap.size) (hb : bd < A.heap.size) : ∀ k, New A W' k → NC o bd W' k := fun k hk => ⟨hk.2, fun e => by have := hm k e.symm; have := hk.1; omega, fun e => by have := hk.1; omega⟩
theorem MV.set (h : MV W o s) (hob : ∀ b, o = some b → b ≠ bd) {a : Addr} (ha : a.block = bd) (u : Value) : MV (W.setCell a u) o s := fun b hb => by
  refine ⟨(h b hb).1.grown (r := some bd) (gb_setCell (gb_refl W (some bd)) ha u) (fun e => hob b hb (Option.some.inj e)), (h b hb).2⟩
end

/-- what one step answers: an error's number, the meter, quotient and rest -/
def stepO (o : Option Nat) (keep : Bool) (g h : PZ) (v d : Int) (s : MSt) (q r : PZ) : Int × MSt × Option (PZ × PZ) :=
  if (mstep o s).1 ≠ 0 then ((mstep o s).1, (mstep o s).2, none) else
  match stepD keep g h v d q r with
  | none => (8, mexp o (mstep o s).2, none)
  | some x =>
    if (mkeep o (mstep o s).2 x.2).1 ≠ 0 then ((mkeep o (mstep o s).2 x.2).1, (mkeep o (mstep o s).2 x.2).2, none) else
    if (mkeep o (mstep o s).2 x.1).1 ≠ 0 then ((mkeep o (mstep o s).2 x.1).1, (mkeep o (mstep o s).2 x.1).2, none) else
    (0, (mstep o s).2, some x)
theorem runD_succ (o : Option Nat) (keep : Bool) (g h : PZ) (v d : Int) (k : Nat) (s : MSt) (q r : PZ) (n : Nat) :
    runD o keep g h v d (k + 1) s q r n = if r = [] ∨ degP r v < d then ⟨0, q, r, n, s⟩ else
      match (stepO o keep g h v d s q r).2.2 with
      | none => ⟨(stepO o keep g h v d s q r).1, [], [], 0, (stepO o keep g h v d s q r).2.1⟩
      | some x => runD o keep g h v d k (stepO o keep g h v d s q r).2.1 x.1 x.2 (n + 1) := by
  rw [runD]
  unfold stepO
  split
  · rfl
  split
  · rfl
  cases stepD keep g h v d q r with
  | none => rfl
  | some x =>
    simp only
    split
    · rfl
    split
    · rfl
    · rfl
theorem stepO_some {o : Option Nat} {keep : Bool} {g h : PZ} {v d : Int} {s : MSt} {q r : PZ} {x : PZ × PZ} (hx : (stepO o keep g h v d s q r).2.2 = some x) :
    (stepO o keep g h v d s q r).1 = 0 ∧ (mstep o s).1 = 0 ∧ stepD keep g h v d q r = some x ∧ (mkeep o (mstep o s).2 x.2).1 = 0 ∧ (mkeep o (mstep o s).2 x.1).1 = 0 ∧ (stepO o keep g h v d s q r).2.1 = (mstep o s).2 := by
  unfold stepO at hx ⊢
  by_cases h1 : (mstep o s).1 ≠ 0
  · rw [if_pos h1] at hx; cases hx
  rw [if_neg h1] at hx ⊢
  cases hst : stepD keep g h v d q r with
  | none => rw [hst] at hx; cases hx
  | some y =>
    rw [hst] at hx
    simp only at hx ⊢
    by_cases h2 : (mkeep o (mstep o s).2 y.2).1 ≠ 0
    · rw [if_pos h2] at hx; cases hx
    rw [if_neg h2] at hx ⊢
    by_cases h3 : (mkeep o (mstep o s).2 y.1).1 ≠ 0
    · rw [if_pos h3] at hx; cases hx
    rw [if_neg h3] at hx ⊢
    cases hx
    exact ⟨rfl, Decidable.not_not.1 h1, rfl, Decidable.not_not.1 h2, Decidable.not_not.1 h3, rfl⟩
theorem stepO_none {o : Option Nat} {keep : Bool} {g h : PZ} {v d : Int} {s : MSt} {q r : PZ} (hx : (stepO o keep g h v d s q r).2.2 = none) : (stepO o keep g h v d s q r).1 ≠ 0 := by
  unfold stepO at hx ⊢
  by_cases h1 : (mstep o s).1 ≠ 0
  · rw [if_pos h1]; exact h1
  rw [if_neg h1] at hx ⊢
  cases hst : stepD keep g h v d q r with
  | none => show (8 : Int) ≠ 0; decide
  | some y =>
    rw [hst] at hx
    simp only at hx ⊢
    by_cases h2 : (mkeep o (mstep o s).2 y.2).1 ≠ 0
    · rw [if_pos h2]; exact h2
    rw [if_neg h2] at hx ⊢
    by_cases h3 : (mkeep o (mstep o s).2 y.1).1 ≠ 0
    · rw [if_pos h3]; exact h3
    · rw [if_neg h3] at hx; cases hx

def StepPost (W : World) (o : Option Nat) (bd : Nat) (v d : Int) (vg vh : Value) (n : Int) (keep : Bool) (X : Int × MSt × Option (PZ × PZ)) : Ending → World → Prop := fun e W' =>
  e = .returned (.int .i64 X.1) ∧ MV W' o X.2.1 ∧ Gd o bd W W' ∧ ∀ x, X.2.2 = some x → ∃ vq vr, DivAt W' bd (mval o) v d vg vh vq vr (n + 1) keep ∧ PN W.heap.size o bd W' vq x.1 ∧ PN W.heap.size o bd W' vr x.2

set_option maxRecDepth 100000 in
set_option maxHeartbeats 8000000 in
theorem div_step {W : World} {o : Option Nat} {s : MSt} {bd : Nat} {vg vh vq vr : Value} {v d n : Int} {keep : Bool} {g h q r : PZ} {A B T M : Nat} (D : DivAt W bd (mval o) v d vg vh vq vr n keep) (hM : MV W o s) (hob : ∀ b, o = some b → b ≠ bd) (hg : PC o bd W vg g) (hh : PC o bd W vh h) (hq : PC o bd W vq q) (hr : PC o bd W vr r)
    (fg : Fit A T g) (fh : Fit A T h) (fq : Fit B M q) (fr : Fit B M r) (hA : A < 24) (hB : B ≤ 80000) (hT : 1 ≤ T) (hTM : 2 * T * M ≤ 1000000000000) (hv : 1 ≤ v ∧ v ≤ 200) (hd : 0 ≤ d) (hdr : d ≤ degP r v) (hn : 0 ≤ n ∧ n ≤ 1000000) :
    Calls Tryz.prog 107 #[.pointer (some ⟨bd, 0, none⟩)] W (StepPost W o bd v d vg vh n keep (stepO o keep g h v d s q r)) := by
  have hmf : ∀ (fn : Fn) (first cap : Array Value) (w : World), (Instr.makeFunc fn first cap).run Tryz.prog w = .ok (.func fn first cap) w := fun _ _ _ _ => rfl
  have hsbd : some bd ≠ o := fun e => hob bd e.symm rfl
  have HSB := hid hsbd
  have HOB := hid hob
  have HD := hid D
  have C1 := m_step hM
  have CM := fun (Y : World) (hY : W.grownBy Y o) => div_made (D.same (hY.block bd D.lt hsbd)) (hg.pm.on hY).pv (hh.pm.on hY).pv (hq.pm.on hY).pv (hr.pm.on hY).pv fg fh fq fr hA hB hT hTM hv hd hdr
  have CX := fun (Y : World) (t : MSt) (hY : MV Y o t) => m_refuse hY
  have CK := fun (Y : World) (t : MSt) (u : Value) (p : PZ) (hY : MV Y o t) (hu : PM o Y u p) => m_keep hY hu
  have HBM := hid (fun b hb => hM.block (b := b) hb)
  have HLT := hid D.lt
  obtain ⟨vm, hvm⟩ : ∃ x, x = mval o := ⟨_, rfl⟩
  rw [← hvm] at D C1 CX CK
  have HVM := hid hvm
  have d0 := D.c0
  obtain ⟨n1, n2⟩ := hn
  unfold stepO
  generalize hm : mstep o s = m at C1 ⊢
  obtain ⟨c1, s1⟩ := m
  simp only at C1 ⊢
  have HC1 := hid C1
  have HCM := hid CM
  have HCX := hid CX
  have HCK := hid CK
  clear C1 CM CX CK hM hob hg hh hq hr fg fh fq fr hA hB hT hTM hv hd hdr hvm hsbd hm D
  by_cases hc : c1 ≠ 0
  · rw [if_pos hc]
    have q1 : (c1 != 0) = true := by rw [bne_iff_ne]; exact hc
    clear hc
    go_enter Tryz.func107, Tryz.ntmps107
    go_wp2_with fail
    with_reducible refine HC1.out.mono ?_
    rintro e w1 ⟨rfl, hm1, hg1⟩
    have HM1 := hid hm1
    have HG1 := hid hg1
    clear hm1 hg1
    go_wp2
    all_goals
      go_ret
      exact ⟨rfl, HM1.out, gd_gb HG1.out, fun x h => (by cases h)⟩
  · rw [if_neg hc]
    have q1 : (c1 != 0) = false := by rw [bne_eq_false_iff_eq]; exact Decidable.not_not.1 hc
    clear hc
    generalize stepD keep g h v d q r = R at HCM ⊢
    cases R with
    | none =>
      simp only
      go_enter Tryz.func107, Tryz.ntmps107
      go_wp2_with fail
      with_reducible refine HC1.out.mono ?_
      rintro e w1 ⟨rfl, hm1, hg1⟩
      have HM1 := hid hm1
      have HG1 := hid hg1
      have HMA := hid (HCM.out w1 hg1)
      clear hm1 hg1
      go_wp2_with fail
      with_reducible refine HMA.out.mono ?_
      rintro e w2 ⟨a, b, rfl, hx2⟩
      have HG2 := hid (gb_trans HG1.out (gb_of_ext hx2 o))
      have HX := hid (HCX.out w2 s1 (HM1.out.ext hx2))
      have e0 : w2.cell? ⟨bd, 0, none⟩ = some vm := by rw [HVM.out]; exact (HD.out.same (HG2.out.block bd HLT.out HSB.out)).c0
      clear hx2 d0
      go_wp2_with fail
      with_reducible refine HX.out.mono ?_
      rintro e w3 ⟨rfl, hm3, hg3⟩
      have HM3 := hid hm3
      have HG3 := hid (gb_trans HG2.out hg3)
      clear hm3 hg3
      go_wp2
      all_goals
        go_ret
        exact ⟨rfl, HM3.out, gd_gb HG3.out, fun x h => (by cases h)⟩
    | some x =>
      simp only
      generalize hk1 : mkeep o s1 x.2 = k1
      obtain ⟨c2, s2⟩ := k1
      generalize hk2 : mkeep o s1 x.1 = k2
      obtain ⟨c3, s3⟩ := k2
      have HK1 := hid hk1
      have HK2 := hid hk2
      have HE1 : Hid (c2 = 0 → s2 = s1) := hid (fun h => by have := mkeep_ok (o := o) (s := s1) (p := x.2) (by rw [hk1]; exact h); rw [hk1] at this; exact this)
      have HE2 : Hid (c3 = 0 → s3 = s1) := hid (fun h => by have := mkeep_ok (o := o) (s := s1) (p := x.1) (by rw [hk2]; exact h); rw [hk2] at this; exact this)
      simp only
      clear hk1 hk2
      by_cases hc2 : c2 ≠ 0
      · rw [if_pos hc2]
        have q2 : (c2 != 0) = true := by rw [bne_iff_ne]; exact hc2
        clear hc2
        go_enter Tryz.func107, Tryz.ntmps107
        go_wp2_with fail
        with_reducible refine HC1.out.mono ?_
        rintro e w1 ⟨rfl, hm1, hg1⟩
        have HM1 := hid hm1
        have HG1 := hid hg1
        have HMA := hid (HCM.out w1 hg1)
        clear hm1 hg1
        go_wp2_with fail
        with_reducible refine HMA.out.mono ?_
        rintro e w2 ⟨a, b, rfl, hpa, hpb, hx2⟩
        have HG2 := hid (gb_trans HG1.out (gb_of_ext hx2 o))
        have HB1 := hid (hpb.to (S' := NB o w2) (Kept.refl _ _) (new_nb (gb_block HG1.out HBM.out)))
        have HK := HCK.out w2 s1 b x.2 (HM1.out.ext hx2) HB1.out
        rw [HK1.out] at HK
        have HKK := hid HK
        obtain ⟨aa, ca, rfl⟩ := hpa.form
        obtain ⟨ab, cb, rfl⟩ := hpb.form
        obtain ⟨na, hna⟩ : ∃ n, n = (ofP x.1).length := ⟨_, rfl⟩
        obtain ⟨nb, hnb⟩ : ∃ n, n = (ofP x.2).length := ⟨_, rfl⟩
        rw [← hnb] at HKK
        rw [← hna, ← hnb]
        have e0 : w2.cell? ⟨bd, 0, none⟩ = some vm := by rw [HVM.out]; exact (HD.out.same (HG2.out.block bd HLT.out HSB.out)).c0
        clear hx2 d0 hpa hpb hna hnb HK HB1
        go_wp2_with fail
        with_reducible refine HKK.out.mono ?_
        rintro e w3 ⟨rfl, hm3, hg3⟩
        have HM3 := hid hm3
        have HG3 := hid (gb_trans HG2.out hg3)
        clear hm3 hg3 e0
        go_wp2
        all_goals
          go_ret
          exact ⟨rfl, HM3.out, gd_gb HG3.out, fun x h => (by cases h)⟩
      · rw [if_neg hc2]
        have q2 : (c2 != 0) = false := by rw [bne_eq_false_iff_eq]; exact Decidable.not_not.1 hc2
        have HS2 := hid (HE1.out (Decidable.not_not.1 hc2))
        clear hc2
        by_cases hc3 : c3 ≠ 0
        · rw [if_pos hc3]
          have q3 : (c3 != 0) = true := by rw [bne_iff_ne]; exact hc3
          clear hc3
          go_enter Tryz.func107, Tryz.ntmps107
          go_wp2_with fail
          with_reducible refine HC1.out.mono ?_
          rintro e w1 ⟨rfl, hm1, hg1⟩
          have HM1 := hid hm1
          have HG1 := hid hg1
          have HMA := hid (HCM.out w1 hg1)
          clear hm1 hg1
          go_wp2_with fail
          with_reducible refine HMA.out.mono ?_
          rintro e w2 ⟨a, b, rfl, hpa, hpb, hx2⟩
          have HG2 := hid (gb_trans HG1.out (gb_of_ext hx2 o))
          have HB1 := hid (hpb.to (S' := NB o w2) (Kept.refl _ _) (new_nb (gb_block HG1.out HBM.out)))
          have HA1 := hid (hpa.to (S' := NB o w2) (Kept.refl _ _) (new_nb (gb_block HG1.out HBM.out)))
          have HK := HCK.out w2 s1 b x.2 (HM1.out.ext hx2) HB1.out
          rw [HK1.out, HS2.out] at HK
          have HKK := hid HK
          have HKA := fun (Y : World) (hY : MV Y o s1) (hg : w2.grownBy Y o) => HCK.out Y s1 a x.1 hY (PM.on HA1.out hg)
          rw [HK2.out] at HKA
          obtain ⟨aa, ca, rfl⟩ := hpa.form
          obtain ⟨ab, cb, rfl⟩ := hpb.form
          obtain ⟨na, hna⟩ : ∃ n, n = (ofP x.1).length := ⟨_, rfl⟩
          obtain ⟨nb, hnb⟩ : ∃ n, n = (ofP x.2).length := ⟨_, rfl⟩
          rw [← hnb] at HKK
          rw [← hna] at HKA
          have HKB := hid HKA
          rw [← hna, ← hnb]
          have e0 : w2.cell? ⟨bd, 0, none⟩ = some vm := by rw [HVM.out]; exact (HD.out.same (HG2.out.block bd HLT.out HSB.out)).c0
          clear hx2 d0 hpa hpb hna hnb HK HB1 HA1 HKA
          go_wp2_with fail
          with_reducible refine HKK.out.mono ?_
          rintro e w3 ⟨rfl, hm3, hg3⟩
          have HKC := hid (HKB.out w3 hm3 hg3)
          have HG3 := hid (gb_trans HG2.out hg3)
          clear hm3 hg3 e0
          go_wp2_with fail
          with_reducible refine HKC.out.mono ?_
          rintro e w4 ⟨rfl, hm4, hg4⟩
          have HM4 := hid hm4
          have HG4 := hid (gb_trans HG3.out hg4)
          clear hm4 hg4
          go_wp2
          all_goals
            go_ret
            exact ⟨rfl, HM4.out, gd_gb HG4.out, fun x h => (by cases h)⟩
        · rw [if_neg hc3]
          have q3 : (c3 != 0) = false := by rw [bne_eq_false_iff_eq]; exact Decidable.not_not.1 hc3
          have HS3 := hid (HE2.out (Decidable.not_not.1 hc3))
          clear hc3
          go_enter Tryz.func107, Tryz.ntmps107
          go_wp2_with fail
          with_reducible refine HC1.out.mono ?_
          rintro e w1 ⟨rfl, hm1, hg1⟩
          have HM1 := hid hm1
          have HG1 := hid hg1
          have HMA := hid (HCM.out w1 hg1)
          clear hm1 hg1
          go_wp2_with fail
          with_reducible refine HMA.out.mono ?_
          rintro e w2 ⟨a, b, rfl, hpa, hpb, hx2⟩
          have HG2 := hid (gb_trans HG1.out (gb_of_ext hx2 o))
          have HB1 := hid (hpb.to (S' := fun k => W.heap.size ≤ k ∧ NC o bd w2 k) (Kept.refl _ _) (fun k hk => ⟨Nat.le_trans HG1.out.size hk.1, new_nc (gb_block HG1.out HBM.out) (Nat.lt_of_lt_of_le HLT.out HG1.out.size) k hk⟩))
          have HA1 := hid (hpa.to (S' := fun k => W.heap.size ≤ k ∧ NC o bd w2 k) (Kept.refl _ _) (fun k hk => ⟨Nat.le_trans HG1.out.size hk.1, new_nc (gb_block HG1.out HBM.out) (Nat.lt_of_lt_of_le HLT.out HG1.out.size) k hk⟩))
          have HK := HCK.out w2 s1 b x.2 (HM1.out.ext hx2) (PC.pm (PN.pc HB1.out))
          rw [HK1.out, HS2.out] at HK
          have HKK := hid HK
          have HKA := fun (Y : World) (hY : MV Y o s1) (hg : w2.grownBy Y o) => HCK.out Y s1 a x.1 hY (PM.on (PC.pm (PN.pc HA1.out)) hg)
          rw [HK2.out, HS3.out] at HKA
          obtain ⟨aa, ca, rfl⟩ := hpa.form
          obtain ⟨ab, cb, rfl⟩ := hpb.form
          obtain ⟨na, hna⟩ : ∃ n, n = (ofP x.1).length := ⟨_, rfl⟩
          obtain ⟨nb, hnb⟩ : ∃ n, n = (ofP x.2).length := ⟨_, rfl⟩
          rw [← hnb] at HKK HB1
          rw [← hna] at HKA HA1
          have HKB := hid HKA
          rw [← hna, ← hnb]
          have e0 : w2.cell? ⟨bd, 0, none⟩ = some vm := by rw [HVM.out]; exact (HD.out.same (HG2.out.block bd HLT.out HSB.out)).c0
          clear hx2 d0 hpa hpb hna hnb HK HKA
          go_wp2_with fail
          with_reducible refine HKK.out.mono ?_
          rintro e w3 ⟨rfl, hm3, hg3⟩
          have HKC := hid (HKB.out w3 hm3 hg3)
          have HG3 := hid (gb_trans HG2.out hg3)
          have HG23 := hid hg3
          clear hm3 hg3 e0
          go_wp2_with fail
          with_reducible refine HKC.out.mono ?_
          rintro e w4 ⟨rfl, hm4, hg4⟩
          have HM4 := hid hm4
          have HG4 := hid (gb_trans HG3.out hg4)
          have HA4 := hid (PN.on HA1.out (gd_gb (gb_trans HG23.out hg4)))
          have HB4 := hid (PN.on HB1.out (gd_gb (gb_trans HG23.out hg4)))
          have HD4 := hid (HD.out.same (HG4.out.block bd HLT.out HSB.out))
          have e7 := HD4.out.c7
          have e5 := HD4.out.c5
          have e6 := HD4.out.c6
          have z5 := HD4.out.fz 5
          have z6 := HD4.out.fz 6
          have z7 := HD4.out.fz 7
          have HE5 := hid e5
          have HE6 := hid e6
          have HE7 := hid e7
          clear hm4 hg4
          go_wp2
          all_goals
            go_ret
            obtain ⟨W5, hW5⟩ : ∃ X, X = w4.setCell ⟨bd, 5, none⟩ (.slice aa na ca) := ⟨_, rfl⟩
            obtain ⟨W6, hW6⟩ : ∃ X, X = W5.setCell ⟨bd, 6, none⟩ (.slice ab nb cb) := ⟨_, rfl⟩
            obtain ⟨W7, hW7⟩ : ∃ X, X = W6.setCell ⟨bd, 7, none⟩ (.int .i64 (n + 1)) := ⟨_, rfl⟩
            rw [← hW5, ← hW6, ← hW7]
            have k5 : ∀ (i : Nat) (u : Value), i ≠ 5 → w4.cell? ⟨bd, i, none⟩ = some u → W5.cell? ⟨bd, i, none⟩ = some u := fun i u h5 h => by rw [hW5]; exact other h (ao (fun e => h5 e.symm))
            have k6 : ∀ (i : Nat) (u : Value), i ≠ 6 → W5.cell? ⟨bd, i, none⟩ = some u → W6.cell? ⟨bd, i, none⟩ = some u := fun i u h5 h => by rw [hW6]; exact other h (ao (fun e => h5 e.symm))
            have k7 : ∀ (i : Nat) (u : Value), i ≠ 7 → W6.cell? ⟨bd, i, none⟩ = some u → W7.cell? ⟨bd, i, none⟩ = some u := fun i u h5 h => by rw [hW7]; exact other h (ao (fun e => h5 e.symm))
            have m5 : W5.cell? ⟨bd, 5, none⟩ = some (.slice aa na ca) := by rw [hW5]; exact same_of HE5.out
            have m6 : W6.cell? ⟨bd, 6, none⟩ = some (.slice ab nb cb) := by rw [hW6]; exact same_of (k5 6 _ (by decide) HE6.out)
            have m7 : W7.cell? ⟨bd, 7, none⟩ = some (.int .i64 (n + 1)) := by rw [hW7]; exact same_of (k6 7 _ (by decide) (k5 7 _ (by decide) HE7.out))
            have g5 : Gd o bd w4 W5 := by rw [hW5]; exact gd_set w4 (a := ⟨bd, 5, none⟩) rfl _
            have g6 : Gd o bd W5 W6 := by rw [hW6]; exact gd_set W5 (a := ⟨bd, 6, none⟩) rfl _
            have g7 : Gd o bd W6 W7 := by rw [hW7]; exact gd_set W6 (a := ⟨bd, 7, none⟩) rfl _
            have v5 : MV W5 o s1 := by rw [hW5]; exact HM4.out.set HOB.out (a := ⟨bd, 5, none⟩) rfl _
            have v6 : MV W6 o s1 := by rw [hW6]; exact v5.set HOB.out (a := ⟨bd, 6, none⟩) rfl _
            have v7 : MV W7 o s1 := by rw [hW7]; exact v6.set HOB.out (a := ⟨bd, 7, none⟩) rfl _
            have fz : ∀ i, W7.frozen? ⟨bd, i, none⟩ = false := fun i => by rw [hW7]; refine free_set ?_; rw [hW6]; refine free_set ?_; rw [hW5]; exact free_set (HD4.out.fz i)
            have gs : Gd o bd w4 W7 := (g5.trans g6).trans g7
            have kk : ∀ (i : Nat) (u : Value), i ≠ 5 → i ≠ 6 → i ≠ 7 → w4.cell? ⟨bd, i, none⟩ = some u → W7.cell? ⟨bd, i, none⟩ = some u := fun i u h5 h6 h7 h => k7 i u h7 (k6 i u h6 (k5 i u h5 h))
            have D7 : DivAt W7 bd (mval o) v d vg vh (.slice aa na ca) (.slice ab nb cb) (n + 1) keep :=
              ⟨kk 0 _ (by decide) (by decide) (by decide) HD4.out.c0, kk 1 _ (by decide) (by decide) (by decide) HD4.out.c1, kk 2 _ (by decide) (by decide) (by decide) HD4.out.c2, kk 3 _ (by decide) (by decide) (by decide) HD4.out.c3, kk 4 _ (by decide) (by decide) (by decide) HD4.out.c4, k7 5 _ (by decide) (k6 5 _ (by decide) m5), k7 6 _ (by decide) m6, m7, kk 8 _ (by decide) (by decide) (by decide) HD4.out.c8, fz⟩
            refine ⟨rfl, v7, (gd_gb HG4.out).trans gs, fun y hy => ?_⟩
            obtain rfl : x = y := Option.some.inj hy
            exact ⟨_, _, D7, PN.on HA4.out gs, PN.on HB4.out gs⟩
end Go.Proofs.YtcpfeepnfodifaaGreat

namespace Go.Proofs.YtcpfeepnfodifaaGreat

section
variable {g f : PZ} {v : Int}

/-- how a division went well -/
structure GoodD (f g : PZ) (v : Int) (R : DRes) : Prop where
  cq : canP R.q
  cr : canP R.r
  ident : Eqv (mulL (hpow (headP g v) R.n) f) (mulL R.q g ++ R.r)
  deg : R.r = [] ∨ degP R.r v < degP g v
  steps : (R.n : Int) ≤ max (degP f v - degP g v + 1) 0

theorem run_ident {o : Option Nat} (hf : canP f) (hg : canP g) (hv : 1 ≤ v ∧ v ≤ 200) (hd1 : 1 ≤ degP g v) :
    ∀ (k : Nat) (s : MSt) (q r : PZ) (n : Nat), canP q → canP r → Eqv (mulL (hpow (headP g v) n) f) (mulL q g ++ r) → degP r v < (k : Int) → (r ≠ [] → (n : Int) + degP r v ≤ degP f v) → (n : Int) ≤ max (degP f v - degP g v + 1) 0 →
      (runD o true g (headP g v) v (degP g v) k s q r n).e = 0 → GoodD f g v (runD o true g (headP g v) v (degP g v) k s q r n) := by
  intro k
  induction k with
  | zero =>
    intro s q r n _ hr _ hk
    have := (degP_range hr.may v).1
    omega
  | succ k ih =>
    intro s q r n hq hr hI hk hn hs
    rw [runD]
    by_cases h0 : r = [] ∨ degP r v < degP g v
    · rw [if_pos h0]
      intro _
      exact ⟨hq, hr, hI, h0, hs⟩
    rw [if_neg h0]
    have hr0 : r ≠ [] := fun e => h0 (.inl e)
    have hdr : degP g v ≤ degP r v := by
      rcases Int.lt_or_le (degP r v) (degP g v) with h | h
      · exact absurd (.inr h) h0
      · exact h
    by_cases h1 : (mstep o s).1 ≠ 0
    · rw [if_pos h1]
      intro h
      exact absurd h h1
    rw [if_neg h1]
    cases hst : stepD true g (headP g v) v (degP g v) q r with
    | none => intro h; exact absurd h (by show ¬ (8 : Int) = 0; decide)
    | some x =>
      simp only
      by_cases h2 : (mkeep o (mstep o s).2 x.2).1 ≠ 0
      · rw [if_pos h2]; intro h; exact absurd h h2
      rw [if_neg h2]
      by_cases h3 : (mkeep o (mstep o s).2 x.1).1 ≠ 0
      · rw [if_pos h3]; intro h; exact absurd h h3
      rw [if_neg h3]
      have ch := coefP_can hg v (degP g v)
      obtain ⟨c1, c2⟩ := stepD_can hg ch hq hr hv (by omega) hst
      have hdg := (stepD_deg hg hr hr0 hv hd1 hdr hst).2
      have hn1 := hn hr0
      exact ih _ _ _ _ c1 c2 (stepD_ident (may_okAll hf.may) hg ch hq hr hv (by omega) hI hst) (by omega) (fun _ => by omega) (by omega)

/-- a division's start -/
def divD (o : Option Nat) (keep : Bool) (s : MSt) (f g : PZ) (v : Int) : DRes := runD o keep g (headP g v) v (degP g v) ((degP f v).toNat + 1) s [] f 0
theorem div_good {o : Option Nat} {s : MSt} (hf : canP f) (hg : canP g) (hv : 1 ≤ v ∧ v ≤ 200) (hd1 : 1 ≤ degP g v) (he : (divD o true s f g v).e = 0) : GoodD f g v (divD o true s f g v) := by
  have hr := degP_range hf.may v
  refine run_ident hf hg hv hd1 _ s [] f 0 canP_nil hf ?_ (by omega) (fun _ => by omega) (by omega) he
  intro F
  have h1 : mulL (hpow (headP g v) 0) f = f.map fun t => (1 * t.1, timesM [] t.2) := by
    show mulL [(1, [])] f = _
    unfold mulL
    rw [List.flatMap_cons, List.flatMap_nil, List.append_nil]
  have h2 : (f.map fun t => ((1 : Int) * t.1, timesM [] t.2)) = f := by
    have hm := may_okAll hf.may
    clear he h1 hr hf
    induction f with
    | nil => rfl
    | cons t r ih => rw [List.map_cons, ih (fun u hu => hm u (by simp [hu])), times_one_left (hm t (by simp)), Int.one_mul]
  rw [h1, h2]
  rfl

/-- errors are those of a meter, or an exponent's -/
theorem run_err {o : Option Nat} {keep : Bool} {d : Int} {h : PZ} : ∀ (k : Nat) (s : MSt) (q r : PZ) (n : Nat),
    (runD o keep g h v d k s q r n).e = 0 ∨ ((runD o keep g h v d k s q r n).q = [] ∧ (runD o keep g h v d k s q r n).r = [] ∧ (runD o keep g h v d k s q r n).n = 0) := by
  intro k
  induction k with
  | zero => intros; exact .inl rfl
  | succ k ih =>
    intro s q r n
    rw [runD]
    split
    · exact .inl rfl
    split
    · exact .inr ⟨rfl, rfl, rfl⟩
    split
    · exact .inr ⟨rfl, rfl, rfl⟩
    split
    · exact .inr ⟨rfl, rfl, rfl⟩
    split
    · exact .inr ⟨rfl, rfl, rfl⟩
    · exact ih _ _ _ _
theorem run_none_err {keep : Bool} {d : Int} {h : PZ} : ∀ (k : Nat) (s : MSt) (q r : PZ) (n : Nat), (runD none keep g h v d k s q r n).e = 0 ∨ (runD none keep g h v d k s q r n).e = 8 := by
  intro k
  induction k with
  | zero => intros; exact .inl rfl
  | succ k ih =>
    intro s q r n
    rw [runD]
    split
    · exact .inl rfl
    split
    · rename_i h; exact absurd rfl h
    split
    · exact .inr rfl
    split
    · rename_i h; exact absurd rfl h
    split
    · rename_i h; exact absurd rfl h
    · exact ih _ _ _ _

/-- exponents of all that is told -/
theorem run_ex {o : Option Nat} {keep : Bool} {G : Int} (hg : canP g) (eg : exB G g) (hG : 0 ≤ G) (hv : 1 ≤ v ∧ v ≤ 200) (hd1 : 1 ≤ degP g v) : ∀ (k : Nat) (s : MSt) (q r : PZ) (n : Nat) (R : Int), canP q → canP r → exB R q → exB R r → 0 ≤ R → R + k * G ≤ 10000 →
    exB (R + k * G) (runD o keep g (headP g v) v (degP g v) k s q r n).q ∧ exB (R + k * G) (runD o keep g (headP g v) v (degP g v) k s q r n).r := by
  intro k
  induction k with
  | zero => intro s q r n R _ _ h1 h2 _ _; exact ⟨h1.le (by omega), h2.le (by omega)⟩
  | succ k ih =>
    intro s q r n R cq cr h1 h2 hR hk
    have hkG : 0 ≤ (k : Int) * G := Int.mul_nonneg (by omega) hG
    have e1 : ((k + 1 : Nat) : Int) * G = k * G + G := by rw [Int.natCast_add, Int.add_mul, show ((1 : Nat) : Int) = 1 from rfl, Int.one_mul]
    rw [runD]
    split
    · exact ⟨h1.le (by omega), h2.le (by omega)⟩
    split
    · exact ⟨exB_nil _, exB_nil _⟩
    split
    · exact ⟨exB_nil _, exB_nil _⟩
    rename_i x hst
    split
    · exact ⟨exB_nil _, exB_nil _⟩
    split
    · exact ⟨exB_nil _, exB_nil _⟩
    · have ch := coefP_can hg v (degP g v)
      obtain ⟨c1, c2⟩ := stepD_can hg ch cq cr hv (by omega) hst
      obtain ⟨y, hy, k1, k2⟩ := stepD_ex keep hg ch cq cr eg (eg.coef hG v _) h1 h2 hG hR (by omega) hv (by omega : (0 : Int) ≤ degP g v)
      have hyx : some y = some x := hy.symm.trans hst
      cases hyx
      have := ih (mstep o s).2 x.1 x.2 (n + 1) (R + G) c1 c2 k1 k2 (by omega) (by omega)
      rw [e1, show R + ((k : Int) * G + G) = R + G + k * G by omega]
      exact this

/-! By a meter as without one -/
theorem step_need {s : MSt} (h0 : s.wh = 0) : (s.step.1 = 0 ∧ s.step.2 = { s with st := s.st + 1 }) ∨ (s.step.1 = 9 ∧ s.step.2 = { s with wh := 9, nn := s.fu + 1 }) := by
  unfold MSt.step MSt.refuse
  split
  · exact .inl ⟨rfl, rfl⟩
  · first | exact .inr ⟨rfl, rfl⟩ | (rw [if_pos h0]; exact .inr ⟨rfl, rfl⟩)
theorem mkeep_need {s : MSt} (h0 : s.wh = 0) (p : PZ) (b : Nat) : ((mkeep (some b) s p).1 = 0 ∧ (mkeep (some b) s p).2 = s) ∨ ((mkeep (some b) s p).1 = 10 ∧ ∃ n : Nat, s.li < n ∧ (mkeep (some b) s p).2 = { s with wh := 10, nn := n }) ∨ ((mkeep (some b) s p).1 = 11 ∧ ∃ n : Nat, s.te < n ∧ (mkeep (some b) s p).2 = { s with wh := 11, nn := n }) := by
  simp only [mkeep, MSt.keep, MSt.refuse, if_pos h0]
  split
  · rename_i h; exact .inr (.inl ⟨rfl, _, h, rfl⟩)
  split
  · rename_i h; exact .inr (.inr ⟨rfl, _, h, rfl⟩)
  · exact .inl ⟨rfl, rfl⟩

/-- steps are counted -/
theorem run_n {o : Option Nat} {keep : Bool} {d : Int} {h : PZ} : ∀ (k : Nat) (s : MSt) (q r : PZ) (n : Nat), (runD o keep g h v d k s q r n).e = 0 →
    n ≤ (runD o keep g h v d k s q r n).n ∧ ((runD o keep g h v d k s q r n).n = n → (runD o keep g h v d k s q r n).q = q ∧ (runD o keep g h v d k s q r n).r = r) := by
  intro k
  induction k with
  | zero => intro s q r n _; exact ⟨Nat.le_refl _, fun _ => ⟨rfl, rfl⟩⟩
  | succ k ih =>
    intro s q r n
    rw [runD]
    split
    · intro _; exact ⟨Nat.le_refl _, fun _ => ⟨rfl, rfl⟩⟩
    split
    · rename_i h; intro e; exact absurd e h
    split
    · intro e; exact absurd e (by show (8 : Int) ≠ 0; decide)
    split
    · rename_i h; intro e; exact absurd e h
    split
    · rename_i h; intro e; exact absurd e h
    · intro e
      have := (ih _ _ _ _ e).1
      exact ⟨by omega, fun h => by omega⟩

/-- a metered run, against one without a meter -/
structure MetD (s : MSt) (n : Nat) (R N : DRes) : Prop where
  same : R.e = 0 → N.e = 0 ∧ R.q = N.q ∧ R.r = N.r ∧ R.n = N.n ∧ R.s.st + n = s.st + R.n ∧ R.s.wh = 0
  exps : R.e = 8 → N.e = 8
  errs : R.e = 0 ∨ R.e = 8 ∨ (R.e = 9 ∧ R.s.wh = 9 ∧ s.fu < R.s.nn) ∨ (R.e = 10 ∧ R.s.wh = 10 ∧ s.li < R.s.nn) ∨ (R.e = 11 ∧ R.s.wh = 11 ∧ s.te < R.s.nn)
  fuel : R.s.st ≤ s.fu
  lim : R.s.fu = s.fu ∧ R.s.li = s.li ∧ R.s.te = s.te ∧ R.s.pi = s.pi
  kept : R.e = 0 → n < R.n → ((mostLimbs (ofP R.r) (ofP R.r).length : Int) ≤ s.li ∧ (R.r.length : Int) ≤ s.te) ∧ (mostLimbs (ofP R.q) (ofP R.q).length : Int) ≤ s.li ∧ (R.q.length : Int) ≤ s.te

theorem run_met {b : Nat} {keep : Bool} {d : Int} {h : PZ} : ∀ (k : Nat) (s z : MSt) (q r : PZ) (n : Nat), s.wh = 0 → s.st ≤ s.fu →
    MetD s n (runD (some b) keep g h v d k s q r n) (runD none keep g h v d k z q r n) := by
  intro k
  induction k with
  | zero => intro s z q r n h0 hs; exact ⟨fun _ => ⟨rfl, rfl, rfl, rfl, rfl, h0⟩, fun h => (by cases h), .inl rfl, hs, ⟨rfl, rfl, rfl, rfl⟩, fun _ h => absurd h (Nat.lt_irrefl _)⟩
  | succ k ih =>
    intro s z q r n h0 hs
    rw [runD, runD]
    by_cases hx : r = [] ∨ degP r v < d
    · rw [if_pos hx, if_pos hx]
      exact ⟨fun _ => ⟨rfl, rfl, rfl, rfl, rfl, h0⟩, fun h => (by cases h), .inl rfl, hs, ⟨rfl, rfl, rfl, rfl⟩, fun _ h => absurd h (Nat.lt_irrefl _)⟩
    rw [if_neg hx, if_neg hx]
    rw [if_neg (show ¬ (mstep none z).1 ≠ 0 from fun h => h rfl)]
    rcases step_need h0 with ⟨e1, e2⟩ | ⟨e1, e2⟩
    · have hlt : s.st < s.fu := by
        unfold MSt.step at e1
        split at e1
        · assumption
        · cases e1
      have f1 : (mstep (some b) s).1 = 0 := e1
      have f2 : (mstep (some b) s).2 = { s with st := s.st + 1 } := e2
      rw [if_neg (show ¬ (mstep (some b) s).1 ≠ 0 from fun h => h f1), f2]
      cases hst : stepD keep g h v d q r with
      | none =>
        simp only
        have e3 : mexp (some b) { s with st := s.st + 1 } = { s with st := s.st + 1, wh := 8, nn := 0 } := by
          simp [mexp, MSt.refused, MSt.refuse, h0]
        rw [e3]
        exact ⟨fun h => (by cases h), fun _ => rfl, .inr (.inl rfl), by show s.st + 1 ≤ s.fu; omega, ⟨rfl, rfl, rfl, rfl⟩, fun h => (by cases h)⟩
      | some x =>
        simp only
        rw [if_neg (show ¬ (mkeep none (mstep none z).2 x.2).1 ≠ 0 from fun h => h rfl), if_neg (show ¬ (mkeep none (mstep none z).2 x.1).1 ≠ 0 from fun h => h rfl)]
        rcases mkeep_need (s := { s with st := s.st + 1 }) h0 x.2 b with ⟨k1, k2⟩ | ⟨k1, n1, k2, k3⟩ | ⟨k1, n1, k2, k3⟩
        · have b2 := mkeep_bnd k1
          rw [if_neg (show ¬ (mkeep (some b) { s with st := s.st + 1 } x.2).1 ≠ 0 from fun h => h k1)]
          rcases mkeep_need (s := { s with st := s.st + 1 }) h0 x.1 b with ⟨l1, l2⟩ | ⟨l1, n2, l2, l3⟩ | ⟨l1, n2, l2, l3⟩
          · have b1 := mkeep_bnd l1
            rw [if_neg (show ¬ (mkeep (some b) { s with st := s.st + 1 } x.1).1 ≠ 0 from fun h => h l1)]
            have J := run_n (o := some b) (keep := keep) (g := g) (v := v) (d := d) (h := h) k { s with st := s.st + 1 } x.1 x.2 (n + 1)
            have I := ih { s with st := s.st + 1 } (mstep none z).2 x.1 x.2 (n + 1) h0 (by show s.st + 1 ≤ s.fu; omega)
            generalize runD (some b) keep g h v d k { s with st := s.st + 1 } x.1 x.2 (n + 1) = R at I J ⊢
            generalize hN : runD none keep g h v d k (mstep none z).2 x.1 x.2 (n + 1) = N at I ⊢
            refine ⟨fun h => ?_, I.exps, I.errs, I.fuel, I.lim, fun h hn => ?_⟩
            · obtain ⟨i1, i2, i3, i4, i5, i6⟩ := I.same h
              simp only at i5
              exact ⟨i1, i2, i3, i4, by omega, i6⟩
            · rcases Nat.lt_or_ge (n + 1) R.n with hlt2 | hge
              · exact I.kept h hlt2
              · obtain ⟨j1, j2⟩ := J h
                obtain ⟨j3, j4⟩ := j2 (by omega)
                rw [j3, j4]
                exact ⟨b2, b1⟩
          · rw [if_pos (show (mkeep (some b) { s with st := s.st + 1 } x.1).1 ≠ 0 by rw [l1]; decide), l1, l3]
            exact ⟨fun h => (by cases h), fun h => (by cases h), .inr (.inr (.inr (.inl ⟨rfl, rfl, l2⟩))), by show s.st + 1 ≤ s.fu; omega, ⟨rfl, rfl, rfl, rfl⟩, fun h => (by cases h)⟩
          · rw [if_pos (show (mkeep (some b) { s with st := s.st + 1 } x.1).1 ≠ 0 by rw [l1]; decide), l1, l3]
            exact ⟨fun h => (by cases h), fun h => (by cases h), .inr (.inr (.inr (.inr ⟨rfl, rfl, l2⟩))), by show s.st + 1 ≤ s.fu; omega, ⟨rfl, rfl, rfl, rfl⟩, fun h => (by cases h)⟩
        · rw [if_pos (show (mkeep (some b) { s with st := s.st + 1 } x.2).1 ≠ 0 by rw [k1]; decide), k1, k3]
          exact ⟨fun h => (by cases h), fun h => (by cases h), .inr (.inr (.inr (.inl ⟨rfl, rfl, k2⟩))), by show s.st + 1 ≤ s.fu; omega, ⟨rfl, rfl, rfl, rfl⟩, fun h => (by cases h)⟩
        · rw [if_pos (show (mkeep (some b) { s with st := s.st + 1 } x.2).1 ≠ 0 by rw [k1]; decide), k1, k3]
          exact ⟨fun h => (by cases h), fun h => (by cases h), .inr (.inr (.inr (.inr ⟨rfl, rfl, k2⟩))), by show s.st + 1 ≤ s.fu; omega, ⟨rfl, rfl, rfl, rfl⟩, fun h => (by cases h)⟩
    · have f1 : (mstep (some b) s).1 = 9 := e1
      have f2 : (mstep (some b) s).2 = { s with wh := 9, nn := s.fu + 1 } := e2
      rw [if_pos (show (mstep (some b) s).1 ≠ 0 by rw [f1]; decide), f1, f2]
      exact ⟨fun h => (by cases h), fun h => (by cases h), .inr (.inr (.inl ⟨rfl, rfl, by show s.fu < s.fu + 1; omega⟩)), hs, ⟨rfl, rfl, rfl, rfl⟩, fun h => (by cases h)⟩
end
end Go.Proofs.YtcpfeepnfodifaaGreat

namespace Go.Proofs.YtcpfeepnfodifaaGreat

section
variable {a b c : PZ}
theorem mul_rot (ha : okAll a) (hb : okAll b) (hc : okAll c) : Eqv (mulL (mulL a b) c) (mulL (mulL a c) b) :=
  ((mul_assoc_eqv ha hb hc).trans (Eqv.mul (Eqv.refl a) (mul_comm_eqv hb hc))).trans (mul_assoc_eqv ha hc hb).symm
end

/-- a power, canonical -/
theorem hpow_can {h : PZ} {G : Int} (ch : canP h) (eh : exB G h) (hG : 0 ≤ G) : ∀ n : Nat, (n : Int) * G ≤ 10000 → ∃ P, canP P ∧ Eqv P (hpow h n) ∧ exB ((n : Int) * G) P ∧ (h ≠ [] → P ≠ [])
  | 0, _ => ⟨[(1, [])], unit_can, Eqv.refl _, fun t ht u => by rw [List.mem_singleton.1 ht]; show ex [] u ≤ _; simp [ex], fun _ => by simp⟩
  | n + 1, hn => by
    have e1 : ((n + 1 : Nat) : Int) * G = n * G + G := by rw [Int.natCast_add, Int.add_mul, show ((1 : Nat) : Int) = 1 from rfl, Int.one_mul]
    rw [e1] at hn ⊢
    obtain ⟨P, c1, c2, c3, c4⟩ := hpow_can ch eh hG n (by omega)
    obtain ⟨Q, hQ, d1, d2, d3, -⟩ := c3.times eh c1 ch hn
    exact ⟨Q, d1, d3.trans (Eqv.mul c2 (Eqv.refl h)), d2, fun h0 => times_ne c1 ch (c4 h0) h0 hQ⟩

section
variable {p g f : PZ} {v : Int}
theorem hpow_free {h : PZ} (hh : okAll h) (h0 : ∀ t ∈ h, ex t.2 v = 0) : ∀ n, ∀ t ∈ hpow h n, ex t.2 v = 0
  | 0, t, ht => by rw [show hpow h 0 = [(1, [])] from rfl] at ht; rw [List.mem_singleton.1 ht]; rfl
  | n + 1, t, ht => by
    obtain ⟨a, ha, b, hb, rfl⟩ := mulL_mem (show t ∈ mulL (hpow h n) h from ht)
    show ex (timesM a.2 b.2) v = 0
    rw [times_ex' (hpow_ok hh n a ha) (hh b hb), hpow_free hh h0 n a ha, h0 b hb]
    rfl
theorem eqv_mem {a b : PZ} (ca : canP a) (h : Eqv a b) {t : Int × Mono} (ht : t ∈ a) : ∃ u ∈ b, u.2 = t.2 := by
  have h1 : cf a t.2 = t.1 := ca.cf_mem ht
  rw [h.cf] at h1
  exact canP.mem_of_cf (by rw [h1]; exact (ca.1 t ht).1)
theorem low_len {p : PZ} (h : mayAll p) (h0 : p ≠ []) (v : Int) : (lowP p v (degP p v)).length < p.length := by
  obtain ⟨t, ht, e⟩ := deg_met h h0 v
  unfold lowP
  rcases Nat.lt_or_ge (p.filter fun t => decide (ex t.2 v < degP p v)).length p.length with h1 | h1
  · exact h1
  · have h2 := List.length_filter_le (fun t => decide (ex t.2 v < degP p v)) p
    have h3 := (List.length_filter_eq_length_iff (p := fun t => decide (ex t.2 v < degP p v))).1 (Nat.le_antisymm h2 h1) t ht
    simp only [decide_eq_true_eq] at h3
    omega

/-- a step of an exact division: the other factor loses its terms of the highest degree -/
theorem exact_step {keep : Bool} {n : Nat} {q r pn : PZ} {x : PZ × PZ} {G E : Int} (hg : canP g) (cpn : canP pn) (epn : exB E pn) (eg : exB G g) (hE : 0 ≤ E) (hG : 0 ≤ G) (hEG : ((n : Int) + 2) * G + E ≤ 10000) (hr : canP r) (hr0 : r ≠ []) (hv : 1 ≤ v ∧ v ≤ 200) (hd1 : 1 ≤ degP g v)
    (hI : Eqv r (mulL (mulL (hpow (headP g v) n) pn) g)) (hdr : degP g v ≤ degP r v) (hs : stepD keep g (headP g v) v (degP g v) q r = some x) :
    pn ≠ [] ∧ Eqv x.2 (mulL (mulL (hpow (headP g v) (n + 1)) (lowP pn v (degP pn v))) g) := by
  have hn0 : (0 : Int) ≤ n := by omega
  have ex1 : ((n : Int) + 2) * G = n * G + G + G := by rw [Int.add_mul, show (2 : Int) * G = G + G by omega]; omega
  have hnG : 0 ≤ (n : Int) * G := Int.mul_nonneg hn0 hG
  have hp0 : pn ≠ [] := fun e => hr0 (can_eq hr canP_nil (hI.trans (by
    rw [e]
    intro F
    rw [ev_mulL]
    refine ev_zero (fun t ht => ?_)
    obtain ⟨a, _, b, hb, _⟩ := mulL_mem ht
    simp at hb)))
  refine ⟨hp0, ?_⟩
  have hg0 : g ≠ [] := fun e => by rw [e] at hd1; simp [degP] at hd1
  have ch := coefP_can hg v (degP g v)
  have eh := eg.coef hG v (degP g v)
  have h0 := coef_top_ne hg.may hg0 v
  have og := may_okAll hg.may
  have oh := may_okAll ch.may
  have opn := may_okAll cpn.may
  have ohn := hpow_ok oh n
  obtain ⟨P, cP, qP, eP, nP⟩ := hpow_can ch eh hG n (by omega)
  have oP := may_okAll cP.may
  obtain ⟨A, hA, cA, eA, qA, -⟩ := eP.times epn cP cpn (by omega)
  obtain ⟨B, hB, cB, -, qB, -⟩ := eA.times eg cA hg (by omega)
  obtain rfl : r = B := can_eq hr cB (hI.trans ((Eqv.mul ((Eqv.mul qP.symm (Eqv.refl pn)).trans qA.symm) (Eqv.refl g)).trans qB.symm))
  have dP : degP P v = 0 := degP_none (fun t ht => by
    obtain ⟨u, hu, e⟩ := eqv_mem cP qP ht
    rw [← e]
    exact hpow_free oh (fun t ht => coefP_ex ht) n u hu)
  have A0 := times_ne cP cpn (nP h0) hp0 hA
  have dA := times_deg cP cpn (nP h0) hp0 hA v
  rw [dP, Int.zero_add] at dA
  have dB := times_deg cA hg A0 hg0 hB v
  rw [dA] at dB
  -- the head
  have t1 := top_eqv cA hg hB v
  rw [dA, ← dB] at t1
  have t2 := top_eqv cP cpn hA v
  rw [dP, Int.zero_add, coef_same cP (fun t ht => by
    have h1 := degP_le_mem ht v
    have h2 := ex_nonneg (cP.1 t ht).2 v
    omega)] at t2
  have ctop := coefP_can cpn v (degP pn v)
  have otop := may_okAll ctop.may
  have head : Eqv (headP r v) (mulL (mulL P (coefP pn v (degP pn v))) (headP g v)) := t1.trans (Eqv.mul t2 (Eqv.refl _))
  obtain ⟨t, l, m, ht, hl, hm, e2, -, -⟩ := stepD_some hs
  have ct := termD_can hr hv (by omega) ht
  have hpr := degP_range cpn.may v
  obtain ⟨i, hi⟩ : ∃ i : Nat, (i : Int) = degP pn v := ⟨(degP pn v).toNat, by omega⟩
  have hi2 : (degP r v - degP g v).toNat = i := by omega
  have opw := may_okAll (pow_may hv (i := i) (by omega))
  have qt : Eqv t (mulL (mulL P (headP g v)) (partP pn v (degP pn v))) := by
    unfold termD at ht
    rw [hi2] at ht
    obtain ⟨mt, rfl⟩ := times_some (coefP_can hr v _).may (pow_may hv (by omega)) ht
    refine (norm_eqv mt).trans ((Eqv.mul head (Eqv.refl _)).trans ((mul_rot (mulL_ok oP otop) oh opw).trans ?_))
    have h1 : Eqv (mulL (mulL P (coefP pn v (degP pn v))) (powP v i)) (mulL P (partP pn v (degP pn v))) := by
      refine (mul_assoc_eqv oP otop opw).trans (Eqv.mul (Eqv.refl P) ?_)
      rw [← hi, part_mul cpn hv]
      exact Eqv.refl _
    exact (Eqv.mul h1 (Eqv.refl _)).trans (mul_rot oP (may_okAll (part_can cpn v _).may) oh)
  have opart := may_okAll (part_can cpn v (degP pn v)).may
  have olow := may_okAll (low_can cpn v (degP pn v)).may
  obtain ⟨ml, rfl⟩ := times_some ct.may hg.may hl
  obtain ⟨mm, rfl⟩ := times_some ch.may hr.may hm
  have qm : Eqv (mulL (headP g v) r) (mulL (mulL (mulL P (headP g v)) pn) g) := by
    refine (mul_comm_eqv oh (may_okAll hr.may)).trans ((Eqv.mul (qB.trans (Eqv.mul qA (Eqv.refl g))) (Eqv.refl _)).trans ((mul_rot (mulL_ok oP opn) og oh).trans (Eqv.mul (mul_rot oP opn oh) (Eqv.refl g))))
  have qpn : Eqv pn (lowP pn v (degP pn v) ++ partP pn v (degP pn v)) := by
    have h1 := low_next cpn v (degP pn v)
    rw [low_all v (by omega : degP pn v < degP pn v + 1)] at h1
    have h2 := norm_eqv (may_append (low_can cpn v (degP pn v)).may (part_can cpn v (degP pn v)).may)
    rw [h1] at h2
    exact h2
  have qH : Eqv (mulL P (headP g v)) (hpow (headP g v) (n + 1)) := Eqv.mul qP (Eqv.refl _)
  intro F
  have k1 : ev F (mulL (mulL (mulL P (headP g v)) pn) g) = ev F (mulL (mulL (mulL P (headP g v)) (lowP pn v (degP pn v))) g) + ev F (mulL (mulL (mulL P (headP g v)) (partP pn v (degP pn v))) g) := by
    rw [(Eqv.mul ((Eqv.mul (Eqv.refl _) qpn).trans (mul_add_right _ _ _)) (Eqv.refl g)) F, mul_add_left, ev_append]
  rw [e2, norm_eqv (may_append (norm_can mm).may (negP_can (norm_can ml)).may) F, ev_append, ev_negP, norm_eqv mm F, norm_eqv ml F, show ev F (mulL (coefP g v (degP g v)) r) = _ from qm F, (Eqv.mul qt (Eqv.refl g)) F, k1, ← (Eqv.mul (Eqv.mul qH (Eqv.refl _)) (Eqv.refl g)) F]
  omega

/-- sizes of an exact division -/
theorem fitRun_exact {o : Option Nat} {keep : Bool} {A T B M : Nat} {G E : Int} (fg : Fit A T g) (fh : Fit A T (headP g v)) (hT : 1 ≤ T) (hv : 1 ≤ v ∧ v ≤ 200) (hd1 : 1 ≤ degP g v) (hM : M ≤ 1000000000000) (eg : exB G g) (hG : 0 ≤ G) (hE : 0 ≤ E) (j : Nat) (hEG : ((j : Int) + 2) * G + E ≤ 10000) :
    ∀ (k n K L : Nat) (s : MSt) (q r pn : PZ), Fit K L q → Fit K L r → canP pn → exB E pn → Eqv r (mulL (mulL (hpow (headP g v) n) pn) g) → n + pn.length ≤ j → K + pn.length * (A + 7) ≤ B → L * (2 * T) ^ pn.length ≤ M → FitRun o keep g (headP g v) v (degP g v) B M k s q r := by
  intro k
  induction k with
  | zero =>
    intro n K L s q r pn fq fr _ _ _ _ hK hL
    have hp : 1 ≤ (2 * T) ^ pn.length := Nat.one_le_iff_ne_zero.2 (Nat.pos_iff_ne_zero.1 (Nat.pow_pos (by omega)))
    have hLM : L ≤ M := Nat.le_trans (Nat.le_mul_of_pos_right L hp) hL
    exact ⟨fq.mono (by omega) hLM, fr.mono (by omega) hLM⟩
  | succ k ih =>
    intro n K L s q r pn fq fr cpn epn hI hnj hK hL
    have hp : 1 ≤ (2 * T) ^ pn.length := Nat.one_le_iff_ne_zero.2 (Nat.pos_iff_ne_zero.1 (Nat.pow_pos (by omega)))
    have hLM : L ≤ M := Nat.le_trans (Nat.le_mul_of_pos_right L hp) hL
    refine ⟨fq.mono (by omega) hLM, fr.mono (by omega) hLM, fun hr0 hdr _ x hs _ _ => ?_⟩
    have hnG : ((n : Int) + 2) * G ≤ ((j : Int) + 2) * G := Int.mul_le_mul_of_nonneg_right (by omega) hG
    obtain ⟨hp0, hI2⟩ := exact_step fg.can cpn epn eg hE hG (by omega) fr.can hr0 hv hd1 hI hdr hs
    have hlt := low_len cpn.may hp0 v
    obtain ⟨i, hi⟩ : ∃ i, pn.length = i + 1 := ⟨pn.length - 1, by omega⟩
    have hq : 1 ≤ (2 * T) ^ i := Nat.one_le_iff_ne_zero.2 (Nat.pos_iff_ne_zero.1 (Nat.pow_pos (by omega)))
    have e1 : L * (2 * T) ^ (i + 1) = 2 * T * L * (2 * T) ^ i := by rw [Nat.pow_succ, Nat.mul_comm ((2 * T) ^ i), ← Nat.mul_assoc, Nat.mul_comm L]
    rw [hi] at hL hK
    have hb : 2 * T * L ≤ M := Nat.le_trans (Nat.le_mul_of_pos_right _ hq) (e1 ▸ hL)
    obtain ⟨f1, f2⟩ := stepD_fit fg fh fq fr hT (by omega) hv (by omega) hs
    have hll : (lowP pn v (degP pn v)).length ≤ i := by omega
    refine ih (n + 1) _ _ _ _ _ (lowP pn v (degP pn v)) f1 f2 (low_can cpn v _) (fun t ht => epn t (List.mem_filter.1 ht).1) hI2 (by omega) ?_ ?_
    · have : (lowP pn v (degP pn v)).length * (A + 7) ≤ i * (A + 7) := Nat.mul_le_mul_right _ hll
      rw [Nat.add_mul, Nat.one_mul] at hK
      omega
    · refine Nat.le_trans (Nat.mul_le_mul_left _ (Nat.pow_le_pow_right (by omega) hll)) ?_
      rw [← e1]
      exact hL

/-- what an exact division answers -/
theorem exact_good {R : DRes} {X : PZ} {E : Int} (hg : canP g) (hf : Eqv f (mulL p g)) (op : okAll p) (_hv : 1 ≤ v ∧ v ≤ 200) (hd1 : 1 ≤ degP g v) (H : GoodD f g v R) (hX : canP X) (hXe : Eqv X (mulL (hpow (headP g v) R.n) p)) (eX : exB E X) (eq : exB E R.q) (eg : exB E g) (hE2 : E + E ≤ 10000) :
    R.r = [] ∧ R.q = X := by
  have hg0 : g ≠ [] := fun e => by rw [e] at hd1; simp [degP] at hd1
  have og := may_okAll hg.may
  have oh := may_okAll (coefP_can hg v (degP g v)).may
  have hm := may_append hX.may (negP_can H.cq).may
  have cD := norm_can hm
  have qD := norm_eqv hm
  have hDg : Eqv (mulL (normP (X ++ negP R.q)) g) R.r := fun F => by
    rw [(Eqv.mul qD (Eqv.refl g)) F, mul_add_left, ev_append]
    have h1 : ev F (mulL (negP R.q) g) = - ev F (mulL R.q g) := by rw [ev_mulL, ev_negP, ← ev_mulL]
    have h2 := H.ident F
    rw [ev_append, (Eqv.mul (Eqv.refl _) hf) F] at h2
    have h3 : ev F (mulL X g) = ev F (mulL (hpow (headP g v) R.n) (mulL p g)) := by
      rw [(Eqv.mul hXe (Eqv.refl g)) F]
      exact mul_assoc_eqv (hpow_ok oh _) op og F
    rw [h1, h3, h2]
    omega
  by_cases hD : normP (X ++ negP R.q) = []
  · have hr : R.r = [] := can_eq H.cr canP_nil (fun F => by rw [← hDg F, hD]; rfl)
    refine ⟨hr, can_eq H.cq hX (fun F => ?_)⟩
    have h1 := qD F
    rw [hD, ev_append, ev_negP, ev_nil] at h1
    omega
  · exfalso
    have eD : exB E (normP (X ++ negP R.q)) := (eX.append eq.neg).norm hm
    obtain ⟨C, hC, cC, -, qC, -⟩ := eD.times eg cD hg hE2
    have hCr : C = R.r := can_eq cC H.cr (qC.trans hDg)
    have h1 := times_ne cD hg hD hg0 hC
    have h2 := times_deg cD hg hD hg0 hC v
    rw [hCr] at h1 h2
    have h3 := (degP_range cD.may v).1
    rcases H.deg with h | h
    · exact h1 h
    · omega
end
end Go.Proofs.YtcpfeepnfodifaaGreat

namespace Go.Proofs.YtcpfeepnfodifaaGreat

/-- a power, by products -/
def powN (h : PZ) : Nat → Option PZ
  | 0 => some [(1, [])]
  | n + 1 => match powN h n with
    | none => none
    | some p => timesP p h
theorem powN_ex {h : PZ} {G : Int} (ch : canP h) (eh : exB G h) (hG : 0 ≤ G) : ∀ n : Nat, (n : Int) * G ≤ 10000 → ∃ P, powN h n = some P ∧ canP P ∧ Eqv P (hpow h n) ∧ exB ((n : Int) * G) P
  | 0, _ => ⟨[(1, [])], rfl, unit_can, Eqv.refl _, fun t ht u => by rw [List.mem_singleton.1 ht]; show ex [] u ≤ _; simp [ex]⟩
  | n + 1, hn => by
    have e1 : ((n + 1 : Nat) : Int) * G = n * G + G := by rw [Int.natCast_add, Int.add_mul, show ((1 : Nat) : Int) = 1 from rfl, Int.one_mul]
    rw [e1] at hn ⊢
    obtain ⟨P, c0, c1, c2, c3⟩ := powN_ex ch eh hG n (by omega)
    obtain ⟨Q, hQ, d1, d2, d3, -⟩ := c3.times eh c1 ch hn
    exact ⟨Q, by rw [powN, c0]; exact hQ, d1, d3.trans (Eqv.mul c2 (Eqv.refl h)), d2⟩
theorem unit_fit : Fit 1 1 [((1 : Int), ([] : Mono))] := ⟨unit_can, fun t ht => by rw [List.mem_singleton.1 ht]; show (1 : Int).natAbs < _; decide, Nat.le_refl _⟩
theorem powN_fit {h : PZ} {A T : Nat} (fh : Fit A T h) (hT : 1 ≤ T) : ∀ (n : Nat) (P : PZ), T ^ n ≤ 1000000000000 → powN h n = some P → Fit (1 + n * (A + 2)) (T ^ n) P
  | 0, P, _, hP => by
    have e : some [((1 : Int), ([] : Mono))] = some P := hP
    cases e
    exact unit_fit.mono (by omega) (Nat.le_refl _)
  | n + 1, P, hn, hP => by
    have h1 : T ^ n ≤ T ^ (n + 1) := Nat.pow_le_pow_right hT (Nat.le_succ n)
    rw [powN] at hP
    cases hp : powN h n with
    | none => rw [hp] at hP; cases hP
    | some p =>
      rw [hp] at hP
      have f1 := powN_fit fh hT n p (Nat.le_trans h1 hn) hp
      have f2 := f1.times fh hP (by rw [← Nat.pow_succ]; exact hn)
      exact f2.mono (by rw [Nat.add_mul]; omega) (by rw [Nat.pow_succ]; exact Nat.le_refl _)

section
variable {g f h q r : PZ} {v d : Int} {o : Option Nat} {keep : Bool} {B M : Nat}
theorem FitRun.now : ∀ {k : Nat} {s : MSt} {q r : PZ}, FitRun o keep g h v d B M k s q r → Fit B M q ∧ Fit B M r
  | 0, _, _, _, h => h
  | _ + 1, _, _, _, h => ⟨h.1, h.2.1⟩
theorem run_fit : ∀ (k : Nat) (s : MSt) (q r : PZ) (n : Nat), FitRun o keep g h v d B M k s q r →
    Fit B M (runD o keep g h v d k s q r n).q ∧ Fit B M (runD o keep g h v d k s q r n).r := by
  intro k
  induction k with
  | zero => intro s q r n h; exact h
  | succ k ih =>
    intro s q r n hF
    obtain ⟨h1, h2, hF⟩ := hF
    have fn : Fit B M [] := fit_nil.mono (Nat.zero_le _) (Nat.zero_le _)
    rw [runD]
    by_cases hx : r = [] ∨ degP r v < d
    · rw [if_pos hx]; exact ⟨h1, h2⟩
    rw [if_neg hx]
    by_cases g1 : (mstep o s).1 ≠ 0
    · rw [if_pos g1]; exact ⟨fn, fn⟩
    rw [if_neg g1]
    cases hst : stepD keep g h v d q r with
    | none => exact ⟨fn, fn⟩
    | some x =>
      simp only
      by_cases g2 : (mkeep o (mstep o s).2 x.2).1 ≠ 0
      · rw [if_pos g2]; exact ⟨fn, fn⟩
      rw [if_neg g2]
      by_cases g3 : (mkeep o (mstep o s).2 x.1).1 ≠ 0
      · rw [if_pos g3]; exact ⟨fn, fn⟩
      rw [if_neg g3]
      have hr0 : r ≠ [] := fun e => hx (.inl e)
      have hdr : d ≤ degP r v := by
        rcases Int.lt_or_le (degP r v) d with h | h
        · exact absurd (.inr h) hx
        · exact h
      exact ih _ _ _ _ (hF hr0 hdr (Decidable.not_not.1 g1) x hst (Decidable.not_not.1 g2) (Decidable.not_not.1 g3))
end

/-- the identity, as the statement asks it -/
theorem ident_law {f g : PZ} {v : Int} {R : DRes} {E : Int} (hf : canP f) (hg : canP g) (H : GoodD f g v R) (eg : exB E g) (ef : exB E f) (eq : exB E R.q) (hE : 0 ≤ E) (hE2 : ((R.n : Int) + 1) * E ≤ 10000) (hE3 : E + E ≤ 10000) :
    ∃ P X Y, powN (headP g v) R.n = some P ∧ timesP P f = some X ∧ timesP R.q g = some Y ∧ X = normP (Y ++ R.r) := by
  have ch := coefP_can hg v (degP g v)
  have eh := eg.coef hE v (degP g v)
  have e1 : ((R.n : Int) + 1) * E = R.n * E + E := by rw [Int.add_mul, Int.one_mul]
  obtain ⟨P, hP, cP, qP, eP⟩ := powN_ex ch eh hE R.n (by omega)
  obtain ⟨X, hX, cX, -, qX, -⟩ := eP.times ef cP hf (by omega)
  obtain ⟨Y, hY, cY, -, qY, -⟩ := eq.times eg H.cq hg (by omega)
  refine ⟨P, X, Y, hP, hX, hY, (norm_eq (may_append cY.may H.cr.may) cX ?_).symm⟩
  exact (Eqv.append qY (Eqv.refl _)).trans (H.ident.symm.trans ((Eqv.mul qP (Eqv.refl f)).symm.trans qX.symm))
end Go.Proofs.YtcpfeepnfodifaaGreat

namespace Go.Proofs.YtcpfeepnfodifaaGreat
open Go.RowKit

/-- a division that has begun -/
def BeginPost (W : World) (vm : Value) (v d : Int) (vg : Value) (h f : PZ) (keep : Bool) : Ending → World → Prop := fun e W' =>
  ∃ bd vh vr, e = .returned (.tuple #[.pointer (some ⟨bd, 0, none⟩), .int .i64 0]) ∧ W.heap.size ≤ bd ∧ DivAt W' bd vm v d vg vh (.slice none 0 0) vr 0 keep ∧
    Terms (fun k => New W W' k ∧ k ≠ bd) W' vh (ofP h) ∧ Terms (fun k => New W W' k ∧ k ≠ bd) W' vr (ofP f) ∧ Ext W W'

set_option maxRecDepth 100000 in
set_option maxHeartbeats 8000000 in
theorem div_begin {W : World} {vm vf vg : Value} {v : Int} {keep : Bool} {f g : PZ} {A B T M : Nat} (hvm : ∃ a, vm = .pointer a) (hf : PV W vf f) (hg : PV W vg g) (ff : Fit B M f) (fg : Fit A T g) (hA : A ≤ 1000000) (hB : B ≤ 1000000) (hT : T ≤ 1000000000000) (hM : M ≤ 1000000000000) (hv : 1 ≤ v ∧ v ≤ 200) (hd : 1 ≤ degP g v) :
    Calls Tryz.prog 106 #[vm, vf, vg, .int .i64 v, .bool keep] W (BeginPost W vm v (degP g v) vg (headP g v) f keep) := by
  have hnot : ∀ (x : Bool) (w : World), (Op.unary .not (.bool x)).run Tryz.prog w = .ok (.bool (!x)) w := fun _ _ => rfl
  obtain ⟨pa, rfl⟩ := hvm
  have HX0 := hid (Ext.refl W)
  have hr := degP_range fg.can.may v
  have C1 := hid (z_may hf ff hB)
  have C2 := hid (fun (Y : World) (hY : Ext W Y) => z_may (Terms.on hg hY) fg hA)
  have C3 := hid (fun (Y : World) (hY : Ext W Y) => z_degree (Terms.on hg hY) fg hA (x := v) (by unfold inI64; omega))
  have C4 := fun (Y : World) (hY : Ext W Y) => z_add (Terms.on hf hY) (Terms.nilv (Old Y) Y none 0 (by decide)) ff fit_nil hB (by decide) (by omega)
  rw [List.append_nil, normP_of_can ff.can] at C4
  have HC4 := hid C4
  have C5 := hid (fun (Y : World) (hY : Ext W Y) => z_head (Terms.on hg hY) fg hA hT hv)
  obtain ⟨af, cf, rfl⟩ := hf.form
  obtain ⟨ag, cg, rfl⟩ := hg.form
  obtain ⟨nf, hnf⟩ : ∃ n, n = (ofP f).length := ⟨_, rfl⟩
  obtain ⟨ng, hng⟩ : ∃ n, n = (ofP g).length := ⟨_, rfl⟩
  obtain ⟨nh, hnh⟩ : ∃ n, n = (ofP (headP g v)).length := ⟨_, rfl⟩
  have HNH := hid hnh
  have HNF := hid hnf
  rw [← hnf] at C1 HC4 ⊢
  rw [← hng] at C2 C3 C5 ⊢
  obtain ⟨d, hd2⟩ : ∃ d, d = degP g v := ⟨_, rfl⟩
  rw [← hd2] at C3 hd hr ⊢
  have q1 : decide (v < 1) = false := decide_eq_false (by omega)
  have q2 : decide (200 < v) = false := decide_eq_false (by omega)
  have q3 : decide (d < 1) = false := decide_eq_false (by omega)
  clear hf hg ff fg C4 hnf hng hnh hd2
  go_enter Tryz.func106, Tryz.ntmps106
  go_wp2_with fail
  with_reducible refine C1.out.mono ?_
  rintro e w1 ⟨rfl, hx1⟩
  have HX1 := hid hx1
  have D2 := hid (C2.out w1 hx1)
  clear hx1
  go_wp2_with fail
  with_reducible refine D2.out.mono ?_
  rintro e w2 ⟨rfl, hx2⟩
  have HX2 := hid (HX1.out.trans hx2)
  have D3 := hid (C3.out w2 HX2.out)
  clear hx2
  go_wp2_with fail
  with_reducible refine D3.out.mono ?_
  rintro e w3 ⟨rfl, hx3⟩
  have HX3 := hid (HX2.out.trans hx3)
  have D4 := hid (HC4.out w3 HX3.out)
  clear hx3
  go_wp2_with fail
  with_reducible refine D4.out.mono ?_
  rintro e w4 ⟨v4, rfl, hp4, hx4⟩
  have HX4 := hid (HX3.out.trans hx4)
  have HP4 := hid (hp4.to (S' := New W w4) (Kept.refl _ _) (fun k h => ⟨Nat.le_trans HX3.out.size h.1, h.2⟩))
  have D5 := hid (C3.out w4 HX4.out)
  obtain ⟨a4, c4, rfl⟩ := hp4.form
  rw [← HNF.out] at HP4
  rw [← HNF.out]
  clear hx4 hp4
  go_wp2_with fail
  with_reducible refine D5.out.mono ?_
  rintro e w5 ⟨rfl, hx5⟩
  have HX5 := hid (HX4.out.trans hx5)
  have HX45 := hid hx5
  have D6 := hid (C5.out w5 HX5.out)
  clear hx5
  go_wp2_with fail
  with_reducible refine D6.out.mono ?_
  rintro e w6 ⟨v6, rfl, hp6, hx6⟩
  have HX6 := hid (HX5.out.trans hx6)
  have HX46 := hid (HX45.out.trans hx6)
  have HP6 := hid (hp6.to (S' := New W w6) (Kept.refl _ _) (fun k h => ⟨Nat.le_trans HX5.out.size h.1, h.2⟩))
  obtain ⟨a6, c6, rfl⟩ := hp6.form
  rw [← HNH.out] at HP6
  rw [← HNH.out]
  clear hx6 hp6
  go_wp2
  all_goals
    go_ret2
    have hx7 : Ext w6 (w6.alloc (.cells #[.pointer pa, .int .i64 v, .int .i64 d, .slice ag ng cg, .slice a6 nh c6, .slice none 0 0, .slice a4 nf c4, .int .i64 0, .bool keep] 114)) := Ext.alloc (Ext.refl w6) _
    have hs : w6.heap.size < (w6.alloc (.cells #[.pointer pa, .int .i64 v, .int .i64 d, .slice ag ng cg, .slice a6 nh c6, .slice none 0 0, .slice a4 nf c4, .int .i64 0, .bool keep] 114)).heap.size := by rw [size_alloc]; omega
    refine ⟨w6.heap.size, .slice a6 nh c6, .slice a4 nf c4, rfl, HX6.out.size, ⟨cell_new _ _ _ rfl rfl, cell_new _ _ _ rfl rfl, cell_new _ _ _ rfl rfl, cell_new _ _ _ rfl rfl, cell_new _ _ _ rfl rfl, cell_new _ _ _ rfl rfl, cell_new _ _ _ rfl rfl, cell_new _ _ _ rfl rfl, cell_new _ _ _ rfl rfl, fun i => free_new _ _ _⟩, ?_, ?_, HX6.out.trans hx7⟩
    · exact HP6.out.to (Kept.ext hx7 (fun _ h => h.2)) (fun k h => ⟨⟨h.1, Nat.lt_trans h.2 hs⟩, by have := h.2; omega⟩)
    · exact HP4.out.to (Kept.ext (HX46.out.trans hx7) (fun _ h => h.2)) (fun k h => ⟨⟨h.1, Nat.lt_of_lt_of_le h.2 (Nat.le_trans HX46.out.size (Nat.le_of_lt hs))⟩, by have := h.2; have := HX46.out.size; omega⟩)

set_option maxRecDepth 100000 in
set_option maxHeartbeats 8000000 in
theorem div_begin_no {W : World} {vm vf vg : Value} {v : Int} {keep : Bool} {fs gs : List RTerm} (hvm : ∃ a, vm = .pointer a) (hf : Terms (Old W) W vf fs) (hg : Terms (Old W) W vg gs) (sf : smallT fs) (sg : smallT gs) (hv : inI64 v) (hno : ¬ (mayT fs = true ∧ mayT gs = true ∧ (1 ≤ v ∧ v ≤ 200) ∧ 1 ≤ degP (plainP gs) v)) :
    Calls Tryz.prog 106 #[vm, vf, vg, .int .i64 v, .bool keep] W fun e W' => e = .returned (.tuple #[.pointer none, .int .i64 2]) ∧ Ext W W' := by
  have hnot : ∀ (x : Bool) (w : World), (Op.unary .not (.bool x)).run Tryz.prog w = .ok (.bool (!x)) w := fun _ _ => rfl
  obtain ⟨pa, rfl⟩ := hvm
  have hr := degP_range (plainP_can gs).may v
  have C1 := poly_may vf fs W hf (fun _ h => h) sf
  have C2 := fun (Y : World) (hY : Ext W Y) => poly_may vg gs Y (Terms.on hg hY) (fun _ h => h) sg
  have C3 := fun (Y : World) (hY : Ext W Y) => view_degree vg gs v Y (Terms.on hg hY) (fun _ h => h) sg hv
  obtain ⟨af, cf, rfl⟩ := hf.form
  obtain ⟨ag, cg, rfl⟩ := hg.form
  obtain ⟨nf, hnf⟩ : ∃ n, n = fs.length := ⟨_, rfl⟩
  obtain ⟨ng, hng⟩ : ∃ n, n = gs.length := ⟨_, rfl⟩
  rw [← hnf] at C1 ⊢
  rw [← hng] at C2 C3 ⊢
  obtain ⟨d, hd2⟩ : ∃ d, d = degP (plainP gs) v := ⟨_, rfl⟩
  rw [← hd2] at C3 hr hno
  unfold inI64 at hv
  obtain ⟨hv1, hv2⟩ := hv
  generalize mayT fs = bf at C1 hno
  generalize mayT gs = bg at C2 hno
  have HC2 := hid C2
  have HC3 := hid C3
  have HC1 := hid C1
  clear hf hg sf sg C1 C2 C3 hnf hng hd2
  cases bf with
  | false =>
    clear hno
    go_enter Tryz.func106, Tryz.ntmps106
    go_wp2_with fail
    with_reducible refine HC1.out.mono ?_
    rintro e w1 ⟨rfl, hx1⟩
    have HX1 := hid hx1
    clear hx1
    go_wp2
    all_goals
      go_ret2
      exact ⟨rfl, HX1.out⟩
  | true =>
    cases bg with
    | false =>
      clear hno
      go_enter Tryz.func106, Tryz.ntmps106
      go_wp2_with fail
      with_reducible refine HC1.out.mono ?_
      rintro e w1 ⟨rfl, hx1⟩
      have HX1 := hid hx1
      have D2 := hid (HC2.out w1 hx1)
      clear hx1
      go_wp2_with fail
      with_reducible refine D2.out.mono ?_
      rintro e w2 ⟨rfl, hx2⟩
      have HX2 := hid (HX1.out.trans hx2)
      clear hx2
      go_wp2
      all_goals
        go_ret2
        exact ⟨rfl, HX2.out⟩
    | true =>
      by_cases h1 : v < 1
      · have q1 : decide (v < 1) = true := decide_eq_true h1
        clear hno
        go_enter Tryz.func106, Tryz.ntmps106
        go_wp2_with fail
        with_reducible refine HC1.out.mono ?_
        rintro e w1 ⟨rfl, hx1⟩
        have HX1 := hid hx1
        have D2 := hid (HC2.out w1 hx1)
        clear hx1
        go_wp2_with fail
        with_reducible refine D2.out.mono ?_
        rintro e w2 ⟨rfl, hx2⟩
        have HX2 := hid (HX1.out.trans hx2)
        clear hx2
        go_wp2
        all_goals
          go_ret2
          exact ⟨rfl, HX2.out⟩
      · have q1 : decide (v < 1) = false := decide_eq_false h1
        by_cases h2 : 200 < v
        · have q2 : decide (200 < v) = true := decide_eq_true h2
          clear hno
          go_enter Tryz.func106, Tryz.ntmps106
          go_wp2_with fail
          with_reducible refine HC1.out.mono ?_
          rintro e w1 ⟨rfl, hx1⟩
          have HX1 := hid hx1
          have D2 := hid (HC2.out w1 hx1)
          clear hx1
          go_wp2_with fail
          with_reducible refine D2.out.mono ?_
          rintro e w2 ⟨rfl, hx2⟩
          have HX2 := hid (HX1.out.trans hx2)
          clear hx2
          go_wp2
          all_goals
            go_ret2
            exact ⟨rfl, HX2.out⟩
        · have q2 : decide (200 < v) = false := decide_eq_false h2
          have q3 : decide (d < 1) = true := decide_eq_true (by
            rcases Int.lt_or_le d 1 with h | h
            · exact h
            · exact absurd ⟨rfl, rfl, ⟨by omega, by omega⟩, h⟩ hno)
          clear hno
          go_enter Tryz.func106, Tryz.ntmps106
          go_wp2_with fail
          with_reducible refine HC1.out.mono ?_
          rintro e w1 ⟨rfl, hx1⟩
          have HX1 := hid hx1
          have D2 := hid (HC2.out w1 hx1)
          clear hx1
          go_wp2_with fail
          with_reducible refine D2.out.mono ?_
          rintro e w2 ⟨rfl, hx2⟩
          have HX2 := hid (HX1.out.trans hx2)
          have D3 := hid (HC3.out w2 HX2.out)
          clear hx2
          go_wp2_with fail
          with_reducible refine D3.out.mono ?_
          rintro e w3 ⟨rfl, hx3⟩
          have HX3 := hid (HX2.out.trans hx3)
          clear hx3
          go_wp2
          all_goals
            go_ret2
            exact ⟨rfl, HX3.out⟩
end Go.Proofs.YtcpfeepnfodifaaGreat

namespace Go.Proofs.YtcpfeepnfodifaaGreat
open Go.RowKit

def cellNat (w : World) (a : Addr) : Nat := match w.cell? a with
  | some (.int _ n) => n.toNat
  | _ => 0
theorem cellNat_of {w : World} {a : Addr} {k : IntKind} {n : Int} (h : w.cell? a = some (.int k n)) : cellNat w a = n.toNat := by unfold cellNat; rw [h]

def meas (K : Nat) (e : Value) (n : Nat) : Nat := if intOf e = 0 then K + 2 - n else 0
theorem meas_run (K : Nat) (n : Nat) : meas K (.int .i64 0) n = K + 2 - n := if_pos rfl
theorem meas_end {K : Nat} {c : Int} (h : c ≠ 0) {n : Nat} : meas K (.int .i64 c) n = 0 := if_neg h

/-- what all steps of a division leave -/
def RunPost (W : World) (o : Option Nat) (R : DRes) : Ending → World → Prop := fun e W' => ∃ bd, e = .returned (.tuple #[.pointer (some ⟨bd, 0, none⟩), .int .i64 R.e]) ∧ MV W' o R.s ∧ W.grownBy W' o ∧
  (R.e = 0 → ∃ vq vr, W'.cell? ⟨bd, 5, none⟩ = some vq ∧ W'.cell? ⟨bd, 6, none⟩ = some vr ∧ W'.cell? ⟨bd, 7, none⟩ = some (.int .i64 (R.n : Nat)) ∧ PMN W.heap.size o W' vq R.q ∧ PMN W.heap.size o W' vr R.r)

set_option maxRecDepth 100000 in
set_option maxHeartbeats 8000000 in
theorem div_run {W : World} {o : Option Nat} {s : MSt} {vf vg : Value} {v : Int} {keep : Bool} {f g : PZ} {A B T M : Nat} (hM : MV W o s) (hf : PM o W vf f) (hg : PM o W vg g) (fg : Fit A T g) (hF : FitRun o keep g (headP g v) v (degP g v) B M ((degP f v).toNat + 1) s [] f)
    (hA : A < 24) (hB : B ≤ 80000) (hT : 1 ≤ T) (hTb : T ≤ 1000000) (hTM : 2 * T * M ≤ 1000000000000) (hv : 1 ≤ v ∧ v ≤ 200) (hd : 1 ≤ degP g v) :
    Calls Tryz.prog 56 #[mval o, vf, vg, .int .i64 v, .bool keep] W (RunPost W o (divD o keep s f g v)) := by
  have hMM : M ≤ 2 * T * M := Nat.le_mul_of_pos_left M (by omega)
  have ff := hF.now.2
  have hfr := degP_range ff.can.may v
  have hgr := degP_range fg.can.may v
  have fh := fg.coef v (degP g v)
  have CB := div_begin (vm := mval o) (keep := keep) ⟨_, rfl⟩ hf.pv hg.pv ff fg (by omega) (by omega) (by omega) (by omega) hv hd
  obtain ⟨R, hR⟩ : ∃ R, R = divD o keep s f g v := ⟨_, rfl⟩
  rw [← hR]
  have HR0 := hid hR
  obtain ⟨K, hK⟩ : ∃ K, K = (degP f v).toNat + 1 := ⟨_, rfl⟩
  have HK := hid hK
  have HFR := hid hF
  have HM := hid hM
  have HG := hid hg
  have HBM := hid (fun b hb => hM.block (b := b) hb)
  have HFG := hid fg
  have HFH := hid (show Fit A T (headP g v) from fh)
  have HV := hid hv
  have HDD := hid hd
  have HFF := hid (And.intro hfr.1 hfr.2)
  have HBD := hid (And.intro hA (And.intro hB (And.intro hT hTM)))
  obtain ⟨vm, hvm⟩ : ∃ x, x = mval o := ⟨_, rfl⟩
  rw [← hvm] at CB ⊢
  have HVM := hid hvm
  obtain ⟨af, cf, rfl⟩ := hf.form
  obtain ⟨ag, cg, rfl⟩ := hg.form
  obtain ⟨nf, hnf⟩ : ∃ n, n = (ofP f).length := ⟨_, rfl⟩
  obtain ⟨ng, hng⟩ : ∃ n, n = (ofP g).length := ⟨_, rfl⟩
  rw [← hnf, ← hng] at CB ⊢
  rw [← hng] at HG
  obtain ⟨d, hd2⟩ : ∃ d, d = degP g v := ⟨_, rfl⟩
  have HD2 := hid hd2
  rw [← hd2] at CB hgr
  have HCB := hid CB
  obtain ⟨hv1, hv2⟩ := hv
  obtain ⟨hgr1, hgr2⟩ := hgr
  clear CB hM hf hg fg hF ff fh hR hK hfr hvm hnf hng hd2 hA hB hT hTb hTM hMM hd
  go_enter Tryz.func56, Tryz.ntmps56
  go_wp2_with fail
  with_reducible refine HCB.out.mono ?_
  rintro e w1 ⟨bd, vh, vr0, rfl, hb1, hd1, hh1, hr1, hx1⟩
  have HX1 := hid hx1
  have HB1 := hid hb1
  have HOB : Hid (∀ b, o = some b → b ≠ bd) := hid (fun b hb => by have := HBM.out b hb; omega)
  have HVH := hid hh1
  have HVR := hid hr1
  have HDV := hid hd1
  have HNEW : Hid (∀ k, (New W w1 k ∧ k ≠ bd) → NC o bd w1 k) := hid (fun k hk => ⟨hk.1.2, fun e => by have := HBM.out k e.symm; have := hk.1.1; omega, hk.2⟩)
  have HVG : Hid (PC o bd w1 (.slice ag ng cg) g) := hid (HG.out.to (kept_nb (gb_of_ext hx1 o)) (fun k h => ⟨Nat.lt_of_lt_of_le h.1 hx1.size, h.2, by have := h.1; omega⟩))
  clear hx1 hb1 hd1 hh1 hr1
  go_wp2
  go_loopw [13] (fun e wr => Hid (Gd o bd w1 wr) ∧ ((∃ (k : Nat) (s' : MSt) (q r : PZ) (n : Nat) (vq vr : Value), e = .int .i64 0 ∧ Hid (runD o keep g (headP g v) v (degP g v) k s' q r n = R) ∧ Hid (degP r v < (k : Int)) ∧ Hid (FitRun o keep g (headP g v) v (degP g v) B M k s' q r) ∧ Hid (DivAt wr bd vm v d (.slice ag ng cg) vh vq vr (n : Nat) keep) ∧ Hid (PN W.heap.size o bd wr vq q) ∧ Hid (PN W.heap.size o bd wr vr r) ∧ Hid (MV wr o s') ∧ Hid (n + k = K)) ∨
      (∃ c : Int, e = .int .i64 c ∧ c ≠ 0 ∧ Hid (R.e = c) ∧ Hid (MV wr o R.s)))) (fun e wr => meas K e (cellNat wr ⟨bd, 7, none⟩))
  case atStart => exact ⟨Gd.refl _ _ _, .inl ⟨K, s, [], f, 0, _, _, rfl, by show _ = _; rw [HR0.out, HK.out]; rfl, by show _ < _; have := HFF.out; rw [HK.out]; omega, by rw [HK.out]; exact HFR, HDV, Terms.nilv _ _ _ _ (by decide), HVR.out.to (Kept.refl _ _) (fun k hk => ⟨hk.1.1, HNEW.out k hk⟩), HM.out.ext HX1.out, Nat.zero_add _⟩⟩
  case round =>
    obtain ⟨HGD, hcase⟩ := hrel
    rcases hcase with ⟨k, s', q, r, n, vq, vr, rfl, HR, HDG, HF, HD, HQ, HRR, HMV, HNK⟩ | ⟨c, rfl, hc0, HE, HMV⟩
    · have HFN := hid HF.out.now
      have hdr := degP_range HFN.out.2.can.may v
      obtain ⟨k1, hk1⟩ : ∃ k1, k = k1 + 1 := ⟨k - 1, by have := HDG.out; omega⟩
      subst hk1
      have e2 := HD.out.c2
      have e6 := HD.out.c6
      have HSZ := hid HD.out.lt
      by_cases hr0 : r = []
      · have hr0' := hr0
        subst hr0
        have HRE : Hid (R = ⟨0, q, [], n, s'⟩) := hid (by rw [← HR.out, runD_succ, if_pos (.inl rfl)])
        obtain ⟨ar, cr, hvr⟩ := HRR.out.form
        have hvr2 : vr = .slice ar 0 cr := hvr
        clear hvr hr0' hdr
        subst hvr2
        have L2 := fun Y : Later wr => Y.h.cell e2
        have L6 := fun Y : Later wr => Y.h.cell e6
        go_wp2
        refine wp_region_later (by kernel_rfl) (by kernel_rfl) ?_
        repeat (go_big_quiet_step (fail))
        refine wpQuiet_nil ?_
        intro W2 hW2
        have HW2 := hid hW2
        clear L2 L6 hW2 e2 e6
        go_wp2
        all_goals
          go_ret2
          rw [HRE.out]
          refine ⟨bd, rfl, HMV.out.ext HW2.out, (((gd_ext HX1.out).trans HGD.out).trans (gd_ext HW2.out)).gb HB1.out, fun _ => ?_⟩
          have D2 := HD.out.ext HW2.out
          exact ⟨_, _, D2.c5, D2.c6, D2.c7, (PN.on HQ.out (gd_ext HW2.out)).pmn, (PN.on HRR.out (gd_ext HW2.out)).pmn⟩
      · have CD := fun (Y : Later wr) => z_degree (Terms.on (PN.pc HRR.out).pv Y.h) HFN.out.2 (by have := HBD.out.2.1; omega) (x := v) (by unfold inI64; omega)
        have hnr : 0 < (ofP r).length := by rw [ofP_len]; exact List.length_pos_iff.2 hr0
        obtain ⟨ar, cr, rfl⟩ := HRR.out.form
        obtain ⟨nr, hnr2⟩ : ∃ n, n = (ofP r).length := ⟨_, rfl⟩
        rw [← hnr2] at CD hnr HD HRR e6
        obtain ⟨dr, hdr2⟩ : ∃ d, d = degP r v := ⟨_, rfl⟩
        rw [← hdr2] at CD hdr
        have HDR := hid hdr2
        have HCD := hid CD
        have HR0' := hid hr0
        obtain ⟨hdr1, hdr3⟩ := hdr
        clear hr0 hnr2 hdr2 CD
        have L2 := fun Y : Later wr => Y.h.cell e2
        have L6 := fun Y : Later wr => Y.h.cell e6
        by_cases hlt : dr < d
        · have q1 : decide (d ≤ dr) = false := decide_eq_false (by omega)
          have HRE : Hid (R = ⟨0, q, r, n, s'⟩) := hid (by rw [← HR.out, runD_succ, if_pos (.inr (by rw [← HDR.out, ← HD2.out]; exact hlt))])
          clear hlt
          go_wp2
          refine wp_region_later (by kernel_rfl) (by kernel_rfl) ?_
          repeat (go_big_quiet_step (first | (go_at_call 24; exact Later.done (HCD.out _))))
          refine wpQuiet_nil ?_
          intro W2 hW2
          have HW2 := hid hW2
          clear L2 L6 hW2 e2 e6
          go_wp2
          all_goals
            go_ret2
            rw [HRE.out]
            refine ⟨bd, rfl, HMV.out.ext HW2.out, (((gd_ext HX1.out).trans HGD.out).trans (gd_ext HW2.out)).gb HB1.out, fun _ => ?_⟩
            have D2 := HD.out.ext HW2.out
            exact ⟨_, _, D2.c5, D2.c6, D2.c7, (PN.on HQ.out (gd_ext HW2.out)).pmn, (PN.on HRR.out (gd_ext HW2.out)).pmn⟩
        · have hle : d ≤ dr := by omega
          have q1 : decide (d ≤ dr) = true := decide_eq_true hle
          have HLE := hid hle
          have HNB : Hid (n ≤ 1000000) := hid (by have h1 := HNK.out; have h2 := HK.out; have h3 := HFF.out; omega)
          have HCS := hid (fun (Y : World) (hY : Ext wr Y) => div_step (o := o) (s := s') (by rw [← HVM.out]; exact HD.out.ext hY) (HMV.out.ext hY) HOB.out (PC.on HVG.out (HGD.out.trans (gd_ext hY))) (PC.on (HVH.out.to (Kept.refl _ _) HNEW.out) (HGD.out.trans (gd_ext hY))) (PN.pc (PN.on HQ.out (gd_ext hY))) (PN.pc (PN.on HRR.out (gd_ext hY))) HFG.out HFH.out HFN.out.1 HFN.out.2 HBD.out.1 HBD.out.2.1 HBD.out.2.2.1 HBD.out.2.2.2 HV.out (by omega) (by rw [← HDR.out]; exact HLE.out) ⟨by omega, by have := HNB.out; omega⟩)
          clear hlt hle
          go_wp2
          refine wp_region_later (by kernel_rfl) (by kernel_rfl) ?_
          repeat (go_big_quiet_step (first | (go_at_call 24; exact Later.done (HCD.out _))))
          refine wpQuiet_nil ?_
          intro W2 hW2
          have HW2 := hid hW2
          have HCS2 := hid (HCS.out W2 hW2)
          clear L2 L6 hW2 e2 e6
          go_wp2_with fail
          with_reducible refine HCS2.out.mono ?_
          rintro e w3 ⟨rfl, hm3, hg3, hy3⟩
          have HM3 := hid hm3
          have HG3 := hid ((HGD.out.trans (gd_ext HW2.out)).trans hg3)
          have HY3 := hid hy3
          clear hm3 hg3 hy3
          have hcn : cellNat wr ⟨bd, 7, none⟩ = n := by rw [cellNat_of HD.out.c7]; omega
          have HRS : Hid (runD o keep g (headP g v) v (degP g v) (k1 + 1) s' q r n = match (stepO o keep g (headP g v) v d s' q r).2.2 with
            | none => ⟨(stepO o keep g (headP g v) v d s' q r).1, [], [], 0, (stepO o keep g (headP g v) v d s' q r).2.1⟩
            | some x => runD o keep g (headP g v) v (degP g v) k1 (stepO o keep g (headP g v) v d s' q r).2.1 x.1 x.2 (n + 1)) := hid (by
              rw [runD_succ, if_neg (by
                rintro (h | h)
                · exact HR0'.out h
                · rw [← HDR.out, ← HD2.out] at h; have := HLE.out; omega), HD2.out]
              first | done | rfl)
          cases hx : (stepO o keep g (headP g v) v d s' q r).2.2 with
          | none =>
            have hc := stepO_none hx
            have HC := hid hc
            have HRE : Hid (R.e = (stepO o keep g (headP g v) v d s' q r).1 ∧ R.s = (stepO o keep g (headP g v) v d s' q r).2.1) := hid (by
              have h := HRS.out
              rw [hx, HR.out] at h
              rw [h]
              exact ⟨rfl, rfl⟩)
            generalize stepO o keep g (headP g v) v d s' q r = X at *
            obtain ⟨c, s2, y⟩ := X
            simp only at hc HC HRE HM3
            clear hx
            go_wp2
            go_roundw
            case rel => exact ⟨HG3, .inr ⟨c, rfl, hc, HRE.out.1, by show MV _ _ _; rw [HRE.out.2]; exact HM3.out⟩⟩
            case measure =>
              rw [meas_end hc, meas_run, hcn]
              have := HNK.out
              omega
          | some x =>
            have hso := stepO_some hx
            have HSO := hid hso
            obtain ⟨vq3, vr3, d3, hq3, hr3⟩ := HY3.out x hx
            have HDN := hid d3
            have hsz : W.heap.size ≤ W2.heap.size := Nat.le_trans HX1.out.size (Nat.le_trans HGD.out.size HW2.out.size)
            have HQ3 := hid (PN.low hq3 hsz)
            have HR3 := hid (PN.low hr3 hsz)
            have HSD := hid (stepD_deg (keep := keep) (q := q) (x := x) HFG.out.can HFN.out.2.can HR0'.out HV.out (by rw [← HD2.out]; have := HDD.out; rw [← HD2.out] at this; exact this) (by rw [← HD2.out, ← HDR.out]; exact HLE.out) (by rw [← HD2.out]; exact hso.2.2.1))
            have HFN2 := hid (HF.out.2.2 HR0'.out (by rw [← HD2.out, ← HDR.out]; exact HLE.out) hso.2.1 x (by rw [← HD2.out]; exact hso.2.2.1) hso.2.2.2.1 hso.2.2.2.2.1)
            have HRE : Hid (runD o keep g (headP g v) v (degP g v) k1 (stepO o keep g (headP g v) v d s' q r).2.1 x.1 x.2 (n + 1) = R) := hid (by
              have h := HRS.out
              rw [hx, HR.out] at h
              exact h.symm)
            rw [hso.2.2.2.2.2] at HRE HM3
            rw [hso.1]
            clear hso d3 hq3 hr3 HRS HY3 hsz
            go_wp2
            go_roundw
            case rel => exact ⟨HG3, .inl ⟨k1, (mstep o s').2, x.1, x.2, n + 1, vq3, vr3, rfl, HRE, by show _ < _; have h1 := HSD.out.2; have h2 := HDG.out; omega, HFN2, by rw [HVM.out]; exact HDN, HQ3, HR3, HM3, by show _ = _; have := HNK.out; omega⟩⟩
            case measure =>
              rw [meas_run, meas_run, hcn, cellNat_of HDN.out.c7]
              have := HNK.out
              omega
    · have q0 : (c == 0) = false := by rw [beq_eq_false_iff_ne]; exact hc0
      have HC := hid hc0
      clear hc0
      go_wp2
      refine wp_region_later (by kernel_rfl) (by kernel_rfl) ?_
      repeat (go_big_quiet_step (fail))
      refine wpQuiet_nil ?_
      intro W2 hW2
      have HW2 := hid hW2
      clear hW2
      go_wp2
      all_goals
        go_ret2
        refine ⟨bd, by rw [HE.out]; rfl, HMV.out.ext HW2.out, (((gd_ext HX1.out).trans HGD.out).trans (gd_ext HW2.out)).gb HB1.out, fun h => absurd (HE.out.symm.trans h) HC.out⟩
end Go.Proofs.YtcpfeepnfodifaaGreat

namespace Go.Proofs.YtcpfeepnfodifaaGreat
open Go.RowKit

def DividePost (W : World) (o : Option Nat) (R : DRes) : Ending → World → Prop := fun e W' => ∃ vq vr, e = .returned (.tuple #[vq, vr, .int .i64 (R.n : Nat), .int .i64 R.e]) ∧ MV W' o R.s ∧ W.grownBy W' o ∧ PMN W.heap.size o W' vq R.q ∧ PMN W.heap.size o W' vr R.r
def RestPost (W : World) (o : Option Nat) (R : DRes) : Ending → World → Prop := fun e W' => ∃ vr, e = .returned (.tuple #[vr, .int .i64 (R.n : Nat), .int .i64 R.e]) ∧ MV W' o R.s ∧ W.grownBy W' o ∧ PMN W.heap.size o W' vr R.r

section
variable {W : World} {o : Option Nat} {s : MSt} {vf vg : Value} {v : Int} {f g : PZ} {A B T M : Nat}
set_option maxRecDepth 100000 in
set_option maxHeartbeats 8000000 in
theorem z_divide (hM : MV W o s) (hf : PM o W vf f) (hg : PM o W vg g) (fg : Fit A T g) (hF : FitRun o true g (headP g v) v (degP g v) B M ((degP f v).toNat + 1) s [] f)
    (hA : A < 24) (hB : B ≤ 80000) (hT : 1 ≤ T) (hTb : T ≤ 1000000) (hTM : 2 * T * M ≤ 1000000000000) (hv : 1 ≤ v ∧ v ≤ 200) (hd : 1 ≤ degP g v) :
    Calls Tryz.prog 15 #[mval o, vf, vg, .int .i64 v] W (DividePost W o (divD o true s f g v)) := by
  have C := hid (div_run (keep := true) hM hf hg fg hF hA hB hT hTb hTM hv hd)
  have HER := hid (run_err (o := o) (keep := true) (g := g) (v := v) (h := headP g v) (d := degP g v) ((degP f v).toNat + 1) s [] f 0)
  obtain ⟨R, hR⟩ : ∃ R, R = divD o true s f g v := ⟨_, rfl⟩
  rw [show runD o true g (headP g v) v (degP g v) ((degP f v).toNat + 1) s [] f 0 = R from hR.symm] at HER
  rw [← hR] at C ⊢
  obtain ⟨vm, hvm⟩ : ∃ x, x = mval o := ⟨_, rfl⟩
  rw [← hvm] at C ⊢
  obtain ⟨af, cf, rfl⟩ := hf.form
  obtain ⟨ag, cg, rfl⟩ := hg.form
  obtain ⟨nf, hnf⟩ : ∃ n, n = (ofP f).length := ⟨_, rfl⟩
  obtain ⟨ng, hng⟩ : ∃ n, n = (ofP g).length := ⟨_, rfl⟩
  rw [← hnf, ← hng] at C ⊢
  clear hM hf hg fg hF hA hB hT hTb hTM hv hd hR hvm hnf hng
  obtain ⟨re, rq, rr, rn, rs⟩ := R
  simp only at HER
  by_cases h0 : re = 0
  · subst h0
    clear HER
    go_enter Tryz.func15, Tryz.ntmps15
    go_wp2_with fail
    with_reducible refine C.out.mono ?_
    rintro e w1 ⟨bd, rfl, hm1, hg1, hy1⟩
    obtain ⟨vq, vr, e5, e6, e7, hq, hr⟩ := hy1 rfl
    have HM1 := hid hm1
    have HG1 := hid hg1
    have HQ := hid hq
    have HR := hid hr
    have L5 := fun Y : Later w1 => Y.h.cell e5
    have L6 := fun Y : Later w1 => Y.h.cell e6
    have L7 := fun Y : Later w1 => Y.h.cell e7
    clear hm1 hg1 hq hr hy1
    go_wp2
    refine wp_region_later (by kernel_rfl) (by kernel_rfl) ?_
    repeat (go_big_quiet_step (fail))
    refine wpQuiet_nil ?_
    intro W2 hW2
    have HW2 := hid hW2
    clear L5 L6 L7 hW2 e5 e6 e7
    go_wp2
    all_goals
      refine bodyPost_ret (v := .tuple #[vq, vr, .int .i64 (rn : Nat), .int .i64 0]) (by simp [results, Tryz.results15, go_sem]) rfl ?_
      exact ⟨_, _, rfl, HM1.out.ext HW2.out, gb_trans HG1.out (gb_of_ext HW2.out o), PMN.ext HQ.out HW2.out, PMN.ext HR.out HW2.out⟩
  · have q0 : (re != 0) = true := by rw [bne_iff_ne]; exact h0
    have HE2 : Hid (rq = [] ∧ rr = [] ∧ rn = 0) := hid (by rcases HER.out with h | h; exact absurd h h0; exact h)
    clear HER h0
    go_enter Tryz.func15, Tryz.ntmps15
    go_wp2_with fail
    with_reducible refine C.out.mono ?_
    rintro e w1 ⟨bd, rfl, hm1, hg1, -⟩
    have HM1 := hid hm1
    have HG1 := hid hg1
    clear hm1 hg1
    go_wp2
    all_goals
      refine bodyPost_ret (v := .tuple #[.slice none 0 0, .slice none 0 0, .int .i64 0, .int .i64 re]) (by simp [results, Tryz.results15, go_sem]) rfl ?_
      obtain ⟨rfl, rfl, rfl⟩ := HE2.out
      exact ⟨_, _, rfl, HM1.out, HG1.out, Terms.nilv _ _ _ _ (by decide), Terms.nilv _ _ _ _ (by decide)⟩

set_option maxRecDepth 100000 in
set_option maxHeartbeats 8000000 in
theorem z_rest (hM : MV W o s) (hf : PM o W vf f) (hg : PM o W vg g) (fg : Fit A T g) (hF : FitRun o false g (headP g v) v (degP g v) B M ((degP f v).toNat + 1) s [] f)
    (hA : A < 24) (hB : B ≤ 80000) (hT : 1 ≤ T) (hTb : T ≤ 1000000) (hTM : 2 * T * M ≤ 1000000000000) (hv : 1 ≤ v ∧ v ≤ 200) (hd : 1 ≤ degP g v) :
    Calls Tryz.prog 16 #[mval o, vf, vg, .int .i64 v] W (RestPost W o (divD o false s f g v)) := by
  have C := hid (div_run (keep := false) hM hf hg fg hF hA hB hT hTb hTM hv hd)
  have HER := hid (run_err (o := o) (keep := false) (g := g) (v := v) (h := headP g v) (d := degP g v) ((degP f v).toNat + 1) s [] f 0)
  obtain ⟨R, hR⟩ : ∃ R, R = divD o false s f g v := ⟨_, rfl⟩
  rw [show runD o false g (headP g v) v (degP g v) ((degP f v).toNat + 1) s [] f 0 = R from hR.symm] at HER
  rw [← hR] at C ⊢
  obtain ⟨vm, hvm⟩ : ∃ x, x = mval o := ⟨_, rfl⟩
  rw [← hvm] at C ⊢
  obtain ⟨af, cf, rfl⟩ := hf.form
  obtain ⟨ag, cg, rfl⟩ := hg.form
  obtain ⟨nf, hnf⟩ : ∃ n, n = (ofP f).length := ⟨_, rfl⟩
  obtain ⟨ng, hng⟩ : ∃ n, n = (ofP g).length := ⟨_, rfl⟩
  rw [← hnf, ← hng] at C ⊢
  clear hM hf hg fg hF hA hB hT hTb hTM hv hd hR hvm hnf hng
  obtain ⟨re, rq, rr, rn, rs⟩ := R
  simp only at HER
  by_cases h0 : re = 0
  · subst h0
    clear HER
    go_enter Tryz.func16, Tryz.ntmps16
    go_wp2_with fail
    with_reducible refine C.out.mono ?_
    rintro e w1 ⟨bd, rfl, hm1, hg1, hy1⟩
    obtain ⟨vq, vr, e5, e6, e7, hq, hr⟩ := hy1 rfl
    have HM1 := hid hm1
    have HG1 := hid hg1
    have HR := hid hr
    have L6 := fun Y : Later w1 => Y.h.cell e6
    have L7 := fun Y : Later w1 => Y.h.cell e7
    clear hm1 hg1 hq hr hy1
    go_wp2
    refine wp_region_later (by kernel_rfl) (by kernel_rfl) ?_
    repeat (go_big_quiet_step (fail))
    refine wpQuiet_nil ?_
    intro W2 hW2
    have HW2 := hid hW2
    clear L6 L7 hW2 e5 e6 e7
    go_wp2
    all_goals
      refine bodyPost_ret (v := .tuple #[vr, .int .i64 (rn : Nat), .int .i64 0]) (by simp [results, Tryz.results16, go_sem]) rfl ?_
      exact ⟨_, rfl, HM1.out.ext HW2.out, gb_trans HG1.out (gb_of_ext HW2.out o), PMN.ext HR.out HW2.out⟩
  · have q0 : (re != 0) = true := by rw [bne_iff_ne]; exact h0
    have HE2 : Hid (rq = [] ∧ rr = [] ∧ rn = 0) := hid (by rcases HER.out with h | h; exact absurd h h0; exact h)
    clear HER h0
    go_enter Tryz.func16, Tryz.ntmps16
    go_wp2_with fail
    with_reducible refine C.out.mono ?_
    rintro e w1 ⟨bd, rfl, hm1, hg1, -⟩
    have HM1 := hid hm1
    have HG1 := hid hg1
    clear hm1 hg1
    go_wp2
    all_goals
      refine bodyPost_ret (v := .tuple #[.slice none 0 0, .int .i64 0, .int .i64 re]) (by simp [results, Tryz.results16, go_sem]) rfl ?_
      obtain ⟨-, rfl, rfl⟩ := HE2.out
      exact ⟨_, rfl, HM1.out, HG1.out, Terms.nilv _ _ _ _ (by decide)⟩
end

section
variable {W : World} {vm vf vg : Value} {v : Int} {fs gs : List RTerm}
set_option maxRecDepth 100000 in
theorem divide_no (hvm : ∃ a, vm = .pointer a) (hf : Terms (Old W) W vf fs) (hg : Terms (Old W) W vg gs) (sf : smallT fs) (sg : smallT gs) (hv : inI64 v) (hno : ¬ (mayT fs = true ∧ mayT gs = true ∧ (1 ≤ v ∧ v ≤ 200) ∧ 1 ≤ degP (plainP gs) v)) :
    Calls Tryz.prog 15 #[vm, vf, vg, .int .i64 v] W fun e W' => e = .returned (.tuple #[.slice none 0 0, .slice none 0 0, .int .i64 0, .int .i64 2]) ∧ Ext W W' := by
  have CB := hid (div_begin_no (keep := true) hvm hf hg sf sg hv hno)
  have CR : Hid (Calls Tryz.prog 56 #[vm, vf, vg, .int .i64 v, .bool true] W fun e W' => e = .returned (.tuple #[.pointer none, .int .i64 2]) ∧ Ext W W') := hid (by
    obtain ⟨pa, rfl⟩ := hvm
    obtain ⟨af, cf, rfl⟩ := hf.form
    obtain ⟨ag, cg, rfl⟩ := hg.form
    obtain ⟨nf, hnf⟩ : ∃ n, n = fs.length := ⟨_, rfl⟩
    obtain ⟨ng, hng⟩ : ∃ n, n = gs.length := ⟨_, rfl⟩
    rw [← hnf, ← hng] at CB ⊢
    clear hf hg sf sg hno hnf hng
    go_enter Tryz.func56, Tryz.ntmps56
    go_wp2_with fail
    with_reducible refine CB.out.mono ?_
    rintro e w1 ⟨rfl, hx1⟩
    have HX1 := hid hx1
    clear hx1
    go_wp2
    go_loopw [13] (fun e wr => e = .int .i64 2 ∧ Ext w1 wr) (fun _ _ => 0)
    case atStart => exact ⟨rfl, Ext.refl _⟩
    case round =>
      obtain ⟨rfl, hx⟩ := hrel
      have HX := hid (HX1.out.trans hx)
      clear hx
      go_wp2
      refine wp_region_later (by kernel_rfl) (by kernel_rfl) ?_
      repeat (go_big_quiet_step (fail))
      refine wpQuiet_nil ?_
      intro W2 hW2
      have HW2 := hid hW2
      clear hW2
      go_wp2
      all_goals
        go_ret2
        exact ⟨rfl, HX.out.trans HW2.out⟩)
  obtain ⟨pa, rfl⟩ := hvm
  obtain ⟨af, cf, rfl⟩ := hf.form
  obtain ⟨ag, cg, rfl⟩ := hg.form
  clear hf hg sf sg hno CB
  go_enter Tryz.func15, Tryz.ntmps15
  go_wp2_with fail
  with_reducible refine CR.out.mono ?_
  rintro e w1 ⟨rfl, hx1⟩
  have HX1 := hid hx1
  clear hx1
  go_wp2
  all_goals
    refine bodyPost_ret (v := .tuple #[.slice none 0 0, .slice none 0 0, .int .i64 0, .int .i64 2]) (by simp [results, Tryz.results15, go_sem]) rfl ?_
    exact ⟨rfl, HX1.out⟩
set_option maxRecDepth 100000 in
theorem rest_no (hvm : ∃ a, vm = .pointer a) (hf : Terms (Old W) W vf fs) (hg : Terms (Old W) W vg gs) (sf : smallT fs) (sg : smallT gs) (hv : inI64 v) (hno : ¬ (mayT fs = true ∧ mayT gs = true ∧ (1 ≤ v ∧ v ≤ 200) ∧ 1 ≤ degP (plainP gs) v)) :
    Calls Tryz.prog 16 #[vm, vf, vg, .int .i64 v] W fun e W' => e = .returned (.tuple #[.slice none 0 0, .int .i64 0, .int .i64 2]) ∧ Ext W W' := by
  have CB := hid (div_begin_no (keep := false) hvm hf hg sf sg hv hno)
  have CR : Hid (Calls Tryz.prog 56 #[vm, vf, vg, .int .i64 v, .bool false] W fun e W' => e = .returned (.tuple #[.pointer none, .int .i64 2]) ∧ Ext W W') := hid (by
    obtain ⟨pa, rfl⟩ := hvm
    obtain ⟨af, cf, rfl⟩ := hf.form
    obtain ⟨ag, cg, rfl⟩ := hg.form
    obtain ⟨nf, hnf⟩ : ∃ n, n = fs.length := ⟨_, rfl⟩
    obtain ⟨ng, hng⟩ : ∃ n, n = gs.length := ⟨_, rfl⟩
    rw [← hnf, ← hng] at CB ⊢
    clear hf hg sf sg hno hnf hng
    go_enter Tryz.func56, Tryz.ntmps56
    go_wp2_with fail
    with_reducible refine CB.out.mono ?_
    rintro e w1 ⟨rfl, hx1⟩
    have HX1 := hid hx1
    clear hx1
    go_wp2
    go_loopw [13] (fun e wr => e = .int .i64 2 ∧ Ext w1 wr) (fun _ _ => 0)
    case atStart => exact ⟨rfl, Ext.refl _⟩
    case round =>
      obtain ⟨rfl, hx⟩ := hrel
      have HX := hid (HX1.out.trans hx)
      clear hx
      go_wp2
      refine wp_region_later (by kernel_rfl) (by kernel_rfl) ?_
      repeat (go_big_quiet_step (fail))
      refine wpQuiet_nil ?_
      intro W2 hW2
      have HW2 := hid hW2
      clear hW2
      go_wp2
      all_goals
        go_ret2
        exact ⟨rfl, HX.out.trans HW2.out⟩)
  obtain ⟨pa, rfl⟩ := hvm
  obtain ⟨af, cf, rfl⟩ := hf.form
  obtain ⟨ag, cg, rfl⟩ := hg.form
  clear hf hg sf sg hno CB
  go_enter Tryz.func16, Tryz.ntmps16
  go_wp2_with fail
  with_reducible refine CR.out.mono ?_
  rintro e w1 ⟨rfl, hx1⟩
  have HX1 := hid hx1
  clear hx1
  go_wp2
  all_goals
    refine bodyPost_ret (v := .tuple #[.slice none 0 0, .int .i64 0, .int .i64 2]) (by simp [results, Tryz.results16, go_sem]) rfl ?_
    exact ⟨rfl, HX1.out⟩
end
end Go.Proofs.YtcpfeepnfodifaaGreat

namespace Go.Proofs.YtcpfeepnfodifaaGreat
open Go.RowKit

set_option maxRecDepth 100000 in
set_option maxHeartbeats 1000000 in
theorem rsame01 {S : Nat → Prop} (va vb : Value) (xs ys : List Nat) (w : World) (ha : U32s S w va xs) (hb : U32s S w vb ys) (hS : ∀ k, S k → k < w.heap.size) :
    Calls Tryz.prog 118 #[va, vb] w fun e w' => e = .returned (.bool (decide (xs = ys))) ∧ Ext w w' := by
  have HA := hid ha
  have HB := hid hb
  have hla := ha.len_le
  have hlb := hb.len_le
  obtain ⟨aa, ca, rfl⟩ := ha.form
  obtain ⟨ab, cb, rfl⟩ := hb.form
  obtain ⟨na, hna⟩ : ∃ n, n = xs.length := ⟨_, rfl⟩
  obtain ⟨nb, hnb⟩ : ∃ n, n = ys.length := ⟨_, rfl⟩
  rw [← hna] at HA hla ⊢
  rw [← hnb] at HB hlb ⊢
  have HNA := hid hna
  have HNB := hid hnb
  clear ha hb hna hnb
  by_cases hne : na = nb
  · subst hne
    go_enter Tryz.func118, Tryz.ntmps118
    go_wp2
    go_loopw [5] (fun i wr => ∃ k : Nat, k ≤ na ∧ i = .int .i64 k ∧ Ext w wr ∧ Hid (xs.take k = ys.take k)) (fun i _ => na - (intOf i).toNat)
    case atStart => exact ⟨0, Nat.zero_le _, rfl, Ext.refl _, rfl⟩
    case round =>
      obtain ⟨k, hk, rfl, hx, HE⟩ := hrel
      have HX := hid hx
      by_cases hlt : k < na
      · obtain ⟨x, hxk⟩ := some_of_lt (l := xs) (j := k) (by rw [← HNA.out]; exact hlt)
        obtain ⟨y, hyk⟩ := some_of_lt (l := ys) (j := k) (by rw [← HNB.out]; exact hlt)
        obtain ⟨b1, o1, rfl, -, hc1, hm1, hz1, h1⟩ := (HA.out.ext hx hS).cellAt hxk
        obtain ⟨b2, o2, rfl, -, hc2, hm2, hz2, h2⟩ := (HB.out.ext hx hS).cellAt hyk
        have HXK := hid hxk
        have HYK := hid hyk
        clear hxk hyk hx
        by_cases he : x = y
        · have q1 : ((x : Int) != (y : Int)) = false := by rw [he]; simp
          have H0 := hid he
          clear he
          go_wp2
          go_quiet (fail)
          go_wp2
          go_roundw
          case rel => exact ⟨k + 1, by omega, by go_num, HX.out.drewN _, take_eq_succ HE.out HXK.out (by rw [H0.out]; exact HYK.out)⟩
          case measure => simp only [intOf]; omega
        · have q1 : ((x : Int) != (y : Int)) = true := by rw [bne_iff_ne]; omega
          have HF : Hid (xs ≠ ys) := hid (ne_of_at HXK.out HYK.out he)
          clear he
          go_wp2
          go_quiet (fail)
          go_wp2
          go_ret
          exact ⟨by rw [decide_eq_false HF.out]; rfl, HX.out.drewN _⟩
      · obtain rfl : k = na := by omega
        have HF : Hid (xs = ys) := hid (by have := HE.out; rwa [List.take_of_length_le (by rw [← HNA.out]; exact Nat.le_refl _), List.take_of_length_le (by rw [← HNB.out]; exact Nat.le_refl _)] at this)
        clear hx
        go_wp2
        go_ret
        exact ⟨by rw [decide_eq_true HF.out]; rfl, HX.out⟩
  · have hb : ((na : Int) != (nb : Int)) = true := by rw [bne_iff_ne]; omega
    have HF : Hid (xs ≠ ys) := hid (fun e => hne (by rw [HNA.out, HNB.out, e]))
    clear hne
    go_enter Tryz.func118, Tryz.ntmps118
    go_wp2
    go_ret
    exact ⟨by rw [decide_eq_false HF.out]; rfl, Ext.refl _⟩
set_option maxRecDepth 100000 in
set_option maxHeartbeats 1000000 in
theorem rsame07 {S : Nat → Prop} (va vb : Value) (xs ys : Mono) (w : World) (ha : Pows S w va xs) (hb : Pows S w vb ys) (hS : ∀ k, S k → k < w.heap.size) :
    Calls Tryz.prog 70 #[va, vb] w fun e w' => e = .returned (.bool (decide (xs = ys))) ∧ Ext w w' := by
  have HA := hid ha
  have HB := hid hb
  have hla := ha.len_le
  have hlb := hb.len_le
  obtain ⟨aa, ca, rfl⟩ := ha.form
  obtain ⟨ab, cb, rfl⟩ := hb.form
  obtain ⟨na, hna⟩ : ∃ n, n = xs.length := ⟨_, rfl⟩
  obtain ⟨nb, hnb⟩ : ∃ n, n = ys.length := ⟨_, rfl⟩
  rw [← hna] at HA hla ⊢
  rw [← hnb] at HB hlb ⊢
  have HNA := hid hna
  have HNB := hid hnb
  clear ha hb hna hnb
  by_cases hne : na = nb
  · subst hne
    go_enter Tryz.func70, Tryz.ntmps70
    go_wp2
    go_loopw [5] (fun i wr => ∃ k : Nat, k ≤ na ∧ i = .int .i64 k ∧ Ext w wr ∧ Hid (xs.take k = ys.take k)) (fun i _ => na - (intOf i).toNat)
    case atStart => exact ⟨0, Nat.zero_le _, rfl, Ext.refl _, rfl⟩
    case round =>
      obtain ⟨k, hk, rfl, hx, HE⟩ := hrel
      have HX := hid hx
      by_cases hlt : k < na
      · obtain ⟨x, hxk⟩ := some_of_lt (l := xs) (j := k) (by rw [← HNA.out]; exact hlt)
        obtain ⟨y, hyk⟩ := some_of_lt (l := ys) (j := k) (by rw [← HNB.out]; exact hlt)
        obtain ⟨b1, o1, c1', hv1, hc1, hm1, ⟨⟨hz1, hz2⟩, hz3, hz4⟩, h1, h1'⟩ := (HA.out.ext hx hS).at hxk
        obtain ⟨rfl, -, rfl⟩ : aa = some ⟨b1, o1, none⟩ ∧ na = xs.length ∧ ca = c1' := by simpa using hv1
        obtain ⟨b2, o2, c2', hv2, hc2, hm2, ⟨⟨hy1, hy2⟩, hy3, hy4⟩, h2, h2'⟩ := (HB.out.ext hx hS).at hyk
        obtain ⟨rfl, -, rfl⟩ : ab = some ⟨b2, o2, none⟩ ∧ na = ys.length ∧ cb = c2' := by simpa using hv2
        clear hv1 hv2
        rw [← HNA.out] at hc1
        rw [← HNB.out] at hc2
        have HXK := hid hxk
        have HYK := hid hyk
        clear hxk hyk hx
        by_cases he : x = y
        · have H0 := hid he
          obtain ⟨x1, x2⟩ := x
          obtain ⟨y1, y2⟩ := y
          obtain ⟨rfl, rfl⟩ : x1 = y1 ∧ x2 = y2 := by simpa using he
          simp only at h1 h1' h2 h2' hz1 hz2 hz3 hz4 hy1 hy2 hy3 hy4
          clear he
          go_wp2
          go_quiet (fail)
          go_wp2
          go_roundw
          case rel => exact ⟨k + 1, by omega, by go_num, HX.out.drewN _, take_eq_succ HE.out HXK.out HYK.out⟩
          case measure => simp only [intOf]; omega
        · have HF : Hid (xs ≠ ys) := hid (ne_of_at HXK.out HYK.out he)
          obtain ⟨x1, x2⟩ := x
          obtain ⟨y1, y2⟩ := y
          simp only at h1 h1' h2 h2' hz1 hz2 hz3 hz4 hy1 hy2 hy3 hy4
          have he' : x1 ≠ y1 ∨ (x1 = y1 ∧ x2 ≠ y2) := by
            by_cases h : x1 = y1
            · exact .inr ⟨h, fun h' => he (by rw [h, h'])⟩
            · exact .inl h
          clear he
          rcases he' with he | ⟨rfl, he⟩
          all_goals
            go_wp2
            go_quiet (fail)
            go_wp2
            go_ret
            exact ⟨by rw [decide_eq_false HF.out]; rfl, HX.out.drewN _⟩
      · obtain rfl : k = na := by omega
        have HF : Hid (xs = ys) := hid (by have := HE.out; rwa [List.take_of_length_le (by rw [← HNA.out]; exact Nat.le_refl _), List.take_of_length_le (by rw [← HNB.out]; exact Nat.le_refl _)] at this)
        clear hx
        go_wp2
        go_ret
        exact ⟨by rw [decide_eq_true HF.out]; rfl, HX.out⟩
  · have hb : ((na : Int) != (nb : Int)) = true := by rw [bne_iff_ne]; omega
    have HF : Hid (xs ≠ ys) := hid (fun e => hne (by rw [HNA.out, HNB.out, e]))
    clear hne
    go_enter Tryz.func70, Tryz.ntmps70
    go_wp2
    go_ret
    exact ⟨by rw [decide_eq_false HF.out]; rfl, Ext.refl _⟩

set_option maxRecDepth 100000 in
set_option maxHeartbeats 2000000 in
theorem rsame04 {S : Nat → Prop} (v1 v2 : Value) (sn tn : Bool) (sm tm : List Nat) (w : World) (h1 : U32s S w v1 sm) (h2 : U32s S w v2 tm) (hS : ∀ k, S k → k < w.heap.size) :
    Calls Tryz.prog 69 #[.agg #[.bool sn, v1], .agg #[.bool tn, v2]] w fun e w' => e = .returned (.bool (decide (sn = tn) && decide (sm = tm))) ∧ Ext w w' := by
  have CU := fun (W : World) (hW : Ext w W) => rsame01 _ _ sm tm W (h1.ext hW hS) (h2.ext hW hS) (lt_ext hS hW)
  obtain ⟨a1, c1, rfl⟩ := h1.form
  obtain ⟨a2, c2, rfl⟩ := h2.form
  have hx : Ext w ((w.alloc (.cells #[.bool sn, .slice a1 sm.length c1] 94)).alloc (.cells #[.bool tn, .slice a2 tm.length c2] 94)) := Ext.alloc (Ext.alloc (Ext.refl w) _) _
  have HX := hid hx
  clear h1 h2 hx
  by_cases hs : sn = tn
  · subst hs
    cases hm : decide (sm = tm) with
    | false =>
      simp only [hm] at CU
      have HCU := hid CU
      clear CU hm
      go_enter Tryz.func69, Tryz.ntmps69
      go_wp2_with fail
      with_reducible refine (HCU.out _ HX.out).mono ?_
      rintro e w1 ⟨rfl, hx1⟩
      have HX1 := hid (HX.out.trans hx1)
      clear hx1
      go_wp2
      all_goals
        go_ret
        exact ⟨by simp, HX1.out⟩
    | true =>
      simp only [hm] at CU
      have HCU := hid CU
      clear CU hm
      go_enter Tryz.func69, Tryz.ntmps69
      go_wp2_with fail
      with_reducible refine (HCU.out _ HX.out).mono ?_
      rintro e w1 ⟨rfl, hx1⟩
      have HX1 := hid (HX.out.trans hx1)
      clear hx1
      go_wp2
      all_goals
        go_ret
        exact ⟨by simp, HX1.out⟩
  · have hb : (sn == tn) = false := by rw [beq_eq_false_iff_ne]; exact hs
    have HF := hid (decide_eq_false hs)
    clear hs CU
    go_enter Tryz.func69, Tryz.ntmps69
    go_wp2
    all_goals
      go_ret
      exact ⟨by rw [HF.out]; simp, HX.out⟩

set_option maxRecDepth 100000 in
set_option maxHeartbeats 4000000 in
theorem rpoly_same {S : Nat → Prop} (va vb : Value) (xs ys : List RTerm) (w : World) (ha : Terms S w va xs) (hb : Terms S w vb ys) (hS : ∀ k, S k → k < w.heap.size) :
    Calls Tryz.prog 21 #[va, vb] w fun e w' => e = .returned (.bool (decide (xs = ys))) ∧ Ext w w' := by
  have HA := hid ha
  have HB := hid hb
  have hla := ha.len_le
  have hlb := hb.len_le
  obtain ⟨aa, ca, rfl⟩ := ha.form
  obtain ⟨ab, cb, rfl⟩ := hb.form
  obtain ⟨na, hna⟩ : ∃ n, n = xs.length := ⟨_, rfl⟩
  obtain ⟨nb, hnb⟩ : ∃ n, n = ys.length := ⟨_, rfl⟩
  rw [← hna] at HA hla ⊢
  rw [← hnb] at HB hlb ⊢
  have HNA := hid hna
  have HNB := hid hnb
  clear ha hb hna hnb
  by_cases hne : na = nb
  · subst hne
    go_enter Tryz.func21, Tryz.ntmps21
    go_wp2
    go_loopw [5] (fun i wr => ∃ k : Nat, k ≤ na ∧ i = .int .i64 k ∧ Ext w wr ∧ Hid (xs.take k = ys.take k)) (fun i _ => na - (intOf i).toNat)
    case atStart => exact ⟨0, Nat.zero_le _, rfl, Ext.refl _, rfl⟩
    case round =>
      obtain ⟨k, hk, rfl, hx, HE⟩ := hrel
      have HX := hid hx
      by_cases hlt : k < na
      · obtain ⟨x, hxk⟩ := some_of_lt (l := xs) (j := k) (by rw [← HNA.out]; exact hlt)
        obtain ⟨y, hyk⟩ := some_of_lt (l := ys) (j := k) (by rw [← HNB.out]; exact hlt)
        obtain ⟨b1, o1, v1, v2, rfl, -, hc1, hm1, hz1, h1, h2, h3, h4, h5⟩ := (HA.out.ext hx hS).cellAt hxk
        obtain ⟨b2, o2, v3, v4, rfl, -, hc2, hm2, hz2, g1, g2, g3, g4, g5⟩ := (HB.out.ext hx hS).cellAt hyk
        have HXK := hid hxk
        have HYK := hid hyk
        obtain ⟨⟨xn, xm⟩, xo⟩ := x
        obtain ⟨⟨yn, ym⟩, yo⟩ := y
        simp only at h1 h2 h3 h4 h5 g1 g2 g3 g4 g5
        have hSr := lt_ext hS hx
        have C4 := fun Y : Later wr => rsame04 (S := S) v1 v3 xn yn xm ym Y.w' (h4.ext Y.h hSr) (g4.ext Y.h hSr) (lt_ext hSr Y.h)
        have C7 := fun Y : Later wr => rsame07 (S := S) v2 v4 xo yo Y.w' (h5.ext Y.h hSr) (g5.ext Y.h hSr) (lt_ext hSr Y.h)
        have L1 := fun Y : Later wr => Y.h.cell h1
        have L2 := fun Y : Later wr => Y.h.cell h2
        have L3 := fun Y : Later wr => Y.h.cell h3
        have M1 := fun Y : Later wr => Y.h.cell g1
        have M2 := fun Y : Later wr => Y.h.cell g2
        have M3 := fun Y : Later wr => Y.h.cell g3
        obtain ⟨a1, c1, rfl⟩ := h4.form
        obtain ⟨a2, c2, rfl⟩ := h5.form
        obtain ⟨a3, c3, rfl⟩ := g4.form
        obtain ⟨a4, c4, rfl⟩ := g5.form
        have hlen : Hid (xs.length = na ∧ ys.length = na) := hid ⟨HNA.out.symm, HNB.out.symm⟩
        have q1 : (k : Int) < (na : Int) := by omega
        clear h1 h2 h3 h4 h5 g1 g2 g3 g4 g5 hxk hyk hx hSr
        cases hd4 : (decide (xn = yn) && decide (xm = ym)) with
        | false =>
          have HF : Hid (xs ≠ ys) := hid (ne_of_at HXK.out HYK.out (fun e => by
            simp at e
            obtain ⟨⟨e1, e2⟩, e3⟩ := e
            rw [e1, e2] at hd4
            simp at hd4))
          simp only [hd4] at C4
          have HC4 := hid C4
          have HC7 := hid C7
          clear C4 C7 hd4
          go_wp2
          refine wp_region_later (by kernel_rfl) (by kernel_rfl) ?_
          repeat (go_big_quiet_step (first | (go_at_call 69; exact Later.done (HC4.out _))))
          refine wpQuiet_nil ?_
          intro W2 hW2
          have HW2 := hid (HX.out.trans hW2)
          clear L1 L2 L3 M1 M2 M3 hW2
          go_wp2
          go_ret
          exact ⟨by rw [decide_eq_false HF.out]; rfl, HW2.out⟩
        | true =>
          have HE4 := hid hd4
          simp only [hd4] at C4
          have HC4 := hid C4
          clear C4 hd4
          cases hd7 : decide (xo = yo) with
          | false =>
            have HF : Hid (xs ≠ ys) := hid (ne_of_at HXK.out HYK.out (fun e => by
              simp at e
              obtain ⟨⟨e1, e2⟩, e3⟩ := e
              rw [e3] at hd7
              simp at hd7))
            simp only [hd7] at C7
            have HC7 := hid C7
            clear C7 hd7
            go_wp2
            refine wp_region_later (by kernel_rfl) (by kernel_rfl) ?_
            repeat (go_big_quiet_step (first | (go_at_call 69; exact Later.done (HC4.out _)) | (go_at_call 70; exact Later.done (HC7.out _))))
            refine wpQuiet_nil ?_
            intro W2 hW2
            have HW2 := hid (HX.out.trans hW2)
            clear L1 L2 L3 M1 M2 M3 hW2
            go_wp2
            go_ret
            exact ⟨by rw [decide_eq_false HF.out]; rfl, HW2.out⟩
          | true =>
            have HF : Hid (xs.take (k + 1) = ys.take (k + 1)) := hid (take_eq_succ HE.out HXK.out (by
              have h4 := HE4.out
              simp at h4 hd7
              rw [h4.1, h4.2, hd7]
              exact HYK.out))
            simp only [hd7] at C7
            have HC7 := hid C7
            clear C7 hd7
            go_wp2
            refine wp_region_later (by kernel_rfl) (by kernel_rfl) ?_
            repeat (go_big_quiet_step (first | (go_at_call 69; exact Later.done (HC4.out _)) | (go_at_call 70; exact Later.done (HC7.out _))))
            refine wpQuiet_nil ?_
            intro W2 hW2
            have HW2 := hid (HX.out.trans hW2)
            clear L1 L2 L3 M1 M2 M3 hW2
            go_wp2
            go_roundw
            case rel => exact ⟨k + 1, by omega, by go_num, HW2.out, HF⟩
            case measure => simp only [intOf]; omega
      · obtain rfl : k = na := by omega
        have HF : Hid (xs = ys) := hid (by have := HE.out; rwa [List.take_of_length_le (by rw [← HNA.out]; exact Nat.le_refl _), List.take_of_length_le (by rw [← HNB.out]; exact Nat.le_refl _)] at this)
        clear hx
        go_wp2
        go_ret
        exact ⟨by rw [decide_eq_true HF.out]; rfl, HX.out⟩
  · have hb : ((na : Int) != (nb : Int)) = true := by rw [bne_iff_ne]; omega
    have HF : Hid (xs ≠ ys) := hid (fun e => hne (by rw [HNA.out, HNB.out, e]))
    clear hne
    go_enter Tryz.func21, Tryz.ntmps21
    go_wp2
    go_ret
    exact ⟨by rw [decide_eq_false HF.out]; rfl, Ext.refl _⟩
end Go.Proofs.YtcpfeepnfodifaaGreat

namespace Go.Proofs.YtcpfeepnfodifaaGreat
open Go.RowKit

def tinyP (p : PZ) : Bool := decide (p.length ≤ 10) && p.all fun t => decide (t.1.natAbs ≤ 100) && mayM t.2
theorem tiny_bnd {p : PZ} (h : tinyP p = true) : bndP p 10 100 := by
  unfold tinyP at h
  simp only [Bool.and_eq_true, decide_eq_true_eq, List.all_eq_true] at h
  exact ⟨h.1, fun t ht => (h.2 t ht).1⟩
theorem tiny_may {p : PZ} (h : tinyP p = true) : mayAll p := by
  unfold tinyP at h
  simp only [Bool.and_eq_true, decide_eq_true_eq, List.all_eq_true] at h
  exact fun t ht => (h.2 t ht).2
theorem tiny_sz {p : PZ} (h : tinyP p = true) : szP p := sz_of_bnd (tiny_bnd h) (n := 3) (by omega) (by decide) (by omega)
theorem tiny_add {p q : PZ} (hp : tinyP p = true) (hq : tinyP q = true) (k : Nat) (_ : k ≤ q.length) : szP (addP p (q.take k)) := by
  have h1 := addP_bnd (l := q.take k) (N := 100) (tiny_bnd hp) (fun t ht => (tiny_bnd hq).2 t (List.mem_of_mem_take ht))
  have h2 : (q.take k).length ≤ 10 := Nat.le_trans (by rw [List.length_take]; omega) (tiny_bnd hq).1
  refine sz_of_bnd h1 (n := 5) (by omega) ?_ (by omega)
  have : (q.take k).length * 100 ≤ 10 * 100 := Nat.mul_le_mul_right _ h2
  omega
theorem tiny_mul {p q : PZ} (hp : tinyP p = true) (hq : tinyP q = true) : szM p q := by
  obtain ⟨a1, a2⟩ := tiny_bnd hp
  obtain ⟨b1, b2⟩ := tiny_bnd hq
  have h1 : p.length * q.length ≤ 10 * 10 := Nat.mul_le_mul a1 b1
  refine ⟨10000, 7, fun t ht u hu => ?_, by omega, ?_, by omega⟩
  · rw [Int.natAbs_mul]
    exact Nat.mul_le_mul (a2 t ht) (b2 u hu)
  · have : p.length * q.length * 10000 ≤ 100 * 10000 := Nat.mul_le_mul_right _ h1
    omega
abbrev k9X : PZ := [(1, [(1, 1)])]
abbrev k9Y : PZ := [(1, [(2, 1)])]
end Go.Proofs.YtcpfeepnfodifaaGreat

namespace Go.Proofs.YtcpfeepnfodifaaGreat
open Go.RowKit

theorem ext_of_gb {W W' : World} (h : W.grownBy W' none) : Ext W W' := ⟨h.os, h.tape, h.output, h.size, fun k hk => h.block k hk (by simp)⟩
theorem pm_none {W : World} {v : Value} {p : PZ} (h : PV W v p) : PM none W v p := h.to (Kept.refl _ _) (fun _ h => ⟨h, by simp⟩)
/-- a division without a meter -/
def div0 (keep : Bool) (f g : PZ) (v : Int) : DRes := divD none keep default f g v
section
variable {W : World} {vf vg : Value} {v : Int} {f g : PZ} {A B T M : Nat}
theorem z_divide0 (hf : PV W vf f) (hg : PV W vg g) (fg : Fit A T g) (hF : FitRun none true g (headP g v) v (degP g v) B M ((degP f v).toNat + 1) default [] f)
    (hA : A < 24) (hB : B ≤ 80000) (hT : 1 ≤ T) (hTb : T ≤ 1000000) (hTM : 2 * T * M ≤ 1000000000000) (hv : 1 ≤ v ∧ v ≤ 200) (hd : 1 ≤ degP g v) :
    Calls Tryz.prog 15 #[.pointer none, vf, vg, .int .i64 v] W fun e W' => ∃ vq vr, e = .returned (.tuple #[vq, vr, .int .i64 ((div0 true f g v).n : Nat), .int .i64 (div0 true f g v).e]) ∧ PV W' vq (div0 true f g v).q ∧ PV W' vr (div0 true f g v).r ∧ Ext W W' :=
  (z_divide (o := none) (MV.none _ _) (pm_none hf) (pm_none hg) fg hF hA hB hT hTb hTM hv hd).mono (by
    rintro e W' ⟨vq, vr, rfl, -, h2, h3, h4⟩
    exact ⟨vq, vr, rfl, h3.pv, h4.pv, ext_of_gb h2⟩)
end

abbrev k12F : PZ := [(1, [(2, 2)])]
abbrev k12X : PZ := [(1, [(1, 1), (2, 1)])]
abbrev k12G : PZ := [(1, [(1, 1), (2, 1)]), (1, [])]
abbrev k12Q : PZ := [(1, [(1, 1), (2, 1)]), (-1, [])]
abbrev k121 : PZ := [(1, [])]
theorem k12_1 : numP 1 = k121 := by kernel_rfl
theorem k12_f : timesV (timesP k9Y k9Y) = k12F := by kernel_rfl
theorem k12_x : timesV (timesP k9X k9Y) = k12X := by kernel_rfl
theorem k12_g : addP k12X k121 = k12G := by kernel_rfl
theorem k12_q : addP k12X (negP k121) = k12Q := by kernel_rfl
theorem k12_r : div0 true k12F k12G 2 = ⟨0, k12Q, k121, 2, default⟩ := by kernel_rfl
theorem k12G_can : canP k12G := by
  rw [← k12_g]
  refine (addP_can (p := k12X) ?_ (tiny_may (by kernel_rfl))).1
  exact ⟨fun t ht => by simp at ht; subst ht; exact ⟨by decide, by kernel_rfl⟩, List.pairwise_singleton _ _⟩
theorem k12F_can : canP k12F := ⟨fun t ht => by simp at ht; subst ht; exact ⟨by decide, by kernel_rfl⟩, List.pairwise_singleton _ _⟩
theorem tiny_fit {p : PZ} (hc : canP p) (h : tinyP p = true) : Fit 1 10 p := ⟨hc, fun t ht => by
  have h1 := (tiny_bnd h).2 t ht
  show t.1.natAbs < B32 ^ 1
  unfold B32
  omega, (tiny_bnd h).1⟩
theorem k12_run : FitRun none true k12G (headP k12G 2) 2 (degP k12G 2) 100 10000 ((degP k12F 2).toNat + 1) default [] k12F :=
  fitRun_steps (A := 1) (T := 10) (tiny_fit k12G_can (by kernel_rfl)) ((tiny_fit k12G_can (by kernel_rfl)).coef _ _) (by decide) (by decide) (by rw [show degP k12G 2 = 1 by kernel_rfl]; decide) (by decide) _ 2 1 1 _ _ _ (fit_nil.mono (by decide) (by decide)) (⟨k12F_can, (tiny_fit k12F_can (by kernel_rfl)).2.1, by decide⟩) (fun _ => by rw [show degP k12G 2 = 1 by kernel_rfl, show degP k12F 2 = 2 by kernel_rfl]; decide) (by decide) (by decide)

set_option maxRecDepth 100000 in
set_option maxHeartbeats 8000000 in
theorem law12_known (w : World) :
    Calls Tryz.prog 13 #[] w fun e w' => e = .returned (.bool true) ∧ Ext w w' := by
  have hnot : ∀ (x : Bool) (w : World), (Op.unary .not (.bool x)).run Tryz.prog w = .ok (.bool (!x)) w := fun _ _ => rfl
  have CD := fun (W : World) (vf vg : Value) (hf : PV W vf k12F) (hg : PV W vg k12G) => z_divide0 (v := 2) hf hg (tiny_fit k12G_can (by kernel_rfl)) k12_run (by decide) (by decide) (by decide) (by decide) (by decide) (by decide) (by rw [show degP k12G 2 = 1 by kernel_rfl]; decide)
  rw [k12_r] at CD
  have HCD := hid CD
  clear CD
  go_enter Tryz.func13, Tryz.ntmps13
  have HX0 := hid (Ext.refl w)
  go_wp2_with fail
  refine (rpoly_x 1 w (by unfold inI64; omega)).mono ?_
  rintro e w1 ⟨v1, rfl, hp1, hx1⟩
  have HX1 := hid (HX0.out.trans hx1)
  have HJ1 := hid (RTs.old hp1 New.lt)
  obtain ⟨a1, c1, rfl⟩ := hp1.form
  clear hx1 hp1
  go_wp2_with fail
  refine (rpoly_x 2 w1 (by unfold inI64; omega)).mono ?_
  rintro e w2 ⟨v2, rfl, hp2, hx2⟩
  have HX2 := hid (HX1.out.trans hx2)
  have HJ2 := hid (RTs.on HJ1.out hx2)
  have HY2 := hid (RTs.old hp2 New.lt)
  obtain ⟨a2, c2, rfl⟩ := hp2.form
  clear hx2 hp2
  go_wp2_with fail
  refine (rpoly_mul (S := Old w2) _ _ k9Y k9Y w2 (fun _ h => h) HY2.out HY2.out (tiny_may (by kernel_rfl)) (tiny_may (by kernel_rfl)) (tiny_sz (by kernel_rfl)) (tiny_sz (by kernel_rfl)) (tiny_mul (by kernel_rfl) (by kernel_rfl))).mono ?_
  rw [k12_f]
  rintro e w3 ⟨v3, rfl, hp3, hx3⟩
  have HX3 := hid (HX2.out.trans hx3)
  have HJ3 := hid (RTs.on HJ2.out hx3)
  have HY3 := hid (RTs.on HY2.out hx3)
  have HF3 := hid (RTs.old hp3 (plus_lt (fun _ h => h) hx3))
  obtain ⟨a3, c3, rfl⟩ := hp3.form
  clear hx3 hp3
  go_wp2_with fail
  refine (rpoly_mul (S := Old w3) _ _ k9X k9Y w3 (fun _ h => h) HJ3.out HY3.out (tiny_may (by kernel_rfl)) (tiny_may (by kernel_rfl)) (tiny_sz (by kernel_rfl)) (tiny_sz (by kernel_rfl)) (tiny_mul (by kernel_rfl) (by kernel_rfl))).mono ?_
  rw [k12_x]
  rintro e w4 ⟨v4, rfl, hp4, hx4⟩
  have HX4 := hid (HX3.out.trans hx4)
  have HJ4 := hid (RTs.on HJ3.out hx4)
  have HY4 := hid (RTs.on HY3.out hx4)
  have HF4 := hid (RTs.on HF3.out hx4)
  have HU4 := hid (RTs.old hp4 (plus_lt (fun _ h => h) hx4))
  obtain ⟨a4, c4, rfl⟩ := hp4.form
  clear hx4 hp4
  go_wp2_with fail
  refine (rpoly_small 1 w4 (by omega)).mono ?_
  rw [k12_1]
  rintro e w5 ⟨v5, rfl, hp5, hx5⟩
  have HX5 := hid (HX4.out.trans hx5)
  have HJ5 := hid (RTs.on HJ4.out hx5)
  have HY5 := hid (RTs.on HY4.out hx5)
  have HF5 := hid (RTs.on HF4.out hx5)
  have HU5 := hid (RTs.on HU4.out hx5)
  have HS5 := hid (RTs.old hp5 New.lt)
  obtain ⟨a5, c5, rfl⟩ := hp5.form
  clear hx5 hp5
  go_wp2_with fail
  refine (rpoly_add (S := Old w5) _ _ k12X k121 w5 (fun _ h => h) HU5.out HS5.out (tiny_may (by kernel_rfl)) (tiny_may (by kernel_rfl)) (tiny_sz (by kernel_rfl)) (tiny_add (by kernel_rfl) (by kernel_rfl))).mono ?_
  rw [k12_g]
  rintro e w6 ⟨v6, rfl, hp6, hx6⟩
  have HX6 := hid (HX5.out.trans hx6)
  have HJ6 := hid (RTs.on HJ5.out hx6)
  have HY6 := hid (RTs.on HY5.out hx6)
  have HF6 := hid (RTs.on HF5.out hx6)
  have HG6 := hid (RTs.old hp6 (plus_lt (fun _ h => h) hx6))
  obtain ⟨a6, c6, rfl⟩ := hp6.form
  clear hx6 hp6
  go_wp2_with fail
  refine (rpoly_poly (S := Old w6) _ k12F w6 HF6.out (fun _ h => h) (tiny_sz (by kernel_rfl)) (kn_len (tiny_may (by kernel_rfl)))).mono ?_
  rintro e w7 ⟨v7, rfl, hp7, hx7⟩
  have HX7 := hid (HX6.out.trans hx7)
  have HJ7 := hid (RTs.on HJ6.out hx7)
  have HY7 := hid (RTs.on HY6.out hx7)
  have HG7 := hid (RTs.on HG6.out hx7)
  have HPF7 := hid (Terms.old hp7 New.lt)
  obtain ⟨a7, c7, rfl⟩ := hp7.form
  clear hx7 hp7
  go_wp2_with fail
  refine (rpoly_poly (S := Old w7) _ k12G w7 HG7.out (fun _ h => h) (tiny_sz (by kernel_rfl)) (kn_len (tiny_may (by kernel_rfl)))).mono ?_
  rintro e w8 ⟨v8, rfl, hp8, hx8⟩
  have HX8 := hid (HX7.out.trans hx8)
  have HJ8 := hid (RTs.on HJ7.out hx8)
  have HY8 := hid (RTs.on HY7.out hx8)
  have HPF8 := hid (Terms.on HPF7.out hx8)
  have HPG8 := hid (Terms.old hp8 New.lt)
  obtain ⟨a8, c8, rfl⟩ := hp8.form
  clear hx8 hp8
  go_wp2_with fail
  refine (HCD.out _ _ _ HPF8.out HPG8.out).mono ?_
  rintro e w9 ⟨vq, vr, rfl, hq, hr, hx9⟩
  have HX9 := hid (HX8.out.trans hx9)
  have HJ9 := hid (RTs.on HJ8.out hx9)
  have HY9 := hid (RTs.on HY8.out hx9)
  have HVQ9 := hid (show Terms (Old w9) w9 vq (ofP k12Q) from hq)
  have HVR9 := hid (show Terms (Old w9) w9 vr (ofP k121) from hr)
  obtain ⟨aq, cq, rfl⟩ := hq.form
  obtain ⟨ar, cr, rfl⟩ := hr.form
  clear hx9 hq hr
  go_wp2_with fail
  refine (rpoly_small 1 w9 (by omega)).mono ?_
  rw [k12_1]
  rintro e w10 ⟨v10, rfl, hp10, hx10⟩
  have HX10 := hid (HX9.out.trans hx10)
  have HJ10 := hid (RTs.on HJ9.out hx10)
  have HY10 := hid (RTs.on HY9.out hx10)
  have HVQ10 := hid (Terms.on HVQ9.out hx10)
  have HVR10 := hid (Terms.on HVR9.out hx10)
  have HS10 := hid (RTs.old hp10 New.lt)
  obtain ⟨a10, c10, rfl⟩ := hp10.form
  clear hx10 hp10
  go_wp2_with fail
  refine (rpoly_poly (S := Old w10) _ k121 w10 HS10.out (fun _ h => h) (tiny_sz (by kernel_rfl)) (kn_len (tiny_may (by kernel_rfl)))).mono ?_
  rintro e w11 ⟨v11, rfl, hp11, hx11⟩
  have HX11 := hid (HX10.out.trans hx11)
  have HJ11 := hid (RTs.on HJ10.out hx11)
  have HY11 := hid (RTs.on HY10.out hx11)
  have HVQ11 := hid (Terms.on HVQ10.out hx11)
  have HVR11 := hid (Terms.on HVR10.out hx11)
  have HPS11 := hid (Terms.old hp11 New.lt)
  obtain ⟨a11, c11, rfl⟩ := hp11.form
  clear hx11 hp11
  go_wp2_with fail
  refine (rpoly_same _ _ (ofP k121) (ofP k121) _ HVR11.out HPS11.out (fun _ h => h)).mono ?_
  rw [show decide (ofP k121 = ofP k121) = true from decide_eq_true rfl]
  rintro e w12 ⟨rfl, hx12⟩
  have HX12 := hid (HX11.out.trans hx12)
  have HJ12 := hid (RTs.on HJ11.out hx12)
  have HY12 := hid (RTs.on HY11.out hx12)
  have HVQ12 := hid (Terms.on HVQ11.out hx12)
  clear hx12
  go_wp2_with fail
  refine (rpoly_mul (S := Old w12) _ _ k9X k9Y w12 (fun _ h => h) HJ12.out HY12.out (tiny_may (by kernel_rfl)) (tiny_may (by kernel_rfl)) (tiny_sz (by kernel_rfl)) (tiny_sz (by kernel_rfl)) (tiny_mul (by kernel_rfl) (by kernel_rfl))).mono ?_
  rw [k12_x]
  rintro e w13 ⟨v13, rfl, hp13, hx13⟩
  have HX13 := hid (HX12.out.trans hx13)
  have HVQ13 := hid (Terms.on HVQ12.out hx13)
  have HU13 := hid (RTs.old hp13 (plus_lt (fun _ h => h) hx13))
  obtain ⟨a13, c13, rfl⟩ := hp13.form
  clear hx13 hp13
  go_wp2_with fail
  refine (rpoly_small 1 w13 (by omega)).mono ?_
  rw [k12_1]
  rintro e w14 ⟨v14, rfl, hp14, hx14⟩
  have HX14 := hid (HX13.out.trans hx14)
  have HVQ14 := hid (Terms.on HVQ13.out hx14)
  have HU14 := hid (RTs.on HU13.out hx14)
  have HS14 := hid (RTs.old hp14 New.lt)
  obtain ⟨a14, c14, rfl⟩ := hp14.form
  clear hx14 hp14
  go_wp2_with fail
  refine (rpoly_sub (S := Old w14) _ _ k12X k121 w14 (fun _ h => h) HU14.out HS14.out (tiny_may (by kernel_rfl)) (tiny_may (by kernel_rfl)) (tiny_sz (by kernel_rfl)) (fun k hk => tiny_add (q := negP k121) (by kernel_rfl) (by kernel_rfl) k (by rw [negP_length]; exact hk))).mono ?_
  rw [k12_q]
  rintro e w15 ⟨v15, rfl, hp15, hx15⟩
  have HX15 := hid (HX14.out.trans hx15)
  have HVQ15 := hid (Terms.on HVQ14.out hx15)
  have HD15 := hid (RTs.old hp15 (plus_lt (fun _ h => h) hx15))
  obtain ⟨a15, c15, rfl⟩ := hp15.form
  clear hx15 hp15
  go_wp2_with fail
  refine (rpoly_poly (S := Old w15) _ k12Q w15 HD15.out (fun _ h => h) (tiny_sz (by kernel_rfl)) (kn_len (tiny_may (by kernel_rfl)))).mono ?_
  rintro e w16 ⟨v16, rfl, hp16, hx16⟩
  have HX16 := hid (HX15.out.trans hx16)
  have HVQ16 := hid (Terms.on HVQ15.out hx16)
  have HPD16 := hid (Terms.old hp16 New.lt)
  obtain ⟨a16, c16, rfl⟩ := hp16.form
  clear hx16 hp16
  go_wp2_with fail
  refine (rpoly_same _ _ (ofP k12Q) (ofP k12Q) _ HVQ16.out HPD16.out (fun _ h => h)).mono ?_
  rw [show decide (ofP k12Q = ofP k12Q) = true from decide_eq_true rfl]
  rintro e w17 ⟨rfl, hx17⟩
  have HX17 := hid (HX16.out.trans hx17)
  clear hx17
  go_wp2
  all_goals
    go_ret
    exact ⟨rfl, HX17.out⟩
end Go.Proofs.YtcpfeepnfodifaaGreat
