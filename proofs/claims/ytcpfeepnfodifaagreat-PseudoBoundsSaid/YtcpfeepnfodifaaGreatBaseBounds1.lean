/- PseudoBounds holds: the document's bounds and the program's meter agree: a division under limits ends as the document says, and greater limits take it further; the law answers true, and its arguments read as they did. No condition. -/
import Derived.Test.YtcpfeepnfodifaaGreatBase10
namespace Go.Proofs.YtcpfeepnfodifaaGreat
open Go.RowKit

theorem divD_o {o r : Option Nat} (h : o = none ↔ r = none) (keep : Bool) (s : MSt) (f g : PZ) (v : Int) : divD o keep s f g v = divD r keep s f g v := by
  have e1 : ∀ s, mstep o s = mstep r s := fun s => by
    cases o with
    | none => rw [h.1 rfl]
    | some a => cases r with
      | none => exact absurd (h.2 rfl) (by simp)
      | some b => rfl
  have e2 : ∀ s p, mkeep o s p = mkeep r s p := fun s p => by
    cases o with
    | none => rw [h.1 rfl]
    | some a => cases r with
      | none => exact absurd (h.2 rfl) (by simp)
      | some b => rfl
  have e3 : ∀ s, mexp o s = mexp r s := fun s => by
    cases o with
    | none => rw [h.1 rfl]
    | some a => cases r with
      | none => exact absurd (h.2 rfl) (by simp)
      | some b => rfl
  have key : ∀ (k : Nat) (s : MSt) (q z : PZ) (n : Nat), runD o keep g (headP g v) v (degP g v) k s q z n = runD r keep g (headP g v) v (degP g v) k s q z n := by
    intro k
    induction k with
    | zero => intros; rfl
    | succ k ih =>
      intro s q z n
      rw [runD, runD]
      simp only [e1, e2, e3, ih]
  exact key _ _ _ _ _

section
variable {w W W' : World} {o r : Option Nat} {s : MSt} {v : Value} {p : PZ} {N n0 n4 : Nat}
theorem ext_gb (h : Ext w W) (g : W.grownBy W' o) (ho : ∀ b, o = some b → w.heap.size ≤ b) : Ext w W' := ext_grown h g (fun k hk => ho k hk)
theorem MV.grown (h : MV W o s) (g : W.grownBy W' r) (hne : ∀ b, o = some b → some b ≠ r) : MV W' o s := fun b hb => ⟨(h b hb).1.grown g (hne b hb), (h b hb).2⟩
theorem RMV.grown (h : RMV W o s) (g : W.grownBy W' r) (hne : ∀ b, o = some b → some b ≠ r) : RMV W' o s := fun b hb => ⟨(h b hb).1.grown g (hne b hb), (h b hb).2⟩
/-- a polynomial in blocks from a number on -/
abbrev PL (N : Nat) (W : World) (v : Value) (p : PZ) : Prop := Terms (fun k => N ≤ k ∧ k < W.heap.size) W v (ofP p)
theorem PMN.pl (h : PMN N o W v p) : PL N W v p := h.to (Kept.refl _ _) (fun _ h => ⟨h.1, h.2.1⟩)
theorem PL.pv (h : PL N W v p) : PV W v p := h.to (Kept.refl _ _) (fun _ h => h.2)
theorem PL.low {M : Nat} (h : PL N W v p) (hM : M ≤ N) : PL M W v p := h.to (Kept.refl _ _) (fun _ h => ⟨Nat.le_trans hM h.1, h.2⟩)
theorem PL.on (h : PL N W v p) (g : W.grownBy W' o) (ho : ∀ b, o = some b → b < N) : PL N W' v p :=
  h.to (fun k hk => g.block k hk.2 (fun e => by have := ho k e.symm; have := hk.1; omega)) (fun k hk => ⟨hk.1, Nat.lt_of_lt_of_le hk.2 g.size⟩)
theorem PL.ext (h : PL N W v p) (g : Ext W W') : PL N W' v p := PL.on (o := none) h (gb_of_ext g none) (fun _ e => by cases e)
/-- a document's polynomial in blocks that are no meter's -/
abbrev SS (n0 n4 : Nat) (W : World) : Nat → Prop := fun k => k < W.heap.size ∧ (k < n0 ∨ n4 ≤ k)
abbrev DL (n0 n4 : Nat) (W : World) (v : Value) (p : PZ) : Prop := RTs (SS n0 n4 W) W v p
theorem DL.rv (h : DL n0 n4 W v p) : RV W v p := h.to (Kept.refl _ _) (fun _ h => h.1)
theorem DL.on (h : DL n0 n4 W v p) (g : W.grownBy W' o) (ho : ∀ b, o = some b → n0 ≤ b ∧ b < n4) : DL n0 n4 W' v p :=
  h.to (fun k hk => g.block k hk.1 (fun e => by have := ho k e.symm; rcases hk.2 with h | h <;> omega)) (fun k hk => ⟨Nat.lt_of_lt_of_le hk.1 g.size, hk.2⟩)
theorem DL.ext (h : DL n0 n4 W v p) (g : Ext W W') : DL n0 n4 W' v p := DL.on (o := none) h (gb_of_ext g none) (fun _ e => by cases e)
theorem dl_rq (h : RQ (SS n0 n4 W) W W' v p) (hs : W.heap.size ≤ W'.heap.size) (hn : n4 ≤ W.heap.size) : DL n0 n4 W' v p :=
  h.to (Kept.refl _ _) (fun k hk => by
    rcases hk with h | h
    · exact ⟨Nat.lt_of_lt_of_le h.1 hs, h.2⟩
    · exact ⟨h.2, .inr (Nat.le_trans hn h.1)⟩)
end

set_option maxRecDepth 100000 in
/-- the document's reading of an argument -/
theorem of12 {w W : World} {v : Value} {F : PZ} {n4 : Nat} (fF : Fit 8 8 F) (hf : Terms (Old w) w v (ofP F)) (hx : Ext w W) (hn : n4 ≤ W.heap.size) :
    Calls Tryz.prog 19 #[v] W fun e w' => ∃ v', e = .returned v' ∧ DL w.heap.size n4 w' v' F ∧ Ext W w' := by
  have hT : Terms (fun k => k < w.heap.size) W v (ofP F) := hf.to (Kept.ext hx (fun _ h => h)) (fun _ h => h)
  have h := rpoly_of (S := fun k => k < w.heap.size) v (ofP F) W hT (fun k hk => Nat.lt_of_lt_of_le hk hx.size) (fun t ht => Nat.le_trans (fF.lens t ht) (by decide)) (by rw [toP_ofP]; exact fF.can.may) (fun k hk => by
    rw [toP_ofP, addP_take fF.can]
    exact fit_szP (fit_take fF k) (by decide) (by decide))
  rw [toP_ofP, normP_of_can fF.can] at h
  exact h.mono (by
    rintro e w' ⟨v', rfl, h1, h2⟩
    refine ⟨v', rfl, h1.to (Kept.refl _ _) (fun k hk => ?_), h2⟩
    rcases hk with h | h
    · exact ⟨Nat.lt_of_lt_of_le h (Nat.le_trans hx.size h2.size), .inl h⟩
    · exact ⟨h.2, .inr (Nat.le_trans hn h.1)⟩)

section
variable {w W : World} {o : Option Nat} {s : MSt} {vf vg : Value} {F G : PZ} {x : Int} {n4 : Nat}
theorem div12_z (hM : MV W o s) (hf : Terms (Old w) w vf (ofP F)) (hg : Terms (Old w) w vg (ofP G)) (hX : Ext w W) (ho : ∀ b, o = some b → w.heap.size ≤ b) (fF : Fit 8 8 F) (eF : exB 8 F) (fG : Fit 8 8 G) (hx : 1 ≤ x ∧ x ≤ 200) (hd : 1 ≤ degP G x) :
    Calls Tryz.prog 15 #[mval o, vf, vg, .int .i64 x] W (DividePost W o (divD o true s F G x)) :=
  z_divide hM (hf.to (Kept.ext hX (fun _ h => h)) (fun k hk => ⟨Nat.lt_of_lt_of_le hk hX.size, fun e => by have := ho k e.symm; have : k < w.heap.size := hk; omega⟩)) (hg.to (Kept.ext hX (fun _ h => h)) (fun k hk => ⟨Nat.lt_of_lt_of_le hk hX.size, fun e => by have := ho k e.symm; have : k < w.heap.size := hk; omega⟩))
    fG (run12 o true s fF eF fG hx hd) (by decide) (by decide) (by decide) (by decide) (by decide) hx hd
theorem div12_rest (hM : MV W o s) (hf : Terms (Old w) w vf (ofP F)) (hg : Terms (Old w) w vg (ofP G)) (hX : Ext w W) (ho : ∀ b, o = some b → w.heap.size ≤ b) (fF : Fit 8 8 F) (eF : exB 8 F) (fG : Fit 8 8 G) (hx : 1 ≤ x ∧ x ≤ 200) (hd : 1 ≤ degP G x) :
    Calls Tryz.prog 16 #[mval o, vf, vg, .int .i64 x] W (RestPost W o (divD o false s F G x)) :=
  z_rest hM (hf.to (Kept.ext hX (fun _ h => h)) (fun k hk => ⟨Nat.lt_of_lt_of_le hk hX.size, fun e => by have := ho k e.symm; have : k < w.heap.size := hk; omega⟩)) (hg.to (Kept.ext hX (fun _ h => h)) (fun k hk => ⟨Nat.lt_of_lt_of_le hk hX.size, fun e => by have := ho k e.symm; have : k < w.heap.size := hk; omega⟩))
    fG (run12 o false s fF eF fG hx hd) (by decide) (by decide) (by decide) (by decide) (by decide) hx hd
theorem div12_r {keep : Bool} {n0 : Nat} (hM : RMV W o s) (ho : ∀ b, o = some b → n0 ≤ b ∧ b < n4) (hn : n4 ≤ W.heap.size) (hf : DL n0 n4 W vf F) (hg : DL n0 n4 W vg G) (fF : Fit 8 8 F) (eF : exB 8 F) (fG : Fit 8 8 G) (hx : 1 ≤ x ∧ x ≤ 200) (hd : 1 ≤ degP G x) :
    Calls Tryz.prog 20 #[mval o, vf, vg, .int .i64 x, .bool keep] W fun e W' => ∃ vq vr, e = .returned (.tuple #[vq, vr, .int .i64 ((divD o keep s F G x).n : Nat), .int .i64 (divD o keep s F G x).e]) ∧ RMV W' o (divD o keep s F G x).s ∧ W.grownBy W' o ∧ DL n0 n4 W' vq (divD o keep s F G x).q ∧ DL n0 n4 W' vr (divD o keep s F G x).r :=
  (r_divide hM (fun _ h => h.1) (fun b hb h => by have := ho b hb; rcases h.2 with h | h <;> omega) hf hg fG (run12 o keep s fF eF fG hx hd) (by decide) (by decide) (by decide) (by decide) (by decide) hx hd).mono (by
    rintro e W' ⟨vq, vr, rfl, h1, h2, h3, h4⟩
    exact ⟨vq, vr, rfl, h1, h2, dl_rq h3 h2.size hn, dl_rq h4 h2.size hn⟩)
end
end Go.Proofs.YtcpfeepnfodifaaGreat

namespace Go.Proofs.YtcpfeepnfodifaaGreat
open Go.RowKit

theorem need_f0 (x y : Value) (w : World) : (Instr.field 59 (.agg #[x, y]) 0).run Tryz.prog w = .ok x w := by kernel_rfl
theorem need_f1 (x y : Value) (w : World) : (Instr.field 59 (.agg #[x, y]) 1).run Tryz.prog w = .ok y w := by kernel_rfl

theorem new_yes12 {a b c d : Int} (h : mayLimits a b c d) (W : World) : Calls Tryz.prog 30 #[.agg #[.int .i64 a, .int .i64 b, .int .i64 c, .int .i64 d]] W fun e W' => ∃ k, e = .returned (.tuple #[.pointer (some ⟨k, 0, none⟩), .int .i64 0]) ∧ W.heap.size ≤ k ∧ MeterAt W' k (MSt.new a b c d) ∧ Ext W W' :=
  (new_any a b c d W).mono (by
    rintro e W' ⟨hx, hy⟩
    rcases hy with ⟨-, k, hk, hm, rfl⟩ | ⟨hno, -⟩
    · exact ⟨k, rfl, hk, hm, hx⟩
    · exact absurd h hno)
theorem new_no12 {a b c d : Int} (h : ¬ mayLimits a b c d) (W : World) : Calls Tryz.prog 30 #[.agg #[.int .i64 a, .int .i64 b, .int .i64 c, .int .i64 d]] W fun e W' => e = .returned (.tuple #[.pointer none, .int .i64 2]) ∧ Ext W W' :=
  (new_any a b c d W).mono (by
    rintro e W' ⟨hx, hy⟩
    rcases hy with ⟨hm, -⟩ | ⟨-, rfl⟩
    · exact absurd hm h
    · exact ⟨rfl, hx⟩)
theorem some_mv {W : World} {k : Nat} {s : MSt} (h : MeterAt W k s) (ok : s.Ok) : MV W (some k) s := fun b hb => by cases hb; exact ⟨h, ok⟩
theorem need12 {W : World} {k : Nat} {s : MSt} (h : MV W (some k) s) : Calls Tryz.prog 33 #[.pointer (some ⟨k, 0, none⟩)] W fun e W' => e = .returned (.agg #[.int .i64 s.wh, .int .i64 s.nn]) ∧ Ext W W' := Need_any k s W (h k rfl).1
theorem fuel12 {W : World} {k : Nat} {s : MSt} (h : MV W (some k) s) : Calls Tryz.prog 31 #[.pointer (some ⟨k, 0, none⟩)] W fun e W' => e = .returned (.int .i64 s.st) ∧ Ext W W' :=
  (Fuel_any k s W (h k rfl).1).mono (by rintro e W' ⟨rfl, rfl⟩; exact ⟨rfl, Ext.refl _⟩)

/-- a metered division against one without a meter -/
theorem met12 {k : Nat} {a b c d : Int} (h : mayLimits a b c d) (F G : PZ) (x : Int) : MetD (MSt.new a b c d) 0 (divD (some k) true (MSt.new a b c d) F G x) (div0 true F G x) :=
  run_met _ _ _ _ _ _ rfl h.1.1
theorem div_err {o : Option Nat} {s : MSt} {F G : PZ} {x : Int} (h : (divD o true s F G x).e ≠ 0) : (divD o true s F G x).q = [] ∧ (divD o true s F G x).r = [] ∧ (divD o true s F G x).n = 0 := by
  rcases run_err (o := o) (keep := true) (g := G) (v := x) (d := degP G x) (h := headP G x) ((degP F x).toNat + 1) s [] F 0 with h1 | h1
  · exact absurd h1 h
  · exact h1
theorem limbs_of {p : PZ} {m : Int} (h : (mostLimbs (ofP p) (ofP p).length : Int) ≤ m) : (limbsT (ofP p) (ofP p).length : Int) ≤ m := by
  rw [← most_eq p _ (Nat.le_refl _)]
  exact h
end Go.Proofs.YtcpfeepnfodifaaGreat

namespace Go.Proofs.YtcpfeepnfodifaaGreat
open Go.RowKit

theorem cells4_on' {W W' : World} {n : Nat} {a b c d : Value} (g : Ext W W') (h : W.cell? ⟨n, 0, none⟩ = some a ∧ W.cell? ⟨n, 1, none⟩ = some b ∧ W.cell? ⟨n, 2, none⟩ = some c ∧ W.cell? ⟨n, 3, none⟩ = some d) :
    W'.cell? ⟨n, 0, none⟩ = some a ∧ W'.cell? ⟨n, 1, none⟩ = some b ∧ W'.cell? ⟨n, 2, none⟩ = some c ∧ W'.cell? ⟨n, 3, none⟩ = some d := ⟨g.cell h.1, g.cell h.2.1, g.cell h.2.2.1, g.cell h.2.2.2⟩
theorem cells4_gb {W W' : World} {n : Nat} {r : Option Nat} {a b c d : Value} (g : W.grownBy W' r) (hn : some n ≠ r) (h : W.cell? ⟨n, 0, none⟩ = some a ∧ W.cell? ⟨n, 1, none⟩ = some b ∧ W.cell? ⟨n, 2, none⟩ = some c ∧ W.cell? ⟨n, 3, none⟩ = some d) :
    W'.cell? ⟨n, 0, none⟩ = some a ∧ W'.cell? ⟨n, 1, none⟩ = some b ∧ W'.cell? ⟨n, 2, none⟩ = some c ∧ W'.cell? ⟨n, 3, none⟩ = some d := by
  have e := g.block n (lt_of_cell h.1) hn
  exact ⟨(World.cell?_of_block e).trans h.1, (World.cell?_of_block e).trans h.2.1, (World.cell?_of_block e).trans h.2.2.1, (World.cell?_of_block e).trans h.2.2.2⟩

set_option maxRecDepth 100000 in
set_option maxHeartbeats 16000000 in
theorem law_bounds (vp vq : Value) (ps qs : List RTerm) (x a b c d : Int) (w : World) (hp : Terms (Old w) w vp ps) (hq : Terms (Old w) w vq qs) (hx : inI64 x) :
    Calls Tryz.prog 6 #[vp, vq, .int .i64 x, .agg #[.int .i64 a, .int .i64 b, .int .i64 c, .int .i64 d]] w fun e w' => e = .returned (.bool true) ∧ Ext w w' := by
  have hnot : ∀ (x : Bool) (w : World), (Op.unary .not (.bool x)).run Tryz.prog w = .ok (.bool (!x)) w := fun _ _ => rfl
  have hf0 := need_f0
  have hf1 := need_f1
  have HXX := hid (Ext.alloc (Ext.refl w) (.cells #[.int .i64 a, .int .i64 b, .int .i64 c, .int .i64 d] 25))
  have HK := hid (show (w.alloc (.cells #[.int .i64 a, .int .i64 b, .int .i64 c, .int .i64 d] 25)).cell? ⟨w.heap.size, 0, none⟩ = some (.int .i64 a) ∧ (w.alloc (.cells #[.int .i64 a, .int .i64 b, .int .i64 c, .int .i64 d] 25)).cell? ⟨w.heap.size, 1, none⟩ = some (.int .i64 b) ∧ (w.alloc (.cells #[.int .i64 a, .int .i64 b, .int .i64 c, .int .i64 d] 25)).cell? ⟨w.heap.size, 2, none⟩ = some (.int .i64 c) ∧ (w.alloc (.cells #[.int .i64 a, .int .i64 b, .int .i64 c, .int .i64 d] 25)).cell? ⟨w.heap.size, 3, none⟩ = some (.int .i64 d) from ⟨cell_new _ _ _ rfl rfl, cell_new _ _ _ rfl rfl, cell_new _ _ _ rfl rfl, cell_new _ _ _ rfl rfl⟩)
  have HLB : Hid (w.heap.size < (w.alloc (.cells #[.int .i64 a, .int .i64 b, .int .i64 c, .int .i64 d] 25)).heap.size) := hid (by rw [size_alloc]; omega)
  have HXI := hid hx
  have HPS := hid hp
  have HQS := hid hq
  have CG := fun (W : World) (hW : Ext w W) => law12_great vp ps x (hp.on hW)
  have CH := fun (W : World) (hW : Ext w W) => law12_great vq qs x (hq.on hW)
  unfold inI64 at hx
  obtain ⟨hxl, hxu⟩ := hx
  obtain ⟨ap, cp, rfl⟩ := hp.form
  obtain ⟨aq, cq, rfl⟩ := hq.form
  obtain ⟨np, hnp⟩ : ∃ n, n = ps.length := ⟨_, rfl⟩
  obtain ⟨nq, hnq⟩ : ∃ n, n = qs.length := ⟨_, rfl⟩
  rw [← hnp] at CG HPS ⊢
  rw [← hnq] at CH HQS ⊢
  cases hg1 : great12 ps with
  | true =>
    simp only [hg1] at CG
    have HCG := hid CG
    clear CG CH hg1 hp hq hnp hnq
    go_enter Tryz.func6, Tryz.ntmps6
    go_wp2_with fail
    with_reducible refine (HCG.out _ HXX.out).mono ?_
    rintro e w1 ⟨rfl, hx⟩
    have HXX := hid (HXX.out.trans hx)
    clear hx
    go_wp2_with fail
    with_reducible refine (law12_known _).mono ?_
    rintro e w2 ⟨rfl, hx⟩
    have HXX := hid (HXX.out.trans hx)
    clear hx
    go_wp2
    all_goals
      go_ret
      exact ⟨rfl, HXX.out⟩
  | false =>
    simp only [hg1] at CG
    have HCG := hid CG
    have HG1 := hid hg1
    clear CG hg1
    cases hg2 : great12 qs with
    | true =>
      simp only [hg2] at CH
      have HCH := hid CH
      clear CH hg2 hp hq hnp hnq
      go_enter Tryz.func6, Tryz.ntmps6
      go_wp2_with fail
      with_reducible refine (HCG.out _ HXX.out).mono ?_
      rintro e w1 ⟨rfl, hx⟩
      have HXX := hid (HXX.out.trans hx)
      clear hx
      go_wp2_with fail
      with_reducible refine (HCH.out _ HXX.out).mono ?_
      rintro e w2 ⟨rfl, hx⟩
      have HXX := hid (HXX.out.trans hx)
      clear hx
      go_wp2_with fail
      with_reducible refine (law12_known _).mono ?_
      rintro e w3 ⟨rfl, hx⟩
      have HXX := hid (HXX.out.trans hx)
      clear hx
      go_wp2
      all_goals
        go_ret
        exact ⟨rfl, HXX.out⟩
    | false =>
      simp only [hg2] at CH
      have HCH := hid CH
      have HG2 := hid hg2
      clear CH hg2 hp hq hnp hnq
      by_cases hmay : mayLimits a b c d
      · have HMAY := hid hmay
        have HNW := hid (fun (W : World) => new_yes12 (W := W) hmay)
        have HOKS := hid (new_okS hmay)
        clear hmay
        by_cases hok : mayT ps = true ∧ mayT qs = true ∧ (1 ≤ x ∧ x ≤ 200) ∧ 1 ≤ degP (plainP qs) x
        · obtain ⟨hm1, hm2, hx1, hd⟩ := hok
          have e1 := pv_of HPS.out hm1
          have e2 := pv_of HQS.out hm2
          obtain ⟨fF, eF⟩ := plain12 HPS.out.okT HG1.out
          obtain ⟨fG, eG⟩ := plain12 HQS.out.okT HG2.out
          generalize plainP ps = F at *
          generalize plainP qs = G at *
          subst e1 e2
          have HFF := hid fF
          have HEF := hid eF
          have HFG := hid fG
          have HX1 := hid hx1
          have HDD := hid hd
          clear fF eF fG eG hm1 hm2 hx1 hd
          have HMT := fun k : Nat => met12 (k := k) HMAY.out F G x
          have HS1 := hid HMT
          have C0 := hid (fun (W : World) (hW : Ext w W) => div12_divide HFF.out HEF.out HFG.out HX1.out HDD.out (HPS.out.on hW) (HQS.out.on hW))
          have C1 := hid (fun (W : World) (k : Nat) (hm : MV W (some k) (MSt.new a b c d)) (hW : Ext w W) (hk : w.heap.size ≤ k) => div12_z hm HPS.out HQS.out hW (fun b hb => by cases hb; exact hk) HFF.out HEF.out HFG.out HX1.out HDD.out)
          have HEQ : Hid (∀ k : Nat, divD (some k) true (MSt.new a b c d) F G x = divD (some 0) true (MSt.new a b c d) F G x) := hid (fun k => divD_o ⟨fun h => (by cases h), fun h => (by cases h)⟩ _ _ _ _ _)
          have hM := HMT 0
          have hfit := div12_fit true (some 0) (MSt.new a b c d) HFF.out HEF.out HFG.out HX1.out HDD.out
          have herr := div_err (o := some 0) (s := MSt.new a b c d) (F := F) (G := G) (x := x)
          simp only [HEQ.out] at C1
          have HC1 : Hid (∀ (W : World) (k : Nat), MV W (some k) (MSt.new a b c d) → Ext w W → w.heap.size ≤ k → Calls Tryz.prog 15 #[.pointer (some ⟨k, 0, none⟩), _, _, .int .i64 x] W (DividePost W (some k) (divD (some 0) true (MSt.new a b c d) F G x))) := hid (fun W k h1 h2 h3 => by have h := C1.out W k h1 h2 h3; rw [HEQ.out] at h; exact h)
          clear C1 HMT
          generalize divD (some 0) true (MSt.new a b c d) F G x = R1 at *
          generalize div0 true F G x = R0 at *
          obtain ⟨re, rq, rr, rn, rs⟩ := R1
          obtain ⟨ze, zq, zr, zn, zs⟩ := R0
          have hfu : rs.st ≤ a := hM.fuel
          have q1 : decide (a < rs.st) = false := decide_eq_false (by omega)
          rcases hM.errs with h0 | h8 | h9
          · have h0' : re = 0 := h0
            subst h0'
            obtain ⟨k1, k2, k3, k4, k5, k6⟩ := hM.same rfl
            have hkept := hM.kept rfl
            simp only at k1 k2 k3 k4 k5 k6 hkept hfit
            subst k1 k2 k3 k4
            have hst : rs.st = (rn : Int) := by
              have h5 : rs.st + 0 = (MSt.new a b c d).st + (rn : Int) := k5
              have h6 : (MSt.new a b c d).st = 0 := rfl
              omega
            have q2 : ((rn : Int) != rs.st) = false := by rw [bne_eq_false_iff_eq]; exact hst.symm
            have q3 : ((rn : Int) != (rn : Int)) = false := by rw [bne_eq_false_iff_eq]
            have q4 : (rs.wh == 0) = true := by rw [beq_iff_eq]; exact k6
            have HFIT := hid hfit
            have HCS := hid (fun (W : World) (u v : Value) (p : PZ) (hu : PV W u p) (hv : PV W v p) => (z_same hu hv).mono (R' := fun e w' => e = .returned (.bool true) ∧ Ext W w') (by rintro e w' ⟨rfl, h⟩; exact ⟨by rw [decide_eq_true rfl], h⟩))
            have HCL := hid (fun (W : World) (u : Value) (p : PZ) (hu : PV W u p) (hf : Fit 128 34359738368 p) => z_limbs hu hf (by decide))
            by_cases hn0 : rn = 0
            · subst hn0
              have q5 : (((0 : Nat) : Int) == 0) = true := rfl
              have q2' : ((0 : Int) != rs.st) = false := q2
              clear hM herr hkept k5 k6 h0 hfit hst
              go_enter Tryz.func6, Tryz.ntmps6
              go_wp2_with fail
              with_reducible refine (HCG.out _ HXX.out).mono ?_
              rintro e w1 ⟨rfl, hx⟩
              have HK := hid (cells4_on' hx HK.out)
              have HXX := hid (HXX.out.trans hx)
              clear hx
              go_wp2_with fail
              with_reducible refine (HCH.out _ HXX.out).mono ?_
              rintro e w2 ⟨rfl, hx⟩
              have HK := hid (cells4_on' hx HK.out)
              have HXX := hid (HXX.out.trans hx)
              clear hx
              obtain ⟨j0, j1, j2, j3⟩ := HK.out
              have HBASE := hid HXX.out.size
              have HLT := hid (lt_of_cell j0)
              go_wp2_with fail
              with_reducible refine (HNW.out _).mono ?_
              rintro e w3 ⟨k, rfl, hk, hm, hx⟩
              have HK := hid (cells4_on' hx HK.out)
              have HXX := hid (HXX.out.trans hx)
              have HMm := hid (some_mv hm HOKS.out)
              have HKB := hid (Nat.le_trans HBASE.out hk)
              have HKL : Hid (some w.heap.size ≠ some k) := hid (fun e => by have h1 := Option.some.inj e; have h2 := HLT.out; omega)
              clear hk hm hx j0 j1 j2 j3
              go_wp2_with fail
              with_reducible refine (HC1.out _ k HMm.out HXX.out HKB.out).mono ?_
              rintro e w4 ⟨uq, ur, rfl, hm, hg, hq, hr⟩
              have HK := hid (cells4_gb hg HKL.out HK.out)
              have HXX := hid (ext_gb HXX.out hg (fun b hb => by cases hb; exact HKB.out))
              have HMm : Hid (MV _ (some k) rs) := hid hm
              have HQ : Hid (Terms (Old _) _ uq (ofP rq)) := hid hq.pv
              have HR : Hid (Terms (Old _) _ ur (ofP rr)) := hid hr.pv
              obtain ⟨aq1, cq1, rfl⟩ := HQ.out.form
              obtain ⟨ar1, cr1, rfl⟩ := HR.out.form
              clear hm hg hq hr
              go_wp2_with fail
              with_reducible refine (C0.out _ HXX.out).mono ?_
              rintro e w5 ⟨yq, yr, rfl, hq, hr, hx⟩
              have HK := hid (cells4_on' hx HK.out)
              have HXX := hid (HXX.out.trans hx)
              have HMm := hid (HMm.out.ext hx)
              have HQ := hid (Terms.on HQ.out hx)
              have HR := hid (Terms.on HR.out hx)
              have HYQ : Hid (Terms (Old _) _ yq (ofP rq)) := hid hq
              have HYR : Hid (Terms (Old _) _ yr (ofP rr)) := hid hr
              obtain ⟨aq2, cq2, rfl⟩ := HYQ.out.form
              obtain ⟨ar2, cr2, rfl⟩ := HYR.out.form
              clear hq hr hx
              obtain ⟨nq1, hnq1⟩ : ∃ n, n = (ofP rq).length := ⟨_, rfl⟩
              obtain ⟨nr1, hnr1⟩ : ∃ n, n = (ofP rr).length := ⟨_, rfl⟩
              have HNQ1 := hid hnq1
              have HNR1 := hid hnr1
              rw [← hnq1, ← hnr1]
              rw [← hnq1] at HQ HYQ
              rw [← hnr1] at HR HYR
              clear hnq1 hnr1
              obtain ⟨j0, j1, j2, j3⟩ := HK.out
              have L0 := fun Y : Later w5 => Y.h.cell j0
              go_wp2
              refine wp_region_later (by kernel_rfl) (by kernel_rfl) ?_
              repeat (go_big_quiet_step (first | (go_at_call 31; exact Later.done (fuel12 (HMm.out.ext (Later.h _)))) | (go_at_call 29; exact Later.done (HCS.out _ _ _ _ (Terms.on HQ.out (Later.h _)) (Terms.on HYQ.out (Later.h _)))) | (go_at_call 29; exact Later.done (HCS.out _ _ _ _ (Terms.on HR.out (Later.h _)) (Terms.on HYR.out (Later.h _))))))
              refine wpQuiet_nil ?_
              intro w6 hx
              have HK := hid (cells4_on' hx HK.out)
              have HXX := hid (HXX.out.trans hx)
              have HMm := hid (HMm.out.ext hx)
              have HQ := hid (Terms.on HQ.out hx)
              have HR := hid (Terms.on HR.out hx)
              have HYQ := hid (Terms.on HYQ.out hx)
              have HYR := hid (Terms.on HYR.out hx)
              clear hx L0
              obtain ⟨j0, j1, j2, j3⟩ := HK.out
              go_wp2
              refine wp_region_later (by kernel_rfl) (by kernel_rfl) ?_
              repeat (go_big_quiet_step (fail))
              refine wpQuiet_nil ?_
              intro w7 hx
              have HK := hid (cells4_on' hx HK.out)
              have HXX := hid (HXX.out.trans hx)
              have HMm := hid (HMm.out.ext hx)
              have HQ := hid (Terms.on HQ.out hx)
              have HR := hid (Terms.on HR.out hx)
              have HYQ := hid (Terms.on HYQ.out hx)
              have HYR := hid (Terms.on HYR.out hx)
              clear hx 
              go_wp2_with fail
              with_reducible refine (need12 HMm.out).mono ?_
              rintro e w8 ⟨rfl, hx⟩
              have HK := hid (cells4_on' hx HK.out)
              have HXX := hid (HXX.out.trans hx)
              have HMm := hid (HMm.out.ext hx)
              have HQ := hid (Terms.on HQ.out hx)
              have HR := hid (Terms.on HR.out hx)
              have HYQ := hid (Terms.on HYQ.out hx)
              have HYR := hid (Terms.on HYR.out hx)
              clear hx
              go_wp2_with fail
              with_reducible refine (law12_known _).mono ?_
              rintro e w9 ⟨rfl, hx⟩
              have HK := hid (cells4_on' hx HK.out)
              have HXX := hid (HXX.out.trans hx)
              have HMm := hid (HMm.out.ext hx)
              have HQ := hid (Terms.on HQ.out hx)
              have HR := hid (Terms.on HR.out hx)
              have HYQ := hid (Terms.on HYQ.out hx)
              have HYR := hid (Terms.on HYR.out hx)
              clear hx
              go_wp2
              all_goals
                go_ret
                exact ⟨rfl, HXX.out⟩
            · obtain ⟨⟨g1, g2⟩, g3, g4⟩ := hkept (by omega)
              have q5 : ((rn : Int) == 0) = false := by rw [beq_eq_false_iff_ne]; omega
              have g1' := limbs_of g1
              have g3' := limbs_of g3
              have HLR0 := fun (W : World) (u : Value) (hu : PV W u rr) => HCL.out W u rr hu hfit.2
              have HLQ0 := fun (W : World) (u : Value) (hu : PV W u rq) => HCL.out W u rq hu hfit.1
              obtain ⟨lr, hlr⟩ : ∃ n, n = limbsT (ofP rr) (ofP rr).length := ⟨_, rfl⟩
              obtain ⟨lq, hlq⟩ : ∃ n, n = limbsT (ofP rq) (ofP rq).length := ⟨_, rfl⟩
              rw [← hlr] at HLR0 g1'
              rw [← hlq] at HLQ0 g3'
              have HLR := hid HLR0
              have HLQ := hid HLQ0
              have g1'' : (lr : Int) ≤ b := g1'
              have g3'' : (lq : Int) ≤ b := g3'
              have q6 : decide ((lr : Int) ≤ b) = true := decide_eq_true g1''
              have q7 : decide ((lq : Int) ≤ b) = true := decide_eq_true g3''
              have g2' : (((ofP rr).length : Nat) : Int) ≤ c := by rw [ofP_len]; exact g2
              have g4' : (((ofP rq).length : Nat) : Int) ≤ c := by rw [ofP_len]; exact g4
              have HG2' := hid g2'
              have HG4' := hid g4'
              clear hM herr hkept k5 k6 h0 hfit hst g1 g2 g3 g4 g1' g3' g1'' g3'' HLR0 HLQ0 hlr hlq g2' g4' hn0
              go_enter Tryz.func6, Tryz.ntmps6
              go_wp2_with fail
              with_reducible refine (HCG.out _ HXX.out).mono ?_
              rintro e w1 ⟨rfl, hx⟩
              have HK := hid (cells4_on' hx HK.out)
              have HXX := hid (HXX.out.trans hx)
              clear hx
              go_wp2_with fail
              with_reducible refine (HCH.out _ HXX.out).mono ?_
              rintro e w2 ⟨rfl, hx⟩
              have HK := hid (cells4_on' hx HK.out)
              have HXX := hid (HXX.out.trans hx)
              clear hx
              obtain ⟨j0, j1, j2, j3⟩ := HK.out
              have HBASE := hid HXX.out.size
              have HLT := hid (lt_of_cell j0)
              go_wp2_with fail
              with_reducible refine (HNW.out _).mono ?_
              rintro e w3 ⟨k, rfl, hk, hm, hx⟩
              have HK := hid (cells4_on' hx HK.out)
              have HXX := hid (HXX.out.trans hx)
              have HMm := hid (some_mv hm HOKS.out)
              have HKB := hid (Nat.le_trans HBASE.out hk)
              have HKL : Hid (some w.heap.size ≠ some k) := hid (fun e => by have h1 := Option.some.inj e; have h2 := HLT.out; omega)
              clear hk hm hx j0 j1 j2 j3
              go_wp2_with fail
              with_reducible refine (HC1.out _ k HMm.out HXX.out HKB.out).mono ?_
              rintro e w4 ⟨uq, ur, rfl, hm, hg, hq, hr⟩
              have HK := hid (cells4_gb hg HKL.out HK.out)
              have HXX := hid (ext_gb HXX.out hg (fun b hb => by cases hb; exact HKB.out))
              have HMm : Hid (MV _ (some k) rs) := hid hm
              have HQ : Hid (Terms (Old _) _ uq (ofP rq)) := hid hq.pv
              have HR : Hid (Terms (Old _) _ ur (ofP rr)) := hid hr.pv
              obtain ⟨aq1, cq1, rfl⟩ := HQ.out.form
              obtain ⟨ar1, cr1, rfl⟩ := HR.out.form
              clear hm hg hq hr
              go_wp2_with fail
              with_reducible refine (C0.out _ HXX.out).mono ?_
              rintro e w5 ⟨yq, yr, rfl, hq, hr, hx⟩
              have HK := hid (cells4_on' hx HK.out)
              have HXX := hid (HXX.out.trans hx)
              have HMm := hid (HMm.out.ext hx)
              have HQ := hid (Terms.on HQ.out hx)
              have HR := hid (Terms.on HR.out hx)
              have HYQ : Hid (Terms (Old _) _ yq (ofP rq)) := hid hq
              have HYR : Hid (Terms (Old _) _ yr (ofP rr)) := hid hr
              obtain ⟨aq2, cq2, rfl⟩ := HYQ.out.form
              obtain ⟨ar2, cr2, rfl⟩ := HYR.out.form
              clear hq hr hx
              obtain ⟨nq1, hnq1⟩ : ∃ n, n = (ofP rq).length := ⟨_, rfl⟩
              obtain ⟨nr1, hnr1⟩ : ∃ n, n = (ofP rr).length := ⟨_, rfl⟩
              have HNQ1 := hid hnq1
              have HNR1 := hid hnr1
              rw [← hnq1, ← hnr1]
              rw [← hnq1] at HQ HYQ
              rw [← hnr1] at HR HYR
              clear hnq1 hnr1
              have q8 : decide ((nr1 : Int) ≤ c) = true := decide_eq_true (by rw [HNR1.out]; exact HG2'.out)
              have q9 : decide ((nq1 : Int) ≤ c) = true := decide_eq_true (by rw [HNQ1.out]; exact HG4'.out)
              obtain ⟨j0, j1, j2, j3⟩ := HK.out
              have L0 := fun Y : Later w5 => Y.h.cell j0
              go_wp2
              refine wp_region_later (by kernel_rfl) (by kernel_rfl) ?_
              repeat (go_big_quiet_step (first | (go_at_call 31; exact Later.done (fuel12 (HMm.out.ext (Later.h _)))) | (go_at_call 29; exact Later.done (HCS.out _ _ _ _ (Terms.on HQ.out (Later.h _)) (Terms.on HYQ.out (Later.h _)))) | (go_at_call 29; exact Later.done (HCS.out _ _ _ _ (Terms.on HR.out (Later.h _)) (Terms.on HYR.out (Later.h _))))))
              refine wpQuiet_nil ?_
              intro w6 hx
              have HK := hid (cells4_on' hx HK.out)
              have HXX := hid (HXX.out.trans hx)
              have HMm := hid (HMm.out.ext hx)
              have HQ := hid (Terms.on HQ.out hx)
              have HR := hid (Terms.on HR.out hx)
              have HYQ := hid (Terms.on HYQ.out hx)
              have HYR := hid (Terms.on HYR.out hx)
              clear hx L0
              obtain ⟨j0, j1, j2, j3⟩ := HK.out
              have L1 := fun Y : Later w6 => Y.h.cell j1
              have L2 := fun Y : Later w6 => Y.h.cell j2
              go_wp2
              refine wp_region_later (by kernel_rfl) (by kernel_rfl) ?_
              repeat (go_big_quiet_step (first | (go_at_call 32; exact Later.done (HLR.out _ _ (Terms.on HR.out (Later.h _)))) | (go_at_call 32; exact Later.done (HLQ.out _ _ (Terms.on HQ.out (Later.h _))))))
              refine wpQuiet_nil ?_
              intro w7 hx
              have HK := hid (cells4_on' hx HK.out)
              have HXX := hid (HXX.out.trans hx)
              have HMm := hid (HMm.out.ext hx)
              have HQ := hid (Terms.on HQ.out hx)
              have HR := hid (Terms.on HR.out hx)
              have HYQ := hid (Terms.on HYQ.out hx)
              have HYR := hid (Terms.on HYR.out hx)
              clear hx L1 L2
              go_wp2_with fail
              with_reducible refine (need12 HMm.out).mono ?_
              rintro e w8 ⟨rfl, hx⟩
              have HK := hid (cells4_on' hx HK.out)
              have HXX := hid (HXX.out.trans hx)
              have HMm := hid (HMm.out.ext hx)
              have HQ := hid (Terms.on HQ.out hx)
              have HR := hid (Terms.on HR.out hx)
              have HYQ := hid (Terms.on HYQ.out hx)
              have HYR := hid (Terms.on HYR.out hx)
              clear hx
              go_wp2_with fail
              with_reducible refine (law12_known _).mono ?_
              rintro e w9 ⟨rfl, hx⟩
              have HK := hid (cells4_on' hx HK.out)
              have HXX := hid (HXX.out.trans hx)
              have HMm := hid (HMm.out.ext hx)
              have HQ := hid (Terms.on HQ.out hx)
              have HR := hid (Terms.on HR.out hx)
              have HYQ := hid (Terms.on HYQ.out hx)
              have HYR := hid (Terms.on HYR.out hx)
              clear hx
              go_wp2
              all_goals
                go_ret
                exact ⟨rfl, HXX.out⟩
          · have h8' : re = 8 := h8
            subst h8'
            obtain ⟨k1, k2, k3⟩ := herr (by show ¬ (8 : Int) = 0; decide)
            have hz : ze = 8 := hM.exps rfl
            simp only at k1 k2 k3
            subst k1 k2 k3 hz
            clear hM herr h8 hfit
            go_enter Tryz.func6, Tryz.ntmps6
            go_wp2_with fail
            with_reducible refine (HCG.out _ HXX.out).mono ?_
            rintro e w1 ⟨rfl, hx⟩
            have HK := hid (cells4_on' hx HK.out)
            have HXX := hid (HXX.out.trans hx)
            clear hx
            go_wp2_with fail
            with_reducible refine (HCH.out _ HXX.out).mono ?_
            rintro e w2 ⟨rfl, hx⟩
            have HK := hid (cells4_on' hx HK.out)
            have HXX := hid (HXX.out.trans hx)
            clear hx
            obtain ⟨j0, j1, j2, j3⟩ := HK.out
            have HBASE := hid HXX.out.size
            have HLT := hid (lt_of_cell j0)
            go_wp2_with fail
            with_reducible refine (HNW.out _).mono ?_
            rintro e w3 ⟨k, rfl, hk, hm, hx⟩
            have HK := hid (cells4_on' hx HK.out)
            have HXX := hid (HXX.out.trans hx)
            have HMm := hid (some_mv hm HOKS.out)
            have HKB := hid (Nat.le_trans HBASE.out hk)
            have HKL : Hid (some w.heap.size ≠ some k) := hid (fun e => by have h1 := Option.some.inj e; have h2 := HLT.out; omega)
            clear hk hm hx j0 j1 j2 j3
            go_wp2_with fail
            with_reducible refine (HC1.out _ k HMm.out HXX.out HKB.out).mono ?_
            rintro e w4 ⟨uq, ur, rfl, hm, hg, hq, hr⟩
            have HK := hid (cells4_gb hg HKL.out HK.out)
            have HXX := hid (ext_gb HXX.out hg (fun b hb => by cases hb; exact HKB.out))
            have HMm : Hid (MV _ (some k) rs) := hid hm
            obtain ⟨aq1, cq1, hq1⟩ := hq.form
            have hq2 : uq = .slice aq1 0 cq1 := hq1
            obtain ⟨ar1, cr1, hr1⟩ := hr.form
            have hr2 : ur = .slice ar1 0 cr1 := hr1
            subst hq2 hr2
            clear hm hg hq hr hq1 hr1
            go_wp2_with fail
            with_reducible refine (C0.out _ HXX.out).mono ?_
            rintro e w5 ⟨yq, yr, rfl, hq, hr, hx⟩
            have HK := hid (cells4_on' hx HK.out)
            have HXX := hid (HXX.out.trans hx)
            have HMm := hid (HMm.out.ext hx)
            obtain ⟨aq2, cq2, rfl⟩ := hq.form
            obtain ⟨ar2, cr2, rfl⟩ := hr.form
            clear hq hr hx
            obtain ⟨j0, j1, j2, j3⟩ := HK.out
            have L0 := fun Y : Later w5 => Y.h.cell j0
            go_wp2
            refine wp_region_later (by kernel_rfl) (by kernel_rfl) ?_
            repeat (go_big_quiet_step (first | (go_at_call 31; exact Later.done (fuel12 (HMm.out.ext (Later.h _))))))
            refine wpQuiet_nil ?_
            intro w6 hx
            have HK := hid (cells4_on' hx HK.out)
            have HXX := hid (HXX.out.trans hx)
            have HMm := hid (HMm.out.ext hx)
            clear hx L0
            go_wp2_with fail
            with_reducible refine (need12 HMm.out).mono ?_
            rintro e w7 ⟨rfl, hx⟩
            have HK := hid (cells4_on' hx HK.out)
            have HXX := hid (HXX.out.trans hx)
            have HMm := hid (HMm.out.ext hx)
            clear hx
            go_wp2_with fail
            with_reducible refine (law12_known _).mono ?_
            rintro e w8 ⟨rfl, hx⟩
            have HXX := hid ((HXX.out.alloc _).trans hx)
            clear hx
            go_wp2
            all_goals
              go_ret
              exact ⟨rfl, HXX.out⟩
          · have hne : re ≠ 0 := by rcases h9 with h | h | h <;> (have h1 : re = _ := h.1; omega)
            obtain ⟨k1, k2, k3⟩ := herr hne
            simp only at k1 k2 k3
            subst k1 k2 k3
            have hwh : rs.wh = re := by rcases h9 with h | h | h <;> (have h1 : re = _ := h.1; have h2 : rs.wh = _ := h.2.1; omega)
            have q2 : (re == 0) = false := by rw [beq_eq_false_iff_ne]; exact hne
            have q3 : (re == 2) = false := by rw [beq_eq_false_iff_ne]; rcases h9 with h | h | h <;> (have h1 : re = _ := h.1; omega)
            have q4 : (re == 8) = false := by rw [beq_eq_false_iff_ne]; rcases h9 with h | h | h <;> (have h1 : re = _ := h.1; omega)
            have q5 : (rs.wh == re) = true := by rw [beq_iff_eq]; exact hwh
            have HWH := hid hwh
            obtain ⟨nn, hnn⟩ : ∃ n, n = rs.nn := ⟨_, rfl⟩
            have HNN := hid hnn
            have hM1 := hM.errs
            clear herr hfit
            rcases h9 with h | h | h
            · have hre : re = 9 := h.1
              subst hre
              have hgt : a < nn := by rw [hnn]; exact h.2.2
              have HGT := hid hgt
              have HQ0 : Hid (∀ (k2 : Nat) (s : MSt), s = (divD (some k2) true (MSt.new nn b c d) F G x).s → (divD (some k2) true (MSt.new nn b c d) F G x).e = 9 → mayLimits nn b c d → nn < s.nn) := hid (fun k2 s hs he hm => by
                subst hs
                have M2 := met12 (k := k2) hm F G x
                rcases M2.errs with g | g | g | g | g
                · rw [he] at g; exact absurd g (by decide)
                · rw [he] at g; exact absurd g (by decide)
                · have g1 := g.1; rw [he] at g1; exact g.2.2
                · have g1 := g.1; rw [he] at g1; exact absurd g1 (by decide)
                · have g1 := g.1; rw [he] at g1; exact absurd g1 (by decide))
              clear hM hM1 h hgt hne q2 q3 q4 hwh hnn
              by_cases hmay2 : mayLimits nn b c d
              · have HNW2 := hid (fun (W : World) => new_yes12 (W := W) hmay2)
                have HMAY2 := hid hmay2
                have HOK2 := hid (new_okS hmay2)
                have C2 : Hid (∀ (W : World) (k : Nat), MV W (some k) (MSt.new nn b c d) → Ext w W → w.heap.size ≤ k → Calls Tryz.prog 15 #[.pointer (some ⟨k, 0, none⟩), _, _, .int .i64 x] W (DividePost W (some k) (divD (some k) true (MSt.new nn b c d) F G x))) := hid (fun W k hm hW hk => div12_z hm HPS.out HQS.out hW (fun b hb => by cases hb; exact hk) HFF.out HEF.out HFG.out HX1.out HDD.out)
                clear hmay2
                by_cases hz : (divD (some 0) true (MSt.new nn b c d) F G x).e = 9
                · have HZ := hid hz
                  clear hz
                  go_enter Tryz.func6, Tryz.ntmps6
                  go_wp2_with fail
                  with_reducible refine (HCG.out _ HXX.out).mono ?_
                  rintro e w1 ⟨rfl, hx⟩
                  have HK := hid (cells4_on' hx HK.out)
                  have HXX := hid (HXX.out.trans hx)
                  clear hx
                  go_wp2_with fail
                  with_reducible refine (HCH.out _ HXX.out).mono ?_
                  rintro e w2 ⟨rfl, hx⟩
                  have HK := hid (cells4_on' hx HK.out)
                  have HXX := hid (HXX.out.trans hx)
                  clear hx
                  obtain ⟨j0, j1, j2, j3⟩ := HK.out
                  have HBASE := hid HXX.out.size
                  have HLT := hid (lt_of_cell j0)
                  go_wp2_with fail
                  with_reducible refine (HNW.out _).mono ?_
                  rintro e w3 ⟨k, rfl, hk, hm, hx⟩
                  have HK := hid (cells4_on' hx HK.out)
                  have HXX := hid (HXX.out.trans hx)
                  have HMm := hid (some_mv hm HOKS.out)
                  have HKB := hid (Nat.le_trans HBASE.out hk)
                  have HKL : Hid (some w.heap.size ≠ some k) := hid (fun e => by have h1 := Option.some.inj e; have h2 := HLT.out; omega)
                  clear hk hm hx j0 j1 j2 j3
                  go_wp2_with fail
                  with_reducible refine (HC1.out _ k HMm.out HXX.out HKB.out).mono ?_
                  rintro e w4 ⟨uq, ur, rfl, hm, hg, hq, hr⟩
                  have HK := hid (cells4_gb hg HKL.out HK.out)
                  have HXX := hid (ext_gb HXX.out hg (fun b hb => by cases hb; exact HKB.out))
                  have HMm : Hid (MV _ (some k) rs) := hid hm
                  obtain ⟨aq1, cq1, hq1⟩ := hq.form
                  have hq2 : uq = .slice aq1 0 cq1 := hq1
                  obtain ⟨ar1, cr1, hr1⟩ := hr.form
                  have hr2 : ur = .slice ar1 0 cr1 := hr1
                  subst hq2 hr2
                  clear hm hg hq hr hq1 hr1
                  go_wp2_with fail
                  with_reducible refine (C0.out _ HXX.out).mono ?_
                  rintro e w5 ⟨yq, yr, rfl, hq, hr, hx⟩
                  have HK := hid (cells4_on' hx HK.out)
                  have HXX := hid (HXX.out.trans hx)
                  have HMm := hid (HMm.out.ext hx)
                  obtain ⟨aq2, cq2, rfl⟩ := hq.form
                  obtain ⟨ar2, cr2, rfl⟩ := hr.form
                  clear hq hr hx
                  obtain ⟨j0, j1, j2, j3⟩ := HK.out
                  have L0 := fun Y : Later w5 => Y.h.cell j0
                  go_wp2
                  refine wp_region_later (by kernel_rfl) (by kernel_rfl) ?_
                  repeat (go_big_quiet_step (first | (go_at_call 31; exact Later.done (fuel12 (HMm.out.ext (Later.h _))))))
                  refine wpQuiet_nil ?_
                  intro w6 hx
                  have HK := hid (cells4_on' hx HK.out)
                  have HXX := hid (HXX.out.trans hx)
                  have HMm := hid (HMm.out.ext hx)
                  clear hx L0
                  go_wp2_with fail
                  with_reducible refine (need12 HMm.out).mono ?_
                  rintro e w7 ⟨rfl, hx⟩
                  have HK := hid (cells4_on' hx HK.out)
                  have HXX := hid (HXX.out.trans hx)
                  have HMm := hid (HMm.out.ext hx)
                  clear hx
                  rw [← HNN.out]
                  have HKS := hid (HMm.out.block rfl)
                  have HA1 := hid (Ext.alloc (Ext.refl w7) (.cells #[.int .i64 rs.wh, .int .i64 nn] 59))
                  obtain ⟨j0, j1, j2, j3⟩ := cells4_on' HA1.out HK.out
                  go_wp2_with fail
                  with_reducible refine (HNW2.out _).mono ?_
                  rintro e w8 ⟨k2, rfl, hk, hm, hx⟩
                  have hxb : Ext w7 w8 := (((Ext.refl w7).alloc _).alloc _).trans hx
                  have HBK := hid HXX.out.size
                  have HXX : Hid (Ext w w8) := hid (HXX.out.trans hxb)
                  have HMm := hid (HMm.out.ext hxb)
                  have n0 : w8.cell? ⟨w7.heap.size, 0, none⟩ = some (.int .i64 rs.wh) := hx.cell (cell_old _ (cell_new _ _ _ rfl rfl))
                  have n1 : w8.cell? ⟨w7.heap.size, 1, none⟩ = some (.int .i64 nn) := hx.cell (cell_old _ (cell_new _ _ _ rfl rfl))
                  have HN01 := hid (And.intro n0 n1)
                  have HM2 := hid (some_mv hm HOK2.out)
                  have HK2 : Hid (w.heap.size ≤ k2 ∧ w7.heap.size < k2 ∧ k < w7.heap.size) := hid ⟨by have h1 : _ ≤ k2 := hk; rw [size_alloc, size_alloc] at h1; have := HBK.out; omega, by have h1 : _ ≤ k2 := hk; rw [size_alloc, size_alloc] at h1; omega, HKS.out⟩
                  clear hk hm hx hxb n0 n1 j0 j1 j2 j3
                  go_wp2_with fail
                  with_reducible refine (C2.out _ k2 HM2.out HXX.out HK2.out.1).mono ?_
                  rintro e w9 ⟨uq2, ur2, rfl, hm, hg, hq, hr⟩
                  have HXX := hid (ext_gb HXX.out hg (fun b hb => by cases hb; exact HK2.out.1))
                  have HMm := hid (HMm.out.grown hg (fun b hb e => by cases hb; have := Option.some.inj e; have := HK2.out.2; omega))
                  have eb := hg.block w7.heap.size (lt_of_cell HN01.out.1) (fun e => by have := Option.some.inj e; have := HK2.out.2.1; omega)
                  have n0 := (World.cell?_of_block eb).trans HN01.out.1
                  have n1 := (World.cell?_of_block eb).trans HN01.out.2
                  have HM2 := hid hm
                  obtain ⟨aq4, cq4, rfl⟩ := hq.form
                  obtain ⟨ar4, cr4, rfl⟩ := hr.form
                  have HE2 := hid (divD_o (o := some k2) (r := some 0) ⟨fun h => (by cases h), fun h => (by cases h)⟩ true (MSt.new nn b c d) F G x)
                  have HQQ := hid (HQ0.out k2)
                  obtain ⟨R3, hR3⟩ : ∃ R, R = divD (some k2) true (MSt.new nn b c d) F G x := ⟨_, rfl⟩
                  have HR3 := hid hR3
                  rw [← hR3] at HM2 HE2 ⊢
                  have HQQ : Hid (R3.e = 9 → nn < R3.s.nn) := hid (fun he => HQQ.out R3.s (by rw [hR3]) (by rw [← hR3]; exact he) HMAY2.out)
                  obtain ⟨e3, he3⟩ : ∃ n, n = R3.e := ⟨_, rfl⟩
                  obtain ⟨n3, hn3⟩ : ∃ n, n = R3.n := ⟨_, rfl⟩
                  obtain ⟨s3, hs3⟩ : ∃ n, n = R3.s := ⟨_, rfl⟩
                  obtain ⟨l3, hl3⟩ : ∃ n, n = (ofP R3.q).length := ⟨_, rfl⟩
                  obtain ⟨l4, hl4⟩ : ∃ n, n = (ofP R3.r).length := ⟨_, rfl⟩
                  rw [← he3, ← hn3, ← hl3, ← hl4]
                  rw [← hs3] at HM2 HQQ
                  rw [← he3] at HQQ
                  have HZE : Hid (e3 = (divD (some 0) true (MSt.new nn b c d) F G x).e) := hid (by rw [he3, HE2.out])
                  clear hm hg hq hr eb hR3 he3 hn3 hs3 hl3 hl4 HE2
                  have he : e3 = 9 := HZE.out.trans HZ.out
                  subst he
                  have hq10 := HQQ.out rfl
                  have q10 : decide (nn < s3.nn) = true := decide_eq_true hq10
                  have q11 : (((9 : Int)) != 9) = false := by decide
                  clear hq10
                  have L0 := fun Y : Later w9 => Y.h.cell n0
                  have L1 := fun Y : Later w9 => Y.h.cell n1
                  go_wp2
                  refine wp_region_later (by kernel_rfl) (by kernel_rfl) ?_
                  repeat (go_big_quiet_step (first | (go_at_call 33; exact Later.done (need12 (HM2.out.ext (Later.h _)))) | (go_at_call 31; exact Later.done (fuel12 (HM2.out.ext (Later.h _)))) | (go_at_call 31; exact Later.done (fuel12 (HMm.out.ext (Later.h _)))) | (go_at_call 13; exact Later.done (law12_known _))))
                  refine wpQuiet_nil ?_
                  intro w10 hx
                  have HXX := hid (HXX.out.trans hx)
                  clear hx L0 L1
                  go_wp2
                  all_goals
                    go_ret
                    exact ⟨rfl, HXX.out⟩
                · have HZ := hid hz
                  clear hz
                  go_enter Tryz.func6, Tryz.ntmps6
                  go_wp2_with fail
                  with_reducible refine (HCG.out _ HXX.out).mono ?_
                  rintro e w1 ⟨rfl, hx⟩
                  have HK := hid (cells4_on' hx HK.out)
                  have HXX := hid (HXX.out.trans hx)
                  clear hx
                  go_wp2_with fail
                  with_reducible refine (HCH.out _ HXX.out).mono ?_
                  rintro e w2 ⟨rfl, hx⟩
                  have HK := hid (cells4_on' hx HK.out)
                  have HXX := hid (HXX.out.trans hx)
                  clear hx
                  obtain ⟨j0, j1, j2, j3⟩ := HK.out
                  have HBASE := hid HXX.out.size
                  have HLT := hid (lt_of_cell j0)
                  go_wp2_with fail
                  with_reducible refine (HNW.out _).mono ?_
                  rintro e w3 ⟨k, rfl, hk, hm, hx⟩
                  have HK := hid (cells4_on' hx HK.out)
                  have HXX := hid (HXX.out.trans hx)
                  have HMm := hid (some_mv hm HOKS.out)
                  have HKB := hid (Nat.le_trans HBASE.out hk)
                  have HKL : Hid (some w.heap.size ≠ some k) := hid (fun e => by have h1 := Option.some.inj e; have h2 := HLT.out; omega)
                  clear hk hm hx j0 j1 j2 j3
                  go_wp2_with fail
                  with_reducible refine (HC1.out _ k HMm.out HXX.out HKB.out).mono ?_
                  rintro e w4 ⟨uq, ur, rfl, hm, hg, hq, hr⟩
                  have HK := hid (cells4_gb hg HKL.out HK.out)
                  have HXX := hid (ext_gb HXX.out hg (fun b hb => by cases hb; exact HKB.out))
                  have HMm : Hid (MV _ (some k) rs) := hid hm
                  obtain ⟨aq1, cq1, hq1⟩ := hq.form
                  have hq2 : uq = .slice aq1 0 cq1 := hq1
                  obtain ⟨ar1, cr1, hr1⟩ := hr.form
                  have hr2 : ur = .slice ar1 0 cr1 := hr1
                  subst hq2 hr2
                  clear hm hg hq hr hq1 hr1
                  go_wp2_with fail
                  with_reducible refine (C0.out _ HXX.out).mono ?_
                  rintro e w5 ⟨yq, yr, rfl, hq, hr, hx⟩
                  have HK := hid (cells4_on' hx HK.out)
                  have HXX := hid (HXX.out.trans hx)
                  have HMm := hid (HMm.out.ext hx)
                  obtain ⟨aq2, cq2, rfl⟩ := hq.form
                  obtain ⟨ar2, cr2, rfl⟩ := hr.form
                  clear hq hr hx
                  obtain ⟨j0, j1, j2, j3⟩ := HK.out
                  have L0 := fun Y : Later w5 => Y.h.cell j0
                  go_wp2
                  refine wp_region_later (by kernel_rfl) (by kernel_rfl) ?_
                  repeat (go_big_quiet_step (first | (go_at_call 31; exact Later.done (fuel12 (HMm.out.ext (Later.h _))))))
                  refine wpQuiet_nil ?_
                  intro w6 hx
                  have HK := hid (cells4_on' hx HK.out)
                  have HXX := hid (HXX.out.trans hx)
                  have HMm := hid (HMm.out.ext hx)
                  clear hx L0
                  go_wp2_with fail
                  with_reducible refine (need12 HMm.out).mono ?_
                  rintro e w7 ⟨rfl, hx⟩
                  have HK := hid (cells4_on' hx HK.out)
                  have HXX := hid (HXX.out.trans hx)
                  have HMm := hid (HMm.out.ext hx)
                  clear hx
                  rw [← HNN.out]
                  have HKS := hid (HMm.out.block rfl)
                  have HA1 := hid (Ext.alloc (Ext.refl w7) (.cells #[.int .i64 rs.wh, .int .i64 nn] 59))
                  obtain ⟨j0, j1, j2, j3⟩ := cells4_on' HA1.out HK.out
                  go_wp2_with fail
                  with_reducible refine (HNW2.out _).mono ?_
                  rintro e w8 ⟨k2, rfl, hk, hm, hx⟩
                  have hxb : Ext w7 w8 := (((Ext.refl w7).alloc _).alloc _).trans hx
                  have HBK := hid HXX.out.size
                  have HXX : Hid (Ext w w8) := hid (HXX.out.trans hxb)
                  have HMm := hid (HMm.out.ext hxb)
                  have n0 : w8.cell? ⟨w7.heap.size, 0, none⟩ = some (.int .i64 rs.wh) := hx.cell (cell_old _ (cell_new _ _ _ rfl rfl))
                  have n1 : w8.cell? ⟨w7.heap.size, 1, none⟩ = some (.int .i64 nn) := hx.cell (cell_old _ (cell_new _ _ _ rfl rfl))
                  have HN01 := hid (And.intro n0 n1)
                  have HM2 := hid (some_mv hm HOK2.out)
                  have HK2 : Hid (w.heap.size ≤ k2 ∧ w7.heap.size < k2 ∧ k < w7.heap.size) := hid ⟨by have h1 : _ ≤ k2 := hk; rw [size_alloc, size_alloc] at h1; have := HBK.out; omega, by have h1 : _ ≤ k2 := hk; rw [size_alloc, size_alloc] at h1; omega, HKS.out⟩
                  clear hk hm hx hxb n0 n1 j0 j1 j2 j3
                  go_wp2_with fail
                  with_reducible refine (C2.out _ k2 HM2.out HXX.out HK2.out.1).mono ?_
                  rintro e w9 ⟨uq2, ur2, rfl, hm, hg, hq, hr⟩
                  have HXX := hid (ext_gb HXX.out hg (fun b hb => by cases hb; exact HK2.out.1))
                  have HMm := hid (HMm.out.grown hg (fun b hb e => by cases hb; have := Option.some.inj e; have := HK2.out.2; omega))
                  have eb := hg.block w7.heap.size (lt_of_cell HN01.out.1) (fun e => by have := Option.some.inj e; have := HK2.out.2.1; omega)
                  have n0 := (World.cell?_of_block eb).trans HN01.out.1
                  have n1 := (World.cell?_of_block eb).trans HN01.out.2
                  have HM2 := hid hm
                  obtain ⟨aq4, cq4, rfl⟩ := hq.form
                  obtain ⟨ar4, cr4, rfl⟩ := hr.form
                  have HE2 := hid (divD_o (o := some k2) (r := some 0) ⟨fun h => (by cases h), fun h => (by cases h)⟩ true (MSt.new nn b c d) F G x)
                  have HQQ := hid (HQ0.out k2)
                  obtain ⟨R3, hR3⟩ : ∃ R, R = divD (some k2) true (MSt.new nn b c d) F G x := ⟨_, rfl⟩
                  have HR3 := hid hR3
                  rw [← hR3] at HM2 HE2 ⊢
                  have HQQ : Hid (R3.e = 9 → nn < R3.s.nn) := hid (fun he => HQQ.out R3.s (by rw [hR3]) (by rw [← hR3]; exact he) HMAY2.out)
                  obtain ⟨e3, he3⟩ : ∃ n, n = R3.e := ⟨_, rfl⟩
                  obtain ⟨n3, hn3⟩ : ∃ n, n = R3.n := ⟨_, rfl⟩
                  obtain ⟨s3, hs3⟩ : ∃ n, n = R3.s := ⟨_, rfl⟩
                  obtain ⟨l3, hl3⟩ : ∃ n, n = (ofP R3.q).length := ⟨_, rfl⟩
                  obtain ⟨l4, hl4⟩ : ∃ n, n = (ofP R3.r).length := ⟨_, rfl⟩
                  rw [← he3, ← hn3, ← hl3, ← hl4]
                  rw [← hs3] at HM2 HQQ
                  rw [← he3] at HQQ
                  have HZE : Hid (e3 = (divD (some 0) true (MSt.new nn b c d) F G x).e) := hid (by rw [he3, HE2.out])
                  clear hm hg hq hr eb hR3 he3 hn3 hs3 hl3 hl4 HE2
                  have q11 : (e3 != 9) = true := by rw [bne_iff_ne]; intro h; exact HZ.out (HZE.out.symm.trans h)
                  have L0 := fun Y : Later w9 => Y.h.cell n0
                  have L1 := fun Y : Later w9 => Y.h.cell n1
                  go_wp2
                  refine wp_region_later (by kernel_rfl) (by kernel_rfl) ?_
                  repeat (go_big_quiet_step (first | (go_at_call 33; exact Later.done (need12 (HM2.out.ext (Later.h _)))) | (go_at_call 31; exact Later.done (fuel12 (HM2.out.ext (Later.h _)))) | (go_at_call 31; exact Later.done (fuel12 (HMm.out.ext (Later.h _)))) | (go_at_call 13; exact Later.done (law12_known _))))
                  refine wpQuiet_nil ?_
                  intro w10 hx
                  have HXX := hid (HXX.out.trans hx)
                  clear hx L0 L1
                  go_wp2
                  all_goals
                    go_ret
                    exact ⟨rfl, HXX.out⟩
              · have HNW2 := hid (fun (W : World) => new_no12 (W := W) hmay2)
                clear hmay2
                go_enter Tryz.func6, Tryz.ntmps6
                go_wp2_with fail
                with_reducible refine (HCG.out _ HXX.out).mono ?_
                rintro e w1 ⟨rfl, hx⟩
                have HK := hid (cells4_on' hx HK.out)
                have HXX := hid (HXX.out.trans hx)
                clear hx
                go_wp2_with fail
                with_reducible refine (HCH.out _ HXX.out).mono ?_
                rintro e w2 ⟨rfl, hx⟩
                have HK := hid (cells4_on' hx HK.out)
                have HXX := hid (HXX.out.trans hx)
                clear hx
                obtain ⟨j0, j1, j2, j3⟩ := HK.out
                have HBASE := hid HXX.out.size
                have HLT := hid (lt_of_cell j0)
                go_wp2_with fail
                with_reducible refine (HNW.out _).mono ?_
                rintro e w3 ⟨k, rfl, hk, hm, hx⟩
                have HK := hid (cells4_on' hx HK.out)
                have HXX := hid (HXX.out.trans hx)
                have HMm := hid (some_mv hm HOKS.out)
                have HKB := hid (Nat.le_trans HBASE.out hk)
                have HKL : Hid (some w.heap.size ≠ some k) := hid (fun e => by have h1 := Option.some.inj e; have h2 := HLT.out; omega)
                clear hk hm hx j0 j1 j2 j3
                go_wp2_with fail
                with_reducible refine (HC1.out _ k HMm.out HXX.out HKB.out).mono ?_
                rintro e w4 ⟨uq, ur, rfl, hm, hg, hq, hr⟩
                have HK := hid (cells4_gb hg HKL.out HK.out)
                have HXX := hid (ext_gb HXX.out hg (fun b hb => by cases hb; exact HKB.out))
                have HMm : Hid (MV _ (some k) rs) := hid hm
                obtain ⟨aq1, cq1, hq1⟩ := hq.form
                have hq2 : uq = .slice aq1 0 cq1 := hq1
                obtain ⟨ar1, cr1, hr1⟩ := hr.form
                have hr2 : ur = .slice ar1 0 cr1 := hr1
                subst hq2 hr2
                clear hm hg hq hr hq1 hr1
                go_wp2_with fail
                with_reducible refine (C0.out _ HXX.out).mono ?_
                rintro e w5 ⟨yq, yr, rfl, hq, hr, hx⟩
                have HK := hid (cells4_on' hx HK.out)
                have HXX := hid (HXX.out.trans hx)
                have HMm := hid (HMm.out.ext hx)
                obtain ⟨aq2, cq2, rfl⟩ := hq.form
                obtain ⟨ar2, cr2, rfl⟩ := hr.form
                clear hq hr hx
                obtain ⟨j0, j1, j2, j3⟩ := HK.out
                have L0 := fun Y : Later w5 => Y.h.cell j0
                go_wp2
                refine wp_region_later (by kernel_rfl) (by kernel_rfl) ?_
                repeat (go_big_quiet_step (first | (go_at_call 31; exact Later.done (fuel12 (HMm.out.ext (Later.h _))))))
                refine wpQuiet_nil ?_
                intro w6 hx
                have HK := hid (cells4_on' hx HK.out)
                have HXX := hid (HXX.out.trans hx)
                have HMm := hid (HMm.out.ext hx)
                clear hx L0
                go_wp2_with fail
                with_reducible refine (need12 HMm.out).mono ?_
                rintro e w7 ⟨rfl, hx⟩
                have HK := hid (cells4_on' hx HK.out)
                have HXX := hid (HXX.out.trans hx)
                have HMm := hid (HMm.out.ext hx)
                clear hx
                rw [← HNN.out]
                have HA1 := hid (Ext.alloc (Ext.refl w7) (.cells #[.int .i64 rs.wh, .int .i64 nn] 59))
                obtain ⟨j0, j1, j2, j3⟩ := cells4_on' HA1.out HK.out
                go_wp2_with fail
                with_reducible refine (HNW2.out _).mono ?_
                rintro e w8 ⟨rfl, hx⟩
                have HXX : Hid (Ext w w8) := hid (((HXX.out.alloc _).alloc _).trans hx)
                clear hx
                go_wp2_with fail
                with_reducible refine (law12_known _).mono ?_
                rintro e w9 ⟨rfl, hx⟩
                have HXX := hid (HXX.out.trans hx)
                clear hx
                go_wp2
                all_goals
                  go_ret
                  exact ⟨rfl, HXX.out⟩
            · have hre : re = 10 := h.1
              subst hre
              have hgt : b < nn := by rw [hnn]; exact h.2.2
              have HGT := hid hgt
              have HQ0 : Hid (∀ (k2 : Nat) (s : MSt), s = (divD (some k2) true (MSt.new a nn c d) F G x).s → (divD (some k2) true (MSt.new a nn c d) F G x).e = 10 → mayLimits a nn c d → nn < s.nn) := hid (fun k2 s hs he hm => by
                subst hs
                have M2 := met12 (k := k2) hm F G x
                rcases M2.errs with g | g | g | g | g
                · rw [he] at g; exact absurd g (by decide)
                · rw [he] at g; exact absurd g (by decide)
                · have g1 := g.1; rw [he] at g1; exact absurd g1 (by decide)
                · have g1 := g.1; rw [he] at g1; exact g.2.2
                · have g1 := g.1; rw [he] at g1; exact absurd g1 (by decide))
              clear hM hM1 h hgt hne q2 q3 q4 hwh hnn
              by_cases hmay2 : mayLimits a nn c d
              · have HNW2 := hid (fun (W : World) => new_yes12 (W := W) hmay2)
                have HMAY2 := hid hmay2
                have HOK2 := hid (new_okS hmay2)
                have C2 : Hid (∀ (W : World) (k : Nat), MV W (some k) (MSt.new a nn c d) → Ext w W → w.heap.size ≤ k → Calls Tryz.prog 15 #[.pointer (some ⟨k, 0, none⟩), _, _, .int .i64 x] W (DividePost W (some k) (divD (some k) true (MSt.new a nn c d) F G x))) := hid (fun W k hm hW hk => div12_z hm HPS.out HQS.out hW (fun b hb => by cases hb; exact hk) HFF.out HEF.out HFG.out HX1.out HDD.out)
                clear hmay2
                by_cases hz : (divD (some 0) true (MSt.new a nn c d) F G x).e = 10
                · have HZ := hid hz
                  clear hz
                  go_enter Tryz.func6, Tryz.ntmps6
                  go_wp2_with fail
                  with_reducible refine (HCG.out _ HXX.out).mono ?_
                  rintro e w1 ⟨rfl, hx⟩
                  have HK := hid (cells4_on' hx HK.out)
                  have HXX := hid (HXX.out.trans hx)
                  clear hx
                  go_wp2_with fail
                  with_reducible refine (HCH.out _ HXX.out).mono ?_
                  rintro e w2 ⟨rfl, hx⟩
                  have HK := hid (cells4_on' hx HK.out)
                  have HXX := hid (HXX.out.trans hx)
                  clear hx
                  obtain ⟨j0, j1, j2, j3⟩ := HK.out
                  have HBASE := hid HXX.out.size
                  have HLT := hid (lt_of_cell j0)
                  go_wp2_with fail
                  with_reducible refine (HNW.out _).mono ?_
                  rintro e w3 ⟨k, rfl, hk, hm, hx⟩
                  have HK := hid (cells4_on' hx HK.out)
                  have HXX := hid (HXX.out.trans hx)
                  have HMm := hid (some_mv hm HOKS.out)
                  have HKB := hid (Nat.le_trans HBASE.out hk)
                  have HKL : Hid (some w.heap.size ≠ some k) := hid (fun e => by have h1 := Option.some.inj e; have h2 := HLT.out; omega)
                  clear hk hm hx j0 j1 j2 j3
                  go_wp2_with fail
                  with_reducible refine (HC1.out _ k HMm.out HXX.out HKB.out).mono ?_
                  rintro e w4 ⟨uq, ur, rfl, hm, hg, hq, hr⟩
                  have HK := hid (cells4_gb hg HKL.out HK.out)
                  have HXX := hid (ext_gb HXX.out hg (fun b hb => by cases hb; exact HKB.out))
                  have HMm : Hid (MV _ (some k) rs) := hid hm
                  obtain ⟨aq1, cq1, hq1⟩ := hq.form
                  have hq2 : uq = .slice aq1 0 cq1 := hq1
                  obtain ⟨ar1, cr1, hr1⟩ := hr.form
                  have hr2 : ur = .slice ar1 0 cr1 := hr1
                  subst hq2 hr2
                  clear hm hg hq hr hq1 hr1
                  go_wp2_with fail
                  with_reducible refine (C0.out _ HXX.out).mono ?_
                  rintro e w5 ⟨yq, yr, rfl, hq, hr, hx⟩
                  have HK := hid (cells4_on' hx HK.out)
                  have HXX := hid (HXX.out.trans hx)
                  have HMm := hid (HMm.out.ext hx)
                  obtain ⟨aq2, cq2, rfl⟩ := hq.form
                  obtain ⟨ar2, cr2, rfl⟩ := hr.form
                  clear hq hr hx
                  obtain ⟨j0, j1, j2, j3⟩ := HK.out
                  have L0 := fun Y : Later w5 => Y.h.cell j0
                  go_wp2
                  refine wp_region_later (by kernel_rfl) (by kernel_rfl) ?_
                  repeat (go_big_quiet_step (first | (go_at_call 31; exact Later.done (fuel12 (HMm.out.ext (Later.h _))))))
                  refine wpQuiet_nil ?_
                  intro w6 hx
                  have HK := hid (cells4_on' hx HK.out)
                  have HXX := hid (HXX.out.trans hx)
                  have HMm := hid (HMm.out.ext hx)
                  clear hx L0
                  go_wp2_with fail
                  with_reducible refine (need12 HMm.out).mono ?_
                  rintro e w7 ⟨rfl, hx⟩
                  have HK := hid (cells4_on' hx HK.out)
                  have HXX := hid (HXX.out.trans hx)
                  have HMm := hid (HMm.out.ext hx)
                  clear hx
                  rw [← HNN.out]
                  have HKS := hid (HMm.out.block rfl)
                  have HA1 := hid (Ext.alloc (Ext.refl w7) (.cells #[.int .i64 rs.wh, .int .i64 nn] 59))
                  obtain ⟨j0, j1, j2, j3⟩ := cells4_on' HA1.out HK.out
                  go_wp2_with fail
                  with_reducible refine (HNW2.out _).mono ?_
                  rintro e w8 ⟨k2, rfl, hk, hm, hx⟩
                  have hxb : Ext w7 w8 := (((Ext.refl w7).alloc _).alloc _).trans hx
                  have HBK := hid HXX.out.size
                  have HXX : Hid (Ext w w8) := hid (HXX.out.trans hxb)
                  have HMm := hid (HMm.out.ext hxb)
                  have n0 : w8.cell? ⟨w7.heap.size, 0, none⟩ = some (.int .i64 rs.wh) := hx.cell (cell_old _ (cell_new _ _ _ rfl rfl))
                  have n1 : w8.cell? ⟨w7.heap.size, 1, none⟩ = some (.int .i64 nn) := hx.cell (cell_old _ (cell_new _ _ _ rfl rfl))
                  have HN01 := hid (And.intro n0 n1)
                  have HM2 := hid (some_mv hm HOK2.out)
                  have HK2 : Hid (w.heap.size ≤ k2 ∧ w7.heap.size < k2 ∧ k < w7.heap.size) := hid ⟨by have h1 : _ ≤ k2 := hk; rw [size_alloc, size_alloc] at h1; have := HBK.out; omega, by have h1 : _ ≤ k2 := hk; rw [size_alloc, size_alloc] at h1; omega, HKS.out⟩
                  clear hk hm hx hxb n0 n1 j0 j1 j2 j3
                  go_wp2_with fail
                  with_reducible refine (C2.out _ k2 HM2.out HXX.out HK2.out.1).mono ?_
                  rintro e w9 ⟨uq2, ur2, rfl, hm, hg, hq, hr⟩
                  have HXX := hid (ext_gb HXX.out hg (fun b hb => by cases hb; exact HK2.out.1))
                  have HMm := hid (HMm.out.grown hg (fun b hb e => by cases hb; have := Option.some.inj e; have := HK2.out.2; omega))
                  have eb := hg.block w7.heap.size (lt_of_cell HN01.out.1) (fun e => by have := Option.some.inj e; have := HK2.out.2.1; omega)
                  have n0 := (World.cell?_of_block eb).trans HN01.out.1
                  have n1 := (World.cell?_of_block eb).trans HN01.out.2
                  have HM2 := hid hm
                  obtain ⟨aq4, cq4, rfl⟩ := hq.form
                  obtain ⟨ar4, cr4, rfl⟩ := hr.form
                  have HE2 := hid (divD_o (o := some k2) (r := some 0) ⟨fun h => (by cases h), fun h => (by cases h)⟩ true (MSt.new a nn c d) F G x)
                  have HQQ := hid (HQ0.out k2)
                  obtain ⟨R3, hR3⟩ : ∃ R, R = divD (some k2) true (MSt.new a nn c d) F G x := ⟨_, rfl⟩
                  have HR3 := hid hR3
                  rw [← hR3] at HM2 HE2 ⊢
                  have HQQ : Hid (R3.e = 10 → nn < R3.s.nn) := hid (fun he => HQQ.out R3.s (by rw [hR3]) (by rw [← hR3]; exact he) HMAY2.out)
                  obtain ⟨e3, he3⟩ : ∃ n, n = R3.e := ⟨_, rfl⟩
                  obtain ⟨n3, hn3⟩ : ∃ n, n = R3.n := ⟨_, rfl⟩
                  obtain ⟨s3, hs3⟩ : ∃ n, n = R3.s := ⟨_, rfl⟩
                  obtain ⟨l3, hl3⟩ : ∃ n, n = (ofP R3.q).length := ⟨_, rfl⟩
                  obtain ⟨l4, hl4⟩ : ∃ n, n = (ofP R3.r).length := ⟨_, rfl⟩
                  rw [← he3, ← hn3, ← hl3, ← hl4]
                  rw [← hs3] at HM2 HQQ
                  rw [← he3] at HQQ
                  have HZE : Hid (e3 = (divD (some 0) true (MSt.new a nn c d) F G x).e) := hid (by rw [he3, HE2.out])
                  clear hm hg hq hr eb hR3 he3 hn3 hs3 hl3 hl4 HE2
                  have he : e3 = 10 := HZE.out.trans HZ.out
                  subst he
                  have hq10 := HQQ.out rfl
                  have q10 : decide (nn < s3.nn) = true := decide_eq_true hq10
                  have q11 : (((10 : Int)) != 10) = false := by decide
                  clear hq10
                  have L0 := fun Y : Later w9 => Y.h.cell n0
                  have L1 := fun Y : Later w9 => Y.h.cell n1
                  go_wp2
                  refine wp_region_later (by kernel_rfl) (by kernel_rfl) ?_
                  repeat (go_big_quiet_step (first | (go_at_call 33; exact Later.done (need12 (HM2.out.ext (Later.h _)))) | (go_at_call 31; exact Later.done (fuel12 (HM2.out.ext (Later.h _)))) | (go_at_call 31; exact Later.done (fuel12 (HMm.out.ext (Later.h _)))) | (go_at_call 13; exact Later.done (law12_known _))))
                  refine wpQuiet_nil ?_
                  intro w10 hx
                  have HXX := hid (HXX.out.trans hx)
                  clear hx L0 L1
                  go_wp2
                  all_goals
                    go_ret
                    exact ⟨rfl, HXX.out⟩
                · have HZ := hid hz
                  clear hz
                  go_enter Tryz.func6, Tryz.ntmps6
                  go_wp2_with fail
                  with_reducible refine (HCG.out _ HXX.out).mono ?_
                  rintro e w1 ⟨rfl, hx⟩
                  have HK := hid (cells4_on' hx HK.out)
                  have HXX := hid (HXX.out.trans hx)
                  clear hx
                  go_wp2_with fail
                  with_reducible refine (HCH.out _ HXX.out).mono ?_
                  rintro e w2 ⟨rfl, hx⟩
                  have HK := hid (cells4_on' hx HK.out)
                  have HXX := hid (HXX.out.trans hx)
                  clear hx
                  obtain ⟨j0, j1, j2, j3⟩ := HK.out
                  have HBASE := hid HXX.out.size
                  have HLT := hid (lt_of_cell j0)
                  go_wp2_with fail
                  with_reducible refine (HNW.out _).mono ?_
                  rintro e w3 ⟨k, rfl, hk, hm, hx⟩
                  have HK := hid (cells4_on' hx HK.out)
                  have HXX := hid (HXX.out.trans hx)
                  have HMm := hid (some_mv hm HOKS.out)
                  have HKB := hid (Nat.le_trans HBASE.out hk)
                  have HKL : Hid (some w.heap.size ≠ some k) := hid (fun e => by have h1 := Option.some.inj e; have h2 := HLT.out; omega)
                  clear hk hm hx j0 j1 j2 j3
                  go_wp2_with fail
                  with_reducible refine (HC1.out _ k HMm.out HXX.out HKB.out).mono ?_
                  rintro e w4 ⟨uq, ur, rfl, hm, hg, hq, hr⟩
                  have HK := hid (cells4_gb hg HKL.out HK.out)
                  have HXX := hid (ext_gb HXX.out hg (fun b hb => by cases hb; exact HKB.out))
                  have HMm : Hid (MV _ (some k) rs) := hid hm
                  obtain ⟨aq1, cq1, hq1⟩ := hq.form
                  have hq2 : uq = .slice aq1 0 cq1 := hq1
                  obtain ⟨ar1, cr1, hr1⟩ := hr.form
                  have hr2 : ur = .slice ar1 0 cr1 := hr1
                  subst hq2 hr2
                  clear hm hg hq hr hq1 hr1
                  go_wp2_with fail
                  with_reducible refine (C0.out _ HXX.out).mono ?_
                  rintro e w5 ⟨yq, yr, rfl, hq, hr, hx⟩
                  have HK := hid (cells4_on' hx HK.out)
                  have HXX := hid (HXX.out.trans hx)
                  have HMm := hid (HMm.out.ext hx)
                  obtain ⟨aq2, cq2, rfl⟩ := hq.form
                  obtain ⟨ar2, cr2, rfl⟩ := hr.form
                  clear hq hr hx
                  obtain ⟨j0, j1, j2, j3⟩ := HK.out
                  have L0 := fun Y : Later w5 => Y.h.cell j0
                  go_wp2
                  refine wp_region_later (by kernel_rfl) (by kernel_rfl) ?_
                  repeat (go_big_quiet_step (first | (go_at_call 31; exact Later.done (fuel12 (HMm.out.ext (Later.h _))))))
                  refine wpQuiet_nil ?_
                  intro w6 hx
                  have HK := hid (cells4_on' hx HK.out)
                  have HXX := hid (HXX.out.trans hx)
                  have HMm := hid (HMm.out.ext hx)
                  clear hx L0
                  go_wp2_with fail
                  with_reducible refine (need12 HMm.out).mono ?_
                  rintro e w7 ⟨rfl, hx⟩
                  have HK := hid (cells4_on' hx HK.out)
                  have HXX := hid (HXX.out.trans hx)
                  have HMm := hid (HMm.out.ext hx)
                  clear hx
                  rw [← HNN.out]
                  have HKS := hid (HMm.out.block rfl)
                  have HA1 := hid (Ext.alloc (Ext.refl w7) (.cells #[.int .i64 rs.wh, .int .i64 nn] 59))
                  obtain ⟨j0, j1, j2, j3⟩ := cells4_on' HA1.out HK.out
                  go_wp2_with fail
                  with_reducible refine (HNW2.out _).mono ?_
                  rintro e w8 ⟨k2, rfl, hk, hm, hx⟩
                  have hxb : Ext w7 w8 := (((Ext.refl w7).alloc _).alloc _).trans hx
                  have HBK := hid HXX.out.size
                  have HXX : Hid (Ext w w8) := hid (HXX.out.trans hxb)
                  have HMm := hid (HMm.out.ext hxb)
                  have n0 : w8.cell? ⟨w7.heap.size, 0, none⟩ = some (.int .i64 rs.wh) := hx.cell (cell_old _ (cell_new _ _ _ rfl rfl))
                  have n1 : w8.cell? ⟨w7.heap.size, 1, none⟩ = some (.int .i64 nn) := hx.cell (cell_old _ (cell_new _ _ _ rfl rfl))
                  have HN01 := hid (And.intro n0 n1)
                  have HM2 := hid (some_mv hm HOK2.out)
                  have HK2 : Hid (w.heap.size ≤ k2 ∧ w7.heap.size < k2 ∧ k < w7.heap.size) := hid ⟨by have h1 : _ ≤ k2 := hk; rw [size_alloc, size_alloc] at h1; have := HBK.out; omega, by have h1 : _ ≤ k2 := hk; rw [size_alloc, size_alloc] at h1; omega, HKS.out⟩
                  clear hk hm hx hxb n0 n1 j0 j1 j2 j3
                  go_wp2_with fail
                  with_reducible refine (C2.out _ k2 HM2.out HXX.out HK2.out.1).mono ?_
                  rintro e w9 ⟨uq2, ur2, rfl, hm, hg, hq, hr⟩
                  have HXX := hid (ext_gb HXX.out hg (fun b hb => by cases hb; exact HK2.out.1))
                  have HMm := hid (HMm.out.grown hg (fun b hb e => by cases hb; have := Option.some.inj e; have := HK2.out.2; omega))
                  have eb := hg.block w7.heap.size (lt_of_cell HN01.out.1) (fun e => by have := Option.some.inj e; have := HK2.out.2.1; omega)
                  have n0 := (World.cell?_of_block eb).trans HN01.out.1
                  have n1 := (World.cell?_of_block eb).trans HN01.out.2
                  have HM2 := hid hm
                  obtain ⟨aq4, cq4, rfl⟩ := hq.form
                  obtain ⟨ar4, cr4, rfl⟩ := hr.form
                  have HE2 := hid (divD_o (o := some k2) (r := some 0) ⟨fun h => (by cases h), fun h => (by cases h)⟩ true (MSt.new a nn c d) F G x)
                  have HQQ := hid (HQ0.out k2)
                  obtain ⟨R3, hR3⟩ : ∃ R, R = divD (some k2) true (MSt.new a nn c d) F G x := ⟨_, rfl⟩
                  have HR3 := hid hR3
                  rw [← hR3] at HM2 HE2 ⊢
                  have HQQ : Hid (R3.e = 10 → nn < R3.s.nn) := hid (fun he => HQQ.out R3.s (by rw [hR3]) (by rw [← hR3]; exact he) HMAY2.out)
                  obtain ⟨e3, he3⟩ : ∃ n, n = R3.e := ⟨_, rfl⟩
                  obtain ⟨n3, hn3⟩ : ∃ n, n = R3.n := ⟨_, rfl⟩
                  obtain ⟨s3, hs3⟩ : ∃ n, n = R3.s := ⟨_, rfl⟩
                  obtain ⟨l3, hl3⟩ : ∃ n, n = (ofP R3.q).length := ⟨_, rfl⟩
                  obtain ⟨l4, hl4⟩ : ∃ n, n = (ofP R3.r).length := ⟨_, rfl⟩
                  rw [← he3, ← hn3, ← hl3, ← hl4]
                  rw [← hs3] at HM2 HQQ
                  rw [← he3] at HQQ
                  have HZE : Hid (e3 = (divD (some 0) true (MSt.new a nn c d) F G x).e) := hid (by rw [he3, HE2.out])
                  clear hm hg hq hr eb hR3 he3 hn3 hs3 hl3 hl4 HE2
                  have q11 : (e3 != 10) = true := by rw [bne_iff_ne]; intro h; exact HZ.out (HZE.out.symm.trans h)
                  have L0 := fun Y : Later w9 => Y.h.cell n0
                  have L1 := fun Y : Later w9 => Y.h.cell n1
                  go_wp2
                  refine wp_region_later (by kernel_rfl) (by kernel_rfl) ?_
                  repeat (go_big_quiet_step (first | (go_at_call 33; exact Later.done (need12 (HM2.out.ext (Later.h _)))) | (go_at_call 31; exact Later.done (fuel12 (HM2.out.ext (Later.h _)))) | (go_at_call 31; exact Later.done (fuel12 (HMm.out.ext (Later.h _)))) | (go_at_call 13; exact Later.done (law12_known _))))
                  refine wpQuiet_nil ?_
                  intro w10 hx
                  have HXX := hid (HXX.out.trans hx)
                  clear hx L0 L1
                  go_wp2
                  all_goals
                    go_ret
                    exact ⟨rfl, HXX.out⟩
              · have HNW2 := hid (fun (W : World) => new_no12 (W := W) hmay2)
                clear hmay2
                go_enter Tryz.func6, Tryz.ntmps6
                go_wp2_with fail
                with_reducible refine (HCG.out _ HXX.out).mono ?_
                rintro e w1 ⟨rfl, hx⟩
                have HK := hid (cells4_on' hx HK.out)
                have HXX := hid (HXX.out.trans hx)
                clear hx
                go_wp2_with fail
                with_reducible refine (HCH.out _ HXX.out).mono ?_
                rintro e w2 ⟨rfl, hx⟩
                have HK := hid (cells4_on' hx HK.out)
                have HXX := hid (HXX.out.trans hx)
                clear hx
                obtain ⟨j0, j1, j2, j3⟩ := HK.out
                have HBASE := hid HXX.out.size
                have HLT := hid (lt_of_cell j0)
                go_wp2_with fail
                with_reducible refine (HNW.out _).mono ?_
                rintro e w3 ⟨k, rfl, hk, hm, hx⟩
                have HK := hid (cells4_on' hx HK.out)
                have HXX := hid (HXX.out.trans hx)
                have HMm := hid (some_mv hm HOKS.out)
                have HKB := hid (Nat.le_trans HBASE.out hk)
                have HKL : Hid (some w.heap.size ≠ some k) := hid (fun e => by have h1 := Option.some.inj e; have h2 := HLT.out; omega)
                clear hk hm hx j0 j1 j2 j3
                go_wp2_with fail
                with_reducible refine (HC1.out _ k HMm.out HXX.out HKB.out).mono ?_
                rintro e w4 ⟨uq, ur, rfl, hm, hg, hq, hr⟩
                have HK := hid (cells4_gb hg HKL.out HK.out)
                have HXX := hid (ext_gb HXX.out hg (fun b hb => by cases hb; exact HKB.out))
                have HMm : Hid (MV _ (some k) rs) := hid hm
                obtain ⟨aq1, cq1, hq1⟩ := hq.form
                have hq2 : uq = .slice aq1 0 cq1 := hq1
                obtain ⟨ar1, cr1, hr1⟩ := hr.form
                have hr2 : ur = .slice ar1 0 cr1 := hr1
                subst hq2 hr2
                clear hm hg hq hr hq1 hr1
                go_wp2_with fail
                with_reducible refine (C0.out _ HXX.out).mono ?_
                rintro e w5 ⟨yq, yr, rfl, hq, hr, hx⟩
                have HK := hid (cells4_on' hx HK.out)
                have HXX := hid (HXX.out.trans hx)
                have HMm := hid (HMm.out.ext hx)
                obtain ⟨aq2, cq2, rfl⟩ := hq.form
                obtain ⟨ar2, cr2, rfl⟩ := hr.form
                clear hq hr hx
                obtain ⟨j0, j1, j2, j3⟩ := HK.out
                have L0 := fun Y : Later w5 => Y.h.cell j0
                go_wp2
                refine wp_region_later (by kernel_rfl) (by kernel_rfl) ?_
                repeat (go_big_quiet_step (first | (go_at_call 31; exact Later.done (fuel12 (HMm.out.ext (Later.h _))))))
                refine wpQuiet_nil ?_
                intro w6 hx
                have HK := hid (cells4_on' hx HK.out)
                have HXX := hid (HXX.out.trans hx)
                have HMm := hid (HMm.out.ext hx)
                clear hx L0
                go_wp2_with fail
                with_reducible refine (need12 HMm.out).mono ?_
                rintro e w7 ⟨rfl, hx⟩
                have HK := hid (cells4_on' hx HK.out)
                have HXX := hid (HXX.out.trans hx)
                have HMm := hid (HMm.out.ext hx)
                clear hx
                rw [← HNN.out]
                have HA1 := hid (Ext.alloc (Ext.refl w7) (.cells #[.int .i64 rs.wh, .int .i64 nn] 59))
                obtain ⟨j0, j1, j2, j3⟩ := cells4_on' HA1.out HK.out
                go_wp2_with fail
                with_reducible refine (HNW2.out _).mono ?_
                rintro e w8 ⟨rfl, hx⟩
                have HXX : Hid (Ext w w8) := hid (((HXX.out.alloc _).alloc _).trans hx)
                clear hx
                go_wp2_with fail
                with_reducible refine (law12_known _).mono ?_
                rintro e w9 ⟨rfl, hx⟩
                have HXX := hid (HXX.out.trans hx)
                clear hx
                go_wp2
                all_goals
                  go_ret
                  exact ⟨rfl, HXX.out⟩
            · have hre : re = 11 := h.1
              subst hre
              have hgt : c < nn := by rw [hnn]; exact h.2.2
              have HGT := hid hgt
              have HQ0 : Hid (∀ (k2 : Nat) (s : MSt), s = (divD (some k2) true (MSt.new a b nn d) F G x).s → (divD (some k2) true (MSt.new a b nn d) F G x).e = 11 → mayLimits a b nn d → nn < s.nn) := hid (fun k2 s hs he hm => by
                subst hs
                have M2 := met12 (k := k2) hm F G x
                rcases M2.errs with g | g | g | g | g
                · rw [he] at g; exact absurd g (by decide)
                · rw [he] at g; exact absurd g (by decide)
                · have g1 := g.1; rw [he] at g1; exact absurd g1 (by decide)
                · have g1 := g.1; rw [he] at g1; exact absurd g1 (by decide)
                · have g1 := g.1; rw [he] at g1; exact g.2.2)
              clear hM hM1 h hgt hne q2 q3 q4 hwh hnn
              by_cases hmay2 : mayLimits a b nn d
              · have HNW2 := hid (fun (W : World) => new_yes12 (W := W) hmay2)
                have HMAY2 := hid hmay2
                have HOK2 := hid (new_okS hmay2)
                have C2 : Hid (∀ (W : World) (k : Nat), MV W (some k) (MSt.new a b nn d) → Ext w W → w.heap.size ≤ k → Calls Tryz.prog 15 #[.pointer (some ⟨k, 0, none⟩), _, _, .int .i64 x] W (DividePost W (some k) (divD (some k) true (MSt.new a b nn d) F G x))) := hid (fun W k hm hW hk => div12_z hm HPS.out HQS.out hW (fun b hb => by cases hb; exact hk) HFF.out HEF.out HFG.out HX1.out HDD.out)
                clear hmay2
                by_cases hz : (divD (some 0) true (MSt.new a b nn d) F G x).e = 11
                · have HZ := hid hz
                  clear hz
                  go_enter Tryz.func6, Tryz.ntmps6
                  go_wp2_with fail
                  with_reducible refine (HCG.out _ HXX.out).mono ?_
                  rintro e w1 ⟨rfl, hx⟩
                  have HK := hid (cells4_on' hx HK.out)
                  have HXX := hid (HXX.out.trans hx)
                  clear hx
                  go_wp2_with fail
                  with_reducible refine (HCH.out _ HXX.out).mono ?_
                  rintro e w2 ⟨rfl, hx⟩
                  have HK := hid (cells4_on' hx HK.out)
                  have HXX := hid (HXX.out.trans hx)
                  clear hx
                  obtain ⟨j0, j1, j2, j3⟩ := HK.out
                  have HBASE := hid HXX.out.size
                  have HLT := hid (lt_of_cell j0)
                  go_wp2_with fail
                  with_reducible refine (HNW.out _).mono ?_
                  rintro e w3 ⟨k, rfl, hk, hm, hx⟩
                  have HK := hid (cells4_on' hx HK.out)
                  have HXX := hid (HXX.out.trans hx)
                  have HMm := hid (some_mv hm HOKS.out)
                  have HKB := hid (Nat.le_trans HBASE.out hk)
                  have HKL : Hid (some w.heap.size ≠ some k) := hid (fun e => by have h1 := Option.some.inj e; have h2 := HLT.out; omega)
                  clear hk hm hx j0 j1 j2 j3
                  go_wp2_with fail
                  with_reducible refine (HC1.out _ k HMm.out HXX.out HKB.out).mono ?_
                  rintro e w4 ⟨uq, ur, rfl, hm, hg, hq, hr⟩
                  have HK := hid (cells4_gb hg HKL.out HK.out)
                  have HXX := hid (ext_gb HXX.out hg (fun b hb => by cases hb; exact HKB.out))
                  have HMm : Hid (MV _ (some k) rs) := hid hm
                  obtain ⟨aq1, cq1, hq1⟩ := hq.form
                  have hq2 : uq = .slice aq1 0 cq1 := hq1
                  obtain ⟨ar1, cr1, hr1⟩ := hr.form
                  have hr2 : ur = .slice ar1 0 cr1 := hr1
                  subst hq2 hr2
                  clear hm hg hq hr hq1 hr1
                  go_wp2_with fail
                  with_reducible refine (C0.out _ HXX.out).mono ?_
                  rintro e w5 ⟨yq, yr, rfl, hq, hr, hx⟩
                  have HK := hid (cells4_on' hx HK.out)
                  have HXX := hid (HXX.out.trans hx)
                  have HMm := hid (HMm.out.ext hx)
                  obtain ⟨aq2, cq2, rfl⟩ := hq.form
                  obtain ⟨ar2, cr2, rfl⟩ := hr.form
                  clear hq hr hx
                  obtain ⟨j0, j1, j2, j3⟩ := HK.out
                  have L0 := fun Y : Later w5 => Y.h.cell j0
                  go_wp2
                  refine wp_region_later (by kernel_rfl) (by kernel_rfl) ?_
                  repeat (go_big_quiet_step (first | (go_at_call 31; exact Later.done (fuel12 (HMm.out.ext (Later.h _))))))
                  refine wpQuiet_nil ?_
                  intro w6 hx
                  have HK := hid (cells4_on' hx HK.out)
                  have HXX := hid (HXX.out.trans hx)
                  have HMm := hid (HMm.out.ext hx)
                  clear hx L0
                  go_wp2_with fail
                  with_reducible refine (need12 HMm.out).mono ?_
                  rintro e w7 ⟨rfl, hx⟩
                  have HK := hid (cells4_on' hx HK.out)
                  have HXX := hid (HXX.out.trans hx)
                  have HMm := hid (HMm.out.ext hx)
                  clear hx
                  rw [← HNN.out]
                  have HKS := hid (HMm.out.block rfl)
                  have HA1 := hid (Ext.alloc (Ext.refl w7) (.cells #[.int .i64 rs.wh, .int .i64 nn] 59))
                  obtain ⟨j0, j1, j2, j3⟩ := cells4_on' HA1.out HK.out
                  go_wp2_with fail
                  with_reducible refine (HNW2.out _).mono ?_
                  rintro e w8 ⟨k2, rfl, hk, hm, hx⟩
                  have hxb : Ext w7 w8 := (((Ext.refl w7).alloc _).alloc _).trans hx
                  have HBK := hid HXX.out.size
                  have HXX : Hid (Ext w w8) := hid (HXX.out.trans hxb)
                  have HMm := hid (HMm.out.ext hxb)
                  have n0 : w8.cell? ⟨w7.heap.size, 0, none⟩ = some (.int .i64 rs.wh) := hx.cell (cell_old _ (cell_new _ _ _ rfl rfl))
                  have n1 : w8.cell? ⟨w7.heap.size, 1, none⟩ = some (.int .i64 nn) := hx.cell (cell_old _ (cell_new _ _ _ rfl rfl))
                  have HN01 := hid (And.intro n0 n1)
                  have HM2 := hid (some_mv hm HOK2.out)
                  have HK2 : Hid (w.heap.size ≤ k2 ∧ w7.heap.size < k2 ∧ k < w7.heap.size) := hid ⟨by have h1 : _ ≤ k2 := hk; rw [size_alloc, size_alloc] at h1; have := HBK.out; omega, by have h1 : _ ≤ k2 := hk; rw [size_alloc, size_alloc] at h1; omega, HKS.out⟩
                  clear hk hm hx hxb n0 n1 j0 j1 j2 j3
                  go_wp2_with fail
                  with_reducible refine (C2.out _ k2 HM2.out HXX.out HK2.out.1).mono ?_
                  rintro e w9 ⟨uq2, ur2, rfl, hm, hg, hq, hr⟩
                  have HXX := hid (ext_gb HXX.out hg (fun b hb => by cases hb; exact HK2.out.1))
                  have HMm := hid (HMm.out.grown hg (fun b hb e => by cases hb; have := Option.some.inj e; have := HK2.out.2; omega))
                  have eb := hg.block w7.heap.size (lt_of_cell HN01.out.1) (fun e => by have := Option.some.inj e; have := HK2.out.2.1; omega)
                  have n0 := (World.cell?_of_block eb).trans HN01.out.1
                  have n1 := (World.cell?_of_block eb).trans HN01.out.2
                  have HM2 := hid hm
                  obtain ⟨aq4, cq4, rfl⟩ := hq.form
                  obtain ⟨ar4, cr4, rfl⟩ := hr.form
                  have HE2 := hid (divD_o (o := some k2) (r := some 0) ⟨fun h => (by cases h), fun h => (by cases h)⟩ true (MSt.new a b nn d) F G x)
                  have HQQ := hid (HQ0.out k2)
                  obtain ⟨R3, hR3⟩ : ∃ R, R = divD (some k2) true (MSt.new a b nn d) F G x := ⟨_, rfl⟩
                  have HR3 := hid hR3
                  rw [← hR3] at HM2 HE2 ⊢
                  have HQQ : Hid (R3.e = 11 → nn < R3.s.nn) := hid (fun he => HQQ.out R3.s (by rw [hR3]) (by rw [← hR3]; exact he) HMAY2.out)
                  obtain ⟨e3, he3⟩ : ∃ n, n = R3.e := ⟨_, rfl⟩
                  obtain ⟨n3, hn3⟩ : ∃ n, n = R3.n := ⟨_, rfl⟩
                  obtain ⟨s3, hs3⟩ : ∃ n, n = R3.s := ⟨_, rfl⟩
                  obtain ⟨l3, hl3⟩ : ∃ n, n = (ofP R3.q).length := ⟨_, rfl⟩
                  obtain ⟨l4, hl4⟩ : ∃ n, n = (ofP R3.r).length := ⟨_, rfl⟩
                  rw [← he3, ← hn3, ← hl3, ← hl4]
                  rw [← hs3] at HM2 HQQ
                  rw [← he3] at HQQ
                  have HZE : Hid (e3 = (divD (some 0) true (MSt.new a b nn d) F G x).e) := hid (by rw [he3, HE2.out])
                  clear hm hg hq hr eb hR3 he3 hn3 hs3 hl3 hl4 HE2
                  have he : e3 = 11 := HZE.out.trans HZ.out
                  subst he
                  have hq10 := HQQ.out rfl
                  have q10 : decide (nn < s3.nn) = true := decide_eq_true hq10
                  have q11 : (((11 : Int)) != 11) = false := by decide
                  clear hq10
                  have L0 := fun Y : Later w9 => Y.h.cell n0
                  have L1 := fun Y : Later w9 => Y.h.cell n1
                  go_wp2
                  refine wp_region_later (by kernel_rfl) (by kernel_rfl) ?_
                  repeat (go_big_quiet_step (first | (go_at_call 33; exact Later.done (need12 (HM2.out.ext (Later.h _)))) | (go_at_call 31; exact Later.done (fuel12 (HM2.out.ext (Later.h _)))) | (go_at_call 31; exact Later.done (fuel12 (HMm.out.ext (Later.h _)))) | (go_at_call 13; exact Later.done (law12_known _))))
                  refine wpQuiet_nil ?_
                  intro w10 hx
                  have HXX := hid (HXX.out.trans hx)
                  clear hx L0 L1
                  go_wp2
                  all_goals
                    go_ret
                    exact ⟨rfl, HXX.out⟩
                · have HZ := hid hz
                  clear hz
                  go_enter Tryz.func6, Tryz.ntmps6
                  go_wp2_with fail
                  with_reducible refine (HCG.out _ HXX.out).mono ?_
                  rintro e w1 ⟨rfl, hx⟩
                  have HK := hid (cells4_on' hx HK.out)
                  have HXX := hid (HXX.out.trans hx)
                  clear hx
                  go_wp2_with fail
                  with_reducible refine (HCH.out _ HXX.out).mono ?_
                  rintro e w2 ⟨rfl, hx⟩
                  have HK := hid (cells4_on' hx HK.out)
                  have HXX := hid (HXX.out.trans hx)
                  clear hx
                  obtain ⟨j0, j1, j2, j3⟩ := HK.out
                  have HBASE := hid HXX.out.size
                  have HLT := hid (lt_of_cell j0)
                  go_wp2_with fail
                  with_reducible refine (HNW.out _).mono ?_
                  rintro e w3 ⟨k, rfl, hk, hm, hx⟩
                  have HK := hid (cells4_on' hx HK.out)
                  have HXX := hid (HXX.out.trans hx)
                  have HMm := hid (some_mv hm HOKS.out)
                  have HKB := hid (Nat.le_trans HBASE.out hk)
                  have HKL : Hid (some w.heap.size ≠ some k) := hid (fun e => by have h1 := Option.some.inj e; have h2 := HLT.out; omega)
                  clear hk hm hx j0 j1 j2 j3
                  go_wp2_with fail
                  with_reducible refine (HC1.out _ k HMm.out HXX.out HKB.out).mono ?_
                  rintro e w4 ⟨uq, ur, rfl, hm, hg, hq, hr⟩
                  have HK := hid (cells4_gb hg HKL.out HK.out)
                  have HXX := hid (ext_gb HXX.out hg (fun b hb => by cases hb; exact HKB.out))
                  have HMm : Hid (MV _ (some k) rs) := hid hm
                  obtain ⟨aq1, cq1, hq1⟩ := hq.form
                  have hq2 : uq = .slice aq1 0 cq1 := hq1
                  obtain ⟨ar1, cr1, hr1⟩ := hr.form
                  have hr2 : ur = .slice ar1 0 cr1 := hr1
                  subst hq2 hr2
                  clear hm hg hq hr hq1 hr1
                  go_wp2_with fail
                  with_reducible refine (C0.out _ HXX.out).mono ?_
                  rintro e w5 ⟨yq, yr, rfl, hq, hr, hx⟩
                  have HK := hid (cells4_on' hx HK.out)
                  have HXX := hid (HXX.out.trans hx)
                  have HMm := hid (HMm.out.ext hx)
                  obtain ⟨aq2, cq2, rfl⟩ := hq.form
                  obtain ⟨ar2, cr2, rfl⟩ := hr.form
                  clear hq hr hx
                  obtain ⟨j0, j1, j2, j3⟩ := HK.out
                  have L0 := fun Y : Later w5 => Y.h.cell j0
                  go_wp2
                  refine wp_region_later (by kernel_rfl) (by kernel_rfl) ?_
                  repeat (go_big_quiet_step (first | (go_at_call 31; exact Later.done (fuel12 (HMm.out.ext (Later.h _))))))
                  refine wpQuiet_nil ?_
                  intro w6 hx
                  have HK := hid (cells4_on' hx HK.out)
                  have HXX := hid (HXX.out.trans hx)
                  have HMm := hid (HMm.out.ext hx)
                  clear hx L0
                  go_wp2_with fail
                  with_reducible refine (need12 HMm.out).mono ?_
                  rintro e w7 ⟨rfl, hx⟩
                  have HK := hid (cells4_on' hx HK.out)
                  have HXX := hid (HXX.out.trans hx)
                  have HMm := hid (HMm.out.ext hx)
                  clear hx
                  rw [← HNN.out]
                  have HKS := hid (HMm.out.block rfl)
                  have HA1 := hid (Ext.alloc (Ext.refl w7) (.cells #[.int .i64 rs.wh, .int .i64 nn] 59))
                  obtain ⟨j0, j1, j2, j3⟩ := cells4_on' HA1.out HK.out
                  go_wp2_with fail
                  with_reducible refine (HNW2.out _).mono ?_
                  rintro e w8 ⟨k2, rfl, hk, hm, hx⟩
                  have hxb : Ext w7 w8 := (((Ext.refl w7).alloc _).alloc _).trans hx
                  have HBK := hid HXX.out.size
                  have HXX : Hid (Ext w w8) := hid (HXX.out.trans hxb)
                  have HMm := hid (HMm.out.ext hxb)
                  have n0 : w8.cell? ⟨w7.heap.size, 0, none⟩ = some (.int .i64 rs.wh) := hx.cell (cell_old _ (cell_new _ _ _ rfl rfl))
                  have n1 : w8.cell? ⟨w7.heap.size, 1, none⟩ = some (.int .i64 nn) := hx.cell (cell_old _ (cell_new _ _ _ rfl rfl))
                  have HN01 := hid (And.intro n0 n1)
                  have HM2 := hid (some_mv hm HOK2.out)
                  have HK2 : Hid (w.heap.size ≤ k2 ∧ w7.heap.size < k2 ∧ k < w7.heap.size) := hid ⟨by have h1 : _ ≤ k2 := hk; rw [size_alloc, size_alloc] at h1; have := HBK.out; omega, by have h1 : _ ≤ k2 := hk; rw [size_alloc, size_alloc] at h1; omega, HKS.out⟩
                  clear hk hm hx hxb n0 n1 j0 j1 j2 j3
                  go_wp2_with fail
                  with_reducible refine (C2.out _ k2 HM2.out HXX.out HK2.out.1).mono ?_
                  rintro e w9 ⟨uq2, ur2, rfl, hm, hg, hq, hr⟩
                  have HXX := hid (ext_gb HXX.out hg (fun b hb => by cases hb; exact HK2.out.1))
                  have HMm := hid (HMm.out.grown hg (fun b hb e => by cases hb; have := Option.some.inj e; have := HK2.out.2; omega))
                  have eb := hg.block w7.heap.size (lt_of_cell HN01.out.1) (fun e => by have := Option.some.inj e; have := HK2.out.2.1; omega)
                  have n0 := (World.cell?_of_block eb).trans HN01.out.1
                  have n1 := (World.cell?_of_block eb).trans HN01.out.2
                  have HM2 := hid hm
                  obtain ⟨aq4, cq4, rfl⟩ := hq.form
                  obtain ⟨ar4, cr4, rfl⟩ := hr.form
                  have HE2 := hid (divD_o (o := some k2) (r := some 0) ⟨fun h => (by cases h), fun h => (by cases h)⟩ true (MSt.new a b nn d) F G x)
                  have HQQ := hid (HQ0.out k2)
                  obtain ⟨R3, hR3⟩ : ∃ R, R = divD (some k2) true (MSt.new a b nn d) F G x := ⟨_, rfl⟩
                  have HR3 := hid hR3
                  rw [← hR3] at HM2 HE2 ⊢
                  have HQQ : Hid (R3.e = 11 → nn < R3.s.nn) := hid (fun he => HQQ.out R3.s (by rw [hR3]) (by rw [← hR3]; exact he) HMAY2.out)
                  obtain ⟨e3, he3⟩ : ∃ n, n = R3.e := ⟨_, rfl⟩
                  obtain ⟨n3, hn3⟩ : ∃ n, n = R3.n := ⟨_, rfl⟩
                  obtain ⟨s3, hs3⟩ : ∃ n, n = R3.s := ⟨_, rfl⟩
                  obtain ⟨l3, hl3⟩ : ∃ n, n = (ofP R3.q).length := ⟨_, rfl⟩
                  obtain ⟨l4, hl4⟩ : ∃ n, n = (ofP R3.r).length := ⟨_, rfl⟩
                  rw [← he3, ← hn3, ← hl3, ← hl4]
                  rw [← hs3] at HM2 HQQ
                  rw [← he3] at HQQ
                  have HZE : Hid (e3 = (divD (some 0) true (MSt.new a b nn d) F G x).e) := hid (by rw [he3, HE2.out])
                  clear hm hg hq hr eb hR3 he3 hn3 hs3 hl3 hl4 HE2
                  have q11 : (e3 != 11) = true := by rw [bne_iff_ne]; intro h; exact HZ.out (HZE.out.symm.trans h)
                  have L0 := fun Y : Later w9 => Y.h.cell n0
                  have L1 := fun Y : Later w9 => Y.h.cell n1
                  go_wp2
                  refine wp_region_later (by kernel_rfl) (by kernel_rfl) ?_
                  repeat (go_big_quiet_step (first | (go_at_call 33; exact Later.done (need12 (HM2.out.ext (Later.h _)))) | (go_at_call 31; exact Later.done (fuel12 (HM2.out.ext (Later.h _)))) | (go_at_call 31; exact Later.done (fuel12 (HMm.out.ext (Later.h _)))) | (go_at_call 13; exact Later.done (law12_known _))))
                  refine wpQuiet_nil ?_
                  intro w10 hx
                  have HXX := hid (HXX.out.trans hx)
                  clear hx L0 L1
                  go_wp2
                  all_goals
                    go_ret
                    exact ⟨rfl, HXX.out⟩
              · have HNW2 := hid (fun (W : World) => new_no12 (W := W) hmay2)
                clear hmay2
                go_enter Tryz.func6, Tryz.ntmps6
                go_wp2_with fail
                with_reducible refine (HCG.out _ HXX.out).mono ?_
                rintro e w1 ⟨rfl, hx⟩
                have HK := hid (cells4_on' hx HK.out)
                have HXX := hid (HXX.out.trans hx)
                clear hx
                go_wp2_with fail
                with_reducible refine (HCH.out _ HXX.out).mono ?_
                rintro e w2 ⟨rfl, hx⟩
                have HK := hid (cells4_on' hx HK.out)
                have HXX := hid (HXX.out.trans hx)
                clear hx
                obtain ⟨j0, j1, j2, j3⟩ := HK.out
                have HBASE := hid HXX.out.size
                have HLT := hid (lt_of_cell j0)
                go_wp2_with fail
                with_reducible refine (HNW.out _).mono ?_
                rintro e w3 ⟨k, rfl, hk, hm, hx⟩
                have HK := hid (cells4_on' hx HK.out)
                have HXX := hid (HXX.out.trans hx)
                have HMm := hid (some_mv hm HOKS.out)
                have HKB := hid (Nat.le_trans HBASE.out hk)
                have HKL : Hid (some w.heap.size ≠ some k) := hid (fun e => by have h1 := Option.some.inj e; have h2 := HLT.out; omega)
                clear hk hm hx j0 j1 j2 j3
                go_wp2_with fail
                with_reducible refine (HC1.out _ k HMm.out HXX.out HKB.out).mono ?_
                rintro e w4 ⟨uq, ur, rfl, hm, hg, hq, hr⟩
                have HK := hid (cells4_gb hg HKL.out HK.out)
                have HXX := hid (ext_gb HXX.out hg (fun b hb => by cases hb; exact HKB.out))
                have HMm : Hid (MV _ (some k) rs) := hid hm
                obtain ⟨aq1, cq1, hq1⟩ := hq.form
                have hq2 : uq = .slice aq1 0 cq1 := hq1
                obtain ⟨ar1, cr1, hr1⟩ := hr.form
                have hr2 : ur = .slice ar1 0 cr1 := hr1
                subst hq2 hr2
                clear hm hg hq hr hq1 hr1
                go_wp2_with fail
                with_reducible refine (C0.out _ HXX.out).mono ?_
                rintro e w5 ⟨yq, yr, rfl, hq, hr, hx⟩
                have HK := hid (cells4_on' hx HK.out)
                have HXX := hid (HXX.out.trans hx)
                have HMm := hid (HMm.out.ext hx)
                obtain ⟨aq2, cq2, rfl⟩ := hq.form
                obtain ⟨ar2, cr2, rfl⟩ := hr.form
                clear hq hr hx
                obtain ⟨j0, j1, j2, j3⟩ := HK.out
                have L0 := fun Y : Later w5 => Y.h.cell j0
                go_wp2
                refine wp_region_later (by kernel_rfl) (by kernel_rfl) ?_
                repeat (go_big_quiet_step (first | (go_at_call 31; exact Later.done (fuel12 (HMm.out.ext (Later.h _))))))
                refine wpQuiet_nil ?_
                intro w6 hx
                have HK := hid (cells4_on' hx HK.out)
                have HXX := hid (HXX.out.trans hx)
                have HMm := hid (HMm.out.ext hx)
                clear hx L0
                go_wp2_with fail
                with_reducible refine (need12 HMm.out).mono ?_
                rintro e w7 ⟨rfl, hx⟩
                have HK := hid (cells4_on' hx HK.out)
                have HXX := hid (HXX.out.trans hx)
                have HMm := hid (HMm.out.ext hx)
                clear hx
                rw [← HNN.out]
                have HA1 := hid (Ext.alloc (Ext.refl w7) (.cells #[.int .i64 rs.wh, .int .i64 nn] 59))
                obtain ⟨j0, j1, j2, j3⟩ := cells4_on' HA1.out HK.out
                go_wp2_with fail
                with_reducible refine (HNW2.out _).mono ?_
                rintro e w8 ⟨rfl, hx⟩
                have HXX : Hid (Ext w w8) := hid (((HXX.out.alloc _).alloc _).trans hx)
                clear hx
                go_wp2_with fail
                with_reducible refine (law12_known _).mono ?_
                rintro e w9 ⟨rfl, hx⟩
                have HXX := hid (HXX.out.trans hx)
                clear hx
                go_wp2
                all_goals
                  go_ret
                  exact ⟨rfl, HXX.out⟩
        · have CN := hid (fun (W : World) (um : Value) (h : ∃ a, um = .pointer a) (hW : Ext w W) => divide_no h (HPS.out.on hW) (HQS.out.on hW) (small12 HG1.out) (small12 HG2.out) HXI.out hok)
          have q1 : decide (a < (MSt.new a b c d).st) = false := decide_eq_false (by show ¬ a < 0; have := HMAY.out.1.1; omega)
          clear hok
          go_enter Tryz.func6, Tryz.ntmps6
          go_wp2_with fail
          with_reducible refine (HCG.out _ HXX.out).mono ?_
          rintro e w1 ⟨rfl, hx⟩
          have HK := hid (cells4_on' hx HK.out)
          have HXX := hid (HXX.out.trans hx)
          clear hx
          go_wp2_with fail
          with_reducible refine (HCH.out _ HXX.out).mono ?_
          rintro e w2 ⟨rfl, hx⟩
          have HK := hid (cells4_on' hx HK.out)
          have HXX := hid (HXX.out.trans hx)
          clear hx
          obtain ⟨j0, j1, j2, j3⟩ := HK.out
          have HBASE := hid HXX.out.size
          have HLT := hid (lt_of_cell j0)
          go_wp2_with fail
          with_reducible refine (HNW.out _).mono ?_
          rintro e w3 ⟨k, rfl, hk, hm, hx⟩
          have HK := hid (cells4_on' hx HK.out)
          have HXX := hid (HXX.out.trans hx)
          have HMm := hid (some_mv hm HOKS.out)
          have HKB := hid (Nat.le_trans HBASE.out hk)
          have HKL : Hid (some w.heap.size ≠ some k) := hid (fun e => by have h1 := Option.some.inj e; have h2 := HLT.out; omega)
          clear hk hm hx j0 j1 j2 j3
          go_wp2_with fail
          with_reducible refine (CN.out _ _ ⟨_, rfl⟩ HXX.out).mono ?_
          rintro e w4 ⟨rfl, hx⟩
          have HK := hid (cells4_on' hx HK.out)
          have HXX := hid (HXX.out.trans hx)
          have HMm := hid (HMm.out.ext hx)
          clear hx
          go_wp2_with fail
          with_reducible refine (CN.out _ _ ⟨_, rfl⟩ HXX.out).mono ?_
          rintro e w5 ⟨rfl, hx⟩
          have HK := hid (cells4_on' hx HK.out)
          have HXX := hid (HXX.out.trans hx)
          have HMm := hid (HMm.out.ext hx)
          clear hx
          obtain ⟨j0, j1, j2, j3⟩ := HK.out
          have L0 := fun Y : Later w5 => Y.h.cell j0
          go_wp2
          refine wp_region_later (by kernel_rfl) (by kernel_rfl) ?_
          repeat (go_big_quiet_step (first | (go_at_call 31; exact Later.done (fuel12 (HMm.out.ext (Later.h _))))))
          refine wpQuiet_nil ?_
          intro w6 hx
          have HK := hid (cells4_on' hx HK.out)
          have HXX := hid (HXX.out.trans hx)
          have HMm := hid (HMm.out.ext hx)
          clear hx L0
          go_wp2_with fail
          with_reducible refine (need12 HMm.out).mono ?_
          rintro e w7 ⟨rfl, hx⟩
          have HK := hid (cells4_on' hx HK.out)
          have HXX := hid (HXX.out.trans hx)
          have HMm := hid (HMm.out.ext hx)
          clear hx
          go_wp2_with fail
          with_reducible refine (law12_known _).mono ?_
          rintro e w8 ⟨rfl, hx⟩
          have HXX := hid ((HXX.out.alloc _).trans hx)
          clear hx
          go_wp2
          all_goals
            go_ret
            exact ⟨rfl, HXX.out⟩
      · have HNW := hid (fun (W : World) => new_no12 (W := W) hmay)
        clear hmay
        go_enter Tryz.func6, Tryz.ntmps6
        go_wp2_with fail
        with_reducible refine (HCG.out _ HXX.out).mono ?_
        rintro e w1 ⟨rfl, hx⟩
        have HK := hid (cells4_on' hx HK.out)
        have HXX := hid (HXX.out.trans hx)
        clear hx
        go_wp2_with fail
        with_reducible refine (HCH.out _ HXX.out).mono ?_
        rintro e w2 ⟨rfl, hx⟩
        have HK := hid (cells4_on' hx HK.out)
        have HXX := hid (HXX.out.trans hx)
        clear hx
        obtain ⟨j0, j1, j2, j3⟩ := HK.out
        go_wp2_with fail
        with_reducible refine (HNW.out _).mono ?_
        rintro e w3 ⟨rfl, hx⟩
        have HXX := hid (HXX.out.trans hx)
        clear hx
        go_wp2_with fail
        with_reducible refine (law12_known _).mono ?_
        rintro e w4 ⟨rfl, hx⟩
        have HXX := hid (HXX.out.trans hx)
        clear hx
        go_wp2
        all_goals
          go_ret
          exact ⟨rfl, HXX.out⟩
end Go.Proofs.YtcpfeepnfodifaaGreat

namespace Go.Proofs.YtcpfeepnfodifaaGreat
open Go.RowKit Go.Deep Go.ChangeShapes Go.WideShapes Go.ChangeAt

set_option maxRecDepth 100000 in
theorem bounds_lifted (os : Os) (started : os.Started) (H : Type) (enc : TypeId × Value → H) :
    ReturnsInHanded {} Tryz.checked os 6 .any (Rows.pseudoBoundsSpec.pre6 enc Tryz.prog Tryz.f6 Rows.pseudoBoundsRow.domain false) (Rows.pseudoBoundsSpec.post enc Tryz.prog Tryz.f6 false true false false) := by
  refine returnsInHanded_of_change (C := Tryz.checked) Tryz.own started (by kernel_rfl) Tryz.func6
    (ChangeSpec.witness6 (enc := enc) (C := Tryz.checked) false ⟨#[], #[.slice none 0 0, .slice none 0 0, .int .i64 0, .agg #[.int .i64 0, .int .i64 0, .int .i64 0, .int .i64 0]], []⟩ 8 (by kernel_rfl) (by kernel_rfl) (by kernel_rfl) (by kernel_rfl)) ?_
  intro W base args ds gs before hval0 hW _ _
  have hval : ∀ (j : Nat) t v, Tryz.f6.params[j]? = some t → args[j]? = some v → Value.okWide Tryz.prog W .any base t v := hval0
  have hW' := hW
  obtain ⟨p, q, hA0, hV, _, _, _⟩ := hW'
  have hA : DataW.TrodAll enc Tryz.prog W 0 (fun _ => true) true Tryz.f6.params.toList args.toList ds p := hA0
  rw [Tryz.params6] at hA hval
  obtain ⟨v0, v1, v2, v3, d0, d1, d2, d3, p0, p1, p2, p3, rfl, rfl, rfl, h0, h1, h2, h3⟩ := trodAll_four12 hA
  obtain ⟨rfl, rfl⟩ := trodVars_none hV
  obtain ⟨fuel0, hf0⟩ := h0
  rw [slice_cells Tryz.underlying23 (hval 0 _ v0 rfl rfl)] at hf0
  obtain ⟨x0, hx0⟩ := open_terms hf0
  obtain ⟨fuel1, hf1⟩ := h1
  rw [slice_cells Tryz.underlying23 (hval 1 _ v1 rfl rfl)] at hf1
  obtain ⟨x1, hx1⟩ := open_terms hf1
  obtain ⟨fuel2, hf2⟩ := h2
  obtain ⟨y2, rfl, hy2⟩ := int_arg12 (hval 2 _ v2 rfl rfl) hf2
  obtain ⟨la3, lb3, lc3, ld3, rfl, ka3, kb3, kc3, kd3⟩ := limits_arg12 (hval 3 _ v3 rfl rfl) h3
  refine (law_bounds v0 v1 x0 x1 y2 la3 lb3 lc3 ld3 W hx0 hx1 hy2).mono fun e W' h => ?_
  obtain ⟨rfl, hb⟩ := h
  exact ⟨_, rfl, law_post hW rfl rfl rfl (by rw [Tryz.params6]; intro t ht; simp at ht; rcases ht with rfl | rfl | rfl <;> exact ⟨by kernel_rfl, by decide +kernel⟩) hb⟩

theorem bounds_holds : Rows.PseudoBoundsSaid :=
  OpenClaim.holds_of_wide 6 Tryz.f6 rfl rfl rfl rfl rfl rfl rfl ⟨rfl, rfl, rfl, rfl, rfl⟩ rfl rfl rfl rfl rfl (by kernel_rfl) Tryz.func6 (by kernel_rfl)
    (of_decide_eq_true (by kernel_rfl)) (by unfold Func.isWrapper; first | (rw [if_pos (by decide +kernel)]; kernel_rfl) | (rw [if_neg (by decide +kernel)]; exact ⟨rfl, rfl⟩))
    (fun os started H enc _ => bounds_lifted os started H enc)
end Go.Proofs.YtcpfeepnfodifaaGreat
