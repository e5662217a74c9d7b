/- Some polynomials by rising ranks. Chain: the rest with its cofactors. From the form's own reading of an argument to what lies in memory: limbs, powers, terms, polynomials. What every law's row asks: the answer true, the arguments as they were. Arguments that are slices of polynomials, read as data. The document's division: all its steps. Layer 12's law: what is too great, the meters of both sides, powers, limbs. Layer 12's law: the meters of both sides, of limits; none of both, if there are to be none; have both counted the same. Layer 12's statements: what is not too great, and the divisions of it. The arguments of the statements of layers 12 and 16 that are no polynomials: whole numbers, truths, limits. The arguments of layer 16's statements: slices of whole numbers, divisions. What layer 16's law knows. A polynomial ahead of some: append([]Poly{f}, l...). Chain: the rest with its cofactors, of what may not be. Chain: the rest alone, of what may not be. Layer 16's law: what is too great. Layer 16's law: are two slices of whole numbers the same. Layer 16's statements: what is not too great. Is a polynomial reduced by each of some? Polynomials, plain: the sum of the coefficients' sizes. -/
import Derived.ProofKit
import Derived.Deep.Slices
import Derived.Deep.Strs
import Derived.Test.YthdcaablomgboaaGreatRows
import Derived.Lib.SmallJoins
import Derived.JoinedCond
import Derived.Test.YthdcaablomgboaaGreatSo8
namespace Go.Proofs.YthdcaablomgboaaGreat
open Go.RowKit Go.Sort

/-- the cells of a slice of polynomials -/
def CellsL (S : Nat → Prop) (w : World) (xs : List Value) (l : List (List RTerm)) : Prop := xs.length = l.length ∧ ∀ (j : Nat) (p : List RTerm), l[j]? = some p → ∃ vp, xs[j]? = some vp ∧ Terms S w vp p
theorem CellsL.nil (S : Nat → Prop) (w : World) : CellsL S w [] [] := ⟨rfl, fun j p h => by simp at h⟩
theorem CellsL.to {S S' : Nat → Prop} {w w' : World} {xs : List Value} {l : List (List RTerm)} (h : CellsL S w xs l) (hk : Kept S w w') (hS : ∀ k, S k → S' k) : CellsL S' w' xs l :=
  ⟨h.1, fun j p hj => by
    obtain ⟨vp, h1, h2⟩ := h.2 j p hj
    exact ⟨vp, h1, h2.to hk hS⟩⟩
theorem CellsL.snoc {S : Nat → Prop} {w : World} {xs : List Value} {l : List (List RTerm)} {v : Value} {p : List RTerm} (h : CellsL S w xs l) (hv : Terms S w v p) : CellsL S w (xs ++ [v]) (l ++ [p]) := by
  refine ⟨by simp [h.1], fun j q hj => ?_⟩
  by_cases hlt : j < l.length
  · rw [List.getElem?_append_left hlt] at hj
    rw [List.getElem?_append_left (by rw [h.1]; exact hlt)]
    exact h.2 j q hj
  · have hj2 := lt_of_some hj
    simp only [List.length_append, List.length_cons, List.length_nil] at hj2
    obtain rfl : j = l.length := by omega
    rw [List.getElem?_append_right (Nat.le_refl _), Nat.sub_self] at hj
    obtain rfl : p = q := by simpa using hj
    refine ⟨v, ?_, hv⟩
    rw [← h.1, List.getElem?_append_right (Nat.le_refl _), Nat.sub_self]
    rfl
theorem Polys.nilv (S : Nat → Prop) (w : World) (a : Option Addr) (cap : Nat) (h : cap ≤ 9223372036854775807) : Polys S w (.slice a 0 cap) [] :=
  ⟨0, 0, ⟨a, cap, rfl, Nat.zero_le _, h, fun h => absurd h (Nat.lt_irrefl 0), fun h => absurd h (Nat.lt_irrefl 0)⟩, fun j t hj => by simp at hj⟩
theorem own_polys {S : Nat → Prop} {w : World} {base : Nat} {e : TypeId} {v : Value} {xs : List Value} {l : List (List RTerm)} (h : w.ownsRow base e 1 v l.length xs) (hc : CellsL S w xs l) (hB : ∀ k, base ≤ k → k < w.heap.size → S k) : Polys S w v l := by
  have hlt := h.lt
  rcases h.2 with ⟨rfl, h0⟩ | ⟨g, cap, cur, rfl, hg, hh, h1, h2, h3, h4⟩
  · obtain rfl : l = [] := List.length_eq_zero_iff.1 h0
    exact Polys.nilv _ _ _ _ (by decide)
  · refine ⟨g, 0, ⟨_, cap, rfl, h1, h2, fun _ => rfl, fun _ => hB g (hlt g rfl).1 (hlt g rfl).2⟩, fun j t hj => ?_⟩
    obtain ⟨vp, g1, g2⟩ := hc.2 j t hj
    have hb := lt_of_some hj
    refine ⟨vp, ?_, g2⟩
    rw [h.cellAt (0 + j) (by omega), Nat.zero_add]
    exact g1
theorem Tryz.infoPoly : (Tryz.prog.info? 23).map (fun i => (i.zero, i.size, i.bytes)) = some (some (.slice none 0 0), 1, 24) := by kernel_rfl
section
variable {w w1 w2 : World} {o : Value} {e : TypeId} {size n : Nat} {xs : List Value}
end

/-- a polynomial whose parts lie in a world -/
structure PolyIn (S : Nat → Prop) (w : World) where
  t : List RTerm
  c : PCell
  h : Terms S w (.slice c.a c.n c.c) t
  small : smallT t
instance (S : Nat → Prop) (w : World) : Inhabited (PolyIn S w) := ⟨⟨[], ⟨none, 0, 0⟩, Terms.nilv _ _ _ _ (by decide), fun t ht => by simp at ht⟩⟩
section
variable {S : Nat → Prop} {w : World}
theorem cells_polys {xs : List Value} {ls : List (List RTerm)} (h : CellsL S w xs ls) (hs : smallL ls) : ∃ d : List (PolyIn S w), d.map (·.t) = ls ∧ xs = d.map (fun x => .slice x.c.a x.c.n x.c.c) := by
  obtain ⟨hl, hc⟩ := h
  induction ls generalizing xs with
  | nil => exact ⟨[], rfl, by simpa using List.length_eq_zero_iff.1 hl⟩
  | cons p r ih =>
    cases xs with
    | nil => simp at hl
    | cons v ys =>
      obtain ⟨vp, h1, h2⟩ := hc 0 p rfl
      obtain rfl : v = vp := by simpa using h1
      obtain ⟨d, hd1, hd2⟩ := ih (fun q hq => hs q (by simp [hq])) (xs := ys) (by simpa using hl) (fun j q hj => hc (j + 1) q (by simpa using hj))
      obtain ⟨a, c, rfl⟩ := h2.form
      exact ⟨⟨p, ⟨a, p.length, c⟩, h2, hs p (by simp)⟩ :: d, by simp [hd1], by simp [hd2]⟩
end
end Go.Proofs.YthdcaablomgboaaGreat

namespace Go.Proofs.YthdcaablomgboaaGreat
open Go.RowKit Go.Deep

def RestPost16 (W : World) (o : Option Nat) (X : Int × MSt × PZ × List Int × List PZ) : Ending → World → Prop := fun e W' => ∃ vp vc vr, e = .returned (.tuple #[.agg #[vp, vc, vr], .int .i64 X.1]) ∧ MV W' o X.2.1 ∧ W.grownBy W' o ∧ PMN W.heap.size o W' vr X.2.2.1 ∧
  Ints (fun k => W.heap.size ≤ k ∧ NB o W' k) W' vp X.2.2.2.1 ∧ Polys (fun k => W.heap.size ≤ k ∧ NB o W' k) W' vc (X.2.2.2.2.map ofP)

/-- a result of three cells is stored -/
def st3 (Y : World) (br : Nat) (a b c : Value) : World := ((Y.setCell ⟨br, 0, none⟩ a).setCell ⟨br, 1, none⟩ b).setCell ⟨br, 2, none⟩ c
section
variable {W Y : World} {br hi bc bd bp bq m : Nat} {a b c u0 u1 u2 vr : Value} {o : Option Nat} {s : MSt} {ns : List Int} {V : Nat → Value} {cs : List PZ} {r : PZ}
theorem st3_0 (h0 : Y.cell? ⟨br, 0, none⟩ = some u0) : (st3 Y br a b c).cell? ⟨br, 0, none⟩ = some a := other (other (same_of h0) (ao (by decide))) (ao (by decide))
theorem st3_1 (h1 : Y.cell? ⟨br, 1, none⟩ = some u1) : (st3 Y br a b c).cell? ⟨br, 1, none⟩ = some b := other (same_of (other h1 (ao (by decide)))) (ao (by decide))
theorem st3_2 (h2 : Y.cell? ⟨br, 2, none⟩ = some u2) : (st3 Y br a b c).cell? ⟨br, 2, none⟩ = some c := same_of (other (other h2 (ao (by decide))) (ao (by decide)))
theorem st3_mv (h : MV Y o s) (ho : ∀ b, o = some b → b < br) : MV (st3 Y br a b c) o s := by
  have hne : ∀ b, o = some b → b ≠ br := fun b hb => Nat.ne_of_lt (ho b hb)
  exact ((h.set hne (a := ⟨br, 0, none⟩) rfl a).set hne (a := ⟨br, 1, none⟩) rfl b).set hne (a := ⟨br, 2, none⟩) rfl c
theorem st3_gx (h1 : br < hi) : Gx o br hi Y (st3 Y br a b c) :=
  ((gx_set Y (a := ⟨br, 0, none⟩) (Nat.le_refl _) h1 a).trans (gx_set _ (a := ⟨br, 1, none⟩) (Nat.le_refl _) h1 b)).trans (gx_set _ (a := ⟨br, 2, none⟩) (Nat.le_refl _) h1 c)
theorem st3_other {k : Nat} (h : k ≠ br) : (st3 Y br a b c).heap[k]? = Y.heap[k]? :=
  ((heap_other _ ⟨br, 2, none⟩ c h).trans (heap_other _ ⟨br, 1, none⟩ b h)).trans (heap_other _ ⟨br, 0, none⟩ a h)
theorem ints_nil (S : Nat → Prop) (w : World) : Ints S w (.slice none 0 0) [] := ⟨0, 0, ⟨none, 0, rfl, Nat.le_refl _, by decide, fun h => by simp at h, fun h => by simp at h⟩, fun j n hj => by simp at hj⟩
theorem fin16 (O : Own br hi br bc bd bp bq) (hb : br = W.heap.size) (ho : ∀ b, o = some b → b < br) (hm : MV Y o s) (hg : W.grownBy Y o) (hr : RestAt 23 Y br bd bp bq m vr ns V) (hv : PMN hi o Y vr r) (hc : CofV hi o Y m V cs) (hn : ns.length = m) (hi64 : ∀ z ∈ ns, inI64 z) (hml : m ≤ maxLen) :
    RestPost16 W o (0, s, r, ns, cs) (.returned (.tuple #[.agg #[.slice (some ⟨bp, 0, none⟩) m m, .slice (some ⟨bq, 0, none⟩) m m, vr], .int .i64 0])) (st3 Y br (.slice (some ⟨bp, 0, none⟩) m m) (.slice (some ⟨bq, 0, none⟩) m m) vr) := by
  have hx : Gx o br hi Y (st3 Y br (.slice (some ⟨bp, 0, none⟩) m m) (.slice (some ⟨bq, 0, none⟩) m m) vr) := st3_gx O.r.2
  have hg2 : W.grownBy (st3 Y br (.slice (some ⟨bp, 0, none⟩) m m) (.slice (some ⟨bq, 0, none⟩) m m) vr) o := ⟨hx.os.trans hg.os, hx.tape.trans hg.tape, hx.output.trans hg.output, Nat.le_trans hg.size hx.size, fun k h1 h2 => by
    rw [st3_other (by omega)]
    exact hg.block k h1 h2⟩
  have hno : ∀ k, br ≤ k → some k ≠ o := fun k hk e => by have := ho k e.symm; omega
  obtain ⟨l1, l2, l3, l4⟩ := hr.lts
  refine ⟨_, _, _, rfl, st3_mv hm ho, hg2, (PMN.gx hv (Nat.le_refl _) hx).low (by have := O.r; omega), ?_, ?_⟩
  · exact Ints.of_row (hr.P.of_block (st3_other O.rp.symm)) hn hi64 hml ⟨by rw [← hb]; exact O.p.1, Nat.lt_of_lt_of_le l3 hx.size, hno _ O.p.1⟩
  · exact (hc.gx (Nat.le_refl _) hx).polys (hr.Q.of_block (st3_other O.rq.symm)) hml (fun k hk => ⟨by have := O.r; have := hk.1; omega, hk.2⟩) ⟨by rw [← hb]; exact O.q.1, Nat.lt_of_lt_of_le l4 hx.size, hno _ O.q.1⟩
theorem err16 {e : Int} (hbr : br < hi) (hb : br = W.heap.size) (ho : ∀ b, o = some b → b < br) (hm : MV Y o s) (hg : W.grownBy Y o) :
    RestPost16 W o (e, s, [], [], []) (.returned (.tuple #[.agg #[.slice none 0 0, .slice none 0 0, .slice none 0 0], .int .i64 e])) (st3 Y br (.slice none 0 0) (.slice none 0 0) (.slice none 0 0)) := by
  have hx : Gx o br hi Y (st3 Y br (.slice none 0 0) (.slice none 0 0) (.slice none 0 0)) := st3_gx hbr
  have hg2 : W.grownBy (st3 Y br (.slice none 0 0) (.slice none 0 0) (.slice none 0 0)) o := ⟨hx.os.trans hg.os, hx.tape.trans hg.tape, hx.output.trans hg.output, Nat.le_trans hg.size hx.size, fun k h1 h2 => by
    rw [st3_other (by omega)]
    exact hg.block k h1 h2⟩
  exact ⟨_, _, _, rfl, st3_mv hm ho, hg2, Terms.nilv _ _ _ _ (by decide), ints_nil _ _, Polys.nilv _ _ _ _ (by decide)⟩
end

set_option maxRecDepth 100000 in
set_option maxHeartbeats 16000000 in
theorem chain_rest {W : World} {o : Option Nat} {s : MSt} {vf vl : Value} {f : PZ} {ls : List PZ} {A T : Nat} (hM : MV W o s) (hf : PM o W vf f) (hl : Polys (NB o W) W vl (ls.map ofP)) (ff : Fit A T f) (hA : A ≤ 1000000) (hT : T ≤ 1000000000)
    (sl : smallL (ls.map ofP)) (hmay : mayC 0 (ls.map ofP) = true) (hlen : ls.length ≤ 1000) (hF : RestFit o true ls ls.length s f (List.replicate ls.length [])) :
    Calls Tryz.prog 16 #[mval o, vf, vl] W (RestPost16 W o (restD o true ls ls.length s f (List.replicate ls.length 0) (List.replicate ls.length []))) := by
  have hnot : ∀ (x : Bool) (w : World), (Op.unary .not (.bool x)).run Tryz.prog w = .ok (.bool (!x)) w := fun _ _ => rfl
  have C1 := hid (fun (Y : World) (hY : Ext W Y) => z_may (Terms.on hf.pv hY) ff hA)
  have C2 := hid (fun (Y : World) (hY : Ext W Y) => (show Calls Tryz.prog 13 #[vl] Y fun e w' => e = .returned (.bool true) ∧ Ext Y w' from by
    have h := chain_may (S := NB o W) vl (ls.map ofP) Y (hl.ext hY (fun _ h => h.1)) (fun k h => Nat.lt_of_lt_of_le h.1 hY.size) sl
    rwa [hmay] at h))
  have HF := hid hf
  have HFT := hid ff
  have HAT := hid (And.intro hA hT)
  have HM := hid hM
  have HL := hid hl
  have HFF := hid hF
  have HBM := hid (fun b hb => hM.block (b := b) hb)
  obtain ⟨X, hX⟩ : ∃ X, X = restD o true ls ls.length s f (List.replicate ls.length 0) (List.replicate ls.length []) := ⟨_, rfl⟩
  rw [← hX]
  have HX := hid hX
  obtain ⟨m, hm⟩ : ∃ m, m = ls.length := ⟨_, rfl⟩
  have HMM := hid hm
  rw [← hm] at hlen
  obtain ⟨af, cf, rfl⟩ := hf.form
  obtain ⟨al, cl, hl'⟩ := hl.form
  rw [List.length_map, ← hm] at hl'
  subst hl'
  obtain ⟨nf, hnf⟩ : ∃ n, n = (ofP f).length := ⟨_, rfl⟩
  rw [← hnf] at C1 ⊢
  have HNF := hid hnf
  obtain ⟨vm, hvm⟩ : ∃ x, x = mval o := ⟨_, rfl⟩
  obtain ⟨am, rfl⟩ : ∃ a, vm = .pointer a := ⟨_, hvm⟩
  rw [← hvm]
  have HVM := hid hvm
  clear hM hf hl ff hA hT sl hmay hF hX hm hnf hvm
  have hmk := fun (Y : World) => run_make_row' (P := Tryz.prog) 25 3 (.int .i64 0) 8 Tryz.underlying25 Tryz.infoInt rfl .i64 .i64 m (by omega) (by omega) Y
  have hmq := fun (Y : World) => run_make_row' (P := Tryz.prog) 24 23 (.slice none 0 0) 24 Tryz.underlying24 Tryz.infoPoly rfl .i64 .i64 m (by omega) (by omega) Y
  have HX0 := hid (Ext.alloc (Ext.refl W) (.cells #[.slice none 0 0, .slice none 0 0, .slice none 0 0] 27))
  have j0 : (W.alloc (.cells #[.slice none 0 0, .slice none 0 0, .slice none 0 0] 27)).cell? ⟨W.heap.size, 0, none⟩ = some (.slice none 0 0) := cell_new _ _ _ rfl rfl
  have j1 : (W.alloc (.cells #[.slice none 0 0, .slice none 0 0, .slice none 0 0] 27)).cell? ⟨W.heap.size, 1, none⟩ = some (.slice none 0 0) := cell_new _ _ _ rfl rfl
  have j2 : (W.alloc (.cells #[.slice none 0 0, .slice none 0 0, .slice none 0 0] 27)).cell? ⟨W.heap.size, 2, none⟩ = some (.slice none 0 0) := cell_new _ _ _ rfl rfl
  have HJ := hid (And.intro j0 (And.intro j1 j2))
  have HZ := hid (fun i => free_new W #[.slice none 0 0, .slice none 0 0, .slice none 0 0] 27 (i := i))
  clear j0 j1 j2
  go_enter Tryz.func16, Tryz.ntmps16
  go_wp2_with fail
  with_reducible refine (C1.out _ HX0.out).mono ?_
  rintro e w1 ⟨rfl, hx⟩
  have HX1 := hid (HX0.out.trans hx)
  have HY1 := hid hx
  clear hx
  go_wp2_with fail
  with_reducible refine (C2.out _ HX1.out).mono ?_
  rintro e w2 ⟨rfl, hx⟩
  have HX2 := hid (HX1.out.trans hx)
  have HY2 := hid (HY1.out.trans hx)
  clear hx
  have HR2 := hid (And.intro (HY2.out.cell HJ.out.1) (And.intro (HY2.out.cell HJ.out.2.1) (HY2.out.cell HJ.out.2.2)))
  have HLB : Hid (W.heap.size < w2.heap.size) := hid (lt_of_cell HR2.out.1)
  have HZ2 : Hid (∀ i, w2.frozen? ⟨W.heap.size, i, none⟩ = false) := hid (fun i => (World.frozen?_of_block (w := W.alloc (.cells #[.slice none 0 0, .slice none 0 0, .slice none 0 0] 27)) (a := ⟨W.heap.size, i, none⟩) (HY2.out.block _ (by show W.heap.size < _; rw [size_alloc]; exact Nat.lt_succ_self _))).trans (HZ.out i))
  go_upto_region 4 with fail
  go_cut [9] (fun s9 wx => ∃ bd bp bq, s9 = .pointer (some ⟨bd, 0, none⟩) ∧ Hid (Own W.heap.size wx.heap.size W.heap.size w2.heap.size bd bp bq) ∧ Hid (RestAt 23 wx W.heap.size bd bp bq m (.slice af nf cf) (List.replicate m 0) (fun _ => .slice none 0 0)) ∧ Hid (CalcAt wx w2.heap.size (.pointer am) 0) ∧ Hid (Ext w2 wx))
  case first =>
    go_region_held3 (fun _ => True) (exact trivial) (fail)
    all_goals
      go_wp2_with fail
      go_meet
      obtain ⟨k0, k1, k2⟩ := HR2.out
      first
        | with_reducible exact born16_1 HLB.out k0 k1 k2 HZ2.out
        | with_reducible exact born16_2 HLB.out k0 k1 k2 HZ2.out
        | with_reducible exact born16_3 HLB.out k0 k1 k2 HZ2.out
        | with_reducible exact born16_4 HLB.out k0 k1 k2 HZ2.out
        | with_reducible exact born16_5 HLB.out k0 k1 k2 HZ2.out
        | with_reducible exact born16_6 HLB.out k0 k1 k2 HZ2.out
  case rest =>
    obtain ⟨bd, bp, bq, rfl, HO, HRT, HCA, HXC⟩ := hcut
    have HX5 := hid (HX2.out.trans HXC.out)
    obtain ⟨bc, hbc⟩ : ∃ n, n = w2.heap.size := ⟨_, rfl⟩
    obtain ⟨br, hbr⟩ : ∃ n, n = W.heap.size := ⟨_, rfl⟩
    obtain ⟨hi, hhi⟩ : ∃ n, n = wc.heap.size := ⟨_, rfl⟩
    rw [← hbr, ← hbc, ← hhi] at HO
    rw [← hbr] at HRT
    rw [← hbc] at HCA
    rw [← hbc, ← hbr]
    have HBR := hid hbr
    have HHI := hid hhi
    have HOB : Hid (∀ b, o = some b → b < br) := hid (fun b hb => by rw [hbr]; exact HBM.out b hb)
    have HLH : Hid (br ≤ hi) := hid (by rw [hbr, hhi]; exact HX5.out.size)
    clear hbc hbr hhi hmk hmq
    go_wp2
    go_loopw [10] (fun i wr => ∃ (k : Nat) (s1 : MSt) (vr : Value) (r1 : PZ) (ns1 : List Int) (V : Nat → Value) (cs1 : List PZ), k ≤ m ∧ i = .int .i64 ((k : Int) - 1) ∧ Hid (MV wr o s1) ∧ Hid (Gx o br hi wc wr) ∧ Hid (RestAt 23 wr br bd bp bq m vr ns1 V) ∧ Hid (CalcAt wr bc (.pointer am) 0) ∧ Hid (PX o br hi wr vr r1) ∧ Hid (∃ A T, Fit A T r1 ∧ A ≤ 1000000 ∧ T ≤ 1000000000000) ∧ Hid (CofV hi o wr m V cs1) ∧ Hid (RestFit o true ls k s1 r1 cs1) ∧ Hid (restD o true ls k s1 r1 ns1 cs1 = X) ∧ Hid (ns1.length = m ∧ ∀ z ∈ ns1, inI64 z)) (fun i _ => (intOf i + 1).toNat)
    case atStart =>
      refine ⟨m, s, .slice af nf cf, f, List.replicate m 0, fun _ => .slice none 0 0, List.replicate m [], Nat.le_refl _, rfl, hid (HM.out.ext HX5.out), hid (Gx.refl _ _ _ _), HRT, HCA, hid ?_, hid ⟨A, T, HFT.out, HAT.out.1, by have := HAT.out.2; omega⟩, hid ?_, hid ?_, hid ?_, hid ⟨by simp, fun z hz => ?_⟩⟩
      · rw [HNF.out]
        have h := HF.out
        refine h.to (Kept.ext HX5.out (fun _ h => h.1)) (fun k hk => ⟨Nat.lt_of_lt_of_le hk.1 HX5.out.size, hk.2, fun e => ?_⟩)
        have h1 := hk.1
        have h2 := e.1
        rw [HBR.out] at h2
        omega
      · refine ⟨by simp, fun i hi => ?_⟩
        rw [List.getD_eq_getElem?_getD, List.getElem?_replicate]
        split <;> exact Terms.nilv _ _ _ _ (by decide)
      · rw [HMM.out]; exact HFF.out
      · rw [HX.out, HMM.out]
      · rw [List.eq_of_mem_replicate hz]; unfold inI64; omega
    case round =>
      obtain ⟨k, s1, vr, r1, ns1, V, cs1, hk, rfl, HMV, HG, HRA, HCK, HRV, HFR, HCV, HRF, HRD, HNS⟩ := hrel
      have HGW : Hid (W.grownBy wr o) := hid (((gx_ext HX5.out).trans HG.out).gb (by rw [HBR.out]; exact Nat.le_refl _))
      cases k with
      | zero =>
        have HX0 : Hid (X = (0, s1, r1, ns1, cs1)) := hid HRD.out.symm
        have HADD : Hid (Calls Tryz.prog 45 #[vr, .slice none 0 0] wr (OkPoly wr r1)) := hid (by
          obtain ⟨A', T', fr, hA', hT'⟩ := HFR.out
          have hn : PV wr (.slice none 0 0) [] := Terms.nilv _ _ _ _ (by decide)
          have h := z_add (q := []) HRV.out.pv hn fr fit_nil hA' (by omega) (by omega)
          rwa [show normP (r1 ++ []) = r1 by rw [List.append_nil]; exact normP_of_can fr.can] at h)
        obtain ⟨ar, cr, rfl⟩ := HRV.out.form
        obtain ⟨nr, hnr⟩ : ∃ n, n = (ofP r1).length := ⟨_, rfl⟩
        rw [← hnr] at HADD HRA
        have e2 := HRA.out.d2
        clear hnr
        go_wp2_with fail
        with_reducible refine HADD.out.mono ?_
        rintro e w6 ⟨v6, rfl, ht6, hx6⟩
        have HX6 := hid hx6
        have HR6 := hid (HRA.out.gb HO.out.toOwn3 HOB.out (gb_of_ext hx6 o))
        have HT6 := hid ht6
        obtain ⟨a6, c6, rfl⟩ := ht6.form
        obtain ⟨n6, hn6⟩ : ∃ n, n = (ofP r1).length := ⟨_, rfl⟩
        rw [← hn6] at HT6 ⊢
        have HN6 := hid hn6
        have HHW : Hid (hi ≤ wr.heap.size) := hid (by rw [HHI.out]; exact HG.out.size)
        have HR7 := hid (HR6.out.setD HO.out.toOwn3 (.slice a6 n6 c6))
        obtain ⟨W7, hW7⟩ : ∃ Y, Y = w6.setCell ⟨bd, 2, none⟩ (.slice a6 n6 c6) := ⟨_, rfl⟩
        rw [← hW7] at HR7
        have HW7 := hid hW7
        clear e2 ht6 hx6 hn6 hW7
        have k2 := HR6.out.d2
        have kz := HR6.out.dz 2
        have HM7 := hid ((HMV.out.ext HX6.out).set (W := w6) (a := ⟨bd, 2, none⟩) (bd := bd) (fun b hb e => by have h1 := HOB.out b hb; have h2 := HO.out.d.1; omega) rfl (.slice a6 n6 c6))
        rw [← HW7.out] at HM7
        have HG7 : Hid (Gx o br hi wr W7) := hid (by rw [HW7.out]; exact (gx_ext HX6.out).trans (gx_set w6 (a := ⟨bd, 2, none⟩) HO.out.d.1 HO.out.d.2 _))
        have HGW7 : Hid (W.grownBy W7 o) := hid ((((gx_ext HX5.out).trans HG.out).trans HG7.out).gb (by rw [HBR.out]; exact Nat.le_refl _))
        have HC7 := hid (HCV.out.gx (Nat.le_refl _) HG7.out)
        have HP7 : Hid (PMN hi o W7 (.slice a6 n6 c6) r1) := hid (by
          rw [HN6.out] at HT6
          have h := HT6.out
          rw [← HN6.out] at h
          refine h.to (fun k hk => ?_) (fun k hk => ⟨Nat.le_trans HHW.out hk.1, ?_, fun e => ?_⟩)
          · rw [HW7.out]
            exact heap_other w6 ⟨bd, 2, none⟩ _ (fun e => by have h1 := hk.1; have h2 := HO.out.d.2; have h3 := HHW.out; have e2 : k = bd := e; omega)
          · rw [HW7.out]
            exact Nat.lt_of_lt_of_le hk.2 (gx_set (o := o) (lo := br) (hi := hi) w6 (a := ⟨bd, 2, none⟩) HO.out.d.1 HO.out.d.2 _).size
          · have h1 := HOB.out k e.symm; have h2 := hk.1; have h3 := HHW.out; have h4 := HLH.out; omega)
        have d0 := HR7.out.d0
        have d1 := HR7.out.d1
        have d2 := HR7.out.d2
        have y0 := HR7.out.r0
        have y1 := HR7.out.r1
        have y2 := HR7.out.r2
        have z0 := HR7.out.rz 0
        have z1 := HR7.out.rz 1
        have z2 := HR7.out.rz 2
        rw [HW7.out] at d0 d1 d2 y0 y1 y2 z0 z1 z2
        have f0 := st3_0 (a := .slice (some ⟨bp, 0, none⟩) m m) (b := .slice (some ⟨bq, 0, none⟩) m m) (c := .slice a6 n6 c6) HR7.out.r0
        have f1 := st3_1 (a := .slice (some ⟨bp, 0, none⟩) m m) (b := .slice (some ⟨bq, 0, none⟩) m m) (c := .slice a6 n6 c6) HR7.out.r1
        have f2 := st3_2 (a := .slice (some ⟨bp, 0, none⟩) m m) (b := .slice (some ⟨bq, 0, none⟩) m m) (c := .slice a6 n6 c6) HR7.out.r2
        have HFIN := hid (fin16 HO.out HBR.out HOB.out HM7.out HGW7.out HR7.out HP7.out HC7.out HNS.out.1 HNS.out.2 (by unfold maxLen; omega))
        rw [HW7.out] at f0 f1 f2 HFIN
        unfold st3 at f0 f1 f2 HFIN
        go_wp2
        all_goals
          refine bodyPost_ret (v := .tuple #[.agg #[.slice (some ⟨bp, 0, none⟩) m m, .slice (some ⟨bq, 0, none⟩) m m, .slice a6 n6 c6], .int .i64 0]) (by simp [results, Tryz.results16, go_sem, f0, f1, f2]) rfl ?_
          rw [HX0.out]
          exact HFIN.out
      | succ q =>
        have hq1 : ((q + 1 : Nat) : Int) - 1 = (q : Int) := by omega
        have hqm : q < m := by omega
        have HRS := hid HRF.out.1
        obtain ⟨⟨A2, T2, B2, M2, fp, hA2, hB2, hT2, hTb2, hTM2, hFR2⟩, hlead, hdeg⟩ := HRS.out
        have HPF : Hid (Fit A2 T2 (ls.getD q []) ∧ A2 < 24 ∧ 1 ≤ T2 ∧ T2 ≤ 1000000) := hid ⟨fp, hA2, hT2, hTb2⟩
        have hdn : (divK o true ls q s1 r1).n ≤ 10001 := div_n (o := o) (keep := true) (s := s1) (g := ls.getD q []) (v := leadP (ls.getD q [])) hFR2.now.2.can.may
        have hfit : Fit B2 M2 (divK o true ls q s1 r1).r := (run_fit _ _ _ _ _ hFR2).2
        have hMM : M2 ≤ 2 * T2 * M2 := Nat.le_mul_of_pos_left M2 (by omega)
        have HKW : Hid (Kept (NB o W) W wr) := hid (fun b hb => HGW.out.block b hb.1 hb.2)
        have HSW : Hid (∀ b, NB o W b → NX o br hi wr b) := hid (fun b hb => ⟨Nat.lt_of_lt_of_le hb.1 HGW.out.size, hb.2, fun e => by have h1 := hb.1; have h2 := e.1; rw [HBR.out] at h2; omega⟩)
        obtain ⟨bl, ol, vl, rfl, -, hl1, hl2, hSl, hlc, htl⟩ := (HL.out.to HKW.out (fun _ h => h)).cellAt (map_get (k := q) (l := ls) (by rw [← HMM.out]; exact hqm))
        have HTL := hid (htl.to (S' := NX o br hi wr) (Kept.refl _ _) HSW.out)
        have CC := hid (fun (Y : World) (hY : Ext wr Y) => z_class (PX.pv (PX.on HTL.out (gx_ext hY))) fp (by omega))
        have CR0 : ∀ Y : World, Ext wr Y → Calls Tryz.prog 48 #[mval o, vr, vl, .int .i64 (leadP (ls.getD q []))] Y (DividePost Y o (divK o true ls q s1 r1)) := fun (Y : World) (hY : Ext wr Y) => z_divide (HMV.out.ext hY) (PX.pm (PX.on HRV.out (gx_ext hY))) (PX.pm (PX.on HTL.out (gx_ext hY))) fp hFR2 hA2 (by omega) hT2 hTb2 hTM2 hlead hdeg
        rw [← HVM.out] at CR0
        have CR := hid CR0
        have HRND := hid HRF.out.2.1
        have HRF3 := hid HRF.out.2.2
        have hrd := HRD.out
        rw [restD] at hrd
        have HFRR : Hid (∃ A T, Fit A T (divK o true ls q s1 r1).r ∧ A ≤ 1000000 ∧ T ≤ 1000000000000) := hid ⟨B2, M2, hfit, by omega, by omega⟩
        generalize divK o true ls q s1 r1 = R at CR HRND HRF3 hrd hdn HFRR
        obtain ⟨re, rq, rr, rn, rs⟩ := R
        simp only at HRND HRF3 hrd hdn HFRR
        have HDN2 := hid hdn
        have HRDX := hid hrd
        have HLW := hid HRA.out.lts
        have HLC := hid HCK.out.lt
        obtain ⟨ar, cr, rfl⟩ := HRV.out.form
        obtain ⟨all, cll, rfl⟩ := htl.form
        obtain ⟨nr, hnr⟩ : ∃ n, n = (ofP r1).length := ⟨_, rfl⟩
        obtain ⟨nl1, hnl1⟩ : ∃ n, n = (ofP (ls.getD q [])).length := ⟨_, rfl⟩
        rw [← hnr, ← hnl1] at CR
        rw [← hnl1] at CC hlc
        rw [← hnr] at HRA
        have HNL := hid hnl1
        have HFS : Hid (∀ Y : World, wr.grownBy Y o → Y.cell? ⟨bl, ol + q, none⟩ = some (.slice all nl1 cll) ∧ Y.cell? ⟨bd, 2, none⟩ = some (.slice ar nr cr)) := hid (fun Y hY =>
          ⟨(World.cell?_of_block (hY.block bl (HSW.out bl hSl).1 hSl.2)).trans hlc, (HRA.out.gb HO.out.toOwn3 HOB.out hY).d2⟩)
        have x0 := Below.drew (Ext.refl wr)
        have HX0 : Hid (Ext wr _) := hid x0
        have S0 := HFS.out _ (gb_of_ext HX0.out o)
        have HC1 := hid (CC.out _ x0)
        clear fp hA2 hB2 hT2 hTb2 hTM2 hFR2 hlead hdeg htl hnr hnl1 hlc x0 hrd CR0 hdn hfit hMM
        simp only [hq1]
        go_wp2
        go_region_held3 (fun Y => Y.cell? ⟨bl, ol + q, none⟩ = some (.slice all nl1 cll) ∧ Y.cell? ⟨bd, 2, none⟩ = some (.slice ar nr cr)) (first | exact S0 | exact S1 | exact S2)
          (first
        | (go_at_call 46; refine HC1.out.mono ?_
           rintro e u1 ⟨rfl, hx1⟩; have HX1 : Hid (Ext wr u1) := hid (Ext.trans HX0.out hx1); have S1 := HFS.out _ (gb_of_ext HX1.out o); have HC2 := hid (CR.out u1 HX1.out); clear hx1)
        | (go_at_call 48; refine HC2.out.mono ?_
           rintro e u2 ⟨q2, x2, rfl, hm2, hg2, hq2, hr2⟩; have HG2 := hid (gb_trans (gb_of_ext HX1.out o) hg2); have S2 := HFS.out _ HG2.out; have HM2 := hid hm2; have HQ2 := hid (hq2.low (Nat.le_trans (Nat.le_of_eq rfl) HX1.out.size)); have HR2 := hid (hr2.low HX1.out.size); have qf := hr2.form; obtain ⟨a2, c2, rfl⟩ := qf; obtain ⟨n2, hn2⟩ : ∃ n, n = (ofP rr).length := ⟨_, rfl⟩; rw [← hn2] at HR2; rw [← hn2]; have qf := hq2.form; obtain ⟨a3, c3, rfl⟩ := qf; obtain ⟨n3, hn3⟩ : ∃ n, n = (ofP rq).length := ⟨_, rfl⟩; rw [← hn3] at HQ2; rw [← hn3]; clear hm2 hg2 hq2 hr2 hn2 hn3))
        all_goals
          have HX2 := hid (gx_gb (lo := br) (hi := hi) HG2.out)
          have HRA2 := hid (HRA.out.gb HO.out.toOwn3 HOB.out HG2.out)
          have HCK2 := hid (HCK.out.gb HG2.out (fun e => by have h1 := HOB.out bc e.symm; have h2 := HO.out.c.1; omega))
          have HCV2 := hid (HCV.out.gx (Nat.le_refl _) HX2.out)
          have HHW : Hid (hi ≤ wr.heap.size) := hid (by rw [HHI.out]; exact HG.out.size)
          have HGW2 : Hid (W.grownBy u2 o) := hid (gb_trans HGW.out HG2.out)
          clear S0 S1 S2
          by_cases h0 : re = 0
          · subst h0
            have HR6 := hid (HRA2.out.setQ HO.out.toOwn3 q (.slice a3 n3 c3))
            have HR7 := hid (HR6.out.setD HO.out.toOwn3 (.slice a2 n2 c2))
            have HR8 := hid (HR7.out.setP HO.out.toOwn3 q (rn : Int) (by rw [HNS.out.1]; exact hqm))
            obtain ⟨W6, hW6⟩ : ∃ Y, Y = u2.setCell ⟨bq, q, none⟩ (.slice a3 n3 c3) := ⟨_, rfl⟩
            rw [← hW6] at HR6 HR7 HR8
            obtain ⟨W7, hW7⟩ : ∃ Y, Y = W6.setCell ⟨bd, 2, none⟩ (.slice a2 n2 c2) := ⟨_, rfl⟩
            rw [← hW7] at HR7 HR8
            obtain ⟨W8, hW8⟩ : ∃ Y, Y = W7.setCell ⟨bp, q, none⟩ (.int .i64 (rn : Nat)) := ⟨_, rfl⟩
            rw [← hW8] at HR8
            have HX8 : Hid (Gx o br hi u2 W8) := hid (by
              have g6 : Gx o br hi u2 W6 := by rw [hW6]; exact gx_set _ (a := ⟨bq, q, none⟩) HO.out.q.1 HO.out.q.2 _
              have g7 : Gx o br hi W6 W7 := by rw [hW7]; exact gx_set _ (a := ⟨bd, 2, none⟩) HO.out.d.1 HO.out.d.2 _
              have g8 : Gx o br hi W7 W8 := by rw [hW8]; exact gx_set _ (a := ⟨bp, q, none⟩) HO.out.p.1 HO.out.p.2 _
              exact (g6.trans g7).trans g8)
            have HM8 : Hid (MV W8 o rs) := hid (by
              have hne : ∀ k, br ≤ k → ∀ b, o = some b → b ≠ k := fun k hk b hb => by have := HOB.out b hb; omega
              rw [hW8, hW7, hW6]
              exact ((HM2.out.set (hne bq HO.out.q.1) (a := ⟨bq, q, none⟩) rfl _).set (hne bd HO.out.d.1) (a := ⟨bd, 2, none⟩) rfl _).set (hne bp HO.out.p.1) (a := ⟨bp, q, none⟩) rfl _)
            have HK8 : Hid (CalcAt W8 bc (.pointer am) 0) := hid (HCK2.out.same (by
              rw [hW8, hW7, hW6]
              exact ((heap_other _ ⟨bp, q, none⟩ _ HO.out.cp).trans (heap_other _ ⟨bd, 2, none⟩ _ HO.out.cd)).trans (heap_other _ ⟨bq, q, none⟩ _ HO.out.cq)))
            have HV8 : Hid (PX o br hi W8 (.slice a2 n2 c2) rr) := hid (PX.on (PMN.px (hi := hi) HR2.out HHW.out) HX8.out)
            have HC8 : Hid (CofV hi o W8 m (setV V q (.slice a3 n3 c3)) (cs1.set q rq)) := hid ((HCV2.out.gx (Nat.le_refl _) HX8.out).set hqm (PMN.gx (PMN.low HQ2.out HHW.out) (Nat.le_refl _) HX8.out))
            have HG8 : Hid (Gx o br hi wc W8) := hid ((HG.out.trans HX2.out).trans HX8.out)
            have HN8 : Hid ((ns1.set q (rn : Int)).length = m ∧ ∀ z ∈ ns1.set q (rn : Int), inI64 z) := hid ⟨by rw [List.length_set]; exact HNS.out.1, fun z hz => by
              rcases List.mem_or_eq_of_mem_set hz with h | h
              · exact HNS.out.2 z h
              · rw [h]; unfold inI64; have h1 := HDN2.out; omega⟩
            have HW6 := hid hW6
            have HW7 := hid hW7
            have HW8 := hid hW8
            have d0 := HRA2.out.d0
            have d1 := HRA2.out.d1
            have d2 := HR6.out.d2
            have dz := HR6.out.dz 2
            have q1 := HRA2.out.Q.cell hqm
            have qz := HRA2.out.Q.frozen q
            have p1 := HR7.out.P.cell hqm
            have pz := HR7.out.P.frozen q
            rw [hW7] at p1 pz
            rw [hW6] at d2 dz p1 pz
            clear hW6 hW7 hW8
            by_cases hn0 : rn = 0
            · have HRC : Hid (roundC o true (ls.getD q []) ls.length q ⟨0, rq, rr, rn, rs⟩ cs1 = (0, rs, cs1.set q rq)) := hid (by
                unfold roundC
                rw [if_neg (fun h => h rfl), if_pos (.inl hn0)])
              have HRD8 : Hid (restD o true ls q rs rr (ns1.set q (rn : Int)) (cs1.set q rq) = X) := hid (by
                have h := HRDX.out
                rw [HRC.out] at h
                exact (if_neg (fun h => h rfl)).symm.trans h)
              have HRF8 : Hid (RestFit o true ls q rs rr (cs1.set q rq)) := hid (by
                have h := HRF3.out
                rw [HRC.out] at h
                exact h rfl)
              subst hn0
              go_wp2
              go_roundw
              case rel =>
                have hww : W8 = W7.setCell ⟨bp, q, none⟩ (.int .i64 0) := HW8.out
                rw [HW7.out, HW6.out] at hww
                rw [← hww]
                exact ⟨q, rs, .slice a2 n2 c2, rr, ns1.set q ((0 : Nat) : Int), setV V q (.slice a3 n3 c3), cs1.set q rq, by omega, by go_num, HM8, HG8, HR8, HK8, HV8, HFRR, HC8, HRF8, HRD8, HN8⟩
              case measure => simp only [intOf]; omega
            · have hrf := HRND.out rfl hn0 trivial
              obtain ⟨P, hP⟩ : ∃ P, P = (powN (initP (ls.getD q [])) rn).getD [] := ⟨_, rfl⟩
              have hn100 : rn ≤ 100 := hrf.hn
              have hpow : powN (initP (ls.getD q [])) rn = some P := by rw [hP]; exact hrf.pow
              have HCOF : Hid ((mkeep o rs P).1 = 0 → CofFit o P m (m - (q + 1)) (mkeep o rs P).2 (cs1.set q rq)) := hid (by rw [hP, HMM.out]; exact hrf.cof)
              obtain ⟨A3, T3, fp3, hA3, hT3, hT3b, hTn3⟩ := hrf.ex
              have hTn3' : T3 ^ rn ≤ 1000000000000 := hTn3
              obtain ⟨Y, hY⟩ : ∃ Y, Y = roundC o true (ls.getD q []) ls.length q ⟨0, rq, rr, rn, rs⟩ cs1 := ⟨_, rfl⟩
              have HY : Hid (Y = if (mkeep o rs P).1 ≠ 0 then ((mkeep o rs P).1, (mkeep o rs P).2, []) else cofD o P m (m - (q + 1)) (mkeep o rs P).2 (cs1.set q rq)) := hid (by
                rw [hY, HMM.out, hP]
                unfold roundC
                rw [if_neg (fun h => h rfl), if_neg (fun h => by rcases h with h | h; exact hn0 h; cases h)])
              have HYE : Hid (Y.1 ≠ 0 → X = (Y.1, Y.2.1, [], [], [])) := hid (fun hy => by
                have h := HRDX.out
                rw [← hY] at h
                exact ((if_pos hy).symm.trans h).symm)
              have HYO : Hid (Y.1 = 0 → restD o true ls q Y.2.1 rr (ns1.set q (rn : Int)) Y.2.2 = X ∧ RestFit o true ls q Y.2.1 rr Y.2.2) := hid (fun hy => by
                have h := HRDX.out
                have h2 := HRF3.out
                rw [← hY] at h h2
                exact ⟨(if_neg (fun k => k hy)).symm.trans h, h2 hy⟩)
              have HOC : Hid (∀ b, o = some b → b ≠ bc) := hid (fun b hb => by have h1 := HOB.out b hb; have h2 := HO.out.c.1; omega)
              have HK8m : Hid (CalcAt W8 bc (mval o) 0) := hid (by rw [← HVM.out]; exact HK8.out)
              have HTL8 := hid (PX.on HTL.out (HX2.out.trans HX8.out))
              have CI := z_initial (PX.pv HTL8.out) fp3 (by omega) hT3b
              have CP0 := fun (Y : World) (u : Value) (hY : Ext W8 Y) (hu : PC o bc Y u (initP (ls.getD q []))) => calc_power (HK8m.out.ext hY) (HM8.out.ext hY) HOC.out hu fp3.init hA3 hT3 hn100 hTn3' hpow
              have CP := hid CP0
              rw [← HNL.out] at CI
              have HCI := hid CI
              have k1 := World.cell?_of_block ((HX2.out.trans HX8.out).block bl (HSW.out bl hSl).1 (HSW.out bl hSl).2.1 (HSW.out bl hSl).2.2) (a := ⟨bl, ol + q, none⟩)
              rw [(HFS.out wr (gb_refl _ _)).1] at k1
              have hww : W8 = _ := HW8.out
              rw [HW7.out, HW6.out] at hww
              rw [hww] at k1
              have HWW := hid hww
              have q0 : ((rn : Int) == 0) = false := by rw [beq_eq_false_iff_ne]; omega
              clear hrf hpow fp3 hA3 hT3 hT3b hTn3 hTn3' hn100 CP0 CI hww hP hY
              go_wp2_with fail
              rw [← HWW.out]
              with_reducible refine HCI.out.mono ?_
              rintro e w9 ⟨vi, rfl, ht9, hx9⟩
              have HX9 := hid hx9
              have HLT8 := hid HK8.out.lt
              have HT9 := hid (ht9.to (S' := NC o bc w9) (Kept.refl _ _) (fun b hb => ⟨hb.2, fun e => by have h1 := HOB.out b e.symm; have h2 := HO.out.c.1; have h3 := HLT8.out; have h4 := hb.1; omega, fun e => by have := hb.1; have := HLT8.out; omega⟩))
              have HCP := hid (CP.out w9 vi hx9 HT9.out)
              obtain ⟨ai, ci, rfl⟩ := ht9.form
              obtain ⟨ni, hni⟩ : ∃ n, n = (ofP (initP (ls.getD q []))).length := ⟨_, rfl⟩
              rw [← hni] at HCP ⊢
              clear hx9 ht9 hni k1 d0 d1 d2 dz q1 qz p1 pz
              go_wp2_with fail
              with_reducible refine HCP.out.mono ?_
              rintro e w10 ⟨v10, rfl, hd10, hm10, hg10, hp10⟩
              have HHI8 : Hid (hi ≤ W8.heap.size) := hid (by rw [HHI.out]; exact HG8.out.size)
              have HHI9 : Hid (hi ≤ w9.heap.size) := hid (Nat.le_trans HHI8.out HX9.out.size)
              have HX10 : Hid (Gx o br hi W8 w10) := hid ((gx_ext HX9.out).trans (gx_gd hg10 HO.out.c.1 HO.out.c.2))
              have HD10 := hid hd10
              have HM10 := hid hm10
              have HR10 := hid ((HR8.out.gb HO.out.toOwn3 HOB.out (gb_of_ext HX9.out o)).gd HO.out HOB.out hg10)
              have HC10 := hid (HC8.out.gx (Nat.le_refl _) HX10.out)
              have HP10 : Hid (PX o br hi w10 v10 P) := hid (hp10.to (Kept.refl _ _) (fun k h => ⟨h.2.1, h.2.2.1, by have h1 := HHI9.out; have h2 := h.1; omega⟩))
              obtain ⟨ap, cp, rfl⟩ := hp10.form
              obtain ⟨np, hnp⟩ : ∃ n, n = (ofP P).length := ⟨_, rfl⟩
              have HNP := hid hnp
              rw [← hnp]
              clear hd10 hm10 hg10 hp10 hnp
              obtain ⟨e1, he1⟩ : ∃ z, z = (mkeep o rs P).1 := ⟨_, rfl⟩
              obtain ⟨s2, hs2⟩ : ∃ z, z = (mkeep o rs P).2 := ⟨_, rfl⟩
              rw [← he1, ← hs2] at HY HCOF
              rw [← he1] at HD10
              rw [← hs2] at HM10
              clear he1 hs2
              go_wp2
              go_loopw [17] (fun i wr => ∃ (t : Nat) (e2 : Int) (s3 : MSt) (V3 : Nat → Value) (cs3 : List PZ), t + (q + 1) ≤ m ∧ i = .int .i64 ((m - t : Nat) : Int) ∧ Hid (Gx o br hi w10 wr) ∧ Hid (MV wr o s3) ∧ Hid (RestAt 23 wr br bd bp bq m (.slice a2 n2 c2) (ns1.set q (rn : Int)) V3) ∧ Hid (CalcAt wr bc (.pointer am) e2) ∧ Hid (FormV m V3) ∧ Hid (e2 = 0 → CofV hi o wr m V3 cs3 ∧ CofFit o P m t s3 cs3 ∧ cofD o P m t s3 cs3 = Y) ∧ Hid (e2 ≠ 0 → Y = (e2, s3, []))) (fun i _ => m - (intOf i).toNat)
              case atStart =>
                refine ⟨m - (q + 1), e1, s2, setV V q (.slice a3 n3 c3), cs1.set q rq, by omega, by go_num, hid (Gx.refl _ _ _ _), HM10, HR10, hid (by rw [HVM.out]; exact HD10.out), hid HC10.out.form, hid (fun h0 => ⟨HC10.out, HCOF.out h0, ?_⟩), hid (fun h0 => ?_)⟩
                · rw [HY.out, if_neg (fun k => k h0)]
                · rw [HY.out, if_pos h0]
              case round =>
                obtain ⟨t, e2, s3, V3, cs3, htm, rfl, HGI, HMI, HRI, HKI, HFI, HCI2, HEI⟩ := hrel
                have HGA := hid (HX10.out.trans HGI.out)
                cases t with
                | zero =>
                  by_cases h2 : e2 = 0
                  · have hh := HCI2.out h2
                    have HYV : Hid (Y = (0, s3, cs3)) := hid hh.2.2.symm
                    have hy := HYO.out (by rw [HYV.out])
                    rw [HYV.out] at hy
                    have HC9 := hid hh.1
                    have HRD9 := hid hy.1
                    have HRF9 := hid hy.2
                    subst h2
                    have c1 := HKI.out.c1
                    clear hh hy
                    go_wp2
                    go_roundw
                    case rel => exact ⟨q, s3, .slice a2 n2 c2, rr, ns1.set q (rn : Int), V3, cs3, by omega, by go_num, HMI, hid (HG8.out.trans HGA.out), HRI, HKI, hid (PX.on HV8.out HGA.out), HFRR, HC9, HRF9, HRD9, HN8⟩
                    case measure => simp only [intOf]; omega
                  · have HXE : Hid (X = (e2, s3, [], [], [])) := hid (by
                      have h := HYE.out (by rw [HEI.out h2]; exact h2)
                      rwa [HEI.out h2] at h)
                    have HGWI : Hid (W.grownBy wr.drew o) := hid (gb_drew ((((gx_ext HX5.out).trans HG8.out).trans HGA.out).gb (by rw [HBR.out]; exact Nat.le_refl _)))
                    have qe : (e2 != 0) = true := by rw [bne_iff_ne]; exact h2
                    have c1 := HKI.out.c1
                    have y0 : wr.cell? ⟨br, 0, none⟩ = some (.slice none 0 0) := HRI.out.r0
                    have y1 : wr.cell? ⟨br, 1, none⟩ = some (.slice none 0 0) := HRI.out.r1
                    have y2 : wr.cell? ⟨br, 2, none⟩ = some (.slice none 0 0) := HRI.out.r2
                    have z0 : wr.frozen? ⟨br, 0, none⟩ = false := HRI.out.rz 0
                    have z1 : wr.frozen? ⟨br, 1, none⟩ = false := HRI.out.rz 1
                    have z2 : wr.frozen? ⟨br, 2, none⟩ = false := HRI.out.rz 2
                    have f0 := st3_0 (a := .slice none 0 0) (b := .slice none 0 0) (c := .slice none 0 0) y0
                    have f1 := st3_1 (a := .slice none 0 0) (b := .slice none 0 0) (c := .slice none 0 0) y1
                    have f2 := st3_2 (a := .slice none 0 0) (b := .slice none 0 0) (c := .slice none 0 0) y2
                    have HFIN := hid (err16 (Y := wr.drew) (e := e2) HO.out.r.2 HBR.out HOB.out (HMI.out.ext (Below.drew (Ext.refl wr))) HGWI.out)
                    unfold st3 at f0 f1 f2 HFIN
                    have HNC := hid HO.out.rc
                    have S0 : wr.drew.cell? ⟨bc, 1, none⟩ = some (.int .i64 e2) := HKI.out.c1
                    clear h2
                    go_wp2
                    go_region_held3 (fun Y => Y.cell? ⟨bc, 1, none⟩ = some (.int .i64 e2)) (first | exact S0 | exact other (other (other S0 (ab HNC.out)) (ab HNC.out)) (ab HNC.out)) (fail)
                    all_goals
                      go_wp2
                      refine bodyPost_ret (v := .tuple #[.agg #[.slice none 0 0, .slice none 0 0, .slice none 0 0], .int .i64 e2]) (by simp [results, Tryz.results16, go_sem, f0, f1, f2]) rfl ?_
                      rw [HXE.out]
                      exact HFIN.out
                | succ t =>
                  obtain ⟨j, hj⟩ : ∃ j, j = m - (t + 1) := ⟨_, rfl⟩
                  have HJT : Hid (m - t = j + 1) := hid (by omega)
                  have hjm : j < m := by omega
                  rw [← hj]
                  have HJ := hid hj
                  have HHIr : Hid (hi ≤ wr.heap.size) := hid (by rw [HHI.out]; exact Nat.le_trans HG8.out.size HGA.out.size)
                  obtain ⟨aj, nj, cj, hvj⟩ := HFI.out j hjm
                  have k0 : wr.cell? ⟨bq, j, none⟩ = some (.slice aj nj cj) := by rw [← hvj]; exact HRI.out.Q.cell hjm
                  have S0 : wr.cell? ⟨bd, 1, none⟩ = some (.slice (some ⟨bq, 0, none⟩) m m) := HRI.out.d1
                  have HQD : Hid (bq ≠ bd) := hid HO.out.dq.symm
                  have HKF := hid (And.intro k0 (HRI.out.Q.frozen j))
                  by_cases h2 : e2 = 0
                  · obtain ⟨HCV3', hcf, hcd⟩ := HCI2.out h2
                    rw [CofFit, ← hj] at hcf
                    rw [cofD, ← hj] at hcd
                    obtain ⟨⟨⟨k5, n5, l5, m5, fc, fP, h24, hk5, hl5, hn5, hm5, hnm⟩, hsome⟩, hnext⟩ := hcf
                    obtain ⟨c, hc⟩ : ∃ c, c = (timesP (cs3.getD j []) P).getD [] := ⟨_, rfl⟩
                    rw [← hc] at hsome hnext hcd
                    have HCV3 := hid HCV3'
                    have HNX := hid hnext
                    have HCD := hid hcd
                    subst h2
                    have hpj := HCV3'.2 j hjm
                    have hPP := PX.on HP10.out HGI.out
                    rw [hvj] at hpj
                    have CT0 := fun (Y : World) (hY : Ext wr Y) => calc_times (HKI.out.ext hY) (Terms.on (PMN.pv hpj) hY) (Terms.on (PX.pv hPP) hY) fc fP h24 (by omega) (by omega) hnm hsome
                    rw [← HNP.out] at CT0
                    have HCT := hid CT0
                    have HCK := hid (fun (Y : World) (u : Value) (hY : Gd none bc wr Y) (hD : CalcAt Y bc (mval o) 0) (hu : PM o Y u c) => calc_keep hD (HMI.out.gdn hY HOC.out) HOC.out hu)
                    have HC1 := hid (HCT.out _ (Below.drew (Ext.refl wr)))
                    have HBC := hid HKI.out.lt
                    clear hcd fc fP h24 hk5 hl5 hn5 hm5 hnm hsome hnext hc HCV3' hpj hPP CT0 hvj hj
                    go_wp2
                    first
                      | go_region_with
                          (first
                        | (go_at_call 43; refine HC1.out.mono ?_
                           rintro e u1 ⟨x1, rfl, hd1, hg1, ht1⟩; have HGU1 : Hid (Gd none bc wr u1) := hid ((gd_ext (Below.drew (Ext.refl wr))).trans hg1); have HRU1 := hid (HRI.out.gdn HO.out HGU1.out); have S1 := HRU1.out.d1; have HPN : Hid (PMN hi o u1 x1 c) := hid (ht1.to (Kept.refl _ _) (fun k h => ⟨Nat.le_trans HHIr.out h.1, h.2, fun e => by have a1 := HOB.out k e.symm; have a2 := h.1; have a3 := HHIr.out; have a4 := HLH.out; have a5 : wr.heap.size ≤ k := h.1; omega⟩)); have HC2 := hid (HCK.out u1 x1 HGU1.out (by rw [← HVM.out]; exact hd1) HPN.out.pm); have qf := ht1.form; obtain ⟨a5, c5, rfl⟩ := qf; obtain ⟨n5, hn5⟩ : ∃ n, n = (ofP c).length := ⟨_, rfl⟩; have HN5 := hid hn5; rw [← hn5] at HC2; rw [← hn5]; clear hd1 hg1 ht1 hn5)
                        | (go_at_call 49; refine HC2.out.mono ?_
                           rintro e u2 ⟨rfl, hd2, hm2, hg2⟩; have HRU2 := hid (HRU1.out.gd HO.out HOB.out hg2); have S2 := HRU2.out.d1; have HD2 := hid hd2; have HM2 := hid hm2; have HGU2 : Hid (Gd o bc wr u2) := hid (HGU1.out.of_none.trans hg2); have HGW := hid hg2; have k1 := HRU2.out.Q.cell hjm; have k2 := HRU2.out.Q.frozen j; clear hd2 hm2 hg2))
                      | fail
                    all_goals
                      have HR9 := hid (HRU2.out.setQ HO.out.toOwn3 j (.slice a5 n5 c5))
                      have HG9 : Hid (Gx o br hi wr u2) := hid (gx_gd HGU2.out HO.out.c.1 HO.out.c.2)
                      have HS9 : Hid (Gx o br hi u2 (u2.setCell ⟨bq, j, none⟩ (.slice a5 n5 c5))) := hid (gx_set u2 (a := ⟨bq, j, none⟩) HO.out.q.1 HO.out.q.2 _)
                      have HM9 : Hid (MV (u2.setCell ⟨bq, j, none⟩ (.slice a5 n5 c5)) o (mkeep o s3 c).2) := hid (HM2.out.set (a := ⟨bq, j, none⟩) (bd := bq) (fun b hb e => by have h1 := HOB.out b hb; have h2 := HO.out.q.1; omega) rfl _)
                      have HK9 : Hid (CalcAt (u2.setCell ⟨bq, j, none⟩ (.slice a5 n5 c5)) bc (.pointer am) (mkeep o s3 c).1) := hid (by rw [HVM.out]; exact HD2.out.same (heap_other u2 ⟨bq, j, none⟩ _ HO.out.cq))
                      have HPN9 : Hid (PMN hi o (u2.setCell ⟨bq, j, none⟩ (.slice a5 n5 c5)) (.slice a5 n5 c5) c) := hid (by
                        have h := HPN.out
                        rw [← HN5.out] at h
                        exact PMN.gx h (Nat.le_refl _) ((gx_gd HGW.out HO.out.c.1 HO.out.c.2).trans HS9.out))
                      have HC9 := hid ((HCV3.out.gx (Nat.le_refl _) (HG9.out.trans HS9.out)).set hjm HPN9.out)
                      go_wp2
                      go_roundw
                      case rel =>
                        refine ⟨t, (mkeep o s3 c).1, (mkeep o s3 c).2, setV V3 j (.slice a5 n5 c5), cs3.set j c, by omega, by rw [HJT.out]; go_num, hid ((HGI.out.trans HG9.out).trans HS9.out), HM9, HR9, HK9, hid (HFI.out.set j ⟨_, _, _, rfl⟩), hid (fun h0 => ⟨HC9.out, HNX.out h0, ?_⟩), hid (fun h0 => ?_)⟩
                        · have h := HCD.out
                          rwa [if_neg (fun k => k h0)] at h
                        · have h := HCD.out
                          rw [if_pos h0] at h
                          exact h.symm
                      case measure => simp only [intOf]; omega
                  · have HC1 : Hid (∀ Y : World, Ext wr Y → Calls Tryz.prog 43 #[.pointer (some ⟨bc, 0, none⟩), .slice aj nj cj, .slice ap np cp] Y fun e w' => e = .returned (.slice none 0 0) ∧ Ext Y w') := hid (fun Y hY => (calc_times_skip (HKI.out.ext hY) ⟨_, _, _, rfl⟩ ⟨_, _, _, rfl⟩ h2).mono (by rintro e w' ⟨rfl, rfl⟩; exact ⟨rfl, Ext.refl _⟩))
                    have HC2 : Hid (∀ Y : World, Ext wr Y → Calls Tryz.prog 49 #[.pointer (some ⟨bc, 0, none⟩), .slice none 0 0] Y fun e w' => e = .returned (.slice none 0 0) ∧ Ext Y w') := hid (fun Y hY => (calc_keep_skip (HKI.out.ext hY) ⟨_, _, _, rfl⟩ h2).mono (by rintro e w' ⟨rfl, rfl⟩; exact ⟨rfl, Ext.refl _⟩))
                    have HC1a := hid (HC1.out _ (Below.drew (Ext.refl wr)))
                    have HYV := hid (HEI.out h2)
                    have HE2 := hid h2
                    clear h2 hj hvj
                    go_wp2
                    first
                      | go_region_with
                          (first
                        | (go_at_call 43; with_reducible refine HC1a.out.mono ?_
                           rintro e u1 ⟨rfl, hx1⟩; have HU1 : Hid (Ext wr u1) := hid ((Below.drew (Ext.refl wr)).trans hx1); have S1 := (HRI.out.gb HO.out.toOwn3 HOB.out (gb_of_ext HU1.out o)).d1; have HC2a := hid (HC2.out u1 HU1.out); clear hx1)
                        | (go_at_call 49; with_reducible refine HC2a.out.mono ?_
                           rintro e u2 ⟨rfl, hx2⟩; have HU2 : Hid (Ext wr u2) := hid (HU1.out.trans hx2); have HRU2 := hid (HRI.out.gb HO.out.toOwn3 HOB.out (gb_of_ext HU2.out o)); have S2 := HRU2.out.d1; have k1 := HRU2.out.Q.cell hjm; have k2 := HRU2.out.Q.frozen j; clear hx2))
                      | fail
                    all_goals
                      have HR9 := hid (HRU2.out.setQ HO.out.toOwn3 j (.slice none 0 0))
                      have HG9 : Hid (Gx o br hi wr u2) := hid (gx_ext HU2.out)
                      have HS9 : Hid (Gx o br hi u2 (u2.setCell ⟨bq, j, none⟩ (.slice none 0 0))) := hid (gx_set u2 (a := ⟨bq, j, none⟩) HO.out.q.1 HO.out.q.2 _)
                      have HM9 : Hid (MV (u2.setCell ⟨bq, j, none⟩ (.slice none 0 0)) o s3) := hid ((HMI.out.ext HU2.out).set (a := ⟨bq, j, none⟩) (bd := bq) (fun b hb e => by have h1 := HOB.out b hb; have h2 := HO.out.q.1; omega) rfl _)
                      have HK9 : Hid (CalcAt (u2.setCell ⟨bq, j, none⟩ (.slice none 0 0)) bc (.pointer am) e2) := hid ((HKI.out.ext HU2.out).same (heap_other u2 ⟨bq, j, none⟩ _ HO.out.cq))
                      go_wp2
                      go_roundw
                      case rel =>
                        exact ⟨t, e2, s3, setV V3 j (.slice none 0 0), cs3, by omega, by rw [HJT.out]; go_num, hid ((HGI.out.trans HG9.out).trans HS9.out), HM9, HR9, HK9, hid (HFI.out.set j ⟨_, _, _, rfl⟩), hid (fun h0 => absurd h0 HE2.out), hid (fun _ => HYV.out)⟩
                      case measure => simp only [intOf]; omega
          · have HXE : Hid (X = (re, rs, [], [], [])) := hid (by
              have h := HRDX.out
              have h1 : roundC o true (ls.getD q []) ls.length q ⟨re, rq, rr, rn, rs⟩ cs1 = (re, rs, []) := by unfold roundC; exact if_pos h0
              rw [h1, if_pos h0] at h
              exact h.symm)
            have q0 : (re != 0) = true := by rw [bne_iff_ne]; exact h0
            have y0 := HRA2.out.r0
            have y1 := HRA2.out.r1
            have y2 := HRA2.out.r2
            have z0 := HRA2.out.rz 0
            have z1 := HRA2.out.rz 1
            have z2 := HRA2.out.rz 2
            have f0 := st3_0 (a := .slice none 0 0) (b := .slice none 0 0) (c := .slice none 0 0) y0
            have f1 := st3_1 (a := .slice none 0 0) (b := .slice none 0 0) (c := .slice none 0 0) y1
            have f2 := st3_2 (a := .slice none 0 0) (b := .slice none 0 0) (c := .slice none 0 0) y2
            have HFIN := hid (err16 (e := re) HO.out.r.2 HBR.out HOB.out HM2.out HGW2.out)
            unfold st3 at f0 f1 f2 HFIN
            clear h0
            go_wp2
            all_goals
              refine bodyPost_ret (v := .tuple #[.agg #[.slice none 0 0, .slice none 0 0, .slice none 0 0], .int .i64 re]) (by simp [results, Tryz.results16, go_sem, f0, f1, f2]) rfl ?_
              rw [HXE.out]
              exact HFIN.out
end Go.Proofs.YthdcaablomgboaaGreat

namespace Go.Proofs.YthdcaablomgboaaGreat
open Go.RowKit Go.Deep Go.ChangeShapes Go.WideShapes

theorem list_of_lt {α : Type} {n : Nat} {p : Nat → α → Prop} (h : ∀ i, i < n → ∃ x, p i x) : ∃ l : List α, l.length = n ∧ ∀ i x, l[i]? = some x → p i x := by
  induction n with
  | zero => exact ⟨[], rfl, fun i x hx => by simp at hx⟩
  | succ n ih =>
    obtain ⟨l, hl, hp⟩ := ih (fun i hi => h i (Nat.lt_succ_of_lt hi))
    obtain ⟨x, hx⟩ := h n (Nat.lt_succ_self n)
    refine ⟨l ++ [x], by simp [hl], fun i y hy => ?_⟩
    rw [List.getElem?_append] at hy
    split at hy
    · exact hp i y hy
    · rename_i hi
      have : i = n := by
        have := lt_of_some hy
        simp at this
        omega
      subst this
      simp [hl] at hy
      exact hy ▸ hx

theorem list_two {α : Type} {l : List α} (h : l.length = 2) : ∃ a b, l = [a, b] := by
  match l, h with
  | [a, b], _ => exact ⟨a, b, rfl⟩
theorem list_three {α : Type} {l : List α} (h : l.length = 3) : ∃ a b c, l = [a, b, c] := by
  match l, h with
  | [a, b, c], _ => exact ⟨a, b, c, rfl⟩

section
variable {H : Type} {enc : TypeId × Value → H} {w : World} {base : Nat} {spare : Nat → Bool} {held : Bool}

/-- A slice that is read: where its elements lie, each with its own reading. -/
theorem open_slice_at {t e : TypeId} {fuel sz : Nat} {v : Value} {x : DataW H × List MemPlace} (ht : Tryz.prog.underlying t = some (.slice e)) (hsz : Tryz.prog.cellsOf e = sz) (hpos : 0 < sz)
    (h : DataW.trod enc Tryz.prog w base spare held fuel t [v] = some x) :
    ∃ (n b off fuel' : Nat), SliceAt (· < w.heap.size) v n b off ∧ ∀ j, j < n → ∃ (cs : List Value) (y : DataW H × List MemPlace), cs.length = sz ∧ (∀ i, i < sz → w.cell? ⟨b, off + j * sz + i, none⟩ = cs[i]?) ∧ DataW.trod enc Tryz.prog w base spare held fuel' e cs = some y := by
  rcases open_slice ht h with ⟨hcs, _⟩ | ⟨a, len, cap, m, fuel', D, Pl, hcs, hb, hl, hm, hmm, _, hx⟩
  · obtain rfl : v = .slice none 0 0 := by simpa using hcs
    exact ⟨0, 0, 0, 0, ⟨none, 0, rfl, Nat.le_refl _, Nat.zero_le _, fun h => absurd h (by omega), fun h => absurd h (by omega)⟩, fun j hj => absurd hj (by omega)⟩
  · obtain rfl : v = .slice (some a) len cap := by simpa using hcs
    rw [hsz] at hx
    have hlm : len ≤ m := by rw [hmm]; split <;> omega
    have key : ∀ j, j < len → ∃ (cs : List Value) (y : DataW H × List MemPlace), cs.length = sz ∧ (∀ i, i < sz → w.cell? ((a.add (j * sz)).add i) = cs[i]?) ∧ DataW.trod enc Tryz.prog w base spare held fuel' e cs = some y := by
      intro j hj
      obtain ⟨cs, h1, h2⟩ := hx j (by omega)
      obtain ⟨_, h3, h4⟩ := World.cells?_some h1
      exact ⟨cs, _, h3, h4, h2⟩
    by_cases h0 : 0 < len
    · have hsp : a.spot = none := by
        obtain ⟨cs, _, h3, h4, _⟩ := key 0 h0
        have h5 := h4 0 hpos
        have e0 : (a.add (0 * sz)).add 0 = a := by simp [Addr.add]
        rw [e0, List.getElem?_eq_getElem (by omega)] at h5
        unfold World.cell? at h5
        split at h5
        · cases hs : a.spot with
          | none => rfl
          | some z => simp [hs] at h5
        · exact absurd h5 (by simp)
      obtain ⟨b, off, spot⟩ := a
      obtain rfl : spot = none := hsp
      have add_eq : ∀ j i, ((⟨b, off, none⟩ : Addr).add (j * sz)).add i = ⟨b, off + j * sz + i, none⟩ := by
        intro j i
        unfold Addr.add
        by_cases h1 : j * sz = 0 <;> by_cases h2 : i = 0 <;> simp [h1, h2]
      refine ⟨len, b, off, fuel', ⟨_, cap, rfl, hl, hm, fun _ => rfl, fun _ => ?_⟩, fun j hj => ?_⟩
      · obtain ⟨cs, _, h3, h4, _⟩ := key 0 h0
        have h5 := h4 0 hpos
        rw [add_eq, List.getElem?_eq_getElem (by omega)] at h5
        exact lt_of_cell h5
      · obtain ⟨cs, y, h3, h4, h5⟩ := key j hj
        exact ⟨cs, y, h3, fun i hi => by rw [← add_eq]; exact h4 i hi, h5⟩
    · exact ⟨len, 0, 0, fuel', ⟨_, cap, rfl, hl, hm, fun h => absurd h h0, fun h => absurd h h0⟩, fun j hj => absurd hj (by omega)⟩

theorem bounds_i64 {n : Int} (h : (Lit.int .i64 n).wf = true) : -9223372036854775808 ≤ n ∧ n ≤ 9223372036854775807 := by
  simpa [Lit.wf, IntKind.min, IntKind.max, IntKind.signed, IntKind.bits] using h
theorem bounds_u32 {n : Int} (h : (Lit.int .u32 n).wf = true) : 0 ≤ n ∧ n < 4294967296 := by
  have : 0 ≤ n ∧ n ≤ 4294967295 := by simpa [Lit.wf, IntKind.min, IntKind.max, IntKind.signed, IntKind.bits] using h
  omega

theorem Tryz.cells_u32 : Tryz.prog.cellsOf 111 = 1 := by kernel_rfl
theorem Tryz.cells_power : Tryz.prog.cellsOf 85 = 2 := by kernel_rfl
theorem Tryz.cells_term : Tryz.prog.cellsOf 83 = 3 := by kernel_rfl
theorem Tryz.cells_int : Tryz.prog.cellsOf 72 = 2 := by kernel_rfl
theorem Tryz.cells_mono : Tryz.prog.cellsOf 81 = 1 := by kernel_rfl
theorem Tryz.cells_bool : Tryz.prog.cellsOf 4 = 1 := by kernel_rfl
theorem Tryz.cells_i64 : Tryz.prog.cellsOf 3 = 1 := by kernel_rfl
theorem Tryz.cells_su32 : Tryz.prog.cellsOf 70 = 1 := by kernel_rfl

theorem open_u32s {fuel : Nat} {v : Value} {x : DataW H × List MemPlace} (h : DataW.trod enc Tryz.prog w base spare held fuel 70 [v] = some x) : ∃ zs, U32s (· < w.heap.size) w v zs := by
  obtain ⟨n, b, off, f', hs, hx⟩ := open_slice_at Tryz.underlying70 Tryz.cells_u32 (by omega) h
  obtain ⟨zs, hl, hz⟩ := list_of_lt (p := fun j (z : Nat) => z < 4294967296 ∧ w.cell? ⟨b, off + j, none⟩ = some (.int .u32 (z : Nat))) (n := n) (fun j hj => by
    obtain ⟨cs, y, h1, h2, h3⟩ := hx j hj
    obtain ⟨m, rfl, _, hw⟩ := DataW.trod_int Tryz.underlying111 h3
    have := bounds_u32 hw
    have h4 := h2 0 (by omega)
    refine ⟨m.toNat, by omega, ?_⟩
    simp only [Nat.mul_one, Nat.add_zero] at h4
    rw [h4]
    simp
    omega)
  subst hl
  exact ⟨zs, b, off, hs, hz⟩

theorem open_pows {fuel : Nat} {v : Value} {x : DataW H × List MemPlace} (h : DataW.trod enc Tryz.prog w base spare held fuel 81 [v] = some x) : ∃ ps, Pows (· < w.heap.size) w v ps := by
  obtain ⟨n, b, off, f', hs, hx⟩ := open_slice_at Tryz.underlying81 Tryz.cells_power (by omega) h
  obtain ⟨ps, hl, hp⟩ := list_of_lt (p := fun j (x : Int × Int) => ((-9223372036854775808 ≤ x.1 ∧ x.1 ≤ 9223372036854775807) ∧ -9223372036854775808 ≤ x.2 ∧ x.2 ≤ 9223372036854775807) ∧
    w.cell? ⟨b, off + j * 2, none⟩ = some (.int .i64 x.1) ∧ w.cell? ⟨b, off + j * 2 + 1, none⟩ = some (.int .i64 x.2)) (n := n) (fun j hj => by
    obtain ⟨cs, y, h1, h2, h3⟩ := hx j hj
    obtain ⟨y0, y1, m, _, _, g0, g1⟩ := trod_struct2 Tryz.underlying85 h3
    obtain ⟨n0, e0, _, w0⟩ := DataW.trod_int Tryz.underlying3 g0
    obtain ⟨n1, e1, _, w1⟩ := DataW.trod_int Tryz.underlying3 g1
    obtain ⟨c0, c1, rfl⟩ := list_two h1
    simp [Tryz.cells_i64] at e0 e1
    subst e0 e1
    exact ⟨(n0, n1), ⟨bounds_i64 w0, bounds_i64 w1⟩, h2 0 (by omega), h2 1 (by omega)⟩)
  subst hl
  exact ⟨ps, b, off, hs, hp⟩

theorem open_terms {fuel : Nat} {v : Value} {x : DataW H × List MemPlace} (h : DataW.trod enc Tryz.prog w base spare held fuel 23 [v] = some x) : ∃ ts, Terms (· < w.heap.size) w v ts := by
  obtain ⟨n, b, off, f', hs, hx⟩ := open_slice_at Tryz.underlying23 Tryz.cells_term (by omega) h
  obtain ⟨ts, hl, hp⟩ := list_of_lt (p := fun j (t : RTerm) => ∃ vm vo, w.cell? ⟨b, off + j * 3, none⟩ = some (.bool t.c.neg) ∧
    w.cell? ⟨b, off + j * 3 + 1, none⟩ = some vm ∧ w.cell? ⟨b, off + j * 3 + 2, none⟩ = some vo ∧ U32s (· < w.heap.size) w vm t.c.mag ∧ Pows (· < w.heap.size) w vo t.m) (n := n) (fun j hj => by
    obtain ⟨cs, y, h1, h2, h3⟩ := hx j hj
    obtain ⟨y0, y1, m, _, _, g0, g1⟩ := trod_struct2 Tryz.underlying83 h3
    obtain ⟨c0, c1, c2, rfl⟩ := list_three h1
    simp [Tryz.cells_int, Tryz.cells_mono] at g0 g1
    obtain ⟨z0, z1, m', _, _, k0, k1⟩ := trod_struct2 Tryz.underlying72 g0
    simp [Tryz.cells_bool, Tryz.cells_su32] at k0 k1
    obtain ⟨ng, e0, _⟩ := DataW.trod_bool Tryz.underlying4 k0
    simp at e0
    subst e0
    obtain ⟨zs, hzs⟩ := open_u32s k1
    obtain ⟨ps, hps⟩ := open_pows g1
    exact ⟨⟨⟨ng, zs⟩, ps⟩, c1, c2, h2 0 (by omega), h2 1 (by omega), h2 2 (by omega), hzs, hps⟩)
  subst hl
  exact ⟨ts, b, off, hs, hp⟩
end
end Go.Proofs.YthdcaablomgboaaGreat

namespace Go.Proofs.YthdcaablomgboaaGreat
open Go.RowKit Go.Deep Go.ChangeShapes Go.WideShapes Go.ChangeAt

theorem Tryz.own : ownKnob Tryz.prog.godebug = none := by kernel_rfl
theorem Tryz.laidOut : laidOutB Tryz.prog = true := by kernel_rfl

theorem trodAll_below {H : Type} {enc : TypeId × Value → H} {W W' : World} (hb : Below W.heap.size W W') :
    ∀ {ts : List TypeId} {vs : List Value} {ds : List (DataW H)} {p : List MemPlace}, (∀ t ∈ ts, Tryz.prog.readableRec t = true ∧ t < Tryz.prog.types.size) → (∀ x ∈ p, x.block < W.heap.size) →
    DataW.TrodAll enc Tryz.prog W 0 (fun _ => true) true ts vs ds p → DataW.TrodAll enc Tryz.prog W' 0 (fun b => decide (b < W.heap.size)) true ts vs ds p := by
  intro ts
  induction ts with
  | nil =>
    intro vs ds p _ _ h
    cases vs <;> cases ds <;> first | exact h | exact h.elim
  | cons t ts ih =>
    intro vs ds p ht hlt h
    cases vs with
    | nil => exact h.elim
    | cons v vs =>
      cases ds with
      | nil => exact h.elim
      | cons d ds =>
        obtain ⟨p1, q1, h1, h2, rfl⟩ := h
        refine ⟨p1, q1, ?_, ih (fun x hx => ht x (List.mem_cons_of_mem _ hx)) (fun x hx => hlt x (List.mem_append_right _ hx)) h2, rfl⟩
        exact Below.trod Tryz.laidOut (ht t (List.mem_cons_self)).1 (ht t (List.mem_cons_self)).2 h1 hb (fun x hx => hlt x (List.mem_append_left _ hx))

/-- the arguments that are read -/
theorem law_post {H : Type} {enc : TypeId × Value → H} {F : Func} {s : ChangeSpec} {W W' : World} {args : Array Value} {ds gs : List (DataW H)} {before : List MemPlace}
    (hW : DataW.Whole enc Tryz.prog F.params.toList s.vars false W args.toList ds gs before) (hv : s.vars = []) (hr : F.resultTypes = #[4])
    (hs : s.fn H (ds ++ gs) = { results := [.lit (.bool true)], args := ds }) (ht : ∀ t ∈ F.params.toList, Tryz.prog.readableRec t = true ∧ t < Tryz.prog.types.size)
    (hb : Below W.heap.size W W') : s.post enc Tryz.prog F false true false false W args (.bool true) W' := by
  have hlt := fun p hp => hW.lt p hp
  have hW' := hW
  obtain ⟨p, q, hA, hV, rfl, _, _⟩ := hW
  rw [hv] at hV
  obtain ⟨rfl, rfl⟩ := trodVars_none hV
  refine ⟨ds, _, _, [], p, [], hW', ?_, ?_, ?_, hb.frame _, fun h => by cases h⟩
  · rw [hs, hr]
    exact trodAll_mk1 (shut_bool Tryz.underlying4 true)
  · rw [hs]
    exact trodAll_below hb ht (fun x hx => hlt x (List.mem_append_left _ hx)) hA
  · rw [hs, hv]
    rfl
end Go.Proofs.YthdcaablomgboaaGreat

namespace Go.Proofs.YthdcaablomgboaaGreat
open Go.RowKit Go.Deep Go.ChangeShapes Go.WideShapes Go.ChangeAt

set_option maxRecDepth 100000 in
theorem slice_cells {t e : TypeId} {W : World} {base : Nat} {v : Value} (ht : Tryz.prog.underlying t = some (.slice e)) (hv : Value.okWide Tryz.prog W .any base t v) : v.cells.toList = [v] := by
  obtain ⟨a, len, cap, rfl⟩ := okWide_slice ht hv
  rfl
theorem Tryz.cells_poly : Tryz.prog.cellsOf 23 = 1 := by kernel_rfl
section
variable {H : Type} {enc : TypeId × Value → H} {w : World} {base : Nat} {spare : Nat → Bool} {held : Bool}
theorem open_polys {fuel : Nat} {v : Value} {x : DataW H × List MemPlace} (h : DataW.trod enc Tryz.prog w base spare held fuel 24 [v] = some x) : ∃ ls, Polys (· < w.heap.size) w v ls := by
  obtain ⟨n, b, off, f', hs, hx⟩ := open_slice_at Tryz.underlying24 Tryz.cells_poly (by omega) h
  obtain ⟨ls, hl, hp⟩ := list_of_lt (p := fun j (t : List RTerm) => ∃ vp, w.cell? ⟨b, off + j, none⟩ = some vp ∧ Terms (· < w.heap.size) w vp t) (n := n) (fun j hj => by
    obtain ⟨cs, y, h1, h2, h3⟩ := hx j hj
    match cs, h1 with
    | [c], _ =>
      obtain ⟨ts, hts⟩ := open_terms h3
      have h4 := h2 0 (by omega)
      simp only [Nat.mul_one, Nat.add_zero] at h4
      exact ⟨ts, c, h4, hts⟩)
  subst hl
  exact ⟨ls, b, off, hs, hp⟩
end

end Go.Proofs.YthdcaablomgboaaGreat

namespace Go.Proofs.YthdcaablomgboaaGreat
open Go.RowKit

section
variable {W Y Y' : World} {S : Nat → Prop} {o : Option Nat} {u v : Value} {p q : PZ} {k l n m : Nat}
/-- a document's polynomial in given blocks, or in such as are newer than a world -/
abbrev RQ (S : Nat → Prop) (W Y : World) (v : Value) (p : PZ) : Prop := RTs (Plus S W Y) Y v p
theorem rq_lt (hS : ∀ k, S k → k < W.heap.size) (hz : W.heap.size ≤ Y.heap.size) : ∀ k, Plus S W Y k → k < Y.heap.size := fun k hk => by
  rcases hk with h | h
  · exact Nat.lt_of_lt_of_le (hS k h) hz
  · exact h.2
theorem RQ.old (hS : ∀ k, S k → k < W.heap.size) (hz : W.heap.size ≤ Y.heap.size) (h : RQ S W Y v p) : RV Y v p := h.to (Kept.refl _ _) (rq_lt hS hz)
theorem RQ.on (hS : ∀ k, S k → k < W.heap.size) (hz : W.heap.size ≤ Y.heap.size) (ho : ∀ b, o = some b → b < W.heap.size ∧ ¬ S b) (h : RQ S W Y v p) (g : Y.grownBy Y' o) : RQ S W Y' v p :=
  h.to (fun k hk => g.block k (rq_lt hS hz k hk) (fun e => by
    have h1 := ho k e.symm
    rcases hk with h | h
    · exact h1.2 h
    · have := h.1; omega)) (fun k hk => by
    rcases hk with h | h
    · exact .inl h
    · exact .inr ⟨h.1, Nat.lt_of_lt_of_le h.2 g.size⟩)
theorem RQ.ext (hS : ∀ k, S k → k < W.heap.size) (hz : W.heap.size ≤ Y.heap.size) (h : RQ S W Y v p) (g : Ext Y Y') : RQ S W Y' v p := RQ.on (o := none) hS hz (fun _ e => by cases e) h (gb_of_ext g none)
theorem RQ.of (h : RTs S W v p) : RQ S W W v p := h.to (Kept.refl _ _) (fun _ h => .inl h)
end

section
variable {o : Option Nat} {keep : Bool} {g h q r : PZ} {v d c1 c2 c3 : Int} {s s1 s2 s3 : MSt} {x : PZ × PZ}
end

end Go.Proofs.YthdcaablomgboaaGreat

namespace Go.Proofs.YthdcaablomgboaaGreat
open Go.RowKit

end Go.Proofs.YthdcaablomgboaaGreat

namespace Go.Proofs.YthdcaablomgboaaGreat
open Go.RowKit

theorem new_okS {a b c d : Int} (h : mayLimits a b c d) : (MSt.new a b c d).Ok := by
  obtain ⟨⟨a0, a1⟩, ⟨b0, b1⟩, ⟨c0, c1⟩, d0, d1⟩ := h
  exact ⟨a0, a1, b0, b1, c0, c1, d0, d1, by show (0 : Int) ≤ 0; decide, a0, by show (0 : Int) ≤ 0; decide, d0⟩

end Go.Proofs.YthdcaablomgboaaGreat

namespace Go.Proofs.YthdcaablomgboaaGreat
open Go.RowKit

theorem ex_le {m : Mono} {E : Int} (h0 : 0 ≤ E) (h : ∀ y ∈ m, y.2 ≤ E) (u : Int) : ex m u ≤ E := by
  induction m with
  | nil => simp [ex]; exact h0
  | cons y r ih =>
    rw [ex]
    split
    · exact h y (by simp)
    · exact ih (fun z hz => h z (by simp [hz]))
section
variable {F G : PZ} {x : Int}
end
end Go.Proofs.YthdcaablomgboaaGreat

namespace Go.Proofs.YthdcaablomgboaaGreat
open Go.RowKit Go.Deep Go.ChangeShapes Go.WideShapes Go.ChangeAt Go.Joins

section
variable {H : Type} {enc : TypeId × Value → H} {P : Program} {w : World} {base : Nat} {spare : Nat → Bool} {held : Bool}
end
section
variable {H : Type} {enc : TypeId × Value → H} {W : World} {base b0 : Nat} {sp : Nat → Bool} {held : Bool}
set_option maxRecDepth 100000 in
theorem int_arg12 {fuel : Nat} {v : Value} {x : DataW H × List MemPlace} (hv : Value.okWide Tryz.prog W .any base 3 v) (h : DataW.trod enc Tryz.prog W b0 sp held fuel 3 v.cells.toList = some x) : ∃ n, v = .int .i64 n ∧ inI64 n := by
  obtain ⟨n, rfl⟩ := okWide_int Tryz.underlying3 hv
  obtain ⟨m, e, -, hw⟩ := DataW.trod_int Tryz.underlying3 h
  have e' : [Value.int .i64 n] = [.int .i64 m] := e
  obtain rfl : n = m := by simpa using e'
  exact ⟨n, rfl, bounds_i64 hw⟩
end
end Go.Proofs.YthdcaablomgboaaGreat

namespace Go.Proofs.YthdcaablomgboaaGreat
open Go.RowKit Go.Deep Go.ChangeShapes Go.WideShapes Go.ChangeAt Go.Joins

section
variable {H : Type} {enc : TypeId × Value → H} {w : World} {base : Nat} {spare : Nat → Bool} {held : Bool}
theorem open_ints {fuel : Nat} {v : Value} {x : DataW H × List MemPlace} (h : DataW.trod enc Tryz.prog w base spare held fuel 25 [v] = some x) : ∃ ns, Ints (· < w.heap.size) w v ns := by
  obtain ⟨n, b, off, f', hs, hx⟩ := open_slice_at Tryz.underlying25 Tryz.cells_i64 (by omega) h
  obtain ⟨ns, hl, hp⟩ := list_of_lt (p := fun j (z : Int) => inI64 z ∧ w.cell? ⟨b, off + j, none⟩ = some (.int .i64 z)) (n := n) (fun j hj => by
    obtain ⟨cs, y, h1, h2, h3⟩ := hx j hj
    match cs, h1 with
    | [c], _ =>
      obtain ⟨m, e, -, hw⟩ := DataW.trod_int Tryz.underlying3 h3
      have h4 := h2 0 (by omega)
      simp only [Nat.mul_one, Nat.add_zero] at h4
      have e' : [c] = [Value.int .i64 m] := e
      obtain rfl : c = .int .i64 m := by simpa using e'
      exact ⟨m, bounds_i64 hw, h4⟩)
  subst hl
  exact ⟨ns, b, off, hs, hp⟩
end
theorem Tryz.cells_division : Tryz.prog.cellsOf 27 = 3 := by kernel_rfl
theorem Tryz.cells_ints : Tryz.prog.cellsOf 25 = 1 := by kernel_rfl
theorem Tryz.cells_polys : Tryz.prog.cellsOf 24 = 1 := by kernel_rfl
section
variable {H : Type} {enc : TypeId × Value → H} {W : World} {base b0 : Nat} {sp : Nat → Bool} {held : Bool}
end
end Go.Proofs.YthdcaablomgboaaGreat

namespace Go.Proofs.YthdcaablomgboaaGreat
open Go.RowKit Go.Deep

theorem pair_new (w : World) (a b : Value) (T : TypeId) : (w.alloc (.cells #[a, b] T)).cell? ⟨w.heap.size, 0, none⟩ = some a ∧ (w.alloc (.cells #[a, b] T)).cell? ⟨w.heap.size, 1, none⟩ = some b := ⟨cell_new _ _ _ rfl rfl, cell_new _ _ _ rfl rfl⟩
theorem k16_may : mayC 0 (k16L.map ofP) = true := by kernel_rfl
theorem k16_not : mayC 0 ([k16B, k16A].map ofP) = false := by kernel_rfl
theorem k16_small {l : List PZ} (h : ∀ p ∈ l, tinyP p = true ∧ canP p) : smallL (l.map ofP) := fun t ht => by
  obtain ⟨p, hp, rfl⟩ := List.mem_map.1 ht
  exact (tiny_fit (h p hp).2 (h p hp).1).small (by decide)
theorem k16_all : ∀ p ∈ k16L, tinyP p = true ∧ canP p := fun p hp => by
  rcases List.mem_cons.1 hp with rfl | hp
  · exact ⟨by kernel_rfl, k16A_can⟩
  · rw [List.mem_singleton.1 hp]; exact ⟨by kernel_rfl, k16B_can⟩
theorem k16_all2 : ∀ p ∈ [k16B, k16A], tinyP p = true ∧ canP p := fun p hp => by
  rcases List.mem_cons.1 hp with rfl | hp
  · exact ⟨by kernel_rfl, k16B_can⟩
  · rw [List.mem_singleton.1 hp]; exact ⟨by kernel_rfl, k16A_can⟩
theorem k16_cofs : ∀ p ∈ [k121, k16Q], tinyP p = true ∧ canP p := fun p hp => by
  rcases List.mem_cons.1 hp with rfl | hp
  · exact ⟨by kernel_rfl, unit_can⟩
  · rw [List.mem_singleton.1 hp]; exact ⟨by kernel_rfl, k16Q_can⟩
theorem fit16_of {p : PZ} (hc : canP p) (h : tinyP p = true) (hl : p.length ≤ 6) (he : p.all (fun t => t.2.all fun y => decide (y.2 ≤ 4)) = true) : Fit 3 6 p ∧ exB 4 p := by
  have f := tiny_fit hc h
  refine ⟨⟨f.1, f.2.1.mono (by decide), hl⟩, fun t ht u => ?_⟩
  have h1 := (List.all_eq_true.1 he) t ht
  exact ex_le (by decide) (fun y hy => of_decide_eq_true ((List.all_eq_true.1 h1) y hy)) u
theorem k16_idl : ∀ p ∈ k16L, Fit 3 6 p ∧ exB 4 p := fun p hp => by
  rcases List.mem_cons.1 hp with rfl | hp
  · exact fit16_of k16A_can (by kernel_rfl) (by decide) (by decide)
  · rw [List.mem_singleton.1 hp]; exact fit16_of k16B_can (by kernel_rfl) (by decide) (by decide)
theorem k16_idc : ∀ p ∈ [k121, k16Q], Fit 3 6 p ∧ exB 4 p := fun p hp => by
  rcases List.mem_cons.1 hp with rfl | hp
  · exact fit16_of unit_can (by kernel_rfl) (by decide) (by decide)
  · rw [List.mem_singleton.1 hp]; exact fit16_of k16Q_can (by kernel_rfl) (by decide) (by decide)
theorem k16_ff : Fit 3 6 k16F ∧ exB 4 k16F := fit16_of k16F_can (by kernel_rfl) (by decide) (by decide)
theorem k16_fr : Fit 3 6 k162 ∧ exB 4 k162 := fit16_of k162_can (by kernel_rfl) (by decide) (by decide)
theorem k16_ns : ∀ k, k < 2 → 0 ≤ ([1, 2] : List Int).getD k 0 ∧ ([1, 2] : List Int).getD k 0 ≤ 3 := fun k hk => by
  match k, hk with
  | 0, _ => decide
  | 1, _ => decide
theorem k16_end : (idXs k16F k162 k16L [k121, k16Q] [1, 2] 2).1 = (idXs k16F k162 k16L [k121, k16Q] [1, 2] 2).2 := by kernel_rfl
theorem k16_identity {W : World} {vf vl vp vc vr : Value} (hf : PV W vf k16F) (hl : PVL W vl k16L) (hp : Ints (Old W) W vp [1, 2]) (hc : PVL W vc [k121, k16Q]) (hr : PV W vr k162) :
    Calls Tryz.prog 12 #[vf, vl, .agg #[vp, vc, vr]] W fun e W' => e = .returned (.bool true) ∧ Ext W W' := by
  have h := chain_identity (xs := idXs k16F k162 k16L [k121, k16Q] [1, 2]) (j := 2) hf hl hp hc hr rfl rfl k16_ff.1 (by decide) k16_fr.1 (by decide) (k16_small k16_all) (fun p h => (k16_all p h).2) (k16_small k16_cofs) (fun p h => (k16_cofs p h).2) (Nat.le_refl _) rfl
    (id16_steps k16_ff.1 k16_ff.2 k16_fr.1 k16_fr.2 k16_idl k16_idc (by decide) rfl (Nat.le_refl _) k16_ns) (fun h => absurd h (by decide))
  rw [if_neg (by decide), decide_eq_true k16_end] at h
  exact h
theorem k16_mayl {W : World} {vl : Value} (hl : PVL W vl k16L) : Calls Tryz.prog 13 #[vl] W fun e W' => e = .returned (.bool true) ∧ Ext W W' := by
  have h := chain_may (S := Old W) vl (k16L.map ofP) W hl (fun _ h => h) (k16_small k16_all)
  rwa [k16_may] at h
theorem k16_mayn {W : World} {vl : Value} (hl : PVL W vl [k16B, k16A]) : Calls Tryz.prog 13 #[vl] W fun e W' => e = .returned (.bool false) ∧ Ext W W' := by
  have h := chain_may (S := Old W) vl ([k16B, k16A].map ofP) W hl (fun _ h => h) (k16_small k16_all2)
  rwa [k16_not] at h
theorem polys_two {S : Nat → Prop} {w : World} {b : Nat} {v0 v1 : Value} {p q : List RTerm} (hb : S b) (h0 : w.cell? ⟨b, 0, none⟩ = some v0) (h1 : w.cell? ⟨b, 1, none⟩ = some v1) (t0 : Terms S w v0 p) (t1 : Terms S w v1 q) : Polys S w (.slice (some ⟨b, 0, none⟩) 2 2) [p, q] :=
  ⟨b, 0, ⟨_, 2, rfl, Nat.le_refl _, by decide, fun _ => rfl, fun _ => hb⟩, fun j t hj => by
    match j, hj with
    | 0, hj => cases hj; exact ⟨v0, h0, t0⟩
    | 1, hj => cases hj; exact ⟨v1, h1, t1⟩⟩
theorem k16_rest_call {W : World} {vf vl : Value} (hf : PV W vf k16F) (hl : PVL W vl k16L) :
    Calls Tryz.prog 16 #[.pointer none, vf, vl] W fun e W' => ∃ vp vc vr, e = .returned (.tuple #[.agg #[vp, vc, vr], .int .i64 0]) ∧ PV W' vr k162 ∧ Ints (Old W') W' vp [1, 2] ∧ PVL W' vc [k121, k16Q] ∧ Ext W W' := by
  have h := chain_rest (o := none) (s := default) (f := k16F) (ls := k16L) (A := 1) (T := 10) (MV.none W _) (pm_none hf) (hl.to (S' := NB none W) (Kept.refl _ _) (fun _ h => ⟨h, by simp⟩)) (tiny_fit k16F_can (by kernel_rfl)) (by decide) (by decide) (k16_small k16_all) k16_may (by decide) k16_fit
  rw [show restD none true k16L k16L.length default k16F (List.replicate k16L.length 0) (List.replicate k16L.length []) = (0, default, k162, [1, 2], [k121, k16Q]) from k16_rest] at h
  exact h.mono (by
    rintro e W' ⟨vp, vc, vr, rfl, -, h2, h3, h4, h5⟩
    exact ⟨vp, vc, vr, rfl, h3.pv, h4.to (Kept.refl _ _) (fun _ h => h.2.1), h5.to (Kept.refl _ _) (fun _ h => h.2.1), ext_of_gb h2⟩)

set_option maxRecDepth 100000 in
set_option maxHeartbeats 8000000 in
theorem law16_known (w : World) :
    Calls Tryz.prog 9 #[] w fun e w' => e = .returned (.bool true) ∧ Ext w w' := by
  have hnot : ∀ (x : Bool) (w : World), (Op.unary .not (.bool x)).run Tryz.prog w = .ok (.bool (!x)) w := fun _ _ => rfl
  go_enter Tryz.func9, Tryz.ntmps9
  have HX0 := hid (Ext.refl w)
  go_wp2_with fail
  refine (rpoly_x 1 w (by unfold inI64; omega)).mono ?_
  rintro e w1 ⟨v1, rfl, hp1, hx1⟩
  have HX1 := hid (HX0.out.trans hx1)
  have HJ1 := hid (RTs.old hp1 New.lt)
  obtain ⟨a1, c1, rfl⟩ := hp1.form
  clear hx1 hp1
  go_wp2_with fail
  refine (rpoly_x 2 w1 (by unfold inI64; omega)).mono ?_
  rintro e w2 ⟨v2, rfl, hp2, hx2⟩
  have HX2 := hid (HX1.out.trans hx2)
  have HJ2 := hid (RTs.on HJ1.out hx2)
  have HY2 := hid (RTs.old hp2 New.lt)
  obtain ⟨a2, c2, rfl⟩ := hp2.form
  clear hx2 hp2
  go_wp2_with fail
  refine (rpoly_mul (S := Old w2) _ _ k9X k9X w2 (fun _ h => h) HJ2.out HJ2.out (tiny_may (by kernel_rfl)) (tiny_may (by kernel_rfl)) (tiny_sz (by kernel_rfl)) (tiny_sz (by kernel_rfl)) (tiny_mul (by kernel_rfl) (by kernel_rfl))).mono ?_
  rw [k16_x2]
  rintro e w3 ⟨v3, rfl, hp3, hx3⟩
  have HX3 := hid (HX2.out.trans hx3)
  have HJ3 := hid (RTs.on HJ2.out hx3)
  have HY3 := hid (RTs.on HY2.out hx3)
  have HU3 := hid (RTs.old hp3 (plus_lt (fun _ h => h) hx3))
  obtain ⟨a3, c3, rfl⟩ := hp3.form
  clear hx3 hp3
  go_wp2_with fail
  refine (rpoly_small 2 w3 (by omega)).mono ?_
  rw [k16_2]
  rintro e w4 ⟨v4, rfl, hp4, hx4⟩
  have HX4 := hid (HX3.out.trans hx4)
  have HJ4 := hid (RTs.on HJ3.out hx4)
  have HY4 := hid (RTs.on HY3.out hx4)
  have HU4 := hid (RTs.on HU3.out hx4)
  have HS4 := hid (RTs.old hp4 New.lt)
  obtain ⟨a4, c4, rfl⟩ := hp4.form
  clear hx4 hp4
  go_wp2_with fail
  refine (rpoly_sub (S := Old w4) _ _ k16X2 k162 w4 (fun _ h => h) HU4.out HS4.out (tiny_may (by kernel_rfl)) (tiny_may (by kernel_rfl)) (tiny_sz (by kernel_rfl)) (fun k hk => tiny_add (q := negP k162) (by kernel_rfl) (by kernel_rfl) k (by rw [negP_length]; exact hk))).mono ?_
  rw [k16_a]
  rintro e w5 ⟨v5, rfl, hp5, hx5⟩
  have HX5 := hid (HX4.out.trans hx5)
  have HJ5 := hid (RTs.on HJ4.out hx5)
  have HY5 := hid (RTs.on HY4.out hx5)
  have HA5 := hid (RTs.old hp5 (plus_lt (fun _ h => h) hx5))
  obtain ⟨a5, c5, rfl⟩ := hp5.form
  clear hx5 hp5
  go_wp2_with fail
  refine (rpoly_poly (S := Old w5) _ k16A w5 HA5.out (fun _ h => h) (tiny_sz (by kernel_rfl)) (kn_len (tiny_may (by kernel_rfl)))).mono ?_
  rintro e w6 ⟨v6, rfl, hp6, hx6⟩
  have HX6 := hid (HX5.out.trans hx6)
  have HJ6 := hid (RTs.on HJ5.out hx6)
  have HY6 := hid (RTs.on HY5.out hx6)
  have HPA6 := hid (Terms.old hp6 New.lt)
  obtain ⟨a6, c6, rfl⟩ := hp6.form
  clear hx6 hp6
  go_wp2_with fail
  refine (rpoly_sub (S := Old w6) _ _ k9Y k9X w6 (fun _ h => h) HY6.out HJ6.out (tiny_may (by kernel_rfl)) (tiny_may (by kernel_rfl)) (tiny_sz (by kernel_rfl)) (fun k hk => tiny_add (q := negP k9X) (by kernel_rfl) (by kernel_rfl) k (by rw [negP_length]; exact hk))).mono ?_
  rw [k16_b]
  rintro e w7 ⟨v7, rfl, hp7, hx7⟩
  have HX7 := hid (HX6.out.trans hx7)
  have HJ7 := hid (RTs.on HJ6.out hx7)
  have HY7 := hid (RTs.on HY6.out hx7)
  have HPA7 := hid (Terms.on HPA6.out hx7)
  have HB7 := hid (RTs.old hp7 (plus_lt (fun _ h => h) hx7))
  obtain ⟨a7, c7, rfl⟩ := hp7.form
  clear hx7 hp7
  go_wp2_with fail
  refine (rpoly_poly (S := Old w7) _ k16B w7 HB7.out (fun _ h => h) (tiny_sz (by kernel_rfl)) (kn_len (tiny_may (by kernel_rfl)))).mono ?_
  rintro e w8 ⟨v8, rfl, hp8, hx8⟩
  have HX8 := hid (HX7.out.trans hx8)
  have HY8 := hid (RTs.on HY7.out hx8)
  have HPA8 := hid (Terms.on HPA7.out hx8)
  have HPB8 := hid (Terms.old hp8 New.lt)
  obtain ⟨a8, c8, rfl⟩ := hp8.form
  clear hx8 hp8
  obtain ⟨nA, hnA⟩ : ∃ n, n = (ofP k16A).length := ⟨_, rfl⟩
  obtain ⟨nB, hnB⟩ : ∃ n, n = (ofP k16B).length := ⟨_, rfl⟩
  rw [← hnA] at HPA8
  rw [← hnB] at HPB8
  rw [← hnA, ← hnB]
  have HL0 : Hid (Polys (Old (w8.alloc (.cells #[.slice a6 nA c6, .slice a8 nB c8] 23))) (w8.alloc (.cells #[.slice a6 nA c6, .slice a8 nB c8] 23)) (.slice (some ⟨w8.heap.size, 0, none⟩) 2 2) (k16L.map ofP)) := hid (polys_two (by show _ < _; rw [size_alloc]; exact Nat.lt_succ_self _) (cell_new _ _ _ rfl rfl) (cell_new _ _ _ rfl rfl) (Terms.on HPA8.out ((Ext.refl _).alloc _)) (Terms.on HPB8.out ((Ext.refl _).alloc _)))
  have HLC : Hid ((w8.alloc (.cells #[.slice a6 nA c6, .slice a8 nB c8] 23)).cell? ⟨w8.heap.size, 0, none⟩ = some (.slice a6 nA c6) ∧ (w8.alloc (.cells #[.slice a6 nA c6, .slice a8 nB c8] 23)).cell? ⟨w8.heap.size, 1, none⟩ = some (.slice a8 nB c8)) := hid ⟨cell_new _ _ _ rfl rfl, cell_new _ _ _ rfl rfl⟩
  have HXA := hid (Ext.alloc (Ext.refl w8) (.cells #[.slice a6 nA c6, .slice a8 nB c8] 23))
  obtain ⟨w9, hw9⟩ : ∃ Y, Y = w8.alloc (.cells #[.slice a6 nA c6, .slice a8 nB c8] 23) := ⟨_, rfl⟩
  rw [← hw9] at HL0 HXA HLC
  obtain ⟨bL, hbL⟩ : ∃ b, b = w8.heap.size := ⟨_, rfl⟩
  rw [← hbL] at HL0 HLC
  have HX9 := hid (HX8.out.trans HXA.out)
  have HPA9 := hid (Terms.on HPA8.out HXA.out)
  have HPB9 := hid (Terms.on HPB8.out HXA.out)
  have HY9 := hid (RTs.on HY8.out HXA.out)
  have HL9 := HL0
  have HWA := hid hw9
  have HBL := hid hbL
  clear hnA hnB hw9 hbL
  go_wp2_with fail
  rw [← HWA.out, ← HBL.out]
  refine (rpoly_mul (S := Old w9) _ _ k9Y k9Y w9 (fun _ h => h) HY9.out HY9.out (tiny_may (by kernel_rfl)) (tiny_may (by kernel_rfl)) (tiny_sz (by kernel_rfl)) (tiny_sz (by kernel_rfl)) (tiny_mul (by kernel_rfl) (by kernel_rfl))).mono ?_
  rw [k16_f]
  rintro e w10 ⟨v10, rfl, hp10, hx10⟩
  have HX10 := hid (HX9.out.trans hx10)
  have HE1 := hid hx10
  have HPA10 := hid (Terms.on HPA9.out hx10)
  have HPB10 := hid (Terms.on HPB9.out hx10)
  have HL10 := hid (Polys.on HL9.out hx10)
  have HF10 := hid (RTs.old hp10 (plus_lt (fun _ h => h) hx10))
  obtain ⟨a10, c10, rfl⟩ := hp10.form
  clear hx10 hp10
  go_wp2_with fail
  refine (rpoly_poly (S := Old w10) _ k16F w10 HF10.out (fun _ h => h) (tiny_sz (by kernel_rfl)) (kn_len (tiny_may (by kernel_rfl)))).mono ?_
  rintro e w11 ⟨v11, rfl, hp11, hx11⟩
  have HX11 := hid (HX10.out.trans hx11)
  have HE2 := hid hx11
  have HPA11 := hid (Terms.on HPA10.out hx11)
  have HPB11 := hid (Terms.on HPB10.out hx11)
  have HL11 := hid (Polys.on HL10.out hx11)
  have HPF11 := hid (Terms.old hp11 New.lt)
  obtain ⟨a11, c11, rfl⟩ := hp11.form
  clear hx11 hp11
  go_wp2_with fail
  refine (k16_rest_call HPF11.out HL11.out).mono ?_
  rintro e w12 ⟨vp, vc, vr, rfl, hr, hp, hc, hx12⟩
  have HX12 := hid (HX11.out.trans hx12)
  have HE3 := hid hx12
  have HPA12 := hid (Terms.on HPA11.out hx12)
  have HPB12 := hid (Terms.on HPB11.out hx12)
  have HL12 := hid (Polys.on HL11.out hx12)
  have HPF12 := hid (Terms.on HPF11.out hx12)
  have HVR12 := hid (show Terms (Old w12) w12 vr (ofP k162) from hr)
  have HVP12 := hid hp
  have HVC12 := hid (show Polys (Old w12) w12 vc ([k121, k16Q].map ofP) from hc)
  have hxL := Ext.trans (Ext.refl _) hx12
  obtain ⟨ap, cp, hvp⟩ := hp.form
  have hvp2 : vp = .slice ap 2 cp := hvp
  clear hvp
  subst hvp2
  obtain ⟨ac, cc, hvc⟩ := hc.form
  have hvc2 : vc = .slice ac 2 cc := hvc
  clear hvc
  subst hvc2
  obtain ⟨ar, cr, rfl⟩ := hr.form
  obtain ⟨bp, op, rfl, -, hcp1, hcp2, -, -, hp0⟩ := HVP12.out.cellAt (k := 0) rfl
  obtain ⟨bp', op', hbp, -, -, -, -, -, hp1⟩ := HVP12.out.cellAt (k := 1) rfl
  obtain ⟨rfl, rfl⟩ : bp = bp' ∧ op = op' := by simpa using hbp
  rw [Nat.add_zero] at hp0
  have HP01 := hid (And.intro hp0 hp1)
  obtain ⟨nr, hnr⟩ : ∃ n, n = (ofP k162).length := ⟨_, rfl⟩
  rw [← hnr] at HVR12
  rw [← hnr]
  have HNR := hid hnr
  clear hx12 hr hp hc hbp hp0 hp1 hnr hxL
  have HLC12 : Hid (w12.cell? ⟨bL, 0, none⟩ = some (.slice a6 nA c6) ∧ w12.cell? ⟨bL, 1, none⟩ = some (.slice a8 nB c8)) := hid (by
    have h := Ext.trans (Ext.trans HE1.out HE2.out) HE3.out
    exact ⟨h.cell HLC.out.1, h.cell HLC.out.2⟩)
  have h0 : (w12.alloc (.cells #[.slice (some ⟨bp, op, none⟩) 2 cp, .slice ac 2 cc, .slice ar nr cr] 27)).cell? ⟨w12.heap.size, 0, none⟩ = some (.slice (some ⟨bp, op, none⟩) 2 cp) := cell_new _ _ _ rfl rfl
  have h1 : (w12.alloc (.cells #[.slice (some ⟨bp, op, none⟩) 2 cp, .slice ac 2 cc, .slice ar nr cr] 27)).cell? ⟨w12.heap.size, 1, none⟩ = some (.slice ac 2 cc) := cell_new _ _ _ rfl rfl
  have h2 : (w12.alloc (.cells #[.slice (some ⟨bp, op, none⟩) 2 cp, .slice ac 2 cc, .slice ar nr cr] 27)).cell? ⟨w12.heap.size, 2, none⟩ = some (.slice ar nr cr) := cell_new _ _ _ rfl rfl
  have HXD := hid (Ext.alloc (Ext.refl w12) (.cells #[.slice (some ⟨bp, op, none⟩) 2 cp, .slice ac 2 cc, .slice ar nr cr] 27))
  obtain ⟨wd, hwd⟩ : ∃ Y, Y = w12.alloc (.cells #[.slice (some ⟨bp, op, none⟩) 2 cp, .slice ac 2 cc, .slice ar nr cr] 27) := ⟨_, rfl⟩
  rw [← hwd] at h0 h1 h2 HXD
  obtain ⟨bd, hbd⟩ : ∃ b, b = w12.heap.size := ⟨_, rfl⟩
  rw [← hbd] at h0 h1 h2
  have HFS : Hid (∀ Y : World, Ext wd Y → Y.cell? ⟨bd, 0, none⟩ = some (.slice (some ⟨bp, op, none⟩) 2 cp) ∧ Y.cell? ⟨bd, 1, none⟩ = some (.slice ac 2 cc) ∧ Y.cell? ⟨bd, 2, none⟩ = some (.slice ar nr cr) ∧ Y.cell? ⟨bp, op, none⟩ = some (.int .i64 1) ∧ Y.cell? ⟨bp, op + 1, none⟩ = some (.int .i64 2) ∧ Y.cell? ⟨bL, 0, none⟩ = some (.slice a6 nA c6) ∧ Y.cell? ⟨bL, 1, none⟩ = some (.slice a8 nB c8)) := hid (fun Y hY =>
    ⟨hY.cell h0, hY.cell h1, hY.cell h2, (HXD.out.trans hY).cell HP01.out.1, (HXD.out.trans hY).cell HP01.out.2, (HXD.out.trans hY).cell HLC12.out.1, (HXD.out.trans hY).cell HLC12.out.2⟩)
  have HXW := hid (HX12.out.trans HXD.out)
  have CS : Hid (∀ Y : World, Calls Tryz.prog 34 #[.int .i64 2] Y fun e w' => ∃ v', e = .returned v' ∧ RTs (New Y w') w' v' k162 ∧ Ext Y w') := hid (fun Y => by have h := rpoly_small 2 Y (by omega); rw [k16_2] at h; exact h)
  have CP := hid (fun (Y Y' : World) (v : Value) (hv : RTs (Old Y) Y v k162) (hY : Ext Y Y') => rpoly_poly (S := Old Y') v k162 Y' (RTs.on hv hY) (fun _ h => h) (tiny_sz (by kernel_rfl)) (kn_len (tiny_may (by kernel_rfl))))
  have CE : Hid (∀ (Y Y' : World) (v : Value), Ext w12 Y → Terms (Old Y) Y v (ofP k162) → Ext Y Y' → Calls Tryz.prog 25 #[.slice ar nr cr, v] Y' fun e w' => e = .returned (.bool true) ∧ Ext Y' w') := hid (fun Y Y' v hW hv hY => (rpoly_same _ v (ofP k162) (ofP k162) Y' (Terms.on HVR12.out (hW.trans hY)) (Terms.on hv hY) (fun _ h => h)).mono (by rintro e w' ⟨rfl, hx⟩; exact ⟨by simp, hx⟩))
  have CI := hid (fun (Y : World) (hY : Ext w12 Y) => k16_identity (Terms.on HPF12.out hY) (Polys.on HL12.out hY) (HVP12.out.to (Kept.ext hY (fun _ h => h)) (old_lt hY)) (Polys.on HVC12.out hY) (Terms.on HVR12.out hY))
  have CM := hid (fun (Y : World) (hY : Ext w12 Y) => k16_mayl (Polys.on HL12.out hY))
  have CN := hid (fun (Y : World) (b : Nat) (hY : Ext w12 Y) (g0 : Y.cell? ⟨b, 0, none⟩ = some (.slice a8 nB c8)) (g1 : Y.cell? ⟨b, 1, none⟩ = some (.slice a6 nA c6)) => k16_mayn (polys_two (lt_of_cell g0) g0 g1 (Terms.on HPB12.out hY) (Terms.on HPA12.out hY)))
  have x0 : Ext wd wd.drew := Below.drew (Ext.refl wd)
  have S0 := HFS.out _ x0
  have HWD := hid hwd
  have HBD := hid hbd
  clear hwd hbd h0 h1 h2
  go_wp2
  rw [← HWD.out, ← HBD.out]
  go_region_held3 (fun Y => Y.cell? ⟨bd, 0, none⟩ = some (.slice (some ⟨bp, op, none⟩) 2 cp) ∧ Y.cell? ⟨bd, 1, none⟩ = some (.slice ac 2 cc) ∧ Y.cell? ⟨bd, 2, none⟩ = some (.slice ar nr cr) ∧ Y.cell? ⟨bp, op, none⟩ = some (.int .i64 1) ∧ Y.cell? ⟨bp, op + 1, none⟩ = some (.int .i64 2) ∧ Y.cell? ⟨bL, 0, none⟩ = some (.slice a6 nA c6) ∧ Y.cell? ⟨bL, 1, none⟩ = some (.slice a8 nB c8)) (first | exact S0 | exact S1 | exact S2 | exact S3 | exact S4 | exact S5 | exact S6 | exact HFS.out _ ((Ext.refl wd).alloc _).drew | exact HFS.out _ (HZ.out.alloc _))
    (first
      | (go_at_call 34; with_reducible refine (CS.out _).mono ?_
         rintro e u1 ⟨v1, rfl, hv, hx⟩
         have HZ : Hid (Ext wd u1) := hid (Ext.trans (by first | exact x0 | exact ((Ext.refl wd).alloc _).drew) hx)
         have S1 := HFS.out _ HZ.out
         (try (have HN : Hid (u1.cell? ⟨wd.heap.size, 0, none⟩ = some (.slice a8 nB c8) ∧ u1.cell? ⟨wd.heap.size, 1, none⟩ = some (.slice a6 nA c6)) := hid ⟨hx.cell (pair_new wd _ _ _).1, hx.cell (pair_new wd _ _ _).2⟩))
         have HQ := hid (RTs.old hv New.lt); have qf : ∃ a c, v1 = Value.slice a 1 c := hv.form; obtain ⟨aq, cq, rfl⟩ := qf; clear hx hv)
      | (go_at_call 26; with_reducible refine (CP.out _ _ _ HQ.out (by first | exact Ext.refl _ | exact (Ext.refl _).alloc _)).mono ?_
         rintro e u2 ⟨v2, rfl, hv, hx⟩
         have HZ : Hid (Ext wd u2) := hid ((HZ.out.trans (by first | exact Ext.refl _ | exact (Ext.refl _).alloc _)).trans hx)
         have S2 := HFS.out _ HZ.out
         (try (have HN := hid (And.intro (hx.cell HN.out.1) (hx.cell HN.out.2))))
         (try (have HN : Hid (u2.cell? ⟨u1.heap.size, 0, none⟩ = some (.slice a8 nB c8) ∧ u2.cell? ⟨u1.heap.size, 1, none⟩ = some (.slice a6 nA c6)) := hid ⟨hx.cell (pair_new u1 _ _ _).1, hx.cell (pair_new u1 _ _ _).2⟩))
         have HQ := hid (Terms.old hv New.lt); obtain ⟨at2, ct2, rfl⟩ := hv.form; obtain ⟨nt2, hnt⟩ : ∃ n, n = (ofP k162).length := ⟨_, rfl⟩; rw [← hnt] at HQ; rw [← hnt]; clear hx hv hnt)
      | (go_at_call 25; with_reducible refine (CE.out _ _ _ (HXD.out.trans HZ.out) HQ.out (by first | exact Ext.refl _ | exact (Ext.refl _).alloc _)).mono ?_
         rintro e u3 ⟨rfl, hx⟩
         have HZ : Hid (Ext wd u3) := hid ((HZ.out.trans (by first | exact Ext.refl _ | exact (Ext.refl _).alloc _)).trans hx)
         have S3 := HFS.out _ HZ.out
         (try (have HN := hid (And.intro (hx.cell HN.out.1) (hx.cell HN.out.2))))
         (try (have HN : Hid (u3.cell? ⟨u2.heap.size, 0, none⟩ = some (.slice a8 nB c8) ∧ u3.cell? ⟨u2.heap.size, 1, none⟩ = some (.slice a6 nA c6)) := hid ⟨hx.cell (pair_new u2 _ _ _).1, hx.cell (pair_new u2 _ _ _).2⟩))
         clear hx)
      | (go_at_call 12; with_reducible refine (CI.out _ ((HXD.out.trans HZ.out).trans (by first | exact Ext.refl _ | exact (Ext.refl _).alloc _))).mono ?_
         rintro e u4 ⟨rfl, hx⟩
         have HZ : Hid (Ext wd u4) := hid ((HZ.out.trans (by first | exact Ext.refl _ | exact (Ext.refl _).alloc _)).trans hx)
         have S4 := HFS.out _ HZ.out
         (try (have HN := hid (And.intro (hx.cell HN.out.1) (hx.cell HN.out.2))))
         (try (have HN : Hid (u4.cell? ⟨u3.heap.size, 0, none⟩ = some (.slice a8 nB c8) ∧ u4.cell? ⟨u3.heap.size, 1, none⟩ = some (.slice a6 nA c6)) := hid ⟨hx.cell (pair_new u3 _ _ _).1, hx.cell (pair_new u3 _ _ _).2⟩))
         clear hx)
      | (go_at_call_of 13 (Value.slice (some ⟨bL, 0, none⟩) 2 2); with_reducible refine (CM.out _ ((HXD.out.trans HZ.out).trans (by first | exact Ext.refl _ | exact (Ext.refl _).alloc _))).mono ?_
         rintro e u5 ⟨rfl, hx⟩
         have HZ : Hid (Ext wd u5) := hid ((HZ.out.trans (by first | exact Ext.refl _ | exact (Ext.refl _).alloc _)).trans hx)
         have S5 := HFS.out _ HZ.out
         (try (have HN := hid (And.intro (hx.cell HN.out.1) (hx.cell HN.out.2))))
         (try (have HN : Hid (u5.cell? ⟨u4.heap.size, 0, none⟩ = some (.slice a8 nB c8) ∧ u5.cell? ⟨u4.heap.size, 1, none⟩ = some (.slice a6 nA c6)) := hid ⟨hx.cell (pair_new u4 _ _ _).1, hx.cell (pair_new u4 _ _ _).2⟩))
         clear hx)
      | (go_at_call 13
         first
           | with_reducible refine (CN.out _ _ (HXD.out.trans HZ.out) HN.out.1 HN.out.2).mono ?_
           | with_reducible refine (CN.out _ _ ((HXD.out.trans HZ.out).trans ((Ext.refl _).alloc _)) (pair_new u5 _ _ _).1 (pair_new u5 _ _ _).2).mono ?_
         rintro e u6 ⟨rfl, hx⟩
         have HZ : Hid (Ext wd u6) := hid ((HZ.out.trans (by first | exact Ext.refl _ | exact (Ext.refl _).alloc _)).trans hx)
         have S6 := HFS.out _ HZ.out
         clear hx))
  all_goals
    go_wp2
    go_ret
    exact ⟨rfl, HXW.out.trans HZ.out⟩
  end Go.Proofs.YthdcaablomgboaaGreat

namespace Go.Proofs.YthdcaablomgboaaGreat
open Go.RowKit Go.Deep

/-- the cells of some polynomials -/
theorem Polys.src_all {S : Nat → Prop} {w : World} {A : Option Addr} {n cap : Nat} {l : List (List RTerm)} (h : Polys S w (.slice A n cap) l) : ∃ xs, SrcAt w A n 1 xs ∧ CellsL S w xs l := by
  obtain ⟨b, off, ⟨a', cap', h1, h2, h3, h4, h5⟩, hc⟩ := h
  obtain ⟨rfl, rfl, rfl⟩ : A = a' ∧ n = l.length ∧ cap = cap' := by simpa using h1
  obtain ⟨xs, hl, hx⟩ := list_of_lt (n := l.length) (p := fun j (vp : Value) => w.cell? ⟨b, off + j, none⟩ = some vp ∧ (∃ a n c, vp = .slice a n c) ∧ ∀ p, l[j]? = some p → Terms S w vp p) (fun j hj => by
    obtain ⟨p, hp⟩ := some_of_lt hj
    obtain ⟨vp, k1, k2⟩ := hc j p hp
    obtain ⟨a, c, e⟩ := k2.form
    exact ⟨vp, k1, ⟨a, _, c, e⟩, fun q hq => by rw [hp] at hq; cases hq; exact k2⟩)
  refine ⟨xs, ⟨by rw [hl, Nat.mul_one], fun u hu => ?_, fun h0 => ⟨_, h4 h0, fun j u hj => ?_⟩⟩, hl, fun j p hj => ?_⟩
  · obtain ⟨j, hj⟩ := List.getElem?_of_mem hu
    obtain ⟨-, ⟨a, n, c, rfl⟩, -⟩ := hx j u hj
    rfl
  · rw [add_off]
    exact (hx j u hj).1
  · obtain ⟨vp, hv⟩ := some_of_lt (l := xs) (j := j) (by rw [hl]; exact lt_of_some hj)
    exact ⟨vp, hv, (hx j vp hv).2.2 p hj⟩
section
variable {P : Program}
theorem wpList_append_src_g (w : World) {ops : Array Oper} {rest : List Oper} {o : Oper} {a : Act} {Q : Exit → Act → World → Prop} (hw : Region.wanted o (yielded ops a.tmps) = true) (s x : Operand) (t : TypeId)
    (ho : o.op = .call { callee := .builtin .append, args := #[s, x], argTypes := #[t, t] })
    (base : Nat) (e : TypeId) (i : TypeInfo) (z : Value) (size bytes : Nat) (ht : P.underlying t = some (.slice e)) (hi : P.info? e = some i) (hz : i.zero = some z)
    (hsize : i.size = size) (hby : i.bytes = bytes) (hzs : z.cells.size = size) (hsz : 0 < size)
    (v : Value) (n : Nat) (xs : List Value) (hs : a.eval s = v) (hown : w.ownsRow base e size v n xs)
    (A : Option Addr) (m c : Nat) (news : List Value) (hx : a.eval x = .slice A m c) (hsrc : SrcAt w A m size news)
    (h63 : n + m ≤ maxLen) (hbytes : (n + m) * bytes ≤ 140737488355328) (hbase : base ≤ w.heap.size)
    (h : ∀ v' w', w'.ownsRow base e size v' (n + m) (xs ++ news) → w.grownBy w' v.ownBlock → (v'.ownBlock = v.ownBlock ∨ v'.ownBlock = some w.heap.size) → wpList P ops Q rest (a.put o.dst v') w') : wpList P ops Q (o :: rest) a w := by
  obtain ⟨v', w', hrun, h2, h3, h4⟩ := run_append_src (P := P) w base t o.type e i z size bytes ht hi hz hsize hby hzs hsz v n xs hown A m c news hsrc h63 hbytes hbase
  refine wpList_step fun K hK => ?_
  rw [if_pos hw]
  unfold Oper.wp execOp
  simp only [ho, resolve, invoke, builtin, Sem.run_bind, Sem.run_pure, Result.andThen_ok, List.map_toArray, List.map_cons, List.map_nil, hs, hx, hrun]
  exact hK _ _ (h v' w' h2 h3 h4)
end
theorem wpList_append_cons {S : Nat → Prop} (W : World) {ops : Array Oper} {rest : List Oper} {o : Oper} {a : Act} {Q : Exit → Act → World → Prop} (hgd : Region.wanted o (yielded ops a.tmps) = true) (s x : Operand)
    (ho : o.op = .call { callee := .builtin .append, args := #[s, x], argTypes := #[24, 24] }) (vf : Value) (A : Option Addr) (m c : Nat) (f : List RTerm) (l : List (List RTerm))
    (hs : a.eval s = .slice (some ⟨W.heap.size, 0, none⟩) 1 1) (hx : a.eval x = .slice A m c) (hf : Terms S W vf f) (hl : Polys S W (.slice A m c) l) (hS : ∀ k, S k → k < W.heap.size) (hm : m ≤ 5864062014800)
    (h : ∀ v' w', Polys (Plus S W w') w' v' (f :: l) → Ext W w' → wpList Tryz.prog ops Q rest (a.put o.dst v') w') : wpList Tryz.prog ops Q (o :: rest) a (W.alloc (.cells #[vf] 23)) := by
  obtain ⟨i, hi, hz0, hz1, hz2⟩ := info_parts Tryz.infoPoly
  have hxa := Ext.alloc (Ext.refl W) (.cells #[vf] 23)
  obtain ⟨xs, hsrc, hc⟩ := (hl.to (Kept.ext hxa hS) (fun _ h => h)).src_all
  obtain ⟨af, cf, hvf⟩ := hf.form
  have hml : m = l.length := by
    obtain ⟨a', c', e⟩ := hl.form
    simpa using congrArg (fun v => match v with | Value.slice _ n _ => n | _ => 0) e
  refine wpList_append_src_g _ hgd s x 24 ho W.heap.size 23 i (.slice none 0 0) 1 24 Tryz.underlying24 hi hz0 hz1 hz2 rfl (by decide) _ 1 [vf] hs (World.ownsRow_lit (size := 1) W #[vf] 1 (Nat.le_refl _) (by decide) rfl) A m c xs hx hsrc (by unfold maxLen; omega) (by omega) (by rw [size_alloc]; omega) (fun v' w' k1 k2 _ => h v' w' ?_ ?_)
  · have hg : Ext W w' := own_grown0 hxa (World.ownsRow_lit (size := 1) W #[vf] 1 (Nat.le_refl _) (by decide) rfl) k2
    refine own_polys (l := f :: l) (by rw [List.length_cons, ← hml, Nat.add_comm]; exact k1) ⟨by rw [List.length_append, hc.1]; simp; omega, fun j p hj => ?_⟩ (fun k h1 h2 => .inr ⟨h1, h2⟩)
    cases j with
    | zero =>
      obtain rfl : f = p := by simpa using hj
      exact ⟨vf, rfl, hf.to (Kept.ext hg hS) (fun _ h => .inl h)⟩
    | succ j =>
      obtain ⟨vp, g1, -⟩ := hc.2 j p (by simpa using hj)
      have hl2 := hl
      obtain ⟨vp2, g3, g4⟩ := hc.2 j p (by simpa using hj)
      refine ⟨vp, by simpa using g1, ?_⟩
      rw [g3] at g1
      obtain rfl : vp2 = vp := by simpa using g1
      have hgx : Kept S (W.alloc (.cells #[vf] 23)) w' := fun k hk => (hg.block k (hS k hk)).trans (hxa.block k (hS k hk)).symm
      exact g4.to hgx (fun _ h => .inl h)
  · exact own_grown0 hxa (World.ownsRow_lit (size := 1) W #[vf] 1 (Nat.le_refl _) (by decide) rfl) k2
end Go.Proofs.YthdcaablomgboaaGreat

namespace Go.Proofs.YthdcaablomgboaaGreat
open Go.RowKit Go.Deep

set_option maxRecDepth 100000 in
set_option maxHeartbeats 8000000 in
theorem chain_rest_no {W : World} {vm vf vl : Value} {fs : List RTerm} {ls : List (List RTerm)} (hvm : ∃ a, vm = .pointer a) (hf : Terms (Old W) W vf fs) (hl : Polys (Old W) W vl ls)
    (sf : smallT fs) (sl : smallL ls) (hno : (mayT fs && mayC 0 ls) = false) :
    Calls Tryz.prog 16 #[vm, vf, vl] W fun e W' => e = .returned (.tuple #[.agg #[.slice none 0 0, .slice none 0 0, .slice none 0 0], .int .i64 2]) ∧ Ext W W' := by
  have hnot : ∀ (x : Bool) (w : World), (Op.unary .not (.bool x)).run Tryz.prog w = .ok (.bool (!x)) w := fun _ _ => rfl
  have C1 := fun (Y : World) (hY : Ext W Y) => poly_may (S := Old Y) vf fs Y (Terms.on hf hY) (fun _ h => h) sf
  have C2 := fun (Y : World) (hY : Ext W Y) => chain_may (S := Old W) vl ls Y (hl.ext hY (fun _ h => h)) (fun k h => Nat.lt_of_lt_of_le h hY.size) sl
  generalize mayT fs = b1 at C1 hno
  generalize mayC 0 ls = b2 at C2 hno
  obtain ⟨pa, rfl⟩ := hvm
  obtain ⟨af, cf, rfl⟩ := hf.form
  obtain ⟨al, cl, rfl⟩ := hl.form
  generalize fs.length = nf at *
  generalize ls.length = nl at *
  have HC1 := hid C1
  have HC2 := hid C2
  have HX0 := hid (Ext.alloc (Ext.refl W) (.cells #[.slice none 0 0, .slice none 0 0, .slice none 0 0] 27))
  have j0 : (W.alloc (.cells #[.slice none 0 0, .slice none 0 0, .slice none 0 0] 27)).cell? ⟨W.heap.size, 0, none⟩ = some (.slice none 0 0) := cell_new _ _ _ rfl rfl
  have j1 : (W.alloc (.cells #[.slice none 0 0, .slice none 0 0, .slice none 0 0] 27)).cell? ⟨W.heap.size, 1, none⟩ = some (.slice none 0 0) := cell_new _ _ _ rfl rfl
  have j2 : (W.alloc (.cells #[.slice none 0 0, .slice none 0 0, .slice none 0 0] 27)).cell? ⟨W.heap.size, 2, none⟩ = some (.slice none 0 0) := cell_new _ _ _ rfl rfl
  have HJ := hid (And.intro j0 (And.intro j1 j2))
  obtain ⟨w0, hw0⟩ : ∃ Y, Y = W.alloc (.cells #[.slice none 0 0, .slice none 0 0, .slice none 0 0] 27) := ⟨_, rfl⟩
  have HZ : Hid (∀ i, w0.frozen? ⟨W.heap.size, i, none⟩ = false) := hid (by rw [hw0]; exact fun i => free_new W #[.slice none 0 0, .slice none 0 0, .slice none 0 0] 27 (i := i))
  have HSZ : Hid (W.heap.size < w0.heap.size) := hid (by rw [hw0, size_alloc]; exact Nat.lt_succ_self _)
  rw [← hw0] at HX0 HJ
  have HW0 := hid hw0
  clear hf hl sf sl C1 C2 j0 j1 j2 hw0
  -- what is left behind the answer
  have HFIN : Hid (∀ Y : World, Ext w0 Y → (∀ i, Y.frozen? ⟨W.heap.size, i, none⟩ = false) ∧ Ext W (st3 Y W.heap.size (.slice none 0 0) (.slice none 0 0) (.slice none 0 0))) := hid (fun Y hY => by
    have hx : Ext W Y := HX0.out.trans hY
    refine ⟨fun i => (World.frozen?_of_block (w := w0) (a := ⟨W.heap.size, i, none⟩) (hY.block _ HSZ.out)).trans (HZ.out i), ⟨hx.os, hx.tape, hx.output, ?_, fun k hk => ?_⟩⟩
    · exact Nat.le_trans hx.size (st3_gx (o := none) (hi := W.heap.size + 1) (Nat.lt_succ_self _)).size
    · rw [st3_other (by omega)]
      exact hx.block k hk)
  cases b1 with
  | false =>
    clear hno
    go_enter Tryz.func16, Tryz.ntmps16
    go_wp2_with fail
    rw [← HW0.out]
    with_reducible refine (HC1.out _ HX0.out).mono ?_
    rintro e w1 ⟨rfl, hx⟩
    have y0 := hx.cell HJ.out.1
    have y1 := hx.cell HJ.out.2.1
    have y2 := hx.cell HJ.out.2.2
    have z0 := (HFIN.out _ hx).1 0
    have z1 := (HFIN.out _ hx).1 1
    have z2 := (HFIN.out _ hx).1 2
    have HE := hid (HFIN.out _ hx).2
    have f0 := st3_0 (a := .slice none 0 0) (b := .slice none 0 0) (c := .slice none 0 0) y0
    have f1 := st3_1 (a := .slice none 0 0) (b := .slice none 0 0) (c := .slice none 0 0) y1
    have f2 := st3_2 (a := .slice none 0 0) (b := .slice none 0 0) (c := .slice none 0 0) y2
    unfold st3 at f0 f1 f2 HE
    clear hx
    go_wp2
    all_goals
      refine bodyPost_ret (v := .tuple #[.agg #[.slice none 0 0, .slice none 0 0, .slice none 0 0], .int .i64 2]) (by simp [results, Tryz.results16, go_sem, f0, f1, f2]) rfl ?_
      exact ⟨rfl, HE.out⟩
  | true =>
    obtain rfl : b2 = false := by simpa using hno
    clear hno
    go_enter Tryz.func16, Tryz.ntmps16
    go_wp2_with fail
    rw [← HW0.out]
    with_reducible refine (HC1.out _ HX0.out).mono ?_
    rintro e w1 ⟨rfl, hx⟩
    have HX1 := hid hx
    clear hx
    go_wp2_with fail
    with_reducible refine (HC2.out _ (HX0.out.trans HX1.out)).mono ?_
    rintro e w2 ⟨rfl, hx⟩
    have hx := HX1.out.trans hx
    have y0 := hx.cell HJ.out.1
    have y1 := hx.cell HJ.out.2.1
    have y2 := hx.cell HJ.out.2.2
    have z0 := (HFIN.out _ hx).1 0
    have z1 := (HFIN.out _ hx).1 1
    have z2 := (HFIN.out _ hx).1 2
    have HE := hid (HFIN.out _ hx).2
    have f0 := st3_0 (a := .slice none 0 0) (b := .slice none 0 0) (c := .slice none 0 0) y0
    have f1 := st3_1 (a := .slice none 0 0) (b := .slice none 0 0) (c := .slice none 0 0) y1
    have f2 := st3_2 (a := .slice none 0 0) (b := .slice none 0 0) (c := .slice none 0 0) y2
    unfold st3 at f0 f1 f2 HE
    clear hx
    go_wp2
    all_goals
      refine bodyPost_ret (v := .tuple #[.agg #[.slice none 0 0, .slice none 0 0, .slice none 0 0], .int .i64 2]) (by simp [results, Tryz.results16, go_sem, f0, f1, f2]) rfl ?_
      exact ⟨rfl, HE.out⟩
end Go.Proofs.YthdcaablomgboaaGreat

namespace Go.Proofs.YthdcaablomgboaaGreat
open Go.RowKit

set_option maxRecDepth 100000 in
set_option maxHeartbeats 8000000 in
theorem chain_reduce_no {W : World} {vm vf vl : Value} {fs : List RTerm} {ls : List (List RTerm)} (hvm : ∃ a, vm = .pointer a) (hf : Terms (Old W) W vf fs) (hl : Polys (Old W) W vl ls)
    (sf : smallT fs) (sl : smallL ls) (hno : (mayT fs && mayC 0 ls) = false) :
    Calls Tryz.prog 15 #[vm, vf, vl] W fun e W' => e = .returned (.tuple #[.slice none 0 0, .slice none 0 0, .int .i64 2]) ∧ Ext W W' := by
  have hnot : ∀ (x : Bool) (w : World), (Op.unary .not (.bool x)).run Tryz.prog w = .ok (.bool (!x)) w := fun _ _ => rfl
  have C1 := poly_may (S := Old W) vf fs W hf (fun _ h => h) sf
  have C2 := fun (Y : World) (hY : Ext W Y) => chain_may (S := Old W) vl ls Y (hl.ext hY (fun _ h => h)) (fun k h => Nat.lt_of_lt_of_le h hY.size) sl
  generalize mayT fs = b1 at C1 hno
  generalize mayC 0 ls = b2 at C2 hno
  obtain ⟨pa, rfl⟩ := hvm
  obtain ⟨af, cf, rfl⟩ := hf.form
  obtain ⟨al, cl, rfl⟩ := hl.form
  generalize fs.length = nf at *
  generalize ls.length = nl at *
  have HC1 := hid C1
  have HC2 := hid C2
  clear hf hl sf sl C1 C2
  cases b1 with
  | false =>
    clear hno
    go_enter Tryz.func15, Tryz.ntmps15
    go_wp2_with fail
    with_reducible refine HC1.out.mono ?_
    rintro e w1 ⟨rfl, hx⟩
    have HX1 := hid hx
    clear hx
    go_wp2
    all_goals
      refine bodyPost_ret (v := .tuple #[.slice none 0 0, .slice none 0 0, .int .i64 2]) (by simp [results, Tryz.results15, go_sem]) rfl ?_
      exact ⟨rfl, HX1.out⟩
  | true =>
    obtain rfl : b2 = false := by simpa using hno
    clear hno
    go_enter Tryz.func15, Tryz.ntmps15
    go_wp2_with fail
    with_reducible refine HC1.out.mono ?_
    rintro e w1 ⟨rfl, hx⟩
    have HX1 := hid hx
    clear hx
    go_wp2_with fail
    with_reducible refine (HC2.out _ HX1.out).mono ?_
    rintro e w2 ⟨rfl, hx⟩
    have HX2 := hid (HX1.out.trans hx)
    clear hx
    go_wp2
    all_goals
      refine bodyPost_ret (v := .tuple #[.slice none 0 0, .slice none 0 0, .int .i64 2]) (by simp [results, Tryz.results15, go_sem]) rfl ?_
      exact ⟨rfl, HX2.out⟩
end Go.Proofs.YthdcaablomgboaaGreat

namespace Go.Proofs.YthdcaablomgboaaGreat
open Go.RowKit

def bigT16 (t : RTerm) : Bool := decide (3 < t.c.mag.length) || t.m.any fun x => decide (4 < x.2)
def big16 (ts : List RTerm) : Bool := greatT 6 ts || ts.any bigT16
def great16 (ls : List (List RTerm)) : Bool := ls.any big16 || decide (5 < ls.length)

set_option maxRecDepth 100000 in
set_option maxHeartbeats 16000000 in
theorem law16_great {W : World} {S : Nat → Prop} (v : Value) (ls : List (List RTerm)) (h : Polys S W v ls) (hS : ∀ k, S k → k < W.heap.size) :
    Calls Tryz.prog 8 #[v] W fun e w' => e = .returned (.bool (great16 ls)) ∧ Ext W w' := by
  have H := hid h
  have hll := h.len_le
  obtain ⟨a, cap, rfl⟩ := h.form
  obtain ⟨n, hnn⟩ : ∃ n, n = ls.length := ⟨_, rfl⟩
  rw [← hnn] at H hll ⊢
  have HN := hid hnn
  clear h hnn
  go_enter Tryz.func8, Tryz.ntmps8
  go_wp2
  go_loopw [9] (fun i wr => ∃ k : Nat, k ≤ n ∧ i = .int .i64 k ∧ Ext W wr ∧ Hid ((ls.take k).any big16 = false)) (fun i _ => n - (intOf i).toNat)
  case atStart => exact ⟨0, Nat.zero_le _, rfl, Ext.refl _, hid rfl⟩
  case round =>
    obtain ⟨k, hk, rfl, hx, HA⟩ := hrel
    have HX := hid hx
    by_cases hlt : k < n
    · obtain ⟨p, hp⟩ := some_of_lt (l := ls) (j := k) (by rw [← HN.out]; exact hlt)
      obtain ⟨bl, off, vp, rfl, -, hn1, hm1, hSb, h1, h2⟩ := (H.out.ext hx hS).cellAt hp
      have HTP : Hid (ls.take (k + 1) = ls.take k ++ [p]) := hid (by rw [List.take_add_one, hp]; rfl)
      have HQP := hid (List.mem_of_getElem? hp)
      have HSX := hid (lt_ext hS hx)
      have hlp := h2.len_le
      have C := rpoly_great (S := S) vp p 6 wr h2 HSX.out (by omega)
      have HV := hid h2
      obtain ⟨ap, cp, rfl⟩ := h2.form
      obtain ⟨np, hnp⟩ : ∃ n, n = p.length := ⟨_, rfl⟩
      rw [← hnp] at HV C h1 hlp
      have HNP := hid hnp
      clear h2 hp hx hnp
      cases hg : greatT 6 p with
      | true =>
        rw [hg] at C
        have HFT : Hid (great16 ls = true) := hid (by unfold great16; rw [List.any_eq_true.2 ⟨p, HQP.out, by unfold big16; rw [hg]; rfl⟩]; rfl)
        have HC := hid C
        clear C hg
        go_wp2_with fail
        with_reducible refine HC.out.mono ?_
        rintro e w1 ⟨rfl, hx1⟩
        have HX1 := hid (HX.out.trans hx1)
        clear hx1
        go_wp2
        all_goals
          go_ret
          exact ⟨by rw [HFT.out]; rfl, HX1.out⟩
      | false =>
        rw [hg] at C
        have HG : Hid (greatT 6 p = false) := hid hg
        have HC := hid C
        clear C hg
        go_wp2_with fail
        with_reducible refine HC.out.mono ?_
        rintro e w1 ⟨rfl, hx1⟩
        have HX1 := hid (HX.out.trans hx1)
        have HX1' := hid hx1
        clear hx1
        go_wp2
        go_loopw [17] (fun i wy => ∃ k : Nat, k ≤ np ∧ i = .int .i64 k ∧ Ext w1 wy ∧ Hid ((p.take k).any bigT16 = false)) (fun i _ => np - (intOf i).toNat)
        case atStart => exact ⟨0, Nat.zero_le _, rfl, Ext.refl _, hid rfl⟩
        case round =>
          obtain ⟨j, hj, rfl, hx, HM⟩ := hrel
          have HXY := hid (HX1.out.trans hx)
          have HXR := hid hx
          by_cases hltj : j < np
          · obtain ⟨t, ht⟩ := some_of_lt (l := p) (j := j) (by rw [← HNP.out]; exact hltj)
            obtain ⟨b, offt, vm, vo, rfl, -, hq1, hmm1, hSbt, h1', h2, h3, h4, h5⟩ := (HV.out.to (S' := Old wr) (Kept.ext (HX1'.out.trans hx) HSX.out) (fun k hk => Nat.lt_of_lt_of_le (HSX.out k hk) (HX1'.out.trans hx).size)).cellAt ht
            have HT : Hid (p.take (j + 1) = p.take j ++ [t]) := hid (by rw [List.take_add_one, ht]; rfl)
            have HQ := hid (List.mem_of_getElem? ht)
            have hl1 := h4.len_le
            have hl2 := h5.len_le
            have H5 := hid h5
            obtain ⟨am, cm, rfl⟩ := h4.form
            obtain ⟨ao, co, rfl⟩ := h5.form
            obtain ⟨x1, hx1⟩ : ∃ n, n = t.c.mag.length := ⟨_, rfl⟩
            obtain ⟨y1, hy1⟩ : ∃ n, n = t.m.length := ⟨_, rfl⟩
            have HX1'' := hid hx1
            have HY1 := hid hy1
            rw [← hx1] at h2 hl1
            rw [← hy1] at h3 hl2 H5
            have HC3 := hid h3
            clear hx ht h1' h4 h5 hx1 hy1
            by_cases hbig : 3 < x1
            · have HFT : Hid (great16 ls = true) := hid (by unfold great16; rw [List.any_eq_true.2 ⟨p, HQP.out, by unfold big16; rw [List.any_eq_true.2 ⟨t, HQ.out, by unfold bigT16; rw [← HX1''.out, decide_eq_true hbig]; rfl⟩, Bool.or_true]⟩]; rfl)
              go_wp2
              all_goals
                go_ret
                exact ⟨by rw [HFT.out]; rfl, HXY.out⟩
            · have HNB : Hid (decide (3 < t.c.mag.length) = false) := hid (by rw [← HX1''.out]; exact decide_eq_false hbig)
              have hle : (x1 : Int) ≤ 3 := by omega
              clear hbig
              go_wp2
              go_loopw [34] (fun j wx => ∃ m : Nat, m ≤ y1 ∧ j = .int .i64 m ∧ Ext wr wx ∧ Hid ((t.m.take m).any (fun x => decide (4 < x.2)) = false)) (fun j _ => y1 - (intOf j).toNat)
              case atStart => exact ⟨0, Nat.zero_le _, rfl, Ext.refl _, hid rfl⟩
              case round =>
                obtain ⟨m, hm, rfl, hx2, HM2⟩ := hrel
                have HX2 := hid (HXY.out.trans hx2)
                have HX2' := hid hx2
                have g3 := hx2.cell HC3.out
                by_cases hlt2 : m < y1
                · obtain ⟨z, hz⟩ := some_of_lt (l := t.m) (j := m) (by rw [← HY1.out]; exact hlt2)
                  obtain ⟨bo, oo, rfl, -, hn2, hm2, -, ⟨hz0, hz1⟩, k1, k2⟩ := (Pows.on H5.out hx2).cellAt hz
                  have HZ : Hid (t.m.take (m + 1) = t.m.take m ++ [z]) := hid (by rw [List.take_add_one, hz]; rfl)
                  have HZQ := hid (List.mem_of_getElem? hz)
                  obtain ⟨z2, hz2⟩ : ∃ n, n = z.2 := ⟨_, rfl⟩
                  have HZ2 := hid hz2
                  rw [← hz2] at k2 hz1
                  obtain ⟨hz3, hz4⟩ := hz1
                  clear hz hx2 k1 hz0 hz2
                  by_cases hb2 : 4 < z2
                  · have HFT : Hid (great16 ls = true) := hid (by
                      unfold great16
                      rw [List.any_eq_true.2 ⟨p, HQP.out, ?_⟩]
                      · rfl
                      unfold big16
                      rw [List.any_eq_true.2 ⟨t, HQ.out, ?_⟩, Bool.or_true]
                      unfold bigT16
                      rw [List.any_eq_true.2 ⟨z, HZQ.out, by rw [← HZ2.out]; exact decide_eq_true hb2⟩, Bool.or_true])
                    go_wp2
                    all_goals
                      go_ret
                      exact ⟨by rw [HFT.out]; rfl, HX2.out⟩
                  · have hle2 : z2 ≤ 4 := by omega
                    have HND : Hid (decide (4 < z.2) = false) := hid (by rw [← HZ2.out]; exact decide_eq_false hb2)
                    clear hb2
                    go_wp2
                    go_roundw
                    case rel => exact ⟨m + 1, by omega, by go_num, HX2'.out, hid (by rw [HZ.out, List.any_append, HM2.out]; simp only [List.any_cons, List.any_nil, HND.out]; rfl)⟩
                    case measure => simp only [intOf]; omega
                · obtain rfl : m = y1 := by omega
                  have HNE : Hid (t.m.any (fun x => decide (4 < x.2)) = false) := hid (by have := HM2.out; rw [HY1.out, List.take_length] at this; exact this)
                  clear hx2
                  go_wp2
                  go_roundw
                  case rel => exact ⟨j + 1, by omega, by go_num, HXR.out.trans HX2'.out, hid (by rw [HT.out, List.any_append, HM.out]; simp only [List.any_cons, List.any_nil, bigT16, HNB.out, HNE.out]; rfl)⟩
                  case measure => simp only [intOf]; omega
          · obtain rfl : j = np := by omega
            have HPE : Hid (big16 p = false) := hid (by unfold big16; have := HM.out; rw [HNP.out, List.take_length] at this; rw [this, HG.out]; rfl)
            clear hx
            go_wp2
            go_roundw
            case rel => exact ⟨k + 1, by omega, by go_num, HXY.out, hid (by rw [HTP.out, List.any_append, HA.out]; simp only [List.any_cons, List.any_nil, HPE.out]; rfl)⟩
            case measure => simp only [intOf]; omega
    · obtain rfl : k = n := by omega
      have HFE : Hid (great16 ls = decide ((k : Int) > 5)) := hid (by unfold great16; have := HA.out; rw [HN.out, List.take_length] at this; rw [this, ← HN.out, Bool.false_or]; exact decide_eq_decide.2 (by omega))
      clear hx
      go_wp2
      all_goals
        go_ret
        exact ⟨by rw [HFE.out]; rfl, HX.out⟩
end Go.Proofs.YthdcaablomgboaaGreat

namespace Go.Proofs.YthdcaablomgboaaGreat
open Go.RowKit

set_option maxRecDepth 100000 in
set_option maxHeartbeats 8000000 in
theorem law16_ints {W : World} {va vb : Value} {xa xb : List Int} (ha : Ints (Old W) W va xa) (hb : Ints (Old W) W vb xb) :
    Calls Tryz.prog 18 #[va, vb] W fun e W' => e = .returned (.bool (decide (xa = xb))) ∧ Ext W W' := by
  have HA := hid ha
  have HB := hid hb
  have hla := ha.len_le
  have hlb := hb.len_le
  obtain ⟨aa, ca, rfl⟩ := ha.form
  obtain ⟨ab, cb, rfl⟩ := hb.form
  obtain ⟨na, hna⟩ : ∃ n, n = xa.length := ⟨_, rfl⟩
  obtain ⟨nb, hnb⟩ : ∃ n, n = xb.length := ⟨_, rfl⟩
  rw [← hna] at HA hla ⊢
  rw [← hnb] at HB hlb ⊢
  have HNA := hid hna
  have HNB := hid hnb
  clear ha hb hna hnb
  by_cases hl : na = nb
  · subst hl
    have q1 : ((na : Int) != (na : Int)) = false := by rw [bne_eq_false_iff_eq]
    go_enter Tryz.func18, Tryz.ntmps18
    go_wp2
    go_loopw [13] (fun i wr => ∃ k : Nat, k ≤ na ∧ i = .int .i64 k ∧ Ext W wr ∧ Hid (xa.take k = xb.take k)) (fun i _ => na - (intOf i).toNat)
    case atStart => exact ⟨0, Nat.zero_le _, rfl, Ext.refl _, hid rfl⟩
    case round =>
      obtain ⟨k, hk, rfl, hx, HT⟩ := hrel
      have HX := hid hx
      by_cases hlt : k < na
      · obtain ⟨x, hx1⟩ := some_of_lt (l := xa) (j := k) (by rw [← HNA.out]; exact hlt)
        obtain ⟨y, hy1⟩ := some_of_lt (l := xb) (j := k) (by rw [← HNB.out]; exact hlt)
        obtain ⟨ba, oa, rfl, -, ha1, ha2, hSa, hia, hca⟩ := HA.out.cellAt hx1
        obtain ⟨bb, ob, rfl, -, hb1, hb2, hSb, hib, hcb⟩ := HB.out.cellAt hy1
        obtain ⟨hi1, hi2⟩ := hia
        obtain ⟨hi3, hi4⟩ := hib
        have L1 := fun Y : Later wr => Y.h.cell (hx.cell hca)
        have L2 := fun Y : Later wr => Y.h.cell (hx.cell hcb)
        have HXA := hid hx1
        have HYB := hid hy1
        clear hx hca hcb hx1 hy1
        by_cases hxy : x = y
        · have q2 : (x != y) = false := by rw [bne_eq_false_iff_eq]; exact hxy
          have HTK : Hid (xa.take (k + 1) = xb.take (k + 1)) := hid (by rw [List.take_add_one, List.take_add_one, HT.out, HXA.out, HYB.out, hxy])
          clear hxy
          go_wp2
          refine wp_region_later (by kernel_rfl) (by kernel_rfl) ?_
          repeat (go_big_quiet_step (fail))
          refine wpQuiet_nil ?_
          intro W2 hW2
          have HX2 := hid (HX.out.trans hW2)
          clear hW2 L1 L2
          go_wp2
          go_roundw
          case rel => exact ⟨k + 1, by omega, by go_num, HX2.out, HTK⟩
          case measure => simp only [intOf]; omega
        · have q2 : (x != y) = true := by rw [bne_iff_ne]; exact hxy
          have HNE : Hid (xa ≠ xb) := hid (fun e => by
            have h1 := HXA.out
            rw [e, HYB.out] at h1
            exact hxy (Option.some.inj h1).symm)
          clear hxy
          go_wp2
          refine wp_region_later (by kernel_rfl) (by kernel_rfl) ?_
          repeat (go_big_quiet_step (fail))
          refine wpQuiet_nil ?_
          intro W2 hW2
          have HX2 := hid (HX.out.trans hW2)
          clear hW2 L1 L2
          go_wp2
          all_goals
            go_ret
            exact ⟨by rw [decide_eq_false HNE.out]; rfl, HX2.out⟩
      · obtain rfl : k = na := by omega
        have HE : Hid (xa = xb) := hid (by
          have h := HT.out
          rwa [List.take_of_length_le (by rw [← HNA.out]; exact Nat.le_refl _), List.take_of_length_le (by rw [← HNB.out]; exact Nat.le_refl _)] at h)
        clear hx
        go_wp2
        all_goals
          go_ret
          exact ⟨by rw [decide_eq_true HE.out]; rfl, HX.out⟩
  · have q1 : ((na : Int) != (nb : Int)) = true := by rw [bne_iff_ne]; omega
    have HNE : Hid (xa ≠ xb) := hid (fun e => hl (by rw [HNA.out, HNB.out, e]))
    go_enter Tryz.func18, Tryz.ntmps18
    go_wp2
    all_goals
      go_ret
      exact ⟨by rw [decide_eq_false HNE.out]; rfl, Ext.refl _⟩
end Go.Proofs.YthdcaablomgboaaGreat

namespace Go.Proofs.YthdcaablomgboaaGreat
open Go.RowKit

theorem fit16 {ts : List RTerm} (h : big16 ts = false) : ts.length ≤ 6 ∧ ∀ t ∈ ts, t.c.mag.length ≤ 3 ∧ ∀ y ∈ t.m, y.2 ≤ 4 := by
  unfold big16 at h
  rw [Bool.or_eq_false_iff] at h
  obtain ⟨h1, h2⟩ := h
  have h3 := great_fit (n := 6) h1
  refine ⟨h3.1, fun t ht => ?_⟩
  have h4 := (List.any_eq_false.1 h2) t ht
  unfold bigT16 at h4
  rw [Bool.not_eq_true, Bool.or_eq_false_iff] at h4
  refine ⟨by have := h4.1; rw [decide_eq_false_iff_not] at this; omega, fun y hy => ?_⟩
  have := (List.any_eq_false.1 h4.2) y hy
  rw [decide_eq_true_eq] at this
  omega
theorem small16 {ts : List RTerm} (h : big16 ts = false) : smallT ts := fun t ht => Nat.le_trans ((fit16 h).2 t ht).1 (by decide)
theorem fitT16 {ts : List RTerm} (h : big16 ts = false) : fitT ts := ⟨fun t ht => Nat.le_trans ((fit16 h).2 t ht).1 (by decide), Nat.le_trans (fit16 h).1 (by decide)⟩
theorem plain16 {ts : List RTerm} (hok : okT ts) (h : big16 ts = false) : Fit 3 6 (plainP ts) ∧ exB 4 (plainP ts) := by
  have h1 := fit16 h
  refine ⟨fit_plain hok (fun t ht => (h1.2 t ht).1) h1.1, fun t ht u => ?_⟩
  unfold plainP at ht
  split at ht
  · obtain ⟨y, hy, rfl⟩ := List.mem_map.1 ht
    exact ex_le (by decide) (h1.2 y hy).2 u
  · simp at ht
theorem great16_no {ls : List (List RTerm)} (h : great16 ls = false) : (∀ p ∈ ls, big16 p = false) ∧ ls.length ≤ 5 := by
  unfold great16 at h
  rw [Bool.or_eq_false_iff] at h
  refine ⟨fun p hp => by have := (List.any_eq_false.1 h.1) p hp; rwa [Bool.not_eq_true] at this, ?_⟩
  have := h.2
  rw [decide_eq_false_iff_not] at this
  omega
end Go.Proofs.YthdcaablomgboaaGreat

namespace Go.Proofs.YthdcaablomgboaaGreat
open Go.RowKit

set_option maxRecDepth 100000 in
theorem by_each {S : Nat → Prop} (vp vq : Value) (ps qs : List RTerm) (b : Nat) (w : World) (hc : w.cell? ⟨b, 0, none⟩ = some vp) (hp : Terms S w vp ps) (hq : Terms S w vq qs) (hS : ∀ k, S k → k < w.heap.size) (hrp : smallT ps) (hrq : smallT qs) :
    Calls Tryz.prog 63 #[vq, .pointer (some ⟨b, 0, none⟩)] w fun e w' => e = .returned (.bool (!reducedP (plainP ps) (plainP qs))) ∧ Ext w w' := by
  have hnot : ∀ (x : Bool) (w : World), (Op.unary .not (.bool x)).run Tryz.prog w = .ok (.bool (!x)) w := fun _ _ => rfl
  have HP := hid hp
  have HQ := hid hq
  have HRP := hid hrp
  have HRQ := hid hrq
  obtain ⟨ap, cp, rfl⟩ := hp.form
  obtain ⟨aq, cq, rfl⟩ := hq.form
  clear hp hq hrp hrq
  go_enter Tryz.func63, Tryz.ntmps63
  go_wp2_with fail
  refine (rank_reduced _ _ ps qs w HP.out HQ.out hS HRP.out HRQ.out).mono ?_
  rintro e w1 ⟨rfl, hx1⟩
  have HX1 := hid hx1
  clear hx1
  go_wp2
  all_goals
    go_ret
    exact ⟨rfl, HX1.out⟩

set_option maxRecDepth 100000 in
set_option maxHeartbeats 1000000 in
theorem by_index {S : Nat → Prop} (vp vl : Value) (ps : List RTerm) (ls : List (List RTerm)) (b : Nat) (w : World) (hc : w.cell? ⟨b, 0, none⟩ = some vp) (hp : Terms S w vp ps) (hl : Polys S w vl ls) (hS : ∀ k, S k → k < w.heap.size) (hrp : smallT ps) (hrl : smallL ls) :
    Calls Tryz.prog 106 #[vl, .func (.func 63) #[] #[.pointer (some ⟨b, 0, none⟩)]] w fun e w' => ∃ n : Int, e = .returned (.int .i64 n) ∧ -1 ≤ n ∧ n ≤ 9223372036854775807 ∧ (0 ≤ n ↔ byP (plainP ps) ls = false) ∧ Ext w w' := by
  have HC := hid hc
  have HP := hid hp
  have HL := hid hl
  have HRP := hid hrp
  have HRL := hid hrl
  have hle := hl.len_le
  obtain ⟨a, cap, rfl⟩ := hl.form
  clear hp hl hrp hrl hc
  go_enter Tryz.func106, Tryz.ntmps106
  go_wp2
  go_loopw [8] (fun i wr => ∃ k : Nat, k ≤ ls.length ∧ i = .int .i64 k ∧ Ext w wr ∧ byP (plainP ps) (ls.take k) = true) (fun i _ => ls.length - (intOf i).toNat)
  case atStart => exact ⟨0, Nat.zero_le _, rfl, Ext.refl _, rfl⟩
  case round =>
    obtain ⟨k, hk, rfl, hx, hm⟩ := hrel
    by_cases hlt : k < ls.length
    · obtain ⟨q, hq⟩ := some_of_lt hlt
      obtain ⟨bl, off, vq, rfl, -, hn1, hm1, hSb, h1, h2⟩ := HL.out.cellAt hq
      have HRQ := hid (HRL.out q (List.mem_of_getElem? hq))
      have g1 := Ext.cell hx h1
      have HX := hid hx
      have H2 := hid h2
      have HQ := hid hq
      have HM := hid hm
      have ht : ls.take (k + 1) = ls.take k ++ [q] := by rw [List.take_add_one, hq]; rfl
      have HT := hid ht
      obtain ⟨aq, cq, rfl⟩ := h2.form
      have hcl := by_each (S := S) vp (.slice aq q.length cq) ps q b wr (hx.cell HC.out) (HP.out.ext hx hS) (h2.ext hx hS) (lt_ext hS hx) HRP.out HRQ.out
      have HCL := hid hcl
      clear hcl h1 h2 hx hq hm ht
      go_wp2_with fail
      refine HCL.out.mono ?_
      rintro e w1 ⟨rfl, hx1⟩
      have HX1 := hid (HX.out.trans hx1)
      clear hx1
      cases hr : reducedP (plainP ps) (plainP q) with
      | true =>
        have HR := hid hr
        clear hr
        go_wp2
        go_roundw
        case rel => exact ⟨k + 1, by omega, by go_num, HX1.out, by rw [HT.out]; unfold byP at HM ⊢; rw [List.all_append, HM.out]; simp [HR.out]⟩
        case measure => simp only [intOf]; omega
      | false =>
        have HR := hid hr
        clear hr
        go_wp2
        go_ret
        refine ⟨(k : Int), rfl, by omega, by omega, ⟨fun _ => ?_, fun _ => by omega⟩, HX1.out⟩
        unfold byP
        rw [List.all_eq_false]
        exact ⟨q, List.mem_of_getElem? HQ.out, by rw [HR.out]; simp⟩
    · obtain rfl : k = ls.length := by omega
      have HX := hid hx
      rw [List.take_length] at hm
      have HM := hid hm
      clear hx hm
      go_wp2
      go_ret
      exact ⟨-1, rfl, by omega, by omega, by rw [HM.out]; simp, HX.out⟩

set_option maxRecDepth 100000 in
set_option maxHeartbeats 1000000 in
theorem by_contains {S : Nat → Prop} (vp vl : Value) (ps : List RTerm) (ls : List (List RTerm)) (b : Nat) (w : World) (hc : w.cell? ⟨b, 0, none⟩ = some vp) (hp : Terms S w vp ps) (hl : Polys S w vl ls) (hS : ∀ k, S k → k < w.heap.size) (hrp : smallT ps) (hrl : smallL ls) :
    Calls Tryz.prog 62 #[vl, .func (.func 63) #[] #[.pointer (some ⟨b, 0, none⟩)]] w fun e w' => e = .returned (.bool (!byP (plainP ps) ls)) ∧ Ext w w' := by
  have HI := hid (by_index vp vl ps ls b w hc hp hl hS hrp hrl)
  obtain ⟨a, cap, rfl⟩ := hl.form
  clear hc hp hl hrp hrl
  go_enter Tryz.func62, Tryz.ntmps62
  go_wp2_with fail
  refine HI.out.mono ?_
  rintro e w1 ⟨n, rfl, hn1, hn2, hn3, hx1⟩
  have HX1 := hid hx1
  have HN := hid hn3
  clear hx1 hn3
  by_cases hn : 0 ≤ n
  · have HF := hid (HN.out.1 hn)
    go_wp2
    go_ret
    exact ⟨by rw [HF.out]; rfl, HX1.out⟩
  · have HF : Hid (byP (plainP ps) ls = true) := by
      cases h : byP (plainP ps) ls with
      | true => exact hid rfl
      | false => exact absurd (HN.out.2 h) hn
    go_wp2
    go_ret
    exact ⟨by rw [HF.out]; show Ending.returned (.bool (decide (0 ≤ n))) = _; rw [decide_eq_false (by omega)]; rfl, HX1.out⟩

set_option maxRecDepth 100000 in
set_option maxHeartbeats 1000000 in
theorem rank_by {S : Nat → Prop} (vp vl : Value) (ps : List RTerm) (ls : List (List RTerm)) (w : World) (hp : Terms S w vp ps) (hl : Polys S w vl ls) (hS : ∀ k, S k → k < w.heap.size) (hrp : smallT ps) (hrl : smallL ls) :
    Calls Tryz.prog 27 #[vp, vl] w fun e w' => e = .returned (.bool (byP (plainP ps) ls)) ∧ Ext w w' := by
  have hnot : ∀ (x : Bool) (w : World), (Op.unary .not (.bool x)).run Tryz.prog w = .ok (.bool (!x)) w := fun _ _ => rfl
  have hmf : ∀ (fn : Fn) (first cap : Array Value) (w : World), (Instr.makeFunc fn first cap).run Tryz.prog w = .ok (.func fn first cap) w := fun _ _ _ _ => rfl
  have HP := hid hp
  have HL := hid hl
  have HRP := hid hrp
  have HRL := hid hrl
  obtain ⟨ap, cp, rfl⟩ := hp.form
  obtain ⟨al, cl, rfl⟩ := hl.form
  clear hp hl hrp hrl
  have HK := hid (Ext.alloc (Ext.refl w) (.cells #[.slice ap ps.length cp] 23))
  have HCC := hid (cell_new w #[.slice ap ps.length cp] 23 (b := w.heap.size) (i := 0) rfl rfl)
  have hcl := by_contains (S := S) (.slice ap ps.length cp) (.slice al ls.length cl) ps ls w.heap.size _ HCC.out (HP.out.ext HK.out hS) (HL.out.ext HK.out hS) (lt_ext hS HK.out) HRP.out HRL.out
  have HCL := hid hcl
  clear hcl
  go_enter Tryz.func27, Tryz.ntmps27
  go_wp2_with fail
  refine HCL.out.mono ?_
  rintro e w1 ⟨rfl, hx1⟩
  have HX1 := hid (HK.out.trans hx1)
  clear hx1
  go_wp2
  all_goals
    go_ret
    exact ⟨by simp, HX1.out⟩
end Go.Proofs.YthdcaablomgboaaGreat

namespace Go.Proofs.YthdcaablomgboaaGreat

def nrm : PZ → Nat
  | [] => 0
  | t :: r => t.1.natAbs + nrm r
theorem nrm_append (p q : PZ) : nrm (p ++ q) = nrm p + nrm q := by
  induction p with
  | nil => simp [nrm]
  | cons t r ih => rw [List.cons_append, nrm, nrm, ih]; omega
theorem nrm_mem {p : PZ} {t : Int × Mono} (h : t ∈ p) : t.1.natAbs ≤ nrm p := by
  induction p with
  | nil => simp at h
  | cons u r ih =>
    rw [nrm]
    rcases List.mem_cons.1 h with rfl | h
    · omega
    · have := ih h; omega
theorem nrm_negP (p : PZ) : nrm (negP p) = nrm p := by
  induction p with
  | nil => rfl
  | cons t r ih =>
    show (-t.1).natAbs + nrm (negP r) = _
    rw [ih, nrm, Int.natAbs_neg]
theorem nrm_putP (p : PZ) (c : Int) (m : Mono) : nrm (putP p c m) ≤ nrm p + c.natAbs := by
  induction p with
  | nil =>
    simp only [putP]
    split
    · simp [nrm]
    · simp [nrm]
  | cons t r ih =>
    simp only [putP]
    split
    · simp only [nrm]; omega
    · split
      · split
        · simp only [nrm]; omega
        · simp only [nrm]; have := Int.natAbs_add_le c t.1; omega
      · split
        · simp only [nrm]; omega
        · simp only [nrm]; omega
theorem nrm_addP (p l : PZ) : nrm (addP p l) ≤ nrm p + nrm l := by
  unfold addP
  induction l generalizing p with
  | nil => simp [nrm]
  | cons t r ih =>
    rw [List.foldl_cons]
    have h1 := ih (putP p t.1 t.2)
    have h2 := nrm_putP p t.1 t.2
    simp only [nrm]
    omega
theorem nrm_normP (l : PZ) : nrm (normP l) ≤ nrm l := by
  have h := nrm_addP [] l
  rw [show nrm [] = 0 from rfl, Nat.zero_add] at h
  exact h
theorem nrm_scale (c : Int) (m : Mono) (q : PZ) : nrm (q.map fun u => (c * u.1, timesM m u.2)) = c.natAbs * nrm q := by
  induction q with
  | nil => simp [nrm]
  | cons t r ih => rw [List.map_cons, nrm, nrm, ih, Int.natAbs_mul, Nat.mul_add]
theorem nrm_mulL (p q : PZ) : nrm (mulL p q) = nrm p * nrm q := by
  unfold mulL
  induction p with
  | nil => simp [nrm]
  | cons t r ih => rw [List.flatMap_cons, nrm_append, ih, nrm_scale, nrm, Nat.add_mul]
theorem nrm_filterMap {f : Int × Mono → Option (Int × Mono)} (hf : ∀ t u, f t = some u → u.1 = t.1) (p : PZ) : nrm (p.filterMap f) ≤ nrm p := by
  induction p with
  | nil => simp [nrm]
  | cons t r ih =>
    rw [List.filterMap_cons]
    cases h : f t with
    | none => simp only [nrm]; omega
    | some u => simp only [nrm]; rw [hf t u h]; omega
theorem nrm_coef (p : PZ) (v e : Int) : nrm (coefP p v e) ≤ nrm p := nrm_filterMap (fun t u h => by
  unfold coefF at h
  split at h
  · cases h; rfl
  · cases h) p
theorem nrm_init (p : PZ) : nrm (initP p) ≤ nrm p := by
  unfold initP
  split
  · exact Nat.le_refl _
  · exact nrm_coef _ _ _
theorem nrm_times {p q c : PZ} (hp : mayAll p) (hq : mayAll q) (h : timesP p q = some c) : nrm c ≤ nrm p * nrm q := by
  obtain ⟨-, rfl⟩ := times_some hp hq h
  exact Nat.le_trans (nrm_normP _) (Nat.le_of_eq (nrm_mulL p q))
theorem nrm_pow (v : Int) (i : Nat) : nrm (powP v i) = 1 := by
  unfold powP
  split <;> rfl
theorem nrm_fit {p : PZ} {k n : Nat} (hc : canP p) (h : nrm p < B32 ^ k) (hn : p.length ≤ n) : Fit k n p := ⟨hc, fun _ ht => Nat.lt_of_le_of_lt (nrm_mem ht) h, hn⟩
theorem fit_nrm {p : PZ} {k n : Nat} (h : Fit k n p) : nrm p ≤ n * B32 ^ k := by
  obtain ⟨-, hb, hl⟩ := h
  refine Nat.le_trans ?_ (Nat.mul_le_mul_right _ hl)
  clear hl
  induction p with
  | nil => simp [nrm]
  | cons t r ih =>
    have h1 := ih (fun u hu => hb u (by simp [hu]))
    have h2 := hb t (by simp)
    rw [nrm, List.length_cons, Nat.succ_mul]
    omega
theorem powN_can {h : PZ} (ch : canP h) : ∀ {n : Nat} {P : PZ}, powN h n = some P → canP P := by
  intro n
  induction n with
  | zero =>
    intro P hP
    rw [powN] at hP
    obtain rfl := Option.some.inj hP
    exact unit_can
  | succ n ih =>
    intro P hP
    rw [powN] at hP
    cases hq : powN h n with
    | none => rw [hq] at hP; cases hP
    | some Q =>
      rw [hq] at hP
      exact times_can (ih hq) ch hP
theorem nrm_powN {h : PZ} {G : Nat} (ch : canP h) (hG : nrm h ≤ G) : ∀ (n : Nat) (P : PZ), powN h n = some P → nrm P ≤ G ^ n := by
  intro n
  induction n with
  | zero =>
    intro P hP
    rw [powN] at hP
    obtain rfl := Option.some.inj hP
    exact Nat.le_refl _
  | succ n ih =>
    intro P hP
    rw [powN] at hP
    cases hq : powN h n with
    | none => rw [hq] at hP; cases hP
    | some Q =>
      rw [hq] at hP
      have h1 := ih Q hq
      have cQ := powN_can ch hq
      have h2 := nrm_times cQ.may ch.may hP
      rw [Nat.pow_succ]
      exact Nat.le_trans h2 (Nat.mul_le_mul h1 hG)

section
variable {g h q r : PZ} {v d : Int} {x : PZ × PZ} {keep : Bool} {G Q R : Nat}
theorem nrm_term {t : PZ} (hr : canP r) (hv : 1 ≤ v ∧ v ≤ 200) (hd : 0 ≤ d) (ht : termD r v d = some t) : nrm t ≤ nrm r := by
  have hrg := degP_range hr.may v
  have h1 := nrm_times (coefP_can hr v _).may (pow_can hv (i := (degP r v - d).toNat) (by omega)).may ht
  rw [nrm_pow, Nat.mul_one] at h1
  exact Nat.le_trans h1 (nrm_coef _ _ _)
/-- a step's sizes -/
theorem nrm_step (hg : canP g) (hh : canP h) (hq : canP q) (hr : canP r) (hv : 1 ≤ v ∧ v ≤ 200) (hd : 0 ≤ d) (hs : stepD keep g h v d q r = some x) (ng : nrm g ≤ G) (nh : nrm h ≤ G) (nq : nrm q ≤ Q) (nr : nrm r ≤ R) :
    nrm x.1 ≤ G * Q + R ∧ nrm x.2 ≤ 2 * G * R := by
  obtain ⟨t, l, m, ht, hl, hm, e2, e3, e4⟩ := stepD_some hs
  have ct := termD_can hr hv hd ht
  have n1 := Nat.le_trans (nrm_term hr hv hd ht) nr
  have n2 : nrm l ≤ R * G := Nat.le_trans (nrm_times ct.may hg.may hl) (Nat.mul_le_mul n1 ng)
  have n3 : nrm m ≤ G * R := Nat.le_trans (nrm_times hh.may hr.may hm) (Nat.mul_le_mul nh nr)
  refine ⟨?_, ?_⟩
  · cases keep with
    | false => rw [e3 rfl]; exact Nat.zero_le _
    | true =>
      obtain ⟨u, hu, e⟩ := e4 rfl
      have n4 : nrm u ≤ G * Q := Nat.le_trans (nrm_times hh.may hq.may hu) (Nat.mul_le_mul nh nq)
      rw [e]
      refine Nat.le_trans (nrm_normP _) ?_
      rw [nrm_append]
      omega
  · rw [e2]
    refine Nat.le_trans (nrm_normP _) ?_
    rw [nrm_append, nrm_negP, Nat.mul_assoc]
    rw [Nat.mul_comm R G] at n2
    omega
end
end Go.Proofs.YthdcaablomgboaaGreat
