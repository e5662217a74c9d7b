/- A document's small number, below 0 too. Slices of polynomials in memory. What the law knows. The document: the other sign, the difference. Coefficients, initial, tail and derivative of polynomials. Plain. What is made of two monomials, exponent by exponent; products of monomials. Plain. The document's product of monomials is the program's. Plain. The document: a monomial without a variable. append to a slice without room: a copy in memory of its own. Stable merges of two lists, and the stable sort of a list by merges. Plain. Terms that are summed by their monomials: what is collected is the canonical list. Plain. A monomial without a variable: a slice of the call's own. Ranks of initial, tail and derivative; derivatives by two variables. Plain. The product of two monomials: the program's answer. The product of two numbers, limb by limb. A small number's limbs; a number's own. The product of two whole numbers (one of them of fewer than 24 limbs); a number's own. A small number as a whole number. The document: classes, degrees and ranks of polynomials. Which polynomials are too great for the law. Polynomials as sums: linear functionals on lists of terms, products, and that a canonical list is told by them. Plain. Degrees, initials, classes and derivatives of products and sums. Plain. Lists that are the same so far. Are two polynomials the same data? The contracts of sync/atomic's Int64 and Bool, of sync.Mutex and of sync.Once, for one goroutine: what each call does to memory. Conditions: the lock is free. The contracts of the meter's first refusal: sync.Once's Do around the closure that keeps what would be needed. Conditions: the Once's lock is free. The meter: what each of its methods does to its block, and to nothing else. How many limbs the longest coefficient has: the program's and the document's answer. The meter's methods: each answers an error's number, or a count, and changes its own block alone. The meter's Keep and New, and its methods on a meter that is not there. The document's meter: its methods over its block of eight numbers. A meter that is not there: each of its methods answers that nothing is bound. Long division, plainly: a limb of the quotient by a guess, one step of the division, all steps. Long division of limbs: the guess of a limb. -/
import Derived.Test.YtbhdgdmelepnhaaGreatProg
import Derived.Lib.SmallJoins
import Derived.Tactics
import Derived.Tactics2
import Derived.Defers
import Derived.Laws.Pointers
import Derived.Laws.LoneSync
import Derived.RegionTactic
import Derived.RegionCalls
import Derived.ChangeAlike
import Derived.Laws.NewBlocks
import Derived.WalkKit
import Derived.BigQuiet
import Derived.Deep.QuietTactic
import Derived.StillTailTactics
import Derived.Laws.BitsLemmas
import Derived.WalkMore
import Derived.Test.YtbhdgdmelepnhaaGreatSd3
namespace Go.Proofs.YtbhdgdmelepnhaaGreat
open Go.RowKit

theorem digs_lit1 (w : World) (T : TypeId) : Digs (Old (w.alloc (.cells #[.int .i64 1] T))) (w.alloc (.cells #[.int .i64 1] T)) (.slice (some ⟨w.heap.size, 0, none⟩) 1 1) [1] := by
  refine ⟨w.heap.size, 0, ⟨_, 1, rfl, Nat.le_refl _, by decide, fun _ => rfl, fun _ => by show w.heap.size < (w.alloc _).heap.size; rw [size_alloc]; omega⟩, fun j z hj => ?_⟩
  have hj2 := lt_of_some hj
  match j, hj with
  | 0, hj =>
    obtain rfl : 1 = z := by simpa using hj
    exact ⟨by decide, cell_new _ _ _ rfl rfl⟩
  | j + 1, _ => simp at hj2
set_option maxRecDepth 100000 in
set_option maxHeartbeats 4000000 in
theorem zed_small_neg (n : Nat) (w : World) (hn : n < 1000000000000000) :
    Calls Tryz.prog 38 #[.int .i64 (-((n : Int) + 1))] w fun e w' => ∃ v', e = .returned v' ∧ ZV (New w w') w' v' (-((n : Int) + 1)) ∧ Ext w w' := by
  have HK := hid (Ext.alloc (Ext.refl w) (.cells #[.bool false, .slice none 0 0] 56))
  have HSZ : Hid (w.heap.size < (w.alloc (.cells #[.bool false, .slice none 0 0] 56)).heap.size) := hid (by simp)
  have HC := hid (dig_small n (w.alloc (.cells #[.bool false, .slice none 0 0] 56)) (by omega))
  have hge : ¬ ((0 : Int) ≤ -((n : Int) + 1)) := by omega
  have q1 : decide ((0 : Int) ≤ -((n : Int) + 1)) = false := decide_eq_false hge
  have q2 : (-(-((n : Int) + 1) + 1)) = (n : Int) := by omega
  have HL : Hid ((rep 10 n).length ≤ 20) := hid (rep_len_le two_le_10 _ _ (Nat.lt_of_lt_of_le hn (by decide)))
  have HV : Hid (rep 10 (val 10 (rep 10 n) + val 10 [1]) = rep 10 (n + 1)) := hid (by rw [val_rep (by decide)]; rfl)
  obtain ⟨m, hm⟩ : ∃ m : Int, m = -((n : Int) + 1) := ⟨_, rfl⟩
  have HM := hid hm
  have hm2 : m + 1 = -(n : Int) := by omega
  have hm3 : ¬ (0 ≤ m) := by omega
  have q3 : decide ((0 : Int) ≤ m) = false := decide_eq_false hm3
  rw [← hm]
  clear hge q1 q2 hm
  go_enter Tryz.func38, Tryz.ntmps38
  go_wp2_with fail
  with_reducible refine HC.out.mono ?_
  rintro e w1 ⟨v1, rfl, hd, hx⟩
  have HX := hid (HK.out.trans hx)
  have HX1 := hid hx
  have HA := hid (dig_add (S := Old (w1.alloc (.cells #[.int .i64 1] 3))) v1 (.slice (some ⟨w1.heap.size, 0, none⟩) 1 1) (rep 10 n) [1] (w1.alloc (.cells #[.int .i64 1] 3)) (hd.to (Kept.ext (Ext.alloc (Ext.refl _) _) New.lt) (fun k hk => Nat.lt_of_lt_of_le hk.2 (Ext.alloc (Ext.refl _) _).size)) (digs_lit1 w1 3) (fun _ h => h) (by have := HL.out; omega) (by simp))
  rw [HV.out] at HA
  obtain ⟨r0, r1, f0, f1⟩ := new2 hx
  have HE := hid (And.intro (And.intro r0 r1) (And.intro f0 f1))
  obtain ⟨a1, n1, rfl⟩ := hd.form
  clear hd hx r0 r1 f0 f1
  go_wp2_with fail
  with_reducible refine HA.out.mono ?_
  rintro e w2 ⟨v2, rfl, hd2, hx2⟩
  have HX2 := hid ((HX1.out.alloc _).trans hx2)
  have hy : Ext w1 w2 := (Ext.alloc (Ext.refl _) _).trans hx2
  have r0 := hy.cell HE.out.1.1
  have r1 := hy.cell HE.out.1.2
  have f0 := hy.free (lt_of_cell HE.out.1.1) HE.out.2.1
  have f1 := hy.free (lt_of_cell HE.out.1.1) HE.out.2.2
  have HE2 := hid (And.intro r0 r1)
  have HD := hid (hd2.to (S' := New w1 w2) (Kept.refl _ _) (New.mono (Ext.alloc (Ext.refl _) _)))
  obtain ⟨a2, n2, rfl⟩ := hd2.form
  clear hd2 hx2 hy
  go_wp2
  have hdd := fun x y => two_set x y HE2.out.1 HE2.out.2
  refine bodyPost_ret (by simp [results, Tryz.results38, go_sem, (hdd _ _).1, (hdd _ _).2]; rfl) rfl ?_
  have hz := zv_mk (b := true) HD.out
  have hsg : sg true (n + 1) = m := by rw [HM.out]; unfold sg; simp
  rw [hsg] at hz
  have hz2 : ZV (New w1 w2) w2 (.agg #[.bool true, .slice a2 (rep 10 (n + 1)).length n2]) m := by simpa using hz
  have hg := fun x y => ret_zed (w0 := w) (b := w.heap.size) (hz2.to (S' := New (w.alloc (.cells #[.bool false, .slice none 0 0] 56)) w2) (Kept.refl _ _) (fun k hk => ⟨Nat.le_trans HX1.out.size hk.1, hk.2⟩)) HK.out HX2.out (Nat.le_refl _) HSZ.out x y
  exact ⟨_, rfl, (hg _ _).1, (hg _ _).2⟩
end Go.Proofs.YtbhdgdmelepnhaaGreat

namespace Go.Proofs.YtbhdgdmelepnhaaGreat
open Go.RowKit

theorem Polys.form {S : Nat → Prop} {w : World} {v : Value} {zs : List (List RTerm)} (h : Polys S w v zs) : ∃ a cap, v = .slice a zs.length cap := by
  obtain ⟨b, off, ⟨a, cap, h1, _⟩, _⟩ := h
  exact ⟨a, cap, h1⟩
theorem Polys.ext {S : Nat → Prop} {w W : World} {v : Value} {zs : List (List RTerm)} (h : Polys S w v zs) (hx : Ext w W) (hS : ∀ k, S k → k < w.heap.size) : Polys S W v zs := h.to (Kept.ext hx hS) (fun _ h => h)
theorem Polys.len_le {S : Nat → Prop} {w : World} {v : Value} {zs : List (List RTerm)} (h : Polys S w v zs) : zs.length ≤ 9223372036854775807 := by
  obtain ⟨b, off, ⟨a, cap, h1, h2, h3, _⟩, _⟩ := h
  unfold maxLen at h3
  omega
theorem Polys.cellAt {S : Nat → Prop} {w : World} {ts : List (List RTerm)} {a : Option Addr} {n cap k : Nat} {t : List RTerm} (h : Polys S w (.slice a n cap) ts) (ht : ts[k]? = some t) :
    ∃ b off vp, a = some ⟨b, off, none⟩ ∧ n = ts.length ∧ n ≤ cap ∧ cap ≤ 9223372036854775807 ∧ S b ∧ w.cell? ⟨b, off + k, none⟩ = some vp ∧ Terms S w vp t := by
  obtain ⟨b, off, ⟨a', cap', h1, h2, h3, h4, h5⟩, hc⟩ := h
  obtain ⟨rfl, rfl, rfl⟩ : a = a' ∧ n = ts.length ∧ cap = cap' := by simpa using h1
  have hp : 0 < ts.length := by have := lt_of_some ht; omega
  obtain ⟨vp, g1, g2⟩ := hc k t ht
  exact ⟨b, off, vp, h4 hp, rfl, h2, h3, h5 hp, g1, g2⟩

def smallL (l : List (List RTerm)) : Prop := ∀ p ∈ l, smallT p
end Go.Proofs.YtbhdgdmelepnhaaGreat

namespace Go.Proofs.YtbhdgdmelepnhaaGreat
open Go.RowKit

set_option maxRecDepth 100000 in
set_option maxHeartbeats 4000000 in
theorem rpoly_mul {S : Nat → Prop} (vp vq : Value) (p q : PZ) (w : World) (hS : ∀ k, S k → k < w.heap.size) (hp : RTs S w vp p) (hq : RTs S w vq q) (hmp : mayAll p) (hmq : mayAll q) (hszp : szP p) (hszq : szP q) (hsz : szM p q) :
    Calls Tryz.prog 18 #[vp, vq] w fun e w' => ∃ v', e = .returned v' ∧ RTs (Plus S w w') w' v' (timesV (timesP p q)) ∧ Ext w w' := by
  have HT := hid (rpoly_times vp vq p q w hS hp hq hmp hmq hszp hszq hsz)
  clear hp hq
  go_enter Tryz.func18, Tryz.ntmps18
  go_wp2_with fail
  refine HT.out.mono ?_
  rintro e w1 ⟨v1, rfl, hp1, hx1⟩
  have HX1 := hid hx1
  have HP1 := hid hp1
  clear hx1 hp1
  go_wp2
  all_goals
    go_ret
    exact ⟨_, rfl, HP1.out, HX1.out⟩

theorem plainP_ofP {p : PZ} (h : canP p) : plainP (ofP p) = p := by
  unfold plainP
  rw [if_pos (mayT_ofP h)]
  exact toP_ofP p
theorem Terms.on {w W : World} {v : Value} {z : List RTerm} (h : Terms (Old w) w v z) (hx : Ext w W) : Terms (Old W) W v z := h.to (Kept.ext hx (fun _ h => h)) (old_lt hx)
end Go.Proofs.YtbhdgdmelepnhaaGreat

namespace Go.Proofs.YtbhdgdmelepnhaaGreat
open Go.RowKit

set_option maxRecDepth 100000 in
set_option maxHeartbeats 4000000 in
theorem zed_neg {S : Nat → Prop} (vd : Value) (x : Int) (w : World) (hd : Digs S w vd (rep 10 x.natAbs)) :
    Calls Tryz.prog 103 #[.agg #[.bool (decide (x < 0)), vd]] w fun e w' => e = .returned (.agg #[.bool (decide (-x < 0)), vd]) ∧ Ext w w' := by
  obtain ⟨a, c, rfl⟩ := hd.form
  have hlen := rep10_pos x.natAbs
  obtain ⟨n, hn⟩ : ∃ n, n = (rep 10 x.natAbs).length := ⟨_, rfl⟩
  rw [← hn] at hlen ⊢
  have hl := hd.len_le
  rw [← hn] at hl
  have hpos : decide (0 < n) = decide (x ≠ 0) := by rw [hlen, decide_eq_decide]; omega
  have HPOS := hid hpos
  clear hd hn hlen hpos
  rcases (show x < 0 ∨ x = 0 ∨ 0 < x by omega) with hx | hx | hx
  · have e1 : decide (x < 0) = true := decide_eq_true hx
    have E2 : Hid (decide (-x < 0) = false) := hid (decide_eq_false (by omega))
    rw [e1]
    clear hx e1 hl
    go_enter Tryz.func103, Tryz.ntmps103
    go_wp2
    all_goals
      refine bodyPost_ret (by simp [results, Tryz.results103, go_sem]; rfl) rfl ?_
      exact ⟨by rw [E2.out], Ext.alloc (Ext.alloc (Ext.refl w) _) _⟩
  · subst hx
    have hn0 : n = 0 := by have := HPOS.out; simpa using this
    subst hn0
    have e1 : decide ((0 : Int) < 0) = false := by decide
    have E2 : Hid (decide (-(0 : Int) < 0) = false) := hid (by decide)
    rw [e1]
    clear e1 hl
    go_enter Tryz.func103, Tryz.ntmps103
    go_wp2
    all_goals
      refine bodyPost_ret (by simp [results, Tryz.results103, go_sem]; rfl) rfl ?_
      exact ⟨by rw [E2.out], Ext.alloc (Ext.alloc (Ext.refl w) _) _⟩
  · have e1 : decide (x < 0) = false := decide_eq_false (by omega)
    have E2 : Hid (decide (-x < 0) = true) := hid (decide_eq_true (by omega))
    have hn0 : 0 < n := by
      have := HPOS.out
      rw [decide_eq_decide] at this
      exact this.2 (by omega)
    rw [e1]
    clear hx e1
    go_enter Tryz.func103, Tryz.ntmps103
    go_wp2
    all_goals
      refine bodyPost_ret (by simp [results, Tryz.results103, go_sem]; rfl) rfl ?_
      exact ⟨by rw [E2.out], Ext.alloc (Ext.alloc (Ext.refl w) _) _⟩

def negP (p : PZ) : PZ := p.map fun t => (-t.1, t.2)
theorem negP_at {p : PZ} {k : Nat} {t : Int × Mono} (h : p[k]? = some t) : negP (p.take (k + 1)) = negP (p.take k) ++ [(-t.1, t.2)] := by
  rw [List.take_add_one, h]
  unfold negP
  rw [List.map_append]
  rfl
theorem negP_length (p : PZ) : (negP p).length = p.length := by unfold negP; rw [List.length_map]
theorem negP_may {p : PZ} (h : mayAll p) : mayAll (negP p) := fun t ht => by
  obtain ⟨u, hu, rfl⟩ := List.mem_map.1 ht
  exact h u hu
theorem szZ_neg {x : Int} (h : szZ x) : szZ (-x) := by unfold szZ; rw [Int.natAbs_neg]; exact h
theorem negP_sz {p : PZ} (h : szP p) : szP (negP p) := ⟨by rw [negP_length]; exact h.1, fun t ht => by
  obtain ⟨u, hu, rfl⟩ := List.mem_map.1 ht
  exact szZ_neg (h.2 u hu)⟩

set_option maxRecDepth 100000 in
set_option maxHeartbeats 8000000 in
theorem rpoly_neg {S : Nat → Prop} (v : Value) (p : PZ) (w : World) (h : RTs S w v p) (hS : ∀ k, S k → k < w.heap.size) (hsz : szP p) :
    Calls Tryz.prog 72 #[v] w fun e w' => ∃ v', e = .returned v' ∧ RTs (Plus S w w') w' v' (negP p) ∧ Ext w w' := by
  obtain ⟨j0, hj, jz0, jz1, jz2⟩ := info_parts Tryz.infoT
  have hl := h.len_le
  have H := hid h
  have HSZ := hid hsz
  obtain ⟨a, cap, rfl⟩ := h.form
  clear h hsz
  go_enter Tryz.func72, Tryz.ntmps72
  go_wp2
  go_loopw [3, 4] (fun o i wr => ∃ k xs, k ≤ p.length ∧ i = .int .i64 (k : Nat) ∧ Ext w wr ∧ Hid (wr.ownsRow w.heap.size 96 3 o k xs) ∧ Hid (Cells3 S w xs (negP (p.take k)))) (fun _ i _ => p.length - (intOf i).toNat)
  case atStart => exact ⟨0, [], Nat.zero_le _, rfl, Ext.refl _, hid (World.ownsRow_nil _ _ _ _), hid rfl⟩
  case round =>
    obtain ⟨k, xs, hk, rfl, hx, HW, HXS⟩ := hrel
    have HX := hid hx
    by_cases hlt : k < p.length
    · obtain ⟨t, ht⟩ := some_of_lt hlt
      obtain ⟨b, off, vd, vo, rfl, -, hn1, hm1, hSb, h1, h2, h3, h4, h5⟩ := H.out.cellAt ht
      have HT := hid (negP_at ht)
      have H4 := hid h4
      have H5 := hid h5
      obtain ⟨ad, cd, rfl⟩ := h4.form
      obtain ⟨ao, co, rfl⟩ := h5.form
      have x0 : Ext w wr.drew := hx.drew
      have HX0 := hid x0
      have h0 : _ ∧ _ ∧ _ := And.intro h1 (And.intro h2 h3)
      have c1 := fun (W : World) (hW : Ext w W) => zed_neg (S := S) (.slice ad (rep 10 t.1.natAbs).length cd) t.1 W (H4.out.ext hW hS)
      obtain ⟨bt, hbt⟩ : ∃ b, b = decide (t.1 < 0) := ⟨_, rfl⟩
      obtain ⟨bn, hbn⟩ : ∃ b, b = decide (-t.1 < 0) := ⟨_, rfl⟩
      obtain ⟨nt, hnt⟩ : ∃ n, n = (rep 10 t.1.natAbs).length := ⟨_, rfl⟩
      obtain ⟨nm, hnm⟩ : ∃ n, n = t.2.length := ⟨_, rfl⟩
      have HBN := hid hbn
      rw [← hbt, ← hnt, ← hnm] at h0
      rw [← hbt, ← hnt, ← hbn] at c1
      rw [← hnm] at H5
      rw [← hnt] at H4
      have S0 : _ ∧ _ ∧ _ := And.intro (x0.cell h0.1) (And.intro (x0.cell h0.2.1) (x0.cell h0.2.2))
      have C1 := hid (c1 wr.drew x0)
      have HB3 : Hid (k + 1 ≤ maxLen) := hid (by have := HSZ.out.1; unfold maxLen; omega)
      have HB4 : Hid ((k + 1) * 56 ≤ 140737488355328) := hid (by have := HSZ.out.1; omega)
      have HWR := hid (own_ext HW.out ((Ext.refl wr).drew))
      have HC0 := hid h0
      clear ht h0 h1 h2 h3 h4 h5 hx x0 c1 hbt hnt hnm hbn
      go_wp2
      go_region_held3 (fun W => W.cell? ⟨b, off + k * 3, none⟩ = some (.bool bt) ∧ W.cell? ⟨b, off + k * 3 + 1, none⟩ = some (.slice ad nt cd) ∧ W.cell? ⟨b, off + k * 3 + 2, none⟩ = some (.slice ao nm co)) (first | exact S0 | exact S1 | exact ⟨cell_old _ S1.1, cell_old _ S1.2.1, cell_old _ S1.2.2⟩ | exact S5)
        (first
          | (go_at_call 103; (with_reducible refine C1.out.mono ?_); rintro e w1 ⟨rfl, hx1⟩; have HX1 := hid (HX0.out.trans hx1); have S1 : _ ∧ _ ∧ _ := And.intro (hx1.cell S0.1) (And.intro (hx1.cell S0.2.1) (hx1.cell S0.2.2)); have HW3 := hid (own_ext (own_ext HWR.out hx1) (Ext.alloc (Ext.refl w1) (.cells #[.bool bn, .slice ad nt cd, .slice ao nm co] 96))); have HSRC3 := hid (src_one w1 #[.bool bn, .slice ad nt cd, .slice ao nm co] 96 (three_cell rfl rfl rfl) (size := 3) rfl); have HB5 := hid (HX1.out.alloc (.cells #[.bool bn, .slice ad nt cd, .slice ao nm co] 96)).size; clear hx1)
          | (refine step_append_src rfl (.tmp 11) (.tmp 24) 61 rfl w.heap.size 96 j0 (.agg #[.bool false, .slice none 0 0, .slice none 0 0]) 3 56 Tryz.underlying61 hj jz0 jz1 jz2 rfl (Nat.succ_pos _) _ k xs rfl HW3.out (some ⟨w1.heap.size, 0, none⟩) 1 1 _ rfl HSRC3.out HB3.out HB4.out HB5.out ?_; intro v5 w5 hown hg hbk; have HW5 := hid hown; have HX5 := hid (own_grown0 (HX1.out.alloc (.cells #[.bool bn, .slice ad nt cd, .slice ao nm co] 96)) HW3.out hg); have S5 : _ ∧ _ ∧ _ := And.intro (HX5.out.cell HC0.out.1) (And.intro (HX5.out.cell HC0.out.2.1) (HX5.out.cell HC0.out.2.2)); clear hown hg hbk))
      all_goals
        go_wp2
        go_roundw
        case rel =>
          refine ⟨k + 1, xs ++ (#[.bool bn, .slice ad nt cd, .slice ao nm co] : Array Value).toList, by omega, by go_num, HX5.out, HW5, hid ?_⟩
          rw [HT.out]
          have hone : Cells3 S w (#[.bool bn, .slice ad nt cd, .slice ao nm co] : Array Value).toList [(-t.1, t.2)] := by
            rw [HBN.out]
            exact Cells3.single (t := (-t.1, t.2)) (by rw [Int.natAbs_neg]; exact H4.out) H5.out
          exact HXS.out.append hone
        case measure => simp only [intOf]; omega
    · obtain rfl : k = p.length := by omega
      have HE : Hid (p.take p.length = p) := hid List.take_length
      clear hx
      go_wp2
      all_goals
        go_ret
        refine ⟨_, rfl, ?_, HX.out⟩
        have hc := HXS.out
        rw [HE.out] at hc
        exact own_rts (by rw [negP_length]; exact HW.out) (hc.to (Kept.ext HX.out hS) (fun _ h => .inl h)) (fun k h1 h2 => .inr ⟨h1, h2⟩)

set_option maxRecDepth 100000 in
set_option maxHeartbeats 4000000 in
theorem rpoly_sub {S : Nat → Prop} (vp vq : Value) (p q : PZ) (w : World) (hS : ∀ k, S k → k < w.heap.size) (hp : RTs S w vp p) (hq : RTs S w vq q) (hmp : mayAll p) (hmq : mayAll q) (hszq : szP q) (hsz : ∀ k, k ≤ q.length → szP (addP p ((negP q).take k))) :
    Calls Tryz.prog 32 #[vp, vq] w fun e w' => ∃ v', e = .returned v' ∧ RTs (Plus S w w') w' v' (addP p (negP q)) ∧ Ext w w' := by
  have C1 := hid (rpoly_neg vq q w hq hS hszq)
  have C2 := hid (fun (v1 : Value) (w1 : World) (hx1 : Ext w w1) (h1 : RTs (Plus S w w1) w1 v1 (negP q)) => rpoly_add (S := Plus S w w1) vp v1 p (negP q) w1 (plus_lt hS hx1) ((hp.ext hx1 hS).to (Kept.refl _ _) (fun _ h => .inl h)) h1 hmp (negP_may hmq) (negP_sz hszq) (fun k hk => hsz k (by rw [negP_length] at hk; exact hk)))
  clear hp hq hmp hmq hszq hsz
  go_enter Tryz.func32, Tryz.ntmps32
  go_wp2_with fail
  refine C1.out.mono ?_
  rintro e w1 ⟨v1, rfl, hp1, hx1⟩
  have HX1 := hid hx1
  have HP1 := hid hp1
  have C3 := hid (C2.out v1 w1 hx1 hp1)
  clear hx1 hp1 C2
  go_wp2_with fail
  refine C3.out.mono ?_
  rintro e w2 ⟨v2, rfl, hp2, hx2⟩
  have HX2 := hid (HX1.out.trans hx2)
  have HP2 := hid (hp2.to (Kept.refl _ _) (plus_plus HX1.out hx2))
  clear hx2 hp2
  go_wp2
  all_goals
    go_ret
    exact ⟨_, rfl, HP2.out, HX2.out⟩
end Go.Proofs.YtbhdgdmelepnhaaGreat

namespace Go.Proofs.YtbhdgdmelepnhaaGreat

theorem mayTail_weaken {l k : Int} {m : Mono} (h : mayTail l m = true) (hk : k ≤ l) : mayTail k m = true := by
  cases m with
  | nil => rfl
  | cons x r =>
    simp only [mayTail, Bool.and_eq_true, decide_eq_true_eq] at h ⊢
    exact ⟨by omega, h.2⟩
theorem ex_nonneg {m : Mono} (h : mayM m = true) (v : Int) : 0 ≤ ex m v := (ex_range h v).1
theorem canP_sub {p q : PZ} (h : canP p) (hs : q.Sublist p) : canP q := ⟨fun t ht => h.1 t (hs.mem ht), h.2.sublist hs⟩
end Go.Proofs.YtbhdgdmelepnhaaGreat

namespace Go.Proofs.YtbhdgdmelepnhaaGreat

/-- both exponents at a variable -/
def lk : List (Int × Int × Int) → Int → Int × Int
  | [], _ => (0, 0)
  | t :: r, v => if t.1 = v then t.2 else lk r v
/-- variables rise, up to 200 -/
def ris (last : Int) : List (Int × Int × Int) → Prop
  | [] => True
  | t :: r => last < t.1 ∧ t.1 ≤ 200 ∧ ris t.1 r
theorem lk_low {last : Int} {l : List (Int × Int × Int)} (h : ris last l) {u : Int} (hu : u ≤ last) : lk l u = (0, 0) := by
  induction l generalizing last with
  | nil => rfl
  | cons t r ih =>
    obtain ⟨h1, h2, h3⟩ := h
    rw [lk, if_neg (by omega)]
    exact ih h3 (by omega)
theorem both_lk {last : Int} {a b : Mono} (ha : mayTail last a = true) (hb : mayTail last b = true) : ris last (both a b) ∧ ∀ u, lk (both a b) u = (ex a u, ex b u) := by
  generalize hn : a.length + b.length = n
  induction n using Nat.strongRecOn generalizing a b last with
  | ind n ih =>
  cases a with
  | nil =>
    cases b with
    | nil => rw [both_nil]; exact ⟨trivial, fun u => rfl⟩
    | cons y b =>
      have hB := hb
      simp only [mayTail, Bool.and_eq_true, decide_eq_true_eq] at hb
      simp only [List.length_cons, List.length_nil] at hn
      obtain ⟨h1, h2⟩ := ih (0 + b.length) (by omega) (a := []) (b := b) (last := y.1) rfl hb.2 (by simp)
      rw [both_right]
      refine ⟨⟨hb.1.1, hb.1.2.1, h1⟩, fun u => ?_⟩
      rw [lk, h2, ex]
      simp only [ex]
      split <;> rfl
  | cons x a =>
    cases b with
    | nil =>
      have hA := ha
      simp only [mayTail, Bool.and_eq_true, decide_eq_true_eq] at ha
      simp only [List.length_cons, List.length_nil] at hn
      obtain ⟨h1, h2⟩ := ih (a.length + 0) (by omega) (a := a) (b := []) (last := x.1) ha.2 rfl (by simp)
      rw [both_left]
      refine ⟨⟨ha.1.1, ha.1.2.1, h1⟩, fun u => ?_⟩
      rw [lk, h2]
      simp only [ex]
      split <;> rfl
    | cons y b =>
      have hA := ha
      have hB := hb
      simp only [mayTail, Bool.and_eq_true, decide_eq_true_eq] at ha hb
      simp only [List.length_cons] at hn
      rw [both_cons]
      split
      · rename_i hlt
        have hb' : mayTail x.1 (y :: b) = true := by simp only [mayTail, Bool.and_eq_true, decide_eq_true_eq]; exact ⟨⟨hlt, hb.1.2⟩, hb.2⟩
        obtain ⟨h1, h2⟩ := ih (a.length + (b.length + 1)) (by omega) (a := a) (b := y :: b) (last := x.1) ha.2 hb' (by simp)
        refine ⟨⟨ha.1.1, ha.1.2.1, h1⟩, fun u => ?_⟩
        rw [lk, h2]
        by_cases hu : x.1 = u
        · rw [if_pos hu, ← hu, ex_le_last hb' (Int.le_refl _), ex, if_pos rfl]
        · rw [if_neg hu]; conv => rhs; rw [ex, if_neg hu]
      · split
        · rename_i hnlt hlt
          have ha' : mayTail y.1 (x :: a) = true := by simp only [mayTail, Bool.and_eq_true, decide_eq_true_eq]; exact ⟨⟨hlt, ha.1.2⟩, ha.2⟩
          obtain ⟨h1, h2⟩ := ih (a.length + 1 + b.length) (by omega) (a := x :: a) (b := b) (last := y.1) ha' hb.2 (by simp)
          refine ⟨⟨hb.1.1, hb.1.2.1, h1⟩, fun u => ?_⟩
          rw [lk, h2]
          by_cases hu : y.1 = u
          · rw [if_pos hu, ← hu, ex_le_last ha' (Int.le_refl _), ex, if_pos rfl]
          · rw [if_neg hu, show ex (y :: b) u = ex b u by rw [ex, if_neg hu]]
        · rename_i h3 h4
          have hxy : x.1 = y.1 := by omega
          rw [← hxy] at hb
          obtain ⟨h1, h2⟩ := ih (a.length + b.length) (by omega) (a := a) (b := b) (last := x.1) ha.2 hb.2 (by simp)
          refine ⟨⟨ha.1.1, ha.1.2.1, h1⟩, fun u => ?_⟩
          rw [lk, h2]
          by_cases hu : x.1 = u
          · rw [if_pos hu, ex, if_pos hu, ex, if_pos (by omega)]
          · rw [if_neg hu, show ex (y :: b) u = ex b u by rw [ex, if_neg (by omega)], show ex (x :: a) u = ex a u by rw [ex, if_neg hu]]
theorem madeM_ex {f : Int → Int → Int} (h0 : f 0 0 ≤ 0) {last : Int} {l : List (Int × Int × Int)} (h : ris last l) (u : Int) : ex (madeM f l) u = if 0 < f (lk l u).1 (lk l u).2 then f (lk l u).1 (lk l u).2 else 0 := by
  induction l generalizing last with
  | nil =>
    rw [madeM, ex, lk, if_neg (show ¬ 0 < f 0 0 by omega)]
  | cons t r ih =>
    obtain ⟨h1, h2, h3⟩ := h
    rw [madeM, lk]
    by_cases hu : t.1 = u
    · rw [if_pos hu]
      by_cases hf : 0 < f t.2.1 t.2.2
      · rw [if_pos hf, if_pos hf, ex, if_pos hu]
      · rw [if_neg hf, if_neg hf, ih h3, lk_low h3 (by omega), if_neg (show ¬ 0 < f 0 0 by omega)]
    · rw [if_neg hu]
      by_cases hf : 0 < f t.2.1 t.2.2
      · rw [if_pos hf, ex, if_neg hu, ih h3]
      · rw [if_neg hf, ih h3]
theorem madeM_may {f : Int → Int → Int} {last : Int} {l : List (Int × Int × Int)} (h : ris last l) (hf : ∀ t ∈ l, f t.2.1 t.2.2 ≤ 10000) : mayTail last (madeM f l) = true := by
  induction l generalizing last with
  | nil => rfl
  | cons t r ih =>
    obtain ⟨h1, h2, h3⟩ := h
    have hr := ih h3 (fun u hu => hf u (by simp [hu]))
    rw [madeM]
    split
    · rename_i h4
      have := hf t (by simp)
      simp only [mayTail, Bool.and_eq_true, decide_eq_true_eq]
      exact ⟨by omega, hr⟩
    · exact mayTail_weaken hr (by omega)
theorem lk_mem {last : Int} {l : List (Int × Int × Int)} (h : ris last l) {t : Int × Int × Int} (ht : t ∈ l) : lk l t.1 = t.2 := by
  induction l generalizing last with
  | nil => simp at ht
  | cons x r ih =>
    obtain ⟨h1, h2, h3⟩ := h
    rw [lk]
    rcases List.mem_cons.1 ht with rfl | ht
    · rw [if_pos rfl]
    · by_cases e : x.1 = t.1
      · exfalso
        have : ∀ (l : List (Int × Int × Int)) (k : Int), ris k l → ∀ t ∈ l, k < t.1 := by
          intro l
          induction l with
          | nil => intro k _ t ht; simp at ht
          | cons y s ih =>
            intro k hk t ht
            obtain ⟨g1, g2, g3⟩ := hk
            rcases List.mem_cons.1 ht with rfl | ht
            · exact g1
            · have := ih _ g3 t ht; omega
        have := this r x.1 h3 t ht
        omega
      · rw [if_neg e]; exact ih h3 ht
theorem made_ex {f : Int → Int → Int} (h0 : f 0 0 ≤ 0) {a b : Mono} (ha : mayM a = true) (hb : mayM b = true) (u : Int) : ex (madeM f (both a b)) u = if 0 < f (ex a u) (ex b u) then f (ex a u) (ex b u) else 0 := by
  obtain ⟨h1, h2⟩ := both_lk ha hb
  rw [madeM_ex h0 h1, h2]
theorem made_may {f : Int → Int → Int} {a b : Mono} (ha : mayM a = true) (hb : mayM b = true) (hf : ∀ u, f (ex a u) (ex b u) ≤ 10000) : mayM (madeM f (both a b)) = true := by
  obtain ⟨h1, h2⟩ := both_lk ha hb
  refine madeM_may h1 (fun t ht => ?_)
  have := lk_mem h1 ht
  rw [h2] at this
  have h3 := hf t.1
  rw [← this]
  exact h3
theorem times_ex {a b : Mono} (ha : mayM a = true) (hb : mayM b = true) (u : Int) : ex (timesM a b) u = ex a u + ex b u := by
  unfold timesM
  rw [made_ex (by simp) ha hb]
  have h1 := ex_nonneg ha u
  have h2 := ex_nonneg hb u
  split <;> omega
theorem times_may {a b : Mono} (ha : mayM a = true) (hb : mayM b = true) : mayM (timesM a b) = true ↔ ∀ u, ex a u + ex b u ≤ 10000 := by
  constructor
  · intro h u
    rw [← times_ex ha hb]
    exact (ex_range h u).2
  · intro h
    exact made_may ha hb h
theorem one_may {v e : Int} (hv : 1 ≤ v ∧ v ≤ 200) (he : 1 ≤ e ∧ e ≤ 10000) : mayM [(v, e)] = true := by
  unfold mayM mayTail
  simp only [mayTail, Bool.and_true, decide_eq_true_eq]
  omega
theorem ex_one (v e u : Int) : ex [(v, e)] u = if v = u then e else 0 := by simp [ex]
end Go.Proofs.YtbhdgdmelepnhaaGreat

namespace Go.Proofs.YtbhdgdmelepnhaaGreat

theorem ex_snoc' {m : Mono} {v : Int} (h : ∀ x ∈ m, x.1 < v) (e u : Int) : ex (m ++ [(v, e)]) u = if u = v then e else ex m u := by
  induction m with
  | nil =>
    simp only [List.nil_append, ex]
    by_cases hu : v = u
    · rw [if_pos hu, if_pos hu.symm]
    · rw [if_neg hu, if_neg (fun k => hu k.symm)]
  | cons x r ih =>
    have h1 := h x (by simp)
    simp only [List.cons_append, ex, ih (fun y hy => h y (by simp [hy]))]
    by_cases hx : x.1 = u
    · rw [if_pos hx, if_pos hx, if_neg (by omega)]
    · rw [if_neg hx, if_neg hx]
theorem ofE_ex (f : Nat → Int) (n : Nat) (u : Nat) (h0 : ∀ j, 0 ≤ f j) : ex (ofE f n) (u : Int) = if 1 ≤ u ∧ u ≤ n then f u else 0 := by
  induction n with
  | zero =>
    simp only [ofE, ex]
    rw [if_neg (by omega)]
  | succ n ih =>
    simp only [ofE]
    by_cases hf : 0 < f (n + 1)
    · rw [if_pos hf, ex_snoc' (fun x hx => by have := ofE_vars f n x hx; omega), ih]
      by_cases hu : u = n + 1
      · subst hu
        rw [if_pos rfl, if_pos (by omega)]
      · rw [if_neg (by omega)]
        by_cases h1 : 1 ≤ u ∧ u ≤ n
        · rw [if_pos h1, if_pos (by omega)]
        · rw [if_neg h1, if_neg (by omega)]
    · rw [if_neg hf, ih]
      have := h0 (n + 1)
      by_cases hu : u = n + 1
      · subst hu
        rw [if_neg (by omega), if_pos (by omega)]
        omega
      · by_cases h1 : 1 ≤ u ∧ u ≤ n
        · rw [if_pos h1, if_pos (by omega)]
        · rw [if_neg h1, if_neg (by omega)]
theorem rtimes_eq {a b : Mono} (ha : mayM a = true) (hb : mayM b = true) : rtimes a b = if mayM (timesM a b) = true then some (timesM a b) else none := by
  unfold rtimes
  have h0 : ∀ j, 0 ≤ sumF a b j := fun j => by
    have h1 := ex_nonneg ha (j : Int)
    have h2 := ex_nonneg hb (j : Int)
    unfold sumF
    omega
  cases hov : overF (sumF a b) 200 with
  | true =>
    rw [if_pos rfl, if_neg]
    intro hm
    have h1 := (times_may ha hb).1 hm
    have h2 : ∀ n, overF (sumF a b) n = false := fun n => by
      induction n with
      | zero => rfl
      | succ n ih =>
        simp only [overF, ih, Bool.false_or, decide_eq_false_iff_not]
        have := h1 ((n + 1 : Nat) : Int)
        unfold sumF
        omega
    rw [h2] at hov
    cases hov
  | false =>
    have h1 := overF_not hov
    have hm : mayM (timesM a b) = true := (times_may ha hb).2 (fun u => by
      by_cases h2 : u < 1
      · rw [ex_le_last ha (by omega), ex_le_last hb (by omega)]; omega
      · by_cases h3 : 200 < u
        · rw [ex_above ha h3, ex_above hb h3]; omega
        · have := h1 u.toNat (by omega) (by omega)
          unfold sumF at this
          rwa [Int.toNat_of_nonneg (by omega)] at this)
    rw [if_neg (by simp), if_pos hm]
    refine congrArg some ?_
    refine mayM_ext (ofE_may (Nat.le_refl _) (fun j h2 h3 => h1 j h2 h3)) hm (fun k h2 h3 => ?_)
    rw [ofE_ex _ _ _ h0, if_pos ⟨h2, h3⟩, times_ex ha hb]
    rfl
theorem pair_yes {t u : Int × Mono} (ht : mayM t.2 = true) (hu : mayM u.2 = true) (h : mayM (timesM t.2 u.2) = true) : pairP t u = some (t.1 * u.1, timesM t.2 u.2) := by
  unfold pairP
  rw [rtimes_eq ht hu, if_pos h]
  rfl
theorem pair_no {t u : Int × Mono} (ht : mayM t.2 = true) (hu : mayM u.2 = true) (h : mayM (timesM t.2 u.2) = false) : pairP t u = none := by
  unfold pairP
  rw [rtimes_eq ht hu, if_neg (by rw [h]; exact Bool.false_ne_true)]
  rfl
end Go.Proofs.YtbhdgdmelepnhaaGreat

namespace Go.Proofs.YtbhdgdmelepnhaaGreat
open Go.RowKit

end Go.Proofs.YtbhdgdmelepnhaaGreat

namespace Go.Proofs.YtbhdgdmelepnhaaGreat
open Go.RowKit

section
variable {P : Program}
end

end Go.Proofs.YtbhdgdmelepnhaaGreat

namespace Go.Proofs.YtbhdgdmelepnhaaGreat

section
variable {α : Type} {le : α → α → Bool}

/-- a total preorder -/
structure TotalLe (le : α → α → Bool) : Prop where
  trans : ∀ a b c, le a b = true → le b c = true → le a c = true
  total : ∀ a b, le a b = true ∨ le b a = true

theorem TotalLe.not {x y : α} (h : TotalLe le) (hn : le x y = false) : le y x = true := by
  rcases h.total x y with h | h
  · rw [hn] at h; cases h
  · exact h
theorem TotalLe.not_of (h : TotalLe le) {x y z : α} (h1 : le x y = false) (h2 : le x z = true) : le z y = false := by
  cases h3 : le z y with
  | false => rfl
  | true =>
    have := h.trans _ _ _ h2 h3
    rw [h1] at this; cases this
theorem TotalLe.not_of' (h : TotalLe le) {x y z : α} (h1 : le x y = false) (h2 : le z y = true) : le x z = false := by
  cases h3 : le x z with
  | false => rfl
  | true =>
    have := h.trans _ _ _ h3 h2
    rw [h1] at this; cases this

abbrev mergeL (le : α → α → Bool) (xs ys : List α) : List α := List.merge xs ys le

theorem mergeL_nil (ys : List α) : mergeL le [] ys = ys := List.nil_merge ys
theorem mergeL_right (xs : List α) : mergeL le xs [] = xs := List.merge_right xs
theorem mergeL_pos {x y : α} (xs ys : List α) (h : le x y = true) : mergeL le (x :: xs) (y :: ys) = x :: mergeL le xs (y :: ys) := List.cons_merge_cons_pos le xs ys h
theorem mergeL_neg {x y : α} (xs ys : List α) (h : le x y = false) : mergeL le (x :: xs) (y :: ys) = y :: mergeL le (x :: xs) ys := by
  unfold mergeL
  rw [List.cons_merge_cons, if_neg (by rw [h]; exact Bool.false_ne_true)]

theorem mergeL_perm (xs ys : List α) : (mergeL le xs ys).Perm (xs ++ ys) := List.merge_perm_append le
def SortedL (le : α → α → Bool) (l : List α) : Prop := l.Pairwise (fun a b => le a b = true)

theorem mergeL_sorted (h : TotalLe le) {xs ys : List α} (hx : SortedL le xs) (hy : SortedL le ys) : SortedL le (mergeL le xs ys) :=
  List.pairwise_merge (fun a b c => h.trans a b c) (fun a b => by rcases h.total a b with h | h <;> simp [h]) _ _ hx hy

/-- parts that lie apart are merged each by itself -/
theorem mergeL_split (A1 A2 B1 B2 : List α) (h1 : ∀ x ∈ A1, ∀ y ∈ B2, le x y = true) (h2 : ∀ y ∈ B1, ∀ x ∈ A2, le x y = false) :
    mergeL le (A1 ++ A2) (B1 ++ B2) = mergeL le A1 B1 ++ mergeL le A2 B2 := by
  induction A1 generalizing B1 with
  | nil =>
    rw [mergeL_nil]
    induction B1 with
    | nil => rfl
    | cons b B1 ih =>
      cases A2 with
      | nil => simp
      | cons x A2 =>
        have := ih (fun y hy => h2 y (by simp [hy]))
        simp only [List.nil_append, List.cons_append] at this ⊢
        rw [mergeL_neg _ _ (h2 b (by simp) x (by simp)), this]
  | cons a A1 ihA =>
    induction B1 with
    | nil =>
      rw [mergeL_right]
      cases B2 with
      | nil => simp
      | cons y B2 =>
        have := ihA [] (fun x hx => h1 x (by simp [hx])) (fun y hy => by simp at hy)
        rw [mergeL_right] at this
        simp only [List.nil_append, List.cons_append] at this ⊢
        rw [mergeL_pos _ _ (h1 a (by simp) y (by simp)), this]
    | cons b B1 ihB =>
      cases hab : le a b with
      | true =>
        have := ihA (b :: B1) (fun x hx => h1 x (by simp [hx])) h2
        simp only [List.cons_append] at this ⊢
        rw [mergeL_pos _ _ hab, mergeL_pos _ _ hab, this]
        rfl
      | false =>
        have := ihB (fun y hy => h2 y (by simp [hy]))
        simp only [List.cons_append] at this ⊢
        rw [mergeL_neg _ _ hab, mergeL_neg _ _ hab, this]
        rfl

theorem mergeL_assoc (h : TotalLe le) (A B C : List α) : mergeL le (mergeL le A B) C = mergeL le A (mergeL le B C) := by
  generalize hn : A.length + B.length + C.length = n
  induction n using Nat.strongRecOn generalizing A B C with
  | ind n ih =>
    cases A with
    | nil => rw [mergeL_nil, mergeL_nil]
    | cons a A =>
      cases B with
      | nil => rw [mergeL_nil, mergeL_right]
      | cons b B =>
        cases C with
        | nil => rw [mergeL_right, mergeL_right]
        | cons c C =>
          simp only [List.length_cons] at hn
          cases hab : le a b with
          | true =>
            rw [mergeL_pos _ _ hab]
            cases hac : le a c with
            | true =>
              rw [mergeL_pos _ _ hac, ih _ (by simp only [List.length_cons]; omega) A (b :: B) (c :: C) rfl]
              cases hbc : le b c with
              | true => rw [mergeL_pos _ _ hbc, mergeL_pos _ _ hab]
              | false => rw [mergeL_neg _ _ hbc, mergeL_pos _ _ hac]
            | false =>
              have hbc : le b c = false := h.not_of hac hab
              rw [mergeL_neg _ _ hac, mergeL_neg _ _ hbc, mergeL_neg _ _ hac, ← mergeL_pos _ _ hab, ih _ (by simp only [List.length_cons]; omega) (a :: A) (b :: B) C rfl]
          | false =>
            rw [mergeL_neg _ _ hab]
            cases hbc : le b c with
            | true => rw [mergeL_pos _ _ hbc, mergeL_pos _ _ hbc, mergeL_neg _ _ hab, ih _ (by simp only [List.length_cons]; omega) (a :: A) B (c :: C) rfl]
            | false =>
              have hac : le a c = false := by
                cases h3 : le a c with
                | false => rfl
                | true =>
                  have := h.trans _ _ _ (h.not hab) h3
                  rw [hbc] at this; cases this
              rw [mergeL_neg _ _ hbc, mergeL_neg _ _ hbc, mergeL_neg _ _ hac, ← mergeL_neg _ _ hab, ih _ (by simp only [List.length_cons]; omega) (a :: A) (b :: B) C rfl]

/-- the stable sort -/
def sortL (le : α → α → Bool) : List α → List α
  | [] => []
  | x :: xs => mergeL le [x] (sortL le xs)
theorem sortL_append (h : TotalLe le) (A B : List α) : sortL le (A ++ B) = mergeL le (sortL le A) (sortL le B) := by
  induction A with
  | nil => exact (mergeL_nil _).symm
  | cons a A ih =>
    show mergeL le [a] (sortL le (A ++ B)) = mergeL le (mergeL le [a] (sortL le A)) (sortL le B)
    rw [ih, mergeL_assoc h]
theorem sortL_one (x : α) : sortL le [x] = [x] := mergeL_right [x]
theorem sortL_perm (l : List α) : (sortL le l).Perm l := by
  induction l with
  | nil => exact List.Perm.refl _
  | cons x l ih => exact (mergeL_perm [x] _).trans (ih.cons x)
theorem sortL_len (l : List α) : (sortL le l).length = l.length := (sortL_perm l).length_eq
theorem sortL_sorted (h : TotalLe le) (l : List α) : SortedL le (sortL le l) := by
  induction l with
  | nil => exact List.Pairwise.nil
  | cons x l ih => exact mergeL_sorted h (List.pairwise_singleton _ _) ih
/-- an element put behind those that are not above it -/
theorem mergeL_put {S1 S2 : List α} {x : α} (h1 : ∀ y ∈ S1, le y x = true) (h2 : ∀ y ∈ S2, le y x = false) : mergeL le (S1 ++ S2) [x] = S1 ++ x :: S2 := by
  have e := mergeL_split (le := le) S1 S2 [x] [] (fun _ _ y hy => by simp at hy) (fun y hy z hz => by rw [List.mem_singleton.1 hy]; exact h2 z hz)
  rw [List.append_nil, mergeL_right] at e
  rw [e]
  have e2 := mergeL_split (le := le) S1 [] [] [x] (fun y hy z hz => by rw [List.mem_singleton.1 hz]; exact h1 y hy) (fun y hy => by simp at hy)
  rw [List.append_nil, List.nil_append, mergeL_nil, mergeL_right] at e2
  rw [e2]
  simp
/-- an element put ahead of those that are not below it -/
theorem mergeL_put' {S1 S2 : List α} {x : α} (h1 : ∀ y ∈ S1, le x y = false) (h2 : ∀ y ∈ S2, le x y = true) : mergeL le [x] (S1 ++ S2) = S1 ++ x :: S2 := by
  have e := mergeL_split (le := le) [] [x] S1 S2 (fun y hy => by simp at hy) (fun y hy z hz => by rw [List.mem_singleton.1 hz]; exact h1 y hy)
  rw [List.nil_append, mergeL_nil] at e
  rw [e]
  have e2 := mergeL_split (le := le) [x] [] [] S2 (fun y hy z hz => by rw [List.mem_singleton.1 hy]; exact h2 z hz) (fun y hy => by simp at hy)
  rw [List.append_nil, List.nil_append, mergeL_nil, mergeL_right] at e2
  rw [e2]
  rfl
/-- all ahead of a place are not above what is there -/
theorem SortedL.last {A : List α} {x y : α} (h : TotalLe le) (hs : SortedL le (A ++ [x])) (hxy : le x y = true) : ∀ z ∈ A ++ [x], le z y = true := by
  intro z hz
  obtain ⟨_, _, h3⟩ := List.pairwise_append.1 hs
  rcases List.mem_append.1 hz with hz | hz
  · exact h.trans _ _ _ (h3 z hz x (by simp)) hxy
  · rw [List.mem_singleton.1 hz]; exact hxy
end
end Go.Proofs.YtbhdgdmelepnhaaGreat

namespace Go.Proofs.YtbhdgdmelepnhaaGreat

def sumP (g : PZ) : Int := (g.map (·.1)).foldr (· + ·) 0
def oneP (c : Int) (m : Mono) : PZ := if c = 0 then [] else [(c, m)]
/-- groups of one monomial each, summed -/
inductive Coll : PZ → PZ → Prop where
  | nil : Coll [] []
  | group (t : Int × Mono) (g r q : PZ) (h : ∀ u ∈ g, u.2 = t.2) (hr : ∀ u ∈ r.head?, u.2 ≠ t.2) (k : Coll r q) : Coll (t :: g ++ r) (oneP (t.1 + sumP g) t.2 ++ q)

theorem cf_same {g : PZ} {m : Mono} (h : ∀ u ∈ g, u.2 = m) (m' : Mono) : cf g m' = if m = m' then sumP g else 0 := by
  induction g with
  | nil => simp [cf, sumP]
  | cons u g ih =>
    have h1 := h u (by simp)
    have h2 := ih (fun v hv => h v (by simp [hv]))
    rw [cf, h2, h1]
    have e : sumP (u :: g) = u.1 + sumP g := rfl
    rw [e]
    split <;> omega
theorem cf_oneP (c : Int) (m m' : Mono) : cf (oneP c m) m' = if m = m' then c else 0 := by
  unfold oneP
  split
  · rename_i h; subst h; simp [cf]
  · simp [cf]
theorem fall_head {t : Int × Mono} {g r : PZ} (hm : mayAll (t :: g ++ r)) (hf : (t :: g ++ r).Pairwise fun a b => 0 ≤ compareM a.2 b.2) (hr : ∀ u ∈ r.head?, u.2 ≠ t.2) : ∀ u ∈ r, compareM t.2 u.2 = 1 := by
  have ht := hm t (by simp)
  cases r with
  | nil => intro u hu; simp at hu
  | cons x r =>
    have hx := hm x (by simp)
    have hne := hr x (by simp)
    have h1 : ∀ u ∈ g ++ x :: r, 0 ≤ compareM t.2 u.2 := (List.pairwise_cons.1 (show (t :: (g ++ x :: r)).Pairwise _ from hf)).1
    have hxt : compareM t.2 x.2 = 1 := by
      have := h1 x (by simp)
      rcases compareM_cases ht hx with g | g | g
      · omega
      · exact absurd ((compareM_zero ht hx).1 g).symm hne
      · exact g
    intro u hu
    rcases List.mem_cons.1 hu with rfl | hu'
    · exact hxt
    · have hu2 := hm u (by simp [hu'])
      have h2 : 0 ≤ compareM x.2 u.2 := by
        have := (List.pairwise_append.1 (show ((t :: g) ++ (x :: r)).Pairwise _ from hf)).2.1
        exact (List.pairwise_cons.1 this).1 u hu'
      rcases compareM_cases hx hu2 with k | k | k
      · omega
      · rw [← (compareM_zero hx hu2).1 k]; exact hxt
      · exact compareM_trans ht hx hu2 hxt k
theorem Coll.can {p q : PZ} (h : Coll p q) (hm : mayAll p) (hf : p.Pairwise fun a b => 0 ≤ compareM a.2 b.2) : canP q ∧ (∀ m, cf q m = cf p m) ∧ ∀ u ∈ q, ∃ v ∈ p, v.2 = u.2 := by
  induction h with
  | nil => exact ⟨canP_nil, fun _ => rfl, fun u hu => by simp at hu⟩
  | group t g r q hg hr k ih =>
    have hmr : mayAll r := fun u hu => hm u (by simp [hu])
    have hfr := (List.pairwise_append.1 (show ((t :: g) ++ r).Pairwise _ from hf)).2.1
    obtain ⟨i1, i2, i3⟩ := ih hmr hfr
    have hhd := fall_head hm hf hr
    have ht := hm t (by simp)
    refine ⟨?_, fun m => ?_, fun u hu => ?_⟩
    · unfold oneP
      split
      · exact i1
      · rename_i hne
        refine ⟨fun u hu => ?_, ?_⟩
        · rcases List.mem_append.1 hu with hu | hu
          · rw [List.mem_singleton.1 hu]; exact ⟨hne, ht⟩
          · exact i1.1 u hu
        · refine List.pairwise_cons.2 ⟨fun u hu => ?_, i1.2⟩
          obtain ⟨v, hv, hvu⟩ := i3 u hu
          rw [← hvu]
          exact hhd v hv
    · rw [cf_append, cf_oneP, i2, show t :: g ++ r = (t :: g) ++ r from rfl, cf_append, cf, cf_same hg]
      split <;> omega
    · rcases List.mem_append.1 hu with hu | hu
      · unfold oneP at hu
        split at hu
        · simp at hu
        · rw [List.mem_singleton.1 hu]; exact ⟨t, by simp, rfl⟩
      · obtain ⟨v, hv, hvu⟩ := i3 u hu
        exact ⟨v, by simp [hv], hvu⟩
theorem Coll.norm {p q l : PZ} (h : Coll p q) (hm : mayAll p) (hf : p.Pairwise fun a b => 0 ≤ compareM a.2 b.2) (hp : p.Perm l) : q = normP l := by
  obtain ⟨h1, h2, _⟩ := h.can hm hf
  have hl : mayAll l := fun t ht => hm t (hp.mem_iff.2 ht)
  exact canP_ext h1 (normP_can hl) (fun m _ => by rw [h2, normP_cf hl, cf_perm hp])

/-- how many limbs a number has -/
def lenI (z : Int) : Nat := (rep B32 z.natAbs).length
theorem lenI_lt {z : Int} {k : Nat} (h : z.natAbs < B32 ^ k) : lenI z ≤ k := rep_len_le two_le_B32 _ _ h
theorem lt_lenI (z : Int) : z.natAbs < B32 ^ lenI z := le_of_rep_len two_le_B32 _
theorem lenI_mono {z : Int} {j k : Nat} (h : lenI z ≤ j) (hk : j ≤ k) : z.natAbs < B32 ^ k := Nat.lt_of_lt_of_le (lt_lenI z) (Nat.pow_le_pow_right (by decide) (Nat.le_trans h hk))
theorem ofI_len (z : Int) : (ofI z).mag.length = lenI z := rfl
theorem valI_len {r : RInt} (h : okI r) : lenI (valI r) ≤ r.mag.length := by
  refine lenI_lt ?_
  have := val_lt (B := B32) r.mag h
  unfold valI
  split <;> simpa using this
/-- all coefficients are below a power -/
def bndZ (k : Nat) (p : PZ) : Prop := ∀ t ∈ p, t.1.natAbs < B32 ^ k
theorem bndZ.mono {j k : Nat} {p : PZ} (h : bndZ j p) (hjk : j ≤ k) : bndZ k p := fun t ht => Nat.lt_of_lt_of_le (h t ht) (Nat.pow_le_pow_right (by decide) hjk)
theorem bndZ.append {k : Nat} {p q : PZ} (h : bndZ k p) (h' : bndZ k q) : bndZ k (p ++ q) := fun t ht => by
  rcases List.mem_append.1 ht with ht | ht
  · exact h t ht
  · exact h' t ht
theorem cf_bnd {k : Nat} {p : PZ} (h : bndZ k p) (m : Mono) : (cf p m).natAbs ≤ p.length * B32 ^ k := by
  induction p with
  | nil => simp [cf]
  | cons t r ih =>
    have h1 := h t (by simp)
    have h2 := ih (fun u hu => h u (by simp [hu]))
    simp only [cf, List.length_cons, Nat.add_mul, Nat.one_mul]
    generalize B32 ^ k = b at *
    generalize r.length * b = c at *
    split <;> omega
theorem normP_bnd {k : Nat} {p : PZ} (hm : mayAll p) (h : bndZ k p) (hl : p.length < B32 ^ 2) : bndZ (k + 2) (normP p) := by
  intro t ht
  have hc := (normP_can hm).cf_mem ht
  rw [normP_cf hm] at hc
  have := cf_bnd h t.2
  rw [hc] at this
  refine Nat.lt_of_le_of_lt this ?_
  rw [Nat.pow_add, Nat.mul_comm]
  exact Nat.mul_lt_mul_of_pos_left hl (Nat.pow_pos (by decide))
theorem sum_len {z : Int} {g : PZ} {k : Nat} (h0 : z.natAbs < B32 ^ k) (h : bndZ k g) (hl : g.length + 1 < B32 ^ 2) : lenI (z + sumP g) ≤ k + 2 := by
  refine lenI_lt ?_
  have h1 : (sumP g).natAbs ≤ g.length * B32 ^ k := by
    clear hl
    induction g with
    | nil => simp [sumP]
    | cons u g ih =>
      have h1 := h u (by simp)
      have h2 := ih (fun v hv => h v (by simp [hv]))
      have e : sumP (u :: g) = u.1 + sumP g := rfl
      rw [e]
      simp only [List.length_cons, Nat.add_mul, Nat.one_mul]
      generalize B32 ^ k = b at *
      generalize g.length * b = c at *
      omega
  rw [Nat.pow_add, Nat.mul_comm]
  have h2 : (g.length + 1) * B32 ^ k < B32 ^ 2 * B32 ^ k := Nat.mul_lt_mul_of_lt_of_le hl (Nat.le_refl _) (Nat.pow_pos (by decide))
  refine Nat.lt_of_le_of_lt ?_ h2
  rw [Nat.add_mul, Nat.one_mul]
  omega
theorem sumP_snoc (g : PZ) (t : Int × Mono) : sumP (g ++ [t]) = sumP g + t.1 := by
  induction g with
  | nil => simp [sumP]
  | cons u g ih =>
    have e : ∀ l, sumP (u :: l) = u.1 + sumP l := fun _ => rfl
    rw [List.cons_append, e, e, ih]
    omega
end Go.Proofs.YtbhdgdmelepnhaaGreat

namespace Go.Proofs.YtbhdgdmelepnhaaGreat
open Go.RowKit

theorem pow_cells (x y : Int) : ∀ u ∈ (#[.int .i64 x, .int .i64 y] : Array Value).toList, u.oneCell' = true := by
  intro u hu
  simp at hu
  rcases hu with rfl | rfl <;> rfl

end Go.Proofs.YtbhdgdmelepnhaaGreat

namespace Go.Proofs.YtbhdgdmelepnhaaGreat

end Go.Proofs.YtbhdgdmelepnhaaGreat

namespace Go.Proofs.YtbhdgdmelepnhaaGreat
open Go.RowKit

theorem times_one (x y : Int) (w : World) (hs : -9223372036854775808 ≤ x + y ∧ x + y ≤ 9223372036854775807) :
    Calls Tryz.prog 168 #[.int .i64 x, .int .i64 y] w fun e w' => e = .returned (.int .i64 (x + y)) ∧ w' = w := by
  obtain ⟨h1, h2⟩ := hs
  go_enter Tryz.func168, Tryz.ntmps168
  go_wp2
  all_goals
    go_ret
    exact ⟨rfl, rfl⟩

theorem free_at (w : World) (cs : Array Value) (T : TypeId) {b i : Nat} (hb : b = w.heap.size) : (w.alloc (.cells cs T)).frozen? ⟨b, i, none⟩ = false := by
  subst hb
  exact free_new w cs T

set_option maxRecDepth 100000 in
set_option maxHeartbeats 2000000 in
theorem made_no (z x y : Int) (bf bm : Nat) (W : World) (hs : -9223372036854775808 ≤ x + y ∧ x + y ≤ 9223372036854775807) (hle : x + y ≤ 0)
    (cf : W.cell? ⟨bf, 0, none⟩ = some (.func (.func 168) #[] #[])) :
    Calls Tryz.prog 176 #[.int .i64 z, .int .i64 x, .int .i64 y, .pointer (some ⟨bf, 0, none⟩), .pointer (some ⟨bm, 0, none⟩)] W fun e w' => e = .returned (.tuple #[]) ∧ w' = W := by
  have HT := hid (times_one x y W hs)
  generalize x + y = s at *
  obtain ⟨h1, h2⟩ := hs
  go_enter Tryz.func176, Tryz.ntmps176
  go_wp2_with fail
  with_reducible refine HT.out.mono ?_
  rintro e w' ⟨rfl, rfl⟩
  go_wp2
  all_goals
    go_end0
    exact ⟨rfl, rfl⟩
set_option maxRecDepth 100000 in
set_option maxHeartbeats 2000000 in
theorem made_yes (z x y : Int) (bf bm : Nat) (v : Value) (n base : Nat) (xs : List Value) (W : World) (hs : -9223372036854775808 ≤ x + y ∧ x + y ≤ 9223372036854775807) (hlt : 0 < x + y)
    (cf : W.cell? ⟨bf, 0, none⟩ = some (.func (.func 168) #[] #[])) (cm : W.cell? ⟨bm, 0, none⟩ = some v) (hf : W.frozen? ⟨bm, 0, none⟩ = false) (hbm : bm < base)
    (hown : W.ownsRow base 51 2 v n xs) (hbase : base ≤ W.heap.size) (hn : n ≤ 1000000000) :
    Calls Tryz.prog 176 #[.int .i64 z, .int .i64 x, .int .i64 y, .pointer (some ⟨bf, 0, none⟩), .pointer (some ⟨bm, 0, none⟩)] W fun e w' => e = .returned (.tuple #[]) ∧
      ∃ v' w2, w' = w2.setCell ⟨bm, 0, none⟩ v' ∧ w2.ownsRow base 51 2 v' (n + 1) (xs ++ [.int .i64 z, .int .i64 (x + y)]) ∧ W.grownBy w2 v.ownBlock := by
  have HT := hid (times_one x y W hs)
  generalize x + y = s at *
  obtain ⟨h1, h2⟩ := hs
  have HO := hid hown
  have HN := hid hn
  have HB := hid hbase
  have HL : Hid (bm < W.heap.size ∧ v.ownBlock ≠ some bm) := hid ⟨lt_of_cell cm, fun e => by have := (hown.lt bm e).1; omega⟩
  have HC := hid (And.intro cm hf)
  clear hown hn hbase hbm
  go_enter Tryz.func176, Tryz.ntmps176
  go_wp2_with fail
  with_reducible refine HT.out.mono ?_
  rintro e w' ⟨rfl, rfl⟩
  go_wp2_with (at_builtin; refine wpList_append_new _ rfl (.tmp 15) (.tmp 19) 47 rfl base 51 (.agg #[.int .i64 0, .int .i64 0]) 2 16 Tryz.underlying47 Tryz.infoPower rfl (by decide) v n xs rfl HO.out #[.int .i64 z, .int .i64 s] rfl (pow_cells _ _) rfl HN.out (by decide) HB.out ?_; intro v1 w2 hown hg _; have q := Go.Joins.ownsRow_form hown (Nat.succ_pos _); obtain ⟨bg, cg, rfl⟩ := q; have HOW := hid hown; have HG := hid hg; have g1 := (hg.block bm HL.out.1 (fun e => HL.out.2 e.symm)); have c1 : w2.cell? ⟨bm, 0, none⟩ = some v := (World.cell?_of_block (a := ⟨bm, 0, none⟩) g1).trans HC.out.1; have c2 : w2.frozen? ⟨bm, 0, none⟩ = false := (World.frozen?_of_block (a := ⟨bm, 0, none⟩) g1).trans HC.out.2; clear hown hg g1)
  all_goals
    go_end0
    exact ⟨rfl, _, _, rfl, HOW.out, HG.out⟩

/-- what is told of both monomials, put into the product -/
theorem madeM_append (f : Int → Int → Int) (d : List (Int × Int × Int)) (t : Int × Int × Int) : madeM f (d ++ [t]) = if 0 < f t.2.1 t.2.2 then madeM f d ++ [(t.1, f t.2.1 t.2.2)] else madeM f d := by
  induction d with
  | nil =>
    simp only [List.nil_append, madeM]
  | cons x r ih =>
    simp only [List.cons_append, madeM, ih]
    split <;> split <;> simp_all
theorem madeM_len (f : Int → Int → Int) (d : List (Int × Int × Int)) : (madeM f d).length ≤ d.length := by
  induction d with
  | nil => simp [madeM]
  | cons x r ih =>
    simp only [madeM]
    split <;> simp <;> omega
theorem madeM_bounds {a b : Mono} (ha : mayM a = true) (hb : mayM b = true) : inBounds (timesM a b) := fun x hx => by
  have h2 : ∀ (l : List (Int × Int × Int)) (k : Int), ris k l → ∀ t ∈ l, k < t.1 ∧ t.1 ≤ 200 := by
    intro l
    induction l with
    | nil => intro k _ t ht; simp at ht
    | cons y s ih =>
      intro k hk t ht
      obtain ⟨g1, g2, g3⟩ := hk
      rcases List.mem_cons.1 ht with rfl | ht
      · exact ⟨g1, g2⟩
      · have := ih _ g3 t ht; omega
  obtain ⟨h3, h4⟩ := both_lk ha hb
  have h5 : ∀ (l : List (Int × Int × Int)), x ∈ madeM (· + ·) l → ∃ t ∈ l, x = (t.1, t.2.1 + t.2.2) := by
    intro l
    induction l with
    | nil => intro h; simp [madeM] at h
    | cons y s ih =>
      intro h
      simp only [madeM] at h
      split at h
      · rcases List.mem_cons.1 h with h | h
        · exact ⟨y, by simp, h⟩
        · obtain ⟨t, h6, h7⟩ := ih h
          exact ⟨t, by simp [h6], h7⟩
      · obtain ⟨t, h6, h7⟩ := ih h
        exact ⟨t, by simp [h6], h7⟩
  obtain ⟨t, ht, rfl⟩ := h5 _ hx
  have h6 := h2 _ _ h3 t ht
  have h7 := lk_mem h3 ht
  rw [h4] at h7
  have h8 := ex_range ha t.1
  have h9 := ex_range hb t.1
  have h10 : t.2.1 = ex a t.1 := (congrArg Prod.fst h7).symm
  have h11 : t.2.2 = ex b t.1 := (congrArg Prod.snd h7).symm
  refine ⟨⟨?_, ?_⟩, ?_, ?_⟩ <;> simp only <;> omega

set_option maxRecDepth 100000 in
set_option maxHeartbeats 4000000 in
theorem mono_made_times {S : Nat → Prop} (va vb : Value) (a b : Mono) (w : World) (ha : Pows S w va a) (hb : Pows S w vb b) (hS : ∀ k, S k → k < w.heap.size) (hma : mayM a = true) (hmb : mayM b = true) :
    Calls Tryz.prog 167 #[va, vb, .func (.func 168) #[] #[]] w fun e w' => ∃ v', e = .returned v' ∧ Pows (New w w') w' v' (timesM a b) ∧ Ext w w' := by
  have hmf : ∀ (fn : Fn) (first cap : Array Value) (w : World), (Instr.makeFunc fn first cap).run Tryz.prog w = .ok (.func fn first cap) w := fun _ _ _ _ => rfl
  have HA := hid ha
  have HB := hid hb
  have HMA := hid hma
  have HMB := hid hmb
  obtain ⟨aa, ca, rfl⟩ := ha.form
  obtain ⟨a2, cb, rfl⟩ := hb.form
  clear ha hb hma hmb
  go_enter Tryz.func167, Tryz.ntmps167
  go_wp2_with fail
  have hK : Ext w ((w.alloc (.cells #[.func (.func 168) #[] #[]] 180)).alloc (.cells #[.slice none 0 0] 47)) := (Ext.alloc (Ext.refl w) _).alloc _
  have HK := hid hK
  have hz : (w.alloc (.cells #[.func (.func 168) #[] #[]] 180)).heap.size = w.heap.size + 1 := size_alloc _ _
  refine (mono_both (S := S) 176 #[.pointer (some ⟨w.heap.size, 0, none⟩), .pointer (some ⟨w.heap.size + 1, 0, none⟩)] (enters_of Tryz.func176 (by kernel_rfl) rfl)
    (fun d W => W.cell? ⟨w.heap.size, 0, none⟩ = some (.func (.func 168) #[] #[]) ∧ (∃ v, W.cell? ⟨w.heap.size + 1, 0, none⟩ = some v ∧ W.ownsRow (w.heap.size + 2) 51 2 v (madeM (· + ·) d).length (flatP (madeM (· + ·) d))) ∧ W.frozen? ⟨w.heap.size + 1, 0, none⟩ = false ∧ Ext w W ∧ w.heap.size + 2 ≤ W.heap.size) a b _ ?_ ?_ ?_ _ _
    (HA.out.to (Kept.ext hK hS) (fun _ h => h)) (HB.out.to (Kept.ext hK hS) (fun _ h => h)) ⟨cell_old _ (cell_new _ _ _ rfl rfl), ⟨_, cell_new _ _ _ hz.symm rfl, World.ownsRow_nil _ _ _ _⟩, ?_, hK, by rw [size_alloc, size_alloc]; exact Nat.le_refl _⟩).mono ?_
  · rintro d t r W hd ⟨h1, ⟨v, h2, h3⟩, h4, h5, h6⟩
    have hb := both_bounds HA.out.inBounds HB.out.inBounds t (by rw [hd]; simp)
    obtain ⟨h7, h8⟩ := both_lk HMA.out HMB.out
    have h9 := lk_mem h7 (t := t) (by rw [hd]; simp)
    rw [h8] at h9
    have h10 := ex_range HMA.out t.1
    have h11 := ex_range HMB.out t.1
    have h12 : t.2.1 = ex a t.1 := (congrArg Prod.fst h9).symm
    have h13 : t.2.2 = ex b t.1 := (congrArg Prod.snd h9).symm
    rw [show (#[Value.int .i64 t.1, .int .i64 t.2.1, .int .i64 t.2.2] ++ #[.pointer (some ⟨w.heap.size, 0, none⟩), .pointer (some ⟨w.heap.size + 1, 0, none⟩)] : Array Value) = #[.int .i64 t.1, .int .i64 t.2.1, .int .i64 t.2.2, .pointer (some ⟨w.heap.size, 0, none⟩), .pointer (some ⟨w.heap.size + 1, 0, none⟩)] from rfl]
    have hdl : (madeM (· + ·) d).length ≤ 1000000000 := by
      have k1 := madeM_len (· + ·) d
      have k2 := both_len a b
      rw [hd, List.length_append] at k2
      have k3 := mayM_len HMA.out
      have k4 := mayM_len HMB.out
      omega
    by_cases hpos : 0 < t.2.1 + t.2.2
    · refine (made_yes t.1 t.2.1 t.2.2 _ _ v _ _ _ W (by omega) hpos h1 h2 h4 (Nat.lt_succ_self _) h3 h6 hdl).mono ?_
      rintro e w' ⟨rfl, v', w2, rfl, k1, k2⟩
      have hne : ∀ k, v.ownBlock = some k → w.heap.size + 2 ≤ k := fun k hk => (h3.lt k hk).1
      have g1 : w2.heap[w.heap.size]? = W.heap[w.heap.size]? := k2.block _ (by omega) (fun e => by have := hne _ e.symm; omega)
      have g2 : w2.heap[w.heap.size + 1]? = W.heap[w.heap.size + 1]? := k2.block _ (by omega) (fun e => by have := hne _ e.symm; omega)
      refine ⟨rfl, other ((World.cell?_of_block (a := ⟨w.heap.size, 0, none⟩) g1).trans h1) (ab (by omega)), ⟨v', same_of (u := v) ?_, ?_⟩, free_set ?_, ?_, ?_⟩
      · exact (World.cell?_of_block (a := ⟨w.heap.size + 1, 0, none⟩) g2).trans h2
      · refine ownsRow_setCell_below ?_ (Nat.lt_succ_self _) _
        rw [madeM_append, if_pos hpos, flatP_append, List.length_append]
        simpa [flatP] using k1
      · exact (World.frozen?_of_block (a := ⟨w.heap.size + 1, 0, none⟩) g2).trans h4
      · exact (ext_grown h5 k2 (fun k hk => by have := hne k hk; omega)).setCell (p := ⟨w.heap.size + 1, 0, none⟩) (Nat.le_succ _) _
      · rw [size_setCell]; exact Nat.le_trans h6 k2.size
    · refine (made_no t.1 t.2.1 t.2.2 _ _ W (by omega) (by omega) h1).mono ?_
      rintro e w' ⟨rfl, rfl⟩
      refine ⟨rfl, h1, ⟨v, h2, ?_⟩, h4, h5, h6⟩
      rw [madeM_append, if_neg hpos]
      exact h3
  · rintro d W ⟨_, _, _, h3, _⟩ k hk
    exact (Kept.ext h3 hS k hk).trans (Kept.ext HK.out hS k hk).symm
  · rintro d W q ⟨h1, ⟨v, h2, h3⟩, h4, h5, h6⟩
    exact ⟨by simpa using h1, ⟨v, by simpa using h2, h3⟩, by simpa using h4, h5.drewN q, h6⟩
  · exact free_at _ _ _ hz.symm
  rintro e w3 ⟨rfl, h1, ⟨v, h2, h3⟩, h4, h5, h6⟩
  have HX3 := hid h5
  have HP := hid (own_pows h3 (madeM_bounds HMA.out HMB.out))
  have hf := Go.Joins.ownsRow_forms h3
  clear h1 h3 h5 hz hK
  rcases hf with ⟨rfl, -⟩ | ⟨bg, cg, rfl⟩
  all_goals
    go_wp2
    all_goals
      refine bodyPost_ret (by simp [results, Tryz.results167, go_sem, same_of h2]; rfl) rfl ?_
      exact ⟨_, rfl, HP.out.to (Kept.setCell (fun h => by have : w.heap.size + 2 ≤ w.heap.size + 1 := h.1; omega) _) (fun k h => ⟨by have := h.1; omega, by rw [size_setCell]; exact h.2⟩), HX3.out.setCell (p := ⟨w.heap.size + 1, 0, none⟩) (Nat.le_succ _) _⟩

def errTimes (a b : Mono) : Int := if mayM a && mayM b then (if mayM (timesM a b) then 0 else 8) else 2
def valTimes (a b : Mono) : Mono := if mayM a && mayM b && mayM (timesM a b) then timesM a b else []
set_option maxRecDepth 100000 in
set_option maxHeartbeats 4000000 in
theorem mono_times {S : Nat → Prop} (va vb : Value) (a b : Mono) (w : World) (ha : Pows S w va a) (hb : Pows S w vb b) (hS : ∀ k, S k → k < w.heap.size) :
    Calls Tryz.prog 158 #[va, vb] w fun e w' => ∃ v', e = .returned (.tuple #[v', .int .i64 (errTimes a b)]) ∧ Pows (New w w') w' v' (valTimes a b) ∧ Ext w w' := by
  have hnot : ∀ (x : Bool) (w : World), (Op.unary .not (.bool x)).run Tryz.prog w = .ok (.bool (!x)) w := fun _ _ => rfl
  have HA := hid ha
  have HB := hid hb
  obtain ⟨aa, ca, rfl⟩ := ha.form
  obtain ⟨a2, cb, rfl⟩ := hb.form
  clear ha hb
  unfold errTimes valTimes
  cases hma : mayM a with
  | false =>
    have HC := hid (mono_may _ a w HA.out hS)
    simp only [hma] at HC
    go_enter Tryz.func158, Tryz.ntmps158
    go_wp2_with fail
    with_reducible refine HC.out.mono ?_
    rintro e w1 ⟨rfl, hx1⟩
    have HX1 := hid hx1
    clear hx1
    go_wp2
    all_goals
      go_ret2
      exact ⟨_, rfl, Pows.empty _ _ _, HX1.out⟩
  | true =>
    have HC := hid (mono_may _ a w HA.out hS)
    simp only [hma] at HC
    have HD := hid (fun (W : World) (hW : Ext w W) => mono_may _ b W (HB.out.ext hW hS) (lt_ext hS hW))
    cases hmb : mayM b with
    | false =>
      simp only [hmb] at HD
      go_enter Tryz.func158, Tryz.ntmps158
      go_wp2_with fail
      with_reducible refine HC.out.mono ?_
      rintro e w1 ⟨rfl, hx1⟩
      have HX1 := hid hx1
      clear hx1
      go_wp2_with fail
      with_reducible refine (HD.out _ HX1.out).mono ?_
      rintro e w2 ⟨rfl, hx2⟩
      have HX2 := hid (HX1.out.trans hx2)
      clear hx2
      go_wp2
      all_goals
        go_ret2
        exact ⟨_, rfl, Pows.empty _ _ _, HX2.out⟩
    | true =>
      simp only [hmb] at HD
      have HM := hid (fun (W : World) (hW : Ext w W) => mono_made_times _ _ a b W (HA.out.ext hW hS) (HB.out.ext hW hS) (lt_ext hS hW) hma hmb)
      obtain ⟨m, hm⟩ : ∃ m, m = timesM a b := ⟨_, rfl⟩
      rw [← hm] at HM ⊢
      clear hm
      have HE := hid (fun (W : World) (v : Value) (hv : Pows (Old W) W v m) => mono_may _ m W hv (fun _ h => h))
      cases hmm : mayM m with
      | false =>
        simp only [hmm] at HE
        go_enter Tryz.func158, Tryz.ntmps158
        go_wp2_with fail
        with_reducible refine HC.out.mono ?_
        rintro e w1 ⟨rfl, hx1⟩
        have HX1 := hid hx1
        clear hx1
        go_wp2_with fail
        with_reducible refine (HD.out _ HX1.out).mono ?_
        rintro e w2 ⟨rfl, hx2⟩
        have HX2 := hid (HX1.out.trans hx2)
        clear hx2
        go_wp2_with fail
        with_reducible refine (HM.out _ HX2.out).mono ?_
        rintro e w3 ⟨v3, rfl, hp3, hx3⟩
        have HX3 := hid (HX2.out.trans hx3)
        have HCE := hid (HE.out w3 v3 (hp3.to (Kept.refl _ _) New.lt))
        obtain ⟨a3, c3, rfl⟩ := hp3.form
        clear hp3 hx3
        go_wp2_with fail
        with_reducible refine HCE.out.mono ?_
        rintro e w4 ⟨rfl, hx4⟩
        have HX4 := hid (HX3.out.trans hx4)
        clear hx4
        go_wp2
        all_goals
          go_ret2
          exact ⟨_, rfl, Pows.empty _ _ _, HX4.out⟩
      | true =>
        simp only [hmm] at HE
        go_enter Tryz.func158, Tryz.ntmps158
        go_wp2_with fail
        with_reducible refine HC.out.mono ?_
        rintro e w1 ⟨rfl, hx1⟩
        have HX1 := hid hx1
        clear hx1
        go_wp2_with fail
        with_reducible refine (HD.out _ HX1.out).mono ?_
        rintro e w2 ⟨rfl, hx2⟩
        have HX2 := hid (HX1.out.trans hx2)
        clear hx2
        go_wp2_with fail
        with_reducible refine (HM.out _ HX2.out).mono ?_
        rintro e w3 ⟨v3, rfl, hp3, hx3⟩
        have HX3 := hid (HX2.out.trans hx3)
        have HCE := hid (HE.out w3 v3 (hp3.to (Kept.refl _ _) New.lt))
        have HP3 := hid hp3
        have HX23 := hid hx3
        obtain ⟨a3, c3, rfl⟩ := hp3.form
        clear hp3 hx3
        go_wp2_with fail
        with_reducible refine HCE.out.mono ?_
        rintro e w4 ⟨rfl, hx4⟩
        have HX4 := hid (HX3.out.trans hx4)
        have HP4 : Hid (Pows (New w w4) w4 (.slice a3 m.length c3) m) := hid (HP3.out.to (New.kept hx4) (fun k h => ⟨Nat.le_trans HX2.out.size h.1, Nat.lt_of_lt_of_le h.2 hx4.size⟩))
        clear hx4
        go_wp2
        all_goals
          go_ret2
          exact ⟨_, rfl, HP4.out, HX4.out⟩
end Go.Proofs.YtbhdgdmelepnhaaGreat

namespace Go.Proofs.YtbhdgdmelepnhaaGreat
open Go.RowKit

theorem w_dg_zeros (n k : Nat) : dg (List.replicate n 0) k = 0 := by
  unfold dg
  rw [List.getElem?_replicate]
  split <;> rfl
theorem w_dg_set {l : List Nat} {k j z : Nat} : dg (l.set k z) j = if k = j ∧ k < l.length then z else dg l j := by
  unfold dg
  rw [List.getElem?_set]
  by_cases h : k = j
  · subst h
    by_cases h2 : k < l.length
    · simp [h2]
    · simp [h2]
  · simp [h]
theorem w_set_lt {l : List Nat} (h : ∀ z ∈ l, z < B32) (k z : Nat) (hz : z < B32) : ∀ y ∈ l.set k z, y < B32 := fun y hy => by
  rcases List.mem_or_eq_of_mem_set hy with h1 | h1
  · exact h y h1
  · rw [h1]; exact hz
/-- one step of a row -/
theorem w_mul_step {o : List Nat} {i k c x y V0 Y : Nat} (hk : i + k < o.length) (h : val B32 o + B32 ^ (i + k) * c = V0 + B32 ^ i * (x * Y)) :
    val B32 (o.set (i + k) ((c + (x * y + dg o (i + k))) % B32)) + B32 ^ (i + (k + 1)) * ((c + (x * y + dg o (i + k))) / B32) = V0 + B32 ^ i * (x * (Y + B32 ^ k * y)) := by
  have h1 := set_val (B := B32) o (i + k) ((c + (x * y + dg o (i + k))) % B32) hk
  generalize hs : c + (x * y + dg o (i + k)) = s at *
  have h2 : s % B32 + B32 * (s / B32) = s := Nat.mod_add_div _ _
  have e1 : B32 ^ (i + (k + 1)) * (s / B32) = B32 ^ (i + k) * (B32 * (s / B32)) := by
    rw [← Nat.add_assoc, Nat.pow_succ, Nat.mul_assoc]
  have e2 : B32 ^ i * (x * (Y + B32 ^ k * y)) = B32 ^ i * (x * Y) + B32 ^ (i + k) * (x * y) := by
    rw [Nat.mul_add, Nat.mul_add, Nat.pow_add]
    congr 1
    rw [Nat.mul_assoc, Nat.mul_left_comm x]
  have e3 : B32 ^ (i + k) * s = B32 ^ (i + k) * (s % B32) + B32 ^ (i + k) * (B32 * (s / B32)) := by
    rw [← Nat.mul_add, h2]
  have e4 : B32 ^ (i + k) * s = B32 ^ (i + k) * c + (B32 ^ (i + k) * (x * y) + B32 ^ (i + k) * dg o (i + k)) := by
    rw [← hs, Nat.mul_add, Nat.mul_add]
  rw [e1, e2]
  omega
/-- the row's end -/
theorem w_mul_row {o : List Nat} {i c x V0 : Nat} {xs ys : List Nat} (hx : xs[i]? = some x) (hi : i + ys.length < o.length) (h0 : dg o (i + ys.length) = 0) (hV : V0 = val B32 (xs.take i) * val B32 ys) (h : val B32 o + B32 ^ (i + ys.length) * c = V0 + B32 ^ i * (x * val B32 ys)) :
    val B32 (o.set (i + ys.length) c) = val B32 (xs.take (i + 1)) * val B32 ys := by
  have h1 := set_val (B := B32) o (i + ys.length) c hi
  rw [h0] at h1
  have h2 := val_take_succ (B := B32) hx
  rw [h2, Nat.add_mul, ← hV, Nat.mul_assoc]
  omega
theorem w_mul_fit {x y d c : Nat} (hx : x < 4294967296) (hy : y < 4294967296) (hd : d < 4294967296) (hc : c < 4294967296) : x * y ≤ 18446744065119617025 ∧ c + (x * y + d) ≤ 18446744073709551615 := by
  have h1 : x * y ≤ 4294967295 * 4294967295 := Nat.mul_le_mul (by omega) (by omega)
  omega

set_option maxRecDepth 100000 in
set_option maxHeartbeats 4000000 in
theorem times_rows {S : Nat → Prop} (va vb : Value) (xs ys : List Nat) (w : World) (ha : U32s S w va xs) (hb : U32s S w vb ys) (hS : ∀ k, S k → k < w.heap.size) (hr : xs.length + ys.length ≤ 1000000000000) :
    Calls Tryz.prog 180 #[va, vb] w fun e w' => ∃ v', e = .returned v' ∧ U32s (New w w') w' v' (rep B32 (val B32 xs * val B32 ys)) ∧ Ext w w' := by
  have HA := hid ha
  have HB := hid hb
  have hla := ha.len_le
  have hlb := hb.len_le
  obtain ⟨aa, ca, rfl⟩ := ha.form
  obtain ⟨ab, cb, rfl⟩ := hb.form
  obtain ⟨n, hn⟩ : ∃ n, n = xs.length := ⟨_, rfl⟩
  obtain ⟨m, hm⟩ : ∃ n, n = ys.length := ⟨_, rfl⟩
  rw [← hn, ← hm] at hr
  rw [← hn] at HA hla ⊢
  rw [← hm] at HB hlb ⊢
  have HNN := hid hn
  have HMM := hid hm
  clear ha hb hn hm
  have hmk := run_make_row' (P := Tryz.prog) 24 119 (.int .u32 0) 4 Tryz.underlying24 Tryz.infoU32 rfl .i64 .i64 (n + m) (by omega) (by omega) w
  rw [show ((n + m : Nat) : Int) = (n : Int) + (m : Int) by omega] at hmk
  have HR := hid (rowU_zeros w (n + m) 119)
  have HE := hid (Ext.alloc (Ext.refl w) (.cells (madeCells #[.int .u32 0] (n + m)) 119))
  go_enter Tryz.func180, Tryz.ntmps180
  go_wp2
  go_loopw [19] (fun i wr => ∃ (k : Nat) (o : List Nat), k ≤ n ∧ i = .int .i64 k ∧ Hid (o.length = n + m) ∧ Hid (∀ z ∈ o, z < B32) ∧ wr.rowIs w.heap.size 119 (n + m) (rowU o) ∧ Ext w wr ∧ Hid (w.heap.size < wr.heap.size) ∧
    Hid (val B32 o = val B32 (xs.take k) * val B32 ys) ∧ Hid (∀ j, k + m ≤ j → dg o j = 0)) (fun i _ => n - (intOf i).toNat)
  case atStart => exact ⟨0, List.replicate (n + m) 0, Nat.zero_le _, rfl, hid (by simp), hid (fun z hz => by rw [(List.mem_replicate.1 hz).2]; decide), HR.out, HE.out, hid (by simp), hid (by rw [val_zeros]; simp [val]), hid (fun j _ => w_dg_zeros _ _)⟩
  case round =>
    obtain ⟨k, o, hk, rfl, HOL, HO, hrow, hx, HGS, HV, HZ⟩ := hrel
    have HX := hid hx
    have HROW := hid hrow
    clear hrow
    by_cases hlt : k < n
    · obtain ⟨x, hx1⟩ := some_of_lt (l := xs) (j := k) (by rw [← HNN.out]; exact hlt)
      obtain ⟨b1, o1, rfl, -, hn1, hm1, -, hxb, hc1⟩ := (HA.out.to (Kept.ext hx hS) (fun _ h => h)).cellAt hx1
      have HX1 := hid hx1
      have HXB := hid hxb
      clear hx hx1
      go_wp2
      obtain ⟨wo, rfl⟩ : ∃ wo : World, wo = wr := ⟨_, rfl⟩
      go_loopw [8, 26] (fun c i wr => ∃ (j cc : Nat) (o2 : List Nat), j ≤ m ∧ i = .int .i64 j ∧ c = .int .u64 cc ∧ cc < 4294967296 ∧ Hid (o2.length = n + m) ∧ Hid (∀ z ∈ o2, z < B32) ∧ wr.rowIs w.heap.size 119 (n + m) (rowU o2) ∧ Ext w wr ∧ Hid (w.heap.size < wr.heap.size) ∧
        Hid (val B32 o2 + B32 ^ (k + j) * cc = val B32 o + B32 ^ k * (x * val B32 (ys.take j))) ∧ Hid (∀ i, k + m ≤ i → dg o2 i = 0)) (fun _ i _ => m - (intOf i).toNat)
      case atStart => exact ⟨0, 0, o, Nat.zero_le _, rfl, rfl, by omega, HOL, HO, HROW.out, HX.out, HGS, hid (by simp [val]), HZ⟩
      case round =>
        obtain ⟨j, cc, o2, hj, rfl, rfl, hcc, HOL2, HO2, hrow2, hx2, HGS2, HV2, HZ2⟩ := hrel
        have HX2 := hid hx2
        have HROW2 := hid hrow2
        by_cases hlt2 : j < m
        · obtain ⟨y, hy1⟩ := some_of_lt (l := ys) (j := j) (by rw [← HMM.out]; exact hlt2)
          obtain ⟨b2, o3, rfl, -, hn2, hm2, -, hyb, hc2⟩ := (HB.out.to (Kept.ext hx2 hS) (fun _ h => h)).cellAt hy1
          have HY1 := hid hy1
          obtain ⟨t, ht⟩ : ∃ t, t = k + j := ⟨_, rfl⟩
          have hti : (k : Int) + (j : Int) = (t : Int) := by omega
          have htl : t < n + m := by omega
          have hcs := hrow2.cell (i := t) htl
          have hfs := hrow2.frozen t
          have hdl : dg o2 t < 4294967296 := dg_lt (by decide) HO2.out t
          unfold rowU at hcs
          obtain ⟨d, hd⟩ : ∃ d, d = dg o2 t := ⟨_, rfl⟩
          rw [← hd] at hcs hdl
          have HD := hid hd
          have HT := hid ht
          obtain ⟨hp1, hp2⟩ := w_mul_fit hxb hyb hdl hcc
          obtain ⟨p, hp⟩ : ∃ p, p = x * y := ⟨_, rfl⟩
          have hpi : (x : Int) * (y : Int) = (p : Int) := by rw [hp, Int.natCast_mul]
          rw [← hp] at hp1 hp2
          have HP := hid hp
          clear hy1 hrow2 hx2 hd ht hp
          go_wp2
          go_roundw
          case rel =>
            have hmod : (cc + (p + d)) % 4294967296 < B32 := Nat.mod_lt _ (by decide)
            refine ⟨j + 1, (cc + (p + d)) / 4294967296, o2.set t ((cc + (p + d)) % 4294967296), by omega, by go_num, congrArg (Value.int .u64) (by omega), by omega, hid (by rw [List.length_set]; exact HOL2.out), hid (w_set_lt HO2.out t _ hmod), ?_, HX2.out.setCell (p := ⟨w.heap.size, t, none⟩) (Nat.le_refl _) _, hid (by rw [size_setCell]; exact HGS2.out), ?_, ?_⟩
            · have h1 := rowU_set HROW2.out t ((cc + (p + d)) % 4294967296) (by rw [HOL2.out]; exact htl)
              refine cast (congrArg (fun e => World.rowIs (World.setCell wr ⟨w.heap.size, t, none⟩ (Value.int .u32 e)) _ _ _ _) ?_) h1
              omega
            · have h1 := w_mul_step (o := o2) (i := k) (k := j) (c := cc) (x := x) (y := y) (V0 := val B32 o) (Y := val B32 (ys.take j)) (by rw [HOL2.out, ← HT.out]; exact htl) HV2.out
              rw [← val_take_succ HY1.out, ← HP.out, ← HT.out, ← HD.out] at h1
              exact h1
            · refine hid (fun i hi => ?_)
              rw [w_dg_set, if_neg (by have := HT.out; omega)]
              exact HZ2.out i hi
          case measure => simp only [intOf]; omega
        · obtain rfl : m = j := by omega
          obtain ⟨t, ht⟩ : ∃ t, t = k + m := ⟨_, rfl⟩
          have hti : (k : Int) + (m : Int) = (t : Int) := by omega
          have htl : t < n + m := by omega
          have hcs := hrow2.cell (i := t) htl
          have hfs := hrow2.frozen t
          have hv3 : val B32 (o2.set t cc) = val B32 (xs.take (k + 1)) * val B32 ys := by
            have h1 := HV2.out
            rw [show ys.take m = ys by rw [HMM.out]; exact List.take_length] at h1
            have h2 := w_mul_row (o := o2) (i := k) (c := cc) (xs := xs) (ys := ys) HX1.out (by rw [HOL2.out, ← HMM.out, ← ht]; exact htl) (by rw [← HMM.out]; exact HZ2.out _ (Nat.le_refl _)) HV.out (by rw [← HMM.out]; exact h1)
            rw [← HMM.out, ← ht] at h2
            exact h2
          have HV3 := hid hv3
          have HT := hid ht
          have HCC := hid hcc
          clear hrow2 hx2 hv3 ht
          go_wp2
          go_roundw
          case rel =>
            refine ⟨k + 1, o2.set t cc, by omega, by go_num, hid (by rw [List.length_set]; exact HOL2.out), hid (w_set_lt HO2.out t _ HCC.out), ?_, HX2.out.setCell (p := ⟨w.heap.size, t, none⟩) (Nat.le_refl _) _, hid (by rw [size_setCell]; exact HGS2.out), HV3, hid (fun i hi => ?_)⟩
            · have h1 := rowU_set HROW2.out t cc (by rw [HOL2.out]; exact htl)
              refine cast (congrArg (fun e => World.rowIs (World.setCell wr ⟨w.heap.size, t, none⟩ (Value.int .u32 e)) _ _ _ _) ?_) h1
              omega
            · rw [w_dg_set, if_neg (by have := HT.out; omega)]
              exact HZ2.out i (by omega)
          case measure => simp only [intOf]; omega
    · obtain rfl : n = k := by omega
      have hv : val B32 o = val B32 xs * val B32 ys := by
        have h1 := HV.out
        rwa [show xs.take n = xs by rw [HNN.out]; exact List.take_length] at h1
      have HVE := hid hv
      have hu : U32s (fun k => k = w.heap.size) wr (.slice (some ⟨w.heap.size, 0, none⟩) (n + m) (n + m)) o := by
        have h1 := U32s.of_row HROW.out (by have := HOL.out; omega) HO.out (by omega)
        rwa [HOL.out] at h1
      have hz : w.heap.size < wr.heap.size := HGS.out
      have HC := hid (nat_trim (S := fun k => k = w.heap.size) _ o wr hu (fun k hk => by rw [hk]; exact hz) (by rw [HOL.out]; omega))
      clear hx hv hu hz
      go_wp2_with fail
      with_reducible refine HC.out.mono ?_
      rintro e w2 ⟨v2, rfl, hp2, hx2⟩
      rw [HVE.out] at hp2
      have HP2 := hid (hp2.to (S' := New w w2) (Kept.refl _ _) (fun k h => ⟨Nat.le_trans HX.out.size h.1, h.2⟩))
      have HX2 := hid (HX.out.trans hx2)
      clear hp2 hx2
      go_wp2
      all_goals
        go_ret
        exact ⟨_, rfl, HP2.out, HX2.out⟩
end Go.Proofs.YtbhdgdmelepnhaaGreat

namespace Go.Proofs.YtbhdgdmelepnhaaGreat
open Go.RowKit

theorem two_limbs (w : World) (lo hi : Nat) (T : TypeId) (h1 : lo < B32) (h2 : hi < B32) : U32s (Old (w.alloc (.cells #[.int .u32 lo, .int .u32 hi] T))) (w.alloc (.cells #[.int .u32 lo, .int .u32 hi] T)) (.slice (some ⟨w.heap.size, 0, none⟩) 2 2) [lo, hi] := by
  refine ⟨w.heap.size, 0, ⟨_, 2, rfl, Nat.le_refl _, by decide, fun _ => rfl, fun _ => by show w.heap.size < (w.alloc _).heap.size; rw [size_alloc]; omega⟩, fun j z hj => ?_⟩
  have hj2 := lt_of_some hj
  simp only [List.length_cons, List.length_nil] at hj2
  match j, hj with
  | 0, hj =>
    obtain rfl : lo = z := by simpa using hj
    exact ⟨h1, cell_new _ _ _ rfl rfl⟩
  | 1, hj =>
    obtain rfl : hi = z := by simpa using hj
    exact ⟨h2, cell_new _ _ _ rfl rfl⟩
  | j + 2, _ => omega

set_option maxRecDepth 100000 in
set_option maxHeartbeats 2000000 in
theorem nat_small (x : Nat) (w : World) (hx : x < 18446744073709551616) :
    Calls Tryz.prog 136 #[.int .u64 (x : Nat)] w fun e w' => ∃ v', e = .returned v' ∧ U32s (New w w') w' v' (rep B32 x) ∧ Ext w w' := by
  obtain ⟨lo, hlo⟩ : ∃ lo, lo = x % 4294967296 := ⟨_, rfl⟩
  obtain ⟨hi, hhi⟩ : ∃ hi, hi = x / 4294967296 := ⟨_, rfl⟩
  have q1 : (x : Int) % 4294967296 = (lo : Int) := by omega
  have q2 : (x : Int) / 4294967296 = (hi : Int) := by omega
  have hb1 : lo < 4294967296 := by omega
  have hb2 : hi < 4294967296 := by omega
  have q3 : (hi : Int) % 4294967296 = (hi : Int) := by omega
  have hv : val B32 [lo, hi] = x := by
    show lo + 4294967296 * (hi + 4294967296 * 0) = x
    omega
  have HC := hid (nat_trim _ [lo, hi] _ (two_limbs w lo hi 119 hb1 hb2) (fun _ h => h) (by simp))
  rw [hv] at HC
  have HX1 := hid (Ext.alloc (Ext.refl w) (.cells #[.int .u32 lo, .int .u32 hi] 119))
  clear hv hlo hhi
  go_enter Tryz.func136, Tryz.ntmps136
  go_wp2_with fail
  with_reducible refine HC.out.mono ?_
  rintro e w1 ⟨v1, rfl, hp1, hx1⟩
  have HP1 := hid (hp1.to (S' := New w w1) (Kept.refl _ _) (fun k h => ⟨Nat.le_trans HX1.out.size h.1, h.2⟩))
  have HX2 := hid (HX1.out.trans hx1)
  clear hp1 hx1
  go_wp2
  all_goals
    go_ret
    exact ⟨_, rfl, HP1.out, HX2.out⟩
end Go.Proofs.YtbhdgdmelepnhaaGreat

namespace Go.Proofs.YtbhdgdmelepnhaaGreat
open Go.RowKit

set_option maxRecDepth 100000 in
set_option maxHeartbeats 4000000 in
theorem cutter_few {S : Nat → Prop} (va vb : Value) (xs ys : List Nat) (w : World) (ha : U32s S w va xs) (hb : U32s S w vb ys) (hS : ∀ k, S k → k < w.heap.size) (hr : xs.length + ys.length ≤ 1000000000000) (hc : xs.length < 24 ∨ ys.length < 24) :
    Calls Tryz.prog 177 #[.int .i64 24, va, vb] w fun e w' => ∃ v', e = .returned v' ∧ U32s (New w w') w' v' (rep B32 (val B32 xs * val B32 ys)) ∧ Ext w w' := by
  have HC := hid (times_rows va vb xs ys w ha hb hS hr)
  have hla := ha.len_le
  have hlb := hb.len_le
  obtain ⟨aa, ca, rfl⟩ := ha.form
  obtain ⟨a2, cb, rfl⟩ := hb.form
  clear ha hb
  obtain ⟨n, hn⟩ : ∃ n, n = xs.length := ⟨_, rfl⟩
  obtain ⟨m, hm⟩ : ∃ n, n = ys.length := ⟨_, rfl⟩
  rw [← hn, ← hm] at hc hr
  rw [← hn] at hla
  rw [← hm] at hlb
  rw [← hn, ← hm] at HC ⊢
  clear hn hm
  go_enter Tryz.func177, Tryz.ntmps177
  rcases Nat.lt_or_ge n m with h | h
  · have q0 : min (n : Int) (m : Int) = (n : Int) := by omega
    have q1 : (n : Int) < 24 := by omega
    go_wp2_with fail
    with_reducible refine HC.out.mono ?_
    rintro e w1 ⟨v1, rfl, hp1, hx1⟩
    have HP1 := hid hp1
    have HX1 := hid hx1
    clear hp1 hx1
    go_wp2
    all_goals
      go_ret
      exact ⟨_, rfl, HP1.out, HX1.out⟩
  · rcases Nat.lt_or_ge m n with h2 | h2
    · have q0 : min (n : Int) (m : Int) = (m : Int) := by omega
      have q1 : (m : Int) < 24 := by omega
      go_wp2_with fail
      with_reducible refine HC.out.mono ?_
      rintro e w1 ⟨v1, rfl, hp1, hx1⟩
      have HP1 := hid hp1
      have HX1 := hid hx1
      clear hp1 hx1
      go_wp2
      all_goals
        go_ret
        exact ⟨_, rfl, HP1.out, HX1.out⟩
    · obtain rfl : n = m := by omega
      have q1 : (n : Int) < 24 := by omega
      go_wp2_with fail
      with_reducible refine HC.out.mono ?_
      rintro e w1 ⟨v1, rfl, hp1, hx1⟩
      have HP1 := hid hp1
      have HX1 := hid hx1
      clear hp1 hx1
      go_wp2
      all_goals
        go_ret
        exact ⟨_, rfl, HP1.out, HX1.out⟩

def lenN (n : Nat) : Nat := (rep B32 n).length
theorem lenN_le {zs : List Nat} (h : ∀ z ∈ zs, z < B32) : lenN (val B32 zs) ≤ zs.length := rep_val_len h
theorem mul_lens {a b k : Nat} (ha : lenN a + lenN b ≤ k) : lenN (a * b) ≤ k := by
  refine rep_len_le two_le_B32 _ k (Nat.lt_of_lt_of_le (Nat.mul_lt_mul'' (le_of_rep_len two_le_B32 a) (le_of_rep_len two_le_B32 b)) ?_)
  rw [← Nat.pow_add]
  exact Nat.pow_le_pow_right (by decide) ha
set_option maxRecDepth 100000 in
set_option maxHeartbeats 4000000 in
theorem times_mul {S : Nat → Prop} (va vb : Value) (xs ys : List Nat) (w : World) (ha : U32s S w va xs) (hb : U32s S w vb ys) (hS : ∀ k, S k → k < w.heap.size) (hr : xs.length + ys.length ≤ 1000000000000) (hc : lenN (val B32 xs) < 24 ∨ lenN (val B32 ys) < 24) :
    Calls Tryz.prog 169 #[va, vb] w fun e w' => ∃ v', e = .returned v' ∧ U32s (New w w') w' v' (rep B32 (val B32 xs * val B32 ys)) ∧ Ext w w' := by
  have C1 := hid (nat_trim va xs w ha hS (by omega))
  have C2 := hid (fun (W : World) (hW : Ext w W) => nat_trim vb ys W (hb.ext hW hS) (lt_ext hS hW) (by omega))
  have C3 := hid (fun (W : World) (u v : Value) (hu : U32s (Old W) W u (rep B32 (val B32 xs))) (hv : U32s (Old W) W v (rep B32 (val B32 ys))) => cutter_few u v _ _ W hu hv (fun _ h => h) (by have := lenN_le ha.lt; have := lenN_le hb.lt; unfold lenN at *; omega) hc)
  simp only [val_rep two_le_B32] at C3
  obtain ⟨aa, ca, rfl⟩ := ha.form
  obtain ⟨a2, cb, rfl⟩ := hb.form
  clear ha hb
  go_enter Tryz.func169, Tryz.ntmps169
  go_wp2_with fail
  with_reducible refine C1.out.mono ?_
  rintro e w1 ⟨v1, rfl, hp1, hx1⟩
  have HX1 := hid hx1
  have HP1 := hid (hp1.to (S' := Old w1) (Kept.refl _ _) New.lt)
  obtain ⟨a1, c1, rfl⟩ := hp1.form
  clear hp1 hx1
  go_wp2_with fail
  with_reducible refine (C2.out _ HX1.out).mono ?_
  rintro e w2 ⟨v2, rfl, hp2, hx2⟩
  have HX2 := hid (HX1.out.trans hx2)
  have C4 := hid (C3.out w2 _ v2 ((HP1.out.ext hx2 (fun _ h => h)).to (Kept.refl _ _) (fun k h => Nat.lt_of_lt_of_le h hx2.size)) (hp2.to (Kept.refl _ _) New.lt))
  obtain ⟨a3, c3, rfl⟩ := hp2.form
  clear hp2 hx2
  go_wp2_with fail
  with_reducible refine C4.out.mono ?_
  rintro e w3 ⟨v3, rfl, hp3, hx3⟩
  have HX3 := hid (HX2.out.trans hx3)
  have HP3 := hid (hp3.to (S' := New w w3) (Kept.refl _ _) (fun k h => ⟨Nat.le_trans HX2.out.size h.1, h.2⟩))
  clear hp3 hx3
  go_wp2
  all_goals
    go_ret
    exact ⟨_, rfl, HP3.out, HX3.out⟩

theorem sg_mul (xn yn : Bool) (a b : Nat) : sg (xn != yn) (a * b) = sg xn a * sg yn b := by
  unfold sg
  cases xn <;> cases yn <;> simp [Int.neg_mul, Int.mul_neg]

set_option maxRecDepth 100000 in
set_option maxHeartbeats 4000000 in
theorem whole_mul {S : Nat → Prop} (vx vy : Value) (x y : RInt) (w : World) (hx : IntV S w vx x) (hy : IntV S w vy y) (hS : ∀ k, S k → k < w.heap.size) (hr : x.mag.length ≤ 100000000000) (hr2 : y.mag.length ≤ 100000000000)
    (hc : lenI (valI x) < 24 ∨ lenI (valI y) < 24) :
    Calls Tryz.prog 159 #[vx, vy] w fun e w' => ∃ v', e = .returned v' ∧ IntV (New w w') w' v' (ofI (valI x * valI y)) ∧ Ext w w' := by
  obtain ⟨xn, xs⟩ := x
  obtain ⟨yn, ys⟩ := y
  obtain ⟨vxm, rfl, hxu⟩ := hx
  obtain ⟨vym, rfl, hyu⟩ := hy
  simp only at hxu hyu hr hr2 ⊢
  have hc' : lenN (val B32 xs) < 24 ∨ lenN (val B32 ys) < 24 := by
    have e1 : lenI (valI ⟨xn, xs⟩) = lenN (val B32 xs) := by
      rw [← ofI_len]
      unfold ofI valI lenN
      cases xn <;> simp
    have e2 : lenI (valI ⟨yn, ys⟩) = lenN (val B32 ys) := by
      rw [← ofI_len]
      unfold ofI valI lenN
      cases yn <;> simp
    rwa [e1, e2] at hc
  have HCL := hid hc'
  have HX := hid hxu
  have HY := hid hyu
  obtain ⟨ax, cx, rfl⟩ := hxu.form
  obtain ⟨ay, cy, rfl⟩ := hyu.form
  clear hxu hyu hc hc'
  have HK := hid (Ext.alloc (Ext.alloc (Ext.alloc (Ext.refl w) (.cells #[.bool xn, .slice ax xs.length cx] 26)) (.cells #[.bool yn, .slice ay ys.length cy] 26)) (.cells #[.bool false, .slice none 0 0] 26))
  have HXK := hid (HX.out.ext HK.out hS)
  have HYK := hid (HY.out.ext HK.out hS)
  have HSK := hid (lt_ext hS HK.out)
  have hsz : w.heap.size + 1 + 1 < (((w.alloc (.cells #[.bool xn, .slice ax xs.length cx] 26)).alloc (.cells #[.bool yn, .slice ay ys.length cy] 26)).alloc (.cells #[.bool false, .slice none 0 0] 26)).heap.size := by simp
  have HSZ := hid hsz
  clear hsz
  have HQ : Hid (valI ⟨xn, xs⟩ * valI ⟨yn, ys⟩ = sg (xn != yn) (val B32 xs * val B32 ys)) := hid (by
    rw [sg_mul]
    rfl)
  obtain ⟨b1, b2, b3, b4⟩ := blk3 (Ext.refl (((w.alloc (.cells #[.bool xn, .slice ax xs.length cx] 26)).alloc (.cells #[.bool yn, .slice ay ys.length cy] 26)).alloc (.cells #[.bool false, .slice none 0 0] 26)))
  have c1 := b1 0 _ rfl
  have c2 := b1 1 _ rfl
  have c3 := b2 1 _ rfl
  have c4 := b2 0 _ rfl
  clear b1 b2 b3 b4
  have S0 := drew3 c1 c2 c3
  have S0' := drew3 c4 c4 c4
  have HS0 := hid (And.intro S0.1 (And.intro S0.2.1 (And.intro S0.2.2 S0'.1)))
  clear S0 S0' c1 c2 c3 c4
  go_enter Tryz.func159, Tryz.ntmps159
  go_wp2
  have S0 := HS0.out
  have HL : Hid ((rep B32 (val B32 xs * val B32 ys)).length ≤ 50000000000000) := hid (mul_lens (by have h1 := lenN_le HX.out.lt; have h2 := lenN_le HY.out.lt; omega))
  obtain ⟨xy, hxy⟩ : ∃ b, b = (xn != yn) := ⟨_, rfl⟩
  rw [← hxy] at HQ
  have hxyq : (!(xn == yn)) = xy := hxy.symm
  clear hxy
  go_region_held3 (fun W => W.cell? ⟨w.heap.size, 0, none⟩ = some (.bool xn) ∧ W.cell? ⟨w.heap.size, 1, none⟩ = some (.slice ax xs.length cx) ∧ W.cell? ⟨w.heap.size + 1, 1, none⟩ = some (.slice ay ys.length cy) ∧ W.cell? ⟨w.heap.size + 1, 0, none⟩ = some (.bool yn)) (first | exact S0 | exact S1 | exact S2 | exact ⟨other (other S2.1 (ab (by omega))) (ab (by omega)), other (other S2.2.1 (ab (by omega))) (ab (by omega)), other (other S2.2.2.1 (ab (by omega))) (ab (by omega)), other (other S2.2.2.2 (ab (by omega))) (ab (by omega))⟩)
    (first
      | (go_at_call 169; (with_reducible refine (times_mul _ _ xs ys _ (HX.out.ext (HK.out.drew) hS) (HY.out.ext (HK.out.drew) hS) (lt_ext hS (HK.out.drew)) (by omega) HCL.out).mono ?_); rintro e w1 ⟨v1, rfl, hu1, hx1⟩; have S1 := And.intro (hx1.cell S0.1) (And.intro (hx1.cell S0.2.1) (And.intro (hx1.cell S0.2.2.1) (hx1.cell S0.2.2.2))); have HX1 := hid hx1; have HU1 := hid hu1; obtain ⟨a1, n1, rfl⟩ := hu1.form; clear hx1 hu1)
      | (go_at_call 95; (with_reducible refine (made_rep xy _ _ _ HU1.out New.lt HL.out).mono ?_); rintro e w2 ⟨v2, rfl, ⟨vm2, rfl, hu2⟩, hx2⟩; have S2 := And.intro (hx2.cell S1.1) (And.intro (hx2.cell S1.2.1) (And.intro (hx2.cell S1.2.2.1) (hx2.cell S1.2.2.2))); have HX2 := hid hx2; have HU2 := hid hu2; obtain ⟨a2, n2, rfl⟩ := hu2.form; obtain ⟨-, -, d3, d4⟩ := blk3 ((Ext.drew (Ext.refl _)).trans (HX1.out.trans hx2)); have e0 := d3 0 _ rfl; have e1 := d3 1 _ rfl; have HE := hid (And.intro e0 e1); have f0 := d4 0; have f1 := d4 1; clear d3 d4 hx2 hu2))
  all_goals
    go_wp2
    have hd := fun x y => two_set x y HE.out.1 HE.out.2
    refine bodyPost_ret (by simp [results, Tryz.results159, go_sem, (hd _ _).1, (hd _ _).2]; rfl) rfl ?_
    have hg := ret_int3 (w0 := w) (b := w.heap.size + 1 + 1) rfl HU2.out (HK.out.drew.trans HX1.out) HX2.out (by omega) (Nat.lt_of_lt_of_le HSZ.out HX1.out.size) (.bool (ofI (sg xy (val B32 xs * val B32 ys))).neg) (.slice a2 (ofI (sg xy (val B32 xs * val B32 ys))).mag.length n2)
    rw [HQ.out]
    exact ⟨_, rfl, hg.1, hg.2⟩
end Go.Proofs.YtbhdgdmelepnhaaGreat

namespace Go.Proofs.YtbhdgdmelepnhaaGreat
open Go.RowKit

set_option maxRecDepth 100000 in
set_option maxHeartbeats 4000000 in
theorem whole_of (n : Int) (w : World) (hn : -9223372036854775808 ≤ n ∧ n ≤ 9223372036854775807) :
    Calls Tryz.prog 171 #[.int .i64 n] w fun e w' => ∃ v', e = .returned v' ∧ IntV (New w w') w' v' (ofI n) ∧ Ext w w' := by
  obtain ⟨hn1, hn2⟩ := hn
  have HX0 := hid (Ext.alloc (Ext.refl w) (.cells #[.bool false, .slice none 0 0] 26))
  have HSZ : Hid (w.heap.size < (w.alloc (.cells #[.bool false, .slice none 0 0] 26)).heap.size) := hid (by rw [size_alloc]; omega)
  by_cases h : n < 0
  · obtain ⟨x, hx⟩ : ∃ x : Nat, (x : Int) = -n := ⟨(-n).toNat, by omega⟩
    have hxl : x < 18446744073709551616 := by omega
    have q1 : n % 18446744073709551616 = 18446744073709551616 - (x : Int) := by omega
    have q2 : IntKind.u64.wrap (-IntKind.u64.wrap n) = (x : Int) := by
      rw [IntKind.wrap_u64, IntKind.wrap_u64]
      omega
    have HS := hid (fun W : World => nat_small x W hxl)
    have HL : Hid ((rep B32 x).length ≤ 50000000000000) := hid (Nat.le_trans (rep_len_le two_le_B32 x 2 (by show x < 4294967296 ^ 2; omega)) (by decide))
    have HQ : Hid (n = sg true x) := hid (by unfold sg; rw [if_pos rfl]; omega)
    clear hx hxl
    go_enter Tryz.func171, Tryz.ntmps171
    go_wp2_with fail
    with_reducible refine (HS.out _).mono ?_
    rintro e w1 ⟨v1, rfl, hp1, hx1⟩
    have HX1 := hid hx1
    have HP1 := hid hp1
    obtain ⟨a1, c1, rfl⟩ := hp1.form
    clear hp1 hx1
    go_wp2_with fail
    with_reducible refine (made_rep true _ _ _ HP1.out New.lt HL.out).mono ?_
    rintro e w2 ⟨v2, rfl, ⟨vm2, rfl, hu2⟩, hx2⟩
    have HX2 := hid hx2
    have HU2 := hid hu2
    obtain ⟨a2, n2, rfl⟩ := hu2.form
    have e0 := (HX1.out.trans hx2).new_cell (i := 0) rfl
    have e1 := (HX1.out.trans hx2).new_cell (i := 1) rfl
    have f0 := (HX1.out.trans hx2).new_free 0
    have f1 := (HX1.out.trans hx2).new_free 1
    have HE := hid (And.intro e0 e1)
    rw [← HQ.out] at HU2 ⊢
    clear hx2 hu2
    go_wp2
    have hd := fun x y => two_set x y HE.out.1 HE.out.2
    refine bodyPost_ret (by simp [results, Tryz.results171, go_sem, (hd _ _).1, (hd _ _).2]; rfl) rfl ?_
    have hg := ret_int3 (w0 := w) (b := w.heap.size) rfl HU2.out (HX0.out.trans HX1.out) HX2.out (Nat.le_refl _) (Nat.lt_of_lt_of_le HSZ.out HX1.out.size) (.bool (ofI n).neg) (.slice a2 (ofI n).mag.length n2)
    exact ⟨_, rfl, hg.1, hg.2⟩
  · obtain ⟨x, hx⟩ : ∃ x : Nat, (x : Int) = n := ⟨n.toNat, by omega⟩
    have hxl : x < 18446744073709551616 := by omega
    have q2 : IntKind.u64.wrap n = (x : Int) := by
      rw [IntKind.wrap_u64]
      omega
    have HS := hid (fun W : World => nat_small x W hxl)
    have HL : Hid ((rep B32 x).length ≤ 50000000000000) := hid (Nat.le_trans (rep_len_le two_le_B32 x 2 (by show x < 4294967296 ^ 2; omega)) (by decide))
    have HQ : Hid (n = sg false x) := hid (by unfold sg; simp; omega)
    clear hx hxl
    go_enter Tryz.func171, Tryz.ntmps171
    go_wp2_with fail
    with_reducible refine (HS.out _).mono ?_
    rintro e w1 ⟨v1, rfl, hp1, hx1⟩
    have HX1 := hid hx1
    have HP1 := hid hp1
    obtain ⟨a1, c1, rfl⟩ := hp1.form
    clear hp1 hx1
    go_wp2_with fail
    with_reducible refine (made_rep false _ _ _ HP1.out New.lt HL.out).mono ?_
    rintro e w2 ⟨v2, rfl, ⟨vm2, rfl, hu2⟩, hx2⟩
    have HX2 := hid hx2
    have HU2 := hid hu2
    obtain ⟨a2, n2, rfl⟩ := hu2.form
    have e0 := (HX1.out.trans hx2).new_cell (i := 0) rfl
    have e1 := (HX1.out.trans hx2).new_cell (i := 1) rfl
    have f0 := (HX1.out.trans hx2).new_free 0
    have f1 := (HX1.out.trans hx2).new_free 1
    have HE := hid (And.intro e0 e1)
    rw [← HQ.out] at HU2 ⊢
    clear hx2 hu2
    go_wp2
    have hd := fun x y => two_set x y HE.out.1 HE.out.2
    refine bodyPost_ret (by simp [results, Tryz.results171, go_sem, (hd _ _).1, (hd _ _).2]; rfl) rfl ?_
    have hg := ret_int3 (w0 := w) (b := w.heap.size) rfl HU2.out (HX0.out.trans HX1.out) HX2.out (Nat.le_refl _) (Nat.lt_of_lt_of_le HSZ.out HX1.out.size) (.bool (ofI n).neg) (.slice a2 (ofI n).mag.length n2)
    exact ⟨_, rfl, hg.1, hg.2⟩
end Go.Proofs.YtbhdgdmelepnhaaGreat

namespace Go.Proofs.YtbhdgdmelepnhaaGreat
open Go.RowKit

end Go.Proofs.YtbhdgdmelepnhaaGreat

namespace Go.Proofs.YtbhdgdmelepnhaaGreat
open Go.RowKit

section
variable {S S' : Nat → Prop} {w w' : World} {v : Value} {l : List PZ}
end
end Go.Proofs.YtbhdgdmelepnhaaGreat

namespace Go.Proofs.YtbhdgdmelepnhaaGreat
open Go.RowKit

def bigTerm (t : RTerm) : Bool := decide (20 < t.c.mag.length) || decide (12 < t.m.length)
def greatT (n : Int) (ts : List RTerm) : Bool := ts.any bigTerm || decide (n < (ts.length : Int))

set_option maxRecDepth 100000 in
set_option maxHeartbeats 4000000 in
theorem rpoly_great {S : Nat → Prop} (v : Value) (ts : List RTerm) (n : Int) (w : World) (h : Terms S w v ts) (_hS : ∀ k, S k → k < w.heap.size) (hn : -9223372036854775808 ≤ n ∧ n ≤ 9223372036854775807) :
    Calls Tryz.prog 31 #[v, .int .i64 n] w fun e w' => e = .returned (.bool (greatT n ts)) ∧ Ext w w' := by
  have H := hid h
  have hl := h.len_le
  obtain ⟨hn1, hn2⟩ := hn
  obtain ⟨a, cap, rfl⟩ := h.form
  clear h
  go_enter Tryz.func31, Tryz.ntmps31
  go_wp2
  go_loopw [5] (fun i wr => ∃ k : Nat, k ≤ ts.length ∧ i = .int .i64 k ∧ Ext w wr ∧ Hid ((ts.take k).any bigTerm = false)) (fun i _ => ts.length - (intOf i).toNat)
  case atStart => exact ⟨0, Nat.zero_le _, rfl, Ext.refl _, hid rfl⟩
  case round =>
    obtain ⟨k, hk, rfl, hx, HM⟩ := hrel
    have HX := hid hx
    by_cases hlt : k < ts.length
    · obtain ⟨t, ht⟩ := some_of_lt hlt
      obtain ⟨b, off, vm, vo, rfl, -, hq1, hm1, hSb, h1, h2, h3, h4, h5⟩ := H.out.cellAt ht
      have HT : Hid (ts.take (k + 1) = ts.take k ++ [t]) := hid (by rw [List.take_add_one, ht]; rfl)
      have HQ := hid (List.mem_of_getElem? ht)
      have hl1 := h4.len_le
      have hl2 := h5.len_le
      have HBT : Hid (bigTerm t = (decide (20 < t.c.mag.length) || decide (12 < t.m.length))) := hid rfl
      have g1 := Ext.cell hx h1
      have g2 := Ext.cell hx h2
      have g3 := Ext.cell hx h3
      obtain ⟨am, cm, rfl⟩ := h4.form
      obtain ⟨ao, co, rfl⟩ := h5.form
      generalize t.c.mag.length = x at *
      generalize t.m.length = y at *
      clear hx ht h1 h2 h3 h4 h5
      by_cases hbig : 20 < x
      · have HF : Hid (greatT n ts = true) := hid (by
          unfold greatT
          rw [List.any_eq_true.2 ⟨t, HQ.out, by rw [HBT.out, decide_eq_true hbig]; rfl⟩]
          rfl)
        go_wp2
        all_goals
          go_ret
          exact ⟨by rw [HF.out]; rfl, HX.out⟩
      · by_cases hbig2 : 12 < y
        · have HF : Hid (greatT n ts = true) := hid (by
            unfold greatT
            rw [List.any_eq_true.2 ⟨t, HQ.out, by rw [HBT.out, decide_eq_true hbig2, Bool.or_true]⟩]
            rfl)
          go_wp2
          all_goals
            go_ret
            exact ⟨by rw [HF.out]; rfl, HX.out⟩
        · go_wp2
          go_roundw
          case rel => exact ⟨k + 1, by omega, by go_num, HX.out, hid (by rw [HT.out, List.any_append, HM.out]; simp [HBT.out]; omega)⟩
          case measure => simp only [intOf]; omega
    · obtain rfl : k = ts.length := by omega
      have HF : Hid (greatT n ts = decide (n < (ts.length : Int))) := hid (by
        have := HM.out
        rw [List.take_length] at this
        unfold greatT
        rw [this, Bool.false_or])
      clear hx
      go_wp2
      all_goals
        go_ret
        exact ⟨by rw [HF.out]; rfl, HX.out⟩

end Go.Proofs.YtbhdgdmelepnhaaGreat

namespace Go.Proofs.YtbhdgdmelepnhaaGreat
open Go.RowKit

section
variable {S : Nat → Prop} {w w1 w2 : World} {o : Value} {e : TypeId} {size n : Nat} {xs : List Value}
end

theorem szP_take {p : PZ} (h : szP p) (k : Nat) : szP (p.take k) := ⟨Nat.le_trans (by rw [List.length_take]; exact Nat.min_le_right _ _) h.1, fun t ht => h.2 t (List.mem_of_mem_take ht)⟩
theorem addP_take {p : PZ} (h : canP p) (k : Nat) : addP [] (p.take k) = p.take k := normP_of_can (canP_sublist h (List.take_sublist _ _))
theorem plainP_yes {ts : List RTerm} (h : mayT ts = true) : plainP ts = toP ts := by unfold plainP; simp [h]
end Go.Proofs.YtbhdgdmelepnhaaGreat

namespace Go.Proofs.YtbhdgdmelepnhaaGreat

/-! Monomials without a greatest exponent -/
def okTail (last : Int) : Mono → Bool
  | [] => true
  | x :: r => decide (last < x.1 ∧ x.1 ≤ 200 ∧ 1 ≤ x.2) && okTail x.1 r
def okM (m : Mono) : Bool := okTail 0 m
theorem may_okTail {l : Int} {m : Mono} (h : mayTail l m = true) : okTail l m = true := by
  induction m generalizing l with
  | nil => rfl
  | cons x r ih =>
    simp only [mayTail, okTail, Bool.and_eq_true, decide_eq_true_eq] at h ⊢
    exact ⟨by omega, ih h.2⟩
theorem may_ok {m : Mono} (h : mayM m = true) : okM m = true := may_okTail h
theorem ok_low {l : Int} {m : Mono} (h : okTail l m = true) {u : Int} (hu : u ≤ l) : ex m u = 0 := by
  induction m generalizing l with
  | nil => rfl
  | cons y s ih =>
    simp only [okTail, Bool.and_eq_true, decide_eq_true_eq] at h
    rw [ex, if_neg (by omega)]
    exact ih h.2 (by omega)
theorem ok_nonneg {l : Int} {m : Mono} (h : okTail l m = true) (u : Int) : 0 ≤ ex m u := by
  induction m generalizing l with
  | nil => simp [ex]
  | cons y s ih =>
    simp only [okTail, Bool.and_eq_true, decide_eq_true_eq] at h
    rw [ex]
    split
    · omega
    · exact ih h.2
theorem ok_ext {l : Int} {a b : Mono} (ha : okTail l a = true) (hb : okTail l b = true) (h : ∀ v, ex a v = ex b v) : a = b := by
  induction a generalizing b l with
  | nil =>
    cases b with
    | nil => rfl
    | cons y b =>
      have := h y.1
      simp only [okTail, Bool.and_eq_true, decide_eq_true_eq] at hb
      simp [ex] at this
      omega
  | cons x a ih =>
    cases b with
    | nil =>
      have := h x.1
      simp only [okTail, Bool.and_eq_true, decide_eq_true_eq] at ha
      simp [ex] at this
      omega
    | cons y b =>
      simp only [okTail, Bool.and_eq_true, decide_eq_true_eq] at ha hb
      have h1 := h x.1
      have h2 := h y.1
      have e : x.1 = y.1 := by
        rcases Int.lt_trichotomy x.1 y.1 with g | g | g
        · rw [ex, if_pos rfl, ex, if_neg (by omega), ok_low hb.2 (by omega)] at h1
          omega
        · exact g
        · rw [ex, if_neg (by omega), ok_low ha.2 (by omega), ex, if_pos rfl] at h2
          omega
      have e2 : x.2 = y.2 := by
        rw [ex, if_pos rfl, ex, if_pos e.symm] at h1
        exact h1
      have : x = y := Prod.ext e e2
      subst this
      congr 1
      refine ih ha.2 hb.2 (fun v => ?_)
      have := h v
      rw [ex, ex] at this
      split at this
      · rename_i hv
        rw [ok_low ha.2 (by omega), ok_low hb.2 (by omega)]
      · exact this
theorem both_lko {last : Int} {a b : Mono} (ha : okTail last a = true) (hb : okTail last b = true) : ris last (both a b) ∧ (∀ u, lk (both a b) u = (ex a u, ex b u)) ∧ ∀ t ∈ both a b, 1 ≤ t.2.1 + t.2.2 := by
  generalize hn : a.length + b.length = n
  induction n using Nat.strongRecOn generalizing a b last with
  | ind n ih =>
  cases a with
  | nil =>
    cases b with
    | nil => rw [both_nil]; exact ⟨trivial, fun u => rfl, fun t ht => by simp at ht⟩
    | cons y b =>
      simp only [okTail, Bool.and_eq_true, decide_eq_true_eq] at hb
      simp only [List.length_cons, List.length_nil] at hn
      obtain ⟨h1, h2, h3⟩ := ih (0 + b.length) (by omega) (a := []) (b := b) (last := y.1) rfl hb.2 (by simp)
      rw [both_right]
      refine ⟨⟨hb.1.1, hb.1.2.1, h1⟩, fun u => ?_, fun t ht => ?_⟩
      · rw [lk, h2, ex]
        simp only [ex]
        split <;> rfl
      · rcases List.mem_cons.1 ht with rfl | ht
        · simp only; omega
        · exact h3 t ht
  | cons x a =>
    cases b with
    | nil =>
      simp only [okTail, Bool.and_eq_true, decide_eq_true_eq] at ha
      simp only [List.length_cons, List.length_nil] at hn
      obtain ⟨h1, h2, h3⟩ := ih (a.length + 0) (by omega) (a := a) (b := []) (last := x.1) ha.2 rfl (by simp)
      rw [both_left]
      refine ⟨⟨ha.1.1, ha.1.2.1, h1⟩, fun u => ?_, fun t ht => ?_⟩
      · rw [lk, h2]
        simp only [ex]
        split <;> rfl
      · rcases List.mem_cons.1 ht with rfl | ht
        · simp only; omega
        · exact h3 t ht
    | cons y b =>
      have hA := ha
      have hB := hb
      simp only [okTail, Bool.and_eq_true, decide_eq_true_eq] at ha hb
      simp only [List.length_cons] at hn
      rw [both_cons]
      split
      · rename_i hlt
        have hb' : okTail x.1 (y :: b) = true := by simp only [okTail, Bool.and_eq_true, decide_eq_true_eq]; exact ⟨⟨hlt, hb.1.2⟩, hb.2⟩
        obtain ⟨h1, h2, h3⟩ := ih (a.length + (b.length + 1)) (by omega) (a := a) (b := y :: b) (last := x.1) ha.2 hb' (by simp)
        refine ⟨⟨ha.1.1, ha.1.2.1, h1⟩, fun u => ?_, fun t ht => ?_⟩
        · rw [lk, h2]
          by_cases hu : x.1 = u
          · rw [if_pos hu, ← hu, ok_low hb' (Int.le_refl _), ex, if_pos rfl]
          · rw [if_neg hu]; conv => rhs; rw [ex, if_neg hu]
        · rcases List.mem_cons.1 ht with rfl | ht
          · simp only; omega
          · exact h3 t ht
      · split
        · rename_i hnlt hlt
          have ha' : okTail y.1 (x :: a) = true := by simp only [okTail, Bool.and_eq_true, decide_eq_true_eq]; exact ⟨⟨hlt, ha.1.2⟩, ha.2⟩
          obtain ⟨h1, h2, h3⟩ := ih (a.length + 1 + b.length) (by omega) (a := x :: a) (b := b) (last := y.1) ha' hb.2 (by simp)
          refine ⟨⟨hb.1.1, hb.1.2.1, h1⟩, fun u => ?_, fun t ht => ?_⟩
          · rw [lk, h2]
            by_cases hu : y.1 = u
            · rw [if_pos hu, ← hu, ok_low ha' (Int.le_refl _), ex, if_pos rfl]
            · rw [if_neg hu, show ex (y :: b) u = ex b u by rw [ex, if_neg hu]]
          · rcases List.mem_cons.1 ht with rfl | ht
            · simp only; omega
            · exact h3 t ht
        · rename_i h3 h4
          have hxy : x.1 = y.1 := by omega
          rw [← hxy] at hb
          obtain ⟨h1, h2, h5⟩ := ih (a.length + b.length) (by omega) (a := a) (b := b) (last := x.1) ha.2 hb.2 (by simp)
          refine ⟨⟨ha.1.1, ha.1.2.1, h1⟩, fun u => ?_, fun t ht => ?_⟩
          · rw [lk, h2]
            by_cases hu : x.1 = u
            · rw [if_pos hu, ex, if_pos hu, ex, if_pos (by omega)]
            · rw [if_neg hu, show ex (y :: b) u = ex b u by rw [ex, if_neg (by omega)], show ex (x :: a) u = ex a u by rw [ex, if_neg hu]]
          · rcases List.mem_cons.1 ht with rfl | ht
            · simp only; omega
            · exact h5 t ht
theorem times_ex' {a b : Mono} (ha : okM a = true) (hb : okM b = true) (u : Int) : ex (timesM a b) u = ex a u + ex b u := by
  obtain ⟨h1, h2, -⟩ := both_lko ha hb
  unfold timesM
  rw [madeM_ex (by simp) h1, h2]
  have h3 := ok_nonneg ha u
  have h4 := ok_nonneg hb u
  simp only
  split <;> omega
theorem made_ok {last : Int} {l : List (Int × Int × Int)} (h : ris last l) : okTail last (madeM (· + ·) l) = true := by
  have weak : ∀ {l k : Int} {m : Mono}, okTail l m = true → k ≤ l → okTail k m = true := by
    intro l k m h hk
    cases m with
    | nil => rfl
    | cons x r =>
      simp only [okTail, Bool.and_eq_true, decide_eq_true_eq] at h ⊢
      exact ⟨by omega, h.2⟩
  induction l generalizing last with
  | nil => rfl
  | cons t r ih =>
    obtain ⟨h1, h2, h3⟩ := h
    have hr := ih h3
    rw [madeM]
    split
    · rename_i h4
      simp only [okTail, Bool.and_eq_true, decide_eq_true_eq]
      exact ⟨by omega, hr⟩
    · exact weak hr (by omega)
theorem times_ok {a b : Mono} (ha : okM a = true) (hb : okM b = true) : okM (timesM a b) = true := made_ok (both_lko ha hb).1
theorem times_one_left {a : Mono} (ha : okM a = true) : timesM [] a = a := ok_ext (times_ok rfl ha) ha (fun v => by rw [times_ex' rfl ha]; simp [ex])
theorem times_one_right {a : Mono} (ha : okM a = true) : timesM a [] = a := ok_ext (times_ok ha rfl) ha (fun v => by rw [times_ex' ha rfl]; simp [ex])
/-! Linear functionals -/
/-! Products -/
def mulL (p q : PZ) : PZ := p.flatMap fun t => q.map fun u => (t.1 * u.1, timesM t.2 u.2)
/-! The canonical list of any -/
theorem norm_can {p : PZ} (h : mayAll p) : canP (normP p) := (addP_can canP_nil h).1
theorem norm_cf {p : PZ} (h : mayAll p) (m : Mono) : cf (normP p) m = cf p m := by
  have := (addP_can canP_nil h).2 m
  rw [show cf [] m = 0 from rfl, Int.zero_add] at this
  exact this
theorem flatMap_same {α β : Type} {f g : α → List β} {l : List α} (h : ∀ x ∈ l, f x = g x) : l.flatMap f = l.flatMap g := by
  induction l with
  | nil => rfl
  | cons x r ih => rw [List.flatMap_cons, List.flatMap_cons, h x (by simp), ih (fun y hy => h y (by simp [hy]))]
/-- the program's product is the list's -/
theorem prodL_some {p q : PZ} (hp : mayAll p) (hq : mayAll q) (h : mayAll (mulL p q)) : prodL p q = (mulL p q).map some := by
  unfold prodL mulL
  rw [List.map_flatMap]
  refine flatMap_same (fun t ht => ?_)
  rw [List.map_map]
  refine List.map_congr_left (fun u hu => ?_)
  exact pair_yes (hp t ht) (hq u hu) (h _ (List.mem_flatMap.2 ⟨t, ht, List.mem_map.2 ⟨u, hu, rfl⟩⟩))
theorem times_norm {p q : PZ} (hp : mayAll p) (hq : mayAll q) (h : mayAll (mulL p q)) : timesP p q = some (normP (mulL p q)) := by
  unfold timesP
  rw [prodL_some hp hq h, allO_some]
  rfl
theorem times_some {p q c : PZ} (hp : mayAll p) (hq : mayAll q) (h : timesP p q = some c) : mayAll (mulL p q) ∧ c = normP (mulL p q) := by
  have hm : mayAll (mulL p q) := fun x hx => by
    obtain ⟨t, ht, h2⟩ := List.mem_flatMap.1 hx
    obtain ⟨u, hu, rfl⟩ := List.mem_map.1 h2
    cases hm : mayM (timesM t.2 u.2) with
    | true => rfl
    | false =>
      exfalso
      have h3 : (none : Option (Int × Mono)) ∈ prodL p q := List.mem_flatMap.2 ⟨t, ht, List.mem_map.2 ⟨u, hu, pair_no (hp t ht) (hq u hu) hm⟩⟩
      obtain ⟨l, r, e⟩ := List.append_of_mem h3
      unfold timesP at h
      rw [e, allO_none] at h
      cases h
  refine ⟨hm, ?_⟩
  rw [times_norm hp hq hm] at h
  exact (Option.some.inj h).symm
end Go.Proofs.YtbhdgdmelepnhaaGreat

namespace Go.Proofs.YtbhdgdmelepnhaaGreat

theorem norm_mem {p : PZ} (h : mayAll p) {t : Int × Mono} (ht : t ∈ normP p) : ∃ u ∈ p, u.2 = t.2 := by
  have h1 := (norm_can h).cf_mem ht
  rw [norm_cf h] at h1
  have h2 := ((norm_can h).1 t ht).1
  exact canP.mem_of_cf (by rw [h1]; exact h2)
theorem mulL_mem {p q : PZ} {x : Int × Mono} (h : x ∈ mulL p q) : ∃ t ∈ p, ∃ u ∈ q, x = (t.1 * u.1, timesM t.2 u.2) := by
  obtain ⟨t, ht, h2⟩ := List.mem_flatMap.1 h
  obtain ⟨u, hu, rfl⟩ := List.mem_map.1 h2
  exact ⟨t, ht, u, hu, rfl⟩
section
variable {P Q C : PZ}
/-- exponents of a part are not greater -/
def below (p q : PZ) : Prop := ∀ t ∈ p, ∃ u ∈ q, ∀ v, ex t.2 v ≤ ex u.2 v
end
end Go.Proofs.YtbhdgdmelepnhaaGreat

namespace Go.Proofs.YtbhdgdmelepnhaaGreat

theorem take_eq_succ {α : Type} {xs ys : List α} {k : Nat} {x : α} (h : xs.take k = ys.take k) (hx : xs[k]? = some x) (hy : ys[k]? = some x) : xs.take (k + 1) = ys.take (k + 1) := by
  rw [List.take_add_one, List.take_add_one, h, hx, hy]
theorem ne_of_at {α : Type} {xs ys : List α} {k : Nat} {x y : α} (hx : xs[k]? = some x) (hy : ys[k]? = some y) (h : x ≠ y) : xs ≠ ys := by
  rintro rfl
  rw [hx] at hy
  exact h (Option.some.inj hy)
end Go.Proofs.YtbhdgdmelepnhaaGreat

namespace Go.Proofs.YtbhdgdmelepnhaaGreat
open Go.RowKit

set_option maxRecDepth 100000 in
set_option maxHeartbeats 1000000 in
theorem equal_u32 {S : Nat → Prop} (va vb : Value) (xs ys : List Nat) (w : World) (ha : U32s S w va xs) (hb : U32s S w vb ys) (hS : ∀ k, S k → k < w.heap.size) :
    Calls Tryz.prog 60 #[va, vb] w fun e w' => e = .returned (.bool (decide (xs = ys))) ∧ Ext w w' := by
  have HA := hid ha
  have HB := hid hb
  have hla := ha.len_le
  have hlb := hb.len_le
  obtain ⟨aa, ca, rfl⟩ := ha.form
  obtain ⟨ab, cb, rfl⟩ := hb.form
  obtain ⟨na, hna⟩ : ∃ n, n = xs.length := ⟨_, rfl⟩
  obtain ⟨nb, hnb⟩ : ∃ n, n = ys.length := ⟨_, rfl⟩
  rw [← hna] at HA hla ⊢
  rw [← hnb] at HB hlb ⊢
  have HNA := hid hna
  have HNB := hid hnb
  clear ha hb hna hnb
  by_cases hne : na = nb
  · subst hne
    go_enter Tryz.func60, Tryz.ntmps60
    go_wp2
    go_loopw [5, 13] (fun _ i wr => ∃ k : Nat, k ≤ na ∧ i = .int .i64 k ∧ Ext w wr ∧ Hid (xs.take k = ys.take k)) (fun _ i _ => na - (intOf i).toNat)
    case atStart => exact ⟨0, Nat.zero_le _, rfl, Ext.refl _, rfl⟩
    case round =>
      obtain ⟨k, hk, rfl, hx, HE⟩ := hrel
      have HX := hid hx
      by_cases hlt : k < na
      · obtain ⟨x, hxk⟩ := some_of_lt (l := xs) (j := k) (by rw [← HNA.out]; exact hlt)
        obtain ⟨y, hyk⟩ := some_of_lt (l := ys) (j := k) (by rw [← HNB.out]; exact hlt)
        obtain ⟨b1, o1, rfl, -, hc1, hm1, hz1, h1⟩ := (HA.out.ext hx hS).cellAt hxk
        obtain ⟨b2, o2, rfl, -, hc2, hm2, hz2, h2⟩ := (HB.out.ext hx hS).cellAt hyk
        have HXK := hid hxk
        have HYK := hid hyk
        clear hxk hyk hx
        by_cases he : x = y
        · have q1 : ((x : Int) != (y : Int)) = false := by rw [he]; simp
          have H0 := hid he
          clear he
          go_wp2
          go_quiet (fail)
          go_wp2
          go_roundw
          case rel => exact ⟨k + 1, by omega, by go_num, HX.out.drewN _, take_eq_succ HE.out HXK.out (by rw [H0.out]; exact HYK.out)⟩
          case measure => simp only [intOf]; omega
        · have q1 : ((x : Int) != (y : Int)) = true := by rw [bne_iff_ne]; omega
          have HF : Hid (xs ≠ ys) := hid (ne_of_at HXK.out HYK.out he)
          clear he
          go_wp2
          go_quiet (fail)
          go_wp2
          go_ret
          exact ⟨by rw [decide_eq_false HF.out]; rfl, HX.out.drewN _⟩
      · obtain rfl : k = na := by omega
        have HF : Hid (xs = ys) := hid (by have := HE.out; rwa [List.take_of_length_le (by rw [← HNA.out]; exact Nat.le_refl _), List.take_of_length_le (by rw [← HNB.out]; exact Nat.le_refl _)] at this)
        clear hx
        go_wp2
        go_ret
        exact ⟨by rw [decide_eq_true HF.out]; rfl, HX.out⟩
  · have hb : ((na : Int) != (nb : Int)) = true := by rw [bne_iff_ne]; omega
    have HF : Hid (xs ≠ ys) := hid (fun e => hne (by rw [HNA.out, HNB.out, e]))
    clear hne
    go_enter Tryz.func60, Tryz.ntmps60
    go_wp2
    go_ret
    exact ⟨by rw [decide_eq_false HF.out]; rfl, Ext.refl _⟩
set_option maxRecDepth 100000 in
set_option maxHeartbeats 1000000 in
theorem equal_mono {S : Nat → Prop} (va vb : Value) (xs ys : Mono) (w : World) (ha : Pows S w va xs) (hb : Pows S w vb ys) (hS : ∀ k, S k → k < w.heap.size) :
    Calls Tryz.prog 61 #[va, vb] w fun e w' => e = .returned (.bool (decide (xs = ys))) ∧ Ext w w' := by
  have HA := hid ha
  have HB := hid hb
  have hla := ha.len_le
  have hlb := hb.len_le
  obtain ⟨aa, ca, rfl⟩ := ha.form
  obtain ⟨ab, cb, rfl⟩ := hb.form
  obtain ⟨na, hna⟩ : ∃ n, n = xs.length := ⟨_, rfl⟩
  obtain ⟨nb, hnb⟩ : ∃ n, n = ys.length := ⟨_, rfl⟩
  rw [← hna] at HA hla ⊢
  rw [← hnb] at HB hlb ⊢
  have HNA := hid hna
  have HNB := hid hnb
  clear ha hb hna hnb
  by_cases hne : na = nb
  · subst hne
    go_enter Tryz.func61, Tryz.ntmps61
    go_wp2
    go_loopw [5, 13] (fun _ i wr => ∃ k : Nat, k ≤ na ∧ i = .int .i64 k ∧ Ext w wr ∧ Hid (xs.take k = ys.take k)) (fun _ i _ => na - (intOf i).toNat)
    case atStart => exact ⟨0, Nat.zero_le _, rfl, Ext.refl _, rfl⟩
    case round =>
      obtain ⟨k, hk, rfl, hx, HE⟩ := hrel
      have HX := hid hx
      by_cases hlt : k < na
      · obtain ⟨x, hxk⟩ := some_of_lt (l := xs) (j := k) (by rw [← HNA.out]; exact hlt)
        obtain ⟨y, hyk⟩ := some_of_lt (l := ys) (j := k) (by rw [← HNB.out]; exact hlt)
        obtain ⟨b1, o1, c1', hv1, hc1, hm1, ⟨⟨hz1, hz2⟩, hz3, hz4⟩, h1, h1'⟩ := (HA.out.ext hx hS).at hxk
        obtain ⟨rfl, -, rfl⟩ : aa = some ⟨b1, o1, none⟩ ∧ na = xs.length ∧ ca = c1' := by simpa using hv1
        obtain ⟨b2, o2, c2', hv2, hc2, hm2, ⟨⟨hy1, hy2⟩, hy3, hy4⟩, h2, h2'⟩ := (HB.out.ext hx hS).at hyk
        obtain ⟨rfl, -, rfl⟩ : ab = some ⟨b2, o2, none⟩ ∧ na = ys.length ∧ cb = c2' := by simpa using hv2
        clear hv1 hv2
        rw [← HNA.out] at hc1
        rw [← HNB.out] at hc2
        have HXK := hid hxk
        have HYK := hid hyk
        clear hxk hyk hx
        by_cases he : x = y
        · have H0 := hid he
          obtain ⟨x1, x2⟩ := x
          obtain ⟨y1, y2⟩ := y
          obtain ⟨rfl, rfl⟩ : x1 = y1 ∧ x2 = y2 := by simpa using he
          simp only at h1 h1' h2 h2' hz1 hz2 hz3 hz4 hy1 hy2 hy3 hy4
          clear he
          go_wp2
          go_quiet (fail)
          go_wp2
          go_roundw
          case rel => exact ⟨k + 1, by omega, by go_num, HX.out.drewN _, take_eq_succ HE.out HXK.out HYK.out⟩
          case measure => simp only [intOf]; omega
        · have HF : Hid (xs ≠ ys) := hid (ne_of_at HXK.out HYK.out he)
          obtain ⟨x1, x2⟩ := x
          obtain ⟨y1, y2⟩ := y
          simp only at h1 h1' h2 h2' hz1 hz2 hz3 hz4 hy1 hy2 hy3 hy4
          have he' : x1 ≠ y1 ∨ (x1 = y1 ∧ x2 ≠ y2) := by
            by_cases h : x1 = y1
            · exact .inr ⟨h, fun h' => he (by rw [h, h'])⟩
            · exact .inl h
          clear he
          rcases he' with he | ⟨rfl, he⟩
          all_goals
            go_wp2
            go_quiet (fail)
            go_wp2
            go_ret
            exact ⟨by rw [decide_eq_false HF.out]; rfl, HX.out.drewN _⟩
      · obtain rfl : k = na := by omega
        have HF : Hid (xs = ys) := hid (by have := HE.out; rwa [List.take_of_length_le (by rw [← HNA.out]; exact Nat.le_refl _), List.take_of_length_le (by rw [← HNB.out]; exact Nat.le_refl _)] at this)
        clear hx
        go_wp2
        go_ret
        exact ⟨by rw [decide_eq_true HF.out]; rfl, HX.out⟩
  · have hb : ((na : Int) != (nb : Int)) = true := by rw [bne_iff_ne]; omega
    have HF : Hid (xs ≠ ys) := hid (fun e => hne (by rw [HNA.out, HNB.out, e]))
    clear hne
    go_enter Tryz.func61, Tryz.ntmps61
    go_wp2
    go_ret
    exact ⟨by rw [decide_eq_false HF.out]; rfl, Ext.refl _⟩

theorem TermV.of_cells {S : Nat → Prop} {w : World} {vm vo : Value} {t : RTerm} (h4 : U32s S w vm t.c.mag) (h5 : Pows S w vo t.m) : TermV S w (.agg #[.bool t.c.neg, vm, vo]) t := ⟨vm, vo, rfl, h4, h5⟩
theorem new3 {w W : World} {u v x : Value} {T : TypeId} (h : Ext (w.alloc (.cells #[u, v, x] T)) W) :
    W.cell? ⟨w.heap.size, 0, none⟩ = some u ∧ W.cell? ⟨w.heap.size, 1, none⟩ = some v ∧ W.cell? ⟨w.heap.size, 2, none⟩ = some x :=
  ⟨h.new_cell rfl, h.new_cell rfl, h.new_cell rfl⟩

set_option maxRecDepth 100000 in
set_option maxHeartbeats 2000000 in
theorem same_term {S : Nat → Prop} (va vb : Value) (s t : RTerm) (w : World) (ha : TermV S w va s) (hb : TermV S w vb t) (hS : ∀ k, S k → k < w.heap.size) :
    Calls Tryz.prog 59 #[va, vb] w fun e w' => e = .returned (.bool (decide (s = t))) ∧ Ext w w' := by
  obtain ⟨⟨sn, sm⟩, so⟩ := s
  obtain ⟨⟨tn, tm⟩, tq⟩ := t
  obtain ⟨v1, v2, rfl, hu1, hp1⟩ := ha
  obtain ⟨v3, v4, rfl, hu2, hp2⟩ := hb
  simp only at hu1 hp1 hu2 hp2 ⊢
  have CU := fun (W : World) (hW : Ext w W) => equal_u32 _ _ sm tm W (hu1.ext hW hS) (hu2.ext hW hS) (lt_ext hS hW)
  have CP := fun (W : World) (hW : Ext w W) => equal_mono _ _ so tq W (hp1.ext hW hS) (hp2.ext hW hS) (lt_ext hS hW)
  obtain ⟨a1, c1, rfl⟩ := hu1.form
  obtain ⟨a2, c2, rfl⟩ := hp1.form
  obtain ⟨a3, c3, rfl⟩ := hu2.form
  obtain ⟨a4, c4, rfl⟩ := hp2.form
  have HCU := hid CU
  have HCP := hid CP
  have hx : Ext w ((w.alloc (.cells #[.bool sn, .slice a1 sm.length c1, .slice a2 so.length c2] 49)).alloc (.cells #[.bool tn, .slice a3 tm.length c3, .slice a4 tq.length c4] 49)) := Ext.alloc (Ext.alloc (Ext.refl w) _) _
  have HX := hid hx
  have HM : Hid (∀ W, Ext ((w.alloc (.cells #[.bool sn, .slice a1 sm.length c1, .slice a2 so.length c2] 49)).alloc (.cells #[.bool tn, .slice a3 tm.length c3, .slice a4 tq.length c4] 49)) W →
      (W.cell? ⟨w.heap.size, 0, none⟩ = some (.bool sn) ∧ W.cell? ⟨w.heap.size, 1, none⟩ = some (.slice a1 sm.length c1) ∧ W.cell? ⟨w.heap.size, 2, none⟩ = some (.slice a2 so.length c2)) ∧
      (W.cell? ⟨w.heap.size + 1, 0, none⟩ = some (.bool tn) ∧ W.cell? ⟨w.heap.size + 1, 1, none⟩ = some (.slice a3 tm.length c3) ∧ W.cell? ⟨w.heap.size + 1, 2, none⟩ = some (.slice a4 tq.length c4))) := hid (fun W hW => by
    have k2 := new3 hW
    rw [size_alloc] at k2
    exact ⟨new3 ((Ext.alloc (Ext.refl _) _).trans hW), k2⟩)
  have HD : Hid ((decide ((⟨⟨sn, sm⟩, so⟩ : RTerm) = ⟨⟨tn, tm⟩, tq⟩)) = (decide (sn = tn) && (decide (sm = tm) && decide (so = tq)))) := hid (by
    rw [Bool.eq_iff_iff]
    simp [and_assoc])
  clear CU CP hu1 hp1 hu2 hp2 hx
  obtain ⟨m0, m1, m2⟩ := HM.out _ (Ext.refl _)
  by_cases h1 : sn = tn
  · subst h1
    cases hm : decide (sm = tm) with
    | false =>
      simp only [hm] at HCU
      have HF := hid hm
      clear hm
      go_enter Tryz.func59, Tryz.ntmps59
      go_wp2_with fail
      with_reducible refine (HCU.out _ HX.out).mono ?_
      rintro e w1 ⟨rfl, hx1⟩
      have HX1 := hid (HX.out.trans hx1)
      clear hx1
      go_wp2
      all_goals
        go_ret
        exact ⟨by rw [HD.out, HF.out]; simp, HX1.out⟩
    | true =>
      simp only [hm] at HCU
      have HF := hid hm
      clear hm
      go_enter Tryz.func59, Tryz.ntmps59
      go_wp2_with fail
      with_reducible refine (HCU.out _ HX.out).mono ?_
      rintro e w1 ⟨rfl, hx1⟩
      have HX1 := hid (HX.out.trans hx1)
      obtain ⟨⟨k0, k1, k2⟩, k3, k4, k5⟩ := HM.out _ hx1
      clear hx1
      go_wp2_with fail
      with_reducible refine (HCP.out _ HX1.out).mono ?_
      rintro e w2 ⟨rfl, hx2⟩
      have HX2 := hid (HX1.out.trans hx2)
      clear hx2
      go_wp2
      all_goals
        go_ret
        exact ⟨by rw [HD.out, HF.out]; simp, HX2.out⟩
  · have hb : (sn == tn) = false := by rw [beq_eq_false_iff_ne]; exact h1
    have HF := hid (decide_eq_false h1)
    clear h1
    go_enter Tryz.func59, Tryz.ntmps59
    go_wp2
    all_goals
      go_ret
      exact ⟨by rw [HD.out, HF.out]; simp, HX.out⟩

set_option maxRecDepth 100000 in
set_option maxHeartbeats 2000000 in
theorem equal_terms {S : Nat → Prop} (va vb : Value) (xs ys : List RTerm) (w : World) (ha : Terms S w va xs) (hb : Terms S w vb ys) (hS : ∀ k, S k → k < w.heap.size) :
    Calls Tryz.prog 58 #[va, vb, .func (.func 59) #[] #[]] w fun e w' => e = .returned (.bool (decide (xs = ys))) ∧ Ext w w' := by
  have hnot : ∀ (x : Bool) (w : World), (Op.unary .not (.bool x)).run Tryz.prog w = .ok (.bool (!x)) w := fun _ _ => rfl
  have HA := hid ha
  have HB := hid hb
  have hla := ha.len_le
  have hlb := hb.len_le
  obtain ⟨aa, ca, rfl⟩ := ha.form
  obtain ⟨ab, cb, rfl⟩ := hb.form
  obtain ⟨na, hna⟩ : ∃ n, n = xs.length := ⟨_, rfl⟩
  obtain ⟨nb, hnb⟩ : ∃ n, n = ys.length := ⟨_, rfl⟩
  rw [← hna] at HA hla ⊢
  rw [← hnb] at HB hlb ⊢
  have HNA := hid hna
  have HNB := hid hnb
  clear ha hb hna hnb
  by_cases hne : na = nb
  · subst hne
    go_enter Tryz.func58, Tryz.ntmps58
    go_wp2
    go_loopw [7, 8, 9, 17] (fun _ _ _ i wr => ∃ k : Nat, k ≤ na ∧ i = .int .i64 k ∧ Ext w wr ∧ Hid (xs.take k = ys.take k)) (fun _ _ _ i _ => na - (intOf i).toNat)
    case atStart => exact ⟨0, Nat.zero_le _, rfl, Ext.refl _, rfl⟩
    case round =>
      obtain ⟨k, hk, rfl, hx, HE⟩ := hrel
      have HX := hid hx
      by_cases hlt : k < na
      · obtain ⟨x, hxk⟩ := some_of_lt (l := xs) (j := k) (by rw [← HNA.out]; exact hlt)
        obtain ⟨y, hyk⟩ := some_of_lt (l := ys) (j := k) (by rw [← HNB.out]; exact hlt)
        obtain ⟨b1, o1, v1, v2, rfl, -, hc1, hm1, hz1, h1, h2, h3, h4, h5⟩ := (HA.out.ext hx hS).cellAt hxk
        obtain ⟨b2, o2, v3, v4, rfl, -, hc2, hm2, hz2, g1, g2, g3, g4, g5⟩ := (HB.out.ext hx hS).cellAt hyk
        have HXK := hid hxk
        have HYK := hid hyk
        have HC := hid (fun W (hW : Ext wr W) => same_term (S := S) _ _ x y W (TermV.of_cells (h4.ext hW (lt_ext hS hx)) (h5.ext hW (lt_ext hS hx))) (TermV.of_cells (g4.ext hW (lt_ext hS hx)) (g5.ext hW (lt_ext hS hx))) (lt_ext hS (hx.trans hW)))
        obtain ⟨a1, c1, rfl⟩ := h4.form
        obtain ⟨a2, c2, rfl⟩ := h5.form
        obtain ⟨a3, c3, rfl⟩ := g4.form
        obtain ⟨a4, c4, rfl⟩ := g5.form
        have HX2 := hid (Ext.alloc (Ext.alloc (Ext.refl wr) (.cells #[.bool x.c.neg, .slice a1 x.c.mag.length c1, .slice a2 x.m.length c2] 49)) (.cells #[.bool y.c.neg, .slice a3 y.c.mag.length c3, .slice a4 y.m.length c4] 49))
        have n1 := new3 (w := wr) (u := .bool x.c.neg) (v := .slice a1 x.c.mag.length c1) (x := .slice a2 x.m.length c2) (T := 49) (Ext.refl _)
        have m1' := (Ext.alloc (Ext.refl wr) (.cells #[.bool x.c.neg, .slice a1 x.c.mag.length c1, .slice a2 x.m.length c2] 49)).cell g1
        have m2' := (Ext.alloc (Ext.refl wr) (.cells #[.bool x.c.neg, .slice a1 x.c.mag.length c1, .slice a2 x.m.length c2] 49)).cell g2
        have m3' := (Ext.alloc (Ext.refl wr) (.cells #[.bool x.c.neg, .slice a1 x.c.mag.length c1, .slice a2 x.m.length c2] 49)).cell g3
        clear h4 h5 g4 g5 hxk hyk hx n1
        by_cases he : x = y
        · have H0 := hid he
          have hd : decide (x = y) = true := decide_eq_true he
          have HCT := HC
          simp only [hd] at HCT
          have HCC := hid HCT.out
          clear he hd HCT
          go_wp2_with fail
          with_reducible refine (HCC.out _ HX2.out).mono ?_
          rintro e w2 ⟨rfl, hx2⟩
          have HX3 := hid (HX.out.trans (HX2.out.trans hx2))
          clear hx2
          go_wp2
          go_roundw
          case rel => exact ⟨k + 1, by omega, by go_num, HX3.out, take_eq_succ HE.out HXK.out (by rw [H0.out]; exact HYK.out)⟩
          case measure => simp only [intOf]; omega
        · have HF : Hid (xs ≠ ys) := hid (ne_of_at HXK.out HYK.out he)
          have hd : decide (x = y) = false := decide_eq_false he
          have HCT := HC
          simp only [hd] at HCT
          have HCC := hid HCT.out
          clear he hd HCT
          go_wp2_with fail
          with_reducible refine (HCC.out _ HX2.out).mono ?_
          rintro e w2 ⟨rfl, hx2⟩
          have HX3 := hid (HX.out.trans (HX2.out.trans hx2))
          clear hx2
          go_wp2
          go_ret
          exact ⟨by rw [decide_eq_false HF.out]; rfl, HX3.out⟩
      · obtain rfl : k = na := by omega
        have HF : Hid (xs = ys) := hid (by have := HE.out; rwa [List.take_of_length_le (by rw [← HNA.out]; exact Nat.le_refl _), List.take_of_length_le (by rw [← HNB.out]; exact Nat.le_refl _)] at this)
        clear hx
        go_wp2
        go_ret
        exact ⟨by rw [decide_eq_true HF.out]; rfl, HX.out⟩
  · have hb : ((na : Int) != (nb : Int)) = true := by rw [bne_iff_ne]; omega
    have HF : Hid (xs ≠ ys) := hid (fun e => hne (by rw [HNA.out, HNB.out, e]))
    clear hne
    go_enter Tryz.func58, Tryz.ntmps58
    go_wp2
    go_ret
    exact ⟨by rw [decide_eq_false HF.out]; rfl, Ext.refl _⟩

set_option maxRecDepth 100000 in
theorem poly_same {S : Nat → Prop} (va vb : Value) (xs ys : List RTerm) (w : World) (ha : Terms S w va xs) (hb : Terms S w vb ys) (hS : ∀ k, S k → k < w.heap.size) :
    Calls Tryz.prog 23 #[va, vb] w fun e w' => e = .returned (.bool (decide (xs = ys))) ∧ Ext w w' := by
  have C := hid (equal_terms va vb xs ys w ha hb hS)
  obtain ⟨aa, ca, rfl⟩ := ha.form
  obtain ⟨ab, cb, rfl⟩ := hb.form
  generalize decide (xs = ys) = b at *
  clear ha hb
  go_enter Tryz.func23, Tryz.ntmps23
  go_wp2_with fail
  with_reducible refine C.out.mono ?_
  rintro e w2 ⟨rfl, hx2⟩
  have HX := hid hx2
  clear hx2
  go_wp2
  go_ret
  exact ⟨rfl, HX.out⟩
end Go.Proofs.YtbhdgdmelepnhaaGreat

namespace Go.Proofs.YtbhdgdmelepnhaaGreat
open Go.RowKit

end Go.Proofs.YtbhdgdmelepnhaaGreat

namespace Go.Proofs.YtbhdgdmelepnhaaGreat
open Go.RowKit

end Go.Proofs.YtbhdgdmelepnhaaGreat

namespace Go.Proofs.YtbhdgdmelepnhaaGreat
open Go.RowKit

/-- limits, counts, the first refusal -/
structure MSt where
  fu : Int
  li : Int
  te : Int
  pi : Int
  st : Int
  pc : Int
  wh : Int
  nn : Int
  deriving DecidableEq, Inhabited

def MSt.done (s : MSt) : Int := if s.wh = 0 then 0 else 1

def MSt.refuse (s : MSt) (e n : Int) : MSt := if s.wh = 0 then { s with wh := e, nn := n } else s

end Go.Proofs.YtbhdgdmelepnhaaGreat

namespace Go.Proofs.YtbhdgdmelepnhaaGreat
open Go.RowKit

end Go.Proofs.YtbhdgdmelepnhaaGreat

namespace Go.Proofs.YtbhdgdmelepnhaaGreat
open Go.RowKit

/-- Step -/
def MSt.step (s : MSt) : Int × MSt := if s.st < s.fu then (0, { s with st := s.st + 1 }) else (9, s.refuse 9 (s.fu + 1))

end Go.Proofs.YtbhdgdmelepnhaaGreat

namespace Go.Proofs.YtbhdgdmelepnhaaGreat
open Go.RowKit

/-- Keep, of n limbs and so many terms -/
def MSt.keep (s : MSt) (n len : Nat) : Int × MSt := if s.li < n then (10, s.refuse 10 n) else if s.te < len then (11, s.refuse 11 len) else (0, s)

/-- a new meter's state -/
def MSt.new (a b c d : Int) : MSt := ⟨a, b, c, d, 0, 0, 0, 0⟩
end Go.Proofs.YtbhdgdmelepnhaaGreat

namespace Go.Proofs.YtbhdgdmelepnhaaGreat
open Go.RowKit

end Go.Proofs.YtbhdgdmelepnhaaGreat

namespace Go.Proofs.YtbhdgdmelepnhaaGreat
open Go.RowKit

end Go.Proofs.YtbhdgdmelepnhaaGreat

namespace Go.Proofs.YtbhdgdmelepnhaaGreat

/-- the guess by the highest limbs is not too small -/
theorem guess_up {P U3 Ul V2 Vl q : Nat} (hUl : Ul < P) (h : U3 < (q + 1) * V2) : U3 * P + Ul < (q + 1) * (V2 * P + Vl) := by
  have h1 : (U3 + 1) * P ≤ (q + 1) * V2 * P := Nat.mul_le_mul_right P h
  rw [Nat.add_mul U3 1 P, Nat.one_mul] at h1
  rw [Nat.mul_add, ← Nat.mul_assoc]
  omega
/-- and at most one too great -/
theorem guess_low {B P U3 Ul V2 Vl q : Nat} (hVl : Vl < P) (hq : q * V2 ≤ U3) (hqB : q ≤ B) (hV2 : B ≤ V2) : q * (V2 * P + Vl) ≤ (U3 * P + Ul) + (V2 * P + Vl) := by
  cases q with
  | zero => rw [Nat.zero_mul]; exact Nat.zero_le _
  | succ p =>
    have h1 : (p + 1) * V2 * P ≤ U3 * P := Nat.mul_le_mul_right P hq
    have h2 : p * Vl ≤ V2 * P := Nat.mul_le_mul (by omega) (Nat.le_of_lt hVl)
    rw [Nat.mul_add, ← Nat.mul_assoc, Nat.add_mul p 1 Vl, Nat.one_mul]
    omega
/-- what the guess's loop keeps: q is not too small for the highest limbs -/
def GuessOk (B top u2 v1 v2 q : Nat) : Prop := B ≤ q + 1 ∨ top * B + u2 < (q + 1) * (v1 * B + v2)
theorem guess_start {B top u2 v1 v2 : Nat} (hu2 : u2 < B) (hv1 : 0 < v1) : GuessOk B top u2 v1 v2 (top / v1) := by
  refine .inr ?_
  have h1 : top < (top / v1 + 1) * v1 := by
    have h := Nat.div_add_mod top v1
    have h2 := Nat.mod_lt top hv1
    rw [Nat.add_mul, Nat.one_mul, Nat.mul_comm]
    omega
  have h3 : (top + 1) * B ≤ (top / v1 + 1) * v1 * B := Nat.mul_le_mul_right B h1
  rw [Nat.add_mul top 1 B, Nat.one_mul] at h3
  rw [Nat.mul_add, ← Nat.mul_assoc]
  omega
theorem guess_next {B top u2 v1 v2 q r : Nat} (ht : r + q * v1 = top) (hq : 0 < q) (hc : B ≤ q ∨ r * B + u2 < q * v2) : GuessOk B top u2 v1 v2 (q - 1) := by
  have e : q - 1 + 1 = q := by omega
  unfold GuessOk
  rw [e]
  rcases hc with h | h
  · exact .inl h
  · refine .inr ?_
    rw [← ht, Nat.add_mul, Nat.mul_add, ← Nat.mul_assoc]
    omega
theorem guess_done {B top u2 v1 v2 q r : Nat} (ht : r + q * v1 = top) (hc : r * B + u2 ≥ q * v2) : q * (v1 * B + v2) ≤ top * B + u2 := by
  rw [← ht, Nat.add_mul, Nat.mul_add, ← Nat.mul_assoc]
  omega

theorem guess_dec {v1 q r top : Nat} (ht : r + q * v1 = top) (hq : 0 < q) : r + v1 + (q - 1) * v1 = top := by
  obtain ⟨p, rfl⟩ : ∃ p, q = p + 1 := ⟨q - 1, by omega⟩
  rw [Nat.add_mul, Nat.one_mul] at ht
  rw [Nat.add_sub_cancel]
  omega
theorem guess_break {B top u0 u1 u2 v1 v2 q r : Nat} (ht : r + q * v1 = top) (htop : top = u0 * B + u1) (hle : u0 ≤ v1) (hu1 : u1 < B) (hv2 : v2 < B) (hr : B ≤ r) : q < B ∧ q * v2 ≤ r * B + u2 := by
  have hq : q < B := by
    rcases Nat.lt_or_ge q B with h | h
    · exact h
    · have h1 : B * v1 ≤ q * v1 := Nat.mul_le_mul_right v1 h
      have h2 : u0 * B ≤ v1 * B := Nat.mul_le_mul_right B hle
      rw [Nat.mul_comm B v1] at h1
      omega
  refine ⟨hq, ?_⟩
  have h1 : q * v2 ≤ B * B := Nat.mul_le_mul (by omega) (by omega)
  have h2 : B * B ≤ r * B := Nat.mul_le_mul_right B hr
  omega

/-- one limb of the quotient: what is taken off, and given back if it was too much -/
theorem digit_ok {U V q o b M : Nat} (ho : o < M) (hb : b ≤ 1) (h : o + q * V = U + M * b) (hup : U < (q + 1) * V) (hlow : q * V ≤ U + V) (_hU : U < M) (hV : V ≤ M) :
    (b = 0 → q = U / V ∧ o = U % V) ∧ (b = 1 → 0 < q ∧ q - 1 = U / V ∧ (o + V) % M = U % V) := by
  have hV0 : 0 < V := by
    rcases Nat.eq_zero_or_pos V with h0 | h0
    · rw [h0, Nat.mul_zero] at hup; omega
    · exact h0
  rw [Nat.add_mul, Nat.one_mul] at hup
  refine ⟨fun h0 => ?_, fun h1 => ?_⟩
  · subst h0
    have e : U = V * q + o := by rw [Nat.mul_comm V q]; omega
    have hlt : o < V := by omega
    refine ⟨?_, ?_⟩
    · rw [e, Nat.mul_add_div hV0, Nat.div_eq_of_lt hlt]; omega
    · rw [e, Nat.mul_add_mod, Nat.mod_eq_of_lt hlt]
  · subst h1
    rw [Nat.mul_one] at h
    have hq : 0 < q := by
      rcases Nat.eq_zero_or_pos q with h0 | h0
      · rw [h0, Nat.zero_mul] at h; omega
      · exact h0
    obtain ⟨p, rfl⟩ : ∃ p, q = p + 1 := ⟨q - 1, by omega⟩
    rw [Nat.add_mul, Nat.one_mul] at h hup hlow
    have e : U = V * p + (o + V - M) := by rw [Nat.mul_comm V p]; omega
    have hlt : o + V - M < V := by omega
    have hge : M ≤ o + V := by omega
    refine ⟨hq, ?_, ?_⟩
    · rw [e, Nat.mul_add_div hV0, Nat.div_eq_of_lt hlt]; omega
    · rw [Nat.mod_eq_sub_mod hge, Nat.mod_eq_of_lt (by omega)]
      conv => rhs; rw [e, Nat.mul_add_mod, Nat.mod_eq_of_lt hlt]

section
variable {B : Nat}
theorem val_split (l : List Nat) (k : Nat) : val B l = val B (l.take k) + B ^ (min k l.length) * val B (l.drop k) := by
  have h := val_append (B := B) (l.take k) (l.drop k)
  rw [List.take_append_drop, List.length_take] at h
  exact h
/-- the three highest limbs of n + 1 -/
theorem val_top3 (_hB : 0 < B) {l : List Nat} {n : Nat} (hl : l.length = n + 1) (hn : 2 ≤ n) : val B l = ((dg l n * B + dg l (n - 1)) * B + dg l (n - 2)) * B ^ (n - 2) + val B (l.take (n - 2)) := by
  obtain ⟨m, rfl⟩ : ∃ m, n = m + 2 := ⟨n - 2, by omega⟩
  rw [val_split l m, show min m l.length = m by omega, val_drop_dg l m, val_drop_dg l (m + 1), val_drop_dg l (m + 1 + 1)]
  have e : l.drop (m + 1 + 1 + 1) = [] := List.drop_eq_nil_of_le (by omega)
  rw [e, show m + 2 - 1 = m + 1 by omega, show m + 2 - 2 = m by omega, show m + 1 + 1 = m + 2 by omega, show val B ([] : List Nat) = 0 from rfl]
  rw [Nat.mul_zero, Nat.add_zero, Nat.mul_comm (B ^ m), Nat.add_comm (val B _)]
  congr 1
  rw [Nat.add_comm (dg l m), Nat.mul_comm B, Nat.add_comm (dg l (m + 1)), Nat.mul_comm B, Nat.add_zero]
/-- the two highest limbs of n -/
theorem val_top2 {l : List Nat} {n : Nat} (hl : l.length = n) (hn : 2 ≤ n) : val B l = (dg l (n - 1) * B + dg l (n - 2)) * B ^ (n - 2) + val B (l.take (n - 2)) := by
  obtain ⟨m, rfl⟩ : ∃ m, n = m + 2 := ⟨n - 2, by omega⟩
  rw [val_split l m, show min m l.length = m by omega, val_drop_dg l m, val_drop_dg l (m + 1)]
  have e : l.drop (m + 1 + 1) = [] := List.drop_eq_nil_of_le (by omega)
  rw [e, show m + 2 - 1 = m + 1 by omega, show m + 2 - 2 = m by omega, show val B ([] : List Nat) = 0 from rfl]
  rw [Nat.mul_zero, Nat.add_zero, Nat.mul_comm (B ^ m), Nat.add_comm (val B _)]
  congr 1
  rw [Nat.add_comm (dg l m), Nat.mul_comm B]
/-- the guess, of limbs -/
theorem guess_limbs (hB : 2 ≤ B) {us vs : List Nat} {n q r : Nat} (hus : ∀ z ∈ us, z < B) (hvs : ∀ z ∈ vs, z < B) (hu : us.length = n + 1) (hv : vs.length = n) (hn : 2 ≤ n) (hV1 : 0 < dg vs (n - 1)) (hUV : val B us < B * val B vs)
    (ht : r + q * dg vs (n - 1) = dg us n * B + dg us (n - 1)) (hqB : q < B) (hc : q * dg vs (n - 2) ≤ r * B + dg us (n - 2)) (hok : GuessOk B (dg us n * B + dg us (n - 1)) (dg us (n - 2)) (dg vs (n - 1)) (dg vs (n - 2)) q) :
    val B us < (q + 1) * val B vs ∧ q * val B vs ≤ val B us + val B vs := by
  have e1 := val_top3 (by omega : 0 < B) hu hn
  have e2 := val_top2 (B := B) hv hn
  have hP1 : val B (us.take (n - 2)) < B ^ (n - 2) := by
    have h := val_lt (B := B) (us.take (n - 2)) (fun z hz => hus z (List.mem_of_mem_take hz))
    rwa [List.length_take, show min (n - 2) us.length = n - 2 by omega] at h
  have hP2 : val B (vs.take (n - 2)) < B ^ (n - 2) := by
    have h := val_lt (B := B) (vs.take (n - 2)) (fun z hz => hvs z (List.mem_of_mem_take hz))
    rwa [List.length_take, show min (n - 2) vs.length = n - 2 by omega] at h
  have hd := guess_done ht hc
  have hV2 : B ≤ dg vs (n - 1) * B + dg vs (n - 2) := by
    have := Nat.le_mul_of_pos_left B hV1
    omega
  refine ⟨?_, ?_⟩
  · rcases hok with h | h
    · refine Nat.lt_of_lt_of_le hUV (Nat.mul_le_mul_right _ h)
    · rw [e1, e2]
      exact guess_up hP1 h
  · rw [e1, e2]
    exact guess_low hP2 hd (Nat.le_of_lt hqB) hV2

/-- one limb of what is taken off -/
theorem off_step {ps us vs : List Nat} {q i b c x u d b' c' : Nat} (hl : ps.length = i) (h : val B ps + q * val B (vs.take i) = val B (us.take i) + B ^ i * (b + c)) (hx : dg vs i = x) (hu : dg us i = u) (he : b + c + q * x + d = u + B * (b' + c')) :
    val B (ps ++ [d]) + q * val B (vs.take (i + 1)) = val B (us.take (i + 1)) + B ^ (i + 1) * (b' + c') := by
  rw [val_snoc, hl, val_take_dg, val_take_dg, hx, hu, Nat.pow_succ, Nat.mul_assoc (B ^ i) B, Nat.mul_add q]
  have h1 : B ^ i * (b + c + q * x + d) = B ^ i * (u + B * (b' + c')) := by rw [he]
  rw [Nat.mul_add, Nat.mul_add (B ^ i) (b + c), Nat.mul_add (B ^ i) u, Nat.mul_left_comm (B ^ i) q x] at h1
  omega
/-- one limb of what is given back -/
theorem on_step {ps us vs : List Nat} {i c u x : Nat} (hl : ps.length = i) (h : val B ps + B ^ i * c = val B (us.take i) + val B (vs.take i)) (hx : dg vs i = x) (hu : dg us i = u) :
    val B (ps ++ [(c + u + x) % B]) + B ^ (i + 1) * ((c + u + x) / B) = val B (us.take (i + 1)) + val B (vs.take (i + 1)) := by
  rw [val_snoc, hl, val_take_dg, val_take_dg, hx, hu, Nat.pow_succ, Nat.mul_assoc (B ^ i) B]
  have h1 : B ^ i * (B * ((c + u + x) / B) + (c + u + x) % B) = B ^ i * (c + u + x) := by rw [Nat.div_add_mod]
  rw [Nat.mul_add, Nat.mul_add, Nat.mul_add] at h1
  omega
/-- the division so far: from the j-th limb of the quotient on -/
structure NDivAt (B A V n : Nat) (u qs : List Nat) (j : Nat) : Prop where
  sum : val B u + B ^ j * (V * val B (qs.drop j)) = A
  low : val B (u.drop j) < V
/-- n + 1 limbs from the k-th on -/
def partL (u : List Nat) (k n : Nat) : List Nat := (u.drop k).take (n + 1)
def putL (u : List Nat) (k : Nat) (ps : List Nat) : List Nat := u.take k ++ ps ++ u.drop (k + ps.length)
theorem part_len {u : List Nat} {k n : Nat} (h : k + n < u.length) : (partL u k n).length = n + 1 := by
  unfold partL
  rw [List.length_take, List.length_drop]
  omega
theorem part_dg {u : List Nat} {k n i : Nat} (hi : i < n + 1) : dg (partL u k n) i = dg u (k + i) := by
  unfold partL dg
  rw [List.getElem?_take, if_pos hi, List.getElem?_drop]
theorem put_len {u ps : List Nat} {k : Nat} (h : k + ps.length ≤ u.length) : (putL u k ps).length = u.length := by
  unfold putL
  rw [List.length_append, List.length_append, List.length_take, List.length_drop]
  omega
/-- the limbs above a part are nought -/
theorem part_val (hB : 2 ≤ B) {u : List Nat} {k n V : Nat} (hu : ∀ z ∈ u, z < B) (hk : k + n < u.length) (hV : V < B ^ n) (hlow : val B (u.drop (k + 1)) < V) :
    val B u = val B (u.take k) + B ^ k * val B (partL u k n) ∧ val B (partL u k n) < B * V ∧ ∀ i, k + n < i → dg u i = 0 := by
  have h1 := val_split (B := B) u k
  rw [show min k u.length = k by omega] at h1
  have h2 := val_split (B := B) (u.drop (k + 1)) n
  rw [List.length_drop, show min n (u.length - (k + 1)) = n by omega, List.drop_drop] at h2
  have h3 : val B (u.drop (k + 1 + n)) = 0 := by
    rcases Nat.eq_zero_or_pos (val B (u.drop (k + 1 + n))) with h | h
    · exact h
    · have := Nat.le_mul_of_pos_right (B ^ n) h
      omega
  have h4 : val B (partL u k n) = val B (u.drop k) := by
    have h5 := val_split (B := B) (u.drop k) (n + 1)
    rw [List.drop_drop, show k + (n + 1) = k + 1 + n by omega, h3, Nat.mul_zero, Nat.add_zero] at h5
    exact h5.symm
  refine ⟨by rw [h4]; exact h1, ?_, ?_⟩
  · rw [h4, val_drop_dg u k]
    have h5 := dg_lt (by omega : 0 < B) hu k
    have h6 : B * (val B (u.drop (k + 1)) + 1) ≤ B * V := Nat.mul_le_mul_left B hlow
    rw [Nat.mul_add, Nat.mul_one] at h6
    omega
  · intro i hi
    have h5 := val_zero_above (by omega : 0 < B) (l := u.drop (k + 1 + n)) (k := 0) (by rw [h3]; simp) (i - (k + 1 + n)) (Nat.zero_le _)
    by_cases hl : i < u.length
    · have h6 := h5 (by rw [List.length_drop]; omega)
      unfold dg at h6 ⊢
      rw [List.getElem?_drop, show k + 1 + n + (i - (k + 1 + n)) = i by omega] at h6
      exact h6
    · exact dg_out (by omega)
theorem ndiv_step (hB : 2 ≤ B) {A V n k : Nat} {u qs ps : List Nat} (hu : ∀ z ∈ u, z < B) (hk : k + n < u.length) (hkq : k < qs.length) (hV : V < B ^ n) (h : NDivAt B A V n u qs (k + 1)) (hps : ps.length = n + 1) (hpv : val B ps = val B (partL u k n) % V) (hV0 : 0 < V) :
    NDivAt B A V n (putL u k ps) (qs.set k (val B (partL u k n) / V)) k := by
  obtain ⟨h1, h2⟩ := h
  obtain ⟨p1, p2, p3⟩ := part_val hB hu hk hV h2
  have hmd := Nat.div_add_mod (val B (partL u k n)) V
  have hup : val B (u.drop (k + ps.length)) = 0 := by
    have h3 : ∀ z ∈ u.drop (k + ps.length), z = 0 := fun z hz => by
      obtain ⟨i, hi⟩ := List.getElem?_of_mem hz
      rw [List.getElem?_drop] at hi
      have h4 := p3 (k + ps.length + i) (by omega)
      rwa [dg_some hi] at h4
    have h5 : u.drop (k + ps.length) = List.replicate (u.drop (k + ps.length)).length 0 := List.eq_replicate_iff.2 ⟨rfl, h3⟩
    rw [h5, val_zeros]
  have hq1 : (qs.set k (val B (partL u k n) / V)).drop k = (val B (partL u k n) / V) :: qs.drop (k + 1) := by
    rw [List.drop_set, if_neg (Nat.lt_irrefl k), Nat.sub_self, List.drop_eq_getElem_cons hkq, List.set_cons_zero]
  have hput : val B (putL u k ps) = val B (u.take k) + B ^ k * val B ps := by
    unfold putL
    rw [val_append, val_append, hup, Nat.mul_zero, Nat.add_zero, List.length_take, show min k u.length = k by omega]
  refine ⟨?_, ?_⟩
  · rw [hq1, hput, hpv, show val B ((val B (partL u k n) / V) :: qs.drop (k + 1)) = val B (partL u k n) / V + B * val B (qs.drop (k + 1)) from rfl]
    rw [← h1, p1, Nat.pow_succ]
    generalize val B (partL u k n) / V = q at hmd ⊢
    generalize val B (partL u k n) % V = r at hmd ⊢
    generalize val B (qs.drop (k + 1)) = t
    rw [← hmd, Nat.mul_add V, Nat.mul_add (B ^ k), Nat.mul_add (B ^ k), Nat.mul_assoc (B ^ k) B, Nat.mul_left_comm B V]
    omega
  · have hd : (putL u k ps).drop k = ps ++ u.drop (k + ps.length) := by
      unfold putL
      rw [List.append_assoc, List.drop_append_of_le_length (by rw [List.length_take]; omega), List.drop_take, Nat.sub_self, List.take_zero, List.nil_append]
    rw [hd, val_append, hup, Nat.mul_zero, Nat.add_zero, hpv]
    exact Nat.mod_lt _ hV0
/-- the whole division -/
theorem div_whole {A V n : Nat} {u qs : List Nat} (hV0 : 0 < V) (h : NDivAt B A V n u qs 0) : val B qs = A / V ∧ val B u = A % V := by
  obtain ⟨h1, h2⟩ := h
  rw [Nat.pow_zero, Nat.one_mul, List.drop_zero] at h1
  rw [List.drop_zero] at h2
  rw [← h1, Nat.add_comm, Nat.mul_add_div hV0, Nat.div_eq_of_lt h2, Nat.mul_add_mod, Nat.mod_eq_of_lt h2]
  exact ⟨rfl, rfl⟩
end
/-- both numbers times one more -/
theorem div_scaled {a b c : Nat} (hc : 0 < c) : a * c / (b * c) = a / b ∧ a * c % (b * c) = a % b * c := ⟨Nat.mul_div_mul_right a b hc, Nat.mul_mod_mul_right c a b⟩
end Go.Proofs.YtbhdgdmelepnhaaGreat

namespace Go.Proofs.YtbhdgdmelepnhaaGreat
open Go.RowKit

theorem wraps_u64' (n : Int) (h₀ : 0 ≤ n) (h₁ : n < 2 ^ 64) : IntKind.u64.wrap n = n := by rw [IntKind.wrap_u64]; omega
theorem wrap_nat64 {n : Nat} (h : n < 18446744073709551616) : IntKind.u64.wrap (n : Int) = (n : Int) := by rw [IntKind.wrap_u64]; omega
/-- a high limb and a low one -/
theorem or_limbs (x y : Nat) (hx : x < 4294967296) (hy : y < 4294967296) : bits .or .u64 ((x : Int) * 4294967296) (y : Int) = ((x * 4294967296 + y : Nat) : Int) := by
  have h := bits_join .u64 64 (by decide) wraps_u64' 32 ((x : Int) * 4294967296) (y : Int) (by omega) (by show (x : Int) * 4294967296 % 4294967296 = 0; omega) (by show (x : Int) * 4294967296 < 18446744073709551616; omega) (by omega) (by show (y : Int) < 4294967296; omega) (by show (y : Int) < 18446744073709551616; omega)
  rw [h]
  omega
set_option maxRecDepth 100000 in
set_option maxHeartbeats 4000000 in
theorem div_guess {S : Nat → Prop} (vu vv : Value) (us vs : List Nat) (m : Nat) (w : World) (hu : U32s S w vu us) (hv : U32s S w vv vs) (_hS : ∀ k, S k → k < w.heap.size) (lu : us.length = m + 3) (lv : vs.length = m + 2)
    (hV1 : 2147483648 ≤ dg vs (m + 1)) (hle : dg us (m + 2) ≤ dg vs (m + 1)) :
    Calls Tryz.prog 138 #[vu, vv] w fun e w' => ∃ q r : Nat, e = .returned (.int .u64 (q : Nat)) ∧ Ext w w' ∧ q < B32 ∧ r + q * dg vs (m + 1) = dg us (m + 2) * B32 + dg us (m + 1) ∧ q * dg vs m ≤ r * B32 + dg us m ∧
      GuessOk B32 (dg us (m + 2) * B32 + dg us (m + 1)) (dg us m) (dg vs (m + 1)) (dg vs m) q := by
  obtain ⟨u0, hu0⟩ := some_of_lt (l := us) (j := m + 2) (by omega)
  obtain ⟨u1, hu1⟩ := some_of_lt (l := us) (j := m + 1) (by omega)
  obtain ⟨u2, hu2⟩ := some_of_lt (l := us) (j := m) (by omega)
  obtain ⟨v1, hv1⟩ := some_of_lt (l := vs) (j := m + 1) (by omega)
  obtain ⟨v2, hv2⟩ := some_of_lt (l := vs) (j := m) (by omega)
  rw [dg_some hu0, dg_some hu1, dg_some hu2, dg_some hv1, dg_some hv2]
  rw [dg_some hv1] at hV1 hle
  rw [dg_some hu0] at hle
  have hfu := hu.len_le
  obtain ⟨au, cu, rfl⟩ := hu.form
  obtain ⟨av, cv, rfl⟩ := hv.form
  obtain ⟨bu, ou, rfl, -, hn1, hm1, -, xu0, k0⟩ := hu.cellAt hu0
  obtain ⟨b', o', e1, -, -, -, -, xu1, k1⟩ := hu.cellAt hu1
  obtain ⟨rfl, rfl⟩ : bu = b' ∧ ou = o' := by simpa using e1
  obtain ⟨b', o', e2, -, -, -, -, xu2, k2⟩ := hu.cellAt hu2
  obtain ⟨rfl, rfl⟩ : bu = b' ∧ ou = o' := by simpa using e2
  obtain ⟨bv, ov, rfl, -, hn2, hm2, -, xv1, k3⟩ := hv.cellAt hv1
  obtain ⟨b', o', e3, -, -, -, -, xv2, k4⟩ := hv.cellAt hv2
  obtain ⟨rfl, rfl⟩ : bv = b' ∧ ov = o' := by simpa using e3
  rw [lu] at hn1 hfu ⊢
  rw [lv] at hn2 ⊢
  have HK := hid (And.intro k0 (And.intro k1 (And.intro k2 (And.intro k3 k4))))
  have q1 : ((m + 2 : Nat) : Int) - 1 = ((m + 1 : Nat) : Int) := by omega
  have q2 : ((m + 2 : Nat) : Int) - 2 = (m : Int) := by omega
  clear e1 e2 e3 hu hv lu lv hu0 hu1 hu2 hv1 hv2
  go_enter Tryz.func138, Tryz.ntmps138
  go_wp2
  go_step3
  go_wp2
  go_quiet (fail)
  rw [or_limbs _ _ xu0 xu1]
  obtain ⟨top, htop⟩ : ∃ t, t = u0 * 4294967296 + u1 := ⟨_, rfl⟩
  have HT := hid htop
  rw [← htop]
  have ht2 : top ≤ 18446744073709551615 := by omega
  have hv0 : (v1 : Int) ≠ 0 := by omega
  have hq0 : top / v1 < 4294967298 := Nat.div_lt_of_lt_mul (by omega)
  have HQ0 := hid hq0
  have HXS := hid (And.intro xu0 (And.intro xu1 (And.intro xu2 (And.intro xv1 xv2))))
  clear htop
  go_wp2
  go_quiet (fail)
  go_wp2
  go_step3
  go_wp2
  go_loopw [7, 8] (fun s7 s8 wr => ∃ q r : Nat, s7 = .int .u64 (q : Nat) ∧ s8 = .int .u64 (r : Nat) ∧ Ext w wr ∧ r + q * v1 = top ∧ r < 4294967296 ∧ q ≤ 4294967297 ∧ GuessOk B32 top u2 v1 v2 q) (fun s7 _ _ => (intOf s7).toNat)
  case atStart =>
    refine ⟨top / v1, top % v1, congrArg (Value.int .u64) (wrap_nat64 (n := top / v1) (by omega)), rfl, ((Ext.refl w).drewN _).drewN _, ?_, ?_, by omega, guess_start xu2 (by omega)⟩
    · have := Nat.div_add_mod top v1
      rw [Nat.mul_comm]
      omega
    · have := Nat.mod_lt top (show 0 < v1 by omega)
      omega
  case round =>
    obtain ⟨q, r, rfl, rfl, hx, ht, hr, hq, hok⟩ := hrel
    have k0 := hx.cell HK.out.1
    have k1 := hx.cell HK.out.2.1
    have k2 := hx.cell HK.out.2.2.1
    have k3 := hx.cell HK.out.2.2.2.1
    have k4 := hx.cell HK.out.2.2.2.2
    have HX := hid hx
    have HTT := hid ht
    have HOK := hid hok
    have HR := hid (And.intro hr hq)
    clear hx ht hok hr hq
    by_cases h1 : 4294967296 ≤ q
    · have g1 : decide ((4294967296 : Int) ≤ (q : Int)) = true := decide_eq_true (by omega)
      have H1 := hid h1
      clear h1
      go_wp2
      refine wp_region_later (by kernel_rfl) (by kernel_rfl) ?_
      repeat (go_big_quiet_step (fail))
      refine wpQuiet_nil ?_
      intro w4 hx4
      have h1 := H1.out
      have HC := hid (guess_next (B := B32) (u2 := u2) (v2 := v2) HTT.out (by omega) (.inl h1))
      have HX4 := hid (HX.out.trans hx4)
      have k3 := hx4.cell k3
      have hq1 : (1 : Int) ≤ (q : Int) := by omega
      have hq2 : (q : Int) ≤ 4294967297 := by have := HR.out.2; omega
      have hr1 : (r : Int) < 4294967296 := by have := HR.out.1; omega
      have HD := hid (guess_dec HTT.out (by omega))
      clear hx4 g1 h1
      by_cases h3 : (4294967296 : Int) ≤ (r : Int) + (v1 : Int)
      · go_wp2
        all_goals
          rw [Exit.noGoto_ret]
          go_ret
          obtain ⟨z1, z2⟩ := guess_break (u2 := u2) (v2 := v2) (B := B32) HD.out HT.out hle HXS.out.2.1 HXS.out.2.2.2.2 (by show 4294967296 ≤ r + v1; omega)
          refine ⟨q - 1, r + v1, ?_, HX4.out, z1, by rw [HD.out]; exact HT.out, z2, by rw [← HT.out]; exact HC.out⟩
          show Ending.returned (Value.int .u64 ((q : Int) - 1)) = _
          rw [show ((q - 1 : Nat) : Int) = (q : Int) - 1 by omega]
      · go_wp2
        go_roundw
        case rel => exact ⟨q - 1, r + v1, congrArg (Value.int .u64) (by omega), congrArg (Value.int .u64) (by omega), HX4.out, HD.out, by omega, by omega, HC.out⟩
        case measure => simp only [intOf]; omega
    · have g1 : decide ((4294967296 : Int) ≤ (q : Int)) = false := decide_eq_false (by omega)
      have H1 : Hid (q < 4294967296) := hid (by omega)
      obtain ⟨P, hP⟩ : ∃ P : Nat, P = q * v2 := ⟨_, rfl⟩
      obtain ⟨T, hT⟩ : ∃ T : Nat, T = r * 4294967296 + u2 := ⟨_, rfl⟩
      have hqv : q * v2 ≤ 4294967295 * 4294967295 := Nat.mul_le_mul (show q ≤ 4294967295 by omega) (by have := HXS.out.2.2.2.2; omega)
      have hw : IntKind.u64.wrap ((q : Int) * (v2 : Int)) = (P : Int) := by
        have e : (q : Int) * (v2 : Int) = ((q * v2 : Nat) : Int) := (Int.natCast_mul q v2).symm
        rw [e, ← hP]
        exact wrap_nat64 (by omega)
      have hor : bits .or .u64 ((r : Int) * 4294967296) (u2 : Int) = (T : Int) := by rw [or_limbs r u2 HR.out.1 HXS.out.2.2.1, hT]
      have hr1 : (r : Int) < 4294967296 := by have := HR.out.1; omega
      have HP := hid hP
      have HTd := hid hT
      have m1 : (0 : Int) ≤ (m : Int) + 2 - 2 := by omega
      clear h1 hP hT hqv
      by_cases h2 : T < P
      · have L2 := fun Y : Later wr => Y.h.cell k2
        have L4 := fun Y : Later wr => Y.h.cell k4
        go_wp2
        refine wp_region_later (by kernel_rfl) (by kernel_rfl) ?_
        repeat (go_big_quiet_step (fail))
        refine wpQuiet_nil ?_
        intro w4 hx4
        have h1 := H1.out
        have hqp : 0 < q := by
          rcases Nat.eq_zero_or_pos q with h | h
          · have h4 := HP.out
            rw [h, Nat.zero_mul] at h4
            omega
          · exact h
        have hcc : r * B32 + u2 < q * v2 := by have h4 := HP.out; have h5 := HTd.out; show r * 4294967296 + u2 < q * v2; omega
        have HC := hid (guess_next (B := B32) (u2 := u2) (v2 := v2) HTT.out hqp (.inr hcc))
        have HX4 := hid (HX.out.trans hx4)
        have k3 := hx4.cell k3
        have hq1 : (1 : Int) ≤ (q : Int) := by omega
        have hq2 : (q : Int) ≤ 4294967297 := by have := HR.out.2; omega
        have hr1 : (r : Int) < 4294967296 := by have := HR.out.1; omega
        have HD := hid (guess_dec HTT.out (by omega))
        clear hx4 g1 h1 hw hor h2 hqp hcc L2 L4
        by_cases h3 : (4294967296 : Int) ≤ (r : Int) + (v1 : Int)
        · go_wp2
          all_goals
            rw [Exit.noGoto_ret]
            go_ret
            obtain ⟨z1, z2⟩ := guess_break (u2 := u2) (v2 := v2) (B := B32) HD.out HT.out hle HXS.out.2.1 HXS.out.2.2.2.2 (by show 4294967296 ≤ r + v1; omega)
            refine ⟨q - 1, r + v1, ?_, HX4.out, z1, by rw [HD.out]; exact HT.out, z2, by rw [← HT.out]; exact HC.out⟩
            show Ending.returned (Value.int .u64 ((q : Int) - 1)) = _
            rw [show ((q - 1 : Nat) : Int) = (q : Int) - 1 by omega]
        · go_wp2
          go_roundw
          case rel => exact ⟨q - 1, r + v1, congrArg (Value.int .u64) (by omega), congrArg (Value.int .u64) (by omega), HX4.out, HD.out, by omega, by omega, HC.out⟩
          case measure => simp only [intOf]; omega
      · have g2 : decide (T < P) = false := decide_eq_false h2
        have L2 := fun Y : Later wr => Y.h.cell k2
        have L4 := fun Y : Later wr => Y.h.cell k4
        go_wp2
        refine wp_region_later (by kernel_rfl) (by kernel_rfl) ?_
        repeat (go_big_quiet_step (fail))
        refine wpQuiet_nil ?_
        intro w4 hx4
        have HX4 := hid (HX.out.trans hx4)
        have hcc : q * v2 ≤ r * B32 + u2 := by have h4 := HP.out; have h5 := HTd.out; show q * v2 ≤ r * 4294967296 + u2; omega
        have HCC := hid hcc
        clear hx4 g1 hw hor hcc L2 L4
        go_wp2
        all_goals
          rw [Exit.noGoto_ret]
          go_ret
          exact ⟨q, r, rfl, HX4.out, H1.out, by rw [HTT.out]; exact HT.out, HCC.out, by rw [← HT.out]; exact HOK.out⟩
end Go.Proofs.YtbhdgdmelepnhaaGreat
