/- The derivative: the program's answer. The document: classes, degrees and ranks of polynomials. Which polynomials are too great for the law. Bounds on the limbs of coefficients, and what a small polynomial is. The document: a number, a variable, as polynomials. What the law knows. Lists that are the same so far. The document: is it the same data? What layer 9's law knows. Are two polynomials the same data? ViewDerives walked. -/
import Derived.Test.YthplgldclilccaaProg
import Derived.Test.YthplgldclilccaaSet6
namespace Go.Proofs.Ythplgldclilccaa
open Go.RowKit

def derTF (v : Int) (t : RTerm) : Option RTerm := if ex t.m v = 0 then none else some ⟨ofI (valI t.c * ex t.m v), decM t.m v⟩
def derT (v : Int) (ts : List RTerm) : List RTerm := ts.filterMap (derTF v)
theorem toP_derT (v : Int) (ts : List RTerm) : toP (derT v ts) = derP (toP ts) v := by
  unfold derT derP toP
  induction ts with
  | nil => rfl
  | cons t r ih =>
    rw [List.filterMap_cons, List.map_cons, List.filterMap_cons]
    unfold derTF derF
    by_cases h : ex t.m v = 0
    · simp only [if_pos h]
      exact ih
    · simp only [if_neg h, List.map_cons, valI_ofI]
      exact congrArg _ ih
theorem derT_take {v : Int} {ts : List RTerm} {k : Nat} {t : RTerm} (h : ts[k]? = some t) : derT v (ts.take (k + 1)) = derT v (ts.take k) ++ (if ex t.m v = 0 then [] else [⟨ofI (valI t.c * ex t.m v), decM t.m v⟩]) := by
  unfold derT
  rw [List.take_add_one, h, List.filterMap_append]
  congr 1
  by_cases h2 : ex t.m v = 0
  · simp [derTF, h2]
  · simp [derTF, h2]
theorem derT_len (v : Int) (ts : List RTerm) : (derT v ts).length ≤ ts.length := List.length_filterMap_le _ _
theorem derT_mem {v : Int} {ts : List RTerm} {u : RTerm} (h : u ∈ derT v ts) : ∃ t ∈ ts, ex t.m v ≠ 0 ∧ u = ⟨ofI (valI t.c * ex t.m v), decM t.m v⟩ := by
  obtain ⟨t, ht, e⟩ := List.mem_filterMap.1 h
  unfold derTF at e
  split at e
  · cases e
  · rename_i h1
    cases e
    exact ⟨t, ht, h1, rfl⟩
theorem lenI_small {z : Int} (h : 0 ≤ z ∧ z ≤ 10000) : lenI z ≤ 1 := lenI_lt (by show z.natAbs < 4294967296 ^ 1; omega)
theorem lenI_prod {a b : Int} {j k : Nat} (ha : lenI a ≤ j) (hb : lenI b ≤ k) : lenI (a * b) ≤ j + k := by
  refine lenI_lt ?_
  rw [Int.natAbs_mul, Nat.pow_add]
  exact Nat.mul_lt_mul'' (lenI_mono ha (Nat.le_refl _)) (lenI_mono hb (Nat.le_refl _))
theorem one_pows {w : World} {v e : Int} (hv : inI64 v) (he : inI64 e) (T : TypeId) : Pows (Old (w.alloc (.cells #[.int .i64 v, .int .i64 e] T))) (w.alloc (.cells #[.int .i64 v, .int .i64 e] T)) (.slice (some ⟨w.heap.size, 0, none⟩) 1 1) [(v, e)] := by
  refine ⟨w.heap.size, 0, ⟨_, 1, rfl, Nat.le_refl _, by decide, fun _ => rfl, fun _ => by show w.heap.size < (w.alloc _).heap.size; rw [size_alloc]; omega⟩, fun j x hj => ?_⟩
  have hj2 := lt_of_some hj
  simp only [List.length_cons, List.length_nil] at hj2
  match j, hj with
  | 0, hj =>
    obtain rfl : (v, e) = x := by simpa using hj
    exact ⟨⟨hv, he⟩, cell_new _ _ _ rfl rfl, cell_new _ _ _ rfl rfl⟩
  | j + 1, _ => omega

theorem grown_cell {w w' : World} {row : Option Nat} {b i : Nat} {v : Value} (hg : w.grownBy w' row) (hc : w.cell? ⟨b, i, none⟩ = some v) (hne : some b ≠ row) : w'.cell? ⟨b, i, none⟩ = some v :=
  (World.cell?_of_block (a := ⟨b, i, none⟩) (hg.block b (lt_of_cell hc) hne)).trans hc

set_option maxRecDepth 100000 in
set_option maxHeartbeats 8000000 in
theorem view_derive {S : Nat → Prop} (v : Value) (ts : List RTerm) (x : Int) (w : World) (L : Nat) (h : Terms S w v ts) (hS : ∀ k, S k → k < w.heap.size) (hr : ∀ t ∈ ts, t.c.mag.length ≤ L) (hL : L ≤ 1000000000) (hn : ts.length ≤ 1000000000) (hx : inI64 x) :
    Calls Try.prog 26 #[v, .int .i64 x] w fun e w' => ∃ v', e = .returned v' ∧ Terms (New w w') w' v' (ofP (derP (plainP ts) x)) ∧ Ext w w' := by
  obtain ⟨j0, hj, jz0, jz1, jz2⟩ := info_parts Try.infoTerm
  have hrs : smallT ts := fun t ht => Nat.le_trans (hr t ht) (by omega)
  have HC := hid (view_plain v ts w h hS hrs)
  have HMP : Hid (∀ t ∈ plainT ts, mayM t.m = true ∧ t.c.mag.length ≤ L ∧ lenI (valI t.c) ≤ L) := hid (by
    unfold plainT
    split
    · rename_i hm
      exact fun t ht => ⟨mayT_mono hm t ht, hr t ht, Nat.le_trans (valI_len (h.okT t ht)) (hr t ht)⟩
    · exact fun t ht => by simp at ht)
  have HLP : Hid ((plainT ts).length ≤ 1000000000) := hid (by unfold plainT; split; exact hn; simp)
  have HPP : Hid (derP (plainP ts) x = normP (toP (derT x (plainT ts)))) := hid (by rw [toP_derT, toP_plainT, normP_of_can (derP_can (plainP_can ts) x)])
  have HXI := hid hx
  obtain ⟨A, c, rfl⟩ := h.form
  rw [HPP.out]
  have HS := hid hS
  clear h hr hn HPP hS hrs
  obtain ⟨ps, hps⟩ : ∃ ps, ps = plainT ts := ⟨_, rfl⟩
  rw [← hps] at HC HMP HLP ⊢
  clear hps
  unfold inI64 at hx
  obtain ⟨hx1, hx2⟩ := hx
  go_enter Try.func26, Try.ntmps26
  go_wp2_with fail
  with_reducible refine HC.out.mono ?_
  rintro e w1 ⟨v1, rfl, hp1, hx1⟩
  have HX1 := hid hx1
  have HT := hid (hp1.to (S' := Old w1) (Kept.refl _ _) (fun k h => Nat.lt_of_lt_of_le (HS.out k h) hx1.size))
  have hll := hp1.len_le
  obtain ⟨a1, c1, rfl⟩ := hp1.form
  obtain ⟨n, hnn⟩ : ∃ n, n = ps.length := ⟨_, rfl⟩
  rw [← hnn] at HT hll HLP ⊢
  have HN := hid hnn
  clear hp1 hx1 hnn HC
  go_wp2
  go_loopw [5, 15] (fun o i wr => ∃ (k m : Nat) (xs : List Value), k ≤ n ∧ i = .int .i64 k ∧ Ext w1 wr ∧ Hid (m = (derT x (ps.take k)).length) ∧ Hid (wr.ownsRow w1.heap.size 72 3 o m xs) ∧ Hid (CellsT (NewOff w1 wr o) wr xs (derT x (ps.take k)))) (fun _ i _ => n - (intOf i).toNat)
  case atStart => exact ⟨0, 0, [], Nat.zero_le _, rfl, Ext.refl _, rfl, World.ownsRow_nil _ _ _ _, rfl⟩
  case round =>
    obtain ⟨k, m, xs, hk, rfl, hx, HM, HW, HY⟩ := hrel
    have HX := hid hx
    by_cases hlt : k < n
    · obtain ⟨t, ht⟩ := some_of_lt (l := ps) (j := k) (by rw [← HN.out]; exact hlt)
      obtain ⟨b, off, vd, vo, rfl, -, hn1, hm1, hSb, h1, h2, h3, h4, h5⟩ := (HT.out.onS hx (fun _ h => h)).cellAt ht
      have HTK := hid (derT_take (v := x) ht)
      have HMT := hid (HMP.out t (List.mem_of_getElem? ht))
      have hxa : Ext wr (wr.alloc (.cells #[.bool t.c.neg, vd, vo] 72)) := Ext.alloc (Ext.refl wr) _
      have hSw : ∀ k, Old w1 k → k < wr.heap.size := fun k h => Nat.lt_of_lt_of_le h hx.size
      have HCD := hid (mono_degree (S := Old w1) vo t.m x _ (h5.ext hxa hSw) (fun k h => Nat.lt_of_lt_of_le h (hx.trans hxa).size) HXI.out)
      have HCW := hid (fun (W : World) (hW : Ext wr W) => mono_without (S := Old w1) vo t.m x W (h5.ext hW hSw) (fun k h => Nat.lt_of_lt_of_le h (hx.trans hW).size) HXI.out)
      rw [plainM_yes HMT.out.1] at HCD HCW
      have hex := ex_range HMT.out.1 x
      have H4 := hid h4
      have HXA := hid hxa
      obtain ⟨ad, cd, rfl⟩ := h4.form
      obtain ⟨ao, co, rfl⟩ := h5.form
      obtain ⟨ng, hng⟩ : ∃ b, b = t.c.neg := ⟨_, rfl⟩
      obtain ⟨nd, hnd⟩ : ∃ b, b = t.c.mag.length := ⟨_, rfl⟩
      obtain ⟨nm, hnm⟩ : ∃ b, b = t.m.length := ⟨_, rfl⟩
      have HNG := hid hng
      rw [← hnd] at H4
      rw [← hng, ← hnd, ← hnm] at HCD HXA
      rw [← hnm] at HCW
      rw [← hng] at h1
      rw [← hnd] at h2
      rw [← hnm] at h3
      obtain ⟨y, hy⟩ : ∃ y, y = ex t.m x := ⟨_, rfl⟩
      rw [← hy] at HCD hex HTK
      have HYE := hid hy
      have HDE : Hid (decM t.m x = if 1 < y then timesM (withoutM t.m x) [(x, y - 1)] else withoutM t.m x) := hid (by rw [hy]; rfl)
      clear ht h4 h5 hx hxa hng hnd hnm hy hSw
      by_cases hy0 : y = 0
      · have q0 : (y == 0) = true := by rw [beq_iff_eq]; exact hy0
        rw [if_pos hy0, List.append_nil] at HTK
        go_wp2_with fail
        with_reducible refine HCD.out.mono ?_
        rintro e w2 ⟨rfl, hx2⟩
        have HXB := hid (HXA.out.trans hx2)
        clear hx2 hy0
        go_wp2
        go_roundw
        case rel =>
          refine ⟨k + 1, m, xs, by omega, by go_num, HX.out.trans HXB.out, ?_, own_ext HW.out HXB.out, ?_⟩
          · show _ = _; rw [HTK.out]; exact HM.out
          · show CellsT _ _ _ _; rw [HTK.out]; exact newOff_ext HY.out HXB.out
        case measure => simp only [intOf]; omega
      · have q0 : (y == 0) = false := by rw [beq_eq_false_iff_ne]; exact hy0
        rw [if_neg hy0] at HTK
        have HV := hid (ex_pos_var HMT.out.1 (v := x) (by rw [← HYE.out]; omega))
        have HKB : Hid (m ≤ 1000000000) := hid (by
          rw [HM.out]
          have h3 := derT_len x (ps.take k)
          have h4 := HLP.out
          rw [List.length_take] at h3
          omega)
        have HYI : Hid (inI64 y) := hid (by unfold inI64; omega)
        have HYL : Hid (lenI y ≤ 1) := hid (lenI_small (by omega))
        have HNB : Hid (some wr.heap.size ≠ u5.ownBlock) := hid (fun e => by have := (HW.out.lt _ e.symm).2; omega)
        by_cases hy1 : 1 < y
        · have q1 : decide (1 < y) = true := decide_eq_true hy1
          rw [if_pos hy1] at HDE
          go_wp2_with fail
          with_reducible refine HCD.out.mono ?_
          rintro e w2 ⟨rfl, hx2⟩
          have HXB := hid (HXA.out.trans hx2)
          have HXA2 := hid hx2
          have k2 := hx2.new_cell (i := 2) rfl
          clear hx2
          go_wp2_with fail
          with_reducible refine (HCW.out _ HXB.out).mono ?_
          rintro e w3 ⟨v3, rfl, hp3, hx3⟩
          have HX3 := hid hx3
          have HP3 := hid (hp3.to (S' := Old w3) (Kept.refl _ _) New.lt)
          obtain ⟨a3, c3, rfl⟩ := hp3.form
          obtain ⟨n3, hn3⟩ : ∃ n, n = (withoutM t.m x).length := ⟨_, rfl⟩
          rw [← hn3] at HP3 ⊢
          have HCT := hid (mono_times (S := Old (w3.alloc (.cells #[.int .i64 x, .int .i64 (y - 1)] 82))) _ _ (withoutM t.m x) [(x, y - 1)] _ (HP3.out.on (Ext.alloc (Ext.refl w3) _)) (one_pows (w := w3) (v := x) (e := y - 1) HXI.out (by unfold inI64; omega) 82) (fun _ h => h))
          have hmo : mayM [(x, y - 1)] = true := one_may HV.out (by omega)
          have hmd : mayM (timesM (withoutM t.m x) [(x, y - 1)]) = true := by rw [← HDE.out]; exact dec_may HMT.out.1
          have he : errTimes (withoutM t.m x) [(x, y - 1)] = 0 := by unfold errTimes; rw [mayM_without HMT.out.1, hmo, hmd]; rfl
          have hvt : valTimes (withoutM t.m x) [(x, y - 1)] = decM t.m x := by unfold valTimes; rw [mayM_without HMT.out.1, hmo, hmd, HDE.out]; rfl
          rw [he, hvt] at HCT
          clear hp3 hx3 hn3 hmo hmd he hvt k2
          go_wp2_with fail
          with_reducible refine HCT.out.mono ?_
          rintro e wt ⟨v9, rfl, hp9, hx9⟩
          have HXT := hid (HX3.out.trans ((Ext.alloc (Ext.refl w3) _).trans hx9))
          have HXAT := hid (HXA2.out.trans HXT.out)
          have HP9 := hid (hp9.to (S' := New w2 wt) (Kept.refl _ _) (fun k h => ⟨Nat.le_trans (HX3.out.trans (Ext.alloc (Ext.refl w3) _)).size h.1, h.2⟩))
          obtain ⟨a9, c9, rfl⟩ := hp9.form
          obtain ⟨n9, hn9⟩ : ∃ n, n = (decM t.m x).length := ⟨_, rfl⟩
          rw [← hn9] at HP9 ⊢
          clear hp9 hx9 hn9
          have x0 : Ext wt wt.drew := (Ext.refl wt).drew
          have HX0 := hid x0
          have e0 := (HXAT.out.trans x0).new_cell (i := 0) rfl
          have e1 := (HXAT.out.trans x0).new_cell (i := 1) rfl
          have S0 : _ ∧ _ := And.intro e0 e1
          have HS0 := hid S0
          have HB3 : Hid (m + 1 ≤ maxLen) := hid (by have := HKB.out; unfold maxLen; omega)
          have HB4 : Hid ((m + 1) * 56 ≤ 140737488355328) := hid (by have := HKB.out; omega)
          have HWT := hid (own_ext (own_ext HW.out HXB.out) (HXT.out.trans x0))
          have HYT := hid (newOff_ext HY.out (HXB.out.trans (HXT.out.trans x0)))
          have HWB := hid (own_ext HW.out HXB.out)
          have HXWT := hid (HX.out.trans (HXB.out.trans (HXT.out.trans x0)))
          have HXRT := hid (HXB.out.trans (HXT.out.trans x0))
          have C10 := hid (fun W : World => whole_of y W HYI.out)
          have hlt24 : lenI (valI (ofI y)) < 24 := by rw [valI_ofI]; exact Nat.lt_of_le_of_lt HYL.out (by decide)
          have C11 := hid (fun (W : World) (v : Value) (hW : Ext wt.drew W) (hv : IntV (Old W) W v (ofI y)) => whole_mul (S := Old W) (.agg #[.bool ng, .slice ad nd cd]) v t.c (ofI y) W ⟨_, by rw [HNG.out], (H4.out.ext (HXRT.out.trans hW) (fun k h => Nat.lt_of_lt_of_le h HX.out.size)).to (Kept.refl _ _) (fun k h => Nat.lt_of_lt_of_le h (HXWT.out.trans hW).size)⟩ hv (fun _ h => h) (Nat.le_trans HMT.out.2.1 (by omega)) (by rw [ofI_len]; exact Nat.le_trans HYL.out (by decide)) (.inr hlt24))
          rw [valI_ofI] at C11
          clear e0 e1 x0 hlt24
          go_wp2
          first
            | go_region_held3 (fun Y => Y.cell? ⟨wr.heap.size, 0, none⟩ = some (.bool ng) ∧ Y.cell? ⟨wr.heap.size, 1, none⟩ = some (.slice ad nd cd)) (first | exact S0 | exact S1 | exact S2 | exact ⟨cell_old _ S2.1, cell_old _ S2.2⟩ | exact S5)
                (first
              | (go_at_call 64; refine (C10.out _).mono ?_
                 rintro e u1 ⟨v10, rfl, ⟨vm10, rfl, hu10⟩, hx10⟩; have S1 := And.intro (hx10.cell HS0.out.1) (hx10.cell HS0.out.2); have HX10 := hid hx10; have HU10 : Hid (IntV (Old u1) u1 (.agg #[.bool (ofI y).neg, vm10]) (ofI y)) := hid ⟨_, rfl, hu10.to (Kept.refl _ _) New.lt⟩; have C12 := hid (C11.out u1 _ hx10 HU10.out); have qf := hu10.form; obtain ⟨a10, c10, rfl⟩ := qf; have HS1 := hid S1; clear hx10 hu10)
              | (go_at_call 63; refine C12.out.mono ?_
                 rintro e u2 ⟨v11, rfl, ⟨vm11, rfl, hu11⟩, hx11⟩; have S2 := And.intro (hx11.cell HS1.out.1) (hx11.cell HS1.out.2); have HS2 := hid S2; have HS2 := hid S2; have HX11 := hid (HX10.out.trans hx11); have HU11 := hid (hu11.to (S' := New w2 u2) (Kept.refl _ _) (fun k h => ⟨Nat.le_trans (HXT.out.trans (HX0.out.trans HX10.out)).size h.1, h.2⟩)); have qf := hu11.form; obtain ⟨a11, c11, rfl⟩ := qf; obtain ⟨n11, hn11⟩ : ∃ n, n = (ofI (valI t.c * y)).mag.length := ⟨_, rfl⟩; obtain ⟨b11, hb11⟩ : ∃ n, n = (ofI (valI t.c * y)).neg := ⟨_, rfl⟩; rw [← hn11, ← hb11]; rw [← hn11] at HU11; have HB11 := hid hb11; have HXT2 := hid (HXT.out.trans (HX0.out.trans HX11.out)); have HSRC3 := hid (src_one u2 #[.bool b11, .slice a11 n11 c11, .slice a9 n9 c9] 72 (three_cell rfl rfl rfl) rfl); have HW3 := hid (own_ext (own_ext HWT.out HX11.out) (Ext.alloc (Ext.refl u2) (.cells #[.bool b11, .slice a11 n11 c11, .slice a9 n9 c9] 72))); have HB5 := hid (Nat.le_trans (HXWT.out.trans HX11.out).size (World.grownBy_alloc u2 (.cells #[.bool b11, .slice a11 n11 c11, .slice a9 n9 c9] 72) none).size); clear hx11 hu11 hn11 hb11)
              | (refine step_append_src rfl (.tmp 41) (.tmp 49) 22 rfl w1.heap.size 72 j0 (.agg #[.bool false, .slice none 0 0, .slice none 0 0]) 3 56 Try.underlying22 hj jz0 jz1 jz2 rfl (Nat.succ_pos _) _ m xs rfl HW3.out (some ⟨u2.heap.size, 0, none⟩) 1 1 _ rfl HSRC3.out HB3.out HB4.out HB5.out ?_; intro v5 w5 hown hg hbk; have HW5 := hid hown; have HG5 := hid hg; have HBK := hid hbk; have HX5 := hid (own_grown0 ((HXWT.out.trans HX11.out).alloc (.cells #[.bool b11, .slice a11 n11 c11, .slice a9 n9 c9] 72)) HW3.out hg); have S5 := And.intro (grown_cell hg (cell_old _ HS2.out.1) HNB.out) (grown_cell hg (cell_old _ HS2.out.2) HNB.out); clear hown hg hbk))
            | fail
          all_goals
            go_wp2
            go_roundw
            case rel =>
              refine ⟨k + 1, m + 1, xs ++ (#[.bool b11, .slice a11 n11 c11, .slice a9 n9 c9] : Array Value).toList, by omega, by go_num, HX5.out, ?_, HW5.out, ?_⟩
              · show _ = _; rw [HTK.out, List.length_append, ← HM.out]; rfl
              · show CellsT _ _ _ _
                rw [HTK.out]
                have hone : CellsT (New w2 u2) u2 [.bool b11, .slice a11 n11 c11, .slice a9 n9 c9] [⟨ofI (valI t.c * y), decM t.m x⟩] := by
                  rw [HB11.out]
                  exact CellsT.single (t := ⟨ofI (valI t.c * y), decM t.m x⟩) HU11.out (HP9.out.to (Kept.ext (HX0.out.trans HX11.out) (fun _ h => h.2)) (fun k h => ⟨h.1, Nat.lt_of_lt_of_le h.2 (HX0.out.trans HX11.out).size⟩))
                have hall := (newOff_ext HYT.out HX11.out).append (newOff_of (HX.out.trans HXB.out).size HWB.out hone)
                exact newOff_grown (newOff_ext hall (Ext.alloc (Ext.refl u2) (.cells #[.bool b11, .slice a11 n11 c11, .slice a9 n9 c9] 72))) HG5.out HBK.out (Nat.le_refl _)
            case measure => simp only [intOf]; omega
        · have q1 : decide (1 < y) = false := decide_eq_false hy1
          rw [if_neg hy1] at HDE
          go_wp2_with fail
          with_reducible refine HCD.out.mono ?_
          rintro e w2 ⟨rfl, hx2⟩
          have HXB := hid (HXA.out.trans hx2)
          have HXA2 := hid hx2
          have k2 := hx2.new_cell (i := 2) rfl
          clear hx2
          go_wp2_with fail
          with_reducible refine (HCW.out _ HXB.out).mono ?_
          rintro e wt ⟨v9, rfl, hp9, hx9⟩
          have HXT := hid hx9
          have HXAT := hid (HXA2.out.trans hx9)
          rw [← HDE.out] at hp9
          have HP9 := hid hp9
          obtain ⟨a9, c9, rfl⟩ := hp9.form
          obtain ⟨n9, hn9⟩ : ∃ n, n = (decM t.m x).length := ⟨_, rfl⟩
          rw [← hn9] at HP9 ⊢
          clear hp9 hx9 hn9 k2
          have x0 : Ext wt wt.drew := (Ext.refl wt).drew
          have HX0 := hid x0
          have e0 := (HXAT.out.trans x0).new_cell (i := 0) rfl
          have e1 := (HXAT.out.trans x0).new_cell (i := 1) rfl
          have S0 : _ ∧ _ := And.intro e0 e1
          have HS0 := hid S0
          have HB3 : Hid (m + 1 ≤ maxLen) := hid (by have := HKB.out; unfold maxLen; omega)
          have HB4 : Hid ((m + 1) * 56 ≤ 140737488355328) := hid (by have := HKB.out; omega)
          have HWT := hid (own_ext (own_ext HW.out HXB.out) (HXT.out.trans x0))
          have HYT := hid (newOff_ext HY.out (HXB.out.trans (HXT.out.trans x0)))
          have HWB := hid (own_ext HW.out HXB.out)
          have HXWT := hid (HX.out.trans (HXB.out.trans (HXT.out.trans x0)))
          have HXRT := hid (HXB.out.trans (HXT.out.trans x0))
          have C10 := hid (fun W : World => whole_of y W HYI.out)
          have hlt24 : lenI (valI (ofI y)) < 24 := by rw [valI_ofI]; exact Nat.lt_of_le_of_lt HYL.out (by decide)
          have C11 := hid (fun (W : World) (v : Value) (hW : Ext wt.drew W) (hv : IntV (Old W) W v (ofI y)) => whole_mul (S := Old W) (.agg #[.bool ng, .slice ad nd cd]) v t.c (ofI y) W ⟨_, by rw [HNG.out], (H4.out.ext (HXRT.out.trans hW) (fun k h => Nat.lt_of_lt_of_le h HX.out.size)).to (Kept.refl _ _) (fun k h => Nat.lt_of_lt_of_le h (HXWT.out.trans hW).size)⟩ hv (fun _ h => h) (Nat.le_trans HMT.out.2.1 (by omega)) (by rw [ofI_len]; exact Nat.le_trans HYL.out (by decide)) (.inr hlt24))
          rw [valI_ofI] at C11
          clear e0 e1 x0 hlt24
          go_wp2
          first
            | go_region_held3 (fun Y => Y.cell? ⟨wr.heap.size, 0, none⟩ = some (.bool ng) ∧ Y.cell? ⟨wr.heap.size, 1, none⟩ = some (.slice ad nd cd)) (first | exact S0 | exact S1 | exact S2 | exact ⟨cell_old _ S2.1, cell_old _ S2.2⟩ | exact S5)
                (first
              | (go_at_call 64; refine (C10.out _).mono ?_
                 rintro e u1 ⟨v10, rfl, ⟨vm10, rfl, hu10⟩, hx10⟩; have S1 := And.intro (hx10.cell HS0.out.1) (hx10.cell HS0.out.2); have HX10 := hid hx10; have HU10 : Hid (IntV (Old u1) u1 (.agg #[.bool (ofI y).neg, vm10]) (ofI y)) := hid ⟨_, rfl, hu10.to (Kept.refl _ _) New.lt⟩; have C12 := hid (C11.out u1 _ hx10 HU10.out); have qf := hu10.form; obtain ⟨a10, c10, rfl⟩ := qf; have HS1 := hid S1; clear hx10 hu10)
              | (go_at_call 63; refine C12.out.mono ?_
                 rintro e u2 ⟨v11, rfl, ⟨vm11, rfl, hu11⟩, hx11⟩; have S2 := And.intro (hx11.cell HS1.out.1) (hx11.cell HS1.out.2); have HS2 := hid S2; have HS2 := hid S2; have HX11 := hid (HX10.out.trans hx11); have HU11 := hid (hu11.to (S' := New w2 u2) (Kept.refl _ _) (fun k h => ⟨Nat.le_trans (HXT.out.trans (HX0.out.trans HX10.out)).size h.1, h.2⟩)); have qf := hu11.form; obtain ⟨a11, c11, rfl⟩ := qf; obtain ⟨n11, hn11⟩ : ∃ n, n = (ofI (valI t.c * y)).mag.length := ⟨_, rfl⟩; obtain ⟨b11, hb11⟩ : ∃ n, n = (ofI (valI t.c * y)).neg := ⟨_, rfl⟩; rw [← hn11, ← hb11]; rw [← hn11] at HU11; have HB11 := hid hb11; have HXT2 := hid (HXT.out.trans (HX0.out.trans HX11.out)); have HSRC3 := hid (src_one u2 #[.bool b11, .slice a11 n11 c11, .slice a9 n9 c9] 72 (three_cell rfl rfl rfl) rfl); have HW3 := hid (own_ext (own_ext HWT.out HX11.out) (Ext.alloc (Ext.refl u2) (.cells #[.bool b11, .slice a11 n11 c11, .slice a9 n9 c9] 72))); have HB5 := hid (Nat.le_trans (HXWT.out.trans HX11.out).size (World.grownBy_alloc u2 (.cells #[.bool b11, .slice a11 n11 c11, .slice a9 n9 c9] 72) none).size); clear hx11 hu11 hn11 hb11)
              | (refine step_append_src rfl (.tmp 41) (.tmp 49) 22 rfl w1.heap.size 72 j0 (.agg #[.bool false, .slice none 0 0, .slice none 0 0]) 3 56 Try.underlying22 hj jz0 jz1 jz2 rfl (Nat.succ_pos _) _ m xs rfl HW3.out (some ⟨u2.heap.size, 0, none⟩) 1 1 _ rfl HSRC3.out HB3.out HB4.out HB5.out ?_; intro v5 w5 hown hg hbk; have HW5 := hid hown; have HG5 := hid hg; have HBK := hid hbk; have HX5 := hid (own_grown0 ((HXWT.out.trans HX11.out).alloc (.cells #[.bool b11, .slice a11 n11 c11, .slice a9 n9 c9] 72)) HW3.out hg); have S5 := And.intro (grown_cell hg (cell_old _ HS2.out.1) HNB.out) (grown_cell hg (cell_old _ HS2.out.2) HNB.out); clear hown hg hbk))
            | fail
          all_goals
            go_wp2
            go_roundw
            case rel =>
              refine ⟨k + 1, m + 1, xs ++ (#[.bool b11, .slice a11 n11 c11, .slice a9 n9 c9] : Array Value).toList, by omega, by go_num, HX5.out, ?_, HW5.out, ?_⟩
              · show _ = _; rw [HTK.out, List.length_append, ← HM.out]; rfl
              · show CellsT _ _ _ _
                rw [HTK.out]
                have hone : CellsT (New w2 u2) u2 [.bool b11, .slice a11 n11 c11, .slice a9 n9 c9] [⟨ofI (valI t.c * y), decM t.m x⟩] := by
                  rw [HB11.out]
                  exact CellsT.single (t := ⟨ofI (valI t.c * y), decM t.m x⟩) HU11.out (HP9.out.to (Kept.ext (HX0.out.trans HX11.out) (fun _ h => h.2)) (fun k h => ⟨h.1, Nat.lt_of_lt_of_le h.2 (HX0.out.trans HX11.out).size⟩))
                have hall := (newOff_ext HYT.out HX11.out).append (newOff_of (HX.out.trans HXB.out).size HWB.out hone)
                exact newOff_grown (newOff_ext hall (Ext.alloc (Ext.refl u2) (.cells #[.bool b11, .slice a11 n11 c11, .slice a9 n9 c9] 72))) HG5.out HBK.out (Nat.le_refl _)
            case measure => simp only [intOf]; omega
    · obtain rfl : n = k := by omega
      have hcells : CellsT (NewOff w1 wr u5) wr xs (derT x ps) := by
        have := HY.out
        rwa [List.take_of_length_le (by rw [← HN.out]; exact Nat.le_refl _)] at this
      have hm : m = (derT x ps).length := by
        have := HM.out
        rwa [List.take_of_length_le (by rw [← HN.out]; exact Nat.le_refl _)] at this
      have ho := own_terms (S := Old wr) (by rw [← hm]; exact HW.out) (hcells.to (Kept.refl _ _) (fun _ h => h.1.2)) (fun k h1 h2 => h2)
      have HCO := hid (poly_of u5 (derT x ps) wr (L + 1) ho (fun _ h => h) (fun u hu => by
        obtain ⟨t, ht, h1, rfl⟩ := derT_mem hu
        rw [ofI_len]
        exact lenI_prod (HMP.out t ht).2.2 (lenI_small (ex_range (HMP.out t ht).1 x))) (by omega) (by have := derT_len x ps; have := HLP.out; have := HN.out; omega) (List.all_eq_true.2 (fun u hu => by
          obtain ⟨t, ht, h1, rfl⟩ := derT_mem hu
          exact dec_may (HMP.out t ht).1)))
      clear hx hcells hm ho
      go_wp2_with fail
      with_reducible refine HCO.out.mono ?_
      rintro e w2 ⟨v2, rfl, hp2, hx2⟩
      have HP2 := hid (hp2.to (S' := New w w2) (Kept.refl _ _) (fun k h => ⟨Nat.le_trans (HX1.out.trans HX.out).size h.1, h.2⟩))
      have HX2 := hid ((HX1.out.trans HX.out).trans hx2)
      clear hp2 hx2
      go_wp2
      all_goals
        go_ret
        exact ⟨_, rfl, HP2.out, HX2.out⟩
end Go.Proofs.Ythplgldclilccaa

namespace Go.Proofs.Ythplgldclilccaa
open Go.RowKit

theorem clsP_take {p : PZ} {k : Nat} {t : Int × Mono} (h : p[k]? = some t) : clsP (p.take (k + 1)) = max (clsP (p.take k)) (classM t.2) := by
  rw [List.take_add_one, h]
  unfold clsP
  simp [List.foldl_append]
theorem clsP_range {p : PZ} (h : mayAll p) : 0 ≤ clsP p ∧ clsP p ≤ 200 :=
  ⟨foldl_max_le (fun t : Int × Mono => classM t.2) p 0, foldl_max_ub (fun t : Int × Mono => classM t.2) p 0 200 (by omega) (fun t ht => (class_range (h t ht)).2)⟩
theorem RTs.cell2 {w : World} {a : Option Addr} {n cap k : Nat} {p : PZ} {t : Int × Mono} (h : RTs (Old w) w (.slice a n cap) p) (ht : p[k]? = some t) :
    ∃ b off ao co, a = some ⟨b, off, none⟩ ∧ n ≤ cap ∧ cap ≤ 9223372036854775807 ∧ w.cell? ⟨b, off + k * 3 + 2, none⟩ = some (.slice ao t.2.length co) ∧ Pows (Old w) w (.slice ao t.2.length co) t.2 := by
  obtain ⟨b, off, vd, vo, rfl, -, hn1, hm1, hSb, h1, h2, h3, h4, h5⟩ := h.cellAt ht
  obtain ⟨ao, co, rfl⟩ := h5.form
  exact ⟨b, off, ao, co, rfl, hn1, hm1, h3, h5⟩

set_option maxRecDepth 100000 in
set_option maxHeartbeats 4000000 in
theorem rview_class (v : Value) (p : PZ) (w : World) (h : RTs (Old w) w v p) (hmay : mayAll p) :
    Calls Try.prog 37 #[v] w fun e w' => e = .returned (.int .i64 (clsP p)) ∧ Ext w w' := by
  have H := hid h
  have HM := hid hmay
  have hl := h.len_le
  obtain ⟨a, cap, rfl⟩ := h.form
  clear h hmay
  go_enter Try.func37, Try.ntmps37
  go_wp2
  go_loopw [3, 4] (fun d i wr => ∃ k : Nat, k ≤ p.length ∧ i = .int .i64 k ∧ d = .int .i64 (clsP (p.take k)) ∧ Ext w wr) (fun _ i _ => p.length - (intOf i).toNat)
  case atStart => exact ⟨0, Nat.zero_le _, rfl, rfl, Ext.refl _⟩
  case round =>
    obtain ⟨k, hk, rfl, rfl, hx⟩ := hrel
    have HX := hid hx
    obtain ⟨hd1, hd2⟩ := clsP_range (mayAll_take HM.out k)
    by_cases hlt : k < p.length
    · obtain ⟨t, ht⟩ := some_of_lt hlt
      obtain ⟨b, off, ao, co, rfl, hn1, hm1, h3, h5⟩ := H.out.cell2 ht
      have hmm := HM.out t (List.mem_of_getElem? ht)
      have HS := hid (clsP_take ht)
      obtain ⟨he1, he2⟩ := class_range hmm
      have g3 := Ext.cell hx h3
      have H5 := hid h5
      have C := fun (W : World) (hW : Ext w W) => rmono_class (S := Old w) _ t.2 W (H5.out.ext hW (fun _ h => h)) (lt_ext (fun _ h => h) hW)
      rw [plainM_yes hmm] at C
      have HC := hid C
      clear h3 h5 hx ht C hmm
      generalize clsP (p.take k) = d at *
      generalize classM t.2 = q at *
      go_wp2_with fail
      refine (HC.out wr HX.out).mono ?_
      rintro e w1 ⟨rfl, hx1⟩
      have k3 := hx1.cell g3
      have HX1 := hid (HX.out.trans hx1)
      clear hx1 g3
      by_cases hgt : d < q
      · go_wp2_with fail
        refine (HC.out w1 HX1.out).mono ?_
        rintro e w2 ⟨rfl, hx2⟩
        have HX2 := hid (HX1.out.trans hx2)
        clear hx2
        go_wp2
        go_roundw
        case rel => exact ⟨k + 1, by omega, by go_num, by rw [HS.out]; exact congrArg (Value.int .i64) (by omega), HX2.out⟩
        case measure => simp only [intOf]; omega
      · go_wp2
        go_roundw
        case rel => exact ⟨k + 1, by omega, by go_num, by rw [HS.out]; exact congrArg (Value.int .i64) (by omega), HX1.out⟩
        case measure => simp only [intOf]; omega
    · obtain rfl : k = p.length := by omega
      have HE : Hid (clsP (p.take p.length) = clsP p) := hid (by rw [List.take_length])
      clear hx
      go_wp2
      all_goals
        go_ret
        exact ⟨by rw [HE.out]; rfl, HX.out⟩

set_option maxRecDepth 100000 in
set_option maxHeartbeats 4000000 in
theorem rview_degree (v : Value) (p : PZ) (x : Int) (w : World) (h : RTs (Old w) w v p) (hmay : mayAll p) (hxb : -9223372036854775808 ≤ x ∧ x ≤ 9223372036854775807) :
    Calls Try.prog 38 #[v, .int .i64 x] w fun e w' => e = .returned (.int .i64 (degP p x)) ∧ Ext w w' := by
  have H := hid h
  have HM := hid hmay
  have HXB := hid hxb
  have hl := h.len_le
  obtain ⟨a, cap, rfl⟩ := h.form
  clear h hmay hxb
  go_enter Try.func38, Try.ntmps38
  go_wp2
  go_loopw [5, 6] (fun d i wr => ∃ k : Nat, k ≤ p.length ∧ i = .int .i64 k ∧ d = .int .i64 (degP (p.take k) x) ∧ Ext w wr) (fun _ i _ => p.length - (intOf i).toNat)
  case atStart => exact ⟨0, Nat.zero_le _, rfl, rfl, Ext.refl _⟩
  case round =>
    obtain ⟨k, hk, rfl, rfl, hx⟩ := hrel
    have HX := hid hx
    obtain ⟨hd1, hd2⟩ := degP_range (mayAll_take HM.out k) x
    by_cases hlt : k < p.length
    · obtain ⟨t, ht⟩ := some_of_lt hlt
      obtain ⟨b, off, ao, co, rfl, hn1, hm1, h3, h5⟩ := H.out.cell2 ht
      have hmm := HM.out t (List.mem_of_getElem? ht)
      have HS := hid (degP_take ht x)
      obtain ⟨he1, he2⟩ := ex_range hmm x
      have g3 := Ext.cell hx h3
      have H5 := hid h5
      have C := fun (W : World) (hW : Ext w W) => rmono_degree (S := Old w) _ t.2 x W (H5.out.ext hW (fun _ h => h)) (lt_ext (fun _ h => h) hW) HXB.out
      rw [plainM_yes hmm] at C
      have HC := hid C
      clear h3 h5 hx ht C hmm
      generalize degP (p.take k) x = d at *
      generalize ex t.2 x = q at *
      go_wp2_with fail
      refine (HC.out wr HX.out).mono ?_
      rintro e w1 ⟨rfl, hx1⟩
      have k3 := hx1.cell g3
      have HX1 := hid (HX.out.trans hx1)
      clear hx1 g3
      by_cases hgt : d < q
      · go_wp2_with fail
        refine (HC.out w1 HX1.out).mono ?_
        rintro e w2 ⟨rfl, hx2⟩
        have HX2 := hid (HX1.out.trans hx2)
        clear hx2
        go_wp2
        go_roundw
        case rel => exact ⟨k + 1, by omega, by go_num, by rw [HS.out]; exact congrArg (Value.int .i64) (by omega), HX2.out⟩
        case measure => simp only [intOf]; omega
      · go_wp2
        go_roundw
        case rel => exact ⟨k + 1, by omega, by go_num, by rw [HS.out]; exact congrArg (Value.int .i64) (by omega), HX1.out⟩
        case measure => simp only [intOf]; omega
    · obtain rfl : k = p.length := by omega
      have HE : Hid (degP (p.take p.length) x = degP p x) := hid (by rw [List.take_length])
      clear hx
      go_wp2
      all_goals
        go_ret
        exact ⟨by rw [HE.out]; rfl, HX.out⟩

theorem leadP_zero {p : PZ} (h : canP p) (h0 : leadP p = 0) : degP p (leadP p) = 0 := by rw [h0]; exact degP_zero h.may (by omega)

set_option maxRecDepth 100000 in
set_option maxHeartbeats 4000000 in
theorem rrank_of (v : Value) (p : PZ) (w : World) (h : RTs (Old w) w v p) (hcan : canP p) :
    Calls Try.prog 11 #[v] w fun e w' => e = .returned (RankV (rankP p)) ∧ Ext w w' := by
  have HK := hid (Ext.alloc (Ext.refl w) (.cells #[.int .i64 0, .int .i64 0] 30))
  have H := hid (RTs.on h HK.out)
  have HC := hid hcan
  have hcl := rview_class _ p _ H.out hcan.may
  rw [clsP_lead hcan] at hcl
  have HCL := hid hcl
  have hDeg := fun (W : World) (hW : Ext (w.alloc (.cells #[.int .i64 0, .int .i64 0] 30)) W) => rview_degree v p (leadP p) W (RTs.on H.out hW) hcan.may (by have := leadP_range hcan; omega)
  have HDEG := hid hDeg
  have HZ := hid (leadP_zero hcan)
  have er : rankP p = (leadP p, degP p (leadP p)) := rfl
  obtain ⟨hl1, hl2⟩ := leadP_range hcan
  obtain ⟨a, cap, rfl⟩ := h.form
  rw [er]
  clear h hcan hcl hDeg er
  generalize leadP p = c at *
  generalize degP p c = d at *
  go_enter Try.func11, Try.ntmps11
  go_wp2_with fail
  refine HCL.out.mono ?_
  rintro e w1 ⟨rfl, hx1⟩
  have HX1 := hid hx1
  by_cases hc : c = 0
  · subst hc
    have hd0 : d = 0 := HZ.out rfl
    subst hd0
    obtain ⟨c0, c1, f0, f1⟩ := new2 hx1
    have HE := hid (And.intro c0 c1)
    clear hx1
    go_wp2
    have hd := fun x y => two_set x y HE.out.1 HE.out.2
    refine bodyPost_ret (by simp [results, Try.results11, go_sem, (hd _ _).1, (hd _ _).2]; rfl) rfl ?_
    exact ⟨rfl, (HK.out.trans HX1.out).set2 (Nat.le_refl _) _ _⟩
  · have hb : (c == 0) = false := by rw [beq_eq_false_iff_ne]; exact hc
    clear hx1
    go_wp2_with fail
    refine (HDEG.out w1 HX1.out).mono ?_
    rintro e w2 ⟨rfl, hx2⟩
    obtain ⟨c0, c1, f0, f1⟩ := new2 (HX1.out.trans hx2)
    have HE := hid (And.intro c0 c1)
    have HX2 := hid (HX1.out.trans hx2)
    clear hx2
    go_wp2
    have hd := fun x y => two_set x y HE.out.1 HE.out.2
    refine bodyPost_ret (by simp [results, Try.results11, go_sem, (hd _ _).1, (hd _ _).2]; rfl) rfl ?_
    exact ⟨rfl, (HK.out.trans HX2.out).set2 (Nat.le_refl _) _ _⟩
end Go.Proofs.Ythplgldclilccaa

namespace Go.Proofs.Ythplgldclilccaa
open Go.RowKit

set_option maxRecDepth 100000 in
set_option maxHeartbeats 4000000 in
theorem rrank_less (a b : Int × Int) (w : World) (ha : inRank a) (hb : inRank b) :
    Calls Try.prog 12 #[RankV a, RankV b] w fun e w' => e = .returned (.bool (lessR a b)) ∧ Ext w w' := by
  obtain ⟨a1, a2⟩ := a
  obtain ⟨b1, b2⟩ := b
  unfold RankV
  simp only
  have HK := hid (Ext.alloc (Ext.alloc (Ext.refl w) (.cells #[.int .i64 a1, .int .i64 a2] 30)) (.cells #[.int .i64 b1, .int .i64 b2] 30))
  have ia1 : -9223372036854775808 ≤ a1 ∧ a1 ≤ 9223372036854775807 := ha.1
  have ia2 : -9223372036854775808 ≤ a2 ∧ a2 ≤ 9223372036854775807 := ha.2
  have ib1 : -9223372036854775808 ≤ b1 ∧ b1 ≤ 9223372036854775807 := hb.1
  have ib2 : -9223372036854775808 ≤ b2 ∧ b2 ≤ 9223372036854775807 := hb.2
  clear ha hb
  rcases Int.lt_trichotomy a1 b1 with h | h | h
  · have HF : Hid (lessR (a1, a2) (b1, b2) = true) := hid (decide_eq_true (.inl h))
    have hb1 : decide (a1 < b1) = true := decide_eq_true h
    go_enter Try.func12, Try.ntmps12
    go_wp2
    all_goals
      go_ret
      exact ⟨by rw [HF.out]; rfl, HK.out⟩
  · subst h
    by_cases h2 : a2 < b2
    · have HF : Hid (lessR (a1, a2) (a1, b2) = true) := hid (decide_eq_true (.inr ⟨rfl, h2⟩))
      go_enter Try.func12, Try.ntmps12
      go_wp2
      all_goals
        go_ret
        exact ⟨by rw [HF.out]; rfl, HK.out⟩
    · have HF : Hid (lessR (a1, a2) (a1, b2) = false) := hid (decide_eq_false (by
        rintro (e | ⟨e, e2⟩)
        · have e' : a1 < a1 := e
          omega
        · exact h2 e2))
      go_enter Try.func12, Try.ntmps12
      go_wp2
      all_goals
        go_ret
        exact ⟨by rw [HF.out]; rfl, HK.out⟩
  · have HF : Hid (lessR (a1, a2) (b1, b2) = false) := hid (decide_eq_false (by
      rintro (e | ⟨e, e2⟩)
      · have e' : a1 < b1 := e
        omega
      · have e' : a1 = b1 := e
        omega))
    have hb1 : (a1 == b1) = false := by rw [beq_eq_false_iff_ne]; omega
    go_enter Try.func12, Try.ntmps12
    go_wp2
    all_goals
      go_ret
      exact ⟨by rw [HF.out]; show Ending.returned (.bool (decide (a1 < b1))) = _; rw [decide_eq_false (by omega)], HK.out⟩

/-- slices of polynomials of the document -/
def RPs (S : Nat → Prop) (w : World) (v : Value) (l : List PZ) : Prop :=
  ∃ b off, SliceAt S v l.length b off ∧ ∀ j p, l[j]? = some p → ∃ vp, w.cell? ⟨b, off + j, none⟩ = some vp ∧ RTs S w vp p
section
variable {S S' : Nat → Prop} {w w' : World} {v : Value} {l : List PZ}
theorem RPs.to (h : RPs S w v l) (hk : Kept S w w') (hS : ∀ k, S k → S' k) : RPs S' w' v l := by
  obtain ⟨b, off, hs, hc⟩ := h
  refine ⟨b, off, hs.mono hS, fun j p hj => ?_⟩
  obtain ⟨vp, h1, h2⟩ := hc j p hj
  exact ⟨vp, hk.cell (hs.in (lt_of_some hj)) h1, h2.to hk hS⟩
theorem RPs.form (h : RPs S w v l) : ∃ a cap, v = .slice a l.length cap := by
  obtain ⟨b, off, ⟨a, cap, h1, _⟩, _⟩ := h
  exact ⟨a, cap, h1⟩
theorem RPs.len_le (h : RPs S w v l) : l.length ≤ 9223372036854775807 := by
  obtain ⟨b, off, ⟨a, cap, h1, h2, h3, _⟩, _⟩ := h
  unfold maxLen at h3
  omega
theorem RPs.cellAt {a : Option Addr} {n cap k : Nat} {p : PZ} (h : RPs S w (.slice a n cap) l) (ht : l[k]? = some p) :
    ∃ b off vp, a = some ⟨b, off, none⟩ ∧ n = l.length ∧ n ≤ cap ∧ cap ≤ 9223372036854775807 ∧ S b ∧ w.cell? ⟨b, off + k, none⟩ = some vp ∧ RTs S w vp p := by
  obtain ⟨b, off, ⟨a', cap', h1, h2, h3, h4, h5⟩, hc⟩ := h
  obtain ⟨rfl, rfl, rfl⟩ : a = a' ∧ n = l.length ∧ cap = cap' := by simpa using h1
  have hp : 0 < l.length := by have := lt_of_some ht; omega
  obtain ⟨vp, g1, g2⟩ := hc k p ht
  exact ⟨b, off, vp, h4 hp, rfl, h2, h3, h5 hp, g1, g2⟩
end
theorem RPs.on {w W : World} {v : Value} {l : List PZ} (h : RPs (Old w) w v l) (hx : Ext w W) : RPs (Old W) W v l := h.to (Kept.ext hx (fun _ h => h)) (old_lt hx)

end Go.Proofs.Ythplgldclilccaa

namespace Go.Proofs.Ythplgldclilccaa
open Go.RowKit

def bigTerm (t : RTerm) : Bool := decide (20 < t.c.mag.length) || decide (12 < t.m.length)
def greatT (n : Int) (ts : List RTerm) : Bool := ts.any bigTerm || decide (n < (ts.length : Int))

set_option maxRecDepth 100000 in
set_option maxHeartbeats 4000000 in
theorem rpoly_great {S : Nat → Prop} (v : Value) (ts : List RTerm) (n : Int) (w : World) (h : Terms S w v ts) (_hS : ∀ k, S k → k < w.heap.size) (hn : -9223372036854775808 ≤ n ∧ n ≤ 9223372036854775807) :
    Calls Try.prog 27 #[v, .int .i64 n] w fun e w' => e = .returned (.bool (greatT n ts)) ∧ Ext w w' := by
  have H := hid h
  have hl := h.len_le
  obtain ⟨hn1, hn2⟩ := hn
  obtain ⟨a, cap, rfl⟩ := h.form
  clear h
  go_enter Try.func27, Try.ntmps27
  go_wp2
  go_loopw [5] (fun i wr => ∃ k : Nat, k ≤ ts.length ∧ i = .int .i64 k ∧ Ext w wr ∧ Hid ((ts.take k).any bigTerm = false)) (fun i _ => ts.length - (intOf i).toNat)
  case atStart => exact ⟨0, Nat.zero_le _, rfl, Ext.refl _, hid rfl⟩
  case round =>
    obtain ⟨k, hk, rfl, hx, HM⟩ := hrel
    have HX := hid hx
    by_cases hlt : k < ts.length
    · obtain ⟨t, ht⟩ := some_of_lt hlt
      obtain ⟨b, off, vm, vo, rfl, -, hq1, hm1, hSb, h1, h2, h3, h4, h5⟩ := H.out.cellAt ht
      have HT : Hid (ts.take (k + 1) = ts.take k ++ [t]) := hid (by rw [List.take_add_one, ht]; rfl)
      have HQ := hid (List.mem_of_getElem? ht)
      have hl1 := h4.len_le
      have hl2 := h5.len_le
      have HBT : Hid (bigTerm t = (decide (20 < t.c.mag.length) || decide (12 < t.m.length))) := hid rfl
      have g1 := Ext.cell hx h1
      have g2 := Ext.cell hx h2
      have g3 := Ext.cell hx h3
      obtain ⟨am, cm, rfl⟩ := h4.form
      obtain ⟨ao, co, rfl⟩ := h5.form
      generalize t.c.mag.length = x at *
      generalize t.m.length = y at *
      clear hx ht h1 h2 h3 h4 h5
      by_cases hbig : 20 < x
      · have HF : Hid (greatT n ts = true) := hid (by
          unfold greatT
          rw [List.any_eq_true.2 ⟨t, HQ.out, by rw [HBT.out, decide_eq_true hbig]; rfl⟩]
          rfl)
        go_wp2
        all_goals
          go_ret
          exact ⟨by rw [HF.out]; rfl, HX.out⟩
      · by_cases hbig2 : 12 < y
        · have HF : Hid (greatT n ts = true) := hid (by
            unfold greatT
            rw [List.any_eq_true.2 ⟨t, HQ.out, by rw [HBT.out, decide_eq_true hbig2, Bool.or_true]⟩]
            rfl)
          go_wp2
          all_goals
            go_ret
            exact ⟨by rw [HF.out]; rfl, HX.out⟩
        · go_wp2
          go_roundw
          case rel => exact ⟨k + 1, by omega, by go_num, HX.out, hid (by rw [HT.out, List.any_append, HM.out]; simp [HBT.out]; omega)⟩
          case measure => simp only [intOf]; omega
    · obtain rfl : k = ts.length := by omega
      have HF : Hid (greatT n ts = decide (n < (ts.length : Int))) := hid (by
        have := HM.out
        rw [List.take_length] at this
        unfold greatT
        rw [this, Bool.false_or])
      clear hx
      go_wp2
      all_goals
        go_ret
        exact ⟨by rw [HF.out]; rfl, HX.out⟩

def greatL (ls : List (List RTerm)) : Bool := ls.any (greatT 12) || decide (8 < ls.length)

set_option maxRecDepth 100000 in
set_option maxHeartbeats 4000000 in
theorem law15_great {S : Nat → Prop} (v : Value) (ls : List (List RTerm)) (w : World) (h : Polys S w v ls) (hS : ∀ k, S k → k < w.heap.size) :
    Calls Try.prog 8 #[v] w fun e w' => e = .returned (.bool (greatL ls)) ∧ Ext w w' := by
  have H := hid h
  have hl := h.len_le
  obtain ⟨a, cap, rfl⟩ := h.form
  clear h
  go_enter Try.func8, Try.ntmps8
  go_wp2
  go_loopw [7] (fun i wr => ∃ k : Nat, k ≤ ls.length ∧ i = .int .i64 k ∧ Ext w wr ∧ Hid ((ls.take k).any (greatT 12) = false)) (fun i _ => ls.length - (intOf i).toNat)
  case atStart => exact ⟨0, Nat.zero_le _, rfl, Ext.refl _, hid rfl⟩
  case round =>
    obtain ⟨k, hk, rfl, hx, HM⟩ := hrel
    have HX := hid hx
    by_cases hlt : k < ls.length
    · obtain ⟨t, ht⟩ := some_of_lt hlt
      obtain ⟨b, off, vp, rfl, -, hq1, hm1, hSb, h1, h2⟩ := H.out.cellAt ht
      have HT : Hid (ls.take (k + 1) = ls.take k ++ [t]) := hid (by rw [List.take_add_one, ht]; rfl)
      have HQ := hid (List.mem_of_getElem? ht)
      have g1 := Ext.cell hx h1
      have C := rpoly_great (S := S) vp t 12 wr (h2.ext hx hS) (lt_ext hS hx) (by omega)
      obtain ⟨am, cm, rfl⟩ := h2.form
      generalize hr : greatT 12 t = r at *
      have HR := hid hr
      have HC := hid C
      clear hx ht h1 h2 C hr
      cases r with
      | true =>
        have HF : Hid (greatL ls = true) := hid (by
          unfold greatL
          rw [List.any_eq_true.2 ⟨t, HQ.out, HR.out⟩]
          rfl)
        go_wp2_with fail
        refine HC.out.mono ?_
        rintro e w1 ⟨rfl, hx1⟩
        have HX1 := hid (HX.out.trans hx1)
        clear hx1
        go_wp2
        all_goals
          go_ret
          exact ⟨by rw [HF.out]; rfl, HX1.out⟩
      | false =>
        go_wp2_with fail
        refine HC.out.mono ?_
        rintro e w1 ⟨rfl, hx1⟩
        have HX1 := hid (HX.out.trans hx1)
        clear hx1
        go_wp2
        go_roundw
        case rel => exact ⟨k + 1, by omega, by go_num, HX1.out, hid (by rw [HT.out, List.any_append, HM.out]; simp [HR.out])⟩
        case measure => simp only [intOf]; omega
    · obtain rfl : k = ls.length := by omega
      have HF : Hid (greatL ls = decide (8 < (ls.length : Int))) := hid (by
        have := HM.out
        rw [List.take_length] at this
        unfold greatL
        rw [this, Bool.false_or, decide_eq_decide]
        omega)
      clear hx
      go_wp2
      all_goals
        go_ret
        exact ⟨by rw [HF.out]; rfl, HX.out⟩

/-- what is not too great -/
theorem fit_of {ls : List (List RTerm)} (h : greatL ls = false) : ls.length ≤ 8 ∧ ∀ ts ∈ ls, ts.length ≤ 12 ∧ ∀ t ∈ ts, t.c.mag.length ≤ 20 ∧ t.m.length ≤ 12 := by
  unfold greatL at h
  rw [Bool.or_eq_false_iff] at h
  obtain ⟨h1, h2⟩ := h
  refine ⟨by simpa using h2, fun ts hts => ?_⟩
  have := (List.any_eq_false.1 h1) ts hts
  unfold greatT at this
  simp only [Bool.not_eq_true, Bool.or_eq_false_iff] at this
  obtain ⟨k1, k2⟩ := this
  refine ⟨?_, fun t ht => ?_⟩
  · rw [decide_eq_false_iff_not] at k2
    omega
  · have k3 := (List.any_eq_false.1 k1) t ht
    unfold bigTerm at k3
    simp at k3
    omega
end Go.Proofs.Ythplgldclilccaa

namespace Go.Proofs.Ythplgldclilccaa
open Go.RowKit

def CellsP (S : Nat → Prop) (w : World) (xs : List Value) (l : List PZ) : Prop := xs.length = l.length ∧ ∀ (j : Nat) (p : PZ), l[j]? = some p → ∃ vp, xs[j]? = some vp ∧ RTs S w vp p
theorem CellsP.nil (S : Nat → Prop) (w : World) : CellsP S w [] [] := ⟨rfl, fun j p h => by simp at h⟩
theorem CellsP.to {S S' : Nat → Prop} {w w' : World} {xs : List Value} {l : List PZ} (h : CellsP S w xs l) (hk : Kept S w w') (hS : ∀ k, S k → S' k) : CellsP S' w' xs l :=
  ⟨h.1, fun j p hj => by
    obtain ⟨vp, h1, h2⟩ := h.2 j p hj
    exact ⟨vp, h1, h2.to hk hS⟩⟩
theorem CellsP.snoc {S : Nat → Prop} {w : World} {xs : List Value} {l : List PZ} {v : Value} {p : PZ} (h : CellsP S w xs l) (hv : RTs S w v p) : CellsP S w (xs ++ [v]) (l ++ [p]) := by
  refine ⟨by simp [h.1], fun j q hj => ?_⟩
  by_cases hlt : j < l.length
  · rw [List.getElem?_append_left hlt] at hj
    rw [List.getElem?_append_left (by rw [h.1]; exact hlt)]
    exact h.2 j q hj
  · have hj2 := lt_of_some hj
    simp only [List.length_append, List.length_cons, List.length_nil] at hj2
    obtain rfl : j = l.length := by omega
    rw [List.getElem?_append_right (Nat.le_refl _), Nat.sub_self] at hj
    obtain rfl : p = q := by simpa using hj
    refine ⟨v, ?_, hv⟩
    rw [← h.1, List.getElem?_append_right (Nat.le_refl _), Nat.sub_self]
    rfl
theorem own_rps {S : Nat → Prop} {w : World} {base : Nat} {e : TypeId} {v : Value} {xs : List Value} {l : List PZ} (h : w.ownsRow base e 1 v l.length xs) (hc : CellsP S w xs l) (hB : ∀ k, base ≤ k → k < w.heap.size → S k) : RPs S w v l := by
  have hlt := h.lt
  rcases h.2 with ⟨rfl, h0⟩ | ⟨g, cap, cur, rfl, hg, hh, h1, h2, h3, h4⟩
  · obtain rfl : l = [] := List.length_eq_zero_iff.1 h0
    exact ⟨0, 0, ⟨none, 0, rfl, Nat.zero_le _, by decide, fun h => absurd h (Nat.lt_irrefl 0), fun h => absurd h (Nat.lt_irrefl 0)⟩, fun j t hj => by simp at hj⟩
  · refine ⟨g, 0, ⟨_, cap, rfl, h1, h2, fun _ => rfl, fun _ => hB g (hlt g rfl).1 (hlt g rfl).2⟩, fun j t hj => ?_⟩
    obtain ⟨vp, g1, g2⟩ := hc.2 j t hj
    have hb := lt_of_some hj
    refine ⟨vp, ?_, g2⟩
    rw [h.cellAt (0 + j) (by omega), Nat.zero_add]
    exact g1
theorem Try.infoP : (Try.prog.info? 33).map (fun i => (i.zero, i.size, i.bytes)) = some (some (.slice none 0 0), 1, 24) := by kernel_rfl

section
variable {S : Nat → Prop} {w w1 w2 : World} {o : Value} {e : TypeId} {size n : Nat} {xs : List Value}
theorem cellsP_ext {l : List PZ} (hS : ∀ k, S k → k < w.heap.size) (h0 : Ext w w1) (h : CellsP (Off S w w1 o) w1 xs l) (hx : Ext w1 w2) : CellsP (Off S w w2 o) w2 xs l :=
  h.to (Kept.ext hx (fun k h => plus_lt hS h0 k h.1)) (fun k h => ⟨plus_grow hx.size k h.1, h.2⟩)
/-- a polynomial that was made behind a slice -/
theorem rts_off {v : Value} {p : PZ} (hS : ∀ k, S k → k < w.heap.size) (h0 : Ext w w1) (ho : w1.ownsRow w.heap.size e size o n xs) (_hx : Ext w1 w2) (h : RTs (Plus S w1 w2) w2 v p) : RTs (Off S w w2 o) w2 v p :=
  h.to (Kept.refl _ _) (fun k hk => by
    rcases hk with hk | hk
    · refine ⟨.inl hk, fun e => ?_⟩
      have := (ho.lt k e.symm).1
      have := hS k hk
      omega
    · refine ⟨.inr ⟨Nat.le_trans h0.size hk.1, hk.2⟩, fun e => ?_⟩
      have := (ho.lt k e.symm).2
      have := hk.1
      omega)
theorem cellsP_grown {v3 : Value} {w3 : World} {l : List PZ} (hS : ∀ k, S k → k < w.heap.size) (hx : Ext w w2) (h : CellsP (Off S w w2 o) w2 xs l) (hg : w2.grownBy w3 o.ownBlock) (hb : v3.ownBlock = o.ownBlock ∨ v3.ownBlock = some (w2.heap.size + 1)) : CellsP (Off S w w3 v3) w3 xs l :=
  h.to (Kept.grown hg (fun k hk => ⟨plus_lt hS hx k hk.1, hk.2⟩)) (fun k hk => ⟨plus_grow hg.size k hk.1, off_still hS hx hk hb⟩)
end

/-- sizes that the document's numbers take -/
def fitT (ts : List RTerm) : Prop := tinyT ts ∧ ts.length ≤ 1000000
theorem szP_toP {ts : List RTerm} (hok : okT ts) (h : fitT ts) : szP (toP ts) := by
  refine ⟨by rw [toP_length]; exact Nat.le_trans h.2 (by decide), fun t ht => ?_⟩
  obtain ⟨u, hu, rfl⟩ := List.mem_map.1 ht
  exact szZ_of (hok u hu) (h.1 u hu)
theorem szP_take {p : PZ} (h : szP p) (k : Nat) : szP (p.take k) := ⟨Nat.le_trans (by rw [List.length_take]; exact Nat.min_le_right _ _) h.1, fun t ht => h.2 t (List.mem_of_mem_take ht)⟩
theorem addP_take {p : PZ} (h : canP p) (k : Nat) : addP [] (p.take k) = p.take k := normP_of_can (canP_sublist h (List.take_sublist _ _))
theorem plainP_yes {ts : List RTerm} (h : mayT ts = true) : plainP ts = toP ts := by unfold plainP; simp [h]
theorem plainP_no {ts : List RTerm} (h : mayT ts = false) : plainP ts = [] := by unfold plainP; simp [h]

set_option maxRecDepth 100000 in
set_option maxHeartbeats 8000000 in
theorem law15_plain {S : Nat → Prop} (v : Value) (ls : List (List RTerm)) (w : World) (h : Polys S w v ls) (hS : ∀ k, S k → k < w.heap.size) (hfit : ∀ ts ∈ ls, fitT ts) (hlen : ls.length ≤ 1000000) :
    Calls Try.prog 10 #[v] w fun e w' => ∃ v', e = .returned v' ∧ RPs (Plus S w w') w' v' (ls.map plainP) ∧ Ext w w' := by
  have H := hid h
  have HF := hid hfit
  have HL := hid hlen
  have hl := h.len_le
  obtain ⟨a, cap, rfl⟩ := h.form
  clear h hfit hlen
  go_enter Try.func10, Try.ntmps10
  go_wp2
  go_loopw [3, 7] (fun o i wr => ∃ k xs, k ≤ ls.length ∧ i = .int .i64 (k : Nat) ∧ Ext w wr ∧ Hid (wr.ownsRow w.heap.size 33 1 o k xs) ∧ Hid (CellsP (Off S w wr o) wr xs ((ls.take k).map plainP))) (fun _ i _ => ls.length - (intOf i).toNat)
  case atStart => exact ⟨0, [], Nat.zero_le _, rfl, Ext.refl _, hid (World.ownsRow_nil _ _ _ _), hid (CellsP.nil _ _)⟩
  case round =>
    obtain ⟨k, xs, hk, rfl, hx, HW, HXS⟩ := hrel
    have HX := hid hx
    by_cases hlt : k < ls.length
    · obtain ⟨t, ht⟩ := some_of_lt hlt
      obtain ⟨b, off, vp, rfl, -, hq1, hm1, hSb, h1, h2⟩ := H.out.cellAt ht
      have HT : Hid ((ls.take (k + 1)).map plainP = (ls.take k).map plainP ++ [plainP t]) := hid (by rw [List.take_add_one, ht, List.map_append]; rfl)
      have HFT := hid (HF.out t (List.mem_of_getElem? ht))
      have g1 := Ext.cell hx h1
      have C := rpoly_may (S := S) vp t wr (h2.ext hx hS) (lt_ext hS hx) HFT.out.1
      have HOK := hid h2.okT
      have H2 := hid h2
      obtain ⟨am, cm, rfl⟩ := h2.form
      generalize hr : mayT t = r at *
      have HR := hid hr
      have HC := hid C
      clear hx ht h1 h2 C hr
      cases r with
      | true =>
        have HPP := hid (plainP_yes HR.out)
        have HCAN := hid (mayT_can HR.out)
        go_wp2_with fail
        refine HC.out.mono ?_
        rintro e w1 ⟨rfl, hx1⟩
        have HX1 := hid (HX.out.trans hx1)
        have k1 := hx1.cell g1
        have HW1 := hid (own_ext HW.out hx1)
        have HXS1 := hid (cellsP_ext hS HX.out HXS.out hx1)
        have CO := hid (rpoly_of (S := S) _ t w1 (H2.out.ext HX1.out hS) (lt_ext hS HX1.out) HFT.out.1 HCAN.out.may (fun k _ => by rw [addP_take HCAN.out]; exact szP_take (szP_toP HOK.out HFT.out) k))
        clear hx1 g1
        go_wp2_with fail
        refine CO.out.mono ?_
        rintro e w2 ⟨v2, rfl, hp2, hx2⟩
        have HX2 := hid (HX1.out.trans hx2)
        have HW2 := hid (own_ext HW1.out hx2)
        have HXS2 := hid (cellsP_ext hS HX1.out HXS1.out hx2)
        have HP2 := hid (rts_off hS HX1.out HW1.out hx2 hp2)
        obtain ⟨a2, c2, rfl⟩ := hp2.form
        obtain ⟨n2, hn2⟩ : ∃ n, n = (normP (toP t)).length := ⟨_, rfl⟩
        rw [← hn2] at HP2 ⊢
        clear hx2 hp2 hn2
        go_wp2_with (at_builtin; refine wpList_append_new _ rfl (.tmp 15) (.tmp 21) 27 rfl w.heap.size 33 (.slice none 0 0) 1 24 Try.underlying27 Try.infoP rfl (by decide) _ k xs rfl HW2.out #[.slice a2 n2 c2] rfl (one_cell rfl) rfl (by have := HL.out; omega) (by decide) HX2.out.size ?_; intro v3 w3 hown hg hbk; have HW3 := hid hown; have HG3 := hid hg; have HBK := hid hbk; clear hown hg hbk)
        go_roundw
        case rel =>
          refine ⟨k + 1, xs ++ [.slice a2 n2 c2], by omega, by go_num, own_grown0 HX2.out HW2.out HG3.out, HW3, hid ?_⟩
          rw [HT.out, HPP.out, ← normP_of_can HCAN.out]
          exact cellsP_grown hS HX2.out (HXS2.out.snoc HP2.out) HG3.out HBK.out
        case measure => simp only [intOf]; omega
      | false =>
        have HPP := hid (plainP_no HR.out)
        go_wp2_with fail
        refine HC.out.mono ?_
        rintro e w1 ⟨rfl, hx1⟩
        have HX1 := hid (HX.out.trans hx1)
        have HW1 := hid (own_ext HW.out hx1)
        have HXS1 := hid (cellsP_ext hS HX.out HXS.out hx1)
        clear hx1
        go_wp2_with (at_builtin; refine wpList_append_new _ rfl (.tmp 23) (.tmp 24) 27 rfl w.heap.size 33 (.slice none 0 0) 1 24 Try.underlying27 Try.infoP rfl (by decide) _ k xs rfl HW1.out #[.slice none 0 0] rfl (one_cell rfl) rfl (by have := HL.out; omega) (by decide) HX1.out.size ?_; intro v3 w3 hown hg hbk; have HW3 := hid hown; have HG3 := hid hg; have HBK := hid hbk; clear hown hg hbk)
        go_roundw
        case rel =>
          refine ⟨k + 1, xs ++ [.slice none 0 0], by omega, by go_num, own_grown0 HX1.out HW1.out HG3.out, HW3, hid ?_⟩
          rw [HT.out, HPP.out]
          exact cellsP_grown hS HX1.out (HXS1.out.snoc (RTs.nilv _ _ _ _ (by omega))) HG3.out HBK.out
        case measure => simp only [intOf]; omega
    · obtain rfl : k = ls.length := by omega
      have HE : Hid (ls.take ls.length = ls) := hid (List.take_length)
      clear hx
      go_wp2
      go_ret
      refine ⟨_, rfl, ?_, HX.out⟩
      have hc := HXS.out
      rw [HE.out] at hc
      refine own_rps (by rw [List.length_map]; exact HW.out) (hc.to (Kept.refl _ _) (fun _ h => h.1)) (fun k h1 h2 => .inr ⟨h1, h2⟩)
theorem fit_T {ts : List RTerm} (h : ts.length ≤ 12 ∧ ∀ t ∈ ts, t.c.mag.length ≤ 20 ∧ t.m.length ≤ 12) : fitT ts ∧ smallT ts :=
  ⟨⟨fun t ht => Nat.le_trans (h.2 t ht).1 (by omega), Nat.le_trans h.1 (by omega)⟩, fun t ht => Nat.le_trans (h.2 t ht).1 (by omega)⟩
end Go.Proofs.Ythplgldclilccaa

namespace Go.Proofs.Ythplgldclilccaa
open Go.RowKit

theorem small_bnd {p : PZ} {k : Nat} (h : bndZ k p) (hk : k ≤ 40000000000000) : smallT (ofP p) := fun t ht => by
  obtain ⟨u, hu, rfl⟩ := List.mem_map.1 ht
  show (ofI u.1).mag.length ≤ _
  rw [ofI_len]
  exact Nat.le_trans (lenI_lt (h u hu)) hk
theorem bnd_plain {ts : List RTerm} {k : Nat} (hok : okT ts) (h : ∀ t ∈ ts, t.c.mag.length ≤ k) : bndZ k (plainP ts) := fun u hu => by
  unfold plainP at hu
  split at hu
  · obtain ⟨t, ht, rfl⟩ := List.mem_map.1 hu
    exact lenI_mono (valI_len (hok t ht)) (h t ht)
  · simp at hu
theorem bnd_coef {p : PZ} {k : Nat} (h : bndZ k p) (v e : Int) : bndZ k (coefP p v e) := fun u hu => by
  obtain ⟨t, ht, -, rfl⟩ := coefP_mem hu
  exact h t ht
theorem bnd_init {p : PZ} {k : Nat} (h : bndZ k p) : bndZ k (initP p) := by
  unfold initP
  split
  · exact h
  · exact bnd_coef h _ _
theorem bnd_tail {p : PZ} {k : Nat} (h : bndZ k p) : bndZ k (tailP p) := fun u hu => h u ((tailP_sub p).mem hu)
theorem bnd_der {p : PZ} {k : Nat} (hm : mayAll p) (h : bndZ k p) (v : Int) : bndZ (k + 1) (derP p v) := fun u hu => by
  obtain ⟨t, ht, -, rfl⟩ := derP_mem hu
  exact lenI_mono (lenI_prod (lenI_lt (h t ht)) (lenI_small (ex_range (hm t ht) v))) (Nat.le_refl _)

theorem bnd_lens {p : PZ} {k : Nat} (h : bndZ k p) : ∀ t ∈ ofP p, t.c.mag.length ≤ k := fun t ht => by
  obtain ⟨u, hu, rfl⟩ := List.mem_map.1 ht
  show (ofI u.1).mag.length ≤ _
  rw [ofI_len]
  exact lenI_lt (h u hu)
theorem great_fit {n : Nat} {ts : List RTerm} (h : greatT n ts = false) : ts.length ≤ n ∧ ∀ t ∈ ts, t.c.mag.length ≤ 20 ∧ t.m.length ≤ 12 := by
  unfold greatT at h
  rw [Bool.or_eq_false_iff] at h
  obtain ⟨k1, k2⟩ := h
  refine ⟨?_, fun t ht => ?_⟩
  · rw [decide_eq_false_iff_not] at k2
    omega
  · have k3 := (List.any_eq_false.1 k1) t ht
    unfold bigTerm at k3
    simp at k3
    omega
theorem der_len (p : PZ) (v : Int) : (derP p v).length ≤ p.length := List.length_filterMap_le _ _
theorem ofP_len (p : PZ) : (ofP p).length = p.length := by unfold ofP; rw [List.length_map]
theorem plain_len (ts : List RTerm) : (plainP ts).length ≤ ts.length := by
  unfold plainP
  split
  · unfold toP; rw [List.length_map]; exact Nat.le_refl _
  · simp
end Go.Proofs.Ythplgldclilccaa

namespace Go.Proofs.Ythplgldclilccaa
open Go.RowKit

theorem szZ_le {z : Int} {n : Nat} (h : z.natAbs < 10 ^ n) (hn : n ≤ 2000000) : szZ z := Nat.le_trans (rep_len_le two_le_10 _ _ h) hn
theorem szZ_i64 {n : Nat} (h : n < 9223372036854775808) : szZ (n : Int) := szZ_le (n := 19) (by simp only [Int.natAbs_natCast]; omega) (by omega)
/-- a number as a polynomial -/
def numP (n : Nat) : PZ := putP [] (n : Int) []
theorem New.plus {w w1 : World} : ∀ k, Plus (fun _ => False) w w1 k → New w w1 k := fun k hk => by
  rcases hk with h | h
  · exact h.elim
  · exact h

set_option maxRecDepth 100000 in
set_option maxHeartbeats 4000000 in
theorem rpoly_small (n : Nat) (w : World) (hn : n < 9223372036854775808) :
    Calls Try.prog 34 #[.int .i64 (n : Nat)] w fun e w' => ∃ v', e = .returned v' ∧ RTs (New w w') w' v' (numP n) ∧ Ext w w' := by
  have C1 := hid (zed_small n w hn)
  have HZ := hid (szZ_i64 hn)
  clear hn
  go_enter Try.func34, Try.ntmps34
  go_wp2_with fail
  refine C1.out.mono ?_
  rintro e w1 ⟨v1, rfl, hz1, hx1⟩
  have HX1 := hid hx1
  have C2 := hid (rpoly_put (S := New w w1) (.slice none 0 0) v1 (.slice none 0 0) [] (n : Int) [] w1 (fun _ h => h.2) (RTs.nilv _ _ _ _ (by omega)) hz1 (Pows.empty _ _ _) canP_nil.may rfl ⟨by simp, fun t ht => by simp at ht⟩ HZ.out)
  clear hx1 hz1
  go_wp2_with fail
  refine C2.out.mono ?_
  rintro e w2 ⟨v2, rfl, hp2, hx2⟩
  have HX2 := hid (HX1.out.trans hx2)
  have HP2 : Hid (RTs (New w w2) w2 v2 (numP n)) := hid (hp2.to (Kept.refl _ _) (fun k hk => by
    rcases hk with h | h
    · exact ⟨h.1, Nat.lt_of_lt_of_le h.2 hx2.size⟩
    · exact ⟨Nat.le_trans HX1.out.size h.1, h.2⟩))
  clear hp2 hx2
  go_wp2
  all_goals
    go_ret
    exact ⟨_, rfl, HP2.out, HX2.out⟩

set_option maxRecDepth 100000 in
set_option maxHeartbeats 4000000 in
theorem rpoly_x (x : Int) (w : World) (hx : inI64 x) :
    Calls Try.prog 30 #[.int .i64 x] w fun e w' => ∃ v', e = .returned v' ∧ RTs (New w w') w' v' [(1, [(x, 1)])] ∧ Ext w w' := by
  have C1 := hid (zed_small 1 w (by omega))
  have HXX := hid hx
  clear hx
  go_enter Try.func30, Try.ntmps30
  go_wp2_with fail
  refine C1.out.mono ?_
  rintro e w1 ⟨v1, rfl, hz1, hx1⟩
  obtain ⟨vd, rfl, hd⟩ := hz1
  have HX1 := hid hx1
  have HD := hid hd
  obtain ⟨ad, cd, rfl⟩ := hd.form
  obtain ⟨nd, hnd⟩ : ∃ n, n = (rep 10 ((1 : Nat) : Int).natAbs).length := ⟨_, rfl⟩
  obtain ⟨bd, hbd⟩ : ∃ b, b = decide (((1 : Nat) : Int) < 0) := ⟨_, rfl⟩
  rw [← hnd] at HD ⊢
  rw [← hbd]
  have HB := hid hbd
  clear hx1 hd hnd hbd
  go_wp2
  go_ret
  have x2 : Ext w1 ((w1.alloc (.cells #[.int .i64 x, .int .i64 1] 82)).alloc (.cells #[.bool bd, .slice ad nd cd, .slice (some ⟨w1.heap.size, 0, none⟩) 1 1] 103)) := (Ext.alloc (Ext.alloc (Ext.refl w1) _) _)
  have hb : (w1.alloc (.cells #[.int .i64 x, .int .i64 1] 82)).heap.size = w1.heap.size + 1 := size_alloc _ _
  refine ⟨_, rfl, ?_, HX1.out.trans x2⟩
  refine ⟨w1.heap.size + 1, 0, ⟨_, 1, rfl, Nat.le_refl _, by decide, fun _ => by rw [← hb], fun _ => ⟨Nat.le_trans HX1.out.size (Nat.le_succ _), by rw [size_alloc, hb] <;> omega⟩⟩, fun j t hj => ?_⟩
  have hj0 : j = 0 := by have := lt_of_some hj; simp at this; exact this
  subst hj0
  obtain rfl : (1, [(x, 1)]) = t := by simpa using hj
  refine ⟨.slice ad nd cd, .slice (some ⟨w1.heap.size, 0, none⟩) 1 1, ?_, ?_, ?_, HD.out.to (Kept.ext x2 (fun _ h => h.2)) (fun k h => ⟨h.1, Nat.lt_of_lt_of_le h.2 x2.size⟩), ?_⟩
  · exact cell_new _ _ _ (by rw [hb]) (by rw [HB.out]; rfl)
  · exact cell_new _ _ _ (by rw [hb]) rfl
  · exact cell_new _ _ _ (by rw [hb]) rfl
  · refine ⟨w1.heap.size, 0, ⟨_, 1, rfl, Nat.le_refl _, by decide, fun _ => rfl, fun _ => ⟨HX1.out.size, by rw [size_alloc, hb] <;> omega⟩⟩, fun j t hj => ?_⟩
    have hj0 : j = 0 := by have := lt_of_some hj; simp at this; exact this
    subst hj0
    obtain rfl : (x, 1) = t := by simpa using hj
    have hin : inI64 (1 : Int) := by unfold inI64; omega
    exact ⟨⟨HXX.out, hin⟩, cell_old _ (cell_new _ _ _ rfl rfl), cell_old _ (cell_new _ _ _ rfl rfl)⟩
end Go.Proofs.Ythplgldclilccaa

namespace Go.Proofs.Ythplgldclilccaa
open Go.RowKit

/-- the terms of a product, one by one; nothing, where an exponent is too great -/
def pairP (t u : Int × Mono) : Option (Int × Mono) := (rtimes t.2 u.2).map fun m => (t.1 * u.1, m)
def prodL (p q : PZ) : List (Option (Int × Mono)) := p.flatMap fun t => q.map (pairP t)
/-- all of them, if each is there -/
def allO : List (Option (Int × Mono)) → Option PZ
  | [] => some []
  | none :: _ => none
  | some x :: r => (allO r).map (x :: ·)
def timesP (p q : PZ) : Option PZ := (allO (prodL p q)).map normP
theorem allO_some {xs : PZ} : allO (xs.map some) = some xs := by
  induction xs with
  | nil => rfl
  | cons x r ih => simp only [List.map_cons, allO, ih, Option.map_some]
theorem allO_none {l r : List (Option (Int × Mono))} : allO (l ++ none :: r) = none := by
  induction l with
  | nil => rfl
  | cons x l ih =>
    cases x with
    | none => rfl
    | some x => simp only [List.cons_append, allO, ih, Option.map_none]
theorem prodL_snoc (p q : PZ) (t : Int × Mono) : prodL (p ++ [t]) q = prodL p q ++ q.map (pairP t) := by
  unfold prodL
  rw [List.flatMap_append]
  simp
theorem prodL_take {p : PZ} {k : Nat} {t : Int × Mono} (q : PZ) (h : p[k]? = some t) : prodL (p.take (k + 1)) q = prodL (p.take k) q ++ q.map (pairP t) := by
  rw [List.take_add_one, h]
  exact prodL_snoc _ _ _
theorem prodL_split {p : PZ} {k : Nat} {t : Int × Mono} (q : PZ) (h : p[k]? = some t) : prodL p q = prodL (p.take k) q ++ q.map (pairP t) ++ prodL (p.drop (k + 1)) q := by
  have e : p = p.take k ++ t :: p.drop (k + 1) := by rw [← drop_at h, List.take_append_drop]
  conv => lhs; rw [e]
  unfold prodL
  rw [List.flatMap_append, List.flatMap_cons, List.append_assoc]
/-- bounds of length and of coefficients -/
def bndP (p : PZ) (L M : Nat) : Prop := p.length ≤ L ∧ ∀ t ∈ p, t.1.natAbs ≤ M
theorem putP_len (p : PZ) (c : Int) (m : Mono) : (putP p c m).length ≤ p.length + 1 := by
  induction p with
  | nil => simp only [putP]; split <;> simp
  | cons t r ih =>
    simp only [putP]
    split
    · simp only [List.length_cons]; omega
    · split
      · split <;> simp only [List.length_cons] <;> omega
      · split <;> simp only [List.length_cons] <;> omega
theorem putP_abs {p : PZ} {c : Int} {m : Mono} {M N : Nat} (h : ∀ t ∈ p, t.1.natAbs ≤ M) (hc : c.natAbs ≤ N) : ∀ t ∈ putP p c m, t.1.natAbs ≤ M + N := by
  induction p with
  | nil =>
    intro t ht
    simp only [putP] at ht
    split at ht
    · simp at ht
    · rw [List.mem_singleton.1 ht]; simp only; omega
  | cons u r ih =>
    have hu := h u (by simp)
    have hr : ∀ t ∈ r, t.1.natAbs ≤ M := fun t ht => h t (by simp [ht])
    have ih := ih hr
    intro t ht
    simp only [putP] at ht
    split at ht
    · rcases List.mem_cons.1 ht with rfl | ht
      · omega
      · exact ih t ht
    · split at ht
      · split at ht
        · have := hr t ht; omega
        · rcases List.mem_cons.1 ht with rfl | ht
          · simp only; omega
          · have := hr t ht; omega
      · split at ht
        · have := h t ht; omega
        · rcases List.mem_cons.1 ht with rfl | ht
          · simp only; omega
          · have := h t ht; omega
theorem putP_bnd {p : PZ} {c : Int} {m : Mono} {L M N : Nat} (h : bndP p L M) (hc : c.natAbs ≤ N) : bndP (putP p c m) (L + 1) (M + N) :=
  ⟨Nat.le_trans (putP_len _ _ _) (by have := h.1; omega), putP_abs h.2 hc⟩
theorem addP_bnd {p l : PZ} {L M N : Nat} (h : bndP p L M) (hl : ∀ t ∈ l, t.1.natAbs ≤ N) : bndP (addP p l) (L + l.length) (M + l.length * N) := by
  induction l generalizing p L M with
  | nil => simpa [addP] using h
  | cons t r ih =>
    have h1 := ih (putP_bnd (m := t.2) h (hl t (by simp))) (fun u hu => hl u (by simp [hu]))
    show bndP (addP (putP p t.1 t.2) r) _ _
    simp only [List.length_cons]
    refine ⟨by have := h1.1; omega, fun u hu => ?_⟩
    have := h1.2 u hu
    rw [Nat.add_mul]
    omega
theorem bnd_nil : bndP [] 0 0 := ⟨by simp, fun t ht => by simp at ht⟩
theorem sz_of_bnd {p : PZ} {L M n : Nat} (h : bndP p L M) (hL : L ≤ 100000000) (hM : M < 10 ^ n) (hn : n ≤ 2000000) : szP p :=
  ⟨Nat.le_trans h.1 hL, fun t ht => szZ_le (Nat.lt_of_le_of_lt (h.2 t ht) hM) hn⟩
theorem mayTail_snoc {m : Mono} {l v e : Int} (h : mayTail l m = true) (hv : ∀ x ∈ m, x.1 < v) (hl : l < v) (h2 : v ≤ 200) (h3 : 1 ≤ e ∧ e ≤ 10000) : mayTail l (m ++ [(v, e)]) = true := by
  induction m generalizing l with
  | nil =>
    simp only [List.nil_append, mayTail, Bool.and_true, decide_eq_true_eq]
    omega
  | cons x r ih =>
    simp only [List.cons_append, mayTail, Bool.and_eq_true] at h ⊢
    exact ⟨h.1, ih h.2 (fun y hy => hv y (by simp [hy])) (hv x (by simp))⟩
theorem ofE_vars (f : Nat → Int) (k : Nat) : ∀ x ∈ ofE f k, x.1 ≤ (k : Int) := by
  induction k with
  | zero => intro x hx; simp [ofE] at hx
  | succ k ih =>
    intro x hx
    simp only [ofE] at hx
    split at hx
    · rcases List.mem_append.1 hx with hx | hx
      · have := ih x hx; omega
      · rw [List.mem_singleton.1 hx]; simp only; omega
    · have := ih x hx; omega
theorem ofE_may {f : Nat → Int} {n : Nat} (hn : n ≤ 200) (h : ∀ j, 1 ≤ j → j ≤ n → f j ≤ 10000) : mayM (ofE f n) = true := by
  induction n with
  | zero => rfl
  | succ k ih =>
    have ih := ih (by omega) (fun j h1 h2 => h j h1 (by omega))
    simp only [ofE]
    split
    · rename_i hp
      refine mayTail_snoc ih (fun x hx => ?_) (by omega) (by omega) ⟨by omega, h (k + 1) (by omega) (Nat.le_refl _)⟩
      have := ofE_vars f k x hx
      omega
    · exact ih
theorem overF_not {f : Nat → Int} {n : Nat} (h : overF f n = false) : ∀ j, 1 ≤ j → j ≤ n → f j ≤ 10000 := by
  induction n with
  | zero => intro j h1 h2; omega
  | succ k ih =>
    simp only [overF, Bool.or_eq_false_iff, decide_eq_false_iff_not] at h
    intro j h1 h2
    by_cases e : j = k + 1
    · subst e; have := h.2; omega
    · exact ih h.1 j h1 (by omega)
theorem rtimes_may {a b m : Mono} (h : rtimes a b = some m) : mayM m = true := by
  unfold rtimes at h
  split at h
  · cases h
  · rename_i ho
    cases h
    exact ofE_may (Nat.le_refl _) (overF_not (by simpa using ho))

theorem prodL_length (p q : PZ) : (prodL p q).length = p.length * q.length := by
  induction p with
  | nil => simp [prodL]
  | cons t r ih =>
    have e : prodL (t :: r) q = q.map (pairP t) ++ prodL r q := by unfold prodL; rw [List.flatMap_cons]
    rw [e, List.length_append, List.length_map, ih, List.length_cons, Nat.add_mul]
    omega
theorem prodL_get {p q : PZ} {k j : Nat} {t u : Int × Mono} (ht : p[k]? = some t) (hu : q[j]? = some u) : (prodL p q)[k * q.length + j]? = some (pairP t u) := by
  have hj := lt_of_some hu
  induction p generalizing k with
  | nil => simp at ht
  | cons x r ih =>
    have e : prodL (x :: r) q = q.map (pairP x) ++ prodL r q := by unfold prodL; rw [List.flatMap_cons]
    rw [e]
    cases k with
    | zero =>
      obtain rfl : x = t := by simpa using ht
      rw [Nat.zero_mul, Nat.zero_add, List.getElem?_append_left (by rw [List.length_map]; exact hj), List.getElem?_map, hu]
      rfl
    | succ k =>
      have := ih (k := k) (by simpa using ht)
      rw [List.getElem?_append_right (by rw [List.length_map, Nat.add_mul]; omega), List.length_map, show (k + 1) * q.length + j - q.length = k * q.length + j by rw [Nat.add_mul]; omega]
      exact this
theorem pairP_some {t u x : Int × Mono} (h : pairP t u = some x) : mayM x.2 = true ∧ x.1 = t.1 * u.1 := by
  unfold pairP at h
  cases hr : rtimes t.2 u.2 with
  | none => rw [hr] at h; simp at h
  | some m =>
    rw [hr] at h
    simp at h
    subst h
    exact ⟨rtimes_may hr, rfl⟩
theorem prodL_mem {p q : PZ} {x : Int × Mono} (h : some x ∈ prodL p q) : mayM x.2 = true ∧ ∃ t ∈ p, ∃ u ∈ q, x.1 = t.1 * u.1 := by
  unfold prodL at h
  obtain ⟨t, ht, h⟩ := List.mem_flatMap.1 h
  obtain ⟨u, hu, h⟩ := List.mem_map.1 h
  exact ⟨(pairP_some h).1, t, ht, u, hu, (pairP_some h).2⟩
/-- the first n are there -/
def firstN (p q : PZ) (n : Nat) (xs : PZ) : Prop := (prodL p q).take n = xs.map some
theorem firstN_zero (p q : PZ) : firstN p q 0 [] := rfl
theorem firstN_next {p q : PZ} {n : Nat} {xs : PZ} {x : Int × Mono} (h : firstN p q n xs) (hx : (prodL p q)[n]? = some (some x)) : firstN p q (n + 1) (xs ++ [x]) := by
  unfold firstN at h ⊢
  rw [List.take_add_one, h, hx]
  simp
theorem firstN_none {p q : PZ} {n : Nat} {xs : PZ} (_h : firstN p q n xs) (hx : (prodL p q)[n]? = some none) : timesP p q = none := by
  unfold timesP
  have e : prodL p q = (prodL p q).take n ++ none :: (prodL p q).drop (n + 1) := by rw [← drop_at hx, List.take_append_drop]
  rw [e, allO_none]
  rfl
theorem firstN_all {p q : PZ} {n : Nat} {xs : PZ} (h : firstN p q n xs) (hn : n = p.length * q.length) : timesP p q = some (normP xs) := by
  unfold firstN at h
  rw [List.take_of_length_le (by rw [prodL_length]; omega)] at h
  unfold timesP
  rw [h, allO_some]
  rfl
theorem firstN_mem {p q : PZ} {n : Nat} {xs : PZ} (h : firstN p q n xs) {x : Int × Mono} (hx : x ∈ xs) : mayM x.2 = true ∧ ∃ t ∈ p, ∃ u ∈ q, x.1 = t.1 * u.1 := by
  apply prodL_mem
  have : some x ∈ (prodL p q).take n := by rw [h]; exact List.mem_map.2 ⟨x, hx, rfl⟩
  exact List.mem_of_mem_take this
theorem firstN_len {p q : PZ} {n : Nat} {xs : PZ} (h : firstN p q n xs) : xs.length ≤ p.length * q.length := by
  have h1 : ((prodL p q).take n).length = xs.length := by rw [h, List.length_map]
  rw [← h1, List.length_take, prodL_length]
  exact Nat.min_le_right _ _
/-- sizes that a product takes -/
def szM (p q : PZ) : Prop := ∃ N n, (∀ t ∈ p, ∀ u ∈ q, (t.1 * u.1).natAbs ≤ N) ∧ p.length * q.length ≤ 100000000 ∧ p.length * q.length * N < 10 ^ n ∧ n ≤ 2000000
theorem firstN_sz {p q : PZ} {n : Nat} {xs : PZ} (h : firstN p q n xs) (hs : szM p q) : szP (normP xs) := by
  obtain ⟨N, e, h1, h2, h3, h4⟩ := hs
  have hl := firstN_len h
  have hb := addP_bnd (N := N) bnd_nil (l := xs) (fun t ht => by
    obtain ⟨_, a, ha, b, hb, hh⟩ := firstN_mem h ht
    rw [hh]
    exact h1 a ha b hb)
  simp only [Nat.zero_add] at hb
  exact sz_of_bnd hb (by omega) (Nat.lt_of_le_of_lt (Nat.mul_le_mul_right N hl) h3) h4
theorem szM_one {p q : PZ} (hs : szM p q) {t u : Int × Mono} (ht : t ∈ p) (hu : u ∈ q) : szZ (t.1 * u.1) := by
  obtain ⟨N, e, h1, h2, h3, h4⟩ := hs
  have h5 := h1 t ht u hu
  have hp : 0 < p.length := List.length_pos_of_mem ht
  have hq : 0 < q.length := List.length_pos_of_mem hu
  have : 1 * N ≤ p.length * q.length * N := Nat.mul_le_mul_right N (Nat.mul_pos hp hq)
  exact szZ_le (Nat.lt_of_le_of_lt (by omega) h3) h4
end Go.Proofs.Ythplgldclilccaa

namespace Go.Proofs.Ythplgldclilccaa
open Go.RowKit

/-- what a product answers -/
def timesB : Option PZ → Bool
  | none => false
  | some _ => true
def timesV : Option PZ → PZ
  | none => []
  | some p => p

set_option maxRecDepth 100000 in
set_option maxHeartbeats 8000000 in
theorem rpoly_times {S : Nat → Prop} (vp vq : Value) (p q : PZ) (w : World) (hS : ∀ k, S k → k < w.heap.size) (hp : RTs S w vp p) (hq : RTs S w vq q) (hmp : mayAll p) (hmq : mayAll q) (hszp : szP p) (hszq : szP q) (hsz : szM p q) :
    Calls Try.prog 68 #[vp, vq] w fun e w' => ∃ v', e = .returned (.tuple #[v', .bool (timesB (timesP p q))]) ∧ RTs (Plus S w w') w' v' (timesV (timesP p q)) ∧ Ext w w' := by
  have hlp := hp.len_le
  have hlq := hq.len_le
  have HP := hid hp
  have HQ := hid hq
  have HMP := hid hmp
  have HMQ := hid hmq
  have HZP := hid hszp
  have HZQ := hid hszq
  have HSZ := hid hsz
  obtain ⟨ap, cp, rfl⟩ := hp.form
  obtain ⟨aq, cq, rfl⟩ := hq.form
  obtain ⟨R, hR⟩ : ∃ R, R = timesP p q := ⟨_, rfl⟩
  rw [← hR]
  have HR := hid hR
  clear hp hq hmp hmq hszp hszq hsz hR
  go_enter Try.func68, Try.ntmps68
  go_wp2
  go_loopw [6, 7] (fun o i wr => ∃ k xs n, k ≤ p.length ∧ i = .int .i64 (k : Nat) ∧ Ext w wr ∧ Hid (n = k * q.length) ∧ Hid (firstN p q n xs) ∧ Hid (RTs (Plus S w wr) wr o (normP xs))) (fun _ i _ => p.length - (intOf i).toNat)
  case atStart => exact ⟨0, [], 0, Nat.zero_le _, rfl, Ext.refl _, hid (by rw [Nat.zero_mul]), hid (firstN_zero _ _), hid (RTs.nilv _ _ _ _ (by omega))⟩
  case round =>
    obtain ⟨k, xs, n, hk, rfl, hx, HN, HF, HO⟩ := hrel
    have HX := hid hx
    by_cases hlt : k < p.length
    · obtain ⟨t, ht⟩ := some_of_lt hlt
      have HT := hid ht
      clear ht hx
      go_wp2
      go_loopw [6, 8] (fun o i wr => ∃ j xs n, j ≤ q.length ∧ i = .int .i64 (j : Nat) ∧ Ext w wr ∧ Hid (n = k * q.length + j) ∧ Hid (firstN p q n xs) ∧ Hid (RTs (Plus S w wr) wr o (normP xs))) (fun _ i _ => q.length - (intOf i).toNat)
      case atStart => exact ⟨0, xs, n, Nat.zero_le _, rfl, HX.out, hid (by rw [HN.out, Nat.add_zero]), HF, HO⟩
      case round =>
        clear HO HF HN HX
        clear xs n
        obtain ⟨j, xs, n, hj, rfl, hx, HN, HF, HO⟩ := hrel
        have HX := hid hx
        by_cases hlj : j < q.length
        · obtain ⟨u, hu⟩ := some_of_lt hlj
          have HGET : Hid ((prodL p q)[n]? = some (pairP t u)) := hid (by rw [HN.out]; exact prodL_get HT.out hu)
          have HTP := hid (List.mem_of_getElem? HT.out)
          have HUQ := hid (List.mem_of_getElem? hu)
          obtain ⟨b, off, vd, vo, rfl, -, hn1, hm1, hSb, h1, h2, h3, h4, h5⟩ := HP.out.cellAt HT.out
          obtain ⟨b', off', vd', vo', rfl, -, hn1', hm1', hSb', h1', h2', h3', h4', h5'⟩ := HQ.out.cellAt hu
          have H4 := hid h4
          have H5 := hid h5
          have H4' := hid h4'
          have H5' := hid h5'
          obtain ⟨ad, cd, rfl⟩ := h4.form
          obtain ⟨ao, co, rfl⟩ := h5.form
          obtain ⟨ad', cd', rfl⟩ := h4'.form
          obtain ⟨ao', co', rfl⟩ := h5'.form
          have x0 : Ext w wr.drew := hx.drew
          have HX0 := hid x0
          have HXR := hid ((Ext.refl wr).drew)
          have S0 : _ ∧ _ := And.intro (x0.cell h3) (x0.cell h3')
          have CT := rmono_times (S := S) _ _ t.2 u.2 wr.drew (H5.out.ext x0 hS) (H5'.out.ext x0 hS) (lt_ext hS x0) (HMP.out t HTP.out) (HMQ.out u HUQ.out)
          have CM := fun (W : World) (hW : Ext w W) => zed_mul (S := S) (.agg #[.bool (decide (t.1 < 0)), .slice ad (rep 10 t.1.natAbs).length cd]) (.agg #[.bool (decide (u.1 < 0)), .slice ad' (rep 10 u.1.natAbs).length cd']) t.1 u.1 W ⟨_, rfl, H4.out.ext hW hS⟩ ⟨_, rfl, H4'.out.ext hW hS⟩ (lt_ext hS hW) (HZP.out.2 t HTP.out) (HZQ.out.2 u HUQ.out)
          obtain ⟨bt, hbt⟩ : ∃ b, b = decide (t.1 < 0) := ⟨_, rfl⟩
          obtain ⟨nt, hnt⟩ : ∃ n, n = (rep 10 t.1.natAbs).length := ⟨_, rfl⟩
          obtain ⟨bu, hbu⟩ : ∃ b, b = decide (u.1 < 0) := ⟨_, rfl⟩
          obtain ⟨nu, hnu⟩ : ∃ n, n = (rep 10 u.1.natAbs).length := ⟨_, rfl⟩
          obtain ⟨mt, hmt⟩ : ∃ n, n = t.2.length := ⟨_, rfl⟩
          obtain ⟨mu, hmu⟩ : ∃ n, n = u.2.length := ⟨_, rfl⟩
          rw [← hbt, ← hnt, ← hbu, ← hnu] at CM
          rw [← hmt, ← hmu] at S0 CT
          rw [← hbt] at h1
          rw [← hnt] at h2
          rw [← hbu] at h1'
          rw [← hnu] at h2'
          have HC0 : Hid (_ ∧ _ ∧ _ ∧ _) := hid (And.intro h1 (And.intro h2 (And.intro h1' h2')))
          have HCM := hid CM
          have HSO := hid (szM_one HSZ.out HTP.out HUQ.out)
          have HSX := hid (firstN_sz HF.out HSZ.out)
          have HMX : Hid (mayAll (normP xs)) := hid (normP_can (fun y hy => (firstN_mem HF.out hy).1)).may
          clear hu h1 h2 h3 h4 h5 h1' h2' h3' h4' h5' hx x0 CM hbt hnt hbu hnu hmt hmu
          cases hr : rtimes t.2 u.2 with
          | none =>
            have HRN : Hid (R = none) := hid (HR.out.trans (firstN_none HF.out (by rw [HGET.out]; unfold pairP; rw [hr]; rfl)))
            rw [hr] at CT
            unfold rterr rtval at CT
            simp only at CT
            have HCT := hid CT
            clear CT hr
            go_wp2
            go_region_held3 (fun W => W.cell? ⟨b, off + k * 3 + 2, none⟩ = some (.slice ao mt co) ∧ W.cell? ⟨b', off' + j * 3 + 2, none⟩ = some (.slice ao' mu co')) (first | exact S0 | exact S1)
              (first
                | (go_at_call 100; (with_reducible refine HCT.out.mono ?_); rintro e w1 ⟨v1, rfl, hp1, hx1⟩; have S1 : _ ∧ _ := And.intro (hx1.cell S0.1) (hx1.cell S0.2); have HX1 := hid (HX0.out.trans hx1); clear hx1 hp1))
            go_wp2
            all_goals
              go_ret2
              rw [HRN.out]
              exact ⟨_, rfl, RTs.nilv _ _ _ _ (by omega), HX1.out⟩
          | some m =>
            have HMM := hid (rtimes_may hr)
            have HNX := hid (firstN_next HF.out (x := (t.1 * u.1, m)) (by rw [HGET.out]; unfold pairP; rw [hr]; rfl))
            rw [hr] at CT
            unfold rterr rtval at CT
            simp only at CT
            have HCT := hid CT
            clear CT hr
            go_wp2
            go_region_held3 (fun W => W.cell? ⟨b, off + k * 3 + 2, none⟩ = some (.slice ao mt co) ∧ W.cell? ⟨b', off' + j * 3 + 2, none⟩ = some (.slice ao' mu co')) (first | exact S0 | exact S1)
              (first
                | (go_at_call 100; (with_reducible refine HCT.out.mono ?_); rintro e w1 ⟨v1, rfl, hp1, hx1⟩; have S1 : _ ∧ _ := And.intro (hx1.cell S0.1) (hx1.cell S0.2); have HX1 := hid (HX0.out.trans hx1); have HXR1 := hid (HXR.out.trans hx1); have HP1 : Hid (Pows (Plus S w w1) w1 v1 m) := hid (hp1.to (Kept.refl _ _) (new_plus HX0.out.size)); clear hx1 hp1))
            have x1 : Ext w w1.drew := HX1.out.drew
            have HX1D := hid x1
            have T0 : _ ∧ _ ∧ _ ∧ _ := And.intro (x1.cell HC0.out.1) (And.intro (x1.cell HC0.out.2.1) (And.intro (x1.cell HC0.out.2.2.1) (x1.cell HC0.out.2.2.2)))
            have HCM1 := hid (HCM.out w1.drew x1)
            clear x1 S0 S1
            go_wp2
            go_region_held3 (fun W => W.cell? ⟨b, off + k * 3, none⟩ = some (.bool bt) ∧ W.cell? ⟨b, off + k * 3 + 1, none⟩ = some (.slice ad nt cd) ∧ W.cell? ⟨b', off' + j * 3, none⟩ = some (.bool bu) ∧ W.cell? ⟨b', off' + j * 3 + 1, none⟩ = some (.slice ad' nu cd')) (first | exact T0 | exact T1 | exact T2)
              (first
                | (go_at_call 101; (with_reducible refine HCM1.out.mono ?_); rintro e w2 ⟨v2, rfl, hz2, hx2⟩; have T1 : _ ∧ _ ∧ _ ∧ _ := And.intro (hx2.cell T0.1) (And.intro (hx2.cell T0.2.1) (And.intro (hx2.cell T0.2.2.1) (hx2.cell T0.2.2.2))); have HX2 : Hid (Ext w w2) := hid (HX1D.out.trans hx2); have HX12 : Hid (Ext w1 w2) := hid (((Ext.refl w1).drew).trans hx2); have C2 := hid (rpoly_put (S := Plus S w w2) _ _ _ (normP xs) (t.1 * u.1) m w2 (plus_lt hS HX2.out) (RTs.later hS HO.out HX.out (HXR1.out.trans HX12.out)) (hz2.to (Kept.refl _ _) (new_plus HX1D.out.size)) (HP1.out.to (Kept.ext HX12.out (plus_lt hS HX1.out)) (plus_grow HX12.out.size)) HMX.out HMM.out HSX.out HSO.out); clear hx2 hz2)
                | (go_at_call 70; (with_reducible refine C2.out.mono ?_); rintro e w3 ⟨v3, rfl, hp3, hx3⟩; have T2 : _ ∧ _ ∧ _ ∧ _ := And.intro (hx3.cell T1.1) (And.intro (hx3.cell T1.2.1) (And.intro (hx3.cell T1.2.2.1) (hx3.cell T1.2.2.2))); have HX3 := hid (HX2.out.trans hx3); have HP3 := hid (hp3.to (Kept.refl _ _) (plus_plus HX2.out hx3)); clear hx3 hp3))
            go_wp2
            go_roundw
            case rel => exact ⟨j + 1, xs ++ [(t.1 * u.1, m)], n + 1, by omega, by go_num, HX3.out, hid (by rw [HN.out, Nat.add_assoc]), HNX, hid (by unfold normP; rw [addP_snoc]; exact HP3.out)⟩
            case measure => simp only [intOf]; omega
        · obtain rfl : j = q.length := by omega
          clear hx
          go_wp2
          go_roundw
          case rel => exact ⟨k + 1, xs, n, by omega, by go_num, HX.out, hid (by rw [HN.out, Nat.add_mul, Nat.one_mul]), HF, HO⟩
          case measure => simp only [intOf]; omega
    · obtain rfl : k = p.length := by omega
      have HRS := hid (HR.out.trans (firstN_all HF.out HN.out))
      clear hx
      go_wp2
      all_goals
        go_ret2
        rw [HRS.out]
        exact ⟨_, rfl, HO.out, HX.out⟩
end Go.Proofs.Ythplgldclilccaa

namespace Go.Proofs.Ythplgldclilccaa
open Go.RowKit

set_option maxRecDepth 100000 in
set_option maxHeartbeats 4000000 in
theorem rpoly_mul {S : Nat → Prop} (vp vq : Value) (p q : PZ) (w : World) (hS : ∀ k, S k → k < w.heap.size) (hp : RTs S w vp p) (hq : RTs S w vq q) (hmp : mayAll p) (hmq : mayAll q) (hszp : szP p) (hszq : szP q) (hsz : szM p q) :
    Calls Try.prog 31 #[vp, vq] w fun e w' => ∃ v', e = .returned v' ∧ RTs (Plus S w w') w' v' (timesV (timesP p q)) ∧ Ext w w' := by
  have HT := hid (rpoly_times vp vq p q w hS hp hq hmp hmq hszp hszq hsz)
  clear hp hq
  go_enter Try.func31, Try.ntmps31
  go_wp2_with fail
  refine HT.out.mono ?_
  rintro e w1 ⟨v1, rfl, hp1, hx1⟩
  have HX1 := hid hx1
  have HP1 := hid hp1
  clear hx1 hp1
  go_wp2
  all_goals
    go_ret
    exact ⟨_, rfl, HP1.out, HX1.out⟩

abbrev knX : PZ := [(1, [(1, 1)])]
abbrev knY : PZ := [(1, [(2, 1)])]
abbrev knYY : PZ := [(1, [(2, 2)])]
abbrev knA : PZ := [(1, [(1, 1), (2, 2)])]
abbrev knB : PZ := [(1, [(2, 1)]), (1, [])]
theorem kn1 : timesV (timesP knY knY) = knYY := by kernel_rfl
theorem kn2 : timesV (timesP knX knYY) = knA := by kernel_rfl
theorem kn3 : addP knY (numP 1) = knB := by kernel_rfl
theorem can_one {m : Mono} (h : mayM m = true) : canP [(1, m)] := ⟨fun t ht => by rw [List.mem_singleton.1 ht]; exact ⟨by show (1 : Int) ≠ 0; decide, h⟩, List.pairwise_singleton _ _⟩
theorem knX_can : canP knX := can_one rfl
theorem knY_can : canP knY := can_one rfl
theorem knYY_can : canP knYY := can_one rfl
theorem knA_can : canP knA := can_one rfl
theorem knB_can : canP knB := by
  rw [← kn3]
  exact (addP_can knY_can (putP_may canP_nil.may rfl)).1
theorem ones_sz {p : PZ} (h : p.length ≤ 100) (h1 : ∀ t ∈ p, t.1 = 1) : szP p := ⟨by omega, fun t ht => by rw [h1 t ht]; exact szZ_i64 (n := 1) (by omega)⟩
theorem ones_szM {p q : PZ} (hp : p.length = 1) (hq : q.length = 1) (h1 : ∀ t ∈ p, t.1 = 1) (h2 : ∀ t ∈ q, t.1 = 1) : szM p q :=
  ⟨1, 1, fun t ht u hu => by rw [h1 t ht, h2 u hu]; decide, by rw [hp, hq]; omega, by rw [hp, hq]; decide, by omega⟩
theorem ones_small {p : PZ} (h1 : ∀ t ∈ p, t.1 = 1) : smallT (ofP p) := fun t ht => by
  obtain ⟨u, hu, rfl⟩ := List.mem_map.1 ht
  have e := h1 u hu
  refine Nat.le_trans (rep_len_le two_le_B32 _ 1 ?_) (by omega)
  rw [e]
  decide
theorem plainP_ofP {p : PZ} (h : canP p) : plainP (ofP p) = p := by
  unfold plainP
  rw [if_pos (mayT_ofP h)]
  exact toP_ofP p
theorem rk1 : orderR (rankP knX) (rankP knY) = -1 := by kernel_rfl
theorem rk2 : reducedP knX knY = true := by kernel_rfl
theorem rk3 : orderR (rankP knA) (rankP knB) = 1 := by kernel_rfl
theorem rk4 : reducedP knA knB = false := by kernel_rfl
theorem rk5 : rankP knA = (2, 2) := by kernel_rfl
theorem RTs.old {w : World} {S : Nat → Prop} {v : Value} {p : PZ} (h : RTs S w v p) (hS : ∀ k, S k → k < w.heap.size) : RTs (Old w) w v p := h.to (Kept.refl _ _) hS
theorem Terms.old {w : World} {S : Nat → Prop} {v : Value} {p : List RTerm} (h : Terms S w v p) (hS : ∀ k, S k → k < w.heap.size) : Terms (Old w) w v p := h.to (Kept.refl _ _) hS
theorem Polys.on {w W : World} {v : Value} {z : List (List RTerm)} (h : Polys (Old w) w v z) (hx : Ext w W) : Polys (Old W) W v z := h.to (Kept.ext hx (fun _ h => h)) (old_lt hx)
theorem Terms.on {w W : World} {v : Value} {z : List RTerm} (h : Terms (Old w) w v z) (hx : Ext w W) : Terms (Old W) W v z := h.to (Kept.ext hx (fun _ h => h)) (old_lt hx)
theorem all_one {m : Mono} : ∀ t ∈ ([(1, m)] : PZ), t.1 = 1 := fun t ht => by rw [List.mem_singleton.1 ht]
theorem knB_one : ∀ t ∈ knB, t.1 = 1 := fun t ht => by
  simp at ht
  rcases ht with rfl | rfl <;> rfl
theorem kn_len {p : PZ} (h : mayAll p) : ∀ t ∈ p, t.2.length ≤ 1000000 := fun t ht => Nat.le_trans (mayM_len (h t ht)) (by omega)
theorem knOne : szP (numP 1) := ones_sz (p := [(1, [])]) (by decide) all_one
theorem kn_step (k : Nat) : szP (addP knY ((numP 1).take k)) := by
  cases k with
  | zero => exact ones_sz (p := knY) (by decide) all_one
  | succ k =>
    have e : (numP 1).take (k + 1) = numP 1 := List.take_of_length_le (by show 1 ≤ k + 1; omega)
    rw [e, kn3]
    exact ones_sz (by decide) knB_one

set_option maxRecDepth 100000 in
set_option maxHeartbeats 8000000 in
theorem law15_known (w : World) :
    Calls Try.prog 9 #[] w fun e w' => e = .returned (.bool true) ∧ Ext w w' := by
  have hnot : ∀ (x : Bool) (w : World), (Op.unary .not (.bool x)).run Try.prog w = .ok (.bool (!x)) w := fun _ _ => rfl
  go_enter Try.func9, Try.ntmps9
  go_wp2_with fail
  refine (rpoly_x 1 w (by unfold inI64; omega)).mono ?_
  rintro e w1 ⟨v1, rfl, hp1, hx1⟩
  have HX1 : Hid (Ext w w1) := hid hx1
  have HP1 := hid (RTs.old hp1 New.lt)
  obtain ⟨a1, c1, rfl⟩ := hp1.form
  clear hx1 hp1
  go_wp2_with fail
  refine (rpoly_x 2 w1 (by unfold inI64; omega)).mono ?_
  rintro e w2 ⟨v2, rfl, hp2, hx2⟩
  have HX2 : Hid (Ext w1 w2) := hid hx2
  have HP2 := hid (RTs.old hp2 New.lt)
  obtain ⟨a2, c2, rfl⟩ := hp2.form
  clear hx2 hp2
  go_wp2_with fail
  refine (rpoly_mul (S := Old w2) _ _ knY knY w2 (fun _ h => h) HP2.out HP2.out knY_can.may knY_can.may (ones_sz (by decide) all_one) (ones_sz (by decide) all_one) (ones_szM rfl rfl all_one all_one)).mono ?_
  rw [kn1]
  rintro e w3 ⟨v3, rfl, hp3, hx3⟩
  have HX3 : Hid (Ext w2 w3) := hid hx3
  have HP3 := hid (RTs.old hp3 (plus_lt (fun _ h => h) hx3))
  obtain ⟨a3, c3, rfl⟩ := hp3.form
  clear hx3 hp3
  go_wp2_with fail
  refine (rpoly_mul (S := Old w3) _ _ knX knYY w3 (fun _ h => h) (RTs.on HP1.out (HX2.out.trans HX3.out)) HP3.out knX_can.may knYY_can.may (ones_sz (by decide) all_one) (ones_sz (by decide) all_one) (ones_szM rfl rfl all_one all_one)).mono ?_
  rw [kn2]
  rintro e w4 ⟨v4, rfl, hp4, hx4⟩
  have HX4 : Hid (Ext w3 w4) := hid hx4
  have HP4 := hid (RTs.old hp4 (plus_lt (fun _ h => h) hx4))
  obtain ⟨a4, c4, rfl⟩ := hp4.form
  clear hx4 hp4
  go_wp2_with fail
  refine (rpoly_poly (S := Old w4) _ knA w4 HP4.out (fun _ h => h) (ones_sz (by decide) all_one) (kn_len knA_can.may)).mono ?_
  rintro e w5 ⟨v5, rfl, hp5, hx5⟩
  have HX5 : Hid (Ext w4 w5) := hid hx5
  have HP5 := hid (Terms.old hp5 New.lt)
  obtain ⟨a5, c5, rfl⟩ := hp5.form
  clear hx5 hp5
  go_wp2_with fail
  refine (rpoly_small 1 w5 (by omega)).mono ?_
  rintro e w6 ⟨v6, rfl, hp6, hx6⟩
  have HX6 : Hid (Ext w5 w6) := hid hx6
  have HP6 := hid (RTs.old hp6 New.lt)
  obtain ⟨a6, c6, rfl⟩ := hp6.form
  clear hx6 hp6
  go_wp2_with fail
  refine (rpoly_add (S := Old w6) _ _ knY (numP 1) w6 (fun _ h => h) (RTs.on HP2.out (HX3.out.trans (HX4.out.trans (HX5.out.trans HX6.out)))) HP6.out knY_can.may (putP_may canP_nil.may rfl) knOne (fun k _ => kn_step k)).mono ?_
  rw [kn3]
  rintro e w7 ⟨v7, rfl, hp7, hx7⟩
  have HX7 : Hid (Ext w6 w7) := hid hx7
  have HP7 := hid (RTs.old hp7 (plus_lt (fun _ h => h) hx7))
  obtain ⟨a7, c7, rfl⟩ := hp7.form
  clear hx7 hp7
  go_wp2_with fail
  refine (rpoly_poly (S := Old w7) _ knB w7 HP7.out (fun _ h => h) (ones_sz (by decide) knB_one) (kn_len knB_can.may)).mono ?_
  rintro e w8 ⟨v8, rfl, hp8, hx8⟩
  have HX8 : Hid (Ext w7 w8) := hid hx8
  have HP8 := hid (Terms.old hp8 New.lt)
  obtain ⟨a8, c8, rfl⟩ := hp8.form
  have HA8 := hid (Terms.on HP5.out (HX6.out.trans (HX7.out.trans hx8)))
  have HY1 := hid (RTs.on HP1.out (HX2.out.trans (HX3.out.trans (HX4.out.trans (HX5.out.trans (HX6.out.trans (HX7.out.trans hx8)))))))
  have HY2 := hid (RTs.on HP2.out (HX3.out.trans (HX4.out.trans (HX5.out.trans (HX6.out.trans (HX7.out.trans hx8))))))
  have HXX := hid (HX1.out.trans (HX2.out.trans (HX3.out.trans (HX4.out.trans (HX5.out.trans (HX6.out.trans (HX7.out.trans hx8)))))))
  clear hx8 hp8
  go_wp2_with fail
  refine (rpoly_poly (S := Old w8) _ knX w8 HY1.out (fun _ h => h) (ones_sz (by decide) all_one) (kn_len knX_can.may)).mono ?_
  rintro e w9 ⟨v9, rfl, hp9, hx9⟩
  have HX9 : Hid (Ext w8 w9) := hid hx9
  have HP9 := hid (Terms.old hp9 New.lt)
  obtain ⟨a9, c9, rfl⟩ := hp9.form
  clear hx9 hp9
  go_wp2_with fail
  refine (rpoly_poly (S := Old w9) _ knY w9 (RTs.on HY2.out HX9.out) (fun _ h => h) (ones_sz (by decide) all_one) (kn_len knY_can.may)).mono ?_
  rintro e w10 ⟨v10, rfl, hp10, hx10⟩
  have HX10 : Hid (Ext w9 w10) := hid hx10
  have HP10 := hid (Terms.old hp10 New.lt)
  obtain ⟨a10, c10, rfl⟩ := hp10.form
  clear hx10 hp10
  go_wp2_with fail
  refine (rank_compare (S := Old w10) _ _ (ofP knX) (ofP knY) w10 (Terms.on HP9.out HX10.out) HP10.out (fun _ h => h) (ones_small all_one) (ones_small all_one)).mono ?_
  rw [plainP_ofP knX_can, plainP_ofP knY_can, rk1]
  rintro e w11 ⟨rfl, hx11⟩
  have HX11 : Hid (Ext w8 w11) := hid (HX9.out.trans (HX10.out.trans hx11))
  clear hx11
  go_wp2_with fail
  refine (rpoly_poly (S := Old w11) _ knX w11 (RTs.on HY1.out HX11.out) (fun _ h => h) (ones_sz (by decide) all_one) (kn_len knX_can.may)).mono ?_
  rintro e w12 ⟨v12, rfl, hp12, hx12⟩
  have HX12 : Hid (Ext w8 w12) := hid (HX11.out.trans hx12)
  have HP12 := hid (Terms.old hp12 New.lt)
  obtain ⟨a12, c12, rfl⟩ := hp12.form
  clear hx12 hp12
  go_wp2_with fail
  refine (rpoly_poly (S := Old w12) _ knY w12 (RTs.on HY2.out HX12.out) (fun _ h => h) (ones_sz (by decide) all_one) (kn_len knY_can.may)).mono ?_
  rintro e w13 ⟨v13, rfl, hp13, hx13⟩
  have HX13a : Hid (Ext w12 w13) := hid hx13
  have HX13 : Hid (Ext w8 w13) := hid (HX12.out.trans hx13)
  have HP13 := hid (Terms.old hp13 New.lt)
  obtain ⟨a13, c13, rfl⟩ := hp13.form
  clear hx13 hp13
  go_wp2_with fail
  refine (rank_reduced (S := Old w13) _ _ (ofP knX) (ofP knY) w13 (Terms.on HP12.out HX13a.out) HP13.out (fun _ h => h) (ones_small all_one) (ones_small all_one)).mono ?_
  rw [plainP_ofP knX_can, plainP_ofP knY_can, rk2]
  rintro e w14 ⟨rfl, hx14⟩
  have HX14 : Hid (Ext w8 w14) := hid (HX13.out.trans hx14)
  clear hx14
  go_wp2_with fail
  refine (rank_compare (S := Old w14) _ _ (ofP knA) (ofP knB) w14 (Terms.on HA8.out HX14.out) (Terms.on HP8.out HX14.out) (fun _ h => h) (ones_small all_one) (ones_small knB_one)).mono ?_
  rw [plainP_ofP knA_can, plainP_ofP knB_can, rk3]
  rintro e w15 ⟨rfl, hx15⟩
  have HX15 : Hid (Ext w8 w15) := hid (HX14.out.trans hx15)
  clear hx15
  go_wp2_with fail
  refine (rank_reduced (S := Old w15) _ _ (ofP knA) (ofP knB) w15 (Terms.on HA8.out HX15.out) (Terms.on HP8.out HX15.out) (fun _ h => h) (ones_small all_one) (ones_small knB_one)).mono ?_
  rw [plainP_ofP knA_can, plainP_ofP knB_can, rk4]
  rintro e w16 ⟨rfl, hx16⟩
  have HX16 : Hid (Ext w8 w16) := hid (HX15.out.trans hx16)
  clear hx16
  go_wp2_with fail
  refine (rank_of (S := Old w16) _ (ofP knA) w16 (Terms.on HA8.out HX16.out) (fun _ h => h) (ones_small all_one)).mono ?_
  rw [plainP_ofP knA_can, rk5]
  unfold RankV
  rintro e w17 ⟨rfl, hx17⟩
  have HX17 : Hid (Ext w8 w17) := hid (HX16.out.trans hx17)
  clear hx17
  go_wp2
  all_goals
    go_ret
    exact ⟨rfl, HXX.out.trans HX17.out⟩
end Go.Proofs.Ythplgldclilccaa

namespace Go.Proofs.Ythplgldclilccaa

theorem take_eq_succ {α : Type} {xs ys : List α} {k : Nat} {x : α} (h : xs.take k = ys.take k) (hx : xs[k]? = some x) (hy : ys[k]? = some x) : xs.take (k + 1) = ys.take (k + 1) := by
  rw [List.take_add_one, List.take_add_one, h, hx, hy]
theorem ne_of_at {α : Type} {xs ys : List α} {k : Nat} {x y : α} (hx : xs[k]? = some x) (hy : ys[k]? = some y) (h : x ≠ y) : xs ≠ ys := by
  rintro rfl
  rw [hx] at hy
  exact h (Option.some.inj hy)
end Go.Proofs.Ythplgldclilccaa

namespace Go.Proofs.Ythplgldclilccaa
open Go.RowKit

set_option maxRecDepth 100000 in
set_option maxHeartbeats 1000000 in
theorem rsame01 {S : Nat → Prop} (va vb : Value) (xs ys : List Nat) (w : World) (ha : U32s S w va xs) (hb : U32s S w vb ys) (hS : ∀ k, S k → k < w.heap.size) :
    Calls Try.prog 122 #[va, vb] w fun e w' => e = .returned (.bool (decide (xs = ys))) ∧ Ext w w' := by
  have HA := hid ha
  have HB := hid hb
  have hla := ha.len_le
  have hlb := hb.len_le
  obtain ⟨aa, ca, rfl⟩ := ha.form
  obtain ⟨ab, cb, rfl⟩ := hb.form
  obtain ⟨na, hna⟩ : ∃ n, n = xs.length := ⟨_, rfl⟩
  obtain ⟨nb, hnb⟩ : ∃ n, n = ys.length := ⟨_, rfl⟩
  rw [← hna] at HA hla ⊢
  rw [← hnb] at HB hlb ⊢
  have HNA := hid hna
  have HNB := hid hnb
  clear ha hb hna hnb
  by_cases hne : na = nb
  · subst hne
    go_enter Try.func122, Try.ntmps122
    go_wp2
    go_loopw [5] (fun i wr => ∃ k : Nat, k ≤ na ∧ i = .int .i64 k ∧ Ext w wr ∧ Hid (xs.take k = ys.take k)) (fun i _ => na - (intOf i).toNat)
    case atStart => exact ⟨0, Nat.zero_le _, rfl, Ext.refl _, rfl⟩
    case round =>
      obtain ⟨k, hk, rfl, hx, HE⟩ := hrel
      have HX := hid hx
      by_cases hlt : k < na
      · obtain ⟨x, hxk⟩ := some_of_lt (l := xs) (j := k) (by rw [← HNA.out]; exact hlt)
        obtain ⟨y, hyk⟩ := some_of_lt (l := ys) (j := k) (by rw [← HNB.out]; exact hlt)
        obtain ⟨b1, o1, rfl, -, hc1, hm1, hz1, h1⟩ := (HA.out.ext hx hS).cellAt hxk
        obtain ⟨b2, o2, rfl, -, hc2, hm2, hz2, h2⟩ := (HB.out.ext hx hS).cellAt hyk
        have HXK := hid hxk
        have HYK := hid hyk
        clear hxk hyk hx
        by_cases he : x = y
        · have q1 : ((x : Int) != (y : Int)) = false := by rw [he]; simp
          have H0 := hid he
          clear he
          go_wp2
          go_quiet (fail)
          go_wp2
          go_roundw
          case rel => exact ⟨k + 1, by omega, by go_num, HX.out.drewN _, take_eq_succ HE.out HXK.out (by rw [H0.out]; exact HYK.out)⟩
          case measure => simp only [intOf]; omega
        · have q1 : ((x : Int) != (y : Int)) = true := by rw [bne_iff_ne]; omega
          have HF : Hid (xs ≠ ys) := hid (ne_of_at HXK.out HYK.out he)
          clear he
          go_wp2
          go_quiet (fail)
          go_wp2
          go_ret
          exact ⟨by rw [decide_eq_false HF.out]; rfl, HX.out.drewN _⟩
      · obtain rfl : k = na := by omega
        have HF : Hid (xs = ys) := hid (by have := HE.out; rwa [List.take_of_length_le (by rw [← HNA.out]; exact Nat.le_refl _), List.take_of_length_le (by rw [← HNB.out]; exact Nat.le_refl _)] at this)
        clear hx
        go_wp2
        go_ret
        exact ⟨by rw [decide_eq_true HF.out]; rfl, HX.out⟩
  · have hb : ((na : Int) != (nb : Int)) = true := by rw [bne_iff_ne]; omega
    have HF : Hid (xs ≠ ys) := hid (fun e => hne (by rw [HNA.out, HNB.out, e]))
    clear hne
    go_enter Try.func122, Try.ntmps122
    go_wp2
    go_ret
    exact ⟨by rw [decide_eq_false HF.out]; rfl, Ext.refl _⟩
set_option maxRecDepth 100000 in
set_option maxHeartbeats 1000000 in
theorem rsame07 {S : Nat → Prop} (va vb : Value) (xs ys : Mono) (w : World) (ha : Pows S w va xs) (hb : Pows S w vb ys) (hS : ∀ k, S k → k < w.heap.size) :
    Calls Try.prog 97 #[va, vb] w fun e w' => e = .returned (.bool (decide (xs = ys))) ∧ Ext w w' := by
  have HA := hid ha
  have HB := hid hb
  have hla := ha.len_le
  have hlb := hb.len_le
  obtain ⟨aa, ca, rfl⟩ := ha.form
  obtain ⟨ab, cb, rfl⟩ := hb.form
  obtain ⟨na, hna⟩ : ∃ n, n = xs.length := ⟨_, rfl⟩
  obtain ⟨nb, hnb⟩ : ∃ n, n = ys.length := ⟨_, rfl⟩
  rw [← hna] at HA hla ⊢
  rw [← hnb] at HB hlb ⊢
  have HNA := hid hna
  have HNB := hid hnb
  clear ha hb hna hnb
  by_cases hne : na = nb
  · subst hne
    go_enter Try.func97, Try.ntmps97
    go_wp2
    go_loopw [5] (fun i wr => ∃ k : Nat, k ≤ na ∧ i = .int .i64 k ∧ Ext w wr ∧ Hid (xs.take k = ys.take k)) (fun i _ => na - (intOf i).toNat)
    case atStart => exact ⟨0, Nat.zero_le _, rfl, Ext.refl _, rfl⟩
    case round =>
      obtain ⟨k, hk, rfl, hx, HE⟩ := hrel
      have HX := hid hx
      by_cases hlt : k < na
      · obtain ⟨x, hxk⟩ := some_of_lt (l := xs) (j := k) (by rw [← HNA.out]; exact hlt)
        obtain ⟨y, hyk⟩ := some_of_lt (l := ys) (j := k) (by rw [← HNB.out]; exact hlt)
        obtain ⟨b1, o1, c1', hv1, hc1, hm1, ⟨⟨hz1, hz2⟩, hz3, hz4⟩, h1, h1'⟩ := (HA.out.ext hx hS).at hxk
        obtain ⟨rfl, -, rfl⟩ : aa = some ⟨b1, o1, none⟩ ∧ na = xs.length ∧ ca = c1' := by simpa using hv1
        obtain ⟨b2, o2, c2', hv2, hc2, hm2, ⟨⟨hy1, hy2⟩, hy3, hy4⟩, h2, h2'⟩ := (HB.out.ext hx hS).at hyk
        obtain ⟨rfl, -, rfl⟩ : ab = some ⟨b2, o2, none⟩ ∧ na = ys.length ∧ cb = c2' := by simpa using hv2
        clear hv1 hv2
        rw [← HNA.out] at hc1
        rw [← HNB.out] at hc2
        have HXK := hid hxk
        have HYK := hid hyk
        clear hxk hyk hx
        by_cases he : x = y
        · have H0 := hid he
          obtain ⟨x1, x2⟩ := x
          obtain ⟨y1, y2⟩ := y
          obtain ⟨rfl, rfl⟩ : x1 = y1 ∧ x2 = y2 := by simpa using he
          simp only at h1 h1' h2 h2' hz1 hz2 hz3 hz4 hy1 hy2 hy3 hy4
          clear he
          go_wp2
          go_quiet (fail)
          go_wp2
          go_roundw
          case rel => exact ⟨k + 1, by omega, by go_num, HX.out.drewN _, take_eq_succ HE.out HXK.out HYK.out⟩
          case measure => simp only [intOf]; omega
        · have HF : Hid (xs ≠ ys) := hid (ne_of_at HXK.out HYK.out he)
          obtain ⟨x1, x2⟩ := x
          obtain ⟨y1, y2⟩ := y
          simp only at h1 h1' h2 h2' hz1 hz2 hz3 hz4 hy1 hy2 hy3 hy4
          have he' : x1 ≠ y1 ∨ (x1 = y1 ∧ x2 ≠ y2) := by
            by_cases h : x1 = y1
            · exact .inr ⟨h, fun h' => he (by rw [h, h'])⟩
            · exact .inl h
          clear he
          rcases he' with he | ⟨rfl, he⟩
          all_goals
            go_wp2
            go_quiet (fail)
            go_wp2
            go_ret
            exact ⟨by rw [decide_eq_false HF.out]; rfl, HX.out.drewN _⟩
      · obtain rfl : k = na := by omega
        have HF : Hid (xs = ys) := hid (by have := HE.out; rwa [List.take_of_length_le (by rw [← HNA.out]; exact Nat.le_refl _), List.take_of_length_le (by rw [← HNB.out]; exact Nat.le_refl _)] at this)
        clear hx
        go_wp2
        go_ret
        exact ⟨by rw [decide_eq_true HF.out]; rfl, HX.out⟩
  · have hb : ((na : Int) != (nb : Int)) = true := by rw [bne_iff_ne]; omega
    have HF : Hid (xs ≠ ys) := hid (fun e => hne (by rw [HNA.out, HNB.out, e]))
    clear hne
    go_enter Try.func97, Try.ntmps97
    go_wp2
    go_ret
    exact ⟨by rw [decide_eq_false HF.out]; rfl, Ext.refl _⟩

set_option maxRecDepth 100000 in
set_option maxHeartbeats 2000000 in
theorem rsame04 {S : Nat → Prop} (v1 v2 : Value) (sn tn : Bool) (sm tm : List Nat) (w : World) (h1 : U32s S w v1 sm) (h2 : U32s S w v2 tm) (hS : ∀ k, S k → k < w.heap.size) :
    Calls Try.prog 96 #[.agg #[.bool sn, v1], .agg #[.bool tn, v2]] w fun e w' => e = .returned (.bool (decide (sn = tn) && decide (sm = tm))) ∧ Ext w w' := by
  have CU := fun (W : World) (hW : Ext w W) => rsame01 _ _ sm tm W (h1.ext hW hS) (h2.ext hW hS) (lt_ext hS hW)
  obtain ⟨a1, c1, rfl⟩ := h1.form
  obtain ⟨a2, c2, rfl⟩ := h2.form
  have hx : Ext w ((w.alloc (.cells #[.bool sn, .slice a1 sm.length c1] 68)).alloc (.cells #[.bool tn, .slice a2 tm.length c2] 68)) := Ext.alloc (Ext.alloc (Ext.refl w) _) _
  have HX := hid hx
  clear h1 h2 hx
  by_cases hs : sn = tn
  · subst hs
    cases hm : decide (sm = tm) with
    | false =>
      simp only [hm] at CU
      have HCU := hid CU
      clear CU hm
      go_enter Try.func96, Try.ntmps96
      go_wp2_with fail
      with_reducible refine (HCU.out _ HX.out).mono ?_
      rintro e w1 ⟨rfl, hx1⟩
      have HX1 := hid (HX.out.trans hx1)
      clear hx1
      go_wp2
      all_goals
        go_ret
        exact ⟨by simp, HX1.out⟩
    | true =>
      simp only [hm] at CU
      have HCU := hid CU
      clear CU hm
      go_enter Try.func96, Try.ntmps96
      go_wp2_with fail
      with_reducible refine (HCU.out _ HX.out).mono ?_
      rintro e w1 ⟨rfl, hx1⟩
      have HX1 := hid (HX.out.trans hx1)
      clear hx1
      go_wp2
      all_goals
        go_ret
        exact ⟨by simp, HX1.out⟩
  · have hb : (sn == tn) = false := by rw [beq_eq_false_iff_ne]; exact hs
    have HF := hid (decide_eq_false hs)
    clear hs CU
    go_enter Try.func96, Try.ntmps96
    go_wp2
    all_goals
      go_ret
      exact ⟨by rw [HF.out]; simp, HX.out⟩

set_option maxRecDepth 100000 in
set_option maxHeartbeats 4000000 in
theorem rpoly_same {S : Nat → Prop} (va vb : Value) (xs ys : List RTerm) (w : World) (ha : Terms S w va xs) (hb : Terms S w vb ys) (hS : ∀ k, S k → k < w.heap.size) :
    Calls Try.prog 66 #[va, vb] w fun e w' => e = .returned (.bool (decide (xs = ys))) ∧ Ext w w' := by
  have HA := hid ha
  have HB := hid hb
  have hla := ha.len_le
  have hlb := hb.len_le
  obtain ⟨aa, ca, rfl⟩ := ha.form
  obtain ⟨ab, cb, rfl⟩ := hb.form
  obtain ⟨na, hna⟩ : ∃ n, n = xs.length := ⟨_, rfl⟩
  obtain ⟨nb, hnb⟩ : ∃ n, n = ys.length := ⟨_, rfl⟩
  rw [← hna] at HA hla ⊢
  rw [← hnb] at HB hlb ⊢
  have HNA := hid hna
  have HNB := hid hnb
  clear ha hb hna hnb
  by_cases hne : na = nb
  · subst hne
    go_enter Try.func66, Try.ntmps66
    go_wp2
    go_loopw [5] (fun i wr => ∃ k : Nat, k ≤ na ∧ i = .int .i64 k ∧ Ext w wr ∧ Hid (xs.take k = ys.take k)) (fun i _ => na - (intOf i).toNat)
    case atStart => exact ⟨0, Nat.zero_le _, rfl, Ext.refl _, rfl⟩
    case round =>
      obtain ⟨k, hk, rfl, hx, HE⟩ := hrel
      have HX := hid hx
      by_cases hlt : k < na
      · obtain ⟨x, hxk⟩ := some_of_lt (l := xs) (j := k) (by rw [← HNA.out]; exact hlt)
        obtain ⟨y, hyk⟩ := some_of_lt (l := ys) (j := k) (by rw [← HNB.out]; exact hlt)
        obtain ⟨b1, o1, v1, v2, rfl, -, hc1, hm1, hz1, h1, h2, h3, h4, h5⟩ := (HA.out.ext hx hS).cellAt hxk
        obtain ⟨b2, o2, v3, v4, rfl, -, hc2, hm2, hz2, g1, g2, g3, g4, g5⟩ := (HB.out.ext hx hS).cellAt hyk
        have HXK := hid hxk
        have HYK := hid hyk
        obtain ⟨⟨xn, xm⟩, xo⟩ := x
        obtain ⟨⟨yn, ym⟩, yo⟩ := y
        simp only at h1 h2 h3 h4 h5 g1 g2 g3 g4 g5
        have hSr := lt_ext hS hx
        have C4 := fun Y : Later wr => rsame04 (S := S) v1 v3 xn yn xm ym Y.w' (h4.ext Y.h hSr) (g4.ext Y.h hSr) (lt_ext hSr Y.h)
        have C7 := fun Y : Later wr => rsame07 (S := S) v2 v4 xo yo Y.w' (h5.ext Y.h hSr) (g5.ext Y.h hSr) (lt_ext hSr Y.h)
        have L1 := fun Y : Later wr => Y.h.cell h1
        have L2 := fun Y : Later wr => Y.h.cell h2
        have L3 := fun Y : Later wr => Y.h.cell h3
        have M1 := fun Y : Later wr => Y.h.cell g1
        have M2 := fun Y : Later wr => Y.h.cell g2
        have M3 := fun Y : Later wr => Y.h.cell g3
        obtain ⟨a1, c1, rfl⟩ := h4.form
        obtain ⟨a2, c2, rfl⟩ := h5.form
        obtain ⟨a3, c3, rfl⟩ := g4.form
        obtain ⟨a4, c4, rfl⟩ := g5.form
        have hlen : Hid (xs.length = na ∧ ys.length = na) := hid ⟨HNA.out.symm, HNB.out.symm⟩
        have q1 : (k : Int) < (na : Int) := by omega
        clear h1 h2 h3 h4 h5 g1 g2 g3 g4 g5 hxk hyk hx hSr
        cases hd4 : (decide (xn = yn) && decide (xm = ym)) with
        | false =>
          have HF : Hid (xs ≠ ys) := hid (ne_of_at HXK.out HYK.out (fun e => by
            simp at e
            obtain ⟨⟨e1, e2⟩, e3⟩ := e
            rw [e1, e2] at hd4
            simp at hd4))
          simp only [hd4] at C4
          have HC4 := hid C4
          have HC7 := hid C7
          clear C4 C7 hd4
          go_wp2
          refine wp_region_later (by kernel_rfl) (by kernel_rfl) ?_
          repeat (go_big_quiet_step (first | (go_at_call 96; exact Later.done (HC4.out _))))
          refine wpQuiet_nil ?_
          intro W2 hW2
          have HW2 := hid (HX.out.trans hW2)
          clear L1 L2 L3 M1 M2 M3 hW2
          go_wp2
          go_ret
          exact ⟨by rw [decide_eq_false HF.out]; rfl, HW2.out⟩
        | true =>
          have HE4 := hid hd4
          simp only [hd4] at C4
          have HC4 := hid C4
          clear C4 hd4
          cases hd7 : decide (xo = yo) with
          | false =>
            have HF : Hid (xs ≠ ys) := hid (ne_of_at HXK.out HYK.out (fun e => by
              simp at e
              obtain ⟨⟨e1, e2⟩, e3⟩ := e
              rw [e3] at hd7
              simp at hd7))
            simp only [hd7] at C7
            have HC7 := hid C7
            clear C7 hd7
            go_wp2
            refine wp_region_later (by kernel_rfl) (by kernel_rfl) ?_
            repeat (go_big_quiet_step (first | (go_at_call 96; exact Later.done (HC4.out _)) | (go_at_call 97; exact Later.done (HC7.out _))))
            refine wpQuiet_nil ?_
            intro W2 hW2
            have HW2 := hid (HX.out.trans hW2)
            clear L1 L2 L3 M1 M2 M3 hW2
            go_wp2
            go_ret
            exact ⟨by rw [decide_eq_false HF.out]; rfl, HW2.out⟩
          | true =>
            have HF : Hid (xs.take (k + 1) = ys.take (k + 1)) := hid (take_eq_succ HE.out HXK.out (by
              have h4 := HE4.out
              simp at h4 hd7
              rw [h4.1, h4.2, hd7]
              exact HYK.out))
            simp only [hd7] at C7
            have HC7 := hid C7
            clear C7 hd7
            go_wp2
            refine wp_region_later (by kernel_rfl) (by kernel_rfl) ?_
            repeat (go_big_quiet_step (first | (go_at_call 96; exact Later.done (HC4.out _)) | (go_at_call 97; exact Later.done (HC7.out _))))
            refine wpQuiet_nil ?_
            intro W2 hW2
            have HW2 := hid (HX.out.trans hW2)
            clear L1 L2 L3 M1 M2 M3 hW2
            go_wp2
            go_roundw
            case rel => exact ⟨k + 1, by omega, by go_num, HW2.out, HF⟩
            case measure => simp only [intOf]; omega
      · obtain rfl : k = na := by omega
        have HF : Hid (xs = ys) := hid (by have := HE.out; rwa [List.take_of_length_le (by rw [← HNA.out]; exact Nat.le_refl _), List.take_of_length_le (by rw [← HNB.out]; exact Nat.le_refl _)] at this)
        clear hx
        go_wp2
        go_ret
        exact ⟨by rw [decide_eq_true HF.out]; rfl, HX.out⟩
  · have hb : ((na : Int) != (nb : Int)) = true := by rw [bne_iff_ne]; omega
    have HF : Hid (xs ≠ ys) := hid (fun e => hne (by rw [HNA.out, HNB.out, e]))
    clear hne
    go_enter Try.func66, Try.ntmps66
    go_wp2
    go_ret
    exact ⟨by rw [decide_eq_false HF.out]; rfl, Ext.refl _⟩
end Go.Proofs.Ythplgldclilccaa

namespace Go.Proofs.Ythplgldclilccaa
open Go.RowKit

def tinyP (p : PZ) : Bool := decide (p.length ≤ 10) && p.all fun t => decide (t.1.natAbs ≤ 100) && mayM t.2
theorem tiny_bnd {p : PZ} (h : tinyP p = true) : bndP p 10 100 := by
  unfold tinyP at h
  simp only [Bool.and_eq_true, decide_eq_true_eq, List.all_eq_true] at h
  exact ⟨h.1, fun t ht => (h.2 t ht).1⟩
theorem tiny_may {p : PZ} (h : tinyP p = true) : mayAll p := by
  unfold tinyP at h
  simp only [Bool.and_eq_true, decide_eq_true_eq, List.all_eq_true] at h
  exact fun t ht => (h.2 t ht).2
theorem tiny_sz {p : PZ} (h : tinyP p = true) : szP p := sz_of_bnd (tiny_bnd h) (n := 3) (by omega) (by decide) (by omega)
theorem tiny_add {p q : PZ} (hp : tinyP p = true) (hq : tinyP q = true) (k : Nat) (_ : k ≤ q.length) : szP (addP p (q.take k)) := by
  have h1 := addP_bnd (l := q.take k) (N := 100) (tiny_bnd hp) (fun t ht => (tiny_bnd hq).2 t (List.mem_of_mem_take ht))
  have h2 : (q.take k).length ≤ 10 := Nat.le_trans (by rw [List.length_take]; omega) (tiny_bnd hq).1
  refine sz_of_bnd h1 (n := 5) (by omega) ?_ (by omega)
  have : (q.take k).length * 100 ≤ 10 * 100 := Nat.mul_le_mul_right _ h2
  omega
theorem tiny_mul {p q : PZ} (hp : tinyP p = true) (hq : tinyP q = true) : szM p q := by
  obtain ⟨a1, a2⟩ := tiny_bnd hp
  obtain ⟨b1, b2⟩ := tiny_bnd hq
  have h1 : p.length * q.length ≤ 10 * 10 := Nat.mul_le_mul a1 b1
  refine ⟨10000, 7, fun t ht u hu => ?_, by omega, ?_, by omega⟩
  · rw [Int.natAbs_mul]
    exact Nat.mul_le_mul (a2 t ht) (b2 u hu)
  · have : p.length * q.length * 10000 ≤ 100 * 10000 := Nat.mul_le_mul_right _ h1
    omega
theorem tiny_small {p : PZ} (h : tinyP p = true) : smallT (ofP p) := fun t ht => by
  obtain ⟨u, hu, rfl⟩ := List.mem_map.1 ht
  have h1 := (tiny_bnd h).2 u hu
  show (ofI u.1).mag.length ≤ _
  rw [ofI_len]
  exact Nat.le_trans (lenI_lt (k := 1) (by show u.1.natAbs < 4294967296 ^ 1; omega)) (by omega)
theorem tiny_lens {p : PZ} (h : tinyP p = true) : ∀ t ∈ ofP p, t.c.mag.length ≤ 1 := fun t ht => by
  obtain ⟨u, hu, rfl⟩ := List.mem_map.1 ht
  have h1 := (tiny_bnd h).2 u hu
  show (ofI u.1).mag.length ≤ _
  rw [ofI_len]
  exact lenI_lt (k := 1) (by show u.1.natAbs < 4294967296 ^ 1; omega)
abbrev k9X : PZ := [(1, [(1, 1)])]
abbrev k9Y : PZ := [(1, [(2, 1)])]
abbrev k9A : PZ := [(1, [(1, 1)]), (3, [])]
abbrev k9YY : PZ := [(1, [(2, 2)])]
abbrev k9B : PZ := [(1, [(1, 1), (2, 2)]), (3, [(2, 2)])]
abbrev k9C : PZ := [(5, [(1, 1)])]
abbrev k9P : PZ := [(1, [(1, 1), (2, 2)]), (3, [(2, 2)]), (5, [(1, 1)])]
abbrev k97 : PZ := [(7, [])]
theorem k9_3 : numP 3 = [(3, [])] := by kernel_rfl
theorem k9_5 : numP 5 = [(5, [])] := by kernel_rfl
theorem k9_7 : numP 7 = k97 := by kernel_rfl
theorem k9_a : addP k9X [(3, [])] = k9A := by kernel_rfl
theorem k9_yy : timesV (timesP k9Y k9Y) = k9YY := by kernel_rfl
theorem k9_b : timesV (timesP k9A k9YY) = k9B := by kernel_rfl
theorem k9_c : timesV (timesP [(5, [])] k9X) = k9C := by kernel_rfl
theorem k9_p : addP k9B k9C = k9P := by kernel_rfl
theorem k9P_can : canP k9P := by
  rw [← k9_p]
  refine (addP_can (p := k9B) ?_ (tiny_may (by kernel_rfl))).1
  exact ⟨fun t ht => by simp at ht; rcases ht with rfl | rfl <;> exact ⟨by decide, by kernel_rfl⟩, by simp; kernel_rfl⟩
theorem k97_can : canP k97 := ⟨fun t ht => by simp at ht; subst ht; exact ⟨by decide, by kernel_rfl⟩, List.pairwise_singleton _ _⟩
theorem k9_i : initP k9P = k9A := by kernel_rfl
theorem k9_t : (ofP (tailP k9P)).length = 1 := by kernel_rfl
theorem k9_d : (ofP (derP k9P 2)).length = 2 := by kernel_rfl
theorem k9_l : leadP k9P = 2 := by kernel_rfl
theorem k9_l7 : leadP k97 = 0 := by kernel_rfl

set_option maxRecDepth 100000 in
set_option maxHeartbeats 8000000 in
theorem law09_known (w : World) :
    Calls Try.prog 28 #[] w fun e w' => e = .returned (.bool true) ∧ Ext w w' := by
  have hnot : ∀ (x : Bool) (w : World), (Op.unary .not (.bool x)).run Try.prog w = .ok (.bool (!x)) w := fun _ _ => rfl
  have PC := plainP_ofP k9P_can
  have P7 := plainP_ofP k97_can
  have HPC := hid PC
  have HP7 := hid P7
  clear PC P7
  go_enter Try.func28, Try.ntmps28
  have HX0 := hid (Ext.refl w)
  go_wp2_with fail
  refine (rpoly_x 1 w (by unfold inI64; omega)).mono ?_
  rintro e w1 ⟨v1, rfl, hp1, hx1⟩
  have HX1 := hid (HX0.out.trans hx1)
  have HJ1 := hid (RTs.old hp1 New.lt)
  obtain ⟨a1, c1, rfl⟩ := hp1.form
  clear hx1 hp1
  go_wp2_with fail
  refine (rpoly_x 2 w1 (by unfold inI64; omega)).mono ?_
  rintro e w2 ⟨v2, rfl, hp2, hx2⟩
  have HX2 := hid (HX1.out.trans hx2)
  have HJ2 := hid (RTs.on HJ1.out hx2)
  have HY2 := hid (RTs.old hp2 New.lt)
  obtain ⟨a2, c2, rfl⟩ := hp2.form
  clear hx2 hp2
  go_wp2_with fail
  refine (rpoly_small 3 w2 (by omega)).mono ?_
  rw [k9_3]
  rintro e w3 ⟨v3, rfl, hp3, hx3⟩
  have HX3 := hid (HX2.out.trans hx3)
  have HJ3 := hid (RTs.on HJ2.out hx3)
  have HY3 := hid (RTs.on HY2.out hx3)
  have HS3 := hid (RTs.old hp3 New.lt)
  obtain ⟨a3, c3, rfl⟩ := hp3.form
  clear hx3 hp3
  go_wp2_with fail
  refine (rpoly_add (S := Old w3) _ _ k9X [(3, [])] w3 (fun _ h => h) HJ3.out HS3.out (tiny_may (by kernel_rfl)) (tiny_may (by kernel_rfl)) (tiny_sz (by kernel_rfl)) (tiny_add (by kernel_rfl) (by kernel_rfl))).mono ?_
  rw [k9_a]
  rintro e w4 ⟨v4, rfl, hp4, hx4⟩
  have HX4 := hid (HX3.out.trans hx4)
  have HJ4 := hid (RTs.on HJ3.out hx4)
  have HY4 := hid (RTs.on HY3.out hx4)
  have HA4 := hid (RTs.old hp4 (plus_lt (fun _ h => h) hx4))
  obtain ⟨a4, c4, rfl⟩ := hp4.form
  clear hx4 hp4
  go_wp2_with fail
  refine (rpoly_mul (S := Old w4) _ _ k9Y k9Y w4 (fun _ h => h) HY4.out HY4.out (tiny_may (by kernel_rfl)) (tiny_may (by kernel_rfl)) (tiny_sz (by kernel_rfl)) (tiny_sz (by kernel_rfl)) (tiny_mul (by kernel_rfl) (by kernel_rfl))).mono ?_
  rw [k9_yy]
  rintro e w5 ⟨v5, rfl, hp5, hx5⟩
  have HX5 := hid (HX4.out.trans hx5)
  have HJ5 := hid (RTs.on HJ4.out hx5)
  have HA5 := hid (RTs.on HA4.out hx5)
  have HQ5 := hid (RTs.old hp5 (plus_lt (fun _ h => h) hx5))
  obtain ⟨a5, c5, rfl⟩ := hp5.form
  clear hx5 hp5
  go_wp2_with fail
  refine (rpoly_mul (S := Old w5) _ _ k9A k9YY w5 (fun _ h => h) HA5.out HQ5.out (tiny_may (by kernel_rfl)) (tiny_may (by kernel_rfl)) (tiny_sz (by kernel_rfl)) (tiny_sz (by kernel_rfl)) (tiny_mul (by kernel_rfl) (by kernel_rfl))).mono ?_
  rw [k9_b]
  rintro e w6 ⟨v6, rfl, hp6, hx6⟩
  have HX6 := hid (HX5.out.trans hx6)
  have HJ6 := hid (RTs.on HJ5.out hx6)
  have HB6 := hid (RTs.old hp6 (plus_lt (fun _ h => h) hx6))
  obtain ⟨a6, c6, rfl⟩ := hp6.form
  clear hx6 hp6
  go_wp2_with fail
  refine (rpoly_small 5 w6 (by omega)).mono ?_
  rw [k9_5]
  rintro e w7 ⟨v7, rfl, hp7, hx7⟩
  have HX7 := hid (HX6.out.trans hx7)
  have HJ7 := hid (RTs.on HJ6.out hx7)
  have HB7 := hid (RTs.on HB6.out hx7)
  have HF7 := hid (RTs.old hp7 New.lt)
  obtain ⟨a7, c7, rfl⟩ := hp7.form
  clear hx7 hp7
  go_wp2_with fail
  refine (rpoly_mul (S := Old w7) _ _ [(5, [])] k9X w7 (fun _ h => h) HF7.out HJ7.out (tiny_may (by kernel_rfl)) (tiny_may (by kernel_rfl)) (tiny_sz (by kernel_rfl)) (tiny_sz (by kernel_rfl)) (tiny_mul (by kernel_rfl) (by kernel_rfl))).mono ?_
  rw [k9_c]
  rintro e w8 ⟨v8, rfl, hp8, hx8⟩
  have HX8 := hid (HX7.out.trans hx8)
  have HJ8 := hid (RTs.on HJ7.out hx8)
  have HB8 := hid (RTs.on HB7.out hx8)
  have HC8 := hid (RTs.old hp8 (plus_lt (fun _ h => h) hx8))
  obtain ⟨a8, c8, rfl⟩ := hp8.form
  clear hx8 hp8
  go_wp2_with fail
  refine (rpoly_add (S := Old w8) _ _ k9B k9C w8 (fun _ h => h) HB8.out HC8.out (tiny_may (by kernel_rfl)) (tiny_may (by kernel_rfl)) (tiny_sz (by kernel_rfl)) (tiny_add (by kernel_rfl) (by kernel_rfl))).mono ?_
  rw [k9_p]
  rintro e w9 ⟨v9, rfl, hp9, hx9⟩
  have HX9 := hid (HX8.out.trans hx9)
  have HJ9 := hid (RTs.on HJ8.out hx9)
  have HP9 := hid (RTs.old hp9 (plus_lt (fun _ h => h) hx9))
  obtain ⟨a9, c9, rfl⟩ := hp9.form
  clear hx9 hp9
  go_wp2_with fail
  refine (rpoly_poly (S := Old w9) _ k9P w9 HP9.out (fun _ h => h) (tiny_sz (by kernel_rfl)) (kn_len (tiny_may (by kernel_rfl)))).mono ?_
  rintro e w10 ⟨v10, rfl, hp10, hx10⟩
  have HX10 := hid (HX9.out.trans hx10)
  have HJ10 := hid (RTs.on HJ9.out hx10)
  have HP10 := hid (RTs.on HP9.out hx10)
  have HG10 := hid (Terms.old hp10 New.lt)
  obtain ⟨a10, c10, rfl⟩ := hp10.form
  clear hx10 hp10
  go_wp2_with fail
  refine (view_initial _ (ofP k9P) _ HG10.out (fun _ h => h) (tiny_small (by kernel_rfl)) (by decide)).mono ?_
  rw [HPC.out, k9_i]
  rintro e w11 ⟨v11, rfl, hp11, hx11⟩
  have HX11 := hid (HX10.out.trans hx11)
  have HJ11 := hid (RTs.on HJ10.out hx11)
  have HP11 := hid (RTs.on HP10.out hx11)
  have HI11 := hid (Terms.old hp11 New.lt)
  obtain ⟨a11, c11, rfl⟩ := hp11.form
  clear hx11 hp11
  go_wp2_with fail
  refine (rpoly_poly (S := Old w11) _ k9P w11 HP11.out (fun _ h => h) (tiny_sz (by kernel_rfl)) (kn_len (tiny_may (by kernel_rfl)))).mono ?_
  rintro e w12 ⟨v12, rfl, hp12, hx12⟩
  have HX12 := hid (HX11.out.trans hx12)
  have HJ12 := hid (RTs.on HJ11.out hx12)
  have HP12 := hid (RTs.on HP11.out hx12)
  have HI12 := hid (Terms.on HI11.out hx12)
  have HG12 := hid (Terms.old hp12 New.lt)
  obtain ⟨a12, c12, rfl⟩ := hp12.form
  clear hx12 hp12
  go_wp2_with fail
  refine (view_class _ (ofP k9P) _ HG12.out (fun _ h => h) (tiny_small (by kernel_rfl))).mono ?_
  rw [HPC.out, k9_l]
  rintro e w13 ⟨rfl, hx13⟩
  have HX13 := hid (HX12.out.trans hx13)
  have HJ13 := hid (RTs.on HJ12.out hx13)
  have HP13 := hid (RTs.on HP12.out hx13)
  have HI13 := hid (Terms.on HI12.out hx13)
  clear hx13
  go_wp2_with fail
  refine (rpoly_small 3 w13 (by omega)).mono ?_
  rw [k9_3]
  rintro e w14 ⟨v14, rfl, hp14, hx14⟩
  have HX14 := hid (HX13.out.trans hx14)
  have HJ14 := hid (RTs.on HJ13.out hx14)
  have HP14 := hid (RTs.on HP13.out hx14)
  have HI14 := hid (Terms.on HI13.out hx14)
  have HS14 := hid (RTs.old hp14 New.lt)
  obtain ⟨a14, c14, rfl⟩ := hp14.form
  clear hx14 hp14
  go_wp2_with fail
  refine (rpoly_add (S := Old w14) _ _ k9X [(3, [])] w14 (fun _ h => h) HJ14.out HS14.out (tiny_may (by kernel_rfl)) (tiny_may (by kernel_rfl)) (tiny_sz (by kernel_rfl)) (tiny_add (by kernel_rfl) (by kernel_rfl))).mono ?_
  rw [k9_a]
  rintro e w15 ⟨v15, rfl, hp15, hx15⟩
  have HX15 := hid (HX14.out.trans hx15)
  have HP15 := hid (RTs.on HP14.out hx15)
  have HI15 := hid (Terms.on HI14.out hx15)
  have HA15 := hid (RTs.old hp15 (plus_lt (fun _ h => h) hx15))
  obtain ⟨a15, c15, rfl⟩ := hp15.form
  clear hx15 hp15
  go_wp2_with fail
  refine (rpoly_poly (S := Old w15) _ k9A w15 HA15.out (fun _ h => h) (tiny_sz (by kernel_rfl)) (kn_len (tiny_may (by kernel_rfl)))).mono ?_
  rintro e w16 ⟨v16, rfl, hp16, hx16⟩
  have HX16 := hid (HX15.out.trans hx16)
  have HP16 := hid (RTs.on HP15.out hx16)
  have HI16 := hid (Terms.on HI15.out hx16)
  have HG16 := hid (Terms.old hp16 New.lt)
  obtain ⟨a16, c16, rfl⟩ := hp16.form
  clear hx16 hp16
  go_wp2_with fail
  refine (rpoly_same _ _ (ofP k9A) (ofP k9A) _ HI16.out HG16.out (fun _ h => h)).mono ?_
  rw [show decide (ofP k9A = ofP k9A) = true from decide_eq_true rfl]
  rintro e w17 ⟨rfl, hx17⟩
  have HX17 := hid (HX16.out.trans hx17)
  have HP17 := hid (RTs.on HP16.out hx17)
  clear hx17
  go_wp2_with fail
  refine (rpoly_poly (S := Old w17) _ k9P w17 HP17.out (fun _ h => h) (tiny_sz (by kernel_rfl)) (kn_len (tiny_may (by kernel_rfl)))).mono ?_
  rintro e w18 ⟨v18, rfl, hp18, hx18⟩
  have HX18 := hid (HX17.out.trans hx18)
  have HP18 := hid (RTs.on HP17.out hx18)
  have HG18 := hid (Terms.old hp18 New.lt)
  obtain ⟨a18, c18, rfl⟩ := hp18.form
  clear hx18 hp18
  go_wp2_with fail
  refine (view_tail _ (ofP k9P) _ HG18.out (fun _ h => h) (tiny_small (by kernel_rfl)) (by decide)).mono ?_
  rw [HPC.out]
  rintro e w19 ⟨v19, rfl, hp19, hx19⟩
  have HX19 := hid (HX18.out.trans hx19)
  have HP19 := hid (RTs.on HP18.out hx19)
  have HU19 := hid (Terms.old hp19 New.lt)
  obtain ⟨a19, c19, rfl⟩ := hp19.form
  clear hx19 hp19
  rw [k9_t]
  go_wp2_with fail
  refine (rpoly_poly (S := Old w19) _ k9P w19 HP19.out (fun _ h => h) (tiny_sz (by kernel_rfl)) (kn_len (tiny_may (by kernel_rfl)))).mono ?_
  rintro e w20 ⟨v20, rfl, hp20, hx20⟩
  have HX20 := hid (HX19.out.trans hx20)
  have HG20 := hid (Terms.old hp20 New.lt)
  obtain ⟨a20, c20, rfl⟩ := hp20.form
  clear hx20 hp20
  go_wp2_with fail
  refine (view_derive _ (ofP k9P) 2 _ 1 HG20.out (fun _ h => h) (tiny_lens (by kernel_rfl)) (by omega) (by decide) (by unfold inI64; omega)).mono ?_
  rw [HPC.out]
  rintro e w21 ⟨v21, rfl, hp21, hx21⟩
  have HX21 := hid (HX20.out.trans hx21)
  have HU21 := hid (Terms.old hp21 New.lt)
  obtain ⟨a21, c21, rfl⟩ := hp21.form
  clear hx21 hp21
  rw [k9_d]
  go_wp2_with fail
  refine (rpoly_small 7 w21 (by omega)).mono ?_
  rw [k9_7]
  rintro e w22 ⟨v22, rfl, hp22, hx22⟩
  have HX22 := hid (HX21.out.trans hx22)
  have HZ22 := hid (RTs.old hp22 New.lt)
  obtain ⟨a22, c22, rfl⟩ := hp22.form
  clear hx22 hp22
  go_wp2_with fail
  refine (rpoly_poly (S := Old w22) _ k97 w22 HZ22.out (fun _ h => h) (tiny_sz (by kernel_rfl)) (kn_len (tiny_may (by kernel_rfl)))).mono ?_
  rintro e w23 ⟨v23, rfl, hp23, hx23⟩
  have HX23 := hid (HX22.out.trans hx23)
  have HG23 := hid (Terms.old hp23 New.lt)
  obtain ⟨a23, c23, rfl⟩ := hp23.form
  clear hx23 hp23
  go_wp2_with fail
  refine (view_class _ (ofP k97) _ HG23.out (fun _ h => h) (tiny_small (by kernel_rfl))).mono ?_
  rw [HP7.out, k9_l7]
  rintro e w24 ⟨rfl, hx24⟩
  have HX24 := hid (HX23.out.trans hx24)
  clear hx24
  go_wp2
  all_goals
    go_ret
    exact ⟨rfl, HX24.out⟩
end Go.Proofs.Ythplgldclilccaa

namespace Go.Proofs.Ythplgldclilccaa
open Go.RowKit

set_option maxRecDepth 100000 in
set_option maxHeartbeats 1000000 in
theorem equal_u32 {S : Nat → Prop} (va vb : Value) (xs ys : List Nat) (w : World) (ha : U32s S w va xs) (hb : U32s S w vb ys) (hS : ∀ k, S k → k < w.heap.size) :
    Calls Try.prog 51 #[va, vb] w fun e w' => e = .returned (.bool (decide (xs = ys))) ∧ Ext w w' := by
  have HA := hid ha
  have HB := hid hb
  have hla := ha.len_le
  have hlb := hb.len_le
  obtain ⟨aa, ca, rfl⟩ := ha.form
  obtain ⟨ab, cb, rfl⟩ := hb.form
  obtain ⟨na, hna⟩ : ∃ n, n = xs.length := ⟨_, rfl⟩
  obtain ⟨nb, hnb⟩ : ∃ n, n = ys.length := ⟨_, rfl⟩
  rw [← hna] at HA hla ⊢
  rw [← hnb] at HB hlb ⊢
  have HNA := hid hna
  have HNB := hid hnb
  clear ha hb hna hnb
  by_cases hne : na = nb
  · subst hne
    go_enter Try.func51, Try.ntmps51
    go_wp2
    go_loopw [5, 13] (fun _ i wr => ∃ k : Nat, k ≤ na ∧ i = .int .i64 k ∧ Ext w wr ∧ Hid (xs.take k = ys.take k)) (fun _ i _ => na - (intOf i).toNat)
    case atStart => exact ⟨0, Nat.zero_le _, rfl, Ext.refl _, rfl⟩
    case round =>
      obtain ⟨k, hk, rfl, hx, HE⟩ := hrel
      have HX := hid hx
      by_cases hlt : k < na
      · obtain ⟨x, hxk⟩ := some_of_lt (l := xs) (j := k) (by rw [← HNA.out]; exact hlt)
        obtain ⟨y, hyk⟩ := some_of_lt (l := ys) (j := k) (by rw [← HNB.out]; exact hlt)
        obtain ⟨b1, o1, rfl, -, hc1, hm1, hz1, h1⟩ := (HA.out.ext hx hS).cellAt hxk
        obtain ⟨b2, o2, rfl, -, hc2, hm2, hz2, h2⟩ := (HB.out.ext hx hS).cellAt hyk
        have HXK := hid hxk
        have HYK := hid hyk
        clear hxk hyk hx
        by_cases he : x = y
        · have q1 : ((x : Int) != (y : Int)) = false := by rw [he]; simp
          have H0 := hid he
          clear he
          go_wp2
          go_quiet (fail)
          go_wp2
          go_roundw
          case rel => exact ⟨k + 1, by omega, by go_num, HX.out.drewN _, take_eq_succ HE.out HXK.out (by rw [H0.out]; exact HYK.out)⟩
          case measure => simp only [intOf]; omega
        · have q1 : ((x : Int) != (y : Int)) = true := by rw [bne_iff_ne]; omega
          have HF : Hid (xs ≠ ys) := hid (ne_of_at HXK.out HYK.out he)
          clear he
          go_wp2
          go_quiet (fail)
          go_wp2
          go_ret
          exact ⟨by rw [decide_eq_false HF.out]; rfl, HX.out.drewN _⟩
      · obtain rfl : k = na := by omega
        have HF : Hid (xs = ys) := hid (by have := HE.out; rwa [List.take_of_length_le (by rw [← HNA.out]; exact Nat.le_refl _), List.take_of_length_le (by rw [← HNB.out]; exact Nat.le_refl _)] at this)
        clear hx
        go_wp2
        go_ret
        exact ⟨by rw [decide_eq_true HF.out]; rfl, HX.out⟩
  · have hb : ((na : Int) != (nb : Int)) = true := by rw [bne_iff_ne]; omega
    have HF : Hid (xs ≠ ys) := hid (fun e => hne (by rw [HNA.out, HNB.out, e]))
    clear hne
    go_enter Try.func51, Try.ntmps51
    go_wp2
    go_ret
    exact ⟨by rw [decide_eq_false HF.out]; rfl, Ext.refl _⟩
set_option maxRecDepth 100000 in
set_option maxHeartbeats 1000000 in
theorem equal_mono {S : Nat → Prop} (va vb : Value) (xs ys : Mono) (w : World) (ha : Pows S w va xs) (hb : Pows S w vb ys) (hS : ∀ k, S k → k < w.heap.size) :
    Calls Try.prog 52 #[va, vb] w fun e w' => e = .returned (.bool (decide (xs = ys))) ∧ Ext w w' := by
  have HA := hid ha
  have HB := hid hb
  have hla := ha.len_le
  have hlb := hb.len_le
  obtain ⟨aa, ca, rfl⟩ := ha.form
  obtain ⟨ab, cb, rfl⟩ := hb.form
  obtain ⟨na, hna⟩ : ∃ n, n = xs.length := ⟨_, rfl⟩
  obtain ⟨nb, hnb⟩ : ∃ n, n = ys.length := ⟨_, rfl⟩
  rw [← hna] at HA hla ⊢
  rw [← hnb] at HB hlb ⊢
  have HNA := hid hna
  have HNB := hid hnb
  clear ha hb hna hnb
  by_cases hne : na = nb
  · subst hne
    go_enter Try.func52, Try.ntmps52
    go_wp2
    go_loopw [5, 13] (fun _ i wr => ∃ k : Nat, k ≤ na ∧ i = .int .i64 k ∧ Ext w wr ∧ Hid (xs.take k = ys.take k)) (fun _ i _ => na - (intOf i).toNat)
    case atStart => exact ⟨0, Nat.zero_le _, rfl, Ext.refl _, rfl⟩
    case round =>
      obtain ⟨k, hk, rfl, hx, HE⟩ := hrel
      have HX := hid hx
      by_cases hlt : k < na
      · obtain ⟨x, hxk⟩ := some_of_lt (l := xs) (j := k) (by rw [← HNA.out]; exact hlt)
        obtain ⟨y, hyk⟩ := some_of_lt (l := ys) (j := k) (by rw [← HNB.out]; exact hlt)
        obtain ⟨b1, o1, c1', hv1, hc1, hm1, ⟨⟨hz1, hz2⟩, hz3, hz4⟩, h1, h1'⟩ := (HA.out.ext hx hS).at hxk
        obtain ⟨rfl, -, rfl⟩ : aa = some ⟨b1, o1, none⟩ ∧ na = xs.length ∧ ca = c1' := by simpa using hv1
        obtain ⟨b2, o2, c2', hv2, hc2, hm2, ⟨⟨hy1, hy2⟩, hy3, hy4⟩, h2, h2'⟩ := (HB.out.ext hx hS).at hyk
        obtain ⟨rfl, -, rfl⟩ : ab = some ⟨b2, o2, none⟩ ∧ na = ys.length ∧ cb = c2' := by simpa using hv2
        clear hv1 hv2
        rw [← HNA.out] at hc1
        rw [← HNB.out] at hc2
        have HXK := hid hxk
        have HYK := hid hyk
        clear hxk hyk hx
        by_cases he : x = y
        · have H0 := hid he
          obtain ⟨x1, x2⟩ := x
          obtain ⟨y1, y2⟩ := y
          obtain ⟨rfl, rfl⟩ : x1 = y1 ∧ x2 = y2 := by simpa using he
          simp only at h1 h1' h2 h2' hz1 hz2 hz3 hz4 hy1 hy2 hy3 hy4
          clear he
          go_wp2
          go_quiet (fail)
          go_wp2
          go_roundw
          case rel => exact ⟨k + 1, by omega, by go_num, HX.out.drewN _, take_eq_succ HE.out HXK.out HYK.out⟩
          case measure => simp only [intOf]; omega
        · have HF : Hid (xs ≠ ys) := hid (ne_of_at HXK.out HYK.out he)
          obtain ⟨x1, x2⟩ := x
          obtain ⟨y1, y2⟩ := y
          simp only at h1 h1' h2 h2' hz1 hz2 hz3 hz4 hy1 hy2 hy3 hy4
          have he' : x1 ≠ y1 ∨ (x1 = y1 ∧ x2 ≠ y2) := by
            by_cases h : x1 = y1
            · exact .inr ⟨h, fun h' => he (by rw [h, h'])⟩
            · exact .inl h
          clear he
          rcases he' with he | ⟨rfl, he⟩
          all_goals
            go_wp2
            go_quiet (fail)
            go_wp2
            go_ret
            exact ⟨by rw [decide_eq_false HF.out]; rfl, HX.out.drewN _⟩
      · obtain rfl : k = na := by omega
        have HF : Hid (xs = ys) := hid (by have := HE.out; rwa [List.take_of_length_le (by rw [← HNA.out]; exact Nat.le_refl _), List.take_of_length_le (by rw [← HNB.out]; exact Nat.le_refl _)] at this)
        clear hx
        go_wp2
        go_ret
        exact ⟨by rw [decide_eq_true HF.out]; rfl, HX.out⟩
  · have hb : ((na : Int) != (nb : Int)) = true := by rw [bne_iff_ne]; omega
    have HF : Hid (xs ≠ ys) := hid (fun e => hne (by rw [HNA.out, HNB.out, e]))
    clear hne
    go_enter Try.func52, Try.ntmps52
    go_wp2
    go_ret
    exact ⟨by rw [decide_eq_false HF.out]; rfl, Ext.refl _⟩

theorem TermV.of_cells {S : Nat → Prop} {w : World} {vm vo : Value} {t : RTerm} (h4 : U32s S w vm t.c.mag) (h5 : Pows S w vo t.m) : TermV S w (.agg #[.bool t.c.neg, vm, vo]) t := ⟨vm, vo, rfl, h4, h5⟩
theorem new3 {w W : World} {u v x : Value} {T : TypeId} (h : Ext (w.alloc (.cells #[u, v, x] T)) W) :
    W.cell? ⟨w.heap.size, 0, none⟩ = some u ∧ W.cell? ⟨w.heap.size, 1, none⟩ = some v ∧ W.cell? ⟨w.heap.size, 2, none⟩ = some x :=
  ⟨h.new_cell rfl, h.new_cell rfl, h.new_cell rfl⟩

set_option maxRecDepth 100000 in
set_option maxHeartbeats 2000000 in
theorem same_term {S : Nat → Prop} (va vb : Value) (s t : RTerm) (w : World) (ha : TermV S w va s) (hb : TermV S w vb t) (hS : ∀ k, S k → k < w.heap.size) :
    Calls Try.prog 50 #[va, vb] w fun e w' => e = .returned (.bool (decide (s = t))) ∧ Ext w w' := by
  obtain ⟨⟨sn, sm⟩, so⟩ := s
  obtain ⟨⟨tn, tm⟩, tq⟩ := t
  obtain ⟨v1, v2, rfl, hu1, hp1⟩ := ha
  obtain ⟨v3, v4, rfl, hu2, hp2⟩ := hb
  simp only at hu1 hp1 hu2 hp2 ⊢
  have CU := fun (W : World) (hW : Ext w W) => equal_u32 _ _ sm tm W (hu1.ext hW hS) (hu2.ext hW hS) (lt_ext hS hW)
  have CP := fun (W : World) (hW : Ext w W) => equal_mono _ _ so tq W (hp1.ext hW hS) (hp2.ext hW hS) (lt_ext hS hW)
  obtain ⟨a1, c1, rfl⟩ := hu1.form
  obtain ⟨a2, c2, rfl⟩ := hp1.form
  obtain ⟨a3, c3, rfl⟩ := hu2.form
  obtain ⟨a4, c4, rfl⟩ := hp2.form
  have HCU := hid CU
  have HCP := hid CP
  have hx : Ext w ((w.alloc (.cells #[.bool sn, .slice a1 sm.length c1, .slice a2 so.length c2] 72)).alloc (.cells #[.bool tn, .slice a3 tm.length c3, .slice a4 tq.length c4] 72)) := Ext.alloc (Ext.alloc (Ext.refl w) _) _
  have HX := hid hx
  have HM : Hid (∀ W, Ext ((w.alloc (.cells #[.bool sn, .slice a1 sm.length c1, .slice a2 so.length c2] 72)).alloc (.cells #[.bool tn, .slice a3 tm.length c3, .slice a4 tq.length c4] 72)) W →
      (W.cell? ⟨w.heap.size, 0, none⟩ = some (.bool sn) ∧ W.cell? ⟨w.heap.size, 1, none⟩ = some (.slice a1 sm.length c1) ∧ W.cell? ⟨w.heap.size, 2, none⟩ = some (.slice a2 so.length c2)) ∧
      (W.cell? ⟨w.heap.size + 1, 0, none⟩ = some (.bool tn) ∧ W.cell? ⟨w.heap.size + 1, 1, none⟩ = some (.slice a3 tm.length c3) ∧ W.cell? ⟨w.heap.size + 1, 2, none⟩ = some (.slice a4 tq.length c4))) := hid (fun W hW => by
    have k2 := new3 hW
    rw [size_alloc] at k2
    exact ⟨new3 ((Ext.alloc (Ext.refl _) _).trans hW), k2⟩)
  have HD : Hid ((decide ((⟨⟨sn, sm⟩, so⟩ : RTerm) = ⟨⟨tn, tm⟩, tq⟩)) = (decide (sn = tn) && (decide (sm = tm) && decide (so = tq)))) := hid (by
    rw [Bool.eq_iff_iff]
    simp [and_assoc])
  clear CU CP hu1 hp1 hu2 hp2 hx
  obtain ⟨m0, m1, m2⟩ := HM.out _ (Ext.refl _)
  by_cases h1 : sn = tn
  · subst h1
    cases hm : decide (sm = tm) with
    | false =>
      simp only [hm] at HCU
      have HF := hid hm
      clear hm
      go_enter Try.func50, Try.ntmps50
      go_wp2_with fail
      with_reducible refine (HCU.out _ HX.out).mono ?_
      rintro e w1 ⟨rfl, hx1⟩
      have HX1 := hid (HX.out.trans hx1)
      clear hx1
      go_wp2
      all_goals
        go_ret
        exact ⟨by rw [HD.out, HF.out]; simp, HX1.out⟩
    | true =>
      simp only [hm] at HCU
      have HF := hid hm
      clear hm
      go_enter Try.func50, Try.ntmps50
      go_wp2_with fail
      with_reducible refine (HCU.out _ HX.out).mono ?_
      rintro e w1 ⟨rfl, hx1⟩
      have HX1 := hid (HX.out.trans hx1)
      obtain ⟨⟨k0, k1, k2⟩, k3, k4, k5⟩ := HM.out _ hx1
      clear hx1
      go_wp2_with fail
      with_reducible refine (HCP.out _ HX1.out).mono ?_
      rintro e w2 ⟨rfl, hx2⟩
      have HX2 := hid (HX1.out.trans hx2)
      clear hx2
      go_wp2
      all_goals
        go_ret
        exact ⟨by rw [HD.out, HF.out]; simp, HX2.out⟩
  · have hb : (sn == tn) = false := by rw [beq_eq_false_iff_ne]; exact h1
    have HF := hid (decide_eq_false h1)
    clear h1
    go_enter Try.func50, Try.ntmps50
    go_wp2
    all_goals
      go_ret
      exact ⟨by rw [HD.out, HF.out]; simp, HX.out⟩

set_option maxRecDepth 100000 in
set_option maxHeartbeats 2000000 in
theorem equal_terms {S : Nat → Prop} (va vb : Value) (xs ys : List RTerm) (w : World) (ha : Terms S w va xs) (hb : Terms S w vb ys) (hS : ∀ k, S k → k < w.heap.size) :
    Calls Try.prog 49 #[va, vb, .func (.func 50) #[] #[]] w fun e w' => e = .returned (.bool (decide (xs = ys))) ∧ Ext w w' := by
  have hnot : ∀ (x : Bool) (w : World), (Op.unary .not (.bool x)).run Try.prog w = .ok (.bool (!x)) w := fun _ _ => rfl
  have HA := hid ha
  have HB := hid hb
  have hla := ha.len_le
  have hlb := hb.len_le
  obtain ⟨aa, ca, rfl⟩ := ha.form
  obtain ⟨ab, cb, rfl⟩ := hb.form
  obtain ⟨na, hna⟩ : ∃ n, n = xs.length := ⟨_, rfl⟩
  obtain ⟨nb, hnb⟩ : ∃ n, n = ys.length := ⟨_, rfl⟩
  rw [← hna] at HA hla ⊢
  rw [← hnb] at HB hlb ⊢
  have HNA := hid hna
  have HNB := hid hnb
  clear ha hb hna hnb
  by_cases hne : na = nb
  · subst hne
    go_enter Try.func49, Try.ntmps49
    go_wp2
    go_loopw [7, 8, 9, 17] (fun _ _ _ i wr => ∃ k : Nat, k ≤ na ∧ i = .int .i64 k ∧ Ext w wr ∧ Hid (xs.take k = ys.take k)) (fun _ _ _ i _ => na - (intOf i).toNat)
    case atStart => exact ⟨0, Nat.zero_le _, rfl, Ext.refl _, rfl⟩
    case round =>
      obtain ⟨k, hk, rfl, hx, HE⟩ := hrel
      have HX := hid hx
      by_cases hlt : k < na
      · obtain ⟨x, hxk⟩ := some_of_lt (l := xs) (j := k) (by rw [← HNA.out]; exact hlt)
        obtain ⟨y, hyk⟩ := some_of_lt (l := ys) (j := k) (by rw [← HNB.out]; exact hlt)
        obtain ⟨b1, o1, v1, v2, rfl, -, hc1, hm1, hz1, h1, h2, h3, h4, h5⟩ := (HA.out.ext hx hS).cellAt hxk
        obtain ⟨b2, o2, v3, v4, rfl, -, hc2, hm2, hz2, g1, g2, g3, g4, g5⟩ := (HB.out.ext hx hS).cellAt hyk
        have HXK := hid hxk
        have HYK := hid hyk
        have HC := hid (fun W (hW : Ext wr W) => same_term (S := S) _ _ x y W (TermV.of_cells (h4.ext hW (lt_ext hS hx)) (h5.ext hW (lt_ext hS hx))) (TermV.of_cells (g4.ext hW (lt_ext hS hx)) (g5.ext hW (lt_ext hS hx))) (lt_ext hS (hx.trans hW)))
        obtain ⟨a1, c1, rfl⟩ := h4.form
        obtain ⟨a2, c2, rfl⟩ := h5.form
        obtain ⟨a3, c3, rfl⟩ := g4.form
        obtain ⟨a4, c4, rfl⟩ := g5.form
        have HX2 := hid (Ext.alloc (Ext.alloc (Ext.refl wr) (.cells #[.bool x.c.neg, .slice a1 x.c.mag.length c1, .slice a2 x.m.length c2] 72)) (.cells #[.bool y.c.neg, .slice a3 y.c.mag.length c3, .slice a4 y.m.length c4] 72))
        have n1 := new3 (w := wr) (u := .bool x.c.neg) (v := .slice a1 x.c.mag.length c1) (x := .slice a2 x.m.length c2) (T := 72) (Ext.refl _)
        have m1' := (Ext.alloc (Ext.refl wr) (.cells #[.bool x.c.neg, .slice a1 x.c.mag.length c1, .slice a2 x.m.length c2] 72)).cell g1
        have m2' := (Ext.alloc (Ext.refl wr) (.cells #[.bool x.c.neg, .slice a1 x.c.mag.length c1, .slice a2 x.m.length c2] 72)).cell g2
        have m3' := (Ext.alloc (Ext.refl wr) (.cells #[.bool x.c.neg, .slice a1 x.c.mag.length c1, .slice a2 x.m.length c2] 72)).cell g3
        clear h4 h5 g4 g5 hxk hyk hx n1
        by_cases he : x = y
        · have H0 := hid he
          have hd : decide (x = y) = true := decide_eq_true he
          have HCT := HC
          simp only [hd] at HCT
          have HCC := hid HCT.out
          clear he hd HCT
          go_wp2_with fail
          with_reducible refine (HCC.out _ HX2.out).mono ?_
          rintro e w2 ⟨rfl, hx2⟩
          have HX3 := hid (HX.out.trans (HX2.out.trans hx2))
          clear hx2
          go_wp2
          go_roundw
          case rel => exact ⟨k + 1, by omega, by go_num, HX3.out, take_eq_succ HE.out HXK.out (by rw [H0.out]; exact HYK.out)⟩
          case measure => simp only [intOf]; omega
        · have HF : Hid (xs ≠ ys) := hid (ne_of_at HXK.out HYK.out he)
          have hd : decide (x = y) = false := decide_eq_false he
          have HCT := HC
          simp only [hd] at HCT
          have HCC := hid HCT.out
          clear he hd HCT
          go_wp2_with fail
          with_reducible refine (HCC.out _ HX2.out).mono ?_
          rintro e w2 ⟨rfl, hx2⟩
          have HX3 := hid (HX.out.trans (HX2.out.trans hx2))
          clear hx2
          go_wp2
          go_ret
          exact ⟨by rw [decide_eq_false HF.out]; rfl, HX3.out⟩
      · obtain rfl : k = na := by omega
        have HF : Hid (xs = ys) := hid (by have := HE.out; rwa [List.take_of_length_le (by rw [← HNA.out]; exact Nat.le_refl _), List.take_of_length_le (by rw [← HNB.out]; exact Nat.le_refl _)] at this)
        clear hx
        go_wp2
        go_ret
        exact ⟨by rw [decide_eq_true HF.out]; rfl, HX.out⟩
  · have hb : ((na : Int) != (nb : Int)) = true := by rw [bne_iff_ne]; omega
    have HF : Hid (xs ≠ ys) := hid (fun e => hne (by rw [HNA.out, HNB.out, e]))
    clear hne
    go_enter Try.func49, Try.ntmps49
    go_wp2
    go_ret
    exact ⟨by rw [decide_eq_false HF.out]; rfl, Ext.refl _⟩

set_option maxRecDepth 100000 in
theorem poly_same {S : Nat → Prop} (va vb : Value) (xs ys : List RTerm) (w : World) (ha : Terms S w va xs) (hb : Terms S w vb ys) (hS : ∀ k, S k → k < w.heap.size) :
    Calls Try.prog 22 #[va, vb] w fun e w' => e = .returned (.bool (decide (xs = ys))) ∧ Ext w w' := by
  have C := hid (equal_terms va vb xs ys w ha hb hS)
  obtain ⟨aa, ca, rfl⟩ := ha.form
  obtain ⟨ab, cb, rfl⟩ := hb.form
  generalize decide (xs = ys) = b at *
  clear ha hb
  go_enter Try.func22, Try.ntmps22
  go_wp2_with fail
  with_reducible refine C.out.mono ?_
  rintro e w2 ⟨rfl, hx2⟩
  have HX := hid hx2
  clear hx2
  go_wp2
  go_ret
  exact ⟨rfl, HX.out⟩
end Go.Proofs.Ythplgldclilccaa

namespace Go.Proofs.Ythplgldclilccaa
open Go.RowKit

set_option maxRecDepth 100000 in
set_option maxHeartbeats 8000000 in
theorem law_derives (vp : Value) (ps : List RTerm) (x y : Int) (w : World) (hp : Terms (Old w) w vp ps) (hx : inI64 x) (hy : inI64 y) :
    Calls Try.prog 7 #[vp, .int .i64 x, .int .i64 y] w fun e w' => e = .returned (.bool true) ∧ Ext w w' := by
  have hnot : ∀ (x : Bool) (w : World), (Op.unary .not (.bool x)).run Try.prog w = .ok (.bool (!x)) w := fun _ _ => rfl
  have HX0 := hid (Ext.refl w)
  have HP := hid hp
  have HXI := hid hx
  have HYI := hid hy
  unfold inI64 at hx hy
  obtain ⟨hxl, hxu⟩ := hx
  obtain ⟨hyl, hyu⟩ := hy
  have CG := rpoly_great vp ps 20 w hp (fun _ h => h) (by omega)
  obtain ⟨ap, cp, rfl⟩ := hp.form
  obtain ⟨np, hnp⟩ : ∃ n, n = ps.length := ⟨_, rfl⟩
  rw [← hnp] at HP CG ⊢
  clear hp hnp
  cases hg : greatT 20 ps with
  | true =>
    rw [hg] at CG
    have HCG := hid CG
    clear CG hg
    go_enter Try.func7, Try.ntmps7
    go_wp2_with fail
    with_reducible refine (HCG.out).mono ?_
    rintro e w1 ⟨rfl, hx1⟩
    have HX1 := hid (HX0.out.trans hx1)
    clear hx1
    go_wp2_with fail
    with_reducible refine (law09_known w1).mono ?_
    rintro e w2 ⟨rfl, hx2⟩
    have HX2 := hid (HX1.out.trans hx2)
    clear hx2
    go_wp2
    all_goals
      go_ret
      exact ⟨rfl, HX2.out⟩
  | false =>
    rw [hg] at CG
    have HCG := hid CG
    have HF := hid (great_fit (n := 20) hg)
    clear CG hg
    have hsp : smallT ps := fun t ht => Nat.le_trans (HF.out.2 t ht).1 (by decide)
    have CM := hid (fun (W : World) (hW : Ext w W) => poly_may _ ps W (HP.out.on hW) (fun _ h => h) hsp)
    cases hm : mayT ps with
    | false =>
      rw [hm] at CM
      clear hm
      go_enter Try.func7, Try.ntmps7
      go_wp2_with fail
      with_reducible refine (HCG.out).mono ?_
      rintro e w1 ⟨rfl, hx1⟩
      have HX1 := hid (HX0.out.trans hx1)
      clear hx1
      go_wp2_with fail
      with_reducible refine (CM.out _ HX1.out).mono ?_
      rintro e w2 ⟨rfl, hx2⟩
      have HX2 := hid (HX1.out.trans hx2)
      clear hx2
      go_wp2_with fail
      with_reducible refine (law09_known w2).mono ?_
      rintro e w3 ⟨rfl, hx3⟩
      have HX3 := hid (HX2.out.trans hx3)
      clear hx3
      go_wp2
      all_goals
        go_ret
        exact ⟨rfl, HX3.out⟩
    | true =>
      rw [hm] at CM
      have HCAN := hid (plainP_can ps)
      have hl20 : ∀ t ∈ ps, t.c.mag.length ≤ 20 := fun t ht => (HF.out.2 t ht).1
      have hb := bnd_plain HP.out.okT hl20
      have hpl := Nat.le_trans (plain_len ps) HF.out.1
      have b1 := bnd_der HCAN.out.may hb x
      have b2 := bnd_der HCAN.out.may hb y
      have can1 := derP_can HCAN.out x
      have can2 := derP_can HCAN.out y
      have e1 : plainP (ofP (derP (plainP ps) x)) = derP (plainP ps) x := plainP_ofP can1
      have e2 : plainP (ofP (derP (plainP ps) y)) = derP (plainP ps) y := plainP_ofP can2
      have l1 : (ofP (derP (plainP ps) x)).length ≤ 1000000000 := by rw [ofP_len]; have := der_len (plainP ps) x; omega
      have l2 : (ofP (derP (plainP ps) y)).length ≤ 1000000000 := by rw [ofP_len]; have := der_len (plainP ps) y; omega
      have D1 := hid (fun (W : World) (hW : Ext w W) => view_derive _ ps x W 20 (HP.out.on hW) (fun _ h => h) hl20 (by decide) (Nat.le_trans HF.out.1 (by decide)) HXI.out)
      have D2 := hid (fun (W : World) (u : Value) (hu : Terms (Old W) W u (ofP (derP (plainP ps) x))) => view_derive u _ y W 21 hu (fun _ h => h) (bnd_lens b1) (by decide) l1 HYI.out)
      have D3 := hid (fun (W : World) (hW : Ext w W) => view_derive _ ps y W 20 (HP.out.on hW) (fun _ h => h) hl20 (by decide) (Nat.le_trans HF.out.1 (by decide)) HYI.out)
      have D4 := hid (fun (W : World) (u : Value) (hu : Terms (Old W) W u (ofP (derP (plainP ps) y))) => view_derive u _ x W 21 hu (fun _ h => h) (bnd_lens b2) (by decide) l2 HXI.out)
      simp only [e1] at D2
      simp only [e2, ← derP_comm HCAN.out x y] at D4
      have s1 := small_bnd b1 (by decide)
      have CS := hid (fun (W : World) (u v : Value) (hu : Terms (Old W) W u (ofP (derP (derP (plainP ps) x) y))) (hv : Terms (Old W) W v (ofP (derP (derP (plainP ps) x) y))) => poly_same u v _ _ W hu hv (fun _ h => h))
      simp only [decide_true] at CS
      have MD := hid (fun (W : World) (u : Value) (hu : Terms (Old W) W u (ofP (derP (plainP ps) x))) => poly_may u _ W hu (fun _ h => h) s1)
      simp only [mayT_ofP can1] at MD
      have CN := hid (fun (W : World) (hW : Ext w W) => view_degree _ ps x W (HP.out.on hW) (fun _ h => h) hsp HXI.out)
      have CD := hid (fun (W : World) (u : Value) (hu : Terms (Old W) W u (ofP (derP (plainP ps) x))) => view_degree u _ x W hu (fun _ h => h) s1 HXI.out)
      have CC := hid (fun (W : World) (u : Value) (hu : Terms (Old W) W u (ofP (derP (plainP ps) x))) => view_class u _ W hu (fun _ h => h) s1)
      have CP := hid (fun (W : World) (hW : Ext w W) => view_class _ ps W (HP.out.on hW) (fun _ h => h) hsp)
      simp only [e1] at CD CC
      have hle := derP_lead HCAN.out x
      have hdr := degP_range HCAN.out.may x
      have hdz : degP (plainP ps) x = 0 → (ofP (derP (plainP ps) x)).length = 0 := fun h => by rw [derP_none HCAN.out h]; rfl
      have hdp : 0 < degP (plainP ps) x → 0 < (ofP (derP (plainP ps) x)).length ∧ degP (derP (plainP ps) x) x = degP (plainP ps) x - 1 := fun h => by
        obtain ⟨h1, h2⟩ := derP_some HCAN.out h
        exact ⟨by rw [ofP_len]; exact List.length_pos_iff.2 h1, h2⟩
      generalize ofP (derP (derP (plainP ps) x) y) = tc at *
      generalize ofP (derP (plainP ps) x) = td at *
      generalize ofP (derP (plainP ps) y) = te at *
      generalize degP (derP (plainP ps) x) x = dd at *
      generalize leadP (derP (plainP ps) x) = cd at *
      generalize degP (plainP ps) x = n at *
      generalize leadP (plainP ps) = cp' at *
      have HDZ := hid hdz
      have HDP := hid hdp
      clear hm hl20 hb hpl b1 b2 can1 can2 e1 e2 l1 l2 s1 hdz hdp hsp
      go_enter Try.func7, Try.ntmps7
      go_wp2_with fail
      with_reducible refine (HCG.out).mono ?_
      rintro e w1 ⟨rfl, hx1⟩
      have HX1 := hid (HX0.out.trans hx1)
      clear hx1
      go_wp2_with fail
      with_reducible refine (CM.out _ HX1.out).mono ?_
      rintro e w2 ⟨rfl, hx2⟩
      have HX2 := hid (HX1.out.trans hx2)
      clear hx2
      go_wp2_with fail
      with_reducible refine (D1.out _ HX2.out).mono ?_
      rintro e w3 ⟨v3, rfl, hp3, hx3⟩
      have HX3 := hid (HX2.out.trans hx3)
      have HA3 := hid (hp3.to (S' := Old w3) (Kept.refl _ _) New.lt)
      obtain ⟨a3, c3, rfl⟩ := hp3.form
      clear hx3 hp3
      go_wp2_with fail
      with_reducible refine (D2.out _ _ HA3.out).mono ?_
      rintro e w4 ⟨v4, rfl, hp4, hx4⟩
      have HX4 := hid (HX3.out.trans hx4)
      have HB4 := hid (hp4.to (S' := Old w4) (Kept.refl _ _) New.lt)
      obtain ⟨a4, c4, rfl⟩ := hp4.form
      clear hx4 hp4
      go_wp2_with fail
      with_reducible refine (D3.out _ HX4.out).mono ?_
      rintro e w5 ⟨v5, rfl, hp5, hx5⟩
      have HX5 := hid (HX4.out.trans hx5)
      have HB5 := hid (Terms.on HB4.out hx5)
      have HC5 := hid (hp5.to (S' := Old w5) (Kept.refl _ _) New.lt)
      obtain ⟨a5, c5, rfl⟩ := hp5.form
      clear hx5 hp5
      go_wp2_with fail
      with_reducible refine (D4.out _ _ HC5.out).mono ?_
      rintro e w6 ⟨v6, rfl, hp6, hx6⟩
      have HX6 := hid (HX5.out.trans hx6)
      have HB6 := hid (Terms.on HB5.out hx6)
      have HE6 := hid (hp6.to (S' := Old w6) (Kept.refl _ _) New.lt)
      obtain ⟨a6, c6, rfl⟩ := hp6.form
      clear hx6 hp6
      go_wp2_with fail
      with_reducible refine (D1.out _ HX6.out).mono ?_
      rintro e w7 ⟨v7, rfl, hp7, hx7⟩
      have HX7 := hid (HX6.out.trans hx7)
      have HB7 := hid (Terms.on HB6.out hx7)
      have HE7 := hid (Terms.on HE6.out hx7)
      have HD7 := hid (hp7.to (S' := Old w7) (Kept.refl _ _) New.lt)
      have hle7 := hp7.len_le
      obtain ⟨a7, c7, rfl⟩ := hp7.form
      obtain ⟨nd, hnd⟩ : ∃ n, n = (td).length := ⟨_, rfl⟩
      rw [← hnd] at HD7 hle7 ⊢
      have Hnd := hid hnd
      clear hnd
      clear hx7 hp7
      go_wp2_with fail
      with_reducible refine (CS.out _ _ _ HB7.out HE7.out).mono ?_
      rintro e w8 ⟨rfl, hx8⟩
      have HX8 := hid (HX7.out.trans hx8)
      have HD8 := hid (Terms.on HD7.out hx8)
      clear hx8
      go_wp2_with fail
      with_reducible refine (MD.out _ _ HD8.out).mono ?_
      rintro e w9 ⟨rfl, hx9⟩
      have HX9 := hid (HX8.out.trans hx9)
      have HD9 := hid (Terms.on HD8.out hx9)
      clear hx9
      go_wp2_with fail
      with_reducible refine (CN.out _ HX9.out).mono ?_
      rintro e w10 ⟨rfl, hx10⟩
      have HX10 := hid (HX9.out.trans hx10)
      have HD10 := hid (Terms.on HD9.out hx10)
      clear hx10
      by_cases h0 : n = 0
      · have hz := HDZ.out h0
        rw [← Hnd.out] at hz
        subst h0
        subst hz
        go_wp2_with fail
        with_reducible refine (law09_known w10).mono ?_
        rintro e w11 ⟨rfl, hx11⟩
        have HX11 := hid (HX10.out.trans hx11)
        have HD11 := hid (Terms.on HD10.out hx11)
        clear hx11
        go_wp2
        all_goals
          go_ret
          exact ⟨rfl, HX11.out⟩
      · have q0 : (n == 0) = false := by rw [beq_eq_false_iff_ne]; exact h0
        obtain ⟨hz, hdd⟩ := HDP.out (by omega)
        rw [← Hnd.out] at hz
        have q1 : decide ((0 : Int) < (nd : Int)) = true := decide_eq_true (by omega)
        have q2 : decide (0 < nd) = true := decide_eq_true hz
        have q3 : (dd == n - 1) = true := by rw [beq_iff_eq]; exact hdd
        have q4 : decide (cd ≤ cp') = true := decide_eq_true hle
        have q5 : (n - 1 == n - 1) = true := by simp
        subst hdd
        clear h0 hz
        go_wp2_with fail
        with_reducible refine (CD.out _ _ HD10.out).mono ?_
        rintro e w11 ⟨rfl, hx11⟩
        have HX11 := hid (HX10.out.trans hx11)
        have HD11 := hid (Terms.on HD10.out hx11)
        clear hx11
        go_wp2_with fail
        with_reducible refine (CC.out _ _ HD11.out).mono ?_
        rintro e w12 ⟨rfl, hx12⟩
        have HX12 := hid (HX11.out.trans hx12)
        have HD12 := hid (Terms.on HD11.out hx12)
        clear hx12
        go_wp2_with fail
        with_reducible refine (CP.out _ HX12.out).mono ?_
        rintro e w13 ⟨rfl, hx13⟩
        have HX13 := hid (HX12.out.trans hx13)
        have HD13 := hid (Terms.on HD12.out hx13)
        clear hx13
        go_wp2_with fail
        with_reducible refine (law09_known w13).mono ?_
        rintro e w14 ⟨rfl, hx14⟩
        have HX14 := hid (HX13.out.trans hx14)
        have HD14 := hid (Terms.on HD13.out hx14)
        clear hx14
        go_wp2
        all_goals
          go_ret
          exact ⟨rfl, HX14.out⟩
end Go.Proofs.Ythplgldclilccaa
