/- The document's monomials: the array of all exponents. -/
import Derived.Test.YthplgldclilccaaRefMono
import Derived.Test.YthplgldclilccaaWholeAdd
namespace Go.Proofs.Ythplgldclilccaa
open Go.RowKit

/-- all exponents; those of 1, if the monomial may not be -/
def exF (m : Mono) : Nat → Int := fun v => ex (plainM m) v

theorem load_var {W : World} {g : Nat} {f : Nat → Int} (hrow : W.rowIs g 132 201 (iv f)) : (loadVar 132 ⟨g, 0, none⟩).run Try.prog W = .ok (arrV f) W := by
  obtain ⟨c, hc, hs, hi⟩ := hrow
  obtain rfl := tabA_of hs hi
  exact run_loadVar_row (P := Try.prog) W g 132 132 (tabA f) (0, 0) _ hc Try.underlying132 rfl (by rw [tabA_size]; exact Try.sizeArr)
theorem row_le {n k : Nat} (h : some n = some k) : n ≤ k := by
  cases h
  exact Nat.le_refl _
theorem results_cell {P : Program} {fn : Func} {tmps : Array Value} {t T g : Nat} {v : Value} {W : World} (hr : fn.results = #[.cell t T]) (ht : tmps.getD t undef = .pointer (some ⟨g, 0, none⟩)) (hl : (loadVar T ⟨g, 0, none⟩).run P W = .ok v W) : (results fn tmps).run P W = .ok v W := by
  have ht' : tmps[t]?.getD undef = .pointer (some ⟨g, 0, none⟩) := by rw [← ht]; simp
  simp [results, hr, ht', asAddr, hl]
theorem row_grown {w W : World} {g : Nat} {f : Nat → Value} {T : TypeId} {n : Nat} {row : Option Nat} (h : w.rowIs g T n f) (hg : w.grownBy W row) (hne : some g ≠ row) : W.rowIs g T n f := by
  obtain ⟨c, hc, hs, hi⟩ := h
  exact ⟨c, (hg.block g (Array.getElem?_eq_some_iff.1 hc).1 hne).trans hc, hs, hi⟩
theorem row_ext {w W : World} {g : Nat} {f : Nat → Value} {T : TypeId} {n : Nat} (h : w.rowIs g T n f) (hx : Ext w W) : W.rowIs g T n f := by
  obtain ⟨c, hc, hs, hi⟩ := h
  exact ⟨c, (hx.block g (Array.getElem?_eq_some_iff.1 hc).1).trans hc, hs, hi⟩
theorem row_far {w : World} {g : Nat} {f : Nat → Value} {T : TypeId} {n : Nat} {a : Addr} (h : w.rowIs g T n f) (hne : g ≠ a.block) (u : Value) : (w.setCell a u).rowIs g T n f := by
  obtain ⟨c, hc, hs, hi⟩ := h
  exact ⟨c, (Below.heap_setCell w a u g hne).trans hc, hs, hi⟩

theorem World.rowIs.drewN' {w : World} {g n : Nat} {T : TypeId} {f : Nat → Value} (h : w.rowIs g T n f) : w.drew.rowIs g T n f := h

theorem ex_snoc {l : Mono} {x : Int × Int} {v : Int} (h : ∀ y ∈ l, y.1 ≠ x.1) : ex (l ++ [x]) v = if x.1 = v then x.2 else ex l v := by
  induction l with
  | nil => rfl
  | cons y r ih =>
    have ih := ih (fun z hz => h z (by simp [hz]))
    simp only [List.cons_append, ex, ih]
    by_cases hv : x.1 = v
    · have : ¬ y.1 = v := fun e => h y (by simp) (e.trans hv.symm)
      simp [this, hv]
    · rw [if_neg hv, if_neg hv]
theorem mayTail_lt {last : Int} {m : Mono} (h : mayTail last m = true) : ∀ y ∈ m, last < y.1 := by
  induction m generalizing last with
  | nil => intro y hy; simp at hy
  | cons x r ih =>
    simp only [mayTail, Bool.and_eq_true, decide_eq_true_eq] at h
    intro y hy
    rcases List.mem_cons.1 hy with rfl | hy
    · exact h.1.1
    · have := ih h.2 y hy
      omega
theorem mayTail_nodup {last : Int} {m : Mono} {k : Nat} {x : Int × Int} (h : mayTail last m = true) (hx : m[k]? = some x) : (∀ y ∈ m.take k, y.1 ≠ x.1) ∧ 1 ≤ x.2 ∧ x.2 ≤ 10000 ∧ last < x.1 ∧ x.1 ≤ 200 := by
  induction m generalizing last k with
  | nil => simp at hx
  | cons y r ih =>
    have h0 := mayTail_lt h
    simp only [mayTail, Bool.and_eq_true, decide_eq_true_eq] at h
    cases k with
    | zero =>
      obtain rfl : y = x := by simpa using hx
      refine ⟨fun z hz => by simp at hz, ?_⟩
      omega
    | succ k =>
      have hx' : r[k]? = some x := by simpa using hx
      obtain ⟨h1, h2, h3, h4, h5⟩ := ih h.2 hx'
      refine ⟨fun z hz => ?_, h2, h3, by omega, h5⟩
      rw [List.take_succ_cons] at hz
      rcases List.mem_cons.1 hz with rfl | hz
      · omega
      · exact h1 z hz
theorem ex_take {m : Mono} {k : Nat} {x : Int × Int} (h : mayM m = true) (hx : m[k]? = some x) (v : Int) : ex (m.take (k + 1)) v = if x.1 = v then x.2 else ex (m.take k) v := by
  rw [List.take_add_one, hx]
  exact ex_snoc (mayTail_nodup h hx).1
theorem plainM_yes {m : Mono} (h : mayM m = true) : plainM m = m := by simp [plainM, h]
theorem plainM_no {m : Mono} (h : mayM m = false) : plainM m = [] := by simp [plainM, h]

set_option maxRecDepth 100000 in
set_option maxHeartbeats 4000000 in
theorem rmono_exps {S : Nat → Prop} (v : Value) (m : Mono) (w : World) (h : Pows S w v m) (hS : ∀ k, S k → k < w.heap.size) :
    Calls Try.prog 105 #[v] w fun e w' => e = .returned (arrV (exF m)) ∧ Ext w w' := by
  have hz := (zero_of_info Try.infoArr).1
  have hcs : (Value.agg (tabA fun _ => 0)).cells = tabA fun _ => 0 := rfl
  have hnot : ∀ (x : Bool) (w : World), (Op.unary .not (.bool x)).run Try.prog w = .ok (.bool (!x)) w := fun _ _ => rfl
  have hl := h.len_le
  have H := hid h
  obtain ⟨a, cap, rfl⟩ := h.form
  clear h
  have HK := hid (Ext.alloc (Ext.alloc (Ext.refl w) (.cells (tabA fun _ => 0) 132)) (.cells (tabA fun _ => 0) 132))
  have HR1 := hid (row_ext (row_new (fun _ => 0) w) (Ext.alloc (Ext.refl _) (.cells (tabA fun _ => 0) 132)))
  have hr2 := row_new (fun _ => 0) (w.alloc (.cells (tabA fun _ => 0) 132))
  rw [size_alloc] at hr2
  have HR2 := hid hr2
  have HM := hid (rmono_may _ m _ (H.out.ext' HK.out hS) (lt_ext hS HK.out))
  clear hr2
  go_enter Try.func105, Try.ntmps105
  go_wp2_with fail
  refine HM.out.mono ?_
  rintro e w1 ⟨rfl, hx1⟩
  have HX1 := hid hx1
  have HQ1 := hid (row_ext HR1.out hx1)
  have HQ2 := hid (row_ext HR2.out hx1)
  clear hx1
  cases hm : mayM m with
  | false =>
    have HF : Hid (exF m = fun _ => 0) := hid (by funext v; unfold exF; rw [plainM_no hm]; rfl)
    clear hm
    go_wp2_with (first
      | (refine wpList_load_arr rfl (.tmp 3) rfl rfl HQ2.out ?_)
      | (refine wpList_store_arr rfl (.tmp 2) (.tmp 8) rfl rfl rfl HQ1.out ?_; intro W hrow hg; have HROW := hid hrow; have HG := hid hg; clear hrow hg))
    have hld := load_var HROW.out
    refine bodyPost_ret (results_cell Try.results105 rfl hld) rfl ?_
    exact ⟨by rw [HF.out], ext_grown (HK.out.trans HX1.out) HG.out (fun k hk => row_le hk)⟩
  | true =>
    have HMM := hid hm
    clear hm
    obtain ⟨wo, hwo⟩ : ∃ wo : World, wo = w1 := ⟨_, rfl⟩
    subst hwo
    go_wp2
    go_loopw [4] (fun i wr => ∃ k : Nat, k ≤ m.length ∧ i = .int .i64 k ∧ Hid (wr.rowIs (w.heap.size + 1) 132 201 (iv (fun v => ex (m.take k) v))) ∧ Hid (wr.rowIs w.heap.size 132 201 (iv fun _ => 0)) ∧ Ext w wr) (fun i _ => m.length - (intOf i).toNat)
    case atStart => exact ⟨0, Nat.zero_le _, rfl, HQ2, HQ1, HK.out.trans HX1.out⟩
    case round =>
      obtain ⟨k, hk, rfl, HA, HB, hx⟩ := hrel
      by_cases hlt : k < m.length
      · obtain ⟨t, ht⟩ := some_of_lt hlt
        obtain ⟨b, off, rfl, -, hn1, hm1, hSb, ⟨hb1, hb2⟩, h1, h2⟩ := (H.out.ext' hx hS).cellAt ht
        obtain ⟨_, g1, g2, g3, g4⟩ := mayTail_nodup HMM.out ht
        have HT := hid (fun v => ex_take HMM.out ht v)
        have HX := hid hx
        have hbs := hS b hSb
        obtain ⟨x, z⟩ := t
        simp only at h1 h2 hb1 hb2 g1 g2 g3 g4 HT
        obtain ⟨x, rfl⟩ := Int.eq_ofNat_of_zero_le (Int.le_of_lt g3)
        have hx201 : x < 201 := by omega
        have hcs := HA.out.cell (i := x) hx201
        have hfs := HA.out.frozen x
        unfold iv at hcs
        have hxI0 : (0 : Int) ≤ (x : Int) := by omega
        have hxI1 : (x : Int) < 201 := by omega
        clear hx ht
        go_wp2
        have S0 : wr.drew.cell? ⟨b, off + k * 2, none⟩ = some (.int .i64 (x : Nat)) ∧ wr.drew.cell? ⟨b, off + k * 2 + 1, none⟩ = some (.int .i64 z) := ⟨by simpa using h1, by simpa using h2⟩
        go_region_held3 (fun W => W.cell? ⟨b, off + k * 2, none⟩ = some (.int .i64 (x : Nat)) ∧ W.cell? ⟨b, off + k * 2 + 1, none⟩ = some (.int .i64 z)) (first | exact S0 | exact ⟨other S0.1 (ab (by omega)), other S0.2 (ab (by omega))⟩) (fail)
        go_wp2
        go_roundw
        case rel =>
          refine ⟨k + 1, by omega, by go_num, hid ?_, hid (row_far HB.out (by simp) _), (HX.out.drew).setCell (p := ⟨w.heap.size + 1, x, none⟩) (by simp) _⟩
          refine (World.rowIs.set (World.rowIs.drewN' HA.out) x (.int .i64 z)).congr (fun i hi => ?_)
          show (if i = x then Value.int .i64 z else Value.int .i64 (ex (m.take k) (i : Nat))) = Value.int .i64 (ex (m.take (k + 1)) (i : Nat))
          rw [HT.out]
          by_cases e : i = x
          · subst e
            simp
          · have : ¬ ((x : Int) = (i : Int)) := fun h => e (by omega)
            simp [e, this]
        case measure => simp only [intOf]; omega
      · obtain rfl : k = m.length := by omega
        have HX := hid hx
        have HF : Hid ((fun v : Nat => ex (m.take m.length) v) = exF m) := hid (by funext v; unfold exF; rw [plainM_yes HMM.out, List.take_length])
        have hA := HA.out
        rw [HF.out] at hA
        have HA2 := hid hA
        clear hx hA
        go_wp2_with (first
          | (refine wpList_load_arr rfl (.tmp 3) rfl rfl HA2.out ?_)
          | (refine wpList_store_arr rfl (.tmp 2) (.tmp 26) rfl rfl rfl HB.out ?_; intro W hrow hg; have HROW := hid hrow; have HG := hid hg; clear hrow hg))
        have hld := load_var HROW.out
        refine bodyPost_ret (results_cell Try.results105 rfl hld) rfl ?_
        exact ⟨rfl, ext_grown HX.out HG.out (fun k hk => row_le hk)⟩
end Go.Proofs.Ythplgldclilccaa
