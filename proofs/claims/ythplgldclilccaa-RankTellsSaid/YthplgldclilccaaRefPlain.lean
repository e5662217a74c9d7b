/- Which polynomials are too great for the law. -/
import Derived.Test.YthplgldclilccaaRefRank
import Derived.Test.YthplgldclilccaaRefToPoly
namespace Go.Proofs.Ythplgldclilccaa
open Go.RowKit

def bigTerm (t : RTerm) : Bool := decide (20 < t.c.mag.length) || decide (12 < t.m.length)
def greatT (n : Int) (ts : List RTerm) : Bool := ts.any bigTerm || decide (n < (ts.length : Int))

set_option maxRecDepth 100000 in
set_option maxHeartbeats 4000000 in
theorem rpoly_great {S : Nat → Prop} (v : Value) (ts : List RTerm) (n : Int) (w : World) (h : Terms S w v ts) (hS : ∀ k, S k → k < w.heap.size) (hn : -9223372036854775808 ≤ n ∧ n ≤ 9223372036854775807) :
    Calls Try.prog 27 #[v, .int .i64 n] w fun e w' => e = .returned (.bool (greatT n ts)) ∧ Ext w w' := by
  have H := hid h
  have hl := h.len_le
  obtain ⟨hn1, hn2⟩ := hn
  obtain ⟨a, cap, rfl⟩ := h.form
  clear h
  go_enter Try.func27, Try.ntmps27
  go_wp2
  go_loopw [5] (fun i wr => ∃ k : Nat, k ≤ ts.length ∧ i = .int .i64 k ∧ Ext w wr ∧ Hid ((ts.take k).any bigTerm = false)) (fun i _ => ts.length - (intOf i).toNat)
  case atStart => exact ⟨0, Nat.zero_le _, rfl, Ext.refl _, hid rfl⟩
  case round =>
    obtain ⟨k, hk, rfl, hx, HM⟩ := hrel
    have HX := hid hx
    by_cases hlt : k < ts.length
    · obtain ⟨t, ht⟩ := some_of_lt hlt
      obtain ⟨b, off, vm, vo, rfl, -, hq1, hm1, hSb, h1, h2, h3, h4, h5⟩ := H.out.cellAt ht
      have HT : Hid (ts.take (k + 1) = ts.take k ++ [t]) := hid (by rw [List.take_add_one, ht]; rfl)
      have HQ := hid (List.mem_of_getElem? ht)
      have hl1 := h4.len_le
      have hl2 := h5.len_le
      have HBT : Hid (bigTerm t = (decide (20 < t.c.mag.length) || decide (12 < t.m.length))) := hid rfl
      have g1 := Ext.cell hx h1
      have g2 := Ext.cell hx h2
      have g3 := Ext.cell hx h3
      obtain ⟨am, cm, rfl⟩ := h4.form
      obtain ⟨ao, co, rfl⟩ := h5.form
      generalize t.c.mag.length = x at *
      generalize t.m.length = y at *
      clear hx ht h1 h2 h3 h4 h5
      by_cases hbig : 20 < x
      · have HF : Hid (greatT n ts = true) := hid (by
          unfold greatT
          rw [List.any_eq_true.2 ⟨t, HQ.out, by rw [HBT.out, decide_eq_true hbig]; rfl⟩]
          rfl)
        go_wp2
        all_goals
          go_ret
          exact ⟨by rw [HF.out]; rfl, HX.out⟩
      · by_cases hbig2 : 12 < y
        · have HF : Hid (greatT n ts = true) := hid (by
            unfold greatT
            rw [List.any_eq_true.2 ⟨t, HQ.out, by rw [HBT.out, decide_eq_true hbig2, Bool.or_true]⟩]
            rfl)
          go_wp2
          all_goals
            go_ret
            exact ⟨by rw [HF.out]; rfl, HX.out⟩
        · go_wp2
          go_roundw
          case rel => exact ⟨k + 1, by omega, by go_num, HX.out, hid (by rw [HT.out, List.any_append, HM.out]; simp [HBT.out]; omega)⟩
          case measure => simp only [intOf]; omega
    · obtain rfl : k = ts.length := by omega
      have HF : Hid (greatT n ts = decide (n < (ts.length : Int))) := hid (by
        have := HM.out
        rw [List.take_length] at this
        unfold greatT
        rw [this, Bool.false_or])
      clear hx
      go_wp2
      all_goals
        go_ret
        exact ⟨by rw [HF.out]; rfl, HX.out⟩

def greatL (ls : List (List RTerm)) : Bool := ls.any (greatT 12) || decide (8 < ls.length)

set_option maxRecDepth 100000 in
set_option maxHeartbeats 4000000 in
theorem law15_great {S : Nat → Prop} (v : Value) (ls : List (List RTerm)) (w : World) (h : Polys S w v ls) (hS : ∀ k, S k → k < w.heap.size) :
    Calls Try.prog 8 #[v] w fun e w' => e = .returned (.bool (greatL ls)) ∧ Ext w w' := by
  have H := hid h
  have hl := h.len_le
  obtain ⟨a, cap, rfl⟩ := h.form
  clear h
  go_enter Try.func8, Try.ntmps8
  go_wp2
  go_loopw [7] (fun i wr => ∃ k : Nat, k ≤ ls.length ∧ i = .int .i64 k ∧ Ext w wr ∧ Hid ((ls.take k).any (greatT 12) = false)) (fun i _ => ls.length - (intOf i).toNat)
  case atStart => exact ⟨0, Nat.zero_le _, rfl, Ext.refl _, hid rfl⟩
  case round =>
    obtain ⟨k, hk, rfl, hx, HM⟩ := hrel
    have HX := hid hx
    by_cases hlt : k < ls.length
    · obtain ⟨t, ht⟩ := some_of_lt hlt
      obtain ⟨b, off, vp, rfl, -, hq1, hm1, hSb, h1, h2⟩ := H.out.cellAt ht
      have HT : Hid (ls.take (k + 1) = ls.take k ++ [t]) := hid (by rw [List.take_add_one, ht]; rfl)
      have HQ := hid (List.mem_of_getElem? ht)
      have g1 := Ext.cell hx h1
      have C := rpoly_great (S := S) vp t 12 wr (h2.ext hx hS) (lt_ext hS hx) (by omega)
      obtain ⟨am, cm, rfl⟩ := h2.form
      generalize hr : greatT 12 t = r at *
      have HR := hid hr
      have HC := hid C
      clear hx ht h1 h2 C hr
      cases r with
      | true =>
        have HF : Hid (greatL ls = true) := hid (by
          unfold greatL
          rw [List.any_eq_true.2 ⟨t, HQ.out, HR.out⟩]
          rfl)
        go_wp2_with fail
        refine HC.out.mono ?_
        rintro e w1 ⟨rfl, hx1⟩
        have HX1 := hid (HX.out.trans hx1)
        clear hx1
        go_wp2
        all_goals
          go_ret
          exact ⟨by rw [HF.out]; rfl, HX1.out⟩
      | false =>
        go_wp2_with fail
        refine HC.out.mono ?_
        rintro e w1 ⟨rfl, hx1⟩
        have HX1 := hid (HX.out.trans hx1)
        clear hx1
        go_wp2
        go_roundw
        case rel => exact ⟨k + 1, by omega, by go_num, HX1.out, hid (by rw [HT.out, List.any_append, HM.out]; simp [HR.out])⟩
        case measure => simp only [intOf]; omega
    · obtain rfl : k = ls.length := by omega
      have HF : Hid (greatL ls = decide (8 < (ls.length : Int))) := hid (by
        have := HM.out
        rw [List.take_length] at this
        unfold greatL
        rw [this, Bool.false_or, decide_eq_decide]
        omega)
      clear hx
      go_wp2
      all_goals
        go_ret
        exact ⟨by rw [HF.out]; rfl, HX.out⟩

/-- what is not too great -/
theorem fit_of {ls : List (List RTerm)} (h : greatL ls = false) : ls.length ≤ 8 ∧ ∀ ts ∈ ls, ts.length ≤ 12 ∧ ∀ t ∈ ts, t.c.mag.length ≤ 20 ∧ t.m.length ≤ 12 := by
  unfold greatL at h
  rw [Bool.or_eq_false_iff] at h
  obtain ⟨h1, h2⟩ := h
  refine ⟨by simpa using h2, fun ts hts => ?_⟩
  have := (List.any_eq_false.1 h1) ts hts
  unfold greatT at this
  simp only [Bool.not_eq_true, Bool.or_eq_false_iff] at this
  obtain ⟨k1, k2⟩ := this
  refine ⟨?_, fun t ht => ?_⟩
  · rw [decide_eq_false_iff_not] at k2
    omega
  · have k3 := (List.any_eq_false.1 k1) t ht
    unfold bigTerm at k3
    simp at k3
    omega
end Go.Proofs.Ythplgldclilccaa

namespace Go.Proofs.Ythplgldclilccaa
open Go.RowKit

def CellsP (S : Nat → Prop) (w : World) (xs : List Value) (l : List PZ) : Prop := xs.length = l.length ∧ ∀ (j : Nat) (p : PZ), l[j]? = some p → ∃ vp, xs[j]? = some vp ∧ RTs S w vp p
theorem CellsP.nil (S : Nat → Prop) (w : World) : CellsP S w [] [] := ⟨rfl, fun j p h => by simp at h⟩
theorem CellsP.to {S S' : Nat → Prop} {w w' : World} {xs : List Value} {l : List PZ} (h : CellsP S w xs l) (hk : Kept S w w') (hS : ∀ k, S k → S' k) : CellsP S' w' xs l :=
  ⟨h.1, fun j p hj => by
    obtain ⟨vp, h1, h2⟩ := h.2 j p hj
    exact ⟨vp, h1, h2.to hk hS⟩⟩
theorem CellsP.snoc {S : Nat → Prop} {w : World} {xs : List Value} {l : List PZ} {v : Value} {p : PZ} (h : CellsP S w xs l) (hv : RTs S w v p) : CellsP S w (xs ++ [v]) (l ++ [p]) := by
  refine ⟨by simp [h.1], fun j q hj => ?_⟩
  by_cases hlt : j < l.length
  · rw [List.getElem?_append_left hlt] at hj
    rw [List.getElem?_append_left (by rw [h.1]; exact hlt)]
    exact h.2 j q hj
  · have hj2 := lt_of_some hj
    simp only [List.length_append, List.length_cons, List.length_nil] at hj2
    obtain rfl : j = l.length := by omega
    rw [List.getElem?_append_right (Nat.le_refl _), Nat.sub_self] at hj
    obtain rfl : p = q := by simpa using hj
    refine ⟨v, ?_, hv⟩
    rw [← h.1, List.getElem?_append_right (Nat.le_refl _), Nat.sub_self]
    rfl
theorem own_rps {S : Nat → Prop} {w : World} {base : Nat} {e : TypeId} {v : Value} {xs : List Value} {l : List PZ} (h : w.ownsRow base e 1 v l.length xs) (hc : CellsP S w xs l) (hB : ∀ k, base ≤ k → k < w.heap.size → S k) : RPs S w v l := by
  have hlt := h.lt
  rcases h.2 with ⟨rfl, h0⟩ | ⟨g, cap, cur, rfl, hg, hh, h1, h2, h3, h4⟩
  · obtain rfl : l = [] := List.length_eq_zero_iff.1 h0
    exact ⟨0, 0, ⟨none, 0, rfl, Nat.zero_le _, by decide, fun h => absurd h (Nat.lt_irrefl 0), fun h => absurd h (Nat.lt_irrefl 0)⟩, fun j t hj => by simp at hj⟩
  · refine ⟨g, 0, ⟨_, cap, rfl, h1, h2, fun _ => rfl, fun _ => hB g (hlt g rfl).1 (hlt g rfl).2⟩, fun j t hj => ?_⟩
    obtain ⟨vp, g1, g2⟩ := hc.2 j t hj
    have hb := lt_of_some hj
    refine ⟨vp, ?_, g2⟩
    rw [h.cellAt (0 + j) (by omega), Nat.zero_add]
    exact g1
theorem Try.infoP : (Try.prog.info? 33).map (fun i => (i.zero, i.size, i.bytes)) = some (some (.slice none 0 0), 1, 24) := by kernel_rfl

section
variable {S : Nat → Prop} {w w1 w2 : World} {o : Value} {e : TypeId} {size n : Nat} {xs : List Value}
theorem cellsP_ext {l : List PZ} (hS : ∀ k, S k → k < w.heap.size) (h0 : Ext w w1) (h : CellsP (Off S w w1 o) w1 xs l) (hx : Ext w1 w2) : CellsP (Off S w w2 o) w2 xs l :=
  h.to (Kept.ext hx (fun k h => plus_lt hS h0 k h.1)) (fun k h => ⟨plus_grow hx.size k h.1, h.2⟩)
/-- a polynomial that was made behind a slice -/
theorem rts_off {v : Value} {p : PZ} (hS : ∀ k, S k → k < w.heap.size) (h0 : Ext w w1) (ho : w1.ownsRow w.heap.size e size o n xs) (hx : Ext w1 w2) (h : RTs (Plus S w1 w2) w2 v p) : RTs (Off S w w2 o) w2 v p :=
  h.to (Kept.refl _ _) (fun k hk => by
    rcases hk with hk | hk
    · refine ⟨.inl hk, fun e => ?_⟩
      have := (ho.lt k e.symm).1
      have := hS k hk
      omega
    · refine ⟨.inr ⟨Nat.le_trans h0.size hk.1, hk.2⟩, fun e => ?_⟩
      have := (ho.lt k e.symm).2
      have := hk.1
      omega)
theorem cellsP_grown {v3 : Value} {w3 : World} {l : List PZ} (hS : ∀ k, S k → k < w.heap.size) (hx : Ext w w2) (h : CellsP (Off S w w2 o) w2 xs l) (hg : w2.grownBy w3 o.ownBlock) (hb : v3.ownBlock = o.ownBlock ∨ v3.ownBlock = some (w2.heap.size + 1)) : CellsP (Off S w w3 v3) w3 xs l :=
  h.to (Kept.grown hg (fun k hk => ⟨plus_lt hS hx k hk.1, hk.2⟩)) (fun k hk => ⟨plus_grow hg.size k hk.1, off_still hS hx hk hb⟩)
end

/-- sizes that the document's numbers take -/
def fitT (ts : List RTerm) : Prop := tinyT ts ∧ ts.length ≤ 1000000
theorem szP_toP {ts : List RTerm} (hok : okT ts) (h : fitT ts) : szP (toP ts) := by
  refine ⟨by rw [toP_length]; exact Nat.le_trans h.2 (by decide), fun t ht => ?_⟩
  obtain ⟨u, hu, rfl⟩ := List.mem_map.1 ht
  exact szZ_of (hok u hu) (h.1 u hu)
theorem szP_take {p : PZ} (h : szP p) (k : Nat) : szP (p.take k) := ⟨Nat.le_trans (by rw [List.length_take]; exact Nat.min_le_right _ _) h.1, fun t ht => h.2 t (List.mem_of_mem_take ht)⟩
theorem addP_take {p : PZ} (h : canP p) (k : Nat) : addP [] (p.take k) = p.take k := normP_of_can (canP_sublist h (List.take_sublist _ _))
theorem plainP_yes {ts : List RTerm} (h : mayT ts = true) : plainP ts = toP ts := by unfold plainP; simp [h]
theorem plainP_no {ts : List RTerm} (h : mayT ts = false) : plainP ts = [] := by unfold plainP; simp [h]

set_option maxRecDepth 100000 in
set_option maxHeartbeats 8000000 in
theorem law15_plain {S : Nat → Prop} (v : Value) (ls : List (List RTerm)) (w : World) (h : Polys S w v ls) (hS : ∀ k, S k → k < w.heap.size) (hfit : ∀ ts ∈ ls, fitT ts) (hlen : ls.length ≤ 1000000) :
    Calls Try.prog 10 #[v] w fun e w' => ∃ v', e = .returned v' ∧ RPs (Plus S w w') w' v' (ls.map plainP) ∧ Ext w w' := by
  have H := hid h
  have HF := hid hfit
  have HL := hid hlen
  have hl := h.len_le
  obtain ⟨a, cap, rfl⟩ := h.form
  clear h hfit hlen
  go_enter Try.func10, Try.ntmps10
  go_wp2
  go_loopw [3, 7] (fun o i wr => ∃ k xs, k ≤ ls.length ∧ i = .int .i64 (k : Nat) ∧ Ext w wr ∧ Hid (wr.ownsRow w.heap.size 33 1 o k xs) ∧ Hid (CellsP (Off S w wr o) wr xs ((ls.take k).map plainP))) (fun _ i _ => ls.length - (intOf i).toNat)
  case atStart => exact ⟨0, [], Nat.zero_le _, rfl, Ext.refl _, hid (World.ownsRow_nil _ _ _ _), hid (CellsP.nil _ _)⟩
  case round =>
    obtain ⟨k, xs, hk, rfl, hx, HW, HXS⟩ := hrel
    have HX := hid hx
    by_cases hlt : k < ls.length
    · obtain ⟨t, ht⟩ := some_of_lt hlt
      obtain ⟨b, off, vp, rfl, -, hq1, hm1, hSb, h1, h2⟩ := H.out.cellAt ht
      have HT : Hid ((ls.take (k + 1)).map plainP = (ls.take k).map plainP ++ [plainP t]) := hid (by rw [List.take_add_one, ht, List.map_append]; rfl)
      have HFT := hid (HF.out t (List.mem_of_getElem? ht))
      have g1 := Ext.cell hx h1
      have C := rpoly_may (S := S) vp t wr (h2.ext hx hS) (lt_ext hS hx) HFT.out.1
      have HOK := hid h2.okT
      have H2 := hid h2
      obtain ⟨am, cm, rfl⟩ := h2.form
      generalize hr : mayT t = r at *
      have HR := hid hr
      have HC := hid C
      clear hx ht h1 h2 C hr
      cases r with
      | true =>
        have HPP := hid (plainP_yes HR.out)
        have HCAN := hid (mayT_can HR.out)
        go_wp2_with fail
        refine HC.out.mono ?_
        rintro e w1 ⟨rfl, hx1⟩
        have HX1 := hid (HX.out.trans hx1)
        have k1 := hx1.cell g1
        have HW1 := hid (own_ext HW.out hx1)
        have HXS1 := hid (cellsP_ext hS HX.out HXS.out hx1)
        have CO := hid (rpoly_of (S := S) _ t w1 (H2.out.ext HX1.out hS) (lt_ext hS HX1.out) HFT.out.1 HCAN.out.may (fun k _ => by rw [addP_take HCAN.out]; exact szP_take (szP_toP HOK.out HFT.out) k))
        clear hx1 g1
        go_wp2_with fail
        refine CO.out.mono ?_
        rintro e w2 ⟨v2, rfl, hp2, hx2⟩
        have HX2 := hid (HX1.out.trans hx2)
        have HW2 := hid (own_ext HW1.out hx2)
        have HXS2 := hid (cellsP_ext hS HX1.out HXS1.out hx2)
        have HP2 := hid (rts_off hS HX1.out HW1.out hx2 hp2)
        obtain ⟨a2, c2, rfl⟩ := hp2.form
        obtain ⟨n2, hn2⟩ : ∃ n, n = (normP (toP t)).length := ⟨_, rfl⟩
        rw [← hn2] at HP2 ⊢
        clear hx2 hp2 hn2
        go_wp2_with (at_builtin; refine wpList_append_new _ rfl (.tmp 15) (.tmp 21) 27 rfl w.heap.size 33 (.slice none 0 0) 1 24 Try.underlying27 Try.infoP rfl (by decide) _ k xs rfl HW2.out #[.slice a2 n2 c2] rfl (one_cell rfl) rfl (by have := HL.out; omega) (by decide) HX2.out.size ?_; intro v3 w3 hown hg hbk; have HW3 := hid hown; have HG3 := hid hg; have HBK := hid hbk; clear hown hg hbk)
        go_roundw
        case rel =>
          refine ⟨k + 1, xs ++ [.slice a2 n2 c2], by omega, by go_num, own_grown0 HX2.out HW2.out HG3.out, HW3, hid ?_⟩
          rw [HT.out, HPP.out, ← normP_of_can HCAN.out]
          exact cellsP_grown hS HX2.out (HXS2.out.snoc HP2.out) HG3.out HBK.out
        case measure => simp only [intOf]; omega
      | false =>
        have HPP := hid (plainP_no HR.out)
        go_wp2_with fail
        refine HC.out.mono ?_
        rintro e w1 ⟨rfl, hx1⟩
        have HX1 := hid (HX.out.trans hx1)
        have HW1 := hid (own_ext HW.out hx1)
        have HXS1 := hid (cellsP_ext hS HX.out HXS.out hx1)
        clear hx1
        go_wp2_with (at_builtin; refine wpList_append_new _ rfl (.tmp 23) (.tmp 24) 27 rfl w.heap.size 33 (.slice none 0 0) 1 24 Try.underlying27 Try.infoP rfl (by decide) _ k xs rfl HW1.out #[.slice none 0 0] rfl (one_cell rfl) rfl (by have := HL.out; omega) (by decide) HX1.out.size ?_; intro v3 w3 hown hg hbk; have HW3 := hid hown; have HG3 := hid hg; have HBK := hid hbk; clear hown hg hbk)
        go_roundw
        case rel =>
          refine ⟨k + 1, xs ++ [.slice none 0 0], by omega, by go_num, own_grown0 HX1.out HW1.out HG3.out, HW3, hid ?_⟩
          rw [HT.out, HPP.out]
          exact cellsP_grown hS HX1.out (HXS1.out.snoc (RTs.nilv _ _ _ _ (by omega))) HG3.out HBK.out
        case measure => simp only [intOf]; omega
    · obtain rfl : k = ls.length := by omega
      have HE : Hid (ls.take ls.length = ls) := hid (List.take_length)
      clear hx
      go_wp2
      go_ret
      refine ⟨_, rfl, ?_, HX.out⟩
      have hc := HXS.out
      rw [HE.out] at hc
      refine own_rps (by rw [List.length_map]; exact HW.out) (hc.to (Kept.refl _ _) (fun _ h => h.1)) (fun k h1 h2 => .inr ⟨h1, h2⟩)
end Go.Proofs.Ythplgldclilccaa
