/- The document: classes, degrees and ranks of polynomials. -/
import Derived.Test.YthplgldclilccaaRefOf
import Derived.Test.YthplgldclilccaaRankBy
namespace Go.Proofs.Ythplgldclilccaa
open Go.RowKit

theorem clsP_take {p : PZ} {k : Nat} {t : Int × Mono} (h : p[k]? = some t) : clsP (p.take (k + 1)) = max (clsP (p.take k)) (classM t.2) := by
  rw [List.take_add_one, h]
  unfold clsP
  simp [List.foldl_append]
theorem clsP_range {p : PZ} (h : mayAll p) : 0 ≤ clsP p ∧ clsP p ≤ 200 :=
  ⟨foldl_max_le (fun t : Int × Mono => classM t.2) p 0, foldl_max_ub (fun t : Int × Mono => classM t.2) p 0 200 (by omega) (fun t ht => (class_range (h t ht)).2)⟩
theorem RTs.cell2 {w : World} {a : Option Addr} {n cap k : Nat} {p : PZ} {t : Int × Mono} (h : RTs (Old w) w (.slice a n cap) p) (ht : p[k]? = some t) :
    ∃ b off ao co, a = some ⟨b, off, none⟩ ∧ n ≤ cap ∧ cap ≤ 9223372036854775807 ∧ w.cell? ⟨b, off + k * 3 + 2, none⟩ = some (.slice ao t.2.length co) ∧ Pows (Old w) w (.slice ao t.2.length co) t.2 := by
  obtain ⟨b, off, vd, vo, rfl, -, hn1, hm1, hSb, h1, h2, h3, h4, h5⟩ := h.cellAt ht
  obtain ⟨ao, co, rfl⟩ := h5.form
  exact ⟨b, off, ao, co, rfl, hn1, hm1, h3, h5⟩

set_option maxRecDepth 100000 in
set_option maxHeartbeats 4000000 in
theorem rview_class (v : Value) (p : PZ) (w : World) (h : RTs (Old w) w v p) (hmay : mayAll p) :
    Calls Try.prog 37 #[v] w fun e w' => e = .returned (.int .i64 (clsP p)) ∧ Ext w w' := by
  have H := hid h
  have HM := hid hmay
  have hl := h.len_le
  obtain ⟨a, cap, rfl⟩ := h.form
  clear h hmay
  go_enter Try.func37, Try.ntmps37
  go_wp2
  go_loopw [3, 4] (fun d i wr => ∃ k : Nat, k ≤ p.length ∧ i = .int .i64 k ∧ d = .int .i64 (clsP (p.take k)) ∧ Ext w wr) (fun _ i _ => p.length - (intOf i).toNat)
  case atStart => exact ⟨0, Nat.zero_le _, rfl, rfl, Ext.refl _⟩
  case round =>
    obtain ⟨k, hk, rfl, rfl, hx⟩ := hrel
    have HX := hid hx
    obtain ⟨hd1, hd2⟩ := clsP_range (mayAll_take HM.out k)
    by_cases hlt : k < p.length
    · obtain ⟨t, ht⟩ := some_of_lt hlt
      obtain ⟨b, off, ao, co, rfl, hn1, hm1, h3, h5⟩ := H.out.cell2 ht
      have hmm := HM.out t (List.mem_of_getElem? ht)
      have HS := hid (clsP_take ht)
      obtain ⟨he1, he2⟩ := class_range hmm
      have g3 := Ext.cell hx h3
      have H5 := hid h5
      have C := fun (W : World) (hW : Ext w W) => rmono_class (S := Old w) _ t.2 W (H5.out.ext hW (fun _ h => h)) (lt_ext (fun _ h => h) hW)
      rw [plainM_yes hmm] at C
      have HC := hid C
      clear h3 h5 hx ht C hmm
      generalize clsP (p.take k) = d at *
      generalize classM t.2 = q at *
      go_wp2_with fail
      refine (HC.out wr HX.out).mono ?_
      rintro e w1 ⟨rfl, hx1⟩
      have k3 := hx1.cell g3
      have HX1 := hid (HX.out.trans hx1)
      clear hx1 g3
      by_cases hgt : d < q
      · go_wp2_with fail
        refine (HC.out w1 HX1.out).mono ?_
        rintro e w2 ⟨rfl, hx2⟩
        have HX2 := hid (HX1.out.trans hx2)
        clear hx2
        go_wp2
        go_roundw
        case rel => exact ⟨k + 1, by omega, by go_num, by rw [HS.out]; exact congrArg (Value.int .i64) (by omega), HX2.out⟩
        case measure => simp only [intOf]; omega
      · go_wp2
        go_roundw
        case rel => exact ⟨k + 1, by omega, by go_num, by rw [HS.out]; exact congrArg (Value.int .i64) (by omega), HX1.out⟩
        case measure => simp only [intOf]; omega
    · obtain rfl : k = p.length := by omega
      have HE : Hid (clsP (p.take p.length) = clsP p) := hid (by rw [List.take_length])
      clear hx
      go_wp2
      all_goals
        go_ret
        exact ⟨by rw [HE.out]; rfl, HX.out⟩

set_option maxRecDepth 100000 in
set_option maxHeartbeats 4000000 in
theorem rview_degree (v : Value) (p : PZ) (x : Int) (w : World) (h : RTs (Old w) w v p) (hmay : mayAll p) (hxb : -9223372036854775808 ≤ x ∧ x ≤ 9223372036854775807) :
    Calls Try.prog 38 #[v, .int .i64 x] w fun e w' => e = .returned (.int .i64 (degP p x)) ∧ Ext w w' := by
  have H := hid h
  have HM := hid hmay
  have HXB := hid hxb
  have hl := h.len_le
  obtain ⟨a, cap, rfl⟩ := h.form
  clear h hmay hxb
  go_enter Try.func38, Try.ntmps38
  go_wp2
  go_loopw [5, 6] (fun d i wr => ∃ k : Nat, k ≤ p.length ∧ i = .int .i64 k ∧ d = .int .i64 (degP (p.take k) x) ∧ Ext w wr) (fun _ i _ => p.length - (intOf i).toNat)
  case atStart => exact ⟨0, Nat.zero_le _, rfl, rfl, Ext.refl _⟩
  case round =>
    obtain ⟨k, hk, rfl, rfl, hx⟩ := hrel
    have HX := hid hx
    obtain ⟨hd1, hd2⟩ := degP_range (mayAll_take HM.out k) x
    by_cases hlt : k < p.length
    · obtain ⟨t, ht⟩ := some_of_lt hlt
      obtain ⟨b, off, ao, co, rfl, hn1, hm1, h3, h5⟩ := H.out.cell2 ht
      have hmm := HM.out t (List.mem_of_getElem? ht)
      have HS := hid (degP_take ht x)
      obtain ⟨he1, he2⟩ := ex_range hmm x
      have g3 := Ext.cell hx h3
      have H5 := hid h5
      have C := fun (W : World) (hW : Ext w W) => rmono_degree (S := Old w) _ t.2 x W (H5.out.ext hW (fun _ h => h)) (lt_ext (fun _ h => h) hW) HXB.out
      rw [plainM_yes hmm] at C
      have HC := hid C
      clear h3 h5 hx ht C hmm
      generalize degP (p.take k) x = d at *
      generalize ex t.2 x = q at *
      go_wp2_with fail
      refine (HC.out wr HX.out).mono ?_
      rintro e w1 ⟨rfl, hx1⟩
      have k3 := hx1.cell g3
      have HX1 := hid (HX.out.trans hx1)
      clear hx1 g3
      by_cases hgt : d < q
      · go_wp2_with fail
        refine (HC.out w1 HX1.out).mono ?_
        rintro e w2 ⟨rfl, hx2⟩
        have HX2 := hid (HX1.out.trans hx2)
        clear hx2
        go_wp2
        go_roundw
        case rel => exact ⟨k + 1, by omega, by go_num, by rw [HS.out]; exact congrArg (Value.int .i64) (by omega), HX2.out⟩
        case measure => simp only [intOf]; omega
      · go_wp2
        go_roundw
        case rel => exact ⟨k + 1, by omega, by go_num, by rw [HS.out]; exact congrArg (Value.int .i64) (by omega), HX1.out⟩
        case measure => simp only [intOf]; omega
    · obtain rfl : k = p.length := by omega
      have HE : Hid (degP (p.take p.length) x = degP p x) := hid (by rw [List.take_length])
      clear hx
      go_wp2
      all_goals
        go_ret
        exact ⟨by rw [HE.out]; rfl, HX.out⟩

theorem leadP_zero {p : PZ} (h : canP p) (h0 : leadP p = 0) : degP p (leadP p) = 0 := by rw [h0]; exact degP_zero h.may (by omega)

set_option maxRecDepth 100000 in
set_option maxHeartbeats 4000000 in
theorem rrank_of (v : Value) (p : PZ) (w : World) (h : RTs (Old w) w v p) (hcan : canP p) :
    Calls Try.prog 11 #[v] w fun e w' => e = .returned (RankV (rankP p)) ∧ Ext w w' := by
  have HK := hid (Ext.alloc (Ext.refl w) (.cells #[.int .i64 0, .int .i64 0] 30))
  have H := hid (RTs.on h HK.out)
  have HC := hid hcan
  have hcl := rview_class _ p _ H.out hcan.may
  rw [clsP_lead hcan] at hcl
  have HCL := hid hcl
  have hDeg := fun (W : World) (hW : Ext (w.alloc (.cells #[.int .i64 0, .int .i64 0] 30)) W) => rview_degree v p (leadP p) W (RTs.on H.out hW) hcan.may (by have := leadP_range hcan; omega)
  have HDEG := hid hDeg
  have HZ := hid (leadP_zero hcan)
  have er : rankP p = (leadP p, degP p (leadP p)) := rfl
  obtain ⟨hl1, hl2⟩ := leadP_range hcan
  obtain ⟨a, cap, rfl⟩ := h.form
  rw [er]
  clear h hcan hcl hDeg er
  generalize leadP p = c at *
  generalize degP p c = d at *
  go_enter Try.func11, Try.ntmps11
  go_wp2_with fail
  refine HCL.out.mono ?_
  rintro e w1 ⟨rfl, hx1⟩
  have HX1 := hid hx1
  by_cases hc : c = 0
  · subst hc
    have hd0 : d = 0 := HZ.out rfl
    subst hd0
    obtain ⟨c0, c1, f0, f1⟩ := new2 hx1
    have HE := hid (And.intro c0 c1)
    clear hx1
    go_wp2
    have hd := fun x y => two_set x y HE.out.1 HE.out.2
    refine bodyPost_ret (by simp [results, Try.results11, go_sem, (hd _ _).1, (hd _ _).2]; rfl) rfl ?_
    exact ⟨rfl, (HK.out.trans HX1.out).set2 (Nat.le_refl _) _ _⟩
  · have hb : (c == 0) = false := by rw [beq_eq_false_iff_ne]; exact hc
    clear hx1
    go_wp2_with fail
    refine (HDEG.out w1 HX1.out).mono ?_
    rintro e w2 ⟨rfl, hx2⟩
    obtain ⟨c0, c1, f0, f1⟩ := new2 (HX1.out.trans hx2)
    have HE := hid (And.intro c0 c1)
    have HX2 := hid (HX1.out.trans hx2)
    clear hx2
    go_wp2
    have hd := fun x y => two_set x y HE.out.1 HE.out.2
    refine bodyPost_ret (by simp [results, Try.results11, go_sem, (hd _ _).1, (hd _ _).2]; rfl) rfl ?_
    exact ⟨rfl, (HK.out.trans HX2.out).set2 (Nat.le_refl _) _ _⟩
end Go.Proofs.Ythplgldclilccaa

namespace Go.Proofs.Ythplgldclilccaa
open Go.RowKit

set_option maxRecDepth 100000 in
set_option maxHeartbeats 4000000 in
theorem rrank_less (a b : Int × Int) (w : World) (ha : inRank a) (hb : inRank b) :
    Calls Try.prog 12 #[RankV a, RankV b] w fun e w' => e = .returned (.bool (lessR a b)) ∧ Ext w w' := by
  obtain ⟨a1, a2⟩ := a
  obtain ⟨b1, b2⟩ := b
  unfold RankV
  simp only
  have HK := hid (Ext.alloc (Ext.alloc (Ext.refl w) (.cells #[.int .i64 a1, .int .i64 a2] 30)) (.cells #[.int .i64 b1, .int .i64 b2] 30))
  have ia1 : -9223372036854775808 ≤ a1 ∧ a1 ≤ 9223372036854775807 := ha.1
  have ia2 : -9223372036854775808 ≤ a2 ∧ a2 ≤ 9223372036854775807 := ha.2
  have ib1 : -9223372036854775808 ≤ b1 ∧ b1 ≤ 9223372036854775807 := hb.1
  have ib2 : -9223372036854775808 ≤ b2 ∧ b2 ≤ 9223372036854775807 := hb.2
  clear ha hb
  rcases Int.lt_trichotomy a1 b1 with h | h | h
  · have HF : Hid (lessR (a1, a2) (b1, b2) = true) := hid (decide_eq_true (.inl h))
    have hb1 : decide (a1 < b1) = true := decide_eq_true h
    go_enter Try.func12, Try.ntmps12
    go_wp2
    all_goals
      go_ret
      exact ⟨by rw [HF.out]; rfl, HK.out⟩
  · subst h
    by_cases h2 : a2 < b2
    · have HF : Hid (lessR (a1, a2) (a1, b2) = true) := hid (decide_eq_true (.inr ⟨rfl, h2⟩))
      go_enter Try.func12, Try.ntmps12
      go_wp2
      all_goals
        go_ret
        exact ⟨by rw [HF.out]; rfl, HK.out⟩
    · have HF : Hid (lessR (a1, a2) (a1, b2) = false) := hid (decide_eq_false (by
        rintro (e | ⟨e, e2⟩)
        · have e' : a1 < a1 := e
          omega
        · exact h2 e2))
      go_enter Try.func12, Try.ntmps12
      go_wp2
      all_goals
        go_ret
        exact ⟨by rw [HF.out]; rfl, HK.out⟩
  · have HF : Hid (lessR (a1, a2) (b1, b2) = false) := hid (decide_eq_false (by
      rintro (e | ⟨e, e2⟩)
      · have e' : a1 < b1 := e
        omega
      · have e' : a1 = b1 := e
        omega))
    have hb1 : (a1 == b1) = false := by rw [beq_eq_false_iff_ne]; omega
    go_enter Try.func12, Try.ntmps12
    go_wp2
    all_goals
      go_ret
      exact ⟨by rw [HF.out]; show Ending.returned (.bool (decide (a1 < b1))) = _; rw [decide_eq_false (by omega)], HK.out⟩

theorem empty_len {α : Type} (l : List α) : l.isEmpty = ((l.length : Int) == 0) := by
  cases l with
  | nil => rfl
  | cons x r =>
    symm
    simp only [List.isEmpty_cons, beq_eq_false_iff_ne, List.length_cons]
    omega

set_option maxRecDepth 100000 in
set_option maxHeartbeats 4000000 in
theorem rrank_reduced (vp vq : Value) (p q : PZ) (w : World) (hp : RTs (Old w) w vp p) (hq : RTs (Old w) w vq q) (hcp : canP p) (hcq : canP q) :
    Calls Try.prog 16 #[vp, vq] w fun e w' => e = .returned (.bool (reducedP p q)) ∧ Ext w w' := by
  have HP := hid hp
  have HO := hid (rrank_of vq q w hq hcq)
  have HIN := hid (rankP_in hcq)
  have hDeg := fun (c : Int) (hc : -9223372036854775808 ≤ c ∧ c ≤ 9223372036854775807) (W : World) (hW : Ext w W) => rview_degree vp p c W (RTs.on HP.out hW) hcp.may hc
  have HDEG := hid hDeg
  have hpl := hp.len_le
  have er : reducedP p q = if leadP q = 0 then ((p.length : Int) == 0) else decide (degP p (leadP q) < degP q (leadP q)) := by rw [← empty_len]; rfl
  have ER := hid er
  have hlr := leadP_range hcq
  have hdr := degP_range hcq.may (leadP q)
  have hpr := degP_range hcp.may (leadP q)
  obtain ⟨ap, cp, rfl⟩ := hp.form
  obtain ⟨aq, cq, rfl⟩ := hq.form
  have ev : RankV (rankP q) = .agg #[.int .i64 (leadP q), .int .i64 (degP q (leadP q))] := rfl
  rw [ev] at HO
  clear hp hq hcp hcq hDeg er ev
  generalize leadP q = c at *
  generalize degP q c = d at *
  generalize hpd : degP p c = g at *
  have HPD := hid hpd
  obtain ⟨hl1, hl2⟩ := hlr
  obtain ⟨hd1, hd2⟩ := hdr
  obtain ⟨hp1, hp2⟩ := hpr
  clear hpd
  go_enter Try.func16, Try.ntmps16
  go_wp2_with fail
  refine HO.out.mono ?_
  rintro e w1 ⟨rfl, hx1⟩
  have HX1 := hid hx1
  have HN := hid (cell_new w1 #[.int .i64 c, .int .i64 d] 30 (b := w1.heap.size) (i := 0) rfl rfl)
  clear hx1
  by_cases hc : c = 0
  · subst hc
    have ER0 : Hid (reducedP p q = ((p.length : Int) == 0)) := hid (by rw [ER.out, if_pos rfl])
    have HK := hid (HX1.out.alloc (.cells #[.int .i64 0, .int .i64 d] 30))
    go_wp2
    all_goals
      go_ret
      exact ⟨by rw [ER0.out]; rfl, HK.out⟩
  · have hb : (c == 0) = false := by rw [beq_eq_false_iff_ne]; exact hc
    have ER1 : Hid (reducedP p q = decide (g < d)) := hid (by rw [ER.out, if_neg hc])
    have HK := hid (HX1.out.alloc (.cells #[.int .i64 c, .int .i64 d] 30))
    have L0 := fun X : Later (w1.alloc (.cells #[.int .i64 c, .int .i64 d] 30)) => X.h.new_cell (i := 0) (v := .int .i64 c) rfl
    have L1 := fun X : Later (w1.alloc (.cells #[.int .i64 c, .int .i64 d] 30)) => X.h.new_cell (i := 1) (v := .int .i64 d) rfl
    have CD := fun (W : World) (hW : Ext w W) => HDEG.out c (by omega) W hW
    rw [HPD.out] at CD
    have HCD := hid CD
    clear CD
    go_wp2
    refine wp_region_later (by kernel_rfl) (by kernel_rfl) ?_
    repeat (go_big_quiet_step (first | (go_at_call 38; exact Later.done (HCD.out _ (HK.out.trans (Later.h _))))))
    refine wpQuiet_nil ?_
    intro W hW
    have HW := hid (HK.out.trans hW)
    clear hW
    go_wp2
    all_goals
      go_ret
      exact ⟨by rw [ER1.out]; rfl, HW.out⟩
/-- slices of polynomials of the document -/
def RPs (S : Nat → Prop) (w : World) (v : Value) (l : List PZ) : Prop :=
  ∃ b off, SliceAt S v l.length b off ∧ ∀ j p, l[j]? = some p → ∃ vp, w.cell? ⟨b, off + j, none⟩ = some vp ∧ RTs S w vp p
section
variable {S S' : Nat → Prop} {w w' : World} {v : Value} {l : List PZ}
theorem RPs.to (h : RPs S w v l) (hk : Kept S w w') (hS : ∀ k, S k → S' k) : RPs S' w' v l := by
  obtain ⟨b, off, hs, hc⟩ := h
  refine ⟨b, off, hs.mono hS, fun j p hj => ?_⟩
  obtain ⟨vp, h1, h2⟩ := hc j p hj
  exact ⟨vp, hk.cell (hs.in (lt_of_some hj)) h1, h2.to hk hS⟩
theorem RPs.form (h : RPs S w v l) : ∃ a cap, v = .slice a l.length cap := by
  obtain ⟨b, off, ⟨a, cap, h1, _⟩, _⟩ := h
  exact ⟨a, cap, h1⟩
theorem RPs.len_le (h : RPs S w v l) : l.length ≤ 9223372036854775807 := by
  obtain ⟨b, off, ⟨a, cap, h1, h2, h3, _⟩, _⟩ := h
  unfold maxLen at h3
  omega
theorem RPs.cellAt {a : Option Addr} {n cap k : Nat} {p : PZ} (h : RPs S w (.slice a n cap) l) (ht : l[k]? = some p) :
    ∃ b off vp, a = some ⟨b, off, none⟩ ∧ n = l.length ∧ n ≤ cap ∧ cap ≤ 9223372036854775807 ∧ S b ∧ w.cell? ⟨b, off + k, none⟩ = some vp ∧ RTs S w vp p := by
  obtain ⟨b, off, ⟨a', cap', h1, h2, h3, h4, h5⟩, hc⟩ := h
  obtain ⟨rfl, rfl, rfl⟩ : a = a' ∧ n = l.length ∧ cap = cap' := by simpa using h1
  have hp : 0 < l.length := by have := lt_of_some ht; omega
  obtain ⟨vp, g1, g2⟩ := hc k p ht
  exact ⟨b, off, vp, h4 hp, rfl, h2, h3, h5 hp, g1, g2⟩
end
theorem RPs.on {w W : World} {v : Value} {l : List PZ} (h : RPs (Old w) w v l) (hx : Ext w W) : RPs (Old W) W v l := h.to (Kept.ext hx (fun _ h => h)) (old_lt hx)

set_option maxRecDepth 100000 in
set_option maxHeartbeats 4000000 in
theorem rrank_by (vp vl : Value) (p : PZ) (l : List PZ) (w : World) (hp : RTs (Old w) w vp p) (hl : RPs (Old w) w vl l) (hcp : canP p) (hcl : ∀ q ∈ l, canP q) :
    Calls Try.prog 18 #[vp, vl] w fun e w' => e = .returned (.bool (l.all fun q => reducedP p q)) ∧ Ext w w' := by
  have hnot : ∀ (x : Bool) (w : World), (Op.unary .not (.bool x)).run Try.prog w = .ok (.bool (!x)) w := fun _ _ => rfl
  have HP := hid hp
  have HL := hid hl
  have HCP := hid hcp
  have HCL := hid hcl
  have hle := hl.len_le
  obtain ⟨ap, cp, rfl⟩ := hp.form
  obtain ⟨al, cl, rfl⟩ := hl.form
  clear hp hl hcp hcl
  go_enter Try.func18, Try.ntmps18
  go_wp2
  go_loopw [5] (fun i wr => ∃ k : Nat, k ≤ l.length ∧ i = .int .i64 k ∧ Ext w wr ∧ Hid ((l.take k).all (fun q => reducedP p q) = true)) (fun i _ => l.length - (intOf i).toNat)
  case atStart => exact ⟨0, Nat.zero_le _, rfl, Ext.refl _, hid rfl⟩
  case round =>
    obtain ⟨k, hk, rfl, hx, HM⟩ := hrel
    have HX := hid hx
    by_cases hlt : k < l.length
    · obtain ⟨q, hq⟩ := some_of_lt hlt
      obtain ⟨b, off, vq, rfl, -, hn1, hm1, hSb, h1, h2⟩ := HL.out.cellAt hq
      have g1 := Ext.cell hx h1
      have HT : Hid (l.take (k + 1) = l.take k ++ [q]) := hid (by rw [List.take_add_one, hq]; rfl)
      have HQ := hid (List.mem_of_getElem? hq)
      have C := rrank_reduced (.slice ap p.length cp) vq p q wr (RTs.on HP.out hx) (RTs.on h2 hx) HCP.out (HCL.out q HQ.out)
      obtain ⟨aq, cq, rfl⟩ := h2.form
      generalize hr : reducedP p q = r at *
      have HR := hid hr
      have HC := hid C
      clear hx hq h1 h2 C hr
      cases r with
      | true =>
        go_wp2_with fail
        refine HC.out.mono ?_
        rintro e w1 ⟨rfl, hx1⟩
        have HX1 := hid (HX.out.trans hx1)
        clear hx1
        go_wp2
        go_roundw
        case rel => exact ⟨k + 1, by omega, by go_num, HX1.out, hid (by rw [HT.out, List.all_append, HM.out]; simp [HR.out])⟩
        case measure => simp only [intOf]; omega
      | false =>
        have HF : Hid ((l.all fun q => reducedP p q) = false) := hid (by
          rw [List.all_eq_false]
          exact ⟨q, HQ.out, by rw [HR.out]; simp⟩)
        go_wp2_with fail
        refine HC.out.mono ?_
        rintro e w1 ⟨rfl, hx1⟩
        have HX1 := hid (HX.out.trans hx1)
        clear hx1
        go_wp2
        all_goals
          go_ret
          exact ⟨by rw [HF.out]; rfl, HX1.out⟩
    · obtain rfl : k = l.length := by omega
      have HF : Hid ((l.all fun q => reducedP p q) = true) := hid (by have := HM.out; rw [List.take_length] at this; exact this)
      clear hx
      go_wp2
      all_goals
        go_ret
        exact ⟨by rw [HF.out]; rfl, HX.out⟩
end Go.Proofs.Ythplgldclilccaa
