/- Degree, rank, the order of ranks, what is reduced. -/
import Derived.Test.YthplgldclilccaaLead
namespace Go.Proofs.Ythplgldclilccaa
open Go.RowKit

theorem new2 {w W : World} {u v : Value} {T : TypeId} (h : Ext (w.alloc (.cells #[u, v] T)) W) :
    W.cell? ⟨w.heap.size, 0, none⟩ = some u ∧ W.cell? ⟨w.heap.size, 1, none⟩ = some v ∧ W.frozen? ⟨w.heap.size, 0, none⟩ = false ∧ W.frozen? ⟨w.heap.size, 1, none⟩ = false :=
  ⟨h.new_cell rfl, h.new_cell rfl, h.new_free 0, h.new_free 1⟩

theorem degP_snoc (p : PZ) (t : Int × Mono) (v : Int) : degP (p ++ [t]) v = max (degP p v) (ex t.2 v) := by
  simp [degP, List.foldl_append]
theorem degP_take {p : PZ} {k : Nat} {t : Int × Mono} (h : p[k]? = some t) (v : Int) : degP (p.take (k + 1)) v = max (degP (p.take k) v) (ex t.2 v) := by
  rw [List.take_add_one, h]
  exact degP_snoc _ _ _
theorem mayAll_take {p : PZ} (h : mayAll p) (k : Nat) : mayAll (p.take k) := fun t ht => h t (List.mem_of_mem_take ht)

set_option maxRecDepth 100000 in
set_option maxHeartbeats 4000000 in
theorem view_degree {S : Nat → Prop} (v : Value) (ts : List RTerm) (x : Int) (w : World) (h : Terms S w v ts) (hS : ∀ k, S k → k < w.heap.size) (hr : smallT ts) (hx : -9223372036854775808 ≤ x ∧ x ≤ 9223372036854775807) :
    Calls Try.prog 29 #[v, .int .i64 x] w fun e w' => e = .returned (.int .i64 (degP (plainP ts) x)) ∧ Ext w w' := by
  have H := hid h
  have HR := hid hr
  have HXB := hid hx
  obtain ⟨a, cap, rfl⟩ := h.form
  clear h hr hx
  go_enter Try.func29, Try.ntmps29
  go_wp2_with fail
  refine (view_plain _ ts w H.out hS HR.out).mono ?_
  rintro e w1 ⟨v1, rfl, hp, hx1⟩
  have HX1 := hid hx1
  have HP := hid hp
  have hcan : mayAll (plainP ts) := (plainP_can ts).may
  rw [← toP_plainT] at hcan
  have ep : plainP ts = toP (plainT ts) := (toP_plainT ts).symm
  have EP := hid ep
  clear ep
  generalize plainT ts = qs at *
  have HCAN := hid hcan
  obtain ⟨a1, c1, rfl⟩ := hp.form
  have hl := hp.len_le
  clear hx1 hp hcan
  go_wp2
  go_loopw [4, 10] (fun d i wr => ∃ k : Nat, k ≤ qs.length ∧ i = .int .i64 k ∧ d = .int .i64 (degP ((toP qs).take k) x) ∧ Ext w1 wr) (fun _ i _ => qs.length - (intOf i).toNat)
  case atStart => exact ⟨0, Nat.zero_le _, rfl, rfl, Ext.refl _⟩
  case round =>
    obtain ⟨k, hk, rfl, rfl, hx⟩ := hrel
    obtain ⟨hd1, hd2⟩ := degP_range (mayAll_take HCAN.out k) x
    by_cases hlt : k < qs.length
    · obtain ⟨t, ht⟩ := some_of_lt hlt
      obtain ⟨b, off, vm, vo, rfl, -, hn1, hm1, hSb, h1, h2, h3, h4, h5⟩ := HP.out.cellAt ht
      have hq : (toP qs)[k]? = some (valI t.c, t.m) := by simp [toP, ht]
      have hmm : mayM t.m = true := HCAN.out _ (List.mem_of_getElem? hq)
      have hep : ex (plainM t.m) x = ex t.m x := by unfold plainM; rw [if_pos hmm]
      have HS := hid (degP_take hq x)
      obtain ⟨he1, he2⟩ := ex_range hmm x
      obtain ⟨⟨ng, zs⟩, m⟩ := t
      simp only at h1 h2 h3 h4 h5 hep he1 he2 HS
      have H5 := hid h5
      obtain ⟨am, cm, rfl⟩ := h4.form
      obtain ⟨ao, co, rfl⟩ := h5.form
      have g1 := Ext.cell hx h1
      have g2 := Ext.cell hx h2
      have g3 := Ext.cell hx h3
      have HX := hid hx
      have HA := hid (hx.alloc (.cells #[.bool ng, .slice am zs.length cm, .slice ao m.length co] 72))
      have hS1 : ∀ k, S k → k < w1.heap.size := lt_ext hS HX1.out
      have HD := mono_degree (S := S) (.slice ao m.length co) m x _ (H5.out.ext HA.out hS1) (lt_ext hS1 HA.out) HXB.out
      rw [hep] at HD
      have HDD := hid HD
      clear h1 h2 h3 h4 h5 hx ht hq hmm hep HD
      generalize degP ((toP qs).take k) x = d at *
      generalize ex m x = q at *
      go_wp2_with fail
      refine HDD.out.mono ?_
      rintro e w2 ⟨rfl, hx2⟩
      have HX2 := hid (HA.out.trans hx2)
      clear hx2
      go_wp2
      go_roundw
      case rel => exact ⟨k + 1, by omega, by go_num, by rw [HS.out]; exact congrArg (Value.int .i64) (by split <;> omega), HX2.out⟩
      case measure => simp only [intOf]; omega
    · obtain rfl : k = qs.length := by omega
      have HX := hid hx
      clear hx
      go_wp2
      all_goals
        go_ret
        refine ⟨?_, HX1.out.trans HX.out⟩
        rw [EP.out, List.take_of_length_le (by simp [toP])]
        rfl

def RankV (r : Int × Int) : Value := .agg #[.int .i64 r.1, .int .i64 r.2]

set_option maxRecDepth 100000 in
set_option maxHeartbeats 2000000 in
theorem rank_of {S : Nat → Prop} (v : Value) (ts : List RTerm) (w : World) (h : Terms S w v ts) (hS : ∀ k, S k → k < w.heap.size) (hr : smallT ts) :
    Calls Try.prog 13 #[v] w fun e w' => e = .returned (RankV (rankP (plainP ts))) ∧ Ext w w' := by
  have H := hid h
  have HR := hid hr
  obtain ⟨a, cap, rfl⟩ := h.form
  have HL := hid (leadP_range (plainP_can ts))
  clear h hr
  have HK := hid (Ext.alloc (Ext.refl w) (.cells #[.int .i64 0, .int .i64 0] 30))
  go_enter Try.func13, Try.ntmps13
  go_wp2_with fail
  refine (view_class _ ts _ (H.out.ext HK.out hS) (lt_ext hS HK.out) HR.out).mono ?_
  rintro e w1 ⟨rfl, hx1⟩
  have HX1 := hid (HK.out.trans hx1)
  have HXA := hid hx1
  clear hx1
  go_wp2_with fail
  have hl := HL.out
  generalize hlp : leadP (plainP ts) = c at *
  have HLP := hid hlp
  clear hlp
  refine (view_degree _ ts c _ (H.out.ext HX1.out hS) (lt_ext hS HX1.out) HR.out (by omega)).mono ?_
  rintro e w2 ⟨rfl, hx2⟩
  obtain ⟨c0, c1, f0, f1⟩ := new2 (HXA.out.trans hx2)
  have HE := hid (And.intro c0 c1)
  have HX2 := hid (HX1.out.trans hx2)
  clear hx2
  go_wp2
  have hd := fun x y => two_set x y HE.out.1 HE.out.2
  refine bodyPost_ret (by simp [results, Try.results13, go_sem, (hd _ _).1, (hd _ _).2]; rfl) rfl ?_
  refine ⟨?_, HX2.out.set2 (Nat.le_refl _) _ _⟩
  unfold rankP RankV
  rw [HLP.out]

def orI (a b : Int) : Int := if a ≠ 0 then a else b
theorem orI_pos {a b : Int} (h : ¬ a = 0) : orI a b = a := if_pos h
theorem orI_neg {a b : Int} (h : a = 0) : orI a b = b := if_neg (fun k => k h)

theorem or_two (c0 c1 : Int) (b : Nat) (w : World) (h0 : w.cell? ⟨b, 0, none⟩ = some (.int .i64 c0)) (h1 : w.cell? ⟨b, 1, none⟩ = some (.int .i64 c1)) :
    Calls Try.prog 77 #[.slice (some ⟨b, 0, none⟩) 2 2] w fun e w' => e = .returned (.int .i64 (orI c0 c1)) ∧ w = w' := by
  go_enter Try.func77, Try.ntmps77
  go_wp2
  go_loop [8] (fun i => ∃ k : Nat, k ≤ 2 ∧ i = .int .i64 k ∧ (1 ≤ k → c0 = 0) ∧ (2 ≤ k → c1 = 0)) (fun i => 2 - (intOf i).toNat)
  case atStart => exact ⟨0, by omega, rfl, by omega, by omega⟩
  case round =>
    obtain ⟨k, hk, rfl, z0, z1⟩ := hrel
    rcases (show k = 0 ∨ k = 1 ∨ k = 2 by omega) with rfl | rfl | rfl
    · by_cases hc : c0 = 0
      · have hb : (c0 != 0) = false := by simpa using hc
        have HC := hid hc
        clear hc z0 z1
        go_wp2
        go_round
        case rel => exact ⟨1, by omega, by go_num, fun _ => HC.out, by omega⟩
        case measure => simp [intOf]
      · have hb : (c0 != 0) = true := by simpa using hc
        have HC := hid hc
        clear hc z0 z1
        go_wp2
        all_goals
          go_ret
          exact ⟨by rw [orI_pos HC.out]; rfl, rfl⟩
    · have HC := hid (z0 (by omega))
      clear z0 z1
      by_cases hc : c1 = 0
      · have hb : (c1 != 0) = false := by simpa using hc
        have HC1 := hid hc
        clear hc
        go_wp2
        go_round
        case rel => exact ⟨2, by omega, by go_num, fun _ => HC.out, fun _ => HC1.out⟩
        case measure => simp [intOf]
      · have hb : (c1 != 0) = true := by simpa using hc
        have HC1 := hid hc
        clear hc
        go_wp2
        all_goals
          go_ret
          exact ⟨by rw [orI_neg HC.out]; rfl, rfl⟩
    · have HC := hid (z0 (by omega))
      have HC1 := hid (z1 (by omega))
      clear z0 z1
      go_wp2
      all_goals
        go_ret
        exact ⟨by rw [orI_neg HC.out, HC1.out]; rfl, rfl⟩

theorem or_new {b : Nat} (c0 c1 : Int) (W : World) (T : TypeId) (hb : b = W.heap.size) :
    Calls Try.prog 77 #[.slice (some ⟨b, 0, none⟩) 2 2] (W.alloc (.cells #[.int .i64 c0, .int .i64 c1] T)).drew fun e w' => e = .returned (.int .i64 (orI c0 c1)) ∧ (W.alloc (.cells #[.int .i64 c0, .int .i64 c1] T)).drew = w' := by
  subst hb
  exact or_two c0 c1 _ _ (new2 (Ext.refl (W.alloc (.cells #[.int .i64 c0, .int .i64 c1] T))).drew).1 (new2 (Ext.refl (W.alloc (.cells #[.int .i64 c0, .int .i64 c1] T))).drew).2.1

def inRank (r : Int × Int) : Prop := inI64 r.1 ∧ inI64 r.2

set_option maxRecDepth 100000 in
set_option maxHeartbeats 4000000 in
theorem rank_order (a b : Int × Int) (w : World) (ha : inRank a) (hb : inRank b) :
    Calls Try.prog 39 #[RankV a, RankV b] w fun e w' => e = .returned (.int .i64 (orderR a b)) ∧ Ext w w' := by
  obtain ⟨a1, a2⟩ := a
  obtain ⟨b1, b2⟩ := b
  unfold RankV
  simp only
  have HA := hid ha
  have HB := hid hb
  have HK := hid (Ext.alloc (Ext.alloc (Ext.refl w) (.cells #[.int .i64 a1, .int .i64 a2] 30)) (.cells #[.int .i64 b1, .int .i64 b2] 30))
  have ia1 : -9223372036854775808 ≤ a1 ∧ a1 ≤ 9223372036854775807 := ha.1
  have ia2 : -9223372036854775808 ≤ a2 ∧ a2 ≤ 9223372036854775807 := ha.2
  have ib1 : -9223372036854775808 ≤ b1 ∧ b1 ≤ 9223372036854775807 := hb.1
  have ib2 : -9223372036854775808 ≤ b2 ∧ b2 ≤ 9223372036854775807 := hb.2
  clear ha hb
  by_cases he : a1 = b1 ∧ a2 = b2
  · obtain ⟨rfl, rfl⟩ := he
    go_enter Try.func39, Try.ntmps39
    go_wp2
    all_goals
      go_ret
      exact ⟨by simp [orderR], HK.out⟩
  · have eo : orderR (a1, a2) (b1, b2) = orI (cmpI a1 b1) (cmpI a2 b2) := by
      unfold orderR orI
      rw [if_neg (fun k => he (by simpa using k))]
    have EO := hid eo
    have hS0 : (((w.alloc (.cells #[.int .i64 a1, .int .i64 a2] 30)).alloc (.cells #[.int .i64 b1, .int .i64 b2] 30)).drew.cell? ⟨w.heap.size, 0, none⟩ = some (.int .i64 a1)) ∧
        (((w.alloc (.cells #[.int .i64 a1, .int .i64 a2] 30)).alloc (.cells #[.int .i64 b1, .int .i64 b2] 30)).drew.cell? ⟨w.heap.size, 1, none⟩ = some (.int .i64 a2)) ∧
        (((w.alloc (.cells #[.int .i64 a1, .int .i64 a2] 30)).alloc (.cells #[.int .i64 b1, .int .i64 b2] 30)).drew.cell? ⟨w.heap.size + 1, 0, none⟩ = some (.int .i64 b1)) ∧
        (((w.alloc (.cells #[.int .i64 a1, .int .i64 a2] 30)).alloc (.cells #[.int .i64 b1, .int .i64 b2] 30)).drew.cell? ⟨w.heap.size + 1, 1, none⟩ = some (.int .i64 b2)) := by
      have e2 := Ext.drew (Ext.refl ((w.alloc (.cells #[.int .i64 a1, .int .i64 a2] 30)).alloc (.cells #[.int .i64 b1, .int .i64 b2] 30)))
      have e1 := (Ext.alloc (Ext.refl (w.alloc (.cells #[.int .i64 a1, .int .i64 a2] 30))) (.cells #[.int .i64 b1, .int .i64 b2] 30)).trans e2
      have k2 := new2 e2
      rw [size_alloc] at k2
      exact ⟨(new2 e1).1, (new2 e1).2.1, k2.1, k2.2.1⟩
    have HS0 := hid hS0
    have HSZ : Hid (w.heap.size + 1 + 1 = ((w.alloc (.cells #[.int .i64 a1, .int .i64 a2] 30)).alloc (.cells #[.int .i64 b1, .int .i64 b2] 30)).heap.size) := hid (by simp)
    clear hS0 eo
    by_cases e1 : a1 = b1
    · have e2 : ¬ a2 = b2 := fun e => he ⟨e1, e⟩
      subst e1
      clear he
      go_enter Try.func39, Try.ntmps39
      go_wp2
      have S0 := HS0.out
      go_region_held3 (fun W => W.cell? ⟨w.heap.size, 0, none⟩ = some (.int .i64 a1) ∧ W.cell? ⟨w.heap.size, 1, none⟩ = some (.int .i64 a2) ∧ W.cell? ⟨w.heap.size + 1, 0, none⟩ = some (.int .i64 a1) ∧ W.cell? ⟨w.heap.size + 1, 1, none⟩ = some (.int .i64 b2)) (first | exact S0 | exact ⟨cell_old _ S0.1, cell_old _ S0.2.1, cell_old _ S0.2.2.1, cell_old _ S0.2.2.2⟩)
        (first
          | (go_at_call 42; (with_reducible refine (cmp_int _ _ _ (by assumption) (by assumption)).mono ?_); rintro e w' ⟨rfl, rfl⟩)
          | (go_at_call 77; (with_reducible refine (or_new _ _ _ _ HSZ.out).mono ?_); rintro e w' ⟨rfl, rfl⟩))
      go_wp2
      go_ret
      exact ⟨by rw [EO.out]; rfl, (HK.out.alloc _).drew⟩
    · clear he
      go_enter Try.func39, Try.ntmps39
      go_wp2
      have S0 := HS0.out
      go_region_held3 (fun W => W.cell? ⟨w.heap.size, 0, none⟩ = some (.int .i64 a1) ∧ W.cell? ⟨w.heap.size, 1, none⟩ = some (.int .i64 a2) ∧ W.cell? ⟨w.heap.size + 1, 0, none⟩ = some (.int .i64 b1) ∧ W.cell? ⟨w.heap.size + 1, 1, none⟩ = some (.int .i64 b2)) (first | exact S0 | exact ⟨cell_old _ S0.1, cell_old _ S0.2.1, cell_old _ S0.2.2.1, cell_old _ S0.2.2.2⟩)
        (first
          | (go_at_call 42; (with_reducible refine (cmp_int _ _ _ (by assumption) (by assumption)).mono ?_); rintro e w' ⟨rfl, rfl⟩)
          | (go_at_call 77; (with_reducible refine (or_new _ _ _ _ HSZ.out).mono ?_); rintro e w' ⟨rfl, rfl⟩))
      go_wp2
      go_ret
      exact ⟨by rw [EO.out]; rfl, (HK.out.alloc _).drew⟩

theorem rankP_in {p : PZ} (h : canP p) : inRank (rankP p) := by
  have h1 := leadP_range h
  have h2 := degP_range h.may (leadP p)
  unfold rankP inRank inI64
  simp only
  omega

set_option maxRecDepth 100000 in
theorem rank_compare {S : Nat → Prop} (va vb : Value) (ps qs : List RTerm) (w : World) (ha : Terms S w va ps) (hb : Terms S w vb qs) (hS : ∀ k, S k → k < w.heap.size) (hra : smallT ps) (hrb : smallT qs) :
    Calls Try.prog 14 #[va, vb] w fun e w' => e = .returned (.int .i64 (orderR (rankP (plainP ps)) (rankP (plainP qs)))) ∧ Ext w w' := by
  have HA := hid ha
  have HB := hid hb
  have HRA := hid hra
  have HRB := hid hrb
  obtain ⟨aa, ca, rfl⟩ := ha.form
  obtain ⟨ab, cb, rfl⟩ := hb.form
  clear ha hb hra hrb
  go_enter Try.func14, Try.ntmps14
  go_wp2_with fail
  refine (rank_of _ ps w HA.out hS HRA.out).mono ?_
  rintro e w1 ⟨rfl, hx1⟩
  have HX1 := hid hx1
  clear hx1
  go_wp2_with fail
  refine (rank_of _ qs w1 (HB.out.ext HX1.out hS) (lt_ext hS HX1.out) HRB.out).mono ?_
  rintro e w2 ⟨rfl, hx2⟩
  have HX2 := hid hx2
  clear hx2
  go_wp2_with fail
  refine (rank_order _ _ w2 (rankP_in (plainP_can ps)) (rankP_in (plainP_can qs))).mono ?_
  rintro e w3 ⟨rfl, hx3⟩
  have HX3 := hid hx3
  clear hx3
  go_wp2
  all_goals
    go_ret
    exact ⟨rfl, HX1.out.trans (HX2.out.trans HX3.out)⟩

theorem plainP_nil {ts : List RTerm} : (plainP ts).isEmpty = decide (ts.length = 0 ∨ mayT ts = false) := by
  unfold plainP
  cases ts with
  | nil => cases h : mayT [] <;> simp [toP]
  | cons t r => cases h : mayT (t :: r) <;> simp [toP]

set_option maxRecDepth 100000 in
set_option maxHeartbeats 4000000 in
theorem rank_reduced {S : Nat → Prop} (va vb : Value) (ps qs : List RTerm) (w : World) (ha : Terms S w va ps) (hb : Terms S w vb qs) (hS : ∀ k, S k → k < w.heap.size) (hra : smallT ps) (hrb : smallT qs) :
    Calls Try.prog 15 #[va, vb] w fun e w' => e = .returned (.bool (reducedP (plainP ps) (plainP qs))) ∧ Ext w w' := by
  have hnot : ∀ (x : Bool) (w : World), (Op.unary .not (.bool x)).run Try.prog w = .ok (.bool (!x)) w := fun _ _ => rfl
  have HA := hid ha
  have HB := hid hb
  have HRA := hid hra
  have HRB := hid hrb
  obtain ⟨aa, ca, rfl⟩ := ha.form
  obtain ⟨ab, cb, rfl⟩ := hb.form
  have hl := ha.len_le
  clear ha hb hra hrb
  have HIN := hid (rankP_in (plainP_can qs))
  have HLP := hid (leadP_range (plainP_can qs))
  go_enter Try.func15, Try.ntmps15
  go_wp2_with fail
  refine (rank_of _ qs w HB.out hS HRB.out).mono ?_
  unfold RankV
  rintro e w1 ⟨rfl, hx1⟩
  have hd : rankP (plainP qs) = (leadP (plainP qs), degP (plainP qs) (leadP (plainP qs))) := rfl
  rw [hd] at HIN ⊢
  have er : reducedP (plainP ps) (plainP qs) = if leadP (plainP qs) = 0 then (plainP ps).isEmpty else decide (degP (plainP ps) (leadP (plainP qs)) < degP (plainP qs) (leadP (plainP qs))) := rfl
  have ER := hid er
  simp only at HIN ⊢
  clear hd er
  have hDeg := fun (c : Int) (hc : -9223372036854775808 ≤ c ∧ c ≤ 9223372036854775807) (W : World) (hW : Ext w W) => view_degree (S := S) _ ps c W (HA.out.ext hW hS) (lt_ext hS hW) HRA.out hc
  have HDEG := hid hDeg
  have HCAN := hid (plainP_can ps).may
  generalize leadP (plainP qs) = c at *
  generalize degP (plainP qs) c = d at *
  obtain ⟨hi1, hi2⟩ := HIN.out
  simp only at hi1 hi2
  unfold inI64 at hi1 hi2
  obtain ⟨hi11, hi12⟩ := hi1
  obtain ⟨hi21, hi22⟩ := hi2
  have HX1 := hid hx1
  have HA1 := hid (Ext.alloc hx1 (.cells #[.int .i64 c, .int .i64 d] 30))
  have L0 := fun X : Later (w1.alloc (.cells #[.int .i64 c, .int .i64 d] 30)) => X.h.new_cell (i := 0) (v := .int .i64 c) rfl
  have L1 := fun X : Later (w1.alloc (.cells #[.int .i64 c, .int .i64 d] 30)) => X.h.new_cell (i := 1) (v := .int .i64 d) rfl
  clear hx1 hDeg
  by_cases hc : c = 0
  · subst hc
    have ER1 : Hid (reducedP (plainP ps) (plainP qs) = decide (ps.length = 0 ∨ mayT ps = false)) := hid (by rw [ER.out, if_pos rfl, plainP_nil])
    by_cases h0 : ps.length = 0
    · have hb : ((ps.length : Int) == 0) = true := by rw [beq_iff_eq]; omega
      have H0 := hid h0
      clear h0
      go_wp2
      all_goals
        go_ret
        exact ⟨by rw [ER1.out, decide_eq_true (.inl H0.out)]; rfl, HA1.out⟩
    · have hb : ((ps.length : Int) == 0) = false := by rw [beq_eq_false_iff_ne]; omega
      have H0 := hid h0
      clear h0
      go_wp2_with fail
      refine (poly_may _ ps _ (HA.out.ext HA1.out hS) (lt_ext hS HA1.out) HRA.out).mono ?_
      rintro e w2 ⟨rfl, hx2⟩
      have HX2 := hid (HA1.out.trans hx2)
      clear hx2
      cases hm : mayT ps with
      | false =>
        have HM := hid hm
        clear hm
        go_wp2
        all_goals
          go_ret
          exact ⟨by rw [ER1.out, decide_eq_true (.inr HM.out)]; rfl, HX2.out⟩
      | true =>
        have HM := hid hm
        clear hm
        go_wp2
        all_goals
          go_ret
          exact ⟨by rw [ER1.out, decide_eq_false (fun h => h.elim H0.out (fun h => by rw [HM.out] at h; cases h))]; rfl, HX2.out⟩
  · have hb : (c == 0) = false := by rw [beq_eq_false_iff_ne]; exact hc
    have ER1 : Hid (reducedP (plainP ps) (plainP qs) = decide (degP (plainP ps) c < d)) := hid (by rw [ER.out, if_neg hc])
    have hdr := degP_range HCAN.out c
    have HD2 := fun W hW => HDEG.out c ⟨hi11, hi12⟩ W hW
    generalize degP (plainP ps) c = q at *
    obtain ⟨hdr1, hdr2⟩ := hdr
    have HDD := hid HD2
    have HC := hid hc
    clear HD2 hc
    go_wp2
    refine wp_region_later (by kernel_rfl) (by kernel_rfl) ?_
    repeat (go_big_quiet_step (first | (go_at_call 29; exact Later.done (HDD.out _ (HA1.out.trans (Later.h _))))))
    refine wpQuiet_nil ?_
    intro W hW
    have HW := hid (HA1.out.trans hW)
    clear hW
    go_wp2
    all_goals
      go_ret
      exact ⟨by rw [ER1.out]; rfl, HW.out⟩
end Go.Proofs.Ythplgldclilccaa
