/- Which polynomials may be. -/
import Derived.Test.YthplgldclilccaaSign
import Derived.Test.YthplgldclilccaaWholeAdd
import Derived.Test.YthplgldclilccaaLater
namespace Go.Proofs.Ythplgldclilccaa
open Go.RowKit
attribute [local go_sem ↓] Go.wp_at_zero Go.wp_at_succ

theorem ext4 {w W : World} (h : Ext w W) {a b c d i j k l : Nat} {x y z u : Value} (s : w.cell? ⟨a, i, none⟩ = some x ∧ w.cell? ⟨b, j, none⟩ = some y ∧ w.cell? ⟨c, k, none⟩ = some z ∧ w.cell? ⟨d, l, none⟩ = some u) :
    W.cell? ⟨a, i, none⟩ = some x ∧ W.cell? ⟨b, j, none⟩ = some y ∧ W.cell? ⟨c, k, none⟩ = some z ∧ W.cell? ⟨d, l, none⟩ = some u := ⟨h.cell s.1, h.cell s.2.1, h.cell s.2.2.1, h.cell s.2.2.2⟩
theorem ext3 {w W : World} (h : Ext w W) {a b c i j k : Nat} {x y z : Value} (s : w.cell? ⟨a, i, none⟩ = some x ∧ w.cell? ⟨b, j, none⟩ = some y ∧ w.cell? ⟨c, k, none⟩ = some z) :
    W.cell? ⟨a, i, none⟩ = some x ∧ W.cell? ⟨b, j, none⟩ = some y ∧ W.cell? ⟨c, k, none⟩ = some z := ⟨h.cell s.1, h.cell s.2.1, h.cell s.2.2⟩
theorem Pows.ext {S : Nat → Prop} {w W : World} {v : Value} {zs : Mono} (h : Pows S w v zs) (hx : Ext w W) (hS : ∀ k, S k → k < w.heap.size) : Pows S W v zs := h.to (Kept.ext hx hS) (fun _ h => h)
theorem Terms.ext {S : Nat → Prop} {w W : World} {v : Value} {zs : List RTerm} (h : Terms S w v zs) (hx : Ext w W) (hS : ∀ k, S k → k < w.heap.size) : Terms S W v zs := h.to (Kept.ext hx hS) (fun _ h => h)
/-- the cells of a term -/
theorem Terms.cellAt {S : Nat → Prop} {w : World} {ts : List RTerm} {a : Option Addr} {n cap k : Nat} {t : RTerm} (h : Terms S w (.slice a n cap) ts) (ht : ts[k]? = some t) :
    ∃ b off vm vo, a = some ⟨b, off, none⟩ ∧ n = ts.length ∧ n ≤ cap ∧ cap ≤ 9223372036854775807 ∧ S b ∧ w.cell? ⟨b, off + k * 3, none⟩ = some (.bool t.c.neg) ∧ w.cell? ⟨b, off + k * 3 + 1, none⟩ = some vm ∧ w.cell? ⟨b, off + k * 3 + 2, none⟩ = some vo ∧ U32s S w vm t.c.mag ∧ Pows S w vo t.m := by
  obtain ⟨b, off, ⟨a', cap', h1, h2, h3, h4, h5⟩, hc⟩ := h
  obtain ⟨rfl, rfl, rfl⟩ : a = a' ∧ n = ts.length ∧ cap = cap' := by simpa using h1
  have hp : 0 < ts.length := by have := lt_of_some ht; omega
  obtain ⟨vm, vo, g1, g2, g3, g4, g5⟩ := hc k t ht
  exact ⟨b, off, vm, vo, h4 hp, rfl, h2, h3, h5 hp, g1, g2, g3, g4, g5⟩
theorem Terms.len_le {S : Nat → Prop} {w : World} {v : Value} {zs : List RTerm} (h : Terms S w v zs) : zs.length ≤ 9223372036854775807 := by
  obtain ⟨b, off, ⟨a, cap, h1, h2, h3, _⟩, _⟩ := h
  unfold maxLen at h3
  omega
theorem Terms.okT {S : Nat → Prop} {w : World} {v : Value} {zs : List RTerm} (h : Terms S w v zs) : okT zs := by
  obtain ⟨b, off, hs, hc⟩ := h
  intro t ht
  obtain ⟨j, hj⟩ := List.getElem?_of_mem ht
  obtain ⟨vm, vo, g1, g2, g3, g4, g5⟩ := hc j t hj
  exact g4.lt

theorem intV_mk {S : Nat → Prop} {w : World} {ng : Bool} {zs : List Nat} {vm : Value} (h : U32s S w vm zs) : IntV S w (.agg #[.bool ng, vm]) ⟨ng, zs⟩ := ⟨vm, rfl, h⟩
/-- the limbs of each term are not too many -/
def smallT (ts : List RTerm) : Prop := ∀ t ∈ ts, t.c.mag.length ≤ 100000000000

/-- the term before the k-th -/
def befT (ts : List RTerm) : Nat → Option RTerm
  | 0 => none
  | k + 1 => ts[k]?
theorem mayFrom_at {ts : List RTerm} {k : Nat} {t : RTerm} (ht : ts[k]? = some t) : mayFrom (befT ts k) (ts.drop k) = (mayTerm t && (match befT ts k with | none => true | some u => decide (0 < orderM u.m t.m)) && mayFrom (befT ts (k + 1)) (ts.drop (k + 1))) := by
  rw [drop_at ht]
  simp only [befT, ht]
  rfl
theorem valI_zero {r : RInt} : signI (valI r) = 0 ↔ val B32 r.mag = 0 := by
  unfold signI valI
  rw [cmpI_zero]
  cases r.neg <;> simp
theorem mayTerm_sign {t : RTerm} (h : signI (valI t.c) = 0) : mayTerm t = false := by
  unfold mayTerm
  rw [valI_zero] at h
  simp [h]
theorem mayTerm_int {t : RTerm} (h : mayI t.c = false) : mayTerm t = false := by
  unfold mayTerm
  simp [h]
theorem mayTerm_mono {t : RTerm} (h : mayM t.m = false) : mayTerm t = false := by
  unfold mayTerm
  simp [h]
theorem mayTerm_yes {t : RTerm} (h1 : signI (valI t.c) ≠ 0) (h2 : mayI t.c = true) (h3 : mayM t.m = true) : mayTerm t = true := by
  unfold mayTerm
  rw [Ne, valI_zero] at h1
  simp [h1, h2, h3]

theorem orderM_range (a b : Mono) : -1 ≤ orderM a b ∧ orderM a b ≤ 1 := by
  unfold orderM
  split
  · rename_i hmm
    simp only [Bool.and_eq_true] at hmm
    rcases compareM_cases hmm.1 hmm.2 with h | h | h <;> omega
  · omega

set_option maxRecDepth 100000 in
set_option maxHeartbeats 8000000 in
theorem poly_may {S : Nat → Prop} (v : Value) (ts : List RTerm) (w : World) (h : Terms S w v ts) (hS : ∀ k, S k → k < w.heap.size) (hr : smallT ts) :
    Calls Try.prog 21 #[v] w fun e w' => e = .returned (.bool (mayT ts)) ∧ Ext w w' := by
  have hnot : ∀ (x : Bool) (w : World), (Op.unary .not (.bool x)).run Try.prog w = .ok (.bool (!x)) w := fun _ _ => rfl
  have hl := h.len_le
  have H := hid h
  have HRS := hid hr
  obtain ⟨a, cap, rfl⟩ := h.form
  clear h hr
  go_enter Try.func21, Try.ntmps21
  go_wp2
  go_loopw [7] (fun i wr => ∃ k : Nat, k ≤ ts.length ∧ i = .int .i64 k ∧ Ext w wr ∧ mayT ts = mayFrom (befT ts k) (ts.drop k)) (fun i _ => ts.length - (intOf i).toNat)
  case atStart => exact ⟨0, Nat.zero_le _, rfl, Ext.refl _, rfl⟩
  case round =>
    obtain ⟨k, hk, rfl, hx, hm⟩ := hrel
    by_cases hlt : k < ts.length
    · obtain ⟨t, ht⟩ := some_of_lt hlt
      obtain ⟨b, off, vm, vo, rfl, -, hn1, hm1, hSb, h1, h2, h3, h4, h5⟩ := H.out.cellAt ht
      have hat := mayFrom_at ht
      have hsm := HRS.out t (List.mem_of_getElem? ht)
      rw [hat] at hm
      have HM := hid hm
      have HT := hid ht
      obtain ⟨⟨ng, zs⟩, m⟩ := t
      simp only at h1 h2 h3 h4 h5 hsm
      have H4 := hid h4
      have H5 := hid h5
      obtain ⟨am, cm, rfl⟩ := h4.form
      obtain ⟨ao, co, rfl⟩ := h5.form
      have g1 := Ext.cell hx h1
      have g2 := Ext.cell hx h2
      have g3 := Ext.cell hx h3
      have X0 := hid (hx.alloc (.cells #[.bool ng, .slice am zs.length cm, .slice ao m.length co] 72))
      have L0 := fun X : Later (wr.alloc (.cells #[.bool ng, .slice am zs.length cm, .slice ao m.length co] 72)) => X.h.new_cell (i := 0) (v := .bool ng) rfl
      have L1 := fun X : Later (wr.alloc (.cells #[.bool ng, .slice am zs.length cm, .slice ao m.length co] 72)) => X.h.new_cell (i := 1) (v := .slice am zs.length cm) rfl
      have L2 := fun X : Later (wr.alloc (.cells #[.bool ng, .slice am zs.length cm, .slice ao m.length co] 72)) => X.h.new_cell (i := 2) (v := .slice ao m.length co) rfl
      have HX := hid hx
      have HSM := hid hsm
      clear hm ht h1 h2 h3 h4 h5 hx hat hsm

      cases k with
      | zero =>
        simp only [Nat.zero_mul, Nat.add_zero] at g1 g2 g3
        obtain ⟨sgn, hs⟩ : ∃ s, signI (valI ⟨ng, zs⟩) = s := ⟨_, rfl⟩
        by_cases hc0 : sgn = 0
        · subst hc0
          have CS := fun (W : World) (h : IntV S W (.agg #[.bool ng, .slice am zs.length cm]) ⟨ng, zs⟩) hs => whole_sign (S := S) _ _ W h hs (Nat.le_trans HSM.out (by decide))
          simp only [hs] at CS
          have HCS := hid CS
          clear CS
          have HF : Hid (mayT ts = false) := hid (by rw [HM.out, mayTerm_sign hs]; rfl)
          clear hs
          go_wp2
          refine wp_region_later (by kernel_rfl) (by kernel_rfl) ?_
          repeat (go_big_quiet_step (first | (go_at_call 45; exact Later.done (HCS.out _ (intV_mk (H4.out.ext (X0.out.trans (Later.h _)) hS)) (lt_ext hS (X0.out.trans (Later.h _)))))))
          refine wpQuiet_nil ?_
          intro W hW
          have HW := hid (X0.out.trans hW)
          clear hW
          go_wp2
          all_goals
            go_ret
            exact ⟨by rw [HF.out]; rfl, HW.out⟩
        · have hb0 : (sgn == 0) = false := by rw [beq_eq_false_iff_ne]; exact hc0
          have hsr : -1 ≤ sgn ∧ sgn ≤ 1 := by rw [← hs]; unfold signI; rcases cmpI_cases (valI ⟨ng, zs⟩) 0 with h | h | h <;> omega
          obtain ⟨hsr1, hsr2⟩ := hsr
          cases hi : mayI ⟨ng, zs⟩ with
          | false =>
            have CS := fun (W : World) (h : IntV S W (.agg #[.bool ng, .slice am zs.length cm]) ⟨ng, zs⟩) hs => whole_sign (S := S) _ _ W h hs (Nat.le_trans HSM.out (by decide))
            simp only [hs] at CS
            have HCS := hid CS
            clear CS
            have CM := fun (W : World) (h : IntV S W (.agg #[.bool ng, .slice am zs.length cm]) ⟨ng, zs⟩) hs => whole_may (S := S) _ _ W h hs
            simp only [hi] at CM
            have HCM := hid CM
            clear CM
            have HF : Hid (mayT ts = false) := hid (by rw [HM.out, mayTerm_int hi]; rfl)
            clear hs
            clear hi
            go_wp2
            refine wp_region_later (by kernel_rfl) (by kernel_rfl) ?_
            repeat (go_big_quiet_step (first | (go_at_call 45; exact Later.done (HCS.out _ (intV_mk (H4.out.ext (X0.out.trans (Later.h _)) hS)) (lt_ext hS (X0.out.trans (Later.h _))))) | (go_at_call 46; exact Later.done (HCM.out _ (intV_mk (H4.out.ext (X0.out.trans (Later.h _)) hS)) (lt_ext hS (X0.out.trans (Later.h _)))))))
            refine wpQuiet_nil ?_
            intro W hW
            have HW := hid (X0.out.trans hW)
            clear hW
            go_wp2
            all_goals
              go_ret
              exact ⟨by rw [HF.out]; rfl, HW.out⟩
          | true =>
            cases hq : mayM m with
            | false =>
              have CS := fun (W : World) (h : IntV S W (.agg #[.bool ng, .slice am zs.length cm]) ⟨ng, zs⟩) hs => whole_sign (S := S) _ _ W h hs (Nat.le_trans HSM.out (by decide))
              simp only [hs] at CS
              have HCS := hid CS
              clear CS
              have CM := fun (W : World) (h : IntV S W (.agg #[.bool ng, .slice am zs.length cm]) ⟨ng, zs⟩) hs => whole_may (S := S) _ _ W h hs
              simp only [hi] at CM
              have HCM := hid CM
              clear CM
              have CQ := fun (W : World) (h : Pows S W (.slice ao m.length co) m) hs => mono_may (S := S) _ _ W h hs
              simp only [hq] at CQ
              have HCQ := hid CQ
              clear CQ
              have HF : Hid (mayT ts = false) := hid (by rw [HM.out, mayTerm_mono hq]; rfl)
              clear hs
              clear hi
              clear hq
              go_wp2
              refine wp_region_later (by kernel_rfl) (by kernel_rfl) ?_
              repeat (go_big_quiet_step (first | (go_at_call 45; exact Later.done (HCS.out _ (intV_mk (H4.out.ext (X0.out.trans (Later.h _)) hS)) (lt_ext hS (X0.out.trans (Later.h _))))) | (go_at_call 46; exact Later.done (HCM.out _ (intV_mk (H4.out.ext (X0.out.trans (Later.h _)) hS)) (lt_ext hS (X0.out.trans (Later.h _))))) | (go_at_call 47; exact Later.done (HCQ.out _ (H5.out.ext (X0.out.trans (Later.h _)) hS) (lt_ext hS (X0.out.trans (Later.h _)))))))
              refine wpQuiet_nil ?_
              intro W hW
              have HW := hid (X0.out.trans hW)
              clear hW
              go_wp2
              all_goals
                go_ret
                exact ⟨by rw [HF.out]; rfl, HW.out⟩
            | true =>
              have CS := fun (W : World) (h : IntV S W (.agg #[.bool ng, .slice am zs.length cm]) ⟨ng, zs⟩) hs => whole_sign (S := S) _ _ W h hs (Nat.le_trans HSM.out (by decide))
              simp only [hs] at CS
              have HCS := hid CS
              clear CS
              have CM := fun (W : World) (h : IntV S W (.agg #[.bool ng, .slice am zs.length cm]) ⟨ng, zs⟩) hs => whole_may (S := S) _ _ W h hs
              simp only [hi] at CM
              have HCM := hid CM
              clear CM
              have CQ := fun (W : World) (h : Pows S W (.slice ao m.length co) m) hs => mono_may (S := S) _ _ W h hs
              simp only [hq] at CQ
              have HCQ := hid CQ
              clear CQ
              have HF : Hid (mayT ts = mayFrom (befT ts (0 + 1)) (ts.drop (0 + 1))) := hid (by rw [HM.out, mayTerm_yes (by rw [hs]; exact hc0) hi hq]; rfl)
              clear hs
              clear hi
              clear hq
              go_wp2
              refine wp_region_later (by kernel_rfl) (by kernel_rfl) ?_
              repeat (go_big_quiet_step (first | (go_at_call 45; exact Later.done (HCS.out _ (intV_mk (H4.out.ext (X0.out.trans (Later.h _)) hS)) (lt_ext hS (X0.out.trans (Later.h _))))) | (go_at_call 46; exact Later.done (HCM.out _ (intV_mk (H4.out.ext (X0.out.trans (Later.h _)) hS)) (lt_ext hS (X0.out.trans (Later.h _))))) | (go_at_call 47; exact Later.done (HCQ.out _ (H5.out.ext (X0.out.trans (Later.h _)) hS) (lt_ext hS (X0.out.trans (Later.h _)))))))
              refine wpQuiet_nil ?_
              intro W hW
              have HW := hid (X0.out.trans hW)
              clear hW
              go_wp2
              go_roundw
              case rel => exact ⟨_, by omega, by go_num, HW.out, HF.out⟩
              case measure => simp only [intOf]; omega
      | succ k =>
        obtain ⟨u, hu⟩ := some_of_lt (show k < ts.length by omega)
        obtain ⟨b', off', vmu, vou, hbb, -, -, -, -, u1, u2, u3, u4, u5⟩ := H.out.cellAt hu
        obtain ⟨rfl, rfl⟩ : b = b' ∧ off = off' := by simpa using hbb
        have HP5 := hid u5
        obtain ⟨ap, cp, rfl⟩ := u5.form
        have HBF : Hid (befT ts (k + 1) = some u) := hid hu
        have L3 := fun X : Later (wr.alloc (.cells #[.bool ng, .slice am zs.length cm, .slice ao m.length co] 72)) => X.cell (X0.out.cell u3)
        have hq0 : ((k : Nat) : Int) + 1 - 1 = (k : Int) := by omega
        clear u1 u2 u3 u4 u5 hu hbb

        obtain ⟨sgn, hs⟩ : ∃ s, signI (valI ⟨ng, zs⟩) = s := ⟨_, rfl⟩
        by_cases hc0 : sgn = 0
        · subst hc0
          have CS := fun (W : World) (h : IntV S W (.agg #[.bool ng, .slice am zs.length cm]) ⟨ng, zs⟩) hs => whole_sign (S := S) _ _ W h hs (Nat.le_trans HSM.out (by decide))
          simp only [hs] at CS
          have HCS := hid CS
          clear CS
          have HF : Hid (mayT ts = false) := hid (by rw [HM.out, mayTerm_sign hs]; rfl)
          clear hs
          go_wp2
          refine wp_region_later (by kernel_rfl) (by kernel_rfl) ?_
          repeat (go_big_quiet_step (first | (go_at_call 45; exact Later.done (HCS.out _ (intV_mk (H4.out.ext (X0.out.trans (Later.h _)) hS)) (lt_ext hS (X0.out.trans (Later.h _)))))))
          refine wpQuiet_nil ?_
          intro W hW
          have HW := hid (X0.out.trans hW)
          clear hW
          go_wp2
          all_goals
            go_ret
            exact ⟨by rw [HF.out]; rfl, HW.out⟩
        · have hb0 : (sgn == 0) = false := by rw [beq_eq_false_iff_ne]; exact hc0
          have hsr : -1 ≤ sgn ∧ sgn ≤ 1 := by rw [← hs]; unfold signI; rcases cmpI_cases (valI ⟨ng, zs⟩) 0 with h | h | h <;> omega
          obtain ⟨hsr1, hsr2⟩ := hsr
          cases hi : mayI ⟨ng, zs⟩ with
          | false =>
            have CS := fun (W : World) (h : IntV S W (.agg #[.bool ng, .slice am zs.length cm]) ⟨ng, zs⟩) hs => whole_sign (S := S) _ _ W h hs (Nat.le_trans HSM.out (by decide))
            simp only [hs] at CS
            have HCS := hid CS
            clear CS
            have CM := fun (W : World) (h : IntV S W (.agg #[.bool ng, .slice am zs.length cm]) ⟨ng, zs⟩) hs => whole_may (S := S) _ _ W h hs
            simp only [hi] at CM
            have HCM := hid CM
            clear CM
            have HF : Hid (mayT ts = false) := hid (by rw [HM.out, mayTerm_int hi]; rfl)
            clear hs
            clear hi
            go_wp2
            refine wp_region_later (by kernel_rfl) (by kernel_rfl) ?_
            repeat (go_big_quiet_step (first | (go_at_call 45; exact Later.done (HCS.out _ (intV_mk (H4.out.ext (X0.out.trans (Later.h _)) hS)) (lt_ext hS (X0.out.trans (Later.h _))))) | (go_at_call 46; exact Later.done (HCM.out _ (intV_mk (H4.out.ext (X0.out.trans (Later.h _)) hS)) (lt_ext hS (X0.out.trans (Later.h _)))))))
            refine wpQuiet_nil ?_
            intro W hW
            have HW := hid (X0.out.trans hW)
            clear hW
            go_wp2
            all_goals
              go_ret
              exact ⟨by rw [HF.out]; rfl, HW.out⟩
          | true =>
            cases hq : mayM m with
            | false =>
              have CS := fun (W : World) (h : IntV S W (.agg #[.bool ng, .slice am zs.length cm]) ⟨ng, zs⟩) hs => whole_sign (S := S) _ _ W h hs (Nat.le_trans HSM.out (by decide))
              simp only [hs] at CS
              have HCS := hid CS
              clear CS
              have CM := fun (W : World) (h : IntV S W (.agg #[.bool ng, .slice am zs.length cm]) ⟨ng, zs⟩) hs => whole_may (S := S) _ _ W h hs
              simp only [hi] at CM
              have HCM := hid CM
              clear CM
              have CQ := fun (W : World) (h : Pows S W (.slice ao m.length co) m) hs => mono_may (S := S) _ _ W h hs
              simp only [hq] at CQ
              have HCQ := hid CQ
              clear CQ
              have HF : Hid (mayT ts = false) := hid (by rw [HM.out, mayTerm_mono hq]; rfl)
              clear hs
              clear hi
              clear hq
              go_wp2
              refine wp_region_later (by kernel_rfl) (by kernel_rfl) ?_
              repeat (go_big_quiet_step (first | (go_at_call 45; exact Later.done (HCS.out _ (intV_mk (H4.out.ext (X0.out.trans (Later.h _)) hS)) (lt_ext hS (X0.out.trans (Later.h _))))) | (go_at_call 46; exact Later.done (HCM.out _ (intV_mk (H4.out.ext (X0.out.trans (Later.h _)) hS)) (lt_ext hS (X0.out.trans (Later.h _))))) | (go_at_call 47; exact Later.done (HCQ.out _ (H5.out.ext (X0.out.trans (Later.h _)) hS) (lt_ext hS (X0.out.trans (Later.h _)))))))
              refine wpQuiet_nil ?_
              intro W hW
              have HW := hid (X0.out.trans hW)
              clear hW
              go_wp2
              all_goals
                go_ret
                exact ⟨by rw [HF.out]; rfl, HW.out⟩
            | true =>
              obtain ⟨od, ho⟩ : ∃ s, orderM u.m m = s := ⟨_, rfl⟩
              have hor : -1 ≤ od ∧ od ≤ 1 := by rw [← ho]; exact orderM_range _ _
              obtain ⟨hor1, hor2⟩ := hor
              by_cases hc1 : od ≤ 0
              · have hb1 : decide (od ≤ 0) = true := by simpa using hc1
                have CS := fun (W : World) (h : IntV S W (.agg #[.bool ng, .slice am zs.length cm]) ⟨ng, zs⟩) hs => whole_sign (S := S) _ _ W h hs (Nat.le_trans HSM.out (by decide))
                simp only [hs] at CS
                have HCS := hid CS
                clear CS
                have CM := fun (W : World) (h : IntV S W (.agg #[.bool ng, .slice am zs.length cm]) ⟨ng, zs⟩) hs => whole_may (S := S) _ _ W h hs
                simp only [hi] at CM
                have HCM := hid CM
                clear CM
                have CQ := fun (W : World) (h : Pows S W (.slice ao m.length co) m) hs => mono_may (S := S) _ _ W h hs
                simp only [hq] at CQ
                have HCQ := hid CQ
                clear CQ
                have CO := fun (W : World) (h1 : Pows S W (.slice ap u.m.length cp) u.m) (h2 : Pows S W (.slice ao m.length co) m) hs => poly_order (S := S) _ _ _ _ W h1 h2 hs
                simp only [ho] at CO
                have HCO := hid CO
                clear CO
                have HF : Hid (mayT ts = false) := hid (by rw [HM.out, HBF.out]; simp only; rw [ho, decide_eq_false (by omega)]; simp)
                clear hs
                clear hi
                clear hq
                clear ho
                go_wp2
                refine wp_region_later (by kernel_rfl) (by kernel_rfl) ?_
                repeat (go_big_quiet_step (first | (go_at_call 45; exact Later.done (HCS.out _ (intV_mk (H4.out.ext (X0.out.trans (Later.h _)) hS)) (lt_ext hS (X0.out.trans (Later.h _))))) | (go_at_call 46; exact Later.done (HCM.out _ (intV_mk (H4.out.ext (X0.out.trans (Later.h _)) hS)) (lt_ext hS (X0.out.trans (Later.h _))))) | (go_at_call 47; exact Later.done (HCQ.out _ (H5.out.ext (X0.out.trans (Later.h _)) hS) (lt_ext hS (X0.out.trans (Later.h _))))) | (go_at_call 48; exact Later.done (HCO.out _ (HP5.out.ext (X0.out.trans (Later.h _)) hS) (H5.out.ext (X0.out.trans (Later.h _)) hS) (lt_ext hS (X0.out.trans (Later.h _)))))))
                refine wpQuiet_nil ?_
                intro W hW
                have HW := hid (X0.out.trans hW)
                clear hW
                go_wp2
                all_goals
                  go_ret
                  exact ⟨by rw [HF.out]; rfl, HW.out⟩
              · have hb1 : decide (od ≤ 0) = false := by simpa using hc1
                have CS := fun (W : World) (h : IntV S W (.agg #[.bool ng, .slice am zs.length cm]) ⟨ng, zs⟩) hs => whole_sign (S := S) _ _ W h hs (Nat.le_trans HSM.out (by decide))
                simp only [hs] at CS
                have HCS := hid CS
                clear CS
                have CM := fun (W : World) (h : IntV S W (.agg #[.bool ng, .slice am zs.length cm]) ⟨ng, zs⟩) hs => whole_may (S := S) _ _ W h hs
                simp only [hi] at CM
                have HCM := hid CM
                clear CM
                have CQ := fun (W : World) (h : Pows S W (.slice ao m.length co) m) hs => mono_may (S := S) _ _ W h hs
                simp only [hq] at CQ
                have HCQ := hid CQ
                clear CQ
                have CO := fun (W : World) (h1 : Pows S W (.slice ap u.m.length cp) u.m) (h2 : Pows S W (.slice ao m.length co) m) hs => poly_order (S := S) _ _ _ _ W h1 h2 hs
                simp only [ho] at CO
                have HCO := hid CO
                clear CO
                have HF : Hid (mayT ts = mayFrom (befT ts (k + 1 + 1)) (ts.drop (k + 1 + 1))) := hid (by rw [HM.out, HBF.out, mayTerm_yes (by rw [hs]; exact hc0) hi hq]; simp only; rw [ho, decide_eq_true (by omega)]; simp)
                clear hs
                clear hi
                clear hq
                clear ho
                go_wp2
                refine wp_region_later (by kernel_rfl) (by kernel_rfl) ?_
                repeat (go_big_quiet_step (first | (go_at_call 45; exact Later.done (HCS.out _ (intV_mk (H4.out.ext (X0.out.trans (Later.h _)) hS)) (lt_ext hS (X0.out.trans (Later.h _))))) | (go_at_call 46; exact Later.done (HCM.out _ (intV_mk (H4.out.ext (X0.out.trans (Later.h _)) hS)) (lt_ext hS (X0.out.trans (Later.h _))))) | (go_at_call 47; exact Later.done (HCQ.out _ (H5.out.ext (X0.out.trans (Later.h _)) hS) (lt_ext hS (X0.out.trans (Later.h _))))) | (go_at_call 48; exact Later.done (HCO.out _ (HP5.out.ext (X0.out.trans (Later.h _)) hS) (H5.out.ext (X0.out.trans (Later.h _)) hS) (lt_ext hS (X0.out.trans (Later.h _)))))))
                refine wpQuiet_nil ?_
                intro W hW
                have HW := hid (X0.out.trans hW)
                clear hW
                go_wp2
                go_roundw
                case rel => exact ⟨_, by omega, by go_num, HW.out, HF.out⟩
                case measure => simp only [intOf]; omega
    · obtain rfl : k = ts.length := by omega
      have HX := hid hx
      have HF : Hid (mayT ts = true) := hid (by rw [hm, List.drop_length]; rfl)
      clear hx hm
      go_wp2
      all_goals
        go_ret
        exact ⟨by rw [HF.out]; rfl, HX.out⟩
end Go.Proofs.Ythplgldclilccaa
