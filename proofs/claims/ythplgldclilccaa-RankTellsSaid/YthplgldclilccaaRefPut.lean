/- The document: which polynomials may be. -/
import Derived.Test.YthplgldclilccaaRefTimes
import Derived.Test.YthplgldclilccaaZed4
import Derived.Test.YthplgldclilccaaPolyMay
import Derived.Test.YthplgldclilccaaLead
namespace Go.Proofs.Ythplgldclilccaa
open Go.RowKit

/-- the limbs of each term are few -/
def tinyT (ts : List RTerm) : Prop := ∀ t ∈ ts, t.c.mag.length ≤ 100000
theorem tinyT.small {ts : List RTerm} (h : tinyT ts) : smallT ts := fun t ht => Nat.le_trans (h t ht) (by decide)

theorem mag_nil {x : RInt} (hok : okI x) (h : mayI x = true) : x.mag.length = 0 ↔ val B32 x.mag = 0 := by
  have e := ofI_valI hok h
  have e2 : (valI x).natAbs = val B32 x.mag := by rw [valI_sg, sg_abs]
  have e3 : x.mag = rep B32 (val B32 x.mag) := by
    rw [← e2]
    exact (congrArg RInt.mag e).symm
  constructor
  · intro h0
    rw [List.length_eq_zero_iff.1 h0]
    rfl
  · intro h0
    rw [h0, rep_zero] at e3
    rw [e3]
    rfl
theorem mayTerm_nil {t : RTerm} (hok : okI t.c) (h : t.c.mag.length = 0) : mayTerm t = false := by
  have : t.c.mag = [] := List.length_eq_zero_iff.1 h
  unfold mayTerm
  rw [this]
  rfl
theorem mayTerm_ok {t : RTerm} (hok : okI t.c) (h1 : t.c.mag.length ≠ 0) (h2 : mayI t.c = true) (h3 : mayM t.m = true) : mayTerm t = true := by
  have h0 : val B32 t.c.mag ≠ 0 := fun e => h1 ((mag_nil hok h2).2 e)
  unfold mayTerm
  rw [h2, h3, decide_eq_true h0]
  rfl
theorem order_rcmp {a b : Mono} (ha : mayM a = true) (hb : mayM b = true) : decide (0 < orderM a b) = (rcmp a b == 1) := by
  rw [rcmp_eq ha hb]
  unfold orderM
  rw [ha, hb]
  simp only [Bool.and_self, if_true]
  rcases compareM_cases ha hb with h | h | h <;> rw [h] <;> rfl
theorem may_before {ts : List RTerm} {k : Nat} {u : RTerm} (hu : ts[k]? = some u) : befT ts (k + 1) = some u := hu

/-- the terms so far may be -/
def soFar (ts : List RTerm) (k : Nat) : Prop := mayT ts = mayFrom (befT ts k) (ts.drop k) ∧ ∀ u, befT ts k = some u → mayM u.m = true
theorem soFar_zero (ts : List RTerm) : soFar ts 0 := ⟨rfl, fun u hu => by cases hu⟩
theorem soFar_not {ts : List RTerm} {k : Nat} {t : RTerm} (h : soFar ts k) (ht : ts[k]? = some t) (hm : mayTerm t = false) : mayT ts = false := by
  rw [h.1, mayFrom_at ht, hm]
  rfl
theorem soFar_first {ts : List RTerm} {t : RTerm} (h : soFar ts 0) (ht : ts[0]? = some t) (hm : mayTerm t = true) (h3 : mayM t.m = true) : soFar ts 1 := by
  refine ⟨?_, fun u hu => ?_⟩
  · rw [h.1, mayFrom_at ht, hm]
    rfl
  · have : some t = some u := ht.symm.trans hu
    cases this
    exact h3
theorem soFar_next {ts : List RTerm} {k : Nat} {t u : RTerm} (h : soFar ts (k + 1)) (ht : ts[k + 1]? = some t) (hu : ts[k]? = some u) (hm : mayTerm t = true) (h3 : mayM t.m = true) (hc : rcmp u.m t.m = 1) : soFar ts (k + 1 + 1) := by
  have hum := h.2 u hu
  refine ⟨?_, fun v hv => ?_⟩
  · rw [h.1, mayFrom_at ht, hm, may_before hu]
    simp only
    rw [order_rcmp hum h3, hc]
    rfl
  · have : some t = some v := ht.symm.trans hv
    cases this
    exact h3
theorem soFar_stop {ts : List RTerm} {k : Nat} {t u : RTerm} (h : soFar ts (k + 1)) (ht : ts[k + 1]? = some t) (hu : ts[k]? = some u) (h3 : mayM t.m = true) (hc : ¬ rcmp u.m t.m = 1) : mayT ts = false := by
  have hum := h.2 u hu
  rw [h.1, mayFrom_at ht, may_before hu]
  simp only
  rw [order_rcmp hum h3, beq_eq_false_iff_ne.2 hc]
  simp

set_option maxRecDepth 100000 in
set_option maxHeartbeats 8000000 in
theorem rpoly_may {S : Nat → Prop} (v : Value) (ts : List RTerm) (w : World) (h : Terms S w v ts) (hS : ∀ k, S k → k < w.heap.size) (hr : tinyT ts) :
    Calls Try.prog 35 #[v] w fun e w' => e = .returned (.bool (mayT ts)) ∧ Ext w w' := by
  have hnot : ∀ (x : Bool) (w : World), (Op.unary .not (.bool x)).run Try.prog w = .ok (.bool (!x)) w := fun _ _ => rfl
  have hl := h.len_le
  have H := hid h
  have HRS := hid hr
  obtain ⟨a, cap, rfl⟩ := h.form
  clear h hr
  go_enter Try.func35, Try.ntmps35
  go_wp2
  go_loopw [3] (fun i wr => ∃ k : Nat, k ≤ ts.length ∧ i = .int .i64 k ∧ Ext w wr ∧ soFar ts k) (fun i _ => ts.length - (intOf i).toNat)
  case atStart => exact ⟨0, Nat.zero_le _, rfl, Ext.refl _, soFar_zero _⟩
  case round =>
    obtain ⟨k, hk, rfl, hx, hm⟩ := hrel
    have HM := hid hm
    have HX := hid hx
    by_cases hlt : k < ts.length
    · obtain ⟨t, ht⟩ := some_of_lt hlt
      obtain ⟨b, off, vm, vo, rfl, -, hn1, hm1, hSb, h1, h2, h3, h4, h5⟩ := H.out.cellAt ht
      have hsm := HRS.out t (List.mem_of_getElem? ht)
      have HT := hid ht
      have HOK : Hid (okI t.c) := hid h4.lt
      obtain ⟨⟨ng, zs⟩, m⟩ := t
      simp only at h1 h2 h3 h4 h5 hsm
      have H4 := hid h4
      have H5 := hid h5
      obtain ⟨am, cm, rfl⟩ := h4.form
      obtain ⟨ao, co, rfl⟩ := h5.form
      have hzl := h4.len_le
      have g1 := Ext.cell hx h1
      have g2 := Ext.cell hx h2
      have g3 := Ext.cell hx h3
      have CZ := zed_may (S := S) _ ⟨ng, zs⟩ wr (intV_mk (H4.out.ext HX.out hS)) (lt_ext hS HX.out) hsm
      clear hm ht h1 h2 h3 h4 h5 hx hsm
      cases hi : mayI ⟨ng, zs⟩ with
      | false =>
        rw [hi] at CZ
        have HCZ := hid CZ
        have HF := hid (soFar_not HM.out HT.out (mayTerm_int hi))
        clear CZ hi
        go_wp2_with fail
        refine HCZ.out.mono ?_
        rintro e w1 ⟨rfl, hx1⟩
        have HX1 := hid (HX.out.trans hx1)
        clear hx1
        go_wp2
        all_goals
          go_ret
          exact ⟨by rw [HF.out]; rfl, HX1.out⟩
      | true =>
        rw [hi] at CZ
        have HCZ := hid CZ
        have HI := hid hi
        clear CZ hi
        by_cases hz : zs.length = 0
        · have HF := hid (soFar_not HM.out HT.out (mayTerm_nil HOK.out hz))
          have HCZ0 := HCZ.out
          simp only [hz] at g2 HCZ0
          have HCZ1 := hid HCZ0
          clear HCZ0
          go_wp2_with fail
          refine HCZ1.out.mono ?_
          rintro e w1 ⟨rfl, hx1⟩
          have HX1 := hid (HX.out.trans hx1)
          have k1 := hx1.cell g1
          have k2 := hx1.cell g2
          have k3 := hx1.cell g3
          clear hx1 g1 g2 g3
          go_wp2
          all_goals
            go_ret
            exact ⟨by rw [HF.out]; rfl, HX1.out⟩
        · have hzb : ((zs.length : Int) == 0) = false := by rw [beq_eq_false_iff_ne]; omega
          go_wp2_with fail
          refine HCZ.out.mono ?_
          rintro e w1 ⟨rfl, hx1⟩
          have HX1 := hid (HX.out.trans hx1)
          have k1 := hx1.cell g1
          have k2 := hx1.cell g2
          have k3 := hx1.cell g3
          have CQ := rmono_may (S := S) _ m w1 (H5.out.ext HX1.out hS) (lt_ext hS HX1.out)
          clear hx1 g1 g2 g3
          cases hq : mayM m with
          | false =>
            rw [hq] at CQ
            have HCQ := hid CQ
            have HF := hid (soFar_not HM.out HT.out (mayTerm_mono hq))
            clear CQ hq
            go_wp2_with fail
            refine HCQ.out.mono ?_
            rintro e w2 ⟨rfl, hx2⟩
            have HX2 := hid (HX1.out.trans hx2)
            clear hx2
            go_wp2
            all_goals
              go_ret
              exact ⟨by rw [HF.out]; rfl, HX2.out⟩
          | true =>
            rw [hq] at CQ
            have HCQ := hid CQ
            have HQ := hid hq
            have HMT : Hid (mayTerm ⟨⟨ng, zs⟩, m⟩ = true) := hid (mayTerm_ok HOK.out hz HI.out hq)
            clear CQ hq
            go_wp2_with fail
            refine HCQ.out.mono ?_
            rintro e w2 ⟨rfl, hx2⟩
            have HX2 := hid (HX1.out.trans hx2)
            have L3 := fun X : Later w2 => X.cell (hx2.cell k3)
            clear hx2 k1 k2 k3
            cases k with
            | zero =>
              have HF := hid (soFar_first HM.out HT.out HMT.out HQ.out)
              go_wp2
              refine wp_region_later (by kernel_rfl) (by kernel_rfl) ?_
              repeat (go_big_quiet_step (fail))
              refine wpQuiet_nil ?_
              intro W hW
              have HW := hid (HX2.out.trans hW)
              clear hW
              go_wp2
              go_roundw
              case rel => exact ⟨_, by omega, by go_num, HW.out, HF.out⟩
              case measure => simp only [intOf]; omega
            | succ k =>
              obtain ⟨u, hu⟩ := some_of_lt (show k < ts.length by omega)
              obtain ⟨b', off', vmu, vou, hbb, -, -, -, -, u1, u2, u3, u4, u5⟩ := H.out.cellAt hu
              obtain ⟨rfl, rfl⟩ : b = b' ∧ off = off' := by simpa using hbb
              have HP5 := hid u5
              have HU := hid hu
              obtain ⟨ap, cp, rfl⟩ := u5.form
              have L4 := fun X : Later w2 => X.cell (HX2.out.cell u3)
              have hq0 : ((k : Nat) : Int) + 1 - 1 = (k : Int) := by omega
              clear u1 u2 u3 u4 u5 hu hbb
              obtain ⟨rc, hrc⟩ : ∃ s, rcmp u.m m = s := ⟨_, rfl⟩
              have CO := fun (W : World) (h1 : Pows S W (.slice ap u.m.length cp) u.m) (h2 : Pows S W (.slice ao m.length co) m) hs => rmono_compare (S := S) _ _ _ _ W h1 h2 hs
              simp only [hrc] at CO
              have HCO := hid CO
              clear CO
              by_cases hc1 : rc = 1
              · subst hc1
                have HF := hid (soFar_next HM.out HT.out HU.out HMT.out HQ.out hrc)
                clear hrc
                go_wp2
                refine wp_region_later (by kernel_rfl) (by kernel_rfl) ?_
                repeat (go_big_quiet_step (first | (go_at_call 73; exact Later.done (HCO.out _ (HP5.out.ext (HX2.out.trans (Later.h _)) hS) (H5.out.ext (HX2.out.trans (Later.h _)) hS) (lt_ext hS (HX2.out.trans (Later.h _)))))))
                refine wpQuiet_nil ?_
                intro W hW
                have HW := hid (HX2.out.trans hW)
                clear hW
                go_wp2
                go_roundw
                case rel => exact ⟨_, by omega, by go_num, HW.out, HF.out⟩
                case measure => simp only [intOf]; omega
              · have hbn : (rc != 1) = true := by rw [bne_iff_ne]; exact hc1
                have HF := hid (soFar_stop HM.out HT.out HU.out HQ.out (by rw [hrc]; exact hc1))
                clear hrc
                go_wp2
                refine wp_region_later (by kernel_rfl) (by kernel_rfl) ?_
                repeat (go_big_quiet_step (first | (go_at_call 73; exact Later.done (HCO.out _ (HP5.out.ext (HX2.out.trans (Later.h _)) hS) (H5.out.ext (HX2.out.trans (Later.h _)) hS) (lt_ext hS (HX2.out.trans (Later.h _)))))))
                refine wpQuiet_nil ?_
                intro W hW
                have HW := hid (HX2.out.trans hW)
                clear hW
                go_wp2
                all_goals
                  go_ret
                  exact ⟨by rw [HF.out]; rfl, HW.out⟩
    · obtain rfl : k = ts.length := by omega
      have HF : Hid (mayT ts = true) := hid (by rw [hm.1, List.drop_length]; rfl)
      clear hx hm
      go_wp2
      all_goals
        go_ret
        exact ⟨by rw [HF.out]; rfl, HX.out⟩
end Go.Proofs.Ythplgldclilccaa

namespace Go.Proofs.Ythplgldclilccaa
open Go.RowKit

def RTs (S : Nat → Prop) (w : World) (v : Value) (p : PZ) : Prop :=
  ∃ b off, SliceAt S v p.length b off ∧ ∀ j t, p[j]? = some t → ∃ vd vo, w.cell? ⟨b, off + j * 3, none⟩ = some (.bool (decide (t.1 < 0))) ∧
    w.cell? ⟨b, off + j * 3 + 1, none⟩ = some vd ∧ w.cell? ⟨b, off + j * 3 + 2, none⟩ = some vo ∧ Digs S w vd (rep 10 t.1.natAbs) ∧ Pows S w vo t.2
section
variable {S S' : Nat → Prop} {w w' : World} {v : Value} {p : PZ}
theorem RTs.form (h : RTs S w v p) : ∃ a cap, v = .slice a p.length cap := by
  obtain ⟨b, off, ⟨a, cap, h1, _⟩, _⟩ := h
  exact ⟨a, cap, h1⟩
theorem RTs.to (h : RTs S w v p) (hk : Kept S w w') (hS : ∀ k, S k → S' k) : RTs S' w' v p := by
  obtain ⟨b, off, hs, hc⟩ := h
  refine ⟨b, off, hs.mono hS, fun j t hj => ?_⟩
  obtain ⟨vm, vo, h1, h2, h3, h4, h5⟩ := hc j t hj
  have hb := hs.in (lt_of_some hj)
  exact ⟨vm, vo, hk.cell hb h1, hk.cell hb h2, hk.cell hb h3, h4.to hk hS, h5.to hk hS⟩
theorem RTs.ext (h : RTs S w v p) (hx : Ext w w') (hS : ∀ k, S k → k < w.heap.size) : RTs S w' v p := h.to (Kept.ext hx hS) (fun _ h => h)
theorem RTs.len_le (h : RTs S w v p) : p.length ≤ 9223372036854775807 := by
  obtain ⟨b, off, ⟨a, cap, h1, h2, h3, _⟩, _⟩ := h
  unfold maxLen at h3
  omega
theorem RTs.cellAt {a : Option Addr} {n cap k : Nat} {t : Int × Mono} (h : RTs S w (.slice a n cap) p) (ht : p[k]? = some t) :
    ∃ b off vd vo, a = some ⟨b, off, none⟩ ∧ n = p.length ∧ n ≤ cap ∧ cap ≤ 9223372036854775807 ∧ S b ∧ w.cell? ⟨b, off + k * 3, none⟩ = some (.bool (decide (t.1 < 0))) ∧ w.cell? ⟨b, off + k * 3 + 1, none⟩ = some vd ∧ w.cell? ⟨b, off + k * 3 + 2, none⟩ = some vo ∧ Digs S w vd (rep 10 t.1.natAbs) ∧ Pows S w vo t.2 := by
  obtain ⟨b, off, ⟨a', cap', h1, h2, h3, h4, h5⟩, hc⟩ := h
  obtain ⟨rfl, rfl, rfl⟩ : a = a' ∧ n = p.length ∧ cap = cap' := by simpa using h1
  have hp : 0 < p.length := by have := lt_of_some ht; omega
  obtain ⟨vm, vo, g1, g2, g3, g4, g5⟩ := hc k t ht
  exact ⟨b, off, vm, vo, h4 hp, rfl, h2, h3, h5 hp, g1, g2, g3, g4, g5⟩
theorem RTs.nilv (S : Nat → Prop) (w : World) (a : Option Addr) (cap : Nat) (h : cap ≤ 9223372036854775807) : RTs S w (.slice a 0 cap) [] :=
  ⟨0, 0, ⟨a, cap, rfl, Nat.zero_le _, h, fun h => absurd h (Nat.lt_irrefl 0), fun h => absurd h (Nat.lt_irrefl 0)⟩, fun j t hj => by simp at hj⟩
end

/-- the cells of the terms of a slice -/
def Cells3 (S : Nat → Prop) (w : World) : List Value → PZ → Prop
  | xs, [] => xs = []
  | xs, t :: r => ∃ vd vo ys, xs = .bool (decide (t.1 < 0)) :: vd :: vo :: ys ∧ Digs S w vd (rep 10 t.1.natAbs) ∧ Pows S w vo t.2 ∧ Cells3 S w ys r
section
variable {S S' : Nat → Prop} {w w' : World}
theorem Cells3.append {xs ys : List Value} {p q : PZ} (h : Cells3 S w xs p) (k : Cells3 S w ys q) : Cells3 S w (xs ++ ys) (p ++ q) := by
  induction p generalizing xs with
  | nil =>
    have e : xs = [] := h
    subst e
    exact k
  | cons t r ih =>
    obtain ⟨vd, vo, zs, rfl, h1, h2, h3⟩ := h
    exact ⟨vd, vo, zs ++ ys, rfl, h1, h2, ih h3⟩
theorem Cells3.to {xs : List Value} {p : PZ} (h : Cells3 S w xs p) (hk : Kept S w w') (hS : ∀ k, S k → S' k) : Cells3 S' w' xs p := by
  induction p generalizing xs with
  | nil => exact h
  | cons t r ih =>
    obtain ⟨vd, vo, zs, rfl, h1, h2, h3⟩ := h
    exact ⟨vd, vo, zs, rfl, h1.to hk hS, h2.to hk hS, ih h3⟩
theorem Cells3.length {xs : List Value} {p : PZ} (h : Cells3 S w xs p) : xs.length = p.length * 3 := by
  induction p generalizing xs with
  | nil =>
    have e : xs = [] := h
    subst e
    rfl
  | cons t r ih =>
    obtain ⟨vd, vo, zs, rfl, h1, h2, h3⟩ := h
    simp only [List.length_cons, ih h3]
    omega
theorem Cells3.get {xs : List Value} {p : PZ} (h : Cells3 S w xs p) {j : Nat} {t : Int × Mono} (ht : p[j]? = some t) :
    ∃ vd vo, xs[j * 3]? = some (.bool (decide (t.1 < 0))) ∧ xs[j * 3 + 1]? = some vd ∧ xs[j * 3 + 2]? = some vo ∧ Digs S w vd (rep 10 t.1.natAbs) ∧ Pows S w vo t.2 := by
  induction p generalizing xs j with
  | nil => simp at ht
  | cons u r ih =>
    obtain ⟨vd, vo, zs, rfl, h1, h2, h3⟩ := h
    cases j with
    | zero =>
      obtain rfl : u = t := by simpa using ht
      exact ⟨vd, vo, rfl, rfl, rfl, h1, h2⟩
    | succ j =>
      obtain ⟨vd', vo', g⟩ := ih h3 (j := j) (by simpa using ht)
      refine ⟨vd', vo', ?_⟩
      rw [show (j + 1) * 3 = j * 3 + 1 + 1 + 1 by omega]
      simpa using g
theorem Cells3.one {xs : List Value} {p : PZ} (h : Cells3 S w xs p) : ∀ u ∈ xs, u.oneCell' = true := by
  induction p generalizing xs with
  | nil =>
    have e : xs = [] := h
    subst e
    intro u hu
    simp at hu
  | cons t r ih =>
    obtain ⟨vd, vo, zs, rfl, h1, h2, h3⟩ := h
    intro u hu
    simp only [List.mem_cons] at hu
    rcases hu with rfl | rfl | rfl | hu
    · rfl
    · obtain ⟨a, c, rfl⟩ := h1.form; rfl
    · obtain ⟨a, c, rfl⟩ := h2.form; rfl
    · exact ih h3 u hu
theorem Cells3.single {vd vo : Value} {t : Int × Mono} (h1 : Digs S w vd (rep 10 t.1.natAbs)) (h2 : Pows S w vo t.2) : Cells3 S w [.bool (decide (t.1 < 0)), vd, vo] [t] := ⟨vd, vo, [], rfl, h1, h2, rfl⟩
end

theorem own_rts {S : Nat → Prop} {w : World} {base : Nat} {e : TypeId} {v : Value} {xs : List Value} {p : PZ} (h : w.ownsRow base e 3 v p.length xs) (hc : Cells3 S w xs p) (hB : ∀ k, base ≤ k → k < w.heap.size → S k) : RTs S w v p := by
  have hlt := h.lt
  rcases h.2 with ⟨rfl, h0⟩ | ⟨g, cap, cur, rfl, hg, hh, h1, h2, h3, h4⟩
  · obtain rfl : p = [] := List.length_eq_zero_iff.1 h0
    exact RTs.nilv _ _ _ _ (by omega)
  · refine ⟨g, 0, ⟨_, cap, rfl, h1, h2, fun _ => rfl, fun _ => hB g (hlt g rfl).1 (hlt g rfl).2⟩, fun j t hj => ?_⟩
    obtain ⟨vd, vo, g1, g2, g3, g4, g5⟩ := hc.get hj
    have hb := lt_of_some hj
    refine ⟨vd, vo, ?_, ?_, ?_, g4, g5⟩
    · rw [h.cellAt (0 + j * 3) (by omega), Nat.zero_add]
      exact g1
    · rw [h.cellAt (0 + j * 3 + 1) (by omega), Nat.zero_add]
      exact g2
    · rw [h.cellAt (0 + j * 3 + 2) (by omega), Nat.zero_add]
      exact g3

/-- what stands behind the first k terms, as a source -/
theorem cells_from {S : Nat → Prop} {w : World} {b : Nat} : ∀ (p : PZ) (off : Nat), (∀ j t, p[j]? = some t → ∃ vd vo, w.cell? ⟨b, off + j * 3, none⟩ = some (.bool (decide (t.1 < 0))) ∧
    w.cell? ⟨b, off + j * 3 + 1, none⟩ = some vd ∧ w.cell? ⟨b, off + j * 3 + 2, none⟩ = some vo ∧ Digs S w vd (rep 10 t.1.natAbs) ∧ Pows S w vo t.2) →
    ∃ xs, Cells3 S w xs p ∧ ∀ j u, xs[j]? = some u → w.cell? ⟨b, off + j, none⟩ = some u
  | [], _, _ => ⟨[], rfl, fun j u hu => by simp at hu⟩
  | t :: r, off, h => by
    obtain ⟨vd, vo, h1, h2, h3, h4, h5⟩ := h 0 t rfl
    obtain ⟨ys, k1, k2⟩ := cells_from r (off + 3) (fun j u hu => by
      have := h (j + 1) u (by simpa using hu)
      rw [show off + (j + 1) * 3 = off + 3 + j * 3 by omega] at this
      exact this)
    refine ⟨_, ⟨vd, vo, ys, rfl, h4, h5, k1⟩, fun j u hu => ?_⟩
    match j, hu with
    | 0, hu =>
      have e : _ = u := Option.some.inj hu
      rw [← e]
      exact h1
    | 1, hu =>
      have e : _ = u := Option.some.inj hu
      rw [← e]
      exact h2
    | 2, hu =>
      have e : _ = u := Option.some.inj hu
      rw [← e]
      exact h3
    | j + 3, hu =>
      have := k2 j u (by simpa using hu)
      rw [show off + (j + 3) = off + 3 + j by omega]
      exact this
theorem RTs.src {S : Nat → Prop} {w : World} {b off n cap k : Nat} {p : PZ} (h : RTs S w (.slice (some ⟨b, off, none⟩) n cap) p) (hk : k ≤ p.length) :
    ∃ news, SrcAt w (some ⟨b, off + k * 3, none⟩) (p.length - k) 3 news ∧ Cells3 S w news (p.drop k) := by
  obtain ⟨b', off', ⟨a', cap', h1, h2, h3, h4, h5⟩, hc⟩ := h
  by_cases h0 : 0 < p.length
  · have e := h4 h0
    obtain ⟨e1, -, -⟩ : some (⟨b, off, none⟩ : Addr) = a' ∧ n = p.length ∧ cap = cap' := by simpa using h1
    rw [← e1] at e
    obtain ⟨rfl, rfl⟩ : b = b' ∧ off = off' := by simpa using e
    obtain ⟨xs, k1, k2⟩ := cells_from (S := S) (w := w) (b := b) (p.drop k) (off + k * 3) (fun j t hj => by
      rw [List.getElem?_drop] at hj
      have := hc (k + j) t hj
      rw [show off + (k + j) * 3 = off + k * 3 + j * 3 by omega] at this
      exact this)
    refine ⟨xs, ⟨?_, k1.one, fun _ => ⟨_, rfl, fun j u hu => ?_⟩⟩, k1⟩
    · rw [k1.length, List.length_drop]
    · rw [add_off]
      exact k2 j u hu
  · obtain rfl : p = [] := List.length_eq_zero_iff.1 (by omega)
    refine ⟨[], ⟨by simp, fun u hu => by simp at hu, fun hh => by simp at hh⟩, ?_⟩
    rw [List.drop_nil]
    rfl

/-- where a term goes -/
theorem putP_split {p : PZ} {c : Int} {m : Mono} : ∀ {k : Nat}, (∀ j t, j < k → p[j]? = some t → compareM t.2 m = 1) → putP p c m = p.take k ++ putP (p.drop k) c m
  | 0, _ => rfl
  | k + 1, h => by
    cases p with
    | nil => simp
    | cons t r =>
      have h0 := h 0 t (by omega) rfl
      have ih := putP_split (p := r) (c := c) (m := m) (k := k) (fun j u hj hu => h (j + 1) u (by omega) (by simpa using hu))
      simp only [putP, h0, if_true, List.take_succ_cons, List.drop_succ_cons, List.cons_append, ih]
/-- what stands in the place -/
def midP (c : Int) (m : Mono) : PZ := if c = 0 then [] else [(c, m)]
theorem put_end {p : PZ} {c : Int} {m : Mono} {k : Nat} (h : ∀ j t, j < k → p[j]? = some t → compareM t.2 m = 1) (hk : k = p.length) : putP p c m = p.take k ++ midP c m ++ p.drop k := by
  rw [putP_split h, hk, List.drop_length]
  simp [putP, midP]
theorem put_same {p : PZ} {c : Int} {m : Mono} {k : Nat} {t : Int × Mono} (h : ∀ j t, j < k → p[j]? = some t → compareM t.2 m = 1) (ht : p[k]? = some t) (hc : compareM t.2 m = 0) : putP p c m = p.take k ++ midP (c + t.1) m ++ p.drop (k + 1) := by
  rw [putP_split h, drop_at ht, List.append_assoc]
  simp only [putP, hc, midP, if_true]
  rw [if_neg (by decide)]
  split <;> rfl
theorem put_here {p : PZ} {c : Int} {m : Mono} {k : Nat} {t : Int × Mono} (h : ∀ j t, j < k → p[j]? = some t → compareM t.2 m = 1) (ht : p[k]? = some t) (h1 : compareM t.2 m ≠ 1) (h2 : compareM t.2 m ≠ 0) : putP p c m = p.take k ++ midP c m ++ p.drop k := by
  rw [putP_split h, drop_at ht, List.append_assoc]
  simp only [putP, midP]
  rw [if_neg h1, if_neg h2]
  split <;> rfl
theorem midP_zero {c : Int} (h : c = 0) (m : Mono) : midP c m = [] := by unfold midP; rw [if_pos h]
theorem midP_some {c : Int} (h : c ≠ 0) (m : Mono) : midP c m = [(c, m)] := by unfold midP; rw [if_neg h]

theorem Try.infoT : (Try.prog.info? 103).map (fun i => (i.zero, i.size, i.bytes)) = some (some (.agg #[.bool false, .slice none 0 0, .slice none 0 0]), 3, 56) := by kernel_rfl
theorem three_cell {u v x : Value} (h : u.oneCell' = true) (k : v.oneCell' = true) (l : x.oneCell' = true) : ∀ y ∈ (#[u, v, x] : Array Value).toList, y.oneCell' = true := by
  intro y hy
  simp at hy
  rcases hy with rfl | rfl | rfl <;> assumption
end Go.Proofs.Ythplgldclilccaa

namespace Go.Proofs.Ythplgldclilccaa
open Go.RowKit

abbrev Old (w : World) : Nat → Prop := fun k => k < w.heap.size
theorem old_lt {w W : World} (h : Ext w W) : ∀ k, Old w k → k < W.heap.size := fun _ hk => Nat.lt_of_lt_of_le hk h.size
theorem RTs.on {w W : World} {v : Value} {p : PZ} (h : RTs (Old w) w v p) (hx : Ext w W) : RTs (Old W) W v p := h.to (Kept.ext hx (fun _ h => h)) (old_lt hx)
theorem ZV.on {w W : World} {v : Value} {z : Int} (h : ZV (Old w) w v z) (hx : Ext w W) : ZV (Old W) W v z := h.to (Kept.ext hx (fun _ h => h)) (old_lt hx)
theorem Digs.on {w W : World} {v : Value} {z : List Nat} (h : Digs (Old w) w v z) (hx : Ext w W) : Digs (Old W) W v z := h.to (Kept.ext hx (fun _ h => h)) (old_lt hx)
theorem Pows.on {w W : World} {v : Value} {z : Mono} (h : Pows (Old w) w v z) (hx : Ext w W) : Pows (Old W) W v z := h.to (Kept.ext hx (fun _ h => h)) (old_lt hx)
theorem Cells3.on {w W : World} {v : List Value} {z : PZ} (h : Cells3 (Old w) w v z) (hx : Ext w W) : Cells3 (Old W) W v z := h.to (Kept.ext hx (fun _ h => h)) (old_lt hx)
theorem digs_one {S : Nat → Prop} {w : World} {v : Value} {z : List Nat} (h : Digs S w v z) : v.oneCell' = true := by
  obtain ⟨a, c, rfl⟩ := h.form
  rfl
theorem pows_one {S : Nat → Prop} {w : World} {v : Value} {z : Mono} (h : Pows S w v z) : v.oneCell' = true := by
  obtain ⟨a, c, rfl⟩ := h.form
  rfl

/-- sizes of a polynomial of the document -/
def szP (p : PZ) : Prop := p.length ≤ 100000000 ∧ ∀ t ∈ p, szZ t.1

/-- a slice from an index on -/
theorem wpList_slice_from {P : Program} (w : World) {ops : Array Oper} {rest : List Oper} {o : Oper} {a : Act} {Q : Exit → Act → World → Prop} (hgd : o.guard = none) (x y : Operand) (t e : TypeId)
    (ho : o.op = .slice t x (some y) none none) (ht : P.underlying t = some (.slice e)) {z : Option Value} {size bytes : Nat} (hinfo : (P.info? e).map (fun i => (i.zero, i.size, i.bytes)) = some (z, size, bytes))
    (A : Option Addr) (n cap k : Nat) (hx : a.eval x = .slice A n cap) (hy : a.eval y = .int .i64 (k : Nat)) (hk : k ≤ n)
    (h : ∀ A', A' = (if cap = k then A else A.map (·.add (k * size))) → wpList P ops Q rest (a.put o.dst (.slice A' (n - k) (cap - k))) w) : wpList P ops Q (o :: rest) a w := by
  refine wpList_plain hgd fun K hK => ?_
  have he : P.elem t = e := by simp [Program.elem, ht]
  have ht' : P.underlying t = some (.slice (P.elem t)) := by rw [he]; exact ht
  have hi : ∃ i, P.info? e = some i ∧ i.size = size := by
    cases hh : P.info? e with
    | none => rw [hh] at hinfo; simp at hinfo
    | some i =>
      rw [hh] at hinfo
      simp at hinfo
      exact ⟨i, rfl, hinfo.2.1⟩
  obtain ⟨i, hi1, hi2⟩ := hi
  unfold Oper.wp execOp
  simp only [ho, Option.map, hx, hy]
  rw [Sem.run_bind, run_sliceAt_slice _ _ _ _ _ _ ht', run_slice_l _ _ _ _ _ ht' _ _ (by omega) (by omega)]
  simp only [he, sizeOf, typeInfo, Sem.run_bind, hi1, Result.andThen_ok, sliced, Int.toNat_natCast]
  have := hK _ _ (h _ rfl)
  simpa [go_sem, hi1, hi2] using this
/-- what is appended from it -/
theorem src_sliced {S : Nat → Prop} {w : World} {A A' : Option Addr} {n cap k : Nat} {p : PZ} (h : RTs S w (.slice A n cap) p) (hk : k ≤ p.length) (e : A' = (if cap = k then A else A.map (·.add (k * 3)))) :
    ∃ news, SrcAt w A' (p.length - k) 3 news ∧ Cells3 S w news (p.drop k) := by
  have h' := h
  obtain ⟨b, off, ⟨a', cap', h1, h2, h3, h4, h5⟩, hc⟩ := h
  obtain ⟨rfl, rfl, rfl⟩ : A = a' ∧ n = p.length ∧ cap = cap' := by simpa using h1
  by_cases hlt : k < p.length
  · have ha := h4 (by omega)
    subst ha
    rw [if_neg (by omega)] at e
    have e2 : A' = some ⟨b, off + k * 3, none⟩ := by rw [e, Option.map_some, add_off]
    rw [e2]
    exact h'.src hk
  · obtain rfl : k = p.length := by omega
    refine ⟨[], ⟨by simp, fun u hu => by simp at hu, fun hh => by omega⟩, ?_⟩
    rw [List.drop_length]
    rfl

theorem own_ext {w w' : World} {base : Nat} {e : TypeId} {size : Nat} {v : Value} {n : Nat} {xs : List Value} (h : w.ownsRow base e size v n xs) (hx : Ext w w') : w'.ownsRow base e size v n xs :=
  h.kept (row := none) ⟨hx.os, hx.tape, hx.output, hx.size, fun k hk _ => hx.block k hk⟩ (by
    cases hv : v.ownBlock with
    | none => exact .inl rfl
    | some k => exact .inr (by simp))
theorem sign_zero : signI 0 = 0 := rfl
theorem sign_ne {c : Int} (h : c ≠ 0) : (signI c != 0) = true := by
  rw [bne_iff_ne]
  unfold signI
  rw [Ne, cmpI_zero]
  exact h
/-- what was given, and what is new -/
abbrev Plus (S : Nat → Prop) (w w1 : World) : Nat → Prop := fun k => S k ∨ New w w1 k
theorem plus_lt {S : Nat → Prop} {w w1 : World} (hS : ∀ k, S k → k < w.heap.size) (hx : Ext w w1) : ∀ k, Plus S w w1 k → k < w1.heap.size := fun k hk => by
  rcases hk with h | h
  · exact Nat.lt_of_lt_of_le (hS k h) hx.size
  · exact h.2
theorem plus_grow {S : Nat → Prop} {w w1 w2 : World} (hx : w1.heap.size ≤ w2.heap.size) : ∀ k, Plus S w w1 k → Plus S w w2 k := fun k hk => by
  rcases hk with h | h
  · exact .inl h
  · exact .inr ⟨h.1, Nat.lt_of_lt_of_le h.2 hx⟩
/-- of those, the ones that are not the block of a slice -/
abbrev Off (S : Nat → Prop) (w w1 : World) (o : Value) : Nat → Prop := fun k => Plus S w w1 k ∧ some k ≠ o.ownBlock
theorem off_ext {S : Nat → Prop} {w w0 w1 : World} {o v : Value} {z : List Nat} (hS : ∀ k, S k → k < w.heap.size) (h0 : Ext w w0) (h : Digs (Off S w w0 o) w0 v z) (hx : Ext w0 w1) : Digs (Off S w w1 o) w1 v z :=
  h.to (Kept.ext hx (fun k h => plus_lt hS h0 k h.1)) (fun k h => ⟨plus_grow hx.size k h.1, h.2⟩)
theorem own_ne {w w1 : World} {o : Value} {e : TypeId} {size n : Nat} {xs : List Value} (ho : w1.ownsRow (w.heap.size + 1) e size o n xs) {k : Nat} (hk : k < w.heap.size) : some k ≠ o.ownBlock := fun e => by
  have := (ho.lt k e.symm).1
  omega
theorem off_old {S : Nat → Prop} {w w1 : World} {o v : Value} {z : List Nat} {e : TypeId} {size n : Nat} {xs : List Value} (hS : ∀ k, S k → k < w.heap.size) (h : Digs S w v z) (hx : Ext w w1) (ho : w1.ownsRow (w.heap.size + 1) e size o n xs) : Digs (Off S w w1 o) w1 v z :=
  h.to (Kept.ext hx hS) (fun k hk => ⟨.inl hk, own_ne ho (hS k hk)⟩)
theorem own_grown {w w1 w2 : World} {o : Value} {e : TypeId} {size n : Nat} {xs : List Value} (hx : Ext w w1) (ho : w1.ownsRow (w.heap.size + 1) e size o n xs) (hg : w1.grownBy w2 o.ownBlock) : Ext w w2 :=
  ext_grown hx hg (fun k hk => by have := (ho.lt k hk).1; omega)
theorem own_far {S : Nat → Prop} {w w1 : World} {o : Value} {e : TypeId} {size n : Nat} {xs : List Value} (hS : ∀ k, S k → k < w.heap.size) (ho : w1.ownsRow (w.heap.size + 1) e size o n xs) (hx : Ext w w1) : ∀ k, S k → k < w1.heap.size ∧ some k ≠ o.ownBlock := fun k hk =>
  ⟨Nat.lt_of_lt_of_le (hS k hk) hx.size, own_ne ho (hS k hk)⟩
theorem off_still {S : Nat → Prop} {w w1 : World} {o v2 : Value} {k : Nat} (hS : ∀ k, S k → k < w.heap.size) (hx : Ext w w1) (h : Off S w w1 o k) (hb : v2.ownBlock = o.ownBlock ∨ v2.ownBlock = some (w1.heap.size + 1)) : some k ≠ v2.ownBlock := by
  rcases hb with e | e
  · rw [e]; exact h.2
  · rw [e]
    intro e2
    have := plus_lt hS hx k h.1
    have e3 : k = w1.heap.size + 1 := Option.some.inj e2
    omega
/-- the end of the walk: what stands ahead, in the place and behind -/
theorem set_grown (w : World) (a : Addr) (u : Value) : w.grownBy (w.setCell a u) (some a.block) :=
  ⟨rfl, rfl, rfl, Nat.le_of_eq (size_setCell w a u).symm, fun k _ hne => Below.heap_setCell _ _ _ _ (fun e => hne (by rw [e]))⟩
theorem own_set {w1 : World} {b i base : Nat} {o : Value} {e : TypeId} {size n : Nat} {xs : List Value} (ho : w1.ownsRow base e size o n xs) (hb : b < base) (u : Value) : (w1.setCell ⟨b, i, none⟩ u).ownsRow base e size o n xs :=
  ho.kept (set_grown w1 ⟨b, i, none⟩ u) (by
    cases hv : o.ownBlock with
    | none => exact .inl rfl
    | some k =>
      have := (ho.lt k hv).1
      exact .inr (fun e => by
        have e2 : k = b := Option.some.inj e
        omega))
theorem off_new {S : Nat → Prop} {w wb wc : World} {b i j : Nat} {o v x y : Value} {z : List Nat} {base : Nat} {e : TypeId} {size n : Nat} {xs : List Value} (h : Digs (New wb wc) wc v z) (ho : wb.ownsRow base e size o n xs) (hb : b < wb.heap.size) (hw : w.heap.size ≤ wb.heap.size) :
    Digs (Off S w ((wc.setCell ⟨b, i, none⟩ x).setCell ⟨b, j, none⟩ y) o) ((wc.setCell ⟨b, i, none⟩ x).setCell ⟨b, j, none⟩ y) v z := by
  have k1 : Kept (New wb wc) wc (wc.setCell ⟨b, i, none⟩ x) := Kept.setCell (a := ⟨b, i, none⟩) (fun hh => by have := hh.1; simp only at this; omega) x
  have k2 : Kept (New wb wc) (wc.setCell ⟨b, i, none⟩ x) ((wc.setCell ⟨b, i, none⟩ x).setCell ⟨b, j, none⟩ y) := Kept.setCell (a := ⟨b, j, none⟩) (fun hh => by have := hh.1; simp only at this; omega) y
  refine h.to (k1.trans k2) (fun k hk => ⟨.inr ⟨Nat.le_trans hw hk.1, ?_⟩, fun e => ?_⟩)
  · rw [size_setCell, size_setCell]
    exact hk.2
  · have := (ho.lt k e.symm).2
    have := hk.1
    omega
theorem put_done {S : Nat → Prop} {w w2 w3 : World} {k j n : Nat} {T : TypeId} {v3 : Value} {xs ms news : List Value} {p md q : PZ} (hS : ∀ k, S k → k < w.heap.size) (hx : Cells3 S w xs (p.take k)) (x3 : Ext w w3) (hm : Cells3 (Plus S w w3) w3 ms md) (hn : Cells3 S w2 news (p.drop j)) (hk : Kept S w2 w3)
    (ho : w3.ownsRow (w.heap.size + 1) T 3 v3 n (xs ++ ms ++ news)) (hq : q = p.take k ++ md ++ p.drop j) : RTs (Plus S w w3) w3 v3 q := by
  have hc : Cells3 (Plus S w w3) w3 (xs ++ ms ++ news) q := by
    rw [hq]
    exact ((hx.to (Kept.ext x3 hS) (fun _ h => .inl h)).append hm).append (hn.to hk (fun _ h => .inl h))
  have hl := hc.length
  have hn' : n = q.length := by
    have := ho.1
    omega
  subst hn'
  exact own_rts ho hc (fun k h1 h2 => .inr ⟨by omega, h2⟩)

set_option maxRecDepth 100000 in
set_option maxHeartbeats 8000000 in
theorem rpoly_put {S : Nat → Prop} (vp vc vm : Value) (p : PZ) (c : Int) (m : Mono) (w : World) (hS : ∀ k, S k → k < w.heap.size) (hp : RTs S w vp p) (hc : ZV S w vc c) (hm : Pows S w vm m) (hmay : mayAll p) (hmm : mayM m = true) (hs : szP p) (hsc : szZ c) :
    Calls Try.prog 70 #[vp, vc, vm] w fun e w' => ∃ v', e = .returned v' ∧ RTs (Plus S w w') w' v' (putP p c m) ∧ Ext w w' := by
  obtain ⟨i0, hi, hz0, hz1, hz2⟩ := info_parts Try.infoT
  have HP := hid hp
  have HM := hid hm
  have HC := hid hc
  have HMY := hid hmay
  have HMM := hid hmm
  have HS := hid hs
  have HSC := hid hsc
  obtain ⟨ap, cp, rfl⟩ := hp.form
  obtain ⟨ac, nc, cc, rfl⟩ := hc.form
  obtain ⟨am, cm, rfl⟩ := hm.form
  have hl := hp.len_le
  clear hp hc hm hmay hmm hs hsc
  obtain ⟨bc, hbc⟩ : ∃ b, b = decide (c < 0) := ⟨_, rfl⟩
  rw [← hbc] at HC ⊢
  have HK := hid (Ext.alloc (Ext.refl w) (.cells #[.bool bc, .slice ac nc cc] 100))
  have HCC := fun (W : World) (hW : Ext (w.alloc (.cells #[.bool bc, .slice ac nc cc] 100)) W) => new2 hW
  have HCC := hid HCC
  have HBZ := hid hbc
  have HDC : Hid (Digs S w (.slice ac nc cc) (rep 10 c.natAbs)) := by
    obtain ⟨vd, e1, e2⟩ := HC.out
    have e3 : Value.slice ac nc cc = vd := by simp at e1; exact e1.2
    rw [e3]
    exact hid e2
  clear hbc
  go_enter Try.func70, Try.ntmps70
  go_wp2
  go_loopw [7, 8] (fun o v wr => ∃ k xs, k ≤ p.length ∧ v = .int .i64 (k : Nat) ∧ Ext (w.alloc (.cells #[.bool bc, .slice ac nc cc] 100)) wr ∧ Hid (∀ j t, j < k → p[j]? = some t → compareM t.2 m = 1) ∧ Hid (wr.ownsRow (w.heap.size + 1) 103 3 o k xs) ∧ Hid (Cells3 S w xs (p.take k))) (fun _ v _ => p.length - (intOf v).toNat)
  case atStart => exact ⟨0, [], Nat.zero_le _, rfl, Ext.refl _, hid (fun j t hj => by omega), hid (World.ownsRow_nil _ _ _ _), hid rfl⟩
  case round =>
    obtain ⟨k, xs, hk, rfl, hx, HPR, HW, HXS⟩ := hrel
    have HX := hid hx
    by_cases hlt : k < p.length
    · obtain ⟨t, ht⟩ := some_of_lt hlt
      obtain ⟨b, off, vd, vo, rfl, -, hn1, hm1, hSb, h1, h2, h3, h4, h5⟩ := HP.out.cellAt ht
      have HT := hid ht
      have H4 := hid h4
      have H5 := hid h5
      obtain ⟨ad, cd, rfl⟩ := h4.form
      obtain ⟨ao, co, rfl⟩ := h5.form
      have HXW0 := hid (HK.out.trans hx)
      have g1 := HXW0.out.cell h1
      have g2 := HXW0.out.cell h2
      have g3 := HXW0.out.cell h3
      have HTM := hid (HMY.out t (List.mem_of_getElem? ht))
      have HSZT := hid (HS.out.2 t (List.mem_of_getElem? ht))
      have CO := fun (W : World) (hW : Ext w W) => rmono_compare (S := S) _ _ t.2 m W (H5.out.ext hW hS) (HM.out.ext hW hS) (lt_ext hS hW)
      rw [rcmp_eq HTM.out HMM.out] at CO
      obtain ⟨rc, hrc⟩ : ∃ r, compareM t.2 m = r := ⟨_, rfl⟩
      rw [hrc] at CO
      have hcs : rc = 1 ∨ rc = 0 ∨ rc = -1 := by rw [← hrc]; rcases compareM_cases HTM.out HMM.out with h | h | h <;> omega
      have HCO := hid CO
      have HRC := hid hrc
      obtain ⟨bt, hbt⟩ : ∃ b, b = decide (t.1 < 0) := ⟨_, rfl⟩
      obtain ⟨nt, hnt⟩ : ∃ n, n = (rep 10 t.1.natAbs).length := ⟨_, rfl⟩
      rw [← hbt] at g1
      rw [← hnt] at g2 H4
      have HBT := hid hbt
      have HTK : Hid (p.take (k + 1) = p.take k ++ [t]) := hid (by rw [List.take_add_one, ht]; rfl)
      have HSZ0 : Hid (w.heap.size + 1 ≤ wr.heap.size) := hid (by have := hx.size; rw [size_alloc] at this; exact this)
      clear CO hrc hx ht h1 h2 h3 h4 h5 hbt hnt
      rcases hcs with rfl | rfl | rfl
      · go_wp2_with fail
        refine (HCO.out wr HXW0.out).mono ?_
        rintro e w1 ⟨rfl, hx1⟩
        have HX1 := hid (HX.out.trans hx1)
        have HW1 := hid (own_ext HW.out hx1)
        have HSZ1 : Hid (w.heap.size + 1 ≤ w1.heap.size) := hid (Nat.le_trans HSZ0.out hx1.size)
        have k1 := hx1.cell g1
        have k2 := hx1.cell g2
        have k3 := hx1.cell g3
        clear hx1 g1 g2 g3
        go_wp2_with (at_builtin; refine wpList_append_new _ rfl (.tmp 23) (.tmp 28) 33 rfl (w.heap.size + 1) 103 (.agg #[.bool false, .slice none 0 0, .slice none 0 0]) 3 56 Try.underlying33 Try.infoT rfl (by decide) _ k xs rfl HW1.out #[.bool bt, .slice ad nt cd, .slice ao t.2.length co] rfl (three_cell rfl rfl rfl) rfl (by have := HS.out.1; omega) (by decide) HSZ1.out ?_; intro v2 w2 hown hg _; have HW2 := hid hown; have HX2 := hid (ext_grown HX1.out hg (fun j hj => by have := (HW1.out.lt j hj).1; rw [size_alloc]; exact this)); clear hown hg)
        go_roundw
        case rel =>
          refine ⟨k + 1, xs ++ (#[.bool bt, .slice ad nt cd, .slice ao t.2.length co] : Array Value).toList, by omega, by go_num, HX2.out, hid (fun j u hj hu => ?_), HW2, hid ?_⟩
          · by_cases e : j = k
            · subst e
              have := HT.out.symm.trans hu
              cases this
              exact HRC.out
            · exact HPR.out j u (by omega) hu
          · rw [HTK.out]
            refine HXS.out.append ?_
            rw [HBT.out]
            exact Cells3.single H4.out H5.out
        case measure => simp only [intOf]; omega
      · go_wp2_with fail
        refine (HCO.out wr HXW0.out).mono ?_
        rintro e wa ⟨rfl, hxa⟩
        have HXA := hid (HX.out.trans hxa)
        have k1 := hxa.cell g1
        have k2 := hxa.cell g2
        have k3 := hxa.cell g3
        have HWA := hid (own_ext HW.out hxa)
        clear hxa g1 g2 g3
        go_wp2_with fail
        refine (HCO.out wa (HK.out.trans HXA.out)).mono ?_
        rintro e wb ⟨rfl, hxb⟩
        have HXB := hid (HXA.out.trans hxb)
        have l1 := hxb.cell k1
        have l2 := hxb.cell k2
        have l3 := hxb.cell k3
        have HWB := hid (own_ext HWA.out hxb)
        obtain ⟨c0, c1, f0, f1⟩ := HCC.out wb HXB.out
        have HKB := hid (HK.out.trans HXB.out.drew)
        have CA := zed_add (S := S) _ _ c t.1 wb.drew (HC.out.ext HKB.out hS) (show ZV S wb.drew (.agg #[.bool (decide (t.1 < 0)), .slice ad nt cd]) t.1 from ⟨_, rfl, H4.out.ext HKB.out hS⟩) (lt_ext hS HKB.out) HSC.out HSZT.out
        rw [← HBT.out] at CA
        have HCA := hid CA
        clear hxb k1 k2 k3 CA
        go_wp2
        go_still_tail 6, (by kernel_rfl)
        change wpList _ _ _ _ _ wb.drew
        go_wp2_with fail
        refine HCA.out.mono ?_
        rintro e wc ⟨vs, rfl, hzv, hxc⟩
        obtain ⟨vd2, rfl, hd2⟩ := hzv
        have HD2 := hid hd2
        obtain ⟨aq, cs, rfl⟩ := hd2.form
        obtain ⟨ns, hns⟩ : ∃ n, n = (rep 10 (c + t.1).natAbs).length := ⟨_, rfl⟩
        obtain ⟨bs, hbs⟩ : ∃ b, b = decide (c + t.1 < 0) := ⟨_, rfl⟩
        have HBZ := hid hbs
        rw [← hns] at HD2 ⊢
        rw [← hbs]
        obtain ⟨q0, q1, p0, p1⟩ := HCC.out wc (HXB.out.drew.trans hxc)
        obtain ⟨e0, e1⟩ := two_set (.bool bs) (.slice aq ns cs) q0 q1
        have HWC := hid (own_set (i := 1) (own_set (i := 0) (own_ext HWB.out ((Ext.refl wb).drew.trans hxc)) (Nat.lt_succ_self w.heap.size) (.bool bs)) (Nat.lt_succ_self w.heap.size) (.slice aq ns cs))
        have HSZC : Hid (w.heap.size + 1 ≤ wb.heap.size) := hid (by have := HXB.out.size; rw [size_alloc] at this; exact this)
        have HXC := hid (((HKB.out.trans hxc).setCell (p := ⟨w.heap.size, 0, none⟩) (Nat.le_refl _) (.bool bs)).setCell (p := ⟨w.heap.size, 1, none⟩) (Nat.le_refl _) (.slice aq ns cs))
        have HSZ2 : Hid (w.heap.size + 1 ≤ ((wc.setCell ⟨w.heap.size, 0, none⟩ (.bool bs)).setCell ⟨w.heap.size, 1, none⟩ (.slice aq ns cs)).heap.size) := hid (by rw [size_setCell, size_setCell]; exact Nat.le_trans HSZC.out hxc.size)
        have HDC2 := hid (off_new (wb := wb.drew) (b := w.heap.size) (i := 0) (j := 1) (x := .bool bs) (y := .slice aq ns cs) HD2.out (own_ext HWB.out ((Ext.refl wb).drew)) HSZC.out (Nat.le_trans (Nat.le_succ _) HSZC.out) (S := S) (w := w))
        have HPE := hid (put_same (c := c) HPR.out HT.out HRC.out)
        have HJ : Hid (k + 1 ≤ p.length) := hid hlt
        clear hxc hd2 hns hbs c0 c1
        go_wp2_with fail
        obtain ⟨wz, hwz⟩ : ∃ W, W = (wc.setCell ⟨w.heap.size, 0, none⟩ (.bool bs)).setCell ⟨w.heap.size, 1, none⟩ (.slice aq ns cs) := ⟨_, rfl⟩
        rw [← hwz] at HWC HXC HSZ2 HDC2 e0 e1 ⊢
        have HW := HWC
        have HXW : Hid (Ext w wz) := HXC
        have HSZ := HSZ2
        have HDZ := HDC2
        have c0 := e0
        have c1 := e1
        clear hwz q0 q1 p0 p1 f0 f1 HWC HXC HSZ2 HDC2 e0 e1 HD2
        by_cases hz : c + t.1 = 0
        · have CS := hid (show Calls Try.prog 104 #[.agg #[.bool bs, .slice aq ns cs]] wz fun e w' => e = .returned (.int .i64 0) ∧ Ext wz w' from by have h := zed_sign (S := Off S w wz u7) _ (c + t.1) wz ⟨_, rfl, HDZ.out⟩; rw [← HBZ.out, show signI (c + t.1) = 0 by rw [hz]; rfl] at h; exact h)
          have HZ := hid hz
          clear hz
          refine CS.out.mono ?_
          rintro e w1 ⟨rfl, hx1⟩
          have HX1 := hid (HXW.out.trans hx1)
          have HW1 := hid (own_ext HW.out hx1)
          have HSZ1 : Hid (w.heap.size + 1 ≤ w1.heap.size) := hid (Nat.le_trans HSZ.out hx1.size)
          have HD1 := hid (off_ext hS HXW.out HDZ.out hx1)
          clear hx1
          go_wp2_with (first | (refine wpList_slice_from _ rfl (.tmp 65) (.tmp 66) 33 103 rfl Try.underlying33 Try.infoT (some ⟨b, off, none⟩) p.length cp (k + 1) rfl rfl HJ.out ?_; intro A' hA'; obtain ⟨news, hsrc, hcs⟩ := src_sliced (HP.out.ext HX1.out hS) HJ.out hA'; have HSRC := hid hsrc; have HCS := hid hcs; clear hA' hsrc hcs) | (at_builtin; refine wpList_append_src _ rfl (.tmp 64) (.tmp 67) 33 rfl (w.heap.size + 1) 103 i0 (.agg #[.bool false, .slice none 0 0, .slice none 0 0]) 3 56 Try.underlying33 hi hz0 hz1 hz2 rfl (by decide) _ ((k)) xs rfl HW1.out A' (p.length - (k + 1)) _ news rfl HSRC.out (by have := HS.out.1; unfold maxLen; omega) (by have := HS.out.1; omega) HSZ1.out ?_; intro v3 w3 hown hg _; have HW3 := hid hown; have HG3 := hid hg; clear hown hg))
          go_ret
          have hx3 := own_grown HX1.out HW1.out HG3.out
          refine ⟨_, rfl, put_done (w := w) hS (ms := []) (md := []) HXS.out hx3 rfl HCS.out (Kept.grown HG3.out (own_far hS HW1.out HX1.out)) (by simpa using HW3.out) (by rw [HPE.out, midP_zero HZ.out]), hx3⟩
        · have CS := hid (show Calls Try.prog 104 #[.agg #[.bool bs, .slice aq ns cs]] wz fun e w' => e = .returned (.int .i64 (signI (c + t.1))) ∧ Ext wz w' from by rw [HBZ.out]; exact zed_sign (S := Off S w wz u7) _ (c + t.1) wz ⟨_, rfl, HDZ.out⟩)
          have hsn := sign_ne hz
          have HZ := hid hz
          clear hz
          refine CS.out.mono ?_
          rintro e w1 ⟨rfl, hx1⟩
          have HX1 := hid (HXW.out.trans hx1)
          have HW1 := hid (own_ext HW.out hx1)
          have HSZ1 : Hid (w.heap.size + 1 ≤ w1.heap.size) := hid (Nat.le_trans HSZ.out hx1.size)
          have HD1 := hid (off_ext hS HXW.out HDZ.out hx1)
          have k0 := hx1.cell c0
          have k1 := hx1.cell c1
          clear hx1
          go_wp2_with (first | (refine wpList_slice_from _ rfl (.tmp 65) (.tmp 66) 33 103 rfl Try.underlying33 Try.infoT (some ⟨b, off, none⟩) p.length cp (k + 1) rfl rfl HJ.out ?_; intro A' hA'; obtain ⟨news, hsrc, hcs⟩ := src_sliced (HP.out.ext HX2.out hS) HJ.out hA'; have HSRC := hid hsrc; have HCS := hid hcs; clear hA' hsrc hcs) | (first | (at_builtin; refine wpList_append_new _ rfl (.tmp 58) (.tmp 62) 33 rfl (w.heap.size + 1) 103 (.agg #[.bool false, .slice none 0 0, .slice none 0 0]) 3 56 Try.underlying33 Try.infoT rfl (by decide) _ (k) xs rfl HW1.out #[.bool bs, .slice aq ns cs, .slice am m.length cm] rfl (three_cell rfl rfl rfl) rfl (by have := HS.out.1; omega) (by decide) HSZ1.out ?_; intro v2 w2 hown hg hbk; have HW2 := hid hown; have HG2 := hid hg; have HBK := hid hbk; have HX2 := hid (own_grown HX1.out HW1.out hg); have HSZ2 : Hid (w.heap.size + 1 ≤ w2.heap.size) := hid (Nat.le_trans HSZ1.out hg.size); clear hown hg hbk) | (at_builtin; refine wpList_append_src _ rfl (.tmp 64) (.tmp 67) 33 rfl (w.heap.size + 1) 103 i0 (.agg #[.bool false, .slice none 0 0, .slice none 0 0]) 3 56 Try.underlying33 hi hz0 hz1 hz2 rfl (by decide) _ ((k) + 1) (xs ++ (#[.bool bs, .slice aq ns cs, .slice am m.length cm] : Array Value).toList) rfl HW2.out A' (p.length - (k + 1)) _ news rfl HSRC.out (by have := HS.out.1; unfold maxLen; omega) (by have := HS.out.1; omega) HSZ2.out ?_; intro v3 w3 hown hg _; have HW3 := hid hown; have HG3 := hid hg; clear hown hg)))
          go_ret
          have hx3 := own_grown HX2.out HW2.out HG3.out
          have hmid : Cells3 (Plus S w w3) w3 [.bool bs, .slice aq ns cs, .slice am m.length cm] [(c + t.1, m)] := by
            have hd := Digs.to HD1.out (Kept.grown HG2.out (fun j hj => ⟨plus_lt hS HX1.out j hj.1, hj.2⟩)) (fun _ h => h)
            have hd3 := Digs.to hd (Kept.grown HG3.out (fun j hj => ⟨Nat.lt_of_lt_of_le (plus_lt hS HX1.out j hj.1) HG2.out.size, off_still hS HX1.out hj HBK.out⟩)) (S' := Plus S w w3) (fun j hj => plus_grow (Nat.le_trans HG2.out.size HG3.out.size) j hj.1)
            rw [HBZ.out]
            exact Cells3.single (t := (c + t.1, m)) hd3 (HM.out.to (Kept.ext hx3 hS) (fun _ h => .inl h))
          refine ⟨_, rfl, put_done (w := w) hS (ms := [.bool bs, .slice aq ns cs, .slice am m.length cm]) (md := [(c + t.1, m)]) HXS.out hx3 hmid HCS.out (Kept.grown HG3.out (own_far hS HW2.out HX2.out)) HW3.out (by rw [HPE.out, midP_some HZ.out]), hx3⟩
      · go_wp2_with fail
        refine (HCO.out wr HXW0.out).mono ?_
        rintro e wa ⟨rfl, hxa⟩
        have HXA := hid (HX.out.trans hxa)
        have k1 := hxa.cell g1
        have k2 := hxa.cell g2
        have k3 := hxa.cell g3
        have HWA := hid (own_ext HW.out hxa)
        clear hxa g1 g2 g3
        go_wp2_with fail
        refine (HCO.out wa (HK.out.trans HXA.out)).mono ?_
        rintro e wz ⟨rfl, hxb⟩
        have HXB := hid (HXA.out.trans hxb)
        have HW := hid (own_ext HWA.out hxb)
        have HXW := hid (HK.out.trans HXB.out)
        have HSZ : Hid (w.heap.size + 1 ≤ wz.heap.size) := hid (by have := HXB.out.size; rw [size_alloc] at this; exact this)
        obtain ⟨c0, c1, f0, f1⟩ := HCC.out wz HXB.out
        have HDZ := hid (off_old hS HDC.out HXW.out HW.out)
        have HPE := hid (put_here (c := c) HPR.out HT.out (by rw [HRC.out]; decide) (by rw [HRC.out]; decide))
        have HJ : Hid (k ≤ p.length) := hid hk
        clear hxb k1 k2 k3
        by_cases hz : c = 0
        · have CS := hid (show Calls Try.prog 104 #[.agg #[.bool bc, .slice ac nc cc]] wz fun e w' => e = .returned (.int .i64 0) ∧ Ext wz w' from by have h := zed_sign (S := Off S w wz u7) _ (c) wz ⟨_, rfl, HDZ.out⟩; rw [← HBZ.out, show signI (c) = 0 by rw [hz]; rfl] at h; exact h)
          have HZ := hid hz
          clear hz
          go_wp2_with fail
          refine CS.out.mono ?_
          rintro e w1 ⟨rfl, hx1⟩
          have HX1 := hid (HXW.out.trans hx1)
          have HW1 := hid (own_ext HW.out hx1)
          have HSZ1 : Hid (w.heap.size + 1 ≤ w1.heap.size) := hid (Nat.le_trans HSZ.out hx1.size)
          have HD1 := hid (off_ext hS HXW.out HDZ.out hx1)
          clear hx1
          go_wp2_with (first | (refine wpList_slice_from _ rfl (.tmp 65) (.tmp 66) 33 103 rfl Try.underlying33 Try.infoT (some ⟨b, off, none⟩) p.length cp (k) rfl rfl HJ.out ?_; intro A' hA'; obtain ⟨news, hsrc, hcs⟩ := src_sliced (HP.out.ext HX1.out hS) HJ.out hA'; have HSRC := hid hsrc; have HCS := hid hcs; clear hA' hsrc hcs) | (at_builtin; refine wpList_append_src _ rfl (.tmp 64) (.tmp 67) 33 rfl (w.heap.size + 1) 103 i0 (.agg #[.bool false, .slice none 0 0, .slice none 0 0]) 3 56 Try.underlying33 hi hz0 hz1 hz2 rfl (by decide) _ ((k)) xs rfl HW1.out A' (p.length - (k)) _ news rfl HSRC.out (by have := HS.out.1; unfold maxLen; omega) (by have := HS.out.1; omega) HSZ1.out ?_; intro v3 w3 hown hg _; have HW3 := hid hown; have HG3 := hid hg; clear hown hg))
          go_ret
          have hx3 := own_grown HX1.out HW1.out HG3.out
          refine ⟨_, rfl, put_done (w := w) hS (ms := []) (md := []) HXS.out hx3 rfl HCS.out (Kept.grown HG3.out (own_far hS HW1.out HX1.out)) (by simpa using HW3.out) (by rw [HPE.out, midP_zero HZ.out]), hx3⟩
        · have CS := hid (show Calls Try.prog 104 #[.agg #[.bool bc, .slice ac nc cc]] wz fun e w' => e = .returned (.int .i64 (signI (c))) ∧ Ext wz w' from by rw [HBZ.out]; exact zed_sign (S := Off S w wz u7) _ (c) wz ⟨_, rfl, HDZ.out⟩)
          have hsn := sign_ne hz
          have HZ := hid hz
          clear hz
          go_wp2_with fail
          refine CS.out.mono ?_
          rintro e w1 ⟨rfl, hx1⟩
          have HX1 := hid (HXW.out.trans hx1)
          have HW1 := hid (own_ext HW.out hx1)
          have HSZ1 : Hid (w.heap.size + 1 ≤ w1.heap.size) := hid (Nat.le_trans HSZ.out hx1.size)
          have HD1 := hid (off_ext hS HXW.out HDZ.out hx1)
          have k0 := hx1.cell c0
          have k1 := hx1.cell c1
          clear hx1
          go_wp2_with (first | (refine wpList_slice_from _ rfl (.tmp 65) (.tmp 66) 33 103 rfl Try.underlying33 Try.infoT (some ⟨b, off, none⟩) p.length cp (k) rfl rfl HJ.out ?_; intro A' hA'; obtain ⟨news, hsrc, hcs⟩ := src_sliced (HP.out.ext HX2.out hS) HJ.out hA'; have HSRC := hid hsrc; have HCS := hid hcs; clear hA' hsrc hcs) | (first | (at_builtin; refine wpList_append_new _ rfl (.tmp 58) (.tmp 62) 33 rfl (w.heap.size + 1) 103 (.agg #[.bool false, .slice none 0 0, .slice none 0 0]) 3 56 Try.underlying33 Try.infoT rfl (by decide) _ (k) xs rfl HW1.out #[.bool bc, .slice ac nc cc, .slice am m.length cm] rfl (three_cell rfl rfl rfl) rfl (by have := HS.out.1; omega) (by decide) HSZ1.out ?_; intro v2 w2 hown hg hbk; have HW2 := hid hown; have HG2 := hid hg; have HBK := hid hbk; have HX2 := hid (own_grown HX1.out HW1.out hg); have HSZ2 : Hid (w.heap.size + 1 ≤ w2.heap.size) := hid (Nat.le_trans HSZ1.out hg.size); clear hown hg hbk) | (at_builtin; refine wpList_append_src _ rfl (.tmp 64) (.tmp 67) 33 rfl (w.heap.size + 1) 103 i0 (.agg #[.bool false, .slice none 0 0, .slice none 0 0]) 3 56 Try.underlying33 hi hz0 hz1 hz2 rfl (by decide) _ ((k) + 1) (xs ++ (#[.bool bc, .slice ac nc cc, .slice am m.length cm] : Array Value).toList) rfl HW2.out A' (p.length - (k)) _ news rfl HSRC.out (by have := HS.out.1; unfold maxLen; omega) (by have := HS.out.1; omega) HSZ2.out ?_; intro v3 w3 hown hg _; have HW3 := hid hown; have HG3 := hid hg; clear hown hg)))
          go_ret
          have hx3 := own_grown HX2.out HW2.out HG3.out
          have hmid : Cells3 (Plus S w w3) w3 [.bool bc, .slice ac nc cc, .slice am m.length cm] [(c, m)] := by
            have hd := Digs.to HD1.out (Kept.grown HG2.out (fun j hj => ⟨plus_lt hS HX1.out j hj.1, hj.2⟩)) (fun _ h => h)
            have hd3 := Digs.to hd (Kept.grown HG3.out (fun j hj => ⟨Nat.lt_of_lt_of_le (plus_lt hS HX1.out j hj.1) HG2.out.size, off_still hS HX1.out hj HBK.out⟩)) (S' := Plus S w w3) (fun j hj => plus_grow (Nat.le_trans HG2.out.size HG3.out.size) j hj.1)
            rw [HBZ.out]
            exact Cells3.single (t := (c, m)) hd3 (HM.out.to (Kept.ext hx3 hS) (fun _ h => .inl h))
          refine ⟨_, rfl, put_done (w := w) hS (ms := [.bool bc, .slice ac nc cc, .slice am m.length cm]) (md := [(c, m)]) HXS.out hx3 hmid HCS.out (Kept.grown HG3.out (own_far hS HW2.out HX2.out)) HW3.out (by rw [HPE.out, midP_some HZ.out]), hx3⟩
    · obtain rfl : k = p.length := by omega
      obtain ⟨c0, c1, f0, f1⟩ := HCC.out wr hx
      have HPE := hid (put_end (c := c) HPR.out rfl)
      have HJ : Hid (p.length ≤ p.length) := hid (Nat.le_refl _)
      have HXW := hid (HK.out.trans hx)
      have HSZ : Hid (w.heap.size + 1 ≤ wr.heap.size) := hid (by have := hx.size; rw [size_alloc] at this; exact this)
      have HDZ := hid (off_old hS HDC.out HXW.out HW.out)
      clear hx
      by_cases hz : c = 0
      · have CS := hid (show Calls Try.prog 104 #[.agg #[.bool bc, .slice ac nc cc]] wr fun e w' => e = .returned (.int .i64 0) ∧ Ext wr w' from by have h := zed_sign (S := Off S w wr u7) _ (c) wr ⟨_, rfl, HDZ.out⟩; rw [← HBZ.out, show signI (c) = 0 by rw [hz]; rfl] at h; exact h)
        have HZ := hid hz
        clear hz
        go_wp2_with fail
        refine CS.out.mono ?_
        rintro e w1 ⟨rfl, hx1⟩
        have HX1 := hid (HXW.out.trans hx1)
        have HW1 := hid (own_ext HW.out hx1)
        have HSZ1 : Hid (w.heap.size + 1 ≤ w1.heap.size) := hid (Nat.le_trans HSZ.out hx1.size)
        have HD1 := hid (off_ext hS HXW.out HDZ.out hx1)
        clear hx1
        go_wp2_with (first | (refine wpList_slice_from _ rfl (.tmp 65) (.tmp 66) 33 103 rfl Try.underlying33 Try.infoT ap p.length cp (p.length) rfl rfl HJ.out ?_; intro A' hA'; obtain ⟨news, hsrc, hcs⟩ := src_sliced (HP.out.ext HX1.out hS) HJ.out hA'; have HSRC := hid hsrc; have HCS := hid hcs; clear hA' hsrc hcs) | (at_builtin; refine wpList_append_src _ rfl (.tmp 64) (.tmp 67) 33 rfl (w.heap.size + 1) 103 i0 (.agg #[.bool false, .slice none 0 0, .slice none 0 0]) 3 56 Try.underlying33 hi hz0 hz1 hz2 rfl (by decide) _ ((p.length)) xs rfl HW1.out A' (p.length - (p.length)) _ news rfl HSRC.out (by have := HS.out.1; unfold maxLen; omega) (by have := HS.out.1; omega) HSZ1.out ?_; intro v3 w3 hown hg _; have HW3 := hid hown; have HG3 := hid hg; clear hown hg))
        go_ret
        have hx3 := own_grown HX1.out HW1.out HG3.out
        refine ⟨_, rfl, put_done (w := w) hS (ms := []) (md := []) HXS.out hx3 rfl HCS.out (Kept.grown HG3.out (own_far hS HW1.out HX1.out)) (by simpa using HW3.out) (by rw [HPE.out, midP_zero HZ.out]), hx3⟩
      · have CS := hid (show Calls Try.prog 104 #[.agg #[.bool bc, .slice ac nc cc]] wr fun e w' => e = .returned (.int .i64 (signI (c))) ∧ Ext wr w' from by rw [HBZ.out]; exact zed_sign (S := Off S w wr u7) _ (c) wr ⟨_, rfl, HDZ.out⟩)
        have hsn := sign_ne hz
        have HZ := hid hz
        clear hz
        go_wp2_with fail
        refine CS.out.mono ?_
        rintro e w1 ⟨rfl, hx1⟩
        have HX1 := hid (HXW.out.trans hx1)
        have HW1 := hid (own_ext HW.out hx1)
        have HSZ1 : Hid (w.heap.size + 1 ≤ w1.heap.size) := hid (Nat.le_trans HSZ.out hx1.size)
        have HD1 := hid (off_ext hS HXW.out HDZ.out hx1)
        have k0 := hx1.cell c0
        have k1 := hx1.cell c1
        clear hx1
        go_wp2_with (first | (refine wpList_slice_from _ rfl (.tmp 65) (.tmp 66) 33 103 rfl Try.underlying33 Try.infoT ap p.length cp (p.length) rfl rfl HJ.out ?_; intro A' hA'; obtain ⟨news, hsrc, hcs⟩ := src_sliced (HP.out.ext HX2.out hS) HJ.out hA'; have HSRC := hid hsrc; have HCS := hid hcs; clear hA' hsrc hcs) | (first | (at_builtin; refine wpList_append_new _ rfl (.tmp 58) (.tmp 62) 33 rfl (w.heap.size + 1) 103 (.agg #[.bool false, .slice none 0 0, .slice none 0 0]) 3 56 Try.underlying33 Try.infoT rfl (by decide) _ (p.length) xs rfl HW1.out #[.bool bc, .slice ac nc cc, .slice am m.length cm] rfl (three_cell rfl rfl rfl) rfl (by have := HS.out.1; omega) (by decide) HSZ1.out ?_; intro v2 w2 hown hg hbk; have HW2 := hid hown; have HG2 := hid hg; have HBK := hid hbk; have HX2 := hid (own_grown HX1.out HW1.out hg); have HSZ2 : Hid (w.heap.size + 1 ≤ w2.heap.size) := hid (Nat.le_trans HSZ1.out hg.size); clear hown hg hbk) | (at_builtin; refine wpList_append_src _ rfl (.tmp 64) (.tmp 67) 33 rfl (w.heap.size + 1) 103 i0 (.agg #[.bool false, .slice none 0 0, .slice none 0 0]) 3 56 Try.underlying33 hi hz0 hz1 hz2 rfl (by decide) _ ((p.length) + 1) (xs ++ (#[.bool bc, .slice ac nc cc, .slice am m.length cm] : Array Value).toList) rfl HW2.out A' (p.length - (p.length)) _ news rfl HSRC.out (by have := HS.out.1; unfold maxLen; omega) (by have := HS.out.1; omega) HSZ2.out ?_; intro v3 w3 hown hg _; have HW3 := hid hown; have HG3 := hid hg; clear hown hg)))
        go_ret
        have hx3 := own_grown HX2.out HW2.out HG3.out
        have hmid : Cells3 (Plus S w w3) w3 [.bool bc, .slice ac nc cc, .slice am m.length cm] [(c, m)] := by
          have hd := Digs.to HD1.out (Kept.grown HG2.out (fun j hj => ⟨plus_lt hS HX1.out j hj.1, hj.2⟩)) (fun _ h => h)
          have hd3 := Digs.to hd (Kept.grown HG3.out (fun j hj => ⟨Nat.lt_of_lt_of_le (plus_lt hS HX1.out j hj.1) HG2.out.size, off_still hS HX1.out hj HBK.out⟩)) (S' := Plus S w w3) (fun j hj => plus_grow (Nat.le_trans HG2.out.size HG3.out.size) j hj.1)
          rw [HBZ.out]
          exact Cells3.single (t := (c, m)) hd3 (HM.out.to (Kept.ext hx3 hS) (fun _ h => .inl h))
        refine ⟨_, rfl, put_done (w := w) hS (ms := [.bool bc, .slice ac nc cc, .slice am m.length cm]) (md := [(c, m)]) HXS.out hx3 hmid HCS.out (Kept.grown HG3.out (own_far hS HW2.out HX2.out)) HW3.out (by rw [HPE.out, midP_some HZ.out]), hx3⟩
end Go.Proofs.Ythplgldclilccaa
