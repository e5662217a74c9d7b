/- The document: which polynomials may be. The document: out of terms, sums, a number, a variable, too great. The document: a polynomial as data. A slice of terms, copied, and sorted by falling monomials. Slices of terms put behind one another. Terms that are summed by their monomials: what is collected is the canonical list. Plain. -/
import Derived.Test.YthplgldclilccaaGreatSet4
namespace Go.Proofs.YthplgldclilccaaGreat
open Go.RowKit

/-- the limbs of each term are few -/
def tinyT (ts : List RTerm) : Prop := ∀ t ∈ ts, t.c.mag.length ≤ 100000
theorem tinyT.small {ts : List RTerm} (h : tinyT ts) : smallT ts := fun t ht => Nat.le_trans (h t ht) (by decide)

theorem mag_nil {x : RInt} (hok : okI x) (h : mayI x = true) : x.mag.length = 0 ↔ val B32 x.mag = 0 := by
  have e := ofI_valI hok h
  have e2 : (valI x).natAbs = val B32 x.mag := by rw [valI_sg, sg_abs]
  have e3 : x.mag = rep B32 (val B32 x.mag) := by
    rw [← e2]
    exact (congrArg RInt.mag e).symm
  constructor
  · intro h0
    rw [List.length_eq_zero_iff.1 h0]
    rfl
  · intro h0
    rw [h0, rep_zero] at e3
    rw [e3]
    rfl
theorem mayTerm_nil {t : RTerm} (_hok : okI t.c) (h : t.c.mag.length = 0) : mayTerm t = false := by
  have : t.c.mag = [] := List.length_eq_zero_iff.1 h
  unfold mayTerm
  rw [this]
  rfl
theorem mayTerm_ok {t : RTerm} (hok : okI t.c) (h1 : t.c.mag.length ≠ 0) (h2 : mayI t.c = true) (h3 : mayM t.m = true) : mayTerm t = true := by
  have h0 : val B32 t.c.mag ≠ 0 := fun e => h1 ((mag_nil hok h2).2 e)
  unfold mayTerm
  rw [h2, h3, decide_eq_true h0]
  rfl
theorem order_rcmp {a b : Mono} (ha : mayM a = true) (hb : mayM b = true) : decide (0 < orderM a b) = (rcmp a b == 1) := by
  rw [rcmp_eq ha hb]
  unfold orderM
  rw [ha, hb]
  simp only [Bool.and_self, if_true]
  rcases compareM_cases ha hb with h | h | h <;> rw [h] <;> rfl
theorem may_before {ts : List RTerm} {k : Nat} {u : RTerm} (hu : ts[k]? = some u) : befT ts (k + 1) = some u := hu

/-- the terms so far may be -/
def soFar (ts : List RTerm) (k : Nat) : Prop := mayT ts = mayFrom (befT ts k) (ts.drop k) ∧ ∀ u, befT ts k = some u → mayM u.m = true
theorem soFar_zero (ts : List RTerm) : soFar ts 0 := ⟨rfl, fun u hu => by cases hu⟩
theorem soFar_not {ts : List RTerm} {k : Nat} {t : RTerm} (h : soFar ts k) (ht : ts[k]? = some t) (hm : mayTerm t = false) : mayT ts = false := by
  rw [h.1, mayFrom_at ht, hm]
  rfl
theorem soFar_first {ts : List RTerm} {t : RTerm} (h : soFar ts 0) (ht : ts[0]? = some t) (hm : mayTerm t = true) (h3 : mayM t.m = true) : soFar ts 1 := by
  refine ⟨?_, fun u hu => ?_⟩
  · rw [h.1, mayFrom_at ht, hm]
    rfl
  · have : some t = some u := ht.symm.trans hu
    cases this
    exact h3
theorem soFar_next {ts : List RTerm} {k : Nat} {t u : RTerm} (h : soFar ts (k + 1)) (ht : ts[k + 1]? = some t) (hu : ts[k]? = some u) (hm : mayTerm t = true) (h3 : mayM t.m = true) (hc : rcmp u.m t.m = 1) : soFar ts (k + 1 + 1) := by
  have hum := h.2 u hu
  refine ⟨?_, fun v hv => ?_⟩
  · rw [h.1, mayFrom_at ht, hm, may_before hu]
    simp only
    rw [order_rcmp hum h3, hc]
    rfl
  · have : some t = some v := ht.symm.trans hv
    cases this
    exact h3
theorem soFar_stop {ts : List RTerm} {k : Nat} {t u : RTerm} (h : soFar ts (k + 1)) (ht : ts[k + 1]? = some t) (hu : ts[k]? = some u) (h3 : mayM t.m = true) (hc : ¬ rcmp u.m t.m = 1) : mayT ts = false := by
  have hum := h.2 u hu
  rw [h.1, mayFrom_at ht, may_before hu]
  simp only
  rw [order_rcmp hum h3, beq_eq_false_iff_ne.2 hc]
  simp

set_option maxRecDepth 100000 in
set_option maxHeartbeats 8000000 in
theorem rpoly_may {S : Nat → Prop} (v : Value) (ts : List RTerm) (w : World) (h : Terms S w v ts) (hS : ∀ k, S k → k < w.heap.size) (hr : tinyT ts) :
    Calls Tryz.prog 36 #[v] w fun e w' => e = .returned (.bool (mayT ts)) ∧ Ext w w' := by
  have hnot : ∀ (x : Bool) (w : World), (Op.unary .not (.bool x)).run Tryz.prog w = .ok (.bool (!x)) w := fun _ _ => rfl
  have hl := h.len_le
  have H := hid h
  have HRS := hid hr
  obtain ⟨a, cap, rfl⟩ := h.form
  clear h hr
  go_enter Tryz.func36, Tryz.ntmps36
  go_wp2
  go_loopw [3] (fun i wr => ∃ k : Nat, k ≤ ts.length ∧ i = .int .i64 k ∧ Ext w wr ∧ soFar ts k) (fun i _ => ts.length - (intOf i).toNat)
  case atStart => exact ⟨0, Nat.zero_le _, rfl, Ext.refl _, soFar_zero _⟩
  case round =>
    obtain ⟨k, hk, rfl, hx, hm⟩ := hrel
    have HM := hid hm
    have HX := hid hx
    by_cases hlt : k < ts.length
    · obtain ⟨t, ht⟩ := some_of_lt hlt
      obtain ⟨b, off, vm, vo, rfl, -, hn1, hm1, hSb, h1, h2, h3, h4, h5⟩ := H.out.cellAt ht
      have hsm := HRS.out t (List.mem_of_getElem? ht)
      have HT := hid ht
      have HOK : Hid (okI t.c) := hid h4.lt
      obtain ⟨⟨ng, zs⟩, m⟩ := t
      simp only at h1 h2 h3 h4 h5 hsm
      have H4 := hid h4
      have H5 := hid h5
      obtain ⟨am, cm, rfl⟩ := h4.form
      obtain ⟨ao, co, rfl⟩ := h5.form
      have hzl := h4.len_le
      have g1 := Ext.cell hx h1
      have g2 := Ext.cell hx h2
      have g3 := Ext.cell hx h3
      have CZ := zed_may (S := S) _ ⟨ng, zs⟩ wr (intV_mk (H4.out.ext HX.out hS)) (lt_ext hS HX.out) hsm
      clear hm ht h1 h2 h3 h4 h5 hx hsm
      cases hi : mayI ⟨ng, zs⟩ with
      | false =>
        rw [hi] at CZ
        have HCZ := hid CZ
        have HF := hid (soFar_not HM.out HT.out (mayTerm_int hi))
        clear CZ hi
        go_wp2_with fail
        refine HCZ.out.mono ?_
        rintro e w1 ⟨rfl, hx1⟩
        have HX1 := hid (HX.out.trans hx1)
        clear hx1
        go_wp2
        all_goals
          go_ret
          exact ⟨by rw [HF.out]; rfl, HX1.out⟩
      | true =>
        rw [hi] at CZ
        have HCZ := hid CZ
        have HI := hid hi
        clear CZ hi
        by_cases hz : zs.length = 0
        · have HF := hid (soFar_not HM.out HT.out (mayTerm_nil HOK.out hz))
          have HCZ0 := HCZ.out
          simp only [hz] at g2 HCZ0
          have HCZ1 := hid HCZ0
          clear HCZ0
          go_wp2_with fail
          refine HCZ1.out.mono ?_
          rintro e w1 ⟨rfl, hx1⟩
          have HX1 := hid (HX.out.trans hx1)
          have k1 := hx1.cell g1
          have k2 := hx1.cell g2
          have k3 := hx1.cell g3
          clear hx1 g1 g2 g3
          go_wp2
          all_goals
            go_ret
            exact ⟨by rw [HF.out]; rfl, HX1.out⟩
        · have hzb : ((zs.length : Int) == 0) = false := by rw [beq_eq_false_iff_ne]; omega
          go_wp2_with fail
          refine HCZ.out.mono ?_
          rintro e w1 ⟨rfl, hx1⟩
          have HX1 := hid (HX.out.trans hx1)
          have k1 := hx1.cell g1
          have k2 := hx1.cell g2
          have k3 := hx1.cell g3
          have CQ := rmono_may (S := S) _ m w1 (H5.out.ext HX1.out hS) (lt_ext hS HX1.out)
          clear hx1 g1 g2 g3
          cases hq : mayM m with
          | false =>
            rw [hq] at CQ
            have HCQ := hid CQ
            have HF := hid (soFar_not HM.out HT.out (mayTerm_mono hq))
            clear CQ hq
            go_wp2_with fail
            refine HCQ.out.mono ?_
            rintro e w2 ⟨rfl, hx2⟩
            have HX2 := hid (HX1.out.trans hx2)
            clear hx2
            go_wp2
            all_goals
              go_ret
              exact ⟨by rw [HF.out]; rfl, HX2.out⟩
          | true =>
            rw [hq] at CQ
            have HCQ := hid CQ
            have HQ := hid hq
            have HMT : Hid (mayTerm ⟨⟨ng, zs⟩, m⟩ = true) := hid (mayTerm_ok HOK.out hz HI.out hq)
            clear CQ hq
            go_wp2_with fail
            refine HCQ.out.mono ?_
            rintro e w2 ⟨rfl, hx2⟩
            have HX2 := hid (HX1.out.trans hx2)
            have L3 := fun X : Later w2 => X.cell (hx2.cell k3)
            clear hx2 k1 k2 k3
            cases k with
            | zero =>
              have HF := hid (soFar_first HM.out HT.out HMT.out HQ.out)
              go_wp2
              refine wp_region_later (by kernel_rfl) (by kernel_rfl) ?_
              repeat (go_big_quiet_step (fail))
              refine wpQuiet_nil ?_
              intro W hW
              have HW := hid (HX2.out.trans hW)
              clear hW
              go_wp2
              go_roundw
              case rel => exact ⟨_, by omega, by go_num, HW.out, HF.out⟩
              case measure => simp only [intOf]; omega
            | succ k =>
              obtain ⟨u, hu⟩ := some_of_lt (show k < ts.length by omega)
              obtain ⟨b', off', vmu, vou, hbb, -, -, -, -, u1, u2, u3, u4, u5⟩ := H.out.cellAt hu
              obtain ⟨rfl, rfl⟩ : b = b' ∧ off = off' := by simpa using hbb
              have HP5 := hid u5
              have HU := hid hu
              obtain ⟨ap, cp, rfl⟩ := u5.form
              have L4 := fun X : Later w2 => X.cell (HX2.out.cell u3)
              have hq0 : ((k : Nat) : Int) + 1 - 1 = (k : Int) := by omega
              clear u1 u2 u3 u4 u5 hu hbb
              obtain ⟨rc, hrc⟩ : ∃ s, rcmp u.m m = s := ⟨_, rfl⟩
              have CO := fun (W : World) (h1 : Pows S W (.slice ap u.m.length cp) u.m) (h2 : Pows S W (.slice ao m.length co) m) hs => rmono_compare (S := S) _ _ _ _ W h1 h2 hs
              simp only [hrc] at CO
              have HCO := hid CO
              clear CO
              by_cases hc1 : rc = 1
              · subst hc1
                have HF := hid (soFar_next HM.out HT.out HU.out HMT.out HQ.out hrc)
                clear hrc
                go_wp2
                refine wp_region_later (by kernel_rfl) (by kernel_rfl) ?_
                repeat (go_big_quiet_step (first | (go_at_call 87; exact Later.done (HCO.out _ (HP5.out.ext (HX2.out.trans (Later.h _)) hS) (H5.out.ext (HX2.out.trans (Later.h _)) hS) (lt_ext hS (HX2.out.trans (Later.h _)))))))
                refine wpQuiet_nil ?_
                intro W hW
                have HW := hid (HX2.out.trans hW)
                clear hW
                go_wp2
                go_roundw
                case rel => exact ⟨_, by omega, by go_num, HW.out, HF.out⟩
                case measure => simp only [intOf]; omega
              · have hbn : (rc != 1) = true := by rw [bne_iff_ne]; exact hc1
                have HF := hid (soFar_stop HM.out HT.out HU.out HQ.out (by rw [hrc]; exact hc1))
                clear hrc
                go_wp2
                refine wp_region_later (by kernel_rfl) (by kernel_rfl) ?_
                repeat (go_big_quiet_step (first | (go_at_call 87; exact Later.done (HCO.out _ (HP5.out.ext (HX2.out.trans (Later.h _)) hS) (H5.out.ext (HX2.out.trans (Later.h _)) hS) (lt_ext hS (HX2.out.trans (Later.h _)))))))
                refine wpQuiet_nil ?_
                intro W hW
                have HW := hid (HX2.out.trans hW)
                clear hW
                go_wp2
                all_goals
                  go_ret
                  exact ⟨by rw [HF.out]; rfl, HW.out⟩
    · obtain rfl : k = ts.length := by omega
      have HF : Hid (mayT ts = true) := hid (by rw [hm.1, List.drop_length]; rfl)
      clear hx hm
      go_wp2
      all_goals
        go_ret
        exact ⟨by rw [HF.out]; rfl, HX.out⟩
end Go.Proofs.YthplgldclilccaaGreat

namespace Go.Proofs.YthplgldclilccaaGreat
open Go.RowKit

def RTs (S : Nat → Prop) (w : World) (v : Value) (p : PZ) : Prop :=
  ∃ b off, SliceAt S v p.length b off ∧ ∀ j t, p[j]? = some t → ∃ vd vo, w.cell? ⟨b, off + j * 3, none⟩ = some (.bool (decide (t.1 < 0))) ∧
    w.cell? ⟨b, off + j * 3 + 1, none⟩ = some vd ∧ w.cell? ⟨b, off + j * 3 + 2, none⟩ = some vo ∧ Digs S w vd (rep 10 t.1.natAbs) ∧ Pows S w vo t.2
section
variable {S S' : Nat → Prop} {w w' : World} {v : Value} {p : PZ}
theorem RTs.form (h : RTs S w v p) : ∃ a cap, v = .slice a p.length cap := by
  obtain ⟨b, off, ⟨a, cap, h1, _⟩, _⟩ := h
  exact ⟨a, cap, h1⟩
theorem RTs.to (h : RTs S w v p) (hk : Kept S w w') (hS : ∀ k, S k → S' k) : RTs S' w' v p := by
  obtain ⟨b, off, hs, hc⟩ := h
  refine ⟨b, off, hs.mono hS, fun j t hj => ?_⟩
  obtain ⟨vm, vo, h1, h2, h3, h4, h5⟩ := hc j t hj
  have hb := hs.in (lt_of_some hj)
  exact ⟨vm, vo, hk.cell hb h1, hk.cell hb h2, hk.cell hb h3, h4.to hk hS, h5.to hk hS⟩
theorem RTs.ext (h : RTs S w v p) (hx : Ext w w') (hS : ∀ k, S k → k < w.heap.size) : RTs S w' v p := h.to (Kept.ext hx hS) (fun _ h => h)
theorem RTs.len_le (h : RTs S w v p) : p.length ≤ 9223372036854775807 := by
  obtain ⟨b, off, ⟨a, cap, h1, h2, h3, _⟩, _⟩ := h
  unfold maxLen at h3
  omega
theorem RTs.cellAt {a : Option Addr} {n cap k : Nat} {t : Int × Mono} (h : RTs S w (.slice a n cap) p) (ht : p[k]? = some t) :
    ∃ b off vd vo, a = some ⟨b, off, none⟩ ∧ n = p.length ∧ n ≤ cap ∧ cap ≤ 9223372036854775807 ∧ S b ∧ w.cell? ⟨b, off + k * 3, none⟩ = some (.bool (decide (t.1 < 0))) ∧ w.cell? ⟨b, off + k * 3 + 1, none⟩ = some vd ∧ w.cell? ⟨b, off + k * 3 + 2, none⟩ = some vo ∧ Digs S w vd (rep 10 t.1.natAbs) ∧ Pows S w vo t.2 := by
  obtain ⟨b, off, ⟨a', cap', h1, h2, h3, h4, h5⟩, hc⟩ := h
  obtain ⟨rfl, rfl, rfl⟩ : a = a' ∧ n = p.length ∧ cap = cap' := by simpa using h1
  have hp : 0 < p.length := by have := lt_of_some ht; omega
  obtain ⟨vm, vo, g1, g2, g3, g4, g5⟩ := hc k t ht
  exact ⟨b, off, vm, vo, h4 hp, rfl, h2, h3, h5 hp, g1, g2, g3, g4, g5⟩
theorem RTs.nilv (S : Nat → Prop) (w : World) (a : Option Addr) (cap : Nat) (h : cap ≤ 9223372036854775807) : RTs S w (.slice a 0 cap) [] :=
  ⟨0, 0, ⟨a, cap, rfl, Nat.zero_le _, h, fun h => absurd h (Nat.lt_irrefl 0), fun h => absurd h (Nat.lt_irrefl 0)⟩, fun j t hj => by simp at hj⟩
end

/-- the cells of the terms of a slice -/
def Cells3 (S : Nat → Prop) (w : World) : List Value → PZ → Prop
  | xs, [] => xs = []
  | xs, t :: r => ∃ vd vo ys, xs = .bool (decide (t.1 < 0)) :: vd :: vo :: ys ∧ Digs S w vd (rep 10 t.1.natAbs) ∧ Pows S w vo t.2 ∧ Cells3 S w ys r
section
variable {S S' : Nat → Prop} {w w' : World}
theorem Cells3.append {xs ys : List Value} {p q : PZ} (h : Cells3 S w xs p) (k : Cells3 S w ys q) : Cells3 S w (xs ++ ys) (p ++ q) := by
  induction p generalizing xs with
  | nil =>
    have e : xs = [] := h
    subst e
    exact k
  | cons t r ih =>
    obtain ⟨vd, vo, zs, rfl, h1, h2, h3⟩ := h
    exact ⟨vd, vo, zs ++ ys, rfl, h1, h2, ih h3⟩
theorem Cells3.to {xs : List Value} {p : PZ} (h : Cells3 S w xs p) (hk : Kept S w w') (hS : ∀ k, S k → S' k) : Cells3 S' w' xs p := by
  induction p generalizing xs with
  | nil => exact h
  | cons t r ih =>
    obtain ⟨vd, vo, zs, rfl, h1, h2, h3⟩ := h
    exact ⟨vd, vo, zs, rfl, h1.to hk hS, h2.to hk hS, ih h3⟩
theorem Cells3.length {xs : List Value} {p : PZ} (h : Cells3 S w xs p) : xs.length = p.length * 3 := by
  induction p generalizing xs with
  | nil =>
    have e : xs = [] := h
    subst e
    rfl
  | cons t r ih =>
    obtain ⟨vd, vo, zs, rfl, h1, h2, h3⟩ := h
    simp only [List.length_cons, ih h3]
    omega
theorem Cells3.get {xs : List Value} {p : PZ} (h : Cells3 S w xs p) {j : Nat} {t : Int × Mono} (ht : p[j]? = some t) :
    ∃ vd vo, xs[j * 3]? = some (.bool (decide (t.1 < 0))) ∧ xs[j * 3 + 1]? = some vd ∧ xs[j * 3 + 2]? = some vo ∧ Digs S w vd (rep 10 t.1.natAbs) ∧ Pows S w vo t.2 := by
  induction p generalizing xs j with
  | nil => simp at ht
  | cons u r ih =>
    obtain ⟨vd, vo, zs, rfl, h1, h2, h3⟩ := h
    cases j with
    | zero =>
      obtain rfl : u = t := by simpa using ht
      exact ⟨vd, vo, rfl, rfl, rfl, h1, h2⟩
    | succ j =>
      obtain ⟨vd', vo', g⟩ := ih h3 (j := j) (by simpa using ht)
      refine ⟨vd', vo', ?_⟩
      rw [show (j + 1) * 3 = j * 3 + 1 + 1 + 1 by omega]
      simpa using g
theorem Cells3.one {xs : List Value} {p : PZ} (h : Cells3 S w xs p) : ∀ u ∈ xs, u.oneCell' = true := by
  induction p generalizing xs with
  | nil =>
    have e : xs = [] := h
    subst e
    intro u hu
    simp at hu
  | cons t r ih =>
    obtain ⟨vd, vo, zs, rfl, h1, h2, h3⟩ := h
    intro u hu
    simp only [List.mem_cons] at hu
    rcases hu with rfl | rfl | rfl | hu
    · rfl
    · obtain ⟨a, c, rfl⟩ := h1.form; rfl
    · obtain ⟨a, c, rfl⟩ := h2.form; rfl
    · exact ih h3 u hu
theorem Cells3.single {vd vo : Value} {t : Int × Mono} (h1 : Digs S w vd (rep 10 t.1.natAbs)) (h2 : Pows S w vo t.2) : Cells3 S w [.bool (decide (t.1 < 0)), vd, vo] [t] := ⟨vd, vo, [], rfl, h1, h2, rfl⟩
end

theorem own_rts {S : Nat → Prop} {w : World} {base : Nat} {e : TypeId} {v : Value} {xs : List Value} {p : PZ} (h : w.ownsRow base e 3 v p.length xs) (hc : Cells3 S w xs p) (hB : ∀ k, base ≤ k → k < w.heap.size → S k) : RTs S w v p := by
  have hlt := h.lt
  rcases h.2 with ⟨rfl, h0⟩ | ⟨g, cap, cur, rfl, hg, hh, h1, h2, h3, h4⟩
  · obtain rfl : p = [] := List.length_eq_zero_iff.1 h0
    exact RTs.nilv _ _ _ _ (by omega)
  · refine ⟨g, 0, ⟨_, cap, rfl, h1, h2, fun _ => rfl, fun _ => hB g (hlt g rfl).1 (hlt g rfl).2⟩, fun j t hj => ?_⟩
    obtain ⟨vd, vo, g1, g2, g3, g4, g5⟩ := hc.get hj
    have hb := lt_of_some hj
    refine ⟨vd, vo, ?_, ?_, ?_, g4, g5⟩
    · rw [h.cellAt (0 + j * 3) (by omega), Nat.zero_add]
      exact g1
    · rw [h.cellAt (0 + j * 3 + 1) (by omega), Nat.zero_add]
      exact g2
    · rw [h.cellAt (0 + j * 3 + 2) (by omega), Nat.zero_add]
      exact g3

/-- what stands behind the first k terms, as a source -/
theorem cells_from {S : Nat → Prop} {w : World} {b : Nat} : ∀ (p : PZ) (off : Nat), (∀ j t, p[j]? = some t → ∃ vd vo, w.cell? ⟨b, off + j * 3, none⟩ = some (.bool (decide (t.1 < 0))) ∧
    w.cell? ⟨b, off + j * 3 + 1, none⟩ = some vd ∧ w.cell? ⟨b, off + j * 3 + 2, none⟩ = some vo ∧ Digs S w vd (rep 10 t.1.natAbs) ∧ Pows S w vo t.2) →
    ∃ xs, Cells3 S w xs p ∧ ∀ j u, xs[j]? = some u → w.cell? ⟨b, off + j, none⟩ = some u
  | [], _, _ => ⟨[], rfl, fun j u hu => by simp at hu⟩
  | t :: r, off, h => by
    obtain ⟨vd, vo, h1, h2, h3, h4, h5⟩ := h 0 t rfl
    obtain ⟨ys, k1, k2⟩ := cells_from r (off + 3) (fun j u hu => by
      have := h (j + 1) u (by simpa using hu)
      rw [show off + (j + 1) * 3 = off + 3 + j * 3 by omega] at this
      exact this)
    refine ⟨_, ⟨vd, vo, ys, rfl, h4, h5, k1⟩, fun j u hu => ?_⟩
    match j, hu with
    | 0, hu =>
      have e : _ = u := Option.some.inj hu
      rw [← e]
      exact h1
    | 1, hu =>
      have e : _ = u := Option.some.inj hu
      rw [← e]
      exact h2
    | 2, hu =>
      have e : _ = u := Option.some.inj hu
      rw [← e]
      exact h3
    | j + 3, hu =>
      have := k2 j u (by simpa using hu)
      rw [show off + (j + 3) = off + 3 + j by omega]
      exact this
theorem RTs.src {S : Nat → Prop} {w : World} {b off n cap k : Nat} {p : PZ} (h : RTs S w (.slice (some ⟨b, off, none⟩) n cap) p) (hk : k ≤ p.length) :
    ∃ news, SrcAt w (some ⟨b, off + k * 3, none⟩) (p.length - k) 3 news ∧ Cells3 S w news (p.drop k) := by
  obtain ⟨b', off', ⟨a', cap', h1, h2, h3, h4, h5⟩, hc⟩ := h
  by_cases h0 : 0 < p.length
  · have e := h4 h0
    obtain ⟨e1, -, -⟩ : some (⟨b, off, none⟩ : Addr) = a' ∧ n = p.length ∧ cap = cap' := by simpa using h1
    rw [← e1] at e
    obtain ⟨rfl, rfl⟩ : b = b' ∧ off = off' := by simpa using e
    obtain ⟨xs, k1, k2⟩ := cells_from (S := S) (w := w) (b := b) (p.drop k) (off + k * 3) (fun j t hj => by
      rw [List.getElem?_drop] at hj
      have := hc (k + j) t hj
      rw [show off + (k + j) * 3 = off + k * 3 + j * 3 by omega] at this
      exact this)
    refine ⟨xs, ⟨?_, k1.one, fun _ => ⟨_, rfl, fun j u hu => ?_⟩⟩, k1⟩
    · rw [k1.length, List.length_drop]
    · rw [add_off]
      exact k2 j u hu
  · obtain rfl : p = [] := List.length_eq_zero_iff.1 (by omega)
    refine ⟨[], ⟨by simp, fun u hu => by simp at hu, fun hh => by simp at hh⟩, ?_⟩
    rw [List.drop_nil]
    rfl

/-- where a term goes -/
theorem putP_split {p : PZ} {c : Int} {m : Mono} : ∀ {k : Nat}, (∀ j t, j < k → p[j]? = some t → compareM t.2 m = 1) → putP p c m = p.take k ++ putP (p.drop k) c m
  | 0, _ => rfl
  | k + 1, h => by
    cases p with
    | nil => simp
    | cons t r =>
      have h0 := h 0 t (by omega) rfl
      have ih := putP_split (p := r) (c := c) (m := m) (k := k) (fun j u hj hu => h (j + 1) u (by omega) (by simpa using hu))
      simp only [putP, h0, if_true, List.take_succ_cons, List.drop_succ_cons, List.cons_append, ih]
/-- what stands in the place -/
def midP (c : Int) (m : Mono) : PZ := if c = 0 then [] else [(c, m)]
theorem put_end {p : PZ} {c : Int} {m : Mono} {k : Nat} (h : ∀ j t, j < k → p[j]? = some t → compareM t.2 m = 1) (hk : k = p.length) : putP p c m = p.take k ++ midP c m ++ p.drop k := by
  rw [putP_split h, hk, List.drop_length]
  simp [putP, midP]
theorem put_same {p : PZ} {c : Int} {m : Mono} {k : Nat} {t : Int × Mono} (h : ∀ j t, j < k → p[j]? = some t → compareM t.2 m = 1) (ht : p[k]? = some t) (hc : compareM t.2 m = 0) : putP p c m = p.take k ++ midP (c + t.1) m ++ p.drop (k + 1) := by
  rw [putP_split h, drop_at ht, List.append_assoc]
  simp only [putP, hc, midP, if_true]
  rw [if_neg (by decide)]
  split <;> rfl
theorem put_here {p : PZ} {c : Int} {m : Mono} {k : Nat} {t : Int × Mono} (h : ∀ j t, j < k → p[j]? = some t → compareM t.2 m = 1) (ht : p[k]? = some t) (h1 : compareM t.2 m ≠ 1) (h2 : compareM t.2 m ≠ 0) : putP p c m = p.take k ++ midP c m ++ p.drop k := by
  rw [putP_split h, drop_at ht, List.append_assoc]
  simp only [putP, midP]
  rw [if_neg h1, if_neg h2]
  split <;> rfl
theorem midP_zero {c : Int} (h : c = 0) (m : Mono) : midP c m = [] := by unfold midP; rw [if_pos h]
theorem midP_some {c : Int} (h : c ≠ 0) (m : Mono) : midP c m = [(c, m)] := by unfold midP; rw [if_neg h]

theorem Tryz.infoT : (Tryz.prog.info? 89).map (fun i => (i.zero, i.size, i.bytes)) = some (some (.agg #[.bool false, .slice none 0 0, .slice none 0 0]), 3, 56) := by kernel_rfl
theorem three_cell {u v x : Value} (h : u.oneCell' = true) (k : v.oneCell' = true) (l : x.oneCell' = true) : ∀ y ∈ (#[u, v, x] : Array Value).toList, y.oneCell' = true := by
  intro y hy
  simp at hy
  rcases hy with rfl | rfl | rfl <;> assumption
end Go.Proofs.YthplgldclilccaaGreat

namespace Go.Proofs.YthplgldclilccaaGreat
open Go.RowKit

abbrev Old (w : World) : Nat → Prop := fun k => k < w.heap.size
theorem old_lt {w W : World} (h : Ext w W) : ∀ k, Old w k → k < W.heap.size := fun _ hk => Nat.lt_of_lt_of_le hk h.size
theorem RTs.on {w W : World} {v : Value} {p : PZ} (h : RTs (Old w) w v p) (hx : Ext w W) : RTs (Old W) W v p := h.to (Kept.ext hx (fun _ h => h)) (old_lt hx)
theorem ZV.on {w W : World} {v : Value} {z : Int} (h : ZV (Old w) w v z) (hx : Ext w W) : ZV (Old W) W v z := h.to (Kept.ext hx (fun _ h => h)) (old_lt hx)
theorem Digs.on {w W : World} {v : Value} {z : List Nat} (h : Digs (Old w) w v z) (hx : Ext w W) : Digs (Old W) W v z := h.to (Kept.ext hx (fun _ h => h)) (old_lt hx)
theorem Pows.on {w W : World} {v : Value} {z : Mono} (h : Pows (Old w) w v z) (hx : Ext w W) : Pows (Old W) W v z := h.to (Kept.ext hx (fun _ h => h)) (old_lt hx)
theorem Cells3.on {w W : World} {v : List Value} {z : PZ} (h : Cells3 (Old w) w v z) (hx : Ext w W) : Cells3 (Old W) W v z := h.to (Kept.ext hx (fun _ h => h)) (old_lt hx)
theorem digs_one {S : Nat → Prop} {w : World} {v : Value} {z : List Nat} (h : Digs S w v z) : v.oneCell' = true := by
  obtain ⟨a, c, rfl⟩ := h.form
  rfl
theorem pows_one {S : Nat → Prop} {w : World} {v : Value} {z : Mono} (h : Pows S w v z) : v.oneCell' = true := by
  obtain ⟨a, c, rfl⟩ := h.form
  rfl

/-- sizes of a polynomial of the document -/
def szP (p : PZ) : Prop := p.length ≤ 100000000 ∧ ∀ t ∈ p, szZ t.1

/-- a slice from an index on -/
theorem wpList_slice_from {P : Program} (w : World) {ops : Array Oper} {rest : List Oper} {o : Oper} {a : Act} {Q : Exit → Act → World → Prop} (hgd : o.guard = none) (x y : Operand) (t e : TypeId)
    (ho : o.op = .slice t x (some y) none none) (ht : P.underlying t = some (.slice e)) {z : Option Value} {size bytes : Nat} (hinfo : (P.info? e).map (fun i => (i.zero, i.size, i.bytes)) = some (z, size, bytes))
    (A : Option Addr) (n cap k : Nat) (hx : a.eval x = .slice A n cap) (hy : a.eval y = .int .i64 (k : Nat)) (hk : k ≤ n)
    (h : ∀ A', A' = (if cap = k then A else A.map (·.add (k * size))) → wpList P ops Q rest (a.put o.dst (.slice A' (n - k) (cap - k))) w) : wpList P ops Q (o :: rest) a w := by
  refine wpList_plain hgd fun K hK => ?_
  have he : P.elem t = e := by simp [Program.elem, ht]
  have ht' : P.underlying t = some (.slice (P.elem t)) := by rw [he]; exact ht
  have hi : ∃ i, P.info? e = some i ∧ i.size = size := by
    cases hh : P.info? e with
    | none => rw [hh] at hinfo; simp at hinfo
    | some i =>
      rw [hh] at hinfo
      simp at hinfo
      exact ⟨i, rfl, hinfo.2.1⟩
  obtain ⟨i, hi1, hi2⟩ := hi
  unfold Oper.wp execOp
  simp only [ho, Option.map, hx, hy]
  rw [Sem.run_bind, run_sliceAt_slice _ _ _ _ _ _ ht', run_slice_l _ _ _ _ _ ht' _ _ (by omega) (by omega)]
  simp only [he, sizeOf, typeInfo, Sem.run_bind, sliced, Int.toNat_natCast]
  have := hK _ _ (h _ rfl)
  simpa [go_sem, hi1, hi2] using this
/-- what is appended from it -/
theorem src_sliced {S : Nat → Prop} {w : World} {A A' : Option Addr} {n cap k : Nat} {p : PZ} (h : RTs S w (.slice A n cap) p) (hk : k ≤ p.length) (e : A' = (if cap = k then A else A.map (·.add (k * 3)))) :
    ∃ news, SrcAt w A' (p.length - k) 3 news ∧ Cells3 S w news (p.drop k) := by
  have h' := h
  obtain ⟨b, off, ⟨a', cap', h1, h2, h3, h4, h5⟩, hc⟩ := h
  obtain ⟨rfl, rfl, rfl⟩ : A = a' ∧ n = p.length ∧ cap = cap' := by simpa using h1
  by_cases hlt : k < p.length
  · have ha := h4 (by omega)
    subst ha
    rw [if_neg (by omega)] at e
    have e2 : A' = some ⟨b, off + k * 3, none⟩ := by rw [e, Option.map_some, add_off]
    rw [e2]
    exact h'.src hk
  · obtain rfl : k = p.length := by omega
    refine ⟨[], ⟨by simp, fun u hu => by simp at hu, fun hh => by omega⟩, ?_⟩
    rw [List.drop_length]
    rfl

theorem own_ext {w w' : World} {base : Nat} {e : TypeId} {size : Nat} {v : Value} {n : Nat} {xs : List Value} (h : w.ownsRow base e size v n xs) (hx : Ext w w') : w'.ownsRow base e size v n xs :=
  h.kept (row := none) ⟨hx.os, hx.tape, hx.output, hx.size, fun k hk _ => hx.block k hk⟩ (by
    cases hv : v.ownBlock with
    | none => exact .inl rfl
    | some k => exact .inr (by simp))
theorem sign_zero : signI 0 = 0 := rfl
theorem sign_ne {c : Int} (h : c ≠ 0) : (signI c != 0) = true := by
  rw [bne_iff_ne]
  unfold signI
  rw [Ne, cmpI_zero]
  exact h
/-- what was given, and what is new -/
abbrev Plus (S : Nat → Prop) (w w1 : World) : Nat → Prop := fun k => S k ∨ New w w1 k
theorem plus_lt {S : Nat → Prop} {w w1 : World} (hS : ∀ k, S k → k < w.heap.size) (hx : Ext w w1) : ∀ k, Plus S w w1 k → k < w1.heap.size := fun k hk => by
  rcases hk with h | h
  · exact Nat.lt_of_lt_of_le (hS k h) hx.size
  · exact h.2
theorem plus_grow {S : Nat → Prop} {w w1 w2 : World} (hx : w1.heap.size ≤ w2.heap.size) : ∀ k, Plus S w w1 k → Plus S w w2 k := fun k hk => by
  rcases hk with h | h
  · exact .inl h
  · exact .inr ⟨h.1, Nat.lt_of_lt_of_le h.2 hx⟩
/-- of those, the ones that are not the block of a slice -/
abbrev Off (S : Nat → Prop) (w w1 : World) (o : Value) : Nat → Prop := fun k => Plus S w w1 k ∧ some k ≠ o.ownBlock
theorem off_ext {S : Nat → Prop} {w w0 w1 : World} {o v : Value} {z : List Nat} (hS : ∀ k, S k → k < w.heap.size) (h0 : Ext w w0) (h : Digs (Off S w w0 o) w0 v z) (hx : Ext w0 w1) : Digs (Off S w w1 o) w1 v z :=
  h.to (Kept.ext hx (fun k h => plus_lt hS h0 k h.1)) (fun k h => ⟨plus_grow hx.size k h.1, h.2⟩)
theorem own_ne {w w1 : World} {o : Value} {e : TypeId} {size n : Nat} {xs : List Value} (ho : w1.ownsRow (w.heap.size + 1) e size o n xs) {k : Nat} (hk : k < w.heap.size) : some k ≠ o.ownBlock := fun e => by
  have := (ho.lt k e.symm).1
  omega
theorem off_old {S : Nat → Prop} {w w1 : World} {o v : Value} {z : List Nat} {e : TypeId} {size n : Nat} {xs : List Value} (hS : ∀ k, S k → k < w.heap.size) (h : Digs S w v z) (hx : Ext w w1) (ho : w1.ownsRow (w.heap.size + 1) e size o n xs) : Digs (Off S w w1 o) w1 v z :=
  h.to (Kept.ext hx hS) (fun k hk => ⟨.inl hk, own_ne ho (hS k hk)⟩)
theorem own_grown {w w1 w2 : World} {o : Value} {e : TypeId} {size n : Nat} {xs : List Value} (hx : Ext w w1) (ho : w1.ownsRow (w.heap.size + 1) e size o n xs) (hg : w1.grownBy w2 o.ownBlock) : Ext w w2 :=
  ext_grown hx hg (fun k hk => by have := (ho.lt k hk).1; omega)
theorem own_far {S : Nat → Prop} {w w1 : World} {o : Value} {e : TypeId} {size n : Nat} {xs : List Value} (hS : ∀ k, S k → k < w.heap.size) (ho : w1.ownsRow (w.heap.size + 1) e size o n xs) (hx : Ext w w1) : ∀ k, S k → k < w1.heap.size ∧ some k ≠ o.ownBlock := fun k hk =>
  ⟨Nat.lt_of_lt_of_le (hS k hk) hx.size, own_ne ho (hS k hk)⟩
theorem off_still {S : Nat → Prop} {w w1 : World} {o v2 : Value} {k : Nat} (hS : ∀ k, S k → k < w.heap.size) (hx : Ext w w1) (h : Off S w w1 o k) (hb : v2.ownBlock = o.ownBlock ∨ v2.ownBlock = some (w1.heap.size + 1)) : some k ≠ v2.ownBlock := by
  rcases hb with e | e
  · rw [e]; exact h.2
  · rw [e]
    intro e2
    have := plus_lt hS hx k h.1
    have e3 : k = w1.heap.size + 1 := Option.some.inj e2
    omega
/-- the end of the walk: what stands ahead, in the place and behind -/
theorem set_grown (w : World) (a : Addr) (u : Value) : w.grownBy (w.setCell a u) (some a.block) :=
  ⟨rfl, rfl, rfl, Nat.le_of_eq (size_setCell w a u).symm, fun k _ hne => Below.heap_setCell _ _ _ _ (fun e => hne (by rw [e]))⟩
theorem own_set {w1 : World} {b i base : Nat} {o : Value} {e : TypeId} {size n : Nat} {xs : List Value} (ho : w1.ownsRow base e size o n xs) (hb : b < base) (u : Value) : (w1.setCell ⟨b, i, none⟩ u).ownsRow base e size o n xs :=
  ho.kept (set_grown w1 ⟨b, i, none⟩ u) (by
    cases hv : o.ownBlock with
    | none => exact .inl rfl
    | some k =>
      have := (ho.lt k hv).1
      exact .inr (fun e => by
        have e2 : k = b := Option.some.inj e
        omega))
theorem off_new {S : Nat → Prop} {w wb wc : World} {b i j : Nat} {o v x y : Value} {z : List Nat} {base : Nat} {e : TypeId} {size n : Nat} {xs : List Value} (h : Digs (New wb wc) wc v z) (ho : wb.ownsRow base e size o n xs) (hb : b < wb.heap.size) (hw : w.heap.size ≤ wb.heap.size) :
    Digs (Off S w ((wc.setCell ⟨b, i, none⟩ x).setCell ⟨b, j, none⟩ y) o) ((wc.setCell ⟨b, i, none⟩ x).setCell ⟨b, j, none⟩ y) v z := by
  have k1 : Kept (New wb wc) wc (wc.setCell ⟨b, i, none⟩ x) := Kept.setCell (a := ⟨b, i, none⟩) (fun hh => by have := hh.1; simp only at this; omega) x
  have k2 : Kept (New wb wc) (wc.setCell ⟨b, i, none⟩ x) ((wc.setCell ⟨b, i, none⟩ x).setCell ⟨b, j, none⟩ y) := Kept.setCell (a := ⟨b, j, none⟩) (fun hh => by have := hh.1; simp only at this; omega) y
  refine h.to (k1.trans k2) (fun k hk => ⟨.inr ⟨Nat.le_trans hw hk.1, ?_⟩, fun e => ?_⟩)
  · rw [size_setCell, size_setCell]
    exact hk.2
  · have := (ho.lt k e.symm).2
    have := hk.1
    omega
theorem put_done {S : Nat → Prop} {w w2 w3 : World} {k j n : Nat} {T : TypeId} {v3 : Value} {xs ms news : List Value} {p md q : PZ} (hS : ∀ k, S k → k < w.heap.size) (hx : Cells3 S w xs (p.take k)) (x3 : Ext w w3) (hm : Cells3 (Plus S w w3) w3 ms md) (hn : Cells3 S w2 news (p.drop j)) (hk : Kept S w2 w3)
    (ho : w3.ownsRow (w.heap.size + 1) T 3 v3 n (xs ++ ms ++ news)) (hq : q = p.take k ++ md ++ p.drop j) : RTs (Plus S w w3) w3 v3 q := by
  have hc : Cells3 (Plus S w w3) w3 (xs ++ ms ++ news) q := by
    rw [hq]
    exact ((hx.to (Kept.ext x3 hS) (fun _ h => .inl h)).append hm).append (hn.to hk (fun _ h => .inl h))
  have hl := hc.length
  have hn' : n = q.length := by
    have := ho.1
    omega
  subst hn'
  exact own_rts ho hc (fun k h1 h2 => .inr ⟨by omega, h2⟩)

set_option maxRecDepth 100000 in
set_option maxHeartbeats 8000000 in
theorem rpoly_put {S : Nat → Prop} (vp vc vm : Value) (p : PZ) (c : Int) (m : Mono) (w : World) (hS : ∀ k, S k → k < w.heap.size) (hp : RTs S w vp p) (hc : ZV S w vc c) (hm : Pows S w vm m) (hmay : mayAll p) (hmm : mayM m = true) (hs : szP p) (hsc : szZ c) :
    Calls Tryz.prog 96 #[vp, vc, vm] w fun e w' => ∃ v', e = .returned v' ∧ RTs (Plus S w w') w' v' (putP p c m) ∧ Ext w w' := by
  obtain ⟨i0, hi, hz0, hz1, hz2⟩ := info_parts Tryz.infoT
  have HP := hid hp
  have HM := hid hm
  have HC := hid hc
  have HMY := hid hmay
  have HMM := hid hmm
  have HS := hid hs
  have HSC := hid hsc
  obtain ⟨ap, cp, rfl⟩ := hp.form
  obtain ⟨ac, nc, cc, rfl⟩ := hc.form
  obtain ⟨am, cm, rfl⟩ := hm.form
  have hl := hp.len_le
  clear hp hc hm hmay hmm hs hsc
  obtain ⟨bc, hbc⟩ : ∃ b, b = decide (c < 0) := ⟨_, rfl⟩
  rw [← hbc] at HC ⊢
  have HK := hid (Ext.alloc (Ext.refl w) (.cells #[.bool bc, .slice ac nc cc] 87))
  have HCC := fun (W : World) (hW : Ext (w.alloc (.cells #[.bool bc, .slice ac nc cc] 87)) W) => new2 hW
  have HCC := hid HCC
  have HBZ := hid hbc
  have HDC : Hid (Digs S w (.slice ac nc cc) (rep 10 c.natAbs)) := by
    obtain ⟨vd, e1, e2⟩ := HC.out
    have e3 : Value.slice ac nc cc = vd := by simp at e1; exact e1.2
    rw [e3]
    exact hid e2
  clear hbc
  go_enter Tryz.func96, Tryz.ntmps96
  go_wp2
  go_loopw [7, 8] (fun o v wr => ∃ k xs, k ≤ p.length ∧ v = .int .i64 (k : Nat) ∧ Ext (w.alloc (.cells #[.bool bc, .slice ac nc cc] 87)) wr ∧ Hid (∀ j t, j < k → p[j]? = some t → compareM t.2 m = 1) ∧ Hid (wr.ownsRow (w.heap.size + 1) 89 3 o k xs) ∧ Hid (Cells3 S w xs (p.take k))) (fun _ v _ => p.length - (intOf v).toNat)
  case atStart => exact ⟨0, [], Nat.zero_le _, rfl, Ext.refl _, hid (fun j t hj => by omega), hid (World.ownsRow_nil _ _ _ _), hid rfl⟩
  case round =>
    obtain ⟨k, xs, hk, rfl, hx, HPR, HW, HXS⟩ := hrel
    have HX := hid hx
    by_cases hlt : k < p.length
    · obtain ⟨t, ht⟩ := some_of_lt hlt
      obtain ⟨b, off, vd, vo, rfl, -, hn1, hm1, hSb, h1, h2, h3, h4, h5⟩ := HP.out.cellAt ht
      have HT := hid ht
      have H4 := hid h4
      have H5 := hid h5
      obtain ⟨ad, cd, rfl⟩ := h4.form
      obtain ⟨ao, co, rfl⟩ := h5.form
      have HXW0 := hid (HK.out.trans hx)
      have g1 := HXW0.out.cell h1
      have g2 := HXW0.out.cell h2
      have g3 := HXW0.out.cell h3
      have HTM := hid (HMY.out t (List.mem_of_getElem? ht))
      have HSZT := hid (HS.out.2 t (List.mem_of_getElem? ht))
      have CO := fun (W : World) (hW : Ext w W) => rmono_compare (S := S) _ _ t.2 m W (H5.out.ext hW hS) (HM.out.ext hW hS) (lt_ext hS hW)
      rw [rcmp_eq HTM.out HMM.out] at CO
      obtain ⟨rc, hrc⟩ : ∃ r, compareM t.2 m = r := ⟨_, rfl⟩
      rw [hrc] at CO
      have hcs : rc = 1 ∨ rc = 0 ∨ rc = -1 := by rw [← hrc]; rcases compareM_cases HTM.out HMM.out with h | h | h <;> omega
      have HCO := hid CO
      have HRC := hid hrc
      obtain ⟨bt, hbt⟩ : ∃ b, b = decide (t.1 < 0) := ⟨_, rfl⟩
      obtain ⟨nt, hnt⟩ : ∃ n, n = (rep 10 t.1.natAbs).length := ⟨_, rfl⟩
      rw [← hbt] at g1
      rw [← hnt] at g2 H4
      have HBT := hid hbt
      have HTK : Hid (p.take (k + 1) = p.take k ++ [t]) := hid (by rw [List.take_add_one, ht]; rfl)
      have HSZ0 : Hid (w.heap.size + 1 ≤ wr.heap.size) := hid (by have := hx.size; rw [size_alloc] at this; exact this)
      clear CO hrc hx ht h1 h2 h3 h4 h5 hbt hnt
      rcases hcs with rfl | rfl | rfl
      · go_wp2_with fail
        refine (HCO.out wr HXW0.out).mono ?_
        rintro e w1 ⟨rfl, hx1⟩
        have HX1 := hid (HX.out.trans hx1)
        have HW1 := hid (own_ext HW.out hx1)
        have HSZ1 : Hid (w.heap.size + 1 ≤ w1.heap.size) := hid (Nat.le_trans HSZ0.out hx1.size)
        have k1 := hx1.cell g1
        have k2 := hx1.cell g2
        have k3 := hx1.cell g3
        clear hx1 g1 g2 g3
        go_wp2_with (at_builtin; refine wpList_append_new _ rfl (.tmp 23) (.tmp 28) 36 rfl (w.heap.size + 1) 89 (.agg #[.bool false, .slice none 0 0, .slice none 0 0]) 3 56 Tryz.underlying36 Tryz.infoT rfl (by decide) _ k xs rfl HW1.out #[.bool bt, .slice ad nt cd, .slice ao t.2.length co] rfl (three_cell rfl rfl rfl) rfl (by have := HS.out.1; omega) (by decide) HSZ1.out ?_; intro v2 w2 hown hg _; have HW2 := hid hown; have HX2 := hid (ext_grown HX1.out hg (fun j hj => by have := (HW1.out.lt j hj).1; rw [size_alloc]; exact this)); clear hown hg)
        go_roundw
        case rel =>
          refine ⟨k + 1, xs ++ (#[.bool bt, .slice ad nt cd, .slice ao t.2.length co] : Array Value).toList, by omega, by go_num, HX2.out, hid (fun j u hj hu => ?_), HW2, hid ?_⟩
          · by_cases e : j = k
            · subst e
              have := HT.out.symm.trans hu
              cases this
              exact HRC.out
            · exact HPR.out j u (by omega) hu
          · rw [HTK.out]
            refine HXS.out.append ?_
            rw [HBT.out]
            exact Cells3.single H4.out H5.out
        case measure => simp only [intOf]; omega
      · go_wp2_with fail
        refine (HCO.out wr HXW0.out).mono ?_
        rintro e wa ⟨rfl, hxa⟩
        have HXA := hid (HX.out.trans hxa)
        have k1 := hxa.cell g1
        have k2 := hxa.cell g2
        have k3 := hxa.cell g3
        have HWA := hid (own_ext HW.out hxa)
        clear hxa g1 g2 g3
        go_wp2_with fail
        refine (HCO.out wa (HK.out.trans HXA.out)).mono ?_
        rintro e wb ⟨rfl, hxb⟩
        have HXB := hid (HXA.out.trans hxb)
        have l1 := hxb.cell k1
        have l2 := hxb.cell k2
        have l3 := hxb.cell k3
        have HWB := hid (own_ext HWA.out hxb)
        obtain ⟨c0, c1, f0, f1⟩ := HCC.out wb HXB.out
        have HKB := hid (HK.out.trans HXB.out.drew)
        have CA := zed_add (S := S) _ _ c t.1 wb.drew (HC.out.ext HKB.out hS) (show ZV S wb.drew (.agg #[.bool (decide (t.1 < 0)), .slice ad nt cd]) t.1 from ⟨_, rfl, H4.out.ext HKB.out hS⟩) (lt_ext hS HKB.out) HSC.out HSZT.out
        rw [← HBT.out] at CA
        have HCA := hid CA
        clear hxb k1 k2 k3 CA
        go_wp2
        go_still_tail 6, (by kernel_rfl)
        change wpList _ _ _ _ _ wb.drew
        go_wp2_with fail
        refine HCA.out.mono ?_
        rintro e wc ⟨vs, rfl, hzv, hxc⟩
        obtain ⟨vd2, rfl, hd2⟩ := hzv
        have HD2 := hid hd2
        obtain ⟨aq, cs, rfl⟩ := hd2.form
        obtain ⟨ns, hns⟩ : ∃ n, n = (rep 10 (c + t.1).natAbs).length := ⟨_, rfl⟩
        obtain ⟨bs, hbs⟩ : ∃ b, b = decide (c + t.1 < 0) := ⟨_, rfl⟩
        have HBZ := hid hbs
        rw [← hns] at HD2 ⊢
        rw [← hbs]
        obtain ⟨q0, q1, p0, p1⟩ := HCC.out wc (HXB.out.drew.trans hxc)
        obtain ⟨e0, e1⟩ := two_set (.bool bs) (.slice aq ns cs) q0 q1
        have HWC := hid (own_set (i := 1) (own_set (i := 0) (own_ext HWB.out ((Ext.refl wb).drew.trans hxc)) (Nat.lt_succ_self w.heap.size) (.bool bs)) (Nat.lt_succ_self w.heap.size) (.slice aq ns cs))
        have HSZC : Hid (w.heap.size + 1 ≤ wb.heap.size) := hid (by have := HXB.out.size; rw [size_alloc] at this; exact this)
        have HXC := hid (((HKB.out.trans hxc).setCell (p := ⟨w.heap.size, 0, none⟩) (Nat.le_refl _) (.bool bs)).setCell (p := ⟨w.heap.size, 1, none⟩) (Nat.le_refl _) (.slice aq ns cs))
        have HSZ2 : Hid (w.heap.size + 1 ≤ ((wc.setCell ⟨w.heap.size, 0, none⟩ (.bool bs)).setCell ⟨w.heap.size, 1, none⟩ (.slice aq ns cs)).heap.size) := hid (by rw [size_setCell, size_setCell]; exact Nat.le_trans HSZC.out hxc.size)
        have HDC2 := hid (off_new (wb := wb.drew) (b := w.heap.size) (i := 0) (j := 1) (x := .bool bs) (y := .slice aq ns cs) HD2.out (own_ext HWB.out ((Ext.refl wb).drew)) HSZC.out (Nat.le_trans (Nat.le_succ _) HSZC.out) (S := S) (w := w))
        have HPE := hid (put_same (c := c) HPR.out HT.out HRC.out)
        have HJ : Hid (k + 1 ≤ p.length) := hid hlt
        clear hxc hd2 hns hbs c0 c1
        go_wp2_with fail
        obtain ⟨wz, hwz⟩ : ∃ W, W = (wc.setCell ⟨w.heap.size, 0, none⟩ (.bool bs)).setCell ⟨w.heap.size, 1, none⟩ (.slice aq ns cs) := ⟨_, rfl⟩
        rw [← hwz] at HWC HXC HSZ2 HDC2 e0 e1 ⊢
        have HW := HWC
        have HXW : Hid (Ext w wz) := HXC
        have HSZ := HSZ2
        have HDZ := HDC2
        have c0 := e0
        have c1 := e1
        clear hwz q0 q1 p0 p1 f0 f1 HWC HXC HSZ2 HDC2 e0 e1 HD2
        by_cases hz : c + t.1 = 0
        · have CS := hid (show Calls Tryz.prog 127 #[.agg #[.bool bs, .slice aq ns cs]] wz fun e w' => e = .returned (.int .i64 0) ∧ Ext wz w' from by have h := zed_sign (S := Off S w wz u7) _ (c + t.1) wz ⟨_, rfl, HDZ.out⟩; rw [← HBZ.out, show signI (c + t.1) = 0 by rw [hz]; rfl] at h; exact h)
          have HZ := hid hz
          clear hz
          refine CS.out.mono ?_
          rintro e w1 ⟨rfl, hx1⟩
          have HX1 := hid (HXW.out.trans hx1)
          have HW1 := hid (own_ext HW.out hx1)
          have HSZ1 : Hid (w.heap.size + 1 ≤ w1.heap.size) := hid (Nat.le_trans HSZ.out hx1.size)
          have HD1 := hid (off_ext hS HXW.out HDZ.out hx1)
          clear hx1
          go_wp2_with (first | (refine wpList_slice_from _ rfl (.tmp 65) (.tmp 66) 36 89 rfl Tryz.underlying36 Tryz.infoT (some ⟨b, off, none⟩) p.length cp (k + 1) rfl rfl HJ.out ?_; intro A' hA'; obtain ⟨news, hsrc, hcs⟩ := src_sliced (HP.out.ext HX1.out hS) HJ.out hA'; have HSRC := hid hsrc; have HCS := hid hcs; clear hA' hsrc hcs) | (at_builtin; refine wpList_append_src _ rfl (.tmp 64) (.tmp 67) 36 rfl (w.heap.size + 1) 89 i0 (.agg #[.bool false, .slice none 0 0, .slice none 0 0]) 3 56 Tryz.underlying36 hi hz0 hz1 hz2 rfl (by decide) _ ((k)) xs rfl HW1.out A' (p.length - (k + 1)) _ news rfl HSRC.out (by have := HS.out.1; unfold maxLen; omega) (by have := HS.out.1; omega) HSZ1.out ?_; intro v3 w3 hown hg _; have HW3 := hid hown; have HG3 := hid hg; clear hown hg))
          go_ret
          have hx3 := own_grown HX1.out HW1.out HG3.out
          refine ⟨_, rfl, put_done (w := w) hS (ms := []) (md := []) HXS.out hx3 rfl HCS.out (Kept.grown HG3.out (own_far hS HW1.out HX1.out)) (by simpa using HW3.out) (by rw [HPE.out, midP_zero HZ.out]), hx3⟩
        · have CS := hid (show Calls Tryz.prog 127 #[.agg #[.bool bs, .slice aq ns cs]] wz fun e w' => e = .returned (.int .i64 (signI (c + t.1))) ∧ Ext wz w' from by rw [HBZ.out]; exact zed_sign (S := Off S w wz u7) _ (c + t.1) wz ⟨_, rfl, HDZ.out⟩)
          have hsn := sign_ne hz
          have HZ := hid hz
          clear hz
          refine CS.out.mono ?_
          rintro e w1 ⟨rfl, hx1⟩
          have HX1 := hid (HXW.out.trans hx1)
          have HW1 := hid (own_ext HW.out hx1)
          have HSZ1 : Hid (w.heap.size + 1 ≤ w1.heap.size) := hid (Nat.le_trans HSZ.out hx1.size)
          have HD1 := hid (off_ext hS HXW.out HDZ.out hx1)
          have k0 := hx1.cell c0
          have k1 := hx1.cell c1
          clear hx1
          go_wp2_with (first | (refine wpList_slice_from _ rfl (.tmp 65) (.tmp 66) 36 89 rfl Tryz.underlying36 Tryz.infoT (some ⟨b, off, none⟩) p.length cp (k + 1) rfl rfl HJ.out ?_; intro A' hA'; obtain ⟨news, hsrc, hcs⟩ := src_sliced (HP.out.ext HX2.out hS) HJ.out hA'; have HSRC := hid hsrc; have HCS := hid hcs; clear hA' hsrc hcs) | (first | (at_builtin; refine wpList_append_new _ rfl (.tmp 58) (.tmp 62) 36 rfl (w.heap.size + 1) 89 (.agg #[.bool false, .slice none 0 0, .slice none 0 0]) 3 56 Tryz.underlying36 Tryz.infoT rfl (by decide) _ (k) xs rfl HW1.out #[.bool bs, .slice aq ns cs, .slice am m.length cm] rfl (three_cell rfl rfl rfl) rfl (by have := HS.out.1; omega) (by decide) HSZ1.out ?_; intro v2 w2 hown hg hbk; have HW2 := hid hown; have HG2 := hid hg; have HBK := hid hbk; have HX2 := hid (own_grown HX1.out HW1.out hg); have HSZ2 : Hid (w.heap.size + 1 ≤ w2.heap.size) := hid (Nat.le_trans HSZ1.out hg.size); clear hown hg hbk) | (at_builtin; refine wpList_append_src _ rfl (.tmp 64) (.tmp 67) 36 rfl (w.heap.size + 1) 89 i0 (.agg #[.bool false, .slice none 0 0, .slice none 0 0]) 3 56 Tryz.underlying36 hi hz0 hz1 hz2 rfl (by decide) _ ((k) + 1) (xs ++ (#[.bool bs, .slice aq ns cs, .slice am m.length cm] : Array Value).toList) rfl HW2.out A' (p.length - (k + 1)) _ news rfl HSRC.out (by have := HS.out.1; unfold maxLen; omega) (by have := HS.out.1; omega) HSZ2.out ?_; intro v3 w3 hown hg _; have HW3 := hid hown; have HG3 := hid hg; clear hown hg)))
          go_ret
          have hx3 := own_grown HX2.out HW2.out HG3.out
          have hmid : Cells3 (Plus S w w3) w3 [.bool bs, .slice aq ns cs, .slice am m.length cm] [(c + t.1, m)] := by
            have hd := Digs.to HD1.out (Kept.grown HG2.out (fun j hj => ⟨plus_lt hS HX1.out j hj.1, hj.2⟩)) (fun _ h => h)
            have hd3 := Digs.to hd (Kept.grown HG3.out (fun j hj => ⟨Nat.lt_of_lt_of_le (plus_lt hS HX1.out j hj.1) HG2.out.size, off_still hS HX1.out hj HBK.out⟩)) (S' := Plus S w w3) (fun j hj => plus_grow (Nat.le_trans HG2.out.size HG3.out.size) j hj.1)
            rw [HBZ.out]
            exact Cells3.single (t := (c + t.1, m)) hd3 (HM.out.to (Kept.ext hx3 hS) (fun _ h => .inl h))
          refine ⟨_, rfl, put_done (w := w) hS (ms := [.bool bs, .slice aq ns cs, .slice am m.length cm]) (md := [(c + t.1, m)]) HXS.out hx3 hmid HCS.out (Kept.grown HG3.out (own_far hS HW2.out HX2.out)) HW3.out (by rw [HPE.out, midP_some HZ.out]), hx3⟩
      · go_wp2_with fail
        refine (HCO.out wr HXW0.out).mono ?_
        rintro e wa ⟨rfl, hxa⟩
        have HXA := hid (HX.out.trans hxa)
        have k1 := hxa.cell g1
        have k2 := hxa.cell g2
        have k3 := hxa.cell g3
        have HWA := hid (own_ext HW.out hxa)
        clear hxa g1 g2 g3
        go_wp2_with fail
        refine (HCO.out wa (HK.out.trans HXA.out)).mono ?_
        rintro e wz ⟨rfl, hxb⟩
        have HXB := hid (HXA.out.trans hxb)
        have HW := hid (own_ext HWA.out hxb)
        have HXW := hid (HK.out.trans HXB.out)
        have HSZ : Hid (w.heap.size + 1 ≤ wz.heap.size) := hid (by have := HXB.out.size; rw [size_alloc] at this; exact this)
        obtain ⟨c0, c1, f0, f1⟩ := HCC.out wz HXB.out
        have HDZ := hid (off_old hS HDC.out HXW.out HW.out)
        have HPE := hid (put_here (c := c) HPR.out HT.out (by rw [HRC.out]; decide) (by rw [HRC.out]; decide))
        have HJ : Hid (k ≤ p.length) := hid hk
        clear hxb k1 k2 k3
        by_cases hz : c = 0
        · have CS := hid (show Calls Tryz.prog 127 #[.agg #[.bool bc, .slice ac nc cc]] wz fun e w' => e = .returned (.int .i64 0) ∧ Ext wz w' from by have h := zed_sign (S := Off S w wz u7) _ (c) wz ⟨_, rfl, HDZ.out⟩; rw [← HBZ.out, show signI (c) = 0 by rw [hz]; rfl] at h; exact h)
          have HZ := hid hz
          clear hz
          go_wp2_with fail
          refine CS.out.mono ?_
          rintro e w1 ⟨rfl, hx1⟩
          have HX1 := hid (HXW.out.trans hx1)
          have HW1 := hid (own_ext HW.out hx1)
          have HSZ1 : Hid (w.heap.size + 1 ≤ w1.heap.size) := hid (Nat.le_trans HSZ.out hx1.size)
          have HD1 := hid (off_ext hS HXW.out HDZ.out hx1)
          clear hx1
          go_wp2_with (first | (refine wpList_slice_from _ rfl (.tmp 65) (.tmp 66) 36 89 rfl Tryz.underlying36 Tryz.infoT (some ⟨b, off, none⟩) p.length cp (k) rfl rfl HJ.out ?_; intro A' hA'; obtain ⟨news, hsrc, hcs⟩ := src_sliced (HP.out.ext HX1.out hS) HJ.out hA'; have HSRC := hid hsrc; have HCS := hid hcs; clear hA' hsrc hcs) | (at_builtin; refine wpList_append_src _ rfl (.tmp 64) (.tmp 67) 36 rfl (w.heap.size + 1) 89 i0 (.agg #[.bool false, .slice none 0 0, .slice none 0 0]) 3 56 Tryz.underlying36 hi hz0 hz1 hz2 rfl (by decide) _ ((k)) xs rfl HW1.out A' (p.length - (k)) _ news rfl HSRC.out (by have := HS.out.1; unfold maxLen; omega) (by have := HS.out.1; omega) HSZ1.out ?_; intro v3 w3 hown hg _; have HW3 := hid hown; have HG3 := hid hg; clear hown hg))
          go_ret
          have hx3 := own_grown HX1.out HW1.out HG3.out
          refine ⟨_, rfl, put_done (w := w) hS (ms := []) (md := []) HXS.out hx3 rfl HCS.out (Kept.grown HG3.out (own_far hS HW1.out HX1.out)) (by simpa using HW3.out) (by rw [HPE.out, midP_zero HZ.out]), hx3⟩
        · have CS := hid (show Calls Tryz.prog 127 #[.agg #[.bool bc, .slice ac nc cc]] wz fun e w' => e = .returned (.int .i64 (signI (c))) ∧ Ext wz w' from by rw [HBZ.out]; exact zed_sign (S := Off S w wz u7) _ (c) wz ⟨_, rfl, HDZ.out⟩)
          have hsn := sign_ne hz
          have HZ := hid hz
          clear hz
          go_wp2_with fail
          refine CS.out.mono ?_
          rintro e w1 ⟨rfl, hx1⟩
          have HX1 := hid (HXW.out.trans hx1)
          have HW1 := hid (own_ext HW.out hx1)
          have HSZ1 : Hid (w.heap.size + 1 ≤ w1.heap.size) := hid (Nat.le_trans HSZ.out hx1.size)
          have HD1 := hid (off_ext hS HXW.out HDZ.out hx1)
          have k0 := hx1.cell c0
          have k1 := hx1.cell c1
          clear hx1
          go_wp2_with (first | (refine wpList_slice_from _ rfl (.tmp 65) (.tmp 66) 36 89 rfl Tryz.underlying36 Tryz.infoT (some ⟨b, off, none⟩) p.length cp (k) rfl rfl HJ.out ?_; intro A' hA'; obtain ⟨news, hsrc, hcs⟩ := src_sliced (HP.out.ext HX2.out hS) HJ.out hA'; have HSRC := hid hsrc; have HCS := hid hcs; clear hA' hsrc hcs) | (first | (at_builtin; refine wpList_append_new _ rfl (.tmp 58) (.tmp 62) 36 rfl (w.heap.size + 1) 89 (.agg #[.bool false, .slice none 0 0, .slice none 0 0]) 3 56 Tryz.underlying36 Tryz.infoT rfl (by decide) _ (k) xs rfl HW1.out #[.bool bc, .slice ac nc cc, .slice am m.length cm] rfl (three_cell rfl rfl rfl) rfl (by have := HS.out.1; omega) (by decide) HSZ1.out ?_; intro v2 w2 hown hg hbk; have HW2 := hid hown; have HG2 := hid hg; have HBK := hid hbk; have HX2 := hid (own_grown HX1.out HW1.out hg); have HSZ2 : Hid (w.heap.size + 1 ≤ w2.heap.size) := hid (Nat.le_trans HSZ1.out hg.size); clear hown hg hbk) | (at_builtin; refine wpList_append_src _ rfl (.tmp 64) (.tmp 67) 36 rfl (w.heap.size + 1) 89 i0 (.agg #[.bool false, .slice none 0 0, .slice none 0 0]) 3 56 Tryz.underlying36 hi hz0 hz1 hz2 rfl (by decide) _ ((k) + 1) (xs ++ (#[.bool bc, .slice ac nc cc, .slice am m.length cm] : Array Value).toList) rfl HW2.out A' (p.length - (k)) _ news rfl HSRC.out (by have := HS.out.1; unfold maxLen; omega) (by have := HS.out.1; omega) HSZ2.out ?_; intro v3 w3 hown hg _; have HW3 := hid hown; have HG3 := hid hg; clear hown hg)))
          go_ret
          have hx3 := own_grown HX2.out HW2.out HG3.out
          have hmid : Cells3 (Plus S w w3) w3 [.bool bc, .slice ac nc cc, .slice am m.length cm] [(c, m)] := by
            have hd := Digs.to HD1.out (Kept.grown HG2.out (fun j hj => ⟨plus_lt hS HX1.out j hj.1, hj.2⟩)) (fun _ h => h)
            have hd3 := Digs.to hd (Kept.grown HG3.out (fun j hj => ⟨Nat.lt_of_lt_of_le (plus_lt hS HX1.out j hj.1) HG2.out.size, off_still hS HX1.out hj HBK.out⟩)) (S' := Plus S w w3) (fun j hj => plus_grow (Nat.le_trans HG2.out.size HG3.out.size) j hj.1)
            rw [HBZ.out]
            exact Cells3.single (t := (c, m)) hd3 (HM.out.to (Kept.ext hx3 hS) (fun _ h => .inl h))
          refine ⟨_, rfl, put_done (w := w) hS (ms := [.bool bc, .slice ac nc cc, .slice am m.length cm]) (md := [(c, m)]) HXS.out hx3 hmid HCS.out (Kept.grown HG3.out (own_far hS HW2.out HX2.out)) HW3.out (by rw [HPE.out, midP_some HZ.out]), hx3⟩
    · obtain rfl : k = p.length := by omega
      obtain ⟨c0, c1, f0, f1⟩ := HCC.out wr hx
      have HPE := hid (put_end (c := c) HPR.out rfl)
      have HJ : Hid (p.length ≤ p.length) := hid (Nat.le_refl _)
      have HXW := hid (HK.out.trans hx)
      have HSZ : Hid (w.heap.size + 1 ≤ wr.heap.size) := hid (by have := hx.size; rw [size_alloc] at this; exact this)
      have HDZ := hid (off_old hS HDC.out HXW.out HW.out)
      clear hx
      by_cases hz : c = 0
      · have CS := hid (show Calls Tryz.prog 127 #[.agg #[.bool bc, .slice ac nc cc]] wr fun e w' => e = .returned (.int .i64 0) ∧ Ext wr w' from by have h := zed_sign (S := Off S w wr u7) _ (c) wr ⟨_, rfl, HDZ.out⟩; rw [← HBZ.out, show signI (c) = 0 by rw [hz]; rfl] at h; exact h)
        have HZ := hid hz
        clear hz
        go_wp2_with fail
        refine CS.out.mono ?_
        rintro e w1 ⟨rfl, hx1⟩
        have HX1 := hid (HXW.out.trans hx1)
        have HW1 := hid (own_ext HW.out hx1)
        have HSZ1 : Hid (w.heap.size + 1 ≤ w1.heap.size) := hid (Nat.le_trans HSZ.out hx1.size)
        have HD1 := hid (off_ext hS HXW.out HDZ.out hx1)
        clear hx1
        go_wp2_with (first | (refine wpList_slice_from _ rfl (.tmp 65) (.tmp 66) 36 89 rfl Tryz.underlying36 Tryz.infoT ap p.length cp (p.length) rfl rfl HJ.out ?_; intro A' hA'; obtain ⟨news, hsrc, hcs⟩ := src_sliced (HP.out.ext HX1.out hS) HJ.out hA'; have HSRC := hid hsrc; have HCS := hid hcs; clear hA' hsrc hcs) | (at_builtin; refine wpList_append_src _ rfl (.tmp 64) (.tmp 67) 36 rfl (w.heap.size + 1) 89 i0 (.agg #[.bool false, .slice none 0 0, .slice none 0 0]) 3 56 Tryz.underlying36 hi hz0 hz1 hz2 rfl (by decide) _ ((p.length)) xs rfl HW1.out A' (p.length - (p.length)) _ news rfl HSRC.out (by have := HS.out.1; unfold maxLen; omega) (by have := HS.out.1; omega) HSZ1.out ?_; intro v3 w3 hown hg _; have HW3 := hid hown; have HG3 := hid hg; clear hown hg))
        go_ret
        have hx3 := own_grown HX1.out HW1.out HG3.out
        refine ⟨_, rfl, put_done (w := w) hS (ms := []) (md := []) HXS.out hx3 rfl HCS.out (Kept.grown HG3.out (own_far hS HW1.out HX1.out)) (by simpa using HW3.out) (by rw [HPE.out, midP_zero HZ.out]), hx3⟩
      · have CS := hid (show Calls Tryz.prog 127 #[.agg #[.bool bc, .slice ac nc cc]] wr fun e w' => e = .returned (.int .i64 (signI (c))) ∧ Ext wr w' from by rw [HBZ.out]; exact zed_sign (S := Off S w wr u7) _ (c) wr ⟨_, rfl, HDZ.out⟩)
        have hsn := sign_ne hz
        have HZ := hid hz
        clear hz
        go_wp2_with fail
        refine CS.out.mono ?_
        rintro e w1 ⟨rfl, hx1⟩
        have HX1 := hid (HXW.out.trans hx1)
        have HW1 := hid (own_ext HW.out hx1)
        have HSZ1 : Hid (w.heap.size + 1 ≤ w1.heap.size) := hid (Nat.le_trans HSZ.out hx1.size)
        have HD1 := hid (off_ext hS HXW.out HDZ.out hx1)
        have k0 := hx1.cell c0
        have k1 := hx1.cell c1
        clear hx1
        go_wp2_with (first | (refine wpList_slice_from _ rfl (.tmp 65) (.tmp 66) 36 89 rfl Tryz.underlying36 Tryz.infoT ap p.length cp (p.length) rfl rfl HJ.out ?_; intro A' hA'; obtain ⟨news, hsrc, hcs⟩ := src_sliced (HP.out.ext HX2.out hS) HJ.out hA'; have HSRC := hid hsrc; have HCS := hid hcs; clear hA' hsrc hcs) | (first | (at_builtin; refine wpList_append_new _ rfl (.tmp 58) (.tmp 62) 36 rfl (w.heap.size + 1) 89 (.agg #[.bool false, .slice none 0 0, .slice none 0 0]) 3 56 Tryz.underlying36 Tryz.infoT rfl (by decide) _ (p.length) xs rfl HW1.out #[.bool bc, .slice ac nc cc, .slice am m.length cm] rfl (three_cell rfl rfl rfl) rfl (by have := HS.out.1; omega) (by decide) HSZ1.out ?_; intro v2 w2 hown hg hbk; have HW2 := hid hown; have HG2 := hid hg; have HBK := hid hbk; have HX2 := hid (own_grown HX1.out HW1.out hg); have HSZ2 : Hid (w.heap.size + 1 ≤ w2.heap.size) := hid (Nat.le_trans HSZ1.out hg.size); clear hown hg hbk) | (at_builtin; refine wpList_append_src _ rfl (.tmp 64) (.tmp 67) 36 rfl (w.heap.size + 1) 89 i0 (.agg #[.bool false, .slice none 0 0, .slice none 0 0]) 3 56 Tryz.underlying36 hi hz0 hz1 hz2 rfl (by decide) _ ((p.length) + 1) (xs ++ (#[.bool bc, .slice ac nc cc, .slice am m.length cm] : Array Value).toList) rfl HW2.out A' (p.length - (p.length)) _ news rfl HSRC.out (by have := HS.out.1; unfold maxLen; omega) (by have := HS.out.1; omega) HSZ2.out ?_; intro v3 w3 hown hg _; have HW3 := hid hown; have HG3 := hid hg; clear hown hg)))
        go_ret
        have hx3 := own_grown HX2.out HW2.out HG3.out
        have hmid : Cells3 (Plus S w w3) w3 [.bool bc, .slice ac nc cc, .slice am m.length cm] [(c, m)] := by
          have hd := Digs.to HD1.out (Kept.grown HG2.out (fun j hj => ⟨plus_lt hS HX1.out j hj.1, hj.2⟩)) (fun _ h => h)
          have hd3 := Digs.to hd (Kept.grown HG3.out (fun j hj => ⟨Nat.lt_of_lt_of_le (plus_lt hS HX1.out j hj.1) HG2.out.size, off_still hS HX1.out hj HBK.out⟩)) (S' := Plus S w w3) (fun j hj => plus_grow (Nat.le_trans HG2.out.size HG3.out.size) j hj.1)
          rw [HBZ.out]
          exact Cells3.single (t := (c, m)) hd3 (HM.out.to (Kept.ext hx3 hS) (fun _ h => .inl h))
        refine ⟨_, rfl, put_done (w := w) hS (ms := [.bool bc, .slice ac nc cc, .slice am m.length cm]) (md := [(c, m)]) HXS.out hx3 hmid HCS.out (Kept.grown HG3.out (own_far hS HW2.out HX2.out)) HW3.out (by rw [HPE.out, midP_some HZ.out]), hx3⟩
end Go.Proofs.YthplgldclilccaaGreat

namespace Go.Proofs.YthplgldclilccaaGreat
open Go.RowKit

theorem putP_may {p : PZ} {c : Int} {m : Mono} (hp : mayAll p) (hm : mayM m = true) : mayAll (putP p c m) := fun t ht => by
  rcases putP_mem ht with h | h
  · exact hp t h
  · rw [h]; exact hm
theorem addP_may {p l : PZ} (hp : mayAll p) (hl : mayAll l) : mayAll (addP p l) := by
  induction l generalizing p with
  | nil => exact hp
  | cons t r ih => exact ih (putP_may hp (hl t (by simp))) (fun u hu => hl u (by simp [hu]))
theorem addP_snoc (p l : PZ) (t : Int × Mono) : addP p (l ++ [t]) = putP (addP p l) t.1 t.2 := by
  unfold addP
  rw [List.foldl_append]
  rfl
theorem may_take {l : PZ} (h : mayAll l) (k : Nat) : mayAll (l.take k) := fun t ht => h t (List.mem_of_mem_take ht)
theorem toP_at {ts : List RTerm} {k : Nat} {t : RTerm} (h : ts[k]? = some t) : (toP ts).take (k + 1) = (toP ts).take k ++ [(valI t.c, t.m)] := by
  rw [List.take_add_one]
  unfold toP
  rw [List.getElem?_map, h]
  rfl
theorem plus_plus {S : Nat → Prop} {w w1 w2 : World} (h1 : Ext w w1) (h2 : Ext w1 w2) : ∀ k, Plus (Plus S w w1) w1 w2 k → Plus S w w2 k := fun k hk => by
  rcases hk with (h | h) | h
  · exact .inl h
  · exact .inr ⟨h.1, Nat.lt_of_lt_of_le h.2 h2.size⟩
  · exact .inr ⟨Nat.le_trans h1.size h.1, h.2⟩
theorem new_plus {S : Nat → Prop} {w w1 w2 : World} (h1 : w.heap.size ≤ w1.heap.size) : ∀ k, New w1 w2 k → Plus S w w2 k := fun _k hk => .inr ⟨Nat.le_trans h1 hk.1, hk.2⟩
theorem RTs.later {S : Nat → Prop} {w w1 w2 : World} {v : Value} {p : PZ} (hS : ∀ k, S k → k < w.heap.size) (h : RTs (Plus S w w1) w1 v p) (h1 : Ext w w1) (h2 : Ext w1 w2) : RTs (Plus S w w2) w2 v p :=
  h.to (Kept.ext h2 (plus_lt hS h1)) (plus_grow h2.size)
theorem toP_length (ts : List RTerm) : (toP ts).length = ts.length := by unfold toP; rw [List.length_map]

set_option maxRecDepth 100000 in
set_option maxHeartbeats 8000000 in
theorem rpoly_of {S : Nat → Prop} (v : Value) (ts : List RTerm) (w : World) (h : Terms S w v ts) (hS : ∀ k, S k → k < w.heap.size) (hr : tinyT ts) (hmay : mayAll (toP ts)) (hsz : ∀ k, k ≤ ts.length → szP (addP [] ((toP ts).take k))) :
    Calls Tryz.prog 53 #[v] w fun e w' => ∃ v', e = .returned v' ∧ RTs (Plus S w w') w' v' (normP (toP ts)) ∧ Ext w w' := by
  have hl := h.len_le
  have H := hid h
  have HR := hid hr
  have HMY := hid hmay
  have HSZ := hid hsz
  have HST := hid (fun k (x : RTerm) => toP_at (ts := ts) (k := k) (t := x))
  obtain ⟨P, hP⟩ : ∃ P, P = toP ts := ⟨_, rfl⟩
  rw [← hP] at HMY HSZ ⊢
  have HP := hid hP
  obtain ⟨a, cap, rfl⟩ := h.form
  clear h hr hmay hsz hP
  go_enter Tryz.func53, Tryz.ntmps53
  go_wp2
  go_loopw [3, 4] (fun o i wr => ∃ k : Nat, k ≤ ts.length ∧ i = .int .i64 k ∧ Ext w wr ∧ Hid (RTs (Plus S w wr) wr o (addP [] (P.take k)))) (fun _ i _ => ts.length - (intOf i).toNat)
  case atStart => exact ⟨0, Nat.zero_le _, rfl, Ext.refl _, hid (RTs.nilv _ _ _ _ (by omega))⟩
  case round =>
    obtain ⟨k, hk, rfl, hx, HO⟩ := hrel
    have HX := hid hx
    by_cases hlt : k < ts.length
    · obtain ⟨t, ht⟩ := some_of_lt hlt
      obtain ⟨b, off, vm, vo, rfl, -, hn1, hm1, hSb, h1, h2, h3, h4, h5⟩ := H.out.cellAt ht
      have hsm := HR.out t (List.mem_of_getElem? ht)
      have HTK := hid (HST.out k t ht)
      have HTM : Hid (mayM t.m = true) := hid (HMY.out (valI t.c, t.m) (by rw [HP.out]; exact List.mem_map.2 ⟨t, List.mem_of_getElem? ht, rfl⟩))
      have HV : Hid (szZ (valI t.c)) := hid (szZ_of h4.lt hsm)
      obtain ⟨⟨ng, zs⟩, m⟩ := t
      simp only at h1 h2 h3 h4 h5 hsm HTM HV HTK
      have H4 := hid h4
      have H5 := hid h5
      obtain ⟨am, cm, rfl⟩ := h4.form
      obtain ⟨ao, co, rfl⟩ := h5.form
      have x0 : Ext w wr.drew := hx.drew
      have HX0 := hid x0
      have S0 : _ ∧ _ ∧ _ := And.intro (x0.cell h1) (And.intro (x0.cell h2) (x0.cell h3))
      have C1 := hid (zed_of (S := S) _ ⟨ng, zs⟩ wr.drew (intV_mk (H4.out.ext x0 hS)) (lt_ext hS x0) hsm)
      clear ht h1 h2 h3 h4 h5 hx hsm x0
      go_wp2
      go_region_held3 (fun W => W.cell? ⟨b, off + k * 3, none⟩ = some (.bool ng) ∧ W.cell? ⟨b, off + k * 3 + 1, none⟩ = some (.slice am zs.length cm) ∧ W.cell? ⟨b, off + k * 3 + 2, none⟩ = some (.slice ao m.length co)) (first | exact S0 | exact S1 | exact S2)
        (first
          | (go_at_call 99; (with_reducible refine C1.out.mono ?_); rintro e w1 ⟨v1, rfl, hz1, hx1⟩; have S1 : _ ∧ _ ∧ _ := And.intro (hx1.cell S0.1) (And.intro (hx1.cell S0.2.1) (hx1.cell S0.2.2)); have HX1 : Hid (Ext w w1) := hid (HX0.out.trans hx1); have C2 := hid (rpoly_put (S := Plus S w w1) _ _ _ (addP [] (P.take k)) (valI ⟨ng, zs⟩) m w1 (plus_lt hS HX1.out) (RTs.later hS HO.out HX.out (((Ext.refl wr).drew).trans hx1)) (hz1.to (Kept.refl _ _) (new_plus HX0.out.size)) ((H5.out.ext HX1.out hS).to (Kept.refl _ _) (fun _ h => .inl h)) (addP_may (p := []) canP_nil.may (may_take HMY.out k)) HTM.out (HSZ.out k hk) HV.out); clear hx1 hz1)
          | (go_at_call 96; (with_reducible refine C2.out.mono ?_); rintro e w2 ⟨v2, rfl, hp2, hx2⟩; have S2 : _ ∧ _ ∧ _ := And.intro (hx2.cell S1.1) (And.intro (hx2.cell S1.2.1) (hx2.cell S1.2.2)); have HX2 := hid (HX1.out.trans hx2); have HP2 := hid (hp2.to (Kept.refl _ _) (plus_plus HX1.out hx2)); clear hx2 hp2))
      go_wp2
      go_roundw
      case rel => exact ⟨k + 1, by omega, by go_num, HX2.out, hid (by rw [HP.out, HTK.out, addP_snoc, ← HP.out]; exact HP2.out)⟩
      case measure => simp only [intOf]; omega
    · obtain rfl : k = ts.length := by omega
      have HE : Hid (addP [] (P.take ts.length) = normP P) := hid (by rw [List.take_of_length_le (by rw [HP.out, toP_length]; exact Nat.le_refl _)]; rfl)
      clear hx
      go_wp2
      all_goals
        go_ret
        exact ⟨_, rfl, by rw [← HE.out]; exact HO.out, HX.out⟩

set_option maxRecDepth 100000 in
set_option maxHeartbeats 8000000 in
theorem rpoly_add {S : Nat → Prop} (vp vq : Value) (p q : PZ) (w : World) (hS : ∀ k, S k → k < w.heap.size) (hp : RTs S w vp p) (hq : RTs S w vq q) (hmp : mayAll p) (hmq : mayAll q) (hszq : szP q) (hsz : ∀ k, k ≤ q.length → szP (addP p (q.take k))) :
    Calls Tryz.prog 45 #[vp, vq] w fun e w' => ∃ v', e = .returned v' ∧ RTs (Plus S w w') w' v' (addP p q) ∧ Ext w w' := by
  have hl := hq.len_le
  have HP := hid hp
  have HQ := hid hq
  have HMP := hid hmp
  have HMQ := hid hmq
  have HZQ := hid hszq
  have HSZ := hid hsz
  obtain ⟨ap, cp, rfl⟩ := hp.form
  obtain ⟨aq, cq, rfl⟩ := hq.form
  clear hp hq hmp hmq hszq hsz
  go_enter Tryz.func45, Tryz.ntmps45
  go_wp2
  go_loopw [5, 6] (fun o i wr => ∃ k : Nat, k ≤ q.length ∧ i = .int .i64 k ∧ Ext w wr ∧ Hid (RTs (Plus S w wr) wr o (addP p (q.take k)))) (fun _ i _ => q.length - (intOf i).toNat)
  case atStart => exact ⟨0, Nat.zero_le _, rfl, Ext.refl _, hid (HP.out.to (Kept.refl _ _) (fun _ h => .inl h))⟩
  case round =>
    obtain ⟨k, hk, rfl, hx, HO⟩ := hrel
    have HX := hid hx
    by_cases hlt : k < q.length
    · obtain ⟨t, ht⟩ := some_of_lt hlt
      obtain ⟨b, off, vd, vo, rfl, -, hn1, hm1, hSb, h1, h2, h3, h4, h5⟩ := HQ.out.cellAt ht
      have HTK : Hid (q.take (k + 1) = q.take k ++ [t]) := hid (by rw [List.take_add_one, ht]; rfl)
      have HTM := hid (HMQ.out t (List.mem_of_getElem? ht))
      have HV := hid (HZQ.out.2 t (List.mem_of_getElem? ht))
      have H4 := hid h4
      have H5 := hid h5
      obtain ⟨am, cm, rfl⟩ := h4.form
      obtain ⟨ao, co, rfl⟩ := h5.form
      have x0 : Ext w wr.drew := hx.drew
      have HX0 := hid x0
      have S0 : _ ∧ _ ∧ _ := And.intro (x0.cell h1) (And.intro (x0.cell h2) (x0.cell h3))
      have c2 := rpoly_put (S := Plus S w wr.drew) _ _ _ (addP p (q.take k)) t.1 t.2 wr.drew (plus_lt hS x0) (RTs.later hS HO.out HX.out ((Ext.refl wr).drew)) (show ZV (Plus S w wr.drew) wr.drew (.agg #[.bool (decide (t.1 < 0)), .slice am (rep 10 t.1.natAbs).length cm]) t.1 from ⟨_, rfl, H4.out.to (Kept.ext HX0.out hS) (fun _ h => .inl h)⟩) (H5.out.to (Kept.ext HX0.out hS) (fun _ h => .inl h)) (addP_may HMP.out (may_take HMQ.out k)) HTM.out (HSZ.out k hk) HV.out
      obtain ⟨bt, hbt⟩ : ∃ b, b = decide (t.1 < 0) := ⟨_, rfl⟩
      obtain ⟨nt, hnt⟩ : ∃ n, n = (rep 10 t.1.natAbs).length := ⟨_, rfl⟩
      obtain ⟨nm, hnm⟩ : ∃ n, n = t.2.length := ⟨_, rfl⟩
      rw [← hbt, ← hnt, ← hnm] at S0
      rw [← hbt, ← hnt, ← hnm] at c2
      have C2 := hid c2
      clear ht h1 h2 h3 h4 h5 hx x0 c2 H4 H5 hbt hnt hnm
      go_wp2
      go_region_held3 (fun W => W.cell? ⟨b, off + k * 3, none⟩ = some (.bool bt) ∧ W.cell? ⟨b, off + k * 3 + 1, none⟩ = some (.slice am nt cm) ∧ W.cell? ⟨b, off + k * 3 + 2, none⟩ = some (.slice ao nm co)) (first | exact S0 | exact S2)
        (first
          | (go_at_call 96; (with_reducible refine C2.out.mono ?_); rintro e w2 ⟨v2, rfl, hp2, hx2⟩; have S2 : _ ∧ _ ∧ _ := And.intro (hx2.cell S0.1) (And.intro (hx2.cell S0.2.1) (hx2.cell S0.2.2)); have HX2 := hid (HX0.out.trans hx2); have HP2 := hid (hp2.to (Kept.refl _ _) (plus_plus HX0.out hx2)); clear hx2 hp2))
      go_wp2
      go_roundw
      case rel => exact ⟨k + 1, by omega, by go_num, HX2.out, hid (by rw [HTK.out, addP_snoc]; exact HP2.out)⟩
      case measure => simp only [intOf]; omega
    · obtain rfl : k = q.length := by omega
      have HE : Hid (addP p (q.take q.length) = addP p q) := hid (by rw [List.take_length])
      clear hx
      go_wp2
      all_goals
        go_ret
        exact ⟨_, rfl, by rw [← HE.out]; exact HO.out, HX.out⟩
end Go.Proofs.YthplgldclilccaaGreat

namespace Go.Proofs.YthplgldclilccaaGreat
open Go.RowKit

section
variable {P : Program}
/-- an append inside a region that draws its order -/
theorem step_append_src {w : World} {ops : Array Oper} {o : Oper} {a : Act} {K : Act → World → Prop} {Q : Exit → Act → World → Prop} {E : Prop} (hgd : o.guard = none) (s x : Operand) (t : TypeId)
    (ho : o.op = .call { callee := .builtin .append, args := #[s, x], argTypes := #[t, t] })
    (base : Nat) (e : TypeId) (i : TypeInfo) (z : Value) (size bytes : Nat) (ht : P.underlying t = some (.slice e)) (hi : P.info? e = some i) (hz : i.zero = some z)
    (hsize : i.size = size) (hby : i.bytes = bytes) (hzs : z.cells.size = size) (hsz : 0 < size)
    (v : Value) (n : Nat) (xs : List Value) (hs : a.eval s = v) (hown : w.ownsRow base e size v n xs)
    (A : Option Addr) (m c : Nat) (news : List Value) (hx : a.eval x = .slice A m c) (hsrc : SrcAt w A m size news)
    (h63 : n + m ≤ maxLen) (hbytes : (n + m) * bytes ≤ 140737488355328) (hbase : base ≤ w.heap.size)
    (h : ∀ v' w', w'.ownsRow base e size v' (n + m) (xs ++ news) → w.grownBy w' v.ownBlock → (v'.ownBlock = v.ownBlock ∨ v'.ownBlock = some w.heap.size) → K (a.put o.dst v') w') :
    if Region.wanted o (yielded ops a.tmps) = true then Oper.wp P o a w K Q else E := by
  have hw : Region.wanted o (yielded ops a.tmps) = true := by simp [Region.wanted, hgd]
  rw [if_pos hw]
  obtain ⟨v', w', hrun, h2, h3, h4⟩ := run_append_src (P := P) w base t o.type e i z size bytes ht hi hz hsize hby hzs hsz v n xs hown A m c news hsrc h63 hbytes hbase
  unfold Oper.wp execOp
  simp only [ho, resolve, invoke, builtin, Sem.run_bind, Sem.run_pure, Result.andThen_ok, List.map_toArray, List.map_cons, List.map_nil, hs, hx, hrun]
  exact h v' w' h2 h3 h4
end

theorem Terms.nilv (S : Nat → Prop) (w : World) (a : Option Addr) (cap : Nat) (h : cap ≤ 9223372036854775807) : Terms S w (.slice a 0 cap) [] :=
  ⟨0, 0, ⟨a, cap, rfl, Nat.zero_le _, h, fun h => absurd h (Nat.lt_irrefl 0), fun h => absurd h (Nat.lt_irrefl 0)⟩, fun j t hj => by simp at hj⟩

/-- the cells of the terms of a slice -/
def CellsT (S : Nat → Prop) (w : World) : List Value → List RTerm → Prop
  | xs, [] => xs = []
  | xs, t :: r => ∃ vd vo ys, xs = .bool t.c.neg :: vd :: vo :: ys ∧ U32s S w vd t.c.mag ∧ Pows S w vo t.m ∧ CellsT S w ys r
section
variable {S S' : Nat → Prop} {w w' : World}
theorem CellsT.append {xs ys : List Value} {p q : List RTerm} (h : CellsT S w xs p) (k : CellsT S w ys q) : CellsT S w (xs ++ ys) (p ++ q) := by
  induction p generalizing xs with
  | nil =>
    have e : xs = [] := h
    subst e
    exact k
  | cons t r ih =>
    obtain ⟨vd, vo, zs, rfl, h1, h2, h3⟩ := h
    exact ⟨vd, vo, zs ++ ys, rfl, h1, h2, ih h3⟩
theorem CellsT.to {xs : List Value} {p : List RTerm} (h : CellsT S w xs p) (hk : Kept S w w') (hS : ∀ k, S k → S' k) : CellsT S' w' xs p := by
  induction p generalizing xs with
  | nil => exact h
  | cons t r ih =>
    obtain ⟨vd, vo, zs, rfl, h1, h2, h3⟩ := h
    exact ⟨vd, vo, zs, rfl, h1.to hk hS, h2.to hk hS, ih h3⟩
theorem CellsT.length {xs : List Value} {p : List RTerm} (h : CellsT S w xs p) : xs.length = p.length * 3 := by
  induction p generalizing xs with
  | nil =>
    have e : xs = [] := h
    subst e
    rfl
  | cons t r ih =>
    obtain ⟨vd, vo, zs, rfl, h1, h2, h3⟩ := h
    simp only [List.length_cons, ih h3]
    omega
theorem CellsT.get {xs : List Value} {p : List RTerm} (h : CellsT S w xs p) {j : Nat} {t : RTerm} (ht : p[j]? = some t) :
    ∃ vd vo, xs[j * 3]? = some (.bool t.c.neg) ∧ xs[j * 3 + 1]? = some vd ∧ xs[j * 3 + 2]? = some vo ∧ U32s S w vd t.c.mag ∧ Pows S w vo t.m := by
  induction p generalizing xs j with
  | nil => simp at ht
  | cons u r ih =>
    obtain ⟨vd, vo, zs, rfl, h1, h2, h3⟩ := h
    cases j with
    | zero =>
      obtain rfl : u = t := by simpa using ht
      exact ⟨vd, vo, rfl, rfl, rfl, h1, h2⟩
    | succ j =>
      obtain ⟨vd', vo', g⟩ := ih h3 (j := j) (by simpa using ht)
      refine ⟨vd', vo', ?_⟩
      rw [show (j + 1) * 3 = j * 3 + 1 + 1 + 1 by omega]
      simpa using g
theorem CellsT.one {xs : List Value} {p : List RTerm} (h : CellsT S w xs p) : ∀ u ∈ xs, u.oneCell' = true := by
  induction p generalizing xs with
  | nil =>
    have e : xs = [] := h
    subst e
    intro u hu
    simp at hu
  | cons t r ih =>
    obtain ⟨vd, vo, zs, rfl, h1, h2, h3⟩ := h
    intro u hu
    simp only [List.mem_cons] at hu
    rcases hu with rfl | rfl | rfl | hu
    · rfl
    · obtain ⟨a, c, rfl⟩ := h1.form; rfl
    · obtain ⟨a, c, rfl⟩ := h2.form; rfl
    · exact ih h3 u hu
theorem CellsT.single {vd vo : Value} {t : RTerm} (h1 : U32s S w vd t.c.mag) (h2 : Pows S w vo t.m) : CellsT S w [.bool t.c.neg, vd, vo] [t] := ⟨vd, vo, [], rfl, h1, h2, rfl⟩
end

theorem own_terms {S : Nat → Prop} {w : World} {base : Nat} {e : TypeId} {v : Value} {xs : List Value} {p : List RTerm} (h : w.ownsRow base e 3 v p.length xs) (hc : CellsT S w xs p) (hB : ∀ k, base ≤ k → k < w.heap.size → S k) : Terms S w v p := by
  have hlt := h.lt
  rcases h.2 with ⟨rfl, h0⟩ | ⟨g, cap, cur, rfl, hg, hh, h1, h2, h3, h4⟩
  · obtain rfl : p = [] := List.length_eq_zero_iff.1 h0
    exact Terms.nilv _ _ _ _ (by omega)
  · refine ⟨g, 0, ⟨_, cap, rfl, h1, h2, fun _ => rfl, fun _ => hB g (hlt g rfl).1 (hlt g rfl).2⟩, fun j t hj => ?_⟩
    obtain ⟨vd, vo, g1, g2, g3, g4, g5⟩ := hc.get hj
    have hb := lt_of_some hj
    refine ⟨vd, vo, ?_, ?_, ?_, g4, g5⟩
    · rw [h.cellAt (0 + j * 3) (by omega), Nat.zero_add]
      exact g1
    · rw [h.cellAt (0 + j * 3 + 1) (by omega), Nat.zero_add]
      exact g2
    · rw [h.cellAt (0 + j * 3 + 2) (by omega), Nat.zero_add]
      exact g3

theorem Tryz.infoTerm : (Tryz.prog.info? 76).map (fun i => (i.zero, i.size, i.bytes)) = some (some (.agg #[.bool false, .slice none 0 0, .slice none 0 0]), 3, 56) := by kernel_rfl
section
variable {w w1 w2 : World} {o : Value} {e : TypeId} {size n : Nat} {xs : List Value}
theorem own_grown0 (hx : Ext w w1) (ho : w1.ownsRow w.heap.size e size o n xs) (hg : w1.grownBy w2 o.ownBlock) : Ext w w2 := ext_grown hx hg (fun k hk => (ho.lt k hk).1)
end
theorem ofP_at {p : PZ} {k : Nat} {t : Int × Mono} (h : p[k]? = some t) : ofP (p.take (k + 1)) = ofP (p.take k) ++ [⟨ofI t.1, t.2⟩] := by
  rw [List.take_add_one, h]
  unfold ofP
  rw [List.map_append]
  rfl
theorem ofP_length (p : PZ) : (ofP p).length = p.length := by unfold ofP; rw [List.length_map]
/-- new blocks but that of a slice -/
abbrev NewOff (w w1 : World) (o : Value) : Nat → Prop := fun k => New w w1 k ∧ some k ≠ o.ownBlock
theorem newOff_ext {w w1 w2 : World} {o : Value} {xs : List Value} {l : List RTerm} (h : CellsT (NewOff w w1 o) w1 xs l) (hx : Ext w1 w2) : CellsT (NewOff w w2 o) w2 xs l :=
  h.to (Kept.ext hx (fun _ h => h.1.2)) (fun _ h => ⟨⟨h.1.1, Nat.lt_of_lt_of_le h.1.2 hx.size⟩, h.2⟩)
theorem newOff_grown {w w2 w3 : World} {o v3 : Value} {xs : List Value} {l : List RTerm} {B : Nat} (h : CellsT (NewOff w w2 o) w2 xs l) (hg : w2.grownBy w3 o.ownBlock) (hb : v3.ownBlock = o.ownBlock ∨ v3.ownBlock = some B) (hB : w2.heap.size ≤ B) : CellsT (NewOff w w3 v3) w3 xs l :=
  h.to (Kept.grown hg (fun _ h => ⟨h.1.2, h.2⟩)) (fun k hk => ⟨⟨hk.1.1, Nat.lt_of_lt_of_le hk.1.2 hg.size⟩, by
    rcases hb with e | e
    · rw [e]; exact hk.2
    · rw [e]
      intro e2
      have e3 : k = B := Option.some.inj e2
      have := hk.1.2
      omega⟩)
/-- a term that was made behind a slice -/
theorem newOff_of {w w0 w1 : World} {o : Value} {e : TypeId} {size n : Nat} {xs : List Value} {l : List RTerm} {ys : List Value} (h0 : w.heap.size ≤ w0.heap.size) (ho : w0.ownsRow w.heap.size e size o n ys) (h : CellsT (New w0 w1) w1 xs l) : CellsT (NewOff w w1 o) w1 xs l :=
  h.to (Kept.refl _ _) (fun k hk => ⟨⟨Nat.le_trans h0 hk.1, hk.2⟩, fun e => by
    have := (ho.lt k e.symm).2
    have := hk.1
    omega⟩)

/-- one element in a block of its own, as a source -/
theorem src_one (w : World) (cs : Array Value) (e : TypeId) {size : Nat} (h1 : ∀ u ∈ cs.toList, u.oneCell' = true) (hs : cs.size = size) : SrcAt (w.alloc (.cells cs e)) (some ⟨w.heap.size, 0, none⟩) 1 size cs.toList :=
  ⟨by simpa using hs, h1, fun _ => ⟨_, rfl, fun j u hu => by
    rw [add_off, Nat.zero_add]
    exact cell_new w cs e rfl (by simpa using hu)⟩⟩
/-- a copy of powers, just made -/
theorem copy_done {w1 w3 : World} {v : Value} {n : Nat} {m : Mono} {e : TypeId} (h : w3.ownsRow w1.heap.size e 2 v (0 + n) ([] ++ flatP m)) (hn : n = m.length) (hb : inBounds m) : ∃ a c, v = .slice a n c ∧ Pows (New w1 w3) w3 v m := by
  subst hn
  rw [Nat.zero_add, List.nil_append] at h
  have hp := own_pows h hb
  obtain ⟨a, c, rfl⟩ := hp.form
  exact ⟨a, c, rfl, hp⟩
theorem copy_ext {w1 w3 : World} {cs : Array Value} {e : TypeId} (hg : (w1.alloc (.cells cs e)).grownBy w3 (some w1.heap.size)) : Ext w1 w3 :=
  ext_grown (Ext.alloc (Ext.refl w1) _) hg (fun k hk => by
    have : w1.heap.size = k := Option.some.inj hk
    omega)

theorem copy_late {wr w1 w3 : World} (hx : Ext wr w1) (hg : w1.grownBy w3 (some wr.heap.size)) : Ext wr w3 :=
  ext_grown hx hg (fun k hk => by
    have : wr.heap.size = k := Option.some.inj hk
    omega)
theorem late_u32s {wr w1 w3 : World} {o : Obj} {v : Value} {zs : List Nat} (h : U32s (New (wr.alloc o) w1) w1 v zs) (hg : w1.grownBy w3 (some wr.heap.size)) : U32s (New wr w3) w3 v zs := by
  have hne : ∀ k, New (wr.alloc o) w1 k → wr.heap.size + 1 ≤ k := fun k hk => by have := hk.1; rw [size_alloc] at this; exact this
  exact h.to (Kept.grown hg (fun k hk => ⟨hk.2, fun e => by
    have e2 : k = wr.heap.size := Option.some.inj e
    have := hne k hk
    omega⟩)) (fun k hk => ⟨by have := hne k hk; omega, Nat.lt_of_lt_of_le hk.2 hg.size⟩)

set_option maxRecDepth 100000 in
set_option maxHeartbeats 8000000 in
theorem rpoly_poly {S : Nat → Prop} (v : Value) (p : PZ) (w : World) (h : RTs S w v p) (hS : ∀ k, S k → k < w.heap.size) (hsz : szP p) (hml : ∀ t ∈ p, t.2.length ≤ 1000000) :
    Calls Tryz.prog 17 #[v] w fun e w' => ∃ v', e = .returned v' ∧ Terms (New w w') w' v' (ofP p) ∧ Ext w w' := by
  obtain ⟨i0, hi, hz0, hz1, hz2⟩ := info_parts Tryz.infoPower
  obtain ⟨j0, hj, jz0, jz1, jz2⟩ := info_parts Tryz.infoTerm
  have hl := h.len_le
  have H := hid h
  have HSZ := hid hsz
  have HML := hid hml
  obtain ⟨a, cap, rfl⟩ := h.form
  clear h hsz hml
  go_enter Tryz.func17, Tryz.ntmps17
  go_wp2
  go_loopw [3, 4] (fun o i wr => ∃ k xs, k ≤ p.length ∧ i = .int .i64 (k : Nat) ∧ Ext w wr ∧ Hid (wr.ownsRow w.heap.size 76 3 o k xs) ∧ Hid (CellsT (NewOff w wr o) wr xs (ofP (p.take k)))) (fun _ i _ => p.length - (intOf i).toNat)
  case atStart => exact ⟨0, [], Nat.zero_le _, rfl, Ext.refl _, hid (World.ownsRow_nil _ _ _ _), hid rfl⟩
  case round =>
    obtain ⟨k, xs, hk, rfl, hx, HW, HXS⟩ := hrel
    have HX := hid hx
    by_cases hlt : k < p.length
    · obtain ⟨t, ht⟩ := some_of_lt hlt
      obtain ⟨b, off, vd, vo, rfl, -, hn1, hm1, hSb, h1, h2, h3, h4, h5⟩ := H.out.cellAt ht
      have HT := hid (ofP_at ht)
      have HTM := hid (HML.out t (List.mem_of_getElem? ht))
      have HTZ := hid (HSZ.out.2 t (List.mem_of_getElem? ht))
      have H4 := hid h4
      have H5 := hid h5
      have HIB := hid h5.inBounds
      obtain ⟨ad, cd, rfl⟩ := h4.form
      obtain ⟨ao, co, rfl⟩ := h5.form
      have x0 : Ext w wr.drew := hx.drew
      have HX0 := hid x0
      have HXR := hid ((Ext.refl wr).drew)
      have h0 : _ ∧ _ ∧ _ := And.intro h1 (And.intro h2 h3)
      have c1 := fun (W : World) (hW : Ext wr.drew W) => zed_int (S := S) _ t.1 W (show ZV S W (.agg #[.bool (decide (t.1 < 0)), .slice ad (rep 10 t.1.natAbs).length cd]) t.1 from ⟨_, rfl, H4.out.ext (HX0.out.trans hW) hS⟩) (lt_ext hS (HX0.out.trans hW)) HTZ.out
      obtain ⟨bt, hbt⟩ : ∃ b, b = decide (t.1 < 0) := ⟨_, rfl⟩
      obtain ⟨nt, hnt⟩ : ∃ n, n = (rep 10 t.1.natAbs).length := ⟨_, rfl⟩
      obtain ⟨nm, hnm⟩ : ∃ n, n = t.2.length := ⟨_, rfl⟩
      have HNM := hid hnm
      rw [← hbt, ← hnt, ← hnm] at h0
      rw [← hbt, ← hnt] at c1
      rw [← hnm] at H5
      have HC0 := hid h0
      have S0 : _ ∧ _ ∧ _ := And.intro (x0.cell h0.1) (And.intro (x0.cell h0.2.1) (x0.cell h0.2.2))
      have C1 := hid c1
      have HB1 : Hid (0 + nm ≤ maxLen) := hid (by have := HTM.out; rw [← hnm] at this; unfold maxLen; omega)
      have HB2 : Hid ((0 + nm) * 16 ≤ 140737488355328) := hid (by have := HTM.out; rw [← hnm] at this; omega)
      have HB3 : Hid (k + 1 ≤ maxLen) := hid (by have := HSZ.out.1; unfold maxLen; omega)
      have HB4 : Hid ((k + 1) * 56 ≤ 140737488355328) := hid (by have := HSZ.out.1; omega)
      have HM0 : Hid (0 ≤ maxLen) := hid (Nat.zero_le _)
      have HWR := hid (own_ext HW.out HXR.out)
      have HXSR := hid (newOff_ext HXS.out HXR.out)
      clear ht h0 h1 h2 h3 h4 h5 hx x0 c1 hbt hnt hnm
      go_wp2
      go_region_held3 (fun W => W.cell? ⟨b, off + k * 3, none⟩ = some (.bool bt) ∧ W.cell? ⟨b, off + k * 3 + 1, none⟩ = some (.slice ad nt cd) ∧ W.cell? ⟨b, off + k * 3 + 2, none⟩ = some (.slice ao nm co)) (first | exact S0 | exact ⟨cell_old _ S0.1, cell_old _ S0.2.1, cell_old _ S0.2.2⟩ | exact S1 | exact ⟨cell_old _ S1.1, cell_old _ S1.2.1, cell_old _ S1.2.2⟩ | exact S3 | exact ⟨cell_old _ S3.1, cell_old _ S3.2.1, cell_old _ S3.2.2⟩ | exact S5)
        (first
          | (go_at_call 57; refine (C1.out _ ?_).mono ?_; · exact Ext.refl _
             rintro e w1 ⟨v1, rfl, hz1, hx1⟩; have HX1 := hid hx1; have HXW1 : Hid (Ext w w1) := hid (HX0.out.trans hx1); have S1 : _ ∧ _ ∧ _ := And.intro (HXW1.out.cell HC0.out.1) (And.intro (HXW1.out.cell HC0.out.2.1) (HXW1.out.cell HC0.out.2.2))
             obtain ⟨vm, rfl, hu1⟩ := hz1; have HU1 := hid hu1; obtain ⟨am, cm, rfl⟩ := hu1.form; obtain ⟨ng, hng⟩ : ∃ b, b = (ofI t.1).neg := ⟨_, rfl⟩; obtain ⟨nl, hnl⟩ : ∃ b, b = (ofI t.1).mag.length := ⟨_, rfl⟩; rw [← hng, ← hnl]; rw [← hnl] at HU1; have HNG := hid hng; have HNL := hid hnl
             have HOA := hid (World.ownsRow_made (base := w1.heap.size) (e := 104) (size := 2) w1 #[] 0 (Nat.le_refl _) HM0.out rfl); have HSRC1 := hid ((Pows.ext' H5.out (HXW1.out.alloc (.cells #[] 104)) hS).src.2); have HBS := hid (World.grownBy_alloc w1 (.cells #[] 104) none).size; clear hx1 hu1 hng hnl)
          | (go_at_call 57; refine (C1.out _ ?_).mono ?_; · exact Ext.alloc (Ext.refl _) _
             rintro e w1 ⟨v1, rfl, hz1, hx1⟩; have HX1 : Hid (Ext (wr.drew.alloc (.cells #[] 104)) w1) := hid hx1; have HXR1 := hid ((Ext.alloc (Ext.refl wr.drew) (.cells #[] 104)).trans hx1); have HXW1 : Hid (Ext w w1) := hid (HX0.out.trans HXR1.out); have S1 : _ ∧ _ ∧ _ := And.intro (HXW1.out.cell HC0.out.1) (And.intro (HXW1.out.cell HC0.out.2.1) (HXW1.out.cell HC0.out.2.2))
             obtain ⟨vm, rfl, hu1⟩ := hz1; have HU1 : Hid (U32s (New (wr.drew.alloc (.cells #[] 104)) w1) w1 vm (ofI t.1).mag) := hid hu1; obtain ⟨am, cm, rfl⟩ := hu1.form; obtain ⟨ng, hng⟩ : ∃ b, b = (ofI t.1).neg := ⟨_, rfl⟩; obtain ⟨nl, hnl⟩ : ∃ b, b = (ofI t.1).mag.length := ⟨_, rfl⟩; rw [← hng, ← hnl]; rw [← hnl] at HU1; have HNG := hid hng; have HNL := hid hnl
             have HOB := hid (own_ext (World.ownsRow_made (base := wr.heap.size) (e := 104) (size := 2) wr.drew #[] 0 (Nat.le_refl _) HM0.out rfl) hx1); have HSRC1 := hid ((Pows.ext' H5.out HXW1.out hS).src.2); have HBS := hid HXR1.out.size; clear hx1 hu1 hng hnl)
          | (refine step_append_src rfl (.tmp 18) (.tmp 23) 74 rfl w1.heap.size 104 i0 (.agg #[.int .i64 0, .int .i64 0]) 2 16 Tryz.underlying74 hi hz0 hz1 hz2 rfl (Nat.succ_pos _) (.slice (some ⟨w1.heap.size, 0, none⟩) 0 0) 0 [] rfl HOA.out ao nm co (flatP t.2) rfl HSRC1.out HB1.out HB2.out HBS.out ?_; intro v3 w3 hown hg _; obtain ⟨a3, c3, rfl, hp3⟩ := copy_done hown HNM.out HIB.out; have hx3 := copy_ext hg; have HXR3 : Hid (Ext wr.drew w3) := hid (HX1.out.trans hx3); have HP3 : Hid (Pows (New wr.drew w3) w3 (.slice a3 nm c3) t.2) := hid (hp3.to (Kept.refl _ _) (fun k h => ⟨Nat.le_trans HX1.out.size h.1, h.2⟩)); have HU3 : Hid (U32s (New wr.drew w3) w3 (.slice am nl cm) (ofI t.1).mag) := hid (HU1.out.to (Kept.ext hx3 (fun _ h => h.2)) (fun k h => ⟨h.1, Nat.lt_of_lt_of_le h.2 hx3.size⟩)); clear hx3 hown hg hp3; have HXW3 : Hid (Ext w w3) := hid (HX0.out.trans HXR3.out); have S3 : _ ∧ _ ∧ _ := And.intro (HXW3.out.cell HC0.out.1) (And.intro (HXW3.out.cell HC0.out.2.1) (HXW3.out.cell HC0.out.2.2)); have HW3 := hid (own_ext (own_ext HWR.out HXR3.out) (Ext.alloc (Ext.refl w3) (.cells #[.bool ng, .slice am nl cm, .slice a3 nm c3] 76))); have HXS3 := hid (newOff_ext HXSR.out HXR3.out); have HSRC3 := hid (src_one w3 #[.bool ng, .slice am nl cm, .slice a3 nm c3] 76 (three_cell rfl rfl rfl) rfl); have HB5 := hid (Nat.le_trans HXW3.out.size (World.grownBy_alloc w3 (.cells #[.bool ng, .slice am nl cm, .slice a3 nm c3] 76) none).size))
          | (refine step_append_src rfl (.tmp 18) (.tmp 23) 74 rfl wr.heap.size 104 i0 (.agg #[.int .i64 0, .int .i64 0]) 2 16 Tryz.underlying74 hi hz0 hz1 hz2 rfl (Nat.succ_pos _) (.slice (some ⟨wr.heap.size, 0, none⟩) 0 0) 0 [] rfl HOB.out ao nm co (flatP t.2) rfl HSRC1.out HB1.out HB2.out HBS.out ?_; intro v3 w3 hown hg _; obtain ⟨a3, c3, rfl, hp3⟩ := copy_done (w1 := wr.drew) hown HNM.out HIB.out; have HXR3 : Hid (Ext wr.drew w3) := hid (copy_late HXR1.out hg); have HP3 : Hid (Pows (New wr.drew w3) w3 (.slice a3 nm c3) t.2) := hid hp3; have HU3 : Hid (U32s (New wr.drew w3) w3 (.slice am nl cm) (ofI t.1).mag) := hid (late_u32s HU1.out hg); clear HXR1 hown hg hp3; have HXW3 : Hid (Ext w w3) := hid (HX0.out.trans HXR3.out); have S3 : _ ∧ _ ∧ _ := And.intro (HXW3.out.cell HC0.out.1) (And.intro (HXW3.out.cell HC0.out.2.1) (HXW3.out.cell HC0.out.2.2)); have HW3 := hid (own_ext (own_ext HWR.out HXR3.out) (Ext.alloc (Ext.refl w3) (.cells #[.bool ng, .slice am nl cm, .slice a3 nm c3] 76))); have HXS3 := hid (newOff_ext HXSR.out HXR3.out); have HSRC3 := hid (src_one w3 #[.bool ng, .slice am nl cm, .slice a3 nm c3] 76 (three_cell rfl rfl rfl) rfl); have HB5 := hid (Nat.le_trans HXW3.out.size (World.grownBy_alloc w3 (.cells #[.bool ng, .slice am nl cm, .slice a3 nm c3] 76) none).size))
          | (refine step_append_src rfl (.tmp 11) (.tmp 26) 26 rfl w.heap.size 76 j0 (.agg #[.bool false, .slice none 0 0, .slice none 0 0]) 3 56 Tryz.underlying26 hj jz0 jz1 jz2 rfl (Nat.succ_pos _) _ k xs rfl HW3.out (some ⟨w3.heap.size, 0, none⟩) 1 1 _ rfl HSRC3.out HB3.out HB4.out HB5.out ?_; intro v5 w5 hown hg hbk; have HW5 := hid hown; have HG5 := hid hg; have HBK := hid hbk; have HX5 := hid (own_grown0 (HXW3.out.alloc (.cells #[.bool ng, .slice am nl cm, .slice a3 nm c3] 76)) HW3.out hg); have S5 : _ ∧ _ ∧ _ := And.intro (HX5.out.cell HC0.out.1) (And.intro (HX5.out.cell HC0.out.2.1) (HX5.out.cell HC0.out.2.2)); clear hown hg hbk))
      all_goals
        go_wp2
        go_roundw
        case rel =>
          refine ⟨k + 1, xs ++ (#[.bool ng, .slice am nl cm, .slice a3 nm c3] : Array Value).toList, by omega, by go_num, HX5.out, HW5, hid ?_⟩
          rw [HT.out]
          have hone : CellsT (New wr.drew w3) w3 (#[.bool ng, .slice am nl cm, .slice a3 nm c3] : Array Value).toList [⟨ofI t.1, t.2⟩] := by
            rw [HNG.out]
            exact CellsT.single (t := ⟨ofI t.1, t.2⟩) HU3.out HP3.out
          have hall := HXS3.out.append (newOff_of HX0.out.size HWR.out hone)
          exact newOff_grown (newOff_ext hall (Ext.alloc (Ext.refl w3) (.cells #[.bool ng, .slice am nl cm, .slice a3 nm c3] 76))) HG5.out HBK.out (Nat.le_refl _)
        case measure => simp only [intOf]; omega
    · obtain rfl : k = p.length := by omega
      have HE : Hid (p.take p.length = p) := hid List.take_length
      clear hx
      go_wp2
      go_ret
      refine ⟨_, rfl, ?_, HX.out⟩
      have hc := HXS.out
      rw [HE.out] at hc
      exact own_terms (by rw [ofP_length]; exact HW.out) (hc.to (Kept.refl _ _) (fun _ h => h.1)) (fun k h1 h2 => ⟨h1, h2⟩)
end Go.Proofs.YthplgldclilccaaGreat

namespace Go.Proofs.YthplgldclilccaaGreat
open Go.RowKit Go.Sort

theorem Terms.src {S : Nat → Prop} {w : World} {A : Option Addr} {n cap : Nat} {ts : List RTerm} (h : Terms S w (.slice A n cap) ts) : n = ts.length ∧ ∃ xs, CellsT S w xs ts ∧ SrcAt w A n 3 xs := by
  obtain ⟨b, off, ⟨a', cap', h1, h2, h3, h4, h5⟩, hc⟩ := h
  obtain ⟨rfl, rfl, rfl⟩ : A = a' ∧ n = ts.length ∧ cap = cap' := by simpa using h1
  refine ⟨rfl, ?_⟩
  clear h1 h2 h3 h5
  have main : ∀ (us : List RTerm) (k : Nat), (∀ j t, us[j]? = some t → ∃ vm vo, w.cell? ⟨b, off + (k + j) * 3, none⟩ = some (.bool t.c.neg) ∧ w.cell? ⟨b, off + (k + j) * 3 + 1, none⟩ = some vm ∧ w.cell? ⟨b, off + (k + j) * 3 + 2, none⟩ = some vo ∧ U32s S w vm t.c.mag ∧ Pows S w vo t.m) →
      ∃ xs, CellsT S w xs us ∧ ∀ j u, xs[j]? = some u → w.cell? ⟨b, off + k * 3 + j, none⟩ = some u := by
    intro us
    induction us with
    | nil => intro k _; exact ⟨[], rfl, fun j u hu => by simp at hu⟩
    | cons t r ih =>
      intro k hk
      obtain ⟨vm, vo, g1, g2, g3, g4, g5⟩ := hk 0 t rfl
      obtain ⟨xs, hx1, hx2⟩ := ih (k + 1) (fun j u hu => by
        have := hk (j + 1) u (by simpa using hu)
        rw [show k + (j + 1) = k + 1 + j by omega] at this
        exact this)
      refine ⟨.bool t.c.neg :: vm :: vo :: xs, ⟨vm, vo, xs, rfl, g4, g5, hx1⟩, fun j u hu => ?_⟩
      rw [Nat.add_zero] at g1 g2 g3
      match j, hu with
      | 0, hu => obtain rfl : _ = u := by simpa using hu
                 exact g1
      | 1, hu => obtain rfl : _ = u := by simpa using hu
                 exact g2
      | 2, hu => obtain rfl : _ = u := by simpa using hu
                 exact g3
      | j + 3, hu =>
        have := hx2 j u (by simpa using hu)
        rw [show off + k * 3 + (j + 3) = off + (k + 1) * 3 + j by omega]
        exact this
  obtain ⟨xs, hx1, hx2⟩ := main ts 0 (fun j t hj => by rw [Nat.zero_add]; exact hc j t hj)
  refine ⟨xs, hx1, by rw [hx1.length], hx1.one, fun h0 => ⟨_, h4 h0, fun j u hu => ?_⟩⟩
  rw [add_off]
  have := hx2 j u hu
  simpa using this

theorem Terms.of_none {S : Nat → Prop} {w : World} {n cap : Nat} {m : List RTerm} (h : Terms S w (.slice Option.none n cap) m) : m = [] := by
  obtain ⟨b, off, ⟨a', cap', h1, h2, h3, h4, h5⟩, hc⟩ := h
  obtain ⟨rfl, rfl, rfl⟩ : Option.none = a' ∧ n = m.length ∧ cap = cap' := by simpa using h1
  rcases Nat.eq_zero_or_pos m.length with h0 | h0
  · exact List.length_eq_zero_iff.1 h0
  · cases h4 h0
theorem Terms.onS {S : Nat → Prop} {w W : World} {v : Value} {z : List RTerm} (h : Terms S w v z) (hx : Ext w W) (hS : ∀ k, S k → k < w.heap.size) : Terms S W v z := h.ext hx hS

set_option maxRecDepth 100000 in
set_option maxHeartbeats 1000000 in
theorem clone_terms {S : Nat → Prop} (v : Value) (ts : List RTerm) (w : World) (h : Terms S w v ts) (hS : ∀ k, S k → k < w.heap.size) (hr : ts.length ≤ 1000000000000) :
    Calls Tryz.prog 118 #[v] w fun e w' => ∃ v' xs, e = .returned v' ∧ w'.ownsRow w.heap.size 76 3 v' ts.length xs ∧ CellsT S w' xs ts ∧ Ext w w' := by
  obtain ⟨i0, hi, hz0, hz1, hz2⟩ := info_parts Tryz.infoTerm
  have H := hid h
  obtain ⟨A, c, rfl⟩ := h.form
  clear h
  have hnil := fun (w : World) => Lib.run_eql_slice_nil (P := Tryz.prog) w 25 76 A ts.length c 0 0 Tryz.underlying25
  cases A with
  | none =>
    have HM := hid H.out.of_none
    go_enter Tryz.func118, Tryz.ntmps118
    go_wp2
    all_goals
      go_ret
      have e := HM.out
      subst e
      exact ⟨_, [], rfl, World.ownsRow_nil _ _ _ _, rfl, Ext.refl _⟩
  | some ad =>
    have hx0 : Ext w (w.alloc (.cells #[] 76)) := Ext.alloc (Ext.refl w) _
    obtain ⟨-, xs, hc, hs⟩ := (H.out.ext hx0 hS).src
    have HS := hid hs
    have HCC := hid hc
    have HO := hid (World.ownsRow_made (base := w.heap.size) (e := 76) (size := 3) w #[] 0 (Nat.le_refl _) (by unfold maxLen; omega) (by simp))
    have HR := hid hr
    clear hx0 hc hs
    go_enter Tryz.func118, Tryz.ntmps118
    go_wp2_with (at_builtin; refine wpList_append_src _ rfl (.tmp 5) (.tmp 6) 25 rfl w.heap.size 76 i0 (.agg #[.bool false, .slice none 0 0, .slice none 0 0]) 3 56 Tryz.underlying25 hi hz0 hz1 hz2 rfl (by decide) (.slice (some ⟨w.heap.size, 0, none⟩) 0 0) 0 [] rfl HO.out (some ad) ts.length c xs rfl HS.out (by have := HR.out; unfold maxLen; omega) (by have := HR.out; omega) (by simp) ?_; intro v1 w1 hown hg _; have HW := hid hown; have HG := hid hg; clear hown hg)
    go_ret
    have hx : Ext w w1 := by
      refine ext_grown (Ext.alloc (Ext.refl w) _) HG.out (fun k hk => ?_)
      have e : w.heap.size = k := by simpa [Value.ownBlock] using hk
      omega
    refine ⟨v1, xs, rfl, by simpa using HW.out, ?_, hx⟩
    exact HCC.out.to (Kept.grown HG.out (fun k hk => ⟨by have := hS k hk; simp; omega, fun e => by have := hS k hk; simp [Value.ownBlock] at e; omega⟩)) (fun _ h => h)

/-- a term whose parts lie in a world -/
structure TermIn (S : Nat → Prop) (w : World) where
  t : RTerm
  c : TCell
  neg : c.neg = t.c.neg
  hm : U32s S w (.slice c.ma c.mn c.mc) t.c.mag
  ho : Pows S w (.slice c.oa c.on c.oc) t.m
  may : mayM t.m = true
instance (S : Nat → Prop) (w : World) : Inhabited (TermIn S w) := ⟨⟨⟨⟨false, []⟩, []⟩, ⟨false, none, 0, 0, none, 0, 0⟩, rfl, U32s.nilv _ _ _ _ (by decide), Pows.empty _ _ _, rfl⟩⟩

section
variable {S : Nat → Prop} {w : World}
theorem cells_terms {xs : List Value} {ts : List RTerm} (h : CellsT S w xs ts) (hm : ∀ t ∈ ts, mayM t.m = true) : ∃ d : List (TermIn S w), d.map (·.t) = ts ∧ xs = (d.map (encT (fun x : TermIn S w => x.c))).flatten := by
  induction ts generalizing xs with
  | nil =>
    have e : xs = [] := h
    subst e
    exact ⟨[], rfl, rfl⟩
  | cons t r ih =>
    obtain ⟨vd, vo, ys, rfl, h1, h2, h3⟩ := h
    obtain ⟨d, hd1, hd2⟩ := ih h3 (fun u hu => hm u (by simp [hu]))
    obtain ⟨a1, c1, rfl⟩ := h1.form
    obtain ⟨a2, c2, rfl⟩ := h2.form
    exact ⟨⟨t, ⟨t.c.neg, a1, _, c1, a2, _, c2⟩, rfl, h1, h2, hm t (by simp)⟩ :: d, by simp [hd1], by simp [hd2]⟩
theorem flat_at {α : Type} {enc : α → List Value} {d : List α} (hk : ∀ x, (enc x).length = 3) {j c : Nat} {x : α} (hj : d[j]? = some x) (hc : c < 3) : (d.map enc).flatten[j * 3 + c]? = (enc x)[c]? := by
  induction d generalizing j with
  | nil => simp at hj
  | cons y r ih =>
    simp only [List.map_cons, List.flatten_cons]
    cases j with
    | zero =>
      obtain rfl : y = x := by simpa using hj
      rw [List.getElem?_append_left (by rw [hk]; omega)]
      congr 1
      omega
    | succ j =>
      rw [List.getElem?_append_right (by rw [hk]; omega), hk]
      rw [show (j + 1) * 3 + c - 3 = j * 3 + c by omega]
      exact ih (by simpa using hj)
theorem own_sortAt {base g n cap : Nat} {e : TypeId} {xs : List Value} {d : List (TermIn S w)} (h : w.ownsRow base e 3 (.slice (some ⟨g, 0, none⟩) n cap) n xs) (hx : xs = (d.map (encT (fun x : TermIn S w => x.c))).flatten) (hn : n = d.length) : SortAt (encT (fun x : TermIn S w => x.c)) 3 w g 0 d w ∧ n ≤ cap ∧ cap ≤ maxLen := by
  obtain ⟨hl, hh⟩ := h
  rcases hh with ⟨h1, _⟩ | ⟨g', cap', cur, h1, h2, h3, h4, h5, h6, h7⟩
  · simp at h1
  · obtain ⟨rfl, rfl⟩ : g = g' ∧ cap = cap' := by simpa using h1
    refine ⟨⟨grown_refl _ _, ?_, (Array.getElem?_eq_some_iff.1 h3).1⟩, h4, h5⟩
    have cell : ∀ k, k < n * 3 → w.cell? ⟨g, k, none⟩ = xs[k]? ∧ w.frozen? ⟨g, k, none⟩ = false := fun k hk => by
      unfold World.cell? World.frozen?
      simp only [h3]
      rw [← h7, List.getElem?_take, if_pos hk]
      simp
    intro j hj
    rw [size_flatK] at hj
    have hj3 : j < d.length * 3 := by simpa using hj
    obtain ⟨x, hxd⟩ := some_of_lt (show j / 3 < d.length by omega)
    have hc := cell j (by rw [hn]; exact hj3)
    rw [Nat.zero_add]
    refine ⟨?_, hc.2⟩
    rw [hc.1, hx, get_flatK _ _ _ _ hj, arr_at hxd]
    have := flat_at (enc := encT (fun x : TermIn S w => x.c)) (fun _ => rfl) hxd (c := j % 3) (Nat.mod_lt _ (by decide))
    rw [show j / 3 * 3 + j % 3 = j by omega] at this
    rw [this]
    have h3 := Nat.mod_lt j (show 0 < 3 by decide)
    simp only [id]
    rcases (show j % 3 = 0 ∨ j % 3 = 1 ∨ j % 3 = 2 by omega) with e | e | e <;> simp [e]
end

/-- how the terms are sorted: falling -/
def fallC {S : Nat → Prop} {w : World} (x y : TermIn S w) : Int := orderM y.t.m x.t.m
def fallL {S : Nat → Prop} {w : World} (x y : TermIn S w) : Bool := decide (0 ≤ orderM x.t.m y.t.m)
theorem orderM_may {a b : Mono} (ha : mayM a = true) (hb : mayM b = true) : orderM a b = compareM a b := by unfold orderM; simp [ha, hb]
theorem fall_le {S : Nat → Prop} {w : World} : CmpLe (fallC (S := S) (w := w)) fallL := by
  refine ⟨fun x y => orderM_range _ _, fun x y => rfl, ⟨fun a b c h1 h2 => ?_, fun a b => ?_⟩⟩
  · unfold fallL at *
    rw [orderM_may a.may b.may] at h1
    rw [orderM_may b.may c.may] at h2
    rw [orderM_may a.may c.may]
    simp only [decide_eq_true_eq] at *
    rcases compareM_cases a.may b.may with g | g | g
    · omega
    · rw [(compareM_zero a.may b.may).1 g]; exact h2
    · rcases compareM_cases b.may c.may with k | k | k
      · omega
      · rw [← (compareM_zero b.may c.may).1 k]; exact h1
      · have := compareM_trans a.may b.may c.may g k
        omega
  · unfold fallL
    rw [orderM_may a.may b.may, orderM_may b.may a.may]
    simp only [decide_eq_true_eq]
    have := compareM_neg a.may b.may
    omega

set_option maxRecDepth 100000 in
set_option maxHeartbeats 1000000 in
theorem collect_order {S : Nat → Prop} {w : World} {g : Nat} (hS : ∀ k, S k → k < w.heap.size ∧ k ≠ g) : CmpT 120 (fun x : TermIn S w => x.c) fallC w g := by
  intro W hW x y
  simp only []
  have hk : Kept S w W := Kept.grown hW (fun k hk => ⟨(hS k hk).1, fun e => (hS k hk).2 (Option.some.inj e)⟩)
  have hSW : ∀ k, S k → k < W.heap.size := fun k hk => Nat.lt_of_lt_of_le (hS k hk).1 hW.size
  have hx := x.ho.to hk (fun _ h => h)
  have hy := y.ho.to hk (fun _ h => h)
  have HC := fun (W' : World) (hE : Ext W W') => poly_order _ _ y.t.m x.t.m W' (hy.ext hE hSW) (hx.ext hE hSW) (lt_ext hSW hE)
  have HCC := hid HC
  unfold fallC
  generalize orderM y.t.m x.t.m = c at *
  generalize x.c = cx at *
  generalize y.c = cy at *
  have HK := hid (Ext.alloc (Ext.alloc (Ext.refl W) (.cells #[.bool cx.neg, .slice cx.ma cx.mn cx.mc, .slice cx.oa cx.on cx.oc] 76)) (.cells #[.bool cy.neg, .slice cy.ma cy.mn cy.mc, .slice cy.oa cy.on cy.oc] 76))
  clear HC hx hy hk hSW
  go_enter Tryz.func120, Tryz.ntmps120
  go_wp2_with fail
  with_reducible refine (HCC.out _ HK.out).mono ?_
  rintro e w1 ⟨rfl, hx1⟩
  have HX1 := hid (HK.out.trans hx1)
  clear hx1
  go_wp2
  all_goals
    go_ret
    exact ⟨rfl, HX1.out⟩

theorem sorted_by {S : Nat → Prop} {w : World} {d : List (TermIn S w)} (h : SortedL fallL d) : (d.map (·.t)).Pairwise fun a b => 0 ≤ compareM a.m b.m := by
  rw [List.pairwise_map]
  refine List.Pairwise.imp (fun {a b} hab => ?_) h
  unfold fallL at hab
  rw [orderM_may a.may b.may] at hab
  simpa using hab

/-- the sort of no terms -/
theorem sort_none_t (A : Option Addr) (c : Nat) (W : World) : Calls Tryz.prog 119 #[.slice A 0 c, .func (.func 120) #[] #[]] W fun e w' => e = .returned (.tuple #[]) ∧ W = w' := by
  have hi : ∀ W, Calls Tryz.prog 152 #[.slice A 0 c, .int .i64 0, .int .i64 0, .func (.func 120) #[] #[]] W fun e w' => e = .returned (.tuple #[]) ∧ W = w' := by
    intro W
    go_enter Tryz.func152, Tryz.ntmps152
    go_wp2
    refine wp_loop_rounds 1 ?_
    rw [rounds_succ]
    go_wp2
    go_end0
    exact ⟨rfl, rfl⟩
  have HI := hid hi
  have hs : Calls Tryz.prog 141 #[.slice A 0 c, .int .i64 0, .func (.func 120) #[] #[]] W fun e w' => e = .returned (.tuple #[]) ∧ W = w' := by
    clear hi
    go_enter Tryz.func141, Tryz.ntmps141
    go_wp2
    refine wp_loop_rounds 1 ?_
    rw [rounds_succ]
    go_wp2_with fail
    with_reducible refine (HI.out _).mono ?_
    rintro e w1 ⟨rfl, rfl⟩
    go_wp2
    refine wp_loop_rounds 1 ?_
    rw [rounds_succ]
    go_wp2
    go_end0
    exact ⟨rfl, rfl⟩
  have HS := hid hs
  clear hi hs
  go_enter Tryz.func119, Tryz.ntmps119
  go_wp2_with fail
  with_reducible refine HS.out.mono ?_
  rintro e w1 ⟨rfl, rfl⟩
  go_wp2
  go_end0
  exact ⟨rfl, rfl⟩
end Go.Proofs.YthplgldclilccaaGreat

namespace Go.Proofs.YthplgldclilccaaGreat
open Go.RowKit Go.Sort

section
variable {P : Program}
/-- room made in a slice that is nil -/
theorem run_append_room0 (w : World) (t u ty e : TypeId) (k : IntKind) (i : TypeInfo) (z : Value) (ht : P.underlying t = some (.slice e)) (hu : P.underlying u = some (.int k)) (hi : P.info? e = some i) (hz : i.zero = some z)
    (n : Nat) (h0 : 0 < n) (h63 : (n : Int) ≤ 9223372036854775807) (h48 : n * i.bytes ≤ 281474976710656) (hs : 0 < i.size) :
    (Builtin.append_ #[t, u] ty #[.slice none 0 0, .int .i64 (n : Int)]).run P w =
      .ok (.slice (some ⟨w.heap.size, 0, none⟩) n (grownCap w n 0 e)) (w.drew.alloc (.cells (Builtin.zeroCells z.cells n ++ Builtin.zeroCells z.cells (grownCap w n 0 e - n)) e)) := by
  have hn : n ≠ 0 := by omega
  have hns : n * i.size ≠ 0 := by
    have := Nat.mul_pos h0 hs
    omega
  have h63' : ¬ (9223372036854775807 < (n : Int)) := by omega
  have h48' : ¬ (281474976710656 < Builtin.nextslicecap n 0 * i.bytes) := by rw [nextslicecap_zero h0]; omega
  have h48i : ¬ (281474976710656 < (n : Int) * (i.bytes : Int)) := by
    have : ((n * i.bytes : Nat) : Int) ≤ 281474976710656 := by omega
    rw [Int.natCast_mul] at this
    omega
  have hw : IntKind.i64.wrap (n : Int) = (n : Int) := by rw [IntKind.wrap_i64]; omega
  have hneg : ¬ ((n : Int) < 0) := by omega
  have hsz : ¬ i.size = 0 := by omega
  simp [Builtin.append_, run_underlying ht, run_underlying hu, sizeOf, typeInfo, zeroValue, hi, hz, asInt, asIntOf, hw, hneg, h48i, hn, hns, h63', h48', Question.forced, run_firstCells_none, newRow, grownCap]

theorem wpList_append_room0 (w : World) {ops : Array Oper} {rest : List Oper} {o : Oper} {a : Act} {Q : Exit → Act → World → Prop} (hgd : o.guard = none) (s x : Operand) (t u : TypeId) (k : IntKind)
    (ho : o.op = .call { callee := .builtin .append, args := #[s, x], argTypes := #[t, u] })
    (e : TypeId) (i : TypeInfo) (z : Value) (size bytes : Nat) (ht : P.underlying t = some (.slice e)) (hu : P.underlying u = some (.int k)) (hi : P.info? e = some i) (hz : i.zero = some z)
    (hsize : i.size = size) (hby : i.bytes = bytes) (hzs : z.cells.size = size) (hsz : 0 < size)
    (n : Nat) (hs : a.eval s = .slice none 0 0) (hx : a.eval x = .int .i64 (n : Int)) (h0 : 0 < n) (h63 : n ≤ maxLen) (hbytes : n * bytes ≤ 140737488355328)
    (h : ∀ cap w', w'.ownsRow w.heap.size e size (.slice (some ⟨w.heap.size, 0, none⟩) 0 cap) 0 [] → n ≤ cap → Ext w w' → wpList P ops Q rest (a.put o.dst (.slice (some ⟨w.heap.size, 0, none⟩) n cap)) w') : wpList P ops Q (o :: rest) a w := by
  have hrun := run_append_room0 (P := P) w t u o.type e k i z ht hu hi hz n h0 (by unfold maxLen at h63; omega) (by rw [hby]; omega) (by omega)
  have hcm : grownCap w n 0 e ≤ maxLen := grownCap_le_maxLen w n 0 e h63
  have hge := grownCap_ge w n 0 e
  refine wpList_plain hgd fun K hK => ?_
  unfold Oper.wp execOp
  simp only [ho, resolve, invoke, builtin, Sem.run_bind, Sem.run_pure, Result.andThen_ok, List.map_toArray, List.map_cons, List.map_nil, hs, hx, hrun]
  refine hK _ _ (h _ _ ?_ hge ?_)
  · refine ⟨by simp, .inr ⟨w.heap.size, _, _, rfl, Nat.le_refl _, heap_alloc_new w.drew _, Nat.zero_le _, hcm, ?_, by simp⟩⟩
    simp only [Array.size_append, size_zeroCells, hzs, ← Nat.add_mul]
    congr 1
    omega
  · exact ((Ext.refl w).drew).alloc _
end

set_option maxRecDepth 100000 in
set_option maxHeartbeats 1000000 in
theorem grow_terms (n : Nat) (w : World) (hn : n ≤ 1000000000000) :
    Calls Tryz.prog 121 #[.slice none 0 0, .int .i64 n] w fun e w' => ∃ v', e = .returned v' ∧ w'.ownsRow w.heap.size 76 3 v' 0 [] ∧ Ext w w' := by
  obtain ⟨j0, hj, jz0, jz1, jz2⟩ := info_parts Tryz.infoTerm
  rcases Nat.eq_zero_or_pos n with rfl | h0
  · go_enter Tryz.func121, Tryz.ntmps121
    go_wp2
    go_ret
    exact ⟨_, rfl, World.ownsRow_nil _ _ _ _, Ext.refl _⟩
  · have q0 : (n : Int) > 0 := by omega
    go_enter Tryz.func121, Tryz.ntmps121
    go_wp2_with (at_builtin; refine wpList_append_room0 _ rfl (.tmp 20) (.tmp 21) 26 3 .i64 rfl 76 j0 (.agg #[.bool false, .slice none 0 0, .slice none 0 0]) 3 56 Tryz.underlying26 Tryz.underlying3 hj jz0 jz1 jz2 rfl (by decide) n rfl rfl h0 (by unfold maxLen; omega) (by omega) ?_; intro cap w1 hown hcap hx; have HW := hid hown; have HX := hid hx; clear hown hx)
    go_ret
    exact ⟨_, rfl, HW.out, HX.out⟩

theorem flat_take {α : Type} {ls : List (List α)} {k : Nat} {p : List α} (h : ls[k]? = some p) : (ls.take (k + 1)).flatten = (ls.take k).flatten ++ p := by
  rw [List.take_add_one, h]
  simp
theorem flat_le {α : Type} (ls : List (List α)) (k : Nat) : (ls.take k).flatten.length ≤ ls.flatten.length := by
  conv => rhs; rw [← List.take_append_drop k ls]
  rw [List.flatten_append, List.length_append]
  omega
theorem own_kept_grown {S : Nat → Prop} {w2 : World} {base : Nat} {e : TypeId} {v : Value} {n : Nat} {xs : List Value} {l : List RTerm} {ys : List Value} {w1 : World} (hS : ∀ k, S k → k < base) (hw : base ≤ w1.heap.size) (h : CellsT S w1 xs l) (ho : w1.ownsRow base e 3 v n ys) (hg : w1.grownBy w2 v.ownBlock) : CellsT S w2 xs l :=
  h.to (Kept.grown hg (fun k hk => ⟨Nat.lt_of_lt_of_le (hS k hk) hw, fun e => by have h1 := (ho.lt k e.symm).1; have h2 := hS k hk; omega⟩)) (fun _ h => h)

set_option maxRecDepth 100000 in
set_option maxHeartbeats 2000000 in
theorem concat_polys {S : Nat → Prop} (v : Value) (ls : List (List RTerm)) (w : World) (h : Polys S w v ls) (hS : ∀ k, S k → k < w.heap.size) (hn : ls.flatten.length ≤ 1000000000000) :
    Calls Tryz.prog 84 #[v] w fun e w' => ∃ v' xs, e = .returned v' ∧ w'.ownsRow w.heap.size 76 3 v' ls.flatten.length xs ∧ CellsT S w' xs ls.flatten ∧ Ext w w' := by
  obtain ⟨j0, hj, jz0, jz1, jz2⟩ := info_parts Tryz.infoTerm
  have H := hid h
  have hll := h.len_le
  obtain ⟨A, c, rfl⟩ := h.form
  obtain ⟨n, hnn⟩ : ∃ n, n = ls.length := ⟨_, rfl⟩
  rw [← hnn] at H hll ⊢
  have HN := hid hnn
  have HFL := hid (flat_le ls)
  clear h hnn
  go_enter Tryz.func84, Tryz.ntmps84
  go_wp2
  go_loop [3, 11] (fun sz i => ∃ k s : Nat, k ≤ n ∧ i = .int .i64 k ∧ sz = .int .i64 s ∧ Hid (s = (ls.take k).flatten.length)) (fun _ i => n - (intOf i).toNat)
  case atStart => exact ⟨0, 0, Nat.zero_le _, rfl, rfl, rfl⟩
  case round =>
    obtain ⟨k, s, hk, rfl, rfl, HSZ⟩ := hrel
    have hs : s ≤ 1000000000000 := by rw [HSZ.out]; exact Nat.le_trans (HFL.out k) hn
    by_cases hlt : k < n
    · obtain ⟨p, hp⟩ := some_of_lt (l := ls) (j := k) (by rw [← HN.out]; exact hlt)
      obtain ⟨bl, off, vp, rfl, -, hn1, hm1, hSb, h1, h2⟩ := H.out.cellAt hp
      have HP := hid (flat_take hp)
      obtain ⟨ap, cp, rfl⟩ := h2.form
      have hlp := h2.len_le
      obtain ⟨np, hnp⟩ : ∃ m, m = p.length := ⟨_, rfl⟩
      rw [← hnp] at h1 hlp
      have hs2 : s + np ≤ 1000000000000 := by
        have h3 := HFL.out (k + 1)
        rw [HP.out, List.length_append, ← HSZ.out, ← hnp] at h3
        exact Nat.le_trans h3 hn
      have HNP := hid hnp
      clear h2 hp hnp
      go_wp2
      go_round
      case rel => exact ⟨k + 1, s + np, by omega, by go_num, by go_num, by show _ = _; rw [HP.out, List.length_append, HSZ.out, HNP.out]⟩
      case measure => simp only [intOf]; omega
    · obtain rfl : k = n := by omega
      have C := hid (grow_terms s w hs)
      go_wp2_with fail
      with_reducible refine C.out.mono ?_
      rintro e w1 ⟨v1, rfl, hown, hx1⟩
      have HW1 := hid hown
      have HX1 := hid hx1
      clear hown hx1
      go_wp2
      go_loopw [6, 8, 27] (fun o _ i wr => ∃ (j s : Nat) (xs : List Value), j ≤ k ∧ i = .int .i64 j ∧ Ext w wr ∧ Hid (s = (ls.take j).flatten.length) ∧ Hid (wr.ownsRow w.heap.size 76 3 o s xs) ∧ Hid (CellsT S wr xs (ls.take j).flatten)) (fun _ _ i _ => k - (intOf i).toNat)
      case atStart => exact ⟨0, 0, [], Nat.zero_le _, rfl, HX1.out, rfl, HW1.out, rfl⟩
      case round =>
        clear HSZ hs
        obtain ⟨j, s, xs, hj', rfl, hx, HSZ, HW, HY⟩ := hrel
        have hs : s ≤ 1000000000000 := by rw [HSZ.out]; exact Nat.le_trans (HFL.out j) hn
        have HX := hid hx
        by_cases hlt : j < k
        · obtain ⟨p, hp⟩ := some_of_lt (l := ls) (j := j) (by rw [← HN.out]; exact hlt)
          obtain ⟨bl, off, vp, rfl, -, hn1, hm1, hSb, h1, h2⟩ := (H.out.ext hx hS).cellAt hp
          have HP := hid (flat_take hp)
          obtain ⟨ap, cp, rfl⟩ := h2.form
          obtain ⟨-, news, hc, hsrc⟩ := h2.src
          obtain ⟨np, hnp⟩ : ∃ m, m = p.length := ⟨_, rfl⟩
          rw [← hnp] at h1 hsrc
          have hs2 : s + np ≤ 1000000000000 := by
            have h3 := HFL.out (j + 1)
            rw [HP.out, List.length_append, ← HSZ.out, ← hnp] at h3
            exact Nat.le_trans h3 hn
          have HNP := hid hnp
          have HSRC := hid hsrc
          have HCN := hid hc
          clear h2 hp hnp hc hsrc hx
          go_wp2_with (at_builtin; refine wpList_append_src _ rfl (.tmp 31) (.tmp 32) 26 rfl w.heap.size 76 j0 (.agg #[.bool false, .slice none 0 0, .slice none 0 0]) 3 56 Tryz.underlying26 hj jz0 jz1 jz2 rfl (by decide) _ s xs rfl HW.out ap np cp news rfl HSRC.out (by unfold maxLen; omega) (by omega) HX.out.size ?_; intro v2 w2 hown hg _; have HW2 := hid hown; have HG2 := hid hg; clear hown hg)
          go_roundw
          case rel =>
            refine ⟨j + 1, s + np, xs ++ news, by omega, by go_num, own_grown0 HX.out HW.out HG2.out, ?_, HW2.out, ?_⟩
            · show _ = _; rw [HP.out, List.length_append, HSZ.out, HNP.out]
            · show CellsT _ _ _ _
              rw [HP.out]
              exact (own_kept_grown hS HX.out.size HY.out HW.out HG2.out).append (own_kept_grown hS HX.out.size HCN.out HW.out HG2.out)
          case measure => simp only [intOf]; omega
        · obtain rfl : j = k := by omega
          have HE : Hid (ls.take j = ls) := hid (List.take_of_length_le (by rw [← HN.out]; exact Nat.le_refl _))
          clear hx
          go_wp2
          go_ret
          have h1 := HW.out
          have h2 := HY.out
          have h3 := HSZ.out
          rw [HE.out] at h2 h3
          rw [h3] at h1
          exact ⟨_, xs, rfl, h1, h2, HX.out⟩
end Go.Proofs.YthplgldclilccaaGreat

namespace Go.Proofs.YthplgldclilccaaGreat

def sumP (g : PZ) : Int := (g.map (·.1)).foldr (· + ·) 0
def oneP (c : Int) (m : Mono) : PZ := if c = 0 then [] else [(c, m)]
/-- groups of one monomial each, summed -/
inductive Coll : PZ → PZ → Prop where
  | nil : Coll [] []
  | group (t : Int × Mono) (g r q : PZ) (h : ∀ u ∈ g, u.2 = t.2) (hr : ∀ u ∈ r.head?, u.2 ≠ t.2) (k : Coll r q) : Coll (t :: g ++ r) (oneP (t.1 + sumP g) t.2 ++ q)

theorem cf_same {g : PZ} {m : Mono} (h : ∀ u ∈ g, u.2 = m) (m' : Mono) : cf g m' = if m = m' then sumP g else 0 := by
  induction g with
  | nil => simp [cf, sumP]
  | cons u g ih =>
    have h1 := h u (by simp)
    have h2 := ih (fun v hv => h v (by simp [hv]))
    rw [cf, h2, h1]
    have e : sumP (u :: g) = u.1 + sumP g := rfl
    rw [e]
    split <;> omega
theorem cf_oneP (c : Int) (m m' : Mono) : cf (oneP c m) m' = if m = m' then c else 0 := by
  unfold oneP
  split
  · rename_i h; subst h; simp [cf]
  · simp [cf]
theorem fall_head {t : Int × Mono} {g r : PZ} (hm : mayAll (t :: g ++ r)) (hf : (t :: g ++ r).Pairwise fun a b => 0 ≤ compareM a.2 b.2) (hr : ∀ u ∈ r.head?, u.2 ≠ t.2) : ∀ u ∈ r, compareM t.2 u.2 = 1 := by
  have ht := hm t (by simp)
  cases r with
  | nil => intro u hu; simp at hu
  | cons x r =>
    have hx := hm x (by simp)
    have hne := hr x (by simp)
    have h1 : ∀ u ∈ g ++ x :: r, 0 ≤ compareM t.2 u.2 := (List.pairwise_cons.1 (show (t :: (g ++ x :: r)).Pairwise _ from hf)).1
    have hxt : compareM t.2 x.2 = 1 := by
      have := h1 x (by simp)
      rcases compareM_cases ht hx with g | g | g
      · omega
      · exact absurd ((compareM_zero ht hx).1 g).symm hne
      · exact g
    intro u hu
    rcases List.mem_cons.1 hu with rfl | hu'
    · exact hxt
    · have hu2 := hm u (by simp [hu'])
      have h2 : 0 ≤ compareM x.2 u.2 := by
        have := (List.pairwise_append.1 (show ((t :: g) ++ (x :: r)).Pairwise _ from hf)).2.1
        exact (List.pairwise_cons.1 this).1 u hu'
      rcases compareM_cases hx hu2 with k | k | k
      · omega
      · rw [← (compareM_zero hx hu2).1 k]; exact hxt
      · exact compareM_trans ht hx hu2 hxt k
theorem Coll.can {p q : PZ} (h : Coll p q) (hm : mayAll p) (hf : p.Pairwise fun a b => 0 ≤ compareM a.2 b.2) : canP q ∧ (∀ m, cf q m = cf p m) ∧ ∀ u ∈ q, ∃ v ∈ p, v.2 = u.2 := by
  induction h with
  | nil => exact ⟨canP_nil, fun _ => rfl, fun u hu => by simp at hu⟩
  | group t g r q hg hr k ih =>
    have hmr : mayAll r := fun u hu => hm u (by simp [hu])
    have hfr := (List.pairwise_append.1 (show ((t :: g) ++ r).Pairwise _ from hf)).2.1
    obtain ⟨i1, i2, i3⟩ := ih hmr hfr
    have hhd := fall_head hm hf hr
    have ht := hm t (by simp)
    refine ⟨?_, fun m => ?_, fun u hu => ?_⟩
    · unfold oneP
      split
      · exact i1
      · rename_i hne
        refine ⟨fun u hu => ?_, ?_⟩
        · rcases List.mem_append.1 hu with hu | hu
          · rw [List.mem_singleton.1 hu]; exact ⟨hne, ht⟩
          · exact i1.1 u hu
        · refine List.pairwise_cons.2 ⟨fun u hu => ?_, i1.2⟩
          obtain ⟨v, hv, hvu⟩ := i3 u hu
          rw [← hvu]
          exact hhd v hv
    · rw [cf_append, cf_oneP, i2, show t :: g ++ r = (t :: g) ++ r from rfl, cf_append, cf, cf_same hg]
      split <;> omega
    · rcases List.mem_append.1 hu with hu | hu
      · unfold oneP at hu
        split at hu
        · simp at hu
        · rw [List.mem_singleton.1 hu]; exact ⟨t, by simp, rfl⟩
      · obtain ⟨v, hv, hvu⟩ := i3 u hu
        exact ⟨v, by simp [hv], hvu⟩
theorem Coll.norm {p q l : PZ} (h : Coll p q) (hm : mayAll p) (hf : p.Pairwise fun a b => 0 ≤ compareM a.2 b.2) (hp : p.Perm l) : q = normP l := by
  obtain ⟨h1, h2, _⟩ := h.can hm hf
  have hl : mayAll l := fun t ht => hm t (hp.mem_iff.2 ht)
  exact canP_ext h1 (normP_can hl) (fun m _ => by rw [h2, normP_cf hl, cf_perm hp])

/-- how many limbs a number has -/
def lenI (z : Int) : Nat := (rep B32 z.natAbs).length
theorem lenI_lt {z : Int} {k : Nat} (h : z.natAbs < B32 ^ k) : lenI z ≤ k := rep_len_le two_le_B32 _ _ h
theorem lt_lenI (z : Int) : z.natAbs < B32 ^ lenI z := le_of_rep_len two_le_B32 _
theorem lenI_mono {z : Int} {j k : Nat} (h : lenI z ≤ j) (hk : j ≤ k) : z.natAbs < B32 ^ k := Nat.lt_of_lt_of_le (lt_lenI z) (Nat.pow_le_pow_right (by decide) (Nat.le_trans h hk))
theorem ofI_len (z : Int) : (ofI z).mag.length = lenI z := rfl
theorem valI_len {r : RInt} (h : okI r) : lenI (valI r) ≤ r.mag.length := by
  refine lenI_lt ?_
  have := val_lt (B := B32) r.mag h
  unfold valI
  split <;> simpa using this
/-- all coefficients are below a power -/
def bndZ (k : Nat) (p : PZ) : Prop := ∀ t ∈ p, t.1.natAbs < B32 ^ k
theorem bndZ.mono {j k : Nat} {p : PZ} (h : bndZ j p) (hjk : j ≤ k) : bndZ k p := fun t ht => Nat.lt_of_lt_of_le (h t ht) (Nat.pow_le_pow_right (by decide) hjk)
theorem bndZ.append {k : Nat} {p q : PZ} (h : bndZ k p) (h' : bndZ k q) : bndZ k (p ++ q) := fun t ht => by
  rcases List.mem_append.1 ht with ht | ht
  · exact h t ht
  · exact h' t ht
theorem cf_bnd {k : Nat} {p : PZ} (h : bndZ k p) (m : Mono) : (cf p m).natAbs ≤ p.length * B32 ^ k := by
  induction p with
  | nil => simp [cf]
  | cons t r ih =>
    have h1 := h t (by simp)
    have h2 := ih (fun u hu => h u (by simp [hu]))
    simp only [cf, List.length_cons, Nat.add_mul, Nat.one_mul]
    generalize B32 ^ k = b at *
    generalize r.length * b = c at *
    split <;> omega
theorem normP_bnd {k : Nat} {p : PZ} (hm : mayAll p) (h : bndZ k p) (hl : p.length < B32 ^ 2) : bndZ (k + 2) (normP p) := by
  intro t ht
  have hc := (normP_can hm).cf_mem ht
  rw [normP_cf hm] at hc
  have := cf_bnd h t.2
  rw [hc] at this
  refine Nat.lt_of_le_of_lt this ?_
  rw [Nat.pow_add, Nat.mul_comm]
  exact Nat.mul_lt_mul_of_pos_left hl (Nat.pow_pos (by decide))
theorem sum_len {z : Int} {g : PZ} {k : Nat} (h0 : z.natAbs < B32 ^ k) (h : bndZ k g) (hl : g.length + 1 < B32 ^ 2) : lenI (z + sumP g) ≤ k + 2 := by
  refine lenI_lt ?_
  have h1 : (sumP g).natAbs ≤ g.length * B32 ^ k := by
    clear hl
    induction g with
    | nil => simp [sumP]
    | cons u g ih =>
      have h1 := h u (by simp)
      have h2 := ih (fun v hv => h v (by simp [hv]))
      have e : sumP (u :: g) = u.1 + sumP g := rfl
      rw [e]
      simp only [List.length_cons, Nat.add_mul, Nat.one_mul]
      generalize B32 ^ k = b at *
      generalize g.length * b = c at *
      omega
  rw [Nat.pow_add, Nat.mul_comm]
  have h2 : (g.length + 1) * B32 ^ k < B32 ^ 2 * B32 ^ k := Nat.mul_lt_mul_of_lt_of_le hl (Nat.le_refl _) (Nat.pow_pos (by decide))
  refine Nat.lt_of_le_of_lt ?_ h2
  rw [Nat.add_mul, Nat.one_mul]
  omega
theorem sumP_snoc (g : PZ) (t : Int × Mono) : sumP (g ++ [t]) = sumP g + t.1 := by
  induction g with
  | nil => simp [sumP]
  | cons u g ih =>
    have e : ∀ l, sumP (u :: l) = u.1 + sumP l := fun _ => rfl
    rw [List.cons_append, e, e, ih]
    omega
end Go.Proofs.YthplgldclilccaaGreat
