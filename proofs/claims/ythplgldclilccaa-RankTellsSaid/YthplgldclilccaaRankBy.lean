/- Is a polynomial reduced by each of some? -/
import Derived.Test.YthplgldclilccaaRank
namespace Go.Proofs.Ythplgldclilccaa
open Go.RowKit

theorem Polys.form {S : Nat → Prop} {w : World} {v : Value} {zs : List (List RTerm)} (h : Polys S w v zs) : ∃ a cap, v = .slice a zs.length cap := by
  obtain ⟨b, off, ⟨a, cap, h1, _⟩, _⟩ := h
  exact ⟨a, cap, h1⟩
theorem Polys.ext {S : Nat → Prop} {w W : World} {v : Value} {zs : List (List RTerm)} (h : Polys S w v zs) (hx : Ext w W) (hS : ∀ k, S k → k < w.heap.size) : Polys S W v zs := h.to (Kept.ext hx hS) (fun _ h => h)
theorem Polys.len_le {S : Nat → Prop} {w : World} {v : Value} {zs : List (List RTerm)} (h : Polys S w v zs) : zs.length ≤ 9223372036854775807 := by
  obtain ⟨b, off, ⟨a, cap, h1, h2, h3, _⟩, _⟩ := h
  unfold maxLen at h3
  omega
theorem Polys.cellAt {S : Nat → Prop} {w : World} {ts : List (List RTerm)} {a : Option Addr} {n cap k : Nat} {t : List RTerm} (h : Polys S w (.slice a n cap) ts) (ht : ts[k]? = some t) :
    ∃ b off vp, a = some ⟨b, off, none⟩ ∧ n = ts.length ∧ n ≤ cap ∧ cap ≤ 9223372036854775807 ∧ S b ∧ w.cell? ⟨b, off + k, none⟩ = some vp ∧ Terms S w vp t := by
  obtain ⟨b, off, ⟨a', cap', h1, h2, h3, h4, h5⟩, hc⟩ := h
  obtain ⟨rfl, rfl, rfl⟩ : a = a' ∧ n = ts.length ∧ cap = cap' := by simpa using h1
  have hp : 0 < ts.length := by have := lt_of_some ht; omega
  obtain ⟨vp, g1, g2⟩ := hc k t ht
  exact ⟨b, off, vp, h4 hp, rfl, h2, h3, h5 hp, g1, g2⟩

def smallL (l : List (List RTerm)) : Prop := ∀ p ∈ l, smallT p
def byP (p : PZ) (l : List (List RTerm)) : Bool := l.all fun q => reducedP p (plainP q)

set_option maxRecDepth 100000 in
theorem by_each {S : Nat → Prop} (vp vq : Value) (ps qs : List RTerm) (b : Nat) (w : World) (hc : w.cell? ⟨b, 0, none⟩ = some vp) (hp : Terms S w vp ps) (hq : Terms S w vq qs) (hS : ∀ k, S k → k < w.heap.size) (hrp : smallT ps) (hrq : smallT qs) :
    Calls Try.prog 41 #[vq, .pointer (some ⟨b, 0, none⟩)] w fun e w' => e = .returned (.bool (!reducedP (plainP ps) (plainP qs))) ∧ Ext w w' := by
  have hnot : ∀ (x : Bool) (w : World), (Op.unary .not (.bool x)).run Try.prog w = .ok (.bool (!x)) w := fun _ _ => rfl
  have HP := hid hp
  have HQ := hid hq
  have HRP := hid hrp
  have HRQ := hid hrq
  obtain ⟨ap, cp, rfl⟩ := hp.form
  obtain ⟨aq, cq, rfl⟩ := hq.form
  clear hp hq hrp hrq
  go_enter Try.func41, Try.ntmps41
  go_wp2_with fail
  refine (rank_reduced _ _ ps qs w HP.out HQ.out hS HRP.out HRQ.out).mono ?_
  rintro e w1 ⟨rfl, hx1⟩
  have HX1 := hid hx1
  clear hx1
  go_wp2
  all_goals
    go_ret
    exact ⟨rfl, HX1.out⟩

set_option maxRecDepth 100000 in
set_option maxHeartbeats 1000000 in
theorem by_index {S : Nat → Prop} (vp vl : Value) (ps : List RTerm) (ls : List (List RTerm)) (b : Nat) (w : World) (hc : w.cell? ⟨b, 0, none⟩ = some vp) (hp : Terms S w vp ps) (hl : Polys S w vl ls) (hS : ∀ k, S k → k < w.heap.size) (hrp : smallT ps) (hrl : smallL ls) :
    Calls Try.prog 78 #[vl, .func (.func 41) #[] #[.pointer (some ⟨b, 0, none⟩)]] w fun e w' => ∃ n : Int, e = .returned (.int .i64 n) ∧ -1 ≤ n ∧ n ≤ 9223372036854775807 ∧ (0 ≤ n ↔ byP (plainP ps) ls = false) ∧ Ext w w' := by
  have HC := hid hc
  have HP := hid hp
  have HL := hid hl
  have HRP := hid hrp
  have HRL := hid hrl
  have hle := hl.len_le
  obtain ⟨a, cap, rfl⟩ := hl.form
  clear hp hl hrp hrl hc
  go_enter Try.func78, Try.ntmps78
  go_wp2
  go_loopw [8] (fun i wr => ∃ k : Nat, k ≤ ls.length ∧ i = .int .i64 k ∧ Ext w wr ∧ byP (plainP ps) (ls.take k) = true) (fun i _ => ls.length - (intOf i).toNat)
  case atStart => exact ⟨0, Nat.zero_le _, rfl, Ext.refl _, rfl⟩
  case round =>
    obtain ⟨k, hk, rfl, hx, hm⟩ := hrel
    by_cases hlt : k < ls.length
    · obtain ⟨q, hq⟩ := some_of_lt hlt
      obtain ⟨bl, off, vq, rfl, -, hn1, hm1, hSb, h1, h2⟩ := HL.out.cellAt hq
      have HRQ := hid (HRL.out q (List.mem_of_getElem? hq))
      have g1 := Ext.cell hx h1
      have HX := hid hx
      have H2 := hid h2
      have HQ := hid hq
      have HM := hid hm
      have ht : ls.take (k + 1) = ls.take k ++ [q] := by rw [List.take_add_one, hq]; rfl
      have HT := hid ht
      obtain ⟨aq, cq, rfl⟩ := h2.form
      have hcl := by_each (S := S) vp (.slice aq q.length cq) ps q b wr (hx.cell HC.out) (HP.out.ext hx hS) (h2.ext hx hS) (lt_ext hS hx) HRP.out HRQ.out
      have HCL := hid hcl
      clear hcl h1 h2 hx hq hm ht
      go_wp2_with fail
      refine HCL.out.mono ?_
      rintro e w1 ⟨rfl, hx1⟩
      have HX1 := hid (HX.out.trans hx1)
      clear hx1
      cases hr : reducedP (plainP ps) (plainP q) with
      | true =>
        have HR := hid hr
        clear hr
        go_wp2
        go_roundw
        case rel => exact ⟨k + 1, by omega, by go_num, HX1.out, by rw [HT.out]; unfold byP at HM ⊢; rw [List.all_append, HM.out]; simp [HR.out]⟩
        case measure => simp only [intOf]; omega
      | false =>
        have HR := hid hr
        clear hr
        go_wp2
        go_ret
        refine ⟨(k : Int), rfl, by omega, by omega, ⟨fun _ => ?_, fun _ => by omega⟩, HX1.out⟩
        unfold byP
        rw [List.all_eq_false]
        exact ⟨q, List.mem_of_getElem? HQ.out, by rw [HR.out]; simp⟩
    · obtain rfl : k = ls.length := by omega
      have HX := hid hx
      rw [List.take_length] at hm
      have HM := hid hm
      clear hx hm
      go_wp2
      go_ret
      exact ⟨-1, rfl, by omega, by omega, by rw [HM.out]; simp, HX.out⟩

set_option maxRecDepth 100000 in
set_option maxHeartbeats 1000000 in
theorem by_contains {S : Nat → Prop} (vp vl : Value) (ps : List RTerm) (ls : List (List RTerm)) (b : Nat) (w : World) (hc : w.cell? ⟨b, 0, none⟩ = some vp) (hp : Terms S w vp ps) (hl : Polys S w vl ls) (hS : ∀ k, S k → k < w.heap.size) (hrp : smallT ps) (hrl : smallL ls) :
    Calls Try.prog 40 #[vl, .func (.func 41) #[] #[.pointer (some ⟨b, 0, none⟩)]] w fun e w' => e = .returned (.bool (!byP (plainP ps) ls)) ∧ Ext w w' := by
  have HI := hid (by_index vp vl ps ls b w hc hp hl hS hrp hrl)
  obtain ⟨a, cap, rfl⟩ := hl.form
  clear hc hp hl hrp hrl
  go_enter Try.func40, Try.ntmps40
  go_wp2_with fail
  refine HI.out.mono ?_
  rintro e w1 ⟨n, rfl, hn1, hn2, hn3, hx1⟩
  have HX1 := hid hx1
  have HN := hid hn3
  clear hx1 hn3
  by_cases hn : 0 ≤ n
  · have HF := hid (HN.out.1 hn)
    go_wp2
    go_ret
    exact ⟨by rw [HF.out]; rfl, HX1.out⟩
  · have HF : Hid (byP (plainP ps) ls = true) := by
      cases h : byP (plainP ps) ls with
      | true => exact hid rfl
      | false => exact absurd (HN.out.2 h) hn
    go_wp2
    go_ret
    exact ⟨by rw [HF.out]; show Ending.returned (.bool (decide (0 ≤ n))) = _; rw [decide_eq_false (by omega)]; rfl, HX1.out⟩

set_option maxRecDepth 100000 in
set_option maxHeartbeats 1000000 in
theorem rank_by {S : Nat → Prop} (vp vl : Value) (ps : List RTerm) (ls : List (List RTerm)) (w : World) (hp : Terms S w vp ps) (hl : Polys S w vl ls) (hS : ∀ k, S k → k < w.heap.size) (hrp : smallT ps) (hrl : smallL ls) :
    Calls Try.prog 17 #[vp, vl] w fun e w' => e = .returned (.bool (byP (plainP ps) ls)) ∧ Ext w w' := by
  have hnot : ∀ (x : Bool) (w : World), (Op.unary .not (.bool x)).run Try.prog w = .ok (.bool (!x)) w := fun _ _ => rfl
  have hmf : ∀ (fn : Fn) (first cap : Array Value) (w : World), (Instr.makeFunc fn first cap).run Try.prog w = .ok (.func fn first cap) w := fun _ _ _ _ => rfl
  have HP := hid hp
  have HL := hid hl
  have HRP := hid hrp
  have HRL := hid hrl
  obtain ⟨ap, cp, rfl⟩ := hp.form
  obtain ⟨al, cl, rfl⟩ := hl.form
  clear hp hl hrp hrl
  have HK := hid (Ext.alloc (Ext.refl w) (.cells #[.slice ap ps.length cp] 23))
  have HCC := hid (cell_new w #[.slice ap ps.length cp] 23 (b := w.heap.size) (i := 0) rfl rfl)
  have hcl := by_contains (S := S) (.slice ap ps.length cp) (.slice al ls.length cl) ps ls w.heap.size _ HCC.out (HP.out.ext HK.out hS) (HL.out.ext HK.out hS) (lt_ext hS HK.out) HRP.out HRL.out
  have HCL := hid hcl
  clear hcl
  go_enter Try.func17, Try.ntmps17
  go_wp2_with fail
  refine HCL.out.mono ?_
  rintro e w1 ⟨rfl, hx1⟩
  have HX1 := hid (HK.out.trans hx1)
  clear hx1
  go_wp2
  all_goals
    go_ret
    exact ⟨by simp, HX1.out⟩
end Go.Proofs.Ythplgldclilccaa
