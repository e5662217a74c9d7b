/- An array of all variables' exponents, by value and in memory. The document's monomials: which may be, their exponents. The document's monomials: the array of all exponents. The document's monomials: order, class, degree. The document's monomials: class, degree, out of exponents. The document's product of monomials. Decimal digits in memory, as the document's numbers have them. Decimal digits out of limbs and back. Decimal digits: held against each other, summed up, subtracted, multiplied. Decimal digits: sums, differences, products. Decimal digits: the product. Degree, rank, the order of ranks, what is reduced. The document's whole numbers: a sign and digits. A region that draws its order: what reads first, then calls that make memory, one behind the other. The document's whole numbers: as data, small ones, sign, the same, canonical. The document's whole numbers: small ones, products, sums. -/
import Derived.Deep.WholeRow
import Derived.Deep.MidRow
import Derived.Deep.OwnRows
import Derived.ChangeKeysEq
import Derived.StillTailTactics
import Derived.StillTail
import Derived.OrdersHeld
import Derived.Test.YthdcaablomgboaaGreatRs2
set_option maxRecDepth 100000
set_option maxHeartbeats 16000000
namespace Go.Proofs.YthdcaablomgboaaGreat
section
open Go.RowKit
def iv (f : Nat → Int) : Nat → Value := fun j => .int .i64 (f j)
def tabA (f : Nat → Int) : Array Value := ((List.range 201).map (iv f)).toArray
def arrV (f : Nat → Int) : Value := .agg (tabA f)
theorem z3u (f : Nat → Int) : (tabA f).size = 201 := by simp [tabA]
theorem zah (f : Nat → Int) {i : Nat} (h : i < 201) : (tabA f)[i]? = some (iv f i) := by simp [tabA, h]
theorem zqt (f : Nat → Int) : (tabA f).all (·.oneCell') = true := by
 refine Array.all_eq_true_iff_forall_mem.2 (fun v hv => ?_)
 simp only [tabA, List.mem_toArray, List.mem_map] at hv
 obtain ⟨j, _, rfl⟩ := hv
 rfl
theorem zha {c : Array Value} {f : Nat → Int} (hs : c.size = 201) (h : ∀ i, i < 201 → c[i]? = some (iv f i)) : c = tabA f := by
 apply Array.ext_getElem?
 intro i
 by_cases hi : i < 201
 ·rw [h i hi, zah f hi]
 ·rw [Array.getElem?_eq_none (by omega), Array.getElem?_eq_none (by rw [z3u]; omega)]
theorem Tryz.infoArr : (Tryz.prog.info? 200).map (fun i => (i.zero, i.size)) = some (some (.agg (tabA fun _ => 0)), 201) := by kernel_rfl
theorem Tryz.sizeArr : (Tryz.prog.info? 200).map (·.size) = some 201 := by kernel_rfl
theorem Tryz.sizeInt1 : (Tryz.prog.info? 3).map (·.size) = some 1 := by kernel_rfl
theorem z5y (f : Nat → Int) (w : World) : (w.alloc (.cells (tabA f) 200)).rowIs w.heap.size 200 201 (iv f) :=
 ⟨tabA f, heap_alloc_new w _, z3u f, fun _i hi => zah f hi⟩
section
variable {ops : Array Oper} {rest : List Oper} {op : Oper} {a : Act} {Q : Exit → Act → World → Prop}
theorem z3b {W : World} {g : Nat} {f : Nat → Int} (hgd : op.guard = none) (x : Operand) (ho : op.op = .load 200 x) (hx : a.eval x = .pointer (some ⟨g, 0, none⟩)) (hrow : W.rowIs g 200 201 (iv f))
  (h : wpList Tryz.prog ops Q rest (a.put op.dst (arrV f)) W) : wpList Tryz.prog ops Q (op :: rest) a W := by
 obtain ⟨c, hc, hs, hi⟩ := hrow
 obtain rfl := zha hs hi
 refine wpList_plain hgd fun K hK => ?_
 unfold Oper.wp execOp
 have hl := run_loadVar_row (P := Tryz.prog) W g 200 200 (tabA f) (0, 0) _ hc Tryz.underlying200 rfl (by rw [z3u]; exact Tryz.sizeArr)
 simp only [ho, hx, Instr.loadAt, Instr.sureAddr, Sem.run_bind, Sem.run_pure, Result.andThen_ok, hl]
 exact hK _ _ h
theorem z1e {W : World} {g : Nat} {f f0 : Nat → Int} (hgd : op.guard = none) (x y : Operand) (ho : op.op = .store 200 x y) (hx : a.eval x = .pointer (some ⟨g, 0, none⟩)) (hy : a.eval y = arrV f) (hrow : W.rowIs g 200 201 (iv f0))
  (h : ∀ W', W'.rowIs g 200 201 (iv f) → W.grownBy W' (some g) → wpList Tryz.prog ops Q rest (a.put op.dst undef) W') : wpList Tryz.prog ops Q (op :: rest) a W := by
 obtain ⟨c, hc, hs, hi⟩ := hrow
 obtain rfl := zha hs hi
 refine wpList_plain hgd fun K hK => ?_
 unfold Oper.wp execOp
 have hl := run_storeVar_row (P := Tryz.prog) W g 200 200 (tabA f0) (tabA f) hc (by rw [z3u]; exact Tryz.sizeArr) (by rw [z3u, z3u]) (zqt f)
 unfold arrV at hy
 simp only [ho, hx, hy, Instr.storeAt, Instr.sureAddr, Sem.run_bind, Sem.run_pure, Result.andThen_ok, hl]
 refine hK _ _ (h _ ⟨tabA f, ?_, z3u f, fun i hi => zah f hi⟩ ?_)
 ·have hg := (Array.getElem?_eq_some_iff.1 hc).1
  simp only [World.setRow, Array.getElem?_modify]
  simp [hc]
 ·refine ⟨rfl, rfl, rfl, by simp [World.setRow], fun k hk hne => ?_⟩
  simp only [World.setRow, Array.getElem?_modify]
  rw [if_neg (fun e => hne (by rw [e]))]
end
theorem zmn (f : Nat → Int) (x : Int) (w : World) (h0 : 0 ≤ x) (h1 : x < 201) : (Instr.index 200 (arrV f) (.int .i64 x)).run Tryz.prog w = .ok (.int .i64 (f x.toNat)) w := by
 have hx : x.toNat < 201 := by omega
 have hg := zah f hx
 have hp := run_part_plain (P := Tryz.prog) (w := w) (e := 3) (by kernel_rfl) hg
 have hs : (sizeOf 3).run Tryz.prog w = .ok 1 w := by
  cases hq : Tryz.prog.info? 3 with
  | none => have := Tryz.sizeInt1; rw [hq] at this; cases this
  | some i =>
   have := Tryz.sizeInt1
   rw [hq] at this
   simp at this
   simp [sizeOf, typeInfo, hq, this]
 simp [Instr.index, arrV, asIntOf, run_underlying Tryz.underlying200, h0, h1, hs, hp, iv]
end
section
open Go.RowKit
theorem Pows.ext' {S : Nat → Prop} {w W : World} {v : Value} {zs : Mono} (h : Pows S w v zs) (hx : Ext w W) (hS : ∀ k, S k → k < w.heap.size) : Pows S W v zs := h.to (Kept.ext hx hS) (fun _ h => h)
theorem Pows.cellAt {S : Nat → Prop} {w : World} {m : Mono} {a : Option Addr} {n cap k : Nat} {x : Int × Int} (h : Pows S w (.slice a n cap) m) (hx : m[k]? = some x) :
  ∃ b off, a = some ⟨b, off, none⟩ ∧ n = m.length ∧ n ≤ cap ∧ cap ≤ 9223372036854775807 ∧ S b ∧
   ((-9223372036854775808 ≤ x.1 ∧ x.1 ≤ 9223372036854775807) ∧ -9223372036854775808 ≤ x.2 ∧ x.2 ≤ 9223372036854775807) ∧
   w.cell? ⟨b, off + k * 2, none⟩ = some (.int .i64 x.1) ∧ w.cell? ⟨b, off + k * 2 + 1, none⟩ = some (.int .i64 x.2) := by
 obtain ⟨b, off, ⟨a', cap', h1, h2, h3, h4, h5⟩, hc⟩ := h
 obtain ⟨rfl, rfl, rfl⟩ : a = a' ∧ n = m.length ∧ cap = cap' := by simpa using h1
 have hp : 0 < m.length := by have := z04 hx; omega
 exact ⟨b, off, h4 hp, rfl, h2, h3, h5 hp, (hc k x hx).1, (hc k x hx).2.1, (hc k x hx).2.2⟩
def z7z (m : Mono) : Nat → Int
 | 0 => 0
 | k + 1 => ((m[k]?).map (·.1)).getD 0
theorem z8m {S : Nat → Prop} (v : Value) (m : Mono) (w : World) (h : Pows S w v m) (hS : ∀ k, S k → k < w.heap.size) :
  Calls Tryz.prog 75 #[v] w fun e w' => e = .returned (.bool (mayM m)) ∧ Ext w w' := by
 have hl := h.len_le
 have H := hid h
 obtain ⟨a, cap, rfl⟩ := h.form
 clear h
 go_enter Tryz.func75, Tryz.ntmps75
 go_wp2
 go_loopw [3] (fun i wr => ∃ k : Nat, k ≤ m.length ∧ i = .int .i64 k ∧ Ext w wr ∧ mayM m = z0d (z7z m k) (m.drop k) ∧ 0 ≤ z7z m k) (fun i _ => m.length - (intOf i).toNat)
 case atStart => exact ⟨0, Nat.zero_le _, rfl, Ext.refl _, rfl, by simp [z7z]⟩
 case round =>
  obtain ⟨k, hk, rfl, hx, hm, hl0⟩ := hrel
  by_cases hlt : k < m.length
  ·obtain ⟨t, ht⟩ := z00 hlt
   have hT := z5t ht
   rw [hT, z0d] at hm
   have hl1 : z7z m (k + 1) = t.1 := by simp [z7z, ht]
   obtain ⟨b, off, rfl, -, hn1, hm1, hSb, ⟨hb1, hb2⟩, h1, h2⟩ := (H.out.ext' hx hS).cellAt ht
   have HM := hid hm
   have HX := hid hx
   have HL1 := hid hl1
   obtain ⟨x, z⟩ := t
   simp only at h1 h2 hb1 hb2 HM HL1
   clear hm hT hl1
   by_cases hbad : x < 1 ∨ 200 < x ∨ z < 1 ∨ 10000 < z
   ·have hf : Hid (mayM m = false) := hid (by
     rw [HM.out]
     have : ¬ (z7z m k < x ∧ x ≤ 200 ∧ 1 ≤ z ∧ z ≤ 10000) := by omega
     simp [this])
    clear hx ht hl0
    rcases hbad with g | g | g | g <;> go_wp2
    all_goals
     go_ret
     exact ⟨by rw [hf.out]; rfl, HX.out⟩
   ·have g1 : 1 ≤ x := by omega
    have g2 : x ≤ 200 := by omega
    have g3 : 1 ≤ z := by omega
    have g4 : z ≤ 10000 := by omega
    clear hbad ht hl0
    cases k with
    | zero =>
     simp only [Nat.zero_mul, Nat.add_zero] at h1 h2
     have hf : Hid (mayM m = z0d (z7z m (0 + 1)) (m.drop (0 + 1))) := hid (by
      rw [HM.out, HL1.out]
      have : z7z m 0 < x ∧ x ≤ 200 ∧ 1 ≤ z ∧ z ≤ 10000 := ⟨by show (0 : Int) < x; omega, g2, g3, g4⟩
      simp [this])
     have hl2 : Hid (0 ≤ z7z m (0 + 1)) := hid (by rw [HL1.out]; omega)
     clear hx
     go_wp2
     go_quiet (fail)
     go_wp2
     go_roundw
     case rel => exact ⟨0 + 1, by omega, by go_num, HX.out.drewN _, hf.out, hl2.out⟩
     case measure => simp only [intOf]; omega
    | succ q =>
     obtain ⟨y, hy⟩ := z00 (show q < m.length by omega)
     obtain ⟨b', off', hbb, -, -, -, -, ⟨hc1, hc2⟩, h3, h4⟩ := (H.out.ext' hx hS).cellAt hy
     obtain ⟨rfl, rfl⟩ : b = b' ∧ off = off' := by simpa using hbb
     have hl3 : z7z m (q + 1) = y.1 := by simp [z7z, hy]
     have HL3 := hid hl3
     obtain ⟨u, t⟩ := y
     simp only at h3 h4 hc1 hc2 HL3
     have hq1 : ((q : Nat) : Int) + 1 - 1 = (q : Int) := by omega
     clear hy hbb hl3 hx
     by_cases hux : u < x
     ·have hf : Hid (mayM m = z0d (z7z m (q + 1 + 1)) (m.drop (q + 1 + 1))) := hid (by
       rw [HM.out, HL1.out]
       have : z7z m (q + 1) < x ∧ x ≤ 200 ∧ 1 ≤ z ∧ z ≤ 10000 := ⟨by rw [HL3.out]; exact hux, g2, g3, g4⟩
       simp [this])
      have hl2 : Hid (0 ≤ z7z m (q + 1 + 1)) := hid (by rw [HL1.out]; omega)
      have hd : decide (x ≤ u) = false := decide_eq_false (by omega)
      go_wp2
      go_quiet (fail)
      go_wp2
      go_roundw
      case rel => exact ⟨q + 1 + 1, by omega, by go_num, HX.out.drewN _, hf.out, hl2.out⟩
      case measure => simp only [intOf]; omega
     ·have hf : Hid (mayM m = false) := hid (by
       rw [HM.out]
       have : ¬ (z7z m (q + 1) < x ∧ x ≤ 200 ∧ 1 ≤ z ∧ z ≤ 10000) := by rw [HL3.out]; omega
       simp [this])
      have hd : decide (x ≤ u) = true := decide_eq_true (by omega)
      go_wp2
      go_quiet (fail)
      go_wp2
      all_goals
       go_ret
       exact ⟨by rw [hf.out]; rfl, HX.out.drewN _⟩
  ·obtain rfl : k = m.length := by omega
   have HX := hid hx
   have hf : Hid (mayM m = true) := hid (by rw [hm, List.drop_length]; rfl)
   clear hx hm hl0
   go_wp2
   all_goals
    go_ret
    exact ⟨by rw [hf.out]; rfl, HX.out⟩
end
section
open Go.RowKit
def exF (m : Mono) : Nat → Int := fun v => ex (z10 m) v
theorem zii {W : World} {g : Nat} {f : Nat → Int} (hrow : W.rowIs g 200 201 (iv f)) : (loadVar 200 ⟨g, 0, none⟩).run Tryz.prog W = .ok (arrV f) W := by
 obtain ⟨c, hc, hs, hi⟩ := hrow
 obtain rfl := zha hs hi
 exact run_loadVar_row (P := Tryz.prog) W g 200 200 (tabA f) (0, 0) _ hc Tryz.underlying200 rfl (by rw [z3u]; exact Tryz.sizeArr)
theorem z9u {n k : Nat} (h : some n = some k) : n ≤ k := by
 cases h
 exact Nat.le_refl _
theorem z9v {P : Program} {fn : Func} {tmps : Array Value} {t T g : Nat} {v : Value} {W : World} (hr : fn.results = #[.cell t T]) (ht : tmps.getD t undef = .pointer (some ⟨g, 0, none⟩)) (hl : (loadVar T ⟨g, 0, none⟩).run P W = .ok v W) : (results fn tmps).run P W = .ok v W := by
 have ht' : tmps[t]?.getD undef = .pointer (some ⟨g, 0, none⟩) := by rw [← ht]; simp
 simp [results, hr, ht', asAddr, hl]
theorem zf5 {w W : World} {g : Nat} {f : Nat → Value} {T : TypeId} {n : Nat} {row : Option Nat} (h : w.rowIs g T n f) (hg : w.grownBy W row) (hne : some g ≠ row) : W.rowIs g T n f := by
 obtain ⟨c, hc, hs, hi⟩ := h
 exact ⟨c, (hg.block g (Array.getElem?_eq_some_iff.1 hc).1 hne).trans hc, hs, hi⟩
theorem z4r {w W : World} {g : Nat} {f : Nat → Value} {T : TypeId} {n : Nat} (h : w.rowIs g T n f) (hx : Ext w W) : W.rowIs g T n f := by
 obtain ⟨c, hc, hs, hi⟩ := h
 exact ⟨c, (hx.block g (Array.getElem?_eq_some_iff.1 hc).1).trans hc, hs, hi⟩
theorem zmo {w : World} {g : Nat} {f : Nat → Value} {T : TypeId} {n : Nat} {a : Addr} (h : w.rowIs g T n f) (hne : g ≠ a.block) (u : Value) : (w.setCell a u).rowIs g T n f := by
 obtain ⟨c, hc, hs, hi⟩ := h
 exact ⟨c, (Below.heap_setCell w a u g hne).trans hc, hs, hi⟩
theorem World.rowIs.drewN' {w : World} {g n : Nat} {T : TypeId} {f : Nat → Value} (h : w.rowIs g T n f) : w.drew.rowIs g T n f := h
theorem zuc {l : Mono} {x : Int × Int} {v : Int} (h : ∀ y ∈ l, y.1 ≠ x.1) : ex (l ++ [x]) v = if x.1 = v then x.2 else ex l v := by
 induction l with
 | nil => rfl
 | cons y r ih =>
  have ih := ih (fun z hz => h z (by simp [hz]))
  simp only [List.cons_append, ex, ih]
  by_cases hv : x.1 = v
  ·have : ¬ y.1 = v := fun e => h y (by simp) (e.trans hv.symm)
   simp [this, hv]
  ·rw [if_neg hv, if_neg hv]
theorem zkd {last : Int} {m : Mono} (h : z0d last m = true) : ∀ y ∈ m, last < y.1 := by
 induction m generalizing last with
 | nil => intro y hy; simp at hy
 | cons x r ih =>
  simp only [z0d, Bool.and_eq_true, decide_eq_true_eq] at h
  intro y hy
  rcases List.mem_cons.1 hy with rfl | hy
  ·exact h.1.1
  ·have := ih h.2 y hy
   omega
theorem z8n {last : Int} {m : Mono} {k : Nat} {x : Int × Int} (h : z0d last m = true) (hx : m[k]? = some x) : (∀ y ∈ m.take k, y.1 ≠ x.1) ∧ 1 ≤ x.2 ∧ x.2 ≤ 10000 ∧ last < x.1 ∧ x.1 ≤ 200 := by
 induction m generalizing last k with
 | nil => simp at hx
 | cons y r ih =>
  have h0 := zkd h
  simp only [z0d, Bool.and_eq_true, decide_eq_true_eq] at h
  cases k with
  | zero =>
   obtain rfl : y = x := by simpa using hx
   refine ⟨fun z hz => by simp at hz, ?_⟩
   omega
  | succ k =>
   have hx' : r[k]? = some x := by simpa using hx
   obtain ⟨h1, h2, h3, h4, h5⟩ := ih h.2 hx'
   refine ⟨fun z hz => ?_, h2, h3, by omega, h5⟩
   rw [List.take_succ_cons] at hz
   rcases List.mem_cons.1 hz with rfl | hz
   ·omega
   ·exact h1 z hz
theorem zud {m : Mono} {k : Nat} {x : Int × Int} (h : mayM m = true) (hx : m[k]? = some x) (v : Int) : ex (m.take (k + 1)) v = if x.1 = v then x.2 else ex (m.take k) v := by
 rw [List.take_add_one, hx]
 exact zuc (z8n h hx).1
theorem z2k {m : Mono} (h : mayM m = true) : z10 m = m := by simp [z10, h]
theorem zmp {m : Mono} (h : mayM m = false) : z10 m = [] := by simp [z10, h]
theorem z3j {S : Nat → Prop} (v : Value) (m : Mono) (w : World) (h : Pows S w v m) (hS : ∀ k, S k → k < w.heap.size) :
  Calls Tryz.prog 124 #[v] w fun e w' => e = .returned (arrV (exF m)) ∧ Ext w w' := by
 have hz := (zero_of_info Tryz.infoArr).1
 have hcs : (Value.agg (tabA fun _ => 0)).cells = tabA fun _ => 0 := rfl
 have hnot : ∀ (x : Bool) (w : World), (Op.unary .not (.bool x)).run Tryz.prog w = .ok (.bool (!x)) w := fun _ _ => rfl
 have hl := h.len_le
 have H := hid h
 obtain ⟨a, cap, rfl⟩ := h.form
 clear h
 have HK := hid (Ext.alloc (Ext.alloc (Ext.refl w) (.cells (tabA fun _ => 0) 200)) (.cells (tabA fun _ => 0) 200))
 have HR1 := hid (z4r (z5y (fun _ => 0) w) (Ext.alloc (Ext.refl _) (.cells (tabA fun _ => 0) 200)))
 have hr2 := z5y (fun _ => 0) (w.alloc (.cells (tabA fun _ => 0) 200))
 rw [z02] at hr2
 have HR2 := hid hr2
 have HM := hid (z8m _ m _ (H.out.ext' HK.out hS) (z08 hS HK.out))
 clear hr2
 go_enter Tryz.func124, Tryz.ntmps124
 go_wp2_with fail
 refine HM.out.mono ?_
 rintro e w1 ⟨rfl, hx1⟩
 have HX1 := hid hx1
 have HQ1 := hid (z4r HR1.out hx1)
 have HQ2 := hid (z4r HR2.out hx1)
 clear hx1
 cases hm : mayM m with
 | false =>
  have HF : Hid (exF m = fun _ => 0) := hid (by funext v; unfold exF; rw [zmp hm]; rfl)
  clear hm
  go_wp2_with (first
   | (refine z3b rfl (.tmp 3) rfl rfl HQ2.out ?_)
   | (refine z1e rfl (.tmp 2) (.tmp 8) rfl rfl rfl HQ1.out ?_; intro W hrow hg; have HROW := hid hrow; have HG := hid hg; clear hrow hg))
  have hld := zii HROW.out
  refine bodyPost_ret (z9v Tryz.results124 rfl hld) rfl ?_
  exact ⟨by rw [HF.out], z0p (HK.out.trans HX1.out) HG.out (fun k hk => z9u hk)⟩
 | true =>
  have HMM := hid hm
  clear hm
  obtain ⟨wo, hwo⟩ : ∃ wo : World, wo = w1 := ⟨_, rfl⟩
  subst hwo
  go_wp2
  go_loopw [4] (fun i wr => ∃ k : Nat, k ≤ m.length ∧ i = .int .i64 k ∧ Hid (wr.rowIs (w.heap.size + 1) 200 201 (iv (fun v => ex (m.take k) v))) ∧ Hid (wr.rowIs w.heap.size 200 201 (iv fun _ => 0)) ∧ Ext w wr) (fun i _ => m.length - (intOf i).toNat)
  case atStart => exact ⟨0, Nat.zero_le _, rfl, HQ2, HQ1, HK.out.trans HX1.out⟩
  case round =>
   obtain ⟨k, hk, rfl, HA, HB, hx⟩ := hrel
   by_cases hlt : k < m.length
   ·obtain ⟨t, ht⟩ := z00 hlt
    obtain ⟨b, off, rfl, -, hn1, hm1, hSb, ⟨hb1, hb2⟩, h1, h2⟩ := (H.out.ext' hx hS).cellAt ht
    obtain ⟨_, g1, g2, g3, g4⟩ := z8n HMM.out ht
    have HT := hid (fun v => zud HMM.out ht v)
    have HX := hid hx
    have hbs := hS b hSb
    obtain ⟨x, z⟩ := t
    simp only at h1 h2 hb1 hb2 g1 g2 g3 g4 HT
    obtain ⟨x, rfl⟩ := Int.eq_ofNat_of_zero_le (Int.le_of_lt g3)
    have hx201 : x < 201 := by omega
    have hcs := HA.out.cell (i := x) hx201
    have hfs := HA.out.frozen x
    unfold iv at hcs
    have hxI0 : (0 : Int) ≤ (x : Int) := by omega
    have hxI1 : (x : Int) < 201 := by omega
    clear hx ht
    go_wp2
    have S0 : wr.drew.cell? ⟨b, off + k * 2, none⟩ = some (.int .i64 (x : Nat)) ∧ wr.drew.cell? ⟨b, off + k * 2 + 1, none⟩ = some (.int .i64 z) := ⟨by simpa using h1, by simpa using h2⟩
    go_region_held3 (fun W => W.cell? ⟨b, off + k * 2, none⟩ = some (.int .i64 (x : Nat)) ∧ W.cell? ⟨b, off + k * 2 + 1, none⟩ = some (.int .i64 z)) (first | exact S0 | exact ⟨z0b S0.1 (ab (by omega)), z0b S0.2 (ab (by omega))⟩) (fail)
    go_wp2
    go_roundw
    case rel =>
     refine ⟨k + 1, by omega, by go_num, hid ?_, hid (zmo HB.out (by simp) _), (HX.out.drew).setCell (p := ⟨w.heap.size + 1, x, none⟩) (by simp) _⟩
     refine (World.rowIs.set (World.rowIs.drewN' HA.out) x (.int .i64 z)).congr (fun i hi => ?_)
     show (if i = x then Value.int .i64 z else Value.int .i64 (ex (m.take k) (i : Nat))) = Value.int .i64 (ex (m.take (k + 1)) (i : Nat))
     rw [HT.out]
     by_cases e : i = x
     ·subst e
      simp
     ·have : ¬ ((x : Int) = (i : Int)) := fun h => e (by omega)
      simp [e, this]
    case measure => simp only [intOf]; omega
   ·obtain rfl : k = m.length := by omega
    have HX := hid hx
    have HF : Hid ((fun v : Nat => ex (m.take m.length) v) = exF m) := hid (by funext v; unfold exF; rw [z2k HMM.out, List.take_length])
    have hA := HA.out
    rw [HF.out] at hA
    have HA2 := hid hA
    clear hx hA
    go_wp2_with (first
     | (refine z3b rfl (.tmp 3) rfl rfl HA2.out ?_)
     | (refine z1e rfl (.tmp 2) (.tmp 26) rfl rfl rfl HB.out ?_; intro W hrow hg; have HROW := hid hrow; have HG := hid hg; clear hrow hg))
    have hld := zii HROW.out
    refine bodyPost_ret (z9v Tryz.results124 rfl hld) rfl ?_
    exact ⟨rfl, z0p HX.out HG.out (fun k hk => z9u hk)⟩
end
section
open Go.RowKit
theorem z7a (m : Mono) : mayM (z10 m) = true := by
 unfold z10
 split
 ·assumption
 ·rfl
def rcmp (a b : Mono) : Int := cmpE (ex (z10 a)) (ex (z10 b)) 200
theorem zmq {a b : Mono} (ha : mayM a = true) (hb : mayM b = true) : rcmp a b = z0f a b := by
 unfold rcmp
 rw [z2k ha, z2k hb, z20 ha hb]
theorem z8o {S : Nat → Prop} (va vb : Value) (a b : Mono) (w : World) (ha : Pows S w va a) (hb : Pows S w vb b) (hS : ∀ k, S k → k < w.heap.size) :
  Calls Tryz.prog 76 #[va, vb] w fun e w' => e = .returned (.int .i64 (rcmp a b)) ∧ Ext w w' := by
 have hz := (zero_of_info Tryz.infoArr).1
 have hcs : (Value.agg (tabA fun _ => 0)).cells = tabA fun _ => 0 := rfl
 have HA := hid ha
 have HB := hid hb
 obtain ⟨aa, ca, rfl⟩ := ha.form
 obtain ⟨ab1, cb, rfl⟩ := hb.form
 clear ha hb
 go_enter Tryz.func76, Tryz.ntmps76
 go_wp2_with fail
 refine (z3j _ a w HA.out hS).mono ?_
 rintro e w1 ⟨rfl, hx1⟩
 have HX1 := hid hx1
 clear hx1
 go_wp2_with (refine z1e rfl (.tmp 5) (.tmp 9) rfl rfl rfl (z5y (fun _ => 0) w1) ?_; intro w2 hrow hg; have HROW := hid hrow; have HG := hid hg; clear hrow hg)
 have HX2 : Hid (Ext w w2) := hid (z0p (HX1.out.alloc _) HG.out (fun k hk => Nat.le_trans HX1.out.size (z9u hk)))
 refine (z3j _ b w2 (HB.out.ext' HX2.out hS) (z08 hS HX2.out)).mono ?_
 rintro e w3 ⟨rfl, hx3⟩
 have HX3 := hid (HX2.out.trans hx3)
 have hsz : w1.heap.size < w2.heap.size := by
  have := HG.out.size
  rw [z02] at this
  omega
 have HSZ : Hid (w1.heap.size < w3.heap.size) := hid (Nat.lt_of_lt_of_le hsz hx3.size)
 have HROW3 := hid (z4r HROW.out hx3)
 clear hx3 hsz
 go_wp2_with (refine z1e rfl (.tmp 6) (.tmp 11) rfl rfl rfl (z5y (fun _ => 0) w3) ?_; intro w4 hrow hg; have HROWB := hid hrow; have HG2 := hid hg; clear hrow hg)
 have HX4 : Hid (Ext w w4) := hid (z0p (HX3.out.alloc _) HG2.out (fun k hk => Nat.le_trans HX3.out.size (z9u hk)))
 have HROWA : Hid (w4.rowIs w1.heap.size 200 201 (iv (exF a))) := hid (zf5 (z4r HROW3.out (Ext.alloc (Ext.refl _) _)) HG2.out (fun e => by
  have := HSZ.out
  have h1 : w1.heap.size = w3.heap.size := by simpa using e
  omega))
 obtain ⟨ga, hga⟩ : ∃ g, g = w1.heap.size := ⟨_, rfl⟩
 obtain ⟨gb, hgb⟩ : ∃ g, g = w3.heap.size := ⟨_, rfl⟩
 rw [← hga] at HROWA ⊢
 rw [← hgb] at HROWB ⊢
 clear hga hgb
 go_loopw [7] (fun v wr => ∃ k : Nat, k ≤ 200 ∧ v = .int .i64 k ∧ Ext w4 wr ∧ rcmp a b = cmpE (ex (z10 a)) (ex (z10 b)) k) (fun v _ => (intOf v).toNat)
 case atStart => exact ⟨200, by omega, rfl, Ext.refl _, rfl⟩
 case round =>
  obtain ⟨k, hk, rfl, hx, hc⟩ := hrel
  have HX := hid hx
  by_cases h0 : 1 ≤ k
  ·have hk201 : k < 201 := by omega
   have hca := (z4r HROWA.out hx).cell (i := k) hk201
   have hcb := (z4r HROWB.out hx).cell (i := k) hk201
   unfold iv exF at hca hcb
   obtain ⟨q, hq⟩ : ∃ q, k = q + 1 := ⟨k - 1, by omega⟩
   have hst : cmpE (ex (z10 a)) (ex (z10 b)) k = if ex (z10 a) (k : Nat) = ex (z10 b) (k : Nat) then cmpE (ex (z10 a)) (ex (z10 b)) q else cmpI (ex (z10 a) (k : Nat)) (ex (z10 b) (k : Nat)) := by
    rw [hq]; rfl
   rw [hst] at hc
   have HC := hid hc
   have HQ := hid hq
   clear hx hc hst hq
   generalize ex (z10 a) (k : Nat) = p at *
   generalize ex (z10 b) (k : Nat) = t at *
   have hkI0 : (0 : Int) ≤ (k : Int) := by omega
   have hkI1 : (k : Int) < 201 := by omega
   rcases (show p < t ∨ t < p ∨ p = t by omega) with hlt | hlt | heq
   ·have HF : Hid (rcmp a b = -1) := hid (by rw [HC.out, if_neg (by omega), z2m]; exact hlt)
    go_wp2
    go_quiet (fail)
    go_wp2
    all_goals
     go_ret
     exact ⟨by rw [HF.out]; rfl, HX4.out.trans (HX.out.drewN _)⟩
   ·have HF : Hid (rcmp a b = 1) := hid (by rw [HC.out, if_neg (by omega), z3p]; exact hlt)
    have hd : decide (p < t) = false := decide_eq_false (by omega)
    go_wp2
    go_quiet (fail)
    go_wp2
    go_quiet (fail)
    go_wp2
    all_goals
     go_ret
     exact ⟨by rw [HF.out]; rfl, HX4.out.trans ((HX.out.drewN _).drewN _)⟩
   ·subst heq
    have HF : Hid (rcmp a b = cmpE (ex (z10 a)) (ex (z10 b)) q) := hid (by rw [HC.out, if_pos rfl])
    go_wp2
    go_quiet (fail)
    go_wp2
    go_quiet (fail)
    go_wp2
    go_roundw
    case rel => exact ⟨q, by have := HQ.out; omega, congrArg (Value.int .i64) (by have := HQ.out; omega), HX.out.drewN _, HF.out⟩
    case measure => simp only [intOf]; omega
  ·obtain rfl : k = 0 := by omega
   have HF : Hid (rcmp a b = 0) := hid (by rw [hc]; rfl)
   clear hx hc
   go_wp2
   all_goals
    go_ret
    exact ⟨by rw [HF.out]; rfl, HX4.out.trans HX.out⟩
end
section
open Go.RowKit
theorem zqu {m : Mono} (hm : mayM m = true) {k : Nat} (h1 : 1 ≤ k) (hpos : 0 < ex m k) (habove : ∀ j : Nat, k < j → j ≤ 200 → ex m j = 0) : z11 m = k := by
 have hne : m ≠ [] := fun e => by rw [e] at hpos; simp [ex] at hpos
 obtain ⟨g1, g2, g3⟩ := z76 hm hne
 rcases Int.lt_trichotomy (z11 m) (k : Int) with h | h | h
 ·have := z5v hm h (by omega)
  omega
 ·exact h
 ·have := habove (z11 m).toNat (by omega) (by omega)
  rw [Int.toNat_of_nonneg (by omega)] at this
  omega
theorem zke {m : Mono} (hm : mayM m = true) (h : ∀ j : Nat, 0 < j → j ≤ 200 → ex m j = 0) : z11 m = 0 := by
 by_cases hne : m = []
 ·rw [hne]; rfl
 ·obtain ⟨g1, g2, g3⟩ := z76 hm hne
  have := h (z11 m).toNat (by omega) (by omega)
  rw [Int.toNat_of_nonneg (by omega)] at this
  omega
theorem zhb {S : Nat → Prop} (va : Value) (a : Mono) (w : World) (ha : Pows S w va a) (hS : ∀ k, S k → k < w.heap.size) :
  Calls Tryz.prog 97 #[va] w fun e w' => e = .returned (.int .i64 (z11 (z10 a))) ∧ Ext w w' := by
 have hz := (zero_of_info Tryz.infoArr).1
 have hcs : (Value.agg (tabA fun _ => 0)).cells = tabA fun _ => 0 := rfl
 have HA := hid ha
 obtain ⟨aa, ca, rfl⟩ := ha.form
 clear ha
 go_enter Tryz.func97, Tryz.ntmps97
 go_wp2_with fail
 refine (z3j _ a w HA.out hS).mono ?_
 rintro e w1 ⟨rfl, hx1⟩
 have HX1 := hid hx1
 clear hx1
 go_wp2_with (refine z1e rfl (.tmp 3) (.tmp 6) rfl rfl rfl (z5y (fun _ => 0) w1) ?_; intro w2 hrow hg; have HROW := hid hrow; have HG := hid hg; clear hrow hg)
 have HX2 : Hid (Ext w w2) := hid (z0p (HX1.out.alloc _) HG.out (fun k hk => Nat.le_trans HX1.out.size (z9u hk)))
 obtain ⟨ga, hga⟩ : ∃ g, g = w1.heap.size := ⟨_, rfl⟩
 rw [← hga] at HROW ⊢
 clear hga
 go_loopw [4] (fun v wr => ∃ k : Nat, k ≤ 200 ∧ v = .int .i64 k ∧ Ext w2 wr ∧ Hid (∀ j : Nat, k < j → j ≤ 200 → ex (z10 a) j = 0)) (fun v _ => (intOf v).toNat)
 case atStart => exact ⟨200, by omega, rfl, Ext.refl _, hid (fun j h1 h2 => by omega)⟩
 case round =>
  obtain ⟨k, hk, rfl, hx, HC⟩ := hrel
  have HX := hid hx
  by_cases h0 : 1 ≤ k
  ·have hk201 : k < 201 := by omega
   have hca := (z4r HROW.out hx).cell (i := k) hk201
   unfold iv exF at hca
   obtain ⟨p, hp⟩ : ∃ p, p = ex (z10 a) (k : Nat) := ⟨_, rfl⟩
   have hpr := z1n (z7a a) (k : Nat)
   rw [← hp] at hca hpr
   obtain ⟨hp1, hp2⟩ := hpr
   have HP := hid hp
   have hkI0 : (0 : Int) ≤ (k : Int) := by omega
   have hkI1 : (k : Int) < 201 := by omega
   clear hx hp
   by_cases hpos : 0 < p
   ·have HF : Hid (z11 (z10 a) = k) := hid (zqu (z7a a) h0 (by rw [← HP.out]; exact hpos) HC.out)
    go_wp2
    all_goals
     go_ret
     exact ⟨by rw [HF.out]; rfl, HX2.out.trans HX.out⟩
   ·go_wp2
    go_roundw
    case rel =>
     refine ⟨k - 1, by omega, congrArg (Value.int .i64) (by omega), HX.out, hid (fun j h1 h2 => ?_)⟩
     by_cases e : j = k
     ·subst e
      have := HP.out
      omega
     ·exact HC.out j (by omega) h2
    case measure => simp only [intOf]; omega
  ·obtain rfl : k = 0 := by omega
   have HF : Hid (z11 (z10 a) = 0) := hid (zke (z7a a) HC.out)
   clear hx
   go_wp2
   all_goals
    go_ret
    exact ⟨by rw [HF.out]; rfl, HX2.out.trans HX.out⟩
theorem zwn {m : Mono} (hm : mayM m = true) {x : Int} (h : x < 1 ∨ 200 < x) : ex m x = 0 := by
 rcases h with h | h
 ·exact z0t hm (by omega)
 ·exact z4b hm h
theorem z9w {S : Nat → Prop} (va : Value) (a : Mono) (x : Int) (w : World) (ha : Pows S w va a) (hS : ∀ k, S k → k < w.heap.size) (hx : -9223372036854775808 ≤ x ∧ x ≤ 9223372036854775807) :
  Calls Tryz.prog 126 #[va, .int .i64 x] w fun e w' => e = .returned (.int .i64 (ex (z10 a) x)) ∧ Ext w w' := by
 have HA := hid ha
 obtain ⟨aa, ca, rfl⟩ := ha.form
 obtain ⟨hx1, hx2⟩ := hx
 clear ha
 by_cases hout : x < 1 ∨ 200 < x
 ·have HF := hid (zwn (z7a a) hout)
  rcases hout with h | h
  ·go_enter Tryz.func126, Tryz.ntmps126
   go_wp2
   all_goals
    go_ret
    exact ⟨by rw [HF.out]; rfl, Ext.refl _⟩
  ·go_enter Tryz.func126, Tryz.ntmps126
   go_wp2
   all_goals
    go_ret
    exact ⟨by rw [HF.out]; rfl, Ext.refl _⟩
 ·have h1 : 1 ≤ x := by omega
  have h2 : x ≤ 200 := by omega
  have hidx := fun w => zmn (exF a) x w (by omega) (by omega)
  have hv : exF a x.toNat = ex (z10 a) x := by
   unfold exF
   rw [Int.toNat_of_nonneg (by omega)]
  rw [hv] at hidx
  clear hout hv
  go_enter Tryz.func126, Tryz.ntmps126
  go_wp2_with fail
  refine (z3j _ a w HA.out hS).mono ?_
  rintro e w1 ⟨rfl, hx1⟩
  have HX1 := hid hx1
  clear hx1
  go_wp2
  all_goals
   go_ret
   exact ⟨rfl, HX1.out⟩
def ofE (f : Nat → Int) : Nat → Mono
 | 0 => []
 | k + 1 => if 0 < f (k + 1) then ofE f k ++ [(((k + 1 : Nat) : Int), f (k + 1))] else ofE f k
theorem zue (f : Nat → Int) (k : Nat) : (ofE f k).length ≤ k := by
 induction k with
 | zero => simp [ofE]
 | succ k ih =>
  simp only [ofE]
  split
  ·simp only [List.length_append, List.length_cons, List.length_nil]; omega
  ·omega
theorem zkf {f : Nat → Int} (h : ∀ j, 0 ≤ f j ∧ f j ≤ 1000000) (k : Nat) (hk : k ≤ 200) : inBounds (ofE f k) := by
 induction k with
 | zero => intro x hx; simp [ofE] at hx
 | succ k ih =>
  have ih := ih (by omega)
  simp only [ofE]
  split
  ·intro x hx
   rcases List.mem_append.1 hx with hx | hx
   ·exact ih x hx
   ·obtain rfl := List.mem_singleton.1 hx
    have := h (k + 1)
    unfold z12
    simp only
    omega
  ·exact ih
theorem zqv {u v : Value} (h : u.oneCell' = true) (k : v.oneCell' = true) : ∀ x ∈ (#[u, v] : Array Value).toList, x.oneCell' = true := by
 intro x hx
 simp at hx
 rcases hx with rfl | rfl <;> assumption
theorem zij (f : Nat → Int) (w : World) (hf : ∀ j, 0 ≤ f j ∧ f j ≤ 1000000) :
  Calls Tryz.prog 128 #[arrV f] w fun e w' => ∃ v', e = .returned v' ∧ Pows (New w w') w' v' (ofE f 200) ∧ Ext w w' := by
 have HK := hid (Ext.alloc (Ext.refl w) (.cells (tabA f) 200))
 have HROW := hid (z5y f w)
 have HF := hid hf
 clear hf
 unfold arrV
 go_enter Tryz.func128, Tryz.ntmps128
 go_wp2
 go_loopw [3, 4] (fun o v wr => ∃ k : Nat, k ≤ 200 ∧ v = .int .i64 ((k : Int) + 1) ∧ Ext (w.alloc (.cells (tabA f) 200)) wr ∧ Hid (wr.ownsRow (w.heap.size + 1) 85 2 o (ofE f k).length (z44 (ofE f k)))) (fun _ v _ => (201 - intOf v).toNat)
 case atStart => exact ⟨0, by omega, rfl, Ext.refl _, hid (World.ownsRow_nil _ _ _ _)⟩
 case round =>
  obtain ⟨k, hk, rfl, hx, HW⟩ := hrel
  have HX := hid hx
  by_cases h0 : k < 200
  ·obtain ⟨q, hq⟩ : ∃ q, q = k + 1 := ⟨_, rfl⟩
   have hqI : (k : Int) + 1 = (q : Int) := by omega
   have hq201 : q < 201 := by omega
   have hca := (z4r HROW.out hx).cell (i := q) hq201
   unfold iv at hca
   obtain ⟨p, hp⟩ : ∃ p, p = f q := ⟨_, rfl⟩
   have hpr := HF.out q
   rw [← hp] at hca hpr
   obtain ⟨hp1, hp2⟩ := hpr
   have HP := hid hp
   have HQ := hid hq
   have hq1 : 1 ≤ q := by omega
   have hq2 : q ≤ 200 := by omega
   have hst : ofE f q = if 0 < p then ofE f k ++ [((q : Int), p)] else ofE f k := by rw [hq, hp, hq]; rfl
   have HST := hid hst
   have hol : (ofE f k).length ≤ 1000000000 := Nat.le_trans (zue f k) (by omega)
   have hbs : w.heap.size + 1 ≤ wr.heap.size := by have := hx.size; rw [z02] at this; exact this
   have HBS := hid hbs
   rw [hqI]
   clear hx hp hq hst hbs
   by_cases hpos : 0 < p
   ·go_wp2_with (at_builtin; refine z0h _ rfl (.tmp 13) (.tmp 19) 81 rfl (w.heap.size + 1) 85 (.agg #[.int .i64 0, .int .i64 0]) 2 16 Tryz.underlying81 Tryz.infoPower rfl (by decide) _ (ofE f k).length (z44 (ofE f k)) rfl HW.out _ rfl (zqv rfl rfl) rfl hol (by decide) HBS.out ?_; intro v1 w1 hown hg _; have HOW := hid hown; have HG := hid hg; clear hown hg)
    go_roundw
    case rel =>
     refine ⟨q, by omega, rfl, z0p HX.out HG.out (fun j hj => ?_), hid ?_⟩
     ·have := (HW.out.lt j hj).1
      rw [z02]
      exact this
     ·rw [HST.out, if_pos hpos, z6c]
      have h1 := HOW.out
      simpa [z44] using h1
    case measure => simp only [intOf]; omega
   ·go_wp2
    go_roundw
    case rel => exact ⟨q, by omega, rfl, HX.out, hid (by rw [HST.out, if_neg hpos]; exact HW.out)⟩
    case measure => simp only [intOf]; omega
  ·obtain rfl : k = 200 := by omega
   have hb := zkf HF.out 200 (Nat.le_refl _)
   have HP := hid (z8b HW.out hb)
   clear hx hb
   go_wp2
   all_goals
    go_ret
    refine ⟨_, rfl, HP.out.to (Kept.refl _ _) (fun j hj => ⟨by have := hj.1; omega, hj.2⟩), HK.out.trans HX.out⟩
end
section
open Go.RowKit
def sumF (a b : Mono) : Nat → Int := fun v => ex a (v : Nat) + ex b (v : Nat)
def z5z (f : Nat → Int) : Nat → Bool
 | 0 => false
 | k + 1 => z5z f k || decide (10000 < f (k + 1))
def z4s (a b : Mono) : Option Mono := if z5z (sumF a b) 200 then none else some (ofE (sumF a b) 200)
theorem zkg {f : Nat → Int} {k n : Nat} (h : z5z f k = true) (hk : k ≤ n) : z5z f n = true := by
 induction n with
 | zero =>
  obtain rfl : k = 0 := by omega
  exact h
 | succ n ih =>
  by_cases e : k = n + 1
  ·subst e; exact h
  ·simp only [z5z, ih (by omega), Bool.true_or]
theorem zmr {f g : Nat → Int} {n : Nat} (h : ∀ k, 1 ≤ k → k ≤ n → f k = g k) : ofE f n = ofE g n := by
 induction n with
 | zero => rfl
 | succ n ih => simp only [ofE, h (n + 1) (by omega) (Nat.le_refl _), ih (fun k h1 h2 => h k h1 (by omega))]
def mixF (a b : Mono) (k : Nat) : Nat → Int := fun j => if 1 ≤ j ∧ j ≤ k then ex a (j : Nat) + ex b (j : Nat) else ex a (j : Nat)
theorem zhc {a b : Mono} {k : Nat} (h : z5z (sumF a b) k = true) (hk : k ≤ 200) : z4s a b = none := by
 unfold z4s
 rw [if_pos (zkg h hk)]
theorem zhd {a b : Mono} (h : z5z (sumF a b) 200 = false) : z4s a b = some (ofE (mixF a b 200) 200) := by
 unfold z4s
 rw [if_neg (by rw [h]; exact Bool.false_ne_true)]
 exact congrArg some (zmr (fun k h1 h2 => by
  unfold sumF mixF
  rw [if_pos ⟨h1, h2⟩]))
def zuf : Option Mono → Int
 | none => 8
 | some _ => 0
def zug : Option Mono → Mono
 | none => []
 | some m => m
theorem zkh (f : Nat → Int) : z5z f 0 = false := rfl
theorem zki (a b : Mono) (k : Nat) : z5z (sumF a b) (k + 1) = (z5z (sumF a b) k || decide (10000 < ex a ((k + 1 : Nat) : Int) + ex b ((k + 1 : Nat) : Int))) := rfl
attribute [local irreducible] ofE z5z z4s
theorem zhe {S : Nat → Prop} (va vb : Value) (a b : Mono) (w : World) (ha : Pows S w va a) (hb : Pows S w vb b) (hS : ∀ k, S k → k < w.heap.size) (hma : mayM a = true) (hmb : mayM b = true) :
  Calls Tryz.prog 80 #[va, vb] w fun e w' => ∃ v', e = .returned (.tuple #[v', .int .i64 (zuf (z4s a b))]) ∧ Pows (New w w') w' v' (zug (z4s a b)) ∧ Ext w w' := by
 have hz := (zero_of_info Tryz.infoArr).1
 have hcs : (Value.agg (tabA fun _ => 0)).cells = tabA fun _ => 0 := rfl
 have hnot : ∀ (x : Bool) (w : World), (Op.unary .not (.bool x)).run Tryz.prog w = .ok (.bool (!x)) w := fun _ _ => rfl
 have HA := hid ha
 have HB := hid hb
 obtain ⟨aa, ca, rfl⟩ := ha.form
 obtain ⟨ab1, cb, rfl⟩ := hb.form
 have HMA := hid hma
 have HMB := hid hmb
 have M1 := fun W (hW : Ext w W) => z8m (S := S) _ a W (HA.out.ext' hW hS) (z08 hS hW)
 rw [hma] at M1
 have M2 := fun W (hW : Ext w W) => z8m (S := S) _ b W (HB.out.ext' hW hS) (z08 hS hW)
 rw [hmb] at M2
 have EA : Hid (exF a = fun v => ex a (v : Nat)) := hid (by funext v; unfold exF; rw [z2k hma])
 have EB : Hid (exF b = fun v => ex b (v : Nat)) := hid (by funext v; unfold exF; rw [z2k hmb])
 have HM1 := hid M1
 have HM2 := hid M2
 obtain ⟨R, hR⟩ : ∃ R, R = z4s a b := ⟨_, rfl⟩
 rw [← hR]
 have HR := hid hR
 clear ha hb hma hmb M1 M2 hR
 go_enter Tryz.func80, Tryz.ntmps80
 go_wp2_with fail
 refine (HM1.out w (Ext.refl _)).mono ?_
 rintro e w1 ⟨rfl, hx1⟩
 have HX1 := hid hx1
 clear hx1
 go_wp2_with fail
 refine (HM2.out w1 HX1.out).mono ?_
 rintro e w2 ⟨rfl, hx2⟩
 have HX2 := hid (HX1.out.trans hx2)
 clear hx2
 go_wp2_with fail
 refine (z3j _ a w2 (HA.out.ext' HX2.out hS) (z08 hS HX2.out)).mono ?_
 rintro e w3 ⟨rfl, hx3⟩
 have HX3 := hid (HX2.out.trans hx3)
 clear hx3
 rw [EA.out]
 go_wp2_with (refine z1e rfl (.tmp 6) (.tmp 18) rfl rfl rfl (z5y (fun _ => 0) w3) ?_; intro w4 hrow hg; have HROW := hid hrow; have HG := hid hg; clear hrow hg)
 have HX4 : Hid (Ext w w4) := hid (z0p (HX3.out.alloc _) HG.out (fun k hk => Nat.le_trans HX3.out.size (z9u hk)))
 refine (z3j _ b w4 (HB.out.ext' HX4.out hS) (z08 hS HX4.out)).mono ?_
 rintro e w5 ⟨rfl, hx5⟩
 have HX5 := hid (HX4.out.trans hx5)
 have hsz : w3.heap.size < w4.heap.size := by
  have := HG.out.size
  rw [z02] at this
  omega
 have HSZ : Hid (w3.heap.size < w5.heap.size) := hid (Nat.lt_of_lt_of_le hsz hx5.size)
 have HROW5 := hid (z4r HROW.out hx5)
 clear hx5 hsz
 rw [EB.out]
 go_wp2_with (refine z1e rfl (.tmp 7) (.tmp 20) rfl rfl rfl (z5y (fun _ => 0) w5) ?_; intro w6 hrow hg; have HROWB := hid hrow; have HG2 := hid hg; clear hrow hg)
 have HX6 : Hid (Ext w w6) := hid (z0p (HX5.out.alloc _) HG2.out (fun k hk => Nat.le_trans HX5.out.size (z9u hk)))
 have HROWA : Hid (w6.rowIs w3.heap.size 200 201 (iv (mixF a b 0))) := hid (by
  have h1 := zf5 (z4r HROW5.out (Ext.alloc (Ext.refl _) _)) HG2.out (fun e => by
   have := HSZ.out
   have h1 : w3.heap.size = w5.heap.size := by simpa using e
   omega)
  have e : mixF a b 0 = fun v : Nat => ex a (v : Nat) := by
   funext j
   unfold mixF
   rw [if_neg (by omega)]
  rw [e]
  exact h1)
 obtain ⟨ga, hga⟩ : ∃ g, g = w3.heap.size := ⟨_, rfl⟩
 obtain ⟨gb, hgb⟩ : ∃ g, g = w5.heap.size := ⟨_, rfl⟩
 have hgab : ga ≠ gb := by
  rw [hga, hgb]
  have := HSZ.out
  omega
 have HGA : Hid (w.heap.size ≤ ga) := hid (by rw [hga]; exact HX3.out.size)
 rw [← hga] at HROWA ⊢
 rw [← hgb] at HROWB ⊢
 clear hga hgb
 go_loopw [8] (fun v wr => ∃ k : Nat, k ≤ 200 ∧ v = .int .i64 ((k : Int) + 1) ∧ Ext w wr ∧ Hid (wr.rowIs ga 200 201 (iv (mixF a b k))) ∧ Hid (wr.rowIs gb 200 201 (iv fun v => ex b (v : Nat))) ∧ Hid (z5z (sumF a b) k = false)) (fun v _ => (201 - intOf v).toNat)
 case atStart => exact ⟨0, by omega, rfl, HX6.out, HROWA, HROWB, hid (zkh _)⟩
 case round =>
  obtain ⟨k, hk, rfl, hx, HP, HQ, HO⟩ := hrel
  have HX := hid hx
  by_cases h0 : k < 200
  ·obtain ⟨q, hq⟩ : ∃ q, q = k + 1 := ⟨_, rfl⟩
   have hqI : (k : Int) + 1 = (q : Int) := by omega
   have hq201 : q < 201 := by omega
   have hca := HP.out.cell (i := q) hq201
   have hcb : wr.cell? ⟨gb, q, none⟩ = some (.int .i64 (ex b (q : Nat))) := HQ.out.cell (i := q) hq201
   have hfa := HP.out.frozen q
   have hm1 : mixF a b k q = ex a (q : Nat) := by unfold mixF; rw [if_neg (by omega)]
   unfold iv at hca
   rw [hm1] at hca
   obtain ⟨x, hxe⟩ : ∃ x, x = ex a (q : Nat) := ⟨_, rfl⟩
   obtain ⟨y, hye⟩ : ∃ y, y = ex b (q : Nat) := ⟨_, rfl⟩
   have hxr := z1n HMA.out (q : Nat)
   have hyr := z1n HMB.out (q : Nat)
   rw [← hxe] at hca hxr
   rw [← hye] at hcb hyr
   obtain ⟨hxr1, hxr2⟩ := hxr
   obtain ⟨hyr1, hyr2⟩ := hyr
   have hov : z5z (sumF a b) q = (z5z (sumF a b) k || decide (10000 < x + y)) := by rw [hq, hxe, hye, hq]; exact zki a b k
   rw [HO.out, Bool.false_or] at hov
   have HOV := hid hov
   have HQE := hid hq
   have HXE := hid hxe
   have HYE := hid hye
   have hq1 : 1 ≤ q := by omega
   have hq2 : q ≤ 200 := by omega
   have hqI0 : (0 : Int) ≤ (q : Int) := by omega
   have hqI1 : (q : Int) < 201 := by omega
   rw [hqI]
   clear hx hq hm1 hxe hye hov
   go_wp2
   go_still_tail 9, (by kernel_rfl)
   change wpList _ _ _ _ _ wr.drew
   have hst := World.rowIs.set (World.rowIs.drewN' HP.out) q (.int .i64 (x + y))
   have hrowA : (wr.drew.setCell ⟨ga, q, none⟩ (.int .i64 (x + y))).rowIs ga 200 201 (iv (mixF a b q)) := hst.congr (fun i hi => by
    unfold iv mixF
    by_cases e : i = q
    ·subst e
     rw [if_pos rfl, if_pos ⟨hq1, Nat.le_refl _⟩, ← HXE.out, ← HYE.out]
    ·rw [if_neg e]
     have := HQE.out
     by_cases e2 : 1 ≤ i ∧ i ≤ k
     ·rw [if_pos e2, if_pos (by omega)]
     ·rw [if_neg e2, if_neg (by omega)])
   have HRA := hid hrowA
   have hca2 := hrowA.cell (i := q) hq201
   unfold iv mixF at hca2
   rw [if_pos ⟨hq1, Nat.le_refl _⟩, ← HXE.out, ← HYE.out] at hca2
   clear hst hrowA
   by_cases hbig : 10000 < x + y
   ·have HRN : Hid (R = none) := hid (HR.out.trans (zhc (by rw [HOV.out]; exact decide_eq_true hbig) hq2))
    go_wp2
    all_goals
     go_ret2
     rw [HRN.out]
     refine ⟨_, rfl, Pows.empty _ _ _, (HX.out.drew).setCell (p := ⟨ga, q, none⟩) HGA.out _⟩
   ·go_wp2
    go_roundw
    case rel => exact ⟨q, by omega, rfl, (HX.out.drew).setCell (p := ⟨ga, q, none⟩) HGA.out _, HRA, hid (zmo (World.rowIs.drewN' HQ.out) (fun e => hgab e.symm) _), hid (by rw [HOV.out]; exact decide_eq_false hbig)⟩
    case measure => simp only [intOf]; omega
  ·obtain rfl : k = 200 := by omega
   have HRS := hid (HR.out.trans (zhd HO.out))
   have hof := zij (mixF a b 200) wr (fun j => by
    have h1 := z1n HMA.out (j : Nat)
    have h2 := z1n HMB.out (j : Nat)
    unfold mixF
    split <;> omega)
   have HOF := hid hof
   clear hx hof
   go_wp2_with (refine z3b rfl (.tmp 6) rfl rfl HP.out ?_)
   refine HOF.out.mono ?_
   rintro e w7 ⟨v7, rfl, hp, hx7⟩
   have HX7 := hid hx7
   have HP7 := hid hp
   clear hp hx7
   go_wp2
   all_goals
    go_ret2
    rw [HRS.out]
    exact ⟨_, rfl, HP7.out.to (Kept.refl _ _) (New.mono HX.out), HX.out.trans HX7.out⟩
end
section
open Go.RowKit
def Digs (S : Nat → Prop) (w : World) (v : Value) (zs : List Nat) : Prop :=
 ∃ b off, z31 S v zs.length b off ∧ ∀ j z, zs[j]? = some z → z < 10 ∧ w.cell? ⟨b, off + j, none⟩ = some (.int .i64 (z : Nat))
section
variable {S S' : Nat → Prop} {w w' : World} {v : Value}
theorem Digs.form {zs : List Nat} (h : Digs S w v zs) : ∃ a cap, v = .slice a zs.length cap := by
 obtain ⟨b, off, ⟨a, cap, h1, _⟩, _⟩ := h
 exact ⟨a, cap, h1⟩
theorem Digs.to {zs : List Nat} (h : Digs S w v zs) (hk : Kept S w w') (hS : ∀ k, S k → S' k) : Digs S' w' v zs := by
 obtain ⟨b, off, hs, hc⟩ := h
 exact ⟨b, off, hs.mono hS, fun j z hz => ⟨(hc j z hz).1, hk.cell (hs.in (z04 hz)) (hc j z hz).2⟩⟩
theorem Digs.ext {zs : List Nat} (h : Digs S w v zs) (hx : Ext w w') (hS : ∀ k, S k → k < w.heap.size) : Digs S w' v zs := h.to (Kept.ext hx hS) (fun _ h => h)
theorem Digs.len_le {zs : List Nat} (h : Digs S w v zs) : zs.length ≤ 9223372036854775807 := by
 obtain ⟨b, off, ⟨a, cap, h1, h2, h3, _⟩, _⟩ := h
 unfold maxLen at h3
 omega
theorem Digs.lt {zs : List Nat} (h : Digs S w v zs) : ∀ z ∈ zs, z < 10 := by
 obtain ⟨b, off, hs, hc⟩ := h
 intro z hz
 obtain ⟨j, hj⟩ := List.getElem?_of_mem hz
 exact (hc j z hj).1
theorem Digs.cellAt {zs : List Nat} {a : Option Addr} {n cap k z : Nat} (h : Digs S w (.slice a n cap) zs) (hz : zs[k]? = some z) :
  ∃ b off, a = some ⟨b, off, none⟩ ∧ n = zs.length ∧ n ≤ cap ∧ cap ≤ 9223372036854775807 ∧ S b ∧ z < 10 ∧ w.cell? ⟨b, off + k, none⟩ = some (.int .i64 (z : Nat)) := by
 obtain ⟨b, off, ⟨a', cap', h1, h2, h3, h4, h5⟩, hc⟩ := h
 obtain ⟨rfl, rfl, rfl⟩ : a = a' ∧ n = zs.length ∧ cap = cap' := by simpa using h1
 have hp : 0 < zs.length := by have := z04 hz; omega
 exact ⟨b, off, h4 hp, rfl, h2, h3, h5 hp, hc k z hz⟩
theorem Digs.take {zs : List Nat} {a : Option Addr} {n cap k : Nat} (h : Digs S w (.slice a n cap) zs) (hk : k ≤ n) : Digs S w (.slice a k cap) (zs.take k) := by
 obtain ⟨b, off, ⟨a', cap', h1, h2, h3, h4, h5⟩, hc⟩ := h
 obtain ⟨rfl, rfl, rfl⟩ : a = a' ∧ n = zs.length ∧ cap = cap' := by simpa using h1
 have hl : (zs.take k).length = k := by rw [List.length_take]; omega
 refine ⟨b, off, ⟨a, cap, by rw [hl], by omega, h3, fun h => h4 (by omega), fun h => h5 (by omega)⟩, fun j z hz => hc j z ?_⟩
 rw [List.getElem?_take] at hz
 split at hz
 ·exact hz
 ·simp at hz
theorem Digs.nilv (S : Nat → Prop) (w : World) (a : Option Addr) (cap : Nat) (h : cap ≤ 9223372036854775807) : Digs S w (.slice a 0 cap) [] :=
 ⟨0, 0, ⟨a, cap, rfl, Nat.zero_le _, by unfold maxLen; omega, fun h => absurd h (Nat.lt_irrefl _), fun h => absurd h (Nat.lt_irrefl _)⟩, fun j x hx => by simp at hx⟩
def dval (z : Nat) : Value := .int .i64 (z : Nat)
theorem zai {base : Nat} {e : TypeId} {ds : List Nat} (h : w.ownsRow base e 1 v ds.length (ds.map dval)) (hl : ∀ z ∈ ds, z < 10) : Digs (fun k => base ≤ k ∧ k < w.heap.size) w v ds := by
 have hlt := h.lt
 rcases h.2 with ⟨rfl, h0⟩ | ⟨g, cap, cur, rfl, hg, hh, h1, h2, h3, h4⟩
 ·obtain rfl : ds = [] := List.length_eq_zero_iff.1 h0
  exact Digs.nilv _ _ _ _ (by omega)
 ·refine ⟨g, 0, ⟨_, cap, rfl, h1, h2, fun _ => rfl, fun _ => hlt g rfl⟩, fun j z hz => ⟨hl z (List.mem_of_getElem? hz), ?_⟩⟩
  rw [h.cellAt (0 + j) (by have := z04 hz; omega), Nat.zero_add]
  simp [hz, dval]
theorem z2y {base : Nat} {e : TypeId} {o : List Nat} {u : Value} {f : Nat → Value} (h : w.ownsRow base e 1 v (o.length + 1) (o.map f ++ [u])) {z : Nat} (hu : u = f z) : w.ownsRow base e 1 v (o ++ [z]).length ((o ++ [z]).map f) := by
 subst hu
 simpa using h
theorem z2u {u : Value} (h : u.oneCell' = true) : ∀ x ∈ (#[u] : Array Value).toList, x.oneCell' = true := by
 intro x hx
 obtain rfl : x = u := by simpa using hx
 exact h
end
theorem z0g : 2 ≤ 10 := by decide
theorem Tryz.infoInt : (Tryz.prog.info? 3).map (fun i => (i.zero, i.size, i.bytes)) = some (some (.int .i64 0), 1, 8) := by kernel_rfl
theorem z8p {S : Nat → Prop} (v : Value) (zs : List Nat) (w : World) (h : Digs S w v zs) :
  Calls Tryz.prog 155 #[v] w fun e w' => ∃ v', e = .returned v' ∧ Digs S w v' (rep 10 (val 10 zs)) ∧ w = w' := by
 have hl := h.len_le
 have H := hid h
 obtain ⟨a, cap, rfl⟩ := h.form
 clear h
 go_enter Tryz.func155, Tryz.ntmps155
 go_wp2
 go_loop [0] (fun x => ∃ k : Nat, k ≤ zs.length ∧ x = .slice a k cap ∧ z4y zs k = z4y zs zs.length) (fun x => z1x x)
 case atStart => exact ⟨zs.length, Nat.le_refl _, rfl, rfl⟩
 case round =>
  obtain ⟨k, hk, rfl, ht⟩ := hrel
  cases k with
  | zero =>
   have HT := hid ht
   clear ht
   go_wp2
   all_goals
    go_ret
    refine ⟨_, rfl, ?_, rfl⟩
    have h1 := H.out.take (Nat.zero_le _)
    rw [← z6e z0g zs H.out.lt, ← List.take_length (l := zs), ← z5u zs _ (Nat.le_refl _), ← HT.out]
    exact h1
  | succ k =>
   obtain ⟨z, hz⟩ := z00 (show k < zs.length by omega)
   obtain ⟨b, off, rfl, -, hcap, hmax, -, hzb, hcell⟩ := H.out.cellAt hz
   have HT := hid ht
   have HZ := hid hz
   clear ht hz
   by_cases h0 : z = 0
   ·have hb : ((z : Int) == 0) = true := by simpa using h0
    have H0 := hid h0
    clear h0
    go_wp2
    go_round
    case rel => exact ⟨k, by omega, rfl, by rw [← HT.out, z4y, HZ.out, H0.out, if_pos rfl]⟩
    case measure => simp only [z1x]; omega
   ·have hb : ((z : Int) == 0) = false := by simpa using h0
    have H0 := hid h0
    clear h0
    go_wp2
    all_goals
     go_ret
     refine ⟨_, rfl, ?_, rfl⟩
     have h1 := H.out.take hk
     have h2 : z4y zs (k + 1) = k + 1 := by rw [z4y, HZ.out, if_neg (by simpa using H0.out)]
     rw [← z6e z0g zs H.out.lt, ← List.take_length (l := zs), ← z5u zs _ (Nat.le_refl _), ← HT.out, h2]
     exact h1
theorem zkj {B : Nat} {o xs : List Nat} {k x c n m : Nat} (hl : o.length = k) (h : val B o + B ^ k * c = val B (xs.take k) * n + m) (hx : xs[k]? = some x) :
  val B (o ++ [(c + x * n) % B]) + B ^ (k + 1) * ((c + x * n) / B) = val B (xs.take (k + 1)) * n + m := by
 rw [z9a hl h, z38 hx, Nat.add_mul, Nat.mul_assoc]
 omega
theorem zkk {B : Nat} {o : List Nat} {k c V : Nat} (hl : o.length = k) (h : val B o + B ^ k * c = V) : val B (o ++ [c % B]) + B ^ (k + 1) * (c / B) = V := by
 have := z9a (s := 0) hl h
 simpa using this
theorem zms {S : Nat → Prop} (v : Value) (zs : List Nat) (n m : Int) (w : World) (h : Digs S w v zs) (hS : ∀ k, S k → k < w.heap.size) (hr : zs.length ≤ 10000000) (hn0 : 0 ≤ n) (hn : n ≤ 65536) (hm0 : 0 ≤ m) (hm : m ≤ 65536) :
  Calls Tryz.prog 158 #[v, .int .i64 n, .int .i64 m] w fun e w' => ∃ v', e = .returned v' ∧ Digs (New w w') w' v' (rep 10 (val 10 zs * n.toNat + m.toNat)) ∧ Ext w w' := by
 obtain ⟨n, rfl⟩ := Int.eq_ofNat_of_zero_le hn0
 obtain ⟨m, rfl⟩ := Int.eq_ofNat_of_zero_le hm0
 simp only [Int.toNat_natCast]
 clear hn0 hm0
 have H := hid h
 have hlt := hid h.lt
 obtain ⟨a, cap, rfl⟩ := h.form
 clear h
 go_enter Tryz.func158, Tryz.ntmps158
 go_wp2
 go_loopw [7, 8, 9] (fun x c i wr => ∃ (k cc : Nat) (o : List Nat), k ≤ zs.length ∧ i = .int .i64 k ∧ c = .int .i64 cc ∧ cc ≤ 65536 ∧ o.length = k ∧ Hid (∀ z ∈ o, z < 10) ∧ Hid (wr.ownsRow w.heap.size 3 1 x o.length (o.map dval)) ∧ Ext w wr ∧
  Hid (val 10 o + 10 ^ k * cc = val 10 (zs.take k) * n + m)) (fun _ _ i _ => zs.length - (intOf i).toNat)
 case atStart => exact ⟨0, m, [], Nat.zero_le _, rfl, rfl, by omega, rfl, hid (by simp), hid (World.ownsRow_nil _ _ _ _), Ext.refl _, hid (by simp [val])⟩
 case round =>
  obtain ⟨k, cc, o, hk, rfl, rfl, hcc, hol, HO, HW, hx, HV⟩ := hrel
  by_cases hlt2 : k < zs.length
  ·obtain ⟨x, hx1⟩ := z00 hlt2
   obtain ⟨b, off, rfl, -, hn1, hm1, -, hxb, hc1⟩ := (H.out.ext hx hS).cellAt hx1
   have HX1 := hid hx1
   have HX := hid hx
   have HOL := hid hol
   have hol2 : o.length ≤ 1000000000 := by omega
   obtain ⟨p, hp⟩ : ∃ p : Nat, p = x * n := ⟨_, rfl⟩
   have hpb : p ≤ 9 * 65536 := by rw [hp]; exact Nat.mul_le_mul (by omega) (by omega)
   have hmul : (x : Int) * (n : Int) = (p : Int) := by rw [hp]; simp
   have HP := hid hp
   clear hx1 hx hol hp
   go_wp2_with (at_builtin; refine z0h _ rfl (.tmp 25) (.tmp 28) 137 rfl w.heap.size 3 (.int .i64 0) 1 8 Tryz.underlying137 Tryz.infoInt rfl (by decide) _ o.length (o.map dval) rfl HW.out _ rfl (z2u rfl) rfl hol2 (by decide) HX.out.size ?_; intro v1 w1 hown hg _; have HOW := hid hown; have HG := hid hg; clear hown hg)
   go_roundw
   case rel =>
    refine ⟨k + 1, (cc + p) / 10, o ++ [(cc + p) % 10], by omega, by go_num, by go_num, by omega, by simp [HOL.out], ?_, hid (z2y HOW.out (by unfold dval; congr 1)), z0p HX.out HG.out ?_, ?_⟩
    ·refine hid (fun z hz => ?_)
     rcases List.mem_append.1 hz with h | h
     ·exact HO.out z h
     ·rw [List.mem_singleton.1 h]
      exact Nat.mod_lt _ (by decide)
    ·intro q hq
     exact (HW.out.lt q hq).1
    ·rw [HP.out]
     exact hid (zkj HOL.out HV.out HX1.out)
   case measure => simp only [intOf]; omega
  ·obtain rfl : k = zs.length := by omega
   rw [List.take_length] at HV
   have HX := hid hx
   have HOL := hid hol
   have hol2 : o.length ≤ 10000000 := by omega
   have HO2 := hid hol2
   clear hx hol hol2
   obtain ⟨wo, rfl⟩ : ∃ wo : World, wo = wr := ⟨_, rfl⟩
   go_wp2
   go_loopw [7, 8] (fun x c wr => ∃ (cc : Nat) (o : List Nat), c = .int .i64 cc ∧ cc ≤ 65536 ∧ Hid (o.length + cc ≤ 11000000) ∧ Hid (∀ z ∈ o, z < 10) ∧ Hid (wr.ownsRow w.heap.size 3 1 x o.length (o.map dval)) ∧ Ext w wr ∧
    Hid (val 10 o + 10 ^ o.length * cc = val 10 zs * n + m)) (fun _ c _ => (intOf c).toNat)
   case atStart => exact ⟨cc, o, rfl, hcc, hid (by have := HO2.out; omega), HO, HW, HX.out, hid (by rw [HOL.out]; exact HV.out)⟩
   case round =>
    obtain ⟨cc, o, rfl, hcc, HB, HO, HW, hx, HV⟩ := hrel
    have HX := hid hx
    clear hx
    by_cases h0 : 0 < cc
    ·have hol2 : o.length ≤ 1000000000 := by have := HB.out; omega
     go_wp2_with (at_builtin; refine z0h _ rfl (.tmp 34) (.tmp 37) 137 rfl w.heap.size 3 (.int .i64 0) 1 8 Tryz.underlying137 Tryz.infoInt rfl (by decide) _ o.length (o.map dval) rfl HW.out _ rfl (z2u rfl) rfl hol2 (by decide) HX.out.size ?_; intro v1 w1 hown hg _; have HOW := hid hown; have HG := hid hg; clear hown hg)
     go_roundw
     case rel =>
      refine ⟨cc / 10, o ++ [cc % 10], by go_num, by omega, hid (by have := HB.out; simp; omega), ?_, hid (z2y HOW.out (by unfold dval; congr 1)), z0p HX.out HG.out ?_, ?_⟩
      ·refine hid (fun z hz => ?_)
       rcases List.mem_append.1 hz with h | h
       ·exact HO.out z h
       ·rw [List.mem_singleton.1 h]
        exact Nat.mod_lt _ (by decide)
      ·intro q hq
       exact (HW.out.lt q hq).1
      ·have := zkk rfl HV.out
       exact hid (by simpa using this)
     case measure => simp only [intOf]; omega
    ·obtain rfl : cc = 0 := by omega
     have hd := zai HW.out HO.out
     have HD := hid hd
     obtain ⟨a1, c1, rfl⟩ := hd.form
     have HE : Hid (val 10 o = val 10 zs * n + m) := hid (by have := HV.out; simpa using this)
     clear hd
     go_wp2_with fail
     refine (z8p _ o _ HD.out).mono ?_
     rintro e w' ⟨v', rfl, hu, rfl⟩
     have HU := hid hu
     clear hu
     go_wp2
     all_goals
      go_ret
      exact ⟨_, rfl, by rw [← HE.out]; exact HU.out, HX.out⟩
end
section
open Go.RowKit
theorem zqw (k : Nat) : B32 ^ k ≤ 10 ^ (10 * k) := by
 rw [Nat.pow_mul]
 exact Nat.pow_le_pow_left (by decide) k
theorem zf6 {V k : Nat} (h : V < B32 ^ k) : (rep 10 V).length ≤ 10 * k := z0x z0g _ _ (Nat.lt_of_lt_of_le h (zqw k))
theorem zmt {V k : Nat} (h : V < 10 ^ k) : (rep B32 V).length ≤ k := z0x z0a _ _ (Nat.lt_of_lt_of_le h (Nat.pow_le_pow_left (by decide) k))
theorem zmu {d : List Nat} {y : Nat} (h : ∀ z ∈ d, z < 10) (hy : y < 65536) : (rep 10 (val 10 d * 65536 + y)).length ≤ d.length + 5 := by
 refine z0x z0g _ _ ?_
 have h1 := z4l d h
 rw [Nat.pow_add]
 generalize 10 ^ d.length = P at *
 have h2 : (val 10 d + 1) * 65536 ≤ P * 65536 := Nat.mul_le_mul_right _ h1
 omega
theorem zuh {B x V : Nat} (h : V = x + B32 * B) : (B * 65536 + x / 65536) * 65536 + x % 65536 = V := by
 subst h
 show _ = x + 4294967296 * B
 omega
theorem zcz {S : Nat → Prop} (v : Value) (zs : List Nat) (m : Int) (w : World) (h : Digs S w v zs) (hS : ∀ k, S k → k < w.heap.size) (hr : zs.length ≤ 10000000) (hm : 0 ≤ m ∧ m ≤ 65536) :
  Calls Tryz.prog 158 #[v, .int .i64 65536, .int .i64 m] w fun e w' => ∃ v', e = .returned v' ∧ Digs (New w w') w' v' (rep 10 (val 10 zs * 65536 + m.toNat)) ∧ Ext w w' :=
 zms v zs 65536 m w h hS hr (by decide) (by decide) hm.1 hm.2
theorem zwo {S : Nat → Prop} (v : Value) (zs : List Nat) (w : World) (h : U32s S w v zs) (_hS : ∀ k, S k → k < w.heap.size) (hr : zs.length ≤ 100000) :
  Calls Tryz.prog 125 #[v] w fun e w' => ∃ v', e = .returned v' ∧ Digs (New w w') w' v' (rep 10 (val B32 zs)) ∧ Ext w w' := by
 have H := hid h
 have HLT := hid h.lt
 obtain ⟨a, cap, rfl⟩ := h.form
 clear h
 go_enter Tryz.func125, Tryz.ntmps125
 go_wp2
 go_loopw [3, 4] (fun d i wr => ∃ k : Nat, k ≤ zs.length ∧ i = .int .i64 ((k : Int) - 1) ∧ Hid (Digs (New w wr) wr d (rep 10 (val B32 (zs.drop k)))) ∧ Ext w wr) (fun _ i _ => (intOf i + 1).toNat)
 case atStart => exact ⟨zs.length, Nat.le_refl _, rfl, hid (by rw [List.drop_length]; exact Digs.nilv _ _ _ _ (by omega)), Ext.refl _⟩
 case round =>
  obtain ⟨k, hk, rfl, HD, hx⟩ := hrel
  cases k with
  | succ q =>
   have hq1 : ((q + 1 : Nat) : Int) - 1 = (q : Int) := by omega
   obtain ⟨x, hx1⟩ := z00 (show q < zs.length by omega)
   obtain ⟨b, off, rfl, -, hn1, hm1, hSb, hxb, hc1⟩ := H.out.cellAt hx1
   have g1 := hx.cell hc1
   have HC := hid hc1
   have HV := hid (zuh (z73 hx1))
   have HX := hid hx
   obtain ⟨d0, hd0⟩ : ∃ d, d = rep 10 (val B32 (zs.drop (q + 1))) := ⟨_, rfl⟩
   have hdl : d0.length ≤ 1000000 := by
    rw [hd0]
    refine Nat.le_trans (zf6 (k := (zs.drop (q + 1)).length) (z4l _ (fun z hz => HLT.out z (List.mem_of_mem_drop hz)))) ?_
    rw [List.length_drop]
    omega
   have hv0 : val 10 d0 = val B32 (zs.drop (q + 1)) := by rw [hd0, z1a z0g]
   have hd := HD.out
   rw [← hd0] at hd
   have HD1 := hid hd
   obtain ⟨ad, cd, rfl⟩ := hd.form
   have HDL := hid hdl
   have HV0 := hid hv0
   have hqn : q < zs.length := by omega
   clear hx1 hc1 hx hd0 hd hv0 hdl HD
   simp only [hq1]
   have hw1 : IntKind.i64.wrap (IntKind.u32.wrap ((x : Int) / 65536)) = (x : Int) / 65536 := by rw [IntKind.wrap_u32, IntKind.wrap_i64] <;> omega
   have hw2 : IntKind.i64.wrap ((x : Int).tmod 65536) = (x : Int) % 65536 := by rw [Int.tmod_eq_emod_of_nonneg (by omega), IntKind.wrap_i64]; omega
   have HB1 : Hid (0 ≤ (x : Int) / 65536 ∧ (x : Int) / 65536 ≤ 65536) := hid (by omega)
   have HB2 : Hid (0 ≤ (x : Int) % 65536 ∧ (x : Int) % 65536 ≤ 65536) := hid (by omega)
   have HL1 := hid (Nat.le_trans HDL.out (show 1000000 ≤ 10000000 by decide))
   have HL2 : Hid ((rep 10 (val 10 d0 * 65536 + ((x : Int) / 65536).toNat)).length ≤ 10000000) := hid (Nat.le_trans (zmu (HD1.out.lt) (by omega)) (by have := HDL.out; omega))
   go_wp2
   have S0 : wr.drew.cell? ⟨b, off + q, none⟩ = some (.int .u32 (x : Nat)) := by simpa using g1
   have X0 := hid (Ext.drew (Ext.refl wr))
   go_region_held3 (fun W => W.cell? ⟨b, off + q, none⟩ = some (.int .u32 (x : Nat))) (first | exact S0 | exact S1 | exact S2)
    (first
     | (go_at_call 158; (with_reducible refine (zcz _ d0 _ _ (HD1.out.ext X0.out New.lt) (z08 New.lt X0.out) HL1.out HB1.out).mono ?_); rintro e w1 ⟨v1, rfl, hd1, hx1⟩; have S1 := hx1.cell S0; have HX1 := hid hx1; have HE1 := hid hd1; obtain ⟨a1, c1, rfl⟩ := hd1.form; clear hx1 hd1)
     | (go_at_call 158; (with_reducible refine (zcz _ _ _ _ HE1.out New.lt HL2.out HB2.out).mono ?_); rintro e w2 ⟨v2, rfl, hd2, hx2⟩; have S2 := hx2.cell S1; have HX2 := hid hx2; have HE2 := hid hd2; obtain ⟨a2, c2, rfl⟩ := hd2.form; clear hx2 hd2))
   clear hw1 hw2
   go_wp2
   go_roundw
   case rel =>
    refine ⟨q, by omega, rfl, hid ?_, HX.out.trans (X0.out.trans (HX1.out.trans HX2.out))⟩
    have e : (val 10 (rep 10 (val 10 d0 * 65536 + ((x : Int) / 65536).toNat)) * 65536 + ((x : Int) % 65536).toNat) = val B32 (zs.drop q) := by
     rw [z1a z0g, ← HV.out, HV0.out]
     have e1 : ((x : Int) / 65536).toNat = x / 65536 := by omega
     have e2 : ((x : Int) % 65536).toNat = x % 65536 := by omega
     rw [e1, e2]
    have h2 := HE2.out
    rw [e] at h2 ⊢
    exact h2.to (Kept.refl _ _) (New.mono (HX.out.trans (X0.out.trans HX1.out)))
   case measure => simp only [intOf]; omega
  | zero =>
   have HX := hid hx
   clear hx
   go_wp2
   all_goals
    go_ret
    exact ⟨_, rfl, HD.out, HX.out⟩
theorem zf7 {B N m : Nat} {o : List Nat} (hB : 2 ≤ B) (h : rep B N = o ++ rep B m) (hm : 0 < m) : rep B N = (o ++ [m % B]) ++ rep B (m / B) := by
 rw [h, z6d hB hm]
 simp
theorem zmv (n : Nat) (w : World) (hn : n < 18446744073709551616) :
  Calls Tryz.prog 119 #[.int .u64 (n : Nat)] w fun e w' => ∃ v', e = .returned v' ∧ Digs (New w w') w' v' (rep 10 n) ∧ Ext w w' := by
 have hlen : (rep 10 n).length ≤ 20 := z0x z0g _ _ (Nat.lt_of_lt_of_le hn (by decide))
 have HL := hid hlen
 clear hlen
 go_enter Tryz.func119, Tryz.ntmps119
 go_wp2
 go_loopw [0, 3] (fun i x wr => ∃ (m : Nat) (o : List Nat), i = .int .u64 m ∧ m < 18446744073709551616 ∧ Hid (rep 10 n = o ++ rep 10 m) ∧ Hid (wr.ownsRow w.heap.size 3 1 x o.length (o.map dval)) ∧ Ext w wr) (fun i _ _ => (intOf i).toNat)
 case atStart => exact ⟨n, [], rfl, hn, hid rfl, hid (World.ownsRow_nil _ _ _ _), Ext.refl _⟩
 case round =>
  obtain ⟨m, o, rfl, hm, HV, HW, hx⟩ := hrel
  have HX := hid hx
  clear hx
  by_cases h0 : 0 < m
  ·have hol2 : o.length ≤ 1000000000 := by
    have := HL.out
    rw [HV.out, List.length_append] at this
    omega
   go_wp2_with (at_builtin; refine z0h _ rfl (.tmp 6) (.tmp 10) 137 rfl w.heap.size 3 (.int .i64 0) 1 8 Tryz.underlying137 Tryz.infoInt rfl (by decide) _ o.length (o.map dval) rfl HW.out _ rfl (z2u rfl) rfl hol2 (by decide) HX.out.size ?_; intro v1 w1 hown hg _; have HOW := hid hown; have HG := hid hg; clear hown hg)
   go_roundw
   case rel =>
    refine ⟨m / 10, o ++ [m % 10], by go_num, by omega, hid (zf7 z0g HV.out h0), hid (z2y HOW.out (by unfold dval; congr 1)), z0p HX.out HG.out ?_⟩
    intro q hq
    exact (HW.out.lt q hq).1
   case measure => simp only [intOf]; omega
  ·obtain rfl : m = 0 := by omega
   have e : rep 10 n = o := by rw [HV.out, z3n, List.append_nil]
   have E := hid e
   clear e
   go_wp2
   all_goals
    go_ret
    refine ⟨_, rfl, ?_, HX.out⟩
    rw [E.out]
    exact zai HW.out (fun z hz => zcv z0g n z (by rw [E.out]; exact hz))
def rowD (o : List Nat) : Nat → Value := fun j => dval (dg o j)
theorem ze1 {w : World} {T : TypeId} {n g : Nat} {o : List Nat} (h : w.rowIs g T n (rowD o)) (k z : Nat) (hk : k < o.length) : (w.setCell ⟨g, k, none⟩ (dval z)).rowIs g T n (rowD (o.set k z)) := by
 refine (h.set k (dval z)).congr (fun i hi => ?_)
 unfold rowD dg
 rw [List.getElem?_set]
 by_cases e : i = k
 ·subst e
  simp [hk]
 ·rw [if_neg e, if_neg (fun h => e h.symm)]
theorem zd0 (w : World) (n : Nat) (T : TypeId) : (w.alloc (.cells (madeCells #[.int .i64 0] n) T)).rowIs w.heap.size T n (rowD (List.replicate n 0)) :=
 (World.rowIs_made w (.int .i64 0) n T).congr (fun i hi => by simp [rowD, dg, dval, hi])
theorem Digs.of_row {w : World} {T : TypeId} {g cap : Nat} {o : List Nat} (h : w.rowIs g T cap (rowD o)) (ho : o.length = cap) (hl : ∀ z ∈ o, z < 10) (hc : cap ≤ 9223372036854775807) : Digs (fun k => k = g) w (.slice (some ⟨g, 0, none⟩) cap cap) o := by
 subst ho
 refine ⟨g, 0, ⟨_, o.length, rfl, Nat.le_refl _, by unfold maxLen; omega, fun _ => rfl, fun _ => rfl⟩, fun j z hz => ⟨hl z (List.mem_of_getElem? hz), ?_⟩⟩
 have hj := z04 hz
 rw [Nat.zero_add, h.cell (i := j) hj]
 simp [rowD, dval, dg, hz]
theorem drop_set {o : List Nat} {q z : Nat} (h : q < o.length) : (o.set q z).drop q = z :: o.drop (q + 1) := by
 rw [List.drop_eq_getElem_cons (by simpa using h)]
 simp [List.drop_set]
theorem zui {ds o : List Nat} {q x n r : Nat} (hx : ds[q]? = some x) (hq : q < o.length) (h : val 10 (ds.drop (q + 1)) = val 10 (o.drop (q + 1)) * n + r) :
  val 10 (ds.drop q) = val 10 ((o.set q ((r * 10 + x) / n)).drop q) * n + (r * 10 + x) % n := by
 rw [z73 hx, drop_set hq, val, h]
 have := zm3 (V := val 10 (o.drop (q + 1)) * n + r) (d := x) (n := n) (q := val 10 (o.drop (q + 1))) (r := r) rfl
 rw [Nat.mul_comm r 10, Nat.add_comm x, this, Nat.add_comm (10 * val 10 (List.drop (q + 1) o))]
theorem zwp {S : Nat → Prop} (v : Value) (zs : List Nat) (n : Int) (w : World) (h : Digs S w v zs) (_hS : ∀ k, S k → k < w.heap.size) (hr : zs.length ≤ 10000000) (hn0 : 0 < n) (hn : n ≤ 65536) :
  Calls Tryz.prog 149 #[v, .int .i64 n] w fun e w' => ∃ v', e = .returned (.tuple #[v', .int .i64 ((val 10 zs % n.toNat : Nat) : Int)]) ∧ Digs (New w w') w' v' (rep 10 (val 10 zs / n.toNat)) ∧ Ext w w' := by
 obtain ⟨n, rfl⟩ := Int.eq_ofNat_of_zero_le (Int.le_of_lt hn0)
 simp only [Int.toNat_natCast]
 have hnp : 0 < n := by omega
 have H := hid h
 have HLT := hid h.lt
 obtain ⟨a, cap, rfl⟩ := h.form
 clear h hn0
 have hmk := run_make_row' (P := Tryz.prog) 137 3 (.int .i64 0) 8 Tryz.underlying137 Tryz.infoInt rfl .i64 .i64 zs.length (by omega) (by omega) w
 have hz : w.heap.size < (w.alloc (.cells (madeCells #[.int .i64 0] zs.length) 3)).heap.size := by simp
 have HR := hid (zd0 w zs.length 3)
 have HE := hid (Ext.alloc (Ext.refl w) (.cells (madeCells #[.int .i64 0] zs.length) 3))
 go_enter Tryz.func149, Tryz.ntmps149
 go_wp2
 go_loopw [7, 8] (fun rr i wr => ∃ (k r : Nat) (o : List Nat), k ≤ zs.length ∧ i = .int .i64 ((k : Int) - 1) ∧ rr = .int .i64 r ∧ r < n ∧ Hid (o.length = zs.length) ∧ Hid (∀ z ∈ o, z < 10) ∧ wr.rowIs w.heap.size 3 zs.length (rowD o) ∧ Ext w wr ∧
  Hid (val 10 (zs.drop k) = val 10 (o.drop k) * n + r)) (fun _ i _ => (intOf i + 1).toNat)
 case atStart => exact ⟨zs.length, 0, List.replicate zs.length 0, Nat.le_refl _, rfl, rfl, hnp, hid (by simp), hid (by simp), HR.out, HE.out, hid (by rw [List.drop_length, List.drop_eq_nil_of_le (by simp)]; simp [val])⟩
 case round =>
  obtain ⟨k, r, o, hk, rfl, rfl, hrn, HOL, HO, hrow, hx, HV⟩ := hrel
  cases k with
  | succ q =>
   have hq1 : ((q + 1 : Nat) : Int) - 1 = (q : Int) := by omega
   have hqn : q < zs.length := by omega
   obtain ⟨x, hx1⟩ := z00 hqn
   obtain ⟨b, off, rfl, -, hn1, hm1, hSb, hxb, hc1⟩ := H.out.cellAt hx1
   have g1 := hx.cell hc1
   have hcs := hrow.cell (i := q) hqn
   have hfs := hrow.frozen q
   have HX1 := hid hx1
   have HROW := hid hrow
   have HX := hid hx
   obtain ⟨p, hp⟩ : ∃ p : Nat, p = r * 10 + x := ⟨_, rfl⟩
   have hmul : (r : Int) * 10 + (x : Int) = (p : Int) := by rw [hp]; omega
   have hpb : p < n * 10 := by rw [hp]; omega
   obtain ⟨dq, hdq⟩ : ∃ d, d = p / n := ⟨_, rfl⟩
   obtain ⟨dm, hdm⟩ : ∃ d, d = p % n := ⟨_, rfl⟩
   have hpd : dq < 10 := by rw [hdq]; exact Nat.div_lt_of_lt_mul hpb
   have hpm : dm < n := by rw [hdm]; exact Nat.mod_lt _ hnp
   have hdv : (p : Int) / (n : Int) = (dq : Int) := by rw [hdq]; simp
   have hmd : (p : Int) % (n : Int) = (dm : Int) := by rw [hdm]; simp
   have HDQ := hid hdq
   have HDM := hid hdm
   clear hdq hdm
   have HP := hid hp
   clear hx1 hc1 hx hrow hp
   have hne : ¬ n = 0 := by omega
   simp only [hq1]
   go_wp2
   go_roundw
   case rel =>
    have hs : (wr.setCell ⟨w.heap.size, q, none⟩ (dval dq)).rowIs w.heap.size 3 zs.length (rowD (o.set q dq)) := ze1 HROW.out q dq (by rw [HOL.out]; exact hqn)
    refine ⟨q, dm, o.set q dq, by omega, rfl, congrArg (Value.int .i64) hmd, hpm, hid (by simpa using HOL.out), ?_, hs, HX.out.setCell (p := ⟨w.heap.size, q, none⟩) (Nat.le_refl _) _, hid ?_⟩
    ·refine hid (fun z hz => ?_)
     rcases List.mem_or_eq_of_mem_set hz with h | h
     ·exact HO.out z h
     ·rw [h]; exact hpd
    ·rw [HDQ.out, HDM.out, HP.out]
     exact zui HX1.out (by rw [HOL.out]; exact hqn) HV.out
   case measure => simp only [intOf]; omega
  | zero =>
   have HROW := hid hrow
   have HX := hid hx
   have hd := (Digs.of_row hrow HOL.out HO.out (by omega))
   have HD := hid hd
   have HV0 : Hid (val 10 zs = val 10 o * n + r) := hid (by simpa using HV.out)
   clear hrow hx hd
   go_wp2_with fail
   refine (z8p _ o _ HD.out).mono ?_
   rintro e w' ⟨v', rfl, hu, rfl⟩
   have HU := hid hu
   clear hu
   go_wp2
   all_goals
    go_ret2
    have e1 : val 10 zs / n = val 10 o := by rw [HV0.out, Nat.mul_comm, Nat.mul_add_div hnp, Nat.div_eq_of_lt hrn]; rfl
    have e2 : val 10 zs % n = r := by rw [HV0.out, Nat.mul_comm, Nat.mul_add_mod, Nat.mod_eq_of_lt hrn]
    refine ⟨v', ?_, ?_, HX.out⟩
    ·rw [e2]
     rfl
    ·rw [e1]
     refine HU.out.to (Kept.refl _ _) (fun k hk => ?_)
     subst hk
     exact ⟨Nat.le_refl _, HROW.out.lt⟩
theorem zqx {w : World} {v : Value} {base : Nat} {e : TypeId} {ds : List Nat} (h : w.ownsRow base e 1 v ds.length (ds.map uval)) (hl : ∀ z ∈ ds, z < B32) : U32s (fun k => base ≤ k ∧ k < w.heap.size) w v ds := by
 have hlt := h.lt
 rcases h.2 with ⟨rfl, h0⟩ | ⟨g, cap, cur, rfl, hg, hh, h1, h2, h3, h4⟩
 ·obtain rfl : ds = [] := List.length_eq_zero_iff.1 h0
  exact U32s.nilv _ _ _ _ (by omega)
 ·refine ⟨g, 0, ⟨_, cap, rfl, h1, h2, fun _ => rfl, fun _ => hlt g rfl⟩, fun j z hz => ⟨hl z (List.mem_of_getElem? hz), ?_⟩⟩
  rw [h.cellAt (0 + j) (by have := z04 hz; omega), Nat.zero_add]
  simp [hz, uval]
theorem zmw {S : Nat → Prop} (v : Value) (zs : List Nat) (w : World) (h : Digs S w v zs) (hS : ∀ k, S k → k < w.heap.size) (hr : zs.length ≤ 10000000) :
  Calls Tryz.prog 149 #[v, .int .i64 65536] w fun e w' => ∃ v', e = .returned (.tuple #[v', .int .i64 ((val 10 zs % 65536 : Nat) : Int)]) ∧ Digs (New w w') w' v' (rep 10 (val 10 zs / 65536)) ∧ Ext w w' :=
 zwp v zs 65536 w h hS hr (by decide) (by decide)
theorem zkl {N m : Nat} {o : List Nat} (h : rep B32 N = o ++ rep B32 m) (hm : 0 < m) : rep B32 N = (o ++ [m / 65536 % 65536 * 65536 + m % 65536]) ++ rep B32 (m / 65536 / 65536) := by
 have e1 : m / 65536 % 65536 * 65536 + m % 65536 = m % B32 := by show _ = m % 4294967296; omega
 have e2 : m / 65536 / 65536 = m / B32 := by show _ = m / 4294967296; omega
 rw [e1, e2]
 exact zf7 z0a h hm
theorem zkm {m : Nat} (h : 0 < m) : (rep 10 (m / 65536 / 65536)).length < (rep 10 m).length := by
 rw [z6d z0g h, List.length_cons]
 have : (rep 10 (m / 65536 / 65536)).length ≤ (rep 10 (m / 10)).length := z0x z0g _ _ (Nat.lt_of_le_of_lt (by omega) (z19 z0g _))
 omega
theorem zf8 {S : Nat → Prop} (v : Value) (n : Nat) (w : World) (h : Digs S w v (rep 10 n)) (hS : ∀ k, S k → k < w.heap.size) (hr : (rep 10 n).length ≤ 10000000) :
  Calls Tryz.prog 105 #[v] w fun e w' => ∃ v', e = .returned v' ∧ U32s (New w w') w' v' (rep B32 n) ∧ Ext w w' := by
 have HLN : Hid (n < 10 ^ (rep 10 n).length) := hid (z19 z0g n)
 have HL32 : Hid ((rep B32 n).length ≤ 10000000) := hid (Nat.le_trans (zmt HLN.out) hr)
 have H := hid h
 have HR := hid hr
 clear h hr
 obtain ⟨a, cap, rfl⟩ := H.out.form
 go_enter Tryz.func105, Tryz.ntmps105
 go_wp2
 go_loopw [0, 3] (fun x y wr => ∃ (m : Nat) (o : List Nat), Hid (m ≤ n) ∧ Hid (rep B32 n = o ++ rep B32 m) ∧ Hid (wr.ownsRow w.heap.size 111 1 y o.length (o.map uval)) ∧ Ext w wr ∧ Hid (Digs (fun k => k < wr.heap.size ∧ some k ≠ y.ownBlock) wr x (rep 10 m))) (fun x _ _ => z1x x)
 case atStart => exact ⟨n, [], hid (Nat.le_refl _), hid rfl, hid (World.ownsRow_nil _ _ _ _), Ext.refl _, hid (H.out.to (Kept.refl _ _) (fun k hk => ⟨hS k hk, by simp [Value.ownBlock]⟩))⟩
 case round =>
  obtain ⟨m, o, HMN, HV, HW, hx, HD⟩ := hrel
  obtain ⟨a1, c1, rfl⟩ := HD.out.form
  have HX := hid hx
  clear hx
  have hlm : (rep 10 m).length ≤ 10000000 := Nat.le_trans (z0x z0g _ _ (Nat.lt_of_le_of_lt HMN.out HLN.out)) HR.out
  by_cases h0 : 0 < m
  ·have hp : 0 < (rep 10 m).length := by
    rw [List.length_pos_iff, Ne, z3h z0g]
    omega
   have hol2 : o.length ≤ 1000000000 := by
    have := HL32.out
    rw [HV.out, List.length_append] at this
    omega
   have hb1 := zmw _ _ wr HD.out (fun k hk => hk.1) hlm
   rw [z1a z0g] at hb1
   obtain ⟨lo, hlo⟩ : ∃ d, d = m % 65536 := ⟨_, rfl⟩
   obtain ⟨hi, hhi⟩ : ∃ d, d = m / 65536 % 65536 := ⟨_, rfl⟩
   have hlo1 : lo < 65536 := by omega
   have hhi1 : hi < 65536 := by omega
   have HLO := hid hlo
   have HHI := hid hhi
   rw [← hlo] at hb1
   have HB1 := hid hb1
   clear hlo hhi
   have HLM := hid hlm
   have HM0 := hid h0
   clear hb1 hlm h0
   go_wp2_with fail
   refine HB1.out.mono ?_
   rintro e w1 ⟨v1, rfl, hd1, hx1⟩
   have HD1 := hid hd1
   obtain ⟨a2, c2, rfl⟩ := hd1.form
   have hb2 := zmw _ _ w1 hd1 New.lt (Nat.le_trans (z0x z0g _ _ (Nat.lt_of_le_of_lt (Nat.div_le_self _ _) (Nat.lt_of_le_of_lt HMN.out HLN.out))) HR.out)
   rw [z1a z0g, ← HHI.out] at hb2
   have HB2 := hid hb2
   have HX1 := hid hx1
   clear hd1 hx1 hb2
   go_wp2_with fail
   refine HB2.out.mono ?_
   rintro e w2 ⟨v2, rfl, hd2, hx2⟩
   have HD2 := hid hd2
   have HX2 := hid (HX1.out.trans hx2)
   have HX12 := hid hx2
   obtain ⟨a3, c3, rfl⟩ := hd2.form
   clear hd2 hx2
   have hown2 : w2.ownsRow w.heap.size 111 1 _ o.length (o.map uval) := HW.out.kept (row := none) ⟨HX2.out.os, HX2.out.tape, HX2.out.output, HX2.out.size, fun k hk _ => HX2.out.block k hk⟩ (by cases hv : Value.ownBlock _ <;> simp)
   have HW2 := hid hown2
   clear hown2
   go_wp2_with (at_builtin; refine z0h _ rfl (.tmp 19) (.tmp 26) 70 rfl w.heap.size 111 (.int .u32 0) 1 4 Tryz.underlying70 Tryz.infoU32 rfl (by decide) _ o.length (o.map uval) rfl HW2.out _ rfl (z2u rfl) rfl hol2 (by decide) (Nat.le_trans HX.out.size HX2.out.size) ?_; intro v3 w3 hown hg hbk; have HOW := hid hown; have HG := hid hg; have HBK := hid hbk; clear hown hg hbk)
   go_roundw
   case rel =>
    have hxg : Ext w w3 := z0p (HX.out.trans HX2.out) HG.out (fun q hq => (HW2.out.lt q hq).1)
    refine ⟨m / 65536 / 65536, o ++ [hi * 65536 + lo], hid ?_, hid ?_, hid (z2y HOW.out (by unfold uval; congr 1)), hxg, hid ?_⟩
    ·exact Nat.le_trans (Nat.div_le_self _ _) (Nat.le_trans (Nat.div_le_self _ _) HMN.out)
    ·rw [HHI.out, HLO.out]
     exact zkl HV.out HM0.out
    ·refine HD2.out.to (Kept.grown HG.out (fun k hk => ⟨hk.2, fun e => ?_⟩)) (fun k hk => ⟨Nat.lt_of_lt_of_le hk.2 HG.out.size, fun e => ?_⟩)
     ·have := (HW.out.lt k e.symm).2
      have := hk.1
      have := HX1.out.size
      omega
     ·rcases HBK.out with hb | hb
      ·rw [hb] at e
       have := (HW.out.lt k e.symm).2
       have := hk.1
       have := HX1.out.size
       omega
      ·rw [hb] at e
       have h1 : k = w2.heap.size + 1 := by simpa using e
       have := hk.2
       omega
   case measure =>
    simp only [z1x]
    exact zkm HM0.out
  ·obtain rfl : m = 0 := by omega
   have e : rep B32 n = o := by rw [HV.out, z3n, List.append_nil]
   have E := hid e
   have hz : (rep 10 0).length = 0 := rfl
   clear e
   go_wp2
   all_goals
    go_ret
    refine ⟨_, rfl, ?_, HX.out⟩
    rw [E.out]
    exact zqx HW.out (fun z hz => zcv z0a n z (by rw [E.out]; exact hz))
end
section
open Go.RowKit
theorem zqy {S : Nat → Prop} (va vb : Value) (xs ys : List Nat) (w : World) (ha : U32s S w va xs) (hb : U32s S w vb ys) (hS : ∀ k, S k → k < w.heap.size) :
  Calls Tryz.prog 104 #[va, vb] w fun e w' => e = .returned (.bool (decide (xs = ys))) ∧ Ext w w' := by
 have HA := hid ha
 have HB := hid hb
 have hl1 := ha.len_le
 have hl2 := hb.len_le
 obtain ⟨aa, ca, rfl⟩ := ha.form
 obtain ⟨ab, cb, rfl⟩ := hb.form
 clear ha hb
 by_cases hne : xs.length = ys.length
 ·have hq : ((xs.length : Int) != (ys.length : Int)) = false := by rw [bne_eq_false_iff_eq]; omega
  have HN := hid hne
  obtain ⟨L, hL⟩ : ∃ L, L = xs.length := ⟨_, rfl⟩
  have HL := hid hL
  rw [← hne, ← hL] at HB hl2 hq ⊢
  rw [← hL] at HA hl1
  clear hne hL
  go_enter Tryz.func104, Tryz.ntmps104
  go_wp2
  go_loopw [5] (fun i wr => ∃ k : Nat, k ≤ L ∧ i = .int .i64 k ∧ Ext w wr ∧ xs.take k = ys.take k) (fun i _ => L - (intOf i).toNat)
  case atStart => exact ⟨0, Nat.zero_le _, rfl, Ext.refl _, by simp⟩
  case round =>
   obtain ⟨k, hk, rfl, hx, ht⟩ := hrel
   by_cases hlt : k < L
   ·obtain ⟨x, hx1⟩ := z00 (show k < xs.length by have := HL.out; omega)
    obtain ⟨y, hy1⟩ := z00 (show k < ys.length by have := HL.out; have := HN.out; omega)
    obtain ⟨b1, o1, rfl, -, hn1, hm1, -, hxb, hc1⟩ := (HA.out.to (Kept.ext hx hS) (fun _ h => h)).cellAt hx1
    obtain ⟨b2, o2, rfl, -, hn2, hm2, -, hyb, hc2⟩ := (HB.out.to (Kept.ext hx hS) (fun _ h => h)).cellAt hy1
    have HX := hid hx
    have HT := hid ht
    have HX1 := hid hx1
    have HY1 := hid hy1
    clear hx ht hx1 hy1
    by_cases hxy : x = y
    ·have hb : ((x : Int) != (y : Int)) = false := by rw [bne_eq_false_iff_eq]; omega
     have HXY := hid hxy
     clear hxy
     go_wp2
     go_quiet (fail)
     go_wp2
     go_roundw
     case rel => exact ⟨k + 1, by omega, by go_num, HX.out.drewN _, by rw [List.take_add_one, List.take_add_one, HT.out, HX1.out, HY1.out, HXY.out]⟩
     case measure => simp only [intOf]; omega
    ·have hb : ((x : Int) != (y : Int)) = true := by rw [bne_iff_ne]; omega
     have HF : Hid (decide (xs = ys) = false) := hid (decide_eq_false (fun e => hxy (by
      have := HX1.out
      rw [e, HY1.out] at this
      exact (Option.some.inj this).symm)))
     clear hxy
     go_wp2
     go_quiet (fail)
     go_wp2
     all_goals
      go_ret
      exact ⟨by rw [HF.out]; rfl, HX.out.drewN _⟩
   ·obtain rfl : k = L := by omega
    have HX := hid hx
    have HF : Hid (decide (xs = ys) = true) := hid (decide_eq_true (by
     rw [HL.out, List.take_length, HN.out, List.take_length] at ht
     exact ht))
    clear hx ht
    go_wp2
    all_goals
     go_ret
     exact ⟨by rw [HF.out]; rfl, HX.out⟩
 ·have hq : ((xs.length : Int) != (ys.length : Int)) = true := by rw [bne_iff_ne]; omega
  have HF : Hid (decide (xs = ys) = false) := hid (decide_eq_false (fun e => hne (by rw [e])))
  clear hne
  go_enter Tryz.func104, Tryz.ntmps104
  go_wp2
  all_goals
   go_ret
   exact ⟨by rw [HF.out]; rfl, Ext.refl _⟩
theorem zmx {n m : Nat} (h : (rep 10 n).length < (rep 10 m).length) : cmpN n m = -1 := by
 have := z74 z0g h
 unfold cmpN
 rw [z2m]
 omega
theorem zkn {n m : Nat} (h : (rep 10 m).length < (rep 10 n).length) : cmpN n m = 1 := by
 have := z74 z0g h
 unfold cmpN
 rw [z3p]
 omega
theorem zf9 {n m k x y : Nat} (hlen : (rep 10 n).length = (rep 10 m).length) (hx : (rep 10 n)[k]? = some x) (hy : (rep 10 m)[k]? = some y) (ht : val 10 ((rep 10 n).drop (k + 1)) = val 10 ((rep 10 m).drop (k + 1))) (h : x < y) : cmpN n m = -1 := by
 have h1 := zcw (B := 10) (l := rep 10 n) (m := rep 10 m) (k := k) (by decide) (zcv z0g n) (by rw [z1g hx, z1g hy]; exact h) (z04 hx) (z04 hy) ht hlen
 rw [z1a z0g, z1a z0g] at h1
 unfold cmpN
 rw [z2m]
 omega
theorem zko {n m k x y : Nat} (hlen : (rep 10 n).length = (rep 10 m).length) (hx : (rep 10 n)[k]? = some x) (hy : (rep 10 m)[k]? = some y) (ht : val 10 ((rep 10 n).drop (k + 1)) = val 10 ((rep 10 m).drop (k + 1))) (h : y < x) : cmpN n m = 1 := by
 have := zf9 hlen.symm hy hx ht.symm h
 unfold cmpN at *
 rw [zds, this]
 rfl
theorem zmy {S : Nat → Prop} (va vb : Value) (n m : Nat) (w : World) (ha : Digs S w va (rep 10 n)) (hb : Digs S w vb (rep 10 m)) (hS : ∀ k, S k → k < w.heap.size) :
  Calls Tryz.prog 156 #[va, vb] w fun e w' => e = .returned (.int .i64 (cmpN n m)) ∧ Ext w w' := by
 have HU := hid ha
 have HV := hid hb
 have hl1 := ha.len_le
 have hl2 := hb.len_le
 obtain ⟨aa, ca, rfl⟩ := ha.form
 obtain ⟨ab, cb, rfl⟩ := hb.form
 clear ha hb
 rcases (show (rep 10 n).length < (rep 10 m).length ∨ (rep 10 m).length < (rep 10 n).length ∨ (rep 10 n).length = (rep 10 m).length by omega) with hlt | hlt | heq
 ·have HC := hid (zmx hlt)
  have hq : (((rep 10 n).length : Int) != ((rep 10 m).length : Int)) = true := by rw [bne_iff_ne]; omega
  go_enter Tryz.func156, Tryz.ntmps156
  go_wp2
  all_goals
   go_ret
   exact ⟨by rw [HC.out]; rfl, Ext.refl _⟩
 ·have HC := hid (zkn hlt)
  have hq : (((rep 10 n).length : Int) != ((rep 10 m).length : Int)) = true := by rw [bne_iff_ne]; omega
  go_enter Tryz.func156, Tryz.ntmps156
  go_wp2
  all_goals
   go_ret
   exact ⟨by rw [HC.out]; rfl, Ext.refl _⟩
 ·have HE := hid heq
  obtain ⟨L, hL⟩ : ∃ L, L = (rep 10 n).length := ⟨_, rfl⟩
  have HL := hid hL
  rw [← heq, ← hL] at HV hl2 ⊢
  rw [← hL] at HU hl1
  clear heq hL
  have hq : ((L : Int) != (L : Int)) = false := by simp
  go_enter Tryz.func156, Tryz.ntmps156
  go_wp2
  go_loopw [5] (fun i wr => ∃ k : Nat, k ≤ L ∧ i = .int .i64 ((k : Int) - 1) ∧ Ext w wr ∧ val 10 ((rep 10 n).drop k) = val 10 ((rep 10 m).drop k)) (fun i _ => (intOf i + 1).toNat)
  case atStart => exact ⟨L, Nat.le_refl _, rfl, Ext.refl _, by rw [List.drop_eq_nil_of_le (by have := HL.out; omega), List.drop_eq_nil_of_le (by have := HL.out; have := HE.out; omega)]⟩
  case round =>
   obtain ⟨k, hk, rfl, hx, ht⟩ := hrel
   cases k with
   | succ q =>
    have hq1 : ((q + 1 : Nat) : Int) - 1 = (q : Int) := by omega
    have hqn : q < L := by omega
    obtain ⟨x, hx1⟩ := z00 (show q < (rep 10 n).length by have := HL.out; omega)
    obtain ⟨y, hy1⟩ := z00 (show q < (rep 10 m).length by have := HL.out; have := HE.out; omega)
    obtain ⟨b1, o1, rfl, -, hn1, hm1, -, hxb, hc1⟩ := (HU.out.to (Kept.ext hx hS) (fun _ h => h)).cellAt hx1
    obtain ⟨b2, o2, rfl, -, hn2, hm2, -, hyb, hc2⟩ := (HV.out.to (Kept.ext hx hS) (fun _ h => h)).cellAt hy1
    have HX := hid hx
    have HT := hid ht
    have HX1 := hid hx1
    have HY1 := hid hy1
    clear hx ht hx1 hy1
    simp only [hq1]
    rcases (show x < y ∨ y < x ∨ x = y by omega) with hlt | hlt | heq
    ·have HC := hid (zf9 HE.out HX1.out HY1.out HT.out hlt)
     go_wp2
     go_quiet (fail)
     go_wp2
     all_goals
      go_ret
      exact ⟨by rw [HC.out]; rfl, HX.out.drewN _⟩
    ·have HC := hid (zko HE.out HX1.out HY1.out HT.out hlt)
     go_wp2
     go_quiet (fail)
     go_wp2
     go_quiet (fail)
     go_wp2
     all_goals
      go_ret
      exact ⟨by rw [HC.out]; rfl, (HX.out.drewN _).drewN _⟩
    ·subst heq
     go_wp2
     go_quiet (fail)
     go_wp2
     go_quiet (fail)
     go_wp2
     go_roundw
     case rel => exact ⟨q, by omega, rfl, HX.out.drewN _, by rw [z73 HX1.out, z73 HY1.out, HT.out]⟩
     case measure => simp only [intOf]; omega
   | zero =>
    have HX := hid hx
    have HC : Hid (cmpN n m = 0) := by
     have e : n = m := by simpa [z1a z0g] using ht
     refine hid ?_
     rw [e]
     exact zf0 _
    clear hx ht
    go_wp2
    all_goals
     go_ret
     exact ⟨by rw [HC.out]; rfl, HX.out⟩
end
section
open Go.RowKit
theorem z6m {B : Nat} {o : List Nat} {z : Nat} (h : ∀ x ∈ o, x < B) (hz : z < B) : ∀ x ∈ o ++ [z], x < B := by
 intro x hx
 rcases List.mem_append.1 hx with h1 | h1
 ·exact h x h1
 ·rw [List.mem_singleton.1 h1]
  exact hz
theorem zqz {B : Nat} {o xs ys : List Nat} {k : Nat} (h : val B o + B ^ k * 0 = val B (xs.take k) + val B (ys.take k)) (hx : xs.length ≤ k) (hy : ys.length ≤ k) : val B o = val B xs + val B ys := by
 rw [List.take_of_length_le hx, List.take_of_length_le hy] at h
 simpa using h
theorem zuj {S : Nat → Prop} (va vb : Value) (xs ys : List Nat) (w : World) (ha : Digs S w va xs) (hb : Digs S w vb ys) (hS : ∀ k, S k → k < w.heap.size) (hr : xs.length ≤ 10000000) (hr2 : ys.length ≤ 10000000) :
  Calls Tryz.prog 120 #[va, vb] w fun e w' => ∃ v', e = .returned v' ∧ Digs (New w w') w' v' (rep 10 (val 10 xs + val 10 ys)) ∧ Ext w w' := by
 have HA := hid ha
 have HB := hid hb
 obtain ⟨aa, ca, rfl⟩ := ha.form
 obtain ⟨ab, cb, rfl⟩ := hb.form
 clear ha hb
 go_enter Tryz.func120, Tryz.ntmps120
 go_wp2
 go_loopw [5, 6, 7] (fun x c i wr => ∃ (k cc : Nat) (o : List Nat), k ≤ 10000001 ∧ i = .int .i64 k ∧ c = .int .i64 cc ∧ cc ≤ 1 ∧ Hid (o.length = k) ∧ Hid (xs.length < k → ys.length < k → cc = 0) ∧ Hid (∀ z ∈ o, z < 10) ∧ Hid (wr.ownsRow w.heap.size 3 1 x o.length (o.map dval)) ∧ Ext w wr ∧
  Hid (val 10 o + 10 ^ k * cc = val 10 (xs.take k) + val 10 (ys.take k))) (fun _ _ i _ => xs.length + ys.length + 2 - (intOf i).toNat)
 case atStart => exact ⟨0, 0, [], by omega, rfl, rfl, by omega, hid rfl, hid (fun h => absurd h (by omega)), hid (by simp), hid (World.ownsRow_nil _ _ _ _), Ext.refl _, hid (by simp [val])⟩
 case round =>
  obtain ⟨k, cc, o, hk, rfl, rfl, hcc, HOL, HZ, HO, HW, hx, HV⟩ := hrel
  have hol2 : o.length ≤ 1000000000 := by have := HOL.out; omega
  have HX := hid hx
  by_cases h1 : k < xs.length
  ·obtain ⟨x, hx1⟩ := z00 h1
   obtain ⟨b1, o1, rfl, -, hn1, hm1, -, hxb, hc1⟩ := (HA.out.ext hx hS).cellAt hx1
   have HX1 := hid hx1
   clear hx1
   by_cases h2 : k < ys.length
   ·obtain ⟨y, hy1⟩ := z00 h2
    obtain ⟨b2, o2, rfl, -, hn2, hm2, -, hyb, hc2⟩ := (HB.out.ext hx hS).cellAt hy1
    have HY1 := hid hy1
    clear hy1 hx
    go_wp2_with (at_builtin; refine z0h _ rfl (.tmp 44) (.tmp 47) 137 rfl w.heap.size 3 (.int .i64 0) 1 8 Tryz.underlying137 Tryz.infoInt rfl (by decide) _ o.length (o.map dval) rfl HW.out _ rfl (z2u rfl) rfl hol2 (by decide) HX.out.size ?_; intro v1 w1 hown hg _; have HOW := hid hown; have HG := hid hg; clear hown hg)
    go_roundw
    case rel =>
     refine ⟨k + 1, (cc + (x + y)) / 10, o ++ [(cc + (x + y)) % 10], by omega, by go_num, congrArg (Value.int .i64) (by omega), by omega, hid (by simp [HOL.out]), hid (fun h => absurd h (by omega)), hid (z6m HO.out (Nat.mod_lt _ (by decide))), hid (z2y HOW.out (congrArg (Value.int .i64) (by omega))), z0p HX.out HG.out (fun q hq => (HW.out.lt q hq).1), hid ?_⟩
     exact z3o HOL.out HV.out (x + y) (by rw [z1g HX1.out, z1g HY1.out])
    case measure => simp only [intOf]; omega
   ·clear hx
    go_wp2_with (at_builtin; refine z0h _ rfl (.tmp 44) (.tmp 47) 137 rfl w.heap.size 3 (.int .i64 0) 1 8 Tryz.underlying137 Tryz.infoInt rfl (by decide) _ o.length (o.map dval) rfl HW.out _ rfl (z2u rfl) rfl hol2 (by decide) HX.out.size ?_; intro v1 w1 hown hg _; have HOW := hid hown; have HG := hid hg; clear hown hg)
    go_roundw
    case rel =>
     refine ⟨k + 1, (cc + (x + 0)) / 10, o ++ [(cc + (x + 0)) % 10], by omega, by go_num, congrArg (Value.int .i64) (by omega), by omega, hid (by simp [HOL.out]), hid (fun h => absurd h (by omega)), hid (z6m HO.out (Nat.mod_lt _ (by decide))), hid (z2y HOW.out (congrArg (Value.int .i64) (by omega))), z0p HX.out HG.out (fun q hq => (HW.out.lt q hq).1), hid ?_⟩
     exact z3o HOL.out HV.out (x + 0) (by rw [z1g HX1.out, z3t (l := ys) (by omega)])
    case measure => simp only [intOf]; omega
  ·by_cases h2 : k < ys.length
   ·obtain ⟨y, hy1⟩ := z00 h2
    obtain ⟨b2, o2, rfl, -, hn2, hm2, -, hyb, hc2⟩ := (HB.out.ext hx hS).cellAt hy1
    have HY1 := hid hy1
    clear hy1 hx
    go_wp2_with (at_builtin; refine z0h _ rfl (.tmp 44) (.tmp 47) 137 rfl w.heap.size 3 (.int .i64 0) 1 8 Tryz.underlying137 Tryz.infoInt rfl (by decide) _ o.length (o.map dval) rfl HW.out _ rfl (z2u rfl) rfl hol2 (by decide) HX.out.size ?_; intro v1 w1 hown hg _; have HOW := hid hown; have HG := hid hg; clear hown hg)
    go_roundw
    case rel =>
     refine ⟨k + 1, (cc + (0 + y)) / 10, o ++ [(cc + (0 + y)) % 10], by omega, by go_num, congrArg (Value.int .i64) (by omega), by omega, hid (by simp [HOL.out]), hid (fun _ h => absurd h (by omega)), hid (z6m HO.out (Nat.mod_lt _ (by decide))), hid (z2y HOW.out (congrArg (Value.int .i64) (by omega))), z0p HX.out HG.out (fun q hq => (HW.out.lt q hq).1), hid ?_⟩
     exact z3o HOL.out HV.out (0 + y) (by rw [z3t (l := xs) (by omega), z1g HY1.out])
    case measure => simp only [intOf]; omega
   ·clear hx
    by_cases h3 : 0 < cc
    ·have hkb : k ≤ xs.length ∨ k ≤ ys.length := by
      rcases Nat.lt_or_ge xs.length k with g1 | g1
      ·rcases Nat.lt_or_ge ys.length k with g2 | g2
       ·have := HZ.out g1 g2; omega
       ·exact .inr g2
      ·exact .inl g1
     go_wp2_with (at_builtin; refine z0h _ rfl (.tmp 44) (.tmp 47) 137 rfl w.heap.size 3 (.int .i64 0) 1 8 Tryz.underlying137 Tryz.infoInt rfl (by decide) _ o.length (o.map dval) rfl HW.out _ rfl (z2u rfl) rfl hol2 (by decide) HX.out.size ?_; intro v1 w1 hown hg _; have HOW := hid hown; have HG := hid hg; clear hown hg)
     go_roundw
     case rel =>
      refine ⟨k + 1, (cc + (0 + 0)) / 10, o ++ [(cc + (0 + 0)) % 10], by omega, by go_num, congrArg (Value.int .i64) (by omega), by omega, hid (by simp [HOL.out]), hid (fun _ _ => by omega), hid (z6m HO.out (Nat.mod_lt _ (by decide))), hid (z2y HOW.out (congrArg (Value.int .i64) (by omega))), z0p HX.out HG.out (fun q hq => (HW.out.lt q hq).1), hid ?_⟩
      exact z3o HOL.out HV.out (0 + 0) (by rw [z3t (l := xs) (by omega), z3t (l := ys) (by omega)])
     case measure => simp only [intOf]; omega
    ·obtain rfl : cc = 0 := by omega
     have hd := zai HW.out HO.out
     have HD := hid hd
     obtain ⟨a1, c1, rfl⟩ := hd.form
     have HE := hid (zqz HV.out (by omega) (by omega))
     clear hd
     go_wp2_with fail
     refine (z8p _ o _ HD.out).mono ?_
     rintro e w' ⟨v', rfl, hu, rfl⟩
     have HU := hid hu
     clear hu
     go_wp2
     all_goals
      go_ret
      exact ⟨_, rfl, by rw [← HE.out]; exact HU.out, HX.out⟩
theorem zmz {S : Nat → Prop} (va vb : Value) (xs ys : List Nat) (w : World) (ha : Digs S w va xs) (hb : Digs S w vb ys) (hS : ∀ k, S k → k < w.heap.size) (hr : xs.length ≤ 10000000) (hle : ys.length ≤ xs.length) (hge : val 10 ys ≤ val 10 xs) :
  Calls Tryz.prog 157 #[va, vb] w fun e w' => ∃ v', e = .returned v' ∧ Digs (New w w') w' v' (rep 10 (val 10 xs - val 10 ys)) ∧ Ext w w' := by
 have HA := hid ha
 have HB := hid hb
 have HGE := hid hge
 obtain ⟨aa, ca, rfl⟩ := ha.form
 obtain ⟨ab, cb, rfl⟩ := hb.form
 clear ha hb hge
 go_enter Tryz.func157, Tryz.ntmps157
 go_wp2
 go_loopw [5, 6, 7] (fun x c i wr => ∃ (k cc : Nat) (o : List Nat), k ≤ xs.length ∧ i = .int .i64 k ∧ c = .int .i64 cc ∧ cc ≤ 1 ∧ Hid (o.length = k) ∧ Hid (∀ z ∈ o, z < 10) ∧ Hid (wr.ownsRow w.heap.size 3 1 x o.length (o.map dval)) ∧ Ext w wr ∧
  Hid (val 10 o + val 10 (ys.take k) = val 10 (xs.take k) + 10 ^ k * cc)) (fun _ _ i _ => xs.length - (intOf i).toNat)
 case atStart => exact ⟨0, 0, [], by omega, rfl, rfl, by omega, hid rfl, hid (by simp), hid (World.ownsRow_nil _ _ _ _), Ext.refl _, hid (by simp [val])⟩
 case round =>
  obtain ⟨k, cc, o, hk, rfl, rfl, hcc, HOL, HO, HW, hx, HV⟩ := hrel
  have hol2 : o.length ≤ 1000000000 := by have := HOL.out; omega
  have HX := hid hx
  by_cases h1 : k < xs.length
  ·obtain ⟨x, hx1⟩ := z00 h1
   obtain ⟨b1, o1, rfl, -, hn1, hm1, -, hxb, hc1⟩ := (HA.out.ext hx hS).cellAt hx1
   have HX1 := hid hx1
   clear hx1
   by_cases h2 : k < ys.length
   ·obtain ⟨y, hy1⟩ := z00 h2
    obtain ⟨b2, o2, rfl, -, hn2, hm2, -, hyb, hc2⟩ := (HB.out.ext hx hS).cellAt hy1
    have HY1 := hid hy1
    clear hy1 hx
    by_cases hs : y + cc ≤ x
    ·go_wp2_with (at_builtin; refine z0h _ rfl (.tmp 35) (.tmp 37) 137 rfl w.heap.size 3 (.int .i64 0) 1 8 Tryz.underlying137 Tryz.infoInt rfl (by decide) _ o.length (o.map dval) rfl HW.out _ rfl (z2u rfl) rfl hol2 (by decide) HX.out.size ?_; intro v1 w1 hown hg _; have HOW := hid hown; have HG := hid hg; clear hown hg)
     go_roundw
     case rel =>
      refine ⟨k + 1, 0, o ++ [x - y - cc], by omega, by go_num, rfl, by omega, hid (by simp [HOL.out]), hid (z6m HO.out (by omega)), hid (z2y HOW.out (congrArg (Value.int .i64) (by omega))), z0p HX.out HG.out (fun q hq => (HW.out.lt q hq).1), hid ?_⟩
      exact z4z HOL.out HV.out _ _ (by rw [z1g HX1.out, z1g HY1.out]; omega)
     case measure => simp only [intOf]; omega
    ·go_wp2_with (at_builtin; refine z0h _ rfl (.tmp 35) (.tmp 37) 137 rfl w.heap.size 3 (.int .i64 0) 1 8 Tryz.underlying137 Tryz.infoInt rfl (by decide) _ o.length (o.map dval) rfl HW.out _ rfl (z2u rfl) rfl hol2 (by decide) HX.out.size ?_; intro v1 w1 hown hg _; have HOW := hid hown; have HG := hid hg; clear hown hg)
     go_roundw
     case rel =>
      refine ⟨k + 1, 1, o ++ [x + 10 - y - cc], by omega, by go_num, rfl, by omega, hid (by simp [HOL.out]), hid (z6m HO.out (by omega)), hid (z2y HOW.out (congrArg (Value.int .i64) (by omega))), z0p HX.out HG.out (fun q hq => (HW.out.lt q hq).1), hid ?_⟩
      exact z4z HOL.out HV.out _ _ (by rw [z1g HX1.out, z1g HY1.out]; omega)
     case measure => simp only [intOf]; omega
   ·clear hx
    by_cases hs : cc ≤ x
    ·go_wp2_with (at_builtin; refine z0h _ rfl (.tmp 35) (.tmp 37) 137 rfl w.heap.size 3 (.int .i64 0) 1 8 Tryz.underlying137 Tryz.infoInt rfl (by decide) _ o.length (o.map dval) rfl HW.out _ rfl (z2u rfl) rfl hol2 (by decide) HX.out.size ?_; intro v1 w1 hown hg _; have HOW := hid hown; have HG := hid hg; clear hown hg)
     go_roundw
     case rel =>
      refine ⟨k + 1, 0, o ++ [x - 0 - cc], by omega, by go_num, rfl, by omega, hid (by simp [HOL.out]), hid (z6m HO.out (by omega)), hid (z2y HOW.out (congrArg (Value.int .i64) (by omega))), z0p HX.out HG.out (fun q hq => (HW.out.lt q hq).1), hid ?_⟩
      exact z4z HOL.out HV.out _ _ (by rw [z1g HX1.out, z3t (l := ys) (by omega)]; omega)
     case measure => simp only [intOf]; omega
    ·go_wp2_with (at_builtin; refine z0h _ rfl (.tmp 35) (.tmp 37) 137 rfl w.heap.size 3 (.int .i64 0) 1 8 Tryz.underlying137 Tryz.infoInt rfl (by decide) _ o.length (o.map dval) rfl HW.out _ rfl (z2u rfl) rfl hol2 (by decide) HX.out.size ?_; intro v1 w1 hown hg _; have HOW := hid hown; have HG := hid hg; clear hown hg)
     go_roundw
     case rel =>
      refine ⟨k + 1, 1, o ++ [x + 10 - 0 - cc], by omega, by go_num, rfl, by omega, hid (by simp [HOL.out]), hid (z6m HO.out (by omega)), hid (z2y HOW.out (congrArg (Value.int .i64) (by omega))), z0p HX.out HG.out (fun q hq => (HW.out.lt q hq).1), hid ?_⟩
      exact z4z HOL.out HV.out _ _ (by rw [z1g HX1.out, z3t (l := ys) (by omega)]; omega)
     case measure => simp only [intOf]; omega
  ·obtain rfl : k = xs.length := by omega
   have hd := zai HW.out HO.out
   have HD := hid hd
   obtain ⟨a1, c1, rfl⟩ := hd.form
   have HE : Hid (val 10 o = val 10 xs - val 10 ys) := by
    have h1 := HV.out
    rw [List.take_of_length_le hle, List.take_length] at h1
    exact hid (zm5 HO.out HOL.out HGE.out h1)
   clear hd hx
   go_wp2_with fail
   refine (z8p _ o _ HD.out).mono ?_
   rintro e w' ⟨v', rfl, hu, rfl⟩
   have HU := hid hu
   clear hu
   go_wp2
   all_goals
    go_ret
    exact ⟨_, rfl, by rw [← HE.out]; exact HU.out, HX.out⟩
end
section
open Go.RowKit
theorem World.rowIs.drewN {w : World} {g n : Nat} {T : TypeId} {f : Nat → Value} (h : w.rowIs g T n f) (q : Nat) : (w.drewN q).rowIs g T n f := h
theorem zik {o : List Nat} {p cc u X : Nat} (hp : p < o.length) (h : val 10 o + 10 ^ p * cc = X) : val 10 (o.set p ((cc + dg o p + u) % 10)) + 10 ^ (p + 1) * ((cc + dg o p + u) / 10) = X + 10 ^ p * u := by
 have h1 := zh5 (B := 10) o p ((cc + dg o p + u) % 10) hp
 have h2 := congrArg (10 ^ p * ·) (Nat.mod_add_div (cc + dg o p + u) 10)
 simp only [Nat.mul_add] at h2
 rw [Nat.pow_succ, Nat.mul_assoc]
 omega
theorem ztl {B : Nat} {o : List Nat} {p z : Nat} (h : ∀ x ∈ o, x < B) (hz : z < B) : ∀ x ∈ o.set p z, x < B := by
 intro x hx
 rcases List.mem_or_eq_of_mem_set hx with h1 | h1
 ·exact h x h1
 ·rw [h1]; exact hz
theorem zn0 {o : List Nat} {p j z : Nat} (h : j ≠ p) : dg (o.set p z) j = dg o j := by
 unfold dg
 rw [List.getElem?_set_ne (fun e => h e.symm)]
def zhf (V d Y i : Nat) : Nat := V + 10 ^ i * (d * Y)
theorem zd1 {V d i k : Nat} {ys : List Nat} : zhf V d (val 10 (ys.take k)) i + 10 ^ (i + k) * (d * dg ys k) = zhf V d (val 10 (ys.take (k + 1))) i := by
 unfold zhf
 rw [z32, Nat.pow_add, Nat.mul_add, Nat.mul_add, Nat.mul_assoc, ← Nat.mul_assoc d, Nat.mul_comm d (10 ^ k), Nat.mul_assoc]
 omega
theorem zn1 {xs : List Nat} {i x Y : Nat} (hx : xs[i]? = some x) : zhf (val 10 (xs.take i) * Y) x Y i = val 10 (xs.take (i + 1)) * Y := by
 unfold zhf
 rw [z38 hx, Nat.add_mul, Nat.mul_assoc]
theorem zn2 {xs ys o : List Nat} {i : Nat} (hx : ∀ z ∈ xs, z < 10) (hy : ∀ z ∈ ys, z < 10) (hi : i ≤ xs.length) (h : val 10 o = val 10 (xs.take i) * val 10 ys) : ∀ j, i + ys.length ≤ j → dg o j = 0 := by
 intro j hj
 by_cases hjl : j < o.length
 ·refine zch (B := 10) (k := i + ys.length) (by decide) ?_ j hj hjl
  rw [h, Nat.pow_add]
  have h1 := z4l (xs.take i) (fun z hz => hx z (List.mem_of_mem_take hz))
  rw [List.length_take, Nat.min_eq_left hi] at h1
  have h2 := z4l ys hy
  exact Nat.mul_lt_mul'' h1 h2
 ·exact z3t (by omega)
theorem zuk {S : Nat → Prop} (va vb : Value) (xs ys : List Nat) (w : World) (ha : Digs S w va xs) (hb : Digs S w vb ys) (hS : ∀ k, S k → k < w.heap.size) (hr : xs.length ≤ 10000000) (hr2 : ys.length ≤ 10000000) :
  Calls Tryz.prog 129 #[va, vb] w fun e w' => ∃ v', e = .returned v' ∧ Digs (New w w') w' v' (rep 10 (val 10 xs * val 10 ys)) ∧ Ext w w' := by
 have HA := hid ha
 have HB := hid hb
 have HLA := hid ha.lt
 have HLB := hid hb.lt
 obtain ⟨aa, ca, rfl⟩ := ha.form
 obtain ⟨ab, cb, rfl⟩ := hb.form
 clear ha hb
 have hmk := run_make_row' (P := Tryz.prog) 137 3 (.int .i64 0) 8 Tryz.underlying137 Tryz.infoInt rfl .i64 .i64 (xs.length + ys.length + 1) (by omega) (by omega) w
 rw [show ((xs.length + ys.length + 1 : Nat) : Int) = (xs.length : Int) + (ys.length : Int) + 1 by omega] at hmk
 obtain ⟨L, hL⟩ : ∃ L, L = xs.length + ys.length + 1 := ⟨_, rfl⟩
 have hLI : (xs.length : Int) + (ys.length : Int) + 1 = (L : Int) := by omega
 rw [← hL, hLI] at hmk
 have HR := hid (zd0 w L 3)
 have HE := hid (Ext.alloc (Ext.refl w) (.cells (madeCells #[.int .i64 0] L) 3))
 have HL := hid hL
 have hLb : L ≤ 20000001 := by omega
 have hLa : xs.length < L := by omega
 clear hL
 go_enter Tryz.func129, Tryz.ntmps129
 go_wp2
 go_loopw [6] (fun i wr => ∃ (n : Nat) (o : List Nat), n ≤ xs.length ∧ i = .int .i64 n ∧ Hid (o.length = L) ∧ Hid (∀ z ∈ o, z < 10) ∧ Hid (wr.rowIs w.heap.size 3 L (rowD o)) ∧ Ext w wr ∧ Hid (val 10 o = val 10 (xs.take n) * val 10 ys)) (fun i _ => xs.length - (intOf i).toNat)
 case atStart => exact ⟨0, List.replicate L 0, Nat.zero_le _, rfl, hid (by simp), hid (by simp), HR, HE.out, hid (by simp [zez, val])⟩
 case round =>
  obtain ⟨n, o, hn, rfl, HOL, HO, HROW, hx, HV⟩ := hrel
  by_cases hlt : n < xs.length
  ·obtain ⟨x, hx1⟩ := z00 hlt
   obtain ⟨b1, o1, rfl, -, hn1, hm1, hS1, hxb, hc1⟩ := HA.out.cellAt hx1
   have HX1 := hid hx1
   have HC1 := hid hc1
   have HX := hid hx
   have HAB := hid (zn2 HLA.out HLB.out hn HV.out)
   have hLn : n + ys.length + 1 ≤ L := by have := HL.out; omega
   obtain ⟨wo, rfl⟩ : ∃ wo : World, wo = wr := ⟨_, rfl⟩
   clear hx1 hc1 hx
   go_wp2
   go_loopw [7, 8] (fun c kk wr => ∃ (k cc : Nat) (o : List Nat), k ≤ ys.length + 1 ∧ kk = .int .i64 k ∧ c = .int .i64 cc ∧ cc ≤ 9 ∧ Hid (ys.length < k → cc = 0) ∧ Hid (o.length = L) ∧ Hid (∀ z ∈ o, z < 10) ∧ Hid (wr.rowIs w.heap.size 3 L (rowD o)) ∧ Ext w wr ∧
    Hid (k ≤ ys.length → ∀ j, n + ys.length ≤ j → dg o j = 0) ∧ Hid (val 10 o + 10 ^ (n + k) * cc = zhf (val 10 (xs.take n) * val 10 ys) x (val 10 (ys.take k)) n)) (fun _ kk _ => ys.length + 1 - (intOf kk).toNat)
   case atStart => exact ⟨0, 0, o, Nat.zero_le _, rfl, rfl, by omega, hid (fun h => absurd h (by omega)), HOL, HO, HROW, HX.out, hid (fun _ => HAB.out), hid (by rw [HV.out]; simp [zhf, val])⟩
   case round =>
    obtain ⟨k, cc, o, hk, rfl, rfl, hcc, HZ, HOL, HO, HROW, hx, HAB, HV⟩ := hrel
    have HX := hid hx
    have hc1 := hx.cell HC1.out
    by_cases h2 : k < ys.length
    ·obtain ⟨y, hy1⟩ := z00 h2
     obtain ⟨b2, o2, rfl, -, hn2, hm2, -, hyb, hc2⟩ := (HB.out.ext hx hS).cellAt hy1
     have HY1 := hid hy1
     have hpl : n + k < L := by omega
     have hcs := HROW.out.cell (i := n + k) hpl
     have hfs := HROW.out.frozen (n + k)
     have hdg := zwl (B := 10) (by decide) HO.out (n + k)
     obtain ⟨s, hs⟩ : ∃ s, s = dg o (n + k) := ⟨_, rfl⟩
     obtain ⟨p, hp⟩ : ∃ p : Nat, p = x * y := ⟨_, rfl⟩
     have hpb : p ≤ 9 * 9 := by rw [hp]; exact Nat.mul_le_mul (by omega) (by omega)
     have hmul : (x : Int) * (y : Int) = (p : Int) := by rw [hp]; simp
     unfold rowD dval at hcs
     rw [← hs] at hcs hdg
     have HS := hid hs
     have HP := hid hp
     clear hy1 hs hp hx
     go_wp2
     go_quiet (fail)
     go_wp2
     go_roundw
     case rel =>
      have hpl2 : n + k < o.length := by rw [HOL.out]; exact hpl
      have hst := ze1 (World.rowIs.drewN HROW.out nq) (n + k) ((cc + s + p) % 10) hpl2
      refine ⟨k + 1, (cc + s + p) / 10, o.set (n + k) ((cc + s + p) % 10), by omega, by go_num, congrArg (Value.int .i64) (by omega), by omega, hid (fun h => absurd h (by omega)), hid (by simpa using HOL.out), hid (ztl HO.out (Nat.mod_lt _ (by decide))), hid ?_, (HX.out.drewN nq).setCell (p := ⟨w.heap.size, n + k, none⟩) (Nat.le_refl _) _, hid (fun _ j hj => ?_), hid ?_⟩
      ·refine cast (congrArg (fun e => World.rowIs (World.setCell (wr.drewN nq) ⟨w.heap.size, n + k, none⟩ (Value.int .i64 e)) _ _ _ _) ?_) hst
       omega
      ·rw [zn0 (by omega)]
       exact HAB.out (by omega) j hj
      ·have h1 := zik (u := p) hpl2 HV.out
       rw [← HS.out] at h1
       rw [show n + (k + 1) = n + k + 1 by omega, h1, HP.out, ← z1g HY1.out]
       exact zd1
     case measure => simp only [intOf]; omega
    ·have hk0 : ys.length ≤ k := by omega
     clear hx
     by_cases h3 : 0 < cc
     ·have hke : k = ys.length := by
       rcases Nat.lt_or_ge ys.length k with g1 | g1
       ·have := HZ.out g1; omega
       ·omega
      have hpl : n + k < L := by omega
      have hcs := HROW.out.cell (i := n + k) hpl
      have hfs := HROW.out.frozen (n + k)
      have hs0 : dg o (n + k) = 0 := HAB.out (by omega) _ (by omega)
      unfold rowD dval at hcs
      rw [hs0] at hcs
      have HS := hid hs0
      have HKE := hid hke
      clear hs0 hke
      go_wp2
      go_roundw
      case rel =>
       have hpl2 : n + k < o.length := by rw [HOL.out]; exact hpl
       have hst := ze1 HROW.out (n + k) ((cc + 0 + 0) % 10) hpl2
       refine ⟨k + 1, (cc + 0 + 0) / 10, o.set (n + k) ((cc + 0 + 0) % 10), by have := HKE.out; omega, by go_num, congrArg (Value.int .i64) (by omega), by omega, hid (fun _ => by omega), hid (by simpa using HOL.out), hid (ztl HO.out (Nat.mod_lt _ (by decide))), hid ?_, HX.out.setCell (p := ⟨w.heap.size, n + k, none⟩) (Nat.le_refl _) _, hid (fun h => absurd h (by have := HKE.out; omega)), hid ?_⟩
       ·refine cast (congrArg (fun e => World.rowIs (World.setCell wr ⟨w.heap.size, n + k, none⟩ (Value.int .i64 e)) _ _ _ _) ?_) hst
        omega
       ·have h1 := zik (u := 0) hpl2 HV.out
        rw [HS.out] at h1
        rw [show n + (k + 1) = n + k + 1 by omega, h1, ← zd1, (z3t hk0 : dg ys k = 0)]
        simp
      case measure => have := HKE.out; simp only [intOf]; omega
     ·obtain rfl : cc = 0 := by omega
      go_wp2
      go_roundw
      case rel =>
       refine ⟨n + 1, o, by omega, by go_num, HOL, HO, HROW, HX.out, hid ?_⟩
       have h1 := HV.out
       rw [List.take_of_length_le hk0, zn1 HX1.out] at h1
       simpa using h1
      case measure => simp only [intOf]; omega
  ·obtain rfl : n = xs.length := by omega
   have HX := hid hx
   have hd := Digs.of_row HROW.out HOL.out HO.out (by omega)
   have HD := hid hd
   have HV0 : Hid (val 10 o = val 10 xs * val 10 ys) := hid (by simpa using HV.out)
   clear hx hd
   go_wp2_with fail
   refine (z8p _ o _ HD.out).mono ?_
   rintro e w' ⟨v', rfl, hu, rfl⟩
   have HU := hid hu
   clear hu
   go_wp2
   all_goals
    go_ret
    refine ⟨_, rfl, ?_, HX.out⟩
    rw [← HV0.out]
    refine HU.out.to (Kept.refl _ _) (fun k hk => ?_)
    subst hk
    exact ⟨Nat.le_refl _, HROW.out.lt⟩
end
section
open Go.RowKit
theorem new2 {w W : World} {u v : Value} {T : TypeId} (h : Ext (w.alloc (.cells #[u, v] T)) W) :
  W.cell? ⟨w.heap.size, 0, none⟩ = some u ∧ W.cell? ⟨w.heap.size, 1, none⟩ = some v ∧ W.frozen? ⟨w.heap.size, 0, none⟩ = false ∧ W.frozen? ⟨w.heap.size, 1, none⟩ = false :=
 ⟨h.new_cell rfl, h.new_cell rfl, h.new_free 0, h.new_free 1⟩
theorem zn3 (p : PZ) (t : Int × Mono) (v : Int) : degP (p ++ [t]) v = max (degP p v) (ex t.2 v) := by
 simp [degP, List.foldl_append]
theorem zfa {p : PZ} {k : Nat} {t : Int × Mono} (h : p[k]? = some t) (v : Int) : degP (p.take (k + 1)) v = max (degP (p.take k) v) (ex t.2 v) := by
 rw [List.take_add_one, h]
 exact zn3 _ _ _
theorem z80 {p : PZ} (h : z0i p) (k : Nat) : z0i (p.take k) := fun t ht => h t (List.mem_of_mem_take ht)
theorem zb6 {S : Nat → Prop} (v : Value) (ts : List RTerm) (x : Int) (w : World) (h : z05 S w v ts) (hS : ∀ k, S k → k < w.heap.size) (hr : z48 ts) (hx : -9223372036854775808 ≤ x ∧ x ≤ 9223372036854775807) :
  Calls Tryz.prog 70 #[v, .int .i64 x] w fun e w' => e = .returned (.int .i64 (degP (z0n ts) x)) ∧ Ext w w' := by
 have H := hid h
 have HR := hid hr
 have HXB := hid hx
 obtain ⟨a, cap, rfl⟩ := h.form
 clear h hr hx
 go_enter Tryz.func70, Tryz.ntmps70
 go_wp2_with fail
 refine (zcx _ ts w H.out hS HR.out).mono ?_
 rintro e w1 ⟨v1, rfl, hp, hx1⟩
 have HX1 := hid hx1
 have HP := hid hp
 have hcan : z0i (z0n ts) := (z2t ts).may
 rw [← z5j] at hcan
 have ep : z0n ts = toP (z2l ts) := (z5j ts).symm
 have EP := hid ep
 clear ep
 generalize z2l ts = qs at *
 have HCAN := hid hcan
 obtain ⟨a1, c1, rfl⟩ := hp.form
 have hl := hp.len_le
 clear hx1 hp hcan
 go_wp2
 go_loopw [4, 10] (fun d i wr => ∃ k : Nat, k ≤ qs.length ∧ i = .int .i64 k ∧ d = .int .i64 (degP ((toP qs).take k) x) ∧ Ext w1 wr) (fun _ i _ => qs.length - (intOf i).toNat)
 case atStart => exact ⟨0, Nat.zero_le _, rfl, rfl, Ext.refl _⟩
 case round =>
  obtain ⟨k, hk, rfl, rfl, hx⟩ := hrel
  obtain ⟨hd1, hd2⟩ := z0u (z80 HCAN.out k) x
  by_cases hlt : k < qs.length
  ·obtain ⟨t, ht⟩ := z00 hlt
   obtain ⟨b, off, vm, vo, rfl, -, hn1, hm1, hSb, h1, h2, h3, h4, h5⟩ := HP.out.cellAt ht
   have hq : (toP qs)[k]? = some (valI t.c, t.m) := by simp [toP, ht]
   have hmm : mayM t.m = true := HCAN.out _ (List.mem_of_getElem? hq)
   have hep : ex (z10 t.m) x = ex t.m x := by unfold z10; rw [if_pos hmm]
   have HS := hid (zfa hq x)
   obtain ⟨he1, he2⟩ := z1n hmm x
   obtain ⟨⟨ng, zs⟩, m⟩ := t
   simp only at h1 h2 h3 h4 h5 hep he1 he2 HS
   have H5 := hid h5
   obtain ⟨am, cm, rfl⟩ := h4.form
   obtain ⟨ao, co, rfl⟩ := h5.form
   have g1 := Ext.cell hx h1
   have g2 := Ext.cell hx h2
   have g3 := Ext.cell hx h3
   have HX := hid hx
   have HA := hid (hx.alloc (.cells #[.bool ng, .slice am zs.length cm, .slice ao m.length co] 83))
   have hS1 : ∀ k, S k → k < w1.heap.size := z08 hS HX1.out
   have HD := zat (S := S) (.slice ao m.length co) m x _ (H5.out.ext HA.out hS1) (z08 hS1 HA.out) HXB.out
   rw [hep] at HD
   have HDD := hid HD
   clear h1 h2 h3 h4 h5 hx ht hq hmm hep HD
   generalize degP ((toP qs).take k) x = d at *
   generalize ex m x = q at *
   go_wp2_with fail
   refine HDD.out.mono ?_
   rintro e w2 ⟨rfl, hx2⟩
   have HX2 := hid (HA.out.trans hx2)
   clear hx2
   go_wp2
   go_roundw
   case rel => exact ⟨k + 1, by omega, by go_num, by rw [HS.out]; first | done | exact congrArg (Value.int .i64) (by split <;> omega), HX2.out⟩
   case measure => simp only [intOf]; omega
  ·obtain rfl : k = qs.length := by omega
   have HX := hid hx
   clear hx
   go_wp2
   all_goals
    go_ret
    refine ⟨?_, HX1.out.trans HX.out⟩
    rw [EP.out, List.take_of_length_le (by simp [toP])]
    rfl
end
section
open Go.RowKit
def ZV (S : Nat → Prop) (w : World) (v : Value) (z : Int) : Prop := ∃ vd, v = .agg #[.bool (decide (z < 0)), vd] ∧ Digs S w vd (rep 10 z.natAbs)
theorem ZV.to {S S' : Nat → Prop} {w w' : World} {v : Value} {z : Int} (h : ZV S w v z) (hk : Kept S w w') (hS : ∀ k, S k → S' k) : ZV S' w' v z := by
 obtain ⟨vd, h1, h2⟩ := h
 exact ⟨vd, h1, h2.to hk hS⟩
theorem ZV.ext {S : Nat → Prop} {w W : World} {v : Value} {z : Int} (h : ZV S w v z) (hx : Ext w W) (hS : ∀ k, S k → k < w.heap.size) : ZV S W v z := h.to (Kept.ext hx hS) (fun _ h => h)
theorem ZV.form {S : Nat → Prop} {w : World} {v : Value} {z : Int} (h : ZV S w v z) : ∃ a n c, v = .agg #[.bool (decide (z < 0)), .slice a n c] := by
 obtain ⟨vd, h1, h2⟩ := h
 obtain ⟨a, c, rfl⟩ := h2.form
 exact ⟨a, _, c, h1⟩
theorem zwq (b : Bool) (n : Nat) : decide (sg b n < 0) = (b && decide (0 < n)) := by
 unfold sg
 cases b <;> simp <;> omega
theorem zn4 (b : Bool) (n : Nat) : (sg b n).natAbs = n := by
 unfold sg
 cases b <;> simp
theorem z4t (n : Nat) : decide (0 < (rep 10 n).length) = decide (0 < n) := by
 rw [decide_eq_decide, List.length_pos_iff, Ne, z3h z0g]
 omega
theorem zkp {S : Nat → Prop} {w : World} {vd : Value} {b : Bool} {n : Nat} (h : Digs S w vd (rep 10 n)) : ZV S w (.agg #[.bool (b && decide (0 < n)), vd]) (sg b n) :=
 ⟨vd, by rw [zwq], by rw [zn4]; exact h⟩
theorem zhg (x : RInt) : valI x = sg x.neg (val B32 x.mag) := rfl
theorem z5c {w0 w1 w2 : World} {b : Nat} {v : Value} {z : Int} (hv : ZV (New w1 w2) w2 v z) (h01 : Ext w0 w1) (h12 : Ext w1 w2) (hb0 : w0.heap.size ≤ b) (hb1 : b < w1.heap.size) (x y : Value) :
  ZV (New w0 ((w2.setCell ⟨b, 0, none⟩ x).setCell ⟨b, 1, none⟩ y)) ((w2.setCell ⟨b, 0, none⟩ x).setCell ⟨b, 1, none⟩ y) v z ∧ Ext w0 ((w2.setCell ⟨b, 0, none⟩ x).setCell ⟨b, 1, none⟩ y) := by
 refine ⟨hv.to (Kept.set2 (fun h => ?_) _ _) (fun k hk => ⟨Nat.le_trans h01.size hk.1, ?_⟩), (h01.trans h12).set2 hb0 _ _⟩
 ·have := h.1
  omega
 ·rw [z4n]
  exact hk.2
theorem zhh {w W : World} {u0 v0 : Value} {T0 : TypeId} {u v : Value} {T : TypeId} (h : Ext ((w.alloc (.cells #[u0, v0] T0)).alloc (.cells #[u, v] T)) W) :
  W.cell? ⟨w.heap.size + 1, 0, none⟩ = some u ∧ W.cell? ⟨w.heap.size + 1, 1, none⟩ = some v ∧ W.frozen? ⟨w.heap.size + 1, 0, none⟩ = false ∧ W.frozen? ⟨w.heap.size + 1, 1, none⟩ = false := by
 have := new2 h
 rw [z02] at this
 exact this
theorem old2 {w W : World} {u0 v0 : Value} {T0 : TypeId} {o : Obj} (h : Ext ((w.alloc (.cells #[u0, v0] T0)).alloc o) W) : W.cell? ⟨w.heap.size, 0, none⟩ = some u0 ∧ W.cell? ⟨w.heap.size, 1, none⟩ = some v0 :=
 ⟨(new2 ((Ext.alloc (Ext.refl _) o).trans h)).1, (new2 ((Ext.alloc (Ext.refl _) o).trans h)).2.1⟩
def szZ (z : Int) : Prop := (rep 10 z.natAbs).length ≤ 2000000
theorem ztm {S : Nat → Prop} (v : Value) (x : RInt) (w : World) (h : IntV S w v x) (hS : ∀ k, S k → k < w.heap.size) (hr : x.mag.length ≤ 100000) :
  Calls Tryz.prog 77 #[v] w fun e w' => ∃ v', e = .returned v' ∧ ZV (New w w') w' v' (valI x) ∧ Ext w w' := by
 obtain ⟨ng, zs⟩ := x
 obtain ⟨vm, rfl, hu⟩ := h
 simp only at hu hr ⊢
 have HU := hid hu
 obtain ⟨a, c, rfl⟩ := hu.form
 clear hu
 have HK := hid (Ext.alloc (Ext.alloc (Ext.refl w) (.cells #[.bool ng, .slice a zs.length c] 72)) (.cells #[.bool false, .slice none 0 0] 139))
 have HSZ : Hid (w.heap.size + 1 < ((w.alloc (.cells #[.bool ng, .slice a zs.length c] 72)).alloc (.cells #[.bool false, .slice none 0 0] 139)).heap.size) := hid (by simp)
 have hc := zwo _ zs _ (HU.out.ext HK.out hS) (z08 hS HK.out) hr
 obtain ⟨n, hn⟩ : ∃ n, n = val B32 zs := ⟨_, rfl⟩
 rw [← hn] at hc
 have HC := hid hc
 have er : valI ⟨ng, zs⟩ = sg ng n := by rw [zhg, hn]
 rw [er]
 clear hc hn er
 go_enter Tryz.func77, Tryz.ntmps77
 go_wp2_with fail
 refine HC.out.mono ?_
 rintro e w1 ⟨v1, rfl, hd, hx⟩
 have HX := hid hx
 obtain ⟨c0, c1⟩ := old2 hx
 obtain ⟨r0, r1, f0, f1⟩ := zhh hx
 have HE := hid (And.intro r0 r1)
 have HD := hid hd
 obtain ⟨a1, n1, rfl⟩ := hd.form
 clear hx hd
 have hlen := z4t n
 have hz := zkp (b := ng) HD.out
 by_cases h0 : 0 < n
 ·have hp : 0 < (rep 10 n).length := by simpa [h0] using hlen
  rw [show (ng && decide (0 < n)) = ng by simp [h0]] at hz
  have HZ := hid hz
  clear hlen hz
  cases ng
  all_goals
   go_wp2
   have hd := fun x y => z1o x y HE.out.1 HE.out.2
   refine bodyPost_ret (by simp [results, Tryz.results77, go_sem, (hd _ _).1, (hd _ _).2]; rfl) rfl ?_
   have hg := fun x y => z5c (w0 := w) (b := w.heap.size + 1) HZ.out HK.out HX.out (by omega) HSZ.out x y
   exact ⟨_, rfl, (hg _ _).1, (hg _ _).2⟩
 ·obtain rfl : n = 0 := by omega
  rw [show (ng && decide (0 < 0)) = false by simp] at hz
  have HZ := hid hz
  have hp : (rep 10 0).length = 0 := rfl
  clear hlen hz
  cases ng
  all_goals
   go_wp2
   have hd := fun x y => z1o x y HE.out.1 HE.out.2
   refine bodyPost_ret (by simp [results, Tryz.results77, go_sem, (hd _ _).1, (hd _ _).2]; rfl) rfl ?_
   have hg := fun x y => z5c (w0 := w) (b := w.heap.size + 1) HZ.out HK.out HX.out (by omega) HSZ.out x y
   exact ⟨_, rfl, (hg _ _).1, (hg _ _).2⟩
end
section
open Go.RowKit
def ze2 (o : Oper) : Bool := match o.op with
 | .move _ => true
 | .assign _ => true
 | .pick _ _ _ => true
 | .load _ _ => true
 | .build _ _ => true
 | .fieldAddr _ _ _ => true
 | .indexAddr _ _ _ => true
 | .binOp _ _ _ _ _ => true
 | .unOp _ _ _ => true
 | .convert _ _ _ => true
 | .extract _ _ => true
 | .call c => match c.callee with
  | .builtin .len => true
  | _ => false
 | _ => false
theorem z35 {P : Program} (s : Sem Value) (W : World) : (∃ x w', (do pure (Next.value (← s)) : Sem Next).run P W = .ok (.value x) w') ∨ (∃ h w', (do pure (Next.value (← s)) : Sem Next).run P W = .halt h w') := by
 simp only [Sem.run_bind]
 cases s.run P W with
 | ok x w' => exact .inl ⟨x, w', by simp⟩
 | halt h w' => exact .inr ⟨h, w', rfl⟩
theorem zn5 {P : Program} {o : Oper} (h : ze2 o = true) (ρ : Operand → Value) (W : World) : (∃ x w', (execOp ρ o).run P W = .ok (.value x) w') ∨ (∃ h w', (execOp ρ o).run P W = .halt h w') := by
 unfold ze2 at h
 unfold execOp
 cases hop : o.op with
 | move x => exact .inl ⟨_, _, rfl⟩
 | assign x => exact .inl ⟨_, _, rfl⟩
 | pick c a b =>
  simp only [Sem.run_bind]
  cases (asBool (ρ c)).run P W with
  | ok x w' => exact .inl ⟨_, w', rfl⟩
  | halt h w' => exact .inr ⟨h, w', rfl⟩
 | load t a => exact z35 _ W
 | build t a => exact z35 _ W
 | fieldAddr t a b => exact z35 _ W
 | indexAddr t a b => exact z35 _ W
 | binOp a b c d e => exact z35 _ W
 | unOp a b c => exact z35 _ W
 | convert a b c => exact z35 _ W
 | extract a b => exact z35 _ W
 | call c =>
  rw [hop] at h
  simp only at h
  split at h
  ·rename_i hc
   simp only [resolve, hc, Sem.run_bind, Sem.run_pure, Result.andThen_ok, invoke, builtin]
   cases (Builtin.len_ c.argTypes o.type (Array.map ρ c.args)).run P W with
   | ok x w' => exact .inl ⟨x, w', rfl⟩
   | halt h w' => exact .inr ⟨h, w', rfl⟩
  ·cases h
 | _ => rw [hop] at h; simp at h
theorem zfb {P : Program} {ops : Array Oper} {S : World → Prop} {o : Oper} {v : Value} {a : Act} (hp : ze2 o = true) (h : YieldsIn P ops S o v a) : YieldsIf P ops S o v a := by
 rcases h with ⟨hw, hv⟩ | ⟨hw, hv⟩
 ·refine .inl ⟨hw, fun W hW => ?_⟩
  have h1 := hv W hW
  unfold Oper.quietAt at h1
  rcases zn5 (P := P) hp a.eval W with ⟨x, w', e⟩ | ⟨x, w', e⟩
  ·rw [e] at h1 ⊢
   simp only [Oper.quietUpon] at h1
   rw [h1.1, h1.2]
  ·rw [e] at h1
   exact absurd h1 (by simp [Oper.quietUpon])
 ·exact .inr ⟨hw, hv⟩
def zr0 (md : Region.Mode) (ops : Array Oper) (g : Nat) : List Oper → Nat → Array Bool → Bool
 | [], k, listed => Region.seqB md ops g k listed
 | o :: l, k, listed => ze2 o && (Region.ready md ops listed).contains k && Region.free md ops listed k && zr0 md ops g l (k + 1) (listed.setIfInBounds k true)
def zwr (S : World → Prop) (K : Act → World → Prop) (Q : Exit → Act → World → Prop) : Exit → Act → World → Prop
 | .normal, a, w => S w ∧ K a w
 | ex, a, w => Q ex a w
def zb7 (P : Program) (ops : Array Oper) (S : World → Prop) (Q : Exit → Act → World → Prop) : List Oper → Act → World → Prop
 | [], a, w => Q .normal a w
 | o :: l, a, w => wpList P ops (zwr S (zb7 P ops S Q l) Q) [o] a w
section
variable {P : Program} {md : Region.Mode} {ops : Array Oper} {S : World → Prop} {Q : Exit → Act → World → Prop}
theorem z9x : ∀ (l : List Oper) (k : Nat) (listed : Array Bool) (a : Act) (w : World), (∀ j, l[j]? = ops[k + j]?) →
  Region.seqB md ops l.length k listed = true → zb7 P ops S Q l a w → wpAnyH P md ops Q S l.length listed a w
 | [], _, _, _, _, _, hB, h => ⟨by simpa [Region.seqB] using hB, h⟩
 | o :: l, k, listed, a, w, hl, hB, h => by
  have h0 : ops[k]? = some o := by simpa using (hl 0).symm
  simp only [List.length_cons, Region.seqB, Bool.and_eq_true, decide_eq_true_eq] at hB
  refine ⟨fun h1 => (by rw [hB.1] at h1; cases h1), fun i hi => ?_⟩
  rw [hB.1] at hi
  have hik : i = k := by simpa using hi
  subst hik
  have hrest : ∀ a' w', (S w' ∧ zb7 P ops S Q l a' w') → (S w' ∧ wpAnyH P md ops Q S l.length (listed.setIfInBounds i true) a' w') := fun a' w' h' =>
   ⟨h'.1, z9x l (i + 1) _ a' w' (fun j => by have := hl (j + 1); simpa [Nat.add_assoc, Nat.add_comm 1 j] using this) hB.2 h'.2⟩
  unfold zb7 wpList at h
  unfold wpOp
  simp only [h0]
  have hu : ∀ (K : Act → World → Prop) (r : Result Next), o.upon P a K (zwr S (zb7 P ops S Q l) Q) r → o.upon P a K Q r := by
   intro K r hr
   cases r with
   | ok n w' => cases n <;> exact hr
   | halt x w' => cases x <;> exact hr
  split
  ·rename_i hw
   rw [if_pos hw] at h
   rcases h with h | h
   ·exact .inl (Oper.wp_mono (fun a' w' h' => hrest a' w' h') (hu _ _ h))
   ·exact .inr h
  ·rename_i hw
   rw [if_neg hw] at h
   exact hrest _ _ h
theorem z9y (hsel : Region.noSelect ops = true) (hQ : ∀ c a t v w, Q (.panic c) (a.put (some t) v) w → Q (.panic c) a w) {g : Nat} {w : World} (hS : S w) {L : Act → Prop} :
  ∀ (l : List Oper) (k : Nat) (listed : Array Bool) (a : Act), (∀ j, j < l.length → l[j]? = ops[k + j]?) → zr0 md ops g l k listed = true → wpQuiet P ops S L l a →
   (∀ listed' a', Region.seqB md ops g (k + l.length) listed' = true → L a' → wpAnyH P md ops Q S g listed' a' w) → wpAnyH P md ops Q S (l.length + g) listed a w
 | [], k, listed, a, _, hB, h, hL => by
  simp only [List.length_nil, Nat.zero_add]
  exact hL listed a hB h
 | o :: l, k, listed, a, hl, hB, h, hL => by
  have h0 : ops[k]? = some o := by simpa using (hl 0 (by simp)).symm
  simp only [zr0, Bool.and_eq_true] at hB
  obtain ⟨⟨⟨hp, hr⟩, hf⟩, hB'⟩ := hB
  have hq : qOp P ops S k (wpQuiet P ops S L l) a := by unfold qOp; simp only [h0]; exact h
  obtain ⟨v, hy, hK⟩ := yieldsIn_of_qOp h0 hq
  rw [show (o :: l).length + g = (l.length + g) + 1 by simp only [List.length_cons]; omega]
  refine wpAnyH_take h0 hsel hf hr (fun c a w hp => ?_) (zfb hp hy) hS ?_
  ·cases hd : o.dst with
   | none => rw [hd] at hp; exact hp
   | some t => rw [hd] at hp; exact hQ c a t v w hp
  exact z9y hsel hQ hS l (k + 1) _ _ (fun j hj => by have := hl (j + 1) (by simp; omega); simpa [Nat.add_assoc, Nat.add_comm 1 j] using this) hB' hK
   (fun listed' a' hs hLa => hL listed' a' (by rw [show k + (o :: l).length = k + 1 + l.length by simp only [List.length_cons]; omega]; exact hs) hLa)
theorem ze3 {id : Nat} {a : Act} {w : World} {l : List Oper} (S : World → Prop) (n : Nat) (hm : P.follows .mixedOrders = true) (hsel : Region.noSelect l.toArray = true) (hn : n ≤ l.length)
  (hB : zr0 .any l.toArray (l.length - n) (l.take n) 0 (Array.replicate l.length false) = true) (hQ : ∀ c a t v w, Q (.panic c) (a.put (some t) v) w → Q (.panic c) a w) (hS : S w.drew)
  (h : wpQuiet P l.toArray S (fun a' => zb7 P l.toArray S Q (l.drop n) a' w.drew) (l.take n) a) : (Code.region id l.toArray true).wp P Q a w := by
 refine wp_region_held (S := S) hm ?_
 have htl : (l.take n).length = n := by simp; omega
 have hdl : (l.drop n).length = l.length - n := by simp
 have H := z9y (P := P) (md := .any) (ops := l.toArray) (S := S) (Q := Q) hsel hQ (g := l.length - n) (w := w.drew) hS (l.take n) 0 (Array.replicate l.length false) a (fun j hj => by
  have hj' : j < n := by rw [htl] at hj; exact hj
  simp [hj']) hB h (fun listed' a' hs hL => by
   have := z9x (P := P) (md := .any) (ops := l.toArray) (S := S) (Q := Q) (l.drop n) n listed' a' w.drew (fun j => by simp [List.getElem?_drop]) (by rw [hdl]; rw [htl, Nat.zero_add] at hs; exact hs) hL
   rwa [hdl] at this)
 rw [htl, show n + (l.length - n) = l.length by omega] at H
 simpa using H
end
structure LaterB (B : Nat) (w : World) where
 w' : World
 h : Below B w w'
theorem LaterB.cell {B : Nat} {w : World} (X : LaterB B w) {b i : Nat} {v : Value} (hb : b < B) (hc : w.cell? ⟨b, i, none⟩ = some v) : X.w'.cell? ⟨b, i, none⟩ = some v := z69 X.h hb hc
end
section
open Go.RowKit
theorem zfc {w0 w1 w2 : World} {b : Nat} {z : Int} {vm : Value} (hu : U32s (New w1 w2) w2 vm (rep B32 z.natAbs)) (h01 : Ext w0 w1) (h12 : Ext w1 w2) (hb0 : w0.heap.size ≤ b) (hb1 : b < w1.heap.size) (x y : Value) :
  IntV (New w0 ((w2.setCell ⟨b, 0, none⟩ x).setCell ⟨b, 1, none⟩ y)) ((w2.setCell ⟨b, 0, none⟩ x).setCell ⟨b, 1, none⟩ y) (.agg #[.bool (decide (z < 0)), vm]) (ofI z) ∧ Ext w0 ((w2.setCell ⟨b, 0, none⟩ x).setCell ⟨b, 1, none⟩ y) :=
 z5w (r := ofI z) rfl hu h01 h12 hb0 hb1 x y
theorem zn6 {S : Nat → Prop} (v : Value) (z : Int) (w : World) (h : ZV S w v z) (hS : ∀ k, S k → k < w.heap.size) (hr : szZ z) :
  Calls Tryz.prog 61 #[v] w fun e w' => ∃ v', e = .returned v' ∧ IntV (New w w') w' v' (ofI z) ∧ Ext w w' := by
 obtain ⟨vd, rfl, hd⟩ := h
 have HD := hid hd
 obtain ⟨a, c, rfl⟩ := hd.form
 obtain ⟨n, hn⟩ : ∃ n, n = (rep 10 z.natAbs).length := ⟨_, rfl⟩
 have hl := hd.len_le
 have hpos := z4t z.natAbs
 rw [← hn] at hpos hl ⊢
 have HDN := hid hd
 rw [← hn] at HDN
 have hng : z < 0 → 0 < n := fun h => by
  rw [decide_eq_decide] at hpos
  exact hpos.2 (by omega)
 obtain ⟨ng, hq⟩ : ∃ b, b = decide (z < 0) := ⟨_, rfl⟩
 rw [← hq]
 have HQ := hid hq
 have hng2 : ng = true → 0 < n := fun h => hng (by rw [h] at hq; simpa using hq.symm)
 clear hd hn hpos hng hq HD
 have HK := hid (Ext.alloc (Ext.alloc (Ext.refl w) (.cells #[.bool ng, .slice a n c] 139)) (.cells #[.bool false, .slice none 0 0] 72))
 have HSZ : Hid (w.heap.size + 1 < ((w.alloc (.cells #[.bool ng, .slice a n c] 139)).alloc (.cells #[.bool false, .slice none 0 0] 72)).heap.size) := hid (by simp)
 have x0 := (Ext.refl ((w.alloc (.cells #[.bool ng, .slice a n c] 139)).alloc (.cells #[.bool false, .slice none 0 0] 72))).drew
 have HX0 := hid x0
 have S0 := old2 x0
 clear x0
 cases ng with
 | true =>
  have hp := hng2 rfl
  clear hng2
  go_enter Tryz.func61, Tryz.ntmps61
  go_wp2
  go_region_held3 (fun W => W.cell? ⟨w.heap.size, 0, none⟩ = some (.bool true) ∧ W.cell? ⟨w.heap.size, 1, none⟩ = some (.slice a n c)) (first | exact S0 | exact S1 | exact ⟨z0b (z0b S1.1 (ab (by omega))) (ab (by omega)), z0b (z0b S1.2 (ab (by omega))) (ab (by omega))⟩)
   (first
    | (go_at_call 105; (with_reducible refine (zf8 _ z.natAbs _ (HDN.out.ext (HK.out.trans HX0.out) hS) (z08 hS (HK.out.trans HX0.out)) (Nat.le_trans hr (by decide))).mono ?_); rintro e w1 ⟨v1, rfl, hu1, hx1⟩; have S1 := old2 (HX0.out.trans hx1); obtain ⟨r0, r1, f0, f1⟩ := zhh (HX0.out.trans hx1); have HE := hid (And.intro r0 r1); have HX1 := hid hx1; have HU1 := hid hu1; obtain ⟨a1, n1, rfl⟩ := hu1.form; clear hx1 hu1))
  go_wp2
  have hd := fun x y => z1o x y HE.out.1 HE.out.2
  refine bodyPost_ret (by simp [results, Tryz.results61, go_sem, (hd _ _).1, (hd _ _).2]; rfl) rfl ?_
  have hg := fun x y => zfc (w0 := w) (b := w.heap.size + 1) HU1.out (HK.out.trans HX0.out) HX1.out (by omega) (Nat.lt_of_lt_of_le HSZ.out HX0.out.size) x y
  rw [← HQ.out] at hg
  exact ⟨_, rfl, (hg _ _).1, (hg _ _).2⟩
 | false =>
  clear hng2 S0
  have hBs : w.heap.size + 1 ≤ ((w.alloc (.cells #[.bool false, .slice a n c] 139)).alloc (.cells #[.bool false, .slice none 0 0] 72)).heap.size := by simp
  have HBS := hid hBs
  have e0 := old2 (Ext.refl ((w.alloc (.cells #[.bool false, .slice a n c] 139)).alloc (.cells #[.bool false, .slice none 0 0] 72)))
  have L0 := fun X : LaterB (w.heap.size + 1) ((w.alloc (.cells #[.bool false, .slice a n c] 139)).alloc (.cells #[.bool false, .slice none 0 0] 72)) => X.cell (Nat.lt_succ_self _) e0.1
  have L1 := fun X : LaterB (w.heap.size + 1) ((w.alloc (.cells #[.bool false, .slice a n c] 139)).alloc (.cells #[.bool false, .slice none 0 0] 72)) => X.cell (Nat.lt_succ_self _) e0.2
  have hne : Nonempty (LaterB (w.heap.size + 1) ((w.alloc (.cells #[.bool false, .slice a n c] 139)).alloc (.cells #[.bool false, .slice none 0 0] 72))) := ⟨⟨_, (Below.refl _ _).mono hBs⟩⟩
  clear e0 hBs
  go_enter Tryz.func61, Tryz.ntmps61
  go_wp2
  refine ze3 (fun W => ∃ X : LaterB (w.heap.size + 1) ((w.alloc (.cells #[.bool false, .slice a n c] 139)).alloc (.cells #[.bool false, .slice none 0 0] 72)), W = X.w') 10 (by kernel_rfl) (by kernel_rfl) (by simp) (by kernel_rfl) (fun _ _ _ _ _ h => h) ⟨⟨_, HX0.out.mono HBS.out⟩, rfl⟩ ?_
  simp only [List.take_succ_cons, List.take_zero, List.drop_succ_cons, List.drop_zero]
  repeat (go_big_quiet_step (fail))
  refine wpQuiet_nil ?_
  refine (show wpList _ _ _ [_] _ _ from ?_)
  go_wp2_with fail
  refine (zf8 _ z.natAbs _ (HDN.out.ext (HK.out.trans HX0.out) hS) (z08 hS (HK.out.trans HX0.out)) (Nat.le_trans hr (by decide))).mono ?_
  rintro e w1 ⟨v1, rfl, hu1, hx1⟩
  obtain ⟨r0, r1, f0, f1⟩ := zhh (HX0.out.trans hx1)
  have HE := hid (And.intro r0 r1)
  have HX1 := hid hx1
  have HU1 := hid hu1
  obtain ⟨a1, n1, rfl⟩ := hu1.form
  clear hx1 hu1
  have HBW : Hid (Below (w.heap.size + 1) ((w.alloc (.cells #[.bool false, .slice a n c] 139)).alloc (.cells #[.bool false, .slice none 0 0] 72)) w1) := hid ((HX0.out.trans HX1.out).mono HBS.out)
  go_wp2
  refine ⟨⟨⟨w1, HBW.out⟩, rfl⟩, ?_⟩
  refine (show wpList _ _ _ [_] _ _ from ?_)
  go_wp2
  refine ⟨⟨⟨w1, HBW.out⟩, rfl⟩, ?_⟩
  refine (show wpList _ _ _ [_] _ _ from ?_)
  go_wp2
  refine ⟨⟨⟨_, (HBW.out.setCell (p := ⟨w.heap.size + 1, 0, none⟩) (Nat.le_refl _) _).setCell (p := ⟨w.heap.size + 1, 1, none⟩) (Nat.le_refl _) _⟩, rfl⟩, ?_⟩
  unfold zb7
  go_wp2
  have hd := fun x y => z1o x y HE.out.1 HE.out.2
  refine bodyPost_ret (by simp [results, Tryz.results61, go_sem, (hd _ _).1, (hd _ _).2]; rfl) rfl ?_
  have hg := fun x y => zfc (w0 := w) (b := w.heap.size + 1) HU1.out (HK.out.trans HX0.out) HX1.out (by omega) (Nat.lt_of_lt_of_le HSZ.out HX0.out.size) x y
  rw [← HQ.out] at hg
  exact ⟨_, rfl, (hg _ _).1, (hg _ _).2⟩
theorem z7b {S : Nat → Prop} (v : Value) (z : Int) (w : World) (h : ZV S w v z) :
  Calls Tryz.prog 123 #[v] w fun e w' => e = .returned (.int .i64 (z2d z)) ∧ Ext w w' := by
 obtain ⟨vd, rfl, hd⟩ := h
 obtain ⟨a, c, rfl⟩ := hd.form
 have hl := hd.len_le
 have hpos := z4t z.natAbs
 obtain ⟨n, hn⟩ : ∃ n, n = (rep 10 z.natAbs).length := ⟨_, rfl⟩
 rw [← hn] at hpos hl ⊢
 rw [decide_eq_decide] at hpos
 have HP := hid hpos
 clear hd hpos hn
 rcases (show z < 0 ∨ z = 0 ∨ 0 < z by omega) with hz | hz | hz
 ·have hn0 : 0 < n := HP.out.2 (by omega)
  have hb : ((n : Int) == 0) = false := by rw [beq_eq_false_iff_ne]; omega
  have hdz : decide (z < 0) = true := decide_eq_true hz
  have HS : Hid (z2d z = -1) := hid (by unfold z2d; rw [z2m]; exact hz)
  rw [hdz]
  have HK := hid (Ext.alloc (Ext.refl w) (.cells #[.bool true, .slice a n c] 139))
  clear hdz hz
  go_enter Tryz.func123, Tryz.ntmps123
  go_wp2
  all_goals
   go_ret
   exact ⟨by rw [HS.out]; rfl, HK.out⟩
 ·have hn0 : n = 0 := by
   have := HP.out
   omega
  subst hn0
  have hdz : decide (z < 0) = false := decide_eq_false (by omega)
  have HS : Hid (z2d z = 0) := hid (by unfold z2d; rw [z8d]; exact hz)
  rw [hdz]
  have HK := hid (Ext.alloc (Ext.refl w) (.cells #[.bool false, .slice a 0 c] 139))
  clear hdz hz
  go_enter Tryz.func123, Tryz.ntmps123
  go_wp2
  all_goals
   go_ret
   exact ⟨by rw [HS.out]; rfl, HK.out⟩
 ·have hn0 : 0 < n := HP.out.2 (by omega)
  have hb : ((n : Int) == 0) = false := by rw [beq_eq_false_iff_ne]; omega
  have hdz : decide (z < 0) = false := decide_eq_false (by omega)
  have HS : Hid (z2d z = 1) := hid (by unfold z2d; rw [z3p]; exact hz)
  rw [hdz]
  have HK := hid (Ext.alloc (Ext.refl w) (.cells #[.bool false, .slice a n c] 139))
  clear hdz hz
  go_enter Tryz.func123, Tryz.ntmps123
  go_wp2
  all_goals
   go_ret
   exact ⟨by rw [HS.out]; rfl, HK.out⟩
theorem zr1 {S : Nat → Prop} (va vb : Value) (x y : RInt) (w : World) (ha : IntV S w va x) (hb : IntV S w vb y) (hS : ∀ k, S k → k < w.heap.size) :
  Calls Tryz.prog 59 #[va, vb] w fun e w' => e = .returned (.bool (decide (x = y))) ∧ Ext w w' := by
 obtain ⟨xn, xs⟩ := x
 obtain ⟨yn, ys⟩ := y
 obtain ⟨vx, rfl, hu⟩ := ha
 obtain ⟨vy, rfl, hv⟩ := hb
 simp only at hu hv ⊢
 have HU := hid hu
 have HV := hid hv
 obtain ⟨a, c, rfl⟩ := hu.form
 obtain ⟨a2, c2, rfl⟩ := hv.form
 clear hu hv
 have HK := hid (Ext.alloc (Ext.alloc (Ext.refl w) (.cells #[.bool xn, .slice a xs.length c] 72)) (.cells #[.bool yn, .slice a2 ys.length c2] 72))
 by_cases hxy : xn = yn
 ·subst hxy
  have HS : Hid (decide ((⟨xn, xs⟩ : RInt) = ⟨xn, ys⟩) = decide (xs = ys)) := hid (by simp)
  go_enter Tryz.func59, Tryz.ntmps59
  go_wp2_with fail
  refine (zqy _ _ xs ys _ (HU.out.ext HK.out hS) (HV.out.ext HK.out hS) (z08 hS HK.out)).mono ?_
  rintro e w1 ⟨rfl, hx⟩
  have HX := hid hx
  clear hx
  go_wp2
  all_goals
   go_ret
   exact ⟨by rw [HS.out]; rfl, HK.out.trans HX.out⟩
 ·have hb : (xn == yn) = false := by rw [beq_eq_false_iff_ne]; exact hxy
  have HS : Hid (decide ((⟨xn, xs⟩ : RInt) = ⟨yn, ys⟩) = false) := hid (decide_eq_false (fun e => hxy (by cases e; rfl)))
  clear hxy
  go_enter Tryz.func59, Tryz.ntmps59
  go_wp2
  all_goals
   go_ret
   exact ⟨by rw [HS.out]; rfl, HK.out⟩
theorem zn7 {x : RInt} (h : okI x) : decide (x = ofI (valI x)) = mayI x := by
 cases hm : mayI x with
 | true => exact decide_eq_true (zdv h hm).symm
 | false =>
  refine decide_eq_false (fun e => ?_)
  rw [e, zib] at hm
  cases hm
theorem zn8 {x : RInt} (h : okI x) (hr : x.mag.length ≤ 100000) : szZ (valI x) := by
 unfold szZ
 have : (valI x).natAbs = val B32 x.mag := by rw [zhg, zn4]
 rw [this]
 exact Nat.le_trans (zf6 (z4l _ h)) (by omega)
theorem zul {S : Nat → Prop} (v : Value) (x : RInt) (w : World) (h : IntV S w v x) (hS : ∀ k, S k → k < w.heap.size) (hr : x.mag.length ≤ 100000) :
  Calls Tryz.prog 74 #[v] w fun e w' => e = .returned (.bool (mayI x)) ∧ Ext w w' := by
 obtain ⟨vm, hv, hu⟩ := h
 have hok : okI x := hu.lt
 have HM := hid (zn7 hok)
 have HZ := hid (zn8 hok hr)
 have HR := hid hr
 have HU := hid hu
 obtain ⟨a, c, rfl⟩ := hu.form
 subst hv
 obtain ⟨xn, xs⟩ := x
 simp only at HU ⊢
 have HK := hid (Ext.alloc (Ext.refl w) (.cells #[.bool xn, .slice a xs.length c] 72))
 have x0 := (Ext.refl (w.alloc (.cells #[.bool xn, .slice a xs.length c] 72))).drew
 have HX0 := hid x0
 have S0 := And.intro (new2 x0).1 (new2 x0).2.1
 clear hu hr hok x0
 go_enter Tryz.func74, Tryz.ntmps74
 go_wp2
 go_region_held3 (fun W => W.cell? ⟨w.heap.size, 0, none⟩ = some (.bool xn) ∧ W.cell? ⟨w.heap.size, 1, none⟩ = some (.slice a xs.length c)) (first | exact S0 | exact S1 | exact S2 | exact S3)
  (first
   | (go_at_call 77; (with_reducible refine (ztm _ ⟨xn, xs⟩ _ (z21 (HU.out.ext (HK.out.trans HX0.out) hS)) (z08 hS (HK.out.trans HX0.out)) HR.out).mono ?_); rintro e w1 ⟨v1, rfl, hz1, hx1⟩; have S1 := And.intro (hx1.cell S0.1) (hx1.cell S0.2); have HX1 := hid hx1; have HZ1 := hid hz1; clear hx1 hz1)
   | (go_at_call 61; (with_reducible refine (zn6 _ _ _ HZ1.out New.lt HZ.out).mono ?_); rintro e w2 ⟨v2, rfl, hz2, hx2⟩; have S2 := And.intro (hx2.cell S1.1) (hx2.cell S1.2); have HX2 := hid hx2; have HZ2 := hid hz2; clear hx2 hz2)
   | (go_at_call 59; (with_reducible refine (zr1 (S := fun k => k < w2.heap.size) _ _ ⟨xn, xs⟩ _ _ (IntV.to (z21 (HU.out.ext (HK.out.trans (HX0.out.trans (HX1.out.trans HX2.out))) hS)) (Kept.refl _ _) (z08 hS (HK.out.trans (HX0.out.trans (HX1.out.trans HX2.out))))) (HZ2.out.to (Kept.refl _ _) New.lt) (fun _ h => h)).mono ?_); rintro e w3 ⟨rfl, hx3⟩; have S3 := And.intro (hx3.cell S2.1) (hx3.cell S2.2); have HX3 := hid hx3; clear hx3))
 go_wp2
 all_goals
  go_ret
  exact ⟨by rw [← HM.out]; rfl, HK.out.trans (HX0.out.trans (HX1.out.trans (HX2.out.trans HX3.out)))⟩
end
section
open Go.RowKit
theorem zb8 (n : Nat) (w : World) (hn : n < 9223372036854775808) :
  Calls Tryz.prog 71 #[.int .i64 (n : Nat)] w fun e w' => ∃ v', e = .returned v' ∧ ZV (New w w') w' v' (n : Int) ∧ Ext w w' := by
 have HK := hid (Ext.alloc (Ext.refl w) (.cells #[.bool false, .slice none 0 0] 139))
 have HSZ : Hid (w.heap.size < (w.alloc (.cells #[.bool false, .slice none 0 0] 139)).heap.size) := hid (by simp)
 have HC := hid (zmv n (w.alloc (.cells #[.bool false, .slice none 0 0] 139)) (by omega))
 go_enter Tryz.func71, Tryz.ntmps71
 go_wp2_with fail
 refine HC.out.mono ?_
 rintro e w1 ⟨v1, rfl, hd, hx⟩
 obtain ⟨r0, r1, f0, f1⟩ := new2 hx
 have HE := hid (And.intro r0 r1)
 have HX := hid hx
 have HD := hid hd
 obtain ⟨a1, n1, rfl⟩ := hd.form
 clear hd hx
 go_wp2
 have hd := fun x y => z1o x y HE.out.1 HE.out.2
 refine bodyPost_ret (by simp [results, Tryz.results71, go_sem, (hd _ _).1, (hd _ _).2]; rfl) rfl ?_
 have hz := zkp (b := false) HD.out
 have hg := fun x y => z5c (w0 := w) (b := w.heap.size) hz HK.out HX.out (Nat.le_refl _) HSZ.out x y
 exact ⟨_, rfl, (hg _ _).1, (hg _ _).2⟩
theorem zws (x y : Int) : x * y = sg (decide (x < 0) != decide (y < 0)) (x.natAbs * y.natAbs) := by
 unfold sg
 rcases Int.lt_or_le x 0 with hx | hx <;> rcases Int.lt_or_le y 0 with hy | hy
 ·have e : (decide (x < 0) != decide (y < 0)) = false := by simp [hx, hy]
  rw [e]
  simp only [Bool.false_eq_true, if_false, Int.natCast_mul]
  rw [Int.ofNat_natAbs_of_nonpos (by omega), Int.ofNat_natAbs_of_nonpos (by omega), Int.neg_mul_neg]
 ·have e : (decide (x < 0) != decide (y < 0)) = true := by simp [hx, Int.not_lt.2 hy]
  rw [e]
  simp only [if_true, Int.natCast_mul]
  rw [Int.ofNat_natAbs_of_nonpos (by omega), Int.natAbs_of_nonneg hy, Int.neg_mul, Int.neg_neg]
 ·have e : (decide (x < 0) != decide (y < 0)) = true := by simp [hy, Int.not_lt.2 hx]
  rw [e]
  simp only [if_true, Int.natCast_mul]
  rw [Int.natAbs_of_nonneg hx, Int.ofNat_natAbs_of_nonpos (by omega), Int.mul_neg, Int.neg_neg]
 ·have e : (decide (x < 0) != decide (y < 0)) = false := by simp [Int.not_lt.2 hx, Int.not_lt.2 hy]
  rw [e]
  simp only [Bool.false_eq_true, if_false, Int.natCast_mul]
  rw [Int.natAbs_of_nonneg hx, Int.natAbs_of_nonneg hy]
theorem old4 {w W : World} {u0 v0 u1 v1 : Value} {T0 T1 : TypeId} {o : Obj} (h : Ext (((w.alloc (.cells #[u0, v0] T0)).alloc (.cells #[u1, v1] T1)).alloc o) W) :
  W.cell? ⟨w.heap.size, 0, none⟩ = some u0 ∧ W.cell? ⟨w.heap.size, 1, none⟩ = some v0 ∧ W.cell? ⟨w.heap.size + 1, 0, none⟩ = some u1 ∧ W.cell? ⟨w.heap.size + 1, 1, none⟩ = some v1 := by
 have e1 := (Ext.alloc (Ext.refl _) o).trans h
 exact ⟨(old2 e1).1, (old2 e1).2, (zhh e1).1, (zhh e1).2.1⟩
theorem zr2 {w W : World} {u0 v0 u1 v1 u v : Value} {T0 T1 T : TypeId} (h : Ext (((w.alloc (.cells #[u0, v0] T0)).alloc (.cells #[u1, v1] T1)).alloc (.cells #[u, v] T)) W) :
  W.cell? ⟨w.heap.size + 1 + 1, 0, none⟩ = some u ∧ W.cell? ⟨w.heap.size + 1 + 1, 1, none⟩ = some v ∧ W.frozen? ⟨w.heap.size + 1 + 1, 0, none⟩ = false ∧ W.frozen? ⟨w.heap.size + 1 + 1, 1, none⟩ = false := by
 have := new2 h
 rw [z02, z02] at this
 exact this
theorem zum {S : Nat → Prop} (vx vy : Value) (x y : Int) (w : World) (hx : ZV S w vx x) (hy : ZV S w vy y) (hS : ∀ k, S k → k < w.heap.size) (hrx : szZ x) (hry : szZ y) :
  Calls Tryz.prog 81 #[vx, vy] w fun e w' => ∃ v', e = .returned v' ∧ ZV (New w w') w' v' (x * y) ∧ Ext w w' := by
 obtain ⟨vdx, rfl, hdx⟩ := hx
 obtain ⟨vdy, rfl, hdy⟩ := hy
 have HX := hid hdx
 have HY := hid hdy
 obtain ⟨ax, cx, rfl⟩ := hdx.form
 obtain ⟨ay, cy, rfl⟩ := hdy.form
 rw [zws x y]
 obtain ⟨n, hn⟩ : ∃ n, n = x.natAbs * y.natAbs := ⟨_, rfl⟩
 rw [← hn]
 obtain ⟨bx, hbx⟩ : ∃ b, b = decide (x < 0) := ⟨_, rfl⟩
 obtain ⟨bz, hbz⟩ : ∃ b, b = decide (y < 0) := ⟨_, rfl⟩
 obtain ⟨nx, hnx⟩ : ∃ n, n = (rep 10 x.natAbs).length := ⟨_, rfl⟩
 obtain ⟨ny, hny⟩ : ∃ n, n = (rep 10 y.natAbs).length := ⟨_, rfl⟩
 rw [← hbx, ← hbz, ← hnx, ← hny]
 have HK := hid (Ext.alloc (Ext.alloc (Ext.alloc (Ext.refl w) (.cells #[.bool bx, .slice ax nx cx] 139)) (.cells #[.bool bz, .slice ay ny cy] 139)) (.cells #[.bool false, .slice none 0 0] 139))
 have hc := zuk _ _ (rep 10 x.natAbs) (rep 10 y.natAbs) _ (HX.out.ext HK.out hS) (HY.out.ext HK.out hS) (z08 hS HK.out) (Nat.le_trans hrx (by decide)) (Nat.le_trans hry (by decide))
 rw [z1a z0g, z1a z0g, ← hn, ← hnx, ← hny] at hc
 have HC := hid hc
 have HSZ : Hid (w.heap.size + 1 + 1 < (((w.alloc (.cells #[.bool bx, .slice ax nx cx] 139)).alloc (.cells #[.bool bz, .slice ay ny cy] 139)).alloc (.cells #[.bool false, .slice none 0 0] 139)).heap.size) := hid (by simp)
 have l1 := hdx.len_le
 have l2 := hdy.len_le
 rw [← hnx] at l1
 rw [← hny] at l2
 clear hdx hdy hn hbx hbz hnx hny hc hrx hry HX HY
 obtain ⟨q0, q1, q2, q3⟩ := old4 (Ext.refl (((w.alloc (.cells #[.bool bx, .slice ax nx cx] 139)).alloc (.cells #[.bool bz, .slice ay ny cy] 139)).alloc (.cells #[.bool false, .slice none 0 0] 139)))
 go_enter Tryz.func81, Tryz.ntmps81
 go_wp2_with fail
 refine HC.out.mono ?_
 rintro e w1 ⟨v1, rfl, hd, hxx⟩
 obtain ⟨p0, p1, p2, p3⟩ := old4 hxx
 obtain ⟨r0, r1, f0, f1⟩ := zr2 hxx
 have HE := hid (And.intro r0 r1)
 have HXX := hid hxx
 have HD := hid hd
 obtain ⟨a1, n1, rfl⟩ := hd.form
 have hlen := z4t n
 have hz := zkp (b := (bx != bz)) HD.out
 clear hd hxx q0 q1 q2 q3
 by_cases h0 : 0 < n
 ·have hp : 0 < (rep 10 n).length := by simpa [h0] using hlen
  rw [show ((bx != bz) && decide (0 < n)) = (bx != bz) by simp [h0]] at hz
  have HZ := hid hz
  clear hlen hz
  cases bx <;> cases bz
  all_goals
   go_wp2
   have hd := fun x y => z1o x y HE.out.1 HE.out.2
   refine bodyPost_ret (by simp [results, Tryz.results81, go_sem, (hd _ _).1, (hd _ _).2]; rfl) rfl ?_
   have hg := fun x y => z5c (w0 := w) (b := w.heap.size + 1 + 1) HZ.out HK.out HXX.out (by omega) HSZ.out x y
   exact ⟨_, rfl, (hg _ _).1, (hg _ _).2⟩
 ·obtain rfl : n = 0 := by omega
  rw [show ((bx != bz) && decide (0 < 0)) = false by simp] at hz
  have HZ := hid hz
  have hp : (rep 10 0).length = 0 := rfl
  clear hlen hz
  cases bx <;> cases bz
  all_goals
   go_wp2
   have hd := fun x y => z1o x y HE.out.1 HE.out.2
   refine bodyPost_ret (by simp [results, Tryz.results81, go_sem, (hd _ _).1, (hd _ _).2]; rfl) rfl ?_
   have hg := fun x y => z5c (w0 := w) (b := w.heap.size + 1 + 1) HZ.out HK.out HXX.out (by omega) HSZ.out x y
   exact ⟨_, rfl, (hg _ _).1, (hg _ _).2⟩
end
end Go.Proofs.YthdcaablomgboaaGreat
