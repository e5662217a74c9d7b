/- May some polynomials be; the sum of two. The terms that are picked out of a polynomial, with other monomials: view.picked, for any function that picks. A monomial without a variable: a slice of the call's own. Ranks of initial, tail and derivative; derivatives by two variables. Plain. Coefficient, initial and tail: the program's answers. The sum of any terms: the program's answer. The product of two monomials: the program's answer. The product of two numbers, limb by limb. A small number's limbs; a number's own. The product of two whole numbers (one of them of fewer than 24 limbs); a number's own. A small number as a whole number. The derivative: the program's answer. The document: classes, degrees and ranks of polynomials. Which polynomials are too great for the law. Bounds on the limbs of coefficients, and what a small polynomial is. The product of two polynomials: the program's answer. Polynomials as sums: linear functionals on lists of terms, products, and that a canonical list is told by them. Plain. -/
import Derived.Lib.SmallJoins
import Derived.Test.YtcpfeepnfodifaaGreatBase6
namespace Go.Proofs.YtcpfeepnfodifaaGreat
open Go.RowKit

set_option maxRecDepth 100000 in
set_option maxHeartbeats 1000000 in
theorem poly_all {S : Nat → Prop} (v : Value) (ls : List (List RTerm)) (w : World) (h : Polys S w v ls) (hS : ∀ k, S k → k < w.heap.size) (hr : smallL ls) :
    Calls Tryz.prog 80 #[v] w fun e w' => e = .returned (.bool (ls.all mayT)) ∧ Ext w w' := by
  have hnot : ∀ (x : Bool) (w : World), (Op.unary .not (.bool x)).run Tryz.prog w = .ok (.bool (!x)) w := fun _ _ => rfl
  have H := hid h
  have HR := hid hr
  have hll := h.len_le
  obtain ⟨A, c, rfl⟩ := h.form
  obtain ⟨n, hnn⟩ : ∃ n, n = ls.length := ⟨_, rfl⟩
  rw [← hnn] at H hll ⊢
  have HN := hid hnn
  clear h hr hnn
  go_enter Tryz.func80, Tryz.ntmps80
  go_wp2
  go_loopw [7] (fun i wr => ∃ k : Nat, k ≤ n ∧ i = .int .i64 k ∧ Ext w wr ∧ Hid ((ls.take k).all mayT = true)) (fun i _ => n - (intOf i).toNat)
  case atStart => exact ⟨0, Nat.zero_le _, rfl, Ext.refl _, rfl⟩
  case round =>
    obtain ⟨k, hk, rfl, hx, HA⟩ := hrel
    have HX := hid hx
    by_cases hlt : k < n
    · obtain ⟨p, hp⟩ := some_of_lt (l := ls) (j := k) (by rw [← HN.out]; exact hlt)
      obtain ⟨bl, off, vp, rfl, -, hn1, hm1, hSb, h1, h2⟩ := (H.out.ext hx hS).cellAt hp
      have HP := hid hp
      have HRP := hid (HR.out p (List.mem_of_getElem? hp))
      have C := hid (poly_may (S := S) vp p wr h2 (lt_ext hS hx) HRP.out)
      obtain ⟨ap, cp, rfl⟩ := h2.form
      clear h2 hp hx
      cases hm : mayT p with
      | true =>
        have HM := hid hm
        rw [hm] at C
        clear hm
        go_wp2_with fail
        with_reducible refine C.out.mono ?_
        rintro e w2 ⟨rfl, hx2⟩
        have HX2 := hid (HX.out.trans hx2)
        clear hx2
        go_wp2
        go_roundw
        case rel => exact ⟨k + 1, by omega, by go_num, HX2.out, by show _ = _; rw [List.take_add_one, HP.out, List.all_append, HA.out]; simp [HM.out]⟩
        case measure => simp only [intOf]; omega
      | false =>
        have HM := hid hm
        rw [hm] at C
        clear hm
        go_wp2_with fail
        with_reducible refine C.out.mono ?_
        rintro e w2 ⟨rfl, hx2⟩
        have HX2 := hid (HX.out.trans hx2)
        clear hx2
        go_wp2
        go_ret
        exact ⟨by rw [List.all_eq_false.2 ⟨p, List.mem_of_getElem? HP.out, by rw [HM.out]; exact Bool.false_ne_true⟩]; rfl, HX2.out⟩
    · obtain rfl : k = n := by omega
      have HE : Hid (ls.all mayT = true) := hid (by have := HA.out; rwa [List.take_of_length_le (by rw [← HN.out]; exact Nat.le_refl _)] at this)
      clear hx
      go_wp2
      go_ret
      exact ⟨by rw [HE.out]; rfl, HX.out⟩

theorem two_polys {S : Nat → Prop} {w : World} {vp vq : Value} {ps qs : List RTerm} (hp : Terms S w vp ps) (hq : Terms S w vq qs) (hS : ∀ k, S k → k < w.heap.size) (T : TypeId) :
    Polys (fun k => S k ∨ k = w.heap.size) (w.alloc (.cells #[vp, vq] T)) (.slice (some ⟨w.heap.size, 0, none⟩) 2 2) [ps, qs] := by
  have hk : Kept S w (w.alloc (.cells #[vp, vq] T)) := Kept.alloc hS _
  refine ⟨w.heap.size, 0, ⟨_, 2, rfl, Nat.le_refl _, by decide, fun _ => rfl, fun _ => .inr rfl⟩, fun j p hj => ?_⟩
  have hj2 := lt_of_some hj
  simp only [List.length_cons, List.length_nil] at hj2
  match j, hj with
  | 0, hj =>
    obtain rfl : ps = p := by simpa using hj
    exact ⟨vp, cell_new _ _ _ rfl rfl, hp.to hk (fun _ h => .inl h)⟩
  | 1, hj =>
    obtain rfl : qs = p := by simpa using hj
    exact ⟨vq, cell_new _ _ _ rfl rfl, hq.to hk (fun _ h => .inl h)⟩
  | j + 2, _ => omega
theorem two_lt {S : Nat → Prop} {w : World} (hS : ∀ k, S k → k < w.heap.size) (o : Obj) : ∀ k, (S k ∨ k = w.heap.size) → k < (w.alloc o).heap.size := fun k hk => by
  rw [size_alloc]
  rcases hk with hk | rfl
  · have := hS k hk; omega
  · omega
theorem mayT_mono {ts : List RTerm} (h : mayT ts = true) : ∀ t ∈ ts, mayM t.m = true := fun t ht => by
  have := (mayFrom_pair h).1 t ht
  simp only [mayTerm, Bool.and_eq_true] at this
  exact this.2
theorem toP_append (p q : List RTerm) : toP (p ++ q) = toP p ++ toP q := List.map_append
theorem toP_len (p : List RTerm) : (toP p).length = p.length := List.length_map _

/-- a polynomial that was told with OK -/
def OkPoly (w : World) (p : PZ) : Ending → World → Prop := fun e w' => ∃ v', e = .returned (.tuple #[v', .int .i64 0]) ∧ Terms (New w w') w' v' (ofP p) ∧ Ext w w'
/-- an error, and no polynomial -/
def ErrPoly (w : World) (c : Int) : Ending → World → Prop := fun e w' => e = .returned (.tuple #[.slice none 0 0, .int .i64 c]) ∧ Ext w w'

set_option maxRecDepth 100000 in
set_option maxHeartbeats 1000000 in
theorem poly_add {S : Nat → Prop} (vp vq : Value) (ps qs : List RTerm) (w : World) (L : Nat) (hp : Terms S w vp ps) (hq : Terms S w vq qs) (hS : ∀ k, S k → k < w.heap.size) (hmp : mayT ps = true) (hmq : mayT qs = true)
    (hrp : ∀ t ∈ ps, t.c.mag.length ≤ L) (hrq : ∀ t ∈ qs, t.c.mag.length ≤ L) (hL : L ≤ 10000000000) (hn : ps.length + qs.length ≤ 1000000000000) :
    Calls Tryz.prog 28 #[vp, vq] w (OkPoly w (normP (toP ps ++ toP qs))) := by
  have hnot : ∀ (x : Bool) (w : World), (Op.unary .not (.bool x)).run Tryz.prog w = .ok (.bool (!x)) w := fun _ _ => rfl
  have hx1 : Ext w (w.alloc (.cells #[vp, vq] 23)) := Ext.alloc (Ext.refl w) _
  have CA := poly_all _ [ps, qs] (w.alloc (.cells #[vp, vq] 23)) (two_polys hp hq hS _) (two_lt hS _) (fun p hp => by
    simp only [List.mem_cons, List.not_mem_nil, or_false] at hp
    rcases hp with rfl | rfl
    · exact fun t ht => Nat.le_trans (hrp t ht) (by omega)
    · exact fun t ht => Nat.le_trans (hrq t ht) (by omega))
  rw [show [ps, qs].all mayT = true by simp [hmp, hmq]] at CA
  have HCA := hid CA
  have HX1 := hid hx1
  have CC := fun (W : World) (hW : Ext w W) => concat_polys _ [ps, qs] (W.alloc (.cells #[vp, vq] 23)) (two_polys (hp.ext hW hS) (hq.ext hW hS) (lt_ext hS hW) _) (two_lt (lt_ext hS hW) _) (by simpa using hn)
  have hfl : [ps, qs].flatten = ps ++ qs := by simp
  rw [hfl] at CC
  have HCC := hid CC
  have CL := fun (W : World) (v : Value) (h : Terms (fun k => k < W.heap.size) W v (ps ++ qs)) => poly_collect v (ps ++ qs) W L h (fun _ h => h) (fun t ht => by
    rcases List.mem_append.1 ht with ht | ht
    · exact mayT_mono hmp t ht
    · exact mayT_mono hmq t ht) (fun t ht => by
    rcases List.mem_append.1 ht with ht | ht
    · exact hrp t ht
    · exact hrq t ht) hL (by simpa using hn)
  rw [toP_append] at CL
  have HCL := hid CL
  have HSS := hid hS
  obtain ⟨ap, cp, rfl⟩ := hp.form
  obtain ⟨aq, cq, rfl⟩ := hq.form
  clear CA CC CL hp hq hx1 hmp hmq hrp hrq hfl hS
  unfold OkPoly
  generalize normP (toP ps ++ toP qs) = r at *
  go_enter Tryz.func28, Tryz.ntmps28
  go_wp2_with fail
  with_reducible refine HCA.out.mono ?_
  rintro e w1 ⟨rfl, hx⟩
  have HX := hid (HX1.out.trans hx)
  clear hx
  go_wp2_with fail
  with_reducible refine (HCC.out _ HX.out).mono ?_
  rintro e w2 ⟨v2, xs, rfl, hown, hcells, hx2⟩
  have HT : Hid (Terms (fun k => k < w2.heap.size) w2 v2 (ps ++ qs)) := hid (own_terms hown (hcells.to (Kept.refl _ _) (fun k hk => Nat.lt_of_lt_of_le (two_lt (lt_ext HSS.out HX.out) _ k hk) hx2.size)) (fun _ _ h => h))
  have HX2 := hid (HX.out.trans ((Ext.alloc (Ext.refl _) _).trans hx2))
  clear hown hcells hx2
  go_wp2_with fail
  with_reducible refine (HCL.out _ _ HT.out).mono ?_
  rintro e w3 ⟨v3, rfl, hp3, hx3⟩
  have HX3 := hid (HX2.out.trans hx3)
  have HP3 := hid (hp3.to (Kept.refl _ _) (New.mono HX2.out))
  clear hp3 hx3
  go_wp2
  go_ret2
  exact ⟨v3, rfl, HP3.out, HX3.out⟩

set_option maxRecDepth 100000 in
set_option maxHeartbeats 1000000 in
theorem poly_add_no {S : Nat → Prop} (vp vq : Value) (ps qs : List RTerm) (w : World) (hp : Terms S w vp ps) (hq : Terms S w vq qs) (hS : ∀ k, S k → k < w.heap.size) (hm : (mayT ps && mayT qs) = false)
    (hrp : smallT ps) (hrq : smallT qs) : Calls Tryz.prog 28 #[vp, vq] w (ErrPoly w 2) := by
  have hnot : ∀ (x : Bool) (w : World), (Op.unary .not (.bool x)).run Tryz.prog w = .ok (.bool (!x)) w := fun _ _ => rfl
  have hx1 : Ext w (w.alloc (.cells #[vp, vq] 23)) := Ext.alloc (Ext.refl w) _
  have CA := poly_all _ [ps, qs] (w.alloc (.cells #[vp, vq] 23)) (two_polys hp hq hS _) (two_lt hS _) (fun p hp => by
    simp only [List.mem_cons, List.not_mem_nil, or_false] at hp
    rcases hp with rfl | rfl
    · exact hrp
    · exact hrq)
  rw [show [ps, qs].all mayT = false by simpa using hm] at CA
  have HCA := hid CA
  have HX1 := hid hx1
  obtain ⟨ap, cp, rfl⟩ := hp.form
  obtain ⟨aq, cq, rfl⟩ := hq.form
  clear CA hp hq hx1 hm
  go_enter Tryz.func28, Tryz.ntmps28
  go_wp2_with fail
  with_reducible refine HCA.out.mono ?_
  rintro e w1 ⟨rfl, hx⟩
  have HX := hid (HX1.out.trans hx)
  clear hx
  go_wp2
  go_ret2
  exact ⟨rfl, HX.out⟩
end Go.Proofs.YtcpfeepnfodifaaGreat

namespace Go.Proofs.YtcpfeepnfodifaaGreat
open Go.RowKit

def pickP (F : Mono → Option Mono) (p : PZ) : PZ := p.filterMap fun t => (F t.2).map fun m => (t.1, m)
def pickT (F : Mono → Option Mono) (ts : List RTerm) : List RTerm := ts.filterMap fun t => (F t.m).map fun m => ⟨ofI (valI t.c), m⟩
theorem pick_plain (F : Mono → Option Mono) (ts : List RTerm) : pickT F ts = ofP (pickP F (toP ts)) := by
  unfold pickT pickP toP ofP
  induction ts with
  | nil => rfl
  | cons t r ih =>
    rw [List.filterMap_cons, List.map_cons, List.filterMap_cons]
    cases h : F t.m with
    | none => simpa using ih
    | some m => simpa using ih
theorem pickT_take {F : Mono → Option Mono} {ts : List RTerm} {k : Nat} {t : RTerm} (h : ts[k]? = some t) : pickT F (ts.take (k + 1)) = pickT F (ts.take k) ++ (match F t.m with | none => [] | some m => [⟨ofI (valI t.c), m⟩]) := by
  unfold pickT
  rw [List.take_add_one, h, List.filterMap_append]
  congr 1
  cases h2 : F t.m <;> simp [h2]
theorem pickT_len (F : Mono → Option Mono) (ts : List RTerm) : (pickT F ts).length ≤ ts.length := List.length_filterMap_le _ _

/-- what a function that picks answers -/
abbrev Picks (w : World) (g : Nat) (lb : Array Value) (F : Mono → Option Mono) : Prop :=
  ∀ (vt : Value) (t : RTerm) (W : World), Ext w W → TermV (Old W) W vt t → mayM t.m = true → Calls Tryz.prog g (#[vt] ++ lb) W fun e W' => ∃ vm, e = .returned (.tuple #[vm, .bool (F t.m).isSome]) ∧ Ext W W' ∧ ∀ m, F t.m = some m → Pows (Old W') W' vm m ∧ m.length ≤ 200

set_option maxRecDepth 100000 in
set_option maxHeartbeats 8000000 in
theorem view_picked {S : Nat → Prop} (g : Nat) (lb : Array Value) (eg : ∀ args w, (callFunc g args).run Tryz.prog w = .ok (.enter g args) w) (F : Mono → Option Mono) (v : Value) (ts : List RTerm) (w : World) (h : Terms S w v ts) (hS : ∀ k, S k → k < w.heap.size) (hr : smallT ts) (hn : ts.length ≤ 1000000000000)
    (hP : Picks w g lb F) :
    Calls Tryz.prog 77 #[v, .func (.func g) #[] lb] w fun e w' => ∃ v', e = .returned v' ∧ Terms (New w w') w' v' (ofP (pickP F (plainP ts))) ∧ Ext w w' := by
  have HP := hid hP
  have HC := hid (view_plain v ts w h hS hr)
  have HOKP : Hid (okT (plainT ts)) := hid (by unfold plainT; split; exact h.okT; exact fun t ht => by simp at ht)
  have HMP : Hid (∀ t ∈ plainT ts, mayM t.m = true ∧ t.c.mag.length ≤ 40000000000000) := hid (by
    unfold plainT
    split
    · rename_i hm
      exact fun t ht => ⟨mayT_mono hm t ht, hr t ht⟩
    · exact fun t ht => by simp at ht)
  have HLP : Hid ((plainT ts).length ≤ 1000000000000) := hid (by unfold plainT; split; exact hn; simp)
  have HPP : Hid (ofP (pickP F (plainP ts)) = pickT F (plainT ts)) := hid (by rw [← toP_plainT, pick_plain])
  obtain ⟨A, c, rfl⟩ := h.form
  rw [HPP.out]
  have HS := hid hS
  clear h hP hr hn HPP hS
  obtain ⟨ps, hps⟩ : ∃ ps, ps = plainT ts := ⟨_, rfl⟩
  rw [← hps] at HC HOKP HMP HLP ⊢
  clear hps
  go_enter Tryz.func77, Tryz.ntmps77
  go_wp2_with fail
  with_reducible refine HC.out.mono ?_
  rintro e w1 ⟨v1, rfl, hp1, hx1⟩
  have HX1 := hid hx1
  have HT := hid (hp1.to (S' := Old w1) (Kept.refl _ _) (fun k h => Nat.lt_of_lt_of_le (HS.out k h) hx1.size))
  have hll := hp1.len_le
  obtain ⟨a1, c1, rfl⟩ := hp1.form
  obtain ⟨n, hnn⟩ : ∃ n, n = ps.length := ⟨_, rfl⟩
  rw [← hnn] at HT hll HLP ⊢
  have HN := hid hnn
  clear hp1 hx1 hnn HC
  go_wp2
  go_loopw [4, 12] (fun o i wr => ∃ (k m : Nat) (xs : List Value), k ≤ n ∧ i = .int .i64 k ∧ Ext w1 wr ∧ Hid (m = (pickT F (ps.take k)).length) ∧ Hid (wr.ownsRow w1.heap.size 104 3 o m xs) ∧ Hid (CellsT (NewOff w1 wr o) wr xs (pickT F (ps.take k)))) (fun _ i _ => n - (intOf i).toNat)
  case atStart => exact ⟨0, 0, [], Nat.zero_le _, rfl, Ext.refl _, rfl, World.ownsRow_nil _ _ _ _, rfl⟩
  case round =>
    obtain ⟨k, m, xs, hk, rfl, hx, HM, HW, HY⟩ := hrel
    have HX := hid hx
    by_cases hlt : k < n
    · obtain ⟨t, ht⟩ := some_of_lt (l := ps) (j := k) (by rw [← HN.out]; exact hlt)
      obtain ⟨b, off, vd, vo, rfl, -, hn1, hm1, hSb, h1, h2, h3, h4, h5⟩ := (HT.out.onS hx (fun _ h => h)).cellAt ht
      have HTK := hid (pickT_take (F := F) ht)
      have HMT := hid (HMP.out t (List.mem_of_getElem? ht))
      have hxa : Ext wr (wr.alloc (.cells #[.bool t.c.neg, vd, vo] 104)) := Ext.alloc (Ext.refl wr) _
      have HCG := hid (HP.out (.agg #[.bool t.c.neg, vd, vo]) t _ (HX1.out.trans (hx.trans hxa)) ⟨vd, vo, rfl, h4.to (Kept.ext hxa (fun k h => Nat.lt_of_lt_of_le h hx.size)) (fun k h => Nat.lt_of_lt_of_le h (hx.trans hxa).size), h5.to (Kept.ext hxa (fun k h => Nat.lt_of_lt_of_le h hx.size)) (fun k h => Nat.lt_of_lt_of_le h (hx.trans hxa).size)⟩ HMT.out.1)
      have H4 := hid h4
      have HXA := hid hxa
      obtain ⟨ad, cd, rfl⟩ := h4.form
      obtain ⟨ao, co, rfl⟩ := h5.form
      obtain ⟨ng, hng⟩ : ∃ b, b = t.c.neg := ⟨_, rfl⟩
      obtain ⟨nd, hnd⟩ : ∃ b, b = t.c.mag.length := ⟨_, rfl⟩
      obtain ⟨nm, hnm⟩ : ∃ b, b = t.m.length := ⟨_, rfl⟩
      have HNG := hid hng
      rw [← hnd] at H4
      rw [← hng, ← hnd, ← hnm] at HCG HXA
      rw [← hng] at h1
      rw [← hnd] at h2
      rw [← hnm] at h3
      clear ht h4 h5 hx hxa hng hnd hnm
      cases hF : F t.m with
      | none =>
        simp only [hF] at HCG HTK
        have HCF := hid HCG.out
        clear HCG hF
        go_wp2_with fail
        with_reducible refine HCF.out.mono ?_
        rintro e w2 ⟨vm, rfl, hx2, -⟩
        have HX2 := hid (HX.out.trans (HXA.out.trans hx2))
        have HXB := hid (HXA.out.trans hx2)
        clear hx2
        go_wp2
        go_roundw
        case rel =>
          refine ⟨k + 1, m, xs, by omega, by go_num, HX2.out, ?_, own_ext HW.out HXB.out, ?_⟩
          · show _ = _; rw [HTK.out, List.append_nil]; exact HM.out
          · show CellsT _ _ _ _; rw [HTK.out, List.append_nil]; exact newOff_ext HY.out HXB.out
        case measure => simp only [intOf]; omega
      | some mm =>
        simp only [hF] at HCG HTK
        have HCF := hid HCG.out
        clear HCG hF
        go_wp2_with fail
        with_reducible refine HCF.out.mono ?_
        rintro e w2 ⟨vm, rfl, hx2, hvm⟩
        obtain ⟨hpm, hml⟩ := hvm mm rfl
        have e0 := hx2.new_cell (i := 0) rfl
        have e1 := hx2.new_cell (i := 1) rfl
        have HXB := hid (HXA.out.trans hx2)
        have HX2 := hid (HX.out.trans (HXA.out.trans hx2))
        have HCA := hid (whole_add (S := Old wr) (.agg #[.bool ng, .slice ad nd cd]) (.agg #[.bool false, .slice none 0 0]) t.c ⟨false, []⟩ w2 ⟨_, by rw [HNG.out], (H4.out.to (S' := Old wr) (Kept.refl _ _) (fun k h => Nat.lt_of_lt_of_le h HX.out.size)).ext HXB.out (fun _ h => h)⟩ (zero_int _ _) (fun k h => Nat.lt_of_lt_of_le h HXB.out.size) HMT.out.2 (by decide))
        rw [valI_zeroI, Int.add_zero] at HCA
        have HCM := hid (fun (W : World) (hW : Ext w2 W) => clone_mono vm mm W (hpm.ext hW (fun _ h => h)) (fun k h => Nat.lt_of_lt_of_le h hW.size) (Nat.le_trans hml (by decide)))
        have HKB : Hid (m ≤ 1000000000000) := hid (by
          rw [HM.out]
          have h3 := pickT_len F (ps.take k)
          have h4 := HLP.out
          rw [List.length_take] at h3
          omega)
        clear hvm hpm hml hx2
        go_wp2_with fail
        with_reducible refine HCA.out.mono ?_
        rintro e w3 ⟨v3, rfl, ⟨vm3, rfl, hu3⟩, hx3⟩
        have HX3 := hid (HX2.out.trans hx3)
        have HX23 := hid hx3
        have HU3 := hid hu3
        obtain ⟨a3, c3, rfl⟩ := hu3.form
        clear hx3 hu3
        obtain ⟨n3, hn3⟩ : ∃ n, n = (ofI (valI t.c)).mag.length := ⟨_, rfl⟩
        obtain ⟨b3, hb3⟩ : ∃ n, n = (ofI (valI t.c)).neg := ⟨_, rfl⟩
        rw [← hn3, ← hb3]
        rw [← hn3] at HU3
        have HB3 := hid hb3
        clear hn3 hb3
        go_wp2_with fail
        with_reducible refine (HCM.out w3 HX23.out).mono ?_
        rintro e w4 ⟨v4, rfl, hp4, hx4⟩
        have HX4 := hid (HX3.out.trans hx4)
        have HW4 := hid (own_ext (own_ext HW.out HXB.out) (HX23.out.trans hx4))
        have hone : CellsT (New w2 w4) w4 [.bool b3, .slice a3 n3 c3, v4] [⟨ofI (valI t.c), mm⟩] := by
          rw [HB3.out]
          exact CellsT.single (t := ⟨ofI (valI t.c), mm⟩) (HU3.out.to (Kept.ext hx4 (fun _ h => h.2)) (fun k h => ⟨h.1, Nat.lt_of_lt_of_le h.2 hx4.size⟩)) (hp4.to (Kept.refl _ _) (fun k h => ⟨Nat.le_trans HX23.out.size h.1, h.2⟩))
        have HY4 := hid ((newOff_ext HY.out (HXB.out.trans (HX23.out.trans hx4))).append (newOff_of (HX2.out.size) (own_ext HW.out HXB.out) hone))
        obtain ⟨a4, c4, rfl⟩ := hp4.form
        obtain ⟨n4, hn4⟩ : ∃ n, n = mm.length := ⟨_, rfl⟩
        rw [← hn4] at HY4 ⊢
        clear hone hp4 hx4 hn4
        go_wp2_with (at_builtin; refine wpList_append_far _ rfl (.tmp 23) (.tmp 31) 23 rfl w1.heap.size 104 (.agg #[.bool false, .slice none 0 0, .slice none 0 0]) 3 56 Tryz.underlying23 Tryz.infoTerm rfl (by decide) _ m xs rfl HW4.out #[.bool b3, .slice a3 n3 c3, .slice a4 n4 c4] rfl (three_cell rfl rfl rfl) rfl HKB.out (by decide) HX4.out.size ?_; intro v5 w5 hown hg hbk; have HW5 := hid hown; have HG5 := hid hg; have HBK := hid hbk; clear hown hg hbk)
        go_roundw
        case rel =>
          refine ⟨k + 1, m + 1, xs ++ (#[.bool b3, .slice a3 n3 c3, .slice a4 n4 c4] : Array Value).toList, by omega, by go_num, own_grown0 HX4.out HW4.out HG5.out, ?_, HW5.out, ?_⟩
          · show _ = _; rw [HTK.out, List.length_append, ← HM.out]; rfl
          · show CellsT _ _ _ _
            rw [HTK.out]
            exact newOff_grown HY4.out HG5.out HBK.out (Nat.le_succ _)
        case measure => simp only [intOf]; omega
    · obtain rfl : n = k := by omega
      have hcells : CellsT (NewOff w1 wr u4) wr xs (pickT F ps) := by
        have := HY.out
        rwa [List.take_of_length_le (by rw [← HN.out]; exact Nat.le_refl _)] at this
      have hm : m = (pickT F ps).length := by
        have := HM.out
        rwa [List.take_of_length_le (by rw [← HN.out]; exact Nat.le_refl _)] at this
      have HO := hid (own_terms (S := New w wr) (by rw [← hm]; exact HW.out) (hcells.to (Kept.refl _ _) (fun _ h => ⟨Nat.le_trans HX1.out.size h.1.1, h.1.2⟩)) (fun k h1 h2 => ⟨Nat.le_trans HX1.out.size h1, h2⟩))
      clear hx hcells hm
      go_wp2
      all_goals
        go_ret
        exact ⟨_, rfl, HO.out, HX1.out.trans HX.out⟩
end Go.Proofs.YtcpfeepnfodifaaGreat

namespace Go.Proofs.YtcpfeepnfodifaaGreat
open Go.RowKit

theorem withoutM_take {m : Mono} {k : Nat} {x : Int × Int} {v : Int} (h : m[k]? = some x) : withoutM (m.take (k + 1)) v = if x.1 = v then withoutM (m.take k) v else withoutM (m.take k) v ++ [x] := by
  have : m.take (k + 1) = m.take k ++ [x] := by rw [List.take_add_one, h]; rfl
  rw [this]
  unfold withoutM
  rw [List.filter_append]
  split
  · rename_i e
    simp [e]
  · rename_i e
    simp [e]
theorem withoutM_len (m : Mono) (v : Int) : (withoutM m v).length ≤ m.length := List.length_filter_le _ _
theorem inBounds_filter {m : Mono} (h : inBounds m) (p : Int × Int → Bool) : inBounds (m.filter p) := fun x hx => h x (List.mem_filter.1 hx).1

theorem pow_cells (x y : Int) : ∀ u ∈ (#[.int .i64 x, .int .i64 y] : Array Value).toList, u.oneCell' = true := by
  intro u hu
  simp at hu
  rcases hu with rfl | rfl <;> rfl

set_option maxRecDepth 100000 in
set_option maxHeartbeats 2000000 in
theorem mono_without {S : Nat → Prop} (v : Value) (m : Mono) (x : Int) (w : World) (h : Pows S w v m) (hS : ∀ k, S k → k < w.heap.size) (_hx : -9223372036854775808 ≤ x ∧ x ≤ 9223372036854775807) :
    Calls Tryz.prog 79 #[v, .int .i64 x] w fun e w' => ∃ v', e = .returned v' ∧ Pows (New w w') w' v' (withoutM (plainM m) x) ∧ Ext w w' := by
  have H := hid h
  have HS := hid hS
  obtain ⟨a, c, rfl⟩ := h.form
  clear h hS
  obtain ⟨m', hm'⟩ : ∃ m', m' = plainM m := ⟨_, rfl⟩
  rw [← hm']
  have HMM := hid hm'
  clear hm'
  go_enter Tryz.func79, Tryz.ntmps79
  go_wp2_with fail
  refine (mono_plain _ m w H.out HS.out).mono ?_
  rintro e w1 ⟨v', rfl, hp, hx1⟩
  have HS1 := hid (lt_ext HS.out hx1)
  have HX1 := hid hx1
  have HML : Hid (m'.length ≤ 200) := hid (by rw [HMM.out]; exact plainM_len m)
  rw [← HMM.out] at hp
  clear hx1 H
  have HIB := hid hp.inBounds
  have HP := hid hp
  have hml := hp.len_le
  obtain ⟨a', c', rfl⟩ := hp.form
  obtain ⟨n, hn⟩ : ∃ n, n = m'.length := ⟨_, rfl⟩
  rw [← hn] at HP hml ⊢
  have HN := hid hn
  clear hp hn
  go_wp2
  go_loopw [4, 10] (fun o i wr => ∃ k : Nat, k ≤ n ∧ i = .int .i64 k ∧ Hid (wr.ownsRow w1.heap.size 106 2 o (withoutM (m'.take k) x).length (flatP (withoutM (m'.take k) x))) ∧ Ext w1 wr) (fun _ i _ => n - (intOf i).toNat)
  case atStart => exact ⟨0, Nat.zero_le _, rfl, hid (World.ownsRow_nil _ _ _ _), Ext.refl _⟩
  case round =>
    obtain ⟨k, hk, rfl, HO, hxr⟩ := hrel
    have HX := hid hxr
    by_cases hlt : k < n
    · obtain ⟨t, ht⟩ := some_of_lt (l := m') (j := k) (by rw [← HN.out]; exact hlt)
      obtain ⟨b, off, cap', hv, hcap, hmax, ⟨hb1, hb2⟩, h1, h2⟩ := (HP.out.to (Kept.ext hxr HS1.out) (fun _ h => h)).at ht
      obtain ⟨rfl, -, rfl⟩ : a' = some ⟨b, off, none⟩ ∧ n = m'.length ∧ c' = cap' := by simpa using hv
      have HE := hid (withoutM_take (v := x) ht)
      have HDL : Hid ((withoutM (m'.take k) x).length ≤ 1000000000) := hid (Nat.le_trans (withoutM_len _ _) (by have := HML.out; rw [List.length_take]; omega))
      have HBS := hid (Nat.le_trans hxr.size (Nat.le_succ _))
      rw [← HN.out] at hcap
      clear hv ht hxr
      obtain ⟨u, z⟩ := t
      simp only at h1 h2 hb1 hb2 HE
      by_cases hu : u = x
      · have hb : (u != x) = false := by simpa using hu
        have HU := hid hu
        clear hu
        go_wp2
        go_roundw
        case rel => exact ⟨k + 1, by omega, by go_num, hid (by rw [HE.out, if_pos HU.out]; exact HO.out.alloc _), HX.out.alloc _⟩
        case measure => simp only [intOf]; omega
      · have hb : (u != x) = true := by simpa using hu
        have HU := hid hu
        clear hu
        have HOA := hid (HO.out.alloc (.cells #[.int .i64 u, .int .i64 z] 106))
        have HBS2 : Hid (w1.heap.size ≤ (wr.alloc (.cells #[.int .i64 u, .int .i64 z] 106)).heap.size) := hid (by rw [size_alloc]; exact Nat.le_trans HX.out.size (Nat.le_succ _))
        go_wp2_with (at_builtin; refine wpList_append_new _ rfl (.tmp 18) (.tmp 20) 102 rfl w1.heap.size 106 (.agg #[.int .i64 0, .int .i64 0]) 2 16 Tryz.underlying102 Tryz.infoPower rfl (by decide) _ _ _ rfl HOA.out #[.int .i64 u, .int .i64 z] rfl (pow_cells _ _) (by rw [size_alloc]; rfl) HDL.out (by decide) HBS2.out ?_; intro v1 w2 hown hg _; have HOW := hid hown; have HG := hid hg; clear hown hg)
        go_roundw
        case rel =>
          refine ⟨k + 1, by omega, by go_num, hid ?_, own_grown0 (HX.out.alloc _) HOA.out HG.out⟩
          rw [HE.out, if_neg HU.out, flatP_append, List.length_append]
          have h1 := HOW.out
          simpa [flatP] using h1
        case measure => simp only [intOf]; omega
    · obtain rfl : n = k := by omega
      have HT : Hid (m'.take n = m') := hid (by rw [HN.out]; exact List.take_length)
      clear hxr
      go_wp2
      all_goals
        go_ret
        have h1 := HO.out
        rw [HT.out] at h1
        have h2 := (own_pows h1 (inBounds_filter HIB.out _)).to (S' := New w wr) (Kept.refl _ _) (fun j hj => ⟨Nat.le_trans HX1.out.size hj.1, hj.2⟩)
        exact ⟨_, rfl, h2, HX1.out.trans HX.out⟩
end Go.Proofs.YtcpfeepnfodifaaGreat

namespace Go.Proofs.YtcpfeepnfodifaaGreat

theorem filterMap_same {α β : Type} {f g : α → Option β} {l : List α} (h : ∀ x ∈ l, f x = g x) : l.filterMap f = l.filterMap g := by
  induction l with
  | nil => rfl
  | cons x r ih => rw [List.filterMap_cons, List.filterMap_cons, h x (by simp), ih (fun y hy => h y (by simp [hy]))]
end Go.Proofs.YtcpfeepnfodifaaGreat

namespace Go.Proofs.YtcpfeepnfodifaaGreat
open Go.RowKit

set_option maxRecDepth 100000 in
set_option maxHeartbeats 4000000 in
theorem picks_all (w : World) : Picks w 103 #[] some := by
  rintro vt t W hW ⟨vm, vo, rfl, hu, hp⟩ hm
  have HP := hid hp
  have hl := mayM_len hm
  have HX := hid (Ext.alloc (Ext.refl W) (.cells #[.bool t.c.neg, vm, vo] 104))
  obtain ⟨am, cm, rfl⟩ := hu.form
  obtain ⟨ao, co, rfl⟩ := hp.form
  have HL := hid hl
  clear hu hp hW hm hl
  show Calls Tryz.prog 103 #[_] W _
  go_enter Tryz.func103, Tryz.ntmps103
  go_wp2
  all_goals
    go_ret2
    exact ⟨_, rfl, HX.out, fun m hm => by cases hm; exact ⟨HP.out.on HX.out, HL.out⟩⟩

def coefM (v e : Int) (m : Mono) : Option Mono := if (1 ≤ v ∧ v ≤ 200) ∧ ex m v = e then some (withoutM m v) else none
set_option maxRecDepth 100000 in
set_option maxHeartbeats 8000000 in
theorem picks_coef (w : World) (v d : Int) (bv bd : Nat) (g : 1 ≤ v ∧ v ≤ 200) (hv : inI64 v) (hd : inI64 d) (c1 : w.cell? ⟨bv, 0, none⟩ = some (.int .i64 v)) (c2 : w.cell? ⟨bd, 0, none⟩ = some (.int .i64 d)) :
    Picks w 78 #[.pointer (some ⟨bv, 0, none⟩), .pointer (some ⟨bd, 0, none⟩)] (coefM v d) := by
  rintro vt t W hW ⟨vm, vo, rfl, hu, hp⟩ hm
  have hl := mayM_len hm
  have HX := hid (Ext.alloc (Ext.refl W) (.cells #[.bool t.c.neg, vm, vo] 104))
  have k1 := (hW.trans HX.out).drew.cell c1
  have k2 := (hW.trans HX.out).drew.cell c2
  have k3 : (W.alloc (.cells #[.bool t.c.neg, vm, vo] 104)).drew.cell? ⟨W.heap.size, 2, none⟩ = some vo := cell_new W #[.bool t.c.neg, vm, vo] 104 (b := W.heap.size) (i := 2) (v := vo) rfl rfl
  have S0 : _ ∧ _ ∧ _ := And.intro k1 (And.intro k2 k3)
  have HS0 := hid S0
  have HC := hid (fun (Y : World) (hY : Ext W Y) => mono_degree (S := Old W) vo t.m v Y (hp.ext hY (fun _ h => h)) (fun _ h => Nat.lt_of_lt_of_le h hY.size) hv)
  have HD := hid (fun (Y : World) (hY : Ext W Y) => mono_without (S := Old W) vo t.m v Y (hp.ext hY (fun _ h => h)) (fun _ h => Nat.lt_of_lt_of_le h hY.size) hv)
  rw [plainM_yes hm] at HC HD
  have hex := ex_range hm v
  have HWL : Hid ((withoutM t.m v).length ≤ 200) := hid (Nat.le_trans (withoutM_len _ _) hl)
  obtain ⟨am, cm, rfl⟩ := hu.form
  obtain ⟨ao, co, rfl⟩ := hp.form
  have HX0 := hid HX.out.drew
  obtain ⟨hd1, hd2⟩ := hd
  obtain ⟨hv1, hv2⟩ := hv
  unfold coefM
  obtain ⟨x, hx⟩ : ∃ x, x = ex t.m v := ⟨_, rfl⟩
  rw [← hx] at hex HC ⊢
  obtain ⟨mw, hmw⟩ : ∃ mw, mw = withoutM t.m v := ⟨_, rfl⟩
  rw [← hmw] at HD HWL ⊢
  clear hu hp hW hm hl hx hmw k1 k2 k3 c1 c2 S0
  show Calls Tryz.prog 78 #[_, _, _] W _
  have hq : decide (v ≤ 200) = true := decide_eq_true (by omega)
  have hq2 : decide (1 ≤ v) = true := decide_eq_true (by omega)
  by_cases hxd : x = d
  · have hq3 : (x == d) = true := by rw [beq_iff_eq]; exact hxd
    rw [if_pos ⟨g, hxd⟩]
    have HXD := hid hxd
    clear hxd
    go_enter Tryz.func78, Tryz.ntmps78
    go_wp2
    have S0 := HS0.out
    go_region_held3 (fun Y => Y.cell? ⟨bv, 0, none⟩ = some (.int .i64 v) ∧ Y.cell? ⟨bd, 0, none⟩ = some (.int .i64 d) ∧ Y.cell? ⟨W.heap.size, 2, none⟩ = some (.slice ao t.m.length co)) (first | exact S0 | exact S1 | exact S2)
      (first
        | (go_at_call 79; refine (HD.out _ HX0.out).mono ?_
           rintro e w1 ⟨v1, rfl, hp1, hx1⟩; have HX1 := hid (HX0.out.trans hx1); have HP1 := hid (hp1.to (S' := Old w1) (Kept.refl _ _) New.lt); have qf := hp1.form; obtain ⟨a1, c1, rfl⟩ := qf; have S1 : _ ∧ _ ∧ _ := And.intro (hx1.cell HS0.out.1) (And.intro (hx1.cell HS0.out.2.1) (hx1.cell HS0.out.2.2)); have HS1 := hid S1; clear hp1 hx1)
        | (go_at_call 73; refine (HC.out _ HX1.out).mono ?_
           rintro e w2 ⟨rfl, hx2⟩; have HX2 := hid (HX1.out.trans hx2); have HP2 := hid (HP1.out.on hx2); have S2 : _ ∧ _ ∧ _ := And.intro (hx2.cell HS1.out.1) (And.intro (hx2.cell HS1.out.2.1) (hx2.cell HS1.out.2.2)); clear hx2))
    all_goals
      go_wp2
      all_goals
        go_ret2
        exact ⟨_, rfl, HX2.out, fun m hm => by cases hm; exact ⟨HP2.out, HWL.out⟩⟩
  · have hq3 : (x == d) = false := by rw [beq_eq_false_iff_ne]; exact hxd
    rw [if_neg (fun h => hxd h.2)]
    have HXD := hid hxd
    clear hxd
    go_enter Tryz.func78, Tryz.ntmps78
    go_wp2
    have S0 := HS0.out
    go_region_held3 (fun Y => Y.cell? ⟨bv, 0, none⟩ = some (.int .i64 v) ∧ Y.cell? ⟨bd, 0, none⟩ = some (.int .i64 d) ∧ Y.cell? ⟨W.heap.size, 2, none⟩ = some (.slice ao t.m.length co)) (first | exact S0 | exact S1 | exact S2)
      (first
        | (go_at_call 79; refine (HD.out _ HX0.out).mono ?_
           rintro e w1 ⟨v1, rfl, hp1, hx1⟩; have HX1 := hid (HX0.out.trans hx1); have HP1 := hid (hp1.to (S' := Old w1) (Kept.refl _ _) New.lt); have qf := hp1.form; obtain ⟨a1, c1, rfl⟩ := qf; have S1 : _ ∧ _ ∧ _ := And.intro (hx1.cell HS0.out.1) (And.intro (hx1.cell HS0.out.2.1) (hx1.cell HS0.out.2.2)); have HS1 := hid S1; clear hp1 hx1)
        | (go_at_call 73; refine (HC.out _ HX1.out).mono ?_
           rintro e w2 ⟨rfl, hx2⟩; have HX2 := hid (HX1.out.trans hx2); have S2 : _ ∧ _ ∧ _ := And.intro (hx2.cell HS1.out.1) (And.intro (hx2.cell HS1.out.2.1) (hx2.cell HS1.out.2.2)); clear hx2))
    all_goals
      go_wp2
      all_goals
        go_ret2
        exact ⟨_, rfl, HX2.out, fun m hm => by cases hm⟩

theorem coef_pick {p : PZ} {v : Int} (hv : 1 ≤ v ∧ v ≤ 200) (e : Int) : pickP (coefM v e) p = coefP p v e := by
  unfold pickP coefP
  refine filterMap_same (fun t _ => ?_)
  unfold coefM coefF
  by_cases h : ex t.2 v = e
  · rw [if_pos ⟨hv, h⟩, if_pos h]; rfl
  · rw [if_neg (fun g => h g.2), if_neg h]; rfl
theorem all_pick (p : PZ) : pickP some p = p := by
  unfold pickP
  induction p with
  | nil => rfl
  | cons t r ih => rw [List.filterMap_cons]; exact congrArg (t :: ·) ih

set_option maxRecDepth 100000 in
set_option maxHeartbeats 4000000 in
theorem view_coefficient {S : Nat → Prop} (v : Value) (ts : List RTerm) (x d : Int) (w : World) (h : Terms S w v ts) (hS : ∀ k, S k → k < w.heap.size) (hr : smallT ts) (hn : ts.length ≤ 1000000000000) (hx : 1 ≤ x ∧ x ≤ 200) (hd : inI64 d) :
    Calls Tryz.prog 26 #[v, .int .i64 x, .int .i64 d] w fun e w' => ∃ v', e = .returned v' ∧ Terms (New w w') w' v' (ofP (coefP (plainP ts) x d)) ∧ Ext w w' := by
  have hmf : ∀ (fn : Fn) (first cap : Array Value) (w : World), (Instr.makeFunc fn first cap).run Tryz.prog w = .ok (.func fn first cap) w := fun _ _ _ _ => rfl
  have hi : inI64 x := by unfold inI64; omega
  have hK : Ext w ((w.alloc (.cells #[.int .i64 x] 3)).alloc (.cells #[.int .i64 d] 3)) := (Ext.alloc (Ext.refl w) _).alloc _
  have c1 : ((w.alloc (.cells #[.int .i64 x] 3)).alloc (.cells #[.int .i64 d] 3)).cell? ⟨w.heap.size, 0, none⟩ = some (.int .i64 x) := cell_old _ (cell_new _ _ _ rfl rfl)
  have c2 : ((w.alloc (.cells #[.int .i64 x] 3)).alloc (.cells #[.int .i64 d] 3)).cell? ⟨w.heap.size + 1, 0, none⟩ = some (.int .i64 d) := cell_new _ _ _ (by rw [size_alloc]) rfl
  have HC := hid (view_picked (S := S) 78 #[.pointer (some ⟨w.heap.size, 0, none⟩), .pointer (some ⟨w.heap.size + 1, 0, none⟩)] (enters_of Tryz.func78 (by kernel_rfl) rfl) (coefM x d) v ts _ (h.ext hK hS) (lt_ext hS hK) hr hn (picks_coef _ x d _ _ hx hi hd c1 c2))
  rw [coef_pick hx] at HC
  have HK := hid hK
  obtain ⟨A, c, rfl⟩ := h.form
  clear h hS hr hn hx hd hK c1 c2 hi
  go_enter Tryz.func26, Tryz.ntmps26
  go_wp2_with fail
  with_reducible refine HC.out.mono ?_
  rintro e w1 ⟨v1, rfl, hp1, hx1⟩
  have HP1 := hid (hp1.to (S' := New w w1) (Kept.refl _ _) (fun k h => ⟨Nat.le_trans HK.out.size h.1, h.2⟩))
  have HX1 := hid (HK.out.trans hx1)
  clear hp1 hx1
  go_wp2
  all_goals
    go_ret
    exact ⟨_, rfl, HP1.out, HX1.out⟩

set_option maxRecDepth 100000 in
set_option maxHeartbeats 4000000 in
theorem view_initial {S : Nat → Prop} (v : Value) (ts : List RTerm) (w : World) (h : Terms S w v ts) (hS : ∀ k, S k → k < w.heap.size) (hr : smallT ts) (hn : ts.length ≤ 1000000000000) :
    Calls Tryz.prog 49 #[v] w fun e w' => ∃ v', e = .returned v' ∧ Terms (New w w') w' v' (ofP (initP (plainP ts))) ∧ Ext w w' := by
  have HC := hid (view_class v ts w h hS hr)
  have hlr := leadP_range (plainP_can ts)
  have hdr := fun x => degP_range (plainP_can ts).may x
  have HP := hid (fun (W : World) (hW : Ext w W) => view_picked (S := S) 103 #[] (enters_of Tryz.func103 (by kernel_rfl) rfl) some v ts W (h.ext hW hS) (lt_ext hS hW) hr hn (picks_all W))
  have HD := hid (fun (W : World) (hW : Ext w W) => view_degree (S := S) v ts (leadP (plainP ts)) W (h.ext hW hS) (lt_ext hS hW) hr (by omega))
  have HQ := hid (fun (h0 : 1 ≤ leadP (plainP ts)) (W : World) (hW : Ext w W) => view_coefficient (S := S) v ts (leadP (plainP ts)) (degP (plainP ts) (leadP (plainP ts))) W (h.ext hW hS) (lt_ext hS hW) hr hn ⟨h0, hlr.2⟩ (by have := hdr (leadP (plainP ts)); unfold inI64; omega))
  simp only [all_pick] at HP
  have HI : Hid (initP (plainP ts) = if leadP (plainP ts) = 0 then plainP ts else coefP (plainP ts) (leadP (plainP ts)) (degP (plainP ts) (leadP (plainP ts)))) := hid rfl
  obtain ⟨A, c, rfl⟩ := h.form
  clear h hS hr hn hdr
  rw [HI.out]
  clear HI
  obtain ⟨p, hp⟩ : ∃ p, p = plainP ts := ⟨_, rfl⟩
  rw [← hp] at HC HP HD HQ hlr ⊢
  clear hp
  generalize degP p (leadP p) = d at *
  generalize leadP p = x at *
  by_cases h0 : x = 0
  · subst h0
    rw [if_pos rfl]
    go_enter Tryz.func49, Tryz.ntmps49
    go_wp2_with fail
    with_reducible refine HC.out.mono ?_
    rintro e w1 ⟨rfl, hx1⟩
    have HX1 := hid hx1
    clear hx1
    go_wp2_with fail
    with_reducible refine (HP.out _ HX1.out).mono ?_
    rintro e w2 ⟨v2, rfl, hp2, hx2⟩
    have HP2 := hid (hp2.to (S' := New w w2) (Kept.refl _ _) (fun k h => ⟨Nat.le_trans HX1.out.size h.1, h.2⟩))
    have HX2 := hid (HX1.out.trans hx2)
    clear hp2 hx2
    go_wp2
    all_goals
      go_ret
      exact ⟨_, rfl, HP2.out, HX2.out⟩
  · have q0 : (x == 0) = false := by rw [beq_eq_false_iff_ne]; exact h0
    rw [if_neg h0]
    have HQ1 := hid (HQ.out (by omega))
    clear h0
    go_enter Tryz.func49, Tryz.ntmps49
    go_wp2_with fail
    with_reducible refine HC.out.mono ?_
    rintro e w1 ⟨rfl, hx1⟩
    have HX1 := hid hx1
    clear hx1
    go_wp2_with fail
    with_reducible refine (HD.out _ HX1.out).mono ?_
    rintro e w2 ⟨rfl, hx2⟩
    have HX2 := hid (HX1.out.trans hx2)
    clear hx2
    go_wp2_with fail
    with_reducible refine (HQ1.out _ HX2.out).mono ?_
    rintro e w3 ⟨v3, rfl, hp3, hx3⟩
    have HP3 := hid (hp3.to (S' := New w w3) (Kept.refl _ _) (fun k h => ⟨Nat.le_trans HX2.out.size h.1, h.2⟩))
    have HX3 := hid (HX2.out.trans hx3)
    clear hp3 hx3
    go_wp2
    all_goals
      go_ret
      exact ⟨_, rfl, HP3.out, HX3.out⟩

end Go.Proofs.YtcpfeepnfodifaaGreat

namespace Go.Proofs.YtcpfeepnfodifaaGreat
open Go.RowKit

end Go.Proofs.YtcpfeepnfodifaaGreat

namespace Go.Proofs.YtcpfeepnfodifaaGreat
open Go.RowKit

theorem times_one (x y : Int) (w : World) (hs : -9223372036854775808 ≤ x + y ∧ x + y ≤ 9223372036854775807) :
    Calls Tryz.prog 130 #[.int .i64 x, .int .i64 y] w fun e w' => e = .returned (.int .i64 (x + y)) ∧ w' = w := by
  obtain ⟨h1, h2⟩ := hs
  go_enter Tryz.func130, Tryz.ntmps130
  go_wp2
  all_goals
    go_ret
    exact ⟨rfl, rfl⟩

theorem free_at (w : World) (cs : Array Value) (T : TypeId) {b i : Nat} (hb : b = w.heap.size) : (w.alloc (.cells cs T)).frozen? ⟨b, i, none⟩ = false := by
  subst hb
  exact free_new w cs T

set_option maxRecDepth 100000 in
set_option maxHeartbeats 2000000 in
theorem made_no (z x y : Int) (bf bm : Nat) (W : World) (hs : -9223372036854775808 ≤ x + y ∧ x + y ≤ 9223372036854775807) (hle : x + y ≤ 0)
    (cf : W.cell? ⟨bf, 0, none⟩ = some (.func (.func 130) #[] #[])) :
    Calls Tryz.prog 170 #[.int .i64 z, .int .i64 x, .int .i64 y, .pointer (some ⟨bf, 0, none⟩), .pointer (some ⟨bm, 0, none⟩)] W fun e w' => e = .returned (.tuple #[]) ∧ w' = W := by
  have HT := hid (times_one x y W hs)
  generalize x + y = s at *
  obtain ⟨h1, h2⟩ := hs
  go_enter Tryz.func170, Tryz.ntmps170
  go_wp2_with fail
  with_reducible refine HT.out.mono ?_
  rintro e w' ⟨rfl, rfl⟩
  go_wp2
  all_goals
    go_end0
    exact ⟨rfl, rfl⟩
set_option maxRecDepth 100000 in
set_option maxHeartbeats 2000000 in
theorem made_yes (z x y : Int) (bf bm : Nat) (v : Value) (n base : Nat) (xs : List Value) (W : World) (hs : -9223372036854775808 ≤ x + y ∧ x + y ≤ 9223372036854775807) (hlt : 0 < x + y)
    (cf : W.cell? ⟨bf, 0, none⟩ = some (.func (.func 130) #[] #[])) (cm : W.cell? ⟨bm, 0, none⟩ = some v) (hf : W.frozen? ⟨bm, 0, none⟩ = false) (hbm : bm < base)
    (hown : W.ownsRow base 106 2 v n xs) (hbase : base ≤ W.heap.size) (hn : n ≤ 1000000000) :
    Calls Tryz.prog 170 #[.int .i64 z, .int .i64 x, .int .i64 y, .pointer (some ⟨bf, 0, none⟩), .pointer (some ⟨bm, 0, none⟩)] W fun e w' => e = .returned (.tuple #[]) ∧
      ∃ v' w2, w' = w2.setCell ⟨bm, 0, none⟩ v' ∧ w2.ownsRow base 106 2 v' (n + 1) (xs ++ [.int .i64 z, .int .i64 (x + y)]) ∧ W.grownBy w2 v.ownBlock := by
  have HT := hid (times_one x y W hs)
  generalize x + y = s at *
  obtain ⟨h1, h2⟩ := hs
  have HO := hid hown
  have HN := hid hn
  have HB := hid hbase
  have HL : Hid (bm < W.heap.size ∧ v.ownBlock ≠ some bm) := hid ⟨lt_of_cell cm, fun e => by have := (hown.lt bm e).1; omega⟩
  have HC := hid (And.intro cm hf)
  clear hown hn hbase hbm
  go_enter Tryz.func170, Tryz.ntmps170
  go_wp2_with fail
  with_reducible refine HT.out.mono ?_
  rintro e w' ⟨rfl, rfl⟩
  go_wp2_with (at_builtin; refine wpList_append_new _ rfl (.tmp 15) (.tmp 19) 102 rfl base 106 (.agg #[.int .i64 0, .int .i64 0]) 2 16 Tryz.underlying102 Tryz.infoPower rfl (by decide) v n xs rfl HO.out #[.int .i64 z, .int .i64 s] rfl (pow_cells _ _) rfl HN.out (by decide) HB.out ?_; intro v1 w2 hown hg _; have q := Go.Joins.ownsRow_form hown (Nat.succ_pos _); obtain ⟨bg, cg, rfl⟩ := q; have HOW := hid hown; have HG := hid hg; have g1 := (hg.block bm HL.out.1 (fun e => HL.out.2 e.symm)); have c1 : w2.cell? ⟨bm, 0, none⟩ = some v := (World.cell?_of_block (a := ⟨bm, 0, none⟩) g1).trans HC.out.1; have c2 : w2.frozen? ⟨bm, 0, none⟩ = false := (World.frozen?_of_block (a := ⟨bm, 0, none⟩) g1).trans HC.out.2; clear hown hg g1)
  all_goals
    go_end0
    exact ⟨rfl, _, _, rfl, HOW.out, HG.out⟩

/-- what is told of both monomials, put into the product -/
theorem madeM_append (f : Int → Int → Int) (d : List (Int × Int × Int)) (t : Int × Int × Int) : madeM f (d ++ [t]) = if 0 < f t.2.1 t.2.2 then madeM f d ++ [(t.1, f t.2.1 t.2.2)] else madeM f d := by
  induction d with
  | nil =>
    simp only [List.nil_append, madeM]
  | cons x r ih =>
    simp only [List.cons_append, madeM, ih]
    split <;> split <;> simp_all
theorem madeM_len (f : Int → Int → Int) (d : List (Int × Int × Int)) : (madeM f d).length ≤ d.length := by
  induction d with
  | nil => simp [madeM]
  | cons x r ih =>
    simp only [madeM]
    split <;> simp <;> omega
theorem madeM_bounds {a b : Mono} (ha : mayM a = true) (hb : mayM b = true) : inBounds (timesM a b) := fun x hx => by
  have h2 : ∀ (l : List (Int × Int × Int)) (k : Int), ris k l → ∀ t ∈ l, k < t.1 ∧ t.1 ≤ 200 := by
    intro l
    induction l with
    | nil => intro k _ t ht; simp at ht
    | cons y s ih =>
      intro k hk t ht
      obtain ⟨g1, g2, g3⟩ := hk
      rcases List.mem_cons.1 ht with rfl | ht
      · exact ⟨g1, g2⟩
      · have := ih _ g3 t ht; omega
  obtain ⟨h3, h4⟩ := both_lk ha hb
  have h5 : ∀ (l : List (Int × Int × Int)), x ∈ madeM (· + ·) l → ∃ t ∈ l, x = (t.1, t.2.1 + t.2.2) := by
    intro l
    induction l with
    | nil => intro h; simp [madeM] at h
    | cons y s ih =>
      intro h
      simp only [madeM] at h
      split at h
      · rcases List.mem_cons.1 h with h | h
        · exact ⟨y, by simp, h⟩
        · obtain ⟨t, h6, h7⟩ := ih h
          exact ⟨t, by simp [h6], h7⟩
      · obtain ⟨t, h6, h7⟩ := ih h
        exact ⟨t, by simp [h6], h7⟩
  obtain ⟨t, ht, rfl⟩ := h5 _ hx
  have h6 := h2 _ _ h3 t ht
  have h7 := lk_mem h3 ht
  rw [h4] at h7
  have h8 := ex_range ha t.1
  have h9 := ex_range hb t.1
  have h10 : t.2.1 = ex a t.1 := (congrArg Prod.fst h7).symm
  have h11 : t.2.2 = ex b t.1 := (congrArg Prod.snd h7).symm
  refine ⟨⟨?_, ?_⟩, ?_, ?_⟩ <;> simp only <;> omega

set_option maxRecDepth 100000 in
set_option maxHeartbeats 4000000 in
theorem mono_made_times {S : Nat → Prop} (va vb : Value) (a b : Mono) (w : World) (ha : Pows S w va a) (hb : Pows S w vb b) (hS : ∀ k, S k → k < w.heap.size) (hma : mayM a = true) (hmb : mayM b = true) :
    Calls Tryz.prog 129 #[va, vb, .func (.func 130) #[] #[]] w fun e w' => ∃ v', e = .returned v' ∧ Pows (New w w') w' v' (timesM a b) ∧ Ext w w' := by
  have hmf : ∀ (fn : Fn) (first cap : Array Value) (w : World), (Instr.makeFunc fn first cap).run Tryz.prog w = .ok (.func fn first cap) w := fun _ _ _ _ => rfl
  have HA := hid ha
  have HB := hid hb
  have HMA := hid hma
  have HMB := hid hmb
  obtain ⟨aa, ca, rfl⟩ := ha.form
  obtain ⟨a2, cb, rfl⟩ := hb.form
  clear ha hb hma hmb
  go_enter Tryz.func129, Tryz.ntmps129
  go_wp2_with fail
  have hK : Ext w ((w.alloc (.cells #[.func (.func 130) #[] #[]] 197)).alloc (.cells #[.slice none 0 0] 102)) := (Ext.alloc (Ext.refl w) _).alloc _
  have HK := hid hK
  have hz : (w.alloc (.cells #[.func (.func 130) #[] #[]] 197)).heap.size = w.heap.size + 1 := size_alloc _ _
  refine (mono_both (S := S) 170 #[.pointer (some ⟨w.heap.size, 0, none⟩), .pointer (some ⟨w.heap.size + 1, 0, none⟩)] (enters_of Tryz.func170 (by kernel_rfl) rfl)
    (fun d W => W.cell? ⟨w.heap.size, 0, none⟩ = some (.func (.func 130) #[] #[]) ∧ (∃ v, W.cell? ⟨w.heap.size + 1, 0, none⟩ = some v ∧ W.ownsRow (w.heap.size + 2) 106 2 v (madeM (· + ·) d).length (flatP (madeM (· + ·) d))) ∧ W.frozen? ⟨w.heap.size + 1, 0, none⟩ = false ∧ Ext w W ∧ w.heap.size + 2 ≤ W.heap.size) a b _ ?_ ?_ ?_ _ _
    (HA.out.to (Kept.ext hK hS) (fun _ h => h)) (HB.out.to (Kept.ext hK hS) (fun _ h => h)) ⟨cell_old _ (cell_new _ _ _ rfl rfl), ⟨_, cell_new _ _ _ hz.symm rfl, World.ownsRow_nil _ _ _ _⟩, ?_, hK, by rw [size_alloc, size_alloc]; exact Nat.le_refl _⟩).mono ?_
  · rintro d t r W hd ⟨h1, ⟨v, h2, h3⟩, h4, h5, h6⟩
    have hb := both_bounds HA.out.inBounds HB.out.inBounds t (by rw [hd]; simp)
    obtain ⟨h7, h8⟩ := both_lk HMA.out HMB.out
    have h9 := lk_mem h7 (t := t) (by rw [hd]; simp)
    rw [h8] at h9
    have h10 := ex_range HMA.out t.1
    have h11 := ex_range HMB.out t.1
    have h12 : t.2.1 = ex a t.1 := (congrArg Prod.fst h9).symm
    have h13 : t.2.2 = ex b t.1 := (congrArg Prod.snd h9).symm
    rw [show (#[Value.int .i64 t.1, .int .i64 t.2.1, .int .i64 t.2.2] ++ #[.pointer (some ⟨w.heap.size, 0, none⟩), .pointer (some ⟨w.heap.size + 1, 0, none⟩)] : Array Value) = #[.int .i64 t.1, .int .i64 t.2.1, .int .i64 t.2.2, .pointer (some ⟨w.heap.size, 0, none⟩), .pointer (some ⟨w.heap.size + 1, 0, none⟩)] from rfl]
    have hdl : (madeM (· + ·) d).length ≤ 1000000000 := by
      have k1 := madeM_len (· + ·) d
      have k2 := both_len a b
      rw [hd, List.length_append] at k2
      have k3 := mayM_len HMA.out
      have k4 := mayM_len HMB.out
      omega
    by_cases hpos : 0 < t.2.1 + t.2.2
    · refine (made_yes t.1 t.2.1 t.2.2 _ _ v _ _ _ W (by omega) hpos h1 h2 h4 (Nat.lt_succ_self _) h3 h6 hdl).mono ?_
      rintro e w' ⟨rfl, v', w2, rfl, k1, k2⟩
      have hne : ∀ k, v.ownBlock = some k → w.heap.size + 2 ≤ k := fun k hk => (h3.lt k hk).1
      have g1 : w2.heap[w.heap.size]? = W.heap[w.heap.size]? := k2.block _ (by omega) (fun e => by have := hne _ e.symm; omega)
      have g2 : w2.heap[w.heap.size + 1]? = W.heap[w.heap.size + 1]? := k2.block _ (by omega) (fun e => by have := hne _ e.symm; omega)
      refine ⟨rfl, other ((World.cell?_of_block (a := ⟨w.heap.size, 0, none⟩) g1).trans h1) (ab (by omega)), ⟨v', same_of (u := v) ?_, ?_⟩, free_set ?_, ?_, ?_⟩
      · exact (World.cell?_of_block (a := ⟨w.heap.size + 1, 0, none⟩) g2).trans h2
      · refine ownsRow_setCell_below ?_ (Nat.lt_succ_self _) _
        rw [madeM_append, if_pos hpos, flatP_append, List.length_append]
        simpa [flatP] using k1
      · exact (World.frozen?_of_block (a := ⟨w.heap.size + 1, 0, none⟩) g2).trans h4
      · exact (ext_grown h5 k2 (fun k hk => by have := hne k hk; omega)).setCell (p := ⟨w.heap.size + 1, 0, none⟩) (Nat.le_succ _) _
      · rw [size_setCell]; exact Nat.le_trans h6 k2.size
    · refine (made_no t.1 t.2.1 t.2.2 _ _ W (by omega) (by omega) h1).mono ?_
      rintro e w' ⟨rfl, rfl⟩
      refine ⟨rfl, h1, ⟨v, h2, ?_⟩, h4, h5, h6⟩
      rw [madeM_append, if_neg hpos]
      exact h3
  · rintro d W ⟨_, _, _, h3, _⟩ k hk
    exact (Kept.ext h3 hS k hk).trans (Kept.ext HK.out hS k hk).symm
  · rintro d W q ⟨h1, ⟨v, h2, h3⟩, h4, h5, h6⟩
    exact ⟨by simpa using h1, ⟨v, by simpa using h2, h3⟩, by simpa using h4, h5.drewN q, h6⟩
  · exact free_at _ _ _ hz.symm
  rintro e w3 ⟨rfl, h1, ⟨v, h2, h3⟩, h4, h5, h6⟩
  have HX3 := hid h5
  have HP := hid (own_pows h3 (madeM_bounds HMA.out HMB.out))
  have hf := Go.Joins.ownsRow_forms h3
  clear h1 h3 h5 hz hK
  rcases hf with ⟨rfl, -⟩ | ⟨bg, cg, rfl⟩
  all_goals
    go_wp2
    all_goals
      refine bodyPost_ret (by simp [results, Tryz.results129, go_sem, same_of h2]; rfl) rfl ?_
      exact ⟨_, rfl, HP.out.to (Kept.setCell (fun h => by have : w.heap.size + 2 ≤ w.heap.size + 1 := h.1; omega) _) (fun k h => ⟨by have := h.1; omega, by rw [size_setCell]; exact h.2⟩), HX3.out.setCell (p := ⟨w.heap.size + 1, 0, none⟩) (Nat.le_succ _) _⟩

def errTimes (a b : Mono) : Int := if mayM a && mayM b then (if mayM (timesM a b) then 0 else 8) else 2
def valTimes (a b : Mono) : Mono := if mayM a && mayM b && mayM (timesM a b) then timesM a b else []
set_option maxRecDepth 100000 in
set_option maxHeartbeats 4000000 in
theorem mono_times {S : Nat → Prop} (va vb : Value) (a b : Mono) (w : World) (ha : Pows S w va a) (hb : Pows S w vb b) (hS : ∀ k, S k → k < w.heap.size) :
    Calls Tryz.prog 81 #[va, vb] w fun e w' => ∃ v', e = .returned (.tuple #[v', .int .i64 (errTimes a b)]) ∧ Pows (New w w') w' v' (valTimes a b) ∧ Ext w w' := by
  have hnot : ∀ (x : Bool) (w : World), (Op.unary .not (.bool x)).run Tryz.prog w = .ok (.bool (!x)) w := fun _ _ => rfl
  have HA := hid ha
  have HB := hid hb
  obtain ⟨aa, ca, rfl⟩ := ha.form
  obtain ⟨a2, cb, rfl⟩ := hb.form
  clear ha hb
  unfold errTimes valTimes
  cases hma : mayM a with
  | false =>
    have HC := hid (mono_may _ a w HA.out hS)
    simp only [hma] at HC
    go_enter Tryz.func81, Tryz.ntmps81
    go_wp2_with fail
    with_reducible refine HC.out.mono ?_
    rintro e w1 ⟨rfl, hx1⟩
    have HX1 := hid hx1
    clear hx1
    go_wp2
    all_goals
      go_ret2
      exact ⟨_, rfl, Pows.empty _ _ _, HX1.out⟩
  | true =>
    have HC := hid (mono_may _ a w HA.out hS)
    simp only [hma] at HC
    have HD := hid (fun (W : World) (hW : Ext w W) => mono_may _ b W (HB.out.ext hW hS) (lt_ext hS hW))
    cases hmb : mayM b with
    | false =>
      simp only [hmb] at HD
      go_enter Tryz.func81, Tryz.ntmps81
      go_wp2_with fail
      with_reducible refine HC.out.mono ?_
      rintro e w1 ⟨rfl, hx1⟩
      have HX1 := hid hx1
      clear hx1
      go_wp2_with fail
      with_reducible refine (HD.out _ HX1.out).mono ?_
      rintro e w2 ⟨rfl, hx2⟩
      have HX2 := hid (HX1.out.trans hx2)
      clear hx2
      go_wp2
      all_goals
        go_ret2
        exact ⟨_, rfl, Pows.empty _ _ _, HX2.out⟩
    | true =>
      simp only [hmb] at HD
      have HM := hid (fun (W : World) (hW : Ext w W) => mono_made_times _ _ a b W (HA.out.ext hW hS) (HB.out.ext hW hS) (lt_ext hS hW) hma hmb)
      obtain ⟨m, hm⟩ : ∃ m, m = timesM a b := ⟨_, rfl⟩
      rw [← hm] at HM ⊢
      clear hm
      have HE := hid (fun (W : World) (v : Value) (hv : Pows (Old W) W v m) => mono_may _ m W hv (fun _ h => h))
      cases hmm : mayM m with
      | false =>
        simp only [hmm] at HE
        go_enter Tryz.func81, Tryz.ntmps81
        go_wp2_with fail
        with_reducible refine HC.out.mono ?_
        rintro e w1 ⟨rfl, hx1⟩
        have HX1 := hid hx1
        clear hx1
        go_wp2_with fail
        with_reducible refine (HD.out _ HX1.out).mono ?_
        rintro e w2 ⟨rfl, hx2⟩
        have HX2 := hid (HX1.out.trans hx2)
        clear hx2
        go_wp2_with fail
        with_reducible refine (HM.out _ HX2.out).mono ?_
        rintro e w3 ⟨v3, rfl, hp3, hx3⟩
        have HX3 := hid (HX2.out.trans hx3)
        have HCE := hid (HE.out w3 v3 (hp3.to (Kept.refl _ _) New.lt))
        obtain ⟨a3, c3, rfl⟩ := hp3.form
        clear hp3 hx3
        go_wp2_with fail
        with_reducible refine HCE.out.mono ?_
        rintro e w4 ⟨rfl, hx4⟩
        have HX4 := hid (HX3.out.trans hx4)
        clear hx4
        go_wp2
        all_goals
          go_ret2
          exact ⟨_, rfl, Pows.empty _ _ _, HX4.out⟩
      | true =>
        simp only [hmm] at HE
        go_enter Tryz.func81, Tryz.ntmps81
        go_wp2_with fail
        with_reducible refine HC.out.mono ?_
        rintro e w1 ⟨rfl, hx1⟩
        have HX1 := hid hx1
        clear hx1
        go_wp2_with fail
        with_reducible refine (HD.out _ HX1.out).mono ?_
        rintro e w2 ⟨rfl, hx2⟩
        have HX2 := hid (HX1.out.trans hx2)
        clear hx2
        go_wp2_with fail
        with_reducible refine (HM.out _ HX2.out).mono ?_
        rintro e w3 ⟨v3, rfl, hp3, hx3⟩
        have HX3 := hid (HX2.out.trans hx3)
        have HCE := hid (HE.out w3 v3 (hp3.to (Kept.refl _ _) New.lt))
        have HP3 := hid hp3
        have HX23 := hid hx3
        obtain ⟨a3, c3, rfl⟩ := hp3.form
        clear hp3 hx3
        go_wp2_with fail
        with_reducible refine HCE.out.mono ?_
        rintro e w4 ⟨rfl, hx4⟩
        have HX4 := hid (HX3.out.trans hx4)
        have HP4 : Hid (Pows (New w w4) w4 (.slice a3 m.length c3) m) := hid (HP3.out.to (New.kept hx4) (fun k h => ⟨Nat.le_trans HX2.out.size h.1, Nat.lt_of_lt_of_le h.2 hx4.size⟩))
        clear hx4
        go_wp2
        all_goals
          go_ret2
          exact ⟨_, rfl, HP4.out, HX4.out⟩
end Go.Proofs.YtcpfeepnfodifaaGreat

namespace Go.Proofs.YtcpfeepnfodifaaGreat
open Go.RowKit

theorem w_dg_zeros (n k : Nat) : dg (List.replicate n 0) k = 0 := by
  unfold dg
  rw [List.getElem?_replicate]
  split <;> rfl
theorem w_dg_set {l : List Nat} {k j z : Nat} : dg (l.set k z) j = if k = j ∧ k < l.length then z else dg l j := by
  unfold dg
  rw [List.getElem?_set]
  by_cases h : k = j
  · subst h
    by_cases h2 : k < l.length
    · simp [h2]
    · simp [h2]
  · simp [h]
theorem w_set_lt {l : List Nat} (h : ∀ z ∈ l, z < B32) (k z : Nat) (hz : z < B32) : ∀ y ∈ l.set k z, y < B32 := fun y hy => by
  rcases List.mem_or_eq_of_mem_set hy with h1 | h1
  · exact h y h1
  · rw [h1]; exact hz
/-- one step of a row -/
theorem w_mul_step {o : List Nat} {i k c x y V0 Y : Nat} (hk : i + k < o.length) (h : val B32 o + B32 ^ (i + k) * c = V0 + B32 ^ i * (x * Y)) :
    val B32 (o.set (i + k) ((c + (x * y + dg o (i + k))) % B32)) + B32 ^ (i + (k + 1)) * ((c + (x * y + dg o (i + k))) / B32) = V0 + B32 ^ i * (x * (Y + B32 ^ k * y)) := by
  have h1 := set_val (B := B32) o (i + k) ((c + (x * y + dg o (i + k))) % B32) hk
  generalize hs : c + (x * y + dg o (i + k)) = s at *
  have h2 : s % B32 + B32 * (s / B32) = s := Nat.mod_add_div _ _
  have e1 : B32 ^ (i + (k + 1)) * (s / B32) = B32 ^ (i + k) * (B32 * (s / B32)) := by
    rw [← Nat.add_assoc, Nat.pow_succ, Nat.mul_assoc]
  have e2 : B32 ^ i * (x * (Y + B32 ^ k * y)) = B32 ^ i * (x * Y) + B32 ^ (i + k) * (x * y) := by
    rw [Nat.mul_add, Nat.mul_add, Nat.pow_add]
    congr 1
    rw [Nat.mul_assoc, Nat.mul_left_comm x]
  have e3 : B32 ^ (i + k) * s = B32 ^ (i + k) * (s % B32) + B32 ^ (i + k) * (B32 * (s / B32)) := by
    rw [← Nat.mul_add, h2]
  have e4 : B32 ^ (i + k) * s = B32 ^ (i + k) * c + (B32 ^ (i + k) * (x * y) + B32 ^ (i + k) * dg o (i + k)) := by
    rw [← hs, Nat.mul_add, Nat.mul_add]
  rw [e1, e2]
  omega
/-- the row's end -/
theorem w_mul_row {o : List Nat} {i c x V0 : Nat} {xs ys : List Nat} (hx : xs[i]? = some x) (hi : i + ys.length < o.length) (h0 : dg o (i + ys.length) = 0) (hV : V0 = val B32 (xs.take i) * val B32 ys) (h : val B32 o + B32 ^ (i + ys.length) * c = V0 + B32 ^ i * (x * val B32 ys)) :
    val B32 (o.set (i + ys.length) c) = val B32 (xs.take (i + 1)) * val B32 ys := by
  have h1 := set_val (B := B32) o (i + ys.length) c hi
  rw [h0] at h1
  have h2 := val_take_succ (B := B32) hx
  rw [h2, Nat.add_mul, ← hV, Nat.mul_assoc]
  omega
theorem w_mul_fit {x y d c : Nat} (hx : x < 4294967296) (hy : y < 4294967296) (hd : d < 4294967296) (hc : c < 4294967296) : x * y ≤ 18446744065119617025 ∧ c + (x * y + d) ≤ 18446744073709551615 := by
  have h1 : x * y ≤ 4294967295 * 4294967295 := Nat.mul_le_mul (by omega) (by omega)
  omega

set_option maxRecDepth 100000 in
set_option maxHeartbeats 4000000 in
theorem times_rows {S : Nat → Prop} (va vb : Value) (xs ys : List Nat) (w : World) (ha : U32s S w va xs) (hb : U32s S w vb ys) (hS : ∀ k, S k → k < w.heap.size) (hr : xs.length + ys.length ≤ 1000000000000) :
    Calls Tryz.prog 189 #[va, vb] w fun e w' => ∃ v', e = .returned v' ∧ U32s (New w w') w' v' (rep B32 (val B32 xs * val B32 ys)) ∧ Ext w w' := by
  have HA := hid ha
  have HB := hid hb
  have hla := ha.len_le
  have hlb := hb.len_le
  obtain ⟨aa, ca, rfl⟩ := ha.form
  obtain ⟨ab, cb, rfl⟩ := hb.form
  obtain ⟨n, hn⟩ : ∃ n, n = xs.length := ⟨_, rfl⟩
  obtain ⟨m, hm⟩ : ∃ n, n = ys.length := ⟨_, rfl⟩
  rw [← hn, ← hm] at hr
  rw [← hn] at HA hla ⊢
  rw [← hm] at HB hlb ⊢
  have HNN := hid hn
  have HMM := hid hm
  clear ha hb hn hm
  have hmk := run_make_row' (P := Tryz.prog) 92 147 (.int .u32 0) 4 Tryz.underlying92 Tryz.infoU32 rfl .i64 .i64 (n + m) (by omega) (by omega) w
  rw [show ((n + m : Nat) : Int) = (n : Int) + (m : Int) by omega] at hmk
  have HR := hid (rowU_zeros w (n + m) 147)
  have HE := hid (Ext.alloc (Ext.refl w) (.cells (madeCells #[.int .u32 0] (n + m)) 147))
  go_enter Tryz.func189, Tryz.ntmps189
  go_wp2
  go_loopw [19] (fun i wr => ∃ (k : Nat) (o : List Nat), k ≤ n ∧ i = .int .i64 k ∧ Hid (o.length = n + m) ∧ Hid (∀ z ∈ o, z < B32) ∧ wr.rowIs w.heap.size 147 (n + m) (rowU o) ∧ Ext w wr ∧ Hid (w.heap.size < wr.heap.size) ∧
    Hid (val B32 o = val B32 (xs.take k) * val B32 ys) ∧ Hid (∀ j, k + m ≤ j → dg o j = 0)) (fun i _ => n - (intOf i).toNat)
  case atStart => exact ⟨0, List.replicate (n + m) 0, Nat.zero_le _, rfl, hid (by simp), hid (fun z hz => by rw [(List.mem_replicate.1 hz).2]; decide), HR.out, HE.out, hid (by simp), hid (by rw [val_zeros]; simp [val]), hid (fun j _ => w_dg_zeros _ _)⟩
  case round =>
    obtain ⟨k, o, hk, rfl, HOL, HO, hrow, hx, HGS, HV, HZ⟩ := hrel
    have HX := hid hx
    have HROW := hid hrow
    clear hrow
    by_cases hlt : k < n
    · obtain ⟨x, hx1⟩ := some_of_lt (l := xs) (j := k) (by rw [← HNN.out]; exact hlt)
      obtain ⟨b1, o1, rfl, -, hn1, hm1, -, hxb, hc1⟩ := (HA.out.to (Kept.ext hx hS) (fun _ h => h)).cellAt hx1
      have HX1 := hid hx1
      have HXB := hid hxb
      clear hx hx1
      go_wp2
      obtain ⟨wo, rfl⟩ : ∃ wo : World, wo = wr := ⟨_, rfl⟩
      go_loopw [8, 26] (fun c i wr => ∃ (j cc : Nat) (o2 : List Nat), j ≤ m ∧ i = .int .i64 j ∧ c = .int .u64 cc ∧ cc < 4294967296 ∧ Hid (o2.length = n + m) ∧ Hid (∀ z ∈ o2, z < B32) ∧ wr.rowIs w.heap.size 147 (n + m) (rowU o2) ∧ Ext w wr ∧ Hid (w.heap.size < wr.heap.size) ∧
        Hid (val B32 o2 + B32 ^ (k + j) * cc = val B32 o + B32 ^ k * (x * val B32 (ys.take j))) ∧ Hid (∀ i, k + m ≤ i → dg o2 i = 0)) (fun _ i _ => m - (intOf i).toNat)
      case atStart => exact ⟨0, 0, o, Nat.zero_le _, rfl, rfl, by omega, HOL, HO, HROW.out, HX.out, HGS, hid (by simp [val]), HZ⟩
      case round =>
        obtain ⟨j, cc, o2, hj, rfl, rfl, hcc, HOL2, HO2, hrow2, hx2, HGS2, HV2, HZ2⟩ := hrel
        have HX2 := hid hx2
        have HROW2 := hid hrow2
        by_cases hlt2 : j < m
        · obtain ⟨y, hy1⟩ := some_of_lt (l := ys) (j := j) (by rw [← HMM.out]; exact hlt2)
          obtain ⟨b2, o3, rfl, -, hn2, hm2, -, hyb, hc2⟩ := (HB.out.to (Kept.ext hx2 hS) (fun _ h => h)).cellAt hy1
          have HY1 := hid hy1
          obtain ⟨t, ht⟩ : ∃ t, t = k + j := ⟨_, rfl⟩
          have hti : (k : Int) + (j : Int) = (t : Int) := by omega
          have htl : t < n + m := by omega
          have hcs := hrow2.cell (i := t) htl
          have hfs := hrow2.frozen t
          have hdl : dg o2 t < 4294967296 := dg_lt (by decide) HO2.out t
          unfold rowU at hcs
          obtain ⟨d, hd⟩ : ∃ d, d = dg o2 t := ⟨_, rfl⟩
          rw [← hd] at hcs hdl
          have HD := hid hd
          have HT := hid ht
          obtain ⟨hp1, hp2⟩ := w_mul_fit hxb hyb hdl hcc
          obtain ⟨p, hp⟩ : ∃ p, p = x * y := ⟨_, rfl⟩
          have hpi : (x : Int) * (y : Int) = (p : Int) := by rw [hp, Int.natCast_mul]
          rw [← hp] at hp1 hp2
          have HP := hid hp
          clear hy1 hrow2 hx2 hd ht hp
          go_wp2
          go_roundw
          case rel =>
            have hmod : (cc + (p + d)) % 4294967296 < B32 := Nat.mod_lt _ (by decide)
            refine ⟨j + 1, (cc + (p + d)) / 4294967296, o2.set t ((cc + (p + d)) % 4294967296), by omega, by go_num, congrArg (Value.int .u64) (by omega), by omega, hid (by rw [List.length_set]; exact HOL2.out), hid (w_set_lt HO2.out t _ hmod), ?_, HX2.out.setCell (p := ⟨w.heap.size, t, none⟩) (Nat.le_refl _) _, hid (by rw [size_setCell]; exact HGS2.out), ?_, ?_⟩
            · have h1 := rowU_set HROW2.out t ((cc + (p + d)) % 4294967296) (by rw [HOL2.out]; exact htl)
              refine cast (congrArg (fun e => World.rowIs (World.setCell wr ⟨w.heap.size, t, none⟩ (Value.int .u32 e)) _ _ _ _) ?_) h1
              omega
            · have h1 := w_mul_step (o := o2) (i := k) (k := j) (c := cc) (x := x) (y := y) (V0 := val B32 o) (Y := val B32 (ys.take j)) (by rw [HOL2.out, ← HT.out]; exact htl) HV2.out
              rw [← val_take_succ HY1.out, ← HP.out, ← HT.out, ← HD.out] at h1
              exact h1
            · refine hid (fun i hi => ?_)
              rw [w_dg_set, if_neg (by have := HT.out; omega)]
              exact HZ2.out i hi
          case measure => simp only [intOf]; omega
        · obtain rfl : m = j := by omega
          obtain ⟨t, ht⟩ : ∃ t, t = k + m := ⟨_, rfl⟩
          have hti : (k : Int) + (m : Int) = (t : Int) := by omega
          have htl : t < n + m := by omega
          have hcs := hrow2.cell (i := t) htl
          have hfs := hrow2.frozen t
          have hv3 : val B32 (o2.set t cc) = val B32 (xs.take (k + 1)) * val B32 ys := by
            have h1 := HV2.out
            rw [show ys.take m = ys by rw [HMM.out]; exact List.take_length] at h1
            have h2 := w_mul_row (o := o2) (i := k) (c := cc) (xs := xs) (ys := ys) HX1.out (by rw [HOL2.out, ← HMM.out, ← ht]; exact htl) (by rw [← HMM.out]; exact HZ2.out _ (Nat.le_refl _)) HV.out (by rw [← HMM.out]; exact h1)
            rw [← HMM.out, ← ht] at h2
            exact h2
          have HV3 := hid hv3
          have HT := hid ht
          have HCC := hid hcc
          clear hrow2 hx2 hv3 ht
          go_wp2
          go_roundw
          case rel =>
            refine ⟨k + 1, o2.set t cc, by omega, by go_num, hid (by rw [List.length_set]; exact HOL2.out), hid (w_set_lt HO2.out t _ HCC.out), ?_, HX2.out.setCell (p := ⟨w.heap.size, t, none⟩) (Nat.le_refl _) _, hid (by rw [size_setCell]; exact HGS2.out), HV3, hid (fun i hi => ?_)⟩
            · have h1 := rowU_set HROW2.out t cc (by rw [HOL2.out]; exact htl)
              refine cast (congrArg (fun e => World.rowIs (World.setCell wr ⟨w.heap.size, t, none⟩ (Value.int .u32 e)) _ _ _ _) ?_) h1
              omega
            · rw [w_dg_set, if_neg (by have := HT.out; omega)]
              exact HZ2.out i (by omega)
          case measure => simp only [intOf]; omega
    · obtain rfl : n = k := by omega
      have hv : val B32 o = val B32 xs * val B32 ys := by
        have h1 := HV.out
        rwa [show xs.take n = xs by rw [HNN.out]; exact List.take_length] at h1
      have HVE := hid hv
      have hu : U32s (fun k => k = w.heap.size) wr (.slice (some ⟨w.heap.size, 0, none⟩) (n + m) (n + m)) o := by
        have h1 := U32s.of_row HROW.out (by have := HOL.out; omega) HO.out (by omega)
        rwa [HOL.out] at h1
      have hz : w.heap.size < wr.heap.size := HGS.out
      have HC := hid (nat_trim (S := fun k => k = w.heap.size) _ o wr hu (fun k hk => by rw [hk]; exact hz) (by rw [HOL.out]; omega))
      clear hx hv hu hz
      go_wp2_with fail
      with_reducible refine HC.out.mono ?_
      rintro e w2 ⟨v2, rfl, hp2, hx2⟩
      rw [HVE.out] at hp2
      have HP2 := hid (hp2.to (S' := New w w2) (Kept.refl _ _) (fun k h => ⟨Nat.le_trans HX.out.size h.1, h.2⟩))
      have HX2 := hid (HX.out.trans hx2)
      clear hp2 hx2
      go_wp2
      all_goals
        go_ret
        exact ⟨_, rfl, HP2.out, HX2.out⟩
end Go.Proofs.YtcpfeepnfodifaaGreat

namespace Go.Proofs.YtcpfeepnfodifaaGreat
open Go.RowKit

theorem two_limbs (w : World) (lo hi : Nat) (T : TypeId) (h1 : lo < B32) (h2 : hi < B32) : U32s (Old (w.alloc (.cells #[.int .u32 lo, .int .u32 hi] T))) (w.alloc (.cells #[.int .u32 lo, .int .u32 hi] T)) (.slice (some ⟨w.heap.size, 0, none⟩) 2 2) [lo, hi] := by
  refine ⟨w.heap.size, 0, ⟨_, 2, rfl, Nat.le_refl _, by decide, fun _ => rfl, fun _ => by show w.heap.size < (w.alloc _).heap.size; rw [size_alloc]; omega⟩, fun j z hj => ?_⟩
  have hj2 := lt_of_some hj
  simp only [List.length_cons, List.length_nil] at hj2
  match j, hj with
  | 0, hj =>
    obtain rfl : lo = z := by simpa using hj
    exact ⟨h1, cell_new _ _ _ rfl rfl⟩
  | 1, hj =>
    obtain rfl : hi = z := by simpa using hj
    exact ⟨h2, cell_new _ _ _ rfl rfl⟩
  | j + 2, _ => omega

set_option maxRecDepth 100000 in
set_option maxHeartbeats 2000000 in
theorem nat_small (x : Nat) (w : World) (hx : x < 18446744073709551616) :
    Calls Tryz.prog 126 #[.int .u64 (x : Nat)] w fun e w' => ∃ v', e = .returned v' ∧ U32s (New w w') w' v' (rep B32 x) ∧ Ext w w' := by
  obtain ⟨lo, hlo⟩ : ∃ lo, lo = x % 4294967296 := ⟨_, rfl⟩
  obtain ⟨hi, hhi⟩ : ∃ hi, hi = x / 4294967296 := ⟨_, rfl⟩
  have q1 : (x : Int) % 4294967296 = (lo : Int) := by omega
  have q2 : (x : Int) / 4294967296 = (hi : Int) := by omega
  have hb1 : lo < 4294967296 := by omega
  have hb2 : hi < 4294967296 := by omega
  have q3 : (hi : Int) % 4294967296 = (hi : Int) := by omega
  have hv : val B32 [lo, hi] = x := by
    show lo + 4294967296 * (hi + 4294967296 * 0) = x
    omega
  have HC := hid (nat_trim _ [lo, hi] _ (two_limbs w lo hi 147 hb1 hb2) (fun _ h => h) (by simp))
  rw [hv] at HC
  have HX1 := hid (Ext.alloc (Ext.refl w) (.cells #[.int .u32 lo, .int .u32 hi] 147))
  clear hv hlo hhi
  go_enter Tryz.func126, Tryz.ntmps126
  go_wp2_with fail
  with_reducible refine HC.out.mono ?_
  rintro e w1 ⟨v1, rfl, hp1, hx1⟩
  have HP1 := hid (hp1.to (S' := New w w1) (Kept.refl _ _) (fun k h => ⟨Nat.le_trans HX1.out.size h.1, h.2⟩))
  have HX2 := hid (HX1.out.trans hx1)
  clear hp1 hx1
  go_wp2
  all_goals
    go_ret
    exact ⟨_, rfl, HP1.out, HX2.out⟩
end Go.Proofs.YtcpfeepnfodifaaGreat

namespace Go.Proofs.YtcpfeepnfodifaaGreat
open Go.RowKit

set_option maxRecDepth 100000 in
set_option maxHeartbeats 4000000 in
theorem cutter_few {S : Nat → Prop} (va vb : Value) (xs ys : List Nat) (w : World) (ha : U32s S w va xs) (hb : U32s S w vb ys) (hS : ∀ k, S k → k < w.heap.size) (hr : xs.length + ys.length ≤ 1000000000000) (hc : xs.length < 24 ∨ ys.length < 24) :
    Calls Tryz.prog 171 #[.int .i64 24, va, vb] w fun e w' => ∃ v', e = .returned v' ∧ U32s (New w w') w' v' (rep B32 (val B32 xs * val B32 ys)) ∧ Ext w w' := by
  have HC := hid (times_rows va vb xs ys w ha hb hS hr)
  have hla := ha.len_le
  have hlb := hb.len_le
  obtain ⟨aa, ca, rfl⟩ := ha.form
  obtain ⟨a2, cb, rfl⟩ := hb.form
  clear ha hb
  obtain ⟨n, hn⟩ : ∃ n, n = xs.length := ⟨_, rfl⟩
  obtain ⟨m, hm⟩ : ∃ n, n = ys.length := ⟨_, rfl⟩
  rw [← hn, ← hm] at hc hr
  rw [← hn] at hla
  rw [← hm] at hlb
  rw [← hn, ← hm] at HC ⊢
  clear hn hm
  go_enter Tryz.func171, Tryz.ntmps171
  rcases Nat.lt_or_ge n m with h | h
  · have q0 : min (n : Int) (m : Int) = (n : Int) := by omega
    have q1 : (n : Int) < 24 := by omega
    go_wp2_with fail
    with_reducible refine HC.out.mono ?_
    rintro e w1 ⟨v1, rfl, hp1, hx1⟩
    have HP1 := hid hp1
    have HX1 := hid hx1
    clear hp1 hx1
    go_wp2
    all_goals
      go_ret
      exact ⟨_, rfl, HP1.out, HX1.out⟩
  · rcases Nat.lt_or_ge m n with h2 | h2
    · have q0 : min (n : Int) (m : Int) = (m : Int) := by omega
      have q1 : (m : Int) < 24 := by omega
      go_wp2_with fail
      with_reducible refine HC.out.mono ?_
      rintro e w1 ⟨v1, rfl, hp1, hx1⟩
      have HP1 := hid hp1
      have HX1 := hid hx1
      clear hp1 hx1
      go_wp2
      all_goals
        go_ret
        exact ⟨_, rfl, HP1.out, HX1.out⟩
    · obtain rfl : n = m := by omega
      have q1 : (n : Int) < 24 := by omega
      go_wp2_with fail
      with_reducible refine HC.out.mono ?_
      rintro e w1 ⟨v1, rfl, hp1, hx1⟩
      have HP1 := hid hp1
      have HX1 := hid hx1
      clear hp1 hx1
      go_wp2
      all_goals
        go_ret
        exact ⟨_, rfl, HP1.out, HX1.out⟩

def lenN (n : Nat) : Nat := (rep B32 n).length
theorem lenN_le {zs : List Nat} (h : ∀ z ∈ zs, z < B32) : lenN (val B32 zs) ≤ zs.length := rep_val_len h
theorem mul_lens {a b k : Nat} (ha : lenN a + lenN b ≤ k) : lenN (a * b) ≤ k := by
  refine rep_len_le two_le_B32 _ k (Nat.lt_of_lt_of_le (Nat.mul_lt_mul'' (le_of_rep_len two_le_B32 a) (le_of_rep_len two_le_B32 b)) ?_)
  rw [← Nat.pow_add]
  exact Nat.pow_le_pow_right (by decide) ha
set_option maxRecDepth 100000 in
set_option maxHeartbeats 4000000 in
theorem times_mul {S : Nat → Prop} (va vb : Value) (xs ys : List Nat) (w : World) (ha : U32s S w va xs) (hb : U32s S w vb ys) (hS : ∀ k, S k → k < w.heap.size) (hr : xs.length + ys.length ≤ 1000000000000) (hc : lenN (val B32 xs) < 24 ∨ lenN (val B32 ys) < 24) :
    Calls Tryz.prog 131 #[va, vb] w fun e w' => ∃ v', e = .returned v' ∧ U32s (New w w') w' v' (rep B32 (val B32 xs * val B32 ys)) ∧ Ext w w' := by
  have C1 := hid (nat_trim va xs w ha hS (by omega))
  have C2 := hid (fun (W : World) (hW : Ext w W) => nat_trim vb ys W (hb.ext hW hS) (lt_ext hS hW) (by omega))
  have C3 := hid (fun (W : World) (u v : Value) (hu : U32s (Old W) W u (rep B32 (val B32 xs))) (hv : U32s (Old W) W v (rep B32 (val B32 ys))) => cutter_few u v _ _ W hu hv (fun _ h => h) (by have := lenN_le ha.lt; have := lenN_le hb.lt; unfold lenN at *; omega) hc)
  simp only [val_rep two_le_B32] at C3
  obtain ⟨aa, ca, rfl⟩ := ha.form
  obtain ⟨a2, cb, rfl⟩ := hb.form
  clear ha hb
  go_enter Tryz.func131, Tryz.ntmps131
  go_wp2_with fail
  with_reducible refine C1.out.mono ?_
  rintro e w1 ⟨v1, rfl, hp1, hx1⟩
  have HX1 := hid hx1
  have HP1 := hid (hp1.to (S' := Old w1) (Kept.refl _ _) New.lt)
  obtain ⟨a1, c1, rfl⟩ := hp1.form
  clear hp1 hx1
  go_wp2_with fail
  with_reducible refine (C2.out _ HX1.out).mono ?_
  rintro e w2 ⟨v2, rfl, hp2, hx2⟩
  have HX2 := hid (HX1.out.trans hx2)
  have C4 := hid (C3.out w2 _ v2 ((HP1.out.ext hx2 (fun _ h => h)).to (Kept.refl _ _) (fun k h => Nat.lt_of_lt_of_le h hx2.size)) (hp2.to (Kept.refl _ _) New.lt))
  obtain ⟨a3, c3, rfl⟩ := hp2.form
  clear hp2 hx2
  go_wp2_with fail
  with_reducible refine C4.out.mono ?_
  rintro e w3 ⟨v3, rfl, hp3, hx3⟩
  have HX3 := hid (HX2.out.trans hx3)
  have HP3 := hid (hp3.to (S' := New w w3) (Kept.refl _ _) (fun k h => ⟨Nat.le_trans HX2.out.size h.1, h.2⟩))
  clear hp3 hx3
  go_wp2
  all_goals
    go_ret
    exact ⟨_, rfl, HP3.out, HX3.out⟩

theorem sg_mul (xn yn : Bool) (a b : Nat) : sg (xn != yn) (a * b) = sg xn a * sg yn b := by
  unfold sg
  cases xn <;> cases yn <;> simp [Int.neg_mul, Int.mul_neg]

set_option maxRecDepth 100000 in
set_option maxHeartbeats 4000000 in
theorem whole_mul {S : Nat → Prop} (vx vy : Value) (x y : RInt) (w : World) (hx : IntV S w vx x) (hy : IntV S w vy y) (hS : ∀ k, S k → k < w.heap.size) (hr : x.mag.length ≤ 100000000000) (hr2 : y.mag.length ≤ 100000000000)
    (hc : lenI (valI x) < 24 ∨ lenI (valI y) < 24) :
    Calls Tryz.prog 82 #[vx, vy] w fun e w' => ∃ v', e = .returned v' ∧ IntV (New w w') w' v' (ofI (valI x * valI y)) ∧ Ext w w' := by
  obtain ⟨xn, xs⟩ := x
  obtain ⟨yn, ys⟩ := y
  obtain ⟨vxm, rfl, hxu⟩ := hx
  obtain ⟨vym, rfl, hyu⟩ := hy
  simp only at hxu hyu hr hr2 ⊢
  have hc' : lenN (val B32 xs) < 24 ∨ lenN (val B32 ys) < 24 := by
    have e1 : lenI (valI ⟨xn, xs⟩) = lenN (val B32 xs) := by
      rw [← ofI_len]
      unfold ofI valI lenN
      cases xn <;> simp
    have e2 : lenI (valI ⟨yn, ys⟩) = lenN (val B32 ys) := by
      rw [← ofI_len]
      unfold ofI valI lenN
      cases yn <;> simp
    rwa [e1, e2] at hc
  have HCL := hid hc'
  have HX := hid hxu
  have HY := hid hyu
  obtain ⟨ax, cx, rfl⟩ := hxu.form
  obtain ⟨ay, cy, rfl⟩ := hyu.form
  clear hxu hyu hc hc'
  have HK := hid (Ext.alloc (Ext.alloc (Ext.alloc (Ext.refl w) (.cells #[.bool xn, .slice ax xs.length cx] 94)) (.cells #[.bool yn, .slice ay ys.length cy] 94)) (.cells #[.bool false, .slice none 0 0] 94))
  have HXK := hid (HX.out.ext HK.out hS)
  have HYK := hid (HY.out.ext HK.out hS)
  have HSK := hid (lt_ext hS HK.out)
  have hsz : w.heap.size + 1 + 1 < (((w.alloc (.cells #[.bool xn, .slice ax xs.length cx] 94)).alloc (.cells #[.bool yn, .slice ay ys.length cy] 94)).alloc (.cells #[.bool false, .slice none 0 0] 94)).heap.size := by simp
  have HSZ := hid hsz
  clear hsz
  have HQ : Hid (valI ⟨xn, xs⟩ * valI ⟨yn, ys⟩ = sg (xn != yn) (val B32 xs * val B32 ys)) := hid (by
    rw [sg_mul]
    rfl)
  obtain ⟨b1, b2, b3, b4⟩ := blk3 (Ext.refl (((w.alloc (.cells #[.bool xn, .slice ax xs.length cx] 94)).alloc (.cells #[.bool yn, .slice ay ys.length cy] 94)).alloc (.cells #[.bool false, .slice none 0 0] 94)))
  have c1 := b1 0 _ rfl
  have c2 := b1 1 _ rfl
  have c3 := b2 1 _ rfl
  have c4 := b2 0 _ rfl
  clear b1 b2 b3 b4
  have S0 := drew3 c1 c2 c3
  have S0' := drew3 c4 c4 c4
  have HS0 := hid (And.intro S0.1 (And.intro S0.2.1 (And.intro S0.2.2 S0'.1)))
  clear S0 S0' c1 c2 c3 c4
  go_enter Tryz.func82, Tryz.ntmps82
  go_wp2
  have S0 := HS0.out
  have HL : Hid ((rep B32 (val B32 xs * val B32 ys)).length ≤ 50000000000000) := hid (mul_lens (by have h1 := lenN_le HX.out.lt; have h2 := lenN_le HY.out.lt; omega))
  obtain ⟨xy, hxy⟩ : ∃ b, b = (xn != yn) := ⟨_, rfl⟩
  rw [← hxy] at HQ
  have hxyq : (!(xn == yn)) = xy := hxy.symm
  clear hxy
  go_region_held3 (fun W => W.cell? ⟨w.heap.size, 0, none⟩ = some (.bool xn) ∧ W.cell? ⟨w.heap.size, 1, none⟩ = some (.slice ax xs.length cx) ∧ W.cell? ⟨w.heap.size + 1, 1, none⟩ = some (.slice ay ys.length cy) ∧ W.cell? ⟨w.heap.size + 1, 0, none⟩ = some (.bool yn)) (first | exact S0 | exact S1 | exact S2 | exact ⟨other (other S2.1 (ab (by omega))) (ab (by omega)), other (other S2.2.1 (ab (by omega))) (ab (by omega)), other (other S2.2.2.1 (ab (by omega))) (ab (by omega)), other (other S2.2.2.2 (ab (by omega))) (ab (by omega))⟩)
    (first
      | (go_at_call 131; (with_reducible refine (times_mul _ _ xs ys _ (HX.out.ext (HK.out.drew) hS) (HY.out.ext (HK.out.drew) hS) (lt_ext hS (HK.out.drew)) (by omega) HCL.out).mono ?_); rintro e w1 ⟨v1, rfl, hu1, hx1⟩; have S1 := And.intro (hx1.cell S0.1) (And.intro (hx1.cell S0.2.1) (And.intro (hx1.cell S0.2.2.1) (hx1.cell S0.2.2.2))); have HX1 := hid hx1; have HU1 := hid hu1; obtain ⟨a1, n1, rfl⟩ := hu1.form; clear hx1 hu1)
      | (go_at_call 125; (with_reducible refine (made_rep xy _ _ _ HU1.out New.lt HL.out).mono ?_); rintro e w2 ⟨v2, rfl, ⟨vm2, rfl, hu2⟩, hx2⟩; have S2 := And.intro (hx2.cell S1.1) (And.intro (hx2.cell S1.2.1) (And.intro (hx2.cell S1.2.2.1) (hx2.cell S1.2.2.2))); have HX2 := hid hx2; have HU2 := hid hu2; obtain ⟨a2, n2, rfl⟩ := hu2.form; obtain ⟨-, -, d3, d4⟩ := blk3 ((Ext.drew (Ext.refl _)).trans (HX1.out.trans hx2)); have e0 := d3 0 _ rfl; have e1 := d3 1 _ rfl; have HE := hid (And.intro e0 e1); have f0 := d4 0; have f1 := d4 1; clear d3 d4 hx2 hu2))
  all_goals
    go_wp2
    have hd := fun x y => two_set x y HE.out.1 HE.out.2
    refine bodyPost_ret (by simp [results, Tryz.results82, go_sem, (hd _ _).1, (hd _ _).2]; rfl) rfl ?_
    have hg := ret_int3 (w0 := w) (b := w.heap.size + 1 + 1) rfl HU2.out (HK.out.drew.trans HX1.out) HX2.out (by omega) (Nat.lt_of_lt_of_le HSZ.out HX1.out.size) (.bool (ofI (sg xy (val B32 xs * val B32 ys))).neg) (.slice a2 (ofI (sg xy (val B32 xs * val B32 ys))).mag.length n2)
    rw [HQ.out]
    exact ⟨_, rfl, hg.1, hg.2⟩
end Go.Proofs.YtcpfeepnfodifaaGreat

namespace Go.Proofs.YtcpfeepnfodifaaGreat
open Go.RowKit

set_option maxRecDepth 100000 in
set_option maxHeartbeats 4000000 in
theorem whole_of (n : Int) (w : World) (hn : -9223372036854775808 ≤ n ∧ n ≤ 9223372036854775807) :
    Calls Tryz.prog 76 #[.int .i64 n] w fun e w' => ∃ v', e = .returned v' ∧ IntV (New w w') w' v' (ofI n) ∧ Ext w w' := by
  obtain ⟨hn1, hn2⟩ := hn
  have HX0 := hid (Ext.alloc (Ext.refl w) (.cells #[.bool false, .slice none 0 0] 94))
  have HSZ : Hid (w.heap.size < (w.alloc (.cells #[.bool false, .slice none 0 0] 94)).heap.size) := hid (by rw [size_alloc]; omega)
  by_cases h : n < 0
  · obtain ⟨x, hx⟩ : ∃ x : Nat, (x : Int) = -n := ⟨(-n).toNat, by omega⟩
    have hxl : x < 18446744073709551616 := by omega
    have q1 : n % 18446744073709551616 = 18446744073709551616 - (x : Int) := by omega
    have q2 : IntKind.u64.wrap (-IntKind.u64.wrap n) = (x : Int) := by
      rw [IntKind.wrap_u64, IntKind.wrap_u64]
      omega
    have HS := hid (fun W : World => nat_small x W hxl)
    have HL : Hid ((rep B32 x).length ≤ 50000000000000) := hid (Nat.le_trans (rep_len_le two_le_B32 x 2 (by show x < 4294967296 ^ 2; omega)) (by decide))
    have HQ : Hid (n = sg true x) := hid (by unfold sg; rw [if_pos rfl]; omega)
    clear hx hxl
    go_enter Tryz.func76, Tryz.ntmps76
    go_wp2_with fail
    with_reducible refine (HS.out _).mono ?_
    rintro e w1 ⟨v1, rfl, hp1, hx1⟩
    have HX1 := hid hx1
    have HP1 := hid hp1
    obtain ⟨a1, c1, rfl⟩ := hp1.form
    clear hp1 hx1
    go_wp2_with fail
    with_reducible refine (made_rep true _ _ _ HP1.out New.lt HL.out).mono ?_
    rintro e w2 ⟨v2, rfl, ⟨vm2, rfl, hu2⟩, hx2⟩
    have HX2 := hid hx2
    have HU2 := hid hu2
    obtain ⟨a2, n2, rfl⟩ := hu2.form
    have e0 := (HX1.out.trans hx2).new_cell (i := 0) rfl
    have e1 := (HX1.out.trans hx2).new_cell (i := 1) rfl
    have f0 := (HX1.out.trans hx2).new_free 0
    have f1 := (HX1.out.trans hx2).new_free 1
    have HE := hid (And.intro e0 e1)
    rw [← HQ.out] at HU2 ⊢
    clear hx2 hu2
    go_wp2
    have hd := fun x y => two_set x y HE.out.1 HE.out.2
    refine bodyPost_ret (by simp [results, Tryz.results76, go_sem, (hd _ _).1, (hd _ _).2]; rfl) rfl ?_
    have hg := ret_int3 (w0 := w) (b := w.heap.size) rfl HU2.out (HX0.out.trans HX1.out) HX2.out (Nat.le_refl _) (Nat.lt_of_lt_of_le HSZ.out HX1.out.size) (.bool (ofI n).neg) (.slice a2 (ofI n).mag.length n2)
    exact ⟨_, rfl, hg.1, hg.2⟩
  · obtain ⟨x, hx⟩ : ∃ x : Nat, (x : Int) = n := ⟨n.toNat, by omega⟩
    have hxl : x < 18446744073709551616 := by omega
    have q2 : IntKind.u64.wrap n = (x : Int) := by
      rw [IntKind.wrap_u64]
      omega
    have HS := hid (fun W : World => nat_small x W hxl)
    have HL : Hid ((rep B32 x).length ≤ 50000000000000) := hid (Nat.le_trans (rep_len_le two_le_B32 x 2 (by show x < 4294967296 ^ 2; omega)) (by decide))
    have HQ : Hid (n = sg false x) := hid (by unfold sg; simp; omega)
    clear hx hxl
    go_enter Tryz.func76, Tryz.ntmps76
    go_wp2_with fail
    with_reducible refine (HS.out _).mono ?_
    rintro e w1 ⟨v1, rfl, hp1, hx1⟩
    have HX1 := hid hx1
    have HP1 := hid hp1
    obtain ⟨a1, c1, rfl⟩ := hp1.form
    clear hp1 hx1
    go_wp2_with fail
    with_reducible refine (made_rep false _ _ _ HP1.out New.lt HL.out).mono ?_
    rintro e w2 ⟨v2, rfl, ⟨vm2, rfl, hu2⟩, hx2⟩
    have HX2 := hid hx2
    have HU2 := hid hu2
    obtain ⟨a2, n2, rfl⟩ := hu2.form
    have e0 := (HX1.out.trans hx2).new_cell (i := 0) rfl
    have e1 := (HX1.out.trans hx2).new_cell (i := 1) rfl
    have f0 := (HX1.out.trans hx2).new_free 0
    have f1 := (HX1.out.trans hx2).new_free 1
    have HE := hid (And.intro e0 e1)
    rw [← HQ.out] at HU2 ⊢
    clear hx2 hu2
    go_wp2
    have hd := fun x y => two_set x y HE.out.1 HE.out.2
    refine bodyPost_ret (by simp [results, Tryz.results76, go_sem, (hd _ _).1, (hd _ _).2]; rfl) rfl ?_
    have hg := ret_int3 (w0 := w) (b := w.heap.size) rfl HU2.out (HX0.out.trans HX1.out) HX2.out (Nat.le_refl _) (Nat.lt_of_lt_of_le HSZ.out HX1.out.size) (.bool (ofI n).neg) (.slice a2 (ofI n).mag.length n2)
    exact ⟨_, rfl, hg.1, hg.2⟩
end Go.Proofs.YtcpfeepnfodifaaGreat

namespace Go.Proofs.YtcpfeepnfodifaaGreat
open Go.RowKit

theorem lenI_small {z : Int} (h : 0 ≤ z ∧ z ≤ 10000) : lenI z ≤ 1 := lenI_lt (by show z.natAbs < 4294967296 ^ 1; omega)
theorem lenI_prod {a b : Int} {j k : Nat} (ha : lenI a ≤ j) (hb : lenI b ≤ k) : lenI (a * b) ≤ j + k := by
  refine lenI_lt ?_
  rw [Int.natAbs_mul, Nat.pow_add]
  exact Nat.mul_lt_mul'' (lenI_mono ha (Nat.le_refl _)) (lenI_mono hb (Nat.le_refl _))
theorem grown_cell {w w' : World} {row : Option Nat} {b i : Nat} {v : Value} (hg : w.grownBy w' row) (hc : w.cell? ⟨b, i, none⟩ = some v) (hne : some b ≠ row) : w'.cell? ⟨b, i, none⟩ = some v :=
  (World.cell?_of_block (a := ⟨b, i, none⟩) (hg.block b (lt_of_cell hc) hne)).trans hc

end Go.Proofs.YtcpfeepnfodifaaGreat

namespace Go.Proofs.YtcpfeepnfodifaaGreat
open Go.RowKit

theorem clsP_take {p : PZ} {k : Nat} {t : Int × Mono} (h : p[k]? = some t) : clsP (p.take (k + 1)) = max (clsP (p.take k)) (classM t.2) := by
  rw [List.take_add_one, h]
  unfold clsP
  simp [List.foldl_append]
theorem clsP_range {p : PZ} (h : mayAll p) : 0 ≤ clsP p ∧ clsP p ≤ 200 :=
  ⟨foldl_max_le (fun t : Int × Mono => classM t.2) p 0, foldl_max_ub (fun t : Int × Mono => classM t.2) p 0 200 (by omega) (fun t ht => (class_range (h t ht)).2)⟩
theorem RTs.cell2 {w : World} {a : Option Addr} {n cap k : Nat} {p : PZ} {t : Int × Mono} (h : RTs (Old w) w (.slice a n cap) p) (ht : p[k]? = some t) :
    ∃ b off ao co, a = some ⟨b, off, none⟩ ∧ n ≤ cap ∧ cap ≤ 9223372036854775807 ∧ w.cell? ⟨b, off + k * 3 + 2, none⟩ = some (.slice ao t.2.length co) ∧ Pows (Old w) w (.slice ao t.2.length co) t.2 := by
  obtain ⟨b, off, vd, vo, rfl, -, hn1, hm1, hSb, h1, h2, h3, h4, h5⟩ := h.cellAt ht
  obtain ⟨ao, co, rfl⟩ := h5.form
  exact ⟨b, off, ao, co, rfl, hn1, hm1, h3, h5⟩

set_option maxRecDepth 100000 in
set_option maxHeartbeats 4000000 in
theorem rview_class (v : Value) (p : PZ) (w : World) (h : RTs (Old w) w v p) (hmay : mayAll p) :
    Calls Tryz.prog 97 #[v] w fun e w' => e = .returned (.int .i64 (clsP p)) ∧ Ext w w' := by
  have H := hid h
  have HM := hid hmay
  have hl := h.len_le
  obtain ⟨a, cap, rfl⟩ := h.form
  clear h hmay
  go_enter Tryz.func97, Tryz.ntmps97
  go_wp2
  go_loopw [3, 4] (fun d i wr => ∃ k : Nat, k ≤ p.length ∧ i = .int .i64 k ∧ d = .int .i64 (clsP (p.take k)) ∧ Ext w wr) (fun _ i _ => p.length - (intOf i).toNat)
  case atStart => exact ⟨0, Nat.zero_le _, rfl, rfl, Ext.refl _⟩
  case round =>
    obtain ⟨k, hk, rfl, rfl, hx⟩ := hrel
    have HX := hid hx
    obtain ⟨hd1, hd2⟩ := clsP_range (mayAll_take HM.out k)
    by_cases hlt : k < p.length
    · obtain ⟨t, ht⟩ := some_of_lt hlt
      obtain ⟨b, off, ao, co, rfl, hn1, hm1, h3, h5⟩ := H.out.cell2 ht
      have hmm := HM.out t (List.mem_of_getElem? ht)
      have HS := hid (clsP_take ht)
      obtain ⟨he1, he2⟩ := class_range hmm
      have g3 := Ext.cell hx h3
      have H5 := hid h5
      have C := fun (W : World) (hW : Ext w W) => rmono_class (S := Old w) _ t.2 W (H5.out.ext hW (fun _ h => h)) (lt_ext (fun _ h => h) hW)
      rw [plainM_yes hmm] at C
      have HC := hid C
      clear h3 h5 hx ht C hmm
      generalize clsP (p.take k) = d at *
      generalize classM t.2 = q at *
      go_wp2_with fail
      refine (HC.out wr HX.out).mono ?_
      rintro e w1 ⟨rfl, hx1⟩
      have k3 := hx1.cell g3
      have HX1 := hid (HX.out.trans hx1)
      clear hx1 g3
      by_cases hgt : d < q
      · go_wp2_with fail
        refine (HC.out w1 HX1.out).mono ?_
        rintro e w2 ⟨rfl, hx2⟩
        have HX2 := hid (HX1.out.trans hx2)
        clear hx2
        go_wp2
        go_roundw
        case rel => exact ⟨k + 1, by omega, by go_num, by rw [HS.out]; exact congrArg (Value.int .i64) (by omega), HX2.out⟩
        case measure => simp only [intOf]; omega
      · go_wp2
        go_roundw
        case rel => exact ⟨k + 1, by omega, by go_num, by rw [HS.out]; exact congrArg (Value.int .i64) (by omega), HX1.out⟩
        case measure => simp only [intOf]; omega
    · obtain rfl : k = p.length := by omega
      have HE : Hid (clsP (p.take p.length) = clsP p) := hid (by rw [List.take_length])
      clear hx
      go_wp2
      all_goals
        go_ret
        exact ⟨by rw [HE.out]; rfl, HX.out⟩

set_option maxRecDepth 100000 in
set_option maxHeartbeats 4000000 in
theorem rview_degree (v : Value) (p : PZ) (x : Int) (w : World) (h : RTs (Old w) w v p) (hmay : mayAll p) (hxb : -9223372036854775808 ≤ x ∧ x ≤ 9223372036854775807) :
    Calls Tryz.prog 18 #[v, .int .i64 x] w fun e w' => e = .returned (.int .i64 (degP p x)) ∧ Ext w w' := by
  have H := hid h
  have HM := hid hmay
  have HXB := hid hxb
  have hl := h.len_le
  obtain ⟨a, cap, rfl⟩ := h.form
  clear h hmay hxb
  go_enter Tryz.func18, Tryz.ntmps18
  go_wp2
  go_loopw [5, 6] (fun d i wr => ∃ k : Nat, k ≤ p.length ∧ i = .int .i64 k ∧ d = .int .i64 (degP (p.take k) x) ∧ Ext w wr) (fun _ i _ => p.length - (intOf i).toNat)
  case atStart => exact ⟨0, Nat.zero_le _, rfl, rfl, Ext.refl _⟩
  case round =>
    obtain ⟨k, hk, rfl, rfl, hx⟩ := hrel
    have HX := hid hx
    obtain ⟨hd1, hd2⟩ := degP_range (mayAll_take HM.out k) x
    by_cases hlt : k < p.length
    · obtain ⟨t, ht⟩ := some_of_lt hlt
      obtain ⟨b, off, ao, co, rfl, hn1, hm1, h3, h5⟩ := H.out.cell2 ht
      have hmm := HM.out t (List.mem_of_getElem? ht)
      have HS := hid (degP_take ht x)
      obtain ⟨he1, he2⟩ := ex_range hmm x
      have g3 := Ext.cell hx h3
      have H5 := hid h5
      have C := fun (W : World) (hW : Ext w W) => rmono_degree (S := Old w) _ t.2 x W (H5.out.ext hW (fun _ h => h)) (lt_ext (fun _ h => h) hW) HXB.out
      rw [plainM_yes hmm] at C
      have HC := hid C
      clear h3 h5 hx ht C hmm
      generalize degP (p.take k) x = d at *
      generalize ex t.2 x = q at *
      go_wp2_with fail
      refine (HC.out wr HX.out).mono ?_
      rintro e w1 ⟨rfl, hx1⟩
      have k3 := hx1.cell g3
      have HX1 := hid (HX.out.trans hx1)
      clear hx1 g3
      by_cases hgt : d < q
      · go_wp2_with fail
        refine (HC.out w1 HX1.out).mono ?_
        rintro e w2 ⟨rfl, hx2⟩
        have HX2 := hid (HX1.out.trans hx2)
        clear hx2
        go_wp2
        go_roundw
        case rel => exact ⟨k + 1, by omega, by go_num, by rw [HS.out]; exact congrArg (Value.int .i64) (by omega), HX2.out⟩
        case measure => simp only [intOf]; omega
      · go_wp2
        go_roundw
        case rel => exact ⟨k + 1, by omega, by go_num, by rw [HS.out]; exact congrArg (Value.int .i64) (by omega), HX1.out⟩
        case measure => simp only [intOf]; omega
    · obtain rfl : k = p.length := by omega
      have HE : Hid (degP (p.take p.length) x = degP p x) := hid (by rw [List.take_length])
      clear hx
      go_wp2
      all_goals
        go_ret
        exact ⟨by rw [HE.out]; rfl, HX.out⟩

end Go.Proofs.YtcpfeepnfodifaaGreat

namespace Go.Proofs.YtcpfeepnfodifaaGreat
open Go.RowKit

/-- slices of polynomials of the document -/
def RPs (S : Nat → Prop) (w : World) (v : Value) (l : List PZ) : Prop :=
  ∃ b off, SliceAt S v l.length b off ∧ ∀ j p, l[j]? = some p → ∃ vp, w.cell? ⟨b, off + j, none⟩ = some vp ∧ RTs S w vp p
section
variable {S S' : Nat → Prop} {w w' : World} {v : Value} {l : List PZ}
theorem RPs.to (h : RPs S w v l) (hk : Kept S w w') (hS : ∀ k, S k → S' k) : RPs S' w' v l := by
  obtain ⟨b, off, hs, hc⟩ := h
  refine ⟨b, off, hs.mono hS, fun j p hj => ?_⟩
  obtain ⟨vp, h1, h2⟩ := hc j p hj
  exact ⟨vp, hk.cell (hs.in (lt_of_some hj)) h1, h2.to hk hS⟩
theorem RPs.form (h : RPs S w v l) : ∃ a cap, v = .slice a l.length cap := by
  obtain ⟨b, off, ⟨a, cap, h1, _⟩, _⟩ := h
  exact ⟨a, cap, h1⟩
theorem RPs.len_le (h : RPs S w v l) : l.length ≤ 9223372036854775807 := by
  obtain ⟨b, off, ⟨a, cap, h1, h2, h3, _⟩, _⟩ := h
  unfold maxLen at h3
  omega
theorem RPs.cellAt {a : Option Addr} {n cap k : Nat} {p : PZ} (h : RPs S w (.slice a n cap) l) (ht : l[k]? = some p) :
    ∃ b off vp, a = some ⟨b, off, none⟩ ∧ n = l.length ∧ n ≤ cap ∧ cap ≤ 9223372036854775807 ∧ S b ∧ w.cell? ⟨b, off + k, none⟩ = some vp ∧ RTs S w vp p := by
  obtain ⟨b, off, ⟨a', cap', h1, h2, h3, h4, h5⟩, hc⟩ := h
  obtain ⟨rfl, rfl, rfl⟩ : a = a' ∧ n = l.length ∧ cap = cap' := by simpa using h1
  have hp : 0 < l.length := by have := lt_of_some ht; omega
  obtain ⟨vp, g1, g2⟩ := hc k p ht
  exact ⟨b, off, vp, h4 hp, rfl, h2, h3, h5 hp, g1, g2⟩
end
theorem RPs.on {w W : World} {v : Value} {l : List PZ} (h : RPs (Old w) w v l) (hx : Ext w W) : RPs (Old W) W v l := h.to (Kept.ext hx (fun _ h => h)) (old_lt hx)

end Go.Proofs.YtcpfeepnfodifaaGreat

namespace Go.Proofs.YtcpfeepnfodifaaGreat
open Go.RowKit

def bigTerm (t : RTerm) : Bool := decide (20 < t.c.mag.length) || decide (12 < t.m.length)
def greatT (n : Int) (ts : List RTerm) : Bool := ts.any bigTerm || decide (n < (ts.length : Int))

set_option maxRecDepth 100000 in
set_option maxHeartbeats 4000000 in
theorem rpoly_great {S : Nat → Prop} (v : Value) (ts : List RTerm) (n : Int) (w : World) (h : Terms S w v ts) (_hS : ∀ k, S k → k < w.heap.size) (hn : -9223372036854775808 ≤ n ∧ n ≤ 9223372036854775807) :
    Calls Tryz.prog 50 #[v, .int .i64 n] w fun e w' => e = .returned (.bool (greatT n ts)) ∧ Ext w w' := by
  have H := hid h
  have hl := h.len_le
  obtain ⟨hn1, hn2⟩ := hn
  obtain ⟨a, cap, rfl⟩ := h.form
  clear h
  go_enter Tryz.func50, Tryz.ntmps50
  go_wp2
  go_loopw [5] (fun i wr => ∃ k : Nat, k ≤ ts.length ∧ i = .int .i64 k ∧ Ext w wr ∧ Hid ((ts.take k).any bigTerm = false)) (fun i _ => ts.length - (intOf i).toNat)
  case atStart => exact ⟨0, Nat.zero_le _, rfl, Ext.refl _, hid rfl⟩
  case round =>
    obtain ⟨k, hk, rfl, hx, HM⟩ := hrel
    have HX := hid hx
    by_cases hlt : k < ts.length
    · obtain ⟨t, ht⟩ := some_of_lt hlt
      obtain ⟨b, off, vm, vo, rfl, -, hq1, hm1, hSb, h1, h2, h3, h4, h5⟩ := H.out.cellAt ht
      have HT : Hid (ts.take (k + 1) = ts.take k ++ [t]) := hid (by rw [List.take_add_one, ht]; rfl)
      have HQ := hid (List.mem_of_getElem? ht)
      have hl1 := h4.len_le
      have hl2 := h5.len_le
      have HBT : Hid (bigTerm t = (decide (20 < t.c.mag.length) || decide (12 < t.m.length))) := hid rfl
      have g1 := Ext.cell hx h1
      have g2 := Ext.cell hx h2
      have g3 := Ext.cell hx h3
      obtain ⟨am, cm, rfl⟩ := h4.form
      obtain ⟨ao, co, rfl⟩ := h5.form
      generalize t.c.mag.length = x at *
      generalize t.m.length = y at *
      clear hx ht h1 h2 h3 h4 h5
      by_cases hbig : 20 < x
      · have HF : Hid (greatT n ts = true) := hid (by
          unfold greatT
          rw [List.any_eq_true.2 ⟨t, HQ.out, by rw [HBT.out, decide_eq_true hbig]; rfl⟩]
          rfl)
        go_wp2
        all_goals
          go_ret
          exact ⟨by rw [HF.out]; rfl, HX.out⟩
      · by_cases hbig2 : 12 < y
        · have HF : Hid (greatT n ts = true) := hid (by
            unfold greatT
            rw [List.any_eq_true.2 ⟨t, HQ.out, by rw [HBT.out, decide_eq_true hbig2, Bool.or_true]⟩]
            rfl)
          go_wp2
          all_goals
            go_ret
            exact ⟨by rw [HF.out]; rfl, HX.out⟩
        · go_wp2
          go_roundw
          case rel => exact ⟨k + 1, by omega, by go_num, HX.out, hid (by rw [HT.out, List.any_append, HM.out]; simp [HBT.out]; omega)⟩
          case measure => simp only [intOf]; omega
    · obtain rfl : k = ts.length := by omega
      have HF : Hid (greatT n ts = decide (n < (ts.length : Int))) := hid (by
        have := HM.out
        rw [List.take_length] at this
        unfold greatT
        rw [this, Bool.false_or])
      clear hx
      go_wp2
      all_goals
        go_ret
        exact ⟨by rw [HF.out]; rfl, HX.out⟩

def greatL (ls : List (List RTerm)) : Bool := ls.any (greatT 12) || decide (8 < ls.length)

/-- what is not too great -/
theorem fit_of {ls : List (List RTerm)} (h : greatL ls = false) : ls.length ≤ 8 ∧ ∀ ts ∈ ls, ts.length ≤ 12 ∧ ∀ t ∈ ts, t.c.mag.length ≤ 20 ∧ t.m.length ≤ 12 := by
  unfold greatL at h
  rw [Bool.or_eq_false_iff] at h
  obtain ⟨h1, h2⟩ := h
  refine ⟨by simpa using h2, fun ts hts => ?_⟩
  have := (List.any_eq_false.1 h1) ts hts
  unfold greatT at this
  simp only [Bool.not_eq_true, Bool.or_eq_false_iff] at this
  obtain ⟨k1, k2⟩ := this
  refine ⟨?_, fun t ht => ?_⟩
  · rw [decide_eq_false_iff_not] at k2
    omega
  · have k3 := (List.any_eq_false.1 k1) t ht
    unfold bigTerm at k3
    simp at k3
    omega
end Go.Proofs.YtcpfeepnfodifaaGreat

namespace Go.Proofs.YtcpfeepnfodifaaGreat
open Go.RowKit

def CellsP (S : Nat → Prop) (w : World) (xs : List Value) (l : List PZ) : Prop := xs.length = l.length ∧ ∀ (j : Nat) (p : PZ), l[j]? = some p → ∃ vp, xs[j]? = some vp ∧ RTs S w vp p
theorem CellsP.nil (S : Nat → Prop) (w : World) : CellsP S w [] [] := ⟨rfl, fun j p h => by simp at h⟩
theorem CellsP.to {S S' : Nat → Prop} {w w' : World} {xs : List Value} {l : List PZ} (h : CellsP S w xs l) (hk : Kept S w w') (hS : ∀ k, S k → S' k) : CellsP S' w' xs l :=
  ⟨h.1, fun j p hj => by
    obtain ⟨vp, h1, h2⟩ := h.2 j p hj
    exact ⟨vp, h1, h2.to hk hS⟩⟩
theorem CellsP.snoc {S : Nat → Prop} {w : World} {xs : List Value} {l : List PZ} {v : Value} {p : PZ} (h : CellsP S w xs l) (hv : RTs S w v p) : CellsP S w (xs ++ [v]) (l ++ [p]) := by
  refine ⟨by simp [h.1], fun j q hj => ?_⟩
  by_cases hlt : j < l.length
  · rw [List.getElem?_append_left hlt] at hj
    rw [List.getElem?_append_left (by rw [h.1]; exact hlt)]
    exact h.2 j q hj
  · have hj2 := lt_of_some hj
    simp only [List.length_append, List.length_cons, List.length_nil] at hj2
    obtain rfl : j = l.length := by omega
    rw [List.getElem?_append_right (Nat.le_refl _), Nat.sub_self] at hj
    obtain rfl : p = q := by simpa using hj
    refine ⟨v, ?_, hv⟩
    rw [← h.1, List.getElem?_append_right (Nat.le_refl _), Nat.sub_self]
    rfl
theorem own_rps {S : Nat → Prop} {w : World} {base : Nat} {e : TypeId} {v : Value} {xs : List Value} {l : List PZ} (h : w.ownsRow base e 1 v l.length xs) (hc : CellsP S w xs l) (hB : ∀ k, base ≤ k → k < w.heap.size → S k) : RPs S w v l := by
  have hlt := h.lt
  rcases h.2 with ⟨rfl, h0⟩ | ⟨g, cap, cur, rfl, hg, hh, h1, h2, h3, h4⟩
  · obtain rfl : l = [] := List.length_eq_zero_iff.1 h0
    exact ⟨0, 0, ⟨none, 0, rfl, Nat.zero_le _, by decide, fun h => absurd h (Nat.lt_irrefl 0), fun h => absurd h (Nat.lt_irrefl 0)⟩, fun j t hj => by simp at hj⟩
  · refine ⟨g, 0, ⟨_, cap, rfl, h1, h2, fun _ => rfl, fun _ => hB g (hlt g rfl).1 (hlt g rfl).2⟩, fun j t hj => ?_⟩
    obtain ⟨vp, g1, g2⟩ := hc.2 j t hj
    have hb := lt_of_some hj
    refine ⟨vp, ?_, g2⟩
    rw [h.cellAt (0 + j) (by omega), Nat.zero_add]
    exact g1
theorem Tryz.infoP : (Tryz.prog.info? 40).map (fun i => (i.zero, i.size, i.bytes)) = some (some (.slice none 0 0), 1, 24) := by kernel_rfl

section
variable {S : Nat → Prop} {w w1 w2 : World} {o : Value} {e : TypeId} {size n : Nat} {xs : List Value}
theorem cellsP_ext {l : List PZ} (hS : ∀ k, S k → k < w.heap.size) (h0 : Ext w w1) (h : CellsP (Off S w w1 o) w1 xs l) (hx : Ext w1 w2) : CellsP (Off S w w2 o) w2 xs l :=
  h.to (Kept.ext hx (fun k h => plus_lt hS h0 k h.1)) (fun k h => ⟨plus_grow hx.size k h.1, h.2⟩)
/-- a polynomial that was made behind a slice -/
theorem rts_off {v : Value} {p : PZ} (hS : ∀ k, S k → k < w.heap.size) (h0 : Ext w w1) (ho : w1.ownsRow w.heap.size e size o n xs) (_hx : Ext w1 w2) (h : RTs (Plus S w1 w2) w2 v p) : RTs (Off S w w2 o) w2 v p :=
  h.to (Kept.refl _ _) (fun k hk => by
    rcases hk with hk | hk
    · refine ⟨.inl hk, fun e => ?_⟩
      have := (ho.lt k e.symm).1
      have := hS k hk
      omega
    · refine ⟨.inr ⟨Nat.le_trans h0.size hk.1, hk.2⟩, fun e => ?_⟩
      have := (ho.lt k e.symm).2
      have := hk.1
      omega)
theorem cellsP_grown {v3 : Value} {w3 : World} {l : List PZ} (hS : ∀ k, S k → k < w.heap.size) (hx : Ext w w2) (h : CellsP (Off S w w2 o) w2 xs l) (hg : w2.grownBy w3 o.ownBlock) (hb : v3.ownBlock = o.ownBlock ∨ v3.ownBlock = some (w2.heap.size + 1)) : CellsP (Off S w w3 v3) w3 xs l :=
  h.to (Kept.grown hg (fun k hk => ⟨plus_lt hS hx k hk.1, hk.2⟩)) (fun k hk => ⟨plus_grow hg.size k hk.1, off_still hS hx hk hb⟩)
end

/-- sizes that the document's numbers take -/
def fitT (ts : List RTerm) : Prop := tinyT ts ∧ ts.length ≤ 1000000
theorem szP_toP {ts : List RTerm} (hok : okT ts) (h : fitT ts) : szP (toP ts) := by
  refine ⟨by rw [toP_length]; exact Nat.le_trans h.2 (by decide), fun t ht => ?_⟩
  obtain ⟨u, hu, rfl⟩ := List.mem_map.1 ht
  exact szZ_of (hok u hu) (h.1 u hu)
theorem szP_take {p : PZ} (h : szP p) (k : Nat) : szP (p.take k) := ⟨Nat.le_trans (by rw [List.length_take]; exact Nat.min_le_right _ _) h.1, fun t ht => h.2 t (List.mem_of_mem_take ht)⟩
theorem addP_take {p : PZ} (h : canP p) (k : Nat) : addP [] (p.take k) = p.take k := normP_of_can (canP_sublist h (List.take_sublist _ _))
theorem plainP_yes {ts : List RTerm} (h : mayT ts = true) : plainP ts = toP ts := by unfold plainP; simp [h]
theorem plainP_no {ts : List RTerm} (h : mayT ts = false) : plainP ts = [] := by unfold plainP; simp [h]

theorem fit_T {ts : List RTerm} (h : ts.length ≤ 12 ∧ ∀ t ∈ ts, t.c.mag.length ≤ 20 ∧ t.m.length ≤ 12) : fitT ts ∧ smallT ts :=
  ⟨⟨fun t ht => Nat.le_trans (h.2 t ht).1 (by omega), Nat.le_trans h.1 (by omega)⟩, fun t ht => Nat.le_trans (h.2 t ht).1 (by omega)⟩
end Go.Proofs.YtcpfeepnfodifaaGreat

namespace Go.Proofs.YtcpfeepnfodifaaGreat
open Go.RowKit

theorem small_bnd {p : PZ} {k : Nat} (h : bndZ k p) (hk : k ≤ 40000000000000) : smallT (ofP p) := fun t ht => by
  obtain ⟨u, hu, rfl⟩ := List.mem_map.1 ht
  show (ofI u.1).mag.length ≤ _
  rw [ofI_len]
  exact Nat.le_trans (lenI_lt (h u hu)) hk
theorem bnd_plain {ts : List RTerm} {k : Nat} (hok : okT ts) (h : ∀ t ∈ ts, t.c.mag.length ≤ k) : bndZ k (plainP ts) := fun u hu => by
  unfold plainP at hu
  split at hu
  · obtain ⟨t, ht, rfl⟩ := List.mem_map.1 hu
    exact lenI_mono (valI_len (hok t ht)) (h t ht)
  · simp at hu
theorem bnd_coef {p : PZ} {k : Nat} (h : bndZ k p) (v e : Int) : bndZ k (coefP p v e) := fun u hu => by
  obtain ⟨t, ht, -, rfl⟩ := coefP_mem hu
  exact h t ht
theorem bnd_init {p : PZ} {k : Nat} (h : bndZ k p) : bndZ k (initP p) := by
  unfold initP
  split
  · exact h
  · exact bnd_coef h _ _
theorem bnd_tail {p : PZ} {k : Nat} (h : bndZ k p) : bndZ k (tailP p) := fun u hu => h u ((tailP_sub p).mem hu)
theorem bnd_der {p : PZ} {k : Nat} (hm : mayAll p) (h : bndZ k p) (v : Int) : bndZ (k + 1) (derP p v) := fun u hu => by
  obtain ⟨t, ht, -, rfl⟩ := derP_mem hu
  exact lenI_mono (lenI_prod (lenI_lt (h t ht)) (lenI_small (ex_range (hm t ht) v))) (Nat.le_refl _)

theorem bnd_lens {p : PZ} {k : Nat} (h : bndZ k p) : ∀ t ∈ ofP p, t.c.mag.length ≤ k := fun t ht => by
  obtain ⟨u, hu, rfl⟩ := List.mem_map.1 ht
  show (ofI u.1).mag.length ≤ _
  rw [ofI_len]
  exact lenI_lt (h u hu)
theorem great_fit {n : Nat} {ts : List RTerm} (h : greatT n ts = false) : ts.length ≤ n ∧ ∀ t ∈ ts, t.c.mag.length ≤ 20 ∧ t.m.length ≤ 12 := by
  unfold greatT at h
  rw [Bool.or_eq_false_iff] at h
  obtain ⟨k1, k2⟩ := h
  refine ⟨?_, fun t ht => ?_⟩
  · rw [decide_eq_false_iff_not] at k2
    omega
  · have k3 := (List.any_eq_false.1 k1) t ht
    unfold bigTerm at k3
    simp at k3
    omega
theorem der_len (p : PZ) (v : Int) : (derP p v).length ≤ p.length := List.length_filterMap_le _ _
theorem ofP_len (p : PZ) : (ofP p).length = p.length := by unfold ofP; rw [List.length_map]
theorem plain_len (ts : List RTerm) : (plainP ts).length ≤ ts.length := by
  unfold plainP
  split
  · unfold toP; rw [List.length_map]; exact Nat.le_refl _
  · simp
end Go.Proofs.YtcpfeepnfodifaaGreat

namespace Go.Proofs.YtcpfeepnfodifaaGreat
open Go.RowKit

/-- a product, or an error: an exponent is too great -/
def TimesPost (w : World) : Option PZ → Ending → World → Prop
  | none => ErrPoly w 8
  | some p => OkPoly w p
theorem toP_at' {ts : List RTerm} {k : Nat} {t : RTerm} (h : ts[k]? = some t) : (toP ts)[k]? = some (valI t.c, t.m) := by
  unfold toP
  rw [List.getElem?_map, h]
  rfl
theorem ofP_snoc (xs : PZ) (x : Int × Mono) : ofP (xs ++ [x]) = ofP xs ++ [⟨ofI x.1, x.2⟩] := by
  unfold ofP
  rw [List.map_append]
  rfl
theorem mayT_at {ts : List RTerm} (h : mayT ts = true) {k : Nat} {t : RTerm} (ht : ts[k]? = some t) : mayM t.m = true := mayT_mono h t (List.mem_of_getElem? ht)

set_option maxRecDepth 100000 in
set_option maxHeartbeats 8000000 in
theorem poly_times {S : Nat → Prop} (vp vq : Value) (ps qs : List RTerm) (w : World) (L : Nat) (hp : Terms S w vp ps) (hq : Terms S w vq qs) (hS : ∀ k, S k → k < w.heap.size) (hmp : mayT ps = true) (hmq : mayT qs = true)
    (hrp : ∀ t ∈ ps, t.c.mag.length ≤ L) (hrq : ∀ t ∈ qs, t.c.mag.length ≤ L) (hL : L ≤ 1000000000) (hc : (∀ t ∈ ps, lenI (valI t.c) < 24) ∨ (∀ t ∈ qs, lenI (valI t.c) < 24)) (hn : ps.length * qs.length ≤ 1000000000000) :
    Calls Tryz.prog 27 #[vp, vq] w (TimesPost w (timesP (toP ps) (toP qs))) := by
  have hnot : ∀ (x : Bool) (w : World), (Op.unary .not (.bool x)).run Tryz.prog w = .ok (.bool (!x)) w := fun _ _ => rfl
  have HP := hid hp
  have HQ := hid hq
  have HMP := hid (fun (k : Nat) (t : RTerm) (ht : ps[k]? = some t) => mayT_at hmp ht)
  have HMQ := hid (fun (k : Nat) (t : RTerm) (ht : qs[k]? = some t) => mayT_at hmq ht)
  have HRP := hid hrp
  have HRQ := hid hrq
  have HCC := hid hc
  have HNM := hid hn
  have hpl := hp.len_le
  have hql := hq.len_le
  have CA := poly_all (S := fun k => S k ∨ k = w.heap.size) _ [ps, qs] (w.alloc (.cells #[vp, vq] 23)) (two_polys hp hq hS 23) (two_lt hS _) (fun p hp => by
    rcases List.mem_cons.1 hp with rfl | hp
    · exact fun t ht => Nat.le_trans (hrp t ht) (by omega)
    · rw [List.mem_singleton.1 hp]; exact fun t ht => Nat.le_trans (hrq t ht) (by omega))
  rw [show [ps, qs].all mayT = true by simp [hmp, hmq]] at CA
  obtain ⟨ap, cp, rfl⟩ := hp.form
  obtain ⟨aq, cq, rfl⟩ := hq.form
  obtain ⟨n, hnn⟩ : ∃ n, n = ps.length := ⟨_, rfl⟩
  obtain ⟨m, hmm⟩ : ∃ n, n = qs.length := ⟨_, rfl⟩
  rw [← hnn] at HP CA hpl HNM ⊢
  rw [← hmm] at HQ CA hql HNM ⊢
  have HN := hid hnn
  have HM := hid hmm
  have HCA := hid CA
  have HS := hid hS
  clear hp hq hmp hmq hrp hrq hc hn hnn hmm CA hS
  go_enter Tryz.func27, Tryz.ntmps27
  go_wp2_with fail
  with_reducible refine HCA.out.mono ?_
  rintro e w1 ⟨rfl, hx1⟩
  have HX1 := hid ((Ext.alloc (Ext.refl w) _).trans hx1)
  have HP1 := hid (HP.out.onS HX1.out HS.out)
  have HQ1 := hid (HQ.out.onS HX1.out HS.out)
  have HS1 := hid (lt_ext HS.out HX1.out)
  clear hx1
  go_wp2
  go_loopw [6, 20] (fun o i wr => ∃ (k : Nat) (xs : PZ) (cs : List Value), k ≤ n ∧ i = .int .i64 k ∧ Ext w1 wr ∧ Hid (firstN (toP ps) (toP qs) (k * m) xs) ∧ Hid (xs.length = k * m) ∧ Hid (wr.ownsRow w1.heap.size 104 3 o xs.length cs) ∧ Hid (CellsT (NewOff w1 wr o) wr cs (ofP xs))) (fun _ i _ => n - (intOf i).toNat)
  case atStart => exact ⟨0, [], [], Nat.zero_le _, rfl, Ext.refl _, hid (by rw [Nat.zero_mul]; exact firstN_zero _ _), hid (by rw [Nat.zero_mul]; rfl), World.ownsRow_nil _ _ _ _, rfl⟩
  case round =>
    obtain ⟨k, xs, cs, hk, rfl, hx, HF, HXL, HW, HY⟩ := hrel
    have HX := hid hx
    by_cases hlt : k < n
    · obtain ⟨t, ht⟩ := some_of_lt (l := ps) (j := k) (by rw [← HN.out]; exact hlt)
      obtain ⟨b, off, vd, vo, rfl, -, hn1, hm1, hSb, h1, h2, h3, h4, h5⟩ := HP1.out.cellAt ht
      have h1 := hx.cell h1
      have h2 := hx.cell h2
      have h3 := hx.cell h3
      have HT := hid ht
      have H4 := hid h4
      have H5 := hid h5
      obtain ⟨ad, cd, rfl⟩ := h4.form
      obtain ⟨ao, co, rfl⟩ := h5.form
      obtain ⟨ng, hng⟩ : ∃ b, b = t.c.neg := ⟨_, rfl⟩
      obtain ⟨nd, hnd⟩ : ∃ b, b = t.c.mag.length := ⟨_, rfl⟩
      obtain ⟨nm, hnm⟩ : ∃ b, b = t.m.length := ⟨_, rfl⟩
      have HNG := hid hng
      rw [← hnd] at H4
      rw [← hnm] at H5
      rw [← hng] at h1
      rw [← hnd] at h2
      rw [← hnm] at h3
      have HXA := hid (Ext.alloc (Ext.refl wr) (.cells #[.bool ng, .slice ad nd cd, .slice ao nm co] 104))
      clear ht h4 h5 hx hng hnd hnm
      go_wp2
      obtain ⟨wo, rfl⟩ : ∃ wo : World, wo = wr := ⟨_, rfl⟩
      go_loopw [6, 26] (fun o i wr => ∃ (j : Nat) (xs : PZ) (cs : List Value), j ≤ m ∧ i = .int .i64 j ∧ Ext w1 wr ∧ Hid (wo.heap.size < wr.heap.size) ∧ Hid (wr.cell? ⟨wo.heap.size, 0, none⟩ = some (.bool ng) ∧ wr.cell? ⟨wo.heap.size, 1, none⟩ = some (.slice ad nd cd) ∧ wr.cell? ⟨wo.heap.size, 2, none⟩ = some (.slice ao nm co)) ∧ Hid (some wo.heap.size ≠ o.ownBlock) ∧
        Hid (firstN (toP ps) (toP qs) (k * m + j) xs) ∧ Hid (xs.length = k * m + j) ∧ Hid (wr.ownsRow w1.heap.size 104 3 o xs.length cs) ∧ Hid (CellsT (NewOff w1 wr o) wr cs (ofP xs))) (fun _ i _ => m - (intOf i).toNat)
      case atStart => exact ⟨0, xs, cs, Nat.zero_le _, rfl, HX.out.trans HXA.out, hid (by rw [size_alloc]; exact Nat.lt_succ_self _), hid ⟨cell_new _ _ _ rfl rfl, cell_new _ _ _ rfl rfl, cell_new _ _ _ rfl rfl⟩, hid (fun e => by have := (HW.out.lt _ e.symm).2; omega), HF, HXL, own_ext HW.out HXA.out, newOff_ext HY.out HXA.out⟩
      case round =>
        clear HF HXL HW HY
        obtain ⟨j, xs, cs, hj, rfl, hx, HGS, HKC, HNB, HF, HXL, HW, HY⟩ := hrel
        have HXW := hid hx
        by_cases hlt2 : j < m
        · obtain ⟨u, hu⟩ := some_of_lt (l := qs) (j := j) (by rw [← HM.out]; exact hlt2)
          obtain ⟨b2, off2, ve, vp2, rfl, -, hn2, hm2, hSb2, g1, g2, g3, g4, g5⟩ := (HQ1.out.onS HXW.out HS1.out).cellAt hu
          have HU := hid hu
          have HAT := hid (prodL_get (toP_at' HT.out) (toP_at' hu))
          rw [show (toP qs).length = m by rw [toP_length, HM.out]] at HAT
          have hmt := HMP.out k t HT.out
          have hmu := HMQ.out j u hu
          obtain ⟨k0, k1, k2⟩ := HKC.out
          obtain ⟨ae, ce, rfl⟩ := g4.form
          obtain ⟨aq2, cq2, rfl⟩ := g5.form
          obtain ⟨mg, hmg⟩ : ∃ b, b = u.c.neg := ⟨_, rfl⟩
          obtain ⟨ne, hne⟩ : ∃ b, b = u.c.mag.length := ⟨_, rfl⟩
          obtain ⟨nq, hnq⟩ : ∃ b, b = u.m.length := ⟨_, rfl⟩
          have HMG := hid hmg
          have G4 := hid g4
          have G5 := hid g5
          rw [← hne] at G4
          rw [← hnq] at G5
          rw [← hmg] at g1
          rw [← hne] at g2
          rw [← hnq] at g3
          have HXB := hid (Ext.alloc (Ext.refl wr) (.cells #[.bool mg, .slice ae ne ce, .slice aq2 nq cq2] 104))
          have k3 := HXB.out.cell k0
          have k4 := HXB.out.cell k1
          have k5 := HXB.out.cell k2
          have hS2 := lt_ext HS1.out HXW.out
          have HCT := hid (mono_times (S := S) (.slice ao nm co) (.slice aq2 nq cq2) t.m u.m _ (H5.out.ext (hx.trans HXB.out) HS1.out) (G5.out.ext HXB.out hS2) (lt_ext hS2 HXB.out))
          have HCM := hid (fun (W : World) (hW : Ext wr W) => whole_mul (S := S) (.agg #[.bool ng, .slice ad nd cd]) (.agg #[.bool mg, .slice ae ne ce]) t.c u.c W ⟨_, by rw [HNG.out], H4.out.ext (hx.trans hW) HS1.out⟩ ⟨_, by rw [HMG.out], G4.out.ext hW hS2⟩ (lt_ext hS2 hW) (Nat.le_trans (HRP.out t (List.mem_of_getElem? HT.out)) (by omega)) (Nat.le_trans (HRQ.out u (List.mem_of_getElem? hu)) (by omega))
            (HCC.out.imp (fun h => h t (List.mem_of_getElem? HT.out)) (fun h => h u (List.mem_of_getElem? hu))))
          have hkm : k * m + j < n * m := by
            have : (k + 1) * m ≤ n * m := Nat.mul_le_mul_right _ (by omega)
            rw [Nat.add_mul] at this
            omega
          have HKB : Hid (xs.length ≤ 1000000000000) := hid (by have h1 := HNM.out; have h2 := HXL.out; omega)
          cases hmx : mayM (timesM t.m u.m) with
          | false =>
            have he : errTimes t.m u.m = 8 := by unfold errTimes; rw [hmt, hmu, hmx]; rfl
            have HNO := hid (firstN_none HF.out (HAT.out.trans (congrArg some (pair_no hmt hmu hmx))))
            rw [he] at HCT
            clear he hmx hmt hmu hx hu g4 g5 hmg hne hnq k0 k1 k2 hkm hS2
            go_wp2_with fail
            with_reducible refine HCT.out.mono ?_
            rintro e w2 ⟨v2, rfl, hp2, hx2⟩
            have HX2 := hid (HX1.out.trans (HXW.out.trans (HXB.out.trans hx2)))
            clear hp2 hx2
            go_wp2
            all_goals
              go_ret2
              rw [HNO.out]
              exact ⟨rfl, HX2.out⟩
          | true =>
            have he : errTimes t.m u.m = 0 := by unfold errTimes; rw [hmt, hmu, hmx]; rfl
            have hv : valTimes t.m u.m = timesM t.m u.m := by unfold valTimes; rw [hmt, hmu, hmx]; rfl
            have HYES := hid (firstN_next HF.out (HAT.out.trans (congrArg some (pair_yes hmt hmu hmx))))
            rw [he, hv] at HCT
            clear he hv hmx hmt hmu hx hu g4 g5 hmg hne hnq k0 k1 k2 hkm hS2
            go_wp2_with fail
            with_reducible refine HCT.out.mono ?_
            rintro e w2 ⟨v2, rfl, hp2, hx2⟩
            have HX2 := hid (HXB.out.trans hx2)
            have l0 := hx2.cell k3
            have l1 := hx2.cell k4
            have r0 := hx2.new_cell (i := 0) rfl
            have r1 := hx2.new_cell (i := 1) rfl
            have HP2 := hid (hp2.to (S' := New wr w2) (Kept.refl _ _) (fun k h => ⟨Nat.le_trans HXB.out.size h.1, h.2⟩))
            obtain ⟨a2, c2, rfl⟩ := hp2.form
            obtain ⟨n2, hn2'⟩ : ∃ b, b = (timesM t.m u.m).length := ⟨_, rfl⟩
            rw [← hn2'] at HP2 ⊢
            have HCM2 := hid (HCM.out w2 (HXB.out.trans hx2))
            clear hp2 hx2 hn2' k3 k4 k5
            go_wp2_with fail
            with_reducible refine HCM2.out.mono ?_
            rintro e w3 ⟨v3, rfl, ⟨vm3, rfl, hu3⟩, hx3⟩
            have HX3 := hid (HX2.out.trans hx3)
            have HXW3 := hid (HXW.out.trans (HX2.out.trans hx3))
            have HW3 := hid (own_ext HW.out HX3.out)
            obtain ⟨b3, hb3⟩ : ∃ b, b = (ofI (valI t.c * valI u.c)).neg := ⟨_, rfl⟩
            have hone : CellsT (New wr w3) w3 [.bool (ofI (valI t.c * valI u.c)).neg, vm3, .slice a2 n2 c2] [⟨ofI (valI t.c * valI u.c), timesM t.m u.m⟩] :=
              CellsT.single (t := ⟨ofI (valI t.c * valI u.c), timesM t.m u.m⟩) (hu3.to (Kept.refl _ _) (fun k h => ⟨Nat.le_trans HX2.out.size h.1, h.2⟩)) (HP2.out.to (Kept.ext hx3 (fun _ h => h.2)) (fun k h => ⟨h.1, Nat.lt_of_lt_of_le h.2 hx3.size⟩))
            have HY3 := hid ((newOff_ext HY.out HX3.out).append (newOff_of HXW.out.size HW.out hone))
            rw [← ofP_snoc xs (valI t.c * valI u.c, timesM t.m u.m)] at HY3
            obtain ⟨a3, c3, rfl⟩ := hu3.form
            obtain ⟨n3, hn3⟩ : ∃ b, b = (ofI (valI t.c * valI u.c)).mag.length := ⟨_, rfl⟩
            rw [← hb3, ← hn3] at HY3 ⊢
            clear hone hu3 hx3 hb3 hn3 l0 l1 r0 r1
            go_wp2_with (at_builtin; refine wpList_append_far _ rfl (.tmp 41) (.tmp 49) 22 rfl w1.heap.size 104 (.agg #[.bool false, .slice none 0 0, .slice none 0 0]) 3 56 Tryz.underlying22 Tryz.infoTerm rfl (by decide) _ xs.length cs rfl HW3.out #[.bool b3, .slice a3 n3 c3, .slice a2 n2 c2] rfl (three_cell rfl rfl rfl) rfl HKB.out (by decide) HXW3.out.size ?_; intro v5 w5 hown hg hbk; have HW5 := hid hown; have HG5 := hid hg; have HBK := hid hbk; clear hown hg hbk)
            go_roundw
            case rel =>
              refine ⟨j + 1, xs ++ [(valI t.c * valI u.c, timesM t.m u.m)], cs ++ (#[.bool b3, .slice a3 n3 c3, .slice a2 n2 c2] : Array Value).toList, by omega, by go_num, own_grown0 HXW3.out HW3.out HG5.out, hid (Nat.lt_of_lt_of_le HGS.out (Nat.le_trans HX3.out.size HG5.out.size)), hid ⟨grown_cell HG5.out (HX3.out.cell HKC.out.1) HNB.out, grown_cell HG5.out (HX3.out.cell HKC.out.2.1) HNB.out, grown_cell HG5.out (HX3.out.cell HKC.out.2.2) HNB.out⟩, hid (fun e => by rcases HBK.out with h | h; exact HNB.out (e.trans h); exact absurd (Option.some.inj (e.trans h)) (by have := HGS.out; have := HX3.out.size; omega)), HYES, ?_, ?_, newOff_grown HY3.out HG5.out HBK.out (Nat.le_succ _)⟩
              · show _ = _; rw [List.length_append, HXL.out]; rfl
              · show World.ownsRow _ _ _ _ _ _ _; rw [List.length_append]; exact HW5.out
            case measure => simp only [intOf]; omega
        · obtain rfl : m = j := by omega
          clear hx
          go_wp2
          go_roundw
          case rel =>
            have e : (k + 1) * m = k * m + m := by rw [Nat.add_mul, Nat.one_mul]
            exact ⟨k + 1, xs, cs, by omega, by go_num, HXW.out, by rw [e]; exact HF, by rw [e]; exact HXL, HW, HY⟩
          case measure => simp only [intOf]; omega
    · obtain rfl : n = k := by omega
      have hall := firstN_all HF.out (by rw [toP_length, toP_length, ← HN.out, ← HM.out])
      have HALL := hid hall
      have ho := own_terms (S := Old wr) (p := ofP xs) (by rw [ofP_length]; exact HW.out) (HY.out.to (Kept.refl _ _) (fun _ h => h.1.2)) (fun k h1 h2 => h2)
      have HCO := hid (poly_collect u6 (ofP xs) wr (L + L) ho (fun _ h => h) (fun t ht => by
        obtain ⟨x, hx, rfl⟩ := List.mem_map.1 ht
        exact (firstN_mem HF.out hx).1) (fun t ht => by
        obtain ⟨x, hx, rfl⟩ := List.mem_map.1 ht
        obtain ⟨-, a, ha, b, hb, e⟩ := firstN_mem HF.out hx
        obtain ⟨a', ha', rfl⟩ := List.mem_map.1 ha
        obtain ⟨b', hb', rfl⟩ := List.mem_map.1 hb
        show (ofI x.1).mag.length ≤ _
        rw [ofI_len, e]
        exact lenI_prod (Nat.le_trans (valI_len (HP.out.okT a' ha')) (HRP.out a' ha')) (Nat.le_trans (valI_len (HQ.out.okT b' hb')) (HRQ.out b' hb'))) (by omega) (by rw [ofP_length, HXL.out]; have := HNM.out; omega))
      rw [toP_ofP] at HCO
      clear hx hall ho
      go_wp2_with fail
      with_reducible refine HCO.out.mono ?_
      rintro e w2 ⟨v2, rfl, hp2, hx2⟩
      have HP2 := hid (hp2.to (S' := New w w2) (Kept.refl _ _) (fun k h => ⟨Nat.le_trans (HX1.out.trans HX.out).size h.1, h.2⟩))
      have HX2 := hid ((HX1.out.trans HX.out).trans hx2)
      clear hp2 hx2
      go_wp2
      all_goals
        go_ret2
        rw [HALL.out]
        exact ⟨_, rfl, HP2.out, HX2.out⟩
end Go.Proofs.YtcpfeepnfodifaaGreat

namespace Go.Proofs.YtcpfeepnfodifaaGreat

/-! Monomials without a greatest exponent -/
def okTail (last : Int) : Mono → Bool
  | [] => true
  | x :: r => decide (last < x.1 ∧ x.1 ≤ 200 ∧ 1 ≤ x.2) && okTail x.1 r
def okM (m : Mono) : Bool := okTail 0 m
theorem may_okTail {l : Int} {m : Mono} (h : mayTail l m = true) : okTail l m = true := by
  induction m generalizing l with
  | nil => rfl
  | cons x r ih =>
    simp only [mayTail, okTail, Bool.and_eq_true, decide_eq_true_eq] at h ⊢
    exact ⟨by omega, ih h.2⟩
theorem may_ok {m : Mono} (h : mayM m = true) : okM m = true := may_okTail h
theorem ok_may {l : Int} {m : Mono} (h : okTail l m = true) (he : ∀ u, ex m u ≤ 10000) : mayTail l m = true := by
  induction m generalizing l with
  | nil => rfl
  | cons x r ih =>
    simp only [mayTail, okTail, Bool.and_eq_true, decide_eq_true_eq] at h ⊢
    have h0 : ∀ u, u ≤ x.1 → ex r u = 0 := by
      have : ∀ (r : Mono) (k : Int), okTail k r = true → ∀ u, u ≤ k → ex r u = 0 := by
        intro r
        induction r with
        | nil => intro k _ u _; rfl
        | cons y s ih =>
          intro k hk u hu
          simp only [okTail, Bool.and_eq_true, decide_eq_true_eq] at hk
          rw [ex, if_neg (by omega)]
          exact ih _ hk.2 u (by omega)
      exact fun u hu => this r x.1 h.2 u hu
    have h1 := he x.1
    rw [ex, if_pos rfl] at h1
    refine ⟨by omega, ih h.2 (fun u => ?_)⟩
    by_cases hu : x.1 = u
    · rw [h0 u (by omega)]; omega
    · have := he u
      rwa [ex, if_neg hu] at this
theorem ok_low {l : Int} {m : Mono} (h : okTail l m = true) {u : Int} (hu : u ≤ l) : ex m u = 0 := by
  induction m generalizing l with
  | nil => rfl
  | cons y s ih =>
    simp only [okTail, Bool.and_eq_true, decide_eq_true_eq] at h
    rw [ex, if_neg (by omega)]
    exact ih h.2 (by omega)
theorem ok_nonneg {l : Int} {m : Mono} (h : okTail l m = true) (u : Int) : 0 ≤ ex m u := by
  induction m generalizing l with
  | nil => simp [ex]
  | cons y s ih =>
    simp only [okTail, Bool.and_eq_true, decide_eq_true_eq] at h
    rw [ex]
    split
    · omega
    · exact ih h.2
theorem ok_ext {l : Int} {a b : Mono} (ha : okTail l a = true) (hb : okTail l b = true) (h : ∀ v, ex a v = ex b v) : a = b := by
  induction a generalizing b l with
  | nil =>
    cases b with
    | nil => rfl
    | cons y b =>
      have := h y.1
      simp only [okTail, Bool.and_eq_true, decide_eq_true_eq] at hb
      simp [ex] at this
      omega
  | cons x a ih =>
    cases b with
    | nil =>
      have := h x.1
      simp only [okTail, Bool.and_eq_true, decide_eq_true_eq] at ha
      simp [ex] at this
      omega
    | cons y b =>
      simp only [okTail, Bool.and_eq_true, decide_eq_true_eq] at ha hb
      have h1 := h x.1
      have h2 := h y.1
      have e : x.1 = y.1 := by
        rcases Int.lt_trichotomy x.1 y.1 with g | g | g
        · rw [ex, if_pos rfl, ex, if_neg (by omega), ok_low hb.2 (by omega)] at h1
          omega
        · exact g
        · rw [ex, if_neg (by omega), ok_low ha.2 (by omega), ex, if_pos rfl] at h2
          omega
      have e2 : x.2 = y.2 := by
        rw [ex, if_pos rfl, ex, if_pos e.symm] at h1
        exact h1
      have : x = y := Prod.ext e e2
      subst this
      congr 1
      refine ih ha.2 hb.2 (fun v => ?_)
      have := h v
      rw [ex, ex] at this
      split at this
      · rename_i hv
        rw [ok_low ha.2 (by omega), ok_low hb.2 (by omega)]
      · exact this
theorem both_lko {last : Int} {a b : Mono} (ha : okTail last a = true) (hb : okTail last b = true) : ris last (both a b) ∧ (∀ u, lk (both a b) u = (ex a u, ex b u)) ∧ ∀ t ∈ both a b, 1 ≤ t.2.1 + t.2.2 := by
  generalize hn : a.length + b.length = n
  induction n using Nat.strongRecOn generalizing a b last with
  | ind n ih =>
  cases a with
  | nil =>
    cases b with
    | nil => rw [both_nil]; exact ⟨trivial, fun u => rfl, fun t ht => by simp at ht⟩
    | cons y b =>
      simp only [okTail, Bool.and_eq_true, decide_eq_true_eq] at hb
      simp only [List.length_cons, List.length_nil] at hn
      obtain ⟨h1, h2, h3⟩ := ih (0 + b.length) (by omega) (a := []) (b := b) (last := y.1) rfl hb.2 (by simp)
      rw [both_right]
      refine ⟨⟨hb.1.1, hb.1.2.1, h1⟩, fun u => ?_, fun t ht => ?_⟩
      · rw [lk, h2, ex]
        simp only [ex]
        split <;> rfl
      · rcases List.mem_cons.1 ht with rfl | ht
        · simp only; omega
        · exact h3 t ht
  | cons x a =>
    cases b with
    | nil =>
      simp only [okTail, Bool.and_eq_true, decide_eq_true_eq] at ha
      simp only [List.length_cons, List.length_nil] at hn
      obtain ⟨h1, h2, h3⟩ := ih (a.length + 0) (by omega) (a := a) (b := []) (last := x.1) ha.2 rfl (by simp)
      rw [both_left]
      refine ⟨⟨ha.1.1, ha.1.2.1, h1⟩, fun u => ?_, fun t ht => ?_⟩
      · rw [lk, h2]
        simp only [ex]
        split <;> rfl
      · rcases List.mem_cons.1 ht with rfl | ht
        · simp only; omega
        · exact h3 t ht
    | cons y b =>
      have hA := ha
      have hB := hb
      simp only [okTail, Bool.and_eq_true, decide_eq_true_eq] at ha hb
      simp only [List.length_cons] at hn
      rw [both_cons]
      split
      · rename_i hlt
        have hb' : okTail x.1 (y :: b) = true := by simp only [okTail, Bool.and_eq_true, decide_eq_true_eq]; exact ⟨⟨hlt, hb.1.2⟩, hb.2⟩
        obtain ⟨h1, h2, h3⟩ := ih (a.length + (b.length + 1)) (by omega) (a := a) (b := y :: b) (last := x.1) ha.2 hb' (by simp)
        refine ⟨⟨ha.1.1, ha.1.2.1, h1⟩, fun u => ?_, fun t ht => ?_⟩
        · rw [lk, h2]
          by_cases hu : x.1 = u
          · rw [if_pos hu, ← hu, ok_low hb' (Int.le_refl _), ex, if_pos rfl]
          · rw [if_neg hu]; conv => rhs; rw [ex, if_neg hu]
        · rcases List.mem_cons.1 ht with rfl | ht
          · simp only; omega
          · exact h3 t ht
      · split
        · rename_i hnlt hlt
          have ha' : okTail y.1 (x :: a) = true := by simp only [okTail, Bool.and_eq_true, decide_eq_true_eq]; exact ⟨⟨hlt, ha.1.2⟩, ha.2⟩
          obtain ⟨h1, h2, h3⟩ := ih (a.length + 1 + b.length) (by omega) (a := x :: a) (b := b) (last := y.1) ha' hb.2 (by simp)
          refine ⟨⟨hb.1.1, hb.1.2.1, h1⟩, fun u => ?_, fun t ht => ?_⟩
          · rw [lk, h2]
            by_cases hu : y.1 = u
            · rw [if_pos hu, ← hu, ok_low ha' (Int.le_refl _), ex, if_pos rfl]
            · rw [if_neg hu, show ex (y :: b) u = ex b u by rw [ex, if_neg hu]]
          · rcases List.mem_cons.1 ht with rfl | ht
            · simp only; omega
            · exact h3 t ht
        · rename_i h3 h4
          have hxy : x.1 = y.1 := by omega
          rw [← hxy] at hb
          obtain ⟨h1, h2, h5⟩ := ih (a.length + b.length) (by omega) (a := a) (b := b) (last := x.1) ha.2 hb.2 (by simp)
          refine ⟨⟨ha.1.1, ha.1.2.1, h1⟩, fun u => ?_, fun t ht => ?_⟩
          · rw [lk, h2]
            by_cases hu : x.1 = u
            · rw [if_pos hu, ex, if_pos hu, ex, if_pos (by omega)]
            · rw [if_neg hu, show ex (y :: b) u = ex b u by rw [ex, if_neg (by omega)], show ex (x :: a) u = ex a u by rw [ex, if_neg hu]]
          · rcases List.mem_cons.1 ht with rfl | ht
            · simp only; omega
            · exact h5 t ht
theorem times_ex' {a b : Mono} (ha : okM a = true) (hb : okM b = true) (u : Int) : ex (timesM a b) u = ex a u + ex b u := by
  obtain ⟨h1, h2, -⟩ := both_lko ha hb
  unfold timesM
  rw [madeM_ex (by simp) h1, h2]
  have h3 := ok_nonneg ha u
  have h4 := ok_nonneg hb u
  simp only
  split <;> omega
theorem made_ok {last : Int} {l : List (Int × Int × Int)} (h : ris last l) : okTail last (madeM (· + ·) l) = true := by
  have weak : ∀ {l k : Int} {m : Mono}, okTail l m = true → k ≤ l → okTail k m = true := by
    intro l k m h hk
    cases m with
    | nil => rfl
    | cons x r =>
      simp only [okTail, Bool.and_eq_true, decide_eq_true_eq] at h ⊢
      exact ⟨by omega, h.2⟩
  induction l generalizing last with
  | nil => rfl
  | cons t r ih =>
    obtain ⟨h1, h2, h3⟩ := h
    have hr := ih h3
    rw [madeM]
    split
    · rename_i h4
      simp only [okTail, Bool.and_eq_true, decide_eq_true_eq]
      exact ⟨by omega, hr⟩
    · exact weak hr (by omega)
theorem times_ok {a b : Mono} (ha : okM a = true) (hb : okM b = true) : okM (timesM a b) = true := made_ok (both_lko ha hb).1
theorem times_comm {a b : Mono} (ha : okM a = true) (hb : okM b = true) : timesM a b = timesM b a :=
  ok_ext (times_ok ha hb) (times_ok hb ha) (fun v => by rw [times_ex' ha hb, times_ex' hb ha]; omega)
theorem times_assoc {a b c : Mono} (ha : okM a = true) (hb : okM b = true) (hc : okM c = true) : timesM (timesM a b) c = timesM a (timesM b c) :=
  ok_ext (times_ok (times_ok ha hb) hc) (times_ok ha (times_ok hb hc)) (fun v => by
    rw [times_ex' (times_ok ha hb) hc, times_ex' ha hb, times_ex' ha (times_ok hb hc), times_ex' hb hc]; omega)
theorem times_one_left {a : Mono} (ha : okM a = true) : timesM [] a = a := ok_ext (times_ok rfl ha) ha (fun v => by rw [times_ex' rfl ha]; simp [ex])
theorem times_one_right {a : Mono} (ha : okM a = true) : timesM a [] = a := ok_ext (times_ok ha rfl) ha (fun v => by rw [times_ex' ha rfl]; simp [ex])
theorem may_of_le {a b : Mono} (ha : okM a = true) (hb : mayM b = true) (h : ∀ u, ex a u ≤ ex b u) : mayM a = true := ok_may ha (fun u => Int.le_trans (h u) (ex_range hb u).2)

/-! Linear functionals -/
def okAll (p : PZ) : Prop := ∀ t ∈ p, okM t.2 = true
theorem may_okAll {p : PZ} (h : mayAll p) : okAll p := fun t ht => may_ok (h t ht)
def ev (f : Mono → Int) : PZ → Int
  | [] => 0
  | t :: r => t.1 * f t.2 + ev f r
theorem ev_nil (f : Mono → Int) : ev f [] = 0 := rfl
theorem ev_append (f : Mono → Int) (p q : PZ) : ev f (p ++ q) = ev f p + ev f q := by
  induction p with
  | nil => simp [ev]
  | cons t r ih => simp only [List.cons_append, ev, ih]; omega
theorem ev_congr {f g : Mono → Int} {p : PZ} (h : ∀ t ∈ p, f t.2 = g t.2) : ev f p = ev g p := by
  induction p with
  | nil => rfl
  | cons t r ih => simp only [ev]; rw [h t (by simp), ih (fun u hu => h u (by simp [hu]))]
theorem ev_add (f g : Mono → Int) (p : PZ) : ev (fun m => f m + g m) p = ev f p + ev g p := by
  induction p with
  | nil => rfl
  | cons t r ih => simp only [ev, ih, Int.mul_add]; omega
theorem ev_smul (c : Int) (f : Mono → Int) (p : PZ) : ev (fun m => c * f m) p = c * ev f p := by
  induction p with
  | nil => simp [ev]
  | cons t r ih => simp only [ev, ih, Int.mul_add, Int.mul_left_comm]
theorem ev_zero {f : Mono → Int} {p : PZ} (h : ∀ t ∈ p, f t.2 = 0) : ev f p = 0 := by
  induction p with
  | nil => rfl
  | cons t r ih => simp only [ev]; rw [h t (by simp), ih (fun u hu => h u (by simp [hu]))]; simp
theorem ev_swap (F : Mono → Mono → Int) (p q : PZ) : ev (fun a => ev (fun b => F a b) q) p = ev (fun b => ev (fun a => F a b) p) q := by
  induction p with
  | nil =>
    simp only [ev]
    exact (ev_zero (fun _ _ => rfl)).symm
  | cons t r ih =>
    simp only [ev]
    rw [ih, ← ev_smul, ← ev_add]
/-- term by term -/
theorem ev_map (f : Mono → Int) (g : Int × Mono → Int × Mono) (c : Mono → Int) (k : Mono → Mono) (h : ∀ t, g t = (t.1 * c t.2, k t.2)) (p : PZ) : ev f (p.map g) = ev (fun m => c m * f (k m)) p := by
  induction p with
  | nil => rfl
  | cons t r ih => simp only [List.map_cons, ev, ih, h, Int.mul_assoc]
theorem ev_filterMap (f : Mono → Int) (g : Int × Mono → Option (Int × Mono)) (s : Mono → Bool) (c : Mono → Int) (k : Mono → Mono) (h : ∀ t, g t = if s t.2 then some (t.1 * c t.2, k t.2) else none) (p : PZ) : ev f (p.filterMap g) = ev (fun m => if s m then c m * f (k m) else 0) p := by
  induction p with
  | nil => rfl
  | cons t r ih =>
    rw [List.filterMap_cons, h]
    cases hs : s t.2 with
    | true => simp only [if_true, ev, ih, hs, Int.mul_assoc]
    | false => simp only [Bool.false_eq_true, if_false, ev, ih, hs, Int.mul_zero, Int.zero_add]

/-- the functional of a monomial -/
def dl (m : Mono) : Mono → Int := fun x => if x = m then 1 else 0
theorem ev_dl (m : Mono) (p : PZ) : ev (dl m) p = cf p m := by
  induction p with
  | nil => rfl
  | cons t r ih =>
    simp only [ev, cf, ih, dl]
    split <;> simp
/-- lists that no functional tells apart -/
def Eqv (p q : PZ) : Prop := ∀ f, ev f p = ev f q
theorem Eqv.refl (p : PZ) : Eqv p p := fun _ => rfl
theorem Eqv.symm {p q : PZ} (h : Eqv p q) : Eqv q p := fun f => (h f).symm
theorem Eqv.trans {p q r : PZ} (h : Eqv p q) (k : Eqv q r) : Eqv p r := fun f => (h f).trans (k f)
theorem Eqv.cf {p q : PZ} (h : Eqv p q) (m : Mono) : cf p m = cf q m := by rw [← ev_dl, ← ev_dl]; exact h _
theorem Eqv.append {p q p' q' : PZ} (h : Eqv p p') (k : Eqv q q') : Eqv (p ++ q) (p' ++ q') := fun f => by rw [ev_append, ev_append, h f, k f]
theorem cf_filter (p : PZ) (m x : Mono) : cf (p.filter fun t => decide (t.2 ≠ m)) x = if x = m then 0 else cf p x := by
  induction p with
  | nil => simp [cf]
  | cons t r ih =>
    by_cases h : t.2 = m
    · rw [List.filter_cons_of_neg (by simpa using h), ih]
      by_cases hx : x = m
      · rw [if_pos hx, if_pos hx]
      · rw [if_neg hx, if_neg hx, cf, if_neg (by rw [h]; exact fun e => hx e.symm)]
        omega
    · rw [List.filter_cons_of_pos (by simpa using h), cf, ih]
      by_cases hx : x = m
      · rw [if_pos hx, if_pos hx, if_neg (by rw [hx]; exact h)]
        rfl
      · rw [if_neg hx, if_neg hx, cf]
theorem ev_filter (f : Mono → Int) (p : PZ) (m : Mono) : ev f p = cf p m * f m + ev f (p.filter fun t => decide (t.2 ≠ m)) := by
  induction p with
  | nil => simp [ev, cf]
  | cons t r ih =>
    by_cases h : t.2 = m
    · rw [List.filter_cons_of_neg (by simpa using h), ev, cf, if_pos h, ih, h, Int.add_mul]
      omega
    · rw [List.filter_cons_of_pos (by simpa using h), ev, cf, if_neg h, ih, ev]
      simp only [Int.zero_add]
      omega
theorem ev_of_zero {p : PZ} (h : ∀ m, cf p m = 0) (f : Mono → Int) : ev f p = 0 := by
  generalize hn : p.length = n
  induction n using Nat.strongRecOn generalizing p with
  | ind n ih =>
  cases p with
  | nil => rfl
  | cons t r =>
    rw [ev_filter f (t :: r) t.2, h]
    have hl : ((t :: r).filter fun u => decide (u.2 ≠ t.2)).length < n := by
      rw [List.filter_cons_of_neg (by simp), ← hn]
      exact Nat.lt_succ_of_le (List.length_filter_le _ _)
    rw [ih _ hl (fun m => by
      rw [cf_filter]
      split
      · rfl
      · exact h m) rfl]
    simp
theorem ev_neg (f : Mono → Int) (p : PZ) : ev f (p.map fun t => (-t.1, t.2)) = - ev f p := by
  induction p with
  | nil => rfl
  | cons t r ih => simp only [List.map_cons, ev, ih, Int.neg_mul]; omega
theorem eqv_of_cf {p q : PZ} (h : ∀ m, cf p m = cf q m) : Eqv p q := fun f => by
  have h1 : ev f (p ++ q.map fun t => (-t.1, t.2)) = 0 := ev_of_zero (fun m => by
    rw [← ev_dl, ev_append, ev_neg, ev_dl, ev_dl, h]
    omega) f
  rw [ev_append, ev_neg] at h1
  omega
theorem can_eq {p q : PZ} (hp : canP p) (hq : canP q) (h : Eqv p q) : p = q := canP_ext hp hq (fun m _ => h.cf m)

/-! Products -/
def mulL (p q : PZ) : PZ := p.flatMap fun t => q.map fun u => (t.1 * u.1, timesM t.2 u.2)
theorem ev_mulL (f : Mono → Int) (p q : PZ) : ev f (mulL p q) = ev (fun a => ev (fun b => f (timesM a b)) q) p := by
  unfold mulL
  induction p with
  | nil => rfl
  | cons t r ih =>
    rw [List.flatMap_cons, ev_append, ih]
    simp only [ev]
    congr 1
    rw [← ev_smul]
    clear ih
    induction q with
    | nil => rfl
    | cons u s ih2 =>
      simp only [List.map_cons, ev, ih2]
      rw [Int.mul_assoc, Int.mul_left_comm]
theorem Eqv.mul {p q p' q' : PZ} (h : Eqv p p') (k : Eqv q q') : Eqv (mulL p q) (mulL p' q') := fun f => by
  rw [ev_mulL, ev_mulL, h]
  have : (fun a => ev (fun b => f (timesM a b)) q) = fun a => ev (fun b => f (timesM a b)) q' := funext fun a => k _
  rw [this]
theorem mulL_ok {p q : PZ} (hp : okAll p) (hq : okAll q) : okAll (mulL p q) := fun t ht => by
  obtain ⟨a, ha, h⟩ := List.mem_flatMap.1 ht
  obtain ⟨b, hb, rfl⟩ := List.mem_map.1 h
  exact times_ok (hp a ha) (hq b hb)
theorem mul_comm_eqv {p q : PZ} (hp : okAll p) (hq : okAll q) : Eqv (mulL p q) (mulL q p) := fun f => by
  rw [ev_mulL, ev_mulL, ev_swap]
  refine ev_congr (fun u hu => ev_congr (fun t ht => ?_))
  rw [times_comm (hp t ht) (hq u hu)]
theorem mul_assoc_eqv {p q r : PZ} (hp : okAll p) (hq : okAll q) (hr : okAll r) : Eqv (mulL (mulL p q) r) (mulL p (mulL q r)) := fun f => by
  rw [ev_mulL, ev_mulL, ev_mulL]
  refine ev_congr (fun t ht => ?_)
  rw [ev_mulL]
  refine ev_congr (fun u hu => ev_congr (fun s hs => ?_))
  rw [times_assoc (hp t ht) (hq u hu) (hr s hs)]
theorem mul_add_left (p q r : PZ) : mulL (p ++ q) r = mulL p r ++ mulL q r := by
  unfold mulL
  rw [List.flatMap_append]
theorem mul_add_right (p q r : PZ) : Eqv (mulL p (q ++ r)) (mulL p q ++ mulL p r) := fun f => by
  rw [ev_append, ev_mulL, ev_mulL, ev_mulL, ← ev_add]
  refine ev_congr (fun t _ => ?_)
  rw [ev_append]

/-! The canonical list of any -/
theorem norm_can {p : PZ} (h : mayAll p) : canP (normP p) := (addP_can canP_nil h).1
theorem norm_cf {p : PZ} (h : mayAll p) (m : Mono) : cf (normP p) m = cf p m := by
  have := (addP_can canP_nil h).2 m
  rw [show cf [] m = 0 from rfl, Int.zero_add] at this
  exact this
theorem norm_eqv {p : PZ} (h : mayAll p) : Eqv (normP p) p := eqv_of_cf (norm_cf h)
theorem norm_eq {p q : PZ} (hp : mayAll p) (hq : canP q) (h : Eqv p q) : normP p = q := can_eq (norm_can hp) hq ((norm_eqv hp).trans h)
theorem norm_congr {p q : PZ} (hp : mayAll p) (hq : mayAll q) (h : Eqv p q) : normP p = normP q := norm_eq hp (norm_can hq) (h.trans (norm_eqv hq).symm)

theorem flatMap_same {α β : Type} {f g : α → List β} {l : List α} (h : ∀ x ∈ l, f x = g x) : l.flatMap f = l.flatMap g := by
  induction l with
  | nil => rfl
  | cons x r ih => rw [List.flatMap_cons, List.flatMap_cons, h x (by simp), ih (fun y hy => h y (by simp [hy]))]
/-- the program's product is the list's -/
theorem prodL_some {p q : PZ} (hp : mayAll p) (hq : mayAll q) (h : mayAll (mulL p q)) : prodL p q = (mulL p q).map some := by
  unfold prodL mulL
  rw [List.map_flatMap]
  refine flatMap_same (fun t ht => ?_)
  rw [List.map_map]
  refine List.map_congr_left (fun u hu => ?_)
  exact pair_yes (hp t ht) (hq u hu) (h _ (List.mem_flatMap.2 ⟨t, ht, List.mem_map.2 ⟨u, hu, rfl⟩⟩))
theorem times_norm {p q : PZ} (hp : mayAll p) (hq : mayAll q) (h : mayAll (mulL p q)) : timesP p q = some (normP (mulL p q)) := by
  unfold timesP
  rw [prodL_some hp hq h, allO_some]
  rfl
theorem times_some {p q c : PZ} (hp : mayAll p) (hq : mayAll q) (h : timesP p q = some c) : mayAll (mulL p q) ∧ c = normP (mulL p q) := by
  have hm : mayAll (mulL p q) := fun x hx => by
    obtain ⟨t, ht, h2⟩ := List.mem_flatMap.1 hx
    obtain ⟨u, hu, rfl⟩ := List.mem_map.1 h2
    cases hm : mayM (timesM t.2 u.2) with
    | true => rfl
    | false =>
      exfalso
      have h3 : (none : Option (Int × Mono)) ∈ prodL p q := List.mem_flatMap.2 ⟨t, ht, List.mem_map.2 ⟨u, hu, pair_no (hp t ht) (hq u hu) hm⟩⟩
      obtain ⟨l, r, e⟩ := List.append_of_mem h3
      unfold timesP at h
      rw [e, allO_none] at h
      cases h
  refine ⟨hm, ?_⟩
  rw [times_norm hp hq hm] at h
  exact (Option.some.inj h).symm
end Go.Proofs.YtcpfeepnfodifaaGreat
