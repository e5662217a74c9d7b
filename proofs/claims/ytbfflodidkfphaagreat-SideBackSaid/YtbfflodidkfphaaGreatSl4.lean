/- The document: a polynomial as data. The document: a number, a variable, as polynomials. A document's small number, below 0 too. Slices of polynomials in memory. What the law knows. The document: the other sign, the difference. Coefficients, initial, tail and derivative of polynomials. Plain. What is made of two monomials, exponent by exponent; products of monomials. Plain. The document's product of monomials is the program's. Plain. The document: a monomial without a variable. append to a slice without room: a copy in memory of its own. Stable merges of two lists, and the stable sort of a list by merges. Plain. Terms that are summed by their monomials: what is collected is the canonical list. Plain. A monomial without a variable: a slice of the call's own. Ranks of initial, tail and derivative; derivatives by two variables. Plain. The product of two monomials: the program's answer. The product of two numbers, limb by limb. A small number's limbs; a number's own. The product of two whole numbers (one of them of fewer than 24 limbs); a number's own. A small number as a whole number. The document: classes, degrees and ranks of polynomials. Which polynomials are too great for the law. Polynomials as sums: linear functionals on lists of terms, products, and that a canonical list is told by them. Plain. Degrees, initials, classes and derivatives of products and sums. Plain. Lists that are the same so far. -/
import Derived.Test.YtbfflodidkfphaaGreatProg
import Derived.Lib.SmallJoins
import Derived.Test.YtbfflodidkfphaaGreatSl3
set_option maxRecDepth 100000
set_option maxHeartbeats 16000000
namespace Go.Proofs.YtbfflodidkfphaaGreat
section
open Go.RowKit
section
variable {P : Program}
theorem step_append_src {w : World} {ops : Array Oper} {o : Oper} {a : Act} {K : Act → World → Prop} {Q : Exit → Act → World → Prop} {E : Prop} (hgd : o.guard = none) (s x : Operand) (t : TypeId)
  (ho : o.op = .call { callee := .builtin .append, args := #[s, x], argTypes := #[t, t] })
  (base : Nat) (e : TypeId) (i : TypeInfo) (z : Value) (size bytes : Nat) (ht : P.underlying t = some (.slice e)) (hi : P.info? e = some i) (hz : i.zero = some z)
  (hsize : i.size = size) (hby : i.bytes = bytes) (hzs : z.cells.size = size) (hsz : 0 < size)
  (v : Value) (n : Nat) (xs : List Value) (hs : a.eval s = v) (hown : w.ownsRow base e size v n xs)
  (A : Option Addr) (m c : Nat) (news : List Value) (hx : a.eval x = .slice A m c) (hsrc : SrcAt w A m size news)
  (h63 : n + m ≤ maxLen) (hbytes : (n + m) * bytes ≤ 140737488355328) (hbase : base ≤ w.heap.size)
  (h : ∀ v' w', w'.ownsRow base e size v' (n + m) (xs ++ news) → w.grownBy w' v.ownBlock → (v'.ownBlock = v.ownBlock ∨ v'.ownBlock = some w.heap.size) → K (a.put o.dst v') w') :
  if Region.wanted o (yielded ops a.tmps) = true then Oper.wp P o a w K Q else E := by
 have hw : Region.wanted o (yielded ops a.tmps) = true := by simp [Region.wanted, hgd]
 rw [if_pos hw]
 obtain ⟨v', w', hrun, h2, h3, h4⟩ := run_append_src (P := P) w base t o.type e i z size bytes ht hi hz hsize hby hzs hsz v n xs hown A m c news hsrc h63 hbytes hbase
 unfold Oper.wp execOp
 simp only [ho, resolve, invoke, builtin, Sem.run_bind, Sem.run_pure, Result.andThen_ok, List.map_toArray, List.map_cons, List.map_nil, hs, hx, hrun]
 exact h v' w' h2 h3 h4
end
theorem Terms.nilv (S : Nat → Prop) (w : World) (a : Option Addr) (cap : Nat) (h : cap ≤ 9223372036854775807) : Terms S w (.slice a 0 cap) [] :=
 ⟨0, 0, ⟨a, cap, rfl, Nat.zero_le _, h, fun h => absurd h (Nat.lt_irrefl 0), fun h => absurd h (Nat.lt_irrefl 0)⟩, fun j t hj => by simp at hj⟩
def CellsT (S : Nat → Prop) (w : World) : List Value → List RTerm → Prop
 | xs, [] => xs = []
 | xs, t :: r => ∃ vd vo ys, xs = .bool t.c.neg :: vd :: vo :: ys ∧ U32s S w vd t.c.mag ∧ Pows S w vo t.m ∧ CellsT S w ys r
section
variable {S S' : Nat → Prop} {w w' : World}
theorem CellsT.append {xs ys : List Value} {p q : List RTerm} (h : CellsT S w xs p) (k : CellsT S w ys q) : CellsT S w (xs ++ ys) (p ++ q) := by
 induction p generalizing xs with
 | nil =>
  have e : xs = [] := h
  subst e
  exact k
 | cons t r ih =>
  obtain ⟨vd, vo, zs, rfl, h1, h2, h3⟩ := h
  exact ⟨vd, vo, zs ++ ys, rfl, h1, h2, ih h3⟩
theorem CellsT.to {xs : List Value} {p : List RTerm} (h : CellsT S w xs p) (hk : Kept S w w') (hS : ∀ k, S k → S' k) : CellsT S' w' xs p := by
 induction p generalizing xs with
 | nil => exact h
 | cons t r ih =>
  obtain ⟨vd, vo, zs, rfl, h1, h2, h3⟩ := h
  exact ⟨vd, vo, zs, rfl, h1.to hk hS, h2.to hk hS, ih h3⟩
theorem CellsT.length {xs : List Value} {p : List RTerm} (h : CellsT S w xs p) : xs.length = p.length * 3 := by
 induction p generalizing xs with
 | nil =>
  have e : xs = [] := h
  subst e
  rfl
 | cons t r ih =>
  obtain ⟨vd, vo, zs, rfl, h1, h2, h3⟩ := h
  simp only [List.length_cons, ih h3]
  omega
theorem CellsT.get {xs : List Value} {p : List RTerm} (h : CellsT S w xs p) {j : Nat} {t : RTerm} (ht : p[j]? = some t) :
  ∃ vd vo, xs[j * 3]? = some (.bool t.c.neg) ∧ xs[j * 3 + 1]? = some vd ∧ xs[j * 3 + 2]? = some vo ∧ U32s S w vd t.c.mag ∧ Pows S w vo t.m := by
 induction p generalizing xs j with
 | nil => simp at ht
 | cons u r ih =>
  obtain ⟨vd, vo, zs, rfl, h1, h2, h3⟩ := h
  cases j with
  | zero =>
   obtain rfl : u = t := by simpa using ht
   exact ⟨vd, vo, rfl, rfl, rfl, h1, h2⟩
  | succ j =>
   obtain ⟨vd', vo', g⟩ := ih h3 (j := j) (by simpa using ht)
   refine ⟨vd', vo', ?_⟩
   rw [show (j + 1) * 3 = j * 3 + 1 + 1 + 1 by omega]
   simpa using g
theorem CellsT.one {xs : List Value} {p : List RTerm} (h : CellsT S w xs p) : ∀ u ∈ xs, u.oneCell' = true := by
 induction p generalizing xs with
 | nil =>
  have e : xs = [] := h
  subst e
  intro u hu
  simp at hu
 | cons t r ih =>
  obtain ⟨vd, vo, zs, rfl, h1, h2, h3⟩ := h
  intro u hu
  simp only [List.mem_cons] at hu
  rcases hu with rfl | rfl | rfl | hu
  ·rfl
  ·obtain ⟨a, c, rfl⟩ := h1.form; rfl
  ·obtain ⟨a, c, rfl⟩ := h2.form; rfl
  ·exact ih h3 u hu
theorem CellsT.single {vd vo : Value} {t : RTerm} (h1 : U32s S w vd t.c.mag) (h2 : Pows S w vo t.m) : CellsT S w [.bool t.c.neg, vd, vo] [t] := ⟨vd, vo, [], rfl, h1, h2, rfl⟩
end
theorem own_terms {S : Nat → Prop} {w : World} {base : Nat} {e : TypeId} {v : Value} {xs : List Value} {p : List RTerm} (h : w.ownsRow base e 3 v p.length xs) (hc : CellsT S w xs p) (hB : ∀ k, base ≤ k → k < w.heap.size → S k) : Terms S w v p := by
 have hlt := h.lt
 rcases h.2 with ⟨rfl, h0⟩ | ⟨g, cap, cur, rfl, hg, hh, h1, h2, h3, h4⟩
 ·obtain rfl : p = [] := List.length_eq_zero_iff.1 h0
  exact Terms.nilv _ _ _ _ (by omega)
 ·refine ⟨g, 0, ⟨_, cap, rfl, h1, h2, fun _ => rfl, fun _ => hB g (hlt g rfl).1 (hlt g rfl).2⟩, fun j t hj => ?_⟩
  obtain ⟨vd, vo, g1, g2, g3, g4, g5⟩ := hc.get hj
  have hb := lt_of_some hj
  refine ⟨vd, vo, ?_, ?_, ?_, g4, g5⟩
  ·rw [h.cellAt (0 + j * 3) (by omega), Nat.zero_add]
   exact g1
  ·rw [h.cellAt (0 + j * 3 + 1) (by omega), Nat.zero_add]
   exact g2
  ·rw [h.cellAt (0 + j * 3 + 2) (by omega), Nat.zero_add]
   exact g3
theorem Tryz.infoTerm : (Tryz.prog.info? 49).map (fun i => (i.zero, i.size, i.bytes)) = some (some (.agg #[.bool false, .slice none 0 0, .slice none 0 0]), 3, 56) := by kernel_rfl
section
variable {w w1 w2 : World} {o : Value} {e : TypeId} {size n : Nat} {xs : List Value}
theorem own_grown0 (hx : Ext w w1) (ho : w1.ownsRow w.heap.size e size o n xs) (hg : w1.grownBy w2 o.ownBlock) : Ext w w2 := ext_grown hx hg (fun k hk => (ho.lt k hk).1)
end
theorem ofP_at {p : PZ} {k : Nat} {t : Int × Mono} (h : p[k]? = some t) : ofP (p.take (k + 1)) = ofP (p.take k) ++ [⟨ofI t.1, t.2⟩] := by
 rw [List.take_add_one, h]
 unfold ofP
 rw [List.map_append]
 rfl
theorem ofP_length (p : PZ) : (ofP p).length = p.length := by unfold ofP; rw [List.length_map]
abbrev NewOff (w w1 : World) (o : Value) : Nat → Prop := fun k => New w w1 k ∧ some k ≠ o.ownBlock
theorem newOff_ext {w w1 w2 : World} {o : Value} {xs : List Value} {l : List RTerm} (h : CellsT (NewOff w w1 o) w1 xs l) (hx : Ext w1 w2) : CellsT (NewOff w w2 o) w2 xs l :=
 h.to (Kept.ext hx (fun _ h => h.1.2)) (fun _ h => ⟨⟨h.1.1, Nat.lt_of_lt_of_le h.1.2 hx.size⟩, h.2⟩)
theorem newOff_grown {w w2 w3 : World} {o v3 : Value} {xs : List Value} {l : List RTerm} {B : Nat} (h : CellsT (NewOff w w2 o) w2 xs l) (hg : w2.grownBy w3 o.ownBlock) (hb : v3.ownBlock = o.ownBlock ∨ v3.ownBlock = some B) (hB : w2.heap.size ≤ B) : CellsT (NewOff w w3 v3) w3 xs l :=
 h.to (Kept.grown hg (fun _ h => ⟨h.1.2, h.2⟩)) (fun k hk => ⟨⟨hk.1.1, Nat.lt_of_lt_of_le hk.1.2 hg.size⟩, by
  rcases hb with e | e
  ·rw [e]; exact hk.2
  ·rw [e]
   intro e2
   have e3 : k = B := Option.some.inj e2
   have := hk.1.2
   omega⟩)
theorem newOff_of {w w0 w1 : World} {o : Value} {e : TypeId} {size n : Nat} {xs : List Value} {l : List RTerm} {ys : List Value} (h0 : w.heap.size ≤ w0.heap.size) (ho : w0.ownsRow w.heap.size e size o n ys) (h : CellsT (New w0 w1) w1 xs l) : CellsT (NewOff w w1 o) w1 xs l :=
 h.to (Kept.refl _ _) (fun k hk => ⟨⟨Nat.le_trans h0 hk.1, hk.2⟩, fun e => by
  have := (ho.lt k e.symm).2
  have := hk.1
  omega⟩)
theorem src_one (w : World) (cs : Array Value) (e : TypeId) {size : Nat} (h1 : ∀ u ∈ cs.toList, u.oneCell' = true) (hs : cs.size = size) : SrcAt (w.alloc (.cells cs e)) (some ⟨w.heap.size, 0, none⟩) 1 size cs.toList :=
 ⟨by simpa using hs, h1, fun _ => ⟨_, rfl, fun j u hu => by
  rw [add_off, Nat.zero_add]
  exact cell_new w cs e rfl (by simpa using hu)⟩⟩
theorem copy_done {w1 w3 : World} {v : Value} {n : Nat} {m : Mono} {e : TypeId} (h : w3.ownsRow w1.heap.size e 2 v (0 + n) ([] ++ flatP m)) (hn : n = m.length) (hb : inBounds m) : ∃ a c, v = .slice a n c ∧ Pows (New w1 w3) w3 v m := by
 subst hn
 rw [Nat.zero_add, List.nil_append] at h
 have hp := own_pows h hb
 obtain ⟨a, c, rfl⟩ := hp.form
 exact ⟨a, c, rfl, hp⟩
theorem copy_ext {w1 w3 : World} {cs : Array Value} {e : TypeId} (hg : (w1.alloc (.cells cs e)).grownBy w3 (some w1.heap.size)) : Ext w1 w3 :=
 ext_grown (Ext.alloc (Ext.refl w1) _) hg (fun k hk => by
  have : w1.heap.size = k := Option.some.inj hk
  omega)
theorem copy_late {wr w1 w3 : World} (hx : Ext wr w1) (hg : w1.grownBy w3 (some wr.heap.size)) : Ext wr w3 :=
 ext_grown hx hg (fun k hk => by
  have : wr.heap.size = k := Option.some.inj hk
  omega)
theorem late_u32s {wr w1 w3 : World} {o : Obj} {v : Value} {zs : List Nat} (h : U32s (New (wr.alloc o) w1) w1 v zs) (hg : w1.grownBy w3 (some wr.heap.size)) : U32s (New wr w3) w3 v zs := by
 have hne : ∀ k, New (wr.alloc o) w1 k → wr.heap.size + 1 ≤ k := fun k hk => by have := hk.1; rw [size_alloc] at this; exact this
 exact h.to (Kept.grown hg (fun k hk => ⟨hk.2, fun e => by
  have e2 : k = wr.heap.size := Option.some.inj e
  have := hne k hk
  omega⟩)) (fun k hk => ⟨by have := hne k hk; omega, Nat.lt_of_lt_of_le hk.2 hg.size⟩)
theorem rpoly_poly {S : Nat → Prop} (v : Value) (p : PZ) (w : World) (h : RTs S w v p) (hS : ∀ k, S k → k < w.heap.size) (hsz : szP p) (hml : ∀ t ∈ p, t.2.length ≤ 1000000) :
  Calls Tryz.prog 20 #[v] w fun e w' => ∃ v', e = .returned v' ∧ Terms (New w w') w' v' (ofP p) ∧ Ext w w' := by
 obtain ⟨i0, hi, hz0, hz1, hz2⟩ := info_parts Tryz.infoPower
 obtain ⟨j0, hj, jz0, jz1, jz2⟩ := info_parts Tryz.infoTerm
 have hl := h.len_le
 have H := hid h
 have HSZ := hid hsz
 have HML := hid hml
 obtain ⟨a, cap, rfl⟩ := h.form
 clear h hsz hml
 go_enter Tryz.func20, Tryz.ntmps20
 go_wp2
 go_loopw [3, 4] (fun o i wr => ∃ k xs, k ≤ p.length ∧ i = .int .i64 (k : Nat) ∧ Ext w wr ∧ Hid (wr.ownsRow w.heap.size 49 3 o k xs) ∧ Hid (CellsT (NewOff w wr o) wr xs (ofP (p.take k)))) (fun _ i _ => p.length - (intOf i).toNat)
 case atStart => exact ⟨0, [], Nat.zero_le _, rfl, Ext.refl _, hid (World.ownsRow_nil _ _ _ _), hid rfl⟩
 case round =>
  obtain ⟨k, xs, hk, rfl, hx, HW, HXS⟩ := hrel
  have HX := hid hx
  by_cases hlt : k < p.length
  ·obtain ⟨t, ht⟩ := some_of_lt hlt
   obtain ⟨b, off, vd, vo, rfl, -, hn1, hm1, hSb, h1, h2, h3, h4, h5⟩ := H.out.cellAt ht
   have HT := hid (ofP_at ht)
   have HTM := hid (HML.out t (List.mem_of_getElem? ht))
   have HTZ := hid (HSZ.out.2 t (List.mem_of_getElem? ht))
   have H4 := hid h4
   have H5 := hid h5
   have HIB := hid h5.inBounds
   obtain ⟨ad, cd, rfl⟩ := h4.form
   obtain ⟨ao, co, rfl⟩ := h5.form
   have x0 : Ext w wr.drew := hx.drew
   have HX0 := hid x0
   have HXR := hid ((Ext.refl wr).drew)
   have h0 : _ ∧ _ ∧ _ := And.intro h1 (And.intro h2 h3)
   have c1 := fun (W : World) (hW : Ext wr.drew W) => zed_int (S := S) _ t.1 W (show ZV S W (.agg #[.bool (decide (t.1 < 0)), .slice ad (rep 10 t.1.natAbs).length cd]) t.1 from ⟨_, rfl, H4.out.ext (HX0.out.trans hW) hS⟩) (lt_ext hS (HX0.out.trans hW)) HTZ.out
   obtain ⟨bt, hbt⟩ : ∃ b, b = decide (t.1 < 0) := ⟨_, rfl⟩
   obtain ⟨nt, hnt⟩ : ∃ n, n = (rep 10 t.1.natAbs).length := ⟨_, rfl⟩
   obtain ⟨nm, hnm⟩ : ∃ n, n = t.2.length := ⟨_, rfl⟩
   have HNM := hid hnm
   rw [← hbt, ← hnt, ← hnm] at h0
   rw [← hbt, ← hnt] at c1
   rw [← hnm] at H5
   have HC0 := hid h0
   have S0 : _ ∧ _ ∧ _ := And.intro (x0.cell h0.1) (And.intro (x0.cell h0.2.1) (x0.cell h0.2.2))
   have C1 := hid c1
   have HB1 : Hid (0 + nm ≤ maxLen) := hid (by have := HTM.out; rw [← hnm] at this; unfold maxLen; omega)
   have HB2 : Hid ((0 + nm) * 16 ≤ 140737488355328) := hid (by have := HTM.out; rw [← hnm] at this; omega)
   have HB3 : Hid (k + 1 ≤ maxLen) := hid (by have := HSZ.out.1; unfold maxLen; omega)
   have HB4 : Hid ((k + 1) * 56 ≤ 140737488355328) := hid (by have := HSZ.out.1; omega)
   have HM0 : Hid (0 ≤ maxLen) := hid (Nat.zero_le _)
   have HWR := hid (own_ext HW.out HXR.out)
   have HXSR := hid (newOff_ext HXS.out HXR.out)
   clear ht h0 h1 h2 h3 h4 h5 hx x0 c1 hbt hnt hnm
   go_wp2
   go_region_held3 (fun W => W.cell? ⟨b, off + k * 3, none⟩ = some (.bool bt) ∧ W.cell? ⟨b, off + k * 3 + 1, none⟩ = some (.slice ad nt cd) ∧ W.cell? ⟨b, off + k * 3 + 2, none⟩ = some (.slice ao nm co)) (first | exact S0 | exact ⟨cell_old _ S0.1, cell_old _ S0.2.1, cell_old _ S0.2.2⟩ | exact S1 | exact ⟨cell_old _ S1.1, cell_old _ S1.2.1, cell_old _ S1.2.2⟩ | exact S3 | exact ⟨cell_old _ S3.1, cell_old _ S3.2.1, cell_old _ S3.2.2⟩ | exact S5)
    (first
     | (go_at_call 52; refine (C1.out _ ?_).mono ?_; · exact Ext.refl _
        rintro e w1 ⟨v1, rfl, hz1, hx1⟩; have HX1 := hid hx1; have HXW1 : Hid (Ext w w1) := hid (HX0.out.trans hx1); have S1 : _ ∧ _ ∧ _ := And.intro (HXW1.out.cell HC0.out.1) (And.intro (HXW1.out.cell HC0.out.2.1) (HXW1.out.cell HC0.out.2.2))
        obtain ⟨vm, rfl, hu1⟩ := hz1; have HU1 := hid hu1; obtain ⟨am, cm, rfl⟩ := hu1.form; obtain ⟨ng, hng⟩ : ∃ b, b = (ofI t.1).neg := ⟨_, rfl⟩; obtain ⟨nl, hnl⟩ : ∃ b, b = (ofI t.1).mag.length := ⟨_, rfl⟩; rw [← hng, ← hnl]; rw [← hnl] at HU1; have HNG := hid hng; have HNL := hid hnl
        have HOA := hid (World.ownsRow_made (base := w1.heap.size) (e := 51) (size := 2) w1 #[] 0 (Nat.le_refl _) HM0.out rfl); have HSRC1 := hid ((Pows.ext' H5.out (HXW1.out.alloc (.cells #[] 51)) hS).src.2); have HBS := hid (World.grownBy_alloc w1 (.cells #[] 51) none).size; clear hx1 hu1 hng hnl)
     | (go_at_call 52; refine (C1.out _ ?_).mono ?_; · exact Ext.alloc (Ext.refl _) _
        rintro e w1 ⟨v1, rfl, hz1, hx1⟩; have HX1 : Hid (Ext (wr.drew.alloc (.cells #[] 51)) w1) := hid hx1; have HXR1 := hid ((Ext.alloc (Ext.refl wr.drew) (.cells #[] 51)).trans hx1); have HXW1 : Hid (Ext w w1) := hid (HX0.out.trans HXR1.out); have S1 : _ ∧ _ ∧ _ := And.intro (HXW1.out.cell HC0.out.1) (And.intro (HXW1.out.cell HC0.out.2.1) (HXW1.out.cell HC0.out.2.2))
        obtain ⟨vm, rfl, hu1⟩ := hz1; have HU1 : Hid (U32s (New (wr.drew.alloc (.cells #[] 51)) w1) w1 vm (ofI t.1).mag) := hid hu1; obtain ⟨am, cm, rfl⟩ := hu1.form; obtain ⟨ng, hng⟩ : ∃ b, b = (ofI t.1).neg := ⟨_, rfl⟩; obtain ⟨nl, hnl⟩ : ∃ b, b = (ofI t.1).mag.length := ⟨_, rfl⟩; rw [← hng, ← hnl]; rw [← hnl] at HU1; have HNG := hid hng; have HNL := hid hnl
        have HOB := hid (own_ext (World.ownsRow_made (base := wr.heap.size) (e := 51) (size := 2) wr.drew #[] 0 (Nat.le_refl _) HM0.out rfl) hx1); have HSRC1 := hid ((Pows.ext' H5.out HXW1.out hS).src.2); have HBS := hid HXR1.out.size; clear hx1 hu1 hng hnl)
     | (refine step_append_src rfl (.tmp 18) (.tmp 23) 47 rfl w1.heap.size 51 i0 (.agg #[.int .i64 0, .int .i64 0]) 2 16 Tryz.underlying47 hi hz0 hz1 hz2 rfl (Nat.succ_pos _) (.slice (some ⟨w1.heap.size, 0, none⟩) 0 0) 0 [] rfl HOA.out ao nm co (flatP t.2) rfl HSRC1.out HB1.out HB2.out HBS.out ?_; intro v3 w3 hown hg _; obtain ⟨a3, c3, rfl, hp3⟩ := copy_done hown HNM.out HIB.out; have hx3 := copy_ext hg; have HXR3 : Hid (Ext wr.drew w3) := hid (HX1.out.trans hx3); have HP3 : Hid (Pows (New wr.drew w3) w3 (.slice a3 nm c3) t.2) := hid (hp3.to (Kept.refl _ _) (fun k h => ⟨Nat.le_trans HX1.out.size h.1, h.2⟩)); have HU3 : Hid (U32s (New wr.drew w3) w3 (.slice am nl cm) (ofI t.1).mag) := hid (HU1.out.to (Kept.ext hx3 (fun _ h => h.2)) (fun k h => ⟨h.1, Nat.lt_of_lt_of_le h.2 hx3.size⟩)); clear hx3 hown hg hp3; have HXW3 : Hid (Ext w w3) := hid (HX0.out.trans HXR3.out); have S3 : _ ∧ _ ∧ _ := And.intro (HXW3.out.cell HC0.out.1) (And.intro (HXW3.out.cell HC0.out.2.1) (HXW3.out.cell HC0.out.2.2)); have HW3 := hid (own_ext (own_ext HWR.out HXR3.out) (Ext.alloc (Ext.refl w3) (.cells #[.bool ng, .slice am nl cm, .slice a3 nm c3] 49))); have HXS3 := hid (newOff_ext HXSR.out HXR3.out); have HSRC3 := hid (src_one w3 #[.bool ng, .slice am nl cm, .slice a3 nm c3] 49 (three_cell rfl rfl rfl) rfl); have HB5 := hid (Nat.le_trans HXW3.out.size (World.grownBy_alloc w3 (.cells #[.bool ng, .slice am nl cm, .slice a3 nm c3] 49) none).size))
     | (refine step_append_src rfl (.tmp 18) (.tmp 23) 47 rfl wr.heap.size 51 i0 (.agg #[.int .i64 0, .int .i64 0]) 2 16 Tryz.underlying47 hi hz0 hz1 hz2 rfl (Nat.succ_pos _) (.slice (some ⟨wr.heap.size, 0, none⟩) 0 0) 0 [] rfl HOB.out ao nm co (flatP t.2) rfl HSRC1.out HB1.out HB2.out HBS.out ?_; intro v3 w3 hown hg _; obtain ⟨a3, c3, rfl, hp3⟩ := copy_done (w1 := wr.drew) hown HNM.out HIB.out; have HXR3 : Hid (Ext wr.drew w3) := hid (copy_late HXR1.out hg); have HP3 : Hid (Pows (New wr.drew w3) w3 (.slice a3 nm c3) t.2) := hid hp3; have HU3 : Hid (U32s (New wr.drew w3) w3 (.slice am nl cm) (ofI t.1).mag) := hid (late_u32s HU1.out hg); clear HXR1 hown hg hp3; have HXW3 : Hid (Ext w w3) := hid (HX0.out.trans HXR3.out); have S3 : _ ∧ _ ∧ _ := And.intro (HXW3.out.cell HC0.out.1) (And.intro (HXW3.out.cell HC0.out.2.1) (HXW3.out.cell HC0.out.2.2)); have HW3 := hid (own_ext (own_ext HWR.out HXR3.out) (Ext.alloc (Ext.refl w3) (.cells #[.bool ng, .slice am nl cm, .slice a3 nm c3] 49))); have HXS3 := hid (newOff_ext HXSR.out HXR3.out); have HSRC3 := hid (src_one w3 #[.bool ng, .slice am nl cm, .slice a3 nm c3] 49 (three_cell rfl rfl rfl) rfl); have HB5 := hid (Nat.le_trans HXW3.out.size (World.grownBy_alloc w3 (.cells #[.bool ng, .slice am nl cm, .slice a3 nm c3] 49) none).size))
     | (refine step_append_src rfl (.tmp 11) (.tmp 26) 23 rfl w.heap.size 49 j0 (.agg #[.bool false, .slice none 0 0, .slice none 0 0]) 3 56 Tryz.underlying23 hj jz0 jz1 jz2 rfl (Nat.succ_pos _) _ k xs rfl HW3.out (some ⟨w3.heap.size, 0, none⟩) 1 1 _ rfl HSRC3.out HB3.out HB4.out HB5.out ?_; intro v5 w5 hown hg hbk; have HW5 := hid hown; have HG5 := hid hg; have HBK := hid hbk; have HX5 := hid (own_grown0 (HXW3.out.alloc (.cells #[.bool ng, .slice am nl cm, .slice a3 nm c3] 49)) HW3.out hg); have S5 : _ ∧ _ ∧ _ := And.intro (HX5.out.cell HC0.out.1) (And.intro (HX5.out.cell HC0.out.2.1) (HX5.out.cell HC0.out.2.2)); clear hown hg hbk))
   all_goals
    go_wp2
    go_roundw
    case rel =>
     refine ⟨k + 1, xs ++ (#[.bool ng, .slice am nl cm, .slice a3 nm c3] : Array Value).toList, by omega, by go_num, HX5.out, HW5, hid ?_⟩
     rw [HT.out]
     have hone : CellsT (New wr.drew w3) w3 (#[.bool ng, .slice am nl cm, .slice a3 nm c3] : Array Value).toList [⟨ofI t.1, t.2⟩] := by
      rw [HNG.out]
      exact CellsT.single (t := ⟨ofI t.1, t.2⟩) HU3.out HP3.out
     have hall := HXS3.out.append (newOff_of HX0.out.size HWR.out hone)
     exact newOff_grown (newOff_ext hall (Ext.alloc (Ext.refl w3) (.cells #[.bool ng, .slice am nl cm, .slice a3 nm c3] 49))) HG5.out HBK.out (Nat.le_refl _)
    case measure => simp only [intOf]; omega
  ·obtain rfl : k = p.length := by omega
   have HE : Hid (p.take p.length = p) := hid List.take_length
   clear hx
   go_wp2
   go_ret
   refine ⟨_, rfl, ?_, HX.out⟩
   have hc := HXS.out
   rw [HE.out] at hc
   exact own_terms (by rw [ofP_length]; exact HW.out) (hc.to (Kept.refl _ _) (fun _ h => h.1)) (fun k h1 h2 => ⟨h1, h2⟩)
end
section
open Go.RowKit
theorem szZ_le {z : Int} {n : Nat} (h : z.natAbs < 10 ^ n) (hn : n ≤ 2000000) : szZ z := Nat.le_trans (rep_len_le two_le_10 _ _ h) hn
theorem szZ_i64 {n : Nat} (h : n < 9223372036854775808) : szZ (n : Int) := szZ_le (n := 19) (by simp only [Int.natAbs_natCast]; omega) (by omega)
def numP (n : Nat) : PZ := putP [] (n : Int) []
theorem rpoly_small (n : Nat) (w : World) (hn : n < 9223372036854775808) :
  Calls Tryz.prog 19 #[.int .i64 (n : Nat)] w fun e w' => ∃ v', e = .returned v' ∧ RTs (New w w') w' v' (numP n) ∧ Ext w w' := by
 have C1 := hid (zed_small n w hn)
 have HZ := hid (szZ_i64 hn)
 clear hn
 go_enter Tryz.func19, Tryz.ntmps19
 go_wp2_with fail
 refine C1.out.mono ?_
 rintro e w1 ⟨v1, rfl, hz1, hx1⟩
 have HX1 := hid hx1
 have C2 := hid (rpoly_put (S := New w w1) (.slice none 0 0) v1 (.slice none 0 0) [] (n : Int) [] w1 (fun _ h => h.2) (RTs.nilv _ _ _ _ (by omega)) hz1 (Pows.empty _ _ _) canP_nil.may rfl ⟨by simp, fun t ht => by simp at ht⟩ HZ.out)
 clear hx1 hz1
 go_wp2_with fail
 refine C2.out.mono ?_
 rintro e w2 ⟨v2, rfl, hp2, hx2⟩
 have HX2 := hid (HX1.out.trans hx2)
 have HP2 : Hid (RTs (New w w2) w2 v2 (numP n)) := hid (hp2.to (Kept.refl _ _) (fun k hk => by
  rcases hk with h | h
  ·exact ⟨h.1, Nat.lt_of_lt_of_le h.2 hx2.size⟩
  ·exact ⟨Nat.le_trans HX1.out.size h.1, h.2⟩))
 clear hp2 hx2
 go_wp2
 all_goals
  go_ret
  exact ⟨_, rfl, HP2.out, HX2.out⟩
theorem rpoly_x (x : Int) (w : World) (hx : inI64 x) :
  Calls Tryz.prog 30 #[.int .i64 x] w fun e w' => ∃ v', e = .returned v' ∧ RTs (New w w') w' v' [(1, [(x, 1)])] ∧ Ext w w' := by
 have C1 := hid (zed_small 1 w (by omega))
 have HXX := hid hx
 clear hx
 go_enter Tryz.func30, Tryz.ntmps30
 go_wp2_with fail
 refine C1.out.mono ?_
 rintro e w1 ⟨v1, rfl, hz1, hx1⟩
 obtain ⟨vd, rfl, hd⟩ := hz1
 have HX1 := hid hx1
 have HD := hid hd
 obtain ⟨ad, cd, rfl⟩ := hd.form
 obtain ⟨nd, hnd⟩ : ∃ n, n = (rep 10 ((1 : Nat) : Int).natAbs).length := ⟨_, rfl⟩
 obtain ⟨bd, hbd⟩ : ∃ b, b = decide (((1 : Nat) : Int) < 0) := ⟨_, rfl⟩
 rw [← hnd] at HD ⊢
 rw [← hbd]
 have HB := hid hbd
 clear hx1 hd hnd hbd
 go_wp2
 go_ret
 have x2 : Ext w1 ((w1.alloc (.cells #[.int .i64 x, .int .i64 1] 51)).alloc (.cells #[.bool bd, .slice ad nd cd, .slice (some ⟨w1.heap.size, 0, none⟩) 1 1] 95)) := (Ext.alloc (Ext.alloc (Ext.refl w1) _) _)
 have hb : (w1.alloc (.cells #[.int .i64 x, .int .i64 1] 51)).heap.size = w1.heap.size + 1 := size_alloc _ _
 refine ⟨_, rfl, ?_, HX1.out.trans x2⟩
 refine ⟨w1.heap.size + 1, 0, ⟨_, 1, rfl, Nat.le_refl _, by decide, fun _ => by rw [← hb], fun _ => ⟨Nat.le_trans HX1.out.size (Nat.le_succ _), by rw [size_alloc, hb] <;> omega⟩⟩, fun j t hj => ?_⟩
 have hj0 : j = 0 := by have := lt_of_some hj; simp at this; exact this
 subst hj0
 obtain rfl : (1, [(x, 1)]) = t := by simpa using hj
 refine ⟨.slice ad nd cd, .slice (some ⟨w1.heap.size, 0, none⟩) 1 1, ?_, ?_, ?_, HD.out.to (Kept.ext x2 (fun _ h => h.2)) (fun k h => ⟨h.1, Nat.lt_of_lt_of_le h.2 x2.size⟩), ?_⟩
 ·exact cell_new _ _ _ (by rw [hb]) (by rw [HB.out]; rfl)
 ·exact cell_new _ _ _ (by rw [hb]) rfl
 ·exact cell_new _ _ _ (by rw [hb]) rfl
 ·refine ⟨w1.heap.size, 0, ⟨_, 1, rfl, Nat.le_refl _, by decide, fun _ => rfl, fun _ => ⟨HX1.out.size, by rw [size_alloc, hb] <;> omega⟩⟩, fun j t hj => ?_⟩
  have hj0 : j = 0 := by have := lt_of_some hj; simp at this; exact this
  subst hj0
  obtain rfl : (x, 1) = t := by simpa using hj
  have hin : inI64 (1 : Int) := by unfold inI64; omega
  exact ⟨⟨HXX.out, hin⟩, cell_old _ (cell_new _ _ _ rfl rfl), cell_old _ (cell_new _ _ _ rfl rfl)⟩
end
section
open Go.RowKit
def pairP (t u : Int × Mono) : Option (Int × Mono) := (rtimes t.2 u.2).map fun m => (t.1 * u.1, m)
def prodL (p q : PZ) : List (Option (Int × Mono)) := p.flatMap fun t => q.map (pairP t)
def allO : List (Option (Int × Mono)) → Option PZ
 | [] => some []
 | none :: _ => none
 | some x :: r => (allO r).map (x :: ·)
def timesP (p q : PZ) : Option PZ := (allO (prodL p q)).map normP
theorem allO_some {xs : PZ} : allO (xs.map some) = some xs := by
 induction xs with
 | nil => rfl
 | cons x r ih => simp only [List.map_cons, allO, ih, Option.map_some]
theorem allO_none {l r : List (Option (Int × Mono))} : allO (l ++ none :: r) = none := by
 induction l with
 | nil => rfl
 | cons x l ih =>
  cases x with
  | none => rfl
  | some x => simp only [List.cons_append, allO, ih, Option.map_none]
def bndP (p : PZ) (L M : Nat) : Prop := p.length ≤ L ∧ ∀ t ∈ p, t.1.natAbs ≤ M
theorem putP_len (p : PZ) (c : Int) (m : Mono) : (putP p c m).length ≤ p.length + 1 := by
 induction p with
 | nil => simp only [putP]; split <;> simp
 | cons t r ih =>
  simp only [putP]
  split
  ·simp only [List.length_cons]; omega
  ·split
   ·split <;> simp only [List.length_cons] <;> omega
   ·split <;> simp only [List.length_cons] <;> omega
theorem putP_abs {p : PZ} {c : Int} {m : Mono} {M N : Nat} (h : ∀ t ∈ p, t.1.natAbs ≤ M) (hc : c.natAbs ≤ N) : ∀ t ∈ putP p c m, t.1.natAbs ≤ M + N := by
 induction p with
 | nil =>
  intro t ht
  simp only [putP] at ht
  split at ht
  ·simp at ht
  ·rw [List.mem_singleton.1 ht]; simp only; omega
 | cons u r ih =>
  have hu := h u (by simp)
  have hr : ∀ t ∈ r, t.1.natAbs ≤ M := fun t ht => h t (by simp [ht])
  have ih := ih hr
  intro t ht
  simp only [putP] at ht
  split at ht
  ·rcases List.mem_cons.1 ht with rfl | ht
   ·omega
   ·exact ih t ht
  ·split at ht
   ·split at ht
    ·have := hr t ht; omega
    ·rcases List.mem_cons.1 ht with rfl | ht
     ·simp only; omega
     ·have := hr t ht; omega
   ·split at ht
    ·have := h t ht; omega
    ·rcases List.mem_cons.1 ht with rfl | ht
     ·simp only; omega
     ·have := h t ht; omega
theorem putP_bnd {p : PZ} {c : Int} {m : Mono} {L M N : Nat} (h : bndP p L M) (hc : c.natAbs ≤ N) : bndP (putP p c m) (L + 1) (M + N) :=
 ⟨Nat.le_trans (putP_len _ _ _) (by have := h.1; omega), putP_abs h.2 hc⟩
theorem addP_bnd {p l : PZ} {L M N : Nat} (h : bndP p L M) (hl : ∀ t ∈ l, t.1.natAbs ≤ N) : bndP (addP p l) (L + l.length) (M + l.length * N) := by
 induction l generalizing p L M with
 | nil => simpa [addP] using h
 | cons t r ih =>
  have h1 := ih (putP_bnd (m := t.2) h (hl t (by simp))) (fun u hu => hl u (by simp [hu]))
  show bndP (addP (putP p t.1 t.2) r) _ _
  simp only [List.length_cons]
  refine ⟨by have := h1.1; omega, fun u hu => ?_⟩
  have := h1.2 u hu
  rw [Nat.add_mul]
  omega
theorem bnd_nil : bndP [] 0 0 := ⟨by simp, fun t ht => by simp at ht⟩
theorem sz_of_bnd {p : PZ} {L M n : Nat} (h : bndP p L M) (hL : L ≤ 1000000000000) (hM : M < 10 ^ n) (hn : n ≤ 2000000) : szP p :=
 ⟨Nat.le_trans h.1 hL, fun t ht => szZ_le (Nat.lt_of_le_of_lt (h.2 t ht) hM) hn⟩
theorem mayTail_snoc {m : Mono} {l v e : Int} (h : mayTail l m = true) (hv : ∀ x ∈ m, x.1 < v) (hl : l < v) (h2 : v ≤ 200) (h3 : 1 ≤ e ∧ e ≤ 10000) : mayTail l (m ++ [(v, e)]) = true := by
 induction m generalizing l with
 | nil =>
  simp only [List.nil_append, mayTail, Bool.and_true, decide_eq_true_eq]
  omega
 | cons x r ih =>
  simp only [List.cons_append, mayTail, Bool.and_eq_true] at h ⊢
  exact ⟨h.1, ih h.2 (fun y hy => hv y (by simp [hy])) (hv x (by simp))⟩
theorem ofE_vars (f : Nat → Int) (k : Nat) : ∀ x ∈ ofE f k, x.1 ≤ (k : Int) := by
 induction k with
 | zero => intro x hx; simp [ofE] at hx
 | succ k ih =>
  intro x hx
  simp only [ofE] at hx
  split at hx
  ·rcases List.mem_append.1 hx with hx | hx
   ·have := ih x hx; omega
   ·rw [List.mem_singleton.1 hx]; simp only; omega
  ·have := ih x hx; omega
theorem ofE_may {f : Nat → Int} {n : Nat} (hn : n ≤ 200) (h : ∀ j, 1 ≤ j → j ≤ n → f j ≤ 10000) : mayM (ofE f n) = true := by
 induction n with
 | zero => rfl
 | succ k ih =>
  have ih := ih (by omega) (fun j h1 h2 => h j h1 (by omega))
  simp only [ofE]
  split
  ·rename_i hp
   refine mayTail_snoc ih (fun x hx => ?_) (by omega) (by omega) ⟨by omega, h (k + 1) (by omega) (Nat.le_refl _)⟩
   have := ofE_vars f k x hx
   omega
  ·exact ih
theorem overF_not {f : Nat → Int} {n : Nat} (h : overF f n = false) : ∀ j, 1 ≤ j → j ≤ n → f j ≤ 10000 := by
 induction n with
 | zero => intro j h1 h2; omega
 | succ k ih =>
  simp only [overF, Bool.or_eq_false_iff, decide_eq_false_iff_not] at h
  intro j h1 h2
  by_cases e : j = k + 1
  ·subst e; have := h.2; omega
  ·exact ih h.1 j h1 (by omega)
theorem rtimes_may {a b m : Mono} (h : rtimes a b = some m) : mayM m = true := by
 unfold rtimes at h
 split at h
 ·cases h
 ·rename_i ho
  cases h
  exact ofE_may (Nat.le_refl _) (overF_not (by simpa using ho))
theorem prodL_length (p q : PZ) : (prodL p q).length = p.length * q.length := by
 induction p with
 | nil => simp [prodL]
 | cons t r ih =>
  have e : prodL (t :: r) q = q.map (pairP t) ++ prodL r q := by unfold prodL; rw [List.flatMap_cons]
  rw [e, List.length_append, List.length_map, ih, List.length_cons, Nat.add_mul]
  omega
theorem prodL_get {p q : PZ} {k j : Nat} {t u : Int × Mono} (ht : p[k]? = some t) (hu : q[j]? = some u) : (prodL p q)[k * q.length + j]? = some (pairP t u) := by
 have hj := lt_of_some hu
 induction p generalizing k with
 | nil => simp at ht
 | cons x r ih =>
  have e : prodL (x :: r) q = q.map (pairP x) ++ prodL r q := by unfold prodL; rw [List.flatMap_cons]
  rw [e]
  cases k with
  | zero =>
   obtain rfl : x = t := by simpa using ht
   rw [Nat.zero_mul, Nat.zero_add, List.getElem?_append_left (by rw [List.length_map]; exact hj), List.getElem?_map, hu]
   rfl
  | succ k =>
   have := ih (k := k) (by simpa using ht)
   rw [List.getElem?_append_right (by rw [List.length_map, Nat.add_mul]; omega), List.length_map, show (k + 1) * q.length + j - q.length = k * q.length + j by rw [Nat.add_mul]; omega]
   exact this
theorem pairP_some {t u x : Int × Mono} (h : pairP t u = some x) : mayM x.2 = true ∧ x.1 = t.1 * u.1 := by
 unfold pairP at h
 cases hr : rtimes t.2 u.2 with
 | none => rw [hr] at h; simp at h
 | some m =>
  rw [hr] at h
  simp at h
  subst h
  exact ⟨rtimes_may hr, rfl⟩
theorem prodL_mem {p q : PZ} {x : Int × Mono} (h : some x ∈ prodL p q) : mayM x.2 = true ∧ ∃ t ∈ p, ∃ u ∈ q, x.1 = t.1 * u.1 := by
 unfold prodL at h
 obtain ⟨t, ht, h⟩ := List.mem_flatMap.1 h
 obtain ⟨u, hu, h⟩ := List.mem_map.1 h
 exact ⟨(pairP_some h).1, t, ht, u, hu, (pairP_some h).2⟩
def firstN (p q : PZ) (n : Nat) (xs : PZ) : Prop := (prodL p q).take n = xs.map some
theorem firstN_zero (p q : PZ) : firstN p q 0 [] := rfl
theorem firstN_next {p q : PZ} {n : Nat} {xs : PZ} {x : Int × Mono} (h : firstN p q n xs) (hx : (prodL p q)[n]? = some (some x)) : firstN p q (n + 1) (xs ++ [x]) := by
 unfold firstN at h ⊢
 rw [List.take_add_one, h, hx]
 simp
theorem firstN_none {p q : PZ} {n : Nat} {xs : PZ} (_h : firstN p q n xs) (hx : (prodL p q)[n]? = some none) : timesP p q = none := by
 unfold timesP
 have e : prodL p q = (prodL p q).take n ++ none :: (prodL p q).drop (n + 1) := by rw [← drop_at hx, List.take_append_drop]
 rw [e, allO_none]
 rfl
theorem firstN_all {p q : PZ} {n : Nat} {xs : PZ} (h : firstN p q n xs) (hn : n = p.length * q.length) : timesP p q = some (normP xs) := by
 unfold firstN at h
 rw [List.take_of_length_le (by rw [prodL_length]; omega)] at h
 unfold timesP
 rw [h, allO_some]
 rfl
theorem firstN_mem {p q : PZ} {n : Nat} {xs : PZ} (h : firstN p q n xs) {x : Int × Mono} (hx : x ∈ xs) : mayM x.2 = true ∧ ∃ t ∈ p, ∃ u ∈ q, x.1 = t.1 * u.1 := by
 apply prodL_mem
 have : some x ∈ (prodL p q).take n := by rw [h]; exact List.mem_map.2 ⟨x, hx, rfl⟩
 exact List.mem_of_mem_take this
theorem firstN_len {p q : PZ} {n : Nat} {xs : PZ} (h : firstN p q n xs) : xs.length ≤ p.length * q.length := by
 have h1 : ((prodL p q).take n).length = xs.length := by rw [h, List.length_map]
 rw [← h1, List.length_take, prodL_length]
 exact Nat.min_le_right _ _
def szM (p q : PZ) : Prop := ∃ N n, (∀ t ∈ p, ∀ u ∈ q, (t.1 * u.1).natAbs ≤ N) ∧ p.length * q.length ≤ 1000000000000 ∧ p.length * q.length * N < 10 ^ n ∧ n ≤ 2000000
theorem firstN_sz {p q : PZ} {n : Nat} {xs : PZ} (h : firstN p q n xs) (hs : szM p q) : szP (normP xs) := by
 obtain ⟨N, e, h1, h2, h3, h4⟩ := hs
 have hl := firstN_len h
 have hb := addP_bnd (N := N) bnd_nil (l := xs) (fun t ht => by
  obtain ⟨_, a, ha, b, hb, hh⟩ := firstN_mem h ht
  rw [hh]
  exact h1 a ha b hb)
 simp only [Nat.zero_add] at hb
 exact sz_of_bnd hb (by omega) (Nat.lt_of_le_of_lt (Nat.mul_le_mul_right N hl) h3) h4
theorem szM_one {p q : PZ} (hs : szM p q) {t u : Int × Mono} (ht : t ∈ p) (hu : u ∈ q) : szZ (t.1 * u.1) := by
 obtain ⟨N, e, h1, h2, h3, h4⟩ := hs
 have h5 := h1 t ht u hu
 have hp : 0 < p.length := List.length_pos_of_mem ht
 have hq : 0 < q.length := List.length_pos_of_mem hu
 have : 1 * N ≤ p.length * q.length * N := Nat.mul_le_mul_right N (Nat.mul_pos hp hq)
 exact szZ_le (Nat.lt_of_le_of_lt (by omega) h3) h4
end
section
open Go.RowKit
def timesB : Option PZ → Bool
 | none => false
 | some _ => true
def timesV : Option PZ → PZ
 | none => []
 | some p => p
theorem rpoly_times {S : Nat → Prop} (vp vq : Value) (p q : PZ) (w : World) (hS : ∀ k, S k → k < w.heap.size) (hp : RTs S w vp p) (hq : RTs S w vq q) (hmp : mayAll p) (hmq : mayAll q) (hszp : szP p) (hszq : szP q) (hsz : szM p q) :
  Calls Tryz.prog 51 #[vp, vq] w fun e w' => ∃ v', e = .returned (.tuple #[v', .bool (timesB (timesP p q))]) ∧ RTs (Plus S w w') w' v' (timesV (timesP p q)) ∧ Ext w w' := by
 have hlp := hp.len_le
 have hlq := hq.len_le
 have HP := hid hp
 have HQ := hid hq
 have HMP := hid hmp
 have HMQ := hid hmq
 have HZP := hid hszp
 have HZQ := hid hszq
 have HSZ := hid hsz
 obtain ⟨ap, cp, rfl⟩ := hp.form
 obtain ⟨aq, cq, rfl⟩ := hq.form
 obtain ⟨R, hR⟩ : ∃ R, R = timesP p q := ⟨_, rfl⟩
 rw [← hR]
 have HR := hid hR
 clear hp hq hmp hmq hszp hszq hsz hR
 go_enter Tryz.func51, Tryz.ntmps51
 go_wp2
 go_loopw [6, 7] (fun o i wr => ∃ k xs n, k ≤ p.length ∧ i = .int .i64 (k : Nat) ∧ Ext w wr ∧ Hid (n = k * q.length) ∧ Hid (firstN p q n xs) ∧ Hid (RTs (Plus S w wr) wr o (normP xs))) (fun _ i _ => p.length - (intOf i).toNat)
 case atStart => exact ⟨0, [], 0, Nat.zero_le _, rfl, Ext.refl _, hid (by rw [Nat.zero_mul]), hid (firstN_zero _ _), hid (RTs.nilv _ _ _ _ (by omega))⟩
 case round =>
  obtain ⟨k, xs, n, hk, rfl, hx, HN, HF, HO⟩ := hrel
  have HX := hid hx
  by_cases hlt : k < p.length
  ·obtain ⟨t, ht⟩ := some_of_lt hlt
   have HT := hid ht
   clear ht hx
   go_wp2
   go_loopw [6, 8] (fun o i wr => ∃ j xs n, j ≤ q.length ∧ i = .int .i64 (j : Nat) ∧ Ext w wr ∧ Hid (n = k * q.length + j) ∧ Hid (firstN p q n xs) ∧ Hid (RTs (Plus S w wr) wr o (normP xs))) (fun _ i _ => q.length - (intOf i).toNat)
   case atStart => exact ⟨0, xs, n, Nat.zero_le _, rfl, HX.out, hid (by rw [HN.out, Nat.add_zero]), HF, HO⟩
   case round =>
    clear HO HF HN HX
    clear xs n
    obtain ⟨j, xs, n, hj, rfl, hx, HN, HF, HO⟩ := hrel
    have HX := hid hx
    by_cases hlj : j < q.length
    ·obtain ⟨u, hu⟩ := some_of_lt hlj
     have HGET : Hid ((prodL p q)[n]? = some (pairP t u)) := hid (by rw [HN.out]; exact prodL_get HT.out hu)
     have HTP := hid (List.mem_of_getElem? HT.out)
     have HUQ := hid (List.mem_of_getElem? hu)
     obtain ⟨b, off, vd, vo, rfl, -, hn1, hm1, hSb, h1, h2, h3, h4, h5⟩ := HP.out.cellAt HT.out
     obtain ⟨b', off', vd', vo', rfl, -, hn1', hm1', hSb', h1', h2', h3', h4', h5'⟩ := HQ.out.cellAt hu
     have H4 := hid h4
     have H5 := hid h5
     have H4' := hid h4'
     have H5' := hid h5'
     obtain ⟨ad, cd, rfl⟩ := h4.form
     obtain ⟨ao, co, rfl⟩ := h5.form
     obtain ⟨ad', cd', rfl⟩ := h4'.form
     obtain ⟨ao', co', rfl⟩ := h5'.form
     have x0 : Ext w wr.drew := hx.drew
     have HX0 := hid x0
     have HXR := hid ((Ext.refl wr).drew)
     have S0 : _ ∧ _ := And.intro (x0.cell h3) (x0.cell h3')
     have CT := rmono_times (S := S) _ _ t.2 u.2 wr.drew (H5.out.ext x0 hS) (H5'.out.ext x0 hS) (lt_ext hS x0) (HMP.out t HTP.out) (HMQ.out u HUQ.out)
     have CM := fun (W : World) (hW : Ext w W) => zed_mul (S := S) (.agg #[.bool (decide (t.1 < 0)), .slice ad (rep 10 t.1.natAbs).length cd]) (.agg #[.bool (decide (u.1 < 0)), .slice ad' (rep 10 u.1.natAbs).length cd']) t.1 u.1 W ⟨_, rfl, H4.out.ext hW hS⟩ ⟨_, rfl, H4'.out.ext hW hS⟩ (lt_ext hS hW) (HZP.out.2 t HTP.out) (HZQ.out.2 u HUQ.out)
     obtain ⟨bt, hbt⟩ : ∃ b, b = decide (t.1 < 0) := ⟨_, rfl⟩
     obtain ⟨nt, hnt⟩ : ∃ n, n = (rep 10 t.1.natAbs).length := ⟨_, rfl⟩
     obtain ⟨bu, hbu⟩ : ∃ b, b = decide (u.1 < 0) := ⟨_, rfl⟩
     obtain ⟨nu, hnu⟩ : ∃ n, n = (rep 10 u.1.natAbs).length := ⟨_, rfl⟩
     obtain ⟨mt, hmt⟩ : ∃ n, n = t.2.length := ⟨_, rfl⟩
     obtain ⟨mu, hmu⟩ : ∃ n, n = u.2.length := ⟨_, rfl⟩
     rw [← hbt, ← hnt, ← hbu, ← hnu] at CM
     rw [← hmt, ← hmu] at S0 CT
     rw [← hbt] at h1
     rw [← hnt] at h2
     rw [← hbu] at h1'
     rw [← hnu] at h2'
     have HC0 : Hid (_ ∧ _ ∧ _ ∧ _) := hid (And.intro h1 (And.intro h2 (And.intro h1' h2')))
     have HCM := hid CM
     have HSO := hid (szM_one HSZ.out HTP.out HUQ.out)
     have HSX := hid (firstN_sz HF.out HSZ.out)
     have HMX : Hid (mayAll (normP xs)) := hid (normP_can (fun y hy => (firstN_mem HF.out hy).1)).may
     clear hu h1 h2 h3 h4 h5 h1' h2' h3' h4' h5' hx x0 CM hbt hnt hbu hnu hmt hmu
     cases hr : rtimes t.2 u.2 with
     | none =>
      have HRN : Hid (R = none) := hid (HR.out.trans (firstN_none HF.out (by rw [HGET.out]; unfold pairP; rw [hr]; rfl)))
      rw [hr] at CT
      unfold rterr rtval at CT
      simp only at CT
      have HCT := hid CT
      clear CT hr
      go_wp2
      go_region_held3 (fun W => W.cell? ⟨b, off + k * 3 + 2, none⟩ = some (.slice ao mt co) ∧ W.cell? ⟨b', off' + j * 3 + 2, none⟩ = some (.slice ao' mu co')) (first | exact S0 | exact S1)
       (first
        | (go_at_call 87; (with_reducible refine HCT.out.mono ?_); rintro e w1 ⟨v1, rfl, hp1, hx1⟩; have S1 : _ ∧ _ := And.intro (hx1.cell S0.1) (hx1.cell S0.2); have HX1 := hid (HX0.out.trans hx1); clear hx1 hp1))
      go_wp2
      all_goals
       go_ret2
       rw [HRN.out]
       exact ⟨_, rfl, RTs.nilv _ _ _ _ (by omega), HX1.out⟩
     | some m =>
      have HMM := hid (rtimes_may hr)
      have HNX := hid (firstN_next HF.out (x := (t.1 * u.1, m)) (by rw [HGET.out]; unfold pairP; rw [hr]; rfl))
      rw [hr] at CT
      unfold rterr rtval at CT
      simp only at CT
      have HCT := hid CT
      clear CT hr
      go_wp2
      go_region_held3 (fun W => W.cell? ⟨b, off + k * 3 + 2, none⟩ = some (.slice ao mt co) ∧ W.cell? ⟨b', off' + j * 3 + 2, none⟩ = some (.slice ao' mu co')) (first | exact S0 | exact S1)
       (first
        | (go_at_call 87; (with_reducible refine HCT.out.mono ?_); rintro e w1 ⟨v1, rfl, hp1, hx1⟩; have S1 : _ ∧ _ := And.intro (hx1.cell S0.1) (hx1.cell S0.2); have HX1 := hid (HX0.out.trans hx1); have HXR1 := hid (HXR.out.trans hx1); have HP1 : Hid (Pows (Plus S w w1) w1 v1 m) := hid (hp1.to (Kept.refl _ _) (new_plus HX0.out.size)); clear hx1 hp1))
      have x1 : Ext w w1.drew := HX1.out.drew
      have HX1D := hid x1
      have T0 : _ ∧ _ ∧ _ ∧ _ := And.intro (x1.cell HC0.out.1) (And.intro (x1.cell HC0.out.2.1) (And.intro (x1.cell HC0.out.2.2.1) (x1.cell HC0.out.2.2.2)))
      have HCM1 := hid (HCM.out w1.drew x1)
      clear x1 S0 S1
      go_wp2
      go_region_held3 (fun W => W.cell? ⟨b, off + k * 3, none⟩ = some (.bool bt) ∧ W.cell? ⟨b, off + k * 3 + 1, none⟩ = some (.slice ad nt cd) ∧ W.cell? ⟨b', off' + j * 3, none⟩ = some (.bool bu) ∧ W.cell? ⟨b', off' + j * 3 + 1, none⟩ = some (.slice ad' nu cd')) (first | exact T0 | exact T1 | exact T2)
       (first
        | (go_at_call 75; (with_reducible refine HCM1.out.mono ?_); rintro e w2 ⟨v2, rfl, hz2, hx2⟩; have T1 : _ ∧ _ ∧ _ ∧ _ := And.intro (hx2.cell T0.1) (And.intro (hx2.cell T0.2.1) (And.intro (hx2.cell T0.2.2.1) (hx2.cell T0.2.2.2))); have HX2 : Hid (Ext w w2) := hid (HX1D.out.trans hx2); have HX12 : Hid (Ext w1 w2) := hid (((Ext.refl w1).drew).trans hx2); have C2 := hid (rpoly_put (S := Plus S w w2) _ _ _ (normP xs) (t.1 * u.1) m w2 (plus_lt hS HX2.out) (RTs.later hS HO.out HX.out (HXR1.out.trans HX12.out)) (hz2.to (Kept.refl _ _) (new_plus HX1D.out.size)) (HP1.out.to (Kept.ext HX12.out (plus_lt hS HX1.out)) (plus_grow HX12.out.size)) HMX.out HMM.out HSX.out HSO.out); clear hx2 hz2)
        | (go_at_call 40; (with_reducible refine C2.out.mono ?_); rintro e w3 ⟨v3, rfl, hp3, hx3⟩; have T2 : _ ∧ _ ∧ _ ∧ _ := And.intro (hx3.cell T1.1) (And.intro (hx3.cell T1.2.1) (And.intro (hx3.cell T1.2.2.1) (hx3.cell T1.2.2.2))); have HX3 := hid (HX2.out.trans hx3); have HP3 := hid (hp3.to (Kept.refl _ _) (plus_plus HX2.out hx3)); clear hx3 hp3))
      go_wp2
      go_roundw
      case rel => exact ⟨j + 1, xs ++ [(t.1 * u.1, m)], n + 1, by omega, by go_num, HX3.out, hid (by rw [HN.out, Nat.add_assoc]), HNX, hid (by unfold normP; rw [addP_snoc]; exact HP3.out)⟩
      case measure => simp only [intOf]; omega
    ·obtain rfl : j = q.length := by omega
     clear hx
     go_wp2
     go_roundw
     case rel => exact ⟨k + 1, xs, n, by omega, by go_num, HX.out, hid (by rw [HN.out, Nat.add_mul, Nat.one_mul]), HF, HO⟩
     case measure => simp only [intOf]; omega
  ·obtain rfl : k = p.length := by omega
   have HRS := hid (HR.out.trans (firstN_all HF.out HN.out))
   clear hx
   go_wp2
   all_goals
    go_ret2
    rw [HRS.out]
    exact ⟨_, rfl, HO.out, HX.out⟩
end
section
open Go.RowKit
theorem digs_lit1 (w : World) (T : TypeId) : Digs (Old (w.alloc (.cells #[.int .i64 1] T))) (w.alloc (.cells #[.int .i64 1] T)) (.slice (some ⟨w.heap.size, 0, none⟩) 1 1) [1] := by
 refine ⟨w.heap.size, 0, ⟨_, 1, rfl, Nat.le_refl _, by decide, fun _ => rfl, fun _ => by show w.heap.size < (w.alloc _).heap.size; rw [size_alloc]; omega⟩, fun j z hj => ?_⟩
 have hj2 := lt_of_some hj
 match j, hj with
 | 0, hj =>
  obtain rfl : 1 = z := by simpa using hj
  exact ⟨by decide, cell_new _ _ _ rfl rfl⟩
 | j + 1, _ => simp at hj2
theorem zed_small_neg (n : Nat) (w : World) (hn : n < 1000000000000000) :
  Calls Tryz.prog 36 #[.int .i64 (-((n : Int) + 1))] w fun e w' => ∃ v', e = .returned v' ∧ ZV (New w w') w' v' (-((n : Int) + 1)) ∧ Ext w w' := by
 have HK := hid (Ext.alloc (Ext.refl w) (.cells #[.bool false, .slice none 0 0] 56))
 have HSZ : Hid (w.heap.size < (w.alloc (.cells #[.bool false, .slice none 0 0] 56)).heap.size) := hid (by simp)
 have HC := hid (dig_small n (w.alloc (.cells #[.bool false, .slice none 0 0] 56)) (by omega))
 have hge : ¬ ((0 : Int) ≤ -((n : Int) + 1)) := by omega
 have q1 : decide ((0 : Int) ≤ -((n : Int) + 1)) = false := decide_eq_false hge
 have q2 : (-(-((n : Int) + 1) + 1)) = (n : Int) := by omega
 have HL : Hid ((rep 10 n).length ≤ 20) := hid (rep_len_le two_le_10 _ _ (Nat.lt_of_lt_of_le hn (by decide)))
 have HV : Hid (rep 10 (val 10 (rep 10 n) + val 10 [1]) = rep 10 (n + 1)) := hid (by rw [val_rep (by decide)]; rfl)
 obtain ⟨m, hm⟩ : ∃ m : Int, m = -((n : Int) + 1) := ⟨_, rfl⟩
 have HM := hid hm
 have hm2 : m + 1 = -(n : Int) := by omega
 have hm3 : ¬ (0 ≤ m) := by omega
 have q3 : decide ((0 : Int) ≤ m) = false := decide_eq_false hm3
 rw [← hm]
 clear hge q1 q2 hm
 go_enter Tryz.func36, Tryz.ntmps36
 go_wp2_with fail
 with_reducible refine HC.out.mono ?_
 rintro e w1 ⟨v1, rfl, hd, hx⟩
 have HX := hid (HK.out.trans hx)
 have HX1 := hid hx
 have HA := hid (dig_add (S := Old (w1.alloc (.cells #[.int .i64 1] 3))) v1 (.slice (some ⟨w1.heap.size, 0, none⟩) 1 1) (rep 10 n) [1] (w1.alloc (.cells #[.int .i64 1] 3)) (hd.to (Kept.ext (Ext.alloc (Ext.refl _) _) New.lt) (fun k hk => Nat.lt_of_lt_of_le hk.2 (Ext.alloc (Ext.refl _) _).size)) (digs_lit1 w1 3) (fun _ h => h) (by have := HL.out; omega) (by simp))
 rw [HV.out] at HA
 obtain ⟨r0, r1, f0, f1⟩ := new2 hx
 have HE := hid (And.intro (And.intro r0 r1) (And.intro f0 f1))
 obtain ⟨a1, n1, rfl⟩ := hd.form
 clear hd hx r0 r1 f0 f1
 go_wp2_with fail
 with_reducible refine HA.out.mono ?_
 rintro e w2 ⟨v2, rfl, hd2, hx2⟩
 have HX2 := hid ((HX1.out.alloc _).trans hx2)
 have hy : Ext w1 w2 := (Ext.alloc (Ext.refl _) _).trans hx2
 have r0 := hy.cell HE.out.1.1
 have r1 := hy.cell HE.out.1.2
 have f0 := hy.free (lt_of_cell HE.out.1.1) HE.out.2.1
 have f1 := hy.free (lt_of_cell HE.out.1.1) HE.out.2.2
 have HE2 := hid (And.intro r0 r1)
 have HD := hid (hd2.to (S' := New w1 w2) (Kept.refl _ _) (New.mono (Ext.alloc (Ext.refl _) _)))
 obtain ⟨a2, n2, rfl⟩ := hd2.form
 clear hd2 hx2 hy
 go_wp2
 have hdd := fun x y => two_set x y HE2.out.1 HE2.out.2
 refine bodyPost_ret (by simp [results, Tryz.results36, go_sem, (hdd _ _).1, (hdd _ _).2]; rfl) rfl ?_
 have hz := zv_mk (b := true) HD.out
 have hsg : sg true (n + 1) = m := by rw [HM.out]; unfold sg; simp
 rw [hsg] at hz
 have hz2 : ZV (New w1 w2) w2 (.agg #[.bool true, .slice a2 (rep 10 (n + 1)).length n2]) m := by simpa using hz
 have hg := fun x y => ret_zed (w0 := w) (b := w.heap.size) (hz2.to (S' := New (w.alloc (.cells #[.bool false, .slice none 0 0] 56)) w2) (Kept.refl _ _) (fun k hk => ⟨Nat.le_trans HX1.out.size hk.1, hk.2⟩)) HK.out HX2.out (Nat.le_refl _) HSZ.out x y
 exact ⟨_, rfl, (hg _ _).1, (hg _ _).2⟩
end
section
open Go.RowKit
theorem Polys.form {S : Nat → Prop} {w : World} {v : Value} {zs : List (List RTerm)} (h : Polys S w v zs) : ∃ a cap, v = .slice a zs.length cap := by
 obtain ⟨b, off, ⟨a, cap, h1, _⟩, _⟩ := h
 exact ⟨a, cap, h1⟩
theorem Polys.ext {S : Nat → Prop} {w W : World} {v : Value} {zs : List (List RTerm)} (h : Polys S w v zs) (hx : Ext w W) (hS : ∀ k, S k → k < w.heap.size) : Polys S W v zs := h.to (Kept.ext hx hS) (fun _ h => h)
theorem Polys.len_le {S : Nat → Prop} {w : World} {v : Value} {zs : List (List RTerm)} (h : Polys S w v zs) : zs.length ≤ 9223372036854775807 := by
 obtain ⟨b, off, ⟨a, cap, h1, h2, h3, _⟩, _⟩ := h
 unfold maxLen at h3
 omega
theorem Polys.cellAt {S : Nat → Prop} {w : World} {ts : List (List RTerm)} {a : Option Addr} {n cap k : Nat} {t : List RTerm} (h : Polys S w (.slice a n cap) ts) (ht : ts[k]? = some t) :
  ∃ b off vp, a = some ⟨b, off, none⟩ ∧ n = ts.length ∧ n ≤ cap ∧ cap ≤ 9223372036854775807 ∧ S b ∧ w.cell? ⟨b, off + k, none⟩ = some vp ∧ Terms S w vp t := by
 obtain ⟨b, off, ⟨a', cap', h1, h2, h3, h4, h5⟩, hc⟩ := h
 obtain ⟨rfl, rfl, rfl⟩ : a = a' ∧ n = ts.length ∧ cap = cap' := by simpa using h1
 have hp : 0 < ts.length := by have := lt_of_some ht; omega
 obtain ⟨vp, g1, g2⟩ := hc k t ht
 exact ⟨b, off, vp, h4 hp, rfl, h2, h3, h5 hp, g1, g2⟩
def smallL (l : List (List RTerm)) : Prop := ∀ p ∈ l, smallT p
end
section
open Go.RowKit
theorem rpoly_mul {S : Nat → Prop} (vp vq : Value) (p q : PZ) (w : World) (hS : ∀ k, S k → k < w.heap.size) (hp : RTs S w vp p) (hq : RTs S w vq q) (hmp : mayAll p) (hmq : mayAll q) (hszp : szP p) (hszq : szP q) (hsz : szM p q) :
  Calls Tryz.prog 18 #[vp, vq] w fun e w' => ∃ v', e = .returned v' ∧ RTs (Plus S w w') w' v' (timesV (timesP p q)) ∧ Ext w w' := by
 have HT := hid (rpoly_times vp vq p q w hS hp hq hmp hmq hszp hszq hsz)
 clear hp hq
 go_enter Tryz.func18, Tryz.ntmps18
 go_wp2_with fail
 refine HT.out.mono ?_
 rintro e w1 ⟨v1, rfl, hp1, hx1⟩
 have HX1 := hid hx1
 have HP1 := hid hp1
 clear hx1 hp1
 go_wp2
 all_goals
  go_ret
  exact ⟨_, rfl, HP1.out, HX1.out⟩
theorem plainP_ofP {p : PZ} (h : canP p) : plainP (ofP p) = p := by
 unfold plainP
 rw [if_pos (mayT_ofP h)]
 exact toP_ofP p
theorem Terms.on {w W : World} {v : Value} {z : List RTerm} (h : Terms (Old w) w v z) (hx : Ext w W) : Terms (Old W) W v z := h.to (Kept.ext hx (fun _ h => h)) (old_lt hx)
end
section
open Go.RowKit
theorem zed_neg {S : Nat → Prop} (vd : Value) (x : Int) (w : World) (hd : Digs S w vd (rep 10 x.natAbs)) :
  Calls Tryz.prog 93 #[.agg #[.bool (decide (x < 0)), vd]] w fun e w' => e = .returned (.agg #[.bool (decide (-x < 0)), vd]) ∧ Ext w w' := by
 obtain ⟨a, c, rfl⟩ := hd.form
 have hlen := rep10_pos x.natAbs
 obtain ⟨n, hn⟩ : ∃ n, n = (rep 10 x.natAbs).length := ⟨_, rfl⟩
 rw [← hn] at hlen ⊢
 have hl := hd.len_le
 rw [← hn] at hl
 have hpos : decide (0 < n) = decide (x ≠ 0) := by rw [hlen, decide_eq_decide]; omega
 have HPOS := hid hpos
 clear hd hn hlen hpos
 rcases (show x < 0 ∨ x = 0 ∨ 0 < x by omega) with hx | hx | hx
 ·have e1 : decide (x < 0) = true := decide_eq_true hx
  have E2 : Hid (decide (-x < 0) = false) := hid (decide_eq_false (by omega))
  rw [e1]
  clear hx e1 hl
  go_enter Tryz.func93, Tryz.ntmps93
  go_wp2
  all_goals
   refine bodyPost_ret (by simp [results, Tryz.results93, go_sem]; rfl) rfl ?_
   exact ⟨by rw [E2.out], Ext.alloc (Ext.alloc (Ext.refl w) _) _⟩
 ·subst hx
  have hn0 : n = 0 := by have := HPOS.out; simpa using this
  subst hn0
  have e1 : decide ((0 : Int) < 0) = false := by decide
  have E2 : Hid (decide (-(0 : Int) < 0) = false) := hid (by decide)
  rw [e1]
  clear e1 hl
  go_enter Tryz.func93, Tryz.ntmps93
  go_wp2
  all_goals
   refine bodyPost_ret (by simp [results, Tryz.results93, go_sem]; rfl) rfl ?_
   exact ⟨by rw [E2.out], Ext.alloc (Ext.alloc (Ext.refl w) _) _⟩
 ·have e1 : decide (x < 0) = false := decide_eq_false (by omega)
  have E2 : Hid (decide (-x < 0) = true) := hid (decide_eq_true (by omega))
  have hn0 : 0 < n := by
   have := HPOS.out
   rw [decide_eq_decide] at this
   exact this.2 (by omega)
  rw [e1]
  clear hx e1
  go_enter Tryz.func93, Tryz.ntmps93
  go_wp2
  all_goals
   refine bodyPost_ret (by simp [results, Tryz.results93, go_sem]; rfl) rfl ?_
   exact ⟨by rw [E2.out], Ext.alloc (Ext.alloc (Ext.refl w) _) _⟩
def negP (p : PZ) : PZ := p.map fun t => (-t.1, t.2)
theorem negP_at {p : PZ} {k : Nat} {t : Int × Mono} (h : p[k]? = some t) : negP (p.take (k + 1)) = negP (p.take k) ++ [(-t.1, t.2)] := by
 rw [List.take_add_one, h]
 unfold negP
 rw [List.map_append]
 rfl
theorem negP_length (p : PZ) : (negP p).length = p.length := by unfold negP; rw [List.length_map]
theorem negP_may {p : PZ} (h : mayAll p) : mayAll (negP p) := fun t ht => by
 obtain ⟨u, hu, rfl⟩ := List.mem_map.1 ht
 exact h u hu
theorem szZ_neg {x : Int} (h : szZ x) : szZ (-x) := by unfold szZ; rw [Int.natAbs_neg]; exact h
theorem negP_sz {p : PZ} (h : szP p) : szP (negP p) := ⟨by rw [negP_length]; exact h.1, fun t ht => by
 obtain ⟨u, hu, rfl⟩ := List.mem_map.1 ht
 exact szZ_neg (h.2 u hu)⟩
theorem rpoly_neg {S : Nat → Prop} (v : Value) (p : PZ) (w : World) (h : RTs S w v p) (hS : ∀ k, S k → k < w.heap.size) (hsz : szP p) :
  Calls Tryz.prog 62 #[v] w fun e w' => ∃ v', e = .returned v' ∧ RTs (Plus S w w') w' v' (negP p) ∧ Ext w w' := by
 obtain ⟨j0, hj, jz0, jz1, jz2⟩ := info_parts Tryz.infoT
 have hl := h.len_le
 have H := hid h
 have HSZ := hid hsz
 obtain ⟨a, cap, rfl⟩ := h.form
 clear h hsz
 go_enter Tryz.func62, Tryz.ntmps62
 go_wp2
 go_loopw [3, 4] (fun o i wr => ∃ k xs, k ≤ p.length ∧ i = .int .i64 (k : Nat) ∧ Ext w wr ∧ Hid (wr.ownsRow w.heap.size 95 3 o k xs) ∧ Hid (Cells3 S w xs (negP (p.take k)))) (fun _ i _ => p.length - (intOf i).toNat)
 case atStart => exact ⟨0, [], Nat.zero_le _, rfl, Ext.refl _, hid (World.ownsRow_nil _ _ _ _), hid rfl⟩
 case round =>
  obtain ⟨k, xs, hk, rfl, hx, HW, HXS⟩ := hrel
  have HX := hid hx
  by_cases hlt : k < p.length
  ·obtain ⟨t, ht⟩ := some_of_lt hlt
   obtain ⟨b, off, vd, vo, rfl, -, hn1, hm1, hSb, h1, h2, h3, h4, h5⟩ := H.out.cellAt ht
   have HT := hid (negP_at ht)
   have H4 := hid h4
   have H5 := hid h5
   obtain ⟨ad, cd, rfl⟩ := h4.form
   obtain ⟨ao, co, rfl⟩ := h5.form
   have x0 : Ext w wr.drew := hx.drew
   have HX0 := hid x0
   have h0 : _ ∧ _ ∧ _ := And.intro h1 (And.intro h2 h3)
   have c1 := fun (W : World) (hW : Ext w W) => zed_neg (S := S) (.slice ad (rep 10 t.1.natAbs).length cd) t.1 W (H4.out.ext hW hS)
   obtain ⟨bt, hbt⟩ : ∃ b, b = decide (t.1 < 0) := ⟨_, rfl⟩
   obtain ⟨bn, hbn⟩ : ∃ b, b = decide (-t.1 < 0) := ⟨_, rfl⟩
   obtain ⟨nt, hnt⟩ : ∃ n, n = (rep 10 t.1.natAbs).length := ⟨_, rfl⟩
   obtain ⟨nm, hnm⟩ : ∃ n, n = t.2.length := ⟨_, rfl⟩
   have HBN := hid hbn
   rw [← hbt, ← hnt, ← hnm] at h0
   rw [← hbt, ← hnt, ← hbn] at c1
   rw [← hnm] at H5
   rw [← hnt] at H4
   have S0 : _ ∧ _ ∧ _ := And.intro (x0.cell h0.1) (And.intro (x0.cell h0.2.1) (x0.cell h0.2.2))
   have C1 := hid (c1 wr.drew x0)
   have HB3 : Hid (k + 1 ≤ maxLen) := hid (by have := HSZ.out.1; unfold maxLen; omega)
   have HB4 : Hid ((k + 1) * 56 ≤ 140737488355328) := hid (by have := HSZ.out.1; omega)
   have HWR := hid (own_ext HW.out ((Ext.refl wr).drew))
   have HC0 := hid h0
   clear ht h0 h1 h2 h3 h4 h5 hx x0 c1 hbt hnt hnm hbn
   go_wp2
   go_region_held3 (fun W => W.cell? ⟨b, off + k * 3, none⟩ = some (.bool bt) ∧ W.cell? ⟨b, off + k * 3 + 1, none⟩ = some (.slice ad nt cd) ∧ W.cell? ⟨b, off + k * 3 + 2, none⟩ = some (.slice ao nm co)) (first | exact S0 | exact S1 | exact ⟨cell_old _ S1.1, cell_old _ S1.2.1, cell_old _ S1.2.2⟩ | exact S5)
    (first
     | (go_at_call 93; (with_reducible refine C1.out.mono ?_); rintro e w1 ⟨rfl, hx1⟩; have HX1 := hid (HX0.out.trans hx1); have S1 : _ ∧ _ ∧ _ := And.intro (hx1.cell S0.1) (And.intro (hx1.cell S0.2.1) (hx1.cell S0.2.2)); have HW3 := hid (own_ext (own_ext HWR.out hx1) (Ext.alloc (Ext.refl w1) (.cells #[.bool bn, .slice ad nt cd, .slice ao nm co] 95))); have HSRC3 := hid (src_one w1 #[.bool bn, .slice ad nt cd, .slice ao nm co] 95 (three_cell rfl rfl rfl) (size := 3) rfl); have HB5 := hid (HX1.out.alloc (.cells #[.bool bn, .slice ad nt cd, .slice ao nm co] 95)).size; clear hx1)
     | (refine step_append_src rfl (.tmp 11) (.tmp 24) 61 rfl w.heap.size 95 j0 (.agg #[.bool false, .slice none 0 0, .slice none 0 0]) 3 56 Tryz.underlying61 hj jz0 jz1 jz2 rfl (Nat.succ_pos _) _ k xs rfl HW3.out (some ⟨w1.heap.size, 0, none⟩) 1 1 _ rfl HSRC3.out HB3.out HB4.out HB5.out ?_; intro v5 w5 hown hg hbk; have HW5 := hid hown; have HX5 := hid (own_grown0 (HX1.out.alloc (.cells #[.bool bn, .slice ad nt cd, .slice ao nm co] 95)) HW3.out hg); have S5 : _ ∧ _ ∧ _ := And.intro (HX5.out.cell HC0.out.1) (And.intro (HX5.out.cell HC0.out.2.1) (HX5.out.cell HC0.out.2.2)); clear hown hg hbk))
   all_goals
    go_wp2
    go_roundw
    case rel =>
     refine ⟨k + 1, xs ++ (#[.bool bn, .slice ad nt cd, .slice ao nm co] : Array Value).toList, by omega, by go_num, HX5.out, HW5, hid ?_⟩
     rw [HT.out]
     have hone : Cells3 S w (#[.bool bn, .slice ad nt cd, .slice ao nm co] : Array Value).toList [(-t.1, t.2)] := by
      rw [HBN.out]
      exact Cells3.single (t := (-t.1, t.2)) (by rw [Int.natAbs_neg]; exact H4.out) H5.out
     exact HXS.out.append hone
    case measure => simp only [intOf]; omega
  ·obtain rfl : k = p.length := by omega
   have HE : Hid (p.take p.length = p) := hid List.take_length
   clear hx
   go_wp2
   all_goals
    go_ret
    refine ⟨_, rfl, ?_, HX.out⟩
    have hc := HXS.out
    rw [HE.out] at hc
    exact own_rts (by rw [negP_length]; exact HW.out) (hc.to (Kept.ext HX.out hS) (fun _ h => .inl h)) (fun k h1 h2 => .inr ⟨h1, h2⟩)
theorem rpoly_sub {S : Nat → Prop} (vp vq : Value) (p q : PZ) (w : World) (hS : ∀ k, S k → k < w.heap.size) (hp : RTs S w vp p) (hq : RTs S w vq q) (hmp : mayAll p) (hmq : mayAll q) (hszq : szP q) (hsz : ∀ k, k ≤ q.length → szP (addP p ((negP q).take k))) :
  Calls Tryz.prog 29 #[vp, vq] w fun e w' => ∃ v', e = .returned v' ∧ RTs (Plus S w w') w' v' (addP p (negP q)) ∧ Ext w w' := by
 have C1 := hid (rpoly_neg vq q w hq hS hszq)
 have C2 := hid (fun (v1 : Value) (w1 : World) (hx1 : Ext w w1) (h1 : RTs (Plus S w w1) w1 v1 (negP q)) => rpoly_add (S := Plus S w w1) vp v1 p (negP q) w1 (plus_lt hS hx1) ((hp.ext hx1 hS).to (Kept.refl _ _) (fun _ h => .inl h)) h1 hmp (negP_may hmq) (negP_sz hszq) (fun k hk => hsz k (by rw [negP_length] at hk; exact hk)))
 clear hp hq hmp hmq hszq hsz
 go_enter Tryz.func29, Tryz.ntmps29
 go_wp2_with fail
 refine C1.out.mono ?_
 rintro e w1 ⟨v1, rfl, hp1, hx1⟩
 have HX1 := hid hx1
 have HP1 := hid hp1
 have C3 := hid (C2.out v1 w1 hx1 hp1)
 clear hx1 hp1 C2
 go_wp2_with fail
 refine C3.out.mono ?_
 rintro e w2 ⟨v2, rfl, hp2, hx2⟩
 have HX2 := hid (HX1.out.trans hx2)
 have HP2 := hid (hp2.to (Kept.refl _ _) (plus_plus HX1.out hx2))
 clear hx2 hp2
 go_wp2
 all_goals
  go_ret
  exact ⟨_, rfl, HP2.out, HX2.out⟩
end
section
theorem mayTail_weaken {l k : Int} {m : Mono} (h : mayTail l m = true) (hk : k ≤ l) : mayTail k m = true := by
 cases m with
 | nil => rfl
 | cons x r =>
  simp only [mayTail, Bool.and_eq_true, decide_eq_true_eq] at h ⊢
  exact ⟨by omega, h.2⟩
theorem ex_nonneg {m : Mono} (h : mayM m = true) (v : Int) : 0 ≤ ex m v := (ex_range h v).1
theorem canP_sub {p q : PZ} (h : canP p) (hs : q.Sublist p) : canP q := ⟨fun t ht => h.1 t (hs.mem ht), h.2.sublist hs⟩
end
section
def lk : List (Int × Int × Int) → Int → Int × Int
 | [], _ => (0, 0)
 | t :: r, v => if t.1 = v then t.2 else lk r v
def ris (last : Int) : List (Int × Int × Int) → Prop
 | [] => True
 | t :: r => last < t.1 ∧ t.1 ≤ 200 ∧ ris t.1 r
theorem lk_low {last : Int} {l : List (Int × Int × Int)} (h : ris last l) {u : Int} (hu : u ≤ last) : lk l u = (0, 0) := by
 induction l generalizing last with
 | nil => rfl
 | cons t r ih =>
  obtain ⟨h1, h2, h3⟩ := h
  rw [lk, if_neg (by omega)]
  exact ih h3 (by omega)
theorem both_lk {last : Int} {a b : Mono} (ha : mayTail last a = true) (hb : mayTail last b = true) : ris last (both a b) ∧ ∀ u, lk (both a b) u = (ex a u, ex b u) := by
 generalize hn : a.length + b.length = n
 induction n using Nat.strongRecOn generalizing a b last with
 | ind n ih =>
 cases a with
 | nil =>
  cases b with
  | nil => rw [both_nil]; exact ⟨trivial, fun u => rfl⟩
  | cons y b =>
   have hB := hb
   simp only [mayTail, Bool.and_eq_true, decide_eq_true_eq] at hb
   simp only [List.length_cons, List.length_nil] at hn
   obtain ⟨h1, h2⟩ := ih (0 + b.length) (by omega) (a := []) (b := b) (last := y.1) rfl hb.2 (by simp)
   rw [both_right]
   refine ⟨⟨hb.1.1, hb.1.2.1, h1⟩, fun u => ?_⟩
   rw [lk, h2, ex]
   simp only [ex]
   split <;> rfl
 | cons x a =>
  cases b with
  | nil =>
   have hA := ha
   simp only [mayTail, Bool.and_eq_true, decide_eq_true_eq] at ha
   simp only [List.length_cons, List.length_nil] at hn
   obtain ⟨h1, h2⟩ := ih (a.length + 0) (by omega) (a := a) (b := []) (last := x.1) ha.2 rfl (by simp)
   rw [both_left]
   refine ⟨⟨ha.1.1, ha.1.2.1, h1⟩, fun u => ?_⟩
   rw [lk, h2]
   simp only [ex]
   split <;> rfl
  | cons y b =>
   have hA := ha
   have hB := hb
   simp only [mayTail, Bool.and_eq_true, decide_eq_true_eq] at ha hb
   simp only [List.length_cons] at hn
   rw [both_cons]
   split
   ·rename_i hlt
    have hb' : mayTail x.1 (y :: b) = true := by simp only [mayTail, Bool.and_eq_true, decide_eq_true_eq]; exact ⟨⟨hlt, hb.1.2⟩, hb.2⟩
    obtain ⟨h1, h2⟩ := ih (a.length + (b.length + 1)) (by omega) (a := a) (b := y :: b) (last := x.1) ha.2 hb' (by simp)
    refine ⟨⟨ha.1.1, ha.1.2.1, h1⟩, fun u => ?_⟩
    rw [lk, h2]
    by_cases hu : x.1 = u
    ·rw [if_pos hu, ← hu, ex_le_last hb' (Int.le_refl _), ex, if_pos rfl]
    ·rw [if_neg hu]; conv => rhs; rw [ex, if_neg hu]
   ·split
    ·rename_i hnlt hlt
     have ha' : mayTail y.1 (x :: a) = true := by simp only [mayTail, Bool.and_eq_true, decide_eq_true_eq]; exact ⟨⟨hlt, ha.1.2⟩, ha.2⟩
     obtain ⟨h1, h2⟩ := ih (a.length + 1 + b.length) (by omega) (a := x :: a) (b := b) (last := y.1) ha' hb.2 (by simp)
     refine ⟨⟨hb.1.1, hb.1.2.1, h1⟩, fun u => ?_⟩
     rw [lk, h2]
     by_cases hu : y.1 = u
     ·rw [if_pos hu, ← hu, ex_le_last ha' (Int.le_refl _), ex, if_pos rfl]
     ·rw [if_neg hu, show ex (y :: b) u = ex b u by rw [ex, if_neg hu]]
    ·rename_i h3 h4
     have hxy : x.1 = y.1 := by omega
     rw [← hxy] at hb
     obtain ⟨h1, h2⟩ := ih (a.length + b.length) (by omega) (a := a) (b := b) (last := x.1) ha.2 hb.2 (by simp)
     refine ⟨⟨ha.1.1, ha.1.2.1, h1⟩, fun u => ?_⟩
     rw [lk, h2]
     by_cases hu : x.1 = u
     ·rw [if_pos hu, ex, if_pos hu, ex, if_pos (by omega)]
     ·rw [if_neg hu, show ex (y :: b) u = ex b u by rw [ex, if_neg (by omega)], show ex (x :: a) u = ex a u by rw [ex, if_neg hu]]
theorem madeM_ex {f : Int → Int → Int} (h0 : f 0 0 ≤ 0) {last : Int} {l : List (Int × Int × Int)} (h : ris last l) (u : Int) : ex (madeM f l) u = if 0 < f (lk l u).1 (lk l u).2 then f (lk l u).1 (lk l u).2 else 0 := by
 induction l generalizing last with
 | nil =>
  rw [madeM, ex, lk, if_neg (show ¬ 0 < f 0 0 by omega)]
 | cons t r ih =>
  obtain ⟨h1, h2, h3⟩ := h
  rw [madeM, lk]
  by_cases hu : t.1 = u
  ·rw [if_pos hu]
   by_cases hf : 0 < f t.2.1 t.2.2
   ·rw [if_pos hf, if_pos hf, ex, if_pos hu]
   ·rw [if_neg hf, if_neg hf, ih h3, lk_low h3 (by omega), if_neg (show ¬ 0 < f 0 0 by omega)]
  ·rw [if_neg hu]
   by_cases hf : 0 < f t.2.1 t.2.2
   ·rw [if_pos hf, ex, if_neg hu, ih h3]
   ·rw [if_neg hf, ih h3]
theorem madeM_may {f : Int → Int → Int} {last : Int} {l : List (Int × Int × Int)} (h : ris last l) (hf : ∀ t ∈ l, f t.2.1 t.2.2 ≤ 10000) : mayTail last (madeM f l) = true := by
 induction l generalizing last with
 | nil => rfl
 | cons t r ih =>
  obtain ⟨h1, h2, h3⟩ := h
  have hr := ih h3 (fun u hu => hf u (by simp [hu]))
  rw [madeM]
  split
  ·rename_i h4
   have := hf t (by simp)
   simp only [mayTail, Bool.and_eq_true, decide_eq_true_eq]
   exact ⟨by omega, hr⟩
  ·exact mayTail_weaken hr (by omega)
theorem lk_mem {last : Int} {l : List (Int × Int × Int)} (h : ris last l) {t : Int × Int × Int} (ht : t ∈ l) : lk l t.1 = t.2 := by
 induction l generalizing last with
 | nil => simp at ht
 | cons x r ih =>
  obtain ⟨h1, h2, h3⟩ := h
  rw [lk]
  rcases List.mem_cons.1 ht with rfl | ht
  ·rw [if_pos rfl]
  ·by_cases e : x.1 = t.1
   ·exfalso
    have : ∀ (l : List (Int × Int × Int)) (k : Int), ris k l → ∀ t ∈ l, k < t.1 := by
     intro l
     induction l with
     | nil => intro k _ t ht; simp at ht
     | cons y s ih =>
      intro k hk t ht
      obtain ⟨g1, g2, g3⟩ := hk
      rcases List.mem_cons.1 ht with rfl | ht
      ·exact g1
      ·have := ih _ g3 t ht; omega
    have := this r x.1 h3 t ht
    omega
   ·rw [if_neg e]; exact ih h3 ht
theorem made_ex {f : Int → Int → Int} (h0 : f 0 0 ≤ 0) {a b : Mono} (ha : mayM a = true) (hb : mayM b = true) (u : Int) : ex (madeM f (both a b)) u = if 0 < f (ex a u) (ex b u) then f (ex a u) (ex b u) else 0 := by
 obtain ⟨h1, h2⟩ := both_lk ha hb
 rw [madeM_ex h0 h1, h2]
theorem made_may {f : Int → Int → Int} {a b : Mono} (ha : mayM a = true) (hb : mayM b = true) (hf : ∀ u, f (ex a u) (ex b u) ≤ 10000) : mayM (madeM f (both a b)) = true := by
 obtain ⟨h1, h2⟩ := both_lk ha hb
 refine madeM_may h1 (fun t ht => ?_)
 have := lk_mem h1 ht
 rw [h2] at this
 have h3 := hf t.1
 rw [← this]
 exact h3
theorem times_ex {a b : Mono} (ha : mayM a = true) (hb : mayM b = true) (u : Int) : ex (timesM a b) u = ex a u + ex b u := by
 unfold timesM
 rw [made_ex (by simp) ha hb]
 have h1 := ex_nonneg ha u
 have h2 := ex_nonneg hb u
 split <;> omega
theorem times_may {a b : Mono} (ha : mayM a = true) (hb : mayM b = true) : mayM (timesM a b) = true ↔ ∀ u, ex a u + ex b u ≤ 10000 := by
 constructor
 ·intro h u
  rw [← times_ex ha hb]
  exact (ex_range h u).2
 ·intro h
  exact made_may ha hb h
theorem one_may {v e : Int} (hv : 1 ≤ v ∧ v ≤ 200) (he : 1 ≤ e ∧ e ≤ 10000) : mayM [(v, e)] = true := by
 unfold mayM mayTail
 simp only [mayTail, Bool.and_true, decide_eq_true_eq]
 omega
theorem ex_one (v e u : Int) : ex [(v, e)] u = if v = u then e else 0 := by simp [ex]
end
section
theorem ex_snoc' {m : Mono} {v : Int} (h : ∀ x ∈ m, x.1 < v) (e u : Int) : ex (m ++ [(v, e)]) u = if u = v then e else ex m u := by
 induction m with
 | nil =>
  simp only [List.nil_append, ex]
  by_cases hu : v = u
  ·rw [if_pos hu, if_pos hu.symm]
  ·rw [if_neg hu, if_neg (fun k => hu k.symm)]
 | cons x r ih =>
  have h1 := h x (by simp)
  simp only [List.cons_append, ex, ih (fun y hy => h y (by simp [hy]))]
  by_cases hx : x.1 = u
  ·rw [if_pos hx, if_pos hx, if_neg (by omega)]
  ·rw [if_neg hx, if_neg hx]
theorem ofE_ex (f : Nat → Int) (n : Nat) (u : Nat) (h0 : ∀ j, 0 ≤ f j) : ex (ofE f n) (u : Int) = if 1 ≤ u ∧ u ≤ n then f u else 0 := by
 induction n with
 | zero =>
  simp only [ofE, ex]
  rw [if_neg (by omega)]
 | succ n ih =>
  simp only [ofE]
  by_cases hf : 0 < f (n + 1)
  ·rw [if_pos hf, ex_snoc' (fun x hx => by have := ofE_vars f n x hx; omega), ih]
   by_cases hu : u = n + 1
   ·subst hu
    rw [if_pos rfl, if_pos (by omega)]
   ·rw [if_neg (by omega)]
    by_cases h1 : 1 ≤ u ∧ u ≤ n
    ·rw [if_pos h1, if_pos (by omega)]
    ·rw [if_neg h1, if_neg (by omega)]
  ·rw [if_neg hf, ih]
   have := h0 (n + 1)
   by_cases hu : u = n + 1
   ·subst hu
    rw [if_neg (by omega), if_pos (by omega)]
    omega
   ·by_cases h1 : 1 ≤ u ∧ u ≤ n
    ·rw [if_pos h1, if_pos (by omega)]
    ·rw [if_neg h1, if_neg (by omega)]
theorem rtimes_eq {a b : Mono} (ha : mayM a = true) (hb : mayM b = true) : rtimes a b = if mayM (timesM a b) = true then some (timesM a b) else none := by
 unfold rtimes
 have h0 : ∀ j, 0 ≤ sumF a b j := fun j => by
  have h1 := ex_nonneg ha (j : Int)
  have h2 := ex_nonneg hb (j : Int)
  unfold sumF
  omega
 cases hov : overF (sumF a b) 200 with
 | true =>
  rw [if_pos rfl, if_neg]
  intro hm
  have h1 := (times_may ha hb).1 hm
  have h2 : ∀ n, overF (sumF a b) n = false := fun n => by
   induction n with
   | zero => rfl
   | succ n ih =>
    simp only [overF, ih, Bool.false_or, decide_eq_false_iff_not]
    have := h1 ((n + 1 : Nat) : Int)
    unfold sumF
    omega
  rw [h2] at hov
  cases hov
 | false =>
  have h1 := overF_not hov
  have hm : mayM (timesM a b) = true := (times_may ha hb).2 (fun u => by
   by_cases h2 : u < 1
   ·rw [ex_le_last ha (by omega), ex_le_last hb (by omega)]; omega
   ·by_cases h3 : 200 < u
    ·rw [ex_above ha h3, ex_above hb h3]; omega
    ·have := h1 u.toNat (by omega) (by omega)
     unfold sumF at this
     rwa [Int.toNat_of_nonneg (by omega)] at this)
  rw [if_neg (by simp), if_pos hm]
  refine congrArg some ?_
  refine mayM_ext (ofE_may (Nat.le_refl _) (fun j h2 h3 => h1 j h2 h3)) hm (fun k h2 h3 => ?_)
  rw [ofE_ex _ _ _ h0, if_pos ⟨h2, h3⟩, times_ex ha hb]
  rfl
theorem pair_yes {t u : Int × Mono} (ht : mayM t.2 = true) (hu : mayM u.2 = true) (h : mayM (timesM t.2 u.2) = true) : pairP t u = some (t.1 * u.1, timesM t.2 u.2) := by
 unfold pairP
 rw [rtimes_eq ht hu, if_pos h]
 rfl
theorem pair_no {t u : Int × Mono} (ht : mayM t.2 = true) (hu : mayM u.2 = true) (h : mayM (timesM t.2 u.2) = false) : pairP t u = none := by
 unfold pairP
 rw [rtimes_eq ht hu, if_neg (by rw [h]; exact Bool.false_ne_true)]
 rfl
end
section
open Go.RowKit
end
section
open Go.RowKit
section
variable {P : Program}
end
end
section
section
variable {α : Type} {le : α → α → Bool}
structure TotalLe (le : α → α → Bool) : Prop where
 trans : ∀ a b c, le a b = true → le b c = true → le a c = true
 total : ∀ a b, le a b = true ∨ le b a = true
theorem TotalLe.not {x y : α} (h : TotalLe le) (hn : le x y = false) : le y x = true := by
 rcases h.total x y with h | h
 ·rw [hn] at h; cases h
 ·exact h
theorem TotalLe.not_of (h : TotalLe le) {x y z : α} (h1 : le x y = false) (h2 : le x z = true) : le z y = false := by
 cases h3 : le z y with
 | false => rfl
 | true =>
  have := h.trans _ _ _ h2 h3
  rw [h1] at this; cases this
theorem TotalLe.not_of' (h : TotalLe le) {x y z : α} (h1 : le x y = false) (h2 : le z y = true) : le x z = false := by
 cases h3 : le x z with
 | false => rfl
 | true =>
  have := h.trans _ _ _ h3 h2
  rw [h1] at this; cases this
abbrev mergeL (le : α → α → Bool) (xs ys : List α) : List α := List.merge xs ys le
theorem mergeL_nil (ys : List α) : mergeL le [] ys = ys := List.nil_merge ys
theorem mergeL_right (xs : List α) : mergeL le xs [] = xs := List.merge_right xs
theorem mergeL_pos {x y : α} (xs ys : List α) (h : le x y = true) : mergeL le (x :: xs) (y :: ys) = x :: mergeL le xs (y :: ys) := List.cons_merge_cons_pos le xs ys h
theorem mergeL_neg {x y : α} (xs ys : List α) (h : le x y = false) : mergeL le (x :: xs) (y :: ys) = y :: mergeL le (x :: xs) ys := by
 unfold mergeL
 rw [List.cons_merge_cons, if_neg (by rw [h]; exact Bool.false_ne_true)]
theorem mergeL_perm (xs ys : List α) : (mergeL le xs ys).Perm (xs ++ ys) := List.merge_perm_append le
def SortedL (le : α → α → Bool) (l : List α) : Prop := l.Pairwise (fun a b => le a b = true)
theorem mergeL_sorted (h : TotalLe le) {xs ys : List α} (hx : SortedL le xs) (hy : SortedL le ys) : SortedL le (mergeL le xs ys) :=
 List.pairwise_merge (fun a b c => h.trans a b c) (fun a b => by rcases h.total a b with h | h <;> simp [h]) _ _ hx hy
theorem mergeL_split (A1 A2 B1 B2 : List α) (h1 : ∀ x ∈ A1, ∀ y ∈ B2, le x y = true) (h2 : ∀ y ∈ B1, ∀ x ∈ A2, le x y = false) :
  mergeL le (A1 ++ A2) (B1 ++ B2) = mergeL le A1 B1 ++ mergeL le A2 B2 := by
 induction A1 generalizing B1 with
 | nil =>
  rw [mergeL_nil]
  induction B1 with
  | nil => rfl
  | cons b B1 ih =>
   cases A2 with
   | nil => simp
   | cons x A2 =>
    have := ih (fun y hy => h2 y (by simp [hy]))
    simp only [List.nil_append, List.cons_append] at this ⊢
    rw [mergeL_neg _ _ (h2 b (by simp) x (by simp)), this]
 | cons a A1 ihA =>
  induction B1 with
  | nil =>
   rw [mergeL_right]
   cases B2 with
   | nil => simp
   | cons y B2 =>
    have := ihA [] (fun x hx => h1 x (by simp [hx])) (fun y hy => by simp at hy)
    rw [mergeL_right] at this
    simp only [List.nil_append, List.cons_append] at this ⊢
    rw [mergeL_pos _ _ (h1 a (by simp) y (by simp)), this]
  | cons b B1 ihB =>
   cases hab : le a b with
   | true =>
    have := ihA (b :: B1) (fun x hx => h1 x (by simp [hx])) h2
    simp only [List.cons_append] at this ⊢
    rw [mergeL_pos _ _ hab, mergeL_pos _ _ hab, this]
    rfl
   | false =>
    have := ihB (fun y hy => h2 y (by simp [hy]))
    simp only [List.cons_append] at this ⊢
    rw [mergeL_neg _ _ hab, mergeL_neg _ _ hab, this]
    rfl
theorem mergeL_assoc (h : TotalLe le) (A B C : List α) : mergeL le (mergeL le A B) C = mergeL le A (mergeL le B C) := by
 generalize hn : A.length + B.length + C.length = n
 induction n using Nat.strongRecOn generalizing A B C with
 | ind n ih =>
  cases A with
  | nil => rw [mergeL_nil, mergeL_nil]
  | cons a A =>
   cases B with
   | nil => rw [mergeL_nil, mergeL_right]
   | cons b B =>
    cases C with
    | nil => rw [mergeL_right, mergeL_right]
    | cons c C =>
     simp only [List.length_cons] at hn
     cases hab : le a b with
     | true =>
      rw [mergeL_pos _ _ hab]
      cases hac : le a c with
      | true =>
       rw [mergeL_pos _ _ hac, ih _ (by simp only [List.length_cons]; omega) A (b :: B) (c :: C) rfl]
       cases hbc : le b c with
       | true => rw [mergeL_pos _ _ hbc, mergeL_pos _ _ hab]
       | false => rw [mergeL_neg _ _ hbc, mergeL_pos _ _ hac]
      | false =>
       have hbc : le b c = false := h.not_of hac hab
       rw [mergeL_neg _ _ hac, mergeL_neg _ _ hbc, mergeL_neg _ _ hac, ← mergeL_pos _ _ hab, ih _ (by simp only [List.length_cons]; omega) (a :: A) (b :: B) C rfl]
     | false =>
      rw [mergeL_neg _ _ hab]
      cases hbc : le b c with
      | true => rw [mergeL_pos _ _ hbc, mergeL_pos _ _ hbc, mergeL_neg _ _ hab, ih _ (by simp only [List.length_cons]; omega) (a :: A) B (c :: C) rfl]
      | false =>
       have hac : le a c = false := by
        cases h3 : le a c with
        | false => rfl
        | true =>
         have := h.trans _ _ _ (h.not hab) h3
         rw [hbc] at this; cases this
       rw [mergeL_neg _ _ hbc, mergeL_neg _ _ hbc, mergeL_neg _ _ hac, ← mergeL_neg _ _ hab, ih _ (by simp only [List.length_cons]; omega) (a :: A) (b :: B) C rfl]
def sortL (le : α → α → Bool) : List α → List α
 | [] => []
 | x :: xs => mergeL le [x] (sortL le xs)
theorem sortL_append (h : TotalLe le) (A B : List α) : sortL le (A ++ B) = mergeL le (sortL le A) (sortL le B) := by
 induction A with
 | nil => exact (mergeL_nil _).symm
 | cons a A ih =>
  show mergeL le [a] (sortL le (A ++ B)) = mergeL le (mergeL le [a] (sortL le A)) (sortL le B)
  rw [ih, mergeL_assoc h]
theorem sortL_one (x : α) : sortL le [x] = [x] := mergeL_right [x]
theorem sortL_perm (l : List α) : (sortL le l).Perm l := by
 induction l with
 | nil => exact List.Perm.refl _
 | cons x l ih => exact (mergeL_perm [x] _).trans (ih.cons x)
theorem sortL_len (l : List α) : (sortL le l).length = l.length := (sortL_perm l).length_eq
theorem sortL_sorted (h : TotalLe le) (l : List α) : SortedL le (sortL le l) := by
 induction l with
 | nil => exact List.Pairwise.nil
 | cons x l ih => exact mergeL_sorted h (List.pairwise_singleton _ _) ih
theorem mergeL_put {S1 S2 : List α} {x : α} (h1 : ∀ y ∈ S1, le y x = true) (h2 : ∀ y ∈ S2, le y x = false) : mergeL le (S1 ++ S2) [x] = S1 ++ x :: S2 := by
 have e := mergeL_split (le := le) S1 S2 [x] [] (fun _ _ y hy => by simp at hy) (fun y hy z hz => by rw [List.mem_singleton.1 hy]; exact h2 z hz)
 rw [List.append_nil, mergeL_right] at e
 rw [e]
 have e2 := mergeL_split (le := le) S1 [] [] [x] (fun y hy z hz => by rw [List.mem_singleton.1 hz]; exact h1 y hy) (fun y hy => by simp at hy)
 rw [List.append_nil, List.nil_append, mergeL_nil, mergeL_right] at e2
 rw [e2]
 simp
theorem mergeL_put' {S1 S2 : List α} {x : α} (h1 : ∀ y ∈ S1, le x y = false) (h2 : ∀ y ∈ S2, le x y = true) : mergeL le [x] (S1 ++ S2) = S1 ++ x :: S2 := by
 have e := mergeL_split (le := le) [] [x] S1 S2 (fun y hy => by simp at hy) (fun y hy z hz => by rw [List.mem_singleton.1 hz]; exact h1 y hy)
 rw [List.nil_append, mergeL_nil] at e
 rw [e]
 have e2 := mergeL_split (le := le) [x] [] [] S2 (fun y hy z hz => by rw [List.mem_singleton.1 hy]; exact h2 z hz) (fun y hy => by simp at hy)
 rw [List.append_nil, List.nil_append, mergeL_nil, mergeL_right] at e2
 rw [e2]
 rfl
theorem SortedL.last {A : List α} {x y : α} (h : TotalLe le) (hs : SortedL le (A ++ [x])) (hxy : le x y = true) : ∀ z ∈ A ++ [x], le z y = true := by
 intro z hz
 obtain ⟨_, _, h3⟩ := List.pairwise_append.1 hs
 rcases List.mem_append.1 hz with hz | hz
 ·exact h.trans _ _ _ (h3 z hz x (by simp)) hxy
 ·rw [List.mem_singleton.1 hz]; exact hxy
end
end
section
def sumP (g : PZ) : Int := (g.map (·.1)).foldr (· + ·) 0
def oneP (c : Int) (m : Mono) : PZ := if c = 0 then [] else [(c, m)]
inductive Coll : PZ → PZ → Prop where
 | nil : Coll [] []
 | group (t : Int × Mono) (g r q : PZ) (h : ∀ u ∈ g, u.2 = t.2) (hr : ∀ u ∈ r.head?, u.2 ≠ t.2) (k : Coll r q) : Coll (t :: g ++ r) (oneP (t.1 + sumP g) t.2 ++ q)
theorem cf_same {g : PZ} {m : Mono} (h : ∀ u ∈ g, u.2 = m) (m' : Mono) : cf g m' = if m = m' then sumP g else 0 := by
 induction g with
 | nil => simp [cf, sumP]
 | cons u g ih =>
  have h1 := h u (by simp)
  have h2 := ih (fun v hv => h v (by simp [hv]))
  rw [cf, h2, h1]
  have e : sumP (u :: g) = u.1 + sumP g := rfl
  rw [e]
  split <;> omega
theorem cf_oneP (c : Int) (m m' : Mono) : cf (oneP c m) m' = if m = m' then c else 0 := by
 unfold oneP
 split
 ·rename_i h; subst h; simp [cf]
 ·simp [cf]
theorem fall_head {t : Int × Mono} {g r : PZ} (hm : mayAll (t :: g ++ r)) (hf : (t :: g ++ r).Pairwise fun a b => 0 ≤ compareM a.2 b.2) (hr : ∀ u ∈ r.head?, u.2 ≠ t.2) : ∀ u ∈ r, compareM t.2 u.2 = 1 := by
 have ht := hm t (by simp)
 cases r with
 | nil => intro u hu; simp at hu
 | cons x r =>
  have hx := hm x (by simp)
  have hne := hr x (by simp)
  have h1 : ∀ u ∈ g ++ x :: r, 0 ≤ compareM t.2 u.2 := (List.pairwise_cons.1 (show (t :: (g ++ x :: r)).Pairwise _ from hf)).1
  have hxt : compareM t.2 x.2 = 1 := by
   have := h1 x (by simp)
   rcases compareM_cases ht hx with g | g | g
   ·omega
   ·exact absurd ((compareM_zero ht hx).1 g).symm hne
   ·exact g
  intro u hu
  rcases List.mem_cons.1 hu with rfl | hu'
  ·exact hxt
  ·have hu2 := hm u (by simp [hu'])
   have h2 : 0 ≤ compareM x.2 u.2 := by
    have := (List.pairwise_append.1 (show ((t :: g) ++ (x :: r)).Pairwise _ from hf)).2.1
    exact (List.pairwise_cons.1 this).1 u hu'
   rcases compareM_cases hx hu2 with k | k | k
   ·omega
   ·rw [← (compareM_zero hx hu2).1 k]; exact hxt
   ·exact compareM_trans ht hx hu2 hxt k
theorem Coll.can {p q : PZ} (h : Coll p q) (hm : mayAll p) (hf : p.Pairwise fun a b => 0 ≤ compareM a.2 b.2) : canP q ∧ (∀ m, cf q m = cf p m) ∧ ∀ u ∈ q, ∃ v ∈ p, v.2 = u.2 := by
 induction h with
 | nil => exact ⟨canP_nil, fun _ => rfl, fun u hu => by simp at hu⟩
 | group t g r q hg hr k ih =>
  have hmr : mayAll r := fun u hu => hm u (by simp [hu])
  have hfr := (List.pairwise_append.1 (show ((t :: g) ++ r).Pairwise _ from hf)).2.1
  obtain ⟨i1, i2, i3⟩ := ih hmr hfr
  have hhd := fall_head hm hf hr
  have ht := hm t (by simp)
  refine ⟨?_, fun m => ?_, fun u hu => ?_⟩
  ·unfold oneP
   split
   ·exact i1
   ·rename_i hne
    refine ⟨fun u hu => ?_, ?_⟩
    ·rcases List.mem_append.1 hu with hu | hu
     ·rw [List.mem_singleton.1 hu]; exact ⟨hne, ht⟩
     ·exact i1.1 u hu
    ·refine List.pairwise_cons.2 ⟨fun u hu => ?_, i1.2⟩
     obtain ⟨v, hv, hvu⟩ := i3 u hu
     rw [← hvu]
     exact hhd v hv
  ·rw [cf_append, cf_oneP, i2, show t :: g ++ r = (t :: g) ++ r from rfl, cf_append, cf, cf_same hg]
   split <;> omega
  ·rcases List.mem_append.1 hu with hu | hu
   ·unfold oneP at hu
    split at hu
    ·simp at hu
    ·rw [List.mem_singleton.1 hu]; exact ⟨t, by simp, rfl⟩
   ·obtain ⟨v, hv, hvu⟩ := i3 u hu
    exact ⟨v, by simp [hv], hvu⟩
theorem Coll.norm {p q l : PZ} (h : Coll p q) (hm : mayAll p) (hf : p.Pairwise fun a b => 0 ≤ compareM a.2 b.2) (hp : p.Perm l) : q = normP l := by
 obtain ⟨h1, h2, _⟩ := h.can hm hf
 have hl : mayAll l := fun t ht => hm t (hp.mem_iff.2 ht)
 exact canP_ext h1 (normP_can hl) (fun m _ => by rw [h2, normP_cf hl, cf_perm hp])
def lenI (z : Int) : Nat := (rep B32 z.natAbs).length
theorem lenI_lt {z : Int} {k : Nat} (h : z.natAbs < B32 ^ k) : lenI z ≤ k := rep_len_le two_le_B32 _ _ h
theorem lt_lenI (z : Int) : z.natAbs < B32 ^ lenI z := le_of_rep_len two_le_B32 _
theorem lenI_mono {z : Int} {j k : Nat} (h : lenI z ≤ j) (hk : j ≤ k) : z.natAbs < B32 ^ k := Nat.lt_of_lt_of_le (lt_lenI z) (Nat.pow_le_pow_right (by decide) (Nat.le_trans h hk))
theorem ofI_len (z : Int) : (ofI z).mag.length = lenI z := rfl
theorem valI_len {r : RInt} (h : okI r) : lenI (valI r) ≤ r.mag.length := by
 refine lenI_lt ?_
 have := val_lt (B := B32) r.mag h
 unfold valI
 split <;> simpa using this
def bndZ (k : Nat) (p : PZ) : Prop := ∀ t ∈ p, t.1.natAbs < B32 ^ k
theorem bndZ.mono {j k : Nat} {p : PZ} (h : bndZ j p) (hjk : j ≤ k) : bndZ k p := fun t ht => Nat.lt_of_lt_of_le (h t ht) (Nat.pow_le_pow_right (by decide) hjk)
theorem bndZ.append {k : Nat} {p q : PZ} (h : bndZ k p) (h' : bndZ k q) : bndZ k (p ++ q) := fun t ht => by
 rcases List.mem_append.1 ht with ht | ht
 ·exact h t ht
 ·exact h' t ht
theorem cf_bnd {k : Nat} {p : PZ} (h : bndZ k p) (m : Mono) : (cf p m).natAbs ≤ p.length * B32 ^ k := by
 induction p with
 | nil => simp [cf]
 | cons t r ih =>
  have h1 := h t (by simp)
  have h2 := ih (fun u hu => h u (by simp [hu]))
  simp only [cf, List.length_cons, Nat.add_mul, Nat.one_mul]
  generalize B32 ^ k = b at *
  generalize r.length * b = c at *
  split <;> omega
theorem normP_bnd {k : Nat} {p : PZ} (hm : mayAll p) (h : bndZ k p) (hl : p.length < B32 ^ 2) : bndZ (k + 2) (normP p) := by
 intro t ht
 have hc := (normP_can hm).cf_mem ht
 rw [normP_cf hm] at hc
 have := cf_bnd h t.2
 rw [hc] at this
 refine Nat.lt_of_le_of_lt this ?_
 rw [Nat.pow_add, Nat.mul_comm]
 exact Nat.mul_lt_mul_of_pos_left hl (Nat.pow_pos (by decide))
theorem sum_len {z : Int} {g : PZ} {k : Nat} (h0 : z.natAbs < B32 ^ k) (h : bndZ k g) (hl : g.length + 1 < B32 ^ 2) : lenI (z + sumP g) ≤ k + 2 := by
 refine lenI_lt ?_
 have h1 : (sumP g).natAbs ≤ g.length * B32 ^ k := by
  clear hl
  induction g with
  | nil => simp [sumP]
  | cons u g ih =>
   have h1 := h u (by simp)
   have h2 := ih (fun v hv => h v (by simp [hv]))
   have e : sumP (u :: g) = u.1 + sumP g := rfl
   rw [e]
   simp only [List.length_cons, Nat.add_mul, Nat.one_mul]
   generalize B32 ^ k = b at *
   generalize g.length * b = c at *
   omega
 rw [Nat.pow_add, Nat.mul_comm]
 have h2 : (g.length + 1) * B32 ^ k < B32 ^ 2 * B32 ^ k := Nat.mul_lt_mul_of_lt_of_le hl (Nat.le_refl _) (Nat.pow_pos (by decide))
 refine Nat.lt_of_le_of_lt ?_ h2
 rw [Nat.add_mul, Nat.one_mul]
 omega
theorem sumP_snoc (g : PZ) (t : Int × Mono) : sumP (g ++ [t]) = sumP g + t.1 := by
 induction g with
 | nil => simp [sumP]
 | cons u g ih =>
  have e : ∀ l, sumP (u :: l) = u.1 + sumP l := fun _ => rfl
  rw [List.cons_append, e, e, ih]
  omega
end
section
open Go.RowKit
theorem pow_cells (x y : Int) : ∀ u ∈ (#[.int .i64 x, .int .i64 y] : Array Value).toList, u.oneCell' = true := by
 intro u hu
 simp at hu
 rcases hu with rfl | rfl <;> rfl
end
section
end
section
open Go.RowKit
theorem times_one (x y : Int) (w : World) (hs : -9223372036854775808 ≤ x + y ∧ x + y ≤ 9223372036854775807) :
  Calls Tryz.prog 167 #[.int .i64 x, .int .i64 y] w fun e w' => e = .returned (.int .i64 (x + y)) ∧ w' = w := by
 obtain ⟨h1, h2⟩ := hs
 go_enter Tryz.func167, Tryz.ntmps167
 go_wp2
 all_goals
  go_ret
  exact ⟨rfl, rfl⟩
theorem free_at (w : World) (cs : Array Value) (T : TypeId) {b i : Nat} (hb : b = w.heap.size) : (w.alloc (.cells cs T)).frozen? ⟨b, i, none⟩ = false := by
 subst hb
 exact free_new w cs T
theorem made_no (z x y : Int) (bf bm : Nat) (W : World) (hs : -9223372036854775808 ≤ x + y ∧ x + y ≤ 9223372036854775807) (hle : x + y ≤ 0)
  (cf : W.cell? ⟨bf, 0, none⟩ = some (.func (.func 167) #[] #[])) :
  Calls Tryz.prog 175 #[.int .i64 z, .int .i64 x, .int .i64 y, .pointer (some ⟨bf, 0, none⟩), .pointer (some ⟨bm, 0, none⟩)] W fun e w' => e = .returned (.tuple #[]) ∧ w' = W := by
 have HT := hid (times_one x y W hs)
 generalize x + y = s at *
 obtain ⟨h1, h2⟩ := hs
 go_enter Tryz.func175, Tryz.ntmps175
 go_wp2_with fail
 with_reducible refine HT.out.mono ?_
 rintro e w' ⟨rfl, rfl⟩
 go_wp2
 all_goals
  go_end0
  exact ⟨rfl, rfl⟩
theorem made_yes (z x y : Int) (bf bm : Nat) (v : Value) (n base : Nat) (xs : List Value) (W : World) (hs : -9223372036854775808 ≤ x + y ∧ x + y ≤ 9223372036854775807) (hlt : 0 < x + y)
  (cf : W.cell? ⟨bf, 0, none⟩ = some (.func (.func 167) #[] #[])) (cm : W.cell? ⟨bm, 0, none⟩ = some v) (hf : W.frozen? ⟨bm, 0, none⟩ = false) (hbm : bm < base)
  (hown : W.ownsRow base 51 2 v n xs) (hbase : base ≤ W.heap.size) (hn : n ≤ 1000000000) :
  Calls Tryz.prog 175 #[.int .i64 z, .int .i64 x, .int .i64 y, .pointer (some ⟨bf, 0, none⟩), .pointer (some ⟨bm, 0, none⟩)] W fun e w' => e = .returned (.tuple #[]) ∧
   ∃ v' w2, w' = w2.setCell ⟨bm, 0, none⟩ v' ∧ w2.ownsRow base 51 2 v' (n + 1) (xs ++ [.int .i64 z, .int .i64 (x + y)]) ∧ W.grownBy w2 v.ownBlock := by
 have HT := hid (times_one x y W hs)
 generalize x + y = s at *
 obtain ⟨h1, h2⟩ := hs
 have HO := hid hown
 have HN := hid hn
 have HB := hid hbase
 have HL : Hid (bm < W.heap.size ∧ v.ownBlock ≠ some bm) := hid ⟨lt_of_cell cm, fun e => by have := (hown.lt bm e).1; omega⟩
 have HC := hid (And.intro cm hf)
 clear hown hn hbase hbm
 go_enter Tryz.func175, Tryz.ntmps175
 go_wp2_with fail
 with_reducible refine HT.out.mono ?_
 rintro e w' ⟨rfl, rfl⟩
 go_wp2_with (at_builtin; refine wpList_append_new _ rfl (.tmp 15) (.tmp 19) 47 rfl base 51 (.agg #[.int .i64 0, .int .i64 0]) 2 16 Tryz.underlying47 Tryz.infoPower rfl (by decide) v n xs rfl HO.out #[.int .i64 z, .int .i64 s] rfl (pow_cells _ _) rfl HN.out (by decide) HB.out ?_; intro v1 w2 hown hg _; have q := Go.Joins.ownsRow_form hown (Nat.succ_pos _); obtain ⟨bg, cg, rfl⟩ := q; have HOW := hid hown; have HG := hid hg; have g1 := (hg.block bm HL.out.1 (fun e => HL.out.2 e.symm)); have c1 : w2.cell? ⟨bm, 0, none⟩ = some v := (World.cell?_of_block (a := ⟨bm, 0, none⟩) g1).trans HC.out.1; have c2 : w2.frozen? ⟨bm, 0, none⟩ = false := (World.frozen?_of_block (a := ⟨bm, 0, none⟩) g1).trans HC.out.2; clear hown hg g1)
 all_goals
  go_end0
  exact ⟨rfl, _, _, rfl, HOW.out, HG.out⟩
theorem madeM_append (f : Int → Int → Int) (d : List (Int × Int × Int)) (t : Int × Int × Int) : madeM f (d ++ [t]) = if 0 < f t.2.1 t.2.2 then madeM f d ++ [(t.1, f t.2.1 t.2.2)] else madeM f d := by
 induction d with
 | nil =>
  simp only [List.nil_append, madeM]
 | cons x r ih =>
  simp only [List.cons_append, madeM, ih]
  split <;> split <;> simp_all
theorem madeM_len (f : Int → Int → Int) (d : List (Int × Int × Int)) : (madeM f d).length ≤ d.length := by
 induction d with
 | nil => simp [madeM]
 | cons x r ih =>
  simp only [madeM]
  split <;> simp <;> omega
theorem madeM_bounds {a b : Mono} (ha : mayM a = true) (hb : mayM b = true) : inBounds (timesM a b) := fun x hx => by
 have h2 : ∀ (l : List (Int × Int × Int)) (k : Int), ris k l → ∀ t ∈ l, k < t.1 ∧ t.1 ≤ 200 := by
  intro l
  induction l with
  | nil => intro k _ t ht; simp at ht
  | cons y s ih =>
   intro k hk t ht
   obtain ⟨g1, g2, g3⟩ := hk
   rcases List.mem_cons.1 ht with rfl | ht
   ·exact ⟨g1, g2⟩
   ·have := ih _ g3 t ht; omega
 obtain ⟨h3, h4⟩ := both_lk ha hb
 have h5 : ∀ (l : List (Int × Int × Int)), x ∈ madeM (· + ·) l → ∃ t ∈ l, x = (t.1, t.2.1 + t.2.2) := by
  intro l
  induction l with
  | nil => intro h; simp [madeM] at h
  | cons y s ih =>
   intro h
   simp only [madeM] at h
   split at h
   ·rcases List.mem_cons.1 h with h | h
    ·exact ⟨y, by simp, h⟩
    ·obtain ⟨t, h6, h7⟩ := ih h
     exact ⟨t, by simp [h6], h7⟩
   ·obtain ⟨t, h6, h7⟩ := ih h
    exact ⟨t, by simp [h6], h7⟩
 obtain ⟨t, ht, rfl⟩ := h5 _ hx
 have h6 := h2 _ _ h3 t ht
 have h7 := lk_mem h3 ht
 rw [h4] at h7
 have h8 := ex_range ha t.1
 have h9 := ex_range hb t.1
 have h10 : t.2.1 = ex a t.1 := (congrArg Prod.fst h7).symm
 have h11 : t.2.2 = ex b t.1 := (congrArg Prod.snd h7).symm
 refine ⟨⟨?_, ?_⟩, ?_, ?_⟩ <;> simp only <;> omega
theorem mono_made_times {S : Nat → Prop} (va vb : Value) (a b : Mono) (w : World) (ha : Pows S w va a) (hb : Pows S w vb b) (hS : ∀ k, S k → k < w.heap.size) (hma : mayM a = true) (hmb : mayM b = true) :
  Calls Tryz.prog 166 #[va, vb, .func (.func 167) #[] #[]] w fun e w' => ∃ v', e = .returned v' ∧ Pows (New w w') w' v' (timesM a b) ∧ Ext w w' := by
 have hmf : ∀ (fn : Fn) (first cap : Array Value) (w : World), (Instr.makeFunc fn first cap).run Tryz.prog w = .ok (.func fn first cap) w := fun _ _ _ _ => rfl
 have HA := hid ha
 have HB := hid hb
 have HMA := hid hma
 have HMB := hid hmb
 obtain ⟨aa, ca, rfl⟩ := ha.form
 obtain ⟨a2, cb, rfl⟩ := hb.form
 clear ha hb hma hmb
 go_enter Tryz.func166, Tryz.ntmps166
 go_wp2_with fail
 have hK : Ext w ((w.alloc (.cells #[.func (.func 167) #[] #[]] 176)).alloc (.cells #[.slice none 0 0] 47)) := (Ext.alloc (Ext.refl w) _).alloc _
 have HK := hid hK
 have hz : (w.alloc (.cells #[.func (.func 167) #[] #[]] 176)).heap.size = w.heap.size + 1 := size_alloc _ _
 refine (mono_both (S := S) 175 #[.pointer (some ⟨w.heap.size, 0, none⟩), .pointer (some ⟨w.heap.size + 1, 0, none⟩)] (enters_of Tryz.func175 (by kernel_rfl) rfl)
  (fun d W => W.cell? ⟨w.heap.size, 0, none⟩ = some (.func (.func 167) #[] #[]) ∧ (∃ v, W.cell? ⟨w.heap.size + 1, 0, none⟩ = some v ∧ W.ownsRow (w.heap.size + 2) 51 2 v (madeM (· + ·) d).length (flatP (madeM (· + ·) d))) ∧ W.frozen? ⟨w.heap.size + 1, 0, none⟩ = false ∧ Ext w W ∧ w.heap.size + 2 ≤ W.heap.size) a b _ ?_ ?_ ?_ _ _
  (HA.out.to (Kept.ext hK hS) (fun _ h => h)) (HB.out.to (Kept.ext hK hS) (fun _ h => h)) ⟨cell_old _ (cell_new _ _ _ rfl rfl), ⟨_, cell_new _ _ _ hz.symm rfl, World.ownsRow_nil _ _ _ _⟩, ?_, hK, by rw [size_alloc, size_alloc]; exact Nat.le_refl _⟩).mono ?_
 ·rintro d t r W hd ⟨h1, ⟨v, h2, h3⟩, h4, h5, h6⟩
  have hb := both_bounds HA.out.inBounds HB.out.inBounds t (by rw [hd]; simp)
  obtain ⟨h7, h8⟩ := both_lk HMA.out HMB.out
  have h9 := lk_mem h7 (t := t) (by rw [hd]; simp)
  rw [h8] at h9
  have h10 := ex_range HMA.out t.1
  have h11 := ex_range HMB.out t.1
  have h12 : t.2.1 = ex a t.1 := (congrArg Prod.fst h9).symm
  have h13 : t.2.2 = ex b t.1 := (congrArg Prod.snd h9).symm
  rw [show (#[Value.int .i64 t.1, .int .i64 t.2.1, .int .i64 t.2.2] ++ #[.pointer (some ⟨w.heap.size, 0, none⟩), .pointer (some ⟨w.heap.size + 1, 0, none⟩)] : Array Value) = #[.int .i64 t.1, .int .i64 t.2.1, .int .i64 t.2.2, .pointer (some ⟨w.heap.size, 0, none⟩), .pointer (some ⟨w.heap.size + 1, 0, none⟩)] from rfl]
  have hdl : (madeM (· + ·) d).length ≤ 1000000000 := by
   have k1 := madeM_len (· + ·) d
   have k2 := both_len a b
   rw [hd, List.length_append] at k2
   have k3 := mayM_len HMA.out
   have k4 := mayM_len HMB.out
   omega
  by_cases hpos : 0 < t.2.1 + t.2.2
  ·refine (made_yes t.1 t.2.1 t.2.2 _ _ v _ _ _ W (by omega) hpos h1 h2 h4 (Nat.lt_succ_self _) h3 h6 hdl).mono ?_
   rintro e w' ⟨rfl, v', w2, rfl, k1, k2⟩
   have hne : ∀ k, v.ownBlock = some k → w.heap.size + 2 ≤ k := fun k hk => (h3.lt k hk).1
   have g1 : w2.heap[w.heap.size]? = W.heap[w.heap.size]? := k2.block _ (by omega) (fun e => by have := hne _ e.symm; omega)
   have g2 : w2.heap[w.heap.size + 1]? = W.heap[w.heap.size + 1]? := k2.block _ (by omega) (fun e => by have := hne _ e.symm; omega)
   refine ⟨rfl, other ((World.cell?_of_block (a := ⟨w.heap.size, 0, none⟩) g1).trans h1) (ab (by omega)), ⟨v', same_of (u := v) ?_, ?_⟩, free_set ?_, ?_, ?_⟩
   ·exact (World.cell?_of_block (a := ⟨w.heap.size + 1, 0, none⟩) g2).trans h2
   ·refine ownsRow_setCell_below ?_ (Nat.lt_succ_self _) _
    rw [madeM_append, if_pos hpos, flatP_append, List.length_append]
    simpa [flatP] using k1
   ·exact (World.frozen?_of_block (a := ⟨w.heap.size + 1, 0, none⟩) g2).trans h4
   ·exact (ext_grown h5 k2 (fun k hk => by have := hne k hk; omega)).setCell (p := ⟨w.heap.size + 1, 0, none⟩) (Nat.le_succ _) _
   ·rw [size_setCell]; exact Nat.le_trans h6 k2.size
  ·refine (made_no t.1 t.2.1 t.2.2 _ _ W (by omega) (by omega) h1).mono ?_
   rintro e w' ⟨rfl, rfl⟩
   refine ⟨rfl, h1, ⟨v, h2, ?_⟩, h4, h5, h6⟩
   rw [madeM_append, if_neg hpos]
   exact h3
 ·rintro d W ⟨_, _, _, h3, _⟩ k hk
  exact (Kept.ext h3 hS k hk).trans (Kept.ext HK.out hS k hk).symm
 ·rintro d W q ⟨h1, ⟨v, h2, h3⟩, h4, h5, h6⟩
  exact ⟨by simpa using h1, ⟨v, by simpa using h2, h3⟩, by simpa using h4, h5.drewN q, h6⟩
 ·exact free_at _ _ _ hz.symm
 rintro e w3 ⟨rfl, h1, ⟨v, h2, h3⟩, h4, h5, h6⟩
 have HX3 := hid h5
 have HP := hid (own_pows h3 (madeM_bounds HMA.out HMB.out))
 have hf := Go.Joins.ownsRow_forms h3
 clear h1 h3 h5 hz hK
 rcases hf with ⟨rfl, -⟩ | ⟨bg, cg, rfl⟩
 all_goals
  go_wp2
  all_goals
   refine bodyPost_ret (by simp [results, Tryz.results166, go_sem, same_of h2]; rfl) rfl ?_
   exact ⟨_, rfl, HP.out.to (Kept.setCell (fun h => by have : w.heap.size + 2 ≤ w.heap.size + 1 := h.1; omega) _) (fun k h => ⟨by have := h.1; omega, by rw [size_setCell]; exact h.2⟩), HX3.out.setCell (p := ⟨w.heap.size + 1, 0, none⟩) (Nat.le_succ _) _⟩
def errTimes (a b : Mono) : Int := if mayM a && mayM b then (if mayM (timesM a b) then 0 else 8) else 2
def valTimes (a b : Mono) : Mono := if mayM a && mayM b && mayM (timesM a b) then timesM a b else []
theorem mono_times {S : Nat → Prop} (va vb : Value) (a b : Mono) (w : World) (ha : Pows S w va a) (hb : Pows S w vb b) (hS : ∀ k, S k → k < w.heap.size) :
  Calls Tryz.prog 157 #[va, vb] w fun e w' => ∃ v', e = .returned (.tuple #[v', .int .i64 (errTimes a b)]) ∧ Pows (New w w') w' v' (valTimes a b) ∧ Ext w w' := by
 have hnot : ∀ (x : Bool) (w : World), (Op.unary .not (.bool x)).run Tryz.prog w = .ok (.bool (!x)) w := fun _ _ => rfl
 have HA := hid ha
 have HB := hid hb
 obtain ⟨aa, ca, rfl⟩ := ha.form
 obtain ⟨a2, cb, rfl⟩ := hb.form
 clear ha hb
 unfold errTimes valTimes
 cases hma : mayM a with
 | false =>
  have HC := hid (mono_may _ a w HA.out hS)
  simp only [hma] at HC
  go_enter Tryz.func157, Tryz.ntmps157
  go_wp2_with fail
  with_reducible refine HC.out.mono ?_
  rintro e w1 ⟨rfl, hx1⟩
  have HX1 := hid hx1
  clear hx1
  go_wp2
  all_goals
   go_ret2
   exact ⟨_, rfl, Pows.empty _ _ _, HX1.out⟩
 | true =>
  have HC := hid (mono_may _ a w HA.out hS)
  simp only [hma] at HC
  have HD := hid (fun (W : World) (hW : Ext w W) => mono_may _ b W (HB.out.ext hW hS) (lt_ext hS hW))
  cases hmb : mayM b with
  | false =>
   simp only [hmb] at HD
   go_enter Tryz.func157, Tryz.ntmps157
   go_wp2_with fail
   with_reducible refine HC.out.mono ?_
   rintro e w1 ⟨rfl, hx1⟩
   have HX1 := hid hx1
   clear hx1
   go_wp2_with fail
   with_reducible refine (HD.out _ HX1.out).mono ?_
   rintro e w2 ⟨rfl, hx2⟩
   have HX2 := hid (HX1.out.trans hx2)
   clear hx2
   go_wp2
   all_goals
    go_ret2
    exact ⟨_, rfl, Pows.empty _ _ _, HX2.out⟩
  | true =>
   simp only [hmb] at HD
   have HM := hid (fun (W : World) (hW : Ext w W) => mono_made_times _ _ a b W (HA.out.ext hW hS) (HB.out.ext hW hS) (lt_ext hS hW) hma hmb)
   obtain ⟨m, hm⟩ : ∃ m, m = timesM a b := ⟨_, rfl⟩
   rw [← hm] at HM ⊢
   clear hm
   have HE := hid (fun (W : World) (v : Value) (hv : Pows (Old W) W v m) => mono_may _ m W hv (fun _ h => h))
   cases hmm : mayM m with
   | false =>
    simp only [hmm] at HE
    go_enter Tryz.func157, Tryz.ntmps157
    go_wp2_with fail
    with_reducible refine HC.out.mono ?_
    rintro e w1 ⟨rfl, hx1⟩
    have HX1 := hid hx1
    clear hx1
    go_wp2_with fail
    with_reducible refine (HD.out _ HX1.out).mono ?_
    rintro e w2 ⟨rfl, hx2⟩
    have HX2 := hid (HX1.out.trans hx2)
    clear hx2
    go_wp2_with fail
    with_reducible refine (HM.out _ HX2.out).mono ?_
    rintro e w3 ⟨v3, rfl, hp3, hx3⟩
    have HX3 := hid (HX2.out.trans hx3)
    have HCE := hid (HE.out w3 v3 (hp3.to (Kept.refl _ _) New.lt))
    obtain ⟨a3, c3, rfl⟩ := hp3.form
    clear hp3 hx3
    go_wp2_with fail
    with_reducible refine HCE.out.mono ?_
    rintro e w4 ⟨rfl, hx4⟩
    have HX4 := hid (HX3.out.trans hx4)
    clear hx4
    go_wp2
    all_goals
     go_ret2
     exact ⟨_, rfl, Pows.empty _ _ _, HX4.out⟩
   | true =>
    simp only [hmm] at HE
    go_enter Tryz.func157, Tryz.ntmps157
    go_wp2_with fail
    with_reducible refine HC.out.mono ?_
    rintro e w1 ⟨rfl, hx1⟩
    have HX1 := hid hx1
    clear hx1
    go_wp2_with fail
    with_reducible refine (HD.out _ HX1.out).mono ?_
    rintro e w2 ⟨rfl, hx2⟩
    have HX2 := hid (HX1.out.trans hx2)
    clear hx2
    go_wp2_with fail
    with_reducible refine (HM.out _ HX2.out).mono ?_
    rintro e w3 ⟨v3, rfl, hp3, hx3⟩
    have HX3 := hid (HX2.out.trans hx3)
    have HCE := hid (HE.out w3 v3 (hp3.to (Kept.refl _ _) New.lt))
    have HP3 := hid hp3
    have HX23 := hid hx3
    obtain ⟨a3, c3, rfl⟩ := hp3.form
    clear hp3 hx3
    go_wp2_with fail
    with_reducible refine HCE.out.mono ?_
    rintro e w4 ⟨rfl, hx4⟩
    have HX4 := hid (HX3.out.trans hx4)
    have HP4 : Hid (Pows (New w w4) w4 (.slice a3 m.length c3) m) := hid (HP3.out.to (New.kept hx4) (fun k h => ⟨Nat.le_trans HX2.out.size h.1, Nat.lt_of_lt_of_le h.2 hx4.size⟩))
    clear hx4
    go_wp2
    all_goals
     go_ret2
     exact ⟨_, rfl, HP4.out, HX4.out⟩
end
section
open Go.RowKit
theorem w_dg_zeros (n k : Nat) : dg (List.replicate n 0) k = 0 := by
 unfold dg
 rw [List.getElem?_replicate]
 split <;> rfl
theorem w_dg_set {l : List Nat} {k j z : Nat} : dg (l.set k z) j = if k = j ∧ k < l.length then z else dg l j := by
 unfold dg
 rw [List.getElem?_set]
 by_cases h : k = j
 ·subst h
  by_cases h2 : k < l.length
  ·simp [h2]
  ·simp [h2]
 ·simp [h]
theorem w_set_lt {l : List Nat} (h : ∀ z ∈ l, z < B32) (k z : Nat) (hz : z < B32) : ∀ y ∈ l.set k z, y < B32 := fun y hy => by
 rcases List.mem_or_eq_of_mem_set hy with h1 | h1
 ·exact h y h1
 ·rw [h1]; exact hz
theorem w_mul_step {o : List Nat} {i k c x y V0 Y : Nat} (hk : i + k < o.length) (h : val B32 o + B32 ^ (i + k) * c = V0 + B32 ^ i * (x * Y)) :
  val B32 (o.set (i + k) ((c + (x * y + dg o (i + k))) % B32)) + B32 ^ (i + (k + 1)) * ((c + (x * y + dg o (i + k))) / B32) = V0 + B32 ^ i * (x * (Y + B32 ^ k * y)) := by
 have h1 := set_val (B := B32) o (i + k) ((c + (x * y + dg o (i + k))) % B32) hk
 generalize hs : c + (x * y + dg o (i + k)) = s at *
 have h2 : s % B32 + B32 * (s / B32) = s := Nat.mod_add_div _ _
 have e1 : B32 ^ (i + (k + 1)) * (s / B32) = B32 ^ (i + k) * (B32 * (s / B32)) := by
  rw [← Nat.add_assoc, Nat.pow_succ, Nat.mul_assoc]
 have e2 : B32 ^ i * (x * (Y + B32 ^ k * y)) = B32 ^ i * (x * Y) + B32 ^ (i + k) * (x * y) := by
  rw [Nat.mul_add, Nat.mul_add, Nat.pow_add]
  congr 1
  rw [Nat.mul_assoc, Nat.mul_left_comm x]
 have e3 : B32 ^ (i + k) * s = B32 ^ (i + k) * (s % B32) + B32 ^ (i + k) * (B32 * (s / B32)) := by
  rw [← Nat.mul_add, h2]
 have e4 : B32 ^ (i + k) * s = B32 ^ (i + k) * c + (B32 ^ (i + k) * (x * y) + B32 ^ (i + k) * dg o (i + k)) := by
  rw [← hs, Nat.mul_add, Nat.mul_add]
 rw [e1, e2]
 omega
theorem w_mul_row {o : List Nat} {i c x V0 : Nat} {xs ys : List Nat} (hx : xs[i]? = some x) (hi : i + ys.length < o.length) (h0 : dg o (i + ys.length) = 0) (hV : V0 = val B32 (xs.take i) * val B32 ys) (h : val B32 o + B32 ^ (i + ys.length) * c = V0 + B32 ^ i * (x * val B32 ys)) :
  val B32 (o.set (i + ys.length) c) = val B32 (xs.take (i + 1)) * val B32 ys := by
 have h1 := set_val (B := B32) o (i + ys.length) c hi
 rw [h0] at h1
 have h2 := val_take_succ (B := B32) hx
 rw [h2, Nat.add_mul, ← hV, Nat.mul_assoc]
 omega
theorem w_mul_fit {x y d c : Nat} (hx : x < 4294967296) (hy : y < 4294967296) (hd : d < 4294967296) (hc : c < 4294967296) : x * y ≤ 18446744065119617025 ∧ c + (x * y + d) ≤ 18446744073709551615 := by
 have h1 : x * y ≤ 4294967295 * 4294967295 := Nat.mul_le_mul (by omega) (by omega)
 omega
theorem times_rows {S : Nat → Prop} (va vb : Value) (xs ys : List Nat) (w : World) (ha : U32s S w va xs) (hb : U32s S w vb ys) (hS : ∀ k, S k → k < w.heap.size) (hr : xs.length + ys.length ≤ 1000000000000) :
  Calls Tryz.prog 179 #[va, vb] w fun e w' => ∃ v', e = .returned v' ∧ U32s (New w w') w' v' (rep B32 (val B32 xs * val B32 ys)) ∧ Ext w w' := by
 have HA := hid ha
 have HB := hid hb
 have hla := ha.len_le
 have hlb := hb.len_le
 obtain ⟨aa, ca, rfl⟩ := ha.form
 obtain ⟨ab, cb, rfl⟩ := hb.form
 obtain ⟨n, hn⟩ : ∃ n, n = xs.length := ⟨_, rfl⟩
 obtain ⟨m, hm⟩ : ∃ n, n = ys.length := ⟨_, rfl⟩
 rw [← hn, ← hm] at hr
 rw [← hn] at HA hla ⊢
 rw [← hm] at HB hlb ⊢
 have HNN := hid hn
 have HMM := hid hm
 clear ha hb hn hm
 have hmk := run_make_row' (P := Tryz.prog) 24 148 (.int .u32 0) 4 Tryz.underlying24 Tryz.infoU32 rfl .i64 .i64 (n + m) (by omega) (by omega) w
 rw [show ((n + m : Nat) : Int) = (n : Int) + (m : Int) by omega] at hmk
 have HR := hid (rowU_zeros w (n + m) 148)
 have HE := hid (Ext.alloc (Ext.refl w) (.cells (madeCells #[.int .u32 0] (n + m)) 148))
 go_enter Tryz.func179, Tryz.ntmps179
 go_wp2
 go_loopw [19] (fun i wr => ∃ (k : Nat) (o : List Nat), k ≤ n ∧ i = .int .i64 k ∧ Hid (o.length = n + m) ∧ Hid (∀ z ∈ o, z < B32) ∧ wr.rowIs w.heap.size 148 (n + m) (rowU o) ∧ Ext w wr ∧ Hid (w.heap.size < wr.heap.size) ∧
  Hid (val B32 o = val B32 (xs.take k) * val B32 ys) ∧ Hid (∀ j, k + m ≤ j → dg o j = 0)) (fun i _ => n - (intOf i).toNat)
 case atStart => exact ⟨0, List.replicate (n + m) 0, Nat.zero_le _, rfl, hid (by simp), hid (fun z hz => by rw [(List.mem_replicate.1 hz).2]; decide), HR.out, HE.out, hid (by simp), hid (by rw [val_zeros]; simp [val]), hid (fun j _ => w_dg_zeros _ _)⟩
 case round =>
  obtain ⟨k, o, hk, rfl, HOL, HO, hrow, hx, HGS, HV, HZ⟩ := hrel
  have HX := hid hx
  have HROW := hid hrow
  clear hrow
  by_cases hlt : k < n
  ·obtain ⟨x, hx1⟩ := some_of_lt (l := xs) (j := k) (by rw [← HNN.out]; exact hlt)
   obtain ⟨b1, o1, rfl, -, hn1, hm1, -, hxb, hc1⟩ := (HA.out.to (Kept.ext hx hS) (fun _ h => h)).cellAt hx1
   have HX1 := hid hx1
   have HXB := hid hxb
   clear hx hx1
   go_wp2
   obtain ⟨wo, rfl⟩ : ∃ wo : World, wo = wr := ⟨_, rfl⟩
   go_loopw [8, 26] (fun c i wr => ∃ (j cc : Nat) (o2 : List Nat), j ≤ m ∧ i = .int .i64 j ∧ c = .int .u64 cc ∧ cc < 4294967296 ∧ Hid (o2.length = n + m) ∧ Hid (∀ z ∈ o2, z < B32) ∧ wr.rowIs w.heap.size 148 (n + m) (rowU o2) ∧ Ext w wr ∧ Hid (w.heap.size < wr.heap.size) ∧
    Hid (val B32 o2 + B32 ^ (k + j) * cc = val B32 o + B32 ^ k * (x * val B32 (ys.take j))) ∧ Hid (∀ i, k + m ≤ i → dg o2 i = 0)) (fun _ i _ => m - (intOf i).toNat)
   case atStart => exact ⟨0, 0, o, Nat.zero_le _, rfl, rfl, by omega, HOL, HO, HROW.out, HX.out, HGS, hid (by simp [val]), HZ⟩
   case round =>
    obtain ⟨j, cc, o2, hj, rfl, rfl, hcc, HOL2, HO2, hrow2, hx2, HGS2, HV2, HZ2⟩ := hrel
    have HX2 := hid hx2
    have HROW2 := hid hrow2
    by_cases hlt2 : j < m
    ·obtain ⟨y, hy1⟩ := some_of_lt (l := ys) (j := j) (by rw [← HMM.out]; exact hlt2)
     obtain ⟨b2, o3, rfl, -, hn2, hm2, -, hyb, hc2⟩ := (HB.out.to (Kept.ext hx2 hS) (fun _ h => h)).cellAt hy1
     have HY1 := hid hy1
     obtain ⟨t, ht⟩ : ∃ t, t = k + j := ⟨_, rfl⟩
     have hti : (k : Int) + (j : Int) = (t : Int) := by omega
     have htl : t < n + m := by omega
     have hcs := hrow2.cell (i := t) htl
     have hfs := hrow2.frozen t
     have hdl : dg o2 t < 4294967296 := dg_lt (by decide) HO2.out t
     unfold rowU at hcs
     obtain ⟨d, hd⟩ : ∃ d, d = dg o2 t := ⟨_, rfl⟩
     rw [← hd] at hcs hdl
     have HD := hid hd
     have HT := hid ht
     obtain ⟨hp1, hp2⟩ := w_mul_fit hxb hyb hdl hcc
     obtain ⟨p, hp⟩ : ∃ p, p = x * y := ⟨_, rfl⟩
     have hpi : (x : Int) * (y : Int) = (p : Int) := by rw [hp, Int.natCast_mul]
     rw [← hp] at hp1 hp2
     have HP := hid hp
     clear hy1 hrow2 hx2 hd ht hp
     go_wp2
     go_roundw
     case rel =>
      have hmod : (cc + (p + d)) % 4294967296 < B32 := Nat.mod_lt _ (by decide)
      refine ⟨j + 1, (cc + (p + d)) / 4294967296, o2.set t ((cc + (p + d)) % 4294967296), by omega, by go_num, congrArg (Value.int .u64) (by omega), by omega, hid (by rw [List.length_set]; exact HOL2.out), hid (w_set_lt HO2.out t _ hmod), ?_, HX2.out.setCell (p := ⟨w.heap.size, t, none⟩) (Nat.le_refl _) _, hid (by rw [size_setCell]; exact HGS2.out), ?_, ?_⟩
      ·have h1 := rowU_set HROW2.out t ((cc + (p + d)) % 4294967296) (by rw [HOL2.out]; exact htl)
       refine cast (congrArg (fun e => World.rowIs (World.setCell wr ⟨w.heap.size, t, none⟩ (Value.int .u32 e)) _ _ _ _) ?_) h1
       omega
      ·have h1 := w_mul_step (o := o2) (i := k) (k := j) (c := cc) (x := x) (y := y) (V0 := val B32 o) (Y := val B32 (ys.take j)) (by rw [HOL2.out, ← HT.out]; exact htl) HV2.out
       rw [← val_take_succ HY1.out, ← HP.out, ← HT.out, ← HD.out] at h1
       exact h1
      ·refine hid (fun i hi => ?_)
       rw [w_dg_set, if_neg (by have := HT.out; omega)]
       exact HZ2.out i hi
     case measure => simp only [intOf]; omega
    ·obtain rfl : m = j := by omega
     obtain ⟨t, ht⟩ : ∃ t, t = k + m := ⟨_, rfl⟩
     have hti : (k : Int) + (m : Int) = (t : Int) := by omega
     have htl : t < n + m := by omega
     have hcs := hrow2.cell (i := t) htl
     have hfs := hrow2.frozen t
     have hv3 : val B32 (o2.set t cc) = val B32 (xs.take (k + 1)) * val B32 ys := by
      have h1 := HV2.out
      rw [show ys.take m = ys by rw [HMM.out]; exact List.take_length] at h1
      have h2 := w_mul_row (o := o2) (i := k) (c := cc) (xs := xs) (ys := ys) HX1.out (by rw [HOL2.out, ← HMM.out, ← ht]; exact htl) (by rw [← HMM.out]; exact HZ2.out _ (Nat.le_refl _)) HV.out (by rw [← HMM.out]; exact h1)
      rw [← HMM.out, ← ht] at h2
      exact h2
     have HV3 := hid hv3
     have HT := hid ht
     have HCC := hid hcc
     clear hrow2 hx2 hv3 ht
     go_wp2
     go_roundw
     case rel =>
      refine ⟨k + 1, o2.set t cc, by omega, by go_num, hid (by rw [List.length_set]; exact HOL2.out), hid (w_set_lt HO2.out t _ HCC.out), ?_, HX2.out.setCell (p := ⟨w.heap.size, t, none⟩) (Nat.le_refl _) _, hid (by rw [size_setCell]; exact HGS2.out), HV3, hid (fun i hi => ?_)⟩
      ·have h1 := rowU_set HROW2.out t cc (by rw [HOL2.out]; exact htl)
       refine cast (congrArg (fun e => World.rowIs (World.setCell wr ⟨w.heap.size, t, none⟩ (Value.int .u32 e)) _ _ _ _) ?_) h1
       omega
      ·rw [w_dg_set, if_neg (by have := HT.out; omega)]
       exact HZ2.out i (by omega)
     case measure => simp only [intOf]; omega
  ·obtain rfl : n = k := by omega
   have hv : val B32 o = val B32 xs * val B32 ys := by
    have h1 := HV.out
    rwa [show xs.take n = xs by rw [HNN.out]; exact List.take_length] at h1
   have HVE := hid hv
   have hu : U32s (fun k => k = w.heap.size) wr (.slice (some ⟨w.heap.size, 0, none⟩) (n + m) (n + m)) o := by
    have h1 := U32s.of_row HROW.out (by have := HOL.out; omega) HO.out (by omega)
    rwa [HOL.out] at h1
   have hz : w.heap.size < wr.heap.size := HGS.out
   have HC := hid (nat_trim (S := fun k => k = w.heap.size) _ o wr hu (fun k hk => by rw [hk]; exact hz) (by rw [HOL.out]; omega))
   clear hx hv hu hz
   go_wp2_with fail
   with_reducible refine HC.out.mono ?_
   rintro e w2 ⟨v2, rfl, hp2, hx2⟩
   rw [HVE.out] at hp2
   have HP2 := hid (hp2.to (S' := New w w2) (Kept.refl _ _) (fun k h => ⟨Nat.le_trans HX.out.size h.1, h.2⟩))
   have HX2 := hid (HX.out.trans hx2)
   clear hp2 hx2
   go_wp2
   all_goals
    go_ret
    exact ⟨_, rfl, HP2.out, HX2.out⟩
end
section
open Go.RowKit
theorem two_limbs (w : World) (lo hi : Nat) (T : TypeId) (h1 : lo < B32) (h2 : hi < B32) : U32s (Old (w.alloc (.cells #[.int .u32 lo, .int .u32 hi] T))) (w.alloc (.cells #[.int .u32 lo, .int .u32 hi] T)) (.slice (some ⟨w.heap.size, 0, none⟩) 2 2) [lo, hi] := by
 refine ⟨w.heap.size, 0, ⟨_, 2, rfl, Nat.le_refl _, by decide, fun _ => rfl, fun _ => by show w.heap.size < (w.alloc _).heap.size; rw [size_alloc]; omega⟩, fun j z hj => ?_⟩
 have hj2 := lt_of_some hj
 simp only [List.length_cons, List.length_nil] at hj2
 match j, hj with
 | 0, hj =>
  obtain rfl : lo = z := by simpa using hj
  exact ⟨h1, cell_new _ _ _ rfl rfl⟩
 | 1, hj =>
  obtain rfl : hi = z := by simpa using hj
  exact ⟨h2, cell_new _ _ _ rfl rfl⟩
 | j + 2, _ => omega
theorem nat_small (x : Nat) (w : World) (hx : x < 18446744073709551616) :
  Calls Tryz.prog 141 #[.int .u64 (x : Nat)] w fun e w' => ∃ v', e = .returned v' ∧ U32s (New w w') w' v' (rep B32 x) ∧ Ext w w' := by
 obtain ⟨lo, hlo⟩ : ∃ lo, lo = x % 4294967296 := ⟨_, rfl⟩
 obtain ⟨hi, hhi⟩ : ∃ hi, hi = x / 4294967296 := ⟨_, rfl⟩
 have q1 : (x : Int) % 4294967296 = (lo : Int) := by omega
 have q2 : (x : Int) / 4294967296 = (hi : Int) := by omega
 have hb1 : lo < 4294967296 := by omega
 have hb2 : hi < 4294967296 := by omega
 have q3 : (hi : Int) % 4294967296 = (hi : Int) := by omega
 have hv : val B32 [lo, hi] = x := by
  show lo + 4294967296 * (hi + 4294967296 * 0) = x
  omega
 have HC := hid (nat_trim _ [lo, hi] _ (two_limbs w lo hi 148 hb1 hb2) (fun _ h => h) (by simp))
 rw [hv] at HC
 have HX1 := hid (Ext.alloc (Ext.refl w) (.cells #[.int .u32 lo, .int .u32 hi] 148))
 clear hv hlo hhi
 go_enter Tryz.func141, Tryz.ntmps141
 go_wp2_with fail
 with_reducible refine HC.out.mono ?_
 rintro e w1 ⟨v1, rfl, hp1, hx1⟩
 have HP1 := hid (hp1.to (S' := New w w1) (Kept.refl _ _) (fun k h => ⟨Nat.le_trans HX1.out.size h.1, h.2⟩))
 have HX2 := hid (HX1.out.trans hx1)
 clear hp1 hx1
 go_wp2
 all_goals
  go_ret
  exact ⟨_, rfl, HP1.out, HX2.out⟩
end
section
open Go.RowKit
theorem cutter_few {S : Nat → Prop} (va vb : Value) (xs ys : List Nat) (w : World) (ha : U32s S w va xs) (hb : U32s S w vb ys) (hS : ∀ k, S k → k < w.heap.size) (hr : xs.length + ys.length ≤ 1000000000000) (hc : xs.length < 24 ∨ ys.length < 24) :
  Calls Tryz.prog 176 #[.int .i64 24, va, vb] w fun e w' => ∃ v', e = .returned v' ∧ U32s (New w w') w' v' (rep B32 (val B32 xs * val B32 ys)) ∧ Ext w w' := by
 have HC := hid (times_rows va vb xs ys w ha hb hS hr)
 have hla := ha.len_le
 have hlb := hb.len_le
 obtain ⟨aa, ca, rfl⟩ := ha.form
 obtain ⟨a2, cb, rfl⟩ := hb.form
 clear ha hb
 obtain ⟨n, hn⟩ : ∃ n, n = xs.length := ⟨_, rfl⟩
 obtain ⟨m, hm⟩ : ∃ n, n = ys.length := ⟨_, rfl⟩
 rw [← hn, ← hm] at hc hr
 rw [← hn] at hla
 rw [← hm] at hlb
 rw [← hn, ← hm] at HC ⊢
 clear hn hm
 go_enter Tryz.func176, Tryz.ntmps176
 rcases Nat.lt_or_ge n m with h | h
 ·have q0 : min (n : Int) (m : Int) = (n : Int) := by omega
  have q1 : (n : Int) < 24 := by omega
  go_wp2_with fail
  with_reducible refine HC.out.mono ?_
  rintro e w1 ⟨v1, rfl, hp1, hx1⟩
  have HP1 := hid hp1
  have HX1 := hid hx1
  clear hp1 hx1
  go_wp2
  all_goals
   go_ret
   exact ⟨_, rfl, HP1.out, HX1.out⟩
 ·rcases Nat.lt_or_ge m n with h2 | h2
  ·have q0 : min (n : Int) (m : Int) = (m : Int) := by omega
   have q1 : (m : Int) < 24 := by omega
   go_wp2_with fail
   with_reducible refine HC.out.mono ?_
   rintro e w1 ⟨v1, rfl, hp1, hx1⟩
   have HP1 := hid hp1
   have HX1 := hid hx1
   clear hp1 hx1
   go_wp2
   all_goals
    go_ret
    exact ⟨_, rfl, HP1.out, HX1.out⟩
  ·obtain rfl : n = m := by omega
   have q1 : (n : Int) < 24 := by omega
   go_wp2_with fail
   with_reducible refine HC.out.mono ?_
   rintro e w1 ⟨v1, rfl, hp1, hx1⟩
   have HP1 := hid hp1
   have HX1 := hid hx1
   clear hp1 hx1
   go_wp2
   all_goals
    go_ret
    exact ⟨_, rfl, HP1.out, HX1.out⟩
def lenN (n : Nat) : Nat := (rep B32 n).length
theorem lenN_le {zs : List Nat} (h : ∀ z ∈ zs, z < B32) : lenN (val B32 zs) ≤ zs.length := rep_val_len h
theorem mul_lens {a b k : Nat} (ha : lenN a + lenN b ≤ k) : lenN (a * b) ≤ k := by
 refine rep_len_le two_le_B32 _ k (Nat.lt_of_lt_of_le (Nat.mul_lt_mul'' (le_of_rep_len two_le_B32 a) (le_of_rep_len two_le_B32 b)) ?_)
 rw [← Nat.pow_add]
 exact Nat.pow_le_pow_right (by decide) ha
theorem times_mul {S : Nat → Prop} (va vb : Value) (xs ys : List Nat) (w : World) (ha : U32s S w va xs) (hb : U32s S w vb ys) (hS : ∀ k, S k → k < w.heap.size) (hr : xs.length + ys.length ≤ 1000000000000) (hc : lenN (val B32 xs) < 24 ∨ lenN (val B32 ys) < 24) :
  Calls Tryz.prog 168 #[va, vb] w fun e w' => ∃ v', e = .returned v' ∧ U32s (New w w') w' v' (rep B32 (val B32 xs * val B32 ys)) ∧ Ext w w' := by
 have C1 := hid (nat_trim va xs w ha hS (by omega))
 have C2 := hid (fun (W : World) (hW : Ext w W) => nat_trim vb ys W (hb.ext hW hS) (lt_ext hS hW) (by omega))
 have C3 := hid (fun (W : World) (u v : Value) (hu : U32s (Old W) W u (rep B32 (val B32 xs))) (hv : U32s (Old W) W v (rep B32 (val B32 ys))) => cutter_few u v _ _ W hu hv (fun _ h => h) (by have := lenN_le ha.lt; have := lenN_le hb.lt; unfold lenN at *; omega) hc)
 simp only [val_rep two_le_B32] at C3
 obtain ⟨aa, ca, rfl⟩ := ha.form
 obtain ⟨a2, cb, rfl⟩ := hb.form
 clear ha hb
 go_enter Tryz.func168, Tryz.ntmps168
 go_wp2_with fail
 with_reducible refine C1.out.mono ?_
 rintro e w1 ⟨v1, rfl, hp1, hx1⟩
 have HX1 := hid hx1
 have HP1 := hid (hp1.to (S' := Old w1) (Kept.refl _ _) New.lt)
 obtain ⟨a1, c1, rfl⟩ := hp1.form
 clear hp1 hx1
 go_wp2_with fail
 with_reducible refine (C2.out _ HX1.out).mono ?_
 rintro e w2 ⟨v2, rfl, hp2, hx2⟩
 have HX2 := hid (HX1.out.trans hx2)
 have C4 := hid (C3.out w2 _ v2 ((HP1.out.ext hx2 (fun _ h => h)).to (Kept.refl _ _) (fun k h => Nat.lt_of_lt_of_le h hx2.size)) (hp2.to (Kept.refl _ _) New.lt))
 obtain ⟨a3, c3, rfl⟩ := hp2.form
 clear hp2 hx2
 go_wp2_with fail
 with_reducible refine C4.out.mono ?_
 rintro e w3 ⟨v3, rfl, hp3, hx3⟩
 have HX3 := hid (HX2.out.trans hx3)
 have HP3 := hid (hp3.to (S' := New w w3) (Kept.refl _ _) (fun k h => ⟨Nat.le_trans HX2.out.size h.1, h.2⟩))
 clear hp3 hx3
 go_wp2
 all_goals
  go_ret
  exact ⟨_, rfl, HP3.out, HX3.out⟩
theorem sg_mul (xn yn : Bool) (a b : Nat) : sg (xn != yn) (a * b) = sg xn a * sg yn b := by
 unfold sg
 cases xn <;> cases yn <;> simp [Int.neg_mul, Int.mul_neg]
theorem whole_mul {S : Nat → Prop} (vx vy : Value) (x y : RInt) (w : World) (hx : IntV S w vx x) (hy : IntV S w vy y) (hS : ∀ k, S k → k < w.heap.size) (hr : x.mag.length ≤ 100000000000) (hr2 : y.mag.length ≤ 100000000000)
  (hc : lenI (valI x) < 24 ∨ lenI (valI y) < 24) :
  Calls Tryz.prog 158 #[vx, vy] w fun e w' => ∃ v', e = .returned v' ∧ IntV (New w w') w' v' (ofI (valI x * valI y)) ∧ Ext w w' := by
 obtain ⟨xn, xs⟩ := x
 obtain ⟨yn, ys⟩ := y
 obtain ⟨vxm, rfl, hxu⟩ := hx
 obtain ⟨vym, rfl, hyu⟩ := hy
 simp only at hxu hyu hr hr2 ⊢
 have hc' : lenN (val B32 xs) < 24 ∨ lenN (val B32 ys) < 24 := by
  have e1 : lenI (valI ⟨xn, xs⟩) = lenN (val B32 xs) := by
   rw [← ofI_len]
   unfold ofI valI lenN
   cases xn <;> simp
  have e2 : lenI (valI ⟨yn, ys⟩) = lenN (val B32 ys) := by
   rw [← ofI_len]
   unfold ofI valI lenN
   cases yn <;> simp
  rwa [e1, e2] at hc
 have HCL := hid hc'
 have HX := hid hxu
 have HY := hid hyu
 obtain ⟨ax, cx, rfl⟩ := hxu.form
 obtain ⟨ay, cy, rfl⟩ := hyu.form
 clear hxu hyu hc hc'
 have HK := hid (Ext.alloc (Ext.alloc (Ext.alloc (Ext.refl w) (.cells #[.bool xn, .slice ax xs.length cx] 26)) (.cells #[.bool yn, .slice ay ys.length cy] 26)) (.cells #[.bool false, .slice none 0 0] 26))
 have HXK := hid (HX.out.ext HK.out hS)
 have HYK := hid (HY.out.ext HK.out hS)
 have HSK := hid (lt_ext hS HK.out)
 have hsz : w.heap.size + 1 + 1 < (((w.alloc (.cells #[.bool xn, .slice ax xs.length cx] 26)).alloc (.cells #[.bool yn, .slice ay ys.length cy] 26)).alloc (.cells #[.bool false, .slice none 0 0] 26)).heap.size := by simp
 have HSZ := hid hsz
 clear hsz
 have HQ : Hid (valI ⟨xn, xs⟩ * valI ⟨yn, ys⟩ = sg (xn != yn) (val B32 xs * val B32 ys)) := hid (by
  rw [sg_mul]
  rfl)
 obtain ⟨b1, b2, b3, b4⟩ := blk3 (Ext.refl (((w.alloc (.cells #[.bool xn, .slice ax xs.length cx] 26)).alloc (.cells #[.bool yn, .slice ay ys.length cy] 26)).alloc (.cells #[.bool false, .slice none 0 0] 26)))
 have c1 := b1 0 _ rfl
 have c2 := b1 1 _ rfl
 have c3 := b2 1 _ rfl
 have c4 := b2 0 _ rfl
 clear b1 b2 b3 b4
 have S0 := drew3 c1 c2 c3
 have S0' := drew3 c4 c4 c4
 have HS0 := hid (And.intro S0.1 (And.intro S0.2.1 (And.intro S0.2.2 S0'.1)))
 clear S0 S0' c1 c2 c3 c4
 go_enter Tryz.func158, Tryz.ntmps158
 go_wp2
 have S0 := HS0.out
 have HL : Hid ((rep B32 (val B32 xs * val B32 ys)).length ≤ 50000000000000) := hid (mul_lens (by have h1 := lenN_le HX.out.lt; have h2 := lenN_le HY.out.lt; omega))
 obtain ⟨xy, hxy⟩ : ∃ b, b = (xn != yn) := ⟨_, rfl⟩
 rw [← hxy] at HQ
 have hxyq : (!(xn == yn)) = xy := hxy.symm
 clear hxy
 go_region_held3 (fun W => W.cell? ⟨w.heap.size, 0, none⟩ = some (.bool xn) ∧ W.cell? ⟨w.heap.size, 1, none⟩ = some (.slice ax xs.length cx) ∧ W.cell? ⟨w.heap.size + 1, 1, none⟩ = some (.slice ay ys.length cy) ∧ W.cell? ⟨w.heap.size + 1, 0, none⟩ = some (.bool yn)) (first | exact S0 | exact S1 | exact S2 | exact ⟨other (other S2.1 (ab (by omega))) (ab (by omega)), other (other S2.2.1 (ab (by omega))) (ab (by omega)), other (other S2.2.2.1 (ab (by omega))) (ab (by omega)), other (other S2.2.2.2 (ab (by omega))) (ab (by omega))⟩)
  (first
   | (go_at_call 168; (with_reducible refine (times_mul _ _ xs ys _ (HX.out.ext (HK.out.drew) hS) (HY.out.ext (HK.out.drew) hS) (lt_ext hS (HK.out.drew)) (by omega) HCL.out).mono ?_); rintro e w1 ⟨v1, rfl, hu1, hx1⟩; have S1 := And.intro (hx1.cell S0.1) (And.intro (hx1.cell S0.2.1) (And.intro (hx1.cell S0.2.2.1) (hx1.cell S0.2.2.2))); have HX1 := hid hx1; have HU1 := hid hu1; obtain ⟨a1, n1, rfl⟩ := hu1.form; clear hx1 hu1)
   | (go_at_call 104; (with_reducible refine (made_rep xy _ _ _ HU1.out New.lt HL.out).mono ?_); rintro e w2 ⟨v2, rfl, ⟨vm2, rfl, hu2⟩, hx2⟩; have S2 := And.intro (hx2.cell S1.1) (And.intro (hx2.cell S1.2.1) (And.intro (hx2.cell S1.2.2.1) (hx2.cell S1.2.2.2))); have HX2 := hid hx2; have HU2 := hid hu2; obtain ⟨a2, n2, rfl⟩ := hu2.form; obtain ⟨-, -, d3, d4⟩ := blk3 ((Ext.drew (Ext.refl _)).trans (HX1.out.trans hx2)); have e0 := d3 0 _ rfl; have e1 := d3 1 _ rfl; have HE := hid (And.intro e0 e1); have f0 := d4 0; have f1 := d4 1; clear d3 d4 hx2 hu2))
 all_goals
  go_wp2
  have hd := fun x y => two_set x y HE.out.1 HE.out.2
  refine bodyPost_ret (by simp [results, Tryz.results158, go_sem, (hd _ _).1, (hd _ _).2]; rfl) rfl ?_
  have hg := ret_int3 (w0 := w) (b := w.heap.size + 1 + 1) rfl HU2.out (HK.out.drew.trans HX1.out) HX2.out (by omega) (Nat.lt_of_lt_of_le HSZ.out HX1.out.size) (.bool (ofI (sg xy (val B32 xs * val B32 ys))).neg) (.slice a2 (ofI (sg xy (val B32 xs * val B32 ys))).mag.length n2)
  rw [HQ.out]
  exact ⟨_, rfl, hg.1, hg.2⟩
end
section
open Go.RowKit
theorem whole_of (n : Int) (w : World) (hn : -9223372036854775808 ≤ n ∧ n ≤ 9223372036854775807) :
  Calls Tryz.prog 170 #[.int .i64 n] w fun e w' => ∃ v', e = .returned v' ∧ IntV (New w w') w' v' (ofI n) ∧ Ext w w' := by
 obtain ⟨hn1, hn2⟩ := hn
 have HX0 := hid (Ext.alloc (Ext.refl w) (.cells #[.bool false, .slice none 0 0] 26))
 have HSZ : Hid (w.heap.size < (w.alloc (.cells #[.bool false, .slice none 0 0] 26)).heap.size) := hid (by rw [size_alloc]; omega)
 by_cases h : n < 0
 ·obtain ⟨x, hx⟩ : ∃ x : Nat, (x : Int) = -n := ⟨(-n).toNat, by omega⟩
  have hxl : x < 18446744073709551616 := by omega
  have q1 : n % 18446744073709551616 = 18446744073709551616 - (x : Int) := by omega
  have q2 : IntKind.u64.wrap (-IntKind.u64.wrap n) = (x : Int) := by
   rw [IntKind.wrap_u64, IntKind.wrap_u64]
   omega
  have HS := hid (fun W : World => nat_small x W hxl)
  have HL : Hid ((rep B32 x).length ≤ 50000000000000) := hid (Nat.le_trans (rep_len_le two_le_B32 x 2 (by show x < 4294967296 ^ 2; omega)) (by decide))
  have HQ : Hid (n = sg true x) := hid (by unfold sg; rw [if_pos rfl]; omega)
  clear hx hxl
  go_enter Tryz.func170, Tryz.ntmps170
  go_wp2_with fail
  with_reducible refine (HS.out _).mono ?_
  rintro e w1 ⟨v1, rfl, hp1, hx1⟩
  have HX1 := hid hx1
  have HP1 := hid hp1
  obtain ⟨a1, c1, rfl⟩ := hp1.form
  clear hp1 hx1
  go_wp2_with fail
  with_reducible refine (made_rep true _ _ _ HP1.out New.lt HL.out).mono ?_
  rintro e w2 ⟨v2, rfl, ⟨vm2, rfl, hu2⟩, hx2⟩
  have HX2 := hid hx2
  have HU2 := hid hu2
  obtain ⟨a2, n2, rfl⟩ := hu2.form
  have e0 := (HX1.out.trans hx2).new_cell (i := 0) rfl
  have e1 := (HX1.out.trans hx2).new_cell (i := 1) rfl
  have f0 := (HX1.out.trans hx2).new_free 0
  have f1 := (HX1.out.trans hx2).new_free 1
  have HE := hid (And.intro e0 e1)
  rw [← HQ.out] at HU2 ⊢
  clear hx2 hu2
  go_wp2
  have hd := fun x y => two_set x y HE.out.1 HE.out.2
  refine bodyPost_ret (by simp [results, Tryz.results170, go_sem, (hd _ _).1, (hd _ _).2]; rfl) rfl ?_
  have hg := ret_int3 (w0 := w) (b := w.heap.size) rfl HU2.out (HX0.out.trans HX1.out) HX2.out (Nat.le_refl _) (Nat.lt_of_lt_of_le HSZ.out HX1.out.size) (.bool (ofI n).neg) (.slice a2 (ofI n).mag.length n2)
  exact ⟨_, rfl, hg.1, hg.2⟩
 ·obtain ⟨x, hx⟩ : ∃ x : Nat, (x : Int) = n := ⟨n.toNat, by omega⟩
  have hxl : x < 18446744073709551616 := by omega
  have q2 : IntKind.u64.wrap n = (x : Int) := by
   rw [IntKind.wrap_u64]
   omega
  have HS := hid (fun W : World => nat_small x W hxl)
  have HL : Hid ((rep B32 x).length ≤ 50000000000000) := hid (Nat.le_trans (rep_len_le two_le_B32 x 2 (by show x < 4294967296 ^ 2; omega)) (by decide))
  have HQ : Hid (n = sg false x) := hid (by unfold sg; simp; omega)
  clear hx hxl
  go_enter Tryz.func170, Tryz.ntmps170
  go_wp2_with fail
  with_reducible refine (HS.out _).mono ?_
  rintro e w1 ⟨v1, rfl, hp1, hx1⟩
  have HX1 := hid hx1
  have HP1 := hid hp1
  obtain ⟨a1, c1, rfl⟩ := hp1.form
  clear hp1 hx1
  go_wp2_with fail
  with_reducible refine (made_rep false _ _ _ HP1.out New.lt HL.out).mono ?_
  rintro e w2 ⟨v2, rfl, ⟨vm2, rfl, hu2⟩, hx2⟩
  have HX2 := hid hx2
  have HU2 := hid hu2
  obtain ⟨a2, n2, rfl⟩ := hu2.form
  have e0 := (HX1.out.trans hx2).new_cell (i := 0) rfl
  have e1 := (HX1.out.trans hx2).new_cell (i := 1) rfl
  have f0 := (HX1.out.trans hx2).new_free 0
  have f1 := (HX1.out.trans hx2).new_free 1
  have HE := hid (And.intro e0 e1)
  rw [← HQ.out] at HU2 ⊢
  clear hx2 hu2
  go_wp2
  have hd := fun x y => two_set x y HE.out.1 HE.out.2
  refine bodyPost_ret (by simp [results, Tryz.results170, go_sem, (hd _ _).1, (hd _ _).2]; rfl) rfl ?_
  have hg := ret_int3 (w0 := w) (b := w.heap.size) rfl HU2.out (HX0.out.trans HX1.out) HX2.out (Nat.le_refl _) (Nat.lt_of_lt_of_le HSZ.out HX1.out.size) (.bool (ofI n).neg) (.slice a2 (ofI n).mag.length n2)
  exact ⟨_, rfl, hg.1, hg.2⟩
end
section
open Go.RowKit
end
section
open Go.RowKit
section
variable {S S' : Nat → Prop} {w w' : World} {v : Value} {l : List PZ}
end
end
section
open Go.RowKit
def bigTerm (t : RTerm) : Bool := decide (20 < t.c.mag.length) || decide (12 < t.m.length)
def greatT (n : Int) (ts : List RTerm) : Bool := ts.any bigTerm || decide (n < (ts.length : Int))
theorem rpoly_great {S : Nat → Prop} (v : Value) (ts : List RTerm) (n : Int) (w : World) (h : Terms S w v ts) (_hS : ∀ k, S k → k < w.heap.size) (hn : -9223372036854775808 ≤ n ∧ n ≤ 9223372036854775807) :
  Calls Tryz.prog 28 #[v, .int .i64 n] w fun e w' => e = .returned (.bool (greatT n ts)) ∧ Ext w w' := by
 have H := hid h
 have hl := h.len_le
 obtain ⟨hn1, hn2⟩ := hn
 obtain ⟨a, cap, rfl⟩ := h.form
 clear h
 go_enter Tryz.func28, Tryz.ntmps28
 go_wp2
 go_loopw [5] (fun i wr => ∃ k : Nat, k ≤ ts.length ∧ i = .int .i64 k ∧ Ext w wr ∧ Hid ((ts.take k).any bigTerm = false)) (fun i _ => ts.length - (intOf i).toNat)
 case atStart => exact ⟨0, Nat.zero_le _, rfl, Ext.refl _, hid rfl⟩
 case round =>
  obtain ⟨k, hk, rfl, hx, HM⟩ := hrel
  have HX := hid hx
  by_cases hlt : k < ts.length
  ·obtain ⟨t, ht⟩ := some_of_lt hlt
   obtain ⟨b, off, vm, vo, rfl, -, hq1, hm1, hSb, h1, h2, h3, h4, h5⟩ := H.out.cellAt ht
   have HT : Hid (ts.take (k + 1) = ts.take k ++ [t]) := hid (by rw [List.take_add_one, ht]; rfl)
   have HQ := hid (List.mem_of_getElem? ht)
   have hl1 := h4.len_le
   have hl2 := h5.len_le
   have HBT : Hid (bigTerm t = (decide (20 < t.c.mag.length) || decide (12 < t.m.length))) := hid rfl
   have g1 := Ext.cell hx h1
   have g2 := Ext.cell hx h2
   have g3 := Ext.cell hx h3
   obtain ⟨am, cm, rfl⟩ := h4.form
   obtain ⟨ao, co, rfl⟩ := h5.form
   generalize t.c.mag.length = x at *
   generalize t.m.length = y at *
   clear hx ht h1 h2 h3 h4 h5
   by_cases hbig : 20 < x
   ·have HF : Hid (greatT n ts = true) := hid (by
     unfold greatT
     rw [List.any_eq_true.2 ⟨t, HQ.out, by rw [HBT.out, decide_eq_true hbig]; rfl⟩]
     rfl)
    go_wp2
    all_goals
     go_ret
     exact ⟨by rw [HF.out]; rfl, HX.out⟩
   ·by_cases hbig2 : 12 < y
    ·have HF : Hid (greatT n ts = true) := hid (by
      unfold greatT
      rw [List.any_eq_true.2 ⟨t, HQ.out, by rw [HBT.out, decide_eq_true hbig2, Bool.or_true]⟩]
      rfl)
     go_wp2
     all_goals
      go_ret
      exact ⟨by rw [HF.out]; rfl, HX.out⟩
    ·go_wp2
     go_roundw
     case rel => exact ⟨k + 1, by omega, by go_num, HX.out, hid (by rw [HT.out, List.any_append, HM.out]; simp [HBT.out]; omega)⟩
     case measure => simp only [intOf]; omega
  ·obtain rfl : k = ts.length := by omega
   have HF : Hid (greatT n ts = decide (n < (ts.length : Int))) := hid (by
    have := HM.out
    rw [List.take_length] at this
    unfold greatT
    rw [this, Bool.false_or])
   clear hx
   go_wp2
   all_goals
    go_ret
    exact ⟨by rw [HF.out]; rfl, HX.out⟩
end
section
open Go.RowKit
section
variable {S : Nat → Prop} {w w1 w2 : World} {o : Value} {e : TypeId} {size n : Nat} {xs : List Value}
end
theorem szP_take {p : PZ} (h : szP p) (k : Nat) : szP (p.take k) := ⟨Nat.le_trans (by rw [List.length_take]; exact Nat.min_le_right _ _) h.1, fun t ht => h.2 t (List.mem_of_mem_take ht)⟩
theorem addP_take {p : PZ} (h : canP p) (k : Nat) : addP [] (p.take k) = p.take k := normP_of_can (canP_sublist h (List.take_sublist _ _))
theorem plainP_yes {ts : List RTerm} (h : mayT ts = true) : plainP ts = toP ts := by unfold plainP; simp [h]
end
section
/-! Monomials without a greatest exponent -/
def okTail (last : Int) : Mono → Bool
 | [] => true
 | x :: r => decide (last < x.1 ∧ x.1 ≤ 200 ∧ 1 ≤ x.2) && okTail x.1 r
def okM (m : Mono) : Bool := okTail 0 m
theorem may_okTail {l : Int} {m : Mono} (h : mayTail l m = true) : okTail l m = true := by
 induction m generalizing l with
 | nil => rfl
 | cons x r ih =>
  simp only [mayTail, okTail, Bool.and_eq_true, decide_eq_true_eq] at h ⊢
  exact ⟨by omega, ih h.2⟩
theorem may_ok {m : Mono} (h : mayM m = true) : okM m = true := may_okTail h
theorem ok_low {l : Int} {m : Mono} (h : okTail l m = true) {u : Int} (hu : u ≤ l) : ex m u = 0 := by
 induction m generalizing l with
 | nil => rfl
 | cons y s ih =>
  simp only [okTail, Bool.and_eq_true, decide_eq_true_eq] at h
  rw [ex, if_neg (by omega)]
  exact ih h.2 (by omega)
theorem ok_nonneg {l : Int} {m : Mono} (h : okTail l m = true) (u : Int) : 0 ≤ ex m u := by
 induction m generalizing l with
 | nil => simp [ex]
 | cons y s ih =>
  simp only [okTail, Bool.and_eq_true, decide_eq_true_eq] at h
  rw [ex]
  split
  ·omega
  ·exact ih h.2
theorem ok_ext {l : Int} {a b : Mono} (ha : okTail l a = true) (hb : okTail l b = true) (h : ∀ v, ex a v = ex b v) : a = b := by
 induction a generalizing b l with
 | nil =>
  cases b with
  | nil => rfl
  | cons y b =>
   have := h y.1
   simp only [okTail, Bool.and_eq_true, decide_eq_true_eq] at hb
   simp [ex] at this
   omega
 | cons x a ih =>
  cases b with
  | nil =>
   have := h x.1
   simp only [okTail, Bool.and_eq_true, decide_eq_true_eq] at ha
   simp [ex] at this
   omega
  | cons y b =>
   simp only [okTail, Bool.and_eq_true, decide_eq_true_eq] at ha hb
   have h1 := h x.1
   have h2 := h y.1
   have e : x.1 = y.1 := by
    rcases Int.lt_trichotomy x.1 y.1 with g | g | g
    ·rw [ex, if_pos rfl, ex, if_neg (by omega), ok_low hb.2 (by omega)] at h1
     omega
    ·exact g
    ·rw [ex, if_neg (by omega), ok_low ha.2 (by omega), ex, if_pos rfl] at h2
     omega
   have e2 : x.2 = y.2 := by
    rw [ex, if_pos rfl, ex, if_pos e.symm] at h1
    exact h1
   have : x = y := Prod.ext e e2
   subst this
   congr 1
   refine ih ha.2 hb.2 (fun v => ?_)
   have := h v
   rw [ex, ex] at this
   split at this
   ·rename_i hv
    rw [ok_low ha.2 (by omega), ok_low hb.2 (by omega)]
   ·exact this
theorem both_lko {last : Int} {a b : Mono} (ha : okTail last a = true) (hb : okTail last b = true) : ris last (both a b) ∧ (∀ u, lk (both a b) u = (ex a u, ex b u)) ∧ ∀ t ∈ both a b, 1 ≤ t.2.1 + t.2.2 := by
 generalize hn : a.length + b.length = n
 induction n using Nat.strongRecOn generalizing a b last with
 | ind n ih =>
 cases a with
 | nil =>
  cases b with
  | nil => rw [both_nil]; exact ⟨trivial, fun u => rfl, fun t ht => by simp at ht⟩
  | cons y b =>
   simp only [okTail, Bool.and_eq_true, decide_eq_true_eq] at hb
   simp only [List.length_cons, List.length_nil] at hn
   obtain ⟨h1, h2, h3⟩ := ih (0 + b.length) (by omega) (a := []) (b := b) (last := y.1) rfl hb.2 (by simp)
   rw [both_right]
   refine ⟨⟨hb.1.1, hb.1.2.1, h1⟩, fun u => ?_, fun t ht => ?_⟩
   ·rw [lk, h2, ex]
    simp only [ex]
    split <;> rfl
   ·rcases List.mem_cons.1 ht with rfl | ht
    ·simp only; omega
    ·exact h3 t ht
 | cons x a =>
  cases b with
  | nil =>
   simp only [okTail, Bool.and_eq_true, decide_eq_true_eq] at ha
   simp only [List.length_cons, List.length_nil] at hn
   obtain ⟨h1, h2, h3⟩ := ih (a.length + 0) (by omega) (a := a) (b := []) (last := x.1) ha.2 rfl (by simp)
   rw [both_left]
   refine ⟨⟨ha.1.1, ha.1.2.1, h1⟩, fun u => ?_, fun t ht => ?_⟩
   ·rw [lk, h2]
    simp only [ex]
    split <;> rfl
   ·rcases List.mem_cons.1 ht with rfl | ht
    ·simp only; omega
    ·exact h3 t ht
  | cons y b =>
   have hA := ha
   have hB := hb
   simp only [okTail, Bool.and_eq_true, decide_eq_true_eq] at ha hb
   simp only [List.length_cons] at hn
   rw [both_cons]
   split
   ·rename_i hlt
    have hb' : okTail x.1 (y :: b) = true := by simp only [okTail, Bool.and_eq_true, decide_eq_true_eq]; exact ⟨⟨hlt, hb.1.2⟩, hb.2⟩
    obtain ⟨h1, h2, h3⟩ := ih (a.length + (b.length + 1)) (by omega) (a := a) (b := y :: b) (last := x.1) ha.2 hb' (by simp)
    refine ⟨⟨ha.1.1, ha.1.2.1, h1⟩, fun u => ?_, fun t ht => ?_⟩
    ·rw [lk, h2]
     by_cases hu : x.1 = u
     ·rw [if_pos hu, ← hu, ok_low hb' (Int.le_refl _), ex, if_pos rfl]
     ·rw [if_neg hu]; conv => rhs; rw [ex, if_neg hu]
    ·rcases List.mem_cons.1 ht with rfl | ht
     ·simp only; omega
     ·exact h3 t ht
   ·split
    ·rename_i hnlt hlt
     have ha' : okTail y.1 (x :: a) = true := by simp only [okTail, Bool.and_eq_true, decide_eq_true_eq]; exact ⟨⟨hlt, ha.1.2⟩, ha.2⟩
     obtain ⟨h1, h2, h3⟩ := ih (a.length + 1 + b.length) (by omega) (a := x :: a) (b := b) (last := y.1) ha' hb.2 (by simp)
     refine ⟨⟨hb.1.1, hb.1.2.1, h1⟩, fun u => ?_, fun t ht => ?_⟩
     ·rw [lk, h2]
      by_cases hu : y.1 = u
      ·rw [if_pos hu, ← hu, ok_low ha' (Int.le_refl _), ex, if_pos rfl]
      ·rw [if_neg hu, show ex (y :: b) u = ex b u by rw [ex, if_neg hu]]
     ·rcases List.mem_cons.1 ht with rfl | ht
      ·simp only; omega
      ·exact h3 t ht
    ·rename_i h3 h4
     have hxy : x.1 = y.1 := by omega
     rw [← hxy] at hb
     obtain ⟨h1, h2, h5⟩ := ih (a.length + b.length) (by omega) (a := a) (b := b) (last := x.1) ha.2 hb.2 (by simp)
     refine ⟨⟨ha.1.1, ha.1.2.1, h1⟩, fun u => ?_, fun t ht => ?_⟩
     ·rw [lk, h2]
      by_cases hu : x.1 = u
      ·rw [if_pos hu, ex, if_pos hu, ex, if_pos (by omega)]
      ·rw [if_neg hu, show ex (y :: b) u = ex b u by rw [ex, if_neg (by omega)], show ex (x :: a) u = ex a u by rw [ex, if_neg hu]]
     ·rcases List.mem_cons.1 ht with rfl | ht
      ·simp only; omega
      ·exact h5 t ht
theorem times_ex' {a b : Mono} (ha : okM a = true) (hb : okM b = true) (u : Int) : ex (timesM a b) u = ex a u + ex b u := by
 obtain ⟨h1, h2, -⟩ := both_lko ha hb
 unfold timesM
 rw [madeM_ex (by simp) h1, h2]
 have h3 := ok_nonneg ha u
 have h4 := ok_nonneg hb u
 simp only
 split <;> omega
theorem made_ok {last : Int} {l : List (Int × Int × Int)} (h : ris last l) : okTail last (madeM (· + ·) l) = true := by
 have weak : ∀ {l k : Int} {m : Mono}, okTail l m = true → k ≤ l → okTail k m = true := by
  intro l k m h hk
  cases m with
  | nil => rfl
  | cons x r =>
   simp only [okTail, Bool.and_eq_true, decide_eq_true_eq] at h ⊢
   exact ⟨by omega, h.2⟩
 induction l generalizing last with
 | nil => rfl
 | cons t r ih =>
  obtain ⟨h1, h2, h3⟩ := h
  have hr := ih h3
  rw [madeM]
  split
  ·rename_i h4
   simp only [okTail, Bool.and_eq_true, decide_eq_true_eq]
   exact ⟨by omega, hr⟩
  ·exact weak hr (by omega)
theorem times_ok {a b : Mono} (ha : okM a = true) (hb : okM b = true) : okM (timesM a b) = true := made_ok (both_lko ha hb).1
theorem times_one_left {a : Mono} (ha : okM a = true) : timesM [] a = a := ok_ext (times_ok rfl ha) ha (fun v => by rw [times_ex' rfl ha]; simp [ex])
theorem times_one_right {a : Mono} (ha : okM a = true) : timesM a [] = a := ok_ext (times_ok ha rfl) ha (fun v => by rw [times_ex' ha rfl]; simp [ex])
/-! Linear functionals -/
/-! Products -/
def mulL (p q : PZ) : PZ := p.flatMap fun t => q.map fun u => (t.1 * u.1, timesM t.2 u.2)
/-! The canonical list of any -/
theorem norm_can {p : PZ} (h : mayAll p) : canP (normP p) := (addP_can canP_nil h).1
theorem norm_cf {p : PZ} (h : mayAll p) (m : Mono) : cf (normP p) m = cf p m := by
 have := (addP_can canP_nil h).2 m
 rw [show cf [] m = 0 from rfl, Int.zero_add] at this
 exact this
theorem flatMap_same {α β : Type} {f g : α → List β} {l : List α} (h : ∀ x ∈ l, f x = g x) : l.flatMap f = l.flatMap g := by
 induction l with
 | nil => rfl
 | cons x r ih => rw [List.flatMap_cons, List.flatMap_cons, h x (by simp), ih (fun y hy => h y (by simp [hy]))]
theorem prodL_some {p q : PZ} (hp : mayAll p) (hq : mayAll q) (h : mayAll (mulL p q)) : prodL p q = (mulL p q).map some := by
 unfold prodL mulL
 rw [List.map_flatMap]
 refine flatMap_same (fun t ht => ?_)
 rw [List.map_map]
 refine List.map_congr_left (fun u hu => ?_)
 exact pair_yes (hp t ht) (hq u hu) (h _ (List.mem_flatMap.2 ⟨t, ht, List.mem_map.2 ⟨u, hu, rfl⟩⟩))
theorem times_norm {p q : PZ} (hp : mayAll p) (hq : mayAll q) (h : mayAll (mulL p q)) : timesP p q = some (normP (mulL p q)) := by
 unfold timesP
 rw [prodL_some hp hq h, allO_some]
 rfl
theorem times_some {p q c : PZ} (hp : mayAll p) (hq : mayAll q) (h : timesP p q = some c) : mayAll (mulL p q) ∧ c = normP (mulL p q) := by
 have hm : mayAll (mulL p q) := fun x hx => by
  obtain ⟨t, ht, h2⟩ := List.mem_flatMap.1 hx
  obtain ⟨u, hu, rfl⟩ := List.mem_map.1 h2
  cases hm : mayM (timesM t.2 u.2) with
  | true => rfl
  | false =>
   exfalso
   have h3 : (none : Option (Int × Mono)) ∈ prodL p q := List.mem_flatMap.2 ⟨t, ht, List.mem_map.2 ⟨u, hu, pair_no (hp t ht) (hq u hu) hm⟩⟩
   obtain ⟨l, r, e⟩ := List.append_of_mem h3
   unfold timesP at h
   rw [e, allO_none] at h
   cases h
 refine ⟨hm, ?_⟩
 rw [times_norm hp hq hm] at h
 exact (Option.some.inj h).symm
end
section
theorem norm_mem {p : PZ} (h : mayAll p) {t : Int × Mono} (ht : t ∈ normP p) : ∃ u ∈ p, u.2 = t.2 := by
 have h1 := (norm_can h).cf_mem ht
 rw [norm_cf h] at h1
 have h2 := ((norm_can h).1 t ht).1
 exact canP.mem_of_cf (by rw [h1]; exact h2)
theorem mulL_mem {p q : PZ} {x : Int × Mono} (h : x ∈ mulL p q) : ∃ t ∈ p, ∃ u ∈ q, x = (t.1 * u.1, timesM t.2 u.2) := by
 obtain ⟨t, ht, h2⟩ := List.mem_flatMap.1 h
 obtain ⟨u, hu, rfl⟩ := List.mem_map.1 h2
 exact ⟨t, ht, u, hu, rfl⟩
section
variable {P Q C : PZ}
def below (p q : PZ) : Prop := ∀ t ∈ p, ∃ u ∈ q, ∀ v, ex t.2 v ≤ ex u.2 v
end
end
section
theorem take_eq_succ {α : Type} {xs ys : List α} {k : Nat} {x : α} (h : xs.take k = ys.take k) (hx : xs[k]? = some x) (hy : ys[k]? = some x) : xs.take (k + 1) = ys.take (k + 1) := by
 rw [List.take_add_one, List.take_add_one, h, hx, hy]
theorem ne_of_at {α : Type} {xs ys : List α} {k : Nat} {x y : α} (hx : xs[k]? = some x) (hy : ys[k]? = some y) (h : x ≠ y) : xs ≠ ys := by
 rintro rfl
 rw [hx] at hy
 exact h (Option.some.inj hy)
end
end Go.Proofs.YtbfflodidkfphaaGreat
