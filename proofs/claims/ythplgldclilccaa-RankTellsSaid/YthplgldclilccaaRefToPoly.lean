/- The document: a polynomial as data. -/
import Derived.Test.YthplgldclilccaaRefOf
namespace Go.Proofs.Ythplgldclilccaa
open Go.RowKit

section
variable {P : Program}
/-- an append inside a region that draws its order -/
theorem step_append_src {w : World} {ops : Array Oper} {o : Oper} {a : Act} {K : Act → World → Prop} {Q : Exit → Act → World → Prop} {E : Prop} (hgd : o.guard = none) (s x : Operand) (t : TypeId)
    (ho : o.op = .call { callee := .builtin .append, args := #[s, x], argTypes := #[t, t] })
    (base : Nat) (e : TypeId) (i : TypeInfo) (z : Value) (size bytes : Nat) (ht : P.underlying t = some (.slice e)) (hi : P.info? e = some i) (hz : i.zero = some z)
    (hsize : i.size = size) (hby : i.bytes = bytes) (hzs : z.cells.size = size) (hsz : 0 < size)
    (v : Value) (n : Nat) (xs : List Value) (hs : a.eval s = v) (hown : w.ownsRow base e size v n xs)
    (A : Option Addr) (m c : Nat) (news : List Value) (hx : a.eval x = .slice A m c) (hsrc : SrcAt w A m size news)
    (h63 : n + m ≤ maxLen) (hbytes : (n + m) * bytes ≤ 140737488355328) (hbase : base ≤ w.heap.size)
    (h : ∀ v' w', w'.ownsRow base e size v' (n + m) (xs ++ news) → w.grownBy w' v.ownBlock → (v'.ownBlock = v.ownBlock ∨ v'.ownBlock = some w.heap.size) → K (a.put o.dst v') w') :
    if Region.wanted o (yielded ops a.tmps) = true then Oper.wp P o a w K Q else E := by
  have hw : Region.wanted o (yielded ops a.tmps) = true := by simp [Region.wanted, hgd]
  rw [if_pos hw]
  obtain ⟨v', w', hrun, h2, h3, h4⟩ := run_append_src (P := P) w base t o.type e i z size bytes ht hi hz hsize hby hzs hsz v n xs hown A m c news hsrc h63 hbytes hbase
  unfold Oper.wp execOp
  simp only [ho, resolve, invoke, builtin, Sem.run_bind, Sem.run_pure, Result.andThen_ok, List.map_toArray, List.map_cons, List.map_nil, hs, hx, hrun]
  exact h v' w' h2 h3 h4
end

theorem Terms.nilv (S : Nat → Prop) (w : World) (a : Option Addr) (cap : Nat) (h : cap ≤ 9223372036854775807) : Terms S w (.slice a 0 cap) [] :=
  ⟨0, 0, ⟨a, cap, rfl, Nat.zero_le _, h, fun h => absurd h (Nat.lt_irrefl 0), fun h => absurd h (Nat.lt_irrefl 0)⟩, fun j t hj => by simp at hj⟩

/-- the cells of the terms of a slice -/
def CellsT (S : Nat → Prop) (w : World) : List Value → List RTerm → Prop
  | xs, [] => xs = []
  | xs, t :: r => ∃ vd vo ys, xs = .bool t.c.neg :: vd :: vo :: ys ∧ U32s S w vd t.c.mag ∧ Pows S w vo t.m ∧ CellsT S w ys r
section
variable {S S' : Nat → Prop} {w w' : World}
theorem CellsT.append {xs ys : List Value} {p q : List RTerm} (h : CellsT S w xs p) (k : CellsT S w ys q) : CellsT S w (xs ++ ys) (p ++ q) := by
  induction p generalizing xs with
  | nil =>
    have e : xs = [] := h
    subst e
    exact k
  | cons t r ih =>
    obtain ⟨vd, vo, zs, rfl, h1, h2, h3⟩ := h
    exact ⟨vd, vo, zs ++ ys, rfl, h1, h2, ih h3⟩
theorem CellsT.to {xs : List Value} {p : List RTerm} (h : CellsT S w xs p) (hk : Kept S w w') (hS : ∀ k, S k → S' k) : CellsT S' w' xs p := by
  induction p generalizing xs with
  | nil => exact h
  | cons t r ih =>
    obtain ⟨vd, vo, zs, rfl, h1, h2, h3⟩ := h
    exact ⟨vd, vo, zs, rfl, h1.to hk hS, h2.to hk hS, ih h3⟩
theorem CellsT.length {xs : List Value} {p : List RTerm} (h : CellsT S w xs p) : xs.length = p.length * 3 := by
  induction p generalizing xs with
  | nil =>
    have e : xs = [] := h
    subst e
    rfl
  | cons t r ih =>
    obtain ⟨vd, vo, zs, rfl, h1, h2, h3⟩ := h
    simp only [List.length_cons, ih h3]
    omega
theorem CellsT.get {xs : List Value} {p : List RTerm} (h : CellsT S w xs p) {j : Nat} {t : RTerm} (ht : p[j]? = some t) :
    ∃ vd vo, xs[j * 3]? = some (.bool t.c.neg) ∧ xs[j * 3 + 1]? = some vd ∧ xs[j * 3 + 2]? = some vo ∧ U32s S w vd t.c.mag ∧ Pows S w vo t.m := by
  induction p generalizing xs j with
  | nil => simp at ht
  | cons u r ih =>
    obtain ⟨vd, vo, zs, rfl, h1, h2, h3⟩ := h
    cases j with
    | zero =>
      obtain rfl : u = t := by simpa using ht
      exact ⟨vd, vo, rfl, rfl, rfl, h1, h2⟩
    | succ j =>
      obtain ⟨vd', vo', g⟩ := ih h3 (j := j) (by simpa using ht)
      refine ⟨vd', vo', ?_⟩
      rw [show (j + 1) * 3 = j * 3 + 1 + 1 + 1 by omega]
      simpa using g
theorem CellsT.one {xs : List Value} {p : List RTerm} (h : CellsT S w xs p) : ∀ u ∈ xs, u.oneCell' = true := by
  induction p generalizing xs with
  | nil =>
    have e : xs = [] := h
    subst e
    intro u hu
    simp at hu
  | cons t r ih =>
    obtain ⟨vd, vo, zs, rfl, h1, h2, h3⟩ := h
    intro u hu
    simp only [List.mem_cons] at hu
    rcases hu with rfl | rfl | rfl | hu
    · rfl
    · obtain ⟨a, c, rfl⟩ := h1.form; rfl
    · obtain ⟨a, c, rfl⟩ := h2.form; rfl
    · exact ih h3 u hu
theorem CellsT.single {vd vo : Value} {t : RTerm} (h1 : U32s S w vd t.c.mag) (h2 : Pows S w vo t.m) : CellsT S w [.bool t.c.neg, vd, vo] [t] := ⟨vd, vo, [], rfl, h1, h2, rfl⟩
end

theorem own_terms {S : Nat → Prop} {w : World} {base : Nat} {e : TypeId} {v : Value} {xs : List Value} {p : List RTerm} (h : w.ownsRow base e 3 v p.length xs) (hc : CellsT S w xs p) (hB : ∀ k, base ≤ k → k < w.heap.size → S k) : Terms S w v p := by
  have hlt := h.lt
  rcases h.2 with ⟨rfl, h0⟩ | ⟨g, cap, cur, rfl, hg, hh, h1, h2, h3, h4⟩
  · obtain rfl : p = [] := List.length_eq_zero_iff.1 h0
    exact Terms.nilv _ _ _ _ (by omega)
  · refine ⟨g, 0, ⟨_, cap, rfl, h1, h2, fun _ => rfl, fun _ => hB g (hlt g rfl).1 (hlt g rfl).2⟩, fun j t hj => ?_⟩
    obtain ⟨vd, vo, g1, g2, g3, g4, g5⟩ := hc.get hj
    have hb := lt_of_some hj
    refine ⟨vd, vo, ?_, ?_, ?_, g4, g5⟩
    · rw [h.cellAt (0 + j * 3) (by omega), Nat.zero_add]
      exact g1
    · rw [h.cellAt (0 + j * 3 + 1) (by omega), Nat.zero_add]
      exact g2
    · rw [h.cellAt (0 + j * 3 + 2) (by omega), Nat.zero_add]
      exact g3

theorem Try.infoTerm : (Try.prog.info? 72).map (fun i => (i.zero, i.size, i.bytes)) = some (some (.agg #[.bool false, .slice none 0 0, .slice none 0 0]), 3, 56) := by kernel_rfl
section
variable {w w1 w2 : World} {o : Value} {e : TypeId} {size n : Nat} {xs : List Value}
theorem own_grown0 (hx : Ext w w1) (ho : w1.ownsRow w.heap.size e size o n xs) (hg : w1.grownBy w2 o.ownBlock) : Ext w w2 := ext_grown hx hg (fun k hk => (ho.lt k hk).1)
end
theorem ofP_at {p : PZ} {k : Nat} {t : Int × Mono} (h : p[k]? = some t) : ofP (p.take (k + 1)) = ofP (p.take k) ++ [⟨ofI t.1, t.2⟩] := by
  rw [List.take_add_one, h]
  unfold ofP
  rw [List.map_append]
  rfl
theorem ofP_length (p : PZ) : (ofP p).length = p.length := by unfold ofP; rw [List.length_map]
/-- new blocks but that of a slice -/
abbrev NewOff (w w1 : World) (o : Value) : Nat → Prop := fun k => New w w1 k ∧ some k ≠ o.ownBlock
theorem newOff_ext {w w1 w2 : World} {o : Value} {xs : List Value} {l : List RTerm} (h : CellsT (NewOff w w1 o) w1 xs l) (hx : Ext w1 w2) : CellsT (NewOff w w2 o) w2 xs l :=
  h.to (Kept.ext hx (fun _ h => h.1.2)) (fun _ h => ⟨⟨h.1.1, Nat.lt_of_lt_of_le h.1.2 hx.size⟩, h.2⟩)
theorem newOff_grown {w w2 w3 : World} {o v3 : Value} {xs : List Value} {l : List RTerm} {B : Nat} (h : CellsT (NewOff w w2 o) w2 xs l) (hg : w2.grownBy w3 o.ownBlock) (hb : v3.ownBlock = o.ownBlock ∨ v3.ownBlock = some B) (hB : w2.heap.size ≤ B) : CellsT (NewOff w w3 v3) w3 xs l :=
  h.to (Kept.grown hg (fun _ h => ⟨h.1.2, h.2⟩)) (fun k hk => ⟨⟨hk.1.1, Nat.lt_of_lt_of_le hk.1.2 hg.size⟩, by
    rcases hb with e | e
    · rw [e]; exact hk.2
    · rw [e]
      intro e2
      have e3 : k = B := Option.some.inj e2
      have := hk.1.2
      omega⟩)
/-- a term that was made behind a slice -/
theorem newOff_of {w w0 w1 : World} {o : Value} {e : TypeId} {size n : Nat} {xs : List Value} {l : List RTerm} {ys : List Value} (h0 : w.heap.size ≤ w0.heap.size) (ho : w0.ownsRow w.heap.size e size o n ys) (h : CellsT (New w0 w1) w1 xs l) : CellsT (NewOff w w1 o) w1 xs l :=
  h.to (Kept.refl _ _) (fun k hk => ⟨⟨Nat.le_trans h0 hk.1, hk.2⟩, fun e => by
    have := (ho.lt k e.symm).2
    have := hk.1
    omega⟩)

/-- one element in a block of its own, as a source -/
theorem src_one (w : World) (cs : Array Value) (e : TypeId) {size : Nat} (h1 : ∀ u ∈ cs.toList, u.oneCell' = true) (hs : cs.size = size) : SrcAt (w.alloc (.cells cs e)) (some ⟨w.heap.size, 0, none⟩) 1 size cs.toList :=
  ⟨by simpa using hs, h1, fun _ => ⟨_, rfl, fun j u hu => by
    rw [add_off, Nat.zero_add]
    exact cell_new w cs e rfl (by simpa using hu)⟩⟩
/-- a copy of powers, just made -/
theorem copy_done {w1 w3 : World} {v : Value} {n : Nat} {m : Mono} {e : TypeId} (h : w3.ownsRow w1.heap.size e 2 v (0 + n) ([] ++ flatP m)) (hn : n = m.length) (hb : inBounds m) : ∃ a c, v = .slice a n c ∧ Pows (New w1 w3) w3 v m := by
  subst hn
  rw [Nat.zero_add, List.nil_append] at h
  have hp := own_pows h hb
  obtain ⟨a, c, rfl⟩ := hp.form
  exact ⟨a, c, rfl, hp⟩
theorem copy_ext {w1 w3 : World} {cs : Array Value} {e : TypeId} (hg : (w1.alloc (.cells cs e)).grownBy w3 (some w1.heap.size)) : Ext w1 w3 :=
  ext_grown (Ext.alloc (Ext.refl w1) _) hg (fun k hk => by
    have : w1.heap.size = k := Option.some.inj hk
    omega)

theorem copy_late {wr w1 w3 : World} (hx : Ext wr w1) (hg : w1.grownBy w3 (some wr.heap.size)) : Ext wr w3 :=
  ext_grown hx hg (fun k hk => by
    have : wr.heap.size = k := Option.some.inj hk
    omega)
theorem late_u32s {wr w1 w3 : World} {o : Obj} {v : Value} {zs : List Nat} (h : U32s (New (wr.alloc o) w1) w1 v zs) (hg : w1.grownBy w3 (some wr.heap.size)) : U32s (New wr w3) w3 v zs := by
  have hne : ∀ k, New (wr.alloc o) w1 k → wr.heap.size + 1 ≤ k := fun k hk => by have := hk.1; rw [size_alloc] at this; exact this
  exact h.to (Kept.grown hg (fun k hk => ⟨hk.2, fun e => by
    have e2 : k = wr.heap.size := Option.some.inj e
    have := hne k hk
    omega⟩)) (fun k hk => ⟨by have := hne k hk; omega, Nat.lt_of_lt_of_le hk.2 hg.size⟩)

set_option maxRecDepth 100000 in
set_option maxHeartbeats 8000000 in
theorem rpoly_poly {S : Nat → Prop} (v : Value) (p : PZ) (w : World) (h : RTs S w v p) (hS : ∀ k, S k → k < w.heap.size) (hsz : szP p) (hml : ∀ t ∈ p, t.2.length ≤ 1000000) :
    Calls Try.prog 32 #[v] w fun e w' => ∃ v', e = .returned v' ∧ Terms (New w w') w' v' (ofP p) ∧ Ext w w' := by
  obtain ⟨i0, hi, hz0, hz1, hz2⟩ := info_parts Try.infoPower
  obtain ⟨j0, hj, jz0, jz1, jz2⟩ := info_parts Try.infoTerm
  have hl := h.len_le
  have H := hid h
  have HSZ := hid hsz
  have HML := hid hml
  obtain ⟨a, cap, rfl⟩ := h.form
  clear h hsz hml
  go_enter Try.func32, Try.ntmps32
  go_wp2
  go_loopw [3, 4] (fun o i wr => ∃ k xs, k ≤ p.length ∧ i = .int .i64 (k : Nat) ∧ Ext w wr ∧ Hid (wr.ownsRow w.heap.size 72 3 o k xs) ∧ Hid (CellsT (NewOff w wr o) wr xs (ofP (p.take k)))) (fun _ i _ => p.length - (intOf i).toNat)
  case atStart => exact ⟨0, [], Nat.zero_le _, rfl, Ext.refl _, hid (World.ownsRow_nil _ _ _ _), hid rfl⟩
  case round =>
    obtain ⟨k, xs, hk, rfl, hx, HW, HXS⟩ := hrel
    have HX := hid hx
    by_cases hlt : k < p.length
    · obtain ⟨t, ht⟩ := some_of_lt hlt
      obtain ⟨b, off, vd, vo, rfl, -, hn1, hm1, hSb, h1, h2, h3, h4, h5⟩ := H.out.cellAt ht
      have HT := hid (ofP_at ht)
      have HTM := hid (HML.out t (List.mem_of_getElem? ht))
      have HTZ := hid (HSZ.out.2 t (List.mem_of_getElem? ht))
      have H4 := hid h4
      have H5 := hid h5
      have HIB := hid h5.inBounds
      obtain ⟨ad, cd, rfl⟩ := h4.form
      obtain ⟨ao, co, rfl⟩ := h5.form
      have x0 : Ext w wr.drew := hx.drew
      have HX0 := hid x0
      have HXR := hid ((Ext.refl wr).drew)
      have h0 : _ ∧ _ ∧ _ := And.intro h1 (And.intro h2 h3)
      have c1 := fun (W : World) (hW : Ext wr.drew W) => zed_int (S := S) _ t.1 W (show ZV S W (.agg #[.bool (decide (t.1 < 0)), .slice ad (rep 10 t.1.natAbs).length cd]) t.1 from ⟨_, rfl, H4.out.ext (HX0.out.trans hW) hS⟩) (lt_ext hS (HX0.out.trans hW)) HTZ.out
      obtain ⟨bt, hbt⟩ : ∃ b, b = decide (t.1 < 0) := ⟨_, rfl⟩
      obtain ⟨nt, hnt⟩ : ∃ n, n = (rep 10 t.1.natAbs).length := ⟨_, rfl⟩
      obtain ⟨nm, hnm⟩ : ∃ n, n = t.2.length := ⟨_, rfl⟩
      have HNM := hid hnm
      rw [← hbt, ← hnt, ← hnm] at h0
      rw [← hbt, ← hnt] at c1
      rw [← hnm] at H5
      have HC0 := hid h0
      have S0 : _ ∧ _ ∧ _ := And.intro (x0.cell h0.1) (And.intro (x0.cell h0.2.1) (x0.cell h0.2.2))
      have C1 := hid c1
      have HB1 : Hid (0 + nm ≤ maxLen) := hid (by have := HTM.out; rw [← hnm] at this; unfold maxLen; omega)
      have HB2 : Hid ((0 + nm) * 16 ≤ 140737488355328) := hid (by have := HTM.out; rw [← hnm] at this; omega)
      have HB3 : Hid (k + 1 ≤ maxLen) := hid (by have := HSZ.out.1; unfold maxLen; omega)
      have HB4 : Hid ((k + 1) * 56 ≤ 140737488355328) := hid (by have := HSZ.out.1; omega)
      have HM0 : Hid (0 ≤ maxLen) := hid (Nat.zero_le _)
      have HWR := hid (own_ext HW.out HXR.out)
      have HXSR := hid (newOff_ext HXS.out HXR.out)
      clear ht h0 h1 h2 h3 h4 h5 hx x0 c1 hbt hnt hnm
      go_wp2
      go_region_held3 (fun W => W.cell? ⟨b, off + k * 3, none⟩ = some (.bool bt) ∧ W.cell? ⟨b, off + k * 3 + 1, none⟩ = some (.slice ad nt cd) ∧ W.cell? ⟨b, off + k * 3 + 2, none⟩ = some (.slice ao nm co)) (first | exact S0 | exact ⟨cell_old _ S0.1, cell_old _ S0.2.1, cell_old _ S0.2.2⟩ | exact S1 | exact ⟨cell_old _ S1.1, cell_old _ S1.2.1, cell_old _ S1.2.2⟩ | exact S3 | exact ⟨cell_old _ S3.1, cell_old _ S3.2.1, cell_old _ S3.2.2⟩ | exact S5)
        (first
          | (go_at_call 69; refine (C1.out _ ?_).mono ?_; · exact Ext.refl _
             rintro e w1 ⟨v1, rfl, hz1, hx1⟩; have HX1 := hid hx1; have HXW1 : Hid (Ext w w1) := hid (HX0.out.trans hx1); have S1 : _ ∧ _ ∧ _ := And.intro (HXW1.out.cell HC0.out.1) (And.intro (HXW1.out.cell HC0.out.2.1) (HXW1.out.cell HC0.out.2.2))
             obtain ⟨vm, rfl, hu1⟩ := hz1; have HU1 := hid hu1; obtain ⟨am, cm, rfl⟩ := hu1.form; obtain ⟨ng, hng⟩ : ∃ b, b = (ofI t.1).neg := ⟨_, rfl⟩; obtain ⟨nl, hnl⟩ : ∃ b, b = (ofI t.1).mag.length := ⟨_, rfl⟩; rw [← hng, ← hnl]; rw [← hnl] at HU1; have HNG := hid hng; have HNL := hid hnl
             have HOA := hid (World.ownsRow_made (base := w1.heap.size) (e := 82) (size := 2) w1 #[] 0 (Nat.le_refl _) HM0.out rfl); have HSRC1 := hid ((Pows.ext' H5.out (HXW1.out.alloc (.cells #[] 82)) hS).src.2); have HBS := hid (World.grownBy_alloc w1 (.cells #[] 82) none).size; clear hx1 hu1 hng hnl)
          | (go_at_call 69; refine (C1.out _ ?_).mono ?_; · exact Ext.alloc (Ext.refl _) _
             rintro e w1 ⟨v1, rfl, hz1, hx1⟩; have HX1 : Hid (Ext (wr.drew.alloc (.cells #[] 82)) w1) := hid hx1; have HXR1 := hid ((Ext.alloc (Ext.refl wr.drew) (.cells #[] 82)).trans hx1); have HXW1 : Hid (Ext w w1) := hid (HX0.out.trans HXR1.out); have S1 : _ ∧ _ ∧ _ := And.intro (HXW1.out.cell HC0.out.1) (And.intro (HXW1.out.cell HC0.out.2.1) (HXW1.out.cell HC0.out.2.2))
             obtain ⟨vm, rfl, hu1⟩ := hz1; have HU1 : Hid (U32s (New (wr.drew.alloc (.cells #[] 82)) w1) w1 vm (ofI t.1).mag) := hid hu1; obtain ⟨am, cm, rfl⟩ := hu1.form; obtain ⟨ng, hng⟩ : ∃ b, b = (ofI t.1).neg := ⟨_, rfl⟩; obtain ⟨nl, hnl⟩ : ∃ b, b = (ofI t.1).mag.length := ⟨_, rfl⟩; rw [← hng, ← hnl]; rw [← hnl] at HU1; have HNG := hid hng; have HNL := hid hnl
             have HOB := hid (own_ext (World.ownsRow_made (base := wr.heap.size) (e := 82) (size := 2) wr.drew #[] 0 (Nat.le_refl _) HM0.out rfl) hx1); have HSRC1 := hid ((Pows.ext' H5.out HXW1.out hS).src.2); have HBS := hid HXR1.out.size; clear hx1 hu1 hng hnl)
          | (refine step_append_src rfl (.tmp 18) (.tmp 23) 70 rfl w1.heap.size 82 i0 (.agg #[.int .i64 0, .int .i64 0]) 2 16 Try.underlying70 hi hz0 hz1 hz2 rfl (Nat.succ_pos _) (.slice (some ⟨w1.heap.size, 0, none⟩) 0 0) 0 [] rfl HOA.out ao nm co (flatP t.2) rfl HSRC1.out HB1.out HB2.out HBS.out ?_; intro v3 w3 hown hg _; obtain ⟨a3, c3, rfl, hp3⟩ := copy_done hown HNM.out HIB.out; have hx3 := copy_ext hg; have HXR3 : Hid (Ext wr.drew w3) := hid (HX1.out.trans hx3); have HP3 : Hid (Pows (New wr.drew w3) w3 (.slice a3 nm c3) t.2) := hid (hp3.to (Kept.refl _ _) (fun k h => ⟨Nat.le_trans HX1.out.size h.1, h.2⟩)); have HU3 : Hid (U32s (New wr.drew w3) w3 (.slice am nl cm) (ofI t.1).mag) := hid (HU1.out.to (Kept.ext hx3 (fun _ h => h.2)) (fun k h => ⟨h.1, Nat.lt_of_lt_of_le h.2 hx3.size⟩)); clear hx3 hown hg hp3; have HXW3 : Hid (Ext w w3) := hid (HX0.out.trans HXR3.out); have S3 : _ ∧ _ ∧ _ := And.intro (HXW3.out.cell HC0.out.1) (And.intro (HXW3.out.cell HC0.out.2.1) (HXW3.out.cell HC0.out.2.2)); have HW3 := hid (own_ext (own_ext HWR.out HXR3.out) (Ext.alloc (Ext.refl w3) (.cells #[.bool ng, .slice am nl cm, .slice a3 nm c3] 72))); have HXS3 := hid (newOff_ext HXSR.out HXR3.out); have HSRC3 := hid (src_one w3 #[.bool ng, .slice am nl cm, .slice a3 nm c3] 72 (three_cell rfl rfl rfl) rfl); have HB5 := hid (Nat.le_trans HXW3.out.size (World.grownBy_alloc w3 (.cells #[.bool ng, .slice am nl cm, .slice a3 nm c3] 72) none).size))
          | (refine step_append_src rfl (.tmp 18) (.tmp 23) 70 rfl wr.heap.size 82 i0 (.agg #[.int .i64 0, .int .i64 0]) 2 16 Try.underlying70 hi hz0 hz1 hz2 rfl (Nat.succ_pos _) (.slice (some ⟨wr.heap.size, 0, none⟩) 0 0) 0 [] rfl HOB.out ao nm co (flatP t.2) rfl HSRC1.out HB1.out HB2.out HBS.out ?_; intro v3 w3 hown hg _; obtain ⟨a3, c3, rfl, hp3⟩ := copy_done (w1 := wr.drew) hown HNM.out HIB.out; have HXR3 : Hid (Ext wr.drew w3) := hid (copy_late HXR1.out hg); have HP3 : Hid (Pows (New wr.drew w3) w3 (.slice a3 nm c3) t.2) := hid hp3; have HU3 : Hid (U32s (New wr.drew w3) w3 (.slice am nl cm) (ofI t.1).mag) := hid (late_u32s HU1.out hg); clear HXR1 hown hg hp3; have HXW3 : Hid (Ext w w3) := hid (HX0.out.trans HXR3.out); have S3 : _ ∧ _ ∧ _ := And.intro (HXW3.out.cell HC0.out.1) (And.intro (HXW3.out.cell HC0.out.2.1) (HXW3.out.cell HC0.out.2.2)); have HW3 := hid (own_ext (own_ext HWR.out HXR3.out) (Ext.alloc (Ext.refl w3) (.cells #[.bool ng, .slice am nl cm, .slice a3 nm c3] 72))); have HXS3 := hid (newOff_ext HXSR.out HXR3.out); have HSRC3 := hid (src_one w3 #[.bool ng, .slice am nl cm, .slice a3 nm c3] 72 (three_cell rfl rfl rfl) rfl); have HB5 := hid (Nat.le_trans HXW3.out.size (World.grownBy_alloc w3 (.cells #[.bool ng, .slice am nl cm, .slice a3 nm c3] 72) none).size))
          | (refine step_append_src rfl (.tmp 11) (.tmp 26) 23 rfl w.heap.size 72 j0 (.agg #[.bool false, .slice none 0 0, .slice none 0 0]) 3 56 Try.underlying23 hj jz0 jz1 jz2 rfl (Nat.succ_pos _) _ k xs rfl HW3.out (some ⟨w3.heap.size, 0, none⟩) 1 1 _ rfl HSRC3.out HB3.out HB4.out HB5.out ?_; intro v5 w5 hown hg hbk; have HW5 := hid hown; have HG5 := hid hg; have HBK := hid hbk; have HX5 := hid (own_grown0 (HXW3.out.alloc (.cells #[.bool ng, .slice am nl cm, .slice a3 nm c3] 72)) HW3.out hg); have S5 : _ ∧ _ ∧ _ := And.intro (HX5.out.cell HC0.out.1) (And.intro (HX5.out.cell HC0.out.2.1) (HX5.out.cell HC0.out.2.2)); clear hown hg hbk))
      all_goals
        go_wp2
        go_roundw
        case rel =>
          refine ⟨k + 1, xs ++ (#[.bool ng, .slice am nl cm, .slice a3 nm c3] : Array Value).toList, by omega, by go_num, HX5.out, HW5, hid ?_⟩
          rw [HT.out]
          have hone : CellsT (New wr.drew w3) w3 (#[.bool ng, .slice am nl cm, .slice a3 nm c3] : Array Value).toList [⟨ofI t.1, t.2⟩] := by
            rw [HNG.out]
            exact CellsT.single (t := ⟨ofI t.1, t.2⟩) HU3.out HP3.out
          have hall := HXS3.out.append (newOff_of HX0.out.size HWR.out hone)
          exact newOff_grown (newOff_ext hall (Ext.alloc (Ext.refl w3) (.cells #[.bool ng, .slice am nl cm, .slice a3 nm c3] 72))) HG5.out HBK.out (Nat.le_refl _)
        case measure => simp only [intOf]; omega
    · obtain rfl : k = p.length := by omega
      have HE : Hid (p.take p.length = p) := hid List.take_length
      clear hx
      go_wp2
      go_ret
      refine ⟨_, rfl, ?_, HX.out⟩
      have hc := HXS.out
      rw [HE.out] at hc
      exact own_terms (by rw [ofP_length]; exact HW.out) (hc.to (Kept.refl _ _) (fun _ h => h.1)) (fun k h1 h2 => ⟨h1, h2⟩)
end Go.Proofs.Ythplgldclilccaa
